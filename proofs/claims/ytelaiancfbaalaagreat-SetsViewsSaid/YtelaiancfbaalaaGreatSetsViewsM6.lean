/- SetsViews returns true for every input, and leaves it as it was: no condition. -/
import Derived.Test.YtelaiancfbaalaaGreatSetsViewsM5
import Derived.ProofKit
import Derived.HandedShaped
import Derived.OpenShut
import Derived.Carry
import Derived.Deep.Slices
import Derived.Test.YtelaiancfbaalaaGreatRows
set_option linter.unusedVariables false
set_option linter.unusedSimpArgs false
namespace Go.V.L6
open Go.Proofs Go.RowKit Go.V Go.V.L2 Go.V.L3
abbrev R6 (l : List U) (e : Int) : Value → Heap → Prop := TupS [US l false, fun v _ => v = .int .i64 e]
theorem R6.mono {l : List U} {e : Int} : Kn.mono (.sat (R6 l e)) := LE2.mono SlV.mono
theorem some_out {l : List U} (hs : Sst cmpT l) (x : U) : someT l [x] true false false = l.filter fun z => decide (z ≠ x) := by
  refine sst_ext cmpT_ord (sst_sortS cmpT_ord Sst.nil) (hs.sublist List.filter_sublist) fun z => ?_
  unfold someT sortT
  rw [mem_sortS, List.mem_filter, List.mem_filter]
  unfold pickT
  simp only [List.mem_append, List.mem_singleton, List.not_mem_nil, false_or, Bool.and_true, Bool.and_false, Bool.or_false, Bool.and_eq_true, decide_eq_true_eq, Bool.not_eq_true', decide_eq_false_iff_not, ne_eq]
  constructor
  · rintro ⟨_, h1, h2⟩; exact ⟨h1, h2⟩
  · rintro ⟨h1, h2⟩; exact ⟨.inl h1, h1, h2⟩
theorem some_in {l : List U} (hs : Sst cmpT l) {x : U} (hx : x ∉ l) : someT l [x] true true true = insS cmpT x l := by
  refine sst_ext cmpT_ord (sst_sortS cmpT_ord Sst.nil) (sst_insS cmpT_ord hs hx) fun z => ?_
  unfold someT sortT
  rw [mem_sortS, List.mem_filter, mem_insS]
  unfold pickT
  simp only [List.mem_append, List.mem_singleton, List.not_mem_nil, false_or, Bool.and_true, Bool.or_eq_true, Bool.and_eq_true, decide_eq_true_eq, Bool.not_eq_true', decide_eq_false_iff_not]
  constructor
  · rintro ⟨h, _⟩; exact h.symm
  · rintro (rfl | h)
    · exact ⟨.inr rfl, .inr ⟨hx, rfl⟩⟩
    · refine ⟨.inl h, .inl (.inl ⟨h, fun e => ?_⟩)⟩
      subst e; exact hx h
theorem tE_two (t : U) : tE t = 0 ∨ tE t = 6 := by
  unfold tE
  split
  · exact subjE_two _ _ _
  · rename_i h; exact .inr ((allE_two _).resolve_left h)
theorem withU_mem {l : List U} {x z : U} {d : Bool} (h : z ∈ (withU l x d).1) : z ∈ l ∨ z = x := by
  unfold withU at h
  split at h
  · split at h
    · exact .inl (List.mem_filter.1 h).1
    · split at h
      · exact .inl h
      · split at h
        · cases h
        · exact (mem_insS.1 h).symm
  · cases h
attribute [local irreducible] V N X VO Par StepOK Has Ret RetL RetO RetT Src
set_option maxHeartbeats 1000000 in
theorem rwith_ret {l m : List U} {x : U} {d fu : Bool} {e : Int} (hr : withU l x d = (m, e)) (hs : Sst cmpT l) (hl : l.length ≤ 90000) (hz : TZ x) (zl : ∀ t ∈ l, TZ t) {v : Value} {w : World} {B : Heap} (hB : B.Le (hp w)) (hv : US l fu v B) :
    Ret Tryz.prog 23 [v, chv x d] w B (R6 m e) := by
  have z1 : ∀ t ∈ [x], TZ t := fun t ht => by rw [List.mem_singleton] at ht; subst ht; exact hz
  have zx1 : ([x] : List U).length ≤ 100000 := show 1 ≤ 100000 by decide
  have key : ∀ {a b c : Bool} (u : World) (H : Heap) (v1 v2 : Value), H.Le (hp u) → US l fu v1 H → SlB (ucs x) tyU 1 v2 H → (a = true ∧ b = false ∧ c = false ∨ a = true ∧ b = true ∧ c = true) → Ret Tryz.prog 52 [v1, v2, .bool a, .bool b, .bool c] u H (US (someT l [x] a b c) false) := by
    rintro a b c u H v1 v2 hH h1 h2 (⟨rfl, rfl, rfl⟩ | ⟨rfl, rfl, rfl⟩)
    · exact rsome_tff (y := [x]) (by omega) zx1 zl z1 hH h1 (h2.toV rfl)
    · exact rsome_ttt (y := [x]) (by omega) zx1 zl z1 hH h1 (h2.toV rfl)
  refine qx Tryz.func23 rfl Tryz.ntmps23 (Nat.le_of_ble_eq_true rfl) hB ?_
  refine V_seen 0 (US l fu) rfl SlV.mono hv ?_
  unfold withU at hr
  by_cases he : tE x = 0
  · rw [if_pos he] at hr
    cases d
    · rw [if_neg (by decide)] at hr
      by_cases hx : x ∈ l
      · rw [if_pos hx] at hr
        cases hr
        have hin : (if x ∈ l then 1 else 0 : Int) = 1 := if_pos hx
        refine zg ?_; refine z8 (id := 0) ?_; refine z7 (qf rfl rfl rfl rfl) rfl ?_; refine z7 (zi rfl rfl rfl) rfl ?_; refine z7 (zi rfl rfl rfl) rfl ?_; refine zh ?_; refine zj ?_; refine zg ?_; refine zg ?_; refine z8 (id := 1) ?_; refine z7 (zk L rfl rfl rfl rfl) rfl ?_; refine z7 (zz L (vs := [_, _, _, _, _, _]) (zq rfl) rfl rfl rfl rfl ⟨_, rfl⟩) rfl ?_; refine z7 (q6 L rfl rfl (zm rfl) rfl rfl rfl (fun u H hH _ _ => he ▸ rtcheck_ret hz hH)) rfl ?_; refine z7 (yb rfl rfl rfl rfl (decide_eq_false (by omega))) rfl ?_; refine zh ?_; refine zj ?_; refine q8 rfl ?_; refine q9 ?_; refine zj ?_; refine zg ?_; refine zg ?_; refine z8 (id := 3) ?_; refine z7 (zk L rfl rfl rfl rfl) rfl ?_; refine z7 (zo L (zq rfl) rfl rfl rfl rfl) rfl ?_; refine zh ?_; refine zj ?_; refine q8 rfl ?_; refine q9 ?_; refine zj ?_; refine zg ?_; refine zg ?_; refine z8 (id := 5) ?_; refine z7 (q7 rfl rfl rfl) rfl ?_; refine z7 (zk L rfl rfl rfl rfl) rfl ?_; refine z7 (zz L (vs := [_, _, _, _, _, _]) (zq rfl) rfl rfl rfl rfl ⟨_, rfl⟩) rfl ?_; refine z7 (q6 L rfl rfl (zm rfl) rfl rfl rfl (fun u H hH _ _ v1 h1 => rin_ret (by omega) hin hH h1)) rfl ?_; refine z7 (qp rfl rfl rfl rfl (decide_eq_true (by omega))) rfl ?_; refine zh ?_; refine zj ?_; refine qa rfl ?_; refine zg ?_; refine z8 (id := 6) ?_; refine z7 (q7 rfl rfl rfl) rfl ?_; refine z7 (qz rfl rfl rfl) rfl ?_; refine z7 (zi rfl rfl rfl) rfl ?_; refine zh ?_; refine zj ?_
        refine qi L (rs := [.tmp 4, .tmp 5]) rfl (fun _ _ h => h) Since.refl fun u H hH hle => ?_
        exact fun v hv => LE2.mk hv.nofu
      · rw [if_neg hx] at hr
        have hin : (if x ∈ l then 1 else 0 : Int) = 0 := if_neg hx
        by_cases hf : l.length ≥ 4096
        · rw [if_pos hf] at hr
          cases hr
          refine zg ?_; refine z8 (id := 0) ?_; refine z7 (qf rfl rfl rfl rfl) rfl ?_; refine z7 (zi rfl rfl rfl) rfl ?_; refine z7 (zi rfl rfl rfl) rfl ?_; refine zh ?_; refine zj ?_; refine zg ?_; refine zg ?_; refine z8 (id := 1) ?_; refine z7 (zk L rfl rfl rfl rfl) rfl ?_; refine z7 (zz L (vs := [_, _, _, _, _, _]) (zq rfl) rfl rfl rfl rfl ⟨_, rfl⟩) rfl ?_; refine z7 (q6 L rfl rfl (zm rfl) rfl rfl rfl (fun u H hH _ _ => he ▸ rtcheck_ret hz hH)) rfl ?_; refine z7 (yb rfl rfl rfl rfl (decide_eq_false (by omega))) rfl ?_; refine zh ?_; refine zj ?_; refine q8 rfl ?_; refine q9 ?_; refine zj ?_; refine zg ?_; refine zg ?_; refine z8 (id := 3) ?_; refine z7 (zk L rfl rfl rfl rfl) rfl ?_; refine z7 (zo L (zq rfl) rfl rfl rfl rfl) rfl ?_; refine zh ?_; refine zj ?_; refine q8 rfl ?_; refine q9 ?_; refine zj ?_; refine zg ?_; refine zg ?_; refine z8 (id := 5) ?_; refine z7 (q7 rfl rfl rfl) rfl ?_; refine z7 (zk L rfl rfl rfl rfl) rfl ?_; refine z7 (zz L (vs := [_, _, _, _, _, _]) (zq rfl) rfl rfl rfl rfl ⟨_, rfl⟩) rfl ?_; refine z7 (q6 L rfl rfl (zm rfl) rfl rfl rfl (fun u H hH _ _ v1 h1 => rin_ret (by omega) hin hH h1)) rfl ?_; refine z7 (qp rfl rfl rfl rfl (decide_eq_false (by omega))) rfl ?_; refine zh ?_; refine zj ?_; refine q8 rfl ?_; refine q9 ?_; refine zj ?_; refine zg ?_; refine zg ?_; refine z8 (id := 7) ?_; refine z7 (q7 rfl rfl rfl) rfl ?_; refine z7 (yc L rfl rfl rfl rfl) rfl ?_; refine z7 (ok_geq rfl rfl rfl rfl (decide_eq_true (by omega))) rfl ?_; refine zh ?_; refine zj ?_; refine qa rfl ?_; refine zg ?_; refine z8 (id := 8) ?_; refine z7 (zi rfl rfl rfl) rfl ?_; refine z7 (zi rfl rfl rfl) rfl ?_; refine zh ?_; refine zj ?_
          refine qi L (rs := [.tmp 4, .tmp 5]) rfl (fun _ _ h => h) Since.refl fun u H hH hle => ?_
          exact LE2.mk SlV.nil
        · rw [if_neg hf] at hr
          cases hr
          rw [← some_in hs hx]
          refine zg ?_; refine z8 (id := 0) ?_; refine z7 (qf rfl rfl rfl rfl) rfl ?_; refine z7 (zi rfl rfl rfl) rfl ?_; refine z7 (zi rfl rfl rfl) rfl ?_; refine zh ?_; refine zj ?_; refine zg ?_; refine zg ?_; refine z8 (id := 1) ?_; refine z7 (zk L rfl rfl rfl rfl) rfl ?_; refine z7 (zz L (vs := [_, _, _, _, _, _]) (zq rfl) rfl rfl rfl rfl ⟨_, rfl⟩) rfl ?_; refine z7 (q6 L rfl rfl (zm rfl) rfl rfl rfl (fun u H hH _ _ => he ▸ rtcheck_ret hz hH)) rfl ?_; refine z7 (yb rfl rfl rfl rfl (decide_eq_false (by omega))) rfl ?_; refine zh ?_; refine zj ?_; refine q8 rfl ?_; refine q9 ?_; refine zj ?_; refine zg ?_; refine zg ?_; refine z8 (id := 3) ?_; refine z7 (zk L rfl rfl rfl rfl) rfl ?_; refine z7 (zo L (zq rfl) rfl rfl rfl rfl) rfl ?_; refine zh ?_; refine zj ?_; refine q8 rfl ?_; refine q9 ?_; refine zj ?_; refine zg ?_; refine zg ?_; refine z8 (id := 5) ?_; refine z7 (q7 rfl rfl rfl) rfl ?_; refine z7 (zk L rfl rfl rfl rfl) rfl ?_; refine z7 (zz L (vs := [_, _, _, _, _, _]) (zq rfl) rfl rfl rfl rfl ⟨_, rfl⟩) rfl ?_; refine z7 (q6 L rfl rfl (zm rfl) rfl rfl rfl (fun u H hH _ _ v1 h1 => rin_ret (by omega) hin hH h1)) rfl ?_; refine z7 (qp rfl rfl rfl rfl (decide_eq_false (by omega))) rfl ?_; refine zh ?_; refine zj ?_; refine q8 rfl ?_; refine q9 ?_; refine zj ?_; refine zg ?_; refine zg ?_; refine z8 (id := 7) ?_; refine z7 (q7 rfl rfl rfl) rfl ?_; refine z7 (yc L rfl rfl rfl rfl) rfl ?_; refine z7 (ok_geq rfl rfl rfl rfl (decide_eq_false (by omega))) rfl ?_; refine zh ?_; refine zj ?_; refine q8 rfl ?_; refine q9 ?_; refine zj ?_; refine zg ?_; refine z8 (id := 9) ?_; refine z7 (q7 rfl rfl rfl) rfl ?_; refine z7 (zk L rfl rfl rfl rfl) rfl ?_; refine z7 (zz L (vs := [_, _, _, _, _, _]) (zq rfl) rfl rfl rfl rfl ⟨_, rfl⟩) rfl ?_; refine z7 (qw L rfl rfl rfl rfl rfl rfl rfl rfl rfl) rfl ?_; refine z7 (ya (φ := US (someT l [x] true true true) false) L rfl rfl (zm rfl) rfl rfl rfl SlV.mono (fun u H hH _ _ v1 h1 v2 h2 => key u H v1 v2 hH h1 h2 (.inr ⟨rfl, rfl, rfl⟩))) rfl ?_; refine z7 (qz rfl rfl rfl) rfl ?_; refine z7 (zi rfl rfl rfl) rfl ?_; refine zh ?_; refine zj ?_
          refine qi L (rs := [.tmp 4, .tmp 5]) rfl (fun _ _ h => h) Since.refl fun u H hH hle => ?_
          exact fun v hv => LE2.mk hv
    · rw [if_pos rfl] at hr
      cases hr
      rw [← some_out hs x]
      refine zg ?_; refine z8 (id := 0) ?_; refine z7 (qf rfl rfl rfl rfl) rfl ?_; refine z7 (zi rfl rfl rfl) rfl ?_; refine z7 (zi rfl rfl rfl) rfl ?_; refine zh ?_; refine zj ?_; refine zg ?_; refine zg ?_; refine z8 (id := 1) ?_; refine z7 (zk L rfl rfl rfl rfl) rfl ?_; refine z7 (zz L (vs := [_, _, _, _, _, _]) (zq rfl) rfl rfl rfl rfl ⟨_, rfl⟩) rfl ?_; refine z7 (q6 L rfl rfl (zm rfl) rfl rfl rfl (fun u H hH _ _ => he ▸ rtcheck_ret hz hH)) rfl ?_; refine z7 (yb rfl rfl rfl rfl (decide_eq_false (by omega))) rfl ?_; refine zh ?_; refine zj ?_; refine q8 rfl ?_; refine q9 ?_; refine zj ?_; refine zg ?_; refine zg ?_; refine z8 (id := 3) ?_; refine z7 (zk L rfl rfl rfl rfl) rfl ?_; refine z7 (zo L (zq rfl) rfl rfl rfl rfl) rfl ?_; refine zh ?_; refine zj ?_; refine qa rfl ?_; refine zg ?_; refine z8 (id := 4) ?_; refine z7 (q7 rfl rfl rfl) rfl ?_; refine z7 (zk L rfl rfl rfl rfl) rfl ?_; refine z7 (zz L (vs := [_, _, _, _, _, _]) (zq rfl) rfl rfl rfl rfl ⟨_, rfl⟩) rfl ?_; refine z7 (qw L rfl rfl rfl rfl rfl rfl rfl rfl rfl) rfl ?_; refine z7 (ya (φ := US (someT l [x] true false false) false) L rfl rfl (zm rfl) rfl rfl rfl SlV.mono (fun u H hH _ _ v1 h1 v2 h2 => key u H v1 v2 hH h1 h2 (.inl ⟨rfl, rfl, rfl⟩))) rfl ?_; refine z7 (qz rfl rfl rfl) rfl ?_; refine z7 (zi rfl rfl rfl) rfl ?_; refine zh ?_; refine zj ?_
      refine qi L (rs := [.tmp 4, .tmp 5]) rfl (fun _ _ h => h) Since.refl fun u H hH hle => ?_
      exact fun v hv => LE2.mk hv
  · have h6 := (tE_two x).resolve_left he
    rw [if_neg he, h6] at hr
    cases hr
    refine zg ?_; refine z8 (id := 0) ?_; refine z7 (qf rfl rfl rfl rfl) rfl ?_; refine z7 (zi rfl rfl rfl) rfl ?_; refine z7 (zi rfl rfl rfl) rfl ?_; refine zh ?_; refine zj ?_; refine zg ?_; refine zg ?_; refine z8 (id := 1) ?_; refine z7 (zk L rfl rfl rfl rfl) rfl ?_; refine z7 (zz L (vs := [_, _, _, _, _, _]) (zq rfl) rfl rfl rfl rfl ⟨_, rfl⟩) rfl ?_; refine z7 (q6 L rfl rfl (zm rfl) rfl rfl rfl (fun u H hH _ _ => h6 ▸ rtcheck_ret hz hH)) rfl ?_; refine z7 (yb rfl rfl rfl rfl (decide_eq_true (by omega))) rfl ?_; refine zh ?_; refine zj ?_; refine qa rfl ?_; refine zg ?_; refine z8 (id := 2) ?_; refine z7 (zi rfl rfl rfl) rfl ?_; refine z7 (zi rfl rfl rfl) rfl ?_; refine zh ?_; refine zj ?_
    refine qi L (rs := [.tmp 4, .tmp 5]) rfl (fun _ _ h => h) Since.refl fun u H hH hle => ?_
    exact LE2.mk SlV.nil
theorem rgoal6_ret {l M : List U} {g : Str3} {fu : Bool} (hM : goalL l g = M) (hl : l.length ≤ 90000) {v : Value} {w : World} {B : Heap} (hB : B.Le (hp w)) (hv : US l fu v B) : Ret Tryz.prog 17 [v, g3v g] w B (US M false) := by
  refine qx Tryz.func17 rfl Tryz.ntmps17 (Nat.le_of_ble_eq_true rfl) hB ?_
  refine V_seen 0 (US l fu) rfl SlV.mono hv ?_
  refine zg ?_; refine z8 (id := 0) ?_; refine z7 (qf rfl rfl rfl rfl) rfl ?_; refine z7 (zi rfl rfl rfl) rfl ?_; refine zh ?_; refine zj ?_; refine zg ?_; refine z8 (id := 1) ?_; refine z7 (zi rfl rfl rfl) rfl ?_; refine zh ?_; refine zj ?_; refine zg ?_; refine zg ?_
  refine V_nilR 5 tyU 6 rfl ?_
  refine z8 (id := 2) ?_; refine z7 (zi rfl rfl rfl) rfl ?_; refine zh ?_; refine zj ?_; refine qd ?_
  refine V_loop (fun y : Nat × List U => [(0, .sat (US l fu)), (3, .sat (At [.string g.1.1, .string g.1.2, .string g.2] 47 0)), (5, .own (SlR tyU 6 y.2.length (y.2.flatMap ucs))), (6, .is (.int .i64 y.1))])
    (fun y => y.1 ≤ l.length ∧ y.2 = (l.take y.1).filter fun z => decide (z.1 = g)) (fun y => l.length - y.1) (0, []) ⟨Nat.zero_le _, rfl⟩ ⟨rfl, rfl, rfl, rfl, trivial⟩ ?_
  rintro ⟨k, out⟩ ⟨hk, hout⟩
  dsimp only at hk hout ⊢
  have hol : out.length ≤ k := by rw [hout]; exact Nat.le_trans (List.length_filter_le ..) (by rw [List.length_take]; omega)
  by_cases hlt : k < l.length
  · obtain ⟨t, ht⟩ := get_some hlt
    have hc := us_at ht
    have hf := filter_snoc ht hout
    by_cases hg : t.1 = g
    · have hq := eq3 (decide_eq_true hg)
      rw [if_pos (by simpa using hg)] at hf
      refine zg ?_; refine zg ?_; refine z8 (id := 3) ?_; refine z7 (zf rfl rfl rfl) rfl ?_; refine z7 (q7 rfl rfl rfl) rfl ?_; refine z7 (yc L rfl rfl rfl rfl) rfl ?_; refine z7 (qe rfl rfl rfl rfl (decide_eq_true (by omega))) rfl ?_; refine zh ?_; refine zj ?_; refine qa rfl ?_; refine q9 ?_; refine zj ?_; refine zg ?_; refine qd ?_; refine zg ?_; refine qj (id := 5) [] mixed (by kernel_rfl) ?_; refine zd (q7 rfl rfl rfl) rfl ?_; refine zd (zf rfl rfl rfl) rfl ?_; refine zd (qo L _ rfl rfl rfl rfl rfl rfl rfl (by first | omega | decide) (by assumption)) rfl ?_; refine zd (ok_fieldAP L rfl rfl rfl rfl) rfl ?_; refine zd (qt L (vs := [_, _, _]) rfl rfl rfl rfl rfl ⟨_, rfl⟩) rfl ?_; refine zd (zz L (vs := [_, _, _]) (zq rfl) rfl rfl rfl rfl ⟨_, rfl⟩) rfl ?_; refine zd (ok_aeql rfl rfl rfl rfl eq47 (by assumption) rfl) rfl ?_; refine qq ?_; refine zj ?_; refine qa rfl ?_; refine z8 (id := 6) ?_; refine qn (y9 (.inl rfl) rfl rfl rfl rfl) ?_; refine z7 (q7 rfl rfl rfl) rfl ?_; refine z7 (zf rfl rfl rfl) rfl ?_; refine z7 (qo L _ rfl rfl rfl rfl rfl rfl rfl (by first | omega | decide) (by assumption)) rfl ?_; refine z7 (qt L (vs := [_, _, _, _, _, _]) rfl rfl rfl rfl rfl ⟨_, rfl⟩) rfl ?_; refine z7 (qw L rfl rfl rfl rfl rfl rfl rfl rfl rfl) rfl ?_; refine qn (ok_append L rfl rfl rfl (apd_B rfl) rfl el50 rfl rfl (by omega) (by omega)) ?_; refine qn (y9 (.inr rfl) rfl rfl rfl rfl) ?_; refine zh ?_; refine qr ?_; refine zj ?_; refine z8 (id := 4) ?_; refine z7 (zf rfl rfl rfl) rfl ?_; refine z7 (qy rfl rfl rfl rfl (wrap_i64 (by omega) (by omega))) rfl ?_; refine z7 (zi rfl rfl rfl) rfl ?_; refine zh ?_
      exact y7 (x := (k, out)) (k + 1, out ++ [t]) ⟨hlt, hf.symm⟩ (by dsimp only; omega) ⟨rfl, rfl, ups_snoc rfl, rfl, trivial⟩
    · have hq := eq3 (decide_eq_false hg)
      rw [if_neg (by simpa using hg)] at hf
      refine zg ?_; refine zg ?_; refine z8 (id := 3) ?_; refine z7 (zf rfl rfl rfl) rfl ?_; refine z7 (q7 rfl rfl rfl) rfl ?_; refine z7 (yc L rfl rfl rfl rfl) rfl ?_; refine z7 (qe rfl rfl rfl rfl (decide_eq_true (by omega))) rfl ?_; refine zh ?_; refine zj ?_; refine qa rfl ?_; refine q9 ?_; refine zj ?_; refine zg ?_; refine qd ?_; refine zg ?_; refine qj (id := 5) [] mixed (by kernel_rfl) ?_; refine zd (q7 rfl rfl rfl) rfl ?_; refine zd (zf rfl rfl rfl) rfl ?_; refine zd (qo L _ rfl rfl rfl rfl rfl rfl rfl (by first | omega | decide) (by assumption)) rfl ?_; refine zd (ok_fieldAP L rfl rfl rfl rfl) rfl ?_; refine zd (qt L (vs := [_, _, _]) rfl rfl rfl rfl rfl ⟨_, rfl⟩) rfl ?_; refine zd (zz L (vs := [_, _, _]) (zq rfl) rfl rfl rfl rfl ⟨_, rfl⟩) rfl ?_; refine zd (ok_aeql rfl rfl rfl rfl eq47 (by assumption) rfl) rfl ?_; refine qq ?_; refine zj ?_; refine q8 rfl ?_; refine q9 ?_; refine qr ?_; refine zj ?_; refine z8 (id := 4) ?_; refine z7 (zf rfl rfl rfl) rfl ?_; refine z7 (qy rfl rfl rfl rfl (wrap_i64 (by omega) (by omega))) rfl ?_; refine z7 (zi rfl rfl rfl) rfl ?_; refine zh ?_
      exact y7 (x := (k, out)) (k + 1, out) ⟨hlt, hf.symm⟩ (by dsimp only; omega) ⟨rfl, rfl, rfl, rfl, trivial⟩
  · obtain rfl : k = l.length := by omega
    rw [List.take_length] at hout
    have ho : out = M := hout.trans hM
    subst ho
    refine zg ?_; refine zg ?_; refine z8 (id := 3) ?_; refine z7 (zf rfl rfl rfl) rfl ?_; refine z7 (q7 rfl rfl rfl) rfl ?_; refine z7 (yc L rfl rfl rfl rfl) rfl ?_; refine z7 (qe rfl rfl rfl rfl (decide_eq_false (by omega))) rfl ?_; refine zh ?_; refine zj ?_; refine q8 rfl ?_; refine yi ?_; refine qu ?_; refine qu ?_; refine yh ?_; refine zj ?_; refine zg ?_; refine z8 (id := 7) ?_; refine qn (y9 (.inl rfl) rfl rfl rfl rfl) ?_; refine qn (y9 (.inr rfl) rfl rfl rfl rfl) ?_; refine zh ?_; refine zj ?_
    refine V_pubR 4 rfl ?_
    refine qi L (rs := [.tmp 4]) rfl (fun _ _ h => h) Since.refl fun u H hH hle => ?_
    exact fun v hv => hv
theorem rsub6_ret {l M : List U} {g : Str3} {fu : Bool} (hM : subL l g = M) (hl : l.length ≤ 90000) {v : Value} {w : World} {B : Heap} (hB : B.Le (hp w)) (hv : US l fu v B) : Ret Tryz.prog 18 [v, g3v g] w B (US M false) := by
  refine qx Tryz.func18 rfl Tryz.ntmps18 (Nat.le_of_ble_eq_true rfl) hB ?_
  refine V_seen 0 (US l fu) rfl SlV.mono hv ?_
  refine zg ?_; refine z8 (id := 0) ?_; refine z7 (qf rfl rfl rfl rfl) rfl ?_; refine z7 (zi rfl rfl rfl) rfl ?_; refine zh ?_; refine zj ?_; refine zg ?_; refine z8 (id := 1) ?_; refine z7 (zi rfl rfl rfl) rfl ?_; refine zh ?_; refine zj ?_; refine zg ?_; refine zg ?_
  refine V_nilR 5 tyU 6 rfl ?_
  refine z8 (id := 2) ?_; refine z7 (zi rfl rfl rfl) rfl ?_; refine zh ?_; refine zj ?_; refine qd ?_
  refine V_loop (fun y : Nat × List U => [(0, .sat (US l fu)), (3, .sat (At [.string g.1.1, .string g.1.2, .string g.2] 48 0)), (5, .own (SlR tyU 6 y.2.length (y.2.flatMap ucs))), (6, .is (.int .i64 y.1))])
    (fun y => y.1 ≤ l.length ∧ y.2 = (l.take y.1).filter fun z => decide (z.2 = g)) (fun y => l.length - y.1) (0, []) ⟨Nat.zero_le _, rfl⟩ ⟨rfl, rfl, rfl, rfl, trivial⟩ ?_
  rintro ⟨k, out⟩ ⟨hk, hout⟩
  dsimp only at hk hout ⊢
  have hol : out.length ≤ k := by rw [hout]; exact Nat.le_trans (List.length_filter_le ..) (by rw [List.length_take]; omega)
  by_cases hlt : k < l.length
  · obtain ⟨t, ht⟩ := get_some hlt
    have hc := us_at ht
    have hf := filter_snoc ht hout
    by_cases hg : t.2 = g
    · have hq := eq3 (decide_eq_true hg)
      rw [if_pos (by simpa using hg)] at hf
      refine zg ?_; refine zg ?_; refine z8 (id := 3) ?_; refine z7 (zf rfl rfl rfl) rfl ?_; refine z7 (q7 rfl rfl rfl) rfl ?_; refine z7 (yc L rfl rfl rfl rfl) rfl ?_; refine z7 (qe rfl rfl rfl rfl (decide_eq_true (by omega))) rfl ?_; refine zh ?_; refine zj ?_; refine qa rfl ?_; refine q9 ?_; refine zj ?_; refine zg ?_; refine qd ?_; refine zg ?_; refine qj (id := 5) [] mixed (by kernel_rfl) ?_; refine zd (q7 rfl rfl rfl) rfl ?_; refine zd (zf rfl rfl rfl) rfl ?_; refine zd (qo L _ rfl rfl rfl rfl rfl rfl rfl (by first | omega | decide) (by assumption)) rfl ?_; refine zd (ok_fieldAP L rfl rfl rfl rfl) rfl ?_; refine zd (qt L (vs := [_, _, _]) rfl rfl rfl rfl rfl ⟨_, rfl⟩) rfl ?_; refine zd (zz L (vs := [_, _, _]) (zq rfl) rfl rfl rfl rfl ⟨_, rfl⟩) rfl ?_; refine zd (ok_aeql rfl rfl rfl rfl eq48 (by assumption) rfl) rfl ?_; refine qq ?_; refine zj ?_; refine qa rfl ?_; refine z8 (id := 6) ?_; refine qn (y9 (.inl rfl) rfl rfl rfl rfl) ?_; refine z7 (q7 rfl rfl rfl) rfl ?_; refine z7 (zf rfl rfl rfl) rfl ?_; refine z7 (qo L _ rfl rfl rfl rfl rfl rfl rfl (by first | omega | decide) (by assumption)) rfl ?_; refine z7 (qt L (vs := [_, _, _, _, _, _]) rfl rfl rfl rfl rfl ⟨_, rfl⟩) rfl ?_; refine z7 (qw L rfl rfl rfl rfl rfl rfl rfl rfl rfl) rfl ?_; refine qn (ok_append L rfl rfl rfl (apd_B rfl) rfl el50 rfl rfl (by omega) (by omega)) ?_; refine qn (y9 (.inr rfl) rfl rfl rfl rfl) ?_; refine zh ?_; refine qr ?_; refine zj ?_; refine z8 (id := 4) ?_; refine z7 (zf rfl rfl rfl) rfl ?_; refine z7 (qy rfl rfl rfl rfl (wrap_i64 (by omega) (by omega))) rfl ?_; refine z7 (zi rfl rfl rfl) rfl ?_; refine zh ?_
      exact y7 (x := (k, out)) (k + 1, out ++ [t]) ⟨hlt, hf.symm⟩ (by dsimp only; omega) ⟨rfl, rfl, ups_snoc rfl, rfl, trivial⟩
    · have hq := eq3 (decide_eq_false hg)
      rw [if_neg (by simpa using hg)] at hf
      refine zg ?_; refine zg ?_; refine z8 (id := 3) ?_; refine z7 (zf rfl rfl rfl) rfl ?_; refine z7 (q7 rfl rfl rfl) rfl ?_; refine z7 (yc L rfl rfl rfl rfl) rfl ?_; refine z7 (qe rfl rfl rfl rfl (decide_eq_true (by omega))) rfl ?_; refine zh ?_; refine zj ?_; refine qa rfl ?_; refine q9 ?_; refine zj ?_; refine zg ?_; refine qd ?_; refine zg ?_; refine qj (id := 5) [] mixed (by kernel_rfl) ?_; refine zd (q7 rfl rfl rfl) rfl ?_; refine zd (zf rfl rfl rfl) rfl ?_; refine zd (qo L _ rfl rfl rfl rfl rfl rfl rfl (by first | omega | decide) (by assumption)) rfl ?_; refine zd (ok_fieldAP L rfl rfl rfl rfl) rfl ?_; refine zd (qt L (vs := [_, _, _]) rfl rfl rfl rfl rfl ⟨_, rfl⟩) rfl ?_; refine zd (zz L (vs := [_, _, _]) (zq rfl) rfl rfl rfl rfl ⟨_, rfl⟩) rfl ?_; refine zd (ok_aeql rfl rfl rfl rfl eq48 (by assumption) rfl) rfl ?_; refine qq ?_; refine zj ?_; refine q8 rfl ?_; refine q9 ?_; refine qr ?_; refine zj ?_; refine z8 (id := 4) ?_; refine z7 (zf rfl rfl rfl) rfl ?_; refine z7 (qy rfl rfl rfl rfl (wrap_i64 (by omega) (by omega))) rfl ?_; refine z7 (zi rfl rfl rfl) rfl ?_; refine zh ?_
      exact y7 (x := (k, out)) (k + 1, out) ⟨hlt, hf.symm⟩ (by dsimp only; omega) ⟨rfl, rfl, rfl, rfl, trivial⟩
  · obtain rfl : k = l.length := by omega
    rw [List.take_length] at hout
    have ho : out = M := hout.trans hM
    subst ho
    refine zg ?_; refine zg ?_; refine z8 (id := 3) ?_; refine z7 (zf rfl rfl rfl) rfl ?_; refine z7 (q7 rfl rfl rfl) rfl ?_; refine z7 (yc L rfl rfl rfl rfl) rfl ?_; refine z7 (qe rfl rfl rfl rfl (decide_eq_false (by omega))) rfl ?_; refine zh ?_; refine zj ?_; refine q8 rfl ?_; refine yi ?_; refine qu ?_; refine qu ?_; refine yh ?_; refine zj ?_; refine zg ?_; refine z8 (id := 7) ?_; refine qn (y9 (.inl rfl) rfl rfl rfl rfl) ?_; refine qn (y9 (.inr rfl) rfl rfl rfl rfl) ?_; refine zh ?_; refine zj ?_
    refine V_pubR 4 rfl ?_
    refine qi L (rs := [.tmp 4]) rfl (fun _ _ h => h) Since.refl fun u H hH hle => ?_
    exact fun v hv => hv
theorem rmatch6_ret {l M : List U} {f : FT} {fu : Bool} (hM : matE l f = M) (hl : l.length ≤ 90000) (hz : FM f) {v : Value} {w : World} {B : Heap} (hB : B.Le (hp w)) (hv : US l fu v B) : Ret Tryz.prog 19 [v, fv f] w B (US M false) := by
  unfold matE at hM
  refine qx Tryz.func19 rfl Tryz.ntmps19 (Nat.le_of_ble_eq_true rfl) hB ?_
  refine V_seen 0 (US l fu) rfl SlV.mono hv ?_
  obtain ⟨e, he⟩ : ∃ e, fE f = e := ⟨_, rfl⟩
  by_cases h0 : e = 0
  · rw [if_pos (he.trans h0)] at hM
    subst h0
    refine zg ?_; refine z8 (id := 0) ?_; refine z7 (qf rfl rfl rfl rfl) rfl ?_; refine z7 (zi rfl rfl rfl) rfl ?_; refine zh ?_; refine zj ?_; refine zg ?_; refine zg ?_; refine z8 (id := 1) ?_; refine z7 (zz L (vs := [_, _, _, _, _, _, _]) (zq rfl) rfl rfl rfl rfl ⟨_, rfl⟩) rfl ?_; refine z7 (q6 L rfl rfl (zm rfl) rfl rfl rfl (fun u H hH _ _ => rfcheck_ret hz he hH)) rfl ?_; refine z7 (yb rfl rfl rfl rfl (decide_eq_false (by omega))) rfl ?_; refine zh ?_; refine zj ?_; refine q8 rfl ?_; refine q9 ?_; refine zj ?_; refine zg ?_; refine z8 (id := 3) ?_; refine z7 (q7 rfl rfl rfl) rfl ?_; refine z7 (zz L (vs := [_, _, _, _, _, _, _]) (zq rfl) rfl rfl rfl rfl ⟨_, rfl⟩) rfl ?_; refine z7 (ya (φ := US M false) L rfl rfl (zm rfl) rfl rfl rfl SlV.mono (fun u H hH _ _ v1 h1 => rselect3_ret (by omega) hM hH h1)) rfl ?_; refine z7 (qz rfl rfl rfl) rfl ?_; refine zh ?_; refine zj ?_
    refine qi L (rs := [.tmp 4]) rfl (fun _ _ h => h) Since.refl fun u H hH hle => ?_
    exact fun v hv => hv
  · rw [if_neg (by rw [he]; exact h0)] at hM
    subst hM
    refine zg ?_; refine z8 (id := 0) ?_; refine z7 (qf rfl rfl rfl rfl) rfl ?_; refine z7 (zi rfl rfl rfl) rfl ?_; refine zh ?_; refine zj ?_; refine zg ?_; refine zg ?_; refine z8 (id := 1) ?_; refine z7 (zz L (vs := [_, _, _, _, _, _, _]) (zq rfl) rfl rfl rfl rfl ⟨_, rfl⟩) rfl ?_; refine z7 (q6 L rfl rfl (zm rfl) rfl rfl rfl (fun u H hH _ _ => rfcheck_ret hz he hH)) rfl ?_; refine z7 (yb rfl rfl rfl rfl (decide_eq_true (by omega))) rfl ?_; refine zh ?_; refine zj ?_; refine qa rfl ?_; refine zg ?_; refine z8 (id := 2) ?_; refine z7 (zi rfl rfl rfl) rfl ?_; refine zh ?_; refine zj ?_
    refine qi L (rs := [.tmp 4]) rfl (fun _ _ h => h) Since.refl fun u H hH hle => ?_
    exact SlV.nil (e := tyU)
theorem rgoals6_ret {l : List U} {M : List Str3} {fu : Bool} (hM : goalsL l = M) (hl : l.length ≤ 90000) {v : Value} {w : World} {B : Heap} (hB : B.Le (hp w)) (hv : US l fu v B) : Ret Tryz.prog 15 [v] w B (G3S M false) := by
  refine qx Tryz.func15 rfl Tryz.ntmps15 (Nat.le_of_ble_eq_true rfl) hB ?_
  refine V_seen 0 (US l fu) rfl SlV.mono hv ?_
  refine zg ?_; refine z8 (id := 0) ?_; refine z7 (zi rfl rfl rfl) rfl ?_; refine zh ?_; refine zj ?_; refine zg ?_; refine z8 (id := 1) ?_; refine z7 (zi rfl rfl rfl) rfl ?_; refine zh ?_; refine zj ?_; refine zg ?_; refine zg ?_
  refine V_nilR 3 tyG3 3 rfl ?_
  refine z8 (id := 2) ?_; refine z7 (zi rfl rfl rfl) rfl ?_; refine zh ?_; refine zj ?_; refine qd ?_
  refine V_loop (fun y : Nat × List Str3 => [(0, .sat (US l fu)), (3, .own (SlR tyG3 3 y.2.length (y.2.flatMap gcs3))), (4, .is (.int .i64 y.1))])
    (fun y => y.1 ≤ l.length ∧ y.2 = dd ((l.take y.1).map (·.1))) (fun y => l.length - y.1) (0, []) ⟨Nat.zero_le _, rfl⟩ ⟨rfl, rfl, rfl, trivial⟩ ?_
  rintro ⟨k, out⟩ ⟨hk, hout⟩
  dsimp only at hk hout ⊢
  have hol : out.length ≤ k := by rw [hout]; exact Nat.le_trans (dd_length _) (by rw [List.length_map, List.length_take]; omega)
  by_cases hlt : k < l.length
  · obtain ⟨t, ht⟩ := get_some hlt
    have hc := us_at ht
    have htk : (l.take (k + 1)).map (·.1) = (l.take k).map (·.1) ++ [t.1] := by rw [take_s ht, List.map_append]; rfl
    by_cases h0 : k = 0
    · subst h0
      have ho : out = [] := hout
      subst ho
      refine zg ?_; refine zg ?_; refine z8 (id := 3) ?_; refine z7 (zf rfl rfl rfl) rfl ?_; refine z7 (q7 rfl rfl rfl) rfl ?_; refine z7 (yc L rfl rfl rfl rfl) rfl ?_; refine z7 (qe rfl rfl rfl rfl (decide_eq_true (by omega))) rfl ?_; refine zh ?_; refine zj ?_; refine qa rfl ?_; refine q9 ?_; refine zj ?_; refine zg ?_; refine qd ?_; refine zg ?_; refine qj (id := 5) [] mixed (by kernel_rfl) ?_; refine zd (zf rfl rfl rfl) rfl ?_; refine zd (qp rfl rfl rfl rfl (decide_eq_true (by omega))) rfl ?_; refine zd (zf rfl rfl rfl) rfl ?_; refine zd (zn rfl (zm rfl) rfl) rfl ?_; refine zd (zn rfl (zm rfl) rfl) rfl ?_; refine zd (zn rfl (zm rfl) rfl) rfl ?_; refine zd (zn rfl (zm rfl) rfl) rfl ?_; refine zd (zn rfl (zm rfl) rfl) rfl ?_; refine zd (zn rfl (zm rfl) rfl) rfl ?_; refine zd (zn rfl (zm rfl) rfl) rfl ?_; refine zd (zn rfl (zm rfl) rfl) rfl ?_; refine zd (zn rfl (zm rfl) rfl) rfl ?_; refine zd (zn rfl (zm rfl) rfl) rfl ?_; refine zd (zn rfl (zm rfl) rfl) rfl ?_; refine zd (zn rfl (zm rfl) rfl) rfl ?_; refine zd (zw rfl rfl rfl rfl) rfl ?_; refine qq ?_; refine zj ?_; refine qa rfl ?_; refine z8 (id := 6) ?_; refine qn (y9 (.inl rfl) rfl rfl rfl rfl) ?_; refine z7 (q7 rfl rfl rfl) rfl ?_; refine z7 (zf rfl rfl rfl) rfl ?_; refine z7 (qo L _ rfl rfl rfl rfl rfl rfl rfl (by first | omega | decide) (by assumption)) rfl ?_; refine z7 (ok_fieldAP L rfl rfl rfl rfl) rfl ?_; refine z7 (qt L (vs := [_, _, _]) rfl rfl rfl rfl rfl ⟨_, rfl⟩) rfl ?_; refine z7 (qw L rfl rfl rfl rfl rfl rfl rfl rfl rfl) rfl ?_; refine qn (ok_append L rfl rfl rfl (apd_B rfl) rfl el47 rfl rfl (by omega) (by omega)) ?_; refine qn (y9 (.inr rfl) rfl rfl rfl rfl) ?_; refine zh ?_; refine qr ?_; refine zj ?_; refine z8 (id := 4) ?_; refine z7 (zf rfl rfl rfl) rfl ?_; refine z7 (qy rfl rfl rfl rfl (wrap_i64 (by omega) (by omega))) rfl ?_; refine z7 (zi rfl rfl rfl) rfl ?_; refine zh ?_
      exact y7 (x := (0, [])) (1, [] ++ [t.1]) ⟨hlt, by dsimp only; rw [htk]; rfl⟩ (by dsimp only; omega) ⟨rfl, g3_snoc rfl, rfl, trivial⟩
    · obtain ⟨j, rfl⟩ : ∃ j, k = j + 1 := ⟨k - 1, by omega⟩
      obtain ⟨y, hy⟩ := get_some (show j < l.length by omega)
      have hcy := us_at hy
      have hsub : IntKind.i64.wrap (((j + 1 : Nat) : Int) - 1) = (j : Int) := wrap_i64 (by omega) (by omega) |>.trans (by omega)
      have hst := dd_snoc ((l.take (j + 1)).map (·.1)) y.1 t.1 (by rw [take_s hy, List.map_append]; simp)
      rw [← htk, ← hout] at hst
      by_cases hg : t.1 = y.1
      · have hq := eq3 (decide_eq_true hg)
        rw [if_pos hg] at hst
        refine zg ?_; refine zg ?_; refine z8 (id := 3) ?_; refine z7 (zf rfl rfl rfl) rfl ?_; refine z7 (q7 rfl rfl rfl) rfl ?_; refine z7 (yc L rfl rfl rfl rfl) rfl ?_; refine z7 (qe rfl rfl rfl rfl (decide_eq_true (by omega))) rfl ?_; refine zh ?_; refine zj ?_; refine qa rfl ?_; refine q9 ?_; refine zj ?_; refine zg ?_; refine qd ?_; refine zg ?_; refine qj (id := 5) [] mixed (by kernel_rfl) ?_; refine zd (zf rfl rfl rfl) rfl ?_; refine zd (qp rfl rfl rfl rfl (decide_eq_false (by omega))) rfl ?_; refine zd (zf rfl rfl rfl) rfl ?_; refine zd (q7 rfl rfl rfl) rfl ?_; refine zd (zf rfl rfl rfl) rfl ?_; refine zd (qo L _ rfl rfl rfl rfl rfl rfl rfl (by first | omega | decide) (by assumption)) rfl ?_; refine zd (ok_fieldAP L rfl rfl rfl rfl) rfl ?_; refine zd (qt L (vs := [_, _, _]) rfl rfl rfl rfl rfl ⟨_, rfl⟩) rfl ?_; refine zd (q7 rfl rfl rfl) rfl ?_; refine zd (zf rfl rfl rfl) rfl ?_; refine zd (ok_sub rfl rfl rfl rfl (by assumption)) rfl ?_; refine zd (qo L _ rfl rfl rfl rfl rfl rfl rfl (by first | omega | decide) (by assumption)) rfl ?_; refine zd (ok_fieldAP L rfl rfl rfl rfl) rfl ?_; refine zd (qt L (vs := [_, _, _]) rfl rfl rfl rfl rfl ⟨_, rfl⟩) rfl ?_; refine zd (ok_aneq rfl rfl rfl rfl eq47 (by assumption) rfl) rfl ?_; refine zd (zw rfl rfl rfl rfl) rfl ?_; refine qq ?_; refine zj ?_; refine q8 rfl ?_; refine q9 ?_; refine qr ?_; refine zj ?_; refine z8 (id := 4) ?_; refine z7 (zf rfl rfl rfl) rfl ?_; refine z7 (qy rfl rfl rfl rfl (wrap_i64 (by omega) (by omega))) rfl ?_; refine z7 (zi rfl rfl rfl) rfl ?_; refine zh ?_
        exact y7 (x := (j + 1, out)) (j + 2, out) ⟨by dsimp only; omega, hst.symm⟩ (by dsimp only; omega) ⟨rfl, rfl, rfl, trivial⟩
      · have hq := eq3 (decide_eq_false hg)
        rw [if_neg hg] at hst
        refine zg ?_; refine zg ?_; refine z8 (id := 3) ?_; refine z7 (zf rfl rfl rfl) rfl ?_; refine z7 (q7 rfl rfl rfl) rfl ?_; refine z7 (yc L rfl rfl rfl rfl) rfl ?_; refine z7 (qe rfl rfl rfl rfl (decide_eq_true (by omega))) rfl ?_; refine zh ?_; refine zj ?_; refine qa rfl ?_; refine q9 ?_; refine zj ?_; refine zg ?_; refine qd ?_; refine zg ?_; refine qj (id := 5) [] mixed (by kernel_rfl) ?_; refine zd (zf rfl rfl rfl) rfl ?_; refine zd (qp rfl rfl rfl rfl (decide_eq_false (by omega))) rfl ?_; refine zd (zf rfl rfl rfl) rfl ?_; refine zd (q7 rfl rfl rfl) rfl ?_; refine zd (zf rfl rfl rfl) rfl ?_; refine zd (qo L _ rfl rfl rfl rfl rfl rfl rfl (by first | omega | decide) (by assumption)) rfl ?_; refine zd (ok_fieldAP L rfl rfl rfl rfl) rfl ?_; refine zd (qt L (vs := [_, _, _]) rfl rfl rfl rfl rfl ⟨_, rfl⟩) rfl ?_; refine zd (q7 rfl rfl rfl) rfl ?_; refine zd (zf rfl rfl rfl) rfl ?_; refine zd (ok_sub rfl rfl rfl rfl (by assumption)) rfl ?_; refine zd (qo L _ rfl rfl rfl rfl rfl rfl rfl (by first | omega | decide) (by assumption)) rfl ?_; refine zd (ok_fieldAP L rfl rfl rfl rfl) rfl ?_; refine zd (qt L (vs := [_, _, _]) rfl rfl rfl rfl rfl ⟨_, rfl⟩) rfl ?_; refine zd (ok_aneq rfl rfl rfl rfl eq47 (by assumption) rfl) rfl ?_; refine zd (zw rfl rfl rfl rfl) rfl ?_; refine qq ?_; refine zj ?_; refine qa rfl ?_; refine z8 (id := 6) ?_; refine qn (y9 (.inl rfl) rfl rfl rfl rfl) ?_; refine z7 (q7 rfl rfl rfl) rfl ?_; refine z7 (zf rfl rfl rfl) rfl ?_; refine z7 (qo L _ rfl rfl rfl rfl rfl rfl rfl (by first | omega | decide) (by assumption)) rfl ?_; refine z7 (ok_fieldAP L rfl rfl rfl rfl) rfl ?_; refine z7 (qt L (vs := [_, _, _]) rfl rfl rfl rfl rfl ⟨_, rfl⟩) rfl ?_; refine z7 (qw L rfl rfl rfl rfl rfl rfl rfl rfl rfl) rfl ?_; refine qn (ok_append L rfl rfl rfl (apd_B rfl) rfl el47 rfl rfl (by omega) (by omega)) ?_; refine qn (y9 (.inr rfl) rfl rfl rfl rfl) ?_; refine zh ?_; refine qr ?_; refine zj ?_; refine z8 (id := 4) ?_; refine z7 (zf rfl rfl rfl) rfl ?_; refine z7 (qy rfl rfl rfl rfl (wrap_i64 (by omega) (by omega))) rfl ?_; refine z7 (zi rfl rfl rfl) rfl ?_; refine zh ?_
        exact y7 (x := (j + 1, out)) (j + 2, out ++ [t.1]) ⟨by dsimp only; omega, hst.symm⟩ (by dsimp only; omega) ⟨rfl, g3_snoc rfl, rfl, trivial⟩
  · obtain rfl : k = l.length := by omega
    rw [List.take_length] at hout
    have ho : out = M := hout.trans hM
    subst ho
    refine zg ?_; refine zg ?_; refine z8 (id := 3) ?_; refine z7 (zf rfl rfl rfl) rfl ?_; refine z7 (q7 rfl rfl rfl) rfl ?_; refine z7 (yc L rfl rfl rfl rfl) rfl ?_; refine z7 (qe rfl rfl rfl rfl (decide_eq_false (by omega))) rfl ?_; refine zh ?_; refine zj ?_; refine q8 rfl ?_; refine yi ?_; refine qu ?_; refine qu ?_; refine yh ?_; refine zj ?_; refine zg ?_; refine z8 (id := 7) ?_; refine qn (y9 (.inl rfl) rfl rfl rfl rfl) ?_; refine qn (y9 (.inr rfl) rfl rfl rfl rfl) ?_; refine zh ?_; refine zj ?_
    refine V_pubR 2 rfl ?_
    refine qi L (rs := [.tmp 2]) rfl (fun _ _ h => h) Since.refl fun u H hH hle => ?_
    exact fun v hv => hv
end Go.V.L6
namespace Go.V.L3
open Go.Proofs Go.RowKit Go.V Go.V.L2
attribute [local irreducible] V N X VO Par StepOK Has Ret RetL RetO RetT Src
end Go.V.L3
namespace Go.V.L3
open Go.Proofs Go.RowKit Go.V Go.V.L2
abbrev sStar : ByteArray := ⟨#[42]⟩
def fldA (x : ByteArray) : ByteArray := if x = sStar then ⟨#[]⟩ else x
def fldE (x : ByteArray) : Int := if x = sStar then 0 else chk x
def pfB (sp id rel u : ByteArray) (ex : Bool) : FT × Int :=
  if fldE sp = 0 then (if fldE id = 0 then (if fldE rel = 0 then
    (if ex = true then (if (psA u).2.2.2 = 0 then ((((fldA sp, fldA id), fldA rel), (((psA u).1, (psA u).2.1), (psA u).2.2.1), true), 0) else (nF, (psA u).2.2.2))
     else ((((fldA sp, fldA id), fldA rel), n3, false), 0))
    else (nF, fldE rel)) else (nF, fldE id)) else (nF, fldE sp)
def pfC (u sp id rel : ByteArray) (colon mark : Bool) : Bool := !hasA u 64 && colon && mark && !hasA sp 35 && !(hasA rel 58 || hasA rel 35) && !hasA id 58
def relOf (s : ByteArray) : ByteArray := (cutA (cutA (cutA s 64).1 58).2.1 35).2.1
def pfA (s : ByteArray) : FT × Int :=
  if pfC (cutA s 64).2.1 (cutA (cutA s 64).1 58).1 (cutA (cutA (cutA s 64).1 58).2.1 35).1 (relOf s) (cutA (cutA s 64).1 58).2.2 (cutA (cutA (cutA s 64).1 58).2.1 35).2.2 = true then
    pfB (cutA (cutA s 64).1 58).1 (cutA (cutA (cutA s 64).1 58).2.1 35).1 (relOf s) (cutA s 64).2.1 (cutA s 64).2.2
  else (nF, 5)
attribute [local irreducible] V N X VO Par StepOK Has Ret RetL RetO RetT Src
theorem cut_ret' {s a b : ByteArray} {c : UInt8} {f : Bool} (h : cutA s c = (a, b, f)) (hs : s.size ≤ 1000000) {w : World} {B : Heap} (hB : B.Le (hp w)) (hM : GlobM B) :
    Ret Tryz.prog 70 [.string s, .string ⟨#[c]⟩] w B (fun v _ => v = .tuple #[.string a, .string b, .bool f]) := by
  have := cut_ret (s := s) (c := c) (f := f) hs hB hM (by rw [h])
  rw [h] at this
  exact this
theorem ps_ret3 {s a b c : ByteArray} {e : Int} (hr : psA s = (a, b, c, e)) (hs : s.size ≤ 1000000) {w : World} {B : Heap} (hB : B.Le (hp w)) (hM : GlobM B) :
    Ret Tryz.prog 73 [.string s] w B (fun v _ => v = .tuple #[.agg #[.string a, .string b, .string c], .int .i64 e]) := ps_ret' hr hs hB hM
set_option maxHeartbeats 16000000 in
set_option maxRecDepth 20000 in
theorem fparse_ret {s : ByteArray} {x : FT} {e : Int} (hr : pfA s = (x, e)) (hs : s.size ≤ 1000000) (hany : ∀ (w : World) (B : Heap), B.Le (hp w) → Ret Tryz.prog 72 [.string (relOf s), .string ⟨#[58, 35]⟩] w B (fun v _ => v = .bool (hasA (relOf s) 58 || hasA (relOf s) 35)))
    {w : World} {B : Heap} (hB : B.Le (hp w)) (hM : GlobM B) : Ret Tryz.prog 50 [.string s] w B (fun v _ => v = .tuple #[fv x, .int .i64 e]) := by
  unfold pfA at hr
  unfold relOf at hr hany
  have zz1 := cutA_size s 64
  rcases h1 : cutA s 64 with ⟨g, us, ex⟩
  rw [h1] at hr hany zz1
  dsimp only at hr hany zz1
  have zz2 := cutA_size g 58
  rcases h2 : cutA g 58 with ⟨sp, rest, colon⟩
  rw [h2] at hr hany zz2
  dsimp only at hr hany zz2
  have zz3 := cutA_size rest 35
  rcases h3 : cutA rest 35 with ⟨id, rel, mark⟩
  rw [h3] at hr hany zz3
  dsimp only at hr hany zz3
  have g1 : g.size ≤ 1000000 := by omega
  have g2 : rest.size ≤ 1000000 := by omega
  have g3 : us.size ≤ 1000000 := by omega
  have gs : sp.size ≤ 1000000 := by omega
  have gi : id.size ≤ 1000000 := by omega
  have gr : rel.size ≤ 1000000 := by omega
  clear zz1 zz2 zz3
  refine qx Tryz.func50 rfl Tryz.ntmps50 (Nat.le_of_ble_eq_true rfl) hB ?_
  refine zg ?_; refine z8 (id := 0) ?_; refine z7 (qm L rfl rfl rfl rfl) rfl ?_; refine z7 (zi rfl rfl rfl) rfl ?_; refine zh ?_; refine zj ?_; refine zg ?_; refine z8 (id := 1) ?_; refine z7 (zf rfl rfl rfl) rfl ?_; refine z7 (q6 L rfl rfl (zm rfl) rfl rfl rfl (fun u H hH hle _ => cut_ret' h1 hs hH (hM.mono hle))) rfl ?_; refine z7 (zf rfl rfl rfl) rfl ?_; refine z7 (qb rfl rfl rfl rfl) rfl ?_; refine z7 (qb rfl rfl rfl rfl) rfl ?_; refine z7 (qb rfl rfl rfl rfl) rfl ?_; refine z7 (zi rfl rfl rfl) rfl ?_; refine z7 (zi rfl rfl rfl) rfl ?_; refine z7 (zi rfl rfl rfl) rfl ?_; refine zh ?_; refine zj ?_; refine zg ?_; refine z8 (id := 2) ?_; refine z7 (zf rfl rfl rfl) rfl ?_; refine z7 (q6 L rfl rfl (zm rfl) rfl rfl rfl (fun u H hH hle _ => cut_ret' h2 g1 hH (hM.mono hle))) rfl ?_; refine z7 (zf rfl rfl rfl) rfl ?_; refine z7 (qb rfl rfl rfl rfl) rfl ?_; refine z7 (qb rfl rfl rfl rfl) rfl ?_; refine z7 (qb rfl rfl rfl rfl) rfl ?_; refine z7 (zi rfl rfl rfl) rfl ?_; refine z7 (zi rfl rfl rfl) rfl ?_; refine z7 (zi rfl rfl rfl) rfl ?_; refine zh ?_; refine zj ?_; refine zg ?_; refine z8 (id := 3) ?_; refine z7 (zf rfl rfl rfl) rfl ?_; refine z7 (q6 L rfl rfl (zm rfl) rfl rfl rfl (fun u H hH hle _ => cut_ret' h3 g2 hH (hM.mono hle))) rfl ?_; refine z7 (zf rfl rfl rfl) rfl ?_; refine z7 (qb rfl rfl rfl rfl) rfl ?_; refine z7 (qb rfl rfl rfl rfl) rfl ?_; refine z7 (qb rfl rfl rfl rfl) rfl ?_; refine z7 (zi rfl rfl rfl) rfl ?_; refine z7 (zi rfl rfl rfl) rfl ?_; refine z7 (zi rfl rfl rfl) rfl ?_; refine zh ?_; refine zj ?_; refine zg ?_; refine zg ?_
  cases c1 : hasA us 64
  · cases colon
    · have hc : ¬ pfC us sp id rel false mark = true := by unfold pfC; rw [c1]; simp
      rw [if_neg hc] at hr
      cases hr
      refine z8 (id := 4) ?_; refine z7 (zf rfl rfl rfl) rfl ?_; refine z7 (q6 L rfl rfl (zm rfl) rfl rfl rfl (fun u H hH hle _ => contains_ret hH c1)) rfl ?_; refine z7 (zf rfl rfl rfl) rfl ?_; refine z7 (zf rfl rfl rfl) rfl ?_; refine z7 (yk rfl rfl rfl rfl) rfl ?_; refine z7 (zw rfl rfl rfl rfl) rfl ?_; refine z7 (zf rfl rfl rfl) rfl ?_; refine z7 (zn rfl (zm rfl) rfl) rfl ?_; refine z7 (zn rfl (zm rfl) rfl) rfl ?_; refine z7 (zw rfl rfl rfl rfl) rfl ?_; refine z7 (zf rfl rfl rfl) rfl ?_; refine z7 (zn rfl (zm rfl) rfl) rfl ?_; refine z7 (zn rfl (zm rfl) rfl) rfl ?_; refine z7 (zw rfl rfl rfl rfl) rfl ?_; refine z7 (zf rfl rfl rfl) rfl ?_; refine z7 (zn rfl (zm rfl) rfl) rfl ?_; refine z7 (zn rfl (zm rfl) rfl) rfl ?_; refine z7 (zw rfl rfl rfl rfl) rfl ?_; refine z7 (zf rfl rfl rfl) rfl ?_; refine z7 (zn rfl (zm rfl) rfl) rfl ?_; refine z7 (zn rfl (zm rfl) rfl) rfl ?_; refine z7 (zw rfl rfl rfl rfl) rfl ?_; refine zh ?_; refine zj ?_; refine qa rfl ?_; refine zg ?_; refine z8 (id := 5) ?_; refine z7 (qv (cs := [_, _, _, _, _, _, _]) rfl rfl pl53 rfl rfl) rfl ?_; refine z7 (qg L rfl rfl rfl rfl rfl rfl rfl rfl) rfl ?_; refine z7 (zi rfl rfl rfl) rfl ?_; refine zh ?_; refine zj ?_
      refine qi L (rs := [.cell 2 53, .tmp 3]) rfl (fun _ _ h => h) Since.refl fun u H hH hle => ?_
      refine resK_cellA (ql rfl) rfl rfl ?_
      rfl
    · cases mark
      · have hc : ¬ pfC us sp id rel true false = true := by unfold pfC; rw [c1]; simp
        rw [if_neg hc] at hr
        cases hr
        refine z8 (id := 4) ?_; refine z7 (zf rfl rfl rfl) rfl ?_; refine z7 (q6 L rfl rfl (zm rfl) rfl rfl rfl (fun u H hH hle _ => contains_ret hH c1)) rfl ?_; refine z7 (zf rfl rfl rfl) rfl ?_; refine z7 (zf rfl rfl rfl) rfl ?_; refine z7 (yk rfl rfl rfl rfl) rfl ?_; refine z7 (zw rfl rfl rfl rfl) rfl ?_; refine z7 (zf rfl rfl rfl) rfl ?_; refine z7 (zf rfl rfl rfl) rfl ?_; refine z7 (yk rfl rfl rfl rfl) rfl ?_; refine z7 (zw rfl rfl rfl rfl) rfl ?_; refine z7 (zf rfl rfl rfl) rfl ?_; refine z7 (zn rfl (zm rfl) rfl) rfl ?_; refine z7 (zn rfl (zm rfl) rfl) rfl ?_; refine z7 (zw rfl rfl rfl rfl) rfl ?_; refine z7 (zf rfl rfl rfl) rfl ?_; refine z7 (zn rfl (zm rfl) rfl) rfl ?_; refine z7 (zn rfl (zm rfl) rfl) rfl ?_; refine z7 (zw rfl rfl rfl rfl) rfl ?_; refine z7 (zf rfl rfl rfl) rfl ?_; refine z7 (zn rfl (zm rfl) rfl) rfl ?_; refine z7 (zn rfl (zm rfl) rfl) rfl ?_; refine z7 (zw rfl rfl rfl rfl) rfl ?_; refine zh ?_; refine zj ?_; refine qa rfl ?_; refine zg ?_; refine z8 (id := 5) ?_; refine z7 (qv (cs := [_, _, _, _, _, _, _]) rfl rfl pl53 rfl rfl) rfl ?_; refine z7 (qg L rfl rfl rfl rfl rfl rfl rfl rfl) rfl ?_; refine z7 (zi rfl rfl rfl) rfl ?_; refine zh ?_; refine zj ?_
        refine qi L (rs := [.cell 2 53, .tmp 3]) rfl (fun _ _ h => h) Since.refl fun u H hH hle => ?_
        refine resK_cellA (ql rfl) rfl rfl ?_
        rfl
      · cases c4 : hasA sp 35
        · cases c5 : (hasA rel 58 || hasA rel 35)
          · have any5 : ∀ (w : World) (B : Heap), B.Le (hp w) → Ret Tryz.prog 72 [.string rel, .string ⟨#[58, 35]⟩] w B (fun v _ => v = .bool false) := fun w B h => by have := hany w B h; rwa [c5] at this
            cases c6 : hasA id 58
            · have hc : pfC us sp id rel true true = true := by unfold pfC; rw [c1, c4, c5, c6]; rfl
              rw [if_pos hc] at hr
              clear hc hany
              unfold pfB at hr
              refine z8 (id := 4) ?_; refine z7 (zf rfl rfl rfl) rfl ?_; refine z7 (q6 L rfl rfl (zm rfl) rfl rfl rfl (fun u H hH hle _ => contains_ret hH c1)) rfl ?_; refine z7 (zf rfl rfl rfl) rfl ?_; refine z7 (zf rfl rfl rfl) rfl ?_; refine z7 (yk rfl rfl rfl rfl) rfl ?_; refine z7 (zw rfl rfl rfl rfl) rfl ?_; refine z7 (zf rfl rfl rfl) rfl ?_; refine z7 (zf rfl rfl rfl) rfl ?_; refine z7 (yk rfl rfl rfl rfl) rfl ?_; refine z7 (zw rfl rfl rfl rfl) rfl ?_; refine z7 (zf rfl rfl rfl) rfl ?_; refine z7 (zf rfl rfl rfl) rfl ?_; refine z7 (q6 L rfl rfl (zm rfl) rfl rfl rfl (fun u H hH hle _ => contains_ret hH c4)) rfl ?_; refine z7 (zw rfl rfl rfl rfl) rfl ?_; refine z7 (zf rfl rfl rfl) rfl ?_; refine z7 (zf rfl rfl rfl) rfl ?_; refine z7 (q6 L rfl rfl (zm rfl) rfl rfl rfl (fun u H hH hle _ => any5 u H hH)) rfl ?_; refine z7 (zw rfl rfl rfl rfl) rfl ?_; refine z7 (zf rfl rfl rfl) rfl ?_; refine z7 (zf rfl rfl rfl) rfl ?_; refine z7 (q6 L rfl rfl (zm rfl) rfl rfl rfl (fun u H hH hle _ => contains_ret hH c6)) rfl ?_; refine z7 (zw rfl rfl rfl rfl) rfl ?_; refine zh ?_; refine zj ?_; refine q8 rfl ?_; refine q9 ?_; refine zj ?_; refine zg ?_; refine z8 (id := 6) ?_; refine z7 (zf rfl rfl rfl) rfl ?_; refine z7 (qv (cs := [_, _, _, _, _, _, _]) rfl rfl pl53 rfl rfl) rfl ?_; refine z7 (qm L rfl rfl rfl rfl) rfl ?_; refine z7 (qg L rfl rfl rfl rfl rfl rfl rfl rfl) rfl ?_; refine zh ?_; refine zj ?_; refine zg ?_; refine zg ?_; refine z8 (id := 7) ?_; refine z7 (zf rfl rfl rfl) rfl ?_; refine z7 (zf rfl rfl rfl) rfl ?_; refine z7 (zf rfl rfl rfl) rfl ?_; refine z7 (qv (cs := [_, _, _]) rfl rfl pl122 rfl rfl) rfl ?_; refine z7 (zf rfl rfl rfl) rfl ?_; refine zh ?_; refine zj ?_; refine qd ?_
              refine V_hold 13 902 rfl fun b => ?_
              refine V_loop (fun y : Nat × ByteArray × ByteArray × ByteArray => [(2, .own (Cell [.string ⟨#[]⟩, .string ⟨#[]⟩, .string ⟨#[]⟩, .string ⟨#[]⟩, .string ⟨#[]⟩, .string ⟨#[]⟩, .bool false] tyF)), (5, .is (.string us)), (6, .is (.bool ex)), (13, .is (.pointer (some ⟨b, 0, none⟩))), (65, .is (.agg #[.string sp, .string id, .string rel])), (66, .is (.int .i64 y.1)), (902, .own (HeldR b [.string y.2.1, .string y.2.2.1, .string y.2.2.2, .string ⟨#[]⟩, .string ⟨#[]⟩, .string ⟨#[]⟩, .bool ex] tyF))])
                (fun y => y.1 ≤ 3 ∧ y.2 = (if 0 < y.1 then fldA sp else ⟨#[]⟩, if 1 < y.1 then fldA id else ⟨#[]⟩, if 2 < y.1 then fldA rel else ⟨#[]⟩) ∧ (0 < y.1 → fldE sp = 0) ∧ (1 < y.1 → fldE id = 0) ∧ (2 < y.1 → fldE rel = 0)) (fun y => 3 - y.1) (0, ⟨#[]⟩, ⟨#[]⟩, ⟨#[]⟩) ⟨Nat.zero_le _, rfl, fun h => (by omega), fun h => (by omega), fun h => (by omega)⟩ ⟨rfl, rfl, rfl, rfl, rfl, rfl, rfl, trivial⟩ ?_
              rintro ⟨k, y0, y1, y2⟩ ⟨hk, hy, i0, i1, i2⟩
              dsimp only at hk hy i0 i1 i2 ⊢
              rcases k with _ | _ | _ | _ | k
              · have hy : (y0, y1, y2) = (⟨#[]⟩, ⟨#[]⟩, ⟨#[]⟩) := hy
                obtain ⟨rfl, rfl, rfl⟩ : y0 = ⟨#[]⟩ ∧ y1 = ⟨#[]⟩ ∧ y2 = ⟨#[]⟩ := by simpa using hy
                by_cases hx : sp = sStar
                · have hf : fldE sp = 0 := if_pos hx
                  have hv : fldA sp = ⟨#[]⟩ := if_pos hx
                  refine zg ?_; refine z8 (id := 8) ?_; refine z7 (qe rfl rfl rfl rfl (decide_eq_true (by omega))) rfl ?_; refine zh ?_; refine zj ?_; refine zg ?_; refine qa rfl ?_; refine q9 ?_; refine zj ?_; refine zg ?_; refine qd ?_; refine zg ?_; refine z8 (id := 9) ?_; refine z7 (zf rfl rfl rfl) rfl ?_; refine z7 (ok_indexAg1 L _ rfl rfl rfl rfl ar122 rfl rfl (by first | omega | decide) rfl) rfl ?_; refine z7 (zi rfl rfl rfl) rfl ?_; refine z7 (zi rfl rfl rfl) rfl ?_; refine zh ?_; refine zj ?_; refine zg ?_; refine zg ?_; refine z8 (id := 10) ?_; refine z7 (zf rfl rfl rfl) rfl ?_; refine z7 (ok_seql rfl rfl rfl rfl (decide_eq_true (by assumption))) rfl ?_; refine zh ?_; refine zj ?_; refine qa rfl ?_; refine yi ?_; refine qu ?_; refine yh ?_; refine zj ?_; refine z8 (id := 15) ?_; refine z7 (qy rfl rfl rfl rfl (wrap_i64 (by omega) (by omega))) rfl ?_; refine z7 (zf rfl rfl rfl) rfl ?_; refine zh ?_
                  exact y7 (x := (0, ⟨#[]⟩, ⟨#[]⟩, ⟨#[]⟩)) (1, fldA sp, ⟨#[]⟩, ⟨#[]⟩) ⟨by dsimp only; omega, rfl, fun _ => hf, fun h => (by simp at h), fun h => (by simp at h)⟩ (by dsimp only; omega) ⟨rfl, rfl, rfl, rfl, rfl, rfl, by rw [hv]; rfl, trivial⟩
                · have hv : fldA sp = sp := if_neg hx
                  have hfe : fldE sp = chk sp := if_neg hx
                  by_cases h0 : chk sp = 0
                  · have hf : fldE sp = 0 := hfe.trans h0
                    refine zg ?_; refine z8 (id := 8) ?_; refine z7 (qe rfl rfl rfl rfl (decide_eq_true (by omega))) rfl ?_; refine zh ?_; refine zj ?_; refine zg ?_; refine qa rfl ?_; refine q9 ?_; refine zj ?_; refine zg ?_; refine qd ?_; refine zg ?_; refine z8 (id := 9) ?_; refine z7 (zf rfl rfl rfl) rfl ?_; refine z7 (ok_indexAg1 L _ rfl rfl rfl rfl ar122 rfl rfl (by first | omega | decide) rfl) rfl ?_; refine z7 (zi rfl rfl rfl) rfl ?_; refine z7 (zi rfl rfl rfl) rfl ?_; refine zh ?_; refine zj ?_; refine zg ?_; refine zg ?_; refine z8 (id := 10) ?_; refine z7 (zf rfl rfl rfl) rfl ?_; refine z7 (ok_seql rfl rfl rfl rfl (decide_eq_false (by assumption))) rfl ?_; refine zh ?_; refine zj ?_; refine q8 rfl ?_; refine q9 ?_; refine zj ?_; refine zg ?_; refine zg ?_; refine z8 (id := 11) ?_; refine z7 (zf rfl rfl rfl) rfl ?_; refine z7 (q6 L rfl rfl (zm rfl) rfl rfl rfl (fun u H hH _ _ => check_ret _ (by omega) hH)) rfl ?_; refine z7 (zi rfl rfl rfl) rfl ?_; refine zh ?_; refine zj ?_; refine zg ?_; refine z8 (id := 12) ?_; refine z7 (zf rfl rfl rfl) rfl ?_; refine z7 (yb rfl rfl rfl rfl (decide_eq_false (by omega))) rfl ?_; refine zh ?_; refine zj ?_; refine q8 rfl ?_; refine q9 ?_; refine zj ?_; refine z8 (id := 14) ?_; refine z7 (q0 L rfl rfl rfl rfl) rfl ?_; refine z7 (q0 L rfl rfl rfl rfl) rfl ?_; refine z7 (q0 L rfl rfl rfl rfl) rfl ?_; refine z7 (qv (cs := [_, _, _]) rfl rfl pl124 rfl rfl) rfl ?_; refine z7 (zf rfl rfl rfl) rfl ?_; refine z7 (ok_indexAg1 L _ rfl rfl rfl rfl ar124 rfl rfl (by first | omega | decide) rfl) rfl ?_; refine z7 (zf rfl rfl rfl) rfl ?_; refine z7 (yd rfl rfl rfl) rfl ?_; refine vo_stepS (ok_storeH L (q := 902) rfl rfl rfl rfl rfl rfl rfl rfl rfl) ?_; refine zh ?_; refine qr ?_; refine zj ?_; refine z8 (id := 15) ?_; refine z7 (qy rfl rfl rfl rfl (wrap_i64 (by omega) (by omega))) rfl ?_; refine z7 (zf rfl rfl rfl) rfl ?_; refine zh ?_
                    exact y7 (x := (0, ⟨#[]⟩, ⟨#[]⟩, ⟨#[]⟩)) (1, fldA sp, ⟨#[]⟩, ⟨#[]⟩) ⟨by dsimp only; omega, rfl, fun _ => hf, fun h => (by simp at h), fun h => (by simp at h)⟩ (by dsimp only; omega) ⟨rfl, rfl, rfl, rfl, rfl, rfl, by rw [hv]; rfl, trivial⟩
                  · rw [if_neg (by rw [hfe]; exact h0), hfe] at hr
                    cases hr
                    refine zg ?_; refine z8 (id := 8) ?_; refine z7 (qe rfl rfl rfl rfl (decide_eq_true (by omega))) rfl ?_; refine zh ?_; refine zj ?_; refine zg ?_; refine qa rfl ?_; refine q9 ?_; refine zj ?_; refine zg ?_; refine qd ?_; refine zg ?_; refine z8 (id := 9) ?_; refine z7 (zf rfl rfl rfl) rfl ?_; refine z7 (ok_indexAg1 L _ rfl rfl rfl rfl ar122 rfl rfl (by first | omega | decide) rfl) rfl ?_; refine z7 (zi rfl rfl rfl) rfl ?_; refine z7 (zi rfl rfl rfl) rfl ?_; refine zh ?_; refine zj ?_; refine zg ?_; refine zg ?_; refine z8 (id := 10) ?_; refine z7 (zf rfl rfl rfl) rfl ?_; refine z7 (ok_seql rfl rfl rfl rfl (decide_eq_false (by assumption))) rfl ?_; refine zh ?_; refine zj ?_; refine q8 rfl ?_; refine q9 ?_; refine zj ?_; refine zg ?_; refine zg ?_; refine z8 (id := 11) ?_; refine z7 (zf rfl rfl rfl) rfl ?_; refine z7 (q6 L rfl rfl (zm rfl) rfl rfl rfl (fun u H hH _ _ => check_ret _ (by omega) hH)) rfl ?_; refine z7 (zi rfl rfl rfl) rfl ?_; refine zh ?_; refine zj ?_; refine zg ?_; refine z8 (id := 12) ?_; refine z7 (zf rfl rfl rfl) rfl ?_; refine z7 (yb rfl rfl rfl rfl (decide_eq_true (by omega))) rfl ?_; refine zh ?_; refine zj ?_; refine qa rfl ?_; refine zg ?_; refine z8 (id := 13) ?_; refine z7 (qv (cs := [_, _, _, _, _, _, _]) rfl rfl pl53 rfl rfl) rfl ?_; refine z7 (zf rfl rfl rfl) rfl ?_; refine z7 (qg L rfl rfl rfl rfl rfl rfl rfl rfl) rfl ?_; refine z7 (zi rfl rfl rfl) rfl ?_; refine zh ?_; refine zj ?_
                    refine qi L (rs := [.cell 2 53, .tmp 3]) rfl (fun _ _ h => h) Since.refl fun u H hH hle => ?_
                    refine resK_cellA (ql rfl) rfl rfl ?_
                    rfl
              · have hy : (y0, y1, y2) = (fldA sp, ⟨#[]⟩, ⟨#[]⟩) := hy
                obtain ⟨rfl, rfl, rfl⟩ : y0 = fldA sp ∧ y1 = ⟨#[]⟩ ∧ y2 = ⟨#[]⟩ := by simpa using hy
                rw [if_pos (i0 (by decide))] at hr
                by_cases hx : id = sStar
                · have hf : fldE id = 0 := if_pos hx
                  have hv : fldA id = ⟨#[]⟩ := if_pos hx
                  refine zg ?_; refine z8 (id := 8) ?_; refine z7 (qe rfl rfl rfl rfl (decide_eq_true (by omega))) rfl ?_; refine zh ?_; refine zj ?_; refine zg ?_; refine qa rfl ?_; refine q9 ?_; refine zj ?_; refine zg ?_; refine qd ?_; refine zg ?_; refine z8 (id := 9) ?_; refine z7 (zf rfl rfl rfl) rfl ?_; refine z7 (ok_indexAg1 L _ rfl rfl rfl rfl ar122 rfl rfl (by first | omega | decide) rfl) rfl ?_; refine z7 (zi rfl rfl rfl) rfl ?_; refine z7 (zi rfl rfl rfl) rfl ?_; refine zh ?_; refine zj ?_; refine zg ?_; refine zg ?_; refine z8 (id := 10) ?_; refine z7 (zf rfl rfl rfl) rfl ?_; refine z7 (ok_seql rfl rfl rfl rfl (decide_eq_true (by assumption))) rfl ?_; refine zh ?_; refine zj ?_; refine qa rfl ?_; refine yi ?_; refine qu ?_; refine yh ?_; refine zj ?_; refine z8 (id := 15) ?_; refine z7 (qy rfl rfl rfl rfl (wrap_i64 (by omega) (by omega))) rfl ?_; refine z7 (zf rfl rfl rfl) rfl ?_; refine zh ?_
                  exact y7 (x := (1, fldA sp, ⟨#[]⟩, ⟨#[]⟩)) (2, fldA sp, fldA id, ⟨#[]⟩) ⟨by dsimp only; omega, rfl, fun _ => i0 (by decide), fun _ => hf, fun h => (by simp at h)⟩ (by dsimp only; omega) ⟨rfl, rfl, rfl, rfl, rfl, rfl, by rw [hv]; rfl, trivial⟩
                · have hv : fldA id = id := if_neg hx
                  have hfe : fldE id = chk id := if_neg hx
                  by_cases h0 : chk id = 0
                  · have hf : fldE id = 0 := hfe.trans h0
                    refine zg ?_; refine z8 (id := 8) ?_; refine z7 (qe rfl rfl rfl rfl (decide_eq_true (by omega))) rfl ?_; refine zh ?_; refine zj ?_; refine zg ?_; refine qa rfl ?_; refine q9 ?_; refine zj ?_; refine zg ?_; refine qd ?_; refine zg ?_; refine z8 (id := 9) ?_; refine z7 (zf rfl rfl rfl) rfl ?_; refine z7 (ok_indexAg1 L _ rfl rfl rfl rfl ar122 rfl rfl (by first | omega | decide) rfl) rfl ?_; refine z7 (zi rfl rfl rfl) rfl ?_; refine z7 (zi rfl rfl rfl) rfl ?_; refine zh ?_; refine zj ?_; refine zg ?_; refine zg ?_; refine z8 (id := 10) ?_; refine z7 (zf rfl rfl rfl) rfl ?_; refine z7 (ok_seql rfl rfl rfl rfl (decide_eq_false (by assumption))) rfl ?_; refine zh ?_; refine zj ?_; refine q8 rfl ?_; refine q9 ?_; refine zj ?_; refine zg ?_; refine zg ?_; refine z8 (id := 11) ?_; refine z7 (zf rfl rfl rfl) rfl ?_; refine z7 (q6 L rfl rfl (zm rfl) rfl rfl rfl (fun u H hH _ _ => check_ret _ (by omega) hH)) rfl ?_; refine z7 (zi rfl rfl rfl) rfl ?_; refine zh ?_; refine zj ?_; refine zg ?_; refine z8 (id := 12) ?_; refine z7 (zf rfl rfl rfl) rfl ?_; refine z7 (yb rfl rfl rfl rfl (decide_eq_false (by omega))) rfl ?_; refine zh ?_; refine zj ?_; refine q8 rfl ?_; refine q9 ?_; refine zj ?_; refine z8 (id := 14) ?_; refine z7 (q0 L rfl rfl rfl rfl) rfl ?_; refine z7 (q0 L rfl rfl rfl rfl) rfl ?_; refine z7 (q0 L rfl rfl rfl rfl) rfl ?_; refine z7 (qv (cs := [_, _, _]) rfl rfl pl124 rfl rfl) rfl ?_; refine z7 (zf rfl rfl rfl) rfl ?_; refine z7 (ok_indexAg1 L _ rfl rfl rfl rfl ar124 rfl rfl (by first | omega | decide) rfl) rfl ?_; refine z7 (zf rfl rfl rfl) rfl ?_; refine z7 (yd rfl rfl rfl) rfl ?_; refine vo_stepS (ok_storeH L (q := 902) rfl rfl rfl rfl rfl rfl rfl rfl rfl) ?_; refine zh ?_; refine qr ?_; refine zj ?_; refine z8 (id := 15) ?_; refine z7 (qy rfl rfl rfl rfl (wrap_i64 (by omega) (by omega))) rfl ?_; refine z7 (zf rfl rfl rfl) rfl ?_; refine zh ?_
                    exact y7 (x := (1, fldA sp, ⟨#[]⟩, ⟨#[]⟩)) (2, fldA sp, fldA id, ⟨#[]⟩) ⟨by dsimp only; omega, rfl, fun _ => i0 (by decide), fun _ => hf, fun h => (by simp at h)⟩ (by dsimp only; omega) ⟨rfl, rfl, rfl, rfl, rfl, rfl, by rw [hv]; rfl, trivial⟩
                  · rw [if_neg (by rw [hfe]; exact h0), hfe] at hr
                    cases hr
                    refine zg ?_; refine z8 (id := 8) ?_; refine z7 (qe rfl rfl rfl rfl (decide_eq_true (by omega))) rfl ?_; refine zh ?_; refine zj ?_; refine zg ?_; refine qa rfl ?_; refine q9 ?_; refine zj ?_; refine zg ?_; refine qd ?_; refine zg ?_; refine z8 (id := 9) ?_; refine z7 (zf rfl rfl rfl) rfl ?_; refine z7 (ok_indexAg1 L _ rfl rfl rfl rfl ar122 rfl rfl (by first | omega | decide) rfl) rfl ?_; refine z7 (zi rfl rfl rfl) rfl ?_; refine z7 (zi rfl rfl rfl) rfl ?_; refine zh ?_; refine zj ?_; refine zg ?_; refine zg ?_; refine z8 (id := 10) ?_; refine z7 (zf rfl rfl rfl) rfl ?_; refine z7 (ok_seql rfl rfl rfl rfl (decide_eq_false (by assumption))) rfl ?_; refine zh ?_; refine zj ?_; refine q8 rfl ?_; refine q9 ?_; refine zj ?_; refine zg ?_; refine zg ?_; refine z8 (id := 11) ?_; refine z7 (zf rfl rfl rfl) rfl ?_; refine z7 (q6 L rfl rfl (zm rfl) rfl rfl rfl (fun u H hH _ _ => check_ret _ (by omega) hH)) rfl ?_; refine z7 (zi rfl rfl rfl) rfl ?_; refine zh ?_; refine zj ?_; refine zg ?_; refine z8 (id := 12) ?_; refine z7 (zf rfl rfl rfl) rfl ?_; refine z7 (yb rfl rfl rfl rfl (decide_eq_true (by omega))) rfl ?_; refine zh ?_; refine zj ?_; refine qa rfl ?_; refine zg ?_; refine z8 (id := 13) ?_; refine z7 (qv (cs := [_, _, _, _, _, _, _]) rfl rfl pl53 rfl rfl) rfl ?_; refine z7 (zf rfl rfl rfl) rfl ?_; refine z7 (qg L rfl rfl rfl rfl rfl rfl rfl rfl) rfl ?_; refine z7 (zi rfl rfl rfl) rfl ?_; refine zh ?_; refine zj ?_
                    refine qi L (rs := [.cell 2 53, .tmp 3]) rfl (fun _ _ h => h) Since.refl fun u H hH hle => ?_
                    refine resK_cellA (ql rfl) rfl rfl ?_
                    rfl
              · have hy : (y0, y1, y2) = (fldA sp, fldA id, ⟨#[]⟩) := hy
                obtain ⟨rfl, rfl, rfl⟩ : y0 = fldA sp ∧ y1 = fldA id ∧ y2 = ⟨#[]⟩ := by simpa using hy
                rw [if_pos (i0 (by decide))] at hr
                rw [if_pos (i1 (by decide))] at hr
                by_cases hx : rel = sStar
                · have hf : fldE rel = 0 := if_pos hx
                  have hv : fldA rel = ⟨#[]⟩ := if_pos hx
                  refine zg ?_; refine z8 (id := 8) ?_; refine z7 (qe rfl rfl rfl rfl (decide_eq_true (by omega))) rfl ?_; refine zh ?_; refine zj ?_; refine zg ?_; refine qa rfl ?_; refine q9 ?_; refine zj ?_; refine zg ?_; refine qd ?_; refine zg ?_; refine z8 (id := 9) ?_; refine z7 (zf rfl rfl rfl) rfl ?_; refine z7 (ok_indexAg1 L _ rfl rfl rfl rfl ar122 rfl rfl (by first | omega | decide) rfl) rfl ?_; refine z7 (zi rfl rfl rfl) rfl ?_; refine z7 (zi rfl rfl rfl) rfl ?_; refine zh ?_; refine zj ?_; refine zg ?_; refine zg ?_; refine z8 (id := 10) ?_; refine z7 (zf rfl rfl rfl) rfl ?_; refine z7 (ok_seql rfl rfl rfl rfl (decide_eq_true (by assumption))) rfl ?_; refine zh ?_; refine zj ?_; refine qa rfl ?_; refine yi ?_; refine qu ?_; refine yh ?_; refine zj ?_; refine z8 (id := 15) ?_; refine z7 (qy rfl rfl rfl rfl (wrap_i64 (by omega) (by omega))) rfl ?_; refine z7 (zf rfl rfl rfl) rfl ?_; refine zh ?_
                  exact y7 (x := (2, fldA sp, fldA id, ⟨#[]⟩)) (3, fldA sp, fldA id, fldA rel) ⟨by dsimp only; omega, rfl, fun _ => i0 (by decide), fun _ => i1 (by decide), fun _ => hf⟩ (by dsimp only; omega) ⟨rfl, rfl, rfl, rfl, rfl, rfl, by rw [hv]; rfl, trivial⟩
                · have hv : fldA rel = rel := if_neg hx
                  have hfe : fldE rel = chk rel := if_neg hx
                  by_cases h0 : chk rel = 0
                  · have hf : fldE rel = 0 := hfe.trans h0
                    refine zg ?_; refine z8 (id := 8) ?_; refine z7 (qe rfl rfl rfl rfl (decide_eq_true (by omega))) rfl ?_; refine zh ?_; refine zj ?_; refine zg ?_; refine qa rfl ?_; refine q9 ?_; refine zj ?_; refine zg ?_; refine qd ?_; refine zg ?_; refine z8 (id := 9) ?_; refine z7 (zf rfl rfl rfl) rfl ?_; refine z7 (ok_indexAg1 L _ rfl rfl rfl rfl ar122 rfl rfl (by first | omega | decide) rfl) rfl ?_; refine z7 (zi rfl rfl rfl) rfl ?_; refine z7 (zi rfl rfl rfl) rfl ?_; refine zh ?_; refine zj ?_; refine zg ?_; refine zg ?_; refine z8 (id := 10) ?_; refine z7 (zf rfl rfl rfl) rfl ?_; refine z7 (ok_seql rfl rfl rfl rfl (decide_eq_false (by assumption))) rfl ?_; refine zh ?_; refine zj ?_; refine q8 rfl ?_; refine q9 ?_; refine zj ?_; refine zg ?_; refine zg ?_; refine z8 (id := 11) ?_; refine z7 (zf rfl rfl rfl) rfl ?_; refine z7 (q6 L rfl rfl (zm rfl) rfl rfl rfl (fun u H hH _ _ => check_ret _ (by omega) hH)) rfl ?_; refine z7 (zi rfl rfl rfl) rfl ?_; refine zh ?_; refine zj ?_; refine zg ?_; refine z8 (id := 12) ?_; refine z7 (zf rfl rfl rfl) rfl ?_; refine z7 (yb rfl rfl rfl rfl (decide_eq_false (by omega))) rfl ?_; refine zh ?_; refine zj ?_; refine q8 rfl ?_; refine q9 ?_; refine zj ?_; refine z8 (id := 14) ?_; refine z7 (q0 L rfl rfl rfl rfl) rfl ?_; refine z7 (q0 L rfl rfl rfl rfl) rfl ?_; refine z7 (q0 L rfl rfl rfl rfl) rfl ?_; refine z7 (qv (cs := [_, _, _]) rfl rfl pl124 rfl rfl) rfl ?_; refine z7 (zf rfl rfl rfl) rfl ?_; refine z7 (ok_indexAg1 L _ rfl rfl rfl rfl ar124 rfl rfl (by first | omega | decide) rfl) rfl ?_; refine z7 (zf rfl rfl rfl) rfl ?_; refine z7 (yd rfl rfl rfl) rfl ?_; refine vo_stepS (ok_storeH L (q := 902) rfl rfl rfl rfl rfl rfl rfl rfl rfl) ?_; refine zh ?_; refine qr ?_; refine zj ?_; refine z8 (id := 15) ?_; refine z7 (qy rfl rfl rfl rfl (wrap_i64 (by omega) (by omega))) rfl ?_; refine z7 (zf rfl rfl rfl) rfl ?_; refine zh ?_
                    exact y7 (x := (2, fldA sp, fldA id, ⟨#[]⟩)) (3, fldA sp, fldA id, fldA rel) ⟨by dsimp only; omega, rfl, fun _ => i0 (by decide), fun _ => i1 (by decide), fun _ => hf⟩ (by dsimp only; omega) ⟨rfl, rfl, rfl, rfl, rfl, rfl, by rw [hv]; rfl, trivial⟩
                  · rw [if_neg (by rw [hfe]; exact h0), hfe] at hr
                    cases hr
                    refine zg ?_; refine z8 (id := 8) ?_; refine z7 (qe rfl rfl rfl rfl (decide_eq_true (by omega))) rfl ?_; refine zh ?_; refine zj ?_; refine zg ?_; refine qa rfl ?_; refine q9 ?_; refine zj ?_; refine zg ?_; refine qd ?_; refine zg ?_; refine z8 (id := 9) ?_; refine z7 (zf rfl rfl rfl) rfl ?_; refine z7 (ok_indexAg1 L _ rfl rfl rfl rfl ar122 rfl rfl (by first | omega | decide) rfl) rfl ?_; refine z7 (zi rfl rfl rfl) rfl ?_; refine z7 (zi rfl rfl rfl) rfl ?_; refine zh ?_; refine zj ?_; refine zg ?_; refine zg ?_; refine z8 (id := 10) ?_; refine z7 (zf rfl rfl rfl) rfl ?_; refine z7 (ok_seql rfl rfl rfl rfl (decide_eq_false (by assumption))) rfl ?_; refine zh ?_; refine zj ?_; refine q8 rfl ?_; refine q9 ?_; refine zj ?_; refine zg ?_; refine zg ?_; refine z8 (id := 11) ?_; refine z7 (zf rfl rfl rfl) rfl ?_; refine z7 (q6 L rfl rfl (zm rfl) rfl rfl rfl (fun u H hH _ _ => check_ret _ (by omega) hH)) rfl ?_; refine z7 (zi rfl rfl rfl) rfl ?_; refine zh ?_; refine zj ?_; refine zg ?_; refine z8 (id := 12) ?_; refine z7 (zf rfl rfl rfl) rfl ?_; refine z7 (yb rfl rfl rfl rfl (decide_eq_true (by omega))) rfl ?_; refine zh ?_; refine zj ?_; refine qa rfl ?_; refine zg ?_; refine z8 (id := 13) ?_; refine z7 (qv (cs := [_, _, _, _, _, _, _]) rfl rfl pl53 rfl rfl) rfl ?_; refine z7 (zf rfl rfl rfl) rfl ?_; refine z7 (qg L rfl rfl rfl rfl rfl rfl rfl rfl) rfl ?_; refine z7 (zi rfl rfl rfl) rfl ?_; refine zh ?_; refine zj ?_
                    refine qi L (rs := [.cell 2 53, .tmp 3]) rfl (fun _ _ h => h) Since.refl fun u H hH hle => ?_
                    refine resK_cellA (ql rfl) rfl rfl ?_
                    rfl
              · have hy : (y0, y1, y2) = (fldA sp, fldA id, fldA rel) := hy
                obtain ⟨rfl, rfl, rfl⟩ : y0 = fldA sp ∧ y1 = fldA id ∧ y2 = fldA rel := by simpa using hy
                rw [if_pos (i0 (by decide)), if_pos (i1 (by decide)), if_pos (i2 (by decide))] at hr
                cases ex
                · rw [if_neg (by decide)] at hr
                  cases hr
                  refine zg ?_; refine z8 (id := 8) ?_; refine z7 (qe rfl rfl rfl rfl (decide_eq_false (by omega))) rfl ?_; refine zh ?_; refine zj ?_; refine zg ?_; refine q8 rfl ?_; refine yi ?_; refine qu ?_; refine qu ?_; refine yh ?_; refine zj ?_; refine zg ?_; refine zg ?_; refine z8 (id := 16) ?_; refine z7 (zf rfl rfl rfl) rfl ?_; refine zh ?_; refine zj ?_; refine q8 rfl ?_; refine q9 ?_; refine zj ?_; refine zg ?_; refine z8 (id := 21) ?_; refine vo_stepR (ok_loadHA L (q := 902) (vs := [_, _, _, _, _, _, _]) rfl rfl rfl rfl rfl rfl ⟨_, rfl⟩) ?_; refine z7 (qg L rfl rfl rfl rfl rfl rfl rfl rfl) rfl ?_; refine z7 (zi rfl rfl rfl) rfl ?_; refine zh ?_; refine zj ?_
                  refine qi L (rs := [.cell 2 53, .tmp 3]) rfl (fun _ _ h => h) Since.refl fun u H hH hle => ?_
                  refine resK_cellA (ql rfl) rfl rfl ?_
                  rfl
                · rw [if_pos rfl] at hr
                  rcases hp : psA us with ⟨a, b', c, e'⟩
                  rw [hp] at hr
                  dsimp only at hr
                  by_cases he : e' = 0
                  · rw [if_pos he] at hr
                    cases hr
                    refine zg ?_; refine z8 (id := 8) ?_; refine z7 (qe rfl rfl rfl rfl (decide_eq_false (by omega))) rfl ?_; refine zh ?_; refine zj ?_; refine zg ?_; refine q8 rfl ?_; refine yi ?_; refine qu ?_; refine qu ?_; refine yh ?_; refine zj ?_; refine zg ?_; refine zg ?_; refine z8 (id := 16) ?_; refine z7 (zf rfl rfl rfl) rfl ?_; refine zh ?_; refine zj ?_; refine qa rfl ?_; refine zg ?_; refine z8 (id := 17) ?_; refine z7 (zf rfl rfl rfl) rfl ?_; refine z7 (q6 L rfl rfl (zm rfl) rfl rfl rfl (fun u H hH hle _ => ps_ret3 hp g3 hH (hM.mono hle))) rfl ?_; refine z7 (zf rfl rfl rfl) rfl ?_; refine z7 (qb rfl rfl rfl rfl) rfl ?_; refine z7 (qb rfl rfl rfl rfl) rfl ?_; refine z7 (qm L rfl rfl rfl rfl) rfl ?_; refine z7 (qg L rfl rfl rfl rfl rfl rfl rfl rfl) rfl ?_; refine z7 (zi rfl rfl rfl) rfl ?_; refine zh ?_; refine zj ?_; refine zg ?_; refine zg ?_; refine z8 (id := 18) ?_; refine z7 (zf rfl rfl rfl) rfl ?_; refine z7 (yb rfl rfl rfl rfl (decide_eq_false (by omega))) rfl ?_; refine zh ?_; refine zj ?_; refine q8 rfl ?_; refine q9 ?_; refine zj ?_; refine z8 (id := 20) ?_; refine z7 (zz L (vs := [_, _, _]) (ql rfl) rfl rfl rfl rfl ⟨_, rfl⟩) rfl ?_; refine z7 (q0 L rfl rfl rfl rfl) rfl ?_; refine vo_stepS (ok_storeH L (q := 902) rfl rfl rfl rfl rfl rfl rfl rfl rfl) ?_; refine zh ?_; refine zj ?_; refine zg ?_; refine z8 (id := 21) ?_; refine vo_stepR (ok_loadHA L (q := 902) (vs := [_, _, _, _, _, _, _]) rfl rfl rfl rfl rfl rfl ⟨_, rfl⟩) ?_; refine z7 (qg L rfl rfl rfl rfl rfl rfl rfl rfl) rfl ?_; refine z7 (zi rfl rfl rfl) rfl ?_; refine zh ?_; refine zj ?_
                    refine qi L (rs := [.cell 2 53, .tmp 3]) rfl (fun _ _ h => h) Since.refl fun u H hH hle => ?_
                    refine resK_cellA (ql rfl) rfl rfl ?_
                    rfl
                  · rw [if_neg he] at hr
                    cases hr
                    refine zg ?_; refine z8 (id := 8) ?_; refine z7 (qe rfl rfl rfl rfl (decide_eq_false (by omega))) rfl ?_; refine zh ?_; refine zj ?_; refine zg ?_; refine q8 rfl ?_; refine yi ?_; refine qu ?_; refine qu ?_; refine yh ?_; refine zj ?_; refine zg ?_; refine zg ?_; refine z8 (id := 16) ?_; refine z7 (zf rfl rfl rfl) rfl ?_; refine zh ?_; refine zj ?_; refine qa rfl ?_; refine zg ?_; refine z8 (id := 17) ?_; refine z7 (zf rfl rfl rfl) rfl ?_; refine z7 (q6 L rfl rfl (zm rfl) rfl rfl rfl (fun u H hH hle _ => ps_ret3 hp g3 hH (hM.mono hle))) rfl ?_; refine z7 (zf rfl rfl rfl) rfl ?_; refine z7 (qb rfl rfl rfl rfl) rfl ?_; refine z7 (qb rfl rfl rfl rfl) rfl ?_; refine z7 (qm L rfl rfl rfl rfl) rfl ?_; refine z7 (qg L rfl rfl rfl rfl rfl rfl rfl rfl) rfl ?_; refine z7 (zi rfl rfl rfl) rfl ?_; refine zh ?_; refine zj ?_; refine zg ?_; refine zg ?_; refine z8 (id := 18) ?_; refine z7 (zf rfl rfl rfl) rfl ?_; refine z7 (yb rfl rfl rfl rfl (decide_eq_true (by omega))) rfl ?_; refine zh ?_; refine zj ?_; refine qa rfl ?_; refine zg ?_; refine z8 (id := 19) ?_; refine z7 (qv (cs := [_, _, _, _, _, _, _]) rfl rfl pl53 rfl rfl) rfl ?_; refine z7 (zf rfl rfl rfl) rfl ?_; refine z7 (qg L rfl rfl rfl rfl rfl rfl rfl rfl) rfl ?_; refine z7 (zi rfl rfl rfl) rfl ?_; refine zh ?_; refine zj ?_
                    refine qi L (rs := [.cell 2 53, .tmp 3]) rfl (fun _ _ h => h) Since.refl fun u H hH hle => ?_
                    refine resK_cellA (ql rfl) rfl rfl ?_
                    rfl
              · omega
            · have hc : ¬ pfC us sp id rel true true = true := by unfold pfC; rw [c1, c4, c5, c6]; simp
              rw [if_neg hc] at hr
              cases hr
              refine z8 (id := 4) ?_; refine z7 (zf rfl rfl rfl) rfl ?_; refine z7 (q6 L rfl rfl (zm rfl) rfl rfl rfl (fun u H hH hle _ => contains_ret hH c1)) rfl ?_; refine z7 (zf rfl rfl rfl) rfl ?_; refine z7 (zf rfl rfl rfl) rfl ?_; refine z7 (yk rfl rfl rfl rfl) rfl ?_; refine z7 (zw rfl rfl rfl rfl) rfl ?_; refine z7 (zf rfl rfl rfl) rfl ?_; refine z7 (zf rfl rfl rfl) rfl ?_; refine z7 (yk rfl rfl rfl rfl) rfl ?_; refine z7 (zw rfl rfl rfl rfl) rfl ?_; refine z7 (zf rfl rfl rfl) rfl ?_; refine z7 (zf rfl rfl rfl) rfl ?_; refine z7 (q6 L rfl rfl (zm rfl) rfl rfl rfl (fun u H hH hle _ => contains_ret hH c4)) rfl ?_; refine z7 (zw rfl rfl rfl rfl) rfl ?_; refine z7 (zf rfl rfl rfl) rfl ?_; refine z7 (zf rfl rfl rfl) rfl ?_; refine z7 (q6 L rfl rfl (zm rfl) rfl rfl rfl (fun u H hH hle _ => any5 u H hH)) rfl ?_; refine z7 (zw rfl rfl rfl rfl) rfl ?_; refine z7 (zf rfl rfl rfl) rfl ?_; refine z7 (zf rfl rfl rfl) rfl ?_; refine z7 (q6 L rfl rfl (zm rfl) rfl rfl rfl (fun u H hH hle _ => contains_ret hH c6)) rfl ?_; refine z7 (zw rfl rfl rfl rfl) rfl ?_; refine zh ?_; refine zj ?_; refine qa rfl ?_; refine zg ?_; refine z8 (id := 5) ?_; refine z7 (qv (cs := [_, _, _, _, _, _, _]) rfl rfl pl53 rfl rfl) rfl ?_; refine z7 (qg L rfl rfl rfl rfl rfl rfl rfl rfl) rfl ?_; refine z7 (zi rfl rfl rfl) rfl ?_; refine zh ?_; refine zj ?_
              refine qi L (rs := [.cell 2 53, .tmp 3]) rfl (fun _ _ h => h) Since.refl fun u H hH hle => ?_
              refine resK_cellA (ql rfl) rfl rfl ?_
              rfl
          · have any5 : ∀ (w : World) (B : Heap), B.Le (hp w) → Ret Tryz.prog 72 [.string rel, .string ⟨#[58, 35]⟩] w B (fun v _ => v = .bool true) := fun w B h => by have := hany w B h; rwa [c5] at this
            have hc : ¬ pfC us sp id rel true true = true := by unfold pfC; rw [c5]; simp
            rw [if_neg hc] at hr
            cases hr
            refine z8 (id := 4) ?_; refine z7 (zf rfl rfl rfl) rfl ?_; refine z7 (q6 L rfl rfl (zm rfl) rfl rfl rfl (fun u H hH hle _ => contains_ret hH c1)) rfl ?_; refine z7 (zf rfl rfl rfl) rfl ?_; refine z7 (zf rfl rfl rfl) rfl ?_; refine z7 (yk rfl rfl rfl rfl) rfl ?_; refine z7 (zw rfl rfl rfl rfl) rfl ?_; refine z7 (zf rfl rfl rfl) rfl ?_; refine z7 (zf rfl rfl rfl) rfl ?_; refine z7 (yk rfl rfl rfl rfl) rfl ?_; refine z7 (zw rfl rfl rfl rfl) rfl ?_; refine z7 (zf rfl rfl rfl) rfl ?_; refine z7 (zf rfl rfl rfl) rfl ?_; refine z7 (q6 L rfl rfl (zm rfl) rfl rfl rfl (fun u H hH hle _ => contains_ret hH c4)) rfl ?_; refine z7 (zw rfl rfl rfl rfl) rfl ?_; refine z7 (zf rfl rfl rfl) rfl ?_; refine z7 (zf rfl rfl rfl) rfl ?_; refine z7 (q6 L rfl rfl (zm rfl) rfl rfl rfl (fun u H hH hle _ => any5 u H hH)) rfl ?_; refine z7 (zw rfl rfl rfl rfl) rfl ?_; refine z7 (zf rfl rfl rfl) rfl ?_; refine z7 (zn rfl (zm rfl) rfl) rfl ?_; refine z7 (zn rfl (zm rfl) rfl) rfl ?_; refine z7 (zw rfl rfl rfl rfl) rfl ?_; refine zh ?_; refine zj ?_; refine qa rfl ?_; refine zg ?_; refine z8 (id := 5) ?_; refine z7 (qv (cs := [_, _, _, _, _, _, _]) rfl rfl pl53 rfl rfl) rfl ?_; refine z7 (qg L rfl rfl rfl rfl rfl rfl rfl rfl) rfl ?_; refine z7 (zi rfl rfl rfl) rfl ?_; refine zh ?_; refine zj ?_
            refine qi L (rs := [.cell 2 53, .tmp 3]) rfl (fun _ _ h => h) Since.refl fun u H hH hle => ?_
            refine resK_cellA (ql rfl) rfl rfl ?_
            rfl
        · have hc : ¬ pfC us sp id rel true true = true := by unfold pfC; rw [c4]; simp
          rw [if_neg hc] at hr
          cases hr
          refine z8 (id := 4) ?_; refine z7 (zf rfl rfl rfl) rfl ?_; refine z7 (q6 L rfl rfl (zm rfl) rfl rfl rfl (fun u H hH hle _ => contains_ret hH c1)) rfl ?_; refine z7 (zf rfl rfl rfl) rfl ?_; refine z7 (zf rfl rfl rfl) rfl ?_; refine z7 (yk rfl rfl rfl rfl) rfl ?_; refine z7 (zw rfl rfl rfl rfl) rfl ?_; refine z7 (zf rfl rfl rfl) rfl ?_; refine z7 (zf rfl rfl rfl) rfl ?_; refine z7 (yk rfl rfl rfl rfl) rfl ?_; refine z7 (zw rfl rfl rfl rfl) rfl ?_; refine z7 (zf rfl rfl rfl) rfl ?_; refine z7 (zf rfl rfl rfl) rfl ?_; refine z7 (q6 L rfl rfl (zm rfl) rfl rfl rfl (fun u H hH hle _ => contains_ret hH c4)) rfl ?_; refine z7 (zw rfl rfl rfl rfl) rfl ?_; refine z7 (zf rfl rfl rfl) rfl ?_; refine z7 (zn rfl (zm rfl) rfl) rfl ?_; refine z7 (zn rfl (zm rfl) rfl) rfl ?_; refine z7 (zw rfl rfl rfl rfl) rfl ?_; refine z7 (zf rfl rfl rfl) rfl ?_; refine z7 (zn rfl (zm rfl) rfl) rfl ?_; refine z7 (zn rfl (zm rfl) rfl) rfl ?_; refine z7 (zw rfl rfl rfl rfl) rfl ?_; refine zh ?_; refine zj ?_; refine qa rfl ?_; refine zg ?_; refine z8 (id := 5) ?_; refine z7 (qv (cs := [_, _, _, _, _, _, _]) rfl rfl pl53 rfl rfl) rfl ?_; refine z7 (qg L rfl rfl rfl rfl rfl rfl rfl rfl) rfl ?_; refine z7 (zi rfl rfl rfl) rfl ?_; refine zh ?_; refine zj ?_
          refine qi L (rs := [.cell 2 53, .tmp 3]) rfl (fun _ _ h => h) Since.refl fun u H hH hle => ?_
          refine resK_cellA (ql rfl) rfl rfl ?_
          rfl
  · have hc : ¬ pfC us sp id rel colon mark = true := by unfold pfC; rw [c1]; simp
    rw [if_neg hc] at hr
    cases hr
    refine z8 (id := 4) ?_; refine z7 (zf rfl rfl rfl) rfl ?_; refine z7 (q6 L rfl rfl (zm rfl) rfl rfl rfl (fun u H hH hle _ => contains_ret hH c1)) rfl ?_; refine z7 (zf rfl rfl rfl) rfl ?_; refine z7 (zn rfl (zm rfl) rfl) rfl ?_; refine z7 (zn rfl (zm rfl) rfl) rfl ?_; refine z7 (zw rfl rfl rfl rfl) rfl ?_; refine z7 (zf rfl rfl rfl) rfl ?_; refine z7 (zn rfl (zm rfl) rfl) rfl ?_; refine z7 (zn rfl (zm rfl) rfl) rfl ?_; refine z7 (zw rfl rfl rfl rfl) rfl ?_; refine z7 (zf rfl rfl rfl) rfl ?_; refine z7 (zn rfl (zm rfl) rfl) rfl ?_; refine z7 (zn rfl (zm rfl) rfl) rfl ?_; refine z7 (zw rfl rfl rfl rfl) rfl ?_; refine z7 (zf rfl rfl rfl) rfl ?_; refine z7 (zn rfl (zm rfl) rfl) rfl ?_; refine z7 (zn rfl (zm rfl) rfl) rfl ?_; refine z7 (zw rfl rfl rfl rfl) rfl ?_; refine z7 (zf rfl rfl rfl) rfl ?_; refine z7 (zn rfl (zm rfl) rfl) rfl ?_; refine z7 (zn rfl (zm rfl) rfl) rfl ?_; refine z7 (zw rfl rfl rfl rfl) rfl ?_; refine zh ?_; refine zj ?_; refine qa rfl ?_; refine zg ?_; refine z8 (id := 5) ?_; refine z7 (qv (cs := [_, _, _, _, _, _, _]) rfl rfl pl53 rfl rfl) rfl ?_; refine z7 (qg L rfl rfl rfl rfl rfl rfl rfl rfl) rfl ?_; refine z7 (zi rfl rfl rfl) rfl ?_; refine zh ?_; refine zj ?_
    refine qi L (rs := [.cell 2 53, .tmp 3]) rfl (fun _ _ h => h) Since.refl fun u H hH hle => ?_
    refine resK_cellA (ql rfl) rfl rfl ?_
    rfl
end Go.V.L3
namespace Go.V.L3
open Go.Proofs Go.RowKit Go.V Go.V.L2
attribute [local irreducible] V N X VO Par StepOK Has Ret RetL RetO RetT Src
end Go.V.L3
namespace Go.V.L3
open Go.Proofs Go.RowKit Go.V Go.V.L2
attribute [local irreducible] V N X VO Par StepOK Has Ret RetL RetO RetT Src
end Go.V.L3
namespace Go.V
open Go.Proofs Go.RowKit
def spaceS (n : Nat) : ByteArray := match n % 3 with
  | 0 => ⟨#[100, 111, 99]⟩
  | 1 => ⟨#[102, 111, 108, 100, 101, 114]⟩
  | _ => ⟨#[103, 114, 111, 117, 112]⟩
def idS (n : Nat) : ByteArray := match n % 5 with
  | 0 => ⟨#[97]⟩
  | 1 => ⟨#[98]⟩
  | 2 => ⟨#[99, 49]⟩
  | 3 => ⟨#[100]⟩
  | _ => ⟨#[114, 111, 111, 116]⟩
def relS (n : Nat) : ByteArray := match n % 4 with
  | 0 => ⟨#[118, 105, 101, 119, 101, 114]⟩
  | 1 => ⟨#[101, 100, 105, 116, 111, 114]⟩
  | 2 => ⟨#[109, 101, 109, 98, 101, 114]⟩
  | _ => ⟨#[112, 97, 114, 101, 110, 116]⟩
theorem spaceS_ok (n : Nat) : chk (spaceS n) = 0 ∧ (spaceS n).size ≤ 16 := by
  unfold spaceS
  split <;> decide +kernel
theorem idS_ok (n : Nat) : chk (idS n) = 0 ∧ (idS n).size ≤ 16 := by
  unfold idS
  split <;> decide +kernel
theorem relS_ok (n : Nat) : chk (relS n) = 0 ∧ (relS n).size ≤ 16 := by
  unfold relS
  split <;> decide +kernel
def goalS (n : Nat) : (ByteArray × ByteArray) × ByteArray := ((spaceS n, idS (n / 3)), relS (n / 15))
theorem goalS_ok (n : Nat) : allE [(goalS n).1.1, (goalS n).1.2, (goalS n).2] = 0 := by
  simp only [allE, goalS, (spaceS_ok _).1, (idS_ok _).1, (relS_ok _).1, if_pos]
theorem goalS_size (n : Nat) : (goalS n).1.1.size ≤ 16 ∧ (goalS n).1.2.size ≤ 16 ∧ (goalS n).2.size ≤ 16 := ⟨(spaceS_ok _).2, (idS_ok _).2, (relS_ok _).2⟩
end Go.V
namespace Go.V
open Go.Proofs Go.RowKit
attribute [local irreducible] V N X VO Par StepOK Has Ret RetL Src
theorem space_ret (n : Nat) {w : World} {B : Heap} (hB : B.Le (hp w)) : Ret Tryz.prog 32 [.int .i64 n] w B (fun v _ => v = .string (spaceS n)) := by
  unfold spaceS
  have e : Int.tmod (n : Int) 3 = ((n % 3 : Nat) : Int) := rfl
  refine qx Tryz.func32 rfl Tryz.ntmps32 (Nat.le_of_ble_eq_true rfl) hB ?_
  have hlt := Nat.mod_lt n (show 0 < 3 by decide)
  rcases (by omega : n % 3 = 0 ∨ n % 3 = 1 ∨ n % 3 = 2) with h | h | h
  · have e0 : Int.tmod (n : Int) 3 = 0 := by rw [e, h]; rfl
    rw [h]
    refine zg ?_; refine z8 (id := 0) ?_; refine z7 (zi rfl rfl rfl) rfl ?_; refine zh ?_; refine zj ?_; refine zg ?_; refine z8 (id := 1) ?_; refine z7 (qw L rfl rfl rfl rfl rfl rfl rfl rfl rfl) rfl ?_; refine z7 (zf rfl rfl rfl) rfl ?_; refine z7 (ok_rem rfl rfl rfl rfl (by omega) (by assumption)) rfl ?_; refine z7 (ye L 0 rfl rfl rfl rfl rfl rfl rfl (by omega)) rfl ?_; refine z7 (zo L (zq rfl) rfl rfl rfl rfl) rfl ?_; refine z7 (zi rfl rfl rfl) rfl ?_; refine zh ?_; refine zj ?_
    refine qi L (rs := [.tmp 2]) rfl (fun _ _ h => h) Since.refl fun u H hH hle => ?_
    rfl
  · have e0 : Int.tmod (n : Int) 3 = 1 := by rw [e, h]; rfl
    rw [h]
    refine zg ?_; refine z8 (id := 0) ?_; refine z7 (zi rfl rfl rfl) rfl ?_; refine zh ?_; refine zj ?_; refine zg ?_; refine z8 (id := 1) ?_; refine z7 (qw L rfl rfl rfl rfl rfl rfl rfl rfl rfl) rfl ?_; refine z7 (zf rfl rfl rfl) rfl ?_; refine z7 (ok_rem rfl rfl rfl rfl (by omega) (by assumption)) rfl ?_; refine z7 (ye L 1 rfl rfl rfl rfl rfl rfl rfl (by omega)) rfl ?_; refine z7 (zo L (zq rfl) rfl rfl rfl rfl) rfl ?_; refine z7 (zi rfl rfl rfl) rfl ?_; refine zh ?_; refine zj ?_
    refine qi L (rs := [.tmp 2]) rfl (fun _ _ h => h) Since.refl fun u H hH hle => ?_
    rfl
  · have e0 : Int.tmod (n : Int) 3 = 2 := by rw [e, h]; rfl
    rw [h]
    refine zg ?_; refine z8 (id := 0) ?_; refine z7 (zi rfl rfl rfl) rfl ?_; refine zh ?_; refine zj ?_; refine zg ?_; refine z8 (id := 1) ?_; refine z7 (qw L rfl rfl rfl rfl rfl rfl rfl rfl rfl) rfl ?_; refine z7 (zf rfl rfl rfl) rfl ?_; refine z7 (ok_rem rfl rfl rfl rfl (by omega) (by assumption)) rfl ?_; refine z7 (ye L 2 rfl rfl rfl rfl rfl rfl rfl (by omega)) rfl ?_; refine z7 (zo L (zq rfl) rfl rfl rfl rfl) rfl ?_; refine z7 (zi rfl rfl rfl) rfl ?_; refine zh ?_; refine zj ?_
    refine qi L (rs := [.tmp 2]) rfl (fun _ _ h => h) Since.refl fun u H hH hle => ?_
    rfl
theorem id_ret (n : Nat) {w : World} {B : Heap} (hB : B.Le (hp w)) : Ret Tryz.prog 33 [.int .i64 n] w B (fun v _ => v = .string (idS n)) := by
  unfold idS
  have e : Int.tmod (n : Int) 5 = ((n % 5 : Nat) : Int) := rfl
  refine qx Tryz.func33 rfl Tryz.ntmps33 (Nat.le_of_ble_eq_true rfl) hB ?_
  have hlt := Nat.mod_lt n (show 0 < 5 by decide)
  rcases (by omega : n % 5 = 0 ∨ n % 5 = 1 ∨ n % 5 = 2 ∨ n % 5 = 3 ∨ n % 5 = 4) with h | h | h | h | h
  · have e0 : Int.tmod (n : Int) 5 = 0 := by rw [e, h]; rfl
    rw [h]
    refine zg ?_; refine z8 (id := 0) ?_; refine z7 (zi rfl rfl rfl) rfl ?_; refine zh ?_; refine zj ?_; refine zg ?_; refine z8 (id := 1) ?_; refine z7 (qw L rfl rfl rfl rfl rfl rfl rfl rfl rfl) rfl ?_; refine z7 (zf rfl rfl rfl) rfl ?_; refine z7 (ok_rem rfl rfl rfl rfl (by omega) (by assumption)) rfl ?_; refine z7 (ye L 0 rfl rfl rfl rfl rfl rfl rfl (by omega)) rfl ?_; refine z7 (zo L (zq rfl) rfl rfl rfl rfl) rfl ?_; refine z7 (zi rfl rfl rfl) rfl ?_; refine zh ?_; refine zj ?_
    refine qi L (rs := [.tmp 2]) rfl (fun _ _ h => h) Since.refl fun u H hH hle => ?_
    rfl
  · have e0 : Int.tmod (n : Int) 5 = 1 := by rw [e, h]; rfl
    rw [h]
    refine zg ?_; refine z8 (id := 0) ?_; refine z7 (zi rfl rfl rfl) rfl ?_; refine zh ?_; refine zj ?_; refine zg ?_; refine z8 (id := 1) ?_; refine z7 (qw L rfl rfl rfl rfl rfl rfl rfl rfl rfl) rfl ?_; refine z7 (zf rfl rfl rfl) rfl ?_; refine z7 (ok_rem rfl rfl rfl rfl (by omega) (by assumption)) rfl ?_; refine z7 (ye L 1 rfl rfl rfl rfl rfl rfl rfl (by omega)) rfl ?_; refine z7 (zo L (zq rfl) rfl rfl rfl rfl) rfl ?_; refine z7 (zi rfl rfl rfl) rfl ?_; refine zh ?_; refine zj ?_
    refine qi L (rs := [.tmp 2]) rfl (fun _ _ h => h) Since.refl fun u H hH hle => ?_
    rfl
  · have e0 : Int.tmod (n : Int) 5 = 2 := by rw [e, h]; rfl
    rw [h]
    refine zg ?_; refine z8 (id := 0) ?_; refine z7 (zi rfl rfl rfl) rfl ?_; refine zh ?_; refine zj ?_; refine zg ?_; refine z8 (id := 1) ?_; refine z7 (qw L rfl rfl rfl rfl rfl rfl rfl rfl rfl) rfl ?_; refine z7 (zf rfl rfl rfl) rfl ?_; refine z7 (ok_rem rfl rfl rfl rfl (by omega) (by assumption)) rfl ?_; refine z7 (ye L 2 rfl rfl rfl rfl rfl rfl rfl (by omega)) rfl ?_; refine z7 (zo L (zq rfl) rfl rfl rfl rfl) rfl ?_; refine z7 (zi rfl rfl rfl) rfl ?_; refine zh ?_; refine zj ?_
    refine qi L (rs := [.tmp 2]) rfl (fun _ _ h => h) Since.refl fun u H hH hle => ?_
    rfl
  · have e0 : Int.tmod (n : Int) 5 = 3 := by rw [e, h]; rfl
    rw [h]
    refine zg ?_; refine z8 (id := 0) ?_; refine z7 (zi rfl rfl rfl) rfl ?_; refine zh ?_; refine zj ?_; refine zg ?_; refine z8 (id := 1) ?_; refine z7 (qw L rfl rfl rfl rfl rfl rfl rfl rfl rfl) rfl ?_; refine z7 (zf rfl rfl rfl) rfl ?_; refine z7 (ok_rem rfl rfl rfl rfl (by omega) (by assumption)) rfl ?_; refine z7 (ye L 3 rfl rfl rfl rfl rfl rfl rfl (by omega)) rfl ?_; refine z7 (zo L (zq rfl) rfl rfl rfl rfl) rfl ?_; refine z7 (zi rfl rfl rfl) rfl ?_; refine zh ?_; refine zj ?_
    refine qi L (rs := [.tmp 2]) rfl (fun _ _ h => h) Since.refl fun u H hH hle => ?_
    rfl
  · have e0 : Int.tmod (n : Int) 5 = 4 := by rw [e, h]; rfl
    rw [h]
    refine zg ?_; refine z8 (id := 0) ?_; refine z7 (zi rfl rfl rfl) rfl ?_; refine zh ?_; refine zj ?_; refine zg ?_; refine z8 (id := 1) ?_; refine z7 (qw L rfl rfl rfl rfl rfl rfl rfl rfl rfl) rfl ?_; refine z7 (zf rfl rfl rfl) rfl ?_; refine z7 (ok_rem rfl rfl rfl rfl (by omega) (by assumption)) rfl ?_; refine z7 (ye L 4 rfl rfl rfl rfl rfl rfl rfl (by omega)) rfl ?_; refine z7 (zo L (zq rfl) rfl rfl rfl rfl) rfl ?_; refine z7 (zi rfl rfl rfl) rfl ?_; refine zh ?_; refine zj ?_
    refine qi L (rs := [.tmp 2]) rfl (fun _ _ h => h) Since.refl fun u H hH hle => ?_
    rfl
theorem rel_ret (n : Nat) {w : World} {B : Heap} (hB : B.Le (hp w)) : Ret Tryz.prog 34 [.int .i64 n] w B (fun v _ => v = .string (relS n)) := by
  unfold relS
  have e : Int.tmod (n : Int) 4 = ((n % 4 : Nat) : Int) := rfl
  refine qx Tryz.func34 rfl Tryz.ntmps34 (Nat.le_of_ble_eq_true rfl) hB ?_
  have hlt := Nat.mod_lt n (show 0 < 4 by decide)
  rcases (by omega : n % 4 = 0 ∨ n % 4 = 1 ∨ n % 4 = 2 ∨ n % 4 = 3) with h | h | h | h
  · have e0 : Int.tmod (n : Int) 4 = 0 := by rw [e, h]; rfl
    rw [h]
    refine zg ?_; refine z8 (id := 0) ?_; refine z7 (zi rfl rfl rfl) rfl ?_; refine zh ?_; refine zj ?_; refine zg ?_; refine z8 (id := 1) ?_; refine z7 (qw L rfl rfl rfl rfl rfl rfl rfl rfl rfl) rfl ?_; refine z7 (zf rfl rfl rfl) rfl ?_; refine z7 (ok_rem rfl rfl rfl rfl (by omega) (by assumption)) rfl ?_; refine z7 (ye L 0 rfl rfl rfl rfl rfl rfl rfl (by omega)) rfl ?_; refine z7 (zo L (zq rfl) rfl rfl rfl rfl) rfl ?_; refine z7 (zi rfl rfl rfl) rfl ?_; refine zh ?_; refine zj ?_
    refine qi L (rs := [.tmp 2]) rfl (fun _ _ h => h) Since.refl fun u H hH hle => ?_
    rfl
  · have e0 : Int.tmod (n : Int) 4 = 1 := by rw [e, h]; rfl
    rw [h]
    refine zg ?_; refine z8 (id := 0) ?_; refine z7 (zi rfl rfl rfl) rfl ?_; refine zh ?_; refine zj ?_; refine zg ?_; refine z8 (id := 1) ?_; refine z7 (qw L rfl rfl rfl rfl rfl rfl rfl rfl rfl) rfl ?_; refine z7 (zf rfl rfl rfl) rfl ?_; refine z7 (ok_rem rfl rfl rfl rfl (by omega) (by assumption)) rfl ?_; refine z7 (ye L 1 rfl rfl rfl rfl rfl rfl rfl (by omega)) rfl ?_; refine z7 (zo L (zq rfl) rfl rfl rfl rfl) rfl ?_; refine z7 (zi rfl rfl rfl) rfl ?_; refine zh ?_; refine zj ?_
    refine qi L (rs := [.tmp 2]) rfl (fun _ _ h => h) Since.refl fun u H hH hle => ?_
    rfl
  · have e0 : Int.tmod (n : Int) 4 = 2 := by rw [e, h]; rfl
    rw [h]
    refine zg ?_; refine z8 (id := 0) ?_; refine z7 (zi rfl rfl rfl) rfl ?_; refine zh ?_; refine zj ?_; refine zg ?_; refine z8 (id := 1) ?_; refine z7 (qw L rfl rfl rfl rfl rfl rfl rfl rfl rfl) rfl ?_; refine z7 (zf rfl rfl rfl) rfl ?_; refine z7 (ok_rem rfl rfl rfl rfl (by omega) (by assumption)) rfl ?_; refine z7 (ye L 2 rfl rfl rfl rfl rfl rfl rfl (by omega)) rfl ?_; refine z7 (zo L (zq rfl) rfl rfl rfl rfl) rfl ?_; refine z7 (zi rfl rfl rfl) rfl ?_; refine zh ?_; refine zj ?_
    refine qi L (rs := [.tmp 2]) rfl (fun _ _ h => h) Since.refl fun u H hH hle => ?_
    rfl
  · have e0 : Int.tmod (n : Int) 4 = 3 := by rw [e, h]; rfl
    rw [h]
    refine zg ?_; refine z8 (id := 0) ?_; refine z7 (zi rfl rfl rfl) rfl ?_; refine zh ?_; refine zj ?_; refine zg ?_; refine z8 (id := 1) ?_; refine z7 (qw L rfl rfl rfl rfl rfl rfl rfl rfl rfl) rfl ?_; refine z7 (zf rfl rfl rfl) rfl ?_; refine z7 (ok_rem rfl rfl rfl rfl (by omega) (by assumption)) rfl ?_; refine z7 (ye L 3 rfl rfl rfl rfl rfl rfl rfl (by omega)) rfl ?_; refine z7 (zo L (zq rfl) rfl rfl rfl rfl) rfl ?_; refine z7 (zi rfl rfl rfl) rfl ?_; refine zh ?_; refine zj ?_
    refine qi L (rs := [.tmp 2]) rfl (fun _ _ h => h) Since.refl fun u H hH hle => ?_
    rfl
end Go.V
namespace Go.V.L2
open Go.Proofs Go.RowKit Go.V
def subS (s : Nat) : Str3 := ((spaceS s, idS (s / 3)), if 15 ≤ s then relS (s / 15 - 1) else ⟨#[]⟩)
def oneT (a b : Nat) : U := (goalS (a % 60), subS (b % 75))
abbrev ty2 : TypeId := 28
def pcs (p : Nat × Nat) : List Value := [.int .u8 p.1, .int .u8 p.2]
theorem pcs_len (p : Nat × Nat) : (pcs p).length = 2 := rfl
abbrev PS2 (ps : List (Nat × Nat)) (fu : Bool) : Value → Heap → Prop := SlV ty2 2 (ps.flatMap pcs) ps.length fu
theorem ps_at {ps : List (Nat × Nat)} {j : Nat} {a b : Nat} (h : ps[j]? = some (a, b)) : ((ps.flatMap pcs).drop (j * 2)).take 2 = [.int .u8 a, .int .u8 b] := flatMap_at pcs_len ps j _ h
def tl (ps : List (Nat × Nat)) : List U := (ps.take 20).map fun p => oneT p.1 p.2
theorem tl_length (ps : List (Nat × Nat)) : (tl ps).length = min 20 ps.length := by simp [tl]
theorem tl_get {ps : List (Nat × Nat)} {i a b : Nat} (h : ps[i]? = some (a, b)) (hi : i < 20) : (tl ps)[i]? = some (oneT a b) := by
  unfold tl
  rw [List.getElem?_map, List.getElem?_take_of_lt hi, h]; rfl
theorem subS_size (s : Nat) : (subS s).1.1.size ≤ 16 ∧ (subS s).1.2.size ≤ 16 ∧ (subS s).2.size ≤ 16 := by
  refine ⟨(spaceS_ok _).2, (idS_ok _).2, ?_⟩
  unfold subS
  dsimp only
  split
  · exact (relS_ok _).2
  · decide
theorem oneT_size (a b : Nat) : TZ (oneT a b) := by
  have h1 := goalS_size (a % 60)
  have h2 := subS_size (b % 75)
  unfold TZ oneT
  dsimp only
  refine ⟨⟨?_, ?_, ?_⟩, ?_, ?_, ?_⟩ <;> omega
theorem oneT_ok (a b : Nat) : tE (oneT a b) = 0 := by
  unfold tE oneT
  dsimp only
  rw [if_pos (goalS_ok _)]
  unfold subS subjE
  dsimp only
  by_cases h : 15 ≤ b % 75
  · rw [if_pos h]
    split
    · simp only [allE, (spaceS_ok _).1, (idS_ok _).1, if_pos]
    · simp only [allE, (spaceS_ok _).1, (idS_ok _).1, (relS_ok _).1, if_pos]
  · rw [if_neg h, if_pos rfl]
    simp only [allE, (spaceS_ok _).1, (idS_ok _).1, if_pos]
theorem tl_mem {ps : List (Nat × Nat)} {t : U} (h : t ∈ tl ps) : TZ t ∧ tE t = 0 := by
  obtain ⟨p, _, rfl⟩ := List.mem_map.1 h
  exact ⟨oneT_size _ _, oneT_ok _ _⟩
attribute [local irreducible] V N X VO Par StepOK Has Ret RetL Src
set_option maxHeartbeats 1000000 in
theorem one02_ret (a b : Nat) (ha : a ≤ 255) (hb : b ≤ 255) {w : World} {B : Heap} (hB : B.Le (hp w)) : Ret Tryz.prog 9 [.agg #[.int .u8 a, .int .u8 b]] w B (fun v _ => v = uv (oneT a b)) := by
  have e60 : Int.tmod (a : Int) 60 = ((a % 60 : Nat) : Int) := rfl
  have e75 : Int.tmod (b : Int) 75 = ((b % 75 : Nat) : Int) := rfl
  have hlt := Nat.mod_lt a (show 0 < 60 by decide)
  have hlt2 := Nat.mod_lt b (show 0 < 75 by decide)
  unfold oneT
  generalize a % 60 = m at e60 hlt
  generalize b % 75 = s at e75 hlt2
  have q1 : (m : Int).tdiv 3 = ((m / 3 : Nat) : Int) := rfl
  have q2 : (m : Int).tdiv 15 = ((m / 15 : Nat) : Int) := rfl
  have q3 : (s : Int).tdiv 3 = ((s / 3 : Nat) : Int) := rfl
  have q4 : (s : Int).tdiv 15 = ((s / 15 : Nat) : Int) := rfl
  have d1 : IntKind.i64.wrap ((m : Int).tdiv 3) = ((m / 3 : Nat) : Int) := wrap_i64 (by omega) (by omega)
  have d2 : IntKind.i64.wrap ((m : Int).tdiv 15) = ((m / 15 : Nat) : Int) := wrap_i64 (by omega) (by omega)
  have d3 : IntKind.i64.wrap ((s : Int).tdiv 3) = ((s / 3 : Nat) : Int) := wrap_i64 (by omega) (by omega)
  have d4 : IntKind.i64.wrap ((s : Int).tdiv 15) = ((s / 15 : Nat) : Int) := wrap_i64 (by omega) (by omega)
  unfold goalS subS
  refine qx Tryz.func9 rfl Tryz.ntmps9 (Nat.le_of_ble_eq_true rfl) hB ?_
  refine zg ?_; refine z8 (id := 0) ?_; refine z7 (qf rfl rfl rfl rfl) rfl ?_; refine z7 (qm L rfl rfl rfl rfl) rfl ?_; refine zh ?_; refine zj ?_; refine zg ?_; refine qj (id := 1) [] mixed (by kernel_rfl) ?_; refine zd (ok_indexArS L _ rfl rfl rfl rfl ar28 rfl rfl (by first | omega | decide)) rfl ?_; refine zd (zo L (zq rfl) rfl rfl rfl rfl) rfl ?_; refine zd (ok_rem rfl rfl rfl rfl (by omega) (by assumption)) rfl ?_; refine zd (ok_conv rfl rfl rfl cv5_3.1 cv5_3.2 (wrap_i64 (by omega) (by omega))) rfl ?_; refine zd (ok_indexArS L _ rfl rfl rfl rfl ar28 rfl rfl (by first | omega | decide)) rfl ?_; refine zd (zo L (zq rfl) rfl rfl rfl rfl) rfl ?_; refine zd (ok_rem rfl rfl rfl rfl (by omega) (by assumption)) rfl ?_; refine zd (ok_conv rfl rfl rfl cv5_3.1 cv5_3.2 (wrap_i64 (by omega) (by omega))) rfl ?_; refine zd (zi rfl rfl rfl) rfl ?_; refine zd (zi rfl rfl rfl) rfl ?_; refine qq ?_; refine zj ?_; refine zg ?_; refine z8 (id := 2) ?_; refine z7 (zf rfl rfl rfl) rfl ?_; refine z7 (q6 L rfl rfl (zm rfl) rfl rfl rfl (fun u H hH _ _ => space_ret _ hH)) rfl ?_; refine z7 (zf rfl rfl rfl) rfl ?_; refine z7 (ok_quo rfl rfl rfl rfl (by omega) (by assumption)) rfl ?_; refine z7 (q6 L rfl rfl (zm rfl) rfl rfl rfl (fun u H hH _ _ => id_ret _ hH)) rfl ?_; refine z7 (qv (cs := [_, _]) rfl rfl pl45 rfl rfl) rfl ?_; refine z7 (zf rfl rfl rfl) rfl ?_; refine z7 (ok_quo rfl rfl rfl rfl (by omega) (by assumption)) rfl ?_; refine z7 (q6 L rfl rfl (zm rfl) rfl rfl rfl (fun u H hH _ _ => rel_ret _ hH)) rfl ?_; refine z7 (qv (cs := [_, _, _]) rfl rfl pl47 rfl rfl) rfl ?_; refine z7 (zf rfl rfl rfl) rfl ?_; refine z7 (q6 L rfl rfl (zm rfl) rfl rfl rfl (fun u H hH _ _ => space_ret _ hH)) rfl ?_; refine z7 (zf rfl rfl rfl) rfl ?_; refine z7 (ok_quo rfl rfl rfl rfl (by omega) (by assumption)) rfl ?_; refine z7 (q6 L rfl rfl (zm rfl) rfl rfl rfl (fun u H hH _ _ => id_ret _ hH)) rfl ?_; refine z7 (qv (cs := [_, _]) rfl rfl pl45 rfl rfl) rfl ?_; refine z7 (qv (cs := [_, _, _]) rfl rfl pl48 rfl rfl) rfl ?_; refine z7 (qv (cs := [_, _, _, _, _, _]) rfl rfl pl50 rfl rfl) rfl ?_; refine z7 (qm L rfl rfl rfl rfl) rfl ?_; refine z7 (qg L rfl rfl rfl rfl rfl rfl rfl rfl) rfl ?_; refine zh ?_; refine zj ?_; refine zg ?_; refine zg ?_
  by_cases h : 15 ≤ s
  · rw [if_pos h]
    have hs1 : IntKind.i64.wrap (((s / 15 : Nat) : Int) - 1) = ((s / 15 - 1 : Nat) : Int) := (wrap_i64 (by omega) (by omega)).trans (by omega)
    refine V_box 5 rfl fun b5 hb5 => ?_
    refine z8 (id := 3) ?_; refine z7 (zf rfl rfl rfl) rfl ?_; refine z7 (ok_geq rfl rfl rfl rfl (decide_eq_true (by omega))) rfl ?_; refine zh ?_; refine zj ?_; refine qa rfl ?_; refine z8 (id := 4) ?_; refine z7 (zf rfl rfl rfl) rfl ?_; refine z7 (ok_quo rfl rfl rfl rfl (by omega) (by assumption)) rfl ?_; refine z7 (ok_sub rfl rfl rfl rfl (by assumption)) rfl ?_; refine z7 (q6 L rfl rfl (zm rfl) rfl rfl rfl (fun u H hH _ _ => rel_ret _ hH)) rfl ?_; refine z7 (q0 L rfl rfl rfl rfl) rfl ?_; refine z7 (q0 L rfl rfl rfl rfl) rfl ?_; refine box_store L (O1 := []) rfl rfl rfl rfl rfl rfl rfl rfl rfl ?_; refine zh ?_; refine zj ?_; refine zg ?_; refine z8 (id := 5) ?_; refine z7 (zz L (vs := [_, _, _, _, _, _]) (qk rfl (List.Mem.head _)) rfl rfl rfl rfl ⟨_, rfl⟩) rfl ?_; refine z7 (qg L rfl rfl rfl rfl rfl rfl rfl rfl) rfl ?_; refine zh ?_; refine zj ?_
    refine qi L (rs := [.cell 2 50]) rfl (fun _ _ h => h) Since.refl fun u H hH hle => ?_
    refine resK_cellA (ql rfl) rfl rfl ?_
    rfl
  · rw [if_neg h]
    refine z8 (id := 3) ?_; refine z7 (zf rfl rfl rfl) rfl ?_; refine z7 (ok_geq rfl rfl rfl rfl (decide_eq_false (by omega))) rfl ?_; refine zh ?_; refine zj ?_; refine q8 rfl ?_; refine q9 ?_; refine zj ?_; refine zg ?_; refine z8 (id := 5) ?_; refine z7 (zz L (vs := [_, _, _, _, _, _]) (ql rfl) rfl rfl rfl rfl ⟨_, rfl⟩) rfl ?_; refine z7 (qg L rfl rfl rfl rfl rfl rfl rfl rfl) rfl ?_; refine zh ?_; refine zj ?_
    refine qi L (rs := [.cell 2 50]) rfl (fun _ _ h => h) Since.refl fun u H hH hle => ?_
    refine resK_cellA (ql rfl) rfl rfl ?_
    rfl
set_option maxHeartbeats 1000000 in
theorem tof_ret {ps : List (Nat × Nat)} {fu : Bool} (hps : ∀ p ∈ ps, p.1 ≤ 255 ∧ p.2 ≤ 255) (hlen : ps.length ≤ 9223372036854775807) {sv : Value} {w : World} {B : Heap} (hB : B.Le (hp w)) (hv : PS2 ps fu sv B) :
    Ret Tryz.prog 27 [.agg #[sv]] w B (US (tl ps) false) := by
  refine qx Tryz.func27 rfl Tryz.ntmps27 (Nat.le_of_ble_eq_true rfl) hB ?_
  refine zg ?_; refine z8 (id := 0) ?_; refine z7 (qf rfl rfl rfl rfl) rfl ?_; refine z7 (zi rfl rfl rfl) rfl ?_; refine zh ?_; refine zj ?_; refine zg ?_; refine z8 (id := 1) ?_; refine z7 (zi rfl rfl rfl) rfl ?_; refine zh ?_; refine zj ?_; refine zg ?_; refine zg ?_
  refine V_nilR 3 tyU 6 rfl ?_
  refine z8 (id := 2) ?_; refine z7 (zi rfl rfl rfl) rfl ?_; refine zh ?_; refine zj ?_; refine qd ?_
  have hll := tl_length ps
  refine V_loop (fun i : Nat => [(1, .sat (At [sv] 24 0)), (3, .own (SlR tyU 6 ((tl ps).take i).length (((tl ps).take i).flatMap ucs))), (4, .is (.int .i64 i))])
    (fun i => i ≤ (tl ps).length) (fun i => (tl ps).length - i) 0 (Nat.zero_le _) ⟨rfl, rfl, rfl, trivial⟩ ?_
  rintro i hi
  have hli := List.length_take (i := i) (l := tl ps)
  by_cases h1 : i < ps.length
  · by_cases h2 : i < 20
    · obtain ⟨⟨a, b⟩, hn⟩ := get_some h1
      have hc := ps_at hn
      have hab := hps _ (List.mem_of_getElem? hn)
      have hg := tl_get hn h2
      generalize hgg : oneT a b = t at hg
      refine zg ?_; refine zg ?_; refine z8 (id := 3) ?_; refine z7 (zf rfl rfl rfl) rfl ?_; refine z7 (zk L rfl rfl rfl rfl) rfl ?_; refine z7 (zo L (zq rfl) rfl rfl rfl rfl) rfl ?_; refine vo_seen 7 (PS2 ps fu) rfl SlV.mono hv ?_; refine z7 (yc L rfl rfl rfl rfl) rfl ?_; refine z7 (qe rfl rfl rfl rfl (decide_eq_true (by omega))) rfl ?_; refine z7 (zf rfl rfl rfl) rfl ?_; refine z7 (zf rfl rfl rfl) rfl ?_; refine z7 (qe rfl rfl rfl rfl (decide_eq_true (by omega))) rfl ?_; refine z7 (zw rfl rfl rfl rfl) rfl ?_; refine zh ?_; refine zj ?_; refine qa rfl ?_; refine q9 ?_; refine zj ?_; refine zg ?_; refine qd ?_; refine z8 (id := 5) ?_; refine qn (y9 (.inl rfl) rfl rfl rfl rfl) ?_; refine z7 (zk L rfl rfl rfl rfl) rfl ?_; refine z7 (zo L (zq rfl) rfl rfl rfl rfl) rfl ?_; refine vo_seen 18 (PS2 ps fu) rfl SlV.mono hv ?_; refine z7 (zf rfl rfl rfl) rfl ?_; refine z7 (qo L _ rfl rfl rfl rfl rfl rfl rfl (by first | omega | decide) (by assumption)) rfl ?_; refine z7 (qt L (vs := [_, _]) rfl rfl rfl rfl rfl ⟨_, rfl⟩) rfl ?_; refine z7 (q6 (r := uv t) L rfl rfl (zm rfl) rfl rfl rfl (fun u H hH _ _ => hgg ▸ one02_ret a b hab.1 hab.2 hH)) rfl ?_; refine z7 (qw L rfl rfl rfl rfl rfl rfl rfl rfl rfl) rfl ?_; refine qn (ok_append L rfl rfl rfl (apd_B rfl) rfl el50 rfl rfl (by omega) (by omega)) ?_; refine qn (y9 (.inr rfl) rfl rfl rfl rfl) ?_; refine zh ?_; refine qr ?_; refine zj ?_; refine z8 (id := 4) ?_; refine z7 (zf rfl rfl rfl) rfl ?_; refine z7 (qy rfl rfl rfl rfl (wrap_i64 (by omega) (by omega))) rfl ?_; refine z7 (zi rfl rfl rfl) rfl ?_; refine zh ?_
      exact y7 (x := i) (i + 1) (by omega) (by omega) ⟨rfl, by rw [take_s hg]; exact ups_snoc rfl, rfl, trivial⟩
    · obtain rfl : i = (tl ps).length := by omega
      rw [List.take_length]
      refine zg ?_; refine zg ?_; refine z8 (id := 3) ?_; refine z7 (zf rfl rfl rfl) rfl ?_; refine z7 (zk L rfl rfl rfl rfl) rfl ?_; refine z7 (zo L (zq rfl) rfl rfl rfl rfl) rfl ?_; refine vo_seen 7 (PS2 ps fu) rfl SlV.mono hv ?_; refine z7 (yc L rfl rfl rfl rfl) rfl ?_; refine z7 (qe rfl rfl rfl rfl (decide_eq_true (by omega))) rfl ?_; refine z7 (zf rfl rfl rfl) rfl ?_; refine z7 (zf rfl rfl rfl) rfl ?_; refine z7 (qe rfl rfl rfl rfl (decide_eq_false (by omega))) rfl ?_; refine z7 (zw rfl rfl rfl rfl) rfl ?_; refine zh ?_; refine zj ?_; refine q8 rfl ?_; refine yi ?_; refine qu ?_; refine qu ?_; refine yh ?_; refine zj ?_; refine zg ?_; refine z8 (id := 6) ?_; refine qn (y9 (.inl rfl) rfl rfl rfl rfl) ?_; refine qn (y9 (.inr rfl) rfl rfl rfl rfl) ?_; refine zh ?_; refine zj ?_
      refine V_pubR 2 rfl ?_
      refine qi L (rs := [.tmp 2]) rfl (fun _ _ h => h) Since.refl fun u H hH hle => ?_
      exact fun v hv => hv
  · obtain rfl : i = (tl ps).length := by omega
    rw [List.take_length]
    refine zg ?_; refine zg ?_; refine z8 (id := 3) ?_; refine z7 (zf rfl rfl rfl) rfl ?_; refine z7 (zk L rfl rfl rfl rfl) rfl ?_; refine z7 (zo L (zq rfl) rfl rfl rfl rfl) rfl ?_; refine vo_seen 7 (PS2 ps fu) rfl SlV.mono hv ?_; refine z7 (yc L rfl rfl rfl rfl) rfl ?_; refine z7 (qe rfl rfl rfl rfl (decide_eq_false (by omega))) rfl ?_; refine z7 (zf rfl rfl rfl) rfl ?_; refine z7 (zn rfl (zm rfl) rfl) rfl ?_; refine z7 (zn rfl (zm rfl) rfl) rfl ?_; refine z7 (zw rfl rfl rfl rfl) rfl ?_; refine zh ?_; refine zj ?_; refine q8 rfl ?_; refine yi ?_; refine qu ?_; refine qu ?_; refine yh ?_; refine zj ?_; refine zg ?_; refine z8 (id := 6) ?_; refine qn (y9 (.inl rfl) rfl rfl rfl rfl) ?_; refine qn (y9 (.inr rfl) rfl rfl rfl rfl) ?_; refine zh ?_; refine zj ?_
    refine V_pubR 2 rfl ?_
    refine qi L (rs := [.tmp 2]) rfl (fun _ _ h => h) Since.refl fun u H hH hle => ?_
    exact fun v hv => hv
end Go.V.L2
namespace Go.V
open Go.Proofs Go.RowKit
section
variable {P : Program} {F : Fr} {B : Heap} {O : Boxes} {n : Nat} {ops : Array Oper} {κ : Kap} {d : Nat} {ty : TypeId} {pos : String} {aft : Array Edge} {g : Option (Nat × Bool)}
theorem yj {t t' : TypeId} {x y : Operand} {k : IntKind} {p q r : Int} (hn : Nat.blt d n = true) (hg : gK ops κ ⟨some d, .binOp .and t x y t', ty, pos, aft, g⟩ = some true) (hx : evK κ x = some (.int k p)) (hy : evK κ y = some (.int k q)) (hb : bits .and k p q = r) :
    StepOK P F B n ops O κ ⟨some d, .binOp .and t x y t', ty, pos, aft, g⟩ d (.is (.int k r)) := ok_bin hn hg hx hy fun u => by subst hb; simp [eqGuard_and, binOp_and, intBits_and]
end
theorem and_bit {m : Nat} (h : m ≤ 255) : bits .and .u8 m 1 = ((m % 2 * 1 : Nat) : Int) ∧ bits .and .u8 m 2 = ((m / 2 % 2 * 2 : Nat) : Int) ∧ bits .and .u8 m 4 = ((m / 4 % 2 * 4 : Nat) : Int) ∧ bits .and .u8 m 8 = ((m / 8 % 2 * 8 : Nat) : Int) := by
  have : ∀ x : Fin 256, bits .and .u8 (x.val : Int) 1 = ((x.val % 2 * 1 : Nat) : Int) ∧ bits .and .u8 (x.val : Int) 2 = ((x.val / 2 % 2 * 2 : Nat) : Int) ∧ bits .and .u8 (x.val : Int) 4 = ((x.val / 4 % 2 * 4 : Nat) : Int) ∧ bits .and .u8 (x.val : Int) 8 = ((x.val / 8 % 2 * 8 : Nat) : Int) := by decide +kernel
  exact this ⟨m, by omega⟩
end Go.V
namespace Go.V.L3
open Go.Proofs Go.RowKit Go.V Go.V.L2
def fofT (a b m : Nat) : FT := (((if m % 2 = 1 then (oneT a b).1.1.1 else ⟨#[]⟩, if m / 2 % 2 = 1 then (oneT a b).1.1.2 else ⟨#[]⟩), if m / 4 % 2 = 1 then (oneT a b).1.2 else ⟨#[]⟩), if m / 8 % 2 = 1 then (oneT a b).2 else n3, decide (m / 8 % 2 = 1))
theorem ite_sz {p : Prop} [Decidable p] {x : ByteArray} {k : Nat} (h : x.size ≤ k) : (if p then x else ⟨#[]⟩ : ByteArray).size ≤ k := by
  split
  · exact h
  · exact Nat.zero_le _
theorem fofT_Z (a b m : Nat) : FZ (fofT a b m) := by
  obtain ⟨⟨h1, h2, h3⟩, h4, h5, h6⟩ := oneT_size a b
  unfold fofT FZ
  dsimp only
  refine ⟨⟨ite_sz h1, ite_sz h2, ite_sz h3⟩, ?_⟩
  split
  · exact ⟨h4, h5, h6⟩
  · exact ⟨Nat.zero_le _, Nat.zero_le _, Nat.zero_le _⟩
theorem tE_parts {t : U} (h : tE t = 0) : (chk t.1.1.1 = 0 ∧ chk t.1.1.2 = 0 ∧ chk t.1.2 = 0) ∧ subjE t.2.1.1 t.2.1.2 t.2.2 = 0 := by
  unfold tE at h
  split at h
  · rename_i hg
    refine ⟨?_, h⟩
    revert hg
    simp only [allE]
    have c1 := chk_cases t.1.1.1
    have c2 := chk_cases t.1.1.2
    have c3 := chk_cases t.1.2
    intro hg
    rcases c1 with c1 | c1 <;> rcases c2 with c2 | c2 <;> rcases c3 with c3 | c3 <;> simp [c1, c2, c3] at hg ⊢
  · rename_i hg
    exact absurd h hg
attribute [local irreducible] V N X VO Par StepOK Has Ret RetL RetO RetT Src
set_option maxHeartbeats 4000000 in
theorem fof_ret {a b m : Nat} {f : FT} (hf : fofT a b m = f) (ha : a ≤ 255) (hb : b ≤ 255) (hm : m ≤ 255) {w : World} {B : Heap} (hB : B.Le (hp w)) : Ret Tryz.prog 10 [.agg #[.int .u8 a, .int .u8 b, .int .u8 m]] w B (fun v _ => v = fv f) := by
  subst hf
  obtain ⟨e1, e2, e3, e4⟩ := and_bit hm
  unfold fofT
  have ho : ∀ (w : World) (B : Heap), B.Le (hp w) → Ret Tryz.prog 9 [.agg #[.int .u8 a, .int .u8 b]] w B (fun v _ => v = uv (oneT a b)) := fun w B h => one02_ret a b ha hb h
  generalize oneT a b = t at ho
  obtain ⟨⟨⟨x0, x1⟩, x2⟩, ⟨y0, y1⟩, y2⟩ := t
  have l0 := Nat.mod_lt m (show 0 < 2 by decide)
  have l1 := Nat.mod_lt (m / 2) (show 0 < 2 by decide)
  have l2 := Nat.mod_lt (m / 4) (show 0 < 2 by decide)
  have l3 := Nat.mod_lt (m / 8) (show 0 < 2 by decide)
  generalize m % 2 = k0 at e1 l0
  generalize m / 2 % 2 = k1 at e2 l1
  generalize m / 4 % 2 = k2 at e3 l2
  generalize m / 8 % 2 = k3 at e4 l3
  refine qx Tryz.func10 rfl Tryz.ntmps10 (Nat.le_of_ble_eq_true rfl) hB ?_
  refine zg ?_; refine z8 (id := 0) ?_; refine z7 (qf rfl rfl rfl rfl) rfl ?_; refine z7 (qm L rfl rfl rfl rfl) rfl ?_; refine zh ?_; refine zj ?_; refine zg ?_; refine z8 (id := 1) ?_; refine z7 (zk L rfl rfl rfl rfl) rfl ?_; refine z7 (zz L (vs := [_, _]) (zq rfl) rfl rfl rfl rfl ⟨_, rfl⟩) rfl ?_; refine z7 (q6 L rfl rfl (zm rfl) rfl rfl rfl (fun u H hH _ _ => ho u H hH)) rfl ?_; refine z7 (qm L rfl rfl rfl rfl) rfl ?_; refine z7 (qg L rfl rfl rfl rfl rfl rfl rfl rfl) rfl ?_; refine zh ?_; refine zj ?_; refine zg ?_; refine z8 (id := 2) ?_; refine z7 (qm L rfl rfl rfl rfl) rfl ?_; refine zh ?_; refine zj ?_; refine zg ?_; refine zg ?_
  refine V_box 3 rfl fun b3 hb3 => ?_
  refine V_box 4 rfl fun b4 hb4 => ?_
  by_cases c0 : k0 = 1
  · subst c0
    by_cases c1 : k1 = 1
    · subst c1
      by_cases c2 : k2 = 1
      · subst c2
        by_cases c3 : k3 = 1
        · subst c3
          refine z8 (id := 3) ?_; refine z7 (zk L rfl rfl rfl rfl) rfl ?_; refine z7 (zo L (zq rfl) rfl rfl rfl rfl) rfl ?_; refine z7 (yj rfl rfl rfl rfl (by assumption)) rfl ?_; refine z7 (qp rfl rfl rfl rfl (decide_eq_true (by omega))) rfl ?_; refine zh ?_; refine zj ?_; refine qa rfl ?_; refine z8 (id := 4) ?_; refine z7 (q0 L rfl rfl rfl rfl) rfl ?_; refine z7 (q0 L rfl rfl rfl rfl) rfl ?_; refine z7 (q0 L rfl rfl rfl rfl) rfl ?_; refine z7 (zo L (qk rfl (List.Mem.tail _ (List.Mem.head _))) rfl rfl rfl rfl) rfl ?_; refine z7 (q0 L rfl rfl rfl rfl) rfl ?_; refine box_store L (O1 := []) rfl rfl rfl rfl rfl rfl rfl rfl rfl ?_; refine zh ?_; refine zj ?_; refine zg ?_; refine zg ?_; refine z8 (id := 5) ?_; refine z7 (zk L rfl rfl rfl rfl) rfl ?_; refine z7 (zo L (zq rfl) rfl rfl rfl rfl) rfl ?_; refine z7 (yj rfl rfl rfl rfl (by assumption)) rfl ?_; refine z7 (qp rfl rfl rfl rfl (decide_eq_true (by omega))) rfl ?_; refine zh ?_; refine zj ?_; refine qa rfl ?_; refine z8 (id := 6) ?_; refine z7 (q0 L rfl rfl rfl rfl) rfl ?_; refine z7 (q0 L rfl rfl rfl rfl) rfl ?_; refine z7 (q0 L rfl rfl rfl rfl) rfl ?_; refine z7 (zo L (qk rfl (List.Mem.tail _ (List.Mem.head _))) rfl rfl rfl rfl) rfl ?_; refine z7 (q0 L rfl rfl rfl rfl) rfl ?_; refine box_store L (O1 := []) rfl rfl rfl rfl rfl rfl rfl rfl rfl ?_; refine zh ?_; refine zj ?_; refine zg ?_; refine zg ?_; refine z8 (id := 7) ?_; refine z7 (zk L rfl rfl rfl rfl) rfl ?_; refine z7 (zo L (zq rfl) rfl rfl rfl rfl) rfl ?_; refine z7 (yj rfl rfl rfl rfl (by assumption)) rfl ?_; refine z7 (qp rfl rfl rfl rfl (decide_eq_true (by omega))) rfl ?_; refine zh ?_; refine zj ?_; refine qa rfl ?_; refine z8 (id := 8) ?_; refine z7 (q0 L rfl rfl rfl rfl) rfl ?_; refine z7 (q0 L rfl rfl rfl rfl) rfl ?_; refine z7 (zo L (qk rfl (List.Mem.tail _ (List.Mem.head _))) rfl rfl rfl rfl) rfl ?_; refine z7 (q0 L rfl rfl rfl rfl) rfl ?_; refine box_store L (O1 := []) rfl rfl rfl rfl rfl rfl rfl rfl rfl ?_; refine zh ?_; refine zj ?_; refine zg ?_; refine zg ?_; refine z8 (id := 9) ?_; refine z7 (zk L rfl rfl rfl rfl) rfl ?_; refine z7 (zo L (zq rfl) rfl rfl rfl rfl) rfl ?_; refine z7 (yj rfl rfl rfl rfl (by assumption)) rfl ?_; refine z7 (qp rfl rfl rfl rfl (decide_eq_true (by omega))) rfl ?_; refine zh ?_; refine zj ?_; refine qa rfl ?_; refine zg ?_; refine z8 (id := 10) ?_; refine z7 (q0 L rfl rfl rfl rfl) rfl ?_; refine z7 (zz L (vs := [_, _, _]) (qk rfl (List.Mem.tail _ (List.Mem.head _))) rfl rfl rfl rfl ⟨_, rfl⟩) rfl ?_; refine z7 (q0 L rfl rfl rfl rfl) rfl ?_; refine box_store L (O1 := []) rfl rfl rfl rfl rfl rfl rfl rfl rfl ?_; refine zh ?_; refine zj ?_; refine z8 (id := 11) ?_; refine z7 (q0 L rfl rfl rfl rfl) rfl ?_; refine box_store L (O1 := []) rfl rfl rfl rfl rfl rfl rfl rfl rfl ?_; refine zh ?_; refine zj ?_; refine zg ?_; refine z8 (id := 12) ?_; refine z7 (zz L (vs := [_, _, _, _, _, _, _]) (qk rfl (List.Mem.head _)) rfl rfl rfl rfl ⟨_, rfl⟩) rfl ?_; refine z7 (qg L rfl rfl rfl rfl rfl rfl rfl rfl) rfl ?_; refine zh ?_; refine zj ?_
          refine qi L (rs := [.cell 2 53]) rfl (fun _ _ h => h) Since.refl fun u H hH hle => ?_
          refine resK_cellA (ql rfl) rfl rfl ?_
          rfl
        · obtain rfl : k3 = 0 := by omega
          refine z8 (id := 3) ?_; refine z7 (zk L rfl rfl rfl rfl) rfl ?_; refine z7 (zo L (zq rfl) rfl rfl rfl rfl) rfl ?_; refine z7 (yj rfl rfl rfl rfl (by assumption)) rfl ?_; refine z7 (qp rfl rfl rfl rfl (decide_eq_true (by omega))) rfl ?_; refine zh ?_; refine zj ?_; refine qa rfl ?_; refine z8 (id := 4) ?_; refine z7 (q0 L rfl rfl rfl rfl) rfl ?_; refine z7 (q0 L rfl rfl rfl rfl) rfl ?_; refine z7 (q0 L rfl rfl rfl rfl) rfl ?_; refine z7 (zo L (qk rfl (List.Mem.tail _ (List.Mem.head _))) rfl rfl rfl rfl) rfl ?_; refine z7 (q0 L rfl rfl rfl rfl) rfl ?_; refine box_store L (O1 := []) rfl rfl rfl rfl rfl rfl rfl rfl rfl ?_; refine zh ?_; refine zj ?_; refine zg ?_; refine zg ?_; refine z8 (id := 5) ?_; refine z7 (zk L rfl rfl rfl rfl) rfl ?_; refine z7 (zo L (zq rfl) rfl rfl rfl rfl) rfl ?_; refine z7 (yj rfl rfl rfl rfl (by assumption)) rfl ?_; refine z7 (qp rfl rfl rfl rfl (decide_eq_true (by omega))) rfl ?_; refine zh ?_; refine zj ?_; refine qa rfl ?_; refine z8 (id := 6) ?_; refine z7 (q0 L rfl rfl rfl rfl) rfl ?_; refine z7 (q0 L rfl rfl rfl rfl) rfl ?_; refine z7 (q0 L rfl rfl rfl rfl) rfl ?_; refine z7 (zo L (qk rfl (List.Mem.tail _ (List.Mem.head _))) rfl rfl rfl rfl) rfl ?_; refine z7 (q0 L rfl rfl rfl rfl) rfl ?_; refine box_store L (O1 := []) rfl rfl rfl rfl rfl rfl rfl rfl rfl ?_; refine zh ?_; refine zj ?_; refine zg ?_; refine zg ?_; refine z8 (id := 7) ?_; refine z7 (zk L rfl rfl rfl rfl) rfl ?_; refine z7 (zo L (zq rfl) rfl rfl rfl rfl) rfl ?_; refine z7 (yj rfl rfl rfl rfl (by assumption)) rfl ?_; refine z7 (qp rfl rfl rfl rfl (decide_eq_true (by omega))) rfl ?_; refine zh ?_; refine zj ?_; refine qa rfl ?_; refine z8 (id := 8) ?_; refine z7 (q0 L rfl rfl rfl rfl) rfl ?_; refine z7 (q0 L rfl rfl rfl rfl) rfl ?_; refine z7 (zo L (qk rfl (List.Mem.tail _ (List.Mem.head _))) rfl rfl rfl rfl) rfl ?_; refine z7 (q0 L rfl rfl rfl rfl) rfl ?_; refine box_store L (O1 := []) rfl rfl rfl rfl rfl rfl rfl rfl rfl ?_; refine zh ?_; refine zj ?_; refine zg ?_; refine zg ?_; refine z8 (id := 9) ?_; refine z7 (zk L rfl rfl rfl rfl) rfl ?_; refine z7 (zo L (zq rfl) rfl rfl rfl rfl) rfl ?_; refine z7 (yj rfl rfl rfl rfl (by assumption)) rfl ?_; refine z7 (qp rfl rfl rfl rfl (decide_eq_false (by omega))) rfl ?_; refine zh ?_; refine zj ?_; refine q8 rfl ?_; refine q9 ?_; refine zj ?_; refine zg ?_; refine z8 (id := 12) ?_; refine z7 (zz L (vs := [_, _, _, _, _, _, _]) (qk rfl (List.Mem.head _)) rfl rfl rfl rfl ⟨_, rfl⟩) rfl ?_; refine z7 (qg L rfl rfl rfl rfl rfl rfl rfl rfl) rfl ?_; refine zh ?_; refine zj ?_
          refine qi L (rs := [.cell 2 53]) rfl (fun _ _ h => h) Since.refl fun u H hH hle => ?_
          refine resK_cellA (ql rfl) rfl rfl ?_
          rfl
      · obtain rfl : k2 = 0 := by omega
        by_cases c3 : k3 = 1
        · subst c3
          refine z8 (id := 3) ?_; refine z7 (zk L rfl rfl rfl rfl) rfl ?_; refine z7 (zo L (zq rfl) rfl rfl rfl rfl) rfl ?_; refine z7 (yj rfl rfl rfl rfl (by assumption)) rfl ?_; refine z7 (qp rfl rfl rfl rfl (decide_eq_true (by omega))) rfl ?_; refine zh ?_; refine zj ?_; refine qa rfl ?_; refine z8 (id := 4) ?_; refine z7 (q0 L rfl rfl rfl rfl) rfl ?_; refine z7 (q0 L rfl rfl rfl rfl) rfl ?_; refine z7 (q0 L rfl rfl rfl rfl) rfl ?_; refine z7 (zo L (qk rfl (List.Mem.tail _ (List.Mem.head _))) rfl rfl rfl rfl) rfl ?_; refine z7 (q0 L rfl rfl rfl rfl) rfl ?_; refine box_store L (O1 := []) rfl rfl rfl rfl rfl rfl rfl rfl rfl ?_; refine zh ?_; refine zj ?_; refine zg ?_; refine zg ?_; refine z8 (id := 5) ?_; refine z7 (zk L rfl rfl rfl rfl) rfl ?_; refine z7 (zo L (zq rfl) rfl rfl rfl rfl) rfl ?_; refine z7 (yj rfl rfl rfl rfl (by assumption)) rfl ?_; refine z7 (qp rfl rfl rfl rfl (decide_eq_true (by omega))) rfl ?_; refine zh ?_; refine zj ?_; refine qa rfl ?_; refine z8 (id := 6) ?_; refine z7 (q0 L rfl rfl rfl rfl) rfl ?_; refine z7 (q0 L rfl rfl rfl rfl) rfl ?_; refine z7 (q0 L rfl rfl rfl rfl) rfl ?_; refine z7 (zo L (qk rfl (List.Mem.tail _ (List.Mem.head _))) rfl rfl rfl rfl) rfl ?_; refine z7 (q0 L rfl rfl rfl rfl) rfl ?_; refine box_store L (O1 := []) rfl rfl rfl rfl rfl rfl rfl rfl rfl ?_; refine zh ?_; refine zj ?_; refine zg ?_; refine zg ?_; refine z8 (id := 7) ?_; refine z7 (zk L rfl rfl rfl rfl) rfl ?_; refine z7 (zo L (zq rfl) rfl rfl rfl rfl) rfl ?_; refine z7 (yj rfl rfl rfl rfl (by assumption)) rfl ?_; refine z7 (qp rfl rfl rfl rfl (decide_eq_false (by omega))) rfl ?_; refine zh ?_; refine zj ?_; refine q8 rfl ?_; refine q9 ?_; refine zj ?_; refine zg ?_; refine zg ?_; refine z8 (id := 9) ?_; refine z7 (zk L rfl rfl rfl rfl) rfl ?_; refine z7 (zo L (zq rfl) rfl rfl rfl rfl) rfl ?_; refine z7 (yj rfl rfl rfl rfl (by assumption)) rfl ?_; refine z7 (qp rfl rfl rfl rfl (decide_eq_true (by omega))) rfl ?_; refine zh ?_; refine zj ?_; refine qa rfl ?_; refine zg ?_; refine z8 (id := 10) ?_; refine z7 (q0 L rfl rfl rfl rfl) rfl ?_; refine z7 (zz L (vs := [_, _, _]) (qk rfl (List.Mem.tail _ (List.Mem.head _))) rfl rfl rfl rfl ⟨_, rfl⟩) rfl ?_; refine z7 (q0 L rfl rfl rfl rfl) rfl ?_; refine box_store L (O1 := []) rfl rfl rfl rfl rfl rfl rfl rfl rfl ?_; refine zh ?_; refine zj ?_; refine z8 (id := 11) ?_; refine z7 (q0 L rfl rfl rfl rfl) rfl ?_; refine box_store L (O1 := []) rfl rfl rfl rfl rfl rfl rfl rfl rfl ?_; refine zh ?_; refine zj ?_; refine zg ?_; refine z8 (id := 12) ?_; refine z7 (zz L (vs := [_, _, _, _, _, _, _]) (qk rfl (List.Mem.head _)) rfl rfl rfl rfl ⟨_, rfl⟩) rfl ?_; refine z7 (qg L rfl rfl rfl rfl rfl rfl rfl rfl) rfl ?_; refine zh ?_; refine zj ?_
          refine qi L (rs := [.cell 2 53]) rfl (fun _ _ h => h) Since.refl fun u H hH hle => ?_
          refine resK_cellA (ql rfl) rfl rfl ?_
          rfl
        · obtain rfl : k3 = 0 := by omega
          refine z8 (id := 3) ?_; refine z7 (zk L rfl rfl rfl rfl) rfl ?_; refine z7 (zo L (zq rfl) rfl rfl rfl rfl) rfl ?_; refine z7 (yj rfl rfl rfl rfl (by assumption)) rfl ?_; refine z7 (qp rfl rfl rfl rfl (decide_eq_true (by omega))) rfl ?_; refine zh ?_; refine zj ?_; refine qa rfl ?_; refine z8 (id := 4) ?_; refine z7 (q0 L rfl rfl rfl rfl) rfl ?_; refine z7 (q0 L rfl rfl rfl rfl) rfl ?_; refine z7 (q0 L rfl rfl rfl rfl) rfl ?_; refine z7 (zo L (qk rfl (List.Mem.tail _ (List.Mem.head _))) rfl rfl rfl rfl) rfl ?_; refine z7 (q0 L rfl rfl rfl rfl) rfl ?_; refine box_store L (O1 := []) rfl rfl rfl rfl rfl rfl rfl rfl rfl ?_; refine zh ?_; refine zj ?_; refine zg ?_; refine zg ?_; refine z8 (id := 5) ?_; refine z7 (zk L rfl rfl rfl rfl) rfl ?_; refine z7 (zo L (zq rfl) rfl rfl rfl rfl) rfl ?_; refine z7 (yj rfl rfl rfl rfl (by assumption)) rfl ?_; refine z7 (qp rfl rfl rfl rfl (decide_eq_true (by omega))) rfl ?_; refine zh ?_; refine zj ?_; refine qa rfl ?_; refine z8 (id := 6) ?_; refine z7 (q0 L rfl rfl rfl rfl) rfl ?_; refine z7 (q0 L rfl rfl rfl rfl) rfl ?_; refine z7 (q0 L rfl rfl rfl rfl) rfl ?_; refine z7 (zo L (qk rfl (List.Mem.tail _ (List.Mem.head _))) rfl rfl rfl rfl) rfl ?_; refine z7 (q0 L rfl rfl rfl rfl) rfl ?_; refine box_store L (O1 := []) rfl rfl rfl rfl rfl rfl rfl rfl rfl ?_; refine zh ?_; refine zj ?_; refine zg ?_; refine zg ?_; refine z8 (id := 7) ?_; refine z7 (zk L rfl rfl rfl rfl) rfl ?_; refine z7 (zo L (zq rfl) rfl rfl rfl rfl) rfl ?_; refine z7 (yj rfl rfl rfl rfl (by assumption)) rfl ?_; refine z7 (qp rfl rfl rfl rfl (decide_eq_false (by omega))) rfl ?_; refine zh ?_; refine zj ?_; refine q8 rfl ?_; refine q9 ?_; refine zj ?_; refine zg ?_; refine zg ?_; refine z8 (id := 9) ?_; refine z7 (zk L rfl rfl rfl rfl) rfl ?_; refine z7 (zo L (zq rfl) rfl rfl rfl rfl) rfl ?_; refine z7 (yj rfl rfl rfl rfl (by assumption)) rfl ?_; refine z7 (qp rfl rfl rfl rfl (decide_eq_false (by omega))) rfl ?_; refine zh ?_; refine zj ?_; refine q8 rfl ?_; refine q9 ?_; refine zj ?_; refine zg ?_; refine z8 (id := 12) ?_; refine z7 (zz L (vs := [_, _, _, _, _, _, _]) (qk rfl (List.Mem.head _)) rfl rfl rfl rfl ⟨_, rfl⟩) rfl ?_; refine z7 (qg L rfl rfl rfl rfl rfl rfl rfl rfl) rfl ?_; refine zh ?_; refine zj ?_
          refine qi L (rs := [.cell 2 53]) rfl (fun _ _ h => h) Since.refl fun u H hH hle => ?_
          refine resK_cellA (ql rfl) rfl rfl ?_
          rfl
    · obtain rfl : k1 = 0 := by omega
      by_cases c2 : k2 = 1
      · subst c2
        by_cases c3 : k3 = 1
        · subst c3
          refine z8 (id := 3) ?_; refine z7 (zk L rfl rfl rfl rfl) rfl ?_; refine z7 (zo L (zq rfl) rfl rfl rfl rfl) rfl ?_; refine z7 (yj rfl rfl rfl rfl (by assumption)) rfl ?_; refine z7 (qp rfl rfl rfl rfl (decide_eq_true (by omega))) rfl ?_; refine zh ?_; refine zj ?_; refine qa rfl ?_; refine z8 (id := 4) ?_; refine z7 (q0 L rfl rfl rfl rfl) rfl ?_; refine z7 (q0 L rfl rfl rfl rfl) rfl ?_; refine z7 (q0 L rfl rfl rfl rfl) rfl ?_; refine z7 (zo L (qk rfl (List.Mem.tail _ (List.Mem.head _))) rfl rfl rfl rfl) rfl ?_; refine z7 (q0 L rfl rfl rfl rfl) rfl ?_; refine box_store L (O1 := []) rfl rfl rfl rfl rfl rfl rfl rfl rfl ?_; refine zh ?_; refine zj ?_; refine zg ?_; refine zg ?_; refine z8 (id := 5) ?_; refine z7 (zk L rfl rfl rfl rfl) rfl ?_; refine z7 (zo L (zq rfl) rfl rfl rfl rfl) rfl ?_; refine z7 (yj rfl rfl rfl rfl (by assumption)) rfl ?_; refine z7 (qp rfl rfl rfl rfl (decide_eq_false (by omega))) rfl ?_; refine zh ?_; refine zj ?_; refine q8 rfl ?_; refine q9 ?_; refine zj ?_; refine zg ?_; refine zg ?_; refine z8 (id := 7) ?_; refine z7 (zk L rfl rfl rfl rfl) rfl ?_; refine z7 (zo L (zq rfl) rfl rfl rfl rfl) rfl ?_; refine z7 (yj rfl rfl rfl rfl (by assumption)) rfl ?_; refine z7 (qp rfl rfl rfl rfl (decide_eq_true (by omega))) rfl ?_; refine zh ?_; refine zj ?_; refine qa rfl ?_; refine z8 (id := 8) ?_; refine z7 (q0 L rfl rfl rfl rfl) rfl ?_; refine z7 (q0 L rfl rfl rfl rfl) rfl ?_; refine z7 (zo L (qk rfl (List.Mem.tail _ (List.Mem.head _))) rfl rfl rfl rfl) rfl ?_; refine z7 (q0 L rfl rfl rfl rfl) rfl ?_; refine box_store L (O1 := []) rfl rfl rfl rfl rfl rfl rfl rfl rfl ?_; refine zh ?_; refine zj ?_; refine zg ?_; refine zg ?_; refine z8 (id := 9) ?_; refine z7 (zk L rfl rfl rfl rfl) rfl ?_; refine z7 (zo L (zq rfl) rfl rfl rfl rfl) rfl ?_; refine z7 (yj rfl rfl rfl rfl (by assumption)) rfl ?_; refine z7 (qp rfl rfl rfl rfl (decide_eq_true (by omega))) rfl ?_; refine zh ?_; refine zj ?_; refine qa rfl ?_; refine zg ?_; refine z8 (id := 10) ?_; refine z7 (q0 L rfl rfl rfl rfl) rfl ?_; refine z7 (zz L (vs := [_, _, _]) (qk rfl (List.Mem.tail _ (List.Mem.head _))) rfl rfl rfl rfl ⟨_, rfl⟩) rfl ?_; refine z7 (q0 L rfl rfl rfl rfl) rfl ?_; refine box_store L (O1 := []) rfl rfl rfl rfl rfl rfl rfl rfl rfl ?_; refine zh ?_; refine zj ?_; refine z8 (id := 11) ?_; refine z7 (q0 L rfl rfl rfl rfl) rfl ?_; refine box_store L (O1 := []) rfl rfl rfl rfl rfl rfl rfl rfl rfl ?_; refine zh ?_; refine zj ?_; refine zg ?_; refine z8 (id := 12) ?_; refine z7 (zz L (vs := [_, _, _, _, _, _, _]) (qk rfl (List.Mem.head _)) rfl rfl rfl rfl ⟨_, rfl⟩) rfl ?_; refine z7 (qg L rfl rfl rfl rfl rfl rfl rfl rfl) rfl ?_; refine zh ?_; refine zj ?_
          refine qi L (rs := [.cell 2 53]) rfl (fun _ _ h => h) Since.refl fun u H hH hle => ?_
          refine resK_cellA (ql rfl) rfl rfl ?_
          rfl
        · obtain rfl : k3 = 0 := by omega
          refine z8 (id := 3) ?_; refine z7 (zk L rfl rfl rfl rfl) rfl ?_; refine z7 (zo L (zq rfl) rfl rfl rfl rfl) rfl ?_; refine z7 (yj rfl rfl rfl rfl (by assumption)) rfl ?_; refine z7 (qp rfl rfl rfl rfl (decide_eq_true (by omega))) rfl ?_; refine zh ?_; refine zj ?_; refine qa rfl ?_; refine z8 (id := 4) ?_; refine z7 (q0 L rfl rfl rfl rfl) rfl ?_; refine z7 (q0 L rfl rfl rfl rfl) rfl ?_; refine z7 (q0 L rfl rfl rfl rfl) rfl ?_; refine z7 (zo L (qk rfl (List.Mem.tail _ (List.Mem.head _))) rfl rfl rfl rfl) rfl ?_; refine z7 (q0 L rfl rfl rfl rfl) rfl ?_; refine box_store L (O1 := []) rfl rfl rfl rfl rfl rfl rfl rfl rfl ?_; refine zh ?_; refine zj ?_; refine zg ?_; refine zg ?_; refine z8 (id := 5) ?_; refine z7 (zk L rfl rfl rfl rfl) rfl ?_; refine z7 (zo L (zq rfl) rfl rfl rfl rfl) rfl ?_; refine z7 (yj rfl rfl rfl rfl (by assumption)) rfl ?_; refine z7 (qp rfl rfl rfl rfl (decide_eq_false (by omega))) rfl ?_; refine zh ?_; refine zj ?_; refine q8 rfl ?_; refine q9 ?_; refine zj ?_; refine zg ?_; refine zg ?_; refine z8 (id := 7) ?_; refine z7 (zk L rfl rfl rfl rfl) rfl ?_; refine z7 (zo L (zq rfl) rfl rfl rfl rfl) rfl ?_; refine z7 (yj rfl rfl rfl rfl (by assumption)) rfl ?_; refine z7 (qp rfl rfl rfl rfl (decide_eq_true (by omega))) rfl ?_; refine zh ?_; refine zj ?_; refine qa rfl ?_; refine z8 (id := 8) ?_; refine z7 (q0 L rfl rfl rfl rfl) rfl ?_; refine z7 (q0 L rfl rfl rfl rfl) rfl ?_; refine z7 (zo L (qk rfl (List.Mem.tail _ (List.Mem.head _))) rfl rfl rfl rfl) rfl ?_; refine z7 (q0 L rfl rfl rfl rfl) rfl ?_; refine box_store L (O1 := []) rfl rfl rfl rfl rfl rfl rfl rfl rfl ?_; refine zh ?_; refine zj ?_; refine zg ?_; refine zg ?_; refine z8 (id := 9) ?_; refine z7 (zk L rfl rfl rfl rfl) rfl ?_; refine z7 (zo L (zq rfl) rfl rfl rfl rfl) rfl ?_; refine z7 (yj rfl rfl rfl rfl (by assumption)) rfl ?_; refine z7 (qp rfl rfl rfl rfl (decide_eq_false (by omega))) rfl ?_; refine zh ?_; refine zj ?_; refine q8 rfl ?_; refine q9 ?_; refine zj ?_; refine zg ?_; refine z8 (id := 12) ?_; refine z7 (zz L (vs := [_, _, _, _, _, _, _]) (qk rfl (List.Mem.head _)) rfl rfl rfl rfl ⟨_, rfl⟩) rfl ?_; refine z7 (qg L rfl rfl rfl rfl rfl rfl rfl rfl) rfl ?_; refine zh ?_; refine zj ?_
          refine qi L (rs := [.cell 2 53]) rfl (fun _ _ h => h) Since.refl fun u H hH hle => ?_
          refine resK_cellA (ql rfl) rfl rfl ?_
          rfl
      · obtain rfl : k2 = 0 := by omega
        by_cases c3 : k3 = 1
        · subst c3
          refine z8 (id := 3) ?_; refine z7 (zk L rfl rfl rfl rfl) rfl ?_; refine z7 (zo L (zq rfl) rfl rfl rfl rfl) rfl ?_; refine z7 (yj rfl rfl rfl rfl (by assumption)) rfl ?_; refine z7 (qp rfl rfl rfl rfl (decide_eq_true (by omega))) rfl ?_; refine zh ?_; refine zj ?_; refine qa rfl ?_; refine z8 (id := 4) ?_; refine z7 (q0 L rfl rfl rfl rfl) rfl ?_; refine z7 (q0 L rfl rfl rfl rfl) rfl ?_; refine z7 (q0 L rfl rfl rfl rfl) rfl ?_; refine z7 (zo L (qk rfl (List.Mem.tail _ (List.Mem.head _))) rfl rfl rfl rfl) rfl ?_; refine z7 (q0 L rfl rfl rfl rfl) rfl ?_; refine box_store L (O1 := []) rfl rfl rfl rfl rfl rfl rfl rfl rfl ?_; refine zh ?_; refine zj ?_; refine zg ?_; refine zg ?_; refine z8 (id := 5) ?_; refine z7 (zk L rfl rfl rfl rfl) rfl ?_; refine z7 (zo L (zq rfl) rfl rfl rfl rfl) rfl ?_; refine z7 (yj rfl rfl rfl rfl (by assumption)) rfl ?_; refine z7 (qp rfl rfl rfl rfl (decide_eq_false (by omega))) rfl ?_; refine zh ?_; refine zj ?_; refine q8 rfl ?_; refine q9 ?_; refine zj ?_; refine zg ?_; refine zg ?_; refine z8 (id := 7) ?_; refine z7 (zk L rfl rfl rfl rfl) rfl ?_; refine z7 (zo L (zq rfl) rfl rfl rfl rfl) rfl ?_; refine z7 (yj rfl rfl rfl rfl (by assumption)) rfl ?_; refine z7 (qp rfl rfl rfl rfl (decide_eq_false (by omega))) rfl ?_; refine zh ?_; refine zj ?_; refine q8 rfl ?_; refine q9 ?_; refine zj ?_; refine zg ?_; refine zg ?_; refine z8 (id := 9) ?_; refine z7 (zk L rfl rfl rfl rfl) rfl ?_; refine z7 (zo L (zq rfl) rfl rfl rfl rfl) rfl ?_; refine z7 (yj rfl rfl rfl rfl (by assumption)) rfl ?_; refine z7 (qp rfl rfl rfl rfl (decide_eq_true (by omega))) rfl ?_; refine zh ?_; refine zj ?_; refine qa rfl ?_; refine zg ?_; refine z8 (id := 10) ?_; refine z7 (q0 L rfl rfl rfl rfl) rfl ?_; refine z7 (zz L (vs := [_, _, _]) (qk rfl (List.Mem.tail _ (List.Mem.head _))) rfl rfl rfl rfl ⟨_, rfl⟩) rfl ?_; refine z7 (q0 L rfl rfl rfl rfl) rfl ?_; refine box_store L (O1 := []) rfl rfl rfl rfl rfl rfl rfl rfl rfl ?_; refine zh ?_; refine zj ?_; refine z8 (id := 11) ?_; refine z7 (q0 L rfl rfl rfl rfl) rfl ?_; refine box_store L (O1 := []) rfl rfl rfl rfl rfl rfl rfl rfl rfl ?_; refine zh ?_; refine zj ?_; refine zg ?_; refine z8 (id := 12) ?_; refine z7 (zz L (vs := [_, _, _, _, _, _, _]) (qk rfl (List.Mem.head _)) rfl rfl rfl rfl ⟨_, rfl⟩) rfl ?_; refine z7 (qg L rfl rfl rfl rfl rfl rfl rfl rfl) rfl ?_; refine zh ?_; refine zj ?_
          refine qi L (rs := [.cell 2 53]) rfl (fun _ _ h => h) Since.refl fun u H hH hle => ?_
          refine resK_cellA (ql rfl) rfl rfl ?_
          rfl
        · obtain rfl : k3 = 0 := by omega
          refine z8 (id := 3) ?_; refine z7 (zk L rfl rfl rfl rfl) rfl ?_; refine z7 (zo L (zq rfl) rfl rfl rfl rfl) rfl ?_; refine z7 (yj rfl rfl rfl rfl (by assumption)) rfl ?_; refine z7 (qp rfl rfl rfl rfl (decide_eq_true (by omega))) rfl ?_; refine zh ?_; refine zj ?_; refine qa rfl ?_; refine z8 (id := 4) ?_; refine z7 (q0 L rfl rfl rfl rfl) rfl ?_; refine z7 (q0 L rfl rfl rfl rfl) rfl ?_; refine z7 (q0 L rfl rfl rfl rfl) rfl ?_; refine z7 (zo L (qk rfl (List.Mem.tail _ (List.Mem.head _))) rfl rfl rfl rfl) rfl ?_; refine z7 (q0 L rfl rfl rfl rfl) rfl ?_; refine box_store L (O1 := []) rfl rfl rfl rfl rfl rfl rfl rfl rfl ?_; refine zh ?_; refine zj ?_; refine zg ?_; refine zg ?_; refine z8 (id := 5) ?_; refine z7 (zk L rfl rfl rfl rfl) rfl ?_; refine z7 (zo L (zq rfl) rfl rfl rfl rfl) rfl ?_; refine z7 (yj rfl rfl rfl rfl (by assumption)) rfl ?_; refine z7 (qp rfl rfl rfl rfl (decide_eq_false (by omega))) rfl ?_; refine zh ?_; refine zj ?_; refine q8 rfl ?_; refine q9 ?_; refine zj ?_; refine zg ?_; refine zg ?_; refine z8 (id := 7) ?_; refine z7 (zk L rfl rfl rfl rfl) rfl ?_; refine z7 (zo L (zq rfl) rfl rfl rfl rfl) rfl ?_; refine z7 (yj rfl rfl rfl rfl (by assumption)) rfl ?_; refine z7 (qp rfl rfl rfl rfl (decide_eq_false (by omega))) rfl ?_; refine zh ?_; refine zj ?_; refine q8 rfl ?_; refine q9 ?_; refine zj ?_; refine zg ?_; refine zg ?_; refine z8 (id := 9) ?_; refine z7 (zk L rfl rfl rfl rfl) rfl ?_; refine z7 (zo L (zq rfl) rfl rfl rfl rfl) rfl ?_; refine z7 (yj rfl rfl rfl rfl (by assumption)) rfl ?_; refine z7 (qp rfl rfl rfl rfl (decide_eq_false (by omega))) rfl ?_; refine zh ?_; refine zj ?_; refine q8 rfl ?_; refine q9 ?_; refine zj ?_; refine zg ?_; refine z8 (id := 12) ?_; refine z7 (zz L (vs := [_, _, _, _, _, _, _]) (qk rfl (List.Mem.head _)) rfl rfl rfl rfl ⟨_, rfl⟩) rfl ?_; refine z7 (qg L rfl rfl rfl rfl rfl rfl rfl rfl) rfl ?_; refine zh ?_; refine zj ?_
          refine qi L (rs := [.cell 2 53]) rfl (fun _ _ h => h) Since.refl fun u H hH hle => ?_
          refine resK_cellA (ql rfl) rfl rfl ?_
          rfl
  · obtain rfl : k0 = 0 := by omega
    by_cases c1 : k1 = 1
    · subst c1
      by_cases c2 : k2 = 1
      · subst c2
        by_cases c3 : k3 = 1
        · subst c3
          refine z8 (id := 3) ?_; refine z7 (zk L rfl rfl rfl rfl) rfl ?_; refine z7 (zo L (zq rfl) rfl rfl rfl rfl) rfl ?_; refine z7 (yj rfl rfl rfl rfl (by assumption)) rfl ?_; refine z7 (qp rfl rfl rfl rfl (decide_eq_false (by omega))) rfl ?_; refine zh ?_; refine zj ?_; refine q8 rfl ?_; refine q9 ?_; refine zj ?_; refine zg ?_; refine zg ?_; refine z8 (id := 5) ?_; refine z7 (zk L rfl rfl rfl rfl) rfl ?_; refine z7 (zo L (zq rfl) rfl rfl rfl rfl) rfl ?_; refine z7 (yj rfl rfl rfl rfl (by assumption)) rfl ?_; refine z7 (qp rfl rfl rfl rfl (decide_eq_true (by omega))) rfl ?_; refine zh ?_; refine zj ?_; refine qa rfl ?_; refine z8 (id := 6) ?_; refine z7 (q0 L rfl rfl rfl rfl) rfl ?_; refine z7 (q0 L rfl rfl rfl rfl) rfl ?_; refine z7 (q0 L rfl rfl rfl rfl) rfl ?_; refine z7 (zo L (qk rfl (List.Mem.tail _ (List.Mem.head _))) rfl rfl rfl rfl) rfl ?_; refine z7 (q0 L rfl rfl rfl rfl) rfl ?_; refine box_store L (O1 := []) rfl rfl rfl rfl rfl rfl rfl rfl rfl ?_; refine zh ?_; refine zj ?_; refine zg ?_; refine zg ?_; refine z8 (id := 7) ?_; refine z7 (zk L rfl rfl rfl rfl) rfl ?_; refine z7 (zo L (zq rfl) rfl rfl rfl rfl) rfl ?_; refine z7 (yj rfl rfl rfl rfl (by assumption)) rfl ?_; refine z7 (qp rfl rfl rfl rfl (decide_eq_true (by omega))) rfl ?_; refine zh ?_; refine zj ?_; refine qa rfl ?_; refine z8 (id := 8) ?_; refine z7 (q0 L rfl rfl rfl rfl) rfl ?_; refine z7 (q0 L rfl rfl rfl rfl) rfl ?_; refine z7 (zo L (qk rfl (List.Mem.tail _ (List.Mem.head _))) rfl rfl rfl rfl) rfl ?_; refine z7 (q0 L rfl rfl rfl rfl) rfl ?_; refine box_store L (O1 := []) rfl rfl rfl rfl rfl rfl rfl rfl rfl ?_; refine zh ?_; refine zj ?_; refine zg ?_; refine zg ?_; refine z8 (id := 9) ?_; refine z7 (zk L rfl rfl rfl rfl) rfl ?_; refine z7 (zo L (zq rfl) rfl rfl rfl rfl) rfl ?_; refine z7 (yj rfl rfl rfl rfl (by assumption)) rfl ?_; refine z7 (qp rfl rfl rfl rfl (decide_eq_true (by omega))) rfl ?_; refine zh ?_; refine zj ?_; refine qa rfl ?_; refine zg ?_; refine z8 (id := 10) ?_; refine z7 (q0 L rfl rfl rfl rfl) rfl ?_; refine z7 (zz L (vs := [_, _, _]) (qk rfl (List.Mem.tail _ (List.Mem.head _))) rfl rfl rfl rfl ⟨_, rfl⟩) rfl ?_; refine z7 (q0 L rfl rfl rfl rfl) rfl ?_; refine box_store L (O1 := []) rfl rfl rfl rfl rfl rfl rfl rfl rfl ?_; refine zh ?_; refine zj ?_; refine z8 (id := 11) ?_; refine z7 (q0 L rfl rfl rfl rfl) rfl ?_; refine box_store L (O1 := []) rfl rfl rfl rfl rfl rfl rfl rfl rfl ?_; refine zh ?_; refine zj ?_; refine zg ?_; refine z8 (id := 12) ?_; refine z7 (zz L (vs := [_, _, _, _, _, _, _]) (qk rfl (List.Mem.head _)) rfl rfl rfl rfl ⟨_, rfl⟩) rfl ?_; refine z7 (qg L rfl rfl rfl rfl rfl rfl rfl rfl) rfl ?_; refine zh ?_; refine zj ?_
          refine qi L (rs := [.cell 2 53]) rfl (fun _ _ h => h) Since.refl fun u H hH hle => ?_
          refine resK_cellA (ql rfl) rfl rfl ?_
          rfl
        · obtain rfl : k3 = 0 := by omega
          refine z8 (id := 3) ?_; refine z7 (zk L rfl rfl rfl rfl) rfl ?_; refine z7 (zo L (zq rfl) rfl rfl rfl rfl) rfl ?_; refine z7 (yj rfl rfl rfl rfl (by assumption)) rfl ?_; refine z7 (qp rfl rfl rfl rfl (decide_eq_false (by omega))) rfl ?_; refine zh ?_; refine zj ?_; refine q8 rfl ?_; refine q9 ?_; refine zj ?_; refine zg ?_; refine zg ?_; refine z8 (id := 5) ?_; refine z7 (zk L rfl rfl rfl rfl) rfl ?_; refine z7 (zo L (zq rfl) rfl rfl rfl rfl) rfl ?_; refine z7 (yj rfl rfl rfl rfl (by assumption)) rfl ?_; refine z7 (qp rfl rfl rfl rfl (decide_eq_true (by omega))) rfl ?_; refine zh ?_; refine zj ?_; refine qa rfl ?_; refine z8 (id := 6) ?_; refine z7 (q0 L rfl rfl rfl rfl) rfl ?_; refine z7 (q0 L rfl rfl rfl rfl) rfl ?_; refine z7 (q0 L rfl rfl rfl rfl) rfl ?_; refine z7 (zo L (qk rfl (List.Mem.tail _ (List.Mem.head _))) rfl rfl rfl rfl) rfl ?_; refine z7 (q0 L rfl rfl rfl rfl) rfl ?_; refine box_store L (O1 := []) rfl rfl rfl rfl rfl rfl rfl rfl rfl ?_; refine zh ?_; refine zj ?_; refine zg ?_; refine zg ?_; refine z8 (id := 7) ?_; refine z7 (zk L rfl rfl rfl rfl) rfl ?_; refine z7 (zo L (zq rfl) rfl rfl rfl rfl) rfl ?_; refine z7 (yj rfl rfl rfl rfl (by assumption)) rfl ?_; refine z7 (qp rfl rfl rfl rfl (decide_eq_true (by omega))) rfl ?_; refine zh ?_; refine zj ?_; refine qa rfl ?_; refine z8 (id := 8) ?_; refine z7 (q0 L rfl rfl rfl rfl) rfl ?_; refine z7 (q0 L rfl rfl rfl rfl) rfl ?_; refine z7 (zo L (qk rfl (List.Mem.tail _ (List.Mem.head _))) rfl rfl rfl rfl) rfl ?_; refine z7 (q0 L rfl rfl rfl rfl) rfl ?_; refine box_store L (O1 := []) rfl rfl rfl rfl rfl rfl rfl rfl rfl ?_; refine zh ?_; refine zj ?_; refine zg ?_; refine zg ?_; refine z8 (id := 9) ?_; refine z7 (zk L rfl rfl rfl rfl) rfl ?_; refine z7 (zo L (zq rfl) rfl rfl rfl rfl) rfl ?_; refine z7 (yj rfl rfl rfl rfl (by assumption)) rfl ?_; refine z7 (qp rfl rfl rfl rfl (decide_eq_false (by omega))) rfl ?_; refine zh ?_; refine zj ?_; refine q8 rfl ?_; refine q9 ?_; refine zj ?_; refine zg ?_; refine z8 (id := 12) ?_; refine z7 (zz L (vs := [_, _, _, _, _, _, _]) (qk rfl (List.Mem.head _)) rfl rfl rfl rfl ⟨_, rfl⟩) rfl ?_; refine z7 (qg L rfl rfl rfl rfl rfl rfl rfl rfl) rfl ?_; refine zh ?_; refine zj ?_
          refine qi L (rs := [.cell 2 53]) rfl (fun _ _ h => h) Since.refl fun u H hH hle => ?_
          refine resK_cellA (ql rfl) rfl rfl ?_
          rfl
      · obtain rfl : k2 = 0 := by omega
        by_cases c3 : k3 = 1
        · subst c3
          refine z8 (id := 3) ?_; refine z7 (zk L rfl rfl rfl rfl) rfl ?_; refine z7 (zo L (zq rfl) rfl rfl rfl rfl) rfl ?_; refine z7 (yj rfl rfl rfl rfl (by assumption)) rfl ?_; refine z7 (qp rfl rfl rfl rfl (decide_eq_false (by omega))) rfl ?_; refine zh ?_; refine zj ?_; refine q8 rfl ?_; refine q9 ?_; refine zj ?_; refine zg ?_; refine zg ?_; refine z8 (id := 5) ?_; refine z7 (zk L rfl rfl rfl rfl) rfl ?_; refine z7 (zo L (zq rfl) rfl rfl rfl rfl) rfl ?_; refine z7 (yj rfl rfl rfl rfl (by assumption)) rfl ?_; refine z7 (qp rfl rfl rfl rfl (decide_eq_true (by omega))) rfl ?_; refine zh ?_; refine zj ?_; refine qa rfl ?_; refine z8 (id := 6) ?_; refine z7 (q0 L rfl rfl rfl rfl) rfl ?_; refine z7 (q0 L rfl rfl rfl rfl) rfl ?_; refine z7 (q0 L rfl rfl rfl rfl) rfl ?_; refine z7 (zo L (qk rfl (List.Mem.tail _ (List.Mem.head _))) rfl rfl rfl rfl) rfl ?_; refine z7 (q0 L rfl rfl rfl rfl) rfl ?_; refine box_store L (O1 := []) rfl rfl rfl rfl rfl rfl rfl rfl rfl ?_; refine zh ?_; refine zj ?_; refine zg ?_; refine zg ?_; refine z8 (id := 7) ?_; refine z7 (zk L rfl rfl rfl rfl) rfl ?_; refine z7 (zo L (zq rfl) rfl rfl rfl rfl) rfl ?_; refine z7 (yj rfl rfl rfl rfl (by assumption)) rfl ?_; refine z7 (qp rfl rfl rfl rfl (decide_eq_false (by omega))) rfl ?_; refine zh ?_; refine zj ?_; refine q8 rfl ?_; refine q9 ?_; refine zj ?_; refine zg ?_; refine zg ?_; refine z8 (id := 9) ?_; refine z7 (zk L rfl rfl rfl rfl) rfl ?_; refine z7 (zo L (zq rfl) rfl rfl rfl rfl) rfl ?_; refine z7 (yj rfl rfl rfl rfl (by assumption)) rfl ?_; refine z7 (qp rfl rfl rfl rfl (decide_eq_true (by omega))) rfl ?_; refine zh ?_; refine zj ?_; refine qa rfl ?_; refine zg ?_; refine z8 (id := 10) ?_; refine z7 (q0 L rfl rfl rfl rfl) rfl ?_; refine z7 (zz L (vs := [_, _, _]) (qk rfl (List.Mem.tail _ (List.Mem.head _))) rfl rfl rfl rfl ⟨_, rfl⟩) rfl ?_; refine z7 (q0 L rfl rfl rfl rfl) rfl ?_; refine box_store L (O1 := []) rfl rfl rfl rfl rfl rfl rfl rfl rfl ?_; refine zh ?_; refine zj ?_; refine z8 (id := 11) ?_; refine z7 (q0 L rfl rfl rfl rfl) rfl ?_; refine box_store L (O1 := []) rfl rfl rfl rfl rfl rfl rfl rfl rfl ?_; refine zh ?_; refine zj ?_; refine zg ?_; refine z8 (id := 12) ?_; refine z7 (zz L (vs := [_, _, _, _, _, _, _]) (qk rfl (List.Mem.head _)) rfl rfl rfl rfl ⟨_, rfl⟩) rfl ?_; refine z7 (qg L rfl rfl rfl rfl rfl rfl rfl rfl) rfl ?_; refine zh ?_; refine zj ?_
          refine qi L (rs := [.cell 2 53]) rfl (fun _ _ h => h) Since.refl fun u H hH hle => ?_
          refine resK_cellA (ql rfl) rfl rfl ?_
          rfl
        · obtain rfl : k3 = 0 := by omega
          refine z8 (id := 3) ?_; refine z7 (zk L rfl rfl rfl rfl) rfl ?_; refine z7 (zo L (zq rfl) rfl rfl rfl rfl) rfl ?_; refine z7 (yj rfl rfl rfl rfl (by assumption)) rfl ?_; refine z7 (qp rfl rfl rfl rfl (decide_eq_false (by omega))) rfl ?_; refine zh ?_; refine zj ?_; refine q8 rfl ?_; refine q9 ?_; refine zj ?_; refine zg ?_; refine zg ?_; refine z8 (id := 5) ?_; refine z7 (zk L rfl rfl rfl rfl) rfl ?_; refine z7 (zo L (zq rfl) rfl rfl rfl rfl) rfl ?_; refine z7 (yj rfl rfl rfl rfl (by assumption)) rfl ?_; refine z7 (qp rfl rfl rfl rfl (decide_eq_true (by omega))) rfl ?_; refine zh ?_; refine zj ?_; refine qa rfl ?_; refine z8 (id := 6) ?_; refine z7 (q0 L rfl rfl rfl rfl) rfl ?_; refine z7 (q0 L rfl rfl rfl rfl) rfl ?_; refine z7 (q0 L rfl rfl rfl rfl) rfl ?_; refine z7 (zo L (qk rfl (List.Mem.tail _ (List.Mem.head _))) rfl rfl rfl rfl) rfl ?_; refine z7 (q0 L rfl rfl rfl rfl) rfl ?_; refine box_store L (O1 := []) rfl rfl rfl rfl rfl rfl rfl rfl rfl ?_; refine zh ?_; refine zj ?_; refine zg ?_; refine zg ?_; refine z8 (id := 7) ?_; refine z7 (zk L rfl rfl rfl rfl) rfl ?_; refine z7 (zo L (zq rfl) rfl rfl rfl rfl) rfl ?_; refine z7 (yj rfl rfl rfl rfl (by assumption)) rfl ?_; refine z7 (qp rfl rfl rfl rfl (decide_eq_false (by omega))) rfl ?_; refine zh ?_; refine zj ?_; refine q8 rfl ?_; refine q9 ?_; refine zj ?_; refine zg ?_; refine zg ?_; refine z8 (id := 9) ?_; refine z7 (zk L rfl rfl rfl rfl) rfl ?_; refine z7 (zo L (zq rfl) rfl rfl rfl rfl) rfl ?_; refine z7 (yj rfl rfl rfl rfl (by assumption)) rfl ?_; refine z7 (qp rfl rfl rfl rfl (decide_eq_false (by omega))) rfl ?_; refine zh ?_; refine zj ?_; refine q8 rfl ?_; refine q9 ?_; refine zj ?_; refine zg ?_; refine z8 (id := 12) ?_; refine z7 (zz L (vs := [_, _, _, _, _, _, _]) (qk rfl (List.Mem.head _)) rfl rfl rfl rfl ⟨_, rfl⟩) rfl ?_; refine z7 (qg L rfl rfl rfl rfl rfl rfl rfl rfl) rfl ?_; refine zh ?_; refine zj ?_
          refine qi L (rs := [.cell 2 53]) rfl (fun _ _ h => h) Since.refl fun u H hH hle => ?_
          refine resK_cellA (ql rfl) rfl rfl ?_
          rfl
    · obtain rfl : k1 = 0 := by omega
      by_cases c2 : k2 = 1
      · subst c2
        by_cases c3 : k3 = 1
        · subst c3
          refine z8 (id := 3) ?_; refine z7 (zk L rfl rfl rfl rfl) rfl ?_; refine z7 (zo L (zq rfl) rfl rfl rfl rfl) rfl ?_; refine z7 (yj rfl rfl rfl rfl (by assumption)) rfl ?_; refine z7 (qp rfl rfl rfl rfl (decide_eq_false (by omega))) rfl ?_; refine zh ?_; refine zj ?_; refine q8 rfl ?_; refine q9 ?_; refine zj ?_; refine zg ?_; refine zg ?_; refine z8 (id := 5) ?_; refine z7 (zk L rfl rfl rfl rfl) rfl ?_; refine z7 (zo L (zq rfl) rfl rfl rfl rfl) rfl ?_; refine z7 (yj rfl rfl rfl rfl (by assumption)) rfl ?_; refine z7 (qp rfl rfl rfl rfl (decide_eq_false (by omega))) rfl ?_; refine zh ?_; refine zj ?_; refine q8 rfl ?_; refine q9 ?_; refine zj ?_; refine zg ?_; refine zg ?_; refine z8 (id := 7) ?_; refine z7 (zk L rfl rfl rfl rfl) rfl ?_; refine z7 (zo L (zq rfl) rfl rfl rfl rfl) rfl ?_; refine z7 (yj rfl rfl rfl rfl (by assumption)) rfl ?_; refine z7 (qp rfl rfl rfl rfl (decide_eq_true (by omega))) rfl ?_; refine zh ?_; refine zj ?_; refine qa rfl ?_; refine z8 (id := 8) ?_; refine z7 (q0 L rfl rfl rfl rfl) rfl ?_; refine z7 (q0 L rfl rfl rfl rfl) rfl ?_; refine z7 (zo L (qk rfl (List.Mem.tail _ (List.Mem.head _))) rfl rfl rfl rfl) rfl ?_; refine z7 (q0 L rfl rfl rfl rfl) rfl ?_; refine box_store L (O1 := []) rfl rfl rfl rfl rfl rfl rfl rfl rfl ?_; refine zh ?_; refine zj ?_; refine zg ?_; refine zg ?_; refine z8 (id := 9) ?_; refine z7 (zk L rfl rfl rfl rfl) rfl ?_; refine z7 (zo L (zq rfl) rfl rfl rfl rfl) rfl ?_; refine z7 (yj rfl rfl rfl rfl (by assumption)) rfl ?_; refine z7 (qp rfl rfl rfl rfl (decide_eq_true (by omega))) rfl ?_; refine zh ?_; refine zj ?_; refine qa rfl ?_; refine zg ?_; refine z8 (id := 10) ?_; refine z7 (q0 L rfl rfl rfl rfl) rfl ?_; refine z7 (zz L (vs := [_, _, _]) (qk rfl (List.Mem.tail _ (List.Mem.head _))) rfl rfl rfl rfl ⟨_, rfl⟩) rfl ?_; refine z7 (q0 L rfl rfl rfl rfl) rfl ?_; refine box_store L (O1 := []) rfl rfl rfl rfl rfl rfl rfl rfl rfl ?_; refine zh ?_; refine zj ?_; refine z8 (id := 11) ?_; refine z7 (q0 L rfl rfl rfl rfl) rfl ?_; refine box_store L (O1 := []) rfl rfl rfl rfl rfl rfl rfl rfl rfl ?_; refine zh ?_; refine zj ?_; refine zg ?_; refine z8 (id := 12) ?_; refine z7 (zz L (vs := [_, _, _, _, _, _, _]) (qk rfl (List.Mem.head _)) rfl rfl rfl rfl ⟨_, rfl⟩) rfl ?_; refine z7 (qg L rfl rfl rfl rfl rfl rfl rfl rfl) rfl ?_; refine zh ?_; refine zj ?_
          refine qi L (rs := [.cell 2 53]) rfl (fun _ _ h => h) Since.refl fun u H hH hle => ?_
          refine resK_cellA (ql rfl) rfl rfl ?_
          rfl
        · obtain rfl : k3 = 0 := by omega
          refine z8 (id := 3) ?_; refine z7 (zk L rfl rfl rfl rfl) rfl ?_; refine z7 (zo L (zq rfl) rfl rfl rfl rfl) rfl ?_; refine z7 (yj rfl rfl rfl rfl (by assumption)) rfl ?_; refine z7 (qp rfl rfl rfl rfl (decide_eq_false (by omega))) rfl ?_; refine zh ?_; refine zj ?_; refine q8 rfl ?_; refine q9 ?_; refine zj ?_; refine zg ?_; refine zg ?_; refine z8 (id := 5) ?_; refine z7 (zk L rfl rfl rfl rfl) rfl ?_; refine z7 (zo L (zq rfl) rfl rfl rfl rfl) rfl ?_; refine z7 (yj rfl rfl rfl rfl (by assumption)) rfl ?_; refine z7 (qp rfl rfl rfl rfl (decide_eq_false (by omega))) rfl ?_; refine zh ?_; refine zj ?_; refine q8 rfl ?_; refine q9 ?_; refine zj ?_; refine zg ?_; refine zg ?_; refine z8 (id := 7) ?_; refine z7 (zk L rfl rfl rfl rfl) rfl ?_; refine z7 (zo L (zq rfl) rfl rfl rfl rfl) rfl ?_; refine z7 (yj rfl rfl rfl rfl (by assumption)) rfl ?_; refine z7 (qp rfl rfl rfl rfl (decide_eq_true (by omega))) rfl ?_; refine zh ?_; refine zj ?_; refine qa rfl ?_; refine z8 (id := 8) ?_; refine z7 (q0 L rfl rfl rfl rfl) rfl ?_; refine z7 (q0 L rfl rfl rfl rfl) rfl ?_; refine z7 (zo L (qk rfl (List.Mem.tail _ (List.Mem.head _))) rfl rfl rfl rfl) rfl ?_; refine z7 (q0 L rfl rfl rfl rfl) rfl ?_; refine box_store L (O1 := []) rfl rfl rfl rfl rfl rfl rfl rfl rfl ?_; refine zh ?_; refine zj ?_; refine zg ?_; refine zg ?_; refine z8 (id := 9) ?_; refine z7 (zk L rfl rfl rfl rfl) rfl ?_; refine z7 (zo L (zq rfl) rfl rfl rfl rfl) rfl ?_; refine z7 (yj rfl rfl rfl rfl (by assumption)) rfl ?_; refine z7 (qp rfl rfl rfl rfl (decide_eq_false (by omega))) rfl ?_; refine zh ?_; refine zj ?_; refine q8 rfl ?_; refine q9 ?_; refine zj ?_; refine zg ?_; refine z8 (id := 12) ?_; refine z7 (zz L (vs := [_, _, _, _, _, _, _]) (qk rfl (List.Mem.head _)) rfl rfl rfl rfl ⟨_, rfl⟩) rfl ?_; refine z7 (qg L rfl rfl rfl rfl rfl rfl rfl rfl) rfl ?_; refine zh ?_; refine zj ?_
          refine qi L (rs := [.cell 2 53]) rfl (fun _ _ h => h) Since.refl fun u H hH hle => ?_
          refine resK_cellA (ql rfl) rfl rfl ?_
          rfl
      · obtain rfl : k2 = 0 := by omega
        by_cases c3 : k3 = 1
        · subst c3
          refine z8 (id := 3) ?_; refine z7 (zk L rfl rfl rfl rfl) rfl ?_; refine z7 (zo L (zq rfl) rfl rfl rfl rfl) rfl ?_; refine z7 (yj rfl rfl rfl rfl (by assumption)) rfl ?_; refine z7 (qp rfl rfl rfl rfl (decide_eq_false (by omega))) rfl ?_; refine zh ?_; refine zj ?_; refine q8 rfl ?_; refine q9 ?_; refine zj ?_; refine zg ?_; refine zg ?_; refine z8 (id := 5) ?_; refine z7 (zk L rfl rfl rfl rfl) rfl ?_; refine z7 (zo L (zq rfl) rfl rfl rfl rfl) rfl ?_; refine z7 (yj rfl rfl rfl rfl (by assumption)) rfl ?_; refine z7 (qp rfl rfl rfl rfl (decide_eq_false (by omega))) rfl ?_; refine zh ?_; refine zj ?_; refine q8 rfl ?_; refine q9 ?_; refine zj ?_; refine zg ?_; refine zg ?_; refine z8 (id := 7) ?_; refine z7 (zk L rfl rfl rfl rfl) rfl ?_; refine z7 (zo L (zq rfl) rfl rfl rfl rfl) rfl ?_; refine z7 (yj rfl rfl rfl rfl (by assumption)) rfl ?_; refine z7 (qp rfl rfl rfl rfl (decide_eq_false (by omega))) rfl ?_; refine zh ?_; refine zj ?_; refine q8 rfl ?_; refine q9 ?_; refine zj ?_; refine zg ?_; refine zg ?_; refine z8 (id := 9) ?_; refine z7 (zk L rfl rfl rfl rfl) rfl ?_; refine z7 (zo L (zq rfl) rfl rfl rfl rfl) rfl ?_; refine z7 (yj rfl rfl rfl rfl (by assumption)) rfl ?_; refine z7 (qp rfl rfl rfl rfl (decide_eq_true (by omega))) rfl ?_; refine zh ?_; refine zj ?_; refine qa rfl ?_; refine zg ?_; refine z8 (id := 10) ?_; refine z7 (q0 L rfl rfl rfl rfl) rfl ?_; refine z7 (zz L (vs := [_, _, _]) (qk rfl (List.Mem.tail _ (List.Mem.head _))) rfl rfl rfl rfl ⟨_, rfl⟩) rfl ?_; refine z7 (q0 L rfl rfl rfl rfl) rfl ?_; refine box_store L (O1 := []) rfl rfl rfl rfl rfl rfl rfl rfl rfl ?_; refine zh ?_; refine zj ?_; refine z8 (id := 11) ?_; refine z7 (q0 L rfl rfl rfl rfl) rfl ?_; refine box_store L (O1 := []) rfl rfl rfl rfl rfl rfl rfl rfl rfl ?_; refine zh ?_; refine zj ?_; refine zg ?_; refine z8 (id := 12) ?_; refine z7 (zz L (vs := [_, _, _, _, _, _, _]) (qk rfl (List.Mem.head _)) rfl rfl rfl rfl ⟨_, rfl⟩) rfl ?_; refine z7 (qg L rfl rfl rfl rfl rfl rfl rfl rfl) rfl ?_; refine zh ?_; refine zj ?_
          refine qi L (rs := [.cell 2 53]) rfl (fun _ _ h => h) Since.refl fun u H hH hle => ?_
          refine resK_cellA (ql rfl) rfl rfl ?_
          rfl
        · obtain rfl : k3 = 0 := by omega
          refine z8 (id := 3) ?_; refine z7 (zk L rfl rfl rfl rfl) rfl ?_; refine z7 (zo L (zq rfl) rfl rfl rfl rfl) rfl ?_; refine z7 (yj rfl rfl rfl rfl (by assumption)) rfl ?_; refine z7 (qp rfl rfl rfl rfl (decide_eq_false (by omega))) rfl ?_; refine zh ?_; refine zj ?_; refine q8 rfl ?_; refine q9 ?_; refine zj ?_; refine zg ?_; refine zg ?_; refine z8 (id := 5) ?_; refine z7 (zk L rfl rfl rfl rfl) rfl ?_; refine z7 (zo L (zq rfl) rfl rfl rfl rfl) rfl ?_; refine z7 (yj rfl rfl rfl rfl (by assumption)) rfl ?_; refine z7 (qp rfl rfl rfl rfl (decide_eq_false (by omega))) rfl ?_; refine zh ?_; refine zj ?_; refine q8 rfl ?_; refine q9 ?_; refine zj ?_; refine zg ?_; refine zg ?_; refine z8 (id := 7) ?_; refine z7 (zk L rfl rfl rfl rfl) rfl ?_; refine z7 (zo L (zq rfl) rfl rfl rfl rfl) rfl ?_; refine z7 (yj rfl rfl rfl rfl (by assumption)) rfl ?_; refine z7 (qp rfl rfl rfl rfl (decide_eq_false (by omega))) rfl ?_; refine zh ?_; refine zj ?_; refine q8 rfl ?_; refine q9 ?_; refine zj ?_; refine zg ?_; refine zg ?_; refine z8 (id := 9) ?_; refine z7 (zk L rfl rfl rfl rfl) rfl ?_; refine z7 (zo L (zq rfl) rfl rfl rfl rfl) rfl ?_; refine z7 (yj rfl rfl rfl rfl (by assumption)) rfl ?_; refine z7 (qp rfl rfl rfl rfl (decide_eq_false (by omega))) rfl ?_; refine zh ?_; refine zj ?_; refine q8 rfl ?_; refine q9 ?_; refine zj ?_; refine zg ?_; refine z8 (id := 12) ?_; refine z7 (zz L (vs := [_, _, _, _, _, _, _]) (qk rfl (List.Mem.head _)) rfl rfl rfl rfl ⟨_, rfl⟩) rfl ?_; refine z7 (qg L rfl rfl rfl rfl rfl rfl rfl rfl) rfl ?_; refine zh ?_; refine zj ?_
          refine qi L (rs := [.cell 2 53]) rfl (fun _ _ h => h) Since.refl fun u H hH hle => ?_
          refine resK_cellA (ql rfl) rfl rfl ?_
          rfl
end Go.V.L3
namespace Go.V.L3
open Go.Proofs Go.RowKit Go.V Go.V.L2
theorem iany_has : ∀ l : List UInt8, decide (0 ≤ Lib.indexAny l [58, 35]) = (decide (0 ≤ Lib.indexByte l 58) || decide (0 ≤ Lib.indexByte l 35))
  | [] => rfl
  | b :: l => by
    have ih := iany_has l
    have g1 := Lib.indexAny_ge [58, 35] l
    have g2 := Lib.indexByte_ge l 58
    have g3 := Lib.indexByte_ge l 35
    rw [Lib.indexAny, Lib.indexByte, Lib.indexByte]
    by_cases h : b = 58
    · subst h; simp
    · by_cases h2 : b = 35
      · subst h2; simp
      · have hc : ([58, 35] : List UInt8).contains b = false := by simp [h, h2]
        have hb1 : (b == 58) = false := by simpa using h
        have hb2 : (b == 35) = false := by simpa using h2
        rw [hc, hb1, hb2]
        simp only [Bool.false_eq_true, if_false, beq_iff_eq]
        rw [Bool.eq_iff_iff] at ih ⊢
        simp only [Bool.or_eq_true, decide_eq_true_eq] at ih ⊢
        generalize Lib.indexAny l [58, 35] = a at ih g1 ⊢
        generalize Lib.indexByte l 58 = c at ih g2 ⊢
        generalize Lib.indexByte l 35 = d at ih g3 ⊢
        split <;> split <;> split <;> omega
theorem Ret.of_grow {P : Program} {f : FuncId} {args : List Value} {w : World} {v : Value} {B : Heap} (hB : B.Le (hp w)) (h : Calls P f args.toArray w fun e w' => e = .returned v ∧ Below w.heap.size w w' ∧ w.drawn ≤ w'.drawn) : Ret P f args w B (fun x _ => x = v) :=
  Calls.mono h fun _ w' ⟨he, hw, hd⟩ => ⟨v, he, B, ⟨Keep.of_below hw hd, fun i o ho => by
    have h1 : w.heap[i]? = some o := hB i o ho
    have h2 : i < w.heap.size := by
      rcases Nat.lt_or_ge i w.heap.size with h | h
      · exact h
      · rw [Array.getElem?_eq_none h] at h1; cases h1
    show w'.heap[i]? = some o
    obtain ⟨_, _, _, _, hk⟩ := hw
    rw [hk i h2]; exact h1, Heap.Le.refl _, fun _ _ _ => rfl⟩, rfl⟩
attribute [local irreducible] V N X VO Par StepOK Has Ret RetL RetO RetT Src
def asciiB (r : ByteArray) : Bool := r.data.toList.all fun b => decide (b.toNat < 128)
theorem iany_ret {r : ByteArray} (hs : r.size ≤ 1000000) (ha : r.size ≤ 8 → asciiB r = true) {w : World} {B : Heap} (hB : B.Le (hp w)) :
    Ret Tryz.prog 91 [.string r, .string ⟨#[58, 35]⟩] w B (fun v _ => v = .int .i64 (Lib.indexAny r.data.toList [58, 35])) := by
  have hc : ∀ (j : Nat) b, (ByteArray.mk #[58, 35]).data.toList[j]? = some b → b.toNat < 128 := by
    intro j b h
    have h2 : ([58, 35] : List UInt8)[j]? = some b := h
    have := List.mem_of_getElem? h2
    simp at this
    rcases this with rfl | rfl <;> decide
  by_cases h8 : r.size ≤ 8
  · have hall : ∀ (j : Nat) b, r.data.toList[j]? = some b → b.toNat < 128 := fun j b h => by
      have h1 := ha h8
      unfold asciiB at h1
      simpa using List.all_eq_true.1 h1 b (List.mem_of_getElem? h)
    refine Ret.of_grow hB ((Any.strings_IndexAny_short Tryz.lays153 r ⟨#[58, 35]⟩ w (by decide) h8 hall).mono fun e w' ⟨h1, pos, h2⟩ => ⟨h1, ?_⟩)
    rw [h2]
    exact ⟨(Below.refl _ _).alloc (Nat.le_refl _) _, Nat.le_refl _⟩
  · refine Ret.of_grow hB ((Any.strings_IndexAny_long Tryz.lays153 (zero_of_info (n := 256) (by kernel_rfl)).1 (by kernel_rfl) r ⟨#[58, 35]⟩ w (by decide) (by omega) (by omega) (by decide) hc).mono fun e w' ⟨h1, h2⟩ => ⟨h1, ?_⟩)
    rw [h2]
    exact ⟨((Below.refl _ _).alloc (Nat.le_refl _) _).alloc (by simp) _, Nat.le_refl _⟩
theorem cany_ret {r : ByteArray} (hs : r.size ≤ 1000000) (ha : r.size ≤ 8 → asciiB r = true) {w : World} {B : Heap} (hB : B.Le (hp w)) :
    Ret Tryz.prog 72 [.string r, .string ⟨#[58, 35]⟩] w B (fun v _ => v = .bool (hasA r 58 || hasA r 35)) := by
  have e : decide (0 ≤ Lib.indexAny r.data.toList [58, 35]) = (hasA r 58 || hasA r 35) := iany_has _
  rw [← e]
  refine qx Tryz.func72 rfl Tryz.ntmps72 (Nat.le_of_ble_eq_true rfl) hB ?_
  refine zg ?_; refine z8 (id := 0) ?_; refine z7 (zi rfl rfl rfl) rfl ?_; refine zh ?_; refine zj ?_; refine zg ?_; refine z8 (id := 1) ?_; refine z7 (zf rfl rfl rfl) rfl ?_; refine z7 (zf rfl rfl rfl) rfl ?_; refine z7 (q6 L rfl rfl (zm rfl) rfl rfl rfl (fun u H hH _ _ => iany_ret hs ha hH)) rfl ?_; refine z7 (ok_geq rfl rfl rfl rfl rfl) rfl ?_; refine z7 (zi rfl rfl rfl) rfl ?_; refine zh ?_; refine zj ?_
  refine qi L (rs := [.tmp 4]) rfl (fun _ _ h => h) Since.refl fun u H hH hle => ?_
  rfl
end Go.V.L3
namespace Go.V.L3
open Go.Proofs Go.RowKit Go.V Go.V.L2
attribute [local irreducible] V N X VO Par StepOK Has Ret RetL RetO RetT Src
end Go.V.L3
namespace Go.V.L3
open Go.Proofs Go.RowKit Go.V Go.V.L2
theorem relOf_size (s : ByteArray) : (relOf s).size ≤ s.size := by
  unfold relOf
  have h1 := cutA_size s 64
  have h2 := cutA_size (cutA s 64).1 58
  have h3 := cutA_size (cutA (cutA s 64).1 58).2.1 35
  omega
attribute [local irreducible] V N X VO Par StepOK Has Ret RetL RetO RetT Src
theorem rtparse_x {s : ByteArray} {t : U} {e : Int} (hr : ptA s = (t, e)) (hs : s.size ≤ 1000000) {w : World} {B : Heap} (hB : B.Le (hp w)) :
    Ret Tryz.prog 69 [.string s] w B (fun v _ => v = .tuple #[uv t, .int .i64 e]) := rtparse_ret hr hs hB
theorem fparse_asc {s : ByteArray} {x : FT} {e : Int} (hr : pfA s = (x, e)) (hs : s.size ≤ 1000000) (ha : asciiB (relOf s) = true) {w : World} {B : Heap} (hB : B.Le (hp w)) (hM : GlobM B) :
    Ret Tryz.prog 50 [.string s] w B (fun v _ => v = .tuple #[fv x, .int .i64 e]) :=
  fparse_ret hr hs (fun w B h => cany_ret (Nat.le_trans (relOf_size s) hs) (fun _ => ha) h) hB hM
def fmB (f : FT) : Bool := decide (f.1.1.1.size ≤ 1000) && decide (f.1.1.2.size ≤ 1000) && decide (f.1.2.size ≤ 1000) && decide (f.2.1.1.1.size ≤ 1000) && decide (f.2.1.1.2.size ≤ 1000) && decide (f.2.1.2.size ≤ 1000)
theorem fm_of {f : FT} (h : fmB f = true) : FM f := by
  unfold fmB at h
  simp only [Bool.and_eq_true, decide_eq_true_eq] at h
  unfold FM; omega
end Go.V.L3
namespace Go.V.L6
open Go.Proofs Go.RowKit Go.V Go.V.L2 Go.V.L3
abbrev d0 : U := (((⟨#[100, 111, 99]⟩, ⟨#[97]⟩), ⟨#[118, 105, 101, 119, 101, 114]⟩), ((⟨#[117, 115, 101, 114]⟩, ⟨#[120]⟩), ⟨#[]⟩))
abbrev d1 : U := (((⟨#[100, 111, 99]⟩, ⟨#[97]⟩), ⟨#[118, 105, 101, 119, 101, 114]⟩), ((⟨#[103, 114, 111, 117, 112]⟩, ⟨#[103]⟩), ⟨#[109, 101, 109, 98, 101, 114]⟩))
abbrev d2 : U := (((⟨#[100, 111, 99]⟩, ⟨#[98]⟩), ⟨#[118, 105, 101, 119, 101, 114]⟩), ((⟨#[117, 115, 101, 114]⟩, ⟨#[120]⟩), ⟨#[]⟩))
def d3L : List U := [d0, d1, d2]
def d3S : List ByteArray := [⟨#[100, 111, 99, 58, 97, 35, 118, 105, 101, 119, 101, 114, 64, 117, 115, 101, 114, 58, 120]⟩, ⟨#[100, 111, 99, 58, 97, 35, 118, 105, 101, 119, 101, 114, 64, 103, 114, 111, 117, 112, 58, 103, 35, 109, 101, 109, 98, 101, 114]⟩, ⟨#[100, 111, 99, 58, 98, 35, 118, 105, 101, 119, 101, 114, 64, 117, 115, 101, 114, 58, 120]⟩]
theorem d3_at {i : Nat} (h : i < 3) : ∃ s t, d3S[i]? = some s ∧ d3L[i]? = some t ∧ ptA s = (t, 0) ∧ s.size ≤ 1000000 := by
  have p0 : ptA ⟨#[100, 111, 99, 58, 97, 35, 118, 105, 101, 119, 101, 114, 64, 117, 115, 101, 114, 58, 120]⟩ = (d0, 0) := by decide +kernel
  have p1 : ptA ⟨#[100, 111, 99, 58, 97, 35, 118, 105, 101, 119, 101, 114, 64, 103, 114, 111, 117, 112, 58, 103, 35, 109, 101, 109, 98, 101, 114]⟩ = (d1, 0) := by decide +kernel
  have p2 : ptA ⟨#[100, 111, 99, 58, 98, 35, 118, 105, 101, 119, 101, 114, 64, 117, 115, 101, 114, 58, 120]⟩ = (d2, 0) := by decide +kernel
  rcases i with _ | _ | _ | i
  · exact ⟨_, _, rfl, rfl, p0, by decide⟩
  · exact ⟨_, _, rfl, rfl, p1, by decide⟩
  · exact ⟨_, _, rfl, rfl, p2, by decide⟩
  · omega
def tzB (t : U) : Bool := decide (t.1.1.1.size ≤ 1000) && decide (t.1.1.2.size ≤ 1000) && decide (t.1.2.size ≤ 1000) && decide (t.2.1.1.size ≤ 1000) && decide (t.2.1.2.size ≤ 1000) && decide (t.2.2.size ≤ 1000)
theorem tz_ofB {t : U} (h : tzB t = true) : TZ t := by
  unfold tzB at h
  simp only [Bool.and_eq_true, decide_eq_true_eq] at h
  unfold TZ; omega
abbrev tN6 : U := (n3, n3)
abbrev xdoc : FT := (((⟨#[100, 111, 99]⟩, ⟨#[]⟩), ⟨#[]⟩), n3, false)
attribute [local irreducible] V N X VO Par StepOK Has Ret RetL RetO RetT Src
set_option maxHeartbeats 1000000 in
theorem small06_ret {w : World} {B : Heap} (hB : B.Le (hp w)) : Ret Tryz.prog 49 [] w B (US d3L false) := by
  have hll : d3L.length = 3 := rfl
  refine qx Tryz.func49 rfl Tryz.ntmps49 (Nat.le_of_ble_eq_true rfl) hB ?_
  refine zg ?_; refine z8 (id := 0) ?_; refine z7 (zi rfl rfl rfl) rfl ?_; refine zh ?_; refine zj ?_; refine zg ?_; refine z8 (id := 1) ?_; refine z7 (zi rfl rfl rfl) rfl ?_; refine zh ?_; refine zj ?_; refine zg ?_
  refine V_nilR 1 tyU 6 rfl ?_
  refine z8 (id := 2) ?_; refine z7 (qw L rfl rfl rfl rfl rfl rfl rfl rfl rfl) rfl ?_; refine z7 (qz rfl rfl rfl) rfl ?_; refine zh ?_; refine zj ?_; refine zg ?_; refine zg ?_; refine z8 (id := 3) ?_; refine z7 (zi rfl rfl rfl) rfl ?_; refine zh ?_; refine zj ?_; refine qd ?_
  refine V_imp 2 (SlB (d3S.map Value.string) 9 3) rfl SlB.mono (fun _ _ h => by unfold d3S; exact h) ?_
  refine V_loop (fun i : Nat => [(1, .own (SlR tyU 6 (d3L.take i).length ((d3L.take i).flatMap ucs))), (2, .sat (SlB (d3S.map Value.string) 9 3)), (3, .is (.int .i64 i))]) (fun i => i ≤ 3) (fun i => 3 - i) 0 (Nat.zero_le _) ⟨rfl, rfl, rfl, trivial⟩ ?_
  rintro i hi
  have hli := List.length_take (i := i) (l := d3L)
  by_cases hlt : i < 3
  · obtain ⟨s, t, g1, g2, g3, g4⟩ := d3_at hlt
    have hcs : (d3S.map Value.string)[i * 1]? = some (.string s) := by simp [g1]
    refine zg ?_; refine zg ?_; refine z8 (id := 4) ?_; refine z7 (zf rfl rfl rfl) rfl ?_; refine z7 (qe rfl rfl rfl rfl (decide_eq_true (by omega))) rfl ?_; refine zh ?_; refine zj ?_; refine qa rfl ?_; refine q9 ?_; refine zj ?_; refine zg ?_; refine qd ?_; refine zg ?_; refine z8 (id := 6) ?_; refine z7 (q7 rfl rfl rfl) rfl ?_; refine z7 (zf rfl rfl rfl) rfl ?_; refine z7 (ye L _ rfl rfl rfl rfl rfl rfl rfl (by omega)) rfl ?_; refine z7 (ok_load1c L (zq rfl) rfl rfl rfl (by assumption)) rfl ?_; refine z7 (q6 L rfl rfl (zm rfl) rfl rfl rfl (fun u H hH _ _ => rtparse_x g3 g4 hH)) rfl ?_; refine z7 (zf rfl rfl rfl) rfl ?_; refine z7 (qb rfl rfl rfl rfl) rfl ?_; refine z7 (qb rfl rfl rfl rfl) rfl ?_; refine z7 (qm L rfl rfl rfl rfl) rfl ?_; refine z7 (qg L rfl rfl rfl rfl rfl rfl rfl rfl) rfl ?_; refine z7 (zi rfl rfl rfl) rfl ?_; refine zh ?_; refine zj ?_; refine z8 (id := 7) ?_; refine qn (y9 (.inl rfl) rfl rfl rfl rfl) ?_; refine z7 (zz L (vs := [_, _, _, _, _, _]) (ql rfl) rfl rfl rfl rfl ⟨_, rfl⟩) rfl ?_; refine z7 (qw L rfl rfl rfl rfl rfl rfl rfl rfl rfl) rfl ?_; refine qn (ok_append L rfl rfl rfl (apd_B rfl) rfl el50 rfl rfl (by omega) (by omega)) ?_; refine qn (y9 (.inr rfl) rfl rfl rfl rfl) ?_; refine zh ?_; refine qr ?_; refine zj ?_; refine z8 (id := 5) ?_; refine z7 (zf rfl rfl rfl) rfl ?_; refine z7 (qy rfl rfl rfl rfl (wrap_i64 (by omega) (by omega))) rfl ?_; refine z7 (zi rfl rfl rfl) rfl ?_; refine zh ?_
    exact y7 (x := i) (i + 1) (by omega) (by omega) ⟨by rw [take_s g2]; exact ups_snoc rfl, rfl, rfl, trivial⟩
  · obtain rfl : i = 3 := by omega
    have e3 : d3L.take 3 = d3L := rfl
    rw [e3]
    refine zg ?_; refine zg ?_; refine z8 (id := 4) ?_; refine z7 (zf rfl rfl rfl) rfl ?_; refine z7 (qe rfl rfl rfl rfl (decide_eq_false (by omega))) rfl ?_; refine zh ?_; refine zj ?_; refine q8 rfl ?_; refine yi ?_; refine qu ?_; refine qu ?_; refine yh ?_; refine zj ?_; refine zg ?_; refine z8 (id := 8) ?_; refine qn (y9 (.inl rfl) rfl rfl rfl rfl) ?_; refine qn (y9 (.inr rfl) rfl rfl rfl rfl) ?_; refine zh ?_; refine zj ?_
    refine V_pubR 0 rfl ?_
    refine qi L (rs := [.tmp 0]) rfl (fun _ _ h => h) Since.refl fun u H hH hle => ?_
    exact fun v hv => hv
set_option maxHeartbeats 8000000 in
set_option maxRecDepth 20000 in
theorem lives06_ret {w : World} {B : Heap} (hB : B.Le (hp w)) (hM : GlobM B) : Ret Tryz.prog 22 [] w B (fun v _ => v = .bool true) := by
  have o1 : ofU [] d3L = ([d1, d0, d2], 0) := by decide +kernel
  have o2 : ofU [] [] = (([] : List U), 0) := rfl
  have pf : pfA ⟨#[100, 111, 99, 58, 42, 35, 42]⟩ = (xdoc, 0) := by decide +kernel
  have ax : asciiB (relOf ⟨#[100, 111, 99, 58, 42, 35, 42]⟩) = true := by decide +kernel
  have mx : FM xdoc := fm_of (by decide)
  have w1 : withU [d1, d0, d2] d2 true = ([d1, d0], 0) := by decide +kernel
  have w2 : withU [d1, d0, d2] tN6 false = ([], 6) := by decide +kernel
  have g1 : goalL [d1, d0, d2] d0.1 = [d1, d0] := by decide +kernel
  have s1 : subL [d1, d0, d2] d0.2 = [d0, d2] := by decide +kernel
  have m1 : matE [d1, d0, d2] xdoc = [d1, d0, d2] := by decide +kernel
  have gs : goalsL [d1, d0] = [d0.1] := by decide +kernel
  have hz : ∀ t ∈ d3L, TZ t := by
    intro t ht
    have : ∀ t ∈ d3L, tzB t = true := by decide +kernel
    exact tz_ofB (this t ht)
  have z2 : TZ d2 := tz_ofB (by decide)
  have zN : TZ tN6 := tz_ofB (by decide)
  have c0 : ((d3L.flatMap ucs).drop (0 * 6)).take 6 = ucs d0 := rfl
  have c1 : ((d3L.flatMap ucs).drop (1 * 6)).take 6 = ucs d1 := rfl
  have c2 : ((d3L.flatMap ucs).drop (2 * 6)).take 6 = ucs d2 := rfl
  have hlen : d3L.length = 3 := rfl
  have hsm : ∀ (w : World) (B : Heap), B.Le (hp w) → Ret Tryz.prog 49 [] w B (US d3L false) := fun w B h => small06_ret h
  generalize d3L = l at *
  have eg := eq3 (g := d0.1) (h := d0.1) (decide_eq_true rfl)
  have cg : (([d0.1].flatMap gcs3).drop (0 * 3)).take 3 = gcs3 d0.1 := rfl
  have hms : Kn.mono (.sat (SetV [d1, d0])) := SetV.mono
  refine qx Tryz.func22 rfl Tryz.ntmps22 (Nat.le_of_ble_eq_true rfl) hB ?_
  refine zg ?_; refine z8 (id := 0) ?_; refine z7 (zi rfl rfl rfl) rfl ?_; refine zh ?_; refine zj ?_; refine zg ?_; refine z8 (id := 1) ?_; refine z7 (ya (φ := US l false) L rfl rfl (zm rfl) rfl rfl rfl SlV.mono (fun u H hH _ _ => hsm u H hH)) rfl ?_; refine z7 (qz rfl rfl rfl) rfl ?_; refine zh ?_; refine zj ?_; refine zg ?_; refine z8 (id := 2) ?_; refine z7 (q7 rfl rfl rfl) rfl ?_; refine z7 (ya (φ := WithP [d1, d0, d2] 0) L rfl rfl (zm rfl) rfl rfl rfl WithP.mono (fun u H hH _ _ v1 h1 => sof_ret o1 (by omega) hz hH h1)) rfl ?_; refine vo_opn 16 rfl ?_; rintro _ H1 hs1 ⟨tv, rfl, hT1⟩; obtain ⟨f1, p1, k1, q1, rfl, hp1⟩ := hT1.shape; have hM1 := hM.mono hs1.le; refine z7 (zf rfl rfl rfl) rfl ?_; refine z7 (qb rfl rfl rfl rfl) rfl ?_; refine z7 (qb rfl rfl rfl rfl) rfl ?_; refine z7 (qm L rfl rfl rfl rfl) rfl ?_; refine z7 (qg L rfl rfl rfl rfl rfl rfl (by assumption) rfl) rfl ?_; refine z7 (zi rfl rfl rfl) rfl ?_; refine zh ?_; refine zj ?_; refine zg ?_; refine z8 (id := 3) ?_; refine z7 (q6 L rfl rfl (zm rfl) rfl rfl rfl (fun u H hH hle _ => fparse_asc pf (by decide) ax hH (hM1.mono hle))) rfl ?_; refine z7 (zf rfl rfl rfl) rfl ?_; refine z7 (qb rfl rfl rfl rfl) rfl ?_; refine z7 (qb rfl rfl rfl rfl) rfl ?_; refine z7 (qm L rfl rfl rfl rfl) rfl ?_; refine z7 (qg L rfl rfl rfl rfl rfl rfl rfl rfl) rfl ?_; refine z7 (zi rfl rfl rfl) rfl ?_; refine zh ?_; refine zj ?_; refine zg ?_
  refine qj (id := 4) [] mixed (by kernel_rfl) ?_; refine zd (zz L (vs := [_, _, _, _]) (ql rfl) rfl rfl rfl rfl ⟨_, rfl⟩) rfl ?_; refine zd (q7 rfl rfl rfl) rfl ?_; refine zd (qo L 2 rfl rfl rfl rfl rfl rfl rfl (by first | omega | decide) (by assumption)) rfl ?_; refine zd (qt L (vs := [_, _, _, _, _, _]) rfl rfl rfl rfl rfl ⟨_, rfl⟩) rfl ?_; refine zd (qv (cs := [_, _, _, _, _, _, _]) rfl rfl pl71 rfl rfl) rfl ?_; refine zd (ya (φ := WithS [d1, d0] 0) L rfl rfl (zm rfl) rfl rfl rfl WithS.mono (fun u H hH hle _ => with_ret w1 (by decide) z2 hH (hT1.le hle))) rfl ?_; refine zd (q7 rfl rfl rfl) rfl ?_; refine zd (ok_extracts rfl rfl rfl rfl (by assumption)) rfl ?_; refine zd (ok_extractx rfl rfl rfl rfl) rfl ?_; refine zd (qm L rfl rfl rfl rfl) rfl ?_; refine zd (ok_storeX L (X := SXp) (fun x => scs x.1) (sphi [d1, d0]) (sphi_mono _) set_st (fun x => ⟨rfl, x.2⟩) rfl rfl rfl rfl rfl) rfl ?_; refine zd (zi rfl rfl rfl) rfl ?_; refine qq ?_; refine zj ?_; refine zg ?_
  refine V_opnX 6 rfl fun ⟨⟨f2, p2, k2, q2⟩, hp2⟩ H2 hs2 hT2 => ?_
  have hT2 : SetV [d1, d0] (.agg #[f2, .pointer p2, k2, .pointer q2]) H2 := hT2
  replace hT1 := hT1.le hs2.le
  refine z8 (id := 5) ?_; refine z7 (zz L (vs := [_, _, _, _]) (ql rfl) rfl rfl rfl rfl ⟨_, rfl⟩) rfl ?_; refine z7 (qv (cs := [_, _, _, _, _, _, _]) rfl rfl pl71 rfl rfl) rfl ?_; refine z7 (ya (φ := WithP [] 6) L rfl rfl (zm rfl) rfl rfl rfl WithP.mono (fun u H hH hle _ => with_p w2 (by decide) zN hH (hT1.le hle))) rfl ?_; refine vo_opn 35 rfl ?_; rintro _ H3 hs3 ⟨tv, rfl, hT3⟩; obtain ⟨f3, p3, k3, q3, rfl, hp3⟩ := hT3.shape; replace hT1 := hT1.le hs3.le; replace hT2 := hT2.le hs3.le; refine z7 (zf rfl rfl rfl) rfl ?_; refine z7 (qb rfl rfl rfl rfl) rfl ?_; refine z7 (qb rfl rfl rfl rfl) rfl ?_; refine z7 (qm L rfl rfl rfl rfl) rfl ?_; refine z7 (qg L rfl rfl rfl rfl rfl rfl (by assumption) rfl) rfl ?_; refine z7 (zi rfl rfl rfl) rfl ?_; refine zh ?_; refine zj ?_; refine zg ?_; refine z8 (id := 6) ?_; refine z7 (ya (φ := WithP [] 0) L rfl rfl (zm rfl) rfl rfl rfl WithP.mono (fun u H hH hle _ => sof_ret (fu := false) o2 (by decide) (fun t ht => by cases ht) hH SlV.nil)) rfl ?_; refine vo_opn 39 rfl ?_; rintro _ H4 hs4 ⟨tv, rfl, hT4⟩; obtain ⟨f4, p4, k4, q4, rfl, hp4⟩ := hT4.shape; replace hT1 := hT1.le hs4.le; replace hT2 := hT2.le hs4.le; refine z7 (zf rfl rfl rfl) rfl ?_; refine z7 (qb rfl rfl rfl rfl) rfl ?_; refine z7 (qb rfl rfl rfl rfl) rfl ?_; refine z7 (qm L rfl rfl rfl rfl) rfl ?_; refine z7 (qg L rfl rfl rfl rfl rfl rfl (by assumption) rfl) rfl ?_; refine z7 (zi rfl rfl rfl) rfl ?_; refine zh ?_; refine zj ?_; refine zg ?_; refine zg ?_
  have hMz : GlobM H4 := (hM1.mono hs2.le).mono (hs3.le.trans hs4.le)
  refine qj (id := 7) [] mixed (by kernel_rfl) ?_; refine zd (zf rfl rfl rfl) rfl ?_; refine zd (zf rfl rfl rfl) rfl ?_; refine zd (qy rfl rfl rfl rfl (wrap_i64 (by omega) (by omega))) rfl ?_; refine zd (zf rfl rfl rfl) rfl ?_; refine zd (qy rfl rfl rfl rfl (wrap_i64 (by omega) (by omega))) rfl ?_; refine zd (zf rfl rfl rfl) rfl ?_; refine zd (qy rfl rfl rfl rfl (wrap_i64 (by omega) (by omega))) rfl ?_; refine zd (yb rfl rfl rfl rfl (decide_eq_false (by omega))) rfl ?_; refine zd (zf rfl rfl rfl) rfl ?_; refine zd (zz L (vs := [_, _, _, _]) (ql rfl) rfl rfl rfl rfl ⟨_, rfl⟩) rfl ?_; refine zd (q6 L rfl rfl (zm rfl) rfl rfl rfl (fun u H hH hle _ => slen_ret (n := 3) rfl hH (hT1.le hle))) rfl ?_; refine zd (yb rfl rfl rfl rfl (decide_eq_false (by omega))) rfl ?_; refine zd (zw rfl rfl rfl rfl) rfl ?_; refine zd (zf rfl rfl rfl) rfl ?_; refine zd (zz L (vs := [_, _, _, _]) (ql rfl) rfl rfl rfl rfl ⟨_, rfl⟩) rfl ?_; refine zd (ya (φ := US [d1, d0, d2] true) L rfl rfl (zm rfl) rfl rfl rfl SlV.mono (fun u H hH hle _ => slist_ret (by decide) hH (hT1.le hle))) rfl ?_; refine zd (q7 rfl rfl rfl) rfl ?_; refine zd (qo L 1 rfl rfl rfl rfl rfl rfl rfl (by first | omega | decide) (by assumption)) rfl ?_; refine zd (qt L (vs := [_, _, _, _, _, _]) rfl rfl rfl rfl rfl ⟨_, rfl⟩) rfl ?_; refine zd (q7 rfl rfl rfl) rfl ?_; refine zd (qo L 0 rfl rfl rfl rfl rfl rfl rfl (by first | omega | decide) (by assumption)) rfl ?_; refine zd (qt L (vs := [_, _, _, _, _, _]) rfl rfl rfl rfl rfl ⟨_, rfl⟩) rfl ?_; refine zd (q7 rfl rfl rfl) rfl ?_; refine zd (qo L 2 rfl rfl rfl rfl rfl rfl rfl (by first | omega | decide) (by assumption)) rfl ?_; refine zd (qt L (vs := [_, _, _, _, _, _]) rfl rfl rfl rfl rfl ⟨_, rfl⟩) rfl ?_; refine zd (qw L rfl rfl rfl rfl rfl rfl rfl rfl rfl) rfl ?_; refine zd (q6 L rfl rfl (zm rfl) rfl rfl rfl (fun u H hH _ _ v1 h1 v2 h2 => rtsame_ret (a := [d1, d0, d2]) (b := [d1, d0, d2]) (e := 1) (by decide) (by decide) (by decide +kernel) hH h1 (h2.toV rfl))) rfl ?_; refine zd (qp rfl rfl rfl rfl (decide_eq_false (by omega))) rfl ?_; refine zd (zw rfl rfl rfl rfl) rfl ?_; refine zd (zf rfl rfl rfl) rfl ?_; refine zd (zz L (vs := [_, _, _, _]) (ql rfl) rfl rfl rfl rfl ⟨_, rfl⟩) rfl ?_; refine zd (q7 rfl rfl rfl) rfl ?_; refine zd (qo L 0 rfl rfl rfl rfl rfl rfl rfl (by first | omega | decide) (by assumption)) rfl ?_; refine zd (ok_fieldAP L rfl rfl rfl rfl) rfl ?_; refine zd (qt L (vs := [_, _, _]) rfl rfl rfl rfl rfl ⟨_, rfl⟩) rfl ?_; refine zd (ya (φ := US [d1, d0] true) L rfl rfl (zm rfl) rfl rfl rfl SlV.mono (fun u H hH hle _ => sgoal_ret g1 (by decide) hH (hT1.le hle))) rfl ?_; refine zd (yc L rfl rfl rfl rfl) rfl ?_; refine zd (yb rfl rfl rfl rfl rfl) rfl ?_; refine zd (zw rfl rfl rfl rfl) rfl ?_; refine zd (zf rfl rfl rfl) rfl ?_; refine zd (zz L (vs := [_, _, _, _]) (ql rfl) rfl rfl rfl rfl ⟨_, rfl⟩) rfl ?_; refine zd (q7 rfl rfl rfl) rfl ?_; refine zd (qo L 0 rfl rfl rfl rfl rfl rfl rfl (by first | omega | decide) (by assumption)) rfl ?_; refine zd (ok_fieldAP L rfl rfl rfl rfl) rfl ?_; refine zd (qt L (vs := [_, _, _]) rfl rfl rfl rfl rfl ⟨_, rfl⟩) rfl ?_; refine zd (ya (φ := US [d0, d2] true) L rfl rfl (zm rfl) rfl rfl rfl SlV.mono (fun u H hH hle _ => ssub_ret s1 (by decide) hH (hT1.le hle))) rfl ?_; refine zd (yc L rfl rfl rfl rfl) rfl ?_; refine zd (yb rfl rfl rfl rfl rfl) rfl ?_; refine zd (zw rfl rfl rfl rfl) rfl ?_; refine zd (zf rfl rfl rfl) rfl ?_; refine zd (zz L (vs := [_, _, _, _]) (ql rfl) rfl rfl rfl rfl ⟨_, rfl⟩) rfl ?_; refine zd (zz L (vs := [_, _, _, _, _, _, _]) (ql rfl) rfl rfl rfl rfl ⟨_, rfl⟩) rfl ?_; refine zd (ya (φ := US [d1, d0, d2] true) L rfl rfl (zm rfl) rfl rfl rfl SlV.mono (fun u H hH hle _ => smatch_ret m1 (by decide) mx hH (hT1.le hle))) rfl ?_; refine zd (yc L rfl rfl rfl rfl) rfl ?_; refine zd (yb rfl rfl rfl rfl rfl) rfl ?_; refine zd (zw rfl rfl rfl rfl) rfl ?_; refine qq ?_; refine zj ?_; refine q8 rfl ?_; refine q9 ?_; refine zj ?_; refine zg ?_; refine z8 (id := 9) ?_; refine z7 (zz L (vs := [_, _, _, _]) (ql rfl) rfl rfl rfl rfl ⟨_, rfl⟩) rfl ?_; refine z7 (ya (φ := G3S [d0.1] true) L rfl rfl (zm rfl) rfl rfl rfl SlV.mono (fun u H hH hle _ => sgoals_ret gs (by decide) hH (hT2.le hle))) rfl ?_; refine z7 (qz rfl rfl rfl) rfl ?_; refine zh ?_; refine zj ?_; refine zg ?_; refine qj (id := 10) [] mixed (by kernel_rfl) ?_; refine zd (zz L (vs := [_, _, _, _]) (ql rfl) rfl rfl rfl rfl ⟨_, rfl⟩) rfl ?_; refine zd (q6 L rfl rfl (zm rfl) rfl rfl rfl (fun u H hH hle _ => slen_ret (n := 2) rfl hH (hT2.le hle))) rfl ?_; refine zd (qp rfl rfl rfl rfl (decide_eq_true (by omega))) rfl ?_; refine zd (zf rfl rfl rfl) rfl ?_; refine zd (q7 rfl rfl rfl) rfl ?_; refine zd (yc L rfl rfl rfl rfl) rfl ?_; refine zd (qp rfl rfl rfl rfl rfl) rfl ?_; refine zd (zw rfl rfl rfl rfl) rfl ?_; refine zd (zf rfl rfl rfl) rfl ?_; refine zd (q7 rfl rfl rfl) rfl ?_; refine zd (qo L _ rfl rfl rfl rfl rfl rfl rfl (by first | omega | decide) (by assumption)) rfl ?_; refine zd (qt L (vs := [_, _, _]) rfl rfl rfl rfl rfl ⟨_, rfl⟩) rfl ?_; refine zd (q7 rfl rfl rfl) rfl ?_; refine zd (qo L 0 rfl rfl rfl rfl rfl rfl rfl (by first | omega | decide) (by assumption)) rfl ?_; refine zd (ok_fieldAP L rfl rfl rfl rfl) rfl ?_; refine zd (qt L (vs := [_, _, _]) rfl rfl rfl rfl rfl ⟨_, rfl⟩) rfl ?_; refine zd (ok_aeql rfl rfl rfl rfl eq47 (by assumption) rfl) rfl ?_; refine zd (zw rfl rfl rfl rfl) rfl ?_; refine zd (zf rfl rfl rfl) rfl ?_; refine zd (zf rfl rfl rfl) rfl ?_; refine zd (qp rfl rfl rfl rfl (decide_eq_true (by omega))) rfl ?_; refine zd (zw rfl rfl rfl rfl) rfl ?_; refine zd (zf rfl rfl rfl) rfl ?_; refine zd (zz L (vs := [_, _, _, _]) (ql rfl) rfl rfl rfl rfl ⟨_, rfl⟩) rfl ?_; refine zd (q6 L rfl rfl (zm rfl) rfl rfl rfl (fun u H hH hle _ => slen_ret (n := 0) rfl hH (hT4.le hle))) rfl ?_; refine zd (qp rfl rfl rfl rfl (decide_eq_true (by omega))) rfl ?_; refine zd (zw rfl rfl rfl rfl) rfl ?_; refine zd (zi rfl rfl rfl) rfl ?_; refine qq ?_; refine zj ?_
  refine qi L (rs := [.tmp 0]) rfl (fun _ _ h => h) (hs1.trans (hs2.trans (hs3.trans hs4))) fun u H hH hle => ?_
  rfl
end Go.V.L6
namespace Go.V.L6
open Go.Proofs Go.RowKit Go.V Go.V.L2 Go.V.L3
abbrev ty3 : TypeId := 80
abbrev C3 := Nat × Nat × Nat
def qcs (p : C3) : List Value := [.int .u8 p.1, .int .u8 p.2.1, .int .u8 p.2.2]
theorem qcs_len (p : C3) : (qcs p).length = 3 := rfl
abbrev PS3 (cs : List C3) (fu : Bool) : Value → Heap → Prop := SlV ty3 3 (cs.flatMap qcs) cs.length fu
theorem ps3_at {cs : List C3} {j : Nat} {a b c : Nat} (h : cs[j]? = some (a, b, c)) : ((cs.flatMap qcs).drop (j * 3)).take 3 = [.int .u8 a, .int .u8 b, .int .u8 c] := flatMap_at qcs_len cs j _ h
def drB (c : Nat) : Bool := decide (c % 2 = 1)
def stepS (l : List U) (c : C3) : List U := (withU l (oneT c.1 c.2.1) (drB c.2.2)).1
def sOf (ps : List (Nat × Nat)) (cs : List C3) : List U := (cs.take 30).foldl stepS (sortT (tl ps))
structure SOK (l : List U) : Prop where
  sst : Sst cmpT l
  tz : ∀ t ∈ l, TZ t
  ok : ∀ t ∈ l, tE t = 0
theorem withU_ok {l : List U} (h : SOK l) {x : U} (hz : TZ x) (hx : tE x = 0) (d : Bool) (hl : l.length < 4096) : SOK (withU l x d).1 ∧ (withU l x d).2 = 0 ∧ (withU l x d).1.length ≤ l.length + 1 := by
  refine ⟨⟨withU_sst h.sst x d, fun t ht => ?_, fun t ht => ?_⟩, ?_⟩
  · rcases withU_mem ht with ht | rfl
    · exact h.tz t ht
    · exact hz
  · rcases withU_mem ht with ht | rfl
    · exact h.ok t ht
    · exact hx
  · unfold withU
    rw [if_pos hx]
    split
    · exact ⟨rfl, Nat.le_succ_of_le (List.length_filter_le _ _)⟩
    · split
      · exact ⟨rfl, Nat.le_succ _⟩
      · rw [if_neg (by omega), insS_length]; exact ⟨rfl, Nat.le_refl _⟩
theorem stepS_ok {l : List U} (h : SOK l) (c : C3) (hl : l.length < 4096) : SOK (stepS l c) ∧ (withU l (oneT c.1 c.2.1) (drB c.2.2)).2 = 0 ∧ (stepS l c).length ≤ l.length + 1 := withU_ok h (oneT_size _ _) (oneT_ok _ _) _ hl
theorem sortT_ok (ps : List (Nat × Nat)) : SOK (sortT (tl ps)) ∧ (sortT (tl ps)).length ≤ 20 := by
  have hm : ∀ t ∈ sortT (tl ps), TZ t ∧ tE t = 0 := fun t ht => tl_mem (by unfold sortT at ht; simpa using mem_sortS.1 ht)
  refine ⟨⟨sst_sortS cmpT_ord Sst.nil, fun t ht => (hm t ht).1, fun t ht => (hm t ht).2⟩, ?_⟩
  have h1 := sortT_length (tl ps)
  have h2 := tl_length ps
  omega
theorem fold_ok : ∀ (cs : List C3) {l : List U}, SOK l → l.length + cs.length < 4096 → SOK (cs.foldl stepS l) ∧ (cs.foldl stepS l).length ≤ l.length + cs.length
  | [], l, h, _ => ⟨h, Nat.le_refl _⟩
  | c :: cs, l, h, hl => by
    simp only [List.length_cons] at hl
    obtain ⟨h1, _, h3⟩ := stepS_ok h c (by omega)
    obtain ⟨g1, g2⟩ := fold_ok cs h1 (by omega)
    exact ⟨g1, by simp only [List.foldl_cons, List.length_cons]; omega⟩
theorem sOf_ok (ps : List (Nat × Nat)) (cs : List C3) : SOK (sOf ps cs) ∧ (sOf ps cs).length ≤ 50 := by
  obtain ⟨h1, h2⟩ := sortT_ok ps
  have h3 : (cs.take 30).length ≤ 30 := by rw [List.length_take]; omega
  obtain ⟨g1, g2⟩ := fold_ok (cs.take 30) h1 (by omega)
  exact ⟨g1, by unfold sOf; omega⟩
theorem fold_take {cs : List C3} {i : Nat} {c : C3} (h : cs[i]? = some c) (l : List U) : (cs.take (i + 1)).foldl stepS l = stepS ((cs.take i).foldl stepS l) c := by
  rw [List.take_add_one, h]
  simp
attribute [local irreducible] V N X VO Par StepOK Has Ret RetL RetO RetT Src
theorem rem_u8 (c : Nat) : Int.tmod (c : Int) 2 = ((c % 2 : Nat) : Int) := rfl
theorem change_r {a b c : Nat} {x : U} {d : Bool} (hx : oneT a b = x) (hd : drB c = d) (ha : a ≤ 255) (hb : b ≤ 255) (hc : c ≤ 255) {w : World} {B : Heap} (hB : B.Le (hp w)) : Ret Tryz.prog 29 [.agg #[.int .u8 a, .int .u8 b, .int .u8 c]] w B (fun v _ => v = chv x d) := by
  subst hx hd
  have hr := rem_u8 c
  refine qx Tryz.func29 rfl Tryz.ntmps29 (Nat.le_of_ble_eq_true rfl) hB ?_
  by_cases h1 : c % 2 = 1
  · have e1 : drB c = true := decide_eq_true h1
    rw [e1]
    refine zg ?_; refine z8 (id := 0) ?_; refine z7 (qf rfl rfl rfl rfl) rfl ?_; refine z7 (qm L rfl rfl rfl rfl) rfl ?_; refine zh ?_; refine zj ?_; refine zg ?_; refine qj (id := 1) [] mixed (by kernel_rfl) ?_; refine zd (ok_indexArS L _ rfl rfl rfl rfl ar80 rfl rfl (by first | omega | decide)) rfl ?_; refine zd (zo L (zq rfl) rfl rfl rfl rfl) rfl ?_; refine zd (ok_indexArS L _ rfl rfl rfl rfl ar80 rfl rfl (by first | omega | decide)) rfl ?_; refine zd (zo L (zq rfl) rfl rfl rfl rfl) rfl ?_; refine zd (qv (cs := [_, _]) rfl rfl pl28 rfl rfl) rfl ?_; refine zd (q6 L rfl rfl (zm rfl) rfl rfl rfl (fun u H hH _ _ => one02_ret a b ha hb hH)) rfl ?_; refine zd (ok_indexArS L _ rfl rfl rfl rfl ar80 rfl rfl (by first | omega | decide)) rfl ?_; refine zd (zo L (zq rfl) rfl rfl rfl rfl) rfl ?_; refine zd (ok_rem rfl rfl rfl rfl (by omega) (by assumption)) rfl ?_; refine zd (qp rfl rfl rfl rfl (decide_eq_true (by omega))) rfl ?_; refine zd (qv (cs := [_, _, _, _, _, _, _]) rfl rfl pl71 rfl rfl) rfl ?_; refine zd (qg L rfl rfl rfl rfl rfl rfl rfl rfl) rfl ?_; refine qq ?_; refine zj ?_
    refine qi L (rs := [.cell 2 71]) rfl (fun _ _ h => h) Since.refl fun u H hH hle => ?_
    refine resK_cellA (ql rfl) rfl rfl ?_
    rfl
  · have e1 : drB c = false := decide_eq_false h1
    rw [e1]
    refine zg ?_; refine z8 (id := 0) ?_; refine z7 (qf rfl rfl rfl rfl) rfl ?_; refine z7 (qm L rfl rfl rfl rfl) rfl ?_; refine zh ?_; refine zj ?_; refine zg ?_; refine qj (id := 1) [] mixed (by kernel_rfl) ?_; refine zd (ok_indexArS L _ rfl rfl rfl rfl ar80 rfl rfl (by first | omega | decide)) rfl ?_; refine zd (zo L (zq rfl) rfl rfl rfl rfl) rfl ?_; refine zd (ok_indexArS L _ rfl rfl rfl rfl ar80 rfl rfl (by first | omega | decide)) rfl ?_; refine zd (zo L (zq rfl) rfl rfl rfl rfl) rfl ?_; refine zd (qv (cs := [_, _]) rfl rfl pl28 rfl rfl) rfl ?_; refine zd (q6 L rfl rfl (zm rfl) rfl rfl rfl (fun u H hH _ _ => one02_ret a b ha hb hH)) rfl ?_; refine zd (ok_indexArS L _ rfl rfl rfl rfl ar80 rfl rfl (by first | omega | decide)) rfl ?_; refine zd (zo L (zq rfl) rfl rfl rfl rfl) rfl ?_; refine zd (ok_rem rfl rfl rfl rfl (by omega) (by assumption)) rfl ?_; refine zd (qp rfl rfl rfl rfl (decide_eq_false (by omega))) rfl ?_; refine zd (qv (cs := [_, _, _, _, _, _, _]) rfl rfl pl71 rfl rfl) rfl ?_; refine zd (qg L rfl rfl rfl rfl rfl rfl rfl rfl) rfl ?_; refine qq ?_; refine zj ?_
    refine qi L (rs := [.cell 2 71]) rfl (fun _ _ h => h) Since.refl fun u H hH hle => ?_
    refine resK_cellA (ql rfl) rfl rfl ?_
    rfl
set_option maxHeartbeats 1000000 in
theorem sof6_ret {ps : List (Nat × Nat)} {cs : List C3} {fx fc : Bool} {M : List U} (hM : sOf ps cs = M) (hps : ∀ p ∈ ps, p.1 ≤ 255 ∧ p.2 ≤ 255) (lps : ps.length ≤ 9223372036854775807) (hcs : ∀ c ∈ cs, c.1 ≤ 255 ∧ c.2.1 ≤ 255 ∧ c.2.2 ≤ 255) (lcs : cs.length ≤ 9223372036854775807)
    {sx cx : Value} {w : World} {B : Heap} (hB : B.Le (hp w)) (hx : PS2 ps fx sx B) (hc : PS3 cs fc cx B) : Ret Tryz.prog 7 [.agg #[sx, cx]] w B (US M false) := by
  have ofx : ∀ (w : World) (B : Heap), B.Le (hp w) → PS2 ps fx sx B → Ret Tryz.prog 27 [.agg #[sx]] w B (US (tl ps) false) := fun w B hB hv => tof_ret hps lps hB hv
  obtain ⟨ok0, l0⟩ := sortT_ok ps
  have zp : ∀ t ∈ tl ps, TZ t := fun t ht => (tl_mem ht).1
  have lp := tl_length ps
  unfold sOf at hM
  have rsx := fun (v : Value) (w : World) (B : Heap) (hB : B.Le (hp w)) (hv : US (tl ps) false v B) => rsorted_ret (l := tl ps) (by omega) zp hB hv
  have hrs : sortS cmpT [] (tl ps) = sortT (tl ps) := rfl
  generalize sortT (tl ps) = l1 at *
  generalize tl ps = p at *
  refine qx Tryz.func7 rfl Tryz.ntmps7 (Nat.le_of_ble_eq_true rfl) hB ?_
  refine zg ?_; refine z8 (id := 0) ?_; refine z7 (qf rfl rfl rfl rfl) rfl ?_; refine z7 (zi rfl rfl rfl) rfl ?_; refine zh ?_; refine zj ?_; refine zg ?_; refine z8 (id := 1) ?_; refine z7 (zk L rfl rfl rfl rfl) rfl ?_; refine z7 (zz L (vs := [_]) (zq rfl) rfl rfl rfl rfl ⟨_, rfl⟩) rfl ?_; refine z7 (ya (φ := US p false) L rfl rfl (zm rfl) rfl rfl rfl SlV.mono (fun u H hH hle _ => ofx _ _ hH (hx.le hle))) rfl ?_; refine z7 (ya (φ := US l1 false) L rfl rfl (zm rfl) rfl rfl rfl SlV.mono (fun u H hH _ _ v1 h1 => rsx _ _ _ hH h1)) rfl ?_; refine z7 (qz rfl rfl rfl) rfl ?_; refine zh ?_; refine zj ?_; refine zg ?_; refine zg ?_; refine z8 (id := 2) ?_; refine z7 (zi rfl rfl rfl) rfl ?_; refine zh ?_; refine zj ?_; refine qd ?_
  refine V_loop (fun i : Nat => [(1, .sat (At [sx, cx] 27 0)), (3, .sat (US ((cs.take i).foldl stepS l1) false)), (4, .is (.int .i64 i))])
    (fun i => i ≤ (cs.take 30).length) (fun i => (cs.take 30).length - i) 0 (Nat.zero_le _) ⟨rfl, rfl, rfl, trivial⟩ ?_
  rintro i hi
  have h30 : (cs.take 30).length = min 30 cs.length := List.length_take
  have hfin : i = (cs.take 30).length → (cs.take i).foldl stepS l1 = M := fun e => by
    rw [← hM, e, h30]
    congr 1
    exact (List.take_eq_take_min (l := cs) (i := 30)).symm
  by_cases h1 : i < cs.length
  · by_cases h2 : i < 30
    · obtain ⟨⟨a, b, c⟩, hn⟩ := get_some h1
      have hcc := ps3_at hn
      obtain ⟨ka, kb, kc⟩ := hcs _ (List.mem_of_getElem? hn)
      dsimp only at ka kb kc
      have hst := fold_take hn l1
      obtain ⟨okl, ll⟩ := fold_ok (cs.take i) ok0 (by rw [List.length_take]; omega)
      rw [List.length_take] at ll
      obtain ⟨_, he, _⟩ := stepS_ok okl (a, b, c) (by omega)
      have hw : withU ((cs.take i).foldl stepS l1) (oneT a b) (drB c) = (stepS ((cs.take i).foldl stepS l1) (a, b, c), 0) := Prod.ext rfl he
      rw [← hst] at hw
      have hmono : Kn.mono (.sat (US ((cs.take (i + 1)).foldl stepS l1) false)) := SlV.mono
      have hz1 := oneT_size a b
      generalize hxx : oneT a b = x at hw hz1
      generalize hdd : drB c = d at hw
      refine zg ?_; refine zg ?_; refine z8 (id := 3) ?_; refine z7 (zf rfl rfl rfl) rfl ?_; refine z7 (zk L rfl rfl rfl rfl) rfl ?_; refine z7 (zo L (zq rfl) rfl rfl rfl rfl) rfl ?_; refine vo_seen 11 (PS3 cs fc) rfl SlV.mono hc ?_; refine z7 (yc L rfl rfl rfl rfl) rfl ?_; refine z7 (qe rfl rfl rfl rfl (decide_eq_true (by omega))) rfl ?_; refine z7 (zf rfl rfl rfl) rfl ?_; refine z7 (zf rfl rfl rfl) rfl ?_; refine z7 (qe rfl rfl rfl rfl (decide_eq_true (by omega))) rfl ?_; refine z7 (zw rfl rfl rfl rfl) rfl ?_; refine zh ?_; refine zj ?_; refine qa rfl ?_; refine q9 ?_; refine zj ?_; refine zg ?_; refine qd ?_; refine z8 (id := 5) ?_; refine z7 (q7 rfl rfl rfl) rfl ?_; refine z7 (zk L rfl rfl rfl rfl) rfl ?_; refine z7 (zo L (zq rfl) rfl rfl rfl rfl) rfl ?_; refine vo_seen 23 (PS3 cs fc) rfl SlV.mono hc ?_; refine z7 (zf rfl rfl rfl) rfl ?_; refine z7 (qo L _ rfl rfl rfl rfl rfl rfl rfl (by first | omega | decide) (by assumption)) rfl ?_; refine z7 (qt L (vs := [_, _, _]) rfl rfl rfl rfl rfl ⟨_, rfl⟩) rfl ?_; refine z7 (q6 L rfl rfl (zm rfl) rfl rfl rfl (fun u H hH _ _ => change_r hxx hdd ka kb kc hH)) rfl ?_; refine z7 (ya (φ := R6 ((cs.take (i + 1)).foldl stepS l1) 0) L rfl rfl (zm rfl) rfl rfl rfl R6.mono (fun u H hH _ _ v1 h1 => rwith_ret hw okl.sst (by omega) hz1 okl.tz hH h1)) rfl ?_; refine z7 (q7 rfl rfl rfl) rfl ?_; refine z7 (ok_extracts rfl rfl rfl rfl (by assumption)) rfl ?_; refine z7 (ok_extractx rfl rfl rfl rfl) rfl ?_; refine z7 (qz rfl rfl rfl) rfl ?_; refine zh ?_; refine qr ?_; refine zj ?_; refine z8 (id := 4) ?_; refine z7 (zf rfl rfl rfl) rfl ?_; refine z7 (qy rfl rfl rfl rfl (wrap_i64 (by omega) (by omega))) rfl ?_; refine z7 (zi rfl rfl rfl) rfl ?_; refine zh ?_
      exact y7 (x := i) (i + 1) (by omega) (by omega) ⟨rfl, rfl, rfl, trivial⟩
    · obtain he := hfin (by omega)
      rw [he]
      refine zg ?_; refine zg ?_; refine z8 (id := 3) ?_; refine z7 (zf rfl rfl rfl) rfl ?_; refine z7 (zk L rfl rfl rfl rfl) rfl ?_; refine z7 (zo L (zq rfl) rfl rfl rfl rfl) rfl ?_; refine vo_seen 11 (PS3 cs fc) rfl SlV.mono hc ?_; refine z7 (yc L rfl rfl rfl rfl) rfl ?_; refine z7 (qe rfl rfl rfl rfl (decide_eq_true (by omega))) rfl ?_; refine z7 (zf rfl rfl rfl) rfl ?_; refine z7 (zf rfl rfl rfl) rfl ?_; refine z7 (qe rfl rfl rfl rfl (decide_eq_false (by omega))) rfl ?_; refine z7 (zw rfl rfl rfl rfl) rfl ?_; refine zh ?_; refine zj ?_; refine q8 rfl ?_; refine yi ?_; refine qu ?_; refine qu ?_; refine yh ?_; refine zj ?_; refine zg ?_; refine z8 (id := 6) ?_; refine z7 (q7 rfl rfl rfl) rfl ?_; refine z7 (qz rfl rfl rfl) rfl ?_; refine zh ?_; refine zj ?_
      refine qi L (rs := [.tmp 2]) rfl (fun _ _ h => h) Since.refl fun u H hH hle => ?_
      exact fun v hv => hv
  · obtain he := hfin (by omega)
    rw [he]
    refine zg ?_; refine zg ?_; refine z8 (id := 3) ?_; refine z7 (zf rfl rfl rfl) rfl ?_; refine z7 (zk L rfl rfl rfl rfl) rfl ?_; refine z7 (zo L (zq rfl) rfl rfl rfl rfl) rfl ?_; refine vo_seen 11 (PS3 cs fc) rfl SlV.mono hc ?_; refine z7 (yc L rfl rfl rfl rfl) rfl ?_; refine z7 (qe rfl rfl rfl rfl (decide_eq_false (by omega))) rfl ?_; refine z7 (zf rfl rfl rfl) rfl ?_; refine z7 (zn rfl (zm rfl) rfl) rfl ?_; refine z7 (zn rfl (zm rfl) rfl) rfl ?_; refine z7 (zw rfl rfl rfl rfl) rfl ?_; refine zh ?_; refine zj ?_; refine q8 rfl ?_; refine yi ?_; refine qu ?_; refine qu ?_; refine yh ?_; refine zj ?_; refine zg ?_; refine z8 (id := 6) ?_; refine z7 (q7 rfl rfl rfl) rfl ?_; refine z7 (qz rfl rfl rfl) rfl ?_; refine zh ?_; refine zj ?_
    refine qi L (rs := [.tmp 2]) rfl (fun _ _ h => h) Since.refl fun u H hH hle => ?_
    exact fun v hv => hv
end Go.V.L6
namespace Go.V.L6
open Go.Proofs Go.RowKit Go.V Go.V.L2 Go.V.L3
theorem ofU_sort : ∀ (r : List U) {out : List U}, (∀ t ∈ r, tE t = 0) → out.length + r.length ≤ 4096 → ofU out r = (sortS cmpT out r, 0)
  | [], _, _, _ => rfl
  | t :: r, out, hr, hl => by
    simp only [List.length_cons] at hl
    have h1 : withU out t false = (if t ∈ out then out else insS cmpT t out, 0) := by
      unfold withU
      rw [if_pos (hr t (List.mem_cons_self ..)), if_neg (by decide)]
      split
      · rfl
      · rw [if_neg (by omega)]
    rw [ofU, h1, if_pos rfl, sortS_cons]
    refine ofU_sort r (out := if t ∈ out then out else insS cmpT t out) (fun z hz => hr z (List.mem_cons_of_mem _ hz)) ?_
    split
    · omega
    · rw [insS_length]; omega
theorem ofU_self {l : List U} (h : SOK l) (hl : l.length ≤ 4096) : ofU [] l = (l, 0) := by
  rw [ofU_sort l h.ok (by simpa using hl), sortS_self cmpT_ord h.sst]
theorem fz_m6 {f : FT} (h : FZ f) : FM f := by unfold FM; unfold FZ at h; omega
theorem nil_size {s : ByteArray} (h : chk s = 0) : ¬ s = ⟨#[]⟩ := fun e => by subst e; rw [chk_nil] at h; cases h
theorem match_sub {l : List U} {t : U} (ht : tE t = 0) : matE l (n3, t.2, true) = subL l t.2 := by
  have h := (tE_parts ht).2
  unfold matE
  rw [if_pos (by unfold fE badF; simpa using h)]
  refine List.filter_congr fun z _ => ?_
  unfold takesB tkF
  simp only [decide_true, Bool.true_or, Bool.true_and, Bool.not_true, Bool.false_or]
  exact decide_eq_decide.2 ⟨fun e => e.symm, fun e => e.symm⟩
theorem match_goal {l : List U} {t : U} (ht : tE t = 0) : matE l (t.1, n3, false) = goalL l t.1 := by
  obtain ⟨⟨h1, h2, h3⟩, _⟩ := tE_parts ht
  unfold matE
  rw [if_pos (by unfold fE badF; simp [h1, h2, h3])]
  refine List.filter_congr fun z _ => ?_
  have g1 := nil_size h1
  have g2 := nil_size h2
  have g3 := nil_size h3
  unfold takesB tkF
  simp only [g1, g2, g3, decide_false, Bool.false_or, Bool.not_false, Bool.true_or, Bool.and_true]
  rw [Bool.eq_iff_iff]
  simp only [Bool.and_eq_true, decide_eq_true_eq]
  constructor
  · rintro ⟨⟨a, b⟩, c⟩; exact (Prod.ext (Prod.ext a b) c).symm
  · rintro e; rw [e]; exact ⟨⟨rfl, rfl⟩, rfl⟩
end Go.V.L6
namespace Go.V.L6
open Go.Proofs Go.RowKit Go.V Go.V.L2 Go.V.L3
attribute [local irreducible] V N X VO Par StepOK Has Ret RetL RetO RetT Src
end Go.V.L6
namespace Go.V.L6
open Go.Proofs Go.RowKit Go.V Go.V.L2 Go.V.L3
attribute [local irreducible] V N X VO Par StepOK Has Ret RetL RetO RetT Src
set_option maxHeartbeats 16000000 in
set_option maxRecDepth 20000 in
theorem setsViews_law {ps : List (Nat × Nat)} {cs : List C3} {fx fc : Bool} (hps : ∀ p ∈ ps, p.1 ≤ 255 ∧ p.2 ≤ 255) (lps : ps.length ≤ 9223372036854775807) (hcs : ∀ c ∈ cs, c.1 ≤ 255 ∧ c.2.1 ≤ 255 ∧ c.2.2 ≤ 255) (lcs : cs.length ≤ 9223372036854775807)
    {y0 y1 y2 : Nat} (hy0 : y0 ≤ 255) (hy1 : y1 ≤ 255) (hy2 : y2 ≤ 255) {n0 n1 : Nat} (hn0 : n0 ≤ 255) (hn1 : n1 ≤ 255)
    {sx cx : Value} {w : World} {B : Heap} (hB : B.Le (hp w)) (hM : GlobM B) (hx : PS2 ps fx sx B) (hc : PS3 cs fc cx B) : Ret Tryz.prog 3 [.agg #[sx, cx], .agg #[.int .u8 y0, .int .u8 y1, .int .u8 y2], .agg #[.int .u8 n0, .int .u8 n1]] w B (fun v _ => v = .bool true) := by
  obtain ⟨okl, ll⟩ := sOf_ok ps cs
  have hsx := fun (w : World) (B : Heap) (hB : B.Le (hp w)) (h1 : PS2 ps fx sx B) (h2 : PS3 cs fc cx B) => sof6_ret rfl hps lps hcs lcs hB h1 h2
  generalize sOf ps cs = l at *
  have hof := ofU_self okl (by omega)
  have ht1 := oneT_ok n0 n1
  obtain ⟨t, ht⟩ : ∃ t, oneT n0 n1 = t := ⟨_, rfl⟩
  rw [ht] at ht1
  have mf := fz_m6 (fofT_Z y0 y1 y2)
  obtain ⟨f, hf⟩ : ∃ f, fofT y0 y1 y2 = f := ⟨_, rfl⟩
  rw [hf] at mf
  have hu := match_sub (l := l) ht1
  have hv := match_goal (l := l) ht1
  have zt := tz_of ht1
  have mu : FM (n3, t.2, true) := by obtain ⟨_, h4, h5, h6⟩ := zt; exact ⟨⟨Nat.zero_le _, Nat.zero_le _, Nat.zero_le _⟩, (by show t.2.1.1.size ≤ _; omega), (by show t.2.1.2.size ≤ _; omega), (by show t.2.2.size ≤ _; omega)⟩
  have mv : FM (t.1, n3, false) := by obtain ⟨⟨h1, h2, h3⟩, _⟩ := zt; exact ⟨⟨(by show t.1.1.1.size ≤ _; omega), (by show t.1.1.2.size ≤ _; omega), (by show t.1.2.size ≤ _; omega)⟩, Nat.zero_le _, Nat.zero_le _, Nat.zero_le _⟩
  obtain ⟨a, ha⟩ : ∃ a, goalL l t.1 = a := ⟨_, rfl⟩
  obtain ⟨b, hb⟩ : ∃ b, subL l t.2 = b := ⟨_, rfl⟩
  obtain ⟨c, hcc⟩ : ∃ c, matE l f = c := ⟨_, rfl⟩
  obtain ⟨d, hd⟩ : ∃ d, goalsL l = d := ⟨_, rfl⟩
  rw [hb] at hu
  rw [ha] at hv
  have la : a.length ≤ l.length := by rw [← ha]; exact List.length_filter_le _ _
  have lb : b.length ≤ l.length := by rw [← hb]; exact List.length_filter_le _ _
  have lc : c.length ≤ l.length := by rw [← hcc]; unfold matE; split; exact List.length_filter_le _ _; exact Nat.zero_le _
  have ld : d.length ≤ l.length := by rw [← hd]; exact Nat.le_trans (dd_length _) (by rw [List.length_map]; exact Nat.le_refl _)
  refine qx Tryz.func3 rfl Tryz.ntmps3 (Nat.le_of_ble_eq_true rfl) hB ?_
  refine zg ?_; refine z8 (id := 0) ?_; refine z7 (qf rfl rfl rfl rfl) rfl ?_; refine z7 (qf rfl rfl rfl rfl) rfl ?_; refine z7 (qf rfl rfl rfl rfl) rfl ?_; refine z7 (zi rfl rfl rfl) rfl ?_; refine zh ?_; refine zj ?_; refine zg ?_; refine z8 (id := 1) ?_; refine z7 (zz L (vs := [_, _]) (zq rfl) rfl rfl rfl rfl ⟨_, rfl⟩) rfl ?_; refine z7 (ya (φ := US l false) L rfl rfl (zm rfl) rfl rfl rfl SlV.mono (fun u H hH hle _ => hsx u H hH (hx.le hle) (hc.le hle))) rfl ?_; refine z7 (qz rfl rfl rfl) rfl ?_; refine zh ?_; refine zj ?_; refine zg ?_; refine z8 (id := 2) ?_; refine z7 (q7 rfl rfl rfl) rfl ?_; refine z7 (ya (φ := WithP l 0) L rfl rfl (zm rfl) rfl rfl rfl WithP.mono (fun u H hH _ _ v1 h1 => sof_ret hof (by omega) okl.tz hH h1)) rfl ?_; refine vo_opn 24 rfl ?_; rintro _ H1 hs1 ⟨tv, rfl, hT1⟩; obtain ⟨f1, p1, k1, q1, rfl, hp1⟩ := hT1.shape; refine z7 (zf rfl rfl rfl) rfl ?_; refine z7 (qb rfl rfl rfl rfl) rfl ?_; refine z7 (qb rfl rfl rfl rfl) rfl ?_; refine z7 (qm L rfl rfl rfl rfl) rfl ?_; refine z7 (qg L rfl rfl rfl rfl rfl rfl (by assumption) rfl) rfl ?_; refine z7 (zi rfl rfl rfl) rfl ?_; refine zh ?_; refine zj ?_; refine zg ?_; refine zg ?_; refine z8 (id := 3) ?_; refine z7 (zf rfl rfl rfl) rfl ?_; refine z7 (yb rfl rfl rfl rfl (decide_eq_false (by omega))) rfl ?_; refine zh ?_; refine zj ?_; refine q8 rfl ?_; refine q9 ?_; refine zj ?_; refine zg ?_; refine qj (id := 5) [] mixed (by kernel_rfl) ?_; refine zd (zz L (vs := [_, _]) (zq rfl) rfl rfl rfl rfl ⟨_, rfl⟩) rfl ?_; refine zd (q6 L rfl rfl (zm rfl) rfl rfl rfl (fun u H hH _ _ => ht ▸ one02_ret n0 n1 hn0 hn1 hH)) rfl ?_; refine zd (zz L (vs := [_, _, _]) (zq rfl) rfl rfl rfl rfl ⟨_, rfl⟩) rfl ?_; refine zd (q6 L rfl rfl (zm rfl) rfl rfl rfl (fun u H hH _ _ => fof_ret hf hy0 hy1 hy2 hH)) rfl ?_; refine zd (qm L rfl rfl rfl rfl) rfl ?_; refine zd (qm L rfl rfl rfl rfl) rfl ?_; refine zd (qg L rfl rfl rfl rfl rfl rfl rfl rfl) rfl ?_; refine zd (qg L rfl rfl rfl rfl rfl rfl rfl rfl) rfl ?_; refine qq ?_; refine zj ?_; refine zg ?_
  refine V_pub 10 rfl ?_
  refine V_pub 11 rfl ?_
  refine qj (id := 6) [] mixed (by kernel_rfl) ?_; refine zd (zz L (vs := [_, _, _, _]) (ql rfl) rfl rfl rfl rfl ⟨_, rfl⟩) rfl ?_; refine zd (zk L rfl rfl rfl rfl) rfl ?_; refine zd (zz L (vs := [_, _, _]) (zq rfl) rfl rfl rfl rfl ⟨_, rfl⟩) rfl ?_; refine zd (ya (φ := US a true) L rfl rfl (zm rfl) rfl rfl rfl SlV.mono (fun u H hH hle _ => sgoal_ret ha (by omega) hH (hT1.le hle))) rfl ?_; refine zd (zz L (vs := [_, _, _, _]) (ql rfl) rfl rfl rfl rfl ⟨_, rfl⟩) rfl ?_; refine zd (zk L rfl rfl rfl rfl) rfl ?_; refine zd (zz L (vs := [_, _, _]) (zq rfl) rfl rfl rfl rfl ⟨_, rfl⟩) rfl ?_; refine zd (ya (φ := US b true) L rfl rfl (zm rfl) rfl rfl rfl SlV.mono (fun u H hH hle _ => ssub_ret hb (by omega) hH (hT1.le hle))) rfl ?_; refine zd (zz L (vs := [_, _, _, _]) (ql rfl) rfl rfl rfl rfl ⟨_, rfl⟩) rfl ?_; refine zd (zz L (vs := [_, _, _, _, _, _, _]) (zq rfl) rfl rfl rfl rfl ⟨_, rfl⟩) rfl ?_; refine zd (ya (φ := US c true) L rfl rfl (zm rfl) rfl rfl rfl SlV.mono (fun u H hH hle _ => smatch_ret hcc (by omega) mf hH (hT1.le hle))) rfl ?_; refine zd (zz L (vs := [_, _, _, _]) (ql rfl) rfl rfl rfl rfl ⟨_, rfl⟩) rfl ?_; refine zd (ya (φ := G3S d true) L rfl rfl (zm rfl) rfl rfl rfl SlV.mono (fun u H hH hle _ => sgoals_ret hd (by omega) hH (hT1.le hle))) rfl ?_; refine zd (qz rfl rfl rfl) rfl ?_; refine zd (qz rfl rfl rfl) rfl ?_; refine zd (qz rfl rfl rfl) rfl ?_; refine zd (qz rfl rfl rfl) rfl ?_; refine qq ?_; refine zj ?_; refine zg ?_; refine z8 (id := 7) ?_; refine z7 (q7 rfl rfl rfl) rfl ?_; refine z7 (ya (φ := G3S d false) L rfl rfl (zm rfl) rfl rfl rfl SlV.mono (fun u H hH _ _ v1 h1 => rgoals6_ret hd (by omega) hH h1)) rfl ?_; refine z7 (qz rfl rfl rfl) rfl ?_; refine zh ?_; refine zj ?_; refine zg ?_; refine zg ?_; refine z8 (id := 8) ?_; refine z7 (q7 rfl rfl rfl) rfl ?_; refine z7 (q7 rfl rfl rfl) rfl ?_; refine z7 (zk L rfl rfl rfl rfl) rfl ?_; refine z7 (zz L (vs := [_, _, _]) (zq rfl) rfl rfl rfl rfl ⟨_, rfl⟩) rfl ?_; refine z7 (ya (φ := US a false) L rfl rfl (zm rfl) rfl rfl rfl SlV.mono (fun u H hH _ _ v1 h1 => rgoal6_ret ha (by omega) hH h1)) rfl ?_; refine z7 (q6 L rfl rfl (zm rfl) rfl rfl rfl (fun u H hH _ _ v1 h1 v2 h2 => rtsame_ret (e := 1) (by omega) (by omega) (if_pos rfl) hH h1 h2)) rfl ?_; refine z7 (qp rfl rfl rfl rfl (decide_eq_false (by omega))) rfl ?_; refine z7 (zf rfl rfl rfl) rfl ?_; refine z7 (q7 rfl rfl rfl) rfl ?_; refine z7 (q7 rfl rfl rfl) rfl ?_; refine z7 (zk L rfl rfl rfl rfl) rfl ?_; refine z7 (zz L (vs := [_, _, _]) (zq rfl) rfl rfl rfl rfl ⟨_, rfl⟩) rfl ?_; refine z7 (ya (φ := US b false) L rfl rfl (zm rfl) rfl rfl rfl SlV.mono (fun u H hH _ _ v1 h1 => rsub6_ret hb (by omega) hH h1)) rfl ?_; refine z7 (q6 L rfl rfl (zm rfl) rfl rfl rfl (fun u H hH _ _ v1 h1 v2 h2 => rtsame_ret (e := 1) (by omega) (by omega) (if_pos rfl) hH h1 h2)) rfl ?_; refine z7 (qp rfl rfl rfl rfl (decide_eq_false (by omega))) rfl ?_; refine z7 (zw rfl rfl rfl rfl) rfl ?_; refine z7 (zf rfl rfl rfl) rfl ?_; refine z7 (q7 rfl rfl rfl) rfl ?_; refine z7 (q7 rfl rfl rfl) rfl ?_; refine z7 (zz L (vs := [_, _, _, _, _, _, _]) (zq rfl) rfl rfl rfl rfl ⟨_, rfl⟩) rfl ?_; refine z7 (ya (φ := US c false) L rfl rfl (zm rfl) rfl rfl rfl SlV.mono (fun u H hH _ _ v1 h1 => rmatch6_ret hcc (by omega) mf hH h1)) rfl ?_; refine z7 (q6 L rfl rfl (zm rfl) rfl rfl rfl (fun u H hH _ _ v1 h1 v2 h2 => rtsame_ret (e := 1) (by omega) (by omega) (if_pos rfl) hH h1 h2)) rfl ?_; refine z7 (qp rfl rfl rfl rfl (decide_eq_false (by omega))) rfl ?_; refine z7 (zw rfl rfl rfl rfl) rfl ?_; refine z7 (zf rfl rfl rfl) rfl ?_; refine z7 (q7 rfl rfl rfl) rfl ?_; refine z7 (yc L rfl rfl rfl rfl) rfl ?_; refine z7 (q7 rfl rfl rfl) rfl ?_; refine z7 (yc L rfl rfl rfl rfl) rfl ?_; refine z7 (yb rfl rfl rfl rfl (decide_eq_false (by omega))) rfl ?_; refine z7 (zw rfl rfl rfl rfl) rfl ?_; refine zh ?_; refine zj ?_; refine q8 rfl ?_; refine q9 ?_; refine zj ?_; refine zg ?_; refine zg ?_; refine z8 (id := 10) ?_; refine z7 (zi rfl rfl rfl) rfl ?_; refine zh ?_; refine zj ?_; refine qd ?_
  refine V_loop (fun i : Nat => [(7, .sat (US l false)), (8, .own (Cell [f1, .pointer p1, k1, .pointer q1] tySet)), (10, .sat (At (ucs t) tyU 0)), (12, .sat (US a true)), (13, .sat (US b true)), (14, .sat (US c true)), (15, .sat (G3S d true)), (16, .sat (G3S d false)), (17, .is (.int .i64 i))])
    (fun i => i ≤ d.length) (fun i => d.length - i) 0 (Nat.zero_le _) ⟨rfl, rfl, rfl, rfl, rfl, rfl, rfl, rfl, rfl, trivial⟩ ?_
  rintro i hi
  by_cases hlt : i < d.length
  · obtain ⟨g, hg⟩ := get_some hlt
    have hgc := g3_at hg
    have hq := eq3 (g := g) (h := g) (decide_eq_true rfl)
    refine zg ?_; refine zg ?_; refine z8 (id := 11) ?_; refine z7 (zf rfl rfl rfl) rfl ?_; refine z7 (q7 rfl rfl rfl) rfl ?_; refine z7 (yc L rfl rfl rfl rfl) rfl ?_; refine z7 (qe rfl rfl rfl rfl (decide_eq_true (by omega))) rfl ?_; refine zh ?_; refine zj ?_; refine qa rfl ?_; refine q9 ?_; refine zj ?_; refine zg ?_; refine qd ?_; refine zg ?_; refine qj (id := 13) [] mixed (by kernel_rfl) ?_; refine zd (q7 rfl rfl rfl) rfl ?_; refine zd (zf rfl rfl rfl) rfl ?_; refine zd (qo L _ rfl rfl rfl rfl rfl rfl rfl (by first | omega | decide) (by assumption)) rfl ?_; refine zd (qt L (vs := [_, _, _]) rfl rfl rfl rfl rfl ⟨_, rfl⟩) rfl ?_; refine zd (q7 rfl rfl rfl) rfl ?_; refine zd (zf rfl rfl rfl) rfl ?_; refine zd (qo L _ rfl rfl rfl rfl rfl rfl rfl (by first | omega | decide) (by assumption)) rfl ?_; refine zd (qt L (vs := [_, _, _]) rfl rfl rfl rfl rfl ⟨_, rfl⟩) rfl ?_; refine zd (ok_aneq rfl rfl rfl rfl eq47 (by assumption) rfl) rfl ?_; refine qq ?_; refine zj ?_; refine q8 rfl ?_; refine q9 ?_; refine qr ?_; refine zj ?_; refine z8 (id := 12) ?_; refine z7 (zf rfl rfl rfl) rfl ?_; refine z7 (qy rfl rfl rfl rfl (wrap_i64 (by omega) (by omega))) rfl ?_; refine z7 (zi rfl rfl rfl) rfl ?_; refine zh ?_
    exact y7 (x := i) (i + 1) hlt (by omega) ⟨rfl, rfl, rfl, rfl, rfl, rfl, rfl, rfl, rfl, trivial⟩
  · obtain rfl : i = d.length := by omega
    cases hin : decide (t ∈ l)
    · have hin2 : (if t ∈ l then 1 else 0 : Int) = 0 := if_neg (by simpa using hin)
      refine zg ?_; refine zg ?_; refine z8 (id := 11) ?_; refine z7 (zf rfl rfl rfl) rfl ?_; refine z7 (q7 rfl rfl rfl) rfl ?_; refine z7 (yc L rfl rfl rfl rfl) rfl ?_; refine z7 (qe rfl rfl rfl rfl (decide_eq_false (by omega))) rfl ?_; refine zh ?_; refine zj ?_; refine q8 rfl ?_; refine yi ?_; refine qu ?_; refine qu ?_; refine yh ?_; refine zj ?_; refine zg ?_; refine z8 (id := 15) ?_; refine z7 (zz L (vs := [_, _, _, _]) (ql rfl) rfl rfl rfl rfl ⟨_, rfl⟩) rfl ?_; refine z7 (zk L rfl rfl rfl rfl) rfl ?_; refine z7 (zz L (vs := [_, _, _]) (zq rfl) rfl rfl rfl rfl ⟨_, rfl⟩) rfl ?_; refine z7 (qv (cs := [_, _, _, _, _, _, _]) rfl rfl pl53 rfl rfl) rfl ?_; refine z7 (ya (φ := US b true) L rfl rfl (zm rfl) rfl rfl rfl SlV.mono (fun u H hH hle _ => smatch_ret hu (by omega) mu hH (hT1.le hle))) rfl ?_; refine z7 (qz rfl rfl rfl) rfl ?_; refine zh ?_; refine zj ?_; refine zg ?_; refine z8 (id := 16) ?_; refine z7 (zz L (vs := [_, _, _, _]) (ql rfl) rfl rfl rfl rfl ⟨_, rfl⟩) rfl ?_; refine z7 (zk L rfl rfl rfl rfl) rfl ?_; refine z7 (zk L rfl rfl rfl rfl) rfl ?_; refine z7 (zk L rfl rfl rfl rfl) rfl ?_; refine z7 (zo L (zq rfl) rfl rfl rfl rfl) rfl ?_; refine z7 (zk L rfl rfl rfl rfl) rfl ?_; refine z7 (zk L rfl rfl rfl rfl) rfl ?_; refine z7 (zk L rfl rfl rfl rfl) rfl ?_; refine z7 (zo L (zq rfl) rfl rfl rfl rfl) rfl ?_; refine z7 (zk L rfl rfl rfl rfl) rfl ?_; refine z7 (zk L rfl rfl rfl rfl) rfl ?_; refine z7 (zo L (zq rfl) rfl rfl rfl rfl) rfl ?_; refine z7 (qv (cs := [_, _, _, _, _, _, _]) rfl rfl pl53 rfl rfl) rfl ?_; refine z7 (ya (φ := US a true) L rfl rfl (zm rfl) rfl rfl rfl SlV.mono (fun u H hH hle _ => smatch_ret hv (by omega) mv hH (hT1.le hle))) rfl ?_; refine z7 (qz rfl rfl rfl) rfl ?_; refine zh ?_; refine zj ?_; refine zg ?_; refine qj (id := 17) [] mixed (by kernel_rfl) ?_; refine zd (q7 rfl rfl rfl) rfl ?_; refine zd (ok_capV L rfl rfl rfl rfl) rfl ?_; refine zd (q7 rfl rfl rfl) rfl ?_; refine zd (yc L rfl rfl rfl rfl) rfl ?_; refine zd (qp rfl rfl rfl rfl (decide_eq_true (by omega))) rfl ?_; refine zd (zf rfl rfl rfl) rfl ?_; refine zd (q7 rfl rfl rfl) rfl ?_; refine zd (ok_capV L rfl rfl rfl rfl) rfl ?_; refine zd (q7 rfl rfl rfl) rfl ?_; refine zd (yc L rfl rfl rfl rfl) rfl ?_; refine zd (qp rfl rfl rfl rfl (decide_eq_true (by omega))) rfl ?_; refine zd (zw rfl rfl rfl rfl) rfl ?_; refine zd (zf rfl rfl rfl) rfl ?_; refine zd (q7 rfl rfl rfl) rfl ?_; refine zd (ok_capV L rfl rfl rfl rfl) rfl ?_; refine zd (q7 rfl rfl rfl) rfl ?_; refine zd (yc L rfl rfl rfl rfl) rfl ?_; refine zd (qp rfl rfl rfl rfl (decide_eq_true (by omega))) rfl ?_; refine zd (zw rfl rfl rfl rfl) rfl ?_; refine zd (zf rfl rfl rfl) rfl ?_; refine zd (q7 rfl rfl rfl) rfl ?_; refine zd (ok_capV L rfl rfl rfl rfl) rfl ?_; refine zd (q7 rfl rfl rfl) rfl ?_; refine zd (yc L rfl rfl rfl rfl) rfl ?_; refine zd (qp rfl rfl rfl rfl (decide_eq_true (by omega))) rfl ?_; refine zd (zw rfl rfl rfl rfl) rfl ?_; refine zd (zf rfl rfl rfl) rfl ?_; refine zd (q7 rfl rfl rfl) rfl ?_; refine zd (q7 rfl rfl rfl) rfl ?_; refine zd (q6 L rfl rfl (zm rfl) rfl rfl rfl (fun u H hH _ _ v1 h1 v2 h2 => rtsame_ret (e := 1) (by omega) (by omega) (if_pos rfl) hH h1 h2)) rfl ?_; refine zd (qp rfl rfl rfl rfl (decide_eq_true (by omega))) rfl ?_; refine zd (zw rfl rfl rfl rfl) rfl ?_; refine zd (zf rfl rfl rfl) rfl ?_; refine zd (q7 rfl rfl rfl) rfl ?_; refine zd (q7 rfl rfl rfl) rfl ?_; refine zd (q6 L rfl rfl (zm rfl) rfl rfl rfl (fun u H hH _ _ v1 h1 v2 h2 => rtsame_ret (e := 1) (by omega) (by omega) (if_pos rfl) hH h1 h2)) rfl ?_; refine zd (qp rfl rfl rfl rfl (decide_eq_true (by omega))) rfl ?_; refine zd (zw rfl rfl rfl rfl) rfl ?_; refine zd (zf rfl rfl rfl) rfl ?_; refine zd (zz L (vs := [_, _, _, _]) (ql rfl) rfl rfl rfl rfl ⟨_, rfl⟩) rfl ?_; refine zd (zz L (vs := [_, _, _, _, _, _]) (zq rfl) rfl rfl rfl rfl ⟨_, rfl⟩) rfl ?_; refine zd (q6 L rfl rfl (zm rfl) rfl rfl rfl (fun u H hH hle _ => shas_ret hin hH (hT1.le hle))) rfl ?_; refine zd (q7 rfl rfl rfl) rfl ?_; refine zd (zz L (vs := [_, _, _, _, _, _]) (zq rfl) rfl rfl rfl rfl ⟨_, rfl⟩) rfl ?_; refine zd (q6 L rfl rfl (zm rfl) rfl rfl rfl (fun u H hH _ _ v1 h1 => rin_ret (by omega) hin2 hH h1)) rfl ?_; refine zd (qp rfl rfl rfl rfl (decide_eq_false (by omega))) rfl ?_; refine zd (ok_beql rfl rfl rfl rfl bt4 rfl) rfl ?_; refine zd (zw rfl rfl rfl rfl) rfl ?_; refine zd (zf rfl rfl rfl) rfl ?_; refine zd (q6 L rfl rfl (zm rfl) rfl rfl rfl (fun u H hH hle _ => lives06_ret hH (hM.mono (hs1.le.trans hle)))) rfl ?_; refine zd (zw rfl rfl rfl rfl) rfl ?_; refine zd (zi rfl rfl rfl) rfl ?_; refine qq ?_; refine zj ?_
      refine qi L (rs := [.tmp 6]) rfl (fun _ _ h => h) hs1 fun u H hH hle => ?_
      rfl
    · have hin2 : (if t ∈ l then 1 else 0 : Int) = 1 := if_pos (by simpa using hin)
      refine zg ?_; refine zg ?_; refine z8 (id := 11) ?_; refine z7 (zf rfl rfl rfl) rfl ?_; refine z7 (q7 rfl rfl rfl) rfl ?_; refine z7 (yc L rfl rfl rfl rfl) rfl ?_; refine z7 (qe rfl rfl rfl rfl (decide_eq_false (by omega))) rfl ?_; refine zh ?_; refine zj ?_; refine q8 rfl ?_; refine yi ?_; refine qu ?_; refine qu ?_; refine yh ?_; refine zj ?_; refine zg ?_; refine z8 (id := 15) ?_; refine z7 (zz L (vs := [_, _, _, _]) (ql rfl) rfl rfl rfl rfl ⟨_, rfl⟩) rfl ?_; refine z7 (zk L rfl rfl rfl rfl) rfl ?_; refine z7 (zz L (vs := [_, _, _]) (zq rfl) rfl rfl rfl rfl ⟨_, rfl⟩) rfl ?_; refine z7 (qv (cs := [_, _, _, _, _, _, _]) rfl rfl pl53 rfl rfl) rfl ?_; refine z7 (ya (φ := US b true) L rfl rfl (zm rfl) rfl rfl rfl SlV.mono (fun u H hH hle _ => smatch_ret hu (by omega) mu hH (hT1.le hle))) rfl ?_; refine z7 (qz rfl rfl rfl) rfl ?_; refine zh ?_; refine zj ?_; refine zg ?_; refine z8 (id := 16) ?_; refine z7 (zz L (vs := [_, _, _, _]) (ql rfl) rfl rfl rfl rfl ⟨_, rfl⟩) rfl ?_; refine z7 (zk L rfl rfl rfl rfl) rfl ?_; refine z7 (zk L rfl rfl rfl rfl) rfl ?_; refine z7 (zk L rfl rfl rfl rfl) rfl ?_; refine z7 (zo L (zq rfl) rfl rfl rfl rfl) rfl ?_; refine z7 (zk L rfl rfl rfl rfl) rfl ?_; refine z7 (zk L rfl rfl rfl rfl) rfl ?_; refine z7 (zk L rfl rfl rfl rfl) rfl ?_; refine z7 (zo L (zq rfl) rfl rfl rfl rfl) rfl ?_; refine z7 (zk L rfl rfl rfl rfl) rfl ?_; refine z7 (zk L rfl rfl rfl rfl) rfl ?_; refine z7 (zo L (zq rfl) rfl rfl rfl rfl) rfl ?_; refine z7 (qv (cs := [_, _, _, _, _, _, _]) rfl rfl pl53 rfl rfl) rfl ?_; refine z7 (ya (φ := US a true) L rfl rfl (zm rfl) rfl rfl rfl SlV.mono (fun u H hH hle _ => smatch_ret hv (by omega) mv hH (hT1.le hle))) rfl ?_; refine z7 (qz rfl rfl rfl) rfl ?_; refine zh ?_; refine zj ?_; refine zg ?_; refine qj (id := 17) [] mixed (by kernel_rfl) ?_; refine zd (q7 rfl rfl rfl) rfl ?_; refine zd (ok_capV L rfl rfl rfl rfl) rfl ?_; refine zd (q7 rfl rfl rfl) rfl ?_; refine zd (yc L rfl rfl rfl rfl) rfl ?_; refine zd (qp rfl rfl rfl rfl (decide_eq_true (by omega))) rfl ?_; refine zd (zf rfl rfl rfl) rfl ?_; refine zd (q7 rfl rfl rfl) rfl ?_; refine zd (ok_capV L rfl rfl rfl rfl) rfl ?_; refine zd (q7 rfl rfl rfl) rfl ?_; refine zd (yc L rfl rfl rfl rfl) rfl ?_; refine zd (qp rfl rfl rfl rfl (decide_eq_true (by omega))) rfl ?_; refine zd (zw rfl rfl rfl rfl) rfl ?_; refine zd (zf rfl rfl rfl) rfl ?_; refine zd (q7 rfl rfl rfl) rfl ?_; refine zd (ok_capV L rfl rfl rfl rfl) rfl ?_; refine zd (q7 rfl rfl rfl) rfl ?_; refine zd (yc L rfl rfl rfl rfl) rfl ?_; refine zd (qp rfl rfl rfl rfl (decide_eq_true (by omega))) rfl ?_; refine zd (zw rfl rfl rfl rfl) rfl ?_; refine zd (zf rfl rfl rfl) rfl ?_; refine zd (q7 rfl rfl rfl) rfl ?_; refine zd (ok_capV L rfl rfl rfl rfl) rfl ?_; refine zd (q7 rfl rfl rfl) rfl ?_; refine zd (yc L rfl rfl rfl rfl) rfl ?_; refine zd (qp rfl rfl rfl rfl (decide_eq_true (by omega))) rfl ?_; refine zd (zw rfl rfl rfl rfl) rfl ?_; refine zd (zf rfl rfl rfl) rfl ?_; refine zd (q7 rfl rfl rfl) rfl ?_; refine zd (q7 rfl rfl rfl) rfl ?_; refine zd (q6 L rfl rfl (zm rfl) rfl rfl rfl (fun u H hH _ _ v1 h1 v2 h2 => rtsame_ret (e := 1) (by omega) (by omega) (if_pos rfl) hH h1 h2)) rfl ?_; refine zd (qp rfl rfl rfl rfl (decide_eq_true (by omega))) rfl ?_; refine zd (zw rfl rfl rfl rfl) rfl ?_; refine zd (zf rfl rfl rfl) rfl ?_; refine zd (q7 rfl rfl rfl) rfl ?_; refine zd (q7 rfl rfl rfl) rfl ?_; refine zd (q6 L rfl rfl (zm rfl) rfl rfl rfl (fun u H hH _ _ v1 h1 v2 h2 => rtsame_ret (e := 1) (by omega) (by omega) (if_pos rfl) hH h1 h2)) rfl ?_; refine zd (qp rfl rfl rfl rfl (decide_eq_true (by omega))) rfl ?_; refine zd (zw rfl rfl rfl rfl) rfl ?_; refine zd (zf rfl rfl rfl) rfl ?_; refine zd (zz L (vs := [_, _, _, _]) (ql rfl) rfl rfl rfl rfl ⟨_, rfl⟩) rfl ?_; refine zd (zz L (vs := [_, _, _, _, _, _]) (zq rfl) rfl rfl rfl rfl ⟨_, rfl⟩) rfl ?_; refine zd (q6 L rfl rfl (zm rfl) rfl rfl rfl (fun u H hH hle _ => shas_ret hin hH (hT1.le hle))) rfl ?_; refine zd (q7 rfl rfl rfl) rfl ?_; refine zd (zz L (vs := [_, _, _, _, _, _]) (zq rfl) rfl rfl rfl rfl ⟨_, rfl⟩) rfl ?_; refine zd (q6 L rfl rfl (zm rfl) rfl rfl rfl (fun u H hH _ _ v1 h1 => rin_ret (by omega) hin2 hH h1)) rfl ?_; refine zd (qp rfl rfl rfl rfl (decide_eq_true (by omega))) rfl ?_; refine zd (ok_beql rfl rfl rfl rfl bt4 rfl) rfl ?_; refine zd (zw rfl rfl rfl rfl) rfl ?_; refine zd (zf rfl rfl rfl) rfl ?_; refine zd (q6 L rfl rfl (zm rfl) rfl rfl rfl (fun u H hH hle _ => lives06_ret hH (hM.mono (hs1.le.trans hle)))) rfl ?_; refine zd (zw rfl rfl rfl rfl) rfl ?_; refine zd (zi rfl rfl rfl) rfl ?_; refine qq ?_; refine zj ?_
      refine qi L (rs := [.tmp 6]) rfl (fun _ _ h => h) hs1 fun u H hH hle => ?_
      rfl
end Go.V.L6
namespace Go.V.L6
open Go.Proofs Go.RowKit Go.V Go.V.L2 Go.V.L3
attribute [local irreducible] V N X VO Par StepOK Has Ret RetL RetO RetT Src
end Go.V.L6
namespace Go.V.L6
open Go.Proofs Go.RowKit Go.V Go.V.L2 Go.V.L3
attribute [local irreducible] V N X VO Par StepOK Has Ret RetL RetO RetT Src
end Go.V.L6
namespace Go.V
open Go.RowKit
inductive LeafK where
  | s
  | b
  | i (k : IntKind)
def LeafOK : LeafK → Value → Prop
  | .s, v => ∃ a : ByteArray, v = .string a ∧ a.size ≤ maxLen
  | .b, v => ∃ c, v = .bool c
  | .i k, v => ∃ n, v = .int k n ∧ (Lit.int k n).wf = true
def LeafsOK : List LeafK → List Value → Prop
  | [], [] => True
  | l :: ls, v :: vs => LeafOK l v ∧ LeafsOK ls vs
  | _, _ => False
theorem LeafsOK.append : ∀ {a b : List LeafK} {x y : List Value}, LeafsOK a x → LeafsOK b y → LeafsOK (a ++ b) (x ++ y)
  | [], _, [], _, _, h => h
  | [], _, _ :: _, _, h, _ => h.elim
  | _ :: _, _, [], _, h, _ => h.elim
  | _ :: _, _, _ :: _, _, h, k => ⟨h.1, LeafsOK.append h.2 k⟩
theorem LeafsOK.length : ∀ {a : List LeafK} {x : List Value}, LeafsOK a x → x.length = a.length
  | [], [], _ => rfl
  | [], _ :: _, h => h.elim
  | _ :: _, [], h => h.elim
  | _ :: _, _ :: _, h => by simp [LeafsOK.length h.2]
theorem leaf_s {ls : List LeafK} {vs : List Value} (h : LeafsOK (.s :: ls) vs) : ∃ a r, vs = .string a :: r ∧ a.size ≤ maxLen ∧ LeafsOK ls r := by
  cases vs with
  | nil => exact h.elim
  | cons v vs => obtain ⟨⟨a, rfl, ha⟩, h⟩ := h; exact ⟨a, vs, rfl, ha, h⟩
theorem leaf_i {k : IntKind} {ls : List LeafK} {vs : List Value} (h : LeafsOK (.i k :: ls) vs) : ∃ n r, vs = .int k n :: r ∧ (Lit.int k n).wf = true ∧ LeafsOK ls r := by
  cases vs with
  | nil => exact h.elim
  | cons v vs => obtain ⟨⟨a, rfl, ha⟩, h⟩ := h; exact ⟨a, vs, rfl, ha, h⟩
theorem leaf_b {ls : List LeafK} {vs : List Value} (h : LeafsOK (.b :: ls) vs) : ∃ c r, vs = .bool c :: r ∧ LeafsOK ls r := by
  cases vs with
  | nil => exact h.elim
  | cons v vs => obtain ⟨⟨a, rfl⟩, h⟩ := h; exact ⟨a, vs, rfl, h⟩
theorem leaf_nil {vs : List Value} (h : LeafsOK [] vs) : vs = [] := by
  cases vs with
  | nil => rfl
  | cons _ _ => exact h.elim
def leafF (P : Program) (rec : TypeId → Option (List LeafK)) : List Field → Nat → Option (List LeafK)
  | [], _ => some []
  | f :: fs, off => match rec f.type with
    | some ls => if f.offset = off ∧ P.cellsOf f.type = ls.length then
        match leafF P rec fs (off + ls.length) with
        | some r => some (ls ++ r)
        | none => none
      else none
    | none => none
def repL (ls : List LeafK) : Nat → List LeafK
  | 0 => []
  | n + 1 => ls ++ repL ls n
def leafI (P : Program) : Nat → TypeId → Option (List LeafK)
  | 0, _ => none
  | d + 1, t => match P.underlying t with
    | some .string => some [.s]
    | some (.int k) => some [.i k]
    | some .bool => some [.b]
    | some (.struct fs) => match leafF P (leafI P d) fs.toList 0 with
      | some ls => if P.cellsOf t = ls.length then some ls else none
      | none => none
    | some (.array n e) => match leafI P d e with
      | some ls => if P.cellsOf e = ls.length ∧ P.cellsOf t = (repL ls n).length then some (repL ls n) else none
      | none => none
    | _ => none
theorem mapM_all {α β : Type} {f : α → Option β} : ∀ {l : List α} {ys : List β}, l.mapM f = some ys → ∃ g : List β, g = ys ∧ (∀ x ∈ l, ∃ y, f x = some y ∧ y ∈ ys) ∧ (∀ y ∈ ys, ∃ x ∈ l, f x = some y)
  | [], ys, h => by
    simp at h; subst h
    exact ⟨_, rfl, by simp, by simp⟩
  | x :: l, ys, h => by
    rw [List.mapM_cons] at h
    cases hx : f x with
    | none => rw [hx] at h; cases h
    | some y =>
      rw [hx] at h
      cases hl : l.mapM f with
      | none => rw [hl] at h; cases h
      | some zs =>
        rw [hl] at h
        cases h
        obtain ⟨_, _, h1, h2⟩ := mapM_all hl
        refine ⟨_, rfl, fun z hz => ?_, fun z hz => ?_⟩
        · rcases List.mem_cons.1 hz with rfl | hz
          · exact ⟨y, hx, List.mem_cons_self ..⟩
          · obtain ⟨w, hw, hm⟩ := h1 z hz; exact ⟨w, hw, List.mem_cons_of_mem _ hm⟩
        · rcases List.mem_cons.1 hz with rfl | hz
          · exact ⟨x, List.mem_cons_self .., hx⟩
          · obtain ⟨w, hw, hm⟩ := h2 z hz; exact ⟨w, List.mem_cons_of_mem _ hw, hm⟩
theorem take_split (cs : List Value) (off m r : Nat) : (cs.drop off).take (m + r) = (cs.drop off).take m ++ (cs.drop (off + m)).take r := by
  rw [List.take_add, List.drop_drop]
section
variable {P : Program} {H : Type} {enc : TypeId × Value → H} {W : World} {sp : Nat → Bool} {held : Bool} {base : Nat}
theorem leaf_of_trod : ∀ (d : Nat) {t : TypeId} {ls : List LeafK}, leafI P d t = some ls → ∀ {fuel : Nat} {cs : List Value} {x : DataW H × List MemPlace},
    DataW.trod enc P W base sp held fuel t cs = some x → LeafsOK ls cs ∧ x.2 = []
  | 0, _, _, h, _, _, _, _ => by cases h
  | d + 1, t, ls, h, fuel, cs, x, hx => by
    have ih := @leaf_of_trod d
    cases fuel with
    | zero => simp [DataW.trod] at hx
    | succ fuel =>
      rw [leafI] at h
      unfold DataW.trod at hx
      cases hu : P.underlying t with
      | none => rw [hu] at h; cases h
      | some ds =>
        rw [hu] at h hx
        cases ds <;> first | (cases h; done) | skip
        · cases h
          match cs, hx with
          | [.bool b], hx => cases hx; exact ⟨⟨⟨b, rfl⟩, trivial⟩, rfl⟩
        · rename_i k
          cases h
          match cs, hx with
          | [.int k' m], hx =>
            simp only at hx
            split at hx
            · rename_i hk
              obtain ⟨rfl, hw⟩ := hk
              cases hx; exact ⟨⟨⟨m, rfl, hw⟩, trivial⟩, rfl⟩
            · cases hx
        · cases h
          match cs, hx with
          | [.string s], hx =>
            simp only at hx
            split at hx
            · rename_i hs; cases hx; exact ⟨⟨⟨s, rfl, hs⟩, trivial⟩, rfl⟩
            · cases hx
        · rename_i n e
          simp only at h hx
          split at h
          · rename_i l1 hl1
            split at h
            · rename_i hc
              cases h
              split at hx
              · rename_i hlen
                obtain ⟨xs, hxs, rfl⟩ := Option.map_eq_some_iff.1 hx
                obtain ⟨_, _, hall, hback⟩ := mapM_all hxs
                have each : ∀ i, i < n → LeafsOK l1 ((cs.drop (i * P.cellsOf e)).take (P.cellsOf e)) := fun i hi => by
                  obtain ⟨y, hy, _⟩ := hall i (List.mem_range.2 hi)
                  exact (ih hl1 hy).1
                have gen : ∀ m k, k + m = n → LeafsOK (repL l1 m) ((cs.drop (k * P.cellsOf e)).take (m * P.cellsOf e)) := by
                  intro m
                  induction m with
                  | zero => intro k _; simp [repL, LeafsOK]
                  | succ m ihm =>
                    intro k hk
                    rw [show (m + 1) * P.cellsOf e = P.cellsOf e + m * P.cellsOf e by rw [Nat.succ_mul]; omega, take_split]
                    refine LeafsOK.append (each k (by omega)) ?_
                    rw [show k * P.cellsOf e + P.cellsOf e = (k + 1) * P.cellsOf e by rw [Nat.succ_mul]]
                    exact ihm (k + 1) (by omega)
                refine ⟨?_, ?_⟩
                · have := gen n 0 (by omega)
                  have hrl : ∀ m, (repL l1 m).length = m * P.cellsOf e := by
                    intro m
                    induction m with
                    | zero => simp [repL]
                    | succ m ihm => simp only [repL, List.length_append, ihm, hc.1]; rw [Nat.succ_mul]; omega
                  rw [← hrl n, ← hc.2, ← hlen] at this
                  simpa using this
                · refine List.flatMap_eq_nil_iff.2 fun y hy => ?_
                  obtain ⟨i, _, hi⟩ := hback y hy
                  exact (ih hl1 hi).2
              · cases hx
            · cases h
          · cases h
        · rename_i fs
          simp only at h hx
          split at h
          · rename_i l1 hl1
            split at h
            · rename_i hc
              cases h
              split at hx
              · rename_i hlen
                obtain ⟨xs, hxs, rfl⟩ := Option.map_eq_some_iff.1 hx
                obtain ⟨_, _, hall, hback⟩ := mapM_all hxs
                have gen : ∀ (fl : List Field) (off : Nat) (ls : List LeafK), (∀ f ∈ fl, f ∈ fs.toList) → leafF P (leafI P d) fl off = some ls →
                    LeafsOK ls ((cs.drop off).take ls.length) ∧ ∀ f ∈ fl, ∃ l, leafI P d f.type = some l := by
                  intro fl
                  induction fl with
                  | nil => intro off ls _ h; cases h; simp [LeafsOK]
                  | cons f fl ihf =>
                    intro off ls hm h
                    simp only [leafF] at h
                    split at h
                    · rename_i l2 hl2
                      split at h
                      · rename_i hc2
                        obtain ⟨rfl, hc3⟩ := hc2
                        split at h
                        · rename_i r hr
                          cases h
                          obtain ⟨g1, g2⟩ := ihf _ _ (fun g hg => hm g (List.mem_cons_of_mem _ hg)) hr
                          refine ⟨?_, fun g hg => ?_⟩
                          · rw [List.length_append, take_split]
                            refine LeafsOK.append ?_ g1
                            obtain ⟨y, hy, _⟩ := hall f (hm f (List.mem_cons_self ..))
                            rw [← hc3]
                            exact (ih hl2 hy).1
                          · rcases List.mem_cons.1 hg with rfl | hg
                            · exact ⟨l2, hl2⟩
                            · exact g2 g hg
                        · cases h
                      · cases h
                    · cases h
                obtain ⟨g1, g2⟩ := gen fs.toList 0 _ (fun _ h => h) hl1
                refine ⟨?_, ?_⟩
                · rw [← hc, ← hlen] at g1; simpa using g1
                · refine List.flatMap_eq_nil_iff.2 fun y hy => ?_
                  obtain ⟨f, hf, hi⟩ := hback y hy
                  obtain ⟨l, hl⟩ := g2 f hf
                  exact (ih hl hi).2
              · cases hx
            · cases h
          · cases h
theorem open_agg {t : TypeId} {ls : List LeafK} {b0 : Nat} {v : Value} {dd : DataW H} {ps : List MemPlace} (h : leafI P 20 t = some ls) (ha : (match P.underlying t with | some (.struct _) | some (.array _ _) => true | _ => false) = true)
    (hval : Value.okWide P W .any b0 t v) (hd : DataW.Trod enc P W base sp held t v dd ps) : ∃ cs : List Value, v = .agg cs.toArray ∧ LeafsOK ls cs ∧ ps = [] := by
  obtain ⟨fuel, hf⟩ := hd
  have key : ∃ cs, v = .agg cs := by
    unfold Value.okWide at hval
    split at hval
    · obtain ⟨cs, hv, _⟩ := hval; exact ⟨cs, hv⟩
    · obtain ⟨cs, hv, _⟩ := hval; exact ⟨cs, hv⟩
    · rename_i h1 h2
      split at ha
      · rename_i fs hu; exact absurd hu (h1 fs)
      · rename_i m e hu; exact absurd hu (h2 m e)
      · cases ha
  obtain ⟨cs, rfl⟩ := key
  obtain ⟨h1, h2⟩ := leaf_of_trod 20 h hf
  exact ⟨cs.toList, by simp, h1, h2⟩
theorem open_sl {t e : TypeId} {ls : List LeafK} {b0 : Nat} {v : Value} {dd : DataW H} {ps : List MemPlace} (ht : P.underlying t = some (.slice e)) (hlf : leafI P 20 e = some ls) (hce : P.cellsOf e = ls.length)
    (hval : Value.okWide P W .any b0 t v) (hd : DataW.Trod enc P W 0 (fun _ => true) held t v dd ps) :
    ∃ cs : List (List Value), (∀ c ∈ cs, LeafsOK ls c) ∧ cs.length ≤ maxLen ∧ SlV e ls.length cs.flatten cs.length false v (hp W) := by
  obtain ⟨fuel, hf⟩ := hd
  have hv : v = .slice none 0 0 ∨ ∃ a len cap, v = .slice (some a) len cap ∧ len ≤ cap ∧ cap ≤ maxLen ∧ a.spot = none ∧ ∃ cs fr ty, W.heap[a.block]? = some (.cells cs ty fr) := by
    have h0 : Cell.ok P W .any b0 t v := by
      unfold Value.okWide at hval
      rw [ht] at hval
      unfold Cell.okWide at hval
      rw [ht] at hval
      exact hval
    unfold Cell.ok at h0
    rw [ht] at h0
    match v, h0 with
    | .slice none 0 0, _ => exact .inl rfl
    | .slice (some a) len cap, h0 =>
      obtain ⟨h1, h2, _, h3, row, cells, h4, _⟩ := h0
      have hm : IntKind.i64.max = 9223372036854775807 := by decide
      refine .inr ⟨a, len, cap, rfl, h1, by rw [hm] at h2; unfold maxLen; omega, h3, ?_⟩
      unfold World.shape? at h4
      split at h4
      · rename_i cs ty fr hh; exact ⟨_, _, _, hh⟩
      · cases h4
  rcases hv with rfl | ⟨a, len, cap, rfl, h1, h2, h3, cs, fr, ty, h4⟩
  · exact ⟨[], fun c h => (nomatch h), Nat.zero_le _, SlV.nil⟩
  · rcases Deep.open_slice ht (by simpa [Value.cells] using hf) with ⟨h, _⟩ | ⟨a', len', cap', m, nn, D, Pl, h5, _, _, _, hm, _, hx⟩
    · cases h
    · cases h5
      simp only [if_true] at hm
      rw [hm] at hx
      clear hm
      obtain ⟨C, hC⟩ := Deep.choose_lt (α := List Value) (n := cap) (p := fun i c => W.cells? 0 (a.add (i * P.cellsOf e)) (P.cellsOf e) = some c ∧ LeafsOK ls c) (fun i hi => by
        obtain ⟨c, g1, g2⟩ := hx i hi
        exact ⟨c, g1, (leaf_of_trod 20 hlf g2).1⟩)
      have hln : ∀ i, i < cap → (C i).length = ls.length := fun i hi => (hC i hi).2.length
      refine ⟨(List.range len).map C, fun c hc => ?_, by simp; omega, ?_⟩
      · obtain ⟨i, hi, rfl⟩ := List.mem_map.1 hc
        exact (hC i (by have := List.mem_range.1 hi; omega)).2
      · have hfl : ∀ k, k ≤ cap → ((List.range k).map C).flatten.length = k * ls.length := by
          intro k
          induction k with
          | zero => simp
          | succ k ih =>
            intro hk
            rw [List.range_succ, List.map_append, List.flatten_append, List.length_append, ih (by omega), Nat.succ_mul]
            simp [hln k (by omega)]
        refine ⟨by rw [hfl len h1, List.length_map, List.length_range], .inr ⟨a.block, a.off, cap, cs, ty, fr, ?_, h4, ?_, by simpa using h1, fun h => by cases h⟩⟩
        · obtain ⟨ab, ao, asp⟩ := a
          simp only at h3
          subst h3
          simp
        · rw [hfl len h1]
          have key : ∀ k, k ≤ cap → (cs.toList.drop a.off).take (k * ls.length) = ((List.range k).map C).flatten := by
            intro k
            induction k with
            | zero => simp
            | succ k ih =>
              intro hk
              rw [Nat.succ_mul, take_split, ih (by omega), List.range_succ, List.map_append, List.flatten_append]
              congr 1
              obtain ⟨_, g2, g3⟩ := World.cells?_some (hC k (by omega)).1
              simp only [List.map_cons, List.map_nil, List.flatten_cons, List.flatten_nil, List.append_nil]
              apply List.ext_getElem?
              intro j
              rcases Nat.lt_or_ge j ls.length with hj | hj
              · have := g3 j (by omega)
                rw [← this, List.getElem?_take_of_lt hj, List.getElem?_drop]
                obtain ⟨ab, ao, asp⟩ := a
                simp only at h3
                subst h3
                rw [addr_add, addr_add, cell_of_heap h4]
                simp only [hce]
                rw [Array.getElem?_toList]
              · rw [List.getElem?_eq_none (by rw [List.length_take]; omega), List.getElem?_eq_none (by rw [hln k (by omega)]; exact hj)]
          exact key len h1
end
end Go.V
namespace Go.V.L3
open Go.Proofs Go.RowKit Go.V Go.V.L2
theorem u8_of {n : Int} (h : Lit.wf (.int .u8 n) = true) : ∃ k : Nat, n = k ∧ k ≤ 255 := by
  have hb : IntKind.u8.min ≤ n ∧ n ≤ IntKind.u8.max := by simpa [Lit.wf] using h
  have hmin : IntKind.u8.min = 0 := by decide
  have hmax : IntKind.u8.max = 255 := by decide
  rw [hmin, hmax] at hb
  exact ⟨n.toNat, by omega, by omega⟩
theorem pairs_of : ∀ (cs : List (List Value)), (∀ c ∈ cs, LeafsOK [.i .u8, .i .u8] c) → ∃ ps : List (Nat × Nat), cs.flatten = ps.flatMap pcs ∧ cs.length = ps.length ∧ ∀ p ∈ ps, p.1 ≤ 255 ∧ p.2 ≤ 255
  | [], _ => ⟨[], rfl, rfl, fun n h => by cases h⟩
  | c :: cs, h => by
    obtain ⟨ps, h1, h2, h3⟩ := pairs_of cs fun x hx => h x (List.mem_cons_of_mem _ hx)
    have hc := h c (List.mem_cons_self ..)
    obtain ⟨n, r1, rfl, hw, hc⟩ := leaf_i hc
    obtain ⟨m, r2, rfl, hw2, hc⟩ := leaf_i hc
    obtain rfl := leaf_nil hc
    obtain ⟨n, rfl, hn⟩ := u8_of hw
    obtain ⟨m, rfl, hm⟩ := u8_of hw2
    refine ⟨(n, m) :: ps, by rw [List.flatten_cons, List.flatMap_cons, h1]; rfl, by rw [List.length_cons, List.length_cons, h2], fun p hp => ?_⟩
    rcases List.mem_cons.1 hp with rfl | hp
    · exact ⟨hn, hm⟩
    · exact h3 p hp
theorem ps_of {cs : List (List Value)} (lcs : ∀ c ∈ cs, LeafsOK [.i .u8, .i .u8] c) (zcs : cs.length ≤ maxLen) {H : Heap} {v : Value} (hcs : SlV ty2 2 cs.flatten cs.length false v H) :
    ∃ ps : List (Nat × Nat), (∀ p ∈ ps, p.1 ≤ 255 ∧ p.2 ≤ 255) ∧ ps.length ≤ 9223372036854775807 ∧ PS2 ps false v H := by
  obtain ⟨ps, h1, h2, h3⟩ := pairs_of cs lcs
  rw [h1, h2] at hcs
  exact ⟨ps, h3, by unfold maxLen at zcs; omega, hcs⟩
end Go.V.L3
namespace Go.V.L6
open Go.Proofs Go.RowKit Go.V Go.V.L2 Go.V.L3
theorem triples_of : ∀ (cs : List (List Value)), (∀ c ∈ cs, LeafsOK [.i .u8, .i .u8, .i .u8] c) → ∃ qs : List C3, cs.flatten = qs.flatMap qcs ∧ cs.length = qs.length ∧ ∀ c ∈ qs, c.1 ≤ 255 ∧ c.2.1 ≤ 255 ∧ c.2.2 ≤ 255
  | [], _ => ⟨[], rfl, rfl, fun n h => by cases h⟩
  | c :: cs, h => by
    obtain ⟨qs, h1, h2, h3⟩ := triples_of cs fun x hx => h x (List.mem_cons_of_mem _ hx)
    have hc := h c (List.mem_cons_self ..)
    obtain ⟨n, r1, rfl, hw, hc⟩ := leaf_i hc
    obtain ⟨m, r2, rfl, hw2, hc⟩ := leaf_i hc
    obtain ⟨k, r3, rfl, hw3, hc⟩ := leaf_i hc
    obtain rfl := leaf_nil hc
    obtain ⟨n, rfl, hn⟩ := u8_of hw
    obtain ⟨m, rfl, hm⟩ := u8_of hw2
    obtain ⟨k, rfl, hk⟩ := u8_of hw3
    refine ⟨(n, m, k) :: qs, by rw [List.flatten_cons, List.flatMap_cons, h1]; rfl, by rw [List.length_cons, List.length_cons, h2], fun p hp => ?_⟩
    rcases List.mem_cons.1 hp with rfl | hp
    · exact ⟨hn, hm, hk⟩
    · exact h3 p hp
theorem cs_of {cs : List (List Value)} (lcs : ∀ c ∈ cs, LeafsOK [.i .u8, .i .u8, .i .u8] c) (zcs : cs.length ≤ maxLen) {H : Heap} {v : Value} (hcs : SlV ty3 3 cs.flatten cs.length false v H) :
    ∃ qs : List C3, (∀ c ∈ qs, c.1 ≤ 255 ∧ c.2.1 ≤ 255 ∧ c.2.2 ≤ 255) ∧ qs.length ≤ 9223372036854775807 ∧ PS3 qs false v H := by
  obtain ⟨qs, h1, h2, h3⟩ := triples_of cs lcs
  rw [h1, h2] at hcs
  exact ⟨qs, h3, by unfold maxLen at zcs; omega, hcs⟩
section
variable {ps cs : List (List Value)} (lps : ∀ c ∈ ps, LeafsOK [.i .u8, .i .u8] c) (zps : ps.length ≤ maxLen) {W : World} {v1 v2 : Value} (hps : SlV ty2 2 ps.flatten ps.length false v1 (hp W)) (lcs : ∀ c ∈ cs, LeafsOK [.i .u8, .i .u8, .i .u8] c) (zcs : cs.length ≤ maxLen) (hcs : SlV ty3 3 cs.flatten cs.length false v2 (hp W)) (hM : GlobM (hp W))
include lps zps hps lcs zcs hcs hM
theorem setsViews_in {y0 y1 y2 n0 n1 : Int} (h0 : Lit.wf (.int .u8 y0) = true) (h1 : Lit.wf (.int .u8 y1) = true) (h2 : Lit.wf (.int .u8 y2) = true) (g0 : Lit.wf (.int .u8 n0) = true) (g1 : Lit.wf (.int .u8 n1) = true) :
    Ret Tryz.prog 3 [.agg #[v1, v2], .agg #[.int .u8 y0, .int .u8 y1, .int .u8 y2], .agg #[.int .u8 n0, .int .u8 n1]] W (hp W) (fun v _ => v = .bool true) := by
  obtain ⟨p, a1, a2, a3⟩ := ps_of lps zps hps
  obtain ⟨c, b1, b2, b3⟩ := cs_of lcs zcs hcs
  obtain ⟨y0, rfl, k0⟩ := u8_of h0
  obtain ⟨y1, rfl, k1⟩ := u8_of h1
  obtain ⟨y2, rfl, k2⟩ := u8_of h2
  obtain ⟨n0, rfl, j0⟩ := u8_of g0
  obtain ⟨n1, rfl, j1⟩ := u8_of g1
  exact setsViews_law a1 a2 b1 b2 k0 k1 k2 j0 j1 (Heap.Le.refl _) hM a3 b3
end
end Go.V.L6
namespace Go.V
open Go.ChangeShapes Go.WideShapes Go.ChangeAt Go.ChangeMaps Go.RowKit
inductive Sh where
  | l (k : LeafK)
  | s (t e : TypeId) (ls : List LeafK)
def SlOK (H : Heap) (e : TypeId) (ls : List LeafK) (v : Value) : Prop := ∃ cs : List (List Value), (∀ c ∈ cs, LeafsOK ls c) ∧ cs.length ≤ maxLen ∧ SlV e ls.length cs.flatten cs.length false v H
def ShOK (H : Heap) : List Sh → List Value → Prop
  | [], vs => vs = []
  | .l k :: r, vs => ∃ v w, vs = v :: w ∧ LeafsOK [k] [v] ∧ ShOK H r w
  | .s _ e ls :: r, vs => ∃ v w, vs = v :: w ∧ SlOK H e ls v ∧ ShOK H r w
theorem ShOK.append {H : Heap} : ∀ {a b : List Sh} {x y : List Value}, ShOK H a x → ShOK H b y → ShOK H (a ++ b) (x ++ y)
  | [], _, _, _, hx, hy => by cases hx; exact hy
  | .l k :: a, _, _, _, ⟨v, w, e, h1, h2⟩, hy => by subst e; exact ⟨v, _, rfl, h1, ShOK.append h2 hy⟩
  | .s t e ls :: a, _, _, _, ⟨v, w, e', h1, h2⟩, hy => by subst e'; exact ⟨v, _, rfl, h1, ShOK.append h2 hy⟩
theorem ShOK.leafs {H : Heap} : ∀ {ls : List LeafK} {vs : List Value}, LeafsOK ls vs → ShOK H (ls.map .l) vs
  | [], vs, h => leaf_nil h
  | k :: ls, [], h => by have := LeafsOK.length h; cases this
  | k :: ls, v :: vs, h => by
    cases k with
    | s => obtain ⟨a, r, e, h1, h2⟩ := leaf_s h; cases e; exact ⟨_, _, rfl, ⟨⟨a, rfl, h1⟩, trivial⟩, ShOK.leafs h2⟩
    | i k => obtain ⟨a, r, e, h1, h2⟩ := leaf_i h; cases e; exact ⟨_, _, rfl, ⟨⟨a, rfl, h1⟩, trivial⟩, ShOK.leafs h2⟩
    | b => obtain ⟨a, r, e, h2⟩ := leaf_b h; cases e; exact ⟨_, _, rfl, ⟨⟨a, rfl⟩, trivial⟩, ShOK.leafs h2⟩
def shF (P : Program) (rec : TypeId → Option (List Sh)) : List Field → Nat → Option (List Sh)
  | [], _ => some []
  | f :: fs, off => match rec f.type with
    | some ls => if f.offset = off ∧ P.cellsOf f.type = ls.length then
        match shF P rec fs (off + ls.length) with
        | some r => some (ls ++ r)
        | none => none
      else none
    | none => none
def shI (P : Program) : Nat → TypeId → Option (List Sh)
  | 0, _ => none
  | d + 1, t => match leafI P 20 t with
    | some ls => some (ls.map .l)
    | none => match P.underlying t with
      | some (.slice e) => match leafI P 20 e with
        | some ls => if P.cellsOf e = ls.length then some [.s t e ls] else none
        | none => none
      | some (.struct fs) => match shF P (shI P d) fs.toList 0 with
        | some ls => if P.cellsOf t = ls.length then some ls else none
        | none => none
      | _ => none
section
variable {P : Program} {H : Type} {enc : TypeId × Value → H} {W : World} {held : Bool}
def CellsOK (P : Program) (W : World) (b0 : Nat) (shs : List Sh) (cs : List Value) : Prop := ∀ (i : Nat) t e ls v, shs[i]? = some (.s t e ls) → cs[i]? = some v → Cell.okWide P W .any b0 t v
theorem sh_of_trod {b0 : Nat} : ∀ (d : Nat) {t : TypeId} {ls : List Sh}, shI P d t = some ls → ∀ {fuel : Nat} {cs : List Value} {x : DataW H × List MemPlace},
    DataW.trod enc P W 0 (fun _ => true) held fuel t cs = some x → CellsOK P W b0 ls cs → ShOK (hp W) ls cs ∧ cs.length = ls.length
  | 0, _, _, h, _, _, _, _, _ => by cases h
  | d + 1, t, ls, h, fuel, cs, x, hx, hok => by
    have ih := @sh_of_trod b0 d
    rw [shI] at h
    cases hlf : leafI P 20 t with
    | some l0 =>
      rw [hlf] at h; cases h
      have h1 := (leaf_of_trod 20 hlf hx).1
      exact ⟨ShOK.leafs h1, by rw [h1.length, List.length_map]⟩
    | none =>
      rw [hlf] at h
      simp only at h
      cases hu : P.underlying t with
      | none => rw [hu] at h; cases h
      | some ds =>
        rw [hu] at h
        cases ds <;> first | (cases h; done) | skip
        · rename_i e
          simp only at h
          split at h
          · rename_i l1 hl1
            split at h
            · rename_i hc
              cases h
              have hone : ∃ v, cs = [v] := by
                rcases Deep.open_slice hu hx with ⟨h1, _⟩ | ⟨a, len, cap, _, _, _, _, h1, _⟩
                · exact ⟨_, h1⟩
                · exact ⟨_, h1⟩
              obtain ⟨v, rfl⟩ := hone
              have h0 : Cell.okWide P W .any b0 t v := hok 0 t e l1 v rfl rfl
              have hval : Value.okWide P W .any b0 t v := by unfold Value.okWide; rw [hu]; exact h0
              have hcl : v.cells = #[v] := by
                rcases Deep.open_slice hu hx with ⟨h1, _⟩ | ⟨a, len, cap, _, _, _, _, h1, _⟩
                · cases h1; rfl
                · cases h1; rfl
              have hd : DataW.Trod enc P W 0 (fun _ => true) held t v x.1 x.2 := ⟨fuel, by rw [hcl]; exact hx⟩
              exact ⟨⟨v, [], rfl, open_sl hu hl1 hc hval hd, rfl⟩, rfl⟩
            · cases h
          · cases h
        · rename_i fs
          simp only at h
          cases fuel with
          | zero => simp [DataW.trod] at hx
          | succ fuel =>
          unfold DataW.trod at hx
          rw [hu] at hx
          simp only at hx
          split at h
          · rename_i l1 hl1
            split at h
            · rename_i hc
              cases h
              split at hx
              · rename_i hlen
                obtain ⟨xs, hxs, rfl⟩ := Option.map_eq_some_iff.1 hx
                obtain ⟨_, _, hall, hback⟩ := mapM_all hxs
                have gen : ∀ (fl : List Field) (off : Nat) (ls : List Sh), (∀ f ∈ fl, f ∈ fs.toList) → shF P (shI P d) fl off = some ls → (∀ (i : Nat) t e l v, ls[i]? = some (.s t e l) → cs[off + i]? = some v → Cell.okWide P W .any b0 t v) →
                    ShOK (hp W) ls ((cs.drop off).take ls.length) := by
                  intro fl
                  induction fl with
                  | nil => intro off ls _ h _; cases h; simp [ShOK]
                  | cons f fl ihf =>
                    intro off ls hm h hk
                    simp only [shF] at h
                    split at h
                    · rename_i l2 hl2
                      split at h
                      · rename_i hc2
                        obtain ⟨rfl, hc3⟩ := hc2
                        split at h
                        · rename_i r hr
                          cases h
                          have g1 := ihf _ _ (fun g hg => hm g (List.mem_cons_of_mem _ hg)) hr fun i t e l v h1 h2 => hk (l2.length + i) t e l v (by rw [List.getElem?_append_right (by omega)]; simpa using h1) (by rw [← h2]; congr 1; omega)
                          rw [List.length_append, take_split]
                          refine ShOK.append ?_ g1
                          obtain ⟨y, hy, _⟩ := hall f (hm f (List.mem_cons_self ..))
                          rw [← hc3]
                          refine (ih hl2 hy fun i t e l v h1 h2 => ?_).1
                          have hlt : i < l2.length := by
                            rcases Nat.lt_or_ge i l2.length with h | h
                            · exact h
                            · rw [List.getElem?_eq_none h] at h1; cases h1
                          refine hk i t e l v (by rw [List.getElem?_append_left hlt]; exact h1) ?_
                          rw [List.getElem?_take_of_lt (by omega), List.getElem?_drop] at h2
                          exact h2
                        · cases h
                      · cases h
                    · cases h
                have g1 := gen fs.toList 0 _ (fun _ h => h) hl1 fun i t e l v h1 h2 => hok i t e l v h1 (by rw [← h2]; congr 1; omega)
                have hcl : cs.length = ls.length := by rw [← hc, ← hlen]
                rw [List.drop_zero, ← hcl, List.take_length] at g1
                exact ⟨g1, hcl⟩
              · cases hx
            · cases h
          · cases h
def shTy : List Sh → List TypeId → Bool
  | [], [] => true
  | .l _ :: r, _ :: ts => shTy r ts
  | .s t _ _ :: r, u :: ts => Nat.beq t u && shTy r ts
  | _, _ => false
theorem shTy_spec : ∀ {shs : List Sh} {ts : List TypeId}, shTy shs ts = true → shs.length = ts.length ∧ ∀ (i : Nat) t e ls, shs[i]? = some (.s t e ls) → ts[i]? = some t
  | [], [], _ => ⟨rfl, fun i t e ls h => by simp at h⟩
  | [], _ :: _, h => by cases h
  | .l _ :: _, [], h => by cases h
  | .s .. :: _, [], h => by cases h
  | .l k :: r, u :: ts, h => by
    obtain ⟨h1, h2⟩ := shTy_spec (shs := r) (ts := ts) h
    refine ⟨by simp [h1], fun i t e ls hi => ?_⟩
    cases i with
    | zero => simp at hi
    | succ i => simpa using h2 i t e ls (by simpa using hi)
  | .s t0 e0 l0 :: r, u :: ts, h => by
    simp only [shTy, Bool.and_eq_true] at h
    obtain ⟨h1, h2⟩ := shTy_spec (shs := r) (ts := ts) h.2
    refine ⟨by simp [h1], fun i t e ls hi => ?_⟩
    cases i with
    | zero =>
      simp only [List.getElem?_cons_zero, Option.some.injEq, Sh.s.injEq] at hi
      have := Nat.eq_of_beq_eq_true h.1
      simp only [List.getElem?_cons_zero, Option.some.injEq]
      rw [← hi.1, this]
    | succ i => simpa using h2 i t e ls (by simpa using hi)
theorem open_st {t : TypeId} {fs : Array Field} {ls : List Sh} {tys : List TypeId} {b0 : Nat} {v : Value} {dd : DataW H} {ps : List MemPlace} (h : shI P 20 t = some ls) (hu : P.underlying t = some (.struct fs)) (hct : P.cellTypes P.depth t = some tys) (hst : shTy ls tys = true)
    (hval : Value.okWide P W .any b0 t v) (hd : DataW.Trod enc P W 0 (fun _ => true) held t v dd ps) : ∃ cs : List Value, v = .agg cs.toArray ∧ ShOK (hp W) ls cs := by
  obtain ⟨fuel, hf⟩ := hd
  unfold Value.okWide at hval
  rw [hu] at hval
  obtain ⟨cs, rfl, _, ts, hts, _, hcell⟩ := hval
  rw [hct] at hts
  cases hts
  obtain ⟨h1, h2⟩ := shTy_spec hst
  refine ⟨cs.toList, by simp, (sh_of_trod (b0 := b0) 20 h hf fun i t' e l v hi hv => ?_).1⟩
  have hlt : i < ls.length := by
    rcases Nat.lt_or_ge i ls.length with h | h
    · exact h
    · rw [List.getElem?_eq_none h] at hi; cases hi
  obtain ⟨u, hu1, hu2⟩ := hcell i v (by simpa [Value.cells] using hv)
  rw [Nat.mod_eq_of_lt (by omega), h2 i t' e l hi] at hu1
  cases hu1
  exact hu2
theorem sh_s {Hh : Heap} {t e : TypeId} {ls : List LeafK} {r : List Sh} {vs : List Value} (h : ShOK Hh (.s t e ls :: r) vs) : ∃ v w, vs = v :: w ∧ SlOK Hh e ls v ∧ ShOK Hh r w := h
end
end Go.V
namespace Go.Proofs.YtelaiancfbaalaaGreat.setsViews
open Go.ChangeShapes Go.WideShapes Go.ChangeAt Go.ChangeMaps Go.RowKit Go.V
theorem own : ownKnob Tryz.prog.godebug = none := by kernel_rfl
theorem laidOut : laidOutB Tryz.prog = true := by kernel_rfl
theorem lf0 : shI Tryz.prog 20 27 = some [.s 22 28 [.i .u8, .i .u8], .s 25 80 [.i .u8, .i .u8, .i .u8]] := by kernel_rfl
theorem lq0 : Tryz.prog.cellTypes Tryz.prog.depth 27 = some [22, 25] := by kernel_rfl
theorem lr1 : Tryz.prog.readableRec 27 = true := by kernel_rfl
theorem lt1 : 27 < Tryz.prog.types.size := of_decide_eq_true (by kernel_rfl)
theorem lf2 : leafI Tryz.prog 20 30 = some [.i .u8, .i .u8, .i .u8] := by kernel_rfl
theorem la2 : (match Tryz.prog.underlying 30 with | some (.struct _) | some (.array _ _) => true | _ => false) = true := by kernel_rfl
theorem lr3 : Tryz.prog.readableRec 30 = true := by kernel_rfl
theorem lt3 : 30 < Tryz.prog.types.size := of_decide_eq_true (by kernel_rfl)
theorem lf4 : leafI Tryz.prog 20 28 = some [.i .u8, .i .u8] := by kernel_rfl
theorem la4 : (match Tryz.prog.underlying 28 with | some (.struct _) | some (.array _ _) => true | _ => false) = true := by kernel_rfl
theorem lr5 : Tryz.prog.readableRec 28 = true := by kernel_rfl
theorem lt5 : 28 < Tryz.prog.types.size := of_decide_eq_true (by kernel_rfl)
set_option maxRecDepth 100000 in
theorem lifted (os : Os) (started : os.Started) (H : Type) (enc : TypeId × Value → H) :
    ReturnsInHanded {} Tryz.checked os 3 .any (Rows.setsViewsSpec.pre6 enc Tryz.prog Tryz.f3 Rows.setsViewsRow.domain false) (Rows.setsViewsSpec.post enc Tryz.prog Tryz.f3 false true false false) := by
  refine returnsInHanded_of_change_shaped (C := Tryz.checked) own started (by kernel_rfl) Tryz.func3
    (ChangeSpec.witness6 (enc := enc) (C := Tryz.checked) false ⟨#[], #[.agg #[.slice none 0 0, .slice none 0 0], .agg #[.int .u8 0, .int .u8 0, .int .u8 0], .agg #[.int .u8 0, .int .u8 0]], []⟩ 8 (by kernel_rfl) (by kernel_rfl) (by kernel_rfl) (by kernel_rfl)) ?_
  intro W base args ds gs before hval0 hW hcnd _ hsh _
  have hval : ∀ (j : Nat) t v, Tryz.f3.params[j]? = some t → args[j]? = some v → Value.okWide Tryz.prog W .any base t v := hval0
  have hW' := hW
  obtain ⟨p, q, hA0, hV, rfl, hfz, hnd⟩ := hW
  have hA : DataW.TrodAll enc Tryz.prog W 0 (fun _ => true) true Tryz.f3.params.toList args.toList ds p := hA0
  rw [Tryz.params3] at hA hval
  obtain ⟨v0, v1, v2, d0, d1, d2, p0, p1, p2, rfl, rfl, rfl, h0, h1, h2⟩ := trodAll_three hA
  obtain ⟨rfl, rfl⟩ := trodVars_none hV
  clear hA0 hval0
  obtain ⟨c0, rfl, l0⟩ := open_st lf0 Tryz.underlying27 lq0 rfl (hval 0 27 v0 rfl rfl) h0
  obtain ⟨wps, r0, rfl, ⟨ps, lps, zps, hps⟩, l0⟩ := sh_s l0
  obtain ⟨wcs, r0, rfl, ⟨cs, lcs, zcs, hcs⟩, l0⟩ := sh_s l0
  obtain rfl := l0
  obtain ⟨c1, rfl, l1, rfl⟩ := open_agg lf2 la2 (hval 1 30 v1 rfl rfl) h1
  obtain ⟨y0, r1, rfl, zy0, l1⟩ := leaf_i l1
  obtain ⟨y1, r1, rfl, zy1, l1⟩ := leaf_i l1
  obtain ⟨y2, r1, rfl, zy2, l1⟩ := leaf_i l1
  obtain rfl := leaf_nil l1
  obtain ⟨c2, rfl, l2, rfl⟩ := open_agg lf4 la4 (hval 2 28 v2 rfl rfl) h2
  obtain ⟨n0, r2, rfl, zn0, l2⟩ := leaf_i l2
  obtain ⟨n1, r2, rfl, zn1, l2⟩ := leaf_i l2
  obtain rfl := leaf_nil l2
  obtain ⟨m0, hm0⟩ := Tryz.laysM145.s1_3 W hsh
  have hglob := GlobM.of_cell hm0
  have hplc := hW'.lt
  simp only [List.append_nil] at hW'
  have hlaw := Go.V.L6.setsViews_in lps zps hps lcs zcs hcs hglob zy0 zy1 zy2 zn0 zn1
  unfold Ret at hlaw
  refine hlaw.mono fun e W' hp => ?_
  obtain ⟨v, rfl, H', g, rfl⟩ := hp
  refine ⟨_, rfl, _, _, _, [], p0 ++ ([] ++ ([] ++ ([]))), [], hW', trodAll_cons_mk (shut_bool Tryz.underlying4 _) trodAll_mk0, ?_, rfl, g.below.frame _, fun h => by cases h⟩
  exact trodAll_cons_mk (Below.trod laidOut lr1 lt1 h0 g.below (fun x hx => hplc x (by simp [hx]))) (trodAll_cons_mk (Below.trod laidOut lr3 lt3 h1 g.below (fun x hx => by cases hx)) (trodAll_cons_mk (Below.trod laidOut lr5 lt5 h2 g.below (fun x hx => by cases hx)) trodAll_mk0))
theorem proved : Rows.SetsViewsSaid :=
  OpenClaim.holds_of_wide 3 Tryz.f3 rfl rfl rfl rfl rfl rfl rfl ⟨rfl, rfl, rfl, rfl, rfl⟩ rfl rfl rfl rfl rfl (by kernel_rfl) Tryz.func3 (by kernel_rfl)
    (of_decide_eq_true (by kernel_rfl)) (by unfold Func.isWrapper; first | (rw [if_pos (by decide +kernel)]; kernel_rfl) | (rw [if_neg (by decide +kernel)]; exact ⟨rfl, rfl⟩))
    (fun os started H enc _ => lifted os started H enc)
#print axioms proved
end Go.Proofs.YtelaiancfbaalaaGreat.setsViews
