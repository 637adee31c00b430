/- MustsKnown returns true: no condition. -/
import Derived.Test.YtkmjfdeeahjfcaaMustsKnownM3
import Derived.Lib.IndexAny
import Derived.ProofKit
import Derived.HandedShaped
import Derived.OpenShut
import Derived.Carry
import Derived.Deep.Slices
import Derived.Test.YtkmjfdeeahjfcaaRows
set_option linter.unusedVariables false
set_option linter.unusedSimpArgs false
/- The walks of musts (chapter 8): writes. -/
namespace Go.V.L8
open Go.Proofs Go.RowKit Go.V Go.V.L2 Go.V.L3 Go.V.L6
theorem cE_all {n : Nat} {l : List CH} (h : cE n l = 0) : l.length ≤ n ∧ ∀ c ∈ l, tE c.1 = 0 := by
  unfold cE at h
  split at h
  · exact absurd h (by decide)
  · split at h
    · exact absurd h (by decide)
    · rename_i h1 h2
      refine ⟨by omega, fun c hc => ?_⟩
      by_cases h0 : tE c.1 = 0
      · exact h0
      · exact absurd (List.any_eq_true.2 ⟨c, hc, by simp [h0]⟩) h2
theorem tz_chk {s : ByteArray} (h : chk s = 0) : s.size ≤ 1099511627776 := by
  unfold chk at h
  split at h
  · rename_i h1; omega
  · exact absurd h (by decide)
theorem tz_valid {t : U} (h : tE t = 0) : TZ t := by
  unfold tE at h
  split at h
  · rename_i h1
    obtain ⟨c1, c2, c3⟩ := allE3 h1
    obtain ⟨d1, d2, d3⟩ := subjE_zero h
    refine ⟨⟨tz_chk c1, tz_chk c2, tz_chk c3⟩, tz_chk d1, tz_chk d2, ?_⟩
    rcases d3 with d3 | d3
    · rw [d3]; exact Nat.zero_le _
    · exact tz_chk d3
  · rename_i h1; exact absurd h h1
/-- What Write gives. -/
def WriteP (t : List U) (made : List CH) (e : Int) (r : Value) (H : Heap) : Prop := ∃ tv mv, r = .tuple #[tv, mv, .int .i64 e] ∧ SetV t tv H ∧ KS tyC made true mv H
theorem WriteP.mono {t : List U} {made : List CH} {e : Int} : Kn.mono (.sat (WriteP t made e)) := fun _ _ _ ⟨tv, mv, h1, h2, h3⟩ hle => ⟨tv, mv, h1, h2.le hle, h3.le hle⟩
attribute [local irreducible] V N X VO Par StepOK Has Ret RetL RetO RetT Src
theorem clipC_ret {l : List CH} {fu : Bool} {v : Value} {w : World} {B : Heap} (hB : B.Le (hp w)) (hv : KS tyC l fu v B) : Ret Try.prog 64 [v] w B (KS tyC l true) := by
  refine V_enter Try.func64 rfl Try.ntmps64 (Nat.le_of_ble_eq_true rfl) hB ?_
  refine V_seen 0 (KS tyC l fu) rfl SlV.mono hv ?_
  refine V_seq ?_; refine V_region (id := 0) ?_; refine vo_step (ok_assign rfl rfl rfl) rfl ?_; refine vo_nil ?_; refine N_seq ?_; refine V_seq ?_; refine V_region (id := 1) ?_; refine vo_step (ok_moves' rfl rfl rfl) rfl ?_; refine vo_step (ok_moves' rfl rfl rfl) rfl ?_; refine vo_step (ok_lenV L rfl rfl rfl rfl) rfl ?_; refine vo_step (ok_moves' rfl rfl rfl) rfl ?_; refine vo_step (ok_lenV L rfl rfl rfl rfl) rfl ?_; refine vo_step (ok_clipV L rfl rfl rfl rfl rfl rfl rfl) rfl ?_; refine vo_step (ok_assigns' rfl rfl rfl) rfl ?_; refine vo_nil ?_; refine N_seq ?_
  refine V_ret L (rs := [.tmp 2]) rfl (fun _ _ h => h) Since.refl fun u H hH hle => ?_
  exact fun v hv => hv
set_option maxHeartbeats 4000000 in
set_option maxRecDepth 10000 in
theorem write_ret {s t : List U} {l cs made : List CH} {fl fc : Bool} {e : Int} (zl : ∀ c ∈ l, TM c.1) (zc : ∀ c ∈ cs, TM c.1) (ll : l.length ≤ 9223372036854775807) (lc : cs.length ≤ 9223372036854775807) (hsl : s.length ≤ 4096) (hr : writeR s l cs = (t, made, e)) {sv lv cv : Value} {w : World} {B : Heap} (hB : B.Le (hp w))
    (hs : SetV s sv B) (hl : KS tyM l fl lv B) (hc : KS tyC cs fc cv B) : Ret Try.prog 23 [sv, lv, cv] w B (WriteP t made e) := by
  obtain ⟨f1, p1, f2, q1, rfl, hpl⟩ := hs.shape
  refine V_enter Try.func23 rfl Try.ntmps23 (Nat.le_of_ble_eq_true rfl) hB ?_
  refine V_seen 1 (KS tyM l fl) rfl SlV.mono hl ?_
  refine V_seen 2 (KS tyC cs fc) rfl SlV.mono hc ?_
  unfold writeR at hr
  by_cases h1 : cE 32 l = 0
  · rw [if_pos h1] at hr
    by_cases h2 : cE 32 cs = 0
    · rw [if_pos h2] at hr
      obtain ⟨r, e1, hf⟩ : ∃ r e1, firstR s l = (r, e1) := ⟨_, _, rfl⟩
      rw [hf] at hr
      dsimp only at hr
      by_cases h3 : e1 = 0
      · subst h3
        rw [if_pos rfl] at hr
        obtain ⟨l32, hval⟩ := cE_all h2
        refine V_seq ?_; refine V_region (id := 0) ?_; refine vo_step (ok_boxR rfl rfl rfl rfl) rfl ?_; refine vo_step (ok_alloc L rfl rfl rfl rfl) rfl ?_; refine vo_step (ok_assign rfl rfl rfl) rfl ?_; refine vo_step (ok_assign rfl rfl rfl) rfl ?_; refine vo_nil ?_; refine N_seq ?_; refine V_seq ?_; refine V_seq ?_; refine V_region (id := 1) ?_; refine vo_step (ok_moves' rfl rfl rfl) rfl ?_; refine vo_step (ok_callx L rfl rfl (blt_lt rfl) rfl rfl rfl (fun u H hH _ _ v1 g1 => mchk_ret zl ll h1 hH g1)) rfl ?_; refine vo_step (ok_assign rfl rfl rfl) rfl ?_; refine vo_nil ?_; refine N_seq ?_; refine V_seq ?_; refine V_region (id := 2) ?_; refine vo_step (ok_move rfl rfl rfl) rfl ?_; refine vo_step (ok_neq rfl rfl rfl rfl (decide_eq_false (by omega))) rfl ?_; refine vo_nil ?_; refine N_seq ?_; refine V_false rfl ?_; refine V_skip ?_; refine N_seq ?_; refine V_seq ?_; refine V_seq ?_; refine V_region (id := 4) ?_; refine vo_step (ok_moves' rfl rfl rfl) rfl ?_; refine vo_step (ok_callx L rfl rfl (blt_lt rfl) rfl rfl rfl (fun u H hH _ _ v1 g1 => cchk_ret zc lc h2 hH g1)) rfl ?_; refine vo_step (ok_assign rfl rfl rfl) rfl ?_; refine vo_nil ?_; refine N_seq ?_; refine V_seq ?_; refine V_region (id := 5) ?_; refine vo_step (ok_move rfl rfl rfl) rfl ?_; refine vo_step (ok_neq rfl rfl rfl rfl (decide_eq_false (by omega))) rfl ?_; refine vo_nil ?_; refine N_seq ?_; refine V_false rfl ?_; refine V_skip ?_; refine N_seq ?_; refine V_seq ?_; refine V_seq ?_; refine V_region (id := 7) ?_; refine vo_step (ok_loadA L (vs := [_, _, _, _]) (src_own rfl) rfl rfl rfl rfl ⟨_, rfl⟩) rfl ?_; refine vo_step (ok_moves' rfl rfl rfl) rfl ?_; refine vo_step (ok_callx L rfl rfl (blt_lt rfl) rfl rfl rfl (fun u H hH hle _ v1 g1 => first_ret zl ll hf hH (hs.le hle) g1)) rfl ?_; refine vo_step (ok_move rfl rfl rfl) rfl ?_; refine vo_step (ok_extract rfl rfl rfl rfl) rfl ?_; refine vo_step (ok_extract rfl rfl rfl rfl) rfl ?_; refine vo_step (ok_assign rfl rfl rfl) rfl ?_; refine vo_step (ok_assign rfl rfl rfl) rfl ?_; refine vo_nil ?_; refine N_seq ?_; refine V_seq ?_; refine V_region (id := 8) ?_; refine vo_step (ok_move rfl rfl rfl) rfl ?_; refine vo_step (ok_neq rfl rfl rfl rfl (decide_eq_false (by omega))) rfl ?_; refine vo_nil ?_; refine N_seq ?_; refine V_false rfl ?_; refine V_skip ?_; refine N_seq ?_; refine V_seq ?_; refine V_seq ?_; refine V_region (id := 10) ?_; refine vo_step (ok_moves' rfl rfl rfl) rfl ?_; refine vo_step (ok_lenV L rfl rfl rfl rfl) rfl ?_; refine vo_step (ok_move rfl rfl rfl) rfl ?_; refine vo_nil ?_; refine N_seq ?_; refine V_block ?_
        refine V_clsX (X := SXp) 3 (r := fun x => Cell (scs x.1) tySet) (φ := sphi s) (sphi_mono s) ⟨(f1, p1, f2, q1), hpl⟩ hs rfl ?_
        refine V_nilR 7 tyC 7 rfl ?_
        refine V_loop (fun y : Nat × List U × List CH => [(3, .own (ExR (fun x : SXp => Cell (scs x.1) tySet) (sphi y.2.1) (sphi_mono y.2.1))), (6, .own (Cell [.nilFunc, .pointer none, .nilFunc, .pointer none] tySet)), (7, .own (SlR tyC 7 y.2.2.length (y.2.2.flatMap ccs))), (40, .sat (KS tyC cs fc)), (41, .is (.int .i64 cs.length)), (42, .is (.int .i64 y.1))])
          (fun y => y.1 ≤ cs.length ∧ writeL y.2.1 y.2.2 (cs.drop y.1) = (t, made, e) ∧ y.2.1.length ≤ 4096 ∧ y.2.2.length ≤ y.1) (fun y => cs.length - y.1) (0, s, []) ⟨Nat.zero_le _, hr, hsl, Nat.le_refl _⟩ ⟨rfl, rfl, rfl, rfl, rfl, rfl, trivial⟩ ?_
        clear hr hs hsl
        rintro ⟨k, s, md⟩ ⟨hk, he, hsl, hmd⟩
        dsimp only at hk he hsl hmd ⊢
        refine V_opnX 3 rfl fun ⟨⟨f1, p1, f2, q1⟩, hpl⟩ H3 hs3 hT => ?_
        have hT : SetV s (.agg #[f1, .pointer p1, f2, .pointer q1]) H3 := hT
        by_cases hlt : k < cs.length
        · obtain ⟨c, hc0⟩ := get_some hlt
          have hc := ks_at hc0
          have hv := hval c (List.mem_of_getElem? hc0)
          have hzt := tz_valid hv
          rw [drop_g hc0, writeL] at he
          obtain ⟨x, d⟩ := c
          dsimp only at hc hv hzt he
          rcases hw : withU s x d with ⟨s', e'⟩
          rw [hw] at he
          dsimp only at he
          have hsl' := withU_len hsl x d
          rw [hw] at hsl'
          obtain ⟨i, hin⟩ : ∃ i, decide (x ∈ s) = i := ⟨_, rfl⟩
          rw [hin] at he
          by_cases h0 : e' = 0
          · rw [if_pos h0] at he
            subst h0
            cases i <;> cases d
            · rw [if_pos rfl] at he
              refine V_seq ?_; refine V_region (id := 11) ?_; refine vo_step (ok_lss rfl rfl rfl rfl (decide_eq_true (by omega))) rfl ?_; refine vo_nil ?_; refine N_seq ?_; refine V_seq ?_; refine V_true rfl ?_; refine V_skip ?_; refine N_seq ?_; refine V_seq ?_; refine V_block ?_; refine V_seq ?_; refine V_region (id := 12) ?_; refine vo_step (ok_indexV L _ rfl rfl rfl rfl rfl rfl rfl (by first | omega | decide) (by assumption)) rfl ?_; refine vo_step (ok_loadPA L (vs := [_, _, _, _, _, _, _]) rfl rfl rfl rfl rfl ⟨_, rfl⟩) rfl ?_; refine vo_step (ok_alloc L rfl rfl rfl rfl) rfl ?_; refine vo_step (ok_store L rfl rfl rfl rfl rfl rfl rfl rfl) rfl ?_; refine vo_nil ?_; refine N_seq ?_; refine V_seq ?_
              refine V_box 14 rfl fun b14 hb14 => ?_
              refine V_regionD (id := 13) [] mixed (by kernel_rfl) ?_; refine par_step (ok_loadA L (vs := [_, _, _, _]) (src_own rfl) rfl rfl rfl rfl ⟨_, rfl⟩) rfl ?_; refine par_step (ok_fieldP L rfl rfl rfl rfl) rfl ?_; refine par_step (ok_loadA L (vs := [_, _, _, _, _, _]) (src_box rfl (List.Mem.head _)) rfl rfl rfl rfl ⟨_, rfl⟩) rfl ?_; refine par_step (ok_callx L rfl rfl (blt_lt rfl) rfl rfl rfl (fun u H hH hle _ => shas_ret hin hH (hT.le hle))) rfl ?_; refine par_step (ok_fieldP L rfl rfl rfl rfl) rfl ?_; refine par_step (ok_load1 L (src_box rfl (List.Mem.head _)) rfl rfl rfl rfl) rfl ?_; refine par_step (ok_beql rfl rfl rfl rfl bt4 rfl) rfl ?_; refine par_step (ok_assign rfl rfl rfl) rfl ?_; refine par_nil ?_; refine N_seq ?_; refine V_seq ?_; refine V_region (id := 14) ?_; refine vo_step (ok_loadA L (vs := [_, _, _, _]) (src_own rfl) rfl rfl rfl rfl ⟨_, rfl⟩) rfl ?_; refine vo_step (ok_loadA L (vs := [_, _, _, _, _, _, _]) (src_box rfl (List.Mem.head _)) rfl rfl rfl rfl ⟨_, rfl⟩) rfl ?_; refine vo_step (ok_call (φ := WithP s' 0) L rfl rfl (blt_lt rfl) rfl rfl rfl WithP.mono (fun u H hH hle _ => with_p hw hsl hzt hH (hT.le hle))) rfl ?_; refine vo_opn 56 rfl ?_; rintro _ H19 hs19 ⟨tv, rfl, hT19⟩; obtain ⟨g1, r1, g2, r2, rfl, hpl2⟩ := hT19.shape; refine vo_step (ok_move rfl rfl rfl) rfl ?_; refine vo_step (ok_extract rfl rfl rfl rfl) rfl ?_; refine vo_step (ok_extract rfl rfl rfl rfl) rfl ?_; refine vo_step (ok_alloc L rfl rfl rfl rfl) rfl ?_; refine vo_step (ok_store L rfl rfl rfl rfl rfl rfl (by assumption) rfl) rfl ?_; refine vo_step (ok_assign rfl rfl rfl) rfl ?_; refine vo_nil ?_; refine N_seq ?_; refine V_seq ?_; refine V_seq ?_; refine V_region (id := 15) ?_; refine vo_step (ok_move rfl rfl rfl) rfl ?_; refine vo_step (ok_neq rfl rfl rfl rfl (decide_eq_false (by omega))) rfl ?_; refine vo_nil ?_; refine N_seq ?_; refine V_false rfl ?_; refine V_skip ?_; refine N_seq ?_; refine V_seq ?_; refine V_region (id := 17) ?_; refine vo_step (ok_loadA L (vs := [_, _, _, _]) (src_own rfl) rfl rfl rfl rfl ⟨_, rfl⟩) rfl ?_; refine vo_step (ok_store L rfl rfl rfl rfl rfl rfl (by assumption) rfl) rfl ?_; refine vo_nil ?_; refine N_seq ?_; refine V_seq ?_; refine V_region (id := 18) ?_; refine vo_step (ok_move rfl rfl rfl) rfl ?_; refine vo_nil ?_; refine N_seq ?_; refine V_true rfl ?_; refine V_region (id := 19) ?_; refine vo_step2 (ok_moveO (.inl rfl) rfl rfl rfl rfl) ?_; refine vo_step (ok_loadA L (vs := [_, _, _, _, _, _, _]) (src_box rfl (List.Mem.head _)) rfl rfl rfl rfl ⟨_, rfl⟩) rfl ?_; refine vo_step (ok_buildSlice L rfl rfl rfl rfl rfl rfl rfl rfl rfl) rfl ?_; refine vo_step2 (ok_append L rfl rfl rfl (apd_B rfl) rfl el67 rfl rfl (by omega) (by omega)) ?_; refine vo_step2 (ok_moveO (.inr rfl) rfl rfl rfl rfl) ?_; refine vo_nil ?_; refine N_block ?_; refine N_seq ?_
              refine V_drop (O' := []) (List.nil_sublist _) ?_
              refine V_region (id := 20) ?_; refine vo_step (ok_add rfl rfl rfl rfl (wrap_i64 (by omega) (by omega))) rfl ?_; refine vo_step (ok_move rfl rfl rfl) rfl ?_; refine vo_nil ?_
              refine N_clsX (X := SXp) 3 (r := fun x => Cell (scs x.1) tySet) (φ := sphi s') (sphi_mono _) ⟨(g1, r1, g2, r2), hpl2⟩ hT19 rfl ?_
              exact N_roundS (x := (k, s, md)) (k + 1, s', md ++ [(x, false)]) (hs3.trans hs19) ⟨hlt, he, hsl', by dsimp only; rw [List.length_append]; show md.length + 1 ≤ k + 1; omega⟩ (by dsimp only; omega) ⟨rfl, rfl, ks_snoc rfl, rfl, rfl, rfl, trivial⟩
            · rw [if_neg (by decide)] at he
              refine V_seq ?_; refine V_region (id := 11) ?_; refine vo_step (ok_lss rfl rfl rfl rfl (decide_eq_true (by omega))) rfl ?_; refine vo_nil ?_; refine N_seq ?_; refine V_seq ?_; refine V_true rfl ?_; refine V_skip ?_; refine N_seq ?_; refine V_seq ?_; refine V_block ?_; refine V_seq ?_; refine V_region (id := 12) ?_; refine vo_step (ok_indexV L _ rfl rfl rfl rfl rfl rfl rfl (by first | omega | decide) (by assumption)) rfl ?_; refine vo_step (ok_loadPA L (vs := [_, _, _, _, _, _, _]) rfl rfl rfl rfl rfl ⟨_, rfl⟩) rfl ?_; refine vo_step (ok_alloc L rfl rfl rfl rfl) rfl ?_; refine vo_step (ok_store L rfl rfl rfl rfl rfl rfl rfl rfl) rfl ?_; refine vo_nil ?_; refine N_seq ?_; refine V_seq ?_
              refine V_box 14 rfl fun b14 hb14 => ?_
              refine V_regionD (id := 13) [] mixed (by kernel_rfl) ?_; refine par_step (ok_loadA L (vs := [_, _, _, _]) (src_own rfl) rfl rfl rfl rfl ⟨_, rfl⟩) rfl ?_; refine par_step (ok_fieldP L rfl rfl rfl rfl) rfl ?_; refine par_step (ok_loadA L (vs := [_, _, _, _, _, _]) (src_box rfl (List.Mem.head _)) rfl rfl rfl rfl ⟨_, rfl⟩) rfl ?_; refine par_step (ok_callx L rfl rfl (blt_lt rfl) rfl rfl rfl (fun u H hH hle _ => shas_ret hin hH (hT.le hle))) rfl ?_; refine par_step (ok_fieldP L rfl rfl rfl rfl) rfl ?_; refine par_step (ok_load1 L (src_box rfl (List.Mem.head _)) rfl rfl rfl rfl) rfl ?_; refine par_step (ok_beql rfl rfl rfl rfl bt4 rfl) rfl ?_; refine par_step (ok_assign rfl rfl rfl) rfl ?_; refine par_nil ?_; refine N_seq ?_; refine V_seq ?_; refine V_region (id := 14) ?_; refine vo_step (ok_loadA L (vs := [_, _, _, _]) (src_own rfl) rfl rfl rfl rfl ⟨_, rfl⟩) rfl ?_; refine vo_step (ok_loadA L (vs := [_, _, _, _, _, _, _]) (src_box rfl (List.Mem.head _)) rfl rfl rfl rfl ⟨_, rfl⟩) rfl ?_; refine vo_step (ok_call (φ := WithP s' 0) L rfl rfl (blt_lt rfl) rfl rfl rfl WithP.mono (fun u H hH hle _ => with_p hw hsl hzt hH (hT.le hle))) rfl ?_; refine vo_opn 56 rfl ?_; rintro _ H19 hs19 ⟨tv, rfl, hT19⟩; obtain ⟨g1, r1, g2, r2, rfl, hpl2⟩ := hT19.shape; refine vo_step (ok_move rfl rfl rfl) rfl ?_; refine vo_step (ok_extract rfl rfl rfl rfl) rfl ?_; refine vo_step (ok_extract rfl rfl rfl rfl) rfl ?_; refine vo_step (ok_alloc L rfl rfl rfl rfl) rfl ?_; refine vo_step (ok_store L rfl rfl rfl rfl rfl rfl (by assumption) rfl) rfl ?_; refine vo_step (ok_assign rfl rfl rfl) rfl ?_; refine vo_nil ?_; refine N_seq ?_; refine V_seq ?_; refine V_seq ?_; refine V_region (id := 15) ?_; refine vo_step (ok_move rfl rfl rfl) rfl ?_; refine vo_step (ok_neq rfl rfl rfl rfl (decide_eq_false (by omega))) rfl ?_; refine vo_nil ?_; refine N_seq ?_; refine V_false rfl ?_; refine V_skip ?_; refine N_seq ?_; refine V_seq ?_; refine V_region (id := 17) ?_; refine vo_step (ok_loadA L (vs := [_, _, _, _]) (src_own rfl) rfl rfl rfl rfl ⟨_, rfl⟩) rfl ?_; refine vo_step (ok_store L rfl rfl rfl rfl rfl rfl (by assumption) rfl) rfl ?_; refine vo_nil ?_; refine N_seq ?_; refine V_seq ?_; refine V_region (id := 18) ?_; refine vo_step (ok_move rfl rfl rfl) rfl ?_; refine vo_nil ?_; refine N_seq ?_; refine V_false rfl ?_; refine V_skip ?_; refine N_block ?_; refine N_seq ?_
              refine V_drop (O' := []) (List.nil_sublist _) ?_
              refine V_region (id := 20) ?_; refine vo_step (ok_add rfl rfl rfl rfl (wrap_i64 (by omega) (by omega))) rfl ?_; refine vo_step (ok_move rfl rfl rfl) rfl ?_; refine vo_nil ?_
              refine N_clsX (X := SXp) 3 (r := fun x => Cell (scs x.1) tySet) (φ := sphi s') (sphi_mono _) ⟨(g1, r1, g2, r2), hpl2⟩ hT19 rfl ?_
              exact N_roundS (x := (k, s, md)) (k + 1, s', md) (hs3.trans hs19) ⟨hlt, he, hsl', by dsimp only; omega⟩ (by dsimp only; omega) ⟨rfl, rfl, rfl, rfl, rfl, rfl, trivial⟩
            · rw [if_neg (by decide)] at he
              refine V_seq ?_; refine V_region (id := 11) ?_; refine vo_step (ok_lss rfl rfl rfl rfl (decide_eq_true (by omega))) rfl ?_; refine vo_nil ?_; refine N_seq ?_; refine V_seq ?_; refine V_true rfl ?_; refine V_skip ?_; refine N_seq ?_; refine V_seq ?_; refine V_block ?_; refine V_seq ?_; refine V_region (id := 12) ?_; refine vo_step (ok_indexV L _ rfl rfl rfl rfl rfl rfl rfl (by first | omega | decide) (by assumption)) rfl ?_; refine vo_step (ok_loadPA L (vs := [_, _, _, _, _, _, _]) rfl rfl rfl rfl rfl ⟨_, rfl⟩) rfl ?_; refine vo_step (ok_alloc L rfl rfl rfl rfl) rfl ?_; refine vo_step (ok_store L rfl rfl rfl rfl rfl rfl rfl rfl) rfl ?_; refine vo_nil ?_; refine N_seq ?_; refine V_seq ?_
              refine V_box 14 rfl fun b14 hb14 => ?_
              refine V_regionD (id := 13) [] mixed (by kernel_rfl) ?_; refine par_step (ok_loadA L (vs := [_, _, _, _]) (src_own rfl) rfl rfl rfl rfl ⟨_, rfl⟩) rfl ?_; refine par_step (ok_fieldP L rfl rfl rfl rfl) rfl ?_; refine par_step (ok_loadA L (vs := [_, _, _, _, _, _]) (src_box rfl (List.Mem.head _)) rfl rfl rfl rfl ⟨_, rfl⟩) rfl ?_; refine par_step (ok_callx L rfl rfl (blt_lt rfl) rfl rfl rfl (fun u H hH hle _ => shas_ret hin hH (hT.le hle))) rfl ?_; refine par_step (ok_fieldP L rfl rfl rfl rfl) rfl ?_; refine par_step (ok_load1 L (src_box rfl (List.Mem.head _)) rfl rfl rfl rfl) rfl ?_; refine par_step (ok_beql rfl rfl rfl rfl bt4 rfl) rfl ?_; refine par_step (ok_assign rfl rfl rfl) rfl ?_; refine par_nil ?_; refine N_seq ?_; refine V_seq ?_; refine V_region (id := 14) ?_; refine vo_step (ok_loadA L (vs := [_, _, _, _]) (src_own rfl) rfl rfl rfl rfl ⟨_, rfl⟩) rfl ?_; refine vo_step (ok_loadA L (vs := [_, _, _, _, _, _, _]) (src_box rfl (List.Mem.head _)) rfl rfl rfl rfl ⟨_, rfl⟩) rfl ?_; refine vo_step (ok_call (φ := WithP s' 0) L rfl rfl (blt_lt rfl) rfl rfl rfl WithP.mono (fun u H hH hle _ => with_p hw hsl hzt hH (hT.le hle))) rfl ?_; refine vo_opn 56 rfl ?_; rintro _ H19 hs19 ⟨tv, rfl, hT19⟩; obtain ⟨g1, r1, g2, r2, rfl, hpl2⟩ := hT19.shape; refine vo_step (ok_move rfl rfl rfl) rfl ?_; refine vo_step (ok_extract rfl rfl rfl rfl) rfl ?_; refine vo_step (ok_extract rfl rfl rfl rfl) rfl ?_; refine vo_step (ok_alloc L rfl rfl rfl rfl) rfl ?_; refine vo_step (ok_store L rfl rfl rfl rfl rfl rfl (by assumption) rfl) rfl ?_; refine vo_step (ok_assign rfl rfl rfl) rfl ?_; refine vo_nil ?_; refine N_seq ?_; refine V_seq ?_; refine V_seq ?_; refine V_region (id := 15) ?_; refine vo_step (ok_move rfl rfl rfl) rfl ?_; refine vo_step (ok_neq rfl rfl rfl rfl (decide_eq_false (by omega))) rfl ?_; refine vo_nil ?_; refine N_seq ?_; refine V_false rfl ?_; refine V_skip ?_; refine N_seq ?_; refine V_seq ?_; refine V_region (id := 17) ?_; refine vo_step (ok_loadA L (vs := [_, _, _, _]) (src_own rfl) rfl rfl rfl rfl ⟨_, rfl⟩) rfl ?_; refine vo_step (ok_store L rfl rfl rfl rfl rfl rfl (by assumption) rfl) rfl ?_; refine vo_nil ?_; refine N_seq ?_; refine V_seq ?_; refine V_region (id := 18) ?_; refine vo_step (ok_move rfl rfl rfl) rfl ?_; refine vo_nil ?_; refine N_seq ?_; refine V_false rfl ?_; refine V_skip ?_; refine N_block ?_; refine N_seq ?_
              refine V_drop (O' := []) (List.nil_sublist _) ?_
              refine V_region (id := 20) ?_; refine vo_step (ok_add rfl rfl rfl rfl (wrap_i64 (by omega) (by omega))) rfl ?_; refine vo_step (ok_move rfl rfl rfl) rfl ?_; refine vo_nil ?_
              refine N_clsX (X := SXp) 3 (r := fun x => Cell (scs x.1) tySet) (φ := sphi s') (sphi_mono _) ⟨(g1, r1, g2, r2), hpl2⟩ hT19 rfl ?_
              exact N_roundS (x := (k, s, md)) (k + 1, s', md) (hs3.trans hs19) ⟨hlt, he, hsl', by dsimp only; omega⟩ (by dsimp only; omega) ⟨rfl, rfl, rfl, rfl, rfl, rfl, trivial⟩
            · rw [if_pos rfl] at he
              refine V_seq ?_; refine V_region (id := 11) ?_; refine vo_step (ok_lss rfl rfl rfl rfl (decide_eq_true (by omega))) rfl ?_; refine vo_nil ?_; refine N_seq ?_; refine V_seq ?_; refine V_true rfl ?_; refine V_skip ?_; refine N_seq ?_; refine V_seq ?_; refine V_block ?_; refine V_seq ?_; refine V_region (id := 12) ?_; refine vo_step (ok_indexV L _ rfl rfl rfl rfl rfl rfl rfl (by first | omega | decide) (by assumption)) rfl ?_; refine vo_step (ok_loadPA L (vs := [_, _, _, _, _, _, _]) rfl rfl rfl rfl rfl ⟨_, rfl⟩) rfl ?_; refine vo_step (ok_alloc L rfl rfl rfl rfl) rfl ?_; refine vo_step (ok_store L rfl rfl rfl rfl rfl rfl rfl rfl) rfl ?_; refine vo_nil ?_; refine N_seq ?_; refine V_seq ?_
              refine V_box 14 rfl fun b14 hb14 => ?_
              refine V_regionD (id := 13) [] mixed (by kernel_rfl) ?_; refine par_step (ok_loadA L (vs := [_, _, _, _]) (src_own rfl) rfl rfl rfl rfl ⟨_, rfl⟩) rfl ?_; refine par_step (ok_fieldP L rfl rfl rfl rfl) rfl ?_; refine par_step (ok_loadA L (vs := [_, _, _, _, _, _]) (src_box rfl (List.Mem.head _)) rfl rfl rfl rfl ⟨_, rfl⟩) rfl ?_; refine par_step (ok_callx L rfl rfl (blt_lt rfl) rfl rfl rfl (fun u H hH hle _ => shas_ret hin hH (hT.le hle))) rfl ?_; refine par_step (ok_fieldP L rfl rfl rfl rfl) rfl ?_; refine par_step (ok_load1 L (src_box rfl (List.Mem.head _)) rfl rfl rfl rfl) rfl ?_; refine par_step (ok_beql rfl rfl rfl rfl bt4 rfl) rfl ?_; refine par_step (ok_assign rfl rfl rfl) rfl ?_; refine par_nil ?_; refine N_seq ?_; refine V_seq ?_; refine V_region (id := 14) ?_; refine vo_step (ok_loadA L (vs := [_, _, _, _]) (src_own rfl) rfl rfl rfl rfl ⟨_, rfl⟩) rfl ?_; refine vo_step (ok_loadA L (vs := [_, _, _, _, _, _, _]) (src_box rfl (List.Mem.head _)) rfl rfl rfl rfl ⟨_, rfl⟩) rfl ?_; refine vo_step (ok_call (φ := WithP s' 0) L rfl rfl (blt_lt rfl) rfl rfl rfl WithP.mono (fun u H hH hle _ => with_p hw hsl hzt hH (hT.le hle))) rfl ?_; refine vo_opn 56 rfl ?_; rintro _ H19 hs19 ⟨tv, rfl, hT19⟩; obtain ⟨g1, r1, g2, r2, rfl, hpl2⟩ := hT19.shape; refine vo_step (ok_move rfl rfl rfl) rfl ?_; refine vo_step (ok_extract rfl rfl rfl rfl) rfl ?_; refine vo_step (ok_extract rfl rfl rfl rfl) rfl ?_; refine vo_step (ok_alloc L rfl rfl rfl rfl) rfl ?_; refine vo_step (ok_store L rfl rfl rfl rfl rfl rfl (by assumption) rfl) rfl ?_; refine vo_step (ok_assign rfl rfl rfl) rfl ?_; refine vo_nil ?_; refine N_seq ?_; refine V_seq ?_; refine V_seq ?_; refine V_region (id := 15) ?_; refine vo_step (ok_move rfl rfl rfl) rfl ?_; refine vo_step (ok_neq rfl rfl rfl rfl (decide_eq_false (by omega))) rfl ?_; refine vo_nil ?_; refine N_seq ?_; refine V_false rfl ?_; refine V_skip ?_; refine N_seq ?_; refine V_seq ?_; refine V_region (id := 17) ?_; refine vo_step (ok_loadA L (vs := [_, _, _, _]) (src_own rfl) rfl rfl rfl rfl ⟨_, rfl⟩) rfl ?_; refine vo_step (ok_store L rfl rfl rfl rfl rfl rfl (by assumption) rfl) rfl ?_; refine vo_nil ?_; refine N_seq ?_; refine V_seq ?_; refine V_region (id := 18) ?_; refine vo_step (ok_move rfl rfl rfl) rfl ?_; refine vo_nil ?_; refine N_seq ?_; refine V_true rfl ?_; refine V_region (id := 19) ?_; refine vo_step2 (ok_moveO (.inl rfl) rfl rfl rfl rfl) ?_; refine vo_step (ok_loadA L (vs := [_, _, _, _, _, _, _]) (src_box rfl (List.Mem.head _)) rfl rfl rfl rfl ⟨_, rfl⟩) rfl ?_; refine vo_step (ok_buildSlice L rfl rfl rfl rfl rfl rfl rfl rfl rfl) rfl ?_; refine vo_step2 (ok_append L rfl rfl rfl (apd_B rfl) rfl el67 rfl rfl (by omega) (by omega)) ?_; refine vo_step2 (ok_moveO (.inr rfl) rfl rfl rfl rfl) ?_; refine vo_nil ?_; refine N_block ?_; refine N_seq ?_
              refine V_drop (O' := []) (List.nil_sublist _) ?_
              refine V_region (id := 20) ?_; refine vo_step (ok_add rfl rfl rfl rfl (wrap_i64 (by omega) (by omega))) rfl ?_; refine vo_step (ok_move rfl rfl rfl) rfl ?_; refine vo_nil ?_
              refine N_clsX (X := SXp) 3 (r := fun x => Cell (scs x.1) tySet) (φ := sphi s') (sphi_mono _) ⟨(g1, r1, g2, r2), hpl2⟩ hT19 rfl ?_
              exact N_roundS (x := (k, s, md)) (k + 1, s', md ++ [(x, true)]) (hs3.trans hs19) ⟨hlt, he, hsl', by dsimp only; rw [List.length_append]; show md.length + 1 ≤ k + 1; omega⟩ (by dsimp only; omega) ⟨rfl, rfl, ks_snoc rfl, rfl, rfl, rfl, trivial⟩
          · rw [if_neg h0] at he
            cases he
            refine V_seq ?_; refine V_region (id := 11) ?_; refine vo_step (ok_lss rfl rfl rfl rfl (decide_eq_true (by omega))) rfl ?_; refine vo_nil ?_; refine N_seq ?_; refine V_seq ?_; refine V_true rfl ?_; refine V_skip ?_; refine N_seq ?_; refine V_seq ?_; refine V_block ?_; refine V_seq ?_; refine V_region (id := 12) ?_; refine vo_step (ok_indexV L _ rfl rfl rfl rfl rfl rfl rfl (by first | omega | decide) (by assumption)) rfl ?_; refine vo_step (ok_loadPA L (vs := [_, _, _, _, _, _, _]) rfl rfl rfl rfl rfl ⟨_, rfl⟩) rfl ?_; refine vo_step (ok_alloc L rfl rfl rfl rfl) rfl ?_; refine vo_step (ok_store L rfl rfl rfl rfl rfl rfl rfl rfl) rfl ?_; refine vo_nil ?_; refine N_seq ?_; refine V_seq ?_
            refine V_box 14 rfl fun b14 hb14 => ?_
            refine V_regionD (id := 13) [] mixed (by kernel_rfl) ?_; refine par_step (ok_loadA L (vs := [_, _, _, _]) (src_own rfl) rfl rfl rfl rfl ⟨_, rfl⟩) rfl ?_; refine par_step (ok_fieldP L rfl rfl rfl rfl) rfl ?_; refine par_step (ok_loadA L (vs := [_, _, _, _, _, _]) (src_box rfl (List.Mem.head _)) rfl rfl rfl rfl ⟨_, rfl⟩) rfl ?_; refine par_step (ok_callx L rfl rfl (blt_lt rfl) rfl rfl rfl (fun u H hH hle _ => shas_ret hin hH (hT.le hle))) rfl ?_; refine par_step (ok_fieldP L rfl rfl rfl rfl) rfl ?_; refine par_step (ok_load1 L (src_box rfl (List.Mem.head _)) rfl rfl rfl rfl) rfl ?_; refine par_step (ok_beql rfl rfl rfl rfl bt4 rfl) rfl ?_; refine par_step (ok_assign rfl rfl rfl) rfl ?_; refine par_nil ?_; refine N_seq ?_; refine V_seq ?_; refine V_region (id := 14) ?_; refine vo_step (ok_loadA L (vs := [_, _, _, _]) (src_own rfl) rfl rfl rfl rfl ⟨_, rfl⟩) rfl ?_; refine vo_step (ok_loadA L (vs := [_, _, _, _, _, _, _]) (src_box rfl (List.Mem.head _)) rfl rfl rfl rfl ⟨_, rfl⟩) rfl ?_; refine vo_step (ok_call (φ := WithP s' e) L rfl rfl (blt_lt rfl) rfl rfl rfl WithP.mono (fun u H hH hle _ => with_p hw hsl hzt hH (hT.le hle))) rfl ?_; refine vo_opn 56 rfl ?_; rintro _ H19 hs19 ⟨tv, rfl, hT19⟩; obtain ⟨g1, r1, g2, r2, rfl, hpl2⟩ := hT19.shape; refine vo_step (ok_move rfl rfl rfl) rfl ?_; refine vo_step (ok_extract rfl rfl rfl rfl) rfl ?_; refine vo_step (ok_extract rfl rfl rfl rfl) rfl ?_; refine vo_step (ok_alloc L rfl rfl rfl rfl) rfl ?_; refine vo_step (ok_store L rfl rfl rfl rfl rfl rfl (by assumption) rfl) rfl ?_; refine vo_step (ok_assign rfl rfl rfl) rfl ?_; refine vo_nil ?_; refine N_seq ?_; refine V_seq ?_; refine V_seq ?_; refine V_region (id := 15) ?_; refine vo_step (ok_move rfl rfl rfl) rfl ?_; refine vo_step (ok_neq rfl rfl rfl rfl (decide_eq_true (by omega))) rfl ?_; refine vo_nil ?_; refine N_seq ?_; refine V_true rfl ?_; refine V_seq ?_; refine V_region (id := 16) ?_; refine vo_step (ok_build (cs := [_, _, _, _]) rfl rfl pl41 rfl rfl) rfl ?_; refine vo_step (ok_move rfl rfl rfl) rfl ?_; refine vo_step (ok_store L rfl rfl rfl rfl rfl rfl rfl rfl) rfl ?_; refine vo_step (ok_assign rfl rfl rfl) rfl ?_; refine vo_step (ok_assign rfl rfl rfl) rfl ?_; refine vo_nil ?_; refine N_seq ?_
            refine V_ret L (rs := [.cell 6 41, .tmp 7, .tmp 8]) rfl (fun _ _ h => h) (hs3.trans hs19) fun u H hH hle => ?_
            exact ⟨_, src_own rfl, rfl, _, _, rfl, SetV.nil, SlV.nil⟩
        · obtain rfl : k = cs.length := by omega
          rw [List.drop_length, writeL] at he
          cases he
          refine V_seq ?_; refine V_region (id := 11) ?_; refine vo_step (ok_lss rfl rfl rfl rfl (decide_eq_false (by omega))) rfl ?_; refine vo_nil ?_; refine N_seq ?_; refine V_seq ?_; refine V_false rfl ?_; refine V_exit ?_; refine X_then ?_; refine X_then ?_; refine X_here ?_; refine N_seq ?_; refine V_seq ?_
          refine V_pubR 7 rfl ?_
          refine V_regionD (id := 21) [] mixed (by kernel_rfl) ?_; refine par_step (ok_loadA L (vs := [_, _, _, _]) (src_own rfl) rfl rfl rfl rfl ⟨_, rfl⟩) rfl ?_; refine par_step (ok_moves' rfl rfl rfl) rfl ?_; refine par_step (ok_call (φ := KS tyC made true) L rfl rfl (blt_lt rfl) rfl rfl rfl SlV.mono (fun u H hH _ _ v1 g1 => clipC_ret hH g1)) rfl ?_; refine par_step (ok_store L rfl rfl rfl rfl rfl rfl (by assumption) rfl) rfl ?_; refine par_step (ok_assigns' rfl rfl rfl) rfl ?_; refine par_step (ok_assign rfl rfl rfl) rfl ?_; refine par_nil ?_; refine N_seq ?_
          refine V_ret L (rs := [.cell 6 41, .tmp 7, .tmp 8]) rfl (fun _ _ h => h) hs3 fun u H hH hle => ?_
          exact ⟨_, src_own rfl, rfl, fun mv hmv => ⟨_, mv, rfl, hT.le hle, hmv⟩⟩
      · rw [if_neg h3] at hr
        cases hr
        refine V_seq ?_; refine V_region (id := 0) ?_; refine vo_step (ok_boxR rfl rfl rfl rfl) rfl ?_; refine vo_step (ok_alloc L rfl rfl rfl rfl) rfl ?_; refine vo_step (ok_assign rfl rfl rfl) rfl ?_; refine vo_step (ok_assign rfl rfl rfl) rfl ?_; refine vo_nil ?_; refine N_seq ?_; refine V_seq ?_; refine V_seq ?_; refine V_region (id := 1) ?_; refine vo_step (ok_moves' rfl rfl rfl) rfl ?_; refine vo_step (ok_callx L rfl rfl (blt_lt rfl) rfl rfl rfl (fun u H hH _ _ v1 g1 => mchk_ret zl ll h1 hH g1)) rfl ?_; refine vo_step (ok_assign rfl rfl rfl) rfl ?_; refine vo_nil ?_; refine N_seq ?_; refine V_seq ?_; refine V_region (id := 2) ?_; refine vo_step (ok_move rfl rfl rfl) rfl ?_; refine vo_step (ok_neq rfl rfl rfl rfl (decide_eq_false (by omega))) rfl ?_; refine vo_nil ?_; refine N_seq ?_; refine V_false rfl ?_; refine V_skip ?_; refine N_seq ?_; refine V_seq ?_; refine V_seq ?_; refine V_region (id := 4) ?_; refine vo_step (ok_moves' rfl rfl rfl) rfl ?_; refine vo_step (ok_callx L rfl rfl (blt_lt rfl) rfl rfl rfl (fun u H hH _ _ v1 g1 => cchk_ret zc lc h2 hH g1)) rfl ?_; refine vo_step (ok_assign rfl rfl rfl) rfl ?_; refine vo_nil ?_; refine N_seq ?_; refine V_seq ?_; refine V_region (id := 5) ?_; refine vo_step (ok_move rfl rfl rfl) rfl ?_; refine vo_step (ok_neq rfl rfl rfl rfl (decide_eq_false (by omega))) rfl ?_; refine vo_nil ?_; refine N_seq ?_; refine V_false rfl ?_; refine V_skip ?_; refine N_seq ?_; refine V_seq ?_; refine V_seq ?_; refine V_region (id := 7) ?_; refine vo_step (ok_loadA L (vs := [_, _, _, _]) (src_own rfl) rfl rfl rfl rfl ⟨_, rfl⟩) rfl ?_; refine vo_step (ok_moves' rfl rfl rfl) rfl ?_; refine vo_step (ok_callx L rfl rfl (blt_lt rfl) rfl rfl rfl (fun u H hH hle _ v1 g1 => first_ret zl ll hf hH (hs.le hle) g1)) rfl ?_; refine vo_step (ok_move rfl rfl rfl) rfl ?_; refine vo_step (ok_extract rfl rfl rfl rfl) rfl ?_; refine vo_step (ok_extract rfl rfl rfl rfl) rfl ?_; refine vo_step (ok_assign rfl rfl rfl) rfl ?_; refine vo_step (ok_assign rfl rfl rfl) rfl ?_; refine vo_nil ?_; refine N_seq ?_; refine V_seq ?_; refine V_region (id := 8) ?_; refine vo_step (ok_move rfl rfl rfl) rfl ?_; refine vo_step (ok_neq rfl rfl rfl rfl (decide_eq_true (by omega))) rfl ?_; refine vo_nil ?_; refine N_seq ?_; refine V_true rfl ?_; refine V_seq ?_; refine V_region (id := 9) ?_; refine vo_step (ok_build (cs := [_, _, _, _]) rfl rfl pl41 rfl rfl) rfl ?_; refine vo_step (ok_move rfl rfl rfl) rfl ?_; refine vo_step (ok_store L rfl rfl rfl rfl rfl rfl rfl rfl) rfl ?_; refine vo_step (ok_assign rfl rfl rfl) rfl ?_; refine vo_step (ok_assign rfl rfl rfl) rfl ?_; refine vo_nil ?_; refine N_seq ?_
        refine V_ret L (rs := [.cell 6 41, .tmp 7, .tmp 8]) rfl (fun _ _ h => h) Since.refl fun u H hH hle => ?_
        exact ⟨_, src_own rfl, rfl, _, _, rfl, SetV.nil, SlV.nil⟩
    · rw [if_neg h2] at hr
      cases hr
      refine V_seq ?_; refine V_region (id := 0) ?_; refine vo_step (ok_boxR rfl rfl rfl rfl) rfl ?_; refine vo_step (ok_alloc L rfl rfl rfl rfl) rfl ?_; refine vo_step (ok_assign rfl rfl rfl) rfl ?_; refine vo_step (ok_assign rfl rfl rfl) rfl ?_; refine vo_nil ?_; refine N_seq ?_; refine V_seq ?_; refine V_seq ?_; refine V_region (id := 1) ?_; refine vo_step (ok_moves' rfl rfl rfl) rfl ?_; refine vo_step (ok_callx L rfl rfl (blt_lt rfl) rfl rfl rfl (fun u H hH _ _ v1 g1 => mchk_ret zl ll h1 hH g1)) rfl ?_; refine vo_step (ok_assign rfl rfl rfl) rfl ?_; refine vo_nil ?_; refine N_seq ?_; refine V_seq ?_; refine V_region (id := 2) ?_; refine vo_step (ok_move rfl rfl rfl) rfl ?_; refine vo_step (ok_neq rfl rfl rfl rfl (decide_eq_false (by omega))) rfl ?_; refine vo_nil ?_; refine N_seq ?_; refine V_false rfl ?_; refine V_skip ?_; refine N_seq ?_; refine V_seq ?_; refine V_seq ?_; refine V_region (id := 4) ?_; refine vo_step (ok_moves' rfl rfl rfl) rfl ?_; refine vo_step (ok_callx L rfl rfl (blt_lt rfl) rfl rfl rfl (fun u H hH _ _ v1 g1 => cchk_ret zc lc rfl hH g1)) rfl ?_; refine vo_step (ok_assign rfl rfl rfl) rfl ?_; refine vo_nil ?_; refine N_seq ?_; refine V_seq ?_; refine V_region (id := 5) ?_; refine vo_step (ok_move rfl rfl rfl) rfl ?_; refine vo_step (ok_neq rfl rfl rfl rfl (decide_eq_true (by omega))) rfl ?_; refine vo_nil ?_; refine N_seq ?_; refine V_true rfl ?_; refine V_seq ?_; refine V_region (id := 6) ?_; refine vo_step (ok_build (cs := [_, _, _, _]) rfl rfl pl41 rfl rfl) rfl ?_; refine vo_step (ok_move rfl rfl rfl) rfl ?_; refine vo_step (ok_store L rfl rfl rfl rfl rfl rfl rfl rfl) rfl ?_; refine vo_step (ok_assign rfl rfl rfl) rfl ?_; refine vo_step (ok_assign rfl rfl rfl) rfl ?_; refine vo_nil ?_; refine N_seq ?_
      refine V_ret L (rs := [.cell 6 41, .tmp 7, .tmp 8]) rfl (fun _ _ h => h) Since.refl fun u H hH hle => ?_
      exact ⟨_, src_own rfl, rfl, _, _, rfl, SetV.nil, SlV.nil⟩
  · rw [if_neg h1] at hr
    cases hr
    refine V_seq ?_; refine V_region (id := 0) ?_; refine vo_step (ok_boxR rfl rfl rfl rfl) rfl ?_; refine vo_step (ok_alloc L rfl rfl rfl rfl) rfl ?_; refine vo_step (ok_assign rfl rfl rfl) rfl ?_; refine vo_step (ok_assign rfl rfl rfl) rfl ?_; refine vo_nil ?_; refine N_seq ?_; refine V_seq ?_; refine V_seq ?_; refine V_region (id := 1) ?_; refine vo_step (ok_moves' rfl rfl rfl) rfl ?_; refine vo_step (ok_callx L rfl rfl (blt_lt rfl) rfl rfl rfl (fun u H hH _ _ v1 g1 => mchk_ret zl ll rfl hH g1)) rfl ?_; refine vo_step (ok_assign rfl rfl rfl) rfl ?_; refine vo_nil ?_; refine N_seq ?_; refine V_seq ?_; refine V_region (id := 2) ?_; refine vo_step (ok_move rfl rfl rfl) rfl ?_; refine vo_step (ok_neq rfl rfl rfl rfl (decide_eq_true (by omega))) rfl ?_; refine vo_nil ?_; refine N_seq ?_; refine V_true rfl ?_; refine V_seq ?_; refine V_region (id := 3) ?_; refine vo_step (ok_build (cs := [_, _, _, _]) rfl rfl pl41 rfl rfl) rfl ?_; refine vo_step (ok_move rfl rfl rfl) rfl ?_; refine vo_step (ok_store L rfl rfl rfl rfl rfl rfl rfl rfl) rfl ?_; refine vo_step (ok_assign rfl rfl rfl) rfl ?_; refine vo_step (ok_assign rfl rfl rfl) rfl ?_; refine vo_nil ?_; refine N_seq ?_
    refine V_ret L (rs := [.cell 6 41, .tmp 7, .tmp 8]) rfl (fun _ _ h => h) Since.refl fun u H hH hle => ?_
    exact ⟨_, src_own rfl, rfl, _, _, rfl, SetV.nil, SlV.nil⟩
end Go.V.L8
/- The walk of the definition of musts (chapter 8). -/
namespace Go.V.L8
open Go.Proofs Go.RowKit Go.V Go.V.L2 Go.V.L3 Go.V.L6
attribute [local irreducible] V N X VO Par StepOK Has Ret RetL RetO RetT Src
end Go.V.L8
/- The walk of the definition of musts (chapter 8): possible musts; equal lists of changes. -/
namespace Go.V.L8
open Go.Proofs Go.RowKit Go.V Go.V.L2 Go.V.L3 Go.V.L6
attribute [local irreducible] V N X VO Par StepOK Has Ret RetL RetO RetT Src
end Go.V.L8
/- The walk of the definition of musts (chapter 8): writes. -/
namespace Go.V.L8
open Go.Proofs Go.RowKit Go.V Go.V.L2 Go.V.L3 Go.V.L6
/-- What the definition of Write gives. -/
def RWriteP (t : List U) (made : List CH) (e : Int) (r : Value) (H : Heap) : Prop := ∃ tv mv, r = .tuple #[tv, mv, .int .i64 e] ∧ US t false tv H ∧ KS tyC made false mv H
theorem RWriteP.mono {t : List U} {made : List CH} {e : Int} : Kn.mono (.sat (RWriteP t made e)) := fun _ _ _ ⟨tv, mv, h1, h2, h3⟩ hle => ⟨tv, mv, h1, h2.le hle, h3.le hle⟩
attribute [local irreducible] V N X VO Par StepOK Has Ret RetL RetO RetT Src
end Go.V.L8
/- The walk of the definition of deltas (chapter 7): equal lists. -/
namespace Go.V.L8
open Go.Proofs Go.RowKit Go.V Go.V.L2 Go.V.L3 Go.V.L6
theorem eqCH {t v : CH} {r : Bool} (e : decide (t = v) = r) : eqCs [0, 0, 0, 0, 0, 0, 2] [.string t.1.1.1.1, .string t.1.1.1.2, .string t.1.1.2, .string t.1.2.1.1, .string t.1.2.1.2, .string t.1.2.2, .bool t.2] [.string v.1.1.1.1, .string v.1.1.1.2, .string v.1.1.2, .string v.1.2.1.1, .string v.1.2.1.2, .string v.1.2.2, .bool v.2] = some r := by
  subst e
  simp only [eqCs, eqC]
  obtain ⟨⟨⟨⟨t1, t2⟩, t3⟩, ⟨⟨t4, t5⟩, t6⟩⟩, t7⟩ := t
  obtain ⟨⟨⟨⟨v1, v2⟩, v3⟩, ⟨⟨v4, v5⟩, v6⟩⟩, v7⟩ := v
  simp only [Prod.mk.injEq]
  by_cases a1 : t1 = v1
  · by_cases a2 : t2 = v2
    · by_cases a3 : t3 = v3
      · by_cases a4 : t4 = v4
        · by_cases a5 : t5 = v5
          · by_cases a6 : t6 = v6
            · by_cases a7 : t7 = v7
              · simp [a1, a2, a3, a4, a5, a6, a7]
              · cases t7 <;> cases v7 <;> simp [a1, a2, a3, a4, a5, a6] at a7 ⊢
            · simp [a6]
          · simp [a5]
        · simp [a4]
      · simp [a3]
    · simp [a2]
  · simp [a1]
attribute [local irreducible] V N X VO Par StepOK Has Ret RetL RetO RetT Src
set_option maxHeartbeats 2000000 in
theorem rsame7_ret {a b : List CH} {fa fb : Bool} (hla : a.length ≤ 1000000) (hlb : b.length ≤ 1000000) {e : Int} (he : (if a = b then 1 else 0 : Int) = e) {va vb : Value} {w : World} {B : Heap} (hB : B.Le (hp w)) (ha : KS tyC a fa va B) (hb : KS tyC b fb vb B) :
    Ret Try.prog 33 [va, vb] w B (fun v _ => v = .int .i64 e) := by
  subst he
  refine V_enter Try.func33 rfl Try.ntmps33 (Nat.le_of_ble_eq_true rfl) hB ?_
  refine V_seen 0 (KS tyC a fa) rfl SlV.mono ha ?_
  refine V_seen 1 (KS tyC b fb) rfl SlV.mono hb ?_
  by_cases hl : a.length = b.length
  · refine V_seq ?_; refine V_region (id := 0) ?_; refine vo_step (ok_assign rfl rfl rfl) rfl ?_; refine vo_nil ?_; refine N_seq ?_; refine V_seq ?_; refine V_seq ?_; refine V_region (id := 1) ?_; refine vo_step (ok_moves' rfl rfl rfl) rfl ?_; refine vo_step (ok_lenV L rfl rfl rfl rfl) rfl ?_; refine vo_step (ok_moves' rfl rfl rfl) rfl ?_; refine vo_step (ok_lenV L rfl rfl rfl rfl) rfl ?_; refine vo_step (ok_neq rfl rfl rfl rfl (decide_eq_false (by omega))) rfl ?_; refine vo_nil ?_; refine N_seq ?_; refine V_false rfl ?_; refine V_skip ?_; refine N_seq ?_; refine V_seq ?_; refine V_seq ?_; refine V_region (id := 3) ?_; refine vo_step (ok_assign rfl rfl rfl) rfl ?_; refine vo_nil ?_; refine N_seq ?_; refine V_block ?_
    refine V_loop (fun i : Nat => [(0, .sat (KS tyC a fa)), (1, .sat (KS tyC b fb)), (5, .is (.int .i64 i))]) (fun i => i ≤ a.length ∧ a.take i = b.take i) (fun i => a.length - i) 0 ⟨Nat.zero_le _, rfl⟩ ⟨rfl, rfl, rfl, trivial⟩ ?_
    rintro i ⟨hi, hti⟩
    by_cases hlt : i < a.length
    · obtain ⟨x, hx⟩ := get_some hlt
      obtain ⟨y, hy⟩ := get_some (l := b) (i := i) (by omega)
      have hcx := ks_at hx
      have hcy := ks_at hy
      by_cases hxy : x = y
      · subst hxy
        have hq := eqCH (t := x) (v := x) (decide_eq_true rfl)
        refine V_seq ?_; refine V_seq ?_; refine V_region (id := 4) ?_; refine vo_step (ok_move rfl rfl rfl) rfl ?_; refine vo_step (ok_moves' rfl rfl rfl) rfl ?_; refine vo_step (ok_lenV L rfl rfl rfl rfl) rfl ?_; refine vo_step (ok_lss rfl rfl rfl rfl (decide_eq_true (by omega))) rfl ?_; refine vo_nil ?_; refine N_seq ?_; refine V_true rfl ?_; refine V_skip ?_; refine N_seq ?_; refine V_seq ?_; refine V_block ?_; refine V_seq ?_; refine V_regionD (id := 6) [] mixed (by kernel_rfl) ?_; refine par_step (ok_moves' rfl rfl rfl) rfl ?_; refine par_step (ok_move rfl rfl rfl) rfl ?_; refine par_step (ok_indexV L _ rfl rfl rfl rfl rfl rfl rfl (by first | omega | decide) (by assumption)) rfl ?_; refine par_step (ok_loadPA L (vs := [_, _, _, _, _, _, _]) rfl rfl rfl rfl rfl ⟨_, rfl⟩) rfl ?_; refine par_step (ok_moves' rfl rfl rfl) rfl ?_; refine par_step (ok_move rfl rfl rfl) rfl ?_; refine par_step (ok_indexV L _ rfl rfl rfl rfl rfl rfl rfl (by first | omega | decide) (by assumption)) rfl ?_; refine par_step (ok_loadPA L (vs := [_, _, _, _, _, _, _]) rfl rfl rfl rfl rfl ⟨_, rfl⟩) rfl ?_; refine par_step (ok_aneq rfl rfl rfl rfl eq67 (by assumption) rfl) rfl ?_; refine par_nil ?_; refine N_seq ?_; refine V_false rfl ?_; refine V_skip ?_; refine N_block ?_; refine N_seq ?_; refine V_region (id := 5) ?_; refine vo_step (ok_move rfl rfl rfl) rfl ?_; refine vo_step (ok_add rfl rfl rfl rfl (wrap_i64 (by omega) (by omega))) rfl ?_; refine vo_step (ok_assign rfl rfl rfl) rfl ?_; refine vo_nil ?_
        exact N_round (x := i) (i + 1) ⟨hlt, by rw [List.take_add_one, List.take_add_one, hx, hy, hti]⟩ (by omega) ⟨rfl, rfl, rfl, trivial⟩
      · have hq := eqCH (t := x) (v := y) (decide_eq_false hxy)
        rw [if_neg (fun h => by subst h; rw [hx] at hy; cases hy; exact hxy rfl)]
        refine V_seq ?_; refine V_seq ?_; refine V_region (id := 4) ?_; refine vo_step (ok_move rfl rfl rfl) rfl ?_; refine vo_step (ok_moves' rfl rfl rfl) rfl ?_; refine vo_step (ok_lenV L rfl rfl rfl rfl) rfl ?_; refine vo_step (ok_lss rfl rfl rfl rfl (decide_eq_true (by omega))) rfl ?_; refine vo_nil ?_; refine N_seq ?_; refine V_true rfl ?_; refine V_skip ?_; refine N_seq ?_; refine V_seq ?_; refine V_block ?_; refine V_seq ?_; refine V_regionD (id := 6) [] mixed (by kernel_rfl) ?_; refine par_step (ok_moves' rfl rfl rfl) rfl ?_; refine par_step (ok_move rfl rfl rfl) rfl ?_; refine par_step (ok_indexV L _ rfl rfl rfl rfl rfl rfl rfl (by first | omega | decide) (by assumption)) rfl ?_; refine par_step (ok_loadPA L (vs := [_, _, _, _, _, _, _]) rfl rfl rfl rfl rfl ⟨_, rfl⟩) rfl ?_; refine par_step (ok_moves' rfl rfl rfl) rfl ?_; refine par_step (ok_move rfl rfl rfl) rfl ?_; refine par_step (ok_indexV L _ rfl rfl rfl rfl rfl rfl rfl (by first | omega | decide) (by assumption)) rfl ?_; refine par_step (ok_loadPA L (vs := [_, _, _, _, _, _, _]) rfl rfl rfl rfl rfl ⟨_, rfl⟩) rfl ?_; refine par_step (ok_aneq rfl rfl rfl rfl eq67 (by assumption) rfl) rfl ?_; refine par_nil ?_; refine N_seq ?_; refine V_true rfl ?_; refine V_seq ?_; refine V_region (id := 7) ?_; refine vo_step (ok_assign rfl rfl rfl) rfl ?_; refine vo_nil ?_; refine N_seq ?_
        refine V_ret L (rs := [.tmp 4]) rfl (fun _ _ h => h) Since.refl fun u H hH hle => ?_
        rfl
    · have hab : a = b := by rw [List.take_of_length_le (by omega), List.take_of_length_le (by omega)] at hti; exact hti
      rw [if_pos hab]
      refine V_seq ?_; refine V_seq ?_; refine V_region (id := 4) ?_; refine vo_step (ok_move rfl rfl rfl) rfl ?_; refine vo_step (ok_moves' rfl rfl rfl) rfl ?_; refine vo_step (ok_lenV L rfl rfl rfl rfl) rfl ?_; refine vo_step (ok_lss rfl rfl rfl rfl (decide_eq_false (by omega))) rfl ?_; refine vo_nil ?_; refine N_seq ?_; refine V_false rfl ?_; refine V_exit ?_; refine X_then ?_; refine X_then ?_; refine X_here ?_; refine N_seq ?_; refine V_seq ?_; refine V_region (id := 8) ?_; refine vo_step (ok_assign rfl rfl rfl) rfl ?_; refine vo_nil ?_; refine N_seq ?_
      refine V_ret L (rs := [.tmp 4]) rfl (fun _ _ h => h) Since.refl fun u H hH hle => ?_
      rfl
  · rw [if_neg (fun h => hl (by rw [h]))]
    refine V_seq ?_; refine V_region (id := 0) ?_; refine vo_step (ok_assign rfl rfl rfl) rfl ?_; refine vo_nil ?_; refine N_seq ?_; refine V_seq ?_; refine V_seq ?_; refine V_region (id := 1) ?_; refine vo_step (ok_moves' rfl rfl rfl) rfl ?_; refine vo_step (ok_lenV L rfl rfl rfl rfl) rfl ?_; refine vo_step (ok_moves' rfl rfl rfl) rfl ?_; refine vo_step (ok_lenV L rfl rfl rfl rfl) rfl ?_; refine vo_step (ok_neq rfl rfl rfl rfl (decide_eq_true (by omega))) rfl ?_; refine vo_nil ?_; refine N_seq ?_; refine V_true rfl ?_; refine V_seq ?_; refine V_region (id := 2) ?_; refine vo_step (ok_assign rfl rfl rfl) rfl ?_; refine vo_nil ?_; refine N_seq ?_
    refine V_ret L (rs := [.tmp 4]) rfl (fun _ _ h => h) Since.refl fun u H hH hle => ?_
    rfl
end Go.V.L8
/- The walk of filters.Both (chapter 3). -/
namespace Go.V.L3
open Go.Proofs Go.RowKit Go.V Go.V.L2
attribute [local irreducible] V N X VO Par StepOK Has Ret RetL RetO RetT Src
end Go.V.L3
/- The walks of filters (chapter 3): texts. -/
namespace Go.V.L3
open Go.Proofs Go.RowKit Go.V Go.V.L2
attribute [local irreducible] V N X VO Par StepOK Has Ret RetL RetO RetT Src
end Go.V.L3
/- The walks of the definition of filters (chapter 3): texts. -/
namespace Go.V.L3
open Go.Proofs Go.RowKit Go.V Go.V.L2
attribute [local irreducible] V N X VO Par StepOK Has Ret RetL RetO RetT Src
end Go.V.L3
/- The walk of the definition of filters (chapter 3): texts are read. -/
namespace Go.V.L3
open Go.Proofs Go.RowKit Go.V Go.V.L2
attribute [local irreducible] V N X VO Par StepOK Has Ret RetL RetO RetT Src
end Go.V.L3
/- The goals and tuples of the statements (chapters 2, 23): plain words. -/
namespace Go.V
open Go.Proofs Go.RowKit
end Go.V
/- The walks of the goals of the statements (chapters 2, 23). -/
namespace Go.V
open Go.Proofs Go.RowKit
attribute [local irreducible] V N X VO Par StepOK Has Ret RetL Src
end Go.V
/- The walks of the statements' helpers on tuples (chapter 2): what is handed in. -/
namespace Go.V.L2
open Go.Proofs Go.RowKit Go.V
attribute [local irreducible] V N X VO Par StepOK Has Ret RetL Src
end Go.V.L2
/- The kit's floor of bits. -/
namespace Go.V
open Go.Proofs Go.RowKit
section
variable {P : Program} {F : Fr} {B : Heap} {O : Boxes} {n : Nat} {ops : Array Oper} {κ : Kap} {d : Nat} {ty : TypeId} {pos : String} {aft : Array Edge} {g : Option (Nat × Bool)}
end
end Go.V
/- The walks of the statements' helpers on filters (chapter 3): what is handed in. -/
namespace Go.V.L3
open Go.Proofs Go.RowKit Go.V Go.V.L2
theorem tE_parts {t : U} (h : tE t = 0) : (chk t.1.1.1 = 0 ∧ chk t.1.1.2 = 0 ∧ chk t.1.2 = 0) ∧ subjE t.2.1.1 t.2.1.2 t.2.2 = 0 := by
  unfold tE at h
  split at h
  · rename_i hg
    refine ⟨?_, h⟩
    revert hg
    simp only [allE]
    have c1 := chk_cases t.1.1.1
    have c2 := chk_cases t.1.1.2
    have c3 := chk_cases t.1.2
    intro hg
    rcases c1 with c1 | c1 <;> rcases c2 with c2 | c2 <;> rcases c3 with c3 | c3 <;> simp [c1, c2, c3] at hg ⊢
  · rename_i hg
    exact absurd h hg
attribute [local irreducible] V N X VO Par StepOK Has Ret RetL RetO RetT Src
end Go.V.L3
/- strings.ContainsAny at the two marks. -/
namespace Go.V.L3
open Go.Proofs Go.RowKit Go.V Go.V.L2
attribute [local irreducible] V N X VO Par StepOK Has Ret RetL RetO RetT Src
end Go.V.L3
/- The walk of the definition of filters (chapter 3): the text of a filter. -/
namespace Go.V.L3
open Go.Proofs Go.RowKit Go.V Go.V.L2
attribute [local irreducible] V N X VO Par StepOK Has Ret RetL RetO RetT Src
end Go.V.L3
/- The examples of chapter 3. -/
namespace Go.V.L3
open Go.Proofs Go.RowKit Go.V Go.V.L2
attribute [local irreducible] V N X VO Par StepOK Has Ret RetL RetO RetT Src
end Go.V.L3
/- The examples of chapter 6. -/
namespace Go.V.L6
open Go.Proofs Go.RowKit Go.V Go.V.L2 Go.V.L3
abbrev d0 : U := (((⟨#[100, 111, 99]⟩, ⟨#[97]⟩), ⟨#[118, 105, 101, 119, 101, 114]⟩), ((⟨#[117, 115, 101, 114]⟩, ⟨#[120]⟩), ⟨#[]⟩))
abbrev d1 : U := (((⟨#[100, 111, 99]⟩, ⟨#[97]⟩), ⟨#[118, 105, 101, 119, 101, 114]⟩), ((⟨#[103, 114, 111, 117, 112]⟩, ⟨#[103]⟩), ⟨#[109, 101, 109, 98, 101, 114]⟩))
abbrev d2 : U := (((⟨#[100, 111, 99]⟩, ⟨#[98]⟩), ⟨#[118, 105, 101, 119, 101, 114]⟩), ((⟨#[117, 115, 101, 114]⟩, ⟨#[120]⟩), ⟨#[]⟩))
def tzB (t : U) : Bool := decide (t.1.1.1.size ≤ 1000) && decide (t.1.1.2.size ≤ 1000) && decide (t.1.2.size ≤ 1000) && decide (t.2.1.1.size ≤ 1000) && decide (t.2.1.2.size ≤ 1000) && decide (t.2.2.size ≤ 1000)
theorem tz_ofB {t : U} (h : tzB t = true) : TZ t := by
  unfold tzB at h
  simp only [Bool.and_eq_true, decide_eq_true_eq] at h
  unfold TZ; omega
attribute [local irreducible] V N X VO Par StepOK Has Ret RetL RetO RetT Src
end Go.V.L6
/- Sets as plain data (chapter 6): what the statements' inputs are. -/
namespace Go.V.L6
open Go.Proofs Go.RowKit Go.V Go.V.L2 Go.V.L3
attribute [local irreducible] V N X VO Par StepOK Has Ret RetL RetO RetT Src
end Go.V.L6
/- The helpers of the laws of deltas (chapter 7): lists of changes out of plain data. -/
namespace Go.V.L8
open Go.Proofs Go.RowKit Go.V Go.V.L2 Go.V.L3 Go.V.L6
attribute [local irreducible] V N X VO Par StepOK Has Ret RetL RetO RetT Src
end Go.V.L8
/- The helpers of the laws of musts (chapter 8): lists of musts out of plain data. -/
namespace Go.V.L8
open Go.Proofs Go.RowKit Go.V Go.V.L2 Go.V.L3 Go.V.L6
attribute [local irreducible] V N X VO Par StepOK Has Ret RetL RetO RetT Src
end Go.V.L8
/- The helpers of the laws of musts (chapter 8): a set of tuples. -/
namespace Go.V.L8
open Go.Proofs Go.RowKit Go.V Go.V.L2 Go.V.L3 Go.V.L6
attribute [local irreducible] V N X VO Par StepOK Has Ret RetL RetO RetT Src
set_option maxHeartbeats 2000000 in
theorem set8_ret {l m : List U} {fu : Bool} {e : Int} (hr : ofU [] l = (m, e)) (hl : l.length ≤ 100000) (hz : ∀ t ∈ l, TZ t) {v : Value} {w : World} {B : Heap} (hB : B.Le (hp w)) (hv : US l fu v B) :
    Ret Try.prog 14 [v] w B (SetV m) := by
  refine V_enter Try.func14 rfl Try.ntmps14 (Nat.le_of_ble_eq_true rfl) hB ?_
  refine V_seen 0 (US l fu) rfl SlV.mono hv ?_
  refine V_seq ?_; refine V_region (id := 0) ?_; refine vo_step (ok_alloc L rfl rfl rfl rfl) rfl ?_; refine vo_nil ?_; refine N_seq ?_; refine V_seq ?_; refine V_region (id := 1) ?_; refine vo_step (ok_moves' rfl rfl rfl) rfl ?_; refine vo_step (ok_call (φ := WithP m e) L rfl rfl (blt_lt rfl) rfl rfl rfl WithP.mono (fun u H hH _ _ v1 h1 => sof_ret hr hl hz hH h1)) rfl ?_; refine vo_opn 7 rfl ?_; rintro _ H19 hs19 ⟨tv, rfl, hT19⟩; obtain ⟨g1, r1, g2, r2, rfl, hpl2⟩ := hT19.shape; refine vo_step (ok_move rfl rfl rfl) rfl ?_; refine vo_step (ok_extract rfl rfl rfl rfl) rfl ?_; refine vo_step (ok_extract rfl rfl rfl rfl) rfl ?_; refine vo_step (ok_alloc L rfl rfl rfl rfl) rfl ?_; refine vo_step (ok_store L rfl rfl rfl rfl rfl rfl (by assumption) rfl) rfl ?_; refine vo_step (ok_assign rfl rfl rfl) rfl ?_; refine vo_nil ?_; refine N_seq ?_; refine V_seq ?_; refine V_region (id := 2) ?_; refine vo_step (ok_loadA L (vs := [_, _, _, _]) (src_own rfl) rfl rfl rfl rfl ⟨_, rfl⟩) rfl ?_; refine vo_step (ok_store L rfl rfl rfl rfl rfl rfl (by assumption) rfl) rfl ?_; refine vo_nil ?_; refine N_seq ?_
  refine V_ret L (rs := [.cell 2 41]) rfl (fun _ _ h => h) hs19 fun u H hH hle => ?_
  refine resK_cellA (src_own rfl) rfl rfl ?_
  exact hT19.le hle
abbrev sA8 : ByteArray := ⟨#[100, 111, 99, 58, 97, 35, 118, 105, 101, 119, 101, 114, 64, 117, 115, 101, 114, 58, 120]⟩
abbrev sB8 : ByteArray := ⟨#[100, 111, 99, 58, 98, 35, 118, 105, 101, 119, 101, 114, 64, 117, 115, 101, 114, 58, 120]⟩
theorem rp8 {s : ByteArray} {t : U} {e : Int} (hr : ptA s = (t, e)) (hs : s.size ≤ 1000000) {w : World} {B : Heap} (hB : B.Le (hp w)) :
    Ret Try.prog 62 [.string s] w B (fun v _ => v = .tuple #[uv t, .int .i64 e]) := rtparse_ret hr hs hB
theorem pA8 : ptA sA8 = (d0, 0) := by decide +kernel
theorem pB8 : ptA sB8 = (d2, 0) := by decide +kernel
theorem two8_ret {w : World} {B : Heap} (hB : B.Le (hp w)) : Ret Try.prog 22 [] w B (fun v _ => v = .tuple #[uv d0, uv d2]) := by
  refine V_enter Try.func22 rfl Try.ntmps22 (Nat.le_of_ble_eq_true rfl) hB ?_
  refine V_seq ?_; refine V_region (id := 0) ?_; refine vo_step (ok_alloc L rfl rfl rfl rfl) rfl ?_; refine vo_step (ok_alloc L rfl rfl rfl rfl) rfl ?_; refine vo_nil ?_; refine N_seq ?_; refine V_seq ?_; refine V_region (id := 1) ?_; refine vo_step (ok_callx L rfl rfl (blt_lt rfl) rfl rfl rfl (fun u H hH _ _ => rp8 pA8 (Nat.le_of_ble_eq_true rfl) hH)) rfl ?_; refine vo_step (ok_move rfl rfl rfl) rfl ?_; refine vo_step (ok_extract rfl rfl rfl rfl) rfl ?_; refine vo_step (ok_extract rfl rfl rfl rfl) rfl ?_; refine vo_step (ok_alloc L rfl rfl rfl rfl) rfl ?_; refine vo_step (ok_store L rfl rfl rfl rfl rfl rfl rfl rfl) rfl ?_; refine vo_step (ok_assign rfl rfl rfl) rfl ?_; refine vo_nil ?_; refine N_seq ?_; refine V_seq ?_; refine V_region (id := 2) ?_; refine vo_step (ok_callx L rfl rfl (blt_lt rfl) rfl rfl rfl (fun u H hH _ _ => rp8 pB8 (Nat.le_of_ble_eq_true rfl) hH)) rfl ?_; refine vo_step (ok_move rfl rfl rfl) rfl ?_; refine vo_step (ok_extract rfl rfl rfl rfl) rfl ?_; refine vo_step (ok_extract rfl rfl rfl rfl) rfl ?_; refine vo_step (ok_alloc L rfl rfl rfl rfl) rfl ?_; refine vo_step (ok_store L rfl rfl rfl rfl rfl rfl rfl rfl) rfl ?_; refine vo_step (ok_assign rfl rfl rfl) rfl ?_; refine vo_nil ?_; refine N_seq ?_; refine V_seq ?_; refine V_regionD (id := 3) [] mixed (by kernel_rfl) ?_; refine par_step (ok_loadA L (vs := [_, _, _, _, _, _]) (src_own rfl) rfl rfl rfl rfl ⟨_, rfl⟩) rfl ?_; refine par_step (ok_loadA L (vs := [_, _, _, _, _, _]) (src_own rfl) rfl rfl rfl rfl ⟨_, rfl⟩) rfl ?_; refine par_step (ok_store L rfl rfl rfl rfl rfl rfl rfl rfl) rfl ?_; refine par_step (ok_store L rfl rfl rfl rfl rfl rfl rfl rfl) rfl ?_; refine par_nil ?_; refine N_seq ?_
  refine V_ret L (rs := [.cell 0 52, .cell 1 52]) rfl (fun _ _ h => h) Since.refl fun u H hH hle => ?_
  refine resK_cellA (src_own rfl) rfl rfl ?_
  refine resK_cellA (src_own rfl) rfl rfl ?_
  rfl
end Go.V.L8
/- The examples of the laws of musts (chapter 8). -/
namespace Go.V.L8
open Go.Proofs Go.RowKit Go.V Go.V.L2 Go.V.L3 Go.V.L6
theorem LE3.mk {φ ψ : Value → Heap → Prop} {a b c : Value} {H : Heap} (h1 : φ a H) (h2 : ψ b H) : TupS [φ, ψ, fun v _ => v = c] (.tuple #[a, b, c]) H :=
  ⟨[a, b, c], rfl, rfl, fun i χ x hi hx => by
    rcases i with _ | _ | _ | i
    · simp at hi hx; subst hi hx; exact h1
    · simp at hi hx; subst hi hx; exact h2
    · simp at hi hx; subst hi hx; rfl
    · simp at hi⟩
theorem LE3.mono {φ ψ : Value → Heap → Prop} {c : Value} (h1 : Kn.mono (.sat φ)) (h2 : Kn.mono (.sat ψ)) : Kn.mono (.sat (TupS [φ, ψ, fun v _ => v = c])) := TupS.mono fun χ hχ => by
  rcases List.mem_cons.1 hχ with rfl | hχ
  · exact h1
  rcases List.mem_cons.1 hχ with rfl | hχ
  · exact h2
  · rw [List.mem_singleton] at hχ
    subst hχ
    exact fun _ _ _ h _ => h
abbrev Write3 (t : List U) (made : List CH) (e : Int) : Value → Heap → Prop := TupS [SetV t, KS tyC made true, fun v _ => v = .int .i64 e]
theorem Write3.mono {t : List U} {made : List CH} {e : Int} : Kn.mono (.sat (Write3 t made e)) := LE3.mono SetV.mono SlV.mono
theorem WriteP.to3 {t : List U} {made : List CH} {e : Int} {v : Value} {H : Heap} (h : WriteP t made e v H) : Write3 t made e v H := by
  obtain ⟨tv, mv, rfl, h1, h2⟩ := h
  exact LE3.mk h1 h2
theorem tm_z {t : U} (h : TZ t) : TM t := by
  unfold TZ at h
  unfold TM
  omega
def l8 : List CH := [(d2, false), (d2, true), (d0, true), (d0, true)]
attribute [local irreducible] V N X VO Par StepOK Has Ret RetL RetO RetT Src
set_option maxHeartbeats 8000000 in
set_option maxRecDepth 20000 in
theorem lives8_ret {w : World} {B : Heap} (hB : B.Le (hp w)) : Ret Try.prog 21 [] w B (fun v _ => v = .bool true) := by
  have o1 : ofU [] [d0] = ([d0], 0) := by decide +kernel
  have f1 : firstR [d0] [(d0, false), (d2, false)] = (1, 13) := by decide +kernel
  have f2 : firstR [d0] [(d0, false), (d2, true)] = (2, 0) := by decide +kernel
  have w1 : writeR [d0] [(d0, false), (d2, true)] l8 = ([], [(d2, false), (d2, true), (d0, true)], 0) := Prod.ext (by decide +kernel) (Prod.ext (by decide +kernel) (by decide +kernel))
  have w2 : writeR [d0] [(d2, false)] [(d2, false)] = ([], [], 13) := Prod.ext (by decide +kernel) (Prod.ext (by decide +kernel) (by decide +kernel))
  have p1 : possB [(d0, false), (d2, false), (d0, true)] = false := by decide +kernel
  have p2 : possB [(d0, false), (d0, false), (d2, true)] = true := by decide +kernel
  have h1 : holdB [d0] (d0, false) = true := by decide +kernel
  have h2 : holdB [d0] (d0, true) = false := by decide +kernel
  have h3 : holdB [d0] (d2, true) = true := by decide +kernel
  have z0 : TZ d0 := tz_ofB (by decide)
  have z2 : TZ d2 := tz_ofB (by decide)
  have m0 := tm_z z0
  have m2 := tm_z z2
  have zs : ∀ t ∈ [d0], TZ t := fun t ht => by rw [List.mem_singleton] at ht; subst ht; exact z0
  have all : ∀ l : List CH, (∀ c ∈ l, c.1 = d0 ∨ c.1 = d2) → ∀ c ∈ l, TM c.1 := fun l h c hc => by
    rcases h c hc with e | e
    · rw [e]; exact m0
    · rw [e]; exact m2
  refine V_enter Try.func21 rfl Try.ntmps21 (Nat.le_of_ble_eq_true rfl) hB ?_
  refine V_seq ?_; refine V_region (id := 0) ?_; refine vo_step (ok_assign rfl rfl rfl) rfl ?_; refine vo_nil ?_; refine N_seq ?_; refine V_seq ?_; refine V_region (id := 1) ?_; refine vo_step (ok_callx L rfl rfl (blt_lt rfl) rfl rfl rfl (fun u H hH _ _ => two8_ret hH)) rfl ?_; refine vo_step (ok_move rfl rfl rfl) rfl ?_; refine vo_step (ok_extract rfl rfl rfl rfl) rfl ?_; refine vo_step (ok_extract rfl rfl rfl rfl) rfl ?_; refine vo_step (ok_alloc L rfl rfl rfl rfl) rfl ?_; refine vo_step (ok_alloc L rfl rfl rfl rfl) rfl ?_; refine vo_step (ok_store L rfl rfl rfl rfl rfl rfl rfl rfl) rfl ?_; refine vo_step (ok_store L rfl rfl rfl rfl rfl rfl rfl rfl) rfl ?_; refine vo_nil ?_; refine N_seq ?_; refine V_seq ?_; refine V_region (id := 2) ?_; refine vo_step (ok_loadA L (vs := [_, _, _, _, _, _]) (src_own rfl) rfl rfl rfl rfl ⟨_, rfl⟩) rfl ?_; refine vo_step (ok_buildSlice L rfl rfl rfl rfl rfl rfl rfl rfl rfl) rfl ?_; refine vo_step (ok_call (φ := SetV [d0]) L rfl rfl (blt_lt rfl) rfl rfl rfl SetV.mono (fun u H hH _ _ v1 h1 => set8_ret (l := [d0]) (fu := true) o1 (by decide) zs hH (h1.toV rfl))) rfl ?_; refine vo_opn 21 rfl ?_; rintro _ H1 hs1 hT1; obtain ⟨x1, y1, k1, q1, rfl, hp1⟩ := hT1.shape; refine vo_step (ok_alloc L rfl rfl rfl rfl) rfl ?_; refine vo_step (ok_store L rfl rfl rfl rfl rfl rfl (by assumption) rfl) rfl ?_; refine vo_nil ?_; refine N_seq ?_; refine V_seq ?_
  refine V_region (id := 3) ?_; refine vo_step (ok_loadA L (vs := [_, _, _, _]) (src_own rfl) rfl rfl rfl rfl ⟨_, rfl⟩) rfl ?_; refine vo_step (ok_loadA L (vs := [_, _, _, _, _, _]) (src_own rfl) rfl rfl rfl rfl ⟨_, rfl⟩) rfl ?_; refine vo_step (ok_build (cs := [_, _, _, _, _, _, _]) rfl rfl pl54 rfl rfl) rfl ?_; refine vo_step (ok_loadA L (vs := [_, _, _, _, _, _]) (src_own rfl) rfl rfl rfl rfl ⟨_, rfl⟩) rfl ?_; refine vo_step (ok_build (cs := [_, _, _, _, _, _, _]) rfl rfl pl54 rfl rfl) rfl ?_; refine vo_step (ok_buildSlice L rfl rfl rfl rfl rfl rfl rfl rfl rfl) rfl ?_; refine vo_step (ok_callx L rfl rfl (blt_lt rfl) rfl rfl rfl (fun u H hH hle _ v1 g1 => first_ret (s := [d0]) (l := [(d0, false), (d2, false)]) (fu := true) (all _ (by simp)) (by decide) f1 hH (hT1.le hle) (g1.toV rfl))) rfl ?_; refine vo_step (ok_move rfl rfl rfl) rfl ?_; refine vo_step (ok_extract rfl rfl rfl rfl) rfl ?_; refine vo_step (ok_extract rfl rfl rfl rfl) rfl ?_; refine vo_step (ok_assign rfl rfl rfl) rfl ?_; refine vo_step (ok_assign rfl rfl rfl) rfl ?_; refine vo_nil ?_; refine N_seq ?_; refine V_seq ?_; refine V_region (id := 4) ?_; refine vo_step (ok_loadA L (vs := [_, _, _, _]) (src_own rfl) rfl rfl rfl rfl ⟨_, rfl⟩) rfl ?_; refine vo_step (ok_loadA L (vs := [_, _, _, _, _, _]) (src_own rfl) rfl rfl rfl rfl ⟨_, rfl⟩) rfl ?_; refine vo_step (ok_build (cs := [_, _, _, _, _, _, _]) rfl rfl pl54 rfl rfl) rfl ?_; refine vo_step (ok_loadA L (vs := [_, _, _, _, _, _]) (src_own rfl) rfl rfl rfl rfl ⟨_, rfl⟩) rfl ?_; refine vo_step (ok_build (cs := [_, _, _, _, _, _, _]) rfl rfl pl54 rfl rfl) rfl ?_; refine vo_step (ok_buildSlice L rfl rfl rfl rfl rfl rfl rfl rfl rfl) rfl ?_; refine vo_step (ok_callx L rfl rfl (blt_lt rfl) rfl rfl rfl (fun u H hH hle _ v1 g1 => first_ret (s := [d0]) (l := [(d0, false), (d2, true)]) (fu := true) (all _ (by simp)) (by decide) f2 hH (hT1.le hle) (g1.toV rfl))) rfl ?_; refine vo_step (ok_move rfl rfl rfl) rfl ?_; refine vo_step (ok_extract rfl rfl rfl rfl) rfl ?_; refine vo_step (ok_extract rfl rfl rfl rfl) rfl ?_; refine vo_step (ok_assign rfl rfl rfl) rfl ?_; refine vo_step (ok_assign rfl rfl rfl) rfl ?_; refine vo_nil ?_; refine N_seq ?_; refine V_seq ?_
  refine V_region (id := 5) ?_; refine vo_step (ok_loadA L (vs := [_, _, _, _, _, _]) (src_own rfl) rfl rfl rfl rfl ⟨_, rfl⟩) rfl ?_; refine vo_step (ok_build (cs := [_, _, _, _, _, _, _]) rfl rfl pl67 rfl rfl) rfl ?_; refine vo_step (ok_loadA L (vs := [_, _, _, _, _, _]) (src_own rfl) rfl rfl rfl rfl ⟨_, rfl⟩) rfl ?_; refine vo_step (ok_build (cs := [_, _, _, _, _, _, _]) rfl rfl pl67 rfl rfl) rfl ?_; refine vo_step (ok_loadA L (vs := [_, _, _, _, _, _]) (src_own rfl) rfl rfl rfl rfl ⟨_, rfl⟩) rfl ?_; refine vo_step (ok_build (cs := [_, _, _, _, _, _, _]) rfl rfl pl67 rfl rfl) rfl ?_; refine vo_step (ok_loadA L (vs := [_, _, _, _, _, _]) (src_own rfl) rfl rfl rfl rfl ⟨_, rfl⟩) rfl ?_; refine vo_step (ok_build (cs := [_, _, _, _, _, _, _]) rfl rfl pl67 rfl rfl) rfl ?_; refine vo_step (ok_buildSlice L rfl rfl rfl rfl rfl rfl rfl rfl rfl) rfl ?_; refine vo_step (ok_assigns' rfl rfl rfl) rfl ?_; refine vo_nil ?_; refine N_seq ?_; refine V_seq ?_
  refine V_imp 8 (KS tyC l8 true) rfl SlV.mono (fun v H h => h.toV rfl) ?_
  refine V_region (id := 6) ?_; refine vo_step (ok_loadA L (vs := [_, _, _, _]) (src_own rfl) rfl rfl rfl rfl ⟨_, rfl⟩) rfl ?_; refine vo_step (ok_loadA L (vs := [_, _, _, _, _, _]) (src_own rfl) rfl rfl rfl rfl ⟨_, rfl⟩) rfl ?_; refine vo_step (ok_build (cs := [_, _, _, _, _, _, _]) rfl rfl pl54 rfl rfl) rfl ?_; refine vo_step (ok_loadA L (vs := [_, _, _, _, _, _]) (src_own rfl) rfl rfl rfl rfl ⟨_, rfl⟩) rfl ?_; refine vo_step (ok_build (cs := [_, _, _, _, _, _, _]) rfl rfl pl54 rfl rfl) rfl ?_; refine vo_step (ok_buildSlice L rfl rfl rfl rfl rfl rfl rfl rfl rfl) rfl ?_; refine vo_step (ok_moves' rfl rfl rfl) rfl ?_; refine vo_step (ok_call (φ := WriteP [] [(d2, false), (d2, true), (d0, true)] 0) L rfl rfl (blt_lt rfl) rfl rfl rfl WriteP.mono (fun u H hH hle _ v1 g1 v2 g2 => write_ret (s := [d0]) (l := [(d0, false), (d2, true)]) (fl := true) (all _ (by simp)) (all _ (by simp [l8])) (by decide) (by decide) (by decide) w1 hH (hT1.le hle) (g1.toV rfl) g2)) rfl ?_; refine vo_opn 59 rfl ?_; rintro _ H2 hs2 ⟨tv, mv, rfl, hT2, hm2⟩; obtain ⟨x2, y2, k2, q2, rfl, hp2⟩ := hT2.shape; replace hT1 := hT1.le hs2.le; refine vo_step (ok_move rfl rfl rfl) rfl ?_; refine vo_step (ok_extract rfl rfl rfl rfl) rfl ?_; refine vo_step (ok_extract rfl rfl rfl rfl) rfl ?_; refine vo_step (ok_extract rfl rfl rfl rfl) rfl ?_; refine vo_step (ok_alloc L rfl rfl rfl rfl) rfl ?_; refine vo_step (ok_store L rfl rfl rfl rfl rfl rfl (by assumption) rfl) rfl ?_; refine vo_step (ok_assign rfl rfl rfl) rfl ?_; refine vo_step (ok_assign rfl rfl rfl) rfl ?_; refine vo_nil ?_; refine N_seq ?_; refine V_seq ?_
  refine V_seen 10 (KS tyC [(d2, false), (d2, true), (d0, true)] true) rfl SlV.mono hm2 ?_
  have hms : Kn.mono (.sat (SetV [])) := SetV.mono
  have hmk : Kn.mono (.sat (KS tyC [] true)) := SlV.mono
  have hl8 : l8.length = 4 := rfl
  have hc1 : ((l8.flatMap ccs).drop (0 * 7)).take ((1 - 0) * 7) = [(d2, false)].flatMap ccs := rfl
  have hc3 : ((l8.flatMap ccs).drop (0 * 7)).take ((3 - 0) * 7) = [(d2, false), (d2, true), (d0, true)].flatMap ccs := rfl
  refine V_regionD (id := 7) [] mixed (by kernel_rfl) ?_; refine par_step (ok_loadA L (vs := [_, _, _, _]) (src_own rfl) rfl rfl rfl rfl ⟨_, rfl⟩) rfl ?_; refine par_step (ok_loadA L (vs := [_, _, _, _, _, _]) (src_own rfl) rfl rfl rfl rfl ⟨_, rfl⟩) rfl ?_; refine par_step (ok_build (cs := [_, _, _, _, _, _, _]) rfl rfl pl54 rfl rfl) rfl ?_; refine par_step (ok_buildSlice L rfl rfl rfl rfl rfl rfl rfl rfl rfl) rfl ?_; refine par_step (ok_moves' rfl rfl rfl) rfl ?_; refine par_step (ok_sliceV L (kl := .i64) (pl := 0) (km := .i64) (pm := 0) 0 1 false rfl rfl rfl rfl rfl rfl ⟨rfl, rfl⟩ (fun h => by cases h) (by omega) (by omega) (by assumption)) rfl ?_; refine par_step (ok_call (φ := Write3 [] [] 13) L rfl rfl (blt_lt rfl) rfl rfl rfl Write3.mono (fun u H hH hle _ v1 g1 v2 g2 => (write_ret (s := [d0]) (l := [(d2, false)]) (cs := [(d2, false)]) (fl := true) (all _ (by simp)) (all _ (by simp)) (by decide) (by decide) (by decide) w2 hH (hT1.le hle) (g1.toV rfl) g2).mono fun _ _ _ h => h.to3)) rfl ?_; refine par_step (ok_moves' rfl rfl rfl) rfl ?_; refine par_step (ok_extracts rfl rfl rfl rfl (by assumption)) rfl ?_; refine par_step (ok_extracts rfl rfl rfl rfl (by assumption)) rfl ?_; refine par_step (ok_extractx rfl rfl rfl rfl) rfl ?_; refine par_step (ok_alloc L rfl rfl rfl rfl) rfl ?_; refine par_step (ok_storeX L (X := SXp) (fun x => scs x.1) (sphi []) (sphi_mono _) set_st (fun x => ⟨rfl, x.2⟩) rfl rfl rfl rfl rfl) rfl ?_; refine par_step (ok_assigns' rfl rfl rfl) rfl ?_; refine par_step (ok_assign rfl rfl rfl) rfl ?_; refine par_nil ?_; refine N_seq ?_; refine V_seq ?_; refine V_seq ?_
  refine V_region (id := 8) ?_; refine vo_step (ok_loadA L (vs := [_, _, _, _]) (src_own rfl) rfl rfl rfl rfl ⟨_, rfl⟩) rfl ?_; refine vo_step (ok_loadA L (vs := [_, _, _, _, _, _]) (src_own rfl) rfl rfl rfl rfl ⟨_, rfl⟩) rfl ?_; refine vo_step (ok_build (cs := [_, _, _, _, _, _, _]) rfl rfl pl54 rfl rfl) rfl ?_; refine vo_step (ok_callx L rfl rfl (blt_lt rfl) rfl rfl rfl (fun u H hH hle _ => holds_ret (c := (d0, false)) h1 hH (hT1.le hle))) rfl ?_; refine vo_step (ok_not rfl rfl rfl rfl) rfl ?_; refine vo_step (ok_move rfl rfl rfl) rfl ?_; refine vo_step (ok_loadA L (vs := [_, _, _, _]) (src_own rfl) rfl rfl rfl rfl ⟨_, rfl⟩) rfl ?_; refine vo_step (ok_loadA L (vs := [_, _, _, _, _, _]) (src_own rfl) rfl rfl rfl rfl ⟨_, rfl⟩) rfl ?_; refine vo_step (ok_build (cs := [_, _, _, _, _, _, _]) rfl rfl pl54 rfl rfl) rfl ?_; refine vo_step (ok_callx L rfl rfl (blt_lt rfl) rfl rfl rfl (fun u H hH hle _ => holds_ret (c := (d0, true)) h2 hH (hT1.le hle))) rfl ?_; refine vo_step (ok_pick rfl rfl rfl rfl) rfl ?_; refine vo_step (ok_move rfl rfl rfl) rfl ?_; refine vo_step (ok_loadA L (vs := [_, _, _, _]) (src_own rfl) rfl rfl rfl rfl ⟨_, rfl⟩) rfl ?_; refine vo_step (ok_loadA L (vs := [_, _, _, _, _, _]) (src_own rfl) rfl rfl rfl rfl ⟨_, rfl⟩) rfl ?_; refine vo_step (ok_build (cs := [_, _, _, _, _, _, _]) rfl rfl pl54 rfl rfl) rfl ?_; refine vo_step (ok_callx L rfl rfl (blt_lt rfl) rfl rfl rfl (fun u H hH hle _ => holds_ret (c := (d2, true)) h3 hH (hT1.le hle))) rfl ?_; refine vo_step (ok_not rfl rfl rfl rfl) rfl ?_; refine vo_step (ok_pick rfl rfl rfl rfl) rfl ?_; refine vo_step (ok_move rfl rfl rfl) rfl ?_; refine vo_step (ok_move rfl rfl rfl) rfl ?_; refine vo_step (ok_neq rfl rfl rfl rfl (decide_eq_false (by omega))) rfl ?_; refine vo_step (ok_pick rfl rfl rfl rfl) rfl ?_; refine vo_step (ok_move rfl rfl rfl) rfl ?_; refine vo_step (ok_move rfl rfl rfl) rfl ?_; refine vo_step (ok_neq rfl rfl rfl rfl (decide_eq_false (by omega))) rfl ?_; refine vo_step (ok_pick rfl rfl rfl rfl) rfl ?_; refine vo_step (ok_move rfl rfl rfl) rfl ?_; refine vo_step (ok_move rfl rfl rfl) rfl ?_; refine vo_step (ok_neq rfl rfl rfl rfl (decide_eq_false (by omega))) rfl ?_; refine vo_step (ok_pick rfl rfl rfl rfl) rfl ?_; refine vo_step (ok_move rfl rfl rfl) rfl ?_; refine vo_step (ok_move rfl rfl rfl) rfl ?_; refine vo_step (ok_neq rfl rfl rfl rfl (decide_eq_false (by omega))) rfl ?_; refine vo_step (ok_pick rfl rfl rfl rfl) rfl ?_; refine vo_step (ok_move rfl rfl rfl) rfl ?_; refine vo_step (ok_move rfl rfl rfl) rfl ?_; refine vo_step (ok_neq rfl rfl rfl rfl (decide_eq_false (by omega))) rfl ?_; refine vo_step (ok_pick rfl rfl rfl rfl) rfl ?_; refine vo_step (ok_move rfl rfl rfl) rfl ?_; refine vo_step (ok_loadA L (vs := [_, _, _, _]) (src_own rfl) rfl rfl rfl rfl ⟨_, rfl⟩) rfl ?_; refine vo_step (ok_callx L rfl rfl (blt_lt rfl) rfl rfl rfl (fun u H hH hle _ => slen_ret (n := 0) rfl hH (hT2.le hle))) rfl ?_; refine vo_step (ok_neq rfl rfl rfl rfl (decide_eq_false (by omega))) rfl ?_; refine vo_step (ok_pick rfl rfl rfl rfl) rfl ?_; refine vo_step (ok_move rfl rfl rfl) rfl ?_; refine vo_step (ok_moves' rfl rfl rfl) rfl ?_; refine vo_step (ok_moves' rfl rfl rfl) rfl ?_; refine vo_step (ok_sliceV L (kl := .i64) (pl := 0) (km := .i64) (pm := 0) 0 3 false rfl rfl rfl rfl rfl rfl ⟨rfl, rfl⟩ (fun h => by cases h) (by omega) (by omega) (by assumption)) rfl ?_; refine vo_step (ok_callx L rfl rfl (blt_lt rfl) rfl rfl rfl (fun u H hH hle _ v1 g1 v2 g2 => rsame7_ret (e := 1) (by decide) (by decide) (if_pos rfl) hH g1 g2)) rfl ?_; refine vo_step (ok_eql rfl rfl rfl rfl (decide_eq_false (by omega))) rfl ?_; refine vo_step (ok_pick rfl rfl rfl rfl) rfl ?_; refine vo_step (ok_move rfl rfl rfl) rfl ?_; refine vo_step (ok_move rfl rfl rfl) rfl ?_; refine vo_step (ok_neq rfl rfl rfl rfl (decide_eq_false (by omega))) rfl ?_; refine vo_step (ok_pick rfl rfl rfl rfl) rfl ?_; refine vo_nil ?_; refine N_seq ?_; refine V_false rfl ?_; refine V_skip ?_; refine N_seq ?_; refine V_seq ?_
  refine V_region (id := 10) ?_; refine vo_step (ok_loadA L (vs := [_, _, _, _, _, _]) (src_own rfl) rfl rfl rfl rfl ⟨_, rfl⟩) rfl ?_; refine vo_step (ok_build (cs := [_, _, _, _, _, _, _]) rfl rfl pl54 rfl rfl) rfl ?_; refine vo_step (ok_loadA L (vs := [_, _, _, _, _, _]) (src_own rfl) rfl rfl rfl rfl ⟨_, rfl⟩) rfl ?_; refine vo_step (ok_build (cs := [_, _, _, _, _, _, _]) rfl rfl pl54 rfl rfl) rfl ?_; refine vo_step (ok_loadA L (vs := [_, _, _, _, _, _]) (src_own rfl) rfl rfl rfl rfl ⟨_, rfl⟩) rfl ?_; refine vo_step (ok_build (cs := [_, _, _, _, _, _, _]) rfl rfl pl54 rfl rfl) rfl ?_; refine vo_step (ok_buildSlice L rfl rfl rfl rfl rfl rfl rfl rfl rfl) rfl ?_; refine vo_step (ok_callx L rfl rfl (blt_lt rfl) rfl rfl rfl (fun u H hH hle _ v1 g1 => possible_ret (l := [(d0, false), (d2, false), (d0, true)]) (fu := true) (all _ (by simp)) (by decide) p1 hH (g1.toV rfl))) rfl ?_; refine vo_step (ok_not rfl rfl rfl rfl) rfl ?_; refine vo_step (ok_move rfl rfl rfl) rfl ?_; refine vo_step (ok_loadA L (vs := [_, _, _, _, _, _]) (src_own rfl) rfl rfl rfl rfl ⟨_, rfl⟩) rfl ?_; refine vo_step (ok_build (cs := [_, _, _, _, _, _, _]) rfl rfl pl54 rfl rfl) rfl ?_; refine vo_step (ok_loadA L (vs := [_, _, _, _, _, _]) (src_own rfl) rfl rfl rfl rfl ⟨_, rfl⟩) rfl ?_; refine vo_step (ok_build (cs := [_, _, _, _, _, _, _]) rfl rfl pl54 rfl rfl) rfl ?_; refine vo_step (ok_loadA L (vs := [_, _, _, _, _, _]) (src_own rfl) rfl rfl rfl rfl ⟨_, rfl⟩) rfl ?_; refine vo_step (ok_build (cs := [_, _, _, _, _, _, _]) rfl rfl pl54 rfl rfl) rfl ?_; refine vo_step (ok_buildSlice L rfl rfl rfl rfl rfl rfl rfl rfl rfl) rfl ?_; refine vo_step (ok_callx L rfl rfl (blt_lt rfl) rfl rfl rfl (fun u H hH hle _ v1 g1 => possible_ret (l := [(d0, false), (d0, false), (d2, true)]) (fu := true) (all _ (by simp)) (by decide) p2 hH (g1.toV rfl))) rfl ?_; refine vo_step (ok_pick rfl rfl rfl rfl) rfl ?_; refine vo_step (ok_assign rfl rfl rfl) rfl ?_; refine vo_nil ?_; refine N_seq ?_
  refine V_ret L (rs := [.tmp 0]) rfl (fun _ _ h => h) (hs1.trans hs2) fun u H hH hle => ?_
  rfl
end Go.V.L8
/- Plain laws for the statements of chapter 6. -/
namespace Go.V.L6
open Go.Proofs Go.RowKit Go.V Go.V.L2 Go.V.L3
end Go.V.L6
/- Plain laws for the statements of chapter 8. -/
namespace Go.V.L8
open Go.Proofs Go.RowKit Go.V Go.V.L2 Go.V.L3 Go.V.L6
theorem cE_ok {n : Nat} {l : List CH} (h : ∀ c ∈ l, tE c.1 = 0) (hl : l.length ≤ n) : cE n l = 0 := by
  unfold cE
  rw [if_neg (by omega), if_neg]
  rw [List.any_eq_true]
  rintro ⟨c, hc, h1⟩
  rw [decide_eq_true (h c hc)] at h1
  cases h1
theorem writeR_ok {s : List U} {l cs : List CH} (h1 : cE 32 l = 0) (h2 : cE 32 cs = 0) (h3 : (firstR s l).2 = 0) : writeR s l cs = writeL s [] cs := by
  unfold writeR; rw [if_pos h1, if_pos h2, if_pos h3]
theorem writeR_first {s : List U} {l cs : List CH} (h1 : cE 32 l = 0) (h2 : cE 32 cs = 0) (h3 : ¬ (firstR s l).2 = 0) : writeR s l cs = ([], [], (firstR s l).2) := by
  unfold writeR; rw [if_pos h1, if_pos h2, if_neg h3]
theorem firstR_iff {s : List U} {l : List CH} (h0 : cE 32 l = 0) : (firstR s l).2 = 0 ↔ ∀ m ∈ l, holdB s m = true := by
  unfold firstR
  rw [if_pos h0]
  suffices ∀ (l : List CH) i, (firstI s l i).2 = 0 ↔ ∀ m ∈ l, holdB s m = true from this l 0
  intro l
  induction l with
  | nil => intro i; simp [firstI]
  | cons m r ih =>
    intro i
    rw [firstI]
    by_cases hm : holdB s m = true
    · rw [if_pos hm, ih]
      constructor
      · intro h x hx
        rcases List.mem_cons.1 hx with rfl | hx
        · exact hm
        · exact h x hx
      · exact fun h x hx => h x (List.mem_cons_of_mem _ hx)
    · rw [if_neg hm]
      constructor
      · intro h; simp at h
      · exact fun h => absurd (h m (List.mem_cons_self ..)) hm
theorem firstR_13 {s : List U} {l : List CH} (h0 : cE 32 l = 0) (h : ¬ (firstR s l).2 = 0) : (firstR s l).2 = 13 := by
  unfold firstR at h ⊢
  rw [if_pos h0] at h ⊢
  suffices ∀ (l : List CH) i, (firstI s l i).2 = 0 ∨ (firstI s l i).2 = 13 from (this l 0).resolve_left h
  intro l
  induction l with
  | nil => intro i; exact .inl rfl
  | cons m r ih =>
    intro i
    rw [firstI]
    split
    · exact ih _
    · exact .inr rfl
end Go.V.L8
/- MustsWrite (chapter 8). -/
namespace Go.V.L8
open Go.Proofs Go.RowKit Go.V Go.V.L2 Go.V.L3 Go.V.L6
abbrev RW3 (t : List U) (made : List CH) (e : Int) : Value → Heap → Prop := TupS [US t false, KS tyC made false, fun v _ => v = .int .i64 e]
theorem RW3.mono {t : List U} {made : List CH} {e : Int} : Kn.mono (.sat (RW3 t made e)) := LE3.mono SlV.mono SlV.mono
theorem RWriteP.to3 {t : List U} {made : List CH} {e : Int} {v : Value} {H : Heap} (h : RWriteP t made e v H) : RW3 t made e v H := by
  obtain ⟨tv, mv, rfl, h1, h2⟩ := h
  exact LE3.mk h1 h2
attribute [local irreducible] V N X VO Par StepOK Has Ret RetL RetO RetT Src
end Go.V.L8
/- MustsHold (chapter 8). -/
namespace Go.V.L8
open Go.Proofs Go.RowKit Go.V Go.V.L2 Go.V.L3 Go.V.L6
attribute [local irreducible] V N X VO Par StepOK Has Ret RetL RetO RetT Src
end Go.V.L8
/- MustsErrors (chapter 8). -/
namespace Go.V.L8
open Go.Proofs Go.RowKit Go.V Go.V.L2 Go.V.L3 Go.V.L6
attribute [local irreducible] V N X VO Par StepOK Has Ret RetL RetO RetT Src
end Go.V.L8
/- Four thousand tuples (chapter 6). Plain laws. -/
namespace Go.V.L6
open Go.Proofs Go.RowKit Go.V Go.V.L2 Go.V.L3
abbrev d36 : ByteArray := ⟨#[48, 49, 50, 51, 52, 53, 54, 55, 56, 57, 97, 98, 99, 100, 101, 102, 103, 104, 105, 106, 107, 108, 109, 110, 111, 112, 113, 114, 115, 116, 117, 118, 119, 120, 121, 122]⟩
def dgt (k : Nat) : ByteArray := d36.extract k (k + 1)
def db (d : Nat) : UInt8 := if d < 10 then UInt8.ofNat (48 + d) else UInt8.ofNat (87 + d)
theorem dgt_eq : ∀ d, d < 36 → dgt d = ⟨#[db d]⟩ := by decide +kernel
theorem db_lt : ∀ d, d < 36 → ∀ e, e < 36 → d < e → (db d).toNat < (db e).toNat := by decide +kernel
theorem db_ok : ∀ d, d < 36 → okB (db d) = true := by decide +kernel
theorem dgt_size (k : Nat) (h : k < 36) : (dgt k).size = 1 := by rw [dgt_eq k h]; rfl
def dig (i : Nat) : ByteArray := dgt (i / 1296) ++ dgt (i / 36 % 36) ++ dgt (i % 36)
/-- A tuple with another ID. -/
def withID (t : U) (s : ByteArray) : U := (t.1, ((t.2.1.1, s), t.2.2))
/-- The tuple of a number. -/
def kt (t : U) (i : Nat) : U := withID t (dig i)
def kl (t : U) (n : Nat) : List U := (List.range n).map (kt t)
theorem dig_eq {i : Nat} (h : i < 4097) : dig i = ⟨#[db (i / 1296), db (i / 36 % 36), db (i % 36)]⟩ := by
  unfold dig
  rw [dgt_eq _ (by omega), dgt_eq _ (by omega), dgt_eq _ (by omega)]
  rfl
theorem cmpB3 {a b c x y z : UInt8} (h : a.toNat < x.toNat ∨ (a = x ∧ b.toNat < y.toNat) ∨ (a = x ∧ b = y ∧ c.toNat < z.toNat)) : cmpB ⟨#[a, b, c]⟩ ⟨#[x, y, z]⟩ < 0 := by
  have lt : ∀ {p q : UInt8}, p.toNat < q.toNat → p < q := fun h => UInt8.lt_iff_toNat_lt.2 h
  unfold cmpB
  rcases h with h | ⟨rfl, h⟩ | ⟨rfl, rfl, h⟩
  · have := lt h
    simp [Lib.compareBytes, this]
  · have := lt h
    simp [Lib.compareBytes, this]
  · have := lt h
    simp [Lib.compareBytes, this]
theorem dig_lt {i j : Nat} (hj : j < 4097) (h : i < j) : cmpB (dig i) (dig j) < 0 := by
  rw [dig_eq (by omega), dig_eq hj]
  refine cmpB3 ?_
  rcases Nat.lt_trichotomy (i / 1296) (j / 1296) with h1 | h1 | h1
  · exact .inl (db_lt _ (by omega) _ (by omega) h1)
  · rcases Nat.lt_trichotomy (i / 36 % 36) (j / 36 % 36) with h2 | h2 | h2
    · exact .inr (.inl ⟨by rw [h1], db_lt _ (by omega) _ (by omega) h2⟩)
    · exact .inr (.inr ⟨by rw [h1], by rw [h2], db_lt _ (by omega) _ (by omega) (by omega)⟩)
    · omega
  · omega
theorem kt_lt {t : U} {i j : Nat} (hj : j < 4097) (h : i < j) : cmpT (kt t i) (kt t j) < 0 := by
  have key := dig_lt hj h
  unfold kt withID
  generalize dig i = x at key
  generalize dig j = y at key
  have r := fun s => cmpB_ord.refl s
  unfold cmpT cmp3 lexC
  simp only [orL2, r, if_true]
  rw [if_neg (by omega)]
  exact key
theorem kt_ne {t : U} {i j : Nat} (hi : i < 4097) (hj : j < 4097) (h : i ≠ j) : kt t i ≠ kt t j := by
  rcases Nat.lt_or_gt_of_ne h with h | h
  · exact cmpT_ord.ne (kt_lt hj h)
  · exact (cmpT_ord.ne (kt_lt hi h)).symm
theorem dig_ok {i : Nat} (h : i < 4097) : chk (dig i) = 0 ∧ (dig i).size = 3 := by
  rw [dig_eq h]
  refine ⟨chk_all (show 1 ≤ 3 by decide) (show 3 ≤ 16 by decide) ?_, rfl⟩
  show [db (i / 1296), db (i / 36 % 36), db (i % 36)].all okB = true
  simp only [List.all_cons, List.all_nil, db_ok _ (show i / 1296 < 36 by omega), db_ok _ (show i / 36 % 36 < 36 by omega), db_ok _ (show i % 36 < 36 by omega), Bool.and_self]
theorem kt_ok {t : U} (ht : tE t = 0) {i : Nat} (h : i < 4097) : tE (kt t i) = 0 := by
  obtain ⟨⟨h1, h2, h3⟩, h4⟩ := tE_parts ht
  obtain ⟨g1, g2, g3⟩ := subjE_zero h4
  unfold tE kt withID
  rw [if_pos (allE3_of h1 h2 h3)]
  unfold subjE at h4 ⊢
  dsimp only
  have hd := (dig_ok h).1
  by_cases hn : t.2.2 = ⟨#[]⟩
  · rw [if_pos hn]; exact allE2_of g1 hd
  · rw [if_neg hn]; exact allE3_of g1 hd (g3.resolve_left hn)
theorem kt_z {t : U} (ht : TZ t) {i : Nat} (h : i < 4097) : TZ (kt t i) := by
  obtain ⟨⟨h1, h2, h3⟩, h4, h5, h6⟩ := ht
  have hd := (dig_ok h).2
  exact ⟨⟨h1, h2, h3⟩, h4, (by show (dig i).size ≤ _; omega), h6⟩
theorem kl_zero (t : U) : kl t 0 = [] := rfl
theorem kl_length (t : U) (n : Nat) : (kl t n).length = n := by simp [kl]
theorem kl_succ (t : U) (n : Nat) : kl t (n + 1) = kl t n ++ [kt t n] := by simp [kl, List.range_succ]
theorem kl_get {t : U} {n i : Nat} (h : i < n) : (kl t n)[i]? = some (kt t i) := by simp [kl, List.getElem?_range h]
theorem kl_take {t : U} {n k : Nat} (h : k ≤ n) : (kl t n).take k = kl t k := by
  unfold kl
  rw [← List.map_take, List.take_range, Nat.min_eq_left h]
theorem kl_mem {t : U} {n : Nat} {z : U} : z ∈ kl t n ↔ ∃ i, i < n ∧ kt t i = z := by simp [kl]
theorem kl_sst {t : U} {n : Nat} (h : n ≤ 4097) : Sst cmpT (kl t n) := by
  unfold kl Sst
  rw [List.pairwise_map]
  refine List.Pairwise.imp_of_mem (fun ha hb hlt => kt_lt ?_ hlt) List.pairwise_lt_range
  have := List.mem_range.1 hb; omega
theorem insS_end {α : Type} {c : α → α → Int} (h : Ord3 c) {t : α} : ∀ {l : List α}, (∀ z ∈ l, c z t < 0) → insS c t l = l ++ [t]
  | [], _ => rfl
  | y :: l, hl => by
    simp only [insS, List.cons_append]
    rw [if_neg (h.asym (hl y (List.mem_cons_self ..))), insS_end h fun z hz => hl z (List.mem_cons_of_mem _ hz)]
theorem kl_notin {t : U} {n i : Nat} (hi : i < 4097) (h : n ≤ i) : kt t i ∉ kl t n := fun hm => by
  obtain ⟨j, hj, e⟩ := kl_mem.1 hm
  exact kt_ne (by omega) hi (by omega) e
theorem withU_next {t : U} (ht : tE t = 0) {n : Nat} (h : n < 4096) : withU (kl t n) (kt t n) false = (kl t (n + 1), 0) := by
  unfold withU
  rw [if_pos (kt_ok ht (by omega)), if_neg (by decide), if_neg (kl_notin (by omega) (Nat.le_refl _)), if_neg (by rw [kl_length]; omega), kl_succ, insS_end cmpT_ord fun z hz => by
    obtain ⟨j, hj, rfl⟩ := kl_mem.1 hz
    exact kt_lt (by omega) hj]
theorem kl_drop {t : U} {n k : Nat} (h : k < n) : (kl t n).drop k = kt t k :: (kl t n).drop (k + 1) := drop_g (kl_get h)
theorem ofU_kl {t : U} (ht : tE t = 0) : ∀ (m k : Nat), k + m = 4096 → ofU (kl t k) ((kl t 4096).drop k) = (kl t 4096, 0)
  | 0, k, h => by
    obtain rfl : k = 4096 := by omega
    rw [List.drop_eq_nil_of_le (by rw [kl_length]; exact Nat.le_refl _)]
    rfl
  | m + 1, k, h => by
    rw [kl_drop (by omega), ofU, withU_next ht (by omega), if_pos rfl]
    exact ofU_kl ht m (k + 1) (by omega)
theorem ofU_kl0 {t : U} (ht : tE t = 0) : ofU [] (kl t 4096) = (kl t 4096, 0) := ofU_kl ht 4096 0 rfl
theorem withU_drop {l : List U} {x : U} (hx : tE x = 0) : withU l x true = (l.filter fun z => decide (z ≠ x), 0) := by
  unfold withU
  rw [if_pos hx, if_pos rfl]
end Go.V.L6
/- Plain facts of the closed statement of chapter 8. -/
namespace Go.V.L8
open Go.Proofs Go.RowKit Go.V Go.V.L2 Go.V.L3 Go.V.L6
abbrev mN (t : U) : CH := (t, false)
abbrev mD (t : U) : CH := (t, true)
/-- Drops of what is there are all told. -/
theorem write_drops : ∀ (ts : List U) {s : List U} {md : List CH}, s.Nodup → ts.Nodup → (∀ t ∈ ts, t ∈ s ∧ tE t = 0) → ∃ s', writeL s md (ts.map mD) = (s', md ++ ts.map mD, 0) ∧ s'.length + ts.length = s.length
  | [], s, md, _, _, _ => ⟨s, by rw [List.map_nil, List.append_nil]; rfl, rfl⟩
  | t :: r, s, md, hs, ht, hm => by
    obtain ⟨h1, h2⟩ := List.nodup_cons.1 ht
    obtain ⟨g1, g2⟩ := hm t (List.mem_cons_self ..)
    have hw := withU_drop (l := s) g2
    have hl := len_drop hs g1
    obtain ⟨s', e, hlen⟩ := write_drops r (s := s.filter fun z => decide (z ≠ t)) (md := md ++ [mD t]) (hs.sublist List.filter_sublist) h2 (fun x hx => by
      obtain ⟨k1, k2⟩ := hm x (List.mem_cons_of_mem _ hx)
      exact ⟨List.mem_filter.2 ⟨k1, by simp; rintro rfl; exact h1 hx⟩, k2⟩)
    refine ⟨s', ?_, by simp only [List.length_cons]; omega⟩
    rw [List.map_cons, writeL]
    dsimp only
    rw [hw]
    dsimp only
    rw [if_pos rfl, if_pos (decide_eq_true g1), e, List.append_assoc]; rfl
def ml (t : U) (i : Nat) : List CH := (kl t (min i 33)).map mN
def cl (t : U) (i : Nat) : List CH := (kl t (min i 33)).map mD
theorem ml_length (t : U) (i : Nat) : (ml t i).length = min i 33 := by unfold ml; rw [List.length_map, kl_length]
theorem cl_length (t : U) (i : Nat) : (cl t i).length = min i 33 := by unfold cl; rw [List.length_map, kl_length]
theorem ml_succ {t : U} {i : Nat} (h : i < 33) : ml t (i + 1) = ml t i ++ [mN (kt t i)] := by unfold ml; rw [Nat.min_eq_left (by omega), Nat.min_eq_left (by omega), kl_succ, List.map_append]; rfl
theorem cl_succ {t : U} {i : Nat} (h : i < 33) : cl t (i + 1) = cl t i ++ [mD (kt t i)] := by unfold cl; rw [Nat.min_eq_left (by omega), Nat.min_eq_left (by omega), kl_succ, List.map_append]; rfl
theorem ml_same {t : U} {i : Nat} (h : 33 ≤ i) : ml t (i + 1) = ml t i := by unfold ml; rw [Nat.min_eq_right (by omega), Nat.min_eq_right (by omega)]
theorem cl_same {t : U} {i : Nat} (h : 33 ≤ i) : cl t (i + 1) = cl t i := by unfold cl; rw [Nat.min_eq_right (by omega), Nat.min_eq_right (by omega)]
theorem ml_take (t : U) : (ml t 4096).take 32 = ml t 32 := by unfold ml; rw [← List.map_take, kl_take (by omega)]; rfl
theorem cl_take (t : U) : (cl t 4096).take 32 = cl t 32 := by unfold cl; rw [← List.map_take, kl_take (by omega)]; rfl
theorem ml_mem {t : U} {i : Nat} {m : CH} (h : m ∈ ml t i) : ∃ j, j < 33 ∧ j < i ∧ m = (kt t j, false) := by
  unfold ml at h
  obtain ⟨z, hz, rfl⟩ := List.mem_map.1 h
  obtain ⟨j, hj, rfl⟩ := kl_mem.1 hz
  exact ⟨j, by omega, by omega, rfl⟩
theorem cl_mem {t : U} {i : Nat} {m : CH} (h : m ∈ cl t i) : ∃ j, j < 33 ∧ j < i ∧ m = (kt t j, true) := by
  unfold cl at h
  obtain ⟨z, hz, rfl⟩ := List.mem_map.1 h
  obtain ⟨j, hj, rfl⟩ := kl_mem.1 hz
  exact ⟨j, by omega, by omega, rfl⟩
/-- The facts of the closed statement. -/
structure K8 (t b : U) (T Z : List U) : Prop where
  w1 : writeR (kl t 4096) (ml t 32) (cl t 32) = (T, cl t 32, 0)
  lt : T.length = 4064
  w2 : writeR (kl t 4096) (ml t 4096) [] = ([], [], 3)
  w3 : writeR (kl t 4096) [] (cl t 4096) = ([], [], 3)
  w4 : writeR (kl t 4096) [] [(b, false), (kt t 0, true)] = ([], [], 3)
  w5 : writeR (kl t 4096) [] [(kt t 0, true), (b, false)] = (Z, [(kt t 0, true), (b, false)], 0)
  lz : Z.length = 4096
  w6 : writeR (kl t 4096) [(b, false)] [(b, false)] = ([], [], 13)
theorem k8 {t b : U} (ht : tE t = 0) (hb : tE b = 0) (hbt : b.1 ≠ t.1) : ∃ T Z, K8 t b T Z := by
  have nb : ∀ n, b ∉ kl t n := fun n h => by
    obtain ⟨i, _, rfl⟩ := kl_mem.1 h
    exact hbt rfl
  have sK := kl_sst (t := t) (n := 4096) (by omega)
  have nK := sK.nodup cmpT_ord
  have m0 : kt t 0 ∈ kl t 4096 := kl_mem.2 ⟨0, by omega, rfl⟩
  have e0 := kt_ok ht (show 0 < 4097 by omega)
  have c1 : cE 32 (ml t 32) = 0 := cE_ok (fun m h => by obtain ⟨j, hj, _, rfl⟩ := ml_mem h; exact kt_ok ht (by omega)) (by rw [ml_length]; omega)
  have c2 : cE 32 (cl t 32) = 0 := cE_ok (fun m h => by obtain ⟨j, hj, _, rfl⟩ := cl_mem h; exact kt_ok ht (by omega)) (by rw [cl_length]; omega)
  have f1 : (firstR (kl t 4096) (ml t 32)).2 = 0 := (firstR_iff c1).2 fun m h => by
    obtain ⟨j, hj, _, rfl⟩ := ml_mem h
    unfold holdB
    rw [decide_eq_true (kl_mem.2 ⟨j, by omega, rfl⟩)]; rfl
  obtain ⟨T, hT, lT⟩ := write_drops (kl t 32) (s := kl t 4096) (md := []) nK ((kl_sst (t := t) (n := 32) (by omega)).nodup cmpT_ord) (fun x hx => by
    obtain ⟨i, hi, rfl⟩ := kl_mem.1 hx
    exact ⟨kl_mem.2 ⟨i, by omega, rfl⟩, kt_ok ht (by omega)⟩)
  rw [kl_length, kl_length] at lT
  have g33 : cE 32 (ml t 4096) = 3 := by unfold cE; rw [ml_length, if_pos (by omega)]
  have h33 : cE 32 (cl t 4096) = 3 := by unfold cE; rw [cl_length, if_pos (by omega)]
  have cb1 : cE 32 [(b, false), (kt t 0, true)] = 0 := cE_ok (fun m h => by
    rcases List.mem_cons.1 h with rfl | h
    · exact hb
    · rw [List.mem_singleton] at h; subst h; exact e0) (by simp)
  have cb2 : cE 32 [(kt t 0, true), (b, false)] = 0 := cE_ok (fun m h => by
    rcases List.mem_cons.1 h with rfl | h
    · exact e0
    · rw [List.mem_singleton] at h; subst h; exact hb) (by simp)
  have cb3 : cE 32 [(b, false)] = 0 := cE_ok (fun m h => by rw [List.mem_singleton] at h; subst h; exact hb) (by simp)
  have cn : cE 32 [] = 0 := cE_ok (fun m h => by cases h) (by decide)
  have fn : (firstR (kl t 4096) []).2 = 0 := (firstR_iff cn).2 fun m h => by cases h
  have wb : withU (kl t 4096) b false = ([], 3) := by
    unfold withU
    rw [if_pos hb, if_neg (by decide), if_neg (nb _), if_pos (by rw [kl_length]; omega)]
  have wd := withU_drop (l := kl t 4096) e0
  have ld := len_drop nK m0
  rw [kl_length] at ld
  have nd : b ∉ (kl t 4096).filter fun z => decide (z ≠ kt t 0) := fun h => nb _ (List.mem_filter.1 h).1
  have we : withU ((kl t 4096).filter fun z => decide (z ≠ kt t 0)) b false = (insS cmpT b ((kl t 4096).filter fun z => decide (z ≠ kt t 0)), 0) := by
    unfold withU
    rw [if_pos hb, if_neg (by decide), if_neg nd, if_neg (by omega)]
  refine ⟨T, insS cmpT b ((kl t 4096).filter fun z => decide (z ≠ kt t 0)), ?_, by omega, ?_, ?_, ?_, ?_, by rw [insS_length]; omega, ?_⟩
  · rw [writeR_ok c1 c2 f1]
    have : cl t 32 = (kl t 32).map mD := rfl
    rw [this, hT]; rfl
  · unfold writeR; rw [g33, if_neg (by decide)]
  · unfold writeR; rw [cn, if_pos rfl, h33, if_neg (by decide)]
  · rw [writeR_ok cn cb1 fn, writeL]
    dsimp only
    rw [wb, if_neg (by decide)]
  · rw [writeR_ok cn cb2 fn, writeL]
    dsimp only
    rw [wd]
    dsimp only
    rw [if_pos rfl, if_pos (decide_eq_true m0), writeL]
    dsimp only
    rw [we]
    dsimp only
    rw [if_pos rfl, if_pos (decide_eq_false nd)]
    rfl
  · have h1 : ¬ (firstR (kl t 4096) [(b, false)]).2 = 0 := fun h => by
      have := (firstR_iff cb3).1 h _ (List.mem_singleton.2 rfl)
      unfold holdB at this
      rw [decide_eq_false (nb _)] at this
      cases this
    rw [writeR_first cb3 cb3 h1, firstR_13 cb3 h1]
end Go.V.L8
/- MustsKnown (chapter 8). -/
namespace Go.V.L8
open Go.Proofs Go.RowKit Go.V Go.V.L2 Go.V.L3 Go.V.L6
theorem cs_cut (l : List CH) (k : Nat) : ((l.flatMap ccs).drop (0 * 7)).take ((k - 0) * 7) = (l.take k).flatMap ccs := by
  rw [Nat.zero_mul, List.drop_zero, Nat.sub_zero]
  rcases Nat.lt_or_ge k l.length with h | h
  · conv => lhs; rw [← List.take_append_drop k l, List.flatMap_append]
    rw [List.take_left' (by rw [flatMap_len ccs_len, List.length_take, Nat.min_eq_left (by omega)])]
  · rw [List.take_of_length_le (by rw [flatMap_len ccs_len]; exact Nat.mul_le_mul_right _ h), List.take_of_length_le h]
attribute [local irreducible] V N X VO Par StepOK Has Ret RetL RetO RetT Src kl ml cl
set_option maxHeartbeats 16000000 in
set_option maxRecDepth 20000 in
theorem mustsKnown_law {w : World} {B : Heap} (hB : B.Le (hp w)) : Ret Try.prog 4 [] w B (fun v _ => v = .bool true) := by
  have t0 : tE d0 = 0 := by decide +kernel
  have t2 : tE d2 = 0 := by decide +kernel
  have tz : TZ d0 := tz_ofB (by decide)
  have tz2 : TZ d2 := tz_ofB (by decide)
  have tm2 := tm_z tz2
  have hne : d2.1 ≠ d0.1 := by decide
  refine V_enter Try.func4 rfl Try.ntmps4 (Nat.le_of_ble_eq_true rfl) hB ?_
  refine V_seq ?_; refine V_region (id := 0) ?_; refine vo_step (ok_assign rfl rfl rfl) rfl ?_; refine vo_nil ?_; refine N_seq ?_; refine V_seq ?_; refine V_region (id := 1) ?_; refine vo_step (ok_callx L rfl rfl (blt_lt rfl) rfl rfl rfl (fun u H hH _ _ => two8_ret hH)) rfl ?_; refine vo_step (ok_move rfl rfl rfl) rfl ?_; refine vo_step (ok_extract rfl rfl rfl rfl) rfl ?_; refine vo_step (ok_extract rfl rfl rfl rfl) rfl ?_; refine vo_step (ok_alloc L rfl rfl rfl rfl) rfl ?_; refine vo_step (ok_alloc L rfl rfl rfl rfl) rfl ?_; refine vo_step (ok_store L rfl rfl rfl rfl rfl rfl rfl rfl) rfl ?_; refine vo_step (ok_store L rfl rfl rfl rfl rfl rfl rfl rfl) rfl ?_; refine vo_nil ?_; refine N_seq ?_; refine V_seq ?_; refine V_region (id := 2) ?_; refine vo_step (ok_assign rfl rfl rfl) rfl ?_; refine vo_nil ?_; refine N_seq ?_; refine V_seq ?_; refine V_region (id := 3) ?_; refine vo_step (ok_assign rfl rfl rfl) rfl ?_; refine vo_nil ?_; refine N_seq ?_; refine V_seq ?_; refine V_region (id := 4) ?_; refine vo_step (ok_assign rfl rfl rfl) rfl ?_; refine vo_nil ?_; refine N_seq ?_; refine V_seq ?_; refine V_region (id := 5) ?_; refine vo_step (ok_assign rfl rfl rfl) rfl ?_; refine vo_nil ?_; refine N_seq ?_; refine V_seq ?_; refine V_seq ?_; refine V_region (id := 6) ?_; refine vo_step (ok_assign rfl rfl rfl) rfl ?_; refine vo_nil ?_; refine N_seq ?_; refine V_block ?_
  refine V_nilR 4 tyU 6 rfl ?_
  refine V_nilR 5 tyM 7 rfl ?_
  refine V_nilR 6 tyC 7 rfl ?_
  refine V_loop (fun i : Nat => [(1, .own (Cell (ucs d0) tyU)), (2, .own (Cell (ucs d2) tyU)), (3, .is (.string d36)), (4, .own (SlR tyU 6 (kl d0 i).length ((kl d0 i).flatMap ucs))), (5, .own (SlR tyM 7 (ml d0 i).length ((ml d0 i).flatMap ccs))), (6, .own (SlR tyC 7 (cl d0 i).length ((cl d0 i).flatMap ccs))), (7, .is (.int .i64 i))]) (fun i => i ≤ 4096) (fun i => 4096 - i) 0 (Nat.zero_le _)
    ⟨rfl, rfl, rfl, by show _ = some (Kn.own (SlR tyU 6 (kl d0 0).length ((kl d0 0).flatMap ucs))); rw [kl_zero]; rfl, by show _ = some (Kn.own (SlR tyM 7 (ml d0 0).length ((ml d0 0).flatMap ccs))); rw [show ml d0 0 = [] from by unfold ml; rw [Nat.zero_min, kl_zero]; rfl]; rfl, by show _ = some (Kn.own (SlR tyC 7 (cl d0 0).length ((cl d0 0).flatMap ccs))); rw [show cl d0 0 = [] from by unfold cl; rw [Nat.zero_min, kl_zero]; rfl]; rfl, rfl, trivial⟩ ?_
  rintro i hi
  have hki := kl_length d0 i
  have hmi := ml_length d0 i
  have hci := cl_length d0 i
  by_cases hlt : i < 4096
  · have q1296 : IntKind.i64.wrap ((i : Int).tdiv 1296) = ((i / 1296 : Nat) : Int) := wrap_i64 (by rw [show (i : Int).tdiv 1296 = ((i / 1296 : Nat) : Int) from rfl]; omega) (by rw [show (i : Int).tdiv 1296 = ((i / 1296 : Nat) : Int) from rfl]; omega)
    have q36 : IntKind.i64.wrap ((i : Int).tdiv 36) = ((i / 36 : Nat) : Int) := wrap_i64 (by rw [show (i : Int).tdiv 36 = ((i / 36 : Nat) : Int) from rfl]; omega) (by rw [show (i : Int).tdiv 36 = ((i / 36 : Nat) : Int) from rfl]; omega)
    have r36 : Int.tmod ((i / 36 : Nat) : Int) 36 = ((i / 36 % 36 : Nat) : Int) := rfl
    have r1 : Int.tmod (i : Int) 36 = ((i % 36 : Nat) : Int) := rfl
    have s1 := dgt_size (i / 1296) (by omega)
    have s2 := dgt_size (i / 36 % 36) (by omega)
    have s3 := dgt_size (i % 36) (by omega)
    have habc : d36.size = 36 := rfl
    have h1 : (dgt (i / 1296)).size + (dgt (i / 36 % 36)).size ≤ 9223372036854775807 := by omega
    have h2 : (dgt (i / 1296) ++ dgt (i / 36 % 36)).size + (dgt (i % 36)).size ≤ 9223372036854775807 := by rw [ByteArray.size_append]; omega
    unfold dgt at h1 h2
    have a1 : IntKind.i64.wrap (((i / 1296 : Nat) : Int) + 1) = ((i / 1296 + 1 : Nat) : Int) := wrap_i64 (by omega) (by omega)
    have a2 : IntKind.i64.wrap (((i / 36 % 36 : Nat) : Int) + 1) = ((i / 36 % 36 + 1 : Nat) : Int) := wrap_i64 (by omega) (by omega)
    have a3 : IntKind.i64.wrap (((i % 36 : Nat) : Int) + 1) = ((i % 36 + 1 : Nat) : Int) := wrap_i64 (by omega) (by omega)
    refine V_seq ?_; refine V_seq ?_; refine V_region (id := 7) ?_; refine vo_step (ok_move rfl rfl rfl) rfl ?_; refine vo_step (ok_lss rfl rfl rfl rfl (decide_eq_true (by omega))) rfl ?_; refine vo_nil ?_; refine N_seq ?_; refine V_true rfl ?_; refine V_skip ?_; refine N_seq ?_; refine V_seq ?_; refine V_block ?_; refine V_seq ?_; refine V_region (id := 9) ?_; refine vo_step (ok_loadA L (vs := [_, _, _, _, _, _]) (src_own rfl) rfl rfl rfl rfl ⟨_, rfl⟩) rfl ?_; refine vo_step (ok_alloc L rfl rfl rfl rfl) rfl ?_; refine vo_step (ok_store L rfl rfl rfl rfl rfl rfl rfl rfl) rfl ?_; refine vo_nil ?_; refine N_seq ?_; refine V_seq ?_
    refine V_hold 8 900 rfl fun b8 => ?_
    refine V_regionD (id := 10) [(100064, [900])] mixed (by kernel_rfl) ?_; refine par_step (ok_move rfl rfl rfl) rfl ?_; refine par_step (ok_move rfl rfl rfl) rfl ?_; refine par_step (ok_quo rfl rfl rfl rfl (by omega) (by assumption)) rfl ?_; refine par_step (ok_move rfl rfl rfl) rfl ?_; refine par_step (ok_quo rfl rfl rfl rfl (by omega) (by assumption)) rfl ?_; refine par_step (ok_add rfl rfl rfl rfl (by assumption)) rfl ?_; refine par_step (ok_sliceS L _ _ rfl rfl rfl rfl ⟨rfl, rfl⟩ ⟨rfl, rfl⟩ (by omega) (by omega) rfl) rfl ?_; refine par_step (ok_move rfl rfl rfl) rfl ?_; refine par_step (ok_move rfl rfl rfl) rfl ?_; refine par_step (ok_quo rfl rfl rfl rfl (by omega) (by assumption)) rfl ?_; refine par_step (ok_rem rfl rfl rfl rfl (by omega) (by assumption)) rfl ?_; refine par_step (ok_move rfl rfl rfl) rfl ?_; refine par_step (ok_quo rfl rfl rfl rfl (by omega) (by assumption)) rfl ?_; refine par_step (ok_rem rfl rfl rfl rfl (by omega) (by assumption)) rfl ?_; refine par_step (ok_add rfl rfl rfl rfl (by assumption)) rfl ?_; refine par_step (ok_sliceS L _ _ rfl rfl rfl rfl ⟨rfl, rfl⟩ ⟨rfl, rfl⟩ (by omega) (by omega) rfl) rfl ?_; refine par_step (ok_sadd rfl rfl rfl rfl (by assumption) rfl) rfl ?_; refine par_step (ok_move rfl rfl rfl) rfl ?_; refine par_step (ok_move rfl rfl rfl) rfl ?_; refine par_step (ok_rem rfl rfl rfl rfl (by omega) (by assumption)) rfl ?_; refine par_step (ok_move rfl rfl rfl) rfl ?_; refine par_step (ok_rem rfl rfl rfl rfl (by omega) (by assumption)) rfl ?_; refine par_step (ok_add rfl rfl rfl rfl (by assumption)) rfl ?_; refine par_step (ok_sliceS L _ _ rfl rfl rfl rfl ⟨rfl, rfl⟩ ⟨rfl, rfl⟩ (by omega) (by omega) rfl) rfl ?_; refine par_step (ok_sadd rfl rfl rfl rfl (by assumption) rfl) rfl ?_; refine par_step (ok_fieldP L rfl rfl rfl rfl) rfl ?_; refine par_step (ok_fieldP L rfl rfl rfl rfl) rfl ?_; refine par_step (ok_fieldP L rfl rfl rfl rfl) rfl ?_; refine par_stepS (ok_storeH L (q := 900) rfl rfl rfl rfl rfl rfl rfl rfl rfl) rfl ?_; refine par_nil ?_; refine N_seq ?_; refine V_seq ?_
    refine V_release 8 900 rfl rfl ?_
    by_cases h33 : i < 33
    · refine V_region (id := 11) ?_; refine vo_step2 (ok_moveO (.inl rfl) rfl rfl rfl rfl) ?_; refine vo_step (ok_loadA L (vs := [_, _, _, _, _, _]) (src_own rfl) rfl rfl rfl rfl ⟨_, rfl⟩) rfl ?_; refine vo_step (ok_buildSlice L rfl rfl rfl rfl rfl rfl rfl rfl rfl) rfl ?_; refine vo_step2 (ok_append L rfl rfl rfl (apd_B rfl) rfl el52 rfl rfl (by omega) (by omega)) ?_; refine vo_step2 (ok_moveO (.inr rfl) rfl rfl rfl rfl) ?_; refine vo_nil ?_; refine N_seq ?_; refine V_seq ?_; refine V_region (id := 12) ?_; refine vo_step (ok_move rfl rfl rfl) rfl ?_; refine vo_step (ok_lss rfl rfl rfl rfl (decide_eq_true (by omega))) rfl ?_; refine vo_nil ?_; refine N_seq ?_; refine V_true rfl ?_; refine V_seq ?_; refine V_region (id := 13) ?_; refine vo_step2 (ok_moveO (.inl rfl) rfl rfl rfl rfl) ?_; refine vo_step (ok_loadA L (vs := [_, _, _, _, _, _]) (src_own rfl) rfl rfl rfl rfl ⟨_, rfl⟩) rfl ?_; refine vo_step (ok_build (cs := [_, _, _, _, _, _, _]) rfl rfl pl54 rfl rfl) rfl ?_; refine vo_step (ok_buildSlice L rfl rfl rfl rfl rfl rfl rfl rfl rfl) rfl ?_; refine vo_step2 (ok_append L rfl rfl rfl (apd_B rfl) rfl el54 rfl rfl (by omega) (by omega)) ?_; refine vo_step2 (ok_moveO (.inr rfl) rfl rfl rfl rfl) ?_; refine vo_nil ?_; refine N_seq ?_; refine V_region (id := 14) ?_; refine vo_step2 (ok_moveO (.inl rfl) rfl rfl rfl rfl) ?_; refine vo_step (ok_loadA L (vs := [_, _, _, _, _, _]) (src_own rfl) rfl rfl rfl rfl ⟨_, rfl⟩) rfl ?_; refine vo_step (ok_build (cs := [_, _, _, _, _, _, _]) rfl rfl pl67 rfl rfl) rfl ?_; refine vo_step (ok_buildSlice L rfl rfl rfl rfl rfl rfl rfl rfl rfl) rfl ?_; refine vo_step2 (ok_append L rfl rfl rfl (apd_B rfl) rfl el67 rfl rfl (by omega) (by omega)) ?_; refine vo_step2 (ok_moveO (.inr rfl) rfl rfl rfl rfl) ?_; refine vo_nil ?_; refine N_block ?_; refine N_seq ?_; refine V_region (id := 8) ?_; refine vo_step (ok_move rfl rfl rfl) rfl ?_; refine vo_step (ok_add rfl rfl rfl rfl (wrap_i64 (by omega) (by omega))) rfl ?_; refine vo_step (ok_assign rfl rfl rfl) rfl ?_; refine vo_nil ?_
      exact N_round (x := i) (i + 1) hlt (by omega) ⟨rfl, rfl, rfl, by rw [kl_succ]; exact ups_snoc rfl, by rw [ml_succ h33]; exact ks_snoc rfl, by rw [cl_succ h33]; exact ks_snoc rfl, rfl, trivial⟩
    · refine V_region (id := 11) ?_; refine vo_step2 (ok_moveO (.inl rfl) rfl rfl rfl rfl) ?_; refine vo_step (ok_loadA L (vs := [_, _, _, _, _, _]) (src_own rfl) rfl rfl rfl rfl ⟨_, rfl⟩) rfl ?_; refine vo_step (ok_buildSlice L rfl rfl rfl rfl rfl rfl rfl rfl rfl) rfl ?_; refine vo_step2 (ok_append L rfl rfl rfl (apd_B rfl) rfl el52 rfl rfl (by omega) (by omega)) ?_; refine vo_step2 (ok_moveO (.inr rfl) rfl rfl rfl rfl) ?_; refine vo_nil ?_; refine N_seq ?_; refine V_seq ?_; refine V_region (id := 12) ?_; refine vo_step (ok_move rfl rfl rfl) rfl ?_; refine vo_step (ok_lss rfl rfl rfl rfl (decide_eq_false (by omega))) rfl ?_; refine vo_nil ?_; refine N_seq ?_; refine V_false rfl ?_; refine V_skip ?_; refine N_block ?_; refine N_seq ?_; refine V_region (id := 8) ?_; refine vo_step (ok_move rfl rfl rfl) rfl ?_; refine vo_step (ok_add rfl rfl rfl rfl (wrap_i64 (by omega) (by omega))) rfl ?_; refine vo_step (ok_assign rfl rfl rfl) rfl ?_; refine vo_nil ?_
      exact N_round (x := i) (i + 1) hlt (by omega) ⟨rfl, rfl, rfl, by rw [kl_succ]; exact ups_snoc rfl, by rw [ml_same (by omega)]; rfl, by rw [cl_same (by omega)]; rfl, rfl, trivial⟩
  · obtain rfl : i = 4096 := by omega
    clear hi hlt
    refine V_pubR 4 rfl ?_
    refine V_pubR 5 rfl ?_
    refine V_pubR 6 rfl ?_
    obtain ⟨T, Z, w1, lT, w2, w3, w4, w5, lZ, w6⟩ := k8 t0 t2 hne
    have o4 := ofU_kl0 t0
    have z4 : ∀ x ∈ kl d0 4096, TZ x := fun x hx => by obtain ⟨i, hi, rfl⟩ := kl_mem.1 hx; exact kt_z tz (by omega)
    have zM : ∀ m ∈ ml d0 4096, TM m.1 := fun m h => by obtain ⟨j, hj, _, rfl⟩ := ml_mem h; exact tm_z (kt_z tz (by omega))
    have zC' : ∀ m ∈ cl d0 4096, TM m.1 := fun m h => by obtain ⟨j, hj, _, rfl⟩ := cl_mem h; exact tm_z (kt_z tz (by omega))
    have zM2 : ∀ m ∈ ml d0 32, TM m.1 := fun m h => by obtain ⟨j, hj, _, rfl⟩ := ml_mem h; exact tm_z (kt_z tz (by omega))
    have zC2 : ∀ m ∈ cl d0 32, TM m.1 := fun m h => by obtain ⟨j, hj, _, rfl⟩ := cl_mem h; exact tm_z (kt_z tz (by omega))
    have lM2 := ml_length d0 32
    have lC2 := cl_length d0 32
    have hcM := cs_cut (ml d0 4096) 32
    rw [ml_take] at hcM
    have hcC := cs_cut (cl d0 4096) 32
    rw [cl_take] at hcC
    have hM2 : ∀ {v : Value} {H : Heap}, SlV tyM 7 ((ml d0 32).flatMap ccs) (32 - 0) false v H → KS tyM (ml d0 32) false v H := fun h => by unfold KS; rw [lM2]; exact h
    have hC2 : ∀ {v : Value} {H : Heap}, SlV tyC 7 ((cl d0 32).flatMap ccs) (32 - 0) false v H → KS tyC (cl d0 32) false v H := fun h => by unfold KS; rw [lC2]; exact h
    have g0 : (cl d0 4096)[0]? = some (kt d0 0, true) := by
      have : cl d0 4096 = (kl d0 33).map mD := by unfold cl; rfl
      rw [this, List.getElem?_map, kl_get (by omega)]; rfl
    have c0 := ks_at g0
    have tm0 := tm_z (kt_z tz (show 0 < 4097 by omega))
    have pair : ∀ (a b : CH), TM a.1 → TM b.1 → ∀ c ∈ [a, b], TM c.1 := fun a b ha hb c hc => by
      rcases List.mem_cons.1 hc with rfl | hc
      · exact ha
      · rw [List.mem_singleton] at hc; subst hc; exact hb
    have one : ∀ (a : CH), TM a.1 → ∀ c ∈ [a], TM c.1 := fun a ha c hc => by rw [List.mem_singleton] at hc; subst hc; exact ha
    have none_ : ∀ c ∈ ([] : List CH), TM c.1 := fun c hc => by cases hc
    clear g0
    generalize kt d0 0 = y0 at *
    generalize kl d0 4096 = K4 at *
    generalize ml d0 4096 = M4 at *
    generalize cl d0 4096 = C4 at *
    generalize ml d0 32 = M2 at *
    generalize cl d0 32 = C2 at *
    dsimp only at c0
    have m1 : Kn.mono (.sat (SetV T)) := SetV.mono
    have m2 : Kn.mono (.sat (KS tyC C2 true)) := SlV.mono
    have m3 : Kn.mono (.sat (SetV [])) := SetV.mono
    have m4 : Kn.mono (.sat (KS tyC [] true)) := SlV.mono
    have m5 : Kn.mono (.sat (SetV Z)) := SetV.mono
    have m6 : Kn.mono (.sat (KS tyC [(y0, true), (d2, false)] true)) := SlV.mono
    refine V_seq ?_; refine V_seq ?_; refine V_region (id := 7) ?_; refine vo_step (ok_move rfl rfl rfl) rfl ?_; refine vo_step (ok_lss rfl rfl rfl rfl (decide_eq_false (by omega))) rfl ?_; refine vo_nil ?_; refine N_seq ?_; refine V_false rfl ?_; refine V_exit ?_; refine X_then ?_; refine X_then ?_; refine X_here ?_; refine N_seq ?_; refine V_seq ?_; refine V_region (id := 15) ?_; refine vo_step (ok_moves' rfl rfl rfl) rfl ?_; refine vo_step (ok_call (φ := SetV K4) L rfl rfl (blt_lt rfl) rfl rfl rfl SetV.mono (fun u H hH _ _ v1 h1 => set8_ret o4 (by omega) z4 hH h1)) rfl ?_; refine vo_opn 82 rfl ?_; rintro _ H1 hs1 hT1; obtain ⟨f1, p1, k1, q1, rfl, hp1⟩ := hT1.shape; refine vo_step (ok_alloc L rfl rfl rfl rfl) rfl ?_; refine vo_step (ok_store L rfl rfl rfl rfl rfl rfl (by assumption) rfl) rfl ?_; refine vo_nil ?_; refine N_seq ?_; refine V_seq ?_
    refine V_regionD (id := 16) [] mixed (by kernel_rfl) ?_; refine par_step (ok_loadA L (vs := [_, _, _, _]) (src_own rfl) rfl rfl rfl rfl ⟨_, rfl⟩) rfl ?_; refine par_step (ok_moves' rfl rfl rfl) rfl ?_; refine par_step (ok_sliceV L (kl := .i64) (pl := 0) (km := .i64) (pm := 0) 0 32 false rfl rfl rfl rfl rfl rfl ⟨rfl, rfl⟩ (fun h => by cases h) (by omega) (by omega) hcM) rfl ?_; refine par_step (ok_moves' rfl rfl rfl) rfl ?_; refine par_step (ok_sliceV L (kl := .i64) (pl := 0) (km := .i64) (pm := 0) 0 32 false rfl rfl rfl rfl rfl rfl ⟨rfl, rfl⟩ (fun h => by cases h) (by omega) (by omega) hcC) rfl ?_; refine par_step (ok_call (φ := Write3 T C2 0) L rfl rfl (blt_lt rfl) rfl rfl rfl Write3.mono (fun u H hH hle _ v1 g1 v2 g2 => (write_ret zM2 zC2 (by omega) (by omega) (by omega) w1 hH (hT1.le hle) (hM2 g1) (hC2 g2)).mono fun _ _ _ h => h.to3)) rfl ?_; refine par_step (ok_moves' rfl rfl rfl) rfl ?_; refine par_step (ok_extracts rfl rfl rfl rfl (by assumption)) rfl ?_; refine par_step (ok_extracts rfl rfl rfl rfl (by assumption)) rfl ?_; refine par_step (ok_extractx rfl rfl rfl rfl) rfl ?_; refine par_step (ok_alloc L rfl rfl rfl rfl) rfl ?_; refine par_step (ok_storeX L (X := SXp) (fun x => scs x.1) (sphi T) (sphi_mono _) set_st (fun x => ⟨rfl, x.2⟩) rfl rfl rfl rfl rfl) rfl ?_; refine par_step (ok_assigns' rfl rfl rfl) rfl ?_; refine par_step (ok_assign rfl rfl rfl) rfl ?_; refine par_nil ?_; refine N_seq ?_; refine V_seq ?_
    refine V_region (id := 17) ?_; refine vo_step (ok_loadA L (vs := [_, _, _, _]) (src_own rfl) rfl rfl rfl rfl ⟨_, rfl⟩) rfl ?_; refine vo_step (ok_moves' rfl rfl rfl) rfl ?_; refine vo_step (ok_call (φ := Write3 [] [] 3) L rfl rfl (blt_lt rfl) rfl rfl rfl Write3.mono (fun u H hH hle _ v1 g1 => (write_ret zM none_ (by omega) (by decide) (by omega) w2 hH (hT1.le hle) g1 (SlV.nil (fu := true))).mono fun _ _ _ h => h.to3)) rfl ?_; refine vo_step (ok_moves' rfl rfl rfl) rfl ?_; refine vo_step (ok_extracts rfl rfl rfl rfl (by assumption)) rfl ?_; refine vo_step (ok_extracts rfl rfl rfl rfl (by assumption)) rfl ?_; refine vo_step (ok_extractx rfl rfl rfl rfl) rfl ?_; refine vo_step (ok_alloc L rfl rfl rfl rfl) rfl ?_; refine vo_step (ok_storeX L (X := SXp) (fun x => scs x.1) (sphi []) (sphi_mono _) set_st (fun x => ⟨rfl, x.2⟩) rfl rfl rfl rfl rfl) rfl ?_; refine vo_step (ok_assigns' rfl rfl rfl) rfl ?_; refine vo_step (ok_assign rfl rfl rfl) rfl ?_; refine vo_nil ?_; refine N_seq ?_; refine V_seq ?_; refine V_region (id := 18) ?_; refine vo_step (ok_loadA L (vs := [_, _, _, _]) (src_own rfl) rfl rfl rfl rfl ⟨_, rfl⟩) rfl ?_; refine vo_step (ok_moves' rfl rfl rfl) rfl ?_; refine vo_step (ok_call (φ := Write3 [] [] 3) L rfl rfl (blt_lt rfl) rfl rfl rfl Write3.mono (fun u H hH hle _ v1 g1 => (write_ret none_ zC' (by decide) (by omega) (by omega) w3 hH (hT1.le hle) (SlV.nil (fu := true)) g1).mono fun _ _ _ h => h.to3)) rfl ?_; refine vo_step (ok_moves' rfl rfl rfl) rfl ?_; refine vo_step (ok_extracts rfl rfl rfl rfl (by assumption)) rfl ?_; refine vo_step (ok_extracts rfl rfl rfl rfl (by assumption)) rfl ?_; refine vo_step (ok_extractx rfl rfl rfl rfl) rfl ?_; refine vo_step (ok_alloc L rfl rfl rfl rfl) rfl ?_; refine vo_step (ok_storeX L (X := SXp) (fun x => scs x.1) (sphi []) (sphi_mono _) set_st (fun x => ⟨rfl, x.2⟩) rfl rfl rfl rfl rfl) rfl ?_; refine vo_step (ok_assigns' rfl rfl rfl) rfl ?_; refine vo_step (ok_assign rfl rfl rfl) rfl ?_; refine vo_nil ?_; refine N_seq ?_; refine V_seq ?_
    refine V_regionD (id := 19) [] mixed (by kernel_rfl) ?_; refine par_step (ok_loadA L (vs := [_, _, _, _]) (src_own rfl) rfl rfl rfl rfl ⟨_, rfl⟩) rfl ?_; refine par_step (ok_loadA L (vs := [_, _, _, _, _, _]) (src_own rfl) rfl rfl rfl rfl ⟨_, rfl⟩) rfl ?_; refine par_step (ok_build (cs := [_, _, _, _, _, _, _]) rfl rfl pl67 rfl rfl) rfl ?_; refine par_step (ok_moves' rfl rfl rfl) rfl ?_; refine par_step (ok_indexV L 0 rfl rfl rfl rfl rfl rfl rfl (by first | omega | decide) (by assumption)) rfl ?_; refine par_step (ok_loadPA L (vs := [_, _, _, _, _, _, _]) rfl rfl rfl rfl rfl ⟨_, rfl⟩) rfl ?_; refine par_step (ok_buildSlice L rfl rfl rfl rfl rfl rfl rfl rfl rfl) rfl ?_; refine par_step (ok_call (φ := Write3 [] [] 3) L rfl rfl (blt_lt rfl) rfl rfl rfl Write3.mono (fun u H hH hle _ v1 g1 => (write_ret (cs := [(d2, false), (y0, true)]) none_ (pair _ _ tm2 tm0) (by decide) (by simp) (by omega) w4 hH (hT1.le hle) (SlV.nil (fu := true)) (g1.toV rfl)).mono fun _ _ _ h => h.to3)) rfl ?_; refine par_step (ok_moves' rfl rfl rfl) rfl ?_; refine par_step (ok_extracts rfl rfl rfl rfl (by assumption)) rfl ?_; refine par_step (ok_extracts rfl rfl rfl rfl (by assumption)) rfl ?_; refine par_step (ok_extractx rfl rfl rfl rfl) rfl ?_; refine par_step (ok_alloc L rfl rfl rfl rfl) rfl ?_; refine par_step (ok_storeX L (X := SXp) (fun x => scs x.1) (sphi []) (sphi_mono _) set_st (fun x => ⟨rfl, x.2⟩) rfl rfl rfl rfl rfl) rfl ?_; refine par_step (ok_assigns' rfl rfl rfl) rfl ?_; refine par_step (ok_assign rfl rfl rfl) rfl ?_; refine par_nil ?_; refine N_seq ?_; refine V_seq ?_
    refine V_regionD (id := 20) [] mixed (by kernel_rfl) ?_; refine par_step (ok_loadA L (vs := [_, _, _, _]) (src_own rfl) rfl rfl rfl rfl ⟨_, rfl⟩) rfl ?_; refine par_step (ok_moves' rfl rfl rfl) rfl ?_; refine par_step (ok_indexV L 0 rfl rfl rfl rfl rfl rfl rfl (by first | omega | decide) (by assumption)) rfl ?_; refine par_step (ok_loadPA L (vs := [_, _, _, _, _, _, _]) rfl rfl rfl rfl rfl ⟨_, rfl⟩) rfl ?_; refine par_step (ok_loadA L (vs := [_, _, _, _, _, _]) (src_own rfl) rfl rfl rfl rfl ⟨_, rfl⟩) rfl ?_; refine par_step (ok_build (cs := [_, _, _, _, _, _, _]) rfl rfl pl67 rfl rfl) rfl ?_; refine par_step (ok_buildSlice L rfl rfl rfl rfl rfl rfl rfl rfl rfl) rfl ?_; refine par_step (ok_call (φ := Write3 Z [(y0, true), (d2, false)] 0) L rfl rfl (blt_lt rfl) rfl rfl rfl Write3.mono (fun u H hH hle _ v1 g1 => (write_ret (cs := [(y0, true), (d2, false)]) none_ (pair _ _ tm0 tm2) (by decide) (by simp) (by omega) w5 hH (hT1.le hle) (SlV.nil (fu := true)) (g1.toV rfl)).mono fun _ _ _ h => h.to3)) rfl ?_; refine par_step (ok_moves' rfl rfl rfl) rfl ?_; refine par_step (ok_extracts rfl rfl rfl rfl (by assumption)) rfl ?_; refine par_step (ok_extracts rfl rfl rfl rfl (by assumption)) rfl ?_; refine par_step (ok_extractx rfl rfl rfl rfl) rfl ?_; refine par_step (ok_alloc L rfl rfl rfl rfl) rfl ?_; refine par_step (ok_storeX L (X := SXp) (fun x => scs x.1) (sphi Z) (sphi_mono _) set_st (fun x => ⟨rfl, x.2⟩) rfl rfl rfl rfl rfl) rfl ?_; refine par_step (ok_assigns' rfl rfl rfl) rfl ?_; refine par_step (ok_assign rfl rfl rfl) rfl ?_; refine par_nil ?_; refine N_seq ?_; refine V_seq ?_
    refine V_region (id := 21) ?_; refine vo_step (ok_loadA L (vs := [_, _, _, _]) (src_own rfl) rfl rfl rfl rfl ⟨_, rfl⟩) rfl ?_; refine vo_step (ok_loadA L (vs := [_, _, _, _, _, _]) (src_own rfl) rfl rfl rfl rfl ⟨_, rfl⟩) rfl ?_; refine vo_step (ok_build (cs := [_, _, _, _, _, _, _]) rfl rfl pl54 rfl rfl) rfl ?_; refine vo_step (ok_buildSlice L rfl rfl rfl rfl rfl rfl rfl rfl rfl) rfl ?_; refine vo_step (ok_loadA L (vs := [_, _, _, _, _, _]) (src_own rfl) rfl rfl rfl rfl ⟨_, rfl⟩) rfl ?_; refine vo_step (ok_build (cs := [_, _, _, _, _, _, _]) rfl rfl pl67 rfl rfl) rfl ?_; refine vo_step (ok_buildSlice L rfl rfl rfl rfl rfl rfl rfl rfl rfl) rfl ?_; refine vo_step (ok_call (φ := Write3 [] [] 13) L rfl rfl (blt_lt rfl) rfl rfl rfl Write3.mono (fun u H hH hle _ v1 g1 v2 g2 => (write_ret (l := [(d2, false)]) (cs := [(d2, false)]) (one _ tm2) (one _ tm2) (by decide) (by decide) (by omega) w6 hH (hT1.le hle) (g1.toV rfl) (g2.toV rfl)).mono fun _ _ _ h => h.to3)) rfl ?_; refine vo_step (ok_moves' rfl rfl rfl) rfl ?_; refine vo_step (ok_extracts rfl rfl rfl rfl (by assumption)) rfl ?_; refine vo_step (ok_extracts rfl rfl rfl rfl (by assumption)) rfl ?_; refine vo_step (ok_extractx rfl rfl rfl rfl) rfl ?_; refine vo_step (ok_alloc L rfl rfl rfl rfl) rfl ?_; refine vo_step (ok_storeX L (X := SXp) (fun x => scs x.1) (sphi []) (sphi_mono _) set_st (fun x => ⟨rfl, x.2⟩) rfl rfl rfl rfl rfl) rfl ?_; refine vo_step (ok_assigns' rfl rfl rfl) rfl ?_; refine vo_step (ok_assign rfl rfl rfl) rfl ?_; refine vo_nil ?_; refine N_seq ?_; refine V_seq ?_
    refine V_opnX 10 rfl fun ⟨⟨f2, p2, k2, q2⟩, hp2⟩ H2 hs2 hT2 => ?_
    have hT2 : SetV T (.agg #[f2, .pointer p2, k2, .pointer q2]) H2 := hT2
    refine V_opnX 22 rfl fun ⟨⟨f3, p3, k3, q3⟩, hp3⟩ H3 hs3 hT3 => ?_
    have hT3 : SetV Z (.agg #[f3, .pointer p3, k3, .pointer q3]) H3 := hT3
    replace hT2 := hT2.le hs3.le
    replace hT1 := hT1.le (hs2.le.trans hs3.le)
    refine V_region (id := 22) ?_; refine vo_step (ok_move rfl rfl rfl) rfl ?_; refine vo_step (ok_eql rfl rfl rfl rfl (decide_eq_true (by omega))) rfl ?_; refine vo_step (ok_move rfl rfl rfl) rfl ?_; refine vo_step (ok_loadA L (vs := [_, _, _, _]) (src_own rfl) rfl rfl rfl rfl ⟨_, rfl⟩) rfl ?_; refine vo_step (ok_callx L rfl rfl (blt_lt rfl) rfl rfl rfl (fun u H hH hle _ => slen_ret lT hH (hT2.le hle))) rfl ?_; refine vo_step (ok_eql rfl rfl rfl rfl (decide_eq_true (by omega))) rfl ?_; refine vo_step (ok_pick rfl rfl rfl rfl) rfl ?_; refine vo_step (ok_move rfl rfl rfl) rfl ?_; refine vo_step (ok_moves' rfl rfl rfl) rfl ?_; refine vo_step (ok_lenV L rfl rfl rfl rfl) rfl ?_; refine vo_step (ok_eql rfl rfl rfl rfl (decide_eq_true (by omega))) rfl ?_; refine vo_step (ok_pick rfl rfl rfl rfl) rfl ?_; refine vo_step (ok_move rfl rfl rfl) rfl ?_; refine vo_step (ok_move rfl rfl rfl) rfl ?_; refine vo_step (ok_eql rfl rfl rfl rfl (decide_eq_true (by omega))) rfl ?_; refine vo_step (ok_pick rfl rfl rfl rfl) rfl ?_; refine vo_step (ok_move rfl rfl rfl) rfl ?_; refine vo_step (ok_move rfl rfl rfl) rfl ?_; refine vo_step (ok_eql rfl rfl rfl rfl (decide_eq_true (by omega))) rfl ?_; refine vo_step (ok_pick rfl rfl rfl rfl) rfl ?_; refine vo_step (ok_move rfl rfl rfl) rfl ?_; refine vo_step (ok_move rfl rfl rfl) rfl ?_; refine vo_step (ok_eql rfl rfl rfl rfl (decide_eq_true (by omega))) rfl ?_; refine vo_step (ok_pick rfl rfl rfl rfl) rfl ?_; refine vo_step (ok_move rfl rfl rfl) rfl ?_; refine vo_step (ok_move rfl rfl rfl) rfl ?_; refine vo_step (ok_eql rfl rfl rfl rfl (decide_eq_true (by omega))) rfl ?_; refine vo_step (ok_pick rfl rfl rfl rfl) rfl ?_; refine vo_step (ok_move rfl rfl rfl) rfl ?_; refine vo_step (ok_loadA L (vs := [_, _, _, _]) (src_own rfl) rfl rfl rfl rfl ⟨_, rfl⟩) rfl ?_; refine vo_step (ok_callx L rfl rfl (blt_lt rfl) rfl rfl rfl (fun u H hH hle _ => slen_ret lZ hH (hT3.le hle))) rfl ?_; refine vo_step (ok_eql rfl rfl rfl rfl (decide_eq_true (by omega))) rfl ?_; refine vo_step (ok_pick rfl rfl rfl rfl) rfl ?_; refine vo_step (ok_move rfl rfl rfl) rfl ?_; refine vo_step (ok_move rfl rfl rfl) rfl ?_; refine vo_step (ok_eql rfl rfl rfl rfl (decide_eq_true (by omega))) rfl ?_; refine vo_step (ok_pick rfl rfl rfl rfl) rfl ?_; refine vo_step (ok_move rfl rfl rfl) rfl ?_; refine vo_step (ok_loadA L (vs := [_, _, _, _]) (src_own rfl) rfl rfl rfl rfl ⟨_, rfl⟩) rfl ?_; refine vo_step (ok_callx L rfl rfl (blt_lt rfl) rfl rfl rfl (fun u H hH hle _ => slen_ret hki hH (hT1.le hle))) rfl ?_; refine vo_step (ok_eql rfl rfl rfl rfl (decide_eq_true (by omega))) rfl ?_; refine vo_step (ok_pick rfl rfl rfl rfl) rfl ?_; refine vo_step (ok_move rfl rfl rfl) rfl ?_; refine vo_step (ok_callx L rfl rfl (blt_lt rfl) rfl rfl rfl (fun u H hH _ _ => lives8_ret hH)) rfl ?_; refine vo_step (ok_pick rfl rfl rfl rfl) rfl ?_; refine vo_step (ok_assign rfl rfl rfl) rfl ?_; refine vo_nil ?_; refine N_seq ?_
    refine V_ret L (rs := [.tmp 0]) rfl (fun _ _ h => h) (hs1.trans (hs2.trans hs3)) fun u H hH hle => ?_
    rfl
end Go.V.L8
/- What is passed is opened: flat values (strings, numbers, truth values, structs and arrays of such) by a list of their leaves. -/
namespace Go.V
open Go.RowKit
inductive LeafK where
  | s
  | b
  | i (k : IntKind)
def LeafOK : LeafK → Value → Prop
  | .s, v => ∃ a : ByteArray, v = .string a ∧ a.size ≤ maxLen
  | .b, v => ∃ c, v = .bool c
  | .i k, v => ∃ n, v = .int k n ∧ (Lit.int k n).wf = true
def LeafsOK : List LeafK → List Value → Prop
  | [], [] => True
  | l :: ls, v :: vs => LeafOK l v ∧ LeafsOK ls vs
  | _, _ => False
theorem LeafsOK.append : ∀ {a b : List LeafK} {x y : List Value}, LeafsOK a x → LeafsOK b y → LeafsOK (a ++ b) (x ++ y)
  | [], _, [], _, _, h => h
  | [], _, _ :: _, _, h, _ => h.elim
  | _ :: _, _, [], _, h, _ => h.elim
  | _ :: _, _, _ :: _, _, h, k => ⟨h.1, LeafsOK.append h.2 k⟩
theorem LeafsOK.length : ∀ {a : List LeafK} {x : List Value}, LeafsOK a x → x.length = a.length
  | [], [], _ => rfl
  | [], _ :: _, h => h.elim
  | _ :: _, [], h => h.elim
  | _ :: _, _ :: _, h => by simp [LeafsOK.length h.2]
section
variable {P : Program} {H : Type} {enc : TypeId × Value → H} {W : World} {sp : Nat → Bool} {held : Bool} {base : Nat}
end
end Go.V
namespace Go.Proofs.Ytkmjfdeeahjfcaa.mustsKnown
open Go.ChangeShapes Go.WideShapes Go.ChangeAt Go.ChangeMaps Go.RowKit Go.V
theorem own : ownKnob Try.prog.godebug = none := by kernel_rfl
theorem laidOut : laidOutB Try.prog = true := by kernel_rfl
set_option maxRecDepth 100000 in
theorem lifted (os : Os) (started : os.Started) (H : Type) (enc : TypeId × Value → H) :
    ReturnsInHanded {} Try.checked os 4 .any (Rows.mustsKnownSpec.pre6 enc Try.prog Try.f4 Rows.mustsKnownRow.domain false) (Rows.mustsKnownSpec.post enc Try.prog Try.f4 false true false false) := by
  refine returnsInHanded_of_change_shaped (C := Try.checked) own started (by kernel_rfl) Try.func4
    (ChangeSpec.witness6 (enc := enc) (C := Try.checked) false ⟨#[], #[], []⟩ 8 (by kernel_rfl) (by kernel_rfl) (by kernel_rfl) (by kernel_rfl)) ?_
  intro W base args ds gs before hval0 hW hcnd _ hsh _
  have hval : ∀ (j : Nat) t v, Try.f4.params[j]? = some t → args[j]? = some v → Value.okWide Try.prog W .any base t v := hval0
  have hW' := hW
  obtain ⟨p, q, hA0, hV, rfl, hfz, hnd⟩ := hW
  have hA : DataW.TrodAll enc Try.prog W 0 (fun _ => true) true Try.f4.params.toList args.toList ds p := hA0
  rw [Try.params4] at hA hval
  obtain ⟨rfl, rfl, rfl⟩ := trodAll_none hA
  obtain ⟨rfl, rfl⟩ := trodVars_none hV
  clear hA0 hval0
  have hplc := hW'.lt
  simp only [List.append_nil] at hW'
  have hlaw := Go.V.L8.mustsKnown_law (w := W) (Heap.Le.refl _)
  unfold Ret at hlaw
  refine hlaw.mono fun e W' hp => ?_
  obtain ⟨v, rfl, H', g, rfl⟩ := hp
  exact ⟨_, rfl, _, _, _, [], [], [], hW', trodAll_cons_mk (shut_bool Try.underlying4 _) trodAll_mk0, trodAll_mk0, rfl, g.below.frame _, fun h => by cases h⟩
theorem proved : Rows.MustsKnownSaid :=
  OpenClaim.holds_of_wide 4 Try.f4 rfl rfl rfl rfl rfl rfl rfl ⟨rfl, rfl, rfl, rfl, rfl⟩ rfl rfl rfl rfl rfl (by kernel_rfl) Try.func4 (by kernel_rfl)
    (of_decide_eq_true (by kernel_rfl)) (by unfold Func.isWrapper; first | (rw [if_pos (by decide +kernel)]; kernel_rfl) | (rw [if_neg (by decide +kernel)]; exact ⟨rfl, rfl⟩))
    (fun os started H enc _ => lifted os started H enc)
#print axioms proved
end Go.Proofs.Ytkmjfdeeahjfcaa.mustsKnown
