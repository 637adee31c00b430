/- Texts on the way to MustsKnown, part 3: one behind another. -/
import Derived.Test.YtkmjfdeeahjfcaaMustsKnownM2
import Derived.Laws.RangeString
import Derived.Laws.Runes
import Derived.Scope
set_option linter.unusedVariables false
set_option linter.unusedSimpArgs false
/- The walks of trees at countersign/api.Tuple, struct{}: what is put in, what is dropped. -/
namespace Go.V.UT
open Go.Proofs Go.RowKit Go.V
structure Cmp (cf : Nat) (c : KT → KT → Int) : Prop where
  fn : L.fn cf = some ()
  ret : ∀ (a b : KT) (u : World) (H : Heap), H.Le (hp u) → Ret Try.prog cf [kv a, kv b] u H (fun v _ => v = .int .i64 (c a b))
abbrev mv (cf : Nat) (root : Value) : Value := .agg #[.func (.func cf) #[] #[], root]
attribute [local irreducible] V N X VO Par StepOK Has Ret RetL Src
theorem put_ret {cf : Nat} {c : KT → KT → Int} (hc : Cmp cf c) (root : Value) (k : KT) (x : VT) : ∀ (t : Tr KT VT) {rv : Value} {w : World} {B : Heap}, B.Le (hp w) → TA t rv B → t.size + 1 < 1099511627776 →
    Ret Try.prog 120 [mv cf root, rv, .agg (pl k x).toArray] w B (TA (Tr.put c k x t)) := by
  intro t
  induction t with
  | nil =>
    intro rv w B hB hv hs
    obtain rfl : rv = .pointer none := hv
    have hn : TA .nil (.pointer none) B := rfl
    have hz : (Tr.nil : Tr KT VT).size = 0 := rfl
    refine V_enter Try.func120 rfl Try.ntmps120 (Nat.le_of_ble_eq_true rfl) hB ?_
    refine V_seq ?_; refine V_region (id := 0) ?_; refine vo_step (ok_box rfl rfl rfl rfl) rfl ?_; refine vo_step (ok_box rfl rfl rfl rfl) rfl ?_; refine vo_step (ok_assign rfl rfl rfl) rfl ?_; refine vo_nil ?_; refine N_seq ?_; refine V_seq ?_; refine V_seq ?_; refine V_region (id := 1) ?_; refine vo_step (ok_move rfl rfl rfl) rfl ?_; refine vo_step (ok_neql rfl rfl rfl rfl nk35 rfl) rfl ?_; refine vo_nil ?_; refine N_seq ?_; refine V_true rfl ?_; refine V_seq ?_; refine V_region (id := 2) ?_; refine vo_step (ok_loadA L (vs := [_, _, _, _, _, _]) (src_at rfl) rfl rfl rfl rfl ⟨_, rfl⟩) rfl ?_; refine vo_step (ok_call L rfl rfl (blt_lt rfl) rfl rfl rfl UT.TA.mono (fun u H hH hle _ => UT.join_ret _ () _ _ hH (UT.TA.le (by assumption) hle) (UT.TA.le (by assumption) hle) (by first | omega | (simp only [Tr.size_node]; omega)))) rfl ?_; refine vo_step (ok_assigns' rfl rfl rfl) rfl ?_; refine vo_nil ?_; refine N_seq ?_
    refine V_ret L (rs := [.tmp 6]) rfl (fun _ _ h => h) Since.refl fun u H hH hle => ?_
    exact fun v hv => hv
  | node nk nx l r ihl ihr =>
    intro rv w B hB hv hs
    obtain ⟨b, lv, rv', rfl, hb, hl, hr⟩ := hv
    have hpl := Tr.size_put c k x l
    have hpr := Tr.size_put c k x r
    simp only [Tr.size_node] at hs
    refine V_enter Try.func120 rfl Try.ntmps120 (Nat.le_of_ble_eq_true rfl) hB ?_
    unfold Tr.put
    by_cases h1 : c k nk < 0
    · rw [if_pos h1]
      refine V_seq ?_; refine V_region (id := 0) ?_; refine vo_step (ok_box rfl rfl rfl rfl) rfl ?_; refine vo_step (ok_box rfl rfl rfl rfl) rfl ?_; refine vo_step (ok_assign rfl rfl rfl) rfl ?_; refine vo_nil ?_; refine N_seq ?_; refine V_seq ?_; refine V_seq ?_; refine V_region (id := 1) ?_; refine vo_step (ok_move rfl rfl rfl) rfl ?_; refine vo_step (ok_neql rfl rfl rfl rfl nk35 rfl) rfl ?_; refine vo_nil ?_; refine N_seq ?_; refine V_false rfl ?_; refine V_skip ?_; refine N_seq ?_; refine V_seq ?_; refine V_seq ?_; refine V_regionD (id := 3) [] mixed (by kernel_rfl) ?_; refine par_step (ok_fieldAt L rfl rfl rfl rfl) rfl ?_; refine par_step (ok_load1 L (src_at rfl) rfl rfl rfl rfl) rfl ?_; refine par_step (ok_fieldAt L rfl rfl rfl rfl) rfl ?_; refine par_step (ok_loadA L (vs := [_, _, _, _, _, _]) (src_at rfl) rfl rfl rfl rfl ⟨_, rfl⟩) rfl ?_; refine par_step (ok_move rfl rfl rfl) rfl ?_; refine par_step (ok_nil rfl rfl rfl) rfl ?_; refine par_step (ok_fieldP L rfl rfl rfl rfl) rfl ?_; refine par_step (ok_fieldP L rfl rfl rfl rfl) rfl ?_; refine par_step (ok_loadA L (vs := [_, _, _, _, _, _]) (src_base rfl (by assumption)) rfl rfl rfl rfl ⟨_, rfl⟩) rfl ?_; refine par_step (ok_callx L rfl rfl (blt_lt rfl) rfl rfl hc.fn (fun u H hH _ _ => hc.ret _ _ u H hH)) rfl ?_; refine par_step (ok_assign rfl rfl rfl) rfl ?_; refine par_nil ?_; refine N_seq ?_; refine V_block ?_; refine V_seq ?_; refine V_region (id := 4) ?_; refine vo_step (ok_move rfl rfl rfl) rfl ?_; refine vo_step (ok_lss rfl rfl rfl rfl (decide_eq_true (by omega))) rfl ?_; refine vo_step (ok_assign rfl rfl rfl) rfl ?_; refine vo_nil ?_; refine N_seq ?_; refine V_true rfl ?_; refine V_seq ?_; refine V_regionD (id := 5) [] mixed (by kernel_rfl) ?_; refine par_step (ok_move rfl rfl rfl) rfl ?_; refine par_step (ok_nil rfl rfl rfl) rfl ?_; refine par_step (ok_fieldP L rfl rfl rfl rfl) rfl ?_; refine par_step (ok_loadA L (vs := [_, _, _, _, _, _]) (src_base rfl (by assumption)) rfl rfl rfl rfl ⟨_, rfl⟩) rfl ?_; refine par_step (ok_loadA L (vs := [_, _]) (src_at rfl) rfl rfl rfl rfl ⟨_, rfl⟩) rfl ?_; refine par_step (ok_move rfl rfl rfl) rfl ?_; refine par_step (ok_nil rfl rfl rfl) rfl ?_; refine par_step (ok_fieldP L rfl rfl rfl rfl) rfl ?_; refine par_step (ok_load1 L (src_base rfl (by assumption)) rfl rfl rfl rfl) rfl ?_; refine par_step (ok_loadA L (vs := [_, _, _, _, _, _]) (src_at rfl) rfl rfl rfl rfl ⟨_, rfl⟩) rfl ?_; refine par_step (ok_call L rfl rfl (blt_lt rfl) rfl rfl rfl TA.mono (fun u H hH hle _ => ihl hH (hl.le hle) (by omega))) rfl ?_; refine par_step (ok_move rfl rfl rfl) rfl ?_; refine par_step (ok_nil rfl rfl rfl) rfl ?_; refine par_step (ok_fieldP L rfl rfl rfl rfl) rfl ?_; refine par_step (ok_load1 L (src_base rfl (by assumption)) rfl rfl rfl rfl) rfl ?_; refine par_step (ok_call L rfl rfl (blt_lt rfl) rfl rfl rfl UT.TA.mono (fun u H hH hle _ v1 hv1 => UT.bal_ret _ () _ _ hH hv1 (UT.TA.le (by assumption) hle) (by first | omega | (simp only [Tr.size_node]; omega)))) rfl ?_; refine par_step (ok_assigns' rfl rfl rfl) rfl ?_; refine par_nil ?_; refine N_seq ?_
      refine V_ret L (rs := [.tmp 6]) rfl (fun _ _ h => h) Since.refl fun u H hH hle => ?_
      exact fun v hv => hv
    · rw [if_neg h1]
      by_cases h2 : c k nk > 0
      · rw [if_pos h2]
        refine V_seq ?_; refine V_region (id := 0) ?_; refine vo_step (ok_box rfl rfl rfl rfl) rfl ?_; refine vo_step (ok_box rfl rfl rfl rfl) rfl ?_; refine vo_step (ok_assign rfl rfl rfl) rfl ?_; refine vo_nil ?_; refine N_seq ?_; refine V_seq ?_; refine V_seq ?_; refine V_region (id := 1) ?_; refine vo_step (ok_move rfl rfl rfl) rfl ?_; refine vo_step (ok_neql rfl rfl rfl rfl nk35 rfl) rfl ?_; refine vo_nil ?_; refine N_seq ?_; refine V_false rfl ?_; refine V_skip ?_; refine N_seq ?_; refine V_seq ?_; refine V_seq ?_; refine V_regionD (id := 3) [] mixed (by kernel_rfl) ?_; refine par_step (ok_fieldAt L rfl rfl rfl rfl) rfl ?_; refine par_step (ok_load1 L (src_at rfl) rfl rfl rfl rfl) rfl ?_; refine par_step (ok_fieldAt L rfl rfl rfl rfl) rfl ?_; refine par_step (ok_loadA L (vs := [_, _, _, _, _, _]) (src_at rfl) rfl rfl rfl rfl ⟨_, rfl⟩) rfl ?_; refine par_step (ok_move rfl rfl rfl) rfl ?_; refine par_step (ok_nil rfl rfl rfl) rfl ?_; refine par_step (ok_fieldP L rfl rfl rfl rfl) rfl ?_; refine par_step (ok_fieldP L rfl rfl rfl rfl) rfl ?_; refine par_step (ok_loadA L (vs := [_, _, _, _, _, _]) (src_base rfl (by assumption)) rfl rfl rfl rfl ⟨_, rfl⟩) rfl ?_; refine par_step (ok_callx L rfl rfl (blt_lt rfl) rfl rfl hc.fn (fun u H hH _ _ => hc.ret _ _ u H hH)) rfl ?_; refine par_step (ok_assign rfl rfl rfl) rfl ?_; refine par_nil ?_; refine N_seq ?_; refine V_block ?_; refine V_seq ?_; refine V_region (id := 4) ?_; refine vo_step (ok_move rfl rfl rfl) rfl ?_; refine vo_step (ok_lss rfl rfl rfl rfl (decide_eq_false (by omega))) rfl ?_; refine vo_step (ok_assign rfl rfl rfl) rfl ?_; refine vo_nil ?_; refine N_seq ?_; refine V_false rfl ?_; refine V_seq ?_; refine V_region (id := 6) ?_; refine vo_step (ok_move rfl rfl rfl) rfl ?_; refine vo_step (ok_gtr rfl rfl rfl rfl (decide_eq_true (by omega))) rfl ?_; refine vo_step (ok_assign rfl rfl rfl) rfl ?_; refine vo_nil ?_; refine N_seq ?_; refine V_true rfl ?_; refine V_seq ?_; refine V_regionD (id := 7) [] mixed (by kernel_rfl) ?_; refine par_step (ok_move rfl rfl rfl) rfl ?_; refine par_step (ok_nil rfl rfl rfl) rfl ?_; refine par_step (ok_fieldP L rfl rfl rfl rfl) rfl ?_; refine par_step (ok_loadA L (vs := [_, _, _, _, _, _]) (src_base rfl (by assumption)) rfl rfl rfl rfl ⟨_, rfl⟩) rfl ?_; refine par_step (ok_move rfl rfl rfl) rfl ?_; refine par_step (ok_nil rfl rfl rfl) rfl ?_; refine par_step (ok_fieldP L rfl rfl rfl rfl) rfl ?_; refine par_step (ok_load1 L (src_base rfl (by assumption)) rfl rfl rfl rfl) rfl ?_; refine par_step (ok_loadA L (vs := [_, _]) (src_at rfl) rfl rfl rfl rfl ⟨_, rfl⟩) rfl ?_; refine par_step (ok_move rfl rfl rfl) rfl ?_; refine par_step (ok_nil rfl rfl rfl) rfl ?_; refine par_step (ok_fieldP L rfl rfl rfl rfl) rfl ?_; refine par_step (ok_load1 L (src_base rfl (by assumption)) rfl rfl rfl rfl) rfl ?_; refine par_step (ok_loadA L (vs := [_, _, _, _, _, _]) (src_at rfl) rfl rfl rfl rfl ⟨_, rfl⟩) rfl ?_; refine par_step (ok_call L rfl rfl (blt_lt rfl) rfl rfl rfl TA.mono (fun u H hH hle _ => ihr hH (hr.le hle) (by omega))) rfl ?_; refine par_step (ok_call L rfl rfl (blt_lt rfl) rfl rfl rfl UT.TA.mono (fun u H hH hle _ v1 hv1 => UT.bal_ret _ () _ _ hH (UT.TA.le (by assumption) hle) hv1 (by first | omega | (simp only [Tr.size_node]; omega)))) rfl ?_; refine par_step (ok_assigns' rfl rfl rfl) rfl ?_; refine par_nil ?_; refine N_seq ?_
        refine V_ret L (rs := [.tmp 6]) rfl (fun _ _ h => h) Since.refl fun u H hH hle => ?_
        exact fun v hv => hv
      · rw [if_neg h2]
        refine V_seq ?_; refine V_region (id := 0) ?_; refine vo_step (ok_box rfl rfl rfl rfl) rfl ?_; refine vo_step (ok_box rfl rfl rfl rfl) rfl ?_; refine vo_step (ok_assign rfl rfl rfl) rfl ?_; refine vo_nil ?_; refine N_seq ?_; refine V_seq ?_; refine V_seq ?_; refine V_region (id := 1) ?_; refine vo_step (ok_move rfl rfl rfl) rfl ?_; refine vo_step (ok_neql rfl rfl rfl rfl nk35 rfl) rfl ?_; refine vo_nil ?_; refine N_seq ?_; refine V_false rfl ?_; refine V_skip ?_; refine N_seq ?_; refine V_seq ?_; refine V_seq ?_; refine V_regionD (id := 3) [] mixed (by kernel_rfl) ?_; refine par_step (ok_fieldAt L rfl rfl rfl rfl) rfl ?_; refine par_step (ok_load1 L (src_at rfl) rfl rfl rfl rfl) rfl ?_; refine par_step (ok_fieldAt L rfl rfl rfl rfl) rfl ?_; refine par_step (ok_loadA L (vs := [_, _, _, _, _, _]) (src_at rfl) rfl rfl rfl rfl ⟨_, rfl⟩) rfl ?_; refine par_step (ok_move rfl rfl rfl) rfl ?_; refine par_step (ok_nil rfl rfl rfl) rfl ?_; refine par_step (ok_fieldP L rfl rfl rfl rfl) rfl ?_; refine par_step (ok_fieldP L rfl rfl rfl rfl) rfl ?_; refine par_step (ok_loadA L (vs := [_, _, _, _, _, _]) (src_base rfl (by assumption)) rfl rfl rfl rfl ⟨_, rfl⟩) rfl ?_; refine par_step (ok_callx L rfl rfl (blt_lt rfl) rfl rfl hc.fn (fun u H hH _ _ => hc.ret _ _ u H hH)) rfl ?_; refine par_step (ok_assign rfl rfl rfl) rfl ?_; refine par_nil ?_; refine N_seq ?_; refine V_block ?_; refine V_seq ?_; refine V_region (id := 4) ?_; refine vo_step (ok_move rfl rfl rfl) rfl ?_; refine vo_step (ok_lss rfl rfl rfl rfl (decide_eq_false (by omega))) rfl ?_; refine vo_step (ok_assign rfl rfl rfl) rfl ?_; refine vo_nil ?_; refine N_seq ?_; refine V_false rfl ?_; refine V_seq ?_; refine V_region (id := 6) ?_; refine vo_step (ok_move rfl rfl rfl) rfl ?_; refine vo_step (ok_gtr rfl rfl rfl rfl (decide_eq_false (by omega))) rfl ?_; refine vo_step (ok_assign rfl rfl rfl) rfl ?_; refine vo_nil ?_; refine N_seq ?_; refine V_false rfl ?_; refine V_skip ?_; refine N_block ?_; refine N_seq ?_; refine V_seq ?_; refine V_regionD (id := 8) [] mixed (by kernel_rfl) ?_; refine par_step (ok_move rfl rfl rfl) rfl ?_; refine par_step (ok_nil rfl rfl rfl) rfl ?_; refine par_step (ok_fieldP L rfl rfl rfl rfl) rfl ?_; refine par_step (ok_fieldP L rfl rfl rfl rfl) rfl ?_; refine par_step (ok_loadA L (vs := [_, _, _, _, _, _]) (src_base rfl (by assumption)) rfl rfl rfl rfl ⟨_, rfl⟩) rfl ?_; refine par_step (ok_fieldZA rfl rfl rfl (by kernel_rfl)) rfl ?_; refine par_step (ok_loadZ L rfl rfl rfl rfl) rfl ?_; refine par_step (ok_build (cs := [_, _, _, _, _, _]) rfl rfl pl145 rfl rfl) rfl ?_; refine par_step (ok_move rfl rfl rfl) rfl ?_; refine par_step (ok_nil rfl rfl rfl) rfl ?_; refine par_step (ok_fieldP L rfl rfl rfl rfl) rfl ?_; refine par_step (ok_load1 L (src_base rfl (by assumption)) rfl rfl rfl rfl) rfl ?_; refine par_step (ok_move rfl rfl rfl) rfl ?_; refine par_step (ok_nil rfl rfl rfl) rfl ?_; refine par_step (ok_fieldP L rfl rfl rfl rfl) rfl ?_; refine par_step (ok_load1 L (src_base rfl (by assumption)) rfl rfl rfl rfl) rfl ?_; refine par_step (ok_call L rfl rfl (blt_lt rfl) rfl rfl rfl UT.TA.mono (fun u H hH hle _ => UT.join_ret _ () _ _ hH (UT.TA.le (by assumption) hle) (UT.TA.le (by assumption) hle) (by first | omega | (simp only [Tr.size_node]; omega)))) rfl ?_; refine par_step (ok_assigns' rfl rfl rfl) rfl ?_; refine par_nil ?_; refine N_seq ?_
        refine V_ret L (rs := [.tmp 6]) rfl (fun _ _ h => h) Since.refl fun u H hH hle => ?_
        exact fun v hv => hv
abbrev FirstS (y : (KT × VT) × Tr KT VT) : Value → Heap → Prop := TupS [fun v _ => v = .agg (pl y.1.1 y.1.2).toArray, TA y.2]
theorem FirstS.mono {y : (KT × VT) × Tr KT VT} : Kn.mono (.sat (FirstS y)) := TupS.mono fun φ hφ => by
  simp only [List.mem_cons, List.mem_nil_iff, or_false] at hφ
  rcases hφ with rfl | rfl
  · exact fun _ _ _ h _ => h
  · exact TA.mono
theorem tupS2 {φ ψ : Value → Heap → Prop} {v w : Value} {H : Heap} (h1 : φ v H) (h2 : ψ w H) : TupS [φ, ψ] (tup [v, w]) H := ⟨[v, w], rfl, rfl, fun i χ x hi hx => by
  match i with
  | 0 => cases hi; cases hx; exact h1
  | 1 => cases hi; cases hx; exact h2
  | _ + 2 => cases hi⟩
theorem first_ret : ∀ (k : KT) (x : VT) (l r : Tr KT VT) {v : Value} {w : World} {B : Heap}, B.Le (hp w) → TA (.node k x l r) v B → l.size + r.size < 1099511627776 →
    Ret Try.prog 126 [v] w B (FirstS (Tr.first k x l r)) := by
  intro k x l
  induction l generalizing k x with
  | nil =>
    intro r v w B hB hv hs
    obtain ⟨b, lv, rv, rfl, hb, hl, hr⟩ := hv
    obtain rfl : lv = .pointer none := hl
    refine V_enter Try.func126 rfl Try.ntmps126 (Nat.le_of_ble_eq_true rfl) hB ?_
    refine V_seq ?_; refine V_region (id := 0) ?_; refine vo_step (ok_alloc L rfl rfl rfl rfl) rfl ?_; refine vo_step (ok_assign rfl rfl rfl) rfl ?_; refine vo_nil ?_; refine N_seq ?_; refine V_seq ?_; refine V_seq ?_; refine V_region (id := 1) ?_; refine vo_step (ok_move rfl rfl rfl) rfl ?_; refine vo_step (ok_nil rfl rfl rfl) rfl ?_; refine vo_step (ok_fieldP L rfl rfl rfl rfl) rfl ?_; refine vo_step (ok_load1 L (src_base rfl (by assumption)) rfl rfl rfl rfl) rfl ?_; refine vo_step (ok_neql rfl rfl rfl rfl nk35 rfl) rfl ?_; refine vo_nil ?_; refine N_seq ?_; refine V_true rfl ?_; refine V_seq ?_; refine V_regionD (id := 2) [] mixed (by kernel_rfl) ?_; refine par_step (ok_move rfl rfl rfl) rfl ?_; refine par_step (ok_nil rfl rfl rfl) rfl ?_; refine par_step (ok_fieldP L rfl rfl rfl rfl) rfl ?_; refine par_step (ok_loadA L (vs := [_, _, _, _, _, _]) (src_base rfl (by assumption)) rfl rfl rfl rfl ⟨_, rfl⟩) rfl ?_; refine par_step (ok_move rfl rfl rfl) rfl ?_; refine par_step (ok_nil rfl rfl rfl) rfl ?_; refine par_step (ok_fieldP L rfl rfl rfl rfl) rfl ?_; refine par_step (ok_load1 L (src_base rfl (by assumption)) rfl rfl rfl rfl) rfl ?_; refine par_step (ok_store L rfl rfl rfl rfl rfl rfl rfl rfl) rfl ?_; refine par_step (ok_assign rfl rfl rfl) rfl ?_; refine par_nil ?_; refine N_seq ?_
    refine V_ret L (rs := [.cell 2 145, .tmp 3]) rfl (fun _ _ h => h) Since.refl fun u H hH hle => ?_
    refine resK_cellA (src_own rfl) rfl rfl ?_
    exact tupS2 rfl (TA.le hr hle)
  | node lk lx ll lr ih _ =>
    intro r v w B hB hv hs
    obtain ⟨b, lv, rv, rfl, hb, hl, hr⟩ := hv
    have hl0 := hl
    obtain ⟨b2, v3, v4, rfl, hb2, _, _⟩ := hl
    have hz := Tr.size_first lk lx ll lr
    simp only [Tr.size_node] at hs
    have hm := TA.mono (t := (Tr.first lk lx ll lr).2)
    refine V_enter Try.func126 rfl Try.ntmps126 (Nat.le_of_ble_eq_true rfl) hB ?_
    refine V_seq ?_; refine V_region (id := 0) ?_; refine vo_step (ok_alloc L rfl rfl rfl rfl) rfl ?_; refine vo_step (ok_assign rfl rfl rfl) rfl ?_; refine vo_nil ?_; refine N_seq ?_; refine V_seq ?_; refine V_seq ?_; refine V_region (id := 1) ?_; refine vo_step (ok_move rfl rfl rfl) rfl ?_; refine vo_step (ok_nil rfl rfl rfl) rfl ?_; refine vo_step (ok_fieldP L rfl rfl rfl rfl) rfl ?_; refine vo_step (ok_load1 L (src_base rfl (by assumption)) rfl rfl rfl rfl) rfl ?_; refine vo_step (ok_neql rfl rfl rfl rfl nk35 rfl) rfl ?_; refine vo_nil ?_; refine N_seq ?_; refine V_false rfl ?_; refine V_skip ?_; refine N_seq ?_; refine V_seq ?_; refine V_region (id := 3) ?_; refine vo_step (ok_move rfl rfl rfl) rfl ?_; refine vo_step (ok_nil rfl rfl rfl) rfl ?_; refine vo_step (ok_fieldP L rfl rfl rfl rfl) rfl ?_; refine vo_step (ok_load1 L (src_base rfl (by assumption)) rfl rfl rfl rfl) rfl ?_; refine vo_step (ok_call L rfl rfl (blt_lt rfl) rfl rfl rfl FirstS.mono (fun u H hH hle _ => ih lk lx lr hH (TA.le hl0 hle) (by omega))) rfl ?_; refine vo_step (ok_moves' rfl rfl rfl) rfl ?_; refine vo_step (ok_extractx rfl rfl rfl rfl) rfl ?_; refine vo_step (ok_extracts rfl rfl rfl rfl (by assumption)) rfl ?_; refine vo_step (ok_alloc L rfl rfl rfl rfl) rfl ?_; refine vo_step (ok_store L rfl rfl rfl rfl rfl rfl rfl rfl) rfl ?_; refine vo_step (ok_assigns' rfl rfl rfl) rfl ?_; refine vo_nil ?_; refine N_seq ?_; refine V_seq ?_; refine V_regionD (id := 4) [] mixed (by kernel_rfl) ?_; refine par_step (ok_loadA L (vs := [_, _, _, _, _, _]) (src_own rfl) rfl rfl rfl rfl ⟨_, rfl⟩) rfl ?_; refine par_step (ok_move rfl rfl rfl) rfl ?_; refine par_step (ok_nil rfl rfl rfl) rfl ?_; refine par_step (ok_fieldP L rfl rfl rfl rfl) rfl ?_; refine par_step (ok_loadA L (vs := [_, _, _, _, _, _]) (src_base rfl (by assumption)) rfl rfl rfl rfl ⟨_, rfl⟩) rfl ?_; refine par_step (ok_moves' rfl rfl rfl) rfl ?_; refine par_step (ok_move rfl rfl rfl) rfl ?_; refine par_step (ok_nil rfl rfl rfl) rfl ?_; refine par_step (ok_fieldP L rfl rfl rfl rfl) rfl ?_; refine par_step (ok_load1 L (src_base rfl (by assumption)) rfl rfl rfl rfl) rfl ?_; refine par_step (ok_call L rfl rfl (blt_lt rfl) rfl rfl rfl UT.TA.mono (fun u H hH hle _ v1 hv1 => UT.bal_ret _ () _ _ hH hv1 (UT.TA.le (by assumption) hle) (by first | omega | (simp only [Tr.size_node]; omega)))) rfl ?_; refine par_step (ok_store L rfl rfl rfl rfl rfl rfl rfl rfl) rfl ?_; refine par_step (ok_assigns' rfl rfl rfl) rfl ?_; refine par_nil ?_; refine N_seq ?_
    refine V_ret L (rs := [.cell 2 145, .tmp 3]) rfl (fun _ _ h => h) Since.refl fun u H hH hle => ?_
    refine resK_cellA (src_own rfl) rfl rfl ?_
    exact fun v hv => tupS2 rfl hv
abbrev DropS (y : Tr KT VT × Bool) : Value → Heap → Prop := TupS [TA y.1, fun v _ => v = .bool y.2]
theorem DropS.mono {y : Tr KT VT × Bool} : Kn.mono (.sat (DropS y)) := TupS.mono fun φ hφ => by
  simp only [List.mem_cons, List.mem_nil_iff, or_false] at hφ
  rcases hφ with rfl | rfl
  · exact TA.mono
  · exact fun _ _ _ h _ => h
theorem drop_ret {cf : Nat} {c : KT → KT → Int} (hc : Cmp cf c) (root : Value) (k : KT) : ∀ (t : Tr KT VT) {rv : Value} {w : World} {B : Heap}, B.Le (hp w) → TA t rv B → t.size < 1099511627776 →
    Ret Try.prog 119 [mv cf root, rv, kv k] w B (DropS (Tr.drop c k t)) := by
  intro t
  induction t with
  | nil =>
    intro rv w B hB hv hs
    obtain rfl : rv = .pointer none := hv
    have hn : TA .nil (.pointer none) B := rfl
    refine V_enter Try.func119 rfl Try.ntmps119 (Nat.le_of_ble_eq_true rfl) hB ?_
    refine V_seq ?_; refine V_region (id := 0) ?_; refine vo_step (ok_box rfl rfl rfl rfl) rfl ?_; refine vo_step (ok_box rfl rfl rfl rfl) rfl ?_; refine vo_step (ok_assign rfl rfl rfl) rfl ?_; refine vo_step (ok_assign rfl rfl rfl) rfl ?_; refine vo_nil ?_; refine N_seq ?_; refine V_seq ?_; refine V_seq ?_; refine V_region (id := 1) ?_; refine vo_step (ok_move rfl rfl rfl) rfl ?_; refine vo_step (ok_neql rfl rfl rfl rfl nk35 rfl) rfl ?_; refine vo_nil ?_; refine N_seq ?_; refine V_true rfl ?_; refine V_seq ?_; refine V_region (id := 2) ?_; refine vo_step (ok_assign rfl rfl rfl) rfl ?_; refine vo_step (ok_assign rfl rfl rfl) rfl ?_; refine vo_nil ?_; refine N_seq ?_
    refine V_ret L (rs := [.tmp 6, .tmp 7]) rfl (fun _ _ h => h) Since.refl fun u H hH hle => ?_
    exact tupS2 rfl rfl
  | node nk nx l r ihl ihr =>
    intro rv w B hB hv hs
    obtain ⟨b, lv, rv', rfl, hb, hl, hr⟩ := hv
    have hpl := Tr.size_drop c k l
    have hpr := Tr.size_drop c k r
    simp only [Tr.size_node] at hs
    refine V_enter Try.func119 rfl Try.ntmps119 (Nat.le_of_ble_eq_true rfl) hB ?_
    unfold Tr.drop
    by_cases h1 : c k nk < 0
    · rw [if_pos h1]
      have hm := TA.mono (t := (Tr.drop c k l).1)
      refine V_seq ?_; refine V_region (id := 0) ?_; refine vo_step (ok_box rfl rfl rfl rfl) rfl ?_; refine vo_step (ok_box rfl rfl rfl rfl) rfl ?_; refine vo_step (ok_assign rfl rfl rfl) rfl ?_; refine vo_step (ok_assign rfl rfl rfl) rfl ?_; refine vo_nil ?_; refine N_seq ?_; refine V_seq ?_; refine V_seq ?_; refine V_region (id := 1) ?_; refine vo_step (ok_move rfl rfl rfl) rfl ?_; refine vo_step (ok_neql rfl rfl rfl rfl nk35 rfl) rfl ?_; refine vo_nil ?_; refine N_seq ?_; refine V_false rfl ?_; refine V_skip ?_; refine N_seq ?_; refine V_seq ?_; refine V_seq ?_; refine V_regionD (id := 3) [] mixed (by kernel_rfl) ?_; refine par_step (ok_fieldAt L rfl rfl rfl rfl) rfl ?_; refine par_step (ok_load1 L (src_at rfl) rfl rfl rfl rfl) rfl ?_; refine par_step (ok_loadA L (vs := [_, _, _, _, _, _]) (src_at rfl) rfl rfl rfl rfl ⟨_, rfl⟩) rfl ?_; refine par_step (ok_move rfl rfl rfl) rfl ?_; refine par_step (ok_nil rfl rfl rfl) rfl ?_; refine par_step (ok_fieldP L rfl rfl rfl rfl) rfl ?_; refine par_step (ok_fieldP L rfl rfl rfl rfl) rfl ?_; refine par_step (ok_loadA L (vs := [_, _, _, _, _, _]) (src_base rfl (by assumption)) rfl rfl rfl rfl ⟨_, rfl⟩) rfl ?_; refine par_step (ok_callx L rfl rfl (blt_lt rfl) rfl rfl hc.fn (fun u H hH _ _ => hc.ret _ _ u H hH)) rfl ?_; refine par_step (ok_assign rfl rfl rfl) rfl ?_; refine par_nil ?_; refine N_seq ?_; refine V_block ?_; refine V_seq ?_; refine V_region (id := 4) ?_; refine vo_step (ok_move rfl rfl rfl) rfl ?_; refine vo_step (ok_lss rfl rfl rfl rfl (decide_eq_true (by omega))) rfl ?_; refine vo_step (ok_assign rfl rfl rfl) rfl ?_; refine vo_nil ?_; refine N_seq ?_; refine V_true rfl ?_; refine V_seq ?_; refine V_regionD (id := 5) [] mixed (by kernel_rfl) ?_; refine par_step (ok_loadA L (vs := [_, _]) (src_at rfl) rfl rfl rfl rfl ⟨_, rfl⟩) rfl ?_; refine par_step (ok_move rfl rfl rfl) rfl ?_; refine par_step (ok_nil rfl rfl rfl) rfl ?_; refine par_step (ok_fieldP L rfl rfl rfl rfl) rfl ?_; refine par_step (ok_load1 L (src_base rfl (by assumption)) rfl rfl rfl rfl) rfl ?_; refine par_step (ok_loadA L (vs := [_, _, _, _, _, _]) (src_at rfl) rfl rfl rfl rfl ⟨_, rfl⟩) rfl ?_; refine par_step (ok_call L rfl rfl (blt_lt rfl) rfl rfl rfl DropS.mono (fun u H hH hle _ => ihl hH (hl.le hle) (by omega))) rfl ?_; refine par_step (ok_moves' rfl rfl rfl) rfl ?_; refine par_step (ok_extracts rfl rfl rfl rfl (by assumption)) rfl ?_; refine par_step (ok_extractx rfl rfl rfl rfl) rfl ?_; refine par_step (ok_assigns' rfl rfl rfl) rfl ?_; refine par_step (ok_assign rfl rfl rfl) rfl ?_; refine par_nil ?_; refine N_seq ?_; refine V_seq ?_; refine V_regionD (id := 6) [] mixed (by kernel_rfl) ?_; refine par_step (ok_move rfl rfl rfl) rfl ?_; refine par_step (ok_nil rfl rfl rfl) rfl ?_; refine par_step (ok_fieldP L rfl rfl rfl rfl) rfl ?_; refine par_step (ok_loadA L (vs := [_, _, _, _, _, _]) (src_base rfl (by assumption)) rfl rfl rfl rfl ⟨_, rfl⟩) rfl ?_; refine par_step (ok_moves' rfl rfl rfl) rfl ?_; refine par_step (ok_move rfl rfl rfl) rfl ?_; refine par_step (ok_nil rfl rfl rfl) rfl ?_; refine par_step (ok_fieldP L rfl rfl rfl rfl) rfl ?_; refine par_step (ok_load1 L (src_base rfl (by assumption)) rfl rfl rfl rfl) rfl ?_; refine par_step (ok_call L rfl rfl (blt_lt rfl) rfl rfl rfl UT.TA.mono (fun u H hH hle _ v1 hv1 => UT.bal_ret _ () _ _ hH hv1 (UT.TA.le (by assumption) hle) (by first | omega | (simp only [Tr.size_node]; omega)))) rfl ?_; refine par_step (ok_move rfl rfl rfl) rfl ?_; refine par_step (ok_assigns' rfl rfl rfl) rfl ?_; refine par_step (ok_assign rfl rfl rfl) rfl ?_; refine par_nil ?_; refine N_seq ?_
      refine V_ret L (rs := [.tmp 6, .tmp 7]) rfl (fun _ _ h => h) Since.refl fun u H hH hle => ?_
      exact fun v hv => tupS2 hv rfl
    · rw [if_neg h1]
      by_cases h2 : c k nk > 0
      · rw [if_pos h2]
        have hm := TA.mono (t := (Tr.drop c k r).1)
        refine V_seq ?_; refine V_region (id := 0) ?_; refine vo_step (ok_box rfl rfl rfl rfl) rfl ?_; refine vo_step (ok_box rfl rfl rfl rfl) rfl ?_; refine vo_step (ok_assign rfl rfl rfl) rfl ?_; refine vo_step (ok_assign rfl rfl rfl) rfl ?_; refine vo_nil ?_; refine N_seq ?_; refine V_seq ?_; refine V_seq ?_; refine V_region (id := 1) ?_; refine vo_step (ok_move rfl rfl rfl) rfl ?_; refine vo_step (ok_neql rfl rfl rfl rfl nk35 rfl) rfl ?_; refine vo_nil ?_; refine N_seq ?_; refine V_false rfl ?_; refine V_skip ?_; refine N_seq ?_; refine V_seq ?_; refine V_seq ?_; refine V_regionD (id := 3) [] mixed (by kernel_rfl) ?_; refine par_step (ok_fieldAt L rfl rfl rfl rfl) rfl ?_; refine par_step (ok_load1 L (src_at rfl) rfl rfl rfl rfl) rfl ?_; refine par_step (ok_loadA L (vs := [_, _, _, _, _, _]) (src_at rfl) rfl rfl rfl rfl ⟨_, rfl⟩) rfl ?_; refine par_step (ok_move rfl rfl rfl) rfl ?_; refine par_step (ok_nil rfl rfl rfl) rfl ?_; refine par_step (ok_fieldP L rfl rfl rfl rfl) rfl ?_; refine par_step (ok_fieldP L rfl rfl rfl rfl) rfl ?_; refine par_step (ok_loadA L (vs := [_, _, _, _, _, _]) (src_base rfl (by assumption)) rfl rfl rfl rfl ⟨_, rfl⟩) rfl ?_; refine par_step (ok_callx L rfl rfl (blt_lt rfl) rfl rfl hc.fn (fun u H hH _ _ => hc.ret _ _ u H hH)) rfl ?_; refine par_step (ok_assign rfl rfl rfl) rfl ?_; refine par_nil ?_; refine N_seq ?_; refine V_block ?_; refine V_seq ?_; refine V_region (id := 4) ?_; refine vo_step (ok_move rfl rfl rfl) rfl ?_; refine vo_step (ok_lss rfl rfl rfl rfl (decide_eq_false (by omega))) rfl ?_; refine vo_step (ok_assign rfl rfl rfl) rfl ?_; refine vo_nil ?_; refine N_seq ?_; refine V_false rfl ?_; refine V_seq ?_; refine V_region (id := 7) ?_; refine vo_step (ok_move rfl rfl rfl) rfl ?_; refine vo_step (ok_gtr rfl rfl rfl rfl (decide_eq_true (by omega))) rfl ?_; refine vo_step (ok_assign rfl rfl rfl) rfl ?_; refine vo_nil ?_; refine N_seq ?_; refine V_true rfl ?_; refine V_seq ?_; refine V_regionD (id := 8) [] mixed (by kernel_rfl) ?_; refine par_step (ok_loadA L (vs := [_, _]) (src_at rfl) rfl rfl rfl rfl ⟨_, rfl⟩) rfl ?_; refine par_step (ok_move rfl rfl rfl) rfl ?_; refine par_step (ok_nil rfl rfl rfl) rfl ?_; refine par_step (ok_fieldP L rfl rfl rfl rfl) rfl ?_; refine par_step (ok_load1 L (src_base rfl (by assumption)) rfl rfl rfl rfl) rfl ?_; refine par_step (ok_loadA L (vs := [_, _, _, _, _, _]) (src_at rfl) rfl rfl rfl rfl ⟨_, rfl⟩) rfl ?_; refine par_step (ok_call L rfl rfl (blt_lt rfl) rfl rfl rfl DropS.mono (fun u H hH hle _ => ihr hH (hr.le hle) (by omega))) rfl ?_; refine par_step (ok_moves' rfl rfl rfl) rfl ?_; refine par_step (ok_extracts rfl rfl rfl rfl (by assumption)) rfl ?_; refine par_step (ok_extractx rfl rfl rfl rfl) rfl ?_; refine par_step (ok_assigns' rfl rfl rfl) rfl ?_; refine par_step (ok_assign rfl rfl rfl) rfl ?_; refine par_nil ?_; refine N_seq ?_; refine V_seq ?_; refine V_regionD (id := 9) [] mixed (by kernel_rfl) ?_; refine par_step (ok_move rfl rfl rfl) rfl ?_; refine par_step (ok_nil rfl rfl rfl) rfl ?_; refine par_step (ok_fieldP L rfl rfl rfl rfl) rfl ?_; refine par_step (ok_loadA L (vs := [_, _, _, _, _, _]) (src_base rfl (by assumption)) rfl rfl rfl rfl ⟨_, rfl⟩) rfl ?_; refine par_step (ok_move rfl rfl rfl) rfl ?_; refine par_step (ok_nil rfl rfl rfl) rfl ?_; refine par_step (ok_fieldP L rfl rfl rfl rfl) rfl ?_; refine par_step (ok_load1 L (src_base rfl (by assumption)) rfl rfl rfl rfl) rfl ?_; refine par_step (ok_moves' rfl rfl rfl) rfl ?_; refine par_step (ok_call L rfl rfl (blt_lt rfl) rfl rfl rfl UT.TA.mono (fun u H hH hle _ v1 hv1 => UT.bal_ret _ () _ _ hH (UT.TA.le (by assumption) hle) hv1 (by first | omega | (simp only [Tr.size_node]; omega)))) rfl ?_; refine par_step (ok_move rfl rfl rfl) rfl ?_; refine par_step (ok_assigns' rfl rfl rfl) rfl ?_; refine par_step (ok_assign rfl rfl rfl) rfl ?_; refine par_nil ?_; refine N_seq ?_
        refine V_ret L (rs := [.tmp 6, .tmp 7]) rfl (fun _ _ h => h) Since.refl fun u H hH hle => ?_
        exact fun v hv => tupS2 hv rfl
      · rw [if_neg h2]
        cases r with
        | nil =>
          obtain rfl : rv' = .pointer none := hr
          refine V_seq ?_; refine V_region (id := 0) ?_; refine vo_step (ok_box rfl rfl rfl rfl) rfl ?_; refine vo_step (ok_box rfl rfl rfl rfl) rfl ?_; refine vo_step (ok_assign rfl rfl rfl) rfl ?_; refine vo_step (ok_assign rfl rfl rfl) rfl ?_; refine vo_nil ?_; refine N_seq ?_; refine V_seq ?_; refine V_seq ?_; refine V_region (id := 1) ?_; refine vo_step (ok_move rfl rfl rfl) rfl ?_; refine vo_step (ok_neql rfl rfl rfl rfl nk35 rfl) rfl ?_; refine vo_nil ?_; refine N_seq ?_; refine V_false rfl ?_; refine V_skip ?_; refine N_seq ?_; refine V_seq ?_; refine V_seq ?_; refine V_regionD (id := 3) [] mixed (by kernel_rfl) ?_; refine par_step (ok_fieldAt L rfl rfl rfl rfl) rfl ?_; refine par_step (ok_load1 L (src_at rfl) rfl rfl rfl rfl) rfl ?_; refine par_step (ok_loadA L (vs := [_, _, _, _, _, _]) (src_at rfl) rfl rfl rfl rfl ⟨_, rfl⟩) rfl ?_; refine par_step (ok_move rfl rfl rfl) rfl ?_; refine par_step (ok_nil rfl rfl rfl) rfl ?_; refine par_step (ok_fieldP L rfl rfl rfl rfl) rfl ?_; refine par_step (ok_fieldP L rfl rfl rfl rfl) rfl ?_; refine par_step (ok_loadA L (vs := [_, _, _, _, _, _]) (src_base rfl (by assumption)) rfl rfl rfl rfl ⟨_, rfl⟩) rfl ?_; refine par_step (ok_callx L rfl rfl (blt_lt rfl) rfl rfl hc.fn (fun u H hH _ _ => hc.ret _ _ u H hH)) rfl ?_; refine par_step (ok_assign rfl rfl rfl) rfl ?_; refine par_nil ?_; refine N_seq ?_; refine V_block ?_; refine V_seq ?_; refine V_region (id := 4) ?_; refine vo_step (ok_move rfl rfl rfl) rfl ?_; refine vo_step (ok_lss rfl rfl rfl rfl (decide_eq_false (by omega))) rfl ?_; refine vo_step (ok_assign rfl rfl rfl) rfl ?_; refine vo_nil ?_; refine N_seq ?_; refine V_false rfl ?_; refine V_seq ?_; refine V_region (id := 7) ?_; refine vo_step (ok_move rfl rfl rfl) rfl ?_; refine vo_step (ok_gtr rfl rfl rfl rfl (decide_eq_false (by omega))) rfl ?_; refine vo_step (ok_assign rfl rfl rfl) rfl ?_; refine vo_nil ?_; refine N_seq ?_; refine V_false rfl ?_; refine V_seq ?_; refine V_region (id := 10) ?_; refine vo_step (ok_move rfl rfl rfl) rfl ?_; refine vo_step (ok_nil rfl rfl rfl) rfl ?_; refine vo_step (ok_fieldP L rfl rfl rfl rfl) rfl ?_; refine vo_step (ok_load1 L (src_base rfl (by assumption)) rfl rfl rfl rfl) rfl ?_; refine vo_step (ok_neql rfl rfl rfl rfl nk35 rfl) rfl ?_; refine vo_step (ok_assign rfl rfl rfl) rfl ?_; refine vo_nil ?_; refine N_seq ?_; refine V_true rfl ?_; refine V_seq ?_; refine V_region (id := 11) ?_; refine vo_step (ok_move rfl rfl rfl) rfl ?_; refine vo_step (ok_nil rfl rfl rfl) rfl ?_; refine vo_step (ok_fieldP L rfl rfl rfl rfl) rfl ?_; refine vo_step (ok_load1 L (src_base rfl (by assumption)) rfl rfl rfl rfl) rfl ?_; refine vo_step (ok_assign rfl rfl rfl) rfl ?_; refine vo_step (ok_assign rfl rfl rfl) rfl ?_; refine vo_nil ?_; refine N_seq ?_
          refine V_ret L (rs := [.tmp 6, .tmp 7]) rfl (fun _ _ h => h) Since.refl fun u H hH hle => ?_
          exact tupS2 (TA.le hl hle) rfl
        | node rk rx rl rr =>
          have hr0 := hr
          obtain ⟨b2, v3, v4, rfl, hb2, _, _⟩ := hr
          have hz := Tr.size_first rk rx rl rr
          simp only [Tr.size_node] at hs
          have hm := TA.mono (t := (Tr.first rk rx rl rr).2)
          refine V_seq ?_; refine V_region (id := 0) ?_; refine vo_step (ok_box rfl rfl rfl rfl) rfl ?_; refine vo_step (ok_box rfl rfl rfl rfl) rfl ?_; refine vo_step (ok_assign rfl rfl rfl) rfl ?_; refine vo_step (ok_assign rfl rfl rfl) rfl ?_; refine vo_nil ?_; refine N_seq ?_; refine V_seq ?_; refine V_seq ?_; refine V_region (id := 1) ?_; refine vo_step (ok_move rfl rfl rfl) rfl ?_; refine vo_step (ok_neql rfl rfl rfl rfl nk35 rfl) rfl ?_; refine vo_nil ?_; refine N_seq ?_; refine V_false rfl ?_; refine V_skip ?_; refine N_seq ?_; refine V_seq ?_; refine V_seq ?_; refine V_regionD (id := 3) [] mixed (by kernel_rfl) ?_; refine par_step (ok_fieldAt L rfl rfl rfl rfl) rfl ?_; refine par_step (ok_load1 L (src_at rfl) rfl rfl rfl rfl) rfl ?_; refine par_step (ok_loadA L (vs := [_, _, _, _, _, _]) (src_at rfl) rfl rfl rfl rfl ⟨_, rfl⟩) rfl ?_; refine par_step (ok_move rfl rfl rfl) rfl ?_; refine par_step (ok_nil rfl rfl rfl) rfl ?_; refine par_step (ok_fieldP L rfl rfl rfl rfl) rfl ?_; refine par_step (ok_fieldP L rfl rfl rfl rfl) rfl ?_; refine par_step (ok_loadA L (vs := [_, _, _, _, _, _]) (src_base rfl (by assumption)) rfl rfl rfl rfl ⟨_, rfl⟩) rfl ?_; refine par_step (ok_callx L rfl rfl (blt_lt rfl) rfl rfl hc.fn (fun u H hH _ _ => hc.ret _ _ u H hH)) rfl ?_; refine par_step (ok_assign rfl rfl rfl) rfl ?_; refine par_nil ?_; refine N_seq ?_; refine V_block ?_; refine V_seq ?_; refine V_region (id := 4) ?_; refine vo_step (ok_move rfl rfl rfl) rfl ?_; refine vo_step (ok_lss rfl rfl rfl rfl (decide_eq_false (by omega))) rfl ?_; refine vo_step (ok_assign rfl rfl rfl) rfl ?_; refine vo_nil ?_; refine N_seq ?_; refine V_false rfl ?_; refine V_seq ?_; refine V_region (id := 7) ?_; refine vo_step (ok_move rfl rfl rfl) rfl ?_; refine vo_step (ok_gtr rfl rfl rfl rfl (decide_eq_false (by omega))) rfl ?_; refine vo_step (ok_assign rfl rfl rfl) rfl ?_; refine vo_nil ?_; refine N_seq ?_; refine V_false rfl ?_; refine V_seq ?_; refine V_region (id := 10) ?_; refine vo_step (ok_move rfl rfl rfl) rfl ?_; refine vo_step (ok_nil rfl rfl rfl) rfl ?_; refine vo_step (ok_fieldP L rfl rfl rfl rfl) rfl ?_; refine vo_step (ok_load1 L (src_base rfl (by assumption)) rfl rfl rfl rfl) rfl ?_; refine vo_step (ok_neql rfl rfl rfl rfl nk35 rfl) rfl ?_; refine vo_step (ok_assign rfl rfl rfl) rfl ?_; refine vo_nil ?_; refine N_seq ?_; refine V_false rfl ?_; refine V_skip ?_; refine N_block ?_; refine N_seq ?_; refine V_seq ?_; refine V_region (id := 12) ?_; refine vo_step (ok_move rfl rfl rfl) rfl ?_; refine vo_step (ok_nil rfl rfl rfl) rfl ?_; refine vo_step (ok_fieldP L rfl rfl rfl rfl) rfl ?_; refine vo_step (ok_load1 L (src_base rfl (by assumption)) rfl rfl rfl rfl) rfl ?_; refine vo_step (ok_call L rfl rfl (blt_lt rfl) rfl rfl rfl FirstS.mono (fun u H hH hle _ => first_ret rk rx rl rr hH (TA.le hr0 hle) (by omega))) rfl ?_; refine vo_step (ok_moves' rfl rfl rfl) rfl ?_; refine vo_step (ok_extractx rfl rfl rfl rfl) rfl ?_; refine vo_step (ok_extracts rfl rfl rfl rfl (by assumption)) rfl ?_; refine vo_step (ok_alloc L rfl rfl rfl rfl) rfl ?_; refine vo_step (ok_store L rfl rfl rfl rfl rfl rfl rfl rfl) rfl ?_; refine vo_step (ok_assigns' rfl rfl rfl) rfl ?_; refine vo_nil ?_; refine N_seq ?_; refine V_seq ?_; refine V_regionD (id := 13) [] mixed (by kernel_rfl) ?_; refine par_step (ok_loadA L (vs := [_, _, _, _, _, _]) (src_own rfl) rfl rfl rfl rfl ⟨_, rfl⟩) rfl ?_; refine par_step (ok_move rfl rfl rfl) rfl ?_; refine par_step (ok_nil rfl rfl rfl) rfl ?_; refine par_step (ok_fieldP L rfl rfl rfl rfl) rfl ?_; refine par_step (ok_load1 L (src_base rfl (by assumption)) rfl rfl rfl rfl) rfl ?_; refine par_step (ok_moves' rfl rfl rfl) rfl ?_; refine par_step (ok_call L rfl rfl (blt_lt rfl) rfl rfl rfl UT.TA.mono (fun u H hH hle _ v1 hv1 => UT.bal_ret _ () _ _ hH (UT.TA.le (by assumption) hle) hv1 (by first | omega | (simp only [Tr.size_node]; omega)))) rfl ?_; refine par_step (ok_assigns' rfl rfl rfl) rfl ?_; refine par_step (ok_assign rfl rfl rfl) rfl ?_; refine par_nil ?_; refine N_seq ?_
          refine V_ret L (rs := [.tmp 6, .tmp 7]) rfl (fun _ _ h => h) Since.refl fun u H hH hle => ?_
          exact fun v hv => tupS2 hv rfl
end Go.V.UT
/- The walks of trees at countersign/api.Tuple, struct{}: maps, and what is seen of them. -/
namespace Go.V.UT
open Go.Proofs Go.RowKit Go.V
/-- A map. -/
def MA (fv : Value) (t : Tr KT VT) : Value → Heap → Prop := fun v H => ∃ p, v = .agg #[fv, .pointer p] ∧ TA t (.pointer p) H
theorem MA.mono {fv : Value} {t : Tr KT VT} : Kn.mono (.sat (MA fv t)) := fun _ _ _ ⟨p, hv, h⟩ hle => ⟨p, hv, h.le hle⟩
theorem MA.le {fv : Value} {t : Tr KT VT} {v : Value} {H H' : Heap} (h : MA fv t v H) (hle : H.Le H') : MA fv t v H' := MA.mono _ _ _ h hle
attribute [local irreducible] V N X VO Par StepOK Has Ret RetL Src
theorem new_ret (cf : Nat) {w : World} {B : Heap} (hB : B.Le (hp w)) : Ret Try.prog 108 [.func (.func cf) #[] #[]] w B (fun v _ => v = .agg #[.func (.func cf) #[] #[], .pointer none]) := by
  refine V_enter Try.func108 rfl Try.ntmps108 (Nat.le_of_ble_eq_true rfl) hB ?_
  refine V_seq ?_; refine V_region (id := 0) ?_; refine vo_step (ok_alloc L rfl rfl rfl rfl) rfl ?_; refine vo_nil ?_; refine N_seq ?_; refine V_seq ?_; refine V_region (id := 1) ?_; refine vo_step (ok_move rfl rfl rfl) rfl ?_; refine vo_step (ok_build (cs := [_, _]) rfl rfl pl37 rfl rfl) rfl ?_; refine vo_step (ok_store L rfl rfl rfl rfl rfl rfl rfl rfl) rfl ?_; refine vo_nil ?_; refine N_seq ?_
  refine V_ret L (rs := [.cell 2 37]) rfl (fun _ _ h => h) Since.refl fun u H hH hle => ?_
  refine resK_cellA (src_own rfl) rfl rfl ?_
  rfl
theorem len_ret {fv root : Value} {t : Tr KT VT} {w : World} {B : Heap} (hB : B.Le (hp w)) (hv : TA t root B) : Ret Try.prog 65 [.agg #[fv, root]] w B (fun v _ => v = .int .i64 t.size) := by
  refine V_enter Try.func65 rfl Try.ntmps65 (Nat.le_of_ble_eq_true rfl) hB ?_
  refine V_seq ?_; refine V_region (id := 0) ?_; refine vo_step (ok_box rfl rfl rfl rfl) rfl ?_; refine vo_step (ok_assign rfl rfl rfl) rfl ?_; refine vo_nil ?_; refine N_seq ?_; refine V_seq ?_; refine V_region (id := 1) ?_; refine vo_step (ok_fieldAt L rfl rfl rfl rfl) rfl ?_; refine vo_step (ok_load1 L (src_at rfl) rfl rfl rfl rfl) rfl ?_; refine vo_step (ok_callx L rfl rfl (blt_lt rfl) rfl rfl rfl (fun u H hH hle _ => UT.size_ret _ hH (UT.TA.le (by assumption) hle))) rfl ?_; refine vo_step (ok_assign rfl rfl rfl) rfl ?_; refine vo_nil ?_; refine N_seq ?_
  refine V_ret L (rs := [.tmp 2]) rfl (fun _ _ h => h) Since.refl fun u H hH hle => ?_
  rfl
theorem mput_ret {cf : Nat} {c : KT → KT → Int} (hc : Cmp cf c) {p : Option Addr} (k : KT) (x : VT) {t : Tr KT VT} {w : World} {B : Heap} (hB : B.Le (hp w)) (hv : TA t (.pointer p) B) (hs : t.size + 1 < 1099511627776) :
    Ret Try.prog 110 [mv cf (.pointer p), kv k, vv x] w B (MA (.func (.func cf) #[] #[]) (Tr.put c k x t)) := by
  refine V_enter Try.func110 rfl Try.ntmps110 (Nat.le_of_ble_eq_true rfl) hB ?_
  refine V_seq ?_; refine V_region (id := 0) ?_; refine vo_step (ok_boxR rfl rfl rfl rfl) rfl ?_; refine vo_step (ok_box rfl rfl rfl rfl) rfl ?_; refine vo_step (ok_box rfl rfl rfl rfl) rfl ?_; refine vo_step (ok_alloc L rfl rfl rfl rfl) rfl ?_; refine vo_nil ?_; refine N_seq ?_; refine V_seq ?_; refine V_seq ?_; (refine V_box 3 rfl ?_; intro b3 hb3); refine V_region (id := 1) ?_; refine vo_step (ok_fieldP L rfl rfl rfl rfl) rfl ?_; refine vo_step (ok_load1 L (src_box rfl (List.Mem.head _)) rfl rfl rfl rfl) rfl ?_; refine vo_step (ok_nneq rfl rfl rfl rfl nk34 rfl rfl) rfl ?_; refine vo_nil ?_; refine N_seq ?_; refine V_true rfl ?_; refine V_region (id := 2) ?_; refine vo_step (ok_loadA L (vs := [_, _]) (src_box rfl (List.Mem.head _)) rfl rfl rfl rfl ⟨_, rfl⟩) rfl ?_; refine vo_step (ok_fieldP L rfl rfl rfl rfl) rfl ?_; refine vo_step (ok_load1 L (src_box rfl (List.Mem.head _)) rfl rfl rfl rfl) rfl ?_; refine vo_step (ok_loadA L (vs := [_, _, _, _, _, _]) (src_at rfl) rfl rfl rfl rfl ⟨_, rfl⟩) rfl ?_; refine vo_step (ok_loadA L (vs := []) (src_at rfl) rfl rfl rfl rfl ⟨_, rfl⟩) rfl ?_; refine vo_step (ok_build (cs := [_, _, _, _, _, _]) rfl rfl pl145 rfl rfl) rfl ?_; refine vo_step (ok_call L rfl rfl (blt_lt rfl) rfl rfl rfl TA.mono (fun u H hH hle _ => put_ret hc _ k x t hH (hv.le hle) hs)) rfl ?_; refine vo_opn 16 rfl ?_; intro p16 H16 hs16 hp16; obtain ⟨q16, rfl⟩ := TA.ptr hp16; refine vo_step (ok_fieldP L rfl rfl rfl rfl) rfl ?_; refine box_store L (O1 := []) rfl rfl rfl rfl rfl rfl rfl rfl rfl ?_; refine vo_nil ?_; refine N_seq ?_; refine V_seq ?_; refine V_region (id := 3) ?_; refine vo_step (ok_loadA L (vs := [_, _]) (src_box rfl (List.Mem.head _)) rfl rfl rfl rfl ⟨_, rfl⟩) rfl ?_; refine vo_step (ok_store L rfl rfl rfl rfl rfl rfl rfl rfl) rfl ?_; refine vo_nil ?_; refine N_seq ?_
  refine V_ret L (rs := [.cell 6 37]) rfl (fun _ _ h => h) hs16 fun u H hH hle => ?_
  refine resK_cellA (src_own rfl) rfl rfl ?_
  exact ⟨q16, rfl, hp16.le hle⟩
theorem mdrop_ret {cf : Nat} {c : KT → KT → Int} (hc : Cmp cf c) {p : Option Addr} (k : KT) {t : Tr KT VT} {w : World} {B : Heap} (hB : B.Le (hp w)) (hv : TA t (.pointer p) B) (hs : t.size < 1099511627776) :
    Ret Try.prog 109 [mv cf (.pointer p), kv k] w B (MA (.func (.func cf) #[] #[]) (if (Tr.drop c k t).2 = true then (Tr.drop c k t).1 else t)) := by
  have hD := fun (u : World) (H : Heap) (hH : H.Le (hp u)) (hle : B.Le H) => drop_ret hc (.pointer p) k t hH (hv.le hle) hs
  rcases hq : Tr.drop c k t with ⟨t', was⟩
  rw [hq] at hD
  have hm := TA.mono (t := t')
  cases was
  · rw [if_neg (by simp)]
    refine V_enter Try.func109 rfl Try.ntmps109 (Nat.le_of_ble_eq_true rfl) hB ?_
    refine V_seq ?_; refine V_region (id := 0) ?_; refine vo_step (ok_boxR rfl rfl rfl rfl) rfl ?_; refine vo_step (ok_box rfl rfl rfl rfl) rfl ?_; refine vo_step (ok_alloc L rfl rfl rfl rfl) rfl ?_; refine vo_nil ?_; refine N_seq ?_; refine V_seq ?_; refine V_seq ?_; (refine V_box 2 rfl ?_; intro b2 hb2); refine V_region (id := 1) ?_; refine vo_step (ok_loadA L (vs := [_, _]) (src_box rfl (List.Mem.head _)) rfl rfl rfl rfl ⟨_, rfl⟩) rfl ?_; refine vo_step (ok_fieldP L rfl rfl rfl rfl) rfl ?_; refine vo_step (ok_load1 L (src_box rfl (List.Mem.head _)) rfl rfl rfl rfl) rfl ?_; refine vo_step (ok_loadA L (vs := [_, _, _, _, _, _]) (src_at rfl) rfl rfl rfl rfl ⟨_, rfl⟩) rfl ?_; refine vo_step (ok_call L rfl rfl (blt_lt rfl) rfl rfl rfl DropS.mono (fun u H hH hle _ => hD u H hH hle)) rfl ?_; refine vo_step (ok_moves' rfl rfl rfl) rfl ?_; refine vo_step (ok_extracts rfl rfl rfl rfl (by assumption)) rfl ?_; refine vo_step (ok_extractx rfl rfl rfl rfl) rfl ?_; refine vo_step (ok_assigns' rfl rfl rfl) rfl ?_; refine vo_step (ok_assign rfl rfl rfl) rfl ?_; refine vo_nil ?_; refine N_seq ?_; refine V_seq ?_; refine V_region (id := 2) ?_; refine vo_step (ok_move rfl rfl rfl) rfl ?_; refine vo_nil ?_; refine N_seq ?_; refine V_false rfl ?_; refine V_skip ?_; refine N_seq ?_; refine V_seq ?_; refine V_region (id := 4) ?_; refine vo_step (ok_loadA L (vs := [_, _]) (src_box rfl (List.Mem.head _)) rfl rfl rfl rfl ⟨_, rfl⟩) rfl ?_; refine vo_step (ok_store L rfl rfl rfl rfl rfl rfl rfl rfl) rfl ?_; refine vo_nil ?_; refine N_seq ?_
    refine V_ret L (rs := [.cell 4 37]) rfl (fun _ _ h => h) Since.refl fun u H hH hle => ?_
    refine resK_cellA (src_own rfl) rfl rfl ?_
    exact ⟨p, rfl, hv.le hle⟩
  · rw [if_pos rfl]
    refine V_enter Try.func109 rfl Try.ntmps109 (Nat.le_of_ble_eq_true rfl) hB ?_
    refine V_seq ?_; refine V_region (id := 0) ?_; refine vo_step (ok_boxR rfl rfl rfl rfl) rfl ?_; refine vo_step (ok_box rfl rfl rfl rfl) rfl ?_; refine vo_step (ok_alloc L rfl rfl rfl rfl) rfl ?_; refine vo_nil ?_; refine N_seq ?_; refine V_seq ?_; refine V_seq ?_; (refine V_box 2 rfl ?_; intro b2 hb2); refine V_region (id := 1) ?_; refine vo_step (ok_loadA L (vs := [_, _]) (src_box rfl (List.Mem.head _)) rfl rfl rfl rfl ⟨_, rfl⟩) rfl ?_; refine vo_step (ok_fieldP L rfl rfl rfl rfl) rfl ?_; refine vo_step (ok_load1 L (src_box rfl (List.Mem.head _)) rfl rfl rfl rfl) rfl ?_; refine vo_step (ok_loadA L (vs := [_, _, _, _, _, _]) (src_at rfl) rfl rfl rfl rfl ⟨_, rfl⟩) rfl ?_; refine vo_step (ok_call L rfl rfl (blt_lt rfl) rfl rfl rfl DropS.mono (fun u H hH hle _ => hD u H hH hle)) rfl ?_; refine vo_step (ok_moves' rfl rfl rfl) rfl ?_; refine vo_step (ok_extracts rfl rfl rfl rfl (by assumption)) rfl ?_; refine vo_step (ok_extractx rfl rfl rfl rfl) rfl ?_; refine vo_step (ok_assigns' rfl rfl rfl) rfl ?_; refine vo_step (ok_assign rfl rfl rfl) rfl ?_; refine vo_nil ?_; refine N_seq ?_; refine V_seq ?_; refine V_region (id := 2) ?_; refine vo_step (ok_move rfl rfl rfl) rfl ?_; refine vo_nil ?_; refine N_seq ?_; refine V_true rfl ?_; refine V_region (id := 3) ?_; refine vo_step (ok_moves' rfl rfl rfl) rfl ?_; refine vo_opn 16 rfl ?_; intro p16 H16 hs16 hp16; obtain ⟨q16, rfl⟩ := TA.ptr hp16; refine vo_step (ok_fieldP L rfl rfl rfl rfl) rfl ?_; refine box_store L (O1 := []) rfl rfl rfl rfl rfl rfl rfl rfl rfl ?_; refine vo_nil ?_; refine N_seq ?_; refine V_seq ?_; refine V_region (id := 4) ?_; refine vo_step (ok_loadA L (vs := [_, _]) (src_box rfl (List.Mem.head _)) rfl rfl rfl rfl ⟨_, rfl⟩) rfl ?_; refine vo_step (ok_store L rfl rfl rfl rfl rfl rfl rfl rfl) rfl ?_; refine vo_nil ?_; refine N_seq ?_
    refine V_ret L (rs := [.cell 4 37]) rfl (fun _ _ h => h) hs16 fun u H hH hle => ?_
    refine resK_cellA (src_own rfl) rfl rfl ?_
    exact ⟨q16, rfl, hp16.le hle⟩
def getV : Option VT → List Value
  | some x => [vv x, .bool true]
  | none => [.agg #[], .bool false]
theorem get_ret {cf : Nat} {c : KT → KT → Int} (hc : Cmp cf c) (k : KT) {root : Value} {t : Tr KT VT} {w : World} {B : Heap} (hB : B.Le (hp w)) (hv : TA t root B) :
    Ret Try.prog 71 [mv cf root, kv k] w B (fun v _ => v = tup (getV (Tr.get c k t))) := by
  refine V_enter Try.func71 rfl Try.ntmps71 (Nat.le_of_ble_eq_true rfl) hB ?_
  refine V_seq ?_; refine V_region (id := 0) ?_; refine vo_step (ok_box rfl rfl rfl rfl) rfl ?_; refine vo_step (ok_box rfl rfl rfl rfl) rfl ?_; refine vo_step (ok_alloc L rfl rfl rfl rfl) rfl ?_; refine vo_step (ok_assign rfl rfl rfl) rfl ?_; refine vo_nil ?_; refine N_seq ?_; refine V_seq ?_; refine V_region (id := 1) ?_; refine vo_step (ok_fieldAt L rfl rfl rfl rfl) rfl ?_; refine vo_step (ok_load1 L (src_at rfl) rfl rfl rfl rfl) rfl ?_; refine vo_step (ok_assign rfl rfl rfl) rfl ?_; refine vo_nil ?_; refine N_seq ?_; refine V_seq ?_; refine V_block ?_
  refine V_loop (fun s : Tr KT VT × Value => [(3, .sat (At [.string k.1.1.1, .string k.1.1.2, .string k.1.2, .string k.2.1.1, .string k.2.1.2, .string k.2.2] 52 0)), (4, .own (Cell [] 118)), (2, .sat (At [.func (.func cf) #[] #[], root] 37 0)), (6, .is s.2)])
    (fun s => TA s.1 s.2 B ∧ Tr.get c k s.1 = Tr.get c k t) (fun s => s.1.size) (t, root) ⟨hv, rfl⟩ (by repeat (first | exact trivial | refine ⟨rfl, ?_⟩)) ?_
  rintro ⟨s, v⟩ ⟨hs, hg⟩
  dsimp only at hs hg ⊢
  cases s with
  | nil =>
    obtain rfl : v = .pointer none := hs
    refine V_seq ?_; refine V_seq ?_; refine V_region (id := 2) ?_; refine vo_step (ok_move rfl rfl rfl) rfl ?_; refine vo_step (ok_nneq rfl rfl rfl rfl nk35 rfl rfl) rfl ?_; refine vo_nil ?_; refine N_seq ?_; refine V_false rfl ?_; refine V_exit ?_; refine X_then ?_; refine X_then ?_; refine X_here ?_; refine N_seq ?_; refine V_seq ?_; refine V_region (id := 9) ?_; refine vo_step (ok_alloc L rfl rfl rfl rfl) rfl ?_; refine vo_nil ?_; refine N_seq ?_; refine V_seq ?_; refine V_region (id := 10) ?_; refine vo_step (ok_loadA L (vs := []) (src_own rfl) rfl rfl rfl rfl ⟨_, rfl⟩) rfl ?_; refine vo_step (ok_store L rfl rfl rfl rfl rfl rfl rfl rfl) rfl ?_; refine vo_step (ok_assign rfl rfl rfl) rfl ?_; refine vo_nil ?_; refine N_seq ?_
    refine V_ret L (rs := [.cell 4 118, .tmp 5]) rfl (fun _ _ h => h) Since.refl fun u H hH hle => ?_
    first | (rw [← hg]; rfl) | (refine resK_cellA (src_own rfl) rfl rfl ?_; rw [← hg]; rfl)
  | node nk nx l r =>
    obtain ⟨b, lv, rv, rfl, hb, hl, hr⟩ := hs
    by_cases h0 : c k nk = 0
    · rw [Tr.get_eq h0] at hg
      refine V_seq ?_; refine V_seq ?_; refine V_region (id := 2) ?_; refine vo_step (ok_move rfl rfl rfl) rfl ?_; refine vo_step (ok_nneq rfl rfl rfl rfl nk35 rfl rfl) rfl ?_; refine vo_nil ?_; refine N_seq ?_; refine V_true rfl ?_; refine V_skip ?_; refine N_seq ?_; refine V_block ?_; refine V_seq ?_; refine V_regionD (id := 3) [] mixed (by kernel_rfl) ?_; refine par_step (ok_fieldAt L rfl rfl rfl rfl) rfl ?_; refine par_step (ok_load1 L (src_at rfl) rfl rfl rfl rfl) rfl ?_; refine par_step (ok_loadA L (vs := [_, _, _, _, _, _]) (src_at rfl) rfl rfl rfl rfl ⟨_, rfl⟩) rfl ?_; refine par_step (ok_move rfl rfl rfl) rfl ?_; refine par_step (ok_nil rfl rfl rfl) rfl ?_; refine par_step (ok_fieldP L rfl rfl rfl rfl) rfl ?_; refine par_step (ok_fieldP L rfl rfl rfl rfl) rfl ?_; refine par_step (ok_loadA L (vs := [_, _, _, _, _, _]) (src_base rfl (by assumption)) rfl rfl rfl rfl ⟨_, rfl⟩) rfl ?_; refine par_step (ok_callx L rfl rfl (blt_lt rfl) rfl rfl hc.fn (fun u H hH _ _ => hc.ret _ _ u H hH)) rfl ?_; refine par_step (ok_assign rfl rfl rfl) rfl ?_; refine par_nil ?_; refine N_seq ?_; refine V_seq ?_; refine V_seq ?_; refine V_region (id := 4) ?_; refine vo_step (ok_move rfl rfl rfl) rfl ?_; refine vo_step (ok_eql rfl rfl rfl rfl (decide_eq_true (by omega))) rfl ?_; refine vo_nil ?_; refine N_seq ?_; refine V_true rfl ?_; refine V_seq ?_; refine V_region (id := 5) ?_; refine vo_step (ok_move rfl rfl rfl) rfl ?_; refine vo_step (ok_nil rfl rfl rfl) rfl ?_; refine vo_step (ok_fieldP L rfl rfl rfl rfl) rfl ?_; refine vo_step (ok_fieldZP (by assumption) rfl rfl rfl (by kernel_rfl)) rfl ?_; refine vo_step (ok_loadZ L rfl rfl rfl rfl) rfl ?_; refine vo_step (ok_store L rfl rfl rfl rfl rfl rfl rfl rfl) rfl ?_; refine vo_step (ok_assign rfl rfl rfl) rfl ?_; refine vo_nil ?_; refine N_seq ?_
      refine V_ret L (rs := [.cell 4 118, .tmp 5]) rfl (fun _ _ h => h) Since.refl fun u H hH hle => ?_
      first | (rw [← hg]; rfl) | (refine resK_cellA (src_own rfl) rfl rfl ?_; rw [← hg]; rfl)
    · by_cases h1 : c k nk < 0
      · rw [Tr.get_lt h1] at hg
        refine V_seq ?_; refine V_seq ?_; refine V_region (id := 2) ?_; refine vo_step (ok_move rfl rfl rfl) rfl ?_; refine vo_step (ok_nneq rfl rfl rfl rfl nk35 rfl rfl) rfl ?_; refine vo_nil ?_; refine N_seq ?_; refine V_true rfl ?_; refine V_skip ?_; refine N_seq ?_; refine V_block ?_; refine V_seq ?_; refine V_regionD (id := 3) [] mixed (by kernel_rfl) ?_; refine par_step (ok_fieldAt L rfl rfl rfl rfl) rfl ?_; refine par_step (ok_load1 L (src_at rfl) rfl rfl rfl rfl) rfl ?_; refine par_step (ok_loadA L (vs := [_, _, _, _, _, _]) (src_at rfl) rfl rfl rfl rfl ⟨_, rfl⟩) rfl ?_; refine par_step (ok_move rfl rfl rfl) rfl ?_; refine par_step (ok_nil rfl rfl rfl) rfl ?_; refine par_step (ok_fieldP L rfl rfl rfl rfl) rfl ?_; refine par_step (ok_fieldP L rfl rfl rfl rfl) rfl ?_; refine par_step (ok_loadA L (vs := [_, _, _, _, _, _]) (src_base rfl (by assumption)) rfl rfl rfl rfl ⟨_, rfl⟩) rfl ?_; refine par_step (ok_callx L rfl rfl (blt_lt rfl) rfl rfl hc.fn (fun u H hH _ _ => hc.ret _ _ u H hH)) rfl ?_; refine par_step (ok_assign rfl rfl rfl) rfl ?_; refine par_nil ?_; refine N_seq ?_; refine V_seq ?_; refine V_seq ?_; refine V_region (id := 4) ?_; refine vo_step (ok_move rfl rfl rfl) rfl ?_; refine vo_step (ok_eql rfl rfl rfl rfl (decide_eq_false (by omega))) rfl ?_; refine vo_nil ?_; refine N_seq ?_; refine V_false rfl ?_; refine V_skip ?_; refine N_seq ?_; refine V_seq ?_; refine V_region (id := 6) ?_; refine vo_step (ok_move rfl rfl rfl) rfl ?_; refine vo_step (ok_lss rfl rfl rfl rfl (decide_eq_true (by omega))) rfl ?_; refine vo_nil ?_; refine N_seq ?_; refine V_true rfl ?_; refine V_region (id := 7) ?_; refine vo_step (ok_move rfl rfl rfl) rfl ?_; refine vo_step (ok_nil rfl rfl rfl) rfl ?_; refine vo_step (ok_fieldP L rfl rfl rfl rfl) rfl ?_; refine vo_step (ok_load1 L (src_base rfl (by assumption)) rfl rfl rfl rfl) rfl ?_; refine vo_step (ok_assign rfl rfl rfl) rfl ?_; refine vo_nil ?_; refine N_block ?_
        exact N_round (x := (Tr.node nk nx l r, Value.pointer (some ⟨b, 0, none⟩))) (l, lv) ⟨hl, hg⟩ (by simp only [Tr.size_node]; omega) (by repeat (first | exact trivial | refine ⟨rfl, ?_⟩))
      · rw [Tr.get_gt h0 h1] at hg
        refine V_seq ?_; refine V_seq ?_; refine V_region (id := 2) ?_; refine vo_step (ok_move rfl rfl rfl) rfl ?_; refine vo_step (ok_nneq rfl rfl rfl rfl nk35 rfl rfl) rfl ?_; refine vo_nil ?_; refine N_seq ?_; refine V_true rfl ?_; refine V_skip ?_; refine N_seq ?_; refine V_block ?_; refine V_seq ?_; refine V_regionD (id := 3) [] mixed (by kernel_rfl) ?_; refine par_step (ok_fieldAt L rfl rfl rfl rfl) rfl ?_; refine par_step (ok_load1 L (src_at rfl) rfl rfl rfl rfl) rfl ?_; refine par_step (ok_loadA L (vs := [_, _, _, _, _, _]) (src_at rfl) rfl rfl rfl rfl ⟨_, rfl⟩) rfl ?_; refine par_step (ok_move rfl rfl rfl) rfl ?_; refine par_step (ok_nil rfl rfl rfl) rfl ?_; refine par_step (ok_fieldP L rfl rfl rfl rfl) rfl ?_; refine par_step (ok_fieldP L rfl rfl rfl rfl) rfl ?_; refine par_step (ok_loadA L (vs := [_, _, _, _, _, _]) (src_base rfl (by assumption)) rfl rfl rfl rfl ⟨_, rfl⟩) rfl ?_; refine par_step (ok_callx L rfl rfl (blt_lt rfl) rfl rfl hc.fn (fun u H hH _ _ => hc.ret _ _ u H hH)) rfl ?_; refine par_step (ok_assign rfl rfl rfl) rfl ?_; refine par_nil ?_; refine N_seq ?_; refine V_seq ?_; refine V_seq ?_; refine V_region (id := 4) ?_; refine vo_step (ok_move rfl rfl rfl) rfl ?_; refine vo_step (ok_eql rfl rfl rfl rfl (decide_eq_false (by omega))) rfl ?_; refine vo_nil ?_; refine N_seq ?_; refine V_false rfl ?_; refine V_skip ?_; refine N_seq ?_; refine V_seq ?_; refine V_region (id := 6) ?_; refine vo_step (ok_move rfl rfl rfl) rfl ?_; refine vo_step (ok_lss rfl rfl rfl rfl (decide_eq_false (by omega))) rfl ?_; refine vo_nil ?_; refine N_seq ?_; refine V_false rfl ?_; refine V_region (id := 8) ?_; refine vo_step (ok_move rfl rfl rfl) rfl ?_; refine vo_step (ok_nil rfl rfl rfl) rfl ?_; refine vo_step (ok_fieldP L rfl rfl rfl rfl) rfl ?_; refine vo_step (ok_load1 L (src_base rfl (by assumption)) rfl rfl rfl rfl) rfl ?_; refine vo_step (ok_assign rfl rfl rfl) rfl ?_; refine vo_nil ?_; refine N_block ?_
        exact N_round (x := (Tr.node nk nx l r, Value.pointer (some ⟨b, 0, none⟩))) (r, rv) ⟨hr, hg⟩ (by simp only [Tr.size_node]; omega) (by repeat (first | exact trivial | refine ⟨rfl, ?_⟩))
end Go.V.UT
/- The walks of trees at countersign/api.Tuple, struct{}: the pairs, one after the other. -/
namespace Go.V.UT
open Go.Proofs Go.RowKit Go.V
/-- What 'pairs' hands back: a function value that holds four variables. -/
def PairsAt (t : Tr KT VT) (a f e : Int) : Value → Heap → Prop := fun v H => ∃ b1 b2 b3 b4 root, v = .func (.func 121) #[] #[.pointer (some ⟨b1, 0, none⟩), .pointer (some ⟨b2, 0, none⟩), .pointer (some ⟨b3, 0, none⟩), .pointer (some ⟨b4, 0, none⟩)] ∧
  H b1 = some (.cells [root].toArray 35) ∧ H b2 = some (.cells [.int .i64 a].toArray 3) ∧ H b3 = some (.cells [.int .i64 f].toArray 3) ∧ H b4 = some (.cells [.int .i64 e].toArray 3) ∧ TA t root H
theorem PairsAt.mono {t : Tr KT VT} {a f e : Int} : Kn.mono (.sat (PairsAt t a f e)) := fun _ _ _ ⟨b1, b2, b3, b4, root, h0, h1, h2, h3, h4, h5⟩ hle => ⟨b1, b2, b3, b4, root, h0, hle _ _ h1, hle _ _ h2, hle _ _ h3, hle _ _ h4, h5.le hle⟩
attribute [local irreducible] V N X VO Par StepOK Has Ret RetL Src
end Go.V.UT
/- The walks of trees at countersign/api.Tuple, struct{}: lists of pairs. -/
namespace Go.V.UT
open Go.Proofs Go.RowKit Go.V
abbrev tyP : TypeId := 145
/-- The cells of a list of pairs. -/
def flat (l : List (KT × VT)) : List Value := l.flatMap fun y => pl y.1 y.2
abbrev PS (l : List (KT × VT)) (fu : Bool) : Value → Heap → Prop := SlV tyP 6 (flat l) l.length fu
attribute [local irreducible] V N X VO Par StepOK Has Ret RetL Src
theorem PS.mono {l : List (KT × VT)} {fu : Bool} : Kn.mono (.sat (PS l fu)) := SlV.mono
end Go.V.UT
/- The walks of trees at countersign/api.Tuple, struct{}: the methods of a map, by what the map is. -/
namespace Go.V.UT
open Go.Proofs Go.RowKit Go.V
abbrev MF (cf : Nat) (t : Tr KT VT) : Value → Heap → Prop := MA (.func (.func cf) #[] #[]) t
theorem mput_m {cf : Nat} {c : KT → KT → Int} (hc : Cmp cf c) (k : KT) (x : VT) {t : Tr KT VT} {v : Value} {w : World} {B : Heap} (hB : B.Le (hp w)) (hv : MF cf t v B) (hs : t.size + 1 < 1099511627776) :
    Ret Try.prog 110 [v, kv k, vv x] w B (MF cf (Tr.put c k x t)) := by
  obtain ⟨p, rfl, h⟩ := hv
  exact mput_ret hc k x hB h hs
theorem mdrop_m {cf : Nat} {c : KT → KT → Int} (hc : Cmp cf c) (k : KT) {t : Tr KT VT} {v : Value} {w : World} {B : Heap} (hB : B.Le (hp w)) (hv : MF cf t v B) (hs : t.size < 1099511627776) :
    Ret Try.prog 109 [v, kv k] w B (MF cf (if (Tr.drop c k t).2 = true then (Tr.drop c k t).1 else t)) := by
  obtain ⟨p, rfl, h⟩ := hv
  exact mdrop_ret hc k hB h hs
theorem len_m {fv : Value} {t : Tr KT VT} {v : Value} {w : World} {B : Heap} (hB : B.Le (hp w)) (hv : MA fv t v B) {n : Nat} (hn : t.size = n) : Ret Try.prog 65 [v] w B (fun v _ => v = .int .i64 n) := by
  obtain ⟨p, rfl, h⟩ := hv
  subst hn
  exact len_ret hB h
theorem get_m {cf : Nat} {c : KT → KT → Int} (hc : Cmp cf c) (k : KT) {t : Tr KT VT} {v : Value} {w : World} {B : Heap} (hB : B.Le (hp w)) (hv : MF cf t v B) {o : Option VT} (ho : Tr.get c k t = o) :
    Ret Try.prog 71 [v, kv k] w B (fun v _ => v = tup (getV o)) := by
  obtain ⟨p, rfl, h⟩ := hv
  subst ho
  exact get_ret hc k hB h
end Go.V.UT
/- The walks of trees at countersign/api.Tuple, struct{}: what is taken out of a map, by what the map is. -/
namespace Go.V.UT
open Go.Proofs Go.RowKit Go.V
end Go.V.UT
/- The walks of sets (chapter 6): what a set is, a change. -/
namespace Go.V.L6
open Go.Proofs Go.RowKit Go.V Go.V.L2 Go.V.L3
abbrev fvC : Value := .func (.func 76) #[] #[]
abbrev fvS : Value := .func (.func 86) #[] #[]
abbrev tySet : TypeId := 41
/-- A change, as a value. -/
abbrev chv (x : U) (d : Bool) : Value := .agg #[.string x.1.1.1, .string x.1.1.2, .string x.1.2, .string x.2.1.1, .string x.2.1.2, .string x.2.2, .bool d]
attribute [local irreducible] V N X VO Par StepOK Has Ret RetL RetO Src
theorem subj_ret {a b : U} {w : World} {B : Heap} (hB : B.Le (hp w)) : Ret Try.prog 86 [uv a, uv b] w B (fun v _ => v = .int .i64 (cmpS a b)) := by
  refine V_enter Try.func86 rfl Try.ntmps86 (Nat.le_of_ble_eq_true rfl) hB ?_
  refine V_seq ?_; refine V_region (id := 0) ?_; refine vo_step (ok_box rfl rfl rfl rfl) rfl ?_; refine vo_step (ok_box rfl rfl rfl rfl) rfl ?_; refine vo_step (ok_assign rfl rfl rfl) rfl ?_; refine vo_nil ?_; refine N_seq ?_; refine V_seq ?_; refine V_regionD (id := 1) [] mixed (by kernel_rfl) ?_; refine par_step (ok_fieldAt L rfl rfl rfl rfl) rfl ?_; refine par_step (ok_loadA L (vs := [_, _, _]) (src_at rfl) rfl rfl rfl rfl ⟨_, rfl⟩) rfl ?_; refine par_step (ok_fieldAt L rfl rfl rfl rfl) rfl ?_; refine par_step (ok_loadA L (vs := [_, _, _]) (src_at rfl) rfl rfl rfl rfl ⟨_, rfl⟩) rfl ?_; refine par_step (ok_callx L rfl rfl (blt_lt rfl) rfl rfl rfl (fun u H hH _ _ => cmpU_ret hH)) rfl ?_; refine par_step (ok_fieldAt L rfl rfl rfl rfl) rfl ?_; refine par_step (ok_loadA L (vs := [_, _, _]) (src_at rfl) rfl rfl rfl rfl ⟨_, rfl⟩) rfl ?_; refine par_step (ok_fieldAt L rfl rfl rfl rfl) rfl ?_; refine par_step (ok_loadA L (vs := [_, _, _]) (src_at rfl) rfl rfl rfl rfl ⟨_, rfl⟩) rfl ?_; refine par_step (ok_callx L rfl rfl (blt_lt rfl) rfl rfl rfl (fun u H hH _ _ => cmpG_ret hH)) rfl ?_; refine par_step (ok_buildSlice L rfl rfl rfl rfl rfl rfl rfl rfl rfl) rfl ?_; refine par_step (ok_callx L rfl rfl (blt_lt rfl) rfl rfl rfl (fun u H hH _ _ v hv => or2_ret hH hv)) rfl ?_; refine par_step (ok_assign rfl rfl rfl) rfl ?_; refine par_nil ?_; refine N_seq ?_
  refine V_ret L (rs := [.tmp 4]) rfl (fun _ _ h => h) Since.refl fun u H hH hle => ?_
  rfl
theorem cmpUT : UT.Cmp 76 cmpT := ⟨rfl, fun _ _ _ _ hH => tcmp_ret hH⟩
theorem cmpUS : UT.Cmp 86 cmpS := ⟨rfl, fun _ _ _ _ hH => subj_ret hH⟩
/-- A tree after a change. -/
def chT (c : U → U → Int) (x : U) (d : Bool) (t : Tr U Unit) : Tr U Unit := if d = true then (if (Tr.drop c x t).2 = true then (Tr.drop c x t).1 else t) else Tr.put c x () t
theorem change_ret {cf : Nat} {c : U → U → Int} (hc : UT.Cmp cf c) {f : Value} {p : Option Addr} {t : Tr U Unit} (hf : f = .func (.func cf) #[] #[] ∨ (f = .nilFunc ∧ t = .nil)) (x : U) (d : Bool) {w : World} {B : Heap} (hB : B.Le (hp w)) (ht : UT.TA t (.pointer p) B) (hs : t.size + 1 < 1099511627776) :
    Ret Try.prog 85 [.agg #[f, .pointer p], chv x d, .func (.func cf) #[] #[]] w B (UT.MF cf (chT c x d t)) := by
  by_cases h0 : t.size = 0
  · have hn : t = .nil := by
      cases t with
      | nil => rfl
      | node k y l r => simp only [Tr.size] at h0; omega
    subst hn
    have hz : UT.TA .nil (.pointer none) B := rfl
    refine V_enter Try.func85 rfl Try.ntmps85 (Nat.le_of_ble_eq_true rfl) hB ?_
    unfold chT
    cases d
    · refine V_seq ?_; refine V_region (id := 0) ?_; refine vo_step (ok_boxR rfl rfl rfl rfl) rfl ?_; refine vo_box 3 rfl fun b hb => ?_; refine vo_step (ok_box rfl rfl rfl rfl) rfl ?_; refine vo_step (ok_alloc L rfl rfl rfl rfl) rfl ?_; refine vo_nil ?_; refine N_seq ?_; refine V_seq ?_; refine V_seq ?_; refine V_region (id := 1) ?_; refine vo_step (ok_fieldP L rfl rfl rfl rfl) rfl ?_; refine vo_step (ok_loadA L (vs := [_, _]) (src_box rfl (List.Mem.head _)) rfl rfl rfl rfl ⟨_, rfl⟩) rfl ?_; refine vo_step (ok_callx L rfl rfl (blt_lt rfl) rfl rfl rfl (fun u H hH hle _ => UT.len_m hH (⟨_, rfl, ht.le hle⟩) h0)) rfl ?_; refine vo_step (ok_eql rfl rfl rfl rfl (decide_eq_true (by omega))) rfl ?_; refine vo_nil ?_; refine N_seq ?_; refine V_true rfl ?_; refine V_region (id := 2) ?_; refine vo_step (ok_move rfl rfl rfl) rfl ?_; refine vo_step (ok_callx L rfl rfl (blt_lt rfl) rfl rfl rfl (fun u H hH _ _ => UT.new_ret _ hH)) rfl ?_; refine vo_step (ok_fieldP L rfl rfl rfl rfl) rfl ?_; refine box_store L (O1 := []) rfl rfl rfl rfl rfl rfl rfl rfl rfl ?_; refine vo_nil ?_; refine N_seq ?_; refine V_seq ?_; refine V_seq ?_; refine V_region (id := 3) ?_; refine vo_step (ok_fieldAt L rfl rfl rfl rfl) rfl ?_; refine vo_step (ok_load1 L (src_at rfl) rfl rfl rfl rfl) rfl ?_; refine vo_nil ?_; refine N_seq ?_; refine V_false rfl ?_; refine V_skip ?_; refine N_seq ?_; refine V_seq ?_; refine V_region (id := 5) ?_; refine vo_step (ok_fieldP L rfl rfl rfl rfl) rfl ?_; refine vo_step (ok_loadA L (vs := [_, _]) (src_box rfl (List.Mem.head _)) rfl rfl rfl rfl ⟨_, rfl⟩) rfl ?_; refine vo_step (ok_fieldAt L rfl rfl rfl rfl) rfl ?_; refine vo_step (ok_loadA L (vs := [_, _, _, _, _, _]) (src_at rfl) rfl rfl rfl rfl ⟨_, rfl⟩) rfl ?_; refine vo_step (ok_build (cs := []) rfl rfl pl118 rfl rfl) rfl ?_; refine vo_step (ok_call (φ := UT.MF cf (Tr.put c x () .nil)) L rfl rfl (blt_lt rfl) rfl rfl rfl UT.MA.mono (fun u H hH hle _ => UT.mput_m hc x () hH (⟨_, rfl, hz.le hle⟩) hs)) rfl ?_; refine vo_opn 27 rfl ?_; rintro _ H27 hs27 ⟨q27, rfl, hp27⟩; refine vo_step (ok_build (cs := [_, _]) rfl rfl pl39 rfl rfl) rfl ?_; refine vo_step (ok_store L rfl rfl rfl rfl rfl rfl rfl rfl) rfl ?_; refine vo_nil ?_; refine N_seq ?_
      refine V_ret L (rs := [.cell 6 39]) rfl (fun _ _ h => h) hs27 fun u H hH hle => ?_
      exact ⟨_, src_own rfl, rfl, q27, rfl, hp27.le hle⟩
    · refine V_seq ?_; refine V_region (id := 0) ?_; refine vo_step (ok_boxR rfl rfl rfl rfl) rfl ?_; refine vo_box 3 rfl fun b hb => ?_; refine vo_step (ok_box rfl rfl rfl rfl) rfl ?_; refine vo_step (ok_alloc L rfl rfl rfl rfl) rfl ?_; refine vo_nil ?_; refine N_seq ?_; refine V_seq ?_; refine V_seq ?_; refine V_region (id := 1) ?_; refine vo_step (ok_fieldP L rfl rfl rfl rfl) rfl ?_; refine vo_step (ok_loadA L (vs := [_, _]) (src_box rfl (List.Mem.head _)) rfl rfl rfl rfl ⟨_, rfl⟩) rfl ?_; refine vo_step (ok_callx L rfl rfl (blt_lt rfl) rfl rfl rfl (fun u H hH hle _ => UT.len_m hH (⟨_, rfl, ht.le hle⟩) h0)) rfl ?_; refine vo_step (ok_eql rfl rfl rfl rfl (decide_eq_true (by omega))) rfl ?_; refine vo_nil ?_; refine N_seq ?_; refine V_true rfl ?_; refine V_region (id := 2) ?_; refine vo_step (ok_move rfl rfl rfl) rfl ?_; refine vo_step (ok_callx L rfl rfl (blt_lt rfl) rfl rfl rfl (fun u H hH _ _ => UT.new_ret _ hH)) rfl ?_; refine vo_step (ok_fieldP L rfl rfl rfl rfl) rfl ?_; refine box_store L (O1 := []) rfl rfl rfl rfl rfl rfl rfl rfl rfl ?_; refine vo_nil ?_; refine N_seq ?_; refine V_seq ?_; refine V_seq ?_; refine V_region (id := 3) ?_; refine vo_step (ok_fieldAt L rfl rfl rfl rfl) rfl ?_; refine vo_step (ok_load1 L (src_at rfl) rfl rfl rfl rfl) rfl ?_; refine vo_nil ?_; refine N_seq ?_; refine V_true rfl ?_; refine V_seq ?_; refine V_region (id := 4) ?_; refine vo_step (ok_fieldP L rfl rfl rfl rfl) rfl ?_; refine vo_step (ok_loadA L (vs := [_, _]) (src_box rfl (List.Mem.head _)) rfl rfl rfl rfl ⟨_, rfl⟩) rfl ?_; refine vo_step (ok_fieldAt L rfl rfl rfl rfl) rfl ?_; refine vo_step (ok_loadA L (vs := [_, _, _, _, _, _]) (src_at rfl) rfl rfl rfl rfl ⟨_, rfl⟩) rfl ?_; refine vo_step (ok_call (φ := UT.MF cf (if (Tr.drop c x .nil).2 = true then (Tr.drop c x .nil).1 else .nil)) L rfl rfl (blt_lt rfl) rfl rfl rfl UT.MA.mono (fun u H hH hle _ => UT.mdrop_m hc x hH (⟨_, rfl, hz.le hle⟩) (by omega))) rfl ?_; refine vo_opn 20 rfl ?_; rintro _ H20 hs20 ⟨q20, rfl, hp20⟩; refine vo_step (ok_build (cs := [_, _]) rfl rfl pl39 rfl rfl) rfl ?_; refine vo_step (ok_store L rfl rfl rfl rfl rfl rfl rfl rfl) rfl ?_; refine vo_nil ?_; refine N_seq ?_
      refine V_ret L (rs := [.cell 6 39]) rfl (fun _ _ h => h) hs20 fun u H hH hle => ?_
      exact ⟨_, src_own rfl, rfl, q20, rfl, hp20.le hle⟩
  · obtain rfl : f = .func (.func cf) #[] #[] := by
      rcases hf with h | ⟨_, h⟩
      · exact h
      · subst h; exact absurd rfl h0
    refine V_enter Try.func85 rfl Try.ntmps85 (Nat.le_of_ble_eq_true rfl) hB ?_
    unfold chT
    cases d
    · refine V_seq ?_; refine V_region (id := 0) ?_; refine vo_step (ok_boxR rfl rfl rfl rfl) rfl ?_; refine vo_box 3 rfl fun b hb => ?_; refine vo_step (ok_box rfl rfl rfl rfl) rfl ?_; refine vo_step (ok_alloc L rfl rfl rfl rfl) rfl ?_; refine vo_nil ?_; refine N_seq ?_; refine V_seq ?_; refine V_seq ?_; refine V_region (id := 1) ?_; refine vo_step (ok_fieldP L rfl rfl rfl rfl) rfl ?_; refine vo_step (ok_loadA L (vs := [_, _]) (src_box rfl (List.Mem.head _)) rfl rfl rfl rfl ⟨_, rfl⟩) rfl ?_; refine vo_step (ok_callx L rfl rfl (blt_lt rfl) rfl rfl rfl (fun u H hH hle _ => UT.len_m hH (⟨_, rfl, ht.le hle⟩) rfl)) rfl ?_; refine vo_step (ok_eql rfl rfl rfl rfl (decide_eq_false (by omega))) rfl ?_; refine vo_nil ?_; refine N_seq ?_; refine V_false rfl ?_; refine V_skip ?_; refine N_seq ?_; refine V_seq ?_; refine V_seq ?_; refine V_region (id := 3) ?_; refine vo_step (ok_fieldAt L rfl rfl rfl rfl) rfl ?_; refine vo_step (ok_load1 L (src_at rfl) rfl rfl rfl rfl) rfl ?_; refine vo_nil ?_; refine N_seq ?_; refine V_false rfl ?_; refine V_skip ?_; refine N_seq ?_; refine V_seq ?_; refine V_region (id := 5) ?_; refine vo_step (ok_fieldP L rfl rfl rfl rfl) rfl ?_; refine vo_step (ok_loadA L (vs := [_, _]) (src_box rfl (List.Mem.head _)) rfl rfl rfl rfl ⟨_, rfl⟩) rfl ?_; refine vo_step (ok_fieldAt L rfl rfl rfl rfl) rfl ?_; refine vo_step (ok_loadA L (vs := [_, _, _, _, _, _]) (src_at rfl) rfl rfl rfl rfl ⟨_, rfl⟩) rfl ?_; refine vo_step (ok_build (cs := []) rfl rfl pl118 rfl rfl) rfl ?_; refine vo_step (ok_call (φ := UT.MF cf (Tr.put c x () t)) L rfl rfl (blt_lt rfl) rfl rfl rfl UT.MA.mono (fun u H hH hle _ => UT.mput_m hc x () hH (⟨_, rfl, ht.le hle⟩) hs)) rfl ?_; refine vo_opn 27 rfl ?_; rintro _ H27 hs27 ⟨q27, rfl, hp27⟩; refine vo_step (ok_build (cs := [_, _]) rfl rfl pl39 rfl rfl) rfl ?_; refine vo_step (ok_store L rfl rfl rfl rfl rfl rfl rfl rfl) rfl ?_; refine vo_nil ?_; refine N_seq ?_
      refine V_ret L (rs := [.cell 6 39]) rfl (fun _ _ h => h) hs27 fun u H hH hle => ?_
      exact ⟨_, src_own rfl, rfl, q27, rfl, hp27.le hle⟩
    · refine V_seq ?_; refine V_region (id := 0) ?_; refine vo_step (ok_boxR rfl rfl rfl rfl) rfl ?_; refine vo_box 3 rfl fun b hb => ?_; refine vo_step (ok_box rfl rfl rfl rfl) rfl ?_; refine vo_step (ok_alloc L rfl rfl rfl rfl) rfl ?_; refine vo_nil ?_; refine N_seq ?_; refine V_seq ?_; refine V_seq ?_; refine V_region (id := 1) ?_; refine vo_step (ok_fieldP L rfl rfl rfl rfl) rfl ?_; refine vo_step (ok_loadA L (vs := [_, _]) (src_box rfl (List.Mem.head _)) rfl rfl rfl rfl ⟨_, rfl⟩) rfl ?_; refine vo_step (ok_callx L rfl rfl (blt_lt rfl) rfl rfl rfl (fun u H hH hle _ => UT.len_m hH (⟨_, rfl, ht.le hle⟩) rfl)) rfl ?_; refine vo_step (ok_eql rfl rfl rfl rfl (decide_eq_false (by omega))) rfl ?_; refine vo_nil ?_; refine N_seq ?_; refine V_false rfl ?_; refine V_skip ?_; refine N_seq ?_; refine V_seq ?_; refine V_seq ?_; refine V_region (id := 3) ?_; refine vo_step (ok_fieldAt L rfl rfl rfl rfl) rfl ?_; refine vo_step (ok_load1 L (src_at rfl) rfl rfl rfl rfl) rfl ?_; refine vo_nil ?_; refine N_seq ?_; refine V_true rfl ?_; refine V_seq ?_; refine V_region (id := 4) ?_; refine vo_step (ok_fieldP L rfl rfl rfl rfl) rfl ?_; refine vo_step (ok_loadA L (vs := [_, _]) (src_box rfl (List.Mem.head _)) rfl rfl rfl rfl ⟨_, rfl⟩) rfl ?_; refine vo_step (ok_fieldAt L rfl rfl rfl rfl) rfl ?_; refine vo_step (ok_loadA L (vs := [_, _, _, _, _, _]) (src_at rfl) rfl rfl rfl rfl ⟨_, rfl⟩) rfl ?_; refine vo_step (ok_call (φ := UT.MF cf (if (Tr.drop c x t).2 = true then (Tr.drop c x t).1 else t)) L rfl rfl (blt_lt rfl) rfl rfl rfl UT.MA.mono (fun u H hH hle _ => UT.mdrop_m hc x hH (⟨_, rfl, ht.le hle⟩) (by omega))) rfl ?_; refine vo_opn 20 rfl ?_; rintro _ H20 hs20 ⟨q20, rfl, hp20⟩; refine vo_step (ok_build (cs := [_, _]) rfl rfl pl39 rfl rfl) rfl ?_; refine vo_step (ok_store L rfl rfl rfl rfl rfl rfl rfl rfl) rfl ?_; refine vo_nil ?_; refine N_seq ?_
      refine V_ret L (rs := [.cell 6 39]) rfl (fun _ _ h => h) hs20 fun u H hH hle => ?_
      exact ⟨_, src_own rfl, rfl, q20, rfl, hp20.le hle⟩
end Go.V.L6
/- The kit's floor of slices that are worked on in place: sorted, cut, cleared, handed on and back. -/
namespace Go.V
open Go.Proofs Go.RowKit
/-- What is returned is the caller's; it may be what was lent. -/
def OwnT (w : World) (C : Nat → Prop) (r : Res) (v : Value) (H : Heap) (u : World) : Prop := ∃ C' : Nat → Prop, r.P v H u C' ∧ ∀ k, C' k → (C k ∨ w.heap.size ≤ k) ∧ k < u.heap.size ∧ H k = none
def RetT (P : Program) (f : FuncId) (args : List Value) (w : World) (B : Heap) (C : Nat → Prop) (r : Res) : Prop := RetL P f args w B C (OwnT w C r)
section
variable {P : Program} {F : Fr} {B : Heap} {O : Boxes} {n : Nat} {ops : Array Oper} {κ : Kap} {d : Nat} {ty : TypeId} {pos : String} {aft : Array Edge} {g : Option (Nat × Bool)} {a : Act} {u : World} {H : Heap} {fp : Nat → Nat → Prop} {Q : Exit → Act → World → Prop}
end
end Go.V
/- The kit's floor of arrays that are values, and of function values that hold arguments. -/
namespace Go.V
open Go.Proofs Go.RowKit
section
variable {P : Program} {F : Fr} {B : Heap} {O : Boxes} {n : Nat} {ops : Array Oper} {κ : Kap} {d : Nat} {ty : TypeId} {pos : String} {aft : Array Edge} {g : Option (Nat × Bool)} {a : Act} {u : World} {H : Heap} {fp : Nat → Nat → Prop} {Q : Exit → Act → World → Prop}
end
end Go.V
/- The walks of filters (chapter 3): fields, errors, what is taken, prefixes. -/
namespace Go.V.L3
open Go.Proofs Go.RowKit Go.V Go.V.L2
abbrev fv (f : FT) : Value := .agg #[.string f.1.1.1, .string f.1.1.2, .string f.1.2, .string f.2.1.1.1, .string f.2.1.1.2, .string f.2.1.2, .bool f.2.2]
def FZ (f : FT) : Prop := (f.1.1.1.size ≤ 1099511627776 ∧ f.1.1.2.size ≤ 1099511627776 ∧ f.1.2.size ≤ 1099511627776) ∧ f.2.1.1.1.size ≤ 1099511627776 ∧ f.2.1.1.2.size ≤ 1099511627776 ∧ f.2.1.2.size ≤ 1099511627776
instance (f : FT) : Decidable (FZ f) := inferInstanceAs (Decidable (_ ∧ _))
attribute [local irreducible] V N X VO Par StepOK Has Ret RetL RetO RetT Src
end Go.V.L3
/- The walks of filters (chapter 3): orders, spans, what is selected. -/
namespace Go.V.L3
open Go.Proofs Go.RowKit Go.V Go.V.L2
attribute [local irreducible] V N X VO Par StepOK Has Ret RetL RetO RetT Src
end Go.V.L3
/- The walks of filters (chapter 3): spans, what is selected. -/
namespace Go.V.L3
open Go.Proofs Go.RowKit Go.V Go.V.L2
attribute [local irreducible] V N X VO Par StepOK Has Ret RetL RetO RetT Src
end Go.V.L3
/- The walks of filters (chapter 3): what is selected; both. -/
namespace Go.V.L3
open Go.Proofs Go.RowKit Go.V Go.V.L2
theorem LE2.mk {φ : Value → Heap → Prop} {a tv : Value} {H : Heap} (h : φ tv H) : TupS [φ, fun v _ => v = a] (.tuple #[tv, a]) H :=
  ⟨[tv, a], rfl, rfl, fun i ψ x hi hx => by
    rcases i with _ | _ | i
    · simp at hi hx; subst hi hx; exact h
    · simp at hi hx; subst hi hx; rfl
    · simp at hi⟩
theorem LE2.mono {φ : Value → Heap → Prop} {a : Value} (h : Kn.mono (.sat φ)) : Kn.mono (.sat (TupS [φ, fun v _ => v = a])) := TupS.mono fun ψ hψ => by
  rcases List.mem_cons.1 hψ with rfl | hψ
  · exact h
  · rw [List.mem_singleton] at hψ
    subst hψ
    exact fun _ _ _ h _ => h
attribute [local irreducible] V N X VO Par StepOK Has Ret RetL RetO RetT Src
end Go.V.L3
/- The walks of sets (chapter 6): sets as values. -/
namespace Go.V.L6
open Go.Proofs Go.RowKit Go.V Go.V.L2 Go.V.L3
/-- A set, as a value: of these tuples. -/
def SetV (l : List U) : Value → Heap → Prop := fun v H => ∃ p q t u, TS l t u ∧ UT.TA t (.pointer p) H ∧ UT.TA u (.pointer q) H ∧
  (v = .agg #[fvC, .pointer p, fvS, .pointer q] ∨ (l = [] ∧ p = none ∧ q = none ∧ v = .agg #[.nilFunc, .pointer p, .nilFunc, .pointer q]))
theorem SetV.mono {l : List U} : Kn.mono (.sat (SetV l)) := fun _ _ _ ⟨p, q, t, u, h1, h2, h3, h4⟩ hle => ⟨p, q, t, u, h1, h2.le hle, h3.le hle, h4⟩
theorem SetV.le {l : List U} {v : Value} {H H' : Heap} (h : SetV l v H) (hle : H.Le H') : SetV l v H' := SetV.mono _ _ _ h hle
theorem SetV.shape {l : List U} {v : Value} {H : Heap} (h : SetV l v H) : ∃ f p k q, v = .agg #[f, .pointer p, k, .pointer q] ∧ (cellsL (.agg #[f, .pointer p, k, .pointer q])).all plainV = true := by
  obtain ⟨p, q, _, _, _, _, _, h | ⟨_, _, _, h⟩⟩ := h
  · exact ⟨_, _, _, _, h, rfl⟩
  · exact ⟨_, _, _, _, h, rfl⟩
abbrev nilSet : Value := .agg #[.nilFunc, .pointer none, .nilFunc, .pointer none]
theorem SetV.nil {H : Heap} : SetV [] nilSet H := ⟨none, none, .nil, .nil, ts_nil, rfl, rfl, .inr ⟨rfl, rfl, rfl, rfl⟩⟩
attribute [local irreducible] V N X VO Par StepOK Has Ret RetL RetO Src
theorem slen_ret {l : List U} {n : Nat} (hn : l.length = n) {v : Value} {w : World} {B : Heap} (hB : B.Le (hp w)) (hv : SetV l v B) : Ret Try.prog 24 [v] w B (fun v _ => v = .int .i64 n) := by
  subst hn
  obtain ⟨p, q, t, u, hT, ht, hu, rfl | ⟨rfl, rfl, rfl, rfl⟩⟩ := hv
  · refine V_enter Try.func24 rfl Try.ntmps24 (Nat.le_of_ble_eq_true rfl) hB ?_
    refine V_seq ?_; refine V_region (id := 0) ?_; refine vo_step (ok_box rfl rfl rfl rfl) rfl ?_; refine vo_step (ok_assign rfl rfl rfl) rfl ?_; refine vo_nil ?_; refine N_seq ?_; refine V_seq ?_; refine V_region (id := 1) ?_; refine vo_step (ok_fieldAt L rfl rfl rfl rfl) rfl ?_; refine vo_step (ok_fieldAt L rfl rfl rfl rfl) rfl ?_; refine vo_step (ok_loadA L (vs := [_, _]) (src_at rfl) rfl rfl rfl rfl ⟨_, rfl⟩) rfl ?_; refine vo_step (ok_callx L rfl rfl (blt_lt rfl) rfl rfl rfl (fun u H hH hle _ => UT.len_m hH (⟨_, rfl, ht.le hle⟩) hT.size)) rfl ?_; refine vo_step (ok_assign rfl rfl rfl) rfl ?_; refine vo_nil ?_; refine N_seq ?_
    refine V_ret L (rs := [.tmp 2]) rfl (fun _ _ h => h) Since.refl fun u H hH hle => ?_
    rfl
  · refine V_enter Try.func24 rfl Try.ntmps24 (Nat.le_of_ble_eq_true rfl) hB ?_
    refine V_seq ?_; refine V_region (id := 0) ?_; refine vo_step (ok_box rfl rfl rfl rfl) rfl ?_; refine vo_step (ok_assign rfl rfl rfl) rfl ?_; refine vo_nil ?_; refine N_seq ?_; refine V_seq ?_; refine V_region (id := 1) ?_; refine vo_step (ok_fieldAt L rfl rfl rfl rfl) rfl ?_; refine vo_step (ok_fieldAt L rfl rfl rfl rfl) rfl ?_; refine vo_step (ok_loadA L (vs := [_, _]) (src_at rfl) rfl rfl rfl rfl ⟨_, rfl⟩) rfl ?_; refine vo_step (ok_callx L rfl rfl (blt_lt rfl) rfl rfl rfl (fun u H hH hle _ => UT.len_m hH (⟨_, rfl, ht.le hle⟩) hT.size)) rfl ?_; refine vo_step (ok_assign rfl rfl rfl) rfl ?_; refine vo_nil ?_; refine N_seq ?_
    refine V_ret L (rs := [.tmp 2]) rfl (fun _ _ h => h) Since.refl fun u H hH hle => ?_
    rfl
theorem shas_ret {l : List U} {x : U} {b : Bool} (hb : decide (x ∈ l) = b) {v : Value} {w : World} {B : Heap} (hB : B.Le (hp w)) (hv : SetV l v B) : Ret Try.prog 37 [v, uv x] w B (fun v _ => v = .bool b) := by
  have hv0 := hv
  obtain ⟨p, q, t, u, hT, ht, hu, rfl | ⟨rfl, rfl, rfl, rfl⟩⟩ := hv
  · have hg := hT.get x
    refine V_enter Try.func37 rfl Try.ntmps37 (Nat.le_of_ble_eq_true rfl) hB ?_
    by_cases h0 : l.length = 0
    · have hn : l = [] := List.eq_nil_of_length_eq_zero h0
      subst hn
      have hb' : b = false := by rw [← hb]; simp
      subst hb'
      refine V_seq ?_; refine V_region (id := 0) ?_; refine vo_step (ok_box rfl rfl rfl rfl) rfl ?_; refine vo_step (ok_box rfl rfl rfl rfl) rfl ?_; refine vo_step (ok_assign rfl rfl rfl) rfl ?_; refine vo_nil ?_; refine N_seq ?_; refine V_seq ?_; refine V_seq ?_; refine V_region (id := 1) ?_; refine vo_step (ok_loadA L (vs := [_, _, _, _]) (src_at rfl) rfl rfl rfl rfl ⟨_, rfl⟩) rfl ?_; refine vo_step (ok_callx L rfl rfl (blt_lt rfl) rfl rfl rfl (fun u H hH hle _ => slen_ret rfl hH (hv0.le hle))) rfl ?_; refine vo_step (ok_eql rfl rfl rfl rfl (decide_eq_true (by omega))) rfl ?_; refine vo_nil ?_; refine N_seq ?_; refine V_true rfl ?_; refine V_seq ?_; refine V_region (id := 2) ?_; refine vo_step (ok_assign rfl rfl rfl) rfl ?_; refine vo_nil ?_; refine N_seq ?_
      refine V_ret L (rs := [.tmp 4]) rfl (fun _ _ h => h) Since.refl fun u H hH hle => ?_
      rfl
    · cases b
      · have hx : x ∉ l := by simpa using hb
        rw [if_neg hx] at hg
        refine V_seq ?_; refine V_region (id := 0) ?_; refine vo_step (ok_box rfl rfl rfl rfl) rfl ?_; refine vo_step (ok_box rfl rfl rfl rfl) rfl ?_; refine vo_step (ok_assign rfl rfl rfl) rfl ?_; refine vo_nil ?_; refine N_seq ?_; refine V_seq ?_; refine V_seq ?_; refine V_region (id := 1) ?_; refine vo_step (ok_loadA L (vs := [_, _, _, _]) (src_at rfl) rfl rfl rfl rfl ⟨_, rfl⟩) rfl ?_; refine vo_step (ok_callx L rfl rfl (blt_lt rfl) rfl rfl rfl (fun u H hH hle _ => slen_ret rfl hH (hv0.le hle))) rfl ?_; refine vo_step (ok_eql rfl rfl rfl rfl (decide_eq_false (by omega))) rfl ?_; refine vo_nil ?_; refine N_seq ?_; refine V_false rfl ?_; refine V_skip ?_; refine N_seq ?_; refine V_seq ?_; refine V_region (id := 3) ?_; refine vo_step (ok_fieldAt L rfl rfl rfl rfl) rfl ?_; refine vo_step (ok_fieldAt L rfl rfl rfl rfl) rfl ?_; refine vo_step (ok_loadA L (vs := [_, _]) (src_at rfl) rfl rfl rfl rfl ⟨_, rfl⟩) rfl ?_; refine vo_step (ok_loadA L (vs := [_, _, _, _, _, _]) (src_at rfl) rfl rfl rfl rfl ⟨_, rfl⟩) rfl ?_; refine vo_step (ok_callx L rfl rfl (blt_lt rfl) rfl rfl rfl (fun u H hH hle _ => UT.get_m cmpUT x hH (⟨_, rfl, ht.le hle⟩) hg)) rfl ?_; refine vo_step (ok_move rfl rfl rfl) rfl ?_; refine vo_step (ok_extract rfl rfl rfl rfl) rfl ?_; refine vo_step (ok_extract rfl rfl rfl rfl) rfl ?_; refine vo_step (ok_alloc L rfl rfl rfl rfl) rfl ?_; refine vo_step (ok_store L rfl rfl rfl rfl rfl rfl rfl rfl) rfl ?_; refine vo_step (ok_assign rfl rfl rfl) rfl ?_; refine vo_nil ?_; refine N_seq ?_; refine V_seq ?_; refine V_region (id := 4) ?_; refine vo_step (ok_move rfl rfl rfl) rfl ?_; refine vo_step (ok_assign rfl rfl rfl) rfl ?_; refine vo_nil ?_; refine N_seq ?_
        refine V_ret L (rs := [.tmp 4]) rfl (fun _ _ h => h) Since.refl fun u H hH hle => ?_
        rfl
      · have hx : x ∈ l := by simpa using hb
        rw [if_pos hx] at hg
        refine V_seq ?_; refine V_region (id := 0) ?_; refine vo_step (ok_box rfl rfl rfl rfl) rfl ?_; refine vo_step (ok_box rfl rfl rfl rfl) rfl ?_; refine vo_step (ok_assign rfl rfl rfl) rfl ?_; refine vo_nil ?_; refine N_seq ?_; refine V_seq ?_; refine V_seq ?_; refine V_region (id := 1) ?_; refine vo_step (ok_loadA L (vs := [_, _, _, _]) (src_at rfl) rfl rfl rfl rfl ⟨_, rfl⟩) rfl ?_; refine vo_step (ok_callx L rfl rfl (blt_lt rfl) rfl rfl rfl (fun u H hH hle _ => slen_ret rfl hH (hv0.le hle))) rfl ?_; refine vo_step (ok_eql rfl rfl rfl rfl (decide_eq_false (by omega))) rfl ?_; refine vo_nil ?_; refine N_seq ?_; refine V_false rfl ?_; refine V_skip ?_; refine N_seq ?_; refine V_seq ?_; refine V_region (id := 3) ?_; refine vo_step (ok_fieldAt L rfl rfl rfl rfl) rfl ?_; refine vo_step (ok_fieldAt L rfl rfl rfl rfl) rfl ?_; refine vo_step (ok_loadA L (vs := [_, _]) (src_at rfl) rfl rfl rfl rfl ⟨_, rfl⟩) rfl ?_; refine vo_step (ok_loadA L (vs := [_, _, _, _, _, _]) (src_at rfl) rfl rfl rfl rfl ⟨_, rfl⟩) rfl ?_; refine vo_step (ok_callx L rfl rfl (blt_lt rfl) rfl rfl rfl (fun u H hH hle _ => UT.get_m cmpUT x hH (⟨_, rfl, ht.le hle⟩) hg)) rfl ?_; refine vo_step (ok_move rfl rfl rfl) rfl ?_; refine vo_step (ok_extract rfl rfl rfl rfl) rfl ?_; refine vo_step (ok_extract rfl rfl rfl rfl) rfl ?_; refine vo_step (ok_alloc L rfl rfl rfl rfl) rfl ?_; refine vo_step (ok_store L rfl rfl rfl rfl rfl rfl rfl rfl) rfl ?_; refine vo_step (ok_assign rfl rfl rfl) rfl ?_; refine vo_nil ?_; refine N_seq ?_; refine V_seq ?_; refine V_region (id := 4) ?_; refine vo_step (ok_move rfl rfl rfl) rfl ?_; refine vo_step (ok_assign rfl rfl rfl) rfl ?_; refine vo_nil ?_; refine N_seq ?_
        refine V_ret L (rs := [.tmp 4]) rfl (fun _ _ h => h) Since.refl fun u H hH hle => ?_
        rfl
  · have hb' : b = false := by rw [← hb]; simp
    subst hb'
    refine V_enter Try.func37 rfl Try.ntmps37 (Nat.le_of_ble_eq_true rfl) hB ?_
    refine V_seq ?_; refine V_region (id := 0) ?_; refine vo_step (ok_box rfl rfl rfl rfl) rfl ?_; refine vo_step (ok_box rfl rfl rfl rfl) rfl ?_; refine vo_step (ok_assign rfl rfl rfl) rfl ?_; refine vo_nil ?_; refine N_seq ?_; refine V_seq ?_; refine V_seq ?_; refine V_region (id := 1) ?_; refine vo_step (ok_loadA L (vs := [_, _, _, _]) (src_at rfl) rfl rfl rfl rfl ⟨_, rfl⟩) rfl ?_; refine vo_step (ok_callx L rfl rfl (blt_lt rfl) rfl rfl rfl (fun u H hH hle _ => slen_ret rfl hH (hv0.le hle))) rfl ?_; refine vo_step (ok_eql rfl rfl rfl rfl rfl) rfl ?_; refine vo_nil ?_; refine N_seq ?_; refine V_true rfl ?_; refine V_seq ?_; refine V_region (id := 2) ?_; refine vo_step (ok_assign rfl rfl rfl) rfl ?_; refine vo_nil ?_; refine N_seq ?_
    refine V_ret L (rs := [.tmp 4]) rfl (fun _ _ h => h) Since.refl fun u H hH hle => ?_
    rfl
/-- A variable that holds a set. -/
def scs (x : Value × Option Addr × Value × Option Addr) : List Value := [x.1, .pointer x.2.1, x.2.2.1, .pointer x.2.2.2]
abbrev SXp := { x : Value × Option Addr × Value × Option Addr // (scs x).all plainV = true }
abbrev sphi (l : List U) (x : SXp) (H : Heap) : Prop := SetV l (.agg (scs x.1).toArray) H
theorem sphi_mono (l : List U) : MonoX (sphi l) := fun _ _ _ h hle => SetV.le h hle
theorem set_st {l : List U} (v : Value) (H : Heap) (h : SetV l v H) : ∃ x : SXp, sphi l x H ∧ cellsL v = scs x.1 := by
  obtain ⟨f, p, k, q, rfl, hp⟩ := h.shape
  exact ⟨⟨(f, p, k, q), hp⟩, h, rfl⟩
/-- What With gives. -/
abbrev WithS (l : List U) (e : Int) : Value → Heap → Prop := TupS [SetV l, fun v _ => v = .int .i64 e]
theorem WithS.mono {l : List U} {e : Int} : Kn.mono (.sat (WithS l e)) := LE2.mono SetV.mono
theorem mf4 {cf cg : Nat} {t u : Tr U Unit} {v1 v2 : Value} {H : Heap} (h1 : UT.MF cf t v1 H) (h2 : UT.MF cg u v2 H) : ∃ p q, v1 = .agg #[.func (.func cf) #[] #[], .pointer p] ∧ v2 = .agg #[.func (.func cg) #[] #[], .pointer q] ∧ UT.TA t (.pointer p) H ∧ UT.TA u (.pointer q) H := by
  obtain ⟨p, e1, h1⟩ := h1
  obtain ⟨q, e2, h2⟩ := h2
  exact ⟨p, q, e1, e2, h1, h2⟩
theorem ts_ch {l : List U} {t u : Tr U Unit} (h : TS l t u) {x : U} {d : Bool} (hx : decide (x ∈ l) = d) (hc : d = false → l.length < 4096) (he : tE x = 0) : TS (withU l x d).1 (chT cmpT x d t) (chT cmpS x d u) ∧ (withU l x d).2 = 0 := by
  unfold withU chT
  rw [if_pos he]
  cases d
  · have hx' : x ∉ l := by simpa using hx
    rw [if_neg (by decide), if_neg hx', if_neg (by have := hc rfl; omega), if_neg (by decide), if_neg (by decide)]
    exact ⟨h.put hx', rfl⟩
  · have hx' : x ∈ l := by simpa using hx
    rw [if_pos rfl, if_pos rfl, if_pos rfl]
    exact ⟨h.drop hx', rfl⟩
set_option maxHeartbeats 1000000 in
theorem with_ret {l m : List U} {x : U} {d : Bool} {e : Int} (hr : withU l x d = (m, e)) (hl : l.length ≤ 4096) (hz : TZ x) {v : Value} {w : World} {B : Heap} (hB : B.Le (hp w)) (hv : SetV l v B) :
    Ret Try.prog 63 [v, chv x d] w B (WithS m e) := by
  obtain ⟨f1, p1, f2, q1, hsh, hpl⟩ := hv.shape
  by_cases he : tE x = 0
  · obtain ⟨hin, hin0⟩ : ∃ b, decide (x ∈ l) = b := ⟨_, rfl⟩
    by_cases hd : hin = d
    · subst hd
      by_cases hfull : hin = false ∧ l.length = 4096
      · obtain ⟨rfl, hlen⟩ := hfull
        have hw : withU l x false = ([], 3) := by
          unfold withU
          rw [if_pos he, if_neg (by decide), if_neg (by simpa using hin0), if_pos (by omega)]
        rw [hw] at hr
        cases hr
        subst hsh
        refine V_enter Try.func63 rfl Try.ntmps63 (Nat.le_of_ble_eq_true rfl) hB ?_
        refine V_seq ?_; refine V_region (id := 0) ?_; refine vo_step (ok_box rfl rfl rfl rfl) rfl ?_; refine vo_step (ok_box rfl rfl rfl rfl) rfl ?_; refine vo_step (ok_alloc L rfl rfl rfl rfl) rfl ?_; refine vo_step (ok_assign rfl rfl rfl) rfl ?_; refine vo_nil ?_; refine N_seq ?_; refine V_seq ?_; refine V_seq ?_; refine V_region (id := 1) ?_; refine vo_step (ok_fieldAt L rfl rfl rfl rfl) rfl ?_; refine vo_step (ok_loadA L (vs := [_, _, _, _, _, _]) (src_at rfl) rfl rfl rfl rfl ⟨_, rfl⟩) rfl ?_; refine vo_step (ok_callx L rfl rfl (blt_lt rfl) rfl rfl rfl (fun u H hH _ _ => he ▸ tcheck_ret hz hH)) rfl ?_; refine vo_step (ok_assign rfl rfl rfl) rfl ?_; refine vo_nil ?_; refine N_seq ?_; refine V_seq ?_; refine V_region (id := 2) ?_; refine vo_step (ok_move rfl rfl rfl) rfl ?_; refine vo_step (ok_neq rfl rfl rfl rfl (decide_eq_false (by omega))) rfl ?_; refine vo_nil ?_; refine N_seq ?_; refine V_false rfl ?_; refine V_skip ?_; refine N_seq ?_; refine V_seq ?_; refine V_seq ?_; refine V_regionD (id := 4) [] mixed (by kernel_rfl) ?_; refine par_step (ok_loadA L (vs := [_, _, _, _]) (src_at rfl) rfl rfl rfl rfl ⟨_, rfl⟩) rfl ?_; refine par_step (ok_fieldAt L rfl rfl rfl rfl) rfl ?_; refine par_step (ok_loadA L (vs := [_, _, _, _, _, _]) (src_at rfl) rfl rfl rfl rfl ⟨_, rfl⟩) rfl ?_; refine par_step (ok_callx L rfl rfl (blt_lt rfl) rfl rfl rfl (fun u H hH hle _ => shas_ret hin0 hH (hv.le hle))) rfl ?_; refine par_step (ok_fieldAt L rfl rfl rfl rfl) rfl ?_; refine par_step (ok_load1 L (src_at rfl) rfl rfl rfl rfl) rfl ?_; refine par_step (ok_bneq rfl rfl rfl rfl bt4 rfl) rfl ?_; refine par_nil ?_; refine N_seq ?_; refine V_false rfl ?_; refine V_skip ?_; refine N_seq ?_; refine V_seq ?_; refine V_seq ?_; refine V_region (id := 6) ?_; refine vo_step (ok_fieldAt L rfl rfl rfl rfl) rfl ?_; refine vo_step (ok_load1 L (src_at rfl) rfl rfl rfl rfl) rfl ?_; refine vo_step (ok_not rfl rfl rfl rfl) rfl ?_; refine vo_step (ok_move rfl rfl rfl) rfl ?_; refine vo_step (ok_loadA L (vs := [_, _, _, _]) (src_at rfl) rfl rfl rfl rfl ⟨_, rfl⟩) rfl ?_; refine vo_step (ok_callx L rfl rfl (blt_lt rfl) rfl rfl rfl (fun u H hH hle _ => slen_ret hlen hH (hv.le hle))) rfl ?_; refine vo_step (ok_eql rfl rfl rfl rfl (decide_eq_true (by omega))) rfl ?_; refine vo_step (ok_pick rfl rfl rfl rfl) rfl ?_; refine vo_nil ?_; refine N_seq ?_; refine V_true rfl ?_; refine V_seq ?_; refine V_region (id := 7) ?_; refine vo_step (ok_build (cs := [_, _, _, _]) rfl rfl pl41 rfl rfl) rfl ?_; refine vo_step (ok_store L rfl rfl rfl rfl rfl rfl rfl rfl) rfl ?_; refine vo_step (ok_assign rfl rfl rfl) rfl ?_; refine vo_nil ?_; refine N_seq ?_
        refine V_ret L (rs := [.cell 4 41, .tmp 5]) rfl (fun _ _ h => h) Since.refl fun u H hH hle => ?_
        exact ⟨_, src_own rfl, rfl, LE2.mk SetV.nil⟩
      · have hc : hin = false → l.length < 4096 := fun h => by
          rcases Nat.lt_or_ge l.length 4096 with h' | h'
          · exact h'
          · exact absurd ⟨h, by omega⟩ hfull
        obtain ⟨p, q, t, u, hT, ht, hu, hv1⟩ := id hv
        have hch := ts_ch hT hin0 hc he
        rw [hr] at hch
        obtain ⟨hT', rfl⟩ := hch
        have hts := hT.size
        have hus := hT.zu
        have hf1 : p1 = p ∧ q1 = q ∧ (f1 = fvC ∨ (f1 = .nilFunc ∧ t = .nil)) ∧ (f2 = fvS ∨ (f2 = .nilFunc ∧ u = .nil)) := by
          rcases hv1 with h | ⟨h0, rfl, rfl, h⟩
          · rw [hsh] at h; cases h; exact ⟨rfl, rfl, .inl rfl, .inl rfl⟩
          · rw [hsh] at h
            cases h
            subst h0
            have key : ∀ {s : Tr U Unit}, s.size = 0 → s = .nil := fun {s} hs => by
              cases s with
              | nil => rfl
              | node k y l r => simp only [Tr.size] at hs; omega
            exact ⟨rfl, rfl, .inr ⟨rfl, key hts⟩, .inr ⟨rfl, key hus⟩⟩
        obtain ⟨rfl, rfl, hf1, hf2⟩ := hf1
        subst hsh
        have hchg1 := fun (u1 : World) (H : Heap) (hH : H.Le (hp u1)) (hle : B.Le H) => change_ret cmpUT hf1 x hin hH (ht.le hle) (by omega)
        have hchg2 := fun (u1 : World) (H : Heap) (hH : H.Le (hp u1)) (hle : B.Le H) => change_ret cmpUS hf2 x hin hH (hu.le hle) (by omega)
        cases hin
        · have hlen := hc rfl
          refine V_enter Try.func63 rfl Try.ntmps63 (Nat.le_of_ble_eq_true rfl) hB ?_
          refine V_seq ?_; refine V_region (id := 0) ?_; refine vo_step (ok_box rfl rfl rfl rfl) rfl ?_; refine vo_step (ok_box rfl rfl rfl rfl) rfl ?_; refine vo_step (ok_alloc L rfl rfl rfl rfl) rfl ?_; refine vo_step (ok_assign rfl rfl rfl) rfl ?_; refine vo_nil ?_; refine N_seq ?_; refine V_seq ?_; refine V_seq ?_; refine V_region (id := 1) ?_; refine vo_step (ok_fieldAt L rfl rfl rfl rfl) rfl ?_; refine vo_step (ok_loadA L (vs := [_, _, _, _, _, _]) (src_at rfl) rfl rfl rfl rfl ⟨_, rfl⟩) rfl ?_; refine vo_step (ok_callx L rfl rfl (blt_lt rfl) rfl rfl rfl (fun u H hH _ _ => he ▸ tcheck_ret hz hH)) rfl ?_; refine vo_step (ok_assign rfl rfl rfl) rfl ?_; refine vo_nil ?_; refine N_seq ?_; refine V_seq ?_; refine V_region (id := 2) ?_; refine vo_step (ok_move rfl rfl rfl) rfl ?_; refine vo_step (ok_neq rfl rfl rfl rfl (decide_eq_false (by omega))) rfl ?_; refine vo_nil ?_; refine N_seq ?_; refine V_false rfl ?_; refine V_skip ?_; refine N_seq ?_; refine V_seq ?_; refine V_seq ?_; refine V_regionD (id := 4) [] mixed (by kernel_rfl) ?_; refine par_step (ok_loadA L (vs := [_, _, _, _]) (src_at rfl) rfl rfl rfl rfl ⟨_, rfl⟩) rfl ?_; refine par_step (ok_fieldAt L rfl rfl rfl rfl) rfl ?_; refine par_step (ok_loadA L (vs := [_, _, _, _, _, _]) (src_at rfl) rfl rfl rfl rfl ⟨_, rfl⟩) rfl ?_; refine par_step (ok_callx L rfl rfl (blt_lt rfl) rfl rfl rfl (fun u H hH hle _ => shas_ret hin0 hH (hv.le hle))) rfl ?_; refine par_step (ok_fieldAt L rfl rfl rfl rfl) rfl ?_; refine par_step (ok_load1 L (src_at rfl) rfl rfl rfl rfl) rfl ?_; refine par_step (ok_bneq rfl rfl rfl rfl bt4 rfl) rfl ?_; refine par_nil ?_; refine N_seq ?_; refine V_false rfl ?_; refine V_skip ?_; refine N_seq ?_; refine V_seq ?_; refine V_seq ?_; refine V_region (id := 6) ?_; refine vo_step (ok_fieldAt L rfl rfl rfl rfl) rfl ?_; refine vo_step (ok_load1 L (src_at rfl) rfl rfl rfl rfl) rfl ?_; refine vo_step (ok_not rfl rfl rfl rfl) rfl ?_; refine vo_step (ok_move rfl rfl rfl) rfl ?_; refine vo_step (ok_loadA L (vs := [_, _, _, _]) (src_at rfl) rfl rfl rfl rfl ⟨_, rfl⟩) rfl ?_; refine vo_step (ok_callx L rfl rfl (blt_lt rfl) rfl rfl rfl (fun u H hH hle _ => slen_ret rfl hH (hv.le hle))) rfl ?_; refine vo_step (ok_eql rfl rfl rfl rfl (decide_eq_false (by omega))) rfl ?_; refine vo_step (ok_pick rfl rfl rfl rfl) rfl ?_; refine vo_nil ?_; refine N_seq ?_; refine V_false rfl ?_; refine V_skip ?_; refine N_seq ?_; refine V_seq ?_; refine V_regionD (id := 8) [] mixed (by kernel_rfl) ?_; refine par_step (ok_fieldAt L rfl rfl rfl rfl) rfl ?_; refine par_step (ok_loadA L (vs := [_, _]) (src_at rfl) rfl rfl rfl rfl ⟨_, rfl⟩) rfl ?_; refine par_step (ok_loadA L (vs := [_, _, _, _, _, _, _]) (src_at rfl) rfl rfl rfl rfl ⟨_, rfl⟩) rfl ?_; refine par_step (ok_call (φ := UT.MF 76 (chT cmpT x false t)) L rfl rfl (blt_lt rfl) rfl rfl rfl UT.MA.mono (fun u H hH hle _ => hchg1 u H hH hle)) rfl ?_; refine par_step (ok_fieldAt L rfl rfl rfl rfl) rfl ?_; refine par_step (ok_loadA L (vs := [_, _]) (src_at rfl) rfl rfl rfl rfl ⟨_, rfl⟩) rfl ?_; refine par_step (ok_loadA L (vs := [_, _, _, _, _, _, _]) (src_at rfl) rfl rfl rfl rfl ⟨_, rfl⟩) rfl ?_; refine par_step (ok_call (φ := UT.MF 86 (chT cmpS x false u)) L rfl rfl (blt_lt rfl) rfl rfl rfl UT.MA.mono (fun u H hH hle _ => hchg2 u H hH hle)) rfl ?_; refine par_step (ok_buildS (ψ := SetV m) rfl rfl pl41 SetV.mono (fun H _ v1 h1 v2 h2 => by obtain ⟨p, q, rfl, rfl, k1, k2⟩ := mf4 h1 h2; exact ⟨_, rfl, p, q, _, _, hT', k1, k2, .inl rfl⟩)) rfl ?_; refine par_step (ok_storeX L (X := SXp) (fun x => scs x.1) (sphi m) (sphi_mono m) set_st (fun x => ⟨rfl, x.2⟩) rfl rfl rfl rfl rfl) rfl ?_; refine par_step (ok_assign rfl rfl rfl) rfl ?_; refine par_nil ?_; refine N_seq ?_
          refine V_opnX 4 rfl fun x4 H4 hs4 hx4 => ?_
          refine V_ret L (rs := [.cell 4 41, .tmp 5]) rfl (fun _ _ h => h) hs4 fun u H hH hle => ?_
          exact ⟨_, src_own rfl, rfl, LE2.mk (hx4.le hle)⟩
        · refine V_enter Try.func63 rfl Try.ntmps63 (Nat.le_of_ble_eq_true rfl) hB ?_
          refine V_seq ?_; refine V_region (id := 0) ?_; refine vo_step (ok_box rfl rfl rfl rfl) rfl ?_; refine vo_step (ok_box rfl rfl rfl rfl) rfl ?_; refine vo_step (ok_alloc L rfl rfl rfl rfl) rfl ?_; refine vo_step (ok_assign rfl rfl rfl) rfl ?_; refine vo_nil ?_; refine N_seq ?_; refine V_seq ?_; refine V_seq ?_; refine V_region (id := 1) ?_; refine vo_step (ok_fieldAt L rfl rfl rfl rfl) rfl ?_; refine vo_step (ok_loadA L (vs := [_, _, _, _, _, _]) (src_at rfl) rfl rfl rfl rfl ⟨_, rfl⟩) rfl ?_; refine vo_step (ok_callx L rfl rfl (blt_lt rfl) rfl rfl rfl (fun u H hH _ _ => he ▸ tcheck_ret hz hH)) rfl ?_; refine vo_step (ok_assign rfl rfl rfl) rfl ?_; refine vo_nil ?_; refine N_seq ?_; refine V_seq ?_; refine V_region (id := 2) ?_; refine vo_step (ok_move rfl rfl rfl) rfl ?_; refine vo_step (ok_neq rfl rfl rfl rfl (decide_eq_false (by omega))) rfl ?_; refine vo_nil ?_; refine N_seq ?_; refine V_false rfl ?_; refine V_skip ?_; refine N_seq ?_; refine V_seq ?_; refine V_seq ?_; refine V_regionD (id := 4) [] mixed (by kernel_rfl) ?_; refine par_step (ok_loadA L (vs := [_, _, _, _]) (src_at rfl) rfl rfl rfl rfl ⟨_, rfl⟩) rfl ?_; refine par_step (ok_fieldAt L rfl rfl rfl rfl) rfl ?_; refine par_step (ok_loadA L (vs := [_, _, _, _, _, _]) (src_at rfl) rfl rfl rfl rfl ⟨_, rfl⟩) rfl ?_; refine par_step (ok_callx L rfl rfl (blt_lt rfl) rfl rfl rfl (fun u H hH hle _ => shas_ret hin0 hH (hv.le hle))) rfl ?_; refine par_step (ok_fieldAt L rfl rfl rfl rfl) rfl ?_; refine par_step (ok_load1 L (src_at rfl) rfl rfl rfl rfl) rfl ?_; refine par_step (ok_bneq rfl rfl rfl rfl bt4 rfl) rfl ?_; refine par_nil ?_; refine N_seq ?_; refine V_false rfl ?_; refine V_skip ?_; refine N_seq ?_; refine V_seq ?_; refine V_seq ?_; refine V_region (id := 6) ?_; refine vo_step (ok_fieldAt L rfl rfl rfl rfl) rfl ?_; refine vo_step (ok_load1 L (src_at rfl) rfl rfl rfl rfl) rfl ?_; refine vo_step (ok_not rfl rfl rfl rfl) rfl ?_; refine vo_step (ok_move rfl rfl rfl) rfl ?_; refine vo_step (ok_skip rfl (blt_lt rfl) rfl) rfl ?_; refine vo_step (ok_skip rfl (blt_lt rfl) rfl) rfl ?_; refine vo_step (ok_skip rfl (blt_lt rfl) rfl) rfl ?_; refine vo_step (ok_pick rfl rfl rfl rfl) rfl ?_; refine vo_nil ?_; refine N_seq ?_; refine V_false rfl ?_; refine V_skip ?_; refine N_seq ?_; refine V_seq ?_; refine V_regionD (id := 8) [] mixed (by kernel_rfl) ?_; refine par_step (ok_fieldAt L rfl rfl rfl rfl) rfl ?_; refine par_step (ok_loadA L (vs := [_, _]) (src_at rfl) rfl rfl rfl rfl ⟨_, rfl⟩) rfl ?_; refine par_step (ok_loadA L (vs := [_, _, _, _, _, _, _]) (src_at rfl) rfl rfl rfl rfl ⟨_, rfl⟩) rfl ?_; refine par_step (ok_call (φ := UT.MF 76 (chT cmpT x true t)) L rfl rfl (blt_lt rfl) rfl rfl rfl UT.MA.mono (fun u H hH hle _ => hchg1 u H hH hle)) rfl ?_; refine par_step (ok_fieldAt L rfl rfl rfl rfl) rfl ?_; refine par_step (ok_loadA L (vs := [_, _]) (src_at rfl) rfl rfl rfl rfl ⟨_, rfl⟩) rfl ?_; refine par_step (ok_loadA L (vs := [_, _, _, _, _, _, _]) (src_at rfl) rfl rfl rfl rfl ⟨_, rfl⟩) rfl ?_; refine par_step (ok_call (φ := UT.MF 86 (chT cmpS x true u)) L rfl rfl (blt_lt rfl) rfl rfl rfl UT.MA.mono (fun u H hH hle _ => hchg2 u H hH hle)) rfl ?_; refine par_step (ok_buildS (ψ := SetV m) rfl rfl pl41 SetV.mono (fun H _ v1 h1 v2 h2 => by obtain ⟨p, q, rfl, rfl, k1, k2⟩ := mf4 h1 h2; exact ⟨_, rfl, p, q, _, _, hT', k1, k2, .inl rfl⟩)) rfl ?_; refine par_step (ok_storeX L (X := SXp) (fun x => scs x.1) (sphi m) (sphi_mono m) set_st (fun x => ⟨rfl, x.2⟩) rfl rfl rfl rfl rfl) rfl ?_; refine par_step (ok_assign rfl rfl rfl) rfl ?_; refine par_nil ?_; refine N_seq ?_
          refine V_opnX 4 rfl fun x4 H4 hs4 hx4 => ?_
          refine V_ret L (rs := [.cell 4 41, .tmp 5]) rfl (fun _ _ h => h) hs4 fun u H hH hle => ?_
          exact ⟨_, src_own rfl, rfl, LE2.mk (hx4.le hle)⟩
    · have hw : withU l x d = (l, 0) := by
        unfold withU
        rw [if_pos he]
        cases d
        · have : hin = true := by cases hin; exact absurd rfl hd; rfl
          subst this
          rw [if_neg (by decide), if_pos (by simpa using hin0)]
        · have : hin = false := by cases hin; rfl; exact absurd rfl hd
          subst this
          rw [if_pos rfl, filter_out (by simpa using hin0)]
      rw [hw] at hr
      cases hr
      have hb : (hin == d) = false := by cases hin <;> cases d <;> first | rfl | exact absurd rfl hd
      subst hsh
      refine V_enter Try.func63 rfl Try.ntmps63 (Nat.le_of_ble_eq_true rfl) hB ?_
      have hb2 : (!(hin == d)) = true := by rw [hb]; rfl
      refine V_seq ?_; refine V_region (id := 0) ?_; refine vo_step (ok_box rfl rfl rfl rfl) rfl ?_; refine vo_step (ok_box rfl rfl rfl rfl) rfl ?_; refine vo_step (ok_alloc L rfl rfl rfl rfl) rfl ?_; refine vo_step (ok_assign rfl rfl rfl) rfl ?_; refine vo_nil ?_; refine N_seq ?_; refine V_seq ?_; refine V_seq ?_; refine V_region (id := 1) ?_; refine vo_step (ok_fieldAt L rfl rfl rfl rfl) rfl ?_; refine vo_step (ok_loadA L (vs := [_, _, _, _, _, _]) (src_at rfl) rfl rfl rfl rfl ⟨_, rfl⟩) rfl ?_; refine vo_step (ok_callx L rfl rfl (blt_lt rfl) rfl rfl rfl (fun u H hH _ _ => he ▸ tcheck_ret hz hH)) rfl ?_; refine vo_step (ok_assign rfl rfl rfl) rfl ?_; refine vo_nil ?_; refine N_seq ?_; refine V_seq ?_; refine V_region (id := 2) ?_; refine vo_step (ok_move rfl rfl rfl) rfl ?_; refine vo_step (ok_neq rfl rfl rfl rfl (decide_eq_false (by omega))) rfl ?_; refine vo_nil ?_; refine N_seq ?_; refine V_false rfl ?_; refine V_skip ?_; refine N_seq ?_; refine V_seq ?_; refine V_seq ?_; refine V_regionD (id := 4) [] mixed (by kernel_rfl) ?_; refine par_step (ok_loadA L (vs := [_, _, _, _]) (src_at rfl) rfl rfl rfl rfl ⟨_, rfl⟩) rfl ?_; refine par_step (ok_fieldAt L rfl rfl rfl rfl) rfl ?_; refine par_step (ok_loadA L (vs := [_, _, _, _, _, _]) (src_at rfl) rfl rfl rfl rfl ⟨_, rfl⟩) rfl ?_; refine par_step (ok_callx L rfl rfl (blt_lt rfl) rfl rfl rfl (fun u H hH hle _ => shas_ret hin0 hH (hv.le hle))) rfl ?_; refine par_step (ok_fieldAt L rfl rfl rfl rfl) rfl ?_; refine par_step (ok_load1 L (src_at rfl) rfl rfl rfl rfl) rfl ?_; refine par_step (ok_bneq rfl rfl rfl rfl bt4 hb2) rfl ?_; refine par_nil ?_; refine N_seq ?_; refine V_true rfl ?_; refine V_seq ?_; refine V_region (id := 5) ?_; refine vo_step (ok_loadA L (vs := [_, _, _, _]) (src_at rfl) rfl rfl rfl rfl ⟨_, rfl⟩) rfl ?_; refine vo_step (ok_store L rfl rfl rfl rfl rfl rfl (by assumption) rfl) rfl ?_; refine vo_step (ok_assign rfl rfl rfl) rfl ?_; refine vo_nil ?_; refine N_seq ?_
      refine V_ret L (rs := [.cell 4 41, .tmp 5]) rfl (fun _ _ h => h) Since.refl fun u H hH hle => ?_
      exact ⟨_, src_own rfl, rfl, LE2.mk (hv.le hle)⟩
  · have hw : withU l x d = ([], tE x) := if_neg he
    rw [hw] at hr
    cases hr
    subst hsh
    refine V_enter Try.func63 rfl Try.ntmps63 (Nat.le_of_ble_eq_true rfl) hB ?_
    refine V_seq ?_; refine V_region (id := 0) ?_; refine vo_step (ok_box rfl rfl rfl rfl) rfl ?_; refine vo_step (ok_box rfl rfl rfl rfl) rfl ?_; refine vo_step (ok_alloc L rfl rfl rfl rfl) rfl ?_; refine vo_step (ok_assign rfl rfl rfl) rfl ?_; refine vo_nil ?_; refine N_seq ?_; refine V_seq ?_; refine V_seq ?_; refine V_region (id := 1) ?_; refine vo_step (ok_fieldAt L rfl rfl rfl rfl) rfl ?_; refine vo_step (ok_loadA L (vs := [_, _, _, _, _, _]) (src_at rfl) rfl rfl rfl rfl ⟨_, rfl⟩) rfl ?_; refine vo_step (ok_callx L rfl rfl (blt_lt rfl) rfl rfl rfl (fun u H hH _ _ => tcheck_ret hz hH)) rfl ?_; refine vo_step (ok_assign rfl rfl rfl) rfl ?_; refine vo_nil ?_; refine N_seq ?_; refine V_seq ?_; refine V_region (id := 2) ?_; refine vo_step (ok_move rfl rfl rfl) rfl ?_; refine vo_step (ok_neq rfl rfl rfl rfl (decide_eq_true (by omega))) rfl ?_; refine vo_nil ?_; refine N_seq ?_; refine V_true rfl ?_; refine V_seq ?_; refine V_region (id := 3) ?_; refine vo_step (ok_build (cs := [_, _, _, _]) rfl rfl pl41 rfl rfl) rfl ?_; refine vo_step (ok_move rfl rfl rfl) rfl ?_; refine vo_step (ok_store L rfl rfl rfl rfl rfl rfl rfl rfl) rfl ?_; refine vo_step (ok_assign rfl rfl rfl) rfl ?_; refine vo_nil ?_; refine N_seq ?_
    refine V_ret L (rs := [.cell 4 41, .tmp 5]) rfl (fun _ _ h => h) Since.refl fun u H hH hle => ?_
    exact ⟨_, src_own rfl, rfl, LE2.mk SetV.nil⟩
end Go.V.L6
/- The walk of the definition of tuples (chapter 2): parts of two lists. -/
namespace Go.V.L2
open Go.Proofs Go.RowKit Go.V
attribute [local irreducible] V N X VO Par StepOK Has Ret RetL Src
end Go.V.L2
/- The walks of sets (chapter 6): lists of tuples. -/
namespace Go.V.L6
open Go.Proofs Go.RowKit Go.V Go.V.L2 Go.V.L3
attribute [local irreducible] V N X VO Par StepOK Has Ret RetL RetO Src
end Go.V.L6
/- The walks of sets (chapter 6): what is asked of a set. -/
namespace Go.V.L6
open Go.Proofs Go.RowKit Go.V Go.V.L2 Go.V.L3
attribute [local irreducible] V N X VO Par StepOK Has Ret RetL RetO Src
end Go.V.L6
/- The kit: what is owned is clipped: no room is left behind it. -/
namespace Go.V
open Go.RowKit
/-- An owned slice without spare capacity; its block may be longer. -/
def SlC (e : TypeId) (s n : Nat) (xs : List Value) : Res where
  P x _ u C := xs.length = n * s ∧ ((n = 0 ∧ x = .slice none 0 0 ∧ ∀ k, ¬ C k) ∨ ∃ b rest, x = .slice (some ⟨b, 0, none⟩) n n ∧ u.heap[b]? = some (.cells (xs ++ rest).toArray e) ∧ n ≤ maxLen ∧ ∀ k, C k ↔ k = b)
  st := fun ⟨hl, h⟩ _ _ _ hk => ⟨hl, by
    rcases h with h | ⟨b, rest, h1, h2, h3, h4⟩
    · exact .inl h
    · exact .inr ⟨b, rest, h1, (hk b ((h4 b).2 rfl)).trans h2, h3, h4⟩⟩
section
variable {P : Program} {F : Fr} {B : Heap} {O : Boxes} {n : Nat} {ops : Array Oper} {κ : Kap} {d : Nat} {ty : TypeId} {pos : String} {aft : Array Edge} {g : Option (Nat × Bool)} {a : Act} {u : World} {Q : Exit → Act → World → Prop}
theorem SlC.shape {e : TypeId} {s m : Nat} {xs : List Value} : ∀ v H u C, (SlC e s m xs).P v H u C → ∃ p, v = .slice p m m := fun v _ _ _ ⟨_, h⟩ => by
  rcases h with ⟨h0, h, _⟩ | ⟨b, rest, h, _⟩
  · subst h0; exact ⟨none, h⟩
  · exact ⟨_, h⟩
end
end Go.V
/- The walks of sets (chapter 6): what a filter takes of a set. -/
namespace Go.V.L6
open Go.Proofs Go.RowKit Go.V Go.V.L2 Go.V.L3
attribute [local irreducible] V N X VO Par StepOK Has Ret RetL RetO RetT Src
end Go.V.L6
/- slices.Compact at goals. -/
namespace Go.V.L6
open Go.Proofs Go.RowKit Go.V Go.V.L2
attribute [local irreducible] V N X VO Par StepOK Has Ret RetL RetO Src
end Go.V.L6
/- The walks of sets (chapter 6): goals, equality, sets of lists. -/
namespace Go.V.L6
open Go.Proofs Go.RowKit Go.V Go.V.L2 Go.V.L3
theorem LE2.out {φ : Value → Heap → Prop} {a v : Value} {H : Heap} (h : TupS [φ, fun v _ => v = a] v H) : ∃ tv, v = .tuple #[tv, a] ∧ φ tv H := by
  obtain ⟨vs, rfl, hl, h⟩ := h
  match vs, hl with
  | [x, y], _ =>
    have h1 := h 0 _ x rfl rfl
    have h2 := h 1 _ y rfl rfl
    subst h2
    exact ⟨x, rfl, h1⟩
def WithP (l : List U) (e : Int) (r : Value) (H : Heap) : Prop := ∃ tv, r = .tuple #[tv, .int .i64 e] ∧ SetV l tv H
theorem WithP.mono {l : List U} {e : Int} : Kn.mono (.sat (WithP l e)) := fun _ _ _ ⟨tv, h1, h2⟩ hle => ⟨tv, h1, h2.le hle⟩
theorem with_p {l m : List U} {x : U} {d : Bool} {e : Int} (hr : withU l x d = (m, e)) (hl : l.length ≤ 4096) (hz : TZ x) {v : Value} {w : World} {B : Heap} (hB : B.Le (hp w)) (hv : SetV l v B) :
    Ret Try.prog 63 [v, chv x d] w B (WithP m e) := (with_ret hr hl hz hB hv).mono fun _ _ _ h => LE2.out h
attribute [local irreducible] V N X VO Par StepOK Has Ret RetL RetO RetT Src
set_option maxHeartbeats 2000000 in
theorem sof_ret {l m : List U} {fu : Bool} {e : Int} (hr : ofU [] l = (m, e)) (hl : l.length ≤ 100000) (hz : ∀ t ∈ l, TZ t) {v : Value} {w : World} {B : Heap} (hB : B.Le (hp w)) (hv : US l fu v B) :
    Ret Try.prog 58 [v] w B (WithP m e) := by
  refine V_enter Try.func58 rfl Try.ntmps58 (Nat.le_of_ble_eq_true rfl) hB ?_
  refine V_seen 0 (US l fu) rfl SlV.mono hv ?_
  refine V_seq ?_; refine V_region (id := 0) ?_; refine vo_step (ok_alloc L rfl rfl rfl rfl) rfl ?_; refine vo_step (ok_assign rfl rfl rfl) rfl ?_; refine vo_nil ?_; refine N_seq ?_; refine V_seq ?_; refine V_region (id := 1) ?_; refine vo_step (ok_alloc L rfl rfl rfl rfl) rfl ?_; refine vo_nil ?_; refine N_seq ?_; refine V_seq ?_; refine V_seq ?_; refine V_region (id := 2) ?_; refine vo_step (ok_moves' rfl rfl rfl) rfl ?_; refine vo_step (ok_lenV L rfl rfl rfl rfl) rfl ?_; refine vo_step (ok_move rfl rfl rfl) rfl ?_; refine vo_nil ?_; refine N_seq ?_; refine V_block ?_
  refine V_clsX (X := SXp) 4 (r := fun x => Cell (scs x.1) tySet) (φ := sphi []) (sphi_mono []) ⟨(.nilFunc, none, .nilFunc, none), rfl⟩ SetV.nil rfl ?_
  refine V_loop (fun y : Nat × List U => [(2, .own (Cell [.nilFunc, .pointer none, .nilFunc, .pointer none] tySet)), (4, .own (ExR (fun x : SXp => Cell (scs x.1) tySet) (sphi y.2) (sphi_mono y.2))), (9, .sat (US l fu)), (10, .is (.int .i64 l.length)), (11, .is (.int .i64 y.1))])
    (fun y => y.1 ≤ l.length ∧ ofU y.2 (l.drop y.1) = (m, e) ∧ y.2.length ≤ 4096) (fun y => l.length - y.1) (0, []) ⟨Nat.zero_le _, hr, Nat.zero_le _⟩ ⟨rfl, rfl, rfl, rfl, rfl, trivial⟩ ?_
  rintro ⟨k, s⟩ ⟨hk, he, hsl⟩
  dsimp only at hk he hsl ⊢
  refine V_opnX 4 rfl fun ⟨⟨f1, p1, f2, q1⟩, hpl⟩ H3 hs3 hT => ?_
  have hT : SetV s (.agg #[f1, .pointer p1, f2, .pointer q1]) H3 := hT
  by_cases hlt : k < l.length
  · obtain ⟨t, ht⟩ := get_some hlt
    have hc := us_at ht
    have hzt := hz t (List.mem_of_getElem? ht)
    rw [drop_g ht, ofU] at he
    rcases hw : withU s t false with ⟨s', e'⟩
    rw [hw] at he
    dsimp only at he
    have hsl' := withU_len hsl t false
    rw [hw] at hsl'
    by_cases h0 : e' = 0
    · rw [if_pos h0] at he
      subst h0
      refine V_seq ?_; refine V_region (id := 3) ?_; refine vo_step (ok_lss rfl rfl rfl rfl (decide_eq_true (by omega))) rfl ?_; refine vo_nil ?_; refine N_seq ?_; refine V_seq ?_; refine V_true rfl ?_; refine V_skip ?_; refine N_seq ?_; refine V_seq ?_; refine V_block ?_; refine V_seq ?_; refine V_region (id := 4) ?_; refine vo_step (ok_indexV L _ rfl rfl rfl rfl rfl rfl rfl (by first | omega | decide) (by assumption)) rfl ?_; refine vo_step (ok_loadPA L (vs := [_, _, _, _, _, _]) rfl rfl rfl rfl rfl ⟨_, rfl⟩) rfl ?_; refine vo_step (ok_alloc L rfl rfl rfl rfl) rfl ?_; refine vo_step (ok_store L rfl rfl rfl rfl rfl rfl rfl rfl) rfl ?_; refine vo_nil ?_; refine N_seq ?_; refine V_seq ?_; refine V_region (id := 5) ?_; refine vo_step (ok_loadA L (vs := [_, _, _, _]) (src_own rfl) rfl rfl rfl rfl ⟨_, rfl⟩) rfl ?_; refine vo_step (ok_loadA L (vs := [_, _, _, _, _, _]) (src_own rfl) rfl rfl rfl rfl ⟨_, rfl⟩) rfl ?_; refine vo_step (ok_build (cs := [_, _, _, _, _, _, _]) rfl rfl pl67 rfl rfl) rfl ?_; refine vo_step (ok_call (φ := WithP s' 0) L rfl rfl (blt_lt rfl) rfl rfl rfl WithP.mono (fun u H hH hle _ => with_p hw hsl hzt hH (hT.le hle))) rfl ?_; refine vo_opn 19 rfl ?_; rintro _ H19 hs19 ⟨tv, rfl, hT19⟩; obtain ⟨g1, r1, g2, r2, rfl, hpl2⟩ := hT19.shape; refine vo_step (ok_move rfl rfl rfl) rfl ?_; refine vo_step (ok_extract rfl rfl rfl rfl) rfl ?_; refine vo_step (ok_extract rfl rfl rfl rfl) rfl ?_; refine vo_step (ok_alloc L rfl rfl rfl rfl) rfl ?_; refine vo_step (ok_store L rfl rfl rfl rfl rfl rfl (by assumption) rfl) rfl ?_; refine vo_step (ok_assign rfl rfl rfl) rfl ?_; refine vo_nil ?_; refine N_seq ?_; refine V_seq ?_; refine V_seq ?_; refine V_region (id := 6) ?_; refine vo_step (ok_move rfl rfl rfl) rfl ?_; refine vo_step (ok_neq rfl rfl rfl rfl (decide_eq_false (by omega))) rfl ?_; refine vo_nil ?_; refine N_seq ?_; refine V_false rfl ?_; refine V_skip ?_; refine N_seq ?_; refine V_region (id := 8) ?_; refine vo_step (ok_loadA L (vs := [_, _, _, _]) (src_own rfl) rfl rfl rfl rfl ⟨_, rfl⟩) rfl ?_; refine vo_step (ok_store L rfl rfl rfl rfl rfl rfl (by assumption) rfl) rfl ?_; refine vo_nil ?_; refine N_block ?_; refine N_seq ?_; refine V_region (id := 9) ?_; refine vo_step (ok_add rfl rfl rfl rfl (wrap_i64 (by omega) (by omega))) rfl ?_; refine vo_step (ok_move rfl rfl rfl) rfl ?_; refine vo_nil ?_
      refine N_clsX (X := SXp) 4 (r := fun x => Cell (scs x.1) tySet) (φ := sphi s') (sphi_mono _) ⟨(g1, r1, g2, r2), hpl2⟩ hT19 rfl ?_
      exact N_roundS (x := (k, s)) (k + 1, s') (hs3.trans hs19) ⟨hlt, he, hsl'⟩ (by dsimp only; omega) ⟨rfl, rfl, rfl, rfl, rfl, trivial⟩
    · rw [if_neg h0] at he
      cases he
      refine V_seq ?_; refine V_region (id := 3) ?_; refine vo_step (ok_lss rfl rfl rfl rfl (decide_eq_true (by omega))) rfl ?_; refine vo_nil ?_; refine N_seq ?_; refine V_seq ?_; refine V_true rfl ?_; refine V_skip ?_; refine N_seq ?_; refine V_seq ?_; refine V_block ?_; refine V_seq ?_; refine V_region (id := 4) ?_; refine vo_step (ok_indexV L _ rfl rfl rfl rfl rfl rfl rfl (by first | omega | decide) (by assumption)) rfl ?_; refine vo_step (ok_loadPA L (vs := [_, _, _, _, _, _]) rfl rfl rfl rfl rfl ⟨_, rfl⟩) rfl ?_; refine vo_step (ok_alloc L rfl rfl rfl rfl) rfl ?_; refine vo_step (ok_store L rfl rfl rfl rfl rfl rfl rfl rfl) rfl ?_; refine vo_nil ?_; refine N_seq ?_; refine V_seq ?_; refine V_region (id := 5) ?_; refine vo_step (ok_loadA L (vs := [_, _, _, _]) (src_own rfl) rfl rfl rfl rfl ⟨_, rfl⟩) rfl ?_; refine vo_step (ok_loadA L (vs := [_, _, _, _, _, _]) (src_own rfl) rfl rfl rfl rfl ⟨_, rfl⟩) rfl ?_; refine vo_step (ok_build (cs := [_, _, _, _, _, _, _]) rfl rfl pl67 rfl rfl) rfl ?_; refine vo_step (ok_call (φ := WithP s' e) L rfl rfl (blt_lt rfl) rfl rfl rfl WithP.mono (fun u H hH hle _ => with_p hw hsl hzt hH (hT.le hle))) rfl ?_; refine vo_opn 19 rfl ?_; rintro _ H19 hs19 ⟨tv, rfl, hT19⟩; obtain ⟨g1, r1, g2, r2, rfl, hpl2⟩ := hT19.shape; refine vo_step (ok_move rfl rfl rfl) rfl ?_; refine vo_step (ok_extract rfl rfl rfl rfl) rfl ?_; refine vo_step (ok_extract rfl rfl rfl rfl) rfl ?_; refine vo_step (ok_alloc L rfl rfl rfl rfl) rfl ?_; refine vo_step (ok_store L rfl rfl rfl rfl rfl rfl (by assumption) rfl) rfl ?_; refine vo_step (ok_assign rfl rfl rfl) rfl ?_; refine vo_nil ?_; refine N_seq ?_; refine V_seq ?_; refine V_seq ?_; refine V_region (id := 6) ?_; refine vo_step (ok_move rfl rfl rfl) rfl ?_; refine vo_step (ok_neq rfl rfl rfl rfl (decide_eq_true (by omega))) rfl ?_; refine vo_nil ?_; refine N_seq ?_; refine V_true rfl ?_; refine V_seq ?_; refine V_region (id := 7) ?_; refine vo_step (ok_build (cs := [_, _, _, _]) rfl rfl pl41 rfl rfl) rfl ?_; refine vo_step (ok_move rfl rfl rfl) rfl ?_; refine vo_step (ok_store L rfl rfl rfl rfl rfl rfl rfl rfl) rfl ?_; refine vo_step (ok_assign rfl rfl rfl) rfl ?_; refine vo_nil ?_; refine N_seq ?_
      refine V_ret L (rs := [.cell 2 41, .tmp 3]) rfl (fun _ _ h => h) (hs3.trans hs19) fun u H hH hle => ?_
      exact ⟨_, src_own rfl, rfl, _, rfl, SetV.nil⟩
  · obtain rfl : k = l.length := by omega
    rw [List.drop_length, ofU] at he
    cases he
    refine V_seq ?_; refine V_region (id := 3) ?_; refine vo_step (ok_lss rfl rfl rfl rfl (decide_eq_false (by omega))) rfl ?_; refine vo_nil ?_; refine N_seq ?_; refine V_seq ?_; refine V_false rfl ?_; refine V_exit ?_; refine X_then ?_; refine X_then ?_; refine X_here ?_; refine N_seq ?_; refine V_seq ?_; refine V_region (id := 10) ?_; refine vo_step (ok_loadA L (vs := [_, _, _, _]) (src_own rfl) rfl rfl rfl rfl ⟨_, rfl⟩) rfl ?_; refine vo_step (ok_store L rfl rfl rfl rfl rfl rfl (by assumption) rfl) rfl ?_; refine vo_step (ok_assign rfl rfl rfl) rfl ?_; refine vo_nil ?_; refine N_seq ?_
    refine V_ret L (rs := [.cell 2 41, .tmp 3]) rfl (fun _ _ h => h) hs3 fun u H hH hle => ?_
    exact ⟨_, src_own rfl, rfl, _, rfl, hT.le hle⟩
end Go.V.L6
/- The walks of the definition of filters (chapter 3): errors, what is taken, prefixes, spans. -/
namespace Go.V.L3
open Go.Proofs Go.RowKit Go.V Go.V.L2
attribute [local irreducible] V N X VO Par StepOK Has Ret RetL RetO RetT Src
end Go.V.L3
/- The walks of the definition of filters (chapter 3): first fields, spans, what is selected. -/
namespace Go.V.L3
open Go.Proofs Go.RowKit Go.V Go.V.L2
attribute [local irreducible] V N X VO Par StepOK Has Ret RetL RetO RetT Src
end Go.V.L3
/- The walk of the definition of sets (chapter 6). -/
namespace Go.V.L6
open Go.Proofs Go.RowKit Go.V Go.V.L2 Go.V.L3
/-- A slice of tuples, none being known to be behind it. -/
abbrev R6 (l : List U) (e : Int) : Value → Heap → Prop := TupS [US l false, fun v _ => v = .int .i64 e]
theorem R6.mono {l : List U} {e : Int} : Kn.mono (.sat (R6 l e)) := LE2.mono SlV.mono
theorem tE_two (t : U) : tE t = 0 ∨ tE t = 6 := by
  unfold tE
  split
  · exact subjE_two _ _ _
  · rename_i h; exact .inr ((allE_two _).resolve_left h)
attribute [local irreducible] V N X VO Par StepOK Has Ret RetL RetO RetT Src
end Go.V.L6
/- The walks of the definition of tuples (chapter 2) at strings however long: compared, sorted or not. -/
namespace Go.V.L2
open Go.Proofs Go.RowKit Go.V
/-- Strings of a tuple, as long as strings can be. -/
def TM (t : U) : Prop := (t.1.1.1.size ≤ 9223372036854775807 ∧ t.1.1.2.size ≤ 9223372036854775807 ∧ t.1.2.size ≤ 9223372036854775807) ∧ t.2.1.1.size ≤ 9223372036854775807 ∧ t.2.1.2.size ≤ 9223372036854775807 ∧ t.2.2.size ≤ 9223372036854775807
attribute [local irreducible] V N X VO Par StepOK Has Ret RetL Src
end Go.V.L2
/- The kit: ranges over strings. -/
namespace Go.V
open Go.RowKit
section
variable {P : Program} {F : Fr} {B : Heap} {O : Boxes} {n : Nat} {ops : Array Oper} {κ : Kap} {d : Nat} {ty : TypeId} {pos : String} {aft : Array Edge} {g : Option (Nat × Bool)}
theorem grow_putObj {u : World} {H : Heap} {b : Nat} {L : Nat → Prop} {o : Obj} (hs : H.Le (hp u)) (hL : L b) (hH : H b = none) : Grow L u H (u.putObj b o) H :=
  ⟨⟨rfl, rfl, rfl, Nat.le_of_eq World.putObj_size.symm, fun k _ hk => World.putObj_heap_other (fun e => hk (e ▸ hL)), Nat.le_refl _⟩, fun k x hx => by
    have : k ≠ b := fun e => by subst e; rw [hH] at hx; cases hx
    show (u.putObj b o).heap[k]? = some x
    rw [World.putObj_heap_other this]; exact hs k x hx, Heap.Le.refl _, fun _ _ _ => rfl⟩
end
/-! ### a scope without jumps -/
section
variable {P : Program} {b : Frame} {a : Act} {k : List Item} {cs : List Frame} {w : World}
end
section
variable {P : Program} {F : Fr} {B : Heap} {O : Boxes} {n : Nat} {κ : Kap} {Q : Exit → Act → World → Prop}
end
end Go.V
/- The kit: maps of a call's own, keyed by flat structures. -/
namespace Go.V
open Go.RowKit
section
variable {P : Program}
theorem run_checkKeyL (em : Bool) : ∀ (d n : Nat) (t : TypeId) (ls : List Nat) (ag : Bool) (s : Nat), lvI P d t = some ls → ldI P t = some (ag, s) → ∀ (xs : List Value) (w : World), xs.length = ls.length → d ≤ n →
    (Instr.checkKey em n t (asV ag xs)).run P w = .ok () w := by
  intro d
  induction d with
  | zero => intro n t ls ag s h; cases h
  | succ d ih =>
    intro n t ls ag s h hld xs w hlen hn
    obtain ⟨n, rfl⟩ : ∃ m, n = m + 1 := ⟨n - 1, by omega⟩
    obtain ⟨dsc, i, hu, hi, hsz, hag⟩ := ldI_spec hld
    simp only [lvI, hu] at h
    rw [Instr.checkKey]
    simp only [Sem.run_bind, run_underlying hu, Result.andThen_ok]
    cases dsc with
    | string => rfl
    | int k => rfl
    | bool => rfl
    | struct fs =>
      simp at hag; subst hag
      replace h : (if P.stoodInHeld t = true then none else lvF P (lvI P d) fs.toList 0) = some ls := h
      split at h
      · cases h
      · have asT : ∀ zs : List Value, asV true zs = .agg zs.toArray := fun zs => by cases zs <;> rfl
        rw [asT]
        simp only [Sem.run_bind]
        rw [← Array.forIn_toList]
        have he : 0 + ls.length ≤ xs.length := by omega
        clear hlen hsz hld
        generalize 0 = off at h he
        generalize fs.toList = fl at h
        induction fl generalizing off ls with
        | nil => rfl
        | cons f fl ihf =>
          simp only [lvF] at h
          split at h
          · rename_i l1 ag1 s1 hl1 hld1
            split at h
            · rename_i hc
              obtain ⟨hnm', rfl, rfl, hag1⟩ := hc
              split at h
              · rename_i r hr
                cases h
                rw [List.length_append] at he
                have hz : ((xs.drop f.offset).take l1.length).length = l1.length := by rw [List.length_take, List.length_drop]; omega
                have hp : (part f.type xs.toArray f.offset).run P w = .ok (asV ag1 ((xs.drop f.offset).take l1.length)) w := by
                  cases ag1 with
                  | true => rw [run_part_agg hld1, asT]
                  | false =>
                    have h1 : l1.length = 1 := by simpa using hag1
                    rw [h1] at hz ⊢
                    match hm : (xs.drop f.offset).take 1, hz with
                    | [v], _ =>
                      refine run_part_one hld1 xs f.offset v ?_ w
                      have := congrArg (·[0]?) hm
                      simpa [List.getElem?_take] using this
                have h2 := ih n f.type l1 ag1 l1.length hl1 hld1 _ w hz (by omega)
                simp only [List.forIn_cons, Sem.run_bind, hnm', ne_eq, not_false_eq_true, if_true, Result.andThen_ok, hp, h2, Sem.run_pure]
                exact ihf r (f.offset + l1.length) (by omega) hr
              · cases h
            · cases h
          · cases h
    | _ => cases h
end
/-! ### entries, plainly -/
section
variable {K V : Type} [DecidableEq K]
def mfind (k : K) : List (K × V) → Nat → Option (Nat × V)
  | [], _ => none
  | p :: l, i => if k = p.1 then some (i, p.2) else mfind k l (i + 1)
def mget (k : K) (l : List (K × V)) : Option V := (mfind k l 0).map (·.2)
def mput (k : K) (v : V) : List (K × V) → List (K × V)
  | [] => [(k, v)]
  | p :: l => if k = p.1 then (p.1, v) :: l else p :: mput k v l
theorem mfind_shift (k : K) : ∀ (l : List (K × V)) (i : Nat), mfind k l (i + 1) = (mfind k l i).map fun p => (p.1 + 1, p.2)
  | [], _ => rfl
  | p :: l, i => by
    unfold mfind
    split
    · rfl
    · exact mfind_shift k l (i + 1)
theorem mget_cons (k : K) (p : K × V) (l : List (K × V)) : mget k (p :: l) = if k = p.1 then some p.2 else mget k l := by
  unfold mget
  rw [mfind]
  split
  · rfl
  · rw [mfind_shift, Option.map_map]; rfl
theorem mget_put (k k' : K) (v : V) : ∀ l : List (K × V), mget k (mput k' v l) = if k = k' then some v else mget k l
  | [] => by rw [mput, mget_cons]
  | p :: l => by
    rw [mput]
    split
    · rename_i h
      rw [mget_cons, mget_cons]
      by_cases h1 : k = p.1
      · rw [if_pos h1, if_pos (h1.trans h.symm)]
      · rw [if_neg h1, if_neg (fun e => h1 (e.trans h))]
        rw [if_neg h1]
    · rename_i h
      rw [mget_cons, mget_cons, mget_put k k' v l]
      by_cases h1 : k = p.1
      · rw [if_pos h1, if_neg (fun e => h (e.symm.trans h1)), if_pos h1]
      · rw [if_neg h1, if_neg h1]
theorem mfind_get {k : K} : ∀ {l : List (K × V)} {i j : Nat} {x : V}, mfind k l i = some (j, x) → ∃ n, j = i + n ∧ l[n]? = some (k, x)
  | [], _, _, _, h => by cases h
  | p :: l, i, j, x, h => by
    unfold mfind at h
    split at h
    · rename_i hk
      cases h
      exact ⟨0, rfl, by subst hk; rfl⟩
    · obtain ⟨n, hn, hx⟩ := mfind_get h
      exact ⟨n + 1, by omega, hx⟩
theorem mput_none {k : K} {v : V} : ∀ {l : List (K × V)} {i : Nat}, mfind k l i = none → mput k v l = l ++ [(k, v)]
  | [], _, _ => rfl
  | p :: l, i, h => by
    unfold mfind at h
    split at h
    · cases h
    · rename_i hk
      rw [mput, if_neg hk, mput_none h]; rfl
end
/-! ### the map's block -/
/-- A type of keys that are flat. -/
structure KeyT (P : Program) (t : TypeId) (ls : List Nat) {K : Type} [DecidableEq K] (kc : K → List Value) : Prop where
  eq : EqT P t ls
  len : ∀ a, (kc a).length = ls.length
  dec : ∀ a b, eqCs ls (kc a) (kc b) = some (decide (a = b))
  bits : ∀ a, Instr.sameBits 10000 (.agg (kc a).toArray) (.agg (kc a).toArray) = true
/-- The entries are these. -/
def MpE {K V : Type} (kc : K → List Value) (vc : V → Value) (l : List (K × V)) (es : List MapEntry) : Prop := es.map (fun e => (e.key, e.val)) = l.map fun p => (Value.agg (kc p.1).toArray, vc p.2)
section
variable {P : Program} {K V : Type} [DecidableEq K] {kc : K → List Value} {vc : V → Value} {l : List (K × V)} {t kt et : TypeId} {ls : List Nat}
omit [DecidableEq K] in
theorem mpe_cons {p : K × V} {l : List (K × V)} {es : List MapEntry} (h : MpE kc vc (p :: l) es) : ∃ e r, es = e :: r ∧ e.key = .agg (kc p.1).toArray ∧ e.val = vc p.2 ∧ MpE kc vc l r := by
  unfold MpE at h
  cases es with
  | nil => simp at h
  | cons e r =>
    simp at h
    exact ⟨e, r, rfl, h.1.1, h.1.2, h.2⟩
theorem run_findAskingL (hk : KeyT P kt ls kc) (k : K) (w : World) : ∀ (l : List (K × V)) (es : List MapEntry) (i : Nat), MpE kc vc l es →
    (Instr.findAsking kt (.agg (kc k).toArray) es i).run P w = .ok ((mfind k l i).map fun p => (p.1, vc p.2)) w
  | [], es, i, h => by
    have : es = [] := by simpa [MpE] using h
    subst this; rfl
  | p :: l, es, i, h => by
    obtain ⟨e, r, rfl, h1, h2, h3⟩ := mpe_cons h
    have hag := hk.eq.ag
    obtain ⟨⟨ag, s⟩, hld⟩ : ∃ q, ldI P kt = some q := by
      cases hl : ldI P kt with
      | none => rw [hl] at hag; cases hag
      | some q => exact ⟨q, rfl⟩
    rw [hld] at hag
    simp at hag; subst hag
    have asT : ∀ zs : List Value, asV true zs = .agg zs.toArray := fun zs => by cases zs <;> rfl
    have hr := run_eq_leaves 10000 kt ls true s (lvI_more hk.eq.lv 9980) hld (kc k) (kc p.1) _ w (hk.dec k p.1)
    rw [asT, asT] at hr
    have hr' : (Op.equal kt (.agg (kc k).toArray) e.key).run P w = .ok (decide (k = p.1)) w := by rw [h1]; exact hr
    rw [Instr.findAsking, mfind]
    simp only [Sem.run_bind, hr', Result.andThen_ok]
    by_cases hkp : k = p.1
    · rw [if_pos hkp, decide_eq_true hkp, h2]; rfl
    · rw [if_neg hkp, decide_eq_false hkp]
      simp only [Bool.false_eq_true, if_false]
      exact run_findAskingL hk k w l r (i + 1) h3
theorem keyT_struct (hk : KeyT P kt ls kc) : ∃ fs, P.underlying kt = some (.struct fs) := by
  have h := hk.eq.lv
  have hag := hk.eq.ag
  cases hl : ldI P kt with
  | none => rw [hl] at hag; cases hag
  | some q =>
    obtain ⟨ag, s⟩ := q
    rw [hl] at hag
    simp at hag; subst hag
    obtain ⟨dsc, i, hu, hi, hsz, hag⟩ := ldI_spec hl
    simp only [lvI, hu] at h
    cases dsc with
    | struct fs => exact ⟨fs, hu⟩
    | string => simp at hag
    | int k => simp at hag
    | bool => simp at hag
    | _ => cases h
theorem run_findKeyL (hk : KeyT P kt ls kc) (k : K) (w : World) (l : List (K × V)) (es : List MapEntry) (h : MpE kc vc l es) :
    (Instr.findKey kt (.agg (kc k).toArray) es).run P w = .ok ((mfind k l 0).map fun p => (p.1, vc p.2)) w := by
  obtain ⟨fs, hu⟩ := keyT_struct hk
  unfold Instr.findKey
  simp only [Sem.run_bind, run_underlying hu, Result.andThen_ok]
  cases es with
  | nil =>
    have : l = [] := by
      cases l with
      | nil => rfl
      | cons p l => simp [MpE] at h
    subst this; rfl
  | cons e r => exact run_findAskingL hk k w l (e :: r) 0 h
theorem run_checkKeyT (hk : KeyT P kt ls kc) (k : K) (em : Bool) (w : World) : (Instr.checkKey em 10000 kt (.agg (kc k).toArray)).run P w = .ok () w := by
  have hag := hk.eq.ag
  cases hl : ldI P kt with
  | none => rw [hl] at hag; cases hag
  | some q =>
    obtain ⟨ag, s⟩ := q
    rw [hl] at hag
    simp at hag; subst hag
    have asT : ∀ zs : List Value, asV true zs = .agg zs.toArray := fun zs => by cases zs <;> rfl
    have := run_checkKeyL em 20 10000 kt ls true s hk.eq.lv hl (kc k) w (hk.len k) (by decide)
    rwa [asT] at this
theorem run_lookupL (ht : P.underlying t = some (.map kt et)) (hk : KeyT P kt ls kc) {b : Nat} {es : Array MapEntry} {ck : Nat} {u : World} (hb : u.heap[b]? = some (.map es ck)) (he : MpE kc vc l es.toList) (k : K) {z : Value}
    (hz : (zeroValue et).run P u = .ok z u) : (Instr.lookup t (.map (some b)) (.agg (kc k).toArray) true).run P u = .ok (.tuple #[(mget k l).elim z vc, .bool (mget k l).isSome]) u := by
  unfold Instr.lookup
  have hf := run_findKeyL hk k u l es.toList he
  simp only [Sem.run_bind, run_underlying ht, Result.andThen_ok, MapKept.run_getObj_map hb, Sem.run_pure, run_checkKeyT hk k, hf]
  unfold mget
  cases mfind k l 0 with
  | none => simp [hz]
  | some p => simp
theorem mp_modify (k : K) (v : V) : ∀ (l : List (K × V)) (es : List MapEntry) (i j : Nat) (x : V), MpE kc vc l es → mfind k l i = some (j, x) →
    MpE kc vc (mput k v l) (es.modify (j - i) fun e => { e with key := .agg (kc k).toArray, val := vc v })
  | [], _, _, _, _, _, h => by cases h
  | p :: l, es, i, j, x, he, h => by
    obtain ⟨e, r, rfl, h1, h2, h3⟩ := mpe_cons he
    unfold mfind at h
    rw [mput]
    split at h
    · rename_i hk
      cases h
      rw [if_pos hk, Nat.sub_self]
      unfold MpE at h3 ⊢
      subst hk
      simpa using h3
    · rename_i hk
      rw [if_neg hk]
      obtain ⟨n, hn, _⟩ := mfind_get h
      have ih := mp_modify k v l r (i + 1) j x h3 h
      have e1 : j - i = (j - (i + 1)) + 1 := by omega
      rw [e1]
      unfold MpE at ih ⊢
      simp [h1, h2]
      exact ih
theorem run_mapUpdateL (ht : P.underlying t = some (.map kt et)) (hk : KeyT P kt ls kc) {b : Nat} {es : Array MapEntry} {ck : Nat} {u : World} (hb : u.heap[b]? = some (.map es ck)) (he : MpE kc vc l es.toList) (k : K) (v : V) :
    ∃ es' ck', (Instr.mapUpdate t (.map (some b)) (.agg (kc k).toArray) (vc v)).run P u = .ok () (u.putObj b (.map es' ck')) ∧ MpE kc vc (mput k v l) es'.toList := by
  have hf := run_findKeyL hk k u l es.toList he
  cases hm : mfind k l 0 with
  | none =>
    refine ⟨es.push { key := .agg (kc k).toArray, val := vc v, born := ck }, ck + 1, ?_, ?_⟩
    · unfold Instr.mapUpdate
      rw [hm] at hf
      simp only [Sem.run_bind, run_underlying ht, Result.andThen_ok, MapKept.run_getObj_map hb, Sem.run_pure, run_checkKeyT hk k, hf, Option.map_none]
      simp [setObj, Sem.run, hb, World.putObj, Result.andThen]
    · rw [mput_none hm]
      unfold MpE at he ⊢
      simp [he]
  | some q =>
    obtain ⟨j, x⟩ := q
    refine ⟨es.modify j fun e => { e with key := .agg (kc k).toArray, val := vc v }, ck, ?_, ?_⟩
    · obtain ⟨n, hn, hx⟩ := mfind_get hm
      have hn' : j = n := by omega
      subst hn'
      have hkey : ((es[j]?).map (·.key)).getD (.agg (kc k).toArray) = .agg (kc k).toArray := by
        have h2 := congrArg (·[j]?) he
        simp only [List.getElem?_map, hx, Option.map_some] at h2
        rw [← Array.getElem?_toList]
        cases hz : es.toList[j]? with
        | none => rfl
        | some e =>
          rw [hz] at h2
          simp at h2
          simpa using h2.1
      unfold Instr.mapUpdate
      rw [hm] at hf
      simp only [Sem.run_bind, run_underlying ht, Result.andThen_ok, MapKept.run_getObj_map hb, Sem.run_pure, run_checkKeyT hk k, hf, Option.map_some, hkey]
      unfold Instr.keyThatStays
      rw [if_pos (hk.bits k)]
      simp [setObj, Sem.run, hb, World.putObj, Result.andThen]
    · have := mp_modify k v l es.toList 0 j x he hm
      simpa using this
end
/-- A map of the call's own. -/
def MapR {K V : Type} (kc : K → List Value) (vc : V → Value) (l : List (K × V)) : Res where
  P x _ u C := ∃ b, x = .map (some b) ∧ (∃ es ck, u.heap[b]? = some (.map es ck) ∧ MpE kc vc l es.toList) ∧ ∀ k, C k ↔ k = b
  st := fun ⟨b, hx, ⟨es, ck, hb, he⟩, hC⟩ _ _ _ hk => ⟨b, hx, ⟨es, ck, (hk b ((hC b).2 rfl)).trans hb, he⟩, hC⟩
/-- A map whose number is known: what it holds. -/
def MapH {K V : Type} (b : Nat) (kc : K → List Value) (vc : V → Value) (l : List (K × V)) : Res where
  P _ _ u C := (∃ es ck, u.heap[b]? = some (.map es ck) ∧ MpE kc vc l es.toList) ∧ ∀ k, C k ↔ k = b
  st := fun ⟨⟨es, ck, hb, he⟩, hC⟩ _ _ _ hk => ⟨⟨es, ck, (hk b ((hC b).2 rfl)).trans hb, he⟩, hC⟩
section
variable {P : Program} {F : Fr} {B : Heap} {O : Boxes} {n : Nat} {ops : Array Oper} {κ : Kap} {d : Nat} {ty : TypeId} {pos : String} {aft : Array Edge} {g : Option (Nat × Bool)} {a : Act} {u : World} {H : Heap} {os : List Oper} {Q : Exit → Act → World → Prop} {ex : Exs}
variable {K Y : Type} [DecidableEq K] {kc : K → List Value} {vc : Y → Value} {l : List (K × Y)}
omit [DecidableEq K] in
theorem Has.holdM {t q : Nat} (hk : κ t = some (.own (MapR kc vc l))) (h : Has F B O n κ a u) : ∃ b, Has F B O n (upd (upd (upd κ t nilK) q (.own (MapH b kc vc l))) t (.is (.map (some b)))) a u := by
  obtain ⟨H, fp, h⟩ := h
  obtain ⟨⟨b, hv, hb, hC⟩, hM⟩ := h.slot t _ hk
  have h2 := h.usePut (d := q) (a' := a) (r' := MapH b kc vc l) (C := fp t) hk ⟨Keep.refl _ _, h.sub, Heap.Le.refl _, fun _ _ _ => rfl⟩ rfl rfl (fun _ _ => rfl) ⟨hb, hC⟩ fun k hk => ⟨.inl hk, (hM k hk).1, (hM k hk).2.1⟩
  have h3 := h2.name t
  rw [hv] at h3
  exact ⟨b, H, _, h3⟩
omit [DecidableEq K] in
theorem V_holdM (t q : Nat) {c : Code} (hk : κ t = some (.own (MapR kc vc l))) (h : ∀ b, V P F B n O (upd (upd (upd κ t nilK) q (.own (MapH b kc vc l))) t (.is (.map (some b)))) c Q) : V P F B n O κ c Q := fun a u hh => let ⟨b, h'⟩ := hh.holdM (q := q) hk; h b a u h'
omit [DecidableEq K] in
theorem ok_makeMap (kc : K → List Value) (vc : Y → Value) {t : TypeId} (hn : Nat.blt d n = true) (hg : gK ops κ ⟨some d, .makeMap t none, ty, pos, aft, g⟩ = some true) :
    StepOK P F B n ops O κ ⟨some d, .makeMap t none, ty, pos, aft, g⟩ d (.own (MapR kc vc [])) := by
  rintro κ' a u hl ⟨H, fp, hh⟩
  have hn : d < n := by simpa using hn
  unfold After
  rw [if_pos (wanted_gK hh hl hg)]
  have hrun : (execOp a.eval ⟨some d, .makeMap t none, ty, pos, aft, g⟩).run P u = .ok (.value (.map (some u.heap.size))) (u.alloc (.map #[] 0)) := by
    simp [execOp, Instr.makeMap]
  rw [hrun]
  simp only [Upon]
  have hg2 := hh.grow (Grow.hid hh.sub (.map #[] 0))
  refine ⟨H, _, hg2.putR (C := fun k => k = u.heap.size) (by simp [Act.put]) rfl (fun t ht => eval_put_other ht) ⟨u.heap.size, eval_put_same (by rw [hh.size]; exact hn), ⟨_, _, heap_push_same _ _, rfl⟩, fun _ => Iff.rfl⟩ (fun k hk => ?_) fun t r' _ ht k hf hk => ?_⟩
  · subst hk
    exact ⟨size_of_heap (heap_push_same u _), none_of_ge hh.sub (Nat.le_refl _), .inl hh.keep.size, fun y hy e => by have := size_of_heap (hh.boxes y hy).1; omega⟩
  · have := ((hh.slot t _ ht).2 k hf).1
    omega
theorem ok_lookupM {x y : Operand} {q b : Nat} {t kt et : TypeId} {ls : List Nat} (k : K) {ks : List Value} {r z : Value} {f : Bool} (ht : P.underlying t = some (.map kt et)) (hkt : KeyT P kt ls kc) (hz : ∀ w, (zeroValue et).run P w = .ok z w)
    (hx : evK κ x = some (.map (some b))) (hq : κ q = some (.own (MapH b kc vc l))) (hy : evK κ y = some (.agg ks.toArray)) (hks : kc k = ks) (hn : Nat.blt d n = true) (hg : gK ops κ ⟨some d, .lookup t x y true, ty, pos, aft, g⟩ = some true)
    (hr : (mget k l).elim z vc = r) (hf : (mget k l).isSome = f) :
    StepOKR P F B n ops O κ ⟨some d, .lookup t x y true, ty, pos, aft, g⟩ q d (.is (.tuple #[r, .bool f])) := by
  rintro κ' a u hlk hqk ⟨H, fp, hh⟩
  subst hr hf hks
  unfold After
  rw [if_pos (wanted_gK hh hlk hg)]
  have e := hh.env hlk
  have h1 := e.is_ x _ (by simp [Op.operands]) hx
  have h2 := e.is_ y _ (by simp [Op.operands]) hy
  obtain ⟨⟨⟨es, ck, hb, he⟩, hC⟩, hM⟩ := hh.slot q _ (hqk.trans hq)
  have hrun : (execOp a.eval ⟨some d, .lookup t x y true, ty, pos, aft, g⟩).run P u = .ok (.value (.tuple #[(mget k l).elim z vc, .bool (mget k l).isSome])) u := by
    simp only [execOp, h1, h2, Sem.run_bind, run_lookupL ht hkt hb he k (hz u), Result.andThen_ok]
    rfl
  rw [hrun]
  simp only [Upon]
  exact ⟨H, fp, hh.put (k := .is _) (blt_lt hn) trivial rfl⟩
theorem ok_mapUpdM {x y z : Operand} {q b : Nat} {t kt et : TypeId} {ls : List Nat} (k : K) (v : Y) {ks : List Value} {zv : Value} {l' : List (K × Y)} (ht : P.underlying t = some (.map kt et)) (hkt : KeyT P kt ls kc)
    (hx : evK κ x = some (.map (some b))) (hq : κ q = some (.own (MapH b kc vc l))) (hy : evK κ y = some (.agg ks.toArray)) (hks : kc k = ks) (hz : evK κ z = some zv) (hzv : vc v = zv) (hg : gK ops κ ⟨none, .mapUpdate t x y z, ty, pos, aft, g⟩ = some true)
    (hl' : mput k v l = l') :
    StepOKS P F B n ops O κ ⟨none, .mapUpdate t x y z, ty, pos, aft, g⟩ q (.own (MapH b kc vc l')) := by
  rintro κ' a u hlk hqk ⟨H, fp, hh⟩
  subst hl' hks hzv
  unfold After
  rw [if_pos (wanted_gK hh hlk hg)]
  have e := hh.env hlk
  have h1 := e.is_ x _ (by simp [Op.operands]) hx
  have h2 := e.is_ y _ (by simp [Op.operands]) hy
  have h3 := e.is_ z _ (by simp [Op.operands]) hz
  have hqs := hqk.trans hq
  obtain ⟨⟨⟨es, ck, hb, he⟩, hC⟩, hM⟩ := hh.slot q _ hqs
  obtain ⟨es', ck', hr, he'⟩ := run_mapUpdateL ht hkt hb he k v
  have hrun : (execOp a.eval ⟨none, .mapUpdate t x y z, ty, pos, aft, g⟩).run P u = .ok .skip (u.putObj b (.map es' ck')) := by
    simp only [execOp, h1, h2, h3, Sem.run_bind, hr, Result.andThen_ok]
    rfl
  rw [hrun]
  simp only [Upon, Act.put]
  have hbm := hM b ((hC b).2 rfl)
  have := hh.usePut (d := q) (a' := a) (r' := MapH b kc vc (mput k v l)) (C := fun k => k = b) hqs (grow_putObj hh.sub ((hC b).2 rfl) hbm.2.1) rfl rfl (fun _ _ => rfl) ⟨⟨es', ck', World.putObj_heap_same hbm.1, he'⟩, fun _ => Iff.rfl⟩ (fun k hk => by
    subst hk; exact ⟨.inl ((hC k).2 rfl), by rw [World.putObj_size]; exact hbm.1, hbm.2.1⟩)
  rw [upd_upd] at this
  exact ⟨H, _, this⟩
end
end Go.V
/- The walks of musts (chapter 8): lists are checked. -/
namespace Go.V.L8
open Go.Proofs Go.RowKit Go.V Go.V.L2 Go.V.L3 Go.V.L6
abbrev tyM : TypeId := 54
abbrev tyC : TypeId := 67
abbrev tyLM : TypeId := 43
abbrev tyLC : TypeId := 65
def ccs (c : CH) : List Value := [.string c.1.1.1.1, .string c.1.1.1.2, .string c.1.1.2, .string c.1.2.1.1, .string c.1.2.1.2, .string c.1.2.2, .bool c.2]
theorem ccs_len (c : CH) : (ccs c).length = 7 := rfl
/-- A list of musts or changes that is seen. -/
abbrev KS (ty : TypeId) (l : List CH) (fu : Bool) : Value → Heap → Prop := SlV ty 7 (l.flatMap ccs) l.length fu
theorem ks_at {l : List CH} {i : Nat} {c : CH} (h : l[i]? = some c) : ((l.flatMap ccs).drop (i * 7)).take 7 = [.string c.1.1.1.1, .string c.1.1.1.2, .string c.1.1.2, .string c.1.2.1.1, .string c.1.2.1.2, .string c.1.2.2, .bool c.2] := flatMap_at ccs_len l i c h
theorem ks_snoc {ty : TypeId} {κ : Kap} {s : Nat} {r : List CH} {c : CH} (h : κ s = some (.own (SlR ty 7 (r.length + 1) (r.flatMap ccs ++ [.string c.1.1.1.1, .string c.1.1.1.2, .string c.1.1.2, .string c.1.2.1.1, .string c.1.2.1.2, .string c.1.2.2, .bool c.2])))) : κ s = some (.own (SlR ty 7 (r ++ [c]).length ((r ++ [c]).flatMap ccs))) := by
  rw [h, List.flatMap_append, List.length_append]; rfl
theorem cE_no {n : Nat} {l : List CH} (hl : ¬ n < l.length) {i : Nat} {c : CH} (hc : l[i]? = some c) (h : ¬ tE c.1 = 0) : cE n l = 6 := by
  unfold cE
  rw [if_neg hl, if_pos]
  rw [List.any_eq_true]
  exact ⟨c, List.mem_of_getElem? hc, by simp [h]⟩
theorem cE_yes {n : Nat} {l : List CH} (hl : ¬ n < l.length) (h : ∀ (j : Nat) c, l[j]? = some c → tE c.1 = 0) : cE n l = 0 := by
  unfold cE
  rw [if_neg hl, if_neg]
  rw [List.any_eq_true]
  rintro ⟨c, hc, h1⟩
  obtain ⟨j, hj⟩ := List.getElem?_of_mem hc
  rw [decide_eq_true (h j c hj)] at h1
  cases h1
attribute [local irreducible] V N X VO Par StepOK Has Ret RetL RetO RetT Src
theorem tcheckM {t : U} (hz : TM t) {w : World} {B : Heap} (hB : B.Le (hp w)) : Ret Try.prog 60 [uv t] w B (fun v _ => v = .int .i64 (tE t)) := by
  obtain ⟨⟨z1, z2, z3⟩, z4, z5, z6⟩ := hz
  unfold tE
  refine V_enter Try.func60 rfl Try.ntmps60 (Nat.le_of_ble_eq_true rfl) hB ?_
  by_cases h : allE [t.1.1.1, t.1.1.2, t.1.2] = 0
  · rw [if_pos h]
    refine V_seq ?_; refine V_region (id := 0) ?_; refine vo_step (ok_box rfl rfl rfl rfl) rfl ?_; refine vo_step (ok_assign rfl rfl rfl) rfl ?_; refine vo_nil ?_; refine N_seq ?_; refine V_seq ?_; refine V_seq ?_; refine V_region (id := 1) ?_; refine vo_step (ok_fieldAt L rfl rfl rfl rfl) rfl ?_; refine vo_step (ok_loadA L (vs := [_, _, _]) (src_at rfl) rfl rfl rfl rfl ⟨_, rfl⟩) rfl ?_; refine vo_step (ok_callx L rfl rfl (blt_lt rfl) rfl rfl rfl (fun u H hH _ _ => goal_ret (by first | assumption | omega | decide) (by first | assumption | omega | decide) (by first | assumption | omega | decide) hH)) rfl ?_; refine vo_step (ok_assign rfl rfl rfl) rfl ?_; refine vo_nil ?_; refine N_seq ?_; refine V_seq ?_; refine V_region (id := 2) ?_; refine vo_step (ok_move rfl rfl rfl) rfl ?_; refine vo_step (ok_neq rfl rfl rfl rfl (decide_eq_false (by omega))) rfl ?_; refine vo_nil ?_; refine N_seq ?_; refine V_false rfl ?_; refine V_skip ?_; refine N_seq ?_; refine V_seq ?_; refine V_region (id := 4) ?_; refine vo_step (ok_fieldAt L rfl rfl rfl rfl) rfl ?_; refine vo_step (ok_loadA L (vs := [_, _, _]) (src_at rfl) rfl rfl rfl rfl ⟨_, rfl⟩) rfl ?_; refine vo_step (ok_callx L rfl rfl (blt_lt rfl) rfl rfl rfl (fun u H hH _ _ => subject_ret (by first | assumption | omega | decide) (by first | assumption | omega | decide) (by first | assumption | omega | decide) hH)) rfl ?_; refine vo_step (ok_assign rfl rfl rfl) rfl ?_; refine vo_nil ?_; refine N_seq ?_
    refine V_ret L (rs := [.tmp 2]) rfl (fun _ _ h => h) Since.refl fun u H hH hle => ?_
    rfl
  · rw [if_neg h]
    refine V_seq ?_; refine V_region (id := 0) ?_; refine vo_step (ok_box rfl rfl rfl rfl) rfl ?_; refine vo_step (ok_assign rfl rfl rfl) rfl ?_; refine vo_nil ?_; refine N_seq ?_; refine V_seq ?_; refine V_seq ?_; refine V_region (id := 1) ?_; refine vo_step (ok_fieldAt L rfl rfl rfl rfl) rfl ?_; refine vo_step (ok_loadA L (vs := [_, _, _]) (src_at rfl) rfl rfl rfl rfl ⟨_, rfl⟩) rfl ?_; refine vo_step (ok_callx L rfl rfl (blt_lt rfl) rfl rfl rfl (fun u H hH _ _ => goal_ret (by first | assumption | omega | decide) (by first | assumption | omega | decide) (by first | assumption | omega | decide) hH)) rfl ?_; refine vo_step (ok_assign rfl rfl rfl) rfl ?_; refine vo_nil ?_; refine N_seq ?_; refine V_seq ?_; refine V_region (id := 2) ?_; refine vo_step (ok_move rfl rfl rfl) rfl ?_; refine vo_step (ok_neq rfl rfl rfl rfl (decide_eq_true (by omega))) rfl ?_; refine vo_nil ?_; refine N_seq ?_; refine V_true rfl ?_; refine V_seq ?_; refine V_region (id := 3) ?_; refine vo_step (ok_move rfl rfl rfl) rfl ?_; refine vo_step (ok_assign rfl rfl rfl) rfl ?_; refine vo_nil ?_; refine N_seq ?_
    refine V_ret L (rs := [.tmp 2]) rfl (fun _ _ h => h) Since.refl fun u H hH hle => ?_
    rfl
theorem mcl_ret {l : List CH} {fu : Bool} {b i : Nat} {c : CH} (hc0 : l[i]? = some c) {v : Value} {w : World} {B : Heap} (hB : B.Le (hp w)) (hb : B b = some (.cells #[v] tyLM)) (hv : KS tyM l fu v B) :
    Ret Try.prog 67 ([.int .i64 i] ++ [.pointer (some ⟨b, 0, none⟩)]) w B (fun r _ => r = uv c.1) := by
  have hc := ks_at hc0
  have hil := get_lt hc0
  refine V_enter Try.func67 rfl Try.ntmps67 (Nat.le_of_ble_eq_true rfl) hB ?_
  refine V_seq ?_; refine V_region (id := 0) ?_; refine vo_step (ok_alloc L rfl rfl rfl rfl) rfl ?_; refine vo_nil ?_; refine N_seq ?_; refine V_seq ?_; refine V_region (id := 1) ?_; refine vo_step (ok_load1 L (src_base rfl (by assumption)) rfl rfl rfl rfl) rfl ?_; refine vo_seen 4 (KS tyM l fu) rfl SlV.mono hv ?_; refine vo_step (ok_move rfl rfl rfl) rfl ?_; refine vo_step (ok_indexV L _ rfl rfl rfl rfl rfl rfl rfl (by first | omega | decide) (by assumption)) rfl ?_; refine vo_step (ok_fieldAP L rfl rfl rfl rfl) rfl ?_; refine vo_step (ok_loadPA L (vs := [_, _, _, _, _, _]) rfl rfl rfl rfl rfl ⟨_, rfl⟩) rfl ?_; refine vo_step (ok_store L rfl rfl rfl rfl rfl rfl rfl rfl) rfl ?_; refine vo_nil ?_; refine N_seq ?_
  refine V_ret L (rs := [.cell 3 52]) rfl (fun _ _ h => h) Since.refl fun u H hH hle => ?_
  refine resK_cellA (src_own rfl) rfl rfl ?_
  rfl
theorem ccl_ret {l : List CH} {fu : Bool} {b i : Nat} {c : CH} (hc0 : l[i]? = some c) {v : Value} {w : World} {B : Heap} (hB : B.Le (hp w)) (hb : B b = some (.cells #[v] tyLC)) (hv : KS tyC l fu v B) :
    Ret Try.prog 68 ([.int .i64 i] ++ [.pointer (some ⟨b, 0, none⟩)]) w B (fun r _ => r = uv c.1) := by
  have hc := ks_at hc0
  have hil := get_lt hc0
  refine V_enter Try.func68 rfl Try.ntmps68 (Nat.le_of_ble_eq_true rfl) hB ?_
  refine V_seq ?_; refine V_region (id := 0) ?_; refine vo_step (ok_alloc L rfl rfl rfl rfl) rfl ?_; refine vo_nil ?_; refine N_seq ?_; refine V_seq ?_; refine V_region (id := 1) ?_; refine vo_step (ok_load1 L (src_base rfl (by assumption)) rfl rfl rfl rfl) rfl ?_; refine vo_seen 4 (KS tyC l fu) rfl SlV.mono hv ?_; refine vo_step (ok_move rfl rfl rfl) rfl ?_; refine vo_step (ok_indexV L _ rfl rfl rfl rfl rfl rfl rfl (by first | omega | decide) (by assumption)) rfl ?_; refine vo_step (ok_fieldAP L rfl rfl rfl rfl) rfl ?_; refine vo_step (ok_loadPA L (vs := [_, _, _, _, _, _]) rfl rfl rfl rfl rfl ⟨_, rfl⟩) rfl ?_; refine vo_step (ok_store L rfl rfl rfl rfl rfl rfl rfl rfl) rfl ?_; refine vo_nil ?_; refine N_seq ?_
  refine V_ret L (rs := [.cell 3 52]) rfl (fun _ _ h => h) Since.refl fun u H hH hle => ?_
  refine resK_cellA (src_own rfl) rfl rfl ?_
  rfl
theorem mcheck_ret {l : List CH} {cf : Nat} {caps : List Value} (hz : ∀ c ∈ l, TM c.1) (hl : l.length ≤ 9223372036854775807) (hfn : L.fn cf = some ()) {e : Int} (he : cE 32 l = e) {w : World} {B : Heap} (hB : B.Le (hp w))
    (hcl : ∀ (i : Nat) (c : CH), l[i]? = some c → ∀ (u : World) (H : Heap), H.Le (hp u) → B.Le H → Ret Try.prog cf ([.int .i64 i] ++ caps) u H (fun r _ => r = uv c.1)) :
    Ret Try.prog 66 [.int .i64 l.length, .func (.func cf) #[] caps.toArray] w B (fun v _ => v = .int .i64 e) := by
  subst he
  refine V_enter Try.func66 rfl Try.ntmps66 (Nat.le_of_ble_eq_true rfl) hB ?_
  by_cases h32 : 32 < l.length
  · have : cE 32 l = 3 := if_pos h32
    rw [this]
    refine V_seq ?_; refine V_region (id := 0) ?_; refine vo_step (ok_assign rfl rfl rfl) rfl ?_; refine vo_nil ?_; refine N_seq ?_; refine V_seq ?_; refine V_seq ?_; refine V_region (id := 1) ?_; refine vo_step (ok_move rfl rfl rfl) rfl ?_; refine vo_step (ok_gtr rfl rfl rfl rfl (decide_eq_true (by omega))) rfl ?_; refine vo_nil ?_; refine N_seq ?_; refine V_true rfl ?_; refine V_seq ?_; refine V_region (id := 2) ?_; refine vo_step (ok_assign rfl rfl rfl) rfl ?_; refine vo_nil ?_; refine N_seq ?_
    refine V_ret L (rs := [.tmp 4]) rfl (fun _ _ h => h) Since.refl fun u H hH hle => ?_
    rfl
  · refine V_seq ?_; refine V_region (id := 0) ?_; refine vo_step (ok_assign rfl rfl rfl) rfl ?_; refine vo_nil ?_; refine N_seq ?_; refine V_seq ?_; refine V_seq ?_; refine V_region (id := 1) ?_; refine vo_step (ok_move rfl rfl rfl) rfl ?_; refine vo_step (ok_gtr rfl rfl rfl rfl (decide_eq_false (by omega))) rfl ?_; refine vo_nil ?_; refine N_seq ?_; refine V_false rfl ?_; refine V_skip ?_; refine N_seq ?_; refine V_seq ?_; refine V_seq ?_; refine V_region (id := 3) ?_; refine vo_step (ok_move rfl rfl rfl) rfl ?_; refine vo_step (ok_move rfl rfl rfl) rfl ?_; refine vo_nil ?_; refine N_seq ?_; refine V_block ?_
    refine V_loop (fun i : Nat => [(1, .is (.func (.func cf) #[] caps.toArray)), (9, .is (.int .i64 l.length)), (10, .is (.int .i64 i))]) (fun i => i ≤ l.length ∧ ∀ (j : Nat) c, j < i → l[j]? = some c → tE c.1 = 0) (fun i => l.length - i) 0 ⟨Nat.zero_le _, fun j c h => absurd h (Nat.not_lt_zero _)⟩ ⟨rfl, rfl, rfl, trivial⟩ ?_
    rintro i ⟨hi, hok⟩
    by_cases hlt : i < l.length
    · obtain ⟨c, hc⟩ := get_some hlt
      have hzc := hz c (List.mem_of_getElem? hc)
      by_cases h0 : tE c.1 = 0
      · refine V_seq ?_; refine V_region (id := 4) ?_; refine vo_step (ok_lss rfl rfl rfl rfl (decide_eq_true (by omega))) rfl ?_; refine vo_nil ?_; refine N_seq ?_; refine V_seq ?_; refine V_true rfl ?_; refine V_skip ?_; refine N_seq ?_; refine V_seq ?_; refine V_block ?_; refine V_seq ?_; refine V_region (id := 5) ?_; refine vo_step (ok_move rfl rfl rfl) rfl ?_; refine vo_step (ok_assign rfl rfl rfl) rfl ?_; refine vo_nil ?_; refine N_seq ?_; refine V_seq ?_; refine V_region (id := 6) ?_; refine vo_step (ok_move rfl rfl rfl) rfl ?_; refine vo_step (ok_move rfl rfl rfl) rfl ?_; refine vo_step (ok_callx L rfl rfl (blt_lt rfl) rfl rfl hfn (fun u H hH hle _ => hcl i c hc u H hH hle)) rfl ?_; refine vo_step (ok_callx L rfl rfl (blt_lt rfl) rfl rfl rfl (fun u H hH _ _ => h0 ▸ tcheckM hzc hH)) rfl ?_; refine vo_step (ok_assign rfl rfl rfl) rfl ?_; refine vo_nil ?_; refine N_seq ?_; refine V_seq ?_; refine V_region (id := 7) ?_; refine vo_step (ok_move rfl rfl rfl) rfl ?_; refine vo_step (ok_neq rfl rfl rfl rfl (decide_eq_false (by omega))) rfl ?_; refine vo_nil ?_; refine N_seq ?_; refine V_false rfl ?_; refine V_skip ?_; refine N_block ?_; refine N_seq ?_; refine V_region (id := 9) ?_; refine vo_step (ok_add rfl rfl rfl rfl (wrap_i64 (by omega) (by omega))) rfl ?_; refine vo_step (ok_move rfl rfl rfl) rfl ?_; refine vo_nil ?_
        exact N_round (x := i) (i + 1) ⟨hlt, fun j c' hj hc' => by
          rcases Nat.lt_or_ge j i with h | h
          · exact hok j c' h hc'
          · have : j = i := by omega
            subst this; rw [hc] at hc'; cases hc'; exact h0⟩ (by omega) ⟨rfl, rfl, rfl, trivial⟩
      · have h6 := (tE_two c.1).resolve_left h0
        rw [cE_no h32 hc h0]
        refine V_seq ?_; refine V_region (id := 4) ?_; refine vo_step (ok_lss rfl rfl rfl rfl (decide_eq_true (by omega))) rfl ?_; refine vo_nil ?_; refine N_seq ?_; refine V_seq ?_; refine V_true rfl ?_; refine V_skip ?_; refine N_seq ?_; refine V_seq ?_; refine V_block ?_; refine V_seq ?_; refine V_region (id := 5) ?_; refine vo_step (ok_move rfl rfl rfl) rfl ?_; refine vo_step (ok_assign rfl rfl rfl) rfl ?_; refine vo_nil ?_; refine N_seq ?_; refine V_seq ?_; refine V_region (id := 6) ?_; refine vo_step (ok_move rfl rfl rfl) rfl ?_; refine vo_step (ok_move rfl rfl rfl) rfl ?_; refine vo_step (ok_callx L rfl rfl (blt_lt rfl) rfl rfl hfn (fun u H hH hle _ => hcl i c hc u H hH hle)) rfl ?_; refine vo_step (ok_callx L rfl rfl (blt_lt rfl) rfl rfl rfl (fun u H hH _ _ => h6 ▸ tcheckM hzc hH)) rfl ?_; refine vo_step (ok_assign rfl rfl rfl) rfl ?_; refine vo_nil ?_; refine N_seq ?_; refine V_seq ?_; refine V_region (id := 7) ?_; refine vo_step (ok_move rfl rfl rfl) rfl ?_; refine vo_step (ok_neq rfl rfl rfl rfl (decide_eq_true (by omega))) rfl ?_; refine vo_nil ?_; refine N_seq ?_; refine V_true rfl ?_; refine V_seq ?_; refine V_region (id := 8) ?_; refine vo_step (ok_move rfl rfl rfl) rfl ?_; refine vo_step (ok_assign rfl rfl rfl) rfl ?_; refine vo_nil ?_; refine N_seq ?_
        refine V_ret L (rs := [.tmp 4]) rfl (fun _ _ h => h) Since.refl fun u H hH hle => ?_
        rfl
    · rw [cE_yes h32 (fun j c hj => hok j c (by have := get_lt hj; omega) hj)]
      refine V_seq ?_; refine V_region (id := 4) ?_; refine vo_step (ok_lss rfl rfl rfl rfl (decide_eq_false (by omega))) rfl ?_; refine vo_nil ?_; refine N_seq ?_; refine V_seq ?_; refine V_false rfl ?_; refine V_exit ?_; refine X_then ?_; refine X_then ?_; refine X_here ?_; refine N_seq ?_; refine V_seq ?_; refine V_region (id := 10) ?_; refine vo_step (ok_assign rfl rfl rfl) rfl ?_; refine vo_nil ?_; refine N_seq ?_
      refine V_ret L (rs := [.tmp 4]) rfl (fun _ _ h => h) Since.refl fun u H hH hle => ?_
      rfl
theorem slv_shape {e : TypeId} {s n : Nat} {xs : List Value} {fu : Bool} {v : Value} {H : Heap} (h : SlV e s xs n fu v H) : ∃ p m c, v = .slice p m c := by
  rcases h.2 with ⟨_, h⟩ | ⟨b, off, cap, cs, ty0, fr, h, _⟩
  · exact ⟨_, _, _, h⟩
  · exact ⟨_, _, _, h⟩
theorem mchk_ret {l : List CH} {fu : Bool} (hz : ∀ c ∈ l, TM c.1) (hl : l.length ≤ 9223372036854775807) {e : Int} (he : cE 32 l = e) {v : Value} {w : World} {B : Heap} (hB : B.Le (hp w)) (hv : KS tyM l fu v B) :
    Ret Try.prog 27 [v] w B (fun r _ => r = .int .i64 e) := by
  obtain ⟨p, m, c, rfl⟩ := slv_shape hv
  refine V_enter Try.func27 rfl Try.ntmps27 (Nat.le_of_ble_eq_true rfl) hB ?_
  refine V_seq ?_; refine V_region (id := 0) ?_; refine vo_step (ok_box rfl rfl rfl rfl) rfl ?_; refine vo_step (ok_assign rfl rfl rfl) rfl ?_; refine vo_nil ?_; refine N_seq ?_; refine V_seq ?_
  refine V_opn 1 rfl fun q H1 hs1 ⟨b, hpb, hb1⟩ => ?_
  subst hpb
  refine V_region (id := 1) ?_; refine vo_step (ok_load1 L (src_base rfl (by assumption)) rfl rfl rfl rfl) rfl ?_; refine vo_seen 3 (KS tyM l fu) rfl SlV.mono (hv.le hs1.le) ?_; refine vo_step (ok_lenV L rfl rfl rfl rfl) rfl ?_; refine vo_step (ok_makeFunc rfl rfl rfl rfl) rfl ?_; refine vo_step (ok_callx L rfl rfl (blt_lt rfl) rfl rfl rfl (fun u H hH hle _ => mcheck_ret (caps := [.pointer (some ⟨b, 0, none⟩)]) hz hl rfl he hH (fun i c hc u' H' hH' hle' => mcl_ret hc hH' (hle' _ _ (hle _ _ hb1)) ((hv.le hs1.le).le (Heap.Le.trans hle hle'))))) rfl ?_; refine vo_step (ok_assign rfl rfl rfl) rfl ?_; refine vo_nil ?_; refine N_seq ?_
  refine V_ret L (rs := [.tmp 2]) rfl (fun _ _ h => h) hs1 fun u H hH hle => ?_
  rfl
end Go.V.L8
/- The walks of musts (chapter 8): the first must that does not hold; what is possible. -/
namespace Go.V.L8
open Go.Proofs Go.RowKit Go.V Go.V.L2 Go.V.L3 Go.V.L6
theorem firstR_no {s : List U} {l : List CH} (h0 : cE 32 l = 0) {i : Nat} {c : CH} (h : ∀ (j : Nat) x, j < i → l[j]? = some x → holdB s x = true) (hc : l[i]? = some c) (hh : holdB s c = false) : firstR s l = (i, 13) := by
  unfold firstR; rw [if_pos h0]; exact firstI_hit h hc hh
theorem firstR_yes {s : List U} {l : List CH} (h0 : cE 32 l = 0) (h : ∀ (j : Nat) x, l[j]? = some x → holdB s x = true) : firstR s l = (l.length, 0) := by
  unfold firstR; rw [if_pos h0]; exact firstI_all fun x hx => let ⟨j, hj⟩ := List.getElem?_of_mem hx; h j x hj
/-- What is asked for, of the first musts. -/
def askd (l : List CH) (i : Nat) (t : U) : Option Bool := ((l.take i).find? fun p => decide (p.1 = t)).map (·.2)
theorem askd_zero (l : List CH) (t : U) : askd l 0 t = none := by simp [askd]
theorem askd_none {l : List CH} {i : Nat} {t : U} (h : askd l i t = none) : ∀ p ∈ l.take i, ¬ p.1 = t := by
  unfold askd at h
  rw [Option.map_eq_none_iff, List.find?_eq_none] at h
  exact fun p hp e => h p hp (by simpa using e)
theorem askd_some {l : List CH} {i : Nat} {t : U} {b : Bool} (h : askd l i t = some b) : ∃ p ∈ l.take i, p.1 = t ∧ p.2 = b := by
  unfold askd at h
  rw [Option.map_eq_some_iff] at h
  obtain ⟨p, hp, he⟩ := h
  exact ⟨p, List.mem_of_find?_eq_some hp, by simpa using List.find?_some hp, he⟩
/-- All musts ahead agree with the first one of their tuple. -/
theorem askd_pos {l : List CH} {i : Nat} {m : CH} (hp : ∀ j < i, posAt l j = true) (hm : l[i]? = some m) : posAt l i = true ↔ (m.2 = false → tE m.1 = 0) ∧ (∀ b, askd l i m.1 = some b → b = m.2) := by
  rw [posAt_some hm]
  constructor
  · rintro ⟨h1, h2⟩
    refine ⟨h1, fun b hb => ?_⟩
    obtain ⟨p, hp1, hp2, rfl⟩ := askd_some hb
    exact h2 p hp1 hp2
  · rintro ⟨h1, h2⟩
    refine ⟨h1, fun p hp1 hp2 => ?_⟩
    cases ha : askd l i m.1 with
    | none => exact absurd hp2 (askd_none ha p hp1)
    | some b =>
      rw [← h2 b ha]
      obtain ⟨q, hq1, hq2, hq3⟩ := askd_some ha
      rw [← hq3]
      obtain ⟨j, hj⟩ := List.getElem?_of_mem hp1
      obtain ⟨k, hk⟩ := List.getElem?_of_mem hq1
      have key : ∀ (j k : Nat) (p q : CH), (l.take i)[j]? = some p → (l.take i)[k]? = some q → p.1 = q.1 → j ≤ k → p.2 = q.2 := fun j k p q hj hk he hjk => by
        rcases Nat.lt_or_ge j k with h3 | h3
        · have hki : k < i := by
            have := get_lt hk
            rw [List.length_take] at this; omega
          rw [List.getElem?_take_of_lt hki] at hk
          rw [List.getElem?_take_of_lt (by omega)] at hj
          refine ((posAt_some hk).1 (hp k hki)).2 p ?_ he
          exact List.mem_of_getElem? (i := j) (by rw [List.getElem?_take_of_lt h3]; exact hj)
        · have : j = k := by omega
          subst this
          rw [hj] at hk; cases hk; rfl
      rcases Nat.le_total j k with h | h
      · exact key j k p q hj hk (hp2.trans hq2.symm) h
      · exact (key k j q p hk hj (hq2.trans hp2.symm) h).symm
theorem askd_succ {l : List CH} {i : Nat} {m : CH} (hm : l[i]? = some m) (ha : ∀ b, askd l i m.1 = some b → b = m.2) (t : U) : askd l (i + 1) t = if t = m.1 then some m.2 else askd l i t := by
  have e : l.take (i + 1) = l.take i ++ [m] := by rw [List.take_add_one, hm]; rfl
  have e2 : askd l (i + 1) t = (askd l i t).or (if t = m.1 then some m.2 else none) := by
    unfold askd
    rw [e, List.find?_append]
    cases (l.take i).find? fun p => decide (p.1 = t) with
    | some p => rfl
    | none =>
      by_cases ht : t = m.1
      · subst ht; simp
      · have : ¬ m.1 = t := fun e => ht e.symm
        simp [ht, this]
  rw [e2]
  by_cases ht : t = m.1
  · subst ht
    rw [if_pos rfl, if_pos rfl]
    cases hq : askd l i m.1 with
    | none => rfl
    | some b => rw [ha b hq]; rfl
  · rw [if_neg ht, if_neg ht]; cases askd l i t <;> rfl
attribute [local irreducible] V N X VO Par StepOK Has Ret RetL RetO RetT Src
theorem cchk_ret {l : List CH} {fu : Bool} (hz : ∀ c ∈ l, TM c.1) (hl : l.length ≤ 9223372036854775807) {e : Int} (he : cE 32 l = e) {v : Value} {w : World} {B : Heap} (hB : B.Le (hp w)) (hv : KS tyC l fu v B) :
    Ret Try.prog 29 [v] w B (fun r _ => r = .int .i64 e) := by
  obtain ⟨p, m, c, rfl⟩ := slv_shape hv
  refine V_enter Try.func29 rfl Try.ntmps29 (Nat.le_of_ble_eq_true rfl) hB ?_
  refine V_seq ?_; refine V_region (id := 0) ?_; refine vo_step (ok_box rfl rfl rfl rfl) rfl ?_; refine vo_step (ok_assign rfl rfl rfl) rfl ?_; refine vo_nil ?_; refine N_seq ?_; refine V_seq ?_
  refine V_opn 1 rfl fun q H1 hs1 ⟨b, hpb, hb1⟩ => ?_
  subst hpb
  refine V_region (id := 1) ?_; refine vo_step (ok_load1 L (src_base rfl (by assumption)) rfl rfl rfl rfl) rfl ?_; refine vo_seen 3 (KS tyC l fu) rfl SlV.mono (hv.le hs1.le) ?_; refine vo_step (ok_lenV L rfl rfl rfl rfl) rfl ?_; refine vo_step (ok_makeFunc rfl rfl rfl rfl) rfl ?_; refine vo_step (ok_callx L rfl rfl (blt_lt rfl) rfl rfl rfl (fun u H hH hle _ => mcheck_ret (caps := [.pointer (some ⟨b, 0, none⟩)]) hz hl rfl he hH (fun i c hc u' H' hH' hle' => ccl_ret hc hH' (hle' _ _ (hle _ _ hb1)) ((hv.le hs1.le).le (Heap.Le.trans hle hle'))))) rfl ?_; refine vo_step (ok_assign rfl rfl rfl) rfl ?_; refine vo_nil ?_; refine N_seq ?_
  refine V_ret L (rs := [.tmp 2]) rfl (fun _ _ h => h) hs1 fun u H hH hle => ?_
  rfl
theorem holds_ret {s : List U} {c : CH} {b : Bool} (hb : holdB s c = b) {v : Value} {w : World} {B : Heap} (hB : B.Le (hp w)) (hv : SetV s v B) : Ret Try.prog 17 [v, chv c.1 c.2] w B (fun r _ => r = .bool b) := by
  subst hb
  obtain ⟨x, d⟩ := c
  obtain ⟨f1, p1, f2, q1, rfl, hpl⟩ := hv.shape
  obtain ⟨h, hh⟩ : ∃ h, decide (x ∈ s) = h := ⟨_, rfl⟩
  unfold holdB
  dsimp only
  rw [hh]
  refine V_enter Try.func17 rfl Try.ntmps17 (Nat.le_of_ble_eq_true rfl) hB ?_
  refine V_seq ?_; refine V_region (id := 0) ?_; refine vo_step (ok_box rfl rfl rfl rfl) rfl ?_; refine vo_step (ok_box rfl rfl rfl rfl) rfl ?_; refine vo_step (ok_assign rfl rfl rfl) rfl ?_; refine vo_nil ?_; refine N_seq ?_; refine V_seq ?_; refine V_regionD (id := 1) [] mixed (by kernel_rfl) ?_; refine par_step (ok_loadA L (vs := [_, _, _, _]) (src_at rfl) rfl rfl rfl rfl ⟨_, rfl⟩) rfl ?_; refine par_step (ok_fieldAt L rfl rfl rfl rfl) rfl ?_; refine par_step (ok_loadA L (vs := [_, _, _, _, _, _]) (src_at rfl) rfl rfl rfl rfl ⟨_, rfl⟩) rfl ?_; refine par_step (ok_callx L rfl rfl (blt_lt rfl) rfl rfl rfl (fun u H hH hle _ => shas_ret hh hH (hv.le hle))) rfl ?_; refine par_step (ok_fieldAt L rfl rfl rfl rfl) rfl ?_; refine par_step (ok_load1 L (src_at rfl) rfl rfl rfl rfl) rfl ?_; refine par_step (ok_bneq rfl rfl rfl rfl bt4 rfl) rfl ?_; refine par_step (ok_assign rfl rfl rfl) rfl ?_; refine par_nil ?_; refine N_seq ?_
  refine V_ret L (rs := [.tmp 4]) rfl (fun _ _ h => h) Since.refl fun u H hH hle => ?_
  cases h <;> cases d <;> rfl
set_option maxHeartbeats 1000000 in
theorem first_ret {s : List U} {l : List CH} {fu : Bool} (hz : ∀ c ∈ l, TM c.1) (hl : l.length ≤ 9223372036854775807) {r : Nat} {e : Int} (hr : firstR s l = (r, e)) {sv v : Value} {w : World} {B : Heap} (hB : B.Le (hp w)) (hs : SetV s sv B) (hv : KS tyM l fu v B) :
    Ret Try.prog 19 [sv, v] w B (fun x _ => x = .tuple #[.int .i64 r, .int .i64 e]) := by
  obtain ⟨f1, p1, f2, q1, rfl, hpl⟩ := hs.shape
  refine V_enter Try.func19 rfl Try.ntmps19 (Nat.le_of_ble_eq_true rfl) hB ?_
  refine V_seen 1 (KS tyM l fu) rfl SlV.mono hv ?_
  by_cases h0 : cE 32 l = 0
  · refine V_seq ?_; refine V_region (id := 0) ?_; refine vo_step (ok_box rfl rfl rfl rfl) rfl ?_; refine vo_step (ok_assign rfl rfl rfl) rfl ?_; refine vo_step (ok_assign rfl rfl rfl) rfl ?_; refine vo_nil ?_; refine N_seq ?_; refine V_seq ?_; refine V_seq ?_; refine V_region (id := 1) ?_; refine vo_step (ok_moves' rfl rfl rfl) rfl ?_; refine vo_step (ok_callx L rfl rfl (blt_lt rfl) rfl rfl rfl (fun u H hH _ _ v1 h1 => mchk_ret hz hl h0 hH h1)) rfl ?_; refine vo_step (ok_assign rfl rfl rfl) rfl ?_; refine vo_nil ?_; refine N_seq ?_; refine V_seq ?_; refine V_region (id := 2) ?_; refine vo_step (ok_move rfl rfl rfl) rfl ?_; refine vo_step (ok_neq rfl rfl rfl rfl (decide_eq_false (by omega))) rfl ?_; refine vo_nil ?_; refine N_seq ?_; refine V_false rfl ?_; refine V_skip ?_; refine N_seq ?_; refine V_seq ?_; refine V_seq ?_; refine V_region (id := 4) ?_; refine vo_step (ok_moves' rfl rfl rfl) rfl ?_; refine vo_step (ok_lenV L rfl rfl rfl rfl) rfl ?_; refine vo_step (ok_move rfl rfl rfl) rfl ?_; refine vo_nil ?_; refine N_seq ?_; refine V_block ?_
    refine V_loop (fun i : Nat => [(1, .sat (KS tyM l fu)), (2, .sat (At [f1, .pointer p1, f2, .pointer q1] tySet 0)), (14, .sat (KS tyM l fu)), (15, .is (.int .i64 l.length)), (16, .is (.int .i64 i))]) (fun i => i ≤ l.length ∧ ∀ (j : Nat) x, j < i → l[j]? = some x → holdB s x = true) (fun i => l.length - i) 0 ⟨Nat.zero_le _, fun j c h => absurd h (Nat.not_lt_zero _)⟩ ⟨rfl, rfl, rfl, rfl, rfl, trivial⟩ ?_
    rintro i ⟨hi, hok⟩
    by_cases hlt : i < l.length
    · obtain ⟨c, hc0⟩ := get_some hlt
      have hc := ks_at hc0
      cases hh : holdB s c
      · rw [firstR_no h0 hok hc0 hh] at hr
        cases hr
        refine V_seq ?_; refine V_region (id := 5) ?_; refine vo_step (ok_lss rfl rfl rfl rfl (decide_eq_true (by omega))) rfl ?_; refine vo_nil ?_; refine N_seq ?_; refine V_seq ?_; refine V_true rfl ?_; refine V_skip ?_; refine N_seq ?_; refine V_seq ?_; refine V_block ?_; refine V_seq ?_; refine V_region (id := 6) ?_; refine vo_step (ok_move rfl rfl rfl) rfl ?_; refine vo_step (ok_indexV L _ rfl rfl rfl rfl rfl rfl rfl (by first | omega | decide) (by assumption)) rfl ?_; refine vo_step (ok_loadPA L (vs := [_, _, _, _, _, _, _]) rfl rfl rfl rfl rfl ⟨_, rfl⟩) rfl ?_; refine vo_step (ok_alloc L rfl rfl rfl rfl) rfl ?_; refine vo_step (ok_assign rfl rfl rfl) rfl ?_; refine vo_step (ok_store L rfl rfl rfl rfl rfl rfl rfl rfl) rfl ?_; refine vo_nil ?_; refine N_seq ?_; refine V_seq ?_; refine V_region (id := 7) ?_; refine vo_step (ok_loadA L (vs := [_, _, _, _]) (src_at rfl) rfl rfl rfl rfl ⟨_, rfl⟩) rfl ?_; refine vo_step (ok_loadA L (vs := [_, _, _, _, _, _, _]) (src_own rfl) rfl rfl rfl rfl ⟨_, rfl⟩) rfl ?_; refine vo_step (ok_callx L rfl rfl (blt_lt rfl) rfl rfl rfl (fun u H hH hle _ => holds_ret hh hH (hs.le hle))) rfl ?_; refine vo_step (ok_not rfl rfl rfl rfl) rfl ?_; refine vo_nil ?_; refine N_seq ?_; refine V_true rfl ?_; refine V_seq ?_; refine V_region (id := 8) ?_; refine vo_step (ok_move rfl rfl rfl) rfl ?_; refine vo_step (ok_assign rfl rfl rfl) rfl ?_; refine vo_step (ok_assign rfl rfl rfl) rfl ?_; refine vo_nil ?_; refine N_seq ?_
        refine V_ret L (rs := [.tmp 4, .tmp 5]) rfl (fun _ _ h => h) Since.refl fun u H hH hle => ?_
        rfl
      · refine V_seq ?_; refine V_region (id := 5) ?_; refine vo_step (ok_lss rfl rfl rfl rfl (decide_eq_true (by omega))) rfl ?_; refine vo_nil ?_; refine N_seq ?_; refine V_seq ?_; refine V_true rfl ?_; refine V_skip ?_; refine N_seq ?_; refine V_seq ?_; refine V_block ?_; refine V_seq ?_; refine V_region (id := 6) ?_; refine vo_step (ok_move rfl rfl rfl) rfl ?_; refine vo_step (ok_indexV L _ rfl rfl rfl rfl rfl rfl rfl (by first | omega | decide) (by assumption)) rfl ?_; refine vo_step (ok_loadPA L (vs := [_, _, _, _, _, _, _]) rfl rfl rfl rfl rfl ⟨_, rfl⟩) rfl ?_; refine vo_step (ok_alloc L rfl rfl rfl rfl) rfl ?_; refine vo_step (ok_assign rfl rfl rfl) rfl ?_; refine vo_step (ok_store L rfl rfl rfl rfl rfl rfl rfl rfl) rfl ?_; refine vo_nil ?_; refine N_seq ?_; refine V_seq ?_; refine V_region (id := 7) ?_; refine vo_step (ok_loadA L (vs := [_, _, _, _]) (src_at rfl) rfl rfl rfl rfl ⟨_, rfl⟩) rfl ?_; refine vo_step (ok_loadA L (vs := [_, _, _, _, _, _, _]) (src_own rfl) rfl rfl rfl rfl ⟨_, rfl⟩) rfl ?_; refine vo_step (ok_callx L rfl rfl (blt_lt rfl) rfl rfl rfl (fun u H hH hle _ => holds_ret hh hH (hs.le hle))) rfl ?_; refine vo_step (ok_not rfl rfl rfl rfl) rfl ?_; refine vo_nil ?_; refine N_seq ?_; refine V_false rfl ?_; refine V_skip ?_; refine N_block ?_; refine N_seq ?_; refine V_region (id := 9) ?_; refine vo_step (ok_add rfl rfl rfl rfl (wrap_i64 (by omega) (by omega))) rfl ?_; refine vo_step (ok_move rfl rfl rfl) rfl ?_; refine vo_nil ?_
        exact N_round (x := i) (i + 1) ⟨hlt, fun j c' hj hc' => by
          rcases Nat.lt_or_ge j i with h | h
          · exact hok j c' h hc'
          · have : j = i := by omega
            subst this; rw [hc0] at hc'; cases hc'; exact hh⟩ (by omega) ⟨rfl, rfl, rfl, rfl, rfl, trivial⟩
    · rw [firstR_yes h0 (fun j x hj => hok j x (by have := get_lt hj; omega) hj)] at hr
      cases hr
      refine V_seq ?_; refine V_region (id := 5) ?_; refine vo_step (ok_lss rfl rfl rfl rfl (decide_eq_false (by omega))) rfl ?_; refine vo_nil ?_; refine N_seq ?_; refine V_seq ?_; refine V_false rfl ?_; refine V_exit ?_; refine X_then ?_; refine X_then ?_; refine X_here ?_; refine N_seq ?_; refine V_seq ?_; refine V_region (id := 10) ?_; refine vo_step (ok_moves' rfl rfl rfl) rfl ?_; refine vo_step (ok_lenV L rfl rfl rfl rfl) rfl ?_; refine vo_step (ok_assign rfl rfl rfl) rfl ?_; refine vo_step (ok_assign rfl rfl rfl) rfl ?_; refine vo_nil ?_; refine N_seq ?_
      refine V_ret L (rs := [.tmp 4, .tmp 5]) rfl (fun _ _ h => h) Since.refl fun u H hH hle => ?_
      rfl
  · have : firstR s l = (0, cE 32 l) := if_neg h0
    rw [this] at hr
    cases hr
    refine V_seq ?_; refine V_region (id := 0) ?_; refine vo_step (ok_box rfl rfl rfl rfl) rfl ?_; refine vo_step (ok_assign rfl rfl rfl) rfl ?_; refine vo_step (ok_assign rfl rfl rfl) rfl ?_; refine vo_nil ?_; refine N_seq ?_; refine V_seq ?_; refine V_seq ?_; refine V_region (id := 1) ?_; refine vo_step (ok_moves' rfl rfl rfl) rfl ?_; refine vo_step (ok_callx L rfl rfl (blt_lt rfl) rfl rfl rfl (fun u H hH _ _ v1 h1 => mchk_ret hz hl rfl hH h1)) rfl ?_; refine vo_step (ok_assign rfl rfl rfl) rfl ?_; refine vo_nil ?_; refine N_seq ?_; refine V_seq ?_; refine V_region (id := 2) ?_; refine vo_step (ok_move rfl rfl rfl) rfl ?_; refine vo_step (ok_neq rfl rfl rfl rfl (decide_eq_true (by omega))) rfl ?_; refine vo_nil ?_; refine N_seq ?_; refine V_true rfl ?_; refine V_seq ?_; refine V_region (id := 3) ?_; refine vo_step (ok_move rfl rfl rfl) rfl ?_; refine vo_step (ok_assign rfl rfl rfl) rfl ?_; refine vo_step (ok_assign rfl rfl rfl) rfl ?_; refine vo_nil ?_; refine N_seq ?_
    refine V_ret L (rs := [.tmp 4, .tmp 5]) rfl (fun _ _ h => h) Since.refl fun u H hH hle => ?_
    rfl
end Go.V.L8
/- The walks of musts (chapter 8): is there a set in which all hold. -/
namespace Go.V.L8
open Go.Proofs Go.RowKit Go.V Go.V.L2 Go.V.L3 Go.V.L6
abbrev tyMp : TypeId := 111
theorem mp_und : Try.prog.underlying tyMp = some (.map 52 4) := by kernel_rfl
theorem mp_zero (w : World) : (zeroValue 4).run Try.prog w = .ok (.bool false) w := Try.zeroValue4 w
theorem ba_self (a : ByteArray) : (a == a) = true := by
  first
  | exact beq_self_eq_true a
  | (show (a.data == a.data) = true; simp)
theorem mp_key : KeyT Try.prog 52 [0, 0, 0, 0, 0, 0] ucs := ⟨eq52, fun _ => rfl, fun _ _ => eqU rfl, fun a => by simp [ucs, Instr.sameBits, ba_self]⟩
theorem poss_step {l : List CH} {i : Nat} {m : CH} (hp : ∀ j < i, posAt l j = true) (hm : l[i]? = some m) : posAt l i = ((m.2 || decide (tE m.1 = 0)) && match askd l i m.1 with | none => true | some b => b == m.2) := by
  rw [Bool.eq_iff_iff, askd_pos hp hm, Bool.and_eq_true]
  constructor
  · rintro ⟨h1, h2⟩
    refine ⟨?_, ?_⟩
    · cases hd : m.2
      · simp [h1 hd]
      · rfl
    · cases ha : askd l i m.1 with
      | none => rfl
      | some b => simp [h2 b ha]
  · rintro ⟨h1, h2⟩
    refine ⟨fun hd => ?_, fun b hb => ?_⟩
    · rw [hd] at h1; simpa using h1
    · rw [hb] at h2; simpa using h2
attribute [local irreducible] V N X VO Par StepOK Has Ret RetL RetO RetT Src
set_option maxHeartbeats 8000000 in
set_option maxRecDepth 10000 in
theorem possible_ret {l : List CH} {fu : Bool} (hz : ∀ c ∈ l, TM c.1) (hl : l.length ≤ 9223372036854775807) {r : Bool} (hr : possB l = r) {v : Value} {w : World} {B : Heap} (hB : B.Le (hp w)) (hv : KS tyM l fu v B) :
    Ret Try.prog 18 [v] w B (fun x _ => x = .bool r) := by
  refine V_enter Try.func18 rfl Try.ntmps18 (Nat.le_of_ble_eq_true rfl) hB ?_
  refine V_seen 0 (KS tyM l fu) rfl SlV.mono hv ?_
  refine V_seq ?_; refine V_region (id := 0) ?_; refine vo_step (ok_assign rfl rfl rfl) rfl ?_; refine vo_nil ?_; refine N_seq ?_; refine V_seq ?_; refine V_region (id := 1) ?_; refine vo_step (ok_makeMap (K := U) (Y := Bool) ucs Value.bool rfl rfl) rfl ?_; refine vo_step2 (ok_moveO (.inr rfl) rfl rfl rfl rfl) ?_; refine vo_nil ?_; refine N_seq ?_; refine V_seq ?_; refine V_seq ?_
  refine V_holdM 3 900 rfl fun b => ?_
  refine V_region (id := 2) ?_; refine vo_step (ok_moves' rfl rfl rfl) rfl ?_; refine vo_step (ok_lenV L rfl rfl rfl rfl) rfl ?_; refine vo_step (ok_move rfl rfl rfl) rfl ?_; refine vo_nil ?_; refine N_seq ?_; refine V_block ?_
  refine V_loop (fun y : Nat × List (U × Bool) => [(3, .is (.map (some b))), (9, .sat (KS tyM l fu)), (10, .is (.int .i64 l.length)), (11, .is (.int .i64 y.1)), (900, .own (MapH b ucs Value.bool y.2))])
    (fun y => y.1 ≤ l.length ∧ (∀ j < y.1, posAt l j = true) ∧ ∀ t, mget t y.2 = askd l y.1 t) (fun y => l.length - y.1) (0, []) ⟨Nat.zero_le _, fun j h => absurd h (Nat.not_lt_zero _), fun t => (askd_zero l t).symm⟩ ⟨rfl, rfl, rfl, rfl, rfl, trivial⟩ ?_
  rintro ⟨i, a⟩ ⟨hi, hok, hget⟩
  dsimp only at hi hok hget ⊢
  by_cases hlt : i < l.length
  · obtain ⟨c, hc0⟩ := get_some hlt
    have hc := ks_at hc0
    have hzc := hz c (List.mem_of_getElem? hc0)
    have hst := poss_step hok hc0
    have hnx := fun ha => askd_succ hc0 (i := i) ha
    have hg := hget c.1
    obtain ⟨x, d⟩ := c
    dsimp only at hst hnx hg hc hzc
    obtain ⟨q, hq⟩ : ∃ q, askd l i x = q := ⟨_, rfl⟩
    rw [hq] at hst hg
    have hgr : (mget x a).elim (.bool false) Value.bool = .bool (q.getD false) := by rw [hg]; cases q <;> rfl
    have hgf : (mget x a).isSome = q.isSome := by rw [hg]
    obtain ⟨e, he⟩ : ∃ e, decide (tE x = 0) = e := ⟨_, rfl⟩
    rw [he] at hst
    have hte : tE x = if e = true then 0 else 6 := by
      subst he
      rcases tE_two x with h | h
      · rw [h]; rfl
      · rw [h]; rfl
    -- cases
    rcases q with _ | (_ | _) <;> cases d <;> cases e
    · have hpo := possB_no (l := l) (i := i) (by rw [hst]; rfl)
      rw [hpo] at hr
      subst hr
      refine V_seq ?_; refine V_region (id := 3) ?_; refine vo_step (ok_lss rfl rfl rfl rfl (decide_eq_true (by omega))) rfl ?_; refine vo_nil ?_; refine N_seq ?_; refine V_seq ?_; refine V_true rfl ?_; refine V_skip ?_; refine N_seq ?_; refine V_seq ?_; refine V_block ?_; refine V_seq ?_; refine V_region (id := 4) ?_; refine vo_step (ok_indexV L _ rfl rfl rfl rfl rfl rfl rfl (by first | omega | decide) (by assumption)) rfl ?_; refine vo_step (ok_loadPA L (vs := [_, _, _, _, _, _, _]) rfl rfl rfl rfl rfl ⟨_, rfl⟩) rfl ?_; refine vo_step (ok_alloc L rfl rfl rfl rfl) rfl ?_; refine vo_step (ok_store L rfl rfl rfl rfl rfl rfl rfl rfl) rfl ?_; refine vo_nil ?_; refine N_seq ?_; refine V_seq ?_
      refine V_box 5 rfl fun b5 hb5 => ?_
      refine V_region (id := 5) ?_; refine vo_step (ok_move rfl rfl rfl) rfl ?_; refine vo_step (ok_fieldP L rfl rfl rfl rfl) rfl ?_; refine vo_step (ok_loadA L (vs := [_, _, _, _, _, _]) (src_box rfl (List.Mem.head _)) rfl rfl rfl rfl ⟨_, rfl⟩) rfl ?_; refine vo_stepR (ok_lookupM (q := 900) (K := U) x (r := .bool false) (f := false) mp_und mp_key mp_zero rfl rfl rfl rfl rfl rfl hgr hgf) ?_; refine vo_step (ok_move rfl rfl rfl) rfl ?_; refine vo_step (ok_extract rfl rfl rfl rfl) rfl ?_; refine vo_step (ok_extract rfl rfl rfl rfl) rfl ?_; refine vo_step (ok_assign rfl rfl rfl) rfl ?_; refine vo_step (ok_assign rfl rfl rfl) rfl ?_; refine vo_nil ?_; refine N_seq ?_; refine V_seq ?_; refine V_seq ?_; refine V_region (id := 6) ?_; refine vo_step (ok_move rfl rfl rfl) rfl ?_; refine vo_step (ok_move rfl rfl rfl) rfl ?_; refine vo_step (ok_skip rfl (blt_lt rfl) rfl) rfl ?_; refine vo_step (ok_skip rfl (blt_lt rfl) rfl) rfl ?_; refine vo_step (ok_skip rfl (blt_lt rfl) rfl) rfl ?_; refine vo_step (ok_skip rfl (blt_lt rfl) rfl) rfl ?_; refine vo_step (ok_pick rfl rfl rfl rfl) rfl ?_; refine vo_step (ok_move rfl rfl rfl) rfl ?_; refine vo_step (ok_fieldP L rfl rfl rfl rfl) rfl ?_; refine vo_step (ok_load1 L (src_box rfl (List.Mem.head _)) rfl rfl rfl rfl) rfl ?_; refine vo_step (ok_not rfl rfl rfl rfl) rfl ?_; refine vo_step (ok_move rfl rfl rfl) rfl ?_; refine vo_step (ok_fieldP L rfl rfl rfl rfl) rfl ?_; refine vo_step (ok_loadA L (vs := [_, _, _, _, _, _]) (src_box rfl (List.Mem.head _)) rfl rfl rfl rfl ⟨_, rfl⟩) rfl ?_; refine vo_step (ok_callx L rfl rfl (blt_lt rfl) rfl rfl rfl (fun u H hH _ _ => (show tE x = 6 from hte) ▸ tcheckM hzc hH)) rfl ?_; refine vo_step (ok_neq rfl rfl rfl rfl (decide_eq_true (by omega))) rfl ?_; refine vo_step (ok_pick rfl rfl rfl rfl) rfl ?_; refine vo_step (ok_pick rfl rfl rfl rfl) rfl ?_; refine vo_nil ?_; refine N_seq ?_; refine V_true rfl ?_; refine V_seq ?_; refine V_region (id := 7) ?_; refine vo_step (ok_assign rfl rfl rfl) rfl ?_; refine vo_nil ?_; refine N_seq ?_
      refine V_ret L (rs := [.tmp 2]) rfl (fun _ _ h => h) Since.refl fun u H hH hle => ?_
      rfl
    · have hpo : posAt l i = true := by rw [hst]; rfl
      refine V_seq ?_; refine V_region (id := 3) ?_; refine vo_step (ok_lss rfl rfl rfl rfl (decide_eq_true (by omega))) rfl ?_; refine vo_nil ?_; refine N_seq ?_; refine V_seq ?_; refine V_true rfl ?_; refine V_skip ?_; refine N_seq ?_; refine V_seq ?_; refine V_block ?_; refine V_seq ?_; refine V_region (id := 4) ?_; refine vo_step (ok_indexV L _ rfl rfl rfl rfl rfl rfl rfl (by first | omega | decide) (by assumption)) rfl ?_; refine vo_step (ok_loadPA L (vs := [_, _, _, _, _, _, _]) rfl rfl rfl rfl rfl ⟨_, rfl⟩) rfl ?_; refine vo_step (ok_alloc L rfl rfl rfl rfl) rfl ?_; refine vo_step (ok_store L rfl rfl rfl rfl rfl rfl rfl rfl) rfl ?_; refine vo_nil ?_; refine N_seq ?_; refine V_seq ?_
      refine V_box 5 rfl fun b5 hb5 => ?_
      refine V_region (id := 5) ?_; refine vo_step (ok_move rfl rfl rfl) rfl ?_; refine vo_step (ok_fieldP L rfl rfl rfl rfl) rfl ?_; refine vo_step (ok_loadA L (vs := [_, _, _, _, _, _]) (src_box rfl (List.Mem.head _)) rfl rfl rfl rfl ⟨_, rfl⟩) rfl ?_; refine vo_stepR (ok_lookupM (q := 900) (K := U) x (r := .bool false) (f := false) mp_und mp_key mp_zero rfl rfl rfl rfl rfl rfl hgr hgf) ?_; refine vo_step (ok_move rfl rfl rfl) rfl ?_; refine vo_step (ok_extract rfl rfl rfl rfl) rfl ?_; refine vo_step (ok_extract rfl rfl rfl rfl) rfl ?_; refine vo_step (ok_assign rfl rfl rfl) rfl ?_; refine vo_step (ok_assign rfl rfl rfl) rfl ?_; refine vo_nil ?_; refine N_seq ?_; refine V_seq ?_; refine V_seq ?_; refine V_region (id := 6) ?_; refine vo_step (ok_move rfl rfl rfl) rfl ?_; refine vo_step (ok_move rfl rfl rfl) rfl ?_; refine vo_step (ok_skip rfl (blt_lt rfl) rfl) rfl ?_; refine vo_step (ok_skip rfl (blt_lt rfl) rfl) rfl ?_; refine vo_step (ok_skip rfl (blt_lt rfl) rfl) rfl ?_; refine vo_step (ok_skip rfl (blt_lt rfl) rfl) rfl ?_; refine vo_step (ok_pick rfl rfl rfl rfl) rfl ?_; refine vo_step (ok_move rfl rfl rfl) rfl ?_; refine vo_step (ok_fieldP L rfl rfl rfl rfl) rfl ?_; refine vo_step (ok_load1 L (src_box rfl (List.Mem.head _)) rfl rfl rfl rfl) rfl ?_; refine vo_step (ok_not rfl rfl rfl rfl) rfl ?_; refine vo_step (ok_move rfl rfl rfl) rfl ?_; refine vo_step (ok_fieldP L rfl rfl rfl rfl) rfl ?_; refine vo_step (ok_loadA L (vs := [_, _, _, _, _, _]) (src_box rfl (List.Mem.head _)) rfl rfl rfl rfl ⟨_, rfl⟩) rfl ?_; refine vo_step (ok_callx L rfl rfl (blt_lt rfl) rfl rfl rfl (fun u H hH _ _ => (show tE x = 0 from hte) ▸ tcheckM hzc hH)) rfl ?_; refine vo_step (ok_neq rfl rfl rfl rfl (decide_eq_false (by omega))) rfl ?_; refine vo_step (ok_pick rfl rfl rfl rfl) rfl ?_; refine vo_step (ok_pick rfl rfl rfl rfl) rfl ?_; refine vo_nil ?_; refine N_seq ?_; refine V_false rfl ?_; refine V_skip ?_; refine N_seq ?_
      refine V_region (id := 8) ?_; refine vo_step (ok_move rfl rfl rfl) rfl ?_; refine vo_step (ok_fieldP L rfl rfl rfl rfl) rfl ?_; refine vo_step (ok_loadA L (vs := [_, _, _, _, _, _]) (src_box rfl (List.Mem.head _)) rfl rfl rfl rfl ⟨_, rfl⟩) rfl ?_; refine vo_step (ok_fieldP L rfl rfl rfl rfl) rfl ?_; refine vo_step (ok_load1 L (src_box rfl (List.Mem.head _)) rfl rfl rfl rfl) rfl ?_; refine vo_stepS (ok_mapUpdM (q := 900) x false mp_und mp_key rfl rfl rfl rfl rfl rfl rfl rfl) ?_; refine vo_nil ?_; refine N_block ?_; refine N_seq ?_
      refine V_drop (O' := []) (List.nil_sublist _) ?_
      refine V_region (id := 9) ?_; refine vo_step (ok_add rfl rfl rfl rfl (wrap_i64 (by omega) (by omega))) rfl ?_; refine vo_step (ok_move rfl rfl rfl) rfl ?_; refine vo_nil ?_
      exact N_round (x := (i, a)) (i + 1, mput x false a) ⟨hlt, fun j hj => by
        rcases Nat.lt_or_ge j i with h | h
        · exact hok j h
        · have : j = i := by have : j < i + 1 := hj; omega
          subst this; exact hpo, fun t => by
        show mget t (mput x false a) = askd l (i + 1) t
        rw [mget_put, hget, hnx (fun b hb => by rw [hq] at hb; cases hb) t]⟩ (by dsimp only; omega) ⟨rfl, rfl, rfl, rfl, rfl, trivial⟩
    · have hpo : posAt l i = true := by rw [hst]; rfl
      refine V_seq ?_; refine V_region (id := 3) ?_; refine vo_step (ok_lss rfl rfl rfl rfl (decide_eq_true (by omega))) rfl ?_; refine vo_nil ?_; refine N_seq ?_; refine V_seq ?_; refine V_true rfl ?_; refine V_skip ?_; refine N_seq ?_; refine V_seq ?_; refine V_block ?_; refine V_seq ?_; refine V_region (id := 4) ?_; refine vo_step (ok_indexV L _ rfl rfl rfl rfl rfl rfl rfl (by first | omega | decide) (by assumption)) rfl ?_; refine vo_step (ok_loadPA L (vs := [_, _, _, _, _, _, _]) rfl rfl rfl rfl rfl ⟨_, rfl⟩) rfl ?_; refine vo_step (ok_alloc L rfl rfl rfl rfl) rfl ?_; refine vo_step (ok_store L rfl rfl rfl rfl rfl rfl rfl rfl) rfl ?_; refine vo_nil ?_; refine N_seq ?_; refine V_seq ?_
      refine V_box 5 rfl fun b5 hb5 => ?_
      refine V_region (id := 5) ?_; refine vo_step (ok_move rfl rfl rfl) rfl ?_; refine vo_step (ok_fieldP L rfl rfl rfl rfl) rfl ?_; refine vo_step (ok_loadA L (vs := [_, _, _, _, _, _]) (src_box rfl (List.Mem.head _)) rfl rfl rfl rfl ⟨_, rfl⟩) rfl ?_; refine vo_stepR (ok_lookupM (q := 900) (K := U) x (r := .bool false) (f := false) mp_und mp_key mp_zero rfl rfl rfl rfl rfl rfl hgr hgf) ?_; refine vo_step (ok_move rfl rfl rfl) rfl ?_; refine vo_step (ok_extract rfl rfl rfl rfl) rfl ?_; refine vo_step (ok_extract rfl rfl rfl rfl) rfl ?_; refine vo_step (ok_assign rfl rfl rfl) rfl ?_; refine vo_step (ok_assign rfl rfl rfl) rfl ?_; refine vo_nil ?_; refine N_seq ?_; refine V_seq ?_; refine V_seq ?_; refine V_region (id := 6) ?_; refine vo_step (ok_move rfl rfl rfl) rfl ?_; refine vo_step (ok_move rfl rfl rfl) rfl ?_; refine vo_step (ok_skip rfl (blt_lt rfl) rfl) rfl ?_; refine vo_step (ok_skip rfl (blt_lt rfl) rfl) rfl ?_; refine vo_step (ok_skip rfl (blt_lt rfl) rfl) rfl ?_; refine vo_step (ok_skip rfl (blt_lt rfl) rfl) rfl ?_; refine vo_step (ok_pick rfl rfl rfl rfl) rfl ?_; refine vo_step (ok_move rfl rfl rfl) rfl ?_; refine vo_step (ok_fieldP L rfl rfl rfl rfl) rfl ?_; refine vo_step (ok_load1 L (src_box rfl (List.Mem.head _)) rfl rfl rfl rfl) rfl ?_; refine vo_step (ok_not rfl rfl rfl rfl) rfl ?_; refine vo_step (ok_move rfl rfl rfl) rfl ?_; refine vo_step (ok_skip rfl (blt_lt rfl) rfl) rfl ?_; refine vo_step (ok_skip rfl (blt_lt rfl) rfl) rfl ?_; refine vo_step (ok_skip rfl (blt_lt rfl) rfl) rfl ?_; refine vo_step (ok_skip rfl (blt_lt rfl) rfl) rfl ?_; refine vo_step (ok_pick rfl rfl rfl rfl) rfl ?_; refine vo_step (ok_pick rfl rfl rfl rfl) rfl ?_; refine vo_nil ?_; refine N_seq ?_; refine V_false rfl ?_; refine V_skip ?_; refine N_seq ?_
      refine V_region (id := 8) ?_; refine vo_step (ok_move rfl rfl rfl) rfl ?_; refine vo_step (ok_fieldP L rfl rfl rfl rfl) rfl ?_; refine vo_step (ok_loadA L (vs := [_, _, _, _, _, _]) (src_box rfl (List.Mem.head _)) rfl rfl rfl rfl ⟨_, rfl⟩) rfl ?_; refine vo_step (ok_fieldP L rfl rfl rfl rfl) rfl ?_; refine vo_step (ok_load1 L (src_box rfl (List.Mem.head _)) rfl rfl rfl rfl) rfl ?_; refine vo_stepS (ok_mapUpdM (q := 900) x true mp_und mp_key rfl rfl rfl rfl rfl rfl rfl rfl) ?_; refine vo_nil ?_; refine N_block ?_; refine N_seq ?_
      refine V_drop (O' := []) (List.nil_sublist _) ?_
      refine V_region (id := 9) ?_; refine vo_step (ok_add rfl rfl rfl rfl (wrap_i64 (by omega) (by omega))) rfl ?_; refine vo_step (ok_move rfl rfl rfl) rfl ?_; refine vo_nil ?_
      exact N_round (x := (i, a)) (i + 1, mput x true a) ⟨hlt, fun j hj => by
        rcases Nat.lt_or_ge j i with h | h
        · exact hok j h
        · have : j = i := by have : j < i + 1 := hj; omega
          subst this; exact hpo, fun t => by
        show mget t (mput x true a) = askd l (i + 1) t
        rw [mget_put, hget, hnx (fun b hb => by rw [hq] at hb; cases hb) t]⟩ (by dsimp only; omega) ⟨rfl, rfl, rfl, rfl, rfl, trivial⟩
    · have hpo : posAt l i = true := by rw [hst]; rfl
      refine V_seq ?_; refine V_region (id := 3) ?_; refine vo_step (ok_lss rfl rfl rfl rfl (decide_eq_true (by omega))) rfl ?_; refine vo_nil ?_; refine N_seq ?_; refine V_seq ?_; refine V_true rfl ?_; refine V_skip ?_; refine N_seq ?_; refine V_seq ?_; refine V_block ?_; refine V_seq ?_; refine V_region (id := 4) ?_; refine vo_step (ok_indexV L _ rfl rfl rfl rfl rfl rfl rfl (by first | omega | decide) (by assumption)) rfl ?_; refine vo_step (ok_loadPA L (vs := [_, _, _, _, _, _, _]) rfl rfl rfl rfl rfl ⟨_, rfl⟩) rfl ?_; refine vo_step (ok_alloc L rfl rfl rfl rfl) rfl ?_; refine vo_step (ok_store L rfl rfl rfl rfl rfl rfl rfl rfl) rfl ?_; refine vo_nil ?_; refine N_seq ?_; refine V_seq ?_
      refine V_box 5 rfl fun b5 hb5 => ?_
      refine V_region (id := 5) ?_; refine vo_step (ok_move rfl rfl rfl) rfl ?_; refine vo_step (ok_fieldP L rfl rfl rfl rfl) rfl ?_; refine vo_step (ok_loadA L (vs := [_, _, _, _, _, _]) (src_box rfl (List.Mem.head _)) rfl rfl rfl rfl ⟨_, rfl⟩) rfl ?_; refine vo_stepR (ok_lookupM (q := 900) (K := U) x (r := .bool false) (f := false) mp_und mp_key mp_zero rfl rfl rfl rfl rfl rfl hgr hgf) ?_; refine vo_step (ok_move rfl rfl rfl) rfl ?_; refine vo_step (ok_extract rfl rfl rfl rfl) rfl ?_; refine vo_step (ok_extract rfl rfl rfl rfl) rfl ?_; refine vo_step (ok_assign rfl rfl rfl) rfl ?_; refine vo_step (ok_assign rfl rfl rfl) rfl ?_; refine vo_nil ?_; refine N_seq ?_; refine V_seq ?_; refine V_seq ?_; refine V_region (id := 6) ?_; refine vo_step (ok_move rfl rfl rfl) rfl ?_; refine vo_step (ok_move rfl rfl rfl) rfl ?_; refine vo_step (ok_skip rfl (blt_lt rfl) rfl) rfl ?_; refine vo_step (ok_skip rfl (blt_lt rfl) rfl) rfl ?_; refine vo_step (ok_skip rfl (blt_lt rfl) rfl) rfl ?_; refine vo_step (ok_skip rfl (blt_lt rfl) rfl) rfl ?_; refine vo_step (ok_pick rfl rfl rfl rfl) rfl ?_; refine vo_step (ok_move rfl rfl rfl) rfl ?_; refine vo_step (ok_fieldP L rfl rfl rfl rfl) rfl ?_; refine vo_step (ok_load1 L (src_box rfl (List.Mem.head _)) rfl rfl rfl rfl) rfl ?_; refine vo_step (ok_not rfl rfl rfl rfl) rfl ?_; refine vo_step (ok_move rfl rfl rfl) rfl ?_; refine vo_step (ok_skip rfl (blt_lt rfl) rfl) rfl ?_; refine vo_step (ok_skip rfl (blt_lt rfl) rfl) rfl ?_; refine vo_step (ok_skip rfl (blt_lt rfl) rfl) rfl ?_; refine vo_step (ok_skip rfl (blt_lt rfl) rfl) rfl ?_; refine vo_step (ok_pick rfl rfl rfl rfl) rfl ?_; refine vo_step (ok_pick rfl rfl rfl rfl) rfl ?_; refine vo_nil ?_; refine N_seq ?_; refine V_false rfl ?_; refine V_skip ?_; refine N_seq ?_
      refine V_region (id := 8) ?_; refine vo_step (ok_move rfl rfl rfl) rfl ?_; refine vo_step (ok_fieldP L rfl rfl rfl rfl) rfl ?_; refine vo_step (ok_loadA L (vs := [_, _, _, _, _, _]) (src_box rfl (List.Mem.head _)) rfl rfl rfl rfl ⟨_, rfl⟩) rfl ?_; refine vo_step (ok_fieldP L rfl rfl rfl rfl) rfl ?_; refine vo_step (ok_load1 L (src_box rfl (List.Mem.head _)) rfl rfl rfl rfl) rfl ?_; refine vo_stepS (ok_mapUpdM (q := 900) x true mp_und mp_key rfl rfl rfl rfl rfl rfl rfl rfl) ?_; refine vo_nil ?_; refine N_block ?_; refine N_seq ?_
      refine V_drop (O' := []) (List.nil_sublist _) ?_
      refine V_region (id := 9) ?_; refine vo_step (ok_add rfl rfl rfl rfl (wrap_i64 (by omega) (by omega))) rfl ?_; refine vo_step (ok_move rfl rfl rfl) rfl ?_; refine vo_nil ?_
      exact N_round (x := (i, a)) (i + 1, mput x true a) ⟨hlt, fun j hj => by
        rcases Nat.lt_or_ge j i with h | h
        · exact hok j h
        · have : j = i := by have : j < i + 1 := hj; omega
          subst this; exact hpo, fun t => by
        show mget t (mput x true a) = askd l (i + 1) t
        rw [mget_put, hget, hnx (fun b hb => by rw [hq] at hb; cases hb) t]⟩ (by dsimp only; omega) ⟨rfl, rfl, rfl, rfl, rfl, trivial⟩
    · have hpo := possB_no (l := l) (i := i) (by rw [hst]; rfl)
      rw [hpo] at hr
      subst hr
      refine V_seq ?_; refine V_region (id := 3) ?_; refine vo_step (ok_lss rfl rfl rfl rfl (decide_eq_true (by omega))) rfl ?_; refine vo_nil ?_; refine N_seq ?_; refine V_seq ?_; refine V_true rfl ?_; refine V_skip ?_; refine N_seq ?_; refine V_seq ?_; refine V_block ?_; refine V_seq ?_; refine V_region (id := 4) ?_; refine vo_step (ok_indexV L _ rfl rfl rfl rfl rfl rfl rfl (by first | omega | decide) (by assumption)) rfl ?_; refine vo_step (ok_loadPA L (vs := [_, _, _, _, _, _, _]) rfl rfl rfl rfl rfl ⟨_, rfl⟩) rfl ?_; refine vo_step (ok_alloc L rfl rfl rfl rfl) rfl ?_; refine vo_step (ok_store L rfl rfl rfl rfl rfl rfl rfl rfl) rfl ?_; refine vo_nil ?_; refine N_seq ?_; refine V_seq ?_
      refine V_box 5 rfl fun b5 hb5 => ?_
      refine V_region (id := 5) ?_; refine vo_step (ok_move rfl rfl rfl) rfl ?_; refine vo_step (ok_fieldP L rfl rfl rfl rfl) rfl ?_; refine vo_step (ok_loadA L (vs := [_, _, _, _, _, _]) (src_box rfl (List.Mem.head _)) rfl rfl rfl rfl ⟨_, rfl⟩) rfl ?_; refine vo_stepR (ok_lookupM (q := 900) (K := U) x (r := .bool false) (f := true) mp_und mp_key mp_zero rfl rfl rfl rfl rfl rfl hgr hgf) ?_; refine vo_step (ok_move rfl rfl rfl) rfl ?_; refine vo_step (ok_extract rfl rfl rfl rfl) rfl ?_; refine vo_step (ok_extract rfl rfl rfl rfl) rfl ?_; refine vo_step (ok_assign rfl rfl rfl) rfl ?_; refine vo_step (ok_assign rfl rfl rfl) rfl ?_; refine vo_nil ?_; refine N_seq ?_; refine V_seq ?_; refine V_seq ?_; refine V_region (id := 6) ?_; refine vo_step (ok_move rfl rfl rfl) rfl ?_; refine vo_step (ok_move rfl rfl rfl) rfl ?_; refine vo_step (ok_move rfl rfl rfl) rfl ?_; refine vo_step (ok_fieldP L rfl rfl rfl rfl) rfl ?_; refine vo_step (ok_load1 L (src_box rfl (List.Mem.head _)) rfl rfl rfl rfl) rfl ?_; refine vo_step (ok_bneq rfl rfl rfl rfl bt4 rfl) rfl ?_; refine vo_step (ok_pick rfl rfl rfl rfl) rfl ?_; refine vo_step (ok_move rfl rfl rfl) rfl ?_; refine vo_step (ok_fieldP L rfl rfl rfl rfl) rfl ?_; refine vo_step (ok_load1 L (src_box rfl (List.Mem.head _)) rfl rfl rfl rfl) rfl ?_; refine vo_step (ok_not rfl rfl rfl rfl) rfl ?_; refine vo_step (ok_move rfl rfl rfl) rfl ?_; refine vo_step (ok_fieldP L rfl rfl rfl rfl) rfl ?_; refine vo_step (ok_loadA L (vs := [_, _, _, _, _, _]) (src_box rfl (List.Mem.head _)) rfl rfl rfl rfl ⟨_, rfl⟩) rfl ?_; refine vo_step (ok_callx L rfl rfl (blt_lt rfl) rfl rfl rfl (fun u H hH _ _ => (show tE x = 6 from hte) ▸ tcheckM hzc hH)) rfl ?_; refine vo_step (ok_neq rfl rfl rfl rfl (decide_eq_true (by omega))) rfl ?_; refine vo_step (ok_pick rfl rfl rfl rfl) rfl ?_; refine vo_step (ok_pick rfl rfl rfl rfl) rfl ?_; refine vo_nil ?_; refine N_seq ?_; refine V_true rfl ?_; refine V_seq ?_; refine V_region (id := 7) ?_; refine vo_step (ok_assign rfl rfl rfl) rfl ?_; refine vo_nil ?_; refine N_seq ?_
      refine V_ret L (rs := [.tmp 2]) rfl (fun _ _ h => h) Since.refl fun u H hH hle => ?_
      rfl
    · have hpo : posAt l i = true := by rw [hst]; rfl
      refine V_seq ?_; refine V_region (id := 3) ?_; refine vo_step (ok_lss rfl rfl rfl rfl (decide_eq_true (by omega))) rfl ?_; refine vo_nil ?_; refine N_seq ?_; refine V_seq ?_; refine V_true rfl ?_; refine V_skip ?_; refine N_seq ?_; refine V_seq ?_; refine V_block ?_; refine V_seq ?_; refine V_region (id := 4) ?_; refine vo_step (ok_indexV L _ rfl rfl rfl rfl rfl rfl rfl (by first | omega | decide) (by assumption)) rfl ?_; refine vo_step (ok_loadPA L (vs := [_, _, _, _, _, _, _]) rfl rfl rfl rfl rfl ⟨_, rfl⟩) rfl ?_; refine vo_step (ok_alloc L rfl rfl rfl rfl) rfl ?_; refine vo_step (ok_store L rfl rfl rfl rfl rfl rfl rfl rfl) rfl ?_; refine vo_nil ?_; refine N_seq ?_; refine V_seq ?_
      refine V_box 5 rfl fun b5 hb5 => ?_
      refine V_region (id := 5) ?_; refine vo_step (ok_move rfl rfl rfl) rfl ?_; refine vo_step (ok_fieldP L rfl rfl rfl rfl) rfl ?_; refine vo_step (ok_loadA L (vs := [_, _, _, _, _, _]) (src_box rfl (List.Mem.head _)) rfl rfl rfl rfl ⟨_, rfl⟩) rfl ?_; refine vo_stepR (ok_lookupM (q := 900) (K := U) x (r := .bool false) (f := true) mp_und mp_key mp_zero rfl rfl rfl rfl rfl rfl hgr hgf) ?_; refine vo_step (ok_move rfl rfl rfl) rfl ?_; refine vo_step (ok_extract rfl rfl rfl rfl) rfl ?_; refine vo_step (ok_extract rfl rfl rfl rfl) rfl ?_; refine vo_step (ok_assign rfl rfl rfl) rfl ?_; refine vo_step (ok_assign rfl rfl rfl) rfl ?_; refine vo_nil ?_; refine N_seq ?_; refine V_seq ?_; refine V_seq ?_; refine V_region (id := 6) ?_; refine vo_step (ok_move rfl rfl rfl) rfl ?_; refine vo_step (ok_move rfl rfl rfl) rfl ?_; refine vo_step (ok_move rfl rfl rfl) rfl ?_; refine vo_step (ok_fieldP L rfl rfl rfl rfl) rfl ?_; refine vo_step (ok_load1 L (src_box rfl (List.Mem.head _)) rfl rfl rfl rfl) rfl ?_; refine vo_step (ok_bneq rfl rfl rfl rfl bt4 rfl) rfl ?_; refine vo_step (ok_pick rfl rfl rfl rfl) rfl ?_; refine vo_step (ok_move rfl rfl rfl) rfl ?_; refine vo_step (ok_fieldP L rfl rfl rfl rfl) rfl ?_; refine vo_step (ok_load1 L (src_box rfl (List.Mem.head _)) rfl rfl rfl rfl) rfl ?_; refine vo_step (ok_not rfl rfl rfl rfl) rfl ?_; refine vo_step (ok_move rfl rfl rfl) rfl ?_; refine vo_step (ok_fieldP L rfl rfl rfl rfl) rfl ?_; refine vo_step (ok_loadA L (vs := [_, _, _, _, _, _]) (src_box rfl (List.Mem.head _)) rfl rfl rfl rfl ⟨_, rfl⟩) rfl ?_; refine vo_step (ok_callx L rfl rfl (blt_lt rfl) rfl rfl rfl (fun u H hH _ _ => (show tE x = 0 from hte) ▸ tcheckM hzc hH)) rfl ?_; refine vo_step (ok_neq rfl rfl rfl rfl (decide_eq_false (by omega))) rfl ?_; refine vo_step (ok_pick rfl rfl rfl rfl) rfl ?_; refine vo_step (ok_pick rfl rfl rfl rfl) rfl ?_; refine vo_nil ?_; refine N_seq ?_; refine V_false rfl ?_; refine V_skip ?_; refine N_seq ?_
      refine V_region (id := 8) ?_; refine vo_step (ok_move rfl rfl rfl) rfl ?_; refine vo_step (ok_fieldP L rfl rfl rfl rfl) rfl ?_; refine vo_step (ok_loadA L (vs := [_, _, _, _, _, _]) (src_box rfl (List.Mem.head _)) rfl rfl rfl rfl ⟨_, rfl⟩) rfl ?_; refine vo_step (ok_fieldP L rfl rfl rfl rfl) rfl ?_; refine vo_step (ok_load1 L (src_box rfl (List.Mem.head _)) rfl rfl rfl rfl) rfl ?_; refine vo_stepS (ok_mapUpdM (q := 900) x false mp_und mp_key rfl rfl rfl rfl rfl rfl rfl rfl) ?_; refine vo_nil ?_; refine N_block ?_; refine N_seq ?_
      refine V_drop (O' := []) (List.nil_sublist _) ?_
      refine V_region (id := 9) ?_; refine vo_step (ok_add rfl rfl rfl rfl (wrap_i64 (by omega) (by omega))) rfl ?_; refine vo_step (ok_move rfl rfl rfl) rfl ?_; refine vo_nil ?_
      exact N_round (x := (i, a)) (i + 1, mput x false a) ⟨hlt, fun j hj => by
        rcases Nat.lt_or_ge j i with h | h
        · exact hok j h
        · have : j = i := by have : j < i + 1 := hj; omega
          subst this; exact hpo, fun t => by
        show mget t (mput x false a) = askd l (i + 1) t
        rw [mget_put, hget, hnx (fun b hb => by rw [hq] at hb; cases hb; rfl) t]⟩ (by dsimp only; omega) ⟨rfl, rfl, rfl, rfl, rfl, trivial⟩
    · have hpo := possB_no (l := l) (i := i) (by rw [hst]; rfl)
      rw [hpo] at hr
      subst hr
      refine V_seq ?_; refine V_region (id := 3) ?_; refine vo_step (ok_lss rfl rfl rfl rfl (decide_eq_true (by omega))) rfl ?_; refine vo_nil ?_; refine N_seq ?_; refine V_seq ?_; refine V_true rfl ?_; refine V_skip ?_; refine N_seq ?_; refine V_seq ?_; refine V_block ?_; refine V_seq ?_; refine V_region (id := 4) ?_; refine vo_step (ok_indexV L _ rfl rfl rfl rfl rfl rfl rfl (by first | omega | decide) (by assumption)) rfl ?_; refine vo_step (ok_loadPA L (vs := [_, _, _, _, _, _, _]) rfl rfl rfl rfl rfl ⟨_, rfl⟩) rfl ?_; refine vo_step (ok_alloc L rfl rfl rfl rfl) rfl ?_; refine vo_step (ok_store L rfl rfl rfl rfl rfl rfl rfl rfl) rfl ?_; refine vo_nil ?_; refine N_seq ?_; refine V_seq ?_
      refine V_box 5 rfl fun b5 hb5 => ?_
      refine V_region (id := 5) ?_; refine vo_step (ok_move rfl rfl rfl) rfl ?_; refine vo_step (ok_fieldP L rfl rfl rfl rfl) rfl ?_; refine vo_step (ok_loadA L (vs := [_, _, _, _, _, _]) (src_box rfl (List.Mem.head _)) rfl rfl rfl rfl ⟨_, rfl⟩) rfl ?_; refine vo_stepR (ok_lookupM (q := 900) (K := U) x (r := .bool false) (f := true) mp_und mp_key mp_zero rfl rfl rfl rfl rfl rfl hgr hgf) ?_; refine vo_step (ok_move rfl rfl rfl) rfl ?_; refine vo_step (ok_extract rfl rfl rfl rfl) rfl ?_; refine vo_step (ok_extract rfl rfl rfl rfl) rfl ?_; refine vo_step (ok_assign rfl rfl rfl) rfl ?_; refine vo_step (ok_assign rfl rfl rfl) rfl ?_; refine vo_nil ?_; refine N_seq ?_; refine V_seq ?_; refine V_seq ?_; refine V_region (id := 6) ?_; refine vo_step (ok_move rfl rfl rfl) rfl ?_; refine vo_step (ok_move rfl rfl rfl) rfl ?_; refine vo_step (ok_move rfl rfl rfl) rfl ?_; refine vo_step (ok_fieldP L rfl rfl rfl rfl) rfl ?_; refine vo_step (ok_load1 L (src_box rfl (List.Mem.head _)) rfl rfl rfl rfl) rfl ?_; refine vo_step (ok_bneq rfl rfl rfl rfl bt4 rfl) rfl ?_; refine vo_step (ok_pick rfl rfl rfl rfl) rfl ?_; refine vo_step (ok_move rfl rfl rfl) rfl ?_; refine vo_step (ok_skip rfl (blt_lt rfl) rfl) rfl ?_; refine vo_step (ok_skip rfl (blt_lt rfl) rfl) rfl ?_; refine vo_step (ok_skip rfl (blt_lt rfl) rfl) rfl ?_; refine vo_step (ok_skip rfl (blt_lt rfl) rfl) rfl ?_; refine vo_step (ok_skip rfl (blt_lt rfl) rfl) rfl ?_; refine vo_step (ok_skip rfl (blt_lt rfl) rfl) rfl ?_; refine vo_step (ok_skip rfl (blt_lt rfl) rfl) rfl ?_; refine vo_step (ok_skip rfl (blt_lt rfl) rfl) rfl ?_; refine vo_step (ok_skip rfl (blt_lt rfl) rfl) rfl ?_; refine vo_step (ok_pick rfl rfl rfl rfl) rfl ?_; refine vo_nil ?_; refine N_seq ?_; refine V_true rfl ?_; refine V_seq ?_; refine V_region (id := 7) ?_; refine vo_step (ok_assign rfl rfl rfl) rfl ?_; refine vo_nil ?_; refine N_seq ?_
      refine V_ret L (rs := [.tmp 2]) rfl (fun _ _ h => h) Since.refl fun u H hH hle => ?_
      rfl
    · have hpo := possB_no (l := l) (i := i) (by rw [hst]; rfl)
      rw [hpo] at hr
      subst hr
      refine V_seq ?_; refine V_region (id := 3) ?_; refine vo_step (ok_lss rfl rfl rfl rfl (decide_eq_true (by omega))) rfl ?_; refine vo_nil ?_; refine N_seq ?_; refine V_seq ?_; refine V_true rfl ?_; refine V_skip ?_; refine N_seq ?_; refine V_seq ?_; refine V_block ?_; refine V_seq ?_; refine V_region (id := 4) ?_; refine vo_step (ok_indexV L _ rfl rfl rfl rfl rfl rfl rfl (by first | omega | decide) (by assumption)) rfl ?_; refine vo_step (ok_loadPA L (vs := [_, _, _, _, _, _, _]) rfl rfl rfl rfl rfl ⟨_, rfl⟩) rfl ?_; refine vo_step (ok_alloc L rfl rfl rfl rfl) rfl ?_; refine vo_step (ok_store L rfl rfl rfl rfl rfl rfl rfl rfl) rfl ?_; refine vo_nil ?_; refine N_seq ?_; refine V_seq ?_
      refine V_box 5 rfl fun b5 hb5 => ?_
      refine V_region (id := 5) ?_; refine vo_step (ok_move rfl rfl rfl) rfl ?_; refine vo_step (ok_fieldP L rfl rfl rfl rfl) rfl ?_; refine vo_step (ok_loadA L (vs := [_, _, _, _, _, _]) (src_box rfl (List.Mem.head _)) rfl rfl rfl rfl ⟨_, rfl⟩) rfl ?_; refine vo_stepR (ok_lookupM (q := 900) (K := U) x (r := .bool false) (f := true) mp_und mp_key mp_zero rfl rfl rfl rfl rfl rfl hgr hgf) ?_; refine vo_step (ok_move rfl rfl rfl) rfl ?_; refine vo_step (ok_extract rfl rfl rfl rfl) rfl ?_; refine vo_step (ok_extract rfl rfl rfl rfl) rfl ?_; refine vo_step (ok_assign rfl rfl rfl) rfl ?_; refine vo_step (ok_assign rfl rfl rfl) rfl ?_; refine vo_nil ?_; refine N_seq ?_; refine V_seq ?_; refine V_seq ?_; refine V_region (id := 6) ?_; refine vo_step (ok_move rfl rfl rfl) rfl ?_; refine vo_step (ok_move rfl rfl rfl) rfl ?_; refine vo_step (ok_move rfl rfl rfl) rfl ?_; refine vo_step (ok_fieldP L rfl rfl rfl rfl) rfl ?_; refine vo_step (ok_load1 L (src_box rfl (List.Mem.head _)) rfl rfl rfl rfl) rfl ?_; refine vo_step (ok_bneq rfl rfl rfl rfl bt4 rfl) rfl ?_; refine vo_step (ok_pick rfl rfl rfl rfl) rfl ?_; refine vo_step (ok_move rfl rfl rfl) rfl ?_; refine vo_step (ok_skip rfl (blt_lt rfl) rfl) rfl ?_; refine vo_step (ok_skip rfl (blt_lt rfl) rfl) rfl ?_; refine vo_step (ok_skip rfl (blt_lt rfl) rfl) rfl ?_; refine vo_step (ok_skip rfl (blt_lt rfl) rfl) rfl ?_; refine vo_step (ok_skip rfl (blt_lt rfl) rfl) rfl ?_; refine vo_step (ok_skip rfl (blt_lt rfl) rfl) rfl ?_; refine vo_step (ok_skip rfl (blt_lt rfl) rfl) rfl ?_; refine vo_step (ok_skip rfl (blt_lt rfl) rfl) rfl ?_; refine vo_step (ok_skip rfl (blt_lt rfl) rfl) rfl ?_; refine vo_step (ok_pick rfl rfl rfl rfl) rfl ?_; refine vo_nil ?_; refine N_seq ?_; refine V_true rfl ?_; refine V_seq ?_; refine V_region (id := 7) ?_; refine vo_step (ok_assign rfl rfl rfl) rfl ?_; refine vo_nil ?_; refine N_seq ?_
      refine V_ret L (rs := [.tmp 2]) rfl (fun _ _ h => h) Since.refl fun u H hH hle => ?_
      rfl
    · have hpo := possB_no (l := l) (i := i) (by rw [hst]; rfl)
      rw [hpo] at hr
      subst hr
      refine V_seq ?_; refine V_region (id := 3) ?_; refine vo_step (ok_lss rfl rfl rfl rfl (decide_eq_true (by omega))) rfl ?_; refine vo_nil ?_; refine N_seq ?_; refine V_seq ?_; refine V_true rfl ?_; refine V_skip ?_; refine N_seq ?_; refine V_seq ?_; refine V_block ?_; refine V_seq ?_; refine V_region (id := 4) ?_; refine vo_step (ok_indexV L _ rfl rfl rfl rfl rfl rfl rfl (by first | omega | decide) (by assumption)) rfl ?_; refine vo_step (ok_loadPA L (vs := [_, _, _, _, _, _, _]) rfl rfl rfl rfl rfl ⟨_, rfl⟩) rfl ?_; refine vo_step (ok_alloc L rfl rfl rfl rfl) rfl ?_; refine vo_step (ok_store L rfl rfl rfl rfl rfl rfl rfl rfl) rfl ?_; refine vo_nil ?_; refine N_seq ?_; refine V_seq ?_
      refine V_box 5 rfl fun b5 hb5 => ?_
      refine V_region (id := 5) ?_; refine vo_step (ok_move rfl rfl rfl) rfl ?_; refine vo_step (ok_fieldP L rfl rfl rfl rfl) rfl ?_; refine vo_step (ok_loadA L (vs := [_, _, _, _, _, _]) (src_box rfl (List.Mem.head _)) rfl rfl rfl rfl ⟨_, rfl⟩) rfl ?_; refine vo_stepR (ok_lookupM (q := 900) (K := U) x (r := .bool true) (f := true) mp_und mp_key mp_zero rfl rfl rfl rfl rfl rfl hgr hgf) ?_; refine vo_step (ok_move rfl rfl rfl) rfl ?_; refine vo_step (ok_extract rfl rfl rfl rfl) rfl ?_; refine vo_step (ok_extract rfl rfl rfl rfl) rfl ?_; refine vo_step (ok_assign rfl rfl rfl) rfl ?_; refine vo_step (ok_assign rfl rfl rfl) rfl ?_; refine vo_nil ?_; refine N_seq ?_; refine V_seq ?_; refine V_seq ?_; refine V_region (id := 6) ?_; refine vo_step (ok_move rfl rfl rfl) rfl ?_; refine vo_step (ok_move rfl rfl rfl) rfl ?_; refine vo_step (ok_move rfl rfl rfl) rfl ?_; refine vo_step (ok_fieldP L rfl rfl rfl rfl) rfl ?_; refine vo_step (ok_load1 L (src_box rfl (List.Mem.head _)) rfl rfl rfl rfl) rfl ?_; refine vo_step (ok_bneq rfl rfl rfl rfl bt4 rfl) rfl ?_; refine vo_step (ok_pick rfl rfl rfl rfl) rfl ?_; refine vo_step (ok_move rfl rfl rfl) rfl ?_; refine vo_step (ok_skip rfl (blt_lt rfl) rfl) rfl ?_; refine vo_step (ok_skip rfl (blt_lt rfl) rfl) rfl ?_; refine vo_step (ok_skip rfl (blt_lt rfl) rfl) rfl ?_; refine vo_step (ok_skip rfl (blt_lt rfl) rfl) rfl ?_; refine vo_step (ok_skip rfl (blt_lt rfl) rfl) rfl ?_; refine vo_step (ok_skip rfl (blt_lt rfl) rfl) rfl ?_; refine vo_step (ok_skip rfl (blt_lt rfl) rfl) rfl ?_; refine vo_step (ok_skip rfl (blt_lt rfl) rfl) rfl ?_; refine vo_step (ok_skip rfl (blt_lt rfl) rfl) rfl ?_; refine vo_step (ok_pick rfl rfl rfl rfl) rfl ?_; refine vo_nil ?_; refine N_seq ?_; refine V_true rfl ?_; refine V_seq ?_; refine V_region (id := 7) ?_; refine vo_step (ok_assign rfl rfl rfl) rfl ?_; refine vo_nil ?_; refine N_seq ?_
      refine V_ret L (rs := [.tmp 2]) rfl (fun _ _ h => h) Since.refl fun u H hH hle => ?_
      rfl
    · have hpo := possB_no (l := l) (i := i) (by rw [hst]; rfl)
      rw [hpo] at hr
      subst hr
      refine V_seq ?_; refine V_region (id := 3) ?_; refine vo_step (ok_lss rfl rfl rfl rfl (decide_eq_true (by omega))) rfl ?_; refine vo_nil ?_; refine N_seq ?_; refine V_seq ?_; refine V_true rfl ?_; refine V_skip ?_; refine N_seq ?_; refine V_seq ?_; refine V_block ?_; refine V_seq ?_; refine V_region (id := 4) ?_; refine vo_step (ok_indexV L _ rfl rfl rfl rfl rfl rfl rfl (by first | omega | decide) (by assumption)) rfl ?_; refine vo_step (ok_loadPA L (vs := [_, _, _, _, _, _, _]) rfl rfl rfl rfl rfl ⟨_, rfl⟩) rfl ?_; refine vo_step (ok_alloc L rfl rfl rfl rfl) rfl ?_; refine vo_step (ok_store L rfl rfl rfl rfl rfl rfl rfl rfl) rfl ?_; refine vo_nil ?_; refine N_seq ?_; refine V_seq ?_
      refine V_box 5 rfl fun b5 hb5 => ?_
      refine V_region (id := 5) ?_; refine vo_step (ok_move rfl rfl rfl) rfl ?_; refine vo_step (ok_fieldP L rfl rfl rfl rfl) rfl ?_; refine vo_step (ok_loadA L (vs := [_, _, _, _, _, _]) (src_box rfl (List.Mem.head _)) rfl rfl rfl rfl ⟨_, rfl⟩) rfl ?_; refine vo_stepR (ok_lookupM (q := 900) (K := U) x (r := .bool true) (f := true) mp_und mp_key mp_zero rfl rfl rfl rfl rfl rfl hgr hgf) ?_; refine vo_step (ok_move rfl rfl rfl) rfl ?_; refine vo_step (ok_extract rfl rfl rfl rfl) rfl ?_; refine vo_step (ok_extract rfl rfl rfl rfl) rfl ?_; refine vo_step (ok_assign rfl rfl rfl) rfl ?_; refine vo_step (ok_assign rfl rfl rfl) rfl ?_; refine vo_nil ?_; refine N_seq ?_; refine V_seq ?_; refine V_seq ?_; refine V_region (id := 6) ?_; refine vo_step (ok_move rfl rfl rfl) rfl ?_; refine vo_step (ok_move rfl rfl rfl) rfl ?_; refine vo_step (ok_move rfl rfl rfl) rfl ?_; refine vo_step (ok_fieldP L rfl rfl rfl rfl) rfl ?_; refine vo_step (ok_load1 L (src_box rfl (List.Mem.head _)) rfl rfl rfl rfl) rfl ?_; refine vo_step (ok_bneq rfl rfl rfl rfl bt4 rfl) rfl ?_; refine vo_step (ok_pick rfl rfl rfl rfl) rfl ?_; refine vo_step (ok_move rfl rfl rfl) rfl ?_; refine vo_step (ok_skip rfl (blt_lt rfl) rfl) rfl ?_; refine vo_step (ok_skip rfl (blt_lt rfl) rfl) rfl ?_; refine vo_step (ok_skip rfl (blt_lt rfl) rfl) rfl ?_; refine vo_step (ok_skip rfl (blt_lt rfl) rfl) rfl ?_; refine vo_step (ok_skip rfl (blt_lt rfl) rfl) rfl ?_; refine vo_step (ok_skip rfl (blt_lt rfl) rfl) rfl ?_; refine vo_step (ok_skip rfl (blt_lt rfl) rfl) rfl ?_; refine vo_step (ok_skip rfl (blt_lt rfl) rfl) rfl ?_; refine vo_step (ok_skip rfl (blt_lt rfl) rfl) rfl ?_; refine vo_step (ok_pick rfl rfl rfl rfl) rfl ?_; refine vo_nil ?_; refine N_seq ?_; refine V_true rfl ?_; refine V_seq ?_; refine V_region (id := 7) ?_; refine vo_step (ok_assign rfl rfl rfl) rfl ?_; refine vo_nil ?_; refine N_seq ?_
      refine V_ret L (rs := [.tmp 2]) rfl (fun _ _ h => h) Since.refl fun u H hH hle => ?_
      rfl
    · have hpo : posAt l i = true := by rw [hst]; rfl
      refine V_seq ?_; refine V_region (id := 3) ?_; refine vo_step (ok_lss rfl rfl rfl rfl (decide_eq_true (by omega))) rfl ?_; refine vo_nil ?_; refine N_seq ?_; refine V_seq ?_; refine V_true rfl ?_; refine V_skip ?_; refine N_seq ?_; refine V_seq ?_; refine V_block ?_; refine V_seq ?_; refine V_region (id := 4) ?_; refine vo_step (ok_indexV L _ rfl rfl rfl rfl rfl rfl rfl (by first | omega | decide) (by assumption)) rfl ?_; refine vo_step (ok_loadPA L (vs := [_, _, _, _, _, _, _]) rfl rfl rfl rfl rfl ⟨_, rfl⟩) rfl ?_; refine vo_step (ok_alloc L rfl rfl rfl rfl) rfl ?_; refine vo_step (ok_store L rfl rfl rfl rfl rfl rfl rfl rfl) rfl ?_; refine vo_nil ?_; refine N_seq ?_; refine V_seq ?_
      refine V_box 5 rfl fun b5 hb5 => ?_
      refine V_region (id := 5) ?_; refine vo_step (ok_move rfl rfl rfl) rfl ?_; refine vo_step (ok_fieldP L rfl rfl rfl rfl) rfl ?_; refine vo_step (ok_loadA L (vs := [_, _, _, _, _, _]) (src_box rfl (List.Mem.head _)) rfl rfl rfl rfl ⟨_, rfl⟩) rfl ?_; refine vo_stepR (ok_lookupM (q := 900) (K := U) x (r := .bool true) (f := true) mp_und mp_key mp_zero rfl rfl rfl rfl rfl rfl hgr hgf) ?_; refine vo_step (ok_move rfl rfl rfl) rfl ?_; refine vo_step (ok_extract rfl rfl rfl rfl) rfl ?_; refine vo_step (ok_extract rfl rfl rfl rfl) rfl ?_; refine vo_step (ok_assign rfl rfl rfl) rfl ?_; refine vo_step (ok_assign rfl rfl rfl) rfl ?_; refine vo_nil ?_; refine N_seq ?_; refine V_seq ?_; refine V_seq ?_; refine V_region (id := 6) ?_; refine vo_step (ok_move rfl rfl rfl) rfl ?_; refine vo_step (ok_move rfl rfl rfl) rfl ?_; refine vo_step (ok_move rfl rfl rfl) rfl ?_; refine vo_step (ok_fieldP L rfl rfl rfl rfl) rfl ?_; refine vo_step (ok_load1 L (src_box rfl (List.Mem.head _)) rfl rfl rfl rfl) rfl ?_; refine vo_step (ok_bneq rfl rfl rfl rfl bt4 rfl) rfl ?_; refine vo_step (ok_pick rfl rfl rfl rfl) rfl ?_; refine vo_step (ok_move rfl rfl rfl) rfl ?_; refine vo_step (ok_fieldP L rfl rfl rfl rfl) rfl ?_; refine vo_step (ok_load1 L (src_box rfl (List.Mem.head _)) rfl rfl rfl rfl) rfl ?_; refine vo_step (ok_not rfl rfl rfl rfl) rfl ?_; refine vo_step (ok_move rfl rfl rfl) rfl ?_; refine vo_step (ok_skip rfl (blt_lt rfl) rfl) rfl ?_; refine vo_step (ok_skip rfl (blt_lt rfl) rfl) rfl ?_; refine vo_step (ok_skip rfl (blt_lt rfl) rfl) rfl ?_; refine vo_step (ok_skip rfl (blt_lt rfl) rfl) rfl ?_; refine vo_step (ok_pick rfl rfl rfl rfl) rfl ?_; refine vo_step (ok_pick rfl rfl rfl rfl) rfl ?_; refine vo_nil ?_; refine N_seq ?_; refine V_false rfl ?_; refine V_skip ?_; refine N_seq ?_
      refine V_region (id := 8) ?_; refine vo_step (ok_move rfl rfl rfl) rfl ?_; refine vo_step (ok_fieldP L rfl rfl rfl rfl) rfl ?_; refine vo_step (ok_loadA L (vs := [_, _, _, _, _, _]) (src_box rfl (List.Mem.head _)) rfl rfl rfl rfl ⟨_, rfl⟩) rfl ?_; refine vo_step (ok_fieldP L rfl rfl rfl rfl) rfl ?_; refine vo_step (ok_load1 L (src_box rfl (List.Mem.head _)) rfl rfl rfl rfl) rfl ?_; refine vo_stepS (ok_mapUpdM (q := 900) x true mp_und mp_key rfl rfl rfl rfl rfl rfl rfl rfl) ?_; refine vo_nil ?_; refine N_block ?_; refine N_seq ?_
      refine V_drop (O' := []) (List.nil_sublist _) ?_
      refine V_region (id := 9) ?_; refine vo_step (ok_add rfl rfl rfl rfl (wrap_i64 (by omega) (by omega))) rfl ?_; refine vo_step (ok_move rfl rfl rfl) rfl ?_; refine vo_nil ?_
      exact N_round (x := (i, a)) (i + 1, mput x true a) ⟨hlt, fun j hj => by
        rcases Nat.lt_or_ge j i with h | h
        · exact hok j h
        · have : j = i := by have : j < i + 1 := hj; omega
          subst this; exact hpo, fun t => by
        show mget t (mput x true a) = askd l (i + 1) t
        rw [mget_put, hget, hnx (fun b hb => by rw [hq] at hb; cases hb; rfl) t]⟩ (by dsimp only; omega) ⟨rfl, rfl, rfl, rfl, rfl, trivial⟩
    · have hpo : posAt l i = true := by rw [hst]; rfl
      refine V_seq ?_; refine V_region (id := 3) ?_; refine vo_step (ok_lss rfl rfl rfl rfl (decide_eq_true (by omega))) rfl ?_; refine vo_nil ?_; refine N_seq ?_; refine V_seq ?_; refine V_true rfl ?_; refine V_skip ?_; refine N_seq ?_; refine V_seq ?_; refine V_block ?_; refine V_seq ?_; refine V_region (id := 4) ?_; refine vo_step (ok_indexV L _ rfl rfl rfl rfl rfl rfl rfl (by first | omega | decide) (by assumption)) rfl ?_; refine vo_step (ok_loadPA L (vs := [_, _, _, _, _, _, _]) rfl rfl rfl rfl rfl ⟨_, rfl⟩) rfl ?_; refine vo_step (ok_alloc L rfl rfl rfl rfl) rfl ?_; refine vo_step (ok_store L rfl rfl rfl rfl rfl rfl rfl rfl) rfl ?_; refine vo_nil ?_; refine N_seq ?_; refine V_seq ?_
      refine V_box 5 rfl fun b5 hb5 => ?_
      refine V_region (id := 5) ?_; refine vo_step (ok_move rfl rfl rfl) rfl ?_; refine vo_step (ok_fieldP L rfl rfl rfl rfl) rfl ?_; refine vo_step (ok_loadA L (vs := [_, _, _, _, _, _]) (src_box rfl (List.Mem.head _)) rfl rfl rfl rfl ⟨_, rfl⟩) rfl ?_; refine vo_stepR (ok_lookupM (q := 900) (K := U) x (r := .bool true) (f := true) mp_und mp_key mp_zero rfl rfl rfl rfl rfl rfl hgr hgf) ?_; refine vo_step (ok_move rfl rfl rfl) rfl ?_; refine vo_step (ok_extract rfl rfl rfl rfl) rfl ?_; refine vo_step (ok_extract rfl rfl rfl rfl) rfl ?_; refine vo_step (ok_assign rfl rfl rfl) rfl ?_; refine vo_step (ok_assign rfl rfl rfl) rfl ?_; refine vo_nil ?_; refine N_seq ?_; refine V_seq ?_; refine V_seq ?_; refine V_region (id := 6) ?_; refine vo_step (ok_move rfl rfl rfl) rfl ?_; refine vo_step (ok_move rfl rfl rfl) rfl ?_; refine vo_step (ok_move rfl rfl rfl) rfl ?_; refine vo_step (ok_fieldP L rfl rfl rfl rfl) rfl ?_; refine vo_step (ok_load1 L (src_box rfl (List.Mem.head _)) rfl rfl rfl rfl) rfl ?_; refine vo_step (ok_bneq rfl rfl rfl rfl bt4 rfl) rfl ?_; refine vo_step (ok_pick rfl rfl rfl rfl) rfl ?_; refine vo_step (ok_move rfl rfl rfl) rfl ?_; refine vo_step (ok_fieldP L rfl rfl rfl rfl) rfl ?_; refine vo_step (ok_load1 L (src_box rfl (List.Mem.head _)) rfl rfl rfl rfl) rfl ?_; refine vo_step (ok_not rfl rfl rfl rfl) rfl ?_; refine vo_step (ok_move rfl rfl rfl) rfl ?_; refine vo_step (ok_skip rfl (blt_lt rfl) rfl) rfl ?_; refine vo_step (ok_skip rfl (blt_lt rfl) rfl) rfl ?_; refine vo_step (ok_skip rfl (blt_lt rfl) rfl) rfl ?_; refine vo_step (ok_skip rfl (blt_lt rfl) rfl) rfl ?_; refine vo_step (ok_pick rfl rfl rfl rfl) rfl ?_; refine vo_step (ok_pick rfl rfl rfl rfl) rfl ?_; refine vo_nil ?_; refine N_seq ?_; refine V_false rfl ?_; refine V_skip ?_; refine N_seq ?_
      refine V_region (id := 8) ?_; refine vo_step (ok_move rfl rfl rfl) rfl ?_; refine vo_step (ok_fieldP L rfl rfl rfl rfl) rfl ?_; refine vo_step (ok_loadA L (vs := [_, _, _, _, _, _]) (src_box rfl (List.Mem.head _)) rfl rfl rfl rfl ⟨_, rfl⟩) rfl ?_; refine vo_step (ok_fieldP L rfl rfl rfl rfl) rfl ?_; refine vo_step (ok_load1 L (src_box rfl (List.Mem.head _)) rfl rfl rfl rfl) rfl ?_; refine vo_stepS (ok_mapUpdM (q := 900) x true mp_und mp_key rfl rfl rfl rfl rfl rfl rfl rfl) ?_; refine vo_nil ?_; refine N_block ?_; refine N_seq ?_
      refine V_drop (O' := []) (List.nil_sublist _) ?_
      refine V_region (id := 9) ?_; refine vo_step (ok_add rfl rfl rfl rfl (wrap_i64 (by omega) (by omega))) rfl ?_; refine vo_step (ok_move rfl rfl rfl) rfl ?_; refine vo_nil ?_
      exact N_round (x := (i, a)) (i + 1, mput x true a) ⟨hlt, fun j hj => by
        rcases Nat.lt_or_ge j i with h | h
        · exact hok j h
        · have : j = i := by have : j < i + 1 := hj; omega
          subst this; exact hpo, fun t => by
        show mget t (mput x true a) = askd l (i + 1) t
        rw [mget_put, hget, hnx (fun b hb => by rw [hq] at hb; cases hb; rfl) t]⟩ (by dsimp only; omega) ⟨rfl, rfl, rfl, rfl, rfl, trivial⟩
  · have : possB l = true := (possB_iff l).2 fun j => by
      by_cases hj : j < i
      · exact hok j hj
      · unfold posAt; rw [List.getElem?_eq_none (by omega)]
    rw [this] at hr
    subst hr
    refine V_seq ?_; refine V_region (id := 3) ?_; refine vo_step (ok_lss rfl rfl rfl rfl (decide_eq_false (by omega))) rfl ?_; refine vo_nil ?_; refine N_seq ?_; refine V_seq ?_; refine V_false rfl ?_; refine V_exit ?_; refine X_then ?_; refine X_then ?_; refine X_here ?_; refine N_seq ?_; refine V_seq ?_; refine V_region (id := 10) ?_; refine vo_step (ok_assign rfl rfl rfl) rfl ?_; refine vo_nil ?_; refine N_seq ?_
    refine V_ret L (rs := [.tmp 2]) rfl (fun _ _ h => h) Since.refl fun u H hH hle => ?_
    rfl
end Go.V.L8
