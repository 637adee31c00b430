/- Texts on the way to DeltasKnown, part 4: one behind another. -/
import Derived.Test.YtkmjfdeeahjfcaaDeltasKnownM3
import Derived.Laws.RangeString
import Derived.Laws.Runes
import Derived.Scope
set_option linter.unusedVariables false
set_option linter.unusedSimpArgs false
/- The walks of sets (chapter 6): sets as values. -/
namespace Go.V.L6
open Go.Proofs Go.RowKit Go.V Go.V.L2 Go.V.L3
/-- A set, as a value: of these tuples. -/
def SetV (l : List U) : Value → Heap → Prop := fun v H => ∃ p q t u, TS l t u ∧ UT.TA t (.pointer p) H ∧ UT.TA u (.pointer q) H ∧
  (v = .agg #[fvC, .pointer p, fvS, .pointer q] ∨ (l = [] ∧ p = none ∧ q = none ∧ v = .agg #[.nilFunc, .pointer p, .nilFunc, .pointer q]))
theorem SetV.mono {l : List U} : Kn.mono (.sat (SetV l)) := fun _ _ _ ⟨p, q, t, u, h1, h2, h3, h4⟩ hle => ⟨p, q, t, u, h1, h2.le hle, h3.le hle, h4⟩
theorem SetV.le {l : List U} {v : Value} {H H' : Heap} (h : SetV l v H) (hle : H.Le H') : SetV l v H' := SetV.mono _ _ _ h hle
theorem SetV.shape {l : List U} {v : Value} {H : Heap} (h : SetV l v H) : ∃ f p k q, v = .agg #[f, .pointer p, k, .pointer q] ∧ (cellsL (.agg #[f, .pointer p, k, .pointer q])).all plainV = true := by
  obtain ⟨p, q, _, _, _, _, _, h | ⟨_, _, _, h⟩⟩ := h
  · exact ⟨_, _, _, _, h, rfl⟩
  · exact ⟨_, _, _, _, h, rfl⟩
abbrev nilSet : Value := .agg #[.nilFunc, .pointer none, .nilFunc, .pointer none]
theorem SetV.nil {H : Heap} : SetV [] nilSet H := ⟨none, none, .nil, .nil, ts_nil, rfl, rfl, .inr ⟨rfl, rfl, rfl, rfl⟩⟩
attribute [local irreducible] V N X VO Par StepOK Has Ret RetL RetO Src
theorem slen_ret {l : List U} {n : Nat} (hn : l.length = n) {v : Value} {w : World} {B : Heap} (hB : B.Le (hp w)) (hv : SetV l v B) : Ret Try.prog 24 [v] w B (fun v _ => v = .int .i64 n) := by
  subst hn
  obtain ⟨p, q, t, u, hT, ht, hu, rfl | ⟨rfl, rfl, rfl, rfl⟩⟩ := hv
  · refine V_enter Try.func24 rfl Try.ntmps24 (Nat.le_of_ble_eq_true rfl) hB ?_
    refine V_seq ?_; refine V_region (id := 0) ?_; refine vo_step (ok_box rfl rfl rfl rfl) rfl ?_; refine vo_step (ok_assign rfl rfl rfl) rfl ?_; refine vo_nil ?_; refine N_seq ?_; refine V_seq ?_; refine V_region (id := 1) ?_; refine vo_step (ok_fieldAt L rfl rfl rfl rfl) rfl ?_; refine vo_step (ok_fieldAt L rfl rfl rfl rfl) rfl ?_; refine vo_step (ok_loadA L (vs := [_, _]) (src_at rfl) rfl rfl rfl rfl ⟨_, rfl⟩) rfl ?_; refine vo_step (ok_callx L rfl rfl (blt_lt rfl) rfl rfl rfl (fun u H hH hle _ => UT.len_m hH (⟨_, rfl, ht.le hle⟩) hT.size)) rfl ?_; refine vo_step (ok_assign rfl rfl rfl) rfl ?_; refine vo_nil ?_; refine N_seq ?_
    refine V_ret L (rs := [.tmp 2]) rfl (fun _ _ h => h) Since.refl fun u H hH hle => ?_
    rfl
  · refine V_enter Try.func24 rfl Try.ntmps24 (Nat.le_of_ble_eq_true rfl) hB ?_
    refine V_seq ?_; refine V_region (id := 0) ?_; refine vo_step (ok_box rfl rfl rfl rfl) rfl ?_; refine vo_step (ok_assign rfl rfl rfl) rfl ?_; refine vo_nil ?_; refine N_seq ?_; refine V_seq ?_; refine V_region (id := 1) ?_; refine vo_step (ok_fieldAt L rfl rfl rfl rfl) rfl ?_; refine vo_step (ok_fieldAt L rfl rfl rfl rfl) rfl ?_; refine vo_step (ok_loadA L (vs := [_, _]) (src_at rfl) rfl rfl rfl rfl ⟨_, rfl⟩) rfl ?_; refine vo_step (ok_callx L rfl rfl (blt_lt rfl) rfl rfl rfl (fun u H hH hle _ => UT.len_m hH (⟨_, rfl, ht.le hle⟩) hT.size)) rfl ?_; refine vo_step (ok_assign rfl rfl rfl) rfl ?_; refine vo_nil ?_; refine N_seq ?_
    refine V_ret L (rs := [.tmp 2]) rfl (fun _ _ h => h) Since.refl fun u H hH hle => ?_
    rfl
theorem shas_ret {l : List U} {x : U} {b : Bool} (hb : decide (x ∈ l) = b) {v : Value} {w : World} {B : Heap} (hB : B.Le (hp w)) (hv : SetV l v B) : Ret Try.prog 37 [v, uv x] w B (fun v _ => v = .bool b) := by
  have hv0 := hv
  obtain ⟨p, q, t, u, hT, ht, hu, rfl | ⟨rfl, rfl, rfl, rfl⟩⟩ := hv
  · have hg := hT.get x
    refine V_enter Try.func37 rfl Try.ntmps37 (Nat.le_of_ble_eq_true rfl) hB ?_
    by_cases h0 : l.length = 0
    · have hn : l = [] := List.eq_nil_of_length_eq_zero h0
      subst hn
      have hb' : b = false := by rw [← hb]; simp
      subst hb'
      refine V_seq ?_; refine V_region (id := 0) ?_; refine vo_step (ok_box rfl rfl rfl rfl) rfl ?_; refine vo_step (ok_box rfl rfl rfl rfl) rfl ?_; refine vo_step (ok_assign rfl rfl rfl) rfl ?_; refine vo_nil ?_; refine N_seq ?_; refine V_seq ?_; refine V_seq ?_; refine V_region (id := 1) ?_; refine vo_step (ok_loadA L (vs := [_, _, _, _]) (src_at rfl) rfl rfl rfl rfl ⟨_, rfl⟩) rfl ?_; refine vo_step (ok_callx L rfl rfl (blt_lt rfl) rfl rfl rfl (fun u H hH hle _ => slen_ret rfl hH (hv0.le hle))) rfl ?_; refine vo_step (ok_eql rfl rfl rfl rfl (decide_eq_true (by omega))) rfl ?_; refine vo_nil ?_; refine N_seq ?_; refine V_true rfl ?_; refine V_seq ?_; refine V_region (id := 2) ?_; refine vo_step (ok_assign rfl rfl rfl) rfl ?_; refine vo_nil ?_; refine N_seq ?_
      refine V_ret L (rs := [.tmp 4]) rfl (fun _ _ h => h) Since.refl fun u H hH hle => ?_
      rfl
    · cases b
      · have hx : x ∉ l := by simpa using hb
        rw [if_neg hx] at hg
        refine V_seq ?_; refine V_region (id := 0) ?_; refine vo_step (ok_box rfl rfl rfl rfl) rfl ?_; refine vo_step (ok_box rfl rfl rfl rfl) rfl ?_; refine vo_step (ok_assign rfl rfl rfl) rfl ?_; refine vo_nil ?_; refine N_seq ?_; refine V_seq ?_; refine V_seq ?_; refine V_region (id := 1) ?_; refine vo_step (ok_loadA L (vs := [_, _, _, _]) (src_at rfl) rfl rfl rfl rfl ⟨_, rfl⟩) rfl ?_; refine vo_step (ok_callx L rfl rfl (blt_lt rfl) rfl rfl rfl (fun u H hH hle _ => slen_ret rfl hH (hv0.le hle))) rfl ?_; refine vo_step (ok_eql rfl rfl rfl rfl (decide_eq_false (by omega))) rfl ?_; refine vo_nil ?_; refine N_seq ?_; refine V_false rfl ?_; refine V_skip ?_; refine N_seq ?_; refine V_seq ?_; refine V_region (id := 3) ?_; refine vo_step (ok_fieldAt L rfl rfl rfl rfl) rfl ?_; refine vo_step (ok_fieldAt L rfl rfl rfl rfl) rfl ?_; refine vo_step (ok_loadA L (vs := [_, _]) (src_at rfl) rfl rfl rfl rfl ⟨_, rfl⟩) rfl ?_; refine vo_step (ok_loadA L (vs := [_, _, _, _, _, _]) (src_at rfl) rfl rfl rfl rfl ⟨_, rfl⟩) rfl ?_; refine vo_step (ok_callx L rfl rfl (blt_lt rfl) rfl rfl rfl (fun u H hH hle _ => UT.get_m cmpUT x hH (⟨_, rfl, ht.le hle⟩) hg)) rfl ?_; refine vo_step (ok_move rfl rfl rfl) rfl ?_; refine vo_step (ok_extract rfl rfl rfl rfl) rfl ?_; refine vo_step (ok_extract rfl rfl rfl rfl) rfl ?_; refine vo_step (ok_alloc L rfl rfl rfl rfl) rfl ?_; refine vo_step (ok_store L rfl rfl rfl rfl rfl rfl rfl rfl) rfl ?_; refine vo_step (ok_assign rfl rfl rfl) rfl ?_; refine vo_nil ?_; refine N_seq ?_; refine V_seq ?_; refine V_region (id := 4) ?_; refine vo_step (ok_move rfl rfl rfl) rfl ?_; refine vo_step (ok_assign rfl rfl rfl) rfl ?_; refine vo_nil ?_; refine N_seq ?_
        refine V_ret L (rs := [.tmp 4]) rfl (fun _ _ h => h) Since.refl fun u H hH hle => ?_
        rfl
      · have hx : x ∈ l := by simpa using hb
        rw [if_pos hx] at hg
        refine V_seq ?_; refine V_region (id := 0) ?_; refine vo_step (ok_box rfl rfl rfl rfl) rfl ?_; refine vo_step (ok_box rfl rfl rfl rfl) rfl ?_; refine vo_step (ok_assign rfl rfl rfl) rfl ?_; refine vo_nil ?_; refine N_seq ?_; refine V_seq ?_; refine V_seq ?_; refine V_region (id := 1) ?_; refine vo_step (ok_loadA L (vs := [_, _, _, _]) (src_at rfl) rfl rfl rfl rfl ⟨_, rfl⟩) rfl ?_; refine vo_step (ok_callx L rfl rfl (blt_lt rfl) rfl rfl rfl (fun u H hH hle _ => slen_ret rfl hH (hv0.le hle))) rfl ?_; refine vo_step (ok_eql rfl rfl rfl rfl (decide_eq_false (by omega))) rfl ?_; refine vo_nil ?_; refine N_seq ?_; refine V_false rfl ?_; refine V_skip ?_; refine N_seq ?_; refine V_seq ?_; refine V_region (id := 3) ?_; refine vo_step (ok_fieldAt L rfl rfl rfl rfl) rfl ?_; refine vo_step (ok_fieldAt L rfl rfl rfl rfl) rfl ?_; refine vo_step (ok_loadA L (vs := [_, _]) (src_at rfl) rfl rfl rfl rfl ⟨_, rfl⟩) rfl ?_; refine vo_step (ok_loadA L (vs := [_, _, _, _, _, _]) (src_at rfl) rfl rfl rfl rfl ⟨_, rfl⟩) rfl ?_; refine vo_step (ok_callx L rfl rfl (blt_lt rfl) rfl rfl rfl (fun u H hH hle _ => UT.get_m cmpUT x hH (⟨_, rfl, ht.le hle⟩) hg)) rfl ?_; refine vo_step (ok_move rfl rfl rfl) rfl ?_; refine vo_step (ok_extract rfl rfl rfl rfl) rfl ?_; refine vo_step (ok_extract rfl rfl rfl rfl) rfl ?_; refine vo_step (ok_alloc L rfl rfl rfl rfl) rfl ?_; refine vo_step (ok_store L rfl rfl rfl rfl rfl rfl rfl rfl) rfl ?_; refine vo_step (ok_assign rfl rfl rfl) rfl ?_; refine vo_nil ?_; refine N_seq ?_; refine V_seq ?_; refine V_region (id := 4) ?_; refine vo_step (ok_move rfl rfl rfl) rfl ?_; refine vo_step (ok_assign rfl rfl rfl) rfl ?_; refine vo_nil ?_; refine N_seq ?_
        refine V_ret L (rs := [.tmp 4]) rfl (fun _ _ h => h) Since.refl fun u H hH hle => ?_
        rfl
  · have hb' : b = false := by rw [← hb]; simp
    subst hb'
    refine V_enter Try.func37 rfl Try.ntmps37 (Nat.le_of_ble_eq_true rfl) hB ?_
    refine V_seq ?_; refine V_region (id := 0) ?_; refine vo_step (ok_box rfl rfl rfl rfl) rfl ?_; refine vo_step (ok_box rfl rfl rfl rfl) rfl ?_; refine vo_step (ok_assign rfl rfl rfl) rfl ?_; refine vo_nil ?_; refine N_seq ?_; refine V_seq ?_; refine V_seq ?_; refine V_region (id := 1) ?_; refine vo_step (ok_loadA L (vs := [_, _, _, _]) (src_at rfl) rfl rfl rfl rfl ⟨_, rfl⟩) rfl ?_; refine vo_step (ok_callx L rfl rfl (blt_lt rfl) rfl rfl rfl (fun u H hH hle _ => slen_ret rfl hH (hv0.le hle))) rfl ?_; refine vo_step (ok_eql rfl rfl rfl rfl rfl) rfl ?_; refine vo_nil ?_; refine N_seq ?_; refine V_true rfl ?_; refine V_seq ?_; refine V_region (id := 2) ?_; refine vo_step (ok_assign rfl rfl rfl) rfl ?_; refine vo_nil ?_; refine N_seq ?_
    refine V_ret L (rs := [.tmp 4]) rfl (fun _ _ h => h) Since.refl fun u H hH hle => ?_
    rfl
/-- A variable that holds a set. -/
def scs (x : Value × Option Addr × Value × Option Addr) : List Value := [x.1, .pointer x.2.1, x.2.2.1, .pointer x.2.2.2]
abbrev SXp := { x : Value × Option Addr × Value × Option Addr // (scs x).all plainV = true }
abbrev sphi (l : List U) (x : SXp) (H : Heap) : Prop := SetV l (.agg (scs x.1).toArray) H
theorem sphi_mono (l : List U) : MonoX (sphi l) := fun _ _ _ h hle => SetV.le h hle
theorem set_st {l : List U} (v : Value) (H : Heap) (h : SetV l v H) : ∃ x : SXp, sphi l x H ∧ cellsL v = scs x.1 := by
  obtain ⟨f, p, k, q, rfl, hp⟩ := h.shape
  exact ⟨⟨(f, p, k, q), hp⟩, h, rfl⟩
/-- What With gives. -/
abbrev WithS (l : List U) (e : Int) : Value → Heap → Prop := TupS [SetV l, fun v _ => v = .int .i64 e]
theorem WithS.mono {l : List U} {e : Int} : Kn.mono (.sat (WithS l e)) := LE2.mono SetV.mono
theorem mf4 {cf cg : Nat} {t u : Tr U Unit} {v1 v2 : Value} {H : Heap} (h1 : UT.MF cf t v1 H) (h2 : UT.MF cg u v2 H) : ∃ p q, v1 = .agg #[.func (.func cf) #[] #[], .pointer p] ∧ v2 = .agg #[.func (.func cg) #[] #[], .pointer q] ∧ UT.TA t (.pointer p) H ∧ UT.TA u (.pointer q) H := by
  obtain ⟨p, e1, h1⟩ := h1
  obtain ⟨q, e2, h2⟩ := h2
  exact ⟨p, q, e1, e2, h1, h2⟩
theorem ts_ch {l : List U} {t u : Tr U Unit} (h : TS l t u) {x : U} {d : Bool} (hx : decide (x ∈ l) = d) (hc : d = false → l.length < 4096) (he : tE x = 0) : TS (withU l x d).1 (chT cmpT x d t) (chT cmpS x d u) ∧ (withU l x d).2 = 0 := by
  unfold withU chT
  rw [if_pos he]
  cases d
  · have hx' : x ∉ l := by simpa using hx
    rw [if_neg (by decide), if_neg hx', if_neg (by have := hc rfl; omega), if_neg (by decide), if_neg (by decide)]
    exact ⟨h.put hx', rfl⟩
  · have hx' : x ∈ l := by simpa using hx
    rw [if_pos rfl, if_pos rfl, if_pos rfl]
    exact ⟨h.drop hx', rfl⟩
set_option maxHeartbeats 1000000 in
theorem with_ret {l m : List U} {x : U} {d : Bool} {e : Int} (hr : withU l x d = (m, e)) (hl : l.length ≤ 4096) (hz : TZ x) {v : Value} {w : World} {B : Heap} (hB : B.Le (hp w)) (hv : SetV l v B) :
    Ret Try.prog 63 [v, chv x d] w B (WithS m e) := by
  obtain ⟨f1, p1, f2, q1, hsh, hpl⟩ := hv.shape
  by_cases he : tE x = 0
  · obtain ⟨hin, hin0⟩ : ∃ b, decide (x ∈ l) = b := ⟨_, rfl⟩
    by_cases hd : hin = d
    · subst hd
      by_cases hfull : hin = false ∧ l.length = 4096
      · obtain ⟨rfl, hlen⟩ := hfull
        have hw : withU l x false = ([], 3) := by
          unfold withU
          rw [if_pos he, if_neg (by decide), if_neg (by simpa using hin0), if_pos (by omega)]
        rw [hw] at hr
        cases hr
        subst hsh
        refine V_enter Try.func63 rfl Try.ntmps63 (Nat.le_of_ble_eq_true rfl) hB ?_
        refine V_seq ?_; refine V_region (id := 0) ?_; refine vo_step (ok_box rfl rfl rfl rfl) rfl ?_; refine vo_step (ok_box rfl rfl rfl rfl) rfl ?_; refine vo_step (ok_alloc L rfl rfl rfl rfl) rfl ?_; refine vo_step (ok_assign rfl rfl rfl) rfl ?_; refine vo_nil ?_; refine N_seq ?_; refine V_seq ?_; refine V_seq ?_; refine V_region (id := 1) ?_; refine vo_step (ok_fieldAt L rfl rfl rfl rfl) rfl ?_; refine vo_step (ok_loadA L (vs := [_, _, _, _, _, _]) (src_at rfl) rfl rfl rfl rfl ⟨_, rfl⟩) rfl ?_; refine vo_step (ok_callx L rfl rfl (blt_lt rfl) rfl rfl rfl (fun u H hH _ _ => he ▸ tcheck_ret hz hH)) rfl ?_; refine vo_step (ok_assign rfl rfl rfl) rfl ?_; refine vo_nil ?_; refine N_seq ?_; refine V_seq ?_; refine V_region (id := 2) ?_; refine vo_step (ok_move rfl rfl rfl) rfl ?_; refine vo_step (ok_neq rfl rfl rfl rfl (decide_eq_false (by omega))) rfl ?_; refine vo_nil ?_; refine N_seq ?_; refine V_false rfl ?_; refine V_skip ?_; refine N_seq ?_; refine V_seq ?_; refine V_seq ?_; refine V_regionD (id := 4) [] mixed (by kernel_rfl) ?_; refine par_step (ok_loadA L (vs := [_, _, _, _]) (src_at rfl) rfl rfl rfl rfl ⟨_, rfl⟩) rfl ?_; refine par_step (ok_fieldAt L rfl rfl rfl rfl) rfl ?_; refine par_step (ok_loadA L (vs := [_, _, _, _, _, _]) (src_at rfl) rfl rfl rfl rfl ⟨_, rfl⟩) rfl ?_; refine par_step (ok_callx L rfl rfl (blt_lt rfl) rfl rfl rfl (fun u H hH hle _ => shas_ret hin0 hH (hv.le hle))) rfl ?_; refine par_step (ok_fieldAt L rfl rfl rfl rfl) rfl ?_; refine par_step (ok_load1 L (src_at rfl) rfl rfl rfl rfl) rfl ?_; refine par_step (ok_bneq rfl rfl rfl rfl bt4 rfl) rfl ?_; refine par_nil ?_; refine N_seq ?_; refine V_false rfl ?_; refine V_skip ?_; refine N_seq ?_; refine V_seq ?_; refine V_seq ?_; refine V_region (id := 6) ?_; refine vo_step (ok_fieldAt L rfl rfl rfl rfl) rfl ?_; refine vo_step (ok_load1 L (src_at rfl) rfl rfl rfl rfl) rfl ?_; refine vo_step (ok_not rfl rfl rfl rfl) rfl ?_; refine vo_step (ok_move rfl rfl rfl) rfl ?_; refine vo_step (ok_loadA L (vs := [_, _, _, _]) (src_at rfl) rfl rfl rfl rfl ⟨_, rfl⟩) rfl ?_; refine vo_step (ok_callx L rfl rfl (blt_lt rfl) rfl rfl rfl (fun u H hH hle _ => slen_ret hlen hH (hv.le hle))) rfl ?_; refine vo_step (ok_eql rfl rfl rfl rfl (decide_eq_true (by omega))) rfl ?_; refine vo_step (ok_pick rfl rfl rfl rfl) rfl ?_; refine vo_nil ?_; refine N_seq ?_; refine V_true rfl ?_; refine V_seq ?_; refine V_region (id := 7) ?_; refine vo_step (ok_build (cs := [_, _, _, _]) rfl rfl pl41 rfl rfl) rfl ?_; refine vo_step (ok_store L rfl rfl rfl rfl rfl rfl rfl rfl) rfl ?_; refine vo_step (ok_assign rfl rfl rfl) rfl ?_; refine vo_nil ?_; refine N_seq ?_
        refine V_ret L (rs := [.cell 4 41, .tmp 5]) rfl (fun _ _ h => h) Since.refl fun u H hH hle => ?_
        exact ⟨_, src_own rfl, rfl, LE2.mk SetV.nil⟩
      · have hc : hin = false → l.length < 4096 := fun h => by
          rcases Nat.lt_or_ge l.length 4096 with h' | h'
          · exact h'
          · exact absurd ⟨h, by omega⟩ hfull
        obtain ⟨p, q, t, u, hT, ht, hu, hv1⟩ := id hv
        have hch := ts_ch hT hin0 hc he
        rw [hr] at hch
        obtain ⟨hT', rfl⟩ := hch
        have hts := hT.size
        have hus := hT.zu
        have hf1 : p1 = p ∧ q1 = q ∧ (f1 = fvC ∨ (f1 = .nilFunc ∧ t = .nil)) ∧ (f2 = fvS ∨ (f2 = .nilFunc ∧ u = .nil)) := by
          rcases hv1 with h | ⟨h0, rfl, rfl, h⟩
          · rw [hsh] at h; cases h; exact ⟨rfl, rfl, .inl rfl, .inl rfl⟩
          · rw [hsh] at h
            cases h
            subst h0
            have key : ∀ {s : Tr U Unit}, s.size = 0 → s = .nil := fun {s} hs => by
              cases s with
              | nil => rfl
              | node k y l r => simp only [Tr.size] at hs; omega
            exact ⟨rfl, rfl, .inr ⟨rfl, key hts⟩, .inr ⟨rfl, key hus⟩⟩
        obtain ⟨rfl, rfl, hf1, hf2⟩ := hf1
        subst hsh
        have hchg1 := fun (u1 : World) (H : Heap) (hH : H.Le (hp u1)) (hle : B.Le H) => change_ret cmpUT hf1 x hin hH (ht.le hle) (by omega)
        have hchg2 := fun (u1 : World) (H : Heap) (hH : H.Le (hp u1)) (hle : B.Le H) => change_ret cmpUS hf2 x hin hH (hu.le hle) (by omega)
        cases hin
        · have hlen := hc rfl
          refine V_enter Try.func63 rfl Try.ntmps63 (Nat.le_of_ble_eq_true rfl) hB ?_
          refine V_seq ?_; refine V_region (id := 0) ?_; refine vo_step (ok_box rfl rfl rfl rfl) rfl ?_; refine vo_step (ok_box rfl rfl rfl rfl) rfl ?_; refine vo_step (ok_alloc L rfl rfl rfl rfl) rfl ?_; refine vo_step (ok_assign rfl rfl rfl) rfl ?_; refine vo_nil ?_; refine N_seq ?_; refine V_seq ?_; refine V_seq ?_; refine V_region (id := 1) ?_; refine vo_step (ok_fieldAt L rfl rfl rfl rfl) rfl ?_; refine vo_step (ok_loadA L (vs := [_, _, _, _, _, _]) (src_at rfl) rfl rfl rfl rfl ⟨_, rfl⟩) rfl ?_; refine vo_step (ok_callx L rfl rfl (blt_lt rfl) rfl rfl rfl (fun u H hH _ _ => he ▸ tcheck_ret hz hH)) rfl ?_; refine vo_step (ok_assign rfl rfl rfl) rfl ?_; refine vo_nil ?_; refine N_seq ?_; refine V_seq ?_; refine V_region (id := 2) ?_; refine vo_step (ok_move rfl rfl rfl) rfl ?_; refine vo_step (ok_neq rfl rfl rfl rfl (decide_eq_false (by omega))) rfl ?_; refine vo_nil ?_; refine N_seq ?_; refine V_false rfl ?_; refine V_skip ?_; refine N_seq ?_; refine V_seq ?_; refine V_seq ?_; refine V_regionD (id := 4) [] mixed (by kernel_rfl) ?_; refine par_step (ok_loadA L (vs := [_, _, _, _]) (src_at rfl) rfl rfl rfl rfl ⟨_, rfl⟩) rfl ?_; refine par_step (ok_fieldAt L rfl rfl rfl rfl) rfl ?_; refine par_step (ok_loadA L (vs := [_, _, _, _, _, _]) (src_at rfl) rfl rfl rfl rfl ⟨_, rfl⟩) rfl ?_; refine par_step (ok_callx L rfl rfl (blt_lt rfl) rfl rfl rfl (fun u H hH hle _ => shas_ret hin0 hH (hv.le hle))) rfl ?_; refine par_step (ok_fieldAt L rfl rfl rfl rfl) rfl ?_; refine par_step (ok_load1 L (src_at rfl) rfl rfl rfl rfl) rfl ?_; refine par_step (ok_bneq rfl rfl rfl rfl bt4 rfl) rfl ?_; refine par_nil ?_; refine N_seq ?_; refine V_false rfl ?_; refine V_skip ?_; refine N_seq ?_; refine V_seq ?_; refine V_seq ?_; refine V_region (id := 6) ?_; refine vo_step (ok_fieldAt L rfl rfl rfl rfl) rfl ?_; refine vo_step (ok_load1 L (src_at rfl) rfl rfl rfl rfl) rfl ?_; refine vo_step (ok_not rfl rfl rfl rfl) rfl ?_; refine vo_step (ok_move rfl rfl rfl) rfl ?_; refine vo_step (ok_loadA L (vs := [_, _, _, _]) (src_at rfl) rfl rfl rfl rfl ⟨_, rfl⟩) rfl ?_; refine vo_step (ok_callx L rfl rfl (blt_lt rfl) rfl rfl rfl (fun u H hH hle _ => slen_ret rfl hH (hv.le hle))) rfl ?_; refine vo_step (ok_eql rfl rfl rfl rfl (decide_eq_false (by omega))) rfl ?_; refine vo_step (ok_pick rfl rfl rfl rfl) rfl ?_; refine vo_nil ?_; refine N_seq ?_; refine V_false rfl ?_; refine V_skip ?_; refine N_seq ?_; refine V_seq ?_; refine V_regionD (id := 8) [] mixed (by kernel_rfl) ?_; refine par_step (ok_fieldAt L rfl rfl rfl rfl) rfl ?_; refine par_step (ok_loadA L (vs := [_, _]) (src_at rfl) rfl rfl rfl rfl ⟨_, rfl⟩) rfl ?_; refine par_step (ok_loadA L (vs := [_, _, _, _, _, _, _]) (src_at rfl) rfl rfl rfl rfl ⟨_, rfl⟩) rfl ?_; refine par_step (ok_call (φ := UT.MF 76 (chT cmpT x false t)) L rfl rfl (blt_lt rfl) rfl rfl rfl UT.MA.mono (fun u H hH hle _ => hchg1 u H hH hle)) rfl ?_; refine par_step (ok_fieldAt L rfl rfl rfl rfl) rfl ?_; refine par_step (ok_loadA L (vs := [_, _]) (src_at rfl) rfl rfl rfl rfl ⟨_, rfl⟩) rfl ?_; refine par_step (ok_loadA L (vs := [_, _, _, _, _, _, _]) (src_at rfl) rfl rfl rfl rfl ⟨_, rfl⟩) rfl ?_; refine par_step (ok_call (φ := UT.MF 86 (chT cmpS x false u)) L rfl rfl (blt_lt rfl) rfl rfl rfl UT.MA.mono (fun u H hH hle _ => hchg2 u H hH hle)) rfl ?_; refine par_step (ok_buildS (ψ := SetV m) rfl rfl pl41 SetV.mono (fun H _ v1 h1 v2 h2 => by obtain ⟨p, q, rfl, rfl, k1, k2⟩ := mf4 h1 h2; exact ⟨_, rfl, p, q, _, _, hT', k1, k2, .inl rfl⟩)) rfl ?_; refine par_step (ok_storeX L (X := SXp) (fun x => scs x.1) (sphi m) (sphi_mono m) set_st (fun x => ⟨rfl, x.2⟩) rfl rfl rfl rfl rfl) rfl ?_; refine par_step (ok_assign rfl rfl rfl) rfl ?_; refine par_nil ?_; refine N_seq ?_
          refine V_opnX 4 rfl fun x4 H4 hs4 hx4 => ?_
          refine V_ret L (rs := [.cell 4 41, .tmp 5]) rfl (fun _ _ h => h) hs4 fun u H hH hle => ?_
          exact ⟨_, src_own rfl, rfl, LE2.mk (hx4.le hle)⟩
        · refine V_enter Try.func63 rfl Try.ntmps63 (Nat.le_of_ble_eq_true rfl) hB ?_
          refine V_seq ?_; refine V_region (id := 0) ?_; refine vo_step (ok_box rfl rfl rfl rfl) rfl ?_; refine vo_step (ok_box rfl rfl rfl rfl) rfl ?_; refine vo_step (ok_alloc L rfl rfl rfl rfl) rfl ?_; refine vo_step (ok_assign rfl rfl rfl) rfl ?_; refine vo_nil ?_; refine N_seq ?_; refine V_seq ?_; refine V_seq ?_; refine V_region (id := 1) ?_; refine vo_step (ok_fieldAt L rfl rfl rfl rfl) rfl ?_; refine vo_step (ok_loadA L (vs := [_, _, _, _, _, _]) (src_at rfl) rfl rfl rfl rfl ⟨_, rfl⟩) rfl ?_; refine vo_step (ok_callx L rfl rfl (blt_lt rfl) rfl rfl rfl (fun u H hH _ _ => he ▸ tcheck_ret hz hH)) rfl ?_; refine vo_step (ok_assign rfl rfl rfl) rfl ?_; refine vo_nil ?_; refine N_seq ?_; refine V_seq ?_; refine V_region (id := 2) ?_; refine vo_step (ok_move rfl rfl rfl) rfl ?_; refine vo_step (ok_neq rfl rfl rfl rfl (decide_eq_false (by omega))) rfl ?_; refine vo_nil ?_; refine N_seq ?_; refine V_false rfl ?_; refine V_skip ?_; refine N_seq ?_; refine V_seq ?_; refine V_seq ?_; refine V_regionD (id := 4) [] mixed (by kernel_rfl) ?_; refine par_step (ok_loadA L (vs := [_, _, _, _]) (src_at rfl) rfl rfl rfl rfl ⟨_, rfl⟩) rfl ?_; refine par_step (ok_fieldAt L rfl rfl rfl rfl) rfl ?_; refine par_step (ok_loadA L (vs := [_, _, _, _, _, _]) (src_at rfl) rfl rfl rfl rfl ⟨_, rfl⟩) rfl ?_; refine par_step (ok_callx L rfl rfl (blt_lt rfl) rfl rfl rfl (fun u H hH hle _ => shas_ret hin0 hH (hv.le hle))) rfl ?_; refine par_step (ok_fieldAt L rfl rfl rfl rfl) rfl ?_; refine par_step (ok_load1 L (src_at rfl) rfl rfl rfl rfl) rfl ?_; refine par_step (ok_bneq rfl rfl rfl rfl bt4 rfl) rfl ?_; refine par_nil ?_; refine N_seq ?_; refine V_false rfl ?_; refine V_skip ?_; refine N_seq ?_; refine V_seq ?_; refine V_seq ?_; refine V_region (id := 6) ?_; refine vo_step (ok_fieldAt L rfl rfl rfl rfl) rfl ?_; refine vo_step (ok_load1 L (src_at rfl) rfl rfl rfl rfl) rfl ?_; refine vo_step (ok_not rfl rfl rfl rfl) rfl ?_; refine vo_step (ok_move rfl rfl rfl) rfl ?_; refine vo_step (ok_skip rfl (blt_lt rfl) rfl) rfl ?_; refine vo_step (ok_skip rfl (blt_lt rfl) rfl) rfl ?_; refine vo_step (ok_skip rfl (blt_lt rfl) rfl) rfl ?_; refine vo_step (ok_pick rfl rfl rfl rfl) rfl ?_; refine vo_nil ?_; refine N_seq ?_; refine V_false rfl ?_; refine V_skip ?_; refine N_seq ?_; refine V_seq ?_; refine V_regionD (id := 8) [] mixed (by kernel_rfl) ?_; refine par_step (ok_fieldAt L rfl rfl rfl rfl) rfl ?_; refine par_step (ok_loadA L (vs := [_, _]) (src_at rfl) rfl rfl rfl rfl ⟨_, rfl⟩) rfl ?_; refine par_step (ok_loadA L (vs := [_, _, _, _, _, _, _]) (src_at rfl) rfl rfl rfl rfl ⟨_, rfl⟩) rfl ?_; refine par_step (ok_call (φ := UT.MF 76 (chT cmpT x true t)) L rfl rfl (blt_lt rfl) rfl rfl rfl UT.MA.mono (fun u H hH hle _ => hchg1 u H hH hle)) rfl ?_; refine par_step (ok_fieldAt L rfl rfl rfl rfl) rfl ?_; refine par_step (ok_loadA L (vs := [_, _]) (src_at rfl) rfl rfl rfl rfl ⟨_, rfl⟩) rfl ?_; refine par_step (ok_loadA L (vs := [_, _, _, _, _, _, _]) (src_at rfl) rfl rfl rfl rfl ⟨_, rfl⟩) rfl ?_; refine par_step (ok_call (φ := UT.MF 86 (chT cmpS x true u)) L rfl rfl (blt_lt rfl) rfl rfl rfl UT.MA.mono (fun u H hH hle _ => hchg2 u H hH hle)) rfl ?_; refine par_step (ok_buildS (ψ := SetV m) rfl rfl pl41 SetV.mono (fun H _ v1 h1 v2 h2 => by obtain ⟨p, q, rfl, rfl, k1, k2⟩ := mf4 h1 h2; exact ⟨_, rfl, p, q, _, _, hT', k1, k2, .inl rfl⟩)) rfl ?_; refine par_step (ok_storeX L (X := SXp) (fun x => scs x.1) (sphi m) (sphi_mono m) set_st (fun x => ⟨rfl, x.2⟩) rfl rfl rfl rfl rfl) rfl ?_; refine par_step (ok_assign rfl rfl rfl) rfl ?_; refine par_nil ?_; refine N_seq ?_
          refine V_opnX 4 rfl fun x4 H4 hs4 hx4 => ?_
          refine V_ret L (rs := [.cell 4 41, .tmp 5]) rfl (fun _ _ h => h) hs4 fun u H hH hle => ?_
          exact ⟨_, src_own rfl, rfl, LE2.mk (hx4.le hle)⟩
    · have hw : withU l x d = (l, 0) := by
        unfold withU
        rw [if_pos he]
        cases d
        · have : hin = true := by cases hin; exact absurd rfl hd; rfl
          subst this
          rw [if_neg (by decide), if_pos (by simpa using hin0)]
        · have : hin = false := by cases hin; rfl; exact absurd rfl hd
          subst this
          rw [if_pos rfl, filter_out (by simpa using hin0)]
      rw [hw] at hr
      cases hr
      have hb : (hin == d) = false := by cases hin <;> cases d <;> first | rfl | exact absurd rfl hd
      subst hsh
      refine V_enter Try.func63 rfl Try.ntmps63 (Nat.le_of_ble_eq_true rfl) hB ?_
      have hb2 : (!(hin == d)) = true := by rw [hb]; rfl
      refine V_seq ?_; refine V_region (id := 0) ?_; refine vo_step (ok_box rfl rfl rfl rfl) rfl ?_; refine vo_step (ok_box rfl rfl rfl rfl) rfl ?_; refine vo_step (ok_alloc L rfl rfl rfl rfl) rfl ?_; refine vo_step (ok_assign rfl rfl rfl) rfl ?_; refine vo_nil ?_; refine N_seq ?_; refine V_seq ?_; refine V_seq ?_; refine V_region (id := 1) ?_; refine vo_step (ok_fieldAt L rfl rfl rfl rfl) rfl ?_; refine vo_step (ok_loadA L (vs := [_, _, _, _, _, _]) (src_at rfl) rfl rfl rfl rfl ⟨_, rfl⟩) rfl ?_; refine vo_step (ok_callx L rfl rfl (blt_lt rfl) rfl rfl rfl (fun u H hH _ _ => he ▸ tcheck_ret hz hH)) rfl ?_; refine vo_step (ok_assign rfl rfl rfl) rfl ?_; refine vo_nil ?_; refine N_seq ?_; refine V_seq ?_; refine V_region (id := 2) ?_; refine vo_step (ok_move rfl rfl rfl) rfl ?_; refine vo_step (ok_neq rfl rfl rfl rfl (decide_eq_false (by omega))) rfl ?_; refine vo_nil ?_; refine N_seq ?_; refine V_false rfl ?_; refine V_skip ?_; refine N_seq ?_; refine V_seq ?_; refine V_seq ?_; refine V_regionD (id := 4) [] mixed (by kernel_rfl) ?_; refine par_step (ok_loadA L (vs := [_, _, _, _]) (src_at rfl) rfl rfl rfl rfl ⟨_, rfl⟩) rfl ?_; refine par_step (ok_fieldAt L rfl rfl rfl rfl) rfl ?_; refine par_step (ok_loadA L (vs := [_, _, _, _, _, _]) (src_at rfl) rfl rfl rfl rfl ⟨_, rfl⟩) rfl ?_; refine par_step (ok_callx L rfl rfl (blt_lt rfl) rfl rfl rfl (fun u H hH hle _ => shas_ret hin0 hH (hv.le hle))) rfl ?_; refine par_step (ok_fieldAt L rfl rfl rfl rfl) rfl ?_; refine par_step (ok_load1 L (src_at rfl) rfl rfl rfl rfl) rfl ?_; refine par_step (ok_bneq rfl rfl rfl rfl bt4 hb2) rfl ?_; refine par_nil ?_; refine N_seq ?_; refine V_true rfl ?_; refine V_seq ?_; refine V_region (id := 5) ?_; refine vo_step (ok_loadA L (vs := [_, _, _, _]) (src_at rfl) rfl rfl rfl rfl ⟨_, rfl⟩) rfl ?_; refine vo_step (ok_store L rfl rfl rfl rfl rfl rfl (by assumption) rfl) rfl ?_; refine vo_step (ok_assign rfl rfl rfl) rfl ?_; refine vo_nil ?_; refine N_seq ?_
      refine V_ret L (rs := [.cell 4 41, .tmp 5]) rfl (fun _ _ h => h) Since.refl fun u H hH hle => ?_
      exact ⟨_, src_own rfl, rfl, LE2.mk (hv.le hle)⟩
  · have hw : withU l x d = ([], tE x) := if_neg he
    rw [hw] at hr
    cases hr
    subst hsh
    refine V_enter Try.func63 rfl Try.ntmps63 (Nat.le_of_ble_eq_true rfl) hB ?_
    refine V_seq ?_; refine V_region (id := 0) ?_; refine vo_step (ok_box rfl rfl rfl rfl) rfl ?_; refine vo_step (ok_box rfl rfl rfl rfl) rfl ?_; refine vo_step (ok_alloc L rfl rfl rfl rfl) rfl ?_; refine vo_step (ok_assign rfl rfl rfl) rfl ?_; refine vo_nil ?_; refine N_seq ?_; refine V_seq ?_; refine V_seq ?_; refine V_region (id := 1) ?_; refine vo_step (ok_fieldAt L rfl rfl rfl rfl) rfl ?_; refine vo_step (ok_loadA L (vs := [_, _, _, _, _, _]) (src_at rfl) rfl rfl rfl rfl ⟨_, rfl⟩) rfl ?_; refine vo_step (ok_callx L rfl rfl (blt_lt rfl) rfl rfl rfl (fun u H hH _ _ => tcheck_ret hz hH)) rfl ?_; refine vo_step (ok_assign rfl rfl rfl) rfl ?_; refine vo_nil ?_; refine N_seq ?_; refine V_seq ?_; refine V_region (id := 2) ?_; refine vo_step (ok_move rfl rfl rfl) rfl ?_; refine vo_step (ok_neq rfl rfl rfl rfl (decide_eq_true (by omega))) rfl ?_; refine vo_nil ?_; refine N_seq ?_; refine V_true rfl ?_; refine V_seq ?_; refine V_region (id := 3) ?_; refine vo_step (ok_build (cs := [_, _, _, _]) rfl rfl pl41 rfl rfl) rfl ?_; refine vo_step (ok_move rfl rfl rfl) rfl ?_; refine vo_step (ok_store L rfl rfl rfl rfl rfl rfl rfl rfl) rfl ?_; refine vo_step (ok_assign rfl rfl rfl) rfl ?_; refine vo_nil ?_; refine N_seq ?_
    refine V_ret L (rs := [.cell 4 41, .tmp 5]) rfl (fun _ _ h => h) Since.refl fun u H hH hle => ?_
    exact ⟨_, src_own rfl, rfl, LE2.mk SetV.nil⟩
end Go.V.L6
/- The walk of the definition of tuples (chapter 2): parts of two lists. -/
namespace Go.V.L2
open Go.Proofs Go.RowKit Go.V
theorem ups_len : ∀ (l : List U), (l.flatMap ucs).length = l.length * 6
  | [] => rfl
  | y :: l => by rw [List.flatMap_cons, List.length_append, ups_len l, ucs_len, List.length_cons]; omega
attribute [local irreducible] V N X VO Par StepOK Has Ret RetL Src
end Go.V.L2
/- The walks of sets (chapter 6): lists of tuples. -/
namespace Go.V.L6
open Go.Proofs Go.RowKit Go.V Go.V.L2 Go.V.L3
theorem flat_keys (N : List (U × Unit)) : UT.flat N = (kS N).flatMap ucs := by
  unfold UT.flat kS
  rw [List.flatMap_map]
  rfl
theorem rangeL_nat {t : Tr U Unit} {r k : Nat} (hk : k ≤ t.size) : kS (UT.rangeL t (r : Int) (k : Int)) = ((kS t.list).take k).drop r := by
  unfold UT.rangeL
  have h0 : max (r : Int) 0 = (r : Int) := by omega
  have h1 : min (k : Int) (t.size : Int) = (k : Int) := by omega
  rw [h0, h1]
  by_cases h : (r : Int) ≥ k
  · rw [if_pos h, List.drop_eq_nil_of_le (by rw [List.length_take]; omega)]
    rfl
  · rw [if_neg h, Tr.prs_list]
    have := cutI_nat r k t.list 0
    rw [show ((0 : Nat) : Int) = 0 from rfl] at this
    rw [this, Nat.sub_zero, Nat.sub_zero]
    unfold kS
    rw [List.map_drop, List.map_take]
attribute [local irreducible] V N X VO Par StepOK Has Ret RetL RetO Src
set_option maxHeartbeats 1000000 in
theorem ilist_retO {fv : Value} {p : Option Addr} {t : Tr U Unit} {f e : Int} {M : List U} (hM : kS (UT.rangeL t f e) = M) (hs : t.size ≤ 100000) {w : World} {B : Heap} (hB : B.Le (hp w)) (ht : UT.TA t (.pointer p) B) :
    RetO Try.prog 69 [.agg #[fv, .pointer p], .int .i64 f, .int .i64 e] w B (SlE tyU 6 M.length (M.flatMap ucs)) := by
  obtain ⟨N, hN⟩ : ∃ N, UT.rangeL t f e = N := ⟨_, rfl⟩
  rw [hN] at hM
  have hfl := flat_keys N
  have hNM : N.length = M.length := by rw [← hM]; simp
  have hlen : M.length ≤ 100000 := by
    rw [← hNM, ← hN]
    unfold UT.rangeL
    split
    · exact Nat.zero_le _
    · exact Nat.le_trans (Tr.prs_length_le _ _ _ _) hs
  have hat : ∀ {k : Nat} {g : U}, M[k]? = some g → ((UT.flat N).drop (k * 6)).take 6 = [.string g.1.1.1, .string g.1.1.2, .string g.1.2, .string g.2.1.1, .string g.2.1.2, .string g.2.2] := fun {k g} h => by
    rw [hfl, hM]; exact us_at h
  clear hM hfl
  refine V_enterO Try.func69 rfl Try.ntmps69 (Nat.le_of_ble_eq_true rfl) hB ?_
  refine V_seq ?_; refine V_region (id := 0) ?_; refine vo_step (ok_box rfl rfl rfl rfl) rfl ?_; refine vo_step (ok_assign rfl rfl rfl) rfl ?_; refine vo_nil ?_; refine N_seq ?_; refine V_seq ?_; refine V_region (id := 1) ?_; refine vo_step (ok_fieldAt L rfl rfl rfl rfl) rfl ?_; refine vo_step (ok_loadA L (vs := [_, _]) (src_at rfl) rfl rfl rfl rfl ⟨_, rfl⟩) rfl ?_; refine vo_step (ok_move rfl rfl rfl) rfl ?_; refine vo_step (ok_move rfl rfl rfl) rfl ?_; refine vo_step (ok_call (φ := UT.PS N true) L rfl rfl (blt_lt rfl) rfl rfl rfl UT.PS.mono (fun u H hH hle _ => UT.range_m _ _ hH (⟨_, rfl, ht.le hle⟩) (by omega) hN)) rfl ?_; refine vo_step (ok_assigns' rfl rfl rfl) rfl ?_; refine vo_nil ?_; refine N_seq ?_; refine V_seq ?_; refine V_region (id := 2) ?_; refine vo_step (ok_moves' rfl rfl rfl) rfl ?_; refine vo_step (ok_lenV L rfl rfl rfl rfl) rfl ?_; refine vo_step (ok_makeN L _ rfl rfl rfl el52 rfl rfl rfl rfl (by omega) (by simp only [maxLen]; omega)) rfl ?_; refine vo_step2 (ok_moveO (.inr rfl) rfl rfl rfl rfl) ?_; refine vo_nil ?_; refine N_seq ?_; refine V_seq ?_; refine V_seq ?_; refine V_region (id := 3) ?_; refine vo_step (ok_moves' rfl rfl rfl) rfl ?_; refine vo_step (ok_lenV L rfl rfl rfl rfl) rfl ?_; refine vo_step (ok_move rfl rfl rfl) rfl ?_; refine vo_nil ?_; refine N_seq ?_; refine V_block ?_
  have hzl := zsL_length (P := Try.prog) (k := N.length * 6) el52
  generalize zsL Try.prog tyU (N.length * 6) = zs0 at hzl
  rw [hNM] at hzl ⊢
  refine V_loop (fun s : Nat × List Value => [(7, .sat (UT.PS N true)), (8, .own (SlE tyU 6 M.length ((M.take s.1).flatMap ucs ++ s.2))), (19, .is (.int .i64 M.length)), (20, .is (.int .i64 s.1))])
    (fun s => s.1 ≤ M.length ∧ s.2.length = (M.length - s.1) * 6) (fun s => M.length - s.1) (0, zs0) ⟨Nat.zero_le _, hzl⟩ ⟨rfl, rfl, rfl, rfl, trivial⟩ ?_
  rintro ⟨k, zs⟩ ⟨hk, hz⟩
  dsimp only at hk hz ⊢
  by_cases hlt : k < M.length
  · obtain ⟨g, hg⟩ := get_some hlt
    have hc := hat hg
    have hlN : k < N.length := by omega
    have ht1 : M.take (k + 1) = M.take k ++ [g] := by rw [List.take_add_one, hg]; rfl
    have hr : List.take (0 + k * 6) ((M.take k).flatMap ucs ++ zs) ++ (ucs g ++ List.drop (0 + k * 6 + 6) ((M.take k).flatMap ucs ++ zs)) = (M.take (k + 1)).flatMap ucs ++ zs.drop 6 := by
      rw [ht1, Nat.zero_add]
      exact set_at ucs_len (M.take k) k M.length zs g (by rw [List.length_take]; omega) hz hlt
    have hlen' : ((M.take (k + 1)).flatMap ucs ++ zs.drop 6).length = M.length * 6 := by
      rw [List.length_append, ups_len, List.length_take, List.length_drop, hz]; omega
    refine V_boxE 8 (by omega) rfl fun b hb => ?_
    have hle1 : 0 + k * 6 + 6 ≤ ((M.take k).flatMap ucs ++ zs).length := by rw [hb.1]; omega
    refine V_seq ?_; refine V_region (id := 4) ?_; refine vo_step (ok_lss rfl rfl rfl rfl (decide_eq_true (by omega))) rfl ?_; refine vo_nil ?_; refine N_seq ?_; refine V_seq ?_; refine V_true rfl ?_; refine V_skip ?_; refine N_seq ?_; refine V_seq ?_; refine V_block ?_; refine V_seq ?_; refine V_region (id := 5) ?_; refine vo_step (ok_move rfl rfl rfl) rfl ?_; refine vo_step (ok_assign rfl rfl rfl) rfl ?_; refine vo_nil ?_; refine N_seq ?_; refine V_region (id := 6) ?_; refine vo_step (ok_move rfl rfl rfl) rfl ?_; refine vo_step (ok_move rfl rfl rfl) rfl ?_; refine vo_step (ok_moves' rfl rfl rfl) rfl ?_; refine vo_step (ok_move rfl rfl rfl) rfl ?_; refine vo_step (ok_indexV L _ rfl rfl rfl rfl rfl rfl rfl (by first | omega | decide) (by assumption)) rfl ?_; refine vo_step (ok_fieldAP L rfl rfl rfl rfl) rfl ?_; refine vo_step (ok_loadPA L (vs := [_, _, _, _, _, _]) rfl rfl rfl rfl rfl ⟨_, rfl⟩) rfl ?_; refine vo_step (ok_indexAt L _ rfl rfl rfl rfl rfl rfl rfl (by omega)) rfl ?_; refine box_store L (O1 := []) (cs' := (M.take (k + 1)).flatMap ucs ++ zs.drop 6) rfl rfl rfl rfl rfl rfl (Nat.ble_eq_true_of_le hle1) rfl hr ?_; refine vo_nil ?_; refine N_block ?_; refine N_seq ?_
    refine V_unboxE (s := 6) 8 [] rfl rfl hlen' hb.2 ?_
    refine V_region (id := 7) ?_; refine vo_step (ok_add rfl rfl rfl rfl (wrap_i64 (by omega) (by omega))) rfl ?_; refine vo_step (ok_move rfl rfl rfl) rfl ?_; refine vo_nil ?_
    exact N_round (x := (k, zs)) (k + 1, zs.drop 6) ⟨hlt, by dsimp only; rw [List.length_drop, hz]; omega⟩ (by dsimp only; omega) ⟨rfl, rfl, rfl, rfl, trivial⟩
  · obtain rfl : k = M.length := by omega
    have hzn : zs = [] := List.eq_nil_of_length_eq_zero (by rw [hz]; omega)
    rw [hzn, List.append_nil, List.take_length]
    refine V_seq ?_; refine V_region (id := 4) ?_; refine vo_step (ok_lss rfl rfl rfl rfl (decide_eq_false (by omega))) rfl ?_; refine vo_nil ?_; refine N_seq ?_; refine V_seq ?_; refine V_false rfl ?_; refine V_exit ?_; refine X_then ?_; refine X_then ?_; refine X_here ?_; refine N_seq ?_; refine V_seq ?_; refine V_region (id := 8) ?_; refine vo_step2 (ok_moveO (.inl rfl) rfl rfl rfl rfl) ?_; refine vo_step2 (ok_moveO (.inr rfl) rfl rfl rfl rfl) ?_; refine vo_nil ?_; refine N_seq ?_
    exact V_retO rfl (fun _ _ h => h) Since.refl rfl
end Go.V.L6
/- The walks of sets (chapter 6): what is asked of a set. -/
namespace Go.V.L6
open Go.Proofs Go.RowKit Go.V Go.V.L2 Go.V.L3
attribute [local irreducible] V N X VO Par StepOK Has Ret RetL RetO Src
theorem SetV.trees {l : List U} {v : Value} {B : Heap} (hv : SetV l v B) : ∃ f p k q t u, v = .agg #[f, .pointer p, k, .pointer q] ∧ TS l t u ∧ UT.TA t (.pointer p) B ∧ UT.TA u (.pointer q) B := by
  obtain ⟨p, q, t, u, hT, ht, hu, rfl | ⟨rfl, rfl, rfl, rfl⟩⟩ := hv
  · exact ⟨_, _, _, _, t, u, rfl, hT, ht, hu⟩
  · exact ⟨_, _, _, _, t, u, rfl, hT, ht, hu⟩
theorem slistO {l : List U} (hl : l.length ≤ 100000) {v : Value} {w : World} {B : Heap} (hB : B.Le (hp w)) (hv : SetV l v B) : RetO Try.prog 32 [v] w B (SlE tyU 6 l.length (l.flatMap ucs)) := by
  obtain ⟨f, p, k, q, t, u, rfl, hT, ht, hu⟩ := hv.trees
  have hts := hT.size
  have hr : kS (UT.rangeL t 0 (l.length : Int)) = l := by
    have := rangeL_nat (t := t) (r := 0) (k := l.length) (by omega)
    rw [show ((0 : Nat) : Int) = 0 from rfl] at this
    rw [this, hT.kt, List.drop_zero, List.take_length]
  refine V_enterO Try.func32 rfl Try.ntmps32 (Nat.le_of_ble_eq_true rfl) hB ?_
  refine V_seq ?_; refine V_region (id := 0) ?_; refine vo_step (ok_box rfl rfl rfl rfl) rfl ?_; refine vo_step (ok_assign rfl rfl rfl) rfl ?_; refine vo_nil ?_; refine N_seq ?_; refine V_seq ?_; refine V_regionD (id := 1) [(2, [7])] mixed (by kernel_rfl) ?_; refine par_step (ok_fieldAt L rfl rfl rfl rfl) rfl ?_; refine par_step (ok_loadA L (vs := [_, _]) (src_at rfl) rfl rfl rfl rfl ⟨_, rfl⟩) rfl ?_; refine par_step (ok_loadA L (vs := [_, _, _, _]) (src_at rfl) rfl rfl rfl rfl ⟨_, rfl⟩) rfl ?_; refine par_step (ok_callx L rfl rfl (blt_lt rfl) rfl rfl rfl (fun u H hH hle _ => slen_ret rfl hH (hv.le hle))) rfl ?_; refine par_step (ok_callO L rfl rfl (blt_lt rfl) rfl rfl rfl (fun u H hH hle _ => ilist_retO hr (by omega) hH (ht.le hle))) rfl ?_; refine par_step2 (ok_moveO (.inr rfl) rfl rfl rfl rfl) rfl rfl ?_; refine par_nil ?_; refine N_seq ?_
  exact V_retO rfl (fun _ _ h => h) Since.refl rfl
end Go.V.L6
/- The kit: what is owned is clipped: no room is left behind it. -/
namespace Go.V
open Go.RowKit
/-- An owned slice without spare capacity; its block may be longer. -/
def SlC (e : TypeId) (s n : Nat) (xs : List Value) : Res where
  P x _ u C := xs.length = n * s ∧ ((n = 0 ∧ x = .slice none 0 0 ∧ ∀ k, ¬ C k) ∨ ∃ b rest, x = .slice (some ⟨b, 0, none⟩) n n ∧ u.heap[b]? = some (.cells (xs ++ rest).toArray e) ∧ n ≤ maxLen ∧ ∀ k, C k ↔ k = b)
  st := fun ⟨hl, h⟩ _ _ _ hk => ⟨hl, by
    rcases h with h | ⟨b, rest, h1, h2, h3, h4⟩
    · exact .inl h
    · exact .inr ⟨b, rest, h1, (hk b ((h4 b).2 rfl)).trans h2, h3, h4⟩⟩
section
variable {P : Program} {F : Fr} {B : Heap} {O : Boxes} {n : Nat} {ops : Array Oper} {κ : Kap} {d : Nat} {ty : TypeId} {pos : String} {aft : Array Edge} {g : Option (Nat × Bool)} {a : Act} {u : World} {Q : Exit → Act → World → Prop}
theorem SlC.shape {e : TypeId} {s m : Nat} {xs : List Value} : ∀ v H u C, (SlC e s m xs).P v H u C → ∃ p, v = .slice p m m := fun v _ _ _ ⟨_, h⟩ => by
  rcases h with ⟨h0, h, _⟩ | ⟨b, rest, h, _⟩
  · subst h0; exact ⟨none, h⟩
  · exact ⟨_, h⟩
end
end Go.V
/- The walks of sets (chapter 6): what a filter takes of a set. -/
namespace Go.V.L6
open Go.Proofs Go.RowKit Go.V Go.V.L2 Go.V.L3
attribute [local irreducible] V N X VO Par StepOK Has Ret RetL RetO RetT Src
end Go.V.L6
/- slices.Compact at goals. -/
namespace Go.V.L6
open Go.Proofs Go.RowKit Go.V Go.V.L2
attribute [local irreducible] V N X VO Par StepOK Has Ret RetL RetO Src
end Go.V.L6
/- The walks of sets (chapter 6): goals, equality, sets of lists. -/
namespace Go.V.L6
open Go.Proofs Go.RowKit Go.V Go.V.L2 Go.V.L3
theorem LE2.out {φ : Value → Heap → Prop} {a v : Value} {H : Heap} (h : TupS [φ, fun v _ => v = a] v H) : ∃ tv, v = .tuple #[tv, a] ∧ φ tv H := by
  obtain ⟨vs, rfl, hl, h⟩ := h
  match vs, hl with
  | [x, y], _ =>
    have h1 := h 0 _ x rfl rfl
    have h2 := h 1 _ y rfl rfl
    subst h2
    exact ⟨x, rfl, h1⟩
def WithP (l : List U) (e : Int) (r : Value) (H : Heap) : Prop := ∃ tv, r = .tuple #[tv, .int .i64 e] ∧ SetV l tv H
theorem WithP.mono {l : List U} {e : Int} : Kn.mono (.sat (WithP l e)) := fun _ _ _ ⟨tv, h1, h2⟩ hle => ⟨tv, h1, h2.le hle⟩
theorem slist_ret {l : List U} (hl : l.length ≤ 100000) {v : Value} {w : World} {B : Heap} (hB : B.Le (hp w)) (hv : SetV l v B) : Ret Try.prog 32 [v] w B (US l true) := (slistO hl hB hv).toRet lend_SlE
theorem with_p {l m : List U} {x : U} {d : Bool} {e : Int} (hr : withU l x d = (m, e)) (hl : l.length ≤ 4096) (hz : TZ x) {v : Value} {w : World} {B : Heap} (hB : B.Le (hp w)) (hv : SetV l v B) :
    Ret Try.prog 63 [v, chv x d] w B (WithP m e) := (with_ret hr hl hz hB hv).mono fun _ _ _ h => LE2.out h
attribute [local irreducible] V N X VO Par StepOK Has Ret RetL RetO RetT Src
set_option maxHeartbeats 2000000 in
theorem sof_ret {l m : List U} {fu : Bool} {e : Int} (hr : ofU [] l = (m, e)) (hl : l.length ≤ 100000) (hz : ∀ t ∈ l, TZ t) {v : Value} {w : World} {B : Heap} (hB : B.Le (hp w)) (hv : US l fu v B) :
    Ret Try.prog 58 [v] w B (WithP m e) := by
  refine V_enter Try.func58 rfl Try.ntmps58 (Nat.le_of_ble_eq_true rfl) hB ?_
  refine V_seen 0 (US l fu) rfl SlV.mono hv ?_
  refine V_seq ?_; refine V_region (id := 0) ?_; refine vo_step (ok_alloc L rfl rfl rfl rfl) rfl ?_; refine vo_step (ok_assign rfl rfl rfl) rfl ?_; refine vo_nil ?_; refine N_seq ?_; refine V_seq ?_; refine V_region (id := 1) ?_; refine vo_step (ok_alloc L rfl rfl rfl rfl) rfl ?_; refine vo_nil ?_; refine N_seq ?_; refine V_seq ?_; refine V_seq ?_; refine V_region (id := 2) ?_; refine vo_step (ok_moves' rfl rfl rfl) rfl ?_; refine vo_step (ok_lenV L rfl rfl rfl rfl) rfl ?_; refine vo_step (ok_move rfl rfl rfl) rfl ?_; refine vo_nil ?_; refine N_seq ?_; refine V_block ?_
  refine V_clsX (X := SXp) 4 (r := fun x => Cell (scs x.1) tySet) (φ := sphi []) (sphi_mono []) ⟨(.nilFunc, none, .nilFunc, none), rfl⟩ SetV.nil rfl ?_
  refine V_loop (fun y : Nat × List U => [(2, .own (Cell [.nilFunc, .pointer none, .nilFunc, .pointer none] tySet)), (4, .own (ExR (fun x : SXp => Cell (scs x.1) tySet) (sphi y.2) (sphi_mono y.2))), (9, .sat (US l fu)), (10, .is (.int .i64 l.length)), (11, .is (.int .i64 y.1))])
    (fun y => y.1 ≤ l.length ∧ ofU y.2 (l.drop y.1) = (m, e) ∧ y.2.length ≤ 4096) (fun y => l.length - y.1) (0, []) ⟨Nat.zero_le _, hr, Nat.zero_le _⟩ ⟨rfl, rfl, rfl, rfl, rfl, trivial⟩ ?_
  rintro ⟨k, s⟩ ⟨hk, he, hsl⟩
  dsimp only at hk he hsl ⊢
  refine V_opnX 4 rfl fun ⟨⟨f1, p1, f2, q1⟩, hpl⟩ H3 hs3 hT => ?_
  have hT : SetV s (.agg #[f1, .pointer p1, f2, .pointer q1]) H3 := hT
  by_cases hlt : k < l.length
  · obtain ⟨t, ht⟩ := get_some hlt
    have hc := us_at ht
    have hzt := hz t (List.mem_of_getElem? ht)
    rw [drop_g ht, ofU] at he
    rcases hw : withU s t false with ⟨s', e'⟩
    rw [hw] at he
    dsimp only at he
    have hsl' := withU_len hsl t false
    rw [hw] at hsl'
    by_cases h0 : e' = 0
    · rw [if_pos h0] at he
      subst h0
      refine V_seq ?_; refine V_region (id := 3) ?_; refine vo_step (ok_lss rfl rfl rfl rfl (decide_eq_true (by omega))) rfl ?_; refine vo_nil ?_; refine N_seq ?_; refine V_seq ?_; refine V_true rfl ?_; refine V_skip ?_; refine N_seq ?_; refine V_seq ?_; refine V_block ?_; refine V_seq ?_; refine V_region (id := 4) ?_; refine vo_step (ok_indexV L _ rfl rfl rfl rfl rfl rfl rfl (by first | omega | decide) (by assumption)) rfl ?_; refine vo_step (ok_loadPA L (vs := [_, _, _, _, _, _]) rfl rfl rfl rfl rfl ⟨_, rfl⟩) rfl ?_; refine vo_step (ok_alloc L rfl rfl rfl rfl) rfl ?_; refine vo_step (ok_store L rfl rfl rfl rfl rfl rfl rfl rfl) rfl ?_; refine vo_nil ?_; refine N_seq ?_; refine V_seq ?_; refine V_region (id := 5) ?_; refine vo_step (ok_loadA L (vs := [_, _, _, _]) (src_own rfl) rfl rfl rfl rfl ⟨_, rfl⟩) rfl ?_; refine vo_step (ok_loadA L (vs := [_, _, _, _, _, _]) (src_own rfl) rfl rfl rfl rfl ⟨_, rfl⟩) rfl ?_; refine vo_step (ok_build (cs := [_, _, _, _, _, _, _]) rfl rfl pl67 rfl rfl) rfl ?_; refine vo_step (ok_call (φ := WithP s' 0) L rfl rfl (blt_lt rfl) rfl rfl rfl WithP.mono (fun u H hH hle _ => with_p hw hsl hzt hH (hT.le hle))) rfl ?_; refine vo_opn 19 rfl ?_; rintro _ H19 hs19 ⟨tv, rfl, hT19⟩; obtain ⟨g1, r1, g2, r2, rfl, hpl2⟩ := hT19.shape; refine vo_step (ok_move rfl rfl rfl) rfl ?_; refine vo_step (ok_extract rfl rfl rfl rfl) rfl ?_; refine vo_step (ok_extract rfl rfl rfl rfl) rfl ?_; refine vo_step (ok_alloc L rfl rfl rfl rfl) rfl ?_; refine vo_step (ok_store L rfl rfl rfl rfl rfl rfl (by assumption) rfl) rfl ?_; refine vo_step (ok_assign rfl rfl rfl) rfl ?_; refine vo_nil ?_; refine N_seq ?_; refine V_seq ?_; refine V_seq ?_; refine V_region (id := 6) ?_; refine vo_step (ok_move rfl rfl rfl) rfl ?_; refine vo_step (ok_neq rfl rfl rfl rfl (decide_eq_false (by omega))) rfl ?_; refine vo_nil ?_; refine N_seq ?_; refine V_false rfl ?_; refine V_skip ?_; refine N_seq ?_; refine V_region (id := 8) ?_; refine vo_step (ok_loadA L (vs := [_, _, _, _]) (src_own rfl) rfl rfl rfl rfl ⟨_, rfl⟩) rfl ?_; refine vo_step (ok_store L rfl rfl rfl rfl rfl rfl (by assumption) rfl) rfl ?_; refine vo_nil ?_; refine N_block ?_; refine N_seq ?_; refine V_region (id := 9) ?_; refine vo_step (ok_add rfl rfl rfl rfl (wrap_i64 (by omega) (by omega))) rfl ?_; refine vo_step (ok_move rfl rfl rfl) rfl ?_; refine vo_nil ?_
      refine N_clsX (X := SXp) 4 (r := fun x => Cell (scs x.1) tySet) (φ := sphi s') (sphi_mono _) ⟨(g1, r1, g2, r2), hpl2⟩ hT19 rfl ?_
      exact N_roundS (x := (k, s)) (k + 1, s') (hs3.trans hs19) ⟨hlt, he, hsl'⟩ (by dsimp only; omega) ⟨rfl, rfl, rfl, rfl, rfl, trivial⟩
    · rw [if_neg h0] at he
      cases he
      refine V_seq ?_; refine V_region (id := 3) ?_; refine vo_step (ok_lss rfl rfl rfl rfl (decide_eq_true (by omega))) rfl ?_; refine vo_nil ?_; refine N_seq ?_; refine V_seq ?_; refine V_true rfl ?_; refine V_skip ?_; refine N_seq ?_; refine V_seq ?_; refine V_block ?_; refine V_seq ?_; refine V_region (id := 4) ?_; refine vo_step (ok_indexV L _ rfl rfl rfl rfl rfl rfl rfl (by first | omega | decide) (by assumption)) rfl ?_; refine vo_step (ok_loadPA L (vs := [_, _, _, _, _, _]) rfl rfl rfl rfl rfl ⟨_, rfl⟩) rfl ?_; refine vo_step (ok_alloc L rfl rfl rfl rfl) rfl ?_; refine vo_step (ok_store L rfl rfl rfl rfl rfl rfl rfl rfl) rfl ?_; refine vo_nil ?_; refine N_seq ?_; refine V_seq ?_; refine V_region (id := 5) ?_; refine vo_step (ok_loadA L (vs := [_, _, _, _]) (src_own rfl) rfl rfl rfl rfl ⟨_, rfl⟩) rfl ?_; refine vo_step (ok_loadA L (vs := [_, _, _, _, _, _]) (src_own rfl) rfl rfl rfl rfl ⟨_, rfl⟩) rfl ?_; refine vo_step (ok_build (cs := [_, _, _, _, _, _, _]) rfl rfl pl67 rfl rfl) rfl ?_; refine vo_step (ok_call (φ := WithP s' e) L rfl rfl (blt_lt rfl) rfl rfl rfl WithP.mono (fun u H hH hle _ => with_p hw hsl hzt hH (hT.le hle))) rfl ?_; refine vo_opn 19 rfl ?_; rintro _ H19 hs19 ⟨tv, rfl, hT19⟩; obtain ⟨g1, r1, g2, r2, rfl, hpl2⟩ := hT19.shape; refine vo_step (ok_move rfl rfl rfl) rfl ?_; refine vo_step (ok_extract rfl rfl rfl rfl) rfl ?_; refine vo_step (ok_extract rfl rfl rfl rfl) rfl ?_; refine vo_step (ok_alloc L rfl rfl rfl rfl) rfl ?_; refine vo_step (ok_store L rfl rfl rfl rfl rfl rfl (by assumption) rfl) rfl ?_; refine vo_step (ok_assign rfl rfl rfl) rfl ?_; refine vo_nil ?_; refine N_seq ?_; refine V_seq ?_; refine V_seq ?_; refine V_region (id := 6) ?_; refine vo_step (ok_move rfl rfl rfl) rfl ?_; refine vo_step (ok_neq rfl rfl rfl rfl (decide_eq_true (by omega))) rfl ?_; refine vo_nil ?_; refine N_seq ?_; refine V_true rfl ?_; refine V_seq ?_; refine V_region (id := 7) ?_; refine vo_step (ok_build (cs := [_, _, _, _]) rfl rfl pl41 rfl rfl) rfl ?_; refine vo_step (ok_move rfl rfl rfl) rfl ?_; refine vo_step (ok_store L rfl rfl rfl rfl rfl rfl rfl rfl) rfl ?_; refine vo_step (ok_assign rfl rfl rfl) rfl ?_; refine vo_nil ?_; refine N_seq ?_
      refine V_ret L (rs := [.cell 2 41, .tmp 3]) rfl (fun _ _ h => h) (hs3.trans hs19) fun u H hH hle => ?_
      exact ⟨_, src_own rfl, rfl, _, rfl, SetV.nil⟩
  · obtain rfl : k = l.length := by omega
    rw [List.drop_length, ofU] at he
    cases he
    refine V_seq ?_; refine V_region (id := 3) ?_; refine vo_step (ok_lss rfl rfl rfl rfl (decide_eq_false (by omega))) rfl ?_; refine vo_nil ?_; refine N_seq ?_; refine V_seq ?_; refine V_false rfl ?_; refine V_exit ?_; refine X_then ?_; refine X_then ?_; refine X_here ?_; refine N_seq ?_; refine V_seq ?_; refine V_region (id := 10) ?_; refine vo_step (ok_loadA L (vs := [_, _, _, _]) (src_own rfl) rfl rfl rfl rfl ⟨_, rfl⟩) rfl ?_; refine vo_step (ok_store L rfl rfl rfl rfl rfl rfl (by assumption) rfl) rfl ?_; refine vo_step (ok_assign rfl rfl rfl) rfl ?_; refine vo_nil ?_; refine N_seq ?_
    refine V_ret L (rs := [.cell 2 41, .tmp 3]) rfl (fun _ _ h => h) hs3 fun u H hH hle => ?_
    exact ⟨_, src_own rfl, rfl, _, rfl, hT.le hle⟩
end Go.V.L6
/- The walks of the definition of filters (chapter 3): errors, what is taken, prefixes, spans. -/
namespace Go.V.L3
open Go.Proofs Go.RowKit Go.V Go.V.L2
attribute [local irreducible] V N X VO Par StepOK Has Ret RetL RetO RetT Src
end Go.V.L3
/- The walks of the definition of filters (chapter 3): first fields, spans, what is selected. -/
namespace Go.V.L3
open Go.Proofs Go.RowKit Go.V Go.V.L2
attribute [local irreducible] V N X VO Par StepOK Has Ret RetL RetO RetT Src
end Go.V.L3
/- The walk of the definition of sets (chapter 6). -/
namespace Go.V.L6
open Go.Proofs Go.RowKit Go.V Go.V.L2 Go.V.L3
/-- A slice of tuples, none being known to be behind it. -/
abbrev R6 (l : List U) (e : Int) : Value → Heap → Prop := TupS [US l false, fun v _ => v = .int .i64 e]
theorem R6.mono {l : List U} {e : Int} : Kn.mono (.sat (R6 l e)) := LE2.mono SlV.mono
theorem tE_two (t : U) : tE t = 0 ∨ tE t = 6 := by
  unfold tE
  split
  · exact subjE_two _ _ _
  · rename_i h; exact .inr ((allE_two _).resolve_left h)
attribute [local irreducible] V N X VO Par StepOK Has Ret RetL RetO RetT Src
end Go.V.L6
/- The walks of the definition of tuples (chapter 2) at strings however long: compared, sorted or not. -/
namespace Go.V.L2
open Go.Proofs Go.RowKit Go.V
/-- Strings of a tuple, as long as strings can be. -/
def TM (t : U) : Prop := (t.1.1.1.size ≤ 9223372036854775807 ∧ t.1.1.2.size ≤ 9223372036854775807 ∧ t.1.2.size ≤ 9223372036854775807) ∧ t.2.1.1.size ≤ 9223372036854775807 ∧ t.2.1.2.size ≤ 9223372036854775807 ∧ t.2.2.size ≤ 9223372036854775807
attribute [local irreducible] V N X VO Par StepOK Has Ret RetL Src
end Go.V.L2
/- The kit: ranges over strings. -/
namespace Go.V
open Go.RowKit
section
variable {P : Program} {F : Fr} {B : Heap} {O : Boxes} {n : Nat} {ops : Array Oper} {κ : Kap} {d : Nat} {ty : TypeId} {pos : String} {aft : Array Edge} {g : Option (Nat × Bool)}
end
/-! ### a scope without jumps -/
section
variable {P : Program} {b : Frame} {a : Act} {k : List Item} {cs : List Frame} {w : World}
end
section
variable {P : Program} {F : Fr} {B : Heap} {O : Boxes} {n : Nat} {κ : Kap} {Q : Exit → Act → World → Prop}
end
end Go.V
/- The kit: maps of a call's own, keyed by flat structures. -/
namespace Go.V
open Go.RowKit
section
variable {P : Program}
end
/-! ### entries, plainly -/
section
variable {K V : Type} [DecidableEq K]
end
/-! ### the map's block -/
section
variable {P : Program} {K V : Type} [DecidableEq K] {kc : K → List Value} {vc : V → Value} {l : List (K × V)} {t kt et : TypeId} {ls : List Nat}
end
section
variable {P : Program} {F : Fr} {B : Heap} {O : Boxes} {n : Nat} {ops : Array Oper} {κ : Kap} {d : Nat} {ty : TypeId} {pos : String} {aft : Array Edge} {g : Option (Nat × Bool)} {a : Act} {u : World} {H : Heap} {os : List Oper} {Q : Exit → Act → World → Prop} {ex : Exs}
variable {K Y : Type} [DecidableEq K] {kc : K → List Value} {vc : Y → Value} {l : List (K × Y)}
end
end Go.V
/- The walks of musts (chapter 8): lists are checked. -/
namespace Go.V.L8
open Go.Proofs Go.RowKit Go.V Go.V.L2 Go.V.L3 Go.V.L6
abbrev tyM : TypeId := 54
abbrev tyC : TypeId := 67
abbrev tyLM : TypeId := 43
abbrev tyLC : TypeId := 65
def ccs (c : CH) : List Value := [.string c.1.1.1.1, .string c.1.1.1.2, .string c.1.1.2, .string c.1.2.1.1, .string c.1.2.1.2, .string c.1.2.2, .bool c.2]
theorem ccs_len (c : CH) : (ccs c).length = 7 := rfl
/-- A list of musts or changes that is seen. -/
abbrev KS (ty : TypeId) (l : List CH) (fu : Bool) : Value → Heap → Prop := SlV ty 7 (l.flatMap ccs) l.length fu
theorem ks_at {l : List CH} {i : Nat} {c : CH} (h : l[i]? = some c) : ((l.flatMap ccs).drop (i * 7)).take 7 = [.string c.1.1.1.1, .string c.1.1.1.2, .string c.1.1.2, .string c.1.2.1.1, .string c.1.2.1.2, .string c.1.2.2, .bool c.2] := flatMap_at ccs_len l i c h
theorem ks_snoc {ty : TypeId} {κ : Kap} {s : Nat} {r : List CH} {c : CH} (h : κ s = some (.own (SlR ty 7 (r.length + 1) (r.flatMap ccs ++ [.string c.1.1.1.1, .string c.1.1.1.2, .string c.1.1.2, .string c.1.2.1.1, .string c.1.2.1.2, .string c.1.2.2, .bool c.2])))) : κ s = some (.own (SlR ty 7 (r ++ [c]).length ((r ++ [c]).flatMap ccs))) := by
  rw [h, List.flatMap_append, List.length_append]; rfl
theorem cE_no {n : Nat} {l : List CH} (hl : ¬ n < l.length) {i : Nat} {c : CH} (hc : l[i]? = some c) (h : ¬ tE c.1 = 0) : cE n l = 6 := by
  unfold cE
  rw [if_neg hl, if_pos]
  rw [List.any_eq_true]
  exact ⟨c, List.mem_of_getElem? hc, by simp [h]⟩
theorem cE_yes {n : Nat} {l : List CH} (hl : ¬ n < l.length) (h : ∀ (j : Nat) c, l[j]? = some c → tE c.1 = 0) : cE n l = 0 := by
  unfold cE
  rw [if_neg hl, if_neg]
  rw [List.any_eq_true]
  rintro ⟨c, hc, h1⟩
  obtain ⟨j, hj⟩ := List.getElem?_of_mem hc
  rw [decide_eq_true (h j c hj)] at h1
  cases h1
attribute [local irreducible] V N X VO Par StepOK Has Ret RetL RetO RetT Src
theorem tcheckM {t : U} (hz : TM t) {w : World} {B : Heap} (hB : B.Le (hp w)) : Ret Try.prog 60 [uv t] w B (fun v _ => v = .int .i64 (tE t)) := by
  obtain ⟨⟨z1, z2, z3⟩, z4, z5, z6⟩ := hz
  unfold tE
  refine V_enter Try.func60 rfl Try.ntmps60 (Nat.le_of_ble_eq_true rfl) hB ?_
  by_cases h : allE [t.1.1.1, t.1.1.2, t.1.2] = 0
  · rw [if_pos h]
    refine V_seq ?_; refine V_region (id := 0) ?_; refine vo_step (ok_box rfl rfl rfl rfl) rfl ?_; refine vo_step (ok_assign rfl rfl rfl) rfl ?_; refine vo_nil ?_; refine N_seq ?_; refine V_seq ?_; refine V_seq ?_; refine V_region (id := 1) ?_; refine vo_step (ok_fieldAt L rfl rfl rfl rfl) rfl ?_; refine vo_step (ok_loadA L (vs := [_, _, _]) (src_at rfl) rfl rfl rfl rfl ⟨_, rfl⟩) rfl ?_; refine vo_step (ok_callx L rfl rfl (blt_lt rfl) rfl rfl rfl (fun u H hH _ _ => goal_ret (by first | assumption | omega | decide) (by first | assumption | omega | decide) (by first | assumption | omega | decide) hH)) rfl ?_; refine vo_step (ok_assign rfl rfl rfl) rfl ?_; refine vo_nil ?_; refine N_seq ?_; refine V_seq ?_; refine V_region (id := 2) ?_; refine vo_step (ok_move rfl rfl rfl) rfl ?_; refine vo_step (ok_neq rfl rfl rfl rfl (decide_eq_false (by omega))) rfl ?_; refine vo_nil ?_; refine N_seq ?_; refine V_false rfl ?_; refine V_skip ?_; refine N_seq ?_; refine V_seq ?_; refine V_region (id := 4) ?_; refine vo_step (ok_fieldAt L rfl rfl rfl rfl) rfl ?_; refine vo_step (ok_loadA L (vs := [_, _, _]) (src_at rfl) rfl rfl rfl rfl ⟨_, rfl⟩) rfl ?_; refine vo_step (ok_callx L rfl rfl (blt_lt rfl) rfl rfl rfl (fun u H hH _ _ => subject_ret (by first | assumption | omega | decide) (by first | assumption | omega | decide) (by first | assumption | omega | decide) hH)) rfl ?_; refine vo_step (ok_assign rfl rfl rfl) rfl ?_; refine vo_nil ?_; refine N_seq ?_
    refine V_ret L (rs := [.tmp 2]) rfl (fun _ _ h => h) Since.refl fun u H hH hle => ?_
    rfl
  · rw [if_neg h]
    refine V_seq ?_; refine V_region (id := 0) ?_; refine vo_step (ok_box rfl rfl rfl rfl) rfl ?_; refine vo_step (ok_assign rfl rfl rfl) rfl ?_; refine vo_nil ?_; refine N_seq ?_; refine V_seq ?_; refine V_seq ?_; refine V_region (id := 1) ?_; refine vo_step (ok_fieldAt L rfl rfl rfl rfl) rfl ?_; refine vo_step (ok_loadA L (vs := [_, _, _]) (src_at rfl) rfl rfl rfl rfl ⟨_, rfl⟩) rfl ?_; refine vo_step (ok_callx L rfl rfl (blt_lt rfl) rfl rfl rfl (fun u H hH _ _ => goal_ret (by first | assumption | omega | decide) (by first | assumption | omega | decide) (by first | assumption | omega | decide) hH)) rfl ?_; refine vo_step (ok_assign rfl rfl rfl) rfl ?_; refine vo_nil ?_; refine N_seq ?_; refine V_seq ?_; refine V_region (id := 2) ?_; refine vo_step (ok_move rfl rfl rfl) rfl ?_; refine vo_step (ok_neq rfl rfl rfl rfl (decide_eq_true (by omega))) rfl ?_; refine vo_nil ?_; refine N_seq ?_; refine V_true rfl ?_; refine V_seq ?_; refine V_region (id := 3) ?_; refine vo_step (ok_move rfl rfl rfl) rfl ?_; refine vo_step (ok_assign rfl rfl rfl) rfl ?_; refine vo_nil ?_; refine N_seq ?_
    refine V_ret L (rs := [.tmp 2]) rfl (fun _ _ h => h) Since.refl fun u H hH hle => ?_
    rfl
theorem mcl_ret {l : List CH} {fu : Bool} {b i : Nat} {c : CH} (hc0 : l[i]? = some c) {v : Value} {w : World} {B : Heap} (hB : B.Le (hp w)) (hb : B b = some (.cells #[v] tyLM)) (hv : KS tyM l fu v B) :
    Ret Try.prog 67 ([.int .i64 i] ++ [.pointer (some ⟨b, 0, none⟩)]) w B (fun r _ => r = uv c.1) := by
  have hc := ks_at hc0
  have hil := get_lt hc0
  refine V_enter Try.func67 rfl Try.ntmps67 (Nat.le_of_ble_eq_true rfl) hB ?_
  refine V_seq ?_; refine V_region (id := 0) ?_; refine vo_step (ok_alloc L rfl rfl rfl rfl) rfl ?_; refine vo_nil ?_; refine N_seq ?_; refine V_seq ?_; refine V_region (id := 1) ?_; refine vo_step (ok_load1 L (src_base rfl (by assumption)) rfl rfl rfl rfl) rfl ?_; refine vo_seen 4 (KS tyM l fu) rfl SlV.mono hv ?_; refine vo_step (ok_move rfl rfl rfl) rfl ?_; refine vo_step (ok_indexV L _ rfl rfl rfl rfl rfl rfl rfl (by first | omega | decide) (by assumption)) rfl ?_; refine vo_step (ok_fieldAP L rfl rfl rfl rfl) rfl ?_; refine vo_step (ok_loadPA L (vs := [_, _, _, _, _, _]) rfl rfl rfl rfl rfl ⟨_, rfl⟩) rfl ?_; refine vo_step (ok_store L rfl rfl rfl rfl rfl rfl rfl rfl) rfl ?_; refine vo_nil ?_; refine N_seq ?_
  refine V_ret L (rs := [.cell 3 52]) rfl (fun _ _ h => h) Since.refl fun u H hH hle => ?_
  refine resK_cellA (src_own rfl) rfl rfl ?_
  rfl
theorem mcheck_ret {l : List CH} {cf : Nat} {caps : List Value} (hz : ∀ c ∈ l, TM c.1) (hl : l.length ≤ 9223372036854775807) (hfn : L.fn cf = some ()) {e : Int} (he : cE 32 l = e) {w : World} {B : Heap} (hB : B.Le (hp w))
    (hcl : ∀ (i : Nat) (c : CH), l[i]? = some c → ∀ (u : World) (H : Heap), H.Le (hp u) → B.Le H → Ret Try.prog cf ([.int .i64 i] ++ caps) u H (fun r _ => r = uv c.1)) :
    Ret Try.prog 66 [.int .i64 l.length, .func (.func cf) #[] caps.toArray] w B (fun v _ => v = .int .i64 e) := by
  subst he
  refine V_enter Try.func66 rfl Try.ntmps66 (Nat.le_of_ble_eq_true rfl) hB ?_
  by_cases h32 : 32 < l.length
  · have : cE 32 l = 3 := if_pos h32
    rw [this]
    refine V_seq ?_; refine V_region (id := 0) ?_; refine vo_step (ok_assign rfl rfl rfl) rfl ?_; refine vo_nil ?_; refine N_seq ?_; refine V_seq ?_; refine V_seq ?_; refine V_region (id := 1) ?_; refine vo_step (ok_move rfl rfl rfl) rfl ?_; refine vo_step (ok_gtr rfl rfl rfl rfl (decide_eq_true (by omega))) rfl ?_; refine vo_nil ?_; refine N_seq ?_; refine V_true rfl ?_; refine V_seq ?_; refine V_region (id := 2) ?_; refine vo_step (ok_assign rfl rfl rfl) rfl ?_; refine vo_nil ?_; refine N_seq ?_
    refine V_ret L (rs := [.tmp 4]) rfl (fun _ _ h => h) Since.refl fun u H hH hle => ?_
    rfl
  · refine V_seq ?_; refine V_region (id := 0) ?_; refine vo_step (ok_assign rfl rfl rfl) rfl ?_; refine vo_nil ?_; refine N_seq ?_; refine V_seq ?_; refine V_seq ?_; refine V_region (id := 1) ?_; refine vo_step (ok_move rfl rfl rfl) rfl ?_; refine vo_step (ok_gtr rfl rfl rfl rfl (decide_eq_false (by omega))) rfl ?_; refine vo_nil ?_; refine N_seq ?_; refine V_false rfl ?_; refine V_skip ?_; refine N_seq ?_; refine V_seq ?_; refine V_seq ?_; refine V_region (id := 3) ?_; refine vo_step (ok_move rfl rfl rfl) rfl ?_; refine vo_step (ok_move rfl rfl rfl) rfl ?_; refine vo_nil ?_; refine N_seq ?_; refine V_block ?_
    refine V_loop (fun i : Nat => [(1, .is (.func (.func cf) #[] caps.toArray)), (9, .is (.int .i64 l.length)), (10, .is (.int .i64 i))]) (fun i => i ≤ l.length ∧ ∀ (j : Nat) c, j < i → l[j]? = some c → tE c.1 = 0) (fun i => l.length - i) 0 ⟨Nat.zero_le _, fun j c h => absurd h (Nat.not_lt_zero _)⟩ ⟨rfl, rfl, rfl, trivial⟩ ?_
    rintro i ⟨hi, hok⟩
    by_cases hlt : i < l.length
    · obtain ⟨c, hc⟩ := get_some hlt
      have hzc := hz c (List.mem_of_getElem? hc)
      by_cases h0 : tE c.1 = 0
      · refine V_seq ?_; refine V_region (id := 4) ?_; refine vo_step (ok_lss rfl rfl rfl rfl (decide_eq_true (by omega))) rfl ?_; refine vo_nil ?_; refine N_seq ?_; refine V_seq ?_; refine V_true rfl ?_; refine V_skip ?_; refine N_seq ?_; refine V_seq ?_; refine V_block ?_; refine V_seq ?_; refine V_region (id := 5) ?_; refine vo_step (ok_move rfl rfl rfl) rfl ?_; refine vo_step (ok_assign rfl rfl rfl) rfl ?_; refine vo_nil ?_; refine N_seq ?_; refine V_seq ?_; refine V_region (id := 6) ?_; refine vo_step (ok_move rfl rfl rfl) rfl ?_; refine vo_step (ok_move rfl rfl rfl) rfl ?_; refine vo_step (ok_callx L rfl rfl (blt_lt rfl) rfl rfl hfn (fun u H hH hle _ => hcl i c hc u H hH hle)) rfl ?_; refine vo_step (ok_callx L rfl rfl (blt_lt rfl) rfl rfl rfl (fun u H hH _ _ => h0 ▸ tcheckM hzc hH)) rfl ?_; refine vo_step (ok_assign rfl rfl rfl) rfl ?_; refine vo_nil ?_; refine N_seq ?_; refine V_seq ?_; refine V_region (id := 7) ?_; refine vo_step (ok_move rfl rfl rfl) rfl ?_; refine vo_step (ok_neq rfl rfl rfl rfl (decide_eq_false (by omega))) rfl ?_; refine vo_nil ?_; refine N_seq ?_; refine V_false rfl ?_; refine V_skip ?_; refine N_block ?_; refine N_seq ?_; refine V_region (id := 9) ?_; refine vo_step (ok_add rfl rfl rfl rfl (wrap_i64 (by omega) (by omega))) rfl ?_; refine vo_step (ok_move rfl rfl rfl) rfl ?_; refine vo_nil ?_
        exact N_round (x := i) (i + 1) ⟨hlt, fun j c' hj hc' => by
          rcases Nat.lt_or_ge j i with h | h
          · exact hok j c' h hc'
          · have : j = i := by omega
            subst this; rw [hc] at hc'; cases hc'; exact h0⟩ (by omega) ⟨rfl, rfl, rfl, trivial⟩
      · have h6 := (tE_two c.1).resolve_left h0
        rw [cE_no h32 hc h0]
        refine V_seq ?_; refine V_region (id := 4) ?_; refine vo_step (ok_lss rfl rfl rfl rfl (decide_eq_true (by omega))) rfl ?_; refine vo_nil ?_; refine N_seq ?_; refine V_seq ?_; refine V_true rfl ?_; refine V_skip ?_; refine N_seq ?_; refine V_seq ?_; refine V_block ?_; refine V_seq ?_; refine V_region (id := 5) ?_; refine vo_step (ok_move rfl rfl rfl) rfl ?_; refine vo_step (ok_assign rfl rfl rfl) rfl ?_; refine vo_nil ?_; refine N_seq ?_; refine V_seq ?_; refine V_region (id := 6) ?_; refine vo_step (ok_move rfl rfl rfl) rfl ?_; refine vo_step (ok_move rfl rfl rfl) rfl ?_; refine vo_step (ok_callx L rfl rfl (blt_lt rfl) rfl rfl hfn (fun u H hH hle _ => hcl i c hc u H hH hle)) rfl ?_; refine vo_step (ok_callx L rfl rfl (blt_lt rfl) rfl rfl rfl (fun u H hH _ _ => h6 ▸ tcheckM hzc hH)) rfl ?_; refine vo_step (ok_assign rfl rfl rfl) rfl ?_; refine vo_nil ?_; refine N_seq ?_; refine V_seq ?_; refine V_region (id := 7) ?_; refine vo_step (ok_move rfl rfl rfl) rfl ?_; refine vo_step (ok_neq rfl rfl rfl rfl (decide_eq_true (by omega))) rfl ?_; refine vo_nil ?_; refine N_seq ?_; refine V_true rfl ?_; refine V_seq ?_; refine V_region (id := 8) ?_; refine vo_step (ok_move rfl rfl rfl) rfl ?_; refine vo_step (ok_assign rfl rfl rfl) rfl ?_; refine vo_nil ?_; refine N_seq ?_
        refine V_ret L (rs := [.tmp 4]) rfl (fun _ _ h => h) Since.refl fun u H hH hle => ?_
        rfl
    · rw [cE_yes h32 (fun j c hj => hok j c (by have := get_lt hj; omega) hj)]
      refine V_seq ?_; refine V_region (id := 4) ?_; refine vo_step (ok_lss rfl rfl rfl rfl (decide_eq_false (by omega))) rfl ?_; refine vo_nil ?_; refine N_seq ?_; refine V_seq ?_; refine V_false rfl ?_; refine V_exit ?_; refine X_then ?_; refine X_then ?_; refine X_here ?_; refine N_seq ?_; refine V_seq ?_; refine V_region (id := 10) ?_; refine vo_step (ok_assign rfl rfl rfl) rfl ?_; refine vo_nil ?_; refine N_seq ?_
      refine V_ret L (rs := [.tmp 4]) rfl (fun _ _ h => h) Since.refl fun u H hH hle => ?_
      rfl
theorem slv_shape {e : TypeId} {s n : Nat} {xs : List Value} {fu : Bool} {v : Value} {H : Heap} (h : SlV e s xs n fu v H) : ∃ p m c, v = .slice p m c := by
  rcases h.2 with ⟨_, h⟩ | ⟨b, off, cap, cs, ty0, fr, h, _⟩
  · exact ⟨_, _, _, h⟩
  · exact ⟨_, _, _, h⟩
theorem mchk_ret {l : List CH} {fu : Bool} (hz : ∀ c ∈ l, TM c.1) (hl : l.length ≤ 9223372036854775807) {e : Int} (he : cE 32 l = e) {v : Value} {w : World} {B : Heap} (hB : B.Le (hp w)) (hv : KS tyM l fu v B) :
    Ret Try.prog 27 [v] w B (fun r _ => r = .int .i64 e) := by
  obtain ⟨p, m, c, rfl⟩ := slv_shape hv
  refine V_enter Try.func27 rfl Try.ntmps27 (Nat.le_of_ble_eq_true rfl) hB ?_
  refine V_seq ?_; refine V_region (id := 0) ?_; refine vo_step (ok_box rfl rfl rfl rfl) rfl ?_; refine vo_step (ok_assign rfl rfl rfl) rfl ?_; refine vo_nil ?_; refine N_seq ?_; refine V_seq ?_
  refine V_opn 1 rfl fun q H1 hs1 ⟨b, hpb, hb1⟩ => ?_
  subst hpb
  refine V_region (id := 1) ?_; refine vo_step (ok_load1 L (src_base rfl (by assumption)) rfl rfl rfl rfl) rfl ?_; refine vo_seen 3 (KS tyM l fu) rfl SlV.mono (hv.le hs1.le) ?_; refine vo_step (ok_lenV L rfl rfl rfl rfl) rfl ?_; refine vo_step (ok_makeFunc rfl rfl rfl rfl) rfl ?_; refine vo_step (ok_callx L rfl rfl (blt_lt rfl) rfl rfl rfl (fun u H hH hle _ => mcheck_ret (caps := [.pointer (some ⟨b, 0, none⟩)]) hz hl rfl he hH (fun i c hc u' H' hH' hle' => mcl_ret hc hH' (hle' _ _ (hle _ _ hb1)) ((hv.le hs1.le).le (Heap.Le.trans hle hle'))))) rfl ?_; refine vo_step (ok_assign rfl rfl rfl) rfl ?_; refine vo_nil ?_; refine N_seq ?_
  refine V_ret L (rs := [.tmp 2]) rfl (fun _ _ h => h) hs1 fun u H hH hle => ?_
  rfl
end Go.V.L8
/- Stable sorting: plain laws. -/
namespace Go.V
open Go.Proofs Go.RowKit
section
variable {α β : Type} [DecidableEq α] [DecidableEq β] {k : α → β} {c : β → β → Int}
/-- The same up to the order of what differs in its keys. -/
def Eqv (k : α → β) (S S' : List α) : Prop := ∀ t, S'.filter (fun x => decide (k x = t)) = S.filter (fun x => decide (k x = t))
/-- Sorted by keys. -/
def Srt (k : α → β) (c : β → β → Int) (l : List α) : Prop := l.Pairwise fun x y => ¬ c (k y) (k x) < 0
/-- Sorted, equal keys in their old order. -/
def Stb (k : α → β) (c : β → β → Int) (S S' : List α) : Prop := Srt k c S' ∧ Eqv k S S'
omit [DecidableEq α] in
theorem Eqv.refl (S : List α) : Eqv k S S := fun _ => rfl
omit [DecidableEq α] in
theorem Eqv.trans {A B C : List α} (h1 : Eqv k A B) (h2 : Eqv k B C) : Eqv k A C := fun t => (h2 t).trans (h1 t)
omit [DecidableEq α] in
theorem Eqv.app {A A' B B' : List α} (h1 : Eqv k A A') (h2 : Eqv k B B') : Eqv k (A ++ B) (A' ++ B') := fun t => by rw [List.filter_append, List.filter_append, h1 t, h2 t]
omit [DecidableEq α] in
theorem Eqv.swap {A B : List α} (h : ∀ a ∈ A, ∀ b ∈ B, k a ≠ k b) : Eqv k (A ++ B) (B ++ A) := fun t => by
  rw [List.filter_append, List.filter_append]
  by_cases ha : ∃ a ∈ A, k a = t
  · obtain ⟨a, ha, rfl⟩ := ha
    have : B.filter (fun x => decide (k x = k a)) = [] := List.filter_eq_nil_iff.2 fun b hb e => h a ha b hb (by simpa using e : k b = k a).symm
    rw [this, List.append_nil, List.nil_append]
  · have : A.filter (fun x => decide (k x = t)) = [] := List.filter_eq_nil_iff.2 fun a h1 e => ha ⟨a, h1, by simpa using e⟩
    rw [this, List.append_nil, List.nil_append]
theorem Eqv.count {S S' : List α} (h : Eqv k S S') (x : α) : S'.count x = S.count x := by
  have e : ∀ l : List α, (l.filter fun y => decide (k y = k x)).count x = l.count x := fun l => List.count_filter (by simp)
  rw [← e S', ← e S, h (k x)]
theorem Eqv.perm {S S' : List α} (h : Eqv k S S') : S'.Perm S := List.perm_iff_count.2 fun x => h.count x
theorem Eqv.length {S S' : List α} (h : Eqv k S S') : S'.length = S.length := h.perm.length_eq
theorem Eqv.mem {S S' : List α} (h : Eqv k S S') {x : α} : x ∈ S' ↔ x ∈ S := h.perm.mem_iff
omit [DecidableEq α] [DecidableEq β] in
theorem srt_app {A B : List α} : Srt k c (A ++ B) ↔ Srt k c A ∧ Srt k c B ∧ ∀ a ∈ A, ∀ b ∈ B, ¬ c (k b) (k a) < 0 := List.pairwise_append
omit [DecidableEq α] [DecidableEq β] in
theorem lt_key (ho : Ord3 c) {a b : β} (h : c a b < 0) : b ≠ a := fun e => by subst e; exact ho.irr _ h
omit [DecidableEq α] in
/-- Put in behind what is not greater. -/
theorem stb_ins (ho : Ord3 c) {A B : List α} {x : α} (hs : Srt k c (A ++ B)) (ha : ∀ a ∈ A, ¬ c (k x) (k a) < 0) (hb : ∀ b ∈ B, c (k x) (k b) < 0) : Stb k c (A ++ B ++ [x]) (A ++ x :: B) := by
  obtain ⟨s1, s2, s3⟩ := srt_app.1 hs
  refine ⟨srt_app.2 ⟨s1, List.pairwise_cons.2 ⟨fun b h => ho.asym (hb b h), s2⟩, fun a h b hm => ?_⟩, ?_⟩
  · rcases List.mem_cons.1 hm with rfl | hm
    · exact ha a h
    · exact s3 a h b hm
  · rw [List.append_assoc]
    exact (Eqv.refl A).app (Eqv.swap (A := B) (B := [x]) fun b h y hy => by
      simp at hy; subst hy
      exact lt_key ho (hb b h))
omit [DecidableEq α] in
/-- Put in ahead of what is not less. -/
theorem stb_fst (ho : Ord3 c) {A B : List α} {x : α} (hs : Srt k c (A ++ B)) (ha : ∀ a ∈ A, c (k a) (k x) < 0) (hb : ∀ b ∈ B, ¬ c (k b) (k x) < 0) : Stb k c (x :: (A ++ B)) (A ++ x :: B) := by
  obtain ⟨s1, s2, s3⟩ := srt_app.1 hs
  refine ⟨srt_app.2 ⟨s1, List.pairwise_cons.2 ⟨hb, s2⟩, fun a h b hm => ?_⟩, ?_⟩
  · rcases List.mem_cons.1 hm with rfl | hm
    · exact ho.asym (ha a h)
    · exact s3 a h b hm
  · have e : A ++ x :: B = A ++ [x] ++ B := by simp
    have e2 : x :: (A ++ B) = [x] ++ A ++ B := by simp
    rw [e, e2]
    exact (Eqv.swap (A := [x]) (B := A) fun y hy a h => by
      simp at hy; subst hy
      exact lt_key ho (ha a h)).app (Eqv.refl B)
/-- Two sorted parts, the middle of which has changed places, are sorted apart. -/
theorem stb_join (ho : Ord3 c) {A1 A2 B1 B2 S1 S2 : List α} (hA : Srt k c (A1 ++ A2)) (hB : Srt k c (B1 ++ B2)) (h12 : ∀ a ∈ A2, ∀ b ∈ B1, c (k b) (k a) < 0) (h21 : ∀ a ∈ A1, ∀ b ∈ B2, ¬ c (k b) (k a) < 0)
    (h1 : Stb k c (A1 ++ B1) S1) (h2 : Stb k c (A2 ++ B2) S2) : Stb k c (A1 ++ A2 ++ (B1 ++ B2)) (S1 ++ S2) := by
  obtain ⟨a1, a2, a3⟩ := srt_app.1 hA
  obtain ⟨b1, b2, b3⟩ := srt_app.1 hB
  refine ⟨srt_app.2 ⟨h1.1, h2.1, fun x hx y hy => ?_⟩, ?_⟩
  · rcases List.mem_append.1 (h1.2.mem.1 hx) with hx | hx <;> rcases List.mem_append.1 (h2.2.mem.1 hy) with hy | hy
    · exact a3 x hx y hy
    · exact h21 x hx y hy
    · exact ho.asym (h12 y hy x hx)
    · exact b3 x hx y hy
  · refine Eqv.trans ?_ (h1.2.app h2.2)
    have e1 : A1 ++ A2 ++ (B1 ++ B2) = A1 ++ (A2 ++ B1) ++ B2 := by simp
    have e2 : A1 ++ B1 ++ (A2 ++ B2) = A1 ++ (B1 ++ A2) ++ B2 := by simp
    rw [e1, e2]
    exact ((Eqv.refl A1).app (Eqv.swap fun a ha b hb => lt_key ho (h12 a ha b hb))).app (Eqv.refl B2)
omit [DecidableEq α] [DecidableEq β] in
theorem srt_le (ho : Ord3 c) {l : List α} (h : Srt k c l) {i j : Nat} {x y : α} (hi : l[i]? = some x) (hj : l[j]? = some y) (hij : i ≤ j) : ¬ c (k y) (k x) < 0 := by
  rcases Nat.lt_or_ge i j with h1 | h1
  · obtain ⟨hi', rfl⟩ := List.getElem?_eq_some_iff.1 hi
    obtain ⟨hj', rfl⟩ := List.getElem?_eq_some_iff.1 hj
    exact List.pairwise_iff_getElem.1 h i j hi' hj' h1
  · have : i = j := by omega
    subst this
    rw [hi] at hj; cases hj
    exact ho.irr _
end
end Go.V
/- Stable sorting: there is one result; insertion; blocks. -/
namespace Go.V
open Go.Proofs Go.RowKit
section
variable {α β : Type} [DecidableEq α] [DecidableEq β] {k : α → β} {c : β → β → Int}
theorem srt_uniq (ho : Ord3 c) : ∀ {S S' : List α}, Srt k c S → Srt k c S' → Eqv k S S' → S' = S
  | [], S', _, _, h => List.eq_nil_of_length_eq_zero (by rw [h.length]; rfl)
  | x :: r, [], _, _, h => by have := h.length; simp at this
  | x :: r, y :: r', h1, h2, h => by
    have hxy : k x = k y := by
      have hx : x ∈ y :: r' := h.mem.2 (List.mem_cons_self ..)
      have hy : y ∈ x :: r := h.mem.1 (List.mem_cons_self ..)
      have e1 : ¬ c (k x) (k y) < 0 := by
        rcases List.mem_cons.1 hx with e | hx
        · rw [e]; exact ho.irr _
        · exact (List.pairwise_cons.1 h2).1 x hx
      have e2 : ¬ c (k y) (k x) < 0 := by
        rcases List.mem_cons.1 hy with e | hy
        · rw [e]; exact ho.irr _
        · exact (List.pairwise_cons.1 h1).1 y hy
      have := ho.anti (k x) (k y)
      exact ho.eq _ _ (by omega)
    have hf := h (k x)
    rw [List.filter_cons_of_pos (by simp [hxy]), List.filter_cons_of_pos (by simp)] at hf
    have hxe : y = x := (List.cons.inj hf).1
    subst hxe
    have ht : Eqv k r r' := fun t => by
      have := h t
      by_cases e : k y = t
      · rw [List.filter_cons_of_pos (by simpa using e), List.filter_cons_of_pos (by simpa using e)] at this
        exact (List.cons.inj this).2
      · rwa [List.filter_cons_of_neg (by simpa using e), List.filter_cons_of_neg (by simpa using e)] at this
    rw [srt_uniq ho (List.pairwise_cons.1 h1).2 (List.pairwise_cons.1 h2).2 ht]
omit [DecidableEq α] in
theorem Eqv.symm {A B : List α} (h : Eqv k A B) : Eqv k B A := fun t => (h t).symm
theorem stb_uniq (ho : Ord3 c) {l S S' : List α} (h : Stb k c l S) (h' : Stb k c l S') : S' = S := srt_uniq ho h.1 h'.1 (h.2.symm.trans h'.2)
def insK (k : α → β) (c : β → β → Int) (x : α) : List α → List α
  | [] => [x]
  | y :: l => if c (k x) (k y) < 0 then x :: y :: l else y :: insK k c x l
omit [DecidableEq α] [DecidableEq β] in
theorem insK_split (ho : Ord3 c) {x : α} : ∀ {S : List α}, Srt k c S → ∃ A B, S = A ++ B ∧ insK k c x S = A ++ x :: B ∧ (∀ a ∈ A, ¬ c (k x) (k a) < 0) ∧ ∀ b ∈ B, c (k x) (k b) < 0
  | [], _ => ⟨[], [], rfl, rfl, fun a h => (by cases h), fun a h => (by cases h)⟩
  | y :: l, h => by
    obtain ⟨h1, h2⟩ := List.pairwise_cons.1 h
    by_cases hxy : c (k x) (k y) < 0
    · refine ⟨[], y :: l, rfl, if_pos hxy, fun a h => (by cases h), fun b hb => ?_⟩
      rcases List.mem_cons.1 hb with rfl | hb
      · exact hxy
      · have h3 := h1 b hb
        have := ho.anti (k b) (k y)
        by_cases h4 : c (k y) (k b) < 0
        · exact ho.tr hxy h4
        · rw [← ho.eq (k y) (k b) (by omega)]; exact hxy
    · obtain ⟨A, B, e1, e2, e3, e4⟩ := insK_split ho (x := x) h2
      refine ⟨y :: A, B, by rw [e1]; rfl, ?_, fun a ha => ?_, e4⟩
      · rw [insK, if_neg hxy, e2]; rfl
      · rcases List.mem_cons.1 ha with rfl | ha
        · exact hxy
        · exact e3 a ha
/-- The stable sorted list. -/
def stbL (k : α → β) (c : β → β → Int) (l : List α) : List α := l.foldl (fun S x => insK k c x S) []
omit [DecidableEq α] [DecidableEq β] in
theorem srt_nil : Srt k c [] := List.Pairwise.nil
omit [DecidableEq α] in
theorem stb_step (ho : Ord3 c) {l S : List α} {x : α} (h : Stb k c l S) : Stb k c (l ++ [x]) (insK k c x S) := by
  obtain ⟨A, B, e1, e2, e3, e4⟩ := insK_split ho (x := x) h.1
  have h1 := h.1
  rw [e1] at h1
  have h2 := stb_ins ho h1 e3 e4
  rw [e2]
  rw [← e1] at h2
  exact ⟨h2.1, (h.2.app (Eqv.refl [x])).trans h2.2⟩
omit [DecidableEq α] in
theorem stbL_stb (ho : Ord3 c) (l : List α) : Stb k c l (stbL k c l) := by
  suffices ∀ (r l S : List α), Stb k c l S → Stb k c (l ++ r) (r.foldl (fun S x => insK k c x S) S) by
    have := this l [] [] ⟨srt_nil, Eqv.refl _⟩
    exact this
  intro r
  induction r with
  | nil => intro l S h; rw [List.append_nil]; exact h
  | cons x r ih =>
    intro l S h
    have := ih (l ++ [x]) (insK k c x S) (stb_step ho h)
    rw [List.append_assoc] at this
    exact this
theorem stb_of (ho : Ord3 c) {l S : List α} (h : Stb k c l S) : S = stbL k c l := stb_uniq ho (stbL_stb ho l) h
theorem stbL_len (ho : Ord3 c) (l : List α) : (stbL k c l).length = l.length := (stbL_stb (k := k) ho l).2.length
omit [DecidableEq α] [DecidableEq β] in
theorem stbL_nil : stbL k c [] = [] := rfl
theorem stbL_srt (ho : Ord3 c) {l : List α} (h : Srt k c l) : stbL k c l = l := (stb_of ho ⟨h, Eqv.refl l⟩).symm
theorem stbL_app (ho : Ord3 c) (X Y : List α) : stbL k c (stbL k c X ++ stbL k c Y) = stbL k c (X ++ Y) :=
  stb_of ho ⟨(stbL_stb ho _).1, (((stbL_stb ho X).2.app (stbL_stb ho Y).2)).trans (stbL_stb ho _).2⟩
/-- A round of an insertion has ended. -/
theorem ins_end (ho : Ord3 c) {X A B : List α} {x : α} (h : A ++ B = stbL k c X) (hb : ∀ b ∈ B, c (k x) (k b) < 0) (ha : ∀ y, A.getLast? = some y → ¬ c (k x) (k y) < 0) : A ++ x :: B = stbL k c (X ++ [x]) := by
  have hs := (stbL_stb (k := k) ho X).1
  rw [← h] at hs
  have hA : ∀ a ∈ A, ¬ c (k x) (k a) < 0 := fun a ham => by
    rcases List.eq_nil_or_concat A with e | ⟨A', y, rfl⟩
    · subst e; cases ham
    · have h1 := ha y (by simp)
      simp only [List.concat_eq_append, List.mem_append, List.mem_singleton] at ham
      rcases ham with ham | rfl
      · have h2 := (srt_app.1 hs).1
        simp only [List.concat_eq_append] at h2
        have h3 := (srt_app.1 h2).2.2 a ham y (by simp)
        have e1 := ho.anti (k y) (k a)
        intro h4
        refine h1 ?_
        by_cases h5 : c (k a) (k y) < 0
        · exact ho.tr h4 h5
        · rw [← ho.eq (k a) (k y) (by omega)]; exact h4
      · exact h1
  have h1 := stb_ins ho hs hA hb
  rw [h] at h1
  exact stb_of ho ⟨h1.1, ((stbL_stb (k := k) ho X).2.app (Eqv.refl [x])).trans h1.2⟩
/-- Blocks of n, each sorted. -/
def chS (k : α → β) (c : β → β → Int) (n : Nat) : Nat → List α → List α
  | 0, _ => []
  | f + 1, l => if l = [] then [] else stbL k c (l.take n) ++ chS k c n f (l.drop n)
omit [DecidableEq α] [DecidableEq β] in
theorem chS_nil (n f : Nat) : chS k c n f [] = [] := by cases f <;> simp [chS]
omit [DecidableEq α] [DecidableEq β] in
theorem chS_fuel {n : Nat} (hn : 0 < n) : ∀ {f g : Nat} {l : List α}, l.length ≤ f → l.length ≤ g → chS k c n f l = chS k c n g l
  | 0, g, l, hf, _ => by obtain rfl : l = [] := List.eq_nil_of_length_eq_zero (by omega); rw [chS_nil, chS_nil]
  | f + 1, 0, l, _, hg => by obtain rfl : l = [] := List.eq_nil_of_length_eq_zero (by omega); rw [chS_nil, chS_nil]
  | f + 1, g + 1, l, hf, hg => by
    by_cases h : l = []
    · subst h; rw [chS_nil, chS_nil]
    · rw [chS, chS, if_neg h, if_neg h]
      have : 0 < l.length := List.length_pos_iff.2 h
      rw [chS_fuel hn (f := f) (g := g) (by rw [List.length_drop]; omega) (by rw [List.length_drop]; omega)]
/-- The list whose blocks of n are sorted. -/
def chL (k : α → β) (c : β → β → Int) (n : Nat) (l : List α) : List α := chS k c n l.length l
omit [DecidableEq α] [DecidableEq β] in
theorem chL_step {n : Nat} (hn : 0 < n) (l : List α) : chL k c n l = stbL k c (l.take n) ++ chL k c n (l.drop n) := by
  unfold chL
  by_cases h : l = []
  · subst h; simp [chS_nil, stbL_nil]
  · have : 0 < l.length := List.length_pos_iff.2 h
    obtain ⟨m, hm⟩ : ∃ m, l.length = m + 1 := ⟨l.length - 1, by omega⟩
    rw [hm, chS, if_neg h, chS_fuel hn (f := m) (g := (l.drop n).length) (by rw [List.length_drop]; omega) (Nat.le_refl _)]
omit [DecidableEq α] [DecidableEq β] in
theorem chL_nil (n : Nat) : chL k c n [] = [] := chS_nil _ _
omit [DecidableEq α] [DecidableEq β] in
theorem chL_one {n : Nat} (hn : 0 < n) {l : List α} (h : l.length ≤ n) : chL k c n l = stbL k c l := by
  rw [chL_step hn, List.take_of_length_le h, List.drop_eq_nil_of_le h, chL_nil, List.append_nil]
theorem chL_len (ho : Ord3 c) {n : Nat} (hn : 0 < n) : ∀ (m : Nat) {l : List α}, l.length ≤ m → (chL k c n l).length = l.length
  | 0, l, h => by obtain rfl : l = [] := List.eq_nil_of_length_eq_zero (by omega); rw [chL_nil]
  | m + 1, l, h => by
    by_cases h0 : l = []
    · subst h0; rw [chL_nil]
    · have : 0 < l.length := List.length_pos_iff.2 h0
      rw [chL_step hn, List.length_append, stbL_len ho, chL_len ho hn m (by rw [List.length_drop]; omega), ← List.length_append, List.take_append_drop]
end
end Go.V
/- The kit's floor of calls that work in place, without a result, on a block that a ghost slot holds. -/
namespace Go.V
open Go.RowKit
/-- A held block, without a value. -/
def GHeld (b : Nat) (cs : List Value) (ty : TypeId) : GR where
  P _ u C := u.heap[b]? = some (.cells cs.toArray ty) ∧ ∀ k, C k ↔ k = b
  st := fun ⟨h1, h2⟩ _ _ _ hk => ⟨(hk b ((h2 b).2 rfl)).trans h1, h2⟩
theorem gheld_res (b : Nat) (cs : List Value) (ty : TypeId) : (GHeld b cs ty).res = HeldR b cs ty := rfl
/-- What a function without a result does to what it was lent. -/
def RetG (P : Program) (f : FuncId) (args : List Value) (w : World) (B : Heap) (C : Nat → Prop) (r : GR) : Prop :=
  RetL P f args w B C fun _ H u => ∃ C', r.P H u C' ∧ ∀ k, C' k → (C k ∨ w.heap.size ≤ k) ∧ k < u.heap.size ∧ H k = none
section
variable {P : Program} {F : Fr} {B : Heap} {O : Boxes} {n : Nat} {ops : Array Oper} {κ : Kap} {d : Nat} {ty : TypeId} {pos : String} {aft : Array Edge} {g : Option (Nat × Bool)} {Q : Exit → Act → World → Prop}
theorem ok_callG (L : Tabs P) (q : Nat) (r' : GR) {r : GR} {f : Nat} {args : Array Operand} {at_ : Array TypeId} {cap : List Value} {fo : Operand}
    (hn : Nat.blt d n = true) (hg : gK ops κ ⟨some d, .call { callee := .value fo, args := args, argTypes := at_ }, ty, pos, aft, g⟩ = some true)
    (hf : evK κ fo = some (.func (.func f) #[] cap.toArray)) (hfn : L.fn f = some ()) (hq : κ q = some (.own r.res))
    (h : ∀ u H C, H.Le (hp u) → B.Le H → r.P H u C → (∀ k, C k → k < u.heap.size ∧ H k = none) → Args κ H args.toList [] (fun vs => RetG P f (vs ++ cap) u H C r')) :
    StepOK2 P F B n ops O κ ⟨some d, .call { callee := .value fo, args := args, argTypes := at_ }, ty, pos, aft, g⟩ q (.own r'.res) d nilK := by
  rintro κ' a u hlk hks ⟨H, fp, hh⟩
  unfold After
  rw [if_pos (wanted_gK hh hlk hg)]
  have hk' : κ' q = some (.own r.res) := hks.trans hq
  obtain ⟨hown, hM⟩ := hh.slot q _ hk'
  have e2 := hh.env hlk
  have hfe : a.eval fo = .func (.func f) #[] cap.toArray := e2.is_ fo _ (by simp [Op.operands, Call.operands]) hf
  have hc := Args.use e2 args.toList [] (fun x hx => by simp [Op.operands, Call.operands] at hx ⊢; exact .inr hx) (h u H (fp q) hh.sub hh.base hown fun k hk => ⟨(hM k hk).1, (hM k hk).2.1⟩)
  simp only [List.reverse_nil, List.nil_append] at hc
  rw [run_call L rfl hfe hfn]
  simp only [Upon]
  refine Calls.mono hc fun e' u' hp => ?_
  obtain ⟨v, rfl, H', g', C', hv, hC'⟩ := hp
  have h2 := hh.usePut (d := q) (a' := a) (r' := r'.res) hk' g' rfl rfl (fun _ _ => rfl) hv hC'
  rw [upd_upd] at h2
  exact ⟨v, rfl, H', _, h2.put (k := nilK) (blt_lt hn) (fun _ _ _ h _ => h) trivial⟩
/-- A function without results ends. -/
theorem N_ret0 (L : Tabs P) {fn : Func} {B0 : Heap} (hrs : fn.results = #[]) (hQ : ∀ a u, bodyPostM Fence.wide 0 P fn (PostL F.w0 B0 F.L fun _ _ _ => True) .normal a u → Q .normal a u) (hs : Since F B0 B) : N F B n O κ Q :=
  N_retG hQ hs fun O' a u H fp _ hh => by
    obtain ⟨vs, h1, _⟩ := results_run L hh (rs := []) hrs (K := fun _ => True) trivial
    exact ⟨_, h1, trivial⟩
/-- A test whose two ways meet again: what is known behind it. -/
theorem V_meetC {x c y : Code} {T : Type} (Fk : T → List (Nat × Kn)) (I : T → Prop) (Ob : T → Boxes) (hy : ∀ t, I t → V P F B n (Ob t) (ofL (Fk t)) y Q)
    (h : V P F B n O κ x (Exit.then (fun a u => c.wpIn (FW F.r) 0 P (Exit.then (fun a u => ∃ t, I t ∧ Has F B (Ob t) n (ofL (Fk t)) a u) Q) a u) (Exit.then (fun a u => ∃ t, I t ∧ Has F B (Ob t) n (ofL (Fk t)) a u) Q))) :
    V P F B n O κ x (Exit.then (fun a u => c.wpIn (FW F.r) 0 P (Exit.then (fun a u => y.wpIn (FW F.r) 0 P Q a u) Q) a u) (Exit.then (fun a u => y.wpIn (FW F.r) 0 P Q a u) Q)) := fun a u hh => by
  have key : ∀ e a u, Exit.then (fun a u => ∃ t, I t ∧ Has F B (Ob t) n (ofL (Fk t)) a u) Q e a u → Exit.then (fun a u => y.wpIn (FW F.r) 0 P Q a u) Q e a u := fun e a u he => by
    cases e <;> first | exact he | (obtain ⟨t, hI, hh⟩ := he; exact hy t hI a u hh)
  refine Go.wpIn_mono (h a u hh) fun e a u he => ?_
  cases e <;> first | exact Go.wpIn_mono he key | exact he
theorem HasH.setSat {t : Nat} {φ : Value → Heap → Prop} {H : Heap} {fp : Nat → Nat → Prop} {a : Act} {u : World} (hm : Kn.mono (.sat φ)) (h : HasH F B O n κ a u H fp) (hφ : φ (a.eval (.tmp t)) H) : HasH F B O n (upd κ t (.sat φ)) a u H fp :=
  ⟨h.size, h.defers, h.nodup, h.marks, h.lent, h.keep, h.sub, h.base, h.fresh, h.boxes, h.apart, fun s k hs => by
    by_cases hst : s = t
    · subst hst; rw [upd_same] at hs; cases hs; exact hφ
    · rw [upd_other _ _ hst] at hs; exact h.slot s k hs, fun s r r1 r2 hsr h1 h2 => by
    have key : ∀ x r, upd κ t (.sat φ) x = some (.own r) → κ x = some (.own r) := fun x r hx => by
      by_cases hxd : x = t
      · subst hxd; rw [upd_same] at hx; cases hx
      · rw [upd_other _ _ hxd] at hx; exact hx
    exact h.owns s r r1 r2 hsr (key _ _ h1) (key _ _ h2), fun s k hs => by
    by_cases hst : s = t
    · subst hst; rw [upd_same] at hs; cases hs; exact hm
    · rw [upd_other _ _ hst] at hs; exact h.mono s k hs⟩
/-- An owned slice, or an empty one without room that is seen. -/
def SlG (e : TypeId) (s n : Nat) (xs : List Value) : Res where
  P x H u C := (n = 0 ∧ xs = [] ∧ SlV e s [] 0 true x H ∧ ∀ k, ¬ C k) ∨ (SlR e s n xs).P x H u C
  st := fun h hle hs ho hk => by
    rcases h with ⟨h1, h2, h3, h4⟩ | h
    · exact .inl ⟨h1, h2, h3.le hle, h4⟩
    · exact .inr ((SlR e s n xs).st h hle hs ho hk)
theorem Has.toG {t : Nat} {e : TypeId} {s : Nat} {a : Act} {u : World} (hk : κ t = some (.sat (SlV e s [] 0 true))) (h : Has F B O n κ a u) : Has F B O n (upd κ t (.own (SlG e s 0 []))) a u := by
  obtain ⟨H, fp, h⟩ := h
  exact ⟨H, _, h.putR (C := noL) (a' := a) rfl rfl (fun _ _ => rfl) (.inl ⟨rfl, rfl, h.slot t _ hk, fun _ h => h⟩) (fun k hk => hk.elim) (fun _ _ _ _ _ _ hk => hk.elim)⟩
theorem V_toG (t : Nat) {e : TypeId} {s : Nat} {c : Code} (hk : κ t = some (.sat (SlV e s [] 0 true))) (h : V P F B n O (upd κ t (.own (SlG e s 0 []))) c Q) : V P F B n O κ c Q := fun a u hh => h a u (hh.toG hk)
theorem Has.pubG {t : Nat} {e : TypeId} {s m : Nat} {xs : List Value} {a : Act} {u : World} (hk : κ t = some (.own (SlG e s m xs))) (h : Has F B O n κ a u) : Has F B O n (upd κ t (.sat (SlV e s xs m false))) a u := by
  obtain ⟨H, fp, h⟩ := h
  obtain ⟨hv, hM⟩ := h.slot t _ hk
  rcases hv with ⟨rfl, rfl, h3, _⟩ | hv
  · exact ⟨H, fp, h.setSat SlV.mono h3.nofu⟩
  · have h2 := h.putR (d := t) (r := SlR e s m xs) (C := fp t) (a' := a) rfl rfl (fun _ _ => rfl) hv hM (fun t' r' hne hk' k hf hc => h.owns t' t _ _ hne hk' hk k hf hc)
    have h3 := Has.pubR (t := t) (upd_same _ _ _) ⟨H, _, h2⟩
    rwa [upd_upd] at h3
theorem V_pubG (t : Nat) {e : TypeId} {s m : Nat} {xs : List Value} {c : Code} (hk : κ t = some (.own (SlG e s m xs))) (h : V P F B n O (upd κ t (.sat (SlV e s xs m false))) c Q) : V P F B n O κ c Q := fun a u hh => h a u (hh.pubG hk)
/-- 'append(x, y...)': one value more. -/
theorem ok_appendG (L : Tabs P) {q : Nat} {t e : TypeId} {y : Operand} {s by_ nn m : Nat} {xs news : List Value} (hm : 0 < m) (hn : Nat.blt d n = true) (hg : gK ops κ ⟨some d, .call ⟨.builtin .append, #[.tmp q, y], #[t, t]⟩, ty, pos, aft, g⟩ = some true)
    (hq : κ q = some (.own (SlG e s nn xs))) (hy : Apd F B O κ y m news) (ht : L.sl t = some e) (he : elI P e = some (s, by_)) (hl : news.length = m * s) (h1 : news.all plainV = true) (hb : (nn + m) * by_ ≤ 140737488355328) (h63 : nn + m ≤ 9223372036854775807) :
    StepOK2 P F B n ops O κ ⟨some d, .call ⟨.builtin .append, #[.tmp q, y], #[t, t]⟩, ty, pos, aft, g⟩ q nilK d (.own (SlG e s (nn + m) (xs ++ news))) := by
  rintro κ' a u hlk hks ⟨H, fp, hh⟩
  unfold After
  rw [if_pos (wanted_gK hh hlk hg)]
  have en := hh.env hlk
  obtain ⟨i, z, hi, hz, hs1, hs2, hs3, hs4⟩ := elI_spec he
  have hk' : κ' q = some (.own (SlG e s nn xs)) := hks.trans hq
  obtain ⟨hown, hM⟩ := hh.slot q _ hk'
  have hyv := hy _ a u H fp (by simp [Op.operands, Call.operands]) en
  have h1' : ∀ v ∈ news, v.oneCell' = true := fun v hv => plain_one (List.all_eq_true.1 h1 v hv)
  have hap : ∃ x' u' C', (Builtin.append_ #[t, t] ty #[a.eval (.tmp q), a.eval y]).run P u = .ok x' u' ∧ (SlR e s (nn + m) (xs ++ news)).P x' H u' C' ∧ Grow (fp q) u H u' H ∧ ∀ k, C' k → (fp q k ∨ u.heap.size ≤ k) ∧ k < u'.heap.size ∧ H k = none := by
    rcases hown with ⟨rfl, rfl, h3, hC⟩ | hown
    · obtain ⟨hl3, ⟨_, hx⟩ | ⟨b, off, cap, cs, ty0, fr, hx, hb1, _, hcp, hfu⟩⟩ := h3
      · refine appendR u (Tabs.sl_spec ht) hi hz hs1 hs2 hs3 hs4 hh.sub ⟨by simp, .inl ⟨rfl, hx, hC⟩⟩ (fun k hk => ⟨(hM k hk).1, (hM k hk).2.1⟩) hyv hl h1' h63 hb
      · obtain rfl := hfu rfl
        rcases hyv with ⟨rfl, _⟩ | ⟨ad, c, hye, hnews⟩
        · omega
        · subst hs1 hs2
          have hr := run_append_grow (P := P) u t ty e i z (Tabs.sl_spec ht) hi hz ⟨b, off, none⟩ 0 0 [] (by simp) (fun j v hj => by simp at hj) ad m c news hl hnews (by omega) (by omega) (growslice_fits (by omega) hb)
          rw [hx, hye]
          have hmx : 0 + m ≤ maxLen := by simp only [maxLen]; omega
          have hge := grownCap_ge u (0 + m) 0 e
          refine ⟨_, _, fun k => k = u.heap.size, hr, ⟨by simpa using hl, .inr ⟨u.heap.size, _, (Builtin.zeroCells z.cells (grownCap u (0 + m) 0 e - (0 + m))).toList, rfl, ?_, hge, grownCap_le_maxLen u (0 + m) 0 e hmx, ?_, fun _ => Iff.rfl⟩⟩, ⟨⟨rfl, rfl, rfl, by simp, fun k hk _ => heap_push_lt u.drew _ hk, Nat.le_succ _⟩, fun k v hv => by
            have := hh.sub.size hv
            show (u.drew.alloc _).heap[k]? = some v
            rw [heap_push_lt u.drew _ this]; exact hh.sub k v hv, Heap.Le.refl _, fun _ _ _ => rfl⟩, fun k hk => by
            subst hk
            exact ⟨.inr (Nat.le_refl _), by simp, none_of_ge hh.sub (Nat.le_refl _)⟩⟩
          · rw [show u.heap.size = u.drew.heap.size from rfl, heap_alloc_new]
            congr 2
            apply Array.ext'
            simp
          · rw [List.nil_append, List.length_append, hl, Array.length_toList, size_zeroCells, hs3, ← Nat.add_mul]
            congr 1
            omega
    · exact appendR u (Tabs.sl_spec ht) hi hz hs1 hs2 hs3 hs4 hh.sub hown (fun k hk => ⟨(hM k hk).1, (hM k hk).2.1⟩) hyv hl h1' h63 hb
  obtain ⟨x', u', C', hr, hown', hgr, hC'⟩ := hap
  have hrun : (execOp a.eval ⟨some d, .call ⟨.builtin .append, #[.tmp q, y], #[t, t]⟩, ty, pos, aft, g⟩).run P u = .ok (.value x') u' := by
    simp only [execOp, resolve, invoke, builtin, Sem.run_bind, Sem.run_pure, Result.andThen_ok, List.map_toArray, List.map_cons, List.map_nil, hr]
  rw [hrun]
  simp only [Upon]
  exact ⟨H, _, hh.usePut hk' hgr (by simp [Act.put]) rfl (fun t ht => eval_put_other ht) (by rw [eval_put_same (by rw [hh.size]; exact blt_lt hn)]; exact .inr hown') hC'⟩
end
end Go.V
/- The walks of the library's stable sort, at changes: blocks change places. -/
namespace Go.V.L8
open Go.Proofs Go.RowKit Go.V Go.V.L2 Go.V.L3 Go.V.L6
theorem cs_len (l : List CH) : (l.flatMap ccs).length = l.length * 7 := flatMap_len ccs_len l
theorem cs_plain (l : List CH) : (l.flatMap ccs).all plainV = true := by
  induction l with
  | nil => rfl
  | cons x l ih => rw [List.flatMap_cons, List.all_append, ih]; rfl
abbrev ch7 (c : CH) : List Value := [.string c.1.1.1.1, .string c.1.1.1.2, .string c.1.1.2, .string c.1.2.1.1, .string c.1.2.1.2, .string c.1.2.2, .bool c.2]
theorem heldC_at {l : List CH} {rest : List Value} {i : Nat} {t : CH} (h : l[i]? = some t) (off : Nat) (ho : off = i * 7) : ∃ r, (l.flatMap ccs ++ rest).drop off = ch7 t ++ r := by
  subst ho
  have h1 : ((l.flatMap ccs).drop (i * 7)).take 7 = ch7 t := ks_at h
  have h2 := get_lt h
  refine ⟨((l.flatMap ccs).drop (i * 7)).drop 7 ++ rest, ?_⟩
  rw [List.drop_append_of_le_length (by rw [cs_len]; exact Nat.mul_le_mul_right _ (by omega)), ← List.append_assoc]
  congr 1
  rw [← h1, List.take_append_drop]
theorem heldC_set {ls : List CH} {rest : List Value} {k : Nat} {z : CH} (h : k < ls.length) (off : Nat) (ho : off = k * 7) : (ls.flatMap ccs ++ rest).take off ++ (ch7 z ++ (ls.flatMap ccs ++ rest).drop (off + 7)) = (ls.set k z).flatMap ccs ++ rest := by
  subst ho
  have e1 : ls = ls.take k ++ (ls[k] :: ls.drop (k + 1)) := by rw [List.getElem_cons_drop, List.take_append_drop]
  have hk : (ls.take k).length = k := by rw [List.length_take]; omega
  have e2 : ls.set k z = ls.take k ++ (z :: ls.drop (k + 1)) := by
    conv => lhs; rw [e1]
    rw [List.set_append_right _ _ (by omega), hk, Nat.sub_self]; rfl
  rw [e2]
  generalize ls.take k = A at e1 hk
  generalize ls.drop (k + 1) = D at e1
  generalize ls[k] = y at e1
  subst e1
  have hA : (A.flatMap ccs).length = k * 7 := by rw [cs_len, hk]
  simp only [List.flatMap_append, List.flatMap_cons, List.append_assoc]
  rw [List.take_left' hA, show k * 7 + 7 = (A.flatMap ccs).length + 7 by omega, ← List.drop_drop, List.drop_left, show (ccs y ++ (D.flatMap ccs ++ rest)).drop 7 = D.flatMap ccs ++ rest from List.drop_left' rfl]
  rfl
theorem heldC_ble {ls : List CH} {rest : List Value} {k : Nat} (h : k < ls.length) (off : Nat) (ho : off = k * 7) : Nat.ble (off + 7) (ls.flatMap ccs ++ rest).length = true := Nat.ble_eq_true_of_le (by rw [List.length_append, cs_len]; omega)
section
variable {α : Type} {A M D : List α} {x y : α}
theorem two_get1 {i : Nat} (h : A.length = i) : (A ++ x :: (M ++ y :: D))[i]? = some x := by subst h; simp
theorem two_get2 {j : Nat} (h : A.length + 1 + M.length = j) : (A ++ x :: (M ++ y :: D))[j]? = some y := by
  subst h
  have e : A ++ x :: (M ++ y :: D) = (A ++ x :: M) ++ y :: D := by simp
  rw [e, List.getElem?_append_right (by simp; omega)]
  simp; rw [show A.length + 1 + M.length - (A.length + (M.length + 1)) = 0 by omega]; rfl
theorem two_set {i j : Nat} (hi : A.length = i) (hj : A.length + 1 + M.length = j) : ((A ++ x :: (M ++ y :: D)).set i y).set j x = A ++ y :: (M ++ x :: D) := by
  subst hi hj
  have e : (A ++ x :: (M ++ y :: D)).set A.length y = (A ++ y :: M) ++ y :: D := by simp
  rw [e, List.set_append_right _ _ (by simp; omega)]
  simp; rw [show A.length + 1 + M.length - (A.length + (M.length + 1)) = 0 by omega]; rfl
theorem two_set' {i j : Nat} (hi : A.length = i) (hj : A.length + 1 + M.length = j) : ((A ++ x :: (M ++ y :: D)).set j x).set i y = A ++ y :: (M ++ x :: D) := by
  rw [List.set_comm _ _ (by omega)]; exact two_set hi hj
end
attribute [local irreducible] V N X VO Par StepOK Has Ret RetL RetO RetT Src
/-- Two ranges that do not touch change places. -/
theorem swr_ret {P X Q Y R : List CH} {rest : List Value} {b m cap a e n : Nat} (ha : P.length = a) (he : a + X.length + Q.length = e) (hx : X.length = n) (hy : Y.length = n) (hm : (P ++ (X ++ (Q ++ (Y ++ R)))).length = m) (hm1 : m ≤ 100000) (fv : Value) {w : World} {B : Heap} {C : Nat → Prop} (hB : B.Le (hp w))
    (hr : (GHeld b ((P ++ (X ++ (Q ++ (Y ++ R)))).flatMap ccs ++ rest) tyC).P B w C) (hC : ∀ k, C k → k < w.heap.size ∧ B k = none) :
    RetG Try.prog 131 [.slice (some ⟨b, 0, none⟩) m cap, .int .i64 a, .int .i64 e, .int .i64 n, fv] w B C (GHeld b ((P ++ (Y ++ (Q ++ (X ++ R)))).flatMap ccs ++ rest) tyC) := by
  unfold RetG
  refine V_enterG 900 (GHeld b ((P ++ (X ++ (Q ++ (Y ++ R)))).flatMap ccs ++ rest) tyC) Try.func131 rfl Try.ntmps131 (Nat.le_of_ble_eq_true rfl) hB hr hC ?_
  rw [gheld_res]
  simp only [List.length_append] at hm
  refine V_seq ?_; refine V_region (id := 0) ?_; refine vo_step (ok_assign rfl rfl rfl) rfl ?_; refine vo_nil ?_; refine N_seq ?_; refine V_block ?_
  refine V_loop (fun i : Nat => [(0, .is (.slice (some ⟨b, 0, none⟩) m cap)), (1, .is (.int .i64 a)), (2, .is (.int .i64 e)), (3, .is (.int .i64 n)), (10, .is (.int .i64 i)), (900, .own (HeldR b ((P ++ (Y.take i ++ (X.drop i ++ (Q ++ (X.take i ++ (Y.drop i ++ R)))))).flatMap ccs ++ rest) tyC))]) (fun i => i ≤ n) (fun i => n - i) 0 (Nat.zero_le _) ⟨rfl, rfl, rfl, rfl, rfl, by simp only [List.take_zero, List.drop_zero, List.nil_append]; rfl, trivial⟩ ?_
  rintro i hi
  by_cases hlt : i < n
  · obtain ⟨x, hxi⟩ := get_some (l := X) (show i < X.length by omega)
    obtain ⟨y, hyi⟩ := get_some (l := Y) (show i < Y.length by omega)
    have e0 : P ++ (Y.take i ++ (X.drop i ++ (Q ++ (X.take i ++ (Y.drop i ++ R))))) = (P ++ Y.take i) ++ x :: ((X.drop (i + 1) ++ (Q ++ X.take i)) ++ y :: (Y.drop (i + 1) ++ R)) := by
      rw [drop_g hxi, drop_g hyi]; simp
    have e1 : P ++ (Y.take (i + 1) ++ (X.drop (i + 1) ++ (Q ++ (X.take (i + 1) ++ (Y.drop (i + 1) ++ R))))) = (P ++ Y.take i) ++ y :: ((X.drop (i + 1) ++ (Q ++ X.take i)) ++ x :: (Y.drop (i + 1) ++ R)) := by
      rw [List.take_add_one, List.take_add_one, hxi, hyi]; simp
    have l1 : (P ++ Y.take i).length = a + i := by rw [List.length_append, List.length_take]; omega
    have l2 : (P ++ Y.take i).length + 1 + (X.drop (i + 1) ++ (Q ++ X.take i)).length = e + i := by rw [l1, List.length_append, List.length_append, List.length_drop, List.length_take]; omega
    have g1 := two_get1 (x := x) (y := y) (M := X.drop (i + 1) ++ (Q ++ X.take i)) (D := Y.drop (i + 1) ++ R) l1
    have g2 := two_get2 (x := x) (y := y) (D := Y.drop (i + 1) ++ R) l2
    have g3 := two_set (x := x) (y := y) (D := Y.drop (i + 1) ++ R) l1 l2
    rw [e0]
    have hlen : ((P ++ Y.take i) ++ x :: ((X.drop (i + 1) ++ (Q ++ X.take i)) ++ y :: (Y.drop (i + 1) ++ R))).length = m := by rw [← e0]; simp only [List.length_append, List.length_take, List.length_drop]; omega
    generalize (P ++ Y.take i) ++ x :: ((X.drop (i + 1) ++ (Q ++ X.take i)) ++ y :: (Y.drop (i + 1) ++ R)) = K at *
    have h1 := get_lt g1
    have h2 := get_lt g2
    have q1 := heldC_at (rest := rest) g1 (0 + (a + i) * 7) (by omega)
    have q2 := heldC_at (rest := rest) g2 (0 + (e + i) * 7) (by omega)
    have s1 := heldC_set (rest := rest) (z := y) h1 (0 + (a + i) * 7) (by omega)
    have b1 := heldC_ble (rest := rest) h1 (0 + (a + i) * 7) (by omega)
    have h3 : e + i < (K.set (a + i) y).length := by rw [List.length_set]; exact h2
    have s2 := heldC_set (rest := rest) (z := x) h3 (0 + (e + i) * 7) (by omega)
    have b2 := heldC_ble (rest := rest) h3 (0 + (e + i) * 7) (by omega)
    rw [g3, ← e1] at s2
    have a1 : IntKind.i64.wrap ((a : Int) + (i : Int)) = ((a + i : Nat) : Int) := wrap_i64 (by omega) (by omega)
    have a2 : IntKind.i64.wrap ((e : Int) + (i : Int)) = ((e + i : Nat) : Int) := wrap_i64 (by omega) (by omega)
    refine V_seq ?_; refine V_seq ?_; refine V_region (id := 1) ?_; refine vo_step (ok_move rfl rfl rfl) rfl ?_; refine vo_step (ok_move rfl rfl rfl) rfl ?_; refine vo_step (ok_lss rfl rfl rfl rfl (decide_eq_true (by omega))) rfl ?_; refine vo_nil ?_; refine N_seq ?_; refine V_true rfl ?_; refine V_skip ?_; refine N_seq ?_; refine V_seq ?_; refine V_block ?_; refine V_regionD (id := 3) [(200029, [900]), (200035, [900]), (100036, [900]), (100037, [900])] mixed (by kernel_rfl) ?_; refine par_step (ok_move rfl rfl rfl) rfl ?_; refine par_step (ok_move rfl rfl rfl) rfl ?_; refine par_step (ok_move rfl rfl rfl) rfl ?_; refine par_step (ok_add rfl rfl rfl rfl (by assumption)) rfl ?_; refine par_step (ok_move rfl rfl rfl) rfl ?_; refine par_step (ok_move rfl rfl rfl) rfl ?_; refine par_step (ok_move rfl rfl rfl) rfl ?_; refine par_step (ok_add rfl rfl rfl rfl (by assumption)) rfl ?_; refine par_step (ok_move rfl rfl rfl) rfl ?_; refine par_step (ok_move rfl rfl rfl) rfl ?_; refine par_step (ok_move rfl rfl rfl) rfl ?_; refine par_step (ok_add rfl rfl rfl rfl (by assumption)) rfl ?_; refine par_step (ok_indexAt L _ rfl rfl rfl rfl rfl rfl rfl (by omega)) rfl ?_; refine par_stepR (ok_loadHA L (q := 900) (vs := [_, _, _, _, _, _, _]) rfl rfl rfl rfl rfl rfl q2) rfl rfl ?_; refine par_step (ok_move rfl rfl rfl) rfl ?_; refine par_step (ok_move rfl rfl rfl) rfl ?_; refine par_step (ok_move rfl rfl rfl) rfl ?_; refine par_step (ok_add rfl rfl rfl rfl (by assumption)) rfl ?_; refine par_step (ok_indexAt L _ rfl rfl rfl rfl rfl rfl rfl (by omega)) rfl ?_; refine par_stepR (ok_loadHA L (q := 900) (vs := [_, _, _, _, _, _, _]) rfl rfl rfl rfl rfl rfl q1) rfl rfl ?_; refine par_step (ok_indexAt L _ rfl rfl rfl rfl rfl rfl rfl (by omega)) rfl ?_; refine par_stepS (ok_storeH L (q := 900) rfl rfl rfl rfl rfl rfl b1 rfl s1) rfl ?_; refine par_step (ok_indexAt L _ rfl rfl rfl rfl rfl rfl rfl (by omega)) rfl ?_; refine par_stepS (ok_storeH L (q := 900) rfl rfl rfl rfl rfl rfl b2 rfl s2) rfl ?_; refine par_nil ?_; refine N_block ?_; refine N_seq ?_; refine V_region (id := 2) ?_; refine vo_step (ok_move rfl rfl rfl) rfl ?_; refine vo_step (ok_add rfl rfl rfl rfl (wrap_i64 (by omega) (by omega))) rfl ?_; refine vo_step (ok_assign rfl rfl rfl) rfl ?_; refine vo_nil ?_
    exact N_round (x := i) (i + 1) (by omega) (by omega) ⟨rfl, rfl, rfl, rfl, rfl, rfl, trivial⟩
  · obtain rfl : i = n := by omega
    have t1 : X.take i = X := List.take_of_length_le (by omega)
    have t2 : Y.take i = Y := List.take_of_length_le (by omega)
    have t3 : X.drop i = [] := List.drop_eq_nil_of_le (by omega)
    have t4 : Y.drop i = [] := List.drop_eq_nil_of_le (by omega)
    rw [t1, t2, t3, t4]
    simp only [List.nil_append]
    refine V_seq ?_; refine V_seq ?_; refine V_region (id := 1) ?_; refine vo_step (ok_move rfl rfl rfl) rfl ?_; refine vo_step (ok_move rfl rfl rfl) rfl ?_; refine vo_step (ok_lss rfl rfl rfl rfl (decide_eq_false (by omega))) rfl ?_; refine vo_nil ?_; refine N_seq ?_; refine V_false rfl ?_; refine V_exit ?_; refine X_then ?_; refine X_then ?_; refine X_here ?_
    exact N_retGhost L 900 (r := GHeld b _ tyC) rfl (fun _ _ h => h) Since.refl rfl rfl
end Go.V.L8
/- The walks of the library's stable sort, at changes: rotation, insertion. -/
namespace Go.V.L8
open Go.Proofs Go.RowKit Go.V Go.V.L2 Go.V.L3 Go.V.L6
def stC (l : List CH) : List CH := stbL (fun c => c.1) cmpT l
theorem stC_len (l : List CH) : (stC l).length = l.length := stbL_len cmpT_ord l
attribute [local irreducible] V N X VO Par StepOK Has Ret RetL RetO RetT RetG Src
set_option maxHeartbeats 1000000 in
set_option maxRecDepth 20000 in
theorem rot_ret {P X Y R : List CH} {rest : List Value} {b m cap a mm e : Nat} (ha : P.length = a) (hmm : a + X.length = mm) (he : mm + Y.length = e) (hx : 0 < X.length) (hy : 0 < Y.length) (hm : (P ++ (X ++ (Y ++ R))).length = m) (hm1 : m ≤ 100000) (fv : Value) {w : World} {B : Heap} {C : Nat → Prop} (hB : B.Le (hp w))
    (hr : (GHeld b ((P ++ (X ++ (Y ++ R))).flatMap ccs ++ rest) tyC).P B w C) (hC : ∀ k, C k → k < w.heap.size ∧ B k = none) :
    RetG Try.prog 128 [.slice (some ⟨b, 0, none⟩) m cap, .int .i64 a, .int .i64 mm, .int .i64 e, fv] w B C (GHeld b ((P ++ (Y ++ (X ++ R))).flatMap ccs ++ rest) tyC) := by
  unfold RetG
  refine V_enterG 900 (GHeld b ((P ++ (X ++ (Y ++ R))).flatMap ccs ++ rest) tyC) Try.func128 rfl Try.ntmps128 (Nat.le_of_ble_eq_true rfl) hB hr hC ?_
  rw [gheld_res]
  simp only [List.length_append] at hm
  have s1 : IntKind.i64.wrap ((mm : Int) - (a : Int)) = (X.length : Int) := wrap_i64 (by omega) (by omega) |>.trans (by omega)
  have s2 : IntKind.i64.wrap ((e : Int) - (mm : Int)) = (Y.length : Int) := wrap_i64 (by omega) (by omega) |>.trans (by omega)
  refine V_seq ?_; refine V_region (id := 0) ?_; refine vo_step (ok_move rfl rfl rfl) rfl ?_; refine vo_step (ok_move rfl rfl rfl) rfl ?_; refine vo_step (ok_sub rfl rfl rfl rfl (by assumption)) rfl ?_; refine vo_step (ok_assign rfl rfl rfl) rfl ?_; refine vo_nil ?_; refine N_seq ?_; refine V_seq ?_; refine V_region (id := 1) ?_; refine vo_step (ok_move rfl rfl rfl) rfl ?_; refine vo_step (ok_move rfl rfl rfl) rfl ?_; refine vo_step (ok_sub rfl rfl rfl rfl (by assumption)) rfl ?_; refine vo_step (ok_assign rfl rfl rfl) rfl ?_; refine vo_nil ?_; refine N_seq ?_; refine V_seq ?_; refine V_block ?_
  refine V_loop (fun s : (List CH × List CH) × (List CH × List CH) => [(0, .is (.slice (some ⟨b, 0, none⟩) m cap)), (2, .is (.int .i64 mm)), (4, .is fv), (10, .is (.int .i64 s.1.2.length)), (11, .is (.int .i64 s.2.1.length)), (900, .own (HeldR b ((P ++ (s.1.1 ++ (s.1.2 ++ (s.2.1 ++ (s.2.2 ++ R))))).flatMap ccs ++ rest) tyC))])
    (fun s => a + s.1.1.length + s.1.2.length = mm ∧ mm + s.2.1.length + s.2.2.length = e ∧ 0 < s.1.2.length ∧ 0 < s.2.1.length ∧ s.1.1 ++ (s.2.1 ++ (s.1.2 ++ s.2.2)) = Y ++ X) (fun s => s.1.2.length + s.2.1.length) (([], X), (Y, [])) ⟨hmm, he, hx, hy, by simp⟩ ⟨rfl, rfl, rfl, rfl, rfl, rfl, trivial⟩ ?_
  rintro ⟨⟨D1, X1⟩, ⟨Y1, D2⟩⟩ ⟨h1, h2, h3, h4, h5⟩
  dsimp only at h1 h2 h3 h4 h5 ⊢
  have hs1 : IntKind.i64.wrap ((mm : Int) - (X1.length : Int)) = ((mm - X1.length : Nat) : Int) := wrap_i64 (by omega) (by omega) |>.trans (by omega)
  by_cases heq : X1.length = Y1.length
  · have e0 : P ++ (D1 ++ (X1 ++ (Y1 ++ (D2 ++ R)))) = (P ++ D1) ++ (X1 ++ ([] ++ (Y1 ++ (D2 ++ R)))) := by simp
    have e1 : (P ++ D1) ++ (Y1 ++ ([] ++ (X1 ++ (D2 ++ R)))) = P ++ (Y ++ (X ++ R)) := by
      have : Y ++ (X ++ R) = D1 ++ (Y1 ++ (X1 ++ D2)) ++ R := by rw [h5]; simp
      rw [this]; simp
    have hlen : ((P ++ D1) ++ (X1 ++ ([] ++ (Y1 ++ (D2 ++ R))))).length = m := by simp only [List.length_append, List.length_nil]; omega
    rw [e0]
    refine V_seq ?_; refine V_seq ?_; refine V_region (id := 2) ?_; refine vo_step (ok_move rfl rfl rfl) rfl ?_; refine vo_step (ok_move rfl rfl rfl) rfl ?_; refine vo_step (ok_neq rfl rfl rfl rfl (decide_eq_false (by omega))) rfl ?_; refine vo_nil ?_; refine N_seq ?_; refine V_false rfl ?_; refine V_exit ?_; refine X_then ?_; refine X_then ?_; refine X_here ?_; refine N_seq ?_; refine V_region (id := 8) ?_; refine vo_step (ok_move rfl rfl rfl) rfl ?_; refine vo_step (ok_move rfl rfl rfl) rfl ?_; refine vo_step (ok_move rfl rfl rfl) rfl ?_; refine vo_step (ok_sub rfl rfl rfl rfl (by assumption)) rfl ?_; refine vo_step (ok_move rfl rfl rfl) rfl ?_; refine vo_step (ok_move rfl rfl rfl) rfl ?_; refine vo_step (ok_move rfl rfl rfl) rfl ?_; refine vo_step2 (ok_callG L 900 (GHeld b (((P ++ D1) ++ (Y1 ++ ([] ++ (X1 ++ (D2 ++ R))))).flatMap ccs ++ rest) tyC) (r := GHeld b (((P ++ D1) ++ (X1 ++ ([] ++ (Y1 ++ (D2 ++ R))))).flatMap ccs ++ rest) tyC) rfl rfl rfl rfl rfl (fun u H C hH _ hr hC => (by have h := swr_ret (cap := cap) (a := mm - X1.length) (e := mm) (n := X1.length) (by rw [List.length_append]; omega) (by simp only [List.length_nil]; omega) rfl heq.symm hlen hm1 fv hH hr hC; exact h))) ?_; refine vo_nil ?_
    rw [e1]
    exact N_retGhost L 900 (r := GHeld b _ tyC) rfl (fun _ _ h => h) Since.refl rfl rfl
  · by_cases hgt : Y1.length < X1.length
    · have hs2 : IntKind.i64.wrap ((X1.length : Int) - (Y1.length : Int)) = ((X1.drop Y1.length).length : Int) := wrap_i64 (by omega) (by omega) |>.trans (by rw [List.length_drop]; omega)
      have lt : (X1.take Y1.length).length = Y1.length := by rw [List.length_take]; omega
      have e0 : P ++ (D1 ++ (X1 ++ (Y1 ++ (D2 ++ R)))) = (P ++ D1) ++ (X1.take Y1.length ++ (X1.drop Y1.length ++ (Y1 ++ (D2 ++ R)))) := by
        conv => lhs; rw [← List.take_append_drop Y1.length X1]
        simp only [List.append_assoc]
      have e1 : (P ++ D1) ++ (Y1 ++ (X1.drop Y1.length ++ (X1.take Y1.length ++ (D2 ++ R)))) = P ++ ((D1 ++ Y1) ++ (X1.drop Y1.length ++ (X1.take Y1.length ++ (D2 ++ R)))) := by simp
      have hlen : ((P ++ D1) ++ (X1.take Y1.length ++ (X1.drop Y1.length ++ (Y1 ++ (D2 ++ R))))).length = m := by rw [← e0]; simp only [List.length_append]; omega
      have hld : (X1.drop Y1.length).length = X1.length - Y1.length := List.length_drop
      rw [e0]
      refine V_seq ?_; refine V_seq ?_; refine V_region (id := 2) ?_; refine vo_step (ok_move rfl rfl rfl) rfl ?_; refine vo_step (ok_move rfl rfl rfl) rfl ?_; refine vo_step (ok_neq rfl rfl rfl rfl (decide_eq_true (by omega))) rfl ?_; refine vo_nil ?_; refine N_seq ?_; refine V_true rfl ?_; refine V_skip ?_; refine N_seq ?_; refine V_block ?_; refine V_seq ?_; refine V_region (id := 3) ?_; refine vo_step (ok_move rfl rfl rfl) rfl ?_; refine vo_step (ok_move rfl rfl rfl) rfl ?_; refine vo_step (ok_gtr rfl rfl rfl rfl (decide_eq_true (by omega))) rfl ?_; refine vo_nil ?_; refine N_seq ?_; refine V_true rfl ?_; refine V_seq ?_; refine V_region (id := 4) ?_; refine vo_step (ok_move rfl rfl rfl) rfl ?_; refine vo_step (ok_move rfl rfl rfl) rfl ?_; refine vo_step (ok_move rfl rfl rfl) rfl ?_; refine vo_step (ok_sub rfl rfl rfl rfl (by assumption)) rfl ?_; refine vo_step (ok_move rfl rfl rfl) rfl ?_; refine vo_step (ok_move rfl rfl rfl) rfl ?_; refine vo_step (ok_move rfl rfl rfl) rfl ?_; refine vo_step2 (ok_callG L 900 (GHeld b (((P ++ D1) ++ (Y1 ++ (X1.drop Y1.length ++ (X1.take Y1.length ++ (D2 ++ R))))).flatMap ccs ++ rest) tyC) (r := GHeld b (((P ++ D1) ++ (X1.take Y1.length ++ (X1.drop Y1.length ++ (Y1 ++ (D2 ++ R))))).flatMap ccs ++ rest) tyC) rfl rfl rfl rfl rfl (fun u H C hH _ hr hC => (by have h := swr_ret (cap := cap) (a := mm - X1.length) (e := mm) (n := Y1.length) (by rw [List.length_append]; omega) (by omega) lt rfl hlen hm1 fv hH hr hC; exact h))) ?_; refine vo_nil ?_; refine N_seq ?_; refine V_region (id := 5) ?_; refine vo_step (ok_move rfl rfl rfl) rfl ?_; refine vo_step (ok_move rfl rfl rfl) rfl ?_; refine vo_step (ok_sub rfl rfl rfl rfl (by assumption)) rfl ?_; refine vo_step (ok_assign rfl rfl rfl) rfl ?_; refine vo_nil ?_; refine N_block ?_
      rw [e1]
      exact N_round (x := ((D1, X1), (Y1, D2))) ((D1 ++ Y1, X1.drop Y1.length), (X1.take Y1.length, D2)) ⟨by dsimp only; rw [List.length_append]; omega, by dsimp only; omega, by dsimp only; omega, by dsimp only; omega, by
        dsimp only
        rw [← h5]
        conv => rhs; rw [← List.take_append_drop Y1.length X1]
        simp only [List.append_assoc]⟩ (by dsimp only; omega) ⟨rfl, rfl, rfl, rfl, by dsimp only; rw [lt]; rfl, rfl, trivial⟩
    · have hs2 : IntKind.i64.wrap ((Y1.length : Int) - (X1.length : Int)) = ((Y1.take (Y1.length - X1.length)).length : Int) := wrap_i64 (by omega) (by omega) |>.trans (by rw [List.length_take]; omega)
      have hs3 : IntKind.i64.wrap ((mm : Int) + (Y1.length : Int)) = ((mm + Y1.length : Nat) : Int) := wrap_i64 (by omega) (by omega)
      have hs4 : IntKind.i64.wrap (((mm + Y1.length : Nat) : Int) - (X1.length : Int)) = ((mm + Y1.length - X1.length : Nat) : Int) := wrap_i64 (by omega) (by omega) |>.trans (by omega)
      have lt : (Y1.take (Y1.length - X1.length)).length = Y1.length - X1.length := by rw [List.length_take]; omega
      have ld : (Y1.drop (Y1.length - X1.length)).length = X1.length := by rw [List.length_drop]; omega
      have e0 : P ++ (D1 ++ (X1 ++ (Y1 ++ (D2 ++ R)))) = (P ++ D1) ++ (X1 ++ (Y1.take (Y1.length - X1.length) ++ (Y1.drop (Y1.length - X1.length) ++ (D2 ++ R)))) := by
        conv => lhs; rw [← List.take_append_drop (Y1.length - X1.length) Y1]
        simp only [List.append_assoc]
      have e1 : (P ++ D1) ++ (Y1.drop (Y1.length - X1.length) ++ (Y1.take (Y1.length - X1.length) ++ (X1 ++ (D2 ++ R)))) = P ++ (D1 ++ (Y1.drop (Y1.length - X1.length) ++ (Y1.take (Y1.length - X1.length) ++ ((X1 ++ D2) ++ R)))) := by simp
      have hlen : ((P ++ D1) ++ (X1 ++ (Y1.take (Y1.length - X1.length) ++ (Y1.drop (Y1.length - X1.length) ++ (D2 ++ R))))).length = m := by rw [← e0]; simp only [List.length_append]; omega
      rw [e0]
      refine V_seq ?_; refine V_seq ?_; refine V_region (id := 2) ?_; refine vo_step (ok_move rfl rfl rfl) rfl ?_; refine vo_step (ok_move rfl rfl rfl) rfl ?_; refine vo_step (ok_neq rfl rfl rfl rfl (decide_eq_true (by omega))) rfl ?_; refine vo_nil ?_; refine N_seq ?_; refine V_true rfl ?_; refine V_skip ?_; refine N_seq ?_; refine V_block ?_; refine V_seq ?_; refine V_region (id := 3) ?_; refine vo_step (ok_move rfl rfl rfl) rfl ?_; refine vo_step (ok_move rfl rfl rfl) rfl ?_; refine vo_step (ok_gtr rfl rfl rfl rfl (decide_eq_false (by omega))) rfl ?_; refine vo_nil ?_; refine N_seq ?_; refine V_false rfl ?_; refine V_seq ?_; refine V_region (id := 6) ?_; refine vo_step (ok_move rfl rfl rfl) rfl ?_; refine vo_step (ok_move rfl rfl rfl) rfl ?_; refine vo_step (ok_move rfl rfl rfl) rfl ?_; refine vo_step (ok_sub rfl rfl rfl rfl (by assumption)) rfl ?_; refine vo_step (ok_move rfl rfl rfl) rfl ?_; refine vo_step (ok_move rfl rfl rfl) rfl ?_; refine vo_step (ok_add rfl rfl rfl rfl (by assumption)) rfl ?_; refine vo_step (ok_move rfl rfl rfl) rfl ?_; refine vo_step (ok_sub rfl rfl rfl rfl (by assumption)) rfl ?_; refine vo_step (ok_move rfl rfl rfl) rfl ?_; refine vo_step (ok_move rfl rfl rfl) rfl ?_; refine vo_step2 (ok_callG L 900 (GHeld b (((P ++ D1) ++ (Y1.drop (Y1.length - X1.length) ++ (Y1.take (Y1.length - X1.length) ++ (X1 ++ (D2 ++ R))))).flatMap ccs ++ rest) tyC) (r := GHeld b (((P ++ D1) ++ (X1 ++ (Y1.take (Y1.length - X1.length) ++ (Y1.drop (Y1.length - X1.length) ++ (D2 ++ R))))).flatMap ccs ++ rest) tyC) rfl rfl rfl rfl rfl (fun u H C hH _ hr hC => (by have h := swr_ret (cap := cap) (a := mm - X1.length) (e := mm + Y1.length - X1.length) (n := X1.length) (by rw [List.length_append]; omega) (by omega) rfl ld hlen hm1 fv hH hr hC; exact h))) ?_; refine vo_nil ?_; refine N_seq ?_; refine V_region (id := 7) ?_; refine vo_step (ok_move rfl rfl rfl) rfl ?_; refine vo_step (ok_move rfl rfl rfl) rfl ?_; refine vo_step (ok_sub rfl rfl rfl rfl (by assumption)) rfl ?_; refine vo_step (ok_assign rfl rfl rfl) rfl ?_; refine vo_nil ?_; refine N_block ?_
      rw [e1]
      exact N_round (x := ((D1, X1), (Y1, D2))) ((D1, Y1.drop (Y1.length - X1.length)), (Y1.take (Y1.length - X1.length), X1 ++ D2)) ⟨by dsimp only; omega, by dsimp only; rw [List.length_append]; omega, by dsimp only; omega, by dsimp only; omega, by
        dsimp only
        rw [← h5]
        conv => rhs; rw [← List.take_append_drop (Y1.length - X1.length) Y1]
        simp only [List.append_assoc]⟩ (by dsimp only; omega) ⟨rfl, rfl, rfl, by dsimp only; rw [ld]; rfl, rfl, rfl, trivial⟩
abbrev ORD : Nat := 90
abbrev ordV : Value := .func (.func ORD) #[] #[]
theorem ordC_ret {x y : CH} {w : World} {B : Heap} (hB : B.Le (hp w)) : Ret Try.prog ORD ([chv x.1 x.2, chv y.1 y.2] ++ []) w B (fun r _ => r = .int .i64 (cmpT x.1 y.1)) := by
  refine V_enter Try.func90 rfl Try.ntmps90 (Nat.le_of_ble_eq_true rfl) hB ?_
  refine V_seq ?_; refine V_region (id := 0) ?_; refine vo_step (ok_box rfl rfl rfl rfl) rfl ?_; refine vo_step (ok_box rfl rfl rfl rfl) rfl ?_; refine vo_step (ok_assign rfl rfl rfl) rfl ?_; refine vo_nil ?_; refine N_seq ?_; refine V_seq ?_; refine V_region (id := 1) ?_; refine vo_step (ok_fieldAt L rfl rfl rfl rfl) rfl ?_; refine vo_step (ok_loadA L (vs := [_, _, _, _, _, _]) (src_at rfl) rfl rfl rfl rfl ⟨_, rfl⟩) rfl ?_; refine vo_step (ok_fieldAt L rfl rfl rfl rfl) rfl ?_; refine vo_step (ok_loadA L (vs := [_, _, _, _, _, _]) (src_at rfl) rfl rfl rfl rfl ⟨_, rfl⟩) rfl ?_; refine vo_step (ok_callx L rfl rfl (blt_lt rfl) rfl rfl rfl (fun u H hH _ _ => tcmp_ret (a := x.1) (b := y.1) hH)) rfl ?_; refine vo_step (ok_assign rfl rfl rfl) rfl ?_; refine vo_nil ?_; refine N_seq ?_
  refine V_ret L (rs := [.tmp 4]) rfl (fun _ _ h => h) Since.refl fun u H hH hle => ?_
  rfl
set_option maxHeartbeats 1000000 in
set_option maxRecDepth 20000 in
theorem ins_ret {P X R : List CH} {rest : List Value} {b m cap a e : Nat} (ha : P.length = a) (he : a + X.length = e) (hm : (P ++ (X ++ R)).length = m) (hm1 : m ≤ 100000) {w : World} {B : Heap} {C : Nat → Prop} (hB : B.Le (hp w))
    (hr : (GHeld b ((P ++ (X ++ R)).flatMap ccs ++ rest) tyC).P B w C) (hC : ∀ k, C k → k < w.heap.size ∧ B k = none) :
    RetG Try.prog 122 [.slice (some ⟨b, 0, none⟩) m cap, .int .i64 a, .int .i64 e, ordV] w B C (GHeld b ((P ++ (stC X ++ R)).flatMap ccs ++ rest) tyC) := by
  unfold RetG
  refine V_enterG 900 (GHeld b ((P ++ (X ++ R)).flatMap ccs ++ rest) tyC) Try.func122 rfl Try.ntmps122 (Nat.le_of_ble_eq_true rfl) hB hr hC ?_
  rw [gheld_res]
  simp only [List.length_append] at hm
  have hst1 : stC (X.take 1) = X.take 1 := by rcases X with _ | ⟨x, X⟩ <;> rfl
  refine V_seq ?_; refine V_region (id := 0) ?_; refine vo_step (ok_move rfl rfl rfl) rfl ?_; refine vo_step (ok_add rfl rfl rfl rfl (wrap_i64 (by omega) (by omega))) rfl ?_; refine vo_step (ok_assign rfl rfl rfl) rfl ?_; refine vo_nil ?_; refine N_seq ?_; refine V_block ?_
  refine V_loop (fun s : Nat => [(0, .is (.slice (some ⟨b, 0, none⟩) m cap)), (1, .is (.int .i64 a)), (2, .is (.int .i64 e)), (3, .is ordV), (8, .is (.int .i64 (a + s : Nat))), (900, .own (HeldR b ((P ++ (stC (X.take s) ++ (X.drop s ++ R))).flatMap ccs ++ rest) tyC))]) (fun s => 1 ≤ s ∧ s ≤ max X.length 1) (fun s => X.length - s) 1 ⟨Nat.le_refl _, by omega⟩ ⟨rfl, rfl, rfl, rfl, rfl, by rw [hst1, ← List.append_assoc (X.take 1), List.take_append_drop]; rfl, trivial⟩ ?_
  rintro s ⟨hs1, hs2⟩
  by_cases hlt : s < X.length
  · obtain ⟨x, hx⟩ := get_some hlt
    have hsl : (stC (X.take s)).length = s := by rw [stC_len, List.length_take]; omega
    refine V_seq ?_; refine V_seq ?_; refine V_region (id := 1) ?_; refine vo_step (ok_move rfl rfl rfl) rfl ?_; refine vo_step (ok_move rfl rfl rfl) rfl ?_; refine vo_step (ok_lss rfl rfl rfl rfl (decide_eq_true (by omega))) rfl ?_; refine vo_nil ?_; refine N_seq ?_; refine V_true rfl ?_; refine V_skip ?_; refine N_seq ?_; refine V_seq ?_; refine V_block ?_; refine V_seq ?_; refine V_region (id := 3) ?_; refine vo_step (ok_move rfl rfl rfl) rfl ?_; refine vo_step (ok_assign rfl rfl rfl) rfl ?_; refine vo_nil ?_; refine N_seq ?_; refine V_block ?_
    refine V_loop (fun t : List CH × List CH => [(0, .is (.slice (some ⟨b, 0, none⟩) m cap)), (1, .is (.int .i64 a)), (2, .is (.int .i64 e)), (3, .is ordV), (8, .is (.int .i64 (a + s : Nat))), (9, .is (.int .i64 (a + t.1.length : Nat))), (900, .own (HeldR b ((P ++ (t.1 ++ (x :: (t.2 ++ (X.drop (s + 1) ++ R))))).flatMap ccs ++ rest) tyC))])
      (fun t => t.1 ++ t.2 = stC (X.take s) ∧ ∀ z ∈ t.2, cmpT x.1 z.1 < 0) (fun t => t.1.length) (stC (X.take s), []) ⟨List.append_nil _, fun z hz => (by cases hz)⟩ ⟨rfl, rfl, rfl, rfl, rfl, by dsimp only; rw [hsl]; rfl, by dsimp only; rw [drop_g hx]; rfl, trivial⟩ ?_
    rintro ⟨A, D⟩ ⟨hAD, hD⟩
    dsimp only at hAD hD ⊢
    have hAl : A.length + D.length = s := by rw [← List.length_append, hAD, hsl]
    have hfin : (∀ y, A.getLast? = some y → ¬ cmpT x.1 y.1 < 0) → P ++ (A ++ (x :: (D ++ (X.drop (s + 1) ++ R)))) = P ++ (stC (X.take (s + 1)) ++ (X.drop (s + 1) ++ R)) := fun h => by
      have := ins_end (k := fun c : CH => c.1) cmpT_ord (x := x) hAD hD h
      rw [List.take_add_one, hx]
      unfold stC
      show _ = P ++ (stbL (fun c : CH => c.1) cmpT (X.take s ++ [x]) ++ _)
      rw [← this]; simp
    rcases List.eq_nil_or_concat A with hA | ⟨A', y, hA⟩
    · subst hA
      rw [hfin (fun y hy => by simp at hy), List.length_nil, Nat.add_zero]
      refine V_seq ?_; refine V_seq ?_; refine V_regionD (id := 4) [(200026, [900]), (200031, [900])] mixed (by kernel_rfl) ?_; refine par_step (ok_move rfl rfl rfl) rfl ?_; refine par_step (ok_move rfl rfl rfl) rfl ?_; refine par_step (ok_gtr rfl rfl rfl rfl (decide_eq_false (by omega))) rfl ?_; refine par_step (ok_move rfl rfl rfl) rfl ?_; refine par_step (ok_skip rfl (blt_lt rfl) rfl) rfl ?_; refine par_step (ok_skip rfl (blt_lt rfl) rfl) rfl ?_; refine par_step (ok_skip rfl (blt_lt rfl) rfl) rfl ?_; refine par_step (ok_skip rfl (blt_lt rfl) rfl) rfl ?_; refine par_step (ok_skip rfl (blt_lt rfl) rfl) rfl ?_; refine par_step (ok_skip rfl (blt_lt rfl) rfl) rfl ?_; refine par_step (ok_skip rfl (blt_lt rfl) rfl) rfl ?_; refine par_step (ok_skip rfl (blt_lt rfl) rfl) rfl ?_; refine par_step (ok_skip rfl (blt_lt rfl) rfl) rfl ?_; refine par_step (ok_skip rfl (blt_lt rfl) rfl) rfl ?_; refine par_step (ok_skip rfl (blt_lt rfl) rfl) rfl ?_; refine par_step (ok_skip rfl (blt_lt rfl) rfl) rfl ?_; refine par_step (ok_pick rfl rfl rfl rfl) rfl ?_; refine par_nil ?_; refine N_seq ?_; refine V_false rfl ?_; refine V_exit ?_; refine X_then ?_; refine X_then ?_; refine X_here ?_; refine N_block ?_; refine N_seq ?_; refine V_region (id := 2) ?_; refine vo_step (ok_move rfl rfl rfl) rfl ?_; refine vo_step (ok_add rfl rfl rfl rfl (wrap_i64 (by omega) (by omega))) rfl ?_; refine vo_step (ok_assign rfl rfl rfl) rfl ?_; refine vo_nil ?_
      exact N_round (x := s) (s + 1) ⟨by omega, by omega⟩ (by omega) ⟨rfl, rfl, rfl, rfl, rfl, rfl, trivial⟩
    · rw [List.concat_eq_append] at hA
      subst hA
      have hl9 : (A' ++ [y]).length = A'.length + 1 := by rw [List.length_append, List.length_singleton]
      rw [hl9] at hAl
      have e0 : P ++ ((A' ++ [y]) ++ (x :: (D ++ (X.drop (s + 1) ++ R)))) = (P ++ A') ++ y :: ([] ++ x :: (D ++ (X.drop (s + 1) ++ R))) := by simp
      have l1 : (P ++ A').length = a + A'.length := by rw [List.length_append, ha]
      have l2 : (P ++ A').length + 1 + ([] : List CH).length = a + (A' ++ [y]).length := by rw [l1, hl9]; rfl
      have g1 := two_get1 (x := y) (y := x) (M := []) (D := D ++ (X.drop (s + 1) ++ R)) l1
      have g2 := two_get2 (x := y) (y := x) (D := D ++ (X.drop (s + 1) ++ R)) l2
      have g3 := two_set' (x := y) (y := x) (D := D ++ (X.drop (s + 1) ++ R)) l1 l2
      have e1 : (P ++ A') ++ x :: ([] ++ y :: (D ++ (X.drop (s + 1) ++ R))) = P ++ (A' ++ (x :: ((y :: D) ++ (X.drop (s + 1) ++ R)))) := by simp
      have hlen : ((P ++ A') ++ y :: ([] ++ x :: (D ++ (X.drop (s + 1) ++ R)))).length = m := by rw [← e0]; simp only [List.length_append, List.length_cons, List.length_nil, List.length_drop]; omega
      have hw1 : IntKind.i64.wrap (((a + (A' ++ [y]).length : Nat) : Int) - 1) = ((a + A'.length : Nat) : Int) := wrap_i64 (by omega) (by omega) |>.trans (by omega)
      by_cases hc : cmpT x.1 y.1 < 0
      · rw [e0]
        rw [e1] at g3
        generalize (P ++ A') ++ y :: ([] ++ x :: (D ++ (X.drop (s + 1) ++ R))) = K at *
        have h1 := get_lt g1
        have h2 := get_lt g2
        have q1 := heldC_at (rest := rest) g1 (0 + (a + A'.length) * 7) (by omega)
        have q2 := heldC_at (rest := rest) g2 (0 + (a + (A' ++ [y]).length) * 7) (by omega)
        have s1 := heldC_set (rest := rest) (z := y) h2 (0 + (a + (A' ++ [y]).length) * 7) (by omega)
        have b1 := heldC_ble (rest := rest) h2 (0 + (a + (A' ++ [y]).length) * 7) (by omega)
        have h3 : a + A'.length < (K.set (a + (A' ++ [y]).length) y).length := by rw [List.length_set]; exact h1
        have s2 := heldC_set (rest := rest) (z := x) h3 (0 + (a + A'.length) * 7) (by omega)
        have b2 := heldC_ble (rest := rest) h3 (0 + (a + A'.length) * 7) (by omega)
        rw [g3] at s2
        refine V_seq ?_; refine V_seq ?_; refine V_regionD (id := 4) [(200026, [900]), (200031, [900])] mixed (by kernel_rfl) ?_; refine par_step (ok_move rfl rfl rfl) rfl ?_; refine par_step (ok_move rfl rfl rfl) rfl ?_; refine par_step (ok_gtr rfl rfl rfl rfl (decide_eq_true (by omega))) rfl ?_; refine par_step (ok_move rfl rfl rfl) rfl ?_; refine par_step (ok_move rfl rfl rfl) rfl ?_; refine par_step (ok_move rfl rfl rfl) rfl ?_; refine par_step (ok_move rfl rfl rfl) rfl ?_; refine par_step (ok_indexAt L _ rfl rfl rfl rfl rfl rfl rfl (by omega)) rfl ?_; refine par_stepR (ok_loadHA L (q := 900) (vs := [_, _, _, _, _, _, _]) rfl rfl rfl rfl rfl rfl q2) rfl rfl ?_; refine par_step (ok_move rfl rfl rfl) rfl ?_; refine par_step (ok_move rfl rfl rfl) rfl ?_; refine par_step (ok_sub rfl rfl rfl rfl (by assumption)) rfl ?_; refine par_step (ok_indexAt L _ rfl rfl rfl rfl rfl rfl rfl (by omega)) rfl ?_; refine par_stepR (ok_loadHA L (q := 900) (vs := [_, _, _, _, _, _, _]) rfl rfl rfl rfl rfl rfl q1) rfl rfl ?_; refine par_step (ok_callx L rfl rfl (blt_lt rfl) rfl rfl rfl (fun u H hH _ _ => ordC_ret hH)) rfl ?_; refine par_step (ok_lss rfl rfl rfl rfl (decide_eq_true (by omega))) rfl ?_; refine par_step (ok_pick rfl rfl rfl rfl) rfl ?_; refine par_nil ?_; refine N_seq ?_; refine V_true rfl ?_; refine V_skip ?_; refine N_seq ?_; refine V_seq ?_; refine V_block ?_; refine V_regionD (id := 6) [(200046, [900]), (200050, [900]), (100051, [900]), (100052, [900])] mixed (by kernel_rfl) ?_; refine par_step (ok_move rfl rfl rfl) rfl ?_; refine par_step (ok_move rfl rfl rfl) rfl ?_; refine par_step (ok_move rfl rfl rfl) rfl ?_; refine par_step (ok_move rfl rfl rfl) rfl ?_; refine par_step (ok_sub rfl rfl rfl rfl (by assumption)) rfl ?_; refine par_step (ok_move rfl rfl rfl) rfl ?_; refine par_step (ok_move rfl rfl rfl) rfl ?_; refine par_step (ok_sub rfl rfl rfl rfl (by assumption)) rfl ?_; refine par_step (ok_indexAt L _ rfl rfl rfl rfl rfl rfl rfl (by omega)) rfl ?_; refine par_stepR (ok_loadHA L (q := 900) (vs := [_, _, _, _, _, _, _]) rfl rfl rfl rfl rfl rfl q1) rfl rfl ?_; refine par_step (ok_move rfl rfl rfl) rfl ?_; refine par_step (ok_move rfl rfl rfl) rfl ?_; refine par_step (ok_indexAt L _ rfl rfl rfl rfl rfl rfl rfl (by omega)) rfl ?_; refine par_stepR (ok_loadHA L (q := 900) (vs := [_, _, _, _, _, _, _]) rfl rfl rfl rfl rfl rfl q2) rfl rfl ?_; refine par_step (ok_indexAt L _ rfl rfl rfl rfl rfl rfl rfl (by omega)) rfl ?_; refine par_stepS (ok_storeH L (q := 900) rfl rfl rfl rfl rfl rfl b1 rfl s1) rfl ?_; refine par_step (ok_indexAt L _ rfl rfl rfl rfl rfl rfl rfl (by omega)) rfl ?_; refine par_stepS (ok_storeH L (q := 900) rfl rfl rfl rfl rfl rfl b2 rfl s2) rfl ?_; refine par_nil ?_; refine N_block ?_; refine N_seq ?_; refine V_region (id := 5) ?_; refine vo_step (ok_move rfl rfl rfl) rfl ?_; refine vo_step (ok_sub rfl rfl rfl rfl (by assumption)) rfl ?_; refine vo_step (ok_assign rfl rfl rfl) rfl ?_; refine vo_nil ?_
        exact N_round (x := (A' ++ [y], D)) (A', y :: D) ⟨by rw [← hAD]; simp, fun z hz => by
          rcases List.mem_cons.1 hz with rfl | hz
          · exact hc
          · exact hD z hz⟩ (by dsimp only; omega) ⟨rfl, rfl, rfl, rfl, rfl, rfl, rfl, trivial⟩
      · have hf := hfin (fun z hz => by rw [List.getLast?_append] at hz; simp at hz; subst hz; exact hc)
        rw [e0]
        rw [e0] at hf
        have q1 := heldC_at (rest := rest) g1 (0 + (a + A'.length) * 7) (by omega)
        have q2 := heldC_at (rest := rest) g2 (0 + (a + (A' ++ [y]).length) * 7) (by omega)
        rw [hf] at q1 q2 ⊢
        refine V_seq ?_; refine V_seq ?_; refine V_regionD (id := 4) [(200026, [900]), (200031, [900])] mixed (by kernel_rfl) ?_; refine par_step (ok_move rfl rfl rfl) rfl ?_; refine par_step (ok_move rfl rfl rfl) rfl ?_; refine par_step (ok_gtr rfl rfl rfl rfl (decide_eq_true (by omega))) rfl ?_; refine par_step (ok_move rfl rfl rfl) rfl ?_; refine par_step (ok_move rfl rfl rfl) rfl ?_; refine par_step (ok_move rfl rfl rfl) rfl ?_; refine par_step (ok_move rfl rfl rfl) rfl ?_; refine par_step (ok_indexAt L _ rfl rfl rfl rfl rfl rfl rfl (by omega)) rfl ?_; refine par_stepR (ok_loadHA L (q := 900) (vs := [_, _, _, _, _, _, _]) rfl rfl rfl rfl rfl rfl q2) rfl rfl ?_; refine par_step (ok_move rfl rfl rfl) rfl ?_; refine par_step (ok_move rfl rfl rfl) rfl ?_; refine par_step (ok_sub rfl rfl rfl rfl (by assumption)) rfl ?_; refine par_step (ok_indexAt L _ rfl rfl rfl rfl rfl rfl rfl (by omega)) rfl ?_; refine par_stepR (ok_loadHA L (q := 900) (vs := [_, _, _, _, _, _, _]) rfl rfl rfl rfl rfl rfl q1) rfl rfl ?_; refine par_step (ok_callx L rfl rfl (blt_lt rfl) rfl rfl rfl (fun u H hH _ _ => ordC_ret hH)) rfl ?_; refine par_step (ok_lss rfl rfl rfl rfl (decide_eq_false (by omega))) rfl ?_; refine par_step (ok_pick rfl rfl rfl rfl) rfl ?_; refine par_nil ?_; refine N_seq ?_; refine V_false rfl ?_; refine V_exit ?_; refine X_then ?_; refine X_then ?_; refine X_here ?_; refine N_block ?_; refine N_seq ?_; refine V_region (id := 2) ?_; refine vo_step (ok_move rfl rfl rfl) rfl ?_; refine vo_step (ok_add rfl rfl rfl rfl (wrap_i64 (by omega) (by omega))) rfl ?_; refine vo_step (ok_assign rfl rfl rfl) rfl ?_; refine vo_nil ?_
        exact N_round (x := s) (s + 1) ⟨by omega, by omega⟩ (by omega) ⟨rfl, rfl, rfl, rfl, rfl, rfl, trivial⟩
  · have hX : P ++ (stC (X.take s) ++ (X.drop s ++ R)) = P ++ (stC X ++ R) := by
      rw [List.take_of_length_le (by omega), List.drop_eq_nil_of_le (by omega), List.nil_append]
    rw [hX]
    refine V_seq ?_; refine V_seq ?_; refine V_region (id := 1) ?_; refine vo_step (ok_move rfl rfl rfl) rfl ?_; refine vo_step (ok_move rfl rfl rfl) rfl ?_; refine vo_step (ok_lss rfl rfl rfl rfl (decide_eq_false (by omega))) rfl ?_; refine vo_nil ?_; refine N_seq ?_; refine V_false rfl ?_; refine V_exit ?_; refine X_then ?_; refine X_then ?_; refine X_here ?_
    exact N_retGhost L 900 (r := GHeld b _ tyC) rfl (fun _ _ h => h) Since.refl rfl rfl
end Go.V.L8
/- Stable sorting: symmetric merging, plain. -/
namespace Go.V
open Go.Proofs Go.RowKit
section
variable {α β : Type} [DecidableEq α] [DecidableEq β] {k : α → β} {c : β → β → Int}
omit [DecidableEq β] in
theorem le_lt (ho : Ord3 c) {z y x : β} (h1 : ¬ c y z < 0) (h2 : c y x < 0) : c z x < 0 := by
  by_cases h3 : c z y < 0
  · exact ho.tr h3 h2
  · have := ho.anti y z
    rw [ho.eq z y (by omega)]; exact h2
omit [DecidableEq β] in
theorem lt_le (ho : Ord3 c) {x y z : β} (h1 : c y x < 0) (h2 : ¬ c z x < 0) : c y z < 0 := by
  by_cases h3 : c x z < 0
  · exact ho.tr h1 h3
  · have := ho.anti x z
    rw [ho.eq z x (by omega)]; exact h1
/-- What the search of a symmetric merge keeps. -/
structure SymI (k : α → β) (c : β → β → Int) (X Y : List α) (a mid lo hi s r : Nat) : Prop where
  ls : lo ≤ s
  sr : s ≤ r
  rh : r ≤ hi
  bef : ∀ i x y, lo ≤ i → i < s → X[i - a]? = some x → Y[mid - 1 - i]? = some y → ¬ c (k y) (k x) < 0
  aft : ∀ i x y, r ≤ i → i < hi → X[i - a]? = some x → Y[mid - 1 - i]? = some y → c (k y) (k x) < 0
/-- Where the search of a symmetric merge may go. -/
structure SymB (X Y : List α) (a mm e mid lo hi : Nat) : Prop where
  lx : a + X.length = mm
  ly : mm + Y.length = e
  al : a ≤ lo
  nl : mid + mm ≤ lo + e
  hm : hi ≤ mid
  hx : hi ≤ mm
  lo_ : lo = a ∨ mid + mm = lo + e
  hi_ : hi = mm ∨ hi = mid
omit [DecidableEq α] [DecidableEq β] in
theorem SymI.start {X Y : List α} {a mid lo hi : Nat} (h : lo ≤ hi) : SymI k c X Y a mid lo hi lo hi := ⟨Nat.le_refl _, h, Nat.le_refl _, fun i x y h1 h2 => by omega, fun i x y h1 h2 => by omega⟩
omit [DecidableEq α] [DecidableEq β] in
theorem SymI.up (ho : Ord3 c) {X Y : List α} (hX : Srt k c X) (hY : Srt k c Y) {a mm e mid lo hi s r i : Nat} {x y : α} (hb : SymB X Y a mm e mid lo hi) (h : SymI k c X Y a mid lo hi s r) (h1 : s ≤ i) (h2 : i < r) (hx : X[i - a]? = some x) (hy : Y[mid - 1 - i]? = some y) (hc : ¬ c (k y) (k x) < 0) : SymI k c X Y a mid lo hi (i + 1) r := by
  obtain ⟨b1, b2, b3, b4, b5, b6, _, _⟩ := hb
  obtain ⟨i1, i2, i3, i4, i5⟩ := h
  refine ⟨by omega, by omega, i3, fun j x' y' hj hji hx' hy' hlt => hc ?_, i5⟩
  have e1 := srt_le ho hX hx' hx (by omega)
  have e2 := srt_le ho hY hy hy' (by omega)
  exact le_lt ho e2 (lt_le ho hlt e1)
omit [DecidableEq α] [DecidableEq β] in
theorem SymI.down (ho : Ord3 c) {X Y : List α} (hX : Srt k c X) (hY : Srt k c Y) {a mm e mid lo hi s r i : Nat} {x y : α} (hb : SymB X Y a mm e mid lo hi) (h : SymI k c X Y a mid lo hi s r) (h1 : s ≤ i) (h2 : i < r) (hx : X[i - a]? = some x) (hy : Y[mid - 1 - i]? = some y) (hc : c (k y) (k x) < 0) : SymI k c X Y a mid lo hi s i := by
  obtain ⟨b1, b2, b3, b4, b5, b6, _, _⟩ := hb
  obtain ⟨i1, i2, i3, i4, i5⟩ := h
  refine ⟨by omega, by omega, by omega, i4, fun j x' y' hj hji hx' hy' => ?_⟩
  have e1 := srt_le ho hX hx hx' (by omega)
  have e2 := srt_le ho hY hy' hy (by omega)
  exact le_lt ho e2 (lt_le ho hc e1)
theorem sym_join (ho : Ord3 c) {X Y : List α} (hX : Srt k c X) (hY : Srt k c Y) {a mm e mid lo hi s : Nat} (hb : SymB X Y a mm e mid lo hi) (h : SymI k c X Y a mid lo hi s s) :
    stbL k c (X.take (s - a) ++ Y.take (mid - s)) ++ stbL k c (X.drop (s - a) ++ Y.drop (mid - s)) = stbL k c (X ++ Y) := by
  obtain ⟨b1, b2, b3, b4, b5, b6, b7, b8⟩ := hb
  obtain ⟨i1, i2, i3, i4, i5⟩ := h
  have hXt : X.take (s - a) ++ X.drop (s - a) = X := List.take_append_drop _ _
  have hYt : Y.take (mid - s) ++ Y.drop (mid - s) = Y := List.take_append_drop _ _
  have h12 : ∀ x ∈ X.drop (s - a), ∀ y ∈ Y.take (mid - s), c (k y) (k x) < 0 := fun x hx y hy => by
    obtain ⟨i, hi⟩ := List.getElem?_of_mem hx
    obtain ⟨j, hj⟩ := List.getElem?_of_mem hy
    have hjl := get_lt hj
    rw [List.length_take] at hjl
    rw [List.getElem?_drop] at hi
    rw [List.getElem?_take_of_lt (by omega)] at hj
    have hil := get_lt hi
    obtain ⟨x0, hx0⟩ := get_some (l := X) (i := s - a) (by omega)
    obtain ⟨y0, hy0⟩ := get_some (l := Y) (i := mid - 1 - s) (by omega)
    have h0 := i5 s x0 y0 (Nat.le_refl _) (by omega) hx0 hy0
    exact le_lt ho (srt_le ho hY hj hy0 (by omega)) (lt_le ho h0 (srt_le ho hX hx0 hi (by omega)))
  have h21 : ∀ x ∈ X.take (s - a), ∀ y ∈ Y.drop (mid - s), ¬ c (k y) (k x) < 0 := fun x hx y hy hlt => by
    obtain ⟨i, hi⟩ := List.getElem?_of_mem hx
    obtain ⟨j, hj⟩ := List.getElem?_of_mem hy
    have hil := get_lt hi
    rw [List.length_take] at hil
    rw [List.getElem?_drop] at hj
    rw [List.getElem?_take_of_lt (by omega)] at hi
    have hjl := get_lt hj
    obtain ⟨x1, hx1⟩ := get_some (l := X) (i := s - 1 - a) (by omega)
    obtain ⟨y1, hy1⟩ := get_some (l := Y) (i := mid - s) (by omega)
    have h0 := i4 (s - 1) x1 y1 (by omega) (by omega) hx1 (by rw [show mid - 1 - (s - 1) = mid - s by omega]; exact hy1)
    exact h0 (le_lt ho (srt_le ho hY hy1 hj (by omega)) (lt_le ho hlt (srt_le ho hX hi hx1 (by omega))))
  have := stb_join ho (by rw [hXt]; exact hX) (by rw [hYt]; exact hY) h12 h21 (stbL_stb ho _) (stbL_stb ho _)
  rw [hXt, hYt] at this
  exact stb_of ho this
/-- One element ahead of what is sorted. -/
theorem one_fst (ho : Ord3 c) {x : α} {Y : List α} (hY : Srt k c Y) {i : Nat} (h1 : ∀ j z, j < i → Y[j]? = some z → c (k z) (k x) < 0) (h2 : ∀ j z, i ≤ j → Y[j]? = some z → ¬ c (k z) (k x) < 0) :
    Y.take i ++ x :: Y.drop i = stbL k c ([x] ++ Y) := by
  have hY' : Srt k c (Y.take i ++ Y.drop i) := by rw [List.take_append_drop]; exact hY
  have := stb_fst ho (x := x) hY' (fun z hz => by
    obtain ⟨j, hj⟩ := List.getElem?_of_mem hz
    have hjl := get_lt hj
    rw [List.length_take] at hjl
    rw [List.getElem?_take_of_lt (by omega)] at hj
    exact h1 j z (by omega) hj) (fun z hz => by
    obtain ⟨j, hj⟩ := List.getElem?_of_mem hz
    rw [List.getElem?_drop] at hj
    exact h2 _ z (by omega) hj)
  rw [List.take_append_drop] at this
  exact stb_of ho this
/-- One element behind what is sorted. -/
theorem one_lst (ho : Ord3 c) {x : α} {X : List α} (hX : Srt k c X) {i : Nat} (h1 : ∀ j z, j < i → X[j]? = some z → ¬ c (k x) (k z) < 0) (h2 : ∀ j z, i ≤ j → X[j]? = some z → c (k x) (k z) < 0) :
    X.take i ++ x :: X.drop i = stbL k c (X ++ [x]) := by
  have hX' : Srt k c (X.take i ++ X.drop i) := by rw [List.take_append_drop]; exact hX
  have := stb_ins ho (x := x) hX' (fun z hz => by
    obtain ⟨j, hj⟩ := List.getElem?_of_mem hz
    have hjl := get_lt hj
    rw [List.length_take] at hjl
    rw [List.getElem?_take_of_lt (by omega)] at hj
    exact h1 j z (by omega) hj) (fun z hz => by
    obtain ⟨j, hj⟩ := List.getElem?_of_mem hz
    rw [List.getElem?_drop] at hj
    exact h2 _ z (by omega) hj)
  rw [List.take_append_drop] at this
  exact stb_of ho this
end
end Go.V
/- The walks of the library's stable sort, at changes: symmetric merging. -/
namespace Go.V.L8
open Go.Proofs Go.RowKit Go.V Go.V.L2 Go.V.L3 Go.V.L6
theorem get_X {P X D : List CH} {a : Nat} (ha : P.length = a) {j : Nat} {x : CH} (h : X[j]? = some x) (i : Nat) (hi : i = a + j) : (P ++ (X ++ D))[i]? = some x := by
  subst hi ha
  have := get_lt h
  rw [List.getElem?_append_right (by omega), show P.length + j - P.length = j by omega, List.getElem?_append_left this]; exact h
theorem get_Y {P X Y D : List CH} {a mm : Nat} (ha : P.length = a) (hx : a + X.length = mm) {j : Nat} {y : CH} (h : Y[j]? = some y) (i : Nat) (hi : i = mm + j) : (P ++ (X ++ (Y ++ D)))[i]? = some y := by
  have e : P ++ (X ++ (Y ++ D)) = (P ++ X) ++ (Y ++ D) := by simp
  rw [e]
  exact get_X (by rw [List.length_append]; omega) h i hi
abbrev SrtC (l : List CH) : Prop := Srt (fun c : CH => c.1) cmpT l
theorem half_sum (i j : Nat) : ((i : Int) + (j : Int)).fdiv (2 ^ min (1 : Int).toNat IntKind.u64.bits) = ((i + j) / 2 : Nat) := by
  show ((i : Int) + (j : Int)).fdiv 2 = _
  rw [Int.fdiv_eq_ediv_of_nonneg _ (by decide)]
  omega
attribute [local irreducible] V N X VO Par StepOK Has Ret RetL RetO RetT RetG Src
abbrev SYM : Nat := 123
set_option maxHeartbeats 4000000 in
set_option maxRecDepth 20000 in
theorem sym_one {P Y R : List CH} {x : CH} {rest : List Value} {b m cap a mm e : Nat} (ha : P.length = a) (hmm : a + 1 = mm) (he : mm + Y.length = e) (hY : SrtC Y) (hm : (P ++ ([x] ++ (Y ++ R))).length = m) (hm1 : m ≤ 100000) {w : World} {B : Heap} {C : Nat → Prop} (hB : B.Le (hp w))
    (hr : (GHeld b ((P ++ ([x] ++ (Y ++ R))).flatMap ccs ++ rest) tyC).P B w C) (hC : ∀ k, C k → k < w.heap.size ∧ B k = none) :
    RetG Try.prog SYM [.slice (some ⟨b, 0, none⟩) m cap, .int .i64 a, .int .i64 mm, .int .i64 e, ordV] w B C (GHeld b ((P ++ (stC ([x] ++ Y) ++ R)).flatMap ccs ++ rest) tyC) := by
  unfold RetG
  refine V_enterG 900 (GHeld b ((P ++ ([x] ++ (Y ++ R))).flatMap ccs ++ rest) tyC) Try.func123 rfl Try.ntmps123 (Nat.le_of_ble_eq_true rfl) hB hr hC ?_
  rw [gheld_res]
  have hm' := hm
  simp only [List.length_append, List.length_singleton] at hm'
  refine V_seq ?_; refine V_seq ?_; refine V_region (id := 0) ?_; refine vo_step (ok_move rfl rfl rfl) rfl ?_; refine vo_step (ok_move rfl rfl rfl) rfl ?_; refine vo_step (ok_sub rfl rfl rfl rfl (wrap_i64 (by omega) (by omega))) rfl ?_; refine vo_step (ok_eql rfl rfl rfl rfl (decide_eq_true (by omega))) rfl ?_; refine vo_nil ?_; refine N_seq ?_; refine V_true rfl ?_; refine V_seq ?_; refine V_region (id := 1) ?_; refine vo_step (ok_move rfl rfl rfl) rfl ?_; refine vo_step (ok_assign rfl rfl rfl) rfl ?_; refine vo_nil ?_; refine N_seq ?_; refine V_seq ?_; refine V_region (id := 2) ?_; refine vo_step (ok_move rfl rfl rfl) rfl ?_; refine vo_step (ok_assign rfl rfl rfl) rfl ?_; refine vo_nil ?_; refine N_seq ?_; refine V_seq ?_; refine V_block ?_
  refine V_loop (fun s : Nat × Nat => [(0, .is (.slice (some ⟨b, 0, none⟩) m cap)), (1, .is (.int .i64 a)), (4, .is ordV), (10, .is (.int .i64 s.1)), (11, .is (.int .i64 s.2)), (900, .own (HeldR b ((P ++ ([x] ++ (Y ++ R))).flatMap ccs ++ rest) tyC))])
    (fun s => mm ≤ s.1 ∧ s.1 ≤ s.2 ∧ s.2 ≤ e ∧ (∀ (j : Nat) (z : CH), j < s.1 - mm → Y[j]? = some z → cmpT z.1 x.1 < 0) ∧ ∀ (j : Nat) (z : CH), s.2 - mm ≤ j → Y[j]? = some z → ¬ cmpT z.1 x.1 < 0) (fun s => s.2 - s.1) (mm, e)
    ⟨Nat.le_refl _, by dsimp only; omega, Nat.le_refl _, fun j z h => (by dsimp only at h; omega), fun j z h hz => (by have := get_lt hz; dsimp only at h; omega)⟩ ⟨rfl, rfl, rfl, rfl, rfl, rfl, trivial⟩ ?_
  rintro ⟨i, j⟩ ⟨h1, h2, h3, h4, h5⟩
  dsimp only at h1 h2 h3 h4 h5 ⊢
  by_cases hlt : i < j
  · have hsh := half_sum i j
    obtain ⟨h, hh⟩ : ∃ h, (i + j) / 2 = h := ⟨_, rfl⟩
    rw [hh] at hsh
    obtain ⟨y, hy⟩ := get_some (l := Y) (show h - mm < Y.length by omega)
    have q1 := heldC_at (rest := rest) (get_Y (X := [x]) (D := R) (mm := mm) ha hmm hy h (by omega)) (0 + h * 7) (by omega)
    have q2 := heldC_at (rest := rest) (get_X (X := [x]) (D := Y ++ R) ha (j := 0) rfl a (by omega)) (0 + a * 7) (by omega)
    by_cases hc : cmpT y.1 x.1 < 0
    · refine V_seq ?_; refine V_seq ?_; refine V_region (id := 3) ?_; refine vo_step (ok_move rfl rfl rfl) rfl ?_; refine vo_step (ok_move rfl rfl rfl) rfl ?_; refine vo_step (ok_lss rfl rfl rfl rfl (decide_eq_true (by omega))) rfl ?_; refine vo_nil ?_; refine N_seq ?_; refine V_true rfl ?_; refine V_skip ?_; refine N_seq ?_; refine V_block ?_; refine V_seq ?_; refine V_region (id := 4) ?_; refine vo_step (ok_move rfl rfl rfl) rfl ?_; refine vo_step (ok_move rfl rfl rfl) rfl ?_; refine vo_step (ok_add rfl rfl rfl rfl (wrap_i64 (by omega) (by omega))) rfl ?_; refine vo_step (ok_conv rfl rfl rfl cv3_185.1 cv3_185.2 (wrap_u64 (by omega) (by omega))) rfl ?_; refine vo_step (ok_shr rfl rfl rfl rfl (by omega) (by assumption)) rfl ?_; refine vo_step (ok_conv rfl rfl rfl cv185_3.1 cv185_3.2 (wrap_i64 (by omega) (by omega))) rfl ?_; refine vo_step (ok_assign rfl rfl rfl) rfl ?_; refine vo_nil ?_; refine N_seq ?_; refine V_seq ?_; refine V_regionD (id := 5) [(200044, [900]), (200048, [900])] mixed (by kernel_rfl) ?_; refine par_step (ok_move rfl rfl rfl) rfl ?_; refine par_step (ok_move rfl rfl rfl) rfl ?_; refine par_step (ok_move rfl rfl rfl) rfl ?_; refine par_step (ok_indexAt L _ rfl rfl rfl rfl rfl rfl rfl (by omega)) rfl ?_; refine par_stepR (ok_loadHA L (q := 900) (vs := [_, _, _, _, _, _, _]) rfl rfl rfl rfl rfl rfl q1) rfl rfl ?_; refine par_step (ok_move rfl rfl rfl) rfl ?_; refine par_step (ok_move rfl rfl rfl) rfl ?_; refine par_step (ok_indexAt L _ rfl rfl rfl rfl rfl rfl rfl (by omega)) rfl ?_; refine par_stepR (ok_loadHA L (q := 900) (vs := [_, _, _, _, _, _, _]) rfl rfl rfl rfl rfl rfl q2) rfl rfl ?_; refine par_step (ok_callx L rfl rfl (blt_lt rfl) rfl rfl rfl (fun u H hH _ _ => ordC_ret hH)) rfl ?_; refine par_step (ok_lss rfl rfl rfl rfl (decide_eq_true (by omega))) rfl ?_; refine par_nil ?_; refine N_seq ?_; refine V_true rfl ?_; refine V_region (id := 6) ?_; refine vo_step (ok_move rfl rfl rfl) rfl ?_; refine vo_step (ok_add rfl rfl rfl rfl (wrap_i64 (by omega) (by omega))) rfl ?_; refine vo_step (ok_assign rfl rfl rfl) rfl ?_; refine vo_nil ?_; refine N_block ?_
      exact N_round (x := (i, j)) (h + 1, j) ⟨by dsimp only; omega, by dsimp only; omega, h3, fun k z hk hz => by
        dsimp only at hk
        exact le_lt cmpT_ord (srt_le cmpT_ord hY hz hy (by omega)) hc, h5⟩ (by dsimp only; omega) ⟨rfl, rfl, rfl, rfl, rfl, rfl, trivial⟩
    · refine V_seq ?_; refine V_seq ?_; refine V_region (id := 3) ?_; refine vo_step (ok_move rfl rfl rfl) rfl ?_; refine vo_step (ok_move rfl rfl rfl) rfl ?_; refine vo_step (ok_lss rfl rfl rfl rfl (decide_eq_true (by omega))) rfl ?_; refine vo_nil ?_; refine N_seq ?_; refine V_true rfl ?_; refine V_skip ?_; refine N_seq ?_; refine V_block ?_; refine V_seq ?_; refine V_region (id := 4) ?_; refine vo_step (ok_move rfl rfl rfl) rfl ?_; refine vo_step (ok_move rfl rfl rfl) rfl ?_; refine vo_step (ok_add rfl rfl rfl rfl (wrap_i64 (by omega) (by omega))) rfl ?_; refine vo_step (ok_conv rfl rfl rfl cv3_185.1 cv3_185.2 (wrap_u64 (by omega) (by omega))) rfl ?_; refine vo_step (ok_shr rfl rfl rfl rfl (by omega) (by assumption)) rfl ?_; refine vo_step (ok_conv rfl rfl rfl cv185_3.1 cv185_3.2 (wrap_i64 (by omega) (by omega))) rfl ?_; refine vo_step (ok_assign rfl rfl rfl) rfl ?_; refine vo_nil ?_; refine N_seq ?_; refine V_seq ?_; refine V_regionD (id := 5) [(200044, [900]), (200048, [900])] mixed (by kernel_rfl) ?_; refine par_step (ok_move rfl rfl rfl) rfl ?_; refine par_step (ok_move rfl rfl rfl) rfl ?_; refine par_step (ok_move rfl rfl rfl) rfl ?_; refine par_step (ok_indexAt L _ rfl rfl rfl rfl rfl rfl rfl (by omega)) rfl ?_; refine par_stepR (ok_loadHA L (q := 900) (vs := [_, _, _, _, _, _, _]) rfl rfl rfl rfl rfl rfl q1) rfl rfl ?_; refine par_step (ok_move rfl rfl rfl) rfl ?_; refine par_step (ok_move rfl rfl rfl) rfl ?_; refine par_step (ok_indexAt L _ rfl rfl rfl rfl rfl rfl rfl (by omega)) rfl ?_; refine par_stepR (ok_loadHA L (q := 900) (vs := [_, _, _, _, _, _, _]) rfl rfl rfl rfl rfl rfl q2) rfl rfl ?_; refine par_step (ok_callx L rfl rfl (blt_lt rfl) rfl rfl rfl (fun u H hH _ _ => ordC_ret hH)) rfl ?_; refine par_step (ok_lss rfl rfl rfl rfl (decide_eq_false (by omega))) rfl ?_; refine par_nil ?_; refine N_seq ?_; refine V_false rfl ?_; refine V_region (id := 7) ?_; refine vo_step (ok_move rfl rfl rfl) rfl ?_; refine vo_step (ok_assign rfl rfl rfl) rfl ?_; refine vo_nil ?_; refine N_block ?_
      exact N_round (x := (i, j)) (i, h) ⟨h1, by dsimp only; omega, by dsimp only; omega, h4, fun k z hk hz hcx => by
        dsimp only at hk
        exact hc (le_lt cmpT_ord (srt_le cmpT_ord hY hy hz (by omega)) hcx)⟩ (by dsimp only; omega) ⟨rfl, rfl, rfl, rfl, rfl, rfl, trivial⟩
  · obtain rfl : i = j := by omega
    have hfin := one_fst (k := fun c : CH => c.1) cmpT_ord hY h4 h5
    have hal : (Y.take (i - mm)).length = i - mm := by rw [List.length_take]; omega
    have hYl : (Y.take (i - mm)).length + (Y.drop (i - mm)).length = Y.length := by rw [← List.length_append, List.take_append_drop]
    have e0 : P ++ ([x] ++ (Y ++ R)) = P ++ ([] ++ (x :: (Y.take (i - mm) ++ (Y.drop (i - mm) ++ R)))) := by
      rw [← List.append_assoc (Y.take _), List.take_append_drop]; rfl
    rw [e0]
    have e9 : P ++ (Y.take (i - mm) ++ (x :: (Y.drop (i - mm) ++ R))) = P ++ (stC ([x] ++ Y) ++ R) := by
      unfold stC
      rw [← hfin]; simp
    generalize Y.take (i - mm) = A at *
    generalize Y.drop (i - mm) = D at *
    clear hfin h4 h5 e0
    refine V_seq ?_; refine V_seq ?_; refine V_region (id := 3) ?_; refine vo_step (ok_move rfl rfl rfl) rfl ?_; refine vo_step (ok_move rfl rfl rfl) rfl ?_; refine vo_step (ok_lss rfl rfl rfl rfl (decide_eq_false (by omega))) rfl ?_; refine vo_nil ?_; refine N_seq ?_; refine V_false rfl ?_; refine V_exit ?_; refine X_then ?_; refine X_then ?_; refine X_here ?_; refine N_seq ?_; refine V_seq ?_; refine V_seq ?_; refine V_region (id := 8) ?_; refine vo_step (ok_move rfl rfl rfl) rfl ?_; refine vo_step (ok_assign rfl rfl rfl) rfl ?_; refine vo_nil ?_; refine N_seq ?_; refine V_block ?_
    refine V_loop (fun t : Nat => [(0, .is (.slice (some ⟨b, 0, none⟩) m cap)), (10, .is (.int .i64 i)), (13, .is (.int .i64 (a + t : Nat))), (900, .own (HeldR b ((P ++ (A.take t ++ (x :: (A.drop t ++ (D ++ R))))).flatMap ccs ++ rest) tyC))]) (fun t => t ≤ A.length) (fun t => A.length - t) 0 (Nat.zero_le _) ⟨rfl, rfl, rfl, rfl, trivial⟩ ?_
    rintro t ht
    by_cases htl : t < A.length
    · obtain ⟨z, hz⟩ := get_some htl
      have e0 : P ++ (A.take t ++ (x :: (A.drop t ++ (D ++ R)))) = (P ++ A.take t) ++ x :: ([] ++ z :: (A.drop (t + 1) ++ (D ++ R))) := by rw [drop_g hz]; simp
      have e1 : (P ++ A.take t) ++ z :: ([] ++ x :: (A.drop (t + 1) ++ (D ++ R))) = P ++ (A.take (t + 1) ++ (x :: (A.drop (t + 1) ++ (D ++ R)))) := by rw [List.take_add_one, hz]; simp
      have l1 : (P ++ A.take t).length = a + t := by rw [List.length_append, List.length_take]; omega
      have l2 : (P ++ A.take t).length + 1 + ([] : List CH).length = a + t + 1 := by rw [l1]; rfl
      have g1 := two_get1 (x := x) (y := z) (M := []) (D := A.drop (t + 1) ++ (D ++ R)) l1
      have g2 := two_get2 (x := x) (y := z) (D := A.drop (t + 1) ++ (D ++ R)) l2
      have g3 := two_set (x := x) (y := z) (D := A.drop (t + 1) ++ (D ++ R)) l1 l2
      rw [e0]
      rw [e1] at g3
      generalize (P ++ A.take t) ++ x :: ([] ++ z :: (A.drop (t + 1) ++ (D ++ R))) = K at *
      have k1 := get_lt g1
      have k2 := get_lt g2
      have hKl : a + t + 1 < m := by
        have : a + 1 + A.length + D.length ≤ m := by omega
        omega
      have q1 := heldC_at (rest := rest) g1 (0 + (a + t) * 7) (by omega)
      have q2 := heldC_at (rest := rest) g2 (0 + (a + t + 1) * 7) (by omega)
      have s1 := heldC_set (rest := rest) (z := z) k1 (0 + (a + t) * 7) (by omega)
      have b1 := heldC_ble (rest := rest) k1 (0 + (a + t) * 7) (by omega)
      have k3 : a + t + 1 < (K.set (a + t) z).length := by rw [List.length_set]; exact k2
      have s2 := heldC_set (rest := rest) (z := x) k3 (0 + (a + t + 1) * 7) (by omega)
      have b2 := heldC_ble (rest := rest) k3 (0 + (a + t + 1) * 7) (by omega)
      rw [g3] at s2
      have a1 : IntKind.i64.wrap (((a + t : Nat) : Int) + 1) = ((a + t + 1 : Nat) : Int) := wrap_i64 (by omega) (by omega)
      refine V_seq ?_; refine V_seq ?_; refine V_region (id := 9) ?_; refine vo_step (ok_move rfl rfl rfl) rfl ?_; refine vo_step (ok_move rfl rfl rfl) rfl ?_; refine vo_step (ok_sub rfl rfl rfl rfl (wrap_i64 (by omega) (by omega))) rfl ?_; refine vo_step (ok_lss rfl rfl rfl rfl (decide_eq_true (by omega))) rfl ?_; refine vo_nil ?_; refine N_seq ?_; refine V_true rfl ?_; refine V_skip ?_; refine N_seq ?_; refine V_seq ?_; refine V_block ?_; refine V_regionD (id := 11) [(200070, [900]), (200074, [900]), (100075, [900]), (100076, [900])] mixed (by kernel_rfl) ?_; refine par_step (ok_move rfl rfl rfl) rfl ?_; refine par_step (ok_move rfl rfl rfl) rfl ?_; refine par_step (ok_move rfl rfl rfl) rfl ?_; refine par_step (ok_move rfl rfl rfl) rfl ?_; refine par_step (ok_add rfl rfl rfl rfl (by assumption)) rfl ?_; refine par_step (ok_move rfl rfl rfl) rfl ?_; refine par_step (ok_move rfl rfl rfl) rfl ?_; refine par_step (ok_add rfl rfl rfl rfl (by assumption)) rfl ?_; refine par_step (ok_indexAt L _ rfl rfl rfl rfl rfl rfl rfl (by omega)) rfl ?_; refine par_stepR (ok_loadHA L (q := 900) (vs := [_, _, _, _, _, _, _]) rfl rfl rfl rfl rfl rfl q2) rfl rfl ?_; refine par_step (ok_move rfl rfl rfl) rfl ?_; refine par_step (ok_move rfl rfl rfl) rfl ?_; refine par_step (ok_indexAt L _ rfl rfl rfl rfl rfl rfl rfl (by omega)) rfl ?_; refine par_stepR (ok_loadHA L (q := 900) (vs := [_, _, _, _, _, _, _]) rfl rfl rfl rfl rfl rfl q1) rfl rfl ?_; refine par_step (ok_indexAt L _ rfl rfl rfl rfl rfl rfl rfl (by omega)) rfl ?_; refine par_stepS (ok_storeH L (q := 900) rfl rfl rfl rfl rfl rfl b1 rfl s1) rfl ?_; refine par_step (ok_indexAt L _ rfl rfl rfl rfl rfl rfl rfl (by omega)) rfl ?_; refine par_stepS (ok_storeH L (q := 900) rfl rfl rfl rfl rfl rfl b2 rfl s2) rfl ?_; refine par_nil ?_; refine N_block ?_; refine N_seq ?_; refine V_region (id := 10) ?_; refine vo_step (ok_move rfl rfl rfl) rfl ?_; refine vo_step (ok_add rfl rfl rfl rfl (by assumption)) rfl ?_; refine vo_step (ok_assign rfl rfl rfl) rfl ?_; refine vo_nil ?_
      exact N_round (x := t) (t + 1) (by omega) (by omega) ⟨rfl, rfl, rfl, rfl, trivial⟩
    · have hA : P ++ (A.take t ++ (x :: (A.drop t ++ (D ++ R)))) = P ++ (stC ([x] ++ Y) ++ R) := by
        rw [List.take_of_length_le (by omega), List.drop_eq_nil_of_le (by omega), List.nil_append, e9]
      rw [hA]
      refine V_seq ?_; refine V_seq ?_; refine V_region (id := 9) ?_; refine vo_step (ok_move rfl rfl rfl) rfl ?_; refine vo_step (ok_move rfl rfl rfl) rfl ?_; refine vo_step (ok_sub rfl rfl rfl rfl (wrap_i64 (by omega) (by omega))) rfl ?_; refine vo_step (ok_lss rfl rfl rfl rfl (decide_eq_false (by omega))) rfl ?_; refine vo_nil ?_; refine N_seq ?_; refine V_false rfl ?_; refine V_exit ?_; refine X_then ?_; refine X_then ?_; refine X_here ?_; refine N_seq ?_
      exact V_retGhost L 900 (r := GHeld b _ tyC) rfl (fun _ _ h => h) Since.refl rfl rfl
set_option maxHeartbeats 4000000 in
set_option maxRecDepth 20000 in
theorem sym_lst {P X R : List CH} {y : CH} {rest : List Value} {b m cap a mm e : Nat} (ha : P.length = a) (hmm : a + X.length = mm) (hx1 : ¬ X.length = 1) (he : mm + 1 = e) (hX : SrtC X) (hm : (P ++ (X ++ ([y] ++ R))).length = m) (hm1 : m ≤ 100000) {w : World} {B : Heap} {C : Nat → Prop} (hB : B.Le (hp w))
    (hr : (GHeld b ((P ++ (X ++ ([y] ++ R))).flatMap ccs ++ rest) tyC).P B w C) (hC : ∀ k, C k → k < w.heap.size ∧ B k = none) :
    RetG Try.prog SYM [.slice (some ⟨b, 0, none⟩) m cap, .int .i64 a, .int .i64 mm, .int .i64 e, ordV] w B C (GHeld b ((P ++ (stC (X ++ [y]) ++ R)).flatMap ccs ++ rest) tyC) := by
  unfold RetG
  refine V_enterG 900 (GHeld b ((P ++ (X ++ ([y] ++ R))).flatMap ccs ++ rest) tyC) Try.func123 rfl Try.ntmps123 (Nat.le_of_ble_eq_true rfl) hB hr hC ?_
  rw [gheld_res]
  have hm' := hm
  simp only [List.length_append, List.length_singleton] at hm'
  refine V_seq ?_; refine V_seq ?_; refine V_region (id := 0) ?_; refine vo_step (ok_move rfl rfl rfl) rfl ?_; refine vo_step (ok_move rfl rfl rfl) rfl ?_; refine vo_step (ok_sub rfl rfl rfl rfl (wrap_i64 (by omega) (by omega))) rfl ?_; refine vo_step (ok_eql rfl rfl rfl rfl (decide_eq_false (by omega))) rfl ?_; refine vo_nil ?_; refine N_seq ?_; refine V_false rfl ?_; refine V_skip ?_; refine N_seq ?_; refine V_seq ?_; refine V_seq ?_; refine V_region (id := 12) ?_; refine vo_step (ok_move rfl rfl rfl) rfl ?_; refine vo_step (ok_move rfl rfl rfl) rfl ?_; refine vo_step (ok_sub rfl rfl rfl rfl (wrap_i64 (by omega) (by omega))) rfl ?_; refine vo_step (ok_eql rfl rfl rfl rfl (decide_eq_true (by omega))) rfl ?_; refine vo_nil ?_; refine N_seq ?_; refine V_true rfl ?_; refine V_seq ?_; refine V_region (id := 13) ?_; refine vo_step (ok_move rfl rfl rfl) rfl ?_; refine vo_step (ok_assign rfl rfl rfl) rfl ?_; refine vo_nil ?_; refine N_seq ?_; refine V_seq ?_; refine V_region (id := 14) ?_; refine vo_step (ok_move rfl rfl rfl) rfl ?_; refine vo_step (ok_assign rfl rfl rfl) rfl ?_; refine vo_nil ?_; refine N_seq ?_; refine V_seq ?_; refine V_block ?_
  refine V_loop (fun s : Nat × Nat => [(0, .is (.slice (some ⟨b, 0, none⟩) m cap)), (2, .is (.int .i64 mm)), (4, .is ordV), (14, .is (.int .i64 s.1)), (15, .is (.int .i64 s.2)), (900, .own (HeldR b ((P ++ (X ++ ([y] ++ R))).flatMap ccs ++ rest) tyC))])
    (fun s => a ≤ s.1 ∧ s.1 ≤ s.2 ∧ s.2 ≤ mm ∧ (∀ (j : Nat) (z : CH), j < s.1 - a → X[j]? = some z → ¬ cmpT y.1 z.1 < 0) ∧ ∀ (j : Nat) (z : CH), s.2 - a ≤ j → X[j]? = some z → cmpT y.1 z.1 < 0) (fun s => s.2 - s.1) (a, mm)
    ⟨Nat.le_refl _, by dsimp only; omega, Nat.le_refl _, fun j z h => (by dsimp only at h; omega), fun j z h hz => (by have := get_lt hz; dsimp only at h; omega)⟩ ⟨rfl, rfl, rfl, rfl, rfl, rfl, trivial⟩ ?_
  rintro ⟨i, j⟩ ⟨h1, h2, h3, h4, h5⟩
  dsimp only at h1 h2 h3 h4 h5 ⊢
  by_cases hlt : i < j
  · have hsh := half_sum i j
    obtain ⟨h, hh⟩ : ∃ h, (i + j) / 2 = h := ⟨_, rfl⟩
    rw [hh] at hsh
    obtain ⟨x, hx⟩ := get_some (l := X) (show h - a < X.length by omega)
    have q1 := heldC_at (rest := rest) (get_Y (Y := [y]) (D := R) ha hmm (j := 0) rfl mm (by omega)) (0 + mm * 7) (by omega)
    have q2 := heldC_at (rest := rest) (get_X (D := [y] ++ R) ha hx h (by omega)) (0 + h * 7) (by omega)
    by_cases hc : cmpT y.1 x.1 < 0
    · refine V_seq ?_; refine V_seq ?_; refine V_region (id := 15) ?_; refine vo_step (ok_move rfl rfl rfl) rfl ?_; refine vo_step (ok_move rfl rfl rfl) rfl ?_; refine vo_step (ok_lss rfl rfl rfl rfl (decide_eq_true (by omega))) rfl ?_; refine vo_nil ?_; refine N_seq ?_; refine V_true rfl ?_; refine V_skip ?_; refine N_seq ?_; refine V_block ?_; refine V_seq ?_; refine V_region (id := 16) ?_; refine vo_step (ok_move rfl rfl rfl) rfl ?_; refine vo_step (ok_move rfl rfl rfl) rfl ?_; refine vo_step (ok_add rfl rfl rfl rfl (wrap_i64 (by omega) (by omega))) rfl ?_; refine vo_step (ok_conv rfl rfl rfl cv3_185.1 cv3_185.2 (wrap_u64 (by omega) (by omega))) rfl ?_; refine vo_step (ok_shr rfl rfl rfl rfl (by omega) (by assumption)) rfl ?_; refine vo_step (ok_conv rfl rfl rfl cv185_3.1 cv185_3.2 (wrap_i64 (by omega) (by omega))) rfl ?_; refine vo_step (ok_assign rfl rfl rfl) rfl ?_; refine vo_nil ?_; refine N_seq ?_; refine V_seq ?_; refine V_regionD (id := 17) [(200096, [900]), (200100, [900])] mixed (by kernel_rfl) ?_; refine par_step (ok_move rfl rfl rfl) rfl ?_; refine par_step (ok_move rfl rfl rfl) rfl ?_; refine par_step (ok_move rfl rfl rfl) rfl ?_; refine par_step (ok_indexAt L _ rfl rfl rfl rfl rfl rfl rfl (by omega)) rfl ?_; refine par_stepR (ok_loadHA L (q := 900) (vs := [_, _, _, _, _, _, _]) rfl rfl rfl rfl rfl rfl q1) rfl rfl ?_; refine par_step (ok_move rfl rfl rfl) rfl ?_; refine par_step (ok_move rfl rfl rfl) rfl ?_; refine par_step (ok_indexAt L _ rfl rfl rfl rfl rfl rfl rfl (by omega)) rfl ?_; refine par_stepR (ok_loadHA L (q := 900) (vs := [_, _, _, _, _, _, _]) rfl rfl rfl rfl rfl rfl q2) rfl rfl ?_; refine par_step (ok_callx L rfl rfl (blt_lt rfl) rfl rfl rfl (fun u H hH _ _ => ordC_ret hH)) rfl ?_; refine par_step (ok_lss rfl rfl rfl rfl (decide_eq_true (by omega))) rfl ?_; refine par_step (ok_not rfl rfl rfl rfl) rfl ?_; refine par_nil ?_; refine N_seq ?_; refine V_false rfl ?_; refine V_region (id := 19) ?_; refine vo_step (ok_move rfl rfl rfl) rfl ?_; refine vo_step (ok_assign rfl rfl rfl) rfl ?_; refine vo_nil ?_; refine N_block ?_
      exact N_round (x := (i, j)) (i, h) ⟨h1, by dsimp only; omega, by dsimp only; omega, h4, fun k z hk hz => by
        dsimp only at hk
        exact lt_le cmpT_ord hc (srt_le cmpT_ord hX hx hz (by omega))⟩ (by dsimp only; omega) ⟨rfl, rfl, rfl, rfl, rfl, rfl, trivial⟩
    · refine V_seq ?_; refine V_seq ?_; refine V_region (id := 15) ?_; refine vo_step (ok_move rfl rfl rfl) rfl ?_; refine vo_step (ok_move rfl rfl rfl) rfl ?_; refine vo_step (ok_lss rfl rfl rfl rfl (decide_eq_true (by omega))) rfl ?_; refine vo_nil ?_; refine N_seq ?_; refine V_true rfl ?_; refine V_skip ?_; refine N_seq ?_; refine V_block ?_; refine V_seq ?_; refine V_region (id := 16) ?_; refine vo_step (ok_move rfl rfl rfl) rfl ?_; refine vo_step (ok_move rfl rfl rfl) rfl ?_; refine vo_step (ok_add rfl rfl rfl rfl (wrap_i64 (by omega) (by omega))) rfl ?_; refine vo_step (ok_conv rfl rfl rfl cv3_185.1 cv3_185.2 (wrap_u64 (by omega) (by omega))) rfl ?_; refine vo_step (ok_shr rfl rfl rfl rfl (by omega) (by assumption)) rfl ?_; refine vo_step (ok_conv rfl rfl rfl cv185_3.1 cv185_3.2 (wrap_i64 (by omega) (by omega))) rfl ?_; refine vo_step (ok_assign rfl rfl rfl) rfl ?_; refine vo_nil ?_; refine N_seq ?_; refine V_seq ?_; refine V_regionD (id := 17) [(200096, [900]), (200100, [900])] mixed (by kernel_rfl) ?_; refine par_step (ok_move rfl rfl rfl) rfl ?_; refine par_step (ok_move rfl rfl rfl) rfl ?_; refine par_step (ok_move rfl rfl rfl) rfl ?_; refine par_step (ok_indexAt L _ rfl rfl rfl rfl rfl rfl rfl (by omega)) rfl ?_; refine par_stepR (ok_loadHA L (q := 900) (vs := [_, _, _, _, _, _, _]) rfl rfl rfl rfl rfl rfl q1) rfl rfl ?_; refine par_step (ok_move rfl rfl rfl) rfl ?_; refine par_step (ok_move rfl rfl rfl) rfl ?_; refine par_step (ok_indexAt L _ rfl rfl rfl rfl rfl rfl rfl (by omega)) rfl ?_; refine par_stepR (ok_loadHA L (q := 900) (vs := [_, _, _, _, _, _, _]) rfl rfl rfl rfl rfl rfl q2) rfl rfl ?_; refine par_step (ok_callx L rfl rfl (blt_lt rfl) rfl rfl rfl (fun u H hH _ _ => ordC_ret hH)) rfl ?_; refine par_step (ok_lss rfl rfl rfl rfl (decide_eq_false (by omega))) rfl ?_; refine par_step (ok_not rfl rfl rfl rfl) rfl ?_; refine par_nil ?_; refine N_seq ?_; refine V_true rfl ?_; refine V_region (id := 18) ?_; refine vo_step (ok_move rfl rfl rfl) rfl ?_; refine vo_step (ok_add rfl rfl rfl rfl (wrap_i64 (by omega) (by omega))) rfl ?_; refine vo_step (ok_assign rfl rfl rfl) rfl ?_; refine vo_nil ?_; refine N_block ?_
      exact N_round (x := (i, j)) (h + 1, j) ⟨by dsimp only; omega, by dsimp only; omega, h3, fun k z hk hz hcx => by
        dsimp only at hk
        exact hc (lt_le cmpT_ord hcx (srt_le cmpT_ord hX hz hx (by omega))), h5⟩ (by dsimp only; omega) ⟨rfl, rfl, rfl, rfl, rfl, rfl, trivial⟩
  · obtain rfl : i = j := by omega
    have hfin := one_lst (k := fun c : CH => c.1) cmpT_ord hX h4 h5
    have hal : (X.take (i - a)).length = i - a := by rw [List.length_take]; omega
    have hXl : (X.take (i - a)).length + (X.drop (i - a)).length = X.length := by rw [← List.length_append, List.take_append_drop]
    have e0 : P ++ (X ++ ([y] ++ R)) = P ++ (X.take (i - a) ++ (X.drop (i - a) ++ (y :: ([] ++ R)))) := by
      rw [← List.append_assoc (X.take _), List.take_append_drop]; rfl
    rw [e0]
    have e9 : P ++ (X.take (i - a) ++ (y :: (X.drop (i - a) ++ R))) = P ++ (stC (X ++ [y]) ++ R) := by
      unfold stC
      rw [← hfin]; simp
    generalize X.take (i - a) = A at *
    generalize X.drop (i - a) = D at *
    clear hfin h4 h5 e0
    have hk0 : mm = i + D.length := by omega
    refine V_seq ?_; refine V_seq ?_; refine V_region (id := 15) ?_; refine vo_step (ok_move rfl rfl rfl) rfl ?_; refine vo_step (ok_move rfl rfl rfl) rfl ?_; refine vo_step (ok_lss rfl rfl rfl rfl (decide_eq_false (by omega))) rfl ?_; refine vo_nil ?_; refine N_seq ?_; refine V_false rfl ?_; refine V_exit ?_; refine X_then ?_; refine X_then ?_; refine X_here ?_; refine N_seq ?_; refine V_seq ?_; refine V_seq ?_; refine V_region (id := 20) ?_; refine vo_step (ok_move rfl rfl rfl) rfl ?_; refine vo_step (ok_assign rfl rfl rfl) rfl ?_; refine vo_nil ?_; refine N_seq ?_; refine V_block ?_
    refine V_loop (fun t : Nat => [(0, .is (.slice (some ⟨b, 0, none⟩) m cap)), (14, .is (.int .i64 i)), (17, .is (.int .i64 (i + t : Nat))), (900, .own (HeldR b ((P ++ (A ++ (D.take t ++ (y :: (D.drop t ++ R))))).flatMap ccs ++ rest) tyC))]) (fun t => t ≤ D.length) (fun t => t) D.length (Nat.le_refl _) ⟨rfl, rfl, by rw [← hk0]; rfl, by rw [List.take_length, List.drop_length]; rfl, trivial⟩ ?_
    rintro t ht
    rcases t with _ | t
    · rw [List.take_zero, List.drop_zero, List.nil_append, e9, Nat.add_zero]
      refine V_seq ?_; refine V_seq ?_; refine V_region (id := 21) ?_; refine vo_step (ok_move rfl rfl rfl) rfl ?_; refine vo_step (ok_move rfl rfl rfl) rfl ?_; refine vo_step (ok_gtr rfl rfl rfl rfl (decide_eq_false (by omega))) rfl ?_; refine vo_nil ?_; refine N_seq ?_; refine V_false rfl ?_; refine V_exit ?_; refine X_then ?_; refine X_then ?_; refine X_here ?_; refine N_seq ?_
      exact V_retGhost L 900 (r := GHeld b _ tyC) rfl (fun _ _ h => h) Since.refl rfl rfl
    · obtain ⟨z, hz⟩ := get_some (l := D) (show t < D.length by omega)
      have e0 : P ++ (A ++ (D.take (t + 1) ++ (y :: (D.drop (t + 1) ++ R)))) = (P ++ (A ++ D.take t)) ++ z :: ([] ++ y :: (D.drop (t + 1) ++ R)) := by rw [List.take_add_one, hz]; simp
      have e1 : (P ++ (A ++ D.take t)) ++ y :: ([] ++ z :: (D.drop (t + 1) ++ R)) = P ++ (A ++ (D.take t ++ (y :: (D.drop t ++ R)))) := by rw [drop_g hz]; simp
      have l1 : (P ++ (A ++ D.take t)).length = i + t := by rw [List.length_append, List.length_append, List.length_take]; omega
      have l2 : (P ++ (A ++ D.take t)).length + 1 + ([] : List CH).length = i + (t + 1) := by rw [l1]; rfl
      have g1 := two_get1 (x := z) (y := y) (M := []) (D := D.drop (t + 1) ++ R) l1
      have g2 := two_get2 (x := z) (y := y) (D := D.drop (t + 1) ++ R) l2
      have g3 := two_set' (x := z) (y := y) (D := D.drop (t + 1) ++ R) l1 l2
      rw [e0]
      rw [e1] at g3
      generalize (P ++ (A ++ D.take t)) ++ z :: ([] ++ y :: (D.drop (t + 1) ++ R)) = K at *
      have k1 := get_lt g1
      have k2 := get_lt g2
      have hKl : i + (t + 1) < m := by omega
      have q1 := heldC_at (rest := rest) g1 (0 + (i + t) * 7) (by omega)
      have q2 := heldC_at (rest := rest) g2 (0 + (i + (t + 1)) * 7) (by omega)
      have s1 := heldC_set (rest := rest) (z := z) k2 (0 + (i + (t + 1)) * 7) (by omega)
      have b1 := heldC_ble (rest := rest) k2 (0 + (i + (t + 1)) * 7) (by omega)
      have k3 : i + t < (K.set (i + (t + 1)) z).length := by rw [List.length_set]; exact k1
      have s2 := heldC_set (rest := rest) (z := y) k3 (0 + (i + t) * 7) (by omega)
      have b2 := heldC_ble (rest := rest) k3 (0 + (i + t) * 7) (by omega)
      rw [g3] at s2
      have a1 : IntKind.i64.wrap (((i + (t + 1) : Nat) : Int) - 1) = ((i + t : Nat) : Int) := wrap_i64 (by omega) (by omega) |>.trans (by omega)
      refine V_seq ?_; refine V_seq ?_; refine V_region (id := 21) ?_; refine vo_step (ok_move rfl rfl rfl) rfl ?_; refine vo_step (ok_move rfl rfl rfl) rfl ?_; refine vo_step (ok_gtr rfl rfl rfl rfl (decide_eq_true (by omega))) rfl ?_; refine vo_nil ?_; refine N_seq ?_; refine V_true rfl ?_; refine V_skip ?_; refine N_seq ?_; refine V_seq ?_; refine V_block ?_; refine V_regionD (id := 23) [(200122, [900]), (200126, [900]), (100127, [900]), (100128, [900])] mixed (by kernel_rfl) ?_; refine par_step (ok_move rfl rfl rfl) rfl ?_; refine par_step (ok_move rfl rfl rfl) rfl ?_; refine par_step (ok_move rfl rfl rfl) rfl ?_; refine par_step (ok_move rfl rfl rfl) rfl ?_; refine par_step (ok_sub rfl rfl rfl rfl (by assumption)) rfl ?_; refine par_step (ok_move rfl rfl rfl) rfl ?_; refine par_step (ok_move rfl rfl rfl) rfl ?_; refine par_step (ok_sub rfl rfl rfl rfl (by assumption)) rfl ?_; refine par_step (ok_indexAt L _ rfl rfl rfl rfl rfl rfl rfl (by omega)) rfl ?_; refine par_stepR (ok_loadHA L (q := 900) (vs := [_, _, _, _, _, _, _]) rfl rfl rfl rfl rfl rfl q1) rfl rfl ?_; refine par_step (ok_move rfl rfl rfl) rfl ?_; refine par_step (ok_move rfl rfl rfl) rfl ?_; refine par_step (ok_indexAt L _ rfl rfl rfl rfl rfl rfl rfl (by omega)) rfl ?_; refine par_stepR (ok_loadHA L (q := 900) (vs := [_, _, _, _, _, _, _]) rfl rfl rfl rfl rfl rfl q2) rfl rfl ?_; refine par_step (ok_indexAt L _ rfl rfl rfl rfl rfl rfl rfl (by omega)) rfl ?_; refine par_stepS (ok_storeH L (q := 900) rfl rfl rfl rfl rfl rfl b1 rfl s1) rfl ?_; refine par_step (ok_indexAt L _ rfl rfl rfl rfl rfl rfl rfl (by omega)) rfl ?_; refine par_stepS (ok_storeH L (q := 900) rfl rfl rfl rfl rfl rfl b2 rfl s2) rfl ?_; refine par_nil ?_; refine N_block ?_; refine N_seq ?_; refine V_region (id := 22) ?_; refine vo_step (ok_move rfl rfl rfl) rfl ?_; refine vo_step (ok_sub rfl rfl rfl rfl (by assumption)) rfl ?_; refine vo_step (ok_assign rfl rfl rfl) rfl ?_; refine vo_nil ?_
      exact N_round (x := t + 1) t (by omega) (by omega) ⟨rfl, rfl, rfl, rfl, trivial⟩
end Go.V.L8
/- The walks of the library's stable sort, at changes: symmetric merging, the whole. -/
namespace Go.V.L8
open Go.Proofs Go.RowKit Go.V Go.V.L2 Go.V.L3 Go.V.L6
theorem len_one {l : List CH} (h : l.length = 1) : ∃ x, l = [x] := by
  rcases l with _ | ⟨x, _ | ⟨y, l⟩⟩
  · simp at h
  · exact ⟨x, rfl⟩
  · simp at h
theorem stC_srt {l : List CH} (h : SrtC l) : stC l = l := stbL_srt cmpT_ord h
attribute [local irreducible] V N X VO Par StepOK Has Ret RetL RetO RetT RetG Src
set_option maxHeartbeats 8000000 in
set_option maxRecDepth 20000 in
theorem sym_ret (N0 : Nat) : ∀ {P X Y R : List CH} {rest : List Value} {b m cap a mm e : Nat}, X.length + Y.length ≤ N0 → P.length = a → a + X.length = mm → mm + Y.length = e → 0 < X.length → 0 < Y.length → SrtC X → SrtC Y → (P ++ (X ++ (Y ++ R))).length = m → m ≤ 100000 → ∀ {w : World} {B : Heap} {C : Nat → Prop}, B.Le (hp w) →
    (GHeld b ((P ++ (X ++ (Y ++ R))).flatMap ccs ++ rest) tyC).P B w C → (∀ k, C k → k < w.heap.size ∧ B k = none) →
    RetG Try.prog SYM [.slice (some ⟨b, 0, none⟩) m cap, .int .i64 a, .int .i64 mm, .int .i64 e, ordV] w B C (GHeld b ((P ++ (stC (X ++ Y) ++ R)).flatMap ccs ++ rest) tyC) := by
  induction N0 with
  | zero => intro P X Y R rest b m cap a mm e h1 h2 h3 h4 h5; omega
  | succ N0 ih =>
  intro P X Y R rest b m cap a mm e hN ha hmm he hx hy hX hY hm hm1 w B C hB hr hC
  by_cases hx1 : X.length = 1
  · obtain ⟨x, rfl⟩ := len_one hx1
    exact sym_one ha (by simpa using hmm) he hY hm hm1 hB hr hC
  by_cases hy1 : Y.length = 1
  · obtain ⟨y, rfl⟩ := len_one hy1
    exact sym_lst ha hmm hx1 (by simpa using he) hX hm hm1 hB hr hC
  unfold RetG
  refine V_enterG 900 (GHeld b ((P ++ (X ++ (Y ++ R))).flatMap ccs ++ rest) tyC) Try.func123 rfl Try.ntmps123 (Nat.le_of_ble_eq_true rfl) hB hr hC ?_
  rw [gheld_res]
  have hm' := hm
  simp only [List.length_append] at hm'
  have hsh := half_sum a e
  obtain ⟨mid, hmid⟩ : ∃ mid, (a + e) / 2 = mid := ⟨_, rfl⟩
  rw [hmid] at hsh
  have hnn : IntKind.i64.wrap ((mid : Int) + (mm : Int)) = ((mid + mm : Nat) : Int) := wrap_i64 (by omega) (by omega)
  refine V_seq ?_; refine V_seq ?_; refine V_region (id := 0) ?_; refine vo_step (ok_move rfl rfl rfl) rfl ?_; refine vo_step (ok_move rfl rfl rfl) rfl ?_; refine vo_step (ok_sub rfl rfl rfl rfl (wrap_i64 (by omega) (by omega))) rfl ?_; refine vo_step (ok_eql rfl rfl rfl rfl (decide_eq_false (by omega))) rfl ?_; refine vo_nil ?_; refine N_seq ?_; refine V_false rfl ?_; refine V_skip ?_; refine N_seq ?_; refine V_seq ?_; refine V_seq ?_; refine V_region (id := 12) ?_; refine vo_step (ok_move rfl rfl rfl) rfl ?_; refine vo_step (ok_move rfl rfl rfl) rfl ?_; refine vo_step (ok_sub rfl rfl rfl rfl (wrap_i64 (by omega) (by omega))) rfl ?_; refine vo_step (ok_eql rfl rfl rfl rfl (decide_eq_false (by omega))) rfl ?_; refine vo_nil ?_; refine N_seq ?_; refine V_false rfl ?_; refine V_skip ?_; refine N_seq ?_; refine V_seq ?_; refine V_region (id := 24) ?_; refine vo_step (ok_move rfl rfl rfl) rfl ?_; refine vo_step (ok_move rfl rfl rfl) rfl ?_; refine vo_step (ok_add rfl rfl rfl rfl (wrap_i64 (by omega) (by omega))) rfl ?_; refine vo_step (ok_conv rfl rfl rfl cv3_185.1 cv3_185.2 (wrap_u64 (by omega) (by omega))) rfl ?_; refine vo_step (ok_shr rfl rfl rfl rfl (by omega) (by assumption)) rfl ?_; refine vo_step (ok_conv rfl rfl rfl cv185_3.1 cv185_3.2 (wrap_i64 (by omega) (by omega))) rfl ?_; refine vo_step (ok_assign rfl rfl rfl) rfl ?_; refine vo_nil ?_; refine N_seq ?_; refine V_seq ?_; refine V_region (id := 25) ?_; refine vo_step (ok_move rfl rfl rfl) rfl ?_; refine vo_step (ok_move rfl rfl rfl) rfl ?_; refine vo_step (ok_add rfl rfl rfl rfl (by assumption)) rfl ?_; refine vo_step (ok_assign rfl rfl rfl) rfl ?_; refine vo_nil ?_; refine N_seq ?_; refine V_seq ?_; refine V_region (id := 26) ?_; refine vo_step (ok_assign rfl rfl rfl) rfl ?_; refine vo_step (ok_assign rfl rfl rfl) rfl ?_; refine vo_nil ?_; refine N_seq ?_; refine V_seq ?_; refine V_seq ?_
  refine V_meetC (fun s : Nat × Nat => [(0, .is (.slice (some ⟨b, 0, none⟩) m cap)), (1, .is (.int .i64 a)), (2, .is (.int .i64 mm)), (3, .is (.int .i64 e)), (4, .is ordV), (18, .is (.int .i64 mid)), (19, .is (.int .i64 (mid + mm : Nat))), (20, .is (.int .i64 s.1)), (21, .is (.int .i64 s.2)), (900, .own (HeldR b ((P ++ (X ++ (Y ++ R))).flatMap ccs ++ rest) tyC))]) (fun s => SymB X Y a mm e mid s.1 s.2 ∧ s.1 ≤ s.2) (fun _ => []) ?rest ?first
  case first =>
    by_cases hgt : mid < mm
    · have hs : IntKind.i64.wrap (((mid + mm : Nat) : Int) - (e : Int)) = ((mid + mm - e : Nat) : Int) := wrap_i64 (by omega) (by omega) |>.trans (by omega)
      refine V_region (id := 27) ?_; refine vo_step (ok_move rfl rfl rfl) rfl ?_; refine vo_step (ok_move rfl rfl rfl) rfl ?_; refine vo_step (ok_gtr rfl rfl rfl rfl (decide_eq_true (by omega))) rfl ?_; refine vo_nil ?_; refine N_seq ?_; refine V_true rfl ?_; refine V_seq ?_; refine V_region (id := 28) ?_; refine vo_step (ok_move rfl rfl rfl) rfl ?_; refine vo_step (ok_move rfl rfl rfl) rfl ?_; refine vo_step (ok_sub rfl rfl rfl rfl (by assumption)) rfl ?_; refine vo_step (ok_assign rfl rfl rfl) rfl ?_; refine vo_nil ?_; refine N_seq ?_; refine V_region (id := 29) ?_; refine vo_step (ok_move rfl rfl rfl) rfl ?_; refine vo_step (ok_assign rfl rfl rfl) rfl ?_; refine vo_nil ?_
      exact N_mids (mid + mm - e, mid) Since.refl ⟨⟨hmm, he, by dsimp only; omega, by dsimp only; omega, Nat.le_refl _, by dsimp only; omega, .inr (by dsimp only; omega), .inr rfl⟩, by dsimp only; omega⟩ rfl ⟨rfl, rfl, rfl, rfl, rfl, rfl, rfl, rfl, rfl, rfl, trivial⟩
    · refine V_region (id := 27) ?_; refine vo_step (ok_move rfl rfl rfl) rfl ?_; refine vo_step (ok_move rfl rfl rfl) rfl ?_; refine vo_step (ok_gtr rfl rfl rfl rfl (decide_eq_false (by omega))) rfl ?_; refine vo_nil ?_; refine N_seq ?_; refine V_false rfl ?_; refine V_seq ?_; refine V_region (id := 30) ?_; refine vo_step (ok_move rfl rfl rfl) rfl ?_; refine vo_step (ok_assign rfl rfl rfl) rfl ?_; refine vo_nil ?_; refine N_seq ?_; refine V_region (id := 31) ?_; refine vo_step (ok_move rfl rfl rfl) rfl ?_; refine vo_step (ok_assign rfl rfl rfl) rfl ?_; refine vo_nil ?_
      exact N_mids (a, mm) Since.refl ⟨⟨hmm, he, Nat.le_refl _, by dsimp only; omega, by dsimp only; omega, Nat.le_refl _, .inl rfl, .inl rfl⟩, by dsimp only; omega⟩ rfl ⟨rfl, rfl, rfl, rfl, rfl, rfl, rfl, rfl, rfl, rfl, trivial⟩
  case rest =>
  rintro ⟨lo, hi⟩ ⟨hb, hlh⟩
  dsimp only at hb hlh ⊢
  have hp : IntKind.i64.wrap (((mid + mm : Nat) : Int) - 1) = ((mid + mm - 1 : Nat) : Int) := wrap_i64 (by omega) (by omega) |>.trans (by omega)
  refine V_seq ?_; refine V_region (id := 32) ?_; refine vo_step (ok_move rfl rfl rfl) rfl ?_; refine vo_step (ok_sub rfl rfl rfl rfl (by assumption)) rfl ?_; refine vo_step (ok_assign rfl rfl rfl) rfl ?_; refine vo_nil ?_; refine N_seq ?_; refine V_seq ?_; refine V_block ?_
  refine V_loop (fun s : Nat × Nat => [(0, .is (.slice (some ⟨b, 0, none⟩) m cap)), (1, .is (.int .i64 a)), (2, .is (.int .i64 mm)), (3, .is (.int .i64 e)), (4, .is ordV), (18, .is (.int .i64 mid)), (19, .is (.int .i64 (mid + mm : Nat))), (20, .is (.int .i64 s.1)), (21, .is (.int .i64 s.2)), (22, .is (.int .i64 (mid + mm - 1 : Nat))), (900, .own (HeldR b ((P ++ (X ++ (Y ++ R))).flatMap ccs ++ rest) tyC))])
    (fun s => SymI (fun c : CH => c.1) cmpT X Y a mid lo hi s.1 s.2) (fun s => s.2 - s.1) (lo, hi) (SymI.start hlh) ⟨rfl, rfl, rfl, rfl, rfl, rfl, rfl, rfl, rfl, rfl, rfl, trivial⟩ ?_
  rintro ⟨i, j⟩ hI
  dsimp only at hI ⊢
  have hI' := hI
  have hb' := hb
  obtain ⟨b1, b2, b3, b4, b5, b6, _, _⟩ := hb'
  obtain ⟨i1, i2, i3, _, _⟩ := hI'
  by_cases hlt : i < j
  · have hsc := half_sum i j
    obtain ⟨c, hc⟩ : ∃ c, (i + j) / 2 = c := ⟨_, rfl⟩
    rw [hc] at hsc
    obtain ⟨x, hxc⟩ := get_some (l := X) (show c - a < X.length by omega)
    obtain ⟨y, hyc⟩ := get_some (l := Y) (show mid - 1 - c < Y.length by omega)
    have q1 := heldC_at (rest := rest) (get_Y (D := R) ha hmm hyc (mid + mm - 1 - c) (by omega)) (0 + (mid + mm - 1 - c) * 7) (by omega)
    have q2 := heldC_at (rest := rest) (get_X (D := Y ++ R) ha hxc c (by omega)) (0 + c * 7) (by omega)
    have hpc : IntKind.i64.wrap (((mid + mm - 1 : Nat) : Int) - (c : Int)) = ((mid + mm - 1 - c : Nat) : Int) := wrap_i64 (by omega) (by omega) |>.trans (by omega)
    by_cases hcm : cmpT y.1 x.1 < 0
    · refine V_seq ?_; refine V_seq ?_; refine V_region (id := 33) ?_; refine vo_step (ok_move rfl rfl rfl) rfl ?_; refine vo_step (ok_move rfl rfl rfl) rfl ?_; refine vo_step (ok_lss rfl rfl rfl rfl (decide_eq_true (by omega))) rfl ?_; refine vo_nil ?_; refine N_seq ?_; refine V_true rfl ?_; refine V_skip ?_; refine N_seq ?_; refine V_block ?_; refine V_seq ?_; refine V_region (id := 34) ?_; refine vo_step (ok_move rfl rfl rfl) rfl ?_; refine vo_step (ok_move rfl rfl rfl) rfl ?_; refine vo_step (ok_add rfl rfl rfl rfl (wrap_i64 (by omega) (by omega))) rfl ?_; refine vo_step (ok_conv rfl rfl rfl cv3_185.1 cv3_185.2 (wrap_u64 (by omega) (by omega))) rfl ?_; refine vo_step (ok_shr rfl rfl rfl rfl (by omega) (by assumption)) rfl ?_; refine vo_step (ok_conv rfl rfl rfl cv185_3.1 cv185_3.2 (wrap_i64 (by omega) (by omega))) rfl ?_; refine vo_step (ok_assign rfl rfl rfl) rfl ?_; refine vo_nil ?_; refine N_seq ?_; refine V_seq ?_; refine V_regionD (id := 35) [(200164, [900]), (200168, [900])] mixed (by kernel_rfl) ?_; refine par_step (ok_move rfl rfl rfl) rfl ?_; refine par_step (ok_move rfl rfl rfl) rfl ?_; refine par_step (ok_move rfl rfl rfl) rfl ?_; refine par_step (ok_move rfl rfl rfl) rfl ?_; refine par_step (ok_sub rfl rfl rfl rfl (by assumption)) rfl ?_; refine par_step (ok_indexAt L _ rfl rfl rfl rfl rfl rfl rfl (by omega)) rfl ?_; refine par_stepR (ok_loadHA L (q := 900) (vs := [_, _, _, _, _, _, _]) rfl rfl rfl rfl rfl rfl q1) rfl rfl ?_; refine par_step (ok_move rfl rfl rfl) rfl ?_; refine par_step (ok_move rfl rfl rfl) rfl ?_; refine par_step (ok_indexAt L _ rfl rfl rfl rfl rfl rfl rfl (by omega)) rfl ?_; refine par_stepR (ok_loadHA L (q := 900) (vs := [_, _, _, _, _, _, _]) rfl rfl rfl rfl rfl rfl q2) rfl rfl ?_; refine par_step (ok_callx L rfl rfl (blt_lt rfl) rfl rfl rfl (fun u H hH _ _ => ordC_ret hH)) rfl ?_; refine par_step (ok_lss rfl rfl rfl rfl (decide_eq_true (by omega))) rfl ?_; refine par_step (ok_not rfl rfl rfl rfl) rfl ?_; refine par_nil ?_; refine N_seq ?_; refine V_false rfl ?_; refine V_region (id := 37) ?_; refine vo_step (ok_move rfl rfl rfl) rfl ?_; refine vo_step (ok_assign rfl rfl rfl) rfl ?_; refine vo_nil ?_; refine N_block ?_
      exact N_round (x := (i, j)) (i, c) (hI.down cmpT_ord hX hY hb (by omega) (by omega) hxc hyc hcm) (by dsimp only; omega) ⟨rfl, rfl, rfl, rfl, rfl, rfl, rfl, rfl, rfl, rfl, rfl, trivial⟩
    · refine V_seq ?_; refine V_seq ?_; refine V_region (id := 33) ?_; refine vo_step (ok_move rfl rfl rfl) rfl ?_; refine vo_step (ok_move rfl rfl rfl) rfl ?_; refine vo_step (ok_lss rfl rfl rfl rfl (decide_eq_true (by omega))) rfl ?_; refine vo_nil ?_; refine N_seq ?_; refine V_true rfl ?_; refine V_skip ?_; refine N_seq ?_; refine V_block ?_; refine V_seq ?_; refine V_region (id := 34) ?_; refine vo_step (ok_move rfl rfl rfl) rfl ?_; refine vo_step (ok_move rfl rfl rfl) rfl ?_; refine vo_step (ok_add rfl rfl rfl rfl (wrap_i64 (by omega) (by omega))) rfl ?_; refine vo_step (ok_conv rfl rfl rfl cv3_185.1 cv3_185.2 (wrap_u64 (by omega) (by omega))) rfl ?_; refine vo_step (ok_shr rfl rfl rfl rfl (by omega) (by assumption)) rfl ?_; refine vo_step (ok_conv rfl rfl rfl cv185_3.1 cv185_3.2 (wrap_i64 (by omega) (by omega))) rfl ?_; refine vo_step (ok_assign rfl rfl rfl) rfl ?_; refine vo_nil ?_; refine N_seq ?_; refine V_seq ?_; refine V_regionD (id := 35) [(200164, [900]), (200168, [900])] mixed (by kernel_rfl) ?_; refine par_step (ok_move rfl rfl rfl) rfl ?_; refine par_step (ok_move rfl rfl rfl) rfl ?_; refine par_step (ok_move rfl rfl rfl) rfl ?_; refine par_step (ok_move rfl rfl rfl) rfl ?_; refine par_step (ok_sub rfl rfl rfl rfl (by assumption)) rfl ?_; refine par_step (ok_indexAt L _ rfl rfl rfl rfl rfl rfl rfl (by omega)) rfl ?_; refine par_stepR (ok_loadHA L (q := 900) (vs := [_, _, _, _, _, _, _]) rfl rfl rfl rfl rfl rfl q1) rfl rfl ?_; refine par_step (ok_move rfl rfl rfl) rfl ?_; refine par_step (ok_move rfl rfl rfl) rfl ?_; refine par_step (ok_indexAt L _ rfl rfl rfl rfl rfl rfl rfl (by omega)) rfl ?_; refine par_stepR (ok_loadHA L (q := 900) (vs := [_, _, _, _, _, _, _]) rfl rfl rfl rfl rfl rfl q2) rfl rfl ?_; refine par_step (ok_callx L rfl rfl (blt_lt rfl) rfl rfl rfl (fun u H hH _ _ => ordC_ret hH)) rfl ?_; refine par_step (ok_lss rfl rfl rfl rfl (decide_eq_false (by omega))) rfl ?_; refine par_step (ok_not rfl rfl rfl rfl) rfl ?_; refine par_nil ?_; refine N_seq ?_; refine V_true rfl ?_; refine V_region (id := 36) ?_; refine vo_step (ok_move rfl rfl rfl) rfl ?_; refine vo_step (ok_add rfl rfl rfl rfl (wrap_i64 (by omega) (by omega))) rfl ?_; refine vo_step (ok_assign rfl rfl rfl) rfl ?_; refine vo_nil ?_; refine N_block ?_
      exact N_round (x := (i, j)) (c + 1, j) (hI.up cmpT_ord hX hY hb (by omega) (by omega) hxc hyc hcm) (by dsimp only; omega) ⟨rfl, rfl, rfl, rfl, rfl, rfl, rfl, rfl, rfl, rfl, rfl, trivial⟩
  · obtain rfl : i = j := by omega
    have hj := sym_join cmpT_ord hX hY hb hI
    have hen : IntKind.i64.wrap (((mid + mm : Nat) : Int) - (i : Int)) = ((mid + mm - i : Nat) : Int) := wrap_i64 (by omega) (by omega) |>.trans (by omega)
    refine V_seq ?_; refine V_seq ?_; refine V_region (id := 33) ?_; refine vo_step (ok_move rfl rfl rfl) rfl ?_; refine vo_step (ok_move rfl rfl rfl) rfl ?_; refine vo_step (ok_lss rfl rfl rfl rfl (decide_eq_false (by omega))) rfl ?_; refine vo_nil ?_; refine N_seq ?_; refine V_false rfl ?_; refine V_exit ?_; refine X_then ?_; refine X_then ?_; refine X_here ?_; refine N_seq ?_; refine V_seq ?_; refine V_region (id := 38) ?_; refine vo_step (ok_move rfl rfl rfl) rfl ?_; refine vo_step (ok_move rfl rfl rfl) rfl ?_; refine vo_step (ok_sub rfl rfl rfl rfl (by assumption)) rfl ?_; refine vo_step (ok_assign rfl rfl rfl) rfl ?_; refine vo_nil ?_; refine N_seq ?_; refine V_seq ?_; refine V_seq ?_
    have eX : X.take (i - a) ++ X.drop (i - a) = X := List.take_append_drop _ _
    have eY : Y.take (mid - i) ++ Y.drop (mid - i) = Y := List.take_append_drop _ _
    have lA1 : (X.take (i - a)).length = i - a := by rw [List.length_take]; omega
    have lA2 : (X.drop (i - a)).length = mm - i := by rw [List.length_drop]; omega
    have lB1 : (Y.take (mid - i)).length = mid - i := by rw [List.length_take]; omega
    have lB2 : (Y.drop (mid - i)).length = e - (mid + mm - i) := by rw [List.length_drop]; omega
    generalize X.take (i - a) = A1 at *
    generalize X.drop (i - a) = A2 at *
    generalize Y.take (mid - i) = B1 at *
    generalize Y.drop (mid - i) = B2 at *
    change stC (A1 ++ B1) ++ stC (A2 ++ B2) = stC (X ++ Y) at hj
    rw [← hj]
    subst eX eY
    obtain ⟨sA1, sA2, _⟩ := srt_app.1 hX
    obtain ⟨sB1, sB2, _⟩ := srt_app.1 hY
    clear hI hb hj hX hY
    obtain ⟨en, hend⟩ : ∃ en, mid + mm - i = en := ⟨_, rfl⟩
    rw [hend] at lB2 ⊢
    have e0 : P ++ ((A1 ++ A2) ++ ((B1 ++ B2) ++ R)) = (P ++ A1) ++ (A2 ++ (B1 ++ (B2 ++ R))) := by simp
    have e1 : (P ++ A1) ++ (B1 ++ (A2 ++ (B2 ++ R))) = P ++ (A1 ++ (B1 ++ (A2 ++ (B2 ++ R)))) := by simp
    have hlen1 : ((P ++ A1) ++ (A2 ++ (B1 ++ (B2 ++ R)))).length = m := by rw [← e0]; exact hm
    have hlen2 : (P ++ (A1 ++ (B1 ++ (A2 ++ (B2 ++ R))))).length = m := by simp only [List.length_append] at hm' ⊢; omega
    have hl3 := stC_len (A1 ++ B1)
    rw [List.length_append] at hl3
    have e3 : P ++ (stC (A1 ++ B1) ++ (A2 ++ (B2 ++ R))) = (P ++ stC (A1 ++ B1)) ++ (A2 ++ (B2 ++ R)) := by simp
    have hlen3 : ((P ++ stC (A1 ++ B1)) ++ (A2 ++ (B2 ++ R))).length = m := by simp only [List.length_append] at hm' ⊢; omega
    have e4 : (P ++ stC (A1 ++ B1)) ++ (stC (A2 ++ B2) ++ R) = P ++ ((stC (A1 ++ B1) ++ stC (A2 ++ B2)) ++ R) := by simp
    simp only [List.length_append] at hm' hmm he hN
    refine V_meetC (fun _ : Unit => [(0, .is (.slice (some ⟨b, 0, none⟩) m cap)), (1, .is (.int .i64 a)), (3, .is (.int .i64 e)), (4, .is ordV), (18, .is (.int .i64 mid)), (20, .is (.int .i64 i)), (24, .is (.int .i64 en)), (900, .own (HeldR b ((P ++ (A1 ++ (B1 ++ (A2 ++ (B2 ++ R))))).flatMap ccs ++ rest) tyC))]) (fun _ => True) (fun _ => []) ?rest1 ?first1
    case first1 =>
      rw [e0]
      by_cases h1 : i < mm
      · by_cases h2 : mm < en
        · refine V_region (id := 39) ?_; refine vo_step (ok_move rfl rfl rfl) rfl ?_; refine vo_step (ok_move rfl rfl rfl) rfl ?_; refine vo_step (ok_lss rfl rfl rfl rfl (decide_eq_true (by omega))) rfl ?_; refine vo_step (ok_move rfl rfl rfl) rfl ?_; refine vo_step (ok_move rfl rfl rfl) rfl ?_; refine vo_step (ok_move rfl rfl rfl) rfl ?_; refine vo_step (ok_lss rfl rfl rfl rfl (decide_eq_true (by omega))) rfl ?_; refine vo_step (ok_pick rfl rfl rfl rfl) rfl ?_; refine vo_nil ?_; refine N_seq ?_; refine V_true rfl ?_; refine V_region (id := 40) ?_; refine vo_step (ok_move rfl rfl rfl) rfl ?_; refine vo_step (ok_move rfl rfl rfl) rfl ?_; refine vo_step (ok_move rfl rfl rfl) rfl ?_; refine vo_step (ok_move rfl rfl rfl) rfl ?_; refine vo_step (ok_move rfl rfl rfl) rfl ?_; refine vo_step2 (ok_callG L 900 (GHeld b (((P ++ A1) ++ (B1 ++ (A2 ++ (B2 ++ R)))).flatMap ccs ++ rest) tyC) (r := GHeld b (((P ++ A1) ++ (A2 ++ (B1 ++ (B2 ++ R)))).flatMap ccs ++ rest) tyC) rfl rfl rfl rfl rfl (fun u H C hH _ hr hC => (by have h := rot_ret (cap := cap) (a := i) (mm := mm) (e := en) (by rw [List.length_append]; omega) (by omega) (by omega) (by omega) (by omega) hlen1 hm1 ordV hH hr hC; exact h))) ?_; refine vo_nil ?_
          rw [e1]
          exact N_mids () Since.refl trivial rfl ⟨rfl, rfl, rfl, rfl, rfl, rfl, rfl, rfl, trivial⟩
        · have hB1 : B1 = [] := List.eq_nil_of_length_eq_zero (by omega)
          subst hB1
          have e9 : (P ++ A1) ++ (A2 ++ ([] ++ (B2 ++ R))) = P ++ (A1 ++ ([] ++ (A2 ++ (B2 ++ R)))) := by simp
          rw [e9]
          refine V_region (id := 39) ?_; refine vo_step (ok_move rfl rfl rfl) rfl ?_; refine vo_step (ok_move rfl rfl rfl) rfl ?_; refine vo_step (ok_lss rfl rfl rfl rfl (decide_eq_true (by omega))) rfl ?_; refine vo_step (ok_move rfl rfl rfl) rfl ?_; refine vo_step (ok_move rfl rfl rfl) rfl ?_; refine vo_step (ok_move rfl rfl rfl) rfl ?_; refine vo_step (ok_lss rfl rfl rfl rfl (decide_eq_false (by omega))) rfl ?_; refine vo_step (ok_pick rfl rfl rfl rfl) rfl ?_; refine vo_nil ?_; refine N_seq ?_; refine V_false rfl ?_; refine V_skip ?_
          exact N_mids () Since.refl trivial rfl ⟨rfl, rfl, rfl, rfl, rfl, rfl, rfl, rfl, trivial⟩
      · have hA2 : A2 = [] := List.eq_nil_of_length_eq_zero (by omega)
        subst hA2
        have e9 : (P ++ A1) ++ ([] ++ (B1 ++ (B2 ++ R))) = P ++ (A1 ++ (B1 ++ ([] ++ (B2 ++ R)))) := by simp
        rw [e9]
        refine V_region (id := 39) ?_; refine vo_step (ok_move rfl rfl rfl) rfl ?_; refine vo_step (ok_move rfl rfl rfl) rfl ?_; refine vo_step (ok_lss rfl rfl rfl rfl (decide_eq_false (by omega))) rfl ?_; refine vo_step (ok_move rfl rfl rfl) rfl ?_; refine vo_step (ok_skip rfl (blt_lt rfl) rfl) rfl ?_; refine vo_step (ok_skip rfl (blt_lt rfl) rfl) rfl ?_; refine vo_step (ok_skip rfl (blt_lt rfl) rfl) rfl ?_; refine vo_step (ok_pick rfl rfl rfl rfl) rfl ?_; refine vo_nil ?_; refine N_seq ?_; refine V_false rfl ?_; refine V_skip ?_
        exact N_mids () Since.refl trivial rfl ⟨rfl, rfl, rfl, rfl, rfl, rfl, rfl, rfl, trivial⟩
    case rest1 =>
    rintro _ _
    refine V_seq ?_; refine V_seq ?_
    refine V_meetC (fun _ : Unit => [(0, .is (.slice (some ⟨b, 0, none⟩) m cap)), (3, .is (.int .i64 e)), (4, .is ordV), (18, .is (.int .i64 mid)), (24, .is (.int .i64 en)), (900, .own (HeldR b (((P ++ stC (A1 ++ B1)) ++ (A2 ++ (B2 ++ R))).flatMap ccs ++ rest) tyC))]) (fun _ => True) (fun _ => []) ?rest2 ?first2
    case first2 =>
      rw [← e3]
      by_cases h1 : a < i
      · by_cases h2 : i < mid
        · refine V_region (id := 41) ?_; refine vo_step (ok_move rfl rfl rfl) rfl ?_; refine vo_step (ok_move rfl rfl rfl) rfl ?_; refine vo_step (ok_lss rfl rfl rfl rfl (decide_eq_true (by omega))) rfl ?_; refine vo_step (ok_move rfl rfl rfl) rfl ?_; refine vo_step (ok_move rfl rfl rfl) rfl ?_; refine vo_step (ok_move rfl rfl rfl) rfl ?_; refine vo_step (ok_lss rfl rfl rfl rfl (decide_eq_true (by omega))) rfl ?_; refine vo_step (ok_pick rfl rfl rfl rfl) rfl ?_; refine vo_nil ?_; refine N_seq ?_; refine V_true rfl ?_; refine V_region (id := 42) ?_; refine vo_step (ok_move rfl rfl rfl) rfl ?_; refine vo_step (ok_move rfl rfl rfl) rfl ?_; refine vo_step (ok_move rfl rfl rfl) rfl ?_; refine vo_step (ok_move rfl rfl rfl) rfl ?_; refine vo_step (ok_move rfl rfl rfl) rfl ?_; refine vo_step2 (ok_callG L 900 (GHeld b ((P ++ (stC (A1 ++ B1) ++ (A2 ++ (B2 ++ R)))).flatMap ccs ++ rest) tyC) (r := GHeld b ((P ++ (A1 ++ (B1 ++ (A2 ++ (B2 ++ R))))).flatMap ccs ++ rest) tyC) rfl rfl rfl rfl rfl (fun u H C hH _ hr hC => (by have h := ih (cap := cap) (a := a) (mm := i) (e := mid) (by omega) ha (by omega) (by omega) (by omega) (by omega) sA1 sB1 hlen2 hm1 hH hr hC; exact h))) ?_; refine vo_nil ?_
          exact N_mids () Since.refl trivial rfl ⟨rfl, rfl, rfl, rfl, rfl, rfl, trivial⟩
        · have hB1 : B1 = [] := List.eq_nil_of_length_eq_zero (by omega)
          subst hB1
          have e9 : P ++ (A1 ++ ([] ++ (A2 ++ (B2 ++ R)))) = P ++ (stC (A1 ++ []) ++ (A2 ++ (B2 ++ R))) := by rw [List.append_nil, stC_srt sA1]; rfl
          rw [e9]
          refine V_region (id := 41) ?_; refine vo_step (ok_move rfl rfl rfl) rfl ?_; refine vo_step (ok_move rfl rfl rfl) rfl ?_; refine vo_step (ok_lss rfl rfl rfl rfl (decide_eq_true (by omega))) rfl ?_; refine vo_step (ok_move rfl rfl rfl) rfl ?_; refine vo_step (ok_move rfl rfl rfl) rfl ?_; refine vo_step (ok_move rfl rfl rfl) rfl ?_; refine vo_step (ok_lss rfl rfl rfl rfl (decide_eq_false (by omega))) rfl ?_; refine vo_step (ok_pick rfl rfl rfl rfl) rfl ?_; refine vo_nil ?_; refine N_seq ?_; refine V_false rfl ?_; refine V_skip ?_
          exact N_mids () Since.refl trivial rfl ⟨rfl, rfl, rfl, rfl, rfl, rfl, trivial⟩
      · have hA1 : A1 = [] := List.eq_nil_of_length_eq_zero (by omega)
        subst hA1
        have e9 : P ++ ([] ++ (B1 ++ (A2 ++ (B2 ++ R)))) = P ++ (stC ([] ++ B1) ++ (A2 ++ (B2 ++ R))) := by rw [List.nil_append, List.nil_append, stC_srt sB1]
        rw [e9]
        refine V_region (id := 41) ?_; refine vo_step (ok_move rfl rfl rfl) rfl ?_; refine vo_step (ok_move rfl rfl rfl) rfl ?_; refine vo_step (ok_lss rfl rfl rfl rfl (decide_eq_false (by omega))) rfl ?_; refine vo_step (ok_move rfl rfl rfl) rfl ?_; refine vo_step (ok_skip rfl (blt_lt rfl) rfl) rfl ?_; refine vo_step (ok_skip rfl (blt_lt rfl) rfl) rfl ?_; refine vo_step (ok_skip rfl (blt_lt rfl) rfl) rfl ?_; refine vo_step (ok_pick rfl rfl rfl rfl) rfl ?_; refine vo_nil ?_; refine N_seq ?_; refine V_false rfl ?_; refine V_skip ?_
        exact N_mids () Since.refl trivial rfl ⟨rfl, rfl, rfl, rfl, rfl, rfl, trivial⟩
    case rest2 =>
    rintro _ _
    by_cases h1 : mid < en
    · by_cases h2 : en < e
      · refine V_seq ?_; refine V_region (id := 43) ?_; refine vo_step (ok_move rfl rfl rfl) rfl ?_; refine vo_step (ok_move rfl rfl rfl) rfl ?_; refine vo_step (ok_lss rfl rfl rfl rfl (decide_eq_true (by omega))) rfl ?_; refine vo_step (ok_move rfl rfl rfl) rfl ?_; refine vo_step (ok_move rfl rfl rfl) rfl ?_; refine vo_step (ok_move rfl rfl rfl) rfl ?_; refine vo_step (ok_lss rfl rfl rfl rfl (decide_eq_true (by omega))) rfl ?_; refine vo_step (ok_pick rfl rfl rfl rfl) rfl ?_; refine vo_nil ?_; refine N_seq ?_; refine V_true rfl ?_; refine V_region (id := 44) ?_; refine vo_step (ok_move rfl rfl rfl) rfl ?_; refine vo_step (ok_move rfl rfl rfl) rfl ?_; refine vo_step (ok_move rfl rfl rfl) rfl ?_; refine vo_step (ok_move rfl rfl rfl) rfl ?_; refine vo_step (ok_move rfl rfl rfl) rfl ?_; refine vo_step2 (ok_callG L 900 (GHeld b (((P ++ stC (A1 ++ B1)) ++ (stC (A2 ++ B2) ++ R)).flatMap ccs ++ rest) tyC) (r := GHeld b (((P ++ stC (A1 ++ B1)) ++ (A2 ++ (B2 ++ R))).flatMap ccs ++ rest) tyC) rfl rfl rfl rfl rfl (fun u H C hH _ hr hC => (by have h := ih (cap := cap) (a := mid) (mm := en) (e := e) (by omega) (by rw [List.length_append]; omega) (by omega) (by omega) (by omega) (by omega) sA2 sB2 hlen3 hm1 hH hr hC; exact h))) ?_; refine vo_nil ?_
        rw [e4]
        exact N_retGhost L 900 (r := GHeld b _ tyC) rfl (fun _ _ h => h) Since.refl rfl rfl
      · have hB2 : B2 = [] := List.eq_nil_of_length_eq_zero (by omega)
        subst hB2
        have e9 : (P ++ stC (A1 ++ B1)) ++ (A2 ++ ([] ++ R)) = P ++ ((stC (A1 ++ B1) ++ stC (A2 ++ [])) ++ R) := by rw [List.append_nil, stC_srt sA2]; simp
        rw [e9]
        refine V_seq ?_; refine V_region (id := 43) ?_; refine vo_step (ok_move rfl rfl rfl) rfl ?_; refine vo_step (ok_move rfl rfl rfl) rfl ?_; refine vo_step (ok_lss rfl rfl rfl rfl (decide_eq_true (by omega))) rfl ?_; refine vo_step (ok_move rfl rfl rfl) rfl ?_; refine vo_step (ok_move rfl rfl rfl) rfl ?_; refine vo_step (ok_move rfl rfl rfl) rfl ?_; refine vo_step (ok_lss rfl rfl rfl rfl (decide_eq_false (by omega))) rfl ?_; refine vo_step (ok_pick rfl rfl rfl rfl) rfl ?_; refine vo_nil ?_; refine N_seq ?_; refine V_false rfl ?_; refine V_skip ?_
        exact N_retGhost L 900 (r := GHeld b _ tyC) rfl (fun _ _ h => h) Since.refl rfl rfl
    · have hA2 : A2 = [] := List.eq_nil_of_length_eq_zero (by omega)
      subst hA2
      have e9 : (P ++ stC (A1 ++ B1)) ++ ([] ++ (B2 ++ R)) = P ++ ((stC (A1 ++ B1) ++ stC ([] ++ B2)) ++ R) := by rw [List.nil_append, List.nil_append, stC_srt sB2]; simp
      rw [e9]
      refine V_seq ?_; refine V_region (id := 43) ?_; refine vo_step (ok_move rfl rfl rfl) rfl ?_; refine vo_step (ok_move rfl rfl rfl) rfl ?_; refine vo_step (ok_lss rfl rfl rfl rfl (decide_eq_false (by omega))) rfl ?_; refine vo_step (ok_move rfl rfl rfl) rfl ?_; refine vo_step (ok_skip rfl (blt_lt rfl) rfl) rfl ?_; refine vo_step (ok_skip rfl (blt_lt rfl) rfl) rfl ?_; refine vo_step (ok_skip rfl (blt_lt rfl) rfl) rfl ?_; refine vo_step (ok_pick rfl rfl rfl rfl) rfl ?_; refine vo_nil ?_; refine N_seq ?_; refine V_false rfl ?_; refine V_skip ?_
      exact N_retGhost L 900 (r := GHeld b _ tyC) rfl (fun _ _ h => h) Since.refl rfl rfl
end Go.V.L8
/- The walks of the library's stable sort, at changes: blocks are sorted, then merged. -/
namespace Go.V.L8
open Go.Proofs Go.RowKit Go.V Go.V.L2 Go.V.L3 Go.V.L6
abbrev chC (n : Nat) (l : List CH) : List CH := chL (fun c : CH => c.1) cmpT n l
theorem chC_step {n : Nat} (hn : 0 < n) (l : List CH) : chC n l = stC (l.take n) ++ chC n (l.drop n) := chL_step hn l
theorem chC_one {n : Nat} (hn : 0 < n) {l : List CH} (h : l.length ≤ n) : chC n l = stC l := chL_one hn h
theorem chC_len {n : Nat} (hn : 0 < n) (l : List CH) : (chC n l).length = l.length := chL_len cmpT_ord hn l.length (Nat.le_refl _)
theorem stC_app (X Y : List CH) : stC (stC X ++ stC Y) = stC (X ++ Y) := stbL_app cmpT_ord X Y
theorem srtC_stC (X : List CH) : SrtC (stC X) := (stbL_stb cmpT_ord X).1
attribute [local irreducible] V N X VO Par StepOK Has Ret RetL RetO RetT RetG Src
set_option maxHeartbeats 8000000 in
set_option maxRecDepth 20000 in
theorem stab_ret {l : List CH} {rest : List Value} {b m cap : Nat} (hm : l.length = m) (hm1 : m ≤ 100000) {w : World} {B : Heap} {C : Nat → Prop} (hB : B.Le (hp w))
    (hr : (GHeld b (l.flatMap ccs ++ rest) tyC).P B w C) (hC : ∀ k, C k → k < w.heap.size ∧ B k = none) :
    RetG Try.prog 114 [.slice (some ⟨b, 0, none⟩) m cap, .int .i64 m, ordV] w B C (GHeld b ((stC l).flatMap ccs ++ rest) tyC) := by
  unfold RetG
  refine V_enterG 900 (GHeld b (l.flatMap ccs ++ rest) tyC) Try.func114 rfl Try.ntmps114 (Nat.le_of_ble_eq_true rfl) hB hr hC ?_
  rw [gheld_res]
  refine V_seq ?_; refine V_region (id := 0) ?_; refine vo_step (ok_assign rfl rfl rfl) rfl ?_; refine vo_nil ?_; refine N_seq ?_; refine V_seq ?_; refine V_region (id := 1) ?_; refine vo_step (ok_move rfl rfl rfl) rfl ?_; refine vo_step (ok_assign rfl rfl rfl) rfl ?_; refine vo_step (ok_assign rfl rfl rfl) rfl ?_; refine vo_nil ?_; refine N_seq ?_; refine V_seq ?_; refine V_block ?_
  refine V_loop (fun s : Nat × List CH => [(0, .is (.slice (some ⟨b, 0, none⟩) m cap)), (1, .is (.int .i64 m)), (2, .is ordV), (6, .is (.int .i64 20)), (7, .is (.int .i64 s.1)), (8, .is (.int .i64 (s.1 + 20 : Nat))), (900, .own (HeldR b ((s.2 ++ l.drop s.1).flatMap ccs ++ rest) tyC))])
    (fun s => s.2.length = s.1 ∧ s.1 ≤ m ∧ s.2 ++ chC 20 (l.drop s.1) = chC 20 l) (fun s => m - s.1) (0, []) ⟨rfl, Nat.zero_le _, rfl⟩ ⟨rfl, rfl, rfl, rfl, rfl, rfl, rfl, trivial⟩ ?_
  rintro ⟨a, S1⟩ ⟨h1, h2, h3⟩
  dsimp only at h1 h2 h3 ⊢
  have hdl : (l.drop a).length = m - a := by rw [List.length_drop, hm]
  by_cases hlt : a + 20 ≤ m
  · have e0 : S1 ++ l.drop a = S1 ++ ((l.drop a).take 20 ++ (l.drop a).drop 20) := by rw [List.take_append_drop]
    have e1 : S1 ++ (stC ((l.drop a).take 20) ++ (l.drop a).drop 20) = (S1 ++ stC ((l.drop a).take 20)) ++ l.drop (a + 20) := by rw [List.drop_drop, List.append_assoc]
    have hlen : (S1 ++ ((l.drop a).take 20 ++ (l.drop a).drop 20)).length = m := by rw [← e0, List.length_append]; omega
    have ltk : ((l.drop a).take 20).length = 20 := by rw [List.length_take]; omega
    have a1 : IntKind.i64.wrap (((a + 20 : Nat) : Int) + 20) = ((a + 20 + 20 : Nat) : Int) := wrap_i64 (by omega) (by omega)
    rw [e0]
    refine V_seq ?_; refine V_seq ?_; refine V_region (id := 2) ?_; refine vo_step (ok_move rfl rfl rfl) rfl ?_; refine vo_step (ok_move rfl rfl rfl) rfl ?_; refine vo_step (ok_leq rfl rfl rfl rfl (decide_eq_true (by omega))) rfl ?_; refine vo_nil ?_; refine N_seq ?_; refine V_true rfl ?_; refine V_skip ?_; refine N_seq ?_; refine V_block ?_; refine V_seq ?_; refine V_region (id := 3) ?_; refine vo_step (ok_move rfl rfl rfl) rfl ?_; refine vo_step (ok_move rfl rfl rfl) rfl ?_; refine vo_step (ok_move rfl rfl rfl) rfl ?_; refine vo_step (ok_move rfl rfl rfl) rfl ?_; refine vo_step2 (ok_callG L 900 (GHeld b ((S1 ++ (stC ((l.drop a).take 20) ++ (l.drop a).drop 20)).flatMap ccs ++ rest) tyC) (r := GHeld b ((S1 ++ ((l.drop a).take 20 ++ (l.drop a).drop 20)).flatMap ccs ++ rest) tyC) rfl rfl rfl rfl rfl (fun u H C hH _ hr hC => (by have h := ins_ret (cap := cap) (a := a) (e := a + 20) h1 (by omega) hlen hm1 hH hr hC; exact h))) ?_; refine vo_nil ?_; refine N_seq ?_; refine V_seq ?_; refine V_region (id := 4) ?_; refine vo_step (ok_move rfl rfl rfl) rfl ?_; refine vo_step (ok_assign rfl rfl rfl) rfl ?_; refine vo_nil ?_; refine N_seq ?_; refine V_region (id := 5) ?_; refine vo_step (ok_move rfl rfl rfl) rfl ?_; refine vo_step (ok_move rfl rfl rfl) rfl ?_; refine vo_step (ok_add rfl rfl rfl rfl (by assumption)) rfl ?_; refine vo_step (ok_assign rfl rfl rfl) rfl ?_; refine vo_nil ?_; refine N_block ?_
    rw [e1]
    exact N_round (x := (a, S1)) (a + 20, S1 ++ stC ((l.drop a).take 20)) ⟨by dsimp only; rw [List.length_append, stC_len]; omega, hlt, by
      dsimp only
      rw [← h3, chC_step (by omega) (l.drop a), List.drop_drop, List.append_assoc]⟩ (by dsimp only; omega) ⟨rfl, rfl, rfl, rfl, rfl, rfl, rfl, trivial⟩
  · have e0 : S1 ++ l.drop a = S1 ++ (l.drop a ++ []) := by rw [List.append_nil]
    have e1 : S1 ++ (stC (l.drop a) ++ []) = chC 20 l := by rw [List.append_nil, ← h3, chC_one (by omega) (by omega)]
    have hlen : (S1 ++ (l.drop a ++ [])).length = m := by rw [← e0, List.length_append]; omega
    rw [e0]
    refine V_seq ?_; refine V_seq ?_; refine V_region (id := 2) ?_; refine vo_step (ok_move rfl rfl rfl) rfl ?_; refine vo_step (ok_move rfl rfl rfl) rfl ?_; refine vo_step (ok_leq rfl rfl rfl rfl (decide_eq_false (by omega))) rfl ?_; refine vo_nil ?_; refine N_seq ?_; refine V_false rfl ?_; refine V_exit ?_; refine X_then ?_; refine X_then ?_; refine X_here ?_; refine N_seq ?_; refine V_seq ?_; refine V_region (id := 6) ?_; refine vo_step (ok_move rfl rfl rfl) rfl ?_; refine vo_step (ok_move rfl rfl rfl) rfl ?_; refine vo_step (ok_move rfl rfl rfl) rfl ?_; refine vo_step (ok_move rfl rfl rfl) rfl ?_; refine vo_step2 (ok_callG L 900 (GHeld b ((S1 ++ (stC (l.drop a) ++ [])).flatMap ccs ++ rest) tyC) (r := GHeld b ((S1 ++ (l.drop a ++ [])).flatMap ccs ++ rest) tyC) rfl rfl rfl rfl rfl (fun u H C hH _ hr hC => (by have h := ins_ret (cap := cap) (a := a) (e := m) h1 (by omega) hlen hm1 hH hr hC; exact h))) ?_; refine vo_nil ?_; refine N_seq ?_; refine V_block ?_
    rw [e1]
    clear e0 e1 hlen hlt hdl h1 h2 h3
    refine V_loop (fun s : Nat => [(0, .is (.slice (some ⟨b, 0, none⟩) m cap)), (1, .is (.int .i64 m)), (2, .is ordV), (6, .is (.int .i64 s)), (900, .own (HeldR b ((chC s l).flatMap ccs ++ rest) tyC))]) (fun s => 0 < s ∧ s ≤ 20 + 2 * m) (fun s => m - s) 20 ⟨by omega, by omega⟩ ⟨rfl, rfl, rfl, rfl, rfl, trivial⟩ ?_
    rintro s ⟨hs0, hs1⟩
    by_cases hsm : s < m
    · refine V_seq ?_; refine V_seq ?_; refine V_region (id := 7) ?_; refine vo_step (ok_move rfl rfl rfl) rfl ?_; refine vo_step (ok_move rfl rfl rfl) rfl ?_; refine vo_step (ok_lss rfl rfl rfl rfl (decide_eq_true (by omega))) rfl ?_; refine vo_nil ?_; refine N_seq ?_; refine V_true rfl ?_; refine V_skip ?_; refine N_seq ?_; refine V_block ?_; refine V_seq ?_; refine V_region (id := 8) ?_; refine vo_step (ok_move rfl rfl rfl) rfl ?_; refine vo_step (ok_mul rfl rfl rfl rfl (wrap_i64 (by omega) (by omega))) rfl ?_; refine vo_step (ok_assign rfl rfl rfl) rfl ?_; refine vo_step (ok_assign rfl rfl rfl) rfl ?_; refine vo_nil ?_; refine N_seq ?_; refine V_seq ?_; refine V_block ?_
      refine V_loop (fun t : Nat × List CH => [(0, .is (.slice (some ⟨b, 0, none⟩) m cap)), (1, .is (.int .i64 m)), (2, .is ordV), (6, .is (.int .i64 s)), (7, .is (.int .i64 t.1)), (8, .is (.int .i64 (t.1 + 2 * s : Nat))), (900, .own (HeldR b ((t.2 ++ chC s (l.drop t.1)).flatMap ccs ++ rest) tyC))])
        (fun t => t.2.length = t.1 ∧ t.1 ≤ m ∧ t.2 ++ chC (2 * s) (l.drop t.1) = chC (2 * s) l) (fun t => m - t.1) (0, []) ⟨rfl, Nat.zero_le _, rfl⟩ ⟨rfl, rfl, rfl, rfl, rfl, by dsimp only; rw [Nat.zero_add]; rfl, rfl, trivial⟩ ?_
      rintro ⟨a, S1⟩ ⟨h1, h2, h3⟩
      dsimp only at h1 h2 h3 ⊢
      have hdl : (l.drop a).length = m - a := by rw [List.length_drop, hm]
      have hcs := chC_step hs0 (l.drop a)
      by_cases hlt : a + 2 * s ≤ m
      · have hcs2 := chC_step hs0 ((l.drop a).drop s)
        have e0 : S1 ++ chC s (l.drop a) = S1 ++ (stC ((l.drop a).take s) ++ (stC (((l.drop a).drop s).take s) ++ chC s (l.drop (a + 2 * s)))) := by
          rw [hcs, hcs2, List.drop_drop, List.drop_drop, show a + s + s = a + 2 * s by omega]
        have ht2 : (l.drop a).take (2 * s) = (l.drop a).take s ++ ((l.drop a).drop s).take s := by rw [show 2 * s = s + s by omega, List.take_add]
        have e1 : S1 ++ (stC (stC ((l.drop a).take s) ++ stC (((l.drop a).drop s).take s)) ++ chC s (l.drop (a + 2 * s))) = (S1 ++ stC ((l.drop a).take (2 * s))) ++ chC s (l.drop (a + 2 * s)) := by rw [stC_app, ← ht2, List.append_assoc]
        have l1 : (stC ((l.drop a).take s)).length = s := by rw [stC_len, List.length_take]; omega
        have l2 : (stC (((l.drop a).drop s).take s)).length = s := by rw [stC_len, List.length_take, List.length_drop]; omega
        have l3 : (chC s (l.drop (a + 2 * s))).length = m - (a + 2 * s) := by rw [chC_len hs0, List.length_drop, hm]
        have hlen : (S1 ++ (stC ((l.drop a).take s) ++ (stC (((l.drop a).drop s).take s) ++ chC s (l.drop (a + 2 * s))))).length = m := by simp only [List.length_append]; omega
        have a1 : IntKind.i64.wrap ((a : Int) + (s : Int)) = ((a + s : Nat) : Int) := wrap_i64 (by omega) (by omega)
        have a2 : IntKind.i64.wrap (((a + 2 * s : Nat) : Int) + 2 * (s : Int)) = ((a + 2 * s + 2 * s : Nat) : Int) := wrap_i64 (by omega) (by omega)
        rw [e0]
        refine V_seq ?_; refine V_seq ?_; refine V_region (id := 9) ?_; refine vo_step (ok_move rfl rfl rfl) rfl ?_; refine vo_step (ok_move rfl rfl rfl) rfl ?_; refine vo_step (ok_leq rfl rfl rfl rfl (decide_eq_true (by omega))) rfl ?_; refine vo_nil ?_; refine N_seq ?_; refine V_true rfl ?_; refine V_skip ?_; refine N_seq ?_; refine V_block ?_; refine V_seq ?_; refine V_region (id := 10) ?_; refine vo_step (ok_move rfl rfl rfl) rfl ?_; refine vo_step (ok_move rfl rfl rfl) rfl ?_; refine vo_step (ok_move rfl rfl rfl) rfl ?_; refine vo_step (ok_move rfl rfl rfl) rfl ?_; refine vo_step (ok_add rfl rfl rfl rfl (by assumption)) rfl ?_; refine vo_step (ok_move rfl rfl rfl) rfl ?_; refine vo_step (ok_move rfl rfl rfl) rfl ?_; refine vo_step2 (ok_callG L 900 (GHeld b ((S1 ++ (stC (stC ((l.drop a).take s) ++ stC (((l.drop a).drop s).take s)) ++ chC s (l.drop (a + 2 * s)))).flatMap ccs ++ rest) tyC) (r := GHeld b ((S1 ++ (stC ((l.drop a).take s) ++ (stC (((l.drop a).drop s).take s) ++ chC s (l.drop (a + 2 * s))))).flatMap ccs ++ rest) tyC) rfl rfl rfl rfl rfl (fun u H C hH _ hr hC => (by have h := sym_ret _ (cap := cap) (a := a) (mm := a + s) (e := a + 2 * s) (Nat.le_refl _) h1 (by omega) (by omega) (by omega) (by omega) (srtC_stC _) (srtC_stC _) hlen hm1 hH hr hC; exact h))) ?_; refine vo_nil ?_; refine N_seq ?_; refine V_seq ?_; refine V_region (id := 11) ?_; refine vo_step (ok_move rfl rfl rfl) rfl ?_; refine vo_step (ok_assign rfl rfl rfl) rfl ?_; refine vo_nil ?_; refine N_seq ?_; refine V_region (id := 12) ?_; refine vo_step (ok_move rfl rfl rfl) rfl ?_; refine vo_step (ok_move rfl rfl rfl) rfl ?_; refine vo_step (ok_mul rfl rfl rfl rfl (wrap_i64 (by omega) (by omega))) rfl ?_; refine vo_step (ok_add rfl rfl rfl rfl (by assumption)) rfl ?_; refine vo_step (ok_assign rfl rfl rfl) rfl ?_; refine vo_nil ?_; refine N_block ?_
        rw [e1]
        exact N_round (x := (a, S1)) (a + 2 * s, S1 ++ stC ((l.drop a).take (2 * s))) ⟨by dsimp only; rw [List.length_append, stC_len, List.length_take]; omega, hlt, by
          dsimp only
          rw [← h3, chC_step (by omega) (l.drop a), List.drop_drop, List.append_assoc]⟩ (by dsimp only; omega) ⟨rfl, rfl, rfl, rfl, rfl, rfl, rfl, trivial⟩
      · have a1 : IntKind.i64.wrap ((a : Int) + (s : Int)) = ((a + s : Nat) : Int) := wrap_i64 (by omega) (by omega)
        have a2 : IntKind.i64.wrap ((s : Int) * 2) = ((2 * s : Nat) : Int) := wrap_i64 (by omega) (by omega) |>.trans (by omega)
        by_cases hlm : a + s < m
        · have e0 : S1 ++ chC s (l.drop a) = S1 ++ (stC ((l.drop a).take s) ++ (stC ((l.drop a).drop s) ++ [])) := by
            rw [hcs, chC_one hs0 (l := (l.drop a).drop s) (by rw [List.length_drop]; omega), List.append_nil]
          have e1 : S1 ++ (stC (stC ((l.drop a).take s) ++ stC ((l.drop a).drop s)) ++ []) = chC (2 * s) l := by
            rw [stC_app, List.take_append_drop, List.append_nil, ← h3, chC_one (n := 2 * s) (by omega) (by omega)]
          have l1 : (stC ((l.drop a).take s)).length = s := by rw [stC_len, List.length_take]; omega
          have l2 : (stC ((l.drop a).drop s)).length = m - a - s := by rw [stC_len, List.length_drop]; omega
          have hlen : (S1 ++ (stC ((l.drop a).take s) ++ (stC ((l.drop a).drop s) ++ []))).length = m := by simp only [List.length_append, List.length_nil]; omega
          rw [e0]
          refine V_seq ?_; refine V_seq ?_; refine V_region (id := 9) ?_; refine vo_step (ok_move rfl rfl rfl) rfl ?_; refine vo_step (ok_move rfl rfl rfl) rfl ?_; refine vo_step (ok_leq rfl rfl rfl rfl (decide_eq_false (by omega))) rfl ?_; refine vo_nil ?_; refine N_seq ?_; refine V_false rfl ?_; refine V_exit ?_; refine X_then ?_; refine X_then ?_; refine X_here ?_; refine N_seq ?_; refine V_seq ?_; refine V_seq ?_; refine V_region (id := 13) ?_; refine vo_step (ok_move rfl rfl rfl) rfl ?_; refine vo_step (ok_move rfl rfl rfl) rfl ?_; refine vo_step (ok_add rfl rfl rfl rfl (by assumption)) rfl ?_; refine vo_step (ok_assign rfl rfl rfl) rfl ?_; refine vo_nil ?_; refine N_seq ?_; refine V_seq ?_; refine V_region (id := 14) ?_; refine vo_step (ok_move rfl rfl rfl) rfl ?_; refine vo_step (ok_move rfl rfl rfl) rfl ?_; refine vo_step (ok_lss rfl rfl rfl rfl (decide_eq_true (by omega))) rfl ?_; refine vo_nil ?_; refine N_seq ?_; refine V_true rfl ?_; refine V_region (id := 15) ?_; refine vo_step (ok_move rfl rfl rfl) rfl ?_; refine vo_step (ok_move rfl rfl rfl) rfl ?_; refine vo_step (ok_move rfl rfl rfl) rfl ?_; refine vo_step (ok_move rfl rfl rfl) rfl ?_; refine vo_step (ok_move rfl rfl rfl) rfl ?_; refine vo_step2 (ok_callG L 900 (GHeld b ((S1 ++ (stC (stC ((l.drop a).take s) ++ stC ((l.drop a).drop s)) ++ [])).flatMap ccs ++ rest) tyC) (r := GHeld b ((S1 ++ (stC ((l.drop a).take s) ++ (stC ((l.drop a).drop s) ++ []))).flatMap ccs ++ rest) tyC) rfl rfl rfl rfl rfl (fun u H C hH _ hr hC => (by have h := sym_ret _ (cap := cap) (a := a) (mm := a + s) (e := m) (Nat.le_refl _) h1 (by omega) (by omega) (by omega) (by omega) (srtC_stC _) (srtC_stC _) hlen hm1 hH hr hC; exact h))) ?_; refine vo_nil ?_; refine N_seq ?_; refine V_region (id := 16) ?_; refine vo_step (ok_move rfl rfl rfl) rfl ?_; refine vo_step (ok_mul rfl rfl rfl rfl a2) rfl ?_; refine vo_step (ok_assign rfl rfl rfl) rfl ?_; refine vo_nil ?_; refine N_block ?_
          rw [e1]
          exact N_round (x := s) (2 * s) ⟨by omega, by omega⟩ (by omega) ⟨rfl, rfl, rfl, rfl, rfl, trivial⟩
        · have e1 : S1 ++ chC s (l.drop a) = chC (2 * s) l := by
            rw [← h3, chC_one hs0 (by omega), chC_one (n := 2 * s) (by omega) (by omega)]
          rw [e1]
          refine V_seq ?_; refine V_seq ?_; refine V_region (id := 9) ?_; refine vo_step (ok_move rfl rfl rfl) rfl ?_; refine vo_step (ok_move rfl rfl rfl) rfl ?_; refine vo_step (ok_leq rfl rfl rfl rfl (decide_eq_false (by omega))) rfl ?_; refine vo_nil ?_; refine N_seq ?_; refine V_false rfl ?_; refine V_exit ?_; refine X_then ?_; refine X_then ?_; refine X_here ?_; refine N_seq ?_; refine V_seq ?_; refine V_seq ?_; refine V_region (id := 13) ?_; refine vo_step (ok_move rfl rfl rfl) rfl ?_; refine vo_step (ok_move rfl rfl rfl) rfl ?_; refine vo_step (ok_add rfl rfl rfl rfl (by assumption)) rfl ?_; refine vo_step (ok_assign rfl rfl rfl) rfl ?_; refine vo_nil ?_; refine N_seq ?_; refine V_seq ?_; refine V_region (id := 14) ?_; refine vo_step (ok_move rfl rfl rfl) rfl ?_; refine vo_step (ok_move rfl rfl rfl) rfl ?_; refine vo_step (ok_lss rfl rfl rfl rfl (decide_eq_false (by omega))) rfl ?_; refine vo_nil ?_; refine N_seq ?_; refine V_false rfl ?_; refine V_skip ?_; refine N_seq ?_; refine V_region (id := 16) ?_; refine vo_step (ok_move rfl rfl rfl) rfl ?_; refine vo_step (ok_mul rfl rfl rfl rfl a2) rfl ?_; refine vo_step (ok_assign rfl rfl rfl) rfl ?_; refine vo_nil ?_; refine N_block ?_
          exact N_round (x := s) (2 * s) ⟨by omega, by omega⟩ (by omega) ⟨rfl, rfl, rfl, rfl, rfl, trivial⟩
    · rw [chC_one hs0 (by omega)]
      refine V_seq ?_; refine V_seq ?_; refine V_region (id := 7) ?_; refine vo_step (ok_move rfl rfl rfl) rfl ?_; refine vo_step (ok_move rfl rfl rfl) rfl ?_; refine vo_step (ok_lss rfl rfl rfl rfl (decide_eq_false (by omega))) rfl ?_; refine vo_nil ?_; refine N_seq ?_; refine V_false rfl ?_; refine V_exit ?_; refine X_then ?_; refine X_then ?_; refine X_here ?_
      exact N_retGhost L 900 (r := GHeld b _ tyC) rfl (fun _ _ h => h) Since.refl rfl rfl
abbrev SSF : Nat := 91
set_option maxHeartbeats 1000000 in
set_option maxRecDepth 20000 in
theorem sortS_ret {l : List CH} {rest : List Value} {b m cap : Nat} (hm : l.length = m) (hm1 : m ≤ 100000) {w : World} {B : Heap} {C : Nat → Prop} (hB : B.Le (hp w))
    (hr : (GHeld b (l.flatMap ccs ++ rest) tyC).P B w C) (hC : ∀ k, C k → k < w.heap.size ∧ B k = none) :
    RetG Try.prog SSF [.slice (some ⟨b, 0, none⟩) m cap, ordV] w B C (GHeld b ((stC l).flatMap ccs ++ rest) tyC) := by
  unfold RetG
  refine V_enterG 900 (GHeld b (l.flatMap ccs ++ rest) tyC) Try.func91 rfl Try.ntmps91 (Nat.le_of_ble_eq_true rfl) hB hr hC ?_
  rw [gheld_res]
  refine V_region (id := 0) ?_; refine vo_step (ok_move rfl rfl rfl) rfl ?_; refine vo_step (ok_move rfl rfl rfl) rfl ?_; refine vo_step (ok_lenL L rfl rfl rfl rfl) rfl ?_; refine vo_step (ok_move rfl rfl rfl) rfl ?_; refine vo_step2 (ok_callG L 900 (GHeld b ((stC l).flatMap ccs ++ rest) tyC) (r := GHeld b (l.flatMap ccs ++ rest) tyC) rfl rfl rfl rfl rfl (fun u H C hH _ hr hC => (by have h := stab_ret (cap := cap) hm hm1 hH hr hC; exact h))) ?_; refine vo_nil ?_
  exact N_retGhost L 900 (r := GHeld b _ tyC) rfl (fun _ _ h => h) Since.refl rfl rfl
set_option maxRecDepth 20000 in
theorem ins0_ret {w : World} {B : Heap} (hB : B.Le (hp w)) : Ret Try.prog 122 [.slice none 0 0, .int .i64 0, .int .i64 0, ordV] w B (fun _ _ => True) := by
  refine V_enter Try.func122 rfl Try.ntmps122 (Nat.le_of_ble_eq_true rfl) hB ?_
  refine V_seq ?_; refine V_region (id := 0) ?_; refine vo_step (ok_move rfl rfl rfl) rfl ?_; refine vo_step (ok_add rfl rfl rfl rfl (wrap_i64 (by omega) (by omega))) rfl ?_; refine vo_step (ok_assign rfl rfl rfl) rfl ?_; refine vo_nil ?_; refine N_seq ?_; refine V_block ?_
  refine V_loop (fun _ : Nat => [(2, .is (.int .i64 0)), (8, .is (.int .i64 1))]) (fun _ => True) (fun s => s) 0 trivial ⟨rfl, rfl, trivial⟩ ?_
  rintro s _
  refine V_seq ?_; refine V_seq ?_; refine V_region (id := 1) ?_; refine vo_step (ok_move rfl rfl rfl) rfl ?_; refine vo_step (ok_move rfl rfl rfl) rfl ?_; refine vo_step (ok_lss rfl rfl rfl rfl (decide_eq_false (by omega))) rfl ?_; refine vo_nil ?_; refine N_seq ?_; refine V_false rfl ?_; refine V_exit ?_; refine X_then ?_; refine X_then ?_; refine X_here ?_
  exact N_ret0 L rfl (fun _ _ h => h) Since.refl
set_option maxRecDepth 20000 in
theorem stab0_ret {w : World} {B : Heap} (hB : B.Le (hp w)) : Ret Try.prog 114 [.slice none 0 0, .int .i64 0, ordV] w B (fun _ _ => True) := by
  refine V_enter Try.func114 rfl Try.ntmps114 (Nat.le_of_ble_eq_true rfl) hB ?_
  refine V_seq ?_; refine V_region (id := 0) ?_; refine vo_step (ok_assign rfl rfl rfl) rfl ?_; refine vo_nil ?_; refine N_seq ?_; refine V_seq ?_; refine V_region (id := 1) ?_; refine vo_step (ok_move rfl rfl rfl) rfl ?_; refine vo_step (ok_assign rfl rfl rfl) rfl ?_; refine vo_step (ok_assign rfl rfl rfl) rfl ?_; refine vo_nil ?_; refine N_seq ?_; refine V_seq ?_; refine V_block ?_
  refine V_loop (fun _ : Nat => [(0, .is (.slice none 0 0)), (1, .is (.int .i64 0)), (2, .is ordV), (6, .is (.int .i64 20)), (7, .is (.int .i64 0)), (8, .is (.int .i64 20))]) (fun _ => True) (fun s => s) 0 trivial ⟨rfl, rfl, rfl, rfl, rfl, rfl, trivial⟩ ?_
  rintro s _
  refine V_seq ?_; refine V_seq ?_; refine V_region (id := 2) ?_; refine vo_step (ok_move rfl rfl rfl) rfl ?_; refine vo_step (ok_move rfl rfl rfl) rfl ?_; refine vo_step (ok_leq rfl rfl rfl rfl (decide_eq_false (by omega))) rfl ?_; refine vo_nil ?_; refine N_seq ?_; refine V_false rfl ?_; refine V_exit ?_; refine X_then ?_; refine X_then ?_; refine X_here ?_; refine N_seq ?_; refine V_seq ?_; refine V_region (id := 6) ?_; refine vo_step (ok_move rfl rfl rfl) rfl ?_; refine vo_step (ok_move rfl rfl rfl) rfl ?_; refine vo_step (ok_move rfl rfl rfl) rfl ?_; refine vo_step (ok_move rfl rfl rfl) rfl ?_; refine vo_step (ok_call (φ := fun _ _ => True) L rfl rfl (blt_lt rfl) rfl rfl rfl (fun _ _ _ _ _ => trivial) (fun u H hH _ _ => ins0_ret hH)) rfl ?_; refine vo_nil ?_; refine N_seq ?_; refine V_block ?_
  refine V_loop (fun _ : Nat => [(1, .is (.int .i64 0)), (6, .is (.int .i64 20))]) (fun _ => True) (fun s => s) 0 trivial ⟨rfl, rfl, trivial⟩ ?_
  rintro s _
  refine V_seq ?_; refine V_seq ?_; refine V_region (id := 7) ?_; refine vo_step (ok_move rfl rfl rfl) rfl ?_; refine vo_step (ok_move rfl rfl rfl) rfl ?_; refine vo_step (ok_lss rfl rfl rfl rfl (decide_eq_false (by omega))) rfl ?_; refine vo_nil ?_; refine N_seq ?_; refine V_false rfl ?_; refine V_exit ?_; refine X_then ?_; refine X_then ?_; refine X_here ?_
  exact N_ret0 L rfl (fun _ _ h => h) Since.refl
set_option maxRecDepth 20000 in
theorem sortS0_ret {w : World} {B : Heap} (hB : B.Le (hp w)) : Ret Try.prog SSF [.slice none 0 0, ordV] w B (fun _ _ => True) := by
  refine V_enter Try.func91 rfl Try.ntmps91 (Nat.le_of_ble_eq_true rfl) hB ?_
  refine V_region (id := 0) ?_; refine vo_step (ok_move rfl rfl rfl) rfl ?_; refine vo_step (ok_move rfl rfl rfl) rfl ?_; refine vo_step (ok_lenL L rfl rfl rfl rfl) rfl ?_; refine vo_step (ok_move rfl rfl rfl) rfl ?_; refine vo_step (ok_call (φ := fun _ _ => True) L rfl rfl (blt_lt rfl) rfl rfl rfl (fun _ _ _ _ _ => trivial) (fun u H hH _ _ => stab0_ret hH)) rfl ?_; refine vo_nil ?_
  exact N_ret0 L rfl (fun _ _ h => h) Since.refl
end Go.V.L8
/- Deltas (chapter 7): plain laws. -/
namespace Go.V.L8
open Go.Proofs Go.RowKit Go.V Go.V.L2 Go.V.L3 Go.V.L6
abbrev zC : CH := ((n3, n3), false)
/-- The last change of a tuple. -/
def lastF (l : List CH) (t : U) (z : CH) : CH := l.foldl (fun a c => if c.1 = t then c else a) z
theorem lastF_snoc (l : List CH) (c : CH) (t : U) (z : CH) : lastF (l ++ [c]) t z = if c.1 = t then c else lastF l t z := by unfold lastF; rw [List.foldl_append]; rfl
def lastK (l : List CH) (t : U) : Option CH := (l.filter fun c => decide (c.1 = t)).getLast?
theorem lastK_nil (t : U) : lastK [] t = none := rfl
theorem lastK_cons (c : CH) (l : List CH) (t : U) : lastK (c :: l) t = (lastK l t).or (if c.1 = t then some c else none) := by
  unfold lastK
  by_cases h : c.1 = t
  · rw [if_pos h, List.filter_cons_of_pos (by simpa using h), List.getLast?_cons]
    cases (l.filter fun c => decide (c.1 = t)).getLast? <;> rfl
  · rw [if_neg h, List.filter_cons_of_neg (by simpa using h)]
    cases (l.filter fun c => decide (c.1 = t)).getLast? <;> rfl
theorem lastK_key {l : List CH} {t : U} {c : CH} (h : lastK l t = some c) : c.1 = t ∧ c ∈ l := by
  have := List.mem_of_getLast? h
  rw [List.mem_filter] at this
  exact ⟨by simpa using this.2, this.1⟩
theorem lastK_none {l : List CH} {t : U} : lastK l t = none ↔ ∀ c ∈ l, c.1 ≠ t := by
  unfold lastK
  rw [List.getLast?_eq_none_iff, List.filter_eq_nil_iff]
  simp
theorem lastF_eq (l : List CH) (t : U) (z : CH) : lastF l t z = (lastK l t).getD z := by
  induction l generalizing z with
  | nil => rfl
  | cons c r ih =>
    have : lastF (c :: r) t z = lastF r t (if c.1 = t then c else z) := rfl
    rw [this, ih, lastK_cons]
    cases lastK r t with
    | some d => rfl
    | none => by_cases h : c.1 = t <;> simp [h]
theorem lastF_key {l : List CH} {t : U} {z : CH} (h : ∃ c ∈ l, c.1 = t) : lastK l t = some (lastF l t z) := by
  rw [lastF_eq]
  cases hk : lastK l t with
  | some d => rfl
  | none => obtain ⟨c, hc, he⟩ := h; exact absurd he (lastK_none.1 hk c hc)
/-- The normal form of a list. -/
def normL (l : List CH) : List CH := (sortT (l.map (·.1))).map fun t => lastF l t zC
theorem sortT_mem {l : List U} {t : U} : t ∈ sortT l ↔ t ∈ l := by unfold sortT; rw [mem_sortS]; simp
theorem sortT_sst (l : List U) : Sst cmpT (sortT l) := sst_sortS cmpT_ord Sst.nil
theorem normL_mem {l : List CH} {c : CH} : c ∈ normL l ↔ lastK l c.1 = some c := by
  unfold normL
  rw [List.mem_map]
  constructor
  · rintro ⟨t, ht, rfl⟩
    rw [sortT_mem, List.mem_map] at ht
    have := lastF_key (z := zC) ht
    rw [(lastK_key this).1]
    exact this
  · intro h
    have hm := lastK_key h
    exact ⟨c.1, sortT_mem.2 (List.mem_map.2 ⟨c, hm.2, rfl⟩), by rw [lastF_eq, h]; rfl⟩
theorem normL_keys (l : List CH) : (normL l).map (·.1) = sortT (l.map (·.1)) := by
  unfold normL
  rw [List.map_map]
  conv => rhs; rw [← List.map_id (sortT (l.map (·.1)))]
  refine List.map_congr_left fun t ht => ?_
  rw [sortT_mem, List.mem_map] at ht
  exact (lastK_key (lastF_key (z := zC) ht)).1
theorem normL_len (l : List CH) : (normL l).length ≤ l.length := by
  unfold normL
  rw [List.length_map]
  have := sortT_length (l.map (·.1))
  rwa [List.length_map] at this
/-- Lists of changes by different tuples, in order. -/
def NrmC (l : List CH) : Prop := Sst cmpT (l.map (·.1))
theorem normL_nrm (l : List CH) : NrmC (normL l) := by unfold NrmC; rw [normL_keys]; exact sortT_sst _
theorem nrm_pair {l : List CH} (h : NrmC l) : l.Pairwise fun a b => a.1 ≠ b.1 := by
  unfold NrmC Sst at h
  rw [List.pairwise_map] at h
  exact h.imp fun h1 => cmpT_ord.ne h1
theorem nrm_ext {l m : List CH} (hl : NrmC l) (hm : NrmC m) (h : ∀ c, c ∈ l ↔ c ∈ m) : l = m := by
  have hk : l.map (·.1) = m.map (·.1) := sst_ext cmpT_ord hl hm fun t => by
    rw [List.mem_map, List.mem_map]
    exact ⟨fun ⟨c, hc, e⟩ => ⟨c, (h c).1 hc, e⟩, fun ⟨c, hc, e⟩ => ⟨c, (h c).2 hc, e⟩⟩
  have uni : ∀ {l : List CH}, NrmC l → ∀ a ∈ l, ∀ b ∈ l, a.1 = b.1 → a = b := fun {l} hn a ha b hb e => by
    by_cases hab : a = b
    · exact hab
    · exfalso
      obtain ⟨i, hi⟩ := List.getElem?_of_mem ha
      obtain ⟨j, hj⟩ := List.getElem?_of_mem hb
      obtain ⟨hi', rfl⟩ := List.getElem?_eq_some_iff.1 hi
      obtain ⟨hj', rfl⟩ := List.getElem?_eq_some_iff.1 hj
      have hp := List.pairwise_iff_getElem.1 (nrm_pair hn)
      rcases Nat.lt_trichotomy i j with h | h | h
      · exact hp i j hi' hj' h e
      · subst h; exact hab rfl
      · exact hp j i hj' hi' h e.symm
  have hlen : l.length = m.length := by rw [← List.length_map (f := (·.1)), hk, List.length_map]
  refine List.ext_getElem hlen fun i h1 h2 => ?_
  have e : l[i].1 = m[i].1 := by
    have := congrArg (·[i]?) hk
    simp only [List.getElem?_map, List.getElem?_eq_getElem h1, List.getElem?_eq_getElem h2, Option.map_some, Option.some.injEq] at this
    exact this
  exact uni hm _ ((h _).1 (List.getElem_mem h1)) _ (List.getElem_mem h2) e
/-- The last ones of each run. -/
def keepL : List CH → List CH
  | [] => []
  | [c] => [c]
  | c :: d :: r => if cmpT c.1 d.1 = 0 then keepL (d :: r) else c :: keepL (d :: r)
theorem keepL_step {l : List CH} {i : Nat} {c : CH} (h : l[i]? = some c) : keepL (l.drop i) = (match l[i + 1]? with | none => [c] | some d => if cmpT c.1 d.1 = 0 then [] else [c]) ++ keepL (l.drop (i + 1)) := by
  have h1 : l.drop i = c :: l.drop (i + 1) := drop_g h
  rw [h1]
  cases h2 : l[i + 1]? with
  | none =>
    have : l.drop (i + 1) = [] := List.drop_eq_nil_of_le (by simpa using h2)
    rw [this]; rfl
  | some d =>
    have h3 : l.drop (i + 1) = d :: l.drop (i + 1 + 1) := drop_g h2
    rw [h3]
    show (if cmpT c.1 d.1 = 0 then _ else _) = (if cmpT c.1 d.1 = 0 then _ else _) ++ _
    split <;> rfl
theorem keepL_spec : ∀ {S : List CH}, Srt (·.1) cmpT S → (∀ c ∈ keepL S, lastK S c.1 = some c) ∧ (∀ x ∈ S, ∃ c ∈ keepL S, c.1 = x.1) ∧ NrmC (keepL S)
  | [], _ => ⟨fun c hc => (by cases hc), fun c hc => (by cases hc), Sst.nil⟩
  | [c], _ => by
    have e : keepL [c] = [c] := rfl
    rw [e]
    refine ⟨fun d hd => ?_, fun x hx => ⟨x, hx, rfl⟩, List.pairwise_singleton _ _⟩
    rw [List.mem_singleton] at hd; subst hd
    rw [lastK_cons, if_pos rfl]; rfl
  | c :: d :: r, h => by
    obtain ⟨h1, h2⟩ := List.pairwise_cons.1 h
    obtain ⟨g1, g2, g3⟩ := keepL_spec (S := d :: r) h2
    have e : keepL (c :: d :: r) = if cmpT c.1 d.1 = 0 then keepL (d :: r) else c :: keepL (d :: r) := rfl
    by_cases h0 : cmpT c.1 d.1 = 0
    · rw [e, if_pos h0]
      have hcd := cmpT_ord.eq _ _ h0
      refine ⟨fun x hx => by rw [lastK_cons, g1 x hx]; rfl, fun x hx => ?_, g3⟩
      rcases List.mem_cons.1 hx with rfl | hx
      · obtain ⟨y, hy, e⟩ := g2 d (List.mem_cons_self ..)
        exact ⟨y, hy, e.trans hcd.symm⟩
      · exact g2 x hx
    · rw [e, if_neg h0]
      have hlt : ∀ y ∈ d :: r, cmpT c.1 y.1 < 0 := fun y hy => by
        have hcd : cmpT c.1 d.1 < 0 := by
          have h3 := h1 d (List.mem_cons_self ..)
          have := cmpT_ord.anti c.1 d.1
          dsimp only at h3
          omega
        rcases List.mem_cons.1 hy with rfl | hy
        · exact hcd
        · have h3 := (List.pairwise_cons.1 h2).1 y hy
          dsimp only at h3
          by_cases h5 : cmpT d.1 y.1 < 0
          · exact cmpT_ord.tr hcd h5
          · have h6 : cmpT d.1 y.1 = 0 := by have := cmpT_ord.anti d.1 y.1; omega
            rw [← cmpT_ord.eq _ _ h6]; exact hcd
      refine ⟨fun x hx => ?_, fun x hx => ?_, ?_⟩
      · rcases List.mem_cons.1 hx with rfl | hx
        · rw [lastK_cons, if_pos rfl, lastK_none.2 fun y hy e => cmpT_ord.irr x.1 (by rw [← e] ; exact absurd (hlt y hy) (by rw [e]; exact cmpT_ord.irr _))]; rfl
        · rw [lastK_cons, g1 x hx]; rfl
      · rcases List.mem_cons.1 hx with rfl | hx
        · exact ⟨x, List.mem_cons_self .., rfl⟩
        · obtain ⟨y, hy, e⟩ := g2 x hx
          exact ⟨y, List.mem_cons_of_mem _ hy, e⟩
      · unfold NrmC
        rw [List.map_cons]
        refine List.pairwise_cons.2 ⟨fun t ht => ?_, g3⟩
        obtain ⟨y, hy, rfl⟩ := List.mem_map.1 ht
        exact hlt y (lastK_key (g1 y hy)).2
theorem keep_norm {l S : List CH} (h : Stb (·.1) cmpT l S) : keepL S = normL l := by
  obtain ⟨g1, g2, g3⟩ := keepL_spec h.1
  have hK : ∀ t, lastK S t = lastK l t := fun t => by unfold lastK; rw [h.2 t]
  refine nrm_ext g3 (normL_nrm l) fun c => ?_
  rw [normL_mem]
  constructor
  · exact fun hc => by rw [← hK]; exact g1 c hc
  · intro hc
    rw [← hK] at hc
    obtain ⟨d, hd, e⟩ := g2 c (lastK_key hc).2
    have := g1 d hd
    rw [e, hc] at this
    cases this; exact hd
end Go.V.L8
/- The walks of musts (chapter 8): the first must that does not hold; what is possible. -/
namespace Go.V.L8
open Go.Proofs Go.RowKit Go.V Go.V.L2 Go.V.L3 Go.V.L6
theorem firstR_no {s : List U} {l : List CH} (h0 : cE 32 l = 0) {i : Nat} {c : CH} (h : ∀ (j : Nat) x, j < i → l[j]? = some x → holdB s x = true) (hc : l[i]? = some c) (hh : holdB s c = false) : firstR s l = (i, 13) := by
  unfold firstR; rw [if_pos h0]; exact firstI_hit h hc hh
theorem firstR_yes {s : List U} {l : List CH} (h0 : cE 32 l = 0) (h : ∀ (j : Nat) x, l[j]? = some x → holdB s x = true) : firstR s l = (l.length, 0) := by
  unfold firstR; rw [if_pos h0]; exact firstI_all fun x hx => let ⟨j, hj⟩ := List.getElem?_of_mem hx; h j x hj
attribute [local irreducible] V N X VO Par StepOK Has Ret RetL RetO RetT Src
theorem holds_ret {s : List U} {c : CH} {b : Bool} (hb : holdB s c = b) {v : Value} {w : World} {B : Heap} (hB : B.Le (hp w)) (hv : SetV s v B) : Ret Try.prog 17 [v, chv c.1 c.2] w B (fun r _ => r = .bool b) := by
  subst hb
  obtain ⟨x, d⟩ := c
  obtain ⟨f1, p1, f2, q1, rfl, hpl⟩ := hv.shape
  obtain ⟨h, hh⟩ : ∃ h, decide (x ∈ s) = h := ⟨_, rfl⟩
  unfold holdB
  dsimp only
  rw [hh]
  refine V_enter Try.func17 rfl Try.ntmps17 (Nat.le_of_ble_eq_true rfl) hB ?_
  refine V_seq ?_; refine V_region (id := 0) ?_; refine vo_step (ok_box rfl rfl rfl rfl) rfl ?_; refine vo_step (ok_box rfl rfl rfl rfl) rfl ?_; refine vo_step (ok_assign rfl rfl rfl) rfl ?_; refine vo_nil ?_; refine N_seq ?_; refine V_seq ?_; refine V_regionD (id := 1) [] mixed (by kernel_rfl) ?_; refine par_step (ok_loadA L (vs := [_, _, _, _]) (src_at rfl) rfl rfl rfl rfl ⟨_, rfl⟩) rfl ?_; refine par_step (ok_fieldAt L rfl rfl rfl rfl) rfl ?_; refine par_step (ok_loadA L (vs := [_, _, _, _, _, _]) (src_at rfl) rfl rfl rfl rfl ⟨_, rfl⟩) rfl ?_; refine par_step (ok_callx L rfl rfl (blt_lt rfl) rfl rfl rfl (fun u H hH hle _ => shas_ret hh hH (hv.le hle))) rfl ?_; refine par_step (ok_fieldAt L rfl rfl rfl rfl) rfl ?_; refine par_step (ok_load1 L (src_at rfl) rfl rfl rfl rfl) rfl ?_; refine par_step (ok_bneq rfl rfl rfl rfl bt4 rfl) rfl ?_; refine par_step (ok_assign rfl rfl rfl) rfl ?_; refine par_nil ?_; refine N_seq ?_
  refine V_ret L (rs := [.tmp 4]) rfl (fun _ _ h => h) Since.refl fun u H hH hle => ?_
  cases h <;> cases d <;> rfl
set_option maxHeartbeats 1000000 in
theorem first_ret {s : List U} {l : List CH} {fu : Bool} (hz : ∀ c ∈ l, TM c.1) (hl : l.length ≤ 9223372036854775807) {r : Nat} {e : Int} (hr : firstR s l = (r, e)) {sv v : Value} {w : World} {B : Heap} (hB : B.Le (hp w)) (hs : SetV s sv B) (hv : KS tyM l fu v B) :
    Ret Try.prog 19 [sv, v] w B (fun x _ => x = .tuple #[.int .i64 r, .int .i64 e]) := by
  obtain ⟨f1, p1, f2, q1, rfl, hpl⟩ := hs.shape
  refine V_enter Try.func19 rfl Try.ntmps19 (Nat.le_of_ble_eq_true rfl) hB ?_
  refine V_seen 1 (KS tyM l fu) rfl SlV.mono hv ?_
  by_cases h0 : cE 32 l = 0
  · refine V_seq ?_; refine V_region (id := 0) ?_; refine vo_step (ok_box rfl rfl rfl rfl) rfl ?_; refine vo_step (ok_assign rfl rfl rfl) rfl ?_; refine vo_step (ok_assign rfl rfl rfl) rfl ?_; refine vo_nil ?_; refine N_seq ?_; refine V_seq ?_; refine V_seq ?_; refine V_region (id := 1) ?_; refine vo_step (ok_moves' rfl rfl rfl) rfl ?_; refine vo_step (ok_callx L rfl rfl (blt_lt rfl) rfl rfl rfl (fun u H hH _ _ v1 h1 => mchk_ret hz hl h0 hH h1)) rfl ?_; refine vo_step (ok_assign rfl rfl rfl) rfl ?_; refine vo_nil ?_; refine N_seq ?_; refine V_seq ?_; refine V_region (id := 2) ?_; refine vo_step (ok_move rfl rfl rfl) rfl ?_; refine vo_step (ok_neq rfl rfl rfl rfl (decide_eq_false (by omega))) rfl ?_; refine vo_nil ?_; refine N_seq ?_; refine V_false rfl ?_; refine V_skip ?_; refine N_seq ?_; refine V_seq ?_; refine V_seq ?_; refine V_region (id := 4) ?_; refine vo_step (ok_moves' rfl rfl rfl) rfl ?_; refine vo_step (ok_lenV L rfl rfl rfl rfl) rfl ?_; refine vo_step (ok_move rfl rfl rfl) rfl ?_; refine vo_nil ?_; refine N_seq ?_; refine V_block ?_
    refine V_loop (fun i : Nat => [(1, .sat (KS tyM l fu)), (2, .sat (At [f1, .pointer p1, f2, .pointer q1] tySet 0)), (14, .sat (KS tyM l fu)), (15, .is (.int .i64 l.length)), (16, .is (.int .i64 i))]) (fun i => i ≤ l.length ∧ ∀ (j : Nat) x, j < i → l[j]? = some x → holdB s x = true) (fun i => l.length - i) 0 ⟨Nat.zero_le _, fun j c h => absurd h (Nat.not_lt_zero _)⟩ ⟨rfl, rfl, rfl, rfl, rfl, trivial⟩ ?_
    rintro i ⟨hi, hok⟩
    by_cases hlt : i < l.length
    · obtain ⟨c, hc0⟩ := get_some hlt
      have hc := ks_at hc0
      cases hh : holdB s c
      · rw [firstR_no h0 hok hc0 hh] at hr
        cases hr
        refine V_seq ?_; refine V_region (id := 5) ?_; refine vo_step (ok_lss rfl rfl rfl rfl (decide_eq_true (by omega))) rfl ?_; refine vo_nil ?_; refine N_seq ?_; refine V_seq ?_; refine V_true rfl ?_; refine V_skip ?_; refine N_seq ?_; refine V_seq ?_; refine V_block ?_; refine V_seq ?_; refine V_region (id := 6) ?_; refine vo_step (ok_move rfl rfl rfl) rfl ?_; refine vo_step (ok_indexV L _ rfl rfl rfl rfl rfl rfl rfl (by first | omega | decide) (by assumption)) rfl ?_; refine vo_step (ok_loadPA L (vs := [_, _, _, _, _, _, _]) rfl rfl rfl rfl rfl ⟨_, rfl⟩) rfl ?_; refine vo_step (ok_alloc L rfl rfl rfl rfl) rfl ?_; refine vo_step (ok_assign rfl rfl rfl) rfl ?_; refine vo_step (ok_store L rfl rfl rfl rfl rfl rfl rfl rfl) rfl ?_; refine vo_nil ?_; refine N_seq ?_; refine V_seq ?_; refine V_region (id := 7) ?_; refine vo_step (ok_loadA L (vs := [_, _, _, _]) (src_at rfl) rfl rfl rfl rfl ⟨_, rfl⟩) rfl ?_; refine vo_step (ok_loadA L (vs := [_, _, _, _, _, _, _]) (src_own rfl) rfl rfl rfl rfl ⟨_, rfl⟩) rfl ?_; refine vo_step (ok_callx L rfl rfl (blt_lt rfl) rfl rfl rfl (fun u H hH hle _ => holds_ret hh hH (hs.le hle))) rfl ?_; refine vo_step (ok_not rfl rfl rfl rfl) rfl ?_; refine vo_nil ?_; refine N_seq ?_; refine V_true rfl ?_; refine V_seq ?_; refine V_region (id := 8) ?_; refine vo_step (ok_move rfl rfl rfl) rfl ?_; refine vo_step (ok_assign rfl rfl rfl) rfl ?_; refine vo_step (ok_assign rfl rfl rfl) rfl ?_; refine vo_nil ?_; refine N_seq ?_
        refine V_ret L (rs := [.tmp 4, .tmp 5]) rfl (fun _ _ h => h) Since.refl fun u H hH hle => ?_
        rfl
      · refine V_seq ?_; refine V_region (id := 5) ?_; refine vo_step (ok_lss rfl rfl rfl rfl (decide_eq_true (by omega))) rfl ?_; refine vo_nil ?_; refine N_seq ?_; refine V_seq ?_; refine V_true rfl ?_; refine V_skip ?_; refine N_seq ?_; refine V_seq ?_; refine V_block ?_; refine V_seq ?_; refine V_region (id := 6) ?_; refine vo_step (ok_move rfl rfl rfl) rfl ?_; refine vo_step (ok_indexV L _ rfl rfl rfl rfl rfl rfl rfl (by first | omega | decide) (by assumption)) rfl ?_; refine vo_step (ok_loadPA L (vs := [_, _, _, _, _, _, _]) rfl rfl rfl rfl rfl ⟨_, rfl⟩) rfl ?_; refine vo_step (ok_alloc L rfl rfl rfl rfl) rfl ?_; refine vo_step (ok_assign rfl rfl rfl) rfl ?_; refine vo_step (ok_store L rfl rfl rfl rfl rfl rfl rfl rfl) rfl ?_; refine vo_nil ?_; refine N_seq ?_; refine V_seq ?_; refine V_region (id := 7) ?_; refine vo_step (ok_loadA L (vs := [_, _, _, _]) (src_at rfl) rfl rfl rfl rfl ⟨_, rfl⟩) rfl ?_; refine vo_step (ok_loadA L (vs := [_, _, _, _, _, _, _]) (src_own rfl) rfl rfl rfl rfl ⟨_, rfl⟩) rfl ?_; refine vo_step (ok_callx L rfl rfl (blt_lt rfl) rfl rfl rfl (fun u H hH hle _ => holds_ret hh hH (hs.le hle))) rfl ?_; refine vo_step (ok_not rfl rfl rfl rfl) rfl ?_; refine vo_nil ?_; refine N_seq ?_; refine V_false rfl ?_; refine V_skip ?_; refine N_block ?_; refine N_seq ?_; refine V_region (id := 9) ?_; refine vo_step (ok_add rfl rfl rfl rfl (wrap_i64 (by omega) (by omega))) rfl ?_; refine vo_step (ok_move rfl rfl rfl) rfl ?_; refine vo_nil ?_
        exact N_round (x := i) (i + 1) ⟨hlt, fun j c' hj hc' => by
          rcases Nat.lt_or_ge j i with h | h
          · exact hok j c' h hc'
          · have : j = i := by omega
            subst this; rw [hc0] at hc'; cases hc'; exact hh⟩ (by omega) ⟨rfl, rfl, rfl, rfl, rfl, trivial⟩
    · rw [firstR_yes h0 (fun j x hj => hok j x (by have := get_lt hj; omega) hj)] at hr
      cases hr
      refine V_seq ?_; refine V_region (id := 5) ?_; refine vo_step (ok_lss rfl rfl rfl rfl (decide_eq_false (by omega))) rfl ?_; refine vo_nil ?_; refine N_seq ?_; refine V_seq ?_; refine V_false rfl ?_; refine V_exit ?_; refine X_then ?_; refine X_then ?_; refine X_here ?_; refine N_seq ?_; refine V_seq ?_; refine V_region (id := 10) ?_; refine vo_step (ok_moves' rfl rfl rfl) rfl ?_; refine vo_step (ok_lenV L rfl rfl rfl rfl) rfl ?_; refine vo_step (ok_assign rfl rfl rfl) rfl ?_; refine vo_step (ok_assign rfl rfl rfl) rfl ?_; refine vo_nil ?_; refine N_seq ?_
      refine V_ret L (rs := [.tmp 4, .tmp 5]) rfl (fun _ _ h => h) Since.refl fun u H hH hle => ?_
      rfl
  · have : firstR s l = (0, cE 32 l) := if_neg h0
    rw [this] at hr
    cases hr
    refine V_seq ?_; refine V_region (id := 0) ?_; refine vo_step (ok_box rfl rfl rfl rfl) rfl ?_; refine vo_step (ok_assign rfl rfl rfl) rfl ?_; refine vo_step (ok_assign rfl rfl rfl) rfl ?_; refine vo_nil ?_; refine N_seq ?_; refine V_seq ?_; refine V_seq ?_; refine V_region (id := 1) ?_; refine vo_step (ok_moves' rfl rfl rfl) rfl ?_; refine vo_step (ok_callx L rfl rfl (blt_lt rfl) rfl rfl rfl (fun u H hH _ _ v1 h1 => mchk_ret hz hl rfl hH h1)) rfl ?_; refine vo_step (ok_assign rfl rfl rfl) rfl ?_; refine vo_nil ?_; refine N_seq ?_; refine V_seq ?_; refine V_region (id := 2) ?_; refine vo_step (ok_move rfl rfl rfl) rfl ?_; refine vo_step (ok_neq rfl rfl rfl rfl (decide_eq_true (by omega))) rfl ?_; refine vo_nil ?_; refine N_seq ?_; refine V_true rfl ?_; refine V_seq ?_; refine V_region (id := 3) ?_; refine vo_step (ok_move rfl rfl rfl) rfl ?_; refine vo_step (ok_assign rfl rfl rfl) rfl ?_; refine vo_step (ok_assign rfl rfl rfl) rfl ?_; refine vo_nil ?_; refine N_seq ?_
    refine V_ret L (rs := [.tmp 4, .tmp 5]) rfl (fun _ _ h => h) Since.refl fun u H hH hle => ?_
    rfl
end Go.V.L8
/- The walks of musts (chapter 8): is there a set in which all hold. -/
namespace Go.V.L8
open Go.Proofs Go.RowKit Go.V Go.V.L2 Go.V.L3 Go.V.L6
attribute [local irreducible] V N X VO Par StepOK Has Ret RetL RetO RetT Src
end Go.V.L8
/- The walks of musts (chapter 8): writes. -/
namespace Go.V.L8
open Go.Proofs Go.RowKit Go.V Go.V.L2 Go.V.L3 Go.V.L6
theorem cE_all {n : Nat} {l : List CH} (h : cE n l = 0) : l.length ≤ n ∧ ∀ c ∈ l, tE c.1 = 0 := by
  unfold cE at h
  split at h
  · exact absurd h (by decide)
  · split at h
    · exact absurd h (by decide)
    · rename_i h1 h2
      refine ⟨by omega, fun c hc => ?_⟩
      by_cases h0 : tE c.1 = 0
      · exact h0
      · exact absurd (List.any_eq_true.2 ⟨c, hc, by simp [h0]⟩) h2
theorem tz_chk {s : ByteArray} (h : chk s = 0) : s.size ≤ 1099511627776 := by
  unfold chk at h
  split at h
  · rename_i h1; omega
  · exact absurd h (by decide)
theorem tz_valid {t : U} (h : tE t = 0) : TZ t := by
  unfold tE at h
  split at h
  · rename_i h1
    obtain ⟨c1, c2, c3⟩ := allE3 h1
    obtain ⟨d1, d2, d3⟩ := subjE_zero h
    refine ⟨⟨tz_chk c1, tz_chk c2, tz_chk c3⟩, tz_chk d1, tz_chk d2, ?_⟩
    rcases d3 with d3 | d3
    · rw [d3]; exact Nat.zero_le _
    · exact tz_chk d3
  · rename_i h1; exact absurd h h1
/-- What Write gives. -/
def WriteP (t : List U) (made : List CH) (e : Int) (r : Value) (H : Heap) : Prop := ∃ tv mv, r = .tuple #[tv, mv, .int .i64 e] ∧ SetV t tv H ∧ KS tyC made true mv H
theorem WriteP.mono {t : List U} {made : List CH} {e : Int} : Kn.mono (.sat (WriteP t made e)) := fun _ _ _ ⟨tv, mv, h1, h2, h3⟩ hle => ⟨tv, mv, h1, h2.le hle, h3.le hle⟩
attribute [local irreducible] V N X VO Par StepOK Has Ret RetL RetO RetT Src
end Go.V.L8
/- The walk of the definition of musts (chapter 8). -/
namespace Go.V.L8
open Go.Proofs Go.RowKit Go.V Go.V.L2 Go.V.L3 Go.V.L6
attribute [local irreducible] V N X VO Par StepOK Has Ret RetL RetO RetT Src
end Go.V.L8
/- The walk of the definition of musts (chapter 8): possible musts; equal lists of changes. -/
namespace Go.V.L8
open Go.Proofs Go.RowKit Go.V Go.V.L2 Go.V.L3 Go.V.L6
attribute [local irreducible] V N X VO Par StepOK Has Ret RetL RetO RetT Src
end Go.V.L8
/- The walk of the definition of musts (chapter 8): writes. -/
namespace Go.V.L8
open Go.Proofs Go.RowKit Go.V Go.V.L2 Go.V.L3 Go.V.L6
/-- What the definition of Write gives. -/
def RWriteP (t : List U) (made : List CH) (e : Int) (r : Value) (H : Heap) : Prop := ∃ tv mv, r = .tuple #[tv, mv, .int .i64 e] ∧ US t false tv H ∧ KS tyC made false mv H
theorem RWriteP.mono {t : List U} {made : List CH} {e : Int} : Kn.mono (.sat (RWriteP t made e)) := fun _ _ _ ⟨tv, mv, h1, h2, h3⟩ hle => ⟨tv, mv, h1, h2.le hle, h3.le hle⟩
attribute [local irreducible] V N X VO Par StepOK Has Ret RetL RetO RetT Src
end Go.V.L8
