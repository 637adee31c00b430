/- Texts on the way to SetsKnown, part 5: one behind another. -/
import Derived.Test.YtelaiancfbaalaaSetsKnownM4
set_option linter.unusedVariables false
set_option linter.unusedSimpArgs false
/- The walks of sets (chapter 6): sets as values. -/
namespace Go.V.L6
open Go.Proofs Go.RowKit Go.V Go.V.L2 Go.V.L3
/-- A set, as a value: of these tuples. -/
def SetV (l : List U) : Value → Heap → Prop := fun v H => ∃ p q t u, TS l t u ∧ UT.TA t (.pointer p) H ∧ UT.TA u (.pointer q) H ∧
  (v = .agg #[fvC, .pointer p, fvS, .pointer q] ∨ (l = [] ∧ p = none ∧ q = none ∧ v = .agg #[.nilFunc, .pointer p, .nilFunc, .pointer q]))
theorem SetV.mono {l : List U} : Kn.mono (.sat (SetV l)) := fun _ _ _ ⟨p, q, t, u, h1, h2, h3, h4⟩ hle => ⟨p, q, t, u, h1, h2.le hle, h3.le hle, h4⟩
theorem SetV.le {l : List U} {v : Value} {H H' : Heap} (h : SetV l v H) (hle : H.Le H') : SetV l v H' := SetV.mono _ _ _ h hle
theorem SetV.shape {l : List U} {v : Value} {H : Heap} (h : SetV l v H) : ∃ f p k q, v = .agg #[f, .pointer p, k, .pointer q] ∧ (cellsL (.agg #[f, .pointer p, k, .pointer q])).all plainV = true := by
  obtain ⟨p, q, _, _, _, _, _, h | ⟨_, _, _, h⟩⟩ := h
  · exact ⟨_, _, _, _, h, rfl⟩
  · exact ⟨_, _, _, _, h, rfl⟩
abbrev nilSet : Value := .agg #[.nilFunc, .pointer none, .nilFunc, .pointer none]
theorem SetV.nil {H : Heap} : SetV [] nilSet H := ⟨none, none, .nil, .nil, ts_nil, rfl, rfl, .inr ⟨rfl, rfl, rfl, rfl⟩⟩
attribute [local irreducible] V N X VO Par StepOK Has Ret RetL RetO Src
theorem slen_ret {l : List U} {n : Nat} (hn : l.length = n) {v : Value} {w : World} {B : Heap} (hB : B.Le (hp w)) (hv : SetV l v B) : Ret Try.prog 34 [v] w B (fun v _ => v = .int .i64 n) := by
  subst hn
  obtain ⟨p, q, t, u, hT, ht, hu, rfl | ⟨rfl, rfl, rfl, rfl⟩⟩ := hv
  · refine V_enter Try.func34 rfl Try.ntmps34 (Nat.le_of_ble_eq_true rfl) hB ?_
    refine V_seq ?_; refine V_region (id := 0) ?_; refine vo_step (ok_box rfl rfl rfl rfl) rfl ?_; refine vo_step (ok_assign rfl rfl rfl) rfl ?_; refine vo_nil ?_; refine N_seq ?_; refine V_seq ?_; refine V_region (id := 1) ?_; refine vo_step (ok_fieldAt L rfl rfl rfl rfl) rfl ?_; refine vo_step (ok_fieldAt L rfl rfl rfl rfl) rfl ?_; refine vo_step (ok_loadA L (vs := [_, _]) (src_at rfl) rfl rfl rfl rfl ⟨_, rfl⟩) rfl ?_; refine vo_step (ok_callx L rfl rfl (blt_lt rfl) rfl rfl rfl (fun u H hH hle _ => UT.len_m hH (⟨_, rfl, ht.le hle⟩) hT.size)) rfl ?_; refine vo_step (ok_assign rfl rfl rfl) rfl ?_; refine vo_nil ?_; refine N_seq ?_
    refine V_ret L (rs := [.tmp 2]) rfl (fun _ _ h => h) Since.refl fun u H hH hle => ?_
    rfl
  · refine V_enter Try.func34 rfl Try.ntmps34 (Nat.le_of_ble_eq_true rfl) hB ?_
    refine V_seq ?_; refine V_region (id := 0) ?_; refine vo_step (ok_box rfl rfl rfl rfl) rfl ?_; refine vo_step (ok_assign rfl rfl rfl) rfl ?_; refine vo_nil ?_; refine N_seq ?_; refine V_seq ?_; refine V_region (id := 1) ?_; refine vo_step (ok_fieldAt L rfl rfl rfl rfl) rfl ?_; refine vo_step (ok_fieldAt L rfl rfl rfl rfl) rfl ?_; refine vo_step (ok_loadA L (vs := [_, _]) (src_at rfl) rfl rfl rfl rfl ⟨_, rfl⟩) rfl ?_; refine vo_step (ok_callx L rfl rfl (blt_lt rfl) rfl rfl rfl (fun u H hH hle _ => UT.len_m hH (⟨_, rfl, ht.le hle⟩) hT.size)) rfl ?_; refine vo_step (ok_assign rfl rfl rfl) rfl ?_; refine vo_nil ?_; refine N_seq ?_
    refine V_ret L (rs := [.tmp 2]) rfl (fun _ _ h => h) Since.refl fun u H hH hle => ?_
    rfl
theorem shas_ret {l : List U} {x : U} {b : Bool} (hb : decide (x ∈ l) = b) {v : Value} {w : World} {B : Heap} (hB : B.Le (hp w)) (hv : SetV l v B) : Ret Try.prog 35 [v, uv x] w B (fun v _ => v = .bool b) := by
  have hv0 := hv
  obtain ⟨p, q, t, u, hT, ht, hu, rfl | ⟨rfl, rfl, rfl, rfl⟩⟩ := hv
  · have hg := hT.get x
    refine V_enter Try.func35 rfl Try.ntmps35 (Nat.le_of_ble_eq_true rfl) hB ?_
    by_cases h0 : l.length = 0
    · have hn : l = [] := List.eq_nil_of_length_eq_zero h0
      subst hn
      have hb' : b = false := by rw [← hb]; simp
      subst hb'
      refine V_seq ?_; refine V_region (id := 0) ?_; refine vo_step (ok_box rfl rfl rfl rfl) rfl ?_; refine vo_step (ok_box rfl rfl rfl rfl) rfl ?_; refine vo_step (ok_assign rfl rfl rfl) rfl ?_; refine vo_nil ?_; refine N_seq ?_; refine V_seq ?_; refine V_seq ?_; refine V_region (id := 1) ?_; refine vo_step (ok_loadA L (vs := [_, _, _, _]) (src_at rfl) rfl rfl rfl rfl ⟨_, rfl⟩) rfl ?_; refine vo_step (ok_callx L rfl rfl (blt_lt rfl) rfl rfl rfl (fun u H hH hle _ => slen_ret rfl hH (hv0.le hle))) rfl ?_; refine vo_step (ok_eql rfl rfl rfl rfl (decide_eq_true (by omega))) rfl ?_; refine vo_nil ?_; refine N_seq ?_; refine V_true rfl ?_; refine V_seq ?_; refine V_region (id := 2) ?_; refine vo_step (ok_assign rfl rfl rfl) rfl ?_; refine vo_nil ?_; refine N_seq ?_
      refine V_ret L (rs := [.tmp 4]) rfl (fun _ _ h => h) Since.refl fun u H hH hle => ?_
      rfl
    · cases b
      · have hx : x ∉ l := by simpa using hb
        rw [if_neg hx] at hg
        refine V_seq ?_; refine V_region (id := 0) ?_; refine vo_step (ok_box rfl rfl rfl rfl) rfl ?_; refine vo_step (ok_box rfl rfl rfl rfl) rfl ?_; refine vo_step (ok_assign rfl rfl rfl) rfl ?_; refine vo_nil ?_; refine N_seq ?_; refine V_seq ?_; refine V_seq ?_; refine V_region (id := 1) ?_; refine vo_step (ok_loadA L (vs := [_, _, _, _]) (src_at rfl) rfl rfl rfl rfl ⟨_, rfl⟩) rfl ?_; refine vo_step (ok_callx L rfl rfl (blt_lt rfl) rfl rfl rfl (fun u H hH hle _ => slen_ret rfl hH (hv0.le hle))) rfl ?_; refine vo_step (ok_eql rfl rfl rfl rfl (decide_eq_false (by omega))) rfl ?_; refine vo_nil ?_; refine N_seq ?_; refine V_false rfl ?_; refine V_skip ?_; refine N_seq ?_; refine V_seq ?_; refine V_region (id := 3) ?_; refine vo_step (ok_fieldAt L rfl rfl rfl rfl) rfl ?_; refine vo_step (ok_fieldAt L rfl rfl rfl rfl) rfl ?_; refine vo_step (ok_loadA L (vs := [_, _]) (src_at rfl) rfl rfl rfl rfl ⟨_, rfl⟩) rfl ?_; refine vo_step (ok_loadA L (vs := [_, _, _, _, _, _]) (src_at rfl) rfl rfl rfl rfl ⟨_, rfl⟩) rfl ?_; refine vo_step (ok_callx L rfl rfl (blt_lt rfl) rfl rfl rfl (fun u H hH hle _ => UT.get_m cmpUT x hH (⟨_, rfl, ht.le hle⟩) hg)) rfl ?_; refine vo_step (ok_move rfl rfl rfl) rfl ?_; refine vo_step (ok_extract rfl rfl rfl rfl) rfl ?_; refine vo_step (ok_extract rfl rfl rfl rfl) rfl ?_; refine vo_step (ok_alloc L rfl rfl rfl rfl) rfl ?_; refine vo_step (ok_store L rfl rfl rfl rfl rfl rfl rfl rfl) rfl ?_; refine vo_step (ok_assign rfl rfl rfl) rfl ?_; refine vo_nil ?_; refine N_seq ?_; refine V_seq ?_; refine V_region (id := 4) ?_; refine vo_step (ok_move rfl rfl rfl) rfl ?_; refine vo_step (ok_assign rfl rfl rfl) rfl ?_; refine vo_nil ?_; refine N_seq ?_
        refine V_ret L (rs := [.tmp 4]) rfl (fun _ _ h => h) Since.refl fun u H hH hle => ?_
        rfl
      · have hx : x ∈ l := by simpa using hb
        rw [if_pos hx] at hg
        refine V_seq ?_; refine V_region (id := 0) ?_; refine vo_step (ok_box rfl rfl rfl rfl) rfl ?_; refine vo_step (ok_box rfl rfl rfl rfl) rfl ?_; refine vo_step (ok_assign rfl rfl rfl) rfl ?_; refine vo_nil ?_; refine N_seq ?_; refine V_seq ?_; refine V_seq ?_; refine V_region (id := 1) ?_; refine vo_step (ok_loadA L (vs := [_, _, _, _]) (src_at rfl) rfl rfl rfl rfl ⟨_, rfl⟩) rfl ?_; refine vo_step (ok_callx L rfl rfl (blt_lt rfl) rfl rfl rfl (fun u H hH hle _ => slen_ret rfl hH (hv0.le hle))) rfl ?_; refine vo_step (ok_eql rfl rfl rfl rfl (decide_eq_false (by omega))) rfl ?_; refine vo_nil ?_; refine N_seq ?_; refine V_false rfl ?_; refine V_skip ?_; refine N_seq ?_; refine V_seq ?_; refine V_region (id := 3) ?_; refine vo_step (ok_fieldAt L rfl rfl rfl rfl) rfl ?_; refine vo_step (ok_fieldAt L rfl rfl rfl rfl) rfl ?_; refine vo_step (ok_loadA L (vs := [_, _]) (src_at rfl) rfl rfl rfl rfl ⟨_, rfl⟩) rfl ?_; refine vo_step (ok_loadA L (vs := [_, _, _, _, _, _]) (src_at rfl) rfl rfl rfl rfl ⟨_, rfl⟩) rfl ?_; refine vo_step (ok_callx L rfl rfl (blt_lt rfl) rfl rfl rfl (fun u H hH hle _ => UT.get_m cmpUT x hH (⟨_, rfl, ht.le hle⟩) hg)) rfl ?_; refine vo_step (ok_move rfl rfl rfl) rfl ?_; refine vo_step (ok_extract rfl rfl rfl rfl) rfl ?_; refine vo_step (ok_extract rfl rfl rfl rfl) rfl ?_; refine vo_step (ok_alloc L rfl rfl rfl rfl) rfl ?_; refine vo_step (ok_store L rfl rfl rfl rfl rfl rfl rfl rfl) rfl ?_; refine vo_step (ok_assign rfl rfl rfl) rfl ?_; refine vo_nil ?_; refine N_seq ?_; refine V_seq ?_; refine V_region (id := 4) ?_; refine vo_step (ok_move rfl rfl rfl) rfl ?_; refine vo_step (ok_assign rfl rfl rfl) rfl ?_; refine vo_nil ?_; refine N_seq ?_
        refine V_ret L (rs := [.tmp 4]) rfl (fun _ _ h => h) Since.refl fun u H hH hle => ?_
        rfl
  · have hb' : b = false := by rw [← hb]; simp
    subst hb'
    refine V_enter Try.func35 rfl Try.ntmps35 (Nat.le_of_ble_eq_true rfl) hB ?_
    refine V_seq ?_; refine V_region (id := 0) ?_; refine vo_step (ok_box rfl rfl rfl rfl) rfl ?_; refine vo_step (ok_box rfl rfl rfl rfl) rfl ?_; refine vo_step (ok_assign rfl rfl rfl) rfl ?_; refine vo_nil ?_; refine N_seq ?_; refine V_seq ?_; refine V_seq ?_; refine V_region (id := 1) ?_; refine vo_step (ok_loadA L (vs := [_, _, _, _]) (src_at rfl) rfl rfl rfl rfl ⟨_, rfl⟩) rfl ?_; refine vo_step (ok_callx L rfl rfl (blt_lt rfl) rfl rfl rfl (fun u H hH hle _ => slen_ret rfl hH (hv0.le hle))) rfl ?_; refine vo_step (ok_eql rfl rfl rfl rfl rfl) rfl ?_; refine vo_nil ?_; refine N_seq ?_; refine V_true rfl ?_; refine V_seq ?_; refine V_region (id := 2) ?_; refine vo_step (ok_assign rfl rfl rfl) rfl ?_; refine vo_nil ?_; refine N_seq ?_
    refine V_ret L (rs := [.tmp 4]) rfl (fun _ _ h => h) Since.refl fun u H hH hle => ?_
    rfl
/-- A variable that holds a set. -/
def scs (x : Value × Option Addr × Value × Option Addr) : List Value := [x.1, .pointer x.2.1, x.2.2.1, .pointer x.2.2.2]
abbrev SXp := { x : Value × Option Addr × Value × Option Addr // (scs x).all plainV = true }
abbrev sphi (l : List U) (x : SXp) (H : Heap) : Prop := SetV l (.agg (scs x.1).toArray) H
theorem sphi_mono (l : List U) : MonoX (sphi l) := fun _ _ _ h hle => SetV.le h hle
theorem set_st {l : List U} (v : Value) (H : Heap) (h : SetV l v H) : ∃ x : SXp, sphi l x H ∧ cellsL v = scs x.1 := by
  obtain ⟨f, p, k, q, rfl, hp⟩ := h.shape
  exact ⟨⟨(f, p, k, q), hp⟩, h, rfl⟩
/-- What With gives. -/
abbrev WithS (l : List U) (e : Int) : Value → Heap → Prop := TupS [SetV l, fun v _ => v = .int .i64 e]
theorem WithS.mono {l : List U} {e : Int} : Kn.mono (.sat (WithS l e)) := LE2.mono SetV.mono
theorem mf4 {cf cg : Nat} {t u : Tr U Unit} {v1 v2 : Value} {H : Heap} (h1 : UT.MF cf t v1 H) (h2 : UT.MF cg u v2 H) : ∃ p q, v1 = .agg #[.func (.func cf) #[] #[], .pointer p] ∧ v2 = .agg #[.func (.func cg) #[] #[], .pointer q] ∧ UT.TA t (.pointer p) H ∧ UT.TA u (.pointer q) H := by
  obtain ⟨p, e1, h1⟩ := h1
  obtain ⟨q, e2, h2⟩ := h2
  exact ⟨p, q, e1, e2, h1, h2⟩
theorem ts_ch {l : List U} {t u : Tr U Unit} (h : TS l t u) {x : U} {d : Bool} (hx : decide (x ∈ l) = d) (hc : d = false → l.length < 4096) (he : tE x = 0) : TS (withU l x d).1 (chT cmpT x d t) (chT cmpS x d u) ∧ (withU l x d).2 = 0 := by
  unfold withU chT
  rw [if_pos he]
  cases d
  · have hx' : x ∉ l := by simpa using hx
    rw [if_neg (by decide), if_neg hx', if_neg (by have := hc rfl; omega), if_neg (by decide), if_neg (by decide)]
    exact ⟨h.put hx', rfl⟩
  · have hx' : x ∈ l := by simpa using hx
    rw [if_pos rfl, if_pos rfl, if_pos rfl]
    exact ⟨h.drop hx', rfl⟩
set_option maxHeartbeats 1000000 in
theorem with_ret {l m : List U} {x : U} {d : Bool} {e : Int} (hr : withU l x d = (m, e)) (hl : l.length ≤ 4096) (hz : TZ x) {v : Value} {w : World} {B : Heap} (hB : B.Le (hp w)) (hv : SetV l v B) :
    Ret Try.prog 33 [v, chv x d] w B (WithS m e) := by
  obtain ⟨f1, p1, f2, q1, hsh, hpl⟩ := hv.shape
  by_cases he : tE x = 0
  · obtain ⟨hin, hin0⟩ : ∃ b, decide (x ∈ l) = b := ⟨_, rfl⟩
    by_cases hd : hin = d
    · subst hd
      by_cases hfull : hin = false ∧ l.length = 4096
      · obtain ⟨rfl, hlen⟩ := hfull
        have hw : withU l x false = ([], 3) := by
          unfold withU
          rw [if_pos he, if_neg (by decide), if_neg (by simpa using hin0), if_pos (by omega)]
        rw [hw] at hr
        cases hr
        subst hsh
        refine V_enter Try.func33 rfl Try.ntmps33 (Nat.le_of_ble_eq_true rfl) hB ?_
        refine V_seq ?_; refine V_region (id := 0) ?_; refine vo_step (ok_box rfl rfl rfl rfl) rfl ?_; refine vo_step (ok_box rfl rfl rfl rfl) rfl ?_; refine vo_step (ok_alloc L rfl rfl rfl rfl) rfl ?_; refine vo_step (ok_assign rfl rfl rfl) rfl ?_; refine vo_nil ?_; refine N_seq ?_; refine V_seq ?_; refine V_seq ?_; refine V_region (id := 1) ?_; refine vo_step (ok_fieldAt L rfl rfl rfl rfl) rfl ?_; refine vo_step (ok_loadA L (vs := [_, _, _, _, _, _]) (src_at rfl) rfl rfl rfl rfl ⟨_, rfl⟩) rfl ?_; refine vo_step (ok_callx L rfl rfl (blt_lt rfl) rfl rfl rfl (fun u H hH _ _ => he ▸ tcheck_ret hz hH)) rfl ?_; refine vo_step (ok_assign rfl rfl rfl) rfl ?_; refine vo_nil ?_; refine N_seq ?_; refine V_seq ?_; refine V_region (id := 2) ?_; refine vo_step (ok_move rfl rfl rfl) rfl ?_; refine vo_step (ok_neq rfl rfl rfl rfl (decide_eq_false (by omega))) rfl ?_; refine vo_nil ?_; refine N_seq ?_; refine V_false rfl ?_; refine V_skip ?_; refine N_seq ?_; refine V_seq ?_; refine V_seq ?_; refine V_regionD (id := 4) [] mixed (by kernel_rfl) ?_; refine par_step (ok_loadA L (vs := [_, _, _, _]) (src_at rfl) rfl rfl rfl rfl ⟨_, rfl⟩) rfl ?_; refine par_step (ok_fieldAt L rfl rfl rfl rfl) rfl ?_; refine par_step (ok_loadA L (vs := [_, _, _, _, _, _]) (src_at rfl) rfl rfl rfl rfl ⟨_, rfl⟩) rfl ?_; refine par_step (ok_callx L rfl rfl (blt_lt rfl) rfl rfl rfl (fun u H hH hle _ => shas_ret hin0 hH (hv.le hle))) rfl ?_; refine par_step (ok_fieldAt L rfl rfl rfl rfl) rfl ?_; refine par_step (ok_load1 L (src_at rfl) rfl rfl rfl rfl) rfl ?_; refine par_step (ok_bneq rfl rfl rfl rfl bt4 rfl) rfl ?_; refine par_nil ?_; refine N_seq ?_; refine V_false rfl ?_; refine V_skip ?_; refine N_seq ?_; refine V_seq ?_; refine V_seq ?_; refine V_region (id := 6) ?_; refine vo_step (ok_fieldAt L rfl rfl rfl rfl) rfl ?_; refine vo_step (ok_load1 L (src_at rfl) rfl rfl rfl rfl) rfl ?_; refine vo_step (ok_not rfl rfl rfl rfl) rfl ?_; refine vo_step (ok_move rfl rfl rfl) rfl ?_; refine vo_step (ok_loadA L (vs := [_, _, _, _]) (src_at rfl) rfl rfl rfl rfl ⟨_, rfl⟩) rfl ?_; refine vo_step (ok_callx L rfl rfl (blt_lt rfl) rfl rfl rfl (fun u H hH hle _ => slen_ret hlen hH (hv.le hle))) rfl ?_; refine vo_step (ok_eql rfl rfl rfl rfl (decide_eq_true (by omega))) rfl ?_; refine vo_step (ok_pick rfl rfl rfl rfl) rfl ?_; refine vo_nil ?_; refine N_seq ?_; refine V_true rfl ?_; refine V_seq ?_; refine V_region (id := 7) ?_; refine vo_step (ok_build (cs := [_, _, _, _]) rfl rfl pl76 rfl rfl) rfl ?_; refine vo_step (ok_store L rfl rfl rfl rfl rfl rfl rfl rfl) rfl ?_; refine vo_step (ok_assign rfl rfl rfl) rfl ?_; refine vo_nil ?_; refine N_seq ?_
        refine V_ret L (rs := [.cell 4 76, .tmp 5]) rfl (fun _ _ h => h) Since.refl fun u H hH hle => ?_
        exact ⟨_, src_own rfl, rfl, LE2.mk SetV.nil⟩
      · have hc : hin = false → l.length < 4096 := fun h => by
          rcases Nat.lt_or_ge l.length 4096 with h' | h'
          · exact h'
          · exact absurd ⟨h, by omega⟩ hfull
        obtain ⟨p, q, t, u, hT, ht, hu, hv1⟩ := id hv
        have hch := ts_ch hT hin0 hc he
        rw [hr] at hch
        obtain ⟨hT', rfl⟩ := hch
        have hts := hT.size
        have hus := hT.zu
        have hf1 : p1 = p ∧ q1 = q ∧ (f1 = fvC ∨ (f1 = .nilFunc ∧ t = .nil)) ∧ (f2 = fvS ∨ (f2 = .nilFunc ∧ u = .nil)) := by
          rcases hv1 with h | ⟨h0, rfl, rfl, h⟩
          · rw [hsh] at h; cases h; exact ⟨rfl, rfl, .inl rfl, .inl rfl⟩
          · rw [hsh] at h
            cases h
            subst h0
            have key : ∀ {s : Tr U Unit}, s.size = 0 → s = .nil := fun {s} hs => by
              cases s with
              | nil => rfl
              | node k y l r => simp only [Tr.size] at hs; omega
            exact ⟨rfl, rfl, .inr ⟨rfl, key hts⟩, .inr ⟨rfl, key hus⟩⟩
        obtain ⟨rfl, rfl, hf1, hf2⟩ := hf1
        subst hsh
        have hchg1 := fun (u1 : World) (H : Heap) (hH : H.Le (hp u1)) (hle : B.Le H) => change_ret cmpUT hf1 x hin hH (ht.le hle) (by omega)
        have hchg2 := fun (u1 : World) (H : Heap) (hH : H.Le (hp u1)) (hle : B.Le H) => change_ret cmpUS hf2 x hin hH (hu.le hle) (by omega)
        cases hin
        · have hlen := hc rfl
          refine V_enter Try.func33 rfl Try.ntmps33 (Nat.le_of_ble_eq_true rfl) hB ?_
          refine V_seq ?_; refine V_region (id := 0) ?_; refine vo_step (ok_box rfl rfl rfl rfl) rfl ?_; refine vo_step (ok_box rfl rfl rfl rfl) rfl ?_; refine vo_step (ok_alloc L rfl rfl rfl rfl) rfl ?_; refine vo_step (ok_assign rfl rfl rfl) rfl ?_; refine vo_nil ?_; refine N_seq ?_; refine V_seq ?_; refine V_seq ?_; refine V_region (id := 1) ?_; refine vo_step (ok_fieldAt L rfl rfl rfl rfl) rfl ?_; refine vo_step (ok_loadA L (vs := [_, _, _, _, _, _]) (src_at rfl) rfl rfl rfl rfl ⟨_, rfl⟩) rfl ?_; refine vo_step (ok_callx L rfl rfl (blt_lt rfl) rfl rfl rfl (fun u H hH _ _ => he ▸ tcheck_ret hz hH)) rfl ?_; refine vo_step (ok_assign rfl rfl rfl) rfl ?_; refine vo_nil ?_; refine N_seq ?_; refine V_seq ?_; refine V_region (id := 2) ?_; refine vo_step (ok_move rfl rfl rfl) rfl ?_; refine vo_step (ok_neq rfl rfl rfl rfl (decide_eq_false (by omega))) rfl ?_; refine vo_nil ?_; refine N_seq ?_; refine V_false rfl ?_; refine V_skip ?_; refine N_seq ?_; refine V_seq ?_; refine V_seq ?_; refine V_regionD (id := 4) [] mixed (by kernel_rfl) ?_; refine par_step (ok_loadA L (vs := [_, _, _, _]) (src_at rfl) rfl rfl rfl rfl ⟨_, rfl⟩) rfl ?_; refine par_step (ok_fieldAt L rfl rfl rfl rfl) rfl ?_; refine par_step (ok_loadA L (vs := [_, _, _, _, _, _]) (src_at rfl) rfl rfl rfl rfl ⟨_, rfl⟩) rfl ?_; refine par_step (ok_callx L rfl rfl (blt_lt rfl) rfl rfl rfl (fun u H hH hle _ => shas_ret hin0 hH (hv.le hle))) rfl ?_; refine par_step (ok_fieldAt L rfl rfl rfl rfl) rfl ?_; refine par_step (ok_load1 L (src_at rfl) rfl rfl rfl rfl) rfl ?_; refine par_step (ok_bneq rfl rfl rfl rfl bt4 rfl) rfl ?_; refine par_nil ?_; refine N_seq ?_; refine V_false rfl ?_; refine V_skip ?_; refine N_seq ?_; refine V_seq ?_; refine V_seq ?_; refine V_region (id := 6) ?_; refine vo_step (ok_fieldAt L rfl rfl rfl rfl) rfl ?_; refine vo_step (ok_load1 L (src_at rfl) rfl rfl rfl rfl) rfl ?_; refine vo_step (ok_not rfl rfl rfl rfl) rfl ?_; refine vo_step (ok_move rfl rfl rfl) rfl ?_; refine vo_step (ok_loadA L (vs := [_, _, _, _]) (src_at rfl) rfl rfl rfl rfl ⟨_, rfl⟩) rfl ?_; refine vo_step (ok_callx L rfl rfl (blt_lt rfl) rfl rfl rfl (fun u H hH hle _ => slen_ret rfl hH (hv.le hle))) rfl ?_; refine vo_step (ok_eql rfl rfl rfl rfl (decide_eq_false (by omega))) rfl ?_; refine vo_step (ok_pick rfl rfl rfl rfl) rfl ?_; refine vo_nil ?_; refine N_seq ?_; refine V_false rfl ?_; refine V_skip ?_; refine N_seq ?_; refine V_seq ?_; refine V_regionD (id := 8) [] mixed (by kernel_rfl) ?_; refine par_step (ok_fieldAt L rfl rfl rfl rfl) rfl ?_; refine par_step (ok_loadA L (vs := [_, _]) (src_at rfl) rfl rfl rfl rfl ⟨_, rfl⟩) rfl ?_; refine par_step (ok_loadA L (vs := [_, _, _, _, _, _, _]) (src_at rfl) rfl rfl rfl rfl ⟨_, rfl⟩) rfl ?_; refine par_step (ok_call (φ := UT.MF 72 (chT cmpT x false t)) L rfl rfl (blt_lt rfl) rfl rfl rfl UT.MA.mono (fun u H hH hle _ => hchg1 u H hH hle)) rfl ?_; refine par_step (ok_fieldAt L rfl rfl rfl rfl) rfl ?_; refine par_step (ok_loadA L (vs := [_, _]) (src_at rfl) rfl rfl rfl rfl ⟨_, rfl⟩) rfl ?_; refine par_step (ok_loadA L (vs := [_, _, _, _, _, _, _]) (src_at rfl) rfl rfl rfl rfl ⟨_, rfl⟩) rfl ?_; refine par_step (ok_call (φ := UT.MF 73 (chT cmpS x false u)) L rfl rfl (blt_lt rfl) rfl rfl rfl UT.MA.mono (fun u H hH hle _ => hchg2 u H hH hle)) rfl ?_; refine par_step (ok_buildS (ψ := SetV m) rfl rfl pl76 SetV.mono (fun H _ v1 h1 v2 h2 => by obtain ⟨p, q, rfl, rfl, k1, k2⟩ := mf4 h1 h2; exact ⟨_, rfl, p, q, _, _, hT', k1, k2, .inl rfl⟩)) rfl ?_; refine par_step (ok_storeX L (X := SXp) (fun x => scs x.1) (sphi m) (sphi_mono m) set_st (fun x => ⟨rfl, x.2⟩) rfl rfl rfl rfl rfl) rfl ?_; refine par_step (ok_assign rfl rfl rfl) rfl ?_; refine par_nil ?_; refine N_seq ?_
          refine V_opnX 4 rfl fun x4 H4 hs4 hx4 => ?_
          refine V_ret L (rs := [.cell 4 76, .tmp 5]) rfl (fun _ _ h => h) hs4 fun u H hH hle => ?_
          exact ⟨_, src_own rfl, rfl, LE2.mk (hx4.le hle)⟩
        · refine V_enter Try.func33 rfl Try.ntmps33 (Nat.le_of_ble_eq_true rfl) hB ?_
          refine V_seq ?_; refine V_region (id := 0) ?_; refine vo_step (ok_box rfl rfl rfl rfl) rfl ?_; refine vo_step (ok_box rfl rfl rfl rfl) rfl ?_; refine vo_step (ok_alloc L rfl rfl rfl rfl) rfl ?_; refine vo_step (ok_assign rfl rfl rfl) rfl ?_; refine vo_nil ?_; refine N_seq ?_; refine V_seq ?_; refine V_seq ?_; refine V_region (id := 1) ?_; refine vo_step (ok_fieldAt L rfl rfl rfl rfl) rfl ?_; refine vo_step (ok_loadA L (vs := [_, _, _, _, _, _]) (src_at rfl) rfl rfl rfl rfl ⟨_, rfl⟩) rfl ?_; refine vo_step (ok_callx L rfl rfl (blt_lt rfl) rfl rfl rfl (fun u H hH _ _ => he ▸ tcheck_ret hz hH)) rfl ?_; refine vo_step (ok_assign rfl rfl rfl) rfl ?_; refine vo_nil ?_; refine N_seq ?_; refine V_seq ?_; refine V_region (id := 2) ?_; refine vo_step (ok_move rfl rfl rfl) rfl ?_; refine vo_step (ok_neq rfl rfl rfl rfl (decide_eq_false (by omega))) rfl ?_; refine vo_nil ?_; refine N_seq ?_; refine V_false rfl ?_; refine V_skip ?_; refine N_seq ?_; refine V_seq ?_; refine V_seq ?_; refine V_regionD (id := 4) [] mixed (by kernel_rfl) ?_; refine par_step (ok_loadA L (vs := [_, _, _, _]) (src_at rfl) rfl rfl rfl rfl ⟨_, rfl⟩) rfl ?_; refine par_step (ok_fieldAt L rfl rfl rfl rfl) rfl ?_; refine par_step (ok_loadA L (vs := [_, _, _, _, _, _]) (src_at rfl) rfl rfl rfl rfl ⟨_, rfl⟩) rfl ?_; refine par_step (ok_callx L rfl rfl (blt_lt rfl) rfl rfl rfl (fun u H hH hle _ => shas_ret hin0 hH (hv.le hle))) rfl ?_; refine par_step (ok_fieldAt L rfl rfl rfl rfl) rfl ?_; refine par_step (ok_load1 L (src_at rfl) rfl rfl rfl rfl) rfl ?_; refine par_step (ok_bneq rfl rfl rfl rfl bt4 rfl) rfl ?_; refine par_nil ?_; refine N_seq ?_; refine V_false rfl ?_; refine V_skip ?_; refine N_seq ?_; refine V_seq ?_; refine V_seq ?_; refine V_region (id := 6) ?_; refine vo_step (ok_fieldAt L rfl rfl rfl rfl) rfl ?_; refine vo_step (ok_load1 L (src_at rfl) rfl rfl rfl rfl) rfl ?_; refine vo_step (ok_not rfl rfl rfl rfl) rfl ?_; refine vo_step (ok_move rfl rfl rfl) rfl ?_; refine vo_step (ok_skip rfl (blt_lt rfl) rfl) rfl ?_; refine vo_step (ok_skip rfl (blt_lt rfl) rfl) rfl ?_; refine vo_step (ok_skip rfl (blt_lt rfl) rfl) rfl ?_; refine vo_step (ok_pick rfl rfl rfl rfl) rfl ?_; refine vo_nil ?_; refine N_seq ?_; refine V_false rfl ?_; refine V_skip ?_; refine N_seq ?_; refine V_seq ?_; refine V_regionD (id := 8) [] mixed (by kernel_rfl) ?_; refine par_step (ok_fieldAt L rfl rfl rfl rfl) rfl ?_; refine par_step (ok_loadA L (vs := [_, _]) (src_at rfl) rfl rfl rfl rfl ⟨_, rfl⟩) rfl ?_; refine par_step (ok_loadA L (vs := [_, _, _, _, _, _, _]) (src_at rfl) rfl rfl rfl rfl ⟨_, rfl⟩) rfl ?_; refine par_step (ok_call (φ := UT.MF 72 (chT cmpT x true t)) L rfl rfl (blt_lt rfl) rfl rfl rfl UT.MA.mono (fun u H hH hle _ => hchg1 u H hH hle)) rfl ?_; refine par_step (ok_fieldAt L rfl rfl rfl rfl) rfl ?_; refine par_step (ok_loadA L (vs := [_, _]) (src_at rfl) rfl rfl rfl rfl ⟨_, rfl⟩) rfl ?_; refine par_step (ok_loadA L (vs := [_, _, _, _, _, _, _]) (src_at rfl) rfl rfl rfl rfl ⟨_, rfl⟩) rfl ?_; refine par_step (ok_call (φ := UT.MF 73 (chT cmpS x true u)) L rfl rfl (blt_lt rfl) rfl rfl rfl UT.MA.mono (fun u H hH hle _ => hchg2 u H hH hle)) rfl ?_; refine par_step (ok_buildS (ψ := SetV m) rfl rfl pl76 SetV.mono (fun H _ v1 h1 v2 h2 => by obtain ⟨p, q, rfl, rfl, k1, k2⟩ := mf4 h1 h2; exact ⟨_, rfl, p, q, _, _, hT', k1, k2, .inl rfl⟩)) rfl ?_; refine par_step (ok_storeX L (X := SXp) (fun x => scs x.1) (sphi m) (sphi_mono m) set_st (fun x => ⟨rfl, x.2⟩) rfl rfl rfl rfl rfl) rfl ?_; refine par_step (ok_assign rfl rfl rfl) rfl ?_; refine par_nil ?_; refine N_seq ?_
          refine V_opnX 4 rfl fun x4 H4 hs4 hx4 => ?_
          refine V_ret L (rs := [.cell 4 76, .tmp 5]) rfl (fun _ _ h => h) hs4 fun u H hH hle => ?_
          exact ⟨_, src_own rfl, rfl, LE2.mk (hx4.le hle)⟩
    · have hw : withU l x d = (l, 0) := by
        unfold withU
        rw [if_pos he]
        cases d
        · have : hin = true := by cases hin; exact absurd rfl hd; rfl
          subst this
          rw [if_neg (by decide), if_pos (by simpa using hin0)]
        · have : hin = false := by cases hin; rfl; exact absurd rfl hd
          subst this
          rw [if_pos rfl, filter_out (by simpa using hin0)]
      rw [hw] at hr
      cases hr
      have hb : (hin == d) = false := by cases hin <;> cases d <;> first | rfl | exact absurd rfl hd
      subst hsh
      refine V_enter Try.func33 rfl Try.ntmps33 (Nat.le_of_ble_eq_true rfl) hB ?_
      have hb2 : (!(hin == d)) = true := by rw [hb]; rfl
      refine V_seq ?_; refine V_region (id := 0) ?_; refine vo_step (ok_box rfl rfl rfl rfl) rfl ?_; refine vo_step (ok_box rfl rfl rfl rfl) rfl ?_; refine vo_step (ok_alloc L rfl rfl rfl rfl) rfl ?_; refine vo_step (ok_assign rfl rfl rfl) rfl ?_; refine vo_nil ?_; refine N_seq ?_; refine V_seq ?_; refine V_seq ?_; refine V_region (id := 1) ?_; refine vo_step (ok_fieldAt L rfl rfl rfl rfl) rfl ?_; refine vo_step (ok_loadA L (vs := [_, _, _, _, _, _]) (src_at rfl) rfl rfl rfl rfl ⟨_, rfl⟩) rfl ?_; refine vo_step (ok_callx L rfl rfl (blt_lt rfl) rfl rfl rfl (fun u H hH _ _ => he ▸ tcheck_ret hz hH)) rfl ?_; refine vo_step (ok_assign rfl rfl rfl) rfl ?_; refine vo_nil ?_; refine N_seq ?_; refine V_seq ?_; refine V_region (id := 2) ?_; refine vo_step (ok_move rfl rfl rfl) rfl ?_; refine vo_step (ok_neq rfl rfl rfl rfl (decide_eq_false (by omega))) rfl ?_; refine vo_nil ?_; refine N_seq ?_; refine V_false rfl ?_; refine V_skip ?_; refine N_seq ?_; refine V_seq ?_; refine V_seq ?_; refine V_regionD (id := 4) [] mixed (by kernel_rfl) ?_; refine par_step (ok_loadA L (vs := [_, _, _, _]) (src_at rfl) rfl rfl rfl rfl ⟨_, rfl⟩) rfl ?_; refine par_step (ok_fieldAt L rfl rfl rfl rfl) rfl ?_; refine par_step (ok_loadA L (vs := [_, _, _, _, _, _]) (src_at rfl) rfl rfl rfl rfl ⟨_, rfl⟩) rfl ?_; refine par_step (ok_callx L rfl rfl (blt_lt rfl) rfl rfl rfl (fun u H hH hle _ => shas_ret hin0 hH (hv.le hle))) rfl ?_; refine par_step (ok_fieldAt L rfl rfl rfl rfl) rfl ?_; refine par_step (ok_load1 L (src_at rfl) rfl rfl rfl rfl) rfl ?_; refine par_step (ok_bneq rfl rfl rfl rfl bt4 hb2) rfl ?_; refine par_nil ?_; refine N_seq ?_; refine V_true rfl ?_; refine V_seq ?_; refine V_region (id := 5) ?_; refine vo_step (ok_loadA L (vs := [_, _, _, _]) (src_at rfl) rfl rfl rfl rfl ⟨_, rfl⟩) rfl ?_; refine vo_step (ok_store L rfl rfl rfl rfl rfl rfl (by assumption) rfl) rfl ?_; refine vo_step (ok_assign rfl rfl rfl) rfl ?_; refine vo_nil ?_; refine N_seq ?_
      refine V_ret L (rs := [.cell 4 76, .tmp 5]) rfl (fun _ _ h => h) Since.refl fun u H hH hle => ?_
      exact ⟨_, src_own rfl, rfl, LE2.mk (hv.le hle)⟩
  · have hw : withU l x d = ([], tE x) := if_neg he
    rw [hw] at hr
    cases hr
    subst hsh
    refine V_enter Try.func33 rfl Try.ntmps33 (Nat.le_of_ble_eq_true rfl) hB ?_
    refine V_seq ?_; refine V_region (id := 0) ?_; refine vo_step (ok_box rfl rfl rfl rfl) rfl ?_; refine vo_step (ok_box rfl rfl rfl rfl) rfl ?_; refine vo_step (ok_alloc L rfl rfl rfl rfl) rfl ?_; refine vo_step (ok_assign rfl rfl rfl) rfl ?_; refine vo_nil ?_; refine N_seq ?_; refine V_seq ?_; refine V_seq ?_; refine V_region (id := 1) ?_; refine vo_step (ok_fieldAt L rfl rfl rfl rfl) rfl ?_; refine vo_step (ok_loadA L (vs := [_, _, _, _, _, _]) (src_at rfl) rfl rfl rfl rfl ⟨_, rfl⟩) rfl ?_; refine vo_step (ok_callx L rfl rfl (blt_lt rfl) rfl rfl rfl (fun u H hH _ _ => tcheck_ret hz hH)) rfl ?_; refine vo_step (ok_assign rfl rfl rfl) rfl ?_; refine vo_nil ?_; refine N_seq ?_; refine V_seq ?_; refine V_region (id := 2) ?_; refine vo_step (ok_move rfl rfl rfl) rfl ?_; refine vo_step (ok_neq rfl rfl rfl rfl (decide_eq_true (by omega))) rfl ?_; refine vo_nil ?_; refine N_seq ?_; refine V_true rfl ?_; refine V_seq ?_; refine V_region (id := 3) ?_; refine vo_step (ok_build (cs := [_, _, _, _]) rfl rfl pl76 rfl rfl) rfl ?_; refine vo_step (ok_move rfl rfl rfl) rfl ?_; refine vo_step (ok_store L rfl rfl rfl rfl rfl rfl rfl rfl) rfl ?_; refine vo_step (ok_assign rfl rfl rfl) rfl ?_; refine vo_nil ?_; refine N_seq ?_
    refine V_ret L (rs := [.cell 4 76, .tmp 5]) rfl (fun _ _ h => h) Since.refl fun u H hH hle => ?_
    exact ⟨_, src_own rfl, rfl, LE2.mk SetV.nil⟩
end Go.V.L6
/- The walk of the definition of tuples (chapter 2): parts of two lists. -/
namespace Go.V.L2
open Go.Proofs Go.RowKit Go.V
theorem ups_len : ∀ (l : List U), (l.flatMap ucs).length = l.length * 6
  | [] => rfl
  | y :: l => by rw [List.flatMap_cons, List.length_append, ups_len l, ucs_len, List.length_cons]; omega
attribute [local irreducible] V N X VO Par StepOK Has Ret RetL Src
end Go.V.L2
/- The walks of sets (chapter 6): lists of tuples. -/
namespace Go.V.L6
open Go.Proofs Go.RowKit Go.V Go.V.L2 Go.V.L3
theorem flat_keys (N : List (U × Unit)) : UT.flat N = (kS N).flatMap ucs := by
  unfold UT.flat kS
  rw [List.flatMap_map]
  rfl
theorem rangeL_nat {t : Tr U Unit} {r k : Nat} (hk : k ≤ t.size) : kS (UT.rangeL t (r : Int) (k : Int)) = ((kS t.list).take k).drop r := by
  unfold UT.rangeL
  have h0 : max (r : Int) 0 = (r : Int) := by omega
  have h1 : min (k : Int) (t.size : Int) = (k : Int) := by omega
  rw [h0, h1]
  by_cases h : (r : Int) ≥ k
  · rw [if_pos h, List.drop_eq_nil_of_le (by rw [List.length_take]; omega)]
    rfl
  · rw [if_neg h, Tr.prs_list]
    have := cutI_nat r k t.list 0
    rw [show ((0 : Nat) : Int) = 0 from rfl] at this
    rw [this, Nat.sub_zero, Nat.sub_zero]
    unfold kS
    rw [List.map_drop, List.map_take]
attribute [local irreducible] V N X VO Par StepOK Has Ret RetL RetO Src
set_option maxHeartbeats 1000000 in
theorem ilist_retO {fv : Value} {p : Option Addr} {t : Tr U Unit} {f e : Int} {M : List U} (hM : kS (UT.rangeL t f e) = M) (hs : t.size ≤ 100000) {w : World} {B : Heap} (hB : B.Le (hp w)) (ht : UT.TA t (.pointer p) B) :
    RetO Try.prog 82 [.agg #[fv, .pointer p], .int .i64 f, .int .i64 e] w B (SlE tyU 6 M.length (M.flatMap ucs)) := by
  obtain ⟨N, hN⟩ : ∃ N, UT.rangeL t f e = N := ⟨_, rfl⟩
  rw [hN] at hM
  have hfl := flat_keys N
  have hNM : N.length = M.length := by rw [← hM]; simp
  have hlen : M.length ≤ 100000 := by
    rw [← hNM, ← hN]
    unfold UT.rangeL
    split
    · exact Nat.zero_le _
    · exact Nat.le_trans (Tr.prs_length_le _ _ _ _) hs
  have hat : ∀ {k : Nat} {g : U}, M[k]? = some g → ((UT.flat N).drop (k * 6)).take 6 = [.string g.1.1.1, .string g.1.1.2, .string g.1.2, .string g.2.1.1, .string g.2.1.2, .string g.2.2] := fun {k g} h => by
    rw [hfl, hM]; exact us_at h
  clear hM hfl
  refine V_enterO Try.func82 rfl Try.ntmps82 (Nat.le_of_ble_eq_true rfl) hB ?_
  refine V_seq ?_; refine V_region (id := 0) ?_; refine vo_step (ok_box rfl rfl rfl rfl) rfl ?_; refine vo_step (ok_assign rfl rfl rfl) rfl ?_; refine vo_nil ?_; refine N_seq ?_; refine V_seq ?_; refine V_region (id := 1) ?_; refine vo_step (ok_fieldAt L rfl rfl rfl rfl) rfl ?_; refine vo_step (ok_loadA L (vs := [_, _]) (src_at rfl) rfl rfl rfl rfl ⟨_, rfl⟩) rfl ?_; refine vo_step (ok_move rfl rfl rfl) rfl ?_; refine vo_step (ok_move rfl rfl rfl) rfl ?_; refine vo_step (ok_call (φ := UT.PS N true) L rfl rfl (blt_lt rfl) rfl rfl rfl UT.PS.mono (fun u H hH hle _ => UT.range_m _ _ hH (⟨_, rfl, ht.le hle⟩) (by omega) hN)) rfl ?_; refine vo_step (ok_assigns' rfl rfl rfl) rfl ?_; refine vo_nil ?_; refine N_seq ?_; refine V_seq ?_; refine V_region (id := 2) ?_; refine vo_step (ok_moves' rfl rfl rfl) rfl ?_; refine vo_step (ok_lenV L rfl rfl rfl rfl) rfl ?_; refine vo_step (ok_makeN L _ rfl rfl rfl el51 rfl rfl rfl rfl (by omega) (by simp only [maxLen]; omega)) rfl ?_; refine vo_step2 (ok_moveO (.inr rfl) rfl rfl rfl rfl) ?_; refine vo_nil ?_; refine N_seq ?_; refine V_seq ?_; refine V_seq ?_; refine V_region (id := 3) ?_; refine vo_step (ok_moves' rfl rfl rfl) rfl ?_; refine vo_step (ok_lenV L rfl rfl rfl rfl) rfl ?_; refine vo_step (ok_move rfl rfl rfl) rfl ?_; refine vo_nil ?_; refine N_seq ?_; refine V_block ?_
  have hzl := zsL_length (P := Try.prog) (k := N.length * 6) el51
  generalize zsL Try.prog tyU (N.length * 6) = zs0 at hzl
  rw [hNM] at hzl ⊢
  refine V_loop (fun s : Nat × List Value => [(7, .sat (UT.PS N true)), (8, .own (SlE tyU 6 M.length ((M.take s.1).flatMap ucs ++ s.2))), (19, .is (.int .i64 M.length)), (20, .is (.int .i64 s.1))])
    (fun s => s.1 ≤ M.length ∧ s.2.length = (M.length - s.1) * 6) (fun s => M.length - s.1) (0, zs0) ⟨Nat.zero_le _, hzl⟩ ⟨rfl, rfl, rfl, rfl, trivial⟩ ?_
  rintro ⟨k, zs⟩ ⟨hk, hz⟩
  dsimp only at hk hz ⊢
  by_cases hlt : k < M.length
  · obtain ⟨g, hg⟩ := get_some hlt
    have hc := hat hg
    have hlN : k < N.length := by omega
    have ht1 : M.take (k + 1) = M.take k ++ [g] := by rw [List.take_add_one, hg]; rfl
    have hr : List.take (0 + k * 6) ((M.take k).flatMap ucs ++ zs) ++ (ucs g ++ List.drop (0 + k * 6 + 6) ((M.take k).flatMap ucs ++ zs)) = (M.take (k + 1)).flatMap ucs ++ zs.drop 6 := by
      rw [ht1, Nat.zero_add]
      exact set_at ucs_len (M.take k) k M.length zs g (by rw [List.length_take]; omega) hz hlt
    have hlen' : ((M.take (k + 1)).flatMap ucs ++ zs.drop 6).length = M.length * 6 := by
      rw [List.length_append, ups_len, List.length_take, List.length_drop, hz]; omega
    refine V_boxE 8 (by omega) rfl fun b hb => ?_
    have hle1 : 0 + k * 6 + 6 ≤ ((M.take k).flatMap ucs ++ zs).length := by rw [hb.1]; omega
    refine V_seq ?_; refine V_region (id := 4) ?_; refine vo_step (ok_lss rfl rfl rfl rfl (decide_eq_true (by omega))) rfl ?_; refine vo_nil ?_; refine N_seq ?_; refine V_seq ?_; refine V_true rfl ?_; refine V_skip ?_; refine N_seq ?_; refine V_seq ?_; refine V_block ?_; refine V_seq ?_; refine V_region (id := 5) ?_; refine vo_step (ok_move rfl rfl rfl) rfl ?_; refine vo_step (ok_assign rfl rfl rfl) rfl ?_; refine vo_nil ?_; refine N_seq ?_; refine V_region (id := 6) ?_; refine vo_step (ok_move rfl rfl rfl) rfl ?_; refine vo_step (ok_move rfl rfl rfl) rfl ?_; refine vo_step (ok_moves' rfl rfl rfl) rfl ?_; refine vo_step (ok_move rfl rfl rfl) rfl ?_; refine vo_step (ok_indexV L _ rfl rfl rfl rfl rfl rfl rfl (by first | omega | decide) (by assumption)) rfl ?_; refine vo_step (ok_fieldAP L rfl rfl rfl rfl) rfl ?_; refine vo_step (ok_loadPA L (vs := [_, _, _, _, _, _]) rfl rfl rfl rfl rfl ⟨_, rfl⟩) rfl ?_; refine vo_step (ok_indexAt L _ rfl rfl rfl rfl rfl rfl rfl (by omega)) rfl ?_; refine box_store L (O1 := []) (cs' := (M.take (k + 1)).flatMap ucs ++ zs.drop 6) rfl rfl rfl rfl rfl rfl (Nat.ble_eq_true_of_le hle1) rfl hr ?_; refine vo_nil ?_; refine N_block ?_; refine N_seq ?_
    refine V_unboxE (s := 6) 8 [] rfl rfl hlen' hb.2 ?_
    refine V_region (id := 7) ?_; refine vo_step (ok_add rfl rfl rfl rfl (wrap_i64 (by omega) (by omega))) rfl ?_; refine vo_step (ok_move rfl rfl rfl) rfl ?_; refine vo_nil ?_
    exact N_round (x := (k, zs)) (k + 1, zs.drop 6) ⟨hlt, by dsimp only; rw [List.length_drop, hz]; omega⟩ (by dsimp only; omega) ⟨rfl, rfl, rfl, rfl, trivial⟩
  · obtain rfl : k = M.length := by omega
    have hzn : zs = [] := List.eq_nil_of_length_eq_zero (by rw [hz]; omega)
    rw [hzn, List.append_nil, List.take_length]
    refine V_seq ?_; refine V_region (id := 4) ?_; refine vo_step (ok_lss rfl rfl rfl rfl (decide_eq_false (by omega))) rfl ?_; refine vo_nil ?_; refine N_seq ?_; refine V_seq ?_; refine V_false rfl ?_; refine V_exit ?_; refine X_then ?_; refine X_then ?_; refine X_here ?_; refine N_seq ?_; refine V_seq ?_; refine V_region (id := 8) ?_; refine vo_step2 (ok_moveO (.inl rfl) rfl rfl rfl rfl) ?_; refine vo_step2 (ok_moveO (.inr rfl) rfl rfl rfl rfl) ?_; refine vo_nil ?_; refine N_seq ?_
    exact V_retO rfl (fun _ _ h => h) Since.refl rfl
end Go.V.L6
/- The walks of sets (chapter 6): what is asked of a set. -/
namespace Go.V.L6
open Go.Proofs Go.RowKit Go.V Go.V.L2 Go.V.L3
theorem tw_take {α : Type} {p : α → Bool} : ∀ {m : List α} {n : Nat}, (m.take n).all p = true → (∀ x, m[n]? = some x → p x = false) → m.takeWhile p = m.take n
  | [], n, _, _ => by simp
  | y :: m, 0, _, h2 => by
    rw [List.takeWhile_cons, h2 y rfl]
    rfl
  | y :: m, n + 1, h1, h2 => by
    simp only [List.take_succ_cons, List.all_cons, Bool.and_eq_true] at h1 ⊢
    rw [List.takeWhile_cons, if_pos h1.1, tw_take h1.2 fun x hx => h2 x (by simpa using hx)]
theorem at_key {t : Tr U Unit} {k : Nat} {g : U} (h : (kS t.list)[k]? = some g) : UT.atO t (k : Int) = some (g, ()) := by
  unfold UT.atO
  rw [if_neg (by omega), Int.toNat_natCast, Tr.at_list]
  unfold kS at h
  rw [List.getElem?_map] at h
  cases hx : t.list[k]? with
  | none => rw [hx] at h; cases h
  | some y =>
    rw [hx] at h
    cases h
    rfl
abbrev tyIx : TypeId := 74
attribute [local irreducible] V N X VO Par StepOK Has Ret RetL RetO Src
set_option maxHeartbeats 1000000 in
theorem irun_retO {bf : Nat} {caps : List Value} {pr : U → Bool} {fv : Value} {p : Option Addr} {t : Tr U Unit} {x : U} {r : Nat} {M : List U} {w : World} {B : Heap} (hfn : L.fn bf = some ())
    (hpr : ∀ (y : U) (u : World) (H : Heap), H.Le (hp u) → B.Le H → Ret Try.prog bf ([uv y] ++ caps) u H (fun v _ => v = .bool (pr y)))
    (hrk : ∀ (u : World) (H : Heap), H.Le (hp u) → B.Le H → Ret Try.prog 107 [.agg #[fv, .pointer p], uv x] u H (fun v _ => v = .int .i64 r)) (hr : r ≤ t.size)
    (hM : ((kS t.list).drop r).takeWhile pr = M) (hs : t.size ≤ 100000) (hB : B.Le (hp w)) (ht : UT.TA t (.pointer p) B) :
    RetO Try.prog 76 [.agg #[fv, .pointer p], uv x, .func (.func bf) #[] caps.toArray] w B (SlE tyU 6 M.length (M.flatMap ucs)) := by
  have hkl : (kS t.list).length = t.size := by rw [← Tr.size_list]; simp
  refine V_enterO Try.func76 rfl Try.ntmps76 (Nat.le_of_ble_eq_true rfl) hB ?_
  refine V_seq ?_; refine V_region (id := 0) ?_; refine vo_step (ok_box rfl rfl rfl rfl) rfl ?_; refine vo_step (ok_box rfl rfl rfl rfl) rfl ?_; refine vo_step (ok_assign rfl rfl rfl) rfl ?_; refine vo_nil ?_; refine N_seq ?_; refine V_seq ?_; refine V_region (id := 1) ?_; refine vo_step (ok_fieldAt L rfl rfl rfl rfl) rfl ?_; refine vo_step (ok_loadA L (vs := [_, _]) (src_at rfl) rfl rfl rfl rfl ⟨_, rfl⟩) rfl ?_; refine vo_step (ok_loadA L (vs := [_, _, _, _, _, _]) (src_at rfl) rfl rfl rfl rfl ⟨_, rfl⟩) rfl ?_; refine vo_step (ok_callx L rfl rfl (blt_lt rfl) rfl rfl rfl (fun u H hH hle _ => hrk u H hH hle)) rfl ?_; refine vo_step (ok_assign rfl rfl rfl) rfl ?_; refine vo_nil ?_; refine N_seq ?_; refine V_seq ?_; refine V_region (id := 2) ?_; refine vo_step (ok_move rfl rfl rfl) rfl ?_; refine vo_step (ok_assign rfl rfl rfl) rfl ?_; refine vo_nil ?_; refine N_seq ?_; refine V_seq ?_; refine V_block ?_
  refine V_loop (fun k : Nat => [(2, .is (.func (.func bf) #[] caps.toArray)), (3, .sat (At [fv, .pointer p] tyIx 0)), (7, .is (.int .i64 r)), (8, .is (.int .i64 k))])
    (fun k => r ≤ k ∧ k ≤ t.size ∧ (((kS t.list).drop r).take (k - r)).all pr = true) (fun k => t.size - k) r ⟨Nat.le_refl _, hr, by rw [Nat.sub_self]; rfl⟩ ⟨rfl, rfl, rfl, rfl, trivial⟩ ?_
  rintro k ⟨h1, h2, h3⟩
  have hlst : (∀ y, ((kS t.list).drop r)[k - r]? = some y → pr y = false) → kS (UT.rangeL t (r : Int) (k : Int)) = M := fun h => by
    rw [rangeL_nat h2, List.drop_take, ← hM]
    exact (tw_take h3 h).symm
  by_cases hlt : k < t.size
  · obtain ⟨g, hg⟩ := get_some (show k < (kS t.list).length by omega)
    have hat := at_key hg
    have hd : ((kS t.list).drop r)[k - r]? = some g := by rw [List.getElem?_drop, show r + (k - r) = k by omega]; exact hg
    cases hb : pr g
    · have hpg := hpr g
      rw [hb] at hpg
      have hl2 := hlst fun y hy => by rw [hd] at hy; cases hy; exact hb
      refine V_seq ?_; refine V_seq ?_; refine V_region (id := 3) ?_; refine vo_step (ok_move rfl rfl rfl) rfl ?_; refine vo_step (ok_fieldAt L rfl rfl rfl rfl) rfl ?_; refine vo_step (ok_loadA L (vs := [_, _]) (src_at rfl) rfl rfl rfl rfl ⟨_, rfl⟩) rfl ?_; refine vo_step (ok_callx L rfl rfl (blt_lt rfl) rfl rfl rfl (fun u H hH hle _ => UT.len_m hH (⟨_, rfl, ht.le hle⟩) rfl)) rfl ?_; refine vo_step (ok_lss rfl rfl rfl rfl (decide_eq_true (by omega))) rfl ?_; refine vo_nil ?_; refine N_seq ?_; refine V_true rfl ?_; refine V_skip ?_; refine N_seq ?_; refine V_block ?_; refine V_seq ?_; refine V_region (id := 4) ?_; refine vo_step (ok_fieldAt L rfl rfl rfl rfl) rfl ?_; refine vo_step (ok_loadA L (vs := [_, _]) (src_at rfl) rfl rfl rfl rfl ⟨_, rfl⟩) rfl ?_; refine vo_step (ok_move rfl rfl rfl) rfl ?_; refine vo_step (ok_callx L rfl rfl (blt_lt rfl) rfl rfl rfl (fun u H hH hle _ => UT.at_m _ hH (⟨_, rfl, ht.le hle⟩) (by omega) hat)) rfl ?_; refine vo_step (ok_move rfl rfl rfl) rfl ?_; refine vo_step (ok_extract rfl rfl rfl rfl) rfl ?_; refine vo_step (ok_extract rfl rfl rfl rfl) rfl ?_; refine vo_step (ok_alloc L rfl rfl rfl rfl) rfl ?_; refine vo_step (ok_store L rfl rfl rfl rfl rfl rfl rfl rfl) rfl ?_; refine vo_step (ok_assign rfl rfl rfl) rfl ?_; refine vo_nil ?_; refine N_seq ?_; refine V_seq ?_; refine V_seq ?_; refine V_pub 9 rfl ?_; refine V_region (id := 5) ?_; refine vo_step (ok_move rfl rfl rfl) rfl ?_; refine vo_step (ok_fieldAt L rfl rfl rfl rfl) rfl ?_; refine vo_step (ok_loadA L (vs := [_, _, _, _, _, _]) (src_at rfl) rfl rfl rfl rfl ⟨_, rfl⟩) rfl ?_; refine vo_step (ok_callx L rfl rfl (blt_lt rfl) rfl rfl hfn (fun u H hH hle _ => hpg u H hH hle)) rfl ?_; refine vo_step (ok_not rfl rfl rfl rfl) rfl ?_; refine vo_nil ?_; refine N_seq ?_; refine V_true rfl ?_; refine V_exit ?_; refine X_then ?_; refine X_there rfl ?_; refine X_then ?_; refine X_here ?_; refine N_seq ?_; refine V_seq ?_; refine V_region (id := 7) ?_; refine vo_step (ok_loadA L (vs := [_, _]) (src_at rfl) rfl rfl rfl rfl ⟨_, rfl⟩) rfl ?_; refine vo_step (ok_move rfl rfl rfl) rfl ?_; refine vo_step (ok_move rfl rfl rfl) rfl ?_; refine vo_step (ok_callO L rfl rfl (blt_lt rfl) rfl rfl rfl (fun u H hH hle _ => ilist_retO hl2 hs hH (ht.le hle))) rfl ?_; refine vo_step2 (ok_moveO (.inr rfl) rfl rfl rfl rfl) ?_; refine vo_nil ?_; refine N_seq ?_
      exact V_retO rfl (fun _ _ h => h) Since.refl rfl
    · have hpg := hpr g
      rw [hb] at hpg
      refine V_seq ?_; refine V_seq ?_; refine V_region (id := 3) ?_; refine vo_step (ok_move rfl rfl rfl) rfl ?_; refine vo_step (ok_fieldAt L rfl rfl rfl rfl) rfl ?_; refine vo_step (ok_loadA L (vs := [_, _]) (src_at rfl) rfl rfl rfl rfl ⟨_, rfl⟩) rfl ?_; refine vo_step (ok_callx L rfl rfl (blt_lt rfl) rfl rfl rfl (fun u H hH hle _ => UT.len_m hH (⟨_, rfl, ht.le hle⟩) rfl)) rfl ?_; refine vo_step (ok_lss rfl rfl rfl rfl (decide_eq_true (by omega))) rfl ?_; refine vo_nil ?_; refine N_seq ?_; refine V_true rfl ?_; refine V_skip ?_; refine N_seq ?_; refine V_block ?_; refine V_seq ?_; refine V_region (id := 4) ?_; refine vo_step (ok_fieldAt L rfl rfl rfl rfl) rfl ?_; refine vo_step (ok_loadA L (vs := [_, _]) (src_at rfl) rfl rfl rfl rfl ⟨_, rfl⟩) rfl ?_; refine vo_step (ok_move rfl rfl rfl) rfl ?_; refine vo_step (ok_callx L rfl rfl (blt_lt rfl) rfl rfl rfl (fun u H hH hle _ => UT.at_m _ hH (⟨_, rfl, ht.le hle⟩) (by omega) hat)) rfl ?_; refine vo_step (ok_move rfl rfl rfl) rfl ?_; refine vo_step (ok_extract rfl rfl rfl rfl) rfl ?_; refine vo_step (ok_extract rfl rfl rfl rfl) rfl ?_; refine vo_step (ok_alloc L rfl rfl rfl rfl) rfl ?_; refine vo_step (ok_store L rfl rfl rfl rfl rfl rfl rfl rfl) rfl ?_; refine vo_step (ok_assign rfl rfl rfl) rfl ?_; refine vo_nil ?_; refine N_seq ?_; refine V_seq ?_; refine V_seq ?_; refine V_pub 9 rfl ?_; refine V_region (id := 5) ?_; refine vo_step (ok_move rfl rfl rfl) rfl ?_; refine vo_step (ok_fieldAt L rfl rfl rfl rfl) rfl ?_; refine vo_step (ok_loadA L (vs := [_, _, _, _, _, _]) (src_at rfl) rfl rfl rfl rfl ⟨_, rfl⟩) rfl ?_; refine vo_step (ok_callx L rfl rfl (blt_lt rfl) rfl rfl hfn (fun u H hH hle _ => hpg u H hH hle)) rfl ?_; refine vo_step (ok_not rfl rfl rfl rfl) rfl ?_; refine vo_nil ?_; refine N_seq ?_; refine V_false rfl ?_; refine V_skip ?_; refine N_seq ?_; refine V_region (id := 6) ?_; refine vo_step (ok_move rfl rfl rfl) rfl ?_; refine vo_step (ok_add rfl rfl rfl rfl (wrap_i64 (by omega) (by omega))) rfl ?_; refine vo_step (ok_assign rfl rfl rfl) rfl ?_; refine vo_nil ?_; refine N_block ?_
      refine N_round (x := k) (k + 1) ⟨by omega, hlt, ?_⟩ (by omega) ⟨rfl, rfl, rfl, rfl, trivial⟩
      rw [show k + 1 - r = (k - r) + 1 by omega, List.take_add_one, hd, List.all_append, h3]
      simp [hb]
  · obtain rfl : k = t.size := by omega
    have hl2 := hlst fun y hy => by rw [List.getElem?_drop, List.getElem?_eq_none (by omega)] at hy; cases hy
    refine V_seq ?_; refine V_seq ?_; refine V_region (id := 3) ?_; refine vo_step (ok_move rfl rfl rfl) rfl ?_; refine vo_step (ok_fieldAt L rfl rfl rfl rfl) rfl ?_; refine vo_step (ok_loadA L (vs := [_, _]) (src_at rfl) rfl rfl rfl rfl ⟨_, rfl⟩) rfl ?_; refine vo_step (ok_callx L rfl rfl (blt_lt rfl) rfl rfl rfl (fun u H hH hle _ => UT.len_m hH (⟨_, rfl, ht.le hle⟩) rfl)) rfl ?_; refine vo_step (ok_lss rfl rfl rfl rfl (decide_eq_false (by omega))) rfl ?_; refine vo_nil ?_; refine N_seq ?_; refine V_false rfl ?_; refine V_exit ?_; refine X_then ?_; refine X_then ?_; refine X_here ?_; refine N_seq ?_; refine V_seq ?_; refine V_region (id := 7) ?_; refine vo_step (ok_loadA L (vs := [_, _]) (src_at rfl) rfl rfl rfl rfl ⟨_, rfl⟩) rfl ?_; refine vo_step (ok_move rfl rfl rfl) rfl ?_; refine vo_step (ok_move rfl rfl rfl) rfl ?_; refine vo_step (ok_callO L rfl rfl (blt_lt rfl) rfl rfl rfl (fun u H hH hle _ => ilist_retO hl2 hs hH (ht.le hle))) rfl ?_; refine vo_step2 (ok_moveO (.inr rfl) rfl rfl rfl rfl) ?_; refine vo_nil ?_; refine N_seq ?_
    exact V_retO rfl (fun _ _ h => h) Since.refl rfl
/-- What is known of a set's two trees. -/
theorem SetV.both {l : List U} {v : Value} {B : Heap} (hv : SetV l v B) (hl : l.length ≤ 100000) : ∃ f p k q t u, v = .agg #[f, .pointer p, k, .pointer q] ∧ TS l t u ∧ UT.TA t (.pointer p) B ∧ UT.TA u (.pointer q) B ∧
    (∀ (x : U) (w : World) (H : Heap), H.Le (hp w) → B.Le H → Ret Try.prog 107 [.agg #[f, .pointer p], uv x] w H (fun r _ => r = .int .i64 (posS cmpT x l))) ∧
    (∀ (x : U) (w : World) (H : Heap), H.Le (hp w) → B.Le H → Ret Try.prog 107 [.agg #[k, .pointer q], uv x] w H (fun r _ => r = .int .i64 (posS cmpS x (sortS cmpS [] l)))) := by
  obtain ⟨p, q, t, u, hT, ht, hu, rfl | ⟨rfl, rfl, rfl, rfl⟩⟩ := hv
  · have hts := hT.size
    have hus := hT.zu
    exact ⟨_, _, _, _, t, u, rfl, hT, ht, hu, fun x w H hH hle => UT.rank_m cmpUT x hH (⟨_, rfl, ht.le hle⟩) (by omega) (hT.rank x), fun x w H hH hle => UT.rank_m cmpUS x hH (⟨_, rfl, hu.le hle⟩) (by omega) (hT.ranku x)⟩
  · exact ⟨_, _, _, _, t, u, rfl, hT, ht, hu, fun x w H hH hle => UT.rank_nil x hH, fun x w H hH hle => UT.rank_nil x hH⟩
theorem slistO {l : List U} (hl : l.length ≤ 100000) {v : Value} {w : World} {B : Heap} (hB : B.Le (hp w)) (hv : SetV l v B) : RetO Try.prog 40 [v] w B (SlE tyU 6 l.length (l.flatMap ucs)) := by
  obtain ⟨f, p, k, q, t, u, rfl, hT, ht, hu, _, _⟩ := hv.both hl
  have hts := hT.size
  have hr : kS (UT.rangeL t 0 (l.length : Int)) = l := by
    have := rangeL_nat (t := t) (r := 0) (k := l.length) (by omega)
    rw [show ((0 : Nat) : Int) = 0 from rfl] at this
    rw [this, hT.kt, List.drop_zero, List.take_length]
  refine V_enterO Try.func40 rfl Try.ntmps40 (Nat.le_of_ble_eq_true rfl) hB ?_
  refine V_seq ?_; refine V_region (id := 0) ?_; refine vo_step (ok_box rfl rfl rfl rfl) rfl ?_; refine vo_step (ok_assign rfl rfl rfl) rfl ?_; refine vo_nil ?_; refine N_seq ?_; refine V_seq ?_; refine V_regionD (id := 1) [(2, [7])] mixed (by kernel_rfl) ?_; refine par_step (ok_fieldAt L rfl rfl rfl rfl) rfl ?_; refine par_step (ok_loadA L (vs := [_, _]) (src_at rfl) rfl rfl rfl rfl ⟨_, rfl⟩) rfl ?_; refine par_step (ok_loadA L (vs := [_, _, _, _]) (src_at rfl) rfl rfl rfl rfl ⟨_, rfl⟩) rfl ?_; refine par_step (ok_callx L rfl rfl (blt_lt rfl) rfl rfl rfl (fun u H hH hle _ => slen_ret rfl hH (hv.le hle))) rfl ?_; refine par_step (ok_callO L rfl rfl (blt_lt rfl) rfl rfl rfl (fun u H hH hle _ => ilist_retO hr (by omega) hH (ht.le hle))) rfl ?_; refine par_step2 (ok_moveO (.inr rfl) rfl rfl rfl rfl) rfl rfl ?_; refine par_nil ?_; refine N_seq ?_
  exact V_retO rfl (fun _ _ h => h) Since.refl rfl
theorem sgoalB_ret {g : Str3} {b : Nat} {y : U} {r : Bool} (hr : decide (y.1 = g) = r) {w : World} {B : Heap} (hB : B.Le (hp w)) (hb : B b = some (.cells #[.string g.1.1, .string g.1.2, .string g.2] 49)) :
    Ret Try.prog 77 ([uv y] ++ [.pointer (some ⟨b, 0, none⟩)]) w B (fun v _ => v = .bool r) := by
  have he := eq3 hr
  refine V_enter Try.func77 rfl Try.ntmps77 (Nat.le_of_ble_eq_true rfl) hB ?_
  refine V_seq ?_; refine V_region (id := 0) ?_; refine vo_step (ok_box rfl rfl rfl rfl) rfl ?_; refine vo_step (ok_assign rfl rfl rfl) rfl ?_; refine vo_nil ?_; refine N_seq ?_; refine V_seq ?_; refine V_region (id := 1) ?_; refine vo_step (ok_fieldAt L rfl rfl rfl rfl) rfl ?_; refine vo_step (ok_loadA L (vs := [_, _, _]) (src_at rfl) rfl rfl rfl rfl ⟨_, rfl⟩) rfl ?_; refine vo_step (ok_loadA L (vs := [_, _, _]) (src_base rfl (by assumption)) rfl rfl rfl rfl ⟨_, rfl⟩) rfl ?_; refine vo_step (ok_aeql rfl rfl rfl rfl eq49 (by assumption) rfl) rfl ?_; refine vo_step (ok_assign rfl rfl rfl) rfl ?_; refine vo_nil ?_; refine N_seq ?_
  refine V_ret L (rs := [.tmp 3]) rfl (fun _ _ h => h) Since.refl fun u H hH hle => ?_
  rfl
theorem ssubB_ret {g : Str3} {b : Nat} {y : U} {r : Bool} (hr : decide (y.2 = g) = r) {w : World} {B : Heap} (hB : B.Le (hp w)) (hb : B b = some (.cells #[.string g.1.1, .string g.1.2, .string g.2] 34)) :
    Ret Try.prog 78 ([uv y] ++ [.pointer (some ⟨b, 0, none⟩)]) w B (fun v _ => v = .bool r) := by
  have he := eq3 hr
  refine V_enter Try.func78 rfl Try.ntmps78 (Nat.le_of_ble_eq_true rfl) hB ?_
  refine V_seq ?_; refine V_region (id := 0) ?_; refine vo_step (ok_box rfl rfl rfl rfl) rfl ?_; refine vo_step (ok_assign rfl rfl rfl) rfl ?_; refine vo_nil ?_; refine N_seq ?_; refine V_seq ?_; refine V_region (id := 1) ?_; refine vo_step (ok_fieldAt L rfl rfl rfl rfl) rfl ?_; refine vo_step (ok_loadA L (vs := [_, _, _]) (src_at rfl) rfl rfl rfl rfl ⟨_, rfl⟩) rfl ?_; refine vo_step (ok_loadA L (vs := [_, _, _]) (src_base rfl (by assumption)) rfl rfl rfl rfl ⟨_, rfl⟩) rfl ?_; refine vo_step (ok_aeql rfl rfl rfl rfl eq34 (by assumption) rfl) rfl ?_; refine vo_step (ok_assign rfl rfl rfl) rfl ?_; refine vo_nil ?_; refine N_seq ?_
  refine V_ret L (rs := [.tmp 3]) rfl (fun _ _ h => h) Since.refl fun u H hH hle => ?_
  rfl
abbrev g3v (g : Str3) : Value := .agg #[.string g.1.1, .string g.1.2, .string g.2]
theorem sgoalO {l M : List U} {g : Str3} (hM : goalL l g = M) (hl : l.length ≤ 100000) {v : Value} {w : World} {B : Heap} (hB : B.Le (hp w)) (hv : SetV l v B) : RetO Try.prog 36 [v, g3v g] w B (SlE tyU 6 M.length (M.flatMap ucs)) := by
  obtain ⟨f, p, k, q, t, u, rfl, hT, ht, hu, hr1, _⟩ := hv.both hl
  have hts := hT.size
  have hrun := run_goal hT.st g
  rw [hM] at hrun
  have hkt := hT.kt
  refine V_enterO Try.func36 rfl Try.ntmps36 (Nat.le_of_ble_eq_true rfl) hB ?_
  refine V_seq ?_; refine V_region (id := 0) ?_; refine vo_step (ok_box rfl rfl rfl rfl) rfl ?_; refine vo_step (ok_box rfl rfl rfl rfl) rfl ?_; refine vo_step (ok_assign rfl rfl rfl) rfl ?_; refine vo_nil ?_; refine N_seq ?_; refine V_seq ?_
  refine V_opn 3 rfl ?_
  rintro _ H3 hs3 ⟨b3, rfl, hb3⟩
  refine V_region (id := 1) ?_; refine vo_step (ok_fieldAt L rfl rfl rfl rfl) rfl ?_; refine vo_step (ok_loadA L (vs := [_, _]) (src_at rfl) rfl rfl rfl rfl ⟨_, rfl⟩) rfl ?_; refine vo_step (ok_loadA L (vs := [_, _, _]) (src_base rfl (by assumption)) rfl rfl rfl rfl ⟨_, rfl⟩) rfl ?_; refine vo_step (ok_build (cs := [_, _, _, _, _, _]) rfl rfl pl51 rfl rfl) rfl ?_; refine vo_step (ok_makeFunc rfl rfl rfl rfl) rfl ?_; refine vo_step (ok_callO L rfl rfl (blt_lt rfl) rfl rfl rfl (fun u H hH hle _ => irun_retO (M := M) (caps := [.pointer (some ⟨b3, 0, none⟩)]) (pr := fun z => decide (z.1 = g)) (x := (g, n3)) rfl (fun y u' H' hH' hle' => sgoalB_ret rfl hH' (hle' _ _ (hle _ _ hb3))) (fun u' H' hH' hle' => hr1 _ u' H' hH' (hs3.le.trans (hle.trans hle'))) (by rw [hts]; exact posS_le _ _) (by rw [hkt]; exact hrun) (by omega) hH (ht.le (hs3.le.trans hle)))) rfl ?_; refine vo_step2 (ok_moveO (.inr rfl) rfl rfl rfl rfl) ?_; refine vo_nil ?_; refine N_seq ?_
  exact V_retO rfl (fun _ _ h => h) hs3 rfl
theorem ssubO {l M : List U} {g : Str3} (hM : subL l g = M) (hl : l.length ≤ 100000) {v : Value} {w : World} {B : Heap} (hB : B.Le (hp w)) (hv : SetV l v B) : RetO Try.prog 37 [v, g3v g] w B (SlE tyU 6 M.length (M.flatMap ucs)) := by
  obtain ⟨f, p, k, q, t, u, rfl, hT, ht, hu, _, hr2⟩ := hv.both hl
  have hus := hT.zu
  have hrun := run_sub hT.st g
  rw [hM] at hrun
  have hkt := hT.bySub
  have hln : (sortS cmpS [] l).length = u.size := by rw [← hkt, ← Tr.size_list]; simp
  refine V_enterO Try.func37 rfl Try.ntmps37 (Nat.le_of_ble_eq_true rfl) hB ?_
  refine V_seq ?_; refine V_region (id := 0) ?_; refine vo_step (ok_box rfl rfl rfl rfl) rfl ?_; refine vo_step (ok_box rfl rfl rfl rfl) rfl ?_; refine vo_step (ok_assign rfl rfl rfl) rfl ?_; refine vo_nil ?_; refine N_seq ?_; refine V_seq ?_
  refine V_opn 3 rfl ?_
  rintro _ H3 hs3 ⟨b3, rfl, hb3⟩
  refine V_region (id := 1) ?_; refine vo_step (ok_fieldAt L rfl rfl rfl rfl) rfl ?_; refine vo_step (ok_loadA L (vs := [_, _]) (src_at rfl) rfl rfl rfl rfl ⟨_, rfl⟩) rfl ?_; refine vo_step (ok_loadA L (vs := [_, _, _]) (src_base rfl (by assumption)) rfl rfl rfl rfl ⟨_, rfl⟩) rfl ?_; refine vo_step (ok_build (cs := [_, _, _, _, _, _]) rfl rfl pl51 rfl rfl) rfl ?_; refine vo_step (ok_makeFunc rfl rfl rfl rfl) rfl ?_; refine vo_step (ok_callO L rfl rfl (blt_lt rfl) rfl rfl rfl (fun u H hH hle _ => irun_retO (M := M) (caps := [.pointer (some ⟨b3, 0, none⟩)]) (pr := fun z => decide (z.2 = g)) (x := (n3, g)) rfl (fun y u' H' hH' hle' => ssubB_ret rfl hH' (hle' _ _ (hle _ _ hb3))) (fun u' H' hH' hle' => hr2 _ u' H' hH' (hs3.le.trans (hle.trans hle'))) (by rw [← hln]; exact posS_le _ _) (by rw [hkt]; exact hrun) (by omega) hH (hu.le (hs3.le.trans hle)))) rfl ?_; refine vo_step2 (ok_moveO (.inr rfl) rfl rfl rfl rfl) ?_; refine vo_nil ?_; refine N_seq ?_
  exact V_retO rfl (fun _ _ h => h) hs3 rfl
end Go.V.L6
/- The kit: what is owned is clipped: no room is left behind it. -/
namespace Go.V
open Go.RowKit
/-- An owned slice without spare capacity; its block may be longer. -/
def SlC (e : TypeId) (s n : Nat) (xs : List Value) : Res where
  P x _ u C := xs.length = n * s ∧ ((n = 0 ∧ x = .slice none 0 0 ∧ ∀ k, ¬ C k) ∨ ∃ b rest, x = .slice (some ⟨b, 0, none⟩) n n ∧ u.heap[b]? = some (.cells (xs ++ rest).toArray e) ∧ n ≤ maxLen ∧ ∀ k, C k ↔ k = b)
  st := fun ⟨hl, h⟩ _ _ _ hk => ⟨hl, by
    rcases h with h | ⟨b, rest, h1, h2, h3, h4⟩
    · exact .inl h
    · exact .inr ⟨b, rest, h1, (hk b ((h4 b).2 rfl)).trans h2, h3, h4⟩⟩
theorem SlE.toC {e : TypeId} {s n : Nat} {xs : List Value} {x : Value} {H : Heap} {u : World} {C : Nat → Prop} (h : (SlE e s n xs).P x H u C) : (SlC e s n xs).P x H u C :=
  ⟨h.1, h.2.imp id fun ⟨b, h1, h2, h3, h4⟩ => ⟨b, [], h1, by rw [List.append_nil]; exact h2, h3, h4⟩⟩
theorem lend_SlC {e : TypeId} {s m : Nat} {xs : List Value} : Lend (SlC e s m xs) (SlV e s xs m true) := fun x H u C ⟨hl, h⟩ => ⟨hl, by
  rcases h with ⟨h0, hx, _⟩ | ⟨b, rest, hx, hb, _, hC⟩
  · exact .inl ⟨h0, by rw [hx]⟩
  · exact .inr ⟨b, 0, m, _, _, _, hx, (joinH_in ((hC b).2 rfl)).trans hb, by simp, Nat.le_refl _, fun _ => rfl⟩⟩
theorem SlR.shape2 {e : TypeId} {s m : Nat} {xs : List Value} : ∀ v H u C, (SlR e s m xs).P v H u C → ∃ p c, v = .slice p m c ∧ m ≤ c ∧ (p = none ∧ c = 0 ∨ ∃ b, p = some ⟨b, 0, none⟩) := fun v _ _ _ ⟨_, h⟩ => by
  rcases h with ⟨h0, h, _⟩ | ⟨b, cap, rest, h, _, h3, _⟩
  · subst h0; exact ⟨none, 0, h, Nat.le_refl _, .inl ⟨rfl, rfl⟩⟩
  · exact ⟨_, cap, h, h3, .inr ⟨b, rfl⟩⟩
section
variable {P : Program} {F : Fr} {B : Heap} {O : Boxes} {n : Nat} {ops : Array Oper} {κ : Kap} {d : Nat} {ty : TypeId} {pos : String} {aft : Array Edge} {g : Option (Nat × Bool)} {a : Act} {u : World} {Q : Exit → Act → World → Prop}
/-- 's[:len(s):len(s)]' of a known slice. -/
theorem ok_clipI (L : Tabs P) {x y z : Operand} {tt e : TypeId} {s m c : Nat} {p : Option Addr} {kh km : IntKind} {ag : Bool} (hp : p = none ∧ c = 0 ∨ ∃ b, p = some ⟨b, 0, none⟩) (hmc : m ≤ c) (hn : Nat.blt d n = true) (hg : gK ops κ ⟨some d, .slice tt x none (some y) (some z), ty, pos, aft, g⟩ = some true)
    (hx : evK κ x = some (.slice p m c)) (ht : L.sl tt = some e) (hl : L.ld e = some (ag, s)) (hy : evK κ y = some (.int kh m)) (hz : evK κ z = some (.int km m)) :
    StepOK P F B n ops O κ ⟨some d, .slice tt x none (some y) (some z), ty, pos, aft, g⟩ d (.is (.slice p m m)) :=
  ok_pure rfl (blt_lt hn) hg trivial fun a u H fp en => ⟨_, by
    have hu := Tabs.sl_spec ht
    have h1 := en.is_ x _ (by simp [Op.operands]) hx
    have h2 := en.is_ y _ (by simp [Op.operands]) hy
    have h3 := en.is_ z _ (by simp [Op.operands]) hz
    have hrun : (Instr.sliceBounds true m c none (some (a.eval y)) (some (a.eval z))).run P u = .ok (0, m, m) u := by
      simp [h2, h3, Instr.sliceBounds, run_bound m km c _ hmc, run_bound m kh m _ (Nat.le_refl _)]
    rcases hp with ⟨rfl, rfl⟩ | ⟨b, rfl⟩
    · obtain rfl : m = 0 := by omega
      simp only [execOp, h1, Instr.sliceAt, Instr.slice, Sem.run_bind, run_underlying hu, Result.andThen_ok, Option.map_none, Option.map_some, hrun, run_sizeOf (Tabs.ld_spec hl)]
      rfl
    · simp only [execOp, h1, Instr.sliceAt, Instr.slice, Sem.run_bind, run_underlying hu, Result.andThen_ok, Option.map_none, Option.map_some, hrun, run_sizeOf (Tabs.ld_spec hl), Sem.run_pure]
      congr 3
      split <;> simp [Addr.add], rfl⟩
theorem V_attachC (t g : Nat) {e : TypeId} {s m c : Nat} {p : Option Addr} {xs : List Value} {cc : Code} (hk : κ g = some (.own (AtV (.slice p m c) (SlR e s m xs)))) (ht : κ t = some (.is (.slice p m m))) (h : V P F B n O (upd (upd κ g nilK) t (.own (SlC e s m xs))) cc Q) : V P F B n O κ cc Q := fun a u hh => by
  obtain ⟨H, fp, hh⟩ := hh
  obtain ⟨hown, hM⟩ := hh.slot g _ hk
  have hx : a.eval (.tmp t) = .slice p m m := hh.slot t _ ht
  have hP : (SlC e s m xs).P (a.eval (.tmp t)) H u (fp g) := by
    rw [hx]
    obtain ⟨hl, h⟩ := hown
    refine ⟨hl, ?_⟩
    rcases h with ⟨h0, h1, h2⟩ | ⟨b, cap, rest, h1, h2, h3, h4, h5, h6⟩
    · cases h1; exact .inl ⟨h0, rfl, h2⟩
    · cases h1; exact .inr ⟨b, rest, rfl, h2, Nat.le_trans h3 h4, h6⟩
  exact h a u ⟨H, _, hh.usePut (d := t) (a' := a) (r' := SlC e s m xs) (C := fp g) hk ⟨Keep.refl _ _, hh.sub, Heap.Le.refl _, fun _ _ _ => rfl⟩ rfl rfl (fun _ _ => rfl) hP fun k hk => ⟨.inl hk, (hM k hk).1, (hM k hk).2.1⟩⟩
/-- A slice of the call's own without room behind it is a clipped one. -/
theorem V_toC (t : Nat) {e : TypeId} {s m : Nat} {xs : List Value} {c : Code} (hk : κ t = some (.own (SlE e s m xs))) (h : V P F B n O (upd κ t (.own (SlC e s m xs))) c Q) : V P F B n O κ c Q := fun a u hh => by
  obtain ⟨H, fp, hh⟩ := hh
  exact h a u ⟨H, fp, hh.turnR hk (SlE.toC (hh.slot t _ hk).1)⟩
end
end Go.V
/- The walks of sets (chapter 6): what a filter takes of a set. -/
namespace Go.V.L6
open Go.Proofs Go.RowKit Go.V Go.V.L2 Go.V.L3
theorem prefN_noSub (f : FT) : prefN (noSub f) = min (prefN f) 3 := by
  unfold noSub
  rcases prefN_cases f with ⟨h, h1⟩ | ⟨h, h1, h2⟩ | ⟨h, h1, h2, h3⟩ | ⟨h, h1, h2, h3, h4⟩ | ⟨h, h1, h2, h3, h4⟩ <;> rw [h] <;> simp [prefN, *]
theorem lea_k {f : FT} {k : Nat} (h : prefN (noSub f) = k) (hk : k ≤ 3) : leaF (noSub f) = (((if 1 ≤ k then f.1.1.1 else ⟨#[]⟩, if 2 ≤ k then f.1.1.2 else ⟨#[]⟩), if 3 ≤ k then f.1.2 else ⟨#[]⟩), n3) := by
  unfold leaF
  rw [h, if_neg (show ¬ 4 ≤ k by omega)]
  rfl
theorem first_k {f : FT} {k : Nat} (h : prefN (noSub f) = k) (hk : k ≤ 3) : firstF (noSub f) = (((if 1 ≤ k then f.1.1.1 else ⟨#[]⟩, if 2 ≤ k then f.1.1.2 else ⟨#[]⟩), if 3 ≤ k then f.1.2 else ⟨#[]⟩), n3, false) := by
  unfold firstF
  rw [h, if_neg (show ¬ 4 ≤ k by omega), decide_eq_false (show ¬ 4 ≤ k by omega)]
  rfl
attribute [local irreducible] V N X VO Par StepOK Has Ret RetL RetO RetT Src
theorem clipTO {l : List U} {x : Value} {w : World} {B : Heap} {C : Nat → Prop} (hB : B.Le (hp w)) (hx : (SlR tyU 6 l.length (l.flatMap ucs)).P x B w C) (hC : ∀ k, C k → k < w.heap.size ∧ B k = none) :
    RetT Try.prog 46 [x] w B C (SlC tyU 6 l.length (l.flatMap ucs)) := by
  unfold RetT
  refine V_enterA 0 (x := x) (SlR tyU 6 l.length (l.flatMap ucs)) rfl Try.func46 rfl Try.ntmps46 (Nat.le_of_ble_eq_true rfl) hB hx hC ?_
  refine V_detach 0 900 _ rfl SlR.shape2 fun y hy => ?_
  obtain ⟨p, c, rfl, hmc, hp⟩ := hy
  refine V_seq ?_; refine V_region (id := 0) ?_; refine vo_step (ok_assign rfl rfl rfl) rfl ?_; refine vo_nil ?_; refine N_seq ?_; refine V_seq ?_; refine V_region (id := 1) ?_; refine vo_step (ok_move rfl rfl rfl) rfl ?_; refine vo_step (ok_move rfl rfl rfl) rfl ?_; refine vo_step (ok_lenL L rfl rfl rfl rfl) rfl ?_; refine vo_step (ok_move rfl rfl rfl) rfl ?_; refine vo_step (ok_lenL L rfl rfl rfl rfl) rfl ?_; refine vo_step (ok_clipI L hp hmc rfl rfl rfl rfl rfl rfl rfl) rfl ?_; refine vo_step (ok_assign rfl rfl rfl) rfl ?_; refine vo_nil ?_; refine N_seq ?_
  refine V_attachC 2 900 rfl rfl ?_
  exact V_retT rfl (fun _ _ h => h) Since.refl rfl
theorem smatchB_ret {f : FT} {b : Nat} {y : U} {r : Bool} (hr : takesB f y = r) {w : World} {B : Heap} (hB : B.Le (hp w)) (hb : B b = some (.cells #[.string f.1.1.1, .string f.1.1.2, .string f.1.2, .string f.2.1.1.1, .string f.2.1.1.2, .string f.2.1.2, .bool f.2.2] 36)) :
    Ret Try.prog 83 ([uv y] ++ [.pointer (some ⟨b, 0, none⟩)]) w B (fun v _ => v = .bool r) := by
  refine V_enter Try.func83 rfl Try.ntmps83 (Nat.le_of_ble_eq_true rfl) hB ?_
  refine V_seq ?_; refine V_region (id := 0) ?_; refine vo_step (ok_box rfl rfl rfl rfl) rfl ?_; refine vo_step (ok_assign rfl rfl rfl) rfl ?_; refine vo_nil ?_; refine N_seq ?_; refine V_seq ?_; refine V_region (id := 1) ?_; refine vo_step (ok_loadA L (vs := [_, _, _, _, _, _, _]) (src_base rfl (by assumption)) rfl rfl rfl rfl ⟨_, rfl⟩) rfl ?_; refine vo_step (ok_loadA L (vs := [_, _, _, _, _, _]) (src_at rfl) rfl rfl rfl rfl ⟨_, rfl⟩) rfl ?_; refine vo_step (ok_callx L rfl rfl (blt_lt rfl) rfl rfl rfl (fun u H hH _ _ => takes_ret hr hH)) rfl ?_; refine vo_step (ok_assign rfl rfl rfl) rfl ?_; refine vo_nil ?_; refine N_seq ?_
  refine V_ret L (rs := [.tmp 3]) rfl (fun _ _ h => h) Since.refl fun u H hH hle => ?_
  rfl
def matE (l : List U) (f : FT) : List U := if fE f = 0 then matL l f else []
set_option maxHeartbeats 4000000 in
set_option maxRecDepth 10000 in
theorem smatchO {l Y : List U} {f : FT} (hM : matE l f = Y) (hl : l.length ≤ 100000) (hz : FM f) {v : Value} {w : World} {B : Heap} (hB : B.Le (hp w)) (hv : SetV l v B) : RetO Try.prog 41 [v, fv f] w B (SlC tyU 6 Y.length (Y.flatMap ucs)) := by
  obtain ⟨fn, p, k, q, t, u, rfl, hT, ht, hu, hr1, _⟩ := hv.both hl
  have hts := hT.size
  have hkt := hT.kt
  unfold matE at hM
  refine V_enterO Try.func41 rfl Try.ntmps41 (Nat.le_of_ble_eq_true rfl) hB ?_
  by_cases hE : fE f = 0
  · rw [if_pos hE] at hM
    have hrun := run_match hT.st f
    rw [hM] at hrun
    have hpn := prefN_noSub f
    obtain ⟨n, hn⟩ : ∃ n, prefN f = n := ⟨_, rfl⟩
    rw [hn] at hpn
    refine V_seq ?_; refine V_region (id := 0) ?_; refine vo_step (ok_box rfl rfl rfl rfl) rfl ?_; refine vo_step (ok_box rfl rfl rfl rfl) rfl ?_; refine vo_step (ok_assign rfl rfl rfl) rfl ?_; refine vo_nil ?_; refine N_seq ?_; refine V_seq ?_; refine V_seq ?_; refine V_region (id := 1) ?_; refine vo_step (ok_loadA L (vs := [_, _, _, _, _, _, _]) (src_at rfl) rfl rfl rfl rfl ⟨_, rfl⟩) rfl ?_; refine vo_step (ok_callx L rfl rfl (blt_lt rfl) rfl rfl rfl (fun u H hH _ _ => fcheck_ret hz hE hH)) rfl ?_; refine vo_step (ok_neq rfl rfl rfl rfl (decide_eq_false (by omega))) rfl ?_; refine vo_nil ?_; refine N_seq ?_; refine V_false rfl ?_; refine V_skip ?_; refine N_seq ?_; refine V_seq ?_; refine V_region (id := 3) ?_; refine vo_step (ok_build (cs := [_, _, _, _, _, _]) rfl rfl pl51 rfl rfl) rfl ?_; refine vo_step (ok_alloc L rfl rfl rfl rfl) rfl ?_; refine vo_step (ok_store L rfl rfl rfl rfl rfl rfl rfl rfl) rfl ?_; refine vo_nil ?_; refine N_seq ?_; refine V_seq ?_; refine V_region (id := 4) ?_; refine vo_step (ok_loadA L (vs := [_, _, _, _, _, _, _]) (src_at rfl) rfl rfl rfl rfl ⟨_, rfl⟩) rfl ?_; refine vo_step (ok_callx L rfl rfl (blt_lt rfl) rfl rfl rfl (fun u H hH _ _ => prefix_ret hn hH)) rfl ?_; refine vo_step (ok_assign rfl rfl rfl) rfl ?_; refine vo_nil ?_; refine N_seq ?_; refine V_seq ?_; refine V_seq ?_
    refine V_box 5 rfl fun b5 hb5 => ?_
    by_cases n0 : n = 0
    · subst n0
      have hk3 : prefN (noSub f) = 0 := by omega
      have hle := lea_k hk3 (by decide)
      have hfi := first_k hk3 (by decide)
      simp only [Nat.reduceLeDiff, if_true, if_false] at hle hfi
      rw [hle, hfi] at hrun
      generalize hR : (l.drop (posS cmpT (((⟨#[]⟩, ⟨#[]⟩), ⟨#[]⟩), n3) l)).takeWhile (fun z => takesB (((⟨#[]⟩, ⟨#[]⟩), ⟨#[]⟩), n3, false) z) = R at hrun
      have hRl : R.length ≤ 100000 := by
        rw [← hR]
        exact Nat.le_trans (tw_le _ _) (by rw [List.length_drop]; omega)
      refine V_region (id := 5) ?_; refine vo_step (ok_move rfl rfl rfl) rfl ?_; refine vo_step (ok_gtr rfl rfl rfl rfl (decide_eq_false (by omega))) rfl ?_; refine vo_nil ?_; refine N_seq ?_; refine V_false rfl ?_; refine V_skip ?_; refine N_seq ?_; refine V_seq ?_; refine V_seq ?_; refine V_region (id := 7) ?_; refine vo_step (ok_move rfl rfl rfl) rfl ?_; refine vo_step (ok_gtr rfl rfl rfl rfl (decide_eq_false (by omega))) rfl ?_; refine vo_nil ?_; refine N_seq ?_; refine V_false rfl ?_; refine V_skip ?_; refine N_seq ?_; refine V_seq ?_; refine V_seq ?_; refine V_region (id := 9) ?_; refine vo_step (ok_move rfl rfl rfl) rfl ?_; refine vo_step (ok_gtr rfl rfl rfl rfl (decide_eq_false (by omega))) rfl ?_; refine vo_nil ?_; refine N_seq ?_; refine V_false rfl ?_; refine V_skip ?_; refine N_seq ?_; refine V_seq ?_; refine V_region (id := 11) ?_; refine vo_step (ok_fieldP L rfl rfl rfl rfl) rfl ?_; refine vo_step (ok_fieldP L rfl rfl rfl rfl) rfl ?_; refine vo_step (ok_fieldP L rfl rfl rfl rfl) rfl ?_; refine vo_step (ok_load1 L (src_box rfl (List.Mem.head _)) rfl rfl rfl rfl) rfl ?_; refine vo_step (ok_fieldP L rfl rfl rfl rfl) rfl ?_; refine vo_step (ok_fieldP L rfl rfl rfl rfl) rfl ?_; refine vo_step (ok_fieldP L rfl rfl rfl rfl) rfl ?_; refine vo_step (ok_load1 L (src_box rfl (List.Mem.head _)) rfl rfl rfl rfl) rfl ?_; refine vo_step (ok_fieldP L rfl rfl rfl rfl) rfl ?_; refine vo_step (ok_fieldP L rfl rfl rfl rfl) rfl ?_; refine vo_step (ok_load1 L (src_box rfl (List.Mem.head _)) rfl rfl rfl rfl) rfl ?_; refine vo_step (ok_build (cs := [_, _, _, _, _, _, _]) rfl rfl pl36 rfl rfl) rfl ?_; refine vo_step (ok_alloc L rfl rfl rfl rfl) rfl ?_; refine vo_step (ok_store L rfl rfl rfl rfl rfl rfl rfl rfl) rfl ?_; refine vo_nil ?_; refine N_seq ?_; refine V_seq ?_; refine V_region (id := 12) ?_; refine vo_step (ok_assign rfl rfl rfl) rfl ?_; refine vo_nil ?_; refine N_seq ?_; refine V_seq ?_; refine V_seq ?_
      refine V_pub 7 rfl ?_
      refine V_opn 7 rfl ?_
      rintro _ H7 hs7 ⟨b7, rfl, hb7⟩
      refine V_region (id := 13) ?_; refine vo_step (ok_fieldAt L rfl rfl rfl rfl) rfl ?_; refine vo_step (ok_loadA L (vs := [_, _]) (src_at rfl) rfl rfl rfl rfl ⟨_, rfl⟩) rfl ?_; refine vo_step (ok_loadA L (vs := [_, _, _, _, _, _]) (src_box rfl (List.Mem.head _)) rfl rfl rfl rfl ⟨_, rfl⟩) rfl ?_; refine vo_step (ok_makeFunc rfl rfl rfl rfl) rfl ?_; refine vo_step (ok_callO L rfl rfl (blt_lt rfl) rfl rfl rfl (fun u H hH hle _ => irun_retO (M := R) (caps := [.pointer (some ⟨b7, 0, none⟩)]) (pr := fun z => takesB (((⟨#[]⟩, ⟨#[]⟩), ⟨#[]⟩), n3, false) z) (x := (((⟨#[]⟩, ⟨#[]⟩), ⟨#[]⟩), n3)) rfl (fun y u' H' hH' hle' => smatchB_ret (f := (((⟨#[]⟩, ⟨#[]⟩), ⟨#[]⟩), n3, false)) rfl hH' (hle' _ _ (hle _ _ hb7))) (fun u' H' hH' hle' => hr1 _ u' H' hH' (hs7.le.trans (hle.trans hle'))) (by rw [hts]; exact posS_le _ _) (by rw [hkt]; exact hR) (by omega) hH (ht.le (hs7.le.trans hle)))) rfl ?_; refine vo_step (ok_lenE L rfl rfl rfl rfl) rfl ?_; refine vo_step (ok_move rfl rfl rfl) rfl ?_; refine vo_nil ?_; refine N_seq ?_; refine V_block ?_
      refine V_pubE 53 rfl ?_
      refine V_nilR 8 tyU 6 rfl ?_
      refine V_imp 53 (US R true) rfl SlV.mono (fun v H h => h) ?_
      refine V_loop (fun y : Nat × List U => [(3, .sat (At (fcs f) tyF 0)), (8, .own (SlR tyU 6 y.2.length (y.2.flatMap ucs))), (53, .sat (US R true)), (54, .is (.int .i64 R.length)), (55, .is (.int .i64 y.1))])
        (fun y => y.1 ≤ R.length ∧ y.2 = (R.take y.1).filter (takesB f)) (fun y => R.length - y.1) (0, []) ⟨Nat.zero_le _, rfl⟩ ⟨rfl, rfl, rfl, rfl, rfl, trivial⟩ ?_
      rintro ⟨k, out⟩ ⟨hk, hout⟩
      dsimp only at hk hout ⊢
      have hol : out.length ≤ k := by rw [hout]; exact Nat.le_trans (List.length_filter_le ..) (by rw [List.length_take]; omega)
      by_cases hlt : k < R.length
      · obtain ⟨t1, ht1⟩ := get_some hlt
        have hc := us_at ht1
        have htk : R.take (k + 1) = R.take k ++ [t1] := take_s ht1
        cases htt : takesB f t1
        · have ho : out = (R.take (k + 1)).filter (takesB f) := by rw [htk, List.filter_append, ← hout]; simp [htt]
          refine V_seq ?_; refine V_region (id := 14) ?_; refine vo_step (ok_lss rfl rfl rfl rfl (decide_eq_true (by omega))) rfl ?_; refine vo_nil ?_; refine N_seq ?_; refine V_seq ?_; refine V_true rfl ?_; refine V_skip ?_; refine N_seq ?_; refine V_seq ?_; refine V_block ?_; refine V_seq ?_; refine V_region (id := 15) ?_; refine vo_step (ok_indexV L _ rfl rfl rfl rfl rfl rfl rfl (by first | omega | decide) (by assumption)) rfl ?_; refine vo_step (ok_loadPA L (vs := [_, _, _, _, _, _]) rfl rfl rfl rfl rfl ⟨_, rfl⟩) rfl ?_; refine vo_step (ok_alloc L rfl rfl rfl rfl) rfl ?_; refine vo_step (ok_store L rfl rfl rfl rfl rfl rfl rfl rfl) rfl ?_; refine vo_nil ?_; refine N_seq ?_; refine V_seq ?_; refine V_region (id := 16) ?_; refine vo_step (ok_loadA L (vs := [_, _, _, _, _, _, _]) (src_at rfl) rfl rfl rfl rfl ⟨_, rfl⟩) rfl ?_; refine vo_step (ok_loadA L (vs := [_, _, _, _, _, _]) (src_own rfl) rfl rfl rfl rfl ⟨_, rfl⟩) rfl ?_; refine vo_step (ok_callx L rfl rfl (blt_lt rfl) rfl rfl rfl (fun u H hH _ _ => takes_ret htt hH)) rfl ?_; refine vo_nil ?_; refine N_seq ?_; refine V_false rfl ?_; refine V_skip ?_; refine N_block ?_; refine N_seq ?_; refine V_region (id := 18) ?_; refine vo_step (ok_add rfl rfl rfl rfl (wrap_i64 (by omega) (by omega))) rfl ?_; refine vo_step (ok_move rfl rfl rfl) rfl ?_; refine vo_nil ?_
          exact N_roundS (x := (k, out)) (k + 1, out) Since.refl ⟨hlt, ho⟩ (by dsimp only; omega) ⟨rfl, rfl, rfl, rfl, rfl, trivial⟩
        · have ho : out ++ [t1] = (R.take (k + 1)).filter (takesB f) := by rw [htk, List.filter_append, ← hout]; simp [htt]
          refine V_seq ?_; refine V_region (id := 14) ?_; refine vo_step (ok_lss rfl rfl rfl rfl (decide_eq_true (by omega))) rfl ?_; refine vo_nil ?_; refine N_seq ?_; refine V_seq ?_; refine V_true rfl ?_; refine V_skip ?_; refine N_seq ?_; refine V_seq ?_; refine V_block ?_; refine V_seq ?_; refine V_region (id := 15) ?_; refine vo_step (ok_indexV L _ rfl rfl rfl rfl rfl rfl rfl (by first | omega | decide) (by assumption)) rfl ?_; refine vo_step (ok_loadPA L (vs := [_, _, _, _, _, _]) rfl rfl rfl rfl rfl ⟨_, rfl⟩) rfl ?_; refine vo_step (ok_alloc L rfl rfl rfl rfl) rfl ?_; refine vo_step (ok_store L rfl rfl rfl rfl rfl rfl rfl rfl) rfl ?_; refine vo_nil ?_; refine N_seq ?_; refine V_seq ?_; refine V_region (id := 16) ?_; refine vo_step (ok_loadA L (vs := [_, _, _, _, _, _, _]) (src_at rfl) rfl rfl rfl rfl ⟨_, rfl⟩) rfl ?_; refine vo_step (ok_loadA L (vs := [_, _, _, _, _, _]) (src_own rfl) rfl rfl rfl rfl ⟨_, rfl⟩) rfl ?_; refine vo_step (ok_callx L rfl rfl (blt_lt rfl) rfl rfl rfl (fun u H hH _ _ => takes_ret htt hH)) rfl ?_; refine vo_nil ?_; refine N_seq ?_; refine V_true rfl ?_; refine V_region (id := 17) ?_; refine vo_step2 (ok_moveO (.inl rfl) rfl rfl rfl rfl) ?_; refine vo_step (ok_loadA L (vs := [_, _, _, _, _, _]) (src_own rfl) rfl rfl rfl rfl ⟨_, rfl⟩) rfl ?_; refine vo_step (ok_buildSlice L rfl rfl rfl rfl rfl rfl rfl rfl rfl) rfl ?_; refine vo_step2 (ok_append L rfl rfl rfl (apd_B rfl) rfl el51 rfl rfl (by omega) (by omega)) ?_; refine vo_step2 (ok_moveO (.inr rfl) rfl rfl rfl rfl) ?_; refine vo_nil ?_; refine N_block ?_; refine N_seq ?_; refine V_region (id := 18) ?_; refine vo_step (ok_add rfl rfl rfl rfl (wrap_i64 (by omega) (by omega))) rfl ?_; refine vo_step (ok_move rfl rfl rfl) rfl ?_; refine vo_nil ?_
          exact N_roundS (x := (k, out)) (k + 1, out ++ [t1]) Since.refl ⟨hlt, ho⟩ (by dsimp only; omega) ⟨rfl, ups_snoc rfl, rfl, rfl, rfl, trivial⟩
      · obtain rfl : k = R.length := by omega
        rw [List.take_length, hrun] at hout
        subst hout
        refine V_seq ?_; refine V_region (id := 14) ?_; refine vo_step (ok_lss rfl rfl rfl rfl (decide_eq_false (by omega))) rfl ?_; refine vo_nil ?_; refine N_seq ?_; refine V_seq ?_; refine V_false rfl ?_; refine V_exit ?_; refine X_then ?_; refine X_then ?_; refine X_here ?_; refine N_seq ?_; refine V_seq ?_; refine V_region (id := 19) ?_; refine vo_step2 (ok_moveO (.inl rfl) rfl rfl rfl rfl) ?_; refine vo_step2 (ok_callTO L (q := 67) rfl rfl rfl rfl rfl (fun u H C x hH hle hx hC => clipTO hH hx hC)) ?_; refine vo_step2 (ok_moveO (.inr rfl) rfl rfl rfl rfl) ?_; refine vo_nil ?_; refine N_seq ?_
        exact V_retO rfl (fun _ _ h => h) hs7 rfl
    · by_cases n1 : n = 1
      · subst n1
        have hk3 : prefN (noSub f) = 1 := by omega
        have hle := lea_k hk3 (by decide)
        have hfi := first_k hk3 (by decide)
        simp only [Nat.reduceLeDiff, if_true, if_false] at hle hfi
        rw [hle, hfi] at hrun
        generalize hR : (l.drop (posS cmpT (((f.1.1.1, ⟨#[]⟩), ⟨#[]⟩), n3) l)).takeWhile (fun z => takesB (((f.1.1.1, ⟨#[]⟩), ⟨#[]⟩), n3, false) z) = R at hrun
        have hRl : R.length ≤ 100000 := by
          rw [← hR]
          exact Nat.le_trans (tw_le _ _) (by rw [List.length_drop]; omega)
        refine V_region (id := 5) ?_; refine vo_step (ok_move rfl rfl rfl) rfl ?_; refine vo_step (ok_gtr rfl rfl rfl rfl (decide_eq_true (by omega))) rfl ?_; refine vo_nil ?_; refine N_seq ?_; refine V_true rfl ?_; refine V_region (id := 6) ?_; refine vo_step (ok_fieldAt L rfl rfl rfl rfl) rfl ?_; refine vo_step (ok_load1 L (src_at rfl) rfl rfl rfl rfl) rfl ?_; refine vo_step (ok_fieldP L rfl rfl rfl rfl) rfl ?_; refine vo_step (ok_fieldP L rfl rfl rfl rfl) rfl ?_; refine vo_step (ok_fieldP L rfl rfl rfl rfl) rfl ?_; refine box_store L (O1 := []) rfl rfl rfl rfl rfl rfl rfl rfl rfl ?_; refine vo_nil ?_; refine N_seq ?_; refine V_seq ?_; refine V_seq ?_; refine V_region (id := 7) ?_; refine vo_step (ok_move rfl rfl rfl) rfl ?_; refine vo_step (ok_gtr rfl rfl rfl rfl (decide_eq_false (by omega))) rfl ?_; refine vo_nil ?_; refine N_seq ?_; refine V_false rfl ?_; refine V_skip ?_; refine N_seq ?_; refine V_seq ?_; refine V_seq ?_; refine V_region (id := 9) ?_; refine vo_step (ok_move rfl rfl rfl) rfl ?_; refine vo_step (ok_gtr rfl rfl rfl rfl (decide_eq_false (by omega))) rfl ?_; refine vo_nil ?_; refine N_seq ?_; refine V_false rfl ?_; refine V_skip ?_; refine N_seq ?_; refine V_seq ?_; refine V_region (id := 11) ?_; refine vo_step (ok_fieldP L rfl rfl rfl rfl) rfl ?_; refine vo_step (ok_fieldP L rfl rfl rfl rfl) rfl ?_; refine vo_step (ok_fieldP L rfl rfl rfl rfl) rfl ?_; refine vo_step (ok_load1 L (src_box rfl (List.Mem.head _)) rfl rfl rfl rfl) rfl ?_; refine vo_step (ok_fieldP L rfl rfl rfl rfl) rfl ?_; refine vo_step (ok_fieldP L rfl rfl rfl rfl) rfl ?_; refine vo_step (ok_fieldP L rfl rfl rfl rfl) rfl ?_; refine vo_step (ok_load1 L (src_box rfl (List.Mem.head _)) rfl rfl rfl rfl) rfl ?_; refine vo_step (ok_fieldP L rfl rfl rfl rfl) rfl ?_; refine vo_step (ok_fieldP L rfl rfl rfl rfl) rfl ?_; refine vo_step (ok_load1 L (src_box rfl (List.Mem.head _)) rfl rfl rfl rfl) rfl ?_; refine vo_step (ok_build (cs := [_, _, _, _, _, _, _]) rfl rfl pl36 rfl rfl) rfl ?_; refine vo_step (ok_alloc L rfl rfl rfl rfl) rfl ?_; refine vo_step (ok_store L rfl rfl rfl rfl rfl rfl rfl rfl) rfl ?_; refine vo_nil ?_; refine N_seq ?_; refine V_seq ?_; refine V_region (id := 12) ?_; refine vo_step (ok_assign rfl rfl rfl) rfl ?_; refine vo_nil ?_; refine N_seq ?_; refine V_seq ?_; refine V_seq ?_
        refine V_pub 7 rfl ?_
        refine V_opn 7 rfl ?_
        rintro _ H7 hs7 ⟨b7, rfl, hb7⟩
        refine V_region (id := 13) ?_; refine vo_step (ok_fieldAt L rfl rfl rfl rfl) rfl ?_; refine vo_step (ok_loadA L (vs := [_, _]) (src_at rfl) rfl rfl rfl rfl ⟨_, rfl⟩) rfl ?_; refine vo_step (ok_loadA L (vs := [_, _, _, _, _, _]) (src_box rfl (List.Mem.head _)) rfl rfl rfl rfl ⟨_, rfl⟩) rfl ?_; refine vo_step (ok_makeFunc rfl rfl rfl rfl) rfl ?_; refine vo_step (ok_callO L rfl rfl (blt_lt rfl) rfl rfl rfl (fun u H hH hle _ => irun_retO (M := R) (caps := [.pointer (some ⟨b7, 0, none⟩)]) (pr := fun z => takesB (((f.1.1.1, ⟨#[]⟩), ⟨#[]⟩), n3, false) z) (x := (((f.1.1.1, ⟨#[]⟩), ⟨#[]⟩), n3)) rfl (fun y u' H' hH' hle' => smatchB_ret (f := (((f.1.1.1, ⟨#[]⟩), ⟨#[]⟩), n3, false)) rfl hH' (hle' _ _ (hle _ _ hb7))) (fun u' H' hH' hle' => hr1 _ u' H' hH' (hs7.le.trans (hle.trans hle'))) (by rw [hts]; exact posS_le _ _) (by rw [hkt]; exact hR) (by omega) hH (ht.le (hs7.le.trans hle)))) rfl ?_; refine vo_step (ok_lenE L rfl rfl rfl rfl) rfl ?_; refine vo_step (ok_move rfl rfl rfl) rfl ?_; refine vo_nil ?_; refine N_seq ?_; refine V_block ?_
        refine V_pubE 53 rfl ?_
        refine V_nilR 8 tyU 6 rfl ?_
        refine V_imp 53 (US R true) rfl SlV.mono (fun v H h => h) ?_
        refine V_loop (fun y : Nat × List U => [(3, .sat (At (fcs f) tyF 0)), (8, .own (SlR tyU 6 y.2.length (y.2.flatMap ucs))), (53, .sat (US R true)), (54, .is (.int .i64 R.length)), (55, .is (.int .i64 y.1))])
          (fun y => y.1 ≤ R.length ∧ y.2 = (R.take y.1).filter (takesB f)) (fun y => R.length - y.1) (0, []) ⟨Nat.zero_le _, rfl⟩ ⟨rfl, rfl, rfl, rfl, rfl, trivial⟩ ?_
        rintro ⟨k, out⟩ ⟨hk, hout⟩
        dsimp only at hk hout ⊢
        have hol : out.length ≤ k := by rw [hout]; exact Nat.le_trans (List.length_filter_le ..) (by rw [List.length_take]; omega)
        by_cases hlt : k < R.length
        · obtain ⟨t1, ht1⟩ := get_some hlt
          have hc := us_at ht1
          have htk : R.take (k + 1) = R.take k ++ [t1] := take_s ht1
          cases htt : takesB f t1
          · have ho : out = (R.take (k + 1)).filter (takesB f) := by rw [htk, List.filter_append, ← hout]; simp [htt]
            refine V_seq ?_; refine V_region (id := 14) ?_; refine vo_step (ok_lss rfl rfl rfl rfl (decide_eq_true (by omega))) rfl ?_; refine vo_nil ?_; refine N_seq ?_; refine V_seq ?_; refine V_true rfl ?_; refine V_skip ?_; refine N_seq ?_; refine V_seq ?_; refine V_block ?_; refine V_seq ?_; refine V_region (id := 15) ?_; refine vo_step (ok_indexV L _ rfl rfl rfl rfl rfl rfl rfl (by first | omega | decide) (by assumption)) rfl ?_; refine vo_step (ok_loadPA L (vs := [_, _, _, _, _, _]) rfl rfl rfl rfl rfl ⟨_, rfl⟩) rfl ?_; refine vo_step (ok_alloc L rfl rfl rfl rfl) rfl ?_; refine vo_step (ok_store L rfl rfl rfl rfl rfl rfl rfl rfl) rfl ?_; refine vo_nil ?_; refine N_seq ?_; refine V_seq ?_; refine V_region (id := 16) ?_; refine vo_step (ok_loadA L (vs := [_, _, _, _, _, _, _]) (src_at rfl) rfl rfl rfl rfl ⟨_, rfl⟩) rfl ?_; refine vo_step (ok_loadA L (vs := [_, _, _, _, _, _]) (src_own rfl) rfl rfl rfl rfl ⟨_, rfl⟩) rfl ?_; refine vo_step (ok_callx L rfl rfl (blt_lt rfl) rfl rfl rfl (fun u H hH _ _ => takes_ret htt hH)) rfl ?_; refine vo_nil ?_; refine N_seq ?_; refine V_false rfl ?_; refine V_skip ?_; refine N_block ?_; refine N_seq ?_; refine V_region (id := 18) ?_; refine vo_step (ok_add rfl rfl rfl rfl (wrap_i64 (by omega) (by omega))) rfl ?_; refine vo_step (ok_move rfl rfl rfl) rfl ?_; refine vo_nil ?_
            exact N_roundS (x := (k, out)) (k + 1, out) Since.refl ⟨hlt, ho⟩ (by dsimp only; omega) ⟨rfl, rfl, rfl, rfl, rfl, trivial⟩
          · have ho : out ++ [t1] = (R.take (k + 1)).filter (takesB f) := by rw [htk, List.filter_append, ← hout]; simp [htt]
            refine V_seq ?_; refine V_region (id := 14) ?_; refine vo_step (ok_lss rfl rfl rfl rfl (decide_eq_true (by omega))) rfl ?_; refine vo_nil ?_; refine N_seq ?_; refine V_seq ?_; refine V_true rfl ?_; refine V_skip ?_; refine N_seq ?_; refine V_seq ?_; refine V_block ?_; refine V_seq ?_; refine V_region (id := 15) ?_; refine vo_step (ok_indexV L _ rfl rfl rfl rfl rfl rfl rfl (by first | omega | decide) (by assumption)) rfl ?_; refine vo_step (ok_loadPA L (vs := [_, _, _, _, _, _]) rfl rfl rfl rfl rfl ⟨_, rfl⟩) rfl ?_; refine vo_step (ok_alloc L rfl rfl rfl rfl) rfl ?_; refine vo_step (ok_store L rfl rfl rfl rfl rfl rfl rfl rfl) rfl ?_; refine vo_nil ?_; refine N_seq ?_; refine V_seq ?_; refine V_region (id := 16) ?_; refine vo_step (ok_loadA L (vs := [_, _, _, _, _, _, _]) (src_at rfl) rfl rfl rfl rfl ⟨_, rfl⟩) rfl ?_; refine vo_step (ok_loadA L (vs := [_, _, _, _, _, _]) (src_own rfl) rfl rfl rfl rfl ⟨_, rfl⟩) rfl ?_; refine vo_step (ok_callx L rfl rfl (blt_lt rfl) rfl rfl rfl (fun u H hH _ _ => takes_ret htt hH)) rfl ?_; refine vo_nil ?_; refine N_seq ?_; refine V_true rfl ?_; refine V_region (id := 17) ?_; refine vo_step2 (ok_moveO (.inl rfl) rfl rfl rfl rfl) ?_; refine vo_step (ok_loadA L (vs := [_, _, _, _, _, _]) (src_own rfl) rfl rfl rfl rfl ⟨_, rfl⟩) rfl ?_; refine vo_step (ok_buildSlice L rfl rfl rfl rfl rfl rfl rfl rfl rfl) rfl ?_; refine vo_step2 (ok_append L rfl rfl rfl (apd_B rfl) rfl el51 rfl rfl (by omega) (by omega)) ?_; refine vo_step2 (ok_moveO (.inr rfl) rfl rfl rfl rfl) ?_; refine vo_nil ?_; refine N_block ?_; refine N_seq ?_; refine V_region (id := 18) ?_; refine vo_step (ok_add rfl rfl rfl rfl (wrap_i64 (by omega) (by omega))) rfl ?_; refine vo_step (ok_move rfl rfl rfl) rfl ?_; refine vo_nil ?_
            exact N_roundS (x := (k, out)) (k + 1, out ++ [t1]) Since.refl ⟨hlt, ho⟩ (by dsimp only; omega) ⟨rfl, ups_snoc rfl, rfl, rfl, rfl, trivial⟩
        · obtain rfl : k = R.length := by omega
          rw [List.take_length, hrun] at hout
          subst hout
          refine V_seq ?_; refine V_region (id := 14) ?_; refine vo_step (ok_lss rfl rfl rfl rfl (decide_eq_false (by omega))) rfl ?_; refine vo_nil ?_; refine N_seq ?_; refine V_seq ?_; refine V_false rfl ?_; refine V_exit ?_; refine X_then ?_; refine X_then ?_; refine X_here ?_; refine N_seq ?_; refine V_seq ?_; refine V_region (id := 19) ?_; refine vo_step2 (ok_moveO (.inl rfl) rfl rfl rfl rfl) ?_; refine vo_step2 (ok_callTO L (q := 67) rfl rfl rfl rfl rfl (fun u H C x hH hle hx hC => clipTO hH hx hC)) ?_; refine vo_step2 (ok_moveO (.inr rfl) rfl rfl rfl rfl) ?_; refine vo_nil ?_; refine N_seq ?_
          exact V_retO rfl (fun _ _ h => h) hs7 rfl
      · by_cases n2 : n = 2
        · subst n2
          have hk3 : prefN (noSub f) = 2 := by omega
          have hle := lea_k hk3 (by decide)
          have hfi := first_k hk3 (by decide)
          simp only [Nat.reduceLeDiff, if_true, if_false] at hle hfi
          rw [hle, hfi] at hrun
          generalize hR : (l.drop (posS cmpT (((f.1.1.1, f.1.1.2), ⟨#[]⟩), n3) l)).takeWhile (fun z => takesB (((f.1.1.1, f.1.1.2), ⟨#[]⟩), n3, false) z) = R at hrun
          have hRl : R.length ≤ 100000 := by
            rw [← hR]
            exact Nat.le_trans (tw_le _ _) (by rw [List.length_drop]; omega)
          refine V_region (id := 5) ?_; refine vo_step (ok_move rfl rfl rfl) rfl ?_; refine vo_step (ok_gtr rfl rfl rfl rfl (decide_eq_true (by omega))) rfl ?_; refine vo_nil ?_; refine N_seq ?_; refine V_true rfl ?_; refine V_region (id := 6) ?_; refine vo_step (ok_fieldAt L rfl rfl rfl rfl) rfl ?_; refine vo_step (ok_load1 L (src_at rfl) rfl rfl rfl rfl) rfl ?_; refine vo_step (ok_fieldP L rfl rfl rfl rfl) rfl ?_; refine vo_step (ok_fieldP L rfl rfl rfl rfl) rfl ?_; refine vo_step (ok_fieldP L rfl rfl rfl rfl) rfl ?_; refine box_store L (O1 := []) rfl rfl rfl rfl rfl rfl rfl rfl rfl ?_; refine vo_nil ?_; refine N_seq ?_; refine V_seq ?_; refine V_seq ?_; refine V_region (id := 7) ?_; refine vo_step (ok_move rfl rfl rfl) rfl ?_; refine vo_step (ok_gtr rfl rfl rfl rfl (decide_eq_true (by omega))) rfl ?_; refine vo_nil ?_; refine N_seq ?_; refine V_true rfl ?_; refine V_region (id := 8) ?_; refine vo_step (ok_fieldAt L rfl rfl rfl rfl) rfl ?_; refine vo_step (ok_load1 L (src_at rfl) rfl rfl rfl rfl) rfl ?_; refine vo_step (ok_fieldP L rfl rfl rfl rfl) rfl ?_; refine vo_step (ok_fieldP L rfl rfl rfl rfl) rfl ?_; refine vo_step (ok_fieldP L rfl rfl rfl rfl) rfl ?_; refine box_store L (O1 := []) rfl rfl rfl rfl rfl rfl rfl rfl rfl ?_; refine vo_nil ?_; refine N_seq ?_; refine V_seq ?_; refine V_seq ?_; refine V_region (id := 9) ?_; refine vo_step (ok_move rfl rfl rfl) rfl ?_; refine vo_step (ok_gtr rfl rfl rfl rfl (decide_eq_false (by omega))) rfl ?_; refine vo_nil ?_; refine N_seq ?_; refine V_false rfl ?_; refine V_skip ?_; refine N_seq ?_; refine V_seq ?_; refine V_region (id := 11) ?_; refine vo_step (ok_fieldP L rfl rfl rfl rfl) rfl ?_; refine vo_step (ok_fieldP L rfl rfl rfl rfl) rfl ?_; refine vo_step (ok_fieldP L rfl rfl rfl rfl) rfl ?_; refine vo_step (ok_load1 L (src_box rfl (List.Mem.head _)) rfl rfl rfl rfl) rfl ?_; refine vo_step (ok_fieldP L rfl rfl rfl rfl) rfl ?_; refine vo_step (ok_fieldP L rfl rfl rfl rfl) rfl ?_; refine vo_step (ok_fieldP L rfl rfl rfl rfl) rfl ?_; refine vo_step (ok_load1 L (src_box rfl (List.Mem.head _)) rfl rfl rfl rfl) rfl ?_; refine vo_step (ok_fieldP L rfl rfl rfl rfl) rfl ?_; refine vo_step (ok_fieldP L rfl rfl rfl rfl) rfl ?_; refine vo_step (ok_load1 L (src_box rfl (List.Mem.head _)) rfl rfl rfl rfl) rfl ?_; refine vo_step (ok_build (cs := [_, _, _, _, _, _, _]) rfl rfl pl36 rfl rfl) rfl ?_; refine vo_step (ok_alloc L rfl rfl rfl rfl) rfl ?_; refine vo_step (ok_store L rfl rfl rfl rfl rfl rfl rfl rfl) rfl ?_; refine vo_nil ?_; refine N_seq ?_; refine V_seq ?_; refine V_region (id := 12) ?_; refine vo_step (ok_assign rfl rfl rfl) rfl ?_; refine vo_nil ?_; refine N_seq ?_; refine V_seq ?_; refine V_seq ?_
          refine V_pub 7 rfl ?_
          refine V_opn 7 rfl ?_
          rintro _ H7 hs7 ⟨b7, rfl, hb7⟩
          refine V_region (id := 13) ?_; refine vo_step (ok_fieldAt L rfl rfl rfl rfl) rfl ?_; refine vo_step (ok_loadA L (vs := [_, _]) (src_at rfl) rfl rfl rfl rfl ⟨_, rfl⟩) rfl ?_; refine vo_step (ok_loadA L (vs := [_, _, _, _, _, _]) (src_box rfl (List.Mem.head _)) rfl rfl rfl rfl ⟨_, rfl⟩) rfl ?_; refine vo_step (ok_makeFunc rfl rfl rfl rfl) rfl ?_; refine vo_step (ok_callO L rfl rfl (blt_lt rfl) rfl rfl rfl (fun u H hH hle _ => irun_retO (M := R) (caps := [.pointer (some ⟨b7, 0, none⟩)]) (pr := fun z => takesB (((f.1.1.1, f.1.1.2), ⟨#[]⟩), n3, false) z) (x := (((f.1.1.1, f.1.1.2), ⟨#[]⟩), n3)) rfl (fun y u' H' hH' hle' => smatchB_ret (f := (((f.1.1.1, f.1.1.2), ⟨#[]⟩), n3, false)) rfl hH' (hle' _ _ (hle _ _ hb7))) (fun u' H' hH' hle' => hr1 _ u' H' hH' (hs7.le.trans (hle.trans hle'))) (by rw [hts]; exact posS_le _ _) (by rw [hkt]; exact hR) (by omega) hH (ht.le (hs7.le.trans hle)))) rfl ?_; refine vo_step (ok_lenE L rfl rfl rfl rfl) rfl ?_; refine vo_step (ok_move rfl rfl rfl) rfl ?_; refine vo_nil ?_; refine N_seq ?_; refine V_block ?_
          refine V_pubE 53 rfl ?_
          refine V_nilR 8 tyU 6 rfl ?_
          refine V_imp 53 (US R true) rfl SlV.mono (fun v H h => h) ?_
          refine V_loop (fun y : Nat × List U => [(3, .sat (At (fcs f) tyF 0)), (8, .own (SlR tyU 6 y.2.length (y.2.flatMap ucs))), (53, .sat (US R true)), (54, .is (.int .i64 R.length)), (55, .is (.int .i64 y.1))])
            (fun y => y.1 ≤ R.length ∧ y.2 = (R.take y.1).filter (takesB f)) (fun y => R.length - y.1) (0, []) ⟨Nat.zero_le _, rfl⟩ ⟨rfl, rfl, rfl, rfl, rfl, trivial⟩ ?_
          rintro ⟨k, out⟩ ⟨hk, hout⟩
          dsimp only at hk hout ⊢
          have hol : out.length ≤ k := by rw [hout]; exact Nat.le_trans (List.length_filter_le ..) (by rw [List.length_take]; omega)
          by_cases hlt : k < R.length
          · obtain ⟨t1, ht1⟩ := get_some hlt
            have hc := us_at ht1
            have htk : R.take (k + 1) = R.take k ++ [t1] := take_s ht1
            cases htt : takesB f t1
            · have ho : out = (R.take (k + 1)).filter (takesB f) := by rw [htk, List.filter_append, ← hout]; simp [htt]
              refine V_seq ?_; refine V_region (id := 14) ?_; refine vo_step (ok_lss rfl rfl rfl rfl (decide_eq_true (by omega))) rfl ?_; refine vo_nil ?_; refine N_seq ?_; refine V_seq ?_; refine V_true rfl ?_; refine V_skip ?_; refine N_seq ?_; refine V_seq ?_; refine V_block ?_; refine V_seq ?_; refine V_region (id := 15) ?_; refine vo_step (ok_indexV L _ rfl rfl rfl rfl rfl rfl rfl (by first | omega | decide) (by assumption)) rfl ?_; refine vo_step (ok_loadPA L (vs := [_, _, _, _, _, _]) rfl rfl rfl rfl rfl ⟨_, rfl⟩) rfl ?_; refine vo_step (ok_alloc L rfl rfl rfl rfl) rfl ?_; refine vo_step (ok_store L rfl rfl rfl rfl rfl rfl rfl rfl) rfl ?_; refine vo_nil ?_; refine N_seq ?_; refine V_seq ?_; refine V_region (id := 16) ?_; refine vo_step (ok_loadA L (vs := [_, _, _, _, _, _, _]) (src_at rfl) rfl rfl rfl rfl ⟨_, rfl⟩) rfl ?_; refine vo_step (ok_loadA L (vs := [_, _, _, _, _, _]) (src_own rfl) rfl rfl rfl rfl ⟨_, rfl⟩) rfl ?_; refine vo_step (ok_callx L rfl rfl (blt_lt rfl) rfl rfl rfl (fun u H hH _ _ => takes_ret htt hH)) rfl ?_; refine vo_nil ?_; refine N_seq ?_; refine V_false rfl ?_; refine V_skip ?_; refine N_block ?_; refine N_seq ?_; refine V_region (id := 18) ?_; refine vo_step (ok_add rfl rfl rfl rfl (wrap_i64 (by omega) (by omega))) rfl ?_; refine vo_step (ok_move rfl rfl rfl) rfl ?_; refine vo_nil ?_
              exact N_roundS (x := (k, out)) (k + 1, out) Since.refl ⟨hlt, ho⟩ (by dsimp only; omega) ⟨rfl, rfl, rfl, rfl, rfl, trivial⟩
            · have ho : out ++ [t1] = (R.take (k + 1)).filter (takesB f) := by rw [htk, List.filter_append, ← hout]; simp [htt]
              refine V_seq ?_; refine V_region (id := 14) ?_; refine vo_step (ok_lss rfl rfl rfl rfl (decide_eq_true (by omega))) rfl ?_; refine vo_nil ?_; refine N_seq ?_; refine V_seq ?_; refine V_true rfl ?_; refine V_skip ?_; refine N_seq ?_; refine V_seq ?_; refine V_block ?_; refine V_seq ?_; refine V_region (id := 15) ?_; refine vo_step (ok_indexV L _ rfl rfl rfl rfl rfl rfl rfl (by first | omega | decide) (by assumption)) rfl ?_; refine vo_step (ok_loadPA L (vs := [_, _, _, _, _, _]) rfl rfl rfl rfl rfl ⟨_, rfl⟩) rfl ?_; refine vo_step (ok_alloc L rfl rfl rfl rfl) rfl ?_; refine vo_step (ok_store L rfl rfl rfl rfl rfl rfl rfl rfl) rfl ?_; refine vo_nil ?_; refine N_seq ?_; refine V_seq ?_; refine V_region (id := 16) ?_; refine vo_step (ok_loadA L (vs := [_, _, _, _, _, _, _]) (src_at rfl) rfl rfl rfl rfl ⟨_, rfl⟩) rfl ?_; refine vo_step (ok_loadA L (vs := [_, _, _, _, _, _]) (src_own rfl) rfl rfl rfl rfl ⟨_, rfl⟩) rfl ?_; refine vo_step (ok_callx L rfl rfl (blt_lt rfl) rfl rfl rfl (fun u H hH _ _ => takes_ret htt hH)) rfl ?_; refine vo_nil ?_; refine N_seq ?_; refine V_true rfl ?_; refine V_region (id := 17) ?_; refine vo_step2 (ok_moveO (.inl rfl) rfl rfl rfl rfl) ?_; refine vo_step (ok_loadA L (vs := [_, _, _, _, _, _]) (src_own rfl) rfl rfl rfl rfl ⟨_, rfl⟩) rfl ?_; refine vo_step (ok_buildSlice L rfl rfl rfl rfl rfl rfl rfl rfl rfl) rfl ?_; refine vo_step2 (ok_append L rfl rfl rfl (apd_B rfl) rfl el51 rfl rfl (by omega) (by omega)) ?_; refine vo_step2 (ok_moveO (.inr rfl) rfl rfl rfl rfl) ?_; refine vo_nil ?_; refine N_block ?_; refine N_seq ?_; refine V_region (id := 18) ?_; refine vo_step (ok_add rfl rfl rfl rfl (wrap_i64 (by omega) (by omega))) rfl ?_; refine vo_step (ok_move rfl rfl rfl) rfl ?_; refine vo_nil ?_
              exact N_roundS (x := (k, out)) (k + 1, out ++ [t1]) Since.refl ⟨hlt, ho⟩ (by dsimp only; omega) ⟨rfl, ups_snoc rfl, rfl, rfl, rfl, trivial⟩
          · obtain rfl : k = R.length := by omega
            rw [List.take_length, hrun] at hout
            subst hout
            refine V_seq ?_; refine V_region (id := 14) ?_; refine vo_step (ok_lss rfl rfl rfl rfl (decide_eq_false (by omega))) rfl ?_; refine vo_nil ?_; refine N_seq ?_; refine V_seq ?_; refine V_false rfl ?_; refine V_exit ?_; refine X_then ?_; refine X_then ?_; refine X_here ?_; refine N_seq ?_; refine V_seq ?_; refine V_region (id := 19) ?_; refine vo_step2 (ok_moveO (.inl rfl) rfl rfl rfl rfl) ?_; refine vo_step2 (ok_callTO L (q := 67) rfl rfl rfl rfl rfl (fun u H C x hH hle hx hC => clipTO hH hx hC)) ?_; refine vo_step2 (ok_moveO (.inr rfl) rfl rfl rfl rfl) ?_; refine vo_nil ?_; refine N_seq ?_
            exact V_retO rfl (fun _ _ h => h) hs7 rfl
        · have hn3 : 3 ≤ n := by omega
          have hk3 : prefN (noSub f) = 3 := by rw [hpn]; omega
          have hle := lea_k hk3 (by decide)
          have hfi := first_k hk3 (by decide)
          simp only [Nat.reduceLeDiff, if_true, if_false] at hle hfi
          rw [hle, hfi] at hrun
          generalize hR : (l.drop (posS cmpT (((f.1.1.1, f.1.1.2), f.1.2), n3) l)).takeWhile (fun z => takesB (((f.1.1.1, f.1.1.2), f.1.2), n3, false) z) = R at hrun
          have hRl : R.length ≤ 100000 := by
            rw [← hR]
            exact Nat.le_trans (tw_le _ _) (by rw [List.length_drop]; omega)
          refine V_region (id := 5) ?_; refine vo_step (ok_move rfl rfl rfl) rfl ?_; refine vo_step (ok_gtr rfl rfl rfl rfl (decide_eq_true (by omega))) rfl ?_; refine vo_nil ?_; refine N_seq ?_; refine V_true rfl ?_; refine V_region (id := 6) ?_; refine vo_step (ok_fieldAt L rfl rfl rfl rfl) rfl ?_; refine vo_step (ok_load1 L (src_at rfl) rfl rfl rfl rfl) rfl ?_; refine vo_step (ok_fieldP L rfl rfl rfl rfl) rfl ?_; refine vo_step (ok_fieldP L rfl rfl rfl rfl) rfl ?_; refine vo_step (ok_fieldP L rfl rfl rfl rfl) rfl ?_; refine box_store L (O1 := []) rfl rfl rfl rfl rfl rfl rfl rfl rfl ?_; refine vo_nil ?_; refine N_seq ?_; refine V_seq ?_; refine V_seq ?_; refine V_region (id := 7) ?_; refine vo_step (ok_move rfl rfl rfl) rfl ?_; refine vo_step (ok_gtr rfl rfl rfl rfl (decide_eq_true (by omega))) rfl ?_; refine vo_nil ?_; refine N_seq ?_; refine V_true rfl ?_; refine V_region (id := 8) ?_; refine vo_step (ok_fieldAt L rfl rfl rfl rfl) rfl ?_; refine vo_step (ok_load1 L (src_at rfl) rfl rfl rfl rfl) rfl ?_; refine vo_step (ok_fieldP L rfl rfl rfl rfl) rfl ?_; refine vo_step (ok_fieldP L rfl rfl rfl rfl) rfl ?_; refine vo_step (ok_fieldP L rfl rfl rfl rfl) rfl ?_; refine box_store L (O1 := []) rfl rfl rfl rfl rfl rfl rfl rfl rfl ?_; refine vo_nil ?_; refine N_seq ?_; refine V_seq ?_; refine V_seq ?_; refine V_region (id := 9) ?_; refine vo_step (ok_move rfl rfl rfl) rfl ?_; refine vo_step (ok_gtr rfl rfl rfl rfl (decide_eq_true (by omega))) rfl ?_; refine vo_nil ?_; refine N_seq ?_; refine V_true rfl ?_; refine V_region (id := 10) ?_; refine vo_step (ok_fieldAt L rfl rfl rfl rfl) rfl ?_; refine vo_step (ok_load1 L (src_at rfl) rfl rfl rfl rfl) rfl ?_; refine vo_step (ok_fieldP L rfl rfl rfl rfl) rfl ?_; refine vo_step (ok_fieldP L rfl rfl rfl rfl) rfl ?_; refine box_store L (O1 := []) rfl rfl rfl rfl rfl rfl rfl rfl rfl ?_; refine vo_nil ?_; refine N_seq ?_; refine V_seq ?_; refine V_region (id := 11) ?_; refine vo_step (ok_fieldP L rfl rfl rfl rfl) rfl ?_; refine vo_step (ok_fieldP L rfl rfl rfl rfl) rfl ?_; refine vo_step (ok_fieldP L rfl rfl rfl rfl) rfl ?_; refine vo_step (ok_load1 L (src_box rfl (List.Mem.head _)) rfl rfl rfl rfl) rfl ?_; refine vo_step (ok_fieldP L rfl rfl rfl rfl) rfl ?_; refine vo_step (ok_fieldP L rfl rfl rfl rfl) rfl ?_; refine vo_step (ok_fieldP L rfl rfl rfl rfl) rfl ?_; refine vo_step (ok_load1 L (src_box rfl (List.Mem.head _)) rfl rfl rfl rfl) rfl ?_; refine vo_step (ok_fieldP L rfl rfl rfl rfl) rfl ?_; refine vo_step (ok_fieldP L rfl rfl rfl rfl) rfl ?_; refine vo_step (ok_load1 L (src_box rfl (List.Mem.head _)) rfl rfl rfl rfl) rfl ?_; refine vo_step (ok_build (cs := [_, _, _, _, _, _, _]) rfl rfl pl36 rfl rfl) rfl ?_; refine vo_step (ok_alloc L rfl rfl rfl rfl) rfl ?_; refine vo_step (ok_store L rfl rfl rfl rfl rfl rfl rfl rfl) rfl ?_; refine vo_nil ?_; refine N_seq ?_; refine V_seq ?_; refine V_region (id := 12) ?_; refine vo_step (ok_assign rfl rfl rfl) rfl ?_; refine vo_nil ?_; refine N_seq ?_; refine V_seq ?_; refine V_seq ?_
          refine V_pub 7 rfl ?_
          refine V_opn 7 rfl ?_
          rintro _ H7 hs7 ⟨b7, rfl, hb7⟩
          refine V_region (id := 13) ?_; refine vo_step (ok_fieldAt L rfl rfl rfl rfl) rfl ?_; refine vo_step (ok_loadA L (vs := [_, _]) (src_at rfl) rfl rfl rfl rfl ⟨_, rfl⟩) rfl ?_; refine vo_step (ok_loadA L (vs := [_, _, _, _, _, _]) (src_box rfl (List.Mem.head _)) rfl rfl rfl rfl ⟨_, rfl⟩) rfl ?_; refine vo_step (ok_makeFunc rfl rfl rfl rfl) rfl ?_; refine vo_step (ok_callO L rfl rfl (blt_lt rfl) rfl rfl rfl (fun u H hH hle _ => irun_retO (M := R) (caps := [.pointer (some ⟨b7, 0, none⟩)]) (pr := fun z => takesB (((f.1.1.1, f.1.1.2), f.1.2), n3, false) z) (x := (((f.1.1.1, f.1.1.2), f.1.2), n3)) rfl (fun y u' H' hH' hle' => smatchB_ret (f := (((f.1.1.1, f.1.1.2), f.1.2), n3, false)) rfl hH' (hle' _ _ (hle _ _ hb7))) (fun u' H' hH' hle' => hr1 _ u' H' hH' (hs7.le.trans (hle.trans hle'))) (by rw [hts]; exact posS_le _ _) (by rw [hkt]; exact hR) (by omega) hH (ht.le (hs7.le.trans hle)))) rfl ?_; refine vo_step (ok_lenE L rfl rfl rfl rfl) rfl ?_; refine vo_step (ok_move rfl rfl rfl) rfl ?_; refine vo_nil ?_; refine N_seq ?_; refine V_block ?_
          refine V_pubE 53 rfl ?_
          refine V_nilR 8 tyU 6 rfl ?_
          refine V_imp 53 (US R true) rfl SlV.mono (fun v H h => h) ?_
          refine V_loop (fun y : Nat × List U => [(3, .sat (At (fcs f) tyF 0)), (8, .own (SlR tyU 6 y.2.length (y.2.flatMap ucs))), (53, .sat (US R true)), (54, .is (.int .i64 R.length)), (55, .is (.int .i64 y.1))])
            (fun y => y.1 ≤ R.length ∧ y.2 = (R.take y.1).filter (takesB f)) (fun y => R.length - y.1) (0, []) ⟨Nat.zero_le _, rfl⟩ ⟨rfl, rfl, rfl, rfl, rfl, trivial⟩ ?_
          rintro ⟨k, out⟩ ⟨hk, hout⟩
          dsimp only at hk hout ⊢
          have hol : out.length ≤ k := by rw [hout]; exact Nat.le_trans (List.length_filter_le ..) (by rw [List.length_take]; omega)
          by_cases hlt : k < R.length
          · obtain ⟨t1, ht1⟩ := get_some hlt
            have hc := us_at ht1
            have htk : R.take (k + 1) = R.take k ++ [t1] := take_s ht1
            cases htt : takesB f t1
            · have ho : out = (R.take (k + 1)).filter (takesB f) := by rw [htk, List.filter_append, ← hout]; simp [htt]
              refine V_seq ?_; refine V_region (id := 14) ?_; refine vo_step (ok_lss rfl rfl rfl rfl (decide_eq_true (by omega))) rfl ?_; refine vo_nil ?_; refine N_seq ?_; refine V_seq ?_; refine V_true rfl ?_; refine V_skip ?_; refine N_seq ?_; refine V_seq ?_; refine V_block ?_; refine V_seq ?_; refine V_region (id := 15) ?_; refine vo_step (ok_indexV L _ rfl rfl rfl rfl rfl rfl rfl (by first | omega | decide) (by assumption)) rfl ?_; refine vo_step (ok_loadPA L (vs := [_, _, _, _, _, _]) rfl rfl rfl rfl rfl ⟨_, rfl⟩) rfl ?_; refine vo_step (ok_alloc L rfl rfl rfl rfl) rfl ?_; refine vo_step (ok_store L rfl rfl rfl rfl rfl rfl rfl rfl) rfl ?_; refine vo_nil ?_; refine N_seq ?_; refine V_seq ?_; refine V_region (id := 16) ?_; refine vo_step (ok_loadA L (vs := [_, _, _, _, _, _, _]) (src_at rfl) rfl rfl rfl rfl ⟨_, rfl⟩) rfl ?_; refine vo_step (ok_loadA L (vs := [_, _, _, _, _, _]) (src_own rfl) rfl rfl rfl rfl ⟨_, rfl⟩) rfl ?_; refine vo_step (ok_callx L rfl rfl (blt_lt rfl) rfl rfl rfl (fun u H hH _ _ => takes_ret htt hH)) rfl ?_; refine vo_nil ?_; refine N_seq ?_; refine V_false rfl ?_; refine V_skip ?_; refine N_block ?_; refine N_seq ?_; refine V_region (id := 18) ?_; refine vo_step (ok_add rfl rfl rfl rfl (wrap_i64 (by omega) (by omega))) rfl ?_; refine vo_step (ok_move rfl rfl rfl) rfl ?_; refine vo_nil ?_
              exact N_roundS (x := (k, out)) (k + 1, out) Since.refl ⟨hlt, ho⟩ (by dsimp only; omega) ⟨rfl, rfl, rfl, rfl, rfl, trivial⟩
            · have ho : out ++ [t1] = (R.take (k + 1)).filter (takesB f) := by rw [htk, List.filter_append, ← hout]; simp [htt]
              refine V_seq ?_; refine V_region (id := 14) ?_; refine vo_step (ok_lss rfl rfl rfl rfl (decide_eq_true (by omega))) rfl ?_; refine vo_nil ?_; refine N_seq ?_; refine V_seq ?_; refine V_true rfl ?_; refine V_skip ?_; refine N_seq ?_; refine V_seq ?_; refine V_block ?_; refine V_seq ?_; refine V_region (id := 15) ?_; refine vo_step (ok_indexV L _ rfl rfl rfl rfl rfl rfl rfl (by first | omega | decide) (by assumption)) rfl ?_; refine vo_step (ok_loadPA L (vs := [_, _, _, _, _, _]) rfl rfl rfl rfl rfl ⟨_, rfl⟩) rfl ?_; refine vo_step (ok_alloc L rfl rfl rfl rfl) rfl ?_; refine vo_step (ok_store L rfl rfl rfl rfl rfl rfl rfl rfl) rfl ?_; refine vo_nil ?_; refine N_seq ?_; refine V_seq ?_; refine V_region (id := 16) ?_; refine vo_step (ok_loadA L (vs := [_, _, _, _, _, _, _]) (src_at rfl) rfl rfl rfl rfl ⟨_, rfl⟩) rfl ?_; refine vo_step (ok_loadA L (vs := [_, _, _, _, _, _]) (src_own rfl) rfl rfl rfl rfl ⟨_, rfl⟩) rfl ?_; refine vo_step (ok_callx L rfl rfl (blt_lt rfl) rfl rfl rfl (fun u H hH _ _ => takes_ret htt hH)) rfl ?_; refine vo_nil ?_; refine N_seq ?_; refine V_true rfl ?_; refine V_region (id := 17) ?_; refine vo_step2 (ok_moveO (.inl rfl) rfl rfl rfl rfl) ?_; refine vo_step (ok_loadA L (vs := [_, _, _, _, _, _]) (src_own rfl) rfl rfl rfl rfl ⟨_, rfl⟩) rfl ?_; refine vo_step (ok_buildSlice L rfl rfl rfl rfl rfl rfl rfl rfl rfl) rfl ?_; refine vo_step2 (ok_append L rfl rfl rfl (apd_B rfl) rfl el51 rfl rfl (by omega) (by omega)) ?_; refine vo_step2 (ok_moveO (.inr rfl) rfl rfl rfl rfl) ?_; refine vo_nil ?_; refine N_block ?_; refine N_seq ?_; refine V_region (id := 18) ?_; refine vo_step (ok_add rfl rfl rfl rfl (wrap_i64 (by omega) (by omega))) rfl ?_; refine vo_step (ok_move rfl rfl rfl) rfl ?_; refine vo_nil ?_
              exact N_roundS (x := (k, out)) (k + 1, out ++ [t1]) Since.refl ⟨hlt, ho⟩ (by dsimp only; omega) ⟨rfl, ups_snoc rfl, rfl, rfl, rfl, trivial⟩
          · obtain rfl : k = R.length := by omega
            rw [List.take_length, hrun] at hout
            subst hout
            refine V_seq ?_; refine V_region (id := 14) ?_; refine vo_step (ok_lss rfl rfl rfl rfl (decide_eq_false (by omega))) rfl ?_; refine vo_nil ?_; refine N_seq ?_; refine V_seq ?_; refine V_false rfl ?_; refine V_exit ?_; refine X_then ?_; refine X_then ?_; refine X_here ?_; refine N_seq ?_; refine V_seq ?_; refine V_region (id := 19) ?_; refine vo_step2 (ok_moveO (.inl rfl) rfl rfl rfl rfl) ?_; refine vo_step2 (ok_callTO L (q := 67) rfl rfl rfl rfl rfl (fun u H C x hH hle hx hC => clipTO hH hx hC)) ?_; refine vo_step2 (ok_moveO (.inr rfl) rfl rfl rfl rfl) ?_; refine vo_nil ?_; refine N_seq ?_
            exact V_retO rfl (fun _ _ h => h) hs7 rfl
  · rw [if_neg hE] at hM
    subst hM
    refine V_seq ?_; refine V_region (id := 0) ?_; refine vo_step (ok_box rfl rfl rfl rfl) rfl ?_; refine vo_step (ok_box rfl rfl rfl rfl) rfl ?_; refine vo_step (ok_assign rfl rfl rfl) rfl ?_; refine vo_nil ?_; refine N_seq ?_; refine V_seq ?_; refine V_seq ?_; refine V_region (id := 1) ?_; refine vo_step (ok_loadA L (vs := [_, _, _, _, _, _, _]) (src_at rfl) rfl rfl rfl rfl ⟨_, rfl⟩) rfl ?_; refine vo_step (ok_callx L rfl rfl (blt_lt rfl) rfl rfl rfl (fun u H hH _ _ => fcheck_ret hz rfl hH)) rfl ?_; refine vo_step (ok_neq rfl rfl rfl rfl (decide_eq_true (by omega))) rfl ?_; refine vo_nil ?_; refine N_seq ?_; refine V_true rfl ?_; refine V_seq ?_; refine V_region (id := 2) ?_; refine vo_step (ok_assign rfl rfl rfl) rfl ?_; refine vo_nil ?_; refine N_seq ?_
    refine V_nilE 4 tyU 6 rfl ?_
    refine V_toC 4 rfl ?_
    exact V_retO rfl (fun _ _ h => h) Since.refl rfl
end Go.V.L6
/- slices.Compact at goals. -/
namespace Go.V.L6
open Go.Proofs Go.RowKit Go.V Go.V.L2
def gcs3 (g : Str3) : List Value := [.string g.1.1, .string g.1.2, .string g.2]
abbrev gtc3 (g : Str3) : List Value := [.string g.1.1, .string g.1.2, .string g.2]
theorem gcs3_len (g : Str3) : (gcs3 g).length = 3 := rfl
abbrev tyG3 : TypeId := 49
/-- A slice of goals that is seen. -/
abbrev G3S (l : List Str3) (fu : Bool) : Value → Heap → Prop := SlV tyG3 3 (l.flatMap gcs3) l.length fu
theorem g3_at {l : List Str3} {i : Nat} {g : Str3} (h : l[i]? = some g) : ((l.flatMap gcs3).drop (i * 3)).take 3 = [.string g.1.1, .string g.1.2, .string g.2] := flatMap_at gcs3_len l i g h
theorem g3_len (l : List Str3) : (l.flatMap gcs3).length = l.length * 3 := flatMap_len gcs3_len l
theorem gheld_at {l : List Str3} {rest : List Value} {i : Nat} {t : Str3} (h : l[i]? = some t) (off : Nat) (ho : off = i * 3) : ∃ r, (l.flatMap gcs3 ++ rest).drop off = gtc3 t ++ r := by
  subst ho
  have h1 : ((l.flatMap gcs3).drop (i * 3)).take 3 = gtc3 t := g3_at h
  have h2 := get_lt h
  refine ⟨((l.flatMap gcs3).drop (i * 3)).drop 3 ++ rest, ?_⟩
  rw [List.drop_append_of_le_length (by rw [g3_len]; exact Nat.mul_le_mul_right _ (by omega)), ← List.append_assoc]
  congr 1
  rw [← h1, List.take_append_drop]
theorem gheld_set {ls : List Str3} {rest : List Value} {k : Nat} {z : Str3} (h : k < ls.length) (off : Nat) (ho : off = k * 3) : (ls.flatMap gcs3 ++ rest).take off ++ (gtc3 z ++ (ls.flatMap gcs3 ++ rest).drop (off + 3)) = (ls.set k z).flatMap gcs3 ++ rest := by
  subst ho
  have e1 : ls = ls.take k ++ (ls[k] :: ls.drop (k + 1)) := by rw [List.getElem_cons_drop, List.take_append_drop]
  have hk : (ls.take k).length = k := by rw [List.length_take]; omega
  have e2 : ls.set k z = ls.take k ++ (z :: ls.drop (k + 1)) := by
    conv => lhs; rw [e1]
    rw [List.set_append_right _ _ (by omega), hk, Nat.sub_self]; rfl
  rw [e2]
  generalize ls.take k = A at e1 hk
  generalize ls.drop (k + 1) = D at e1
  generalize ls[k] = y at e1
  subst e1
  have hA : (A.flatMap gcs3).length = k * 3 := by rw [g3_len, hk]
  simp only [List.flatMap_append, List.flatMap_cons, List.append_assoc]
  rw [List.take_left' hA, show k * 3 + 3 = (A.flatMap gcs3).length + 3 by omega, ← List.drop_drop, List.drop_left, show (gcs3 y ++ (D.flatMap gcs3 ++ rest)).drop 3 = D.flatMap gcs3 ++ rest from List.drop_left' rfl]
  rfl
theorem gheld_clear {ls : List Str3} {rest zs : List Value} {k m off : Nat} (hm : ls.length = m) (hk : k ≤ m) (ho : off = k * 3) : (ls.flatMap gcs3 ++ rest).take off ++ (zs ++ (ls.flatMap gcs3 ++ rest).drop (off + (m - k) * 3)) = (ls.take k).flatMap gcs3 ++ (zs ++ rest) := by
  subst hm ho
  have h1 : k * 3 + (ls.length - k) * 3 = (ls.flatMap gcs3).length := by rw [g3_len]; omega
  rw [h1, List.drop_left]
  congr 1
  rw [List.take_append_of_le_length (by rw [g3_len]; exact Nat.mul_le_mul_right _ hk)]
  conv => lhs; rw [← List.take_append_drop k ls, List.flatMap_append]
  rw [List.take_left' (by rw [g3_len, List.length_take]; congr 1; omega)]
theorem gdd_step {l : List Str3} {p : Nat} {y z : Str3} (hy : l[p]? = some y) (hz : l[p + 1]? = some z) : dd (l.take (p + 2)) = if z = y then dd (l.take (p + 1)) else dd (l.take (p + 1)) ++ [z] := by
  have e : l.take (p + 2) = l.take (p + 1) ++ [z] := by rw [List.take_add_one, hz]; rfl
  rw [e]
  refine dd_snoc _ y z ?_
  rw [List.take_add_one, hy]
  simp
attribute [local irreducible] V N X VO Par StepOK Has Ret RetL RetO Src
set_option maxHeartbeats 4000000 in
theorem gcompact_ret {l : List Str3} (hz : l.length ≤ 100000) {x : Value} {w : World} {B : Heap} {C : Nat → Prop} (hB : B.Le (hp w)) (hx : (SlR tyG3 3 l.length (l.flatMap gcs3)).P x B w C) (hC : ∀ k, C k → k < w.heap.size ∧ B k = none) :
    RetT Try.prog 81 [x] w B C (SlR tyG3 3 (dd l).length ((dd l).flatMap gcs3)) := by
  unfold RetT
  refine V_enterA 0 (x := x) (SlR tyG3 3 l.length (l.flatMap gcs3)) rfl Try.func81 rfl Try.ntmps81 (Nat.le_of_ble_eq_true rfl) hB hx hC ?_
  refine V_holdR 0 900 rfl (fun hm hn => ?_) fun b cap rest hl hmc hcm hcl => ?_
  · have h0 : l = [] := List.eq_nil_of_length_eq_zero hm
    subst h0
    refine V_seq ?_; refine V_region (id := 0) ?_; refine vo_step (ok_assign rfl rfl rfl) rfl ?_; refine vo_nil ?_; refine N_seq ?_; refine V_seq ?_; refine V_seq ?_; refine V_region (id := 1) ?_; refine vo_step (ok_move rfl rfl rfl) rfl ?_; refine vo_step (ok_lenL L rfl rfl rfl rfl) rfl ?_; refine vo_step (ok_lss rfl rfl rfl rfl (decide_eq_true (by omega))) rfl ?_; refine vo_nil ?_; refine N_seq ?_; refine V_true rfl ?_; refine V_seq ?_; refine V_region (id := 2) ?_; refine vo_step (ok_move rfl rfl rfl) rfl ?_; refine vo_step (ok_assign rfl rfl rfl) rfl ?_; refine vo_nil ?_; refine N_seq ?_
    refine V_nilR 2 tyG3 3 rfl ?_
    exact V_retT rfl (fun _ _ h => h) Since.refl rfl
  · by_cases h2 : l.length < 2
    · have hdd : dd l = l := by
        rcases l with _ | ⟨a, _ | ⟨b, l⟩⟩
        · rfl
        · rfl
        · simp only [List.length_cons] at h2; omega
      rw [hdd]
      refine V_seq ?_; refine V_region (id := 0) ?_; refine vo_step (ok_assign rfl rfl rfl) rfl ?_; refine vo_nil ?_; refine N_seq ?_; refine V_seq ?_; refine V_seq ?_; refine V_region (id := 1) ?_; refine vo_step (ok_move rfl rfl rfl) rfl ?_; refine vo_step (ok_lenL L rfl rfl rfl rfl) rfl ?_; refine vo_step (ok_lss rfl rfl rfl rfl (decide_eq_true (by omega))) rfl ?_; refine vo_nil ?_; refine N_seq ?_; refine V_true rfl ?_; refine V_seq ?_; refine V_region (id := 2) ?_; refine vo_step (ok_move rfl rfl rfl) rfl ?_; refine vo_step (ok_assign rfl rfl rfl) rfl ?_; refine vo_nil ?_; refine N_seq ?_
      refine V_releaseR 2 900 rfl rfl rfl hl hmc hcm hcl ?_
      exact V_retT rfl (fun _ _ h => h) Since.refl rfl
    · refine V_seq ?_; refine V_region (id := 0) ?_; refine vo_step (ok_assign rfl rfl rfl) rfl ?_; refine vo_nil ?_; refine N_seq ?_; refine V_seq ?_; refine V_seq ?_; refine V_region (id := 1) ?_; refine vo_step (ok_move rfl rfl rfl) rfl ?_; refine vo_step (ok_lenL L rfl rfl rfl rfl) rfl ?_; refine vo_step (ok_lss rfl rfl rfl rfl (decide_eq_false (by omega))) rfl ?_; refine vo_nil ?_; refine N_seq ?_; refine V_false rfl ?_; refine V_skip ?_; refine N_seq ?_; refine V_seq ?_; refine V_seq ?_; refine V_region (id := 3) ?_; refine vo_step (ok_assign rfl rfl rfl) rfl ?_; refine vo_nil ?_; refine N_seq ?_; refine V_block ?_
      refine V_loop (fun i : Nat => [(0, .is (.slice (some ⟨b, 0, none⟩) l.length cap)), (3, .is (.int .i64 (i + 1 : Nat))), (900, .own (HeldR b (l.flatMap gcs3 ++ rest) tyG3))])
        (fun i => i + 1 ≤ l.length ∧ dd (l.take (i + 1)) = l.take (i + 1)) (fun i => l.length - i) 0 ⟨by omega, by rcases l with _ | ⟨a, l⟩ <;> simp [dd]⟩ ⟨rfl, rfl, rfl, trivial⟩ ?_
      rintro i ⟨hi, hd⟩
      by_cases hlt : i + 1 < l.length
      · obtain ⟨y, hy⟩ := get_some (show i < l.length by omega)
        obtain ⟨z, hzz⟩ := get_some hlt
        have q1 := gheld_at (rest := rest) hzz (0 + (i + 1) * 3) (by omega)
        have q2 := gheld_at (rest := rest) hy (0 + i * 3) (by omega)
        have hsub : IntKind.i64.wrap (((i + 1 : Nat) : Int) - 1) = (i : Int) := wrap_i64 (by omega) (by omega) |>.trans (by omega)
        by_cases hzy : z = y
        · have hq := eq3 (decide_eq_true hzy)
          have hne : ¬ cap = i + 1 := by omega
          refine V_seq ?_; refine V_seq ?_; refine V_region (id := 4) ?_; refine vo_step (ok_move rfl rfl rfl) rfl ?_; refine vo_step (ok_move rfl rfl rfl) rfl ?_; refine vo_step (ok_lenL L rfl rfl rfl rfl) rfl ?_; refine vo_step (ok_lss rfl rfl rfl rfl (decide_eq_true (by omega))) rfl ?_; refine vo_nil ?_; refine N_seq ?_; refine V_true rfl ?_; refine V_skip ?_; refine N_seq ?_; refine V_seq ?_; refine V_block ?_; refine V_seq ?_; refine V_regionD (id := 6) [(200019, [900]), (200024, [900])] mixed (by kernel_rfl) ?_; refine par_step (ok_move rfl rfl rfl) rfl ?_; refine par_step (ok_move rfl rfl rfl) rfl ?_; refine par_step (ok_indexAt L _ rfl rfl rfl rfl rfl rfl rfl (by omega)) rfl ?_; refine par_stepR (ok_loadHA L (q := 900) (vs := [_, _, _]) rfl rfl rfl rfl rfl rfl q1) rfl rfl ?_; refine par_step (ok_move rfl rfl rfl) rfl ?_; refine par_step (ok_move rfl rfl rfl) rfl ?_; refine par_step (ok_sub rfl rfl rfl rfl (by assumption)) rfl ?_; refine par_step (ok_indexAt L _ rfl rfl rfl rfl rfl rfl rfl (by omega)) rfl ?_; refine par_stepR (ok_loadHA L (q := 900) (vs := [_, _, _]) rfl rfl rfl rfl rfl rfl q2) rfl rfl ?_; refine par_step (ok_aeql rfl rfl rfl rfl eq49 (by assumption) rfl) rfl ?_; refine par_nil ?_; refine N_seq ?_; refine V_true rfl ?_; refine V_seq ?_; refine V_region (id := 7) ?_; refine vo_step (ok_move rfl rfl rfl) rfl ?_; refine vo_step (ok_move rfl rfl rfl) rfl ?_; refine vo_step (ok_sliceI L (kh := .i64) (ph := 0) _ _ rfl rfl rfl rfl rfl ⟨rfl, rfl⟩ rfl (by omega) (by omega)) rfl ?_; refine vo_step (ok_assign rfl rfl rfl) rfl ?_; refine vo_nil ?_; refine N_seq ?_; refine V_seq ?_; refine V_seq ?_; refine V_region (id := 8) ?_; refine vo_step (ok_assign rfl rfl rfl) rfl ?_; refine vo_nil ?_; refine N_seq ?_; refine V_block ?_
          rw [if_neg hne]
          have hdi : dd (l.take (i + 1 + 1)) = l.take (i + 1) := by rw [gdd_step hy hzz, if_pos hzy, hd]
          refine V_loop (fun s : Nat × Nat × List Str3 => [(0, .is (.slice (some ⟨b, 0, none⟩) l.length cap)), (3, .is (.int .i64 s.1)), (4, .is (.slice (some ⟨b, 0 + (i + 1) * 3, none⟩) (l.length - (i + 1)) (cap - (i + 1)))), (5, .is (.int .i64 (s.2.1 + 1 : Nat))), (900, .own (HeldR b (s.2.2.flatMap gcs3 ++ rest) tyG3))])
            (fun s => s.2.2.length = l.length ∧ s.1 ≤ i + 1 + s.2.1 ∧ i + 1 + s.2.1 + 1 ≤ l.length ∧ s.2.2.take s.1 = dd (l.take (i + 1 + s.2.1 + 1)) ∧ s.2.2.drop (i + 1 + s.2.1) = l.drop (i + 1 + s.2.1)) (fun s => l.length - s.2.1) (i + 1, 0, l) ⟨rfl, Nat.le_refl _, hlt, hdi.symm, rfl⟩ ⟨rfl, rfl, rfl, rfl, rfl, trivial⟩ ?_
          clear hd hq hzy q1 q2 hsub hdi hy hzz y z
          rintro ⟨k, j, ls⟩ ⟨hls, hkp, hpl, htk, hdr⟩
          dsimp only at hls hkp hpl htk hdr ⊢
          by_cases hend : i + 1 + j + 1 < l.length
          · obtain ⟨y, hy⟩ := get_some (show i + 1 + j < l.length by omega)
            obtain ⟨z, hz2⟩ := get_some hend
            have e1 : ls[i + 1 + j]? = some y := by
              have := congrArg (·[0]?) hdr
              simp only [List.getElem?_drop, Nat.add_zero] at this
              rw [this, hy]
            have e2 : ls[i + 1 + j + 1]? = some z := by
              have := congrArg (·[1]?) hdr
              simp only [List.getElem?_drop] at this
              rw [this, hz2]
            have q1 := gheld_at (rest := rest) e2 (0 + (i + 1) * 3 + (j + 1) * 3) (by omega)
            have q2 := gheld_at (rest := rest) e1 (0 + (i + 1) * 3 + j * 3) (by omega)
            have hsub : IntKind.i64.wrap (((j + 1 : Nat) : Int) - 1) = (j : Int) := wrap_i64 (by omega) (by omega) |>.trans (by omega)
            have hst := gdd_step hy hz2
            have hdr' : ls.drop (i + 1 + (j + 1)) = l.drop (i + 1 + (j + 1)) := by
              have := congrArg (List.drop 1) hdr
              rw [List.drop_drop, List.drop_drop] at this
              exact this
            by_cases hzy : z = y
            · have hq := eq3 (decide_eq_true hzy)
              rw [if_pos hzy] at hst
              refine V_seq ?_; refine V_seq ?_; refine V_region (id := 9) ?_; refine vo_step (ok_move rfl rfl rfl) rfl ?_; refine vo_step (ok_move rfl rfl rfl) rfl ?_; refine vo_step (ok_lenL L rfl rfl rfl rfl) rfl ?_; refine vo_step (ok_lss rfl rfl rfl rfl (decide_eq_true (by omega))) rfl ?_; refine vo_nil ?_; refine N_seq ?_; refine V_true rfl ?_; refine V_skip ?_; refine N_seq ?_; refine V_seq ?_; refine V_block ?_; refine V_seq ?_; refine V_regionD (id := 11) [(200038, [900]), (200043, [900])] mixed (by kernel_rfl) ?_; refine par_step (ok_move rfl rfl rfl) rfl ?_; refine par_step (ok_move rfl rfl rfl) rfl ?_; refine par_step (ok_indexAt L _ rfl rfl rfl rfl rfl rfl rfl (by omega)) rfl ?_; refine par_stepR (ok_loadHA L (q := 900) (vs := [_, _, _]) rfl rfl rfl rfl rfl rfl q1) rfl rfl ?_; refine par_step (ok_move rfl rfl rfl) rfl ?_; refine par_step (ok_move rfl rfl rfl) rfl ?_; refine par_step (ok_sub rfl rfl rfl rfl (by assumption)) rfl ?_; refine par_step (ok_indexAt L _ rfl rfl rfl rfl rfl rfl rfl (by omega)) rfl ?_; refine par_stepR (ok_loadHA L (q := 900) (vs := [_, _, _]) rfl rfl rfl rfl rfl rfl q2) rfl rfl ?_; refine par_step (ok_aneq rfl rfl rfl rfl eq49 (by assumption) rfl) rfl ?_; refine par_nil ?_; refine N_seq ?_; refine V_false rfl ?_; refine V_skip ?_; refine N_block ?_; refine N_seq ?_; refine V_region (id := 10) ?_; refine vo_step (ok_move rfl rfl rfl) rfl ?_; refine vo_step (ok_add rfl rfl rfl rfl (wrap_i64 (by omega) (by omega))) rfl ?_; refine vo_step (ok_assign rfl rfl rfl) rfl ?_; refine vo_nil ?_
              exact N_round (x := (k, j, ls)) (k, j + 1, ls) ⟨hls, by dsimp only; omega, by dsimp only; omega, htk.trans hst.symm, hdr'⟩ (by dsimp only; omega) ⟨rfl, rfl, rfl, rfl, rfl, trivial⟩
            · have hq := eq3 (decide_eq_false hzy)
              rw [if_neg hzy] at hst
              have hkl : k < ls.length := by omega
              have hset := gheld_set (rest := rest) (z := z) hkl (0 + k * 3) (by omega)
              have hble : Nat.ble (0 + k * 3 + 3) (ls.flatMap gcs3 ++ rest).length = true := Nat.ble_eq_true_of_le (by rw [List.length_append, g3_len]; omega)
              refine V_seq ?_; refine V_seq ?_; refine V_region (id := 9) ?_; refine vo_step (ok_move rfl rfl rfl) rfl ?_; refine vo_step (ok_move rfl rfl rfl) rfl ?_; refine vo_step (ok_lenL L rfl rfl rfl rfl) rfl ?_; refine vo_step (ok_lss rfl rfl rfl rfl (decide_eq_true (by omega))) rfl ?_; refine vo_nil ?_; refine N_seq ?_; refine V_true rfl ?_; refine V_skip ?_; refine N_seq ?_; refine V_seq ?_; refine V_block ?_; refine V_seq ?_; refine V_regionD (id := 11) [(200038, [900]), (200043, [900])] mixed (by kernel_rfl) ?_; refine par_step (ok_move rfl rfl rfl) rfl ?_; refine par_step (ok_move rfl rfl rfl) rfl ?_; refine par_step (ok_indexAt L _ rfl rfl rfl rfl rfl rfl rfl (by omega)) rfl ?_; refine par_stepR (ok_loadHA L (q := 900) (vs := [_, _, _]) rfl rfl rfl rfl rfl rfl q1) rfl rfl ?_; refine par_step (ok_move rfl rfl rfl) rfl ?_; refine par_step (ok_move rfl rfl rfl) rfl ?_; refine par_step (ok_sub rfl rfl rfl rfl (by assumption)) rfl ?_; refine par_step (ok_indexAt L _ rfl rfl rfl rfl rfl rfl rfl (by omega)) rfl ?_; refine par_stepR (ok_loadHA L (q := 900) (vs := [_, _, _]) rfl rfl rfl rfl rfl rfl q2) rfl rfl ?_; refine par_step (ok_aneq rfl rfl rfl rfl eq49 (by assumption) rfl) rfl ?_; refine par_nil ?_; refine N_seq ?_; refine V_true rfl ?_; refine V_seq ?_; refine V_region (id := 12) ?_; refine vo_step (ok_move rfl rfl rfl) rfl ?_; refine vo_step (ok_move rfl rfl rfl) rfl ?_; refine vo_step (ok_move rfl rfl rfl) rfl ?_; refine vo_step (ok_move rfl rfl rfl) rfl ?_; refine vo_step (ok_indexAt L _ rfl rfl rfl rfl rfl rfl rfl (by omega)) rfl ?_; refine vo_stepR (ok_loadHA L (q := 900) (vs := [_, _, _]) rfl rfl rfl rfl rfl rfl q1) ?_; refine vo_step (ok_indexAt L _ rfl rfl rfl rfl rfl rfl rfl (by omega)) rfl ?_; refine vo_stepS (ok_storeH L (q := 900) rfl rfl rfl rfl rfl rfl hble rfl hset) ?_; refine vo_nil ?_; refine N_seq ?_; refine V_region (id := 13) ?_; refine vo_step (ok_move rfl rfl rfl) rfl ?_; refine vo_step (ok_add rfl rfl rfl rfl (wrap_i64 (by omega) (by omega))) rfl ?_; refine vo_step (ok_assign rfl rfl rfl) rfl ?_; refine vo_nil ?_; refine N_block ?_; refine N_seq ?_; refine V_region (id := 10) ?_; refine vo_step (ok_move rfl rfl rfl) rfl ?_; refine vo_step (ok_add rfl rfl rfl rfl (wrap_i64 (by omega) (by omega))) rfl ?_; refine vo_step (ok_assign rfl rfl rfl) rfl ?_; refine vo_nil ?_
              exact N_round (x := (k, j, ls)) (k + 1, j + 1, ls.set k z) ⟨by rw [List.length_set]; exact hls, by dsimp only; omega, by dsimp only; omega, by
                dsimp only
                rw [show i + 1 + (j + 1) + 1 = i + 1 + j + 2 by omega, hst, ← htk, List.take_add_one, List.getElem?_set_self hkl, List.take_set_of_le (Nat.le_refl _)]; rfl, by
                dsimp only
                rw [List.drop_set_of_lt (by omega)]; exact hdr'⟩ (by dsimp only; omega) ⟨rfl, rfl, rfl, rfl, rfl, trivial⟩
          · have hfull : l.take (i + 1 + j + 1) = l := List.take_of_length_le (by omega)
            rw [hfull] at htk
            have hkd : (dd l).length = k := by rw [← htk, List.length_take]; omega
            subst hkd
            have hzl : (Builtin.zeroCells (Value.cells (.agg #[.string ⟨#[]⟩, .string ⟨#[]⟩, .string ⟨#[]⟩])) (l.length - (dd l).length)).toList.length = (l.length - (dd l).length) * 3 := by rw [Array.length_toList, size_zeroCells]; rfl
            have hcl2 := gheld_clear (rest := rest) (zs := (Builtin.zeroCells (Value.cells (.agg #[.string ⟨#[]⟩, .string ⟨#[]⟩, .string ⟨#[]⟩])) (l.length - (dd l).length)).toList) hls (by omega) (show 0 + (dd l).length * 3 = (dd l).length * 3 by omega)
            rw [htk] at hcl2
            have hne2 : ¬ cap = (dd l).length := by omega
            have hne3 : ¬ cap = 0 := by omega
            have hbd : 0 + (dd l).length * 3 + (l.length - (dd l).length) * 3 ≤ (ls.flatMap gcs3 ++ rest).length := by rw [List.length_append, g3_len]; omega
            refine V_seq ?_; refine V_seq ?_; refine V_region (id := 9) ?_; refine vo_step (ok_move rfl rfl rfl) rfl ?_; refine vo_step (ok_move rfl rfl rfl) rfl ?_; refine vo_step (ok_lenL L rfl rfl rfl rfl) rfl ?_; refine vo_step (ok_lss rfl rfl rfl rfl (decide_eq_false (by omega))) rfl ?_; refine vo_nil ?_; refine N_seq ?_; refine V_false rfl ?_; refine V_exit ?_; refine X_then ?_; refine X_then ?_; refine X_here ?_; refine N_seq ?_; refine V_seq ?_; refine V_region (id := 14) ?_; refine vo_step (ok_move rfl rfl rfl) rfl ?_; refine vo_step (ok_move rfl rfl rfl) rfl ?_; refine vo_step (ok_sliceI L (kh := .i64) (ph := 0) _ _ rfl rfl rfl rfl rfl ⟨rfl, rfl⟩ rfl (by omega) (by omega)) rfl ?_; rw [if_neg hne2]; refine vo_stepS (ok_clearH L (q := 900) rfl rfl rfl rfl el49 rfl rfl (.inr hbd) (fun _ => hcl2) (fun h => by omega)) ?_; refine vo_nil ?_; refine N_seq ?_; refine V_seq ?_; refine V_region (id := 15) ?_; refine vo_step (ok_move rfl rfl rfl) rfl ?_; refine vo_step (ok_move rfl rfl rfl) rfl ?_; refine vo_step (ok_sliceI L (kl := .i64) (pl := 0) 0 _ rfl rfl rfl rfl rfl rfl ⟨rfl, rfl⟩ (by omega) (by omega)) rfl ?_; refine vo_step (ok_assign rfl rfl rfl) rfl ?_; refine vo_nil ?_; refine N_seq ?_
            rw [if_neg hne3]
            refine V_releaseR (m := (dd l).length) (cap := cap) (s := 3) 2 900 rfl rfl rfl (g3_len _) (by omega) hcm (by
              rw [g3_len] at hl
              simp only [List.length_append, g3_len, hzl] at hcl ⊢
              omega) ?_
            exact V_retT rfl (fun _ _ h => h) Since.refl rfl
        · have hq := eq3 (decide_eq_false hzy)
          have hst := gdd_step hy hzz
          rw [if_neg hzy, hd] at hst
          refine V_seq ?_; refine V_seq ?_; refine V_region (id := 4) ?_; refine vo_step (ok_move rfl rfl rfl) rfl ?_; refine vo_step (ok_move rfl rfl rfl) rfl ?_; refine vo_step (ok_lenL L rfl rfl rfl rfl) rfl ?_; refine vo_step (ok_lss rfl rfl rfl rfl (decide_eq_true (by omega))) rfl ?_; refine vo_nil ?_; refine N_seq ?_; refine V_true rfl ?_; refine V_skip ?_; refine N_seq ?_; refine V_seq ?_; refine V_block ?_; refine V_seq ?_; refine V_regionD (id := 6) [(200019, [900]), (200024, [900])] mixed (by kernel_rfl) ?_; refine par_step (ok_move rfl rfl rfl) rfl ?_; refine par_step (ok_move rfl rfl rfl) rfl ?_; refine par_step (ok_indexAt L _ rfl rfl rfl rfl rfl rfl rfl (by omega)) rfl ?_; refine par_stepR (ok_loadHA L (q := 900) (vs := [_, _, _]) rfl rfl rfl rfl rfl rfl q1) rfl rfl ?_; refine par_step (ok_move rfl rfl rfl) rfl ?_; refine par_step (ok_move rfl rfl rfl) rfl ?_; refine par_step (ok_sub rfl rfl rfl rfl (by assumption)) rfl ?_; refine par_step (ok_indexAt L _ rfl rfl rfl rfl rfl rfl rfl (by omega)) rfl ?_; refine par_stepR (ok_loadHA L (q := 900) (vs := [_, _, _]) rfl rfl rfl rfl rfl rfl q2) rfl rfl ?_; refine par_step (ok_aeql rfl rfl rfl rfl eq49 (by assumption) rfl) rfl ?_; refine par_nil ?_; refine N_seq ?_; refine V_false rfl ?_; refine V_skip ?_; refine N_block ?_; refine N_seq ?_; refine V_region (id := 5) ?_; refine vo_step (ok_move rfl rfl rfl) rfl ?_; refine vo_step (ok_add rfl rfl rfl rfl (wrap_i64 (by omega) (by omega))) rfl ?_; refine vo_step (ok_assign rfl rfl rfl) rfl ?_; refine vo_nil ?_
          exact N_round (x := i) (i + 1) ⟨hlt, by rw [hst, List.take_add_one (i := i + 1), hzz]; rfl⟩ (by omega) ⟨rfl, rfl, rfl, trivial⟩
      · have hie : i + 1 = l.length := by omega
        rw [hie, List.take_length] at hd
        rw [hd]
        refine V_seq ?_; refine V_seq ?_; refine V_region (id := 4) ?_; refine vo_step (ok_move rfl rfl rfl) rfl ?_; refine vo_step (ok_move rfl rfl rfl) rfl ?_; refine vo_step (ok_lenL L rfl rfl rfl rfl) rfl ?_; refine vo_step (ok_lss rfl rfl rfl rfl (decide_eq_false (by omega))) rfl ?_; refine vo_nil ?_; refine N_seq ?_; refine V_false rfl ?_; refine V_exit ?_; refine X_then ?_; refine X_then ?_; refine X_here ?_; refine N_seq ?_; refine V_seq ?_; refine V_region (id := 16) ?_; refine vo_step (ok_move rfl rfl rfl) rfl ?_; refine vo_step (ok_assign rfl rfl rfl) rfl ?_; refine vo_nil ?_; refine N_seq ?_
        refine V_releaseR 2 900 rfl rfl rfl hl hmc hcm hcl ?_
        exact V_retT rfl (fun _ _ h => h) Since.refl rfl
end Go.V.L6
/- The walks of sets (chapter 6): goals, equality, sets of lists. -/
namespace Go.V.L6
open Go.Proofs Go.RowKit Go.V Go.V.L2 Go.V.L3
theorem LE2.out {φ : Value → Heap → Prop} {a v : Value} {H : Heap} (h : TupS [φ, fun v _ => v = a] v H) : ∃ tv, v = .tuple #[tv, a] ∧ φ tv H := by
  obtain ⟨vs, rfl, hl, h⟩ := h
  match vs, hl with
  | [x, y], _ =>
    have h1 := h 0 _ x rfl rfl
    have h2 := h 1 _ y rfl rfl
    subst h2
    exact ⟨x, rfl, h1⟩
def WithP (l : List U) (e : Int) (r : Value) (H : Heap) : Prop := ∃ tv, r = .tuple #[tv, .int .i64 e] ∧ SetV l tv H
theorem WithP.mono {l : List U} {e : Int} : Kn.mono (.sat (WithP l e)) := fun _ _ _ ⟨tv, h1, h2⟩ hle => ⟨tv, h1, h2.le hle⟩
theorem slist_ret {l : List U} (hl : l.length ≤ 100000) {v : Value} {w : World} {B : Heap} (hB : B.Le (hp w)) (hv : SetV l v B) : Ret Try.prog 40 [v] w B (US l true) := (slistO hl hB hv).toRet lend_SlE
theorem sgoal_ret {l M : List U} {g : Str3} (hM : goalL l g = M) (hl : l.length ≤ 100000) {v : Value} {w : World} {B : Heap} (hB : B.Le (hp w)) (hv : SetV l v B) : Ret Try.prog 36 [v, g3v g] w B (US M true) := (sgoalO hM hl hB hv).toRet lend_SlE
theorem ssub_ret {l M : List U} {g : Str3} (hM : subL l g = M) (hl : l.length ≤ 100000) {v : Value} {w : World} {B : Heap} (hB : B.Le (hp w)) (hv : SetV l v B) : Ret Try.prog 37 [v, g3v g] w B (US M true) := (ssubO hM hl hB hv).toRet lend_SlE
theorem smatch_ret {l Y : List U} {f : FT} (hM : matE l f = Y) (hl : l.length ≤ 100000) (hz : FM f) {v : Value} {w : World} {B : Heap} (hB : B.Le (hp w)) (hv : SetV l v B) : Ret Try.prog 41 [v, fv f] w B (US Y true) := (smatchO hM hl hz hB hv).toRet lend_SlC
theorem with_p {l m : List U} {x : U} {d : Bool} {e : Int} (hr : withU l x d = (m, e)) (hl : l.length ≤ 4096) (hz : TZ x) {v : Value} {w : World} {B : Heap} (hB : B.Le (hp w)) (hv : SetV l v B) :
    Ret Try.prog 33 [v, chv x d] w B (WithP m e) := (with_ret hr hl hz hB hv).mono fun _ _ _ h => LE2.out h
theorem g3_snoc {κ : Kap} {s : Nat} {r : List Str3} {t : Str3} (h : κ s = some (.own (SlR tyG3 3 (r.length + 1) (r.flatMap gcs3 ++ [.string t.1.1, .string t.1.2, .string t.2])))) : κ s = some (.own (SlR tyG3 3 (r ++ [t]).length ((r ++ [t]).flatMap gcs3))) := by
  rw [h, List.length_append, List.flatMap_append]
  rfl
attribute [local irreducible] V N X VO Par StepOK Has Ret RetL RetO RetT Src
theorem clipG_ret {l : List Str3} {fu : Bool} {v : Value} {w : World} {B : Heap} (hB : B.Le (hp w)) (hv : G3S l fu v B) : Ret Try.prog 80 [v] w B (G3S l true) := by
  refine V_enter Try.func80 rfl Try.ntmps80 (Nat.le_of_ble_eq_true rfl) hB ?_
  refine V_seen 0 (G3S l fu) rfl SlV.mono hv ?_
  refine V_seq ?_; refine V_region (id := 0) ?_; refine vo_step (ok_assign rfl rfl rfl) rfl ?_; refine vo_nil ?_; refine N_seq ?_; refine V_seq ?_; refine V_region (id := 1) ?_; refine vo_step (ok_moves' rfl rfl rfl) rfl ?_; refine vo_step (ok_moves' rfl rfl rfl) rfl ?_; refine vo_step (ok_lenV L rfl rfl rfl rfl) rfl ?_; refine vo_step (ok_moves' rfl rfl rfl) rfl ?_; refine vo_step (ok_lenV L rfl rfl rfl rfl) rfl ?_; refine vo_step (ok_clipV L rfl rfl rfl rfl rfl rfl rfl) rfl ?_; refine vo_step (ok_assigns' rfl rfl rfl) rfl ?_; refine vo_nil ?_; refine N_seq ?_
  refine V_ret L (rs := [.tmp 2]) rfl (fun _ _ h => h) Since.refl fun u H hH hle => ?_
  exact fun v hv => hv
set_option maxRecDepth 20000 in
set_option maxHeartbeats 1000000 in
theorem sgoals_ret {l : List U} {M : List Str3} (hM : goalsL l = M) (hl : l.length ≤ 100000) {v : Value} {w : World} {B : Heap} (hB : B.Le (hp w)) (hv : SetV l v B) : Ret Try.prog 39 [v] w B (G3S M true) := by
  obtain ⟨f1, p1, f2, q1, hsh, hpl⟩ := hv.shape
  subst hsh
  refine V_enter Try.func39 rfl Try.ntmps39 (Nat.le_of_ble_eq_true rfl) hB ?_
  refine V_seq ?_; refine V_region (id := 0) ?_; refine vo_step (ok_box rfl rfl rfl rfl) rfl ?_; refine vo_step (ok_assign rfl rfl rfl) rfl ?_; refine vo_nil ?_; refine N_seq ?_; refine V_seq ?_; refine V_region (id := 1) ?_; refine vo_step (ok_assign rfl rfl rfl) rfl ?_; refine vo_nil ?_; refine N_seq ?_; refine V_seq ?_; refine V_seq ?_
  refine V_nilR 3 tyG3 3 rfl ?_
  refine V_region (id := 2) ?_; refine vo_step (ok_loadA L (vs := [_, _, _, _]) (src_at rfl) rfl rfl rfl rfl ⟨_, rfl⟩) rfl ?_; refine vo_step (ok_call (φ := US l true) L rfl rfl (blt_lt rfl) rfl rfl rfl SlV.mono (fun u H hH hle _ => slist_ret hl hH (hv.le hle))) rfl ?_; refine vo_step (ok_lenV L rfl rfl rfl rfl) rfl ?_; refine vo_step (ok_move rfl rfl rfl) rfl ?_; refine vo_nil ?_; refine N_seq ?_; refine V_block ?_
  refine V_loop (fun k : Nat => [(3, .own (SlR tyG3 3 ((l.take k).map (·.1)).length (((l.take k).map (·.1)).flatMap gcs3))), (7, .sat (US l true)), (8, .is (.int .i64 l.length)), (9, .is (.int .i64 k))])
    (fun k => k ≤ l.length) (fun k => l.length - k) 0 (Nat.zero_le _) ⟨rfl, rfl, rfl, rfl, trivial⟩ ?_
  rintro k hk
  have hkl : ((l.take k).map (·.1)).length = k := by rw [List.length_map, List.length_take]; omega
  by_cases hlt : k < l.length
  · obtain ⟨t, ht⟩ := get_some hlt
    have hc := us_at ht
    have htk : (l.take (k + 1)).map (·.1) = (l.take k).map (·.1) ++ [t.1] := by rw [take_s ht, List.map_append]; rfl
    refine V_seq ?_; refine V_region (id := 3) ?_; refine vo_step (ok_lss rfl rfl rfl rfl (decide_eq_true (by omega))) rfl ?_; refine vo_nil ?_; refine N_seq ?_; refine V_seq ?_; refine V_true rfl ?_; refine V_skip ?_; refine N_seq ?_; refine V_seq ?_; refine V_block ?_; refine V_seq ?_; refine V_region (id := 4) ?_; refine vo_step (ok_indexV L _ rfl rfl rfl rfl rfl rfl rfl (by first | omega | decide) (by assumption)) rfl ?_; refine vo_step (ok_loadPA L (vs := [_, _, _, _, _, _]) rfl rfl rfl rfl rfl ⟨_, rfl⟩) rfl ?_; refine vo_step (ok_alloc L rfl rfl rfl rfl) rfl ?_; refine vo_step (ok_store L rfl rfl rfl rfl rfl rfl rfl rfl) rfl ?_; refine vo_nil ?_; refine N_seq ?_; refine V_pub 5 rfl ?_; refine V_region (id := 5) ?_; refine vo_step2 (ok_moveO (.inl rfl) rfl rfl rfl rfl) ?_; refine vo_step (ok_fieldAt L rfl rfl rfl rfl) rfl ?_; refine vo_step (ok_loadA L (vs := [_, _, _]) (src_at rfl) rfl rfl rfl rfl ⟨_, rfl⟩) rfl ?_; refine vo_step (ok_buildSlice L rfl rfl rfl rfl rfl rfl rfl rfl rfl) rfl ?_; refine vo_step2 (ok_append L rfl rfl rfl (apd_B rfl) rfl el49 rfl rfl (by omega) (by omega)) ?_; refine vo_step2 (ok_moveO (.inr rfl) rfl rfl rfl rfl) ?_; refine vo_nil ?_; refine N_block ?_; refine N_seq ?_; refine V_region (id := 6) ?_; refine vo_step (ok_add rfl rfl rfl rfl (wrap_i64 (by omega) (by omega))) rfl ?_; refine vo_step (ok_move rfl rfl rfl) rfl ?_; refine vo_nil ?_
    exact N_round (x := k) (k + 1) hlt (by omega) ⟨by rw [htk]; exact g3_snoc rfl, rfl, rfl, rfl, trivial⟩
  · obtain rfl : k = l.length := by omega
    rw [List.take_length]
    rw [List.take_length] at hkl
    have hdd : dd (l.map (·.1)) = M := hM
    refine V_seq ?_; refine V_region (id := 3) ?_; refine vo_step (ok_lss rfl rfl rfl rfl (decide_eq_false (by omega))) rfl ?_; refine vo_nil ?_; refine N_seq ?_; refine V_seq ?_; refine V_false rfl ?_; refine V_exit ?_; refine X_then ?_; refine X_then ?_; refine X_here ?_; refine N_seq ?_; refine V_seq ?_; refine V_region (id := 7) ?_; refine vo_step2 (ok_moveO (.inl rfl) rfl rfl rfl rfl) ?_; refine vo_step2 (ok_callTO L (q := 19) rfl rfl rfl rfl rfl (fun u H C x hH hle hx hC => gcompact_ret (by omega) hH hx hC)) ?_; refine vo_pubR 20 rfl ?_; refine vo_step (ok_call (φ := G3S M true) L rfl rfl (blt_lt rfl) rfl rfl rfl SlV.mono (fun u H hH _ _ v1 h1 => by rw [hdd] at h1; exact clipG_ret hH h1)) rfl ?_; refine vo_step (ok_assigns' rfl rfl rfl) rfl ?_; refine vo_nil ?_; refine N_seq ?_
    refine V_ret L (rs := [.tmp 2]) rfl (fun _ _ h => h) Since.refl fun u H hH hle => ?_
    exact fun v hv => hv
abbrev eqSl : Nat := 79
theorem equal_ret {a b : List U} {fa fb : Bool} (hla : a.length ≤ 1000000) (hlb : b.length ≤ 1000000) {r : Bool} (hr : decide (a = b) = r) {va vb : Value} {w : World} {B : Heap} (hB : B.Le (hp w)) (ha : US a fa va B) (hb : US b fb vb B) :
    Ret Try.prog eqSl [va, vb] w B (fun v _ => v = .bool r) := by
  subst hr
  refine V_enter Try.func79 rfl Try.ntmps79 (Nat.le_of_ble_eq_true rfl) hB ?_
  refine V_seen 0 (US a fa) rfl SlV.mono ha ?_
  refine V_seen 1 (US b fb) rfl SlV.mono hb ?_
  by_cases hl : a.length = b.length
  · refine V_seq ?_; refine V_region (id := 0) ?_; refine vo_step (ok_assign rfl rfl rfl) rfl ?_; refine vo_nil ?_; refine N_seq ?_; refine V_seq ?_; refine V_seq ?_; refine V_region (id := 1) ?_; refine vo_step (ok_moves' rfl rfl rfl) rfl ?_; refine vo_step (ok_lenV L rfl rfl rfl rfl) rfl ?_; refine vo_step (ok_moves' rfl rfl rfl) rfl ?_; refine vo_step (ok_lenV L rfl rfl rfl rfl) rfl ?_; refine vo_step (ok_neq rfl rfl rfl rfl (decide_eq_false (by omega))) rfl ?_; refine vo_nil ?_; refine N_seq ?_; refine V_false rfl ?_; refine V_skip ?_; refine N_seq ?_; refine V_seq ?_; refine V_seq ?_; refine V_region (id := 3) ?_; refine vo_step (ok_moves' rfl rfl rfl) rfl ?_; refine vo_step (ok_lenV L rfl rfl rfl rfl) rfl ?_; refine vo_step (ok_move rfl rfl rfl) rfl ?_; refine vo_nil ?_; refine N_seq ?_; refine V_block ?_
    refine V_loop (fun k : Nat => [(0, .sat (US a fa)), (1, .sat (US b fb)), (12, .is (.int .i64 a.length)), (13, .is (.int .i64 k))]) (fun k => k ≤ a.length ∧ a.take k = b.take k) (fun k => a.length - k) 0 ⟨Nat.zero_le _, rfl⟩ ⟨rfl, rfl, rfl, rfl, trivial⟩ ?_
    rintro k ⟨hk, he⟩
    by_cases hlt : k < a.length
    · obtain ⟨x, hx⟩ := get_some hlt
      obtain ⟨y, hy⟩ := get_some (show k < b.length by omega)
      have hcx := us_at hx
      have hcy := us_at hy
      by_cases hxy : x = y
      · have hq := eqU (decide_eq_true hxy)
        refine V_seq ?_; refine V_region (id := 4) ?_; refine vo_step (ok_lss rfl rfl rfl rfl (decide_eq_true (by omega))) rfl ?_; refine vo_nil ?_; refine N_seq ?_; refine V_seq ?_; refine V_true rfl ?_; refine V_skip ?_; refine N_seq ?_; refine V_seq ?_; refine V_block ?_; refine V_seq ?_; refine V_region (id := 5) ?_; refine vo_step (ok_move rfl rfl rfl) rfl ?_; refine vo_step (ok_assign rfl rfl rfl) rfl ?_; refine vo_nil ?_; refine N_seq ?_; refine V_seq ?_; refine V_regionD (id := 6) [] mixed (by kernel_rfl) ?_; refine par_step (ok_moves' rfl rfl rfl) rfl ?_; refine par_step (ok_move rfl rfl rfl) rfl ?_; refine par_step (ok_indexV L _ rfl rfl rfl rfl rfl rfl rfl (by first | omega | decide) (by assumption)) rfl ?_; refine par_step (ok_loadPA L (vs := [_, _, _, _, _, _]) rfl rfl rfl rfl rfl ⟨_, rfl⟩) rfl ?_; refine par_step (ok_moves' rfl rfl rfl) rfl ?_; refine par_step (ok_move rfl rfl rfl) rfl ?_; refine par_step (ok_indexV L _ rfl rfl rfl rfl rfl rfl rfl (by first | omega | decide) (by assumption)) rfl ?_; refine par_step (ok_loadPA L (vs := [_, _, _, _, _, _]) rfl rfl rfl rfl rfl ⟨_, rfl⟩) rfl ?_; refine par_step (ok_aneq rfl rfl rfl rfl eq51 (by assumption) rfl) rfl ?_; refine par_nil ?_; refine N_seq ?_; refine V_false rfl ?_; refine V_skip ?_; refine N_block ?_; refine N_seq ?_; refine V_region (id := 8) ?_; refine vo_step (ok_add rfl rfl rfl rfl (wrap_i64 (by omega) (by omega))) rfl ?_; refine vo_step (ok_move rfl rfl rfl) rfl ?_; refine vo_nil ?_
        exact N_round (x := k) (k + 1) ⟨hlt, by rw [take_s hx, take_s hy, he, hxy]⟩ (by omega) ⟨rfl, rfl, rfl, rfl, trivial⟩
      · have hq := eqU (decide_eq_false hxy)
        have hab : a ≠ b := fun e => hxy (by rw [e, hy] at hx; exact (Option.some.inj hx).symm)
        rw [decide_eq_false hab]
        refine V_seq ?_; refine V_region (id := 4) ?_; refine vo_step (ok_lss rfl rfl rfl rfl (decide_eq_true (by omega))) rfl ?_; refine vo_nil ?_; refine N_seq ?_; refine V_seq ?_; refine V_true rfl ?_; refine V_skip ?_; refine N_seq ?_; refine V_seq ?_; refine V_block ?_; refine V_seq ?_; refine V_region (id := 5) ?_; refine vo_step (ok_move rfl rfl rfl) rfl ?_; refine vo_step (ok_assign rfl rfl rfl) rfl ?_; refine vo_nil ?_; refine N_seq ?_; refine V_seq ?_; refine V_regionD (id := 6) [] mixed (by kernel_rfl) ?_; refine par_step (ok_moves' rfl rfl rfl) rfl ?_; refine par_step (ok_move rfl rfl rfl) rfl ?_; refine par_step (ok_indexV L _ rfl rfl rfl rfl rfl rfl rfl (by first | omega | decide) (by assumption)) rfl ?_; refine par_step (ok_loadPA L (vs := [_, _, _, _, _, _]) rfl rfl rfl rfl rfl ⟨_, rfl⟩) rfl ?_; refine par_step (ok_moves' rfl rfl rfl) rfl ?_; refine par_step (ok_move rfl rfl rfl) rfl ?_; refine par_step (ok_indexV L _ rfl rfl rfl rfl rfl rfl rfl (by first | omega | decide) (by assumption)) rfl ?_; refine par_step (ok_loadPA L (vs := [_, _, _, _, _, _]) rfl rfl rfl rfl rfl ⟨_, rfl⟩) rfl ?_; refine par_step (ok_aneq rfl rfl rfl rfl eq51 (by assumption) rfl) rfl ?_; refine par_nil ?_; refine N_seq ?_; refine V_true rfl ?_; refine V_seq ?_; refine V_region (id := 7) ?_; refine vo_step (ok_assign rfl rfl rfl) rfl ?_; refine vo_nil ?_; refine N_seq ?_
        refine V_ret L (rs := [.tmp 4]) rfl (fun _ _ h => h) Since.refl fun u H hH hle => ?_
        rfl
    · obtain rfl : k = a.length := by omega
      have hab : a = b := by rw [List.take_length, hl, List.take_length] at he; exact he
      rw [decide_eq_true hab]
      refine V_seq ?_; refine V_region (id := 4) ?_; refine vo_step (ok_lss rfl rfl rfl rfl (decide_eq_false (by omega))) rfl ?_; refine vo_nil ?_; refine N_seq ?_; refine V_seq ?_; refine V_false rfl ?_; refine V_exit ?_; refine X_then ?_; refine X_then ?_; refine X_here ?_; refine N_seq ?_; refine V_seq ?_; refine V_region (id := 9) ?_; refine vo_step (ok_assign rfl rfl rfl) rfl ?_; refine vo_nil ?_; refine N_seq ?_
      refine V_ret L (rs := [.tmp 4]) rfl (fun _ _ h => h) Since.refl fun u H hH hle => ?_
      rfl
  · have hab : a ≠ b := fun e => hl (by rw [e])
    rw [decide_eq_false hab]
    refine V_seq ?_; refine V_region (id := 0) ?_; refine vo_step (ok_assign rfl rfl rfl) rfl ?_; refine vo_nil ?_; refine N_seq ?_; refine V_seq ?_; refine V_seq ?_; refine V_region (id := 1) ?_; refine vo_step (ok_moves' rfl rfl rfl) rfl ?_; refine vo_step (ok_lenV L rfl rfl rfl rfl) rfl ?_; refine vo_step (ok_moves' rfl rfl rfl) rfl ?_; refine vo_step (ok_lenV L rfl rfl rfl rfl) rfl ?_; refine vo_step (ok_neq rfl rfl rfl rfl (decide_eq_true (by omega))) rfl ?_; refine vo_nil ?_; refine N_seq ?_; refine V_true rfl ?_; refine V_seq ?_; refine V_region (id := 2) ?_; refine vo_step (ok_assign rfl rfl rfl) rfl ?_; refine vo_nil ?_; refine N_seq ?_
    refine V_ret L (rs := [.tmp 4]) rfl (fun _ _ h => h) Since.refl fun u H hH hle => ?_
    rfl
theorem ssame_ret {a b : List U} (hla : a.length ≤ 100000) (hlb : b.length ≤ 100000) {r : Bool} (hr : decide (a = b) = r) {va vb : Value} {w : World} {B : Heap} (hB : B.Le (hp w)) (ha : SetV a va B) (hb : SetV b vb B) :
    Ret Try.prog 38 [va, vb] w B (fun v _ => v = .bool r) := by
  obtain ⟨f1, p1, f2, q1, hsh, hpl⟩ := ha.shape
  subst hsh
  obtain ⟨f3, p3, f4, q3, hsh, hpl3⟩ := hb.shape
  subst hsh
  refine V_enter Try.func38 rfl Try.ntmps38 (Nat.le_of_ble_eq_true rfl) hB ?_
  refine V_seq ?_; refine V_region (id := 0) ?_; refine vo_step (ok_box rfl rfl rfl rfl) rfl ?_; refine vo_step (ok_box rfl rfl rfl rfl) rfl ?_; refine vo_step (ok_assign rfl rfl rfl) rfl ?_; refine vo_nil ?_; refine N_seq ?_; refine V_seq ?_; refine V_region (id := 1) ?_; refine vo_step (ok_assign rfl rfl rfl) rfl ?_; refine vo_nil ?_; refine N_seq ?_; refine V_seq ?_; refine V_regionD (id := 2) [] mixed (by kernel_rfl) ?_; refine par_step (ok_move rfl rfl rfl) rfl ?_; refine par_step (ok_loadA L (vs := [_, _, _, _]) (src_at rfl) rfl rfl rfl rfl ⟨_, rfl⟩) rfl ?_; refine par_step (ok_call (φ := US a true) L rfl rfl (blt_lt rfl) rfl rfl rfl SlV.mono (fun u H hH hle _ => slist_ret hla hH (ha.le hle))) rfl ?_; refine par_step (ok_move rfl rfl rfl) rfl ?_; refine par_step (ok_loadA L (vs := [_, _, _, _]) (src_at rfl) rfl rfl rfl rfl ⟨_, rfl⟩) rfl ?_; refine par_step (ok_call (φ := US b true) L rfl rfl (blt_lt rfl) rfl rfl rfl SlV.mono (fun u H hH hle _ => slist_ret hlb hH (hb.le hle))) rfl ?_; refine par_step (ok_callx L rfl rfl (blt_lt rfl) rfl rfl rfl (fun u H hH _ _ v1 h1 v2 h2 => equal_ret (by omega) (by omega) hr hH h1 h2)) rfl ?_; refine par_step (ok_assign rfl rfl rfl) rfl ?_; refine par_nil ?_; refine N_seq ?_
  refine V_ret L (rs := [.tmp 4]) rfl (fun _ _ h => h) Since.refl fun u H hH hle => ?_
  rfl
set_option maxHeartbeats 2000000 in
theorem sof_ret {l m : List U} {fu : Bool} {e : Int} (hr : ofU [] l = (m, e)) (hl : l.length ≤ 100000) (hz : ∀ t ∈ l, TZ t) {v : Value} {w : World} {B : Heap} (hB : B.Le (hp w)) (hv : US l fu v B) :
    Ret Try.prog 32 [v] w B (WithP m e) := by
  refine V_enter Try.func32 rfl Try.ntmps32 (Nat.le_of_ble_eq_true rfl) hB ?_
  refine V_seen 0 (US l fu) rfl SlV.mono hv ?_
  refine V_seq ?_; refine V_region (id := 0) ?_; refine vo_step (ok_alloc L rfl rfl rfl rfl) rfl ?_; refine vo_step (ok_assign rfl rfl rfl) rfl ?_; refine vo_nil ?_; refine N_seq ?_; refine V_seq ?_; refine V_region (id := 1) ?_; refine vo_step (ok_alloc L rfl rfl rfl rfl) rfl ?_; refine vo_nil ?_; refine N_seq ?_; refine V_seq ?_; refine V_seq ?_; refine V_region (id := 2) ?_; refine vo_step (ok_moves' rfl rfl rfl) rfl ?_; refine vo_step (ok_lenV L rfl rfl rfl rfl) rfl ?_; refine vo_step (ok_move rfl rfl rfl) rfl ?_; refine vo_nil ?_; refine N_seq ?_; refine V_block ?_
  refine V_clsX (X := SXp) 4 (r := fun x => Cell (scs x.1) tySet) (φ := sphi []) (sphi_mono []) ⟨(.nilFunc, none, .nilFunc, none), rfl⟩ SetV.nil rfl ?_
  refine V_loop (fun y : Nat × List U => [(2, .own (Cell [.nilFunc, .pointer none, .nilFunc, .pointer none] tySet)), (4, .own (ExR (fun x : SXp => Cell (scs x.1) tySet) (sphi y.2) (sphi_mono y.2))), (9, .sat (US l fu)), (10, .is (.int .i64 l.length)), (11, .is (.int .i64 y.1))])
    (fun y => y.1 ≤ l.length ∧ ofU y.2 (l.drop y.1) = (m, e) ∧ y.2.length ≤ 4096) (fun y => l.length - y.1) (0, []) ⟨Nat.zero_le _, hr, Nat.zero_le _⟩ ⟨rfl, rfl, rfl, rfl, rfl, trivial⟩ ?_
  rintro ⟨k, s⟩ ⟨hk, he, hsl⟩
  dsimp only at hk he hsl ⊢
  refine V_opnX 4 rfl fun ⟨⟨f1, p1, f2, q1⟩, hpl⟩ H3 hs3 hT => ?_
  have hT : SetV s (.agg #[f1, .pointer p1, f2, .pointer q1]) H3 := hT
  by_cases hlt : k < l.length
  · obtain ⟨t, ht⟩ := get_some hlt
    have hc := us_at ht
    have hzt := hz t (List.mem_of_getElem? ht)
    rw [drop_g ht, ofU] at he
    rcases hw : withU s t false with ⟨s', e'⟩
    rw [hw] at he
    dsimp only at he
    have hsl' := withU_len hsl t false
    rw [hw] at hsl'
    by_cases h0 : e' = 0
    · rw [if_pos h0] at he
      subst h0
      refine V_seq ?_; refine V_region (id := 3) ?_; refine vo_step (ok_lss rfl rfl rfl rfl (decide_eq_true (by omega))) rfl ?_; refine vo_nil ?_; refine N_seq ?_; refine V_seq ?_; refine V_true rfl ?_; refine V_skip ?_; refine N_seq ?_; refine V_seq ?_; refine V_block ?_; refine V_seq ?_; refine V_region (id := 4) ?_; refine vo_step (ok_indexV L _ rfl rfl rfl rfl rfl rfl rfl (by first | omega | decide) (by assumption)) rfl ?_; refine vo_step (ok_loadPA L (vs := [_, _, _, _, _, _]) rfl rfl rfl rfl rfl ⟨_, rfl⟩) rfl ?_; refine vo_step (ok_alloc L rfl rfl rfl rfl) rfl ?_; refine vo_step (ok_store L rfl rfl rfl rfl rfl rfl rfl rfl) rfl ?_; refine vo_nil ?_; refine N_seq ?_; refine V_seq ?_; refine V_region (id := 5) ?_; refine vo_step (ok_loadA L (vs := [_, _, _, _]) (src_own rfl) rfl rfl rfl rfl ⟨_, rfl⟩) rfl ?_; refine vo_step (ok_loadA L (vs := [_, _, _, _, _, _]) (src_own rfl) rfl rfl rfl rfl ⟨_, rfl⟩) rfl ?_; refine vo_step (ok_build (cs := [_, _, _, _, _, _, _]) rfl rfl pl81 rfl rfl) rfl ?_; refine vo_step (ok_call (φ := WithP s' 0) L rfl rfl (blt_lt rfl) rfl rfl rfl WithP.mono (fun u H hH hle _ => with_p hw hsl hzt hH (hT.le hle))) rfl ?_; refine vo_opn 19 rfl ?_; rintro _ H19 hs19 ⟨tv, rfl, hT19⟩; obtain ⟨g1, r1, g2, r2, rfl, hpl2⟩ := hT19.shape; refine vo_step (ok_move rfl rfl rfl) rfl ?_; refine vo_step (ok_extract rfl rfl rfl rfl) rfl ?_; refine vo_step (ok_extract rfl rfl rfl rfl) rfl ?_; refine vo_step (ok_alloc L rfl rfl rfl rfl) rfl ?_; refine vo_step (ok_store L rfl rfl rfl rfl rfl rfl (by assumption) rfl) rfl ?_; refine vo_step (ok_assign rfl rfl rfl) rfl ?_; refine vo_nil ?_; refine N_seq ?_; refine V_seq ?_; refine V_seq ?_; refine V_region (id := 6) ?_; refine vo_step (ok_move rfl rfl rfl) rfl ?_; refine vo_step (ok_neq rfl rfl rfl rfl (decide_eq_false (by omega))) rfl ?_; refine vo_nil ?_; refine N_seq ?_; refine V_false rfl ?_; refine V_skip ?_; refine N_seq ?_; refine V_region (id := 8) ?_; refine vo_step (ok_loadA L (vs := [_, _, _, _]) (src_own rfl) rfl rfl rfl rfl ⟨_, rfl⟩) rfl ?_; refine vo_step (ok_store L rfl rfl rfl rfl rfl rfl (by assumption) rfl) rfl ?_; refine vo_nil ?_; refine N_block ?_; refine N_seq ?_; refine V_region (id := 9) ?_; refine vo_step (ok_add rfl rfl rfl rfl (wrap_i64 (by omega) (by omega))) rfl ?_; refine vo_step (ok_move rfl rfl rfl) rfl ?_; refine vo_nil ?_
      refine N_clsX (X := SXp) 4 (r := fun x => Cell (scs x.1) tySet) (φ := sphi s') (sphi_mono _) ⟨(g1, r1, g2, r2), hpl2⟩ hT19 rfl ?_
      exact N_roundS (x := (k, s)) (k + 1, s') (hs3.trans hs19) ⟨hlt, he, hsl'⟩ (by dsimp only; omega) ⟨rfl, rfl, rfl, rfl, rfl, trivial⟩
    · rw [if_neg h0] at he
      cases he
      refine V_seq ?_; refine V_region (id := 3) ?_; refine vo_step (ok_lss rfl rfl rfl rfl (decide_eq_true (by omega))) rfl ?_; refine vo_nil ?_; refine N_seq ?_; refine V_seq ?_; refine V_true rfl ?_; refine V_skip ?_; refine N_seq ?_; refine V_seq ?_; refine V_block ?_; refine V_seq ?_; refine V_region (id := 4) ?_; refine vo_step (ok_indexV L _ rfl rfl rfl rfl rfl rfl rfl (by first | omega | decide) (by assumption)) rfl ?_; refine vo_step (ok_loadPA L (vs := [_, _, _, _, _, _]) rfl rfl rfl rfl rfl ⟨_, rfl⟩) rfl ?_; refine vo_step (ok_alloc L rfl rfl rfl rfl) rfl ?_; refine vo_step (ok_store L rfl rfl rfl rfl rfl rfl rfl rfl) rfl ?_; refine vo_nil ?_; refine N_seq ?_; refine V_seq ?_; refine V_region (id := 5) ?_; refine vo_step (ok_loadA L (vs := [_, _, _, _]) (src_own rfl) rfl rfl rfl rfl ⟨_, rfl⟩) rfl ?_; refine vo_step (ok_loadA L (vs := [_, _, _, _, _, _]) (src_own rfl) rfl rfl rfl rfl ⟨_, rfl⟩) rfl ?_; refine vo_step (ok_build (cs := [_, _, _, _, _, _, _]) rfl rfl pl81 rfl rfl) rfl ?_; refine vo_step (ok_call (φ := WithP s' e) L rfl rfl (blt_lt rfl) rfl rfl rfl WithP.mono (fun u H hH hle _ => with_p hw hsl hzt hH (hT.le hle))) rfl ?_; refine vo_opn 19 rfl ?_; rintro _ H19 hs19 ⟨tv, rfl, hT19⟩; obtain ⟨g1, r1, g2, r2, rfl, hpl2⟩ := hT19.shape; refine vo_step (ok_move rfl rfl rfl) rfl ?_; refine vo_step (ok_extract rfl rfl rfl rfl) rfl ?_; refine vo_step (ok_extract rfl rfl rfl rfl) rfl ?_; refine vo_step (ok_alloc L rfl rfl rfl rfl) rfl ?_; refine vo_step (ok_store L rfl rfl rfl rfl rfl rfl (by assumption) rfl) rfl ?_; refine vo_step (ok_assign rfl rfl rfl) rfl ?_; refine vo_nil ?_; refine N_seq ?_; refine V_seq ?_; refine V_seq ?_; refine V_region (id := 6) ?_; refine vo_step (ok_move rfl rfl rfl) rfl ?_; refine vo_step (ok_neq rfl rfl rfl rfl (decide_eq_true (by omega))) rfl ?_; refine vo_nil ?_; refine N_seq ?_; refine V_true rfl ?_; refine V_seq ?_; refine V_region (id := 7) ?_; refine vo_step (ok_build (cs := [_, _, _, _]) rfl rfl pl76 rfl rfl) rfl ?_; refine vo_step (ok_move rfl rfl rfl) rfl ?_; refine vo_step (ok_store L rfl rfl rfl rfl rfl rfl rfl rfl) rfl ?_; refine vo_step (ok_assign rfl rfl rfl) rfl ?_; refine vo_nil ?_; refine N_seq ?_
      refine V_ret L (rs := [.cell 2 76, .tmp 3]) rfl (fun _ _ h => h) (hs3.trans hs19) fun u H hH hle => ?_
      exact ⟨_, src_own rfl, rfl, _, rfl, SetV.nil⟩
  · obtain rfl : k = l.length := by omega
    rw [List.drop_length, ofU] at he
    cases he
    refine V_seq ?_; refine V_region (id := 3) ?_; refine vo_step (ok_lss rfl rfl rfl rfl (decide_eq_false (by omega))) rfl ?_; refine vo_nil ?_; refine N_seq ?_; refine V_seq ?_; refine V_false rfl ?_; refine V_exit ?_; refine X_then ?_; refine X_then ?_; refine X_here ?_; refine N_seq ?_; refine V_seq ?_; refine V_region (id := 10) ?_; refine vo_step (ok_loadA L (vs := [_, _, _, _]) (src_own rfl) rfl rfl rfl rfl ⟨_, rfl⟩) rfl ?_; refine vo_step (ok_store L rfl rfl rfl rfl rfl rfl (by assumption) rfl) rfl ?_; refine vo_step (ok_assign rfl rfl rfl) rfl ?_; refine vo_nil ?_; refine N_seq ?_
    refine V_ret L (rs := [.cell 2 76, .tmp 3]) rfl (fun _ _ h => h) hs3 fun u H hH hle => ?_
    exact ⟨_, src_own rfl, rfl, _, rfl, hT.le hle⟩
end Go.V.L6
/- The walk of filters.Both (chapter 3). -/
namespace Go.V.L3
open Go.Proofs Go.RowKit Go.V Go.V.L2
attribute [local irreducible] V N X VO Par StepOK Has Ret RetL RetO RetT Src
end Go.V.L3
/- The walks of filters (chapter 3): texts. -/
namespace Go.V.L3
open Go.Proofs Go.RowKit Go.V Go.V.L2
abbrev sStar : ByteArray := ⟨#[42]⟩
def fldA (x : ByteArray) : ByteArray := if x = sStar then ⟨#[]⟩ else x
def fldE (x : ByteArray) : Int := if x = sStar then 0 else chk x
/-- What is read of parts. -/
def pfB (sp id rel u : ByteArray) (ex : Bool) : FT × Int :=
  if fldE sp = 0 then (if fldE id = 0 then (if fldE rel = 0 then
    (if ex = true then (if (psA u).2.2.2 = 0 then ((((fldA sp, fldA id), fldA rel), (((psA u).1, (psA u).2.1), (psA u).2.2.1), true), 0) else (nF, (psA u).2.2.2))
     else ((((fldA sp, fldA id), fldA rel), n3, false), 0))
    else (nF, fldE rel)) else (nF, fldE id)) else (nF, fldE sp)
def pfC (u sp id rel : ByteArray) (colon mark : Bool) : Bool := !hasA u 64 && colon && mark && !hasA sp 35 && !(hasA rel 58 || hasA rel 35) && !hasA id 58
def relOf (s : ByteArray) : ByteArray := (cutA (cutA (cutA s 64).1 58).2.1 35).2.1
/-- What is read of a text. -/
def pfA (s : ByteArray) : FT × Int :=
  if pfC (cutA s 64).2.1 (cutA (cutA s 64).1 58).1 (cutA (cutA (cutA s 64).1 58).2.1 35).1 (relOf s) (cutA (cutA s 64).1 58).2.2 (cutA (cutA (cutA s 64).1 58).2.1 35).2.2 = true then
    pfB (cutA (cutA s 64).1 58).1 (cutA (cutA (cutA s 64).1 58).2.1 35).1 (relOf s) (cutA s 64).2.1 (cutA s 64).2.2
  else (nF, 5)
attribute [local irreducible] V N X VO Par StepOK Has Ret RetL RetO RetT Src
theorem cut_ret' {s a b : ByteArray} {c : UInt8} {f : Bool} (h : cutA s c = (a, b, f)) (hs : s.size ≤ 1000000) {w : World} {B : Heap} (hB : B.Le (hp w)) (hM : GlobM B) :
    Ret Try.prog 62 [.string s, .string ⟨#[c]⟩] w B (fun v _ => v = .tuple #[.string a, .string b, .bool f]) := by
  have := cut_ret (s := s) (c := c) (f := f) hs hB hM (by rw [h])
  rw [h] at this
  exact this
theorem ps_ret3 {s a b c : ByteArray} {e : Int} (hr : psA s = (a, b, c, e)) (hs : s.size ≤ 1000000) {w : World} {B : Heap} (hB : B.Le (hp w)) (hM : GlobM B) :
    Ret Try.prog 65 [.string s] w B (fun v _ => v = .tuple #[.agg #[.string a, .string b, .string c], .int .i64 e]) := ps_ret' hr hs hB hM
set_option maxHeartbeats 16000000 in
set_option maxRecDepth 20000 in
theorem fparse_ret {s : ByteArray} {x : FT} {e : Int} (hr : pfA s = (x, e)) (hs : s.size ≤ 1000000) (hany : ∀ (w : World) (B : Heap), B.Le (hp w) → Ret Try.prog 64 [.string (relOf s), .string ⟨#[58, 35]⟩] w B (fun v _ => v = .bool (hasA (relOf s) 58 || hasA (relOf s) 35)))
    {w : World} {B : Heap} (hB : B.Le (hp w)) (hM : GlobM B) : Ret Try.prog 27 [.string s] w B (fun v _ => v = .tuple #[fv x, .int .i64 e]) := by
  unfold pfA at hr
  unfold relOf at hr hany
  have zz1 := cutA_size s 64
  rcases h1 : cutA s 64 with ⟨g, us, ex⟩
  rw [h1] at hr hany zz1
  dsimp only at hr hany zz1
  have zz2 := cutA_size g 58
  rcases h2 : cutA g 58 with ⟨sp, rest, colon⟩
  rw [h2] at hr hany zz2
  dsimp only at hr hany zz2
  have zz3 := cutA_size rest 35
  rcases h3 : cutA rest 35 with ⟨id, rel, mark⟩
  rw [h3] at hr hany zz3
  dsimp only at hr hany zz3
  have g1 : g.size ≤ 1000000 := by omega
  have g2 : rest.size ≤ 1000000 := by omega
  have g3 : us.size ≤ 1000000 := by omega
  have gs : sp.size ≤ 1000000 := by omega
  have gi : id.size ≤ 1000000 := by omega
  have gr : rel.size ≤ 1000000 := by omega
  clear zz1 zz2 zz3
  refine V_enter Try.func27 rfl Try.ntmps27 (Nat.le_of_ble_eq_true rfl) hB ?_
  refine V_seq ?_; refine V_region (id := 0) ?_; refine vo_step (ok_alloc L rfl rfl rfl rfl) rfl ?_; refine vo_step (ok_assign rfl rfl rfl) rfl ?_; refine vo_nil ?_; refine N_seq ?_; refine V_seq ?_; refine V_region (id := 1) ?_; refine vo_step (ok_move rfl rfl rfl) rfl ?_; refine vo_step (ok_callx L rfl rfl (blt_lt rfl) rfl rfl rfl (fun u H hH hle _ => cut_ret' h1 hs hH (hM.mono hle))) rfl ?_; refine vo_step (ok_move rfl rfl rfl) rfl ?_; refine vo_step (ok_extract rfl rfl rfl rfl) rfl ?_; refine vo_step (ok_extract rfl rfl rfl rfl) rfl ?_; refine vo_step (ok_extract rfl rfl rfl rfl) rfl ?_; refine vo_step (ok_assign rfl rfl rfl) rfl ?_; refine vo_step (ok_assign rfl rfl rfl) rfl ?_; refine vo_step (ok_assign rfl rfl rfl) rfl ?_; refine vo_nil ?_; refine N_seq ?_; refine V_seq ?_; refine V_region (id := 2) ?_; refine vo_step (ok_move rfl rfl rfl) rfl ?_; refine vo_step (ok_callx L rfl rfl (blt_lt rfl) rfl rfl rfl (fun u H hH hle _ => cut_ret' h2 g1 hH (hM.mono hle))) rfl ?_; refine vo_step (ok_move rfl rfl rfl) rfl ?_; refine vo_step (ok_extract rfl rfl rfl rfl) rfl ?_; refine vo_step (ok_extract rfl rfl rfl rfl) rfl ?_; refine vo_step (ok_extract rfl rfl rfl rfl) rfl ?_; refine vo_step (ok_assign rfl rfl rfl) rfl ?_; refine vo_step (ok_assign rfl rfl rfl) rfl ?_; refine vo_step (ok_assign rfl rfl rfl) rfl ?_; refine vo_nil ?_; refine N_seq ?_; refine V_seq ?_; refine V_region (id := 3) ?_; refine vo_step (ok_move rfl rfl rfl) rfl ?_; refine vo_step (ok_callx L rfl rfl (blt_lt rfl) rfl rfl rfl (fun u H hH hle _ => cut_ret' h3 g2 hH (hM.mono hle))) rfl ?_; refine vo_step (ok_move rfl rfl rfl) rfl ?_; refine vo_step (ok_extract rfl rfl rfl rfl) rfl ?_; refine vo_step (ok_extract rfl rfl rfl rfl) rfl ?_; refine vo_step (ok_extract rfl rfl rfl rfl) rfl ?_; refine vo_step (ok_assign rfl rfl rfl) rfl ?_; refine vo_step (ok_assign rfl rfl rfl) rfl ?_; refine vo_step (ok_assign rfl rfl rfl) rfl ?_; refine vo_nil ?_; refine N_seq ?_; refine V_seq ?_; refine V_seq ?_
  cases c1 : hasA us 64
  · cases colon
    · have hc : ¬ pfC us sp id rel false mark = true := by unfold pfC; rw [c1]; simp
      rw [if_neg hc] at hr
      cases hr
      refine V_region (id := 4) ?_; refine vo_step (ok_move rfl rfl rfl) rfl ?_; refine vo_step (ok_callx L rfl rfl (blt_lt rfl) rfl rfl rfl (fun u H hH hle _ => contains_ret hH c1)) rfl ?_; refine vo_step (ok_move rfl rfl rfl) rfl ?_; refine vo_step (ok_move rfl rfl rfl) rfl ?_; refine vo_step (ok_not rfl rfl rfl rfl) rfl ?_; refine vo_step (ok_pick rfl rfl rfl rfl) rfl ?_; refine vo_step (ok_move rfl rfl rfl) rfl ?_; refine vo_step (ok_skip rfl (blt_lt rfl) rfl) rfl ?_; refine vo_step (ok_skip rfl (blt_lt rfl) rfl) rfl ?_; refine vo_step (ok_pick rfl rfl rfl rfl) rfl ?_; refine vo_step (ok_move rfl rfl rfl) rfl ?_; refine vo_step (ok_skip rfl (blt_lt rfl) rfl) rfl ?_; refine vo_step (ok_skip rfl (blt_lt rfl) rfl) rfl ?_; refine vo_step (ok_pick rfl rfl rfl rfl) rfl ?_; refine vo_step (ok_move rfl rfl rfl) rfl ?_; refine vo_step (ok_skip rfl (blt_lt rfl) rfl) rfl ?_; refine vo_step (ok_skip rfl (blt_lt rfl) rfl) rfl ?_; refine vo_step (ok_pick rfl rfl rfl rfl) rfl ?_; refine vo_step (ok_move rfl rfl rfl) rfl ?_; refine vo_step (ok_skip rfl (blt_lt rfl) rfl) rfl ?_; refine vo_step (ok_skip rfl (blt_lt rfl) rfl) rfl ?_; refine vo_step (ok_pick rfl rfl rfl rfl) rfl ?_; refine vo_nil ?_; refine N_seq ?_; refine V_true rfl ?_; refine V_seq ?_; refine V_region (id := 5) ?_; refine vo_step (ok_build (cs := [_, _, _, _, _, _, _]) rfl rfl pl36 rfl rfl) rfl ?_; refine vo_step (ok_store L rfl rfl rfl rfl rfl rfl rfl rfl) rfl ?_; refine vo_step (ok_assign rfl rfl rfl) rfl ?_; refine vo_nil ?_; refine N_seq ?_
      refine V_ret L (rs := [.cell 2 36, .tmp 3]) rfl (fun _ _ h => h) Since.refl fun u H hH hle => ?_
      refine resK_cellA (src_own rfl) rfl rfl ?_
      rfl
    · cases mark
      · have hc : ¬ pfC us sp id rel true false = true := by unfold pfC; rw [c1]; simp
        rw [if_neg hc] at hr
        cases hr
        refine V_region (id := 4) ?_; refine vo_step (ok_move rfl rfl rfl) rfl ?_; refine vo_step (ok_callx L rfl rfl (blt_lt rfl) rfl rfl rfl (fun u H hH hle _ => contains_ret hH c1)) rfl ?_; refine vo_step (ok_move rfl rfl rfl) rfl ?_; refine vo_step (ok_move rfl rfl rfl) rfl ?_; refine vo_step (ok_not rfl rfl rfl rfl) rfl ?_; refine vo_step (ok_pick rfl rfl rfl rfl) rfl ?_; refine vo_step (ok_move rfl rfl rfl) rfl ?_; refine vo_step (ok_move rfl rfl rfl) rfl ?_; refine vo_step (ok_not rfl rfl rfl rfl) rfl ?_; refine vo_step (ok_pick rfl rfl rfl rfl) rfl ?_; refine vo_step (ok_move rfl rfl rfl) rfl ?_; refine vo_step (ok_skip rfl (blt_lt rfl) rfl) rfl ?_; refine vo_step (ok_skip rfl (blt_lt rfl) rfl) rfl ?_; refine vo_step (ok_pick rfl rfl rfl rfl) rfl ?_; refine vo_step (ok_move rfl rfl rfl) rfl ?_; refine vo_step (ok_skip rfl (blt_lt rfl) rfl) rfl ?_; refine vo_step (ok_skip rfl (blt_lt rfl) rfl) rfl ?_; refine vo_step (ok_pick rfl rfl rfl rfl) rfl ?_; refine vo_step (ok_move rfl rfl rfl) rfl ?_; refine vo_step (ok_skip rfl (blt_lt rfl) rfl) rfl ?_; refine vo_step (ok_skip rfl (blt_lt rfl) rfl) rfl ?_; refine vo_step (ok_pick rfl rfl rfl rfl) rfl ?_; refine vo_nil ?_; refine N_seq ?_; refine V_true rfl ?_; refine V_seq ?_; refine V_region (id := 5) ?_; refine vo_step (ok_build (cs := [_, _, _, _, _, _, _]) rfl rfl pl36 rfl rfl) rfl ?_; refine vo_step (ok_store L rfl rfl rfl rfl rfl rfl rfl rfl) rfl ?_; refine vo_step (ok_assign rfl rfl rfl) rfl ?_; refine vo_nil ?_; refine N_seq ?_
        refine V_ret L (rs := [.cell 2 36, .tmp 3]) rfl (fun _ _ h => h) Since.refl fun u H hH hle => ?_
        refine resK_cellA (src_own rfl) rfl rfl ?_
        rfl
      · cases c4 : hasA sp 35
        · cases c5 : (hasA rel 58 || hasA rel 35)
          · have any5 : ∀ (w : World) (B : Heap), B.Le (hp w) → Ret Try.prog 64 [.string rel, .string ⟨#[58, 35]⟩] w B (fun v _ => v = .bool false) := fun w B h => by have := hany w B h; rwa [c5] at this
            cases c6 : hasA id 58
            · have hc : pfC us sp id rel true true = true := by unfold pfC; rw [c1, c4, c5, c6]; rfl
              rw [if_pos hc] at hr
              clear hc hany
              unfold pfB at hr
              refine V_region (id := 4) ?_; refine vo_step (ok_move rfl rfl rfl) rfl ?_; refine vo_step (ok_callx L rfl rfl (blt_lt rfl) rfl rfl rfl (fun u H hH hle _ => contains_ret hH c1)) rfl ?_; refine vo_step (ok_move rfl rfl rfl) rfl ?_; refine vo_step (ok_move rfl rfl rfl) rfl ?_; refine vo_step (ok_not rfl rfl rfl rfl) rfl ?_; refine vo_step (ok_pick rfl rfl rfl rfl) rfl ?_; refine vo_step (ok_move rfl rfl rfl) rfl ?_; refine vo_step (ok_move rfl rfl rfl) rfl ?_; refine vo_step (ok_not rfl rfl rfl rfl) rfl ?_; refine vo_step (ok_pick rfl rfl rfl rfl) rfl ?_; refine vo_step (ok_move rfl rfl rfl) rfl ?_; refine vo_step (ok_move rfl rfl rfl) rfl ?_; refine vo_step (ok_callx L rfl rfl (blt_lt rfl) rfl rfl rfl (fun u H hH hle _ => contains_ret hH c4)) rfl ?_; refine vo_step (ok_pick rfl rfl rfl rfl) rfl ?_; refine vo_step (ok_move rfl rfl rfl) rfl ?_; refine vo_step (ok_move rfl rfl rfl) rfl ?_; refine vo_step (ok_callx L rfl rfl (blt_lt rfl) rfl rfl rfl (fun u H hH hle _ => any5 u H hH)) rfl ?_; refine vo_step (ok_pick rfl rfl rfl rfl) rfl ?_; refine vo_step (ok_move rfl rfl rfl) rfl ?_; refine vo_step (ok_move rfl rfl rfl) rfl ?_; refine vo_step (ok_callx L rfl rfl (blt_lt rfl) rfl rfl rfl (fun u H hH hle _ => contains_ret hH c6)) rfl ?_; refine vo_step (ok_pick rfl rfl rfl rfl) rfl ?_; refine vo_nil ?_; refine N_seq ?_; refine V_false rfl ?_; refine V_skip ?_; refine N_seq ?_; refine V_seq ?_; refine V_region (id := 6) ?_; refine vo_step (ok_move rfl rfl rfl) rfl ?_; refine vo_step (ok_build (cs := [_, _, _, _, _, _, _]) rfl rfl pl36 rfl rfl) rfl ?_; refine vo_step (ok_alloc L rfl rfl rfl rfl) rfl ?_; refine vo_step (ok_store L rfl rfl rfl rfl rfl rfl rfl rfl) rfl ?_; refine vo_nil ?_; refine N_seq ?_; refine V_seq ?_; refine V_seq ?_; refine V_region (id := 7) ?_; refine vo_step (ok_move rfl rfl rfl) rfl ?_; refine vo_step (ok_move rfl rfl rfl) rfl ?_; refine vo_step (ok_move rfl rfl rfl) rfl ?_; refine vo_step (ok_build (cs := [_, _, _]) rfl rfl pl116 rfl rfl) rfl ?_; refine vo_step (ok_move rfl rfl rfl) rfl ?_; refine vo_nil ?_; refine N_seq ?_; refine V_block ?_
              refine V_hold 13 902 rfl fun b => ?_
              refine V_loop (fun y : Nat × ByteArray × ByteArray × ByteArray => [(2, .own (Cell [.string ⟨#[]⟩, .string ⟨#[]⟩, .string ⟨#[]⟩, .string ⟨#[]⟩, .string ⟨#[]⟩, .string ⟨#[]⟩, .bool false] tyF)), (5, .is (.string us)), (6, .is (.bool ex)), (13, .is (.pointer (some ⟨b, 0, none⟩))), (65, .is (.agg #[.string sp, .string id, .string rel])), (66, .is (.int .i64 y.1)), (902, .own (HeldR b [.string y.2.1, .string y.2.2.1, .string y.2.2.2, .string ⟨#[]⟩, .string ⟨#[]⟩, .string ⟨#[]⟩, .bool ex] tyF))])
                (fun y => y.1 ≤ 3 ∧ y.2 = (if 0 < y.1 then fldA sp else ⟨#[]⟩, if 1 < y.1 then fldA id else ⟨#[]⟩, if 2 < y.1 then fldA rel else ⟨#[]⟩) ∧ (0 < y.1 → fldE sp = 0) ∧ (1 < y.1 → fldE id = 0) ∧ (2 < y.1 → fldE rel = 0)) (fun y => 3 - y.1) (0, ⟨#[]⟩, ⟨#[]⟩, ⟨#[]⟩) ⟨Nat.zero_le _, rfl, fun h => (by omega), fun h => (by omega), fun h => (by omega)⟩ ⟨rfl, rfl, rfl, rfl, rfl, rfl, rfl, trivial⟩ ?_
              rintro ⟨k, y0, y1, y2⟩ ⟨hk, hy, i0, i1, i2⟩
              dsimp only at hk hy i0 i1 i2 ⊢
              rcases k with _ | _ | _ | _ | k
              · have hy : (y0, y1, y2) = (⟨#[]⟩, ⟨#[]⟩, ⟨#[]⟩) := hy
                obtain ⟨rfl, rfl, rfl⟩ : y0 = ⟨#[]⟩ ∧ y1 = ⟨#[]⟩ ∧ y2 = ⟨#[]⟩ := by simpa using hy
                by_cases hx : sp = sStar
                · have hf : fldE sp = 0 := if_pos hx
                  have hv : fldA sp = ⟨#[]⟩ := if_pos hx
                  refine V_seq ?_; refine V_region (id := 8) ?_; refine vo_step (ok_lss rfl rfl rfl rfl (decide_eq_true (by omega))) rfl ?_; refine vo_nil ?_; refine N_seq ?_; refine V_seq ?_; refine V_true rfl ?_; refine V_skip ?_; refine N_seq ?_; refine V_seq ?_; refine V_block ?_; refine V_seq ?_; refine V_region (id := 9) ?_; refine vo_step (ok_move rfl rfl rfl) rfl ?_; refine vo_step (ok_indexAg1 L _ rfl rfl rfl rfl ar116 rfl rfl (by first | omega | decide) rfl) rfl ?_; refine vo_step (ok_assign rfl rfl rfl) rfl ?_; refine vo_step (ok_assign rfl rfl rfl) rfl ?_; refine vo_nil ?_; refine N_seq ?_; refine V_seq ?_; refine V_seq ?_; refine V_region (id := 10) ?_; refine vo_step (ok_move rfl rfl rfl) rfl ?_; refine vo_step (ok_seql rfl rfl rfl rfl (decide_eq_true (by assumption))) rfl ?_; refine vo_nil ?_; refine N_seq ?_; refine V_true rfl ?_; refine V_exit ?_; refine X_then ?_; refine X_here ?_; refine N_seq ?_; refine V_region (id := 15) ?_; refine vo_step (ok_add rfl rfl rfl rfl (wrap_i64 (by omega) (by omega))) rfl ?_; refine vo_step (ok_move rfl rfl rfl) rfl ?_; refine vo_nil ?_
                  exact N_round (x := (0, ⟨#[]⟩, ⟨#[]⟩, ⟨#[]⟩)) (1, fldA sp, ⟨#[]⟩, ⟨#[]⟩) ⟨by dsimp only; omega, rfl, fun _ => hf, fun h => (by simp at h), fun h => (by simp at h)⟩ (by dsimp only; omega) ⟨rfl, rfl, rfl, rfl, rfl, rfl, by rw [hv]; rfl, trivial⟩
                · have hv : fldA sp = sp := if_neg hx
                  have hfe : fldE sp = chk sp := if_neg hx
                  by_cases h0 : chk sp = 0
                  · have hf : fldE sp = 0 := hfe.trans h0
                    refine V_seq ?_; refine V_region (id := 8) ?_; refine vo_step (ok_lss rfl rfl rfl rfl (decide_eq_true (by omega))) rfl ?_; refine vo_nil ?_; refine N_seq ?_; refine V_seq ?_; refine V_true rfl ?_; refine V_skip ?_; refine N_seq ?_; refine V_seq ?_; refine V_block ?_; refine V_seq ?_; refine V_region (id := 9) ?_; refine vo_step (ok_move rfl rfl rfl) rfl ?_; refine vo_step (ok_indexAg1 L _ rfl rfl rfl rfl ar116 rfl rfl (by first | omega | decide) rfl) rfl ?_; refine vo_step (ok_assign rfl rfl rfl) rfl ?_; refine vo_step (ok_assign rfl rfl rfl) rfl ?_; refine vo_nil ?_; refine N_seq ?_; refine V_seq ?_; refine V_seq ?_; refine V_region (id := 10) ?_; refine vo_step (ok_move rfl rfl rfl) rfl ?_; refine vo_step (ok_seql rfl rfl rfl rfl (decide_eq_false (by assumption))) rfl ?_; refine vo_nil ?_; refine N_seq ?_; refine V_false rfl ?_; refine V_skip ?_; refine N_seq ?_; refine V_seq ?_; refine V_seq ?_; refine V_region (id := 11) ?_; refine vo_step (ok_move rfl rfl rfl) rfl ?_; refine vo_step (ok_callx L rfl rfl (blt_lt rfl) rfl rfl rfl (fun u H hH _ _ => check_ret _ (by omega) hH)) rfl ?_; refine vo_step (ok_assign rfl rfl rfl) rfl ?_; refine vo_nil ?_; refine N_seq ?_; refine V_seq ?_; refine V_region (id := 12) ?_; refine vo_step (ok_move rfl rfl rfl) rfl ?_; refine vo_step (ok_neq rfl rfl rfl rfl (decide_eq_false (by omega))) rfl ?_; refine vo_nil ?_; refine N_seq ?_; refine V_false rfl ?_; refine V_skip ?_; refine N_seq ?_; refine V_region (id := 14) ?_; refine vo_step (ok_fieldP L rfl rfl rfl rfl) rfl ?_; refine vo_step (ok_fieldP L rfl rfl rfl rfl) rfl ?_; refine vo_step (ok_fieldP L rfl rfl rfl rfl) rfl ?_; refine vo_step (ok_build (cs := [_, _, _]) rfl rfl pl117 rfl rfl) rfl ?_; refine vo_step (ok_move rfl rfl rfl) rfl ?_; refine vo_step (ok_indexAg1 L _ rfl rfl rfl rfl ar117 rfl rfl (by first | omega | decide) rfl) rfl ?_; refine vo_step (ok_move rfl rfl rfl) rfl ?_; refine vo_step (ok_nil rfl rfl rfl) rfl ?_; refine vo_stepS (ok_storeH L (q := 902) rfl rfl rfl rfl rfl rfl rfl rfl rfl) ?_; refine vo_nil ?_; refine N_block ?_; refine N_seq ?_; refine V_region (id := 15) ?_; refine vo_step (ok_add rfl rfl rfl rfl (wrap_i64 (by omega) (by omega))) rfl ?_; refine vo_step (ok_move rfl rfl rfl) rfl ?_; refine vo_nil ?_
                    exact N_round (x := (0, ⟨#[]⟩, ⟨#[]⟩, ⟨#[]⟩)) (1, fldA sp, ⟨#[]⟩, ⟨#[]⟩) ⟨by dsimp only; omega, rfl, fun _ => hf, fun h => (by simp at h), fun h => (by simp at h)⟩ (by dsimp only; omega) ⟨rfl, rfl, rfl, rfl, rfl, rfl, by rw [hv]; rfl, trivial⟩
                  · rw [if_neg (by rw [hfe]; exact h0), hfe] at hr
                    cases hr
                    refine V_seq ?_; refine V_region (id := 8) ?_; refine vo_step (ok_lss rfl rfl rfl rfl (decide_eq_true (by omega))) rfl ?_; refine vo_nil ?_; refine N_seq ?_; refine V_seq ?_; refine V_true rfl ?_; refine V_skip ?_; refine N_seq ?_; refine V_seq ?_; refine V_block ?_; refine V_seq ?_; refine V_region (id := 9) ?_; refine vo_step (ok_move rfl rfl rfl) rfl ?_; refine vo_step (ok_indexAg1 L _ rfl rfl rfl rfl ar116 rfl rfl (by first | omega | decide) rfl) rfl ?_; refine vo_step (ok_assign rfl rfl rfl) rfl ?_; refine vo_step (ok_assign rfl rfl rfl) rfl ?_; refine vo_nil ?_; refine N_seq ?_; refine V_seq ?_; refine V_seq ?_; refine V_region (id := 10) ?_; refine vo_step (ok_move rfl rfl rfl) rfl ?_; refine vo_step (ok_seql rfl rfl rfl rfl (decide_eq_false (by assumption))) rfl ?_; refine vo_nil ?_; refine N_seq ?_; refine V_false rfl ?_; refine V_skip ?_; refine N_seq ?_; refine V_seq ?_; refine V_seq ?_; refine V_region (id := 11) ?_; refine vo_step (ok_move rfl rfl rfl) rfl ?_; refine vo_step (ok_callx L rfl rfl (blt_lt rfl) rfl rfl rfl (fun u H hH _ _ => check_ret _ (by omega) hH)) rfl ?_; refine vo_step (ok_assign rfl rfl rfl) rfl ?_; refine vo_nil ?_; refine N_seq ?_; refine V_seq ?_; refine V_region (id := 12) ?_; refine vo_step (ok_move rfl rfl rfl) rfl ?_; refine vo_step (ok_neq rfl rfl rfl rfl (decide_eq_true (by omega))) rfl ?_; refine vo_nil ?_; refine N_seq ?_; refine V_true rfl ?_; refine V_seq ?_; refine V_region (id := 13) ?_; refine vo_step (ok_build (cs := [_, _, _, _, _, _, _]) rfl rfl pl36 rfl rfl) rfl ?_; refine vo_step (ok_move rfl rfl rfl) rfl ?_; refine vo_step (ok_store L rfl rfl rfl rfl rfl rfl rfl rfl) rfl ?_; refine vo_step (ok_assign rfl rfl rfl) rfl ?_; refine vo_nil ?_; refine N_seq ?_
                    refine V_ret L (rs := [.cell 2 36, .tmp 3]) rfl (fun _ _ h => h) Since.refl fun u H hH hle => ?_
                    refine resK_cellA (src_own rfl) rfl rfl ?_
                    rfl
              · have hy : (y0, y1, y2) = (fldA sp, ⟨#[]⟩, ⟨#[]⟩) := hy
                obtain ⟨rfl, rfl, rfl⟩ : y0 = fldA sp ∧ y1 = ⟨#[]⟩ ∧ y2 = ⟨#[]⟩ := by simpa using hy
                rw [if_pos (i0 (by decide))] at hr
                by_cases hx : id = sStar
                · have hf : fldE id = 0 := if_pos hx
                  have hv : fldA id = ⟨#[]⟩ := if_pos hx
                  refine V_seq ?_; refine V_region (id := 8) ?_; refine vo_step (ok_lss rfl rfl rfl rfl (decide_eq_true (by omega))) rfl ?_; refine vo_nil ?_; refine N_seq ?_; refine V_seq ?_; refine V_true rfl ?_; refine V_skip ?_; refine N_seq ?_; refine V_seq ?_; refine V_block ?_; refine V_seq ?_; refine V_region (id := 9) ?_; refine vo_step (ok_move rfl rfl rfl) rfl ?_; refine vo_step (ok_indexAg1 L _ rfl rfl rfl rfl ar116 rfl rfl (by first | omega | decide) rfl) rfl ?_; refine vo_step (ok_assign rfl rfl rfl) rfl ?_; refine vo_step (ok_assign rfl rfl rfl) rfl ?_; refine vo_nil ?_; refine N_seq ?_; refine V_seq ?_; refine V_seq ?_; refine V_region (id := 10) ?_; refine vo_step (ok_move rfl rfl rfl) rfl ?_; refine vo_step (ok_seql rfl rfl rfl rfl (decide_eq_true (by assumption))) rfl ?_; refine vo_nil ?_; refine N_seq ?_; refine V_true rfl ?_; refine V_exit ?_; refine X_then ?_; refine X_here ?_; refine N_seq ?_; refine V_region (id := 15) ?_; refine vo_step (ok_add rfl rfl rfl rfl (wrap_i64 (by omega) (by omega))) rfl ?_; refine vo_step (ok_move rfl rfl rfl) rfl ?_; refine vo_nil ?_
                  exact N_round (x := (1, fldA sp, ⟨#[]⟩, ⟨#[]⟩)) (2, fldA sp, fldA id, ⟨#[]⟩) ⟨by dsimp only; omega, rfl, fun _ => i0 (by decide), fun _ => hf, fun h => (by simp at h)⟩ (by dsimp only; omega) ⟨rfl, rfl, rfl, rfl, rfl, rfl, by rw [hv]; rfl, trivial⟩
                · have hv : fldA id = id := if_neg hx
                  have hfe : fldE id = chk id := if_neg hx
                  by_cases h0 : chk id = 0
                  · have hf : fldE id = 0 := hfe.trans h0
                    refine V_seq ?_; refine V_region (id := 8) ?_; refine vo_step (ok_lss rfl rfl rfl rfl (decide_eq_true (by omega))) rfl ?_; refine vo_nil ?_; refine N_seq ?_; refine V_seq ?_; refine V_true rfl ?_; refine V_skip ?_; refine N_seq ?_; refine V_seq ?_; refine V_block ?_; refine V_seq ?_; refine V_region (id := 9) ?_; refine vo_step (ok_move rfl rfl rfl) rfl ?_; refine vo_step (ok_indexAg1 L _ rfl rfl rfl rfl ar116 rfl rfl (by first | omega | decide) rfl) rfl ?_; refine vo_step (ok_assign rfl rfl rfl) rfl ?_; refine vo_step (ok_assign rfl rfl rfl) rfl ?_; refine vo_nil ?_; refine N_seq ?_; refine V_seq ?_; refine V_seq ?_; refine V_region (id := 10) ?_; refine vo_step (ok_move rfl rfl rfl) rfl ?_; refine vo_step (ok_seql rfl rfl rfl rfl (decide_eq_false (by assumption))) rfl ?_; refine vo_nil ?_; refine N_seq ?_; refine V_false rfl ?_; refine V_skip ?_; refine N_seq ?_; refine V_seq ?_; refine V_seq ?_; refine V_region (id := 11) ?_; refine vo_step (ok_move rfl rfl rfl) rfl ?_; refine vo_step (ok_callx L rfl rfl (blt_lt rfl) rfl rfl rfl (fun u H hH _ _ => check_ret _ (by omega) hH)) rfl ?_; refine vo_step (ok_assign rfl rfl rfl) rfl ?_; refine vo_nil ?_; refine N_seq ?_; refine V_seq ?_; refine V_region (id := 12) ?_; refine vo_step (ok_move rfl rfl rfl) rfl ?_; refine vo_step (ok_neq rfl rfl rfl rfl (decide_eq_false (by omega))) rfl ?_; refine vo_nil ?_; refine N_seq ?_; refine V_false rfl ?_; refine V_skip ?_; refine N_seq ?_; refine V_region (id := 14) ?_; refine vo_step (ok_fieldP L rfl rfl rfl rfl) rfl ?_; refine vo_step (ok_fieldP L rfl rfl rfl rfl) rfl ?_; refine vo_step (ok_fieldP L rfl rfl rfl rfl) rfl ?_; refine vo_step (ok_build (cs := [_, _, _]) rfl rfl pl117 rfl rfl) rfl ?_; refine vo_step (ok_move rfl rfl rfl) rfl ?_; refine vo_step (ok_indexAg1 L _ rfl rfl rfl rfl ar117 rfl rfl (by first | omega | decide) rfl) rfl ?_; refine vo_step (ok_move rfl rfl rfl) rfl ?_; refine vo_step (ok_nil rfl rfl rfl) rfl ?_; refine vo_stepS (ok_storeH L (q := 902) rfl rfl rfl rfl rfl rfl rfl rfl rfl) ?_; refine vo_nil ?_; refine N_block ?_; refine N_seq ?_; refine V_region (id := 15) ?_; refine vo_step (ok_add rfl rfl rfl rfl (wrap_i64 (by omega) (by omega))) rfl ?_; refine vo_step (ok_move rfl rfl rfl) rfl ?_; refine vo_nil ?_
                    exact N_round (x := (1, fldA sp, ⟨#[]⟩, ⟨#[]⟩)) (2, fldA sp, fldA id, ⟨#[]⟩) ⟨by dsimp only; omega, rfl, fun _ => i0 (by decide), fun _ => hf, fun h => (by simp at h)⟩ (by dsimp only; omega) ⟨rfl, rfl, rfl, rfl, rfl, rfl, by rw [hv]; rfl, trivial⟩
                  · rw [if_neg (by rw [hfe]; exact h0), hfe] at hr
                    cases hr
                    refine V_seq ?_; refine V_region (id := 8) ?_; refine vo_step (ok_lss rfl rfl rfl rfl (decide_eq_true (by omega))) rfl ?_; refine vo_nil ?_; refine N_seq ?_; refine V_seq ?_; refine V_true rfl ?_; refine V_skip ?_; refine N_seq ?_; refine V_seq ?_; refine V_block ?_; refine V_seq ?_; refine V_region (id := 9) ?_; refine vo_step (ok_move rfl rfl rfl) rfl ?_; refine vo_step (ok_indexAg1 L _ rfl rfl rfl rfl ar116 rfl rfl (by first | omega | decide) rfl) rfl ?_; refine vo_step (ok_assign rfl rfl rfl) rfl ?_; refine vo_step (ok_assign rfl rfl rfl) rfl ?_; refine vo_nil ?_; refine N_seq ?_; refine V_seq ?_; refine V_seq ?_; refine V_region (id := 10) ?_; refine vo_step (ok_move rfl rfl rfl) rfl ?_; refine vo_step (ok_seql rfl rfl rfl rfl (decide_eq_false (by assumption))) rfl ?_; refine vo_nil ?_; refine N_seq ?_; refine V_false rfl ?_; refine V_skip ?_; refine N_seq ?_; refine V_seq ?_; refine V_seq ?_; refine V_region (id := 11) ?_; refine vo_step (ok_move rfl rfl rfl) rfl ?_; refine vo_step (ok_callx L rfl rfl (blt_lt rfl) rfl rfl rfl (fun u H hH _ _ => check_ret _ (by omega) hH)) rfl ?_; refine vo_step (ok_assign rfl rfl rfl) rfl ?_; refine vo_nil ?_; refine N_seq ?_; refine V_seq ?_; refine V_region (id := 12) ?_; refine vo_step (ok_move rfl rfl rfl) rfl ?_; refine vo_step (ok_neq rfl rfl rfl rfl (decide_eq_true (by omega))) rfl ?_; refine vo_nil ?_; refine N_seq ?_; refine V_true rfl ?_; refine V_seq ?_; refine V_region (id := 13) ?_; refine vo_step (ok_build (cs := [_, _, _, _, _, _, _]) rfl rfl pl36 rfl rfl) rfl ?_; refine vo_step (ok_move rfl rfl rfl) rfl ?_; refine vo_step (ok_store L rfl rfl rfl rfl rfl rfl rfl rfl) rfl ?_; refine vo_step (ok_assign rfl rfl rfl) rfl ?_; refine vo_nil ?_; refine N_seq ?_
                    refine V_ret L (rs := [.cell 2 36, .tmp 3]) rfl (fun _ _ h => h) Since.refl fun u H hH hle => ?_
                    refine resK_cellA (src_own rfl) rfl rfl ?_
                    rfl
              · have hy : (y0, y1, y2) = (fldA sp, fldA id, ⟨#[]⟩) := hy
                obtain ⟨rfl, rfl, rfl⟩ : y0 = fldA sp ∧ y1 = fldA id ∧ y2 = ⟨#[]⟩ := by simpa using hy
                rw [if_pos (i0 (by decide))] at hr
                rw [if_pos (i1 (by decide))] at hr
                by_cases hx : rel = sStar
                · have hf : fldE rel = 0 := if_pos hx
                  have hv : fldA rel = ⟨#[]⟩ := if_pos hx
                  refine V_seq ?_; refine V_region (id := 8) ?_; refine vo_step (ok_lss rfl rfl rfl rfl (decide_eq_true (by omega))) rfl ?_; refine vo_nil ?_; refine N_seq ?_; refine V_seq ?_; refine V_true rfl ?_; refine V_skip ?_; refine N_seq ?_; refine V_seq ?_; refine V_block ?_; refine V_seq ?_; refine V_region (id := 9) ?_; refine vo_step (ok_move rfl rfl rfl) rfl ?_; refine vo_step (ok_indexAg1 L _ rfl rfl rfl rfl ar116 rfl rfl (by first | omega | decide) rfl) rfl ?_; refine vo_step (ok_assign rfl rfl rfl) rfl ?_; refine vo_step (ok_assign rfl rfl rfl) rfl ?_; refine vo_nil ?_; refine N_seq ?_; refine V_seq ?_; refine V_seq ?_; refine V_region (id := 10) ?_; refine vo_step (ok_move rfl rfl rfl) rfl ?_; refine vo_step (ok_seql rfl rfl rfl rfl (decide_eq_true (by assumption))) rfl ?_; refine vo_nil ?_; refine N_seq ?_; refine V_true rfl ?_; refine V_exit ?_; refine X_then ?_; refine X_here ?_; refine N_seq ?_; refine V_region (id := 15) ?_; refine vo_step (ok_add rfl rfl rfl rfl (wrap_i64 (by omega) (by omega))) rfl ?_; refine vo_step (ok_move rfl rfl rfl) rfl ?_; refine vo_nil ?_
                  exact N_round (x := (2, fldA sp, fldA id, ⟨#[]⟩)) (3, fldA sp, fldA id, fldA rel) ⟨by dsimp only; omega, rfl, fun _ => i0 (by decide), fun _ => i1 (by decide), fun _ => hf⟩ (by dsimp only; omega) ⟨rfl, rfl, rfl, rfl, rfl, rfl, by rw [hv]; rfl, trivial⟩
                · have hv : fldA rel = rel := if_neg hx
                  have hfe : fldE rel = chk rel := if_neg hx
                  by_cases h0 : chk rel = 0
                  · have hf : fldE rel = 0 := hfe.trans h0
                    refine V_seq ?_; refine V_region (id := 8) ?_; refine vo_step (ok_lss rfl rfl rfl rfl (decide_eq_true (by omega))) rfl ?_; refine vo_nil ?_; refine N_seq ?_; refine V_seq ?_; refine V_true rfl ?_; refine V_skip ?_; refine N_seq ?_; refine V_seq ?_; refine V_block ?_; refine V_seq ?_; refine V_region (id := 9) ?_; refine vo_step (ok_move rfl rfl rfl) rfl ?_; refine vo_step (ok_indexAg1 L _ rfl rfl rfl rfl ar116 rfl rfl (by first | omega | decide) rfl) rfl ?_; refine vo_step (ok_assign rfl rfl rfl) rfl ?_; refine vo_step (ok_assign rfl rfl rfl) rfl ?_; refine vo_nil ?_; refine N_seq ?_; refine V_seq ?_; refine V_seq ?_; refine V_region (id := 10) ?_; refine vo_step (ok_move rfl rfl rfl) rfl ?_; refine vo_step (ok_seql rfl rfl rfl rfl (decide_eq_false (by assumption))) rfl ?_; refine vo_nil ?_; refine N_seq ?_; refine V_false rfl ?_; refine V_skip ?_; refine N_seq ?_; refine V_seq ?_; refine V_seq ?_; refine V_region (id := 11) ?_; refine vo_step (ok_move rfl rfl rfl) rfl ?_; refine vo_step (ok_callx L rfl rfl (blt_lt rfl) rfl rfl rfl (fun u H hH _ _ => check_ret _ (by omega) hH)) rfl ?_; refine vo_step (ok_assign rfl rfl rfl) rfl ?_; refine vo_nil ?_; refine N_seq ?_; refine V_seq ?_; refine V_region (id := 12) ?_; refine vo_step (ok_move rfl rfl rfl) rfl ?_; refine vo_step (ok_neq rfl rfl rfl rfl (decide_eq_false (by omega))) rfl ?_; refine vo_nil ?_; refine N_seq ?_; refine V_false rfl ?_; refine V_skip ?_; refine N_seq ?_; refine V_region (id := 14) ?_; refine vo_step (ok_fieldP L rfl rfl rfl rfl) rfl ?_; refine vo_step (ok_fieldP L rfl rfl rfl rfl) rfl ?_; refine vo_step (ok_fieldP L rfl rfl rfl rfl) rfl ?_; refine vo_step (ok_build (cs := [_, _, _]) rfl rfl pl117 rfl rfl) rfl ?_; refine vo_step (ok_move rfl rfl rfl) rfl ?_; refine vo_step (ok_indexAg1 L _ rfl rfl rfl rfl ar117 rfl rfl (by first | omega | decide) rfl) rfl ?_; refine vo_step (ok_move rfl rfl rfl) rfl ?_; refine vo_step (ok_nil rfl rfl rfl) rfl ?_; refine vo_stepS (ok_storeH L (q := 902) rfl rfl rfl rfl rfl rfl rfl rfl rfl) ?_; refine vo_nil ?_; refine N_block ?_; refine N_seq ?_; refine V_region (id := 15) ?_; refine vo_step (ok_add rfl rfl rfl rfl (wrap_i64 (by omega) (by omega))) rfl ?_; refine vo_step (ok_move rfl rfl rfl) rfl ?_; refine vo_nil ?_
                    exact N_round (x := (2, fldA sp, fldA id, ⟨#[]⟩)) (3, fldA sp, fldA id, fldA rel) ⟨by dsimp only; omega, rfl, fun _ => i0 (by decide), fun _ => i1 (by decide), fun _ => hf⟩ (by dsimp only; omega) ⟨rfl, rfl, rfl, rfl, rfl, rfl, by rw [hv]; rfl, trivial⟩
                  · rw [if_neg (by rw [hfe]; exact h0), hfe] at hr
                    cases hr
                    refine V_seq ?_; refine V_region (id := 8) ?_; refine vo_step (ok_lss rfl rfl rfl rfl (decide_eq_true (by omega))) rfl ?_; refine vo_nil ?_; refine N_seq ?_; refine V_seq ?_; refine V_true rfl ?_; refine V_skip ?_; refine N_seq ?_; refine V_seq ?_; refine V_block ?_; refine V_seq ?_; refine V_region (id := 9) ?_; refine vo_step (ok_move rfl rfl rfl) rfl ?_; refine vo_step (ok_indexAg1 L _ rfl rfl rfl rfl ar116 rfl rfl (by first | omega | decide) rfl) rfl ?_; refine vo_step (ok_assign rfl rfl rfl) rfl ?_; refine vo_step (ok_assign rfl rfl rfl) rfl ?_; refine vo_nil ?_; refine N_seq ?_; refine V_seq ?_; refine V_seq ?_; refine V_region (id := 10) ?_; refine vo_step (ok_move rfl rfl rfl) rfl ?_; refine vo_step (ok_seql rfl rfl rfl rfl (decide_eq_false (by assumption))) rfl ?_; refine vo_nil ?_; refine N_seq ?_; refine V_false rfl ?_; refine V_skip ?_; refine N_seq ?_; refine V_seq ?_; refine V_seq ?_; refine V_region (id := 11) ?_; refine vo_step (ok_move rfl rfl rfl) rfl ?_; refine vo_step (ok_callx L rfl rfl (blt_lt rfl) rfl rfl rfl (fun u H hH _ _ => check_ret _ (by omega) hH)) rfl ?_; refine vo_step (ok_assign rfl rfl rfl) rfl ?_; refine vo_nil ?_; refine N_seq ?_; refine V_seq ?_; refine V_region (id := 12) ?_; refine vo_step (ok_move rfl rfl rfl) rfl ?_; refine vo_step (ok_neq rfl rfl rfl rfl (decide_eq_true (by omega))) rfl ?_; refine vo_nil ?_; refine N_seq ?_; refine V_true rfl ?_; refine V_seq ?_; refine V_region (id := 13) ?_; refine vo_step (ok_build (cs := [_, _, _, _, _, _, _]) rfl rfl pl36 rfl rfl) rfl ?_; refine vo_step (ok_move rfl rfl rfl) rfl ?_; refine vo_step (ok_store L rfl rfl rfl rfl rfl rfl rfl rfl) rfl ?_; refine vo_step (ok_assign rfl rfl rfl) rfl ?_; refine vo_nil ?_; refine N_seq ?_
                    refine V_ret L (rs := [.cell 2 36, .tmp 3]) rfl (fun _ _ h => h) Since.refl fun u H hH hle => ?_
                    refine resK_cellA (src_own rfl) rfl rfl ?_
                    rfl
              · have hy : (y0, y1, y2) = (fldA sp, fldA id, fldA rel) := hy
                obtain ⟨rfl, rfl, rfl⟩ : y0 = fldA sp ∧ y1 = fldA id ∧ y2 = fldA rel := by simpa using hy
                rw [if_pos (i0 (by decide)), if_pos (i1 (by decide)), if_pos (i2 (by decide))] at hr
                cases ex
                · rw [if_neg (by decide)] at hr
                  cases hr
                  refine V_seq ?_; refine V_region (id := 8) ?_; refine vo_step (ok_lss rfl rfl rfl rfl (decide_eq_false (by omega))) rfl ?_; refine vo_nil ?_; refine N_seq ?_; refine V_seq ?_; refine V_false rfl ?_; refine V_exit ?_; refine X_then ?_; refine X_then ?_; refine X_here ?_; refine N_seq ?_; refine V_seq ?_; refine V_seq ?_; refine V_region (id := 16) ?_; refine vo_step (ok_move rfl rfl rfl) rfl ?_; refine vo_nil ?_; refine N_seq ?_; refine V_false rfl ?_; refine V_skip ?_; refine N_seq ?_; refine V_seq ?_; refine V_region (id := 21) ?_; refine vo_stepR (ok_loadHA L (q := 902) (vs := [_, _, _, _, _, _, _]) rfl rfl rfl rfl rfl rfl ⟨_, rfl⟩) ?_; refine vo_step (ok_store L rfl rfl rfl rfl rfl rfl rfl rfl) rfl ?_; refine vo_step (ok_assign rfl rfl rfl) rfl ?_; refine vo_nil ?_; refine N_seq ?_
                  refine V_ret L (rs := [.cell 2 36, .tmp 3]) rfl (fun _ _ h => h) Since.refl fun u H hH hle => ?_
                  refine resK_cellA (src_own rfl) rfl rfl ?_
                  rfl
                · rw [if_pos rfl] at hr
                  rcases hp : psA us with ⟨a, b', c, e'⟩
                  rw [hp] at hr
                  dsimp only at hr
                  by_cases he : e' = 0
                  · rw [if_pos he] at hr
                    cases hr
                    refine V_seq ?_; refine V_region (id := 8) ?_; refine vo_step (ok_lss rfl rfl rfl rfl (decide_eq_false (by omega))) rfl ?_; refine vo_nil ?_; refine N_seq ?_; refine V_seq ?_; refine V_false rfl ?_; refine V_exit ?_; refine X_then ?_; refine X_then ?_; refine X_here ?_; refine N_seq ?_; refine V_seq ?_; refine V_seq ?_; refine V_region (id := 16) ?_; refine vo_step (ok_move rfl rfl rfl) rfl ?_; refine vo_nil ?_; refine N_seq ?_; refine V_true rfl ?_; refine V_seq ?_; refine V_region (id := 17) ?_; refine vo_step (ok_move rfl rfl rfl) rfl ?_; refine vo_step (ok_callx L rfl rfl (blt_lt rfl) rfl rfl rfl (fun u H hH hle _ => ps_ret3 hp g3 hH (hM.mono hle))) rfl ?_; refine vo_step (ok_move rfl rfl rfl) rfl ?_; refine vo_step (ok_extract rfl rfl rfl rfl) rfl ?_; refine vo_step (ok_extract rfl rfl rfl rfl) rfl ?_; refine vo_step (ok_alloc L rfl rfl rfl rfl) rfl ?_; refine vo_step (ok_store L rfl rfl rfl rfl rfl rfl rfl rfl) rfl ?_; refine vo_step (ok_assign rfl rfl rfl) rfl ?_; refine vo_nil ?_; refine N_seq ?_; refine V_seq ?_; refine V_seq ?_; refine V_region (id := 18) ?_; refine vo_step (ok_move rfl rfl rfl) rfl ?_; refine vo_step (ok_neq rfl rfl rfl rfl (decide_eq_false (by omega))) rfl ?_; refine vo_nil ?_; refine N_seq ?_; refine V_false rfl ?_; refine V_skip ?_; refine N_seq ?_; refine V_region (id := 20) ?_; refine vo_step (ok_loadA L (vs := [_, _, _]) (src_own rfl) rfl rfl rfl rfl ⟨_, rfl⟩) rfl ?_; refine vo_step (ok_fieldP L rfl rfl rfl rfl) rfl ?_; refine vo_stepS (ok_storeH L (q := 902) rfl rfl rfl rfl rfl rfl rfl rfl rfl) ?_; refine vo_nil ?_; refine N_seq ?_; refine V_seq ?_; refine V_region (id := 21) ?_; refine vo_stepR (ok_loadHA L (q := 902) (vs := [_, _, _, _, _, _, _]) rfl rfl rfl rfl rfl rfl ⟨_, rfl⟩) ?_; refine vo_step (ok_store L rfl rfl rfl rfl rfl rfl rfl rfl) rfl ?_; refine vo_step (ok_assign rfl rfl rfl) rfl ?_; refine vo_nil ?_; refine N_seq ?_
                    refine V_ret L (rs := [.cell 2 36, .tmp 3]) rfl (fun _ _ h => h) Since.refl fun u H hH hle => ?_
                    refine resK_cellA (src_own rfl) rfl rfl ?_
                    rfl
                  · rw [if_neg he] at hr
                    cases hr
                    refine V_seq ?_; refine V_region (id := 8) ?_; refine vo_step (ok_lss rfl rfl rfl rfl (decide_eq_false (by omega))) rfl ?_; refine vo_nil ?_; refine N_seq ?_; refine V_seq ?_; refine V_false rfl ?_; refine V_exit ?_; refine X_then ?_; refine X_then ?_; refine X_here ?_; refine N_seq ?_; refine V_seq ?_; refine V_seq ?_; refine V_region (id := 16) ?_; refine vo_step (ok_move rfl rfl rfl) rfl ?_; refine vo_nil ?_; refine N_seq ?_; refine V_true rfl ?_; refine V_seq ?_; refine V_region (id := 17) ?_; refine vo_step (ok_move rfl rfl rfl) rfl ?_; refine vo_step (ok_callx L rfl rfl (blt_lt rfl) rfl rfl rfl (fun u H hH hle _ => ps_ret3 hp g3 hH (hM.mono hle))) rfl ?_; refine vo_step (ok_move rfl rfl rfl) rfl ?_; refine vo_step (ok_extract rfl rfl rfl rfl) rfl ?_; refine vo_step (ok_extract rfl rfl rfl rfl) rfl ?_; refine vo_step (ok_alloc L rfl rfl rfl rfl) rfl ?_; refine vo_step (ok_store L rfl rfl rfl rfl rfl rfl rfl rfl) rfl ?_; refine vo_step (ok_assign rfl rfl rfl) rfl ?_; refine vo_nil ?_; refine N_seq ?_; refine V_seq ?_; refine V_seq ?_; refine V_region (id := 18) ?_; refine vo_step (ok_move rfl rfl rfl) rfl ?_; refine vo_step (ok_neq rfl rfl rfl rfl (decide_eq_true (by omega))) rfl ?_; refine vo_nil ?_; refine N_seq ?_; refine V_true rfl ?_; refine V_seq ?_; refine V_region (id := 19) ?_; refine vo_step (ok_build (cs := [_, _, _, _, _, _, _]) rfl rfl pl36 rfl rfl) rfl ?_; refine vo_step (ok_move rfl rfl rfl) rfl ?_; refine vo_step (ok_store L rfl rfl rfl rfl rfl rfl rfl rfl) rfl ?_; refine vo_step (ok_assign rfl rfl rfl) rfl ?_; refine vo_nil ?_; refine N_seq ?_
                    refine V_ret L (rs := [.cell 2 36, .tmp 3]) rfl (fun _ _ h => h) Since.refl fun u H hH hle => ?_
                    refine resK_cellA (src_own rfl) rfl rfl ?_
                    rfl
              · omega
            · have hc : ¬ pfC us sp id rel true true = true := by unfold pfC; rw [c1, c4, c5, c6]; simp
              rw [if_neg hc] at hr
              cases hr
              refine V_region (id := 4) ?_; refine vo_step (ok_move rfl rfl rfl) rfl ?_; refine vo_step (ok_callx L rfl rfl (blt_lt rfl) rfl rfl rfl (fun u H hH hle _ => contains_ret hH c1)) rfl ?_; refine vo_step (ok_move rfl rfl rfl) rfl ?_; refine vo_step (ok_move rfl rfl rfl) rfl ?_; refine vo_step (ok_not rfl rfl rfl rfl) rfl ?_; refine vo_step (ok_pick rfl rfl rfl rfl) rfl ?_; refine vo_step (ok_move rfl rfl rfl) rfl ?_; refine vo_step (ok_move rfl rfl rfl) rfl ?_; refine vo_step (ok_not rfl rfl rfl rfl) rfl ?_; refine vo_step (ok_pick rfl rfl rfl rfl) rfl ?_; refine vo_step (ok_move rfl rfl rfl) rfl ?_; refine vo_step (ok_move rfl rfl rfl) rfl ?_; refine vo_step (ok_callx L rfl rfl (blt_lt rfl) rfl rfl rfl (fun u H hH hle _ => contains_ret hH c4)) rfl ?_; refine vo_step (ok_pick rfl rfl rfl rfl) rfl ?_; refine vo_step (ok_move rfl rfl rfl) rfl ?_; refine vo_step (ok_move rfl rfl rfl) rfl ?_; refine vo_step (ok_callx L rfl rfl (blt_lt rfl) rfl rfl rfl (fun u H hH hle _ => any5 u H hH)) rfl ?_; refine vo_step (ok_pick rfl rfl rfl rfl) rfl ?_; refine vo_step (ok_move rfl rfl rfl) rfl ?_; refine vo_step (ok_move rfl rfl rfl) rfl ?_; refine vo_step (ok_callx L rfl rfl (blt_lt rfl) rfl rfl rfl (fun u H hH hle _ => contains_ret hH c6)) rfl ?_; refine vo_step (ok_pick rfl rfl rfl rfl) rfl ?_; refine vo_nil ?_; refine N_seq ?_; refine V_true rfl ?_; refine V_seq ?_; refine V_region (id := 5) ?_; refine vo_step (ok_build (cs := [_, _, _, _, _, _, _]) rfl rfl pl36 rfl rfl) rfl ?_; refine vo_step (ok_store L rfl rfl rfl rfl rfl rfl rfl rfl) rfl ?_; refine vo_step (ok_assign rfl rfl rfl) rfl ?_; refine vo_nil ?_; refine N_seq ?_
              refine V_ret L (rs := [.cell 2 36, .tmp 3]) rfl (fun _ _ h => h) Since.refl fun u H hH hle => ?_
              refine resK_cellA (src_own rfl) rfl rfl ?_
              rfl
          · have any5 : ∀ (w : World) (B : Heap), B.Le (hp w) → Ret Try.prog 64 [.string rel, .string ⟨#[58, 35]⟩] w B (fun v _ => v = .bool true) := fun w B h => by have := hany w B h; rwa [c5] at this
            have hc : ¬ pfC us sp id rel true true = true := by unfold pfC; rw [c5]; simp
            rw [if_neg hc] at hr
            cases hr
            refine V_region (id := 4) ?_; refine vo_step (ok_move rfl rfl rfl) rfl ?_; refine vo_step (ok_callx L rfl rfl (blt_lt rfl) rfl rfl rfl (fun u H hH hle _ => contains_ret hH c1)) rfl ?_; refine vo_step (ok_move rfl rfl rfl) rfl ?_; refine vo_step (ok_move rfl rfl rfl) rfl ?_; refine vo_step (ok_not rfl rfl rfl rfl) rfl ?_; refine vo_step (ok_pick rfl rfl rfl rfl) rfl ?_; refine vo_step (ok_move rfl rfl rfl) rfl ?_; refine vo_step (ok_move rfl rfl rfl) rfl ?_; refine vo_step (ok_not rfl rfl rfl rfl) rfl ?_; refine vo_step (ok_pick rfl rfl rfl rfl) rfl ?_; refine vo_step (ok_move rfl rfl rfl) rfl ?_; refine vo_step (ok_move rfl rfl rfl) rfl ?_; refine vo_step (ok_callx L rfl rfl (blt_lt rfl) rfl rfl rfl (fun u H hH hle _ => contains_ret hH c4)) rfl ?_; refine vo_step (ok_pick rfl rfl rfl rfl) rfl ?_; refine vo_step (ok_move rfl rfl rfl) rfl ?_; refine vo_step (ok_move rfl rfl rfl) rfl ?_; refine vo_step (ok_callx L rfl rfl (blt_lt rfl) rfl rfl rfl (fun u H hH hle _ => any5 u H hH)) rfl ?_; refine vo_step (ok_pick rfl rfl rfl rfl) rfl ?_; refine vo_step (ok_move rfl rfl rfl) rfl ?_; refine vo_step (ok_skip rfl (blt_lt rfl) rfl) rfl ?_; refine vo_step (ok_skip rfl (blt_lt rfl) rfl) rfl ?_; refine vo_step (ok_pick rfl rfl rfl rfl) rfl ?_; refine vo_nil ?_; refine N_seq ?_; refine V_true rfl ?_; refine V_seq ?_; refine V_region (id := 5) ?_; refine vo_step (ok_build (cs := [_, _, _, _, _, _, _]) rfl rfl pl36 rfl rfl) rfl ?_; refine vo_step (ok_store L rfl rfl rfl rfl rfl rfl rfl rfl) rfl ?_; refine vo_step (ok_assign rfl rfl rfl) rfl ?_; refine vo_nil ?_; refine N_seq ?_
            refine V_ret L (rs := [.cell 2 36, .tmp 3]) rfl (fun _ _ h => h) Since.refl fun u H hH hle => ?_
            refine resK_cellA (src_own rfl) rfl rfl ?_
            rfl
        · have hc : ¬ pfC us sp id rel true true = true := by unfold pfC; rw [c4]; simp
          rw [if_neg hc] at hr
          cases hr
          refine V_region (id := 4) ?_; refine vo_step (ok_move rfl rfl rfl) rfl ?_; refine vo_step (ok_callx L rfl rfl (blt_lt rfl) rfl rfl rfl (fun u H hH hle _ => contains_ret hH c1)) rfl ?_; refine vo_step (ok_move rfl rfl rfl) rfl ?_; refine vo_step (ok_move rfl rfl rfl) rfl ?_; refine vo_step (ok_not rfl rfl rfl rfl) rfl ?_; refine vo_step (ok_pick rfl rfl rfl rfl) rfl ?_; refine vo_step (ok_move rfl rfl rfl) rfl ?_; refine vo_step (ok_move rfl rfl rfl) rfl ?_; refine vo_step (ok_not rfl rfl rfl rfl) rfl ?_; refine vo_step (ok_pick rfl rfl rfl rfl) rfl ?_; refine vo_step (ok_move rfl rfl rfl) rfl ?_; refine vo_step (ok_move rfl rfl rfl) rfl ?_; refine vo_step (ok_callx L rfl rfl (blt_lt rfl) rfl rfl rfl (fun u H hH hle _ => contains_ret hH c4)) rfl ?_; refine vo_step (ok_pick rfl rfl rfl rfl) rfl ?_; refine vo_step (ok_move rfl rfl rfl) rfl ?_; refine vo_step (ok_skip rfl (blt_lt rfl) rfl) rfl ?_; refine vo_step (ok_skip rfl (blt_lt rfl) rfl) rfl ?_; refine vo_step (ok_pick rfl rfl rfl rfl) rfl ?_; refine vo_step (ok_move rfl rfl rfl) rfl ?_; refine vo_step (ok_skip rfl (blt_lt rfl) rfl) rfl ?_; refine vo_step (ok_skip rfl (blt_lt rfl) rfl) rfl ?_; refine vo_step (ok_pick rfl rfl rfl rfl) rfl ?_; refine vo_nil ?_; refine N_seq ?_; refine V_true rfl ?_; refine V_seq ?_; refine V_region (id := 5) ?_; refine vo_step (ok_build (cs := [_, _, _, _, _, _, _]) rfl rfl pl36 rfl rfl) rfl ?_; refine vo_step (ok_store L rfl rfl rfl rfl rfl rfl rfl rfl) rfl ?_; refine vo_step (ok_assign rfl rfl rfl) rfl ?_; refine vo_nil ?_; refine N_seq ?_
          refine V_ret L (rs := [.cell 2 36, .tmp 3]) rfl (fun _ _ h => h) Since.refl fun u H hH hle => ?_
          refine resK_cellA (src_own rfl) rfl rfl ?_
          rfl
  · have hc : ¬ pfC us sp id rel colon mark = true := by unfold pfC; rw [c1]; simp
    rw [if_neg hc] at hr
    cases hr
    refine V_region (id := 4) ?_; refine vo_step (ok_move rfl rfl rfl) rfl ?_; refine vo_step (ok_callx L rfl rfl (blt_lt rfl) rfl rfl rfl (fun u H hH hle _ => contains_ret hH c1)) rfl ?_; refine vo_step (ok_move rfl rfl rfl) rfl ?_; refine vo_step (ok_skip rfl (blt_lt rfl) rfl) rfl ?_; refine vo_step (ok_skip rfl (blt_lt rfl) rfl) rfl ?_; refine vo_step (ok_pick rfl rfl rfl rfl) rfl ?_; refine vo_step (ok_move rfl rfl rfl) rfl ?_; refine vo_step (ok_skip rfl (blt_lt rfl) rfl) rfl ?_; refine vo_step (ok_skip rfl (blt_lt rfl) rfl) rfl ?_; refine vo_step (ok_pick rfl rfl rfl rfl) rfl ?_; refine vo_step (ok_move rfl rfl rfl) rfl ?_; refine vo_step (ok_skip rfl (blt_lt rfl) rfl) rfl ?_; refine vo_step (ok_skip rfl (blt_lt rfl) rfl) rfl ?_; refine vo_step (ok_pick rfl rfl rfl rfl) rfl ?_; refine vo_step (ok_move rfl rfl rfl) rfl ?_; refine vo_step (ok_skip rfl (blt_lt rfl) rfl) rfl ?_; refine vo_step (ok_skip rfl (blt_lt rfl) rfl) rfl ?_; refine vo_step (ok_pick rfl rfl rfl rfl) rfl ?_; refine vo_step (ok_move rfl rfl rfl) rfl ?_; refine vo_step (ok_skip rfl (blt_lt rfl) rfl) rfl ?_; refine vo_step (ok_skip rfl (blt_lt rfl) rfl) rfl ?_; refine vo_step (ok_pick rfl rfl rfl rfl) rfl ?_; refine vo_nil ?_; refine N_seq ?_; refine V_true rfl ?_; refine V_seq ?_; refine V_region (id := 5) ?_; refine vo_step (ok_build (cs := [_, _, _, _, _, _, _]) rfl rfl pl36 rfl rfl) rfl ?_; refine vo_step (ok_store L rfl rfl rfl rfl rfl rfl rfl rfl) rfl ?_; refine vo_step (ok_assign rfl rfl rfl) rfl ?_; refine vo_nil ?_; refine N_seq ?_
    refine V_ret L (rs := [.cell 2 36, .tmp 3]) rfl (fun _ _ h => h) Since.refl fun u H hH hle => ?_
    refine resK_cellA (src_own rfl) rfl rfl ?_
    rfl
end Go.V.L3
/- The walks of the definition of filters (chapter 3): errors, what is taken, prefixes, spans. -/
namespace Go.V.L3
open Go.Proofs Go.RowKit Go.V Go.V.L2
attribute [local irreducible] V N X VO Par StepOK Has Ret RetL RetO RetT Src
end Go.V.L3
/- The walks of the definition of filters (chapter 3): texts. -/
namespace Go.V.L3
open Go.Proofs Go.RowKit Go.V Go.V.L2
attribute [local irreducible] V N X VO Par StepOK Has Ret RetL RetO RetT Src
end Go.V.L3
/- The walk of the definition of filters (chapter 3): texts are read. -/
namespace Go.V.L3
open Go.Proofs Go.RowKit Go.V Go.V.L2
attribute [local irreducible] V N X VO Par StepOK Has Ret RetL RetO RetT Src
end Go.V.L3
/- The goals and tuples of the statements (chapters 2, 23): plain words. -/
namespace Go.V
open Go.Proofs Go.RowKit
end Go.V
/- The walks of the goals of the statements (chapters 2, 23). -/
namespace Go.V
open Go.Proofs Go.RowKit
attribute [local irreducible] V N X VO Par StepOK Has Ret RetL Src
end Go.V
/- The walks of the statements' helpers on tuples (chapter 2): what is handed in. -/
namespace Go.V.L2
open Go.Proofs Go.RowKit Go.V
attribute [local irreducible] V N X VO Par StepOK Has Ret RetL Src
end Go.V.L2
/- The kit's floor of bits. -/
namespace Go.V
open Go.Proofs Go.RowKit
section
variable {P : Program} {F : Fr} {B : Heap} {O : Boxes} {n : Nat} {ops : Array Oper} {κ : Kap} {d : Nat} {ty : TypeId} {pos : String} {aft : Array Edge} {g : Option (Nat × Bool)}
end
end Go.V
/- The walks of the statements' helpers on filters (chapter 3): what is handed in. -/
namespace Go.V.L3
open Go.Proofs Go.RowKit Go.V Go.V.L2
theorem tE_parts {t : U} (h : tE t = 0) : (chk t.1.1.1 = 0 ∧ chk t.1.1.2 = 0 ∧ chk t.1.2 = 0) ∧ subjE t.2.1.1 t.2.1.2 t.2.2 = 0 := by
  unfold tE at h
  split at h
  · rename_i hg
    refine ⟨?_, h⟩
    revert hg
    simp only [allE]
    have c1 := chk_cases t.1.1.1
    have c2 := chk_cases t.1.1.2
    have c3 := chk_cases t.1.2
    intro hg
    rcases c1 with c1 | c1 <;> rcases c2 with c2 | c2 <;> rcases c3 with c3 | c3 <;> simp [c1, c2, c3] at hg ⊢
  · rename_i hg
    exact absurd h hg
attribute [local irreducible] V N X VO Par StepOK Has Ret RetL RetO RetT Src
end Go.V.L3
/- strings.ContainsAny at the two marks. -/
namespace Go.V.L3
open Go.Proofs Go.RowKit Go.V Go.V.L2
theorem iany_has : ∀ l : List UInt8, decide (0 ≤ Lib.indexAny l [58, 35]) = (decide (0 ≤ Lib.indexByte l 58) || decide (0 ≤ Lib.indexByte l 35))
  | [] => rfl
  | b :: l => by
    have ih := iany_has l
    have g1 := Lib.indexAny_ge [58, 35] l
    have g2 := Lib.indexByte_ge l 58
    have g3 := Lib.indexByte_ge l 35
    rw [Lib.indexAny, Lib.indexByte, Lib.indexByte]
    by_cases h : b = 58
    · subst h; simp
    · by_cases h2 : b = 35
      · subst h2; simp
      · have hc : ([58, 35] : List UInt8).contains b = false := by simp [h, h2]
        have hb1 : (b == 58) = false := by simpa using h
        have hb2 : (b == 35) = false := by simpa using h2
        rw [hc, hb1, hb2]
        simp only [Bool.false_eq_true, if_false, beq_iff_eq]
        rw [Bool.eq_iff_iff] at ih ⊢
        simp only [Bool.or_eq_true, decide_eq_true_eq] at ih ⊢
        generalize Lib.indexAny l [58, 35] = a at ih g1 ⊢
        generalize Lib.indexByte l 58 = c at ih g2 ⊢
        generalize Lib.indexByte l 35 = d at ih g3 ⊢
        split <;> split <;> split <;> omega
theorem Ret.of_grow {P : Program} {f : FuncId} {args : List Value} {w : World} {v : Value} {B : Heap} (hB : B.Le (hp w)) (h : Calls P f args.toArray w fun e w' => e = .returned v ∧ Below w.heap.size w w' ∧ w.drawn ≤ w'.drawn) : Ret P f args w B (fun x _ => x = v) :=
  Calls.mono h fun _ w' ⟨he, hw, hd⟩ => ⟨v, he, B, ⟨Keep.of_below hw hd, fun i o ho => by
    have h1 : w.heap[i]? = some o := hB i o ho
    have h2 : i < w.heap.size := by
      rcases Nat.lt_or_ge i w.heap.size with h | h
      · exact h
      · rw [Array.getElem?_eq_none h] at h1; cases h1
    show w'.heap[i]? = some o
    obtain ⟨_, _, _, _, hk⟩ := hw
    rw [hk i h2]; exact h1, Heap.Le.refl _, fun _ _ _ => rfl⟩, rfl⟩
attribute [local irreducible] V N X VO Par StepOK Has Ret RetL RetO RetT Src
def asciiB (r : ByteArray) : Bool := r.data.toList.all fun b => decide (b.toNat < 128)
theorem iany_ret {r : ByteArray} (hs : r.size ≤ 1000000) (ha : r.size ≤ 8 → asciiB r = true) {w : World} {B : Heap} (hB : B.Le (hp w)) :
    Ret Try.prog 97 [.string r, .string ⟨#[58, 35]⟩] w B (fun v _ => v = .int .i64 (Lib.indexAny r.data.toList [58, 35])) := by
  have hc : ∀ (j : Nat) b, (ByteArray.mk #[58, 35]).data.toList[j]? = some b → b.toNat < 128 := by
    intro j b h
    have h2 : ([58, 35] : List UInt8)[j]? = some b := h
    have := List.mem_of_getElem? h2
    simp at this
    rcases this with rfl | rfl <;> decide
  by_cases h8 : r.size ≤ 8
  · have hall : ∀ (j : Nat) b, r.data.toList[j]? = some b → b.toNat < 128 := fun j b h => by
      have h1 := ha h8
      unfold asciiB at h1
      simpa using List.all_eq_true.1 h1 b (List.mem_of_getElem? h)
    refine Ret.of_grow hB ((Any.strings_IndexAny_short Try.lays153 r ⟨#[58, 35]⟩ w (by decide) h8 hall).mono fun e w' ⟨h1, pos, h2⟩ => ⟨h1, ?_⟩)
    rw [h2]
    exact ⟨(Below.refl _ _).alloc (Nat.le_refl _) _, Nat.le_refl _⟩
  · refine Ret.of_grow hB ((Any.strings_IndexAny_long Try.lays153 (zero_of_info (n := 256) (by kernel_rfl)).1 (by kernel_rfl) r ⟨#[58, 35]⟩ w (by decide) (by omega) (by omega) (by decide) hc).mono fun e w' ⟨h1, h2⟩ => ⟨h1, ?_⟩)
    rw [h2]
    exact ⟨((Below.refl _ _).alloc (Nat.le_refl _) _).alloc (by simp) _, Nat.le_refl _⟩
theorem cany_ret {r : ByteArray} (hs : r.size ≤ 1000000) (ha : r.size ≤ 8 → asciiB r = true) {w : World} {B : Heap} (hB : B.Le (hp w)) :
    Ret Try.prog 64 [.string r, .string ⟨#[58, 35]⟩] w B (fun v _ => v = .bool (hasA r 58 || hasA r 35)) := by
  have e : decide (0 ≤ Lib.indexAny r.data.toList [58, 35]) = (hasA r 58 || hasA r 35) := iany_has _
  rw [← e]
  refine V_enter Try.func64 rfl Try.ntmps64 (Nat.le_of_ble_eq_true rfl) hB ?_
  refine V_seq ?_; refine V_region (id := 0) ?_; refine vo_step (ok_assign rfl rfl rfl) rfl ?_; refine vo_nil ?_; refine N_seq ?_; refine V_seq ?_; refine V_region (id := 1) ?_; refine vo_step (ok_move rfl rfl rfl) rfl ?_; refine vo_step (ok_move rfl rfl rfl) rfl ?_; refine vo_step (ok_callx L rfl rfl (blt_lt rfl) rfl rfl rfl (fun u H hH _ _ => iany_ret hs ha hH)) rfl ?_; refine vo_step (ok_geq rfl rfl rfl rfl rfl) rfl ?_; refine vo_step (ok_assign rfl rfl rfl) rfl ?_; refine vo_nil ?_; refine N_seq ?_
  refine V_ret L (rs := [.tmp 4]) rfl (fun _ _ h => h) Since.refl fun u H hH hle => ?_
  rfl
end Go.V.L3
/- The walk of the definition of filters (chapter 3): the text of a filter. -/
namespace Go.V.L3
open Go.Proofs Go.RowKit Go.V Go.V.L2
attribute [local irreducible] V N X VO Par StepOK Has Ret RetL RetO RetT Src
end Go.V.L3
/- The walks of the definition of filters (chapter 3): first fields, spans, what is selected. -/
namespace Go.V.L3
open Go.Proofs Go.RowKit Go.V Go.V.L2
attribute [local irreducible] V N X VO Par StepOK Has Ret RetL RetO RetT Src
end Go.V.L3
/- The examples of chapter 3. -/
namespace Go.V.L3
open Go.Proofs Go.RowKit Go.V Go.V.L2
theorem relOf_size (s : ByteArray) : (relOf s).size ≤ s.size := by
  unfold relOf
  have h1 := cutA_size s 64
  have h2 := cutA_size (cutA s 64).1 58
  have h3 := cutA_size (cutA (cutA s 64).1 58).2.1 35
  omega
attribute [local irreducible] V N X VO Par StepOK Has Ret RetL RetO RetT Src
theorem rtparse_x {s : ByteArray} {t : U} {e : Int} (hr : ptA s = (t, e)) (hs : s.size ≤ 1000000) {w : World} {B : Heap} (hB : B.Le (hp w)) :
    Ret Try.prog 69 [.string s] w B (fun v _ => v = .tuple #[uv t, .int .i64 e]) := rtparse_ret hr hs hB
/-- A text of which the relation's part is ASCII. -/
theorem fparse_asc {s : ByteArray} {x : FT} {e : Int} (hr : pfA s = (x, e)) (hs : s.size ≤ 1000000) (ha : asciiB (relOf s) = true) {w : World} {B : Heap} (hB : B.Le (hp w)) (hM : GlobM B) :
    Ret Try.prog 27 [.string s] w B (fun v _ => v = .tuple #[fv x, .int .i64 e]) :=
  fparse_ret hr hs (fun w B h => cany_ret (Nat.le_trans (relOf_size s) hs) (fun _ => ha) h) hB hM
theorem fm_nil : FM nF := by unfold FM; exact ⟨⟨Nat.zero_le _, Nat.zero_le _, Nat.zero_le _⟩, Nat.zero_le _, Nat.zero_le _, Nat.zero_le _⟩
def fmB (f : FT) : Bool := decide (f.1.1.1.size ≤ 1000) && decide (f.1.1.2.size ≤ 1000) && decide (f.1.2.size ≤ 1000) && decide (f.2.1.1.1.size ≤ 1000) && decide (f.2.1.1.2.size ≤ 1000) && decide (f.2.1.2.size ≤ 1000)
theorem fm_of {f : FT} (h : fmB f = true) : FM f := by
  unfold fmB at h
  simp only [Bool.and_eq_true, decide_eq_true_eq] at h
  unfold FM; omega
end Go.V.L3
/- The examples of chapter 6. -/
namespace Go.V.L6
open Go.Proofs Go.RowKit Go.V Go.V.L2 Go.V.L3
abbrev d0 : U := (((⟨#[100, 111, 99]⟩, ⟨#[97]⟩), ⟨#[118, 105, 101, 119, 101, 114]⟩), ((⟨#[117, 115, 101, 114]⟩, ⟨#[120]⟩), ⟨#[]⟩))
abbrev d1 : U := (((⟨#[100, 111, 99]⟩, ⟨#[97]⟩), ⟨#[118, 105, 101, 119, 101, 114]⟩), ((⟨#[103, 114, 111, 117, 112]⟩, ⟨#[103]⟩), ⟨#[109, 101, 109, 98, 101, 114]⟩))
abbrev d2 : U := (((⟨#[100, 111, 99]⟩, ⟨#[98]⟩), ⟨#[118, 105, 101, 119, 101, 114]⟩), ((⟨#[117, 115, 101, 114]⟩, ⟨#[120]⟩), ⟨#[]⟩))
def d3L : List U := [d0, d1, d2]
def d3S : List ByteArray := [⟨#[100, 111, 99, 58, 97, 35, 118, 105, 101, 119, 101, 114, 64, 117, 115, 101, 114, 58, 120]⟩, ⟨#[100, 111, 99, 58, 97, 35, 118, 105, 101, 119, 101, 114, 64, 103, 114, 111, 117, 112, 58, 103, 35, 109, 101, 109, 98, 101, 114]⟩, ⟨#[100, 111, 99, 58, 98, 35, 118, 105, 101, 119, 101, 114, 64, 117, 115, 101, 114, 58, 120]⟩]
theorem d3_at {i : Nat} (h : i < 3) : ∃ s t, d3S[i]? = some s ∧ d3L[i]? = some t ∧ ptA s = (t, 0) ∧ s.size ≤ 1000000 := by
  have p0 : ptA ⟨#[100, 111, 99, 58, 97, 35, 118, 105, 101, 119, 101, 114, 64, 117, 115, 101, 114, 58, 120]⟩ = (d0, 0) := by decide +kernel
  have p1 : ptA ⟨#[100, 111, 99, 58, 97, 35, 118, 105, 101, 119, 101, 114, 64, 103, 114, 111, 117, 112, 58, 103, 35, 109, 101, 109, 98, 101, 114]⟩ = (d1, 0) := by decide +kernel
  have p2 : ptA ⟨#[100, 111, 99, 58, 98, 35, 118, 105, 101, 119, 101, 114, 64, 117, 115, 101, 114, 58, 120]⟩ = (d2, 0) := by decide +kernel
  rcases i with _ | _ | _ | i
  · exact ⟨_, _, rfl, rfl, p0, by decide⟩
  · exact ⟨_, _, rfl, rfl, p1, by decide⟩
  · exact ⟨_, _, rfl, rfl, p2, by decide⟩
  · omega
def tzB (t : U) : Bool := decide (t.1.1.1.size ≤ 1000) && decide (t.1.1.2.size ≤ 1000) && decide (t.1.2.size ≤ 1000) && decide (t.2.1.1.size ≤ 1000) && decide (t.2.1.2.size ≤ 1000) && decide (t.2.2.size ≤ 1000)
theorem tz_ofB {t : U} (h : tzB t = true) : TZ t := by
  unfold tzB at h
  simp only [Bool.and_eq_true, decide_eq_true_eq] at h
  unfold TZ; omega
abbrev tN6 : U := (n3, n3)
abbrev xdoc : FT := (((⟨#[100, 111, 99]⟩, ⟨#[]⟩), ⟨#[]⟩), n3, false)
attribute [local irreducible] V N X VO Par StepOK Has Ret RetL RetO RetT Src
set_option maxHeartbeats 1000000 in
theorem small06_ret {w : World} {B : Heap} (hB : B.Le (hp w)) : Ret Try.prog 31 [] w B (US d3L false) := by
  have hll : d3L.length = 3 := rfl
  refine V_enter Try.func31 rfl Try.ntmps31 (Nat.le_of_ble_eq_true rfl) hB ?_
  refine V_seq ?_; refine V_region (id := 0) ?_; refine vo_step (ok_assign rfl rfl rfl) rfl ?_; refine vo_nil ?_; refine N_seq ?_; refine V_seq ?_; refine V_region (id := 1) ?_; refine vo_step (ok_assign rfl rfl rfl) rfl ?_; refine vo_nil ?_; refine N_seq ?_; refine V_seq ?_
  refine V_nilR 1 tyU 6 rfl ?_
  refine V_region (id := 2) ?_; refine vo_step (ok_buildSlice L rfl rfl rfl rfl rfl rfl rfl rfl rfl) rfl ?_; refine vo_step (ok_assigns' rfl rfl rfl) rfl ?_; refine vo_nil ?_; refine N_seq ?_; refine V_seq ?_; refine V_seq ?_; refine V_region (id := 3) ?_; refine vo_step (ok_assign rfl rfl rfl) rfl ?_; refine vo_nil ?_; refine N_seq ?_; refine V_block ?_
  refine V_imp 2 (SlB (d3S.map Value.string) 9 3) rfl SlB.mono (fun _ _ h => by unfold d3S; exact h) ?_
  refine V_loop (fun i : Nat => [(1, .own (SlR tyU 6 (d3L.take i).length ((d3L.take i).flatMap ucs))), (2, .sat (SlB (d3S.map Value.string) 9 3)), (3, .is (.int .i64 i))]) (fun i => i ≤ 3) (fun i => 3 - i) 0 (Nat.zero_le _) ⟨rfl, rfl, rfl, trivial⟩ ?_
  rintro i hi
  have hli := List.length_take (i := i) (l := d3L)
  by_cases hlt : i < 3
  · obtain ⟨s, t, g1, g2, g3, g4⟩ := d3_at hlt
    have hcs : (d3S.map Value.string)[i * 1]? = some (.string s) := by simp [g1]
    refine V_seq ?_; refine V_seq ?_; refine V_region (id := 4) ?_; refine vo_step (ok_move rfl rfl rfl) rfl ?_; refine vo_step (ok_lss rfl rfl rfl rfl (decide_eq_true (by omega))) rfl ?_; refine vo_nil ?_; refine N_seq ?_; refine V_true rfl ?_; refine V_skip ?_; refine N_seq ?_; refine V_seq ?_; refine V_block ?_; refine V_seq ?_; refine V_region (id := 6) ?_; refine vo_step (ok_moves' rfl rfl rfl) rfl ?_; refine vo_step (ok_move rfl rfl rfl) rfl ?_; refine vo_step (ok_indexSl L _ rfl rfl rfl rfl rfl rfl rfl (by omega)) rfl ?_; refine vo_step (ok_load1c L (src_at rfl) rfl rfl rfl (by assumption)) rfl ?_; refine vo_step (ok_callx L rfl rfl (blt_lt rfl) rfl rfl rfl (fun u H hH _ _ => rtparse_x g3 g4 hH)) rfl ?_; refine vo_step (ok_move rfl rfl rfl) rfl ?_; refine vo_step (ok_extract rfl rfl rfl rfl) rfl ?_; refine vo_step (ok_extract rfl rfl rfl rfl) rfl ?_; refine vo_step (ok_alloc L rfl rfl rfl rfl) rfl ?_; refine vo_step (ok_store L rfl rfl rfl rfl rfl rfl rfl rfl) rfl ?_; refine vo_step (ok_assign rfl rfl rfl) rfl ?_; refine vo_nil ?_; refine N_seq ?_; refine V_region (id := 7) ?_; refine vo_step2 (ok_moveO (.inl rfl) rfl rfl rfl rfl) ?_; refine vo_step (ok_loadA L (vs := [_, _, _, _, _, _]) (src_own rfl) rfl rfl rfl rfl ⟨_, rfl⟩) rfl ?_; refine vo_step (ok_buildSlice L rfl rfl rfl rfl rfl rfl rfl rfl rfl) rfl ?_; refine vo_step2 (ok_append L rfl rfl rfl (apd_B rfl) rfl el51 rfl rfl (by omega) (by omega)) ?_; refine vo_step2 (ok_moveO (.inr rfl) rfl rfl rfl rfl) ?_; refine vo_nil ?_; refine N_block ?_; refine N_seq ?_; refine V_region (id := 5) ?_; refine vo_step (ok_move rfl rfl rfl) rfl ?_; refine vo_step (ok_add rfl rfl rfl rfl (wrap_i64 (by omega) (by omega))) rfl ?_; refine vo_step (ok_assign rfl rfl rfl) rfl ?_; refine vo_nil ?_
    exact N_round (x := i) (i + 1) (by omega) (by omega) ⟨by rw [take_s g2]; exact ups_snoc rfl, rfl, rfl, trivial⟩
  · obtain rfl : i = 3 := by omega
    have e3 : d3L.take 3 = d3L := rfl
    rw [e3]
    refine V_seq ?_; refine V_seq ?_; refine V_region (id := 4) ?_; refine vo_step (ok_move rfl rfl rfl) rfl ?_; refine vo_step (ok_lss rfl rfl rfl rfl (decide_eq_false (by omega))) rfl ?_; refine vo_nil ?_; refine N_seq ?_; refine V_false rfl ?_; refine V_exit ?_; refine X_then ?_; refine X_then ?_; refine X_here ?_; refine N_seq ?_; refine V_seq ?_; refine V_region (id := 8) ?_; refine vo_step2 (ok_moveO (.inl rfl) rfl rfl rfl rfl) ?_; refine vo_step2 (ok_moveO (.inr rfl) rfl rfl rfl rfl) ?_; refine vo_nil ?_; refine N_seq ?_
    refine V_pubR 0 rfl ?_
    refine V_ret L (rs := [.tmp 0]) rfl (fun _ _ h => h) Since.refl fun u H hH hle => ?_
    exact fun v hv => hv
set_option maxHeartbeats 8000000 in
set_option maxRecDepth 20000 in
theorem lives06_ret {w : World} {B : Heap} (hB : B.Le (hp w)) (hM : GlobM B) : Ret Try.prog 42 [] w B (fun v _ => v = .bool true) := by
  have o1 : ofU [] d3L = ([d1, d0, d2], 0) := by decide +kernel
  have o2 : ofU [] [] = (([] : List U), 0) := rfl
  have pf : pfA ⟨#[100, 111, 99, 58, 42, 35, 42]⟩ = (xdoc, 0) := by decide +kernel
  have ax : asciiB (relOf ⟨#[100, 111, 99, 58, 42, 35, 42]⟩) = true := by decide +kernel
  have mx : FM xdoc := fm_of (by decide)
  have w1 : withU [d1, d0, d2] d2 true = ([d1, d0], 0) := by decide +kernel
  have w2 : withU [d1, d0, d2] tN6 false = ([], 6) := by decide +kernel
  have g1 : goalL [d1, d0, d2] d0.1 = [d1, d0] := by decide +kernel
  have s1 : subL [d1, d0, d2] d0.2 = [d0, d2] := by decide +kernel
  have m1 : matE [d1, d0, d2] xdoc = [d1, d0, d2] := by decide +kernel
  have gs : goalsL [d1, d0] = [d0.1] := by decide +kernel
  have hz : ∀ t ∈ d3L, TZ t := by
    intro t ht
    have : ∀ t ∈ d3L, tzB t = true := by decide +kernel
    exact tz_ofB (this t ht)
  have z2 : TZ d2 := tz_ofB (by decide)
  have zN : TZ tN6 := tz_ofB (by decide)
  have c0 : ((d3L.flatMap ucs).drop (0 * 6)).take 6 = ucs d0 := rfl
  have c1 : ((d3L.flatMap ucs).drop (1 * 6)).take 6 = ucs d1 := rfl
  have c2 : ((d3L.flatMap ucs).drop (2 * 6)).take 6 = ucs d2 := rfl
  have hlen : d3L.length = 3 := rfl
  have hsm : ∀ (w : World) (B : Heap), B.Le (hp w) → Ret Try.prog 31 [] w B (US d3L false) := fun w B h => small06_ret h
  generalize d3L = l at *
  have eg := eq3 (g := d0.1) (h := d0.1) (decide_eq_true rfl)
  have cg : (([d0.1].flatMap gcs3).drop (0 * 3)).take 3 = gcs3 d0.1 := rfl
  have hms : Kn.mono (.sat (SetV [d1, d0])) := SetV.mono
  refine V_enter Try.func42 rfl Try.ntmps42 (Nat.le_of_ble_eq_true rfl) hB ?_
  refine V_seq ?_; refine V_region (id := 0) ?_; refine vo_step (ok_assign rfl rfl rfl) rfl ?_; refine vo_nil ?_; refine N_seq ?_; refine V_seq ?_; refine V_region (id := 1) ?_; refine vo_step (ok_call (φ := US l false) L rfl rfl (blt_lt rfl) rfl rfl rfl SlV.mono (fun u H hH _ _ => hsm u H hH)) rfl ?_; refine vo_step (ok_assigns' rfl rfl rfl) rfl ?_; refine vo_nil ?_; refine N_seq ?_; refine V_seq ?_; refine V_region (id := 2) ?_; refine vo_step (ok_moves' rfl rfl rfl) rfl ?_; refine vo_step (ok_call (φ := WithP [d1, d0, d2] 0) L rfl rfl (blt_lt rfl) rfl rfl rfl WithP.mono (fun u H hH _ _ v1 h1 => sof_ret o1 (by omega) hz hH h1)) rfl ?_; refine vo_opn 16 rfl ?_; rintro _ H1 hs1 ⟨tv, rfl, hT1⟩; obtain ⟨f1, p1, k1, q1, rfl, hp1⟩ := hT1.shape; have hM1 := hM.mono hs1.le; refine vo_step (ok_move rfl rfl rfl) rfl ?_; refine vo_step (ok_extract rfl rfl rfl rfl) rfl ?_; refine vo_step (ok_extract rfl rfl rfl rfl) rfl ?_; refine vo_step (ok_alloc L rfl rfl rfl rfl) rfl ?_; refine vo_step (ok_store L rfl rfl rfl rfl rfl rfl (by assumption) rfl) rfl ?_; refine vo_step (ok_assign rfl rfl rfl) rfl ?_; refine vo_nil ?_; refine N_seq ?_; refine V_seq ?_; refine V_region (id := 3) ?_; refine vo_step (ok_callx L rfl rfl (blt_lt rfl) rfl rfl rfl (fun u H hH hle _ => fparse_asc pf (by decide) ax hH (hM1.mono hle))) rfl ?_; refine vo_step (ok_move rfl rfl rfl) rfl ?_; refine vo_step (ok_extract rfl rfl rfl rfl) rfl ?_; refine vo_step (ok_extract rfl rfl rfl rfl) rfl ?_; refine vo_step (ok_alloc L rfl rfl rfl rfl) rfl ?_; refine vo_step (ok_store L rfl rfl rfl rfl rfl rfl rfl rfl) rfl ?_; refine vo_step (ok_assign rfl rfl rfl) rfl ?_; refine vo_nil ?_; refine N_seq ?_; refine V_seq ?_
  refine V_regionD (id := 4) [] mixed (by kernel_rfl) ?_; refine par_step (ok_loadA L (vs := [_, _, _, _]) (src_own rfl) rfl rfl rfl rfl ⟨_, rfl⟩) rfl ?_; refine par_step (ok_moves' rfl rfl rfl) rfl ?_; refine par_step (ok_indexV L 2 rfl rfl rfl rfl rfl rfl rfl (by first | omega | decide) (by assumption)) rfl ?_; refine par_step (ok_loadPA L (vs := [_, _, _, _, _, _]) rfl rfl rfl rfl rfl ⟨_, rfl⟩) rfl ?_; refine par_step (ok_build (cs := [_, _, _, _, _, _, _]) rfl rfl pl81 rfl rfl) rfl ?_; refine par_step (ok_call (φ := WithS [d1, d0] 0) L rfl rfl (blt_lt rfl) rfl rfl rfl WithS.mono (fun u H hH hle _ => with_ret w1 (by decide) z2 hH (hT1.le hle))) rfl ?_; refine par_step (ok_moves' rfl rfl rfl) rfl ?_; refine par_step (ok_extracts rfl rfl rfl rfl (by assumption)) rfl ?_; refine par_step (ok_extractx rfl rfl rfl rfl) rfl ?_; refine par_step (ok_alloc L rfl rfl rfl rfl) rfl ?_; refine par_step (ok_storeX L (X := SXp) (fun x => scs x.1) (sphi [d1, d0]) (sphi_mono _) set_st (fun x => ⟨rfl, x.2⟩) rfl rfl rfl rfl rfl) rfl ?_; refine par_step (ok_assign rfl rfl rfl) rfl ?_; refine par_nil ?_; refine N_seq ?_; refine V_seq ?_
  refine V_opnX 6 rfl fun ⟨⟨f2, p2, k2, q2⟩, hp2⟩ H2 hs2 hT2 => ?_
  have hT2 : SetV [d1, d0] (.agg #[f2, .pointer p2, k2, .pointer q2]) H2 := hT2
  replace hT1 := hT1.le hs2.le
  refine V_region (id := 5) ?_; refine vo_step (ok_loadA L (vs := [_, _, _, _]) (src_own rfl) rfl rfl rfl rfl ⟨_, rfl⟩) rfl ?_; refine vo_step (ok_build (cs := [_, _, _, _, _, _, _]) rfl rfl pl81 rfl rfl) rfl ?_; refine vo_step (ok_call (φ := WithP [] 6) L rfl rfl (blt_lt rfl) rfl rfl rfl WithP.mono (fun u H hH hle _ => with_p w2 (by decide) zN hH (hT1.le hle))) rfl ?_; refine vo_opn 35 rfl ?_; rintro _ H3 hs3 ⟨tv, rfl, hT3⟩; obtain ⟨f3, p3, k3, q3, rfl, hp3⟩ := hT3.shape; replace hT1 := hT1.le hs3.le; replace hT2 := hT2.le hs3.le; refine vo_step (ok_move rfl rfl rfl) rfl ?_; refine vo_step (ok_extract rfl rfl rfl rfl) rfl ?_; refine vo_step (ok_extract rfl rfl rfl rfl) rfl ?_; refine vo_step (ok_alloc L rfl rfl rfl rfl) rfl ?_; refine vo_step (ok_store L rfl rfl rfl rfl rfl rfl (by assumption) rfl) rfl ?_; refine vo_step (ok_assign rfl rfl rfl) rfl ?_; refine vo_nil ?_; refine N_seq ?_; refine V_seq ?_; refine V_region (id := 6) ?_; refine vo_step (ok_call (φ := WithP [] 0) L rfl rfl (blt_lt rfl) rfl rfl rfl WithP.mono (fun u H hH hle _ => sof_ret (fu := false) o2 (by decide) (fun t ht => by cases ht) hH SlV.nil)) rfl ?_; refine vo_opn 39 rfl ?_; rintro _ H4 hs4 ⟨tv, rfl, hT4⟩; obtain ⟨f4, p4, k4, q4, rfl, hp4⟩ := hT4.shape; replace hT1 := hT1.le hs4.le; replace hT2 := hT2.le hs4.le; refine vo_step (ok_move rfl rfl rfl) rfl ?_; refine vo_step (ok_extract rfl rfl rfl rfl) rfl ?_; refine vo_step (ok_extract rfl rfl rfl rfl) rfl ?_; refine vo_step (ok_alloc L rfl rfl rfl rfl) rfl ?_; refine vo_step (ok_store L rfl rfl rfl rfl rfl rfl (by assumption) rfl) rfl ?_; refine vo_step (ok_assign rfl rfl rfl) rfl ?_; refine vo_nil ?_; refine N_seq ?_; refine V_seq ?_; refine V_seq ?_
  have hMz : GlobM H4 := (hM1.mono hs2.le).mono (hs3.le.trans hs4.le)
  refine V_regionD (id := 7) [] mixed (by kernel_rfl) ?_; refine par_step (ok_move rfl rfl rfl) rfl ?_; refine par_step (ok_move rfl rfl rfl) rfl ?_; refine par_step (ok_add rfl rfl rfl rfl (wrap_i64 (by omega) (by omega))) rfl ?_; refine par_step (ok_move rfl rfl rfl) rfl ?_; refine par_step (ok_add rfl rfl rfl rfl (wrap_i64 (by omega) (by omega))) rfl ?_; refine par_step (ok_move rfl rfl rfl) rfl ?_; refine par_step (ok_add rfl rfl rfl rfl (wrap_i64 (by omega) (by omega))) rfl ?_; refine par_step (ok_neq rfl rfl rfl rfl (decide_eq_false (by omega))) rfl ?_; refine par_step (ok_move rfl rfl rfl) rfl ?_; refine par_step (ok_loadA L (vs := [_, _, _, _]) (src_own rfl) rfl rfl rfl rfl ⟨_, rfl⟩) rfl ?_; refine par_step (ok_callx L rfl rfl (blt_lt rfl) rfl rfl rfl (fun u H hH hle _ => slen_ret (n := 3) rfl hH (hT1.le hle))) rfl ?_; refine par_step (ok_neq rfl rfl rfl rfl (decide_eq_false (by omega))) rfl ?_; refine par_step (ok_pick rfl rfl rfl rfl) rfl ?_; refine par_step (ok_move rfl rfl rfl) rfl ?_; refine par_step (ok_loadA L (vs := [_, _, _, _]) (src_own rfl) rfl rfl rfl rfl ⟨_, rfl⟩) rfl ?_; refine par_step (ok_call (φ := US [d1, d0, d2] true) L rfl rfl (blt_lt rfl) rfl rfl rfl SlV.mono (fun u H hH hle _ => slist_ret (by decide) hH (hT1.le hle))) rfl ?_; refine par_step (ok_moves' rfl rfl rfl) rfl ?_; refine par_step (ok_indexV L 1 rfl rfl rfl rfl rfl rfl rfl (by first | omega | decide) (by assumption)) rfl ?_; refine par_step (ok_loadPA L (vs := [_, _, _, _, _, _]) rfl rfl rfl rfl rfl ⟨_, rfl⟩) rfl ?_; refine par_step (ok_moves' rfl rfl rfl) rfl ?_; refine par_step (ok_indexV L 0 rfl rfl rfl rfl rfl rfl rfl (by first | omega | decide) (by assumption)) rfl ?_; refine par_step (ok_loadPA L (vs := [_, _, _, _, _, _]) rfl rfl rfl rfl rfl ⟨_, rfl⟩) rfl ?_; refine par_step (ok_moves' rfl rfl rfl) rfl ?_; refine par_step (ok_indexV L 2 rfl rfl rfl rfl rfl rfl rfl (by first | omega | decide) (by assumption)) rfl ?_; refine par_step (ok_loadPA L (vs := [_, _, _, _, _, _]) rfl rfl rfl rfl rfl ⟨_, rfl⟩) rfl ?_; refine par_step (ok_buildSlice L rfl rfl rfl rfl rfl rfl rfl rfl rfl) rfl ?_; refine par_step (ok_callx L rfl rfl (blt_lt rfl) rfl rfl rfl (fun u H hH _ _ v1 h1 v2 h2 => rtsame_ret (a := [d1, d0, d2]) (b := [d1, d0, d2]) (e := 1) (by decide) (by decide) (by decide +kernel) hH h1 (h2.toV rfl))) rfl ?_; refine par_step (ok_eql rfl rfl rfl rfl (decide_eq_false (by omega))) rfl ?_; refine par_step (ok_pick rfl rfl rfl rfl) rfl ?_; refine par_step (ok_move rfl rfl rfl) rfl ?_; refine par_step (ok_loadA L (vs := [_, _, _, _]) (src_own rfl) rfl rfl rfl rfl ⟨_, rfl⟩) rfl ?_; refine par_step (ok_moves' rfl rfl rfl) rfl ?_; refine par_step (ok_indexV L 0 rfl rfl rfl rfl rfl rfl rfl (by first | omega | decide) (by assumption)) rfl ?_; refine par_step (ok_fieldAP L rfl rfl rfl rfl) rfl ?_; refine par_step (ok_loadPA L (vs := [_, _, _]) rfl rfl rfl rfl rfl ⟨_, rfl⟩) rfl ?_; refine par_step (ok_call (φ := US [d1, d0] true) L rfl rfl (blt_lt rfl) rfl rfl rfl SlV.mono (fun u H hH hle _ => sgoal_ret g1 (by decide) hH (hT1.le hle))) rfl ?_; refine par_step (ok_lenV L rfl rfl rfl rfl) rfl ?_; refine par_step (ok_neq rfl rfl rfl rfl rfl) rfl ?_; refine par_step (ok_pick rfl rfl rfl rfl) rfl ?_; refine par_step (ok_move rfl rfl rfl) rfl ?_; refine par_step (ok_loadA L (vs := [_, _, _, _]) (src_own rfl) rfl rfl rfl rfl ⟨_, rfl⟩) rfl ?_; refine par_step (ok_moves' rfl rfl rfl) rfl ?_; refine par_step (ok_indexV L 0 rfl rfl rfl rfl rfl rfl rfl (by first | omega | decide) (by assumption)) rfl ?_; refine par_step (ok_fieldAP L rfl rfl rfl rfl) rfl ?_; refine par_step (ok_loadPA L (vs := [_, _, _]) rfl rfl rfl rfl rfl ⟨_, rfl⟩) rfl ?_; refine par_step (ok_call (φ := US [d0, d2] true) L rfl rfl (blt_lt rfl) rfl rfl rfl SlV.mono (fun u H hH hle _ => ssub_ret s1 (by decide) hH (hT1.le hle))) rfl ?_; refine par_step (ok_lenV L rfl rfl rfl rfl) rfl ?_; refine par_step (ok_neq rfl rfl rfl rfl rfl) rfl ?_; refine par_step (ok_pick rfl rfl rfl rfl) rfl ?_; refine par_step (ok_move rfl rfl rfl) rfl ?_; refine par_step (ok_loadA L (vs := [_, _, _, _]) (src_own rfl) rfl rfl rfl rfl ⟨_, rfl⟩) rfl ?_; refine par_step (ok_loadA L (vs := [_, _, _, _, _, _, _]) (src_own rfl) rfl rfl rfl rfl ⟨_, rfl⟩) rfl ?_; refine par_step (ok_call (φ := US [d1, d0, d2] true) L rfl rfl (blt_lt rfl) rfl rfl rfl SlV.mono (fun u H hH hle _ => smatch_ret m1 (by decide) mx hH (hT1.le hle))) rfl ?_; refine par_step (ok_lenV L rfl rfl rfl rfl) rfl ?_; refine par_step (ok_neq rfl rfl rfl rfl rfl) rfl ?_; refine par_step (ok_pick rfl rfl rfl rfl) rfl ?_; refine par_nil ?_; refine N_seq ?_; refine V_false rfl ?_; refine V_skip ?_; refine N_seq ?_; refine V_seq ?_; refine V_region (id := 9) ?_; refine vo_step (ok_loadA L (vs := [_, _, _, _]) (src_own rfl) rfl rfl rfl rfl ⟨_, rfl⟩) rfl ?_; refine vo_step (ok_call (φ := G3S [d0.1] true) L rfl rfl (blt_lt rfl) rfl rfl rfl SlV.mono (fun u H hH hle _ => sgoals_ret gs (by decide) hH (hT2.le hle))) rfl ?_; refine vo_step (ok_assigns' rfl rfl rfl) rfl ?_; refine vo_nil ?_; refine N_seq ?_; refine V_seq ?_; refine V_regionD (id := 10) [] mixed (by kernel_rfl) ?_; refine par_step (ok_loadA L (vs := [_, _, _, _]) (src_own rfl) rfl rfl rfl rfl ⟨_, rfl⟩) rfl ?_; refine par_step (ok_callx L rfl rfl (blt_lt rfl) rfl rfl rfl (fun u H hH hle _ => slen_ret (n := 2) rfl hH (hT2.le hle))) rfl ?_; refine par_step (ok_eql rfl rfl rfl rfl (decide_eq_true (by omega))) rfl ?_; refine par_step (ok_move rfl rfl rfl) rfl ?_; refine par_step (ok_moves' rfl rfl rfl) rfl ?_; refine par_step (ok_lenV L rfl rfl rfl rfl) rfl ?_; refine par_step (ok_eql rfl rfl rfl rfl rfl) rfl ?_; refine par_step (ok_pick rfl rfl rfl rfl) rfl ?_; refine par_step (ok_move rfl rfl rfl) rfl ?_; refine par_step (ok_moves' rfl rfl rfl) rfl ?_; refine par_step (ok_indexV L _ rfl rfl rfl rfl rfl rfl rfl (by first | omega | decide) (by assumption)) rfl ?_; refine par_step (ok_loadPA L (vs := [_, _, _]) rfl rfl rfl rfl rfl ⟨_, rfl⟩) rfl ?_; refine par_step (ok_moves' rfl rfl rfl) rfl ?_; refine par_step (ok_indexV L 0 rfl rfl rfl rfl rfl rfl rfl (by first | omega | decide) (by assumption)) rfl ?_; refine par_step (ok_fieldAP L rfl rfl rfl rfl) rfl ?_; refine par_step (ok_loadPA L (vs := [_, _, _]) rfl rfl rfl rfl rfl ⟨_, rfl⟩) rfl ?_; refine par_step (ok_aeql rfl rfl rfl rfl eq49 (by assumption) rfl) rfl ?_; refine par_step (ok_pick rfl rfl rfl rfl) rfl ?_; refine par_step (ok_move rfl rfl rfl) rfl ?_; refine par_step (ok_move rfl rfl rfl) rfl ?_; refine par_step (ok_eql rfl rfl rfl rfl (decide_eq_true (by omega))) rfl ?_; refine par_step (ok_pick rfl rfl rfl rfl) rfl ?_; refine par_step (ok_move rfl rfl rfl) rfl ?_; refine par_step (ok_loadA L (vs := [_, _, _, _]) (src_own rfl) rfl rfl rfl rfl ⟨_, rfl⟩) rfl ?_; refine par_step (ok_callx L rfl rfl (blt_lt rfl) rfl rfl rfl (fun u H hH hle _ => slen_ret (n := 0) rfl hH (hT4.le hle))) rfl ?_; refine par_step (ok_eql rfl rfl rfl rfl (decide_eq_true (by omega))) rfl ?_; refine par_step (ok_pick rfl rfl rfl rfl) rfl ?_; refine par_step (ok_assign rfl rfl rfl) rfl ?_; refine par_nil ?_; refine N_seq ?_
  refine V_ret L (rs := [.tmp 0]) rfl (fun _ _ h => h) (hs1.trans (hs2.trans (hs3.trans hs4))) fun u H hH hle => ?_
  rfl
end Go.V.L6
/- Four thousand tuples (chapter 6). Plain laws. -/
namespace Go.V.L6
open Go.Proofs Go.RowKit Go.V Go.V.L2 Go.V.L3
abbrev d36 : ByteArray := ⟨#[48, 49, 50, 51, 52, 53, 54, 55, 56, 57, 97, 98, 99, 100, 101, 102, 103, 104, 105, 106, 107, 108, 109, 110, 111, 112, 113, 114, 115, 116, 117, 118, 119, 120, 121, 122]⟩
def dgt (k : Nat) : ByteArray := d36.extract k (k + 1)
def db (d : Nat) : UInt8 := if d < 10 then UInt8.ofNat (48 + d) else UInt8.ofNat (87 + d)
theorem dgt_eq : ∀ d, d < 36 → dgt d = ⟨#[db d]⟩ := by decide +kernel
theorem db_lt : ∀ d, d < 36 → ∀ e, e < 36 → d < e → (db d).toNat < (db e).toNat := by decide +kernel
theorem db_ok : ∀ d, d < 36 → okB (db d) = true := by decide +kernel
theorem dgt_size (k : Nat) (h : k < 36) : (dgt k).size = 1 := by rw [dgt_eq k h]; rfl
def dig (i : Nat) : ByteArray := dgt (i / 1296) ++ dgt (i / 36 % 36) ++ dgt (i % 36)
/-- A tuple with another ID. -/
def withID (t : U) (s : ByteArray) : U := (t.1, ((t.2.1.1, s), t.2.2))
/-- The tuple of a number. -/
def kt (t : U) (i : Nat) : U := withID t (dig i)
def kl (t : U) (n : Nat) : List U := (List.range n).map (kt t)
theorem dig_eq {i : Nat} (h : i < 4097) : dig i = ⟨#[db (i / 1296), db (i / 36 % 36), db (i % 36)]⟩ := by
  unfold dig
  rw [dgt_eq _ (by omega), dgt_eq _ (by omega), dgt_eq _ (by omega)]
  rfl
theorem cmpB3 {a b c x y z : UInt8} (h : a.toNat < x.toNat ∨ (a = x ∧ b.toNat < y.toNat) ∨ (a = x ∧ b = y ∧ c.toNat < z.toNat)) : cmpB ⟨#[a, b, c]⟩ ⟨#[x, y, z]⟩ < 0 := by
  have lt : ∀ {p q : UInt8}, p.toNat < q.toNat → p < q := fun h => UInt8.lt_iff_toNat_lt.2 h
  unfold cmpB
  rcases h with h | ⟨rfl, h⟩ | ⟨rfl, rfl, h⟩
  · have := lt h
    simp [Lib.compareBytes, this]
  · have := lt h
    simp [Lib.compareBytes, this]
  · have := lt h
    simp [Lib.compareBytes, this]
theorem dig_lt {i j : Nat} (hj : j < 4097) (h : i < j) : cmpB (dig i) (dig j) < 0 := by
  rw [dig_eq (by omega), dig_eq hj]
  refine cmpB3 ?_
  rcases Nat.lt_trichotomy (i / 1296) (j / 1296) with h1 | h1 | h1
  · exact .inl (db_lt _ (by omega) _ (by omega) h1)
  · rcases Nat.lt_trichotomy (i / 36 % 36) (j / 36 % 36) with h2 | h2 | h2
    · exact .inr (.inl ⟨by rw [h1], db_lt _ (by omega) _ (by omega) h2⟩)
    · exact .inr (.inr ⟨by rw [h1], by rw [h2], db_lt _ (by omega) _ (by omega) (by omega)⟩)
    · omega
  · omega
theorem kt_lt {t : U} {i j : Nat} (hj : j < 4097) (h : i < j) : cmpT (kt t i) (kt t j) < 0 := by
  have key := dig_lt hj h
  unfold kt withID
  generalize dig i = x at key
  generalize dig j = y at key
  have r := fun s => cmpB_ord.refl s
  unfold cmpT cmp3 lexC
  simp only [orL2, r, if_true]
  rw [if_neg (by omega)]
  exact key
theorem kt_ne {t : U} {i j : Nat} (hi : i < 4097) (hj : j < 4097) (h : i ≠ j) : kt t i ≠ kt t j := by
  rcases Nat.lt_or_gt_of_ne h with h | h
  · exact cmpT_ord.ne (kt_lt hj h)
  · exact (cmpT_ord.ne (kt_lt hi h)).symm
theorem dig_ok {i : Nat} (h : i < 4097) : chk (dig i) = 0 ∧ (dig i).size = 3 := by
  rw [dig_eq h]
  refine ⟨chk_all (show 1 ≤ 3 by decide) (show 3 ≤ 16 by decide) ?_, rfl⟩
  show [db (i / 1296), db (i / 36 % 36), db (i % 36)].all okB = true
  simp only [List.all_cons, List.all_nil, db_ok _ (show i / 1296 < 36 by omega), db_ok _ (show i / 36 % 36 < 36 by omega), db_ok _ (show i % 36 < 36 by omega), Bool.and_self]
theorem kt_ok {t : U} (ht : tE t = 0) {i : Nat} (h : i < 4097) : tE (kt t i) = 0 := by
  obtain ⟨⟨h1, h2, h3⟩, h4⟩ := tE_parts ht
  obtain ⟨g1, g2, g3⟩ := subjE_zero h4
  unfold tE kt withID
  rw [if_pos (allE3_of h1 h2 h3)]
  unfold subjE at h4 ⊢
  dsimp only
  have hd := (dig_ok h).1
  by_cases hn : t.2.2 = ⟨#[]⟩
  · rw [if_pos hn]; exact allE2_of g1 hd
  · rw [if_neg hn]; exact allE3_of g1 hd (g3.resolve_left hn)
theorem kt_z {t : U} (ht : TZ t) {i : Nat} (h : i < 4097) : TZ (kt t i) := by
  obtain ⟨⟨h1, h2, h3⟩, h4, h5, h6⟩ := ht
  have hd := (dig_ok h).2
  exact ⟨⟨h1, h2, h3⟩, h4, (by show (dig i).size ≤ _; omega), h6⟩
theorem kl_zero (t : U) : kl t 0 = [] := rfl
theorem kl_length (t : U) (n : Nat) : (kl t n).length = n := by simp [kl]
theorem kl_succ (t : U) (n : Nat) : kl t (n + 1) = kl t n ++ [kt t n] := by simp [kl, List.range_succ]
theorem kl_get {t : U} {n i : Nat} (h : i < n) : (kl t n)[i]? = some (kt t i) := by simp [kl, List.getElem?_range h]
theorem kl_take {t : U} {n k : Nat} (h : k ≤ n) : (kl t n).take k = kl t k := by
  unfold kl
  rw [← List.map_take, List.take_range, Nat.min_eq_left h]
theorem kl_mem {t : U} {n : Nat} {z : U} : z ∈ kl t n ↔ ∃ i, i < n ∧ kt t i = z := by simp [kl]
theorem kl_sst {t : U} {n : Nat} (h : n ≤ 4097) : Sst cmpT (kl t n) := by
  unfold kl Sst
  rw [List.pairwise_map]
  refine List.Pairwise.imp_of_mem (fun ha hb hlt => kt_lt ?_ hlt) List.pairwise_lt_range
  have := List.mem_range.1 hb; omega
theorem insS_end {α : Type} {c : α → α → Int} (h : Ord3 c) {t : α} : ∀ {l : List α}, (∀ z ∈ l, c z t < 0) → insS c t l = l ++ [t]
  | [], _ => rfl
  | y :: l, hl => by
    simp only [insS, List.cons_append]
    rw [if_neg (h.asym (hl y (List.mem_cons_self ..))), insS_end h fun z hz => hl z (List.mem_cons_of_mem _ hz)]
theorem kl_notin {t : U} {n i : Nat} (hi : i < 4097) (h : n ≤ i) : kt t i ∉ kl t n := fun hm => by
  obtain ⟨j, hj, e⟩ := kl_mem.1 hm
  exact kt_ne (by omega) hi (by omega) e
theorem withU_next {t : U} (ht : tE t = 0) {n : Nat} (h : n < 4096) : withU (kl t n) (kt t n) false = (kl t (n + 1), 0) := by
  unfold withU
  rw [if_pos (kt_ok ht (by omega)), if_neg (by decide), if_neg (kl_notin (by omega) (Nat.le_refl _)), if_neg (by rw [kl_length]; omega), kl_succ, insS_end cmpT_ord fun z hz => by
    obtain ⟨j, hj, rfl⟩ := kl_mem.1 hz
    exact kt_lt (by omega) hj]
theorem kl_drop {t : U} {n k : Nat} (h : k < n) : (kl t n).drop k = kt t k :: (kl t n).drop (k + 1) := drop_g (kl_get h)
theorem ofU_kl {t : U} (ht : tE t = 0) : ∀ (m k : Nat), k + m = 4096 → ofU (kl t k) ((kl t 4096).drop k) = (kl t 4096, 0)
  | 0, k, h => by
    obtain rfl : k = 4096 := by omega
    rw [List.drop_eq_nil_of_le (by rw [kl_length]; exact Nat.le_refl _)]
    rfl
  | m + 1, k, h => by
    rw [kl_drop (by omega), ofU, withU_next ht (by omega), if_pos rfl]
    exact ofU_kl ht m (k + 1) (by omega)
theorem ofU_kl0 {t : U} (ht : tE t = 0) : ofU [] (kl t 4096) = (kl t 4096, 0) := ofU_kl ht 4096 0 rfl
theorem withU_full {t : U} (ht : tE t = 0) : withU (kl t 4096) (kt t 4096) false = ([], 3) := by
  unfold withU
  rw [if_pos (kt_ok ht (by omega)), if_neg (by decide), if_neg (kl_notin (by omega) (Nat.le_refl _)), if_pos (by rw [kl_length]; exact Nat.le_refl _)]
theorem ofU_kl5 {t : U} (ht : tE t = 0) : ∀ (m k : Nat), k + m = 4096 → ofU (kl t k) ((kl t 4097).drop k) = ([], 3)
  | 0, k, h => by
    obtain rfl : k = 4096 := by omega
    rw [kl_drop (by omega), ofU, withU_full ht, if_neg (by decide)]
  | m + 1, k, h => by
    rw [kl_drop (by omega), ofU, withU_next ht (by omega), if_pos rfl]
    exact ofU_kl5 ht m (k + 1) (by omega)
theorem ofU_kl50 {t : U} (ht : tE t = 0) : ofU [] (kl t 4097) = ([], 3) := ofU_kl5 ht 4096 0 rfl
theorem withU_old {l : List U} {x : U} (hx : tE x = 0) (hm : x ∈ l) : withU l x false = (l, 0) := by
  unfold withU
  rw [if_pos hx, if_neg (by decide), if_pos hm]
theorem withU_gone {l : List U} {x : U} (hx : tE x = 0) (hm : x ∉ l) : withU l x true = (l, 0) := by
  unfold withU
  rw [if_pos hx, if_pos rfl, filter_out hm]
theorem withU_drop {l : List U} {x : U} (hx : tE x = 0) : withU l x true = (l.filter fun z => decide (z ≠ x), 0) := by
  unfold withU
  rw [if_pos hx, if_pos rfl]
/-- The facts of the closed statement. -/
structure K6 (t : U) (A Z : List U) : Prop where
  less : withU (kl t 4096) (kt t 7) true = (A, 0)
  more : withU A (kt t 4096) false = (Z, 0)
  la : A.length = 4095
  lz : Z.length = 4096
  has : decide (kt t 4096 ∈ Z) = true
  hasnt : decide (kt t 7 ∈ Z) = false
  goal : goalL Z t.1 = Z
  sub : (subL Z (kt t 9).2).length = 1
theorem k6 {t : U} (ht : tE t = 0) : ∃ A Z, K6 t A Z := by
  have m7 : kt t 7 ∈ kl t 4096 := kl_mem.2 ⟨7, by omega, rfl⟩
  have sK := kl_sst (t := t) (n := 4096) (by omega)
  have la := len_drop (sK.nodup cmpT_ord) m7
  rw [kl_length] at la
  have hA : ∀ z, z ∈ (kl t 4096).filter (fun z => decide (z ≠ kt t 7)) ↔ ∃ i, i < 4096 ∧ i ≠ 7 ∧ kt t i = z := fun z => by
    rw [List.mem_filter, kl_mem]
    constructor
    · rintro ⟨⟨i, hi, rfl⟩, hn⟩
      exact ⟨i, hi, fun e => by subst e; simp at hn, rfl⟩
    · rintro ⟨i, hi, h7, rfl⟩
      exact ⟨⟨i, hi, rfl⟩, by simpa using kt_ne (by omega) (by omega) h7⟩
  have sA : Sst cmpT ((kl t 4096).filter fun z => decide (z ≠ kt t 7)) := sK.sublist List.filter_sublist
  have n4 : kt t 4096 ∉ (kl t 4096).filter (fun z => decide (z ≠ kt t 7)) := fun h => kl_notin (by omega) (Nat.le_refl _) (List.mem_filter.1 h).1
  have hins : insS cmpT (kt t 4096) ((kl t 4096).filter fun z => decide (z ≠ kt t 7)) = (kl t 4096).filter (fun z => decide (z ≠ kt t 7)) ++ [kt t 4096] := insS_end cmpT_ord fun z hz => by
    obtain ⟨i, hi, _, rfl⟩ := (hA z).1 hz
    exact kt_lt (by omega) (by omega)
  have hw : withU ((kl t 4096).filter fun z => decide (z ≠ kt t 7)) (kt t 4096) false = ((kl t 4096).filter (fun z => decide (z ≠ kt t 7)) ++ [kt t 4096], 0) := by
    unfold withU
    rw [if_pos (kt_ok ht (by omega)), if_neg (by decide), if_neg n4, if_neg (by omega), hins]
  have hZ : ∀ z, z ∈ (kl t 4096).filter (fun z => decide (z ≠ kt t 7)) ++ [kt t 4096] ↔ ∃ i, i < 4097 ∧ i ≠ 7 ∧ kt t i = z := fun z => by
    rw [List.mem_append, hA, List.mem_singleton]
    constructor
    · rintro (⟨i, hi, h7, e⟩ | e)
      · exact ⟨i, by omega, h7, e⟩
      · exact ⟨4096, by omega, by omega, e.symm⟩
    · rintro ⟨i, hi, h7, e⟩
      by_cases h : i < 4096
      · exact .inl ⟨i, h, h7, e⟩
      · obtain rfl : i = 4096 := by omega
        exact .inr e.symm
  have sZ : Sst cmpT ((kl t 4096).filter (fun z => decide (z ≠ kt t 7)) ++ [kt t 4096]) := hins ▸ sst_insS cmpT_ord sA n4
  have hless := withU_drop (l := kl t 4096) (kt_ok ht (show 7 < 4097 by omega))
  generalize (kl t 4096).filter (fun z => decide (z ≠ kt t 7)) = A at *
  refine ⟨A, A ++ [kt t 4096], hless, hw, by omega, by simp; omega, decide_eq_true ((hZ _).2 ⟨4096, by omega, by omega, rfl⟩), decide_eq_false fun h => ?_, ?_, ?_⟩
  · obtain ⟨i, hi, h7, e⟩ := (hZ _).1 h
    exact kt_ne hi (by omega) h7 e
  · refine List.filter_eq_self.2 fun z hz => ?_
    obtain ⟨i, _, _, rfl⟩ := (hZ _).1 hz
    exact decide_eq_true rfl
  · have : subL (A ++ [kt t 4096]) (kt t 9).2 = [kt t 9] := sst_ext cmpT_ord (sZ.sublist List.filter_sublist) (List.pairwise_singleton _ _) fun z => by
      unfold subL
      rw [List.mem_filter, hZ, List.mem_singleton, decide_eq_true_eq]
      constructor
      · rintro ⟨⟨i, _, _, rfl⟩, e⟩
        exact Prod.ext rfl e
      · rintro rfl
        exact ⟨⟨9, by omega, by omega, rfl⟩, rfl⟩
    rw [this]
    rfl
end Go.V.L6
