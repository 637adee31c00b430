/- Texts on the way to FlightsJoin, part 5: one behind another. -/
import Derived.Test.YtfihdmobfmkclaaFlightsJoinM4
set_option linter.unusedVariables false
set_option linter.unusedSimpArgs false
namespace Go.V.L39
open Go.Proofs Go.RowKit Go.V
def RJoinP (r : Tb × Int × Bool) (e : Int) : Value → Heap → Prop := fun v H => ∃ tv, v = .tuple #[tv, .int .i64 r.2.1, .int .i64 (if r.2.2 = true then 1 else 0), .int .i64 e] ∧ TbR r.1 tv H
theorem RJoinP.mono {r : Tb × Int × Bool} {e : Int} : Kn.mono (.sat (RJoinP r e)) := fun _ _ _ ⟨tv, h1, h2⟩ hle => ⟨tv, h1, h2.mono hle⟩
theorem fl_drop6 {zs : List (Fl × Value)} {i : Nat} {f : Fl} {sv : Value} (h : zs[i]? = some (f, sv)) (rest : List Value) : ∃ r, (zs.flatMap flc ++ rest).drop (0 + i * 14 + 2) = [.int .u8 f.q.kd, .string f.q.g.1.1, .string f.q.g.1.2, .string f.q.g.2, .string f.q.u.1, .string f.q.u.2] ++ r := by
  obtain ⟨r, hr⟩ := fl_drop14 h rest
  exact ⟨[.int .i64 f.cl, .int .i64 f.cs, .int .i64 f.si, .int .i64 f.ve, .int .i64 f.sp, sv] ++ r, by rw [← List.drop_drop, hr]; rfl⟩
theorem slw_cells {e : TypeId} {s n : Nat} {xs : List Value} {v : Value} {H : Heap} (h : SlW e s n xs v H) : cellsL v = [v] := by
  obtain ⟨p, c, rfl⟩ := slw_sh h
  rfl
theorem cpy_items2 {B H : Heap} {l : List Fl} {zs : List (Fl × Value)} {b n cap i bi ni ci : Nat} {f : Fl} {cs csi : List Value} (h : CpyF B l zs (.slice (some ⟨b, 0, none⟩) n cap) H) (hi : zs[i]? = some (f, .slice (some ⟨bi, 0, none⟩) ni ci)) {j : Nat} {z : Fl × Value} (hz : zs[j]? = some z) (hji : j ≠ i) : IsV z.1.is false z.2 (H.off [(b, cs, tyF), (bi, csi, tyI)]) :=
  SlV.off (h.it j z hz).1.toV fun y hy b' o k m c e => by
    simp only [List.mem_cons, List.mem_nil_iff, or_false] at hy
    rcases hy with rfl | rfl
    · exact fun e2 => h.af j z hz b' o k m c b 0 none n cap e rfl e2.symm
    · rcases Nat.lt_or_ge j i with hlt | hge
      · exact fun e2 => h.ap j i z _ hlt hz hi b' o k m c bi 0 none ni ci e rfl e2.symm
      · exact fun e2 => h.ap i j _ z (by omega) hi hz bi 0 none ni ci b' o k m c rfl e e2
attribute [local irreducible] V N X VO Par StepOK Has Ret RetL RetO RetT RetG Src
set_option maxHeartbeats 8000000 in
set_option maxRecDepth 20000 in
theorem rjoin_ret {t : Tb} {q : Qu} {rv : Int} {x : It} {rd : Int} {lo : Bool} {zs : List (Fl × Value)} (hz : zs.map Prod.fst = t.fl) {fu fi : Bool} {s : Value} {w : World} {B0 : Heap} (hs0 : FsB zs fu fi s B0) (hZ : ∀ f ∈ t.fl, QuZ f.q) (hI : ∀ f ∈ t.fl, ∀ x ∈ f.is, 0 ≤ x.rv) (hQ : QuZ q) (hxr : 0 ≤ x.rv) (hn : itsN t.fl ≤ 9223372036854775807) (hln : zs.length ≤ 40000) (hB : B0.Le (hp w)) :
    Ret Try.prog 12 [tbv t.nx s, quv q, .int .u64 rv, itv x, .int .i64 rd, .bool lo] w B0 (RJoinP (joinT t q rv x rd lo) (joinE t q rv x rd lo)) := by
  have hlen := fls_len hz
  refine ya Try.func12 rfl Try.ntmps12 (Nat.le_of_ble_eq_true rfl) hB ?_
  refine zf ?_; refine zd (id := 0) ?_; refine za (qt rfl rfl rfl rfl) rfl ?_; refine za (qt rfl rfl rfl rfl) rfl ?_; refine za (qt rfl rfl rfl rfl) rfl ?_; refine za (y3 L rfl rfl rfl rfl) rfl ?_; refine za (ze rfl rfl rfl) rfl ?_; refine za (ze rfl rfl rfl) rfl ?_; refine za (ze rfl rfl rfl) rfl ?_; refine zg ?_; refine zi ?_; refine zf ?_; refine zf ?_
  refine V_opn 6 rfl fun v6 H1 s1 ⟨b6, e6, hb6⟩ => ?_
  subst e6
  refine V_opn 7 rfl fun v7 H2 s2 ⟨b7, e7, hb7⟩ => ?_
  subst e7
  refine V_opn 9 rfl fun v9 B s3 ⟨b9, e9, hb9⟩ => ?_
  subst e9
  have hs0B := (s1.trans s2).trans s3
  have hs := hs0.le hs0B.le
  have hsl := hs.sl
  replace hb6 := s3.le _ _ (s2.le _ _ hb6)
  replace hb7 := s3.le _ _ hb7
  clear hs0
  obtain ⟨e1, hc⟩ : ∃ e, chkE t = e := ⟨_, rfl⟩
  obtain ⟨e2, hq⟩ : ∃ e, quE q = e := ⟨_, rfl⟩
  obtain ⟨vx, hv⟩ : ∃ e, itV x = e := ⟨_, rfl⟩
  have hp1 : 0 ≤ e1 := by rw [← hc]; exact chkE_pos t
  have hp2 : 0 ≤ e2 := by rw [← hq]; exact quE_pos q
  by_cases h1 : e1 = 0
  · subst h1
    have hT := chkE_iff.1 hc
    have h1024 := chk_its hc
    have hit : ∀ f ∈ t.fl, f.is.length ≤ 40000 := fun f hf => by have := is_le hf; omega
    have hl0 := hT.last0
    by_cases h2 : e2 = 0
    · subst h2
      refine zd (id := 1) ?_; refine za (zt L (vs := [_, _]) (qs rfl (by assumption)) rfl rfl rfl rfl ⟨_, rfl⟩) rfl ?_; refine za (zu L rfl rfl (zh rfl) rfl rfl rfl (fun u H hH hle _ => rcheck_ret hz (hs.le hle) hZ hI hn hc hH)) rfl ?_; refine za (qo rfl rfl rfl rfl (decide_eq_false (by omega))) rfl ?_; refine zg ?_; refine zi ?_; refine zq rfl ?_; refine zx ?_; refine zi ?_; refine zf ?_; refine zf ?_; refine zd (id := 3) ?_; refine za (zt L (vs := [_, _, _, _, _, _]) (qs rfl (by assumption)) rfl rfl rfl rfl ⟨_, rfl⟩) rfl ?_; refine za (zu L rfl rfl (zh rfl) rfl rfl rfl (fun u H hH _ _ => rquery_ret hQ hq hH)) rfl ?_; refine za (qo rfl rfl rfl rfl (decide_eq_false (by omega))) rfl ?_; refine zg ?_; refine zi ?_; refine zq rfl ?_; refine zx ?_; refine zi ?_; refine zf ?_; refine zf ?_
      cases vx with
      | false =>
        have hE := jE3 (rd := rd) (lo := lo) (rv := rv) hc hq (Or.inl hv)
        rw [hE, jT0 (by rw [hE]; decide)]
        refine zd (id := 5) ?_; refine za (zt L (vs := [_, _, _, _, _]) (qs rfl (by assumption)) rfl rfl rfl rfl ⟨_, rfl⟩) rfl ?_; refine za (zu L rfl rfl (zh rfl) rfl rfl rfl (fun u H hH _ _ => ritem_ret hxr hv hH)) rfl ?_; refine za (qm rfl rfl rfl rfl rfl) rfl ?_; refine za (zb rfl rfl rfl) rfl ?_; refine za (zj rfl (zh rfl) rfl) rfl ?_; refine za (zj rfl (zh rfl) rfl) rfl ?_; refine za (zn rfl rfl rfl rfl) rfl ?_; refine za (zb rfl rfl rfl) rfl ?_; refine za (zj rfl (zh rfl) rfl) rfl ?_; refine za (zj rfl (zh rfl) rfl) rfl ?_; refine za (zn rfl rfl rfl rfl) rfl ?_; refine za (zb rfl rfl rfl) rfl ?_; refine za (zj rfl (zh rfl) rfl) rfl ?_; refine za (zj rfl (zh rfl) rfl) rfl ?_; refine za (zn rfl rfl rfl rfl) rfl ?_; refine zg ?_; refine zi ?_; refine zy rfl ?_; refine zf ?_; refine zd (id := 6) ?_; refine za (yc (cs := [_, _]) rfl rfl pl24 rfl rfl) rfl ?_; refine za (qq L rfl rfl rfl rfl rfl rfl rfl rfl) rfl ?_; refine za (ze rfl rfl rfl) rfl ?_; refine za (ze rfl rfl rfl) rfl ?_; refine za (ze rfl rfl rfl) rfl ?_; refine zg ?_; refine zi ?_
        refine qf L (rs := [.cell 12 24, .tmp 13, .tmp 14, .tmp 15]) rfl (fun _ _ h => h) hs0B fun u H hH hle => ?_
        refine resK_cellA (qn rfl) rfl rfl ?_
        exact ⟨_, rfl, tbr_zero⟩
      | true =>
        by_cases hr0 : rv = 0
        · have hE := jE3 (x := x) (rd := rd) (lo := lo) (rv := rv) hc hq (Or.inr (Or.inl hr0))
          rw [hE, jT0 (by rw [hE]; decide)]
          refine zd (id := 5) ?_; refine za (zt L (vs := [_, _, _, _, _]) (qs rfl (by assumption)) rfl rfl rfl rfl ⟨_, rfl⟩) rfl ?_; refine za (zu L rfl rfl (zh rfl) rfl rfl rfl (fun u H hH _ _ => ritem_ret hxr hv hH)) rfl ?_; refine za (qm rfl rfl rfl rfl rfl) rfl ?_; refine za (zb rfl rfl rfl) rfl ?_; refine za (zb rfl rfl rfl) rfl ?_; refine za (qm rfl rfl rfl rfl (decide_eq_true (by omega))) rfl ?_; refine za (zn rfl rfl rfl rfl) rfl ?_; refine za (zb rfl rfl rfl) rfl ?_; refine za (zj rfl (zh rfl) rfl) rfl ?_; refine za (zj rfl (zh rfl) rfl) rfl ?_; refine za (zn rfl rfl rfl rfl) rfl ?_; refine za (zb rfl rfl rfl) rfl ?_; refine za (zj rfl (zh rfl) rfl) rfl ?_; refine za (zj rfl (zh rfl) rfl) rfl ?_; refine za (zn rfl rfl rfl rfl) rfl ?_; refine zg ?_; refine zi ?_; refine zy rfl ?_; refine zf ?_; refine zd (id := 6) ?_; refine za (yc (cs := [_, _]) rfl rfl pl24 rfl rfl) rfl ?_; refine za (qq L rfl rfl rfl rfl rfl rfl rfl rfl) rfl ?_; refine za (ze rfl rfl rfl) rfl ?_; refine za (ze rfl rfl rfl) rfl ?_; refine za (ze rfl rfl rfl) rfl ?_; refine zg ?_; refine zi ?_
          refine qf L (rs := [.cell 12 24, .tmp 13, .tmp 14, .tmp 15]) rfl (fun _ _ h => h) hs0B fun u H hH hle => ?_
          refine resK_cellA (qn rfl) rfl rfl ?_
          exact ⟨_, rfl, tbr_zero⟩
        · by_cases hr1 : rd < 0
          · have hE := jE3 (x := x) (rd := rd) (lo := lo) (rv := rv) hc hq (Or.inr (Or.inr (Or.inl (by omega))))
            rw [hE, jT0 (by rw [hE]; decide)]
            refine zd (id := 5) ?_; refine za (zt L (vs := [_, _, _, _, _]) (qs rfl (by assumption)) rfl rfl rfl rfl ⟨_, rfl⟩) rfl ?_; refine za (zu L rfl rfl (zh rfl) rfl rfl rfl (fun u H hH _ _ => ritem_ret hxr hv hH)) rfl ?_; refine za (qm rfl rfl rfl rfl rfl) rfl ?_; refine za (zb rfl rfl rfl) rfl ?_; refine za (zb rfl rfl rfl) rfl ?_; refine za (qm rfl rfl rfl rfl (decide_eq_false (by omega))) rfl ?_; refine za (zn rfl rfl rfl rfl) rfl ?_; refine za (zb rfl rfl rfl) rfl ?_; refine za (zb rfl rfl rfl) rfl ?_; refine za (zz rfl rfl rfl rfl (decide_eq_true (by omega))) rfl ?_; refine za (zn rfl rfl rfl rfl) rfl ?_; refine za (zb rfl rfl rfl) rfl ?_; refine za (zj rfl (zh rfl) rfl) rfl ?_; refine za (zj rfl (zh rfl) rfl) rfl ?_; refine za (zn rfl rfl rfl rfl) rfl ?_; refine zg ?_; refine zi ?_; refine zy rfl ?_; refine zf ?_; refine zd (id := 6) ?_; refine za (yc (cs := [_, _]) rfl rfl pl24 rfl rfl) rfl ?_; refine za (qq L rfl rfl rfl rfl rfl rfl rfl rfl) rfl ?_; refine za (ze rfl rfl rfl) rfl ?_; refine za (ze rfl rfl rfl) rfl ?_; refine za (ze rfl rfl rfl) rfl ?_; refine zg ?_; refine zi ?_
            refine qf L (rs := [.cell 12 24, .tmp 13, .tmp 14, .tmp 15]) rfl (fun _ _ h => h) hs0B fun u H hH hle => ?_
            refine resK_cellA (qn rfl) rfl rfl ?_
            exact ⟨_, rfl, tbr_zero⟩
          · by_cases hr2 : 4611686018427387904 < rd
            · have hE := jE3 (x := x) (rd := rd) (lo := lo) (rv := rv) hc hq (Or.inr (Or.inr (Or.inr hr2)))
              rw [hE, jT0 (by rw [hE]; decide)]
              refine zd (id := 5) ?_; refine za (zt L (vs := [_, _, _, _, _]) (qs rfl (by assumption)) rfl rfl rfl rfl ⟨_, rfl⟩) rfl ?_; refine za (zu L rfl rfl (zh rfl) rfl rfl rfl (fun u H hH _ _ => ritem_ret hxr hv hH)) rfl ?_; refine za (qm rfl rfl rfl rfl rfl) rfl ?_; refine za (zb rfl rfl rfl) rfl ?_; refine za (zb rfl rfl rfl) rfl ?_; refine za (qm rfl rfl rfl rfl (decide_eq_false (by omega))) rfl ?_; refine za (zn rfl rfl rfl rfl) rfl ?_; refine za (zb rfl rfl rfl) rfl ?_; refine za (zb rfl rfl rfl) rfl ?_; refine za (zz rfl rfl rfl rfl (decide_eq_false (by omega))) rfl ?_; refine za (zn rfl rfl rfl rfl) rfl ?_; refine za (zb rfl rfl rfl) rfl ?_; refine za (zb rfl rfl rfl) rfl ?_; refine za (qo rfl rfl rfl rfl (decide_eq_true (by omega))) rfl ?_; refine za (zn rfl rfl rfl rfl) rfl ?_; refine zg ?_; refine zi ?_; refine zy rfl ?_; refine zf ?_; refine zd (id := 6) ?_; refine za (yc (cs := [_, _]) rfl rfl pl24 rfl rfl) rfl ?_; refine za (qq L rfl rfl rfl rfl rfl rfl rfl rfl) rfl ?_; refine za (ze rfl rfl rfl) rfl ?_; refine za (ze rfl rfl rfl) rfl ?_; refine za (ze rfl rfl rfl) rfl ?_; refine zg ?_; refine zi ?_
              refine qf L (rs := [.cell 12 24, .tmp 13, .tmp 14, .tmp 15]) rfl (fun _ _ h => h) hs0B fun u H hH hle => ?_
              refine resK_cellA (qn rfl) rfl rfl ?_
              exact ⟨_, rfl, tbr_zero⟩
            · refine zd (id := 5) ?_; refine za (zt L (vs := [_, _, _, _, _]) (qs rfl (by assumption)) rfl rfl rfl rfl ⟨_, rfl⟩) rfl ?_; refine za (zu L rfl rfl (zh rfl) rfl rfl rfl (fun u H hH _ _ => ritem_ret hxr hv hH)) rfl ?_; refine za (qm rfl rfl rfl rfl rfl) rfl ?_; refine za (zb rfl rfl rfl) rfl ?_; refine za (zb rfl rfl rfl) rfl ?_; refine za (qm rfl rfl rfl rfl (decide_eq_false (by omega))) rfl ?_; refine za (zn rfl rfl rfl rfl) rfl ?_; refine za (zb rfl rfl rfl) rfl ?_; refine za (zb rfl rfl rfl) rfl ?_; refine za (zz rfl rfl rfl rfl (decide_eq_false (by omega))) rfl ?_; refine za (zn rfl rfl rfl rfl) rfl ?_; refine za (zb rfl rfl rfl) rfl ?_; refine za (zb rfl rfl rfl) rfl ?_; refine za (qo rfl rfl rfl rfl (decide_eq_false (by omega))) rfl ?_; refine za (zn rfl rfl rfl rfl) rfl ?_; refine zg ?_; refine zi ?_; refine zq rfl ?_; refine zx ?_; refine zi ?_; refine zf ?_; refine zf ?_; refine zd (id := 7) ?_; refine za (ze rfl rfl rfl) rfl ?_; refine zg ?_; refine zi ?_; refine q8 ?_
              refine yf (fun i : Nat => [(2, .is (.int .u64 rv)), (4, .is (.int .i64 rd)), (5, .is (.bool lo)), (6, .is (.pointer (some ⟨b6, 0, none⟩))), (7, .is (.pointer (some ⟨b7, 0, none⟩))), (9, .is (.pointer (some ⟨b9, 0, none⟩))), (12, .own (Cell [.int .i64 0, .slice none 0 0] tyT)), (16, .is (.int .i64 i))]) (fun i => i ≤ zs.length ∧ ∀ (j : Nat) g, j < i → t.fl[j]? = some g → g.si ≤ rd) (fun i => zs.length - i) 0 ⟨Nat.zero_le _, fun j _ h => absurd h (Nat.not_lt_zero _)⟩ ⟨rfl, rfl, rfl, rfl, rfl, rfl, rfl, rfl, trivial⟩ ?_
              rintro i ⟨hi, hno⟩
              by_cases hlt : i < zs.length
              · obtain ⟨f, p, c, hzi, hli, hzv, hil, hc14⟩ := hs.at hz hlt
                by_cases hsi : rd < f.si
                · have hlast := (last_ex hT (by omega)).1 ⟨f, fls_mem hli, hsi⟩
                  have hE := jE3 (x := x) (rd := rd) (lo := lo) (rv := rv) hc hq (Or.inr (Or.inr (Or.inl hlast)))
                  rw [hE, jT0 (by rw [hE]; decide)]
                  refine zf ?_; refine zf ?_; refine zd (id := 8) ?_; refine za (zb rfl rfl rfl) rfl ?_; refine za (q7 L rfl rfl rfl rfl) rfl ?_; refine za (StepOK.seeV (zm L (qs rfl (by assumption)) rfl rfl rfl rfl) (by assumption)) rfl ?_; refine za (ye L rfl rfl rfl rfl) rfl ?_; refine za (zz rfl rfl rfl rfl (decide_eq_true (by omega))) rfl ?_; refine zg ?_; refine zi ?_; refine zy rfl ?_; refine zx ?_; refine zi ?_; refine zf ?_; refine q8 ?_; refine zf ?_; refine zd (id := 10) ?_; refine za (zb rfl rfl rfl) rfl ?_; refine za (q7 L rfl rfl rfl rfl) rfl ?_; refine za (StepOK.seeV (zm L (qs rfl (by assumption)) rfl rfl rfl rfl) (by assumption)) rfl ?_; refine za (zb rfl rfl rfl) rfl ?_; refine za (qk L _ rfl rfl rfl rfl rfl rfl rfl (by first | omega | decide) (by assumption)) rfl ?_; refine za (qz L rfl rfl rfl rfl) rfl ?_; refine za (y2 L rfl rfl rfl rfl rfl) rfl ?_; refine za (zz rfl rfl rfl rfl (decide_eq_true (by omega))) rfl ?_; refine zg ?_; refine zi ?_; refine zy rfl ?_; refine zf ?_; refine zd (id := 11) ?_; refine za (yc (cs := [_, _]) rfl rfl pl24 rfl rfl) rfl ?_; refine za (qq L rfl rfl rfl rfl rfl rfl rfl rfl) rfl ?_; refine za (ze rfl rfl rfl) rfl ?_; refine za (ze rfl rfl rfl) rfl ?_; refine za (ze rfl rfl rfl) rfl ?_; refine zg ?_; refine zi ?_
                  refine qf L (rs := [.cell 12 24, .tmp 13, .tmp 14, .tmp 15]) rfl (fun _ _ h => h) hs0B fun u H hH hle => ?_
                  refine resK_cellA (qn rfl) rfl rfl ?_
                  exact ⟨_, rfl, tbr_zero⟩
                · refine zf ?_; refine zf ?_; refine zd (id := 8) ?_; refine za (zb rfl rfl rfl) rfl ?_; refine za (q7 L rfl rfl rfl rfl) rfl ?_; refine za (StepOK.seeV (zm L (qs rfl (by assumption)) rfl rfl rfl rfl) (by assumption)) rfl ?_; refine za (ye L rfl rfl rfl rfl) rfl ?_; refine za (zz rfl rfl rfl rfl (decide_eq_true (by omega))) rfl ?_; refine zg ?_; refine zi ?_; refine zy rfl ?_; refine zx ?_; refine zi ?_; refine zf ?_; refine q8 ?_; refine zf ?_; refine zd (id := 10) ?_; refine za (zb rfl rfl rfl) rfl ?_; refine za (q7 L rfl rfl rfl rfl) rfl ?_; refine za (StepOK.seeV (zm L (qs rfl (by assumption)) rfl rfl rfl rfl) (by assumption)) rfl ?_; refine za (zb rfl rfl rfl) rfl ?_; refine za (qk L _ rfl rfl rfl rfl rfl rfl rfl (by first | omega | decide) (by assumption)) rfl ?_; refine za (qz L rfl rfl rfl rfl) rfl ?_; refine za (y2 L rfl rfl rfl rfl rfl) rfl ?_; refine za (zz rfl rfl rfl rfl (decide_eq_false (by omega))) rfl ?_; refine zg ?_; refine zi ?_; refine zq rfl ?_; refine zx ?_; refine qp ?_; refine zi ?_; refine zd (id := 9) ?_; refine za (zb rfl rfl rfl) rfl ?_; refine za (qb rfl rfl rfl rfl (wrap_i64 (by omega) (by omega))) rfl ?_; refine za (ze rfl rfl rfl) rfl ?_; refine zg ?_
                  exact qw (x := i) (i + 1) ⟨hlt, fun j g hj hg => by
                    rcases Nat.lt_or_ge j i with h | h
                    · exact hno j g h hg
                    · have : j = i := by omega
                      subst this; rw [hli] at hg; cases hg; omega⟩ (by omega) ⟨rfl, rfl, rfl, rfl, rfl, rfl, rfl, rfl, trivial⟩
              · obtain rfl : i = zs.length := by omega
                have hlast : ¬ rd < lastS t.fl := fun h => by
                  obtain ⟨f, hf, hsi⟩ := (last_ex hT (by omega)).2 h
                  obtain ⟨j, hj⟩ := List.getElem?_of_mem hf
                  have := hno j f (by have := get_lt hj; omega) hj
                  omega
                have h3 : ¬ (itV x = false ∨ rv = 0 ∨ rd < lastS t.fl ∨ 4611686018427387904 < rd) := by rw [hv]; simp; omega
                by_cases h4a : itsN t.fl = 1024
                · have hE := jE4 (q := q) (rv := rv) (lo := lo) hc hq h3 (Or.inl h4a)
                  rw [hE, jT0 (by rw [hE]; decide)]
                  refine zf ?_; refine zf ?_; refine zd (id := 8) ?_; refine za (zb rfl rfl rfl) rfl ?_; refine za (q7 L rfl rfl rfl rfl) rfl ?_; refine za (StepOK.seeV (zm L (qs rfl (by assumption)) rfl rfl rfl rfl) (by assumption)) rfl ?_; refine za (ye L rfl rfl rfl rfl) rfl ?_; refine za (zz rfl rfl rfl rfl (decide_eq_false (by omega))) rfl ?_; refine zg ?_; refine zi ?_; refine zq rfl ?_; refine y6 ?_; refine qd ?_; refine qd ?_; refine y4 ?_; refine zi ?_; refine zf ?_; refine zf ?_; refine zd (id := 12) ?_; refine za (zt L (vs := [_, _]) (qs rfl (by assumption)) rfl rfl rfl rfl ⟨_, rfl⟩) rfl ?_; refine za (zu L rfl rfl (zh rfl) rfl rfl rfl (fun u H hH hle _ => ritems_ret hz (hs.le hle) hn hH)) rfl ?_; refine za (qm rfl rfl rfl rfl (decide_eq_true (by omega))) rfl ?_; refine zg ?_; refine zi ?_; refine zy rfl ?_; refine zf ?_; refine zd (id := 13) ?_; refine za (yc (cs := [_, _]) rfl rfl pl24 rfl rfl) rfl ?_; refine za (qq L rfl rfl rfl rfl rfl rfl rfl rfl) rfl ?_; refine za (ze rfl rfl rfl) rfl ?_; refine za (ze rfl rfl rfl) rfl ?_; refine za (ze rfl rfl rfl) rfl ?_; refine zg ?_; refine zi ?_
                  refine qf L (rs := [.cell 12 24, .tmp 13, .tmp 14, .tmp 15]) rfl (fun _ _ h => h) hs0B fun u H hH hle => ?_
                  refine resK_cellA (qn rfl) rfl rfl ?_
                  exact ⟨_, rfl, tbr_zero⟩
                · refine zf ?_; refine zf ?_; refine zd (id := 8) ?_; refine za (zb rfl rfl rfl) rfl ?_; refine za (q7 L rfl rfl rfl rfl) rfl ?_; refine za (StepOK.seeV (zm L (qs rfl (by assumption)) rfl rfl rfl rfl) (by assumption)) rfl ?_; refine za (ye L rfl rfl rfl rfl) rfl ?_; refine za (zz rfl rfl rfl rfl (decide_eq_false (by omega))) rfl ?_; refine zg ?_; refine zi ?_; refine zq rfl ?_; refine y6 ?_; refine qd ?_; refine qd ?_; refine y4 ?_; refine zi ?_; refine zf ?_; refine zf ?_; refine zd (id := 12) ?_; refine za (zt L (vs := [_, _]) (qs rfl (by assumption)) rfl rfl rfl rfl ⟨_, rfl⟩) rfl ?_; refine za (zu L rfl rfl (zh rfl) rfl rfl rfl (fun u H hH hle _ => ritems_ret hz (hs.le hle) hn hH)) rfl ?_; refine za (qm rfl rfl rfl rfl (decide_eq_false (by omega))) rfl ?_; refine zg ?_; refine zi ?_; refine zq rfl ?_; refine zx ?_; refine zi ?_; refine zf ?_; refine zd (id := 14) ?_; refine za (zt L (vs := [_, _]) (qs rfl (by assumption)) rfl rfl rfl rfl ⟨_, rfl⟩) rfl ?_; refine za (ok_call (φ := CopyP B t) L rfl rfl (zh rfl) rfl rfl rfl CopyP.mono (fun u H hH hle _ => Ret.mono (rcopy_ret hz (hs.le hle) hln hit hH) fun v H' _ ⟨a, b, h1, h2⟩ => ⟨a, b, h1, h2.le hle⟩)) rfl ?_; refine vo_opn 68 rfl fun cv Hc sc hcv => ?_; obtain ⟨zs1, s', hve, hcf⟩ := hcv; subst hve; obtain ⟨ps, cs', hse⟩ := slw_sh hcf.fs; subst hse; refine za (y3 L rfl rfl rfl rfl) rfl ?_; refine za (qq L rfl rfl rfl rfl rfl rfl rfl rfl) rfl ?_; refine zg ?_; refine zi ?_; refine zf ?_; refine zf ?_
                  have hl1 := fls_len hcf.fl
                  refine V_hold 17 902 rfl fun b17 => ?_
                  refine zd (id := 15) ?_; refine za (ze rfl rfl rfl) rfl ?_; refine zg ?_; refine zi ?_; refine q8 ?_
                  refine yf (fun i : Nat => [(2, .is (.int .u64 rv)), (4, .is (.int .i64 rd)), (5, .is (.bool lo)), (6, .is (.pointer (some ⟨b6, 0, none⟩))), (7, .is (.pointer (some ⟨b7, 0, none⟩))), (9, .is (.pointer (some ⟨b9, 0, none⟩))), (12, .own (Cell [.int .i64 0, .slice none 0 0] tyT)), (17, .is (.pointer (some ⟨b17, 0, none⟩))), (18, .is (.int .i64 i)), (902, .own (HeldR b17 [.int .i64 t.nx, .slice ps zs1.length cs'] tyT))]) (fun i => i ≤ zs1.length ∧ ∀ (j : Nat) g, j < i → t.fl[j]? = some g → hitB q rv lo g = false) (fun i => zs1.length - i) 0 ⟨Nat.zero_le _, fun j _ h => absurd h (Nat.not_lt_zero _)⟩ ⟨rfl, rfl, rfl, rfl, rfl, rfl, rfl, rfl, rfl, rfl, trivial⟩ ?_
                  rintro i ⟨hi, hno⟩
                  have hb6c := sc.le _ _ hb6
                  have hb7c := sc.le _ _ hb7
                  have hb9c := sc.le _ _ hb9
                  by_cases hlt : i < zs1.length
                  · obtain ⟨bf, cap, rest, hse, hbf, d3, d4, d5, hbn⟩ := cpy_block hcf (by omega)
                    cases hse
                    obtain ⟨⟨f, sv⟩, hzi⟩ := get_some hlt
                    have hli := fls_get hcf.fl hzi
                    obtain ⟨r6, hq6⟩ := fl_drop6 hzi rest
                    obtain ⟨r1, hq1⟩ := fl_dropKR (k := 1) (v := .int .u64 f.rv) hzi rfl rest (off := 0 + i * 14 + 1) rfl
                    cases hh : hitB q rv lo f with
                    | false =>
                      have hnx : ∀ (j : Nat) g, j < i + 1 → t.fl[j]? = some g → hitB q rv lo g = false := fun j g hj hg => by
                        rcases Nat.lt_or_ge j i with h | h
                        · exact hno j g h hg
                        · have : j = i := by omega
                          subst this; rw [hli] at hg; cases hg; exact hh
                      by_cases hfq : f.q = q
                      · have hqe := eqQv (decide_eq_true hfq)
                        have hlo : lo = false := by
                          cases lo with
                          | false => rfl
                          | true => rw [hit_eq] at hh; simp [hfq] at hh
                        subst hlo
                        have hrv : f.rv ≠ rv := fun e => by rw [hit_eq] at hh; simp [hfq, e] at hh
                        refine zf ?_; refine zf ?_; refine zd (id := 16) ?_; refine za (zb rfl rfl rfl) rfl ?_; refine za (q7 L rfl rfl rfl rfl) rfl ?_; refine vo_stepR (zw L (q := 902) rfl rfl rfl rfl rfl rfl) ?_; refine za (y8 L rfl rfl rfl rfl) rfl ?_; refine za (zz rfl rfl rfl rfl (decide_eq_true (by omega))) rfl ?_; refine zg ?_; refine zi ?_; refine zy rfl ?_; refine zx ?_; refine zi ?_; refine zf ?_; refine q8 ?_; refine zf ?_; refine zf ?_; refine q9 (id := 18) [(200077, [902]), (200089, [902])] mixed (by kernel_rfl) ?_; refine zc (q7 L rfl rfl rfl rfl) rfl ?_; refine q0 (zw L (q := 902) rfl rfl rfl rfl rfl rfl) rfl rfl ?_; refine zc (zb rfl rfl rfl) rfl ?_; refine zc (zp L _ rfl rfl rfl rfl rfl rfl rfl (by omega)) rfl ?_; refine zc (q7 L rfl rfl rfl rfl) rfl ?_; refine zc (zt L (vs := [_, _, _, _, _, _]) (qs rfl hbf) rfl rfl rfl rfl ⟨r6, hq6⟩) rfl ?_; refine zc (zt L (vs := [_, _, _, _, _, _]) (qs rfl (by assumption)) rfl rfl rfl rfl ⟨_, rfl⟩) rfl ?_; refine zc (ok_aneq rfl rfl rfl rfl eq30 (by assumption) rfl) rfl ?_; refine zc (zb rfl rfl rfl) rfl ?_; refine zc (zb rfl rfl rfl) rfl ?_; refine zc (ok_not rfl rfl rfl rfl) rfl ?_; refine zc (zb rfl rfl rfl) rfl ?_; refine zc (q7 L rfl rfl rfl rfl) rfl ?_; refine q0 (zw L (q := 902) rfl rfl rfl rfl rfl rfl) rfl rfl ?_; refine zc (zb rfl rfl rfl) rfl ?_; refine zc (zp L _ rfl rfl rfl rfl rfl rfl rfl (by omega)) rfl ?_; refine zc (q7 L rfl rfl rfl rfl) rfl ?_; refine zc (zm L (qs rfl hbf) rfl rfl rfl hq1) rfl ?_; refine zc (zb rfl rfl rfl) rfl ?_; refine zc (qe rfl rfl rfl rfl (decide_eq_true (by omega))) rfl ?_; refine zc (zn rfl rfl rfl rfl) rfl ?_; refine zc (zn rfl rfl rfl rfl) rfl ?_; refine qg ?_; refine zi ?_; refine zy rfl ?_; refine y6 ?_; refine qd ?_; refine y4 ?_; refine zi ?_; refine zd (id := 17) ?_; refine za (zb rfl rfl rfl) rfl ?_; refine za (qb rfl rfl rfl rfl (wrap_i64 (by omega) (by omega))) rfl ?_; refine za (ze rfl rfl rfl) rfl ?_; refine zg ?_
                        exact qw (x := i) (i + 1) ⟨hlt, hnx⟩ (by omega) ⟨rfl, rfl, rfl, rfl, rfl, rfl, rfl, rfl, rfl, rfl, trivial⟩
                      · have hqe := eqQv (decide_eq_false hfq)
                        refine zf ?_; refine zf ?_; refine zd (id := 16) ?_; refine za (zb rfl rfl rfl) rfl ?_; refine za (q7 L rfl rfl rfl rfl) rfl ?_; refine vo_stepR (zw L (q := 902) rfl rfl rfl rfl rfl rfl) ?_; refine za (y8 L rfl rfl rfl rfl) rfl ?_; refine za (zz rfl rfl rfl rfl (decide_eq_true (by omega))) rfl ?_; refine zg ?_; refine zi ?_; refine zy rfl ?_; refine zx ?_; refine zi ?_; refine zf ?_; refine q8 ?_; refine zf ?_; refine zf ?_; refine q9 (id := 18) [(200077, [902]), (200089, [902])] mixed (by kernel_rfl) ?_; refine zc (q7 L rfl rfl rfl rfl) rfl ?_; refine q0 (zw L (q := 902) rfl rfl rfl rfl rfl rfl) rfl rfl ?_; refine zc (zb rfl rfl rfl) rfl ?_; refine zc (zp L _ rfl rfl rfl rfl rfl rfl rfl (by omega)) rfl ?_; refine zc (q7 L rfl rfl rfl rfl) rfl ?_; refine zc (zt L (vs := [_, _, _, _, _, _]) (qs rfl hbf) rfl rfl rfl rfl ⟨r6, hq6⟩) rfl ?_; refine zc (zt L (vs := [_, _, _, _, _, _]) (qs rfl (by assumption)) rfl rfl rfl rfl ⟨_, rfl⟩) rfl ?_; refine zc (ok_aneq rfl rfl rfl rfl eq30 (by assumption) rfl) rfl ?_; refine zc (zb rfl rfl rfl) rfl ?_; refine zc (zj rfl (zh rfl) rfl) rfl ?_; refine zc (zj rfl (zh rfl) rfl) rfl ?_; refine zc (zj rfl (zh rfl) rfl) rfl ?_; refine zc (zj rfl (zh rfl) rfl) rfl ?_; refine zc (zj rfl (zh rfl) rfl) rfl ?_; refine zc (zj rfl (zh rfl) rfl) rfl ?_; refine zc (zj rfl (zh rfl) rfl) rfl ?_; refine zc (zj rfl (zh rfl) rfl) rfl ?_; refine zc (zj rfl (zh rfl) rfl) rfl ?_; refine zc (zj rfl (zh rfl) rfl) rfl ?_; refine zc (zj rfl (zh rfl) rfl) rfl ?_; refine zc (zj rfl (zh rfl) rfl) rfl ?_; refine zc (zn rfl rfl rfl rfl) rfl ?_; refine qg ?_; refine zi ?_; refine zy rfl ?_; refine y6 ?_; refine qd ?_; refine y4 ?_; refine zi ?_; refine zd (id := 17) ?_; refine za (zb rfl rfl rfl) rfl ?_; refine za (qb rfl rfl rfl rfl (wrap_i64 (by omega) (by omega))) rfl ?_; refine za (ze rfl rfl rfl) rfl ?_; refine zg ?_
                        exact qw (x := i) (i + 1) ⟨hlt, hnx⟩ (by omega) ⟨rfl, rfl, rfl, rfl, rfl, rfl, rfl, rfl, rfl, rfl, trivial⟩
                    | true =>
                      have hoi : t.fl.findIdx? (hitB q rv lo) = some i := idxh hli hh hno
                      have hE := jE5 (q := q) (rv := rv) (lo := lo) hc hq h3 (by rw [hoi]; simp; exact h4a)
                      rw [jTh hE hoi hli, hE]
                      have hfq : f.q = q := by rw [hit_eq] at hh; simp at hh; exact hh.1
                      have hqe := eqQv (decide_eq_true hfq)
                      have hne : f.is ≠ [] := (hT.fl i f hli).ne
                      have hl0 : 0 < f.is.length := List.length_pos_iff.2 hne
                      obtain ⟨bi, capi, resti, hsvi, hbi, g3, g4, g5⟩ := slw_block (hcf.it i _ hzi).1 hl0
                      dsimp only at hsvi hbi g3 g4 g5
                      subst hsvi
                      have hbin : B bi = none := (hcf.it i _ hzi).2 _ _ _ _ _ rfl
                      have hbne : bi ≠ bf := hcf.af i _ hzi _ _ _ _ _ _ _ _ _ _ rfl rfl
                      obtain ⟨_, hq13⟩ := fl_dropKR (k := 13) hzi rfl rest (off := 0 + i * 14 + 13) rfl
                      obtain ⟨_, hq0⟩ := fl_dropKR (k := 0) hzi rfl rest (off := 0 + i * 14 + 0) rfl
                      have hfl := hit f (fls_mem hli)
                      cases lo with
                      | true =>
                        refine zf ?_; refine zf ?_; refine zd (id := 16) ?_; refine za (zb rfl rfl rfl) rfl ?_; refine za (q7 L rfl rfl rfl rfl) rfl ?_; refine vo_stepR (zw L (q := 902) rfl rfl rfl rfl rfl rfl) ?_; refine za (y8 L rfl rfl rfl rfl) rfl ?_; refine za (zz rfl rfl rfl rfl (decide_eq_true (by omega))) rfl ?_; refine zg ?_; refine zi ?_; refine zy rfl ?_; refine zx ?_; refine zi ?_; refine zf ?_; refine q8 ?_; refine zf ?_; refine zf ?_; refine q9 (id := 18) [(200077, [902]), (200089, [902])] mixed (by kernel_rfl) ?_; refine zc (q7 L rfl rfl rfl rfl) rfl ?_; refine q0 (zw L (q := 902) rfl rfl rfl rfl rfl rfl) rfl rfl ?_; refine zc (zb rfl rfl rfl) rfl ?_; refine zc (zp L _ rfl rfl rfl rfl rfl rfl rfl (by omega)) rfl ?_; refine zc (q7 L rfl rfl rfl rfl) rfl ?_; refine zc (zt L (vs := [_, _, _, _, _, _]) (qs rfl hbf) rfl rfl rfl rfl ⟨r6, hq6⟩) rfl ?_; refine zc (zt L (vs := [_, _, _, _, _, _]) (qs rfl (by assumption)) rfl rfl rfl rfl ⟨_, rfl⟩) rfl ?_; refine zc (ok_aneq rfl rfl rfl rfl eq30 (by assumption) rfl) rfl ?_; refine zc (zb rfl rfl rfl) rfl ?_; refine zc (zb rfl rfl rfl) rfl ?_; refine zc (ok_not rfl rfl rfl rfl) rfl ?_; refine zc (zb rfl rfl rfl) rfl ?_; refine zc (zj rfl (zh rfl) rfl) rfl ?_; refine zc (zj rfl (zh rfl) rfl) rfl ?_; refine zc (zj rfl (zh rfl) rfl) rfl ?_; refine zc (zj rfl (zh rfl) rfl) rfl ?_; refine zc (zj rfl (zh rfl) rfl) rfl ?_; refine zc (zj rfl (zh rfl) rfl) rfl ?_; refine zc (zj rfl (zh rfl) rfl) rfl ?_; refine zc (zj rfl (zh rfl) rfl) rfl ?_; refine zc (zn rfl rfl rfl rfl) rfl ?_; refine zc (zn rfl rfl rfl rfl) rfl ?_; refine qg ?_; refine zi ?_; refine zq rfl ?_; refine zx ?_; refine zi ?_; refine zf ?_
                        have hS : ∀ y ∈ [(bf, zs1.flatMap flc ++ rest, tyF), (bi, f.is.flatMap itc ++ resti, tyI)], Hc y.1 = some (.cells y.2.1.toArray y.2.2) ∧ B y.1 = none := fun y hy => by
                          simp only [List.mem_cons, List.mem_nil_iff, or_false] at hy
                          rcases hy with rfl | rfl
                          · exact ⟨hbf, hbn⟩
                          · exact ⟨hbi, hbin⟩
                        refine V_unpub (B0 := B) (κ1 := ofL [(9, .is (.pointer (some ⟨b9, 0, none⟩))), (12, .own (Cell [.int .i64 0, .slice none 0 0] tyT)), (17, .is (.pointer (some ⟨b17, 0, none⟩))), (18, .is (.int .i64 i)), (902, .own (HeldR b17 [.int .i64 t.nx, .slice (some ⟨bf, 0, none⟩) zs1.length cs'] tyT))]) 901 [(bf, zs1.flatMap flc ++ rest, tyF), (bi, f.is.flatMap itc ++ resti, tyI)] sc hS (hfree_of ⟨rfl, rfl, rfl, rfl, rfl, trivial⟩ fun p hp => by
                          simp only [List.mem_cons, List.mem_nil_iff, or_false] at hp
                          rcases hp with rfl | rfl | rfl | rfl | rfl
                          · exact trivial
                          · exact hfree_cell
                          · exact trivial
                          · exact trivial
                          · exact hfree_held) ?_
                        refine V_splitL 901 903 (by decide) (fun y hy => by rw [List.mem_singleton.1 hy]; exact hbne) rfl ?_
                        refine V_splitL 901 904 (by decide) (fun y hy => by cases hy) rfl ?_
                        have s4 : Since (Fr.pure w) B (Hc.off [(bf, zs1.flatMap flc ++ rest, tyF), (bi, f.is.flatMap itc ++ resti, tyI)]) := since_off sc fun y hy => (hS y hy).2
                        replace hb9c := s4.le _ _ hb9
                        clear hbf hbi
                        have hic : (f.is ++ [x]).flatMap itc = f.is.flatMap itc ++ [.int .i64 x.tk, .int .i64 x.im, .int .i64 x.cl, .int .i64 x.cs, .int .u64 x.rv] := by rw [List.flatMap_append, itc_one]
                        have hbl := fl_bleR (k := 13) hlt (by decide) rest (off := 0 + i * 14 + 13) rfl
                        refine q9 (id := 19) [(200099, [902]), (200102, [902]), (200106, [903]), (109, [904]), (100111, [903])] mixed (by kernel_rfl) ?_; refine zc (q7 L rfl rfl rfl rfl) rfl ?_; refine q0 (zw L (q := 902) rfl rfl rfl rfl rfl rfl) rfl rfl ?_; refine zc (zb rfl rfl rfl) rfl ?_; refine zc (q7 L rfl rfl rfl rfl) rfl ?_; refine q0 (zw L (q := 902) rfl rfl rfl rfl rfl rfl) rfl rfl ?_; refine zc (zb rfl rfl rfl) rfl ?_; refine zc (zp L _ rfl rfl rfl rfl rfl rfl rfl (by omega)) rfl ?_; refine zc (q7 L rfl rfl rfl rfl) rfl ?_; refine q0 (zw L (q := 903) rfl rfl rfl rfl rfl hq13) rfl rfl ?_; refine zc (zt L (vs := [_, _, _, _, _]) (qs rfl (by assumption)) rfl rfl rfl rfl ⟨_, rfl⟩) rfl ?_; refine zc (y0 L rfl rfl rfl rfl rfl rfl rfl rfl rfl) rfl ?_; refine par_step2 (StepOK2.pubW (ok_appendH L (q := 904) (m := 1) rfl rfl rfl rfl (flatMap_len itc_len f.is) g3 g4 g5 (apd_B rfl) rfl el33 rfl rfl (by omega) (by omega))) rfl rfl ?_; refine zc (zp L _ rfl rfl rfl rfl rfl rfl rfl (by omega)) rfl ?_; refine zc (q7 L rfl rfl rfl rfl) rfl ?_; refine y7 (ok_storeHS L (q := 903) SlWN.mono rfl rfl rfl rfl rfl (fun _ _ h => slw_cell h.1) (Nat.le_of_ble_eq_true hbl)) rfl ?_; refine qg ?_; refine zi ?_; refine zf ?_
                        refine V_opnX 903 rfl fun cs2 H5 s5 ⟨cs3, v, hc3, hyw, hc2⟩ => ?_
                        subst hc3 hc2
                        replace hyw : SlWN (Hc.off [(bf, zs1.flatMap flc ++ rest, tyF), (bi, f.is.flatMap itc ++ resti, tyI)]) tyI 5 (f.is.length + 1) ((f.is ++ [x]).flatMap itc) v H5 := by rw [hic]; exact hyw
                        rw [slw_cells hyw.1, fl_setKR (z' := ({ f with is := f.is ++ [x] }, v)) hzi (by decide) rfl rest rfl]
                        have hz2i : (zs1.set i ({ f with is := f.is ++ [x] }, v))[i]? = some ({ f with is := f.is ++ [x] }, v) := List.getElem?_set_self (by omega)
                        have hl2 : i < (zs1.set i ({ f with is := f.is ++ [x] }, v)).length := by rw [List.length_set]; exact hlt
                        obtain ⟨_, hq4⟩ := fl_dropKR (k := 9) hz2i rfl rest (off := 0 + i * 14 + 9) rfl
                        have hs4 := fl_setKR (k := 9) (z' := (addI x f, v)) (v := .int .i64 (min f.cs x.cs)) hz2i (by decide) rfl rest (off := 0 + i * 14 + 9) rfl
                        have hb4 := fl_bleR (k := 9) hl2 (by decide) rest (off := 0 + i * 14 + 9) rfl
                        rw [List.set_set] at hs4
                        have hmin : (if x.cs < f.cs then x.cs else f.cs) = min f.cs x.cs := by rw [Int.min_def]; split <;> split <;> omega
                        have hb9d := s5.le _ _ hb9c
                        clear hb9c
                        refine q9 (id := 20) [(200113, [902]), (200116, [902]), (200120, [903]), (100125, [903])] mixed (by kernel_rfl) ?_; refine zc (q7 L rfl rfl rfl rfl) rfl ?_; refine q0 (zw L (q := 902) rfl rfl rfl rfl rfl rfl) rfl rfl ?_; refine zc (zb rfl rfl rfl) rfl ?_; refine zc (q7 L rfl rfl rfl rfl) rfl ?_; refine q0 (zw L (q := 902) rfl rfl rfl rfl rfl rfl) rfl rfl ?_; refine zc (zb rfl rfl rfl) rfl ?_; refine zc (zp L _ rfl rfl rfl rfl rfl rfl rfl (by omega)) rfl ?_; refine zc (q7 L rfl rfl rfl rfl) rfl ?_; refine q0 (zw L (q := 903) rfl rfl rfl rfl rfl hq4) rfl rfl ?_; refine zc (q7 L rfl rfl rfl rfl) rfl ?_; refine zc (zm L (qs rfl (by assumption)) rfl rfl rfl rfl) rfl ?_; refine zc (ok_min rfl rfl rfl rfl (by assumption)) rfl ?_; refine zc (zp L _ rfl rfl rfl rfl rfl rfl rfl (by omega)) rfl ?_; refine zc (q7 L rfl rfl rfl rfl) rfl ?_; refine y7 (qv L (q := 903) rfl rfl rfl rfl rfl rfl hb4 rfl hs4) rfl ?_; refine qg ?_; refine zi ?_; refine zf ?_
                        have hz3i : (zs1.set i (addI x f, v))[i]? = some (addI x f, v) := List.getElem?_set_self (by omega)
                        obtain ⟨_, hq0⟩ := fl_dropKR (k := 0) hz3i rfl rest (off := 0 + i * 14 + 0) rfl
                        refine q9 (id := 21) [(200126, [902]), (200128, [902]), (200132, [903])] mixed (by kernel_rfl) ?_; refine q0 (ok_loadHA L (q := 902) (vs := [_, _]) rfl rfl rfl rfl rfl rfl ⟨_, rfl⟩) rfl rfl ?_; refine zc (q7 L rfl rfl rfl rfl) rfl ?_; refine q0 (zw L (q := 902) rfl rfl rfl rfl rfl rfl) rfl rfl ?_; refine zc (zb rfl rfl rfl) rfl ?_; refine zc (zp L _ rfl rfl rfl rfl rfl rfl rfl (by omega)) rfl ?_; refine zc (q7 L rfl rfl rfl rfl) rfl ?_; refine q0 (zw L (q := 903) rfl rfl rfl rfl rfl hq0) rfl rfl ?_; refine zc (qq L rfl rfl rfl rfl rfl rfl rfl rfl) rfl ?_; refine zc (ze rfl rfl rfl) rfl ?_; refine zc (ze rfl rfl rfl) rfl ?_; refine zc (ze rfl rfl rfl) rfl ?_; refine qg ?_; refine zi ?_
                        refine V_release 17 902 rfl rfl ?_
                        refine V_pubH 903 rfl fun H6 s6 hnb hb6 => ?_
                        refine qf L (rs := [.cell 12 24, .tmp 13, .tmp 14, .tmp 15]) rfl (fun _ _ h => h) (((hs0B.trans s4).trans s5).trans s6) fun u H hH hle => ?_
                        refine resK_cellA (qn rfl) rfl rfl ?_
                        refine ⟨_, rfl, TbR.mono ⟨zs1.set i (addI x f, v), _, rfl, ?_, fsb_cutG (by rw [List.length_set]) (by omega) (by rw [List.length_set]; omega) hb6 (fun j z hzj => ?_) (fun j z hzj => ?_)⟩ hle⟩
                        · rw [List.map_set, hcf.fl]
                          refine List.ext_getElem? fun j => ?_
                          rw [List.getElem?_set, List.getElem?_modify]
                          by_cases hj : i = j
                          · subst hj; rw [if_pos rfl, if_pos (by omega), hli]; simp
                          · rw [if_neg hj]; simp [hj]
                        · rw [List.getElem?_set] at hzj
                          by_cases hik : i = j
                          · subst hik
                            rw [if_pos rfl, if_pos (by omega)] at hzj
                            cases hzj
                            have e9 : (f.is ++ [x]).length = f.is.length + 1 := by simp
                            show SlV tyI 5 ((f.is ++ [x]).flatMap itc) (f.is ++ [x]).length false v H6
                            rw [e9]
                            exact hyw.1.toV.le s6.le
                          · rw [if_neg hik] at hzj
                            exact ((cpy_items2 hcf hzi hzj (fun e => hik e.symm)).le s5.le).le s6.le
                        · rw [List.getElem?_set] at hzj
                          by_cases hik : i = j
                          · subst hik
                            rw [if_pos rfl, if_pos (by omega)] at hzj
                            cases hzj
                            simp only [addI, List.length_append, List.length_cons, List.length_nil]; omega
                          · rw [if_neg hik] at hzj
                            have := hit z.1 (fls_mem (fls_get hcf.fl hzj)); omega
                      | false =>
                        have hrv : f.rv = rv := by rw [hit_eq] at hh; simp at hh; exact hh.2
                        refine zf ?_; refine zf ?_; refine zd (id := 16) ?_; refine za (zb rfl rfl rfl) rfl ?_; refine za (q7 L rfl rfl rfl rfl) rfl ?_; refine vo_stepR (zw L (q := 902) rfl rfl rfl rfl rfl rfl) ?_; refine za (y8 L rfl rfl rfl rfl) rfl ?_; refine za (zz rfl rfl rfl rfl (decide_eq_true (by omega))) rfl ?_; refine zg ?_; refine zi ?_; refine zy rfl ?_; refine zx ?_; refine zi ?_; refine zf ?_; refine q8 ?_; refine zf ?_; refine zf ?_; refine q9 (id := 18) [(200077, [902]), (200089, [902])] mixed (by kernel_rfl) ?_; refine zc (q7 L rfl rfl rfl rfl) rfl ?_; refine q0 (zw L (q := 902) rfl rfl rfl rfl rfl rfl) rfl rfl ?_; refine zc (zb rfl rfl rfl) rfl ?_; refine zc (zp L _ rfl rfl rfl rfl rfl rfl rfl (by omega)) rfl ?_; refine zc (q7 L rfl rfl rfl rfl) rfl ?_; refine zc (zt L (vs := [_, _, _, _, _, _]) (qs rfl hbf) rfl rfl rfl rfl ⟨r6, hq6⟩) rfl ?_; refine zc (zt L (vs := [_, _, _, _, _, _]) (qs rfl (by assumption)) rfl rfl rfl rfl ⟨_, rfl⟩) rfl ?_; refine zc (ok_aneq rfl rfl rfl rfl eq30 (by assumption) rfl) rfl ?_; refine zc (zb rfl rfl rfl) rfl ?_; refine zc (zb rfl rfl rfl) rfl ?_; refine zc (ok_not rfl rfl rfl rfl) rfl ?_; refine zc (zb rfl rfl rfl) rfl ?_; refine zc (q7 L rfl rfl rfl rfl) rfl ?_; refine q0 (zw L (q := 902) rfl rfl rfl rfl rfl rfl) rfl rfl ?_; refine zc (zb rfl rfl rfl) rfl ?_; refine zc (zp L _ rfl rfl rfl rfl rfl rfl rfl (by omega)) rfl ?_; refine zc (q7 L rfl rfl rfl rfl) rfl ?_; refine zc (zm L (qs rfl hbf) rfl rfl rfl hq1) rfl ?_; refine zc (zb rfl rfl rfl) rfl ?_; refine zc (qe rfl rfl rfl rfl (decide_eq_false (by omega))) rfl ?_; refine zc (zn rfl rfl rfl rfl) rfl ?_; refine zc (zn rfl rfl rfl rfl) rfl ?_; refine qg ?_; refine zi ?_; refine zq rfl ?_; refine zx ?_; refine zi ?_; refine zf ?_
                        have hS : ∀ y ∈ [(bf, zs1.flatMap flc ++ rest, tyF), (bi, f.is.flatMap itc ++ resti, tyI)], Hc y.1 = some (.cells y.2.1.toArray y.2.2) ∧ B y.1 = none := fun y hy => by
                          simp only [List.mem_cons, List.mem_nil_iff, or_false] at hy
                          rcases hy with rfl | rfl
                          · exact ⟨hbf, hbn⟩
                          · exact ⟨hbi, hbin⟩
                        refine V_unpub (B0 := B) (κ1 := ofL [(9, .is (.pointer (some ⟨b9, 0, none⟩))), (12, .own (Cell [.int .i64 0, .slice none 0 0] tyT)), (17, .is (.pointer (some ⟨b17, 0, none⟩))), (18, .is (.int .i64 i)), (902, .own (HeldR b17 [.int .i64 t.nx, .slice (some ⟨bf, 0, none⟩) zs1.length cs'] tyT))]) 901 [(bf, zs1.flatMap flc ++ rest, tyF), (bi, f.is.flatMap itc ++ resti, tyI)] sc hS (hfree_of ⟨rfl, rfl, rfl, rfl, rfl, trivial⟩ fun p hp => by
                          simp only [List.mem_cons, List.mem_nil_iff, or_false] at hp
                          rcases hp with rfl | rfl | rfl | rfl | rfl
                          · exact trivial
                          · exact hfree_cell
                          · exact trivial
                          · exact trivial
                          · exact hfree_held) ?_
                        refine V_splitL 901 903 (by decide) (fun y hy => by rw [List.mem_singleton.1 hy]; exact hbne) rfl ?_
                        refine V_splitL 901 904 (by decide) (fun y hy => by cases hy) rfl ?_
                        have s4 : Since (Fr.pure w) B (Hc.off [(bf, zs1.flatMap flc ++ rest, tyF), (bi, f.is.flatMap itc ++ resti, tyI)]) := since_off sc fun y hy => (hS y hy).2
                        replace hb9c := s4.le _ _ hb9
                        clear hbf hbi
                        have hic : (f.is ++ [x]).flatMap itc = f.is.flatMap itc ++ [.int .i64 x.tk, .int .i64 x.im, .int .i64 x.cl, .int .i64 x.cs, .int .u64 x.rv] := by rw [List.flatMap_append, itc_one]
                        have hbl := fl_bleR (k := 13) hlt (by decide) rest (off := 0 + i * 14 + 13) rfl
                        refine q9 (id := 19) [(200099, [902]), (200102, [902]), (200106, [903]), (109, [904]), (100111, [903])] mixed (by kernel_rfl) ?_; refine zc (q7 L rfl rfl rfl rfl) rfl ?_; refine q0 (zw L (q := 902) rfl rfl rfl rfl rfl rfl) rfl rfl ?_; refine zc (zb rfl rfl rfl) rfl ?_; refine zc (q7 L rfl rfl rfl rfl) rfl ?_; refine q0 (zw L (q := 902) rfl rfl rfl rfl rfl rfl) rfl rfl ?_; refine zc (zb rfl rfl rfl) rfl ?_; refine zc (zp L _ rfl rfl rfl rfl rfl rfl rfl (by omega)) rfl ?_; refine zc (q7 L rfl rfl rfl rfl) rfl ?_; refine q0 (zw L (q := 903) rfl rfl rfl rfl rfl hq13) rfl rfl ?_; refine zc (zt L (vs := [_, _, _, _, _]) (qs rfl (by assumption)) rfl rfl rfl rfl ⟨_, rfl⟩) rfl ?_; refine zc (y0 L rfl rfl rfl rfl rfl rfl rfl rfl rfl) rfl ?_; refine par_step2 (StepOK2.pubW (ok_appendH L (q := 904) (m := 1) rfl rfl rfl rfl (flatMap_len itc_len f.is) g3 g4 g5 (apd_B rfl) rfl el33 rfl rfl (by omega) (by omega))) rfl rfl ?_; refine zc (zp L _ rfl rfl rfl rfl rfl rfl rfl (by omega)) rfl ?_; refine zc (q7 L rfl rfl rfl rfl) rfl ?_; refine y7 (ok_storeHS L (q := 903) SlWN.mono rfl rfl rfl rfl rfl (fun _ _ h => slw_cell h.1) (Nat.le_of_ble_eq_true hbl)) rfl ?_; refine qg ?_; refine zi ?_; refine zf ?_
                        refine V_opnX 903 rfl fun cs2 H5 s5 ⟨cs3, v, hc3, hyw, hc2⟩ => ?_
                        subst hc3 hc2
                        replace hyw : SlWN (Hc.off [(bf, zs1.flatMap flc ++ rest, tyF), (bi, f.is.flatMap itc ++ resti, tyI)]) tyI 5 (f.is.length + 1) ((f.is ++ [x]).flatMap itc) v H5 := by rw [hic]; exact hyw
                        rw [slw_cells hyw.1, fl_setKR (z' := ({ f with is := f.is ++ [x] }, v)) hzi (by decide) rfl rest rfl]
                        have hz2i : (zs1.set i ({ f with is := f.is ++ [x] }, v))[i]? = some ({ f with is := f.is ++ [x] }, v) := List.getElem?_set_self (by omega)
                        have hl2 : i < (zs1.set i ({ f with is := f.is ++ [x] }, v)).length := by rw [List.length_set]; exact hlt
                        obtain ⟨_, hq4⟩ := fl_dropKR (k := 9) hz2i rfl rest (off := 0 + i * 14 + 9) rfl
                        have hs4 := fl_setKR (k := 9) (z' := (addI x f, v)) (v := .int .i64 (min f.cs x.cs)) hz2i (by decide) rfl rest (off := 0 + i * 14 + 9) rfl
                        have hb4 := fl_bleR (k := 9) hl2 (by decide) rest (off := 0 + i * 14 + 9) rfl
                        rw [List.set_set] at hs4
                        have hmin : (if x.cs < f.cs then x.cs else f.cs) = min f.cs x.cs := by rw [Int.min_def]; split <;> split <;> omega
                        have hb9d := s5.le _ _ hb9c
                        clear hb9c
                        refine q9 (id := 20) [(200113, [902]), (200116, [902]), (200120, [903]), (100125, [903])] mixed (by kernel_rfl) ?_; refine zc (q7 L rfl rfl rfl rfl) rfl ?_; refine q0 (zw L (q := 902) rfl rfl rfl rfl rfl rfl) rfl rfl ?_; refine zc (zb rfl rfl rfl) rfl ?_; refine zc (q7 L rfl rfl rfl rfl) rfl ?_; refine q0 (zw L (q := 902) rfl rfl rfl rfl rfl rfl) rfl rfl ?_; refine zc (zb rfl rfl rfl) rfl ?_; refine zc (zp L _ rfl rfl rfl rfl rfl rfl rfl (by omega)) rfl ?_; refine zc (q7 L rfl rfl rfl rfl) rfl ?_; refine q0 (zw L (q := 903) rfl rfl rfl rfl rfl hq4) rfl rfl ?_; refine zc (q7 L rfl rfl rfl rfl) rfl ?_; refine zc (zm L (qs rfl (by assumption)) rfl rfl rfl rfl) rfl ?_; refine zc (ok_min rfl rfl rfl rfl (by assumption)) rfl ?_; refine zc (zp L _ rfl rfl rfl rfl rfl rfl rfl (by omega)) rfl ?_; refine zc (q7 L rfl rfl rfl rfl) rfl ?_; refine y7 (qv L (q := 903) rfl rfl rfl rfl rfl rfl hb4 rfl hs4) rfl ?_; refine qg ?_; refine zi ?_; refine zf ?_
                        have hz3i : (zs1.set i (addI x f, v))[i]? = some (addI x f, v) := List.getElem?_set_self (by omega)
                        obtain ⟨_, hq0⟩ := fl_dropKR (k := 0) hz3i rfl rest (off := 0 + i * 14 + 0) rfl
                        refine q9 (id := 21) [(200126, [902]), (200128, [902]), (200132, [903])] mixed (by kernel_rfl) ?_; refine q0 (ok_loadHA L (q := 902) (vs := [_, _]) rfl rfl rfl rfl rfl rfl ⟨_, rfl⟩) rfl rfl ?_; refine zc (q7 L rfl rfl rfl rfl) rfl ?_; refine q0 (zw L (q := 902) rfl rfl rfl rfl rfl rfl) rfl rfl ?_; refine zc (zb rfl rfl rfl) rfl ?_; refine zc (zp L _ rfl rfl rfl rfl rfl rfl rfl (by omega)) rfl ?_; refine zc (q7 L rfl rfl rfl rfl) rfl ?_; refine q0 (zw L (q := 903) rfl rfl rfl rfl rfl hq0) rfl rfl ?_; refine zc (qq L rfl rfl rfl rfl rfl rfl rfl rfl) rfl ?_; refine zc (ze rfl rfl rfl) rfl ?_; refine zc (ze rfl rfl rfl) rfl ?_; refine zc (ze rfl rfl rfl) rfl ?_; refine qg ?_; refine zi ?_
                        refine V_release 17 902 rfl rfl ?_
                        refine V_pubH 903 rfl fun H6 s6 hnb hb6 => ?_
                        refine qf L (rs := [.cell 12 24, .tmp 13, .tmp 14, .tmp 15]) rfl (fun _ _ h => h) (((hs0B.trans s4).trans s5).trans s6) fun u H hH hle => ?_
                        refine resK_cellA (qn rfl) rfl rfl ?_
                        refine ⟨_, rfl, TbR.mono ⟨zs1.set i (addI x f, v), _, rfl, ?_, fsb_cutG (by rw [List.length_set]) (by omega) (by rw [List.length_set]; omega) hb6 (fun j z hzj => ?_) (fun j z hzj => ?_)⟩ hle⟩
                        · rw [List.map_set, hcf.fl]
                          refine List.ext_getElem? fun j => ?_
                          rw [List.getElem?_set, List.getElem?_modify]
                          by_cases hj : i = j
                          · subst hj; rw [if_pos rfl, if_pos (by omega), hli]; simp
                          · rw [if_neg hj]; simp [hj]
                        · rw [List.getElem?_set] at hzj
                          by_cases hik : i = j
                          · subst hik
                            rw [if_pos rfl, if_pos (by omega)] at hzj
                            cases hzj
                            have e9 : (f.is ++ [x]).length = f.is.length + 1 := by simp
                            show SlV tyI 5 ((f.is ++ [x]).flatMap itc) (f.is ++ [x]).length false v H6
                            rw [e9]
                            exact hyw.1.toV.le s6.le
                          · rw [if_neg hik] at hzj
                            exact ((cpy_items2 hcf hzi hzj (fun e => hik e.symm)).le s5.le).le s6.le
                        · rw [List.getElem?_set] at hzj
                          by_cases hik : i = j
                          · subst hik
                            rw [if_pos rfl, if_pos (by omega)] at hzj
                            cases hzj
                            simp only [addI, List.length_append, List.length_cons, List.length_nil]; omega
                          · rw [if_neg hik] at hzj
                            have := hit z.1 (fls_mem (fls_get hcf.fl hzj)); omega
                  · obtain rfl : i = zs1.length := by omega
                    have hoi : t.fl.findIdx? (hitB q rv lo) = none := idxn fun j g hg => hno j g (by have := get_lt hg; omega) hg
                    by_cases hnx : t.nx = 2147483647
                    · have hE := jE4 (q := q) (rv := rv) (lo := lo) hc hq h3 (Or.inr ⟨hoi, hnx⟩)
                      rw [hE, jT0 (by rw [hE]; decide)]
                      refine zf ?_; refine zf ?_; refine zd (id := 16) ?_; refine za (zb rfl rfl rfl) rfl ?_; refine za (q7 L rfl rfl rfl rfl) rfl ?_; refine vo_stepR (zw L (q := 902) rfl rfl rfl rfl rfl rfl) ?_; refine za (y8 L rfl rfl rfl rfl) rfl ?_; refine za (zz rfl rfl rfl rfl (decide_eq_false (by omega))) rfl ?_; refine zg ?_; refine zi ?_; refine zq rfl ?_; refine y6 ?_; refine qd ?_; refine qd ?_; refine y4 ?_; refine zi ?_; refine zf ?_; refine zf ?_; refine zd (id := 22) ?_; refine za (q7 L rfl rfl rfl rfl) rfl ?_; refine za (zm L (qs rfl (by assumption)) rfl rfl rfl rfl) rfl ?_; refine za (qm rfl rfl rfl rfl (decide_eq_true (by omega))) rfl ?_; refine zg ?_; refine zi ?_; refine zy rfl ?_; refine zf ?_; refine zd (id := 23) ?_; refine za (yc (cs := [_, _]) rfl rfl pl24 rfl rfl) rfl ?_; refine za (qq L rfl rfl rfl rfl rfl rfl rfl rfl) rfl ?_; refine za (ze rfl rfl rfl) rfl ?_; refine za (ze rfl rfl rfl) rfl ?_; refine za (ze rfl rfl rfl) rfl ?_; refine zg ?_; refine zi ?_
                      refine qf L (rs := [.cell 12 24, .tmp 13, .tmp 14, .tmp 15]) rfl (fun _ _ h => h) (hs0B.trans sc) fun u H hH hle => ?_
                      refine resK_cellA (qn rfl) rfl rfl ?_
                      exact ⟨_, rfl, tbr_zero⟩
                    · have hE := jE5 (q := q) (rv := rv) (lo := lo) hc hq h3 (by intro h; rcases h with h | h; exact h4a h; exact hnx h.2)
                      rw [jTn hE hoi, hE]
                      have hnx2 := chk_nx hc
                      have hw : IntKind.i64.wrap (t.nx + 1) = t.nx + 1 := wrap_i64 (by omega) (by omega)
                      refine zf ?_; refine zf ?_; refine zd (id := 16) ?_; refine za (zb rfl rfl rfl) rfl ?_; refine za (q7 L rfl rfl rfl rfl) rfl ?_; refine vo_stepR (zw L (q := 902) rfl rfl rfl rfl rfl rfl) ?_; refine za (y8 L rfl rfl rfl rfl) rfl ?_; refine za (zz rfl rfl rfl rfl (decide_eq_false (by omega))) rfl ?_; refine zg ?_; refine zi ?_; refine zq rfl ?_; refine y6 ?_; refine qd ?_; refine qd ?_; refine y4 ?_; refine zi ?_; refine zf ?_; refine zf ?_; refine zd (id := 22) ?_; refine za (q7 L rfl rfl rfl rfl) rfl ?_; refine za (zm L (qs rfl (by assumption)) rfl rfl rfl rfl) rfl ?_; refine za (qm rfl rfl rfl rfl (decide_eq_false (by omega))) rfl ?_; refine zg ?_; refine zi ?_; refine zq rfl ?_; refine zx ?_; refine zi ?_; refine zf ?_
                      rcases hcf.fs.2 with ⟨h00, hse⟩ | ⟨bf, cap, rest, hse, hbf, d3, d4, d5⟩
                      rotate_left
                      · have hbn : B bf = none := hcf.nf _ _ _ _ _ hse
                        cases hse
                        have hS : ∀ y ∈ [(bf, zs1.flatMap flc ++ rest, tyF)], Hc y.1 = some (.cells y.2.1.toArray y.2.2) ∧ B y.1 = none := fun y hy => by
                          rw [List.mem_singleton.1 hy]
                          exact ⟨hbf, hbn⟩
                        refine V_unpub (B0 := B) (κ1 := ofL [(2, .is (.int .u64 rv)), (4, .is (.int .i64 rd)), (6, .is (.pointer (some ⟨b6, 0, none⟩))), (7, .is (.pointer (some ⟨b7, 0, none⟩))), (9, .is (.pointer (some ⟨b9, 0, none⟩))), (12, .own (Cell [.int .i64 0, .slice none 0 0] tyT)), (17, .is (.pointer (some ⟨b17, 0, none⟩))), (902, .own (HeldR b17 [.int .i64 t.nx, .slice (some ⟨bf, 0, none⟩) zs1.length cs'] tyT))]) 901 [(bf, zs1.flatMap flc ++ rest, tyF)] sc hS (hfree_of ⟨rfl, rfl, rfl, rfl, rfl, rfl, rfl, rfl, trivial⟩ fun p hp => by
                          simp only [List.mem_cons, List.mem_nil_iff, or_false] at hp
                          rcases hp with rfl | rfl | rfl | rfl | rfl | rfl | rfl | rfl
                          · exact trivial
                          · exact trivial
                          · exact trivial
                          · exact trivial
                          · exact trivial
                          · exact hfree_cell
                          · exact trivial
                          · exact hfree_held) ?_
                        refine V_splitL 901 904 (by decide) (fun y hy => by cases hy) rfl ?_
                        have s4 : Since (Fr.pure w) B (Hc.off [(bf, zs1.flatMap flc ++ rest, tyF)]) := since_off sc fun y hy => (hS y hy).2
                        replace hb6c := s4.le _ _ hb6
                        replace hb7c := s4.le _ _ hb7
                        replace hb9c := s4.le _ _ hb9
                        have hitm : ∀ (j : Nat) z, zs1[j]? = some z → IsV z.1.is false z.2 (Hc.off [(bf, zs1.flatMap flc ++ rest, tyF)]) := fun j z hz => cpy_items hcf hz
                        clear hbf
                        refine zd (id := 24) ?_; refine za (q7 L rfl rfl rfl rfl) rfl ?_; refine vo_stepR (zw L (q := 902) rfl rfl rfl rfl rfl rfl) ?_; refine za (q7 L rfl rfl rfl rfl) rfl ?_; refine za (zm L (qs rfl (by assumption)) rfl rfl rfl rfl) rfl ?_; refine za (zb rfl rfl rfl) rfl ?_; refine za (zt L (vs := [_, _, _, _, _, _]) (qs rfl (by assumption)) rfl rfl rfl rfl ⟨_, rfl⟩) rfl ?_; refine za (q7 L rfl rfl rfl rfl) rfl ?_; refine za (zm L (qs rfl (by assumption)) rfl rfl rfl rfl) rfl ?_; refine za (q7 L rfl rfl rfl rfl) rfl ?_; refine za (zm L (qs rfl (by assumption)) rfl rfl rfl rfl) rfl ?_; refine za (zb rfl rfl rfl) rfl ?_; refine za (zt L (vs := [_, _, _, _, _]) (qs rfl (by assumption)) rfl rfl rfl rfl ⟨_, rfl⟩) rfl ?_; refine za (y0 L rfl rfl rfl rfl rfl rfl rfl rfl rfl) rfl ?_; refine vo_opn 149 rfl fun v149 H5 s5 ⟨b149, e149, hb149⟩ => ?_; subst e149; refine za (yc (cs := [_, _, _, _, _, _, _, _, _, _, _, _, _, _]) rfl rfl pl49 rfl rfl) rfl ?_; refine za (y0 L rfl rfl rfl rfl rfl rfl rfl rfl rfl) rfl ?_; refine ql (ok_appendH L (q := 904) (m := 1) rfl rfl rfl rfl (flatMap_len flc_len zs1) d3 d4 d5 (apd_B rfl) rfl el49 rfl rfl (by omega) (by omega)) ?_; refine vo_pubW 152 rfl fun x152 H6 s6 hnb hyw => ?_; obtain ⟨p9, c9, e9⟩ := slw_sh hyw; subst e9; refine za (q7 L rfl rfl rfl rfl) rfl ?_; refine vo_stepS (qv L (q := 902) rfl rfl rfl rfl rfl rfl rfl rfl rfl) ?_; refine zg ?_; refine zi ?_; refine zf ?_
                        have hb6d := s6.le _ _ (s5.le _ _ hb6c)
                        clear hb6c hb7c hb9c hb6 hb7 hb9
                        refine zd (id := 25) ?_; refine za (q7 L rfl rfl rfl rfl) rfl ?_; refine za (zm L (qs rfl (by assumption)) rfl rfl rfl rfl) rfl ?_; refine za (qb rfl rfl rfl rfl (by assumption)) rfl ?_; refine za (q7 L rfl rfl rfl rfl) rfl ?_; refine vo_stepS (qv L (q := 902) rfl rfl rfl rfl rfl rfl rfl rfl rfl) ?_; refine zg ?_; refine zi ?_; refine zf ?_
                        refine q9 (id := 26) [(200158, [902])] mixed (by kernel_rfl) ?_; refine q0 (ok_loadHA L (q := 902) (vs := [_, _]) rfl rfl rfl rfl rfl rfl ⟨_, rfl⟩) rfl rfl ?_; refine zc (q7 L rfl rfl rfl rfl) rfl ?_; refine zc (zm L (qs rfl (by assumption)) rfl rfl rfl rfl) rfl ?_; refine zc (qq L rfl rfl rfl rfl rfl rfl rfl rfl) rfl ?_; refine zc (ze rfl rfl rfl) rfl ?_; refine zc (ze rfl rfl rfl) rfl ?_; refine zc (ze rfl rfl rfl) rfl ?_; refine qg ?_; refine zi ?_
                        refine qf L (rs := [.cell 12 24, .tmp 13, .tmp 14, .tmp 15]) rfl (fun _ _ h => h) (((hs0B.trans s4).trans s5).trans s6) fun u H hH hle => ?_
                        refine resK_cellA (qn rfl) rfl rfl ?_
                        refine ⟨_, rfl, TbR.mono ⟨zs1 ++ [(newF t.nx rv q x rd, .slice (some ⟨b149, 0, none⟩) 1 1)], _, rfl, by rw [List.map_append, hcf.fl]; rfl, ⟨?_, fun j z hz => ?_, by rw [List.length_append, List.length_singleton]; omega, fun j z hz => ?_⟩⟩ hle⟩
                        · have h9 := hyw.toV
                          rw [List.flatMap_append, List.length_append]
                          exact h9
                        · rcases Nat.lt_or_ge j zs1.length with h | h
                          · rw [List.getElem?_append_left h] at hz
                            exact ((hitm j z hz).le s5.le).le s6.le
                          · rw [List.getElem?_append_right h] at hz
                            match hj : j - zs1.length, hz with
                            | 0, hz => cases hz; exact (slb_is ⟨b149, rfl, hb149⟩).nofu.le s6.le
                            | _ + 1, hz => cases hz
                        · rcases Nat.lt_or_ge j zs1.length with h | h
                          · rw [List.getElem?_append_left h] at hz
                            have := hit z.1 (fls_mem (fls_get hcf.fl hz)); omega
                          · rw [List.getElem?_append_right h] at hz
                            match hj : j - zs1.length, hz with
                            | 0, hz => cases hz; simp [newF]
                            | _ + 1, hz => cases hz
                      · have e0 : zs1 = [] := List.eq_nil_of_length_eq_zero h00
                        subst e0
                        cases hse
                        have s4 := sc
                        have hitm : ∀ (j : Nat) z, ([] : List (Fl × Value))[j]? = some z → IsV z.1.is false z.2 Hc := fun j z hz => by cases hz
                        refine zd (id := 24) ?_; refine za (q7 L rfl rfl rfl rfl) rfl ?_; refine vo_stepR (zw L (q := 902) rfl rfl rfl rfl rfl rfl) ?_; refine za (q7 L rfl rfl rfl rfl) rfl ?_; refine za (zm L (qs rfl (by assumption)) rfl rfl rfl rfl) rfl ?_; refine za (zb rfl rfl rfl) rfl ?_; refine za (zt L (vs := [_, _, _, _, _, _]) (qs rfl (by assumption)) rfl rfl rfl rfl ⟨_, rfl⟩) rfl ?_; refine za (q7 L rfl rfl rfl rfl) rfl ?_; refine za (zm L (qs rfl (by assumption)) rfl rfl rfl rfl) rfl ?_; refine za (q7 L rfl rfl rfl rfl) rfl ?_; refine za (zm L (qs rfl (by assumption)) rfl rfl rfl rfl) rfl ?_; refine za (zb rfl rfl rfl) rfl ?_; refine za (zt L (vs := [_, _, _, _, _]) (qs rfl (by assumption)) rfl rfl rfl rfl ⟨_, rfl⟩) rfl ?_; refine za (y0 L rfl rfl rfl rfl rfl rfl rfl rfl rfl) rfl ?_; refine vo_opn 149 rfl fun v149 H5 s5 ⟨b149, e149, hb149⟩ => ?_; subst e149; refine za (yc (cs := [_, _, _, _, _, _, _, _, _, _, _, _, _, _]) rfl rfl pl49 rfl rfl) rfl ?_; refine za (y0 L rfl rfl rfl rfl rfl rfl rfl rfl rfl) rfl ?_; refine za (ok_append0 (m := 1) L rfl rfl rfl (apd_B rfl) rfl el49 rfl rfl (by omega) (by omega)) rfl ?_; refine vo_pubW 152 rfl fun x152 H6 s6 hnb hyw => ?_; obtain ⟨p9, c9, e9⟩ := slw_sh hyw; subst e9; refine za (q7 L rfl rfl rfl rfl) rfl ?_; refine vo_stepS (qv L (q := 902) rfl rfl rfl rfl rfl rfl rfl rfl rfl) ?_; refine zg ?_; refine zi ?_; refine zf ?_
                        have hb6d := s6.le _ _ (s5.le _ _ hb6c)
                        clear hb6c hb7c hb9c hb6 hb7 hb9
                        refine zd (id := 25) ?_; refine za (q7 L rfl rfl rfl rfl) rfl ?_; refine za (zm L (qs rfl (by assumption)) rfl rfl rfl rfl) rfl ?_; refine za (qb rfl rfl rfl rfl (by assumption)) rfl ?_; refine za (q7 L rfl rfl rfl rfl) rfl ?_; refine vo_stepS (qv L (q := 902) rfl rfl rfl rfl rfl rfl rfl rfl rfl) ?_; refine zg ?_; refine zi ?_; refine zf ?_
                        refine q9 (id := 26) [(200158, [902])] mixed (by kernel_rfl) ?_; refine q0 (ok_loadHA L (q := 902) (vs := [_, _]) rfl rfl rfl rfl rfl rfl ⟨_, rfl⟩) rfl rfl ?_; refine zc (q7 L rfl rfl rfl rfl) rfl ?_; refine zc (zm L (qs rfl (by assumption)) rfl rfl rfl rfl) rfl ?_; refine zc (qq L rfl rfl rfl rfl rfl rfl rfl rfl) rfl ?_; refine zc (ze rfl rfl rfl) rfl ?_; refine zc (ze rfl rfl rfl) rfl ?_; refine zc (ze rfl rfl rfl) rfl ?_; refine qg ?_; refine zi ?_
                        refine qf L (rs := [.cell 12 24, .tmp 13, .tmp 14, .tmp 15]) rfl (fun _ _ h => h) (((hs0B.trans s4).trans s5).trans s6) fun u H hH hle => ?_
                        refine resK_cellA (qn rfl) rfl rfl ?_
                        refine ⟨_, rfl, TbR.mono ⟨([] : List (Fl × Value)) ++ [(newF t.nx rv q x rd, .slice (some ⟨b149, 0, none⟩) 1 1)], _, rfl, by rw [List.map_append, hcf.fl]; rfl, ⟨?_, fun j z hz => ?_, by rw [List.length_append, List.length_singleton]; omega, fun j z hz => ?_⟩⟩ hle⟩
                        · have h9 := hyw.toV
                          rw [List.flatMap_append, List.length_append]
                          exact h9
                        · rcases Nat.lt_or_ge j ([] : List (Fl × Value)).length with h | h
                          · rw [List.getElem?_append_left h] at hz
                            exact ((hitm j z hz).le s5.le).le s6.le
                          · rw [List.getElem?_append_right h] at hz
                            match hj : j - ([] : List (Fl × Value)).length, hz with
                            | 0, hz => cases hz; exact (slb_is ⟨b149, rfl, hb149⟩).nofu.le s6.le
                            | _ + 1, hz => cases hz
                        · rcases Nat.lt_or_ge j ([] : List (Fl × Value)).length with h | h
                          · rw [List.getElem?_append_left h] at hz
                            have := hit z.1 (fls_mem (fls_get hcf.fl hz)); omega
                          · rw [List.getElem?_append_right h] at hz
                            match hj : j - ([] : List (Fl × Value)).length, hz with
                            | 0, hz => cases hz; simp [newF]
                            | _ + 1, hz => cases hz
    · have hE := jE2 (rv := rv) (x := x) (rd := rd) (lo := lo) hc (by rw [hq]; exact h2)
      rw [hE, jT0 (by rw [hE, hq]; exact h2), hq]
      refine zd (id := 1) ?_; refine za (zt L (vs := [_, _]) (qs rfl (by assumption)) rfl rfl rfl rfl ⟨_, rfl⟩) rfl ?_; refine za (zu L rfl rfl (zh rfl) rfl rfl rfl (fun u H hH hle _ => rcheck_ret hz (hs.le hle) hZ hI hn hc hH)) rfl ?_; refine za (qo rfl rfl rfl rfl (decide_eq_false (by omega))) rfl ?_; refine zg ?_; refine zi ?_; refine zq rfl ?_; refine zx ?_; refine zi ?_; refine zf ?_; refine zf ?_; refine zd (id := 3) ?_; refine za (zt L (vs := [_, _, _, _, _, _]) (qs rfl (by assumption)) rfl rfl rfl rfl ⟨_, rfl⟩) rfl ?_; refine za (zu L rfl rfl (zh rfl) rfl rfl rfl (fun u H hH _ _ => rquery_ret hQ hq hH)) rfl ?_; refine za (qo rfl rfl rfl rfl (decide_eq_true (by omega))) rfl ?_; refine zg ?_; refine zi ?_; refine zy rfl ?_; refine zf ?_; refine zd (id := 4) ?_; refine za (yc (cs := [_, _]) rfl rfl pl24 rfl rfl) rfl ?_; refine za (zt L (vs := [_, _, _, _, _, _]) (qs rfl (by assumption)) rfl rfl rfl rfl ⟨_, rfl⟩) rfl ?_; refine za (zu L rfl rfl (zh rfl) rfl rfl rfl (fun u H hH _ _ => rquery_ret hQ hq hH)) rfl ?_; refine za (qq L rfl rfl rfl rfl rfl rfl rfl rfl) rfl ?_; refine za (ze rfl rfl rfl) rfl ?_; refine za (ze rfl rfl rfl) rfl ?_; refine za (ze rfl rfl rfl) rfl ?_; refine zg ?_; refine zi ?_
      refine qf L (rs := [.cell 12 24, .tmp 13, .tmp 14, .tmp 15]) rfl (fun _ _ h => h) hs0B fun u H hH hle => ?_
      refine resK_cellA (qn rfl) rfl rfl ?_
      exact ⟨_, rfl, tbr_zero⟩
  · have hE := jE1 (q := q) (rv := rv) (x := x) (rd := rd) (lo := lo) (by rw [hc]; exact h1)
    rw [hE, jT0 (by rw [hE, hc]; exact h1), hc]
    refine zd (id := 1) ?_; refine za (zt L (vs := [_, _]) (qs rfl (by assumption)) rfl rfl rfl rfl ⟨_, rfl⟩) rfl ?_; refine za (zu L rfl rfl (zh rfl) rfl rfl rfl (fun u H hH hle _ => rcheck_ret hz (hs.le hle) hZ hI hn hc hH)) rfl ?_; refine za (qo rfl rfl rfl rfl (decide_eq_true (by omega))) rfl ?_; refine zg ?_; refine zi ?_; refine zy rfl ?_; refine zf ?_; refine zd (id := 2) ?_; refine za (yc (cs := [_, _]) rfl rfl pl24 rfl rfl) rfl ?_; refine za (zt L (vs := [_, _]) (qs rfl (by assumption)) rfl rfl rfl rfl ⟨_, rfl⟩) rfl ?_; refine za (zu L rfl rfl (zh rfl) rfl rfl rfl (fun u H hH hle _ => rcheck_ret hz (hs.le hle) hZ hI hn hc hH)) rfl ?_; refine za (qq L rfl rfl rfl rfl rfl rfl rfl rfl) rfl ?_; refine za (ze rfl rfl rfl) rfl ?_; refine za (ze rfl rfl rfl) rfl ?_; refine za (ze rfl rfl rfl) rfl ?_; refine zg ?_; refine zi ?_
    refine qf L (rs := [.cell 12 24, .tmp 13, .tmp 14, .tmp 15]) rfl (fun _ _ h => h) hs0B fun u H hH hle => ?_
    refine resK_cellA (qn rfl) rfl rfl ?_
    exact ⟨_, rfl, tbr_zero⟩
end Go.V.L39
namespace Go.V.L39
open Go.Proofs Go.RowKit Go.V
attribute [local irreducible] V N X VO Par StepOK Has Ret RetL RetO RetT RetG Src
theorem rsi_ret {l m : List It} (hlm : l.length ≤ 4611686018427387904) (hmm : m.length ≤ 4611686018427387904) {fl fm : Bool} {a b : Value} {r : Int} (hr : (if l = m then (1 : Int) else 0) = r) {w : World} {B : Heap} (ha : IsV l fl a B) (hb : IsV m fm b B) (hB : B.Le (hp w)) :
    Ret Try.prog 55 [a, b] w B (fun v _ => v = .int .i64 r) := by
  refine ya Try.func55 rfl Try.ntmps55 (Nat.le_of_ble_eq_true rfl) hB ?_
  refine V_seen 0 (IsV l fl) rfl SlV.mono ha ?_
  refine V_seen 1 (IsV m fm) rfl SlV.mono hb ?_
  by_cases hl : l.length = m.length
  · refine zf ?_; refine zd (id := 0) ?_; refine za (ze rfl rfl rfl) rfl ?_; refine zg ?_; refine zi ?_; refine zf ?_; refine zf ?_; refine zd (id := 1) ?_; refine za (qh rfl rfl rfl) rfl ?_; refine za (ye L rfl rfl rfl rfl) rfl ?_; refine za (qh rfl rfl rfl) rfl ?_; refine za (ye L rfl rfl rfl rfl) rfl ?_; refine za (qe rfl rfl rfl rfl (decide_eq_false (by omega))) rfl ?_; refine zg ?_; refine zi ?_; refine zq rfl ?_; refine zx ?_; refine zi ?_; refine zf ?_; refine zf ?_; refine zd (id := 3) ?_; refine za (ze rfl rfl rfl) rfl ?_; refine zg ?_; refine zi ?_; refine q8 ?_
    refine yf (fun i : Nat => [(0, .sat (IsV l fl)), (1, .sat (IsV m fm)), (5, .is (.int .i64 i))]) (fun i => i ≤ l.length ∧ ∀ (j : Nat) x y, j < i → l[j]? = some x → m[j]? = some y → x = y) (fun i => l.length - i) 0 ⟨Nat.zero_le _, fun j x y h => absurd h (Nat.not_lt_zero _)⟩ ⟨rfl, rfl, rfl, trivial⟩ ?_
    rintro i ⟨hi, hs⟩
    by_cases hlt : i < l.length
    · obtain ⟨x, hx⟩ := get_some hlt
      obtain ⟨y, hy⟩ := get_some (show i < m.length by omega)
      have hc1 := it_at hx
      have hc2 := it_at hy
      by_cases hxy : x = y
      · have hq := eqIv (decide_eq_true hxy)
        refine zf ?_; refine zf ?_; refine zd (id := 4) ?_; refine za (zb rfl rfl rfl) rfl ?_; refine za (qh rfl rfl rfl) rfl ?_; refine za (ye L rfl rfl rfl rfl) rfl ?_; refine za (zz rfl rfl rfl rfl (decide_eq_true (by omega))) rfl ?_; refine zg ?_; refine zi ?_; refine zy rfl ?_; refine zx ?_; refine zi ?_; refine zf ?_; refine q8 ?_; refine zf ?_; refine q9 (id := 6) [] mixed (by kernel_rfl) ?_; refine zc (qh rfl rfl rfl) rfl ?_; refine zc (zb rfl rfl rfl) rfl ?_; refine zc (qk L _ rfl rfl rfl rfl rfl rfl rfl (by first | omega | decide) (by assumption)) rfl ?_; refine zc (ok_loadPA L (vs := [_, _, _, _, _]) rfl rfl rfl rfl rfl ⟨_, rfl⟩) rfl ?_; refine zc (qh rfl rfl rfl) rfl ?_; refine zc (zb rfl rfl rfl) rfl ?_; refine zc (qk L _ rfl rfl rfl rfl rfl rfl rfl (by first | omega | decide) (by assumption)) rfl ?_; refine zc (ok_loadPA L (vs := [_, _, _, _, _]) rfl rfl rfl rfl rfl ⟨_, rfl⟩) rfl ?_; refine zc (ok_aneq rfl rfl rfl rfl eq33 (by assumption) rfl) rfl ?_; refine qg ?_; refine zi ?_; refine zq rfl ?_; refine zx ?_; refine qp ?_; refine zi ?_; refine zd (id := 5) ?_; refine za (zb rfl rfl rfl) rfl ?_; refine za (qb rfl rfl rfl rfl (wrap_i64 (by omega) (by omega))) rfl ?_; refine za (ze rfl rfl rfl) rfl ?_; refine zg ?_
        exact qw (x := i) (i + 1) ⟨hlt, fun j x' y' hj h1 h2 => by
          rcases Nat.lt_or_ge j i with h | h
          · exact hs j x' y' h h1 h2
          · have : j = i := by omega
            subst this; rw [hx] at h1; rw [hy] at h2; cases h1; cases h2; exact hxy⟩ (by omega) ⟨rfl, rfl, rfl, trivial⟩
      · have hq := eqIv (decide_eq_false hxy)
        obtain rfl : r = 0 := by rw [← hr]; exact if_neg fun e => hxy (by subst e; rw [hx] at hy; exact Option.some.inj hy)
        refine zf ?_; refine zf ?_; refine zd (id := 4) ?_; refine za (zb rfl rfl rfl) rfl ?_; refine za (qh rfl rfl rfl) rfl ?_; refine za (ye L rfl rfl rfl rfl) rfl ?_; refine za (zz rfl rfl rfl rfl (decide_eq_true (by omega))) rfl ?_; refine zg ?_; refine zi ?_; refine zy rfl ?_; refine zx ?_; refine zi ?_; refine zf ?_; refine q8 ?_; refine zf ?_; refine q9 (id := 6) [] mixed (by kernel_rfl) ?_; refine zc (qh rfl rfl rfl) rfl ?_; refine zc (zb rfl rfl rfl) rfl ?_; refine zc (qk L _ rfl rfl rfl rfl rfl rfl rfl (by first | omega | decide) (by assumption)) rfl ?_; refine zc (ok_loadPA L (vs := [_, _, _, _, _]) rfl rfl rfl rfl rfl ⟨_, rfl⟩) rfl ?_; refine zc (qh rfl rfl rfl) rfl ?_; refine zc (zb rfl rfl rfl) rfl ?_; refine zc (qk L _ rfl rfl rfl rfl rfl rfl rfl (by first | omega | decide) (by assumption)) rfl ?_; refine zc (ok_loadPA L (vs := [_, _, _, _, _]) rfl rfl rfl rfl rfl ⟨_, rfl⟩) rfl ?_; refine zc (ok_aneq rfl rfl rfl rfl eq33 (by assumption) rfl) rfl ?_; refine qg ?_; refine zi ?_; refine zy rfl ?_; refine zf ?_; refine zd (id := 7) ?_; refine za (ze rfl rfl rfl) rfl ?_; refine zg ?_; refine zi ?_
        refine qf L (rs := [.tmp 4]) rfl (fun _ _ h => h) Since.refl fun u H hH hle => ?_
        rfl
    · obtain rfl : r = 1 := by rw [← hr]; exact if_pos (list_eq_of hl fun j x y h1 h2 => hs j x y (by have := get_lt h1; omega) h1 h2)
      refine zf ?_; refine zf ?_; refine zd (id := 4) ?_; refine za (zb rfl rfl rfl) rfl ?_; refine za (qh rfl rfl rfl) rfl ?_; refine za (ye L rfl rfl rfl rfl) rfl ?_; refine za (zz rfl rfl rfl rfl (decide_eq_false (by omega))) rfl ?_; refine zg ?_; refine zi ?_; refine zq rfl ?_; refine y6 ?_; refine qd ?_; refine qd ?_; refine y4 ?_; refine zi ?_; refine zf ?_; refine zd (id := 8) ?_; refine za (ze rfl rfl rfl) rfl ?_; refine zg ?_; refine zi ?_
      refine qf L (rs := [.tmp 4]) rfl (fun _ _ h => h) Since.refl fun u H hH hle => ?_
      rfl
  · obtain rfl : r = 0 := by rw [← hr]; exact if_neg fun e => hl (by rw [e])
    refine zf ?_; refine zd (id := 0) ?_; refine za (ze rfl rfl rfl) rfl ?_; refine zg ?_; refine zi ?_; refine zf ?_; refine zf ?_; refine zd (id := 1) ?_; refine za (qh rfl rfl rfl) rfl ?_; refine za (ye L rfl rfl rfl rfl) rfl ?_; refine za (qh rfl rfl rfl) rfl ?_; refine za (ye L rfl rfl rfl rfl) rfl ?_; refine za (qe rfl rfl rfl rfl (decide_eq_true (by omega))) rfl ?_; refine zg ?_; refine zi ?_; refine zy rfl ?_; refine zf ?_; refine zd (id := 2) ?_; refine za (ze rfl rfl rfl) rfl ?_; refine zg ?_; refine zi ?_
    refine qf L (rs := [.tmp 4]) rfl (fun _ _ h => h) Since.refl fun u H hH hle => ?_
    rfl
set_option maxHeartbeats 8000000 in
set_option maxRecDepth 20000 in
theorem rsf_ret {f g : Fl} (hlf : f.is.length ≤ 4611686018427387904) (hlg : g.is.length ≤ 4611686018427387904) {sf sg : Value} {ff fg : Bool} {r : Int} (hr : (if f = g then (1 : Int) else 0) = r) {w : World} {B : Heap} (hf : IsV f.is ff sf B) (hg : IsV g.is fg sg B) (hB : B.Le (hp w)) :
    Ret Try.prog 23 [flv f sf, flv g sg] w B (fun v _ => v = .int .i64 r) := by
  have hfg := Fl.eq_iff (a := f) (b := g)
  obtain ⟨p1, c1, e1s⟩ := slv_sh hf
  obtain ⟨p2, c2, e2s⟩ := slv_sh hg
  subst e1s e2s
  refine ya Try.func23 rfl Try.ntmps23 (Nat.le_of_ble_eq_true rfl) hB ?_
  by_cases e1 : f.id = g.id
  · by_cases e2 : f.rv = g.rv
    · by_cases e3 : f.q = g.q
      · by_cases e4 : f.cl = g.cl
        · by_cases e5 : f.cs = g.cs
          · by_cases e6 : f.si = g.si
            · by_cases e7 : f.ve = g.ve
              · by_cases e8 : f.sp = g.sp
                · have hq := eqQv (decide_eq_true e3)
                  by_cases e9 : f.is = g.is
                  · obtain rfl : r = 1 := by rw [← hr]; exact if_pos (hfg.1 ⟨e1, e2, e3, e4, e5, e6, e7, e8, e9⟩)
                    refine zf ?_; refine zd (id := 0) ?_; refine za (qt rfl rfl rfl rfl) rfl ?_; refine za (qt rfl rfl rfl rfl) rfl ?_; refine za (ze rfl rfl rfl) rfl ?_; refine zg ?_; refine zi ?_; refine zf ?_; refine zf ?_; refine zd (id := 1) ?_; refine za (zl L rfl rfl rfl rfl) rfl ?_; refine za (zm L (zo rfl) rfl rfl rfl rfl) rfl ?_; refine za (zl L rfl rfl rfl rfl) rfl ?_; refine za (zm L (zo rfl) rfl rfl rfl rfl) rfl ?_; refine za (qe rfl rfl rfl rfl (decide_eq_false (by omega))) rfl ?_; refine za (zb rfl rfl rfl) rfl ?_; refine za (zl L rfl rfl rfl rfl) rfl ?_; refine za (zm L (zo rfl) rfl rfl rfl rfl) rfl ?_; refine za (zl L rfl rfl rfl rfl) rfl ?_; refine za (zm L (zo rfl) rfl rfl rfl rfl) rfl ?_; refine za (qe rfl rfl rfl rfl (decide_eq_false (by omega))) rfl ?_; refine za (zn rfl rfl rfl rfl) rfl ?_; refine za (zb rfl rfl rfl) rfl ?_; refine za (zl L rfl rfl rfl rfl) rfl ?_; refine za (zt L (vs := [_, _, _, _, _, _]) (zo rfl) rfl rfl rfl rfl ⟨_, rfl⟩) rfl ?_; refine za (zl L rfl rfl rfl rfl) rfl ?_; refine za (zt L (vs := [_, _, _, _, _, _]) (zo rfl) rfl rfl rfl rfl ⟨_, rfl⟩) rfl ?_; refine za (ok_aneq rfl rfl rfl rfl eq30 (by assumption) rfl) rfl ?_; refine za (zn rfl rfl rfl rfl) rfl ?_; refine za (zb rfl rfl rfl) rfl ?_; refine za (zl L rfl rfl rfl rfl) rfl ?_; refine za (zm L (zo rfl) rfl rfl rfl rfl) rfl ?_; refine za (zl L rfl rfl rfl rfl) rfl ?_; refine za (zm L (zo rfl) rfl rfl rfl rfl) rfl ?_; refine za (qe rfl rfl rfl rfl (decide_eq_false (by omega))) rfl ?_; refine za (zn rfl rfl rfl rfl) rfl ?_; refine za (zb rfl rfl rfl) rfl ?_; refine za (zl L rfl rfl rfl rfl) rfl ?_; refine za (zm L (zo rfl) rfl rfl rfl rfl) rfl ?_; refine za (zl L rfl rfl rfl rfl) rfl ?_; refine za (zm L (zo rfl) rfl rfl rfl rfl) rfl ?_; refine za (qe rfl rfl rfl rfl (decide_eq_false (by omega))) rfl ?_; refine za (zn rfl rfl rfl rfl) rfl ?_; refine za (zb rfl rfl rfl) rfl ?_; refine za (zl L rfl rfl rfl rfl) rfl ?_; refine za (zm L (zo rfl) rfl rfl rfl rfl) rfl ?_; refine za (zl L rfl rfl rfl rfl) rfl ?_; refine za (zm L (zo rfl) rfl rfl rfl rfl) rfl ?_; refine za (qe rfl rfl rfl rfl (decide_eq_false (by omega))) rfl ?_; refine za (zn rfl rfl rfl rfl) rfl ?_; refine za (zb rfl rfl rfl) rfl ?_; refine za (zl L rfl rfl rfl rfl) rfl ?_; refine za (zm L (zo rfl) rfl rfl rfl rfl) rfl ?_; refine za (zl L rfl rfl rfl rfl) rfl ?_; refine za (zm L (zo rfl) rfl rfl rfl rfl) rfl ?_; refine za (qe rfl rfl rfl rfl (decide_eq_false (by omega))) rfl ?_; refine za (zn rfl rfl rfl rfl) rfl ?_; refine za (zb rfl rfl rfl) rfl ?_; refine za (zl L rfl rfl rfl rfl) rfl ?_; refine za (zm L (zo rfl) rfl rfl rfl rfl) rfl ?_; refine za (zl L rfl rfl rfl rfl) rfl ?_; refine za (zm L (zo rfl) rfl rfl rfl rfl) rfl ?_; refine za (qe rfl rfl rfl rfl (decide_eq_false (by omega))) rfl ?_; refine za (zn rfl rfl rfl rfl) rfl ?_; refine zg ?_; refine zi ?_; refine zq rfl ?_; refine zx ?_; refine zi ?_; refine zf ?_; refine zd (id := 3) ?_; refine za (zl L rfl rfl rfl rfl) rfl ?_; refine za (zm L (zo rfl) rfl rfl rfl rfl) rfl ?_; refine za (zl L rfl rfl rfl rfl) rfl ?_; refine za (zm L (zo rfl) rfl rfl rfl rfl) rfl ?_; refine za (zu L rfl rfl (zh rfl) rfl rfl rfl (fun u H hH hle _ => rsi_ret hlf hlg (by first | exact if_pos e9 | exact if_neg e9) (hf.le hle) (hg.le hle) hH)) rfl ?_; refine za (ze rfl rfl rfl) rfl ?_; refine zg ?_; refine zi ?_
                    refine qf L (rs := [.tmp 4]) rfl (fun _ _ h => h) Since.refl fun u H hH hle => ?_
                    rfl
                  · obtain rfl : r = 0 := by rw [← hr]; exact if_neg fun e => e9 (by rw [e])
                    refine zf ?_; refine zd (id := 0) ?_; refine za (qt rfl rfl rfl rfl) rfl ?_; refine za (qt rfl rfl rfl rfl) rfl ?_; refine za (ze rfl rfl rfl) rfl ?_; refine zg ?_; refine zi ?_; refine zf ?_; refine zf ?_; refine zd (id := 1) ?_; refine za (zl L rfl rfl rfl rfl) rfl ?_; refine za (zm L (zo rfl) rfl rfl rfl rfl) rfl ?_; refine za (zl L rfl rfl rfl rfl) rfl ?_; refine za (zm L (zo rfl) rfl rfl rfl rfl) rfl ?_; refine za (qe rfl rfl rfl rfl (decide_eq_false (by omega))) rfl ?_; refine za (zb rfl rfl rfl) rfl ?_; refine za (zl L rfl rfl rfl rfl) rfl ?_; refine za (zm L (zo rfl) rfl rfl rfl rfl) rfl ?_; refine za (zl L rfl rfl rfl rfl) rfl ?_; refine za (zm L (zo rfl) rfl rfl rfl rfl) rfl ?_; refine za (qe rfl rfl rfl rfl (decide_eq_false (by omega))) rfl ?_; refine za (zn rfl rfl rfl rfl) rfl ?_; refine za (zb rfl rfl rfl) rfl ?_; refine za (zl L rfl rfl rfl rfl) rfl ?_; refine za (zt L (vs := [_, _, _, _, _, _]) (zo rfl) rfl rfl rfl rfl ⟨_, rfl⟩) rfl ?_; refine za (zl L rfl rfl rfl rfl) rfl ?_; refine za (zt L (vs := [_, _, _, _, _, _]) (zo rfl) rfl rfl rfl rfl ⟨_, rfl⟩) rfl ?_; refine za (ok_aneq rfl rfl rfl rfl eq30 (by assumption) rfl) rfl ?_; refine za (zn rfl rfl rfl rfl) rfl ?_; refine za (zb rfl rfl rfl) rfl ?_; refine za (zl L rfl rfl rfl rfl) rfl ?_; refine za (zm L (zo rfl) rfl rfl rfl rfl) rfl ?_; refine za (zl L rfl rfl rfl rfl) rfl ?_; refine za (zm L (zo rfl) rfl rfl rfl rfl) rfl ?_; refine za (qe rfl rfl rfl rfl (decide_eq_false (by omega))) rfl ?_; refine za (zn rfl rfl rfl rfl) rfl ?_; refine za (zb rfl rfl rfl) rfl ?_; refine za (zl L rfl rfl rfl rfl) rfl ?_; refine za (zm L (zo rfl) rfl rfl rfl rfl) rfl ?_; refine za (zl L rfl rfl rfl rfl) rfl ?_; refine za (zm L (zo rfl) rfl rfl rfl rfl) rfl ?_; refine za (qe rfl rfl rfl rfl (decide_eq_false (by omega))) rfl ?_; refine za (zn rfl rfl rfl rfl) rfl ?_; refine za (zb rfl rfl rfl) rfl ?_; refine za (zl L rfl rfl rfl rfl) rfl ?_; refine za (zm L (zo rfl) rfl rfl rfl rfl) rfl ?_; refine za (zl L rfl rfl rfl rfl) rfl ?_; refine za (zm L (zo rfl) rfl rfl rfl rfl) rfl ?_; refine za (qe rfl rfl rfl rfl (decide_eq_false (by omega))) rfl ?_; refine za (zn rfl rfl rfl rfl) rfl ?_; refine za (zb rfl rfl rfl) rfl ?_; refine za (zl L rfl rfl rfl rfl) rfl ?_; refine za (zm L (zo rfl) rfl rfl rfl rfl) rfl ?_; refine za (zl L rfl rfl rfl rfl) rfl ?_; refine za (zm L (zo rfl) rfl rfl rfl rfl) rfl ?_; refine za (qe rfl rfl rfl rfl (decide_eq_false (by omega))) rfl ?_; refine za (zn rfl rfl rfl rfl) rfl ?_; refine za (zb rfl rfl rfl) rfl ?_; refine za (zl L rfl rfl rfl rfl) rfl ?_; refine za (zm L (zo rfl) rfl rfl rfl rfl) rfl ?_; refine za (zl L rfl rfl rfl rfl) rfl ?_; refine za (zm L (zo rfl) rfl rfl rfl rfl) rfl ?_; refine za (qe rfl rfl rfl rfl (decide_eq_false (by omega))) rfl ?_; refine za (zn rfl rfl rfl rfl) rfl ?_; refine zg ?_; refine zi ?_; refine zq rfl ?_; refine zx ?_; refine zi ?_; refine zf ?_; refine zd (id := 3) ?_; refine za (zl L rfl rfl rfl rfl) rfl ?_; refine za (zm L (zo rfl) rfl rfl rfl rfl) rfl ?_; refine za (zl L rfl rfl rfl rfl) rfl ?_; refine za (zm L (zo rfl) rfl rfl rfl rfl) rfl ?_; refine za (zu L rfl rfl (zh rfl) rfl rfl rfl (fun u H hH hle _ => rsi_ret hlf hlg (by first | exact if_pos e9 | exact if_neg e9) (hf.le hle) (hg.le hle) hH)) rfl ?_; refine za (ze rfl rfl rfl) rfl ?_; refine zg ?_; refine zi ?_
                    refine qf L (rs := [.tmp 4]) rfl (fun _ _ h => h) Since.refl fun u H hH hle => ?_
                    rfl
                · have hq := eqQv (decide_eq_true e3)
                  obtain rfl : r = 0 := by rw [← hr]; exact if_neg fun e => e8 (by rw [e])
                  refine zf ?_; refine zd (id := 0) ?_; refine za (qt rfl rfl rfl rfl) rfl ?_; refine za (qt rfl rfl rfl rfl) rfl ?_; refine za (ze rfl rfl rfl) rfl ?_; refine zg ?_; refine zi ?_; refine zf ?_; refine zf ?_; refine zd (id := 1) ?_; refine za (zl L rfl rfl rfl rfl) rfl ?_; refine za (zm L (zo rfl) rfl rfl rfl rfl) rfl ?_; refine za (zl L rfl rfl rfl rfl) rfl ?_; refine za (zm L (zo rfl) rfl rfl rfl rfl) rfl ?_; refine za (qe rfl rfl rfl rfl (decide_eq_false (by omega))) rfl ?_; refine za (zb rfl rfl rfl) rfl ?_; refine za (zl L rfl rfl rfl rfl) rfl ?_; refine za (zm L (zo rfl) rfl rfl rfl rfl) rfl ?_; refine za (zl L rfl rfl rfl rfl) rfl ?_; refine za (zm L (zo rfl) rfl rfl rfl rfl) rfl ?_; refine za (qe rfl rfl rfl rfl (decide_eq_false (by omega))) rfl ?_; refine za (zn rfl rfl rfl rfl) rfl ?_; refine za (zb rfl rfl rfl) rfl ?_; refine za (zl L rfl rfl rfl rfl) rfl ?_; refine za (zt L (vs := [_, _, _, _, _, _]) (zo rfl) rfl rfl rfl rfl ⟨_, rfl⟩) rfl ?_; refine za (zl L rfl rfl rfl rfl) rfl ?_; refine za (zt L (vs := [_, _, _, _, _, _]) (zo rfl) rfl rfl rfl rfl ⟨_, rfl⟩) rfl ?_; refine za (ok_aneq rfl rfl rfl rfl eq30 (by assumption) rfl) rfl ?_; refine za (zn rfl rfl rfl rfl) rfl ?_; refine za (zb rfl rfl rfl) rfl ?_; refine za (zl L rfl rfl rfl rfl) rfl ?_; refine za (zm L (zo rfl) rfl rfl rfl rfl) rfl ?_; refine za (zl L rfl rfl rfl rfl) rfl ?_; refine za (zm L (zo rfl) rfl rfl rfl rfl) rfl ?_; refine za (qe rfl rfl rfl rfl (decide_eq_false (by omega))) rfl ?_; refine za (zn rfl rfl rfl rfl) rfl ?_; refine za (zb rfl rfl rfl) rfl ?_; refine za (zl L rfl rfl rfl rfl) rfl ?_; refine za (zm L (zo rfl) rfl rfl rfl rfl) rfl ?_; refine za (zl L rfl rfl rfl rfl) rfl ?_; refine za (zm L (zo rfl) rfl rfl rfl rfl) rfl ?_; refine za (qe rfl rfl rfl rfl (decide_eq_false (by omega))) rfl ?_; refine za (zn rfl rfl rfl rfl) rfl ?_; refine za (zb rfl rfl rfl) rfl ?_; refine za (zl L rfl rfl rfl rfl) rfl ?_; refine za (zm L (zo rfl) rfl rfl rfl rfl) rfl ?_; refine za (zl L rfl rfl rfl rfl) rfl ?_; refine za (zm L (zo rfl) rfl rfl rfl rfl) rfl ?_; refine za (qe rfl rfl rfl rfl (decide_eq_false (by omega))) rfl ?_; refine za (zn rfl rfl rfl rfl) rfl ?_; refine za (zb rfl rfl rfl) rfl ?_; refine za (zl L rfl rfl rfl rfl) rfl ?_; refine za (zm L (zo rfl) rfl rfl rfl rfl) rfl ?_; refine za (zl L rfl rfl rfl rfl) rfl ?_; refine za (zm L (zo rfl) rfl rfl rfl rfl) rfl ?_; refine za (qe rfl rfl rfl rfl (decide_eq_false (by omega))) rfl ?_; refine za (zn rfl rfl rfl rfl) rfl ?_; refine za (zb rfl rfl rfl) rfl ?_; refine za (zl L rfl rfl rfl rfl) rfl ?_; refine za (zm L (zo rfl) rfl rfl rfl rfl) rfl ?_; refine za (zl L rfl rfl rfl rfl) rfl ?_; refine za (zm L (zo rfl) rfl rfl rfl rfl) rfl ?_; refine za (qe rfl rfl rfl rfl (decide_eq_true (by omega))) rfl ?_; refine za (zn rfl rfl rfl rfl) rfl ?_; refine zg ?_; refine zi ?_; refine zy rfl ?_; refine zf ?_; refine zd (id := 2) ?_; refine za (ze rfl rfl rfl) rfl ?_; refine zg ?_; refine zi ?_
                  refine qf L (rs := [.tmp 4]) rfl (fun _ _ h => h) Since.refl fun u H hH hle => ?_
                  rfl
              · have hq := eqQv (decide_eq_true e3)
                obtain rfl : r = 0 := by rw [← hr]; exact if_neg fun e => e7 (by rw [e])
                refine zf ?_; refine zd (id := 0) ?_; refine za (qt rfl rfl rfl rfl) rfl ?_; refine za (qt rfl rfl rfl rfl) rfl ?_; refine za (ze rfl rfl rfl) rfl ?_; refine zg ?_; refine zi ?_; refine zf ?_; refine zf ?_; refine zd (id := 1) ?_; refine za (zl L rfl rfl rfl rfl) rfl ?_; refine za (zm L (zo rfl) rfl rfl rfl rfl) rfl ?_; refine za (zl L rfl rfl rfl rfl) rfl ?_; refine za (zm L (zo rfl) rfl rfl rfl rfl) rfl ?_; refine za (qe rfl rfl rfl rfl (decide_eq_false (by omega))) rfl ?_; refine za (zb rfl rfl rfl) rfl ?_; refine za (zl L rfl rfl rfl rfl) rfl ?_; refine za (zm L (zo rfl) rfl rfl rfl rfl) rfl ?_; refine za (zl L rfl rfl rfl rfl) rfl ?_; refine za (zm L (zo rfl) rfl rfl rfl rfl) rfl ?_; refine za (qe rfl rfl rfl rfl (decide_eq_false (by omega))) rfl ?_; refine za (zn rfl rfl rfl rfl) rfl ?_; refine za (zb rfl rfl rfl) rfl ?_; refine za (zl L rfl rfl rfl rfl) rfl ?_; refine za (zt L (vs := [_, _, _, _, _, _]) (zo rfl) rfl rfl rfl rfl ⟨_, rfl⟩) rfl ?_; refine za (zl L rfl rfl rfl rfl) rfl ?_; refine za (zt L (vs := [_, _, _, _, _, _]) (zo rfl) rfl rfl rfl rfl ⟨_, rfl⟩) rfl ?_; refine za (ok_aneq rfl rfl rfl rfl eq30 (by assumption) rfl) rfl ?_; refine za (zn rfl rfl rfl rfl) rfl ?_; refine za (zb rfl rfl rfl) rfl ?_; refine za (zl L rfl rfl rfl rfl) rfl ?_; refine za (zm L (zo rfl) rfl rfl rfl rfl) rfl ?_; refine za (zl L rfl rfl rfl rfl) rfl ?_; refine za (zm L (zo rfl) rfl rfl rfl rfl) rfl ?_; refine za (qe rfl rfl rfl rfl (decide_eq_false (by omega))) rfl ?_; refine za (zn rfl rfl rfl rfl) rfl ?_; refine za (zb rfl rfl rfl) rfl ?_; refine za (zl L rfl rfl rfl rfl) rfl ?_; refine za (zm L (zo rfl) rfl rfl rfl rfl) rfl ?_; refine za (zl L rfl rfl rfl rfl) rfl ?_; refine za (zm L (zo rfl) rfl rfl rfl rfl) rfl ?_; refine za (qe rfl rfl rfl rfl (decide_eq_false (by omega))) rfl ?_; refine za (zn rfl rfl rfl rfl) rfl ?_; refine za (zb rfl rfl rfl) rfl ?_; refine za (zl L rfl rfl rfl rfl) rfl ?_; refine za (zm L (zo rfl) rfl rfl rfl rfl) rfl ?_; refine za (zl L rfl rfl rfl rfl) rfl ?_; refine za (zm L (zo rfl) rfl rfl rfl rfl) rfl ?_; refine za (qe rfl rfl rfl rfl (decide_eq_false (by omega))) rfl ?_; refine za (zn rfl rfl rfl rfl) rfl ?_; refine za (zb rfl rfl rfl) rfl ?_; refine za (zl L rfl rfl rfl rfl) rfl ?_; refine za (zm L (zo rfl) rfl rfl rfl rfl) rfl ?_; refine za (zl L rfl rfl rfl rfl) rfl ?_; refine za (zm L (zo rfl) rfl rfl rfl rfl) rfl ?_; refine za (qe rfl rfl rfl rfl (decide_eq_true (by omega))) rfl ?_; refine za (zn rfl rfl rfl rfl) rfl ?_; refine za (zb rfl rfl rfl) rfl ?_; refine za (zj rfl (zh rfl) rfl) rfl ?_; refine za (zj rfl (zh rfl) rfl) rfl ?_; refine za (zj rfl (zh rfl) rfl) rfl ?_; refine za (zj rfl (zh rfl) rfl) rfl ?_; refine za (zj rfl (zh rfl) rfl) rfl ?_; refine za (zn rfl rfl rfl rfl) rfl ?_; refine zg ?_; refine zi ?_; refine zy rfl ?_; refine zf ?_; refine zd (id := 2) ?_; refine za (ze rfl rfl rfl) rfl ?_; refine zg ?_; refine zi ?_
                refine qf L (rs := [.tmp 4]) rfl (fun _ _ h => h) Since.refl fun u H hH hle => ?_
                rfl
            · have hq := eqQv (decide_eq_true e3)
              obtain rfl : r = 0 := by rw [← hr]; exact if_neg fun e => e6 (by rw [e])
              refine zf ?_; refine zd (id := 0) ?_; refine za (qt rfl rfl rfl rfl) rfl ?_; refine za (qt rfl rfl rfl rfl) rfl ?_; refine za (ze rfl rfl rfl) rfl ?_; refine zg ?_; refine zi ?_; refine zf ?_; refine zf ?_; refine zd (id := 1) ?_; refine za (zl L rfl rfl rfl rfl) rfl ?_; refine za (zm L (zo rfl) rfl rfl rfl rfl) rfl ?_; refine za (zl L rfl rfl rfl rfl) rfl ?_; refine za (zm L (zo rfl) rfl rfl rfl rfl) rfl ?_; refine za (qe rfl rfl rfl rfl (decide_eq_false (by omega))) rfl ?_; refine za (zb rfl rfl rfl) rfl ?_; refine za (zl L rfl rfl rfl rfl) rfl ?_; refine za (zm L (zo rfl) rfl rfl rfl rfl) rfl ?_; refine za (zl L rfl rfl rfl rfl) rfl ?_; refine za (zm L (zo rfl) rfl rfl rfl rfl) rfl ?_; refine za (qe rfl rfl rfl rfl (decide_eq_false (by omega))) rfl ?_; refine za (zn rfl rfl rfl rfl) rfl ?_; refine za (zb rfl rfl rfl) rfl ?_; refine za (zl L rfl rfl rfl rfl) rfl ?_; refine za (zt L (vs := [_, _, _, _, _, _]) (zo rfl) rfl rfl rfl rfl ⟨_, rfl⟩) rfl ?_; refine za (zl L rfl rfl rfl rfl) rfl ?_; refine za (zt L (vs := [_, _, _, _, _, _]) (zo rfl) rfl rfl rfl rfl ⟨_, rfl⟩) rfl ?_; refine za (ok_aneq rfl rfl rfl rfl eq30 (by assumption) rfl) rfl ?_; refine za (zn rfl rfl rfl rfl) rfl ?_; refine za (zb rfl rfl rfl) rfl ?_; refine za (zl L rfl rfl rfl rfl) rfl ?_; refine za (zm L (zo rfl) rfl rfl rfl rfl) rfl ?_; refine za (zl L rfl rfl rfl rfl) rfl ?_; refine za (zm L (zo rfl) rfl rfl rfl rfl) rfl ?_; refine za (qe rfl rfl rfl rfl (decide_eq_false (by omega))) rfl ?_; refine za (zn rfl rfl rfl rfl) rfl ?_; refine za (zb rfl rfl rfl) rfl ?_; refine za (zl L rfl rfl rfl rfl) rfl ?_; refine za (zm L (zo rfl) rfl rfl rfl rfl) rfl ?_; refine za (zl L rfl rfl rfl rfl) rfl ?_; refine za (zm L (zo rfl) rfl rfl rfl rfl) rfl ?_; refine za (qe rfl rfl rfl rfl (decide_eq_false (by omega))) rfl ?_; refine za (zn rfl rfl rfl rfl) rfl ?_; refine za (zb rfl rfl rfl) rfl ?_; refine za (zl L rfl rfl rfl rfl) rfl ?_; refine za (zm L (zo rfl) rfl rfl rfl rfl) rfl ?_; refine za (zl L rfl rfl rfl rfl) rfl ?_; refine za (zm L (zo rfl) rfl rfl rfl rfl) rfl ?_; refine za (qe rfl rfl rfl rfl (decide_eq_true (by omega))) rfl ?_; refine za (zn rfl rfl rfl rfl) rfl ?_; refine za (zb rfl rfl rfl) rfl ?_; refine za (zj rfl (zh rfl) rfl) rfl ?_; refine za (zj rfl (zh rfl) rfl) rfl ?_; refine za (zj rfl (zh rfl) rfl) rfl ?_; refine za (zj rfl (zh rfl) rfl) rfl ?_; refine za (zj rfl (zh rfl) rfl) rfl ?_; refine za (zn rfl rfl rfl rfl) rfl ?_; refine za (zb rfl rfl rfl) rfl ?_; refine za (zj rfl (zh rfl) rfl) rfl ?_; refine za (zj rfl (zh rfl) rfl) rfl ?_; refine za (zj rfl (zh rfl) rfl) rfl ?_; refine za (zj rfl (zh rfl) rfl) rfl ?_; refine za (zj rfl (zh rfl) rfl) rfl ?_; refine za (zn rfl rfl rfl rfl) rfl ?_; refine zg ?_; refine zi ?_; refine zy rfl ?_; refine zf ?_; refine zd (id := 2) ?_; refine za (ze rfl rfl rfl) rfl ?_; refine zg ?_; refine zi ?_
              refine qf L (rs := [.tmp 4]) rfl (fun _ _ h => h) Since.refl fun u H hH hle => ?_
              rfl
          · have hq := eqQv (decide_eq_true e3)
            obtain rfl : r = 0 := by rw [← hr]; exact if_neg fun e => e5 (by rw [e])
            refine zf ?_; refine zd (id := 0) ?_; refine za (qt rfl rfl rfl rfl) rfl ?_; refine za (qt rfl rfl rfl rfl) rfl ?_; refine za (ze rfl rfl rfl) rfl ?_; refine zg ?_; refine zi ?_; refine zf ?_; refine zf ?_; refine zd (id := 1) ?_; refine za (zl L rfl rfl rfl rfl) rfl ?_; refine za (zm L (zo rfl) rfl rfl rfl rfl) rfl ?_; refine za (zl L rfl rfl rfl rfl) rfl ?_; refine za (zm L (zo rfl) rfl rfl rfl rfl) rfl ?_; refine za (qe rfl rfl rfl rfl (decide_eq_false (by omega))) rfl ?_; refine za (zb rfl rfl rfl) rfl ?_; refine za (zl L rfl rfl rfl rfl) rfl ?_; refine za (zm L (zo rfl) rfl rfl rfl rfl) rfl ?_; refine za (zl L rfl rfl rfl rfl) rfl ?_; refine za (zm L (zo rfl) rfl rfl rfl rfl) rfl ?_; refine za (qe rfl rfl rfl rfl (decide_eq_false (by omega))) rfl ?_; refine za (zn rfl rfl rfl rfl) rfl ?_; refine za (zb rfl rfl rfl) rfl ?_; refine za (zl L rfl rfl rfl rfl) rfl ?_; refine za (zt L (vs := [_, _, _, _, _, _]) (zo rfl) rfl rfl rfl rfl ⟨_, rfl⟩) rfl ?_; refine za (zl L rfl rfl rfl rfl) rfl ?_; refine za (zt L (vs := [_, _, _, _, _, _]) (zo rfl) rfl rfl rfl rfl ⟨_, rfl⟩) rfl ?_; refine za (ok_aneq rfl rfl rfl rfl eq30 (by assumption) rfl) rfl ?_; refine za (zn rfl rfl rfl rfl) rfl ?_; refine za (zb rfl rfl rfl) rfl ?_; refine za (zl L rfl rfl rfl rfl) rfl ?_; refine za (zm L (zo rfl) rfl rfl rfl rfl) rfl ?_; refine za (zl L rfl rfl rfl rfl) rfl ?_; refine za (zm L (zo rfl) rfl rfl rfl rfl) rfl ?_; refine za (qe rfl rfl rfl rfl (decide_eq_false (by omega))) rfl ?_; refine za (zn rfl rfl rfl rfl) rfl ?_; refine za (zb rfl rfl rfl) rfl ?_; refine za (zl L rfl rfl rfl rfl) rfl ?_; refine za (zm L (zo rfl) rfl rfl rfl rfl) rfl ?_; refine za (zl L rfl rfl rfl rfl) rfl ?_; refine za (zm L (zo rfl) rfl rfl rfl rfl) rfl ?_; refine za (qe rfl rfl rfl rfl (decide_eq_true (by omega))) rfl ?_; refine za (zn rfl rfl rfl rfl) rfl ?_; refine za (zb rfl rfl rfl) rfl ?_; refine za (zj rfl (zh rfl) rfl) rfl ?_; refine za (zj rfl (zh rfl) rfl) rfl ?_; refine za (zj rfl (zh rfl) rfl) rfl ?_; refine za (zj rfl (zh rfl) rfl) rfl ?_; refine za (zj rfl (zh rfl) rfl) rfl ?_; refine za (zn rfl rfl rfl rfl) rfl ?_; refine za (zb rfl rfl rfl) rfl ?_; refine za (zj rfl (zh rfl) rfl) rfl ?_; refine za (zj rfl (zh rfl) rfl) rfl ?_; refine za (zj rfl (zh rfl) rfl) rfl ?_; refine za (zj rfl (zh rfl) rfl) rfl ?_; refine za (zj rfl (zh rfl) rfl) rfl ?_; refine za (zn rfl rfl rfl rfl) rfl ?_; refine za (zb rfl rfl rfl) rfl ?_; refine za (zj rfl (zh rfl) rfl) rfl ?_; refine za (zj rfl (zh rfl) rfl) rfl ?_; refine za (zj rfl (zh rfl) rfl) rfl ?_; refine za (zj rfl (zh rfl) rfl) rfl ?_; refine za (zj rfl (zh rfl) rfl) rfl ?_; refine za (zn rfl rfl rfl rfl) rfl ?_; refine zg ?_; refine zi ?_; refine zy rfl ?_; refine zf ?_; refine zd (id := 2) ?_; refine za (ze rfl rfl rfl) rfl ?_; refine zg ?_; refine zi ?_
            refine qf L (rs := [.tmp 4]) rfl (fun _ _ h => h) Since.refl fun u H hH hle => ?_
            rfl
        · have hq := eqQv (decide_eq_true e3)
          obtain rfl : r = 0 := by rw [← hr]; exact if_neg fun e => e4 (by rw [e])
          refine zf ?_; refine zd (id := 0) ?_; refine za (qt rfl rfl rfl rfl) rfl ?_; refine za (qt rfl rfl rfl rfl) rfl ?_; refine za (ze rfl rfl rfl) rfl ?_; refine zg ?_; refine zi ?_; refine zf ?_; refine zf ?_; refine zd (id := 1) ?_; refine za (zl L rfl rfl rfl rfl) rfl ?_; refine za (zm L (zo rfl) rfl rfl rfl rfl) rfl ?_; refine za (zl L rfl rfl rfl rfl) rfl ?_; refine za (zm L (zo rfl) rfl rfl rfl rfl) rfl ?_; refine za (qe rfl rfl rfl rfl (decide_eq_false (by omega))) rfl ?_; refine za (zb rfl rfl rfl) rfl ?_; refine za (zl L rfl rfl rfl rfl) rfl ?_; refine za (zm L (zo rfl) rfl rfl rfl rfl) rfl ?_; refine za (zl L rfl rfl rfl rfl) rfl ?_; refine za (zm L (zo rfl) rfl rfl rfl rfl) rfl ?_; refine za (qe rfl rfl rfl rfl (decide_eq_false (by omega))) rfl ?_; refine za (zn rfl rfl rfl rfl) rfl ?_; refine za (zb rfl rfl rfl) rfl ?_; refine za (zl L rfl rfl rfl rfl) rfl ?_; refine za (zt L (vs := [_, _, _, _, _, _]) (zo rfl) rfl rfl rfl rfl ⟨_, rfl⟩) rfl ?_; refine za (zl L rfl rfl rfl rfl) rfl ?_; refine za (zt L (vs := [_, _, _, _, _, _]) (zo rfl) rfl rfl rfl rfl ⟨_, rfl⟩) rfl ?_; refine za (ok_aneq rfl rfl rfl rfl eq30 (by assumption) rfl) rfl ?_; refine za (zn rfl rfl rfl rfl) rfl ?_; refine za (zb rfl rfl rfl) rfl ?_; refine za (zl L rfl rfl rfl rfl) rfl ?_; refine za (zm L (zo rfl) rfl rfl rfl rfl) rfl ?_; refine za (zl L rfl rfl rfl rfl) rfl ?_; refine za (zm L (zo rfl) rfl rfl rfl rfl) rfl ?_; refine za (qe rfl rfl rfl rfl (decide_eq_true (by omega))) rfl ?_; refine za (zn rfl rfl rfl rfl) rfl ?_; refine za (zb rfl rfl rfl) rfl ?_; refine za (zj rfl (zh rfl) rfl) rfl ?_; refine za (zj rfl (zh rfl) rfl) rfl ?_; refine za (zj rfl (zh rfl) rfl) rfl ?_; refine za (zj rfl (zh rfl) rfl) rfl ?_; refine za (zj rfl (zh rfl) rfl) rfl ?_; refine za (zn rfl rfl rfl rfl) rfl ?_; refine za (zb rfl rfl rfl) rfl ?_; refine za (zj rfl (zh rfl) rfl) rfl ?_; refine za (zj rfl (zh rfl) rfl) rfl ?_; refine za (zj rfl (zh rfl) rfl) rfl ?_; refine za (zj rfl (zh rfl) rfl) rfl ?_; refine za (zj rfl (zh rfl) rfl) rfl ?_; refine za (zn rfl rfl rfl rfl) rfl ?_; refine za (zb rfl rfl rfl) rfl ?_; refine za (zj rfl (zh rfl) rfl) rfl ?_; refine za (zj rfl (zh rfl) rfl) rfl ?_; refine za (zj rfl (zh rfl) rfl) rfl ?_; refine za (zj rfl (zh rfl) rfl) rfl ?_; refine za (zj rfl (zh rfl) rfl) rfl ?_; refine za (zn rfl rfl rfl rfl) rfl ?_; refine za (zb rfl rfl rfl) rfl ?_; refine za (zj rfl (zh rfl) rfl) rfl ?_; refine za (zj rfl (zh rfl) rfl) rfl ?_; refine za (zj rfl (zh rfl) rfl) rfl ?_; refine za (zj rfl (zh rfl) rfl) rfl ?_; refine za (zj rfl (zh rfl) rfl) rfl ?_; refine za (zn rfl rfl rfl rfl) rfl ?_; refine zg ?_; refine zi ?_; refine zy rfl ?_; refine zf ?_; refine zd (id := 2) ?_; refine za (ze rfl rfl rfl) rfl ?_; refine zg ?_; refine zi ?_
          refine qf L (rs := [.tmp 4]) rfl (fun _ _ h => h) Since.refl fun u H hH hle => ?_
          rfl
      · have hq := eqQv (decide_eq_false e3)
        obtain rfl : r = 0 := by rw [← hr]; exact if_neg fun e => e3 (by rw [e])
        refine zf ?_; refine zd (id := 0) ?_; refine za (qt rfl rfl rfl rfl) rfl ?_; refine za (qt rfl rfl rfl rfl) rfl ?_; refine za (ze rfl rfl rfl) rfl ?_; refine zg ?_; refine zi ?_; refine zf ?_; refine zf ?_; refine zd (id := 1) ?_; refine za (zl L rfl rfl rfl rfl) rfl ?_; refine za (zm L (zo rfl) rfl rfl rfl rfl) rfl ?_; refine za (zl L rfl rfl rfl rfl) rfl ?_; refine za (zm L (zo rfl) rfl rfl rfl rfl) rfl ?_; refine za (qe rfl rfl rfl rfl (decide_eq_false (by omega))) rfl ?_; refine za (zb rfl rfl rfl) rfl ?_; refine za (zl L rfl rfl rfl rfl) rfl ?_; refine za (zm L (zo rfl) rfl rfl rfl rfl) rfl ?_; refine za (zl L rfl rfl rfl rfl) rfl ?_; refine za (zm L (zo rfl) rfl rfl rfl rfl) rfl ?_; refine za (qe rfl rfl rfl rfl (decide_eq_false (by omega))) rfl ?_; refine za (zn rfl rfl rfl rfl) rfl ?_; refine za (zb rfl rfl rfl) rfl ?_; refine za (zl L rfl rfl rfl rfl) rfl ?_; refine za (zt L (vs := [_, _, _, _, _, _]) (zo rfl) rfl rfl rfl rfl ⟨_, rfl⟩) rfl ?_; refine za (zl L rfl rfl rfl rfl) rfl ?_; refine za (zt L (vs := [_, _, _, _, _, _]) (zo rfl) rfl rfl rfl rfl ⟨_, rfl⟩) rfl ?_; refine za (ok_aneq rfl rfl rfl rfl eq30 (by assumption) rfl) rfl ?_; refine za (zn rfl rfl rfl rfl) rfl ?_; refine za (zb rfl rfl rfl) rfl ?_; refine za (zj rfl (zh rfl) rfl) rfl ?_; refine za (zj rfl (zh rfl) rfl) rfl ?_; refine za (zj rfl (zh rfl) rfl) rfl ?_; refine za (zj rfl (zh rfl) rfl) rfl ?_; refine za (zj rfl (zh rfl) rfl) rfl ?_; refine za (zn rfl rfl rfl rfl) rfl ?_; refine za (zb rfl rfl rfl) rfl ?_; refine za (zj rfl (zh rfl) rfl) rfl ?_; refine za (zj rfl (zh rfl) rfl) rfl ?_; refine za (zj rfl (zh rfl) rfl) rfl ?_; refine za (zj rfl (zh rfl) rfl) rfl ?_; refine za (zj rfl (zh rfl) rfl) rfl ?_; refine za (zn rfl rfl rfl rfl) rfl ?_; refine za (zb rfl rfl rfl) rfl ?_; refine za (zj rfl (zh rfl) rfl) rfl ?_; refine za (zj rfl (zh rfl) rfl) rfl ?_; refine za (zj rfl (zh rfl) rfl) rfl ?_; refine za (zj rfl (zh rfl) rfl) rfl ?_; refine za (zj rfl (zh rfl) rfl) rfl ?_; refine za (zn rfl rfl rfl rfl) rfl ?_; refine za (zb rfl rfl rfl) rfl ?_; refine za (zj rfl (zh rfl) rfl) rfl ?_; refine za (zj rfl (zh rfl) rfl) rfl ?_; refine za (zj rfl (zh rfl) rfl) rfl ?_; refine za (zj rfl (zh rfl) rfl) rfl ?_; refine za (zj rfl (zh rfl) rfl) rfl ?_; refine za (zn rfl rfl rfl rfl) rfl ?_; refine za (zb rfl rfl rfl) rfl ?_; refine za (zj rfl (zh rfl) rfl) rfl ?_; refine za (zj rfl (zh rfl) rfl) rfl ?_; refine za (zj rfl (zh rfl) rfl) rfl ?_; refine za (zj rfl (zh rfl) rfl) rfl ?_; refine za (zj rfl (zh rfl) rfl) rfl ?_; refine za (zn rfl rfl rfl rfl) rfl ?_; refine zg ?_; refine zi ?_; refine zy rfl ?_; refine zf ?_; refine zd (id := 2) ?_; refine za (ze rfl rfl rfl) rfl ?_; refine zg ?_; refine zi ?_
        refine qf L (rs := [.tmp 4]) rfl (fun _ _ h => h) Since.refl fun u H hH hle => ?_
        rfl
    · obtain rfl : r = 0 := by rw [← hr]; exact if_neg fun e => e2 (by rw [e])
      refine zf ?_; refine zd (id := 0) ?_; refine za (qt rfl rfl rfl rfl) rfl ?_; refine za (qt rfl rfl rfl rfl) rfl ?_; refine za (ze rfl rfl rfl) rfl ?_; refine zg ?_; refine zi ?_; refine zf ?_; refine zf ?_; refine zd (id := 1) ?_; refine za (zl L rfl rfl rfl rfl) rfl ?_; refine za (zm L (zo rfl) rfl rfl rfl rfl) rfl ?_; refine za (zl L rfl rfl rfl rfl) rfl ?_; refine za (zm L (zo rfl) rfl rfl rfl rfl) rfl ?_; refine za (qe rfl rfl rfl rfl (decide_eq_false (by omega))) rfl ?_; refine za (zb rfl rfl rfl) rfl ?_; refine za (zl L rfl rfl rfl rfl) rfl ?_; refine za (zm L (zo rfl) rfl rfl rfl rfl) rfl ?_; refine za (zl L rfl rfl rfl rfl) rfl ?_; refine za (zm L (zo rfl) rfl rfl rfl rfl) rfl ?_; refine za (qe rfl rfl rfl rfl (decide_eq_true (by omega))) rfl ?_; refine za (zn rfl rfl rfl rfl) rfl ?_; refine za (zb rfl rfl rfl) rfl ?_; refine za (zj rfl (zh rfl) rfl) rfl ?_; refine za (zj rfl (zh rfl) rfl) rfl ?_; refine za (zj rfl (zh rfl) rfl) rfl ?_; refine za (zj rfl (zh rfl) rfl) rfl ?_; refine za (zj rfl (zh rfl) rfl) rfl ?_; refine za (zn rfl rfl rfl rfl) rfl ?_; refine za (zb rfl rfl rfl) rfl ?_; refine za (zj rfl (zh rfl) rfl) rfl ?_; refine za (zj rfl (zh rfl) rfl) rfl ?_; refine za (zj rfl (zh rfl) rfl) rfl ?_; refine za (zj rfl (zh rfl) rfl) rfl ?_; refine za (zj rfl (zh rfl) rfl) rfl ?_; refine za (zn rfl rfl rfl rfl) rfl ?_; refine za (zb rfl rfl rfl) rfl ?_; refine za (zj rfl (zh rfl) rfl) rfl ?_; refine za (zj rfl (zh rfl) rfl) rfl ?_; refine za (zj rfl (zh rfl) rfl) rfl ?_; refine za (zj rfl (zh rfl) rfl) rfl ?_; refine za (zj rfl (zh rfl) rfl) rfl ?_; refine za (zn rfl rfl rfl rfl) rfl ?_; refine za (zb rfl rfl rfl) rfl ?_; refine za (zj rfl (zh rfl) rfl) rfl ?_; refine za (zj rfl (zh rfl) rfl) rfl ?_; refine za (zj rfl (zh rfl) rfl) rfl ?_; refine za (zj rfl (zh rfl) rfl) rfl ?_; refine za (zj rfl (zh rfl) rfl) rfl ?_; refine za (zn rfl rfl rfl rfl) rfl ?_; refine za (zb rfl rfl rfl) rfl ?_; refine za (zj rfl (zh rfl) rfl) rfl ?_; refine za (zj rfl (zh rfl) rfl) rfl ?_; refine za (zj rfl (zh rfl) rfl) rfl ?_; refine za (zj rfl (zh rfl) rfl) rfl ?_; refine za (zj rfl (zh rfl) rfl) rfl ?_; refine za (zn rfl rfl rfl rfl) rfl ?_; refine za (zb rfl rfl rfl) rfl ?_; refine za (zj rfl (zh rfl) rfl) rfl ?_; refine za (zj rfl (zh rfl) rfl) rfl ?_; refine za (zj rfl (zh rfl) rfl) rfl ?_; refine za (zj rfl (zh rfl) rfl) rfl ?_; refine za (zj rfl (zh rfl) rfl) rfl ?_; refine za (zn rfl rfl rfl rfl) rfl ?_; refine zg ?_; refine zi ?_; refine zy rfl ?_; refine zf ?_; refine zd (id := 2) ?_; refine za (ze rfl rfl rfl) rfl ?_; refine zg ?_; refine zi ?_
      refine qf L (rs := [.tmp 4]) rfl (fun _ _ h => h) Since.refl fun u H hH hle => ?_
      rfl
  · obtain rfl : r = 0 := by rw [← hr]; exact if_neg fun e => e1 (by rw [e])
    refine zf ?_; refine zd (id := 0) ?_; refine za (qt rfl rfl rfl rfl) rfl ?_; refine za (qt rfl rfl rfl rfl) rfl ?_; refine za (ze rfl rfl rfl) rfl ?_; refine zg ?_; refine zi ?_; refine zf ?_; refine zf ?_; refine zd (id := 1) ?_; refine za (zl L rfl rfl rfl rfl) rfl ?_; refine za (zm L (zo rfl) rfl rfl rfl rfl) rfl ?_; refine za (zl L rfl rfl rfl rfl) rfl ?_; refine za (zm L (zo rfl) rfl rfl rfl rfl) rfl ?_; refine za (qe rfl rfl rfl rfl (decide_eq_true (by omega))) rfl ?_; refine za (zb rfl rfl rfl) rfl ?_; refine za (zj rfl (zh rfl) rfl) rfl ?_; refine za (zj rfl (zh rfl) rfl) rfl ?_; refine za (zj rfl (zh rfl) rfl) rfl ?_; refine za (zj rfl (zh rfl) rfl) rfl ?_; refine za (zj rfl (zh rfl) rfl) rfl ?_; refine za (zn rfl rfl rfl rfl) rfl ?_; refine za (zb rfl rfl rfl) rfl ?_; refine za (zj rfl (zh rfl) rfl) rfl ?_; refine za (zj rfl (zh rfl) rfl) rfl ?_; refine za (zj rfl (zh rfl) rfl) rfl ?_; refine za (zj rfl (zh rfl) rfl) rfl ?_; refine za (zj rfl (zh rfl) rfl) rfl ?_; refine za (zn rfl rfl rfl rfl) rfl ?_; refine za (zb rfl rfl rfl) rfl ?_; refine za (zj rfl (zh rfl) rfl) rfl ?_; refine za (zj rfl (zh rfl) rfl) rfl ?_; refine za (zj rfl (zh rfl) rfl) rfl ?_; refine za (zj rfl (zh rfl) rfl) rfl ?_; refine za (zj rfl (zh rfl) rfl) rfl ?_; refine za (zn rfl rfl rfl rfl) rfl ?_; refine za (zb rfl rfl rfl) rfl ?_; refine za (zj rfl (zh rfl) rfl) rfl ?_; refine za (zj rfl (zh rfl) rfl) rfl ?_; refine za (zj rfl (zh rfl) rfl) rfl ?_; refine za (zj rfl (zh rfl) rfl) rfl ?_; refine za (zj rfl (zh rfl) rfl) rfl ?_; refine za (zn rfl rfl rfl rfl) rfl ?_; refine za (zb rfl rfl rfl) rfl ?_; refine za (zj rfl (zh rfl) rfl) rfl ?_; refine za (zj rfl (zh rfl) rfl) rfl ?_; refine za (zj rfl (zh rfl) rfl) rfl ?_; refine za (zj rfl (zh rfl) rfl) rfl ?_; refine za (zj rfl (zh rfl) rfl) rfl ?_; refine za (zn rfl rfl rfl rfl) rfl ?_; refine za (zb rfl rfl rfl) rfl ?_; refine za (zj rfl (zh rfl) rfl) rfl ?_; refine za (zj rfl (zh rfl) rfl) rfl ?_; refine za (zj rfl (zh rfl) rfl) rfl ?_; refine za (zj rfl (zh rfl) rfl) rfl ?_; refine za (zj rfl (zh rfl) rfl) rfl ?_; refine za (zn rfl rfl rfl rfl) rfl ?_; refine za (zb rfl rfl rfl) rfl ?_; refine za (zj rfl (zh rfl) rfl) rfl ?_; refine za (zj rfl (zh rfl) rfl) rfl ?_; refine za (zj rfl (zh rfl) rfl) rfl ?_; refine za (zj rfl (zh rfl) rfl) rfl ?_; refine za (zj rfl (zh rfl) rfl) rfl ?_; refine za (zn rfl rfl rfl rfl) rfl ?_; refine zg ?_; refine zi ?_; refine zy rfl ?_; refine zf ?_; refine zd (id := 2) ?_; refine za (ze rfl rfl rfl) rfl ?_; refine zg ?_; refine zi ?_
    refine qf L (rs := [.tmp 4]) rfl (fun _ _ h => h) Since.refl fun u H hH hle => ?_
    rfl
theorem rsame_ret {t1 t2 : Tb} {zs ys : List (Fl × Value)} (hzl : zs.map Prod.fst = t1.fl) (hym : ys.map Prod.fst = t2.fl) {fu fi gu gi : Bool} {s s2 : Value} {r : Int} (hr : (if t1.nx = t2.nx ∧ t1.fl = t2.fl then (1 : Int) else 0) = r) {w : World} {B : Heap} (hs : FsB zs fu fi s B) (hy : FsB ys gu gi s2 B) (hB : B.Le (hp w)) :
    Ret Try.prog 16 [tbv t1.nx s, tbv t2.nx s2] w B (fun v _ => v = .int .i64 r) := by
  have h1 := fls_len hzl
  have h2 := fls_len hym
  have hn1 := hs.ln
  have hn2 := hy.ln
  have hsl := hs.sl
  have hyl := hy.sl
  refine ya Try.func16 rfl Try.ntmps16 (Nat.le_of_ble_eq_true rfl) hB ?_
  by_cases hnx : t1.nx = t2.nx
  · by_cases hl : zs.length = ys.length
    · refine zf ?_; refine zd (id := 0) ?_; refine za (qt rfl rfl rfl rfl) rfl ?_; refine za (qt rfl rfl rfl rfl) rfl ?_; refine za (ze rfl rfl rfl) rfl ?_; refine zg ?_; refine zi ?_; refine zf ?_; refine zf ?_; refine zd (id := 1) ?_; refine za (zl L rfl rfl rfl rfl) rfl ?_; refine za (zm L (zo rfl) rfl rfl rfl rfl) rfl ?_; refine za (zl L rfl rfl rfl rfl) rfl ?_; refine za (zm L (zo rfl) rfl rfl rfl rfl) rfl ?_; refine za (qe rfl rfl rfl rfl (decide_eq_false (by omega))) rfl ?_; refine za (zb rfl rfl rfl) rfl ?_; refine za (zl L rfl rfl rfl rfl) rfl ?_; refine za (StepOK.seeV (zm L (zo rfl) rfl rfl rfl rfl) (by assumption)) rfl ?_; refine za (ye L rfl rfl rfl rfl) rfl ?_; refine za (zl L rfl rfl rfl rfl) rfl ?_; refine za (StepOK.seeV (zm L (zo rfl) rfl rfl rfl rfl) (by assumption)) rfl ?_; refine za (ye L rfl rfl rfl rfl) rfl ?_; refine za (qe rfl rfl rfl rfl (decide_eq_false (by omega))) rfl ?_; refine za (zn rfl rfl rfl rfl) rfl ?_; refine zg ?_; refine zi ?_; refine zq rfl ?_; refine zx ?_; refine zi ?_; refine zf ?_; refine zf ?_; refine zd (id := 3) ?_; refine za (ze rfl rfl rfl) rfl ?_; refine zg ?_; refine zi ?_; refine q8 ?_
      refine yf (fun i : Nat => [(2, .sat (At [.int .i64 t1.nx, s] tyT 0)), (3, .sat (At [.int .i64 t2.nx, s2] tyT 0)), (5, .is (.int .i64 i))]) (fun i => i ≤ zs.length ∧ ∀ (j : Nat) x y, j < i → t1.fl[j]? = some x → t2.fl[j]? = some y → x = y) (fun i => zs.length - i) 0 ⟨Nat.zero_le _, fun j x y h => absurd h (Nat.not_lt_zero _)⟩ ⟨rfl, rfl, rfl, trivial⟩ ?_
      rintro i ⟨hi, hsm⟩
      by_cases hlt : i < zs.length
      · obtain ⟨f, pf, cf, _, hfl, hfv, hfi, hc1⟩ := hs.at hzl hlt
        obtain ⟨g, pg, cg, _, hgl, hgv, hgi, hc2⟩ := hy.at hym (show i < ys.length by omega)
        by_cases hfg : f = g
        · refine zf ?_; refine zf ?_; refine zd (id := 4) ?_; refine za (zb rfl rfl rfl) rfl ?_; refine za (zl L rfl rfl rfl rfl) rfl ?_; refine za (StepOK.seeV (zm L (zo rfl) rfl rfl rfl rfl) (by assumption)) rfl ?_; refine za (ye L rfl rfl rfl rfl) rfl ?_; refine za (zz rfl rfl rfl rfl (decide_eq_true (by omega))) rfl ?_; refine zg ?_; refine zi ?_; refine zy rfl ?_; refine zx ?_; refine zi ?_; refine zf ?_; refine q8 ?_; refine zf ?_; refine q9 (id := 6) [] mixed (by kernel_rfl) ?_; refine zc (zl L rfl rfl rfl rfl) rfl ?_; refine zc (StepOK.seeV (zm L (zo rfl) rfl rfl rfl rfl) (by assumption)) rfl ?_; refine zc (zb rfl rfl rfl) rfl ?_; refine zc (qk L _ rfl rfl rfl rfl rfl rfl rfl (by first | omega | decide) (by assumption)) rfl ?_; refine zc (ok_loadPA L (vs := [_, _, _, _, _, _, _, _, _, _, _, _, _, _]) rfl rfl rfl rfl rfl ⟨_, rfl⟩) rfl ?_; refine zc (zl L rfl rfl rfl rfl) rfl ?_; refine zc (StepOK.seeV (zm L (zo rfl) rfl rfl rfl rfl) (by assumption)) rfl ?_; refine zc (zb rfl rfl rfl) rfl ?_; refine zc (qk L _ rfl rfl rfl rfl rfl rfl rfl (by first | omega | decide) (by assumption)) rfl ?_; refine zc (ok_loadPA L (vs := [_, _, _, _, _, _, _, _, _, _, _, _, _, _]) rfl rfl rfl rfl rfl ⟨_, rfl⟩) rfl ?_; refine zc (zu L rfl rfl (zh rfl) rfl rfl rfl (fun u H hH hle _ => rsf_ret hfi hgi (if_pos hfg) (hfv.le hle) (hgv.le hle) hH)) rfl ?_; refine zc (qm rfl rfl rfl rfl (decide_eq_false (by omega))) rfl ?_; refine qg ?_; refine zi ?_; refine zq rfl ?_; refine zx ?_; refine qp ?_; refine zi ?_; refine zd (id := 5) ?_; refine za (zb rfl rfl rfl) rfl ?_; refine za (qb rfl rfl rfl rfl (wrap_i64 (by omega) (by omega))) rfl ?_; refine za (ze rfl rfl rfl) rfl ?_; refine zg ?_
          exact qw (x := i) (i + 1) ⟨hlt, fun j x' y' hj e1 e2 => by
            rcases Nat.lt_or_ge j i with h | h
            · exact hsm j x' y' h e1 e2
            · have : j = i := by omega
              subst this; rw [hfl] at e1; rw [hgl] at e2; cases e1; cases e2; exact hfg⟩ (by omega) ⟨rfl, rfl, rfl, trivial⟩
        · obtain rfl : r = 0 := by rw [← hr]; exact if_neg fun e => hfg (by rw [e.2, hgl] at hfl; exact (Option.some.inj hfl).symm)
          refine zf ?_; refine zf ?_; refine zd (id := 4) ?_; refine za (zb rfl rfl rfl) rfl ?_; refine za (zl L rfl rfl rfl rfl) rfl ?_; refine za (StepOK.seeV (zm L (zo rfl) rfl rfl rfl rfl) (by assumption)) rfl ?_; refine za (ye L rfl rfl rfl rfl) rfl ?_; refine za (zz rfl rfl rfl rfl (decide_eq_true (by omega))) rfl ?_; refine zg ?_; refine zi ?_; refine zy rfl ?_; refine zx ?_; refine zi ?_; refine zf ?_; refine q8 ?_; refine zf ?_; refine q9 (id := 6) [] mixed (by kernel_rfl) ?_; refine zc (zl L rfl rfl rfl rfl) rfl ?_; refine zc (StepOK.seeV (zm L (zo rfl) rfl rfl rfl rfl) (by assumption)) rfl ?_; refine zc (zb rfl rfl rfl) rfl ?_; refine zc (qk L _ rfl rfl rfl rfl rfl rfl rfl (by first | omega | decide) (by assumption)) rfl ?_; refine zc (ok_loadPA L (vs := [_, _, _, _, _, _, _, _, _, _, _, _, _, _]) rfl rfl rfl rfl rfl ⟨_, rfl⟩) rfl ?_; refine zc (zl L rfl rfl rfl rfl) rfl ?_; refine zc (StepOK.seeV (zm L (zo rfl) rfl rfl rfl rfl) (by assumption)) rfl ?_; refine zc (zb rfl rfl rfl) rfl ?_; refine zc (qk L _ rfl rfl rfl rfl rfl rfl rfl (by first | omega | decide) (by assumption)) rfl ?_; refine zc (ok_loadPA L (vs := [_, _, _, _, _, _, _, _, _, _, _, _, _, _]) rfl rfl rfl rfl rfl ⟨_, rfl⟩) rfl ?_; refine zc (zu L rfl rfl (zh rfl) rfl rfl rfl (fun u H hH hle _ => rsf_ret hfi hgi (if_neg hfg) (hfv.le hle) (hgv.le hle) hH)) rfl ?_; refine zc (qm rfl rfl rfl rfl (decide_eq_true (by omega))) rfl ?_; refine qg ?_; refine zi ?_; refine zy rfl ?_; refine zf ?_; refine zd (id := 7) ?_; refine za (ze rfl rfl rfl) rfl ?_; refine zg ?_; refine zi ?_
          refine qf L (rs := [.tmp 4]) rfl (fun _ _ h => h) Since.refl fun u H hH hle => ?_
          rfl
      · obtain rfl : r = 1 := by rw [← hr]; exact if_pos ⟨hnx, list_eq_of (by omega) fun j x y e1 e2 => hsm j x y (by have := get_lt e1; omega) e1 e2⟩
        refine zf ?_; refine zf ?_; refine zd (id := 4) ?_; refine za (zb rfl rfl rfl) rfl ?_; refine za (zl L rfl rfl rfl rfl) rfl ?_; refine za (StepOK.seeV (zm L (zo rfl) rfl rfl rfl rfl) (by assumption)) rfl ?_; refine za (ye L rfl rfl rfl rfl) rfl ?_; refine za (zz rfl rfl rfl rfl (decide_eq_false (by omega))) rfl ?_; refine zg ?_; refine zi ?_; refine zq rfl ?_; refine y6 ?_; refine qd ?_; refine qd ?_; refine y4 ?_; refine zi ?_; refine zf ?_; refine zd (id := 8) ?_; refine za (ze rfl rfl rfl) rfl ?_; refine zg ?_; refine zi ?_
        refine qf L (rs := [.tmp 4]) rfl (fun _ _ h => h) Since.refl fun u H hH hle => ?_
        rfl
    · obtain rfl : r = 0 := by rw [← hr]; exact if_neg fun e => hl (by rw [h1, h2, e.2])
      refine zf ?_; refine zd (id := 0) ?_; refine za (qt rfl rfl rfl rfl) rfl ?_; refine za (qt rfl rfl rfl rfl) rfl ?_; refine za (ze rfl rfl rfl) rfl ?_; refine zg ?_; refine zi ?_; refine zf ?_; refine zf ?_; refine zd (id := 1) ?_; refine za (zl L rfl rfl rfl rfl) rfl ?_; refine za (zm L (zo rfl) rfl rfl rfl rfl) rfl ?_; refine za (zl L rfl rfl rfl rfl) rfl ?_; refine za (zm L (zo rfl) rfl rfl rfl rfl) rfl ?_; refine za (qe rfl rfl rfl rfl (decide_eq_false (by omega))) rfl ?_; refine za (zb rfl rfl rfl) rfl ?_; refine za (zl L rfl rfl rfl rfl) rfl ?_; refine za (StepOK.seeV (zm L (zo rfl) rfl rfl rfl rfl) (by assumption)) rfl ?_; refine za (ye L rfl rfl rfl rfl) rfl ?_; refine za (zl L rfl rfl rfl rfl) rfl ?_; refine za (StepOK.seeV (zm L (zo rfl) rfl rfl rfl rfl) (by assumption)) rfl ?_; refine za (ye L rfl rfl rfl rfl) rfl ?_; refine za (qe rfl rfl rfl rfl (decide_eq_true (by omega))) rfl ?_; refine za (zn rfl rfl rfl rfl) rfl ?_; refine zg ?_; refine zi ?_; refine zy rfl ?_; refine zf ?_; refine zd (id := 2) ?_; refine za (ze rfl rfl rfl) rfl ?_; refine zg ?_; refine zi ?_
      refine qf L (rs := [.tmp 4]) rfl (fun _ _ h => h) Since.refl fun u H hH hle => ?_
      rfl
  · obtain rfl : r = 0 := by rw [← hr]; exact if_neg fun e => hnx e.1
    refine zf ?_; refine zd (id := 0) ?_; refine za (qt rfl rfl rfl rfl) rfl ?_; refine za (qt rfl rfl rfl rfl) rfl ?_; refine za (ze rfl rfl rfl) rfl ?_; refine zg ?_; refine zi ?_; refine zf ?_; refine zf ?_; refine zd (id := 1) ?_; refine za (zl L rfl rfl rfl rfl) rfl ?_; refine za (zm L (zo rfl) rfl rfl rfl rfl) rfl ?_; refine za (zl L rfl rfl rfl rfl) rfl ?_; refine za (zm L (zo rfl) rfl rfl rfl rfl) rfl ?_; refine za (qe rfl rfl rfl rfl (decide_eq_true (by omega))) rfl ?_; refine za (zb rfl rfl rfl) rfl ?_; refine za (zj rfl (zh rfl) rfl) rfl ?_; refine za (zj rfl (zh rfl) rfl) rfl ?_; refine za (zj rfl (zh rfl) rfl) rfl ?_; refine za (zj rfl (zh rfl) rfl) rfl ?_; refine za (zj rfl (zh rfl) rfl) rfl ?_; refine za (zj rfl (zh rfl) rfl) rfl ?_; refine za (zj rfl (zh rfl) rfl) rfl ?_; refine za (zn rfl rfl rfl rfl) rfl ?_; refine zg ?_; refine zi ?_; refine zy rfl ?_; refine zf ?_; refine zd (id := 2) ?_; refine za (ze rfl rfl rfl) rfl ?_; refine zg ?_; refine zi ?_
    refine qf L (rs := [.tmp 4]) rfl (fun _ _ h => h) Since.refl fun u H hH hle => ?_
    rfl
end Go.V.L39
namespace Go.V
open Go.Proofs Go.RowKit
attribute [local irreducible] V N X VO Par StepOK Has Ret RetL Src
theorem id_ret (n : Nat) {w : World} {B : Heap} (hB : B.Le (hp w)) : Ret Try.prog 56 [.int .i64 n] w B (fun v _ => v = .string (idS n)) := by
  unfold idS
  have e : Int.tmod (n : Int) 5 = ((n % 5 : Nat) : Int) := rfl
  refine ya Try.func56 rfl Try.ntmps56 (Nat.le_of_ble_eq_true rfl) hB ?_
  have hlt := Nat.mod_lt n (show 0 < 5 by decide)
  rcases (by omega : n % 5 = 0 ∨ n % 5 = 1 ∨ n % 5 = 2 ∨ n % 5 = 3 ∨ n % 5 = 4) with h | h | h | h | h
  · have e0 : Int.tmod (n : Int) 5 = 0 := by rw [e, h]; rfl
    rw [h]
    refine zf ?_; refine zd (id := 0) ?_; refine za (ze rfl rfl rfl) rfl ?_; refine zg ?_; refine zi ?_; refine zf ?_; refine zd (id := 1) ?_; refine za (y0 L rfl rfl rfl rfl rfl rfl rfl rfl rfl) rfl ?_; refine za (zb rfl rfl rfl) rfl ?_; refine za (ok_rem rfl rfl rfl rfl (by omega) (by assumption)) rfl ?_; refine za (ok_indexSl L 0 rfl rfl rfl rfl rfl rfl rfl (by omega)) rfl ?_; refine za (zm L (zo rfl) rfl rfl rfl rfl) rfl ?_; refine za (ze rfl rfl rfl) rfl ?_; refine zg ?_; refine zi ?_
    refine qf L (rs := [.tmp 2]) rfl (fun _ _ h => h) Since.refl fun u H hH hle => ?_
    rfl
  · have e0 : Int.tmod (n : Int) 5 = 1 := by rw [e, h]; rfl
    rw [h]
    refine zf ?_; refine zd (id := 0) ?_; refine za (ze rfl rfl rfl) rfl ?_; refine zg ?_; refine zi ?_; refine zf ?_; refine zd (id := 1) ?_; refine za (y0 L rfl rfl rfl rfl rfl rfl rfl rfl rfl) rfl ?_; refine za (zb rfl rfl rfl) rfl ?_; refine za (ok_rem rfl rfl rfl rfl (by omega) (by assumption)) rfl ?_; refine za (ok_indexSl L 1 rfl rfl rfl rfl rfl rfl rfl (by omega)) rfl ?_; refine za (zm L (zo rfl) rfl rfl rfl rfl) rfl ?_; refine za (ze rfl rfl rfl) rfl ?_; refine zg ?_; refine zi ?_
    refine qf L (rs := [.tmp 2]) rfl (fun _ _ h => h) Since.refl fun u H hH hle => ?_
    rfl
  · have e0 : Int.tmod (n : Int) 5 = 2 := by rw [e, h]; rfl
    rw [h]
    refine zf ?_; refine zd (id := 0) ?_; refine za (ze rfl rfl rfl) rfl ?_; refine zg ?_; refine zi ?_; refine zf ?_; refine zd (id := 1) ?_; refine za (y0 L rfl rfl rfl rfl rfl rfl rfl rfl rfl) rfl ?_; refine za (zb rfl rfl rfl) rfl ?_; refine za (ok_rem rfl rfl rfl rfl (by omega) (by assumption)) rfl ?_; refine za (ok_indexSl L 2 rfl rfl rfl rfl rfl rfl rfl (by omega)) rfl ?_; refine za (zm L (zo rfl) rfl rfl rfl rfl) rfl ?_; refine za (ze rfl rfl rfl) rfl ?_; refine zg ?_; refine zi ?_
    refine qf L (rs := [.tmp 2]) rfl (fun _ _ h => h) Since.refl fun u H hH hle => ?_
    rfl
  · have e0 : Int.tmod (n : Int) 5 = 3 := by rw [e, h]; rfl
    rw [h]
    refine zf ?_; refine zd (id := 0) ?_; refine za (ze rfl rfl rfl) rfl ?_; refine zg ?_; refine zi ?_; refine zf ?_; refine zd (id := 1) ?_; refine za (y0 L rfl rfl rfl rfl rfl rfl rfl rfl rfl) rfl ?_; refine za (zb rfl rfl rfl) rfl ?_; refine za (ok_rem rfl rfl rfl rfl (by omega) (by assumption)) rfl ?_; refine za (ok_indexSl L 3 rfl rfl rfl rfl rfl rfl rfl (by omega)) rfl ?_; refine za (zm L (zo rfl) rfl rfl rfl rfl) rfl ?_; refine za (ze rfl rfl rfl) rfl ?_; refine zg ?_; refine zi ?_
    refine qf L (rs := [.tmp 2]) rfl (fun _ _ h => h) Since.refl fun u H hH hle => ?_
    rfl
  · have e0 : Int.tmod (n : Int) 5 = 4 := by rw [e, h]; rfl
    rw [h]
    refine zf ?_; refine zd (id := 0) ?_; refine za (ze rfl rfl rfl) rfl ?_; refine zg ?_; refine zi ?_; refine zf ?_; refine zd (id := 1) ?_; refine za (y0 L rfl rfl rfl rfl rfl rfl rfl rfl rfl) rfl ?_; refine za (zb rfl rfl rfl) rfl ?_; refine za (ok_rem rfl rfl rfl rfl (by omega) (by assumption)) rfl ?_; refine za (ok_indexSl L 4 rfl rfl rfl rfl rfl rfl rfl (by omega)) rfl ?_; refine za (zm L (zo rfl) rfl rfl rfl rfl) rfl ?_; refine za (ze rfl rfl rfl) rfl ?_; refine zg ?_; refine zi ?_
    refine qf L (rs := [.tmp 2]) rfl (fun _ _ h => h) Since.refl fun u H hH hle => ?_
    rfl
theorem rel_ret (n : Nat) {w : World} {B : Heap} (hB : B.Le (hp w)) : Ret Try.prog 57 [.int .i64 n] w B (fun v _ => v = .string (relS n)) := by
  unfold relS
  have e : Int.tmod (n : Int) 4 = ((n % 4 : Nat) : Int) := rfl
  refine ya Try.func57 rfl Try.ntmps57 (Nat.le_of_ble_eq_true rfl) hB ?_
  have hlt := Nat.mod_lt n (show 0 < 4 by decide)
  rcases (by omega : n % 4 = 0 ∨ n % 4 = 1 ∨ n % 4 = 2 ∨ n % 4 = 3) with h | h | h | h
  · have e0 : Int.tmod (n : Int) 4 = 0 := by rw [e, h]; rfl
    rw [h]
    refine zf ?_; refine zd (id := 0) ?_; refine za (ze rfl rfl rfl) rfl ?_; refine zg ?_; refine zi ?_; refine zf ?_; refine zd (id := 1) ?_; refine za (y0 L rfl rfl rfl rfl rfl rfl rfl rfl rfl) rfl ?_; refine za (zb rfl rfl rfl) rfl ?_; refine za (ok_rem rfl rfl rfl rfl (by omega) (by assumption)) rfl ?_; refine za (ok_indexSl L 0 rfl rfl rfl rfl rfl rfl rfl (by omega)) rfl ?_; refine za (zm L (zo rfl) rfl rfl rfl rfl) rfl ?_; refine za (ze rfl rfl rfl) rfl ?_; refine zg ?_; refine zi ?_
    refine qf L (rs := [.tmp 2]) rfl (fun _ _ h => h) Since.refl fun u H hH hle => ?_
    rfl
  · have e0 : Int.tmod (n : Int) 4 = 1 := by rw [e, h]; rfl
    rw [h]
    refine zf ?_; refine zd (id := 0) ?_; refine za (ze rfl rfl rfl) rfl ?_; refine zg ?_; refine zi ?_; refine zf ?_; refine zd (id := 1) ?_; refine za (y0 L rfl rfl rfl rfl rfl rfl rfl rfl rfl) rfl ?_; refine za (zb rfl rfl rfl) rfl ?_; refine za (ok_rem rfl rfl rfl rfl (by omega) (by assumption)) rfl ?_; refine za (ok_indexSl L 1 rfl rfl rfl rfl rfl rfl rfl (by omega)) rfl ?_; refine za (zm L (zo rfl) rfl rfl rfl rfl) rfl ?_; refine za (ze rfl rfl rfl) rfl ?_; refine zg ?_; refine zi ?_
    refine qf L (rs := [.tmp 2]) rfl (fun _ _ h => h) Since.refl fun u H hH hle => ?_
    rfl
  · have e0 : Int.tmod (n : Int) 4 = 2 := by rw [e, h]; rfl
    rw [h]
    refine zf ?_; refine zd (id := 0) ?_; refine za (ze rfl rfl rfl) rfl ?_; refine zg ?_; refine zi ?_; refine zf ?_; refine zd (id := 1) ?_; refine za (y0 L rfl rfl rfl rfl rfl rfl rfl rfl rfl) rfl ?_; refine za (zb rfl rfl rfl) rfl ?_; refine za (ok_rem rfl rfl rfl rfl (by omega) (by assumption)) rfl ?_; refine za (ok_indexSl L 2 rfl rfl rfl rfl rfl rfl rfl (by omega)) rfl ?_; refine za (zm L (zo rfl) rfl rfl rfl rfl) rfl ?_; refine za (ze rfl rfl rfl) rfl ?_; refine zg ?_; refine zi ?_
    refine qf L (rs := [.tmp 2]) rfl (fun _ _ h => h) Since.refl fun u H hH hle => ?_
    rfl
  · have e0 : Int.tmod (n : Int) 4 = 3 := by rw [e, h]; rfl
    rw [h]
    refine zf ?_; refine zd (id := 0) ?_; refine za (ze rfl rfl rfl) rfl ?_; refine zg ?_; refine zi ?_; refine zf ?_; refine zd (id := 1) ?_; refine za (y0 L rfl rfl rfl rfl rfl rfl rfl rfl rfl) rfl ?_; refine za (zb rfl rfl rfl) rfl ?_; refine za (ok_rem rfl rfl rfl rfl (by omega) (by assumption)) rfl ?_; refine za (ok_indexSl L 3 rfl rfl rfl rfl rfl rfl rfl (by omega)) rfl ?_; refine za (zm L (zo rfl) rfl rfl rfl rfl) rfl ?_; refine za (ze rfl rfl rfl) rfl ?_; refine zg ?_; refine zi ?_
    refine qf L (rs := [.tmp 2]) rfl (fun _ _ h => h) Since.refl fun u H hH hle => ?_
    rfl
end Go.V
namespace Go.V.L39
open Go.Proofs Go.RowKit Go.V
attribute [local irreducible] V N X VO Par StepOK Has Ret RetL RetO RetT RetG Src
theorem query_law {n : Nat} (hn : n ≤ 255) {w : World} {B : Heap} (hB : B.Le (hp w)) : Ret Try.prog 26 [.int .u8 n] w B (fun v _ => v = quv (qS n)) := by
  have e6 : Int.tmod (n : Int) 6 = ((n % 6 : Nat) : Int) := rfl
  have e2 : Int.tmod (n : Int) 2 = ((n % 2 : Nat) : Int) := rfl
  have hlt := Nat.mod_lt n (show 0 < 6 by decide)
  have hlt2 := Nat.mod_lt n (show 0 < 2 by decide)
  unfold qS
  generalize n % 6 = m at e6 hlt
  generalize n % 2 = s at e2 hlt2
  have q1 : (m : Int).tdiv 2 = ((m / 2 : Nat) : Int) := rfl
  have d1 : IntKind.i64.wrap ((m : Int).tdiv 2) = ((m / 2 : Nat) : Int) := wrap_i64 (by omega) (by omega)
  refine ya Try.func26 rfl Try.ntmps26 (Nat.le_of_ble_eq_true rfl) hB ?_
  by_cases h : 3 < m
  · rw [if_pos h]
    refine zf ?_; refine zd (id := 0) ?_; refine za (y3 L rfl rfl rfl rfl) rfl ?_; refine zg ?_; refine zi ?_; refine zf ?_; refine zd (id := 1) ?_; refine za (zb rfl rfl rfl) rfl ?_; refine za (ok_rem rfl rfl rfl rfl (by omega) (by assumption)) rfl ?_; refine za (ok_conv rfl rfl rfl cv5_3.1 cv5_3.2 (wrap_i64 (by omega) (by omega))) rfl ?_; refine za (ok_quo rfl rfl rfl rfl (by omega) (by assumption)) rfl ?_; refine za (zu L rfl rfl (zh rfl) rfl rfl rfl (fun u H hH _ _ => id_ret _ hH)) rfl ?_; refine za (yc (cs := [_, _]) rfl rfl pl26 rfl rfl) rfl ?_; refine za (yc (cs := [_, _, _]) rfl rfl pl28 rfl rfl) rfl ?_; refine za (zb rfl rfl rfl) rfl ?_; refine za (ok_rem rfl rfl rfl rfl (by omega) (by assumption)) rfl ?_; refine za (ok_conv rfl rfl rfl cv5_3.1 cv5_3.2 (wrap_i64 (by omega) (by omega))) rfl ?_; refine za (zu L rfl rfl (zh rfl) rfl rfl rfl (fun u H hH _ _ => id_ret _ hH)) rfl ?_; refine za (yc (cs := [_, _]) rfl rfl pl26 rfl rfl) rfl ?_; refine za (yc (cs := [_, _, _, _, _, _]) rfl rfl pl30 rfl rfl) rfl ?_; refine za (y3 L rfl rfl rfl rfl) rfl ?_; refine za (qq L rfl rfl rfl rfl rfl rfl rfl rfl) rfl ?_; refine zg ?_; refine zi ?_; refine zf ?_; refine zf ?_; refine zd (id := 2) ?_; refine za (zb rfl rfl rfl) rfl ?_; refine za (ok_rem rfl rfl rfl rfl (by omega) (by assumption)) rfl ?_; refine za (qo rfl rfl rfl rfl (decide_eq_true (by omega))) rfl ?_; refine zg ?_; refine zi ?_; refine zy rfl ?_; refine zf ?_
    refine V_box 3 rfl fun b3 hb3 => ?_
    refine zd (id := 3) ?_; refine za (q7 L rfl rfl rfl rfl) rfl ?_; refine box_store L (O1 := []) rfl rfl rfl rfl rfl rfl rfl rfl rfl ?_; refine zg ?_; refine zi ?_; refine zf ?_; refine zd (id := 4) ?_; refine za (zb rfl rfl rfl) rfl ?_; refine za (ok_rem rfl rfl rfl rfl (by omega) (by assumption)) rfl ?_; refine za (ok_conv rfl rfl rfl cv5_3.1 cv5_3.2 (wrap_i64 (by omega) (by omega))) rfl ?_; refine za (zu L rfl rfl (zh rfl) rfl rfl rfl (fun u H hH _ _ => rel_ret _ hH)) rfl ?_; refine za (q7 L rfl rfl rfl rfl) rfl ?_; refine za (q7 L rfl rfl rfl rfl) rfl ?_; refine box_store L (O1 := []) rfl rfl rfl rfl rfl rfl rfl rfl rfl ?_; refine zg ?_; refine zi ?_; refine zd (id := 5) ?_; refine za (yc (cs := [_, _]) rfl rfl pl26 rfl rfl) rfl ?_; refine za (q7 L rfl rfl rfl rfl) rfl ?_; refine box_store L (O1 := []) rfl rfl rfl rfl rfl rfl rfl rfl rfl ?_; refine zg ?_; refine zi ?_; refine zf ?_; refine zd (id := 6) ?_; refine za (zt L (vs := [_, _, _, _, _, _]) (yd rfl (List.Mem.head _)) rfl rfl rfl rfl ⟨_, rfl⟩) rfl ?_; refine za (qq L rfl rfl rfl rfl rfl rfl rfl rfl) rfl ?_; refine zg ?_; refine zi ?_
    refine qf L (rs := [.cell 2 30]) rfl (fun _ _ h => h) Since.refl fun u H hH hle => ?_
    refine resK_cellA (qn rfl) rfl rfl ?_
    rfl
  · rw [if_neg h]
    refine zf ?_; refine zd (id := 0) ?_; refine za (y3 L rfl rfl rfl rfl) rfl ?_; refine zg ?_; refine zi ?_; refine zf ?_; refine zd (id := 1) ?_; refine za (zb rfl rfl rfl) rfl ?_; refine za (ok_rem rfl rfl rfl rfl (by omega) (by assumption)) rfl ?_; refine za (ok_conv rfl rfl rfl cv5_3.1 cv5_3.2 (wrap_i64 (by omega) (by omega))) rfl ?_; refine za (ok_quo rfl rfl rfl rfl (by omega) (by assumption)) rfl ?_; refine za (zu L rfl rfl (zh rfl) rfl rfl rfl (fun u H hH _ _ => id_ret _ hH)) rfl ?_; refine za (yc (cs := [_, _]) rfl rfl pl26 rfl rfl) rfl ?_; refine za (yc (cs := [_, _, _]) rfl rfl pl28 rfl rfl) rfl ?_; refine za (zb rfl rfl rfl) rfl ?_; refine za (ok_rem rfl rfl rfl rfl (by omega) (by assumption)) rfl ?_; refine za (ok_conv rfl rfl rfl cv5_3.1 cv5_3.2 (wrap_i64 (by omega) (by omega))) rfl ?_; refine za (zu L rfl rfl (zh rfl) rfl rfl rfl (fun u H hH _ _ => id_ret _ hH)) rfl ?_; refine za (yc (cs := [_, _]) rfl rfl pl26 rfl rfl) rfl ?_; refine za (yc (cs := [_, _, _, _, _, _]) rfl rfl pl30 rfl rfl) rfl ?_; refine za (y3 L rfl rfl rfl rfl) rfl ?_; refine za (qq L rfl rfl rfl rfl rfl rfl rfl rfl) rfl ?_; refine zg ?_; refine zi ?_; refine zf ?_; refine zf ?_; refine zd (id := 2) ?_; refine za (zb rfl rfl rfl) rfl ?_; refine za (ok_rem rfl rfl rfl rfl (by omega) (by assumption)) rfl ?_; refine za (qo rfl rfl rfl rfl (decide_eq_false (by omega))) rfl ?_; refine zg ?_; refine zi ?_; refine zq rfl ?_; refine zx ?_; refine zi ?_; refine zf ?_; refine zd (id := 6) ?_; refine za (zt L (vs := [_, _, _, _, _, _]) (qn rfl) rfl rfl rfl rfl ⟨_, rfl⟩) rfl ?_; refine za (qq L rfl rfl rfl rfl rfl rfl rfl rfl) rfl ?_; refine zg ?_; refine zi ?_
    refine qf L (rs := [.cell 2 30]) rfl (fun _ _ h => h) Since.refl fun u H hH hle => ?_
    refine resK_cellA (qn rfl) rfl rfl ?_
    rfl
theorem pair_law {w : World} {B : Heap} (hB : B.Le (hp w)) : Ret Try.prog 32 [] w B (fun v _ => v = .tuple #[quv (qS 0), quv (qS 1)]) := by
  refine ya Try.func32 rfl Try.ntmps32 (Nat.le_of_ble_eq_true rfl) hB ?_
  refine zf ?_; refine zd (id := 0) ?_; refine za (y3 L rfl rfl rfl rfl) rfl ?_; refine za (y3 L rfl rfl rfl rfl) rfl ?_; refine zg ?_; refine zi ?_; refine zf ?_; refine zd (id := 1) ?_; refine za (zu L rfl rfl (zh rfl) rfl rfl rfl (fun u H hH _ _ => query_law (n := _) (by decide) hH)) rfl ?_; refine za (zu L rfl rfl (zh rfl) rfl rfl rfl (fun u H hH _ _ => query_law (n := _) (by decide) hH)) rfl ?_; refine za (qq L rfl rfl rfl rfl rfl rfl rfl rfl) rfl ?_; refine za (qq L rfl rfl rfl rfl rfl rfl rfl rfl) rfl ?_; refine zg ?_; refine zi ?_
  refine qf L (rs := [.cell 0 30, .cell 1 30]) rfl (fun _ _ h => h) Since.refl fun u H hH hle => ?_
  refine resK_cellA (qn rfl) rfl rfl ?_
  refine resK_cellA (qn rfl) rfl rfl ?_
  rfl
def bndB (t : Tb) : Bool := decide (t.fl.length ≤ 30 ∧ itsN t.fl ≤ 60)
theorem bounded_law {t : Tb} {zs : List (Fl × Value)} (hz : zs.map Prod.fst = t.fl) {fu fi : Bool} {s : Value} {b : Bool} (hb : bndB t = b) {w : World} {B : Heap} (hs : FsB zs fu fi s B) (hn : itsN t.fl ≤ 9223372036854775807) (hB : B.Le (hp w)) :
    Ret Try.prog 9 [tbv t.nx s] w B (fun v _ => v = .bool b) := by
  have hsl := hs.sl
  have hlen := fls_len hz
  have hzl := hs.ln
  unfold bndB at hb
  refine ya Try.func9 rfl Try.ntmps9 (Nat.le_of_ble_eq_true rfl) hB ?_
  by_cases h1 : zs.length ≤ 30
  · by_cases h2 : itsN t.fl ≤ 60
    · obtain rfl : b = true := by rw [← hb]; exact decide_eq_true ⟨by omega, h2⟩
      refine zf ?_; refine zd (id := 0) ?_; refine za (qt rfl rfl rfl rfl) rfl ?_; refine za (ze rfl rfl rfl) rfl ?_; refine zg ?_; refine zi ?_; refine zf ?_; refine zd (id := 1) ?_; refine za (zl L rfl rfl rfl rfl) rfl ?_; refine za (StepOK.seeV (zm L (zo rfl) rfl rfl rfl rfl) (by assumption)) rfl ?_; refine za (ye L rfl rfl rfl rfl) rfl ?_; refine za (ok_leq rfl rfl rfl rfl (decide_eq_true (by omega))) rfl ?_; refine za (zb rfl rfl rfl) rfl ?_; refine za (zt L (vs := [_, _]) (zo rfl) rfl rfl rfl rfl ⟨_, rfl⟩) rfl ?_; refine za (zu L rfl rfl (zh rfl) rfl rfl rfl (fun u H hH hle _ => ritems_ret hz (hs.le hle) hn hH)) rfl ?_; refine za (ok_leq rfl rfl rfl rfl (decide_eq_true (by omega))) rfl ?_; refine za (zn rfl rfl rfl rfl) rfl ?_; refine za (ze rfl rfl rfl) rfl ?_; refine zg ?_; refine zi ?_
      refine qf L (rs := [.tmp 2]) rfl (fun _ _ h => h) Since.refl fun u H hH hle => ?_
      rfl
    · obtain rfl : b = false := by rw [← hb]; exact decide_eq_false fun h => h2 h.2
      refine zf ?_; refine zd (id := 0) ?_; refine za (qt rfl rfl rfl rfl) rfl ?_; refine za (ze rfl rfl rfl) rfl ?_; refine zg ?_; refine zi ?_; refine zf ?_; refine zd (id := 1) ?_; refine za (zl L rfl rfl rfl rfl) rfl ?_; refine za (StepOK.seeV (zm L (zo rfl) rfl rfl rfl rfl) (by assumption)) rfl ?_; refine za (ye L rfl rfl rfl rfl) rfl ?_; refine za (ok_leq rfl rfl rfl rfl (decide_eq_true (by omega))) rfl ?_; refine za (zb rfl rfl rfl) rfl ?_; refine za (zt L (vs := [_, _]) (zo rfl) rfl rfl rfl rfl ⟨_, rfl⟩) rfl ?_; refine za (zu L rfl rfl (zh rfl) rfl rfl rfl (fun u H hH hle _ => ritems_ret hz (hs.le hle) hn hH)) rfl ?_; refine za (ok_leq rfl rfl rfl rfl (decide_eq_false (by omega))) rfl ?_; refine za (zn rfl rfl rfl rfl) rfl ?_; refine za (ze rfl rfl rfl) rfl ?_; refine zg ?_; refine zi ?_
      refine qf L (rs := [.tmp 2]) rfl (fun _ _ h => h) Since.refl fun u H hH hle => ?_
      rfl
  · obtain rfl : b = false := by rw [← hb]; exact decide_eq_false fun h => h1 (by omega)
    refine zf ?_; refine zd (id := 0) ?_; refine za (qt rfl rfl rfl rfl) rfl ?_; refine za (ze rfl rfl rfl) rfl ?_; refine zg ?_; refine zi ?_; refine zf ?_; refine zd (id := 1) ?_; refine za (zl L rfl rfl rfl rfl) rfl ?_; refine za (StepOK.seeV (zm L (zo rfl) rfl rfl rfl rfl) (by assumption)) rfl ?_; refine za (ye L rfl rfl rfl rfl) rfl ?_; refine za (ok_leq rfl rfl rfl rfl (decide_eq_false (by omega))) rfl ?_; refine za (zb rfl rfl rfl) rfl ?_; refine za (zj rfl (zh rfl) rfl) rfl ?_; refine za (zj rfl (zh rfl) rfl) rfl ?_; refine za (zj rfl (zh rfl) rfl) rfl ?_; refine za (zn rfl rfl rfl rfl) rfl ?_; refine za (ze rfl rfl rfl) rfl ?_; refine zg ?_; refine zi ?_
    refine qf L (rs := [.tmp 2]) rfl (fun _ _ h => h) Since.refl fun u H hH hle => ?_
    rfl
end Go.V.L39
namespace Go.V.L39
open Go.Proofs Go.RowKit Go.V
theorem FsB.nofu {zs : List (Fl × Value)} {fu fi : Bool} {s : Value} {B : Heap} (h : FsB zs fu fi s B) : FsB zs false false s B := ⟨h.sl.nofu, fun i z hz => (h.is i z hz).nofu, h.ln, h.li⟩
theorem qS_z (n : Nat) : QuZ (qS n) := by
  have hi := fun n => (idS_ok n).2
  have hr := fun n => (relS_ok n).2
  unfold qS
  split
  · exact ⟨⟨(by decide : (0 : Int) ≤ 2), (by decide : (2 : Int) ≤ 255)⟩, (by decide : ByteArray.size sDoc ≤ 9223372036854775807), by have := hi (n % 6 / 2); dsimp only; omega, by have := hr (n % 2); dsimp only; omega, (by decide : ByteArray.size U0.1 ≤ 9223372036854775807), (by decide : ByteArray.size U0.2 ≤ 9223372036854775807)⟩
  · exact ⟨⟨(by decide : (0 : Int) ≤ 1), (by decide : (1 : Int) ≤ 255)⟩, (by decide : ByteArray.size sDoc ≤ 9223372036854775807), by have := hi (n % 6 / 2); dsimp only; omega, (by decide : ByteArray.size sViewer ≤ 9223372036854775807), (by decide : ByteArray.size sUser ≤ 9223372036854775807), by have := hi (n % 2); dsimp only; omega⟩
theorem tup2 {φ1 φ2 : Value → Heap → Prop} {a b : Value} {H : Heap} (h1 : φ1 a H) (h2 : φ2 b H) : TupS [φ1, φ2] (.tuple #[a, b]) H := ⟨[a, b], rfl, rfl, fun i φ x hi hx => by
  match i with
  | 0 => cases hi; cases hx; exact h1
  | 1 => cases hi; cases hx; exact h2
  | i + 2 => cases hi⟩
theorem tup4 {φ1 φ2 φ3 φ4 : Value → Heap → Prop} {a b c d : Value} {H : Heap} (h1 : φ1 a H) (h2 : φ2 b H) (h3 : φ3 c H) (h4 : φ4 d H) : TupS [φ1, φ2, φ3, φ4] (.tuple #[a, b, c, d]) H := ⟨[a, b, c, d], rfl, rfl, fun i φ x hi hx => by
  match i with
  | 0 => cases hi; cases hx; exact h1
  | 1 => cases hi; cases hx; exact h2
  | 2 => cases hi; cases hx; exact h3
  | 3 => cases hi; cases hx; exact h4
  | i + 4 => cases hi⟩
theorem TbR.mn {t : Tb} : Kn.mono (.sat (TbR t)) := fun _ _ _ h hle => h.mono hle
theorem eqv_mono {c : Value} : Kn.mono (.sat fun v _ => v = c) := fun _ _ _ h _ => h
abbrev RTabS (t : Tb) (e : Int) : Value → Heap → Prop := TupS [TbR t, fun v _ => v = .int .i64 e]
theorem RTabS.mono {t : Tb} {e : Int} : Kn.mono (.sat (RTabS t e)) := TupS.mono fun φ h => by
  simp only [List.mem_cons, List.mem_nil_iff, or_false] at h
  rcases h with rfl | rfl
  · exact TbR.mn
  · exact eqv_mono
theorem RTabP.tup {t : Tb} {e : Int} {v : Value} {H : Heap} (h : RTabP t e v H) : RTabS t e v H := by
  obtain ⟨tv, rfl, h⟩ := h
  exact tup2 h rfl
abbrev RJoinS (r : Tb × Int × Bool) (e : Int) : Value → Heap → Prop := TupS [TbR r.1, fun v _ => v = .int .i64 r.2.1, fun v _ => v = .int .i64 (if r.2.2 = true then 1 else 0), fun v _ => v = .int .i64 e]
theorem RJoinS.mono {r : Tb × Int × Bool} {e : Int} : Kn.mono (.sat (RJoinS r e)) := TupS.mono fun φ h => by
  simp only [List.mem_cons, List.mem_nil_iff, or_false] at h
  rcases h with rfl | rfl | rfl | rfl
  · exact TbR.mn
  · exact eqv_mono
  · exact eqv_mono
  · exact eqv_mono
theorem RJoinP.tup {r : Tb × Int × Bool} {e : Int} {v : Value} {H : Heap} (h : RJoinP r e v H) : RJoinS r e v H := by
  obtain ⟨tv, rfl, h⟩ := h
  exact tup4 h rfl rfl rfl
abbrev SlX := Option Addr × Nat × Nat
def tbxC (t : Tb) (x : SlX) : List Value := [.int .i64 t.nx, .slice x.1 x.2.1 x.2.2]
def TbX (t : Tb) (x : SlX) (H : Heap) : Prop := ∃ zs, zs.map Prod.fst = t.fl ∧ FsB zs false false (.slice x.1 x.2.1 x.2.2) H
theorem TbX.mono {t : Tb} : MonoX (TbX t) := fun _ _ _ ⟨zs, h1, h2⟩ hle => ⟨zs, h1, h2.le hle⟩
theorem tbx_st {t : Tb} : ∀ v H, TbR t v H → ∃ x, TbX t x H ∧ cellsL v = tbxC t x := fun v H ⟨zs, s, h1, h2, h3⟩ => by
  obtain ⟨p, c, hsv⟩ := h3.shape
  subst h1 hsv
  exact ⟨(p, zs.length, c), ⟨zs, h2, h3⟩, rfl⟩
attribute [local irreducible] V N X VO Par StepOK Has Ret RetL RetO RetT RetG Src
end Go.V.L39
namespace Go.V.L39
open Go.Proofs Go.RowKit Go.V
def lvQ (i : Nat) : Qu := if i < 3 then qS 0 else qS 1
def lvI : Nat → It
  | 0 => ⟨0, 0, 0, 2, 1⟩
  | 1 => ⟨1, 0, 3, 1, 1⟩
  | 2 => ⟨2, 0, 0, 0, 2⟩
  | _ => ⟨2, 1, 0, 0, 1⟩
def lvT : Nat → Tb
  | 0 => T0
  | i + 1 => (joinT (lvT i) (lvQ i) (lvI i).rv (lvI i) 5 false).1
theorem lv_join : ∀ i, i < 4 → joinE (lvT i) (lvQ i) (lvI i).rv (lvI i) 5 false = 0 ∧ (joinT (lvT i) (lvQ i) (lvI i).rv (lvI i) 5 false).2 = ((([0, 0, 1, 2] : List Int)[i]?).getD 0, decide (i ≠ 1)) := by decide +kernel
def lvU : Tb := cmT (cmT (lvT 4) 0 7) 0 5
def lvV : Tb := ldT lvU 0
theorem lv_rest : plE (lvT 4) 0 = 0 ∧ cmE (lvT 4) 0 7 = 0 ∧ cmE (cmT (lvT 4) 0 7) 0 5 = 0 ∧ plE lvU 0 = 0 ∧ plE lvV 0 = 8 ∧ cmE (lvT 4) 1 (-1) = 4 := by decide +kernel
theorem lv_find : (findF (lvT 4) 0).cl = 0 ∧ (findF (lvT 4) 0).cs = 1 ∧ (findF (lvT 4) 0).si = 5 ∧ (findF lvU 0).ve = 2 ∧ (findF lvU 0).sp = 12 ∧ (findF lvU 0).is.length = 2 := by decide +kernel
theorem lv_ends : joinE lvV (qS 0) 1 ⟨3, 0, 1, 0, 1⟩ 5 true = 0 ∧ (joinT lvV (qS 0) 1 ⟨3, 0, 1, 0, 1⟩ 5 true).2 = (1, false) ∧ joinE (lvT 1) (qS 0) 1 (lvI 0) 4 false = 4 ∧ joinE (lvT 4) ⟨0, ((⟨#[]⟩, ⟨#[]⟩), ⟨#[]⟩), U0⟩ 1 (lvI 0) 5 false = 10 := by decide +kernel
end Go.V.L39
namespace Go.V.L39
open Go.Proofs Go.RowKit Go.V
abbrev tyP : TypeId := 74
attribute [local irreducible] V N X VO Par StepOK Has Ret RetL RetO RetT RetG Src
set_option maxRecDepth 20000 in
theorem growP_ret {n : Nat} (hn : n ≤ 100000) {w : World} {B : Heap} (hB : B.Le (hp w)) : RetO Try.prog 100 [.slice none 0 0, .int .i64 n] w B (SlR tyP 2 0 []) := by
  refine V_enterO Try.func100 rfl Try.ntmps100 (Nat.le_of_ble_eq_true rfl) hB ?_
  have hs : IntKind.i64.wrap ((n : Int) - 0) = (n : Int) := wrap_i64 (by omega) (by omega) |>.trans (by omega)
  by_cases h0 : 0 < n
  · refine zf ?_; refine zd (id := 0) ?_; refine za (ze rfl rfl rfl) rfl ?_; refine zg ?_; refine zi ?_; refine zf ?_; refine zf ?_; refine zd (id := 1) ?_; refine za (zb rfl rfl rfl) rfl ?_; refine za (zz rfl rfl rfl rfl (decide_eq_false (by omega))) rfl ?_; refine zg ?_; refine zi ?_; refine zq rfl ?_; refine zx ?_; refine zi ?_; refine zf ?_; refine zf ?_; refine zd (id := 3) ?_; refine za (zb rfl rfl rfl) rfl ?_; refine za (zb rfl rfl rfl) rfl ?_; refine za (ok_capL L rfl rfl rfl rfl) rfl ?_; refine za (zb rfl rfl rfl) rfl ?_; refine za (y8 L rfl rfl rfl rfl) rfl ?_; refine za (qy rfl rfl rfl rfl (wrap_i64 (by omega) (by omega))) rfl ?_; refine za (qy rfl rfl rfl rfl (by assumption)) rfl ?_; refine za (ze rfl rfl rfl) rfl ?_; refine zg ?_; refine zi ?_; refine zf ?_; refine zd (id := 4) ?_; refine za (zb rfl rfl rfl) rfl ?_; refine za (qo rfl rfl rfl rfl (decide_eq_true (by omega))) rfl ?_; refine zg ?_; refine zi ?_; refine zy rfl ?_; refine zd (id := 5) ?_; refine za (zb rfl rfl rfl) rfl ?_; refine za (zb rfl rfl rfl) rfl ?_; refine za (ok_capL L rfl rfl rfl rfl) rfl ?_; refine za (ok_sliceN L 0 rfl rfl rfl rfl rfl rfl rfl) rfl ?_; refine za (zb rfl rfl rfl) rfl ?_; refine za (ok_appendM L rfl rfl rfl rfl rfl Try.underlying3 el74 h0 (by omega) (by omega)) rfl ?_; refine za (zb rfl rfl rfl) rfl ?_; refine za (y8 L rfl rfl rfl rfl) rfl ?_; refine ql (ok_slice0 L 0 rfl h0 rfl rfl rfl rfl rfl rfl) ?_; refine ql (ok_moveO (.inr rfl) rfl rfl rfl rfl) ?_; refine zg ?_; refine zi ?_; refine zf ?_; refine zd (id := 6) ?_; refine ql (ok_moveO (.inl rfl) rfl rfl rfl rfl) ?_; refine ql (ok_moveO (.inr rfl) rfl rfl rfl rfl) ?_; refine zg ?_; refine zi ?_
    exact V_retO rfl (fun _ _ h => h) Since.refl rfl
  · obtain rfl : n = 0 := by omega
    refine zf ?_; refine zd (id := 0) ?_; refine za (ze rfl rfl rfl) rfl ?_; refine zg ?_; refine zi ?_; refine zf ?_; refine zf ?_; refine zd (id := 1) ?_; refine za (zb rfl rfl rfl) rfl ?_; refine za (zz rfl rfl rfl rfl (decide_eq_false (by omega))) rfl ?_; refine zg ?_; refine zi ?_; refine zq rfl ?_; refine zx ?_; refine zi ?_; refine zf ?_; refine zf ?_; refine zd (id := 3) ?_; refine za (zb rfl rfl rfl) rfl ?_; refine za (zb rfl rfl rfl) rfl ?_; refine za (ok_capL L rfl rfl rfl rfl) rfl ?_; refine za (zb rfl rfl rfl) rfl ?_; refine za (y8 L rfl rfl rfl rfl) rfl ?_; refine za (qy rfl rfl rfl rfl (by assumption)) rfl ?_; refine za (qy rfl rfl rfl rfl (by assumption)) rfl ?_; refine za (ze rfl rfl rfl) rfl ?_; refine zg ?_; refine zi ?_; refine zf ?_; refine zd (id := 4) ?_; refine za (zb rfl rfl rfl) rfl ?_; refine za (qo rfl rfl rfl rfl (decide_eq_false (by omega))) rfl ?_; refine zg ?_; refine zi ?_; refine zq rfl ?_; refine zx ?_; refine zi ?_; refine zf ?_
    refine V_nilR 0 tyP 2 rfl ?_
    refine zd (id := 6) ?_; refine ql (ok_moveO (.inl rfl) rfl rfl rfl rfl) ?_; refine ql (ok_moveO (.inr rfl) rfl rfl rfl rfl) ?_; refine zg ?_; refine zi ?_
    exact V_retO rfl (fun _ _ h => h) Since.refl rfl
set_option maxHeartbeats 2000000 in
theorem concatP_ret {avs : List Value} {Xs : List (List Value × Nat)} {B : Heap} (hX : Lsts tyP 2 B avs Xs) (hk : avs.length ≤ 1000) (hn : nXs Xs ≤ 50000) {v : Value} {w : World} (hB : B.Le (hp w)) (hv : SlB avs 70 avs.length v B) :
    Ret Try.prog 80 [v] w B (SlV tyP 2 (cXs Xs) (nXs Xs) false) := by
  obtain ⟨k, hkk⟩ : ∃ k, k = avs.length := ⟨_, rfl⟩
  rw [← hkk] at hk hv
  obtain ⟨sz, hsz⟩ : ∃ sz : Nat → Nat, sz = fun i => nXs (Xs.take i) := ⟨_, rfl⟩
  obtain ⟨ac, hac⟩ : ∃ ac : Nat → List Value, ac = fun i => cXs (Xs.take i) := ⟨_, rfl⟩
  have step : ∀ i, i < k → ∃ x p c f l m, avs[i * 1]? = some x ∧ x = .slice p m c ∧ SlV tyP 2 l m f x B ∧ sz (i + 1) = sz i + m ∧ ac (i + 1) = ac i ++ l ∧ sz (i + 1) ≤ 50000 ∧ l.all plainV = true ∧ l.length = m * 2 := fun i hi => by
    subst hkk hsz hac
    obtain ⟨x, p, c, f, l, m, h1, h2, h3, h4, h5⟩ := hX.at hi
    refine ⟨x, p, c, f, l, m, by rw [Nat.mul_one]; exact h1, h2, h3, nXs_take h4, cXs_take h4, Nat.le_trans (nXs_le _ _) hn, h5, h3.1⟩
  have h0 : sz 0 = 0 := by subst hsz; rfl
  have a0 : ac 0 = [] := by subst hac; rfl
  have a2 : ac k = cXs Xs := by subst hac; dsimp only; rw [List.take_of_length_le (by rw [hkk, hX.1]; omega)]
  have s2 : sz k = nXs Xs := by subst hsz; dsimp only; rw [List.take_of_length_le (by rw [hkk, hX.1]; omega)]
  have hal : ∀ i, (ac i).length = sz i * 2 ∧ sz i ≤ 50000 := fun i => by
    subst hsz hac
    exact ⟨hX.len i, Nat.le_trans (nXs_le _ _) hn⟩
  rw [← a2, ← s2]
  have s3 : sz k ≤ 100000 := by have := (hal k).2; omega
  clear hsz hac hX hn a2 s2 hkk
  refine ya Try.func80 rfl Try.ntmps80 (Nat.le_of_ble_eq_true rfl) hB ?_
  refine V_seen 0 (SlB avs 70 k) rfl SlB.mono hv ?_
  refine zf ?_; refine zd (id := 0) ?_; refine za (ze rfl rfl rfl) rfl ?_; refine zg ?_; refine zi ?_; refine zf ?_; refine zd (id := 1) ?_; refine za (ze rfl rfl rfl) rfl ?_; refine zg ?_; refine zi ?_; refine zf ?_; refine zf ?_; refine zd (id := 2) ?_; refine za (qh rfl rfl rfl) rfl ?_; refine za (ok_lenSl L rfl rfl rfl rfl) rfl ?_; refine za (zb rfl rfl rfl) rfl ?_; refine zg ?_; refine zi ?_; refine q8 ?_
  refine yf (fun i : Nat => [(0, .sat (SlB avs 70 k)), (3, .is (.int .i64 (sz i))), (9, .sat (SlB avs 70 k)), (10, .is (.int .i64 k)), (11, .is (.int .i64 i))]) (fun i => i ≤ k) (fun i => k - i) 0 (Nat.zero_le _) ⟨rfl, by rw [h0]; rfl, rfl, rfl, rfl, trivial⟩ ?_
  rintro i hi
  by_cases hlt : i < k
  · obtain ⟨x, p, c, f, l, m, hx, hxe, hk, hs, _, hb5, _, _⟩ := step i hlt
    subst hxe
    have had : IntKind.i64.wrap ((sz i : Int) + (m : Int)) = (sz (i + 1) : Int) := wrap_i64 (by omega) (by omega) |>.trans (by omega)
    refine zf ?_; refine zd (id := 3) ?_; refine za (zz rfl rfl rfl rfl (decide_eq_true (by omega))) rfl ?_; refine zg ?_; refine zi ?_; refine zf ?_; refine zy rfl ?_; refine zx ?_; refine zi ?_; refine zf ?_; refine q8 ?_; refine zf ?_; refine zd (id := 4) ?_; refine za (ok_indexSl L _ rfl rfl rfl rfl rfl rfl rfl (by omega)) rfl ?_; refine za (ok_load1c L (zo rfl) rfl rfl rfl (by assumption)) rfl ?_; refine za (ze rfl rfl rfl) rfl ?_; refine zg ?_; refine zi ?_; refine zf ?_; refine zd (id := 5) ?_; refine za (zb rfl rfl rfl) rfl ?_; refine za (zb rfl rfl rfl) rfl ?_; refine za (y8 L rfl rfl rfl rfl) rfl ?_; refine za (qb rfl rfl rfl rfl (by assumption)) rfl ?_; refine za (ze rfl rfl rfl) rfl ?_; refine zg ?_; refine zi ?_; refine zf ?_; refine zd (id := 6) ?_; refine za (zb rfl rfl rfl) rfl ?_; refine za (zz rfl rfl rfl rfl (decide_eq_false (by omega))) rfl ?_; refine zg ?_; refine zi ?_; refine zq rfl ?_; refine zx ?_; refine qp ?_; refine zi ?_; refine zd (id := 8) ?_; refine za (qb rfl rfl rfl rfl (wrap_i64 (by omega) (by omega))) rfl ?_; refine za (zb rfl rfl rfl) rfl ?_; refine zg ?_
    exact qw (x := i) (i + 1) hlt (by omega) ⟨rfl, rfl, rfl, rfl, rfl, trivial⟩
  · obtain rfl : i = k := by omega
    refine zf ?_; refine zd (id := 3) ?_; refine za (zz rfl rfl rfl rfl (decide_eq_false (by omega))) rfl ?_; refine zg ?_; refine zi ?_; refine zf ?_; refine zq rfl ?_; refine y6 ?_; refine qd ?_; refine qd ?_; refine y4 ?_; refine zi ?_; refine zf ?_; refine zd (id := 9) ?_; refine za (zb rfl rfl rfl) rfl ?_; refine za (ok_callO L rfl rfl (zh rfl) rfl rfl rfl (fun u H hH _ _ => growP_ret s3 hH)) rfl ?_; refine ql (ok_moveO (.inr rfl) rfl rfl rfl rfl) ?_; refine zg ?_; refine zi ?_; refine zf ?_; refine zf ?_; refine zd (id := 10) ?_; refine za (qh rfl rfl rfl) rfl ?_; refine za (ok_lenSl L rfl rfl rfl rfl) rfl ?_; refine za (zb rfl rfl rfl) rfl ?_; refine zg ?_; refine zi ?_; refine q8 ?_
    refine yf (fun j : Nat => [(6, .own (SlR tyP 2 (sz j) (ac j))), (25, .sat (SlB avs 70 i)), (26, .is (.int .i64 i)), (27, .is (.int .i64 j))]) (fun j => j ≤ i) (fun j => i - j) 0 (Nat.zero_le _) ⟨by rw [a0, h0]; rfl, rfl, rfl, rfl, trivial⟩ ?_
    rintro j hj
    obtain ⟨hlj, hlj2⟩ := hal j
    by_cases hjl : j < i
    · obtain ⟨x, p, c, f, l, m, hx, _, hk, hs', ha', hb5, hpl, hlen⟩ := step j hjl
      refine zf ?_; refine zd (id := 11) ?_; refine za (zz rfl rfl rfl rfl (decide_eq_true (by omega))) rfl ?_; refine zg ?_; refine zi ?_; refine zf ?_; refine zy rfl ?_; refine zx ?_; refine zi ?_; refine zf ?_; refine q8 ?_; refine zf ?_; refine zd (id := 12) ?_; refine za (ok_indexSl L _ rfl rfl rfl rfl rfl rfl rfl (by omega)) rfl ?_; refine za (ok_load1c L (zo rfl) rfl rfl rfl (by assumption)) rfl ?_; refine za (ze rfl rfl rfl) rfl ?_; refine zg ?_; refine zi ?_
      refine V_seen 8 (SlV tyP 2 l m f) rfl SlV.mono hk ?_
      refine zd (id := 13) ?_; refine ql (ok_moveO (.inl rfl) rfl rfl rfl rfl) ?_; refine za (qh rfl rfl rfl) rfl ?_; refine ql (ok_append L rfl rfl rfl (apd_V rfl) rfl el74 (by assumption) (by assumption) (by omega) (by omega)) ?_; refine ql (ok_moveO (.inr rfl) rfl rfl rfl rfl) ?_; refine zg ?_; refine qp ?_; refine zi ?_; refine zd (id := 14) ?_; refine za (qb rfl rfl rfl rfl (wrap_i64 (by omega) (by omega))) rfl ?_; refine za (zb rfl rfl rfl) rfl ?_; refine zg ?_
      exact qw (x := j) (j + 1) hjl (by omega) ⟨by rw [ha', hs']; rfl, rfl, rfl, rfl, trivial⟩
    · obtain rfl : j = i := by omega
      refine V_pubR 6 rfl ?_
      refine zf ?_; refine zd (id := 11) ?_; refine za (zz rfl rfl rfl rfl (decide_eq_false (by omega))) rfl ?_; refine zg ?_; refine zi ?_; refine zf ?_; refine zq rfl ?_; refine y6 ?_; refine qd ?_; refine qd ?_; refine y4 ?_; refine zi ?_; refine zf ?_; refine zd (id := 15) ?_; refine za (qh rfl rfl rfl) rfl ?_; refine za (ok_assigns' rfl rfl rfl) rfl ?_; refine zg ?_; refine zi ?_
      refine qf L (rs := [.tmp 2]) rfl (fun _ _ h => h) Since.refl fun u H hH hle => ?_
      exact fun v hv => hv
theorem ownP_ret {avs : List Value} {Xs : List (List Value × Nat)} {B : Heap} (hX : Lsts tyP 2 B avs Xs) (hk : avs.length ≤ 1000) (hn : nXs Xs ≤ 50000) {v : Value} {w : World} (hB : B.Le (hp w)) (hv : SlB avs 70 avs.length v B) :
    RetO Try.prog 59 [v] w B (SlE tyP 2 (nXs Xs) (cXs Xs)) := by
  have hpl := hX.plain
  have hlen : (cXs Xs).length = nXs Xs * 2 := by have := hX.len Xs.length; rwa [List.take_length] at this
  have hc : ∀ {u : World} {H : Heap}, H.Le (hp u) → B.Le H → Ret Try.prog 80 [v] u H (SlV tyP 2 (cXs Xs) (nXs Xs) false) := fun hH hle => concatP_ret (hX.le hle) hk hn hH (SlB.mono _ _ _ hv hle)
  generalize cXs Xs = cs at *
  generalize nXs Xs = m at *
  clear hX
  refine V_enterO Try.func59 rfl Try.ntmps59 (Nat.le_of_ble_eq_true rfl) hB ?_
  by_cases h0 : m = 0
  · subst h0
    obtain rfl : cs = [] := List.eq_nil_of_length_eq_zero (by omega)
    refine zf ?_; refine zd (id := 0) ?_; refine za (ze rfl rfl rfl) rfl ?_; refine zg ?_; refine zi ?_; refine zf ?_; refine zd (id := 1) ?_; refine za (zb rfl rfl rfl) rfl ?_; refine za (ok_call L rfl rfl (zh rfl) rfl rfl rfl SlV.mono (fun u H hH hle _ => hc hH hle)) rfl ?_; refine za (ok_assigns' rfl rfl rfl) rfl ?_; refine zg ?_; refine zi ?_; refine zf ?_; refine zf ?_; refine zd (id := 2) ?_; refine za (qh rfl rfl rfl) rfl ?_; refine za (ye L rfl rfl rfl rfl) rfl ?_; refine za (qm rfl rfl rfl rfl (decide_eq_true (by omega))) rfl ?_; refine zg ?_; refine zi ?_; refine zy rfl ?_; refine zf ?_; refine zd (id := 3) ?_; refine za (ze rfl rfl rfl) rfl ?_; refine zg ?_; refine zi ?_
    refine V_nilE 2 tyP 2 rfl ?_
    exact V_retO rfl (fun _ _ h => h) Since.refl rfl
  · refine zf ?_; refine zd (id := 0) ?_; refine za (ze rfl rfl rfl) rfl ?_; refine zg ?_; refine zi ?_; refine zf ?_; refine zd (id := 1) ?_; refine za (zb rfl rfl rfl) rfl ?_; refine za (ok_call L rfl rfl (zh rfl) rfl rfl rfl SlV.mono (fun u H hH hle _ => hc hH hle)) rfl ?_; refine za (ok_assigns' rfl rfl rfl) rfl ?_; refine zg ?_; refine zi ?_; refine zf ?_; refine zf ?_; refine zd (id := 2) ?_; refine za (qh rfl rfl rfl) rfl ?_; refine za (ye L rfl rfl rfl rfl) rfl ?_; refine za (qm rfl rfl rfl rfl (decide_eq_false (by omega))) rfl ?_; refine zg ?_; refine zi ?_; refine zq rfl ?_; refine zx ?_; refine zi ?_; refine zf ?_; refine zd (id := 4) ?_; refine za (qh rfl rfl rfl) rfl ?_; refine za (ye L rfl rfl rfl rfl) rfl ?_; refine za (ok_makeN L m rfl rfl rfl el74 rfl rfl rfl rfl (by omega) (by unfold maxLen; omega)) rfl ?_; refine ql (ok_moveO (.inr rfl) rfl rfl rfl rfl) ?_; refine zg ?_; refine zi ?_; refine zf ?_
    refine V_holdE 4 901 (by omega) rfl fun b hzl => ?_
    refine zd (id := 5) ?_; refine za (zb rfl rfl rfl) rfl ?_; refine za (qh rfl rfl rfl) rfl ?_; refine ql (ok_copyH L (q := 901) (by omega) rfl rfl rfl rfl (apd_V rfl) rfl el74 hzl hlen hpl) ?_; refine zg ?_; refine zi ?_; refine zf ?_; refine zd (id := 6) ?_; refine za (zb rfl rfl rfl) rfl ?_; refine za (ze rfl rfl rfl) rfl ?_; refine zg ?_; refine zi ?_
    refine V_relE 2 901 rfl rfl hlen (by unfold maxLen; omega) ?_
    exact V_retO rfl (fun _ _ h => h) Since.refl rfl
end Go.V.L39
namespace Go.V
open Go.RowKit
def MiE {V : Type} (kd : IntKind) (vc : V → Value) (l : List (Int × V)) (es : List MapEntry) : Prop := es.map (fun e => (e.key, e.val)) = l.map fun p => (Value.int kd p.1, vc p.2)
section
variable {P : Program} {V : Type} {kd : IntKind} {vc : V → Value} {l : List (Int × V)} {t kt et : TypeId}
theorem mie_cons {p : Int × V} {l : List (Int × V)} {es : List MapEntry} (h : MiE kd vc (p :: l) es) : ∃ e r, es = e :: r ∧ e.key = .int kd p.1 ∧ e.val = vc p.2 ∧ MiE kd vc l r := by
  unfold MiE at h
  cases es with
  | nil => simp at h
  | cons e r =>
    simp at h
    exact ⟨e, r, rfl, h.1.1, h.1.2, h.2⟩
theorem findNow_I (k : Int) : ∀ (l : List (Int × V)) (es : List MapEntry) (i : Nat), MiE kd vc l es → Instr.findNow (.int kd) (.int kd k) es i = some ((mfind k l i).map fun p => (p.1, vc p.2))
  | [], es, i, h => by
    have : es = [] := by simpa [MiE] using h
    subst this; rfl
  | p :: l, es, i, h => by
    obtain ⟨e, r, rfl, h1, h2, h3⟩ := mie_cons h
    rw [Instr.findNow, mfind, h1]
    simp only [Instr.sameNow, if_true]
    by_cases hkp : k = p.1
    · rw [if_pos hkp, beq_iff_eq.2 hkp, h2]; rfl
    · rw [if_neg hkp, beq_false_of_ne hkp]
      exact findNow_I k l r (i + 1) h3
theorem run_findKeyI (hk : P.underlying kt = some (.int kd)) (k : Int) (w : World) (l : List (Int × V)) (es : List MapEntry) (h : MiE kd vc l es) :
    (Instr.findKey kt (.int kd k) es).run P w = .ok ((mfind k l 0).map fun p => (p.1, vc p.2)) w := by
  unfold Instr.findKey
  simp only [Sem.run_bind, run_underlying hk, Result.andThen_ok, findNow_I k l es 0 h, Sem.run_pure]
theorem run_checkKeyI (hk : P.underlying kt = some (.int kd)) (k : Int) (em : Bool) (w : World) : (Instr.checkKey em 10000 kt (.int kd k)).run P w = .ok () w := by
  rw [Instr.checkKey]
  simp only [Sem.run_bind, run_underlying hk, Result.andThen_ok]
  rfl
theorem run_lookupI (ht : P.underlying t = some (.map kt et)) (hk : P.underlying kt = some (.int kd)) {b : Nat} {es : Array MapEntry} {ck : Nat} {u : World} (hb : u.heap[b]? = some (.map es ck)) (he : MiE kd vc l es.toList) (k : Int) {z : Value}
    (hz : (zeroValue et).run P u = .ok z u) : (Instr.lookup t (.map (some b)) (.int kd k) false).run P u = .ok ((mget k l).elim z vc) u := by
  unfold Instr.lookup
  have hf := run_findKeyI hk k u l es.toList he
  simp only [Sem.run_bind, run_underlying ht, Result.andThen_ok, MapKept.run_getObj_map hb, Sem.run_pure, run_checkKeyI hk k, hf]
  unfold mget
  cases mfind k l 0 with
  | none => simp [hz]
  | some p => simp
theorem mi_modify (k : Int) (v : V) : ∀ (l : List (Int × V)) (es : List MapEntry) (i j : Nat) (x : V), MiE kd vc l es → mfind k l i = some (j, x) →
    MiE kd vc (mput k v l) (es.modify (j - i) fun e => { e with key := .int kd k, val := vc v })
  | [], _, _, _, _, _, h => by cases h
  | p :: l, es, i, j, x, he, h => by
    obtain ⟨e, r, rfl, h1, h2, h3⟩ := mie_cons he
    unfold mfind at h
    rw [mput]
    split at h
    · rename_i hk
      cases h
      rw [if_pos hk, Nat.sub_self]
      unfold MiE at h3 ⊢
      subst hk
      simpa using h3
    · rename_i hk
      rw [if_neg hk]
      obtain ⟨n, hn, _⟩ := mfind_get h
      have ih := mi_modify k v l r (i + 1) j x h3 h
      have e1 : j - i = (j - (i + 1)) + 1 := by omega
      rw [e1]
      unfold MiE at ih ⊢
      simp [h1, h2]
      exact ih
theorem run_mapUpdateI (ht : P.underlying t = some (.map kt et)) (hk : P.underlying kt = some (.int kd)) {b : Nat} {es : Array MapEntry} {ck : Nat} {u : World} (hb : u.heap[b]? = some (.map es ck)) (he : MiE kd vc l es.toList) (k : Int) (v : V) :
    ∃ es' ck', (Instr.mapUpdate t (.map (some b)) (.int kd k) (vc v)).run P u = .ok () (u.putObj b (.map es' ck')) ∧ MiE kd vc (mput k v l) es'.toList := by
  have hf := run_findKeyI hk k u l es.toList he
  cases hm : mfind k l 0 with
  | none =>
    refine ⟨es.push { key := .int kd k, val := vc v, born := ck }, ck + 1, ?_, ?_⟩
    · unfold Instr.mapUpdate
      rw [hm] at hf
      simp only [Sem.run_bind, run_underlying ht, Result.andThen_ok, MapKept.run_getObj_map hb, Sem.run_pure, run_checkKeyI hk k, hf, Option.map_none]
      simp [setObj, Sem.run, hb, World.putObj, Result.andThen]
    · rw [mput_none hm]
      unfold MiE at he ⊢
      simp [he]
  | some q =>
    obtain ⟨j, x⟩ := q
    refine ⟨es.modify j fun e => { e with key := .int kd k, val := vc v }, ck, ?_, ?_⟩
    · obtain ⟨n, hn, hx⟩ := mfind_get hm
      have hn' : j = n := by omega
      subst hn'
      have hkey : ((es[j]?).map (·.key)).getD (.int kd k) = .int kd k := by
        have h2 := congrArg (·[j]?) he
        simp only [List.getElem?_map, hx, Option.map_some] at h2
        rw [← Array.getElem?_toList]
        cases hz : es.toList[j]? with
        | none => rfl
        | some e =>
          rw [hz] at h2
          simp at h2
          simpa using h2.1
      unfold Instr.mapUpdate
      rw [hm] at hf
      simp only [Sem.run_bind, run_underlying ht, Result.andThen_ok, MapKept.run_getObj_map hb, Sem.run_pure, run_checkKeyI hk k, hf, Option.map_some, hkey]
      unfold Instr.keyThatStays
      rw [if_pos (show Instr.sameBits 10000 (.int kd k) (.int kd k) = true by simp [Instr.sameBits])]
      simp [setObj, Sem.run, hb, World.putObj, Result.andThen]
    · have := mi_modify k v l es.toList 0 j x he hm
      simpa using this
end
def MapRi {V : Type} (kd : IntKind) (vc : V → Value) (l : List (Int × V)) : Res where
  P x _ u C := ∃ b, x = .map (some b) ∧ (∃ es ck, u.heap[b]? = some (.map es ck) ∧ MiE kd vc l es.toList) ∧ ∀ k, C k ↔ k = b
  st := fun ⟨b, hx, ⟨es, ck, hb, he⟩, hC⟩ _ _ _ hk => ⟨b, hx, ⟨es, ck, (hk b ((hC b).2 rfl)).trans hb, he⟩, hC⟩
def MapHi {V : Type} (b : Nat) (kd : IntKind) (vc : V → Value) (l : List (Int × V)) : Res where
  P _ _ u C := (∃ es ck, u.heap[b]? = some (.map es ck) ∧ MiE kd vc l es.toList) ∧ ∀ k, C k ↔ k = b
  st := fun ⟨⟨es, ck, hb, he⟩, hC⟩ _ _ _ hk => ⟨⟨es, ck, (hk b ((hC b).2 rfl)).trans hb, he⟩, hC⟩
section
variable {P : Program} {F : Fr} {B : Heap} {O : Boxes} {n : Nat} {ops : Array Oper} {κ : Kap} {d : Nat} {ty : TypeId} {pos : String} {aft : Array Edge} {g : Option (Nat × Bool)} {a : Act} {u : World} {H : Heap} {os : List Oper} {Q : Exit → Act → World → Prop} {ex : Exs}
variable {Y : Type} {kd : IntKind} {vc : Y → Value} {l : List (Int × Y)}
theorem Has.holdMi {t q : Nat} (hk : κ t = some (.own (MapRi kd vc l))) (h : Has F B O n κ a u) : ∃ b, Has F B O n (upd (upd (upd κ t nilK) q (.own (MapHi b kd vc l))) t (.is (.map (some b)))) a u := by
  obtain ⟨H, fp, h⟩ := h
  obtain ⟨⟨b, hv, hb, hC⟩, hM⟩ := h.slot t _ hk
  have h2 := h.usePut (d := q) (a' := a) (r' := MapHi b kd vc l) (C := fp t) hk ⟨Keep.refl _ _, h.sub, Heap.Le.refl _, fun _ _ _ => rfl⟩ rfl rfl (fun _ _ => rfl) ⟨hb, hC⟩ fun k hk => ⟨.inl hk, (hM k hk).1, (hM k hk).2.1⟩
  have h3 := h2.name t
  rw [hv] at h3
  exact ⟨b, H, _, h3⟩
theorem V_holdMi (t q : Nat) {c : Code} (hk : κ t = some (.own (MapRi kd vc l))) (h : ∀ b, V P F B n O (upd (upd (upd κ t nilK) q (.own (MapHi b kd vc l))) t (.is (.map (some b)))) c Q) : V P F B n O κ c Q := fun a u hh => let ⟨b, h'⟩ := hh.holdMi (q := q) hk; h b a u h'
theorem ok_makeMapI (kd : IntKind) (vc : Y → Value) {t : TypeId} (hn : Nat.blt d n = true) (hg : gK ops κ ⟨some d, .makeMap t none, ty, pos, aft, g⟩ = some true) :
    StepOK P F B n ops O κ ⟨some d, .makeMap t none, ty, pos, aft, g⟩ d (.own (MapRi kd vc [])) := by
  rintro κ' a u hl ⟨H, fp, hh⟩
  have hn : d < n := by simpa using hn
  unfold After
  rw [if_pos (wanted_gK hh hl hg)]
  have hrun : (execOp a.eval ⟨some d, .makeMap t none, ty, pos, aft, g⟩).run P u = .ok (.value (.map (some u.heap.size))) (u.alloc (.map #[] 0)) := by
    simp [execOp, Instr.makeMap]
  rw [hrun]
  simp only [Upon]
  have hg2 := hh.grow (Grow.hid hh.sub (.map #[] 0))
  refine ⟨H, _, hg2.putR (C := fun k => k = u.heap.size) (by simp [Act.put]) rfl (fun t ht => eval_put_other ht) ⟨u.heap.size, eval_put_same (by rw [hh.size]; exact hn), ⟨_, _, heap_push_same _ _, rfl⟩, fun _ => Iff.rfl⟩ (fun k hk => ?_) fun t r' _ ht k hf hk => ?_⟩
  · subst hk
    exact ⟨size_of_heap (heap_push_same u _), none_of_ge hh.sub (Nat.le_refl _), .inl hh.keep.size, fun y hy e => by have := size_of_heap (hh.boxes y hy).1; omega⟩
  · have := ((hh.slot t _ ht).2 k hf).1
    omega
theorem ok_lookupI {x y : Operand} {q b : Nat} {t kt et : TypeId} (k : Int) {r z : Value} (ht : P.underlying t = some (.map kt et)) (hkt : P.underlying kt = some (.int kd)) (hz : ∀ w, (zeroValue et).run P w = .ok z w)
    (hx : evK κ x = some (.map (some b))) (hq : κ q = some (.own (MapHi b kd vc l))) (hy : evK κ y = some (.int kd k)) (hn : Nat.blt d n = true) (hg : gK ops κ ⟨some d, .lookup t x y false, ty, pos, aft, g⟩ = some true)
    (hr : (mget k l).elim z vc = r) :
    StepOKR P F B n ops O κ ⟨some d, .lookup t x y false, ty, pos, aft, g⟩ q d (.is r) := by
  rintro κ' a u hlk hqk ⟨H, fp, hh⟩
  subst hr
  unfold After
  rw [if_pos (wanted_gK hh hlk hg)]
  have e := hh.env hlk
  have h1 := e.is_ x _ (by simp [Op.operands]) hx
  have h2 := e.is_ y _ (by simp [Op.operands]) hy
  obtain ⟨⟨⟨es, ck, hb, he⟩, hC⟩, hM⟩ := hh.slot q _ (hqk.trans hq)
  have hrun : (execOp a.eval ⟨some d, .lookup t x y false, ty, pos, aft, g⟩).run P u = .ok (.value ((mget k l).elim z vc)) u := by
    simp only [execOp, h1, h2, Sem.run_bind, run_lookupI ht hkt hb he k (hz u), Result.andThen_ok]
    rfl
  rw [hrun]
  simp only [Upon]
  exact ⟨H, fp, hh.put (k := .is _) (zh hn) trivial rfl⟩
theorem ok_mapUpdI {x y z : Operand} {q b : Nat} {t kt et : TypeId} (k : Int) (v : Y) {zv : Value} {l' : List (Int × Y)} (ht : P.underlying t = some (.map kt et)) (hkt : P.underlying kt = some (.int kd))
    (hx : evK κ x = some (.map (some b))) (hq : κ q = some (.own (MapHi b kd vc l))) (hy : evK κ y = some (.int kd k)) (hz : evK κ z = some zv) (hzv : vc v = zv) (hg : gK ops κ ⟨none, .mapUpdate t x y z, ty, pos, aft, g⟩ = some true)
    (hl' : mput k v l = l') :
    StepOKS P F B n ops O κ ⟨none, .mapUpdate t x y z, ty, pos, aft, g⟩ q (.own (MapHi b kd vc l')) := by
  rintro κ' a u hlk hqk ⟨H, fp, hh⟩
  subst hl' hzv
  unfold After
  rw [if_pos (wanted_gK hh hlk hg)]
  have e := hh.env hlk
  have h1 := e.is_ x _ (by simp [Op.operands]) hx
  have h2 := e.is_ y _ (by simp [Op.operands]) hy
  have h3 := e.is_ z _ (by simp [Op.operands]) hz
  have hqs := hqk.trans hq
  obtain ⟨⟨⟨es, ck, hb, he⟩, hC⟩, hM⟩ := hh.slot q _ hqs
  obtain ⟨es', ck', hr, he'⟩ := run_mapUpdateI ht hkt hb he k v
  have hrun : (execOp a.eval ⟨none, .mapUpdate t x y z, ty, pos, aft, g⟩).run P u = .ok .skip (u.putObj b (.map es' ck')) := by
    simp only [execOp, h1, h2, h3, Sem.run_bind, hr, Result.andThen_ok]
    rfl
  rw [hrun]
  simp only [Upon, Act.put]
  have hbm := hM b ((hC b).2 rfl)
  have := hh.usePut (d := q) (a' := a) (r' := MapHi b kd vc (mput k v l)) (C := fun k => k = b) hqs (grow_putObj hh.sub ((hC b).2 rfl) hbm.2.1) rfl rfl (fun _ _ => rfl) ⟨⟨es', ck', World.putObj_heap_same hbm.1, he'⟩, fun _ => Iff.rfl⟩ (fun k hk => by
    subst hk; exact ⟨.inl ((hC k).2 rfl), by rw [World.putObj_size]; exact hbm.1, hbm.2.1⟩)
  rw [upd_upd] at this
  exact ⟨H, _, this⟩
end
end Go.V
namespace Go.V.So
open Go.Proofs Go.RowKit Go.V Go.Sort
abbrev lt : Int → Int → Bool := ltInt
abbrev tyU : TypeId := 31
attribute [local irreducible] V N X VO Par StepOK Has Ret RetL RetO RetG RetX Src
theorem isnanU (a : Int) {w : World} {B : Heap} (hB : B.Le (hp w)) : Ret Try.prog 110 [.int .u64 a] w B (fun v _ => v = .bool false) := by
  refine ya Try.func110 rfl Try.ntmps110 (Nat.le_of_ble_eq_true rfl) hB ?_
  refine zf ?_; refine zd (id := 0) ?_; refine za (ze rfl rfl rfl) rfl ?_; refine zg ?_; refine zi ?_; refine zf ?_; refine zd (id := 1) ?_; refine za (zb rfl rfl rfl) rfl ?_; refine za (zb rfl rfl rfl) rfl ?_; refine za (qe rfl rfl rfl rfl (decide_eq_false (by omega))) rfl ?_; refine za (ze rfl rfl rfl) rfl ?_; refine zg ?_; refine zi ?_
  refine qf L (rs := [.tmp 2]) rfl (fun _ _ h => h) Since.refl fun u H hH hle => ?_
  rfl
theorem lessU (a b : Int) {w : World} {B : Heap} (hB : B.Le (hp w)) : Ret Try.prog 95 [.int .u64 a, .int .u64 b] w B (fun v _ => v = .bool (lt a b)) := by
  unfold lt ltInt
  refine ya Try.func95 rfl Try.ntmps95 (Nat.le_of_ble_eq_true rfl) hB ?_
  by_cases h : a < b
  · rw [decide_eq_true h]
    refine zf ?_; refine zd (id := 0) ?_; refine za (ze rfl rfl rfl) rfl ?_; refine zg ?_; refine zi ?_; refine zf ?_; refine zd (id := 1) ?_; refine za (zb rfl rfl rfl) rfl ?_; refine za (zu L rfl rfl (zh rfl) rfl rfl rfl (fun u H hH _ _ => isnanU _ hH)) rfl ?_; refine za (zb rfl rfl rfl) rfl ?_; refine za (zj rfl (zh rfl) rfl) rfl ?_; refine za (zj rfl (zh rfl) rfl) rfl ?_; refine za (zj rfl (zh rfl) rfl) rfl ?_; refine za (zn rfl rfl rfl rfl) rfl ?_; refine za (zb rfl rfl rfl) rfl ?_; refine za (zb rfl rfl rfl) rfl ?_; refine za (zb rfl rfl rfl) rfl ?_; refine za (zz rfl rfl rfl rfl (decide_eq_true (by omega))) rfl ?_; refine za (zn rfl rfl rfl rfl) rfl ?_; refine za (ze rfl rfl rfl) rfl ?_; refine zg ?_; refine zi ?_
    refine qf L (rs := [.tmp 4]) rfl (fun _ _ h => h) Since.refl fun u H hH hle => ?_
    rfl
  · rw [decide_eq_false h]
    refine zf ?_; refine zd (id := 0) ?_; refine za (ze rfl rfl rfl) rfl ?_; refine zg ?_; refine zi ?_; refine zf ?_; refine zd (id := 1) ?_; refine za (zb rfl rfl rfl) rfl ?_; refine za (zu L rfl rfl (zh rfl) rfl rfl rfl (fun u H hH _ _ => isnanU _ hH)) rfl ?_; refine za (zb rfl rfl rfl) rfl ?_; refine za (zj rfl (zh rfl) rfl) rfl ?_; refine za (zj rfl (zh rfl) rfl) rfl ?_; refine za (zj rfl (zh rfl) rfl) rfl ?_; refine za (zn rfl rfl rfl rfl) rfl ?_; refine za (zb rfl rfl rfl) rfl ?_; refine za (zb rfl rfl rfl) rfl ?_; refine za (zb rfl rfl rfl) rfl ?_; refine za (zz rfl rfl rfl rfl (decide_eq_false (by omega))) rfl ?_; refine za (zn rfl rfl rfl rfl) rfl ?_; refine za (ze rfl rfl rfl) rfl ?_; refine zg ?_; refine zi ?_
    refine qf L (rs := [.tmp 4]) rfl (fun _ _ h => h) Since.refl fun u H hH hle => ?_
    rfl
theorem lessU' {a b : Int} {f : Bool} (h : lt a b = f) {w : World} {B : Heap} (hB : B.Le (hp w)) : Ret Try.prog 95 [.int .u64 a, .int .u64 b] w B (fun v _ => v = .bool f) := h ▸ lessU a b hB
set_option maxHeartbeats 1000000 in
set_option maxRecDepth 20000 in
theorem ins_ret {d : Array Int} {rest : List Value} {b m cap a e : Nat} (hab : a ≤ e) (he : e ≤ d.size) (hm : d.size = m) (hm1 : m ≤ 100000) {w : World} {B : Heap} {C : Nat → Prop} (hB : B.Le (hp w))
    (hr : (GHeld b (uC d ++ rest) tyU).P B w C) (hC : ∀ k, C k → k < w.heap.size ∧ B k = none) :
    RetG Try.prog 89 [.slice (some ⟨b, 0, none⟩) m cap, .int .i64 a, .int .i64 e] w B C (GHeld b (uC (insertionSort lt d a e) ++ rest) tyU) := by
  unfold RetG
  refine V_enterG 900 (GHeld b (uC d ++ rest) tyU) Try.func89 rfl Try.ntmps89 (Nat.le_of_ble_eq_true rfl) hB hr hC ?_
  rw [gheld_res]
  have hw0 : IntKind.i64.wrap ((a : Int) + 1) = ((a + 1 : Nat) : Int) := wrap_i64 (by omega) (by omega)
  refine zf ?_; refine zd (id := 0) ?_; refine za (zb rfl rfl rfl) rfl ?_; refine za (qb rfl rfl rfl rfl (by assumption)) rfl ?_; refine za (ze rfl rfl rfl) rfl ?_; refine zg ?_; refine zi ?_; refine q8 ?_
  refine yf (fun s : Nat × Array Int => [(0, .is (.slice (some ⟨b, 0, none⟩) m cap)), (1, .is (.int .i64 a)), (2, .is (.int .i64 e)), (6, .is (.int .i64 s.1)), (900, .own (HeldR b (uC s.2 ++ rest) tyU))]) (fun s => s.1 ≤ e + 1 ∧ a < s.1 ∧ s.2.size = m ∧ insOuter lt a e s.1 s.2 = insertionSort lt d a e) (fun s => e + 1 - s.1) (a + 1, d) ⟨by omega, by omega, hm, rfl⟩ ⟨rfl, rfl, rfl, rfl, rfl, trivial⟩ ?_
  rintro ⟨i, D⟩ ⟨hi, hai, hD, hO⟩
  dsimp only at hi hai hD hO ⊢
  by_cases hlt : i < e
  · rw [insOuter, if_pos hlt] at hO
    refine zf ?_; refine zf ?_; refine zd (id := 1) ?_; refine za (zb rfl rfl rfl) rfl ?_; refine za (zb rfl rfl rfl) rfl ?_; refine za (zz rfl rfl rfl rfl (decide_eq_true (by omega))) rfl ?_; refine zg ?_; refine zi ?_; refine zy rfl ?_; refine zx ?_; refine zi ?_; refine zf ?_; refine q8 ?_; refine zf ?_; refine zd (id := 3) ?_; refine za (zb rfl rfl rfl) rfl ?_; refine za (ze rfl rfl rfl) rfl ?_; refine zg ?_; refine zi ?_; refine q8 ?_
    refine yf (fun t : Nat × Array Int => [(0, .is (.slice (some ⟨b, 0, none⟩) m cap)), (1, .is (.int .i64 a)), (2, .is (.int .i64 e)), (6, .is (.int .i64 i)), (7, .is (.int .i64 t.1)), (900, .own (HeldR b (uC t.2 ++ rest) tyU))]) (fun t => t.1 ≤ i ∧ t.2.size = m ∧ insInner lt a t.1 t.2 = insInner lt a i D) (fun t => t.1) (i, D) ⟨Nat.le_refl _, hD, rfl⟩ ⟨rfl, rfl, rfl, rfl, rfl, rfl, trivial⟩ ?_
    rintro ⟨j, E⟩ ⟨hj, hE, hI⟩
    dsimp only at hj hE hI ⊢
    rcases j with _ | j
    · rw [insInner] at hI
      rw [hI]
      refine zf ?_; refine zf ?_; refine q9 (id := 4) [] mixed (by kernel_rfl) ?_; refine zc (zb rfl rfl rfl) rfl ?_; refine zc (zb rfl rfl rfl) rfl ?_; refine zc (qo rfl rfl rfl rfl (decide_eq_false (by omega))) rfl ?_; refine zc (zb rfl rfl rfl) rfl ?_; refine zc (zj rfl (zh rfl) rfl) rfl ?_; refine zc (zj rfl (zh rfl) rfl) rfl ?_; refine zc (zj rfl (zh rfl) rfl) rfl ?_; refine zc (zj rfl (zh rfl) rfl) rfl ?_; refine zc (zj rfl (zh rfl) rfl) rfl ?_; refine zc (zj rfl (zh rfl) rfl) rfl ?_; refine zc (zj rfl (zh rfl) rfl) rfl ?_; refine zc (zj rfl (zh rfl) rfl) rfl ?_; refine zc (zj rfl (zh rfl) rfl) rfl ?_; refine zc (zj rfl (zh rfl) rfl) rfl ?_; refine zc (zn rfl rfl rfl rfl) rfl ?_; refine qg ?_; refine zi ?_; refine zq rfl ?_; refine y6 ?_; refine qd ?_; refine qd ?_; refine y4 ?_; refine qp ?_; refine zi ?_; refine zd (id := 2) ?_; refine za (zb rfl rfl rfl) rfl ?_; refine za (qb rfl rfl rfl rfl (wrap_i64 (by omega) (by omega))) rfl ?_; refine za (ze rfl rfl rfl) rfl ?_; refine zg ?_
      exact qw (x := (i, D)) (i + 1, insInner lt a i D) ⟨by dsimp only; omega, by dsimp only; omega, by dsimp only; rw [← hI]; exact hE, hO⟩ (by dsimp only; omega) ⟨rfl, rfl, rfl, rfl, rfl, trivial⟩
    · by_cases hja : a < j + 1
      · have hw1 : IntKind.i64.wrap (((j + 1 : Nat) : Int) - 1) = (j : Int) := wrap_i64 (by omega) (by omega) |>.trans (by omega)
        obtain ⟨r1, q1⟩ := u_at (rest := rest) (show j + 1 < E.size by omega) (0 + (j + 1) * 1) rfl
        obtain ⟨r2, q2⟩ := u_at (rest := rest) (show j < E.size by omega) (0 + j * 1) rfl
        cases hc : lt E[j + 1]! E[j]! with
        | true =>
          rw [insInner, if_pos (by rw [hc]; simp; omega)] at hI
          have s1 := u_set (rest := rest) E[j]! (show j + 1 < E.size by omega) (0 + (j + 1) * 1) rfl
          have b1 := u_ble (rest := rest) (show j + 1 < E.size by omega) (0 + (j + 1) * 1) rfl
          have hz : j < (E.setIfInBounds (j + 1) E[j]!).size := by rw [Array.size_setIfInBounds]; omega
          have s2 := u_set (rest := rest) E[j + 1]! hz (0 + j * 1) rfl
          have b2 := u_ble (rest := rest) hz (0 + j * 1) rfl
          rw [swp_eq] at s2
          refine zf ?_; refine zf ?_; refine q9 (id := 4) [(200023, [900]), (200028, [900])] mixed (by kernel_rfl) ?_; refine zc (zb rfl rfl rfl) rfl ?_; refine zc (zb rfl rfl rfl) rfl ?_; refine zc (qo rfl rfl rfl rfl (decide_eq_true (by omega))) rfl ?_; refine zc (zb rfl rfl rfl) rfl ?_; refine zc (zb rfl rfl rfl) rfl ?_; refine zc (zb rfl rfl rfl) rfl ?_; refine zc (zp L _ rfl rfl rfl rfl rfl rfl rfl (by omega)) rfl ?_; refine q0 (zw L (q := 900) rfl rfl rfl rfl rfl q1) rfl rfl ?_; refine zc (zb rfl rfl rfl) rfl ?_; refine zc (zb rfl rfl rfl) rfl ?_; refine zc (qy rfl rfl rfl rfl (by assumption)) rfl ?_; refine zc (zp L _ rfl rfl rfl rfl rfl rfl rfl (by omega)) rfl ?_; refine q0 (zw L (q := 900) rfl rfl rfl rfl rfl q2) rfl rfl ?_; refine zc (zu L rfl rfl (zh rfl) rfl rfl rfl (fun u H hH _ _ => lessU' hc hH)) rfl ?_; refine zc (zn rfl rfl rfl rfl) rfl ?_; refine qg ?_; refine zi ?_; refine zy rfl ?_; refine zx ?_; refine zi ?_; refine zf ?_; refine q8 ?_; refine q9 (id := 6) [(200042, [900]), (200046, [900]), (100047, [900]), (100048, [900])] mixed (by kernel_rfl) ?_; refine zc (zb rfl rfl rfl) rfl ?_; refine zc (zb rfl rfl rfl) rfl ?_; refine zc (zb rfl rfl rfl) rfl ?_; refine zc (zb rfl rfl rfl) rfl ?_; refine zc (qy rfl rfl rfl rfl (by assumption)) rfl ?_; refine zc (zb rfl rfl rfl) rfl ?_; refine zc (zb rfl rfl rfl) rfl ?_; refine zc (qy rfl rfl rfl rfl (by assumption)) rfl ?_; refine zc (zp L _ rfl rfl rfl rfl rfl rfl rfl (by omega)) rfl ?_; refine q0 (zw L (q := 900) rfl rfl rfl rfl rfl q2) rfl rfl ?_; refine zc (zb rfl rfl rfl) rfl ?_; refine zc (zb rfl rfl rfl) rfl ?_; refine zc (zp L _ rfl rfl rfl rfl rfl rfl rfl (by omega)) rfl ?_; refine q0 (zw L (q := 900) rfl rfl rfl rfl rfl q1) rfl rfl ?_; refine zc (zp L _ rfl rfl rfl rfl rfl rfl rfl (by omega)) rfl ?_; refine y7 (qv L (q := 900) rfl rfl rfl rfl rfl rfl b1 rfl s1) rfl ?_; refine zc (zp L _ rfl rfl rfl rfl rfl rfl rfl (by omega)) rfl ?_; refine y7 (qv L (q := 900) rfl rfl rfl rfl rfl rfl b2 rfl s2) rfl ?_; refine qg ?_; refine qp ?_; refine zi ?_; refine zd (id := 5) ?_; refine za (zb rfl rfl rfl) rfl ?_; refine za (qy rfl rfl rfl rfl (by assumption)) rfl ?_; refine za (ze rfl rfl rfl) rfl ?_; refine zg ?_
          exact qw (x := (j + 1, E)) (j, swp E (j + 1) j) ⟨by dsimp only; omega, by dsimp only; rw [swp_size]; exact hE, hI⟩ (by dsimp only; omega) ⟨rfl, rfl, rfl, rfl, rfl, rfl, trivial⟩
        | false =>
          rw [insInner, if_neg (by rw [hc]; simp)] at hI
          refine zf ?_; refine zf ?_; refine q9 (id := 4) [(200023, [900]), (200028, [900])] mixed (by kernel_rfl) ?_; refine zc (zb rfl rfl rfl) rfl ?_; refine zc (zb rfl rfl rfl) rfl ?_; refine zc (qo rfl rfl rfl rfl (decide_eq_true (by omega))) rfl ?_; refine zc (zb rfl rfl rfl) rfl ?_; refine zc (zb rfl rfl rfl) rfl ?_; refine zc (zb rfl rfl rfl) rfl ?_; refine zc (zp L _ rfl rfl rfl rfl rfl rfl rfl (by omega)) rfl ?_; refine q0 (zw L (q := 900) rfl rfl rfl rfl rfl q1) rfl rfl ?_; refine zc (zb rfl rfl rfl) rfl ?_; refine zc (zb rfl rfl rfl) rfl ?_; refine zc (qy rfl rfl rfl rfl (by assumption)) rfl ?_; refine zc (zp L _ rfl rfl rfl rfl rfl rfl rfl (by omega)) rfl ?_; refine q0 (zw L (q := 900) rfl rfl rfl rfl rfl q2) rfl rfl ?_; refine zc (zu L rfl rfl (zh rfl) rfl rfl rfl (fun u H hH _ _ => lessU' hc hH)) rfl ?_; refine zc (zn rfl rfl rfl rfl) rfl ?_; refine qg ?_; refine zi ?_; refine zq rfl ?_; refine y6 ?_; refine qd ?_; refine qd ?_; refine y4 ?_; refine qp ?_; refine zi ?_
          rw [hI]
          refine zd (id := 2) ?_; refine za (zb rfl rfl rfl) rfl ?_; refine za (qb rfl rfl rfl rfl (wrap_i64 (by omega) (by omega))) rfl ?_; refine za (ze rfl rfl rfl) rfl ?_; refine zg ?_
          exact qw (x := (i, D)) (i + 1, insInner lt a i D) ⟨by dsimp only; omega, by dsimp only; omega, by dsimp only; rw [← hI]; exact hE, hO⟩ (by dsimp only; omega) ⟨rfl, rfl, rfl, rfl, rfl, trivial⟩
      · rw [insInner, if_neg (by simp; omega)] at hI
        rw [hI]
        refine zf ?_; refine zf ?_; refine q9 (id := 4) [] mixed (by kernel_rfl) ?_; refine zc (zb rfl rfl rfl) rfl ?_; refine zc (zb rfl rfl rfl) rfl ?_; refine zc (qo rfl rfl rfl rfl (decide_eq_false (by omega))) rfl ?_; refine zc (zb rfl rfl rfl) rfl ?_; refine zc (zj rfl (zh rfl) rfl) rfl ?_; refine zc (zj rfl (zh rfl) rfl) rfl ?_; refine zc (zj rfl (zh rfl) rfl) rfl ?_; refine zc (zj rfl (zh rfl) rfl) rfl ?_; refine zc (zj rfl (zh rfl) rfl) rfl ?_; refine zc (zj rfl (zh rfl) rfl) rfl ?_; refine zc (zj rfl (zh rfl) rfl) rfl ?_; refine zc (zj rfl (zh rfl) rfl) rfl ?_; refine zc (zj rfl (zh rfl) rfl) rfl ?_; refine zc (zj rfl (zh rfl) rfl) rfl ?_; refine zc (zn rfl rfl rfl rfl) rfl ?_; refine qg ?_; refine zi ?_; refine zq rfl ?_; refine y6 ?_; refine qd ?_; refine qd ?_; refine y4 ?_; refine qp ?_; refine zi ?_; refine zd (id := 2) ?_; refine za (zb rfl rfl rfl) rfl ?_; refine za (qb rfl rfl rfl rfl (wrap_i64 (by omega) (by omega))) rfl ?_; refine za (ze rfl rfl rfl) rfl ?_; refine zg ?_
        exact qw (x := (i, D)) (i + 1, insInner lt a i D) ⟨by dsimp only; omega, by dsimp only; omega, by dsimp only; rw [← hI]; exact hE, hO⟩ (by dsimp only; omega) ⟨rfl, rfl, rfl, rfl, rfl, trivial⟩
  · rw [insOuter, if_neg hlt] at hO
    subst hO
    refine zf ?_; refine zf ?_; refine zd (id := 1) ?_; refine za (zb rfl rfl rfl) rfl ?_; refine za (zb rfl rfl rfl) rfl ?_; refine za (zz rfl rfl rfl rfl (decide_eq_false (by omega))) rfl ?_; refine zg ?_; refine zi ?_; refine zq rfl ?_; refine y6 ?_; refine qd ?_; refine qd ?_; refine y4 ?_
    exact N_retGhost L 900 (r := GHeld b _ tyU) rfl (fun _ _ h => h) Since.refl rfl rfl
end Go.V.So
namespace Go.V.So
open Go.Proofs Go.RowKit Go.V Go.Sort
attribute [local irreducible] V N X VO Par StepOK Has Ret RetL RetO RetG RetX Src
set_option maxHeartbeats 1000000 in
set_option maxRecDepth 20000 in
theorem rev_ret {d : Array Int} {rest : List Value} {b m cap a e : Nat} (hab : a < e) (he : e ≤ d.size) (hm : d.size = m) (hm1 : m ≤ 100000) {w : World} {B : Heap} {C : Nat → Prop} (hB : B.Le (hp w))
    (hr : (GHeld b (uC d ++ rest) tyU).P B w C) (hC : ∀ k, C k → k < w.heap.size ∧ B k = none) :
    RetG Try.prog 93 [.slice (some ⟨b, 0, none⟩) m cap, .int .i64 a, .int .i64 e] w B C (GHeld b (uC (reverseRange d a e) ++ rest) tyU) := by
  unfold RetG
  refine V_enterG 900 (GHeld b (uC d ++ rest) tyU) Try.func93 rfl Try.ntmps93 (Nat.le_of_ble_eq_true rfl) hB hr hC ?_
  rw [gheld_res]
  have hw0 : IntKind.i64.wrap ((e : Int) - 1) = ((e - 1 : Nat) : Int) := wrap_i64 (by omega) (by omega) |>.trans (by omega)
  refine zf ?_; refine zd (id := 0) ?_; refine za (zb rfl rfl rfl) rfl ?_; refine za (ze rfl rfl rfl) rfl ?_; refine zg ?_; refine zi ?_; refine zf ?_; refine zd (id := 1) ?_; refine za (zb rfl rfl rfl) rfl ?_; refine za (qy rfl rfl rfl rfl (by assumption)) rfl ?_; refine za (ze rfl rfl rfl) rfl ?_; refine zg ?_; refine zi ?_; refine q8 ?_
  refine yf (fun s : (Nat × Nat) × Array Int => [(0, .is (.slice (some ⟨b, 0, none⟩) m cap)), (6, .is (.int .i64 s.1.1)), (7, .is (.int .i64 s.1.2)), (900, .own (HeldR b (uC s.2 ++ rest) tyU))]) (fun s => s.1.1 ≤ m ∧ s.1.2 < m ∧ s.2.size = m ∧ reverseLoop s.1.1 s.1.2 s.2 = reverseRange d a e) (fun s => s.1.2 - s.1.1) ((a, e - 1), d) ⟨by dsimp only; omega, by dsimp only; omega, hm, rfl⟩ ⟨rfl, rfl, rfl, rfl, trivial⟩ ?_
  rintro ⟨⟨i, j⟩, E⟩ ⟨hi, hj, hE, hO⟩
  dsimp only at hi hj hE hO ⊢
  by_cases hlt : i < j
  · rw [reverseLoop, if_pos hlt] at hO
    have hw1 : IntKind.i64.wrap ((i : Int) + 1) = ((i + 1 : Nat) : Int) := wrap_i64 (by omega) (by omega)
    have hw2 : IntKind.i64.wrap ((j : Int) - 1) = ((j - 1 : Nat) : Int) := wrap_i64 (by omega) (by omega) |>.trans (by omega)
    obtain ⟨_, qj⟩ := u_at (rest := rest) (show j < E.size by omega) (0 + (j) * 1) rfl
    obtain ⟨_, qi⟩ := u_at (rest := rest) (show i < E.size by omega) (0 + (i) * 1) rfl
    have s1 := u_set (rest := rest) E[j]! (show i < E.size by omega) (0 + (i) * 1) rfl
    have b1 := u_ble (rest := rest) (show i < E.size by omega) (0 + (i) * 1) rfl
    have hz : j < (E.setIfInBounds (i) E[j]!).size := by rw [Array.size_setIfInBounds]; omega
    have s2 := u_set (rest := rest) E[i]! hz (0 + (j) * 1) rfl
    have b2 := u_ble (rest := rest) hz (0 + (j) * 1) rfl
    rw [swp_eq] at s2
    refine zf ?_; refine zf ?_; refine zd (id := 2) ?_; refine za (zb rfl rfl rfl) rfl ?_; refine za (zb rfl rfl rfl) rfl ?_; refine za (zz rfl rfl rfl rfl (decide_eq_true (by omega))) rfl ?_; refine zg ?_; refine zi ?_; refine zy rfl ?_; refine zx ?_; refine zi ?_; refine q8 ?_; refine zf ?_; refine q9 (id := 3) [(200021, [900]), (200025, [900]), (100026, [900]), (100027, [900])] mixed (by kernel_rfl) ?_; refine zc (zb rfl rfl rfl) rfl ?_; refine zc (zb rfl rfl rfl) rfl ?_; refine zc (zb rfl rfl rfl) rfl ?_; refine zc (zb rfl rfl rfl) rfl ?_; refine zc (zb rfl rfl rfl) rfl ?_; refine zc (zb rfl rfl rfl) rfl ?_; refine zc (zp L _ rfl rfl rfl rfl rfl rfl rfl (by omega)) rfl ?_; refine q0 (zw L (q := 900) rfl rfl rfl rfl rfl qj) rfl rfl ?_; refine zc (zb rfl rfl rfl) rfl ?_; refine zc (zb rfl rfl rfl) rfl ?_; refine zc (zp L _ rfl rfl rfl rfl rfl rfl rfl (by omega)) rfl ?_; refine q0 (zw L (q := 900) rfl rfl rfl rfl rfl qi) rfl rfl ?_; refine zc (zp L _ rfl rfl rfl rfl rfl rfl rfl (by omega)) rfl ?_; refine y7 (qv L (q := 900) rfl rfl rfl rfl rfl rfl b1 rfl s1) rfl ?_; refine zc (zp L _ rfl rfl rfl rfl rfl rfl rfl (by omega)) rfl ?_; refine y7 (qv L (q := 900) rfl rfl rfl rfl rfl rfl b2 rfl s2) rfl ?_; refine qg ?_; refine zi ?_; refine zf ?_; refine zd (id := 4) ?_; refine za (zb rfl rfl rfl) rfl ?_; refine za (qb rfl rfl rfl rfl (by assumption)) rfl ?_; refine za (ze rfl rfl rfl) rfl ?_; refine zg ?_; refine zi ?_; refine zd (id := 5) ?_; refine za (zb rfl rfl rfl) rfl ?_; refine za (qy rfl rfl rfl rfl (by assumption)) rfl ?_; refine za (ze rfl rfl rfl) rfl ?_; refine zg ?_; refine qp ?_
    exact qw (x := ((i, j), E)) ((i + 1, j - 1), swp E i j) ⟨by dsimp only; omega, by dsimp only; omega, by dsimp only; rw [swp_size]; exact hE, hO⟩ (by dsimp only; omega) ⟨rfl, rfl, rfl, rfl, trivial⟩
  · rw [reverseLoop, if_neg hlt] at hO
    subst hO
    refine zf ?_; refine zf ?_; refine zd (id := 2) ?_; refine za (zb rfl rfl rfl) rfl ?_; refine za (zb rfl rfl rfl) rfl ?_; refine za (zz rfl rfl rfl rfl (decide_eq_false (by omega))) rfl ?_; refine zg ?_; refine zi ?_; refine zq rfl ?_; refine y6 ?_; refine qd ?_; refine qd ?_; refine y4 ?_
    exact N_retGhost L 900 (r := GHeld b _ tyU) rfl (fun _ _ h => h) Since.refl rfl rfl
set_option maxHeartbeats 1000000 in
set_option maxRecDepth 20000 in
theorem sift_ret {d : Array Int} {rest : List Value} {b m cap lo hi first : Nat} (hlo : lo ≤ hi) (hf : first + hi ≤ d.size) (hm : d.size = m) (hm1 : m ≤ 100000) {w : World} {B : Heap} {C : Nat → Prop} (hB : B.Le (hp w))
    (hr : (GHeld b (uC d ++ rest) tyU).P B w C) (hC : ∀ k, C k → k < w.heap.size ∧ B k = none) :
    RetG Try.prog 105 [.slice (some ⟨b, 0, none⟩) m cap, .int .i64 lo, .int .i64 hi, .int .i64 first] w B C (GHeld b (uC (siftDown lt hi first lo d) ++ rest) tyU) := by
  unfold RetG
  refine V_enterG 900 (GHeld b (uC d ++ rest) tyU) Try.func105 rfl Try.ntmps105 (Nat.le_of_ble_eq_true rfl) hB hr hC ?_
  rw [gheld_res]
  refine zf ?_; refine zd (id := 0) ?_; refine za (zb rfl rfl rfl) rfl ?_; refine za (ze rfl rfl rfl) rfl ?_; refine zg ?_; refine zi ?_; refine q8 ?_
  refine yf (fun s : Nat × Array Int => [(0, .is (.slice (some ⟨b, 0, none⟩) m cap)), (2, .is (.int .i64 hi)), (3, .is (.int .i64 first)), (8, .is (.int .i64 s.1)), (900, .own (HeldR b (uC s.2 ++ rest) tyU))]) (fun s => s.1 ≤ hi ∧ s.2.size = m ∧ siftDown lt hi first s.1 s.2 = siftDown lt hi first lo d) (fun s => hi - s.1) (lo, d) ⟨hlo, hm, rfl⟩ ⟨rfl, rfl, rfl, rfl, rfl, trivial⟩ ?_
  rintro ⟨r, E⟩ ⟨hr0, hE, hO⟩
  dsimp only at hr0 hE hO ⊢
  have hw1 : IntKind.i64.wrap (2 * (r : Int)) = ((2 * r : Nat) : Int) := wrap_i64 (by omega) (by omega) |>.trans (by omega)
  have hw2 : IntKind.i64.wrap (((2 * r : Nat) : Int) + 1) = ((2 * r + 1 : Nat) : Int) := wrap_i64 (by omega) (by omega)
  by_cases hend : hi ≤ 2 * r + 1
  · rw [siftDown, dif_pos (by omega)] at hO
    subst hO
    refine q8 ?_; refine zf ?_; refine zd (id := 1) ?_; refine za (zb rfl rfl rfl) rfl ?_; refine za (ok_mul rfl rfl rfl rfl (wrap_i64 (by omega) (by omega))) rfl ?_; refine za (qb rfl rfl rfl rfl (by assumption)) rfl ?_; refine za (ze rfl rfl rfl) rfl ?_; refine zg ?_; refine zi ?_; refine zf ?_; refine zf ?_; refine zd (id := 2) ?_; refine za (zb rfl rfl rfl) rfl ?_; refine za (zb rfl rfl rfl) rfl ?_; refine za (yb rfl rfl rfl rfl (decide_eq_true (by omega))) rfl ?_; refine zg ?_; refine zi ?_; refine zy rfl ?_; refine y6 ?_; refine qd ?_; refine X_there rfl ?_; refine qd ?_; refine y4 ?_
    exact N_retGhost L 900 (r := GHeld b _ tyU) rfl (fun _ _ h => h) Since.refl rfl rfl
  · rw [siftDown, dif_neg (by omega)] at hO
    have hw3 : IntKind.i64.wrap (((2 * r + 1 : Nat) : Int) + 1) = ((2 * r + 2 : Nat) : Int) := wrap_i64 (by omega) (by omega)
    have hw4 : IntKind.i64.wrap ((first : Int) + ((2 * r + 1 : Nat) : Int)) = ((first + (2 * r + 1) : Nat) : Int) := wrap_i64 (by omega) (by omega)
    have hw5 : IntKind.i64.wrap (((first + (2 * r + 1) : Nat) : Int) + 1) = ((first + (2 * r + 2) : Nat) : Int) := wrap_i64 (by omega) (by omega)
    have hw6 : IntKind.i64.wrap ((first : Int) + (r : Int)) = ((first + r : Nat) : Int) := wrap_i64 (by omega) (by omega)
    have hw7 : IntKind.i64.wrap ((first : Int) + ((2 * r + 2 : Nat) : Int)) = ((first + (2 * r + 2) : Nat) : Int) := wrap_i64 (by omega) (by omega)
    obtain ⟨_, qr⟩ := u_at (rest := rest) (show first + r < E.size by omega) (0 + (first + r) * 1) rfl
    by_cases h2 : 2 * r + 2 < hi
    · obtain ⟨_, q1⟩ := u_at (rest := rest) (show first + (2 * r + 1) < E.size by omega) (0 + (first + (2 * r + 1)) * 1) rfl
      obtain ⟨_, q2⟩ := u_at (rest := rest) (show first + (2 * r + 2) < E.size by omega) (0 + (first + (2 * r + 2)) * 1) rfl
      have e2 : first + (2 * r + 1) + 1 = first + (2 * r + 2) := by omega
      rw [e2] at hO
      cases hc : lt E[first + (2 * r + 1)]! E[first + (2 * r + 2)]! with
      | true =>
        rw [if_pos (by rw [hc]; simp; omega)] at hO
        have qc := q2
        cases hc2 : lt E[first + r]! E[first + (2 * r + 2)]! with
        | false =>
          rw [hc2] at hO
          simp only [Bool.not_false, if_true] at hO
          subst hO
          refine q8 ?_; refine zf ?_; refine zd (id := 1) ?_; refine za (zb rfl rfl rfl) rfl ?_; refine za (ok_mul rfl rfl rfl rfl (wrap_i64 (by omega) (by omega))) rfl ?_; refine za (qb rfl rfl rfl rfl (by assumption)) rfl ?_; refine za (ze rfl rfl rfl) rfl ?_; refine zg ?_; refine zi ?_; refine zf ?_; refine zf ?_; refine zd (id := 2) ?_; refine za (zb rfl rfl rfl) rfl ?_; refine za (zb rfl rfl rfl) rfl ?_; refine za (yb rfl rfl rfl rfl (decide_eq_false (by omega))) rfl ?_; refine zg ?_; refine zi ?_; refine zq rfl ?_; refine zx ?_; refine zi ?_; refine zf ?_; refine zf ?_; refine q9 (id := 3) [(200027, [900]), (200034, [900])] mixed (by kernel_rfl) ?_; refine zc (zb rfl rfl rfl) rfl ?_; refine zc (qb rfl rfl rfl rfl (by assumption)) rfl ?_; refine zc (zb rfl rfl rfl) rfl ?_; refine zc (zz rfl rfl rfl rfl (decide_eq_true (by omega))) rfl ?_; refine zc (zb rfl rfl rfl) rfl ?_; refine zc (zb rfl rfl rfl) rfl ?_; refine zc (zb rfl rfl rfl) rfl ?_; refine zc (zb rfl rfl rfl) rfl ?_; refine zc (qb rfl rfl rfl rfl (by assumption)) rfl ?_; refine zc (zp L _ rfl rfl rfl rfl rfl rfl rfl (by omega)) rfl ?_; refine q0 (zw L (q := 900) rfl rfl rfl rfl rfl q1) rfl rfl ?_; refine zc (zb rfl rfl rfl) rfl ?_; refine zc (zb rfl rfl rfl) rfl ?_; refine zc (zb rfl rfl rfl) rfl ?_; refine zc (qb rfl rfl rfl rfl (by assumption)) rfl ?_; refine zc (qb rfl rfl rfl rfl (by assumption)) rfl ?_; refine zc (zp L _ rfl rfl rfl rfl rfl rfl rfl (by omega)) rfl ?_; refine q0 (zw L (q := 900) rfl rfl rfl rfl rfl q2) rfl rfl ?_; refine zc (zu L rfl rfl (zh rfl) rfl rfl rfl (fun u H hH _ _ => lessU' hc hH)) rfl ?_; refine zc (zn rfl rfl rfl rfl) rfl ?_; refine qg ?_; refine zi ?_; refine zy rfl ?_; refine zd (id := 4) ?_; refine za (zb rfl rfl rfl) rfl ?_; refine za (qb rfl rfl rfl rfl (by assumption)) rfl ?_; refine za (ze rfl rfl rfl) rfl ?_; refine zg ?_; refine zi ?_; refine zf ?_; refine zf ?_; refine q9 (id := 5) [(200044, [900]), (200050, [900])] mixed (by kernel_rfl) ?_; refine zc (zb rfl rfl rfl) rfl ?_; refine zc (zb rfl rfl rfl) rfl ?_; refine zc (zb rfl rfl rfl) rfl ?_; refine zc (qb rfl rfl rfl rfl (by assumption)) rfl ?_; refine zc (zp L _ rfl rfl rfl rfl rfl rfl rfl (by omega)) rfl ?_; refine q0 (zw L (q := 900) rfl rfl rfl rfl rfl qr) rfl rfl ?_; refine zc (zb rfl rfl rfl) rfl ?_; refine zc (zb rfl rfl rfl) rfl ?_; refine zc (zb rfl rfl rfl) rfl ?_; refine zc (qb rfl rfl rfl rfl (by assumption)) rfl ?_; refine zc (zp L _ rfl rfl rfl rfl rfl rfl rfl (by omega)) rfl ?_; refine q0 (zw L (q := 900) rfl rfl rfl rfl rfl qc) rfl rfl ?_; refine zc (zu L rfl rfl (zh rfl) rfl rfl rfl (fun u H hH _ _ => lessU' hc2 hH)) rfl ?_; refine zc (ok_not rfl rfl rfl rfl) rfl ?_; refine qg ?_; refine zi ?_; refine zy rfl ?_
          exact V_retGhost L 900 (r := GHeld b _ tyU) rfl (fun _ _ h => h) Since.refl rfl rfl
        | true =>
          rw [hc2] at hO
          simp only [Bool.not_true, Bool.false_eq_true, if_false] at hO
          rw [dif_pos (by omega)] at hO
          obtain ⟨_, qj⟩ := u_at (rest := rest) (show first + (2 * r + 2) < E.size by omega) (0 + (first + (2 * r + 2)) * 1) rfl
          obtain ⟨_, qi⟩ := u_at (rest := rest) (show first + r < E.size by omega) (0 + (first + r) * 1) rfl
          have s1 := u_set (rest := rest) E[first + (2 * r + 2)]! (show first + r < E.size by omega) (0 + (first + r) * 1) rfl
          have b1 := u_ble (rest := rest) (show first + r < E.size by omega) (0 + (first + r) * 1) rfl
          have hz : first + (2 * r + 2) < (E.setIfInBounds (first + r) E[first + (2 * r + 2)]!).size := by rw [Array.size_setIfInBounds]; omega
          have s2 := u_set (rest := rest) E[first + r]! hz (0 + (first + (2 * r + 2)) * 1) rfl
          have b2 := u_ble (rest := rest) hz (0 + (first + (2 * r + 2)) * 1) rfl
          rw [swp_eq] at s2
          refine q8 ?_; refine zf ?_; refine zd (id := 1) ?_; refine za (zb rfl rfl rfl) rfl ?_; refine za (ok_mul rfl rfl rfl rfl (wrap_i64 (by omega) (by omega))) rfl ?_; refine za (qb rfl rfl rfl rfl (by assumption)) rfl ?_; refine za (ze rfl rfl rfl) rfl ?_; refine zg ?_; refine zi ?_; refine zf ?_; refine zf ?_; refine zd (id := 2) ?_; refine za (zb rfl rfl rfl) rfl ?_; refine za (zb rfl rfl rfl) rfl ?_; refine za (yb rfl rfl rfl rfl (decide_eq_false (by omega))) rfl ?_; refine zg ?_; refine zi ?_; refine zq rfl ?_; refine zx ?_; refine zi ?_; refine zf ?_; refine zf ?_; refine q9 (id := 3) [(200027, [900]), (200034, [900])] mixed (by kernel_rfl) ?_; refine zc (zb rfl rfl rfl) rfl ?_; refine zc (qb rfl rfl rfl rfl (by assumption)) rfl ?_; refine zc (zb rfl rfl rfl) rfl ?_; refine zc (zz rfl rfl rfl rfl (decide_eq_true (by omega))) rfl ?_; refine zc (zb rfl rfl rfl) rfl ?_; refine zc (zb rfl rfl rfl) rfl ?_; refine zc (zb rfl rfl rfl) rfl ?_; refine zc (zb rfl rfl rfl) rfl ?_; refine zc (qb rfl rfl rfl rfl (by assumption)) rfl ?_; refine zc (zp L _ rfl rfl rfl rfl rfl rfl rfl (by omega)) rfl ?_; refine q0 (zw L (q := 900) rfl rfl rfl rfl rfl q1) rfl rfl ?_; refine zc (zb rfl rfl rfl) rfl ?_; refine zc (zb rfl rfl rfl) rfl ?_; refine zc (zb rfl rfl rfl) rfl ?_; refine zc (qb rfl rfl rfl rfl (by assumption)) rfl ?_; refine zc (qb rfl rfl rfl rfl (by assumption)) rfl ?_; refine zc (zp L _ rfl rfl rfl rfl rfl rfl rfl (by omega)) rfl ?_; refine q0 (zw L (q := 900) rfl rfl rfl rfl rfl q2) rfl rfl ?_; refine zc (zu L rfl rfl (zh rfl) rfl rfl rfl (fun u H hH _ _ => lessU' hc hH)) rfl ?_; refine zc (zn rfl rfl rfl rfl) rfl ?_; refine qg ?_; refine zi ?_; refine zy rfl ?_; refine zd (id := 4) ?_; refine za (zb rfl rfl rfl) rfl ?_; refine za (qb rfl rfl rfl rfl (by assumption)) rfl ?_; refine za (ze rfl rfl rfl) rfl ?_; refine zg ?_; refine zi ?_; refine zf ?_; refine zf ?_; refine q9 (id := 5) [(200044, [900]), (200050, [900])] mixed (by kernel_rfl) ?_; refine zc (zb rfl rfl rfl) rfl ?_; refine zc (zb rfl rfl rfl) rfl ?_; refine zc (zb rfl rfl rfl) rfl ?_; refine zc (qb rfl rfl rfl rfl (by assumption)) rfl ?_; refine zc (zp L _ rfl rfl rfl rfl rfl rfl rfl (by omega)) rfl ?_; refine q0 (zw L (q := 900) rfl rfl rfl rfl rfl qr) rfl rfl ?_; refine zc (zb rfl rfl rfl) rfl ?_; refine zc (zb rfl rfl rfl) rfl ?_; refine zc (zb rfl rfl rfl) rfl ?_; refine zc (qb rfl rfl rfl rfl (by assumption)) rfl ?_; refine zc (zp L _ rfl rfl rfl rfl rfl rfl rfl (by omega)) rfl ?_; refine q0 (zw L (q := 900) rfl rfl rfl rfl rfl qc) rfl rfl ?_; refine zc (zu L rfl rfl (zh rfl) rfl rfl rfl (fun u H hH _ _ => lessU' hc2 hH)) rfl ?_; refine zc (ok_not rfl rfl rfl rfl) rfl ?_; refine qg ?_; refine zi ?_; refine zq rfl ?_; refine zx ?_; refine zi ?_; refine zf ?_; refine q9 (id := 6) [(200066, [900]), (200072, [900]), (100073, [900]), (100074, [900])] mixed (by kernel_rfl) ?_; refine zc (zb rfl rfl rfl) rfl ?_; refine zc (zb rfl rfl rfl) rfl ?_; refine zc (zb rfl rfl rfl) rfl ?_; refine zc (qb rfl rfl rfl rfl (by assumption)) rfl ?_; refine zc (zb rfl rfl rfl) rfl ?_; refine zc (zb rfl rfl rfl) rfl ?_; refine zc (zb rfl rfl rfl) rfl ?_; refine zc (qb rfl rfl rfl rfl (by assumption)) rfl ?_; refine zc (zb rfl rfl rfl) rfl ?_; refine zc (zb rfl rfl rfl) rfl ?_; refine zc (zb rfl rfl rfl) rfl ?_; refine zc (qb rfl rfl rfl rfl (by assumption)) rfl ?_; refine zc (zp L _ rfl rfl rfl rfl rfl rfl rfl (by omega)) rfl ?_; refine q0 (zw L (q := 900) rfl rfl rfl rfl rfl qj) rfl rfl ?_; refine zc (zb rfl rfl rfl) rfl ?_; refine zc (zb rfl rfl rfl) rfl ?_; refine zc (zb rfl rfl rfl) rfl ?_; refine zc (qb rfl rfl rfl rfl (by assumption)) rfl ?_; refine zc (zp L _ rfl rfl rfl rfl rfl rfl rfl (by omega)) rfl ?_; refine q0 (zw L (q := 900) rfl rfl rfl rfl rfl qi) rfl rfl ?_; refine zc (zp L _ rfl rfl rfl rfl rfl rfl rfl (by omega)) rfl ?_; refine y7 (qv L (q := 900) rfl rfl rfl rfl rfl rfl b1 rfl s1) rfl ?_; refine zc (zp L _ rfl rfl rfl rfl rfl rfl rfl (by omega)) rfl ?_; refine y7 (qv L (q := 900) rfl rfl rfl rfl rfl rfl b2 rfl s2) rfl ?_; refine qg ?_; refine zi ?_; refine zd (id := 7) ?_; refine za (zb rfl rfl rfl) rfl ?_; refine za (ze rfl rfl rfl) rfl ?_; refine zg ?_; refine qp ?_
          exact qw (x := (r, E)) (2 * r + 2, swp E (first + r) (first + (2 * r + 2))) ⟨by dsimp only; omega, by dsimp only; rw [swp_size]; exact hE, hO⟩ (by dsimp only; omega) ⟨rfl, rfl, rfl, rfl, rfl, trivial⟩
      | false =>
        rw [if_neg (by rw [hc]; simp)] at hO
        have qc := q1
        cases hc2 : lt E[first + r]! E[first + (2 * r + 1)]! with
        | false =>
          rw [hc2] at hO
          simp only [Bool.not_false, if_true] at hO
          subst hO
          refine q8 ?_; refine zf ?_; refine zd (id := 1) ?_; refine za (zb rfl rfl rfl) rfl ?_; refine za (ok_mul rfl rfl rfl rfl (wrap_i64 (by omega) (by omega))) rfl ?_; refine za (qb rfl rfl rfl rfl (by assumption)) rfl ?_; refine za (ze rfl rfl rfl) rfl ?_; refine zg ?_; refine zi ?_; refine zf ?_; refine zf ?_; refine zd (id := 2) ?_; refine za (zb rfl rfl rfl) rfl ?_; refine za (zb rfl rfl rfl) rfl ?_; refine za (yb rfl rfl rfl rfl (decide_eq_false (by omega))) rfl ?_; refine zg ?_; refine zi ?_; refine zq rfl ?_; refine zx ?_; refine zi ?_; refine zf ?_; refine zf ?_; refine q9 (id := 3) [(200027, [900]), (200034, [900])] mixed (by kernel_rfl) ?_; refine zc (zb rfl rfl rfl) rfl ?_; refine zc (qb rfl rfl rfl rfl (by assumption)) rfl ?_; refine zc (zb rfl rfl rfl) rfl ?_; refine zc (zz rfl rfl rfl rfl (decide_eq_true (by omega))) rfl ?_; refine zc (zb rfl rfl rfl) rfl ?_; refine zc (zb rfl rfl rfl) rfl ?_; refine zc (zb rfl rfl rfl) rfl ?_; refine zc (zb rfl rfl rfl) rfl ?_; refine zc (qb rfl rfl rfl rfl (by assumption)) rfl ?_; refine zc (zp L _ rfl rfl rfl rfl rfl rfl rfl (by omega)) rfl ?_; refine q0 (zw L (q := 900) rfl rfl rfl rfl rfl q1) rfl rfl ?_; refine zc (zb rfl rfl rfl) rfl ?_; refine zc (zb rfl rfl rfl) rfl ?_; refine zc (zb rfl rfl rfl) rfl ?_; refine zc (qb rfl rfl rfl rfl (by assumption)) rfl ?_; refine zc (qb rfl rfl rfl rfl (by assumption)) rfl ?_; refine zc (zp L _ rfl rfl rfl rfl rfl rfl rfl (by omega)) rfl ?_; refine q0 (zw L (q := 900) rfl rfl rfl rfl rfl q2) rfl rfl ?_; refine zc (zu L rfl rfl (zh rfl) rfl rfl rfl (fun u H hH _ _ => lessU' hc hH)) rfl ?_; refine zc (zn rfl rfl rfl rfl) rfl ?_; refine qg ?_; refine zi ?_; refine zq rfl ?_; refine zx ?_; refine zi ?_; refine zf ?_; refine zf ?_; refine q9 (id := 5) [(200044, [900]), (200050, [900])] mixed (by kernel_rfl) ?_; refine zc (zb rfl rfl rfl) rfl ?_; refine zc (zb rfl rfl rfl) rfl ?_; refine zc (zb rfl rfl rfl) rfl ?_; refine zc (qb rfl rfl rfl rfl (by assumption)) rfl ?_; refine zc (zp L _ rfl rfl rfl rfl rfl rfl rfl (by omega)) rfl ?_; refine q0 (zw L (q := 900) rfl rfl rfl rfl rfl qr) rfl rfl ?_; refine zc (zb rfl rfl rfl) rfl ?_; refine zc (zb rfl rfl rfl) rfl ?_; refine zc (zb rfl rfl rfl) rfl ?_; refine zc (qb rfl rfl rfl rfl (by assumption)) rfl ?_; refine zc (zp L _ rfl rfl rfl rfl rfl rfl rfl (by omega)) rfl ?_; refine q0 (zw L (q := 900) rfl rfl rfl rfl rfl qc) rfl rfl ?_; refine zc (zu L rfl rfl (zh rfl) rfl rfl rfl (fun u H hH _ _ => lessU' hc2 hH)) rfl ?_; refine zc (ok_not rfl rfl rfl rfl) rfl ?_; refine qg ?_; refine zi ?_; refine zy rfl ?_
          exact V_retGhost L 900 (r := GHeld b _ tyU) rfl (fun _ _ h => h) Since.refl rfl rfl
        | true =>
          rw [hc2] at hO
          simp only [Bool.not_true, Bool.false_eq_true, if_false] at hO
          obtain ⟨_, qj⟩ := u_at (rest := rest) (show first + (2 * r + 1) < E.size by omega) (0 + (first + (2 * r + 1)) * 1) rfl
          obtain ⟨_, qi⟩ := u_at (rest := rest) (show first + r < E.size by omega) (0 + (first + r) * 1) rfl
          have s1 := u_set (rest := rest) E[first + (2 * r + 1)]! (show first + r < E.size by omega) (0 + (first + r) * 1) rfl
          have b1 := u_ble (rest := rest) (show first + r < E.size by omega) (0 + (first + r) * 1) rfl
          have hz : first + (2 * r + 1) < (E.setIfInBounds (first + r) E[first + (2 * r + 1)]!).size := by rw [Array.size_setIfInBounds]; omega
          have s2 := u_set (rest := rest) E[first + r]! hz (0 + (first + (2 * r + 1)) * 1) rfl
          have b2 := u_ble (rest := rest) hz (0 + (first + (2 * r + 1)) * 1) rfl
          rw [swp_eq] at s2
          refine q8 ?_; refine zf ?_; refine zd (id := 1) ?_; refine za (zb rfl rfl rfl) rfl ?_; refine za (ok_mul rfl rfl rfl rfl (wrap_i64 (by omega) (by omega))) rfl ?_; refine za (qb rfl rfl rfl rfl (by assumption)) rfl ?_; refine za (ze rfl rfl rfl) rfl ?_; refine zg ?_; refine zi ?_; refine zf ?_; refine zf ?_; refine zd (id := 2) ?_; refine za (zb rfl rfl rfl) rfl ?_; refine za (zb rfl rfl rfl) rfl ?_; refine za (yb rfl rfl rfl rfl (decide_eq_false (by omega))) rfl ?_; refine zg ?_; refine zi ?_; refine zq rfl ?_; refine zx ?_; refine zi ?_; refine zf ?_; refine zf ?_; refine q9 (id := 3) [(200027, [900]), (200034, [900])] mixed (by kernel_rfl) ?_; refine zc (zb rfl rfl rfl) rfl ?_; refine zc (qb rfl rfl rfl rfl (by assumption)) rfl ?_; refine zc (zb rfl rfl rfl) rfl ?_; refine zc (zz rfl rfl rfl rfl (decide_eq_true (by omega))) rfl ?_; refine zc (zb rfl rfl rfl) rfl ?_; refine zc (zb rfl rfl rfl) rfl ?_; refine zc (zb rfl rfl rfl) rfl ?_; refine zc (zb rfl rfl rfl) rfl ?_; refine zc (qb rfl rfl rfl rfl (by assumption)) rfl ?_; refine zc (zp L _ rfl rfl rfl rfl rfl rfl rfl (by omega)) rfl ?_; refine q0 (zw L (q := 900) rfl rfl rfl rfl rfl q1) rfl rfl ?_; refine zc (zb rfl rfl rfl) rfl ?_; refine zc (zb rfl rfl rfl) rfl ?_; refine zc (zb rfl rfl rfl) rfl ?_; refine zc (qb rfl rfl rfl rfl (by assumption)) rfl ?_; refine zc (qb rfl rfl rfl rfl (by assumption)) rfl ?_; refine zc (zp L _ rfl rfl rfl rfl rfl rfl rfl (by omega)) rfl ?_; refine q0 (zw L (q := 900) rfl rfl rfl rfl rfl q2) rfl rfl ?_; refine zc (zu L rfl rfl (zh rfl) rfl rfl rfl (fun u H hH _ _ => lessU' hc hH)) rfl ?_; refine zc (zn rfl rfl rfl rfl) rfl ?_; refine qg ?_; refine zi ?_; refine zq rfl ?_; refine zx ?_; refine zi ?_; refine zf ?_; refine zf ?_; refine q9 (id := 5) [(200044, [900]), (200050, [900])] mixed (by kernel_rfl) ?_; refine zc (zb rfl rfl rfl) rfl ?_; refine zc (zb rfl rfl rfl) rfl ?_; refine zc (zb rfl rfl rfl) rfl ?_; refine zc (qb rfl rfl rfl rfl (by assumption)) rfl ?_; refine zc (zp L _ rfl rfl rfl rfl rfl rfl rfl (by omega)) rfl ?_; refine q0 (zw L (q := 900) rfl rfl rfl rfl rfl qr) rfl rfl ?_; refine zc (zb rfl rfl rfl) rfl ?_; refine zc (zb rfl rfl rfl) rfl ?_; refine zc (zb rfl rfl rfl) rfl ?_; refine zc (qb rfl rfl rfl rfl (by assumption)) rfl ?_; refine zc (zp L _ rfl rfl rfl rfl rfl rfl rfl (by omega)) rfl ?_; refine q0 (zw L (q := 900) rfl rfl rfl rfl rfl qc) rfl rfl ?_; refine zc (zu L rfl rfl (zh rfl) rfl rfl rfl (fun u H hH _ _ => lessU' hc2 hH)) rfl ?_; refine zc (ok_not rfl rfl rfl rfl) rfl ?_; refine qg ?_; refine zi ?_; refine zq rfl ?_; refine zx ?_; refine zi ?_; refine zf ?_; refine q9 (id := 6) [(200066, [900]), (200072, [900]), (100073, [900]), (100074, [900])] mixed (by kernel_rfl) ?_; refine zc (zb rfl rfl rfl) rfl ?_; refine zc (zb rfl rfl rfl) rfl ?_; refine zc (zb rfl rfl rfl) rfl ?_; refine zc (qb rfl rfl rfl rfl (by assumption)) rfl ?_; refine zc (zb rfl rfl rfl) rfl ?_; refine zc (zb rfl rfl rfl) rfl ?_; refine zc (zb rfl rfl rfl) rfl ?_; refine zc (qb rfl rfl rfl rfl (by assumption)) rfl ?_; refine zc (zb rfl rfl rfl) rfl ?_; refine zc (zb rfl rfl rfl) rfl ?_; refine zc (zb rfl rfl rfl) rfl ?_; refine zc (qb rfl rfl rfl rfl (by assumption)) rfl ?_; refine zc (zp L _ rfl rfl rfl rfl rfl rfl rfl (by omega)) rfl ?_; refine q0 (zw L (q := 900) rfl rfl rfl rfl rfl qj) rfl rfl ?_; refine zc (zb rfl rfl rfl) rfl ?_; refine zc (zb rfl rfl rfl) rfl ?_; refine zc (zb rfl rfl rfl) rfl ?_; refine zc (qb rfl rfl rfl rfl (by assumption)) rfl ?_; refine zc (zp L _ rfl rfl rfl rfl rfl rfl rfl (by omega)) rfl ?_; refine q0 (zw L (q := 900) rfl rfl rfl rfl rfl qi) rfl rfl ?_; refine zc (zp L _ rfl rfl rfl rfl rfl rfl rfl (by omega)) rfl ?_; refine y7 (qv L (q := 900) rfl rfl rfl rfl rfl rfl b1 rfl s1) rfl ?_; refine zc (zp L _ rfl rfl rfl rfl rfl rfl rfl (by omega)) rfl ?_; refine y7 (qv L (q := 900) rfl rfl rfl rfl rfl rfl b2 rfl s2) rfl ?_; refine qg ?_; refine zi ?_; refine zd (id := 7) ?_; refine za (zb rfl rfl rfl) rfl ?_; refine za (ze rfl rfl rfl) rfl ?_; refine zg ?_; refine qp ?_
          exact qw (x := (r, E)) (2 * r + 1, swp E (first + r) (first + (2 * r + 1))) ⟨by dsimp only; omega, by dsimp only; rw [swp_size]; exact hE, hO⟩ (by dsimp only; omega) ⟨rfl, rfl, rfl, rfl, rfl, trivial⟩
    · rw [if_neg (by simp; omega)] at hO
      obtain ⟨_, qc⟩ := u_at (rest := rest) (show first + (2 * r + 1) < E.size by omega) (0 + (first + (2 * r + 1)) * 1) rfl
      cases hc2 : lt E[first + r]! E[first + (2 * r + 1)]! with
      | false =>
        rw [hc2] at hO
        simp only [Bool.not_false, if_true] at hO
        subst hO
        refine q8 ?_; refine zf ?_; refine zd (id := 1) ?_; refine za (zb rfl rfl rfl) rfl ?_; refine za (ok_mul rfl rfl rfl rfl (wrap_i64 (by omega) (by omega))) rfl ?_; refine za (qb rfl rfl rfl rfl (by assumption)) rfl ?_; refine za (ze rfl rfl rfl) rfl ?_; refine zg ?_; refine zi ?_; refine zf ?_; refine zf ?_; refine zd (id := 2) ?_; refine za (zb rfl rfl rfl) rfl ?_; refine za (zb rfl rfl rfl) rfl ?_; refine za (yb rfl rfl rfl rfl (decide_eq_false (by omega))) rfl ?_; refine zg ?_; refine zi ?_; refine zq rfl ?_; refine zx ?_; refine zi ?_; refine zf ?_; refine zf ?_; refine q9 (id := 3) [] mixed (by kernel_rfl) ?_; refine zc (zb rfl rfl rfl) rfl ?_; refine zc (qb rfl rfl rfl rfl (by assumption)) rfl ?_; refine zc (zb rfl rfl rfl) rfl ?_; refine zc (zz rfl rfl rfl rfl (decide_eq_false (by omega))) rfl ?_; refine zc (zb rfl rfl rfl) rfl ?_; refine zc (zj rfl (zh rfl) rfl) rfl ?_; refine zc (zj rfl (zh rfl) rfl) rfl ?_; refine zc (zj rfl (zh rfl) rfl) rfl ?_; refine zc (zj rfl (zh rfl) rfl) rfl ?_; refine zc (zj rfl (zh rfl) rfl) rfl ?_; refine zc (zj rfl (zh rfl) rfl) rfl ?_; refine zc (zj rfl (zh rfl) rfl) rfl ?_; refine zc (zj rfl (zh rfl) rfl) rfl ?_; refine zc (zj rfl (zh rfl) rfl) rfl ?_; refine zc (zj rfl (zh rfl) rfl) rfl ?_; refine zc (zj rfl (zh rfl) rfl) rfl ?_; refine zc (zj rfl (zh rfl) rfl) rfl ?_; refine zc (zj rfl (zh rfl) rfl) rfl ?_; refine zc (zj rfl (zh rfl) rfl) rfl ?_; refine zc (zn rfl rfl rfl rfl) rfl ?_; refine qg ?_; refine zi ?_; refine zq rfl ?_; refine zx ?_; refine zi ?_; refine zf ?_; refine zf ?_; refine q9 (id := 5) [(200044, [900]), (200050, [900])] mixed (by kernel_rfl) ?_; refine zc (zb rfl rfl rfl) rfl ?_; refine zc (zb rfl rfl rfl) rfl ?_; refine zc (zb rfl rfl rfl) rfl ?_; refine zc (qb rfl rfl rfl rfl (by assumption)) rfl ?_; refine zc (zp L _ rfl rfl rfl rfl rfl rfl rfl (by omega)) rfl ?_; refine q0 (zw L (q := 900) rfl rfl rfl rfl rfl qr) rfl rfl ?_; refine zc (zb rfl rfl rfl) rfl ?_; refine zc (zb rfl rfl rfl) rfl ?_; refine zc (zb rfl rfl rfl) rfl ?_; refine zc (qb rfl rfl rfl rfl (by assumption)) rfl ?_; refine zc (zp L _ rfl rfl rfl rfl rfl rfl rfl (by omega)) rfl ?_; refine q0 (zw L (q := 900) rfl rfl rfl rfl rfl qc) rfl rfl ?_; refine zc (zu L rfl rfl (zh rfl) rfl rfl rfl (fun u H hH _ _ => lessU' hc2 hH)) rfl ?_; refine zc (ok_not rfl rfl rfl rfl) rfl ?_; refine qg ?_; refine zi ?_; refine zy rfl ?_
        exact V_retGhost L 900 (r := GHeld b _ tyU) rfl (fun _ _ h => h) Since.refl rfl rfl
      | true =>
        rw [hc2] at hO
        simp only [Bool.not_true, Bool.false_eq_true, if_false] at hO
        obtain ⟨_, qj⟩ := u_at (rest := rest) (show first + (2 * r + 1) < E.size by omega) (0 + (first + (2 * r + 1)) * 1) rfl
        obtain ⟨_, qi⟩ := u_at (rest := rest) (show first + r < E.size by omega) (0 + (first + r) * 1) rfl
        have s1 := u_set (rest := rest) E[first + (2 * r + 1)]! (show first + r < E.size by omega) (0 + (first + r) * 1) rfl
        have b1 := u_ble (rest := rest) (show first + r < E.size by omega) (0 + (first + r) * 1) rfl
        have hz : first + (2 * r + 1) < (E.setIfInBounds (first + r) E[first + (2 * r + 1)]!).size := by rw [Array.size_setIfInBounds]; omega
        have s2 := u_set (rest := rest) E[first + r]! hz (0 + (first + (2 * r + 1)) * 1) rfl
        have b2 := u_ble (rest := rest) hz (0 + (first + (2 * r + 1)) * 1) rfl
        rw [swp_eq] at s2
        refine q8 ?_; refine zf ?_; refine zd (id := 1) ?_; refine za (zb rfl rfl rfl) rfl ?_; refine za (ok_mul rfl rfl rfl rfl (wrap_i64 (by omega) (by omega))) rfl ?_; refine za (qb rfl rfl rfl rfl (by assumption)) rfl ?_; refine za (ze rfl rfl rfl) rfl ?_; refine zg ?_; refine zi ?_; refine zf ?_; refine zf ?_; refine zd (id := 2) ?_; refine za (zb rfl rfl rfl) rfl ?_; refine za (zb rfl rfl rfl) rfl ?_; refine za (yb rfl rfl rfl rfl (decide_eq_false (by omega))) rfl ?_; refine zg ?_; refine zi ?_; refine zq rfl ?_; refine zx ?_; refine zi ?_; refine zf ?_; refine zf ?_; refine q9 (id := 3) [] mixed (by kernel_rfl) ?_; refine zc (zb rfl rfl rfl) rfl ?_; refine zc (qb rfl rfl rfl rfl (by assumption)) rfl ?_; refine zc (zb rfl rfl rfl) rfl ?_; refine zc (zz rfl rfl rfl rfl (decide_eq_false (by omega))) rfl ?_; refine zc (zb rfl rfl rfl) rfl ?_; refine zc (zj rfl (zh rfl) rfl) rfl ?_; refine zc (zj rfl (zh rfl) rfl) rfl ?_; refine zc (zj rfl (zh rfl) rfl) rfl ?_; refine zc (zj rfl (zh rfl) rfl) rfl ?_; refine zc (zj rfl (zh rfl) rfl) rfl ?_; refine zc (zj rfl (zh rfl) rfl) rfl ?_; refine zc (zj rfl (zh rfl) rfl) rfl ?_; refine zc (zj rfl (zh rfl) rfl) rfl ?_; refine zc (zj rfl (zh rfl) rfl) rfl ?_; refine zc (zj rfl (zh rfl) rfl) rfl ?_; refine zc (zj rfl (zh rfl) rfl) rfl ?_; refine zc (zj rfl (zh rfl) rfl) rfl ?_; refine zc (zj rfl (zh rfl) rfl) rfl ?_; refine zc (zj rfl (zh rfl) rfl) rfl ?_; refine zc (zn rfl rfl rfl rfl) rfl ?_; refine qg ?_; refine zi ?_; refine zq rfl ?_; refine zx ?_; refine zi ?_; refine zf ?_; refine zf ?_; refine q9 (id := 5) [(200044, [900]), (200050, [900])] mixed (by kernel_rfl) ?_; refine zc (zb rfl rfl rfl) rfl ?_; refine zc (zb rfl rfl rfl) rfl ?_; refine zc (zb rfl rfl rfl) rfl ?_; refine zc (qb rfl rfl rfl rfl (by assumption)) rfl ?_; refine zc (zp L _ rfl rfl rfl rfl rfl rfl rfl (by omega)) rfl ?_; refine q0 (zw L (q := 900) rfl rfl rfl rfl rfl qr) rfl rfl ?_; refine zc (zb rfl rfl rfl) rfl ?_; refine zc (zb rfl rfl rfl) rfl ?_; refine zc (zb rfl rfl rfl) rfl ?_; refine zc (qb rfl rfl rfl rfl (by assumption)) rfl ?_; refine zc (zp L _ rfl rfl rfl rfl rfl rfl rfl (by omega)) rfl ?_; refine q0 (zw L (q := 900) rfl rfl rfl rfl rfl qc) rfl rfl ?_; refine zc (zu L rfl rfl (zh rfl) rfl rfl rfl (fun u H hH _ _ => lessU' hc2 hH)) rfl ?_; refine zc (ok_not rfl rfl rfl rfl) rfl ?_; refine qg ?_; refine zi ?_; refine zq rfl ?_; refine zx ?_; refine zi ?_; refine zf ?_; refine q9 (id := 6) [(200066, [900]), (200072, [900]), (100073, [900]), (100074, [900])] mixed (by kernel_rfl) ?_; refine zc (zb rfl rfl rfl) rfl ?_; refine zc (zb rfl rfl rfl) rfl ?_; refine zc (zb rfl rfl rfl) rfl ?_; refine zc (qb rfl rfl rfl rfl (by assumption)) rfl ?_; refine zc (zb rfl rfl rfl) rfl ?_; refine zc (zb rfl rfl rfl) rfl ?_; refine zc (zb rfl rfl rfl) rfl ?_; refine zc (qb rfl rfl rfl rfl (by assumption)) rfl ?_; refine zc (zb rfl rfl rfl) rfl ?_; refine zc (zb rfl rfl rfl) rfl ?_; refine zc (zb rfl rfl rfl) rfl ?_; refine zc (qb rfl rfl rfl rfl (by assumption)) rfl ?_; refine zc (zp L _ rfl rfl rfl rfl rfl rfl rfl (by omega)) rfl ?_; refine q0 (zw L (q := 900) rfl rfl rfl rfl rfl qj) rfl rfl ?_; refine zc (zb rfl rfl rfl) rfl ?_; refine zc (zb rfl rfl rfl) rfl ?_; refine zc (zb rfl rfl rfl) rfl ?_; refine zc (qb rfl rfl rfl rfl (by assumption)) rfl ?_; refine zc (zp L _ rfl rfl rfl rfl rfl rfl rfl (by omega)) rfl ?_; refine q0 (zw L (q := 900) rfl rfl rfl rfl rfl qi) rfl rfl ?_; refine zc (zp L _ rfl rfl rfl rfl rfl rfl rfl (by omega)) rfl ?_; refine y7 (qv L (q := 900) rfl rfl rfl rfl rfl rfl b1 rfl s1) rfl ?_; refine zc (zp L _ rfl rfl rfl rfl rfl rfl rfl (by omega)) rfl ?_; refine y7 (qv L (q := 900) rfl rfl rfl rfl rfl rfl b2 rfl s2) rfl ?_; refine qg ?_; refine zi ?_; refine zd (id := 7) ?_; refine za (zb rfl rfl rfl) rfl ?_; refine za (ze rfl rfl rfl) rfl ?_; refine zg ?_; refine qp ?_
        exact qw (x := (r, E)) (2 * r + 1, swp E (first + r) (first + (2 * r + 1))) ⟨by dsimp only; omega, by dsimp only; rw [swp_size]; exact hE, hO⟩ (by dsimp only; omega) ⟨rfl, rfl, rfl, rfl, rfl, trivial⟩
theorem sift_size (hi first : Nat) : ∀ (n root : Nat) (d : Array Int), hi - root ≤ n → (siftDown lt hi first root d).size = d.size := by
  intro n
  induction n with
  | zero =>
    intro root d h
    rw [siftDown, dif_pos (by omega)]
  | succ n ih =>
    intro root d h
    rw [siftDown]
    split
    · rfl
    · split
      · split
        · rfl
        · split
          · rw [ih _ _ (by omega), swp_size]
          · rfl
      · split
        · rfl
        · rw [ih _ _ (by omega), swp_size]
set_option maxHeartbeats 1000000 in
set_option maxRecDepth 20000 in
theorem heap_ret {d : Array Int} {rest : List Value} {b m cap a e : Nat} (hab : a < e) (he : e ≤ d.size) (hm : d.size = m) (hm1 : m ≤ 100000) {w : World} {B : Heap} {C : Nat → Prop} (hB : B.Le (hp w))
    (hr : (GHeld b (uC d ++ rest) tyU).P B w C) (hC : ∀ k, C k → k < w.heap.size ∧ B k = none) :
    RetG Try.prog 90 [.slice (some ⟨b, 0, none⟩) m cap, .int .i64 a, .int .i64 e] w B C (GHeld b (uC (heapSort lt d a e) ++ rest) tyU) := by
  unfold RetG
  refine V_enterG 900 (GHeld b (uC d ++ rest) tyU) Try.func90 rfl Try.ntmps90 (Nat.le_of_ble_eq_true rfl) hB hr hC ?_
  rw [gheld_res]
  have hw0 : IntKind.i64.wrap ((e : Int) - (a : Int)) = ((e - a : Nat) : Int) := wrap_i64 (by omega) (by omega) |>.trans (by omega)
  have hw1 : IntKind.i64.wrap (((e - a : Nat) : Int) - 1) = ((e - a - 1 : Nat) : Int) := wrap_i64 (by omega) (by omega) |>.trans (by omega)
  have et : ((e - a - 1 : Nat) : Int).tdiv 2 = (((e - a - 1) / 2 + 1 : Nat) : Int) - 1 := by
    rw [Int.tdiv_eq_ediv_of_nonneg (by omega)]
    omega
  have hw2 : IntKind.i64.wrap (((e - a - 1 : Nat) : Int).tdiv 2) = (((e - a - 1) / 2 + 1 : Nat) : Int) - 1 := by rw [et]; exact wrap_i64 (by omega) (by omega)
  refine zf ?_; refine zd (id := 0) ?_; refine za (zb rfl rfl rfl) rfl ?_; refine za (ze rfl rfl rfl) rfl ?_; refine zg ?_; refine zi ?_; refine zf ?_; refine zd (id := 1) ?_; refine za (ze rfl rfl rfl) rfl ?_; refine zg ?_; refine zi ?_; refine zf ?_; refine zd (id := 2) ?_; refine za (zb rfl rfl rfl) rfl ?_; refine za (zb rfl rfl rfl) rfl ?_; refine za (qy rfl rfl rfl rfl (by assumption)) rfl ?_; refine za (ze rfl rfl rfl) rfl ?_; refine zg ?_; refine zi ?_; refine zf ?_; refine zf ?_; refine zd (id := 3) ?_; refine za (zb rfl rfl rfl) rfl ?_; refine za (qy rfl rfl rfl rfl (by assumption)) rfl ?_; refine za (ok_quo rfl rfl rfl rfl (by omega) (by assumption)) rfl ?_; refine za (ze rfl rfl rfl) rfl ?_; refine zg ?_; refine zi ?_; refine q8 ?_
  refine yf (fun s : Nat × Array Int => [(0, .is (.slice (some ⟨b, 0, none⟩) m cap)), (6, .is (.int .i64 a)), (7, .is (.int .i64 0)), (8, .is (.int .i64 (e - a : Nat))), (9, .is (.int .i64 ((s.1 : Int) - 1))), (900, .own (HeldR b (uC s.2 ++ rest) tyU))]) (fun s => s.1 ≤ (e - a - 1) / 2 + 1 ∧ s.2.size = m ∧ heapBuild lt (e - a) a s.1 s.2 = heapBuild lt (e - a) a ((e - a - 1) / 2 + 1) d) (fun s => s.1) ((e - a - 1) / 2 + 1, d) ⟨Nat.le_refl _, hm, rfl⟩ ⟨rfl, rfl, rfl, rfl, rfl, rfl, trivial⟩ ?_
  rintro ⟨k, E⟩ ⟨hk, hE, hO⟩
  dsimp only at hk hE hO ⊢
  rcases k with _ | k
  · have e9 : (((0 : Nat) : Int) - 1) = -1 := rfl
    rw [e9]
    refine zf ?_; refine zf ?_; refine zd (id := 4) ?_; refine za (zb rfl rfl rfl) rfl ?_; refine za (yb rfl rfl rfl rfl (decide_eq_false (by omega))) rfl ?_; refine zg ?_; refine zi ?_; refine zq rfl ?_; refine y6 ?_; refine qd ?_; refine qd ?_; refine y4 ?_; refine zi ?_; refine zf ?_
    rw [heapBuild] at hO
    have e10 : ((e - a - 1 : Nat) : Int) = ((e - a : Nat) : Int) - 1 := by omega
    rw [e10] at hw1
    refine zd (id := 7) ?_; refine za (zb rfl rfl rfl) rfl ?_; refine za (qy rfl rfl rfl rfl (by assumption)) rfl ?_; refine za (ze rfl rfl rfl) rfl ?_; refine zg ?_; refine zi ?_; refine q8 ?_
    refine yf (fun s : Nat × Array Int => [(0, .is (.slice (some ⟨b, 0, none⟩) m cap)), (6, .is (.int .i64 a)), (7, .is (.int .i64 0)), (10, .is (.int .i64 ((s.1 : Int) - 1))), (900, .own (HeldR b (uC s.2 ++ rest) tyU))]) (fun s => s.1 ≤ e - a ∧ s.2.size = m ∧ heapPop lt a s.1 s.2 = heapPop lt a (e - a) E) (fun s => s.1) (e - a, E) ⟨Nat.le_refl _, hE, rfl⟩ ⟨rfl, rfl, rfl, rfl, rfl, trivial⟩ ?_
    rintro ⟨j, G⟩ ⟨hj, hG, hP⟩
    dsimp only at hj hG hP ⊢
    rcases j with _ | j
    · rw [e9]
      rw [heapPop] at hP
      have : G = heapSort lt d a e := by unfold heapSort; rw [← hO, hP]
      subst this
      refine zf ?_; refine zf ?_; refine zd (id := 8) ?_; refine za (zb rfl rfl rfl) rfl ?_; refine za (yb rfl rfl rfl rfl (decide_eq_false (by omega))) rfl ?_; refine zg ?_; refine zi ?_; refine zq rfl ?_; refine y6 ?_; refine qd ?_; refine qd ?_; refine y4 ?_
      exact N_retGhost L 900 (r := GHeld b _ tyU) rfl (fun _ _ h => h) Since.refl rfl rfl
    · have e8 : (((j + 1 : Nat) : Int) - 1) = (j : Int) := by omega
      rw [heapPop] at hP
      rw [e8]
      have hw3 : IntKind.i64.wrap ((a : Int) + (j : Int)) = ((a + j : Nat) : Int) := wrap_i64 (by omega) (by omega)
      have hw4 : IntKind.i64.wrap ((j : Int) - 1) = (j : Int) - 1 := wrap_i64 (by omega) (by omega)
      have hsz := swp_size G a (a + j)
      have hss := sift_size j a j 0 (swp G a (a + j)) (by omega)
      obtain ⟨_, qj⟩ := u_at (rest := rest) (show a + j < G.size by omega) (0 + (a + j) * 1) rfl
      obtain ⟨_, qi⟩ := u_at (rest := rest) (show a < G.size by omega) (0 + (a) * 1) rfl
      have s1 := u_set (rest := rest) G[a + j]! (show a < G.size by omega) (0 + (a) * 1) rfl
      have b1 := u_ble (rest := rest) (show a < G.size by omega) (0 + (a) * 1) rfl
      have hz : a + j < (G.setIfInBounds (a) G[a + j]!).size := by rw [Array.size_setIfInBounds]; omega
      have s2 := u_set (rest := rest) G[a]! hz (0 + (a + j) * 1) rfl
      have b2 := u_ble (rest := rest) hz (0 + (a + j) * 1) rfl
      rw [swp_eq] at s2
      refine zf ?_; refine zf ?_; refine zd (id := 8) ?_; refine za (zb rfl rfl rfl) rfl ?_; refine za (yb rfl rfl rfl rfl (decide_eq_true (by omega))) rfl ?_; refine zg ?_; refine zi ?_; refine zy rfl ?_; refine zx ?_; refine zi ?_; refine zf ?_; refine q8 ?_; refine zf ?_; refine q9 (id := 10) [(200044, [900]), (200048, [900]), (100049, [900]), (100050, [900])] mixed (by kernel_rfl) ?_; refine zc (zb rfl rfl rfl) rfl ?_; refine zc (zb rfl rfl rfl) rfl ?_; refine zc (zb rfl rfl rfl) rfl ?_; refine zc (zb rfl rfl rfl) rfl ?_; refine zc (zb rfl rfl rfl) rfl ?_; refine zc (qb rfl rfl rfl rfl (by assumption)) rfl ?_; refine zc (zb rfl rfl rfl) rfl ?_; refine zc (zb rfl rfl rfl) rfl ?_; refine zc (zb rfl rfl rfl) rfl ?_; refine zc (qb rfl rfl rfl rfl (by assumption)) rfl ?_; refine zc (zp L _ rfl rfl rfl rfl rfl rfl rfl (by omega)) rfl ?_; refine q0 (zw L (q := 900) rfl rfl rfl rfl rfl qj) rfl rfl ?_; refine zc (zb rfl rfl rfl) rfl ?_; refine zc (zb rfl rfl rfl) rfl ?_; refine zc (zp L _ rfl rfl rfl rfl rfl rfl rfl (by omega)) rfl ?_; refine q0 (zw L (q := 900) rfl rfl rfl rfl rfl qi) rfl rfl ?_; refine zc (zp L _ rfl rfl rfl rfl rfl rfl rfl (by omega)) rfl ?_; refine y7 (qv L (q := 900) rfl rfl rfl rfl rfl rfl b1 rfl s1) rfl ?_; refine zc (zp L _ rfl rfl rfl rfl rfl rfl rfl (by omega)) rfl ?_; refine y7 (qv L (q := 900) rfl rfl rfl rfl rfl rfl b2 rfl s2) rfl ?_; refine qg ?_; refine zi ?_; refine zd (id := 11) ?_; refine za (zb rfl rfl rfl) rfl ?_; refine za (zb rfl rfl rfl) rfl ?_; refine za (zb rfl rfl rfl) rfl ?_; refine za (zb rfl rfl rfl) rfl ?_; refine ql (ok_callG L 900 (GHeld b (uC (siftDown lt j a 0 (swp G a (a + j))) ++ rest) tyU) (r := GHeld b (uC (swp G a (a + j)) ++ rest) tyU) rfl rfl rfl rfl rfl (fun u H C hH _ hr hC => sift_ret (Nat.zero_le _) (by omega) (by omega) hm1 hH hr hC)) ?_; refine zg ?_; refine qp ?_; refine zi ?_; refine zd (id := 9) ?_; refine za (zb rfl rfl rfl) rfl ?_; refine za (qy rfl rfl rfl rfl (by assumption)) rfl ?_; refine za (ze rfl rfl rfl) rfl ?_; refine zg ?_
      exact qw (x := (j + 1, G)) (j, siftDown lt j a 0 (swp G a (a + j))) ⟨by dsimp only; omega, by dsimp only; omega, hP⟩ (by dsimp only; omega) ⟨rfl, rfl, rfl, rfl, rfl, trivial⟩
  · have e8 : (((k + 1 : Nat) : Int) - 1) = (k : Int) := by omega
    rw [heapBuild] at hO
    rw [e8]
    have hw4 : IntKind.i64.wrap ((k : Int) - 1) = (k : Int) - 1 := wrap_i64 (by omega) (by omega)
    have hss := sift_size (e - a) a (e - a) k E (by omega)
    refine zf ?_; refine zf ?_; refine zd (id := 4) ?_; refine za (zb rfl rfl rfl) rfl ?_; refine za (yb rfl rfl rfl rfl (decide_eq_true (by omega))) rfl ?_; refine zg ?_; refine zi ?_; refine zy rfl ?_; refine zx ?_; refine zi ?_; refine zf ?_; refine q8 ?_; refine zd (id := 6) ?_; refine za (zb rfl rfl rfl) rfl ?_; refine za (zb rfl rfl rfl) rfl ?_; refine za (zb rfl rfl rfl) rfl ?_; refine za (zb rfl rfl rfl) rfl ?_; refine ql (ok_callG L 900 (GHeld b (uC (siftDown lt (e - a) a k E) ++ rest) tyU) (r := GHeld b (uC E ++ rest) tyU) rfl rfl rfl rfl rfl (fun u H C hH _ hr hC => sift_ret (by omega) (by omega) (by omega) hm1 hH hr hC)) ?_; refine zg ?_; refine qp ?_; refine zi ?_; refine zd (id := 5) ?_; refine za (zb rfl rfl rfl) rfl ?_; refine za (qy rfl rfl rfl rfl (by assumption)) rfl ?_; refine za (ze rfl rfl rfl) rfl ?_; refine zg ?_
    exact qw (x := (k + 1, E)) (k, siftDown lt (e - a) a k E) ⟨by dsimp only; omega, by dsimp only; omega, hO⟩ (by dsimp only; omega) ⟨rfl, rfl, rfl, rfl, rfl, rfl, trivial⟩
end Go.V.So
