/- FlightsCalls returns true for every input, and leaves it as it was: no condition. -/
import Derived.Test.YtfihdmobfmkclaaFlightsCallsM6
import Derived.Test.YtfihdmobfmkclaaRows
set_option linter.unusedVariables false
set_option linter.unusedSimpArgs false
namespace Go.V.L39
open Go.Proofs Go.RowKit Go.V
attribute [local irreducible] V N X VO Par StepOK Has Ret RetL RetO RetT RetG Src
set_option maxHeartbeats 8000000 in
set_option maxRecDepth 20000 in
theorem calls_law {t : Tb} {s : Value} {zs : List (Fl × Value)} {id st : Int} (hst : I64 st) {w : World} {B : Heap} (hI : TbI B t s zs) (hB : B.Le (hp w)) :
    Ret Try.prog 4 [tbv t.nx s, .int .i64 id, .int .i64 st] w B (fun v _ => v = .bool true) := by
  obtain ⟨p0, c0, e0⟩ := slv_sh hI.sl
  subst e0
  refine y0 Try.func4 rfl Try.ntmps4 (Nat.le_of_ble_eq_true rfl) hB ?_
  cases hb : bndB t with
  | false =>
    refine zf ?_; refine zd (id := 0) ?_; refine za (qp rfl rfl rfl rfl) rfl ?_; refine za (ze rfl rfl rfl) rfl ?_; refine zh ?_; refine zj ?_; refine zf ?_; refine zf ?_; refine zd (id := 1) ?_; refine za (zt L (vs := [_, _]) (zn rfl) rfl rfl rfl rfl ⟨_, rfl⟩) rfl ?_; refine za (zp L rfl rfl (zg rfl) rfl rfl rfl (fun u H hH hle _ => bnd_law hb (hI.le hle) hH)) rfl ?_; refine za (ok_not rfl rfl rfl rfl) rfl ?_; refine zh ?_; refine zj ?_; refine zw rfl ?_; refine zf ?_; refine zd (id := 2) ?_; refine za (zp L rfl rfl (zg rfl) rfl rfl rfl (fun u H hH _ _ => lives_law hH)) rfl ?_; refine za (ze rfl rfl rfl) rfl ?_; refine zh ?_; refine zj ?_
    refine qd L (rs := [.tmp 6]) rfl (fun _ _ h => h) Since.refl fun u H hH hle => ?_
    rfl
  | true =>
    obtain ⟨hs, hn60, hl30⟩ := hI.ok hb
    have hz := hI.fl
    have hZ := hI.tz.q
    have hX := hI.tz.x
    have hn : itsN t.fl ≤ 4611686018427387904 := by omega
    have hn2 : itsN t.fl ≤ 9223372036854775807 := by omega
    have hlen := fls_len hz
    have hfm := FlR.mn (f := findF t id)
    have hcm := TbR.mn (t := cmT t id st)
    have hlm := TbR.mn (t := ldT t id)
    refine zf ?_; refine zd (id := 0) ?_; refine za (qp rfl rfl rfl rfl) rfl ?_; refine za (ze rfl rfl rfl) rfl ?_; refine zh ?_; refine zj ?_; refine zf ?_; refine zf ?_; refine zd (id := 1) ?_; refine za (zt L (vs := [_, _]) (zn rfl) rfl rfl rfl rfl ⟨_, rfl⟩) rfl ?_; refine za (zp L rfl rfl (zg rfl) rfl rfl rfl (fun u H hH hle _ => bnd_law hb (hI.le hle) hH)) rfl ?_; refine za (ok_not rfl rfl rfl rfl) rfl ?_; refine zh ?_; refine zj ?_; refine zo rfl ?_; refine zu ?_; refine zj ?_; refine zf ?_
    refine zd (id := 3) ?_; refine za (zt L (vs := [_, _]) (zn rfl) rfl rfl rfl rfl ⟨_, rfl⟩) rfl ?_; refine za (zc rfl rfl rfl) rfl ?_; refine za (ok_call (φ := FindS (findF t id) (plE t id)) L rfl rfl (zg rfl) rfl rfl rfl FindS.mono (fun u H hH hle _ => Ret.mono (find_ret hz (hs.le hle) hZ hn hH) fun v H' _ h => FindP.tup h)) rfl ?_; refine za (qb rfl rfl rfl) rfl ?_; refine za (yd rfl rfl rfl rfl (by assumption)) rfl ?_; refine za (qz rfl rfl rfl rfl) rfl ?_; refine za (qq L rfl rfl rfl rfl) rfl ?_; refine za (ok_storeX L (X := SlX) (flxC (findF t id)) (FlX (findF t id)) FlX.mono flx_st flx_pl rfl rfl rfl rfl rfl) rfl ?_; refine za (ze rfl rfl rfl) rfl ?_; refine zh ?_; refine zj ?_; refine zf ?_
    refine V_opnX 7 rfl fun ⟨p1, n1, c1⟩ H1 s1 h1 => ?_
    have hs1 := hs.le s1.le
    refine zd (id := 4) ?_; refine za (zt L (vs := [_, _]) (zn rfl) rfl rfl rfl rfl ⟨_, rfl⟩) rfl ?_; refine za (zc rfl rfl rfl) rfl ?_; refine za (zc rfl rfl rfl) rfl ?_; refine za (ok_call (φ := RTabS (cmT t id st) (cmE t id st)) L rfl rfl (zg rfl) rfl rfl rfl RTabS.mono (fun u H hH hle _ => Ret.mono (commit_ret hz (hs1.le hle) hZ hn (by omega) hst hH) fun v H' _ h => TabP.tup h)) rfl ?_; refine za (qb rfl rfl rfl) rfl ?_; refine za (yd rfl rfl rfl rfl (by assumption)) rfl ?_; refine za (qz rfl rfl rfl rfl) rfl ?_; refine za (qq L rfl rfl rfl rfl) rfl ?_; refine za (ok_storeX L (X := SlX) (tbxC (cmT t id st)) (TbX (cmT t id st)) TbX.mono tbx_st (fun _ => ⟨rfl, rfl⟩) rfl rfl rfl rfl rfl) rfl ?_; refine za (ze rfl rfl rfl) rfl ?_; refine zh ?_; refine zj ?_; refine zf ?_
    refine V_opnX 9 rfl fun ⟨p2, n2, c2⟩ H2 s2 ⟨zs2, hz2, hs2⟩ => ?_
    have hs1 := hs1.le s2.le
    refine zd (id := 5) ?_; refine za (zt L (vs := [_, _]) (zn rfl) rfl rfl rfl rfl ⟨_, rfl⟩) rfl ?_; refine za (zc rfl rfl rfl) rfl ?_; refine za (ok_call (φ := LandS (ldT t id) (findF t id) (plE t id)) L rfl rfl (zg rfl) rfl rfl rfl LandS.mono (fun u H hH hle _ => Ret.mono (land_ret hz (hs1.le hle) hZ hn (by omega) hH) fun v H' _ h => LandP.tup h)) rfl ?_; refine za (qb rfl rfl rfl) rfl ?_; refine za (yd rfl rfl rfl rfl (by assumption)) rfl ?_; refine za (yd rfl rfl rfl rfl (by assumption)) rfl ?_; refine za (qz rfl rfl rfl rfl) rfl ?_; refine za (qq L rfl rfl rfl rfl) rfl ?_; refine za (qq L rfl rfl rfl rfl) rfl ?_; refine za (ok_storeX L (X := SlX) (tbxC (ldT t id)) (TbX (ldT t id)) TbX.mono tbx_st (fun _ => ⟨rfl, rfl⟩) rfl rfl rfl rfl rfl) rfl ?_; refine za (ok_storeX L (X := SlX) (flxC (findF t id)) (FlX (findF t id)) FlX.mono flx_st flx_pl rfl rfl rfl rfl rfl) rfl ?_; refine za (ze rfl rfl rfl) rfl ?_; refine zh ?_; refine zj ?_; refine zf ?_
    refine V_opnX 11 rfl fun ⟨p3, n3, c3⟩ H3 s3 ⟨zs3, hz3, hs3⟩ => ?_
    refine V_opnX 12 rfl fun ⟨p4, n4, c4⟩ H4 s4 h4 => ?_
    have hs1 := hs1.le (s3.le.trans s4.le)
    dsimp only [tbxC, flxC] at *
    by_cases hc : chkE t = 0
    · cases hp : posF t.fl id with
      | none =>
        have hpl : plE t id = 8 := by unfold plE; rw [if_neg (not_not_intro hc), hp]; rfl
        have hff : findF t id = F0 := if_pos (by rw [hpl]; decide)
        rw [hff] at h1 h4 ⊢
        have hix : idxZ (none : Option Nat) = -1 := rfl
        rw [hpl]
        refine zd (id := 6) ?_; refine za (zt L (vs := [_, _]) (zn rfl) rfl rfl rfl rfl ⟨_, rfl⟩) rfl ?_; refine za (zp L rfl rfl (zg rfl) rfl rfl rfl (fun u H hH hle _ => rcheck_ret hz (hs1.le hle) hZ hX hn2 hc hH)) rfl ?_; refine za (ze rfl rfl rfl) rfl ?_; refine zh ?_; refine zj ?_; refine zf ?_; refine zd (id := 7) ?_; refine za (zt L (vs := [_, _]) (zn rfl) rfl rfl rfl rfl ⟨_, rfl⟩) rfl ?_; refine za (zc rfl rfl rfl) rfl ?_; refine za (zp (r := .int .i64 (-1)) L rfl rfl (zg rfl) rfl rfl rfl (fun u H hH hle _ => (by have h9 := rat_ret (id := id) hz (hs1.le hle) hH; rw [hp] at h9; exact h9))) rfl ?_; refine za (ze rfl rfl rfl) rfl ?_; refine zh ?_; refine zj ?_; refine zf ?_; refine zf ?_; refine zd (id := 8) ?_; refine za (zc rfl rfl rfl) rfl ?_; refine za (qn rfl rfl rfl rfl (decide_eq_true (by omega))) rfl ?_; refine za (zc rfl rfl rfl) rfl ?_; refine za (zc rfl rfl rfl) rfl ?_; refine za (zy rfl rfl rfl rfl (decide_eq_true (by omega))) rfl ?_; refine za (zm rfl rfl rfl rfl) rfl ?_; refine zh ?_; refine zj ?_; refine zw rfl ?_; refine zd (id := 9) ?_; refine za (ze rfl rfl rfl) rfl ?_; refine zh ?_; refine zj ?_; refine zf ?_
        refine zd (id := 10) ?_; refine za (zt L (vs := [_, _]) (zn rfl) rfl rfl rfl rfl ⟨_, rfl⟩) rfl ?_; refine za (zc rfl rfl rfl) rfl ?_; refine za (zc rfl rfl rfl) rfl ?_; refine za (ok_call (φ := RTabS (cmT t id st) (cmE t id st)) L rfl rfl (zg rfl) rfl rfl rfl RTabS.mono (fun u H hH hle _ => Ret.mono (rcommit_ret hz (hs1.le hle) hZ hX hn2 (by omega) hst hH) fun v H' _ h => RTabP.tup h)) rfl ?_; refine za (qb rfl rfl rfl) rfl ?_; refine za (yd rfl rfl rfl rfl (by assumption)) rfl ?_; refine za (qz rfl rfl rfl rfl) rfl ?_; refine za (qq L rfl rfl rfl rfl) rfl ?_; refine za (ok_storeX L (X := SlX) (tbxC (cmT t id st)) (TbX (cmT t id st)) TbX.mono tbx_st (fun _ => ⟨rfl, rfl⟩) rfl rfl rfl rfl rfl) rfl ?_; refine za (ze rfl rfl rfl) rfl ?_; refine zh ?_; refine zj ?_; refine zf ?_
        refine V_opnX 16 rfl fun ⟨p5, n5, c5⟩ H5 s5 ⟨zs5, hz5, hs5⟩ => ?_
        have hs1 := hs1.le s5.le
        refine zd (id := 11) ?_; refine za (zt L (vs := [_, _]) (zn rfl) rfl rfl rfl rfl ⟨_, rfl⟩) rfl ?_; refine za (zc rfl rfl rfl) rfl ?_; refine za (ok_call (φ := RTabS (ldT t id) (8)) L rfl rfl (zg rfl) rfl rfl rfl RTabS.mono (fun u H hH hle _ => Ret.mono (rland_ret hz (hs1.le hle) hZ hX hn2 (by omega) hH) fun v H' _ h => (by have h9 := RTabP.tup h; rw [hpl] at h9; exact h9))) rfl ?_; refine za (qb rfl rfl rfl) rfl ?_; refine za (yd rfl rfl rfl rfl (by assumption)) rfl ?_; refine za (qz rfl rfl rfl rfl) rfl ?_; refine za (qq L rfl rfl rfl rfl) rfl ?_; refine za (ok_storeX L (X := SlX) (tbxC (ldT t id)) (TbX (ldT t id)) TbX.mono tbx_st (fun _ => ⟨rfl, rfl⟩) rfl rfl rfl rfl rfl) rfl ?_; refine za (ze rfl rfl rfl) rfl ?_; refine zh ?_; refine zj ?_; refine zf ?_; refine zf ?_
        refine V_opnX 18 rfl fun ⟨p6, n6, c6⟩ H6 s6 ⟨zs6, hz6, hs6⟩ => ?_
        have hs2 := hs2.le ((s3.le.trans s4.le).trans (s5.le.trans s6.le))
        have hs3 := hs3.le (s4.le.trans (s5.le.trans s6.le))
        have hs5 := hs5.le s6.le
        have hs1 := hs1.le s6.le
        dsimp only [tbxC] at *
        refine q0 (id := 12) [] mixed (by kernel_rfl) ?_; refine zb (zc rfl rfl rfl) rfl ?_; refine zb (zc rfl rfl rfl) rfl ?_; refine zb (q9 rfl rfl rfl rfl (decide_eq_false (by omega))) rfl ?_; refine zb (zc rfl rfl rfl) rfl ?_; refine zb (zc rfl rfl rfl) rfl ?_; refine zb (zc rfl rfl rfl) rfl ?_; refine zb (q9 rfl rfl rfl rfl (decide_eq_false (by omega))) rfl ?_; refine zb (zm rfl rfl rfl rfl) rfl ?_; refine zb (zc rfl rfl rfl) rfl ?_; refine zb (zc rfl rfl rfl) rfl ?_; refine zb (zc rfl rfl rfl) rfl ?_; refine zb (q9 rfl rfl rfl rfl (decide_eq_false (by omega))) rfl ?_; refine zb (zm rfl rfl rfl rfl) rfl ?_; refine zb (zc rfl rfl rfl) rfl ?_; refine zb (zc rfl rfl rfl) rfl ?_; refine zb (zc rfl rfl rfl) rfl ?_; refine zb (q9 rfl rfl rfl rfl (decide_eq_false (by omega))) rfl ?_; refine zb (zm rfl rfl rfl rfl) rfl ?_; refine zb (zc rfl rfl rfl) rfl ?_; refine zb (zt L (vs := [_, _]) (qh rfl) rfl rfl rfl rfl ⟨_, rfl⟩) rfl ?_; refine zb (zt L (vs := [_, _]) (qh rfl) rfl rfl rfl rfl ⟨_, rfl⟩) rfl ?_; refine zb (zp (r := .int .i64 1) L rfl rfl (zg rfl) rfl rfl rfl (fun u H hH hle _ => rsame_ret hz2 hz5 (if_pos ⟨rfl, rfl⟩) (hs2.le hle) (hs5.le hle) hH)) rfl ?_; refine zb (zt L (vs := [_, _]) (qh rfl) rfl rfl rfl rfl ⟨_, rfl⟩) rfl ?_; refine zb (zt L (vs := [_, _]) (qh rfl) rfl rfl rfl rfl ⟨_, rfl⟩) rfl ?_; refine zb (zp (r := .int .i64 1) L rfl rfl (zg rfl) rfl rfl rfl (fun u H hH hle _ => rsame_ret hz3 hz6 (if_pos ⟨rfl, rfl⟩) (hs3.le hle) (hs6.le hle) hH)) rfl ?_; refine zb (ok_mul rfl rfl rfl rfl (wrap_i64 (by omega) (by omega))) rfl ?_; refine zb (qn rfl rfl rfl rfl (decide_eq_false (by omega))) rfl ?_; refine zb (zm rfl rfl rfl rfl) rfl ?_; refine qe ?_; refine zj ?_; refine zo rfl ?_; refine zu ?_; refine zj ?_; refine zf ?_; refine zd (id := 14) ?_; refine za (qq L rfl rfl rfl rfl) rfl ?_; refine zh ?_; refine zj ?_; refine zf ?_; refine zf ?_
        refine zd (id := 15) ?_; refine za (zc rfl rfl rfl) rfl ?_; refine za (qn rfl rfl rfl rfl (decide_eq_false (by omega))) rfl ?_; refine zh ?_; refine zj ?_; refine zo rfl ?_; refine zu ?_; refine zj ?_; refine zf ?_
        have hi1 : IsV F0.is true (.slice p1 n1 c1) H6 := FlX.mono _ _ _ h1 (((((s2.le.trans s3.le).trans s4.le).trans s5.le)).trans s6.le)
        have hi4 : IsV F0.is true (.slice p4 n4 c4) H6 := FlX.mono _ _ _ h4 (s5.le.trans s6.le)
        have hi0 : ∀ H : Heap, IsV F0.is false (.slice none 0 0) H := fun H => @SlV.nil tyI 5 false H
        have hil : F0.is.length ≤ 4611686018427387904 := by decide
        refine V_box 7 rfl fun b7 hb7 => ?_
        refine q0 (id := 17) [] mixed (by kernel_rfl) ?_; refine zb (zt L (vs := [_, _, _, _, _, _, _, _, _, _, _, _, _, _]) (src_box rfl (List.Mem.head _)) rfl rfl rfl rfl ⟨_, rfl⟩) rfl ?_; refine zb (zt L (vs := [_, _, _, _, _, _, _, _, _, _, _, _, _, _]) (qh rfl) rfl rfl rfl rfl ⟨_, rfl⟩) rfl ?_; refine zb (zp (r := .int .i64 1) L rfl rfl (zg rfl) rfl rfl rfl (fun u H hH hle _ => rsf_ret (f := F0) (g := F0) hil hil (if_pos rfl) (hi1.le hle) (hi0 H) hH)) rfl ?_; refine zb (zt L (vs := [_, _, _, _, _, _, _, _, _, _, _, _, _, _]) (qh rfl) rfl rfl rfl rfl ⟨_, rfl⟩) rfl ?_; refine zb (zt L (vs := [_, _, _, _, _, _, _, _, _, _, _, _, _, _]) (qh rfl) rfl rfl rfl rfl ⟨_, rfl⟩) rfl ?_; refine zb (zp (r := .int .i64 1) L rfl rfl (zg rfl) rfl rfl rfl (fun u H hH hle _ => rsf_ret (f := F0) (g := F0) hil hil (if_pos rfl) (hi4.le hle) (hi0 H) hH)) rfl ?_; refine zb (ok_mul rfl rfl rfl rfl (wrap_i64 (by omega) (by omega))) rfl ?_; refine zb (qn rfl rfl rfl rfl (decide_eq_true (by omega))) rfl ?_; refine zb (zc rfl rfl rfl) rfl ?_; refine zb (qm L rfl rfl rfl rfl) rfl ?_; refine zb (StepOK.seeV (zl L (src_box rfl (List.Mem.head _)) rfl rfl rfl rfl) (by assumption)) rfl ?_; refine zb (ok_capV L rfl rfl rfl rfl) rfl ?_; refine zb (qm L rfl rfl rfl rfl) rfl ?_; refine zb (StepOK.seeV (zl L (src_box rfl (List.Mem.head _)) rfl rfl rfl rfl) (by assumption)) rfl ?_; refine zb (y7 L rfl rfl rfl rfl) rfl ?_; refine zb (qn rfl rfl rfl rfl (decide_eq_true (by omega))) rfl ?_; refine zb (zm rfl rfl rfl rfl) rfl ?_; refine zb (zc rfl rfl rfl) rfl ?_; refine zb (zp L rfl rfl (zg rfl) rfl rfl rfl (fun u H hH _ _ => lives_law hH)) rfl ?_; refine zb (zm rfl rfl rfl rfl) rfl ?_; refine zb (ze rfl rfl rfl) rfl ?_; refine qe ?_; refine zj ?_
        refine qd L (rs := [.tmp 6]) rfl (fun _ _ h => h) (((((s1.trans s2).trans s3).trans s4).trans s5).trans s6) fun u H hH hle => ?_
        rfl
      | some k =>
        have hpl : plE t id = 0 := by unfold plE; rw [if_neg (not_not_intro hc), hp]; rfl
        obtain ⟨f, hf, hid⟩ := idx_lt hp
        have hk : k < zs.length := by have := get_lt hf; omega
        obtain ⟨f', p, c, hzi, hli, hzv, hil, hc14⟩ := hs1.at hz hk
        rw [hf] at hli
        cases hli
        have hff : findF t id = f := findF_eq hpl hp hf
        rw [hff] at h1 h4 ⊢
        have hix : idxZ (some k) = (k : Int) := rfl
        rw [hpl]
        refine zd (id := 6) ?_; refine za (zt L (vs := [_, _]) (zn rfl) rfl rfl rfl rfl ⟨_, rfl⟩) rfl ?_; refine za (zp L rfl rfl (zg rfl) rfl rfl rfl (fun u H hH hle _ => rcheck_ret hz (hs1.le hle) hZ hX hn2 hc hH)) rfl ?_; refine za (ze rfl rfl rfl) rfl ?_; refine zh ?_; refine zj ?_; refine zf ?_; refine zd (id := 7) ?_; refine za (zt L (vs := [_, _]) (zn rfl) rfl rfl rfl rfl ⟨_, rfl⟩) rfl ?_; refine za (zc rfl rfl rfl) rfl ?_; refine za (zp (r := .int .i64 (k : Int)) L rfl rfl (zg rfl) rfl rfl rfl (fun u H hH hle _ => (by have h9 := rat_ret (id := id) hz (hs1.le hle) hH; rw [hp] at h9; exact h9))) rfl ?_; refine za (ze rfl rfl rfl) rfl ?_; refine zh ?_; refine zj ?_; refine zf ?_; refine zf ?_; refine zd (id := 8) ?_; refine za (zc rfl rfl rfl) rfl ?_; refine za (qn rfl rfl rfl rfl (decide_eq_true (by omega))) rfl ?_; refine za (zc rfl rfl rfl) rfl ?_; refine za (zc rfl rfl rfl) rfl ?_; refine za (zy rfl rfl rfl rfl (decide_eq_false (by omega))) rfl ?_; refine za (zm rfl rfl rfl rfl) rfl ?_; refine zh ?_; refine zj ?_; refine zo rfl ?_; refine zu ?_; refine zj ?_; refine zf ?_
        refine zd (id := 10) ?_; refine za (zt L (vs := [_, _]) (zn rfl) rfl rfl rfl rfl ⟨_, rfl⟩) rfl ?_; refine za (zc rfl rfl rfl) rfl ?_; refine za (zc rfl rfl rfl) rfl ?_; refine za (ok_call (φ := RTabS (cmT t id st) (cmE t id st)) L rfl rfl (zg rfl) rfl rfl rfl RTabS.mono (fun u H hH hle _ => Ret.mono (rcommit_ret hz (hs1.le hle) hZ hX hn2 (by omega) hst hH) fun v H' _ h => RTabP.tup h)) rfl ?_; refine za (qb rfl rfl rfl) rfl ?_; refine za (yd rfl rfl rfl rfl (by assumption)) rfl ?_; refine za (qz rfl rfl rfl rfl) rfl ?_; refine za (qq L rfl rfl rfl rfl) rfl ?_; refine za (ok_storeX L (X := SlX) (tbxC (cmT t id st)) (TbX (cmT t id st)) TbX.mono tbx_st (fun _ => ⟨rfl, rfl⟩) rfl rfl rfl rfl rfl) rfl ?_; refine za (ze rfl rfl rfl) rfl ?_; refine zh ?_; refine zj ?_; refine zf ?_
        refine V_opnX 16 rfl fun ⟨p5, n5, c5⟩ H5 s5 ⟨zs5, hz5, hs5⟩ => ?_
        have hs1 := hs1.le s5.le
        refine zd (id := 11) ?_; refine za (zt L (vs := [_, _]) (zn rfl) rfl rfl rfl rfl ⟨_, rfl⟩) rfl ?_; refine za (zc rfl rfl rfl) rfl ?_; refine za (ok_call (φ := RTabS (ldT t id) (0)) L rfl rfl (zg rfl) rfl rfl rfl RTabS.mono (fun u H hH hle _ => Ret.mono (rland_ret hz (hs1.le hle) hZ hX hn2 (by omega) hH) fun v H' _ h => (by have h9 := RTabP.tup h; rw [hpl] at h9; exact h9))) rfl ?_; refine za (qb rfl rfl rfl) rfl ?_; refine za (yd rfl rfl rfl rfl (by assumption)) rfl ?_; refine za (qz rfl rfl rfl rfl) rfl ?_; refine za (qq L rfl rfl rfl rfl) rfl ?_; refine za (ok_storeX L (X := SlX) (tbxC (ldT t id)) (TbX (ldT t id)) TbX.mono tbx_st (fun _ => ⟨rfl, rfl⟩) rfl rfl rfl rfl rfl) rfl ?_; refine za (ze rfl rfl rfl) rfl ?_; refine zh ?_; refine zj ?_; refine zf ?_; refine zf ?_
        refine V_opnX 18 rfl fun ⟨p6, n6, c6⟩ H6 s6 ⟨zs6, hz6, hs6⟩ => ?_
        have hs2 := hs2.le ((s3.le.trans s4.le).trans (s5.le.trans s6.le))
        have hs3 := hs3.le (s4.le.trans (s5.le.trans s6.le))
        have hs5 := hs5.le s6.le
        have hs1 := hs1.le s6.le
        dsimp only [tbxC] at *
        refine q0 (id := 12) [] mixed (by kernel_rfl) ?_; refine zb (zc rfl rfl rfl) rfl ?_; refine zb (zc rfl rfl rfl) rfl ?_; refine zb (q9 rfl rfl rfl rfl (decide_eq_false (by omega))) rfl ?_; refine zb (zc rfl rfl rfl) rfl ?_; refine zb (zc rfl rfl rfl) rfl ?_; refine zb (zc rfl rfl rfl) rfl ?_; refine zb (q9 rfl rfl rfl rfl (decide_eq_false (by omega))) rfl ?_; refine zb (zm rfl rfl rfl rfl) rfl ?_; refine zb (zc rfl rfl rfl) rfl ?_; refine zb (zc rfl rfl rfl) rfl ?_; refine zb (zc rfl rfl rfl) rfl ?_; refine zb (q9 rfl rfl rfl rfl (decide_eq_false (by omega))) rfl ?_; refine zb (zm rfl rfl rfl rfl) rfl ?_; refine zb (zc rfl rfl rfl) rfl ?_; refine zb (zc rfl rfl rfl) rfl ?_; refine zb (zc rfl rfl rfl) rfl ?_; refine zb (q9 rfl rfl rfl rfl (decide_eq_false (by omega))) rfl ?_; refine zb (zm rfl rfl rfl rfl) rfl ?_; refine zb (zc rfl rfl rfl) rfl ?_; refine zb (zt L (vs := [_, _]) (qh rfl) rfl rfl rfl rfl ⟨_, rfl⟩) rfl ?_; refine zb (zt L (vs := [_, _]) (qh rfl) rfl rfl rfl rfl ⟨_, rfl⟩) rfl ?_; refine zb (zp (r := .int .i64 1) L rfl rfl (zg rfl) rfl rfl rfl (fun u H hH hle _ => rsame_ret hz2 hz5 (if_pos ⟨rfl, rfl⟩) (hs2.le hle) (hs5.le hle) hH)) rfl ?_; refine zb (zt L (vs := [_, _]) (qh rfl) rfl rfl rfl rfl ⟨_, rfl⟩) rfl ?_; refine zb (zt L (vs := [_, _]) (qh rfl) rfl rfl rfl rfl ⟨_, rfl⟩) rfl ?_; refine zb (zp (r := .int .i64 1) L rfl rfl (zg rfl) rfl rfl rfl (fun u H hH hle _ => rsame_ret hz3 hz6 (if_pos ⟨rfl, rfl⟩) (hs3.le hle) (hs6.le hle) hH)) rfl ?_; refine zb (ok_mul rfl rfl rfl rfl (wrap_i64 (by omega) (by omega))) rfl ?_; refine zb (qn rfl rfl rfl rfl (decide_eq_false (by omega))) rfl ?_; refine zb (zm rfl rfl rfl rfl) rfl ?_; refine qe ?_; refine zj ?_; refine zo rfl ?_; refine zu ?_; refine zj ?_; refine zf ?_; refine zd (id := 14) ?_; refine za (qq L rfl rfl rfl rfl) rfl ?_; refine zh ?_; refine zj ?_; refine zf ?_; refine zf ?_
        have hsl := hs1.sl
        refine zd (id := 15) ?_; refine za (zc rfl rfl rfl) rfl ?_; refine za (qn rfl rfl rfl rfl (decide_eq_true (by omega))) rfl ?_; refine zh ?_; refine zj ?_; refine zw rfl ?_; refine zd (id := 16) ?_; refine za (zk L rfl rfl rfl rfl) rfl ?_; refine za (StepOK.seeV (zl L (zn rfl) rfl rfl rfl rfl) (by assumption)) rfl ?_; refine za (zc rfl rfl rfl) rfl ?_; refine za (ql L _ rfl rfl rfl rfl rfl rfl rfl (by first | omega | decide) (by assumption)) rfl ?_; refine za (yb L (vs := [_, _, _, _, _, _, _, _, _, _, _, _, _, _]) rfl rfl rfl rfl rfl ⟨_, rfl⟩) rfl ?_; refine za (qo L rfl rfl rfl rfl rfl rfl rfl rfl) rfl ?_; refine zh ?_; refine zj ?_; refine zf ?_
        have hi1 : IsV f.is true (.slice p1 n1 c1) H6 := FlX.mono _ _ _ h1 (((((s2.le.trans s3.le).trans s4.le).trans s5.le)).trans s6.le)
        have hi4 : IsV f.is true (.slice p4 n4 c4) H6 := FlX.mono _ _ _ h4 (s5.le.trans s6.le)
        have hi0 := hzv.le (s5.le.trans s6.le)
        refine V_box 7 rfl fun b7 hb7 => ?_
        refine q0 (id := 17) [] mixed (by kernel_rfl) ?_; refine zb (zt L (vs := [_, _, _, _, _, _, _, _, _, _, _, _, _, _]) (src_box rfl (List.Mem.head _)) rfl rfl rfl rfl ⟨_, rfl⟩) rfl ?_; refine zb (zt L (vs := [_, _, _, _, _, _, _, _, _, _, _, _, _, _]) (qh rfl) rfl rfl rfl rfl ⟨_, rfl⟩) rfl ?_; refine zb (zp (r := .int .i64 1) L rfl rfl (zg rfl) rfl rfl rfl (fun u H hH hle _ => rsf_ret (f := f) (g := f) hil hil (if_pos rfl) (hi1.le hle) (hi0.le hle) hH)) rfl ?_; refine zb (zt L (vs := [_, _, _, _, _, _, _, _, _, _, _, _, _, _]) (qh rfl) rfl rfl rfl rfl ⟨_, rfl⟩) rfl ?_; refine zb (zt L (vs := [_, _, _, _, _, _, _, _, _, _, _, _, _, _]) (qh rfl) rfl rfl rfl rfl ⟨_, rfl⟩) rfl ?_; refine zb (zp (r := .int .i64 1) L rfl rfl (zg rfl) rfl rfl rfl (fun u H hH hle _ => rsf_ret (f := f) (g := f) hil hil (if_pos rfl) (hi4.le hle) (hi0.le hle) hH)) rfl ?_; refine zb (ok_mul rfl rfl rfl rfl (wrap_i64 (by omega) (by omega))) rfl ?_; refine zb (qn rfl rfl rfl rfl (decide_eq_true (by omega))) rfl ?_; refine zb (zc rfl rfl rfl) rfl ?_; refine zb (qm L rfl rfl rfl rfl) rfl ?_; refine zb (StepOK.seeV (zl L (src_box rfl (List.Mem.head _)) rfl rfl rfl rfl) (by assumption)) rfl ?_; refine zb (ok_capV L rfl rfl rfl rfl) rfl ?_; refine zb (qm L rfl rfl rfl rfl) rfl ?_; refine zb (StepOK.seeV (zl L (src_box rfl (List.Mem.head _)) rfl rfl rfl rfl) (by assumption)) rfl ?_; refine zb (y7 L rfl rfl rfl rfl) rfl ?_; refine zb (qn rfl rfl rfl rfl (decide_eq_true (by omega))) rfl ?_; refine zb (zm rfl rfl rfl rfl) rfl ?_; refine zb (zc rfl rfl rfl) rfl ?_; refine zb (zp L rfl rfl (zg rfl) rfl rfl rfl (fun u H hH _ _ => lives_law hH)) rfl ?_; refine zb (zm rfl rfl rfl rfl) rfl ?_; refine zb (ze rfl rfl rfl) rfl ?_; refine qe ?_; refine zj ?_
        refine qd L (rs := [.tmp 6]) rfl (fun _ _ h => h) (((((s1.trans s2).trans s3).trans s4).trans s5).trans s6) fun u H hH hle => ?_
        rfl
    · have hpl : plE t id = chkE t := (pl_chk hc).1
      have hff : findF t id = F0 := if_pos (by rw [hpl]; exact hc)
      rw [hff] at h1 h4 ⊢
      rw [hpl]
      refine zd (id := 6) ?_; refine za (zt L (vs := [_, _]) (zn rfl) rfl rfl rfl rfl ⟨_, rfl⟩) rfl ?_; refine za (zp L rfl rfl (zg rfl) rfl rfl rfl (fun u H hH hle _ => rcheck_ret hz (hs1.le hle) hZ hX hn2 rfl hH)) rfl ?_; refine za (ze rfl rfl rfl) rfl ?_; refine zh ?_; refine zj ?_; refine zf ?_; refine zd (id := 7) ?_; refine za (zt L (vs := [_, _]) (zn rfl) rfl rfl rfl rfl ⟨_, rfl⟩) rfl ?_; refine za (zc rfl rfl rfl) rfl ?_; refine za (zp L rfl rfl (zg rfl) rfl rfl rfl (fun u H hH hle _ => rat_ret hz (hs1.le hle) hH)) rfl ?_; refine za (ze rfl rfl rfl) rfl ?_; refine zh ?_; refine zj ?_; refine zf ?_; refine zf ?_; refine zd (id := 8) ?_; refine za (zc rfl rfl rfl) rfl ?_; refine za (qn rfl rfl rfl rfl (decide_eq_false (by omega))) rfl ?_; refine za (zc rfl rfl rfl) rfl ?_; refine za (zi rfl (zg rfl) rfl) rfl ?_; refine za (zi rfl (zg rfl) rfl) rfl ?_; refine za (zm rfl rfl rfl rfl) rfl ?_; refine zh ?_; refine zj ?_; refine zo rfl ?_; refine zu ?_; refine zj ?_; refine zf ?_
      refine zd (id := 10) ?_; refine za (zt L (vs := [_, _]) (zn rfl) rfl rfl rfl rfl ⟨_, rfl⟩) rfl ?_; refine za (zc rfl rfl rfl) rfl ?_; refine za (zc rfl rfl rfl) rfl ?_; refine za (ok_call (φ := RTabS (cmT t id st) (cmE t id st)) L rfl rfl (zg rfl) rfl rfl rfl RTabS.mono (fun u H hH hle _ => Ret.mono (rcommit_ret hz (hs1.le hle) hZ hX hn2 (by omega) hst hH) fun v H' _ h => RTabP.tup h)) rfl ?_; refine za (qb rfl rfl rfl) rfl ?_; refine za (yd rfl rfl rfl rfl (by assumption)) rfl ?_; refine za (qz rfl rfl rfl rfl) rfl ?_; refine za (qq L rfl rfl rfl rfl) rfl ?_; refine za (ok_storeX L (X := SlX) (tbxC (cmT t id st)) (TbX (cmT t id st)) TbX.mono tbx_st (fun _ => ⟨rfl, rfl⟩) rfl rfl rfl rfl rfl) rfl ?_; refine za (ze rfl rfl rfl) rfl ?_; refine zh ?_; refine zj ?_; refine zf ?_
      refine V_opnX 16 rfl fun ⟨p5, n5, c5⟩ H5 s5 ⟨zs5, hz5, hs5⟩ => ?_
      have hs1 := hs1.le s5.le
      refine zd (id := 11) ?_; refine za (zt L (vs := [_, _]) (zn rfl) rfl rfl rfl rfl ⟨_, rfl⟩) rfl ?_; refine za (zc rfl rfl rfl) rfl ?_; refine za (ok_call (φ := RTabS (ldT t id) (chkE t)) L rfl rfl (zg rfl) rfl rfl rfl RTabS.mono (fun u H hH hle _ => Ret.mono (rland_ret hz (hs1.le hle) hZ hX hn2 (by omega) hH) fun v H' _ h => (by have h9 := RTabP.tup h; rw [hpl] at h9; exact h9))) rfl ?_; refine za (qb rfl rfl rfl) rfl ?_; refine za (yd rfl rfl rfl rfl (by assumption)) rfl ?_; refine za (qz rfl rfl rfl rfl) rfl ?_; refine za (qq L rfl rfl rfl rfl) rfl ?_; refine za (ok_storeX L (X := SlX) (tbxC (ldT t id)) (TbX (ldT t id)) TbX.mono tbx_st (fun _ => ⟨rfl, rfl⟩) rfl rfl rfl rfl rfl) rfl ?_; refine za (ze rfl rfl rfl) rfl ?_; refine zh ?_; refine zj ?_; refine zf ?_; refine zf ?_
      refine V_opnX 18 rfl fun ⟨p6, n6, c6⟩ H6 s6 ⟨zs6, hz6, hs6⟩ => ?_
      have hs2 := hs2.le ((s3.le.trans s4.le).trans (s5.le.trans s6.le))
      have hs3 := hs3.le (s4.le.trans (s5.le.trans s6.le))
      have hs5 := hs5.le s6.le
      have hs1 := hs1.le s6.le
      dsimp only [tbxC] at *
      refine q0 (id := 12) [] mixed (by kernel_rfl) ?_; refine zb (zc rfl rfl rfl) rfl ?_; refine zb (zc rfl rfl rfl) rfl ?_; refine zb (q9 rfl rfl rfl rfl (decide_eq_false (by omega))) rfl ?_; refine zb (zc rfl rfl rfl) rfl ?_; refine zb (zc rfl rfl rfl) rfl ?_; refine zb (zc rfl rfl rfl) rfl ?_; refine zb (q9 rfl rfl rfl rfl (decide_eq_false (by omega))) rfl ?_; refine zb (zm rfl rfl rfl rfl) rfl ?_; refine zb (zc rfl rfl rfl) rfl ?_; refine zb (zc rfl rfl rfl) rfl ?_; refine zb (zc rfl rfl rfl) rfl ?_; refine zb (q9 rfl rfl rfl rfl (decide_eq_false (by omega))) rfl ?_; refine zb (zm rfl rfl rfl rfl) rfl ?_; refine zb (zc rfl rfl rfl) rfl ?_; refine zb (zc rfl rfl rfl) rfl ?_; refine zb (zc rfl rfl rfl) rfl ?_; refine zb (q9 rfl rfl rfl rfl (decide_eq_false (by omega))) rfl ?_; refine zb (zm rfl rfl rfl rfl) rfl ?_; refine zb (zc rfl rfl rfl) rfl ?_; refine zb (zt L (vs := [_, _]) (qh rfl) rfl rfl rfl rfl ⟨_, rfl⟩) rfl ?_; refine zb (zt L (vs := [_, _]) (qh rfl) rfl rfl rfl rfl ⟨_, rfl⟩) rfl ?_; refine zb (zp (r := .int .i64 1) L rfl rfl (zg rfl) rfl rfl rfl (fun u H hH hle _ => rsame_ret hz2 hz5 (if_pos ⟨rfl, rfl⟩) (hs2.le hle) (hs5.le hle) hH)) rfl ?_; refine zb (zt L (vs := [_, _]) (qh rfl) rfl rfl rfl rfl ⟨_, rfl⟩) rfl ?_; refine zb (zt L (vs := [_, _]) (qh rfl) rfl rfl rfl rfl ⟨_, rfl⟩) rfl ?_; refine zb (zp (r := .int .i64 1) L rfl rfl (zg rfl) rfl rfl rfl (fun u H hH hle _ => rsame_ret hz3 hz6 (if_pos ⟨rfl, rfl⟩) (hs3.le hle) (hs6.le hle) hH)) rfl ?_; refine zb (ok_mul rfl rfl rfl rfl (wrap_i64 (by omega) (by omega))) rfl ?_; refine zb (qn rfl rfl rfl rfl (decide_eq_false (by omega))) rfl ?_; refine zb (zm rfl rfl rfl rfl) rfl ?_; refine qe ?_; refine zj ?_; refine zo rfl ?_; refine zu ?_; refine zj ?_; refine zf ?_; refine zd (id := 14) ?_; refine za (qq L rfl rfl rfl rfl) rfl ?_; refine zh ?_; refine zj ?_; refine zf ?_; refine zf ?_
      refine zd (id := 15) ?_; refine za (zc rfl rfl rfl) rfl ?_; refine za (qn rfl rfl rfl rfl (decide_eq_false (by omega))) rfl ?_; refine zh ?_; refine zj ?_; refine zo rfl ?_; refine zu ?_; refine zj ?_; refine zf ?_
      have hi1 : IsV F0.is true (.slice p1 n1 c1) H6 := FlX.mono _ _ _ h1 (((((s2.le.trans s3.le).trans s4.le).trans s5.le)).trans s6.le)
      have hi4 : IsV F0.is true (.slice p4 n4 c4) H6 := FlX.mono _ _ _ h4 (s5.le.trans s6.le)
      have hi0 : ∀ H : Heap, IsV F0.is false (.slice none 0 0) H := fun H => @SlV.nil tyI 5 false H
      have hil : F0.is.length ≤ 4611686018427387904 := by decide
      refine V_box 7 rfl fun b7 hb7 => ?_
      refine q0 (id := 17) [] mixed (by kernel_rfl) ?_; refine zb (zt L (vs := [_, _, _, _, _, _, _, _, _, _, _, _, _, _]) (src_box rfl (List.Mem.head _)) rfl rfl rfl rfl ⟨_, rfl⟩) rfl ?_; refine zb (zt L (vs := [_, _, _, _, _, _, _, _, _, _, _, _, _, _]) (qh rfl) rfl rfl rfl rfl ⟨_, rfl⟩) rfl ?_; refine zb (zp (r := .int .i64 1) L rfl rfl (zg rfl) rfl rfl rfl (fun u H hH hle _ => rsf_ret (f := F0) (g := F0) hil hil (if_pos rfl) (hi1.le hle) (hi0 H) hH)) rfl ?_; refine zb (zt L (vs := [_, _, _, _, _, _, _, _, _, _, _, _, _, _]) (qh rfl) rfl rfl rfl rfl ⟨_, rfl⟩) rfl ?_; refine zb (zt L (vs := [_, _, _, _, _, _, _, _, _, _, _, _, _, _]) (qh rfl) rfl rfl rfl rfl ⟨_, rfl⟩) rfl ?_; refine zb (zp (r := .int .i64 1) L rfl rfl (zg rfl) rfl rfl rfl (fun u H hH hle _ => rsf_ret (f := F0) (g := F0) hil hil (if_pos rfl) (hi4.le hle) (hi0 H) hH)) rfl ?_; refine zb (ok_mul rfl rfl rfl rfl (wrap_i64 (by omega) (by omega))) rfl ?_; refine zb (qn rfl rfl rfl rfl (decide_eq_true (by omega))) rfl ?_; refine zb (zc rfl rfl rfl) rfl ?_; refine zb (qm L rfl rfl rfl rfl) rfl ?_; refine zb (StepOK.seeV (zl L (src_box rfl (List.Mem.head _)) rfl rfl rfl rfl) (by assumption)) rfl ?_; refine zb (ok_capV L rfl rfl rfl rfl) rfl ?_; refine zb (qm L rfl rfl rfl rfl) rfl ?_; refine zb (StepOK.seeV (zl L (src_box rfl (List.Mem.head _)) rfl rfl rfl rfl) (by assumption)) rfl ?_; refine zb (y7 L rfl rfl rfl rfl) rfl ?_; refine zb (qn rfl rfl rfl rfl (decide_eq_true (by omega))) rfl ?_; refine zb (zm rfl rfl rfl rfl) rfl ?_; refine zb (zc rfl rfl rfl) rfl ?_; refine zb (zp L rfl rfl (zg rfl) rfl rfl rfl (fun u H hH _ _ => lives_law hH)) rfl ?_; refine zb (zm rfl rfl rfl rfl) rfl ?_; refine zb (ze rfl rfl rfl) rfl ?_; refine qe ?_; refine zj ?_
      refine qd L (rs := [.tmp 6]) rfl (fun _ _ h => h) (((((s1.trans s2).trans s3).trans s4).trans s5).trans s6) fun u H hH hle => ?_
      rfl
end Go.V.L39
namespace Go.V.L39
open Go.Proofs Go.RowKit Go.V
end Go.V.L39
namespace Go.V.L39
open Go.Proofs Go.RowKit Go.V
def QuR (l : List Fl) (v : Value) (H : Heap) : Prop := ∃ sv, v = .agg #[sv] ∧ SlV tyE 3 (l.flatMap enc3) l.length true sv H
theorem QuR.mn {l : List Fl} : Kn.mono (.sat (QuR l)) := fun _ _ _ ⟨sv, h1, h2⟩ hle => ⟨sv, h1, h2.le hle⟩
abbrev QueS (l : List Fl) (e : Int) : Value → Heap → Prop := TupS [QuR l, fun v _ => v = .int .i64 e]
theorem QueS.mono {l : List Fl} {e : Int} : Kn.mono (.sat (QueS l e)) := TupS.mono fun φ h => by
  simp only [List.mem_cons, List.mem_nil_iff, or_false] at h
  rcases h with rfl | rfl
  · exact QuR.mn
  · exact eqv_mono
theorem QueP.tup {l : List Fl} {e : Int} {v : Value} {H : Heap} (h : QueP l e v H) : QueS l e v H := by
  obtain ⟨sv, rfl, h⟩ := h
  exact tup2 ⟨sv, rfl, h⟩ rfl
def QuX (l : List Fl) (x : SlX) (H : Heap) : Prop := SlV tyE 3 (l.flatMap enc3) l.length true (.slice x.1 x.2.1 x.2.2) H
theorem QuX.mono {l : List Fl} : MonoX (QuX l) := fun _ _ _ h hle => SlV.mono _ _ _ h hle
attribute [local irreducible] V N X VO Par StepOK Has Ret RetL RetO RetT RetG Src
end Go.V.L39
namespace Go.V.L39
open Go.Proofs Go.RowKit Go.V
theorem flightsCalls_in {W : World} {cs : List Value} {id st : Int} (l0 : Parts (TbPs (hp W)) cs) (z2 : (Lit.int .i64 st).wf = true) : Ret Try.prog 4 [.agg cs.toArray, .int .i64 id, .int .i64 st] W (hp W) (fun v _ => v = .bool true) := by
  obtain ⟨t, s, zs, rfl, hI, _⟩ := tb_of l0
  exact calls_law (Go.bounds_i64 z2) hI (Heap.Le.refl _)
end Go.V.L39
namespace Go.Proofs.Ytfihdmobfmkclaa.flightsCalls
open Go.ChangeShapes Go.WideShapes Go.ChangeAt Go.ChangeMaps Go.RowKit Go.V Go.V.L39
theorem own : ownKnob Try.prog.godebug = none := by kernel_rfl
theorem laidOut : laidOutB Try.prog = true := by kernel_rfl
theorem la0 : (match Try.prog.underlying 24 with | some (.struct _) | some (.array _ _) => true | _ => false) = true := by kernel_rfl
theorem lr1 : Try.prog.readableRec 24 = true := by kernel_rfl
theorem lt1 : 24 < Try.prog.types.size := of_decide_eq_true (by kernel_rfl)
theorem lf2 : leafI Try.prog 20 3 = some [.i .i64] := by kernel_rfl
theorem lo2 : Try.prog.underlying 3 = some (.int .i64) := by kernel_rfl
theorem lr3 : Try.prog.readableRec 3 = true := by kernel_rfl
theorem lt3 : 3 < Try.prog.types.size := of_decide_eq_true (by kernel_rfl)
set_option maxRecDepth 100000 in
theorem lifted (os : Os) (started : os.Started) (H : Type) (enc : TypeId × Value → H) :
    ReturnsInHanded {} Try.checked os 4 .any (Rows.flightsCallsSpec.pre6 enc Try.prog Try.f4 Rows.flightsCallsRow.domain false) (Rows.flightsCallsSpec.post enc Try.prog Try.f4 false true false false) := by
  refine returnsInHanded_of_change_shaped (C := Try.checked) own started (by kernel_rfl) Try.func4
    (ChangeSpec.witness6 (enc := enc) (C := Try.checked) false ⟨#[], #[.agg #[.int .i64 0, .slice none 0 0], .int .i64 0, .int .i64 0], []⟩ 8 (by kernel_rfl) (by kernel_rfl) (by kernel_rfl) (by kernel_rfl)) ?_
  intro W base args ds gs before hval0 hW hcnd hsz hsh _
  have hval : ∀ (j : Nat) t v, Try.f4.params[j]? = some t → args[j]? = some v → Value.okWide Try.prog W .any base t v := hval0
  have hW' := hW
  obtain ⟨p, q, hA0, hV, rfl, hfz, hnd⟩ := hW
  have hA : DataW.TrodAll enc Try.prog W 0 (fun _ => true) true Try.f4.params.toList args.toList ds p := hA0
  rw [Try.params4] at hA hval hsz
  obtain ⟨v0, v1, v2, d0, d1, d2, p0, p1, p2, rfl, rfl, rfl, h0, h1, h2⟩ := trodAll_three hA
  obtain ⟨rfl, rfl⟩ := trodVars_none hV
  clear hA0 hval0
  obtain ⟨c0, rfl, l0⟩ := open_agD reads_tb la0 (hval 0 24 v0 rfl rfl) h0 (wt_at hsz 0 rfl rfl)
  obtain ⟨id, rfl, zid, rfl⟩ := open_one lf2 lo2 (hval 1 3 v1 rfl rfl) h1
  obtain ⟨st, rfl, zst, rfl⟩ := open_one lf2 lo2 (hval 2 3 v2 rfl rfl) h2
  have hplc := hW'.lt
  simp only [List.append_nil] at hW'
  have hlaw := Go.V.L39.flightsCalls_in (id := id) l0 zst
  unfold Ret at hlaw
  refine hlaw.mono fun e W' hp => ?_
  obtain ⟨v, rfl, H', g, rfl⟩ := hp
  refine ⟨_, rfl, _, _, _, [], p0 ++ ([] ++ ([] ++ ([]))), [], hW', trodAll_cons_mk (shut_bool Try.underlying4 _) trodAll_mk0, ?_, rfl, g.below.frame _, fun h => by cases h⟩
  exact trodAll_cons_mk (Below.trod laidOut lr1 lt1 h0 g.below (fun x hx => hplc x (by simp [hx]))) (trodAll_cons_mk (Below.trod laidOut lr3 lt3 h1 g.below (fun x hx => by cases hx)) (trodAll_cons_mk (Below.trod laidOut lr3 lt3 h2 g.below (fun x hx => by cases hx)) trodAll_mk0))
theorem proved : Rows.FlightsCallsSaid :=
  OpenClaim.holds_of_wide 4 Try.f4 rfl rfl rfl rfl rfl rfl rfl ⟨rfl, rfl, rfl, rfl, rfl⟩ rfl rfl rfl rfl rfl (by kernel_rfl) Try.func4 (by kernel_rfl)
    (of_decide_eq_true (by kernel_rfl)) (by unfold Func.isWrapper; first | (rw [if_pos (by decide +kernel)]; kernel_rfl) | (rw [if_neg (by decide +kernel)]; exact ⟨rfl, rfl⟩))
    (fun os started H enc _ => lifted os started H enc)
#print axioms proved
end Go.Proofs.Ytfihdmobfmkclaa.flightsCalls
