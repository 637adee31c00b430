/- StoresPlay returns true for every input, and leaves it as it was: no condition. -/
import Derived.Test.YtcppaheijljnfaaGreatStoresPlayM6
import Derived.ProofKit
import Derived.HandedShaped
import Derived.OpenShut
import Derived.Carry
import Derived.Deep.Slices
import Derived.SizedLaws
import Derived.Test.YtcppaheijljnfaaGreatRows
set_option linter.unusedVariables false
set_option linter.unusedSimpArgs false
set_option maxRecDepth 20000
namespace Go.V.L10
open Go.Proofs Go.RowKit Go.V Go.V.L2 Go.V.L8 Go.V.L6
abbrev z5c : Nat := 23
abbrev Cl10S (S : Sto) (g : List Int) (e : Int) : Value → Heap → Prop := TupS [RsS S, RsV g false, fun v _ => v = .int .i64 e]
theorem Cl10S.mono {S : Sto} {g : List Int} {e : Int} : Kn.mono (.sat (Cl10S S g e)) := TupS.mono fun ψ hψ => by
 simp only [List.mem_cons, List.mem_nil_iff, or_false] at hψ
 rcases hψ with rfl | rfl | rfl
 ·exact RsS.mono
 ·exact SlV.mono
 ·exact fun _ _ _ h _ => h
theorem Cl10P.tup {S : Sto} {g : List Int} {e : Int} {v : Value} {H : Heap} (h : Cl10P S g e v H) : Cl10S S g e v H := by
 obtain ⟨a, b, rfl, h1, h2⟩ := h
 refine ⟨[a, b, .int .i64 e], rfl, rfl, fun i ψ x hi hx => ?_⟩
 rcases i with _ | _ | _ | i
 ·cases hi; cases hx; exact h1
 ·cases hi; cases hx; exact h2
 ·cases hi; cases hx; rfl
 ·cases hi
attribute [local irreducible] V N X VO Par StepOK Has Ret RetL RetO RetT zcb zdt RetY Src
set_option maxHeartbeats 4000000 in
set_option maxRecDepth 20000 in
theorem zyw {S : Sto} {n pb b : Nat} {o : OO} (hj : JJ n S) (hn : n ≤ 100) (ho : OOK o) {ov : Value} {w : World} {B : Heap} {C : Nat → Prop} (hB : B.Le (hp w)) (hov : OvV o ov B) (hr : (BoG pb b S).P B w C) (hC : ∀ k, C k → k < w.heap.size ∧ B k = none) :
  RetY Tryz.prog z5c [zho pb, ov] w B C (BoG pb b (doS S o)) (fun v _ => v = .int .i64 1) := by
 obtain ⟨mv, cv, rfl, hmv, hcv⟩ := hov
 obtain ⟨p1, c1, rfl⟩ := zao hmv
 obtain ⟨p2, c2, rfl⟩ := zao hcv
 have hI := hj.I hn
 have hne := hj.ne
 have hR := hj.hR
 have hP := hj.hP
 have hem : Int.tmod ((o.wh : Nat) : Int) 8 = ((o.wh % 8 : Nat) : Int) := rfl
 have hrev := ho.rev
 unfold RetY
 refine zas 900 (BoG pb b S) Tryz.func23 rfl Tryz.ntmps23 (Nat.le_of_ble_eq_true rfl) hB hr hC ?_
 rw [zmy]
 refine zew 900 901 rfl (zar _) ?_
 rw [zmz]
 refine zd1 900 rfl fun x H hs0 hφ => ?_
 obtain ⟨lv, pv⟩ := x
 obtain ⟨hl, hpv⟩ := hφ
 dsimp only at hl hpv ⊢
 replace hmv := hmv.le hs0.le
 replace hcv := hcv.le hs0.le
 have hss : RsS S (.agg #[lv, pv]) H := ⟨lv, pv, rfl, hl, hpv⟩
 have hk8 : o.wh % 8 < 8 := Nat.mod_lt _ (by omega)
 unfold doS
 generalize o.wh % 8 = k at hem hk8 ⊢
 refine Z271 ?_; refine Z144 ?_; refine Z29 ?_; refine Z147 ?_; refine Z318 ?_; refine Z75 ?_; refine Z268 ?_; refine Z139 ?_
 refine ze8 (fun _ : Unit => [(0, .is (zho pb)), (3, .sat (At [.int .u8 o.wh, .slice p1 o.ms.length c1, .slice p2 o.cs.length c2, .int .u8 o.rv, .int .i64 o.kp] z0x 0)), (4, .is (.int .i64 0)), (5, .is (.int .i64 0)), (6, .is (.int .i64 0)), (13, .is (.int .u8 k)), (49, .is (.bool (decide (k < 4)))), (900, .own (zal pb [zho b, lv, pv] zyi)), (901, .own (StG b S).res)]) (fun _ => True) (fun _ => []) ?two ?one
 case one =>
  by_cases h0 : k = 0
  ·subst h0
   refine Z59 ?_; refine Z329 ?_; refine zw ?_
   exact za5 () Since.refl trivial rfl ⟨rfl, rfl, rfl, rfl, rfl, rfl, rfl, rfl, rfl, trivial⟩
  ·by_cases h1 : k = 1
   ·subst h1
    refine Z59 ?_; refine Z242 ?_; refine Z68 ?_; refine Z329 ?_; refine zw ?_
    exact za5 () Since.refl trivial rfl ⟨rfl, rfl, rfl, rfl, rfl, rfl, rfl, rfl, rfl, trivial⟩
   ·by_cases h2 : k = 2
    ·subst h2
     refine Z59 ?_; refine Z242 ?_; refine Z68 ?_; refine Z380 ?_; refine Z329 ?_; refine zw ?_
     exact za5 () Since.refl trivial rfl ⟨rfl, rfl, rfl, rfl, rfl, rfl, rfl, rfl, rfl, trivial⟩
    ·by_cases h3 : k = 3
     ·subst h3
      refine Z59 ?_; refine Z242 ?_; refine Z68 ?_; refine Z380 ?_; refine Z358 ?_; refine Z79 ?_; refine Z23 ?_; refine Z152 ?_
      exact za5 () Since.refl trivial rfl ⟨rfl, rfl, rfl, rfl, rfl, rfl, rfl, rfl, rfl, trivial⟩
     ·refine Z59 ?_; refine Z242 ?_; refine Z68 ?_; refine Z380 ?_; refine Z358 ?_; refine Z79 ?_; refine Z12 ?_; refine Z152 ?_
      rw [decide_eq_false (show ¬ k < 4 by omega)]
      exact za5 () Since.refl trivial rfl ⟨rfl, rfl, rfl, rfl, rfl, rfl, rfl, rfl, rfl, trivial⟩
 rintro _ _
 by_cases h4 : k < 4
 ·rw [decide_eq_true h4]
  obtain ⟨⟨S', rev, e⟩, hw⟩ : ∃ x, zej S (dOf o.ms) (dOf o.cs) = x := ⟨_, rfl⟩
  rw [if_pos h4, hw]
  dsimp only
  have hm1 := RsS.mono (S := S')
  refine Z13 ?_; refine Z387 ?_; refine Z199 ?_
  refine qd (id := 14) [(200058, [900]), (65, [901])] mixed (by kernel_rfl) ?_; refine Z330 ?_; refine Z47 ?_; refine z8 (zz L (vs := [_]) (qm rfl) rfl rfl rfl rfl ⟨_, rfl⟩) rfl ?_; refine z8 (yr (φ := KS tyM (dOf o.ms) false) L rfl rfl (zk rfl) rfl rfl rfl SlV.mono (fun u H hH hle _ => zuq rfl ho.ms ho.lm hH (hmv.le hle))) rfl ?_; refine Z47 ?_; refine z8 (zz L (vs := [_]) (qm rfl) rfl rfl rfl rfl ⟨_, rfl⟩) rfl ?_; refine z8 (yr (φ := KS tyC (dOf o.cs) false) L rfl rfl (zk rfl) rfl rfl rfl SlV.mono (fun u H hH hle _ => zph rfl ho.cs ho.lc hH (hcv.le hle))) rfl ?_; refine za3 (zah L 901 (StG b S') (.tuple #[.int .u64 rev, .int .i64 e]) (r := StG b S) rfl rfl rfl rfl rfl (fun u H2 C2 hH hle hr2 hC2 v1 h1 v2 h2 => zdx (zel hI (by omega) hne (zq1 _) (zq1 _) (Nat.le_trans (zhy _) (by omega)) (Nat.le_trans (zhy _) (by omega)) hw hH h1 h2 hr2 hC2))) rfl rfl ?_; refine Z3 ?_; refine z8 (qk rfl rfl rfl rfl) rfl ?_; refine z8 (qk rfl rfl rfl rfl) rfl ?_; refine Z375 ?_
  refine qd (id := 15) [(200073, [900]), (100085, [900])] mixed (by kernel_rfl) ?_; refine Z323 ?_; refine qn (zam L (q := 900) (vs := [_, _]) rfl rfl rfl rfl rfl rfl ⟨_, rfl⟩) rfl rfl ?_; refine Z47 ?_; refine z8 (zz L (vs := [_]) (qm rfl) rfl rfl rfl rfl ⟨_, rfl⟩) rfl ?_; refine z8 (yr (φ := KS tyM (dOf o.ms) false) L rfl rfl (zk rfl) rfl rfl rfl SlV.mono (fun u H hH hle _ => zuq rfl ho.ms ho.lm hH (hmv.le hle))) rfl ?_; refine Z47 ?_; refine z8 (zz L (vs := [_]) (qm rfl) rfl rfl rfl rfl ⟨_, rfl⟩) rfl ?_; refine z8 (yr (φ := KS tyC (dOf o.cs) false) L rfl rfl (zk rfl) rfl rfl rfl SlV.mono (fun u H hH hle _ => zph rfl ho.cs ho.lc hH (hcv.le hle))) rfl ?_; refine z8 (yr (φ := Wr10P S' rev e) L rfl rfl (zk rfl) rfl rfl rfl Wr10P.mono (fun u H hH hle _ v1 h1 v2 h2 => zng hI (by omega) hne hj.ss (zq1 _) (zq1 _) (Nat.le_trans (zhy _) (by omega)) (Nat.le_trans (zhy _) (by omega)) hw hH (hss.le hle) h1 h2)) rfl ?_; refine Z397 ?_; refine Z106 ?_; refine Z167 ?_; refine yy (zf2 L (q := 900) RsS.mono rfl rfl rfl rfl rfl (fun _ _ h => zgy h) (Nat.le_of_ble_eq_true rfl)) rfl ?_; refine Z375 ?_
  refine zd1 900 rfl fun cs' H1 hs1 hφ => ?_
  obtain ⟨lv', pv', rfl, hl', hpv'⟩ := zi0 hφ
  refine Z102 ?_; refine Z140 ?_; refine Z388 ?_; refine Z139 ?_; refine Z333 ?_; refine Z231 ?_; refine zf (id := 27) ?_; refine Z138 ?_
  refine zcn 900 (BhG pb b S').res rfl (zie hl' hpv') ?_
  refine zb0 900 901 rfl rfl (zar (StG b S')) ?_
  exact zb3 L 900 (r := BoG pb b S') (rs := [.tmp 4]) rfl (fun _ _ h => h) (hs0.trans hs1) rfl rfl (fun H hle => rfl)
 ·rw [decide_eq_false h4, if_neg h4]
  refine Z9 ?_
  refine zh ?_
  refine zh ?_
  refine ze8 (fun _ : Unit => [(0, .is (zho pb)), (3, .sat (At [.int .u8 o.wh, .slice p1 o.ms.length c1, .slice p2 o.cs.length c2, .int .u8 o.rv, .int .i64 o.kp] z0x 0)), (4, .is (.int .i64 0)), (5, .is (.int .i64 0)), (6, .is (.int .i64 0)), (13, .is (.int .u8 k)), (89, .is (.bool (decide (k < 6)))), (900, .own (zal pb [zho b, lv, pv] zyi)), (901, .own (StG b S).res)]) (fun _ => True) (fun _ => []) ?two2 ?one2
  case one2 =>
   by_cases h5 : k = 4
   ·subst h5
    refine Z103 ?_; refine Z329 ?_; refine zw ?_
    exact za5 () Since.refl trivial rfl ⟨rfl, rfl, rfl, rfl, rfl, rfl, rfl, rfl, rfl, trivial⟩
   ·by_cases h6 : k = 5
    ·subst h6
     refine Z103 ?_; refine Z358 ?_; refine Z119 ?_; refine Z23 ?_; refine Z152 ?_
     exact za5 () Since.refl trivial rfl ⟨rfl, rfl, rfl, rfl, rfl, rfl, rfl, rfl, rfl, trivial⟩
    ·refine Z103 ?_; refine Z358 ?_; refine Z119 ?_; refine Z12 ?_; refine Z152 ?_
     rw [decide_eq_false (show ¬ k < 6 by omega)]
     exact za5 () Since.refl trivial rfl ⟨rfl, rfl, rfl, rfl, rfl, rfl, rfl, rfl, rfl, trivial⟩
  rintro _ _
  by_cases h6 : k < 6
  ·rw [decide_eq_true h6, if_pos h6]
   obtain ⟨⟨S', e⟩, hw⟩ : ∃ x, zns S o.rev false = x := ⟨_, rfl⟩
   rw [hw]
   dsimp only
   have hm1 := RsS.mono (S := S')
   refine Z13 ?_; refine zh ?_; refine qd (id := 20) [(200095, [900]), (98, [901])] mixed (by kernel_rfl) ?_; refine Z330 ?_; refine z8 (zz L (vs := [_, _, _, _, _]) (qm rfl) rfl rfl rfl rfl ⟨_, rfl⟩) rfl ?_; refine z8 (zp L rfl rfl (zk rfl) rfl rfl rfl (fun u H hH _ _ => rev_ret ho rfl rfl hH)) rfl ?_; refine za3 (zah L 901 (StG b S') (.int .i64 e) (r := StG b S) rfl rfl rfl rfl rfl (fun u H2 C2 hH hle hr2 hC2 => zdx (zl0 hne (by omega) hw hH hr2 hC2))) rfl rfl ?_; refine Z177 ?_
   refine qd (id := 21) [(200104, [900]), (100111, [900])] mixed (by kernel_rfl) ?_; refine Z323 ?_; refine qn (zam L (q := 900) (vs := [_, _]) rfl rfl rfl rfl rfl rfl ⟨_, rfl⟩) rfl rfl ?_; refine z8 (zz L (vs := [_, _, _, _, _]) (qm rfl) rfl rfl rfl rfl ⟨_, rfl⟩) rfl ?_; refine z8 (zp L rfl rfl (zk rfl) rfl rfl rfl (fun u H hH _ _ => rev_ret ho rfl rfl hH)) rfl ?_; refine z8 (yr (φ := Pn10P S' e) L rfl rfl (zk rfl) rfl rfl rfl Pn10P.mono (fun u H hH hle _ => zk7 (by omega) hrev.1 hrev.2 (by omega) hj.pos hw hH (hss.le hle))) rfl ?_; refine Z397 ?_; refine Z167 ?_; refine yy (zf2 L (q := 900) RsS.mono rfl rfl rfl rfl rfl (fun _ _ h => zgy h) (Nat.le_of_ble_eq_true rfl)) rfl ?_; refine Z37 ?_; refine Z275 ?_; refine Z139 ?_
   refine zd1 900 rfl fun cs' H1 hs1 hφ => ?_
   obtain ⟨lv', pv', rfl, hl', hpv'⟩ := zi0 hφ
   refine Z333 ?_; refine Z231 ?_; refine zf (id := 27) ?_; refine Z138 ?_
   refine zcn 900 (BhG pb b S').res rfl (zie hl' hpv') ?_
   refine zb0 900 901 rfl rfl (zar (StG b S')) ?_
   exact zb3 L 900 (r := BoG pb b S') (rs := [.tmp 4]) rfl (fun _ _ h => h) (hs0.trans hs1) rfl rfl (fun H hle => rfl)
  ·rw [decide_eq_false h6, if_neg h6]
   by_cases h7 : k = 6
   ·rw [if_pos h7]
    refine Z9 ?_; refine zh ?_; refine zf (id := 22) ?_; refine Z329 ?_; refine zh ?_
    obtain ⟨⟨S', e⟩, hw⟩ : ∃ x, zns S o.rev true = x := ⟨_, rfl⟩
    rw [hw]
    dsimp only
    have hm1 := RsS.mono (S := S')
    refine qd (id := 23) [(200117, [900]), (120, [901])] mixed (by kernel_rfl) ?_; refine Z330 ?_; refine z8 (zz L (vs := [_, _, _, _, _]) (qm rfl) rfl rfl rfl rfl ⟨_, rfl⟩) rfl ?_; refine z8 (zp L rfl rfl (zk rfl) rfl rfl rfl (fun u H hH _ _ => rev_ret ho rfl rfl hH)) rfl ?_; refine za3 (zah L 901 (StG b S') (.int .i64 e) (r := StG b S) rfl rfl rfl rfl rfl (fun u H2 C2 hH hle hr2 hC2 => zdx (zhj hne (by omega) hw hH hr2 hC2))) rfl rfl ?_; refine Z177 ?_
    refine qd (id := 24) [(200126, [900]), (100133, [900])] mixed (by kernel_rfl) ?_; refine Z323 ?_; refine qn (zam L (q := 900) (vs := [_, _]) rfl rfl rfl rfl rfl rfl ⟨_, rfl⟩) rfl rfl ?_; refine z8 (zz L (vs := [_, _, _, _, _]) (qm rfl) rfl rfl rfl rfl ⟨_, rfl⟩) rfl ?_; refine z8 (zp L rfl rfl (zk rfl) rfl rfl rfl (fun u H hH _ _ => rev_ret ho rfl rfl hH)) rfl ?_; refine z8 (yr (φ := Pn10P S' e) L rfl rfl (zk rfl) rfl rfl rfl Pn10P.mono (fun u H hH hle _ => zk7 (by omega) hrev.1 hrev.2 (by omega) hj.pos hw hH (hss.le hle))) rfl ?_; refine Z397 ?_; refine Z167 ?_; refine yy (zf2 L (q := 900) RsS.mono rfl rfl rfl rfl rfl (fun _ _ h => zgy h) (Nat.le_of_ble_eq_true rfl)) rfl ?_; refine Z37 ?_; refine Z275 ?_; refine Z139 ?_
    refine zd1 900 rfl fun cs' H1 hs1 hφ => ?_
    obtain ⟨lv', pv', rfl, hl', hpv'⟩ := zi0 hφ
    refine Z333 ?_; refine Z231 ?_; refine zf (id := 27) ?_; refine Z138 ?_
    refine zcn 900 (BhG pb b S').res rfl (zie hl' hpv') ?_
    refine zb0 900 901 rfl rfl (zar (StG b S')) ?_
    exact zb3 L 900 (r := BoG pb b S') (rs := [.tmp 4]) rfl (fun _ _ h => h) (hs0.trans hs1) rfl rfl (fun H hle => rfl)
   ·rw [if_neg h7]
    refine Z9 ?_; refine zh ?_; refine zf (id := 22) ?_; refine Z242 ?_
    obtain ⟨⟨S', g, e⟩, hw⟩ : ∃ x, zdb S o.kp = x := ⟨_, rfl⟩
    rw [hw]
    dsimp only
    have hm1 := RsS.mono (S := S')
    have hm2 : Kn.mono (.sat (RsV g true)) := SlV.mono
    have hm3 : Kn.mono (.sat (RsV g false)) := SlV.mono
    have hgl : g.length ≤ 100000 := by
     have h1 := congrArg (fun x => x.2.1.length) hw
     dsimp only at h1
     rw [← h1]
     unfold zdb
     split
     ·refine Nat.le_trans (List.length_filter_le ..) ?_
      rw [List.length_take]
      have := zef S.R
      omega
     ·exact Nat.zero_le _
    refine Z30 ?_; refine Z199 ?_
    refine qd (id := 5) [(200018, [900]), (21, [901])] mixed (by kernel_rfl) ?_; refine Z330 ?_; refine Z218 ?_; refine za3 (zg0 L 901 (StG b S') (zv0 g e) (r := StG b S) rfl rfl rfl rfl rfl (ze3 SlV.mono) (fun u H2 C2 hH hle hr2 hC2 => by have h := zd6 (keep := o.kp) hne (by omega) (by omega) hH hr2 hC2; rw [hw] at h; exact h)) rfl rfl ?_; refine Z397 ?_; refine Z90 ?_; refine Z239 ?_
    refine qd (id := 6) [(200029, [900]), (100037, [900])] mixed (by kernel_rfl) ?_; refine Z323 ?_; refine qn (zam L (q := 900) (vs := [_, _]) rfl rfl rfl rfl rfl rfl ⟨_, rfl⟩) rfl rfl ?_; refine Z218 ?_; refine z8 (yr (φ := Cl10S S' g e) L rfl rfl (zk rfl) rfl rfl rfl Cl10S.mono (fun u H hH hle _ => Ret.mono (by have h := zkt (keep := o.kp) hne (by omega) (by omega) hH (hss.le hle); rw [hw] at h; exact h) fun v H' _ h => Cl10P.tup h)) rfl ?_; refine Z373 ?_; refine Z91 ?_; refine Z106 ?_; refine Z167 ?_; refine yy (zf2 L (q := 900) RsS.mono rfl rfl rfl rfl rfl (fun _ _ h => zgy h) (Nat.le_of_ble_eq_true rfl)) rfl ?_; refine Z90 ?_; refine Z239 ?_
    refine zd1 900 rfl fun cs' H1 hs1 hφ => ?_
    obtain ⟨lv', pv', rfl, hl', hpv'⟩ := zi0 hφ
    refine Z43 ?_; refine Z377 ?_; refine z7 (zp L rfl rfl (zk rfl) rfl rfl rfl (fun u H hH hle _ v1 h1 v2 h2 => zen (f := true) (decide_eq_true rfl) hgl hgl hH h1 h2)) rfl ?_; refine Z132 ?_; refine Z1 ?_; refine Z4 ?_; refine z7 (zui L rfl rfl rfl rfl) rfl ?_; refine Z150 ?_; refine Z21 ?_; refine Z8 ?_; refine Z215 ?_; refine Z139 ?_; refine Z333 ?_; refine Z231 ?_; refine zf (id := 27) ?_; refine Z138 ?_
    refine zcn 900 (BhG pb b S').res rfl (zie hl' hpv') ?_
    refine zb0 900 901 rfl rfl (zar (StG b S')) ?_
    exact zb3 L 900 (r := BoG pb b S') (rs := [.tmp 4]) rfl (fun _ _ h => h) (hs0.trans hs1) rfl rfl (fun H hle => rfl)
end Go.V.L10
set_option maxRecDepth 20000
namespace Go.V.L10
open Go.Proofs Go.RowKit Go.V Go.V.L2 Go.V.L8 Go.V.L6
theorem zym {R : List (Option (List U))} {lv : Value} {H : Heap} (h : RlV R lv H) : ∃ p c, lv = .slice p R.length c := by
 obtain ⟨zs, h1, _, h3⟩ := h
 obtain ⟨p, c, h4⟩ := zao h3
 rw [← h1, List.length_map]
 exact ⟨p, c, h4⟩
abbrev z5d (S : Sto) : Res := zpq (fun p : Nat × Nat => zho p.1) fun p => BoG p.1 p.2 S
attribute [local irreducible] V N X VO Par StepOK Has Ret RetL RetO RetT zcb zdt RetY Src
theorem zwz {w : World} {B : Heap} (hB : B.Le (hp w)) : RetO Tryz.prog 10 [] w B (z5d newS) := by
 refine zeg Tryz.func10 rfl Tryz.ntmps10 (Nat.le_of_ble_eq_true rfl) hB ?_
 refine Z186 ?_; refine z7 (zeb L rfl rfl (zk rfl) rfl rfl rfl (fun u H hH hle _ => zp3 hH)) rfl ?_; refine zst 1 901 rfl fun b => ?_; refine z7 (yr (φ := RsS newS) L rfl rfl (zk rfl) rfl rfl rfl RsS.mono (fun u H hH hle _ => zro hH)) rfl ?_; refine zbq 2 rfl fun v1 H1 hs1 hv1 => ?_; obtain ⟨lv, pv, rfl, h1, h2⟩ := hv1; obtain ⟨p1, c1, rfl⟩ := zym h1; obtain ⟨p2, c2, rfl⟩ := zao h2; refine z7 (yv (cs := [_, _, _]) rfl rfl z43 rfl rfl) rfl ?_; refine Z104 ?_; refine qo (yn (.inr rfl) rfl rfl rfl rfl) ?_; refine Z137 ?_
 refine zrb 0 900 rfl fun pb => ?_
 refine zcn 900 (BhG pb b newS).res rfl (zie h1 h2) ?_
 refine zb0 900 901 rfl rfl (zar (StG b newS)) ?_
 refine zra 0 900 (fun p : Nat × Nat => zho p.1) (fun p => BoG p.1 p.2 newS) (pb, b) rfl rfl ?_
 exact zif rfl (fun _ _ h => h) hs1 rfl
set_option maxHeartbeats 4000000 in
set_option maxRecDepth 20000 in
theorem zkl {S : Sto} {n pb b : Nat} (hj : JJ n S) (hn : n ≤ 100) {w : World} {B : Heap} {C : Nat → Prop} (hB : B.Le (hp w)) (hr : (BoG pb b S).P B w C) (hC : ∀ k, C k → k < w.heap.size ∧ B k = none) :
  RetY Tryz.prog 24 [zho pb] w B C (BoG pb b S) (fun v _ => v = .int .i64 1) := by
 have hne := hj.ne
 have hR := hj.hR
 have hP := hj.hP
 have hkl := zef S.R
 have hhl := zbt S.P
 unfold RetY
 refine zas 900 (BoG pb b S) Tryz.func24 rfl Tryz.ntmps24 (Nat.le_of_ble_eq_true rfl) hB hr hC ?_
 rw [zmy]
 refine zew 900 901 rfl (zar _) ?_
 rw [zmz, zlx]
 refine zd1 900 rfl fun x H0 hs0 hφ => ?_
 refine zd1 901 rfl fun y H hs1 hψ => ?_
 obtain ⟨lv, pv⟩ := x
 obtain ⟨hl, hpv⟩ := hφ
 obtain ⟨m, s, es⟩ := y
 obtain ⟨hm, hes, hps⟩ := hψ
 dsimp only at hl hpv hm hes hps ⊢
 replace hl := hl.le hs1.le
 replace hpv := hpv.le hs1.le
 obtain ⟨ps, pc, rfl⟩ := zao hps
 obtain ⟨p1, c1, rfl⟩ := zym hl
 obtain ⟨p2, c2, rfl⟩ := zao hpv
 have hs01 := hs0.trans hs1
 have hlen := hm.len
 have hwl : IntKind.u64.wrap ((S.R.length : Nat) : Int) = ((S.R.length : Nat) : Int) := wrap_u64 (by omega) (by omega)
 have hss : RsS S (.agg #[.slice p1 S.R.length c1, .slice p2 S.P.length c2]) H := ⟨_, _, rfl, hl, hpv⟩
 obtain ⟨zs, hzs, hrow, hrv⟩ := hl
 refine Z293 ?_; refine Z261 ?_; refine yq (zbb L 901 (RsV (zbj S.R) true) (r := StO b S.R.length m (.slice ps (zai S.P).length pc) S.P.length es) rfl rfl rfl rfl rfl SlV.mono (fun u H2 C2 hH hle hr2 hC2 => (zmm hm hne (by omega) hH hr2 hC2).pubY zit)) ?_; refine Z351 ?_
 refine qd (id := 2) [(200017, [900]), (200018, [901]), (200023, [900]), (200032, [900]), (200048, [900]), (200049, [901]), (200055, [900]), (200063, [900]), (200064, [901]), (200070, [900])] mixed (by kernel_rfl) ?_; refine Z330 ?_; refine qn (zav L 901 (Φ := fun H => H b = some (.cells (stc S.R.length m (.slice ps (zai S.P).length pc) S.P.length).toArray tyS)) (c := .int .u64 S.R.length) rfl rfl (zk rfl) rfl rfl rfl rfl rfl zee (fun u H hH hle hb => zle hne hb hH)) rfl rfl ?_; refine Z297 ?_; refine Z60 ?_; refine z8 (zme L rfl rfl rfl rfl) rfl ?_; refine z8 (zau rfl rfl rfl zbg.1 zbg.2 (wrap_u64 (by omega) (by omega))) rfl ?_; refine Z113 ?_; refine Z3 ?_; refine Z35 ?_; refine Z178 ?_; refine qn (zam L (q := 900) (vs := [_, _]) rfl rfl rfl rfl rfl rfl ⟨_, rfl⟩) rfl rfl ?_; refine z8 (yr (φ := RsV (zbj S.R) false) L rfl rfl (zk rfl) rfl rfl rfl SlV.mono (fun u H hH hle _ => ze2 hzs (by omega) ⟨_, _, _, rfl⟩ hH (hrv.le hle))) rfl ?_; refine z8 (zp L rfl rfl (zk rfl) rfl rfl rfl (fun u H hH hle _ v1 h1 v2 h2 => zen (f := true) (decide_eq_true rfl) (by omega) (by omega) hH h1 h2)) rfl ?_; refine z8 (y9 rfl rfl rfl rfl rfl) rfl ?_; refine Z40 ?_; refine Z3 ?_; refine Z35 ?_; refine z8 (zui L rfl rfl rfl rfl) rfl ?_; refine Z35 ?_; refine z8 (qv L rfl rfl rfl rfl) rfl ?_; refine Z113 ?_; refine Z40 ?_; refine Z323 ?_; refine Z60 ?_; refine qn (zav L 901 (Φ := fun H => H b = some (.cells (stc S.R.length m (.slice ps (zai S.P).length pc) S.P.length).toArray tyS)) (c := pnv (.slice ps (zai S.P).length pc) S.P.length) rfl rfl (zk rfl) rfl rfl rfl rfl rfl zee (fun u H hH hle hb => pins_ret ⟨_, _, _, rfl⟩ hne hb hH)) rfl rfl ?_; refine z8 (zp L rfl rfl (zk rfl) rfl rfl rfl (fun u H hH hle _ => zs6 ⟨rfl, rfl⟩ hH)) rfl ?_; refine Z297 ?_; refine Z60 ?_; refine z8 (zme L rfl rfl rfl rfl) rfl ?_; refine Z113 ?_; refine Z40 ?_; refine Z323 ?_; refine Z60 ?_; refine qn (zav L 901 (Φ := fun H => H b = some (.cells (stc S.R.length m (.slice ps (zai S.P).length pc) S.P.length).toArray tyS)) (c := pnv (.slice ps (zai S.P).length pc) S.P.length) rfl rfl (zk rfl) rfl rfl rfl rfl rfl zee (fun u H hH hle hb => pins_ret ⟨_, _, _, rfl⟩ hne hb hH)) rfl rfl ?_; refine z8 (yr (φ := RsV (zak S.P) true) L rfl rfl (zk rfl) rfl rfl rfl SlV.mono (fun u H hH hle _ => zmq (by omega) hH (hps.le hle))) rfl ?_; refine Z297 ?_; refine Z60 ?_; refine z8 (yr (φ := RsV (zak S.P) false) L rfl rfl (zk rfl) rfl rfl rfl SlV.mono (fun u H hH hle _ => zno hj.pos (by omega) hH (hpv.le hle))) rfl ?_; refine z8 (zp L rfl rfl (zk rfl) rfl rfl rfl (fun u H hH hle _ v1 h1 v2 h2 => zen (f := true) (decide_eq_true rfl) (by omega) (by omega) hH h1 h2)) rfl ?_; refine z8 (y9 rfl rfl rfl rfl rfl) rfl ?_; refine Z204 ?_; refine Z165 ?_
 refine Z30 ?_; refine Z196 ?_
 have hwd : IntKind.i64.wrap ((S.R.length : Int) + 1) = ((S.R.length + 1 : Nat) : Int) := zaa (by omega) (by omega)
 have hum : Kn.mono (.sat (RsV S.P false)) := SlV.mono
 refine zaj (fun i : Nat => [(0, .is (zho pb)), (3, .sat (RsV (zbj S.R) true)), (4, .is (.int .i64 i)), (900, .own (zal pb [zho b, .slice p1 S.R.length c1, .slice p2 S.P.length c2] zyi)), (901, .own (StO b S.R.length m (.slice ps (zai S.P).length pc) S.P.length es).res)]) (fun i => i ≤ S.R.length + 2) (fun i => S.R.length + 2 - i) 0 (Nat.zero_le _) ⟨rfl, rfl, rfl, rfl, rfl, trivial⟩ ?_
 rintro i hi
 by_cases hlt : i ≤ S.R.length + 1
 ·have hwk : IntKind.i64.wrap ((i : Int) + 1) = ((i + 1 : Nat) : Int) := zaa (by omega) (by omega)
  have hwu : IntKind.u64.wrap (i : Int) = (i : Int) := wrap_u64 (by omega) (by omega)
  obtain ⟨⟨t0, e0⟩, hat⟩ : ∃ x, atS S (i : Int) = x := ⟨_, rfl⟩
  have ht0 : t0.length ≤ 4096 := by have := zpn (hj.I hn) (i : Int); rw [hat] at this; exact this
  have hum2 : Kn.mono (.sat (US t0 false)) := SlV.mono
  refine Z139 ?_; refine Z244 ?_; refine Z201 ?_; refine Z41 ?_; refine Z65 ?_; refine Z85 ?_; refine Z17 ?_; refine Z73 ?_; refine Z143 ?_; refine Z170 ?_; refine Z193 ?_; refine Z261 ?_; refine Z1 ?_; refine z7 (zau rfl rfl rfl zbg.1 zbg.2 (wrap_u64 (by omega) (by omega))) rfl ?_; refine yq (zbb L 901 (WithP t0 e0) (r := (StO b S.R.length m (.slice ps (zai S.P).length pc) S.P.length es)) rfl rfl rfl rfl rfl WithP.mono (fun u H2 C2 hH hle hr2 hC2 => by have h := zfj (S := S) (r := (i : Int)) hm hne (hes.le hle) hH hr2 hC2; rw [hat] at h; exact h)) ?_; refine zbq 93 rfl fun v1 H1 hs2 hp1 => ?_; obtain ⟨sv, rfl, hsv⟩ := hp1; obtain ⟨f1, p3, f2, p4, rfl, hpl⟩ := hsv.shape; refine Z299 ?_; refine Z144 ?_
  have hpsB := hps.le hs2.le
  have hpvB := hpv.le hs2.le
  refine Z226 ?_; refine Z201 ?_; refine yq (zam L (q := 900) (vs := [_, _]) rfl rfl rfl rfl rfl rfl ⟨_, rfl⟩) ?_; refine Z1 ?_; refine z7 (zau rfl rfl rfl zbg.1 zbg.2 (wrap_u64 (by omega) (by omega))) rfl ?_; refine z7 (yr (φ := z3c t0 e0) L rfl rfl (zk rfl) rfl rfl rfl (ze3 SlV.mono) (fun u H hH hle _ => by have h := ztp (S := S) (r := (i : Int)) hne (by omega) (by omega) (by omega) hH (hss.le (hs2.le.trans hle)); rw [hat] at h; exact h)) rfl ?_; refine Z343 ?_; refine Z144 ?_
  refine qd (id := 9) [(200120, [900]), (200121, [901]), (200129, [900])] mixed (by kernel_rfl) ?_; refine Z145 ?_; refine Z113 ?_; refine Z3 ?_; refine z8 (zz L (vs := [_, _, _, _]) (yk rfl) rfl rfl rfl rfl ⟨_, rfl⟩) rfl ?_; refine z8 (yr (φ := US t0 true) L rfl rfl (zk rfl) rfl rfl rfl SlV.mono (fun u H hH hle _ => zjh (by omega) hH (hsv.le hle))) rfl ?_; refine Z35 ?_; refine z8 (zp L rfl rfl (zk rfl) rfl rfl rfl (fun u H hH hle _ v1 h1 v2 h2 => zhk (by omega) (by omega) (if_pos rfl) hH h1 h2)) rfl ?_; refine Z87 ?_; refine Z40 ?_; refine Z323 ?_; refine Z60 ?_; refine qn (zav L 901 (Φ := fun H => H b = some (.cells (stc S.R.length m (.slice ps (zai S.P).length pc) S.P.length).toArray tyS)) (c := pnv (.slice ps (zai S.P).length pc) S.P.length) rfl rfl (zk rfl) rfl rfl rfl rfl rfl zee (fun u H hH hle hb => pins_ret ⟨_, _, _, rfl⟩ hne hb hH)) rfl rfl ?_; refine Z3 ?_; refine z8 (zau rfl rfl rfl zbg.1 zbg.2 (wrap_u64 (by omega) (by omega))) rfl ?_; refine z8 (zp L rfl rfl (zk rfl) rfl rfl rfl (fun u H hH hle _ => L10.count_ret (by omega) hH (hps.le (hs2.le.trans hle)))) rfl ?_; refine Z297 ?_; refine Z60 ?_; refine Z3 ?_; refine z8 (zau rfl rfl rfl zbg.1 zbg.2 (wrap_u64 (by omega) (by omega))) rfl ?_; refine z8 (zp L rfl rfl (zk rfl) rfl rfl rfl (fun u H hH hle _ => zdp rfl (by omega) hH (hpvB.le hle))) rfl ?_; refine Z113 ?_; refine Z204 ?_; refine Z335 ?_; refine Z190 ?_; refine Z209 ?_
  exact ze9 (x := i) (i + 1) hs2 (by omega) (by omega) ⟨rfl, rfl, rfl, rfl, rfl, trivial⟩
 ·refine Z139 ?_; refine Z244 ?_; refine Z201 ?_; refine Z41 ?_; refine Z65 ?_; refine Z85 ?_; refine Z17 ?_; refine Z70 ?_; refine Z386 ?_; refine Z66 ?_; refine Z138 ?_
  refine zcn 900 (BhG pb b S).res rfl (zie ⟨zs, hzs, hrow, hrv⟩ hpv) ?_
  refine zcn 901 (StG b S).res rfl (zf9 hm hes hps) ?_
  refine zb0 900 901 rfl rfl (zar (StG b S)) ?_
  exact zb3 L 900 (r := BoG pb b S) (rs := [.tmp 2]) rfl (fun _ _ h => h) hs01 rfl rfl (fun H hle => rfl)
end Go.V.L10
set_option maxRecDepth 20000
namespace Go.V.L10
open Go.Proofs Go.RowKit Go.V Go.V.L2 Go.V.L8 Go.V.L6
theorem zjk {S : Sto} {b : Nat} {r : Int} (hn : S.R.length ≠ 0) {w : World} {B : Heap} {C : Nat → Prop} (hB : B.Le (hp w)) (hr : (StG b S).P B w C) (hC : ∀ k, C k → k < w.heap.size ∧ B k = none) :
  RetY Tryz.prog 13 [zho b, .int .u64 r] w B C (StG b S) (WithP (atS S r).1 (atS S r).2) :=
 RetY.ex hr fun _ ⟨hm, hes, _⟩ hr => zfj hm hn hes hB hr hC
theorem ztg {S : Sto} {b : Nat} (hn : S.R.length ≠ 0) (hz : (zbj S.R).length ≤ 100000) {w : World} {B : Heap} {C : Nat → Prop} (hB : B.Le (hp w)) (hr : (StG b S).P B w C) (hC : ∀ k, C k → k < w.heap.size ∧ B k = none) :
  RetY Tryz.prog 12 [zho b] w B C (StG b S) (RsV (zbj S.R) true) :=
 RetY.ex hr fun _ ⟨hm, _, _⟩ hr => (zmm hm hn (by rw [hm.len]; exact hz) hB hr hC).pubY zit
theorem zqo {b : Nat} {S : Sto} : ∀ v H u C, (StG b S).res.P v H u C → ∃ m s, (∃ p k c, s = .slice p k c) ∧ joinH H u C b = some (.cells (stc S.R.length m s S.P.length).toArray tyS) := fun v H u C ⟨⟨m, s, es⟩, ⟨_, _, hp⟩, h⟩ => by
 obtain ⟨p, c, rfl⟩ := zao hp
 exact ⟨m, _, ⟨_, _, _, rfl⟩, zee v H u C h⟩
abbrev PinsP (P0 : List Int) : Value → Heap → Prop := fun v H => ∃ s, v = pnv s P0.length ∧ PsV (zai P0) s H
theorem PinsP.mono {P0 : List Int} : Kn.mono (.sat (PinsP P0)) := fun _ _ _ ⟨s, h1, h2⟩ hle => ⟨s, h1, h2.le hle⟩
attribute [local irreducible] V N X VO Par StepOK Has Ret RetL RetO RetT zcb zdt RetY Src
theorem znc {S : Sto} {b : Nat} (hn : S.R.length ≠ 0) {w : World} {B : Heap} {C : Nat → Prop} (hB : B.Le (hp w)) (hr : (StG b S).P B w C) (hC : ∀ k, C k → k < w.heap.size ∧ B k = none) :
  RetY Tryz.prog 25 [zho b] w B C (StG b S) (PinsP S.P) := by
 refine RetY.ex hr fun x hφ hr => ?_
 obtain ⟨m, s, es⟩ := x
 obtain ⟨hm, hes, hps⟩ := hφ
 dsimp only at hm hes hps hr ⊢
 obtain ⟨p, c, rfl⟩ := zao hps
 unfold RetY
 refine zas 900 (StO b S.R.length m _ S.P.length es) Tryz.func25 rfl Tryz.ntmps25 (Nat.le_of_ble_eq_true rfl) hB hr hC ?_
 rw [zey]
 refine zew 900 901 rfl (zar _) ?_
 refine Z322 ?_; refine Z188 ?_; refine Z286 ?_; refine yq (zav L 900 (Φ := fun H => H b = some (.cells (stc S.R.length m (.slice p (zai S.P).length c) S.P.length).toArray tyS)) (c := .bool false) rfl rfl (zk rfl) rfl rfl rfl rfl rfl zib (fun u H hH hle hb => zcm hn hb hH)) ?_; refine Z158 ?_; refine Z171 ?_; refine Z201 ?_; refine yq (zam L (q := 900) (vs := [_, _]) rfl rfl rfl rfl rfl rfl ⟨_, rfl⟩) ?_; refine Z252 ?_
 refine zb0 900 901 rfl rfl (zar _) ?_
 exact zb3 L 900 (r := StO b S.R.length m (.slice p (zai S.P).length c) S.P.length es) (rs := [.cell 2 74]) rfl (fun _ _ h => h) Since.refl rfl rfl (fun H hle => ⟨_, yk rfl, rfl, _, rfl, hps.le hle⟩)
abbrev s1 : Sto := ⟨[some [], some [d0]], []⟩
abbrev s2 : Sto := ⟨[some [], some [d0], some [d2]], []⟩
abbrev s3 : Sto := ⟨[some [], some [d0], some [d2]], [2]⟩
abbrev s4 : Sto := ⟨[none, some [d0], some [d2]], [2]⟩
abbrev s5 : Sto := ⟨[none, some [d0], some [d2], some [d2]], [2]⟩
abbrev s6 : Sto := ⟨[none, some [d0], some [d2], some [d2]], []⟩
abbrev s7 : Sto := ⟨[none, none, none, some [d2]], []⟩
theorem z2c : zej newS [] [(d0, false)] = (s1, 2, 0) := by kernel_rfl
theorem z2b : zej s1 [(d0, false)] [(d2, false), (d0, true)] = (s2, 3, 0) := by kernel_rfl
theorem z3x : zej s2 [(d0, false)] [] = (s2, 0, 13) := by kernel_rfl
theorem z31 : atS s2 2 = ([d0], 0) := by kernel_rfl
theorem z33 : atS s2 0 = ([d2], 0) := by kernel_rfl
theorem z30 : atS s2 4 = ([], 14) := by kernel_rfl
theorem z4q : zns s2 2 false = (s3, 0) := by kernel_rfl
theorem z2f : zdb s3 1 = (s4, [1], 0) := by kernel_rfl
theorem z48 : zbj s4.R = [2, 3] := by kernel_rfl
theorem z32 : atS s4 1 = ([], 14) := by kernel_rfl
theorem z2a : zej s4 [] [] = (s5, 4, 0) := by kernel_rfl
theorem z2d : zns s5 2 true = (s6, 0) := by kernel_rfl
theorem z3y : zns s6 2 true = (s6, 8) := by kernel_rfl
theorem z2e : zdb s6 1 = (s7, [2, 3], 0) := by kernel_rfl
theorem z49 : zq0 s7 4 0 = ([], 0) := by kernel_rfl
theorem z3z : zdb s7 0 = (s7, [], 4) := by kernel_rfl
theorem z47 : zns s7 0 false = (s7, 14) := by kernel_rfl
theorem z34 {n : Nat} {S S' : Sto} {l cs : List CH} {r e : Int} (h : JJ n S) (hn : n ≤ 100) (hc : ∀ c ∈ cs, TZ c.1 ∧ tE c.1 = 0) (hl : cs.length ≤ 30) (hw : zej S l cs = (S', r, e)) : JJ (n + 1) S' := by
 have h1 := zqt h hn (l := l) hc hl
 rw [hw] at h1
 exact h1
theorem z4r {n : Nat} {S S' : Sto} {r e : Int} {un : Bool} (h : JJ n S) (hw : zns S r un = (S', e)) : JJ (n + 1) S' := by
 have h1 := zu7 h r un
 rw [hw] at h1
 exact h1
theorem z4s {n : Nat} {S S' : Sto} {k e : Int} {g : List Int} (h : JJ n S) (hw : zdb S k = (S', g, e)) : JJ (n + 1) S' := by
 have h1 := zu9 h k
 rw [hw] at h1
 exact h1
set_option maxHeartbeats 8000000 in
set_option maxRecDepth 20000 in
theorem zj6 {w : World} {B : Heap} (hB : B.Le (hp w)) : Ret Tryz.prog 17 [] w B (fun v _ => v = .bool true) := by
 have p0 : ptA ⟨#[100, 111, 99, 58, 97, 35, 118, 105, 101, 119, 101, 114, 64, 117, 115, 101, 114, 58, 120]⟩ = (d0, 0) := by decide +kernel
 have p2 : ptA ⟨#[100, 111, 99, 58, 98, 35, 118, 105, 101, 119, 101, 114, 64, 117, 115, 101, 114, 58, 120]⟩ = (d2, 0) := by decide +kernel
 have z0 : TZ d0 := zyh (by decide)
 have z2 : TZ d2 := zyh (by decide)
 have m0 := zzf z0
 have m2 := zzf z2
 have e0 : tE d0 = 0 := by decide +kernel
 have e2 : tE d2 = 0 := by decide +kernel
 have all : ∀ l : List CH, (∀ c ∈ l, c.1 = d0 ∨ c.1 = d2) → ∀ c ∈ l, TM c.1 := fun l h c hc => by
  rcases h c hc with e | e
  ·rw [e]; exact m0
  ·rw [e]; exact m2
 have ok : ∀ l : List CH, (∀ c ∈ l, c.1 = d0 ∨ c.1 = d2) → ∀ c ∈ l, TZ c.1 ∧ tE c.1 = 0 := fun l h c hc => by
  rcases h c hc with e | e
  ·rw [e]; exact ⟨z0, e0⟩
  ·rw [e]; exact ⟨z2, e2⟩
 have j0 := zu8
 have j1 := z34 j0 (by decide) (ok _ (by simp)) (by decide) z2c
 have j2 := z34 j1 (by decide) (ok _ (by simp)) (by decide) z2b
 have j3 := z4r j2 z4q
 have j4 := z4s j3 z2f
 have j5 := z34 j4 (by decide) (ok _ (by simp)) (by decide) z2a
 have j6 := z4r j5 z2d
 have j7 := z4s j6 z2e
 have k1 : Kn.mono (.sat (RsV [1] true)) := SlV.mono
 have k2 : Kn.mono (.sat (RsV [2, 3] true)) := SlV.mono
 have k3 : Kn.mono (.sat (RsV [] true)) := SlV.mono
 have k4 : Kn.mono (.sat (KS tyC [] true)) := SlV.mono
 refine yf Tryz.func17 rfl Tryz.ntmps17 (Nat.le_of_ble_eq_true rfl) hB ?_
 refine Z186 ?_; refine z7 (zp L rfl rfl (zk rfl) rfl rfl rfl (fun u H hH _ _ => zjo p0 (Nat.le_of_ble_eq_true rfl) hH)) rfl ?_; refine Z173 ?_; refine Z203 ?_; refine Z144 ?_; refine Z29 ?_; refine z7 (zp L rfl rfl (zk rfl) rfl rfl rfl (fun u H hH _ _ => zjo p2 (Nat.le_of_ble_eq_true rfl) hH)) rfl ?_; refine Z173 ?_; refine Z203 ?_; refine Z144 ?_; refine Z28 ?_; refine z7 (zz L (vs := [_, _, _, _, _, _]) (yk rfl) rfl rfl rfl rfl ⟨_, rfl⟩) rfl ?_; refine z7 (yv (cs := [_, _, _, _, _, _, _]) rfl rfl z1q rfl rfl) rfl ?_; refine Z36 ?_; refine Z396 ?_; refine Z30 ?_; refine z7 (zeb L rfl rfl (zk rfl) rfl rfl rfl (fun u H hH hle _ => zp3 hH)) rfl ?_; refine qo (yn (.inr rfl) rfl rfl rfl rfl) ?_; refine Z160 ?_
 refine zi2 6 900 rfl fun b => ?_
 refine Z180 ?_; refine z7 (zz L (vs := [_, _, _, _, _, _]) (yk rfl) rfl rfl rfl rfl ⟨_, rfl⟩) rfl ?_; refine z7 (yv (cs := [_, _, _, _, _, _, _]) rfl rfl zo0 rfl rfl) rfl ?_; refine Z36 ?_; refine qo (zah L 900 (StG b s1) (.tuple #[.int .u64 2, .int .i64 0]) (r := StG b newS) rfl rfl rfl rfl rfl (fun u H2 C2 hH hle hr2 hC2 v1 h1 => zdx (zel (l := []) (cs := [(d0, false)]) (j0.I (by decide)) (by decide) j0.ne (all _ (by simp)) (all _ (by simp)) (by decide) (by decide) z2c hH (SlV.nil (fu := false)) (h1.toV (n := 1) rfl) hr2 hC2))) ?_; refine Z240 ?_
 refine Z190 ?_; refine Z4 ?_; refine z7 (zz L (vs := [_, _, _, _, _, _]) (yk rfl) rfl rfl rfl rfl ⟨_, rfl⟩) rfl ?_; refine z7 (yv (cs := [_, _, _, _, _, _, _]) rfl rfl zo0 rfl rfl) rfl ?_; refine z7 (zz L (vs := [_, _, _, _, _, _]) (yk rfl) rfl rfl rfl rfl ⟨_, rfl⟩) rfl ?_; refine z7 (yv (cs := [_, _, _, _, _, _, _]) rfl rfl zo0 rfl rfl) rfl ?_; refine Z36 ?_; refine qo (zah L 900 (StG b s2) (.tuple #[.int .u64 3, .int .i64 0]) (r := StG b s1) rfl rfl rfl rfl rfl (fun u H2 C2 hH hle hr2 hC2 v1 h1 v2 h2 => zdx (zel (l := [(d0, false)]) (cs := [(d2, false), (d0, true)]) (j1.I (by decide)) (by decide) j1.ne (all _ (by simp)) (all _ (by simp)) (by decide) (by decide) z2b hH (h1.toV (n := 1) rfl) (h2.toV (n := 2) rfl) hr2 hC2))) ?_; refine Z240 ?_
 refine Z193 ?_; refine Z4 ?_; refine qo (zah L 900 (StG b s2) (.tuple #[.int .u64 0, .int .i64 13]) (r := StG b s2) rfl rfl rfl rfl rfl (fun u H2 C2 hH hle hr2 hC2 v1 h1 => zdx (zel (l := [(d0, false)]) (cs := []) (j2.I (by decide)) (by decide) j2.ne (all _ (by simp)) (all _ (by simp)) (by decide) (by decide) z3x hH (h1.toV (n := 1) rfl) (SlV.nil (fu := false)) hr2 hC2))) ?_; refine Z240 ?_
 refine Z226 ?_; refine yq (zbb L 900 (WithP [d0] 0) (r := StG b s2) rfl rfl rfl rfl rfl WithP.mono (fun u H2 C2 hH hle hr2 hC2 => by have h := zjk (r := 2) j2.ne hH hr2 hC2; rw [z31] at h; exact h)) ?_; refine zbq 62 rfl fun vx Kx hx hpx => ?_; obtain ⟨svx, rfl, hsvx⟩ := hpx; obtain ⟨fx, px, gx, qx, rfl, hplx⟩ := hsvx.shape; refine Z299 ?_; refine Z144 ?_; refine Z258 ?_; refine yq (zbb L 900 (WithP [d2] 0) (r := StG b s2) rfl rfl rfl rfl rfl WithP.mono (fun u H2 C2 hH hle hr2 hC2 => by have h := zjk (r := 0) j2.ne hH hr2 hC2; rw [z33] at h; exact h)) ?_; refine zbq 67 rfl fun vy Ky hy hpy => ?_; obtain ⟨svy, rfl, hsvy⟩ := hpy; obtain ⟨fy, py, gy, qy, rfl, hply⟩ := hsvy.shape; refine Z299 ?_; refine Z144 ?_; refine Z283 ?_; refine yq (zbb L 900 (WithP [] 14) (r := StG b s2) rfl rfl rfl rfl rfl WithP.mono (fun u H2 C2 hH hle hr2 hC2 => by have h := zjk (r := 4) j2.ne hH hr2 hC2; rw [z30] at h; exact h)) ?_; refine zbq 72 rfl fun vz Kz hz hpz => ?_; obtain ⟨svz, rfl, hsvz⟩ := hpz; obtain ⟨fz, pz, gz, qz, rfl, hplz⟩ := hsvz.shape; refine Z299 ?_; refine Z147 ?_
 have hsvx2 := hsvx.le (hy.le.trans hz.le)
 have hsvy2 := hsvy.le hz.le
 refine Z66 ?_; refine Z285 ?_; refine Z1 ?_; refine Z17 ?_; refine Z1 ?_; refine Z17 ?_; refine Z21 ?_; refine Z140 ?_; refine Z21 ?_; refine Z232 ?_; refine Z21 ?_; refine Z232 ?_; refine Z21 ?_; refine Z8 ?_; refine Z1 ?_; refine z7 (zz L (vs := [_, _, _, _]) (yk rfl) rfl rfl rfl rfl ⟨_, rfl⟩) rfl ?_; refine z7 (zp L rfl rfl (zk rfl) rfl rfl rfl (fun u H hH hle _ => zdj (n := 1) rfl hH (hsvx2.le hle))) rfl ?_; refine Z21 ?_; refine Z8 ?_; refine Z1 ?_; refine z7 (zz L (vs := [_, _, _, _]) (yk rfl) rfl rfl rfl rfl ⟨_, rfl⟩) rfl ?_; refine z7 (zz L (vs := [_, _, _, _, _, _]) (yk rfl) rfl rfl rfl rfl ⟨_, rfl⟩) rfl ?_; refine z7 (zp L rfl rfl (zk rfl) rfl rfl rfl (fun u H hH hle _ => zct (b := true) (by decide) hH (hsvx2.le hle))) rfl ?_; refine Z392 ?_; refine Z1 ?_; refine z7 (zz L (vs := [_, _, _, _]) (yk rfl) rfl rfl rfl rfl ⟨_, rfl⟩) rfl ?_; refine z7 (zp L rfl rfl (zk rfl) rfl rfl rfl (fun u H hH hle _ => zdj (n := 1) rfl hH (hsvy2.le hle))) rfl ?_; refine Z21 ?_; refine Z8 ?_; refine Z1 ?_; refine z7 (zz L (vs := [_, _, _, _]) (yk rfl) rfl rfl rfl rfl ⟨_, rfl⟩) rfl ?_; refine z7 (zz L (vs := [_, _, _, _, _, _]) (yk rfl) rfl rfl rfl rfl ⟨_, rfl⟩) rfl ?_; refine z7 (zp L rfl rfl (zk rfl) rfl rfl rfl (fun u H hH hle _ => zct (b := true) (by decide) hH (hsvy2.le hle))) rfl ?_; refine Z53 ?_; refine Z232 ?_; refine Z21 ?_; refine Z232 ?_; refine qo (zah L 900 (StG b s3) (.int .i64 0) (r := StG b s2) rfl rfl rfl rfl rfl (fun u H2 C2 hH hle hr2 hC2 => zdx (zl0 j2.ne (by decide) z4q hH hr2 hC2))) ?_; refine Z21 ?_; refine Z284 ?_; refine Z309 ?_; refine qo (zg0 L 900 (StG b s4) (zv0 [1] 0) (r := StG b s3) rfl rfl rfl rfl rfl (ze3 SlV.mono) (fun u H2 C2 hH hle hr2 hC2 => by have h := zd6 (keep := 1) j3.ne (by decide) (by decide) hH hr2 hC2; rw [z2f] at h; exact h)) ?_; refine Z343 ?_; refine Z147 ?_
 refine Z265 ?_; refine Z21 ?_; refine Z1 ?_; refine Z4 ?_; refine Z36 ?_; refine z7 (zp L rfl rfl (zk rfl) rfl rfl rfl (fun u H hH hle _ v1 h1 v2 h2 => zen (a := [1]) (b := [1]) (f := true) (fb := true) rfl (by decide) (by decide) hH h1 (h2.toV rfl))) rfl ?_; refine Z132 ?_; refine Z232 ?_; refine yq (zbb L 900 (RsV [2, 3] true) (r := StG b s4) rfl rfl rfl rfl rfl SlV.mono (fun u H2 C2 hH hle hr2 hC2 => by have h := ztg j4.ne (by decide) hH hr2 hC2; rw [z48] at h; exact h)) ?_; refine Z36 ?_; refine z7 (zp L rfl rfl (zk rfl) rfl rfl rfl (fun u H hH hle _ v1 h1 v2 h2 => zen (a := [2, 3]) (b := [2, 3]) (f := true) (fb := true) rfl (by decide) (by decide) hH h1 (h2.toV rfl))) rfl ?_; refine Z132 ?_; refine Z284 ?_; refine Z102 ?_; refine Z1 ?_; refine yq (zbb L 900 (WithP [] 14) (r := StG b s4) rfl rfl rfl rfl rfl WithP.mono (fun u H2 C2 hH hle hr2 hC2 => by have h := zjk (r := 1) j4.ne hH hr2 hC2; rw [z32] at h; exact h)) ?_; refine zbq 148 rfl fun vw Kw hw hpw => ?_; obtain ⟨svw, rfl, hsvw⟩ := hpw; obtain ⟨fw, pw, gw, qw, rfl, hplw⟩ := hsvw.shape; refine Z173 ?_; refine Z144 ?_; refine Z108 ?_; refine Z1 ?_; refine qo (zah L 900 (StG b s5) (.tuple #[.int .u64 4, .int .i64 0]) (r := StG b s4) rfl rfl rfl rfl rfl (fun u H2 C2 hH hle hr2 hC2 => zdx (zel (l := []) (cs := []) (j4.I (by decide)) (by decide) j4.ne (all _ (by simp)) (all _ (by simp)) (by decide) (by decide) z2a hH (SlV.nil (fu := false)) (SlV.nil (fu := false)) hr2 hC2))) ?_; refine Z240 ?_; refine Z289 ?_; refine qo (zah L 900 (StG b s6) (.int .i64 0) (r := StG b s5) rfl rfl rfl rfl rfl (fun u H2 C2 hH hle hr2 hC2 => zdx (zhj j5.ne (by decide) z2d hH hr2 hC2))) ?_; refine Z144 ?_; refine Z119 ?_; refine Z1 ?_; refine qo (zah L 900 (StG b s6) (.int .i64 8) (r := StG b s6) rfl rfl rfl rfl rfl (fun u H2 C2 hH hle hr2 hC2 => zdx (zhj j6.ne (by decide) z3y hH hr2 hC2))) ?_; refine Z144 ?_; refine Z97 ?_; refine Z1 ?_; refine qo (zg0 L 900 (StG b s7) (zv0 [2, 3] 0) (r := StG b s6) rfl rfl rfl rfl rfl (ze3 SlV.mono) (fun u H2 C2 hH hle hr2 hC2 => by have h := zd6 (keep := 1) j6.ne (by decide) (by decide) hH hr2 hC2; rw [z2e] at h; exact h)) ?_; refine Z343 ?_; refine Z144 ?_; refine Z399 ?_; refine yq (zbb L 900 (z4w [] 0) (r := StG b s7) rfl rfl rfl rfl rfl (ze3 SlV.mono) (fun u H2 C2 hH hle hr2 hC2 => by have h := zrl (p := 4) (q := 0) (j7.I (by decide)) j7.ne hH hr2 hC2; rw [z49] at h; exact h)) ?_; refine Z343 ?_; refine Z301 ?_; refine Z1 ?_; refine qo (zg0 L 900 (StG b s7) (zv0 [] 4) (r := StG b s7) rfl rfl rfl rfl rfl (ze3 SlV.mono) (fun u H2 C2 hH hle hr2 hC2 => by have h := zd6 (keep := 0) j7.ne (by decide) (by decide) hH hr2 hC2; rw [z3z] at h; exact h)) ?_; refine Z343 ?_; refine Z144 ?_
 refine Z302 ?_; refine Z23 ?_; refine Z140 ?_; refine Z23 ?_; refine Z232 ?_; refine Z23 ?_; refine Z232 ?_; refine Z23 ?_; refine Z232 ?_; refine Z23 ?_; refine Z232 ?_; refine Z23 ?_; refine Z8 ?_; refine Z1 ?_; refine Z4 ?_; refine Z36 ?_; refine z7 (zp L rfl rfl (zk rfl) rfl rfl rfl (fun u H hH hle _ v1 h1 v2 h2 => zen (a := [2, 3]) (b := [2, 3]) (f := true) (fb := true) rfl (by decide) (by decide) hH h1 (h2.toV rfl))) rfl ?_; refine Z132 ?_; refine Z232 ?_; refine Z23 ?_; refine Z8 ?_; refine Z1 ?_; refine Z150 ?_; refine Z132 ?_; refine Z232 ?_; refine Z23 ?_; refine Z232 ?_; refine qo (zah L 900 (StG b s7) (.int .i64 14) (r := StG b s7) rfl rfl rfl rfl rfl (fun u H2 C2 hH hle hr2 hC2 => zdx (zl0 j7.ne (by decide) z47 hH hr2 hC2))) ?_; refine Z23 ?_; refine Z8 ?_; refine Z138 ?_
 refine yd L (rs := [.tmp 0]) rfl (fun _ _ h => h) (hx.trans (hy.trans (hz.trans hw))) fun u H hH hle => ?_
 rfl
end Go.V.L10
set_option maxRecDepth 20000
namespace Go.V.L10
open Go.Proofs Go.RowKit Go.V Go.V.L2 Go.V.L8 Go.V.L6
abbrev ZO := OO × Value × Value
def ooc (z : ZO) : List Value := [.int .u8 z.1.wh, z.2.1, z.2.2, .int .u8 z.1.rv, .int .i64 z.1.kp]
theorem zzw (z : ZO) : (ooc z).length = 5 := rfl
def OzOK (zs : List ZO) (H : Heap) : Prop := ∀ z ∈ zs, OOK z.1 ∧ PS3 z.1.ms false z.2.1 H ∧ PS3 z.1.cs false z.2.2 H
theorem OzOK.le {zs : List ZO} {H H' : Heap} (h : OzOK zs H) (hle : H.Le H') : OzOK zs H' := fun z hz => ⟨(h z hz).1, (h z hz).2.1.le hle, (h z hz).2.2.le hle⟩
abbrev WsV (zs : List ZO) : Value → Heap → Prop := SlV z0x 5 (zs.flatMap ooc) zs.length false
theorem z3s {zs : List ZO} {i : Nat} {z : ZO} (h : zs[i]? = some z) : ((zs.flatMap ooc).drop (i * 5)).take 5 = [.int .u8 z.1.wh, z.2.1, z.2.2, .int .u8 z.1.rv, .int .i64 z.1.kp] := zda zzw zs i z h
def zhp (S : Sto) (zs : List ZO) (i : Nat) : Sto := (zs.take i).foldl (fun S z => doS S z.1) S
theorem zla {S : Sto} {zs : List ZO} {i : Nat} {z : ZO} (h : zs[i]? = some z) : zhp S zs (i + 1) = doS (zhp S zs i) z.1 := by
 unfold zhp; rw [zbr h, List.foldl_append]; rfl
theorem zmo {n : Nat} {S : Sto} {zs : List ZO} (h : JJ n S) : ∀ {i : Nat}, n + i ≤ 101 → JJ (n + i) (zhp S zs i)
 | 0, _ => h
 | i + 1, hi => by
  have ih := zmo h (zs := zs) (i := i) (by omega)
  rcases Nat.lt_or_ge i zs.length with hl | hl
  ·obtain ⟨z, hz⟩ := zae hl
   rw [zla hz]
   exact z35 ih (by omega) _
  ·have : zhp S zs (i + 1) = zhp S zs i := by unfold zhp; rw [List.take_of_length_le hl, List.take_of_length_le (by omega)]
   rw [this]
   exact ih.mono (by omega)
attribute [local irreducible] V N X VO Par StepOK Has Ret RetL RetO RetT zcb zdt RetY Src
end Go.V.L10
set_option maxRecDepth 20000
namespace Go.V
open Go.RowKit
inductive zfy where
 | s
 | b
 | i (k : IntKind)
def z29 : zfy → Value → Prop
 | .s, v => ∃ a : ByteArray, v = .string a ∧ a.size ≤ maxLen
 | .b, v => ∃ c, v = .bool c
 | .i k, v => ∃ n, v = .int k n ∧ (Lit.int k n).wf = true
def LeafsOK : List zfy → List Value → Prop
 | [], [] => True
 | l :: ls, v :: vs => z29 l v ∧ LeafsOK ls vs
 | _, _ => False
theorem LeafsOK.append : ∀ {a b : List zfy} {x y : List Value}, LeafsOK a x → LeafsOK b y → LeafsOK (a ++ b) (x ++ y)
 | [], _, [], _, _, h => h
 | [], _, _ :: _, _, h, _ => h.elim
 | _ :: _, _, [], _, h, _ => h.elim
 | _ :: _, _, _ :: _, _, h, k => ⟨h.1, LeafsOK.append h.2 k⟩
theorem LeafsOK.length : ∀ {a : List zfy} {x : List Value}, LeafsOK a x → x.length = a.length
 | [], [], _ => rfl
 | [], _ :: _, h => h.elim
 | _ :: _, [], h => h.elim
 | _ :: _, _ :: _, h => by simp [LeafsOK.length h.2]
theorem zqr {k : IntKind} {ls : List zfy} {vs : List Value} (h : LeafsOK (.i k :: ls) vs) : ∃ n r, vs = .int k n :: r ∧ (Lit.int k n).wf = true ∧ LeafsOK ls r := by
 cases vs with
 | nil => exact h.elim
 | cons v vs => obtain ⟨⟨a, rfl, ha⟩, h⟩ := h; exact ⟨a, vs, rfl, ha, h⟩
theorem zqq {vs : List Value} (h : LeafsOK [] vs) : vs = [] := by
 cases vs with
 | nil => rfl
 | cons _ _ => exact h.elim
def zw4 (P : Program) (rec : TypeId → Option (List zfy)) : List Field → Nat → Option (List zfy)
 | [], _ => some []
 | f :: fs, off => match rec f.type with
  | some ls => if f.offset = off ∧ P.cellsOf f.type = ls.length then
    match zw4 P rec fs (off + ls.length) with
    | some r => some (ls ++ r)
    | none => none
   else none
  | none => none
def zyn (ls : List zfy) : Nat → List zfy
 | 0 => []
 | n + 1 => ls ++ zyn ls n
def zpa (P : Program) : Nat → TypeId → Option (List zfy)
 | 0, _ => none
 | d + 1, t => match P.underlying t with
  | some .string => some [.s]
  | some (.int k) => some [.i k]
  | some .bool => some [.b]
  | some (.struct fs) => match zw4 P (zpa P d) fs.toList 0 with
   | some ls => if P.cellsOf t = ls.length then some ls else none
   | none => none
  | some (.array n e) => match zpa P d e with
   | some ls => if P.cellsOf e = ls.length ∧ P.cellsOf t = (zyn ls n).length then some (zyn ls n) else none
   | none => none
  | _ => none
theorem zmi {α β : Type} {f : α → Option β} : ∀ {l : List α} {ys : List β}, l.mapM f = some ys → ∃ g : List β, g = ys ∧ (∀ x ∈ l, ∃ y, f x = some y ∧ y ∈ ys) ∧ (∀ y ∈ ys, ∃ x ∈ l, f x = some y)
 | [], ys, h => by
  simp at h; subst h
  exact ⟨_, rfl, by simp, by simp⟩
 | x :: l, ys, h => by
  rw [List.mapM_cons] at h
  cases hx : f x with
  | none => rw [hx] at h; cases h
  | some y =>
   rw [hx] at h
   cases hl : l.mapM f with
   | none => rw [hl] at h; cases h
   | some zs =>
    rw [hl] at h
    cases h
    obtain ⟨_, _, h1, h2⟩ := zmi hl
    refine ⟨_, rfl, fun z hz => ?_, fun z hz => ?_⟩
    ·rcases List.mem_cons.1 hz with rfl | hz
     ·exact ⟨y, hx, List.mem_cons_self ..⟩
     ·obtain ⟨w, hw, hm⟩ := h1 z hz; exact ⟨w, hw, List.mem_cons_of_mem _ hm⟩
    ·rcases List.mem_cons.1 hz with rfl | hz
     ·exact ⟨x, List.mem_cons_self .., hx⟩
     ·obtain ⟨w, hw, hm⟩ := h2 z hz; exact ⟨w, List.mem_cons_of_mem _ hw, hm⟩
theorem zhi (cs : List Value) (off m r : Nat) : (cs.drop off).take (m + r) = (cs.drop off).take m ++ (cs.drop (off + m)).take r := by
 rw [List.take_add, List.drop_drop]
section
variable {P : Program} {H : Type} {enc : TypeId × Value → H} {W : World} {sp : Nat → Bool} {held : Bool} {base : Nat}
theorem zfp : ∀ (d : Nat) {t : TypeId} {ls : List zfy}, zpa P d t = some ls → ∀ {fuel : Nat} {cs : List Value} {x : DataW H × List MemPlace},
  DataW.trod enc P W base sp held fuel t cs = some x → LeafsOK ls cs ∧ x.2 = []
 | 0, _, _, h, _, _, _, _ => by cases h
 | d + 1, t, ls, h, fuel, cs, x, hx => by
  have ih := @zfp d
  cases fuel with
  | zero => simp [DataW.trod] at hx
  | succ fuel =>
   rw [zpa] at h
   unfold DataW.trod at hx
   cases hu : P.underlying t with
   | none => rw [hu] at h; cases h
   | some ds =>
    rw [hu] at h hx
    cases ds <;> first | (cases h; done) | skip
    ·cases h
     match cs, hx with
     | [.bool b], hx => cases hx; exact ⟨⟨⟨b, rfl⟩, trivial⟩, rfl⟩
    ·rename_i k
     cases h
     match cs, hx with
     | [.int k' m], hx =>
      simp only at hx
      split at hx
      ·rename_i hk
       obtain ⟨rfl, hw⟩ := hk
       cases hx; exact ⟨⟨⟨m, rfl, hw⟩, trivial⟩, rfl⟩
      ·cases hx
    ·cases h
     match cs, hx with
     | [.string s], hx =>
      simp only at hx
      split at hx
      ·rename_i hs; cases hx; exact ⟨⟨⟨s, rfl, hs⟩, trivial⟩, rfl⟩
      ·cases hx
    ·rename_i n e
     simp only at h hx
     split at h
     ·rename_i l1 hl1
      split at h
      ·rename_i hc
       cases h
       split at hx
       ·rename_i hlen
        obtain ⟨xs, hxs, rfl⟩ := Option.map_eq_some_iff.1 hx
        obtain ⟨_, _, hall, hback⟩ := zmi hxs
        have each : ∀ i, i < n → LeafsOK l1 ((cs.drop (i * P.cellsOf e)).take (P.cellsOf e)) := fun i hi => by
         obtain ⟨y, hy, _⟩ := hall i (List.mem_range.2 hi)
         exact (ih hl1 hy).1
        have gen : ∀ m k, k + m = n → LeafsOK (zyn l1 m) ((cs.drop (k * P.cellsOf e)).take (m * P.cellsOf e)) := by
         intro m
         induction m with
         | zero => intro k _; simp [zyn, LeafsOK]
         | succ m ihm =>
          intro k hk
          rw [show (m + 1) * P.cellsOf e = P.cellsOf e + m * P.cellsOf e by rw [Nat.succ_mul]; omega, zhi]
          refine LeafsOK.append (each k (by omega)) ?_
          rw [show k * P.cellsOf e + P.cellsOf e = (k + 1) * P.cellsOf e by rw [Nat.succ_mul]]
          exact ihm (k + 1) (by omega)
        refine ⟨?_, ?_⟩
        ·have := gen n 0 (by omega)
         have hrl : ∀ m, (zyn l1 m).length = m * P.cellsOf e := by
          intro m
          induction m with
          | zero => simp [zyn]
          | succ m ihm => simp only [zyn, List.length_append, ihm, hc.1]; rw [Nat.succ_mul]; omega
         rw [← hrl n, ← hc.2, ← hlen] at this
         simpa using this
        ·refine List.flatMap_eq_nil_iff.2 fun y hy => ?_
         obtain ⟨i, _, hi⟩ := hback y hy
         exact (ih hl1 hi).2
       ·cases hx
      ·cases h
     ·cases h
    ·rename_i fs
     simp only at h hx
     split at h
     ·rename_i l1 hl1
      split at h
      ·rename_i hc
       cases h
       split at hx
       ·rename_i hlen
        obtain ⟨xs, hxs, rfl⟩ := Option.map_eq_some_iff.1 hx
        obtain ⟨_, _, hall, hback⟩ := zmi hxs
        have gen : ∀ (fl : List Field) (off : Nat) (ls : List zfy), (∀ f ∈ fl, f ∈ fs.toList) → zw4 P (zpa P d) fl off = some ls →
          LeafsOK ls ((cs.drop off).take ls.length) ∧ ∀ f ∈ fl, ∃ l, zpa P d f.type = some l := by
         intro fl
         induction fl with
         | nil => intro off ls _ h; cases h; simp [LeafsOK]
         | cons f fl ihf =>
          intro off ls hm h
          simp only [zw4] at h
          split at h
          ·rename_i l2 hl2
           split at h
           ·rename_i hc2
            obtain ⟨rfl, hc3⟩ := hc2
            split at h
            ·rename_i r hr
             cases h
             obtain ⟨g1, g2⟩ := ihf _ _ (fun g hg => hm g (List.mem_cons_of_mem _ hg)) hr
             refine ⟨?_, fun g hg => ?_⟩
             ·rw [List.length_append, zhi]
              refine LeafsOK.append ?_ g1
              obtain ⟨y, hy, _⟩ := hall f (hm f (List.mem_cons_self ..))
              rw [← hc3]
              exact (ih hl2 hy).1
             ·rcases List.mem_cons.1 hg with rfl | hg
              ·exact ⟨l2, hl2⟩
              ·exact g2 g hg
            ·cases h
           ·cases h
          ·cases h
        obtain ⟨g1, g2⟩ := gen fs.toList 0 _ (fun _ h => h) hl1
        refine ⟨?_, ?_⟩
        ·rw [← hc, ← hlen] at g1; simpa using g1
        ·refine List.flatMap_eq_nil_iff.2 fun y hy => ?_
         obtain ⟨f, hf, hi⟩ := hback y hy
         obtain ⟨l, hl⟩ := g2 f hf
         exact (ih hl hi).2
       ·cases hx
      ·cases h
     ·cases h
end
end Go.V
set_option maxRecDepth 20000
namespace Go.V
open Go.ChangeShapes Go.WideShapes Go.ChangeAt Go.ChangeMaps Go.RowKit
inductive Sh where
 | l (k : zfy)
 | s (t e : TypeId) (ls : List zfy)
def z5b (H : Heap) (e : TypeId) (ls : List zfy) (v : Value) : Prop := ∃ cs : List (List Value), (∀ c ∈ cs, LeafsOK ls c) ∧ cs.length ≤ maxLen ∧ SlV e ls.length cs.flatten cs.length false v H
def ShOK (H : Heap) : List Sh → List Value → Prop
 | [], vs => vs = []
 | .l k :: r, vs => ∃ v w, vs = v :: w ∧ LeafsOK [k] [v] ∧ ShOK H r w
 | .s _ e ls :: r, vs => ∃ v w, vs = v :: w ∧ z5b H e ls v ∧ ShOK H r w
theorem ShOK.append {H : Heap} : ∀ {a b : List Sh} {x y : List Value}, ShOK H a x → ShOK H b y → ShOK H (a ++ b) (x ++ y)
 | [], _, _, _, hx, hy => by cases hx; exact hy
 | .l k :: a, _, _, _, ⟨v, w, e, h1, h2⟩, hy => by subst e; exact ⟨v, _, rfl, h1, ShOK.append h2 hy⟩
 | .s t e ls :: a, _, _, _, ⟨v, w, e', h1, h2⟩, hy => by subst e'; exact ⟨v, _, rfl, h1, ShOK.append h2 hy⟩
section
variable {P : Program} {H : Type} {enc : TypeId × Value → H} {W : World} {held : Bool}
end
end Go.V
set_option maxRecDepth 20000
namespace Go.V
open Go.ChangeShapes Go.WideShapes Go.ChangeAt Go.ChangeMaps Go.RowKit
section
variable {P : Program} {H : Type} {enc : TypeId × Value → H} {W : World} {held : Bool}
def zhd (enc : TypeId × Value → H) (P : Program) (W : World) (held : Bool) (t : TypeId) (n : Nat) (Φ : List Value → Prop) : Prop :=
 P.cellsOf t = n ∧ ∀ (fuel : Nat) (cs : List Value) (x : DataW H × List MemPlace), DataW.trod enc P W 0 (fun _ => true) held fuel t cs = some x → (x.1.weights P t).all (· ≤ reachBytes) = true → cs.length = n ∧ Φ cs
theorem zhn {t : TypeId} {ls : List zfy} (h : zpa P 20 t = some ls) (hc : P.cellsOf t = ls.length) : zhd enc P W held t ls.length (LeafsOK ls) :=
 ⟨hc, fun _ _ _ hx _ => ⟨(zfp 20 h hx).1.length, (zfp 20 h hx).1⟩⟩
def SlD (e : TypeId) (n by_ : Nat) (Φ : List Value → Prop) (Hh : Heap) (v : Value) : Prop := ∃ cs : List (List Value), (∀ c ∈ cs, c.length = n ∧ Φ c) ∧ cs.length ≤ maxLen ∧ cs.length * by_ ≤ reachBytes ∧ SlV e n cs.flatten cs.length false v Hh
theorem zff {e : TypeId} : ∀ {l : List (DataW H)} {d : DataW H}, d ∈ l → ∀ n ∈ d.weights P e, n ∈ DataW.weightsAll P e l
 | d0 :: l, d, hd, n, hn => by
  simp only [DataW.weightsAll, List.mem_append]
  rcases List.mem_cons.1 hd with rfl | hd
  ·exact .inl hn
  ·exact .inr (zff hd n hn)
theorem zye {l m : List Nat} (h : l.all (· ≤ reachBytes) = true) (hs : ∀ n ∈ m, n ∈ l) : m.all (· ≤ reachBytes) = true :=
 List.all_eq_true.2 fun n hn => List.all_eq_true.1 h n (hs n hn)
theorem wt_at {ts : List TypeId} {ds : List (DataW H)} (h : (DataW.weightsEach P ts ds).all (· ≤ reachBytes) = true) (j : Nat) {t : TypeId} {d : DataW H} (ht : ts[j]? = some t) (hd : ds[j]? = some d) : (d.weights P t).all (· ≤ reachBytes) = true :=
 zye h (DataW.weights_mem_each ht hd)
theorem zjt {t e : TypeId} {n : Nat} {Φ : List Value → Prop} (ht : P.underlying t = some (.slice e)) (hct : P.cellsOf t = 1) (he : zhd enc P W held e n Φ) (hn : 0 < n) :
  zhd enc P W held t 1 (fun vs => ∃ v, vs = [v] ∧ SlD e n (P.bytesOf e) Φ (hp W) v) := by
 refine ⟨hct, fun fuel cs x hf hw => ?_⟩
 rcases Deep.open_slice ht hf with ⟨rfl, _⟩ | ⟨a, len, cap, m, nn, D, Pl, rfl, _, h1, h2, hm, rfl, hx⟩
 ·exact ⟨rfl, _, rfl, [], fun c h => (nomatch h), Nat.zero_le _, by simp, SlV.nil⟩
 refine ⟨rfl, _, rfl, ?_⟩
 simp only [if_true] at hm
 subst hm
 have hwe : (DataW.weights P t (DataW.slice ((List.range len).map D) ((List.range (m - len)).map fun j => D (len + j)))) = (len + (m - len)) * P.bytesOf e :: (DataW.weightsAll P e ((List.range len).map D) ++ DataW.weightsAll P e ((List.range (m - len)).map fun j => D (len + j))) := by
  rw [DataW.weights, ht]; simp
 simp only at hw
 rw [hwe] at hw
 have hb : (len + (m - len)) * P.bytesOf e ≤ reachBytes := by
  have := List.all_eq_true.1 hw _ (List.mem_cons_self ..)
  simpa using this
 have hwD : ∀ i, i < len → ((D i).weights P e).all (· ≤ reachBytes) = true := fun i hi => zye hw fun k hk =>
  List.mem_cons_of_mem _ (List.mem_append_left _ (zff (List.mem_map.2 ⟨i, List.mem_range.2 hi, rfl⟩) k hk))
 rcases Nat.eq_zero_or_pos m with h0 | h0
 ·obtain rfl : len = 0 := by omega
  subst h0
  exact ⟨[], fun c h => (nomatch h), Nat.zero_le _, by simp, by simp, .inl ⟨rfl, _, rfl⟩⟩
 obtain ⟨he1, he2⟩ := he
 have hsp : a.spot = none ∧ ∃ c0 ty fr, W.heap[a.block]? = some (.cells c0 ty fr) := by
  obtain ⟨c, g1, _⟩ := hx 0 h0
  obtain ⟨_, g2, g3⟩ := World.cells?_some g1
  have g4 := g3 0 (by omega)
  have hc0 : ∃ v, c[0]? = some v := ⟨_, List.getElem?_eq_getElem (by omega)⟩
  obtain ⟨v, hv⟩ := hc0
  rw [hv] at g4
  have hadd : ((a.add (0 * P.cellsOf e)).add 0) = a := by
   rw [Nat.zero_mul]
   unfold Addr.add
   simp
  rw [hadd] at g4
  unfold World.cell? at g4
  split at g4
  ·rename_i c1 ty fr hh
   split at g4
   ·cases g4
   ·rename_i hs
    exact ⟨by simpa using hs, _, _, _, hh⟩
  ·cases g4
 obtain ⟨h3, cs, ty, fr, h4⟩ := hsp
 obtain ⟨C, hC⟩ := Deep.choose_lt (α := List Value) (n := m) (p := fun i c => W.cells? 0 (a.add (i * P.cellsOf e)) (P.cellsOf e) = some c ∧ (i < len → c.length = n ∧ Φ c)) (fun i hi => by
  obtain ⟨c, g1, g2⟩ := hx i hi
  exact ⟨c, g1, fun hl => he2 _ _ _ g2 (hwD i hl)⟩)
 have hln : ∀ i, i < len → (C i).length = n := fun i hi => ((hC i (by omega)).2 hi).1
 refine ⟨(List.range len).map C, fun c hc => ?_, by simp; omega, ?_, ?_⟩
 ·obtain ⟨i, hi, rfl⟩ := List.mem_map.1 hc
  exact (hC i (by have := List.mem_range.1 hi; omega)).2 (List.mem_range.1 hi)
 ·rw [List.length_map, List.length_range]
  exact Nat.le_trans (Nat.mul_le_mul_right _ (by omega)) hb
 ·have hfl : ∀ k, k ≤ len → ((List.range k).map C).flatten.length = k * n := by
   intro k
   induction k with
   | zero => simp
   | succ k ih =>
    intro hk
    rw [List.range_succ, List.map_append, List.flatten_append, List.length_append, ih (by omega), Nat.succ_mul]
    simp [hln k (by omega)]
  refine ⟨by rw [hfl len (Nat.le_refl _), List.length_map, List.length_range], .inr ⟨a.block, a.off, m, cs, ty, fr, ?_, h4, ?_, by simpa using h1, fun h => by cases h⟩⟩
  ·obtain ⟨ab, ao, asp⟩ := a
   simp only at h3
   subst h3
   simp
  ·rw [hfl len (Nat.le_refl _)]
   have key : ∀ k, k ≤ len → (cs.toList.drop a.off).take (k * n) = ((List.range k).map C).flatten := by
    intro k
    induction k with
    | zero => simp
    | succ k ih =>
     intro hk
     rw [Nat.succ_mul, zhi, ih (by omega), List.range_succ, List.map_append, List.flatten_append]
     congr 1
     obtain ⟨_, g2, g3⟩ := World.cells?_some (hC k (by omega)).1
     simp only [List.map_cons, List.map_nil, List.flatten_cons, List.flatten_nil, List.append_nil]
     apply List.ext_getElem?
     intro j
     rcases Nat.lt_or_ge j n with hj | hj
     ·have := g3 j (by omega)
      rw [← this, List.getElem?_take_of_lt hj, List.getElem?_drop]
      obtain ⟨ab, ao, asp⟩ := a
      simp only at h3
      subst h3
      rw [zc4, zc4, za2 h4]
      simp only [he1]
      rw [Array.getElem?_toList]
     ·rw [List.getElem?_eq_none (by rw [List.length_take]; omega), List.getElem?_eq_none (by rw [hln k (by omega)]; exact hj)]
   exact key len (Nat.le_refl _)
def zgu : List (Nat × (List Value → Prop)) → List Value → Prop
 | [], vs => vs = []
 | (n, Φ) :: r, vs => ∃ a b, vs = a ++ b ∧ a.length = n ∧ Φ a ∧ zgu r b
inductive zkq (enc : TypeId × Value → H) (P : Program) (W : World) (held : Bool) : List Field → Nat → List (Nat × (List Value → Prop)) → Prop
 | nil {off : Nat} : zkq enc P W held [] off []
 | cons {f : Field} {fs : List Field} {off n : Nat} {Φ : List Value → Prop} {r : List (Nat × (List Value → Prop))} (ho : f.offset = off) (hr : zhd enc P W held f.type n Φ) (h : zkq enc P W held fs (off + n) r) : zkq enc P W held (f :: fs) off ((n, Φ) :: r)
def z0y : List (Nat × (List Value → Prop)) → Nat
 | [] => 0
 | p :: r => p.1 + z0y r
theorem zd8 {t : TypeId} {fs : Array Field} {ps : List (Nat × (List Value → Prop))} (hu : P.underlying t = some (.struct fs)) (h : zkq enc P W held fs.toList 0 ps) (hc : P.cellsOf t = z0y ps) : zhd enc P W held t (z0y ps) (zgu ps) := by
 refine ⟨hc, fun fuel cs x hf hw => ?_⟩
 obtain ⟨xs, n, rfl, rfl, hl, hxl, hx⟩ := DataW.trod_struct hu hf
 have hwe : DataW.weights P t (DataW.agg (H := H) (xs.map (·.1))) = DataW.weightsEach P (fs.toList.map (·.type)) (xs.map (·.1)) := by
  rw [DataW.weights, hu]
 simp only at hw
 rw [hwe] at hw
 refine ⟨by rw [hl, hc], ?_⟩
 have gen : ∀ (fl : List Field) (i off : Nat) (ps : List (Nat × (List Value → Prop))), (∀ (j : Nat) f, fl[j]? = some f → fs[i + j]? = some f) → zkq enc P W held fl off ps → off + z0y ps = cs.length → zgu ps (cs.drop off) := by
  intro fl
  induction fl with
  | nil => intro i off ps _ h ho; cases h; simp only [z0y] at ho; simp only [zgu]; rw [List.drop_eq_nil_of_le (by omega)]
  | cons f fl ihf =>
   intro i off ps hm h ho
   cases h with
   | @cons _ _ _ n' Φ r h1 h2 h3 =>
   simp only [z0y] at ho
   have g0 := hm 0 f rfl
   rw [Nat.add_zero] at g0
   have g1 := hx i f g0
   have hi : i < xs.length := by
    rw [hxl]
    rcases Nat.lt_or_ge i fs.size with h | h
    ·exact h
    ·rw [Array.getElem?_eq_none h] at g0; cases g0
   rw [List.getElem?_eq_getElem hi, h1, h2.1] at g1
   have hwi : (xs[i].1.weights P f.type).all (· ≤ reachBytes) = true := wt_at hw i (by rw [List.getElem?_map, Array.getElem?_toList, g0]; rfl) (by rw [List.getElem?_map, List.getElem?_eq_getElem hi]; rfl)
   obtain ⟨g2, g3⟩ := h2.2 _ _ _ g1 hwi
   refine ⟨(cs.drop off).take n', cs.drop (off + n'), ?_, g2, g3, ihf (i + 1) (off + n') r (fun j f' hj => ?_) h3 (by omega)⟩
   ·rw [← List.drop_drop, List.take_append_drop]
   ·have := hm (j + 1) f' (by simpa using hj)
    rw [← this]; congr 1; omega
 have g := gen fs.toList 0 0 ps (fun j f hj => by rw [Nat.zero_add, ← Array.getElem?_toList]; exact hj) h (by rw [hl, hc]; omega)
 simpa using g
theorem open_agD {t : TypeId} {n b0 : Nat} {Φ : List Value → Prop} {v : Value} {dd : DataW H} {ps : List MemPlace} (h : zhd enc P W held t n Φ) (ha : (match P.underlying t with | some (.struct _) | some (.array _ _) => true | _ => false) = true)
  (hval : Value.okWide P W .any b0 t v) (hd : DataW.Trod enc P W 0 (fun _ => true) held t v dd ps) (hw : (dd.weights P t).all (· ≤ reachBytes) = true) : ∃ cs : List Value, v = .agg cs.toArray ∧ Φ cs := by
 obtain ⟨fuel, hf⟩ := hd
 have key : ∃ cs, v = .agg cs := by
  unfold Value.okWide at hval
  split at hval
  ·obtain ⟨cs, h1, _⟩ := hval; exact ⟨cs, h1⟩
  ·obtain ⟨cs, h1, _⟩ := hval; exact ⟨cs, h1⟩
  ·rename_i h1 h2
   exfalso
   split at ha
   ·rename_i x hx; exact h1 _ hx
   ·rename_i x y hx; exact h2 _ _ hx
   ·cases ha
 obtain ⟨cs, rfl⟩ := key
 exact ⟨cs.toList, by simp, (h.2 _ _ _ hf hw).2⟩
end
end Go.V
set_option maxRecDepth 20000
namespace Go.V.L10
open Go.Proofs Go.ChangeShapes Go.WideShapes Go.ChangeAt Go.ChangeMaps Go.RowKit Go.V Go.V.L2 Go.V.L6
abbrev C3L : List zfy := [.i .u8, .i .u8, .i .u8]
abbrev C3P (H : Heap) : List Value → Prop := fun vs => ∃ v, vs = [v] ∧ SlD ty3 3 (Tryz.prog.bytesOf ty3) (LeafsOK C3L) H v
abbrev DdP (H : Heap) : List (Nat × (List Value → Prop)) := [(1, C3P H)]
abbrev MmP (H : Heap) : List (Nat × (List Value → Prop)) := [(1, zgu (DdP H))]
abbrev OoP (H : Heap) : List (Nat × (List Value → Prop)) := [(1, LeafsOK [.i .u8]), (1, zgu (MmP H)), (1, zgu (DdP H)), (1, LeafsOK [.i .u8]), (1, LeafsOK [.i .i64])]
abbrev OsP (H : Heap) : List Value → Prop := fun vs => ∃ v, vs = [v] ∧ SlD z0x 5 (Tryz.prog.bytesOf z0x) (zgu (OoP H)) H v
abbrev WwP (H : Heap) : List (Nat × (List Value → Prop)) := [(1, OsP H)]
section
variable {H : Type} {enc : TypeId × Value → H} {W : World} {held : Bool}
theorem ztm : zhd enc Tryz.prog W held 64 1 (C3P (hp W)) := zjt Tryz.underlying64 (by kernel_rfl) (zhn (ls := C3L) (by kernel_rfl) (by kernel_rfl)) (by decide)
theorem zqa : zhd enc Tryz.prog W held 66 1 (zgu (DdP (hp W))) := zd8 Tryz.underlying66 (.cons rfl ztm .nil) (by kernel_rfl)
theorem zwm : zhd enc Tryz.prog W held 68 1 (zgu (MmP (hp W))) := zd8 Tryz.underlying68 (.cons rfl zqa .nil) (by kernel_rfl)
theorem zp9 : zhd enc Tryz.prog W held 5 1 (LeafsOK [.i .u8]) := zhn (ls := [.i .u8]) (by kernel_rfl) (by kernel_rfl)
theorem ztl : zhd enc Tryz.prog W held 3 1 (LeafsOK [.i .i64]) := zhn (ls := [.i .i64]) (by kernel_rfl) (by kernel_rfl)
theorem zwl : zhd enc Tryz.prog W held z0x 5 (zgu (OoP (hp W))) := zd8 Tryz.underlying70 (.cons rfl zp9 (.cons rfl zwm (.cons rfl zqa (.cons rfl zp9 (.cons rfl ztl .nil))))) (by kernel_rfl)
theorem zwk : zhd enc Tryz.prog W held 22 1 (OsP (hp W)) := zjt Tryz.underlying22 (by kernel_rfl) zwl (by decide)
theorem reads_ww : zhd enc Tryz.prog W held 24 1 (zgu (WwP (hp W))) := zd8 Tryz.underlying24 (.cons rfl zwk .nil) (by kernel_rfl)
end
theorem zmk {k : IntKind} {a : List Value} (h : LeafsOK [.i k] a) : ∃ z, a = [.int k z] ∧ (Lit.int k z).wf = true := by
 obtain ⟨z, r, rfl, h1, h2⟩ := zqr h
 obtain rfl := zqq h2
 exact ⟨z, rfl, h1⟩
theorem zpg {α : Type} {f : α → List Value} {Φ : List Value → Prop} {Ψ : α → Prop} (hf : ∀ c, Φ c → ∃ x, c = f x ∧ Ψ x) : ∀ (cs : List (List Value)), (∀ c ∈ cs, Φ c) → ∃ l : List α, cs.flatten = l.flatMap f ∧ l.length = cs.length ∧ ∀ x ∈ l, Ψ x
 | [], _ => ⟨[], rfl, rfl, fun x h => by cases h⟩
 | c :: cs, h => by
  obtain ⟨x, rfl, hx⟩ := hf c (h c (List.mem_cons_self ..))
  obtain ⟨l, h1, h2, h3⟩ := zpg hf cs fun d hd => h d (List.mem_cons_of_mem _ hd)
  exact ⟨x :: l, by rw [List.flatten_cons, List.flatMap_cons, h1], by rw [List.length_cons, List.length_cons, h2], fun y hy => by
   rcases List.mem_cons.1 hy with rfl | hy
   ·exact hx
   ·exact h3 y hy⟩
theorem zm8 {z : Int} (h : (Lit.int .u8 z).wf = true) : ∃ n : Nat, z = (n : Int) ∧ n ≤ 255 := by
 have := Go.bounds_u8 h
 exact ⟨z.toNat, by omega, by omega⟩
theorem z4b {a : List Value} (h : LeafsOK C3L a) : ∃ x : C3, a = qcs x ∧ x.1 ≤ 255 ∧ x.2.1 ≤ 255 ∧ x.2.2 ≤ 255 := by
 obtain ⟨z1, r, rfl, h1, h⟩ := zqr h
 obtain ⟨z2, r, rfl, h2, h⟩ := zqr h
 obtain ⟨z3, r, rfl, h3, h⟩ := zqr h
 obtain rfl := zqq h
 obtain ⟨n1, rfl, b1⟩ := zm8 h1
 obtain ⟨n2, rfl, b2⟩ := zm8 h2
 obtain ⟨n3, rfl, b3⟩ := zm8 h3
 exact ⟨(n1, n2, n3), rfl, b1, b2, b3⟩
theorem zy4 {H : Heap} {v : Value} (h : SlD ty3 3 (Tryz.prog.bytesOf ty3) (LeafsOK C3L) H v) : ∃ l : List C3, PS3 l false v H ∧ l.length ≤ 9223372036854775807 ∧ ∀ c ∈ l, c.1 ≤ 255 ∧ c.2.1 ≤ 255 ∧ c.2.2 ≤ 255 := by
 obtain ⟨cs, h1, h2, h3, h4⟩ := h
 obtain ⟨l, g1, g2, g3⟩ := zpg (f := qcs) (Ψ := fun x : C3 => x.1 ≤ 255 ∧ x.2.1 ≤ 255 ∧ x.2.2 ≤ 255) (fun c hc => z4b hc) cs fun c hc => (h1 c hc).2
 rw [g1, ← g2] at h4
 exact ⟨l, h4, by rw [g2]; exact h2, g3⟩
theorem z3r {H : Heap} {c : List Value} (h : zgu (OoP H) c) : ∃ z : ZO, c = ooc z ∧ OOK z.1 ∧ PS3 z.1.ms false z.2.1 H ∧ PS3 z.1.cs false z.2.2 H := by
 obtain ⟨a1, b, rfl, -, h1, h⟩ := h
 obtain ⟨a2, b, rfl, -, ⟨_, _, rfl, -, ⟨_, _, rfl, -, ⟨mv, rfl, hm⟩, rfl⟩, rfl⟩, h⟩ := h
 obtain ⟨a3, b, rfl, -, ⟨_, _, rfl, -, ⟨cv, rfl, hc⟩, rfl⟩, h⟩ := h
 obtain ⟨a4, b, rfl, -, h4, h⟩ := h
 obtain ⟨a5, b, rfl, -, h5, rfl⟩ := h
 obtain ⟨z1, rfl, w1⟩ := zmk h1
 obtain ⟨z4, rfl, w4⟩ := zmk h4
 obtain ⟨z5, rfl, w5⟩ := zmk h5
 obtain ⟨n1, rfl, b1⟩ := zm8 w1
 obtain ⟨n4, rfl, b4⟩ := zm8 w4
 obtain ⟨ms, g1, g2, g3⟩ := zy4 hm
 obtain ⟨cs, k1, k2, k3⟩ := zy4 hc
 exact ⟨(⟨n1, ms, cs, n4, z5⟩, mv, cv), rfl, ⟨b1, b4, g3, k3, g2, k2⟩, g1, k1⟩
theorem z3j {H : Heap} {c : List Value} (h : zgu (WwP H) c) : ∃ (xv : Value) (zs : List ZO), c = [xv] ∧ WsV zs xv H ∧ OzOK zs H := by
 obtain ⟨a1, b, rfl, -, ⟨v, rfl, cs, g1, g2, g3, g4⟩, rfl⟩ := h
 obtain ⟨zs, e1, e2, e3⟩ := zpg (f := ooc) (Ψ := fun z : ZO => OOK z.1 ∧ PS3 z.1.ms false z.2.1 H ∧ PS3 z.1.cs false z.2.2 H) (fun c hc => z3r hc) cs fun c hc => (g1 c hc).2
 rw [e1, ← e2] at g4
 exact ⟨v, zs, rfl, g4, e3⟩
end Go.V.L10
set_option maxRecDepth 20000
namespace Go.V.L10
open Go.Proofs Go.RowKit Go.V Go.V.L2 Go.V.L8 Go.V.L6
abbrev WithT (l : List U) (e : Int) : Value → Heap → Prop := TupS [SetV l, fun v _ => v = .int .i64 e]
theorem WithT.mono {l : List U} {e : Int} : Kn.mono (.sat (WithT l e)) := ze3 SetV.mono
theorem WithP.tup {l : List U} {e : Int} {v : Value} {H : Heap} (h : WithP l e v H) : WithT l e v H := by
 obtain ⟨tv, rfl, h2⟩ := h
 exact zd4 h2
theorem ziq {S : Sto} {b : Nat} {r : Int} {t : List U} {e : Int} (he : atS S r = (t, e)) (hn : S.R.length ≠ 0) {w : World} {B : Heap} {C : Nat → Prop} (hB : B.Le (hp w)) (hr : (StG b S).P B w C) (hC : ∀ k, C k → k < w.heap.size ∧ B k = none) :
  RetY Tryz.prog 13 [zho b, .int .u64 r] w B C (StG b S) (WithT t e) := by
 have h := zjk (r := r) hn hB hr hC
 rw [he] at h
 exact RetY.mono h fun _ _ _ => WithP.tup
theorem zqp {b : Nat} {S : Sto} (hn : S.R.length ≠ 0) {u : World} {H : Heap} (hH : H.Le (hp u)) (h : ∃ m s, (∃ p k c, s = .slice p k c) ∧ H b = some (.cells (stc S.R.length m s S.P.length).toArray tyS)) : Ret Tryz.prog 15 [zho b] u H (fun v _ => v = .int .u64 S.R.length) := by
 obtain ⟨m, s, _, hb⟩ := h
 exact zle hn hb hH
theorem zvc {n : Nat} {S : Sto} (hj : JJ n S) {r : Int} (hr : r ∈ zak S.P) : ∃ t, atS S r = (t, 0) := by
 have h1 := hj.pin r (zax.1 hr)
 obtain ⟨t, ht⟩ := Option.isSome_iff_exists.1 h1
 have h2 := zet h1
 exact ⟨t, by unfold atS; rw [if_neg (by omega), ht]⟩
theorem zu2 {n : Nat} {S : Sto} (hj : JJ n S) : ∃ t, atS S (S.R.length : Nat) = (t, 0) := by
 obtain ⟨t, ht⟩ := Option.isSome_iff_exists.1 hj.last
 have := hj.ne
 exact ⟨t, by unfold atS; rw [if_neg (by omega), ht]⟩
attribute [local irreducible] V N X VO Par StepOK Has Ret RetL RetO RetT zcb zdt RetY Src
set_option maxHeartbeats 4000000 in
set_option maxRecDepth 20000 in
theorem zkr {zs : List ZO} {xv : Value} {w : World} {B : Heap} (hB : B.Le (hp w)) (hx : WsV zs xv B) (ho : OzOK zs B) : Ret Tryz.prog 5 [.agg #[xv]] w B (fun v _ => v = .bool true) := by
 obtain ⟨p, c, rfl⟩ := zao hx
 refine yf Tryz.func5 rfl Tryz.ntmps5 (Nat.le_of_ble_eq_true rfl) hB ?_
 refine Z271 ?_; refine z7 (zeb L rfl rfl (zk rfl) rfl rfl rfl (fun u H hH hle _ => zwz hH)) rfl ?_; refine qo (yn (.inr rfl) rfl rfl rfl rfl) ?_; refine Z188 ?_
 refine zi2 3 900 rfl fun x => ?_
 obtain ⟨pb, b⟩ := x
 refine Z338 ?_
 refine zaj (fun i : Nat => [(1, .sat (At [.slice p zs.length c] 24 0)), (3, .is (zho pb)), (4, .is (.int .i64 i)), (900, .own (BoG pb b (zhp newS zs i)).res)]) (fun i => i ≤ zs.length ∧ i ≤ 25) (fun i => 25 - i) 0 ⟨Nat.zero_le _, Nat.zero_le _⟩ ⟨rfl, rfl, rfl, rfl, trivial⟩ ?_
 rintro i ⟨h1, h2⟩
 dsimp only at h1 h2 ⊢
 have hji := zmo zu8 (zs := zs) (i := i) (by omega)
 by_cases hl : i < zs.length ∧ i < 25
 ·obtain ⟨hl, h25⟩ := hl
  obtain ⟨z, hz⟩ := zae hl
  obtain ⟨o, mv, cv⟩ := z
  have hoz := ho _ (List.mem_of_getElem? hz)
  have hc := z3s hz
  have hps := zla (S := newS) hz
  have hwk : IntKind.i64.wrap ((i : Int) + 1) = ((i + 1 : Nat) : Int) := zaa (by omega) (by omega)
  have hem : Int.tmod ((i : Nat) : Int) 5 = ((i % 5 : Nat) : Int) := rfl
  have hjn := zmo zu8 (zs := zs) (i := i + 1) (by omega)
  rw [hps] at hjn
  dsimp only at hjn
  generalize hS : doS (zhp newS zs i) o = S at hjn hps
  have hne := hjn.ne
  have hP := hjn.hP
  by_cases h5 : i % 5 = 4
  ·have hem4 : Int.tmod ((i : Nat) : Int) 5 = 4 := by rw [hem, h5]; rfl
   refine Z234 ?_; refine Z260 ?_; refine Z7 ?_; refine Z311 ?_; refine Z248 ?_; refine Z308 ?_; refine Z180 ?_; refine Z212 ?_; refine Z1 ?_; refine z7 (qu L _ rfl rfl rfl rfl rfl rfl rfl (by first | omega | decide) (by assumption)) rfl ?_; refine z7 (yg L (vs := [_, _, _, _, _]) rfl rfl rfl rfl rfl ⟨_, rfl⟩) rfl ?_; refine qo (zah L 900 (BoG pb b S) (.int .i64 1) (r := BoG pb b (zhp newS zs i)) rfl rfl rfl rfl rfl (fun u H2 C2 hH hle hr2 hC2 => by have h := zyw hji (by omega) hoz.1 hH ⟨mv, cv, rfl, hoz.2.1.le hle, hoz.2.2.le hle⟩ hr2 hC2; rw [hS] at h; exact zdx h)) ?_; refine Z12 ?_; refine Z140 ?_; refine Z75 ?_; refine Z23 ?_; refine Z140 ?_; refine yq (zfn L 900 (.int .i64 1) (r := BoG pb b (S)) rfl rfl rfl rfl rfl (fun u H2 C2 hH hle hr2 hC2 => zkl hjn (by omega) hH hr2 hC2)) ?_; refine Z12 ?_; refine Z8 ?_; refine Z284 ?_
   rw [zmy pb b S]
   refine zew 900 901 rfl (zar (StG b S)) ?_
   rw [zmz pb b S]
   refine zd1 900 rfl fun x H hs0 hφ => ?_
   obtain ⟨lv, pv⟩ := x
   obtain ⟨hlv, hpv⟩ := hφ
   dsimp only at hlv hpv ⊢
   refine Z193 ?_; refine Z261 ?_; refine yq (zbb L 901 (PinsP S.P) (r := StG b S) rfl rfl rfl rfl rfl PinsP.mono (fun u H2 C2 hH hle hr2 hC2 => znc hne hH hr2 hC2)) ?_; refine zbq 45 rfl fun v1 H1 hs1 hp1 => ?_; obtain ⟨sv, rfl, hsv⟩ := hp1; obtain ⟨p1, c1, rfl⟩ := zao hsv; refine z7 (yr (φ := RsV (zak S.P) true) L rfl rfl (zk rfl) rfl rfl rfl SlV.mono (fun u H hH hle _ => zmq (by omega) hH (hsv.le hle))) rfl ?_; refine Z351 ?_; refine Z57 ?_; refine Z196 ?_
   have hhl := zbt S.P
   refine zaj (fun k : Nat => [(1, .sat (At [.slice p zs.length c] 24 0)), (3, .is (zho pb)), (4, .is (.int .i64 i)), (5, .sat (RsV (zak S.P) true)), (6, .is (.int .i64 k)), (900, .own (zal pb [zho b, lv, pv] zyi)), (901, .own (StG b S).res)]) (fun k => k ≤ (zak S.P).length) (fun k => (zak S.P).length - k) 0 (Nat.zero_le _) ⟨rfl, rfl, rfl, rfl, rfl, rfl, rfl, trivial⟩ ?_
   rintro k hk
   by_cases hlk : k < (zak S.P).length
   ·obtain ⟨r, hr⟩ := zae hlk
    have hcr := zjq hr
    obtain ⟨t0, ht0⟩ := zvc hjn (List.mem_of_getElem? hr)
    have hwk2 : IntKind.i64.wrap ((k : Int) + 1) = ((k + 1 : Nat) : Int) := zaa (by omega) (by omega)
    have hms : Kn.mono (.sat (SetV t0)) := SetV.mono
    refine Z370 ?_; refine Z206 ?_
    refine qd (id := 11) [(200057, [900]), (200062, [901])] mixed (by kernel_rfl) ?_; refine Z330 ?_; refine Z198 ?_; refine z8 (qu L _ rfl rfl rfl rfl rfl rfl rfl (by first | omega | decide) (by assumption)) rfl ?_; refine Z118 ?_; refine qn (zbb L 901 (WithT t0 0) (r := StG b S) rfl rfl rfl rfl rfl WithT.mono (fun u H2 C2 hH hle hr2 hC2 => ziq ht0 hne hH hr2 hC2)) rfl rfl ?_; refine Z397 ?_; refine Z129 ?_; refine z8 (zep L (X := SXp) (fun x => scs x.1) (zp2 t0) (zb5 _) zk4 (fun x => ⟨rfl, x.2⟩) rfl rfl rfl rfl rfl) rfl ?_; refine Z239 ?_; refine Z79 ?_; refine Z1 ?_; refine Z388 ?_; refine Z283 ?_; refine Z209 ?_
    exact yh (x := k) (k + 1) hlk (by omega) ⟨rfl, rfl, rfl, rfl, rfl, rfl, rfl, trivial⟩
   ·obtain ⟨t0, ht0⟩ := zu2 hjn
    have hms : Kn.mono (.sat (SetV t0)) := SetV.mono
    refine Z370 ?_; refine Z272 ?_
    refine qd (id := 14) [(200071, [900]), (200075, [900]), (200076, [901]), (200077, [901])] mixed (by kernel_rfl) ?_; refine Z330 ?_; refine Z330 ?_; refine qn (zav L 901 (c := .int .u64 S.R.length) rfl rfl (zk rfl) rfl rfl rfl rfl rfl zqo (fun u H hH hle hb => zqp hne hH hb)) rfl rfl ?_; refine qn (zbb L 901 (WithT t0 0) (r := StG b S) rfl rfl rfl rfl rfl WithT.mono (fun u H2 C2 hH hle hr2 hC2 => ziq ht0 hne hH hr2 hC2)) rfl rfl ?_; refine Z397 ?_; refine Z129 ?_; refine z8 (zep L (X := SXp) (fun x => scs x.1) (zp2 t0) (zb5 _) zk4 (fun x => ⟨rfl, x.2⟩) rfl rfl rfl rfl rfl) rfl ?_; refine Z239 ?_; refine Z371 ?_; refine Z388 ?_; refine Z312 ?_
    refine zpr 900 (BhG pb b S).res rfl (zie (hlv.le hs1.le) (hpv.le hs1.le)) ?_
    refine zvy 900 901 rfl rfl (zar (StG b S)) ?_
    exact ze9 (x := i) (i + 1) (hs0.trans hs1) ⟨hl, h25⟩ (by omega) ⟨rfl, rfl, rfl, by rw [hps]; rfl, trivial⟩
  ·refine Z234 ?_; refine Z260 ?_; refine Z7 ?_; refine Z311 ?_; refine Z248 ?_; refine Z308 ?_; refine Z180 ?_; refine Z212 ?_; refine Z1 ?_; refine z7 (qu L _ rfl rfl rfl rfl rfl rfl rfl (by first | omega | decide) (by assumption)) rfl ?_; refine z7 (yg L (vs := [_, _, _, _, _]) rfl rfl rfl rfl rfl ⟨_, rfl⟩) rfl ?_; refine qo (zah L 900 (BoG pb b S) (.int .i64 1) (r := BoG pb b (zhp newS zs i)) rfl rfl rfl rfl rfl (fun u H2 C2 hH hle hr2 hC2 => by have h := zyw hji (by omega) hoz.1 hH ⟨mv, cv, rfl, hoz.2.1.le hle, hoz.2.2.le hle⟩ hr2 hC2; rw [hS] at h; exact zdx h)) ?_; refine Z12 ?_; refine Z140 ?_; refine Z75 ?_; refine Z12 ?_; refine Z254 ?_; refine Z284 ?_
   rw [zmy pb b S]
   refine zew 900 901 rfl (zar (StG b S)) ?_
   rw [zmz pb b S]
   refine zd1 900 rfl fun x H hs0 hφ => ?_
   obtain ⟨lv, pv⟩ := x
   obtain ⟨hlv, hpv⟩ := hφ
   dsimp only at hlv hpv ⊢
   refine Z193 ?_; refine Z261 ?_; refine yq (zbb L 901 (PinsP S.P) (r := StG b S) rfl rfl rfl rfl rfl PinsP.mono (fun u H2 C2 hH hle hr2 hC2 => znc hne hH hr2 hC2)) ?_; refine zbq 45 rfl fun v1 H1 hs1 hp1 => ?_; obtain ⟨sv, rfl, hsv⟩ := hp1; obtain ⟨p1, c1, rfl⟩ := zao hsv; refine z7 (yr (φ := RsV (zak S.P) true) L rfl rfl (zk rfl) rfl rfl rfl SlV.mono (fun u H hH hle _ => zmq (by omega) hH (hsv.le hle))) rfl ?_; refine Z351 ?_; refine Z57 ?_; refine Z196 ?_
   have hhl := zbt S.P
   refine zaj (fun k : Nat => [(1, .sat (At [.slice p zs.length c] 24 0)), (3, .is (zho pb)), (4, .is (.int .i64 i)), (5, .sat (RsV (zak S.P) true)), (6, .is (.int .i64 k)), (900, .own (zal pb [zho b, lv, pv] zyi)), (901, .own (StG b S).res)]) (fun k => k ≤ (zak S.P).length) (fun k => (zak S.P).length - k) 0 (Nat.zero_le _) ⟨rfl, rfl, rfl, rfl, rfl, rfl, rfl, trivial⟩ ?_
   rintro k hk
   by_cases hlk : k < (zak S.P).length
   ·obtain ⟨r, hr⟩ := zae hlk
    have hcr := zjq hr
    obtain ⟨t0, ht0⟩ := zvc hjn (List.mem_of_getElem? hr)
    have hwk2 : IntKind.i64.wrap ((k : Int) + 1) = ((k + 1 : Nat) : Int) := zaa (by omega) (by omega)
    have hms : Kn.mono (.sat (SetV t0)) := SetV.mono
    refine Z370 ?_; refine Z206 ?_
    refine qd (id := 11) [(200057, [900]), (200062, [901])] mixed (by kernel_rfl) ?_; refine Z330 ?_; refine Z198 ?_; refine z8 (qu L _ rfl rfl rfl rfl rfl rfl rfl (by first | omega | decide) (by assumption)) rfl ?_; refine Z118 ?_; refine qn (zbb L 901 (WithT t0 0) (r := StG b S) rfl rfl rfl rfl rfl WithT.mono (fun u H2 C2 hH hle hr2 hC2 => ziq ht0 hne hH hr2 hC2)) rfl rfl ?_; refine Z397 ?_; refine Z129 ?_; refine z8 (zep L (X := SXp) (fun x => scs x.1) (zp2 t0) (zb5 _) zk4 (fun x => ⟨rfl, x.2⟩) rfl rfl rfl rfl rfl) rfl ?_; refine Z239 ?_; refine Z79 ?_; refine Z1 ?_; refine Z388 ?_; refine Z283 ?_; refine Z209 ?_
    exact yh (x := k) (k + 1) hlk (by omega) ⟨rfl, rfl, rfl, rfl, rfl, rfl, rfl, trivial⟩
   ·obtain ⟨t0, ht0⟩ := zu2 hjn
    have hms : Kn.mono (.sat (SetV t0)) := SetV.mono
    refine Z370 ?_; refine Z272 ?_
    refine qd (id := 14) [(200071, [900]), (200075, [900]), (200076, [901]), (200077, [901])] mixed (by kernel_rfl) ?_; refine Z330 ?_; refine Z330 ?_; refine qn (zav L 901 (c := .int .u64 S.R.length) rfl rfl (zk rfl) rfl rfl rfl rfl rfl zqo (fun u H hH hle hb => zqp hne hH hb)) rfl rfl ?_; refine qn (zbb L 901 (WithT t0 0) (r := StG b S) rfl rfl rfl rfl rfl WithT.mono (fun u H2 C2 hH hle hr2 hC2 => ziq ht0 hne hH hr2 hC2)) rfl rfl ?_; refine Z397 ?_; refine Z129 ?_; refine z8 (zep L (X := SXp) (fun x => scs x.1) (zp2 t0) (zb5 _) zk4 (fun x => ⟨rfl, x.2⟩) rfl rfl rfl rfl rfl) rfl ?_; refine Z239 ?_; refine Z371 ?_; refine Z388 ?_; refine Z312 ?_
    refine zpr 900 (BhG pb b S).res rfl (zie (hlv.le hs1.le) (hpv.le hs1.le)) ?_
    refine zvy 900 901 rfl rfl (zar (StG b S)) ?_
    exact ze9 (x := i) (i + 1) (hs0.trans hs1) ⟨hl, h25⟩ (by omega) ⟨rfl, rfl, rfl, by rw [hps]; rfl, trivial⟩
 ·by_cases hl2 : i < zs.length
  ·obtain rfl : i = 25 := by omega
   refine Z234 ?_; refine Z260 ?_; refine Z7 ?_; refine Z266 ?_; refine Z8 ?_; refine Z386 ?_; refine Z108 ?_; refine Z1 ?_; refine yq (zfn L 900 (.int .i64 1) (r := BoG pb b (zhp newS zs 25)) rfl rfl rfl rfl rfl (fun u H2 C2 hH hle hr2 hC2 => zkl hji (by omega) hH hr2 hC2)) ?_; refine Z23 ?_; refine Z1 ?_; refine z7 (zp L rfl rfl (zk rfl) rfl rfl rfl (fun u H hH _ _ => zj6 hH)) rfl ?_; refine Z8 ?_; refine Z138 ?_
   refine yd L (rs := [.tmp 2]) rfl (fun _ _ h => h) Since.refl fun u H hH hle => ?_
   rfl
  ·obtain rfl : i = zs.length := by omega
   refine Z234 ?_; refine Z260 ?_; refine Z10 ?_; refine Z183 ?_; refine Z8 ?_; refine Z386 ?_; refine Z108 ?_; refine Z1 ?_; refine yq (zfn L 900 (.int .i64 1) (r := BoG pb b (zhp newS zs zs.length)) rfl rfl rfl rfl rfl (fun u H2 C2 hH hle hr2 hC2 => zkl hji (by omega) hH hr2 hC2)) ?_; refine Z23 ?_; refine Z1 ?_; refine z7 (zp L rfl rfl (zk rfl) rfl rfl rfl (fun u H hH _ _ => zj6 hH)) rfl ?_; refine Z8 ?_; refine Z138 ?_
   refine yd L (rs := [.tmp 2]) rfl (fun _ _ h => h) Since.refl fun u H hH hle => ?_
   rfl
end Go.V.L10
set_option maxRecDepth 20000
namespace Go.V.L10
open Go.Proofs Go.ChangeShapes Go.RowKit Go.V
theorem storesPlay_in {W : World} {cs : List Value} (l0 : zgu (WwP (hp W)) cs) : Ret Tryz.prog 5 [.agg cs.toArray] W (hp W) (fun v _ => v = .bool true) := by
 obtain ⟨xv, zs, rfl, hx, ho⟩ := z3j l0
 exact zkr (Heap.Le.refl _) hx ho
end Go.V.L10
set_option maxRecDepth 20000
namespace Go.Proofs.YtcppaheijljnfaaGreat.storesPlay
open Go.ChangeShapes Go.WideShapes Go.ChangeAt Go.ChangeMaps Go.RowKit Go.V Go.V.L10
theorem own : ownKnob Tryz.prog.godebug = none := by kernel_rfl
theorem laidOut : laidOutB Tryz.prog = true := by kernel_rfl
theorem la0 : (match Tryz.prog.underlying 24 with | some (.struct _) | some (.array _ _) => true | _ => false) = true := by kernel_rfl
theorem lr1 : Tryz.prog.readableRec 24 = true := by kernel_rfl
theorem lt1 : 24 < Tryz.prog.types.size := of_decide_eq_true (by kernel_rfl)
set_option maxRecDepth 100000 in
theorem lifted (os : Os) (started : os.Started) (H : Type) (enc : TypeId × Value → H) :
    ReturnsInHanded {} Tryz.checked os 5 .any (Rows.storesPlaySpec.pre6 enc Tryz.prog Tryz.f5 Rows.storesPlayRow.domain false) (Rows.storesPlaySpec.post enc Tryz.prog Tryz.f5 false true false false) := by
  refine returnsInHanded_of_change_shaped (C := Tryz.checked) own started (by kernel_rfl) Tryz.func5
    (ChangeSpec.witness6 (enc := enc) (C := Tryz.checked) false ⟨#[], #[.agg #[.slice none 0 0]], []⟩ 8 (by kernel_rfl) (by kernel_rfl) (by kernel_rfl) (by kernel_rfl)) ?_
  intro W base args ds gs before hval0 hW hcnd hsz hsh _
  have hval : ∀ (j : Nat) t v, Tryz.f5.params[j]? = some t → args[j]? = some v → Value.okWide Tryz.prog W .any base t v := hval0
  have hW' := hW
  obtain ⟨p0, q, hA0, hV, rfl, hfz, hnd⟩ := hW
  have hA : DataW.TrodAll enc Tryz.prog W 0 (fun _ => true) true Tryz.f5.params.toList args.toList ds p0 := hA0
  rw [Tryz.params5] at hA hval hsz
  obtain ⟨v0, d0, rfl, rfl, h0⟩ := trodAll_one hA
  obtain ⟨rfl, rfl⟩ := trodVars_none hV
  clear hA0 hval0
  obtain ⟨c0, rfl, l0⟩ := open_agD reads_ww la0 (hval 0 24 v0 rfl rfl) h0 (wt_at hsz 0 rfl rfl)
  have hplc := hW'.lt
  simp only [List.append_nil] at hW'
  have hlaw := Go.V.L10.storesPlay_in l0
  unfold Ret at hlaw
  refine hlaw.mono fun e W' hp => ?_
  obtain ⟨v, rfl, H', g, rfl⟩ := hp
  refine ⟨_, rfl, _, _, _, [], p0 ++ ([]), [], hW', trodAll_cons_mk (shut_bool Tryz.underlying4 _) trodAll_mk0, ?_, rfl, g.below.frame _, fun h => by cases h⟩
  exact trodAll_cons_mk (Below.trod laidOut lr1 lt1 h0 g.below (fun x hx => hplc x (by simp [hx]))) trodAll_mk0
theorem proved : Rows.StoresPlaySaid :=
  OpenClaim.holds_of_wide 5 Tryz.f5 rfl rfl rfl rfl rfl rfl rfl ⟨rfl, rfl, rfl, rfl, rfl⟩ rfl rfl rfl rfl rfl (by kernel_rfl) Tryz.func5 (by kernel_rfl)
    (of_decide_eq_true (by kernel_rfl)) (by unfold Func.isWrapper; first | (rw [if_pos (by decide +kernel)]; kernel_rfl) | (rw [if_neg (by decide +kernel)]; exact ⟨rfl, rfl⟩))
    (fun os started H enc _ => lifted os started H enc)
#print axioms proved
end Go.Proofs.YtcppaheijljnfaaGreat.storesPlay
