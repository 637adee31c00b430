/- StoresDelta returns true for every input, and leaves it as it was: no condition. -/
import Derived.Test.YtcppaheijljnfaaGreatStoresDeltaM6
import Derived.ProofKit
import Derived.HandedShaped
import Derived.OpenShut
import Derived.Carry
import Derived.Deep.Slices
import Derived.SizedLaws
import Derived.Test.YtcppaheijljnfaaGreatRows
set_option linter.unusedVariables false
set_option linter.unusedSimpArgs false
set_option maxRecDepth 20000
namespace Go.V.L10
open Go.Proofs Go.RowKit Go.V Go.V.L2 Go.V.L8 Go.V.L6
abbrev z5w : Nat := 23
abbrev Cl10S (S : Sto) (g : List Int) (e : Int) : Value → Heap → Prop := TupS [RsS S, RsV g false, fun v _ => v = .int .i64 e]
theorem Cl10S.mono {S : Sto} {g : List Int} {e : Int} : Kn.mono (.sat (Cl10S S g e)) := TupS.mono fun ψ hψ => by
 simp only [List.mem_cons, List.mem_nil_iff, or_false] at hψ
 rcases hψ with rfl | rfl | rfl
 ·exact RsS.mono
 ·exact SlV.mono
 ·exact fun _ _ _ h _ => h
theorem Cl10P.tup {S : Sto} {g : List Int} {e : Int} {v : Value} {H : Heap} (h : Cl10P S g e v H) : Cl10S S g e v H := by
 obtain ⟨a, b, rfl, h1, h2⟩ := h
 refine ⟨[a, b, .int .i64 e], rfl, rfl, fun i ψ x hi hx => ?_⟩
 rcases i with _ | _ | _ | i
 ·cases hi; cases hx; exact h1
 ·cases hi; cases hx; exact h2
 ·cases hi; cases hx; rfl
 ·cases hi
attribute [local irreducible] V N X VO Par StepOK Has Ret RetL RetO RetT zb3 zdz RetY Src
set_option maxHeartbeats 4000000 in
set_option maxRecDepth 20000 in
theorem z24 {S : Sto} {n pb b : Nat} {o : OO} (hj : JJ n S) (hn : n ≤ 100) (ho : OOK o) {ov : Value} {w : World} {B : Heap} {C : Nat → Prop} (hB : B.Le (hp w)) (hov : OvV o ov B) (hr : (BoG pb b S).P B w C) (hC : ∀ k, C k → k < w.heap.size ∧ B k = none) :
  RetY Tryz.prog z5w [zm0 pb, ov] w B C (BoG pb b (doS S o)) (fun v _ => v = .int .i64 1) := by
 obtain ⟨mv, cv, rfl, hmv, hcv⟩ := hov
 obtain ⟨p1, c1, rfl⟩ := zav hmv
 obtain ⟨p2, c2, rfl⟩ := zav hcv
 have hI := hj.I hn
 have hne := hj.ne
 have hR := hj.hR
 have hP := hj.hP
 have hem : Int.tmod ((o.wh : Nat) : Int) 8 = ((o.wh % 8 : Nat) : Int) := rfl
 have hrev := ho.rev
 unfold RetY
 refine zap 900 (BoG pb b S) Tryz.func23 rfl Tryz.ntmps23 (Nat.le_of_ble_eq_true rfl) hB hr hC ?_
 rw [zv1]
 refine zge 900 901 rfl (zaz _) ?_
 rw [zv2]
 refine ze0 900 rfl fun x H hs0 hφ => ?_
 obtain ⟨lv, pv⟩ := x
 obtain ⟨hl, hpv⟩ := hφ
 dsimp only at hl hpv ⊢
 replace hmv := hmv.le hs0.le
 replace hcv := hcv.le hs0.le
 have hss : RsS S (.agg #[lv, pv]) H := ⟨lv, pv, rfl, hl, hpv⟩
 have hk8 : o.wh % 8 < 8 := Nat.mod_lt _ (by omega)
 unfold doS
 generalize o.wh % 8 = k at hem hk8 ⊢
 refine Z299 ?_; refine Z142 ?_; refine Z29 ?_; refine Z145 ?_; refine Z326 ?_; refine Z84 ?_; refine Z274 ?_; refine Z137 ?_
 refine zfa (fun _ : Unit => [(0, .is (zm0 pb)), (3, .sat (At [.int .u8 o.wh, .slice p1 o.ms.length c1, .slice p2 o.cs.length c2, .int .u8 o.rv, .int .i64 o.kp] z08 0)), (4, .is (.int .i64 0)), (5, .is (.int .i64 0)), (6, .is (.int .i64 0)), (13, .is (.int .u8 k)), (49, .is (.bool (decide (k < 4)))), (900, .own (zaj pb [zm0 b, lv, pv] z1l)), (901, .own (StG b S).res)]) (fun _ => True) (fun _ => []) ?two ?one
 case one =>
  by_cases h0 : k = 0
  ·subst h0
   refine Z60 ?_; refine Z334 ?_; refine zz ?_
   exact za5 () Since.refl trivial rfl ⟨rfl, rfl, rfl, rfl, rfl, rfl, rfl, rfl, rfl, trivial⟩
  ·by_cases h1 : k = 1
   ·subst h1
    refine Z60 ?_; refine Z244 ?_; refine Z67 ?_; refine Z334 ?_; refine zz ?_
    exact za5 () Since.refl trivial rfl ⟨rfl, rfl, rfl, rfl, rfl, rfl, rfl, rfl, rfl, trivial⟩
   ·by_cases h2 : k = 2
    ·subst h2
     refine Z60 ?_; refine Z244 ?_; refine Z67 ?_; refine Z381 ?_; refine Z334 ?_; refine zz ?_
     exact za5 () Since.refl trivial rfl ⟨rfl, rfl, rfl, rfl, rfl, rfl, rfl, rfl, rfl, trivial⟩
    ·by_cases h3 : k = 3
     ·subst h3
      refine Z60 ?_; refine Z244 ?_; refine Z67 ?_; refine Z381 ?_; refine Z359 ?_; refine Z80 ?_; refine Z23 ?_; refine Z150 ?_
      exact za5 () Since.refl trivial rfl ⟨rfl, rfl, rfl, rfl, rfl, rfl, rfl, rfl, rfl, trivial⟩
     ·refine Z60 ?_; refine Z244 ?_; refine Z67 ?_; refine Z381 ?_; refine Z359 ?_; refine Z80 ?_; refine Z13 ?_; refine Z150 ?_
      rw [decide_eq_false (show ¬ k < 4 by omega)]
      exact za5 () Since.refl trivial rfl ⟨rfl, rfl, rfl, rfl, rfl, rfl, rfl, rfl, rfl, trivial⟩
 rintro _ _
 by_cases h4 : k < 4
 ·rw [decide_eq_true h4]
  obtain ⟨⟨S', rev, e⟩, hw⟩ : ∃ x, zeo S (dOf o.ms) (dOf o.cs) = x := ⟨_, rfl⟩
  rw [if_pos h4, hw]
  dsimp only
  have hm1 := RsS.mono (S := S')
  refine Z12 ?_; refine Z388 ?_; refine Z198 ?_
  refine qg (id := 14) [(200058, [900]), (65, [901])] mixed (by kernel_rfl) ?_; refine Z188 ?_; refine Z91 ?_; refine Z47 ?_; refine z8 (qb L (vs := [_]) (qn rfl) rfl rfl rfl rfl ⟨_, rfl⟩) rfl ?_; refine z8 (yt (φ := KS tyM (dOf o.ms) false) L rfl rfl (zk rfl) rfl rfl rfl SlV.mono (fun u H hH hle _ => zuz rfl ho.ms ho.lm hH (hmv.le hle))) rfl ?_; refine Z47 ?_; refine z8 (qb L (vs := [_]) (qn rfl) rfl rfl rfl rfl ⟨_, rfl⟩) rfl ?_; refine z8 (yt (φ := KS tyC (dOf o.cs) false) L rfl rfl (zk rfl) rfl rfl rfl SlV.mono (fun u H hH hle _ => zpp rfl ho.cs ho.lc hH (hcv.le hle))) rfl ?_; refine zar (zah L 901 (StG b S') (.tuple #[.int .u64 rev, .int .i64 e]) (r := StG b S) rfl rfl rfl rfl rfl (fun u H2 C2 hH hle hr2 hC2 v1 h1 v2 h2 => zd8 (zeq hI (by omega) hne (zq4 _) (zq4 _) (Nat.le_trans (zh8 _) (by omega)) (Nat.le_trans (zh8 _) (by omega)) hw hH h1 h2 hr2 hC2))) rfl rfl ?_; refine Z3 ?_; refine z8 (qm rfl rfl rfl rfl) rfl ?_; refine z8 (qm rfl rfl rfl rfl) rfl ?_; refine Z306 ?_
  refine qg (id := 15) [(200073, [900]), (100085, [900])] mixed (by kernel_rfl) ?_; refine Z143 ?_; refine Z168 ?_; refine qv (zam L (q := 900) (vs := [_, _]) rfl rfl rfl rfl rfl rfl ⟨_, rfl⟩) rfl rfl ?_; refine Z47 ?_; refine z8 (qb L (vs := [_]) (qn rfl) rfl rfl rfl rfl ⟨_, rfl⟩) rfl ?_; refine z8 (yt (φ := KS tyM (dOf o.ms) false) L rfl rfl (zk rfl) rfl rfl rfl SlV.mono (fun u H hH hle _ => zuz rfl ho.ms ho.lm hH (hmv.le hle))) rfl ?_; refine Z47 ?_; refine z8 (qb L (vs := [_]) (qn rfl) rfl rfl rfl rfl ⟨_, rfl⟩) rfl ?_; refine z8 (yt (φ := KS tyC (dOf o.cs) false) L rfl rfl (zk rfl) rfl rfl rfl SlV.mono (fun u H hH hle _ => zpp rfl ho.cs ho.lc hH (hcv.le hle))) rfl ?_; refine z8 (yt (φ := Wr10P S' rev e) L rfl rfl (zk rfl) rfl rfl rfl Wr10P.mono (fun u H hH hle _ v1 h1 v2 h2 => znf hI (by omega) hne hj.ss (zq4 _) (zq4 _) (Nat.le_trans (zh8 _) (by omega)) (Nat.le_trans (zh8 _) (by omega)) hw hH (hss.le hle) h1 h2)) rfl ?_; refine Z31 ?_; refine Z110 ?_; refine Z118 ?_; refine Z118 ?_; refine Z168 ?_; refine x5 (zf2 L (q := 900) RsS.mono rfl rfl rfl rfl rfl (fun _ _ h => zg5 h) (Nat.le_of_ble_eq_true rfl)) rfl ?_; refine Z306 ?_
  refine ze0 900 rfl fun cs' H1 hs1 hφ => ?_
  obtain ⟨lv', pv', rfl, hl', hpv'⟩ := zi6 hφ
  refine Z102 ?_; refine Z138 ?_; refine Z22 ?_; refine Z215 ?_; refine Z137 ?_; refine Z337 ?_; refine Z228 ?_; refine zf (id := 27) ?_; refine Z136 ?_
  refine zc7 900 (BhG pb b S').res rfl (zor hl' hpv') ?_
  refine zb6 900 901 rfl rfl (zaz (StG b S')) ?_
  exact zb0 L 900 (r := BoG pb b S') (rs := [.tmp 4]) rfl (fun _ _ h => h) (hs0.trans hs1) rfl rfl (fun H hle => rfl)
 ·rw [decide_eq_false h4, if_neg h4]
  refine Z9 ?_
  refine zh ?_
  refine zh ?_
  refine zfa (fun _ : Unit => [(0, .is (zm0 pb)), (3, .sat (At [.int .u8 o.wh, .slice p1 o.ms.length c1, .slice p2 o.cs.length c2, .int .u8 o.rv, .int .i64 o.kp] z08 0)), (4, .is (.int .i64 0)), (5, .is (.int .i64 0)), (6, .is (.int .i64 0)), (13, .is (.int .u8 k)), (89, .is (.bool (decide (k < 6)))), (900, .own (zaj pb [zm0 b, lv, pv] z1l)), (901, .own (StG b S).res)]) (fun _ => True) (fun _ => []) ?two2 ?one2
  case one2 =>
   by_cases h5 : k = 4
   ·subst h5
    refine Z103 ?_; refine Z334 ?_; refine zz ?_
    exact za5 () Since.refl trivial rfl ⟨rfl, rfl, rfl, rfl, rfl, rfl, rfl, rfl, rfl, trivial⟩
   ·by_cases h6 : k = 5
    ·subst h6
     refine Z103 ?_; refine Z359 ?_; refine Z119 ?_; refine Z23 ?_; refine Z150 ?_
     exact za5 () Since.refl trivial rfl ⟨rfl, rfl, rfl, rfl, rfl, rfl, rfl, rfl, rfl, trivial⟩
    ·refine Z103 ?_; refine Z359 ?_; refine Z119 ?_; refine Z13 ?_; refine Z150 ?_
     rw [decide_eq_false (show ¬ k < 6 by omega)]
     exact za5 () Since.refl trivial rfl ⟨rfl, rfl, rfl, rfl, rfl, rfl, rfl, rfl, rfl, trivial⟩
  rintro _ _
  by_cases h6 : k < 6
  ·rw [decide_eq_true h6, if_pos h6]
   obtain ⟨⟨S', e⟩, hw⟩ : ∃ x, zns S o.rev false = x := ⟨_, rfl⟩
   rw [hw]
   dsimp only
   have hm1 := RsS.mono (S := S')
   refine Z12 ?_; refine zh ?_; refine qg (id := 20) [(200095, [900]), (98, [901])] mixed (by kernel_rfl) ?_; refine Z188 ?_; refine Z91 ?_; refine z8 (qb L (vs := [_, _, _, _, _]) (qn rfl) rfl rfl rfl rfl ⟨_, rfl⟩) rfl ?_; refine z8 (zw L rfl rfl (zk rfl) rfl rfl rfl (fun u H hH _ _ => rev_ret ho rfl rfl hH)) rfl ?_; refine zar (zah L 901 (StG b S') (.int .i64 e) (r := StG b S) rfl rfl rfl rfl rfl (fun u H2 C2 hH hle hr2 hC2 => zd8 (zlx hne (by omega) hw hH hr2 hC2))) rfl rfl ?_; refine Z175 ?_
   refine qg (id := 21) [(200104, [900]), (100111, [900])] mixed (by kernel_rfl) ?_; refine Z143 ?_; refine Z168 ?_; refine qv (zam L (q := 900) (vs := [_, _]) rfl rfl rfl rfl rfl rfl ⟨_, rfl⟩) rfl rfl ?_; refine z8 (qb L (vs := [_, _, _, _, _]) (qn rfl) rfl rfl rfl rfl ⟨_, rfl⟩) rfl ?_; refine z8 (zw L rfl rfl (zk rfl) rfl rfl rfl (fun u H hH _ _ => rev_ret ho rfl rfl hH)) rfl ?_; refine z8 (yt (φ := Pn10P S' e) L rfl rfl (zk rfl) rfl rfl rfl Pn10P.mono (fun u H hH hle _ => zk4 (by omega) hrev.1 hrev.2 (by omega) hj.pos hw hH (hss.le hle))) rfl ?_; refine Z31 ?_; refine Z110 ?_; refine Z118 ?_; refine Z168 ?_; refine x5 (zf2 L (q := 900) RsS.mono rfl rfl rfl rfl rfl (fun _ _ h => zg5 h) (Nat.le_of_ble_eq_true rfl)) rfl ?_; refine Z36 ?_; refine Z264 ?_; refine Z137 ?_
   refine ze0 900 rfl fun cs' H1 hs1 hφ => ?_
   obtain ⟨lv', pv', rfl, hl', hpv'⟩ := zi6 hφ
   refine Z337 ?_; refine Z228 ?_; refine zf (id := 27) ?_; refine Z136 ?_
   refine zc7 900 (BhG pb b S').res rfl (zor hl' hpv') ?_
   refine zb6 900 901 rfl rfl (zaz (StG b S')) ?_
   exact zb0 L 900 (r := BoG pb b S') (rs := [.tmp 4]) rfl (fun _ _ h => h) (hs0.trans hs1) rfl rfl (fun H hle => rfl)
  ·rw [decide_eq_false h6, if_neg h6]
   by_cases h7 : k = 6
   ·rw [if_pos h7]
    refine Z9 ?_; refine zh ?_; refine zf (id := 22) ?_; refine Z334 ?_; refine zh ?_
    obtain ⟨⟨S', e⟩, hw⟩ : ∃ x, zns S o.rev true = x := ⟨_, rfl⟩
    rw [hw]
    dsimp only
    have hm1 := RsS.mono (S := S')
    refine qg (id := 23) [(200117, [900]), (120, [901])] mixed (by kernel_rfl) ?_; refine Z188 ?_; refine Z91 ?_; refine z8 (qb L (vs := [_, _, _, _, _]) (qn rfl) rfl rfl rfl rfl ⟨_, rfl⟩) rfl ?_; refine z8 (zw L rfl rfl (zk rfl) rfl rfl rfl (fun u H hH _ _ => rev_ret ho rfl rfl hH)) rfl ?_; refine zar (zah L 901 (StG b S') (.int .i64 e) (r := StG b S) rfl rfl rfl rfl rfl (fun u H2 C2 hH hle hr2 hC2 => zd8 (zhu hne (by omega) hw hH hr2 hC2))) rfl rfl ?_; refine Z175 ?_
    refine qg (id := 24) [(200126, [900]), (100133, [900])] mixed (by kernel_rfl) ?_; refine Z143 ?_; refine Z168 ?_; refine qv (zam L (q := 900) (vs := [_, _]) rfl rfl rfl rfl rfl rfl ⟨_, rfl⟩) rfl rfl ?_; refine z8 (qb L (vs := [_, _, _, _, _]) (qn rfl) rfl rfl rfl rfl ⟨_, rfl⟩) rfl ?_; refine z8 (zw L rfl rfl (zk rfl) rfl rfl rfl (fun u H hH _ _ => rev_ret ho rfl rfl hH)) rfl ?_; refine z8 (yt (φ := Pn10P S' e) L rfl rfl (zk rfl) rfl rfl rfl Pn10P.mono (fun u H hH hle _ => zk4 (by omega) hrev.1 hrev.2 (by omega) hj.pos hw hH (hss.le hle))) rfl ?_; refine Z31 ?_; refine Z110 ?_; refine Z118 ?_; refine Z168 ?_; refine x5 (zf2 L (q := 900) RsS.mono rfl rfl rfl rfl rfl (fun _ _ h => zg5 h) (Nat.le_of_ble_eq_true rfl)) rfl ?_; refine Z36 ?_; refine Z264 ?_; refine Z137 ?_
    refine ze0 900 rfl fun cs' H1 hs1 hφ => ?_
    obtain ⟨lv', pv', rfl, hl', hpv'⟩ := zi6 hφ
    refine Z337 ?_; refine Z228 ?_; refine zf (id := 27) ?_; refine Z136 ?_
    refine zc7 900 (BhG pb b S').res rfl (zor hl' hpv') ?_
    refine zb6 900 901 rfl rfl (zaz (StG b S')) ?_
    exact zb0 L 900 (r := BoG pb b S') (rs := [.tmp 4]) rfl (fun _ _ h => h) (hs0.trans hs1) rfl rfl (fun H hle => rfl)
   ·rw [if_neg h7]
    refine Z9 ?_; refine zh ?_; refine zf (id := 22) ?_; refine Z244 ?_
    obtain ⟨⟨S', g, e⟩, hw⟩ : ∃ x, zdf S o.kp = x := ⟨_, rfl⟩
    rw [hw]
    dsimp only
    have hm1 := RsS.mono (S := S')
    have hm2 : Kn.mono (.sat (RsV g true)) := SlV.mono
    have hm3 : Kn.mono (.sat (RsV g false)) := SlV.mono
    have hgl : g.length ≤ 100000 := by
     have h1 := congrArg (fun x => x.2.1.length) hw
     dsimp only at h1
     rw [← h1]
     unfold zdf
     split
     ·refine Nat.le_trans (List.length_filter_le ..) ?_
      rw [List.length_take]
      have := zfr S.R
      omega
     ·exact Nat.zero_le _
    refine Z27 ?_; refine Z198 ?_
    refine qg (id := 5) [(200018, [900]), (21, [901])] mixed (by kernel_rfl) ?_; refine Z188 ?_; refine Z91 ?_; refine Z222 ?_; refine zar (zg8 L 901 (StG b S') (zv9 g e) (r := StG b S) rfl rfl rfl rfl rfl (zdq SlV.mono) (fun u H2 C2 hH hle hr2 hC2 => by have h := zef (keep := o.kp) hne (by omega) (by omega) hH hr2 hC2; rw [hw] at h; exact h)) rfl rfl ?_; refine Z31 ?_; refine Z110 ?_; refine Z118 ?_; refine Z90 ?_; refine Z238 ?_
    refine qg (id := 6) [(200029, [900]), (100037, [900])] mixed (by kernel_rfl) ?_; refine Z143 ?_; refine Z168 ?_; refine qv (zam L (q := 900) (vs := [_, _]) rfl rfl rfl rfl rfl rfl ⟨_, rfl⟩) rfl rfl ?_; refine Z222 ?_; refine z8 (yt (φ := Cl10S S' g e) L rfl rfl (zk rfl) rfl rfl rfl Cl10S.mono (fun u H hH hle _ => Ret.mono (by have h := zks (keep := o.kp) hne (by omega) (by omega) hH (hss.le hle); rw [hw] at h; exact h) fun v H' _ h => Cl10P.tup h)) rfl ?_; refine Z31 ?_; refine Z110 ?_; refine Z110 ?_; refine Z118 ?_; refine Z168 ?_; refine x5 (zf2 L (q := 900) RsS.mono rfl rfl rfl rfl rfl (fun _ _ h => zg5 h) (Nat.le_of_ble_eq_true rfl)) rfl ?_; refine Z90 ?_; refine Z238 ?_
    refine ze0 900 rfl fun cs' H1 hs1 hφ => ?_
    obtain ⟨lv', pv', rfl, hl', hpv'⟩ := zi6 hφ
    refine Z40 ?_; refine Z330 ?_; refine z7 (zw L rfl rfl (zk rfl) rfl rfl rfl (fun u H hH hle _ v1 h1 v2 h2 => zg6 (f := true) (decide_eq_true rfl) hgl hgl hH h1 h2)) rfl ?_; refine Z117 ?_; refine Z1 ?_; refine Z4 ?_; refine z7 (zz8 L rfl rfl rfl rfl) rfl ?_; refine Z148 ?_; refine Z22 ?_; refine Z7 ?_; refine Z215 ?_; refine Z137 ?_; refine Z337 ?_; refine Z228 ?_; refine zf (id := 27) ?_; refine Z136 ?_
    refine zc7 900 (BhG pb b S').res rfl (zor hl' hpv') ?_
    refine zb6 900 901 rfl rfl (zaz (StG b S')) ?_
    exact zb0 L 900 (r := BoG pb b S') (rs := [.tmp 4]) rfl (fun _ _ h => h) (hs0.trans hs1) rfl rfl (fun H hle => rfl)
end Go.V.L10
set_option maxRecDepth 20000
namespace Go.V.L10
open Go.Proofs Go.RowKit Go.V Go.V.L2 Go.V.L8 Go.V.L6
theorem z1t {R : List (Option (List U))} {lv : Value} {H : Heap} (h : RlV R lv H) : ∃ p c, lv = .slice p R.length c := by
 obtain ⟨zs, h1, _, h3⟩ := h
 obtain ⟨p, c, h4⟩ := zav h3
 rw [← h1, List.length_map]
 exact ⟨p, c, h4⟩
abbrev z5x (S : Sto) : Res := zpx (fun p : Nat × Nat => zm0 p.1) fun p => BoG p.1 p.2 S
attribute [local irreducible] V N X VO Par StepOK Has Ret RetL RetO RetT zb3 zdz RetY Src
theorem zw9 {w : World} {B : Heap} (hB : B.Le (hp w)) : RetO Tryz.prog 10 [] w B (z5x newS) := by
 refine zek Tryz.func10 rfl Tryz.ntmps10 (Nat.le_of_ble_eq_true rfl) hB ?_
 refine Z184 ?_; refine z7 (zei L rfl rfl (zk rfl) rfl rfl rfl (fun u H hH hle _ => zp9 hH)) rfl ?_; refine zs6 1 901 rfl fun b => ?_; refine z7 (yt (φ := RsS newS) L rfl rfl (zk rfl) rfl rfl rfl RsS.mono (fun u H hH hle _ => zrx hH)) rfl ?_; refine zbk 2 rfl fun v1 H1 hs1 hv1 => ?_; obtain ⟨lv, pv, rfl, h1, h2⟩ := hv1; obtain ⟨p1, c1, rfl⟩ := z1t h1; obtain ⟨p2, c2, rfl⟩ := zav h2; refine z7 (yu (cs := [_, _, _]) rfl rfl z5p rfl rfl) rfl ?_; refine Z96 ?_; refine qo (yn (.inr rfl) rfl rfl rfl rfl) ?_; refine Z135 ?_
 refine zri 0 900 rfl fun pb => ?_
 refine zc7 900 (BhG pb b newS).res rfl (zor h1 h2) ?_
 refine zb6 900 901 rfl rfl (zaz (StG b newS)) ?_
 refine zrh 0 900 (fun p : Nat × Nat => zm0 p.1) (fun p => BoG p.1 p.2 newS) (pb, b) rfl rfl ?_
 exact zik rfl (fun _ _ h => h) hs1 rfl
end Go.V.L10
set_option maxRecDepth 20000
namespace Go.V.L10
open Go.Proofs Go.RowKit Go.V Go.V.L2 Go.V.L8 Go.V.L6
theorem zjp {S : Sto} {b : Nat} {r : Int} (hn : S.R.length ≠ 0) {w : World} {B : Heap} {C : Nat → Prop} (hB : B.Le (hp w)) (hr : (StG b S).P B w C) (hC : ∀ k, C k → k < w.heap.size ∧ B k = none) :
  RetY Tryz.prog 13 [zm0 b, .int .u64 r] w B C (StG b S) (WithP (atS S r).1 (atS S r).2) :=
 RetY.ex hr fun _ ⟨hm, hes, _⟩ hr => zgz hm hn hes hB hr hC
theorem zto {S : Sto} {b : Nat} (hn : S.R.length ≠ 0) (hz : (zbj S.R).length ≤ 100000) {w : World} {B : Heap} {C : Nat → Prop} (hB : B.Le (hp w)) (hr : (StG b S).P B w C) (hC : ∀ k, C k → k < w.heap.size ∧ B k = none) :
  RetY Tryz.prog 12 [zm0 b] w B C (StG b S) (RsV (zbj S.R) true) :=
 RetY.ex hr fun _ ⟨hm, _, _⟩ hr => (zqw hm hn (by rw [hm.len]; exact hz) hB hr hC).pubY zmi
attribute [local irreducible] V N X VO Par StepOK Has Ret RetL RetO RetT zb3 zdz RetY Src
abbrev s1 : Sto := ⟨[some [], some [d0]], []⟩
abbrev s2 : Sto := ⟨[some [], some [d0], some [d2]], []⟩
abbrev s3 : Sto := ⟨[some [], some [d0], some [d2]], [2]⟩
abbrev s4 : Sto := ⟨[none, some [d0], some [d2]], [2]⟩
abbrev s5 : Sto := ⟨[none, some [d0], some [d2], some [d2]], [2]⟩
abbrev s6 : Sto := ⟨[none, some [d0], some [d2], some [d2]], []⟩
abbrev s7 : Sto := ⟨[none, none, none, some [d2]], []⟩
theorem z2p : zeo newS [] [(d0, false)] = (s1, 2, 0) := by kernel_rfl
theorem z2o : zeo s1 [(d0, false)] [(d2, false), (d0, true)] = (s2, 3, 0) := by kernel_rfl
theorem z4g : zeo s2 [(d0, false)] [] = (s2, 0, 13) := by kernel_rfl
theorem z4k : atS s2 2 = ([d0], 0) := by kernel_rfl
theorem z4m : atS s2 0 = ([d2], 0) := by kernel_rfl
theorem z4j : atS s2 4 = ([], 14) := by kernel_rfl
theorem z5c : zns s2 2 false = (s3, 0) := by kernel_rfl
theorem z2s : zdf s3 1 = (s4, [1], 0) := by kernel_rfl
theorem z5t : zbj s4.R = [2, 3] := by kernel_rfl
theorem z4l : atS s4 1 = ([], 14) := by kernel_rfl
theorem z2n : zeo s4 [] [] = (s5, 4, 0) := by kernel_rfl
theorem z2q : zns s5 2 true = (s6, 0) := by kernel_rfl
theorem z4h : zns s6 2 true = (s6, 8) := by kernel_rfl
theorem z2r : zdf s6 1 = (s7, [2, 3], 0) := by kernel_rfl
theorem z5u : zlj s7 4 0 = ([], 0) := by kernel_rfl
theorem z4i : zdf s7 0 = (s7, [], 4) := by kernel_rfl
theorem z5s : zns s7 0 false = (s7, 14) := by kernel_rfl
theorem z4n {n : Nat} {S S' : Sto} {l cs : List CH} {r e : Int} (h : JJ n S) (hn : n ≤ 100) (hc : ∀ c ∈ cs, TZ c.1 ∧ tE c.1 = 0) (hl : cs.length ≤ 30) (hw : zeo S l cs = (S', r, e)) : JJ (n + 1) S' := by
 have h1 := zqx h hn (l := l) hc hl
 rw [hw] at h1
 exact h1
theorem z5d {n : Nat} {S S' : Sto} {r e : Int} {un : Bool} (h : JJ n S) (hw : zns S r un = (S', e)) : JJ (n + 1) S' := by
 have h1 := zvf h r un
 rw [hw] at h1
 exact h1
theorem z5e {n : Nat} {S S' : Sto} {k e : Int} {g : List Int} (h : JJ n S) (hw : zdf S k = (S', g, e)) : JJ (n + 1) S' := by
 have h1 := zvh h k
 rw [hw] at h1
 exact h1
set_option maxHeartbeats 8000000 in
set_option maxRecDepth 20000 in
theorem zgs {w : World} {B : Heap} (hB : B.Le (hp w)) : Ret Tryz.prog 17 [] w B (fun v _ => v = .bool true) := by
 have p0 : ptA ⟨#[100, 111, 99, 58, 97, 35, 118, 105, 101, 119, 101, 114, 64, 117, 115, 101, 114, 58, 120]⟩ = (d0, 0) := by decide +kernel
 have p2 : ptA ⟨#[100, 111, 99, 58, 98, 35, 118, 105, 101, 119, 101, 114, 64, 117, 115, 101, 114, 58, 120]⟩ = (d2, 0) := by decide +kernel
 have z0 : TZ d0 := zyp (by decide)
 have z2 : TZ d2 := zyp (by decide)
 have m0 := zwf z0
 have m2 := zwf z2
 have e0 : tE d0 = 0 := by decide +kernel
 have e2 : tE d2 = 0 := by decide +kernel
 have all : ∀ l : List CH, (∀ c ∈ l, c.1 = d0 ∨ c.1 = d2) → ∀ c ∈ l, TM c.1 := fun l h c hc => by
  rcases h c hc with e | e
  ·rw [e]; exact m0
  ·rw [e]; exact m2
 have ok : ∀ l : List CH, (∀ c ∈ l, c.1 = d0 ∨ c.1 = d2) → ∀ c ∈ l, TZ c.1 ∧ tE c.1 = 0 := fun l h c hc => by
  rcases h c hc with e | e
  ·rw [e]; exact ⟨z0, e0⟩
  ·rw [e]; exact ⟨z2, e2⟩
 have j0 := zvg
 have j1 := z4n j0 (by decide) (ok _ (by simp)) (by decide) z2p
 have j2 := z4n j1 (by decide) (ok _ (by simp)) (by decide) z2o
 have j3 := z5d j2 z5c
 have j4 := z5e j3 z2s
 have j5 := z4n j4 (by decide) (ok _ (by simp)) (by decide) z2n
 have j6 := z5d j5 z2q
 have j7 := z5e j6 z2r
 have k1 : Kn.mono (.sat (RsV [1] true)) := SlV.mono
 have k2 : Kn.mono (.sat (RsV [2, 3] true)) := SlV.mono
 have k3 : Kn.mono (.sat (RsV [] true)) := SlV.mono
 have k4 : Kn.mono (.sat (KS tyC [] true)) := SlV.mono
 refine yi Tryz.func17 rfl Tryz.ntmps17 (Nat.le_of_ble_eq_true rfl) hB ?_
 refine Z184 ?_; refine z7 (zw L rfl rfl (zk rfl) rfl rfl rfl (fun u H hH _ _ => zjt p0 (Nat.le_of_ble_eq_true rfl) hH)) rfl ?_; refine Z171 ?_; refine Z199 ?_; refine Z142 ?_; refine Z29 ?_; refine z7 (zw L rfl rfl (zk rfl) rfl rfl rfl (fun u H hH _ _ => zjt p2 (Nat.le_of_ble_eq_true rfl) hH)) rfl ?_; refine Z171 ?_; refine Z199 ?_; refine Z142 ?_; refine Z28 ?_; refine z7 (qb L (vs := [_, _, _, _, _, _]) (yl rfl) rfl rfl rfl rfl ⟨_, rfl⟩) rfl ?_; refine z7 (yu (cs := [_, _, _, _, _, _, _]) rfl rfl z14 rfl rfl) rfl ?_; refine Z34 ?_; refine Z377 ?_; refine Z27 ?_; refine z7 (zei L rfl rfl (zk rfl) rfl rfl rfl (fun u H hH hle _ => zp9 hH)) rfl ?_; refine qo (yn (.inr rfl) rfl rfl rfl rfl) ?_; refine Z157 ?_
 refine zi8 6 900 rfl fun b => ?_
 refine Z176 ?_; refine z7 (qb L (vs := [_, _, _, _, _, _]) (yl rfl) rfl rfl rfl rfl ⟨_, rfl⟩) rfl ?_; refine z7 (yu (cs := [_, _, _, _, _, _, _]) rfl rfl zma rfl rfl) rfl ?_; refine Z34 ?_; refine qo (zah L 900 (StG b s1) (.tuple #[.int .u64 2, .int .i64 0]) (r := StG b newS) rfl rfl rfl rfl rfl (fun u H2 C2 hH hle hr2 hC2 v1 h1 => zd8 (zeq (l := []) (cs := [(d0, false)]) (j0.I (by decide)) (by decide) j0.ne (all _ (by simp)) (all _ (by simp)) (by decide) (by decide) z2p hH (SlV.nil (fu := false)) (h1.toV (n := 1) rfl) hr2 hC2))) ?_; refine Z242 ?_
 refine Z187 ?_; refine Z4 ?_; refine z7 (qb L (vs := [_, _, _, _, _, _]) (yl rfl) rfl rfl rfl rfl ⟨_, rfl⟩) rfl ?_; refine z7 (yu (cs := [_, _, _, _, _, _, _]) rfl rfl zma rfl rfl) rfl ?_; refine z7 (qb L (vs := [_, _, _, _, _, _]) (yl rfl) rfl rfl rfl rfl ⟨_, rfl⟩) rfl ?_; refine z7 (yu (cs := [_, _, _, _, _, _, _]) rfl rfl zma rfl rfl) rfl ?_; refine Z34 ?_; refine qo (zah L 900 (StG b s2) (.tuple #[.int .u64 3, .int .i64 0]) (r := StG b s1) rfl rfl rfl rfl rfl (fun u H2 C2 hH hle hr2 hC2 v1 h1 v2 h2 => zd8 (zeq (l := [(d0, false)]) (cs := [(d2, false), (d0, true)]) (j1.I (by decide)) (by decide) j1.ne (all _ (by simp)) (all _ (by simp)) (by decide) (by decide) z2o hH (h1.toV (n := 1) rfl) (h2.toV (n := 2) rfl) hr2 hC2))) ?_; refine Z242 ?_
 refine Z195 ?_; refine Z4 ?_; refine qo (zah L 900 (StG b s2) (.tuple #[.int .u64 0, .int .i64 13]) (r := StG b s2) rfl rfl rfl rfl rfl (fun u H2 C2 hH hle hr2 hC2 v1 h1 => zd8 (zeq (l := [(d0, false)]) (cs := []) (j2.I (by decide)) (by decide) j2.ne (all _ (by simp)) (all _ (by simp)) (by decide) (by decide) z4g hH (h1.toV (n := 1) rfl) (SlV.nil (fu := false)) hr2 hC2))) ?_; refine Z242 ?_
 refine Z216 ?_; refine yx (zbq L 900 (WithP [d0] 0) (r := StG b s2) rfl rfl rfl rfl rfl WithP.mono (fun u H2 C2 hH hle hr2 hC2 => by have h := zjp (r := 2) j2.ne hH hr2 hC2; rw [z4k] at h; exact h)) ?_; refine zbk 62 rfl fun vx Kx hx hpx => ?_; obtain ⟨svx, rfl, hsvx⟩ := hpx; obtain ⟨fx, px, gx, qx, rfl, hplx⟩ := hsvx.shape; refine Z279 ?_; refine Z142 ?_; refine Z289 ?_; refine yx (zbq L 900 (WithP [d2] 0) (r := StG b s2) rfl rfl rfl rfl rfl WithP.mono (fun u H2 C2 hH hle hr2 hC2 => by have h := zjp (r := 0) j2.ne hH hr2 hC2; rw [z4m] at h; exact h)) ?_; refine zbk 67 rfl fun vy Ky hy hpy => ?_; obtain ⟨svy, rfl, hsvy⟩ := hpy; obtain ⟨fy, py, gy, qy, rfl, hply⟩ := hsvy.shape; refine Z279 ?_; refine Z142 ?_; refine Z315 ?_; refine yx (zbq L 900 (WithP [] 14) (r := StG b s2) rfl rfl rfl rfl rfl WithP.mono (fun u H2 C2 hH hle hr2 hC2 => by have h := zjp (r := 4) j2.ne hH hr2 hC2; rw [z4j] at h; exact h)) ?_; refine zbk 72 rfl fun vz Kz hz hpz => ?_; obtain ⟨svz, rfl, hsvz⟩ := hpz; obtain ⟨fz, pz, gz, qz, rfl, hplz⟩ := hsvz.shape; refine Z329 ?_
 have hsvx2 := hsvx.le (hy.le.trans hz.le)
 have hsvy2 := hsvy.le hz.le
 refine Z65 ?_; refine Z288 ?_; refine Z1 ?_; refine Z20 ?_; refine Z1 ?_; refine Z20 ?_; refine Z22 ?_; refine Z138 ?_; refine Z22 ?_; refine Z217 ?_; refine Z22 ?_; refine Z217 ?_; refine Z22 ?_; refine Z7 ?_; refine Z1 ?_; refine z7 (qb L (vs := [_, _, _, _]) (yl rfl) rfl rfl rfl rfl ⟨_, rfl⟩) rfl ?_; refine z7 (zw L rfl rfl (zk rfl) rfl rfl rfl (fun u H hH hle _ => zdu (n := 1) rfl hH (hsvx2.le hle))) rfl ?_; refine Z22 ?_; refine Z7 ?_; refine Z1 ?_; refine z7 (qb L (vs := [_, _, _, _]) (yl rfl) rfl rfl rfl rfl ⟨_, rfl⟩) rfl ?_; refine z7 (qb L (vs := [_, _, _, _, _, _]) (yl rfl) rfl rfl rfl rfl ⟨_, rfl⟩) rfl ?_; refine z7 (zw L rfl rfl (zk rfl) rfl rfl rfl (fun u H hH hle _ => zcq (b := true) (by decide) hH (hsvx2.le hle))) rfl ?_; refine Z302 ?_; refine Z1 ?_; refine z7 (qb L (vs := [_, _, _, _]) (yl rfl) rfl rfl rfl rfl ⟨_, rfl⟩) rfl ?_; refine z7 (zw L rfl rfl (zk rfl) rfl rfl rfl (fun u H hH hle _ => zdu (n := 1) rfl hH (hsvy2.le hle))) rfl ?_; refine Z22 ?_; refine Z7 ?_; refine Z1 ?_; refine z7 (qb L (vs := [_, _, _, _]) (yl rfl) rfl rfl rfl rfl ⟨_, rfl⟩) rfl ?_; refine z7 (qb L (vs := [_, _, _, _, _, _]) (yl rfl) rfl rfl rfl rfl ⟨_, rfl⟩) rfl ?_; refine z7 (zw L rfl rfl (zk rfl) rfl rfl rfl (fun u H hH hle _ => zcq (b := true) (by decide) hH (hsvy2.le hle))) rfl ?_; refine Z49 ?_; refine Z217 ?_; refine Z22 ?_; refine Z217 ?_; refine qo (zah L 900 (StG b s3) (.int .i64 0) (r := StG b s2) rfl rfl rfl rfl rfl (fun u H2 C2 hH hle hr2 hC2 => zd8 (zlx j2.ne (by decide) z5c hH hr2 hC2))) ?_; refine Z22 ?_; refine Z7 ?_; refine Z158 ?_; refine Z301 ?_; refine qo (zg8 L 900 (StG b s4) (zv9 [1] 0) (r := StG b s3) rfl rfl rfl rfl rfl (zdq SlV.mono) (fun u H2 C2 hH hle hr2 hC2 => by have h := zef (keep := 1) j3.ne (by decide) (by decide) hH hr2 hC2; rw [z2s] at h; exact h)) ?_; refine Z292 ?_; refine Z145 ?_
 refine Z271 ?_; refine Z22 ?_; refine Z1 ?_; refine Z4 ?_; refine Z34 ?_; refine z7 (zw L rfl rfl (zk rfl) rfl rfl rfl (fun u H hH hle _ v1 h1 v2 h2 => zg6 (a := [1]) (b := [1]) (f := true) (fb := true) rfl (by decide) (by decide) hH h1 (h2.toV rfl))) rfl ?_; refine Z117 ?_; refine Z217 ?_; refine yx (zbq L 900 (RsV [2, 3] true) (r := StG b s4) rfl rfl rfl rfl rfl SlV.mono (fun u H2 C2 hH hle hr2 hC2 => by have h := zto j4.ne (by decide) hH hr2 hC2; rw [z5t] at h; exact h)) ?_; refine Z34 ?_; refine z7 (zw L rfl rfl (zk rfl) rfl rfl rfl (fun u H hH hle _ v1 h1 v2 h2 => zg6 (a := [2, 3]) (b := [2, 3]) (f := true) (fb := true) rfl (by decide) (by decide) hH h1 (h2.toV rfl))) rfl ?_; refine Z117 ?_; refine Z7 ?_; refine Z158 ?_; refine Z102 ?_; refine Z1 ?_; refine yx (zbq L 900 (WithP [] 14) (r := StG b s4) rfl rfl rfl rfl rfl WithP.mono (fun u H2 C2 hH hle hr2 hC2 => by have h := zjp (r := 1) j4.ne hH hr2 hC2; rw [z4l] at h; exact h)) ?_; refine zbk 148 rfl fun vw Kw hw hpw => ?_; obtain ⟨svw, rfl, hsvw⟩ := hpw; obtain ⟨fw, pw, gw, qw, rfl, hplw⟩ := hsvw.shape; refine Z171 ?_; refine Z142 ?_; refine Z108 ?_; refine Z1 ?_; refine qo (zah L 900 (StG b s5) (.tuple #[.int .u64 4, .int .i64 0]) (r := StG b s4) rfl rfl rfl rfl rfl (fun u H2 C2 hH hle hr2 hC2 => zd8 (zeq (l := []) (cs := []) (j4.I (by decide)) (by decide) j4.ne (all _ (by simp)) (all _ (by simp)) (by decide) (by decide) z2n hH (SlV.nil (fu := false)) (SlV.nil (fu := false)) hr2 hC2))) ?_; refine Z242 ?_; refine Z293 ?_; refine qo (zah L 900 (StG b s6) (.int .i64 0) (r := StG b s5) rfl rfl rfl rfl rfl (fun u H2 C2 hH hle hr2 hC2 => zd8 (zhu j5.ne (by decide) z2q hH hr2 hC2))) ?_; refine Z142 ?_; refine Z119 ?_; refine Z1 ?_; refine qo (zah L 900 (StG b s6) (.int .i64 8) (r := StG b s6) rfl rfl rfl rfl rfl (fun u H2 C2 hH hle hr2 hC2 => zd8 (zhu j6.ne (by decide) z4h hH hr2 hC2))) ?_; refine Z142 ?_; refine Z97 ?_; refine Z1 ?_; refine qo (zg8 L 900 (StG b s7) (zv9 [2, 3] 0) (r := StG b s6) rfl rfl rfl rfl rfl (zdq SlV.mono) (fun u H2 C2 hH hle hr2 hC2 => by have h := zef (keep := 1) j6.ne (by decide) (by decide) hH hr2 hC2; rw [z2r] at h; exact h)) ?_; refine Z292 ?_; refine Z142 ?_; refine Z403 ?_; refine yx (zbq L 900 (z3u [] 0) (r := StG b s7) rfl rfl rfl rfl rfl (zdq SlV.mono) (fun u H2 C2 hH hle hr2 hC2 => by have h := zfz (p := 4) (q := 0) (j7.I (by decide)) j7.ne hH hr2 hC2; rw [z5u] at h; exact h)) ?_; refine Z292 ?_; refine Z309 ?_; refine Z1 ?_; refine qo (zg8 L 900 (StG b s7) (zv9 [] 4) (r := StG b s7) rfl rfl rfl rfl rfl (zdq SlV.mono) (fun u H2 C2 hH hle hr2 hC2 => by have h := zef (keep := 0) j7.ne (by decide) (by decide) hH hr2 hC2; rw [z4i] at h; exact h)) ?_; refine Z292 ?_; refine Z142 ?_
 refine Z310 ?_; refine Z23 ?_; refine Z138 ?_; refine Z23 ?_; refine Z217 ?_; refine Z23 ?_; refine Z217 ?_; refine Z23 ?_; refine Z217 ?_; refine Z23 ?_; refine Z217 ?_; refine Z23 ?_; refine Z7 ?_; refine Z1 ?_; refine Z4 ?_; refine Z34 ?_; refine z7 (zw L rfl rfl (zk rfl) rfl rfl rfl (fun u H hH hle _ v1 h1 v2 h2 => zg6 (a := [2, 3]) (b := [2, 3]) (f := true) (fb := true) rfl (by decide) (by decide) hH h1 (h2.toV rfl))) rfl ?_; refine Z117 ?_; refine Z217 ?_; refine Z23 ?_; refine Z7 ?_; refine Z1 ?_; refine Z148 ?_; refine Z117 ?_; refine Z217 ?_; refine Z23 ?_; refine Z217 ?_; refine qo (zah L 900 (StG b s7) (.int .i64 14) (r := StG b s7) rfl rfl rfl rfl rfl (fun u H2 C2 hH hle hr2 hC2 => zd8 (zlx j7.ne (by decide) z5s hH hr2 hC2))) ?_; refine Z23 ?_; refine Z7 ?_; refine Z136 ?_
 refine yf L (rs := [.tmp 0]) rfl (fun _ _ h => h) (hx.trans (hy.trans (hz.trans hw))) fun u H hH hle => ?_
 rfl
end Go.V.L10
set_option maxRecDepth 20000
namespace Go.V.L10
open Go.Proofs Go.RowKit Go.V Go.V.L2 Go.V.L8 Go.V.L6
abbrev ZO := OO × Value × Value
def ooc (z : ZO) : List Value := [.int .u8 z.1.wh, z.2.1, z.2.2, .int .u8 z.1.rv, .int .i64 z.1.kp]
theorem zz3 (z : ZO) : (ooc z).length = 5 := rfl
def OzOK (zs : List ZO) (H : Heap) : Prop := ∀ z ∈ zs, OOK z.1 ∧ PS3 z.1.ms false z.2.1 H ∧ PS3 z.1.cs false z.2.2 H
theorem OzOK.le {zs : List ZO} {H H' : Heap} (h : OzOK zs H) (hle : H.Le H') : OzOK zs H' := fun z hz => ⟨(h z hz).1, (h z hz).2.1.le hle, (h z hz).2.2.le hle⟩
abbrev WsV (zs : List ZO) : Value → Heap → Prop := SlV z08 5 (zs.flatMap ooc) zs.length false
theorem z4b {zs : List ZO} {i : Nat} {z : ZO} (h : zs[i]? = some z) : ((zs.flatMap ooc).drop (i * 5)).take 5 = [.int .u8 z.1.wh, z.2.1, z.2.2, .int .u8 z.1.rv, .int .i64 z.1.kp] := zde zz3 zs i z h
def zhz (S : Sto) (zs : List ZO) (i : Nat) : Sto := (zs.take i).foldl (fun S z => doS S z.1) S
theorem zk7 {S : Sto} {zs : List ZO} {i : Nat} {z : ZO} (h : zs[i]? = some z) : zhz S zs (i + 1) = doS (zhz S zs i) z.1 := by
 unfold zhz; rw [zcb h, List.foldl_append]; rfl
theorem zmn {n : Nat} {S : Sto} {zs : List ZO} (h : JJ n S) : ∀ {i : Nat}, n + i ≤ 101 → JJ (n + i) (zhz S zs i)
 | 0, _ => h
 | i + 1, hi => by
  have ih := zmn h (zs := zs) (i := i) (by omega)
  rcases Nat.lt_or_ge i zs.length with hl | hl
  ·obtain ⟨z, hz⟩ := zae hl
   rw [zk7 hz]
   exact z4o ih (by omega) _
  ·have : zhz S zs (i + 1) = zhz S zs i := by unfold zhz; rw [List.take_of_length_le hl, List.take_of_length_le (by omega)]
   rw [this]
   exact ih.mono (by omega)
def zt6 (S : Sto) (zs : List ZO) : Sto := zhz S zs (min zs.length 25)
theorem z0f {n : Nat} {S : Sto} {zs : List ZO} (h : JJ n S) (hn : n ≤ 75) : JJ (n + 25) (zt6 S zs) := (zmn h (by omega)).mono (by omega)
attribute [local irreducible] V N X VO Par StepOK Has Ret RetL RetO RetT zb3 zdz RetY Src
set_option maxHeartbeats 2000000 in
set_option maxRecDepth 20000 in
theorem zwy {S : Sto} {n pb b : Nat} {zs : List ZO} (hj : JJ n S) (hn : n ≤ 75) {xv : Value} {w : World} {B : Heap} {C : Nat → Prop} (hB : B.Le (hp w)) (hx : WsV zs xv B) (ho : OzOK zs B) (hr : (BoG pb b S).P B w C) (hC : ∀ k, C k → k < w.heap.size ∧ B k = none) :
  RetY Tryz.prog 11 [zm0 pb, .agg #[xv]] w B C (BoG pb b (zt6 S zs)) (fun v _ => v = .int .i64 1) := by
 obtain ⟨p, c, rfl⟩ := zav hx
 unfold RetY
 refine zap 900 (BoG pb b S) Tryz.func11 rfl Tryz.ntmps11 (Nat.le_of_ble_eq_true rfl) hB hr hC ?_
 refine Z340 ?_; refine Z197 ?_
 refine zai (fun i : Nat => [(0, .is (zm0 pb)), (3, .sat (At [.slice p zs.length c] 24 0)), (5, .is (.int .i64 i)), (900, .own (BoG pb b (zhz S zs i)).res)]) (fun i => i ≤ zs.length ∧ i ≤ 25) (fun i => 25 - i) 0 ⟨Nat.zero_le _, Nat.zero_le _⟩ ⟨rfl, rfl, rfl, rfl, trivial⟩ ?_
 rintro i ⟨h1, h2⟩
 dsimp only at h1 h2 ⊢
 have hji := zmn hj (zs := zs) (i := i) (by omega)
 by_cases hl : i < zs.length
 ·by_cases h25 : i < 25
  ·obtain ⟨z, hz⟩ := zae hl
   obtain ⟨o, mv, cv⟩ := z
   have hoz := ho _ (List.mem_of_getElem? hz)
   have hc := z4b hz
   have hps := zk7 (S := S) hz
   have hwk : IntKind.i64.wrap ((i : Int) + 1) = ((i + 1 : Nat) : Int) := zaa (by omega) (by omega)
   refine Z287 ?_; refine Z283 ?_; refine Z8 ?_; refine Z331 ?_; refine Z249 ?_; refine Z166 ?_; refine Z156 ?_; refine Z218 ?_; refine Z1 ?_; refine z7 (qs L _ rfl rfl rfl rfl rfl rfl rfl (by first | omega | decide) (by assumption)) rfl ?_; refine z7 (yd L (vs := [_, _, _, _, _]) rfl rfl rfl rfl rfl ⟨_, rfl⟩) rfl ?_; refine qo (zah L 900 (BoG pb b (doS (zhz S zs i) o)) (.int .i64 1) (r := BoG pb b (zhz S zs i)) rfl rfl rfl rfl rfl (fun u H2 C2 hH hle hr2 hC2 => zd8 (z24 hji (by omega) hoz.1 hH ⟨mv, cv, rfl, hoz.2.1.le hle, hoz.2.2.le hle⟩ hr2 hC2))) ?_; refine Z13 ?_; refine Z215 ?_; refine Z173 ?_; refine Z213 ?_
   exact yk (x := i) (i + 1) ⟨hl, h25⟩ (by omega) ⟨rfl, rfl, rfl, by rw [hps]; rfl, trivial⟩
  ·obtain rfl : i = 25 := by omega
   refine Z287 ?_; refine Z283 ?_; refine Z8 ?_; refine Z272 ?_; refine Z7 ?_; refine Z181 ?_; refine Z387 ?_; refine Z136 ?_
   exact zb0 L 900 (r := BoG pb b (zhz S zs 25)) (rs := [.tmp 4]) rfl (fun _ _ h => h) Since.refl rfl (by unfold zt6; rw [Nat.min_eq_right (by omega)]) (fun H hle => rfl)
 ·obtain rfl : i = zs.length := by omega
  refine Z287 ?_; refine Z283 ?_; refine Z11 ?_; refine Z179 ?_; refine Z7 ?_; refine Z181 ?_; refine Z387 ?_; refine Z136 ?_
  exact zb0 L 900 (r := BoG pb b (zhz S zs zs.length)) (rs := [.tmp 4]) rfl (fun _ _ h => h) Since.refl rfl (by unfold zt6; rw [Nat.min_eq_left (by omega)]) (fun H hle => rfl)
end Go.V.L10
set_option maxRecDepth 20000
namespace Go.V
open Go.RowKit
inductive zhp where
 | s
 | b
 | i (k : IntKind)
def z3r : zhp → Value → Prop
 | .s, v => ∃ a : ByteArray, v = .string a ∧ a.size ≤ maxLen
 | .b, v => ∃ c, v = .bool c
 | .i k, v => ∃ n, v = .int k n ∧ (Lit.int k n).wf = true
def LeafsOK : List zhp → List Value → Prop
 | [], [] => True
 | l :: ls, v :: vs => z3r l v ∧ LeafsOK ls vs
 | _, _ => False
theorem LeafsOK.append : ∀ {a b : List zhp} {x y : List Value}, LeafsOK a x → LeafsOK b y → LeafsOK (a ++ b) (x ++ y)
 | [], _, [], _, _, h => h
 | [], _, _ :: _, _, h, _ => h.elim
 | _ :: _, _, [], _, h, _ => h.elim
 | _ :: _, _, _ :: _, _, h, k => ⟨h.1, LeafsOK.append h.2 k⟩
theorem LeafsOK.length : ∀ {a : List zhp} {x : List Value}, LeafsOK a x → x.length = a.length
 | [], [], _ => rfl
 | [], _ :: _, h => h.elim
 | _ :: _, [], h => h.elim
 | _ :: _, _ :: _, h => by simp [LeafsOK.length h.2]
theorem zn9 {k : IntKind} {ls : List zhp} {vs : List Value} (h : LeafsOK (.i k :: ls) vs) : ∃ n r, vs = .int k n :: r ∧ (Lit.int k n).wf = true ∧ LeafsOK ls r := by
 cases vs with
 | nil => exact h.elim
 | cons v vs => obtain ⟨⟨a, rfl, ha⟩, h⟩ := h; exact ⟨a, vs, rfl, ha, h⟩
theorem zqu {vs : List Value} (h : LeafsOK [] vs) : vs = [] := by
 cases vs with
 | nil => rfl
 | cons _ _ => exact h.elim
def zxd (P : Program) (rec : TypeId → Option (List zhp)) : List Field → Nat → Option (List zhp)
 | [], _ => some []
 | f :: fs, off => match rec f.type with
  | some ls => if f.offset = off ∧ P.cellsOf f.type = ls.length then
    match zxd P rec fs (off + ls.length) with
    | some r => some (ls ++ r)
    | none => none
   else none
  | none => none
def zyu (ls : List zhp) : Nat → List zhp
 | 0 => []
 | n + 1 => ls ++ zyu ls n
def leafI (P : Program) : Nat → TypeId → Option (List zhp)
 | 0, _ => none
 | d + 1, t => match P.underlying t with
  | some .string => some [.s]
  | some (.int k) => some [.i k]
  | some .bool => some [.b]
  | some (.struct fs) => match zxd P (leafI P d) fs.toList 0 with
   | some ls => if P.cellsOf t = ls.length then some ls else none
   | none => none
  | some (.array n e) => match leafI P d e with
   | some ls => if P.cellsOf e = ls.length ∧ P.cellsOf t = (zyu ls n).length then some (zyu ls n) else none
   | none => none
  | _ => none
theorem zmg {α β : Type} {f : α → Option β} : ∀ {l : List α} {ys : List β}, l.mapM f = some ys → ∃ g : List β, g = ys ∧ (∀ x ∈ l, ∃ y, f x = some y ∧ y ∈ ys) ∧ (∀ y ∈ ys, ∃ x ∈ l, f x = some y)
 | [], ys, h => by
  simp at h; subst h
  exact ⟨_, rfl, by simp, by simp⟩
 | x :: l, ys, h => by
  rw [List.mapM_cons] at h
  cases hx : f x with
  | none => rw [hx] at h; cases h
  | some y =>
   rw [hx] at h
   cases hl : l.mapM f with
   | none => rw [hl] at h; cases h
   | some zs =>
    rw [hl] at h
    cases h
    obtain ⟨_, _, h1, h2⟩ := zmg hl
    refine ⟨_, rfl, fun z hz => ?_, fun z hz => ?_⟩
    ·rcases List.mem_cons.1 hz with rfl | hz
     ·exact ⟨y, hx, List.mem_cons_self ..⟩
     ·obtain ⟨w, hw, hm⟩ := h1 z hz; exact ⟨w, hw, List.mem_cons_of_mem _ hm⟩
    ·rcases List.mem_cons.1 hz with rfl | hz
     ·exact ⟨x, List.mem_cons_self .., hx⟩
     ·obtain ⟨w, hw, hm⟩ := h2 z hz; exact ⟨w, List.mem_cons_of_mem _ hw, hm⟩
theorem zht (cs : List Value) (off m r : Nat) : (cs.drop off).take (m + r) = (cs.drop off).take m ++ (cs.drop (off + m)).take r := by
 rw [List.take_add, List.drop_drop]
section
variable {P : Program} {H : Type} {enc : TypeId × Value → H} {W : World} {sp : Nat → Bool} {held : Bool} {base : Nat}
theorem zej : ∀ (d : Nat) {t : TypeId} {ls : List zhp}, leafI P d t = some ls → ∀ {fuel : Nat} {cs : List Value} {x : DataW H × List MemPlace},
  DataW.trod enc P W base sp held fuel t cs = some x → LeafsOK ls cs ∧ x.2 = []
 | 0, _, _, h, _, _, _, _ => by cases h
 | d + 1, t, ls, h, fuel, cs, x, hx => by
  have ih := @zej d
  cases fuel with
  | zero => simp [DataW.trod] at hx
  | succ fuel =>
   rw [leafI] at h
   unfold DataW.trod at hx
   cases hu : P.underlying t with
   | none => rw [hu] at h; cases h
   | some ds =>
    rw [hu] at h hx
    cases ds <;> first | (cases h; done) | skip
    ·cases h
     match cs, hx with
     | [.bool b], hx => cases hx; exact ⟨⟨⟨b, rfl⟩, trivial⟩, rfl⟩
    ·rename_i k
     cases h
     match cs, hx with
     | [.int k' m], hx =>
      simp only at hx
      split at hx
      ·rename_i hk
       obtain ⟨rfl, hw⟩ := hk
       cases hx; exact ⟨⟨⟨m, rfl, hw⟩, trivial⟩, rfl⟩
      ·cases hx
    ·cases h
     match cs, hx with
     | [.string s], hx =>
      simp only at hx
      split at hx
      ·rename_i hs; cases hx; exact ⟨⟨⟨s, rfl, hs⟩, trivial⟩, rfl⟩
      ·cases hx
    ·rename_i n e
     simp only at h hx
     split at h
     ·rename_i l1 hl1
      split at h
      ·rename_i hc
       cases h
       split at hx
       ·rename_i hlen
        obtain ⟨xs, hxs, rfl⟩ := Option.map_eq_some_iff.1 hx
        obtain ⟨_, _, hall, hback⟩ := zmg hxs
        have each : ∀ i, i < n → LeafsOK l1 ((cs.drop (i * P.cellsOf e)).take (P.cellsOf e)) := fun i hi => by
         obtain ⟨y, hy, _⟩ := hall i (List.mem_range.2 hi)
         exact (ih hl1 hy).1
        have gen : ∀ m k, k + m = n → LeafsOK (zyu l1 m) ((cs.drop (k * P.cellsOf e)).take (m * P.cellsOf e)) := by
         intro m
         induction m with
         | zero => intro k _; simp [zyu, LeafsOK]
         | succ m ihm =>
          intro k hk
          rw [show (m + 1) * P.cellsOf e = P.cellsOf e + m * P.cellsOf e by rw [Nat.succ_mul]; omega, zht]
          refine LeafsOK.append (each k (by omega)) ?_
          rw [show k * P.cellsOf e + P.cellsOf e = (k + 1) * P.cellsOf e by rw [Nat.succ_mul]]
          exact ihm (k + 1) (by omega)
        refine ⟨?_, ?_⟩
        ·have := gen n 0 (by omega)
         have hrl : ∀ m, (zyu l1 m).length = m * P.cellsOf e := by
          intro m
          induction m with
          | zero => simp [zyu]
          | succ m ihm => simp only [zyu, List.length_append, ihm, hc.1]; rw [Nat.succ_mul]; omega
         rw [← hrl n, ← hc.2, ← hlen] at this
         simpa using this
        ·refine List.flatMap_eq_nil_iff.2 fun y hy => ?_
         obtain ⟨i, _, hi⟩ := hback y hy
         exact (ih hl1 hi).2
       ·cases hx
      ·cases h
     ·cases h
    ·rename_i fs
     simp only at h hx
     split at h
     ·rename_i l1 hl1
      split at h
      ·rename_i hc
       cases h
       split at hx
       ·rename_i hlen
        obtain ⟨xs, hxs, rfl⟩ := Option.map_eq_some_iff.1 hx
        obtain ⟨_, _, hall, hback⟩ := zmg hxs
        have gen : ∀ (fl : List Field) (off : Nat) (ls : List zhp), (∀ f ∈ fl, f ∈ fs.toList) → zxd P (leafI P d) fl off = some ls →
          LeafsOK ls ((cs.drop off).take ls.length) ∧ ∀ f ∈ fl, ∃ l, leafI P d f.type = some l := by
         intro fl
         induction fl with
         | nil => intro off ls _ h; cases h; simp [LeafsOK]
         | cons f fl ihf =>
          intro off ls hm h
          simp only [zxd] at h
          split at h
          ·rename_i l2 hl2
           split at h
           ·rename_i hc2
            obtain ⟨rfl, hc3⟩ := hc2
            split at h
            ·rename_i r hr
             cases h
             obtain ⟨g1, g2⟩ := ihf _ _ (fun g hg => hm g (List.mem_cons_of_mem _ hg)) hr
             refine ⟨?_, fun g hg => ?_⟩
             ·rw [List.length_append, zht]
              refine LeafsOK.append ?_ g1
              obtain ⟨y, hy, _⟩ := hall f (hm f (List.mem_cons_self ..))
              rw [← hc3]
              exact (ih hl2 hy).1
             ·rcases List.mem_cons.1 hg with rfl | hg
              ·exact ⟨l2, hl2⟩
              ·exact g2 g hg
            ·cases h
           ·cases h
          ·cases h
        obtain ⟨g1, g2⟩ := gen fs.toList 0 _ (fun _ h => h) hl1
        refine ⟨?_, ?_⟩
        ·rw [← hc, ← hlen] at g1; simpa using g1
        ·refine List.flatMap_eq_nil_iff.2 fun y hy => ?_
         obtain ⟨f, hf, hi⟩ := hback y hy
         obtain ⟨l, hl⟩ := g2 f hf
         exact (ih hl hi).2
       ·cases hx
      ·cases h
     ·cases h
theorem open_one {t : TypeId} {k : IntKind} {b0 : Nat} {v : Value} {dd : DataW H} {ps : List MemPlace} (h : leafI P 20 t = some [.i k]) (hu : P.underlying t = some (.int k))
  (hval : Value.okWide P W .any b0 t v) (hd : DataW.Trod enc P W base sp held t v dd ps) : ∃ n, v = .int k n ∧ (Lit.int k n).wf = true ∧ ps = [] := by
 obtain ⟨fuel, hf⟩ := hd
 have h0 : Cell.ok P W .any b0 t v := by
  unfold Value.okWide at hval
  rw [hu] at hval
  unfold Cell.okWide at hval
  rw [hu] at hval
  exact hval
 unfold Cell.ok at h0
 rw [hu] at h0
 match v, h0 with
 | .int k' n, h0 =>
  obtain ⟨h1, h2⟩ := zej 20 h (by simpa [Value.cells] using hf)
  obtain ⟨n', r, g1, g2, g3⟩ := zn9 h1
  cases g1
  exact ⟨n, rfl, g2, h2⟩
end
end Go.V
set_option maxRecDepth 20000
namespace Go.V
open Go.ChangeShapes Go.WideShapes Go.ChangeAt Go.ChangeMaps Go.RowKit
section
variable {P : Program} {H : Type} {enc : TypeId × Value → H} {W : World} {held : Bool}
end
end Go.V
set_option maxRecDepth 20000
namespace Go.V
open Go.ChangeShapes Go.WideShapes Go.ChangeAt Go.ChangeMaps Go.RowKit
section
variable {P : Program} {H : Type} {enc : TypeId × Value → H} {W : World} {held : Bool}
def zhm (enc : TypeId × Value → H) (P : Program) (W : World) (held : Bool) (t : TypeId) (n : Nat) (Φ : List Value → Prop) : Prop :=
 P.cellsOf t = n ∧ ∀ (fuel : Nat) (cs : List Value) (x : DataW H × List MemPlace), DataW.trod enc P W 0 (fun _ => true) held fuel t cs = some x → (x.1.weights P t).all (· ≤ reachBytes) = true → cs.length = n ∧ Φ cs
theorem zhy {t : TypeId} {ls : List zhp} (h : leafI P 20 t = some ls) (hc : P.cellsOf t = ls.length) : zhm enc P W held t ls.length (LeafsOK ls) :=
 ⟨hc, fun _ _ _ hx _ => ⟨(zej 20 h hx).1.length, (zej 20 h hx).1⟩⟩
def SlD (e : TypeId) (n by_ : Nat) (Φ : List Value → Prop) (Hh : Heap) (v : Value) : Prop := ∃ cs : List (List Value), (∀ c ∈ cs, c.length = n ∧ Φ c) ∧ cs.length ≤ maxLen ∧ cs.length * by_ ≤ reachBytes ∧ SlV e n cs.flatten cs.length false v Hh
theorem zff {e : TypeId} : ∀ {l : List (DataW H)} {d : DataW H}, d ∈ l → ∀ n ∈ d.weights P e, n ∈ DataW.weightsAll P e l
 | d0 :: l, d, hd, n, hn => by
  simp only [DataW.weightsAll, List.mem_append]
  rcases List.mem_cons.1 hd with rfl | hd
  ·exact .inl hn
  ·exact .inr (zff hd n hn)
theorem zym {l m : List Nat} (h : l.all (· ≤ reachBytes) = true) (hs : ∀ n ∈ m, n ∈ l) : m.all (· ≤ reachBytes) = true :=
 List.all_eq_true.2 fun n hn => List.all_eq_true.1 h n (hs n hn)
theorem wt_at {ts : List TypeId} {ds : List (DataW H)} (h : (DataW.weightsEach P ts ds).all (· ≤ reachBytes) = true) (j : Nat) {t : TypeId} {d : DataW H} (ht : ts[j]? = some t) (hd : ds[j]? = some d) : (d.weights P t).all (· ≤ reachBytes) = true :=
 zym h (DataW.weights_mem_each ht hd)
theorem zjw {t e : TypeId} {n : Nat} {Φ : List Value → Prop} (ht : P.underlying t = some (.slice e)) (hct : P.cellsOf t = 1) (he : zhm enc P W held e n Φ) (hn : 0 < n) :
  zhm enc P W held t 1 (fun vs => ∃ v, vs = [v] ∧ SlD e n (P.bytesOf e) Φ (hp W) v) := by
 refine ⟨hct, fun fuel cs x hf hw => ?_⟩
 rcases Deep.open_slice ht hf with ⟨rfl, _⟩ | ⟨a, len, cap, m, nn, D, Pl, rfl, _, h1, h2, hm, rfl, hx⟩
 ·exact ⟨rfl, _, rfl, [], fun c h => (nomatch h), Nat.zero_le _, by simp, SlV.nil⟩
 refine ⟨rfl, _, rfl, ?_⟩
 simp only [if_true] at hm
 subst hm
 have hwe : (DataW.weights P t (DataW.slice ((List.range len).map D) ((List.range (m - len)).map fun j => D (len + j)))) = (len + (m - len)) * P.bytesOf e :: (DataW.weightsAll P e ((List.range len).map D) ++ DataW.weightsAll P e ((List.range (m - len)).map fun j => D (len + j))) := by
  rw [DataW.weights, ht]; simp
 simp only at hw
 rw [hwe] at hw
 have hb : (len + (m - len)) * P.bytesOf e ≤ reachBytes := by
  have := List.all_eq_true.1 hw _ (List.mem_cons_self ..)
  simpa using this
 have hwD : ∀ i, i < len → ((D i).weights P e).all (· ≤ reachBytes) = true := fun i hi => zym hw fun k hk =>
  List.mem_cons_of_mem _ (List.mem_append_left _ (zff (List.mem_map.2 ⟨i, List.mem_range.2 hi, rfl⟩) k hk))
 rcases Nat.eq_zero_or_pos m with h0 | h0
 ·obtain rfl : len = 0 := by omega
  subst h0
  exact ⟨[], fun c h => (nomatch h), Nat.zero_le _, by simp, by simp, .inl ⟨rfl, _, rfl⟩⟩
 obtain ⟨he1, he2⟩ := he
 have hsp : a.spot = none ∧ ∃ c0 ty fr, W.heap[a.block]? = some (.cells c0 ty fr) := by
  obtain ⟨c, g1, _⟩ := hx 0 h0
  obtain ⟨_, g2, g3⟩ := World.cells?_some g1
  have g4 := g3 0 (by omega)
  have hc0 : ∃ v, c[0]? = some v := ⟨_, List.getElem?_eq_getElem (by omega)⟩
  obtain ⟨v, hv⟩ := hc0
  rw [hv] at g4
  have hadd : ((a.add (0 * P.cellsOf e)).add 0) = a := by
   rw [Nat.zero_mul]
   unfold Addr.add
   simp
  rw [hadd] at g4
  unfold World.cell? at g4
  split at g4
  ·rename_i c1 ty fr hh
   split at g4
   ·cases g4
   ·rename_i hs
    exact ⟨by simpa using hs, _, _, _, hh⟩
  ·cases g4
 obtain ⟨h3, cs, ty, fr, h4⟩ := hsp
 obtain ⟨C, hC⟩ := Deep.choose_lt (α := List Value) (n := m) (p := fun i c => W.cells? 0 (a.add (i * P.cellsOf e)) (P.cellsOf e) = some c ∧ (i < len → c.length = n ∧ Φ c)) (fun i hi => by
  obtain ⟨c, g1, g2⟩ := hx i hi
  exact ⟨c, g1, fun hl => he2 _ _ _ g2 (hwD i hl)⟩)
 have hln : ∀ i, i < len → (C i).length = n := fun i hi => ((hC i (by omega)).2 hi).1
 refine ⟨(List.range len).map C, fun c hc => ?_, by simp; omega, ?_, ?_⟩
 ·obtain ⟨i, hi, rfl⟩ := List.mem_map.1 hc
  exact (hC i (by have := List.mem_range.1 hi; omega)).2 (List.mem_range.1 hi)
 ·rw [List.length_map, List.length_range]
  exact Nat.le_trans (Nat.mul_le_mul_right _ (by omega)) hb
 ·have hfl : ∀ k, k ≤ len → ((List.range k).map C).flatten.length = k * n := by
   intro k
   induction k with
   | zero => simp
   | succ k ih =>
    intro hk
    rw [List.range_succ, List.map_append, List.flatten_append, List.length_append, ih (by omega), Nat.succ_mul]
    simp [hln k (by omega)]
  refine ⟨by rw [hfl len (Nat.le_refl _), List.length_map, List.length_range], .inr ⟨a.block, a.off, m, cs, ty, fr, ?_, h4, ?_, by simpa using h1, fun h => by cases h⟩⟩
  ·obtain ⟨ab, ao, asp⟩ := a
   simp only at h3
   subst h3
   simp
  ·rw [hfl len (Nat.le_refl _)]
   have key : ∀ k, k ≤ len → (cs.toList.drop a.off).take (k * n) = ((List.range k).map C).flatten := by
    intro k
    induction k with
    | zero => simp
    | succ k ih =>
     intro hk
     rw [Nat.succ_mul, zht, ih (by omega), List.range_succ, List.map_append, List.flatten_append]
     congr 1
     obtain ⟨_, g2, g3⟩ := World.cells?_some (hC k (by omega)).1
     simp only [List.map_cons, List.map_nil, List.flatten_cons, List.flatten_nil, List.append_nil]
     apply List.ext_getElem?
     intro j
     rcases Nat.lt_or_ge j n with hj | hj
     ·have := g3 j (by omega)
      rw [← this, List.getElem?_take_of_lt hj, List.getElem?_drop]
      obtain ⟨ab, ao, asp⟩ := a
      simp only at h3
      subst h3
      rw [zcr, zcr, za2 h4]
      simp only [he1]
      rw [Array.getElem?_toList]
     ·rw [List.getElem?_eq_none (by rw [List.length_take]; omega), List.getElem?_eq_none (by rw [hln k (by omega)]; exact hj)]
   exact key len (Nat.le_refl _)
def zgy : List (Nat × (List Value → Prop)) → List Value → Prop
 | [], vs => vs = []
 | (n, Φ) :: r, vs => ∃ a b, vs = a ++ b ∧ a.length = n ∧ Φ a ∧ zgy r b
inductive zkq (enc : TypeId × Value → H) (P : Program) (W : World) (held : Bool) : List Field → Nat → List (Nat × (List Value → Prop)) → Prop
 | nil {off : Nat} : zkq enc P W held [] off []
 | cons {f : Field} {fs : List Field} {off n : Nat} {Φ : List Value → Prop} {r : List (Nat × (List Value → Prop))} (ho : f.offset = off) (hr : zhm enc P W held f.type n Φ) (h : zkq enc P W held fs (off + n) r) : zkq enc P W held (f :: fs) off ((n, Φ) :: r)
def z1a : List (Nat × (List Value → Prop)) → Nat
 | [] => 0
 | p :: r => p.1 + z1a r
theorem zeg {t : TypeId} {fs : Array Field} {ps : List (Nat × (List Value → Prop))} (hu : P.underlying t = some (.struct fs)) (h : zkq enc P W held fs.toList 0 ps) (hc : P.cellsOf t = z1a ps) : zhm enc P W held t (z1a ps) (zgy ps) := by
 refine ⟨hc, fun fuel cs x hf hw => ?_⟩
 obtain ⟨xs, n, rfl, rfl, hl, hxl, hx⟩ := DataW.trod_struct hu hf
 have hwe : DataW.weights P t (DataW.agg (H := H) (xs.map (·.1))) = DataW.weightsEach P (fs.toList.map (·.type)) (xs.map (·.1)) := by
  rw [DataW.weights, hu]
 simp only at hw
 rw [hwe] at hw
 refine ⟨by rw [hl, hc], ?_⟩
 have gen : ∀ (fl : List Field) (i off : Nat) (ps : List (Nat × (List Value → Prop))), (∀ (j : Nat) f, fl[j]? = some f → fs[i + j]? = some f) → zkq enc P W held fl off ps → off + z1a ps = cs.length → zgy ps (cs.drop off) := by
  intro fl
  induction fl with
  | nil => intro i off ps _ h ho; cases h; simp only [z1a] at ho; simp only [zgy]; rw [List.drop_eq_nil_of_le (by omega)]
  | cons f fl ihf =>
   intro i off ps hm h ho
   cases h with
   | @cons _ _ _ n' Φ r h1 h2 h3 =>
   simp only [z1a] at ho
   have g0 := hm 0 f rfl
   rw [Nat.add_zero] at g0
   have g1 := hx i f g0
   have hi : i < xs.length := by
    rw [hxl]
    rcases Nat.lt_or_ge i fs.size with h | h
    ·exact h
    ·rw [Array.getElem?_eq_none h] at g0; cases g0
   rw [List.getElem?_eq_getElem hi, h1, h2.1] at g1
   have hwi : (xs[i].1.weights P f.type).all (· ≤ reachBytes) = true := wt_at hw i (by rw [List.getElem?_map, Array.getElem?_toList, g0]; rfl) (by rw [List.getElem?_map, List.getElem?_eq_getElem hi]; rfl)
   obtain ⟨g2, g3⟩ := h2.2 _ _ _ g1 hwi
   refine ⟨(cs.drop off).take n', cs.drop (off + n'), ?_, g2, g3, ihf (i + 1) (off + n') r (fun j f' hj => ?_) h3 (by omega)⟩
   ·rw [← List.drop_drop, List.take_append_drop]
   ·have := hm (j + 1) f' (by simpa using hj)
    rw [← this]; congr 1; omega
 have g := gen fs.toList 0 0 ps (fun j f hj => by rw [Nat.zero_add, ← Array.getElem?_toList]; exact hj) h (by rw [hl, hc]; omega)
 simpa using g
theorem open_agD {t : TypeId} {n b0 : Nat} {Φ : List Value → Prop} {v : Value} {dd : DataW H} {ps : List MemPlace} (h : zhm enc P W held t n Φ) (ha : (match P.underlying t with | some (.struct _) | some (.array _ _) => true | _ => false) = true)
  (hval : Value.okWide P W .any b0 t v) (hd : DataW.Trod enc P W 0 (fun _ => true) held t v dd ps) (hw : (dd.weights P t).all (· ≤ reachBytes) = true) : ∃ cs : List Value, v = .agg cs.toArray ∧ Φ cs := by
 obtain ⟨fuel, hf⟩ := hd
 have key : ∃ cs, v = .agg cs := by
  unfold Value.okWide at hval
  split at hval
  ·obtain ⟨cs, h1, _⟩ := hval; exact ⟨cs, h1⟩
  ·obtain ⟨cs, h1, _⟩ := hval; exact ⟨cs, h1⟩
  ·rename_i h1 h2
   exfalso
   split at ha
   ·rename_i x hx; exact h1 _ hx
   ·rename_i x y hx; exact h2 _ _ hx
   ·cases ha
 obtain ⟨cs, rfl⟩ := key
 exact ⟨cs.toList, by simp, (h.2 _ _ _ hf hw).2⟩
end
end Go.V
set_option maxRecDepth 20000
namespace Go.V.L10
open Go.Proofs Go.ChangeShapes Go.WideShapes Go.ChangeAt Go.ChangeMaps Go.RowKit Go.V Go.V.L2 Go.V.L6
abbrev C3L : List zhp := [.i .u8, .i .u8, .i .u8]
abbrev C3P (H : Heap) : List Value → Prop := fun vs => ∃ v, vs = [v] ∧ SlD ty3 3 (Tryz.prog.bytesOf ty3) (LeafsOK C3L) H v
abbrev DdP (H : Heap) : List (Nat × (List Value → Prop)) := [(1, C3P H)]
abbrev MmP (H : Heap) : List (Nat × (List Value → Prop)) := [(1, zgy (DdP H))]
abbrev OoP (H : Heap) : List (Nat × (List Value → Prop)) := [(1, LeafsOK [.i .u8]), (1, zgy (MmP H)), (1, zgy (DdP H)), (1, LeafsOK [.i .u8]), (1, LeafsOK [.i .i64])]
abbrev OsP (H : Heap) : List Value → Prop := fun vs => ∃ v, vs = [v] ∧ SlD z08 5 (Tryz.prog.bytesOf z08) (zgy (OoP H)) H v
abbrev WwP (H : Heap) : List (Nat × (List Value → Prop)) := [(1, OsP H)]
section
variable {H : Type} {enc : TypeId × Value → H} {W : World} {held : Bool}
theorem ztw : zhm enc Tryz.prog W held 64 1 (C3P (hp W)) := zjw Tryz.underlying64 (by kernel_rfl) (zhy (ls := C3L) (by kernel_rfl) (by kernel_rfl)) (by decide)
theorem zqg : zhm enc Tryz.prog W held 66 1 (zgy (DdP (hp W))) := zeg Tryz.underlying66 (.cons rfl ztw .nil) (by kernel_rfl)
theorem zww : zhm enc Tryz.prog W held 68 1 (zgy (MmP (hp W))) := zeg Tryz.underlying68 (.cons rfl zqg .nil) (by kernel_rfl)
theorem zqf : zhm enc Tryz.prog W held 5 1 (LeafsOK [.i .u8]) := zhy (ls := [.i .u8]) (by kernel_rfl) (by kernel_rfl)
theorem ztv : zhm enc Tryz.prog W held 3 1 (LeafsOK [.i .i64]) := zhy (ls := [.i .i64]) (by kernel_rfl) (by kernel_rfl)
theorem zwv : zhm enc Tryz.prog W held z08 5 (zgy (OoP (hp W))) := zeg Tryz.underlying70 (.cons rfl zqf (.cons rfl zww (.cons rfl zqg (.cons rfl zqf (.cons rfl ztv .nil))))) (by kernel_rfl)
theorem zwu : zhm enc Tryz.prog W held 22 1 (OsP (hp W)) := zjw Tryz.underlying22 (by kernel_rfl) zwv (by decide)
theorem reads_ww : zhm enc Tryz.prog W held 24 1 (zgy (WwP (hp W))) := zeg Tryz.underlying24 (.cons rfl zwu .nil) (by kernel_rfl)
end
theorem zmk {k : IntKind} {a : List Value} (h : LeafsOK [.i k] a) : ∃ z, a = [.int k z] ∧ (Lit.int k z).wf = true := by
 obtain ⟨z, r, rfl, h1, h2⟩ := zn9 h
 obtain rfl := zqu h2
 exact ⟨z, rfl, h1⟩
theorem zpo {α : Type} {f : α → List Value} {Φ : List Value → Prop} {Ψ : α → Prop} (hf : ∀ c, Φ c → ∃ x, c = f x ∧ Ψ x) : ∀ (cs : List (List Value)), (∀ c ∈ cs, Φ c) → ∃ l : List α, cs.flatten = l.flatMap f ∧ l.length = cs.length ∧ ∀ x ∈ l, Ψ x
 | [], _ => ⟨[], rfl, rfl, fun x h => by cases h⟩
 | c :: cs, h => by
  obtain ⟨x, rfl, hx⟩ := hf c (h c (List.mem_cons_self ..))
  obtain ⟨l, h1, h2, h3⟩ := zpo hf cs fun d hd => h d (List.mem_cons_of_mem _ hd)
  exact ⟨x :: l, by rw [List.flatten_cons, List.flatMap_cons, h1], by rw [List.length_cons, List.length_cons, h2], fun y hy => by
   rcases List.mem_cons.1 hy with rfl | hy
   ·exact hx
   ·exact h3 y hy⟩
theorem zm5 {z : Int} (h : (Lit.int .u8 z).wf = true) : ∃ n : Nat, z = (n : Int) ∧ n ≤ 255 := by
 have := Go.bounds_u8 h
 exact ⟨z.toNat, by omega, by omega⟩
theorem z4v {a : List Value} (h : LeafsOK C3L a) : ∃ x : C3, a = qcs x ∧ x.1 ≤ 255 ∧ x.2.1 ≤ 255 ∧ x.2.2 ≤ 255 := by
 obtain ⟨z1, r, rfl, h1, h⟩ := zn9 h
 obtain ⟨z2, r, rfl, h2, h⟩ := zn9 h
 obtain ⟨z3, r, rfl, h3, h⟩ := zn9 h
 obtain rfl := zqu h
 obtain ⟨n1, rfl, b1⟩ := zm5 h1
 obtain ⟨n2, rfl, b2⟩ := zm5 h2
 obtain ⟨n3, rfl, b3⟩ := zm5 h3
 exact ⟨(n1, n2, n3), rfl, b1, b2, b3⟩
theorem zy9 {H : Heap} {v : Value} (h : SlD ty3 3 (Tryz.prog.bytesOf ty3) (LeafsOK C3L) H v) : ∃ l : List C3, PS3 l false v H ∧ l.length ≤ 9223372036854775807 ∧ ∀ c ∈ l, c.1 ≤ 255 ∧ c.2.1 ≤ 255 ∧ c.2.2 ≤ 255 := by
 obtain ⟨cs, h1, h2, h3, h4⟩ := h
 obtain ⟨l, g1, g2, g3⟩ := zpo (f := qcs) (Ψ := fun x : C3 => x.1 ≤ 255 ∧ x.2.1 ≤ 255 ∧ x.2.2 ≤ 255) (fun c hc => z4v hc) cs fun c hc => (h1 c hc).2
 rw [g1, ← g2] at h4
 exact ⟨l, h4, by rw [g2]; exact h2, g3⟩
theorem z4a {H : Heap} {c : List Value} (h : zgy (OoP H) c) : ∃ z : ZO, c = ooc z ∧ OOK z.1 ∧ PS3 z.1.ms false z.2.1 H ∧ PS3 z.1.cs false z.2.2 H := by
 obtain ⟨a1, b, rfl, -, h1, h⟩ := h
 obtain ⟨a2, b, rfl, -, ⟨_, _, rfl, -, ⟨_, _, rfl, -, ⟨mv, rfl, hm⟩, rfl⟩, rfl⟩, h⟩ := h
 obtain ⟨a3, b, rfl, -, ⟨_, _, rfl, -, ⟨cv, rfl, hc⟩, rfl⟩, h⟩ := h
 obtain ⟨a4, b, rfl, -, h4, h⟩ := h
 obtain ⟨a5, b, rfl, -, h5, rfl⟩ := h
 obtain ⟨z1, rfl, w1⟩ := zmk h1
 obtain ⟨z4, rfl, w4⟩ := zmk h4
 obtain ⟨z5, rfl, w5⟩ := zmk h5
 obtain ⟨n1, rfl, b1⟩ := zm5 w1
 obtain ⟨n4, rfl, b4⟩ := zm5 w4
 obtain ⟨ms, g1, g2, g3⟩ := zy9 hm
 obtain ⟨cs, k1, k2, k3⟩ := zy9 hc
 exact ⟨(⟨n1, ms, cs, n4, z5⟩, mv, cv), rfl, ⟨b1, b4, g3, k3, g2, k2⟩, g1, k1⟩
theorem z32 {H : Heap} {c : List Value} (h : zgy (WwP H) c) : ∃ (xv : Value) (zs : List ZO), c = [xv] ∧ WsV zs xv H ∧ OzOK zs H := by
 obtain ⟨a1, b, rfl, -, ⟨v, rfl, cs, g1, g2, g3, g4⟩, rfl⟩ := h
 obtain ⟨zs, e1, e2, e3⟩ := zpo (f := ooc) (Ψ := fun z : ZO => OOK z.1 ∧ PS3 z.1.ms false z.2.1 H ∧ PS3 z.1.cs false z.2.2 H) (fun c hc => z4a hc) cs fun c hc => (g1 c hc).2
 rw [e1, ← e2] at g4
 exact ⟨v, zs, rfl, g4, e3⟩
end Go.V.L10
set_option maxRecDepth 20000
namespace Go.V.L10
open Go.Proofs Go.RowKit Go.V Go.V.L2 Go.V.L8 Go.V.L6
attribute [local irreducible] V N X VO Par StepOK Has Ret RetL RetO RetT zb3 zdz RetY Src
end Go.V.L10
set_option maxRecDepth 20000
namespace Go.V.L2
open Go.Proofs Go.RowKit Go.V
attribute [local irreducible] V N X VO Par StepOK Has Ret RetL Src
set_option maxHeartbeats 4000000 in
theorem ztq {x y : List U} {fx fy : Bool} (hx : x.length ≤ 100000) (hy : y.length ≤ 100000) (zx : ∀ t ∈ x, TZ t) (zy : ∀ t ∈ y, TZ t) {vx vy : Value} {w : World} {B : Heap} (hB : B.Le (hp w)) (hvx : US x fx vx B) (hvy : US y fy vy B) :
  Ret Tryz.prog 62 [vx, vy, .bool true, .bool false, .bool true] w B (US (zes x y true false true) false) := by
 have lx := zfi x
 have ly := zfi y
 have px := zd4 x
 have py := zd4 y
 refine yi Tryz.func62 rfl Tryz.ntmps62 (Nat.le_of_ble_eq_true rfl) hB ?_
 refine zaq 0 (US x fx) rfl SlV.mono hvx ?_
 refine zaq 1 (US y fy) rfl SlV.mono hvy ?_
 refine Z184 ?_; refine Z142 ?_
 refine zdp 11 tyU 6 rfl ?_
 refine Z29 ?_; refine Z4 ?_; refine z7 (zck L rfl rfl rfl (zgu rfl) rfl zms lx px (by omega) (by omega)) rfl ?_; refine Z4 ?_; refine qo (zbr L rfl rfl rfl (zgu rfl) rfl zms ly py (by omega) (by omega)) ?_; refine qo (yn (.inr rfl) rfl rfl rfl rfl) ?_; refine Z194 ?_
 refine zb1 12 (zo0 rfl) ?_
 have hal : (x ++ y).length ≤ 200000 := by rw [List.length_append]; omega
 have hza : ∀ t ∈ x ++ y, TZ t := fun t ht => (List.mem_append.1 ht).elim (zx t) (zy t)
 unfold zes
 generalize hall : x ++ y = l at hal hza
 refine Z373 ?_
 refine zai (fun s : Nat × List U => [(0, .sat (US x fx)), (1, .sat (US y fy)), (2, .is (.bool true)), (3, .is (.bool false)), (4, .is (.bool true)), (11, .own (SlR tyU 6 s.2.length (s.2.flatMap ucs))), (12, .sat (US l false)), (13, .is (.int .i64 s.1))])
  (fun s => s.1 ≤ l.length ∧ s.2.length ≤ s.1 ∧ s.2 = (l.take s.1).filter (zct x y true false true)) (fun s => l.length - s.1) (0, []) ⟨Nat.zero_le _, Nat.le_refl _, rfl⟩ ⟨rfl, rfl, rfl, rfl, rfl, rfl, rfl, rfl, trivial⟩ ?_
 rintro ⟨i, r⟩ ⟨hi, hrl, hr⟩
 dsimp only at hi hrl hr ⊢
 by_cases hlt : i < l.length
 ·obtain ⟨t, ht⟩ := zae hlt
  have hc := zfh ht
  have hf := zgt ht hr
  by_cases h1 : t ∈ x
  ·have e1 : (if t ∈ x then 1 else 0 : Int) = 1 := if_pos h1
   by_cases h2 : t ∈ y
   ·have e2 : (if t ∈ y then 1 else 0 : Int) = 1 := if_pos h2
    have hp : (zct x y true false true) t = false := by simp [zct, h1, h2]
    rw [hp, if_neg (by decide)] at hf
    refine Z345 ?_; refine z8 (qs L _ rfl rfl rfl rfl rfl rfl rfl (by first | omega | decide) (by assumption)) rfl ?_; refine z8 (yd L (vs := [_, _, _, _, _, _]) rfl rfl rfl rfl rfl ⟨_, rfl⟩) rfl ?_; refine z8 (zw L rfl rfl (zk rfl) rfl rfl rfl (fun u H hH _ _ v1 h3 => za3 (l := x) (by omega) e1 hH h3)) rfl ?_; refine Z76 ?_; refine Z234 ?_; refine z8 (qs L _ rfl rfl rfl rfl rfl rfl rfl (by first | omega | decide) (by assumption)) rfl ?_; refine z8 (yd L (vs := [_, _, _, _, _, _]) rfl rfl rfl rfl rfl ⟨_, rfl⟩) rfl ?_; refine z8 (zw L rfl rfl (zk rfl) rfl rfl rfl (fun u H hH _ _ v1 h3 => za3 (l := y) (by omega) e2 hH h3)) rfl ?_; refine Z76 ?_; refine Z306 ?_; refine Z40 ?_; refine Z172 ?_; refine Z302 ?_; refine Z236 ?_; refine Z221 ?_; refine Z217 ?_; refine Z7 ?_; refine Z217 ?_; refine Z49 ?_; refine Z236 ?_; refine Z236 ?_; refine Z7 ?_; refine Z215 ?_; refine Z257 ?_
    exact yk (x := (i, r)) (i + 1, r) ⟨hlt, by dsimp only; omega, hf.symm⟩ (by dsimp only; omega) ⟨rfl, rfl, rfl, rfl, rfl, rfl, rfl, rfl, trivial⟩
   ·have e2 : (if t ∈ y then 1 else 0 : Int) = 0 := if_neg h2
    have hp : (zct x y true false true) t = true := by simp [zct, h1, h2]
    rw [hp, if_pos rfl] at hf
    refine Z345 ?_; refine z8 (qs L _ rfl rfl rfl rfl rfl rfl rfl (by first | omega | decide) (by assumption)) rfl ?_; refine z8 (yd L (vs := [_, _, _, _, _, _]) rfl rfl rfl rfl rfl ⟨_, rfl⟩) rfl ?_; refine z8 (zw L rfl rfl (zk rfl) rfl rfl rfl (fun u H hH _ _ v1 h3 => za3 (l := x) (by omega) e1 hH h3)) rfl ?_; refine Z76 ?_; refine Z234 ?_; refine z8 (qs L _ rfl rfl rfl rfl rfl rfl rfl (by first | omega | decide) (by assumption)) rfl ?_; refine z8 (yd L (vs := [_, _, _, _, _, _]) rfl rfl rfl rfl rfl ⟨_, rfl⟩) rfl ?_; refine z8 (zw L rfl rfl (zk rfl) rfl rfl rfl (fun u H hH _ _ v1 h3 => za3 (l := y) (by omega) e2 hH h3)) rfl ?_; refine Z71 ?_; refine Z306 ?_; refine Z40 ?_; refine Z172 ?_; refine Z49 ?_; refine Z217 ?_; refine Z7 ?_; refine Z313 ?_; refine Z185 ?_; refine Z313 ?_; refine Z212 ?_; refine Z141 ?_; refine Z56 ?_; refine qo (yn (.inl rfl) rfl rfl rfl rfl) ?_; refine Z196 ?_; refine z7 (qs L _ rfl rfl rfl rfl rfl rfl rfl (by first | omega | decide) (by assumption)) rfl ?_; refine z7 (yd L (vs := [_, _, _, _, _, _]) rfl rfl rfl rfl rfl ⟨_, rfl⟩) rfl ?_; refine Z290 ?_; refine qo (yn (.inr rfl) rfl rfl rfl rfl) ?_; refine Z233 ?_; refine Z257 ?_
    exact yk (x := (i, r)) (i + 1, r ++ [t]) ⟨hlt, by dsimp only; rw [List.length_append, List.length_singleton]; omega, hf.symm⟩ (by dsimp only; omega) ⟨rfl, rfl, rfl, rfl, rfl, zdt rfl, rfl, rfl, trivial⟩
  ·have e1 : (if t ∈ x then 1 else 0 : Int) = 0 := if_neg h1
   by_cases h2 : t ∈ y
   ·have e2 : (if t ∈ y then 1 else 0 : Int) = 1 := if_pos h2
    have hp : (zct x y true false true) t = true := by simp [zct, h1, h2]
    rw [hp, if_pos rfl] at hf
    refine Z345 ?_; refine z8 (qs L _ rfl rfl rfl rfl rfl rfl rfl (by first | omega | decide) (by assumption)) rfl ?_; refine z8 (yd L (vs := [_, _, _, _, _, _]) rfl rfl rfl rfl rfl ⟨_, rfl⟩) rfl ?_; refine z8 (zw L rfl rfl (zk rfl) rfl rfl rfl (fun u H hH _ _ v1 h3 => za3 (l := x) (by omega) e1 hH h3)) rfl ?_; refine Z71 ?_; refine Z234 ?_; refine z8 (qs L _ rfl rfl rfl rfl rfl rfl rfl (by first | omega | decide) (by assumption)) rfl ?_; refine z8 (yd L (vs := [_, _, _, _, _, _]) rfl rfl rfl rfl rfl ⟨_, rfl⟩) rfl ?_; refine z8 (zw L rfl rfl (zk rfl) rfl rfl rfl (fun u H hH _ _ v1 h3 => za3 (l := y) (by omega) e2 hH h3)) rfl ?_; refine Z76 ?_; refine Z306 ?_; refine Z307 ?_; refine Z212 ?_; refine Z236 ?_; refine Z172 ?_; refine Z185 ?_; refine Z236 ?_; refine Z217 ?_; refine Z49 ?_; refine Z138 ?_; refine Z217 ?_; refine Z7 ?_; refine Z249 ?_; refine Z56 ?_; refine qo (yn (.inl rfl) rfl rfl rfl rfl) ?_; refine Z196 ?_; refine z7 (qs L _ rfl rfl rfl rfl rfl rfl rfl (by first | omega | decide) (by assumption)) rfl ?_; refine z7 (yd L (vs := [_, _, _, _, _, _]) rfl rfl rfl rfl rfl ⟨_, rfl⟩) rfl ?_; refine Z290 ?_; refine qo (yn (.inr rfl) rfl rfl rfl rfl) ?_; refine Z233 ?_; refine Z257 ?_
    exact yk (x := (i, r)) (i + 1, r ++ [t]) ⟨hlt, by dsimp only; rw [List.length_append, List.length_singleton]; omega, hf.symm⟩ (by dsimp only; omega) ⟨rfl, rfl, rfl, rfl, rfl, zdt rfl, rfl, rfl, trivial⟩
   ·have e2 : (if t ∈ y then 1 else 0 : Int) = 0 := if_neg h2
    have hp : (zct x y true false true) t = false := by simp [zct, h1, h2]
    rw [hp, if_neg (by decide)] at hf
    refine Z345 ?_; refine z8 (qs L _ rfl rfl rfl rfl rfl rfl rfl (by first | omega | decide) (by assumption)) rfl ?_; refine z8 (yd L (vs := [_, _, _, _, _, _]) rfl rfl rfl rfl rfl ⟨_, rfl⟩) rfl ?_; refine z8 (zw L rfl rfl (zk rfl) rfl rfl rfl (fun u H hH _ _ v1 h3 => za3 (l := x) (by omega) e1 hH h3)) rfl ?_; refine Z71 ?_; refine Z234 ?_; refine z8 (qs L _ rfl rfl rfl rfl rfl rfl rfl (by first | omega | decide) (by assumption)) rfl ?_; refine z8 (yd L (vs := [_, _, _, _, _, _]) rfl rfl rfl rfl rfl ⟨_, rfl⟩) rfl ?_; refine z8 (zw L rfl rfl (zk rfl) rfl rfl rfl (fun u H hH _ _ v1 h3 => za3 (l := y) (by omega) e2 hH h3)) rfl ?_; refine Z71 ?_; refine Z306 ?_; refine Z307 ?_; refine Z212 ?_; refine Z236 ?_; refine Z172 ?_; refine Z185 ?_; refine Z236 ?_; refine Z217 ?_; refine Z49 ?_; refine Z138 ?_; refine Z7 ?_; refine Z236 ?_; refine Z7 ?_; refine Z215 ?_; refine Z257 ?_
    exact yk (x := (i, r)) (i + 1, r) ⟨hlt, by dsimp only; omega, hf.symm⟩ (by dsimp only; omega) ⟨rfl, rfl, rfl, rfl, rfl, rfl, rfl, rfl, trivial⟩
 ·obtain rfl : i = l.length := by omega
  rw [List.take_length] at hr
  have hzr : ∀ t ∈ r, TZ t := fun t h => hza t (List.mem_filter.1 (by rw [← hr]; exact h)).1
  rw [← hr]
  refine zb1 11 rfl ?_
  refine Z374 ?_; refine Z60 ?_; refine Z4 ?_; refine z7 (yt L rfl rfl (zk rfl) rfl rfl rfl SlV.mono (fun u H hH _ _ v1 h3 => zgi (by omega) hzr hH h3)) rfl ?_; refine Z260 ?_
  refine yf L (rs := [.tmp 10]) rfl (fun _ _ h => h) Since.refl fun u H hH hle => ?_
  exact fun v hv => hv
end Go.V.L2
set_option maxRecDepth 20000
namespace Go.V.L8
open Go.Proofs Go.RowKit Go.V Go.V.L2 Go.V.L3 Go.V.L6
attribute [local irreducible] V N X VO Par StepOK Has Ret RetL RetO RetT zb3 Src
set_option maxHeartbeats 4000000 in
theorem zl7 {a b : List U} {m : List CH} {fa fb : Bool} (la : a.length ≤ 4096) (lb : b.length ≤ 4096) (za : ∀ t ∈ a, TZ t) (zb : ∀ t ∈ b, TZ t) (hr : zos a b = m) {av bv : Value} {w : World} {B : Heap} (hB : B.Le (hp w)) (ha : US a fa av B) (hb : US b fb bv B) :
  Ret Tryz.prog 31 [av, bv] w B (KS tyC m false) := by
 subst hr
 have hbr : zos a b = (zes a b true false true).map fun t => (t, decide (t ∈ a)) := rfl
 have lsm : (zes a b true false true).length ≤ 8192 := by
  have := zrb a b
  rw [hbr, List.length_map] at this; omega
 rw [hbr]
 refine yi Tryz.func31 rfl Tryz.ntmps31 (Nat.le_of_ble_eq_true rfl) hB ?_
 refine zaq 0 (US a fa) rfl SlV.mono ha ?_
 refine zaq 1 (US b fb) rfl SlV.mono hb ?_
 have hso := fun (u : World) (H : Heap) (hH : H.Le (hp u)) (v1 v2 : Value) (h1 : US a fa v1 H) (h2 : US b fb v2 H) => ztq (by omega) (by omega) za zb hH h1 h2
 generalize zes a b true false true = M at *
 refine Z184 ?_; refine Z330 ?_; refine z7 (yt (φ := US M false) L rfl rfl (zk rfl) rfl rfl rfl SlV.mono (fun u H hH _ _ v1 h1 v2 h2 => hso u H hH v1 v2 h1 h2)) rfl ?_; refine Z377 ?_; refine Z29 ?_; refine Z145 ?_
 refine zdp 6 tyC 7 rfl ?_
 refine Z373 ?_
 refine zai (fun i : Nat => [(0, .sat (US a fa)), (5, .sat (US M false)), (6, .own (SlR tyC 7 ((M.take i).map fun t => ((t, decide (t ∈ a)) : CH)).length (((M.take i).map fun t => ((t, decide (t ∈ a)) : CH)).flatMap ccs))), (7, .is (.int .i64 i))]) (fun i => i ≤ M.length) (fun i => M.length - i) 0 (Nat.zero_le _) ⟨rfl, rfl, rfl, rfl, trivial⟩ ?_
 rintro i hi
 have hli : ((M.take i).map fun t => ((t, decide (t ∈ a)) : CH)).length ≤ 8192 := by rw [List.length_map, List.length_take]; omega
 by_cases hlt : i < M.length
 ·obtain ⟨t, ht⟩ := zae hlt
  have hct := zfh ht
  have e1 : ((M.take (i + 1)).map fun t => ((t, decide (t ∈ a)) : CH)) = ((M.take i).map fun t => ((t, decide (t ∈ a)) : CH)) ++ [(t, decide (t ∈ a))] := by rw [List.take_add_one, ht, List.map_append]; rfl
  by_cases hin : t ∈ a
  ·rw [decide_eq_true hin] at e1
   have hr : (if t ∈ a then 1 else 0 : Int) = 1 := if_pos hin
   refine Z200 ?_; refine Z191 ?_; refine Z232 ?_; refine qg (id := 6) [(17, [6]), (31, [17]), (6, [31])] mixed (by kernel_rfl) ?_; refine zar (yn (.inl rfl) rfl rfl rfl rfl) rfl rfl ?_; refine Z178 ?_; refine z8 (qs L _ rfl rfl rfl rfl rfl rfl rfl (by first | omega | decide) (by assumption)) rfl ?_; refine z8 (yd L (vs := [_, _, _, _, _, _]) rfl rfl rfl rfl rfl ⟨_, rfl⟩) rfl ?_; refine Z234 ?_; refine z8 (qs L _ rfl rfl rfl rfl rfl rfl rfl (by first | omega | decide) (by assumption)) rfl ?_; refine z8 (yd L (vs := [_, _, _, _, _, _]) rfl rfl rfl rfl rfl ⟨_, rfl⟩) rfl ?_; refine z8 (zw L rfl rfl (zk rfl) rfl rfl rfl (fun u H hH _ _ v1 h1 => za3 (by omega) hr hH h1)) rfl ?_; refine Z76 ?_; refine z8 (yu (cs := [_, _, _, _, _, _, _]) rfl rfl zma rfl rfl) rfl ?_; refine Z111 ?_; refine zar (zbr L rfl rfl rfl (zgv rfl) rfl zss rfl rfl (by omega) (by omega)) rfl rfl ?_; refine zar (yn (.inr rfl) rfl rfl rfl rfl) rfl rfl ?_; refine Z264 ?_; refine Z257 ?_
   exact yk (x := i) (i + 1) hlt (by omega) ⟨rfl, rfl, by rw [e1]; exact ze6 rfl, rfl, trivial⟩
  ·rw [decide_eq_false hin] at e1
   have hr : (if t ∈ a then 1 else 0 : Int) = 0 := if_neg hin
   refine Z200 ?_; refine Z191 ?_; refine Z232 ?_; refine qg (id := 6) [(17, [6]), (31, [17]), (6, [31])] mixed (by kernel_rfl) ?_; refine zar (yn (.inl rfl) rfl rfl rfl rfl) rfl rfl ?_; refine Z178 ?_; refine z8 (qs L _ rfl rfl rfl rfl rfl rfl rfl (by first | omega | decide) (by assumption)) rfl ?_; refine z8 (yd L (vs := [_, _, _, _, _, _]) rfl rfl rfl rfl rfl ⟨_, rfl⟩) rfl ?_; refine Z234 ?_; refine z8 (qs L _ rfl rfl rfl rfl rfl rfl rfl (by first | omega | decide) (by assumption)) rfl ?_; refine z8 (yd L (vs := [_, _, _, _, _, _]) rfl rfl rfl rfl rfl ⟨_, rfl⟩) rfl ?_; refine z8 (zw L rfl rfl (zk rfl) rfl rfl rfl (fun u H hH _ _ v1 h1 => za3 (by omega) hr hH h1)) rfl ?_; refine Z71 ?_; refine z8 (yu (cs := [_, _, _, _, _, _, _]) rfl rfl zma rfl rfl) rfl ?_; refine Z111 ?_; refine zar (zbr L rfl rfl rfl (zgv rfl) rfl zss rfl rfl (by omega) (by omega)) rfl rfl ?_; refine zar (yn (.inr rfl) rfl rfl rfl rfl) rfl rfl ?_; refine Z264 ?_; refine Z257 ?_
   exact yk (x := i) (i + 1) hlt (by omega) ⟨rfl, rfl, by rw [e1]; exact ze6 rfl, rfl, trivial⟩
 ·obtain rfl : i = M.length := by omega
  rw [List.take_length]
  refine zb1 6 rfl ?_
  refine Z374 ?_; refine Z40 ?_; refine Z4 ?_; refine Z260 ?_
  refine yf L (rs := [.tmp 4]) rfl (fun _ _ h => h) Since.refl fun u H hH hle => ?_
  exact fun v hv => hv
end Go.V.L8
set_option maxRecDepth 20000
namespace Go.V.L8
open Go.Proofs Go.RowKit Go.V Go.V.L2 Go.V.L3 Go.V.L6
attribute [local irreducible] V N X VO Par StepOK Has Ret RetL RetO RetT Src
end Go.V.L8
set_option maxRecDepth 20000
namespace Go.V.L8
open Go.Proofs Go.RowKit Go.V Go.V.L2 Go.V.L3 Go.V.L6
attribute [local irreducible] V N X VO Par StepOK Has Ret RetL RetO RetT zb3 Src
end Go.V.L8
set_option maxRecDepth 20000
namespace Go.V.L8
open Go.Proofs Go.RowKit Go.V Go.V.L2 Go.V.L3 Go.V.L6
theorem z3d {a b : List U} (ha : SOK a) (hb : SOK b) : ∀ c ∈ zos a b, TZ c.1 ∧ tE c.1 = 0 := fun c hc => by
 rcases (zf8.1 hc).1 with h | h
 ·exact ⟨ha.tz _ h.1, ha.ok _ h.1⟩
 ·exact ⟨hb.tz _ h.2, hb.ok _ h.2⟩
attribute [local irreducible] V N X VO Par StepOK Has Ret RetL RetO RetT zb3 Src
end Go.V.L8
set_option maxRecDepth 20000
namespace Go.V.L10
open Go.Proofs Go.RowKit Go.V Go.V.L2 Go.V.L8 Go.V.L6
theorem zza {n : Nat} {S : Sto} (hj : JJ n S) {r : Int} {t : List U} {e : Int} (h : atS S r = (t, e)) : SOK t ∧ t.length ≤ 30 * (n + 1) := by
 unfold atS at h
 split at h
 ·rename_i t' ht
  cases h
  have h1 := hj.so _ _ ht
  have h2 := hj.hR
  exact ⟨h1.1, by omega⟩
 ·cases h
  exact ⟨⟨Sst.nil, fun _ h => (by cases h), fun _ h => (by cases h)⟩, Nat.zero_le _⟩
attribute [local irreducible] V N X VO Par StepOK Has Ret RetL RetO RetT zb3 zdz RetY Src
set_option maxHeartbeats 4000000 in
set_option maxRecDepth 20000 in
theorem zjh {zs : List ZO} {p q : Int} (kp : 0 ≤ p ∧ p < 18446744073709551616) (kq : 0 ≤ q ∧ q < 18446744073709551616) {xv : Value} {w : World} {B : Heap} (hB : B.Le (hp w)) (hx : WsV zs xv B) (ho : OzOK zs B) : Ret Tryz.prog 6 [.agg #[xv], .int .u64 p, .int .u64 q] w B (fun v _ => v = .bool true) := by
 obtain ⟨px, cx, rfl⟩ := zav hx
 have hj := z0f zvg (zs := zs) (by omega)
 obtain ⟨S, hS⟩ : ∃ S, zt6 newS zs = S := ⟨_, rfl⟩
 refine yi Tryz.func6 rfl Tryz.ntmps6 (Nat.le_of_ble_eq_true rfl) hB ?_
 refine Z299 ?_; refine z7 (zei L rfl rfl (zk rfl) rfl rfl rfl (fun u H hH hle _ => zw9 hH)) rfl ?_; refine qo (yn (.inr rfl) rfl rfl rfl rfl) ?_; refine Z194 ?_
 refine zi8 7 900 rfl fun x => ?_
 obtain ⟨pb, b⟩ := x
 refine Z169 ?_; refine z7 (qb L (vs := [_]) (qn rfl) rfl rfl rfl rfl ⟨_, rfl⟩) rfl ?_; refine qo (zah L 900 (BoG pb b S) (.int .i64 1) (r := BoG pb b newS) rfl rfl rfl rfl rfl (fun u H2 C2 hH hle hr2 hC2 => by have h := zwy zvg (by omega) hH (hx.le hle) (ho.le hle) hr2 hC2; rw [hS] at h; exact zd8 h)) ?_; refine Z240 ?_
 rw [hS] at hj
 have hne := hj.ne
 have hR := hj.hR
 have hP := hj.hP
 rw [zv1 pb b S]
 refine zge 900 901 rfl (zaz (StG b S)) ?_
 rw [zv2 pb b S]
 refine ze0 900 rfl fun x H hs0 hφ => ?_
 obtain ⟨lv, pv⟩ := x
 obtain ⟨hl, hpv⟩ := hφ
 dsimp only at hl hpv ⊢
 have hss : RsS S (.agg #[lv, pv]) H := ⟨lv, pv, rfl, hl, hpv⟩
 obtain ⟨⟨ta, ea⟩, hap⟩ : ∃ x, atS S p = x := ⟨_, rfl⟩
 obtain ⟨⟨tb, eb⟩, haq⟩ : ∃ x, atS S q = x := ⟨_, rfl⟩
 obtain ⟨oa, la⟩ := zza hj hap
 obtain ⟨ob, lb⟩ := zza hj haq
 have lk := zrb ta tb
 have hbp := z0z oa.sst ob.sst
 have hba := z0y oa ob (by omega)
 have hok := z3d oa ob
 have hck : cE 4096 (zos ta tb) = 0 := z4u (fun c h => (hok c h).2) (by omega)
 have happ : z3x ta (zos ta tb) = (tb, 0) := by rw [z00 hck, hba]
 obtain ⟨k, hk⟩ : ∃ k, zos ta tb = k := ⟨_, rfl⟩
 rw [hk] at lk hbp hok hck happ
 have hum1 : Kn.mono (.sat (US ta false)) := SlV.mono
 have hum2 : Kn.mono (.sat (US tb false)) := SlV.mono
 have hkm : ∀ l, Kn.mono (.sat (KS tyC l true)) := fun _ => SlV.mono
 have hdl : zlj S p q = if ea = 0 then (if eb = 0 then (k, 0) else ([], eb)) else ([], ea) := by unfold zlj; rw [hap, haq]; dsimp only; rw [hbp]
 refine Z156 ?_; refine Z203 ?_; refine yx (zam L (q := 900) (vs := [_, _]) rfl rfl rfl rfl rfl rfl ⟨_, rfl⟩) ?_; refine Z1 ?_; refine z7 (yt (φ := z07 ta ea) L rfl rfl (zk rfl) rfl rfl rfl (zdq SlV.mono) (fun u H hH hle _ => by have h := znq (S := S) (r := p) hne kp.1 kp.2 (by omega) hH (hss.le hle); rw [hap] at h; exact h)) rfl ?_; refine Z292 ?_; refine Z392 ?_; refine Z203 ?_; refine yx (zam L (q := 900) (vs := [_, _]) rfl rfl rfl rfl rfl rfl ⟨_, rfl⟩) ?_; refine Z1 ?_; refine z7 (yt (φ := z07 tb eb) L rfl rfl (zk rfl) rfl rfl rfl (zdq SlV.mono) (fun u H hH hle _ => by have h := znq (S := S) (r := q) hne kq.1 kq.2 (by omega) hH (hss.le hle); rw [haq] at h; exact h)) rfl ?_; refine Z292 ?_; refine Z142 ?_
 by_cases h1 : ea = 0
 ·subst h1
  rw [if_pos rfl] at hdl
  by_cases h2 : eb = 0
  ·subst h2
   rw [if_pos rfl] at hdl
   have hk1 := hkm k
   refine Z187 ?_; refine Z262 ?_; refine Z138 ?_; refine yx (zbq L 901 (z3u k 0) (r := StG b S) rfl rfl rfl rfl rfl (zdq SlV.mono) (fun u H2 C2 hH hle hr2 hC2 => by have h := zfz (p := p) (q := q) (hj.I (by omega)) hne hH hr2 hC2; rw [hdl] at h; exact h)) ?_; refine Z292 ?_; refine Z145 ?_; refine Z195 ?_; refine Z267 ?_; refine Z216 ?_; refine Z145 ?_; refine Z357 ?_; refine Z230 ?_; refine Z259 ?_; refine Z228 ?_
   refine Z301 ?_; refine Z262 ?_; refine Z1 ?_; refine yx (zbq L 901 (WithP ta 0) (r := StG b S) rfl rfl rfl rfl rfl WithP.mono (fun u H2 C2 hH hle hr2 hC2 => by have h := zjp (r := p) hne hH hr2 hC2; rw [hap] at h; exact h)) ?_; refine zbk 71 rfl fun v1 H1 hs1 hp1 => ?_; obtain ⟨sv, rfl, hsv⟩ := hp1; obtain ⟨f1, p3, f2, p4, rfl, hpl⟩ := hsv.shape; refine Z279 ?_; refine Z142 ?_
   refine Z74 ?_; refine z7 (qb L (vs := [_, _, _, _]) (yl rfl) rfl rfl rfl rfl ⟨_, rfl⟩) rfl ?_; refine Z4 ?_; refine z7 (yt (φ := WithP tb 0) L rfl rfl (zk rfl) rfl rfl rfl WithP.mono (fun u H hH hle _ v1 g1 => zsu (fun c hc => zwf (hok c hc).1) (by omega) (by omega) happ hH (hsv.le hle) g1)) rfl ?_; refine zbk 77 rfl fun v2 H2 hs2 hp2 => ?_; obtain ⟨sw, rfl, hsw⟩ := hp2; obtain ⟨f3, p5, f4, p6, rfl, hpl2⟩ := hsw.shape; refine Z279 ?_; refine Z142 ?_
   refine Z95 ?_; refine Z330 ?_; refine Z4 ?_; refine z7 (yt (φ := KS tyC k false) L rfl rfl (zk rfl) rfl rfl rfl SlV.mono (fun u H hH hle _ v1 g1 v2 g2 => zl7 (by omega) (by omega) oa.tz ob.tz hk hH g1 g2)) rfl ?_; refine z7 (zw L rfl rfl (zk rfl) rfl rfl rfl (fun u H hH hle _ v1 g1 v2 g2 => zrv (e := 1) (by omega) (by omega) (if_pos rfl) hH g1 g2)) rfl ?_; refine Z23 ?_; refine Z138 ?_; refine Z23 ?_; refine Z7 ?_; refine Z1 ?_; refine z7 (qb L (vs := [_, _, _, _]) (yl rfl) rfl rfl rfl rfl ⟨_, rfl⟩) rfl ?_; refine z7 (yt (φ := US tb true) L rfl rfl (zk rfl) rfl rfl rfl SlV.mono (fun u H hH hle _ => zjm (by omega) hH (hsw.le hle))) rfl ?_; refine Z4 ?_; refine z7 (zw L rfl rfl (zk rfl) rfl rfl rfl (fun u H hH hle _ v1 h1 v2 h2 => zhv (by omega) (by omega) (if_pos rfl) hH h1 h2)) rfl ?_; refine Z23 ?_; refine Z7 ?_; refine Z1 ?_; refine z7 (zw L rfl rfl (zk rfl) rfl rfl rfl (fun u H hH _ _ => zgs hH)) rfl ?_; refine Z7 ?_; refine Z136 ?_
   refine yf L (rs := [.tmp 6]) rfl (fun _ _ h => h) (hs0.trans (hs1.trans hs2)) fun u H hH hle => ?_
   rfl
  ·rw [if_neg h2] at hdl
   have hk1 := hkm []
   refine Z187 ?_; refine Z262 ?_; refine Z138 ?_; refine yx (zbq L 901 (z3u [] eb) (r := StG b S) rfl rfl rfl rfl rfl (zdq SlV.mono) (fun u H2 C2 hH hle hr2 hC2 => by have h := zfz (p := p) (q := q) (hj.I (by omega)) hne hH hr2 hC2; rw [hdl] at h; exact h)) ?_; refine Z292 ?_; refine Z145 ?_; refine Z195 ?_; refine Z267 ?_; refine Z216 ?_; refine Z145 ?_; refine Z357 ?_; refine Z230 ?_; refine Z259 ?_; refine Z205 ?_; refine Z80 ?_; refine Z148 ?_; refine Z117 ?_; refine Z1 ?_; refine z7 (zw L rfl rfl (zk rfl) rfl rfl rfl (fun u H hH _ _ => zgs hH)) rfl ?_; refine Z7 ?_; refine Z136 ?_
   refine yf L (rs := [.tmp 6]) rfl (fun _ _ h => h) hs0 fun u H hH hle => ?_
   rfl
 ·rw [if_neg h1] at hdl
  have hk1 := hkm []
  refine Z187 ?_; refine Z262 ?_; refine Z138 ?_; refine yx (zbq L 901 (z3u [] ea) (r := StG b S) rfl rfl rfl rfl rfl (zdq SlV.mono) (fun u H2 C2 hH hle hr2 hC2 => by have h := zfz (p := p) (q := q) (hj.I (by omega)) hne hH hr2 hC2; rw [hdl] at h; exact h)) ?_; refine Z292 ?_; refine Z145 ?_; refine Z195 ?_; refine Z269 ?_; refine Z357 ?_; refine Z230 ?_; refine Z259 ?_; refine Z205 ?_; refine Z80 ?_; refine Z148 ?_; refine Z117 ?_; refine Z1 ?_; refine z7 (zw L rfl rfl (zk rfl) rfl rfl rfl (fun u H hH _ _ => zgs hH)) rfl ?_; refine Z7 ?_; refine Z136 ?_
  refine yf L (rs := [.tmp 6]) rfl (fun _ _ h => h) hs0 fun u H hH hle => ?_
  rfl
end Go.V.L10
set_option maxRecDepth 20000
namespace Go.V.L10
open Go.Proofs Go.ChangeShapes Go.RowKit Go.V
theorem storesDelta_in {W : World} {cs : List Value} {p q : Int} (l0 : zgy (WwP (hp W)) cs) (zp : (Lit.int .u64 p).wf = true) (zq : (Lit.int .u64 q).wf = true) : Ret Tryz.prog 6 [.agg cs.toArray, .int .u64 p, .int .u64 q] W (hp W) (fun v _ => v = .bool true) := by
 obtain ⟨xv, zs, rfl, hx, ho⟩ := z32 l0
 have h1 := Go.bounds_u64 zp
 have h2 := Go.bounds_u64 zq
 exact zjh (by omega) (by omega) (Heap.Le.refl _) hx ho
end Go.V.L10
set_option maxRecDepth 20000
namespace Go.Proofs.YtcppaheijljnfaaGreat.storesDelta
open Go.ChangeShapes Go.WideShapes Go.ChangeAt Go.ChangeMaps Go.RowKit Go.V Go.V.L10
theorem own : ownKnob Tryz.prog.godebug = none := by kernel_rfl
theorem laidOut : laidOutB Tryz.prog = true := by kernel_rfl
theorem la0 : (match Tryz.prog.underlying 24 with | some (.struct _) | some (.array _ _) => true | _ => false) = true := by kernel_rfl
theorem lr1 : Tryz.prog.readableRec 24 = true := by kernel_rfl
theorem lt1 : 24 < Tryz.prog.types.size := of_decide_eq_true (by kernel_rfl)
theorem lf2 : leafI Tryz.prog 20 49 = some [.i .u64] := by kernel_rfl
theorem lo2 : Tryz.prog.underlying 49 = some (.int .u64) := by kernel_rfl
theorem lr3 : Tryz.prog.readableRec 49 = true := by kernel_rfl
theorem lt3 : 49 < Tryz.prog.types.size := of_decide_eq_true (by kernel_rfl)
set_option maxRecDepth 100000 in
theorem lifted (os : Os) (started : os.Started) (H : Type) (enc : TypeId × Value → H) :
    ReturnsInHanded {} Tryz.checked os 6 .any (Rows.storesDeltaSpec.pre6 enc Tryz.prog Tryz.f6 Rows.storesDeltaRow.domain false) (Rows.storesDeltaSpec.post enc Tryz.prog Tryz.f6 false true false false) := by
  refine returnsInHanded_of_change_shaped (C := Tryz.checked) own started (by kernel_rfl) Tryz.func6
    (ChangeSpec.witness6 (enc := enc) (C := Tryz.checked) false ⟨#[], #[.agg #[.slice none 0 0], .int .u64 0, .int .u64 0], []⟩ 8 (by kernel_rfl) (by kernel_rfl) (by kernel_rfl) (by kernel_rfl)) ?_
  intro W base args ds gs before hval0 hW hcnd hsz hsh _
  have hval : ∀ (j : Nat) t v, Tryz.f6.params[j]? = some t → args[j]? = some v → Value.okWide Tryz.prog W .any base t v := hval0
  have hW' := hW
  obtain ⟨p, q, hA0, hV, rfl, hfz, hnd⟩ := hW
  have hA : DataW.TrodAll enc Tryz.prog W 0 (fun _ => true) true Tryz.f6.params.toList args.toList ds p := hA0
  rw [Tryz.params6] at hA hval hsz
  obtain ⟨v0, v1, v2, d0, d1, d2, p0, p1, p2, rfl, rfl, rfl, h0, h1, h2⟩ := trodAll_three hA
  obtain ⟨rfl, rfl⟩ := trodVars_none hV
  clear hA0 hval0
  obtain ⟨c0, rfl, l0⟩ := open_agD reads_ww la0 (hval 0 24 v0 rfl rfl) h0 (wt_at hsz 0 rfl rfl)
  obtain ⟨p, rfl, zp, rfl⟩ := open_one lf2 lo2 (hval 1 49 v1 rfl rfl) h1
  obtain ⟨q, rfl, zq, rfl⟩ := open_one lf2 lo2 (hval 2 49 v2 rfl rfl) h2
  have hplc := hW'.lt
  simp only [List.append_nil] at hW'
  have hlaw := Go.V.L10.storesDelta_in l0 zp zq
  unfold Ret at hlaw
  refine hlaw.mono fun e W' hp => ?_
  obtain ⟨v, rfl, H', g, rfl⟩ := hp
  refine ⟨_, rfl, _, _, _, [], p0 ++ ([] ++ ([] ++ ([]))), [], hW', trodAll_cons_mk (shut_bool Tryz.underlying4 _) trodAll_mk0, ?_, rfl, g.below.frame _, fun h => by cases h⟩
  exact trodAll_cons_mk (Below.trod laidOut lr1 lt1 h0 g.below (fun x hx => hplc x (by simp [hx]))) (trodAll_cons_mk (Below.trod laidOut lr3 lt3 h1 g.below (fun x hx => by cases hx)) (trodAll_cons_mk (Below.trod laidOut lr3 lt3 h2 g.below (fun x hx => by cases hx)) trodAll_mk0))
theorem proved : Rows.StoresDeltaSaid :=
  OpenClaim.holds_of_wide 6 Tryz.f6 rfl rfl rfl rfl rfl rfl rfl ⟨rfl, rfl, rfl, rfl, rfl⟩ rfl rfl rfl rfl rfl (by kernel_rfl) Tryz.func6 (by kernel_rfl)
    (of_decide_eq_true (by kernel_rfl)) (by unfold Func.isWrapper; first | (rw [if_pos (by decide +kernel)]; kernel_rfl) | (rw [if_neg (by decide +kernel)]; exact ⟨rfl, rfl⟩))
    (fun os started H enc _ => lifted os started H enc)
#print axioms proved
end Go.Proofs.YtcppaheijljnfaaGreat.storesDelta
