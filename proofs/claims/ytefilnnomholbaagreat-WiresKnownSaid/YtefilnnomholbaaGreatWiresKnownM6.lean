/- WiresKnown returns true: no condition. -/
import Derived.Test.YtefilnnomholbaaGreatWiresKnownM5
import Derived.Laws.IdiomStrings
import Derived.ProofKit
import Derived.HandedShaped
import Derived.OpenShut
import Derived.Deep.Slices
import Derived.Test.YtefilnnomholbaaGreatRows
set_option linter.unusedVariables false
set_option linter.unusedSimpArgs false
set_option maxRecDepth 20000
set_option maxHeartbeats 8000000
set_option linter.defProp false
open Go.Proofs Go.RowKit
section
variable{R:Go.V.L4.Rd}{bs rest:List Nat}{fu held:Bool}{l t:List Go.V.L2.U}{v:Go.Value}{W w:Go.World}{B:Go.V.Heap}{C:Nat->Prop}{e r:Int}{a b i n:Nat}{L0 P:List Int}{s:ByteArray}{zs:List (Int×List Go.V.L2.U)}{φ1 φ2:Go.Value->Go.V.Heap->Prop}{H:Type}{args:List Go.Value}{y:List (Int×List Go.V.L2.U)×List Int}{κ:Go.V.Kap}{O:Go.V.Boxes}{ops:Array Go.Oper}{ty:Go.TypeId}{pos:String}{aft:Array Go.Edge}{g:Option (Nat×Bool)}{cs:List Go.V.L8.CH}{A Y:Prop}
section
open Go.V
attribute [local irreducible] Has N Par Ret RetL RetO RetT RetX Src StepOK V VO X kr
namespace Go.V.L11
open Go.V.L2 Go.V.L3 Go.V.L4 Go.V.L6 Go.V.L8 Go.V.L10
def _root_.Zd8(t:Wr Y->A:=by intro h;refine jw (zt L Z Z Z Z) Z ?_;exact h.1)(h:Y):A:=t ⟨h⟩
def _root_.ZeA(t:Wr Y->A:=by intro h;refine jw (zz L (vs:=[_,_,_,_]) (qs Z) Z Z Z Z ⟨_,rfl⟩) Z ?_;exact h.1)(h:Y):A:=t ⟨h⟩
def _root_.ZeB(t:Wr Y->A:=by intro h;refine Ej (id:=11) 8 [(56,[900])] x8 Z T ?_;exact h.1)(h:Y):A:=t ⟨h⟩
def _root_.ZdY(t:Wr Y->A:=by intro h;refine jw (z9 Z Z Z) Z ?_;exact h.1)(h:Y):A:=t ⟨h⟩
def _root_.ZeC(t:Wr Y->A:=by intro h;refine jw (Uf Z Z Z Z bt4 Z) Z ?_;exact h.1)(h:Y):A:=t ⟨h⟩
attribute [local irreducible] XP LV RetY Pan bp
def Np{sb rb:Nat}{sv:Value}{fr0:Int}{bs:List Nat}(hl0:l.length<=4096)(hb:∀ b∈bs,b<=255)(hl:bs.length<=1099511627776)(hat:R.at_<=bs.length)(he:(t9 bs l R).2.2≠0)(hB:zpk B w)(hs:BsV bs fu sv B)(hv:SetV l v B)(hr:(xr sb rb sv fr0 R).P B w C)(hC:ZCB C w B):
  Pan zpl 78 [xy sb,v] w B C (wrV (t9 bs l R).2.1 (t9 bs l R).2.2):=by
 have ha1:=ia (bs:=bs) (lim:=8192) hat;have hlv:=fun h=>a9 (bs:=bs) (lim:=8192) (R:=R) J h;have hsz:=fun(h:(wk bs 8192 R).2.err=0) {w:World} {B:Heap} {C:Nat->Prop} (hB:zpk B w) (hs:BsV bs fu sv B) (hr:(xr sb rb sv fr0 R).P B w C) (hC:ZCB C w B)=>size_ret (lim:=8192) hb hl hat I h hB hs hr hC;have hszp:=fun(h:(wk bs 8192 R).2.err≠0) {w:World} {B:Heap} {C:Nat->Prop} (hB:zpk B w) (hs:BsV bs fu sv B) (hr:(xr sb rb sv fr0 R).P B w C) (hC:ZCB C w B)=>E4 (lim:=8192) hb hl hat I h hB hs hr hC;obtain⟨f1,p1,k1,q1,rfl,hp1⟩:=hv.shape;refine fe 900 (xr sb rb sv fr0 R) Tryz.func78 Z Tryz.ntmps78 (np Z) hB hr hC ?_;unfold t9 at he |-;obtain⟨z,R1,hz1⟩:∃ z R1,wk bs 8192 R=(z,R1):=⟨_,_,rfl⟩
 rw[hz1] at he ha1 hlv hsz hszp |-;dsimp only at he ha1 hlv hsz hszp |-;by_cases h1:R1.err≠0
 ·rw[na h1];refine(Zba∘Z7∘Zf∘Z4∘Za7∘ZM∘Z7∘Zf) ?_;refine jt (id:=3) 1 rfl (Zct (h:=?_));refine jq (r:=(xr sb rb sv fr0 R).res) (K:=1) L 900 rfl Z Z Z Z (fun u H C hH hle hr hC=>hszp h1 hH (hs.le hle) hr hC) (fun _ _ _ _ h=>h) ?_
  repeat (first | refine wg ?_ | refine ji ?_)
  exact lj nq
 ·rw[nc h1] at he |-;have h10:=m5.1 h1;obtain⟨n,rfl,hn⟩:=hlv h10;rw[zl6] at he |-;obtain⟨Y,hY⟩:∃ Y,Ee bs l n none [] [] R1=Y:=⟨_,rfl⟩
  rw[hY] at he |-;obtain⟨pa,pe,hW0⟩:∃ pa pe:Int,(if Y.2.2≠0 then ((l,R),Y.2) else if l.length+Y.1.1.1.length>4096+Y.1.1.2.length then ((l,R),((R.at_:Int),(3:Int))) else ((ri l (Y.1.1.2++Y.1.1.1),Y.1.2),((0:Int),(0:Int)))).2=(pa,pe):=⟨_,_,rfl⟩
  rw[hW0] at he |-;dsimp only at he |-;have hj0:ChJ bs l n Y 0 none [] [] R1:=⟨mf _,hY,h10,ha1,⟨fun _=>rfl,fun _=>rfl⟩,rfl,(fun _ h=>by cases h),(fun _ h=>by cases h)⟩
  refine(Zba∘Z7∘Zf∘Z4∘Za7∘ZM∘Z7∘Zf∘Zu) ?_;refine q0 (y6 L 900 (xr sb rb sv R.at_ R1) (.int .i64 n) (r:=xr sb rb sv fr0 R) Z Z Z Z Z (fun u H C2 hH hle hr2 hC2=>hsz h10 hH (hs.le hle) hr2 hC2)) (Zc (h:=?_));refine vt (r1:=xk sb [xy rb,.int .i64 R.at_] N4) (r2:=(GRd rb sv R1).res) 900 901 rfl (xd _) ?_;refine(Zce∘Zi∘Zb7∘ZcD) ?_;refine j9 900 901 rfl Z (xd (GRd rb sv R1)) ?_;refine cr 5 Ly 7 rfl (cr 6 Ly 7 rfl ?_)
  refine xo (fun x:Nat×Option U×List CH×List CH×Rd×Nat=>[(0,.is (xy sb)),(3,.own (gj [f1,.pointer p1,k1,.pointer q1] tySt)),(4,.own (gj [.nilFunc,.pointer none,.nilFunc,.pointer none] tySt)),(5,.own (SlR Ly 7 x.2.2.1.length (x.2.2.1.flatMap ccs))),(6,.own (SlR Ly 7 x.2.2.2.1.length (x.2.2.2.1.flatMap ccs))),(7,.own (gj (zhq x.2.1) tyU)),(9,.is (.int .i64 R.at_)),(20,.is (.int .i64 n)),(21,.is (.int .i64 x.1)),(900,.own (xr sb rb sv x.2.2.2.2.2 x.2.2.2.2.1).res)])
   (fun x=>ChJ bs l n Y x.1 x.2.1 x.2.2.1 x.2.2.2.1 x.2.2.2.2.1) (fun x=>n-x.1) (0,none,[],[],R1,R.at_) hj0 ⟨rfl,rfl,rfl,rfl,rfl,rfl,rfl,rfl,rfl,rfl,nm⟩ ?_
  rintro⟨i,la,a,d,R',fr⟩ hj;dsimp only at hj |-;by_cases hlt:i<n
  ·have hstep:=fun(h:Y.2.2=0)=>hj.step hlt h;obtain⟨m,hm⟩:∃ m,n-i=m+1:=⟨n-i-1,by omega⟩
   have hW:=hj.hW;rw[hm] at hW;unfold Ee at hW;have htz:=Nm (bs:=bs) (R:=R');have hta:=Nn (bs:=bs) (R:=R') hj.at_;have hRa:=hj.at_;have hfst:=hj.first;have hlen:=hj.len;have hza:=hj.za;have hzd:=hj.zd;have hsrc:=fun {w:World} {B:Heap} {C:Nat->Prop} (hB:zpk B w) (hs:BsV bs fu sv B) (hr:(xr sb rb sv R'.at_ R').P B w C) (hC:ZCB C w B)=>zcc hb hl hRa hB hs hr hC;clear hstep;generalize li bs R'=zpf at hW htz hta hsrc;obtain⟨⟨t,k⟩,R2⟩:=zpf;dsimp only at hW htz hta hsrc;refine vt (r1:=xk sb [xy rb,.int .i64 fr] N4) (r2:=(GRd rb sv R').res) 900 901 rfl (xd _) ?_;by_cases h2:R2.err≠0
   ·rw[na h2] at hW;subst hW;rw[na h2] at hW0;cases hW0;refine(ZaZ∘Zx∘Z3∘Zc) ?_;refine jt (id:=8) 6 rfl (Zbe (h:=?_));refine jn 900 901 rfl Z (xd (GRd rb sv R')) ?_;refine(Za8∘ZS) ?_;refine jq (r:=(xr sb rb sv fr R').res) (K:=6) L 900 rfl Z Z Z Z (fun u H C hH hle hr hC=>Mz (x:=(t,k)) (fst:=[xy rb]) (cap:=[]) Z h2 hH hr hC (fun u3 H3 C3 hH3 hle3 hr3 hC3=>hsrc hH3 ((hs.le hle).le hle3) hr3 hC3)) (fun _ _ _ _ h=>h) ?_
    repeat (first | refine wg ?_ | refine ji ?_)
    exact lj nq
   ·rw[nc h2] at hW;have g1:=m5.1 h2;by_cases hte:tE t≠0
    ·rw[na hte] at hW;subst hW;rw[na (show(6:Int)≠0 by decide)] at hW0;cases hW0;refine(ZaZ∘Zx∘Z3∘Zc∘ZK∘Zbe) ?_;refine jn 900 901 rfl Z (xd (GRd rb sv R')) ?_;refine Za8 (h:=?_);refine q0 (y6 L 900 (xr sb rb sv R'.at_ R2) (chv t k) (r:=xr sb rb sv fr R') Z Z Z Z Z (fun u H C hH hle hr hC=>jj (x:=(t,k)) (fst:=[xy rb]) (cap:=[]) Z g1 hH hr hC (fun u3 H3 C3 hH3 hle3 hr3 hC3=>hsrc hH3 ((hs.le hle).le hle3) hr3 hC3))) (Zbu (h:=?_));refine kq 11 913 rfl fun b11=>?_;refine wd 913 rfl fun H1 hs1 _ h11=>?_;have hv1:=hv.le hs1.le;refine jt (id:=9) 5 rfl ((Za∘Zbb) ?_);refine z81 L Z (fun u H hH _=>ki htz hH) ?_;refine(Zs∘ZS) ?_;refine jq (r:=(xr sb rb sv R'.at_ R2).res) (K:=5) L 900 rfl Z Z Z Z (fun u H C hH hle hr hC=>fj hH hr hC) (fun _ _ _ _ h=>h) ?_
     repeat (first | refine wg ?_ | refine ji ?_)
     exact lj hs1
    ·rw[nc hte] at hW;have g2:=m5.1 hte
     cases la with
     | none=>
      have hi0:i=0:=hfst.1 rfl;have hbt:X4 none t=true:=rfl;rw[hbt,nc J] at hW
      cases k with
      | true=>
       by_cases hm2:decide (t∈l)≠true
       ·rw[na hm2] at hW;subst hW;rw[na (show(5:Int)≠0 by decide)] at hW0;cases hW0;have g4:decide (t∈l)=false:=by cases hq:decide (t∈l)<;>simp_all
        refine(ZaZ∘Zx∘Z3∘Zc∘ZK∘Zbe) ?_;refine jn 900 901 rfl Z (xd (GRd rb sv R')) ?_;refine Za8 (h:=?_);refine q0 (y6 L 900 (xr sb rb sv R'.at_ R2) (chv t true) (r:=xr sb rb sv fr R') Z Z Z Z Z (fun u H C hH hle hr hC=>jj (x:=(t,true)) (fst:=[xy rb]) (cap:=[]) Z g1 hH hr hC (fun u3 H3 C3 hH3 hle3 hr3 hC3=>hsrc hH3 ((hs.le hle).le hle3) hr3 hC3))) (Zbu (h:=?_));refine kq 11 913 rfl fun b11=>?_;refine wd 913 rfl fun H1 hs1 _ h11=>?_;have hv1:=hv.le hs1.le;refine(Zat∘Zbb) ?_;refine z81 L Z (fun u H hH _=>ki htz hH) ?_;refine ZC (h:=?_);refine q0 (yq L 900 (xr sb rb sv R'.at_ R2) (r:=xr sb rb sv R'.at_ R2) Z Z Z Z Z (fun u H C hH _ hr hC=>kf hH hr hC)) ((Zf∘ZbO∘ZC∘Zb6∘Zc5) ?_);refine q0 (yq L 900 (xr sb rb sv R'.at_ R2) (r:=xr sb rb sv R'.at_ R2) Z Z Z Z Z (fun u H C hH _ hr hC=>kf hH hr hC)) (Zf (h:=?_));refine ZeB (h:=?_);refine ZdY (h:=?_);refine ZeA (h:=?_);refine Zd8 (h:=?_);refine jw (zz L (vs:=[_,_,_,_,_,_]) (qk Z h11) Z Z Z Z ⟨_,rfl⟩) Z (jw (zy L Z Z (zo Z) Z Z Z (fun u H hH hle _=>jo g4 hH (hv1.le hle))) Z (Zd8 (h:=?_)));refine jw (qf L (qk Z h11) Z Z Z Z) Z (ZeC (h:=?_));refine i6 [(48,.is (xy sb)),(55,.is (.bool false)),(900,.own (xr sb rb sv R'.at_ R2).res)] T ⟨Z,Z,Z,nm⟩ (jq (r:=(xr sb rb sv R'.at_ R2).res) (K:=8) L 900 rfl Z Z Z Z (fun u H C hH hle hr hC=>fj hH hr hC) (fun _ _ _ _ h=>h) ?_)
        repeat (first | refine wg ?_ | refine ji ?_)
        exact lj hs1
       ·rw[nc hm2] at hW;have g4:=m5.1 hm2;have hj2:ChJ bs l n Y (i+1) (some t) (a) (d++[(t,true)]) R2:=⟨hlt,by rw[show n-(i+1)=m by omega];exact hW,g1,hta,⟨fun h=>by(cases h),fun h=>by(cases h)⟩,by simp only[nr,zmd];omega,hza,fun c hc=>by(rcases mi.1 hc with h3 | h3;exact hzd c h3;rw[mz] at h3;subst h3;exact htz)⟩
        refine(ZaZ∘Zx∘Z3∘Zc∘ZK∘Zbe) ?_;refine jn 900 901 rfl Z (xd (GRd rb sv R')) ?_;refine Za8 (h:=?_);refine q0 (y6 L 900 (xr sb rb sv R'.at_ R2) (chv t true) (r:=xr sb rb sv fr R') Z Z Z Z Z (fun u H C hH hle hr hC=>jj (x:=(t,true)) (fst:=[xy rb]) (cap:=[]) Z g1 hH hr hC (fun u3 H3 C3 hH3 hle3 hr3 hC3=>hsrc hH3 ((hs.le hle).le hle3) hr3 hC3))) (Zbu (h:=?_));refine kq 11 913 rfl fun b11=>?_;refine wd 913 rfl fun H1 hs1 _ h11=>?_;have hv1:=hv.le hs1.le;refine(Zat∘Zbb) ?_;refine z81 L Z (fun u H hH _=>ki htz hH) ?_;refine ZC (h:=?_);refine q0 (yq L 900 (xr sb rb sv R'.at_ R2) (r:=xr sb rb sv R'.at_ R2) Z Z Z Z Z (fun u H C hH _ hr hC=>kf hH hr hC)) ((Zf∘ZbO∘ZC∘Zb6∘Zc5) ?_);refine q0 (yq L 900 (xr sb rb sv R'.at_ R2) (r:=xr sb rb sv R'.at_ R2) Z Z Z Z Z (fun u H C hH _ hr hC=>kf hH hr hC)) ((Zf∘Zd7∘Zj∘Zcn∘Zag∘ZaJ) ?_);refine zh1 L Z (fun u H hH hle=>jo g4 hH (hv1.le hle)) ?_;refine(Zag∘Zw∘ZcM) ?_;refine xu (yq L 900 (xr sb rb sv R'.at_ R2) (r:=xr sb rb sv R'.at_ R2) Z Z Z Z Z (fun u H C hH _ hr hC=>kf hH hr hC)) Z Z ((ZU∘ZT∘Zbb∘ZaD∘Zf∘ZV∘ZaN∘ZaO∘ZE∘ZaV) ?_);refine q0 (yw (.inl Z) Z) ((Zd6∘Zap∘ZcL) ?_);refine q0 (yw (.inr Z) Z) ((ZbN∘Zad∘Zbh) ?_);exact wx (x:=(i,none,a,d,R',fr)) (i+1,some t,a,d++[(t,true)],R2,R'.at_) hs1 hj2 M ⟨Z,Z,Z,Z,pf Z,Z,Z,Z,Z,Z,nm⟩
      | false=>
       by_cases hm2:decide (t∈l)≠false
       ·rw[na hm2] at hW;subst hW;rw[na (show(5:Int)≠0 by decide)] at hW0;cases hW0;have g4:decide (t∈l)=true:=by cases hq:decide (t∈l)<;>simp_all
        refine(ZaZ∘Zx∘Z3∘Zc∘ZK∘Zbe) ?_;refine jn 900 901 rfl Z (xd (GRd rb sv R')) ?_;refine Za8 (h:=?_);refine q0 (y6 L 900 (xr sb rb sv R'.at_ R2) (chv t false) (r:=xr sb rb sv fr R') Z Z Z Z Z (fun u H C hH hle hr hC=>jj (x:=(t,false)) (fst:=[xy rb]) (cap:=[]) Z g1 hH hr hC (fun u3 H3 C3 hH3 hle3 hr3 hC3=>hsrc hH3 ((hs.le hle).le hle3) hr3 hC3))) (Zbu (h:=?_));refine kq 11 913 rfl fun b11=>?_;refine wd 913 rfl fun H1 hs1 _ h11=>?_;have hv1:=hv.le hs1.le;refine(Zat∘Zbb) ?_;refine z81 L Z (fun u H hH _=>ki htz hH) ?_;refine ZC (h:=?_);refine q0 (yq L 900 (xr sb rb sv R'.at_ R2) (r:=xr sb rb sv R'.at_ R2) Z Z Z Z Z (fun u H C hH _ hr hC=>kf hH hr hC)) ((Zf∘ZbO∘ZC∘Zb6∘Zc5) ?_);refine q0 (yq L 900 (xr sb rb sv R'.at_ R2) (r:=xr sb rb sv R'.at_ R2) Z Z Z Z Z (fun u H C hH _ hr hC=>kf hH hr hC)) (Zf (h:=?_));refine ZeB (h:=?_);refine ZdY (h:=?_);refine ZeA (h:=?_);refine Zd8 (h:=?_);refine jw (zz L (vs:=[_,_,_,_,_,_]) (qk Z h11) Z Z Z Z ⟨_,rfl⟩) Z (jw (zy L Z Z (zo Z) Z Z Z (fun u H hH hle _=>jo g4 hH (hv1.le hle))) Z (Zd8 (h:=?_)));refine jw (qf L (qk Z h11) Z Z Z Z) Z (ZeC (h:=?_));refine i6 [(48,.is (xy sb)),(55,.is (.bool false)),(900,.own (xr sb rb sv R'.at_ R2).res)] T ⟨Z,Z,Z,nm⟩ (jq (r:=(xr sb rb sv R'.at_ R2).res) (K:=8) L 900 rfl Z Z Z Z (fun u H C hH hle hr hC=>fj hH hr hC) (fun _ _ _ _ h=>h) ?_)
        repeat (first | refine wg ?_ | refine ji ?_)
        exact lj hs1
       ·rw[nc hm2] at hW;have g4:=m5.1 hm2;have hj2:ChJ bs l n Y (i+1) (some t) (a++[(t,false)]) (d) R2:=⟨hlt,by rw[show n-(i+1)=m by omega];exact hW,g1,hta,⟨fun h=>by(cases h),fun h=>by(cases h)⟩,by simp only[nr,zmd];omega,fun c hc=>by(rcases mi.1 hc with h3 | h3;exact hza c h3;rw[mz] at h3;subst h3;exact htz),hzd⟩
        refine(ZaZ∘Zx∘Z3∘Zc∘ZK∘Zbe) ?_;refine jn 900 901 rfl Z (xd (GRd rb sv R')) ?_;refine Za8 (h:=?_);refine q0 (y6 L 900 (xr sb rb sv R'.at_ R2) (chv t false) (r:=xr sb rb sv fr R') Z Z Z Z Z (fun u H C hH hle hr hC=>jj (x:=(t,false)) (fst:=[xy rb]) (cap:=[]) Z g1 hH hr hC (fun u3 H3 C3 hH3 hle3 hr3 hC3=>hsrc hH3 ((hs.le hle).le hle3) hr3 hC3))) (Zbu (h:=?_));refine kq 11 913 rfl fun b11=>?_;refine wd 913 rfl fun H1 hs1 _ h11=>?_;have hv1:=hv.le hs1.le;refine(Zat∘Zbb) ?_;refine z81 L Z (fun u H hH _=>ki htz hH) ?_;refine ZC (h:=?_);refine q0 (yq L 900 (xr sb rb sv R'.at_ R2) (r:=xr sb rb sv R'.at_ R2) Z Z Z Z Z (fun u H C hH _ hr hC=>kf hH hr hC)) ((Zf∘ZbO∘ZC∘Zb6∘Zc5) ?_);refine q0 (yq L 900 (xr sb rb sv R'.at_ R2) (r:=xr sb rb sv R'.at_ R2) Z Z Z Z Z (fun u H C hH _ hr hC=>kf hH hr hC)) ((Zf∘Zd7∘Zj∘Zcn∘Zag∘ZaJ) ?_);refine zh1 L Z (fun u H hH hle=>jo g4 hH (hv1.le hle)) ?_;refine(Zag∘Zw∘ZcM) ?_;refine xu (yq L 900 (xr sb rb sv R'.at_ R2) (r:=xr sb rb sv R'.at_ R2) Z Z Z Z Z (fun u H C hH _ hr hC=>kf hH hr hC)) Z Z ((ZU∘ZT∘Zbb∘ZaD∘Zf∘ZV∘ZaN∘ZaO∘Za9∘Zaw) ?_);refine q0 (yw (.inl Z) Z) ((Zd6∘Zap∘ZcL) ?_);refine q0 (yw (.inr Z) Z) ((ZbN∘Zad∘Zbh) ?_);exact wx (x:=(i,none,a,d,R',fr)) (i+1,some t,a++[(t,false)],d,R2,R'.at_) hs1 hj2 M ⟨Z,Z,Z,pf Z,Z,Z,Z,Z,Z,Z,nm⟩
     | some y=>
      have hi0:i≠0:=fun h=>by have:=hfst.2 h;cases this
      by_cases hbh:X4 (some y) t=false
      ·rw[na hbh] at hW;subst hW;rw[na (show(18:Int)≠0 by decide)] at hW0;cases hW0;have g3:¬ jm y t<0:=of_decide_eq_false hbh;refine(ZaZ∘Zx∘Z3∘Zc∘ZK∘Zbe) ?_;refine jn 900 901 rfl Z (xd (GRd rb sv R')) ?_;refine Za8 (h:=?_);refine q0 (y6 L 900 (xr sb rb sv R'.at_ R2) (chv t k) (r:=xr sb rb sv fr R') Z Z Z Z Z (fun u H C hH hle hr hC=>jj (x:=(t,k)) (fst:=[xy rb]) (cap:=[]) Z g1 hH hr hC (fun u3 H3 C3 hH3 hle3 hr3 hC3=>hsrc hH3 ((hs.le hle).le hle3) hr3 hC3))) (Zbu (h:=?_));refine kq 11 913 rfl fun b11=>?_;refine wd 913 rfl fun H1 hs1 _ h11=>?_;have hv1:=hv.le hs1.le;refine(Zat∘Zbb) ?_;refine z81 L Z (fun u H hH _=>ki htz hH) ?_;refine ZC (h:=?_);refine q0 (yq L 900 (xr sb rb sv R'.at_ R2) (r:=xr sb rb sv R'.at_ R2) Z Z Z Z Z (fun u H C hH _ hr hC=>kf hH hr hC)) (Zf (h:=?_));refine jt (id:=10) 10 rfl ((Zb∘Zs∘Za∘ZaI∘Zbb) ?_);refine z81 L Z (fun u H hH _=>wq (a:=y) (b:=t) hH) ?_;refine(Z0∘Zg∘ZS) ?_;refine jq (r:=(xr sb rb sv R'.at_ R2).res) (K:=10) L 900 rfl Z Z Z Z (fun u H C hH hle hr hC=>fj hH hr hC) (fun _ _ _ _ h=>h) ?_
       repeat (first | refine wg ?_ | refine ji ?_)
       exact lj hs1
      ·rw[nc hbh] at hW;have g3:jm y t<0:=by unfold X4 at hbh;exact Decidable.not_not.1 fun h=>hbh (decide_eq_false h)
       cases k with
       | true=>
        by_cases hm2:decide (t∈l)≠true
        ·rw[na hm2] at hW;subst hW;rw[na (show(5:Int)≠0 by decide)] at hW0;cases hW0;have g4:decide (t∈l)=false:=by cases hq:decide (t∈l)<;>simp_all
         refine(ZaZ∘Zx∘Z3∘Zc∘ZK∘Zbe) ?_;refine jn 900 901 rfl Z (xd (GRd rb sv R')) ?_;refine Za8 (h:=?_);refine q0 (y6 L 900 (xr sb rb sv R'.at_ R2) (chv t true) (r:=xr sb rb sv fr R') Z Z Z Z Z (fun u H C hH hle hr hC=>jj (x:=(t,true)) (fst:=[xy rb]) (cap:=[]) Z g1 hH hr hC (fun u3 H3 C3 hH3 hle3 hr3 hC3=>hsrc hH3 ((hs.le hle).le hle3) hr3 hC3))) (Zbu (h:=?_));refine kq 11 913 rfl fun b11=>?_;refine wd 913 rfl fun H1 hs1 _ h11=>?_;have hv1:=hv.le hs1.le;refine(Zat∘Zbb) ?_;refine z81 L Z (fun u H hH _=>ki htz hH) ?_;refine ZC (h:=?_);refine q0 (yq L 900 (xr sb rb sv R'.at_ R2) (r:=xr sb rb sv R'.at_ R2) Z Z Z Z Z (fun u H C hH _ hr hC=>kf hH hr hC)) ((Zf∘ZbO∘Zs∘Za∘ZaI∘Zbb) ?_);refine z81 L Z (fun u H hH _=>wq (a:=y) (b:=t) hH) ?_;refine(Zai∘Zg) ?_;refine q0 (yq L 900 (xr sb rb sv R'.at_ R2) (r:=xr sb rb sv R'.at_ R2) Z Z Z Z Z (fun u H C hH _ hr hC=>kf hH hr hC)) (Zf (h:=?_));refine ZeB (h:=?_);refine ZdY (h:=?_);refine ZeA (h:=?_);refine Zd8 (h:=?_);refine jw (zz L (vs:=[_,_,_,_,_,_]) (qk Z h11) Z Z Z Z ⟨_,rfl⟩) Z (jw (zy L Z Z (zo Z) Z Z Z (fun u H hH hle _=>jo g4 hH (hv1.le hle))) Z (Zd8 (h:=?_)));refine jw (qf L (qk Z h11) Z Z Z Z) Z (ZeC (h:=?_));refine i6 [(48,.is (xy sb)),(55,.is (.bool false)),(900,.own (xr sb rb sv R'.at_ R2).res)] T ⟨Z,Z,Z,nm⟩ (jq (r:=(xr sb rb sv R'.at_ R2).res) (K:=8) L 900 rfl Z Z Z Z (fun u H C hH hle hr hC=>fj hH hr hC) (fun _ _ _ _ h=>h) ?_)
         repeat (first | refine wg ?_ | refine ji ?_)
         exact lj hs1
        ·rw[nc hm2] at hW;have g4:=m5.1 hm2;have hj2:ChJ bs l n Y (i+1) (some t) (a) (d++[(t,true)]) R2:=⟨hlt,by rw[show n-(i+1)=m by omega];exact hW,g1,hta,⟨fun h=>by(cases h),fun h=>by(cases h)⟩,by simp only[nr,zmd];omega,hza,fun c hc=>by(rcases mi.1 hc with h3 | h3;exact hzd c h3;rw[mz] at h3;subst h3;exact htz)⟩
         refine(ZaZ∘Zx∘Z3∘Zc∘ZK∘Zbe) ?_;refine jn 900 901 rfl Z (xd (GRd rb sv R')) ?_;refine Za8 (h:=?_);refine q0 (y6 L 900 (xr sb rb sv R'.at_ R2) (chv t true) (r:=xr sb rb sv fr R') Z Z Z Z Z (fun u H C hH hle hr hC=>jj (x:=(t,true)) (fst:=[xy rb]) (cap:=[]) Z g1 hH hr hC (fun u3 H3 C3 hH3 hle3 hr3 hC3=>hsrc hH3 ((hs.le hle).le hle3) hr3 hC3))) (Zbu (h:=?_));refine kq 11 913 rfl fun b11=>?_;refine wd 913 rfl fun H1 hs1 _ h11=>?_;have hv1:=hv.le hs1.le;refine(Zat∘Zbb) ?_;refine z81 L Z (fun u H hH _=>ki htz hH) ?_;refine ZC (h:=?_);refine q0 (yq L 900 (xr sb rb sv R'.at_ R2) (r:=xr sb rb sv R'.at_ R2) Z Z Z Z Z (fun u H C hH _ hr hC=>kf hH hr hC)) ((Zf∘ZbO∘Zs∘Za∘ZaI∘Zbb) ?_);refine z81 L Z (fun u H hH _=>wq (a:=y) (b:=t) hH) ?_;refine(Zai∘Zg) ?_;refine q0 (yq L 900 (xr sb rb sv R'.at_ R2) (r:=xr sb rb sv R'.at_ R2) Z Z Z Z Z (fun u H C hH _ hr hC=>kf hH hr hC)) ((Zf∘Zd7∘Zj∘Zcn∘Zag∘ZaJ) ?_);refine zh1 L Z (fun u H hH hle=>jo g4 hH (hv1.le hle)) ?_;refine(Zag∘Zw∘ZcM) ?_;refine xu (yq L 900 (xr sb rb sv R'.at_ R2) (r:=xr sb rb sv R'.at_ R2) Z Z Z Z Z (fun u H C hH _ hr hC=>kf hH hr hC)) Z Z ((ZU∘ZT∘Zbb∘ZaD∘Zf∘ZV∘ZaN∘ZaO∘ZE∘ZaV) ?_);refine q0 (yw (.inl Z) Z) ((Zd6∘Zap∘ZcL) ?_);refine q0 (yw (.inr Z) Z) ((ZbN∘Zad∘Zbh) ?_);exact wx (x:=(i,some y,a,d,R',fr)) (i+1,some t,a,d++[(t,true)],R2,R'.at_) hs1 hj2 M ⟨Z,Z,Z,Z,pf Z,Z,Z,Z,Z,Z,nm⟩
       | false=>
        by_cases hm2:decide (t∈l)≠false
        ·rw[na hm2] at hW;subst hW;rw[na (show(5:Int)≠0 by decide)] at hW0;cases hW0;have g4:decide (t∈l)=true:=by cases hq:decide (t∈l)<;>simp_all
         refine(ZaZ∘Zx∘Z3∘Zc∘ZK∘Zbe) ?_;refine jn 900 901 rfl Z (xd (GRd rb sv R')) ?_;refine Za8 (h:=?_);refine q0 (y6 L 900 (xr sb rb sv R'.at_ R2) (chv t false) (r:=xr sb rb sv fr R') Z Z Z Z Z (fun u H C hH hle hr hC=>jj (x:=(t,false)) (fst:=[xy rb]) (cap:=[]) Z g1 hH hr hC (fun u3 H3 C3 hH3 hle3 hr3 hC3=>hsrc hH3 ((hs.le hle).le hle3) hr3 hC3))) (Zbu (h:=?_));refine kq 11 913 rfl fun b11=>?_;refine wd 913 rfl fun H1 hs1 _ h11=>?_;have hv1:=hv.le hs1.le;refine(Zat∘Zbb) ?_;refine z81 L Z (fun u H hH _=>ki htz hH) ?_;refine ZC (h:=?_);refine q0 (yq L 900 (xr sb rb sv R'.at_ R2) (r:=xr sb rb sv R'.at_ R2) Z Z Z Z Z (fun u H C hH _ hr hC=>kf hH hr hC)) ((Zf∘ZbO∘Zs∘Za∘ZaI∘Zbb) ?_);refine z81 L Z (fun u H hH _=>wq (a:=y) (b:=t) hH) ?_;refine(Zai∘Zg) ?_;refine q0 (yq L 900 (xr sb rb sv R'.at_ R2) (r:=xr sb rb sv R'.at_ R2) Z Z Z Z Z (fun u H C hH _ hr hC=>kf hH hr hC)) (Zf (h:=?_));refine ZeB (h:=?_);refine ZdY (h:=?_);refine ZeA (h:=?_);refine Zd8 (h:=?_);refine jw (zz L (vs:=[_,_,_,_,_,_]) (qk Z h11) Z Z Z Z ⟨_,rfl⟩) Z (jw (zy L Z Z (zo Z) Z Z Z (fun u H hH hle _=>jo g4 hH (hv1.le hle))) Z (Zd8 (h:=?_)));refine jw (qf L (qk Z h11) Z Z Z Z) Z (ZeC (h:=?_));refine i6 [(48,.is (xy sb)),(55,.is (.bool false)),(900,.own (xr sb rb sv R'.at_ R2).res)] T ⟨Z,Z,Z,nm⟩ (jq (r:=(xr sb rb sv R'.at_ R2).res) (K:=8) L 900 rfl Z Z Z Z (fun u H C hH hle hr hC=>fj hH hr hC) (fun _ _ _ _ h=>h) ?_)
         repeat (first | refine wg ?_ | refine ji ?_)
         exact lj hs1
        ·rw[nc hm2] at hW;have g4:=m5.1 hm2;have hj2:ChJ bs l n Y (i+1) (some t) (a++[(t,false)]) (d) R2:=⟨hlt,by rw[show n-(i+1)=m by omega];exact hW,g1,hta,⟨fun h=>by(cases h),fun h=>by(cases h)⟩,by simp only[nr,zmd];omega,fun c hc=>by(rcases mi.1 hc with h3 | h3;exact hza c h3;rw[mz] at h3;subst h3;exact htz),hzd⟩
         refine(ZaZ∘Zx∘Z3∘Zc∘ZK∘Zbe) ?_;refine jn 900 901 rfl Z (xd (GRd rb sv R')) ?_;refine Za8 (h:=?_);refine q0 (y6 L 900 (xr sb rb sv R'.at_ R2) (chv t false) (r:=xr sb rb sv fr R') Z Z Z Z Z (fun u H C hH hle hr hC=>jj (x:=(t,false)) (fst:=[xy rb]) (cap:=[]) Z g1 hH hr hC (fun u3 H3 C3 hH3 hle3 hr3 hC3=>hsrc hH3 ((hs.le hle).le hle3) hr3 hC3))) (Zbu (h:=?_));refine kq 11 913 rfl fun b11=>?_;refine wd 913 rfl fun H1 hs1 _ h11=>?_;have hv1:=hv.le hs1.le;refine(Zat∘Zbb) ?_;refine z81 L Z (fun u H hH _=>ki htz hH) ?_;refine ZC (h:=?_);refine q0 (yq L 900 (xr sb rb sv R'.at_ R2) (r:=xr sb rb sv R'.at_ R2) Z Z Z Z Z (fun u H C hH _ hr hC=>kf hH hr hC)) ((Zf∘ZbO∘Zs∘Za∘ZaI∘Zbb) ?_);refine z81 L Z (fun u H hH _=>wq (a:=y) (b:=t) hH) ?_;refine(Zai∘Zg) ?_;refine q0 (yq L 900 (xr sb rb sv R'.at_ R2) (r:=xr sb rb sv R'.at_ R2) Z Z Z Z Z (fun u H C hH _ hr hC=>kf hH hr hC)) ((Zf∘Zd7∘Zj∘Zcn∘Zag∘ZaJ) ?_);refine zh1 L Z (fun u H hH hle=>jo g4 hH (hv1.le hle)) ?_;refine(Zag∘Zw∘ZcM) ?_;refine xu (yq L 900 (xr sb rb sv R'.at_ R2) (r:=xr sb rb sv R'.at_ R2) Z Z Z Z Z (fun u H C hH _ hr hC=>kf hH hr hC)) Z Z ((ZU∘ZT∘Zbb∘ZaD∘Zf∘ZV∘ZaN∘ZaO∘Za9∘Zaw) ?_);refine q0 (yw (.inl Z) Z) ((Zd6∘Zap∘ZcL) ?_);refine q0 (yw (.inr Z) Z) ((ZbN∘Zad∘Zbh) ?_);exact wx (x:=(i,some y,a,d,R',fr)) (i+1,some t,a++[(t,false)],d,R2,R'.at_) hs1 hj2 M ⟨Z,Z,Z,pf Z,Z,Z,Z,Z,Z,Z,nm⟩
  ·obtain rfl:i=n:=by have:=hj.hi;omega
   have hW:=hj.hW;rw[zmr] at hW;have hW2:(((a,d),R'),((0:Int),(0:Int)))=Y:=hW;subst hW2;rw[nc (fun h=>h rfl)] at hW0;dsimp only at hW0;by_cases h3:l.length+a.length>4096+d.length
   ·rw[na h3] at hW0;cases hW0;have hlen:=hj.len;refine vt (r1:=xk sb [xy rb,.int .i64 fr] N4) (r2:=(GRd rb sv R').res) 900 901 rfl (xd _) ?_;refine ax 5 rfl ?_;refine G4 6 931 _ Z SlR.shape fun z6 hz6=>?_;obtain⟨p6,c6,rfl⟩:=hz6;refine(ZaZ∘ZaK∘Zbn∘Zb∘ZI) ?_;refine xf (yc L (q:=900) (cs':=[xy rb,.int .i64 R.at_]) Z Z Z Z Z) (Zf (h:=?_));refine jt (id:=18) 10 rfl ((Za∘Zbp) ?_);refine z81 L Z (fun u H hH hle=>ff (l:=l) Z hH (hv.le hle)) ?_;refine(Zo∘ZbZ∘Za∘Zcl∘Zcw∘Zcp) ?_;refine jn 900 901 rfl Z (xd (GRd rb sv R')) ?_;refine ZS (h:=?_);refine jq (r:=(xr sb rb sv R.at_ R').res) (K:=10) L 900 rfl Z Z Z Z (fun u H C hH hle hr hC=>fj hH hr hC) (fun _ _ _ _ h=>h) ?_
    repeat (first | refine wg ?_ | refine ji ?_)
    exact lj nq
   ·rw[nc h3] at hW0;cases hW0;exact ni Z he
def Xd:∀ {k:Nat} {la:Option U} {a d:List CH} {R:Rd},R.at_<=bs.length->(Ee bs l k la a d R).1.2.at_<=bs.length
 | 0,_,_,_,_,h=>h
 | k+1,la,a,d,R,h=>by
  unfold Ee;split
  ·exact h
  ·split
   ·exact h
   ·split
    ·exact h
    ·split
     ·exact h
     ·exact Xd (Nn h)
def zfl(h:R.at_<=bs.length):(t9 bs l R).1.2.at_<=bs.length:=by
 have h1:=ia (bs:=bs) (lim:=8192) h;unfold t9;split
 ·exact h
 ·split
  ·exact h
  ·split
   ·exact h
   ·exact Xd h1
def zbe(h:l.length<=4096):(t9 bs l R).1.1.length<=4096:=by
 unfold t9;split
 ·exact h
 ·split
  ·exact h
  ·split
   ·exact h
   ·exact Gy _ h
def Pp:∀ {k:Nat} {la:Option U} {a d:List CH} {R:Rd},R.err=0->(Ee bs l k la a d R).2.2=0->(Ee bs l k la a d R).1.2.err=0
 | 0,_,_,_,_,h,_=>h
 | k+1,la,a,d,R,h,he=>by
  unfold Ee at he |-;by_cases h1:(li bs R).2.err≠0
  ·rw[na h1] at he;exact ni he h1
  ·rw[nc h1] at he |-;by_cases h2:tE (li bs R).1.1≠0
   ·rw[na h2] at he;exact ni he (show(6:Int)≠0 by decide)
   ·rw[nc h2] at he |-;by_cases h3:X4 la (li bs R).1.1=false
    ·rw[na h3] at he;exact ni he (show(18:Int)≠0 by decide)
    ·rw[nc h3] at he |-;by_cases h4:decide ((li bs R).1.1∈l)≠(li bs R).1.2
     ·rw[na h4] at he;exact ni he (show(5:Int)≠0 by decide)
     ·rw[nc h4] at he |-;exact Pp (m5.1 h1) he
def zbf(he:(t9 bs l R).2.2=0):(t9 bs l R).1.2.err=0:=by
 unfold t9 at he |-;by_cases h1:(wk bs 8192 R).2.err≠0
 ·rw[na h1] at he;exact ni he h1
 ·rw[nc h1] at he |-;split at he
  ·rename_i h2;exact ni he h2
  ·rename_i h2;rw[nc h2];split at he
   ·exact ni he (show(3:Int)≠0 by decide)
   ·rename_i h3;rw[nc h3];exact Pp (m5.1 h1) (m5.1 h2)
def ldW(bs:List Nat):Nat->Nat->List U->List (Int×List U)->List Int->Rd->((List (Int×List U)×List Int)×Rd)×(Int×Int)
 | 0,_,_,zs,P,R=>(((zs,P),R),(0,0))
 | k+1,last,s,zs,P,R=>
  if (oc bs R).2.err≠0 then (((zs,P),R),(((oc bs R).2.bad:Int),(oc bs R).2.err))
  else if ¬ (0<(oc bs R).1/\(oc bs R).1<=18446744073709551615-last) then (((zs,P),R),((R.at_:Int),5))
  else if (wk bs 4096 (oc bs R).2).2.err≠0 then (((zs,P),R),(((wk bs 4096 (oc bs R).2).2.bad:Int),(wk bs 4096 (oc bs R).2).2.err))
  else if (t9 bs s (wk bs 4096 (oc bs R).2).2).2.2≠0 then (((zs,P),R),(t9 bs s (wk bs 4096 (oc bs R).2).2).2)
  else ldW bs k (last+(oc bs R).1) (t9 bs s (wk bs 4096 (oc bs R).2).2).1.1 (zs++[(((last+(oc bs R).1:Nat):Int),(t9 bs s (wk bs 4096 (oc bs R).2).2).1.1)]) (P++List.replicate (wk bs 4096 (oc bs R).2).1.toNat ((last+(oc bs R).1:Nat):Int)) (t9 bs s (wk bs 4096 (oc bs R).2).2).1.2
def ldF(bs:List Nat):(List (Int×List U)×List Int)×(Int×Int):=
 if (wk bs 1024 ⟨0,0,0⟩).2.err≠0 then (([],[]),(((wk bs 1024 ⟨0,0,0⟩).2.bad:Int),(wk bs 1024 ⟨0,0,0⟩).2.err))
 else if (wk bs 1024 ⟨0,0,0⟩).1=0 then (([],[]),(0,5))
 else if (ldW bs (wk bs 1024 ⟨0,0,0⟩).1.toNat 0 [] [] [] (wk bs 1024 ⟨0,0,0⟩).2).2.2≠0 then (([],[]),(ldW bs (wk bs 1024 ⟨0,0,0⟩).1.toNat 0 [] [] [] (wk bs 1024 ⟨0,0,0⟩).2).2)
 else if (Gn bs (ldW bs (wk bs 1024 ⟨0,0,0⟩).1.toNat 0 [] [] [] (wk bs 1024 ⟨0,0,0⟩).2).1.2).2≠0 then (([],[]),(((Gn bs (ldW bs (wk bs 1024 ⟨0,0,0⟩).1.toNat 0 [] [] [] (wk bs 1024 ⟨0,0,0⟩).2).1.2).1:Int),(Gn bs (ldW bs (wk bs 1024 ⟨0,0,0⟩).1.toNat 0 [] [] [] (wk bs 1024 ⟨0,0,0⟩).2).1.2).2))
 else ((ldW bs (wk bs 1024 ⟨0,0,0⟩).1.toNat 0 [] [] [] (wk bs 1024 ⟨0,0,0⟩).2).1.1,(0,0))
end Go.V.L11
namespace Go.V.L10
def Rp{L:List Int}(hn:0<n):kz (L++List.replicate n r)=kz (L++[r]):=dq gt (w9 _) (w9 _) fun z=>by
 rw[je,je,mi,mi,znr,mz];constructor
 ·rintro(h | h)
  ·exact .inl h
  ·exact .inr h.2
 ·rintro(h | h)
  ·exact .inl h
  ·exact .inr ⟨by omega,h⟩
def Bi{L:List Int}(hn:0<n)(h:r∉L):xg (L++List.replicate n r)=K9 (xg L) (tu cP r (kz L)) (r,(n:Int)):=by
 have key:∀ l:List Int,(∀ x∈l,x∈L)->l.map (fun x=>(x,((L++List.replicate n r).count x:Int)))=l.map fun x=>(x,(L.count x:Int)):=fun l hl=>zn5 fun x hx=>by
  have hxr:x≠r:=fun e=>h (e ▸ hl x hx);simp [zl7,List.count_replicate,hxr.symm]
 unfold xg K9;rw[Rp hn,D9 h,zl1,mq,zmk,zmz,<-zmk,<-zmz,key _ fun x hx=>je.1 (zo4 hx),key _ fun x hx=>je.1 (zo5 hx),zmk,zmz];congr 2;simp [zl7,zn6.2 h]
def Rx{t:Nat}(h:¬ r∈kz L0)(hz2:(xg L0).length<=100000){s:Value}(hB:zpk B w)(hv:PsV (xg L0) s B):
  Ret zpl 88 [pnv s t,.int .u64 r] w B (fun v _=>v=.int .i64 0):=by
 have h1:=si (r:=r) (t:=t) hz2 hB hv
 rwa [zn6.2 fun hm=>h (je.2 hm)] at h1
def Uu(hr:r≠0)(hn0:0<n)(hn:n<=4096)(hnew:r∉L0)(hz2:(xg L0).length<1024)(hz:L0.length<=1000000000000){s:Value}(hB:zpk B w)(hv:PsV (xg L0) s B):
  Ret zpl 77 [pnv s L0.length,.int .u64 r,.int .i64 n] w B (PinP (L0++List.replicate n r) 0):=by
 have hm:¬ r∈kz L0:=fun h=>hnew (je.1 h);have hws:IntKind.i64.wrap (4096-0)=4096:=J;have hwt:IntKind.i64.wrap ((L0.length:Int)+(n:Int))=((L0++List.replicate n r).length:Nat):=by rw[nr,zoa];exact(yz I I).trans I
 have hwc:IntKind.i64.wrap (0+(n:Int))=(n:Int):=(yz I I).trans I;have e1:=Bi (L:=L0) hn0 hnew;obtain⟨p,c,rfl⟩:=jg hv;have hpl:=Tn (L0:=L0) r;have hf:decide (r∈kz L0)=false:=ng hm;generalize hat:tu cP r (kz L0)=at_ at *;have e2:xg (L0++List.replicate n r)=(K9 (xg L0) at_ (r,0)).set at_ (r,(n:Int)):=by rw[O7 hpl];exact e1
 have hp:=Vm (x:=(r,(0:Int))) hpl;have hpi:=get_lt hp;have hil:=ic (x:=(r,(0:Int))) hpl;refine yf Tryz.func77 Z Tryz.ntmps77 (np Z) hB ((ZA∘Z7∘Zc∘ZF∘Zbf∘Z0∘ZaF∘Zu∘Zs∘ZaF∘Zar∘Zs∘Zp∘ZZ∘Zay∘Zb5∘Z8∘ZbJ∘Za) ?_);refine z81 L Z (fun u H hH hle=>hf ▸ hat ▸ ow (L0:=L0) (t:=L0.length) I hH (hv.le hle)) ?_;refine(Zy∘Zbk∘Za4∘ZbJ∘Za) ?_;refine z81 L Z (fun u H hH hle=>Rx (L0:=L0) (t:=L0.length) hm I hH (hv.le hle)) ?_;refine(Za6∘ZD∘Zb∘Zt∘Za∘Zac∘Zcl∘Zs∘Zg∘Zbd∘Zah∘Zac∘ZeU) ?_;refine q0 (yw (.inr Z) Z) ((Zaz∘ZO∘Za∘Zt∘ZE∘ZT) ?_);refine q0 (yw (.inl Z) Z) (Zb (h:=?_));refine z8 (yl (cs:=[_,_]) Z Z zg2 Z Z) Z (Zap (h:=?_));refine q0 (Kl L (q:=51) Z Z Z Z Z (fun u H C x hH hle hx hC v2 hv2=>D5 (y:=(r,0)) hpl I hH hv2 hx hC)) (q0 (yw (.inr Z) Z) (Zf (h:=?_)));rw[<-hil];refine sq 10 900 rfl (fun h0 _=>by omega) fun b cap rest hl hmc hcm hcl=>?_;obtain⟨tl,hld⟩:=zd4 hp rest;have hst:=Ts hp (n:Int) rest;have hbl:=Tt hpi rest;refine(ZV∘Zb∘Zd4∘ZaN) ?_;refine qz (qb L (q:=900) Z Z Z hld) ((Za∘Zv∘Zd4∘ZaN) ?_);refine xf (yc L (q:=900) Z Z hbl Z hst) (Zf (h:=?_));have hln:(xg (L0++List.replicate n r)).length=(K9 (xg L0) at_ (r,0)).length:=by rw[e2,znd]
 rw[<-e2];refine g9 (s:=2) (xs:=(xg (L0++List.replicate n r)).flatMap pnc) (rest:=rest) 10 900 rfl Z Z (by rw[lu,hln]) hmc hcm (by rw[nr,lu,hln,<-lu,<-nr];exact hcl) ?_;refine Xt 10 rfl fun x H hs _ hsw=>?_;have hsv:PsV (xg (L0++List.replicate n r)) x H:=by unfold PsV;rw[hln];exact hsw.toV
 obtain⟨p2,c2,rfl⟩:=jg hsv;refine(Zb9∘Zac∘Za∘ZeV∘Za0) ?_;refine ye L (rs:=[.cell 6 112,.tmp 7]) Z (fun _ _ h=>h) hs fun u H hH hle=>?_;exact⟨_,qs Z,rfl,_,rfl,hsv.le hle⟩
open Go.V.L2 Go.V.L8 Go.V.L6
def _root_.ZeD(t:Wr Y->A:=by intro h;refine qz (qb L (q:=902) Z Z Z Z) ?_;exact h.1)(h:Y):A:=t ⟨h⟩
attribute [local irreducible] RetY
def Vp{t:Nat}(hz2:(xg L0).length<=100000){s:Value}(hB:zpk B w)(hv:PsV (xg L0) s B):
  Ret zpl 110 [pnv s t] w B (RsV (kz L0) true):=by
 have hat:∀ (i:Nat) (x:Int),(kz L0)[i]?=some x->(xg L0)[i]?=some (x,(L0.count x:Int)):=fun i x h=>Bj h;have hlen:(xg L0).length=(kz L0).length:=ws L0;obtain⟨p,c,rfl⟩:=jg hv;refine yf Tryz.func110 Z Tryz.ntmps110 (np Z) hB ?_;by_cases h0:(kz L0).length=0
 ·have hnil:kz L0=[]:=m6 h0;rw[hnil];refine(ZA∘Zas∘Zac∘Zcl) ?_;refine z8 (Fs L (kz L0).length Z Z Z zhz Z Z (congrArg (Nat.cast (R:=Int)) hlen) (congrArg (Nat.cast (R:=Int)) hlen) I (by unfold maxLen;omega)) Z ?_;refine q0 (yw (.inr Z) Z) ((Zaz∘ZM∘Zav∘ZeS∘Zdu∘ZdA) ?_);refine zc2 3 rfl (xo (fun _:Unit=>[(3,.sat (SlV Mg 1 (zsL zpl Mg ((kz L0).length*1)) (kz L0).length true)),(13,.is (.int .i64 0)),(12,.is (.int .i64 (xg L0).length))]) (fun _=>True) (fun _=>0) () trivial ⟨Z,Z,Z,nm⟩ ?_);rintro _ _;refine(Zcc∘ZaK∘Z8∘Zk∘ZX∘Z1) ?_;refine ye1 L [.tmp 2] fun u H hH hle=>?_;intro v hv;have h1:(kz L0).length*1=0:=I;rw[h0] at hv
  have hzl:zsL zpl Mg (0*1)=[]:=by
   have:=hv.1;exact m6 (by simpa using this)
  rw[hzl] at hv;exact hv
 ·refine(ZA∘Zas∘Zac∘Zcl) ?_;refine z8 (Fs L (kz L0).length Z Z Z zhz Z Z (congrArg (Nat.cast (R:=Int)) hlen) (congrArg (Nat.cast (R:=Int)) hlen) I (by unfold maxLen;omega)) Z ?_;refine q0 (yw (.inr Z) Z) (Zaz (h:=?_));refine zfz 3 901 I Z fun b hzl=>?_;refine(ZM∘Zav∘ZeS∘Zdu∘ZdA) ?_;generalize zsL zpl Mg ((kz L0).length*1)=zs at hzl |-
  refine xo (fun s:Nat×List Value=>[(3,.is (.slice (some ⟨b,0,none⟩) (kz L0).length (kz L0).length)),(11,.sat (PsV (xg L0))),(13,.is (.int .i64 s.1)),(12,.is (.int .i64 (xg L0).length)),(901,.own (xk b s.2 Mg))])
   (fun s=>s.1<=(kz L0).length/\s.2.length=(kz L0).length/\s.2.take s.1=((kz L0).take s.1).map (Value.int .u64)) (fun s=>(kz L0).length-s.1) (0,zs) ⟨Nat.zero_le _,by dsimp only;omega,rfl⟩ ⟨rfl,rfl,rfl,rfl,rfl,trivial⟩ ?_
  rintro⟨i,cs⟩ ⟨hi,hcs,htk⟩;dsimp only at hi hcs htk |-;by_cases hlt:i<(kz L0).length
  ·obtain⟨x,hx⟩:=xw hlt;have hc:=Qu (hat i x hx);have hle1:0+i*1+1<=cs.length:=by rw[hcs];omega
   have hwi:IntKind.i64.wrap ((i:Int)+1)=((i+1:Nat):Int):=yz I I;refine(Zcc∘Zx∘Z2∘Zab∘Zds∘Z7∘Zp∘Zau∘Zb7) ?_;refine zgd 5 rfl ((Zac∘Zd4) ?_);refine xf (yc L (q:=901) Z Z (zn3 hle1) Z Z) ((ZbN∘ZP∘Zv∘Zct) ?_)
   exact ym (x:=(i,cs)) (i+1,cs.take (0+i*1)++([.int .u64 x]++cs.drop (0+i*1+1))) ⟨hlt,by dsimp only;rw[List.length_append,List.length_append,List.length_take,List.length_drop];simp only[List.length_cons,List.length_nil];omega,by
    dsimp only;rw[v8 hx,zl1,<-htk,zlf,zmi,zne,List.take_take,Nat.min_eq_right I,mw,zmg I,show i+1-i=1 by omega];rfl⟩ M ⟨rfl,rfl,rfl,rfl,rfl,nm⟩
  ·obtain rfl:i=(kz L0).length:=by omega
   have hcs2:cs=(kz L0).map (Value.int .u64):=by
    rw[zle I,zlm] at htk;exact htk
   subst hcs2;refine(Zcc∘ZaK) ?_;refine zc1 (s:=1) 3 901 rfl Z (by simp) (by unfold maxLen;omega) ?_;refine zc2 3 rfl ((Z8∘Zk∘ZX∘Z1) ?_);refine ye1 L [.tmp 2] fun u H hH hle=>?_;exact fun v hv=>hv
def Dn{zs:List (Int×SB)}{S:Sto}{fr fb:Bool}(he:mkE (zs.map (·.1)) L0=e)(hS:e=0->MapOK (zsE zs) S.R/\(S.R.length:Int)=dx (zs.map (·.1)) zs.length/\S.P=L0)(hz:(xg L0).length<=100000)(hzb:L0.length<=1000000000000)(hZ:zs.length<=100000)
  {v1 v2 s:Value}   (hB:zpk B w) (h1:RsV (zs.map (·.1)) fr v1 B) (h2:SsV (zs.map (·.2)) fb v2 B) (hb:SbOK (zs.map (·.2)) B) (hv:PsV (xg L0) s B):
  RetO zpl 41 [v1,v2,pnv s L0.length] w B (MkR e S):=by
 obtain⟨ps,pc,rfl⟩:=jg hv;obtain⟨rs,hrs⟩:∃ rs,rs=zs.map (·.1):=⟨_,rfl⟩
 obtain⟨bs,hbs⟩:∃ bs,bs=zs.map (·.2):=⟨_,rfl⟩
 have lr:rs.length=zs.length:=by rw[hrs,mn]
 have lb:bs.length=zs.length:=by rw[hbs,mn]
 rw[<-hrs] at he hS h1;rw[<-hbs] at h2 hb;unfold mkE at he;refine vz Tryz.func41 Z Tryz.ntmps41 (np Z) hB (ju 0 (RsV rs fr) Z ma h1 (ju 1 (SsV bs fb) Z ma h2 ?_));by_cases h0:rs.length=0
 ·rw[na h0] at he;refine(ZA∘Za7∘ZF∘Z4∘Zo∘ZC∘Zb6∘Zc5∘Zd∘ZbE∘Ze∘ZM∘ZB) ?_;exact G2 L (rs:=[.tmp 6,.tmp 7]) Z (fun _ _ h=>h) nq (fun _=>rfl) (fun H u _=>.inr ⟨by omega,by rw[<-he];rfl,fun _ h=>h⟩)
 ·rw[nc h0] at he;by_cases hk:1024<rs.length
  ·rw[na hk] at he;refine(ZA∘Za7∘ZF∘Z4∘Zo∘Zs∘Za∘Zo∘Zo∘ZG∘Zg∘ZaF∘ZR∘Zo∘ZN∘Zd∘ZbE∘Zbx∘ZB) ?_;exact G2 L (rs:=[.tmp 6,.tmp 7]) Z (fun _ _ h=>h) nq (fun _=>rfl) (fun H u _=>.inr ⟨by omega,by rw[<-he];rfl,fun _ h=>h⟩)
  ·rw[nc hk] at he;refine(ZA∘Za7∘ZF∘Z4∘Zo∘Zs∘Za∘Zo∘Zo∘ZG∘Zg∘ZaF∘ZR∘Zo∘ZD∘Zp∘ZZ∘Zay∘Zb5) ?_;refine qh (id:=5) [(34,[32]),(35,[34]),(8,[35])] x8 T (Ze2 (h:=?_));refine zh (M6 .u64 vcE Z mpS Z Z) Z (ZcG (h:=?_));refine xu (Q9 (q:=32) (fun k=>[(0,.int .u64 0),(1,.map (some k)),(2,.agg #[.slice ps (xg L0).length pc,.int .i64 L0.length])]) (fun k=>stc 0 k (.slice ps (xg L0).length pc) L0.length) Z Z Z Z zd5 (fun _=>rfl) (fun _=>rfl)) Z Z (xu (zaj Z Z Z Z) Z Z (xu (yw (.inr Z) Z) Z Z ((ZU∘Ze) ?_)));refine P1 8 902 rfl fun x=>?_;obtain⟨b2,m2⟩:=x;rw[w5];refine vt 902 903 rfl (xd _) ?_;refine(ZP∘Zcb) ?_;have lz:(zsE zs).length=rs.length:=by unfold zsE;rw[List.length_map,lr]
   refine xo (fun y:Nat=>[(1,.sat (SsV bs fb)),(5,.sat (At [.slice ps (xg L0).length pc,.int .i64 L0.length] 112 0)),(8,.is (ct b2)),(36,.sat (RsV rs fr)),(37,.is (.int .i64 rs.length)),(38,.is (.int .i64 y)),(902,.own (xk b2 [.int .u64 (dx rs y),.map (some m2),.slice ps (xg L0).length pc,.int .i64 L0.length] tyS)),(903,.own (Ek m2 .u64 vcE ((zsE zs).take y)))])
    (fun y=>y<=rs.length/\Xx (rs.take y)/\∀ a∈0::rs.take y,a<=dx rs y) (fun y=>rs.length-y) 0 ⟨mf _,zmc _ _,fun a ha=>by rw[zl2,mz] at ha;subst ha;exact zmm _⟩ ⟨rfl,rfl,rfl,rfl,rfl,rfl,rfl,rfl,nm⟩ ?_
   rintro i ⟨hi,hA,hmx⟩;dsimp only at hi hA hmx |-;by_cases hlt:i<rs.length
   ·obtain⟨z,hzi⟩:=xw (show i<zs.length by omega);obtain⟨x,c0⟩:=z;have hx:rs[i]?=some x:=by rw[hrs,zlx,hzi];rfl
    have hbi:bs[i]?=some c0:=by rw[hbs,zlx,hzi];rfl
    have hei:(zsE zs)[i]?=some (x,(c0.1,sbv c0)):=by unfold zsE;rw[List.getElem?_map,hzi];rfl
    obtain⟨t0,f1,p1,f2,p2⟩:=c0;have hc:=Qr hx;have hcb:=zi9 hbi;have hwk:IntKind.i64.wrap ((i:Int)+1)=((i+1:Nat):Int):=yz I I;by_cases hle:x<=dx rs i
    ·have hnA:¬ Xx rs:=fun h=>by have:=zbr h hx;omega
     rw[nc hnA] at he;refine(Ze∘Z8∘Zx∘Za4∘Zab∘ZcN∘Zbk∘ZQ∘Zb∘ZI∘ZeD∘Zcv∘Zr∘Zah∘ZB) ?_;exact G2 L (rs:=[.tmp 6,.tmp 7]) Z (fun _ _ h=>h) nq (fun _=>rfl) (fun H u _=>.inr ⟨by omega,by rw[<-he];rfl,fun _ h=>h⟩)
    ·have hsn:=zbq hA hmx hx I
     have hnk:x∉((zsE zs).take i).map Prod.fst:=fun hm2=>by
      have h3:((zsE zs).take i).map Prod.fst=rs.take i:=by rw[List.map_take];unfold zsE;rw[List.map_map,hrs];rfl
      rw[h3] at hm2;have:=hmx x (mc _ hm2);omega
     have hput:=zar (y:=(t0,sbv (t0,f1,p1,f2,p2))) hnk;rw[<-v8 hei] at hput;have hls:=cd hx;refine(Ze∘Z8∘Zx∘Za4∘Zab∘ZcN∘Zbk∘ZQ∘Zb∘ZI∘ZeD∘Zcp∘Zl∘ZO∘Zb∘ZI) ?_;refine xf (yc L (q:=902) (cs':=[.int .u64 x,.map (some m2),.slice ps (xg L0).length pc,.int .i64 L0.length]) Z Z Z Z Z) (Z1 (h:=?_));refine qh (id:=12) [(200056,[902]),(100056,[903])] x8 T (ZaG (h:=?_));refine qq (qb L (q:=902) Z Z Z Z) Z Z ((Zj∘Zak∘Zj∘ZbS) ?_);refine zh (yv L (vs:=[_,_,_,_]) Z Z Z Z Z ⟨_,rfl⟩) Z (xl (Q4 (q:=903) (vc:=vcE) x (t0,sbv (t0,f1,p1,f2,p2)) mpS kyS Z Z Z Z Z Z hput) Z ((ZbI∘ZaB∘ZV∘Zv∘Zct) ?_));exact ym (x:=i) (i+1) ⟨hlt,hsn.1,hsn.2⟩ I ⟨Z,Z,Z,Z,Z,Z,by rw[hls];rfl,Z,nm⟩
   ·obtain rfl:i=rs.length:=by omega
    rw[zlm] at hA hmx;rw[na hA] at he;rw[show(zsE zs).take rs.length=zsE zs by rw[<-lz,zlm]];have hfs:(zsE zs).map Prod.fst=rs:=by unfold zsE;rw[List.map_map,hrs];rfl
    have hhl:=dk L0;refine(Ze∘Z8∘ZaK∘Ze∘ZaV∘ZbJ) ?_;refine z8 (xi (φ:=RsV (kz L0) true) L Z Z (zo Z) Z Z Z ma (fun u H2 hH hle _=>Vp hz hH (hv.le hle))) Z ((Zdu∘ZdA) ?_)
    refine xo (fun y:Nat=>[(8,.is (ct b2)),(64,.sat (RsV (kz L0) true)),(65,.is (.int .i64 (kz L0).length)),(66,.is (.int .i64 y)),(902,.own (xk b2 [.int .u64 (dx rs rs.length),.map (some m2),.slice ps (xg L0).length pc,.int .i64 L0.length] tyS)),(903,.own (Ek m2 .u64 vcE (zsE zs)))])
     (fun y=>y<=(kz L0).length/\∀ h∈(kz L0).take y,h∈rs) (fun y=>(kz L0).length-y) 0 ⟨mf _,fun h hh=>by rw[zl2] at hh;cases hh⟩ ⟨rfl,rfl,rfl,rfl,rfl,rfl,nm⟩ ?_
    rintro j ⟨hj,hin⟩;dsimp only at hj hin |-;by_cases hlt2:j<(kz L0).length
    ·obtain⟨h,hh⟩:=xw hlt2;have hc:=Qr hh;have hwk:IntKind.i64.wrap ((j:Int)+1)=((j+1:Nat):Int):=yz I I
     cases hgk:ul h (zsE zs) with
     | none=>
      have hni:h∉rs:=fun hm2=>by rw[<-hfs,<-fy,hgk] at hm2;cases hm2
      rw[nc (fun hall=>hni (hall h (zlg hh)))] at he;have q1:(ul h (zsE zs)).elim nilSet vcE=nilSet:=by rw[hgk];rfl
      have q2:(ul h (zsE zs)).isSome=false:=by rw[hgk];rfl
      refine(Ze∘Zaw∘Zx∘Zad∘Zab∘ZcN∘Zc∘Zbn∘Za∘ZI∘ZeD∘Za) ?_;refine qz (uo (q:=903) (vc:=vcE) h mpS kyS zrS Z Z Z Z Z q1 q2) ((Zbv∘Zc∘Zbg∘Za∘Zt∘Zr∘Zcj∘ZB) ?_);exact G2 L (rs:=[.tmp 6,.tmp 7]) Z (fun _ _ h=>h) nq (fun _=>rfl) (fun H u _=>.inr ⟨by omega,by rw[<-he];rfl,fun _ h=>h⟩)
     | some y=>
      have hir:h∈rs:=by rw[<-hfs,<-fy,hgk];rfl
      obtain⟨z,hz1,hz2⟩:=zlb.1 (di hgk);obtain⟨k0,t0,f1,p1,f2,p2⟩:=z;cases hz2;have q1:(ul k0 (zsE zs)).elim nilSet vcE=.agg #[f1,.pointer p1,f2,.pointer p2]:=by rw[hgk];rfl
      have q2:(ul k0 (zsE zs)).isSome=true:=by rw[hgk];rfl
      have hpl:=(hb.mem_plain (t0,f1,p1,f2,p2) (by rw[hbs];exact zm5 (f:=(·.2)) hz1))
      refine(Ze∘Zaw∘Zx∘Zad∘Zab∘ZcN∘Zc∘Zbn∘Za∘ZI∘ZeD∘Za) ?_;refine qz (uo (q:=903) (vc:=vcE) k0 mpS kyS zrS Z Z Z Z Z q1 q2) ((Zy∘Z7∘ZbX∘Zc∘Zbg∘Za∘Zt∘Zca∘ZaP∘Zv∘Zct) ?_)
      exact ym (x:=j) (j+1) ⟨hlt2,fun a ha=>by
       rw[v8 hh,mi,mz] at ha;rcases ha with ha | rfl
       ·exact hin a ha
       ·exact hir⟩ I ⟨Z,Z,Z,Z,Z,Z,nm⟩
    ·obtain rfl:j=(kz L0).length:=by omega
     rw[zlm] at hin;rw[na hin] at he;obtain⟨hm,hl,hP⟩:=hS he.symm;subst hP;refine(Ze∘Zaw∘ZaK∘ZbD∘Za∘ZB) ?_;subst he;rw[show dx rs rs.length=(S.R.length:Int) by rw[hl,lr]];refine j9 902 903 rfl Z (xd _) ?_
     refine pg 902 (StG b2 S).res Z (bj (B:=B) (s:=.slice ps (xg S.P).length pc) (m:=m2) hm (fun e he=>by
      obtain⟨z,hz1,rfl⟩:=zlb.1 he;exact hb z.2 (by rw[hbs];exact zm5 (f:=(·.2)) hz1)) hv) ?_
     exact Nu L 902 (r0:=StG b2 S) (rs:=[.tmp 6,.tmp 7]) Z (fun _ _ h=>h) nq Z (fun _=>rfl) (fun H u C _ _ h=>.inl ⟨rfl,b2,rfl,h⟩)
end Go.V.L10
namespace Go.V.L11
open Go.V.L2 Go.V.L3 Go.V.L4 Go.V.L6 Go.V.L8 Go.V.L10
abbrev zgg:TypeId:=112
abbrev Sl3:=Option Addr×Nat×Nat
abbrev sl3(x:Sl3):Value:=.slice x.1 x.2.1 x.2.2
abbrev pnC(P:List Int)(x:Sl3):List Value:=[sl3 x,.int .i64 P.length]
abbrev pnQ(P:List Int)(x:Sl3)(H:Heap):Prop:=PsV (xg P) (sl3 x) H
def Fe(P:List Int):eg (pnQ P):=fun _ _ _ h hle=>h.le hle
abbrev PnS(P:List Int):Value->Heap->Prop:=fun v H=>∃ x:Sl3,v=.agg #[sl3 x,.int .i64 P.length]/\pnQ P x H
def PnS.mono:Kn.mono (.sat (PnS P)):=fun _ _ _ ⟨x,h1,h2⟩ hle=>⟨x,h1,h2.le hle⟩
def zg0(v:Value)(H:Heap)(h:PnS P v H):∃ x:Sl3,pnQ P x H/\jb v=pnC P x:=by
 obtain⟨x,rfl,h2⟩:=h;exact⟨x,h2,rfl⟩
abbrev PnE(P:List Int):Value->Heap->Prop:=TupS [PnS P,fun v _=>v=.int .i64 0]
def PnE.mono{P:List Int}:Kn.mono (.sat (PnE P)):=TupS.mono fun φ hφ=>by
 simp only[nw,zmw,or_false] at hφ;rcases hφ with rfl | rfl
 ·exact PnS.mono
 ·exact fun _ _ _ h _=>h
def zgo{a b:Value}{H:Heap}(h1:φ1 a H)(h2:φ2 b H):TupS [φ1,φ2] (.tuple #[a,b]) H:=⟨[a,b],rfl,rfl,fun i φ x hi hx=>by
 match i with
 | 0=>cases hi;cases hx;exact h1
 | 1=>cases hi;cases hx;exact h2
 | i+2=>cases hi⟩
attribute [local irreducible] XP LV RetY Pan bp
def Ut(hr:r≠0)(hn:n<=4096)(hnew:r∉L0)(hz2:(xg L0).length<1024)(hz:L0.length<=1000000000000){x:Sl3}(hB:zpk B w)(hv:pnQ L0 x B):
  Ret zpl 77 [.agg #[sl3 x,.int .i64 L0.length],.int .u64 r,.int .i64 n] w B (PnE (L0++List.replicate n r)):=by
 by_cases h0:n=0
 ·subst h0;have h:=Uv (t:=(L0.length:Int)) hr (p:=x.1) (k:=x.2.1) (c:=x.2.2) hB;refine h.mono fun v H hle e=>?_;subst e;rw[show L0++List.replicate 0 r=L0 from mo _];exact zgo ⟨x,rfl,hv.le hle⟩ Z
 ·have h:=Uu hr (Nat.pos_of_ne_zero h0) hn hnew hz2 hz hB hv;refine h.mono fun v H hle hp=>?_;obtain⟨s,rfl,hs⟩:=hp;obtain⟨p,c,rfl⟩:=jg hs;exact zgo ⟨(p,_,c),rfl,hs⟩ Z
end Go.V.L11
end
namespace Go.V.L11
open Go.V.L2 Go.V.L3 Go.V.L4 Go.V.L6 Go.V.L8 Go.V.L10
structure LdZ(zs:List (Int×List U))(P:List Int)(last:Int):Prop where
 asc:Xx (zs.map (·.1))
 mx:∀ a∈0::zs.map (·.1),a<=last
 lst:dx (zs.map (·.1)) zs.length=last
 pk:∀ r∈P,r∈zs.map (·.1)
 tl:∀ z∈zs,z.2.length<=4096
def LdZ.snoc{last x:Int}(h:LdZ zs P last)(hx:last<x){s:List U}(hs:s.length<=4096)(n:Nat):LdZ (zs++[(x,s)]) (P++List.replicate n x) x:=by
 have hm:(zs++[(x,s)]).map (·.1)=zs.map (·.1)++[x]:=by rw[zl1];rfl
 refine⟨?_,?_,?_,?_,?_⟩
 ·rw[hm];unfold Xx;rw[<-zll,zlt];refine⟨h.asc,zmc _ _,fun a ha b hb=>?_⟩;rw[mz.1 hb];have:=h.mx a ha;omega
 ·intro a ha;rw[hm,<-zll,mi,mz] at ha;rcases ha with ha | rfl
  ·have:=h.mx a ha;omega
  ·omega
 ·rw[hm,nr,zmd];exact cd (by rw[zoq (by rw[mn];omega),mn,zmr];rfl)
 ·intro r hr;rw[hm,mi];rcases mi.1 hr with h1 | h1
  ·exact .inl (h.pk r h1)
  ·exact .inr (by rw[znr] at h1;rw[h1.2];exact mz.2 Z)
 ·intro z hz;rcases mi.1 hz with h1 | h1
  ·exact h.tl z h1
  ·rw[mz.1 h1];exact hs
def loR(zs:List (Int×List U)):List (Option (List U)):=(List.range (dx (zs.map (·.1)) zs.length).toNat).map fun i=>ul ((i+1:Nat):Int) zs
abbrev loS(y:List (Int×List U)×List Int):Sto:=⟨loR y.1,y.2⟩
def LdZ.kpt{zs:List (Int×List U)}{P:List Int}{last:Int}(h:LdZ zs P last)(r:Int):kpt (loR zs) r=ul r zs:=by
 by_cases hr:0<r/\r<=last
 ·obtain⟨j,rfl⟩:∃ j:Nat,r=((j+1:Nat):Int):=⟨(r-1).toNat,by omega⟩
  rw[ib];unfold loR;rw[h.lst,zlx,List.getElem?_range I];show(some (ul ((j+1:Nat):Int) zs)).join=_;cases ul ((j+1:Nat):Int) zs<;>rfl
 ·have h1:ul r zs=none:=by
   cases hg:ul r zs with
   | none=>rfl
   | some t=>
    have hm:=fy.1 (show(ul r zs).isSome=true by rw[hg];rfl);exact ni ⟨(mg.1 h.asc).1 r hm,h.mx r (mc _ hm)⟩ hr
  rw[h1]
  cases hk:L10.kpt (loR zs) r with
  | none=>rfl
  | some t=>
   have h2:=ol (R:=loR zs) (r:=r) (by rw[hk];rfl);unfold loR at h2;rw[mn,List.length_range,h.lst] at h2;omega
def LdZ.len{last:Nat}(h:LdZ zs P last):(loR zs).length=last:=by
 unfold loR;rw[mn,List.length_range,h.lst,zl6]
def LdZ.mkE{zs:List (Int×List U)}{P:List Int}{last:Int}(h:LdZ zs P last)(h0:0<zs.length)(h1:zs.length<=1024):mkE (zs.map (·.1)) P=0:=by
 unfold L10.mkE;rw[mn,nc I,nc I,na h.asc,na fun r hr=>h.pk r (je.1 hr)]
def Oy{r:Int}:∀ {zs:List (Int×List U)} {bs:List SB},bs.map Prod.fst=zs.map Prod.snd->(ul r (zsE ((zs.map (·.1)).zip bs))).map Prod.fst=ul r zs
 | [],bs,h=>by rw[zlo,List.zip_nil_left];rfl
 | z::zs,[],h=>by cases h
 | z::zs,b::bs,h=>by
  rw[mq,mq] at h;obtain⟨h1,h2⟩:=List.cons.inj h;rw[mq,List.zip_cons_cons];unfold zsE;rw[mq,uc,uc];by_cases e:r=z.1
  ·rw[na e,na e,<-h1];rfl
  ·rw[nc e,nc e];exact Oy h2
def El:∀ {zs:List (Int×List U)} {bs:List SB},bs.map Prod.fst=zs.map Prod.snd->((zs.map (·.1)).zip bs).map (·.1)=zs.map (·.1)/\((zs.map (·.1)).zip bs).map (·.2)=bs/\((zs.map (·.1)).zip bs).length=zs.length
 | [],[],_=>⟨rfl,rfl,rfl⟩
 | [],b::bs,h=>by cases h
 | z::zs,[],h=>by cases h
 | z::zs,b::bs,h=>by
  rw[mq,mq] at h;obtain⟨_,h2⟩:=List.cons.inj h;have ih:=El h2;rw[mq,List.zip_cons_cons,mq,mq,nz,ih.1,ih.2.1,ih.2.2];exact⟨rfl,rfl,rfl⟩
def LdZ.mapOK{last:Int}(h:LdZ zs P last){bs:List SB}(hb:bs.map Prod.fst=zs.map Prod.snd):MapOK (zsE ((zs.map (·.1)).zip bs)) (loR zs):=
 ⟨by
  have h1:(zsE ((zs.map (·.1)).zip bs)).map Prod.fst=zs.map (·.1):=by unfold zsE;rw[List.map_map];exact(El hb).1
  rw[h1];exact(mg.1 h.asc).2.imp fun hlt e=>by omega,fun r=>by rw[Oy hb,h.kpt]⟩
structure LdJ(bs:List Nat)(N:Nat)(Y:((List (Int×List U)×List Int)×Rd)×(Int×Int))(i last:Nat)(s:List U)(zs:List (Int×List U))(P:List Int)(R:Rd):Prop where
 hi:i<=N
 hW:ldW bs (N-i) last s zs P R=Y
 h0:R.err=0
 at_:R.at_<=bs.length
 zl:zs.length=i
 sl:s.length<=4096
 lastB:last<=18446744073709551615
 pn:∀ r∈P,r<=(last:Int)
 pl:P.length<=i*4096
 ph:(xg P).length<=i
 z:LdZ zs P (last:Int)
def LdJ.new{N:Nat}{Y:((List (Int×List U)×List Int)×Rd)×(Int×Int)}{last:Nat}{s:List U}(h:LdJ bs N Y i last s zs P R){st:Nat}(hs:0<st):((last+st:Nat):Int)∉P:=fun hm=>by
 have:=h.pn _ hm;omega
def LdJ.next{N:Nat}{Y:((List (Int×List U)×List Int)×Rd)×(Int×Int)}{last:Nat}{s:List U}(h:LdJ bs N Y i last s zs P R)(hi:i<N){st m:Nat}(g2:0<st/\st<=18446744073709551615-last)(hn:n<=4096){s':List U}{R4:Rd}(hs':s'.length<=4096)(h4:R4.err=0)(a4:R4.at_<=bs.length)
  (hm:N-i=m+1) (hW:ldW bs m (last+st) s' (zs++[(((last+st:Nat):Int),s')]) (P++List.replicate n ((last+st:Nat):Int)) R4=Y):
  LdJ bs N Y (i+1) (last+st) s' (zs++[(((last+st:Nat):Int),s')]) (P++List.replicate n ((last+st:Nat):Int)) R4:=by
 have hb:=h.lastB;have hnew:=h.new g2.1;refine⟨hi,by rw[show N-(i+1)=m by omega];exact hW,h4,a4,by rw[nr,h.zl];rfl,hs',by omega,fun r hr=>?_,?_,?_,h.z.snoc I hs' n⟩
 ·rcases mi.1 hr with h1 | h1
  ·have:=h.pn r h1;omega
  ·rw[znr] at h1;rw[h1.2];exact zmm _
 ·have:=h.pl;rw[nr,zoa];omega
 ·have hph:=h.ph;by_cases h0:n=0
  ·subst h0;rw[show P++List.replicate 0 ((last+st:Nat):Int)=P from mo _];omega
  ·rw[Bi (Nat.pos_of_ne_zero h0) hnew,ic (Tn _)];omega
abbrev sbQ(zs:List (Int×List U))(x:List SB)(H:Heap):Prop:=x.map Prod.fst=zs.map Prod.snd/\SbOK x H
def E9(zs:List (Int×List U)):eg (sbQ zs):=fun _ _ _ h hle=>⟨h.1,h.2.le hle⟩
def Y8{x:List SB}{H:Heap}{s:List U}{f1 k1:Value}{p1 q1:Option Addr}(h:sbQ zs x H)(hs:SetV s (.agg #[f1,.pointer p1,k1,.pointer q1]) H):sbQ (zs++[(r,s)]) (x++[(s,(f1,p1,k1,q1))]) H:=by
 refine⟨by rw[zl1,zl1,h.1];rfl,fun b hb=>?_⟩;rcases mi.1 hb with h1 | h1
 ·exact h.2 b h1
 ·rw[mz] at h1;subst h1;exact hs
def _root_.ZeE(t:Wr Y->A:=by intro h;refine qz (qb L (q:=921) Z Z Z Z) ?_;exact h.1)(h:Y):A:=t ⟨h⟩
def LdR(y:(List (Int×List U)×List Int)×(Int×Int)):Res where
 P v H u C:=(y.2.2=0/\∃ b,v=.tuple #[ct b,.int .i64 0,.int .i64 0]/\(StG b (loS y.1)).P H u C)\/(y.2.2≠0/\v=.tuple #[.pointer none,.int .i64 y.2.1,.int .i64 y.2.2]/\∀ k,¬ C k)
 st:=fun h a b c d=>h.imp (fun⟨h1,x,h2,h3⟩=>⟨h1,x,h2,(StG x (loS y.1)).st h3 a b c d⟩) id
def zhn{f:FuncId}{y:(List (Int×List U)×List Int)×(Int×Int)}(he:y.2.2=0)(h:RetO zpl f args w B (LdR y)):RetO zpl f args w B (Da (fun b=>.tuple #[ct b,.int .i64 0,.int .i64 0]) fun b=>StG b (loS y.1)):=
 RetL.mono h fun _ _ _ _ ⟨C,h1,h2⟩=>⟨C,h1.elim (fun⟨_,b,hb,hs⟩=>⟨b,hb,hs⟩) fun h=>ni he h.1,h2⟩
def Va{f:FuncId}{y:(List (Int×List U)×List Int)×(Int×Int)}(he:y.2.2≠0)(h:RetO zpl f args w B (LdR y)):Ret zpl f args w B fun v _=>v=.tuple #[.pointer none,.int .i64 y.2.1,.int .i64 y.2.2]:=
 RetL.mono h fun _ _ _ _ ⟨_,h1,_⟩=>h1.elim (fun h=>ni h.1 he) fun h=>h.2.1
def zdd{t:Nat}{s:List U}(h:κ t=some (.own (SlR Mg 1 ((zs.map (·.1)).length+1) ((zs.map (·.1)).map (Value.int .u64)++[.int .u64 r])))):κ t=some (.own (SlR Mg 1 ((zs++[(r,s)]).map (·.1)).length (((zs++[(r,s)]).map (·.1)).map (Value.int .u64)))):=by
 rw[h,zl1,zl1,nr];rfl
def zdw{t:Nat}{y:List SB}{s:List U}{f1 k1:Value}{p1 q1:Option Addr}(h:κ t=some (.own (SlR tySt 4 (y.length+1) (y.flatMap sbc++[f1,.pointer p1,k1,.pointer q1])))):κ t=some (.own ((fun y:List SB=>SlR tySt 4 y.length (y.flatMap sbc)) (y++[(s,(f1,p1,k1,q1))]))):=by
 rw[h];dsimp only;rw[zlz,nr];rfl
attribute [local irreducible] V N X VO Par XP LV StepOK Has Ret RetL RetO RetT kr RetX RetY Pan bp Src
def fz{B0:Heap}{ba be bs:Nat}{x y z:Value}{a:Int}{z0:List (Int×List U)×List Int}(he:e≠0)(hs:Since (FLd w ba be bs) B0 B):
  XP (FLd w ba be bs) B n O (ofL (KLd ba be bs x y z)) (wrV a e) (bodyPostM Fence.wide 0 zpl Tryz.f26 (pj w B0 noL (zf1 w (LdR (z0,(a,e)))))):=
 U3 he hs fun _ _ ⟨v,h1,H,h2,h3⟩=>⟨v,h1,H,h2,fun _=>False,.inr ⟨he,h3,fun _ h=>h⟩,fun _ h=>h.elim⟩
def Fz{bs:List Nat}(hb:∀ b∈bs,b<=255)(hz:bs.length<=1099511627776)(hB:zpk B w)(hv:BsV bs fu v B):
  RetO zpl 26 [v] w B (LdR (ldF bs)):=by
 obtain⟨p0,c0,rfl⟩:=jg hv;obtain⟨Y0,hY0⟩:∃ Y0,ldF bs=Y0:=⟨_,rfl⟩
 rw[hY0];refine vz Tryz.func26 Z Tryz.ntmps26 (np Z) hB ((Zaj∘Z7∘Z7∘Zf) ?_);refine kq 2 910 rfl fun bs0=>?_;refine kq 3 911 rfl fun ba=>?_;refine kq 4 912 rfl fun be=>?_;refine Xr (id:=1) 1 rfl ((Za8∘ZS) ?_);(refine zes (K:=1) Z Z Z Z ?_;refine zm ?_);refine Zb5 (h:=?_);refine Zq (h:=?_);refine z8 (u5 L Z Z (zo Z) Z Z Z (fun u H hH hle _=>zhc hz hH (hv.le hle))) Z ?_;refine im 15 922 rfl fun rb=>?_;refine zda (X:=Value) 922 (r:=fun sv=>(GRd rb sv ⟨0,0,0⟩).res) (φ:=fun sv H=>BsV bs false sv H) (hφ:=fun _ _ _ h hle=>h.le hle) Z fun sv H1 hs1 hsv=>?_;refine z8 (yl (cs:=[_,_]) Z Z zjf Z Z) Z (Zdn (h:=?_));refine q0 (yw (.inr Z) Z) (Zf (h:=?_));refine kq 5 921 rfl fun sb=>?_;refine j9 921 922 rfl Z (xd (GRd rb sv ⟨0,0,0⟩)) ?_;obtain⟨z,R1,hz1⟩:∃ z R1,wk bs 1024 ⟨0,0,0⟩=(z,R1):=⟨_,_,rfl⟩
 have ha1:=ia (bs:=bs) (lim:=1024) (R:=⟨0,0,0⟩) (mf _);have hlv:=fun h=>a9 (bs:=bs) (lim:=1024) (R:=⟨0,0,0⟩) J h;unfold ldF at hY0;rw[hz1] at ha1 hlv hY0;dsimp only at ha1 hlv hY0;by_cases h1:R1.err≠0
 ·rw[na h1] at hY0;subst hY0;refine jt (id:=3) 1 rfl (Zct (h:=?_));refine jq (r:=(xr sb rb sv 0 ⟨0,0,0⟩).res) (K:=1) L 921 rfl Z Z Z Z (fun u H C hH hle hr hC=>by have h:=E4 (lim:=1024) (R:=⟨0,0,0⟩) hb hz (mf _) I (by rw[hz1];exact h1) hH (hsv.le hle) hr hC;rw[hz1] at h;exact h) (fun _ _ _ _ h=>h) ?_
  repeat (first | refine wg ?_ | refine ji ?_)
  exact bq (KLd ba be bs0 _ _ _) ⟨Z,Z,Z,Z,Z,Z,nm⟩ (fz h1 hs1)
 ·rw[nc h1] at hY0;have h10:R1.err=0:=m5.1 h1;obtain⟨n,rfl,hn⟩:=hlv h10;by_cases hn0:n=0
  ·subst hn0;rw[na (show((0:Nat):Int)=0 from rfl)] at hY0;subst hY0;refine Zu (h:=?_);refine q0 (y6 L 921 (xr sb rb sv 0 R1) (.int .i64 ((0:Nat):Int)) (r:=xr sb rb sv 0 ⟨0,0,0⟩) Z Z Z Z Z (fun u H C hH hle hr hC=>by have h:=size_ret (lim:=1024) hb hz (mf _) I (by rw[hz1];exact h10) hH (hsv.le hle) hr hC;rw[hz1] at h;exact h)) ?_;refine Zc (h:=?_);refine jt (id:=4) 3 rfl ((Zb∘ZD∘ZS) ?_);refine jq (r:=(xr sb rb sv 0 R1).res) (K:=3) L 921 rfl Z Z Z Z (fun u H C hH hle hr hC=>fj hH hr hC) (fun _ _ _ _ h=>h) ?_
   repeat (first | refine wg ?_ | refine ji ?_)
   exact bq (KLd ba be bs0 _ _ _) ⟨Z,Z,Z,Z,Z,Z,nm⟩ (fz J hs1)
  ·rw[nc I,zl6] at hY0;refine Zu (h:=?_);refine q0 (y6 L 921 (xr sb rb sv 0 R1) (.int .i64 n) (r:=xr sb rb sv 0 ⟨0,0,0⟩) Z Z Z Z Z (fun u H C hH hle hr hC=>by have h:=size_ret (lim:=1024) hb hz (mf _) I (by rw[hz1];exact h10) hH (hsv.le hle) hr hC;rw[hz1] at h;exact h)) ?_;refine(Zc∘Z9∘Zb∘ZN) ?_;refine q0 (yq L 921 (xr sb rb sv 0 R1) (r:=xr sb rb sv 0 R1) Z Z Z Z Z (fun u H C hH _ hr hC=>kf hH hr hC)) ((Zf∘ZY∘Zc∘ZP∘Zc∘Z8∘Z7∘Zf∘ZK∘ZcJ∘Z7∘Zp∘ZaD∘Zaz∘ZQ∘Zb∘ZcD) ?_);refine cr 7 Mg 1 rfl (cr 8 tySt 4 rfl (bn (X:=List SB) 8 (r:=fun x=>SlR tySt 4 x.length (x.flatMap sbc)) (φ:=sbQ []) (E9 []) [] ⟨rfl,fun _ h=>by cases h⟩ Z ?_));refine bn (X:=Sl3) 9 (r:=fun x=>gj (pnC [] x) zgg) (φ:=pnQ []) (Fe []) (none,0,0) SlV.nil Z (bn (X:=SXp) 11 (r:=fun x=>gj (scs x.1) tySt) (φ:=Ah []) (k7 []) ⟨(.nilFunc,none,.nilFunc,none),rfl⟩ SetV.nil Z ?_);obtain⟨Y,hY⟩:∃ Y,ldW bs n 0 [] [] [] R1=Y:=⟨_,rfl⟩
   rw[hY] at hY0;have hj0:LdJ bs n Y 0 0 [] [] [] R1:=⟨mf _,hY,h10,ha1,rfl,mf _,by decide,(fun _ h=>by cases h),mf _,mf _,⟨zmc _ _,fun a ha=>by rw[zlo,mz] at ha;subst ha;exact zmm _,rfl,(fun _ h=>by cases h),(fun _ h=>by cases h)⟩⟩
   refine xo (fun x:Nat×Nat×List U×List (Int×List U)×List Int×Rd×Nat=>[(2,.is (xy bs0)),(3,.is (xy ba)),(4,.is (xy be)),(910,.own (xk bs0 [.pointer none] tyPS)),(911,.own (xk ba [.int .i64 0] Yg)),(912,.own (xk be [.int .i64 0] Lx)),(5,.is (xy sb)),
    (7,.own (SlR Mg 1 (x.2.2.2.1.map (·.1)).length ((x.2.2.2.1.map (·.1)).map (Value.int .u64)))),(8,.own (ExR (fun y:List SB=>SlR tySt 4 y.length (y.flatMap sbc)) (sbQ x.2.2.2.1) (E9 _))),(9,.own (ExR (fun y:Sl3=>gj (pnC x.2.2.2.2.1 y) zgg) (pnQ x.2.2.2.2.1) (Fe _))),(10,.is (.int .u64 x.2.1)),(11,.own (ExR (fun y:SXp=>gj (scs y.1) tySt) (Ah x.2.2.1) (k7 _))),(25,.is (.int .i64 n)),(26,.is (.int .i64 x.1)),(921,.own (xr sb rb sv x.2.2.2.2.2.2 x.2.2.2.2.2.1).res)])
    (fun x=>LdJ bs n Y x.1 x.2.1 x.2.2.1 x.2.2.2.1 x.2.2.2.2.1 x.2.2.2.2.2.1) (fun x=>n-x.1) (0,0,[],[],[],R1,0) hj0 ⟨rfl,rfl,rfl,rfl,rfl,rfl,rfl,rfl,rfl,rfl,rfl,rfl,rfl,rfl,rfl,nm⟩ ?_
   rintro⟨i,last,s,zs,P,R,fr⟩ hj;dsimp only at hj |-;have hRa:=hj.at_;by_cases hlt:i<n
   ·obtain⟨m,hm⟩:∃ m,n-i=m+1:=⟨n-i-1,by omega⟩
    have hW:=hj.hW;rw[hm] at hW;unfold ldW at hW;have ha2:(oc bs R).2.at_<=bs.length:=bu hRa (Nb hRa);have hlB:=hj.lastB;have hsl:=hj.sl;obtain⟨st,R2,hz2⟩:∃ st R2,oc bs R=(st,R2):=⟨_,_,rfl⟩
    rw[hz2] at hW ha2;dsimp only at hW ha2;refine vt (r1:=xk sb [xy rb,.int .i64 fr] N4) (r2:=(GRd rb sv R).res) 921 922 rfl (xd _) ?_;by_cases h2:R2.err≠0
    ·rw[na h2] at hW;subst hW;rw[na (by exact h2)] at hY0;subst hY0;refine(Ze∘Zah∘Zx) ?_;refine jt (id:=11) 6 rfl ((Zb∘ZI∘ZeE) ?_);refine jn 921 922 rfl Z (xd (GRd rb sv R)) ?_;refine(Za8∘ZS) ?_;refine jq (r:=(xr sb rb sv fr R).res) (K:=6) L 921 rfl Z Z Z Z (fun u H C hH hle hr hC=>Mw (x:=st) (fst:=[xy rb]) (cap:=[]) Z h2 hH hr hC (fun u3 H3 C3 hH3 hle3 hr3 hC3=>by have h:=Of hb hz hRa hH3 ((hsv.le hle).le hle3) hr3 hC3;rw[hz2] at h;exact h)) (fun _ _ _ _ h=>h) ?_
     repeat (first | refine wg ?_ | refine ji ?_)
     exact bq (KLd ba be bs0 _ _ _) ⟨Z,Z,Z,Z,Z,Z,nm⟩ (fz h2 hs1)
    ·rw[nc h2] at hW;have h20:R2.err=0:=m5.1 h2;have hws:IntKind.u64.wrap (18446744073709551615-(last:Int))=((18446744073709551615-last:Nat):Int):=(wrap_u64 I I).trans I;by_cases h3:¬ (0<st/\st<=18446744073709551615-last)
     ·rw[na h3] at hW;subst hW;rw[na (show(5:Int)≠0 by decide)] at hY0;subst hY0;by_cases hst0:st=0
      ·have hst1:((st:Nat):Int)=0:=I;refine(Ze∘Zah∘Zx∘ZO∘Zb∘ZI∘ZeE) ?_;refine jn 921 922 rfl Z (xd (GRd rb sv R)) ?_;refine Za8 (h:=?_);refine q0 (y6 L 921 (xr sb rb sv R.at_ R2) (.int .u64 st) (r:=xr sb rb sv fr R) Z Z Z Z Z (fun u H C hH hle hr hC=>ey (fst:=[xy rb]) (cap:=[]) Z h20 hH hr hC (fun u3 H3 C3 hH3 hle3 hr3 hC3=>by have h:=Of hb hz hRa hH3 ((hsv.le hle).le hle3) hr3 hC3;rw[hz2] at h;exact h))) ?_;refine Zc (h:=?_);refine jt (id:=12) 9 rfl ((Zb∘ZD∘Zb6∘Zg∘ZS) ?_);refine jq (r:=(xr sb rb sv R.at_ R2).res) (K:=9) L 921 rfl Z Z Z Z (fun u H C hH hle hr hC=>fj hH hr hC) (fun _ _ _ _ h=>h) ?_
       repeat (first | refine wg ?_ | refine ji ?_)
       exact bq (KLd ba be bs0 _ _ _) ⟨Z,Z,Z,Z,Z,Z,nm⟩ (fz J hs1)
      ·have hst1:0<st/\18446744073709551615-last<st:=I;refine(Ze∘Zah∘Zx∘ZO∘Zb∘ZI∘ZeE) ?_;refine jn 921 922 rfl Z (xd (GRd rb sv R)) ?_;refine Za8 (h:=?_);refine q0 (y6 L 921 (xr sb rb sv R.at_ R2) (.int .u64 st) (r:=xr sb rb sv fr R) Z Z Z Z Z (fun u H C hH hle hr hC=>ey (fst:=[xy rb]) (cap:=[]) Z h20 hH hr hC (fun u3 H3 C3 hH3 hle3 hr3 hC3=>by have h:=Of hb hz hRa hH3 ((hsv.le hle).le hle3) hr3 hC3;rw[hz2] at h;exact h))) ?_;refine Zc (h:=?_);refine jt (id:=12) 9 rfl ((Zb∘ZN∘Zz∘Za6∘Zcp∘Zg∘ZS) ?_);refine jq (r:=(xr sb rb sv R.at_ R2).res) (K:=9) L 921 rfl Z Z Z Z (fun u H C hH hle hr hC=>fj hH hr hC) (fun _ _ _ _ h=>h) ?_
       repeat (first | refine wg ?_ | refine ji ?_)
       exact bq (KLd ba be bs0 _ _ _) ⟨Z,Z,Z,Z,Z,Z,nm⟩ (fz J hs1)
     ·rw[nc h3] at hW;have h30:=m5.1 h3;have hwa:IntKind.u64.wrap ((last:Int)+(st:Int))=((last+st:Nat):Int):=(wrap_u64 I I).trans I;have ha3:=ia (bs:=bs) (lim:=4096) ha2;have hlv2:=fun h=>a9 (bs:=bs) (lim:=4096) (R:=R2) J h;obtain⟨zq,R3,hz3⟩:∃ zq R3,wk bs 4096 R2=(zq,R3):=⟨_,_,rfl⟩
      rw[hz3] at hW ha3 hlv2;dsimp only at hW ha3 hlv2;refine(Ze∘Zah∘Zx∘ZO∘Zb∘ZI∘ZeE) ?_;refine jn 921 922 rfl Z (xd (GRd rb sv R)) ?_;refine Za8 (h:=?_);refine q0 (y6 L 921 (xr sb rb sv R.at_ R2) (.int .u64 st) (r:=xr sb rb sv fr R) Z Z Z Z Z (fun u H C hH hle hr hC=>ey (fst:=[xy rb]) (cap:=[]) Z h20 hH hr hC (fun u3 H3 C3 hH3 hle3 hr3 hC3=>by have h:=Of hb hz hRa hH3 ((hsv.le hle).le hle3) hr3 hC3;rw[hz2] at h;exact h))) ?_;refine(Zc∘ZT∘Zb∘ZN∘Zz∘Za6∘Zcv∘Zg) ?_;refine q0 (yq L 921 (xr sb rb sv R.at_ R2) (r:=xr sb rb sv R.at_ R2) Z Z Z Z Z (fun u H C hH _ hr hC=>kf hH hr hC)) ((Zf∘ZV∘Zb∘Zv∘Zc) ?_);refine vu 9 rfl fun x9 H2 hs2 hp9=>?_;obtain⟨pp,pk,pc⟩:=x9;dsimp only at hp9 |-;have hs12:=hs1.trans hs2;have hsv2:=hsv.le hs2.le;by_cases h4:R3.err≠0
      ·rw[na h4] at hW;subst hW;rw[na (by exact h4)] at hY0;subst hY0;refine Ej (id:=14) 3 [(52,[921]),(200052,[2,3,4,910,911,912])] x8 Z T (jw (zz L (vs:=[_,_]) (qs Z) Z Z Z Z ⟨_,rfl⟩) Z (ZdY (h:=?_)));refine ZdY (h:=?_);refine i6 [(2,.is (xy bs0)),(3,.is (xy ba)),(4,.is (xy be)),(910,.own (xk bs0 [.pointer none] tyPS)),(911,.own (xk ba [.int .i64 0] Yg)),(912,.own (xk be [.int .i64 0] Lx)),(51,.is (xy sb)),(921,.own (xr sb rb sv R.at_ R2).res)] T ⟨Z,Z,Z,Z,Z,Z,Z,Z,nm⟩ (jq (r:=(xr sb rb sv R.at_ R2).res) (K:=3) L 921 rfl Z Z Z Z (fun u H C hH hle hr hC=>by have h:=E4 (lim:=4096) hb hz ha2 I (by rw[hz3];exact h4) hH (hsv2.le hle) hr hC;rw[hz3] at h;exact h) (fun _ _ _ _ h=>h) ?_)
       repeat (first | refine wg ?_ | refine ji ?_)
       exact bq (KLd ba be bs0 _ _ _) ⟨Z,Z,Z,Z,Z,Z,nm⟩ (fz h4 hs12)
      ·rw[nc h4] at hW;have h40:R3.err=0:=m5.1 h4;obtain⟨k,rfl,hk⟩:=hlv2 h40;rw[zl6] at hW;have hnew:=hj.new h30.1;have hph:=hj.ph;have hpl0:=hj.pl;have hr0:((last+st:Nat):Int)≠0:=I;have hm1:Kn.mono (.sat (PnS (P++List.replicate k ((last+st:Nat):Int)))):=PnS.mono;have hm2:Kn.mono (.sat (fun v _=>v=Value.int .i64 0)):=fun _ _ _ h _=>h;refine qh (id:=14) [(52,[921])] x8 T ((Zeb∘Zn) ?_);refine xu (y6 L 921 (xr sb rb sv R2.at_ R3) (.int .i64 k) (r:=xr sb rb sv R.at_ R2) Z Z Z Z Z (fun u H C hH hle hr hC=>by have h:=size_ret (lim:=4096) hb hz ha2 I (by rw[hz3];exact h40) hH (hsv2.le hle) hr hC;rw[hz3] at h;exact h)) Z Z ?_;refine zh (xi (φ:=PnE (P++List.replicate k ((last+st:Nat):Int))) L Z Z (zo Z) Z Z Z PnE.mono (fun u H hH hle _=>Ut (x:=(pp,pk,pc)) hr0 hk hnew I I hH (SlV.le hp9 hle))) Z ((Zak∘Zer∘Zes) ?_);refine zh (fq L (X:=Sl3) (fun x=>pnC (P++List.replicate k ((last+st:Nat):Int)) x) (pnQ (P++List.replicate k ((last+st:Nat):Int))) (Fe _) zg0 (fun x=>⟨rfl,rfl⟩) Z Z Z Z Z) Z (ZU (h:=?_));refine vu 11 rfl fun x11 H3 hs3 hset=>?_;obtain⟨⟨f1,p1,f2,p2⟩,hpl⟩:=x11;dsimp only[scs] at hset hpl |-;have hs13:=hs12.trans hs3;have hsv3:=hsv2.le hs3.le;have ha4:=zfl (l:=s) ha3;have hsl4:=zbe (bs:=bs) (R:=R3) hsl;have he4:=fun h=>zbf (bs:=bs) (l:=s) (R:=R3) h;have hcr:=fun(h:(t9 bs s R3).2.2=0) {v:Value} {w:World} {B:Heap} {C:Nat->Prop} (hB:zpk B w) (hs:BsV bs false sv B) (hv:SetV s v B) (hr:(xr sb rb sv R2.at_ R3).P B w C) (hC:ZCB C w B)=>No hsl hb hz ha3 h hB hs hv hr hC;have hcp:=fun(h:(t9 bs s R3).2.2≠0) {v:Value} {w:World} {B:Heap} {C:Nat->Prop} (hB:zpk B w) (hs:BsV bs false sv B) (hv:SetV s v B) (hr:(xr sb rb sv R2.at_ R3).P B w C) (hC:ZCB C w B)=>Np hsl hb hz ha3 h hB hs hv hr hC;generalize t9 bs s R3=zpf at hW ha4 hsl4 he4 hcr hcp;obtain⟨⟨s',R4⟩,⟨ca,ce⟩⟩:=zpf;dsimp only at hW ha4 hsl4 he4 hcr hcp;by_cases h5:ce≠0
       ·rw[na h5] at hW;subst hW;rw[na (by exact h5)] at hY0;subst hY0;refine jt (id:=15) 2 rfl ((Za∘Zbp∘ZS) ?_);refine jq (r:=(xr sb rb sv R2.at_ R3).res) (K:=2) L 921 rfl Z Z Z Z (fun u H C hH hle hr hC=>hcp h5 hH (hsv3.le hle) (hset.le hle) hr hC) (fun _ _ _ _ h=>h) ?_
        repeat (first | refine wg ?_ | refine ji ?_)
        exact bq (KLd ba be bs0 _ _ _) ⟨Z,Z,Z,Z,Z,Z,nm⟩ (fz h5 hs13)
       ·rw[nc h5] at hW;have h50:ce=0:=m5.1 h5;have hj2:=hj.next hlt (st:=st) (n:=k) h30 hk hsl4 (he4 h50) ha4 hm hW;refine(Zaw∘Za∘Zbp) ?_;refine q0 (Bw L 921 (xr sb rb sv R3.at_ R4) (SetV s') (r:=xr sb rb sv R2.at_ R3) Z Z Z Z Z SetV.mono (fun u H C hH hle hr hC=>hcr h50 hH (hsv3.le hle) (hset.le hle) hr hC)) (z8 (fq L (X:=SXp) (fun x=>scs x.1) (Ah s') (k7 _) A8 (fun x=>⟨rfl,x.2⟩) Z Z Z Z Z) Z (Z1 (h:=?_)));refine vu 11 rfl fun x12 H4 hs4 hset4=>?_;obtain⟨⟨f3,p3,f4,p4⟩,hpl4⟩:=x12;dsimp only[scs] at hset4 hpl4 |-;refine vu 8 rfl fun y8 H5 hs5 hq8=>?_;have hset5:=hset4.le hs5.le;have hzl1:(zs.map (·.1)).length<=1024:=by rw[mn,hj.zl];omega
        have hyl1:y8.length<=1024:=by have h:=nh List.length hq8.1;rw[mn,mn,hj.zl] at h;omega
        refine qh (id:=16) [(59,[7]),(62,[59]),(63,[8]),(66,[63]),(7,[62]),(8,[66])] x8 T (xu (yw (.inl Z) Z) Z Z ((Zj∘Zdv) ?_));refine xu (ub L Z Z Z (o6 Z) Z zhz Z Z I I) Z Z (xu (yw (.inl Z) Z) Z Z ((Zcn∘Zdv) ?_));refine xu (ub L Z Z Z (o6 Z) Z zk8 Z E I I) Z Z (xu (yw (.inr Z) Z) Z Z (xu (yw (.inr Z) Z) Z Z ((ZbI∘ZaB∘Zbn∘Zbh) ?_)));refine ep (X:=List SB) 8 (r:=fun x=>SlR tySt 4 x.length (x.flatMap sbc)) (E9 _) (y8++[(s',(f3,p3,f4,p4))]) (Y8 (r:=((last+st:Nat):Int)) hq8 hset5) (by exact zdw Z) ?_;exact ep (X:=SXp) 11 (r:=fun x=>gj (scs x.1) tySt) (k7 s') ⟨(f3,p3,f4,p4),hpl4⟩ hset5 Z (wx (x:=(i,last,s,zs,P,R,fr)) (i+1,last+st,s',zs++[(((last+st:Nat):Int),s')],P++List.replicate k ((last+st:Nat):Int),R4,R3.at_) (hs2.trans (hs3.trans (hs4.trans hs5))) hj2 (Nat.sub_lt_sub_left hlt (zon i)) ⟨Z,Z,Z,Z,Z,Z,Z,zdd Z,Z,Z,Z,Z,Z,Z,Z,nm⟩)
   ·obtain rfl:i=n:=by have:=hj.hi;omega
    have hW:=hj.hW;rw[zmr] at hW;have hW2:(((zs,P),R),((0:Int),(0:Int)))=Y:=hW;subst hW2;rw[nc (fun h=>h rfl)] at hY0;dsimp only at hY0;by_cases h5:(Gn bs R).2≠0
    ·rw[na h5] at hY0;subst hY0;refine(Ze∘Zah∘ZaK) ?_;refine jt (id:=18) 1 rfl (Zct (h:=?_));refine jq (r:=(xr sb rb sv fr R).res) (K:=1) L 921 rfl Z Z Z Z (fun u H C hH hle hr hC=>Qn hz hRa h5 hH (hsv.le hle) hr hC) (fun _ _ _ _ h=>h) ?_
     repeat (first | refine wg ?_ | refine ji ?_)
     exact bq (KLd ba be bs0 _ _ _) ⟨Z,Z,Z,Z,Z,Z,nm⟩ (fz h5 hs1)
    ·rw[nc h5] at hY0;subst hY0;have h50:(Gn bs R).2=0:=m5.1 h5;have hZ:=hj.z;have hzl:=hj.zl;have hph:=hj.ph;have hpl0:=hj.pl;have hmk:=hZ.mkE I I;refine vu 8 rfl fun y8 H2 hs2 hq8=>?_;refine vu 9 rfl fun x9 H3 hs3 hp9=>?_;obtain⟨pp,pk,pc⟩:=x9;have hs13:=hs1.trans (hs2.trans hs3);have hsv3:=(hsv.le hs2.le).le hs3.le;have hqs:=hq8.2.le hs3.le;have hzk:=El hq8.1;have hmo:=hZ.mapOK hq8.1;refine(Ze∘Zah∘ZaK∘Zbg∘Za) ?_;refine q0 (yq L 921 (xr sb rb sv fr R) (r:=xr sb rb sv fr R) Z Z Z Z Z (fun u H C hH hle hr hC=>Qm hz hRa h50 hH (hsv3.le hle) hr hC)) (Zf (h:=?_));refine ax 7 rfl (ax 8 rfl ((Zcj∘Zk∘Zk∘Zck) ?_));refine z8 (u5 L Z Z (zo Z) Z Z Z (fun u H hH hle _ v1 h1 v2 h2=>by have h:=Dn (zs:=(zs.map (·.1)).zip y8) (L0:=P) (S:=loS (zs,P)) (e:=0) (by rw[hzk.1];exact hmk) (fun _=>⟨hmo,(nh (Nat.cast (R:=Int)) hZ.len).trans (by rw[hzk.1,hzk.2.2];exact hZ.lst.symm),rfl⟩) I I (by rw[hzk.2.2];omega) hH (by rw[hzk.1];exact h1) (by rw[hzk.2.1];exact h2) (by rw[hzk.2.1];exact hqs.le hle) (SlV.le hp9 hle);exact zcn h)) Z ?_;refine im 74 930 rfl fun b2=>?_;refine Zy (h:=?_);refine xf (yc L (q:=910) (cs':=[ct b2]) Z Z Z Z Z) (Zf (h:=?_));refine ZaP (h:=?_);refine qz (qb L (q:=910) Z Z Z Z) (xf (yc L (q:=910) (cs':=[ct b2]) Z Z Z Z Z) (xf (yc L (q:=911) (cs':=[.int .i64 0]) Z Z Z Z Z) (xf (yc L (q:=912) (cs':=[.int .i64 0]) Z Z Z Z Z) (Z1 (h:=?_)))));refine j9 912 910 rfl Z (dj _ _ _) ?_;refine j9 911 912 rfl Z (xd (uw (xa be [.int .i64 0] Lx) (xa bs0 [ct b2] tyPS))) ?_;refine zie L 911 (r:=G3 ba be bs0 (.int .i64 0) (.int .i64 0) (ct b2)) (r':=G3 ba be bs0 (.int .i64 0) (.int .i64 0) (if (0:Int)=0 then ct b2 else .pointer none)) Z Z Z (fun u H C hH _ hr hC=>Ku RecM.idle (fun u H hH=>Nr hH) hH hr hC) ?_ (fun _ _ h=>h);rw[na rfl];refine Fy (r1:=xk ba [.int .i64 0] Yg) (r2:=(uw (xa be [.int .i64 0] Lx) (xa bs0 [ct b2] tyPS)).res) 911 912 rfl (xd _) ?_;refine Fy (r1:=xk be [.int .i64 0] Lx) (r2:=xk bs0 [ct b2] tyPS) 912 910 rfl (dj _ _ _) ?_;exact lh 3 911 rfl Z (lh 4 912 rfl Z (lh 2 910 rfl Z (zaw L 930 (r0:=StG b2 (loS (zs,P))) (rs:=[.cell 2 tyPS,.cell 3 Yg,.cell 4 Lx]) Z hs13 Z (fun H=>jd (qs Z) Z (jd (qs Z) Z (jd (qs Z) Z Z))) (fun H u C _ _ h=>.inl ⟨rfl,b2,rfl,h⟩))))
end Go.V.L11
namespace Go.V
section
variable {P:Program} {F:Fr}      {d:Nat}    
end
end Go.V
section
open Go.V
attribute [local irreducible] Has N Par Ret RetL Src StepOK V VO X
namespace Go.V.L11
open Go.V.L2 Go.V.L4 Go.V.L6 Go.V.L8 Go.V.Bd
attribute [local irreducible] XP LV RetO RetT kr RetX RetY Pan bp
open Go.V.L3
abbrev rv(sv:Value)(R:Rd):Value:=.agg #[sv,.int .i64 R.at_,.int .i64 R.bad,.int .i64 R.err]
def vj(bs:List Nat)(R:Rd):Nat->Rd
 | 0=>R
 | i+1=>(po bs 16 (vj bs R i)).2
def zap(bs:List Nat)(R:Rd):Nat->List ByteArray
 | 0=>[]
 | i+1=>zap bs R i++[(po bs 16 (vj bs R i)).1]
def ziu(bs:List Nat)(R:Rd):List ByteArray×Rd:=
 if (vj bs R 6).err≠0 then ([sZ,sZ,sZ,sZ,sZ,sZ],⟨R.at_,(vj bs R 6).bad,(vj bs R 6).err⟩) else (zap bs R 6,vj bs R 6)
def tupS2{a b:Value}{H:Heap}(h1:φ1 a H)(h2:φ2 b H):TupS [φ1,φ2] (.tuple #[a,b]) H:=⟨[a,b],rfl,rfl,fun i φ x hi hx=>by
 match i with
 | 0=>cases hi;cases hx;exact h1
 | 1=>cases hi;cases hx;exact h2
 | i+2=>cases hi⟩
def vl{α:Type}{f:Rd->α×Rd}{z:α}(h:R.err≠0):l8 f z R=(z,R):=na h
def Ac{α β:Type}{f:Rd->α×Rd}{g:Rd->β×Rd}{zf:α}{zg:β}(hf:∀ R:Rd,R.err≠0->f R=(zf,R))(hg:∀ R:Rd,R.err≠0->g R=(zg,R))(R:Rd):
  l8 (Ex f g) (zf,zg) R=if (g (f R).2).2.err≠0 then ((zf,zg),⟨R.at_,(g (f R).2).2.bad,(g (f R).2).2.err⟩) else (((f R).1,(g (f R).2).1),(g (f R).2).2):=by
 unfold l8;by_cases h0:R.err≠0
 ·rw[na h0,hf R h0];dsimp only;rw[hg R h0,na h0]
 ·rw[nc h0];rfl
def od{k:Nat}(h:(vj bs R k).err≠0):vj bs R (k+1)=vj bs R k:=nh Prod.snd (vl (f:=Sp bs 16) (z:=sZ) h)
def zeo:Na bs R=if (vj bs R 2).err≠0 then ((sZ,sZ),⟨R.at_,(vj bs R 2).bad,(vj bs R 2).err⟩) else (((po bs 16 R).1,(po bs 16 (vj bs R 1)).1),vj bs R 2):=
 Ac (fun _ h=>vl h) (fun _ h=>vl h) R
def ot:wt bs R=if (vj bs R 3).err≠0 then (n3,⟨R.at_,(vj bs R 3).bad,(vj bs R 3).err⟩) else ((((po bs 16 R).1,(po bs 16 (vj bs R 1)).1),(po bs 16 (vj bs R 2)).1),vj bs R 3):=by
 have h:=Ac (f:=Na bs) (g:=po bs 16) (zf:=(sZ,sZ)) (zg:=sZ) (fun _ h=>vl h) (fun _ h=>vl h) R;unfold wt;refine h.trans ?_;rw[zeo];by_cases h2:(vj bs R 2).err≠0
 ·rw[na h2];dsimp only;have hs:po bs 16 ⟨R.at_,(vj bs R 2).bad,(vj bs R 2).err⟩=(sZ,⟨R.at_,(vj bs R 2).bad,(vj bs R 2).err⟩):=vl h2;rw[hs,od h2,na h2,na h2]
 ·rw[nc h2];rfl
def uOf:List ByteArray->U
 | [a,b,c,d,e,f]=>(((a,b),c),((d,e),f))
 | _=>(n3,n3)
def Ow:vj bs (vj bs R 3) 3=vj bs R 6:=by simp only[vj]
def Uq:vj bs (vj bs R 3) 1=vj bs R 4:=by simp only[vj]
def Ur:vj bs (vj bs R 3) 2=vj bs R 5:=by simp only[vj]
def zao:zap bs R 6=[(po bs 16 R).1,(po bs 16 (vj bs R 1)).1,(po bs 16 (vj bs R 2)).1,(po bs 16 (vj bs R 3)).1,(po bs 16 (vj bs R 4)).1,(po bs 16 (vj bs R 5)).1]:=by
 simp only[zap,vj,mh,zll]
def Ri(h3:(vj bs R 3).err≠0):vj bs R 6=vj bs R 3:=by
 have h4:=od h3;have h5:=od (k:=4) (h4 ▸ h3);have h6:=od (k:=5) (h5 ▸ h4 ▸ h3);exact h6.trans (h5.trans h4)
def Ey:rt bs R=if (wt bs (wt bs R).2).2.err≠0 then ((n3,n3),⟨R.at_,(wt bs (wt bs R).2).2.bad,(wt bs (wt bs R).2).2.err⟩) else (((wt bs R).1,(wt bs (wt bs R).2).1),(wt bs (wt bs R).2).2):=Ac (f:=wt bs) (g:=wt bs) (zf:=n3) (zg:=n3) (fun _ h=>vl h) (fun _ h=>vl h) R
def Rq(h:R.err≠0):wt bs R=(n3,R):=vl h
def Ni(h:e≠0):wt bs ⟨a,b,e⟩=(n3,⟨a,b,e⟩):=Rq (R:=⟨a,b,e⟩) h
def Vn{α:Type}{x y:α}(h:e≠0):(if (⟨a,b,e⟩:Rd).err≠0 then x else y)=x:=na h
def zgn(h3:(vj bs R 3).err≠0):rt bs R=((n3,n3),⟨R.at_,(vj bs R 3).bad,(vj bs R 3).err⟩):=by
 have hG:=ot (bs:=bs) (R:=R);rw[na h3] at hG;rw[Ey,hG];generalize vj bs R 3=Q at h3 |-;obtain⟨q1,q2,q3⟩:=Q;have hs:=Ni (bs:=bs) (a:=R.at_) (b:=q2) h3;dsimp only at hs |-;rw[hs];exact Vn h3
def zi5{Q3:Rd}{g:Ma}(hG:wt bs R=(g,Q3))(hg:wt bs Q3=(n3,⟨a,b,e⟩))(h6:e≠0):rt bs R=((n3,n3),⟨R.at_,b,e⟩):=by
 rw[Ey,hG];dsimp only;rw[hg];exact Vn h6
def zi4{Q3 Q6:Rd}{g h:Ma}(hG:wt bs R=(g,Q3))(hg:wt bs Q3=(h,Q6))(h6:¬ Q6.err≠0):rt bs R=((g,h),Q6):=by
 rw[Ey,hG];dsimp only;rw[hg];exact nc h6
def zgm(h3:¬ (vj bs R 3).err≠0)(h6:(vj bs R 6).err≠0):rt bs R=((n3,n3),⟨R.at_,(vj bs R 6).bad,(vj bs R 6).err⟩):=by
 have hG:=ot (bs:=bs) (R:=R);rw[nc h3] at hG;have hg:=ot (bs:=bs) (R:=vj bs R 3);rw[Ow,na h6] at hg;exact zi5 hG hg h6
def zgl(h3:¬ (vj bs R 3).err≠0)(h6:¬ (vj bs R 6).err≠0):rt bs R=(((((po bs 16 R).1,(po bs 16 (vj bs R 1)).1),(po bs 16 (vj bs R 2)).1),(((po bs 16 (vj bs R 3)).1,(po bs 16 (vj bs R 4)).1),(po bs 16 (vj bs R 5)).1)),vj bs R 6):=by
 have hG:=ot (bs:=bs) (R:=R);rw[nc h3] at hG;have hg:=ot (bs:=bs) (R:=vj bs R 3);rw[Ow,Uq,Ur,nc h6] at hg;exact zi4 hG hg h6
def Yk:rt bs R=(uOf (ziu bs R).1,(ziu bs R).2):=by
 unfold ziu;by_cases h3:(vj bs R 3).err≠0
 ·rw[zgn h3,Ri h3,na h3];dsimp only[uOf]
 ·by_cases h6:(vj bs R 6).err≠0
  ·rw[zgm h3 h6,na h6];dsimp only[uOf]
  ·rw[zgl h3 h6,nc h6,zao];dsimp only[uOf]
def Vz(h:bs[a]?=some b):bs.drop a=b::bs.drop (a+1):=by
 obtain⟨h1,h2⟩:=zmf.1 h;rw[zl4 h1,h2]
def oz{r:List Nat}(h:bs.drop a=b::r):bs[a]?=some b/\bs.drop (a+1)=r:=by
 have h1:bs[a]?=some b:=by
  have:=nh (fun l:List Nat=>l[0]?) h;simpa using this
 refine⟨h1,?_⟩;have h2:=Vz h1;rw[h] at h2;exact(List.cons.inj h2).2.symm
def vq{x r:List Nat}(h:bs.drop a=x++r):bs.drop (a+x.length)=r:=by
 rw[<-zmu,h,zoi]
def Ul(h:bs[R.at_]?=some n)(hn:n<128):Ko bs R=(n,⟨R.at_+1,R.bad,R.err⟩):=by
 unfold Ko;show Sa bs (9+1) 0 0 R=_;unfold Sa;rw[h];dsimp only;rw[nc I,na hn,Nat.mod_eq_of_lt hn];simp
def O5{lim:Nat}{R2:Rd}(h0:R.err=0)(h:Ko bs R=(n,R2))(h2:R2.err=0)(hn:n<=lim)(hl:lim<=1099511627776):wk bs lim R=((n:Int),R2):=by
 have hw:bo bs lim 3 R=(n,R2):=by unfold bo;rw[h];exact if_neg M
 have hg:zcq bs lim R=((n:Int),R2):=by
  unfold zcq;rw[hw];exact Prod.ext (yz M M) Z
 unfold wk l8;rw[nc (fun h=>h h0),hg,nc (fun h=>h h2)]
def Yi(h:s.size<=16):s7 s=s.size::g8 s:=by unfold s7;rw[cy I];rfl
def Hq(s:ByteArray):lp (g8 s)=s:=by
 have h:=eu s [];rw[mo,S3] at h;rw[h];apply wn;rw[kg];simp
def zgj(h0:R.err=0)(hs:s.size<=16)(hd:bs.drop R.at_=s7 s++rest):po bs 16 R=(s,⟨R.at_+(s7 s).length,R.bad,0⟩):=by
 rw[Yi hs] at hd |-;obtain⟨h1,h2⟩:=oz (r:=g8 s++rest) hd;have hln:(bs.drop R.at_).length=1+s.size+rest.length:=by rw[hd,nr,nz,vr];omega
 rw[zlc] at hln;have hl:=O5 (lim:=16) h0 (Ul h1 I) h0 hs J
 have hg:Sp bs 16 R=(s,⟨R.at_+1+s.size,R.bad,R.err⟩):=by
  unfold Sp;rw[hl];dsimp only;rw[nc (by intro h;rcases h with h | h;exact h h0;omega),zl6,h2,<-vr,List.take_left,Hq]
 unfold po l8;rw[nc (fun h=>h h0),hg,nc (fun h=>h h0),h0,nz,vr,show R.at_+1+s.size=R.at_+(s.size+1) by omega]
def sd{bs:List Nat}{R:Rd}:∀ n,vj bs R (n+1)=vj bs (po bs 16 R).2 n
 | 0=>rfl
 | n+1=>by
  have h:vj bs R (n+1+1)=(po bs 16 (vj bs R (n+1))).2:=rfl;rw[h,sd n];rfl
def Dw{bs:List Nat}{R:Rd}:∀ n,zap bs R (n+1)=(po bs 16 R).1::zap bs (po bs 16 R).2 n
 | 0=>rfl
 | n+1=>by
  have h:zap bs R (n+1+1)=zap bs R (n+1)++[(po bs 16 (vj bs R (n+1))).1]:=rfl;rw[h,Dw n,sd n];rfl
def zcm{bs rest:List Nat}:∀ {ss:List ByteArray} {R:Rd},R.err=0->(∀ s∈ss,s.size<=16)->bs.drop R.at_=vw ss++rest->vj bs R ss.length=⟨R.at_+(vw ss).length,R.bad,0⟩/\zap bs R ss.length=ss
 | [],R,h0,_,_=>by
  obtain⟨a,b,e⟩:=R;cases h0;exact⟨rfl,rfl⟩
 | s::ss,R,h0,hs,hd=>by
  have e1:vw (s::ss)=s7 s++vw ss:=rfl;rw[e1,mj] at hd;have h1:=zgj h0 (hs s (mb ..)) hd;have h2:=zcm (R:=⟨R.at_+(s7 s).length,R.bad,0⟩) rfl (fun x hx=>hs x (mc _ hx)) (vq hd);rw[nz,sd,Dw,h1,e1,nr,<-zns];dsimp only;exact⟨h2.1,nh (s::·) h2.2⟩
def Ye{t:U}(h:tE t=0):∀ s∈u6 t,s.size<=16:=by
 unfold tE at h;split at h
 ·rename_i h1;obtain⟨c1,c2,c3⟩:=Ls h1;obtain⟨d1,d2,d3⟩:=gu h;have a1:=ui c1;have a2:=ui c2;have a3:=ui c3;have b1:=ui d1;have b2:=ui d2
  have b3:t.2.2.size<=16:=by
   rcases d3 with d3 | d3
   ·rw[d3];decide
   ·exact ui d3
  intro s hs;simp only[u6,nw,zmj,or_false] at hs;rcases hs with rfl | rfl | rfl | rfl | rfl | rfl<;>assumption
 ·rename_i h1;exact ni h h1
def zgk{t:U}(h0:R.err=0)(ht:tE t=0)(hd:bs.drop R.at_=N9 t++rest):rt bs R=(t,⟨R.at_+(N9 t).length,R.bad,0⟩):=by
 obtain⟨h1,h2⟩:=zcm (ss:=u6 t) h0 (Ye ht) hd;have e6:(u6 t).length=6:=rfl;rw[e6] at h1 h2;rw[Yk];unfold ziu;rw[h1,h2,nc (fun h=>h rfl)];rfl
def za8(h0:R.err=0)(ha:¬ R.at_<bs.length):Gn bs R=(R.bad,0):=by unfold Gn;rw[if_neg (fun h=>ha h.2),h0]
def zc8{lim:Nat}{R2:Rd}(h:Ko bs R=(n,R2))(hn:n<=lim):bo bs lim e R=(n,R2):=by
 unfold bo;rw[h];exact if_neg M
def zft{k:Bool}(h0:R.err=0)(hd:bs.drop R.at_=[if k=true then 1 else 0]++rest):au bs R=(k,⟨R.at_+1,R.bad,0⟩):=by
 obtain⟨h1,_⟩:=oz (r:=rest) hd;have hw:=zc8 (lim:=1) (e:=5) (Ul h1 (by split<;>omega)) (by split<;>omega)
 have hg:bG bs R=(k,⟨R.at_+1,R.bad,R.err⟩):=by
  unfold bG;rw[hw];cases k<;>rfl
 rw[Pu];unfold l8;rw[nc (fun h=>h h0),hg,nc (fun h=>h h0),h0]
def zbg:li bs R=if (au bs (rt bs R).2).2.err≠0 then (((n3,n3),false),⟨R.at_,(au bs (rt bs R).2).2.bad,(au bs (rt bs R).2).2.err⟩) else (((rt bs R).1,(au bs (rt bs R).2).1),(au bs (rt bs R).2).2):=
 Ac (f:=rt bs) (g:=au bs) (zf:=(n3,n3)) (zg:=false) (fun _ h=>vl h) (fun _ h=>vl h) R
def zh5{c:CH}(h0:R.err=0)(ht:tE c.1=0)(hd:bs.drop R.at_=chgB c++rest):li bs R=(c,⟨R.at_+(chgB c).length,R.bad,0⟩):=by
 unfold chgB at hd;rw[mj] at hd;have h1:=zgk h0 ht hd;have h2:=zft (R:=⟨R.at_+(N9 c.1).length,R.bad,0⟩) (k:=c.2) rfl (vq hd);rw[zbg,h1];dsimp only;rw[h2];dsimp only;rw[nc (fun h=>h rfl)];unfold chgB;rw[nr,zmd,zns]
def zf4(l:List U):Option U->List CH->Prop
 | _,[]=>True
 | la,c::cs=>tE c.1=0/\X4 la c.1=true/\decide (c.1∈l)=c.2/\zf4 l (some c.1) cs
def G6(cs:List CH):List CH:=cs.filter fun c=>!c.2
def l9(cs:List CH):List CH:=cs.filter fun c=>c.2
def Xp(c:CH)(cs a:List CH):(if c.2=true then a else a++[c])++G6 cs=a++G6 (c::cs):=by
 unfold G6;cases h:c.2
 ·rw[nc J,zm0 (by simp [h])];simp
 ·rw[na rfl,znp (by simp [h])]
def Rv(c:CH)(cs d:List CH):(if c.2=true then d++[c] else d)++l9 cs=d++l9 (c::cs):=by
 unfold l9;cases h:c.2
 ·rw[nc J,znp (by simp [h])]
 ·rw[na rfl,zm0 (by simp [h])];simp
def Xc{bs rest:List Nat}{l:List U}:∀ {cs:List CH} {la:Option U} {a d:List CH} {R:Rd},R.err=0->zf4 l la cs->bs.drop R.at_=cs.flatMap chgB++rest->
  Ee bs l cs.length la a d R=(((a++G6 cs,d++l9 cs),⟨R.at_+(cs.flatMap chgB).length,R.bad,0⟩),(0,0))
 | [],la,a,d,R,h0,_,_=>by
  obtain⟨x,y,z⟩:=R;cases h0;show(((a,d),_),_)=(((a++[],d++[]),_),_);rw[mo,mo];rfl
 | c::cs,la,a,d,R,h0,hk,hd=>by
  obtain⟨k1,k2,k3,k4⟩:=hk;have e1:(c::cs).flatMap chgB=chgB c++cs.flatMap chgB:=rfl;rw[e1,mj] at hd;have h1:=zh5 h0 k1 hd;rw[nz];unfold Ee;rw[h1];dsimp only;rw[nc (fun h=>h rfl),nc (fun h=>h k1),k2,nc J,nc (fun h=>h k3)];rw[Xc (R:=⟨R.at_+(chgB c).length,R.bad,0⟩) rfl k4 (vq hd),Xp,Rv,e1,nr,zns]
def zal(h:¬ n<128)(hi:i<=9)(hn:n*128^i<18446744073709551616):i≠9/\n/128*128^(i+1)<18446744073709551616:=by
 have h1:n/128*128^(i+1)<=n*128^i:=by
  rw[Nat.pow_succ,Nat.mul_comm (128^i) 128,<-Nat.mul_assoc];exact zmv _ (Nat.div_mul_le_self n 128)
 refine⟨fun e=>?_,by omega⟩;subst e;have h9:(128:Nat)^9=9223372036854775808:=J;rw[h9] at hn;omega
def zam(hp:0<i->0<n)(hn:n*128^i<18446744073709551616):¬ (i=9/\n≠1\/0<i/\n=0):=by
 rintro(⟨rfl,h⟩ | ⟨h1,h2⟩)
 ·have h9:(128:Nat)^9=9223372036854775808:=J;rw[h9] at hn;have:=hp J;omega
 ·have:=hp h1;omega
def zep:∀ (f i acc n:Nat) (R:Rd),f+i=10->i<=9->n*128^i<18446744073709551616->(0<i->0<n)->bs.drop R.at_=uq n++rest->
  Sa bs f i acc R=(acc+n*128^i,⟨R.at_+(uq n).length,R.bad,R.err⟩):=by
 intro f
 induction f with
 | zero=>intro i acc n R h1 h2;omega
 | succ f ih=>
  intro i acc n R hf hi hn hp hd;unfold Sa;by_cases h:n<128
  ·rw[cy h] at hd |-;obtain⟨h1,_⟩:=oz (r:=rest) hd;rw[h1];dsimp only;rw[nc (zam hp hn),na h,Nat.mod_eq_of_lt h];rfl
  ·rw[Fw h] at hd |-;obtain⟨h1,h2⟩:=oz (r:=uq (n/128)++rest) hd;obtain⟨hi8,hq⟩:=zal h hi hn;have hr:=ih (i+1) (acc+(n%128+128)%128*128^i) (n/128) ⟨R.at_+1,R.bad,R.err⟩ I I hq (fun _=>by omega) h2;rw[h1];dsimp only;rw[nc I,nc I,hr];have e1:(n%128+128)%128=n%128:=I;have e2:n=n%128+128*(n/128):=I;refine Prod.ext ?_ ?_
   ·dsimp only;rw[e1,zns,Nat.pow_succ];congr 1
    conv=>rhs;rw[e2]
    rw[zl9,Nat.mul_comm 128 (n/128),Nat.mul_assoc (n/128) 128,Nat.mul_comm 128 (128^i)]
   ·dsimp only;rw[nz,show R.at_+1+(uq (n/128)).length=R.at_+((uq (n/128)).length+1) by omega]
def Ot(hn:n<18446744073709551616)(hd:bs.drop R.at_=uq n++rest):Ko bs R=(n,⟨R.at_+(uq n).length,R.bad,R.err⟩):=by
 unfold Ko;rw[zep 10 0 0 n R rfl J I (fun h=>ni h (Nat.lt_irrefl 0)) hd];simp
def X0(cs:List CH):List Nat:=uq cs.length++cs.flatMap chgB
def zfk(h0:R.err=0)(hn:cs.length<=8192)(hk:zf4 l none cs)(hs:l.length+(G6 cs).length<=4096+(l9 cs).length)(hd:bs.drop R.at_=X0 cs++rest):
  t9 bs l R=((ri l (l9 cs++G6 cs),⟨R.at_+(X0 cs).length,R.bad,0⟩),(0,0)):=by
 unfold X0 at hd;rw[mj] at hd;have h1:=Ot (n:=cs.length) I hd;rw[h0] at h1;have h2:=O5 (lim:=8192) h0 h1 rfl hn J;have h3:=Xc (bs:=bs) (rest:=rest) (l:=l) (cs:=cs) (la:=none) (a:=[]) (d:=[]) (R:=⟨R.at_+(uq cs.length).length,R.bad,0⟩) rfl hk (vq hd);unfold t9;rw[h2];dsimp only;rw[nc (fun h=>h rfl),zl6,h3];dsimp only;rw[nc (fun h=>h rfl),mh,mh,nc I];unfold X0;rw[nr,zns]
open Go.V.L10
abbrev K3:=Int×Nat×List U
def Rw:List K3->Int->List U->List Nat
 | [],_,_=>[]
 | k::ks,last,s=>(uq (k.1-last).toNat++(uq k.2.1++X0 (Ct s k.2.2)))++Rw ks k.1 k.2.2
def L5(ks:List K3):List Nat:=uq ks.length++Rw ks 0 []
def tZ(S:Sto)(r:Int):List U:=(kpt S.R r).getD []
def Sc(S:Sto):List K3:=(js S.R).map fun r=>(r,List.count r S.P,tZ S r)
structure zjz(S:Sto):Prop where
 n0:S.R.length≠0
 rl:S.R.length<18446744073709551616
 k0:0<(js S.R).length
 kl:(js S.R).length<=1024
 pl:(xg S.P).length<=100000
 pb:S.P.length<=1000000000000
 tl:∀ r t,kpt S.R r=some t->t.length<=4096/\Sst jm t/\∀ x∈t,∀ s∈u6 x,s.size<=1000
def ft(h:n<18446744073709551616):(uq n).length<=10:=by
 have h128:(128:Nat)^10=1180591620717411303424:=J;exact oa 9 n I
def Cq{l:List CH}(h:∀ c∈l,∀ s∈u6 c.1,s.size<=1000):∀ i,((l.take i).flatMap chgB).length<=i*6061
 | 0=>by rw[zl2];exact ns _
 | i+1=>by
  have h1:=Cq h i;rw[zls,zlz,nr]
  cases ht:l[i]? with
  | none=>
   have e:(none.toList:List CH).flatMap chgB=[]:=rfl;rw[e,my];omega
  | some c=>
   have h2:=zbh (h c (zlg ht));have e:((some c).toList:List CH).flatMap chgB=chgB c:=by simp
   rw[e];omega
def Rz{l:List CH}{c:CH}(h:l[i]?=some c):(l.take (i+1)).flatMap chgB=(l.take i).flatMap chgB++chgB c:=by
 rw[zls,h,zlz];simp
structure DmJ(S:Sto)(T0:List Nat)(i last:Nat)(s:List U)(acc:List Nat):Prop where
 hi:i<=(js S.R).length
 he:acc++Rw ((Sc S).drop i) last s=T0
 bz:acc.length<=10+i*50000000
 sl:s.length<=4096
 ss:Sst jm s
 sz:∀ x∈s,∀ q∈u6 x,q.size<=1000
 lb:∀ (j:Nat) (r:Int),i<=j->(js S.R)[j]?=some r->(last:Int)<r
def Pf{S:Sto}(hD:zjz S)(hB:zpk B w)(hr:(StG b S).P B w C)(hC:ZCB C w B):
  RetY zpl 28 [ct b] w B C (StG b S) (TupS [BsV (L5 (Sc S)) true,fun v _=>v=.int .i64 0]):=by
 have hkl:=hD.kl;have hpb:=hD.pb;have hk0:=hD.k0;have hzl:(Sc S).length=(js S.R).length:=mn ..;have hn0:=ft (n:=(js S.R).length) I;unfold RetY;refine yr 910 (StG b S) Tryz.func28 Z Tryz.ntmps28 (np Z) hB hr hC ((ZaL∘ZaM) ?_);refine qz (u4 L 910 (RsV (js S.R) true) (r:=StG b S) Z Z Z Z Z ma (fun u H2 C2 hH hle hr2 hC2=>Tf hD.n0 I hH hr2 hC2)) ((ZX∘Zaz∘ZM∘Zo∘Zs∘Zl∘Z9∘Z7∘Zf) ?_);refine kq 5 900 rfl fun wb=>?_;refine sn 901 N5 1 (Zee (h:=?_));refine bn (X:=Value) 900 (r:=fun sv=>(GWv wb [] sv).res) (φ:=fun sv _=>Mb sv) f5 (.slice none 0 0) ⟨_,_,_,rfl⟩ Z ((ZY∘Zo) ?_);refine z8 (ku Z Z Z bm.1 bm.2 (wrap_u64 I I)) Z (q0 (yq L 900 (GWr wb (uq (js S.R).length)) (r:=GWr wb []) Z Z Z Z Z (fun u H C hH _ hr hC=>vk (bs:=[]) I J hH hr hC)) ((Zf∘ZP∘ZcJ∘Z7∘Zp∘ZaD∘Zaz∘Z8∘Zcb) ?_));have hj0:DmJ S (L5 (Sc S)) 0 0 [] (uq (js S.R).length):=⟨Nat.zero_le _,by unfold L5;rw[hzl];rfl,by omega,Nat.zero_le _,Sst.nil,(fun _ h=>by cases h),fun j r _ hr=>(ol (u9.1 (List.mem_of_getElem? hr))).1⟩
 generalize L5 (Sc S)=T0 at hj0 |-;refine bn (X:=SXp) 7 (r:=fun x=>gj (scs x.1) tySt) (φ:=Ah []) (k7 []) ⟨(.nilFunc,none,.nilFunc,none),rfl⟩ SetV.nil Z ?_
 refine xo (fun x:Nat×Nat×List U×List Nat=>[(0,.is (ct b)),(5,.is (xy wb)),(6,.is (.int .u64 x.2.1)),(7,.own (ExR (fun y:SXp=>gj (scs y.1) tySt) (Ah x.2.2.1) (k7 _))),(25,.sat (RsV (js S.R) true)),(26,.is (.int .i64 (js S.R).length)),(27,.is (.int .i64 x.1)),(900,.own (GWr wb x.2.2.2).res),(910,.own (StG b S).res)])
  (fun x=>DmJ S T0 x.1 x.2.1 x.2.2.1 x.2.2.2) (fun x=>(js S.R).length-x.1) (0,0,[],uq (js S.R).length) hj0 ⟨rfl,rfl,rfl,rfl,rfl,rfl,rfl,rfl,rfl,nm⟩ ?_
 rintro⟨i,last,s,acc⟩ hj;dsimp only at hj |-;have hbz:=hj.bz;have hsl:=hj.sl;have hss:=hj.ss;by_cases hlt:i<(js S.R).length
 ·obtain⟨r,hr1⟩:=xw hlt;have hk:=u9.1 (zlg hr1);obtain⟨t,ht⟩:=zmq.1 hk;have hb1:=ol hk;obtain⟨rn,rfl⟩:∃ rn:Nat,r=(rn:Int):=⟨r.toNat,by omega⟩
  have hcr:=Qr hr1;have hrl:=hD.rl;have hA:atS S rn=(t,0):=by unfold atS;rw[if_neg I,ht]
  obtain⟨tl,ts,tz⟩:=hD.tl _ _ ht;have hlb:=hj.lb i _ (ns _) hr1;have hws:IntKind.u64.wrap ((rn:Int)-(last:Int))=((rn-last:Nat):Int):=(wrap_u64 I I).trans I;have hcn:List.count (rn:Int) S.P<=S.P.length:=List.count_le_length;have hcw:IntKind.u64.wrap ((List.count (rn:Int) S.P:Nat):Int)=((List.count (rn:Int) S.P:Nat):Int):=wrap_u64 I I;have hzi:(Sc S)[i]?=some ((rn:Int),List.count (rn:Int) S.P,t):=by unfold Sc tZ;rw[List.getElem?_map,hr1];show some ((rn:Int),List.count (rn:Int) S.P,(kpt S.R rn).getD [])=_;rw[ht];rfl
  have he:=hj.he
  have hdr:(Sc S).drop i=((rn:Int),List.count (rn:Int) S.P,t)::(Sc S).drop (i+1):=by
   rw[zl4 I];rw[zlq I] at hzi;rw[Option.some.inj hzi]
  rw[hdr] at he;unfold Rw at he;dsimp only at he;rw[show((rn:Int)-(last:Int)).toNat=rn-last by omega] at he;have hbl:=Gx s t
  have hmz:∀ c∈Ct s t,∀ q∈u6 c.1,q.size<=1000:=fun c hc=>by
   rw[uj] at hc;rcases hc.1 with h | h
   ·exact hj.sz _ h.1
   ·exact tz _ h.2
  have hbt:=zfu hss ts;have hn1:=ft (n:=rn-last) I;have hn2:=ft (n:=List.count (rn:Int) S.P) I
  have hlb2:∀ (j:Nat) (r:Int),i+1<=j->(js S.R)[j]?=some r->(rn:Int)<r:=fun j r hij hr=>by
   have h3:=zmy.1 (iu S.R) i j hlt (get_lt hr) I;rw[f9 hr1,f9 hr] at h3;exact Xi.1 h3
  generalize Ct s t=m at he hbl hmz hbt;have hn3:=ft (n:=m.length) I;have hmw:IntKind.u64.wrap ((m.length:Nat):Int)=((m.length:Nat):Int):=wrap_u64 I I
  have hcnt:∀ {v:Value} {u:World} {H:Heap},zpk H u->PinsP S.P v H->Ret zpl 88 [v,.int .u64 rn] u H (fun v _=>v=.int .i64 (List.count (rn:Int) S.P:Nat)):=fun hH h1=>by
   obtain⟨sv,rfl,hsv⟩:=h1;exact si hD.pl hH hsv
  generalize List.count (rn:Int) S.P=cnt at he hcn hcw hn2 hcnt;have hms:Kn.mono (.sat (SetV t)):=SetV.mono;have hmi:Kn.mono (.sat (fun v _=>v=Value.int .i64 0)):=fun _ _ _ h _=>h;refine(Ze∘ZK∘Zx∘ZQ∘Zab∘ZcN∘Zc∘ZbO) ?_;refine qz (u4 L 910 (WithE t 0) (r:=StG b S) Z Z Z Z Z WithE.mono (fun u H2 C2 hH hle hr2 hC2=>zfv hA hD.n0 hH hr2 hC2)) ((Zk∘Zcz∘ZbB∘Z7) ?_);refine z8 (fq L (X:=SXp) (fun x=>scs x.1) (Ah t) (k7 _) A8 (fun x=>⟨rfl,x.2⟩) Z Z Z Z Z) Z (Zc (h:=?_));refine vu 10 rfl fun x H1 hs1 hset=>?_;obtain⟨⟨f1,p1,f2,p2⟩,hpl⟩:=x;dsimp only[scs] at hset hpl |-;refine vu 7 rfl fun x7 H2 hs2 hset7=>?_;obtain⟨⟨f3,p3,f4,p4⟩,hpl7⟩:=x7;dsimp only[scs] at hset7 hpl7 |-;have hset2:=hset.le hs2.le;refine(ZO∘Zax) ?_;refine q0 (yq L 900 (GWr wb (acc++uq (rn-last))) (r:=GWr wb acc) Z Z Z Z Z (fun u H C hH _ hr hC=>vk I I hH hr hC)) ((Zf∘ZT∘Za) ?_);refine qz (u4 L 910 (PinsP S.P) (r:=StG b S) Z Z Z Z Z PinsP.mono (fun u H2 C2 hH hle hr2 hC2=>Ta hD.n0 hH hr2 hC2)) (Za (h:=?_));refine z8 (zy (r:=.int .i64 cnt) L Z Z (zo Z) Z Z Z (fun u H hH hle _ v1 h1=>hcnt hH h1)) Z (z8 (ku Z Z Z bm.1 bm.2 (wrap_u64 I I)) Z (q0 (yq L 900 (GWr wb (acc++uq (rn-last)++uq cnt)) (r:=GWr wb (acc++uq (rn-last))) Z Z Z Z Z (fun u H C hH _ hr hC=>vk I (by rw[nr];omega) hH hr hC)) ?_));refine Zf (h:=?_);refine(ZV∘Zbp∘Zbp) ?_;refine z8 (xi (φ:=KS tyC m true) L Z Z (zo Z) Z Z Z ma (fun u H hH hle _=>Lh hsl tl hss ts hbt hH (hset7.le hle) (hset2.le hle))) Z ((ZX∘Zf∘ZaV∘Zo) ?_);refine z8 (ku Z Z Z bm.1 bm.2 (wrap_u64 I I)) Z (q0 (yq L 900 (GWr wb (acc++uq (rn-last)++uq cnt++uq m.length)) (r:=GWr wb (acc++uq (rn-last)++uq cnt)) Z Z Z Z Z (fun u H C hH _ hr hC=>vk I (by simp only[nr];omega) hH hr hC)) ?_);refine(Zaz∘Zaw∘Zcb) ?_;obtain⟨A,hA2,hAl⟩:∃ A,acc++uq (rn-last)++uq cnt++uq m.length=A/\A.length<=40+i*50000000:=⟨_,rfl,by simp only[nr];omega⟩
  rw[hA2];refine xo (fun j:Nat=>[(0,.is (ct b)),(5,.is (xy wb)),(6,.is (.int .u64 last)),(7,.own (gj [f3,.pointer p3,f4,.pointer p4] tySt)),(9,.is (.int .u64 rn)),(10,.own (gj [f1,.pointer p1,f2,.pointer p2] tySt)),(25,.sat (RsV (js S.R) true)),(26,.is (.int .i64 (js S.R).length)),(27,.is (.int .i64 i)),(54,.sat (KS tyC m true)),(55,.is (.int .i64 m.length)),(56,.is (.int .i64 j)),(900,.own (GWr wb (A++(m.take j).flatMap chgB)).res),(910,.own (StG b S).res)]) (fun j=>j<=m.length) (fun j=>m.length-j) 0 (mf _) ⟨Z,Z,Z,Z,Z,Z,Z,Z,Z,Z,Z,Z,by rw[zl2,List.flatMap_nil,mo];rfl,Z,nm⟩ ?_;rintro j hjl;have hcl:=Cq hmz j;by_cases hlt2:j<m.length
  ·obtain⟨c,hc⟩:=xw hlt2;have hck:=C8 hc;have hcz:=hmz c (zlg hc);have hsn:=Rz hc;refine(Ze∘Zad∘Zx∘Zbn∘Zab∘ZcB∘ZaT∘Z1∘Zbg∘ZcK) ?_;refine q0 (yq L 900 (GWr wb (A++(m.take j).flatMap chgB++chgB c)) (r:=GWr wb (A++(m.take j).flatMap chgB)) Z Z Z Z Z (fun u H C hH _ hr hC=>Yb hcz (by rw[nr];omega) hH hr hC)) ?_;refine(ZbN∘Zcj∘Zbh) ?_;exact ym (x:=j) (j+1) hlt2 I ⟨Z,Z,Z,Z,Z,Z,Z,Z,Z,Z,Z,Z,by rw[hsn,<-mj];rfl,Z,nm⟩
  ·obtain rfl:j=m.length:=by omega
   rw[zlm] at hcl |-;refine(Ze∘Zad∘ZeZ∘Za2∘Zbq) ?_;refine qh (id:=20) [] x8 T ((Zj∘Zcn∘Zaf) ?_);refine zh (qn L Z Z E Z) Z ((ZbI∘ZaB∘ZbD∘Zbh) ?_);exact ep (X:=SXp) 7 (r:=fun x=>gj (scs x.1) tySt) (k7 t) ⟨(f1,p1,f2,p2),hpl⟩ hset2 Z (wx (x:=(i,last,s,acc)) (i+1,rn,t,A++m.flatMap chgB) (hs1.trans hs2) ⟨hlt,by rw[<-he,<-hA2];unfold X0;simp only[List.append_assoc],by rw[List.length_append];omega,tl,ts,tz,hlb2⟩ M ⟨Z,Z,Z,Z,Z,Z,Z,Z,Z,trivial⟩)
 ·obtain rfl:i=(js S.R).length:=by have:=hj.hi;omega
  have he:=hj.he;rw[zlk I] at he;have he2:acc=T0:=by rw[<-he];exact(mo _).symm
  subst he2;refine(Ze∘ZK∘ZaK∘Zc0) ?_;refine q0 (Bw L 900 GNo (BsV acc true) (r:=GWr wb acc) Z Z Z Z Z ma (fun u H C hH _ hr hC=>Ed (Dd I hH hr hC))) ((ZX∘Zd) ?_);exact pw L 910 (r:=StG b S) (rs:=[.tmp 2,.tmp 3]) Z (fun _ _ h=>h) nq Z Z (fun H _ v hv=>zgx hv)
def zc0{la:Option U}{t:U}:X4 la t=true↔∀ y,la=some y->jm y t<0:=by
 cases la with
 | none=>exact⟨fun _ y h=>(by cases h),fun _=>rfl⟩
 | some y=>exact⟨fun h z hz=>(by cases hz;exact nj h),fun h=>nf (h y rfl)⟩
def Po{l:List U}:∀ {cs:List CH} {la:Option U},zf4 l la cs↔((∀ c∈cs,tE c.1=0/\decide (c.1∈l)=c.2/\∀ y,la=some y->jm y c.1<0)/\Lw cs)
 | [],_=>⟨fun _=>⟨(fun _ h=>by cases h),Sst.nil⟩,fun _=>trivial⟩
 | c::cs,la=>by
  have ih:=Po (l:=l) (cs:=cs) (la:=some c.1);constructor
  ·rintro⟨h1,h2,h3,h4⟩;obtain⟨h4,h5⟩:=ih.1 h4;have hb:=zc0.1 h2;refine⟨fun d hd=>?_,mg.2 ⟨fun a ha=>?_,h5⟩⟩
   ·rcases nw.1 hd with rfl | hd
    ·exact⟨h1,h3,hb⟩
    ·obtain⟨g1,g2,g3⟩:=h4 d hd;exact⟨g1,g2,fun y hy=>cmpT_ord.tr (hb y hy) (g3 _ Z)⟩
   ·obtain⟨d,hd,rfl⟩:=zlb.1 ha;exact(h4 d hd).2.2 _ Z
  ·rintro⟨h1,h2⟩;have h3:=mg.1 h2;obtain⟨g1,g2,g3⟩:=h1 c (mb ..);exact⟨g1,zc0.2 g3,g2,ih.2 ⟨fun d hd=>⟨(h1 d (mc _ hd)).1,(h1 d (mc _ hd)).2.1,fun y hy=>by cases hy;exact h3.1 _ (zm5 (f:=(·.1)) hd)⟩,h3.2⟩⟩
def oy{x:U}:∀ {l:List U},l.Nodup->x∈l->(l.filter fun z=>decide (z≠x)).length+1=l.length
 | [],_,h=>by cases h
 | y::l,hn,h=>by
  obtain⟨h1,h2⟩:=zm9.1 hn;by_cases e:y=x
  ·subst e;have he:(l.filter fun z=>decide (z≠y))=l:=znl.2 fun a ha=>nf (fun e:a=y=>h1 (e ▸ ha));rw[znp (by simp),nz,he]
  ·rw[zm0 (by simp [e]),nz,nz,oy h2 ((nw.1 h).resolve_left fun h=>e h.symm)]
def Lq(l:List U)(c:CH)(cs:List CH):ri l (c::cs)=ri (wa l c.1 c.2).1 cs:=rfl
def zbt(l:List U)(a b:List CH):ri l (a++b)=ri (ri l a) b:=List.foldl_append ..
def Lp:∀ {cs:List CH} {l:List U},SOK l->(∀ c∈cs,c.2=true/\tE c.1=0/\c.1∈l)->cs.Pairwise (fun a b=>a.1≠b.1)->SOK (ri l cs)/\(∀ z,z∈ri l cs↔z∈l/\∀ c∈cs,c.1≠z)/\(ri l cs).length+cs.length=l.length
 | [],l,h,_,_=>⟨h,fun z=>⟨fun h=>⟨h,(fun _ h=>by cases h)⟩,fun h=>h.1⟩,rfl⟩
 | c::cs,l,h,hc,hp=>by
  obtain⟨g1,g2,g3⟩:=hc c (mb ..);have hw:wa l c.1 c.2=(l.filter fun z=>decide (z≠c.1),0):=by unfold wa;rw[if_pos g2,if_pos g1]
  have hp2:=mg.1 hp;have hS:SOK (l.filter fun z=>decide (z≠c.1)):=⟨h.sst.sublist zm7,fun t ht=>h.tz t (zl3.1 ht).1,fun t ht=>h.ok t (zl3.1 ht).1⟩
  obtain⟨i1,i2,i3⟩:=Lp (cs:=cs) hS (fun d hd=>⟨(hc d (mc _ hd)).1,(hc d (mc _ hd)).2.1,zl3.2 ⟨(hc d (mc _ hd)).2.2,nf (hp2.1 d hd).symm⟩⟩) hp2.2;rw[Lq,hw];refine⟨i1,fun z=>?_,?_⟩
  ·rw[i2,zl3];constructor
   ·rintro⟨⟨h1,h2⟩,h3⟩;exact⟨h1,fun d hd=>(nw.1 hd).elim (fun e=>by subst e;exact fun e=>nj h2 e.symm) (h3 d)⟩
   ·rintro⟨h1,h2⟩;exact⟨⟨h1,nf fun e=>h2 c (mb ..) e.symm⟩,fun d hd=>h2 d (mc _ hd)⟩
  ·have:=oy (h.sst.nodup cmpT_ord) g3;rw[nz];dsimp only at i3 |-;omega
def tz_of{t:U}(h:tE t=0):TZ t:=by
 have h6:=Ye h;obtain⟨⟨⟨a,b⟩,c⟩,⟨d,e⟩,f⟩:=t;simp only[u6,nw,zmw,or_false,forall_eq_or_imp,forall_eq] at h6;unfold TZ;dsimp only;omega
def Pv:∀ {cs:List CH} {l:List U},SOK l->(∀ c∈cs,c.2=false/\tE c.1=0/\c.1∉l)->cs.Pairwise (fun a b=>a.1≠b.1)->l.length+cs.length<=4096->SOK (ri l cs)/\(∀ z,z∈ri l cs↔z∈l\/∃ c∈cs,c.1=z)/\(ri l cs).length=l.length+cs.length
 | [],l,h,_,_,_=>⟨h,fun z=>⟨.inl,fun h=>h.elim id (fun⟨_,h,_⟩=>by cases h)⟩,rfl⟩
 | c::cs,l,h,hc,hp,hn=>by
  obtain⟨g1,g2,g3⟩:=hc c (mb ..);rw[nz] at hn;have hw:wa l c.1 c.2=(An jm c.1 l,0):=by unfold wa;rw[if_pos g2,g1,if_neg J,if_neg g3,if_neg I]
  have hp2:=mg.1 hp;have hS:SOK (An jm c.1 l):=⟨da cmpT_ord h.sst g3,fun t ht=>(ge.1 ht).elim (fun e=>e ▸ tz_of g2) (h.tz t),fun t ht=>(ge.1 ht).elim (fun e=>e ▸ g2) (h.ok t)⟩
  obtain⟨i1,i2,i3⟩:=Pv (cs:=cs) hS (fun d hd=>⟨(hc d (mc _ hd)).1,(hc d (mc _ hd)).2.1,fun hm=>(ge.1 hm).elim (fun e=>hp2.1 d hd e.symm) (hc d (mc _ hd)).2.2⟩) hp2.2 (by rw[vo];omega);rw[Lq,hw];rw[vo] at i3;refine⟨i1,fun z=>?_,by rw[List.length_cons];dsimp only at i3 |-;omega⟩;rw[i2,ge];constructor
  ·rintro((e | h) | ⟨d,hd,e⟩)
   ·exact .inr ⟨c,mb ..,e.symm⟩
   ·exact .inl h
   ·exact .inr ⟨d,mc _ hd,e⟩
  ·rintro(h | ⟨d,hd,e⟩)
   ·exact .inl (.inr h)
   ·rcases nw.1 hd with rfl | hd
    ·exact .inl (.inl e.symm)
    ·exact .inr ⟨d,hd,e⟩
def pz{c:CH}:c∈G6 cs↔c∈cs/\c.2=false:=by unfold G6;rw[List.mem_filter];simp
def d8{c:CH}:c∈l9 cs↔c∈cs/\c.2=true:=by unfold l9;rw[List.mem_filter]
def Pg{s:List U}{cs:List CH}(hs:SOK s)(hk:zf4 s none cs):SOK (ri s (l9 cs))/\(∀ z,z∈ri s (l9 cs)↔z∈s/\∀ c∈cs,c.1≠z)/\(ri s (l9 cs)).length+(l9 cs).length=s.length:=by
 obtain⟨h1,h2⟩:=Po.1 hk;obtain⟨i1,i2,i3⟩:=Lp (cs:=l9 cs) hs (fun c hc=>⟨(d8.1 hc).2,(h1 c (d8.1 hc).1).1,nj ((h1 c (d8.1 hc).1).2.1.trans (d8.1 hc).2)⟩) ((ob h2).filter _);refine⟨i1,fun z=>(i2 z).trans ⟨fun⟨h3,h4⟩=>⟨h3,fun c hc e=>?_⟩,fun⟨h3,h4⟩=>⟨h3,fun c hc=>h4 c (d8.1 hc).1⟩⟩,i3⟩
 cases hk:c.2 with
 | true=>exact h4 c (d8.2 ⟨hc,hk⟩) e
 | false=>exact of_decide_eq_false ((h1 c hc).2.1.trans hk) (e ▸ h3)
def zfw{s:List U}{cs:List CH}(hs:SOK s)(hk:zf4 s none cs)(hl:s.length+(G6 cs).length<=4096+(l9 cs).length):SOK (ri s (l9 cs++G6 cs))/\(∀ z,z∈ri s (l9 cs++G6 cs)↔(z∈s/\∀ c∈cs,c.1≠z)\/∃ c∈cs,c.2=false/\c.1=z)/\(ri s (l9 cs++G6 cs)).length+(l9 cs).length=s.length+(G6 cs).length:=by
 obtain⟨h1,h2⟩:=Po.1 hk;obtain⟨i1,i2,i3⟩:=Pg hs hk;obtain⟨j1,j2,j3⟩:=Pv (cs:=G6 cs) i1 (fun c hc=>⟨(pz.1 hc).2,(h1 c (pz.1 hc).1).1,fun hm=>((i2 _).1 hm).2 c (pz.1 hc).1 rfl⟩) ((ob h2).filter _) I;rw[zbt];refine⟨j1,fun z=>?_,by omega⟩;rw[j2,i2];exact or_congr Iff.rfl ⟨fun⟨c,hc,e⟩=>⟨c,(pz.1 hc).1,(pz.1 hc).2,e⟩,fun⟨c,hc,h,e⟩=>⟨c,pz.2 ⟨hc,h⟩,e⟩⟩
def V5{s:List U}(hs:SOK s)(ht:SOK t):zf4 s none (Ct s t):=Po.2 ⟨fun c hc=>by
 rw[uj] at hc;exact⟨hc.1.elim (fun h=>hs.ok _ h.1) fun h=>ht.ok _ h.2,hc.2.symm,fun _ h=>by cases h⟩,Gw s t⟩
def zbn{s:List U}(hs:SOK s)(ht:SOK t):t.length+(l9 (Ct s t)).length=s.length+(G6 (Ct s t)).length:=by
 obtain⟨i1,i2,i3⟩:=Pg hs (V5 hs ht)
 have hp:(ri s (l9 (Ct s t))++(G6 (Ct s t)).map (·.1)).Perm t:=by
  refine(List.perm_ext_iff_of_nodup (List.nodup_append.2 ⟨i1.sst.nodup cmpT_ord,?_,?_⟩) (ht.sst.nodup cmpT_ord)).2 fun z=>?_
  ·exact zou.2 ((ob (Gw s t)).filter _)
  ·intro a ha b hb e;obtain⟨c,hc,rfl⟩:=zlb.1 hb;exact((i2 a).1 ha).2 c (pz.1 hc).1 e.symm
  ·rw[mi,i2,zlb];constructor
   ·rintro(⟨h1,h2⟩ | ⟨c,hc,rfl⟩)
    ·exact Decidable.byContradiction fun h=>h2 (z,true) (uj.2 ⟨.inl ⟨h1,h⟩,(nf h1).symm⟩) Z
    ·have h1:=pz.1 hc;have h2:=uj.1 h1.1;rcases h2.1 with h | h
     ·exact ni h.1 (of_decide_eq_false (h2.2.symm.trans h1.2))
     ·exact h.2
   ·intro hz;by_cases h1:z∈s
    ·refine .inl ⟨h1,fun c hc e=>?_⟩;subst e;rcases(uj.1 hc).1 with h | h
     ·exact h.2 hz
     ·exact h.1 h1
    ·exact .inr ⟨(z,false),pz.2 ⟨uj.2 ⟨.inr ⟨h1,hz⟩,(ng h1).symm⟩,rfl⟩,rfl⟩
 have:=hp.length_eq;rw[nr,mn] at this;omega
def zbo{s:List U}(hs:SOK s)(ht:SOK t)(lt:t.length<=4096):s.length+(G6 (Ct s t)).length<=4096+(l9 (Ct s t)).length/\ri s (l9 (Ct s t)++G6 (Ct s t))=t:=by
 have h0:=zbn hs ht;obtain⟨i1,i2,i3⟩:=zfw hs (V5 hs ht) I;refine⟨by omega,dq cmpT_ord i1.sst ht.sst fun z=>?_⟩;rw[i2];constructor
 ·rintro(⟨h1,h2⟩ | ⟨c,hc,h1,rfl⟩)
  ·exact Decidable.byContradiction fun h=>h2 (z,true) (uj.2 ⟨.inl ⟨h1,h⟩,(nf h1).symm⟩) Z
  ·have h2:=uj.1 hc;rcases h2.1 with h | h
   ·exact ni h.1 (of_decide_eq_false (h2.2.symm.trans h1))
   ·exact h.2
 ·intro hz;by_cases h1:z∈s
  ·refine .inl ⟨h1,fun c hc e=>?_⟩;subst e;rcases(uj.1 hc).1 with h | h
   ·exact h.2 hz
   ·exact h.1 h1
  ·exact .inr ⟨(z,false),uj.2 ⟨.inr ⟨h1,hz⟩,(ng h1).symm⟩,rfl,rfl⟩
def kzs(ks:List K3):List (Int×List U):=ks.map fun k=>(k.1,k.2.2)
def kpi(ks:List K3):List Int:=ks.flatMap fun k=>List.replicate k.2.1 k.1
def KOK:List K3->Int->Prop
 | [],_=>True
 | k::ks,last=>last<k.1/\k.1<=18446744073709551615/\k.2.1<=4096/\SOK k.2.2/\k.2.2.length<=4096/\KOK ks k.1
def zj7:SOK []:=⟨Sst.nil,(fun _ h=>by cases h),(fun _ h=>by cases h)⟩
def zhe(h0:R.err=0)(hn:n<18446744073709551616)(hd:bs.drop R.at_=uq n++rest):oc bs R=(n,⟨R.at_+(uq n).length,R.bad,0⟩):=by
 unfold oc l8;rw[Ot hn hd,h0,nc (fun h=>h rfl)];dsimp only;rw[nc (fun h=>h rfl)]
def zcr{bs rest:List Nat}:∀ {ks:List K3} {last:Nat} {s:List U} {acc:List (Int×List U)} {Q:List Int} {R:Rd},R.err=0->SOK s->s.length<=4096->KOK ks last->bs.drop R.at_=Rw ks last s++rest->
  ldW bs ks.length last s acc Q R=(((acc++kzs ks,Q++kpi ks),⟨R.at_+(Rw ks last s).length,R.bad,0⟩),(0,0))
 | [],last,s,acc,Q,⟨a,b,e⟩,h0,_,_,_,_=>by
  dsimp only at h0;subst h0;show(((acc,Q),(⟨a,b,0⟩:Rd)),((0:Int),(0:Int)))=(((acc++[],Q++[]),⟨a+0,b,0⟩),(0,0));rw[mo,mo];rfl
 | (r,n,t)::ks,last,s,acc,Q,R,h0,hs,hl,hk,hd=>by
  obtain⟨k1,k2,k3,k4,k5,k6⟩:=hk;dsimp only at k1 k2 k3 k4 k5 k6;obtain⟨st,rfl,hst⟩:∃ st:Nat,r=((last+st:Nat):Int)/\0<st:=⟨(r-last).toNat,by omega,by omega⟩
  unfold Rw at hd |-;dsimp only at hd |-;rw[show(((last+st:Nat):Int)-(last:Int)).toNat=st by omega] at hd |-;rw[mj,mj,mj] at hd;have h1:=zhe h0 I hd;have h2:=O5 (lim:=4096) (R:=⟨R.at_+(uq st).length,R.bad,0⟩) rfl (Ot (n:=n) I (vq hd)) rfl k3 J;have hb:=zbo hs k4 k5;have hbl:=Gx s t;have h3:=zfk (R:=⟨R.at_+(uq st).length+(uq n).length,R.bad,0⟩) rfl I (V5 hs k4) hb.1 (vq (vq hd));rw[hb.2] at h3;have ih:=zcr (ks:=ks) (last:=last+st) (s:=t) (acc:=acc++[(((last+st:Nat):Int),t)]) (Q:=Q++List.replicate n ((last+st:Nat):Int)) (R:=⟨R.at_+(uq st).length+(uq n).length+(X0 (Ct s t)).length,R.bad,0⟩) rfl k4 k5 k6 (vq (vq (vq hd)));rw[nz];unfold ldW;rw[h1];dsimp only;rw[nc (fun h=>h rfl),nc (fun h=>h ⟨hst,by omega⟩),h2];dsimp only;rw[nc (fun h=>h rfl),h3];dsimp only;rw[nc (fun h=>h rfl),zl6,ih];unfold kzs kpi;simp only[mq,zly,mj,nr,zll,mh,zns]
def zhp{ks:List K3}(hk:KOK ks 0)(h0:0<ks.length)(h1:ks.length<=1024):ldF (L5 ks)=((kzs ks,kpi ks),(0,0)):=by
 have hd:(L5 ks).drop (⟨0,0,0⟩:Rd).at_=uq ks.length++(Rw ks (0:Nat) []++[]):=by rw[mo];rfl
 have h2:=O5 (lim:=1024) (R:=⟨0,0,0⟩) rfl (Ot (n:=ks.length) I hd) rfl h1 J;have h3:=zcr (bs:=L5 ks) (acc:=[]) (Q:=[]) (R:=⟨0+(uq ks.length).length,0,0⟩) rfl zj7 (mf _) hk (vq hd);unfold ldF;rw[h2];dsimp only;rw[nc (fun h=>h rfl),nc I,zl6,h3];dsimp only;have he:Gn (L5 ks) ⟨0+(uq ks.length).length+(Rw ks (0:Nat) []).length,0,0⟩=(0,0):=za8 rfl (by unfold L5;rw[List.length_append];dsimp only;exact(by simp));rw[nc (fun h=>h rfl),he,nc (fun h=>h rfl)];rfl
end Go.V.L11
namespace Go.V.L10
open Go.V.L2 Go.V.L8 Go.V.L6
attribute [local irreducible] RetO RetT kr RetX RetY
end Go.V.L10
namespace Go.V.L11
open Go.V.L2 Go.V.L3 Go.V.L4 Go.V.L6 Go.V.L8 Go.V.L10
attribute [local irreducible] XP LV RetO RetT kr RetX RetY Pan bp
open Go.V.Bd
end Go.V.L11
namespace Go.V.L2
end Go.V.L2
namespace Go.V.L8
open Go.V.L2 Go.V.L3 Go.V.L6
attribute [local irreducible] RetO RetT kr
end Go.V.L8
namespace Go.V.L11
open Go.V.L2 Go.V.L3 Go.V.L4 Go.V.L6 Go.V.L8 Go.V.L10
def Td{t:List U}(h:SOK t):∀ x∈t,∀ s∈u6 x,s.size<=1000:=fun x hx s hs=>zld (Ye (h.ok x hx) s hs) J
def zh9{s t:List U}(hs:SOK s)(ht:SOK t):∀ c∈Ct s t,∀ q∈u6 c.1,q.size<=1000:=fun c hc=>by
 rw[uj] at hc;rcases hc.1 with h | h
 ·exact Td hs _ h.1
 ·exact Td ht _ h.2
attribute [local irreducible] XP LV RetO RetT kr RetX RetY Pan bp
abbrev zf7:Nat:=37
abbrev tyI:Nat:=3
abbrev tyE:Nat:=43
def Ap{y r:ByteArray}(h:Ec y=some r)(hs:y.size<=9223372036854775807)(hB:zpk B w):
  Ret zpl 130 [.string y,.string ⟨#[10]⟩] w B (fun v _=>v=.tuple #[.string r,.bool true]):=by
 have e1:=Cm h;have e:y.data.toList=r.data.toList++[10]:=by rw[e1,kg]
 have h1:Lib.hasSuffix y.data.toList [10]=true:=by
  rw[e];exact List.isSuffixOf_iff_suffix.2 (List.suffix_append _ _)
 refine Pm hs h1 ?_ hB;unfold Lib.trimSuffix;rw[na h1,e];apply wn;simp
def V4{y:ByteArray}(h:Ec y=none)(hs:y.size<=9223372036854775807)(hB:zpk B w):
  Ret zpl 130 [.string y,.string ⟨#[10]⟩] w B (fun v _=>v=.tuple #[.string y,.bool false]):=by
 have h1:Lib.hasSuffix y.data.toList [10]=false:=by
  cases hh:Lib.hasSuffix y.data.toList [10]
  ·rfl
  ·obtain⟨t,ht⟩:=List.isSuffixOf_iff_suffix.1 hh;unfold Ec at h;rw[na (by rw[<-ht];simp)] at h;cases h
 refine Pm hs h1 ?_ hB;unfold Lib.trimSuffix;rw[nc (by rw[h1];decide)]
def Qy{rd:ByteArray->U×Int}{rdf:Nat}(hfn:L.fn rdf=some ())(hs:s.size<=1000000)(hB:zpk B w)
  (hrd:∀ (r:ByteArray),r.size<=1000000->∀ (u:World) (H:Heap),zpk H u->B.Le H->Ret zpl rdf [.string r] u H (fun v _=>v=.tuple #[uv (rd r).1,.int .i64 (rd r).2])):
  Ret zpl 62 [.string s,.func (.func rdf) #[] #[]] w B (TupS [US (tw rd s).1 true,fun v _=>v=.int .i64 (tw rd s).2.1,fun v _=>v=.int .i64 (tw rd s).2.2]):=by
 have hF:tw rd s=du rd [] 1 (pu s):=nc I;rw[hF];refine yf Tryz.func62 Z Tryz.ntmps62 (np Z) hB ((Zba∘Z7∘Z7∘Zbw∘Zbf∘Zan∘ZD∘Zl∘ZR∘Zbw∘Z2) ?_);refine z8 (xi L Z Z (zo Z) Z Z Z LinAt.mono (fun u H hH _ _=>Kw hH)) Z (ZcD (h:=?_));refine kq 3 83 rfl fun b3=>?_;refine wd 83 rfl fun H1 hs1 _ hb3=>?_;refine kq 4 84 rfl fun b4=>?_;refine kq 5 85 rfl fun b5=>?_;refine kq 6 86 rfl fun b6=>?_;refine Aa 7 rfl fun b7 hb7=>?_;refine sn 87 tyU 6 (sw 87 [] Z Z ?_);refine Cw 18 rfl fun v18 H2 hs2 ⟨lb,e18,hlb⟩=>?_;subst e18;have hsB:=hs1.trans hs2;have hnil:du rd [] 1 (re [])=([],0,0):=rfl
 refine l7 L (gf:=198) (caps:=[xy lb]) [(3,xy b3),(4,xy b4),(5,xy b5),(6,xy b6),(7,xy b7)]
  (fun pre=>[(84,xk b4 [.slice none 0 0] zf7),(85,xk b5 [.int .i64 (du rd [] 1 (re pre)).2.1] tyI),(86,xk b6 [.int .i64 (du rd [] 1 (re pre)).2.2] tyE),(87,Sd b7 zf7 (SlR tyU 6 (tx rd 1 (re pre)).length ((tx rd 1 (re pre)).flatMap ucs)))])
  (fun pre x=>[(84,.own (xk b4 [.slice none 0 0] zf7)),(85,.own (xk b5 [.int .i64 (du rd [] 1 (re pre)).2.1] tyI)),(86,.own (xk b6 [.int .i64 (du rd [] 1 (re pre)).2.2] tyE)),(87,.own (Sd b7 zf7 (SlR tyU 6 (tx rd 1 (re pre)).length ((tx rd 1 (re pre)).flatMap ucs)))),
   (3,.is (xy b3)),(4,.is (xy b4)),(5,.is (xy b5)),(6,.is (xy b6)),(7,.is (xy b7)),(8,.is (x.headD undef)),(9,.is (x.tail.headD undef))])
  (fh 1 (vi (pu s))) (fun p=>!we rd 1 (re p)) (fun _=>.ret) rfl rfl rfl ⟨rfl,rfl,rfl,rfl,rfl,rfl,rfl,rfl,rfl,nm⟩
  (fun pre p hp=>by simp only[nw,zmj,or_false] at hp;rcases hp with rfl | rfl | rfl | rfl<;>exact np rfl) rfl
  (fun x hx=>by obtain⟨p,q,e⟩:=zng hx;obtain⟨ls,y,_,rfl,_⟩:=Dv (pre:=p) (x:=x) ⟨q,by rw[e];simp⟩;rfl) J
  (fun u H hH hle=>Cb I hH (hle _ _ hlb)) ?asg ?bd ?dn ?st
 case asg=>
  intro w1 Ln B' l' D' o pre x' hpre hstp hBB;obtain⟨ls,y,rfl,rfl,hls⟩:=Dv hpre;refine(Ze∘ZY∘Zd∘ZP∘ZaU) ?_;exact R7 nq ⟨Z,Z,Z,Z,Z,Z,Z,Z,Z,Z,Z,nm⟩
 case bd=>
  intro w1 Ln B' l' D' o pre x' hpre hstp hBB;obtain⟨ls,y,rfl,rfl,hls⟩:=Dv hpre
  have hg:we rd 1 ls=true:=by
   have:=hstp;rw[kx] at this;simpa using this
  have e3:=i9 ls y;rw[<-e3];have hb3':=hBB _ _ (hs2.le _ _ hb3)
  have hln:ls.length+1<=1000000:=by
   have h1:=hls.length_le;have h2:=oh s;rw[nr] at h1;simp at h1;omega
  have hys:y.size<=1000000:=by
   have:=Kx (s:=s) (y:=y) (hls.subset (by simp));omega
  rw[kx,r7 hg,r9 hg];have hvl:(rc rd ls).length<=ls.length:=Ab;by_cases hn:4096<ls.length+1
  ·have hp:=i7 (rd:=rd) (ys:=[]) (y:=y) hg I;have hbad:we rd 1 (ls++[y])=false:=by rw[ve,hg];unfold rf;simp;omega
   have how:tx rd 1 (ls++[y])=rc rd ls:=by rw[fm hg];unfold tx;rw[if_pos (by unfold rf;simp;omega),List.append_nil]
   refine(ZF∘Ze∘Z3∘ZN∘Zr∘Za4) ?_;refine xf (yc L (q:=84) (cs':=[.slice none 0 0]) Z Z Z Z Z) (xf (yc L (q:=85) (cs':=[.int .i64 ((ls.length+1:Nat):Int)]) Z Z Z Z Z) (xf (yc L (q:=86) (cs':=[.int .i64 3]) Z Z Z Z Z) (Z1 (h:=?_))));refine o8 (Cz (bi (G5 nq (by rw[kx,hbad];rfl) Z ?_)));rw[kx,hp,how,zmx 1];exact⟨Z,Z,Z,Z,nm⟩
  ·cases he:Ec y with
   | none=>
    have hp:=i8 (rd:=rd) (ys:=[]) (y:=y) hg I he;have hbad:we rd 1 (ls++[y])=false:=by rw[ve,hg];unfold rf;rw[he];simp
    have how:tx rd 1 (ls++[y])=rc rd ls:=by rw[fm hg];unfold tx;rw[if_pos (by unfold rf;rw[he];simp),List.append_nil]
    refine(ZF∘Ze∘Z3∘ZD∘Zl∘Zat) ?_;refine z81 L Z (fun u H hH _=>V4 he I hH) ?_;refine(Zy∘Zbk∘Zah∘Za∘Zt∘Zr∘ZO∘Za) ?_;refine xf (yc L (q:=84) (cs':=[.slice none 0 0]) Z Z Z Z Z) (xf (yc L (q:=85) (cs':=[.int .i64 ((ls.length+1:Nat):Int)]) Z Z Z Z Z) (xf (yc L (q:=86) (cs':=[.int .i64 5]) Z Z Z Z Z) (Z1 (h:=?_))));refine o8 (Cz (bi (G5 nq (by rw[kx,hbad];rfl) Z ?_)));rw[kx,hp,how,zmx 1];exact⟨Z,Z,Z,Z,nm⟩
   | some r=>
    have hrs:r.size<=1000000:=by
     have:=nh ByteArray.size (Cm he);rw[m9] at this;omega
    obtain⟨t,e,hrt⟩:∃ t e,rd r=(t,e):=⟨_,_,rfl⟩
    have hrr:=hrd r hrs;rw[hrt] at hrr;by_cases h0:e=0
    ·subst h0;have hgood:we rd 1 (ls++[y])=true:=by rw[ve,hg];unfold rf;rw[he];simp [hrt];omega
     have hp:=r7 hgood;have how:=r9 hgood;have hvs:=Hf (rd:=rd) (ls:=ls) he;rw[hrt] at hvs;refine(ZF∘Ze∘Z3∘ZD∘Zl∘Zat) ?_;refine z81 L Z (fun u H hH _=>Ap he I hH) ?_;refine(Zy∘Zbk∘Zah∘Za∘Zt∘Zl∘ZT) ?_;refine z8 (qf L (qk Z hb3') Z Z Z Z) Z (Za (h:=?_));refine z8 (zy L Z Z (zo Z) Z Z hfn (fun u H hH hle _=>hrr u H hH (hsB.le.trans (hBB.trans hle)))) Z ((Zbv∘Zi∘ZV∘Za∘ZG∘ZZ∘Zbq) ?_);refine cq 87 _ Z SlR.shape fun z hz=>?_;obtain⟨p,c,rfl⟩:=hz;refine(Zaw∘ZcA) ?_;refine v7 42 87 rfl rfl ((ZaI∘Zap∘ZdL) ?_);refine ln 45 87 _ rfl SlR.shape fun z hz=>?_;obtain⟨p',c',rfl⟩:=hz;refine(ZdI∘ZS∘Zay) ?_;refine s0 87 [] Z Z (R8 nq (by rw[kx,hgood];rfl) ?_);rw[kx,hp,how,hvs,zlz,nr];exact⟨Z,Z,Z,Z,nm⟩
    ·have hp:=Ai (rd:=rd) (ys:=[]) (y:=y) hg I he (by rw[hrt];exact h0);rw[hrt] at hp;have hbad:we rd 1 (ls++[y])=false:=by rw[ve,hg];unfold rf;rw[he];simp [hrt,h0]
     have how:tx rd 1 (ls++[y])=rc rd ls:=by rw[fm hg];unfold tx;rw[if_pos (by unfold rf;rw[he];simp [hrt,h0]),List.append_nil]
     refine(ZF∘Ze∘Z3∘ZD∘Zl∘Zat) ?_;refine z81 L Z (fun u H hH _=>Ap he I hH) ?_;refine(Zy∘Zbk∘Zah∘Za∘Zt∘Zl∘ZT) ?_;refine z8 (qf L (qk Z hb3') Z Z Z Z) Z (Za (h:=?_));refine z8 (zy L Z Z (zo Z) Z Z hfn (fun u H hH hle _=>hrr u H hH (hsB.le.trans (hBB.trans hle)))) Z ((Zbv∘Zi∘ZV∘Za∘Zao∘ZaV∘Zb) ?_);refine xf (yc L (q:=84) (cs':=[.slice none 0 0]) Z Z Z Z Z) (xf (yc L (q:=85) (cs':=[.int .i64 ((ls.length+1:Nat):Int)]) Z Z Z Z Z) (xf (yc L (q:=86) (cs':=[.int .i64 e]) Z Z Z Z Z) (Z1 (h:=?_))));refine o8 (Cz (bi (G5 nq (by rw[kx,hbad];rfl) Z ?_)));rw[kx,hp,how,zmx 1];exact⟨Z,Z,Z,Z,nm⟩
 case st=>
  intro l' D' o hstop;obtain⟨ks,h1,h2,h3⟩:=bw rd (pu s) [] rfl;have h1':jh (fun p=>!we rd 1 (re p)) [] (fh 1 (vi (pu s)))=fh 1 (vi ks):=h1;rw[h1',kx] at hstop;have hbad:we rd 1 ks=false:=by simpa using hstop
  have hn1:=Ff (out:=[]) hbad;have h2':du rd [] 1 ks=du rd [] 1 (pu s):=h2;rw[h1',kx,h2'];rw[h2'] at hn1;generalize du rd [] 1 (pu s)=R at hn1 |-;obtain⟨R1,R2,R3⟩:=R;dsimp only at hn1;subst hn1;refine w6 4 84 rfl Z (w6 5 85 rfl Z (w6 6 86 rfl Z ?_));refine Lu L (rs:=[.cell 4 zf7,.cell 5 tyI,.cell 6 tyE]) Z (fun _ _ h=>h) hsB fun O' u H hH hle=>?_;exact jd (qs Z) Z (jd (qs Z) Z (jd (qs Z) Z (tup3 SlV.nil Z Z)))
 case dn=>
  intro l' D' o hgo;obtain⟨ks,h1,h2,h3⟩:=bw rd (pu s) [] rfl;have h1':jh (fun p=>!we rd 1 (re p)) [] (fh 1 (vi (pu s)))=fh 1 (vi ks):=h1;rw[h1',kx] at hgo;have hg:we rd 1 ks=true:=by simpa using hgo
  have hkl:ks=pu s:=h3 hg;have hll:=oh s;have hvl:(rc rd ks).length<=ks.length:=Ab;rw[h1',kx,<-hkl,r7 hg,r9 hg];refine Zay (h:=?_);refine Zbq (h:=?_);refine cq 87 _ Z SlR.shape fun z hz=>?_;obtain⟨p,c,rfl⟩:=hz;refine(Ze∘Zad∘ZcA) ?_;refine v7 46 87 rfl rfl (rp 46 rfl ((ZcA∘Zcl∘ZcA∘Zcl∘Zdz) ?_));refine v6 51 rfl fun sv H3 hs3 hsv=>?_;obtain⟨p1,c1,rfl⟩:=jg hsv;refine xf (yc L (q:=84) (cs':=[.slice p1 (rc rd ks).length c1]) rfl rfl rfl rfl rfl) (xf (yc L (q:=85) (cs':=[.int .i64 0]) rfl rfl rfl rfl rfl) (xf (yc L (q:=86) (cs':=[.int .i64 0]) rfl rfl rfl rfl rfl) (Z1 (h:=?_))));refine w6 4 84 rfl Z (w6 5 85 rfl Z (w6 6 86 rfl Z ?_));refine Lu L (rs:=[.cell 4 zf7,.cell 5 tyI,.cell 6 tyE]) Z (fun _ _ h=>h) (hsB.trans hs3) fun O' u H hH hle=>?_;exact jd (qs Z) Z (jd (qs Z) Z (jd (qs Z) Z (tup3 (hsv.le hle) Z Z)))
def Qz{rd:ByteArray->CH×Int}{rdf:Nat}(hfn:L.fn rdf=some ())(hs:s.size<=1000000)(hB:zpk B w)
  (hrd:∀ (r:ByteArray),r.size<=1000000->∀ (u:World) (H:Heap),zpk H u->B.Le H->Ret zpl rdf [.string r] u H (fun v _=>v=.tuple #[cvC (rd r).1,.int .i64 (rd r).2])):
  Ret zpl 64 [.string s,.func (.func rdf) #[] #[]] w B (TupS [KS tyC (tw rd s).1 true,fun v _=>v=.int .i64 (tw rd s).2.1,fun v _=>v=.int .i64 (tw rd s).2.2]):=by
 have hF:tw rd s=du rd [] 1 (pu s):=nc I;rw[hF];refine yf Tryz.func64 Z Tryz.ntmps64 (np Z) hB ((Zba∘Z7∘Z7∘Zbw∘Zbf∘Zan∘ZD∘Zl∘ZR∘Zbw∘Z2) ?_);refine z8 (xi L Z Z (zo Z) Z Z Z LinAt.mono (fun u H hH _ _=>Kw hH)) Z (ZcD (h:=?_));refine kq 3 83 rfl fun b3=>?_;refine wd 83 rfl fun H1 hs1 _ hb3=>?_;refine kq 4 84 rfl fun b4=>?_;refine kq 5 85 rfl fun b5=>?_;refine kq 6 86 rfl fun b6=>?_;refine Aa 7 rfl fun b7 hb7=>?_;refine sn 87 tyC 7 (sw 87 [] Z Z ?_);refine Cw 18 rfl fun v18 H2 hs2 ⟨lb,e18,hlb⟩=>?_;subst e18;have hsB:=hs1.trans hs2;have hnil:du rd [] 1 (re [])=([],0,0):=rfl
 refine l7 L (gf:=198) (caps:=[xy lb]) [(3,xy b3),(4,xy b4),(5,xy b5),(6,xy b6),(7,xy b7)]
  (fun pre=>[(84,xk b4 [.slice none 0 0] zde),(85,xk b5 [.int .i64 (du rd [] 1 (re pre)).2.1] tyI),(86,xk b6 [.int .i64 (du rd [] 1 (re pre)).2.2] tyE),(87,Sd b7 zde (SlR tyC 7 (tx rd 1 (re pre)).length ((tx rd 1 (re pre)).flatMap ccs)))])
  (fun pre x=>[(84,.own (xk b4 [.slice none 0 0] zde)),(85,.own (xk b5 [.int .i64 (du rd [] 1 (re pre)).2.1] tyI)),(86,.own (xk b6 [.int .i64 (du rd [] 1 (re pre)).2.2] tyE)),(87,.own (Sd b7 zde (SlR tyC 7 (tx rd 1 (re pre)).length ((tx rd 1 (re pre)).flatMap ccs)))),
   (3,.is (xy b3)),(4,.is (xy b4)),(5,.is (xy b5)),(6,.is (xy b6)),(7,.is (xy b7)),(8,.is (x.headD undef)),(9,.is (x.tail.headD undef))])
  (fh 1 (vi (pu s))) (fun p=>!we rd 1 (re p)) (fun _=>.ret) rfl rfl rfl ⟨rfl,rfl,rfl,rfl,rfl,rfl,rfl,rfl,rfl,nm⟩
  (fun pre p hp=>by simp only[nw,zmj,or_false] at hp;rcases hp with rfl | rfl | rfl | rfl<;>exact np rfl) rfl
  (fun x hx=>by obtain⟨p,q,e⟩:=zng hx;obtain⟨ls,y,_,rfl,_⟩:=Dv (pre:=p) (x:=x) ⟨q,by rw[e];simp⟩;rfl) J
  (fun u H hH hle=>Cb I hH (hle _ _ hlb)) ?asg ?bd ?dn ?st
 case asg=>
  intro w1 Ln B' l' D' o pre x' hpre hstp hBB;obtain⟨ls,y,rfl,rfl,hls⟩:=Dv hpre;refine(Ze∘ZY∘Zd∘ZP∘ZaU) ?_;exact R7 nq ⟨Z,Z,Z,Z,Z,Z,Z,Z,Z,Z,Z,nm⟩
 case bd=>
  intro w1 Ln B' l' D' o pre x' hpre hstp hBB;obtain⟨ls,y,rfl,rfl,hls⟩:=Dv hpre
  have hg:we rd 1 ls=true:=by
   have:=hstp;rw[kx] at this;simpa using this
  have e3:=i9 ls y;rw[<-e3];have hb3':=hBB _ _ (hs2.le _ _ hb3)
  have hln:ls.length+1<=1000000:=by
   have h1:=hls.length_le;have h2:=oh s;rw[nr] at h1;simp at h1;omega
  have hys:y.size<=1000000:=by
   have:=Kx (s:=s) (y:=y) (hls.subset (by simp));omega
  rw[kx,r7 hg,r9 hg];have hvl:(rc rd ls).length<=ls.length:=Ab;by_cases hn:4096<ls.length+1
  ·have hp:=i7 (rd:=rd) (ys:=[]) (y:=y) hg I;have hbad:we rd 1 (ls++[y])=false:=by rw[ve,hg];unfold rf;simp;omega
   have how:tx rd 1 (ls++[y])=rc rd ls:=by rw[fm hg];unfold tx;rw[if_pos (by unfold rf;simp;omega),List.append_nil]
   refine(ZF∘Ze∘Z3∘ZN∘Zr∘Za4) ?_;refine xf (yc L (q:=84) (cs':=[.slice none 0 0]) Z Z Z Z Z) (xf (yc L (q:=85) (cs':=[.int .i64 ((ls.length+1:Nat):Int)]) Z Z Z Z Z) (xf (yc L (q:=86) (cs':=[.int .i64 3]) Z Z Z Z Z) (Z1 (h:=?_))));refine o8 (Cz (bi (G5 nq (by rw[kx,hbad];rfl) Z ?_)));rw[kx,hp,how,zmx 1];exact⟨Z,Z,Z,Z,nm⟩
  ·cases he:Ec y with
   | none=>
    have hp:=i8 (rd:=rd) (ys:=[]) (y:=y) hg I he;have hbad:we rd 1 (ls++[y])=false:=by rw[ve,hg];unfold rf;rw[he];simp
    have how:tx rd 1 (ls++[y])=rc rd ls:=by rw[fm hg];unfold tx;rw[if_pos (by unfold rf;rw[he];simp),List.append_nil]
    refine(ZF∘Ze∘Z3∘ZD∘Zl∘Zat) ?_;refine z81 L Z (fun u H hH _=>V4 he I hH) ?_;refine(Zy∘Zbk∘Zah∘Za∘Zt∘Zr∘ZO∘Za) ?_;refine xf (yc L (q:=84) (cs':=[.slice none 0 0]) Z Z Z Z Z) (xf (yc L (q:=85) (cs':=[.int .i64 ((ls.length+1:Nat):Int)]) Z Z Z Z Z) (xf (yc L (q:=86) (cs':=[.int .i64 5]) Z Z Z Z Z) (Z1 (h:=?_))));refine o8 (Cz (bi (G5 nq (by rw[kx,hbad];rfl) Z ?_)));rw[kx,hp,how,zmx 1];exact⟨Z,Z,Z,Z,nm⟩
   | some r=>
    have hrs:r.size<=1000000:=by
     have:=nh ByteArray.size (Cm he);rw[m9] at this;omega
    obtain⟨t,e,hrt⟩:∃ t e,rd r=(t,e):=⟨_,_,rfl⟩
    have hrr:=hrd r hrs;rw[hrt] at hrr;by_cases h0:e=0
    ·subst h0;have hgood:we rd 1 (ls++[y])=true:=by rw[ve,hg];unfold rf;rw[he];simp [hrt];omega
     have hp:=r7 hgood;have how:=r9 hgood;have hvs:=Hf (rd:=rd) (ls:=ls) he;rw[hrt] at hvs;refine(ZF∘Ze∘Z3∘ZD∘Zl∘Zat) ?_;refine z81 L Z (fun u H hH _=>Ap he I hH) ?_;refine(Zy∘Zbk∘Zah∘Za∘Zt∘Zl∘ZT) ?_;refine z8 (qf L (qk Z hb3') Z Z Z Z) Z (Za (h:=?_));refine z8 (zy L Z Z (zo Z) Z Z hfn (fun u H hH hle _=>hrr u H hH (hsB.le.trans (hBB.trans hle)))) Z ((Zbv∘Zi∘ZV∘Za∘ZG∘ZZ∘Zbq) ?_);refine cq 87 _ Z SlR.shape fun z hz=>?_;obtain⟨p,c,rfl⟩:=hz;refine(Zaw∘ZcA) ?_;refine v7 42 87 rfl rfl ((ZcK∘Zap∘ZcL) ?_);refine ln 45 87 _ rfl SlR.shape fun z hz=>?_;obtain⟨p',c',rfl⟩:=hz;refine(ZdI∘ZS∘Zay) ?_;refine s0 87 [] Z Z (R8 nq (by rw[kx,hgood];rfl) ?_);rw[kx,hp,how,hvs,zlz,nr];exact⟨Z,Z,Z,Z,nm⟩
    ·have hp:=Ai (rd:=rd) (ys:=[]) (y:=y) hg I he (by rw[hrt];exact h0);rw[hrt] at hp;have hbad:we rd 1 (ls++[y])=false:=by rw[ve,hg];unfold rf;rw[he];simp [hrt,h0]
     have how:tx rd 1 (ls++[y])=rc rd ls:=by rw[fm hg];unfold tx;rw[if_pos (by unfold rf;rw[he];simp [hrt,h0]),List.append_nil]
     refine(ZF∘Ze∘Z3∘ZD∘Zl∘Zat) ?_;refine z81 L Z (fun u H hH _=>Ap he I hH) ?_;refine(Zy∘Zbk∘Zah∘Za∘Zt∘Zl∘ZT) ?_;refine z8 (qf L (qk Z hb3') Z Z Z Z) Z (Za (h:=?_));refine z8 (zy L Z Z (zo Z) Z Z hfn (fun u H hH hle _=>hrr u H hH (hsB.le.trans (hBB.trans hle)))) Z ((Zbv∘Zi∘ZV∘Za∘Zao∘ZaV∘Zb) ?_);refine xf (yc L (q:=84) (cs':=[.slice none 0 0]) Z Z Z Z Z) (xf (yc L (q:=85) (cs':=[.int .i64 ((ls.length+1:Nat):Int)]) Z Z Z Z Z) (xf (yc L (q:=86) (cs':=[.int .i64 e]) Z Z Z Z Z) (Z1 (h:=?_))));refine o8 (Cz (bi (G5 nq (by rw[kx,hbad];rfl) Z ?_)));rw[kx,hp,how,zmx 1];exact⟨Z,Z,Z,Z,nm⟩
 case st=>
  intro l' D' o hstop;obtain⟨ks,h1,h2,h3⟩:=bw rd (pu s) [] rfl;have h1':jh (fun p=>!we rd 1 (re p)) [] (fh 1 (vi (pu s)))=fh 1 (vi ks):=h1;rw[h1',kx] at hstop;have hbad:we rd 1 ks=false:=by simpa using hstop
  have hn1:=Ff (out:=[]) hbad;have h2':du rd [] 1 ks=du rd [] 1 (pu s):=h2;rw[h1',kx,h2'];rw[h2'] at hn1;generalize du rd [] 1 (pu s)=R at hn1 |-;obtain⟨R1,R2,R3⟩:=R;dsimp only at hn1;subst hn1;refine w6 4 84 rfl Z (w6 5 85 rfl Z (w6 6 86 rfl Z ?_));refine Lu L (rs:=[.cell 4 zde,.cell 5 tyI,.cell 6 tyE]) Z (fun _ _ h=>h) hsB fun O' u H hH hle=>?_;exact jd (qs Z) Z (jd (qs Z) Z (jd (qs Z) Z (tup3 SlV.nil Z Z)))
 case dn=>
  intro l' D' o hgo;obtain⟨ks,h1,h2,h3⟩:=bw rd (pu s) [] rfl;have h1':jh (fun p=>!we rd 1 (re p)) [] (fh 1 (vi (pu s)))=fh 1 (vi ks):=h1;rw[h1',kx] at hgo;have hg:we rd 1 ks=true:=by simpa using hgo
  have hkl:ks=pu s:=h3 hg;have hll:=oh s;have hvl:(rc rd ks).length<=ks.length:=Ab;rw[h1',kx,<-hkl,r7 hg,r9 hg];refine Zay (h:=?_);refine Zbq (h:=?_);refine cq 87 _ Z SlR.shape fun z hz=>?_;obtain⟨p,c,rfl⟩:=hz;refine(Ze∘Zad∘ZcA) ?_;refine v7 46 87 rfl rfl (rp 46 rfl ((ZcA∘Zcl∘ZcA∘Zcl∘Zdz) ?_));refine v6 51 rfl fun sv H3 hs3 hsv=>?_;obtain⟨p1,c1,rfl⟩:=jg hsv;refine xf (yc L (q:=84) (cs':=[.slice p1 (rc rd ks).length c1]) rfl rfl rfl rfl rfl) (xf (yc L (q:=85) (cs':=[.int .i64 0]) rfl rfl rfl rfl rfl) (xf (yc L (q:=86) (cs':=[.int .i64 0]) rfl rfl rfl rfl rfl) (Z1 (h:=?_))));refine w6 4 84 rfl Z (w6 5 85 rfl Z (w6 6 86 rfl Z ?_));refine Lu L (rs:=[.cell 4 zde,.cell 5 tyI,.cell 6 tyE]) Z (fun _ _ h=>h) (hsB.trans hs3) fun O' u H hH hle=>?_;exact jd (qs Z) Z (jd (qs Z) Z (jd (qs Z) Z (tup3 (hsv.le hle) Z Z)))
def d7{φ:Value->Heap->Prop}{a b:Value}(h:Kn.mono (.sat φ)):Kn.mono (.sat (TupS [φ,fun v _=>v=a,fun v _=>v=b])):=TupS.mono fun ψ hψ=>by
 simp only[nw,zmj,or_false] at hψ;rcases hψ with rfl | rfl | rfl
 ·exact h
 ·exact fun _ _ _ h _=>h
 ·exact fun _ _ _ h _=>h
def P6(hs:s.size<=1000000)(hB:zpk B w)(hM:GlobM B):
  Ret zpl 16 [.string s] w B (TupS [US (tw ptA s).1 true,fun v _=>v=.int .i64 (tw ptA s).2.1,fun v _=>v=.int .i64 (tw ptA s).2.2]):=by
 have hmo:Kn.mono (.sat (US (tw ptA s).1 true)):=ma;refine yf Tryz.func16 Z Tryz.ntmps16 (np Z) hB ((ZaL∘Zp∘ZaM) ?_);refine z8 (xi L Z Z (zo Z) Z Z Z (d7 ma) (fun u H hH hle _=>Qy (rd:=ptA) Z hs hH (fun r hr u2 H2 hH2 hle2=>d6 Z hr hH2 (hM.mono (hle.trans hle2))))) Z ((Zcz∘ZbB∘ZbB∘ZX∘ZB) ?_);refine ye1 L [.tmp 2,.tmp 3,.tmp 4] fun u H hH hle=>?_;exact fun a h=>tup3 h Z Z
def Eo(hs:s.size<=1000000)(hB:zpk B w)(hM:GlobM B):
  Ret zpl 17 [.string s] w B (TupS [KS tyC (tw prC s).1 true,fun v _=>v=.int .i64 (tw prC s).2.1,fun v _=>v=.int .i64 (tw prC s).2.2]):=by
 have hmo:Kn.mono (.sat (KS tyC (tw prC s).1 true)):=ma;refine yf Tryz.func17 Z Tryz.ntmps17 (np Z) hB ((ZaL∘Zp∘ZaM) ?_);refine z8 (xi L Z Z (zo Z) Z Z Z (d7 ma) (fun u H hH hle _=>Qz (rd:=prC) Z hs hH (fun r hr u2 H2 hH2 hle2=>zd3 hr hH2 (hM.mono (hle.trans hle2))))) Z ((Zcz∘ZbB∘ZbB∘ZX∘ZB) ?_);refine ye1 L [.tmp 2,.tmp 3,.tmp 4] fun u H hH hle=>?_;exact fun a h=>tup3 h Z Z
end Go.V.L11
end
variable{ks:List Go.V.L11.K3}
namespace Go.V
abbrev zcz(s:ByteArray):List Value:=s.data.toList.map fun c:UInt8=>Value.int .u8 (c.toNat:Int)
section
variable {P:Program} {F:Fr}      {d:Nat}     {x:Operand} 
def Uc{src dst e:TypeId}(hn:Nat.blt d n=true)(hg:gK ops κ ⟨some d,.convert src dst x,ty,pos,aft,g⟩=some true)(hx:evK κ x=some (.string s))(hs:P.underlying src=some .string)(hd:P.underlying dst=some (.slice e))(he:P.underlying e=some (.int .u8)):
  StepOK P F B n ops O κ ⟨some d,.convert src dst x,ty,pos,aft,g⟩ d (.sat (SlV e 1 (zcz s) s.size false)):=by
 rintro κ' a u hl ⟨H,fp,hh⟩;unfold After;rw[na (xh hh hl hg)];have en:=hh.env hl;have h1:=en.is_ x _ (by simp [Op.operands]) hx;have hr:=run_bytes_of_string (P:=P) u src dst e s hs hd he;generalize hcap:grownCap u s.size 0 e=cap at hr;generalize hfr:((bytesRow s cap).size,(bytesRow s cap).size+1)=fr at hr
 have hrun:(execOp a.eval ⟨some d,.convert src dst x,ty,pos,aft,g⟩).run P u=.ok (.value (.slice (some ⟨u.heap.size,0,none⟩) s.size cap)) (u.drew.alloc (.cells (bytesRow s cap) e fr)):=by
  simp only[execOp,h1,nu,hr,ny];rfl
 rw[hrun];simp only[Upon];have hcl:s.size<=cap:=by subst hcap;exact grownCap_ge u s.size 0 e
 have hg2:=(hh.drew).grow (Grow.hid (hh.drew).sub (.cells (bytesRow s cap) e fr));have hval:(a.put (some d) (.slice (some ⟨u.heap.size,0,none⟩) s.size cap)).eval (.tmp d)=.slice (some ⟨u.heap.size,0,none⟩) s.size cap:=xv (by rw[hh.size];exact zo hn)
 have h2:=hg2.putR (d:=d) (r:=⟨fun v H u' C=>v=.slice (some ⟨u.heap.size,0,none⟩) s.size cap/\C u.heap.size,fun h _ _ _ _=>h⟩) (C:=fun k=>k=u.heap.size) (a':=a.put (some d) (.slice (some ⟨u.heap.size,0,none⟩) s.size cap)) (by simp [Act.put]) rfl (fun t ht=>xn ht) ⟨hval,rfl⟩ (fun k hk=>by
  subst hk;exact⟨xc (xm u.drew _),k9 hh.sub (ns _),.inl hh.keep.size,fun y hy e=>by have:=xc (hh.boxes y hy).1;omega⟩) fun t r' _ ht k hf hk=>by
  have:=((hh.slot t _ ht).2 k hf).1;omega
 obtain⟨H',h3⟩:=h2.pub (t:=d) (b:=u.heap.size) (φ:=SlV e 1 (zcz s) s.size false) (xj ..) (xm u.drew _) (by simp [fpu]) ma fun H' _ hb=>by
  rw[hval];refine⟨by rw[mn,zmt,zmi];rfl,.inr ⟨u.heap.size,0,cap,_,_,_,rfl,hb,?_,hcl,fun h=>by cases h⟩⟩;rw[zl5,mn];unfold bytesRow;rw[Array.toList_append,Array.toList_map,zog (by simp)];rw[zle (by simp)]
 rw[jv] at h3;exact⟨H',_,h3⟩
end
end Go.V
namespace Go.V.L11
open Go.V.L2 Go.V.L4 Go.V.L6 Go.V.L8 Go.V.L10
abbrev zja:ByteArray:=⟨#[100,111,99,58,97,35,118,105,101,119,101,114,64,117,115,101,114,58,120]⟩
abbrev zkq:ByteArray:=⟨#[100,111,99,58,98,35,118,105,101,119,101,114,64,117,115,101,114,58,120]⟩
abbrev zj6:ByteArray:=⟨#[100,111,99,58,97,35,118,105,101,119,101,114,64,117,115,101,114,58,120,10]⟩
abbrev zko:ByteArray:=⟨#[43,100,111,99,58,97,35,118,105,101,119,101,114,64,117,115,101,114,58,120,10,45,100,111,99,58,98,35,118,105,101,119,101,114,64,117,115,101,114,58,120,10]⟩
def wrS:List ByteArray:=[⟨#[0]⟩,⟨#[1,0]⟩,⟨#[1,1,0,0,7]⟩,⟨#[1,1]⟩]
def wrA:List Int:=[0,1,4,2]
def zkz:ry [d0]=(zj6,0):=by decide+kernel
def zk2:Ss [(d0,false),(d2,true)]=(zko,0):=by decide+kernel
def zk1:tw ptA zja=([],1,5):=by decide+kernel
def zk0:tw prC zj6=([],1,5):=T
def rj{l:List U}(h:ry l=(s,e))(hz:∀ t∈l,TZ t)(hs:∀ t∈l,(aj t).size<=1000)(hB:zpk B w)(hv:US l fu v B):
  Ret zpl 12 [v] w B (fun r _=>r=.tuple #[.string s,.int .i64 e]):=by
 have:=Se hz hs hB hv;rw[h] at this;exact this
def Mc{l:List CH}(h:Ss l=(s,e))(hz:∀ t∈l,TZ t.1)(hs:∀ t∈l,(t7 t).size<=1000)(hB:zpk B w)(hv:KS tyC l fu v B):
  Ret zpl 13 [v] w B (fun r _=>r=.tuple #[.string s,.int .i64 e]):=by
 have:=P8 hz hs hB hv;rw[h] at this;exact this
def er(h:tw ptA s=(l,n,e))(hs:s.size<=1000000)(hB:zpk B w)(hM:GlobM B):
  Ret zpl 16 [.string s] w B (TupS [US l true,fun v _=>v=.int .i64 n,fun v _=>v=.int .i64 e]):=by
 have:=P6 hs hB hM;rw[h] at this;exact this
def C5{l:List CH}(h:tw prC s=(l,n,e))(hs:s.size<=1000000)(hB:zpk B w)(hM:GlobM B):
  Ret zpl 17 [.string s] w B (TupS [KS tyC l true,fun v _=>v=.int .i64 n,fun v _=>v=.int .i64 e]):=by
 have:=Eo hs hB hM;rw[h] at this;exact this
abbrev LdE(a e:Int):Value->Heap->Prop:=fun r _=>r=.tuple #[.pointer none,.int .i64 a,.int .i64 e]
attribute [local irreducible] V N X VO Par XP LV StepOK Has Ret RetL RetO RetT kr RetX RetY Pan bp Src
end Go.V.L11
namespace Go.V
section
variable {P:Program}  {enc:TypeId×Value->H}  {sp:Nat->Bool}  {base:Nat}
end
end Go.V
namespace Go.V.L3
open Go.V.L2
end Go.V.L3
namespace Go.V.L8
open Go.V.L2 Go.V.L3 Go.V.L6
end Go.V.L8
namespace Go.V.L11
open Go.V Go.V.L2 Go.V.L3 Go.V.L4 Go.V.L6 Go.V.L8 Go.V.Bd Go.V.L10
def zdg(s:ByteArray):∀ b∈s7 s,b<=255:=fun b hb=>by
 unfold s7 at hb;rcases mi.1 hb with h | h
 ·exact Bz _ b h
 ·exact Gv s b h
section
variable {P:Program} {F:Fr}      {d q:Nat}    
end
attribute [local irreducible] V N X VO Par XP LV StepOK Has Ret RetL RetO RetT kr RetX RetY Pan bp Src
end Go.V.L11
section
open Go.V
attribute [local irreducible] Has N Par Ret RetL RetO RetT Src StepOK V VO X
namespace Go.V.L11
open Go.V.L2 Go.V.L3 Go.V.L4 Go.V.L6 Go.V.L8 Go.V.L10
def Ng{rs:List Int}(h0:rs≠[])(h:Xx rs):dx rs rs.length∈rs/\∀ x∈rs,x<=dx rs rs.length:=by
 obtain⟨m,hm⟩:∃ m,rs.length=m+1:=⟨rs.length-1,by have:=znm.2 h0;omega⟩
 obtain⟨y,hy⟩:=xw (show m<rs.length by omega);rw[hm,cd hy];refine⟨zlg hy,fun x hx=>?_⟩;obtain⟨i,hi⟩:=zl0 hx;have hl:=get_lt hi;rcases m8 i m with hlt | hge
 ·have:=zmy.1 (mg.1 h).2 i m (get_lt hi) (get_lt hy) hlt;rw[f9 hi,f9 hy] at this;omega
 ·have:i=m:=I;subst this;rw[hi] at hy;cases hy;exact zmm _
abbrev Gc(ks:List K3):List Int:=ks.map fun k=>k.1
def ak:∀ {ks:List K3} {last:Int},KOK ks last->(last::Gc ks).Pairwise (·<·)
 | [],_,_=>zmc _ _
 | k::ks,last,h=>by
  have h1:=ak h.2.2.2.2.2;refine mg.2 ⟨fun a ha=>?_,h1⟩;rcases nw.1 ha with rfl | ha
  ·exact h.1
  ·have:=(mg.1 h1).1 a ha;have:=h.1;omega
def F8:∀ {ks:List K3} {last:Int},KOK ks last->∀ k∈ks,last<k.1/\k.1<=18446744073709551615/\k.2.1<=4096/\SOK k.2.2/\k.2.2.length<=4096
 | [],_,_,_,h=>by cases h
 | k::ks,last,h,x,hx=>by
  rcases nw.1 hx with rfl | hx
  ·exact⟨h.1,h.2.1,h.2.2.1,h.2.2.2.1,h.2.2.2.2.1⟩
  ·obtain⟨h1,h2⟩:=F8 h.2.2.2.2.2 x hx;exact⟨by have:=h.1;omega,h2⟩
def Gb(ks:List K3):(kzs ks).map (·.1)=Gc ks:=by unfold kzs;rw[List.map_map];rfl
def F7(h:r∈kpi ks):r∈Gc ks:=by
 unfold kpi at h;obtain⟨k,hk,hr⟩:=znn.1 h;rw[znr] at hr;exact zlb.2 ⟨k,hk,hr.2.symm⟩
def F9(h:KOK ks 0):LdZ (kzs ks) (kpi ks) (dx (Gc ks) ks.length):=by
 have ha:=ak h;have hk:=Gb ks;have hlen:(kzs ks).length=ks.length:=mn ..;have hkl:(Gc ks).length=ks.length:=mn ..;refine⟨by rw[hk];exact ha,fun a hm=>?_,by rw[hk,hlen],fun r hr=>by rw[hk];exact F7 hr,fun z hz=>?_⟩
 ·rw[hk] at hm;rw[<-hkl];by_cases h0:Gc ks=[]
  ·rw[h0,mz] at hm;subst hm;rw[h0];exact zmm _
  ·rcases nw.1 hm with rfl | hm
   ·exact Int.le_of_lt ((mg.1 ha).1 _ (Ng h0 ha).1)
   ·exact(Ng h0 ha).2 a hm
 ·unfold kzs at hz;obtain⟨k,hk2,rfl⟩:=zlb.1 hz;exact(F8 h k hk2).2.2.2.2
def zau(h:KOK ks 0){k:K3}(hk:k∈ks):ul k.1 (kzs ks)=some k.2.2:=by
 refine B6 ?_ (zlb.2 ⟨k,hk,rfl⟩);rw[Gb];exact(mg.1 (ak h)).2.imp fun hlt e=>by omega
def Am(h:KOK ks 0):js (loR (kzs ks))=Gc ks:=dq gt (iu _) ((mg.1 (ak h)).2.imp fun hlt=>Xi.2 hlt) fun r=>by
 rw[u9,(F9 h).kpt,fy,Gb]
def Lj:∀ {ks:List K3},(Gc ks).Nodup->∀ k∈ks,List.count k.1 (kpi ks)=k.2.1
 | [],_,_,h=>by cases h
 | x::ks,hn,k,hk=>by
  obtain⟨h1,h2⟩:=zm9.1 hn;have e:kpi (x::ks)=List.replicate x.2.1 x.1++kpi ks:=rfl;rw[e,zl7];rcases nw.1 hk with rfl | hk
  ·rw[List.count_replicate_self,zn6.2 fun hm=>h1 (F7 hm),znv]
  ·have hne:x.1≠k.1:=fun e=>h1 (zlb.2 ⟨k,hk,e.symm⟩);rw[Lj h2 k hk,List.count_replicate,nc (by simpa using hne),zlf]
def Vh(h:KOK ks 0):(Gc ks).Nodup:=(mg.1 (ak h)).2.imp fun hlt e=>by omega
def zi7(h:KOK ks 0){k:K3}(hk:k∈ks):tZ (loS (kzs ks,kpi ks)) k.1=k.2.2:=by
 unfold tZ;show(kpt (loR (kzs ks)) k.1).getD []=_;rw[(F9 h).kpt,zau h hk];rfl
def ze0(h:KOK ks 0):Sc (loS (kzs ks,kpi ks))=ks:=by
 unfold Sc;show(js (loR (kzs ks))).map _=ks;rw[Am h,zm6]
 conv=>rhs;rw[<-znq ks]
 refine zn5 fun k hk=>?_;show(k.1,List.count k.1 (kpi ks),tZ (loS (kzs ks,kpi ks)) k.1)=k;rw[Lj (Vh h) k hk,zi7 h hk]
def Vg:∀ {ks:List K3},(∀ k∈ks,k.2.1<=4096)->(kpi ks).length<=4096*ks.length
 | [],_=>ns _
 | x::ks,h=>by
  have e:kpi (x::ks)=List.replicate x.2.1 x.1++kpi ks:=rfl;have h1:=h x (mb ..);have h2:=Vg (ks:=ks) fun k hk=>h k (mc _ hk);rw[e,nr,zoa,nz];omega
def S8{a b:List Int}(ha:Sst cP a)(hb:Sst cP b)(h:∀ x∈a,x∈b):a.length<=b.length:=by
 have e:a=b.filter fun x=>decide (x∈a):=dq gt ha (hb.sublist zm7) fun z=>by
  rw[zl3];exact⟨fun hz=>⟨h z hz,nf hz⟩,fun hz=>nj hz.2⟩
 rw[e];exact zos _ _
def ze4(h:KOK ks 0):Sst cP (Gc ks):=(mg.1 (ak h)).2.imp fun hlt=>Xi.2 hlt
structure LoOK(ks:List K3):Prop where
 k:KOK ks 0
 l0:0<ks.length
 l1:ks.length<=1024
def LoOK.ne(h:LoOK ks):Gc ks≠[]:=fun e=>by have h1:=nh List.length e;rw[mn,my] at h1;have:=h.l0;omega
def LoOK.last(h:LoOK ks):dx (Gc ks) (Gc ks).length∈Gc ks:=(Ng h.ne (ak h.k)).1
def LoOK.len(h:LoOK ks):((loR (kzs ks)).length:Int)=dx (Gc ks) (Gc ks).length/\0<dx (Gc ks) (Gc ks).length:=by
 have h1:=(mg.1 (ak h.k)).1 _ h.last;have h2:(kzs ks).length=(Gc ks).length:=by unfold kzs;rw[List.length_map,List.length_map]
 refine⟨?_,h1⟩;unfold loR;rw[mn,List.length_range,Gb,h2];omega
def LoOK.pin{ks:List K3}(h:LoOK ks):∀ r∈kpi ks,(kpt (loR (kzs ks)) r).isSome=true:=fun r hr=>by
 rw[<-u9,Am h.k];exact F7 hr
def LoOK.tl(h:LoOK ks)(ht:kpt (loR (kzs ks)) r=some t):SOK t/\t.length<=4096:=by
 rw[(F9 h.k).kpt] at ht;have hm:=di ht;unfold kzs at hm;obtain⟨k,hk,e⟩:=zlb.1 hm;cases e;exact(F8 h.k k hk).2.2.2
def LoOK.pl(h:LoOK ks):(xg (kpi ks)).length<=1024:=by
 rw[ws];have h1:=S8 (w9 (kpi ks)) (ze4 h.k) fun x hx=>F7 (je.1 hx);rw[mn] at h1;have:=h.l1;omega
def LoOK.D(h:LoOK ks):zjz (loS (kzs ks,kpi ks)):=by
 have h1:=h.len;have h2:=(F8 h.k)
 obtain⟨k,hk,e⟩:=zlb.1 h.last;have h3:=(h2 k hk).2.1;have h4:=Vg fun k hk=>(h2 k hk).2.2.1;have h5:=h.l0;have h6:=h.l1;have h7:=h.pl;refine⟨?_,?_,?_,?_,?_,?_,fun r t ht=>⟨(h.tl ht).2,(h.tl ht).1.sst,Td (h.tl ht).1⟩⟩
 ·show(loR (kzs ks)).length≠0;omega
 ·show(loR (kzs ks)).length<_;omega
 ·show 0<(js (loR (kzs ks))).length;rw[Am h.k,mn];exact h5
 ·show(js (loR (kzs ks))).length<=_;rw[Am h.k,mn];exact h6
 ·show(xg (kpi ks)).length<=_;omega
 ·show(kpi ks).length<=_;omega
def zfn(c:CH):∀ b∈chgB c,b<=255:=fun b hb=>by
 unfold chgB N9 vw at hb;rcases mi.1 hb with h | h
 ·obtain⟨s,_,h⟩:=znn.1 h;exact zdg s b h
 ·rw[mz] at h;subst h;split<;>decide
def zfm(cs:List CH):∀ b∈X0 cs,b<=255:=fun b hb=>by
 unfold X0 at hb;rcases mi.1 hb with h | h
 ·exact Bz _ b h
 ·obtain⟨c,_,h⟩:=znn.1 h;exact zfn c b h
def V0:∀ {ks:List K3} {last:Int} {s:List U},∀ b∈Rw ks last s,b<=255
 | [],_,_,_,h=>by cases h
 | k::ks,last,s,b,hb=>by
  unfold Rw at hb;rcases mi.1 hb with h | h
  ·rcases mi.1 h with h | h
   ·exact Bz _ b h
   ·rcases mi.1 h with h | h
    ·exact Bz _ b h
    ·exact zfm _ b h
  ·exact V0 b h
def zff{ks:List K3}:∀ b∈L5 ks,b<=255:=fun b hb=>by
 unfold L5 at hb;rcases mi.1 hb with h | h
 ·exact Bz _ b h
 ·exact V0 b h
def Ph:∀ {ks:List K3} {last:Int} {s:List U},KOK ks last->0<=last->SOK s->s.length<=4096->(Rw ks last s).length<=ks.length*50000000
 | [],_,_,_,_,_,_=>ns _
 | (r,n,t)::ks,last,s,h,h0,hs,hl=>by
  obtain⟨k1,k2,k3,k4,k5,k6⟩:=h;dsimp only at k1 k2 k3 k4 k5 k6;have ih:=Ph k6 I k4 k5;have hb:=Gx s t;have hz:=zh9 hs k4;have h1:=ft (n:=(r-last).toNat) I;have h2:=ft (n:=n) I;have h3:=ft (n:=(Ct s t).length) I;have h4:=Cq hz (Ct s t).length;rw[zlm] at h4;unfold Rw X0;simp only[nr,nz];omega
def LoOK.bytes(h:LoOK ks):(L5 ks).length<=52000000000/\0<(L5 ks).length:=by
 have h1:=Ph h.k (zmm 0) zj7 (mf _);have h2:=ft (n:=ks.length) (by have:=h.l1;omega);have h3:=h.l1;have h4:0<(uq ks.length).length:=by unfold uq;split<;>simp
 unfold L5;rw[nr];omega
open Go.V.Bd
attribute [local irreducible] kr RetX RetY
def u6(t:U):List ByteArray:=[t.1.1.1,t.1.1.2,t.1.2,t.2.1.1,t.2.1.2,t.2.2]
def objT_size(a b:ByteArray):(Fv a b).size=a.size+1+b.size:=by
 unfold Fv;rw[m9,m9];rfl
def goalT_size(a b c:ByteArray):(dy a b c).size=a.size+1+b.size+1+c.size:=by
 unfold dy;rw[m9,m9,objT_size];rfl
def zdi{t:U}{k:Nat}(h:∀ s∈u6 t,s.size<=k):(tT t).size<=6*k+5:=by
 have h1:=h t.1.1.1 (by simp [u6]);have h2:=h t.1.1.2 (by simp [u6]);have h3:=h t.1.2 (by simp [u6]);have h4:=h t.2.1.1 (by simp [u6]);have h5:=h t.2.1.2 (by simp [u6]);have h6:=h t.2.2 (by simp [u6]);unfold tT ef;rw[m9,m9,goalT_size];have hA:sAt.size=1:=rfl;split
 ·rw[objT_size];omega
 ·rw[goalT_size];omega
attribute [local irreducible] XP LV Pan bp
end Go.V.L11
end
namespace Go.V.L11
open Go.V.L2 Go.V.L4 Go.V.L6 Go.V.L8 Go.V.L10
def _root_.ZdZ(t:Wr Y->A:=by intro h;refine z8 (lf L _ Z Z Z Z Z Z Z I) Z ?_;exact h.1)(h:Y):A:=t ⟨h⟩
def _root_.ZeF(t:Wr Y->A:=by intro h;refine z8 (Fq Z Z Z Z zit Z Z) Z ?_;exact h.1)(h:Y):A:=t ⟨h⟩
def _root_.ZeG(t:Wr Y->A:=by intro h;refine z8 (Uc Z Z Z Z Z Z) Z ?_;exact h.1)(h:Y):A:=t ⟨h⟩
def _root_.ZeH(t:Wr Y->A:=by intro h;refine z8 (zeh Z Z Z Z Z) Z ?_;exact h.1)(h:Y):A:=t ⟨h⟩
def zkx:zjz newS:=⟨by decide,by decide,by decide,by decide,by decide,by decide,fun r t h=>by
 have h1:=(jj_new.so r t h)
 have h2:newS.R.length=1:=rfl
 exact⟨by omega,h1.1.sst,fun x hx=>by
  have h3:=h1.2;have hr:=ol (R:=newS.R) (r:=r) (by rw[h];rfl);obtain rfl:r=1:=by omega
  cases h;cases hx⟩⟩
def zk9:L5 (Sc newS)=[1,1,0,0]:=T
def og{bs:List Nat}{a:Int}(h:ldF bs=(y,(a,e)))(he:e≠0)(hb:∀ b∈bs,b<=255)(hz:bs.length<=1099511627776)(hB:zpk B w)(hv:BsV bs false v B):
  Ret zpl 26 [v] w B (LdE a e):=by
 have h1:=Fz hb hz hB hv;rw[h] at h1;exact Va he h1
def wg0(hB:zpk B w)(hv:BsV [0] false v B):Ret zpl 26 [v] w B (LdE 0 5):=og (y:=([],[])) T J J J hB hv
def wg1(hB:zpk B w)(hv:BsV [1,0] false v B):Ret zpl 26 [v] w B (LdE 1 5):=og (y:=([],[])) T J J J hB hv
def wg2(hB:zpk B w)(hv:BsV [1,1,0,0,7] false v B):Ret zpl 26 [v] w B (LdE 4 5):=og (y:=([],[])) T J J J hB hv
def wg3(hB:zpk B w)(hv:BsV [1,1] false v B):Ret zpl 26 [v] w B (LdE 2 17):=og (y:=([],[])) T J J J hB hv
attribute [local irreducible] V N X VO Par XP LV StepOK Has Ret RetL RetO RetT kr RetX RetY Pan bp Src
def Vx(hB:zpk B w)(hr:(StG b newS).P B w C)(hC:ZCB C w B):
  RetY zpl 28 [ct b] w B C (StG b newS) (TupS [BsV [1,1,0,0] true,fun v _=>v=.int .i64 0]):=by
 have h:=Pf zkx hB hr hC
 rwa [zk9] at h
def Kv(hB:zpk B w)(hM:GlobM B):Ret zpl 9 [] w B (fun v _=>v=.bool true):=by
 have p0:ptA zja=(d0,0):=by decide+kernel
 have p2:ptA zkq=(d2,0):=by decide+kernel
 have z0:TZ d0:=Hh J;have z2:TZ d2:=Hh J;have hz1:∀ t∈[d0],TZ t:=fun t ht=>by rw[mz] at ht;subst ht;exact z0
 have hz2:∀ t∈[((d0,false):CH),(d2,true)],TZ t.1:=fun t ht=>by
  simp only[nw,zmj,or_false] at ht;rcases ht with rfl | rfl
  ·exact z0
  ·exact z2
 have hs1:∀ t∈[d0],(aj t).size<=1000:=by decide+kernel
 have hs2:∀ t∈[((d0,false):CH),(d2,true)],(t7 t).size<=1000:=by decide+kernel
 have k1:Kn.mono (.sat (US ([]:List U) true)):=ma;have k2:Kn.mono (.sat (KS tyC ([]:List CH) true)):=ma;have k3:Kn.mono (.sat (BsV [1,1,0,0] true)):=ma;refine yf Tryz.func9 Z Tryz.ntmps9 (np Z) hB (Z5 (h:=?_));refine z81 L Z (fun u H hH _=>cx p0 (np Z) hH) ?_;refine(Zbv∘Zc∘ZM) ?_;refine z81 L Z (fun u H hH _=>cx p2 (np Z) hH) ?_;refine(Zbv∘Zc∘ZR∘ZaI∘Zap) ?_;refine z8 (zy L Z Z (zo Z) Z Z Z (fun u H hH hle _ v1 h1=>rj zkz hz1 hs1 hH (h1.toV (n:=1) Z))) Z ((ZaX∘Z9∘ZaI∘ZcX∘ZaI∘ZcX∘Zap) ?_);refine z8 (zy L Z Z (zo Z) Z Z Z (fun u H hH hle _ v1 h1=>Mc zk2 hz2 hs2 hH (h1.toV (n:=2) Z))) Z ((Zy∘Zbk∘Zb7∘ZbZ∘ZG∘Zb∘ZeH∘ZbQ∘ZeH∘Zbd) ?_);refine Z8 (h:=?_);refine z8 (xi (φ:=TupS [US ([]:List U) true,fun v _=>v=.int .i64 1,fun v _=>v=.int .i64 5]) L Z Z (zo Z) Z Z Z (d7 ma) (fun u H hH hle _=>er zk1 (np Z) hH (hM.mono hle))) Z ((Zk∘Zcz∘ZbB∘ZbB∘ZX∘Za7∘Za4) ?_);refine z8 (xi (φ:=TupS [KS tyC ([]:List CH) true,fun v _=>v=.int .i64 1,fun v _=>v=.int .i64 5]) L Z Z (zo Z) Z Z Z (d7 ma) (fun u H hH hle _=>C5 zk0 (np Z) hH (hM.mono hle))) Z ((Zk∘Zcz∘ZbB∘ZbB∘ZX∘Za7∘ZQ∘Z7∘Zf) ?_);refine Zah (h:=?_);refine z8 (u5 L Z Z (zo Z) Z Z Z (fun u H hH hle _=>Y5 hH)) Z ?_;refine im 72 900 rfl fun b=>?_;refine qz (u4 L 900 (TupS [BsV [1,1,0,0] true,fun v _=>v=.int .i64 0]) (r:=StG b newS) Z Z Z Z Z (M0 ma) (fun u H2 C2 hH hle hr2 hC2=>Vx hH hr2 hC2)) ((Zk∘Zcz∘ZbB∘ZX∘Zi) ?_);refine(ZO∘Za∘ZG∘Zb∘ZG∘ZbQ∘ZG∘ZbQ∘ZG∘Zg∘Za∘Zbp) ?_;refine z8 (xi (φ:=BsV [0] true) L Z Z (zo Z) Z Z Z ma (fun u H hH hle _=>E6 hH)) Z (z8 (Bv (bs:=[0]) (fu:=true) J Z Z Z Z Z Z) Z ((ZeH∘ZbQ∘ZG∘Zg∘Za∘Zk) ?_));refine z8 (Bv (bs:=[1,1,0,0]) (fu:=true) J Z Z Z Z Z Z) Z ((ZeH∘Zbd) ?_);refine(ZV∘Zap∘ZX∘Zf∘ZaV∘Zap∘ZX∘Zaz∘Zaw∘Zbt) ?_;refine Xu 18 (SlB (wrS.map Value.string) 9 4) Z SlB.mono (fun _ _ h=>by unfold wrS;exact h) ?_;refine Xu 19 (SlB (wrA.map (Value.int .i64)) tyI 4) Z SlB.mono (fun _ _ h=>by unfold wrA;exact h) ?_;refine xo (fun i:Nat=>[(18,.sat (SlB (wrS.map Value.string) 9 4)),(19,.sat (SlB (wrA.map (Value.int .i64)) tyI 4)),(20,.is (.int .i64 i))]) (fun i=>i<=4) (fun i=>4-i) 0 (mf _) ⟨Z,Z,Z,nm⟩ ?_;rintro i hi;have hcases:i=0\/i=1\/i=2\/i=3\/i=4:=I;rcases hcases with rfl | rfl | rfl | rfl | rfl
 ·have hcs:(wrS.map Value.string)[0*1]?=some (.string ⟨#[0]⟩):=rfl;have hca:(wrA.map (Value.int .i64))[0*1]?=some (.int .i64 0):=rfl;refine(Zh∘Zad∘Za∘ZaH∘ZbF∘Zbg∘Zi∘Zcj∘Za∘Zs∘Zl∘ZbD∘Zk∘Za∘ZeQ∘Zc6∘ZeG) ?_;refine z8 (zy L Z Z (zo Z) Z Z Z (fun u H hH hle _ v1 h1=>wg0 hH h1)) Z ((Zy∘Zb1∘Zp∘Za7∘Zc0∘Za∘ZeF∘Zb∘Zk∘Za∘ZeQ∘Zc6∘ZG∘Zg∘Zz∘ZG∘Zg∘Zca∘Zbn∘Za∘ZbR) ?_);exact ym (x:=0) 1 J J ⟨Z,Z,Z,nm⟩
 ·have hcs:(wrS.map Value.string)[1*1]?=some (.string ⟨#[1,0]⟩):=rfl;have hca:(wrA.map (Value.int .i64))[1*1]?=some (.int .i64 1):=rfl;refine(Zh∘Zad∘Za∘ZaH∘ZbF∘Zbg∘Zi∘Zcj∘Za∘Zs∘Zl∘ZbD∘Zk∘Za∘ZdZ∘Zc6∘ZeG) ?_;refine z8 (zy L Z Z (zo Z) Z Z Z (fun u H hH hle _ v1 h1=>wg1 hH h1)) Z ((Zy∘Zb1∘Zp∘Za7∘Zc0∘Za∘ZeF∘Zb∘Zk∘Za∘ZdZ∘Zc6∘ZG∘Zg∘Zz∘ZG∘Zg∘Zca∘Zbn∘Za∘ZbR) ?_);exact ym (x:=1) 2 J J ⟨Z,Z,Z,nm⟩
 ·have hcs:(wrS.map Value.string)[2*1]?=some (.string ⟨#[1,1,0,0,7]⟩):=rfl;have hca:(wrA.map (Value.int .i64))[2*1]?=some (.int .i64 4):=rfl;refine(Zh∘Zad∘Za∘ZaH∘ZbF∘Zbg∘Zi∘Zcj∘Za∘Zs∘Zl∘ZbD∘Zk∘Za∘ZdZ∘Zc6∘ZeG) ?_;refine z8 (zy L Z Z (zo Z) Z Z Z (fun u H hH hle _ v1 h1=>wg2 hH h1)) Z ((Zy∘Zb1∘Zp∘Za7∘Zc0∘Za∘ZeF∘Zb∘Zk∘Za∘ZdZ∘Zc6∘ZG∘Zg∘Zz∘ZG∘Zg∘Zca∘Zbn∘Za∘ZbR) ?_);exact ym (x:=2) 3 J J ⟨Z,Z,Z,nm⟩
 ·have hcs:(wrS.map Value.string)[3*1]?=some (.string ⟨#[1,1]⟩):=rfl;have hca:(wrA.map (Value.int .i64))[3*1]?=some (.int .i64 2):=rfl;refine(Zh∘Zad∘Za∘ZaH∘ZbF∘Zbg∘Zi∘Zcj∘Za∘ZC∘ZE∘ZaP∘Zc∘ZbD∘Zk∘Za∘ZdZ∘Zc6∘ZeG) ?_;refine z8 (zy L Z Z (zo Z) Z Z Z (fun u H hH hle _ v1 h1=>wg3 hH h1)) Z ((Zy∘Zb1∘Zp∘Za7∘Zc0∘Za∘ZeF∘Zb∘Zk∘Za∘ZdZ∘Zc6∘ZG∘Zg∘Zz∘ZG∘Zg∘Zca∘Zbn∘Za∘ZbR) ?_);exact ym (x:=3) 4 J J ⟨Z,Z,Z,nm⟩
 ·refine(Zh∘Zad∘Za∘Z0∘ZaR∘ZcC∘Zd) ?_;exact ye2 L [.tmp 0]
end Go.V.L11
namespace Go.V.L11
open Go.V.L2 Go.V.L3 Go.V.L4 Go.V.L6 Go.V.L8 Go.V.L10 Go.V.Bd
def F0{t:U}(h:tE t=0):(aj t).size<=110:=by
 have:=zdi (Ye h);rw[Cc];omega
def Sv{k:Nat}:∀ {l:List U},(∀ t∈l,(aj t).size<=k)->(dp l).length<=l.length*k
 | [],_=>mf _
 | t::l,h=>by
  have h1:=h t (mb ..);have h2:=Sv (l:=l) fun x hx=>h x (mc _ hx);have e:dp (t::l)=g8 (aj t)++dp l:=rfl;rw[e,nr,vr,nz,znw];omega
def Qj(bs:List Nat):(lp bs).size=bs.length:=by
 unfold lp;show(List.map UInt8.ofNat bs).toArray.size=_;simp
def U5{X:Type}{f:X->ByteArray}{r:ByteArray}:∀ {l:List X},(∀ x∈l,noB (f x) 10)->pu (lp (l.flatMap fun x=>g8 (f x++sNl))++r)=(l.map fun x=>f x++sNl)++pu r
 | [],_=>by
  show pu (⟨#[]⟩++r)=_;rw[zer];rfl
 | x::l,h=>by
  rw[zly,eu,Xm,F5 (h x (mb ..)),U5 fun y hy=>h y (mc _ hy)];rfl
abbrev bX:ByteArray:=⟨#[120]⟩
structure KW(s:ByteArray)(K4 K5:List U):Prop where
 t4:ry K4=(s,0)
 t5:ry K5=(⟨#[]⟩,3)
 sz:s.size<=900000
 p4:tw ptA s=(K4,0,0)
 p5:tw ptA (s++bX)=([],4097,3)
def kw{t:U}(ht:tE t=0):∃ s,KW s (kl t 4096) (kl t 4097):=by
 have hv:∀ x∈kl t 4096,tE x=0:=fun x hx=>by obtain⟨i,hi,rfl⟩:=ek.1 hx;exact K2 ht I
 have hl:(kl t 4096).length=4096:=vn t 4096;have hl5:(kl t 4097).length=4097:=vn t 4097
 have h4:ry (kl t 4096)=(lp (dp (kl t 4096)),0):=by
  unfold ry;rw[nc I,N6 hv,nc J]
 have h5:ry (kl t 4097)=(⟨#[]⟩,3):=by
  unfold ry;rw[na I]
 have hz:=Sv fun x hx=>F0 (hv x hx);rw[hl] at hz;have hs:(lp (dp (kl t 4096))).size<=900000:=by rw[Qj];omega
 have hn:∀ x∈kl t 4096,noB (tT x) 10:=fun x hx=>Ou (hv x hx);have hp:du ptA [] 1 ((kl t 4096).map fun x=>tT x++sNl)=([]++kl t 4096,0,0):=Fg (fun x hx=>Tl (hv x hx)) I;have hg:we ptA 1 ((kl t 4096).map fun x=>tT x++sNl)=true:=Tv (by rw[hp]);refine⟨_,h4,h5,hs,zad h4 I,?_⟩;unfold tw;rw[nc (by rw[m9];show ¬ 1048576<_+1;omega),Oa,U5 hn];have hx:pu bX=[bX]:=by decide+kernel
 rw[hx];have h:=i7 (ys:=[]) (y:=bX) hg (by rw[mn,hl];omega);rw[mn,hl] at h;exact h
def ks5(n:Nat)(X Y:List U):List K3:=[(5,n,X),(18446744073709551615,0,Y)]
def zcs{X Y:List U}(hn:n<=4096)(hX:SOK X)(lX:X.length<=4096)(hY:SOK Y)(lY:Y.length<=4096):LoOK (ks5 n X Y):=
 ⟨⟨by show(0:Int)<5;decide,by show(5:Int)<=18446744073709551615;decide,hn,hX,lX,by show(5:Int)<18446744073709551615;decide,zmm _,mf _,hY,lY,nm⟩,Nat.succ_pos _,by show 2<=1024;decide⟩
def zke(n:Nat)(X Y:List U):kpi (ks5 n X Y)=List.replicate n 5:=by
 show List.replicate n (5:Int)++(List.replicate 0 18446744073709551615++[])=_;simp
abbrev S5(R:List (Option (List U)))(n:Nat):Sto:=⟨R,List.replicate n 5⟩
def zku{R:List (Option (List U))}(h1:(kpt R 5).isSome=true):zis (S5 R n) 5 false=(S5 R (n+1),0):=by
 unfold zis;rw[na h1,nc J];show((⟨R,List.replicate n 5++[5]⟩:Sto),(0:Int))=(⟨R,List.replicate (n+1) 5⟩,0);rw[List.replicate_succ']
def mk5:mkE [5,18446744073709551615] []=0:=by decide+kernel
structure K5(X Y:List U)(R:List (Option (List U))):Prop where
 mp:∀ bs:List SB,bs.map Prod.fst=[X,Y]->MapOK (zsE (([5,18446744073709551615]:List Int).zip bs)) R
 rl:(R.length:Int)=dx [5,18446744073709551615] 2
 kp:(kpt R 5).isSome=true
 lo:loS (kzs (ks5 4096 X Y),kpi (ks5 4096 X Y))=S5 R 4096
def k5{X Y:List U}(hX:SOK X)(lX:X.length<=4096)(hY:SOK Y)(lY:Y.length<=4096):∃ R,K5 X Y R:=by
 have h:=zcs (n:=4096) (ns _) hX lX hY lY;have hz:=F9 h.k;have hl:=h.len.1;have hp:=h.pin 5 (by rw[zke];exact znr.2 ⟨by decide,rfl⟩);have hm:=fun bs:List SB=>hz.mapOK (bs:=bs)
 have he:loS (kzs (ks5 4096 X Y),kpi (ks5 4096 X Y))=⟨loR (kzs (ks5 4096 X Y)),List.replicate 4096 5⟩:=by
  show(⟨loR (kzs (ks5 4096 X Y)),kpi (ks5 4096 X Y)⟩:Sto)=_;rw[zke]
 refine⟨loR (kzs (ks5 4096 X Y)),hm,hl,hp,he⟩
def zdy:(xg (List.replicate n (5:Int))).length<=1000:=by
 rw[ws]
 have h1:=S8 (w9 (List.replicate n (5:Int))) (show Sst cP [(5:Int)] from zmc _ _) fun x hx=>by
  rw[mz];exact(znr.1 (je.1 hx)).2
 simp at h1;omega
abbrev bK:U:=(((⟨#[97]⟩,⟨#[97]⟩),⟨#[118,105,101,119,101,114]⟩),((⟨#[117,115,101,114]⟩,⟨#[120]⟩),⟨#[]⟩))
structure KY(t:U)(A Y:List U):Prop where
 less:wa (kl t 4096) (kt t 4000) true=(A,0)
 more:wa A bK false=(Y,0)
 la:A.length=4095
 ly:Y.length<=4096
 sx:SOK (kl t 4096)
 sy:SOK Y
def ky{t:U}(ht:tE t=0)(hz:TZ t):∃ A Y,KY t A Y:=by
 have m7:kt t 4000∈kl t 4096:=ek.2 ⟨4000,by omega,rfl⟩;have sK:=zct (t:=t) (n:=4096) I;have la:=oj (sK.nodup cmpT_ord) m7;rw[vn] at la;have hX:SOK (kl t 4096):=⟨sK,fun x hx=>by obtain⟨i,hi,rfl⟩:=ek.1 hx;exact zjm hz I,fun x hx=>by obtain⟨i,hi,rfl⟩:=ek.1 hx;exact K2 ht I⟩
 have hA:SOK ((kl t 4096).filter fun z=>decide (z≠kt t 4000)):=⟨sK.sublist zm7,fun x hx=>hX.tz x (zl3.1 hx).1,fun x hx=>hX.ok x (zl3.1 hx).1⟩
 have hless:=Dc (l:=kl t 4096) (K2 ht (show 4000<4097 by omega));generalize (kl t 4096).filter (fun z=>decide (z≠kt t 4000))=A at *;obtain⟨h1,h2,h3⟩:=Ya hA (x:=bK) (Hh J) (by decide+kernel) false I;exact⟨A,(wa A bK false).1,hless,Prod.ext Z h2,by omega,by omega,hX,h1⟩
end Go.V.L11
namespace Go.V
open Go.ChangeShapes Go.WideShapes Go.ChangeAt Go.ChangeMaps
section
variable {P:Program}  {enc:TypeId×Value->H}  
end
end Go.V
namespace Go.V
open Go.ChangeShapes Go.WideShapes Go.ChangeAt Go.ChangeMaps
section
variable {P:Program}  {enc:TypeId×Value->H}  
end
end Go.V
namespace Go.V.L10
open Go.ChangeShapes Go.WideShapes Go.ChangeAt Go.ChangeMaps Go.V Go.V.L2 Go.V.L6
section
variable  {enc:TypeId×Value->H}  
end
end Go.V.L10
section
open Go.V
attribute [local irreducible] Has LV N Pan Par Ret RetL RetO RetT RetX RetY Src StepOK V VO X XP bp kr
namespace Go.V.L11
open Go.ChangeShapes Go.V.L2 Go.V.L3 Go.V.L4 Go.V.L6 Go.V.L8 Go.V.Bd Go.V.L10
abbrev DmP(D:List Nat):Value->Heap->Prop:=TupS [BsV D true,fun v _=>v=.int .i64 0]
def DmP.mono{D:List Nat}:Kn.mono (.sat (DmP D)):=M0 ma
def Rk{bs:List Nat}{S:Sto}(h:ldF bs=(y,(0,0)))(hS:loS y=S)(hb:∀ b∈bs,b<=255)(hz:bs.length<=1099511627776)(hB:zpk B w)(hv:BsV bs fu v B):
  RetO zpl 26 [v] w B (Da (fun b=>.tuple #[ct b,.int .i64 0,.int .i64 0]) fun b=>StG b S):=by
 have h1:=Fz hb hz hB hv;rw[h] at h1;subst hS;exact zhn Z h1
def Ca{bs:List Nat}{a:Int}(h:ldF bs=(y,(a,e)))(he:e≠0)(hb:∀ b∈bs,b<=255)(hz:bs.length<=1099511627776){v:Value}(hB:zpk B w)(hv:BsV bs fu v B):
  Ret zpl 26 [v] w B fun v _=>v=.tuple #[.pointer none,.int .i64 a,.int .i64 e]:=by
 have h1:=Fz hb hz hB hv;rw[h] at h1;exact Va he h1
def _root_.ZeW(t:Wr Y->A:=by intro h;refine zh (k8 L _ _ Z Z Z Z ⟨rfl,rfl⟩ ⟨rfl,rfl⟩ I I Z) Z ?_;exact h.1)(h:Y):A:=t ⟨h⟩
def _root_.ZeI(t:Wr Y->A:=by intro h;refine zh (zcj Z Z Z Z I E) Z ?_;exact h.1)(h:Y):A:=t ⟨h⟩
def _root_.ZeJ(t:Wr Y->A:=by intro h;refine zh (zci Z Z Z Z I E) Z ?_;exact h.1)(h:Y):A:=t ⟨h⟩
def zdb(l:List U)(k:Nat):(l.flatMap ucs).take (k*6)=(l.take k).flatMap ucs:=by
 rcases m8 k l.length with h | h
 ·conv=>lhs;rw[<-zli k l,zlz]
  rw[zoj (by rw[Eu,mw,zmg I])]
 ·rw[zle (by rw[Eu];exact zmv _ h),zle h]
attribute [local irreducible] kl
def Up(hB:zpk B w):Ret zpl 111 [.pointer none] w B (fun x _=>x=.bool true):=by
 refine yf Tryz.func111 Z Tryz.ntmps111 (np Z) hB ((Z5∘Za) ?_);refine z8 (v0 Z Z Z Z zit Z) Z ((Zb6∘Zc5∘Zd) ?_);exact ye2 L [.tmp 2]
def Vj(hB:zpk B w):Ret zpl 85 [.pointer none] w B (fun x _=>x=.slice none 0 0):=by
 refine yf Tryz.func85 Z Tryz.ntmps85 (np Z) hB (ZbG (h:=?_));refine z81 L Z (fun u H hH hle=>Up hH) ?_;refine(ZbH∘Zd) ?_;exact ye2 L [.tmp 2]
def Vy(hB:zpk B w):Ret zpl 28 [.pointer none] w B (fun x _=>x=.tuple #[.slice none 0 0,.int .i64 2]):=by
 refine yf Tryz.func28 Z Tryz.ntmps28 (np Z) hB ((ZaL∘ZaM) ?_);refine z81 L Z (fun u H hH hle=>Vj hH) ?_;refine(Zi∘Zq∘Zcl∘ZC∘Zr∘ZR∘ZB) ?_;exact ye2 L [.tmp 2,.tmp 3]
def NewV(v:Value)(H:Heap):Prop:=∃ b m,v=ct b/\H b=some (.cells (stc 1 m (.slice none 0 0) 0).toArray tyS)
def NewV.mono:Kn.mono (.sat NewV):=fun _ _ _ ⟨b,m,h1,h2⟩ hle=>⟨b,m,h1,hle _ _ h2⟩
def Te(hB:zpk B w):Ret zpl 42 [] w B NewV:=by
 refine yf Tryz.func42 Z Tryz.ntmps42 (np Z) hB (Z5 (h:=?_));refine z8 (Br (hint:=none) .u64 vcE Z Z) Z ?_;refine He 1 901 rfl fun m=>?_;refine ZcJ (h:=?_);refine xf (Ds (q:=901) (vc:=vcE) 1 ([],nilSet) mpS kyS Z Z Z Z Z Z Z) (Za (h:=?_));refine z8 (yl (cs:=[_,_,_,_]) Z Z zd5 Z Z) Z (Zdn (h:=?_));refine q0 (yw (.inr Z) Z) (Z1 (h:=?_));refine kq 0 900 rfl fun b=>?_;refine wd 900 rfl fun H1 hs1 _ hyb=>?_;refine ye L (rs:=[.tmp 0]) Z (fun _ _ h=>h) hs1 fun u H hH hle=>?_;exact⟨b,m,rfl,hle _ _ hyb⟩
def Qo{m:Nat}(hB:zpk B w)(hb:B b=some (.cells (stc 1 m (.slice none 0 0) 0).toArray tyS)):
  Ret zpl 43 [ct b] w B (fun v _=>v=pnv (.slice none 0 0) 0):=by
 refine yf Tryz.func43 Z Tryz.ntmps43 (np Z) hB ((Zaj∘Zaz∘Zbf) ?_);refine z81 L Z (fun u H hH hle=>L10.none_ret J (hle _ _ hb) hH) ?_;refine(Zl∘Zu∘ZI) ?_;refine z8 (zz L (vs:=[_,_]) (qk Z E) Z Z Z Z ⟨_,rfl⟩) Z (Zau (h:=?_));refine ye1 L [.cell 2 112] fun u H hH hle=>?_;exact⟨_,qs Z,rfl,rfl⟩
def zet{X Y:List U}{R:List (Option (List U))}(h:K5 X Y R){x y:Value×Option Addr×Value×Option Addr}{fr fb:Bool}{v1 v2:Value}(hB:zpk B w)(h1:RsV [5,18446744073709551615] fr v1 B)(h2:SsV [(X,x),(Y,y)] fb v2 B)(hx:SetV X (sbv (X,x)) B)(hy:SetV Y (sbv (Y,y)) B):
  RetO zpl 41 [v1,v2,pnv (.slice none 0 0) 0] w B (Da (fun b=>.tuple #[ct b,.int .i64 0]) fun b=>StG b (S5 R 0)):=
 zcn (Dn (zs:=[(5,(X,x)),(18446744073709551615,(Y,y))]) (L0:=[]) (S:=S5 R 0) mk5 (fun _=>⟨h.mp [(X,x),(Y,y)] rfl,h.rl,rfl⟩) (mf _) (mf _) (np rfl) hB h1 h2 (fun b hb=>by
  have hb:b∈[(X,x),(Y,y)]:=hb;simp only[nw,zmj,or_false] at hb;rcases hb with rfl | rfl
  ·exact hx
  ·exact hy) SlV.nil)
def wiresKnown_law(hB:zpk B w)(hM:GlobM B):Ret zpl 7 [] w B (fun v _=>v=.bool true):=by
 have t0:tE d0=0:=by decide+kernel
 have tz:TZ d0:=Hh J;have p0:ptA zja=(d0,0):=by decide+kernel
 have pK:ptA ⟨#[97,58,97,35,118,105,101,119,101,114,64,117,115,101,114,58,120]⟩=(bK,0):=by decide+kernel
 refine yf Tryz.func7 Z Tryz.ntmps7 (np Z) hB (Z5 (h:=?_));refine z81 L Z (fun u H hH _=>cx p0 (np Z) hH) ?_;refine(Zbv∘Zc∘ZM) ?_;refine z81 L Z (fun u H hH _=>cx pK (np Z) hH) ?_;refine(Zbv∘Zc∘ZR∘Zc∘Z9∘Zi) ?_;refine cr 6 tyU 6 rfl ((ZY∘Zbt) ?_);refine xo (fun i:Nat=>[(1,.own (gj (ucs d0) tyU)),(3,.own (gj (ucs bK) tyU)),(5,.is (.string d36)),(6,.own (SlR tyU 6 (kl d0 i).length ((kl d0 i).flatMap ucs))),(7,.is (.int .i64 i))]) (fun i=>i<=4097) (fun i=>4097-i) 0 (mf _) ⟨Z,Z,Z,by show _=some (Kn.own (SlR tyU 6 (kl d0 0).length ((kl d0 0).flatMap ucs)));rw[ze1];rfl,Z,nm⟩ ?_;rintro i hi;have hki:=vn d0 i;by_cases hlt:i<4097
 ·have q1296:IntKind.i64.wrap ((i:Int).tdiv 1296)=((i/1296:Nat):Int):=yz (by rw[show(i:Int).tdiv 1296=((i/1296:Nat):Int) from rfl];omega) (by rw[show(i:Int).tdiv 1296=((i/1296:Nat):Int) from rfl];omega);have q36:IntKind.i64.wrap ((i:Int).tdiv 36)=((i/36:Nat):Int):=yz (by rw[show(i:Int).tdiv 36=((i/36:Nat):Int) from rfl];omega) (by rw[show(i:Int).tdiv 36=((i/36:Nat):Int) from rfl];omega);have r36:Int.tmod ((i/36:Nat):Int) 36=((i/36%36:Nat):Int):=rfl;have r1:Int.tmod (i:Int) 36=((i%36:Nat):Int):=rfl;have s1:=Gp (i/1296) I;have s2:=Gp (i/36%36) I;have s3:=Gp (i%36) I;have habc:d36.size=36:=rfl;have h1:(dgt (i/1296)).size+(dgt (i/36%36)).size<=9223372036854775807:=I;have h2:(dgt (i/1296)++dgt (i/36%36)).size+(dgt (i%36)).size<=9223372036854775807:=by rw[m9];omega
  unfold dgt at h1 h2;have a1:IntKind.i64.wrap (((i/1296:Nat):Int)+1)=((i/1296+1:Nat):Int):=yz I I;have a2:IntKind.i64.wrap (((i/36%36:Nat):Int)+1)=((i/36%36+1:Nat):Int):=yz I I;have a3:IntKind.i64.wrap (((i%36:Nat):Int)+1)=((i%36+1:Nat):Int):=yz I I;refine(Zh∘ZH∘ZaH∘ZbF∘ZK∘ZaI∘Zbu) ?_;refine kq 8 900 rfl fun b8=>?_;refine qh (id:=9) [(100067,[900])] x8 T ((Zn∘ZeI∘Zj∘ZeI∘ZaW∘ZeW∘Zn∘ZeI∘ZeJ∘Zj∘ZeI∘ZeJ∘ZaW∘ZeW∘Zda∘Zn∘ZeJ∘Zj∘ZeJ∘ZaW∘ZeW∘Zda∘Zag∘Zag∘Zag∘Ze6∘Zbz) ?_);refine w6 8 900 rfl Z (Zah (h:=?_));refine q0 (yw (.inl Z) Z) ((ZaI∘Zap∘ZdL) ?_);refine q0 (yw (.inr Z) Z) ((ZbN∘Z3∘ZbR) ?_);exact ym (x:=i) (i+1) I I ⟨Z,Z,Z,by rw[Vi];exact Yd Z,Z,nm⟩
 ·obtain rfl:i=4097:=by omega
  clear hki hi hlt;refine ax 6 rfl ?_;have l5:=vn d0 4097;have l4:=vn d0 4096
  have hcut:(((kl d0 4097).flatMap ucs).drop (0*6)).take ((4096-0)*6)=(kl d0 4096).flatMap ucs:=by
   rw[Nat.zero_mul,zl5,show(4096-0)*6=4096*6 from rfl,zdb,ze2 J]
  have hcv:∀ {v:Value} {H:Heap},SlV tyU 6 ((kl d0 4096).flatMap ucs) (4096-0) false v H->US (kl d0 4096) false v H:=fun h=>by
   unfold US;rw[vn];exact h
  obtain⟨s,t4,t5,sz,p4,p5⟩:=kw t0;obtain⟨A,Y,w3,w4,la,ly,sx,sy⟩:=ky t0 tz;have o4:=zem t0;have z4:∀ x∈kl d0 4096,TZ x:=sx.tz;have z5:∀ x∈kl d0 4097,TZ x:=fun x hx=>by obtain⟨i,hi,rfl⟩:=ek.1 hx;exact zjm tz hi
  have v4:∀ x∈kl d0 4096,(aj x).size<=1000:=fun x hx=>zld (F0 (sx.ok x hx)) J;have v5:∀ x∈kl d0 4097,(aj x).size<=1000:=fun x hx=>zld (F0 (by obtain⟨i,hi,rfl⟩:=ek.1 hx;exact K2 t0 hi)) J;have g7:=zcu (t:=d0) (n:=4097) (show 4000<4097 by decide);have z7:=zjm tz (show 4000<4097 by decide);have zK:TZ bK:=Hh J;generalize kt d0 4000=y7 at *;generalize kl d0 4096=K4 at *;generalize kl d0 4097=K5 at *;have c7:=rq g7;clear g7;have hsx:(s++bX).size<=1000000:=by rw[m9];show _+1<=_;omega
  have hsc:s.size+(bX).size<=9223372036854775807:=by show _+1<=_;omega
  have m0:Kn.mono (.sat (US K4 true)):=ma;have m1:Kn.mono (.sat (US ([]:List U) true)):=ma;have m2:Kn.mono (.sat (SetV K4)):=SetV.mono;have m3:Kn.mono (.sat (SetV A)):=SetV.mono;have m4:Kn.mono (.sat (SetV Y)):=SetV.mono;refine(Zh∘ZH∘Z0∘ZaR) ?_;refine(ZO∘Zk) ?_;refine z8 (jk L (kl:=.i64) (pl:=0) (km:=.i64) (pm:=0) 0 4096 false Z Z Z Z Z Z ⟨rfl,rfl⟩ (fun h=>by cases h) I I hcut) Z ?_;refine z8 (zy L Z Z (zo Z) Z Z Z (fun u H hH hle _ v1 h1=>rj t4 z4 v4 hH (hcv h1))) Z ((ZaX∘ZT∘Zk) ?_);refine z8 (zy L Z Z (zo Z) Z Z Z (fun u H hH hle _ v1 h1=>rj t5 z5 v5 hH h1)) Z (ZaX (h:=?_));refine(ZV∘Za) ?_;refine z8 (xi (φ:=TupS [US K4 true,fun v _=>v=.int .i64 0,fun v _=>v=.int .i64 0]) L Z Z (zo Z) Z Z Z (d7 ma) (fun u H hH hle _=>er p4 I hH (hM.mono hle))) Z ((Zk∘Zcz∘ZbB∘ZbB∘ZX∘Za7∘Zb9) ?_);refine z8 (Fp Z Z Z Z E Z) Z (z8 (xi (φ:=TupS [US ([]:List U) true,fun v _=>v=.int .i64 4097,fun v _=>v=.int .i64 3]) L Z Z (zo Z) Z Z Z (d7 ma) (fun u H hH hle _=>er p5 hsx hH (hM.mono hle))) Z ((Zk∘Zcz∘ZbB∘ZbB∘ZX∘Zbk∘Zaw∘Zb∘Zv∘ZG∘Zb∘ZG∘Zg∘Za∘Zo∘ZG∘ZbQ∘ZG∘ZbQ∘ZG∘ZbQ∘ZG∘Zbd) ?_));have hlo:LoOK (ks5 4096 K4 Y):=zcs (ns _) sx I sy ly;obtain⟨R,h5⟩:=k5 sx I sy ly;have hSe:=h5.lo;have hD2:=hlo.D;have hks:=ze0 hlo.k;rw[hSe] at hD2 hks;obtain⟨hDl,hD0⟩:=hlo.bytes;have hDb:=zff (ks:=ks5 4096 K4 Y);have hld:=zhp hlo.k hlo.l0 hlo.l1;have hdmp:=fun {u:World} {H:Heap} {C:Nat->Prop} {b:Nat} (hH:zpk H u) (hr:(StG b (S5 R 4096)).P H u C) (hC:ZCB C u H)=>Pf hD2 hH hr hC;rw[hks] at hdmp;generalize L5 (ks5 4096 K4 Y)=D at hDl hD0 hDb hld hdmp;generalize (kzs (ks5 4096 K4 Y),kpi (ks5 4096 K4 Y))=yy at hSe hld;have hneR:R.length≠0:=hD2.n0;have hkl:=hD2.kl;have hts:∀ r t,kpt (S5 R 4096).R r=some t->t.length<=100000:=fun r t ht=>by have:=(hD2.tl r t ht).1;omega
  have hpl:(S5 R 4096).P.length<=100000:=by show(List.replicate 4096 (5:Int)).length<=_;rw[zoa];decide
  have hsm:∀ {b2 b:Nat} {u:World} {H:Heap} {C:Nat->Prop},zpk H u->(uw (StG b2 (S5 R 4096)) (StG b (S5 R 4096))).P H u C->(ZCB C u H)->RetY zpl 45 [ct b2,ct b] u H C (uw (StG b2 (S5 R 4096)) (StG b (S5 R 4096))) (fun v _=>v=.bool true):=fun hH hr hC=>by
   have h:=Qk hD2.n0 hD2.n0 I I hpl hpl hts hts hH hr hC;have e:Ba (S5 R 4096) (S5 R 4096)=true:=by unfold Ba;rw[Bool.and_eq_true];exact⟨decide_eq_true rfl,decide_eq_true rfl⟩
   rwa [e] at h
  have hpn:=fun(n:Nat) (hn:n<4096) {b:Nat} {u:World} {H:Heap} {C:Nat->Prop} (hH:zpk H u) (hr:(StG b (S5 R n)).P H u C) (hC:ZCB C u H)=>
   Tb (S:=S5 R n) (S':=S5 R (n+1)) (r:=5) (e:=0) hneR zdy (by show(List.replicate n (5:Int)).length<=_;rw[zoa];omega) (zku h5.kp) hH hr hC
  have hmk:=fun {x y:Value×Option Addr×Value×Option Addr} {fr fb:Bool} {v1 v2:Value} {u:World} {H:Heap} (hH:zpk H u) h1 h2 h3 h4=>zet h5 (x:=x) (y:=y) (fr:=fr) (fb:=fb) (v1:=v1) (v2:=v2) hH h1 h2 h3 h4;have hmb:Kn.mono (.sat (BsV D true)):=ma;generalize hS:S5 R=S at *;refine(Zbn∘Zk) ?_;refine z8 (jk L (kl:=.i64) (pl:=0) (km:=.i64) (pm:=0) 0 4096 false rfl rfl rfl rfl rfl rfl ⟨rfl,rfl⟩ (fun h=>by cases h) I I hcut) rfl ?_;refine z8 (xi (φ:=WithP K4 0) L rfl rfl (zo rfl) rfl rfl rfl WithP.mono (fun u H hH _ _ v1 h1=>zds o4 I z4 hH (hcv h1))) rfl (v6 124 rfl ?_);rintro _ H1 hs1 ⟨tv,rfl,hT1⟩;obtain⟨f1,p1,k1,q1,rfl,hp1⟩:=hT1.shape;refine(Zy∘Z7∘ZbX∘Zc) ?_;refine qh (id:=18) [] x8 T ((Zcn∘Zak) ?_);refine zh (yi L 4000 rfl Z Z Z (by first | omega | decide) E) Z ?_;refine(Zcf∘Ze1) ?_;refine zh (xi (φ:=WithS A 0) L Z Z (zo Z) Z Z Z WithS.mono (fun u H hH hle _=>Es w3 (by first | omega | decide) z7 hH (hT1.le hle))) Z ?_;refine(Zak∘Zer∘Zes) ?_;refine zh (ql L Z Z Z Z) Z (zh (fq L (X:=SXp) (fun x=>scs x.1) (Ah A) (k7 _) A8 (fun x=>⟨rfl,x.2⟩) Z Z Z Z Z) Z ((Zaf∘ZU) ?_));refine vu 20 rfl fun⟨⟨f2,p2,k2,q2⟩,hp2⟩ H2 hs2 hT2=>?_;have hT2:SetV A (.agg #[f2,.pointer p2,k2,.pointer q2]) H2:=hT2;replace hT1:=hT1.le hs2.le;refine(Zcj∘Zbp∘ZaI∘ZcX) ?_;refine z8 (xi (φ:=WithS Y 0) L Z Z (zo Z) Z Z Z WithS.mono (fun u H hH hle _=>Es w4 (by first | omega | decide) zK hH (hT2.le hle))) Z ?_;refine(Zk∘Zcz∘ZbB∘Z7) ?_;refine z8 (fq L (X:=SXp) (fun x=>scs x.1) (Ah Y) (k7 _) A8 (fun x=>⟨rfl,x.2⟩) Z Z Z Z Z) Z (Zc (h:=?_));refine vu 21 rfl fun⟨⟨f3,p3,k3,q3⟩,hp3⟩ H3 hs3 hT3=>?_;have hT3:SetV Y (.agg #[f3,.pointer p3,k3,.pointer q3]) H3:=hT3;replace hT1:=hT1.le hs3.le;refine Xs (id:=20) 7 [] x8 T ((Zdv∘Zcn∘Zcn∘Zdv) ?_);refine zh (xi (φ:=NewV) L Z Z (zo Z) Z Z Z NewV.mono (fun u H hH hle _=>Te hH)) Z (zh (zy L Z Z (zo Z) Z Z Z (fun u H hH hle _ v1 ⟨b1,m1,e1,hb1⟩=>e1 ▸ Qo hH hb1)) Z (zh (u5 L Z Z (zo Z) Z Z Z (fun u H hH hle _ v1 h1 v2 h2=>hmk (x:=(f1,p1,k1,q1)) (y:=(f3,p3,k3,q3)) hH (h1.toV (n:=2) Z) (h2.toV (n:=2) Z) (hT1.le hle) (hT3.le hle))) Z (ZbI (h:=?_))));refine zb4 150 900 rfl fun b=>?_;refine zj1 (Zj (h:=?_));refine zh (zp Z Z Z Z) Z (zh (zp Z Z Z Z) Z ((Zaf∘Zaf∘ZU∘Ze) ?_));refine(ZbD∘Zb∘Zv∘Za∘Zv∘Za∘Zv∘ZG∘Zb) ?_;refine z8 (v0 Z Z Z Z zit Z) Z ((Zg∘Z6∘Zdl∘Zbt) ?_);refine xo (fun n:Nat=>[(22,.is (ct b)),(23,.is (.int .i64 n)),(900,.own (StG b (S n)).res)]) (fun n=>n<=4096) (fun n=>4096-n) 0 (mf _) ⟨Z,Z,Z,nm⟩ ?_;rintro n hn;by_cases hlt:n<4096
  ·refine(Zh∘ZcC∘Za∘ZaH∘ZbF) ?_;refine zi (id:=26) (Za (h:=?_));refine q0 (y6 L 900 (StG b (S (n+1))) (.int .i64 0) (r:=StG b (S n)) Z Z Z Z Z (fun u H C hH hle hr hC=>zce (hpn n hlt hH hr hC))) ((ZG∘Zca) ?_);refine zi (id:=25) ((Za∘ZbR) ?_);exact ym (x:=n) (n+1) I I ⟨Z,Z,Z,nm⟩
  ·obtain rfl:n=4096:=by omega
   refine(Zh∘ZcC∘Za∘Z0∘ZaR) ?_;refine zi (id:=28) (Za (h:=?_));refine qz (u4 L 900 (DmP D) (r:=StG b (S 4096)) Z Z Z Z Z DmP.mono (fun u H2 C2 hH hle hr2 hC2=>hdmp hH hr2 hC2)) ((Zk∘Zcz∘ZbB∘ZX∘Zc) ?_);refine zi (id:=29) (Zk (h:=?_));refine z8 (u5 L Z Z (zo Z) Z Z Z (fun u H hH hle _ v1 h1=>Rk hld hSe hDb I hH h1)) Z ?_;refine im 179 902 rfl fun b2=>?_;refine(Zy∘Zb1∘Zbl) ?_;refine(ZdU∘ZG∘Zb∘ZG∘ZbQ∘ZG∘Zg∘Zz) ?_;refine jn 902 900 rfl Z (xd (StG b (S 4096))) ?_;refine qz (Kj L 902 (.bool true) (r:=uw (StG b2 (S 4096)) (StG b (S 4096))) Z Z Z Z Z (fun u H2 C2 hH hle hr2 hC2=>hsm hH hr2 hC2)) ((Zt∘Zbd) ?_);refine zi (id:=32) (Zap (h:=?_));refine z8 (zy L Z Z (zo Z) Z Z Z (fun u H hH hle _ v1 h1=>Ca (bs:=[1,1,129,32,0]) (fu:=true) (y:=([],[])) (a:=2) (e:=3) T J J J hH (h1.toV (n:=5) Z))) Z ((Zy∘Zb1∘Za7) ?_);refine zi (id:=33) (Zap (h:=?_));refine z8 (zy L Z Z (zo Z) Z Z Z (fun u H hH hle _ v1 h1=>Ca (bs:=[2,255,255,255,255,255,255,255,255,255,1,0,0,1,0,0]) (fu:=true) (y:=([],[])) (a:=13) (e:=5) T J J J hH (h1.toV (n:=16) Z))) Z ((Zy∘Zb1∘Za7) ?_);refine zi (id:=34) (z81 L Z (fun u H hH hle=>Vy hH) ?_);refine(Zy∘Zc) ?_;refine zi (id:=35) ((Za∘ZC∘Zb∘ZC∘ZbQ∘ZC∘ZbQ∘ZC∘ZbQ∘ZC∘Zg∘Za) ?_);refine z81 L Z (fun u H hH hle=>Kv hH (hM.mono (hs1.le.trans (hs2.le.trans (hs3.le.trans hle))))) ?_;refine(Zg∘Zd) ?_;refine ye L (rs:=[.tmp 0]) Z (fun _ _ h=>h) (hs1.trans (hs2.trans hs3)) fun u H hH hle=>?_;rfl
end Go.V.L11
end
end
set_option maxRecDepth 20000
namespace Go.Proofs.YtefilnnomholbaaGreat.wiresKnown
open Go.ChangeShapes Go.WideShapes Go.ChangeAt Go.ChangeMaps Go.RowKit Go.V Go.V.L11
theorem own : ownKnob Tryz.prog.godebug = none := by kernel_rfl
theorem laidOut : laidOutB Tryz.prog = true := by kernel_rfl
set_option maxRecDepth 100000 in
theorem lifted (os : Os) (started : os.Started) (H : Type) (enc : TypeId × Value → H) :
    ReturnsInHanded {} Tryz.checked os 7 .any (Rows.wiresKnownSpec.pre6 enc Tryz.prog Tryz.f7 Rows.wiresKnownRow.domain false) (Rows.wiresKnownSpec.post enc Tryz.prog Tryz.f7 false true false false) := by
  refine returnsInHanded_of_change_shaped (C := Tryz.checked) own started (by kernel_rfl) Tryz.func7
    (ChangeSpec.witness6 (enc := enc) (C := Tryz.checked) false ⟨#[], #[], []⟩ 8 (by kernel_rfl) (by kernel_rfl) (by kernel_rfl) (by kernel_rfl)) ?_
  intro W base args ds gs before hval0 hW hcnd _ hsh _
  have hval : ∀ (j : Nat) t v, Tryz.f7.params[j]? = some t → args[j]? = some v → Value.okWide Tryz.prog W .any base t v := hval0
  have hW' := hW
  obtain ⟨p, q, hA0, hV, rfl, hfz, hnd⟩ := hW
  have hA : DataW.TrodAll enc Tryz.prog W 0 (fun _ => true) true Tryz.f7.params.toList args.toList ds p := hA0
  rw [Tryz.params7] at hA hval
  obtain ⟨rfl, rfl, rfl⟩ := trodAll_none hA
  obtain ⟨rfl, rfl⟩ := trodVars_none hV
  clear hA0 hval0
  obtain ⟨m0, hm0⟩ := Tryz.laysM145.s1_3 W hsh
  have hglob := GlobM.of_cell hm0
  have hplc := hW'.lt
  simp only [List.append_nil] at hW'
  have hlaw := Go.V.L11.wiresKnown_law (w := W) (Heap.Le.refl _) hglob
  unfold Ret at hlaw
  refine hlaw.mono fun e W' hp => ?_
  obtain ⟨v, rfl, H', g, rfl⟩ := hp
  exact ⟨_, rfl, _, _, _, [], [], [], hW', trodAll_cons_mk (shut_bool Tryz.underlying4 _) trodAll_mk0, trodAll_mk0, rfl, g.below.frame _, fun h => by cases h⟩
theorem j1 : (Rows.wiresKnownRow.inPlace == Tryz.prog.inPlace 7) = true := by kernel_rfl
theorem j2 : (Rows.wiresKnownRow.unfollowed == Tryz.prog.unfollowed 7) = true := by kernel_rfl
theorem j3 : (Rows.wiresKnownRow.recurses == Tryz.prog.recurses 7) = true := by kernel_rfl
theorem j4 : (Rows.wiresKnownRow.named == Tryz.prog.varsNamed 7) = true := by kernel_rfl
theorem j5 : Tryz.prog.stopsHeard = true := by kernel_rfl
theorem j6 : laidOutB Tryz.prog = true := by kernel_rfl
theorem joined : joinedFacts Tryz.prog 7 Tryz.f7 Rows.wiresKnownSpec Rows.wiresKnownRow = true := by
  unfold joinedFacts
  rw [j1, j2, j3, j4, j5, j6]
  kernel_rfl
theorem proved : Rows.WiresKnownSaid :=
  OpenClaim.holds_of_wide 7 Tryz.f7 rfl rfl rfl rfl rfl rfl rfl ⟨rfl, rfl, rfl, rfl, rfl⟩ rfl rfl rfl rfl rfl (by kernel_rfl) Tryz.func7 joined
    (of_decide_eq_true (by kernel_rfl)) (by unfold Func.isWrapper; first | (rw [if_pos (by decide +kernel)]; kernel_rfl) | (rw [if_neg (by decide +kernel)]; exact ⟨rfl, rfl⟩))
    (fun os started H enc _ => lifted os started H enc)
#print axioms proved
end Go.Proofs.YtefilnnomholbaaGreat.wiresKnown
