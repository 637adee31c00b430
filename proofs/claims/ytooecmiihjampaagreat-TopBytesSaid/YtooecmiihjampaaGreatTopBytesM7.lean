/- TopBytes returns true for every input, and leaves it as it was: no condition. -/
import Derived.Test.YtooecmiihjampaaGreatTopBytesM6
import Derived.Test.YtooecmiihjampaaGreatRows
set_option linter.unusedVariables false
set_option linter.unusedSimpArgs false
set_option maxRecDepth 20000
set_option maxHeartbeats 8000000
set_option linter.defProp false
open Go.Proofs Go.RowKit
section
variable{fu:Bool}{v:Go.Value}{w:Go.World}{B:Go.V.Heap}{l:List Go.V.L2.U}{t:Go.V.L2.U}{A Y:Prop}
section
open Go.V
attribute [local irreducible] Has N Par Ret RetL RetO RetT Src StepOK V VO X
namespace Go.V.Top
open Go.V.L2 Go.V.L3 Go.V.L4 Go.V.L6 Go.V.L8 Go.V.L10 Go.V.L11
def _root_.Zfi(t:Wr Y->A:=by intro h;refine z8 (yf L 0 rfl Z Z Z E Z) Z ?_;exact h.1)(h:Y):A:=t ⟨h⟩
def zh8{n:Nat}{S:Sto}(hj:JJ n S)(hn:n<=100):StoL S:=by
 have hR:=hj.hR;have hP:=hj.hP;have hI:=hj.I hn;have hm:=vo.2 hj.last;refine⟨⟨hj.ne,by omega,List.length_pos_of_mem hm,hI.kl,mp (Cz (nu _)) T,by omega,fun r t ht=>⟨hI.tl r t ht,(hj.so r t ht).1.sst,Vy (hj.so r t ht).1⟩⟩,hj.last,hj.pin,fun r t ht=>(hj.so r t ht).1,fun r=>mp zs8 T⟩
def zom:psA ⟨#[117,115,101,114,58,120]⟩=(⟨#[117,115,101,114]⟩,⟨#[120]⟩,⟨#[]⟩,0):=by decide+kernel
attribute [local irreducible] XP LV kx RetX RetY Pan ed
abbrev DmP(D:List Nat):Value->Heap->Prop:=TupS [BsV D true,fun v _=>v=.int .i64 0]
def DmP.mono{D:List Nat}:Kn.mono (.sat (DmP D)):=Oe ns
def T8{bs:List Nat}{y:List (Int×List U)×List Int}{S:Sto}(h:ldF bs=(y,(0,0)))(hS:loS y=S)(hb:∀ b∈bs,b<=255)(hz:bs.length<=1099511627776)(hB:zth B w)(hv:BsV bs fu v B):
  RetO zti 86 [v] w B (Kh (fun b=>.tuple #[eu b,.int .i64 0,.int .i64 0]) fun b=>StG b S):=by
 have h1:=zdo hb hz hB hv;rw[h] at h1;subst hS;exact zld Z h1
def T9(hB:zth B w)(hM:GlobM B):Ret zti 28 [] w B (fun v _=>v=.bool true):=by
 have z0:TZ d0:=Qb E;have z2:TZ d2:=Qb E;have m0:=zjw z0;have m2:=zjw z2
 have all:∀ l:List CH,(∀ c∈l,c.1=d0\/c.1=d2)->∀ c∈l,TM c.1:=fun l h c hc=>by
  rcases h c hc with e | e
  ·rw[e];exact m0
  ·rw[e];exact m2
 have j0:=zfz;obtain⟨j1,j2,j3,j4⟩:=zop;have hL:=zh8 j4 E;have hne:=j4.ne;have hlo:=hL.lo;have hDb:=zim (ks:=Pf q4);obtain⟨hDl,hD0⟩:=hlo.bytes;have hld:=zlf hlo.k hlo.l0 hlo.l1;have hdmp:=fun {b:Nat} {u:World} {H:Heap} {C:Nat->Prop} (hH:zth H u) (hr:(StG b q4).P H u C) (hC:ZCB C u H)=>zd9 hL.D hH hr hC;generalize Pm (Pf q4)=D at hDl hD0 hDb hld hdmp
 have hs1:∀ {b b2:Nat} {u:World} {H:Heap} {C:Nat->Prop},zth H u->(gj (StG b q4) (StG b2 q4)).P H u C->(ZCB C u H)->RetY zti 87 [eu b,eu b2] u H C (gj (StG b q4) (StG b2 q4)) (fun v _=>v=.bool true):=fun hH hr hC=>by
  have hts:∀ r t,kpt q4.R r=some t->t.length<=100000:=fun r t ht=>by have:=(hL.D.tl r t ht).1;omega
  have h:=S8 (A:=q4) (D:=q4) hne hne E E E E hts hts hH hr hC
  rwa [zoq] at h
 have k1:Kn.mono (.sat (US [d0,d2] true)):=ns;have k2:Kn.mono (.sat (RsV [1] true)):=ns;have k3:Kn.mono (.sat (BsV D true)):=ns;refine yn Tryz.func28 Z Tryz.ntmps28 (np Z) hB (Z4 (h:=?_));refine z7 (xg (φ:=TupS [US [d0,d2] true,fun v _=>v=.int .i64 0,fun v _=>v=.int .i64 0]) L Z Z (zm Z) Z Z Z (C7 ns) (fun u H hH hle _=>B6 zon (np Z) hH (hM.mono hle))) Z ((Zk∘ZcW∘ZcC∘ZcC∘Zat∘ZaS∘Z9) ?_);refine z7 (wh L Z Z (zm Z) Z Z Z (fun u H hH hle _=>zcu hH)) Z (qe (yr (.inr Z) Z) (Zan (h:=?_)));refine Kf 4 900 rfl fun b=>?_;refine(ZA∘Zaq∘Za∘Zg) ?_;refine z7 (Dc Z Z Z Z Z) Z (ZbC (h:=?_));refine z7 (u0 Z Z Z Z zk2 Z) Z (ZbX (h:=?_));refine qo (id:=5) [(56,[900])] ki J ((Zl∘Zab∘Zfi∘Zcl) ?_);refine z8 (yu (cs:=[_,_,_,_,_,_,_]) Z Z zmi Z Z) Z ((Zd4∘Zab∘Zfi∘Zcl∘Zez∘Zab) ?_);refine z8 (yf L 1 rfl Z Z Z E Z) Z ((Zcl∘Zez∘Zd4) ?_);refine xq (yh L 900 (StG b q1) (.tuple #[.int .u64 2,.int .i64 0]) (r:=StG b newS) Z Z Z Z Z (fun u H2 C2 hH hle hr2 hC2 v1 h1 v2 h2=>Qs (Ew (l:=[(d0,true)]) (cs:=[(d0,false),(d2,false)]) (j0.I E) E j0.ne (all _ (by simp)) (all _ (by simp)) E E zka hH (h1.toV (n:=1) Z) (h2.toV (n:=2) Z) hr2 hC2))) Z Z ?_;refine Zl (h:=?_);refine z8 (qk Z Z Z Z) Z (z8 (qk Z Z Z Z) Z ((ZaM∘Zbo) ?_));refine(Zs∘Zb) ?_;refine qe (yh L 900 (StG b q2) (.int .i64 0) (r:=StG b q1) Z Z Z Z Z (fun u H2 C2 hH hle hr2 hC2=>Qs (zcq j1.ne E znx hH hr2 hC2))) (Zd (h:=?_));refine qo (id:=7) [(74,[900])] ki J ((Zl∘Zab∘Zfi∘Zcl) ?_);refine z8 (yu (cs:=[_,_,_,_,_,_,_]) Z Z zmi Z Z) Z ((Zd4∘Zab∘Zfi∘Zcl∘Zez∘Zd4) ?_);refine xq (yh L 900 (StG b q3) (.tuple #[.int .u64 3,.int .i64 0]) (r:=StG b q2) Z Z Z Z Z (fun u H2 C2 hH hle hr2 hC2 v1 h1 v2 h2=>Qs (Ew (l:=[(d0,false)]) (cs:=[(d0,true)]) (j2.I E) E j2.ne (all _ (by simp)) (all _ (by simp)) E E zj9 hH (h1.toV (n:=1) Z) (h2.toV (n:=1) Z) hr2 hC2))) Z Z ?_;refine Zl (h:=?_);refine z8 (qk Z Z Z Z) Z (z8 (qk Z Z Z Z) Z ((ZaM∘Zbo) ?_));refine ZaQ (h:=?_);refine qe (ey L 900 (StG b q4) (zmg [1] 0) (r:=StG b q3) Z Z Z Z Z (Oe ns) (fun u H2 C2 hH hle hr2 hC2=>by have h:=Lj (keep:=1) j3.ne E E hH hr2 hC2;rw[zny] at h;exact h)) ?_;refine(Zk∘ZcW∘ZcC∘Zat∘Zd) ?_;refine Zal (h:=?_);refine yd (vm L 900 (DmP D) (r:=StG b q4) Z Z Z Z Z DmP.mono (fun u H2 C2 hH hle hr2 hC2=>hdmp hH hr2 hC2)) ((Zk∘ZcW∘ZcC∘Zat∘Zd∘ZI∘Zk) ?_);refine z7 (wh L Z Z (zm Z) Z Z Z (fun u H hH hle _ v1 h1=>T8 hld zoo hDb T hH h1)) Z ?_;refine rt 89 902 rfl fun b2=>?_;refine(ZB∘Zcx∘Zo∘ZaP) ?_;refine(ZY∘Zb∘ZaI∘Za∘ZaI∘Za∘ZaI∘Za∘ZaI∘Za∘ZaI∘Zaq∘Zb∘Zaq∘ZbC∘Zaq∘Zh∘Za∘Zg) ?_;refine z7 (Dc Z Z Z Z Z) Z ((Zh∘Z3) ?_);refine jo 900 902 rfl Z (xf (StG b2 q4)) ?_;refine yd (Me L 900 (.bool true) (r:=gj (StG b q4) (StG b2 q4)) Z Z Z Z Z (fun u H2 C2 hH hle hr2 hC2=>hs1 hH hr2 hC2)) (Nl 900 902 rfl (xf (StG b2 q4)) ?_);refine(Zr∘ZbX) ?_;refine(Zak∘Za) ?_;refine yd (vm L 902 (WithP [d0,d2] 0) (r:=StG b2 q4) rfl rfl rfl rfl rfl WithP.mono (fun u H2 C2 hH hle hr2 hC2=>by have h:=N4 (r:=2) hne hH hr2 hC2;rw[zmz] at h;exact h)) ?_;refine vk 126 rfl fun vx Kx hx hpx=>?_;obtain⟨svx,rfl,hsvx⟩:=hpx;obtain⟨fx,px,gx,qx,rfl,hplx⟩:=hsvx.shape;refine(ZB∘ZZ∘Zby∘Zd∘ZbG) ?_;refine yd (vm L 902 (WithP [d2] 0) (r:=StG b2 q4) rfl rfl rfl rfl rfl WithP.mono (fun u H2 C2 hH hle hr2 hC2=>by have h:=N4 (r:=0) hne hH hr2 hC2;rw[zm0] at h;exact h)) ?_;refine vk 131 rfl fun vy Ky hy hpy=>?_;obtain⟨svy,rfl,hsvy⟩:=hpy;obtain⟨fy,py,gy,qy,rfl,hply⟩:=hsvy.shape;refine(ZB∘ZZ∘Zby∘Zd∘Zao) ?_;refine z71 L rfl (fun u H hH hle=>Xf zom (np rfl) hH (hM.mono (hx.le.trans (hy.le.trans hle)))) ?_;refine(ZB∘Zaw∘Zd) ?_;have hsvx2:=hsvx.le hy.le;refine qo (id:=16) [] ki J ((Zn∘ZcU∘Zl∘ZcU∘Zde∘Zl∘Zcu) ?_);refine z8 (zw L (vs:=[_,_,_]) (y9 Z) Z Z Z Z ⟨_,rfl⟩) Z (z8 (xg (φ:=US [d0,d2] true) L Z Z (zm Z) Z Z Z ns (fun u H hH hle _=>Qk zmx E hH (hsvx2.le hle))) Z (Zek (h:=?_)));refine z8 (yt Z Z Z Z Z) Z ((Zbg∘Zl∘Zcu) ?_);refine z8 (zw L (vs:=[_,_,_]) (y9 Z) Z Z Z Z ⟨_,rfl⟩) Z (z8 (xg (φ:=US [d2] true) L Z Z (zm Z) Z Z Z ns (fun u H hH hle _=>Qk zmy E hH (hsvy.le hle))) Z (Zek (h:=?_)));refine z8 (yt Z Z Z Z Z) Z ((Zbg∘Zl∘Zcu∘Zab) ?_);refine z8 (yf L 1 rfl Z Z Z E Z) Z (Zcl (h:=?_));refine z81 L Z (fun u H hH hle=>jf (b:=true) E hH (hsvy.le hle)) ?_;refine(Zbg∘ZaB) ?_;refine yj L (rs:=[.tmp 0]) Z (fun _ _ h=>h) (hx.trans hy) fun u H hH hle=>?_;rfl
def atB(l:List U)(i:Nat):Nat:=(vq l.length).length+((l.take i).flatMap tupB).length
def zeb(l:List U)(i:Nat):(rp l).drop (atB l i)=(l.drop i).flatMap tupB:=by
 unfold rp atB;have e:l.flatMap tupB=(l.take i).flatMap tupB++(l.drop i).flatMap tupB:=by rw[<-zpl,zpb]
 rw[e,<-mn,<-nr,zr1]
def zev{i:Nat}(h:l[i]?=some t):atB l (i+1)=atB l i+(tupB t).length:=by
 unfold atB;rw[vl h,zpl,nr];simp;omega
def zi7(l:List U):atB l l.length=(rp l).length:=by
 unfold atB rp;rw[m9,nr]
def V9{i:Nat}{b:Nat}(h:l[i]?=some t)(ht:tE t=0):tq (rp l) ⟨atB l i,b,0⟩=(t,⟨atB l (i+1),b,0⟩):=by
 rw[zev h]
 have hd:(rp l).drop (atB l i)=tupB t++(l.drop (i+1)).flatMap tupB:=by
  rw[zeb,bn h];rfl
 exact zfe (R:=⟨atB l i,b,0⟩) Z ht hd
end Go.V.Top
namespace Go.V.L11
open Go.V.L2 Go.V.L3 Go.V.L6 Go.V.L8
open Go.V.L4 Go.V.Bd
def Vr{l:List U}(hs:∀ t∈l,(oh t).size<=1000)(i:Nat):(og (a7 (l.take i))).size<=i*1000:=by
 have:=ej hs i;show(List.map UInt8.ofNat (a7 (l.take i))).toArray.size<=_;simpa using this
attribute [local irreducible] kx RetX RetY
open Go.V.L10
def u6(t:U):List ByteArray:=[t.1.1.1,t.1.1.2,t.1.2,t.2.1.1,t.2.1.2,t.2.2]
def objT_size(a b:ByteArray):(G8 a b).size=a.size+1+b.size:=by
 unfold G8;rw[zpw,zpw];rfl
def goalT_size(a b c:ByteArray):(cr a b c).size=a.size+1+b.size+1+c.size:=by
 unfold cr;rw[zpw,zpw,objT_size];rfl
def Vl{t:U}{k:Nat}(h:∀ s∈u6 t,s.size<=k):(tT t).size<=6*k+5:=by
 have h1:=h t.1.1.1 (by simp [u6]);have h2:=h t.1.1.2 (by simp [u6]);have h3:=h t.1.2 (by simp [u6]);have h4:=h t.2.1.1 (by simp [u6]);have h5:=h t.2.1.2 (by simp [u6]);have h6:=h t.2.2 (by simp [u6]);unfold tT oe;rw[zpw,zpw,goalT_size];have hA:sAt.size=1:=rfl;split
 ·rw[objT_size];omega
 ·rw[goalT_size];omega
def zgj{t:U}(h:tE t=0):∀ s∈u6 t,s.size<=40:=by
 unfold tE at h;split at h
 ·rename_i h1;obtain⟨c1,c2,c3⟩:=Kd h1;obtain⟨d1,d2,d3⟩:=fh h;have a1:=wi c1;have a2:=wi c2;have a3:=wi c3;have b1:=wi d1;have b2:=wi d2
  have b3:t.2.2.size<=16:=by
   rcases d3 with d3 | d3
   ·rw[d3];decide
   ·exact wi d3
  intro s hs;simp only[u6,ma,zqe,or_false] at hs;rcases hs with rfl | rfl | rfl | rfl | rfl | rfl<;>omega
 ·rename_i h1;exact ni h h1
def Do{t:U}(h:∀ s∈u6 t,s.size<=40):(oh t).size<=1000:=by
 have:=Vl h;rw[Dn];omega
def S6{l:List U}(hs:∀ t∈l,(oh t).size<=1000):(Ce l).1.size<=l.length*1000:=by
 unfold Ce;split
 ·exact mc _
 ·dsimp only;split
  ·exact mc _
  ·have:=Vr hs l.length
   rwa [m9] at this
attribute [local irreducible] XP LV Pan ed
def Qe:∀ {l:List U},(∀ t∈l,tE t=0)->S3 l=0
 | [],_=>rfl
 | t::l,h=>by
  unfold S3;rw[nc (fun h2=>h2 (h t (mb ..)))];exact Qe fun x hx=>h x (me _ hx)
end Go.V.L11
end
namespace Go.Proofs
open Go.Shelf
end Go.Proofs
namespace Go.V.L2
open Go.V
end Go.V.L2
section
open Go.V
attribute [local irreducible] Has N Par Ret RetL RetO Src StepOK V VO X
namespace Go.V.L2
abbrev tcs(t:U):List Value:=[.string t.1.1.1,.string t.1.1.2,.string t.1.2,.string t.2.1.1,.string t.2.1.2,.string t.2.2]
attribute [local irreducible] RetT
abbrev BSF:Nat:=73
def Pu(hz:l.length<=100000)(hs:Sst ku l){v:Value}(hB:zth B w)(hv:US l fu v B):
  Ret zti BSF [v,uv t,.func (.func 74) #[] #[]] w B (fun v _=>v=.tuple #[.int .i64 (dt ku t l:Nat),.bool (decide (t∈l))]):=by
 refine yn Tryz.func73 Z Tryz.ntmps73 (np Z) hB (k8 0 (US l fu) Z ns hv ((Zu∘Zo∘Zag∘Zg∘Zbx∘ZaS∘Zam) ?_))
 refine xm (fun s:Nat×Nat=>[(0,.sat (US l fu)),(2,.is (.func (.func 74) #[] #[])),(4,.sat (At (tcs t) tyU 0)),(8,.is (.int .i64 l.length)),(9,.is (.int .i64 s.1)),(10,.is (.int .i64 s.2))])
  (fun s=>s.1<=s.2/\s.2<=l.length/\(∀ (k:Nat) (x:U),k<s.1->l[k]?=some x->ku x t<0)/\∀ (k:Nat) (x:U),s.2<=k->l[k]?=some x->¬ ku x t<0) (fun s=>s.2-s.1) (0,l.length) ⟨mc _,nu _,fun k x h=>(by cases h),fun k x h hx=>(by rw[zpd h] at hx;cases hx)⟩ ⟨rfl,rfl,rfl,rfl,rfl,rfl,nm⟩ ?_
 rintro⟨i,j⟩ ⟨hij,hjl,hlo,hhi⟩;dsimp only at hij hjl hlo hhi |-;by_cases hlt:i<j
 ·obtain⟨h,hh⟩:∃ h,h=(i+j)/2:=⟨_,rfl⟩
  have hsh:((i:Int)+(j:Int)).fdiv (2^min (1:Int).toNat IntKind.u64.bits)=(h:Int):=by
   show((i:Int)+(j:Int)).fdiv 2=(h:Int);rw[zr8 _ E];omega
  obtain⟨y,hy⟩:=xk (show h<l.length by omega);have hc:=f9 hy;by_cases hcm:ku y t<0
  ·refine(ZbM∘ZbD∘ZcL∘Z2∘Zb∘ZaI) ?_;refine z7 (ko Z Z Z jx.1 jx.2 (wrap_u64 T T)) Z (Zdr (h:=?_));refine z7 (ko Z Z Z jy.1 jy.2 (xb T T)) Z ((Zd∘Zeg∘Zl∘ZaT∘ZaY) ?_);refine z81 L Z (fun u H hH _=>ju hH) ?_;refine(Zcw∘ZbW∘ZQ∘ZaI∘Zai) ?_;exact ym (x:=(i,j)) (h+1,j) ⟨by dsimp only;omega,hjl,fun k x hk hx=>iw cmpT_ord hs hy hx (by dsimp only at hk;omega) hcm,hhi⟩ G ⟨Z,Z,Z,Z,Z,Z,trivial⟩
  ·refine(ZbM∘ZbD∘ZcL∘Z2∘Zb∘ZaI) ?_;refine z7 (ko Z Z Z jx.1 jx.2 (wrap_u64 T T)) Z (Zdr (h:=?_));refine z7 (ko Z Z Z jy.1 jy.2 (xb T T)) Z ((Zd∘Zeg∘Zl∘ZaT∘ZaY) ?_);refine z81 L Z (fun u H hH _=>ju hH) ?_;refine(ZcQ∘ZaN∘Z8∘Zai) ?_;exact ym (x:=(i,j)) (i,h) ⟨by dsimp only;omega,by dsimp only;omega,hlo,fun k x hk hx hcx=>hcm (iw cmpT_ord hs hx hy hk hcx)⟩ G ⟨Z,Z,Z,Z,Z,Z,trivial⟩
 ·obtain rfl:i=j:=by omega
  rw[Oi cmpT_ord hs hlo hhi hjl];by_cases hin:i<l.length
  ·obtain⟨y,hy⟩:=xk hin;have hc:=f9 hy;have hm:=zfs cmpT_ord hs hlo hy hhi;by_cases hcm:ku y t=0
   ·rw[nf (hm.2 hcm)];refine(ZbM∘ZJ∘Zas∘ZcH∘Zbh∘Zcw∘Zn∘ZaT∘ZaY) ?_;refine z81 L Z (fun u H hH _=>ju hH) ?_;refine(Zde∘Zbg∘ZaM∘ZaB) ?_;exact yj2 L [.tmp 6,.tmp 7]
   ·rw[ng fun h=>hcm (hm.1 h)];refine(ZbM∘ZJ∘Zas∘ZcH∘Zbh∘Zcw∘Zn∘ZaT∘ZaY) ?_;refine z81 L Z (fun u H hH _=>ju hH) ?_;refine(Zc2∘Zbg∘ZaM∘ZaB) ?_;exact yj2 L [.tmp 6,.tmp 7]
  ·obtain rfl:i=l.length:=by omega
   rw[ng (Dj cmpT_ord hlo)];refine(ZbM∘ZJ∘Zas∘ZcH∘Zbh∘ZcQ∘ZbH∘Zbg∘ZaM∘ZaB) ?_;exact yj2 L [.tmp 6,.tmp 7]
def zai(l:List U)(t:U):Nat×Bool:=if isB l=true then (dt ku t l,decide (t∈l)) else (0,false)
def find_ret{r:Nat×Bool}(hr:zai l t=r)(hz:l.length<=100000){v:Value}(hB:zth B w)(hv:US l fu v B):
  Ret zti 25 [v,uv t] w B (fun v _=>v=.tuple #[.int .i64 r.1,.bool r.2]):=by
 subst hr;unfold zai;refine yn Tryz.func25 Z Tryz.ntmps25 (np Z) hB (k8 0 (US l fu) Z ns hv ?_);cases h1:isB l
 ·rw[nc E];refine(Zu∘Zo∘ZG∘Zk) ?_;refine z7 (q0 L Z Z (zm Z) Z Z Z (fun u H hH _ _ v1 hv1=>ov T h1 hH hv1)) Z ((Zr∘Zcj∘ZR) ?_);exact yj2 L [.tmp 4,.tmp 5]
 ·rw[na rfl];have hs:Sst ku l:=nj h1;refine(Zu∘Zo∘ZG∘Zk) ?_;refine z7 (q0 L Z Z (zm Z) Z Z Z (fun u H hH _ _ v1 hv1=>ov T h1 hH hv1)) Z ((Zr∘Zm∘ZK∘Zk∘Zc3) ?_);refine z7 (q0 L Z Z (zm Z) Z Z Z (fun u H hH _ _ v1 hv1=>Pu hz hs hH hv1)) Z ((Zc5∘ZR) ?_);exact yj2 L [.tmp 4,.tmp 5]
end Go.V.L2
end
namespace Go.V.L2
open Go.V
abbrev fC:Bool->Bool->Bool:=fun a b=>a && b
attribute [local irreducible] V N X VO Par StepOK Has Ret RetL RetO RetT Src
section
variable {m:List U} {fa fb:Bool} {r:List U×Int} {v2:Value}  
end
end Go.V.L2
section
open Go.V
attribute [local irreducible] Has N Par Ret RetL RetO RetT Src StepOK V VO X
namespace Go.V.L2
def Nr{s:ByteArray}{e:Int}(hr:ptA s=(t,e))(hs:s.size<=1000000)(hB:zth B w)(hM:GlobM B):
  Ret zti 17 [.string s] w B (fun v _=>v=.tuple #[uv t,.int .i64 e]):=Es hr hs hB hM
def Mx{i:Nat}{b:Bool}(hr:zai l t=(i,b))(hz:l.length<=100000){v:Value}(hB:zth B w)(hv:US l fu v B):
  Ret zti 25 [v,uv t] w B (fun v _=>v=.tuple #[.int .i64 i,.bool b]):=find_ret hr hz hB hv
end Go.V.L2
namespace Go.V.Top
open Go.V.L2 Go.V.L3 Go.V.L4 Go.V.L6 Go.V.L8 Go.V.L10 Go.V.L11
def _root_.Zfj(t:Wr Y->A:=by intro h;refine z7 (O5 Z Z Z Z bt4 Z) Z ?_;exact h.1)(h:Y):A:=t ⟨h⟩
def Nv{x:U}(ht:tE t=0)(h:kr (t.1,t.2,true) x=true):x=t:=by
 obtain⟨⟨h1,h2,h3⟩,_⟩:=zcf ht;have g1:=Hb h1;have g2:=Hb h2;have g3:=Hb h3;unfold kr tkF at h;simp only[g1,g2,g3,decide_false,Bool.false_or,zrz,zpm,decide_eq_true_eq] at h;obtain⟨⟨⟨a,b⟩,c⟩,e⟩:=h;exact(Prod.ext (Prod.ext (Prod.ext a b) c) e).symm
def Pb(hs:Sst ku l)(ht:tE t=0):(zjl l (t.1,t.2,true)).length<=1:=by
 unfold zjl;split
 ·have h1:Sst ku (l.filter (kr (t.1,t.2,true))):=hs.sublist zrb;have h2:∀ x∈l.filter (kr (t.1,t.2,true)),x=t:=fun x hx=>Nv ht (zpg.1 hx).2;show(l.filter (kr (t.1,t.2,true))).length<=1;generalize l.filter (kr (t.1,t.2,true))=m at h1 h2
  match m,h1,h2 with
  | [],_,_=>exact mc _
  | [_],_,_=>exact nu _
  | a::b::r,h1,h2=>
   have h3:=zsv h1 (mb ..);rw[h2 a (mb ..),h2 b (me _ (mb ..))] at h3;exact ni h3 (cmpT_ord.irr t)
 ·exact mc _
def zl2(l:List U)(i:Nat):atB l i<=(rp l).length:=by
 unfold atB rp;have e:l.flatMap tupB=(l.take i).flatMap tupB++(l.drop i).flatMap tupB:=by rw[<-zpl,zpb]
 rw[nr,e,nr];omega
def zh6(hl:l.length<128):wj (rp l) 4096 ⟨0,0,0⟩=((l.length:Int),⟨atB l 0,0,0⟩):=by
 have e:=Qr hl;have ha:atB l 0=0+1:=by unfold atB;rw[cq hl];rfl
 rw[ha];generalize rp l=bs at *;have hd:bs.drop 0=l.length::l.flatMap tupB:=e;obtain⟨h1,h2⟩:=ii hd;exact Mp (R:=⟨0,0,0⟩) (lim:=4096) Z (O8 h1 hl) Z T E
def zii(l:List U):Fv (rp l) ⟨atB l l.length,0,0⟩=(0,0):=Rp rfl (by rw[zi7];exact Nat.lt_irrefl _)
def zcb{l:List U}(hl:l.length<=4096)(h:∀ t∈l,tE t=0):∃ s,Ce l=(s,0)/\s.size<=l.length*1000:=by
 have hz:∀ t∈l,(oh t).size<=1000:=fun t ht=>Do (zgj (h t ht));have h1:=S6 hz;have h2:(Ce l).2=0:=by unfold Ce;rw[if_neg T];exact Qe h
 exact⟨_,Prod.ext Z h2,h1⟩
attribute [local irreducible] XP LV kx RetX RetY Pan ed rp atB
def Kz{ps:List (Nat×Nat)}{cs ds:List C3}{fx fc fd:Bool}(hps:∀ p∈ps,p.1<=255/\p.2<=255)(lps:ps.length<=9223372036854775807)(hcs:∀ c∈cs,c.1<=255/\c.2.1<=255/\c.2.2<=255)(lcs:cs.length<=9223372036854775807)(hds:∀ c∈ds,c.1<=255/\c.2.1<=255/\c.2.2<=255)(lds:ds.length<=9223372036854775807)
  {sx cx dx:Value}   (hB:zth B w) (hM:GlobM B) (hx:PS2 ps fx sx B) (hc:PS3 cs fc cx B) (hd:PS3 ds fd dx B):Ret zti 3 [.agg #[sx,cx],.agg #[dx]] w B (fun v _=>v=.bool true):=by
 obtain⟨okl,ll⟩:=zkh ps cs;have hsx:=fun(w:World) (B:Heap) (hB:zth B w) (h1:PS2 ps fx sx B) (h2:PS3 cs fc cx B)=>zct rfl hps lps hcs lcs hB h1 h2;generalize sOf ps cs=l at *;have hof:=zdb okl T;have hDb:=zg2 l;have hsz:=zgk okl.ok
 have hln:1<=(rp l).length/\(rp l).length<=1000000:=by
  have h1:=ru hsz l.length;rw[m9] at h1;rw[Qr T,nz];omega
 have hlen:=zh6 (l:=l) T;have hend:=zii l;obtain⟨s,htx,hss⟩:=zcb (l:=l) T okl.ok;have hpb:=zc3 htx T;have hl1:∀ t∈l,(oh t).size<=1000:=fun t ht=>Do (zgj (okl.ok t ht));have hbl:isB l=true:=nf okl.sst;have hdl:=zin ds
 have hde:∀ c∈dOf ds,TZ c.1/\tE c.1=0:=fun c h=>by
  unfold dOf at h;obtain⟨c3,_,rfl⟩:=zo9.1 h;exact⟨r9 _ _,Oq _ _⟩
 have hdo:=fun(w:World) (B:Heap) (hB:zth B w) (h1:PS3 ds fd dx B)=>zil (hM:=rfl) hds lds hB h1;generalize dOf ds=m at *;have hcv:IntKind.u64.wrap (l.length:Int)=(l.length:Int):=wrap_u64 T T;have kl:Kn.mono (.sat (US l true)):=ns;have atl:=zl2 l;refine yn Tryz.func3 Z Tryz.ntmps3 (np Z) hB ((Zaj∘Zag∘ZbL) ?_);refine z7 (xg (φ:=US l false) L rfl rfl (zm rfl) rfl rfl rfl ns (fun u H hH hle _=>hsx u H hH (hx.le hle) (hc.le hle))) rfl (z7 (xg (φ:=WithP l 0) L rfl rfl (zm rfl) rfl rfl rfl WithP.mono (fun u H hH _ _ v1 h1=>Vz hof T okl.tz hH h1)) rfl (vk 34 rfl ?_));rintro _ H1 hs1 ⟨tv1,rfl,hT1⟩;obtain⟨f1,p1,k1,q1,rfl,hp1⟩:=hT1.shape;refine(ZB∘ZZ∘Zby∘Zd∘Z9∘ZaH) ?_;refine z7 (xg (φ:=BsV (rp l) true) L rfl rfl (zm rfl) rfl rfl rfl ns (fun u H hH hle _=>Li T hsz hH (hT1.le hle))) rfl ((Zat∘Zi∘ZK∘Zca) ?_);refine k9 8 900 rfl fun wb=>?_;refine Ec 901 Qd 1 (Ze6 (h:=?_));refine ay (X:=Value) 900 (r:=fun sv=>(GWv wb [] sv).res) (φ:=fun sv _=>Nh sv) g7 (.slice none 0 0) ⟨_,_,_,rfl⟩ Z ((Z2∘ZaH) ?_);refine z71 L Z (fun u H hH hle=>gn Z hH (hT1.le hle)) ?_;refine z7 (ko Z Z Z cj.1 cj.2 (wrap_u64 T T)) Z (qe (yx L 900 (GWr wb (vq l.length)) (r:=GWr wb []) Z Z Z Z Z (fun u H C hH _ hr hC=>vg (bs:=[]) T E hH hr hC)) ((Zi∘Zt∘ZaH) ?_));refine z7 (xg (φ:=US l true) L Z Z (zm Z) Z Z Z ns (fun u H hH hle _=>c7 T hH (hT1.le hle))) Z ((Zat∘Zan∘Zs∘ZaJ) ?_);refine xm (fun i:Nat=>[(3,.sat (At [dx] 29 0)),(5,.own (Cell [f1,.pointer p1,k1,.pointer q1] ou)),(6,.is (.int .i64 0)),(7,.sat (BsV (rp l) true)),(8,.is (kg wb)),(9,.sat (US l true)),(10,.is (.int .i64 i)),(900,.own (GWr wb (vq l.length++(l.take i).flatMap tupB)).res)]) (fun i=>i<=l.length) (fun i=>l.length-i) 0 (mc _) ⟨Z,Z,Z,Z,Z,Z,Z,by rw[zpv,zss,mo];rfl,nm⟩ ?_;rintro i hi;have hsb:=ru hsz i;have hnb:=aj 9 l.length T;have hz0:(vq l.length++(l.take i).flatMap tupB).length+16000<=1099511627776:=by rw[nr];omega
 by_cases hlt:i<l.length
 ·obtain⟨t,hg⟩:=xk hlt;have hcr:=f9 hg;have htt:=hsz t (zpa hg);have hsn:=Er hg;refine(Zf∘Z8∘Zg∘ZbD∘Zaf∘Zam∘ZM∘Zcb∘Za1) ?_;refine qe (yx L 900 (GWr wb (vq l.length++(l.take i).flatMap tupB++tupB t)) (r:=GWr wb (vq l.length++(l.take i).flatMap tupB)) Z Z Z Z Z (fun u H C hH _ hr hC=>Gb htt hz0 hH hr hC)) ((Zax∘ZaQ∘ZaC) ?_);exact ym (x:=i) (i+1) hlt T ⟨Z,Z,Z,Z,Z,Z,Z,by rw[hsn,<-mn];rfl,nm⟩
 ·obtain rfl:i=l.length:=by omega
  rw[m9] at hz0 |-;have hD0:vq l.length++l.flatMap tupB=rp l:=by unfold rp;rfl
  rw[hD0] at hz0 |-;refine(Zf∘Z8∘Zg∘ZJ∘Zas∘ZI∘Zk) ?_;refine z7 (wh L Z Z (zm Z) Z Z Z (fun u H hH hle _ v1 h1=>zfq T hH h1)) Z ?_;refine rt 57 902 rfl fun rb=>?_;refine U3 (X:=Value) 902 (r:=fun sv=>(GRd rb sv ⟨0,0,0⟩).res) (φ:=fun sv H=>BsV (rp l) false sv H) (hφ:=fun _ _ _ h hle=>h.le hle) Z fun sv H2 hs2 hsv=>?_;refine(Zd∘ZY∘Za) ?_;refine qe (yh L 902 (GRd rb sv ⟨atB l 0,0,0⟩) (.int .i64 l.length) (r:=GRd rb sv ⟨0,0,0⟩) Z Z Z Z Z (fun u H C2 hH hle hr2 hC2=>by have h:=len_ret (lim:=4096) E hDb T (mc _) hH (hsv.le hle) hr2 hC2;rw[hlen] at h;exact h)) ?_;refine Zj (h:=?_);refine qo (id:=12) [(63,[900])] ki J ((Zl∘ZdW∘Zl) ?_);refine xq (ey L 900 GNo (BsV (rp l) true) (r:=GWr wb (rp l)) Z Z Z Z Z ns (fun u H C hH _ hr hC=>Ak (tx T hH hr hC))) Z Z (z8 (Df (bs:=rp l) (fu:=true) hDb Z Z Z Z Z Z) Z (Zab (h:=?_)));refine z8 (Df (bs:=rp l) (fu:=true) hDb Z Z Z Z Z Z) Z (z8 (Ou Z Z Z Z (ng (fun h=>h Z))) Z ((Zbg∘Zn∘Zab∘Zek∘ZdW∘Za3∘Zaf∘Ze∘Za5∘ZaJ) ?_));have hT2:=hT1.le hs2.le;refine xm (fun i:Nat=>[(3,.sat (At [dx] 29 0)),(5,.own (Cell [f1,.pointer p1,k1,.pointer q1] ou)),(9,.sat (US l true)),(11,.is (kg rb)),(12,.is (.int .i64 l.length)),(13,.is (.int .i64 i)),(902,.own (GRd rb sv ⟨atB l i,0,0⟩).res)]) (fun i=>i<=l.length) (fun i=>l.length-i) 0 (mc _) ⟨Z,Z,Z,Z,Z,Z,Z,nm⟩ ?_;rintro i hi;have hat:=atl i;by_cases hlt:i<l.length
  ·obtain⟨t,hg⟩:=xk hlt;have hcr:=f9 hg;have htl:=zpa hg;have zt:=okl.tz t htl;have et:=okl.ok t htl;have hnx:=V9 (b:=0) hg et;have hbk:=Xe et;have htz:=Vl (zgj et);have hmem:decide (t∈l)=true:=nf htl;have hq:=eqU (t:=t) (v:=t) (nf rfl);refine(Zf∘Zao∘Zb∘ZbF∘Zbv∘Za) ?_;refine qe (yh L 902 (GRd rb sv ⟨atB l (i+1),0,0⟩) (uv t) (r:=GRd rb sv ⟨atB l i,0,0⟩) Z Z Z Z Z (fun u H C2 hH hle hr2 hC2=>by have h:=L4.tup_ret hDb T hat hH (hsv.le hle) hr2 hC2;rw[hnx] at h;exact h)) ?_;refine(Zah∘ZaV∘Zay) ?_;refine z71 L Z (fun u H hH _=>Kw zt hH) ?_;refine z71 L Z (fun u H hH hle=>Nr hbk T hH (hM.mono (hs1.le.trans (hs2.le.trans hle)))) ?_;refine(ZB∘Zaw∘Zd) ?_;refine qo (id:=19) [] ki J ((Zcu∘Zet) ?_);refine z81 L Z (fun u H hH hle=>jf hmem hH (hT2.le hle)) ?_;refine(Za8∘Zn∘ZdW∘Zbg∘Zl∘Zet∘ZaT∘Zfs∘Za3∘Zda∘ZaE∘Zar∘Za∘ZaC) ?_;exact ym (x:=i) (i+1) hlt T ⟨Z,Z,Z,Z,Z,Z,Z,nm⟩
  ·obtain rfl:i=l.length:=by omega
   refine(Zf∘Zao∘ZbA∘Zas∘Zc0∘Za) ?_;refine qe (yh L 902 (GRd rb sv ⟨atB l l.length,0,0⟩) (.tuple #[.int .i64 0,.int .i64 0]) (r:=GRd rb sv ⟨atB l l.length,0,0⟩) rfl rfl rfl rfl rfl (fun u H C2 hH hle hr2 hC2=>by have h:=Pj T hat hH (hsv.le hle) hr2 hC2;rw[hend] at h;exact h)) ?_;refine(ZbB∘ZcY∘Zk) ?_;refine z7 (q0 L rfl rfl (zm rfl) rfl rfl rfl (fun u H hH _ _ v1 h1=>Sq htx okl.tz hl1 hH h1)) rfl ((ZbB∘ZdA∘Za) ?_);refine z7 (xg (φ:=TupS [US l true,fun v _=>v=.int .i64 0,fun v _=>v=.int .i64 0]) L rfl rfl (zm rfl) rfl rfl rfl (C7 ns) (fun u H hH hle _=>B6 hpb T hH (hM.mono (hs1.le.trans (hs2.le.trans hle))))) rfl ((Zk∘ZcW∘ZcC∘ZcC∘Zat∘ZaS∘Zdv∘Zk) ?_);refine z7 (xg (φ:=WithP l 0) L rfl rfl (zm rfl) rfl rfl rfl WithP.mono (fun u H hH _ _ v1 h1=>Vz hof T okl.tz hH h1)) rfl (vk 122 rfl ?_);rintro _ H3 hs3 ⟨tv3,rfl,hT3⟩;obtain⟨f3,p3,k3,q3,rfl,hp3⟩:=hT3.shape;refine(ZB∘ZZ∘Zby∘Zj) ?_;refine ze (id:=25) ((Za∘Zaq∘Z3∘ZaI∘Za∘ZaI∘Za∘ZaI∘Zaq∘Zh∘Za∘ZaH∘ZaH) ?_);refine z71 L rfl (fun u H hH hle=>K9 (r:=true) T T (nf rfl) hH (hT3.le hle) (hT2.le (hs3.le.trans hle))) ?_;refine(Zr∘ZbX) ?_;refine ze (id:=27) (z7 (zw L (vs:=[_]) (qu rfl) rfl rfl rfl rfl ⟨_,rfl⟩) rfl (z7 (xg (φ:=KS tyC m false) L rfl rfl (zm rfl) rfl rfl rfl ns (fun u H hH hle _=>hdo _ _ hH (hd.le (hs1.le.trans (hs2.le.trans (hs3.le.trans hle)))))) rfl ((Zat∘Zan) ?_)));refine ze (id:=28) (ZaJ (h:=?_));have hT4:=hT2.le hs3.le;refine xm (fun i:Nat=>[(5,.own (Cell [f1,.pointer p1,k1,.pointer q1] ou)),(9,.sat (US l true)),(26,.sat (KS tyC m false)),(27,.is (.int .i64 i))]) (fun i=>i<=m.length) (fun i=>m.length-i) 0 (mc _) ⟨Z,Z,Z,Z,nm⟩ ?_;rintro i hi;by_cases hlt:i<m.length
   ·obtain⟨⟨t,dr⟩,hg⟩:=xk hlt;have hcc:=El hg;obtain⟨zt,et⟩:=hde _ (zpa hg);dsimp only at zt et;obtain⟨y,hy⟩:∃ y,zjl l (t.1,t.2,true)=y:=⟨_,rfl⟩
    have hyl:=Pb okl.sst et;rw[hy] at hyl;have mt:FM (t.1,t.2,true):=by obtain⟨⟨h1,h2,h3⟩,h4,h5,h6⟩:=zt;exact⟨⟨(by show t.1.1.1.size<=_;omega),(by show t.1.1.2.size<=_;omega),(by show t.1.2.size<=_;omega)⟩,(by show t.2.1.1.size<=_;omega),(by show t.2.1.2.size<=_;omega),(by show t.2.2.size<=_;omega)⟩
    obtain⟨b,hb⟩:∃ b,decide (t∈l)=b:=⟨_,rfl⟩
    have hfd:zai l t=(dt ku t l,b):=by unfold zai;rw[if_pos hbl,hb]
    have hho:s4 l (t,false)=b:=by unfold s4;rw[hb];cases b<;>rfl
    generalize dt ku t l=ix at hfd;refine Zf (h:=?_);refine ze (id:=29) ((Za∘Zg∘ZbF) ?_);refine ze (id:=31) ((Zcb∘ZeB∘Za1∘Zah) ?_);refine Py 28 rfl ?_;cases b
    ·refine ze (id:=32) ((Zk∘Zc3) ?_);refine z7 (q0 L Z Z (zm Z) Z Z Z (fun u H hH _ _ v1 h1=>Mx hfd T hH h1)) Z (ZbB (h:=?_));refine ze (id:=33) ((ZaH∘Zc3) ?_);refine z71 L Z (fun u H hH hle=>jf hb hH (hT4.le hle)) ?_;refine(Za∘Zfj∘Za∘ZaH∘Zc3) ?_;refine z7 (yu (cs:=[_,_,_,_,_,_,_]) Z Z zmi Z Z) Z (z71 L Z (fun u H hH hle=>s0 (c:=(t,false)) hho hH (hT4.le hle)) ?_);refine(Za∘Zfj∘Zh∘Za∘ZaH∘Zbj∘Zbj∘Zq∘Zbj∘Zbj∘Zq∘Zbj∘Zq∘ZbE∘Zev) ?_;refine z7 (xg (φ:=US y true) L Z Z (zm Z) Z Z Z ns (fun u H hH hle _=>E0 hy T mt hH (hT4.le hle))) Z ((Zcv∘ZL∘ZbK∘Zeh∘ZaC) ?_);exact ym (x:=i) (i+1) hlt T ⟨Z,Z,Z,Z,nm⟩
    ·refine ze (id:=32) ((Zk∘Zc3) ?_);refine z7 (q0 L Z Z (zm Z) Z Z Z (fun u H hH _ _ v1 h1=>Mx hfd T hH h1)) Z (ZbB (h:=?_));refine ze (id:=33) ((ZaH∘Zc3) ?_);refine z71 L Z (fun u H hH hle=>jf hb hH (hT4.le hle)) ?_;refine(Za∘Zfj∘Za∘ZaH∘Zc3) ?_;refine z7 (yu (cs:=[_,_,_,_,_,_,_]) Z Z zmi Z Z) Z (z71 L Z (fun u H hH hle=>s0 (c:=(t,false)) hho hH (hT4.le hle)) ?_);refine(Za∘Zfj∘Zh∘Za∘ZaH∘Zbj∘Zbj∘Zq∘Zbj∘Zbj∘Zq∘Zbj∘Zq∘ZbE∘Zev) ?_;refine z7 (xg (φ:=US y true) L Z Z (zm Z) Z Z Z ns (fun u H hH hle _=>E0 hy T mt hH (hT4.le hle))) Z ((Zcv∘ZL∘ZbK∘Zeh∘ZaC) ?_);exact ym (x:=i) (i+1) hlt T ⟨Z,Z,Z,Z,nm⟩
   ·refine Zf (h:=?_);refine ze (id:=29) ((Za∘Zg∘ZJ∘Zas) ?_);refine ze (id:=35) (z71 L Z (fun u H hH hle=>T9 hH (hM.mono (hs1.le.trans (hs2.le.trans (hs3.le.trans hle))))) ?_);refine Zc (h:=?_);refine yj L (rs:=[.tmp 4]) Z (fun _ _ h=>h) (hs1.trans (hs2.trans hs3)) fun u H hH hle=>?_;rfl
end Go.V.Top
end
namespace Go.V.Top
open Go.V.L2 Go.V.L3 Go.V.L6 Go.V.L8
def topBytes_in{ps cs ds:List (List Value)}(lps:∀ c∈ps,LeafsOK [.i .u8,.i .u8] c)(zps:ps.length<=maxLen){W:World}{v1 v2 v3:Value}(hps:SlV ty2 2 ps.flatten ps.length false v1 (hp W))(lcs:∀ c∈cs,LeafsOK [.i .u8,.i .u8,.i .u8] c)(zcs:cs.length<=maxLen)(hcs:SlV ty3 3 cs.flatten cs.length false v2 (hp W))
  (lds:∀ c∈ds,LeafsOK [.i .u8,.i .u8,.i .u8] c) (zds:ds.length<=maxLen) (hds:SlV ty3 3 ds.flatten ds.length false v3 (hp W)) (hM:GlobM (hp W)):
  Ret zti 3 [.agg #[v1,v2],.agg #[v3]] W (hp W) (fun v _=>v=.bool true):=by
 obtain⟨p,a1,a2,a3⟩:=zm3 lps zps hps;obtain⟨c,b1,b2,b3⟩:=zf3 lcs zcs hcs;obtain⟨d,e1,e2,e3⟩:=zf3 lds zds hds;exact Kz a1 a2 b1 b2 e1 e2 (mq _) hM a3 b3 e3
end Go.V.Top
namespace Go.V
open Go.ChangeShapes Go.WideShapes Go.ChangeAt Go.ChangeMaps
inductive Sh where
 | l (k:bu)
 | s (t e:TypeId) (ls:List bu)
def zoe(H:Heap)(e:TypeId)(ls:List bu)(v:Value):Prop:=∃ cs:List (List Value),(∀ c∈cs,LeafsOK ls c)/\cs.length<=maxLen/\SlV e ls.length cs.flatten cs.length false v H
def ShOK(H:Heap):List Sh->List Value->Prop
 | [],vs=>vs=[]
 | .l k::r,vs=>∃ v w,vs=v::w/\LeafsOK [k] [v]/\ShOK H r w
 | .s _ e ls::r,vs=>∃ v w,vs=v::w/\zoe H e ls v/\ShOK H r w
def ShOK.append{H:Heap}:∀ {a b:List Sh} {x y:List Value},ShOK H a x->ShOK H b y->ShOK H (a++b) (x++y)
 | [],_,_,_,hx,hy=>by cases hx;exact hy
 | .l k::a,_,_,_,⟨v,w,e,h1,h2⟩,hy=>by subst e;exact⟨v,_,rfl,h1,ShOK.append h2 hy⟩
 | .s t e ls::a,_,_,_,⟨v,w,e',h1,h2⟩,hy=>by subst e';exact⟨v,_,rfl,h1,ShOK.append h2 hy⟩
def ShOK.leafs{H:Heap}:∀ {ls:List bu} {vs:List Value},LeafsOK ls vs->ShOK H (ls.map .l) vs
 | [],vs,h=>Hl h
 | k::ls,[],h=>by have:=LeafsOK.length h;cases this
 | k::ls,v::vs,h=>by
  cases k with
  | s=>obtain⟨a,r,e,h1,h2⟩:=zk9 h;cases e;exact⟨_,_,rfl,⟨⟨a,rfl,h1⟩,nm⟩,ShOK.leafs h2⟩
  | i k=>obtain⟨a,r,e,h1,h2⟩:=Ff h;cases e;exact⟨_,_,rfl,⟨⟨a,rfl,h1⟩,nm⟩,ShOK.leafs h2⟩
  | b=>obtain⟨a,r,e,h2⟩:=zla h;cases e;exact⟨_,_,rfl,⟨⟨a,rfl⟩,nm⟩,ShOK.leafs h2⟩
def shF(P:Program)(rec:TypeId->Option (List Sh)):List Field->Nat->Option (List Sh)
 | [],_=>some []
 | f::fs,off=>match rec f.type with
  | some ls=>if f.offset=off/\P.cellsOf f.type=ls.length then
    match shF P rec fs (off+ls.length) with
    | some r=>some (ls++r)
    | none=>none
   else none
  | none=>none
def shI(P:Program):Nat->TypeId->Option (List Sh)
 | 0,_=>none
 | d+1,t=>match Ek P 20 t with
  | some ls=>some (ls.map .l)
  | none=>match P.underlying t with
   | some (.slice e)=>match Ek P 20 e with
    | some ls=>if P.cellsOf e=ls.length then some [.s t e ls] else none
    | none=>none
   | some (.struct fs)=>match shF P (shI P d) fs.toList 0 with
    | some ls=>if P.cellsOf t=ls.length then some ls else none
    | none=>none
   | _=>none
section
variable {P:Program} {H:Type} {enc:TypeId×Value->H} {W:World} {held:Bool}
def zji(P:Program)(W:World)(b0:Nat)(shs:List Sh)(cs:List Value):Prop:=∀ (i:Nat) t e ls v,shs[i]?=some (.s t e ls)->cs[i]?=some v->Cell.okWide P W .any b0 t v
def E1{b0:Nat}:∀ (d:Nat) {t:TypeId} {ls:List Sh},shI P d t=some ls->∀ {fuel:Nat} {cs:List Value} {x:DataW H×List MemPlace},
  DataW.trod enc P W 0 (fun _=>true) held fuel t cs=some x->zji P W b0 ls cs->ShOK (hp W) ls cs/\cs.length=ls.length
 | 0,_,_,h,_,_,_,_,_=>by cases h
 | d+1,t,ls,h,fuel,cs,x,hx,hok=>by
  have ih:=@E1 b0 d;rw[shI] at h
  cases hlf:Ek P 20 t with
  | some l0=>
   rw[hlf] at h;cases h;have h1:=(e7 20 hlf hx).1;exact⟨ShOK.leafs h1,by rw[h1.length,my]⟩
  | none=>
   rw[hlf] at h;simp only at h
   cases hu:P.underlying t with
   | none=>rw[hu] at h;cases h
   | some ds=>
    rw[hu] at h;cases ds<;>first | (cases h;done) | skip
    ·rename_i e;simp only at h;split at h
     ·rename_i l1 hl1;split at h
      ·rename_i hc;cases h
       have hone:∃ v,cs=[v]:=by
        rcases Deep.open_slice hu hx with ⟨h1,_⟩ | ⟨a,len,cap,_,_,_,_,h1,_⟩
        ·exact⟨_,h1⟩
        ·exact⟨_,h1⟩
       obtain⟨v,rfl⟩:=hone;have h0:Cell.okWide P W .any b0 t v:=hok 0 t e l1 v rfl rfl;have hval:Value.okWide P W .any b0 t v:=by unfold Value.okWide;rw[hu];exact h0
       have hcl:v.cells=#[v]:=by
        rcases Deep.open_slice hu hx with ⟨h1,_⟩ | ⟨a,len,cap,_,_,_,_,h1,_⟩
        ·cases h1;rfl
        ·cases h1;rfl
       have hd:DataW.Trod enc P W 0 (fun _=>true) held t v x.1 x.2:=⟨fuel,by rw[hcl];exact hx⟩
       exact⟨⟨v,[],rfl,zhq hu hl1 hc hval hd,rfl⟩,rfl⟩
      ·cases h
     ·cases h
    ·rename_i fs;simp only at h
     cases fuel with
     | zero=>simp [DataW.trod] at hx
     | succ fuel=>
     unfold DataW.trod at hx;rw[hu] at hx;simp only at hx;split at h
     ·rename_i l1 hl1;split at h
      ·rename_i hc;cases h;split at hx
       ·rename_i hlen;obtain⟨xs,hxs,rfl⟩:=zs9.1 hx;obtain⟨_,_,hall,hback⟩:=Bn hxs
        have gen:∀ (fl:List Field) (off:Nat) (ls:List Sh),(∀ f∈fl,f∈fs.toList)->shF P (shI P d) fl off=some ls->(∀ (i:Nat) t e l v,ls[i]?=some (.s t e l)->cs[off+i]?=some v->Cell.okWide P W .any b0 t v)->
          ShOK (hp W) ls ((cs.drop off).take ls.length):=by
         intro fl
         induction fl with
         | nil=>intro off ls _ h _;cases h;simp [ShOK]
         | cons f fl ihf=>
          intro off ls hm h hk;simp only[shF] at h;split at h
          ·rename_i l2 hl2;split at h
           ·rename_i hc2;obtain⟨rfl,hc3⟩:=hc2;split at h
            ·rename_i r hr;cases h;have g1:=ihf _ _ (fun g hg=>hm g (me _ hg)) hr fun i t e l v h1 h2=>hk (l2.length+i) t e l v (by rw[zsa T];simpa using h1) (by rw[<-h2];congr 1;omega);rw[nr,iv];refine ShOK.append ?_ g1;obtain⟨y,hy,_⟩:=hall f (hm f (mb ..));rw[<-hc3];refine(ih hl2 hy fun i t e l v h1 h2=>?_).1
             have hlt:i<l2.length:=by
              rcases m8 i l2.length with h | h
              ·exact h
              ·rw[zpd h] at h1;cases h1
             refine hk i t e l v (by rw[zqb hlt];exact h1) ?_;rw[zqw T,zqa] at h2;exact h2
            ·cases h
           ·cases h
          ·cases h
        have g1:=gen fs.toList 0 _ (fun _ h=>h) hl1 fun i t e l v h1 h2=>hok i t e l v h1 (by rw[<-h2];congr 1;omega);have hcl:cs.length=ls.length:=by rw[<-hc,<-hlen]
        rw[zp7,<-hcl,m9] at g1;exact⟨g1,hcl⟩
       ·cases hx
      ·cases h
     ·cases h
def zkf:List Sh->List TypeId->Bool
 | [],[]=>true
 | .l _::r,_::ts=>zkf r ts
 | .s t _ _::r,u::ts=>Nat.beq t u && zkf r ts
 | _,_=>false
def Co:∀ {shs:List Sh} {ts:List TypeId},zkf shs ts=true->shs.length=ts.length/\∀ (i:Nat) t e ls,shs[i]?=some (.s t e ls)->ts[i]?=some t
 | [],[],_=>⟨rfl,fun i t e ls h=>by simp at h⟩
 | [],_::_,h=>by cases h
 | .l _::_,[],h=>by cases h
 | .s .. ::_,[],h=>by cases h
 | .l k::r,u::ts,h=>by
  obtain⟨h1,h2⟩:=Co (shs:=r) (ts:=ts) h;refine⟨by simp [h1],fun i t e ls hi=>?_⟩
  cases i with
  | zero=>simp at hi
  | succ i=>simpa using h2 i t e ls (by simpa using hi)
 | .s t0 e0 l0::r,u::ts,h=>by
  simp only[zkf,zpm] at h;obtain⟨h1,h2⟩:=Co (shs:=r) (ts:=ts) h.2;refine⟨by simp [h1],fun i t e ls hi=>?_⟩
  cases i with
  | zero=>
   simp only[zr0,Option.some.injEq,Sh.s.injEq] at hi;have:=zq2 h.1;simp only[zr0,Option.some.injEq];rw[<-hi.1,this]
  | succ i=>simpa using h2 i t e ls (by simpa using hi)
def open_st{t:TypeId}{fs:Array Field}{ls:List Sh}{tys:List TypeId}{b0:Nat}{dd:DataW H}{ps:List MemPlace}(h:shI P 20 t=some ls)(hu:P.underlying t=some (.struct fs))(hct:P.cellTypes P.depth t=some tys)(hst:zkf ls tys=true)
  (hval:Value.okWide P W .any b0 t v) (hd:DataW.Trod enc P W 0 (fun _=>true) held t v dd ps):∃ cs:List Value,v=.agg cs.toArray/\ShOK (hp W) ls cs:=by
 obtain⟨fuel,hf⟩:=hd;unfold Value.okWide at hval;rw[hu] at hval;obtain⟨cs,rfl,_,ts,hts,_,hcell⟩:=hval;rw[hct] at hts;cases hts;obtain⟨h1,h2⟩:=Co hst;refine⟨cs.toList,by simp,(E1 (b0:=b0) 20 h hf fun i t' e l v hi hv=>?_).1⟩
 have hlt:i<ls.length:=by
  rcases m8 i ls.length with h | h
  ·exact h
  ·rw[zpd h] at hi;cases hi
 obtain⟨u,hu1,hu2⟩:=hcell i v (by simpa [Value.cells] using hv);rw[zsu T,h2 i t' e l hi] at hu1;cases hu1;exact hu2
def sh_s{Hh:Heap}{t e:TypeId}{ls:List bu}{r:List Sh}{vs:List Value}(h:ShOK Hh (.s t e ls::r) vs):∃ v w,vs=v::w/\zoe Hh e ls v/\ShOK Hh r w:=h
end
end Go.V
end
set_option maxRecDepth 20000
namespace Go.Proofs.YtooecmiihjampaaGreat.topBytes
open Go.ChangeShapes Go.WideShapes Go.ChangeAt Go.ChangeMaps Go.RowKit Go.V Go.V.Top
theorem own : ownKnob Tryz.prog.godebug = none := by kernel_rfl
theorem laidOut : laidOutB Tryz.prog = true := by kernel_rfl
theorem lf0 : shI Tryz.prog 20 27 = some [.s 22 88 [.i .u8, .i .u8], .s 25 111 [.i .u8, .i .u8, .i .u8]] := by kernel_rfl
theorem lq0 : Tryz.prog.cellTypes Tryz.prog.depth 27 = some [22, 25] := by kernel_rfl
theorem lr1 : Tryz.prog.readableRec 27 = true := by kernel_rfl
theorem lt1 : 27 < Tryz.prog.types.size := of_decide_eq_true (by kernel_rfl)
theorem lf2 : shI Tryz.prog 20 29 = some [.s 25 111 [.i .u8, .i .u8, .i .u8]] := by kernel_rfl
theorem lq2 : Tryz.prog.cellTypes Tryz.prog.depth 29 = some [25] := by kernel_rfl
theorem lr3 : Tryz.prog.readableRec 29 = true := by kernel_rfl
theorem lt3 : 29 < Tryz.prog.types.size := of_decide_eq_true (by kernel_rfl)
set_option maxRecDepth 100000 in
theorem lifted (os : Os) (started : os.Started) (H : Type) (enc : TypeId × Value → H) :
    ReturnsInHanded {} Tryz.checked os 3 .any (Rows.topBytesSpec.pre6 enc Tryz.prog Tryz.f3 Rows.topBytesRow.domain false) (Rows.topBytesSpec.post enc Tryz.prog Tryz.f3 false true false false) := by
  refine returnsInHanded_of_change_shaped (C := Tryz.checked) own started (by kernel_rfl) Tryz.func3
    (ChangeSpec.witness6 (enc := enc) (C := Tryz.checked) false ⟨#[], #[.agg #[.slice none 0 0, .slice none 0 0], .agg #[.slice none 0 0]], []⟩ 8 (by kernel_rfl) (by kernel_rfl) (by kernel_rfl) (by kernel_rfl)) ?_
  intro W base args ds gs before hval0 hW hcnd _ hsh _
  have hval : ∀ (j : Nat) t v, Tryz.f3.params[j]? = some t → args[j]? = some v → Value.okWide Tryz.prog W .any base t v := hval0
  have hW' := hW
  obtain ⟨p, q, hA0, hV, rfl, hfz, hnd⟩ := hW
  have hA : DataW.TrodAll enc Tryz.prog W 0 (fun _ => true) true Tryz.f3.params.toList args.toList ds p := hA0
  rw [Tryz.params3] at hA hval
  obtain ⟨v0, v1, d0, d1, p0, p1, rfl, rfl, rfl, h0, h1⟩ := trodAll_two hA
  obtain ⟨rfl, rfl⟩ := trodVars_none hV
  clear hA0 hval0
  obtain ⟨c0, rfl, l0⟩ := open_st lf0 Tryz.underlying27 lq0 rfl (hval 0 27 v0 rfl rfl) h0
  obtain ⟨wps, r0, rfl, ⟨ps, lps, zps, hps⟩, l0⟩ := sh_s l0
  obtain ⟨wcs, r0, rfl, ⟨cs, lcs, zcs, hcs⟩, l0⟩ := sh_s l0
  obtain rfl := l0
  obtain ⟨c1, rfl, l1⟩ := open_st lf2 Tryz.underlying29 lq2 rfl (hval 1 29 v1 rfl rfl) h1
  obtain ⟨wds, r1, rfl, ⟨ds, lds, zds, hds⟩, l1⟩ := sh_s l1
  obtain rfl := l1
  obtain ⟨m0, hm0⟩ := Tryz.laysM145.s1_3 W hsh
  have hglob := GlobM.of_cell hm0
  have hplc := hW'.lt
  simp only [List.append_nil] at hW'
  have hlaw := Go.V.Top.topBytes_in lps zps hps lcs zcs hcs lds zds hds hglob
  unfold Ret at hlaw
  refine hlaw.mono fun e W' hp => ?_
  obtain ⟨v, rfl, H', g, rfl⟩ := hp
  refine ⟨_, rfl, _, _, _, [], p0 ++ (p1 ++ ([])), [], hW', trodAll_cons_mk (shut_bool Tryz.underlying4 _) trodAll_mk0, ?_, rfl, g.below.frame _, fun h => by cases h⟩
  exact trodAll_cons_mk (Below.trod laidOut lr1 lt1 h0 g.below (fun x hx => hplc x (by simp [hx]))) (trodAll_cons_mk (Below.trod laidOut lr3 lt3 h1 g.below (fun x hx => hplc x (by simp [hx]))) trodAll_mk0)
theorem j1 : (Rows.topBytesRow.inPlace == Tryz.prog.inPlace 3) = true := by kernel_rfl
theorem j2 : (Rows.topBytesRow.unfollowed == Tryz.prog.unfollowed 3) = true := by kernel_rfl
theorem j3 : (Rows.topBytesRow.recurses == Tryz.prog.recurses 3) = true := by kernel_rfl
theorem j4 : (Rows.topBytesRow.named == Tryz.prog.varsNamed 3) = true := by kernel_rfl
theorem j5 : Tryz.prog.stopsHeard = true := by kernel_rfl
theorem j6 : laidOutB Tryz.prog = true := by kernel_rfl
theorem joined : joinedFacts Tryz.prog 3 Tryz.f3 Rows.topBytesSpec Rows.topBytesRow = true := by
  unfold joinedFacts
  rw [j1, j2, j3, j4, j5, j6]
  kernel_rfl
theorem proved : Rows.TopBytesSaid :=
  OpenClaim.holds_of_wide 3 Tryz.f3 rfl rfl rfl rfl rfl rfl rfl ⟨rfl, rfl, rfl, rfl, rfl⟩ rfl rfl rfl rfl rfl (by kernel_rfl) Tryz.func3 joined
    (of_decide_eq_true (by kernel_rfl)) (by unfold Func.isWrapper; first | (rw [if_pos (by decide +kernel)]; kernel_rfl) | (rw [if_neg (by decide +kernel)]; exact ⟨rfl, rfl⟩))
    (fun os started H enc _ => lifted os started H enc)
#print axioms proved
end Go.Proofs.YtooecmiihjampaaGreat.topBytes
