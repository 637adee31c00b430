/- WiresLoad returns true for every input, and leaves it as it was: no condition. -/
import Derived.Test.YtefilnnomholbaaGreatWiresLoadM6
import Derived.Test.YtefilnnomholbaaGreatRows
set_option linter.unusedVariables false
set_option linter.unusedSimpArgs false
set_option maxRecDepth 20000
set_option maxHeartbeats 8000000
set_option linter.defProp false
open Go.Proofs Go.RowKit
section
variable{bs:List Nat}{H:Go.V.Heap}{v:Go.Value}{A Y:Prop}
section
open Go.V
attribute [local irreducible] Has LV N Pan Par Ret RetL RetO RetT RetX RetY Src StepOK V VO X XP ay ky
namespace Go.V.L11
open Go.V.L2 Go.V.L3 Go.V.L4 Go.V.L6 Go.V.L8 Go.V.L10
def _root_.Zec(t:Wr Y->A:=by intro h;refine y9 (kf L (q:=916) (vs:=[_,_,_,_]) Z Z Z Z ⟨[],rfl⟩) ?_;exact h.1)(h:Y):A:=t ⟨h⟩
def _root_.Ze4(t:Wr Y->A:=by intro h;refine y9 (kf L (q:=932) (vs:=[_,_,_,_]) Z Z Z Z ⟨[],rfl⟩) ?_;exact h.1)(h:Y):A:=t ⟨h⟩
def _root_.Zd7(t:Wr Y->A:=by intro h;refine y9 (qk L (q:=932) Z Z Z Z) ?_;exact h.1)(h:Y):A:=t ⟨h⟩
def _root_.Zed(t:Wr Y->A:=by intro h;refine qz (qk L (q:=932) Z Z Z Z) Z Z ?_;exact h.1)(h:Y):A:=t ⟨h⟩
def _root_.Zee(t:Wr Y->A:=by intro h;refine y9 (qk L (q:=918) Z Z Z Z) ?_;exact h.1)(h:Y):A:=t ⟨h⟩
def _root_.Zfn(t:Wr Y->A:=by intro h;refine qp (id:=15) [(200077,[932]),(200079,[932])] kj J ?_;exact h.1)(h:Y):A:=t ⟨h⟩
def _root_.ZeK(t:Wr Y->A:=by intro h;refine y9 (qk L (q:=916) Z Z Z Z) ?_;exact h.1)(h:Y):A:=t ⟨h⟩
def zg5:∀ (f i acc:Nat) (R:Rd),f+1+i=10->acc<128^i->(i7 bs (f+1) i acc R).1<18446744073709551616:=by
 intro f
 induction f with
 | zero=>
  intro i acc R h1 h2;obtain rfl:i=9:=by omega
  have h9:(128:Nat)^9=9223372036854775808:=T;unfold i7;split
  ·exact(by decide:0<18446744073709551616)
  ·rename_i b hb;split
   ·exact(by decide:0<18446744073709551616)
   ·rename_i hno;obtain rfl:b=1:=by omega
    rw[na T];dsimp only;omega
 | succ f ih=>
  intro i acc R h1 h2;have hp:128^(i+1)=128^i*128:=zpf ..;have h9:(128:Nat)^9=9223372036854775808:=T;have h10:128^(i+1)<=128^9:=zpx T I;unfold i7;split
  ·exact(by decide:0<18446744073709551616)
  ·rename_i b hb;split
   ·exact(by decide:0<18446744073709551616)
   ·have hm:b%128*128^i<=127*128^i:=zot _ I;split
    ·dsimp only;omega
    ·exact ih (i+1) _ _ I I
def zg7{R:Rd}:(p9 bs R).1<18446744073709551616:=by
 unfold p9 um;split
 ·exact(by decide:0<18446744073709551616)
 ·split
  ·exact(by decide:0<18446744073709551616)
  ·exact zg5 9 0 0 R Z T
def RlP(zru:(List (Int×List U)×List Int)×(Int×Int))(v:Value)(H:Heap):Prop:=∃ (ks:List K3) (lv:Value),v=.tuple #[lv,.int .i64 zru.2.1,.int .i64 zru.2.2]/\KlV ks lv H/\(zru.2.2=0->kzs ks=zru.1.1/\kpi ks=zru.1.2)
def RlP.mono{zru:(List (Int×List U)×List Int)×(Int×Int)}:Kn.mono (.sat (RlP zru)):=fun _ _ _ ⟨ks,lv,h1,h2,h3⟩ hle=>⟨ks,lv,h1,h2.le hle,h3⟩
def Ux{x:Int}(h1:18446744073709551616<=x)(h2:x<36893488147419103232):IntKind.u64.wrap x=x-18446744073709551616:=by
 have h:IntKind.u64.wrap x=x%18446744073709551616:=rfl;omega
def eu:KlV [] (.slice none 0 0) H:=⟨[],rfl,(fun _ h=>by cases h),SlV.nil⟩
abbrev kzQ(ks:List K3)(x:List KZ)(H:Heap):Prop:=x.map (·.1)=ks/\KzOK x H
def Ht(ks:List K3):az (kzQ ks):=fun _ _ _ h hle=>⟨h.1,h.2.le hle⟩
abbrev lsQ(s:List U)(y:Option Addr×Nat)(H:Heap):Prop:=US s false (.slice y.1 s.length y.2) H
def Hj(s:List U):az (lsQ s):=fun _ _ _ h hle=>SlV.le h hle
structure RlJ(bs:List Nat)(n:Nat)(Y:((List (Int×List U)×List Int)×Rd)×(Int×Int))(T0:(List (Int×List U)×List Int)×(Int×Int))(i:Nat)(ks:List K3)(last:Nat)(s:List U)(R:Rd):Prop where
 hi:i<=n
 len:ks.length=i
 lb:last<=18446744073709551615
 out:(R.err≠0/\T0=(([],[]),((R.bad:Int),R.err)))\/(R.err=0/\R.at_<=bs.length/\ldW bs (n-i) last s (kzs ks) (kpi ks) R=Y/\SOK s/\2*s.length<=R.at_)
def zk9(bs:List Nat)(Y:((List (Int×List U)×List Int)×Rd)×(Int×Int)):(List (Int×List U)×List Int)×(Int×Int):=if Y.2.2≠0 then (([],[]),Y.2) else if (ew bs Y.1.2).2≠0 then (([],[]),(((ew bs Y.1.2).1:Int),(ew bs Y.1.2).2)) else (Y.1.1,(0,0))
def zdj(ks:List K3)(k:K3):kzs (ks++[k])=kzs ks++[(k.1,k.2.2)]:=by unfold kzs;rw[List.map_append];rfl
def zdl(ks:List K3)(k:K3):kpi (ks++[k])=kpi ks++List.replicate k.2.1 k.1:=by unfold kpi;rw[List.flatMap_append];simp
def zay{bs:List Nat}(hb:∀ b∈bs,b<=255){l:List U}{R:Rd}(hs:SOK l)(hsz:2*l.length<=R.at_)(ha:R.at_<=bs.length)(he:(au bs l R).2.2=0):SOK (au bs l R).1.1/\2*(au bs l R).1.1.length<=(au bs l R).1.2.at_:=by
 obtain⟨h0,cs,h1,h2,h3,h4,h5⟩:=Rr hb ha he;obtain⟨i1,i2,i3⟩:=Eh hs h2 h3;have h6:=Kc (bs:=bs) (l:=l) ha;have h7:=nh List.length h5
 have h8:∀ m:List CH,7*m.length<=(m.flatMap chgB).length:=fun m=>by
  induction m with
  | nil=>exact nu _
  | cons c m ih=>
   have:=Nc c;rw[znz,nr,ma];omega
 have h9:=h8 cs;have h10:=R0 cs;unfold zaz at h7;rw[nr,nr,m6,m6] at h7;rw[h4];exact⟨i1,by omega⟩
def Ot{bs:List Nat}{fu:Bool}(hb:∀ b∈bs,b<=255)(hl:bs.length<=8000){w:World}{B:Heap}(hB:zry B w)(hv:BsV bs fu v B):
  Ret zrz 27 [v] w B (RlP (ldF bs)):=by
 obtain⟨p,c,rfl⟩:=jx hv;obtain⟨T0,hT0⟩:∃ T0,ldF bs=T0:=⟨_,rfl⟩
 rw[hT0];obtain⟨n,R1,hn⟩:∃ n R1,jn bs 1024 3 ⟨0,0,0⟩=(n,R1):=⟨_,_,rfl⟩
 have hnl:=Hb T hn;obtain⟨e2,e1⟩:=se (bs:=bs) (lim:=1024) T ⟨0,0,0⟩;have ha1:R1.at_<=bs.length:=by have:=B4 (bs:=bs) (lim:=1024) (e:=3) (R:=⟨0,0,0⟩) (mf _);rw[hn] at this;exact this
 rw[hn] at e1 e2;dsimp only at e1 e2;rw[e2] at e1;have hrd:=fun(u:World) (H:Heap) (hH:zry H u) (hle:B.Le H)=>hn ▸ cu (R:=⟨0,0,0⟩) (lim:=1024) (e:=3) T hb I (mf _) hH (hv.le hle)
 have hT1:T0=if R1.err≠0 then (([],[]),((R1.bad:Int),R1.err)) else if (n:Int)=0 then (([],[]),(0,5)) else zk9 bs (ldW bs n 0 [] [] [] R1):=by
  rw[<-hT0];unfold ldF zk9;rw[e2];by_cases h0:R1.err≠0
  ·rw[na h0,na h0]
  ·rw[nc h0,nc h0,e1 (mh.1 h0),znu]
 clear hT0;refine yo Tryz.func27 Z Tryz.ntmps27 (np Z) hB ((Zbj∘Zh∘Zbk) ?_);refine z7 (yz (cs:=[_,_,_,_]) Z Z zl0 Z Z) Z (z71 L Z (fun u H hH hle=>hrd u H hH hle) ?_);refine(ZH∘ZC∘Zh∘ZaF∘Zam) ?_;refine ku 6 916 rfl fun b6=>?_;by_cases hz0:R1.err=0/\n=0
 ·obtain⟨h0,rfl⟩:=hz0;rw[nc (fun h=>h h0),na (show((0:Nat):Int)=0 from rfl)] at hT1;subst hT1;have hen:ew bs ⟨R1.at_,0,5⟩=(0,5):=rfl;refine(ZS∘Zz∘ZeK∘Zv∘Zb∘Zv∘ZbJ∘Zy∘Zec) ?_;refine z71 L Z (fun u H hH hle=>ww (R:=R1) (a:=0) (e:=5) hH) ?_;refine xg (yj L (q:=916) (cs':=[.slice p bs.length c,.int .i64 R1.at_,.int .i64 0,.int .i64 5]) Z Z Z Z Z) ((Zg∘Zs∘Zc∘ZT∘Zbz∘ZD∘Za0) ?_);refine xq (fun _:Unit=>[(5,.is (.int .u64 ((0:Nat):Int))),(6,.is (kg b6)),(9,.is (.int .u64 0)),(916,.own (xn b6 [.slice p bs.length c,.int .i64 R1.at_,.int .i64 0,.int .i64 5] tyRr))]) (fun _=>True) (fun _=>0) () trivial ⟨Z,Z,Z,Z,nm⟩ ?_;rintro _ _;refine(Zd∘Zbi∘Z6∘Zbe∘ZaP∘ZbI∘Zec) ?_;refine z71 L Z (fun u H hH hle=>hen ▸ Ae (bs:=bs) (p:=p) (c:=c) (R:=⟨R1.at_,0,5⟩) hH) ?_;refine(ZH∘Zb1∘ZcC∘Za∘ZY∘Zc5∘Zb∘Zh∘ZA) ?_;refine yl1 L [.tmp 2,.tmp 3,.tmp 4] fun u H hH hle=>?_;exact⟨[],_,rfl,eu,fun h=>ni h (show(5:Int)≠0 by decide)⟩
 ·have hj0:RlJ bs n (ldW bs n 0 [] [] [] R1) T0 0 [] 0 [] R1:=by
   refine⟨mf _,rfl,mf _,?_⟩;by_cases h0:R1.err=0
   ·exact .inr ⟨h0,ha1,rfl,zk7,mf _⟩
   ·rw[na h0] at hT1;exact .inl ⟨h0,hT1⟩
  have hend:R1.err=0->T0=zk9 bs (ldW bs n 0 [] [] [] R1):=fun h=>by
   rw[nc (fun h2=>h2 h),nc (fun h2=>hz0 ⟨h,by omega⟩)] at hT1;exact hT1
  have hstart:R1.err≠0->T0=(([],[]),((R1.bad:Int),R1.err)):=fun h=>by rw[na h] at hT1;exact hT1
  have hn1:R1.err=0->n≠0:=fun h h2=>hz0 ⟨h,h2⟩;generalize ldW bs n 0 [] [] [] R1=Y at hj0 hend;by_cases hE1:R1.err≠0
  ·have hn0:n=0:=by
    have:=oz (f:=vl bs 1024 3) (z:=0) (R:=⟨0,0,0⟩) (by unfold jn at hn;rw[hn];exact hE1);unfold jn at hn;rw[hn] at this;exact nh Prod.fst this
   subst hn0;rw[hstart hE1];have hen:ew bs R1=(R1.bad,R1.err):=nc fun h=>hE1 h.1;refine(ZS∘Zz∘ZeK∘Zn∘Zc6∘ZaT∘Zs∘Zc∘ZT∘Zbz∘ZD∘Za0) ?_;refine xq (fun _:Unit=>[(5,.is (.int .u64 ((0:Nat):Int))),(6,.is (kg b6)),(9,.is (.int .u64 0)),(916,.own (xn b6 [.slice p bs.length c,.int .i64 R1.at_,.int .i64 R1.bad,.int .i64 R1.err] tyRr))]) (fun _=>True) (fun _=>0) () trivial ⟨Z,Z,Z,Z,nm⟩ ?_;rintro _ _;refine(Zd∘Zbi∘Z6∘Zbe∘ZaP∘ZbI∘Zec) ?_;refine z71 L Z (fun u H hH hle=>hen ▸ Ae (bs:=bs) (p:=p) (c:=c) (R:=R1) hH) ?_;refine(ZH∘Zb1∘ZcC∘Za∘ZY∘Zc5∘Zb∘Zh∘ZA) ?_;refine yl1 L [.tmp 2,.tmp 3,.tmp 4] fun u H hH hle=>?_;exact⟨[],_,rfl,eu,fun h=>ni h hE1⟩
  ·have hE0:=mh.1 hE1;have hn2:=hn1 hE0;have hT2:=hend hE0;clear hend hstart;refine(ZS∘Zz∘ZeK∘Zv∘Zb∘Zn∘ZaT∘Zs∘Zc∘ZT∘Zbz∘ZD∘Za0) ?_;refine ku 8 918 rfl fun b8=>?_;refine g7 7 zbk 3 rfl (bq (X:=List KZ) 7 (r:=fun x=>SlR zbk 3 x.length (x.flatMap kzc)) (φ:=kzQ []) (Ht []) [] ⟨rfl,fun _ h=>by cases h⟩ Z ?_);refine bq (X:=Option Addr×Nat) 918 (r:=fun y=>xn b8 [.int .u64 0,.int .i64 0,.slice y.1 (List.length ([]:List U)) y.2] zbk) (φ:=lsQ []) (Hj []) (none,0) SlV.nil Z ?_
   refine xq (fun x:Nat×List K3×Nat×Nat×List U×Rd=>[(5,.is (.int .u64 n)),(6,.is (kg b6)),(7,.own (ExR (fun y:List KZ=>SlR zbk 3 y.length (y.flatMap kzc)) (kzQ x.2.1) (Ht _))),(8,.is (kg b8)),(9,.is (.int .u64 x.1)),(916,.own (xn b6 [.slice p bs.length c,.int .i64 x.2.2.2.2.2.at_,.int .i64 x.2.2.2.2.2.bad,.int .i64 x.2.2.2.2.2.err] tyRr)),(918,.own (ExR (fun y:Option Addr×Nat=>xn b8 [.int .u64 x.2.2.1,.int .i64 x.2.2.2.1,.slice y.1 x.2.2.2.2.1.length y.2] zbk) (lsQ x.2.2.2.2.1) (Hj _)))])
    (fun x=>RlJ bs n Y T0 x.1 x.2.1 x.2.2.1 x.2.2.2.2.1 x.2.2.2.2.2) (fun x=>n-x.1) (0,[],0,0,[],R1) hj0 ⟨rfl,rfl,rfl,rfl,rfl,rfl,rfl,nm⟩ ?_
   rintro⟨i,ks,last,lp,s,R⟩ hj;dsimp only at hj |-;by_cases hlt:i<n/\R.err=0
   ·obtain⟨hlt,h0⟩:=hlt;obtain⟨h2,_⟩ | ⟨_,hRa,hW,hso,hsz⟩:=hj.out
    ·exact ni h0 h2
    obtain⟨m,hm⟩:∃ m,n-i=m+1:=⟨n-i-1,by omega⟩
    rw[hm] at hW;unfold ldW at hW;have hlb:=hj.lb;have hki:=hj.len;obtain⟨st,N1,hz1⟩:∃ st N1,p9 bs R=(st,N1):=⟨_,_,rfl⟩
    have ha2:N1.at_<=bs.length:=by have:(p9 bs R).2.at_<=bs.length:=de hRa (Dm hRa);rw[hz1] at this;exact this
    have hst:st<18446744073709551616:=by have:=zg7 (bs:=bs) (R:=R);rw[hz1] at this;exact this
    rw[hz1] at hW;dsimp only at hW;have hrn:=fun(u:World) (H:Heap) (hH:zry H u) (hle:B.Le H)=>hz1 ▸ Lz (R:=R) hb I hRa hH (hv.le hle);refine uu 918 rfl fun y8 H1 hs1 hls=>?_;obtain⟨sp,sc⟩:=y8;dsimp only[lsQ] at hls |-;refine(Zd∘Zbi∘ZI∘Za∘Zz∘ZeK∘Zv∘ZbJ∘ZaX∘ZE∘Zec∘ZbW) ?_;refine ku 10 930 rfl fun b10=>?_;refine(Zbf∘Zec) ?_;refine z71 L Z (fun u H hH hle=>hrn u H hH (hs1.le.trans hle)) ?_;refine(ZH∘ZC∘Zh∘ZaF∘Zam) ?_;refine ku 12 932 rfl fun b12=>?_;have hmost:=fun(NX:Rd) (hNX:NX.at_<=bs.length) (u:World) (H:Heap) (hH:zry H u) (hle:B.Le H)=>cu (R:=NX) (lim:=4096) (e:=3) T hb I hNX hH (hv.le hle);by_cases g1:N1.err≠0
    ·rw[na g1] at hW;subst hW;have hst1:jn bs 4096 3 N1=(0,N1):=vh (f:=vl bs 4096 3) (z:=0) g1;have hT3:T0=(([],[]),((N1.bad:Int),N1.err)):=hT2.trans (na g1);subst hT3;refine(ZG∘Zz∘Zd7∘Zn∘ZbY∘Zbv∘Zbv∘Za6∘Zo∘ZO∘Ze4) ?_;refine z71 L Z (fun u H hH hle=>hst1 ▸ hmost N1 ha2 u H hH (hs1.le.trans hle)) ?_;refine(ZH∘Zh) ?_;refine xg (yj L (q:=932) (cs':=[.slice p bs.length c,.int .i64 N1.at_,.int .i64 N1.bad,.int .i64 N1.err]) Z Z Z Z Z) (Zam (h:=?_));refine(Za2∘Zz∘Zd7∘ZY∘Zfn∘Zal∘Zed∘Zal∘Zed∘Zah∘Zah∘Zav) ?_;refine yl L (rs:=[.tmp 2,.tmp 3,.tmp 4]) Z (fun _ _ h=>h) hs1 fun u H hH hle=>?_;exact⟨[],_,rfl,eu,fun h=>ni h g1⟩
    ·rw[nc g1] at hW;have g10:=mh.1 g1;obtain⟨q1,e3,_⟩:=Yd hb h0 (by rw[hz1];exact g10);have hN1:R.at_<=N1.at_:=by have:=congrArg (fun x:Nat×Rd=>x.2.at_) e3;rw[hz1] at this;dsimp only at this;omega
     by_cases g2:¬ (0<st/\st<=18446744073709551615-last)
     ·rw[na g2] at hW;subst hW;have hst1:jn bs 4096 3 ⟨R.at_,R.at_,5⟩=(0,⟨R.at_,R.at_,5⟩):=vh (f:=vl bs 4096 3) (z:=0) (show(5:Int)≠0 by decide);have hT3:T0=(([],[]),((R.at_:Int),5)):=hT2.trans (na (show(5:Int)≠0 by decide));subst hT3;by_cases hst0:st=0
      ·have hst2:((st:Nat):Int)=0:=I;refine(ZG∘Zz∘Zd7∘Zv∘Zb∘Zv∘ZbY∘Za6∘ZbJ∘ZW∘Zea∘Zz∘Zeb) ?_;refine z71 L Z (fun u H hH hle=>ww (R:=R) (a:=R.at_) (e:=5) hH) ?_;refine xg (yj L (q:=932) (cs':=[.slice p bs.length c,.int .i64 R.at_,.int .i64 R.at_,.int .i64 5]) Z Z Z Z Z) ((Zg∘ZO∘Ze4) ?_);refine z71 L Z (fun u H hH hle=>hst1 ▸ hmost ⟨R.at_,R.at_,5⟩ hRa u H hH (hs1.le.trans hle)) ?_;refine(ZH∘Zh) ?_;refine xg (yj L (q:=932) (cs':=[.slice p bs.length c,.int .i64 R.at_,.int .i64 R.at_,.int .i64 5]) Z Z Z Z Z) (Zam (h:=?_));refine(Za2∘Zz∘Zd7∘ZY∘Zfn∘Zal∘Zed∘Zal∘Zed∘Zah∘Zah∘Zav) ?_;refine yl L (rs:=[.tmp 2,.tmp 3,.tmp 4]) Z (fun _ _ h=>h) hs1 fun u H hH hle=>?_;exact⟨[],_,rfl,eu,fun h=>ni h (show(5:Int)≠0 by decide)⟩
      ·have hov:IntKind.u64.wrap ((last:Int)+(st:Int))=(last:Int)+(st:Int)-18446744073709551616:=Ux I I;refine(ZG∘Zz∘Zd7∘Zv∘Zb∘Zn∘Za∘Zz∘Zee∘Zar∘Zz∘Zee∘ZI∘Zi∘ZbJ∘ZW∘Zea∘Zz∘Zeb) ?_;refine z71 L Z (fun u H hH hle=>ww (R:=R) (a:=R.at_) (e:=5) hH) ?_;refine xg (yj L (q:=932) (cs':=[.slice p bs.length c,.int .i64 R.at_,.int .i64 R.at_,.int .i64 5]) Z Z Z Z Z) ((Zg∘ZO∘Ze4) ?_);refine z71 L Z (fun u H hH hle=>hst1 ▸ hmost ⟨R.at_,R.at_,5⟩ hRa u H hH (hs1.le.trans hle)) ?_;refine(ZH∘Zh) ?_;refine xg (yj L (q:=932) (cs':=[.slice p bs.length c,.int .i64 R.at_,.int .i64 R.at_,.int .i64 5]) Z Z Z Z Z) (Zam (h:=?_));refine(Za2∘Zz∘Zd7∘ZY∘Zfn∘Zal∘Zed∘Zal∘Zed∘Zah∘Zah∘Zav) ?_;refine yl L (rs:=[.tmp 2,.tmp 3,.tmp 4]) Z (fun _ _ h=>h) hs1 fun u H hH hle=>?_;exact⟨[],_,rfl,eu,fun h=>ni h (show(5:Int)≠0 by decide)⟩
     ·rw[nc g2] at hW;have g20:=mh.1 g2;have hwa:IntKind.u64.wrap ((last:Int)+(st:Int))=((last+st:Nat):Int):=(wrap_u64 I I).trans I;obtain⟨k,N2,hz2⟩:∃ k N2,jn bs 4096 3 N1=(k,N2):=⟨_,_,rfl⟩
      have hkl:=Hb T hz2;have ha3:N2.at_<=bs.length:=by have:=B4 (bs:=bs) (lim:=4096) (e:=3) (R:=N1) ha2;rw[hz2] at this;exact this
      obtain⟨e4,e5⟩:=se (bs:=bs) (lim:=4096) T N1;rw[hz2] at e4 e5;dsimp only at e4 e5;rw[e4] at hW e5;have hst1:=hz2;by_cases g3:N2.err≠0
      ·rw[na g3] at hW;subst hW;have hT3:T0=(([],[]),((N2.bad:Int),N2.err)):=hT2.trans (na g3);subst hT3;refine(ZG∘Zz∘Zd7∘Zv∘Zb∘Zn∘Za∘Zz∘Zee∘Zar∘Zz∘Zee∘Z6∘Zi∘ZaT∘ZO∘Ze4) ?_;refine z71 L Z (fun u H hH hle=>hst1 ▸ hmost N1 ha2 u H hH (hs1.le.trans hle)) ?_;refine(ZH∘Zh) ?_;refine xg (yj L (q:=932) (cs':=[.slice p bs.length c,.int .i64 N2.at_,.int .i64 N2.bad,.int .i64 N2.err]) Z Z Z Z Z) (Zam (h:=?_));refine(Za2∘Zz∘Zd7∘ZY∘Zfn∘Zal∘Zed∘Zal∘Zed∘Zah∘Zah∘Zav) ?_;refine yl L (rs:=[.tmp 2,.tmp 3,.tmp 4]) Z (fun _ _ h=>h) hs1 fun u H hH hle=>?_;exact⟨[],_,rfl,eu,fun h=>ni h g3⟩
      ·rw[nc g3] at hW;have g30:=mh.1 g3;obtain⟨_,q2,_,e6,_⟩:=Al hb (lim:=4096) T (R:=N1) (by rw[e4];exact g30);have hN2:N1.at_<=N2.at_:=by have:=congrArg (fun x:Int×Rd=>x.2.at_) e6;rw[show(jy bs 4096 N1).2=N2 from e4] at this;dsimp only at this;omega
       rw[e5 g30,znu] at hW;have hcw:IntKind.i64.wrap (k:Int)=(k:Int):=xd I I;refine(ZG∘Zz∘Zd7∘Zv∘Zb∘Zn∘Za∘Zz∘Zee∘Zar∘Zz∘Zee∘Z6∘Zi∘ZaT∘ZO∘Ze4) ?_;refine z71 L Z (fun u H hH hle=>hst1 ▸ hmost N1 ha2 u H hH (hs1.le.trans hle)) ?_;refine(ZH∘Zh) ?_;refine xg (yj L (q:=932) (cs':=[.slice p bs.length c,.int .i64 N2.at_,.int .i64 N2.bad,.int .i64 N2.err]) Z Z Z Z Z) (Zam (h:=?_));refine(Za2∘Zz∘Zd7∘Zaw∘Zaf∘ZC∘Zg) ?_;refine ku 14 934 rfl fun b14=>?_;refine(ZaW∘Zz∘Zee∘Zar∘Zz) ?_;refine xg (yj L (q:=934) (cs':=[.int .u64 ((last+st:Nat):Int),.int .i64 0,.slice none 0 0]) Z Z Z Z Z) ((Zg∘Zbb∘Za) ?_);refine z7 (xw Z Z Z wq.1 wq.2 (xd I I)) Z (Zz (h:=?_));refine xg (yj L (q:=934) (cs':=[.int .u64 ((last+st:Nat):Int),.int .i64 k,.slice none 0 0]) Z Z Z Z Z) (Zg (h:=?_));have hch:=fun(u:World) (H:Heap) (hH:zry H u) (hle:B.Le H) (hls:US s false (.slice sp s.length sc) H)=>Ma (R:=N2) hso I hb hl ha3 g30 hH (hv.le hle) hls;refine(Zbu∘Ze4∘Zz∘Zee) ?_;refine z7 (xl (φ:=RcP (.slice p bs.length c) (au bs s N2)) L rfl rfl (zp rfl) rfl rfl rfl RcP.mono (fun u H hH hle _=>hch u H hH (hs1.le.trans hle) (SlV.le hls hle))) rfl ?_;refine ff 92 rfl fun v92 H2 hs2 h92=>?_;obtain⟨m4,R4,lv4,rfl,hm4,hc4⟩:=h92;obtain⟨p4,c4,rfl⟩:=jx hm4;refine(ZH∘Zz) ?_;refine xg (yj L (q:=934) (cs':=[.int .u64 ((last+st:Nat):Int),.int .i64 k,.slice p4 m4.length c4]) rfl rfl rfl rfl rfl) (xg (yj L (q:=916) (cs':=[.slice p bs.length c,.int .i64 R4.at_,.int .i64 R4.bad,.int .i64 R4.err]) rfl rfl rfl rfl rfl) (Zg (h:=?_)));refine uu 7 rfl fun y7 H3 hs3 hq7=>?_;have hyl:y7.length=i:=by have h:=nh List.length hq7.1;rw[mj,hki] at h;exact h
       have hwi:IntKind.u64.wrap ((i:Int)+1)=((i+1:Nat):Int):=wrap_u64 I I;refine ZaK (h:=?_);refine qh (yt (.inl Z) Z) (y9 (kf L (q:=934) (vs:=[_,_,_]) Z Z Z Z ⟨[],rfl⟩) (ZR (h:=?_)));refine qh (vj L Z Z Z (oq Z) Z zmb Z Z I I) (qh (yt (.inr Z) Z) ((Zp∘Zb0) ?_));refine y9 (kf L (q:=934) (vs:=[_,_,_]) Z Z Z Z ⟨[],rfl⟩) (xg (yj L (q:=918) (cs':=[.int .u64 ((last+st:Nat):Int),.int .i64 k,.slice p4 m4.length c4]) Z Z Z Z Z) ((ZaJ∘Z7∘Zar∘Zao) ?_))
       refine ic (X:=List KZ) 7 (r:=fun x=>SlR zbk 3 x.length (x.flatMap kzc)) (Ht (ks++[(((last+st:Nat):Int),k,m4)])) (y7++[((((last+st:Nat):Int),k,m4),.slice p4 m4.length c4)]) ⟨by rw[znp,hq7.1];rfl,fun z hz=>by
        rcases mt.1 hz with h | h
        ·exact hq7.2 z h
        ·rw[mz.1 h];exact SlV.le hm4 hs3.le⟩ (by exact zhh rfl) ?_
       refine ic (X:=Option Addr×Nat) 918 (r:=fun y=>xn b8 [.int .u64 ((last+st:Nat):Int),.int .i64 k,.slice y.1 m4.length y.2] zbk) (Hj m4) (p4,c4) (SlV.le hm4 hs3.le) Z (w5 (x:=(i,ks,last,lp,s,R)) (i+1,ks++[(((last+st:Nat):Int),k,m4)],last+st,k,m4,R4) (hs1.trans (hs2.trans hs3)) ?_ M ⟨Z,Z,Z,Z,Z,Z,Z,nm⟩);refine⟨hlt,by rw[List.length_append,hki];rfl,by dsimp only;omega,?_⟩;dsimp only;rcases hc4 with ⟨k1,k2,k3⟩ | ⟨k1,k2,k3⟩
       ·rw[nc (fun e=>e k1)] at hW;obtain⟨j1,j2⟩:=zay hb hso I ha3 k1;have j3:=Kc (l:=s) ha3;have j4:=Kb k1;rw[zdj,zdl,k2,k3,show n-(i+1)=m by omega];exact .inr ⟨j4,j3,hW,j1,j2⟩
       ·rw[na k1] at hW;subst hW;exact .inl ⟨fun e=>k1 (k3.symm.trans e),by rw[hT2,k2,k3];exact na k1⟩
   ·have hT4:T0=if (ew bs R).2≠0 then (([],[]),(((ew bs R).1:Int),(ew bs R).2)) else ((kzs ks,kpi ks),(0,0)):=by
     obtain⟨h1,h2⟩ | ⟨h1,_,hW,_⟩:=hj.out
     ·have hen:ew bs R=(R.bad,R.err):=nc fun h=>h1 h.1;rw[hen,na h1];exact h2
     ·have hin:i=n:=by have:=hj.hi;have:¬ i<n:=fun h3=>hlt ⟨h3,h1⟩;omega
      rw[hin,zoq] at hW;have hW2:(((kzs ks,kpi ks),R),((0:Int),(0:Int)))=Y:=hW;subst hW2;rw[hT2];unfold zk9;rw[nc (fun h=>h rfl)]
    have hen:=fun(u:World) (H:Heap) (hH:zry H u)=>Ae (bs:=bs) (p:=p) (c:=c) (R:=R) hH;obtain⟨x,y,hxy⟩:∃ x y,ew bs R=(x,y):=⟨_,_,rfl⟩
    rw[hxy] at hen hT4;dsimp only at hen hT4;by_cases hi:i<n
    ·have he:R.err≠0:=fun h=>hlt ⟨hi,h⟩;have hy:y=R.err:=by have:ew bs R=(R.bad,R.err):=nc fun h=>he h.1;rw[hxy] at this;exact(Prod.mk.inj this).2
     have hy0:y≠0:=by rw[hy];exact he
     rw[na hy0] at hT4;subst hT4;refine(Zd∘Zbi∘ZI∘Za∘Zz∘ZeK∘Zn∘Zi∘ZaP) ?_;refine(ZbI∘Zec) ?_;refine z71 L Z (fun u H hH _=>hen u H hH) ?_;refine(ZH∘Zb1∘ZcC∘Za∘ZY∘Zc5∘Zb∘Zh∘ZA) ?_;refine yl1 L [.tmp 2,.tmp 3,.tmp 4] fun u H hH hle=>?_;exact⟨[],_,rfl,eu,fun h=>ni h hy0⟩
    ·refine uu 7 rfl fun y7 H3 hs3 hq7=>?_;by_cases hy0:y≠0
     ·rw[na hy0] at hT4;subst hT4;refine(Zd∘Zbi∘Z6∘Zbe∘ZaP) ?_;refine(ZbI∘Zec) ?_;refine z71 L Z (fun u H hH _=>hen u H hH) ?_;refine(ZH∘Zb1∘ZcC∘Za∘ZY∘Zc5∘Zb∘Zh∘ZA) ?_;refine yl L (rs:=[.tmp 2,.tmp 3,.tmp 4]) Z (fun _ _ h=>h) hs3 fun u H hH hle=>?_;exact⟨[],_,rfl,eu,fun h=>ni h hy0⟩
     ·rw[nc hy0] at hT4;subst hT4;have hy1:=mh.1 hy0;refine(Zd∘Zbi∘Z6∘Zbe∘ZaP) ?_;refine(ZbI∘Zec) ?_;refine z71 L Z (fun u H hH _=>hen u H hH) ?_;refine(ZH∘Zb1∘ZcC∘Za∘Zaw) ?_;refine fj 7 rfl ((ZdV∘Zk∘ZP∘ZA) ?_);refine yl L (rs:=[.tmp 2,.tmp 3,.tmp 4]) Z (fun _ _ h=>h) hs3 fun u H hH hle=>?_;exact fun v hv=>⟨ks,v,rfl,⟨y7,hq7.1,hq7.2.le hle,hv⟩,fun _=>⟨rfl,rfl⟩⟩
open Go.ChangeShapes Go.V.Bd
abbrev Sr:TypeId:=66
abbrev VZ:=(Nat×Nat×Nat×Nat)×(List Nat×Value)
def vzc(z:VZ):List Value:=[.int .u8 z.1.1,.int .u64 z.1.2.1,.int .u8 z.1.2.2.1,.int .u8 z.1.2.2.2,z.2.2]
def zfs(z:VZ):(vzc z).length=5:=rfl
structure zkt(z:VZ)(H:Heap):Prop where
 k:z.1.1<=255
 n:z.1.2.1<18446744073709551616
 a:z.1.2.2.1<=255
 b:z.1.2.2.2<=255
 r:∀ b∈z.2.1,b<=255
 v:BsV z.2.1 false z.2.2 H
abbrev zmh(zs:List VZ):Value->Heap->Prop:=SlV Sr 5 (zs.flatMap vzc) zs.length false
def zll{zs:List VZ}{i:Nat}{z:VZ}(h:zs[i]?=some z):((zs.flatMap vzc).drop (i*5)).take 5=[.int .u8 z.1.1,.int .u64 z.1.2.1,.int .u8 z.1.2.2.1,.int .u8 z.1.2.2.2,z.2.2]:=f0 zfs zs i z h
def vzB(z:VZ):List Nat:=if z.1.1%4=0 then jg z.1.2.1 else if z.1.1%4=1 then ec (Ks z.1.2.2.1 z.1.2.2.2)++[0] else if z.1.1%4=2 then ec (Ks z.1.2.2.1 z.1.2.2.2)++[1] else z.2.1
def Vg{t:U}(h:tE t=0):(ec t).length<=102:=by
 have h6:=Vb h;have ht:∀ s:ByteArray,s.size<=16->(iy s).length<=17:=fun s hs=>by rw[Qf hs];simp [g9];omega
 obtain⟨⟨⟨a,b⟩,c⟩,⟨d,e⟩,f⟩:=t;simp only[u6,nz,zou,or_false,forall_eq_or_imp,forall_eq] at h6;have ha:=ht a h6.1;have hb:=ht b h6.2.1;have hc:=ht c h6.2.2.1;have hd:=ht d h6.2.2.2.1;have he:=ht e h6.2.2.2.2.1;have hf:=ht f h6.2.2.2.2.2;unfold ec we;simp only[u6,znz,zqi,nr,m5];omega
def zft{z:VZ}(h:zkt z H)(hr:z.2.1.length<=20):(vzB z).length<=103:=by
 unfold vzB;split
 ·have:=c7 h.n;omega
 ·have ht:=Vg (Ov z.1.2.2.1 z.1.2.2.2);split
  ·rw[nr,zn1];omega
  ·split
   ·rw[nr,zn1];omega
   ·omega
def E0(t:U):∀ b∈ec t,b<=255:=fun b hb=>by
 unfold ec we at hb;obtain⟨s,_,h⟩:=zp0.1 hb;exact zf4 s b h
def zil{z:VZ}(h:zkt z H):∀ b∈vzB z,b<=255:=fun b hb=>by
 unfold vzB at hb;split at hb
 ·exact Yb _ b hb
 ·split at hb
  ·rcases mt.1 hb with h1 | h1
   ·exact E0 _ b h1
   ·rw[mz.1 h1];decide
  ·split at hb
   ·rcases mt.1 hb with h1 | h1
    ·exact E0 _ b h1
    ·rw[mz.1 h1];decide
   ·exact h.r b hb
def Y8:∀ {ks m:List K3},(Bm m).Nodup->kzs ks=kzs m->kpi ks=kpi m->ks=m
 | [],[],_,_,_=>rfl
 | [],y::m,_,h,_=>by cases h
 | x::ks,[],_,h,_=>by cases h
 | (r,n,t)::ks,(r2,n2,t2)::m,hn,h,hp=>by
  have h1:((r,t):Int×List U)=(r2,t2)/\kzs ks=kzs m:=List.cons.inj h;obtain⟨he,h2⟩:=h1;cases he;have hk:Bm ks=Bm m:=by rw[<-An,<-An,h2]
  have hn1:(Bm ((r,n,t)::ks)).Nodup:=by rw[show Bm ((r,n,t)::ks)=r::Bm ks from rfl,hk];exact hn
  have c1:=tc hn1 (r,n,t) (mc ..);have c2:=tc hn (r,n2,t) (mc ..);dsimp only at c1 c2;rw[hp,c2] at c1;subst c1;have hp2:List.replicate n2 r++kpi ks=List.replicate n2 r++kpi m:=hp;rw[Y8 (zo3.1 hn).2 h2 (List.append_cancel_left hp2)]
def Ge{zs:List VZ}(hzl:zs.length<=9223372036854775807){v:Value}{w:World}{B:Heap}(hB:zry B w)(hM:GlobM B)(hok:∀ z∈zs,zkt z B)(hv:zmh zs v B):
  Ret zrz 5 [v] w B (fun v _=>v=.bool true):=by
 obtain⟨pv,cv,rfl⟩:=jx hv;have hli:=fun(u:World) (H:Heap) (hH:zry H u) (hle:B.Le H)=>Mq hH (hM.mono hle);refine yo Tryz.func5 Z Tryz.ntmps5 (np Z) hB (jf 0 (zmh zs) Z nw hv ?_);by_cases h40:40<zs.length
 ·refine(Zad∘ZM∘Zl∘ZJ∘Zbd) ?_;refine z71 L Z (fun u H hH hle=>hli u H hH hle) ?_;refine Ze (h:=?_);exact yl2 L [.tmp 2]
 ·refine(Zad∘ZM∘Zl∘Zca∘Zy∘Zj∘Zs∘Za0) ?_;refine g7 3 o3 1 rfl ?_
  refine xq (fun i:Nat=>[(0,.sat (zmh zs)),(3,.own (SlR o3 1 ((zs.take i).flatMap vzB).length (byV ((zs.take i).flatMap vzB)))),(4,.is (.int .i64 i))])
   (fun i=>i<=zs.length/\((zs.take i).flatMap vzB).length<=i*103) (fun i=>zs.length-i) 0 ⟨mf _,mf _⟩ ⟨rfl,rfl,rfl,nm⟩ ?_
  rintro i ⟨hi,hbz⟩;dsimp only at hi hbz |-;by_cases hlt:i<zs.length
  ·obtain⟨z,hz⟩:=xu hlt;have hzo:=hok z (m9 hz);have hc:=zll hz;have hsn:(zs.take (i+1)).flatMap vzB=(zs.take i).flatMap vzB++vzB z:=by rw[zns,hz,znw];simp
   have hvl:=zft hzo;generalize hA:(zs.take i).flatMap vzB=A at hbz hsn |-;obtain⟨⟨kd,n,a,b⟩,raw,rv⟩:=z;obtain⟨zk,zn,za,zb,zr,zv⟩:=hzo;dsimp only at zk zn za zb zr zv hc hvl;obtain⟨p3,c3,rfl⟩:=jx zv;by_cases h20:20<raw.length
   ·refine(Zd∘Zak∘ZbN∘ZaZ∘Zd∘ZU∘ZaS∘Zc3∘Za9∘Za1∘ZJ∘Zr∘Z7) ?_;refine z71 L Z (fun u H hH hle=>hli u H hH hle) ?_;refine Ze (h:=?_);exact yl2 L [.tmp 2]
   ·have hvl2:=hvl I;have hAl:(A++vzB ((kd,n,a,b),raw,.slice p3 raw.length c3)).length<=(i+1)*103:=by rw[nr];omega
    have hwi:IntKind.i64.wrap ((i:Int)+1)=((i+1:Nat):Int):=xd I I;have hrm:Int.tmod ((kd:Nat):Int) 4=((kd%4:Nat):Int):=rfl;have htl:=Vg (Ov a b);have htz:∀ s∈u6 (Ks a b),s.size<=1000:=fun s hs=>znj (Vb (Ov a b) s hs) T;have hnl:=c7 zn;have hL:=fun m:List Nat=>(show(byV m).length=m.length*1 by rw[mj,zoe])
    obtain⟨q,hq⟩:∃ q,kd%4=q:=⟨_,rfl⟩
    have hq4:q<4:=by rw[<-hq];exact zpo _ T
    rw[hq] at hrm;have hvz:vzB ((kd,n,a,b),raw,.slice p3 raw.length c3)=(if q=0 then jg n else if q=1 then ec (Ks a b)++[0] else if q=2 then ec (Ks a b)++[1] else raw):=by unfold vzB;dsimp only;rw[hq]
    rw[hvz] at hsn hAl;by_cases q0:q=0
    ·subst q0;rw[na rfl] at hsn hAl;have hL1:=hL (jg n);have hpl1:=cd (jg n);refine(Zd∘Zak∘ZbN∘ZaZ∘Zd∘ZU∘ZaS∘Zc3∘Za9∘Za1∘Zca∘ZE∘ZaS∘Zc3∘Za9∘ZcI∘Zp∘Zae∘ZG∘Zv∘Zh∘Z3∘ZW) ?_;refine qh (yt (.inl Z) Z) ((ZaS∘Zc3∘Za9) ?_);refine z7 (xl (φ:=BsV (jg n) false) L Z Z (zp Z) Z Z Z nw (fun u H hH _ _=>V4 zn hH)) Z (Zd9 (h:=?_));refine qh (yt (.inr Z) Z) ((Zac∘Zau∘Zax) ?_);refine Aw 3 rfl ((ZL∘ZF∘Zao) ?_);exact yv (x:=i) (i+1) ⟨hlt,by rw[hsn];exact hAl⟩ I ⟨Z,by rw[hsn];rfl,Z,nm⟩
    ·rw[nc q0] at hsn hAl;by_cases q12:q=1\/q=2
     ·obtain⟨kb,kv,hkb,hkv⟩:∃ (kb:Bool) (kv:Nat),(q=if kb=true then 2 else 1)/\kv=(if kb=true then 1 else 0):=by
       rcases q12 with h | h
       ·exact⟨false,_,h,rfl⟩
       ·exact⟨true,_,h,rfl⟩
      have hb2:(if q=1 then ec (Ks a b)++[0] else if q=2 then ec (Ks a b)++[1] else raw)=ec (Ks a b)++[kv]:=by
       cases kb<;>simp_all
      rw[hb2,<-mo] at hsn hAl;have hL1:=hL (ec (Ks a b));have hpl1:=cd (ec (Ks a b));have hL2:=hL [kv];have hpl2:=cd [kv];have hA1:(A++ec (Ks a b)).length<=5000:=by rw[nr];omega
      have hk1:[kv].length=1:=rfl;have hbo:=fun(u:World) (H:Heap) (hH:zry H u)=>S8 (b:=kb) hH;have hkv2:[if kb=true then 1 else 0]=[kv]:=by rw[hkv]
      rw[hkv2] at hbo;generalize [kv]=kl at hsn hAl hL2 hpl2 hk1 hbo
      cases kb with
      | false=>
       have hq1:q=1:=hkb;subst hq1;refine(Zd∘Zak∘ZbN∘ZaZ∘Zd∘ZU∘ZaS∘Zc3∘Za9∘Za1∘Zca∘ZE∘ZaS∘Zc3∘Za9∘ZcI∘Zp∘Zae∘ZG∘Zn∘Zh∘Za5∘Zd∘ZO∘Zv∘Zh∘Z3∘ZcX∘Zeo∘Zf∘Zap) ?_;refine qh (yt (.inl Z) Z) ((ZaS∘Zc3∘Zel) ?_);refine z71 L Z (fun u H hH _=>Mc a b za zb hH) ?_;refine z7 (xl (φ:=BsV (ec (Ks a b)) false) L Z Z (zp Z) Z Z Z nw (fun u H hH _ _=>Lx htz hH)) Z (Zd9 (h:=?_));refine qh (yt (.inr Z) Z) (Zp (h:=?_));refine Aw 3 rfl (Zaf (h:=?_));refine qh (yt (.inl Z) Z) ((ZaS∘Zc3∘Za9∘ZcI∘Zn) ?_);refine z7 (xl (φ:=BsV kl false) L Z Z (zp Z) Z Z Z nw (fun u H hH _ _=>hbo u H hH)) Z (Zd9 (h:=?_));refine qh (yt (.inr Z) Z) ((Zac∘Zau∘Zax) ?_);refine Aw 3 rfl ((ZL∘ZF∘Zao) ?_);exact yv (x:=i) (i+1) ⟨hlt,by rw[hsn];exact hAl⟩ I ⟨Z,by rw[hsn];rfl,Z,nm⟩
      | true=>
       have hq2:q=2:=hkb;subst hq2;refine(Zd∘Zak∘ZbN∘ZaZ∘Zd∘ZU∘ZaS∘Zc3∘Za9∘Za1∘Zca∘ZE∘ZaS∘Zc3∘Za9∘ZcI∘Zp∘Zae∘ZG∘Zn∘Zh∘Za5∘Zd∘ZO∘Zn∘Zh∘Za5∘Za2∘Zv∘Zh∘Zr∘Zap) ?_;refine qh (yt (.inl Z) Z) ((ZaS∘Zc3∘Zel) ?_);refine z71 L Z (fun u H hH _=>Mc a b za zb hH) ?_;refine z7 (xl (φ:=BsV (ec (Ks a b)) false) L Z Z (zp Z) Z Z Z nw (fun u H hH _ _=>Lx htz hH)) Z (Zd9 (h:=?_));refine qh (yt (.inr Z) Z) (Zp (h:=?_));refine Aw 3 rfl (Zaf (h:=?_));refine qh (yt (.inl Z) Z) ((ZaS∘Zc3∘Za9∘ZcI∘Zv) ?_);refine z7 (xl (φ:=BsV kl false) L Z Z (zp Z) Z Z Z nw (fun u H hH _ _=>hbo u H hH)) Z (Zd9 (h:=?_));refine qh (yt (.inr Z) Z) ((Zac∘Zau∘Zax) ?_);refine Aw 3 rfl ((ZL∘ZF∘Zao) ?_);exact yv (x:=i) (i+1) ⟨hlt,by rw[hsn];exact hAl⟩ I ⟨Z,by rw[hsn];rfl,Z,nm⟩
     ·have hq3:q=3:=I;subst hq3;rw[nc T,nc T] at hsn hAl;have hL1:=hL raw;have hpl1:=cd raw;refine(Zd∘Zak∘ZbN∘ZaZ∘Zd∘ZU∘ZaS∘Zc3∘Za9∘Za1∘Zca∘ZE∘ZaS∘Zc3∘Za9∘ZcI∘Zp∘Zae∘ZG∘Zn∘Zh∘Za5∘Zd∘ZO∘Zn∘Zh∘Za5∘Za2∘Zn∘Zh∘Za5∘Zbf) ?_;refine qh (yt (.inl Z) Z) ((ZaS∘Zc3∘Za9) ?_);refine vo 42 (BsV raw false) Z nw zv (Zd9 (h:=?_));refine qh (yt (.inr Z) Z) ((Zac∘Zau∘Zax) ?_);refine Aw 3 rfl ((ZL∘ZF∘Zao) ?_);exact yv (x:=i) (i+1) ⟨hlt,by rw[hsn];exact hAl⟩ I ⟨Z,by rw[hsn];rfl,Z,nm⟩
  ·obtain rfl:i=zs.length:=by omega
   rw[znq] at hbz |-
   have hbb:∀ b∈zs.flatMap vzB,b<=255:=fun b hb=>by
    obtain⟨z,hz,h⟩:=zp0.1 hb;exact zil (hok z hz) b h
   generalize zs.flatMap vzB=bs at hbz hbb |-;have hbl:bs.length<=8000:=I;have hr2:=fun(u:World) (H:Heap) (hH:zry H u) (v1:Value) (h1:BsV bs false v1 H)=>Ot hbb hbl hH h1;refine fj 3 rfl ?_;obtain⟨T0,hT0⟩:∃ T0,ldF bs=T0:=⟨_,rfl⟩
   rw[hT0] at hr2;by_cases he:T0.2.2=0
   ·obtain⟨ks0,hk0,hl0,hl1,hbs⟩:=zhf hbb (by rw[hT0];exact he);have hlo:LoOK ks0:=⟨hk0,hl0,hl1⟩
    have hld:=zj2 hk0 hl0 hl1;rw[<-hbs,hT0] at hld;subst hld;have hks:=zhi hk0;have hD:=hlo.D;have hdmp:=fun {u:World} {H:Heap} {C:Nat->Prop} {b2:Nat} (hH:zry H u) (hr:(StG b2 (loS (kzs ks0,kpi ks0))).P H u C) (hC:ZCB C u H)=>Rj hD hH hr hC;rw[hks,<-hbs] at hdmp;have hmb:Kn.mono (.sat (BsV bs true)):=nw;have hmi:Kn.mono (.sat (fun v _=>v=Value.int .i64 0)):=fun _ _ _ h _=>h;refine(Zd∘Zak∘Zl∘Zb8∘ZaW∘Zk) ?_;refine z7 (uk L Z Z (zp Z) Z Z Z (fun u H hH hle _ v1 h1=>Tz hT0 Z hbb I hH h1)) Z ?_;refine oy 78 902 rfl fun b2=>?_;refine(Zcz∘Zh∘ZaR) ?_;refine(Zbb∘Zk) ?_;refine z7 (xl (φ:=RlP ((kzs ks0,kpi ks0),(0,0))) L rfl rfl (zp rfl) rfl rfl rfl RlP.mono (fun u H hH hle _ v1 h1=>hr2 u H hH v1 h1)) rfl ?_;refine ff 84 rfl fun v84 H1 hs1 h84=>?_;obtain⟨ks,lv,rfl,⟨kz,hk1,hk2,hk3⟩,hkk⟩:=h84;obtain⟨p8,c8,rfl⟩:=jx hk3;dsimp only;refine(Zcz∘Zb6) ?_;have hkk2:=hkk rfl;have hke:ks=ks0:=Y8 (My hk0) hkk2.1 hkk2.2;subst hke;refine(Zbu∘Zb∘Za7∘Zu∘Za7∘Zi∘ZV∘Zb0∘Za∘Zaw∘ZcC∘Za) ?_;refine y9 (dq L 902 (DmP bs) (r:=StG b2 (loS (kzs ks,kpi ks))) Z Z Z Z Z DmP.mono (fun u H2 C2 hH hle hr2 hC2=>hdmp hH hr2 hC2)) ((Zk∘ZcB∘Zce∘ZP∘Zc) ?_);refine(Zc5∘Za∘ZeI∘Zu) ?_;refine y9 (Xx L 902 (.int .i64 1) (r:=StG b2 (loS (kzs ks,kpi ks))) Z Z Z Z Z (fun u H2 C2 hH hle hr2 hC2=>S5 hD hlo.pin hlo.endL (hk1.trans hks.symm) hH (hk2.le hle) (SlV.le hk3 hle) hr2 hC2)) ((Zv∘Zbs∘Zv∘Zi∘Za∘Zk) ?_);refine z7 (cx (bs:=bs) (fu:=true) hbb Z Z Z Z Z Z) Z (Zk (h:=?_));refine z7 (cx (bs:=bs) (fu:=false) hbb Z Z Z Z Z Z) Z (z7 (Dg Z Z Z Z (nf Z)) Z ((Zi∘Za) ?_));refine z71 L Z (fun u H hH hle=>hli u H hH (hs1.le.trans hle)) ?_;refine(Zi∘Ze) ?_;refine yl L (rs:=[.tmp 2]) Z (fun _ _ h=>h) hs1 fun u H hH hle=>?_;rfl
   ·obtain⟨y0,a0,e0⟩:=T0;dsimp only at he hr2;refine(Zd∘Zak∘Zl∘Zb8∘ZaW∘Zk) ?_;refine z7 (qe L Z Z (zp Z) Z Z Z (fun u H hH hle _ v1 h1=>Pe hT0 he hbb I hH h1)) Z ((Zcz∘Zh∘ZaR) ?_);refine(Zbb∘Zk) ?_;refine z7 (xl (φ:=RlP (y0,(a0,e0))) L rfl rfl (zp rfl) rfl rfl rfl RlP.mono (fun u H hH hle _ v1 h1=>hr2 u H hH v1 h1)) rfl ?_;refine ff 84 rfl fun v84 H1 hs1 h84=>?_;obtain⟨ks,lv,rfl,⟨kz,hk1,hk2,hk3⟩,hkk⟩:=h84;obtain⟨p8,c8,rfl⟩:=jx hk3;dsimp only;refine(Zcz∘Zb6) ?_;refine(Zbu∘Zb∘Za7∘Zu∘Za7∘Zi∘ZV∘Zb0∘Za∘ZY∘ZbI∘Za) ?_;refine z7 (u9 Z Z Z Z zl5 Z) Z (Za (h:=?_));refine z71 L Z (fun u H hH hle=>hli u H hH (hs1.le.trans hle)) ?_;refine(Zi∘Ze) ?_;refine yl L (rs:=[.tmp 2]) Z (fun _ _ h=>h) hs1 fun u H hH hle=>?_;rfl
end Go.V.L11
end
namespace Go.V.L11
open Go.ChangeShapes Go.WideShapes Go.ChangeAt Go.ChangeMaps Go.V Go.V.L2 Go.V.L4 Go.V.L6 Go.V.L10
abbrev B1P(H:Heap):List Value->Prop:=fun vs=>∃ v,vs=[v]/\SlD o3 1 (zrz.bytesOf o3) (LeafsOK [.i .u8]) H v
abbrev VvP(H:Heap):List (Nat×(List Value->Prop)):=[(1,LeafsOK [.i .u8]),(1,LeafsOK [.i .u64]),(2,LeafsOK [.i .u8,.i .u8]),(1,B1P H)]
section
variable {H:Type} {enc:TypeId×Value->H} {W:World} {held:Bool}
def zcq:Kp enc zrz W held 62 1 (B1P (hp W)):=C7 Tryz.underlying62 J (im (ls:=[.i .u8]) J J) T
def zcp:Kp enc zrz W held Sr 5 (Np (VvP (hp W))):=L5 Tryz.underlying66 (.cons rfl (im (ls:=[.i .u8]) J J) (.cons rfl (im (ls:=[.i .u64]) J J) (.cons rfl (im (ls:=[.i .u8,.i .u8]) J J) (.cons rfl zcq .nil)))) J
def reads_vs:Kp enc zrz W held 61 1 (fun vs=>∃ v,vs=[v]/\SlD Sr 5 (zrz.bytesOf Sr) (Np (VvP (hp W))) (hp W) v):=C7 Tryz.underlying61 J zcp T
end
def zme(h:SlD o3 1 (zrz.bytesOf o3) (LeafsOK [.i .u8]) H v):∃ bs:List Nat,BsV bs false v H/\∀ b∈bs,b<=255:=by
 obtain⟨cs,h1,h2,h3,h4⟩:=h
 obtain⟨l,g1,g2,g3⟩:=Pn (f:=fun b:Nat=>[Value.int .u8 (b:Int)]) (Ψ:=fun b:Nat=>b<=255) (fun c hc=>by
  obtain⟨z,rfl,w⟩:=Hr hc;obtain⟨n,rfl,b⟩:=Qd w;exact⟨n,rfl,b⟩) cs fun c hc=>(h1 c hc).2
 rw[g1,<-g2,<-List.map_eq_flatMap] at h4;exact⟨l,h4,g3⟩
def zlk{c:List Value}(h:Np (VvP H) c):∃ z:VZ,c=vzc z/\zkt z H:=by
 obtain⟨a1,b,rfl, -,h1,h⟩:=h;obtain⟨a2,b,rfl, -,h2,h⟩:=h;obtain⟨a3,b,rfl, -,h3,h⟩:=h;obtain⟨a4,b,rfl, -,⟨rv,rfl,hr⟩,rfl⟩:=h;obtain⟨z1,rfl,w1⟩:=Hr h1;obtain⟨z2,rfl,w2⟩:=Hr h2;obtain⟨z3,r,rfl,w3,h3⟩:=Yy h3;obtain⟨z4,r,rfl,w4,h3⟩:=Yy h3;obtain rfl:=Q9 h3;obtain⟨n1,rfl,b1⟩:=Qd w1;obtain⟨n3,rfl,b3⟩:=Qd w3;obtain⟨n4,rfl,b4⟩:=Qd w4;have hb:=Go.bounds_u64 w2;obtain⟨n2,rfl⟩:∃ n2:Nat,z2=(n2:Int):=⟨z2.toNat,by omega⟩
 obtain⟨bs,g1,g2⟩:=zme hr;exact⟨((n1,n2,n3,n4),bs,rv),rfl,b1,by dsimp only;omega,b3,b4,g2,g1⟩
def wiresLoad_in{W:World}{v:Value}(l0:SlD Sr 5 (zrz.bytesOf Sr) (Np (VvP (hp W))) (hp W) v)(hM:GlobM (hp W)):Ret zrz 5 [v] W (hp W) (fun v _=>v=.bool true):=by
 obtain⟨cs,h1,h2,h3,h4⟩:=l0;obtain⟨zs,e1,e2,e3⟩:=Pn (f:=vzc) (Ψ:=fun z:VZ=>zkt z (hp W)) (fun c hc=>zlk hc) cs fun c hc=>(h1 c hc).2;rw[e1,<-e2] at h4;exact Ge (by rw[e2];exact h2) (my _) hM e3 h4
end Go.V.L11
end
set_option maxRecDepth 20000
namespace Go.Proofs.YtefilnnomholbaaGreat.wiresLoad
open Go.ChangeShapes Go.WideShapes Go.ChangeAt Go.ChangeMaps Go.RowKit Go.V Go.V.L11
theorem own : ownKnob Tryz.prog.godebug = none := by kernel_rfl
theorem laidOut : laidOutB Tryz.prog = true := by kernel_rfl
theorem lr0 : Tryz.prog.readableRec 61 = true := by kernel_rfl
theorem lt0 : 61 < Tryz.prog.types.size := of_decide_eq_true (by kernel_rfl)
set_option maxRecDepth 100000 in
theorem lifted (os : Os) (started : os.Started) (H : Type) (enc : TypeId × Value → H) :
    ReturnsInHanded {} Tryz.checked os 5 .any (Rows.wiresLoadSpec.pre6 enc Tryz.prog Tryz.f5 Rows.wiresLoadRow.domain false) (Rows.wiresLoadSpec.post enc Tryz.prog Tryz.f5 false true false false) := by
  refine returnsInHanded_of_change_shaped (C := Tryz.checked) own started (by kernel_rfl) Tryz.func5
    (ChangeSpec.witness6 (enc := enc) (C := Tryz.checked) false ⟨#[], #[.slice none 0 0], []⟩ 8 (by kernel_rfl) (by kernel_rfl) (by kernel_rfl) (by kernel_rfl)) ?_
  intro W base args ds gs before hval0 hW hcnd hsz hsh _
  have hval : ∀ (j : Nat) t v, Tryz.f5.params[j]? = some t → args[j]? = some v → Value.okWide Tryz.prog W .any base t v := hval0
  have hW' := hW
  obtain ⟨p0, q, hA0, hV, rfl, hfz, hnd⟩ := hW
  have hA : DataW.TrodAll enc Tryz.prog W 0 (fun _ => true) true Tryz.f5.params.toList args.toList ds p0 := hA0
  rw [Tryz.params5] at hA hval hsz
  obtain ⟨v0, d0, rfl, rfl, h0⟩ := trodAll_one hA
  obtain ⟨rfl, rfl⟩ := trodVars_none hV
  clear hA0 hval0
  have l0 := open_slD Tryz.underlying61 reads_vs (hval 0 61 v0 rfl rfl) h0 (wt_at hsz 0 rfl rfl)
  obtain ⟨m0, hm0⟩ := Tryz.laysM145.s1_3 W hsh
  have hglob := GlobM.of_cell hm0
  have hplc := hW'.lt
  simp only [List.append_nil] at hW'
  have hlaw := Go.V.L11.wiresLoad_in l0 hglob
  unfold Ret at hlaw
  refine hlaw.mono fun e W' hp => ?_
  obtain ⟨v, rfl, H', g, rfl⟩ := hp
  refine ⟨_, rfl, _, _, _, [], p0 ++ ([]), [], hW', trodAll_cons_mk (shut_bool Tryz.underlying4 _) trodAll_mk0, ?_, rfl, g.below.frame _, fun h => by cases h⟩
  exact trodAll_cons_mk (Below.trod laidOut lr0 lt0 h0 g.below (fun x hx => hplc x (by simp [hx]))) trodAll_mk0
theorem j1 : (Rows.wiresLoadRow.inPlace == Tryz.prog.inPlace 5) = true := by kernel_rfl
theorem j2 : (Rows.wiresLoadRow.unfollowed == Tryz.prog.unfollowed 5) = true := by kernel_rfl
theorem j3 : (Rows.wiresLoadRow.recurses == Tryz.prog.recurses 5) = true := by kernel_rfl
theorem j4 : (Rows.wiresLoadRow.named == Tryz.prog.varsNamed 5) = true := by kernel_rfl
theorem j5 : Tryz.prog.stopsHeard = true := by kernel_rfl
theorem j6 : laidOutB Tryz.prog = true := by kernel_rfl
theorem joined : joinedFacts Tryz.prog 5 Tryz.f5 Rows.wiresLoadSpec Rows.wiresLoadRow = true := by
  unfold joinedFacts
  rw [j1, j2, j3, j4, j5, j6]
  kernel_rfl
theorem proved : Rows.WiresLoadSaid :=
  OpenClaim.holds_of_wide 5 Tryz.f5 rfl rfl rfl rfl rfl rfl rfl ⟨rfl, rfl, rfl, rfl, rfl⟩ rfl rfl rfl rfl rfl (by kernel_rfl) Tryz.func5 joined
    (of_decide_eq_true (by kernel_rfl)) (by unfold Func.isWrapper; first | (rw [if_pos (by decide +kernel)]; kernel_rfl) | (rw [if_neg (by decide +kernel)]; exact ⟨rfl, rfl⟩))
    (fun os started H enc _ => lifted os started H enc)
#print axioms proved
end Go.Proofs.YtefilnnomholbaaGreat.wiresLoad
