/- Texts on the way to WiresKnown, part 4: one behind another. -/
import Derived.Test.YtefilnnomholbaaGreatWiresKnownM3
import Derived.Lib.IndexAny
import Derived.WalkSmall
set_option linter.unusedVariables false
set_option linter.unusedSimpArgs false
set_option maxRecDepth 20000
set_option maxHeartbeats 8000000
set_option linter.defProp false
open Go.Proofs Go.RowKit
section
variable{α:Type}{K a b1 d e fr hi i j k lim lo m mid mm n rb sb wb:Nat}{l:List Go.V.L8.CH}{t:Go.V.L2.U}{c:Go.V.L8.CH}{s:ByteArray}{u w:Go.World}{B:Go.V.Heap}{args cap fst rest:List Go.Value}{P:Go.Program}{Q:Go.Exit->Go.Act->Go.World->Prop}{R:Go.V.L4.Rd}{b:List Go.V.L2.U}{C:Nat->Prop}{fr0 x:Int}{r:List Go.V.L2.U×Int}{fu:Bool}{pv sv v:Go.Value}{φ:Go.Value->Go.V.Heap->Prop}{κ:Go.V.Kap}{bs:List Nat}{F:Go.V.Fr}{O:Go.V.Boxes}{ops:Array Go.Oper}{ty:Go.TypeId}{pos:String}{aft:Array Go.Edge}{g:Option (Nat×Bool)}{St:Go.V.Kap->Go.Act->Go.World->Prop}{os:List Go.Oper}{A Y:Prop}
namespace Go.V
section
variable {β:Type} [DecidableEq α] [DecidableEq β] {k:α->β} {c:β->β->Int}
def Eqv(k:α->β)(S S':List α):Prop:=∀ t,S'.filter (fun x=>decide (k x=t))=S.filter (fun x=>decide (k x=t))
def Srt(k:α->β)(c:β->β->Int)(l:List α):Prop:=l.Pairwise fun x y=>¬ c (k y) (k x)<0
def Stb(k:α->β)(c:β->β->Int)(S S':List α):Prop:=Srt k c S'/\Eqv k S S'
omit [DecidableEq α] in
theorem Eqv.refl(S:List α):Eqv k S S:=fun _=>rfl
omit [DecidableEq α] in
theorem Eqv.trans{A B C:List α}(h1:Eqv k A B)(h2:Eqv k B C):Eqv k A C:=fun t=>(h2 t).trans (h1 t)
omit [DecidableEq α] in
theorem Eqv.app{A A' B B':List α}(h1:Eqv k A A')(h2:Eqv k B B'):Eqv k (A++B) (A'++B'):=fun t=>by rw[zot,zot,h1 t,h2 t]
omit [DecidableEq α] in
theorem Eqv.swap{A B:List α}(h:∀ a∈A,∀ b∈B,k a≠k b):Eqv k (A++B) (B++A):=fun t=>by
 rw[zot,zot];by_cases ha:∃ a∈A,k a=t
 ·obtain⟨a,ha,rfl⟩:=ha;have:B.filter (fun x=>decide (k x=k a))=[]:=zod.2 fun b hb e=>h a ha b hb (by simpa using e:k b=k a).symm;rw[this,mo,mh]
 ·have:A.filter (fun x=>decide (k x=t))=[]:=zod.2 fun a h1 e=>ha ⟨a,h1,by simpa using e⟩;rw[this,mo,mh]
theorem Eqv.count{S S':List α}(h:Eqv k S S')(x:α):S'.count x=S.count x:=by
 have e:∀ l:List α,(l.filter fun y=>decide (k y=k x)).count x=l.count x:=fun l=>List.count_filter (by simp);rw[<-e S',<-e S,h (k x)]
theorem Eqv.perm{S S':List α}(h:Eqv k S S'):S'.Perm S:=List.perm_iff_count.2 fun x=>h.count x
theorem Eqv.length{S S':List α}(h:Eqv k S S'):S'.length=S.length:=h.perm.length_eq
theorem Eqv.mem{S S':List α}(h:Eqv k S S'){x:α}:x∈S'↔x∈S:=h.perm.mem_iff
omit [DecidableEq α] [DecidableEq β] in
theorem lq{A B:List α}:Srt k c (A++B)↔Srt k c A/\Srt k c B/\∀ a∈A,∀ b∈B,¬ c (k b) (k a)<0:=zlt
omit [DecidableEq α] [DecidableEq β] in
theorem U2(ho:Ord3 c){a b:β}(h:c a b<0):b≠a:=fun e=>by subst e;exact ho.irr _ h
omit [DecidableEq α] in
theorem Mo(ho:Ord3 c){A B:List α}{x:α}(hs:Srt k c (A++B))(ha:∀ a∈A,¬ c (k x) (k a)<0)(hb:∀ b∈B,c (k x) (k b)<0):Stb k c (A++B++[x]) (A++x::B):=by
 obtain⟨s1,s2,s3⟩:=lq.1 hs;refine⟨lq.2 ⟨s1,mg.2 ⟨fun b h=>ho.asym (hb b h),s2⟩,fun a h b hm=>?_⟩,?_⟩
 ·rcases nw.1 hm with rfl | hm
  ·exact ha a h
  ·exact s3 a h b hm
 ·rw[mj]
  exact(Eqv.refl A).app (Eqv.swap (A:=B) (B:=[x]) fun b h y hy=>by
   simp at hy;subst hy;exact U2 ho (hb b h))
omit [DecidableEq α] in
theorem zdo(ho:Ord3 c){A B:List α}{x:α}(hs:Srt k c (A++B))(ha:∀ a∈A,c (k a) (k x)<0)(hb:∀ b∈B,¬ c (k b) (k x)<0):Stb k c (x::(A++B)) (A++x::B):=by
 obtain⟨s1,s2,s3⟩:=lq.1 hs;refine⟨lq.2 ⟨s1,mg.2 ⟨hb,s2⟩,fun a h b hm=>?_⟩,?_⟩
 ·rcases nw.1 hm with rfl | hm
  ·exact ho.asym (ha a h)
  ·exact s3 a h b hm
 ·have e:A++x::B=A++[x]++B:=by simp
  have e2:x::(A++B)=[x]++A++B:=by simp
  rw[e,e2]
  exact(Eqv.swap (A:=[x]) (B:=A) fun y hy a h=>by
   simp at hy;subst hy;exact U2 ho (ha a h)).app (Eqv.refl B)
theorem Yw(ho:Ord3 c){A1 A2 B1 B2 S1 S2:List α}(hA:Srt k c (A1++A2))(hB:Srt k c (B1++B2))(h12:∀ a∈A2,∀ b∈B1,c (k b) (k a)<0)(h21:∀ a∈A1,∀ b∈B2,¬ c (k b) (k a)<0)
  (h1:Stb k c (A1++B1) S1) (h2:Stb k c (A2++B2) S2):Stb k c (A1++A2++(B1++B2)) (S1++S2):=by
 obtain⟨a1,a2,a3⟩:=lq.1 hA;obtain⟨b1,b2,b3⟩:=lq.1 hB;refine⟨lq.2 ⟨h1.1,h2.1,fun x hx y hy=>?_⟩,?_⟩
 ·rcases mi.1 (h1.2.mem.1 hx) with hx | hx<;>rcases mi.1 (h2.2.mem.1 hy) with hy | hy
  ·exact a3 x hx y hy
  ·exact h21 x hx y hy
  ·exact ho.asym (h12 y hy x hx)
  ·exact b3 x hx y hy
 ·refine Eqv.trans ?_ (h1.2.app h2.2);have e1:A1++A2++(B1++B2)=A1++(A2++B1)++B2:=by simp
  have e2:A1++B1++(A2++B2)=A1++(B1++A2)++B2:=by simp
  rw[e1,e2];exact((Eqv.refl A1).app (Eqv.swap fun a ha b hb=>U2 ho (h12 a ha b hb))).app (Eqv.refl B2)
omit [DecidableEq α] [DecidableEq β] in
theorem bk(ho:Ord3 c){l:List α}(h:Srt k c l){x y:α}(hi:l[i]?=some x)(hj:l[j]?=some y)(hij:i<=j):¬ c (k y) (k x)<0:=by
 rcases m8 i j with h1 | h1
 ·obtain⟨hi',rfl⟩:=zmf.1 hi;obtain⟨hj',rfl⟩:=zmf.1 hj;exact zmy.1 h i j hi' hj' h1
 ·have:i=j:=I;subst this;rw[hi] at hj;cases hj;exact ho.irr _
end
end Go.V
namespace Go.V.L8
open Go.V.L2 Go.V.L3 Go.V.L6
abbrev zC:CH:=((n3,n3),false)
def Ve(l:List CH)(t:U)(z:CH):CH:=l.foldl (fun a c=>if c.1=t then c else a) z
def g0(l:List CH)(t:U):Option CH:=(l.filter fun c=>decide (c.1=t)).getLast?
def Vb(t:U):g0 [] t=none:=rfl
def gz(c:CH)(l:List CH)(t:U):g0 (c::l) t=(g0 l t).or (if c.1=t then some c else none):=by
 unfold g0;by_cases h:c.1=t
 ·rw[na h,zm0 (by simpa using h),List.getLast?_cons];cases (l.filter fun c=>decide (c.1=t)).getLast?<;>rfl
 ·rw[nc h,znp (by simpa using h)];cases (l.filter fun c=>decide (c.1=t)).getLast?<;>rfl
def f0(h:g0 l t=some c):c.1=t/\c∈l:=by
 have:=List.mem_of_getLast? h;rw[zl3] at this;exact⟨by simpa using this.2,this.1⟩
def cc{l:List CH}:g0 l t=none↔∀ c∈l,c.1≠t:=by
 unfold g0;rw[List.getLast?_eq_none_iff,zod];simp
def O6(l:List CH)(t:U)(z:CH):Ve l t z=(g0 l t).getD z:=by
 induction l generalizing z with
 | nil=>rfl
 | cons c r ih=>
  have:Ve (c::r) t z=Ve r t (if c.1=t then c else z):=rfl;rw[this,ih,gz]
  cases g0 r t with
  | some d=>rfl
  | none=>by_cases h:c.1=t<;>simp [h]
def K0{l:List CH}{z:CH}(h:∃ c∈l,c.1=t):g0 l t=some (Ve l t z):=by
 rw[O6]
 cases hk:g0 l t with
 | some d=>rfl
 | none=>obtain⟨c,hc,he⟩:=h;exact ni he (cc.1 hk c hc)
def B4(l:List CH):List CH:=(Ht (l.map (·.1))).map fun t=>Ve l t zC
def iw{l:List U}:t∈Ht l↔t∈l:=by unfold Ht;rw[B9];simp
def Hr(l:List U):Sst jm (Ht l):=A4 cmpT_ord Sst.nil
def Kq:c∈B4 l↔g0 l c.1=some c:=by
 unfold B4;rw[zlb];constructor
 ·rintro⟨t,ht,rfl⟩;rw[iw,zlb] at ht;have:=K0 (z:=zC) ht;rw[(f0 this).1];exact this
 ·intro h;have hm:=f0 h;exact⟨c.1,iw.2 (zlb.2 ⟨c,hm.2,rfl⟩),by rw[O6,h];rfl⟩
def Rh(l:List CH):(B4 l).map (·.1)=Ht (l.map (·.1)):=by
 unfold B4;rw[zm6]
 conv=>rhs;rw[<-znq (Ht (l.map (·.1)))]
 refine zn5 fun t ht=>?_;rw[iw,zlb] at ht;exact(f0 (K0 (z:=zC) ht)).1
def Lw(l:List CH):Prop:=Sst jm (l.map (·.1))
def Kp(l:List CH):Lw (B4 l):=by unfold Lw;rw[Rh];exact Hr _
def ob(h:Lw l):l.Pairwise fun a b=>a.1≠b.1:=by
 unfold Lw Sst at h;rw[zou] at h;exact h.imp fun h1=>cmpT_ord.ne h1
def Un{m:List CH}(hl:Lw l)(hm:Lw m)(h:∀ c,c∈l↔c∈m):l=m:=by
 have hk:l.map (·.1)=m.map (·.1):=dq cmpT_ord hl hm fun t=>by
  rw[zlb,zlb];exact⟨fun⟨c,hc,e⟩=>⟨c,(h c).1 hc,e⟩,fun⟨c,hc,e⟩=>⟨c,(h c).2 hc,e⟩⟩
 have uni:∀ {l:List CH},Lw l->∀ a∈l,∀ b∈l,a.1=b.1->a=b:=fun {l} hn a ha b hb e=>by
  by_cases hab:a=b
  ·exact hab
  ·exfalso;obtain⟨i,hi⟩:=zl0 ha;obtain⟨j,hj⟩:=zl0 hb;obtain⟨hi',rfl⟩:=zmf.1 hi;obtain⟨hj',rfl⟩:=zmf.1 hj;have hp:=zmy.1 (ob hn);rcases znb i j with h | h | h
   ·exact hp i j hi' hj' h e
   ·subst h;exact hab rfl
   ·exact hp j i hj' hi' h e.symm
 have hlen:l.length=m.length:=by rw[<-mn (f:=(·.1)),hk,mn]
 refine List.ext_getElem hlen fun i h1 h2=>?_
 have e:l[i].1=m[i].1:=by
  have:=nh (·[i]?) hk;simp only[zlx,zlq h1,zlq h2,znc,Option.some.injEq] at this;exact this
 exact uni hm _ ((h _).1 (List.getElem_mem h1)) _ (List.getElem_mem h2) e
def c8:List CH->List CH
 | []=>[]
 | [c]=>[c]
 | c::d::r=>if jm c.1 d.1=0 then c8 (d::r) else c::c8 (d::r)
def Rn(h:l[i]?=some c):c8 (l.drop i)=(match l[i+1]? with | none=>[c] | some d=>if jm c.1 d.1=0 then [] else [c])++c8 (l.drop (i+1)):=by
 have h1:l.drop i=c::l.drop (i+1):=eo h;rw[h1]
 cases h2:l[i+1]? with
 | none=>
  have:l.drop (i+1)=[]:=zlk (by simpa using h2);rw[this];rfl
 | some d=>
  have h3:l.drop (i+1)=d::l.drop (i+1+1):=eo h2;rw[h3];show(if jm c.1 d.1=0 then _ else _)=(if jm c.1 d.1=0 then _ else _)++_;split<;>rfl
def D4:∀ {S:List CH},Srt (·.1) jm S->(∀ c∈c8 S,g0 S c.1=some c)/\(∀ x∈S,∃ c∈c8 S,c.1=x.1)/\Lw (c8 S)
 | [],_=>⟨fun c hc=>(by cases hc),fun c hc=>(by cases hc),Sst.nil⟩
 | [c],_=>by
  have e:c8 [c]=[c]:=rfl;rw[e];refine⟨fun d hd=>?_,fun x hx=>⟨x,hx,rfl⟩,zmc _ _⟩;rw[mz] at hd;subst hd;rw[gz,na rfl];rfl
 | c::d::r,h=>by
  obtain⟨h1,h2⟩:=mg.1 h;obtain⟨g1,g2,g3⟩:=D4 (S:=d::r) h2;have e:c8 (c::d::r)=if jm c.1 d.1=0 then c8 (d::r) else c::c8 (d::r):=rfl
  by_cases h0:jm c.1 d.1=0
  ·rw[e,na h0];have hcd:=cmpT_ord.eq _ _ h0;refine⟨fun x hx=>by rw[gz,g1 x hx];rfl,fun x hx=>?_,g3⟩;rcases nw.1 hx with rfl | hx
   ·obtain⟨y,hy,e⟩:=g2 d (mb ..);exact⟨y,hy,e.trans hcd.symm⟩
   ·exact g2 x hx
  ·rw[e,nc h0]
   have hlt:∀ y∈d::r,jm c.1 y.1<0:=fun y hy=>by
    have hcd:jm c.1 d.1<0:=by
     have h3:=h1 d (mb ..);have:=cmpT_ord.anti c.1 d.1;dsimp only at h3;omega
    rcases nw.1 hy with rfl | hy
    ·exact hcd
    ·have h3:=(mg.1 h2).1 y hy;dsimp only at h3;by_cases h5:jm d.1 y.1<0
     ·exact cmpT_ord.tr hcd h5
     ·have h6:jm d.1 y.1=0:=by have:=cmpT_ord.anti d.1 y.1;omega
      rw[<-cmpT_ord.eq _ _ h6];exact hcd
   refine⟨fun x hx=>?_,fun x hx=>?_,?_⟩
   ·rcases nw.1 hx with rfl | hx
    ·rw[gz,na rfl,cc.2 fun y hy e=>cmpT_ord.irr x.1 (by rw[<-e];exact ni (hlt y hy) (by rw[e];exact cmpT_ord.irr _))];rfl
    ·rw[gz,g1 x hx];rfl
   ·rcases nw.1 hx with rfl | hx
    ·exact⟨x,mb ..,rfl⟩
    ·obtain⟨y,hy,e⟩:=g2 x hx;exact⟨y,mc _ hy,e⟩
   ·unfold Lw;rw[mq];refine mg.2 ⟨fun t ht=>?_,g3⟩;obtain⟨y,hy,rfl⟩:=zlb.1 ht;exact hlt y (f0 (g1 y hy)).2
def Vk{S:List CH}(h:Stb (·.1) jm l S):c8 S=B4 l:=by
 obtain⟨g1,g2,g3⟩:=D4 h.1;have hK:∀ t,g0 S t=g0 l t:=fun t=>by unfold g0;rw[h.2 t]
 refine Un g3 (Kp l) fun c=>?_;rw[Kq];constructor
 ·exact fun hc=>by rw[<-hK];exact g1 c hc
 ·intro hc;rw[<-hK] at hc;obtain⟨d,hd,e⟩:=g2 c (f0 hc).2;have:=g1 d hd;rw[e,hc] at this;cases this;exact hd
end Go.V.L8
namespace Go.V.L11
open Go.V.L2 Go.V.L4 Go.V.L8
def _root_.Ze1(t:Wr Y->A:=by intro h;refine zh (yl (cs:=[_,_,_,_,_,_,_]) Z Z zj9 Z Z) Z ?_;exact h.1)(h:Y):A:=t ⟨h⟩
def prB(c:UInt8)(b:ByteArray):CH×Int:=if c=43\/c=45 then (if (ptA b).2≠0 then (zC,(ptA b).2) else (((ptA b).1,decide (c=45)),0)) else (zC,5)
def prC(s:ByteArray):CH×Int:=match s.data.toList with
 | []=>(zC,5)
 | c::l=>prB c ⟨l.toArray⟩
def zab(c:UInt8)(b:ByteArray):prC (⟨#[c]⟩++b)=prB c b:=by
 unfold prC;have e:(⟨#[c]⟩++b:ByteArray).data.toList=c::b.data.toList:=by rw[kg];rfl
 rw[e]
def Yt(s:ByteArray):s=⟨#[]⟩\/∃ c b,s=⟨#[c]⟩++b:=by
 cases h:s.data.toList with
 | nil=>exact .inl (wn h)
 | cons c l=>exact .inr ⟨c,⟨l.toArray⟩,wn (by rw[kg,h];rfl)⟩
attribute [local irreducible] V N X VO Par StepOK Has Ret RetL RetO RetT kr RetX RetY Src
def zd3(hs:s.size<=1000000)(hB:zpk B w)(hM:GlobM B):
  Ret zpl 65 [.string s] w B (fun v _=>v=.tuple #[cvC (prC s).1,.int .i64 (prC s).2]):=by
 rcases Yt s with rfl | ⟨c,b,rfl⟩
 ·refine yf Tryz.func65 Z Tryz.ntmps65 (np Z) hB ((Zaj∘ZaC) ?_);refine z8 (Fo Z Z Z Z (nf Z)) Z ((Zb6∘Zc1∘Zc1∘Zg∘ZbH∘ZcX∘Za0) ?_);refine ye1 L [.cell 2 42,.tmp 3] fun u H hH hle=>?_
  first | exact rfl | exact⟨_,qs rfl,rfl,rfl⟩
 ·rw[zab];have hsz:(⟨#[c]⟩++b:ByteArray).size=1+b.size:=by rw[m9];rfl
  have hne:(⟨#[c]⟩++b:ByteArray)≠⟨#[]⟩:=fun e=>by rw[e] at hsz;have:(⟨#[]⟩:ByteArray).size=0:=rfl;omega
  have hc:(⟨#[c]⟩++b:ByteArray)[0]?=some c:=by
   show(⟨#[c]⟩++b:ByteArray).data[0]?=some c;rw[<-zn2,kg];rfl
  have x2:(⟨#[c]⟩++b:ByteArray).extract 1 (⟨#[c]⟩++b:ByteArray).size=b:=by
   have:=bg ⟨#[c]⟩ b ⟨#[]⟩ 1 (⟨#[c]⟩++b:ByteArray).size rfl (by rw[hsz];rfl);rw[show(⟨#[c]⟩++b++⟨#[]⟩:ByteArray)=⟨#[c]⟩++b from wn (by simp [kg])] at this;exact this
  generalize (⟨#[c]⟩++b:ByteArray)=s at hs hsz hne hc x2;have hb:b.size<=1000000:=I;obtain⟨t,e,ht⟩:∃ t e,ptA b=(t,e):=⟨_,_,rfl⟩
  have h255:=zdc c;by_cases h43:c=43
  ·subst h43;by_cases h0:e=0
   ·subst h0;refine yf Tryz.func65 Z Tryz.ntmps65 (np Z) hB ((Zaj∘ZaC∘ZdB∘Zb∘Zaq∘Zed∘Zbr∘Zbd∘Zu) ?_);refine z8 (k8 L (kh:=.i64) (ph:=0) 1 _ Z Z Z Z ⟨rfl,rfl⟩ Z I I x2) Z (z81 L Z (fun u H hH hle=>d6 ht hb hH (hM.mono hle)) ?_);refine(Zbv∘Zi∘Z2∘ZaE∘Zd1∘ZdS∘Zj) ?_;refine zh (Bt L Z Z Z E) Z (zh (yh Z Z Z Z Z) Z ((Ze1∘ZcO∘Za3) ?_));refine ye1 L [.cell 2 42,.tmp 3] fun u H hH hle=>?_;unfold prB;rw[na (.inl rfl),ht,nc (by simp)]
    first | exact rfl | exact⟨_,qs rfl,rfl,rfl⟩
   ·refine yf Tryz.func65 Z Tryz.ntmps65 (np Z) hB ((Zaj∘ZaC∘ZdB∘Zb∘Zaq∘Zed∘Zbr∘Zbd∘Zu) ?_);refine z8 (k8 L (kh:=.i64) (ph:=0) 1 _ Z Z Z Z ⟨rfl,rfl⟩ Z I I x2) Z (z81 L Z (fun u H hH hle=>d6 ht hb hH (hM.mono hle)) ?_);refine(Zbv∘Zi∘Z2∘Zao∘ZY∘ZcX∘Za∘Za0) ?_;refine ye1 L [.cell 2 42,.tmp 3] fun u H hH hle=>?_;unfold prB;rw[na (.inl rfl),ht,na (by exact h0)]
    first | exact rfl | exact⟨_,qs rfl,rfl,rfl⟩
  ·have hx43:(c.toNat:Int)≠43:=fun e=>h43 (zok.1 (by show c.toNat=43;omega));by_cases h45:c=45
   ·subst h45;by_cases h0:e=0
    ·subst h0;refine yf Tryz.func65 Z Tryz.ntmps65 (np Z) hB ((Zaj∘ZaC∘ZdB∘Zb∘Zaq∘Zco∘Zb∘Zaq∘Zed∘Zg∘Zbd∘Zu) ?_);refine z8 (k8 L (kh:=.i64) (ph:=0) 1 _ Z Z Z Z ⟨rfl,rfl⟩ Z I I x2) Z (z81 L Z (fun u H hH hle=>d6 ht hb hH (hM.mono hle)) ?_);refine(Zbv∘Zi∘Z2∘ZaE∘Zd1∘ZdS∘Zj) ?_;refine zh (Bt L Z Z Z E) Z (zh (yh Z Z Z Z Z) Z ((Ze1∘ZcO∘Za3) ?_));refine ye1 L [.cell 2 42,.tmp 3] fun u H hH hle=>?_;unfold prB;rw[na (.inr rfl),ht,nc (by simp)]
     first | exact rfl | exact⟨_,qs rfl,rfl,rfl⟩
    ·refine yf Tryz.func65 Z Tryz.ntmps65 (np Z) hB ((Zaj∘ZaC∘ZdB∘Zb∘Zaq∘Zco∘Zb∘Zaq∘Zed∘Zg∘Zbd∘Zu) ?_);refine z8 (k8 L (kh:=.i64) (ph:=0) 1 _ Z Z Z Z ⟨rfl,rfl⟩ Z I I x2) Z (z81 L Z (fun u H hH hle=>d6 ht hb hH (hM.mono hle)) ?_);refine(Zbv∘Zi∘Z2∘Zao∘ZY∘ZcX∘Za∘Za0) ?_;refine ye1 L [.cell 2 42,.tmp 3] fun u H hH hle=>?_;unfold prB;rw[na (.inr rfl),ht,na (by exact h0)]
     first | exact rfl | exact⟨_,qs rfl,rfl,rfl⟩
   ·have hx45:(c.toNat:Int)≠45:=fun e=>h45 (zok.1 (by show c.toNat=45;omega));refine yf Tryz.func65 Z Tryz.ntmps65 (np Z) hB ((Zaj∘ZaC∘ZdB∘Zb∘Zaq∘Zco∘Zb∘Zaq∘Zco∘Zg∘Zg∘ZbH∘ZcX∘Za0) ?_);refine ye1 L [.cell 2 42,.tmp 3] fun u H hH hle=>?_;unfold prB;rw[nc (fun h=>h.elim h43 h45)]
    first | exact rfl | exact⟨_,qs rfl,rfl,rfl⟩
end Go.V.L11
namespace Go.V
section
variable {β:Type} [DecidableEq α] [DecidableEq β] {k:α->β} {c:β->β->Int}
theorem Oe(ho:Ord3 c):∀ {S S':List α},Srt k c S->Srt k c S'->Eqv k S S'->S'=S
 | [],S',_,_,h=>m6 (by rw[h.length];rfl)
 | x::r,[],_,_,h=>by have:=h.length;simp at this
 | x::r,y::r',h1,h2,h=>by
  have hxy:k x=k y:=by
   have hx:x∈y::r':=h.mem.2 (mb ..);have hy:y∈x::r:=h.mem.1 (mb ..)
   have e1:¬ c (k x) (k y)<0:=by
    rcases nw.1 hx with e | hx
    ·rw[e];exact ho.irr _
    ·exact(mg.1 h2).1 x hx
   have e2:¬ c (k y) (k x)<0:=by
    rcases nw.1 hy with e | hy
    ·rw[e];exact ho.irr _
    ·exact(mg.1 h1).1 y hy
   have:=ho.anti (k x) (k y);exact ho.eq _ _ I
  have hf:=h (k x);rw[zm0 (by simp [hxy]),zm0 (by simp)] at hf;have hxe:y=x:=(List.cons.inj hf).1;subst hxe
  have ht:Eqv k r r':=fun t=>by
   have:=h t;by_cases e:k y=t
   ·rw[zm0 (by simpa using e),zm0 (by simpa using e)] at this;exact(List.cons.inj this).2
   ·rwa [znp (by simpa using e),znp (by simpa using e)] at this
  rw[Oe ho (mg.1 h1).2 (mg.1 h2).2 ht]
omit [DecidableEq α] in
theorem Eqv.symm{A B:List α}(h:Eqv k A B):Eqv k B A:=fun t=>(h t).symm
theorem Yu(ho:Ord3 c){l S S':List α}(h:Stb k c l S)(h':Stb k c l S'):S'=S:=Oe ho h.1 h'.1 (h.2.symm.trans h'.2)
def ze8(k:α->β)(c:β->β->Int)(x:α):List α->List α
 | []=>[x]
 | y::l=>if c (k x) (k y)<0 then x::y::l else y::ze8 k c x l
omit [DecidableEq α] [DecidableEq β] in
theorem D6(ho:Ord3 c){x:α}:∀ {S:List α},Srt k c S->∃ A B,S=A++B/\ze8 k c x S=A++x::B/\(∀ a∈A,¬ c (k x) (k a)<0)/\∀ b∈B,c (k x) (k b)<0
 | [],_=>⟨[],[],rfl,rfl,fun a h=>(by cases h),fun a h=>(by cases h)⟩
 | y::l,h=>by
  obtain⟨h1,h2⟩:=mg.1 h;by_cases hxy:c (k x) (k y)<0
  ·refine⟨[],y::l,rfl,na hxy,fun a h=>(by cases h),fun b hb=>?_⟩;rcases nw.1 hb with rfl | hb
   ·exact hxy
   ·have h3:=h1 b hb;have:=ho.anti (k b) (k y);by_cases h4:c (k y) (k b)<0
    ·exact ho.tr hxy h4
    ·rw[<-ho.eq (k y) (k b) I];exact hxy
  ·obtain⟨A,B,e1,e2,e3,e4⟩:=D6 ho (x:=x) h2;refine⟨y::A,B,by rw[e1];rfl,?_,fun a ha=>?_,e4⟩
   ·rw[ze8,nc hxy,e2];rfl
   ·rcases nw.1 ha with rfl | ha
    ·exact hxy
    ·exact e3 a ha
def C6(k:α->β)(c:β->β->Int)(l:List α):List α:=l.foldl (fun S x=>ze8 k c x S) []
omit [DecidableEq α] [DecidableEq β] in
theorem zdr:Srt k c []:=List.Pairwise.nil
omit [DecidableEq α] in
theorem Yv(ho:Ord3 c){l S:List α}{x:α}(h:Stb k c l S):Stb k c (l++[x]) (ze8 k c x S):=by
 obtain⟨A,B,e1,e2,e3,e4⟩:=D6 ho (x:=x) h.1;have h1:=h.1;rw[e1] at h1;have h2:=Mo ho h1 e3 e4;rw[e2];rw[<-e1] at h2;exact⟨h2.1,(h.2.app (Eqv.refl [x])).trans h2.2⟩
omit [DecidableEq α] in
theorem ue(ho:Ord3 c)(l:List α):Stb k c l (C6 k c l):=by
 suffices ∀ (r l S:List α),Stb k c l S->Stb k c (l++r) (r.foldl (fun S x=>ze8 k c x S) S) by
  have:=this l [] [] ⟨zdr,Eqv.refl _⟩;exact this
 intro r
 induction r with
 | nil=>intro l S h;rw[mo];exact h
 | cons x r ih=>
  intro l S h;have:=ih (l++[x]) (ze8 k c x S) (Yv ho h);rw[mj] at this;exact this
theorem Dl(ho:Ord3 c){l S:List α}(h:Stb k c l S):S=C6 k c l:=Yu ho (ue ho l) h
theorem Od(ho:Ord3 c)(l:List α):(C6 k c l).length=l.length:=(ue (k:=k) ho l).2.length
omit [DecidableEq α] [DecidableEq β] in
theorem Yy:C6 k c []=[]:=rfl
theorem Yx(ho:Ord3 c){l:List α}(h:Srt k c l):C6 k c l=l:=(Dl ho ⟨h,Eqv.refl l⟩).symm
theorem Yz(ho:Ord3 c)(X Y:List α):C6 k c (C6 k c X++C6 k c Y)=C6 k c (X++Y):=
 Dl ho ⟨(ue ho _).1,(((ue ho X).2.app (ue ho Y).2)).trans (ue ho _).2⟩
theorem ze7(ho:Ord3 c){X A B:List α}{x:α}(h:A++B=C6 k c X)(hb:∀ b∈B,c (k x) (k b)<0)(ha:∀ y,A.getLast?=some y->¬ c (k x) (k y)<0):A++x::B=C6 k c (X++[x]):=by
 have hs:=(ue (k:=k) ho X).1;rw[<-h] at hs
 have hA:∀ a∈A,¬ c (k x) (k a)<0:=fun a ham=>by
  rcases zo8 A with e | ⟨A',y,rfl⟩
  ·subst e;cases ham
  ·have h1:=ha y (by simp);simp only[zoo,mi,mz] at ham;rcases ham with ham | rfl
   ·have h2:=(lq.1 hs).1;simp only[zoo] at h2;have h3:=(lq.1 h2).2.2 a ham y (by simp);have e1:=ho.anti (k y) (k a);intro h4;refine h1 ?_;by_cases h5:c (k a) (k y)<0
    ·exact ho.tr h4 h5
    ·rw[<-ho.eq (k a) (k y) I];exact h4
   ·exact h1
 have h1:=Mo ho hs hA hb;rw[h] at h1;exact Dl ho ⟨h1.1,((ue (k:=k) ho X).2.app (Eqv.refl [x])).trans h1.2⟩
def chS(k:α->β)(c:β->β->Int)(n:Nat):Nat->List α->List α
 | 0,_=>[]
 | f+1,l=>if l=[] then [] else C6 k c (l.take n)++chS k c n f (l.drop n)
omit [DecidableEq α] [DecidableEq β] in
theorem ao(n f:Nat):chS k c n f []=[]:=by cases f<;>simp [chS]
omit [DecidableEq α] [DecidableEq β] in
theorem Pq{n:Nat}(hn:0<n):∀ {f g:Nat} {l:List α},l.length<=f->l.length<=g->chS k c n f l=chS k c n g l
 | 0,g,l,hf,_=>by obtain rfl:l=[]:=m6 I;rw[ao,ao]
 | f+1,0,l,_,hg=>by obtain rfl:l=[]:=m6 I;rw[ao,ao]
 | f+1,g+1,l,hf,hg=>by
  by_cases h:l=[]
  ·subst h;rw[ao,ao]
  ·rw[chS,chS,nc h,nc h];have:0<l.length:=znm.2 h;rw[Pq hn (f:=f) (g:=g) (by rw[zlc];omega) (by rw[zlc];omega)]
def chL(k:α->β)(c:β->β->Int)(n:Nat)(l:List α):List α:=chS k c n l.length l
omit [DecidableEq α] [DecidableEq β] in
theorem Gt(hn:0<n)(l:List α):chL k c n l=C6 k c (l.take n)++chL k c n (l.drop n):=by
 unfold chL;by_cases h:l=[]
 ·subst h;simp [ao,Yy]
 ·have:0<l.length:=znm.2 h;obtain⟨m,hm⟩:∃ m,l.length=m+1:=⟨l.length-1,by omega⟩
  rw[hm,chS,nc h,Pq hn (f:=m) (g:=(l.drop n).length) (by rw[zlc];omega) (ns _)]
omit [DecidableEq α] [DecidableEq β] in
theorem Nq(n:Nat):chL k c n []=[]:=ao _ _
omit [DecidableEq α] [DecidableEq β] in
theorem zfo(hn:0<n){l:List α}(h:l.length<=n):chL k c n l=C6 k c l:=by
 rw[Gt hn,zle h,zlk h,Nq,mo]
theorem Xe(ho:Ord3 c){n:Nat}(hn:0<n):∀ (m:Nat) {l:List α},l.length<=m->(chL k c n l).length=l.length
 | 0,l,h=>by obtain rfl:l=[]:=m6 I;rw[Nq]
 | m+1,l,h=>by
  by_cases h0:l=[]
  ·subst h0;rw[Nq]
  ·have:0<l.length:=znm.2 h0;rw[Gt hn,nr,Od ho,Xe ho hn m (by rw[zlc];omega),<-nr,zli]
end
end Go.V
namespace Go.V.L8
open Go.V Go.V.L2 Go.V.L3 Go.V.L6
def _root_.Zm(t:Wr Y->A:=by intro h;refine zh (qo L _ Z Z Z Z I) Z ?_;exact h.1)(h:Y):A:=t ⟨h⟩
def _root_.Zcs(t:Wr Y->A:=by exact fun h=>(Zbo∘ZaW) h.1)(h:Y):A:=t ⟨h⟩
def _root_.ZbP(t:Wr Y->A:=by exact fun h=>(Zcs∘Zm) h.1)(h:Y):A:=t ⟨h⟩
def Co(l:List CH):(l.flatMap ccs).length=l.length*7:=ig Xf l
def Pn(l:List CH):(l.flatMap ccs).all v9=true:=by
 induction l with
 | nil=>rfl
 | cons x l ih=>rw[zly,List.all_append,ih];rfl
abbrev ch7(c:CH):List Value:=[.string c.1.1.1.1,.string c.1.1.1.2,.string c.1.1.2,.string c.1.2.1.1,.string c.1.2.1.2,.string c.1.2.2,.bool c.2]
def ww{t:CH}(h:l[i]?=some t)(off:Nat)(ho:off=i*7):∃ r,(l.flatMap ccs++rest).drop off=ch7 t++r:=by
 subst ho;have h1:((l.flatMap ccs).drop (i*7)).take 7=ch7 t:=C8 h;have h2:=get_lt h;refine⟨((l.flatMap ccs).drop (i*7)).drop 7++rest,?_⟩;rw[List.drop_append_of_le_length (by rw[Co];exact zmv _ I),<-mj];congr 1;rw[<-h1,zli]
def f6{ls:List CH}{z:CH}(h:k<ls.length)(off:Nat)(ho:off=k*7):(ls.flatMap ccs++rest).take off++(ch7 z++(ls.flatMap ccs++rest).drop (off+7))=(ls.set k z).flatMap ccs++rest:=by
 subst ho;have e1:ls=ls.take k++(ls[k]::ls.drop (k+1)):=by rw[List.getElem_cons_drop,zli]
 have hk:(ls.take k).length=k:=by rw[mw];omega
 have e2:ls.set k z=ls.take k++(z::ls.drop (k+1)):=by
  conv=>lhs;rw[e1]
  rw[List.set_append_right _ _ I,hk,zmr];rfl
 rw[e2];generalize ls.take k=A at e1 hk;generalize ls.drop (k+1)=D at e1;generalize ls[k]=y at e1;subst e1;have hA:(A.flatMap ccs).length=k*7:=by rw[Co,hk]
 simp only[zlz,zly,mj];rw[zoj hA,show k*7+7=(A.flatMap ccs).length+7 by omega,<-zmu,zoi,show(ccs y++(D.flatMap ccs++rest)).drop 7=D.flatMap ccs++rest from List.drop_left' rfl];rfl
def f8{ls:List CH}(h:k<ls.length)(off:Nat)(ho:off=k*7):Nat.ble (off+7) (ls.flatMap ccs++rest).length=true:=zn3 (by rw[nr,Co];omega)
section
variable  {A zpi D:List α} {x y:α}
def Ae(h:A.length=i):(A++x::(zpi++y::D))[i]?=some x:=by subst h;simp
def Ad(h:A.length+1+zpi.length=j):(A++x::(zpi++y::D))[j]?=some y:=by
 subst h;have e:A++x::(zpi++y::D)=(A++x::zpi)++y::D:=by simp
 rw[e,zoq (by simp;omega)];simp;rw[show A.length+1+zpi.length-(A.length+(zpi.length+1))=0 by omega];rfl
def Mi(hi:A.length=i)(hj:A.length+1+zpi.length=j):((A++x::(zpi++y::D)).set i y).set j x=A++y::(zpi++x::D):=by
 subst hi hj;have e:(A++x::(zpi++y::D)).set A.length y=(A++y::zpi)++y::D:=by simp
 rw[e,List.set_append_right _ _ (by simp;omega)];simp;rw[show A.length+1+zpi.length-(A.length+(zpi.length+1))=0 by omega];rfl
def N8(hi:A.length=i)(hj:A.length+1+zpi.length=j):((A++x::(zpi++y::D)).set j x).set i y=A++y::(zpi++x::D):=by
 rw[List.set_comm _ _ I];exact Mi hi hj
end
attribute [local irreducible] V N X VO Par StepOK Has Ret RetL RetO RetT Src
def Ml{P X Q Y R:List CH}{b cap:Nat}(ha:P.length=a)(he:a+X.length+Q.length=e)(hx:X.length=n)(hy:Y.length=n)(hm:(P++(X++(Q++(Y++R)))).length=m)(hm1:m<=100000)(fv:Value)(hB:zpk B w)
  (hr:(xa b ((P++(X++(Q++(Y++R)))).flatMap ccs++rest) tyC).P B w C) (hC:ZCB C w B):
  kr zpl 319 [.slice (some ⟨b,0,none⟩) m cap,.int .i64 a,.int .i64 e,.int .i64 n,fv] w B C (xa b ((P++(Y++(Q++(X++R)))).flatMap ccs++rest) tyC):=by
 unfold kr;refine yr 900 (xa b ((P++(X++(Q++(Y++R)))).flatMap ccs++rest) tyC) Tryz.func319 Z Tryz.ntmps319 (np Z) hB hr hC ?_;rw[xb];simp only[nr] at hm;refine(ZL∘Zbt) ?_;refine xo (fun i:Nat=>[(0,.is (.slice (some ⟨b,0,none⟩) m cap)),(1,.is (.int .i64 a)),(2,.is (.int .i64 e)),(3,.is (.int .i64 n)),(10,.is (.int .i64 i)),(900,.own (xk b ((P++(Y.take i++(X.drop i++(Q++(X.take i++(Y.drop i++R)))))).flatMap ccs++rest) tyC))]) (fun i=>i<=n) (fun i=>n-i) 0 (mf _) ⟨Z,Z,Z,Z,Z,by simp only[zl2,zl5,mh];rfl,nm⟩ ?_;rintro i hi;by_cases hlt:i<n
 ·obtain⟨x,hxi⟩:=xw (l:=X) (show i<X.length by omega);obtain⟨y,hyi⟩:=xw (l:=Y) (show i<Y.length by omega)
  have e0:P++(Y.take i++(X.drop i++(Q++(X.take i++(Y.drop i++R)))))=(P++Y.take i)++x::((X.drop (i+1)++(Q++X.take i))++y::(Y.drop (i+1)++R)):=by
   rw[eo hxi,eo hyi];simp
  have e1:P++(Y.take (i+1)++(X.drop (i+1)++(Q++(X.take (i+1)++(Y.drop (i+1)++R)))))=(P++Y.take i)++y::((X.drop (i+1)++(Q++X.take i))++x::(Y.drop (i+1)++R)):=by
   rw[zls,zls,hxi,hyi];simp
  have l1:(P++Y.take i).length=a+i:=by rw[nr,mw];omega
  have l2:(P++Y.take i).length+1+(X.drop (i+1)++(Q++X.take i)).length=e+i:=by rw[l1,nr,nr,zlc,mw];omega
  have g1:=Ae (x:=x) (y:=y) (zpi:=X.drop (i+1)++(Q++X.take i)) (D:=Y.drop (i+1)++R) l1;have g2:=Ad (x:=x) (y:=y) (D:=Y.drop (i+1)++R) l2;have g3:=Mi (x:=x) (y:=y) (D:=Y.drop (i+1)++R) l1 l2;rw[e0];have hlen:((P++Y.take i)++x::((X.drop (i+1)++(Q++X.take i))++y::(Y.drop (i+1)++R))).length=m:=by rw[<-e0];simp only[nr,mw,zlc];omega
  generalize (P++Y.take i)++x::((X.drop (i+1)++(Q++X.take i))++y::(Y.drop (i+1)++R))=K at *;have h1:=get_lt g1;have h2:=get_lt g2;have q1:=ww (rest:=rest) g1 (0+(a+i)*7) I;have q2:=ww (rest:=rest) g2 (0+(e+i)*7) I;have s1:=f6 (rest:=rest) (z:=y) h1 (0+(a+i)*7) I;have b1:=f8 (rest:=rest) h1 (0+(a+i)*7) I;have h3:e+i<(K.set (a+i) y).length:=by rw[znd];exact h2
  have s2:=f6 (rest:=rest) (z:=x) h3 (0+(e+i)*7) I;have b2:=f8 (rest:=rest) h3 (0+(e+i)*7) I;rw[g3,<-e1] at s2;have a1:IntKind.i64.wrap ((a:Int)+(i:Int))=((a+i:Nat):Int):=yz I I;have a2:IntKind.i64.wrap ((e:Int)+(i:Int))=((e+i:Nat):Int):=yz I I;refine(Zh∘Z4∘Zb∘ZaH∘Zae∘Zam) ?_;refine qh (id:=3) [(200029,[900]),(200035,[900]),(100036,[900]),(100037,[900])] x8 T ((Zcs∘Zcs∘ZbP) ?_);refine qq (kj L (q:=900) (vs:=[_,_,_,_,_,_,_]) Z Z Z Z q2) Z Z (ZbP (h:=?_));refine qq (kj L (q:=900) (vs:=[_,_,_,_,_,_,_]) Z Z Z Z q1) Z Z (Zm (h:=?_));refine xl (yc L (q:=900) Z Z b1 Z s1) Z (Zm (h:=?_));refine xl (yc L (q:=900) Z Z b2 Z s2) Z ((ZbI∘ZaB∘Zq∘ZbR) ?_);exact ym (x:=i) (i+1) I I ⟨Z,Z,Z,Z,Z,Z,nm⟩
 ·obtain rfl:i=n:=by omega
  have t1:X.take i=X:=zle I;have t2:Y.take i=Y:=zle I;have t3:X.drop i=[]:=zlk I;have t4:Y.drop i=[]:=zlk I;rw[t1,t2,t3,t4];simp only[mh];refine(Zh∘Z4∘Zb∘Z0∘Za9∘Za2) ?_;exact xp L 900 (r:=xa b _ tyC) Z (fun _ _ h=>h) nq Z Z
end Go.V.L8
namespace Go.V.L8
open Go.V.L2 Go.V.L3 Go.V.L6
def _root_.Za6(t:Wr Y->A:=by intro h;refine z8 (yt Z Z Z Z E) Z ?_;exact h.1)(h:Y):A:=t ⟨h⟩
def _root_.ZeP(t:Wr Y->A:=by intro h;refine qh (id:=4) [(200026,[900]),(200031,[900])] x8 T ?_;exact h.1)(h:Y):A:=t ⟨h⟩
def _root_.ZJ(t:Wr Y->A:=by exact fun h=>(Zn∘Zm) h.1)(h:Y):A:=t ⟨h⟩
def _root_.Zax(t:Wr Y->A:=by exact fun h=>(Zb∘Za6) h.1)(h:Y):A:=t ⟨h⟩
def _root_.ZbC(t:Wr Y->A:=by exact fun h=>(Zn∘Zdd) h.1)(h:Y):A:=t ⟨h⟩
def stC(l:List CH):List CH:=C6 (fun c=>c.1) jm l
def cu(l:List CH):(stC l).length=l.length:=Od cmpT_ord l
attribute [local irreducible] V N X VO Par StepOK Has Ret RetL RetO RetT kr Src
def zdz{P X Y R:List CH}{b cap:Nat}(ha:P.length=a)(hmm:a+X.length=mm)(he:mm+Y.length=e)(hx:0<X.length)(hy:0<Y.length)(hm:(P++(X++(Y++R))).length=m)(hm1:m<=100000)(fv:Value)(hB:zpk B w)
  (hr:(xa b ((P++(X++(Y++R))).flatMap ccs++rest) tyC).P B w C) (hC:ZCB C w B):
  kr zpl 318 [.slice (some ⟨b,0,none⟩) m cap,.int .i64 a,.int .i64 mm,.int .i64 e,fv] w B C (xa b ((P++(Y++(X++R))).flatMap ccs++rest) tyC):=by
 unfold kr;refine yr 900 (xa b ((P++(X++(Y++R))).flatMap ccs++rest) tyC) Tryz.func318 Z Tryz.ntmps318 (np Z) hB hr hC ?_;rw[xb];simp only[nr] at hm;have s1:IntKind.i64.wrap ((mm:Int)-(a:Int))=(X.length:Int):=yz I I |>.trans I;have s2:IntKind.i64.wrap ((e:Int)-(mm:Int))=(Y.length:Int):=yz I I |>.trans I;refine(ZL∘Zax∘Zas∘Zax∘Zc∘Zam) ?_
 refine xo (fun s:(List CH×List CH)×(List CH×List CH)=>[(0,.is (.slice (some ⟨b,0,none⟩) m cap)),(2,.is (.int .i64 mm)),(4,.is fv),(10,.is (.int .i64 s.1.2.length)),(11,.is (.int .i64 s.2.1.length)),(900,.own (xk b ((P++(s.1.1++(s.1.2++(s.2.1++(s.2.2++R))))).flatMap ccs++rest) tyC))])
  (fun s=>a+s.1.1.length+s.1.2.length=mm/\mm+s.2.1.length+s.2.2.length=e/\0<s.1.2.length/\0<s.2.1.length/\s.1.1++(s.2.1++(s.1.2++s.2.2))=Y++X) (fun s=>s.1.2.length+s.2.1.length) (([],X),(Y,[])) ⟨hmm,he,hx,hy,by simp⟩ ⟨rfl,rfl,rfl,rfl,rfl,rfl,nm⟩ ?_
 rintro⟨⟨D1,X1⟩,⟨Y1,D2⟩⟩ ⟨h1,h2,h3,h4,h5⟩;dsimp only at h1 h2 h3 h4 h5 |-;have hs1:IntKind.i64.wrap ((mm:Int)-(X1.length:Int))=((mm-X1.length:Nat):Int):=yz I I |>.trans I;by_cases heq:X1.length=Y1.length
 ·have e0:P++(D1++(X1++(Y1++(D2++R))))=(P++D1)++(X1++([]++(Y1++(D2++R)))):=by simp
  have e1:(P++D1)++(Y1++([]++(X1++(D2++R))))=P++(Y++(X++R)):=by
   have:Y++(X++R)=D1++(Y1++(X1++D2))++R:=by rw[h5];simp
   rw[this];simp
  have hlen:((P++D1)++(X1++([]++(Y1++(D2++R))))).length=m:=by simp only[nr,my];omega
  rw[e0];refine(Zh∘ZbK∘ZG∘Za9∘Za2∘Zbq∘ZK∘Zz∘Za6∘Zz) ?_;refine q0 (yq L 900 (xa b (((P++D1)++(Y1++([]++(X1++(D2++R))))).flatMap ccs++rest) tyC) (r:=xa b (((P++D1)++(X1++([]++(Y1++(D2++R))))).flatMap ccs++rest) tyC) Z Z Z Z Z (fun u H C hH _ hr hC=>(by have h:=Ml (cap:=cap) (a:=mm-X1.length) (e:=mm) (n:=X1.length) (by rw[nr];omega) (by simp only[my];omega) Z heq.symm hlen hm1 fv hH hr hC;exact h))) ?_;refine ZS (h:=?_);rw[e1];exact xp L 900 (r:=xa b _ tyC) Z (fun _ _ h=>h) nq Z Z
 ·by_cases hgt:Y1.length<X1.length
  ·have hs2:IntKind.i64.wrap ((X1.length:Int)-(Y1.length:Int))=((X1.drop Y1.length).length:Int):=yz I I |>.trans (by rw[zlc];omega);have lt:(X1.take Y1.length).length=Y1.length:=by rw[mw];omega
   have e0:P++(D1++(X1++(Y1++(D2++R))))=(P++D1)++(X1.take Y1.length++(X1.drop Y1.length++(Y1++(D2++R)))):=by
    conv=>lhs;rw[<-zli Y1.length X1]
    simp only[mj]
   have e1:(P++D1)++(Y1++(X1.drop Y1.length++(X1.take Y1.length++(D2++R))))=P++((D1++Y1)++(X1.drop Y1.length++(X1.take Y1.length++(D2++R)))):=by simp
   have hlen:((P++D1)++(X1.take Y1.length++(X1.drop Y1.length++(Y1++(D2++R))))).length=m:=by rw[<-e0];simp only[nr];omega
   have hld:(X1.drop Y1.length).length=X1.length-Y1.length:=zlc;rw[e0];refine(Zh∘ZbK∘Zco∘Zcd∘Zcq∘ZN∘Zr∘Z9∘Zz∘Za6∘Zz) ?_;refine q0 (yq L 900 (xa b (((P++D1)++(Y1++(X1.drop Y1.length++(X1.take Y1.length++(D2++R))))).flatMap ccs++rest) tyC) (r:=xa b (((P++D1)++(X1.take Y1.length++(X1.drop Y1.length++(Y1++(D2++R))))).flatMap ccs++rest) tyC) Z Z Z Z Z (fun u H C hH _ hr hC=>(by have h:=Ml (cap:=cap) (a:=mm-X1.length) (e:=mm) (n:=Y1.length) (by rw[nr];omega) I lt Z hlen hm1 fv hH hr hC;exact h))) ?_;refine(Z1∘ZY∘Zax∘Zal) ?_;rw[e1]
   exact ym (x:=((D1,X1),(Y1,D2))) ((D1++Y1,X1.drop Y1.length),(X1.take Y1.length,D2)) ⟨by dsimp only;rw[List.length_append];omega,by dsimp only;omega,by dsimp only;omega,by dsimp only;omega,by
    dsimp only;rw[<-h5]
    conv=>rhs;rw[<-zli Y1.length X1]
    simp only[List.append_assoc]⟩ M ⟨rfl,rfl,rfl,rfl,by dsimp only;rw[lt];rfl,rfl,trivial⟩
  ·have hs2:IntKind.i64.wrap ((Y1.length:Int)-(X1.length:Int))=((Y1.take (Y1.length-X1.length)).length:Int):=yz I I |>.trans (by rw[mw];omega);have hs3:IntKind.i64.wrap ((mm:Int)+(Y1.length:Int))=((mm+Y1.length:Nat):Int):=yz I I;have hs4:IntKind.i64.wrap (((mm+Y1.length:Nat):Int)-(X1.length:Int))=((mm+Y1.length-X1.length:Nat):Int):=yz I I |>.trans I;have lt:(Y1.take (Y1.length-X1.length)).length=Y1.length-X1.length:=by rw[mw];omega
   have ld:(Y1.drop (Y1.length-X1.length)).length=X1.length:=by rw[zlc];omega
   have e0:P++(D1++(X1++(Y1++(D2++R))))=(P++D1)++(X1++(Y1.take (Y1.length-X1.length)++(Y1.drop (Y1.length-X1.length)++(D2++R)))):=by
    conv=>lhs;rw[<-zli (Y1.length-X1.length) Y1]
    simp only[mj]
   have e1:(P++D1)++(Y1.drop (Y1.length-X1.length)++(Y1.take (Y1.length-X1.length)++(X1++(D2++R))))=P++(D1++(Y1.drop (Y1.length-X1.length)++(Y1.take (Y1.length-X1.length)++((X1++D2)++R)))):=by simp
   have hlen:((P++D1)++(X1++(Y1.take (Y1.length-X1.length)++(Y1.drop (Y1.length-X1.length)++(D2++R))))).length=m:=by rw[<-e0];simp only[nr];omega
   rw[e0];refine(Zh∘ZbK∘Zco∘Zcd∘Zcq∘ZD∘Zc7∘ZP∘Zz∘Za6∘Zb∘Zv∘Za∘Za6∘Zb) ?_;refine q0 (yq L 900 (xa b (((P++D1)++(Y1.drop (Y1.length-X1.length)++(Y1.take (Y1.length-X1.length)++(X1++(D2++R))))).flatMap ccs++rest) tyC) (r:=xa b (((P++D1)++(X1++(Y1.take (Y1.length-X1.length)++(Y1.drop (Y1.length-X1.length)++(D2++R))))).flatMap ccs++rest) tyC) Z Z Z Z Z (fun u H C hH _ hr hC=>(by have h:=Ml (cap:=cap) (a:=mm-X1.length) (e:=mm+Y1.length-X1.length) (n:=X1.length) (by rw[nr];omega) I Z ld hlen hm1 fv hH hr hC;exact h))) ?_;refine(Z1∘Z8∘Zax∘Zal) ?_;rw[e1]
   exact ym (x:=((D1,X1),(Y1,D2))) ((D1,Y1.drop (Y1.length-X1.length)),(Y1.take (Y1.length-X1.length),X1++D2)) ⟨by dsimp only;omega,by dsimp only;rw[List.length_append];omega,by dsimp only;omega,by dsimp only;omega,by
    dsimp only;rw[<-h5]
    conv=>rhs;rw[<-zli (Y1.length-X1.length) Y1]
    simp only[List.append_assoc]⟩ M ⟨rfl,rfl,rfl,by dsimp only;rw[ld];rfl,rfl,rfl,trivial⟩
abbrev ORD:Nat:=228
abbrev Bo:Value:=.func (.func ORD) #[] #[]
def fg{x y:CH}(hB:zpk B w):Ret zpl ORD ([chv x.1 x.2,chv y.1 y.2]++[]) w B (fun r _=>r=.int .i64 (jm x.1 y.1)):=by
 refine yf Tryz.func228 Z Tryz.ntmps228 (np Z) hB ((ZaQ∘Zas∘Zav∘Zcg∘Zav∘Zcg) ?_);refine z81 L Z (fun u H hH _=>wq (a:=x.1) (b:=y.1) hH) ?_;refine Zd (h:=?_);exact ye2 L [.tmp 4]
def ins_ret{P X R:List CH}{b cap:Nat}(ha:P.length=a)(he:a+X.length=e)(hm:(P++(X++R)).length=m)(hm1:m<=100000)(hB:zpk B w)
  (hr:(xa b ((P++(X++R)).flatMap ccs++rest) tyC).P B w C) (hC:ZCB C w B):
  kr zpl 310 [.slice (some ⟨b,0,none⟩) m cap,.int .i64 a,.int .i64 e,Bo] w B C (xa b ((P++(stC X++R)).flatMap ccs++rest) tyC):=by
 unfold kr;refine yr 900 (xa b ((P++(X++R)).flatMap ccs++rest) tyC) Tryz.func310 Z Tryz.ntmps310 (np Z) hB hr hC ?_;rw[xb];simp only[nr] at hm;have hst1:stC (X.take 1)=X.take 1:=by rcases X with _ | ⟨x,X⟩<;>rfl
 refine(ZL∘Za∘ZbZ∘Zbt) ?_;refine xo (fun s:Nat=>[(0,.is (.slice (some ⟨b,0,none⟩) m cap)),(1,.is (.int .i64 a)),(2,.is (.int .i64 e)),(3,.is Bo),(8,.is (.int .i64 (a+s:Nat))),(900,.own (xk b ((P++(stC (X.take s)++(X.drop s++R))).flatMap ccs++rest) tyC))]) (fun s=>1<=s/\s<=max X.length 1) (fun s=>X.length-s) 1 ⟨ns _,by omega⟩ ⟨Z,Z,Z,Z,Z,by rw[hst1,<-mj (X.take 1),zli];rfl,nm⟩ ?_;rintro s ⟨hs1,hs2⟩;by_cases hlt:s<X.length
 ·obtain⟨x,hx⟩:=xw hlt;have hsl:(stC (X.take s)).length=s:=by rw[cu,mw];omega
  refine(Zh∘Z4∘Zb∘ZaH∘ZbF∘Zu∘Zbt) ?_
  refine xo (fun t:List CH×List CH=>[(0,.is (.slice (some ⟨b,0,none⟩) m cap)),(1,.is (.int .i64 a)),(2,.is (.int .i64 e)),(3,.is Bo),(8,.is (.int .i64 (a+s:Nat))),(9,.is (.int .i64 (a+t.1.length:Nat))),(900,.own (xk b ((P++(t.1++(x::(t.2++(X.drop (s+1)++R))))).flatMap ccs++rest) tyC))])
   (fun t=>t.1++t.2=stC (X.take s)/\∀ z∈t.2,jm x.1 z.1<0) (fun t=>t.1.length) (stC (X.take s),[]) ⟨List.append_nil _,fun z hz=>(by cases hz)⟩ ⟨rfl,rfl,rfl,rfl,rfl,by dsimp only;rw[hsl];rfl,by dsimp only;rw[eo hx];rfl,trivial⟩ ?_
  rintro⟨A,D⟩ ⟨hAD,hD⟩;dsimp only at hAD hD |-;have hAl:A.length+D.length=s:=by rw[<-nr,hAD,hsl]
  have hfin:(∀ y,A.getLast?=some y->¬ jm x.1 y.1<0)->P++(A++(x::(D++(X.drop (s+1)++R))))=P++(stC (X.take (s+1))++(X.drop (s+1)++R)):=fun h=>by
   have:=ze7 (k:=fun c:CH=>c.1) cmpT_ord (x:=x) hAD hD h;rw[zls,hx];unfold stC;show _=P++(C6 (fun c:CH=>c.1) jm (X.take s++[x])++_);rw[<-this];simp
  rcases zo8 A with hA | ⟨A',y,hA⟩
  ·subst hA;rw[hfin (fun y hy=>by simp at hy),my,znv];refine(Zh∘ZeP∘Zn∘Zdg∘ZbV∘Zeg∘Za5∘Za2∘ZaB∘Zq∘ZbR) ?_;exact ym (x:=s) (s+1) ⟨by omega,by omega⟩ I ⟨Z,Z,Z,Z,Z,Z,nm⟩
  ·rw[zoo] at hA;subst hA;have hl9:(A'++[y]).length=A'.length+1:=by rw[nr,zmd]
   rw[hl9] at hAl;have e0:P++((A'++[y])++(x::(D++(X.drop (s+1)++R))))=(P++A')++y::([]++x::(D++(X.drop (s+1)++R))):=by simp
   have l1:(P++A').length=a+A'.length:=by rw[nr,ha]
   have l2:(P++A').length+1+([]:List CH).length=a+(A'++[y]).length:=by rw[l1,hl9];rfl
   have g1:=Ae (x:=y) (y:=x) (zpi:=[]) (D:=D++(X.drop (s+1)++R)) l1;have g2:=Ad (x:=y) (y:=x) (D:=D++(X.drop (s+1)++R)) l2;have g3:=N8 (x:=y) (y:=x) (D:=D++(X.drop (s+1)++R)) l1 l2;have e1:(P++A')++x::([]++y::(D++(X.drop (s+1)++R)))=P++(A'++(x::((y::D)++(X.drop (s+1)++R)))):=by simp
   have hlen:((P++A')++y::([]++x::(D++(X.drop (s+1)++R)))).length=m:=by rw[<-e0];simp only[nr,nz,my,zlc];omega
   have hw1:IntKind.i64.wrap (((a+(A'++[y]).length:Nat):Int)-1)=((a+A'.length:Nat):Int):=yz I I |>.trans I;by_cases hc:jm x.1 y.1<0
   ·rw[e0];rw[e1] at g3;generalize (P++A')++y::([]++x::(D++(X.drop (s+1)++R)))=K at *;have h1:=get_lt g1;have h2:=get_lt g2;have q1:=ww (rest:=rest) g1 (0+(a+A'.length)*7) I;have q2:=ww (rest:=rest) g2 (0+(a+(A'++[y]).length)*7) I;have s1:=f6 (rest:=rest) (z:=y) h2 (0+(a+(A'++[y]).length)*7) I;have b1:=f8 (rest:=rest) h2 (0+(a+(A'++[y]).length)*7) I;have h3:a+A'.length<(K.set (a+(A'++[y]).length) y).length:=by rw[znd];exact h1
    have s2:=f6 (rest:=rest) (z:=x) h3 (0+(a+A'.length)*7) I;have b2:=f8 (rest:=rest) h3 (0+(a+A'.length)*7) I;rw[g3] at s2;refine(Zh∘ZeP∘Zn∘ZcV∘Zn∘ZJ) ?_;refine qq (kj L (q:=900) (vs:=[_,_,_,_,_,_,_]) Z Z Z Z q2) Z Z ((ZbC∘Zm) ?_);refine qq (kj L (q:=900) (vs:=[_,_,_,_,_,_,_]) Z Z Z Z q1) Z Z (zh1 L Z (fun u H hH _=>fg hH) ?_);refine(Zc8∘Zci∘Zae∘Zam) ?_;refine qh (id:=6) [(200046,[900]),(200050,[900]),(100051,[900]),(100052,[900])] x8 T ((Zn∘ZbC∘ZbC∘Zm) ?_);refine qq (kj L (q:=900) (vs:=[_,_,_,_,_,_,_]) Z Z Z Z q1) Z Z (ZJ (h:=?_));refine qq (kj L (q:=900) (vs:=[_,_,_,_,_,_,_]) Z Z Z Z q2) Z Z (Zm (h:=?_));refine xl (yc L (q:=900) Z Z b1 Z s1) Z (Zm (h:=?_));refine xl (yc L (q:=900) Z Z b2 Z s2) Z ((ZbI∘ZaB∘Zar∘Za6∘ZaU) ?_)
    exact ym (x:=(A'++[y],D)) (A',y::D) ⟨by rw[<-hAD];simp,fun z hz=>by
     rcases nw.1 hz with rfl | hz
     ·exact hc
     ·exact hD z hz⟩ M ⟨Z,Z,Z,Z,Z,Z,Z,nm⟩
   ·have hf:=hfin (fun z hz=>by rw[List.getLast?_append] at hz;simp at hz;subst hz;exact hc);rw[e0];rw[e0] at hf;have q1:=ww (rest:=rest) g1 (0+(a+A'.length)*7) I;have q2:=ww (rest:=rest) g2 (0+(a+(A'++[y]).length)*7) I;rw[hf] at q1 q2 |-;refine(Zh∘ZeP∘Zn∘ZcV∘Zn∘ZJ) ?_;refine qq (kj L (q:=900) (vs:=[_,_,_,_,_,_,_]) Z Z Z Z q2) Z Z ((ZbC∘Zm) ?_);refine qq (kj L (q:=900) (vs:=[_,_,_,_,_,_,_]) Z Z Z Z q1) Z Z (zh1 L Z (fun u H hH _=>fg hH) ?_);refine(Zdp∘Za5∘Za2∘ZaB∘Zq∘ZbR) ?_;exact ym (x:=s) (s+1) ⟨by omega,by omega⟩ I ⟨Z,Z,Z,Z,Z,Z,nm⟩
 ·have hX:P++(stC (X.take s)++(X.drop s++R))=P++(stC X++R):=by
   rw[zle I,zlk I,mh]
  rw[hX];refine(Zh∘Z4∘Zb∘Z0∘Za9∘Za2) ?_;exact xp L 900 (r:=xa b _ tyC) Z (fun _ _ h=>h) nq Z Z
end Go.V.L8
namespace Go.V
section
variable {β:Type} [DecidableEq α] [DecidableEq β] {k:α->β} {c:β->β->Int}
omit [DecidableEq β] in
theorem Rm(ho:Ord3 c){z y x:β}(h1:¬ c y z<0)(h2:c y x<0):c z x<0:=by
 by_cases h3:c z y<0
 ·exact ho.tr h3 h2
 ·have:=ho.anti y z;rw[ho.eq z y I];exact h2
omit [DecidableEq β] in
theorem Rj(ho:Ord3 c){x y z:β}(h1:c y x<0)(h2:¬ c z x<0):c y z<0:=by
 by_cases h3:c x z<0
 ·exact ho.tr h1 h3
 ·have:=ho.anti x z;rw[ho.eq z x I];exact h1
structure SymI(k:α->β)(c:β->β->Int)(X Y:List α)(a mid lo hi s r:Nat):Prop where
 ls:lo<=s
 sr:s<=r
 rh:r<=hi
 bef:∀ i x y,lo<=i->i<s->X[i-a]?=some x->Y[mid-1-i]?=some y->¬ c (k y) (k x)<0
 aft:∀ i x y,r<=i->i<hi->X[i-a]?=some x->Y[mid-1-i]?=some y->c (k y) (k x)<0
structure ziz(X Y:List α)(a mm e mid lo hi:Nat):Prop where
 lx:a+X.length=mm
 ly:mm+Y.length=e
 al:a<=lo
 nl:mid+mm<=lo+e
 hm:hi<=mid
 hx:hi<=mm
 lo_:lo=a\/mid+mm=lo+e
 hi_:hi=mm\/hi=mid
omit [DecidableEq α] [DecidableEq β] in
theorem SymI.start{X Y:List α}(h:lo<=hi):SymI k c X Y a mid lo hi lo hi:=⟨ns _,h,ns _,fun i x y h1 h2=>by omega,fun i x y h1 h2=>by omega⟩
omit [DecidableEq α] [DecidableEq β] in
theorem SymI.up(ho:Ord3 c){X Y:List α}(hX:Srt k c X)(hY:Srt k c Y){s r:Nat}{x y:α}(hb:ziz X Y a mm e mid lo hi)(h:SymI k c X Y a mid lo hi s r)(h1:s<=i)(h2:i<r)(hx:X[i-a]?=some x)(hy:Y[mid-1-i]?=some y)(hc:¬ c (k y) (k x)<0):SymI k c X Y a mid lo hi (i+1) r:=by
 obtain⟨b1,b2,b3,b4,b5,b6,_,_⟩:=hb;obtain⟨i1,i2,i3,i4,i5⟩:=h;refine⟨by omega,by omega,i3,fun j x' y' hj hji hx' hy' hlt=>hc ?_,i5⟩;have e1:=bk ho hX hx' hx I;have e2:=bk ho hY hy hy' I;exact Rm ho e2 (Rj ho hlt e1)
omit [DecidableEq α] [DecidableEq β] in
theorem SymI.down(ho:Ord3 c){X Y:List α}(hX:Srt k c X)(hY:Srt k c Y){s r:Nat}{x y:α}(hb:ziz X Y a mm e mid lo hi)(h:SymI k c X Y a mid lo hi s r)(h1:s<=i)(h2:i<r)(hx:X[i-a]?=some x)(hy:Y[mid-1-i]?=some y)(hc:c (k y) (k x)<0):SymI k c X Y a mid lo hi s i:=by
 obtain⟨b1,b2,b3,b4,b5,b6,_,_⟩:=hb;obtain⟨i1,i2,i3,i4,i5⟩:=h;refine⟨by omega,by omega,by omega,i4,fun j x' y' hj hji hx' hy'=>?_⟩;have e1:=bk ho hX hx hx' I;have e2:=bk ho hY hy' hy I;exact Rm ho e2 (Rj ho hc e1)
theorem Yr(ho:Ord3 c){X Y:List α}(hX:Srt k c X)(hY:Srt k c Y){s:Nat}(hb:ziz X Y a mm e mid lo hi)(h:SymI k c X Y a mid lo hi s s):
  C6 k c (X.take (s-a)++Y.take (mid-s))++C6 k c (X.drop (s-a)++Y.drop (mid-s))=C6 k c (X++Y):=by
 obtain⟨b1,b2,b3,b4,b5,b6,b7,b8⟩:=hb;obtain⟨i1,i2,i3,i4,i5⟩:=h;have hXt:X.take (s-a)++X.drop (s-a)=X:=zli _ _;have hYt:Y.take (mid-s)++Y.drop (mid-s)=Y:=zli _ _
 have h12:∀ x∈X.drop (s-a),∀ y∈Y.take (mid-s),c (k y) (k x)<0:=fun x hx y hy=>by
  obtain⟨i,hi⟩:=zl0 hx;obtain⟨j,hj⟩:=zl0 hy;have hjl:=get_lt hj;rw[mw] at hjl;rw[zm2] at hi;rw[zny I] at hj;have hil:=get_lt hi;obtain⟨x0,hx0⟩:=xw (l:=X) (i:=s-a) I;obtain⟨y0,hy0⟩:=xw (l:=Y) (i:=mid-1-s) I;have h0:=i5 s x0 y0 (ns _) I hx0 hy0;exact Rm ho (bk ho hY hj hy0 I) (Rj ho h0 (bk ho hX hx0 hi I))
 have h21:∀ x∈X.take (s-a),∀ y∈Y.drop (mid-s),¬ c (k y) (k x)<0:=fun x hx y hy hlt=>by
  obtain⟨i,hi⟩:=zl0 hx;obtain⟨j,hj⟩:=zl0 hy;have hil:=get_lt hi;rw[mw] at hil;rw[zm2] at hj;rw[zny I] at hi;have hjl:=get_lt hj;obtain⟨x1,hx1⟩:=xw (l:=X) (i:=s-1-a) I;obtain⟨y1,hy1⟩:=xw (l:=Y) (i:=mid-s) I;have h0:=i4 (s-1) x1 y1 I I hx1 (by rw[show mid-1-(s-1)=mid-s by omega];exact hy1);exact h0 (Rm ho (bk ho hY hy1 hj I) (Rj ho hlt (bk ho hX hi hx1 I)))
 have:=Yw ho (by rw[hXt];exact hX) (by rw[hYt];exact hY) h12 h21 (ue ho _) (ue ho _);rw[hXt,hYt] at this;exact Dl ho this
theorem zeg(ho:Ord3 c){x:α}{Y:List α}(hY:Srt k c Y)(h1:∀ j z,j<i->Y[j]?=some z->c (k z) (k x)<0)(h2:∀ j z,i<=j->Y[j]?=some z->¬ c (k z) (k x)<0):
  Y.take i++x::Y.drop i=C6 k c ([x]++Y):=by
 have hY':Srt k c (Y.take i++Y.drop i):=by rw[zli];exact hY
 have:=zdo ho (x:=x) hY' (fun z hz=>by
  obtain⟨j,hj⟩:=zl0 hz;have hjl:=get_lt hj;rw[mw] at hjl;rw[zny I] at hj;exact h1 j z I hj) (fun z hz=>by
  obtain⟨j,hj⟩:=zl0 hz;rw[zm2] at hj;exact h2 _ z I hj)
 rw[zli] at this;exact Dl ho this
theorem zef(ho:Ord3 c){x:α}{X:List α}(hX:Srt k c X)(h1:∀ j z,j<i->X[j]?=some z->¬ c (k x) (k z)<0)(h2:∀ j z,i<=j->X[j]?=some z->c (k x) (k z)<0):
  X.take i++x::X.drop i=C6 k c (X++[x]):=by
 have hX':Srt k c (X.take i++X.drop i):=by rw[zli];exact hX
 have:=Mo ho (x:=x) hX' (fun z hz=>by
  obtain⟨j,hj⟩:=zl0 hz;have hjl:=get_lt hj;rw[mw] at hjl;rw[zny I] at hj;exact h1 j z I hj) (fun z hz=>by
  obtain⟨j,hj⟩:=zl0 hz;rw[zm2] at hj;exact h2 _ z I hj)
 rw[zli] at this;exact Dl ho this
end
end Go.V
namespace Go.V.L8
open Go.V.L2 Go.V.L3 Go.V.L6
def _root_.ZaP(t:Wr Y->A:=by intro h;refine zi (id:=20) ?_;exact h.1)(h:Y):A:=t ⟨h⟩
def _root_.ZbD(t:Wr Y->A:=by intro h;refine zi (id:=21) ?_;exact h.1)(h:Y):A:=t ⟨h⟩
def _root_.Zcj(t:Wr Y->A:=by intro h;refine zi (id:=19) ?_;exact h.1)(h:Y):A:=t ⟨h⟩
def _root_.Zc0(t:Wr Y->A:=by intro h;refine zi (id:=22) ?_;exact h.1)(h:Y):A:=t ⟨h⟩
def za6{P X D:List CH}(ha:P.length=a){x:CH}(h:X[j]?=some x)(i:Nat)(hi:i=a+j):(P++(X++D))[i]?=some x:=by
 subst hi ha;have:=get_lt h;rw[zoq I,show P.length+j-P.length=j by omega,zml this];exact h
def zfa{P X Y D:List CH}(ha:P.length=a)(hx:a+X.length=mm){y:CH}(h:Y[j]?=some y)(i:Nat)(hi:i=mm+j):(P++(X++(Y++D)))[i]?=some y:=by
 have e:P++(X++(Y++D))=(P++X)++(Y++D):=by simp
 rw[e];exact za6 (by rw[nr];omega) h i hi
abbrev zga(l:List CH):Prop:=Srt (fun c:CH=>c.1) jm l
def Ao(i j:Nat):((i:Int)+(j:Int)).fdiv (2^min (1:Int).toNat IntKind.u64.bits)=((i+j)/2:Nat):=by
 show((i:Int)+(j:Int)).fdiv 2=_;rw[zop _ J];omega
attribute [local irreducible] V N X VO Par StepOK Has Ret RetL RetO RetT kr Src
abbrev SYM:Nat:=311
def zdj{P Y R:List CH}{x:CH}{b cap:Nat}(ha:P.length=a)(hmm:a+1=mm)(he:mm+Y.length=e)(hY:zga Y)(hm:(P++([x]++(Y++R))).length=m)(hm1:m<=100000)(hB:zpk B w)
  (hr:(xa b ((P++([x]++(Y++R))).flatMap ccs++rest) tyC).P B w C) (hC:ZCB C w B):
  kr zpl SYM [.slice (some ⟨b,0,none⟩) m cap,.int .i64 a,.int .i64 mm,.int .i64 e,Bo] w B C (xa b ((P++(stC ([x]++Y)++R)).flatMap ccs++rest) tyC):=by
 unfold kr;refine yr 900 (xa b ((P++([x]++(Y++R))).flatMap ccs++rest) tyC) Tryz.func311 Z Tryz.ntmps311 (np Z) hB hr hC ?_;rw[xb];have hm':=hm;simp only[nr,zmd] at hm';refine(Ze∘ZL∘Zb∘Zcw∘ZC∘Zr∘Zbf∘Zb2∘Zc∘Zam) ?_
 refine xo (fun s:Nat×Nat=>[(0,.is (.slice (some ⟨b,0,none⟩) m cap)),(1,.is (.int .i64 a)),(4,.is Bo),(10,.is (.int .i64 s.1)),(11,.is (.int .i64 s.2)),(900,.own (xk b ((P++([x]++(Y++R))).flatMap ccs++rest) tyC))])
  (fun s=>mm<=s.1/\s.1<=s.2/\s.2<=e/\(∀ (j:Nat) (z:CH),j<s.1-mm->Y[j]?=some z->jm z.1 x.1<0)/\∀ (j:Nat) (z:CH),s.2-mm<=j->Y[j]?=some z->¬ jm z.1 x.1<0) (fun s=>s.2-s.1) (mm,e)
  ⟨Nat.le_refl _,by dsimp only;omega,Nat.le_refl _,fun j z h=>(by dsimp only at h;omega),fun j z h hz=>(by have:=get_lt hz;dsimp only at h;omega)⟩ ⟨rfl,rfl,rfl,rfl,rfl,rfl,trivial⟩ ?_
 rintro⟨i,j⟩ ⟨h1,h2,h3,h4,h5⟩;dsimp only at h1 h2 h3 h4 h5 |-;by_cases hlt:i<j
 ·have hsh:=Ao i j;obtain⟨h,hh⟩:∃ h,(i+j)/2=h:=⟨_,rfl⟩
  rw[hh] at hsh;obtain⟨y,hy⟩:=xw (l:=Y) (show h-mm<Y.length by omega);have q1:=ww (rest:=rest) (zfa (X:=[x]) (D:=R) (mm:=mm) ha hmm hy h I) (0+h*7) I;have q2:=ww (rest:=rest) (za6 (X:=[x]) (D:=Y++R) ha (j:=0) rfl a I) (0+a*7) I;by_cases hc:jm y.1 x.1<0
  ·refine(Zbm∘ZaH∘ZcR∘Z9∘Zb∘ZbZ) ?_;refine z8 (ku Z Z Z wl.1 wl.2 (wrap_u64 I I)) Z (Zde (h:=?_));refine z8 (ku Z Z Z wm.1 wm.2 (yz I I)) Z (Zc (h:=?_));refine qh (id:=5) [(200044,[900]),(200048,[900])] x8 T ((Zbo∘Zm) ?_);refine qq (kj L (q:=900) (vs:=[_,_,_,_,_,_,_]) Z Z Z Z q1) Z Z (ZJ (h:=?_));refine qq (kj L (q:=900) (vs:=[_,_,_,_,_,_,_]) Z Z Z Z q2) Z Z (zh1 L Z (fun u H hH _=>fg hH) ?_);refine(Zc8∘Zc4∘ZH∘ZbZ∘Zal) ?_
   exact ym (x:=(i,j)) (h+1,j) ⟨by dsimp only;omega,by dsimp only;omega,h3,fun k z hk hz=>by
    dsimp only at hk;exact Rm cmpT_ord (bk cmpT_ord hY hz hy I) hc,h5⟩ M ⟨Z,Z,Z,Z,Z,Z,nm⟩
  ·refine(Zbm∘ZaH∘ZcR∘Z9∘Zb∘ZbZ) ?_;refine z8 (ku Z Z Z wl.1 wl.2 (wrap_u64 I I)) Z (Zde (h:=?_));refine z8 (ku Z Z Z wm.1 wm.2 (yz I I)) Z (Zc (h:=?_));refine qh (id:=5) [(200044,[900]),(200048,[900])] x8 T ((Zbo∘Zm) ?_);refine qq (kj L (q:=900) (vs:=[_,_,_,_,_,_,_]) Z Z Z Z q1) Z Z (ZJ (h:=?_));refine qq (kj L (q:=900) (vs:=[_,_,_,_,_,_,_]) Z Z Z Z q2) Z Z (zh1 L Z (fun u H hH _=>fg hH) ?_);refine(Zdp∘ZaY∘Z3∘Zal) ?_
   exact ym (x:=(i,j)) (i,h) ⟨h1,by dsimp only;omega,by dsimp only;omega,h4,fun k z hk hz hcx=>by
    dsimp only at hk;exact hc (Rm cmpT_ord (bk cmpT_ord hY hy hz I) hcx)⟩ M ⟨Z,Z,Z,Z,Z,Z,nm⟩
 ·obtain rfl:i=j:=by omega
  have hfin:=zeg (k:=fun c:CH=>c.1) cmpT_ord hY h4 h5;have hal:(Y.take (i-mm)).length=i-mm:=by rw[mw];omega
  have hYl:(Y.take (i-mm)).length+(Y.drop (i-mm)).length=Y.length:=by rw[<-nr,zli]
  have e0:P++([x]++(Y++R))=P++([]++(x::(Y.take (i-mm)++(Y.drop (i-mm)++R)))):=by
   rw[<-mj (Y.take _),zli];rfl
  rw[e0]
  have e9:P++(Y.take (i-mm)++(x::(Y.drop (i-mm)++R)))=P++(stC ([x]++Y)++R):=by
   unfold stC;rw[<-hfin];simp
  generalize Y.take (i-mm)=A at *;generalize Y.drop (i-mm)=D at *;clear hfin h4 h5 e0;refine(Zbm∘Z0∘ZaR∘Ze∘Za4∘Zbt) ?_;refine xo (fun t:Nat=>[(0,.is (.slice (some ⟨b,0,none⟩) m cap)),(10,.is (.int .i64 i)),(13,.is (.int .i64 (a+t:Nat))),(900,.own (xk b ((P++(A.take t++(x::(A.drop t++(D++R))))).flatMap ccs++rest) tyC))]) (fun t=>t<=A.length) (fun t=>A.length-t) 0 (mf _) ⟨Z,Z,Z,Z,nm⟩ ?_;rintro t ht;by_cases htl:t<A.length
  ·obtain⟨z,hz⟩:=xw htl;have e0:P++(A.take t++(x::(A.drop t++(D++R))))=(P++A.take t)++x::([]++z::(A.drop (t+1)++(D++R))):=by rw[eo hz];simp
   have e1:(P++A.take t)++z::([]++x::(A.drop (t+1)++(D++R)))=P++(A.take (t+1)++(x::(A.drop (t+1)++(D++R)))):=by rw[zls,hz];simp
   have l1:(P++A.take t).length=a+t:=by rw[nr,mw];omega
   have l2:(P++A.take t).length+1+([]:List CH).length=a+t+1:=by rw[l1];rfl
   have g1:=Ae (x:=x) (y:=z) (zpi:=[]) (D:=A.drop (t+1)++(D++R)) l1;have g2:=Ad (x:=x) (y:=z) (D:=A.drop (t+1)++(D++R)) l2;have g3:=Mi (x:=x) (y:=z) (D:=A.drop (t+1)++(D++R)) l1 l2;rw[e0];rw[e1] at g3;generalize (P++A.take t)++x::([]++z::(A.drop (t+1)++(D++R)))=K at *;have k1:=get_lt g1;have k2:=get_lt g2
   have hKl:a+t+1<m:=by
    have:a+1+A.length+D.length<=m:=I;omega
   have q1:=ww (rest:=rest) g1 (0+(a+t)*7) I;have q2:=ww (rest:=rest) g2 (0+(a+t+1)*7) I;have s1:=f6 (rest:=rest) (z:=z) k1 (0+(a+t)*7) I;have b1:=f8 (rest:=rest) k1 (0+(a+t)*7) I;have k3:a+t+1<(K.set (a+t) z).length:=by rw[znd];exact k2
   have s2:=f6 (rest:=rest) (z:=x) k3 (0+(a+t+1)*7) I;have b2:=f8 (rest:=rest) k3 (0+(a+t+1)*7) I;rw[g3] at s2;have a1:IntKind.i64.wrap (((a+t:Nat):Int)+1)=((a+t+1:Nat):Int):=yz I I;refine(Zh∘ZQ∘Zb∘Zcw∘ZaH∘Zae∘Zam) ?_;refine qh (id:=11) [(200070,[900]),(200074,[900]),(100075,[900]),(100076,[900])] x8 T ((Zn∘Zn∘ZaW∘Zn∘ZaW∘Zm) ?_);refine qq (kj L (q:=900) (vs:=[_,_,_,_,_,_,_]) Z Z Z Z q2) Z Z (ZJ (h:=?_));refine qq (kj L (q:=900) (vs:=[_,_,_,_,_,_,_]) Z Z Z Z q1) Z Z (Zm (h:=?_));refine xl (yc L (q:=900) Z Z b1 Z s1) Z (Zm (h:=?_));refine xl (yc L (q:=900) Z Z b2 Z s2) Z ((ZbI∘ZaB∘Zah∘Za∘Zv∘ZaU) ?_);exact ym (x:=t) (t+1) I I ⟨Z,Z,Z,Z,nm⟩
  ·have hA:P++(A.take t++(x::(A.drop t++(D++R))))=P++(stC ([x]++Y)++R):=by
    rw[zle I,zlk I,mh,e9]
   rw[hA];refine(Zh∘ZQ∘Zb∘Zcw∘Z0∘Za9∘Za2∘Zbq) ?_;exact jf L 900 (r:=xa b _ tyC) Z (fun _ _ h=>h) nq Z Z
def zdk{P X R:List CH}{y:CH}{b cap:Nat}(ha:P.length=a)(hmm:a+X.length=mm)(hx1:¬ X.length=1)(he:mm+1=e)(hX:zga X)(hm:(P++(X++([y]++R))).length=m)(hm1:m<=100000)(hB:zpk B w)
  (hr:(xa b ((P++(X++([y]++R))).flatMap ccs++rest) tyC).P B w C) (hC:ZCB C w B):
  kr zpl SYM [.slice (some ⟨b,0,none⟩) m cap,.int .i64 a,.int .i64 mm,.int .i64 e,Bo] w B C (xa b ((P++(stC (X++[y])++R)).flatMap ccs++rest) tyC):=by
 unfold kr;refine yr 900 (xa b ((P++(X++([y]++R))).flatMap ccs++rest) tyC) Tryz.func311 Z Tryz.ntmps311 (np Z) hB hr hC ?_;rw[xb];have hm':=hm;simp only[nr,zmd] at hm';refine(Ze∘ZL∘Zb∘Zcw∘Zs∘Z6∘ZT∘Zb∘Zcw∘ZC∘Zr∘ZV∘Za∘Zc∘Zb9∘Zc∘Zam) ?_
 refine xo (fun s:Nat×Nat=>[(0,.is (.slice (some ⟨b,0,none⟩) m cap)),(2,.is (.int .i64 mm)),(4,.is Bo),(14,.is (.int .i64 s.1)),(15,.is (.int .i64 s.2)),(900,.own (xk b ((P++(X++([y]++R))).flatMap ccs++rest) tyC))])
  (fun s=>a<=s.1/\s.1<=s.2/\s.2<=mm/\(∀ (j:Nat) (z:CH),j<s.1-a->X[j]?=some z->¬ jm y.1 z.1<0)/\∀ (j:Nat) (z:CH),s.2-a<=j->X[j]?=some z->jm y.1 z.1<0) (fun s=>s.2-s.1) (a,mm)
  ⟨Nat.le_refl _,by dsimp only;omega,Nat.le_refl _,fun j z h=>(by dsimp only at h;omega),fun j z h hz=>(by have:=get_lt hz;dsimp only at h;omega)⟩ ⟨rfl,rfl,rfl,rfl,rfl,rfl,trivial⟩ ?_
 rintro⟨i,j⟩ ⟨h1,h2,h3,h4,h5⟩;dsimp only at h1 h2 h3 h4 h5 |-;by_cases hlt:i<j
 ·have hsh:=Ao i j;obtain⟨h,hh⟩:∃ h,(i+j)/2=h:=⟨_,rfl⟩
  rw[hh] at hsh;obtain⟨x,hx⟩:=xw (l:=X) (show h-a<X.length by omega);have q1:=ww (rest:=rest) (zfa (Y:=[y]) (D:=R) ha hmm (j:=0) rfl mm I) (0+mm*7) I;have q2:=ww (rest:=rest) (za6 (D:=[y]++R) ha hx h I) (0+h*7) I;by_cases hc:jm y.1 x.1<0
  ·refine(Zh∘Zaw∘Zb∘ZaH∘ZcR∘Zad∘Zb∘ZbZ) ?_;refine z8 (ku Z Z Z wl.1 wl.2 (wrap_u64 I I)) Z (Zde (h:=?_));refine z8 (ku Z Z Z wm.1 wm.2 (yz I I)) Z (Zc (h:=?_));refine qh (id:=17) [(200096,[900]),(200100,[900])] x8 T ((Zbo∘Zm) ?_);refine qq (kj L (q:=900) (vs:=[_,_,_,_,_,_,_]) Z Z Z Z q1) Z Z (ZJ (h:=?_));refine qq (kj L (q:=900) (vs:=[_,_,_,_,_,_,_]) Z Z Z Z q2) Z Z (zh1 L Z (fun u H hH _=>fg hH) ?_);refine(Zc8∘ZaA∘ZaY∘Zcj∘Za∘Zal) ?_
   exact ym (x:=(i,j)) (i,h) ⟨h1,by dsimp only;omega,by dsimp only;omega,h4,fun k z hk hz=>by
    dsimp only at hk;exact Rj cmpT_ord hc (bk cmpT_ord hX hx hz I)⟩ M ⟨Z,Z,Z,Z,Z,Z,nm⟩
  ·refine(Zh∘Zaw∘Zb∘ZaH∘ZcR∘Zad∘Zb∘ZbZ) ?_;refine z8 (ku Z Z Z wl.1 wl.2 (wrap_u64 I I)) Z (Zde (h:=?_));refine z8 (ku Z Z Z wm.1 wm.2 (yz I I)) Z (Zc (h:=?_));refine qh (id:=17) [(200096,[900]),(200100,[900])] x8 T ((Zbo∘Zm) ?_);refine qq (kj L (q:=900) (vs:=[_,_,_,_,_,_,_]) Z Z Z Z q1) Z Z (ZJ (h:=?_));refine qq (kj L (q:=900) (vs:=[_,_,_,_,_,_,_]) Z Z Z Z q2) Z Z (zh1 L Z (fun u H hH _=>fg hH) ?_);refine(Zdp∘ZaA∘Zc4∘Zbg∘Za∘ZbZ∘Zal) ?_
   exact ym (x:=(i,j)) (h+1,j) ⟨by dsimp only;omega,by dsimp only;omega,h3,fun k z hk hz hcx=>by
    dsimp only at hk;exact hc (Rj cmpT_ord hcx (bk cmpT_ord hX hz hx I)),h5⟩ M ⟨Z,Z,Z,Z,Z,Z,nm⟩
 ·obtain rfl:i=j:=by omega
  have hfin:=zef (k:=fun c:CH=>c.1) cmpT_ord hX h4 h5;have hal:(X.take (i-a)).length=i-a:=by rw[mw];omega
  have hXl:(X.take (i-a)).length+(X.drop (i-a)).length=X.length:=by rw[<-nr,zli]
  have e0:P++(X++([y]++R))=P++(X.take (i-a)++(X.drop (i-a)++(y::([]++R)))):=by
   rw[<-mj (X.take _),zli];rfl
  rw[e0]
  have e9:P++(X.take (i-a)++(y::(X.drop (i-a)++R)))=P++(stC (X++[y])++R):=by
   unfold stC;rw[<-hfin];simp
  generalize X.take (i-a)=A at *;generalize X.drop (i-a)=D at *;clear hfin h4 h5 e0;have hk0:mm=i+D.length:=I;refine(Zh∘Zaw∘Zb∘Z0∘ZaR∘Ze∘ZaP∘Za∘Zbt) ?_;refine xo (fun t:Nat=>[(0,.is (.slice (some ⟨b,0,none⟩) m cap)),(14,.is (.int .i64 i)),(17,.is (.int .i64 (i+t:Nat))),(900,.own (xk b ((P++(A++(D.take t++(y::(D.drop t++R))))).flatMap ccs++rest) tyC))]) (fun t=>t<=D.length) (fun t=>t) D.length (ns _) ⟨Z,Z,by rw[<-hk0];rfl,by rw[zlm,zno];rfl,nm⟩ ?_;rintro t ht;rcases t with _ | t
  ·rw[zl2,zl5,mh,e9,znv];refine(Zh∘ZbD∘Zb∘ZD∘Za9∘Za2∘Zbq) ?_;exact jf L 900 (r:=xa b _ tyC) Z (fun _ _ h=>h) nq Z Z
  ·obtain⟨z,hz⟩:=xw (l:=D) (show t<D.length by omega);have e0:P++(A++(D.take (t+1)++(y::(D.drop (t+1)++R))))=(P++(A++D.take t))++z::([]++y::(D.drop (t+1)++R)):=by rw[zls,hz];simp
   have e1:(P++(A++D.take t))++y::([]++z::(D.drop (t+1)++R))=P++(A++(D.take t++(y::(D.drop t++R)))):=by rw[eo hz];simp
   have l1:(P++(A++D.take t)).length=i+t:=by rw[nr,nr,mw];omega
   have l2:(P++(A++D.take t)).length+1+([]:List CH).length=i+(t+1):=by rw[l1];rfl
   have g1:=Ae (x:=z) (y:=y) (zpi:=[]) (D:=D.drop (t+1)++R) l1;have g2:=Ad (x:=z) (y:=y) (D:=D.drop (t+1)++R) l2;have g3:=N8 (x:=z) (y:=y) (D:=D.drop (t+1)++R) l1 l2;rw[e0];rw[e1] at g3;generalize (P++(A++D.take t))++z::([]++y::(D.drop (t+1)++R))=K at *;have k1:=get_lt g1;have k2:=get_lt g2;have hKl:i+(t+1)<m:=I;have q1:=ww (rest:=rest) g1 (0+(i+t)*7) I;have q2:=ww (rest:=rest) g2 (0+(i+(t+1))*7) I;have s1:=f6 (rest:=rest) (z:=z) k2 (0+(i+(t+1))*7) I;have b1:=f8 (rest:=rest) k2 (0+(i+(t+1))*7) I;have k3:i+t<(K.set (i+(t+1)) z).length:=by rw[znd];exact k1
   have s2:=f6 (rest:=rest) (z:=y) k3 (0+(i+t)*7) I;have b2:=f8 (rest:=rest) k3 (0+(i+t)*7) I;rw[g3] at s2;have a1:IntKind.i64.wrap (((i+(t+1):Nat):Int)-1)=((i+t:Nat):Int):=yz I I |>.trans I;refine(Zh∘ZbD∘Zb∘ZN∘ZE∘Zae∘Zam) ?_;refine qh (id:=23) [(200122,[900]),(200126,[900]),(100127,[900]),(100128,[900])] x8 T ((Zn∘ZbC∘ZbC∘Zm) ?_);refine qq (kj L (q:=900) (vs:=[_,_,_,_,_,_,_]) Z Z Z Z q1) Z Z (ZJ (h:=?_));refine qq (kj L (q:=900) (vs:=[_,_,_,_,_,_,_]) Z Z Z Z q2) Z Z (Zm (h:=?_));refine xl (yc L (q:=900) Z Z b1 Z s1) Z (Zm (h:=?_));refine xl (yc L (q:=900) Z Z b2 Z s2) Z ((ZbI∘ZaB∘Zc0∘Za∘Za6∘ZaU) ?_);exact ym (x:=t+1) t I I ⟨Z,Z,Z,Z,nm⟩
def _root_.ZcC(t:Wr Y->A:=by intro h;refine zi (id:=24) ?_;exact h.1)(h:Y):A:=t ⟨h⟩
def _root_.ZdU(t:Wr Y->A:=by intro h;refine zi (id:=30) ?_;refine Za (h:=?_);exact h.1)(h:Y):A:=t ⟨h⟩
def U8(h:l.length=1):∃ x,l=[x]:=by
 rcases l with _ | ⟨x,_ | ⟨y,l⟩⟩
 ·simp at h
 ·exact⟨x,rfl⟩
 ·simp at h
def E1(h:zga l):stC l=l:=Yx cmpT_ord h
def Sx(N0:Nat):∀ {P X Y R:List CH} {rest:List Value} {b m cap a mm e:Nat},X.length+Y.length<=N0->P.length=a->a+X.length=mm->mm+Y.length=e->0<X.length->0<Y.length->zga X->zga Y->(P++(X++(Y++R))).length=m->m<=100000->∀ {w:World} {B:Heap} {C:Nat->Prop},zpk B w->
  (xa b ((P++(X++(Y++R))).flatMap ccs++rest) tyC).P B w C->(ZCB C w B)->
  kr zpl SYM [.slice (some ⟨b,0,none⟩) m cap,.int .i64 a,.int .i64 mm,.int .i64 e,Bo] w B C (xa b ((P++(stC (X++Y)++R)).flatMap ccs++rest) tyC):=by
 induction N0 with
 | zero=>intro P X Y R rest b m cap a mm e h1 h2 h3 h4 h5;omega
 | succ N0 ih=>
 intro P X Y R rest b m cap a mm e hN ha hmm he hx hy hX hY hm hm1 w B C hB hr hC;by_cases hx1:X.length=1
 ·obtain⟨x,rfl⟩:=U8 hx1;exact zdj ha (by simpa using hmm) he hY hm hm1 hB hr hC
 by_cases hy1:Y.length=1
 ·obtain⟨y,rfl⟩:=U8 hy1;exact zdk ha hmm hx1 (by simpa using he) hX hm hm1 hB hr hC
 unfold kr;refine yr 900 (xa b ((P++(X++(Y++R))).flatMap ccs++rest) tyC) Tryz.func311 Z Tryz.ntmps311 (np Z) hB hr hC ?_;rw[xb];have hm':=hm;simp only[nr] at hm';have hsh:=Ao a e;obtain⟨mid,hmid⟩:∃ mid,(a+e)/2=mid:=⟨_,rfl⟩
 rw[hmid] at hsh;have hnn:IntKind.i64.wrap ((mid:Int)+(mm:Int))=((mid+mm:Nat):Int):=yz I I;refine(Ze∘ZL∘Zb∘Zcw∘Zs∘Z6∘ZT∘Zb∘Zcw∘Zs∘Zl∘ZcC∘Zb∘ZbZ) ?_;refine z8 (ku Z Z Z wl.1 wl.2 (wrap_u64 I I)) Z (Zde (h:=?_));refine z8 (ku Z Z Z wm.1 wm.2 (yz I I)) Z (Zc (h:=?_));refine zi (id:=25) ((Zb∘Zv∘Zc) ?_);refine zi (id:=26) (Zbk (h:=?_));refine ii (fun s:Nat×Nat=>[(0,.is (.slice (some ⟨b,0,none⟩) m cap)),(1,.is (.int .i64 a)),(2,.is (.int .i64 mm)),(3,.is (.int .i64 e)),(4,.is Bo),(18,.is (.int .i64 mid)),(19,.is (.int .i64 (mid+mm:Nat))),(20,.is (.int .i64 s.1)),(21,.is (.int .i64 s.2)),(900,.own (xk b ((P++(X++(Y++R))).flatMap ccs++rest) tyC))]) (fun s=>ziz X Y a mm e mid s.1 s.2/\s.1<=s.2) (fun _=>[]) ?rest ?first
 case first=>
  by_cases hgt:mid<mm
  ·have hs:IntKind.i64.wrap (((mid+mm:Nat):Int)-(e:Int))=((mid+mm-e:Nat):Int):=yz I I |>.trans I;refine zi (id:=27) ((Zb∘ZN∘Zr) ?_);refine zi (id:=28) ((Zax∘Zd) ?_);refine zi (id:=29) ((Za∘ZaU) ?_);exact jz (mid+mm-e,mid) Since.refl ⟨⟨hmm,he,by dsimp only;omega,by dsimp only;omega,Nat.le_refl _,by dsimp only;omega,.inr M,.inr Z⟩,by dsimp only;omega⟩ Z ⟨Z,Z,Z,Z,Z,Z,Z,Z,Z,Z,trivial⟩
  ·refine zi (id:=27) ((Zb∘ZD∘Zc7∘ZdU∘Zd) ?_);refine zi (id:=31) ((Za∘ZaU) ?_);exact jz (a,mm) Since.refl ⟨⟨hmm,he,Nat.le_refl _,by dsimp only;omega,by dsimp only;omega,Nat.le_refl _,.inl Z,.inl Z⟩,by dsimp only;omega⟩ Z ⟨Z,Z,Z,Z,Z,Z,Z,Z,Z,Z,trivial⟩
 case rest=>
 rintro⟨lo,hi⟩ ⟨hb,hlh⟩;dsimp only at hb hlh |-;have hp:IntKind.i64.wrap (((mid+mm:Nat):Int)-1)=((mid+mm-1:Nat):Int):=yz I I |>.trans I;refine Ze (h:=?_);refine zi (id:=32) ((Za∘Za6∘Zc∘Zam) ?_)
 refine xo (fun s:Nat×Nat=>[(0,.is (.slice (some ⟨b,0,none⟩) m cap)),(1,.is (.int .i64 a)),(2,.is (.int .i64 mm)),(3,.is (.int .i64 e)),(4,.is Bo),(18,.is (.int .i64 mid)),(19,.is (.int .i64 (mid+mm:Nat))),(20,.is (.int .i64 s.1)),(21,.is (.int .i64 s.2)),(22,.is (.int .i64 (mid+mm-1:Nat))),(900,.own (xk b ((P++(X++(Y++R))).flatMap ccs++rest) tyC))])
  (fun s=>SymI (fun c:CH=>c.1) jm X Y a mid lo hi s.1 s.2) (fun s=>s.2-s.1) (lo,hi) (SymI.start hlh) ⟨rfl,rfl,rfl,rfl,rfl,rfl,rfl,rfl,rfl,rfl,rfl,nm⟩ ?_
 rintro⟨i,j⟩ hI;dsimp only at hI |-;have hI':=hI;have hb':=hb;obtain⟨b1,b2,b3,b4,b5,b6,_,_⟩:=hb';obtain⟨i1,i2,i3,_,_⟩:=hI';by_cases hlt:i<j
 ·have hsc:=Ao i j;obtain⟨c,hc⟩:∃ c,(i+j)/2=c:=⟨_,rfl⟩
  rw[hc] at hsc;obtain⟨x,hxc⟩:=xw (l:=X) (show c-a<X.length by omega);obtain⟨y,hyc⟩:=xw (l:=Y) (show mid-1-c<Y.length by omega);have q1:=ww (rest:=rest) (zfa (D:=R) ha hmm hyc (mid+mm-1-c) I) (0+(mid+mm-1-c)*7) I;have q2:=ww (rest:=rest) (za6 (D:=Y++R) ha hxc c I) (0+c*7) I;have hpc:IntKind.i64.wrap (((mid+mm-1:Nat):Int)-(c:Int))=((mid+mm-1-c:Nat):Int):=yz I I |>.trans I;by_cases hcm:jm y.1 x.1<0
  ·refine Zh (h:=?_);refine zi (id:=33) ((Zb∘ZaH∘ZcR) ?_);refine zi (id:=34) ((Zb∘ZbZ) ?_);refine z8 (ku Z Z Z wl.1 wl.2 (wrap_u64 I I)) Z (Zde (h:=?_));refine z8 (ku Z Z Z wm.1 wm.2 (yz I I)) Z (Zc (h:=?_));refine qh (id:=35) [(200164,[900]),(200168,[900])] x8 T ((Zn∘ZbC∘Zm) ?_);refine qq (kj L (q:=900) (vs:=[_,_,_,_,_,_,_]) Z Z Z Z q1) Z Z (ZJ (h:=?_));refine qq (kj L (q:=900) (vs:=[_,_,_,_,_,_,_]) Z Z Z Z q2) Z Z (zh1 L Z (fun u H hH _=>fg hH) ?_);refine(Zc8∘ZaA∘ZaY) ?_;refine zi (id:=37) ((Za∘Zal) ?_);exact ym (x:=(i,j)) (i,c) (hI.down cmpT_ord hX hY hb I I hxc hyc hcm) M ⟨Z,Z,Z,Z,Z,Z,Z,Z,Z,Z,Z,nm⟩
  ·refine Zh (h:=?_);refine zi (id:=33) ((Zb∘ZaH∘ZcR) ?_);refine zi (id:=34) ((Zb∘ZbZ) ?_);refine z8 (ku Z Z Z wl.1 wl.2 (wrap_u64 I I)) Z (Zde (h:=?_));refine z8 (ku Z Z Z wm.1 wm.2 (yz I I)) Z (Zc (h:=?_));refine qh (id:=35) [(200164,[900]),(200168,[900])] x8 T ((Zn∘ZbC∘Zm) ?_);refine qq (kj L (q:=900) (vs:=[_,_,_,_,_,_,_]) Z Z Z Z q1) Z Z (ZJ (h:=?_));refine qq (kj L (q:=900) (vs:=[_,_,_,_,_,_,_]) Z Z Z Z q2) Z Z (zh1 L Z (fun u H hH _=>fg hH) ?_);refine(Zdp∘ZaA∘Zc4) ?_;refine zi (id:=36) ((Za∘ZbZ∘Zal) ?_);exact ym (x:=(i,j)) (c+1,j) (hI.up cmpT_ord hX hY hb I I hxc hyc hcm) M ⟨Z,Z,Z,Z,Z,Z,Z,Z,Z,Z,Z,nm⟩
 ·obtain rfl:i=j:=by omega
  have hj:=Yr cmpT_ord hX hY hb hI;have hen:IntKind.i64.wrap (((mid+mm:Nat):Int)-(i:Int))=((mid+mm-i:Nat):Int):=yz I I |>.trans I;refine Zh (h:=?_);refine zi (id:=33) ((Zb∘Z0∘ZaR) ?_);refine zi (id:=38) ((Zax∘Zi) ?_);have eX:X.take (i-a)++X.drop (i-a)=X:=zli _ _;have eY:Y.take (mid-i)++Y.drop (mid-i)=Y:=zli _ _;have lA1:(X.take (i-a)).length=i-a:=by rw[mw];omega
  have lA2:(X.drop (i-a)).length=mm-i:=by rw[zlc];omega
  have lB1:(Y.take (mid-i)).length=mid-i:=by rw[mw];omega
  have lB2:(Y.drop (mid-i)).length=e-(mid+mm-i):=by rw[zlc];omega
  generalize X.take (i-a)=A1 at *;generalize X.drop (i-a)=A2 at *;generalize Y.take (mid-i)=B1 at *;generalize Y.drop (mid-i)=B2 at *
  change stC (A1++B1)++stC (A2++B2)=stC (X++Y) at hj
  rw[<-hj];subst eX eY;obtain⟨sA1,sA2,_⟩:=lq.1 hX;obtain⟨sB1,sB2,_⟩:=lq.1 hY;clear hI hb hj hX hY;obtain⟨en,hend⟩:∃ en,mid+mm-i=en:=⟨_,rfl⟩
  rw[hend] at lB2 |-;have e0:P++((A1++A2)++((B1++B2)++R))=(P++A1)++(A2++(B1++(B2++R))):=by simp
  have e1:(P++A1)++(B1++(A2++(B2++R)))=P++(A1++(B1++(A2++(B2++R)))):=by simp
  have hlen1:((P++A1)++(A2++(B1++(B2++R)))).length=m:=by rw[<-e0];exact hm
  have hlen2:(P++(A1++(B1++(A2++(B2++R))))).length=m:=by simp only[nr] at hm' |-;omega
  have hl3:=cu (A1++B1);rw[nr] at hl3;have e3:P++(stC (A1++B1)++(A2++(B2++R)))=(P++stC (A1++B1))++(A2++(B2++R)):=by simp
  have hlen3:((P++stC (A1++B1))++(A2++(B2++R))).length=m:=by simp only[nr] at hm' |-;omega
  have e4:(P++stC (A1++B1))++(stC (A2++B2)++R)=P++((stC (A1++B1)++stC (A2++B2))++R):=by simp
  simp only[nr] at hm' hmm he hN;refine ii (fun _:Unit=>[(0,.is (.slice (some ⟨b,0,none⟩) m cap)),(1,.is (.int .i64 a)),(3,.is (.int .i64 e)),(4,.is Bo),(18,.is (.int .i64 mid)),(20,.is (.int .i64 i)),(24,.is (.int .i64 en)),(900,.own (xk b ((P++(A1++(B1++(A2++(B2++R))))).flatMap ccs++rest) tyC))]) (fun _=>True) (fun _=>[]) ?rest1 ?first1
  case first1=>
   rw[e0];by_cases h1:i<mm
   ·by_cases h2:mm<en
    ·refine zi (id:=39) ((Zb∘Zai∘Zz∘Zai∘Zg∘ZE) ?_);refine zi (id:=40) ((Zb∘Zz) ?_);refine q0 (yq L 900 (xa b (((P++A1)++(B1++(A2++(B2++R)))).flatMap ccs++rest) tyC) (r:=xa b (((P++A1)++(A2++(B1++(B2++R)))).flatMap ccs++rest) tyC) Z Z Z Z Z (fun u H C hH _ hr hC=>(by have h:=zdz (cap:=cap) (a:=i) (mm:=mm) (e:=en) (by rw[nr];omega) I I I I hlen1 hm1 Bo hH hr hC;exact h))) ?_;refine ZS (h:=?_);rw[e1];exact jz () nq trivial Z ⟨Z,Z,Z,Z,Z,Z,Z,Z,nm⟩
    ·have hB1:B1=[]:=m6 I;subst hB1;have e9:(P++A1)++(A2++([]++(B2++R)))=P++(A1++([]++(A2++(B2++R)))):=by simp
     rw[e9];refine zi (id:=39) ((Zb∘Zai∘Zz∘Z0∘Zg∘ZZ) ?_);exact jz () nq trivial Z ⟨Z,Z,Z,Z,Z,Z,Z,Z,nm⟩
   ·have hA2:A2=[]:=m6 I;subst hA2;have e9:(P++A1)++([]++(B1++(B2++R)))=P++(A1++(B1++([]++(B2++R)))):=by simp
    rw[e9];refine zi (id:=39) ((Zb∘Z0∘Zbr∘ZZ) ?_);exact jz () nq trivial Z ⟨Z,Z,Z,Z,Z,Z,Z,Z,nm⟩
  case rest1=>
  rintro _ _;refine Zh (h:=?_);refine ii (fun _:Unit=>[(0,.is (.slice (some ⟨b,0,none⟩) m cap)),(3,.is (.int .i64 e)),(4,.is Bo),(18,.is (.int .i64 mid)),(24,.is (.int .i64 en)),(900,.own (xk b (((P++stC (A1++B1))++(A2++(B2++R))).flatMap ccs++rest) tyC))]) (fun _=>True) (fun _=>[]) ?rest2 ?first2
  case first2=>
   rw[<-e3];by_cases h1:a<i
   ·by_cases h2:i<mid
    ·refine zi (id:=41) ((Zb∘Zai∘Zz∘Zai∘Zg∘ZE) ?_);refine zi (id:=42) ((Zb∘Zz) ?_);refine q0 (yq L 900 (xa b ((P++(stC (A1++B1)++(A2++(B2++R)))).flatMap ccs++rest) tyC) (r:=xa b ((P++(A1++(B1++(A2++(B2++R))))).flatMap ccs++rest) tyC) Z Z Z Z Z (fun u H C hH _ hr hC=>(by have h:=ih (cap:=cap) (a:=a) (mm:=i) (e:=mid) I ha I I I I sA1 sB1 hlen2 hm1 hH hr hC;exact h))) ?_;refine ZS (h:=?_);exact jz () nq trivial Z ⟨Z,Z,Z,Z,Z,Z,nm⟩
    ·have hB1:B1=[]:=m6 I;subst hB1;have e9:P++(A1++([]++(A2++(B2++R))))=P++(stC (A1++[])++(A2++(B2++R))):=by rw[mo,E1 sA1];rfl
     rw[e9];refine zi (id:=41) ((Zb∘Zai∘Zz∘Z0∘Zg∘ZZ) ?_);exact jz () nq trivial Z ⟨Z,Z,Z,Z,Z,Z,nm⟩
   ·have hA1:A1=[]:=m6 I;subst hA1;have e9:P++([]++(B1++(A2++(B2++R))))=P++(stC ([]++B1)++(A2++(B2++R))):=by rw[mh,mh,E1 sB1]
    rw[e9];refine zi (id:=41) ((Zb∘Z0∘Zbr∘ZZ) ?_);exact jz () nq trivial Z ⟨Z,Z,Z,Z,Z,Z,nm⟩
  case rest2=>
  rintro _ _;by_cases h1:mid<en
  ·by_cases h2:en<e
   ·refine Ze (h:=?_);refine zi (id:=43) ((Zb∘Zai∘Zz∘Zai∘Zg∘ZE) ?_);refine zi (id:=44) ((Zb∘Zz) ?_);refine q0 (yq L 900 (xa b (((P++stC (A1++B1))++(stC (A2++B2)++R)).flatMap ccs++rest) tyC) (r:=xa b (((P++stC (A1++B1))++(A2++(B2++R))).flatMap ccs++rest) tyC) Z Z Z Z Z (fun u H C hH _ hr hC=>(by have h:=ih (cap:=cap) (a:=mid) (mm:=en) (e:=e) I (by rw[nr];omega) I I I I sA2 sB2 hlen3 hm1 hH hr hC;exact h))) ?_;refine ZS (h:=?_);rw[e4];exact xp L 900 (r:=xa b _ tyC) Z (fun _ _ h=>h) nq Z Z
   ·have hB2:B2=[]:=m6 I;subst hB2;have e9:(P++stC (A1++B1))++(A2++([]++R))=P++((stC (A1++B1)++stC (A2++[]))++R):=by rw[mo,E1 sA2];simp
    rw[e9];refine Ze (h:=?_);refine zi (id:=43) ((Zb∘Zai∘Zz∘Z0∘Zg∘ZZ) ?_);exact xp L 900 (r:=xa b _ tyC) Z (fun _ _ h=>h) nq Z Z
  ·have hA2:A2=[]:=m6 I;subst hA2;have e9:(P++stC (A1++B1))++([]++(B2++R))=P++((stC (A1++B1)++stC ([]++B2))++R):=by rw[mh,mh,E1 sB2];simp
   rw[e9];refine Ze (h:=?_);refine zi (id:=43) ((Zb∘Z0∘Zbr∘ZZ) ?_);exact xp L 900 (r:=xa b _ tyC) Z (fun _ _ h=>h) nq Z Z
end Go.V.L8
namespace Go.V.L8
open Go.V.L2 Go.V.L3 Go.V.L6
def _root_.Zdq(t:Wr Y->A:=by exact fun h=>(ZdE∘Zv) h.1)(h:Y):A:=t ⟨h⟩
abbrev chC(n:Nat)(l:List CH):List CH:=chL (fun c:CH=>c.1) jm n l
def Aq(hn:0<n)(l:List CH):chC n l=stC (l.take n)++chC n (l.drop n):=Gt hn l
def sj(hn:0<n)(h:l.length<=n):chC n l=stC l:=zfo hn h
def zfp(hn:0<n)(l:List CH):(chC n l).length=l.length:=Xe cmpT_ord hn l.length (ns _)
def S7(X Y:List CH):stC (stC X++stC Y)=stC (X++Y):=Yz cmpT_ord X Y
def Ag(X:List CH):zga (stC X):=(ue cmpT_ord X).1
attribute [local irreducible] V N X VO Par StepOK Has Ret RetL RetO RetT kr Src
def Y2{b cap:Nat}(hm:l.length=m)(hm1:m<=100000)(hB:zpk B w)
  (hr:(xa b (l.flatMap ccs++rest) tyC).P B w C) (hC:ZCB C w B):
  kr zpl 281 [.slice (some ⟨b,0,none⟩) m cap,.int .i64 m,Bo] w B C (xa b ((stC l).flatMap ccs++rest) tyC):=by
 unfold kr;refine yr 900 (xa b (l.flatMap ccs++rest) tyC) Tryz.func281 Z Tryz.ntmps281 (np Z) hB hr hC ?_;rw[xb];refine(Z5∘Za∘Za7∘Zam) ?_
 refine xo (fun s:Nat×List CH=>[(0,.is (.slice (some ⟨b,0,none⟩) m cap)),(1,.is (.int .i64 m)),(2,.is Bo),(6,.is (.int .i64 20)),(7,.is (.int .i64 s.1)),(8,.is (.int .i64 (s.1+20:Nat))),(900,.own (xk b ((s.2++l.drop s.1).flatMap ccs++rest) tyC))])
  (fun s=>s.2.length=s.1/\s.1<=m/\s.2++chC 20 (l.drop s.1)=chC 20 l) (fun s=>m-s.1) (0,[]) ⟨rfl,mf _,rfl⟩ ⟨rfl,rfl,rfl,rfl,rfl,rfl,rfl,nm⟩ ?_
 rintro⟨a,S1⟩ ⟨h1,h2,h3⟩;dsimp only at h1 h2 h3 |-;have hdl:(l.drop a).length=m-a:=by rw[zlc,hm]
 by_cases hlt:a+20<=m
 ·have e0:S1++l.drop a=S1++((l.drop a).take 20++(l.drop a).drop 20):=by rw[zli]
  have e1:S1++(stC ((l.drop a).take 20)++(l.drop a).drop 20)=(S1++stC ((l.drop a).take 20))++l.drop (a+20):=by rw[zmu,mj]
  have hlen:(S1++((l.drop a).take 20++(l.drop a).drop 20)).length=m:=by rw[<-e0,nr];omega
  have ltk:((l.drop a).take 20).length=20:=by rw[mw];omega
  have a1:IntKind.i64.wrap (((a+20:Nat):Int)+20)=((a+20+20:Nat):Int):=yz I I;rw[e0];refine(Zh∘ZbK∘Zcv∘Zcd∘Zcq∘Zb) ?_;refine q0 (yq L 900 (xa b ((S1++(stC ((l.drop a).take 20)++(l.drop a).drop 20)).flatMap ccs++rest) tyC) (r:=xa b ((S1++((l.drop a).take 20++(l.drop a).drop 20)).flatMap ccs++rest) tyC) Z Z Z Z Z (fun u H C hH _ hr hC=>(by have h:=ins_ret (cap:=cap) (a:=a) (e:=a+20) h1 I hlen hm1 hH hr hC;exact h))) ?_;refine(Zf∘Z2∘Zd∘Zb7∘Zv∘Zal) ?_;rw[e1]
  exact ym (x:=(a,S1)) (a+20,S1++stC ((l.drop a).take 20)) ⟨by dsimp only;rw[List.length_append,cu];omega,hlt,by
   dsimp only;rw[<-h3,Aq I (l.drop a),List.drop_drop,List.append_assoc]⟩ M ⟨rfl,rfl,rfl,rfl,rfl,rfl,rfl,nm⟩
 ·have e0:S1++l.drop a=S1++(l.drop a++[]):=by rw[mo]
  have e1:S1++(stC (l.drop a)++[])=chC 20 l:=by rw[mo,<-h3,sj I I]
  have hlen:(S1++(l.drop a++[])).length=m:=by rw[<-e0,nr];omega
  rw[e0];refine(Zh∘ZbK∘Zcp∘ZaR∘ZP∘Zbc) ?_;refine q0 (yq L 900 (xa b ((S1++(stC (l.drop a)++[])).flatMap ccs++rest) tyC) (r:=xa b ((S1++(l.drop a++[])).flatMap ccs++rest) tyC) Z Z Z Z Z (fun u H C hH _ hr hC=>(by have h:=ins_ret (cap:=cap) (a:=a) (e:=m) h1 I hlen hm1 hH hr hC;exact h))) ?_;refine ZcD (h:=?_);rw[e1];clear e0 e1 hlen hlt hdl h1 h2 h3;refine xo (fun s:Nat=>[(0,.is (.slice (some ⟨b,0,none⟩) m cap)),(1,.is (.int .i64 m)),(2,.is Bo),(6,.is (.int .i64 s)),(900,.own (xk b ((chC s l).flatMap ccs++rest) tyC))]) (fun s=>0<s/\s<=20+2*m) (fun s=>m-s) 20 ⟨by omega,by omega⟩ ⟨Z,Z,Z,Z,Z,nm⟩ ?_;rintro s ⟨hs0,hs1⟩;by_cases hsm:s<m
  ·refine(Zh∘Z8∘Zb∘ZaH∘ZcR∘Za4∘ZdE∘Za7∘Zam) ?_
   refine xo (fun t:Nat×List CH=>[(0,.is (.slice (some ⟨b,0,none⟩) m cap)),(1,.is (.int .i64 m)),(2,.is Bo),(6,.is (.int .i64 s)),(7,.is (.int .i64 t.1)),(8,.is (.int .i64 (t.1+2*s:Nat))),(900,.own (xk b ((t.2++chC s (l.drop t.1)).flatMap ccs++rest) tyC))])
    (fun t=>t.2.length=t.1/\t.1<=m/\t.2++chC (2*s) (l.drop t.1)=chC (2*s) l) (fun t=>m-t.1) (0,[]) ⟨rfl,Nat.zero_le _,rfl⟩ ⟨rfl,rfl,rfl,rfl,rfl,by dsimp only;rw[Nat.zero_add];rfl,rfl,trivial⟩ ?_
   rintro⟨a,S1⟩ ⟨h1,h2,h3⟩;dsimp only at h1 h2 h3 |-;have hdl:(l.drop a).length=m-a:=by rw[zlc,hm]
   have hcs:=Aq hs0 (l.drop a);by_cases hlt:a+2*s<=m
   ·have hcs2:=Aq hs0 ((l.drop a).drop s)
    have e0:S1++chC s (l.drop a)=S1++(stC ((l.drop a).take s)++(stC (((l.drop a).drop s).take s)++chC s (l.drop (a+2*s)))):=by
     rw[hcs,hcs2,zmu,zmu,show a+s+s=a+2*s by omega]
    have ht2:(l.drop a).take (2*s)=(l.drop a).take s++((l.drop a).drop s).take s:=by rw[show 2*s=s+s by omega,List.take_add]
    have e1:S1++(stC (stC ((l.drop a).take s)++stC (((l.drop a).drop s).take s))++chC s (l.drop (a+2*s)))=(S1++stC ((l.drop a).take (2*s)))++chC s (l.drop (a+2*s)):=by rw[S7,<-ht2,mj]
    have l1:(stC ((l.drop a).take s)).length=s:=by rw[cu,mw];omega
    have l2:(stC (((l.drop a).drop s).take s)).length=s:=by rw[cu,mw,zlc];omega
    have l3:(chC s (l.drop (a+2*s))).length=m-(a+2*s):=by rw[zfp hs0,zlc,hm]
    have hlen:(S1++(stC ((l.drop a).take s)++(stC (((l.drop a).drop s).take s)++chC s (l.drop (a+2*s))))).length=m:=by simp only[nr];omega
    have a1:IntKind.i64.wrap ((a:Int)+(s:Int))=((a+s:Nat):Int):=yz I I;have a2:IntKind.i64.wrap (((a+2*s:Nat):Int)+2*(s:Int))=((a+2*s+2*s:Nat):Int):=yz I I;rw[e0];refine(Zh∘ZQ∘Zb∘Zcv∘Zcd∘Zah∘Zbc∘Zv∘Zb) ?_;refine q0 (yq L 900 (xa b ((S1++(stC (stC ((l.drop a).take s)++stC (((l.drop a).drop s).take s))++chC s (l.drop (a+2*s)))).flatMap ccs++rest) tyC) (r:=xa b ((S1++(stC ((l.drop a).take s)++(stC (((l.drop a).drop s).take s)++chC s (l.drop (a+2*s))))).flatMap ccs++rest) tyC) Z Z Z Z Z (fun u H C hH _ hr hC=>(by have h:=Sx _ (cap:=cap) (a:=a) (mm:=a+s) (e:=a+2*s) (ns _) h1 I I I I (Ag _) (Ag _) hlen hm1 hH hr hC;exact h))) ?_;refine(Zf∘ZO∘Za∘Zd∘ZT∘Zb∘Zdq∘Zal) ?_;rw[e1]
    exact ym (x:=(a,S1)) (a+2*s,S1++stC ((l.drop a).take (2*s))) ⟨by dsimp only;rw[List.length_append,cu,List.length_take];omega,hlt,by
     dsimp only;rw[<-h3,Aq I (l.drop a),List.drop_drop,List.append_assoc]⟩ M ⟨rfl,rfl,rfl,rfl,rfl,rfl,rfl,nm⟩
   ·have a1:IntKind.i64.wrap ((a:Int)+(s:Int))=((a+s:Nat):Int):=yz I I;have a2:IntKind.i64.wrap ((s:Int)*2)=((2*s:Nat):Int):=yz I I |>.trans I;by_cases hlm:a+s<m
    ·have e0:S1++chC s (l.drop a)=S1++(stC ((l.drop a).take s)++(stC ((l.drop a).drop s)++[])):=by
      rw[hcs,sj hs0 (l:=(l.drop a).drop s) (by rw[zlc];omega),mo]
     have e1:S1++(stC (stC ((l.drop a).take s)++stC ((l.drop a).drop s))++[])=chC (2*s) l:=by
      rw[S7,zli,mo,<-h3,sj (n:=2*s) I I]
     have l1:(stC ((l.drop a).take s)).length=s:=by rw[cu,mw];omega
     have l2:(stC ((l.drop a).drop s)).length=m-a-s:=by rw[cu,zlc];omega
     have hlen:(S1++(stC ((l.drop a).take s)++(stC ((l.drop a).drop s)++[]))).length=m:=by simp only[nr,my];omega
     rw[e0];refine(Zh∘ZQ∘Zb∘Zcp∘ZaR∘Ze∘ZV∘Zb∘Zv∘Zc∘ZaV∘Zb∘ZaH∘Zaw∘Zb∘Zz) ?_;refine q0 (yq L 900 (xa b ((S1++(stC (stC ((l.drop a).take s)++stC ((l.drop a).drop s))++[])).flatMap ccs++rest) tyC) (r:=xa b ((S1++(stC ((l.drop a).take s)++(stC ((l.drop a).drop s)++[]))).flatMap ccs++rest) tyC) Z Z Z Z Z (fun u H C hH _ hr hC=>(by have h:=Sx _ (cap:=cap) (a:=a) (mm:=a+s) (e:=m) (ns _) h1 I I I I (Ag _) (Ag _) hlen hm1 hH hr hC;exact h))) ?_;refine(Z1∘Zad∘Za) ?_;refine z8 (T6 Z Z Z Z a2) Z (Zal (h:=?_));rw[e1];exact ym (x:=s) (2*s) ⟨by omega,by omega⟩ I ⟨Z,Z,Z,Z,Z,nm⟩
    ·have e1:S1++chC s (l.drop a)=chC (2*s) l:=by
      rw[<-h3,sj hs0 I,sj (n:=2*s) I I]
     rw[e1];refine(Zh∘ZQ∘Zb∘Zcp∘ZaR∘Ze∘ZV∘Zb∘Zv∘Zc∘ZaV∘Zb∘Z0∘ZZ∘Zbq∘Zad∘Za) ?_;refine z8 (T6 Z Z Z Z a2) Z (Zal (h:=?_));exact ym (x:=s) (2*s) ⟨by omega,by omega⟩ I ⟨Z,Z,Z,Z,Z,nm⟩
  ·rw[sj hs0 I];refine(Zh∘Z8∘Zb∘Z0∘Za9∘Za2) ?_;exact xp L 900 (r:=xa b _ tyC) Z (fun _ _ h=>h) nq Z Z
abbrev SSF:Nat:=229
def Tc{b cap:Nat}(hm:l.length=m)(hm1:m<=100000)(hB:zpk B w)
  (hr:(xa b (l.flatMap ccs++rest) tyC).P B w C) (hC:ZCB C w B):
  kr zpl SSF [.slice (some ⟨b,0,none⟩) m cap,Bo] w B C (xa b ((stC l).flatMap ccs++rest) tyC):=by
 unfold kr;refine yr 900 (xa b (l.flatMap ccs++rest) tyC) Tryz.func229 Z Tryz.ntmps229 (np Z) hB hr hC ?_;rw[xb];refine(ZeL∘Zb∘Zcl∘Za) ?_;refine q0 (yq L 900 (xa b ((stC l).flatMap ccs++rest) tyC) (r:=xa b (l.flatMap ccs++rest) tyC) Z Z Z Z Z (fun u H C hH _ hr hC=>(by have h:=Y2 (cap:=cap) hm hm1 hH hr hC;exact h))) ?_;refine ZS (h:=?_);exact xp L 900 (r:=xa b _ tyC) Z (fun _ _ h=>h) nq Z Z
def za3(hB:zpk B w):Ret zpl 310 [.slice none 0 0,.int .i64 0,.int .i64 0,Bo] w B (fun _ _=>True):=by
 refine yf Tryz.func310 Z Tryz.ntmps310 (np Z) hB ((ZL∘Za∘ZbZ∘Zbt) ?_);refine xo (fun _:Nat=>[(2,.is (.int .i64 0)),(8,.is (.int .i64 1))]) (fun _=>True) (fun s=>s) 0 trivial ⟨Z,Z,nm⟩ ?_;rintro s _;refine(Zh∘Z4∘Zb∘Z0∘Za9∘Za2) ?_;exact Xw L Z (fun _ _ h=>h) nq
def S6(hB:zpk B w):Ret zpl 281 [.slice none 0 0,.int .i64 0,Bo] w B (fun _ _=>True):=by
 refine yf Tryz.func281 Z Tryz.ntmps281 (np Z) hB ((Z5∘Za∘Za7∘Zam) ?_);refine xo (fun _:Nat=>[(0,.is (.slice none 0 0)),(1,.is (.int .i64 0)),(2,.is Bo),(6,.is (.int .i64 20)),(7,.is (.int .i64 0)),(8,.is (.int .i64 20))]) (fun _=>True) (fun s=>s) 0 trivial ⟨Z,Z,Z,Z,Z,Z,nm⟩ ?_;rintro s _;refine(Zh∘ZbK∘Zcp∘ZaR∘ZP∘Zbc) ?_;refine z8 (xi (φ:=fun _ _=>True) L Z Z (zo Z) Z Z Z (fun _ _ _ _ _=>trivial) (fun u H hH _ _=>za3 hH)) Z (ZcD (h:=?_));refine xo (fun _:Nat=>[(1,.is (.int .i64 0)),(6,.is (.int .i64 20))]) (fun _=>True) (fun s=>s) 0 trivial ⟨Z,Z,nm⟩ ?_;rintro s _;refine(Zh∘Z8∘Zb∘Z0∘Za9∘Za2) ?_;exact Xw L Z (fun _ _ h=>h) nq
def Qp(hB:zpk B w):Ret zpl SSF [.slice none 0 0,Bo] w B (fun _ _=>True):=by
 refine yf Tryz.func229 Z Tryz.ntmps229 (np Z) hB ((ZeL∘Zb∘Zcl∘Za) ?_);refine z8 (xi (φ:=fun _ _=>True) L Z Z (zo Z) Z Z Z (fun _ _ _ _ _=>trivial) (fun u H hH _ _=>S6 hH)) Z (ZS (h:=?_));exact Xw L Z (fun _ _ h=>h) nq
def Vs{s:List U}(h0:cE 32 l=0)(h:∀ (j:Nat) x,j<i->l[j]?=some x->t8 s x=true)(hc:l[i]?=some c)(hh:t8 s c=false):ov s l=(i,13):=by
 unfold ov;rw[if_pos h0];exact Rs h hc hh
def Rr{s:List U}(h0:cE 32 l=0)(h:∀ (j:Nat) x,l[j]?=some x->t8 s x=true):ov s l=(l.length,0):=by
 unfold ov;rw[if_pos h0];exact Rt fun x hx=>let ⟨j,hj⟩:=List.getElem?_of_mem hx;h j x hj
def Gu{l:List CH}(hz:∀ c∈l,TM c.1)(hl:l.length<=9223372036854775807){e:Int}(he:cE 32 l=e)(hB:zpk B w)(hv:KS tyC l fu v B):
  Ret zpl 192 [v] w B (fun r _=>r=.int .i64 e):=by
 obtain⟨p,m,c,rfl⟩:=Hu hv;refine yf Tryz.func192 Z Tryz.ntmps192 (np Z) hB ((ZA∘Zc) ?_);refine Cw 1 rfl fun q H1 hs1 ⟨b,hpb,hb1⟩=>?_;subst hpb;refine(Z4∘ZaO) ?_;refine Et 3 (KS tyC l fu) Z ma (hv.le hs1.le) ((Zdu∘Za8) ?_);refine z81 L Z (fun u H hH hle=>Dx (caps:=[.pointer (some ⟨b,0,none⟩)]) hz hl Z he hH (fun i c hc u' H' hH' hle'=>zfq hc hH' (hle' _ _ (hle _ _ hb1)) ((hv.le hs1.le).le (Heap.Le.trans hle hle')))) ?_;refine Zd (h:=?_);refine ye L (rs:=[.tmp 2]) Z (fun _ _ h=>h) hs1 fun u H hH hle=>?_;rfl
def La{s:List U}{b:Bool}(hb:t8 s c=b)(hB:zpk B w)(hv:SetV s v B):Ret zpl 254 [v,chv c.1 c.2] w B (fun r _=>r=.bool b):=by
 subst hb;obtain⟨x,d⟩:=c;obtain⟨f1,p1,f2,q1,rfl,hpl⟩:=hv.shape;obtain⟨h,hh⟩:∃ h,decide (x∈s)=h:=⟨_,rfl⟩
 unfold t8;dsimp only;rw[hh];refine yf Tryz.func254 Z Tryz.ntmps254 (np Z) hB ((ZaQ∘Zc∘Zcu∘Zdh∘Zbi∘ZbA) ?_);refine zh1 L Z (fun u H hH hle=>jo hh hH (hv.le hle)) ?_;refine(Zb0∘Zey∘Za3) ?_;refine ye1 L [.tmp 4] fun u H hH hle=>?_;cases h<;>cases d<;>rfl
def first_ret{s:List U}{l:List CH}(hz:∀ c∈l,TM c.1)(hl:l.length<=9223372036854775807){r:Nat}{e:Int}(hr:ov s l=(r,e))(hB:zpk B w)(hs:SetV s sv B)(hv:KS tyM l fu v B):
  Ret zpl 193 [sv,v] w B (fun x _=>x=.tuple #[.int .i64 r,.int .i64 e]):=by
 obtain⟨f1,p1,f2,q1,rfl,hpl⟩:=hs.shape;refine yf Tryz.func193 Z Tryz.ntmps193 (np Z) hB (ju 1 (KS tyM l fu) Z ma hv ?_);by_cases h0:cE 32 l=0
 ·refine(ZA∘Zp∘Zaa∘Zk) ?_;refine z8 (zy L Z Z (zo Z) Z Z Z (fun u H hH _ _ v1 h1=>a7 hz hl h0 hH h1)) Z ((Zb2∘ZG∘Z6∘Z9∘Zcb) ?_);refine xo (fun i:Nat=>[(1,.sat (KS tyM l fu)),(2,.sat (At [f1,.pointer p1,f2,.pointer q1] tp 0)),(14,.sat (KS tyM l fu)),(15,.is (.int .i64 l.length)),(16,.is (.int .i64 i))]) (fun i=>i<=l.length/\∀ (j:Nat) x,j<i->l[j]?=some x->t8 s x=true) (fun i=>l.length-i) 0 ⟨mf _,fun j c h=>ni h (Nat.not_lt_zero _)⟩ ⟨Z,Z,Z,Z,Z,nm⟩ ?_;rintro i ⟨hi,hok⟩;by_cases hlt:i<l.length
  ·obtain⟨c,hc0⟩:=xw hlt;have hc:=C8 hc0;cases hh:t8 s c
   ·rw[Vs h0 hok hc0 hh] at hr;cases hr;refine(Ze∘ZY∘Zx∘ZH∘Zab∘ZcB∘Z7∘Zp∘ZaD∘Zf∘Z8∘ZcW∘ZcK) ?_;refine z81 L Z (fun u H hH hle=>La hh hH (hs.le hle)) ?_;refine(Zt∘Zr∘Za4∘ZB) ?_;exact ye2 L [.tmp 4,.tmp 5]
   ·refine(Ze∘ZY∘Zx∘ZH∘Zab∘ZcB∘Z7∘Zp∘ZaD∘Zf∘Z8∘ZcW∘ZcK) ?_;refine z81 L Z (fun u H hH hle=>La hh hH (hs.le hle)) ?_;refine(Zt∘Zca∘ZQ∘Zbh) ?_
    exact ym (x:=i) (i+1) ⟨hlt,fun j c' hj hc'=>by
     rcases m8 j i with h | h
     ·exact hok j c' h hc'
     ·have:j=i:=I;subst this;rw[hc0] at hc';cases hc';exact hh⟩ I ⟨rfl,rfl,rfl,rfl,rfl,nm⟩
  ·rw[Rr h0 (fun j x hj=>hok j x (by have:=get_lt hj;omega) hj)] at hr;cases hr;refine(Ze∘ZY∘ZaK∘Zah∘Zo∘ZB) ?_;exact ye2 L [.tmp 4,.tmp 5]
 ·have:ov s l=(0,cE 32 l):=nc h0;rw[this] at hr;cases hr;refine(ZA∘Zp∘Zaa∘Zk) ?_;refine z8 (zy L Z Z (zo Z) Z Z Z (fun u H hH _ _ v1 h1=>a7 hz hl Z hH h1)) Z ((Zb2∘Zao∘Zu∘ZB) ?_);exact ye2 L [.tmp 4,.tmp 5]
def _root_.Zcn(t:Wr Y->A:=by intro h;refine zh (zz L (vs:=[_,_,_,_]) (qs Z) Z Z Z Z ⟨_,rfl⟩) Z ?_;exact h.1)(h:Y):A:=t ⟨h⟩
def _root_.ZcL(t:Wr Y->A:=by intro h;refine q0 (ub L Z Z Z (o6 Z) Z ziv Z Z I I) ?_;exact h.1)(h:Y):A:=t ⟨h⟩
def _root_.ZdJ(t:Wr Y->A:=by intro h;refine z8 (zz L (vs:=[_,_,_,_,_,_,_]) (A6 Z (List.Mem.head _)) Z Z Z Z ⟨_,rfl⟩) Z ?_;exact h.1)(h:Y):A:=t ⟨h⟩
def _root_.ZcM(t:Wr Y->A:=by intro h;refine zh (Uf Z Z Z Z bt4 Z) Z ?_;exact h.1)(h:Y):A:=t ⟨h⟩
def _root_.Zeh(t:Wr Y->A:=by intro h;refine zh (zz L (vs:=[_,_,_,_,_,_]) (A6 Z (List.Mem.head _)) Z Z Z Z ⟨_,rfl⟩) Z ?_;exact h.1)(h:Y):A:=t ⟨h⟩
def _root_.ZdK(t:Wr Y->A:=by intro h;refine zh (qf L (A6 Z (List.Mem.head _)) Z Z Z Z) Z ?_;exact h.1)(h:Y):A:=t ⟨h⟩
def zh8{l:List CH}(h:cE n l=0):l.length<=n/\∀ c∈l,tE c.1=0:=by
 unfold cE at h;split at h
 ·exact ni h J
 ·split at h
  ·exact ni h J
  ·rename_i h1 h2;refine⟨by omega,fun c hc=>?_⟩;by_cases h0:tE c.1=0
   ·exact h0
   ·exact ni (zn1.2 ⟨c,hc,by simp [h0]⟩) h2
def De(h:chk s=0):s.size<=1099511627776:=by
 unfold chk at h;split at h
 ·rename_i h1;omega
 ·exact ni h J
def Yf(h:tE t=0):TZ t:=by
 unfold tE at h;split at h
 ·rename_i h1;obtain⟨c1,c2,c3⟩:=Ls h1;obtain⟨d1,d2,d3⟩:=gu h;refine⟨⟨De c1,De c2,De c3⟩,De d1,De d2,?_⟩;rcases d3 with d3 | d3
  ·rw[d3];exact mf _
  ·exact De d3
 ·rename_i h1;exact ni h h1
def zid(t:List U)(made:List CH)(e:Int)(r:Value)(H:Heap):Prop:=∃ tv mv,r=.tuple #[tv,mv,.int .i64 e]/\SetV t tv H/\KS tyC made true mv H
def Xa(hB:zpk B w)(hv:KS tyC l fu v B):Ret zpl 194 [v] w B (KS tyC l true):=by
 refine yf Tryz.func194 Z Tryz.ntmps194 (np Z) hB (ju 0 (KS tyC l fu) Z ma hv ((Z5∘Zk∘Zo∘Zo∘Zdz∘ZX∘Z1) ?_));refine ye1 L [.tmp 2] fun u H hH hle=>?_;exact fun v hv=>hv
set_option maxRecDepth 10000 in
def write_ret{s t:List U}{l cs made:List CH}{fl fc:Bool}{e:Int}(zl:∀ c∈l,TM c.1)(zc:∀ c∈cs,TM c.1)(ll:l.length<=9223372036854775807)(lc:cs.length<=9223372036854775807)(hsl:s.length<=4096)(hr:zb5 s l cs=(t,made,e)){lv cv:Value}(hB:zpk B w)
  (hs:SetV s sv B) (hl:KS tyM l fl lv B) (hc:KS tyC cs fc cv B):Ret zpl 121 [sv,lv,cv] w B (zid t made e):=by
 obtain⟨f1,p1,f2,q1,rfl,hpl⟩:=hs.shape;refine yf Tryz.func121 Z Tryz.ntmps121 (np Z) hB (ju 1 (KS tyM l fl) Z ma hl (ju 2 (KS tyC cs fc) Z ma hc ?_));unfold zb5 at hr;by_cases h1:cE 32 l=0
 ·rw[na h1] at hr;by_cases h2:cE 32 cs=0
  ·rw[na h2] at hr;obtain⟨r,e1,hf⟩:∃ r e1,ov s l=(r,e1):=⟨_,_,rfl⟩
   rw[hf] at hr;dsimp only at hr;by_cases h3:e1=0
   ·subst h3;rw[na rfl] at hr;obtain⟨l32,hval⟩:=zh8 h2;refine(Zba∘Z7∘Zp∘Zaa∘Zk) ?_;refine z8 (zy L Z Z (zo Z) Z Z Z (fun u H hH _ _ v1 g1=>a7 zl ll h1 hH g1)) Z ((Zb2∘ZG∘Z6∘Z9∘Zk) ?_);refine z8 (zy L Z Z (zo Z) Z Z Z (fun u H hH _ _ v1 g1=>Gu zc lc h2 hH g1)) Z ((Zby∘ZG∘Z6∘Z8∘Zbp∘Zk) ?_);refine z8 (zy L Z Z (zo Z) Z Z Z (fun u H hH hle _ v1 g1=>first_ret zl ll hf hH (hs.le hle) g1)) Z ((ZaX∘Za4∘ZG∘Z6∘Zah∘Zcb) ?_);refine bn (X:=SXp) 3 (r:=fun x=>gj (scs x.1) tp) (φ:=Ah s) (k7 s) ⟨(f1,p1,f2,q1),hpl⟩ hs Z (cr 7 tyC 7 rfl ?_)
    refine xo (fun y:Nat×List U×List CH=>[(3,.own (ExR (fun x:SXp=>gj (scs x.1) tp) (Ah y.2.1) (k7 y.2.1))),(6,.own (gj [.nilFunc,.pointer none,.nilFunc,.pointer none] tp)),(7,.own (SlR tyC 7 y.2.2.length (y.2.2.flatMap ccs))),(40,.sat (KS tyC cs fc)),(41,.is (.int .i64 cs.length)),(42,.is (.int .i64 y.1))])
     (fun y=>y.1<=cs.length/\G7 y.2.1 y.2.2 (cs.drop y.1)=(t,made,e)/\y.2.1.length<=4096/\y.2.2.length<=y.1) (fun y=>cs.length-y.1) (0,s,[]) ⟨mf _,hr,hsl,ns _⟩ ⟨rfl,rfl,rfl,rfl,rfl,rfl,nm⟩ ?_
    clear hr hs hsl;rintro⟨k,s,md⟩ ⟨hk,he,hsl,hmd⟩;dsimp only at hk he hsl hmd |-;refine vu 3 rfl fun⟨⟨f1,p1,f2,q1⟩,hpl⟩ H3 hs3 hT=>?_;have hT:SetV s (.agg #[f1,.pointer p1,f2,.pointer q1]) H3:=hT;by_cases hlt:k<cs.length
    ·obtain⟨c,hc0⟩:=xw hlt;have hc:=C8 hc0;have hv:=hval c (zlg hc0);have hzt:=Yf hv;rw[eo hc0,G7] at he;obtain⟨x,d⟩:=c;dsimp only at hc hv hzt he;rcases hw:wa s x d with ⟨s',e'⟩
     rw[hw] at he;dsimp only at he;have hsl':=As hsl x d;rw[hw] at hsl';obtain⟨i,hin⟩:∃ i,decide (x∈s)=i:=⟨_,rfl⟩
     rw[hin] at he;by_cases h0:e'=0
     ·rw[na h0] at he;subst h0;cases i<;>cases d
      ·rw[na rfl] at he;refine(Ze∘ZO∘Zx∘ZT∘Zab∘ZcB∘Zbu) ?_;refine Aa 14 rfl fun b14 hb14=>?_;refine(ZdH∘Zcn∘Zag∘Zeh) ?_;refine zh1 L rfl (fun u H hH hle=>jo hin hH (hT.le hle)) ?_;refine(Zag∘ZdK∘ZcM∘Zaf∘ZU∘ZaV∘Zbp∘ZdJ) ?_;refine z8 (xi (φ:=WithP s' 0) L rfl rfl (zo rfl) rfl rfl rfl WithP.mono (fun u H hH hle _=>s6 hw hsl hzt hH (hT.le hle))) rfl (v6 56 rfl ?_);rintro _ H19 hs19 ⟨tv,rfl,hT19⟩;obtain⟨g1,r1,g2,r2,rfl,hpl2⟩:=hT19.shape;refine(Zy∘Z7∘ZbX∘Zi∘Zaw∘Za∘ZaE∘Zbn∘Zbp∘ZbX∘Zf∘Zbg∘Za∘ZE∘Zcj) ?_;refine q0 (yw (.inl rfl) rfl) ((ZdJ∘Zap∘ZcL) ?_);refine q0 (yw (.inr rfl) rfl) (ZbN (h:=?_));refine P3 (O':=[]) (zov _) ?_;refine(ZaP∘Zbh) ?_;exact ep (X:=SXp) 3 (r:=fun x=>gj (scs x.1) tp) (φ:=Ah s') (k7 _) ⟨(g1,r1,g2,r2),hpl2⟩ hT19 Z (wx (x:=(k,s,md)) (k+1,s',md++[(x,false)]) (hs3.trans hs19) ⟨hlt,he,hsl',by dsimp only;rw[List.length_append];show md.length+1<=k+1;omega⟩ M ⟨Z,Z,pf Z,Z,Z,Z,trivial⟩)
      ·rw[nc J] at he;refine(Ze∘ZO∘Zx∘ZT∘Zab∘ZcB∘Zbu) ?_;refine Aa 14 rfl fun b14 hb14=>?_;refine(ZdH∘Zcn∘Zag∘Zeh) ?_;refine zh1 L rfl (fun u H hH hle=>jo hin hH (hT.le hle)) ?_;refine(Zag∘ZdK∘ZcM∘Zaf∘ZU∘ZaV∘Zbp∘ZdJ) ?_;refine z8 (xi (φ:=WithP s' 0) L rfl rfl (zo rfl) rfl rfl rfl WithP.mono (fun u H hH hle _=>s6 hw hsl hzt hH (hT.le hle))) rfl (v6 56 rfl ?_);rintro _ H19 hs19 ⟨tv,rfl,hT19⟩;obtain⟨g1,r1,g2,r2,rfl,hpl2⟩:=hT19.shape;refine(Zy∘Z7∘ZbX∘Zi∘Zaw∘Za∘ZaE∘Zbn∘Zbp∘ZbX∘Zf∘Zbg∘Za∘Zca) ?_;refine P3 (O':=[]) (zov _) ?_;refine(ZaP∘Zbh) ?_;exact ep (X:=SXp) 3 (r:=fun x=>gj (scs x.1) tp) (φ:=Ah s') (k7 _) ⟨(g1,r1,g2,r2),hpl2⟩ hT19 Z (wx (x:=(k,s,md)) (k+1,s',md) (hs3.trans hs19) ⟨hlt,he,hsl',by dsimp only;omega⟩ M ⟨Z,Z,Z,Z,Z,Z,trivial⟩)
      ·rw[nc J] at he;refine(Ze∘ZO∘Zx∘ZT∘Zab∘ZcB∘Zbu) ?_;refine Aa 14 rfl fun b14 hb14=>?_;refine(ZdH∘Zcn∘Zag∘Zeh) ?_;refine zh1 L rfl (fun u H hH hle=>jo hin hH (hT.le hle)) ?_;refine(Zag∘ZdK∘ZcM∘Zaf∘ZU∘ZaV∘Zbp∘ZdJ) ?_;refine z8 (xi (φ:=WithP s' 0) L rfl rfl (zo rfl) rfl rfl rfl WithP.mono (fun u H hH hle _=>s6 hw hsl hzt hH (hT.le hle))) rfl (v6 56 rfl ?_);rintro _ H19 hs19 ⟨tv,rfl,hT19⟩;obtain⟨g1,r1,g2,r2,rfl,hpl2⟩:=hT19.shape;refine(Zy∘Z7∘ZbX∘Zi∘Zaw∘Za∘ZaE∘Zbn∘Zbp∘ZbX∘Zf∘Zbg∘Za∘Zca) ?_;refine P3 (O':=[]) (zov _) ?_;refine(ZaP∘Zbh) ?_;exact ep (X:=SXp) 3 (r:=fun x=>gj (scs x.1) tp) (φ:=Ah s') (k7 _) ⟨(g1,r1,g2,r2),hpl2⟩ hT19 Z (wx (x:=(k,s,md)) (k+1,s',md) (hs3.trans hs19) ⟨hlt,he,hsl',by dsimp only;omega⟩ M ⟨Z,Z,Z,Z,Z,Z,trivial⟩)
      ·rw[na rfl] at he;refine(Ze∘ZO∘Zx∘ZT∘Zab∘ZcB∘Zbu) ?_;refine Aa 14 rfl fun b14 hb14=>?_;refine(ZdH∘Zcn∘Zag∘Zeh) ?_;refine zh1 L rfl (fun u H hH hle=>jo hin hH (hT.le hle)) ?_;refine(Zag∘ZdK∘ZcM∘Zaf∘ZU∘ZaV∘Zbp∘ZdJ) ?_;refine z8 (xi (φ:=WithP s' 0) L rfl rfl (zo rfl) rfl rfl rfl WithP.mono (fun u H hH hle _=>s6 hw hsl hzt hH (hT.le hle))) rfl (v6 56 rfl ?_);rintro _ H19 hs19 ⟨tv,rfl,hT19⟩;obtain⟨g1,r1,g2,r2,rfl,hpl2⟩:=hT19.shape;refine(Zy∘Z7∘ZbX∘Zi∘Zaw∘Za∘ZaE∘Zbn∘Zbp∘ZbX∘Zf∘Zbg∘Za∘ZE∘Zcj) ?_;refine q0 (yw (.inl rfl) rfl) ((ZdJ∘Zap∘ZcL) ?_);refine q0 (yw (.inr rfl) rfl) (ZbN (h:=?_));refine P3 (O':=[]) (zov _) ?_;refine(ZaP∘Zbh) ?_;exact ep (X:=SXp) 3 (r:=fun x=>gj (scs x.1) tp) (φ:=Ah s') (k7 _) ⟨(g1,r1,g2,r2),hpl2⟩ hT19 Z (wx (x:=(k,s,md)) (k+1,s',md++[(x,true)]) (hs3.trans hs19) ⟨hlt,he,hsl',by dsimp only;rw[List.length_append];show md.length+1<=k+1;omega⟩ M ⟨Z,Z,pf Z,Z,Z,Z,trivial⟩)
     ·rw[nc h0] at he;cases he;refine(Ze∘ZO∘Zx∘ZT∘Zab∘ZcB∘Zbu) ?_;refine Aa 14 rfl fun b14 hb14=>?_;refine(ZdH∘Zcn∘Zag∘Zeh) ?_;refine zh1 L rfl (fun u H hH hle=>jo hin hH (hT.le hle)) ?_;refine(Zag∘ZdK∘ZcM∘Zaf∘ZU∘ZaV∘Zbp∘ZdJ) ?_;refine z8 (xi (φ:=WithP s' e) L rfl rfl (zo rfl) rfl rfl rfl WithP.mono (fun u H hH hle _=>s6 hw hsl hzt hH (hT.le hle))) rfl (v6 56 rfl ?_);rintro _ H19 hs19 ⟨tv,rfl,hT19⟩;obtain⟨g1,r1,g2,r2,rfl,hpl2⟩:=hT19.shape;refine(Zy∘Z7∘ZbX∘Zi∘Zaw∘Za∘Zao∘Zad∘ZcJ∘Za∘ZaD∘ZB) ?_;refine ye L (rs:=[.cell 6 91,.tmp 7,.tmp 8]) Z (fun _ _ h=>h) (hs3.trans hs19) fun u H hH hle=>?_;exact⟨_,qs Z,rfl,_,_,rfl,SetV.nil,SlV.nil⟩
    ·obtain rfl:k=cs.length:=by omega
     rw[zno,G7] at he;cases he;refine(Ze∘ZO∘ZaK) ?_;refine ax 7 rfl (qh (id:=21) [] x8 T ((Zcn∘Zak) ?_));refine zh (xi (φ:=KS tyC made true) L Z Z (zo Z) Z Z Z ma (fun u H hH _ _ v1 g1=>Xa hH g1)) Z (zh (qn L Z Z E Z) Z ((Zcr∘Za3) ?_));refine ye L (rs:=[.cell 6 91,.tmp 7,.tmp 8]) Z (fun _ _ h=>h) hs3 fun u H hH hle=>?_;exact⟨_,qs Z,rfl,fun mv hmv=>⟨_,mv,rfl,hT.le hle,hmv⟩⟩
   ·rw[nc h3] at hr;cases hr;refine(Zba∘Z7∘Zp∘Zaa∘Zk) ?_;refine z8 (zy L Z Z (zo Z) Z Z Z (fun u H hH _ _ v1 g1=>a7 zl ll h1 hH g1)) Z ((Zb2∘ZG∘Z6∘Z9∘Zk) ?_);refine z8 (zy L Z Z (zo Z) Z Z Z (fun u H hH _ _ v1 g1=>Gu zc lc h2 hH g1)) Z ((Zby∘ZG∘Z6∘Z8∘Zbp∘Zk) ?_);refine z8 (zy L Z Z (zo Z) Z Z Z (fun u H hH hle _ v1 g1=>first_ret zl ll hf hH (hs.le hle) g1)) Z ((ZaX∘Za4∘Zao∘ZQ∘ZcJ∘Za∘ZaD∘ZB) ?_);refine ye1 L [.cell 6 91,.tmp 7,.tmp 8] fun u H hH hle=>?_;exact⟨_,qs Z,rfl,_,_,rfl,SetV.nil,SlV.nil⟩
  ·rw[nc h2] at hr;cases hr;refine(Zba∘Z7∘Zp∘Zaa∘Zk) ?_;refine z8 (zy L Z Z (zo Z) Z Z Z (fun u H hH _ _ v1 g1=>a7 zl ll h1 hH g1)) Z ((Zb2∘ZG∘Z6∘Z9∘Zk) ?_);refine z8 (zy L Z Z (zo Z) Z Z Z (fun u H hH _ _ v1 g1=>Gu zc lc Z hH g1)) Z ((Zby∘Zao∘ZP∘ZcJ∘Za∘ZaD∘ZB) ?_);refine ye1 L [.cell 6 91,.tmp 7,.tmp 8] fun u H hH hle=>?_;exact⟨_,qs Z,rfl,_,_,rfl,SetV.nil,SlV.nil⟩
 ·rw[nc h1] at hr;cases hr;refine(Zba∘Z7∘Zp∘Zaa∘Zk) ?_;refine z8 (zy L Z Z (zo Z) Z Z Z (fun u H hH _ _ v1 g1=>a7 zl ll Z hH g1)) Z ((Zb2∘Zao∘ZR∘ZcJ∘Za∘ZaD∘ZB) ?_);refine ye1 L [.cell 6 91,.tmp 7,.tmp 8] fun u H hH hle=>?_;exact⟨_,qs Z,rfl,_,_,rfl,SetV.nil,SlV.nil⟩
def _root_.Zei(t:Wr Y->A:=by intro h;refine zh (yg Z Z Z Z (ng I)) Z ?_;exact h.1)(h:Y):A:=t ⟨h⟩
def _root_.Ze2(t:Wr Y->A:=by intro h;refine Zak (h:=?_);refine zh (yj L Z Z Z Z) Z ?_;exact h.1)(h:Y):A:=t ⟨h⟩
def _root_.Zfe(t:Wr Y->A:=by intro h;refine Zk (h:=?_);refine q0 (ub L Z Z Z (zbu Z) Z ziv E E I I) ?_;exact h.1)(h:Y):A:=t ⟨h⟩
def za1(l:List CH):c8 (stC l)=B4 l:=Vk (ue cmpT_ord l)
def K7:∀ (l:List CH),(c8 l).length<=l.length
 | []=>ns _
 | [c]=>ns _
 | c::d::r=>by
  show(if jm c.1 d.1=0 then c8 (d::r) else c::c8 (d::r)).length<=_;have:=K7 (d::r);split
  ·simp only[nz] at this |-;omega
  ·simp only[nz] at this |-;omega
def Ry(hz:l.length<=100000)(hB:zpk B w)(hv:KS tyC l fu v B):
  RetO zpl 227 [v] w B (SlR tyC 7 l.length (l.flatMap ccs)):=by
 have hv0:=hv;have hlen:=Co l;have hpl:=Pn l;obtain⟨p,c,rfl⟩:=jg hv;rcases p with _ | b
 ·obtain⟨h0,rfl⟩:l.length=0/\c=0:=E3 hv;have hn:l=[]:=m6 h0;subst hn;refine vz Tryz.func227 Z Tryz.ntmps227 (np Z) hB (ZbG (h:=?_));refine z8 (v0 Z Z Z Z zkd Z) Z ((ZbH∘Zd) ?_);exact cr 2 tyC 7 rfl (o9 Z (fun _ _ h=>h) nq Z)
 ·refine vz Tryz.func227 Z Tryz.ntmps227 (np Z) hB (ZbG (h:=?_));refine z8 (v0 Z Z Z Z zkd Z) Z (Zl (h:=?_));refine ju 0 (KS tyC l fu) Z ma hv0 (ZR (h:=?_));refine z8 (dv L Z Z Z Z Z) Z (Zfe (h:=?_));refine q0 (yw (.inr Z) Z) (Z1 (h:=?_));rw[zlf,mh];exact o9 Z (fun _ _ h=>h) nq Z
def Nj{m:List CH}(hm:B4 l=m)(hz:l.length<=50000)(hB:zpk B w)(hv:KS tyC l fu v B):
  Ret zpl 156 [v] w B (KS tyC m true):=by
 subst hm;have hsl:=cu l;refine yf Tryz.func156 Z Tryz.ntmps156 (np Z) hB (ju 0 (KS tyC l fu) Z ma hv ((Z5∘Zk) ?_));refine z8 (u5 L Z Z (zo Z) Z Z Z (fun u H hH _ _ v1 hv1=>Ry I hH hv1)) Z (q0 (yw (.inr Z) Z) ((Zf∘ZM∘Zc) ?_));refine sq 3 900 rfl (fun h0 hn=>?_) fun b cap rest hl hmc hcm hcl=>?_
 ·have hl0:l=[]:=m6 h0;subst hl0;refine Zcq (h:=?_);refine z8 (xi (φ:=fun _ _=>True) L Z Z (zo Z) Z Z Z (fun _ _ _ _ _=>trivial) (fun u H hH _ _=>Qp hH)) Z (Zf (h:=?_));refine ju 3 (KS tyC [] false) Z ma SlV.nil ((Z9∘Zk) ?_);refine z8 (jk L (kl:=.i64) (pl:=0) 0 0 true Z Z Z Z Z Z ⟨rfl,rfl⟩ ⟨rfl,rfl⟩ J J Z) Z ((ZX∘Zaz∘ZY∘Zcb) ?_);refine xo (fun _:Nat=>[(5,.sat (KS tyC [] true)),(15,.sat (KS tyC [] false)),(16,.is (.int .i64 0)),(17,.is (.int .i64 0))]) (fun _=>True) (fun s=>s) 0 trivial ⟨Z,Z,Z,Z,nm⟩ ?_;rintro s _;refine(ZaZ∘ZaK∘ZO∘Zk∘Zo∘Zo∘Zdz∘ZX∘Z1) ?_;refine ye1 L [.tmp 2] fun u H hH hle=>?_;exact fun v hv=>hv
 ·refine Zcq (h:=?_);refine q0 (yq L 900 (xa b ((stC l).flatMap ccs++rest) tyC) (r:=xa b (l.flatMap ccs++rest) tyC) Z Z Z Z Z (fun u H C hH _ hr hC=>(by have h:=Tc (cap:=cap) Z I hH hr hC;exact h))) ?_;refine Zf (h:=?_)
  refine g9 (xs:=(stC l).flatMap ccs) (rest:=rest) (s:=7) 3 900 rfl Z Z (by rw[Co,hsl]) hmc hcm (by
   rw[nr] at hcl |-;rw[Co] at hcl |-;rw[hsl];exact hcl) ?_
  rw[<-hsl];have hkn:=za1 l;have hkl:=K7 (stC l);rw[<-hkn];generalize stC l=S at *;refine ax 3 rfl ((Z9∘Zk) ?_);refine z8 (jk L (kl:=.i64) (pl:=0) 0 0 true Z Z Z Z Z Z ⟨rfl,rfl⟩ ⟨rfl,rfl⟩ I I Z) Z ((ZX∘Zaz∘ZY∘Zcb) ?_);refine Xu 5 (SlV tyC 7 [] 0 true) Z ma (fun v H h=>h) (zjx 5 rfl (xo (fun i:Nat×List CH=>[(3,.sat (KS tyC S false)),(4,.is Bo),(5,.own (SlG tyC 7 i.2.length (i.2.flatMap ccs))),(15,.sat (KS tyC S false)),(16,.is (.int .i64 S.length)),(17,.is (.int .i64 i.1))]) (fun i=>i.1<=S.length/\i.2.length<=i.1/\i.2++c8 (S.drop i.1)=c8 S) (fun i=>S.length-i.1) (0,[]) ⟨mf _,ns _,rfl⟩ ⟨Z,Z,Z,Z,Z,Z,nm⟩ ?_));rintro⟨i,kp⟩ ⟨h1,h2,h3⟩;dsimp only at h1 h2 h3 |-;by_cases hlt:i<S.length
  ·obtain⟨c,hc0⟩:=xw hlt;have hc:=C8 hc0;have hst:=Rn hc0;have a1:IntKind.i64.wrap ((i:Int)+1)=((i+1:Nat):Int):=yz I I;by_cases hlast:i+1<S.length
   ·obtain⟨d,hd0⟩:=xw hlast;have hd:=C8 hd0;rw[hd0] at hst;dsimp only at hst;by_cases heq:jm c.1 d.1=0
    ·rw[na heq,mh] at hst;refine(ZaZ∘Zx∘Z3∘Zab∘ZcB∘Z7∘Zp∘ZaD∘Zf∘Zc3∘Zj∘ZaW∘Ze2∘Zdm∘Zn∘Ze0∘Zak∘Zj∘ZaW∘ZbS) ?_;refine zh (yv L (vs:=[_,_,_,_,_,_,_]) Z Z Z Z Z ⟨_,rfl⟩) Z (zh1 L Z (fun u H hH _=>fg hH) ?_);refine(Zei∘Za5∘ZcY∘ZaB∘Zah∘Zv∘Zct) ?_;exact ym (x:=(i,kp)) (i+1,kp) ⟨hlt,by dsimp only;omega,by dsimp only;rw[<-hst];exact h3⟩ M ⟨Z,Z,Z,Z,Z,Z,trivial⟩
    ·rw[nc heq] at hst;refine(ZaZ∘Zx∘Z3∘Zab∘ZcB∘Z7∘Zp∘ZaD∘Zf∘Zc3∘Zj∘ZaW∘Ze2∘Zdm∘Zn∘Ze0∘Zak∘Zj∘ZaW∘ZbS) ?_;refine zh (yv L (vs:=[_,_,_,_,_,_,_]) Z Z Z Z Z ⟨_,rfl⟩) Z (zh1 L Z (fun u H hH _=>fg hH) ?_);refine zh (yg Z Z Z Z (nf I)) Z ((Zci∘ZQ) ?_);refine q0 (yw (.inl Z) Z) ((ZcK∘Zap) ?_);refine q0 (Dt L J Z Z Z (o6 Z) Z ziv Z Z I I) (q0 (yw (.inr Z) Z) ((ZbN∘Zah∘Zv∘Zct) ?_));exact ym (x:=(i,kp)) (i+1,kp++[c]) ⟨hlt,by dsimp only;rw[List.length_append,List.length_singleton];omega,by dsimp only;rw[List.append_assoc,<-hst];exact h3⟩ M ⟨Z,Z,by dsimp only;rw[List.flatMap_append,List.length_append];rfl,Z,Z,Z,trivial⟩
   ·have hend:i+1=S.length:=I;rw[zlu I] at hst;dsimp only at hst;refine(ZaZ∘Zx∘Z3∘Zab∘ZcB∘Z7∘Zp∘ZaD∘Zf∘Zc3∘Zj∘ZaW∘Ze2) ?_;refine zh (yh Z Z Z Z (nf I)) Z ((ZbV∘Zch∘Zci∘ZQ) ?_);refine q0 (yw (.inl Z) Z) ((ZcK∘Zap) ?_);refine q0 (Dt L J Z Z Z (o6 Z) Z ziv Z Z I I) (q0 (yw (.inr Z) Z) ((ZbN∘Zah∘Zv∘Zct) ?_));exact ym (x:=(i,kp)) (i+1,kp++[c]) ⟨hlt,by dsimp only;rw[List.length_append,List.length_singleton];omega,by dsimp only;rw[List.append_assoc,<-hst];exact h3⟩ M ⟨Z,Z,by dsimp only;rw[List.flatMap_append,List.length_append];rfl,Z,Z,Z,trivial⟩
  ·rw[zlk I,show c8 []=[] from rfl,mo] at h3;subst h3;refine zif 5 rfl ((ZaZ∘ZaK∘ZO∘Zk∘Zo∘Zo∘Zdz∘ZX∘Z1) ?_);refine ye1 L [.tmp 2] fun u H hH hle=>?_;exact fun v hv=>hv
end Go.V.L8
namespace Go.V.L3
open Go.V.L2
attribute [local irreducible] V N X VO Par StepOK Has Ret RetL RetO RetT Src
abbrev tyI:TypeId:=3
end Go.V.L3
namespace Go.V
def zcd(n:Nat):ByteArray:=match n%3 with
 | 0=>⟨#[100,111,99]⟩
 | 1=>⟨#[102,111,108,100,101,114]⟩
 | _=>⟨#[103,114,111,117,112]⟩
def idS(n:Nat):ByteArray:=match n%5 with
 | 0=>⟨#[97]⟩
 | 1=>⟨#[98]⟩
 | 2=>⟨#[99,49]⟩
 | 3=>⟨#[100]⟩
 | _=>⟨#[114,111,111,116]⟩
def zj8(n:Nat):ByteArray:=match n%4 with
 | 0=>⟨#[118,105,101,119,101,114]⟩
 | 1=>⟨#[101,100,105,116,111,114]⟩
 | 2=>⟨#[109,101,109,98,101,114]⟩
 | _=>⟨#[112,97,114,101,110,116]⟩
def zjo(n:Nat):(ByteArray×ByteArray)×ByteArray:=((zcd n,idS (n/3)),zj8 (n/15))
def _root_.Zej(t:Wr Y->A:=by intro h;refine z8 (zci Z Z Z Z I E) Z ?_;exact h.1)(h:Y):A:=t ⟨h⟩
def _root_.ZeQ(t:Wr Y->A:=by intro h;refine z8 (lf L 0 rfl Z Z Z Z Z Z I) Z ?_;exact h.1)(h:Y):A:=t ⟨h⟩
attribute [local irreducible] V N X VO Par StepOK Has Ret RetL Src
def id_ret(n:Nat)(hB:zpk B w):Ret zpl 68 [.int .i64 n] w B (fun v _=>v=.string (idS n)):=by
 unfold idS;have e:Int.tmod (n:Int) 5=((n%5:Nat):Int):=rfl;refine yf Tryz.func68 Z Tryz.ntmps68 (np Z) hB ?_;have hlt:=Nat.mod_lt n (show 0<5 by decide);rcases(by omega:n%5=0\/n%5=1\/n%5=2\/n%5=3\/n%5=4) with h | h | h | h | h
 ·have e0:Int.tmod (n:Int) 5=0:=by rw[e,h];rfl
  rw[h];refine(Z5∘Zap∘Za∘Zej∘ZeQ∘Zc6∘Zd) ?_;exact ye2 L [.tmp 2]
 ·have e0:Int.tmod (n:Int) 5=1:=by rw[e,h];rfl
  rw[h];refine(Z5∘Zap∘Za∘Zej) ?_;refine z8 (lf L 1 rfl Z Z Z Z Z Z I) Z ((Zc6∘Zd) ?_);exact ye2 L [.tmp 2]
 ·have e0:Int.tmod (n:Int) 5=2:=by rw[e,h];rfl
  rw[h];refine(Z5∘Zap∘Za∘Zej) ?_;refine z8 (lf L 2 rfl Z Z Z Z Z Z I) Z ((Zc6∘Zd) ?_);exact ye2 L [.tmp 2]
 ·have e0:Int.tmod (n:Int) 5=3:=by rw[e,h];rfl
  rw[h];refine(Z5∘Zap∘Za∘Zej) ?_;refine z8 (lf L 3 rfl Z Z Z Z Z Z I) Z ((Zc6∘Zd) ?_);exact ye2 L [.tmp 2]
 ·have e0:Int.tmod (n:Int) 5=4:=by rw[e,h];rfl
  rw[h];refine(Z5∘Zap∘Za∘Zej) ?_;refine z8 (lf L 4 rfl Z Z Z Z Z Z I) Z ((Zc6∘Zd) ?_);exact ye2 L [.tmp 2]
end Go.V
namespace Go.V.L2
def zkp(s:Nat):Ma:=((zcd s,idS (s/3)),if 15<=s then zj8 (s/15-1) else ⟨#[]⟩)
def zkv(a b:Nat):U:=(zjo (a%60),zkp (b%75))
abbrev ty2:TypeId:=64
def tl(ps:List (Nat×Nat)):List U:=(ps.take 20).map fun p=>zkv p.1 p.2
attribute [local irreducible] V N X VO Par StepOK Has Ret RetL Src
end Go.V.L2
namespace Go.V.L3
open Go.V.L2
def Yq(h:tE t=0):(chk t.1.1.1=0/\chk t.1.1.2=0/\chk t.1.2=0)/\tq t.2.1.1 t.2.1.2 t.2.2=0:=by
 unfold tE at h;split at h
 ·rename_i hg;refine⟨?_,h⟩
  revert hg
  simp only[gl];have c1:=jy t.1.1.1;have c2:=jy t.1.1.2;have c3:=jy t.1.2;intro hg;rcases c1 with c1 | c1<;>rcases c2 with c2 | c2<;>rcases c3 with c3 | c3<;>simp [c1,c2,c3] at hg |-
 ·rename_i hg;exact ni h hg
attribute [local irreducible] V N X VO Par StepOK Has Ret RetL RetO RetT Src
end Go.V.L3
namespace Go.V.L6
open Go.V.L2 Go.V.L3
abbrev d0:U:=(((⟨#[100,111,99]⟩,⟨#[97]⟩),⟨#[118,105,101,119,101,114]⟩),((⟨#[117,115,101,114]⟩,⟨#[120]⟩),⟨#[]⟩))
abbrev d1:U:=(((⟨#[100,111,99]⟩,⟨#[97]⟩),⟨#[118,105,101,119,101,114]⟩),((⟨#[103,114,111,117,112]⟩,⟨#[103]⟩),⟨#[109,101,109,98,101,114]⟩))
abbrev d2:U:=(((⟨#[100,111,99]⟩,⟨#[98]⟩),⟨#[118,105,101,119,101,114]⟩),((⟨#[117,115,101,114]⟩,⟨#[120]⟩),⟨#[]⟩))
def tzB(t:U):Bool:=decide (t.1.1.1.size<=1000) && decide (t.1.1.2.size<=1000) && decide (t.1.2.size<=1000) && decide (t.2.1.1.size<=1000) && decide (t.2.1.2.size<=1000) && decide (t.2.2.size<=1000)
def Hh(h:tzB t=true):TZ t:=by
 unfold tzB at h;simp only[zlw,decide_eq_true_eq] at h;unfold TZ;omega
attribute [local irreducible] V N X VO Par StepOK Has Ret RetL RetO RetT Src
abbrev C3:=Nat×Nat×Nat
structure SOK(l:List U):Prop where
 sst:Sst jm l
 tz:∀ t∈l,TZ t
 ok:∀ t∈l,tE t=0
def Ya{l:List U}(h:SOK l){x:U}(hz:TZ x)(hx:tE x=0)(d:Bool)(hl:l.length<4096):SOK (wa l x d).1/\(wa l x d).2=0/\(wa l x d).1.length<=l.length+1:=by
 refine⟨⟨Sg h.sst x d,fun t ht=>?_,fun t ht=>?_⟩,?_⟩
 ·rcases G8 ht with ht | rfl
  ·exact h.tz t ht
  ·exact hz
 ·rcases G8 ht with ht | rfl
  ·exact h.ok t ht
  ·exact hx
 ·unfold wa;rw[na hx];split
  ·exact⟨rfl,Nat.le_succ_of_le (zos _ _)⟩
  ·split
   ·exact⟨rfl,zmn _⟩
   ·rw[nc I,vo];exact⟨rfl,ns _⟩
end Go.V.L6
namespace Go.V.L8
open Go.V.L2 Go.V.L3 Go.V.L6
attribute [local irreducible] V N X VO Par StepOK Has Ret RetL RetO RetT Src
end Go.V.L8
namespace Go.V.L2
def _root_.ZcS(t:Wr Y->A:=by intro h;refine zh (yi L 0 rfl Z Z Z (by first | omega | decide) E) Z ?_;exact h.1)(h:Y):A:=t ⟨h⟩
def _root_.Zdi(t:Wr Y->A:=by intro h;refine z8 (yi L 0 rfl Z Z Z (by first | omega | decide) E) Z ?_;exact h.1)(h:Y):A:=t ⟨h⟩
def _root_.ZdL(t:Wr Y->A:=by intro h;refine q0 (ub L Z Z Z (o6 Z) Z zjr Z Z I I) ?_;exact h.1)(h:Y):A:=t ⟨h⟩
def Qi{a tv:Value}{H:Heap}(h:φ tv H):TupS [φ,fun v _=>v=a] (.tuple #[tv,a]) H:=
 ⟨[tv,a],rfl,rfl,fun i ψ x hi hx=>by
  rcases i with _ | _ | i
  ·simp at hi hx;subst hi hx;exact h
  ·simp at hi hx;subst hi hx;rfl
  ·simp at hi⟩
def Qh{a:Value}(h:Kn.mono (.sat φ)):Kn.mono (.sat (TupS [φ,fun v _=>v=a])):=TupS.mono fun ψ hψ=>by
 rcases nw.1 hψ with rfl | hψ
 ·exact h
 ·rw[mz] at hψ;subst hψ;exact fun _ _ _ h _=>h
def gy{α:Type}{c:α->α->Int}{f:Bool->Bool->Bool}:∀ (n:Nat) (l m:List α),l.length+m.length<=n->(gm c f n l m).length<=l.length+m.length
 | 0,_,_,_=>by simp [gm]
 | n+1,[],[],_=>by simp [gm]
 | n+1,a::l,[],h=>by
  have:=gy (c:=c) (f:=f) n l [] (by simp only[nz,my] at h |-;omega);simp only[gm,nr,nz,my] at this |-;split<;>simp only[nz,my]<;>omega
 | n+1,[],b::m,h=>by
  have:=gy (c:=c) (f:=f) n [] m (by simp only[nz,my] at h |-;omega);simp only[gm,nr,nz,my] at this |-;split<;>simp only[nz,my]<;>omega
 | n+1,a::l,b::m,h=>by
  simp only[nz] at h;have h1:=gy (c:=c) (f:=f) n l (b::m) (by simp only[nz];omega);have h2:=gy (c:=c) (f:=f) n (a::l) m (by simp only[nz];omega);have h3:=gy (c:=c) (f:=f) n l m I;simp only[nz] at h1 h2;simp only[gm];split
  ·rw[nr];split<;>simp only[nz,my]<;>omega
  ·split
   ·rw[nr];split<;>simp only[nz,my]<;>omega
   ·rw[nr];split<;>simp only[nz,my]<;>omega
def zhi(f:Bool->Bool->Bool)(l m:List U):List U×Int:=
 if 4096<l.length\/4096<m.length then ([],3) else if (isB l && isB m)=true then (gm jm f (l.length+m.length) l m,0) else ([],18)
abbrev LE(r:List U×Int):Value->Heap->Prop:=TupS [US r.1 true,fun v _=>v=.int .i64 r.2]
def LE.mono:Kn.mono (.sat (LE r)):=Qh ma
def E0(a:U)(l:List U):(((a::l).flatMap ucs).drop (1*6)).take (((a::l).length-1)*6)=l.flatMap ucs:=by
 rw[zly,List.drop_left' (by rfl),nz,zow,zle (zni (ig Ev l))]
def Au{s:Nat}{out:List U}(h:κ s=some (.own (SlR tyU 6 (out.length+1) (out.flatMap ucs++[.string t.1.1.1,.string t.1.1.2,.string t.1.2,.string t.2.1.1,.string t.2.1.2,.string t.2.2])))):κ s=some (.own (SlR tyU 6 (out++[t]).length ((out++[t]).flatMap ucs))):=by
 rw[h,zlz,nr];simp [ucs]
attribute [local irreducible] V N X VO Par StepOK Has Ret RetL Src
def Ux{f:Bool->Bool->Bool}{tf:Nat}(hfn:L.fn tf=some ())(hf:∀ (p q:Bool) (u:World) (H:Heap),zpk H u->Ret zpl tf [.bool p,.bool q] u H (fun v _=>v=.bool (f p q))){l m:List U}{fa fb:Bool}
   (hr:zhi f l m=r) {v2:Value}   (hB:zpk B w) (hv:US l fa v B) (hv2:US m fb v2 B):
  Ret zpl 225 [v,v2,.func (.func tf) #[] #[]] w B (LE r):=by
 subst hr;unfold zhi;refine yf Tryz.func225 Z Tryz.ntmps225 (np Z) hB (ju 0 (US l fa) Z ma hv (ju 1 (US m fb) Z ma hv2 ?_));by_cases z1:4096<l.length
 ·rw[na (.inl z1)];refine(ZaL∘Zaa∘Zo∘ZN∘Zbr∘ZbH∘ZB) ?_;refine ye1 L [.tmp 6,.tmp 7] fun u H hH hle=>?_;exact Qi SlV.nil
 ·by_cases z2:4096<m.length
  ·rw[na (.inr z2)];refine(ZaL∘Zaa∘Zo∘ZD∘Za∘Zo∘ZN∘Zg∘ZbH∘ZB) ?_;refine ye1 L [.tmp 6,.tmp 7] fun u H hH hle=>?_;exact Qi SlV.nil
  ·rw[nc I];cases h1:isB l
   ·rw[nc (by simp)];refine(ZaL∘Zaa∘Zo∘ZD∘Za∘Zo∘ZD∘Zg∘Z6∘ZR∘Zk) ?_;refine z8 (zy L Z Z (zo Z) Z Z Z (fun u H hH _ _ v1 hv1=>Ay I h1 hH hv1)) Z ((Zt∘Zbr∘Zr∘Z9∘ZB) ?_);refine ye1 L [.tmp 6,.tmp 7] fun u H hH hle=>?_;exact Qi SlV.nil
   ·cases h2:isB m
    ·rw[nc (by simp)];refine(ZaL∘Zaa∘Zo∘ZD∘Za∘Zo∘ZD∘Zg∘Z6∘ZR∘Zk) ?_;refine z8 (zy L Z Z (zo Z) Z Z Z (fun u H hH _ _ v1 hv1=>Ay I h1 hH hv1)) Z ((Zt∘Za∘Zk) ?_);refine z8 (zy L Z Z (zo Z) Z Z Z (fun u H hH _ _ v1 hv1=>Ay I h2 hH hv1)) Z ((Zt∘Zg∘Zr∘Z9∘ZB) ?_);refine ye1 L [.tmp 6,.tmp 7] fun u H hH hle=>?_;exact Qi SlV.nil
    ·rw[na (by rfl)];refine(ZaL∘Zaa∘Zo∘ZD∘Za∘Zo∘ZD∘Zg∘Z6∘ZR∘Zk) ?_;refine z8 (zy L Z Z (zo Z) Z Z Z (fun u H hH _ _ v1 hv1=>Ay I h1 hH hv1)) Z ((Zt∘Za∘Zk) ?_);refine z8 (zy L Z Z (zo Z) Z Z Z (fun u H hH _ _ v1 hv1=>Ay I h2 hH hv1)) Z ((Zt∘Zbd∘ZY∘Zc∘Zam) ?_);refine Xu 0 (US l false) Z ma (fun _ _ h=>h.nofu) (Xu 1 (US m false) Z ma (fun _ _ h=>h.nofu) (cr 8 tyU 6 rfl ?_))
     refine xo (fun s:Nat×List U×List U×List U=>[(0,.sat (US s.2.1 false)),(1,.sat (US s.2.2.1 false)),(2,.is (.func (.func tf) #[] #[])),(8,.own (SlR tyU 6 s.2.2.2.length (s.2.2.2.flatMap ucs)))])
      (fun s=>s.2.1.length+s.2.2.1.length<=s.1/\s.2.2.2++gm jm f s.1 s.2.1 s.2.2.1=gm jm f (l.length+m.length) l m/\s.2.2.2.length+s.2.1.length+s.2.2.1.length<=8192) (fun s=>s.1) (l.length+m.length,l,m,[]) ⟨ns _,rfl,by simp only[my];omega⟩ ⟨rfl,rfl,rfl,rfl,nm⟩ ?_
     generalize gm jm f (l.length+m.length) l m=R;clear h1 h2 z1 z2 hv hv2;rintro⟨n,x,y,out⟩ ⟨hn,hR,hz⟩;dsimp only at hn hR hz |-;rcases x with _ | ⟨a,x⟩
     ·rcases y with _ | ⟨b,y⟩
      ·have hR:out=R:=by rw[<-hR];cases n<;>simp [gm]
       subst hR;have l0:([]:List U).length=0:=rfl;refine(Zh∘ZP∘Zo∘ZD∘Za∘Zo∘ZD∘Zg∘ZaR) ?_;refine ax 8 rfl ((Zc0∘Zk∘Zo∘Zo∘Zdz∘ZX∘Zd) ?_);refine ye1 L [.tmp 6,.tmp 7] fun u H hH hle=>?_;exact fun v hv=>Qi hv
      ·have l0:([]:List U).length=0:=rfl;have lb:(b::y).length=y.length+1:=rfl;have hb:=rq (l:=b::y) (i:=0) (t:=b) rfl;have tb:=E0 b y;rcases n with _ | n
       ·simp only[nz,my] at hn;omega
       cases hft:f false true
       ·have hR:out++gm jm f n [] y=R:=by rw[<-hR];simp [gm,hft]
        have hfv:∀ (u:World) (H:Heap),zpk H u->Ret zpl tf [.bool false,.bool true] u H (fun v _=>v=.bool false):=fun u H h=>by have:=hf false true u H h;rwa [hft] at this
        refine(Zh∘ZP∘Zo∘ZD∘Za∘Zo∘ZN∘Zg∘Zcd∘Z8∘Zc∘ZF∘ZQ∘Zo∘ZC∘Zd∘ZbE∘Zah∘Zal∘Zb5∘ZV∘ZbT∘Zbs∘Zb9∘ZN∘ZE∘Zaw∘Zk∘Zdi∘Zcm∘ZaD∘Zaz∘Zbg∘Za∘ZbL∘Zcj∘Zk) ?_;refine z8 (jk L (kh:=.i64) (ph:=0) (km:=.i64) (pm:=0) 1 _ false Z Z Z Z Z ⟨rfl,rfl⟩ ⟨rfl,rfl⟩ (fun h=>by cases h) I I E) Z ?_;refine(ZX∘Zf∘ZaP∘Zb∘Zcp∘Za∘Zb8) ?_;refine z8 (zy L Z Z (zo Z) Z Z hfn (fun u H hH _ _=>hfv u H hH)) Z ((ZZ∘Zay) ?_);exact ym (x:=(n+1,[],b::y,out)) (n,[],y,out) ⟨by simp only[List.length_cons,List.length_nil] at hn |-;omega,hR,by simp only[List.length_cons,List.length_nil,List.length_append] at hz |-;omega⟩ M ⟨Z,Z,Z,Z,nm⟩
       ·have hR:out++[b]++gm jm f n [] y=R:=by rw[<-hR];simp [gm,hft]
        have hfv:∀ (u:World) (H:Heap),zpk H u->Ret zpl tf [.bool false,.bool true] u H (fun v _=>v=.bool true):=fun u H h=>by have:=hf false true u H h;rwa [hft] at this
        refine(Zh∘ZP∘Zo∘ZD∘Za∘Zo∘ZN∘Zg∘Zcd∘Z8∘Zc∘ZF∘ZQ∘Zo∘ZC∘Zd∘ZbE∘Zah∘Zal∘Zb5∘ZV∘ZbT∘Zbs∘Zb9∘ZN∘ZE∘Zaw∘Zk∘Zdi∘Zcm∘ZaD∘Zaz∘Zbg∘Za∘ZbL∘Zcj∘Zk) ?_;refine z8 (jk L (kh:=.i64) (ph:=0) (km:=.i64) (pm:=0) 1 _ false Z Z Z Z Z ⟨rfl,rfl⟩ ⟨rfl,rfl⟩ (fun h=>by cases h) I I E) Z ?_;refine(ZX∘Zf∘ZaP∘Zb∘Zcp∘Za∘Zb8) ?_;refine z8 (zy L Z Z (zo Z) Z Z hfn (fun u H hH _ _=>hfv u H hH)) Z ((ZE∘ZbD) ?_);refine q0 (yw (.inl Z) Z) ((ZaI∘Zap∘ZdL) ?_);refine q0 (yw (.inr Z) Z) ((ZS∘Zay) ?_);exact ym (x:=(n+1,[],b::y,out)) (n,[],y,out++[b]) ⟨by simp only[List.length_cons,List.length_nil] at hn |-;omega,hR,by simp only[List.length_cons,List.length_nil,List.length_append] at hz |-;omega⟩ M ⟨Z,Z,Z,Au Z,nm⟩
     ·have la:(a::x).length=x.length+1:=rfl;have ha:=rq (l:=a::x) (i:=0) (t:=a) rfl;have ta:=E0 a x;rcases y with _ | ⟨b,y⟩
      ·have l0:([]:List U).length=0:=rfl;rcases n with _ | n
       ·simp only[nz,my] at hn;omega
       cases hft:f true false
       ·have hR:out++gm jm f n x []=R:=by rw[<-hR];simp [gm,hft]
        have hfv:∀ (u:World) (H:Heap),zpk H u->Ret zpl tf [.bool true,.bool false] u H (fun v _=>v=.bool false):=fun u H h=>by have:=hf true false u H h;rwa [hft] at this
        refine(Zh∘ZP∘Zo∘ZN∘Zbr∘Zcd∘Z8∘Zc∘ZF∘ZQ∘Zo∘Zs∘ZaF∘ZO∘Zo∘ZC∘Zd∘ZbE∘ZT∘Zal∘Zb5∘ZV∘ZbT∘Zbs∘Zb9∘ZD∘Zc7∘Zad∘Zk∘Zdi∘Zcm∘Zau∘Zbn∘Zk) ?_;refine z8 (jk L (kh:=.i64) (ph:=0) (km:=.i64) (pm:=0) 1 _ false Z Z Z Z Z ⟨rfl,rfl⟩ ⟨rfl,rfl⟩ (fun h=>by cases h) I I E) Z ?_;refine(ZX∘Zaz∘Zbg∘Za∘Za1∘Zl∘ZaP∘Zb∘Zcv∘Za∘Za1) ?_;refine z8 (zy L Z Z (zo Z) Z Z hfn (fun u H hH _ _=>hfv u H hH)) Z ((ZZ∘Zay) ?_);exact ym (x:=(n+1,a::x,[],out)) (n,x,[],out) ⟨by simp only[List.length_cons,List.length_nil] at hn |-;omega,hR,by simp only[List.length_cons,List.length_nil,List.length_append] at hz |-;omega⟩ M ⟨Z,Z,Z,Z,nm⟩
       ·have hR:out++[a]++gm jm f n x []=R:=by rw[<-hR];simp [gm,hft]
        have hfv:∀ (u:World) (H:Heap),zpk H u->Ret zpl tf [.bool true,.bool false] u H (fun v _=>v=.bool true):=fun u H h=>by have:=hf true false u H h;rwa [hft] at this
        refine(Zh∘ZP∘Zo∘ZN∘Zbr∘Zcd∘Z8∘Zc∘ZF∘ZQ∘Zo∘Zs∘ZaF∘ZO∘Zo∘ZC∘Zd∘ZbE∘ZT∘Zal∘Zb5∘ZV∘ZbT∘Zbs∘Zb9∘ZD∘Zc7∘Zad∘Zk∘Zdi∘Zcm∘Zau∘Zbn∘Zk) ?_;refine z8 (jk L (kh:=.i64) (ph:=0) (km:=.i64) (pm:=0) 1 _ false Z Z Z Z Z ⟨rfl,rfl⟩ ⟨rfl,rfl⟩ (fun h=>by cases h) I I E) Z ?_;refine(ZX∘Zaz∘Zbg∘Za∘Za1∘Zl∘ZaP∘Zb∘Zcv∘Za∘Za1) ?_;refine z8 (zy L Z Z (zo Z) Z Z hfn (fun u H hH _ _=>hfv u H hH)) Z ((ZE∘ZbD) ?_);refine q0 (yw (.inl Z) Z) ((ZaI∘Zap∘ZdL) ?_);refine q0 (yw (.inr Z) Z) ((ZS∘Zay) ?_);exact ym (x:=(n+1,a::x,[],out)) (n,x,[],out++[a]) ⟨by simp only[List.length_cons,List.length_nil] at hn |-;omega,hR,by simp only[List.length_cons,List.length_nil,List.length_append] at hz |-;omega⟩ M ⟨Z,Z,Z,Au Z,nm⟩
      ·have lb:(b::y).length=y.length+1:=rfl;have hb:=rq (l:=b::y) (i:=0) (t:=b) rfl;have tb:=E0 b y;by_cases c1:jm a b<0
       ·rcases n with _ | n
        ·simp only[nz,my] at hn;omega
        cases hft:f true false
        ·have hR:out++gm jm f n x (b::y)=R:=by rw[<-hR];simp [gm,c1,hft]
         have hfv:∀ (u:World) (H:Heap),zpk H u->Ret zpl tf [.bool true,.bool false] u H (fun v _=>v=.bool false):=fun u H h=>by have:=hf true false u H h;rwa [hft] at this
         refine(Zh∘ZP∘Zo∘ZN∘Zbr∘Zcd∘Z8∘Zc∘ZF∘ZQ∘Zo∘Zs∘ZaF∘ZO∘Zo∘Zs∘Zp∘Za9∘Zc3∘Zak∘ZcS∘Zcf∘Zak∘ZcS∘Zcf) ?_;refine zh1 L Z (fun u H hH _=>wq hH) ?_;refine(Zaf∘ZbI∘Zay∘Zb5∘ZV∘ZbT∘Zbs∘Zb9∘ZD∘Zc7∘Zad∘Zk∘Zdi∘Zcm∘Zau∘Zbn∘Zk) ?_;refine z8 (jk L (kh:=.i64) (ph:=0) (km:=.i64) (pm:=0) 1 _ false Z Z Z Z Z ⟨rfl,rfl⟩ ⟨rfl,rfl⟩ (fun h=>by cases h) I I E) Z ?_;refine(ZX∘Zaz∘Zbg∘Za∘Za1∘Zl∘ZaP∘Zb∘Zcv∘Za∘Za1) ?_;refine z8 (zy L Z Z (zo Z) Z Z hfn (fun u H hH _ _=>hfv u H hH)) Z ((ZZ∘Zay) ?_);exact ym (x:=(n+1,a::x,b::y,out)) (n,x,(b::y),out) ⟨by simp only[List.length_cons,List.length_nil] at hn |-;omega,hR,by simp only[List.length_cons,List.length_nil,List.length_append] at hz |-;omega⟩ M ⟨Z,Z,Z,Z,nm⟩
        ·have hR:out++[a]++gm jm f n x (b::y)=R:=by rw[<-hR];simp [gm,c1,hft]
         have hfv:∀ (u:World) (H:Heap),zpk H u->Ret zpl tf [.bool true,.bool false] u H (fun v _=>v=.bool true):=fun u H h=>by have:=hf true false u H h;rwa [hft] at this
         refine(Zh∘ZP∘Zo∘ZN∘Zbr∘Zcd∘Z8∘Zc∘ZF∘ZQ∘Zo∘Zs∘ZaF∘ZO∘Zo∘Zs∘Zp∘Za9∘Zc3∘Zak∘ZcS∘Zcf∘Zak∘ZcS∘Zcf) ?_;refine zh1 L Z (fun u H hH _=>wq hH) ?_;refine(Zaf∘ZbI∘Zay∘Zb5∘ZV∘ZbT∘Zbs∘Zb9∘ZD∘Zc7∘Zad∘Zk∘Zdi∘Zcm∘Zau∘Zbn∘Zk) ?_;refine z8 (jk L (kh:=.i64) (ph:=0) (km:=.i64) (pm:=0) 1 _ false Z Z Z Z Z ⟨rfl,rfl⟩ ⟨rfl,rfl⟩ (fun h=>by cases h) I I E) Z ?_;refine(ZX∘Zaz∘Zbg∘Za∘Za1∘Zl∘ZaP∘Zb∘Zcv∘Za∘Za1) ?_;refine z8 (zy L Z Z (zo Z) Z Z hfn (fun u H hH _ _=>hfv u H hH)) Z ((ZE∘ZbD) ?_);refine q0 (yw (.inl Z) Z) ((ZaI∘Zap∘ZdL) ?_);refine q0 (yw (.inr Z) Z) ((ZS∘Zay) ?_);exact ym (x:=(n+1,a::x,b::y,out)) (n,x,(b::y),out++[a]) ⟨by simp only[List.length_cons,List.length_nil] at hn |-;omega,hR,by simp only[List.length_cons,List.length_nil,List.length_append] at hz |-;omega⟩ M ⟨Z,Z,Z,Au Z,nm⟩
       ·by_cases c2:0<jm a b
        ·rcases n with _ | n
         ·simp only[nz,my] at hn;omega
         cases hft:f false true
         ·have hR:out++gm jm f n (a::x) y=R:=by rw[<-hR];simp [gm,c1,c2,hft]
          have hfv:∀ (u:World) (H:Heap),zpk H u->Ret zpl tf [.bool false,.bool true] u H (fun v _=>v=.bool false):=fun u H h=>by have:=hf false true u H h;rwa [hft] at this
          refine(Zh∘ZP∘Zo∘ZN∘Zbr∘Zcd∘Z8∘Zc∘ZF∘ZQ∘Zo∘Zs∘ZaF∘ZO∘Zo∘Zs∘Zp∘Za9∘Zc3∘Zak∘ZcS∘Zcf∘Zak∘ZcS∘Zcf) ?_;refine zh1 L Z (fun u H hH _=>wq hH) ?_;refine(Zaf∘ZbI∘Zay∘Zb5∘ZV∘ZbT∘Zbs∘Zb9∘ZN∘ZE∘Zaw∘Zk∘Zdi∘Zcm∘ZaD∘Zaz∘Zbg∘Za∘ZbL∘Zcj∘Zk) ?_;refine z8 (jk L (kh:=.i64) (ph:=0) (km:=.i64) (pm:=0) 1 _ false Z Z Z Z Z ⟨rfl,rfl⟩ ⟨rfl,rfl⟩ (fun h=>by cases h) I I E) Z ?_;refine(ZX∘Zf∘ZaP∘Zb∘Zcp∘Za∘Zb8) ?_;refine z8 (zy L Z Z (zo Z) Z Z hfn (fun u H hH _ _=>hfv u H hH)) Z ((ZZ∘Zay) ?_);exact ym (x:=(n+1,a::x,b::y,out)) (n,(a::x),y,out) ⟨by simp only[List.length_cons,List.length_nil] at hn |-;omega,hR,by simp only[List.length_cons,List.length_nil,List.length_append] at hz |-;omega⟩ M ⟨Z,Z,Z,Z,nm⟩
         ·have hR:out++[b]++gm jm f n (a::x) y=R:=by rw[<-hR];simp [gm,c1,c2,hft]
          have hfv:∀ (u:World) (H:Heap),zpk H u->Ret zpl tf [.bool false,.bool true] u H (fun v _=>v=.bool true):=fun u H h=>by have:=hf false true u H h;rwa [hft] at this
          refine(Zh∘ZP∘Zo∘ZN∘Zbr∘Zcd∘Z8∘Zc∘ZF∘ZQ∘Zo∘Zs∘ZaF∘ZO∘Zo∘Zs∘Zp∘Za9∘Zc3∘Zak∘ZcS∘Zcf∘Zak∘ZcS∘Zcf) ?_;refine zh1 L Z (fun u H hH _=>wq hH) ?_;refine(Zaf∘ZbI∘Zay∘Zb5∘ZV∘ZbT∘Zbs∘Zb9∘ZN∘ZE∘Zaw∘Zk∘Zdi∘Zcm∘ZaD∘Zaz∘Zbg∘Za∘ZbL∘Zcj∘Zk) ?_;refine z8 (jk L (kh:=.i64) (ph:=0) (km:=.i64) (pm:=0) 1 _ false Z Z Z Z Z ⟨rfl,rfl⟩ ⟨rfl,rfl⟩ (fun h=>by cases h) I I E) Z ?_;refine(ZX∘Zf∘ZaP∘Zb∘Zcp∘Za∘Zb8) ?_;refine z8 (zy L Z Z (zo Z) Z Z hfn (fun u H hH _ _=>hfv u H hH)) Z ((ZE∘ZbD) ?_);refine q0 (yw (.inl Z) Z) ((ZaI∘Zap∘ZdL) ?_);refine q0 (yw (.inr Z) Z) ((ZS∘Zay) ?_);exact ym (x:=(n+1,a::x,b::y,out)) (n,(a::x),y,out++[b]) ⟨by simp only[List.length_cons,List.length_nil] at hn |-;omega,hR,by simp only[List.length_cons,List.length_nil,List.length_append] at hz |-;omega⟩ M ⟨Z,Z,Z,Au Z,nm⟩
        ·rcases n with _ | n
         ·simp only[nz,my] at hn;omega
         cases hft:f true true
         ·have hR:out++gm jm f n x y=R:=by rw[<-hR];simp [gm,c1,c2,hft]
          have hfv:∀ (u:World) (H:Heap),zpk H u->Ret zpl tf [.bool true,.bool true] u H (fun v _=>v=.bool false):=fun u H h=>by have:=hf true true u H h;rwa [hft] at this
          refine(Zh∘ZP∘Zo∘ZN∘Zbr∘Zcd∘Z8∘Zc∘ZF∘ZQ∘Zo∘Zs∘ZaF∘ZO∘Zo∘Zs∘Zp∘Za9∘Zc3∘Zak∘ZcS∘Zcf∘Zak∘ZcS∘Zcf) ?_;refine zh1 L Z (fun u H hH _=>wq hH) ?_;refine(Zaf∘ZbI∘Zay∘Zb5∘ZV∘ZbT∘Zbs∘Zb9∘ZD∘Zc7∘Zad∘Zk∘Zdi∘Zcm∘Zau∘Zbn∘Zk) ?_;refine z8 (jk L (kh:=.i64) (ph:=0) (km:=.i64) (pm:=0) 1 _ false Z Z Z Z Z ⟨rfl,rfl⟩ ⟨rfl,rfl⟩ (fun h=>by cases h) I I E) Z ?_;refine(ZX∘Zaz∘Zbg∘Za∘ZbL∘Zcj∘Zk) ?_;refine z8 (jk L (kh:=.i64) (ph:=0) (km:=.i64) (pm:=0) 1 _ false Z Z Z Z Z ⟨rfl,rfl⟩ ⟨rfl,rfl⟩ (fun h=>by cases h) I I E) Z ?_;refine(ZX∘Zf∘ZaP∘Zb∘Zcv∘Za∘Zb8) ?_;refine z8 (zy L Z Z (zo Z) Z Z hfn (fun u H hH _ _=>hfv u H hH)) Z ((ZZ∘Zay) ?_);exact ym (x:=(n+1,a::x,b::y,out)) (n,x,y,out) ⟨by simp only[List.length_cons,List.length_nil] at hn |-;omega,hR,by simp only[List.length_cons,List.length_nil,List.length_append] at hz |-;omega⟩ M ⟨Z,Z,Z,Z,nm⟩
         ·have hR:out++[a]++gm jm f n x y=R:=by rw[<-hR];simp [gm,c1,c2,hft]
          have hfv:∀ (u:World) (H:Heap),zpk H u->Ret zpl tf [.bool true,.bool true] u H (fun v _=>v=.bool true):=fun u H h=>by have:=hf true true u H h;rwa [hft] at this
          refine(Zh∘ZP∘Zo∘ZN∘Zbr∘Zcd∘Z8∘Zc∘ZF∘ZQ∘Zo∘Zs∘ZaF∘ZO∘Zo∘Zs∘Zp∘Za9∘Zc3∘Zak∘ZcS∘Zcf∘Zak∘ZcS∘Zcf) ?_;refine zh1 L Z (fun u H hH _=>wq hH) ?_;refine(Zaf∘ZbI∘Zay∘Zb5∘ZV∘ZbT∘Zbs∘Zb9∘ZD∘Zc7∘Zad∘Zk∘Zdi∘Zcm∘Zau∘Zbn∘Zk) ?_;refine z8 (jk L (kh:=.i64) (ph:=0) (km:=.i64) (pm:=0) 1 _ false Z Z Z Z Z ⟨rfl,rfl⟩ ⟨rfl,rfl⟩ (fun h=>by cases h) I I E) Z ?_;refine(ZX∘Zaz∘Zbg∘Za∘ZbL∘Zcj∘Zk) ?_;refine z8 (jk L (kh:=.i64) (ph:=0) (km:=.i64) (pm:=0) 1 _ false Z Z Z Z Z ⟨rfl,rfl⟩ ⟨rfl,rfl⟩ (fun h=>by cases h) I I E) Z ?_;refine(ZX∘Zf∘ZaP∘Zb∘Zcv∘Za∘Zb8) ?_;refine z8 (zy L Z Z (zo Z) Z Z hfn (fun u H hH _ _=>hfv u H hH)) Z ((ZE∘ZbD) ?_);refine q0 (yw (.inl Z) Z) ((ZaI∘Zap∘ZdL) ?_);refine q0 (yw (.inr Z) Z) ((ZS∘Zay) ?_);exact ym (x:=(n+1,a::x,b::y,out)) (n,x,y,out++[a]) ⟨by simp only[List.length_cons,List.length_nil] at hn |-;omega,hR,by simp only[List.length_cons,List.length_nil,List.length_append] at hz |-;omega⟩ M ⟨Z,Z,Z,Au Z,nm⟩
abbrev fWo:Bool->Bool->Bool:=fun _ b=>!b
attribute [local irreducible] RetO
def zfb(p q:Bool)(w:World)(B:Heap)(hB:zpk B w):Ret zpl 226 [.bool p,.bool q] w B (fun v _=>v=.bool (fWo p q)):=by
 refine yf Tryz.func226 Z Tryz.ntmps226 (np Z) hB ((Z5∘Za∘Zt∘Zd) ?_);exact ye2 L [.tmp 4]
def s5{l m:List U}{fa fb:Bool}{v2:Value}(hr:zhi fWo l m=r)(hB:zpk B w)(hv:US l fa v B)(hv2:US m fb v2 B):Ret zpl 155 [v,v2] w B (LE r):=by
 refine yf Tryz.func155 Z Tryz.ntmps155 (np Z) hB (ju 0 (US l fa) Z ma hv (ju 1 (US m fb) Z ma hv2 ((ZaL∘Zas∘Zk∘Zk) ?_)));refine z8 (xi (φ:=LE r) L Z Z (zo Z) Z Z Z LE.mono (fun u H hH _ _ v1 h1 v2 h2=>Ux Z zfb hr hH h1 h2)) Z (z8 (ez Z Z Z Z ma) Z ((ZbB∘ZX∘Zd) ?_));refine ye1 L [.tmp 4,.tmp 5] fun u H hH hle=>?_;exact fun v hv=>Qi hv
end Go.V.L2
namespace Go.V.L8
open Go.V.L2 Go.V.L3 Go.V.L6
def Ct(a b:List U):List CH:=(Y4 a b true false true).map fun t=>(t,decide (t∈a))
def zix(a b:List U):List CH:=B4 ((gm jm fWo (a.length+b.length) a b).map (fun t=>(t,true))++(gm jm fWo (b.length+a.length) b a).map (fun t=>(t,false)))
def Vd(a b:List CH)(t:U):g0 (a++b) t=(g0 b t).or (g0 a t):=by
 induction a with
 | nil=>rw[mh,Vb];cases g0 b t<;>rfl
 | cons c r ih=>
  rw[zll,gz,gz,ih];cases g0 b t<;>cases g0 r t<;>rfl
def Kz(h:Lw l):g0 l t=some c↔c∈l/\c.1=t:=by
 constructor
 ·exact fun h1=>⟨(f0 h1).2,(f0 h1).1⟩
 ·rintro⟨hc,rfl⟩
  obtain⟨d,hd⟩:∃ d,g0 l c.1=some d:=by
   cases hk:g0 l c.1 with
   | some d=>exact⟨d,rfl⟩
   | none=>exact ni rfl (cc.1 hk c hc)
  obtain⟨h1,h2⟩:=f0 hd;rw[hd];have hp:=ob h;obtain⟨i,hi⟩:=zl0 hc;obtain⟨j,hj⟩:=zl0 h2;obtain⟨hi',rfl⟩:=zmf.1 hi;obtain⟨hj',rfl⟩:=zmf.1 hj;have hp':=zmy.1 hp;rcases znb i j with g | g | g
  ·exact ni h1.symm (hp' i j hi' hj' g)
  ·subst g;rfl
  ·exact ni h1 (hp' j i hj' hi' g)
def Og{a:List U}:t∈Y4 a b true false true↔((t∈a/\t∉b)\/(t∉a/\t∈b)):=by
 unfold Y4;rw[iw,zl3,mi];unfold zg4;by_cases h1:t∈a<;>by_cases h2:t∈b<;>simp [h1,h2]
def Gw(a b:List U):Lw (Ct a b):=by
 unfold Lw Ct;rw[zm6];have:((fun x:CH=>x.1)∘fun t:U=>(t,decide (t∈a)))=id:=rfl;rw[this,znq];exact Hr _
def uj{a:List U}:c∈Ct a b↔((c.1∈a/\c.1∉b)\/(c.1∉a/\c.1∈b))/\c.2=decide (c.1∈a):=by
 unfold Ct;rw[zlb];constructor
 ·rintro⟨t,ht,rfl⟩;exact⟨Og.1 ht,rfl⟩
 ·rintro⟨h1,h2⟩;exact⟨c.1,Og.2 h1,Prod.ext rfl h2.symm⟩
def Nx{a:List U}(ha:Sst jm a)(hb:Sst jm b):t∈gm jm fWo (a.length+b.length) a b↔t∈a/\t∉b:=by
 rw[u7 cmpT_ord fWo (ns _) ha hb];unfold Tk;by_cases h1:t∈a<;>by_cases h2:t∈b<;>simp [h1,h2]
def zfu{a:List U}(ha:Sst jm a)(hb:Sst jm b):zix a b=Ct a b:=Un (Kp _) (Gw a b) fun c=>by
 unfold zix;rw[Kq,uj,Vd]
 have h1:g0 ((gm jm fWo (b.length+a.length) b a).map fun t=>(t,false)) c.1=if c.1∈b/\c.1∉a then some (c.1,false) else none:=by
  by_cases h:c.1∈b/\c.1∉a
  ·rw[na h]
   have hn:Lw ((gm jm fWo (b.length+a.length) b a).map fun t=>(t,false)):=by
    unfold Lw;rw[zm6];have:((fun x:CH=>x.1)∘fun t:U=>(t,false))=id:=rfl;rw[this,znq];exact cw cmpT_ord fWo (ns _) hb ha
   exact(Kz hn).2 ⟨zlb.2 ⟨c.1,(Nx hb ha).2 h,rfl⟩,rfl⟩
  ·rw[nc h,cc];intro d hd e;obtain⟨t,ht,rfl⟩:=zlb.1 hd;exact h (e ▸ (Nx hb ha).1 ht)
 have h2:g0 ((gm jm fWo (a.length+b.length) a b).map fun t=>(t,true)) c.1=if c.1∈a/\c.1∉b then some (c.1,true) else none:=by
  by_cases h:c.1∈a/\c.1∉b
  ·rw[na h]
   have hn:Lw ((gm jm fWo (a.length+b.length) a b).map fun t=>(t,true)):=by
    unfold Lw;rw[zm6];have:((fun x:CH=>x.1)∘fun t:U=>(t,true))=id:=rfl;rw[this,znq];exact cw cmpT_ord fWo (ns _) ha hb
   exact(Kz hn).2 ⟨zlb.2 ⟨c.1,(Nx ha hb).2 h,rfl⟩,rfl⟩
  ·rw[nc h,cc];intro d hd e;obtain⟨t,ht,rfl⟩:=zlb.1 hd;exact h (e ▸ (Nx ha hb).1 ht)
 rw[h1,h2];obtain⟨x,d⟩:=c;dsimp only;by_cases ha':x∈a<;>by_cases hb':x∈b<;>cases d<;>simp [ha',hb']
def Gx(a b:List U):(Ct a b).length<=a.length+b.length:=by
 unfold Ct Y4;rw[mn];refine zld (Hs _) (zld (zos _ _) ?_);rw[nr];exact ns _
attribute [local irreducible] V N X VO Par StepOK Has Ret RetL RetO RetT kr Src
def zb6(a b:List U):(gm jm fWo (a.length+b.length) a b).length<=a.length+b.length:=gy _ _ _ (ns _)
def Us{a:List U}(la:a.length<=4096)(lb:b.length<=4096)(sa:Sst jm a)(sb:Sst jm b):zhi fWo a b=(gm jm fWo (a.length+b.length) a b,0):=by
 unfold zhi;have h1:isB a=true:=nf sa;have h2:isB b=true:=nf sb;rw[nc I,h1,h2,na J]
def Lh{a:List U}{m:List CH}(la:a.length<=4096)(lb:b.length<=4096)(sa:Sst jm a)(sb:Sst jm b)(hr:zix a b=m){av bv:Value}(hB:zpk B w)(ha:SetV a av B)(hb:SetV b bv B):
  Ret zpl 89 [av,bv] w B (KS tyC m true):=by
 subst hr;obtain⟨f1,p1,k1,q1,rfl,hp1⟩:=ha.shape;obtain⟨f2,p2,k2,q2,rfl,hp2⟩:=hb.shape;have w1:=Us la lb sa sb;have w2:=Us lb la sb sa;have l1:=zb6 a b;have l2:=zb6 b a;have hbp:zix a b=B4 ((gm jm fWo (a.length+b.length) a b).map (fun t=>(t,true))++(gm jm fWo (b.length+a.length) b a).map (fun t=>(t,false))):=rfl;rw[hbp];generalize gm jm fWo (a.length+b.length) a b=zpj at *;generalize gm jm fWo (b.length+a.length) b a=K at *;have mG:Kn.mono (.sat (US zpj true)):=ma;have mK:Kn.mono (.sat (US K true)):=ma;refine yf Tryz.func89 Z Tryz.ntmps89 (np Z) hB ((ZaQ∘Zc∘Zcu∘Zdh) ?_);refine zh (xi (φ:=US a true) L Z Z (zo Z) Z Z Z ma (fun u H hH hle _=>aa I hH (ha.le hle))) Z (Zdh (h:=?_));refine zh (xi (φ:=US b true) L Z Z (zo Z) Z Z Z ma (fun u H hH hle _=>aa I hH (hb.le hle))) Z ((Zcr∘Zcr∘ZU∘ZM∘Zk∘Zk) ?_);refine z8 (xi (φ:=LE (zpj,0)) L Z Z (zo Z) Z Z Z LE.mono (fun u H hH _ _ v1 h1 v2 h2=>s5 w1 hH h1 h2)) Z ((Zk∘Zcz∘ZbB∘ZX∘Zc∘ZR∘Zk∘Zk) ?_);refine z8 (xi (φ:=LE (K,0)) L Z Z (zo Z) Z Z Z LE.mono (fun u H hH _ _ v1 h1 v2 h2=>s5 w2 hH h1 h2)) Z ((Zk∘Zcz∘ZbB∘ZX∘Zc∘Z9∘Zi) ?_);refine cr 11 tyC 7 rfl ((ZY∘Zcb) ?_);refine xo (fun i:Nat=>[(9,.sat (US K true)),(11,.own (SlR tyC 7 ((zpj.take i).map fun t=>((t,true):CH)).length (((zpj.take i).map fun t=>((t,true):CH)).flatMap ccs))),(32,.sat (US zpj true)),(33,.is (.int .i64 zpj.length)),(34,.is (.int .i64 i))]) (fun i=>i<=zpj.length) (fun i=>zpj.length-i) 0 (mf _) ⟨Z,Z,Z,Z,Z,nm⟩ ?_;rintro i hi;have hli:((zpj.take i).map fun t=>((t,true):CH)).length<=8192:=by rw[mn,mw];omega
 by_cases hlt:i<zpj.length
 ·obtain⟨t,ht⟩:=xw hlt;have hct:=rq ht;have e1:((zpj.take (i+1)).map fun t=>((t,true):CH))=((zpj.take i).map fun t=>((t,true):CH))++[(t,true)]:=by rw[zls,ht,zl1];rfl
  refine(ZaZ∘Zx∘Z8∘Zab∘Zcm∘ZaT∘Z1∘ZK) ?_;refine q0 (yw (.inl Z) Z) ((ZaI∘ZcX∘Zap∘ZcL) ?_);refine q0 (yw (.inr Z) Z) ((ZbN∘ZQ∘Zbh) ?_);exact ym (x:=i) (i+1) hlt I ⟨Z,by rw[e1];exact pf Z,Z,Z,Z,nm⟩
 ·obtain rfl:i=zpj.length:=by omega
  rw[zlm];have lG:(zpj.map fun t=>((t,true):CH)).length<=8192:=by rw[mn];omega
  refine(ZaZ∘ZaK∘Ze∘Zah∘Zcb) ?_;refine xo (fun j:Nat=>[(11,.own (SlR tyC 7 ((zpj.map fun t=>((t,true):CH))++((K.take j).map fun t=>((t,false):CH))).length (((zpj.map fun t=>((t,true):CH))++((K.take j).map fun t=>((t,false):CH))).flatMap ccs))),(44,.sat (US K true)),(45,.is (.int .i64 K.length)),(46,.is (.int .i64 j))]) (fun j=>j<=K.length) (fun j=>K.length-j) 0 (mf _) ⟨by rw[zl2,zlo,mo];rfl,Z,Z,Z,nm⟩ ?_;rintro j hj;have hlj:((zpj.map fun t=>((t,true):CH))++((K.take j).map fun t=>((t,false):CH))).length<=16384:=by rw[nr,mn,mn,mw];omega
  by_cases hjl:j<K.length
  ·obtain⟨t,ht⟩:=xw hjl;have hct:=rq ht;have e1:((zpj.map fun t=>((t,true):CH))++((K.take (j+1)).map fun t=>((t,false):CH)))=((zpj.map fun t=>((t,true):CH))++((K.take j).map fun t=>((t,false):CH)))++[(t,false)]:=by rw[zls,ht,zl1,mj];rfl
   refine(Ze∘ZO∘Zx∘ZT∘Zab∘Zcm∘ZaT∘Z1∘ZV) ?_;refine q0 (yw (.inl Z) Z) ((ZaI∘ZcX∘Zap∘ZcL) ?_);refine q0 (yw (.inr Z) Z) ((ZbN∘ZaV∘Zbh) ?_);exact ym (x:=j) (j+1) hjl I ⟨by rw[e1];exact pf Z,Z,Z,Z,nm⟩
  ·obtain rfl:j=K.length:=by omega
   rw[zlm];rw[zlm] at hlj;refine ax 11 rfl ((Ze∘ZO∘ZaK∘Zaw∘Zk) ?_);refine z8 (xi (φ:=KS tyC (B4 ((zpj.map fun t=>((t,true):CH))++(K.map fun t=>((t,false):CH)))) true) L Z Z (zo Z) Z Z Z ma (fun u H hH _ _ v1 h1=>Nj Z I hH h1)) Z ((ZX∘Z1) ?_);refine ye1 L [.tmp 4] fun u H hH hle=>?_;exact fun v hv=>hv
end Go.V.L8
namespace Go.V.L11
open Go.V.L2 Go.V.L4 Go.V.L8 Go.V.Bd
def ai{c:UInt8}(h:chk s=0)(hc:okB c=false):noB s c:=by
 unfold chk at h;split at h
 ·rename_i hk;have:=zlj.1 hk.2.2;exact fun hm=>by have:=this _ hm;rw[hc] at this;cases this
 ·exact ni h J
def Ou(h:tE t=0):noB (tT t) 10:=by
 obtain⟨⟨⟨x,y⟩,z⟩,⟨⟨x2,y2⟩,z2⟩⟩:=t;unfold tE at h;dsimp only at h;split at h
 ·rename_i h1;obtain⟨c1,c2,c3⟩:=Ls h1;obtain⟨d1,d2,d3⟩:=gu h;have k:okB 10=false:=J
  have n1:noB (dy x y z) 10:=by
   unfold dy Fv;exact wc (wc (wc (wc (ai c1 k) (pd J)) (ai c2 k)) (pd J)) (ai c3 k)
  have n2:noB (ef x2 y2 z2) 10:=by
   unfold ef;split
   ·unfold Fv;exact wc (wc (ai d1 k) (pd J)) (ai d2 k)
   ·rename_i hz;unfold dy Fv;exact wc (wc (wc (wc (ai d1 k) (pd J)) (ai d2 k)) (pd J)) (ai (d3.resolve_left hz) k)
  unfold tT;exact wc (wc n1 (pd J)) n2
 ·rename_i h1;exact ni h h1
def eu(s:ByteArray)(l:List Nat):lp (g8 s++l)=s++lp l:=by
 apply wn;rw[kg];unfold lp g8;simp only[zl1,zm6];show List.map (UInt8.ofNat∘fun c=>c.toNat) s.data.toList++_=s.data.toList++_;rw[zn5 (g:=id) fun c _=>by simp,znq]
def S3:lp []=⟨#[]⟩:=rfl
def U4{X:Type}{f:X->ByteArray}:∀ {l:List X},(∀ x∈l,noB (f x) 10)->pu (lp (l.flatMap fun x=>g8 (f x++sNl)))=l.map fun x=>f x++sNl
 | [],_=>rfl
 | x::l,h=>by
  rw[zly,eu,F5 (h x (mb ..)),U4 fun y hy=>h y (mc _ hy)];rfl
def Fg{X:Type}{f:X->ByteArray}{rd:ByteArray->X×Int}:∀ {l:List X} {out:List X} {n:Nat},(∀ x∈l,rd (f x)=(x,0))->n+l.length<=4097->du rd out n (l.map fun x=>f x++sNl)=(out++l,0,0)
 | [],out,n,_,_=>by rw[mo];rfl
 | x::l,out,n,h,hn=>by
  rw[nz] at hn;show du rd out n ((f x++sNl)::l.map fun x=>f x++sNl)=_;unfold du;rw[nc I,zfe];dsimp only;rw[h x (mb ..),nc (by simp),Fg (fun y hy=>h y (mc _ hy)) I,mj];rfl
def Oa(l:List U):dp l=l.flatMap fun t=>g8 (tT t++sNl):=by
 unfold dp;congr 1
def Hj:∀ {l:List U},Qg l=0->∀ t∈l,tE t=0
 | t::l,h,x,hx=>by
  unfold Qg at h;by_cases h0:tE t=0
  ·rw[nc (fun h=>h h0)] at h;rcases nw.1 hx with rfl | hx
   ·exact h0
   ·exact Hj h x hx
  ·rw[na h0] at h;exact ni h h0
def zad{l:List U}(h:ry l=(s,0))(hz:s.size<=1000000):tw ptA s=(l,0,0):=by
 unfold ry at h;split at h
 ·cases nh Prod.snd h
 ·rename_i hl;have h2:=nh Prod.snd h;dsimp only at h2;rw[nc (fun h=>h h2)] at h;have h1:=nh Prod.fst h;dsimp only at h1;have hv:=Hj h2;unfold tw;rw[nc I,<-h1,Oa,U4 (fun t ht=>Ou (hv t ht)),Fg (fun t ht=>Tl (hv t ht)) I];rfl
def zer(s:ByteArray):(⟨#[]⟩:ByteArray)++s=s:=wn (by simp [kg])
def Xm(a b c:ByteArray):a++b++c=a++(b++c):=wn (by simp [kg])
def Tw{X:Type}{rd:ByteArray->X×Int}:∀ {xs:List ByteArray} {n:Nat} {out:List X},we rd n xs=false->(du rd out n xs).2.2≠0
 | [],_,_,h=>by cases h
 | x::xs,n,out,h=>by
  unfold we at h;unfold du;by_cases hn:4096<n
  ·rw[na hn];show(3:Int)≠0;decide
  ·rw[nc hn]
   cases he:Ec x with
   | none=>show(5:Int)≠0;decide
   | some r=>
    dsimp only;by_cases hr:(rd r).2≠0
    ·rw[na hr];exact hr
    ·rw[nc hr]
     have hb:rf rd n x=false:=by
      unfold rf;rw[he];simp at hr;simp [hn,hr]
     rw[hb] at h;exact Tw (by simpa using h)
def Tv{X:Type}{rd:ByteArray->X×Int}{xs:List ByteArray}(h:(du rd [] 1 xs).2.2=0):we rd 1 xs=true:=by
 cases hg:we rd 1 xs
 ·exfalso;exact Tw hg h
 ·rfl
def N6:∀ {l:List U},(∀ t∈l,tE t=0)->Qg l=0
 | [],_=>rfl
 | t::l,h=>by
  unfold Qg;rw[nc (fun h2=>h2 (h t (mb ..)))];exact N6 fun x hx=>h x (mc _ hx)
end Go.V.L11
namespace Go.V.L6
open Go.V.L2 Go.V.L3
abbrev d36:ByteArray:=⟨#[48,49,50,51,52,53,54,55,56,57,97,98,99,100,101,102,103,104,105,106,107,108,109,110,111,112,113,114,115,116,117,118,119,120,121,122]⟩
def dgt(k:Nat):ByteArray:=d36.extract k (k+1)
def db(d:Nat):UInt8:=if d<10 then UInt8.ofNat (48+d) else UInt8.ofNat (87+d)
def Pi:∀ d,d<36->dgt d=⟨#[db d]⟩:=by decide+kernel
def zfh:∀ d,d<36->∀ e,e<36->d<e->(db d).toNat<(db e).toNat:=by decide+kernel
def zfg:∀ d,d<36->okB (db d)=true:=by decide+kernel
def Gp(k:Nat)(h:k<36):(dgt k).size=1:=by rw[Pi k h];rfl
def dig(i:Nat):ByteArray:=dgt (i/1296)++dgt (i/36%36)++dgt (i%36)
def Si(t:U)(s:ByteArray):U:=(t.1,((t.2.1.1,s),t.2.2))
def kt(t:U)(i:Nat):U:=Si t (dig i)
def kl(t:U)(n:Nat):List U:=(List.range n).map (kt t)
def V1(h:i<4097):dig i=⟨#[db (i/1296),db (i/36%36),db (i%36)]⟩:=by
 unfold dig;rw[Pi _ I,Pi _ I,Pi _ I];rfl
def zjt{a b c x y z:UInt8}(h:a.toNat<x.toNat\/(a=x/\b.toNat<y.toNat)\/(a=x/\b=y/\c.toNat<z.toNat)):V9 ⟨#[a,b,c]⟩ ⟨#[x,y,z]⟩<0:=by
 have lt:∀ {p q:UInt8},p.toNat<q.toNat->p<q:=fun h=>UInt8.lt_iff_toNat_lt.2 h;unfold V9;rcases h with h | ⟨rfl,h⟩ | ⟨rfl,rfl,h⟩
 ·have:=lt h;simp [Lib.compareBytes,this]
 ·have:=lt h;simp [Lib.compareBytes,this]
 ·have:=lt h;simp [Lib.compareBytes,this]
def zh2(hj:j<4097)(h:i<j):V9 (dig i) (dig j)<0:=by
 rw[V1 I,V1 hj];refine zjt ?_;rcases znb (i/1296) (j/1296) with h1 | h1 | h1
 ·exact .inl (zfh _ I _ I h1)
 ·rcases znb (i/36%36) (j/36%36) with h2 | h2 | h2
  ·exact .inr (.inl ⟨by rw[h1],zfh _ I _ I h2⟩)
  ·exact .inr (.inr ⟨by rw[h1],by rw[h2],zfh _ I _ I I⟩)
  ·omega
 ·omega
def Vf(hj:j<4097)(h:i<j):jm (kt t i) (kt t j)<0:=by
 have key:=zh2 hj h;unfold kt Si;generalize dig i=x at key;generalize dig j=y at key;have r:=fun s=>cmpB_ord.refl s;unfold jm ziw zax;simp only[zf9,r,if_true];rw[nc I];exact key
def zez(hi:i<4097)(hj:j<4097)(h:i≠j):kt t i≠kt t j:=by
 rcases Nat.lt_or_gt_of_ne h with h | h
 ·exact cmpT_ord.ne (Vf hj h)
 ·exact(cmpT_ord.ne (Vf hi h)).symm
def zcx(h:i<4097):chk (dig i)=0/\(dig i).size=3:=by
 rw[V1 h];refine⟨Nl (show 1<=3 by decide) (show 3<=16 by decide) ?_,rfl⟩;show [db (i/1296),db (i/36%36),db (i%36)].all okB=true;simp only[List.all_cons,List.all_nil,zfg _ (show i/1296<36 by omega),zfg _ (show i/36%36<36 by omega),zfg _ (show i%36<36 by omega),Bool.and_self]
def K2(ht:tE t=0)(h:i<4097):tE (kt t i)=0:=by
 obtain⟨⟨h1,h2,h3⟩,h4⟩:=Yq ht;obtain⟨g1,g2,g3⟩:=gu h4;unfold tE kt Si;rw[na (G0 h1 h2 h3)];unfold tq at h4 |-;dsimp only;have hd:=(zcx h).1;by_cases hn:t.2.2=⟨#[]⟩
 ·rw[na hn];exact G1 g1 hd
 ·rw[nc hn];exact G0 g1 hd (g3.resolve_left hn)
def zjm(ht:TZ t)(h:i<4097):TZ (kt t i):=by
 obtain⟨⟨h1,h2,h3⟩,h4,h5,h6⟩:=ht;have hd:=(zcx h).2;exact⟨⟨h1,h2,h3⟩,h4,(by show(dig i).size<=_;omega),h6⟩
def ze1(t:U):kl t 0=[]:=rfl
def vn(t:U)(n:Nat):(kl t n).length=n:=by simp [kl]
def Vi(t:U)(n:Nat):kl t (n+1)=kl t n++[kt t n]:=by simp [kl,List.range_succ]
def zcu(h:i<n):(kl t n)[i]?=some (kt t i):=by simp [kl,List.getElem?_range h]
def ze2(h:k<=n):(kl t n).take k=kl t k:=by
 unfold kl;rw[<-zmk,List.take_range,zmg h]
def ek{z:U}:z∈kl t n↔∃ i,i<n/\kt t i=z:=by simp [kl]
def zct(h:n<=4097):Sst jm (kl t n):=by
 unfold kl Sst;rw[zou];refine List.Pairwise.imp_of_mem (fun ha hb hlt=>Vf ?_ hlt) zoe;have:=List.mem_range.1 hb;omega
def Ge{α:Type}{c:α->α->Int}(h:Ord3 c){t:α}:∀ {l:List α},(∀ z∈l,c z t<0)->An c t l=l++[t]
 | [],_=>rfl
 | y::l,hl=>by
  simp only[An,zll];rw[nc (h.asym (hl y (mb ..))),Ge h fun z hz=>hl z (mc _ hz)]
def Ga(hi:i<4097)(h:n<=i):kt t i∉kl t n:=fun hm=>by
 obtain⟨j,hj,e⟩:=ek.1 hm;exact zez I hi I e
def P7(ht:tE t=0)(h:n<4096):wa (kl t n) (kt t n) false=(kl t (n+1),0):=by
 unfold wa
 rw[na (K2 ht I),nc J,nc (Ga I (ns _)),nc (by rw[vn];omega),Vi,Ge cmpT_ord fun z hz=>by
  obtain⟨j,hj,rfl⟩:=ek.1 hz;exact Vf I hj]
def ze3(h:k<n):(kl t n).drop k=kt t k::(kl t n).drop (k+1):=eo (zcu h)
def zcl{t:U}(ht:tE t=0):∀ (m k:Nat),k+m=4096->ofU (kl t k) ((kl t 4096).drop k)=(kl t 4096,0)
 | 0,k,h=>by
  obtain rfl:k=4096:=by omega
  rw[zlk (by rw[vn];exact ns _)];rfl
 | m+1,k,h=>by
  rw[ze3 I,ofU,P7 ht I,na rfl];exact zcl ht m (k+1) I
def zem(ht:tE t=0):ofU [] (kl t 4096)=(kl t 4096,0):=zcl ht 4096 0 rfl
def zf6(ht:tE t=0):wa (kl t 4096) (kt t 4096) false=([],3):=by
 unfold wa;rw[na (K2 ht I),nc J,nc (Ga I (ns _)),na (by rw[vn];exact ns _)]
def Dc{l:List U}{x:U}(hx:tE x=0):wa l x true=(l.filter fun z=>decide (z≠x),0):=by
 unfold wa;rw[na hx,na rfl]
structure K6(t:U)(A zpd:List U):Prop where
 less:wa (kl t 4096) (kt t 7) true=(A,0)
 more:wa A (kt t 4096) false=(zpd,0)
 la:A.length=4095
 lz:zpd.length=4096
 has:decide (kt t 4096∈zpd)=true
 hasnt:decide (kt t 7∈zpd)=false
 goal:zjp zpd t.1=zpd
 sub:(zi8 zpd (kt t 9).2).length=1
def k6(ht:tE t=0):∃ A zpd,K6 t A zpd:=by
 have m7:kt t 7∈kl t 4096:=ek.2 ⟨7,by omega,rfl⟩;have sK:=zct (t:=t) (n:=4096) I;have la:=oj (sK.nodup cmpT_ord) m7;rw[vn] at la
 have hA:∀ z,z∈(kl t 4096).filter (fun z=>decide (z≠kt t 7))↔∃ i,i<4096/\i≠7/\kt t i=z:=fun z=>by
  rw[zl3,ek];constructor
  ·rintro⟨⟨i,hi,rfl⟩,hn⟩;exact⟨i,hi,fun e=>by subst e;simp at hn,rfl⟩
  ·rintro⟨i,hi,h7,rfl⟩;exact⟨⟨i,hi,rfl⟩,by simpa using zez I I h7⟩
 have sA:Sst jm ((kl t 4096).filter fun z=>decide (z≠kt t 7)):=sK.sublist zm7;have n4:kt t 4096∉(kl t 4096).filter (fun z=>decide (z≠kt t 7)):=fun h=>Ga I (ns _) (zl3.1 h).1
 have hins:An jm (kt t 4096) ((kl t 4096).filter fun z=>decide (z≠kt t 7))=(kl t 4096).filter (fun z=>decide (z≠kt t 7))++[kt t 4096]:=Ge cmpT_ord fun z hz=>by
  obtain⟨i,hi,_,rfl⟩:=(hA z).1 hz;exact Vf I I
 have hw:wa ((kl t 4096).filter fun z=>decide (z≠kt t 7)) (kt t 4096) false=((kl t 4096).filter (fun z=>decide (z≠kt t 7))++[kt t 4096],0):=by
  unfold wa;rw[na (K2 ht I),nc J,nc n4,nc I,hins]
 have hZ:∀ z,z∈(kl t 4096).filter (fun z=>decide (z≠kt t 7))++[kt t 4096]↔∃ i,i<4097/\i≠7/\kt t i=z:=fun z=>by
  rw[mi,hA,mz];constructor
  ·rintro(⟨i,hi,h7,e⟩ | e)
   ·exact⟨i,by omega,h7,e⟩
   ·exact⟨4096,by omega,by omega,e.symm⟩
  ·rintro⟨i,hi,h7,e⟩;by_cases h:i<4096
   ·exact .inl ⟨i,h,h7,e⟩
   ·obtain rfl:i=4096:=by omega
    exact .inr e.symm
 have sZ:Sst jm ((kl t 4096).filter (fun z=>decide (z≠kt t 7))++[kt t 4096]):=hins ▸ da cmpT_ord sA n4;have hless:=Dc (l:=kl t 4096) (K2 ht (show 7<4097 by omega));generalize (kl t 4096).filter (fun z=>decide (z≠kt t 7))=A at *;refine⟨A,A++[kt t 4096],hless,hw,by omega,by simp;omega,nf ((hZ _).2 ⟨4096,by omega,by omega,rfl⟩),ng fun h=>?_,?_,?_⟩
 ·obtain⟨i,hi,h7,e⟩:=(hZ _).1 h;exact zez hi I h7 e
 ·refine znl.2 fun z hz=>?_;obtain⟨i,_,_,rfl⟩:=(hZ _).1 hz;exact nf Z
 ·have:zi8 (A++[kt t 4096]) (kt t 9).2=[kt t 9]:=dq cmpT_ord (sZ.sublist zm7) (zmc _ _) fun z=>by
   unfold zi8;rw[zl3,hZ,mz,decide_eq_true_eq];constructor
   ·rintro⟨⟨i,_,_,rfl⟩,e⟩;exact Prod.ext Z e
   ·rintro rfl;exact⟨⟨9,by omega,by omega,rfl⟩,rfl⟩
  rw[this];rfl
end Go.V.L6
namespace Go.V.L4
open Go.V.L2 Go.V.L8 Go.V.Bd
def s7(s:ByteArray):List Nat:=uq s.size++g8 s
def vw(l:List ByteArray):List Nat:=l.flatMap s7
def u6(t:U):List ByteArray:=[t.1.1.1,t.1.1.2,t.1.2,t.2.1.1,t.2.1.2,t.2.2]
def N9(t:U):List Nat:=vw (u6 t)
def chgB(c:CH):List Nat:=N9 c.1++[if c.2=true then 1 else 0]
def N7(h:s.size<=1099511627776):(s7 s).length<=s.size+10:=by
 unfold s7;rw[nr,vr];have h128:(128:Nat)^10=1180591620717411303424:=J;have:=oa 9 s.size I;omega
def Sz(bs:List Nat)(a b:ByteArray):(bs++s7 a)++s7 b=bs++vw [a,b]:=by simp [vw]
def S0(bs:List Nat)(a b:List ByteArray):(bs++vw a)++vw b=bs++vw (a++b):=by simp [vw]
def b0:∀ {l:List ByteArray},(∀ s∈l,s.size<=1000)->(vw l).length<=l.length*1010
 | [],_=>ns _
 | s::l,h=>by
  have h1:=h s (mb ..);have h2:=N7 (s:=s) I;have h3:=b0 fun x hx=>h x (mc _ hx);show(s7 s++vw l).length<=_;rw[nr,nz];omega
attribute [local irreducible] V N X VO Par StepOK Has Ret RetL RetO RetT kr RetX RetY Src
def Em(hs:s.size<=1000)(hz:bs.length+2000<=1099511627776)(hB:zpk B w)(hr:(GWr wb bs).P B w C)(hC:ZCB C w B):
  kr zpl 231 [xy wb,.string s] w B C (GWr wb (bs++s7 s)):=by
 unfold kr;have h128:(128:Nat)^10=1180591620717411303424:=J;have hnl:=oa 9 s.size I;have hcv:IntKind.u64.wrap (s.size:Int)=(s.size:Int):=wrap_u64 I I;refine yr 900 (GWr wb bs) Tryz.func231 Z Tryz.ntmps231 (np Z) hB hr hC ((ZL∘Za) ?_);refine z8 (Fq Z Z Z Z zeq Z Z) Z ((Zr∘Z4∘Zb∘Zan) ?_);refine z8 (ku Z Z Z bm.1 bm.2 (wrap_u64 I I)) Z (q0 (yq L 900 (GWr wb (bs++uq s.size)) (r:=GWr wb bs) Z Z Z Z Z (fun u H C hH _ hr hC=>vk I I hH hr hC)) (Z1 (h:=?_)));have hz2:(bs++uq s.size).length+s.size<=140737488355328:=by rw[nr];omega
 have e0:bs++s7 s=(bs++uq s.size)++g8 s:=by unfold s7;rw[List.append_assoc]
 rw[e0];generalize bs++uq s.size=bs1 at hz2;refine vu (X:=Value) 900 (r:=fun sv=>(GWv wb bs1 sv).res) (φ:=fun sv _=>Mb sv) (hφ:=f5) Z fun sv H0 hs0 hsp=>?_;obtain⟨p,k,c,rfl⟩:=hsp;refine vt (r1:=xk wb [.slice p k c] zgf) (r2:=(GSl (.slice p k c) bs1).res) 900 901 rfl (xd _) ?_;rw[Cf];refine(ZM∘Zbe) ?_;refine v7 15 901 rfl rfl (Za (h:=?_));refine q0 (tc L rfl rfl rfl rfl rfl T el5 hz2) ?_;refine ln 17 901 Mb rfl Oh fun s2 hp2=>?_;obtain⟨p2,k2,c2,rfl⟩:=hp2;refine ZI (h:=?_);refine xf (yc L (q:=900) (cs':=[.slice p2 k2 c2]) rfl rfl rfl rfl rfl) (ZS (h:=?_));have e2:bs1.length+s.size=(bs1++g8 s).length:=by rw[nr,vr]
 rw[Xj,e2];refine ij 900 901 rfl Z (Nt _ _) ?_;exact ep (X:=Value) 900 (r:=fun sv=>(GWv wb (bs1++g8 s) sv).res) (φ:=fun sv _=>Mb sv) f5 (.slice p2 k2 c2) ⟨_,_,_,rfl⟩ Z (xp L 900 (r:=GWr wb (bs1++g8 s)) Z (fun _ _ h=>h) hs0 Z Z)
def X9{a b:ByteArray}(ha:a.size<=1000)(hb:b.size<=1000)(hz:bs.length+4000<=1099511627776)(hB:zpk B w)(hr:(GWr wb bs).P B w C)(hC:ZCB C w B):
  kr zpl 230 [xy wb,.agg #[.string a,.string b]] w B C (GWr wb (bs++vw [a,b])):=by
 unfold kr;have h1:=N7 (s:=a) I;rw[<-Sz];refine yr 900 (GWr wb bs) Tryz.func230 Z Tryz.ntmps230 (np Z) hB hr hC ((ZA∘Zf∘Zbf∘Zac) ?_);refine q0 (yq L 900 (GWr wb (bs++s7 a)) (r:=GWr wb bs) Z Z Z Z Z (fun u H C hH _ hr hC=>Em ha I hH hr hC)) ((Z1∘Zq∘Zac) ?_);refine q0 (yq L 900 (GWr wb (bs++s7 a++s7 b)) (r:=GWr wb (bs++s7 a)) Z Z Z Z Z (fun u H C hH _ hr hC=>Em hb (by rw[nr];omega) hH hr hC)) ?_;refine ZS (h:=?_);exact xp L 900 (r:=GWr wb (bs++s7 a++s7 b)) Z (fun _ _ h=>h) nq Z Z
def Hb{a b c:ByteArray}(ha:a.size<=1000)(hb:b.size<=1000)(hc:c.size<=1000)(hz:bs.length+8000<=1099511627776)(hB:zpk B w)(hr:(GWr wb bs).P B w C)(hC:ZCB C w B):
  kr zpl 160 [xy wb,.agg #[.string a,.string b,.string c]] w B C (GWr wb (bs++vw [a,b,c])):=by
 unfold kr;have h1:=b0 (l:=[a,b]) (fun s hs=>by simp only[nw,zmj,or_false] at hs;rcases hs with rfl | rfl<;>assumption);simp only[nz,my] at h1;have e0:bs++vw [a,b,c]=(bs++vw [a,b])++s7 c:=by simp [vw]
 rw[e0];refine yr 900 (GWr wb bs) Tryz.func160 Z Tryz.ntmps160 (np Z) hB hr hC ((ZA∘Zf∘Zbf∘Zav∘ZbJ) ?_);refine q0 (yq L 900 (GWr wb (bs++vw [a,b])) (r:=GWr wb bs) Z Z Z Z Z (fun u H C hH _ hr hC=>X9 ha hb I hH hr hC)) ((Z1∘Zq∘Zac) ?_);refine q0 (yq L 900 (GWr wb (bs++vw [a,b]++s7 c)) (r:=GWr wb (bs++vw [a,b])) Z Z Z Z Z (fun u H C hH _ hr hC=>Em hc (by rw[nr];omega) hH hr hC)) ?_;refine ZS (h:=?_);exact xp L 900 (r:=GWr wb (bs++vw [a,b]++s7 c)) Z (fun _ _ h=>h) nq Z Z
def X8{a b c:ByteArray}(ha:a.size<=1000)(hb:b.size<=1000)(hc:c.size<=1000)(hz:bs.length+8000<=1099511627776)(hB:zpk B w)(hr:(GWr wb bs).P B w C)(hC:ZCB C w B):
  kr zpl 161 [xy wb,.agg #[.string a,.string b,.string c]] w B C (GWr wb (bs++vw [a,b,c])):=by
 unfold kr;refine yr 900 (GWr wb bs) Tryz.func161 Z Tryz.ntmps161 (np Z) hB hr hC ((ZA∘Z1∘Zbf∘ZcF) ?_);refine q0 (yq L 900 (GWr wb (bs++vw [a,b,c])) (r:=GWr wb bs) Z Z Z Z Z (fun u H C hH _ hr hC=>Hb ha hb hc hz hH hr hC)) (ZS (h:=?_));exact xp L 900 (r:=GWr wb (bs++vw [a,b,c])) Z (fun _ _ h=>h) nq Z Z
def X7{t:U}(ht:∀ s∈u6 t,s.size<=1000)(hz:bs.length+16000<=1099511627776)(hB:zpk B w)(hr:(GWr wb bs).P B w C)(hC:ZCB C w B):
  kr zpl 96 [xy wb,uv t] w B C (GWr wb (bs++N9 t)):=by
 unfold kr;obtain⟨⟨⟨a,b⟩,c⟩,⟨⟨d,e⟩,f⟩⟩:=t;have ha:=ht a (by simp [u6]);have hb:=ht b (by simp [u6]);have hc:=ht c (by simp [u6]);have hd:=ht d (by simp [u6]);have he:=ht e (by simp [u6]);have hf:=ht f (by simp [u6]);have h1:=b0 (l:=[a,b,c]) (fun s hs=>by simp only[nw,zmj,or_false] at hs;rcases hs with rfl | rfl | rfl<;>assumption);simp only[nz,my] at h1;have e0:bs++N9 (((a,b),c),((d,e),f))=(bs++vw [a,b,c])++vw [d,e,f]:=by rw[S0];rfl
 rw[e0];refine yr 900 (GWr wb bs) Tryz.func96 Z Tryz.ntmps96 (np Z) hB hr hC ((ZA∘Zf∘Zbf∘Zav∘ZcF) ?_);refine q0 (yq L 900 (GWr wb (bs++vw [a,b,c])) (r:=GWr wb bs) Z Z Z Z Z (fun u H C hH _ hr hC=>Hb ha hb hc I hH hr hC)) ((Z1∘Zq∘Zav∘ZcF) ?_);refine q0 (yq L 900 (GWr wb (bs++vw [a,b,c]++vw [d,e,f])) (r:=GWr wb (bs++vw [a,b,c])) Z Z Z Z Z (fun u H C hH _ hr hC=>X8 hd he hf (by rw[nr];omega) hH hr hC)) ?_;refine ZS (h:=?_);exact xp L 900 (r:=GWr wb (bs++vw [a,b,c]++vw [d,e,f])) Z (fun _ _ h=>h) nq Z Z
end Go.V.L4
namespace Go.V
open Go.V.L4
section
variable        {q:Nat}     {src dst e:TypeId}
def Bv{bs:List Nat}(hb:∀ b∈bs,b<=255)(hn:Nat.blt d n=true)(hg:gK ops κ ⟨some d,.convert src dst (.tmp q),ty,pos,aft,g⟩=some true)(hx:κ q=some (.sat (BsV bs fu)))(hs:P.underlying src=some (.slice e))(he:P.underlying e=some (.int .u8))(hd:P.underlying dst=some .string):
  StepOK P F B n ops O κ ⟨some d,.convert src dst (.tmp q),ty,pos,aft,g⟩ d (.is (.string (lp bs))):=
 ke rfl (by simpa using hn) hg trivial fun a u H fp en=>⟨_,by
  have key:(convert src dst (a.eval (.tmp q))).run P u=.ok (.string (lp bs)) u:=by
   obtain⟨hl,⟨h0,p,hv⟩ | ⟨b,off,cap,cs,ty0,fr,hv,h2,h3,h4,_⟩⟩:=en.sat_ q _ (by simp [Op.operands]) hx
   ·have hb0:bs=[]:=m6 h0;subst hb0;rw[hv]
    cases p with
    | none=>exact run_convert_bytes_nil u src e hs he _ _ dst hd
    | some a0=>exact run_convert_bytes_back (P:=P) u src dst e a0 0 [] hs he hd (fun j hj=>by cases hj)
   ·rw[hv];have hlen:(bs.map UInt8.ofNat).length=bs.length:=mn _
    have hr:=run_convert_bytes_back (P:=P) u src dst e ⟨b,off,none⟩ cap (bs.map UInt8.ofNat) hs he hd (fun j hj=>by
     rw[hlen] at hj;obtain⟨z,hz⟩:=xw hj;have hj2:(bs.map fun b:Nat=>Value.int .u8 (b:Int))[j]?=some (.int .u8 (z:Int)):=by rw[zlx,hz];rfl
     have h5:=AtP.get h3 hj2;rw[gh,ko (en.sub _ _ h2)]
     have h6:((bs.map UInt8.ofNat)[j]'(by rw[hlen];exact hj)).toNat=z:=by
      have hzb:=hb z (zlg hz);rw[List.getElem_map,f9 hz];simp;omega
     rw[h6];simpa using h5)
    rw[hlen] at hr;exact hr
  simp only[execOp,nu,me,key,ny],rfl⟩
end
end Go.V
namespace Go.V.L4
open Go.V.L2 Go.V.L3 Go.V.L8
abbrev zgh:TypeId:=29
abbrev zgi:TypeId:=31
abbrev oV(x:ByteArray×ByteArray):Value:=.agg #[.string x.1,.string x.2]
abbrev gV(x:Ma):Value:=.agg #[.string x.1.1,.string x.1.2,.string x.2]
abbrev sZ:ByteArray:=⟨#[]⟩
attribute [local irreducible] V N X VO Par StepOK Has Ret RetL RetO RetT kr RetX RetY Src
def Qb{gf:Rd->ByteArray×Rd}(hfn:L.fn fr=some ()){C:Nat->Prop}(hB:zpk B w)(hr:(GRd rb sv R).P B w C)(hC:ZCB C w B)
  (hf:R.err=0->∀ (u:World) (H:Heap) (C:Nat->Prop),zpk H u->B.Le H->(GRd rb sv R).P H u C->(ZCB C u H)->RetX zpl fr (fst++cap) u H C (GRd rb sv (gf R).2) (.string (gf R).1)):
  RetX zpl 284 [xy rb,.func (.func fr) fst.toArray cap.toArray] w B C (GRd rb sv (l8 gf sZ R).2) (.string (l8 gf sZ R).1):=by
 unfold RetX;refine yr 900 (GRd rb sv R) Tryz.func284 Z Tryz.ntmps284 (np Z) hB hr hC ?_;rw[xb];obtain⟨⟨n,⟨at1,bad1,err1⟩⟩,hz⟩:∃ z,gf R=z:=⟨_,rfl⟩
 obtain⟨at_,bad,err⟩:=R;unfold l8;rw[hz] at hf |-;dsimp only at hf |-;by_cases h0:err≠0
 ·rw[na h0];refine(Z5∘Zi∘Zq) ?_;refine q0 (y6 L 900 (GRd rb sv ⟨at_,bad,err⟩) (.bool true) (r:=GRd rb sv ⟨at_,bad,err⟩) Z Z Z Z Z (fun u H C2 hH _ hr2 hC2=>xx (nf h0) hH hr2 hC2)) ((Zr∘Zu∘Zd) ?_);exact xq L 900 (r:=xa rb _ uk) (rs:=[.tmp 4]) Z (fun _ _ h=>h) nq Z Z (fun _=>rfl)
 ·have he:err=0:=m5.1 h0;subst he;rw[nc h0];have hf:=hf rfl;by_cases h1:err1≠0
  ·rw[na h1];refine(Z5∘Zi∘Zq) ?_;refine q0 (y6 L 900 (GRd rb sv ⟨at_,bad,0⟩) (.bool false) (r:=GRd rb sv ⟨at_,bad,0⟩) Z Z Z Z Z (fun u H C2 hH _ hr2 hC2=>xx (ng h0) hH hr2 hC2)) ((Zl∘Zce∘Zby) ?_);refine q0 (ja L 900 (GRd rb sv ⟨at1,bad1,err1⟩) (.string n) (r:=GRd rb sv ⟨at_,bad,0⟩) Z Z Z hfn Z hf) ((Zi∘ZH∘ZW∘Zao∘Z8∘Zb∘ZI) ?_);refine xf (yc L (q:=900) (cs':=[sv,.int .i64 at_,.int .i64 bad1,.int .i64 err1]) Z Z Z Z Z) ((Zf∘Za4∘Zd) ?_);exact xq L 900 (r:=xa rb _ uk) (rs:=[.tmp 4]) Z (fun _ _ h=>h) nq Z Z (fun _=>rfl)
  ·have he:err1=0:=m5.1 h1;subst he;rw[nc h1];refine(Z5∘Zi∘Zq) ?_;refine q0 (y6 L 900 (GRd rb sv ⟨at_,bad,0⟩) (.bool false) (r:=GRd rb sv ⟨at_,bad,0⟩) Z Z Z Z Z (fun u H C2 hH _ hr2 hC2=>xx (ng h0) hH hr2 hC2)) ((Zl∘Zce∘Zby) ?_);refine q0 (ja L 900 (GRd rb sv ⟨at1,bad1,0⟩) (.string n) (r:=GRd rb sv ⟨at_,bad,0⟩) Z Z Z hfn Z hf) ((Zi∘ZH∘ZW∘ZaE∘Zat∘Zd) ?_);exact xq L 900 (r:=xa rb _ uk) (rs:=[.tmp 4]) Z (fun _ _ h=>h) nq Z Z (fun _=>rfl)
def Qc{gf:Rd->(ByteArray×ByteArray)×Rd}(hfn:L.fn fr=some ()){C:Nat->Prop}(hB:zpk B w)(hr:(GRd rb sv R).P B w C)(hC:ZCB C w B)
  (hf:R.err=0->∀ (u:World) (H:Heap) (C:Nat->Prop),zpk H u->B.Le H->(GRd rb sv R).P H u C->(ZCB C u H)->RetX zpl fr (fst++cap) u H C (GRd rb sv (gf R).2) (oV (gf R).1)):
  RetX zpl 282 [xy rb,.func (.func fr) fst.toArray cap.toArray] w B C (GRd rb sv (l8 gf (sZ,sZ) R).2) (oV (l8 gf (sZ,sZ) R).1):=by
 unfold RetX;refine yr 900 (GRd rb sv R) Tryz.func282 Z Tryz.ntmps282 (np Z) hB hr hC ?_;rw[xb];obtain⟨⟨n,⟨at1,bad1,err1⟩⟩,hz⟩:∃ z,gf R=z:=⟨_,rfl⟩
 
 obtain⟨at_,bad,err⟩:=R;unfold l8;rw[hz] at hf |-;dsimp only at hf |-;by_cases h0:err≠0
 ·rw[na h0];refine(ZbW∘Z4∘Zbw∘Zq) ?_;refine q0 (y6 L 900 (GRd rb sv ⟨at_,bad,err⟩) (.bool true) (r:=GRd rb sv ⟨at_,bad,err⟩) Z Z Z Z Z (fun u H C2 hH _ hr2 hC2=>xx (nf h0) hH hr2 hC2)) ((Zr∘ZR∘Zck∘Zau) ?_);exact xq L 900 (r:=xa rb _ uk) (rs:=[.cell 4 zgh]) Z (fun _ _ h=>h) nq Z Z (fun _=>⟨_,qs Z,rfl,rfl⟩)
 ·have he:err=0:=m5.1 h0;subst he;rw[nc h0];have hf:=hf rfl;by_cases h1:err1≠0
  ·rw[na h1];refine(ZbW∘Z4∘Zbw∘Zq) ?_;refine q0 (y6 L 900 (GRd rb sv ⟨at_,bad,0⟩) (.bool false) (r:=GRd rb sv ⟨at_,bad,0⟩) Z Z Z Z Z (fun u H C2 hH _ hr2 hC2=>xx (ng h0) hH hr2 hC2)) ((Zl∘Zce∘Zby) ?_);refine q0 (ja L 900 (GRd rb sv ⟨at1,bad1,err1⟩) (oV n) (r:=GRd rb sv ⟨at_,bad,0⟩) Z Z Z hfn Z hf) ((Zbs∘ZH∘ZW∘Zao∘Z8∘Zb∘ZI) ?_);refine xf (yc L (q:=900) (cs':=[sv,.int .i64 at_,.int .i64 bad1,.int .i64 err1]) Z Z Z Z Z) ((Zf∘ZK∘Zck∘Zau) ?_);exact xq L 900 (r:=xa rb _ uk) (rs:=[.cell 4 zgh]) Z (fun _ _ h=>h) nq Z Z (fun _=>⟨_,qs Z,rfl,rfl⟩)
  ·have he:err1=0:=m5.1 h1;subst he;rw[nc h1];refine(ZbW∘Z4∘Zbw∘Zq) ?_;refine q0 (y6 L 900 (GRd rb sv ⟨at_,bad,0⟩) (.bool false) (r:=GRd rb sv ⟨at_,bad,0⟩) Z Z Z Z Z (fun u H C2 hH _ hr2 hC2=>xx (ng h0) hH hr2 hC2)) ((Zl∘Zce∘Zby) ?_);refine q0 (ja L 900 (GRd rb sv ⟨at1,bad1,0⟩) (oV n) (r:=GRd rb sv ⟨at_,bad,0⟩) Z Z Z hfn Z hf) ((Zbs∘ZH∘ZW∘ZaE∘ZQ∘Zck∘Zau) ?_);exact xq L 900 (r:=xa rb _ uk) (rs:=[.cell 4 zgh]) Z (fun _ _ h=>h) nq Z Z (fun _=>⟨_,qs Z,rfl,rfl⟩)
def Md{gf:Rd->Ma×Rd}(hfn:L.fn fr=some ()){C:Nat->Prop}(hB:zpk B w)(hr:(GRd rb sv R).P B w C)(hC:ZCB C w B)
  (hf:R.err=0->∀ (u:World) (H:Heap) (C:Nat->Prop),zpk H u->B.Le H->(GRd rb sv R).P H u C->(ZCB C u H)->RetX zpl fr (fst++cap) u H C (GRd rb sv (gf R).2) (gV (gf R).1)):
  RetX zpl 232 [xy rb,.func (.func fr) fst.toArray cap.toArray] w B C (GRd rb sv (l8 gf n3 R).2) (gV (l8 gf n3 R).1):=by
 unfold RetX;refine yr 900 (GRd rb sv R) Tryz.func232 Z Tryz.ntmps232 (np Z) hB hr hC ?_;rw[xb];obtain⟨⟨n,⟨at1,bad1,err1⟩⟩,hz⟩:∃ z,gf R=z:=⟨_,rfl⟩
 
 obtain⟨at_,bad,err⟩:=R;unfold l8;rw[hz] at hf |-;dsimp only at hf |-;by_cases h0:err≠0
 ·rw[na h0];refine(ZbW∘Z4∘Zbw∘Zq) ?_;refine q0 (y6 L 900 (GRd rb sv ⟨at_,bad,err⟩) (.bool true) (r:=GRd rb sv ⟨at_,bad,err⟩) Z Z Z Z Z (fun u H C2 hH _ hr2 hC2=>xx (nf h0) hH hr2 hC2)) ((Zr∘ZR∘Zdx∘Zau) ?_);exact xq L 900 (r:=xa rb _ uk) (rs:=[.cell 4 zgi]) Z (fun _ _ h=>h) nq Z Z (fun _=>⟨_,qs Z,rfl,rfl⟩)
 ·have he:err=0:=m5.1 h0;subst he;rw[nc h0];have hf:=hf rfl;by_cases h1:err1≠0
  ·rw[na h1];refine(ZbW∘Z4∘Zbw∘Zq) ?_;refine q0 (y6 L 900 (GRd rb sv ⟨at_,bad,0⟩) (.bool false) (r:=GRd rb sv ⟨at_,bad,0⟩) Z Z Z Z Z (fun u H C2 hH _ hr2 hC2=>xx (ng h0) hH hr2 hC2)) ((Zl∘Zce∘Zby) ?_);refine q0 (ja L 900 (GRd rb sv ⟨at1,bad1,err1⟩) (gV n) (r:=GRd rb sv ⟨at_,bad,0⟩) Z Z Z hfn Z hf) ((Zbs∘ZH∘ZW∘Zao∘Z8∘Zb∘ZI) ?_);refine xf (yc L (q:=900) (cs':=[sv,.int .i64 at_,.int .i64 bad1,.int .i64 err1]) Z Z Z Z Z) ((Zf∘ZK∘Zdx∘Zau) ?_);exact xq L 900 (r:=xa rb _ uk) (rs:=[.cell 4 zgi]) Z (fun _ _ h=>h) nq Z Z (fun _=>⟨_,qs Z,rfl,rfl⟩)
  ·have he:err1=0:=m5.1 h1;subst he;rw[nc h1];refine(ZbW∘Z4∘Zbw∘Zq) ?_;refine q0 (y6 L 900 (GRd rb sv ⟨at_,bad,0⟩) (.bool false) (r:=GRd rb sv ⟨at_,bad,0⟩) Z Z Z Z Z (fun u H C2 hH _ hr2 hC2=>xx (ng h0) hH hr2 hC2)) ((Zl∘Zce∘Zby) ?_);refine q0 (ja L 900 (GRd rb sv ⟨at1,bad1,0⟩) (gV n) (r:=GRd rb sv ⟨at_,bad,0⟩) Z Z Z hfn Z hf) ((Zbs∘ZH∘ZW∘ZaE∘ZQ∘Zdx∘Zau) ?_);exact xq L 900 (r:=xa rb _ uk) (rs:=[.cell 4 zgi]) Z (fun _ _ h=>h) nq Z Z (fun _=>⟨_,qs Z,rfl,rfl⟩)
def Qa{gf:Rd->U×Rd}(hfn:L.fn fr=some ()){C:Nat->Prop}(hB:zpk B w)(hr:(GRd rb sv R).P B w C)(hC:ZCB C w B)
  (hf:R.err=0->∀ (u:World) (H:Heap) (C:Nat->Prop),zpk H u->B.Le H->(GRd rb sv R).P H u C->(ZCB C u H)->RetX zpl fr (fst++cap) u H C (GRd rb sv (gf R).2) (uv (gf R).1)):
  RetX zpl 162 [xy rb,.func (.func fr) fst.toArray cap.toArray] w B C (GRd rb sv (l8 gf (n3,n3) R).2) (uv (l8 gf (n3,n3) R).1):=by
 unfold RetX;refine yr 900 (GRd rb sv R) Tryz.func162 Z Tryz.ntmps162 (np Z) hB hr hC ?_;rw[xb];obtain⟨⟨n,⟨at1,bad1,err1⟩⟩,hz⟩:∃ z,gf R=z:=⟨_,rfl⟩
 
 obtain⟨at_,bad,err⟩:=R;unfold l8;rw[hz] at hf |-;dsimp only at hf |-;by_cases h0:err≠0
 ·rw[na h0];refine(ZbW∘Z4∘Zbw∘Zq) ?_;refine q0 (y6 L 900 (GRd rb sv ⟨at_,bad,err⟩) (.bool true) (r:=GRd rb sv ⟨at_,bad,err⟩) Z Z Z Z Z (fun u H C2 hH _ hr2 hC2=>xx (nf h0) hH hr2 hC2)) ((Zr∘ZR∘ZaI∘Zau) ?_);exact xq L 900 (r:=xa rb _ uk) (rs:=[.cell 4 tyU]) Z (fun _ _ h=>h) nq Z Z (fun _=>⟨_,qs Z,rfl,rfl⟩)
 ·have he:err=0:=m5.1 h0;subst he;rw[nc h0];have hf:=hf rfl;by_cases h1:err1≠0
  ·rw[na h1];refine(ZbW∘Z4∘Zbw∘Zq) ?_;refine q0 (y6 L 900 (GRd rb sv ⟨at_,bad,0⟩) (.bool false) (r:=GRd rb sv ⟨at_,bad,0⟩) Z Z Z Z Z (fun u H C2 hH _ hr2 hC2=>xx (ng h0) hH hr2 hC2)) ((Zl∘Zce∘Zby) ?_);refine q0 (ja L 900 (GRd rb sv ⟨at1,bad1,err1⟩) (uv n) (r:=GRd rb sv ⟨at_,bad,0⟩) Z Z Z hfn Z hf) ((Zbs∘ZH∘ZW∘Zao∘Z8∘Zb∘ZI) ?_);refine xf (yc L (q:=900) (cs':=[sv,.int .i64 at_,.int .i64 bad1,.int .i64 err1]) Z Z Z Z Z) ((Zf∘ZK∘ZaI∘Zau) ?_);exact xq L 900 (r:=xa rb _ uk) (rs:=[.cell 4 tyU]) Z (fun _ _ h=>h) nq Z Z (fun _=>⟨_,qs Z,rfl,rfl⟩)
  ·have he:err1=0:=m5.1 h1;subst he;rw[nc h1];refine(ZbW∘Z4∘Zbw∘Zq) ?_;refine q0 (y6 L 900 (GRd rb sv ⟨at_,bad,0⟩) (.bool false) (r:=GRd rb sv ⟨at_,bad,0⟩) Z Z Z Z Z (fun u H C2 hH _ hr2 hC2=>xx (ng h0) hH hr2 hC2)) ((Zl∘Zce∘Zby) ?_);refine q0 (ja L 900 (GRd rb sv ⟨at1,bad1,0⟩) (uv n) (r:=GRd rb sv ⟨at_,bad,0⟩) Z Z Z hfn Z hf) ((Zbs∘ZH∘ZW∘ZaE∘ZQ∘ZaI∘Zau) ?_);exact xq L 900 (r:=xa rb _ uk) (rs:=[.cell 4 tyU]) Z (fun _ _ h=>h) nq Z Z (fun _=>⟨_,qs Z,rfl,rfl⟩)
end Go.V.L4
namespace Go.V.L4
open Go.V Go.V.L2 Go.V.L3 Go.V.L8
def Nb(h:R.at_<=bs.length):(Ko bs R).2.at_<=bs.length:=(Um _ _ _ R h).1
def Ny{e:Int}(h:R.at_<=bs.length):(bo bs lim e R).2.at_<=bs.length:=by
 unfold bo;split
 ·dsimp only;rw[Gk];exact Nb h
 ·exact Nb h
def bu{f:Rd->α×Rd}{z:α}(h:R.at_<=m)(hf:(f R).2.at_<=m):(l8 f z R).2.at_<=m:=by
 unfold l8;split
 ·exact h
 ·split
  ·exact h
  ·exact hf
def ia(h:R.at_<=bs.length):(wk bs lim R).2.at_<=bs.length:=bu h (Ny h)
def a9(hl:lim<=1099511627776)(h:(wk bs lim R).2.err=0):∃ n:Nat,(wk bs lim R).1=(n:Int)/\n<=lim:=by
 unfold wk l8 at h |-;split at h
 ·rename_i h0;exact ni h h0
 ·rename_i h0;rw[nc h0];split at h
  ·rename_i h1;exact ni h h1
  ·rename_i h1;rw[nc h1];unfold zcq bo at h |-;dsimp only at h |-;split at h
   ·rename_i h2;exfalso;unfold Rd.fail at h;split at h
    ·cases h
    ·rename_i h3;exact h3 h
   ·rename_i h2;rw[nc h2];exact⟨_,yz I I,by omega⟩
def Sp(bs:List Nat)(lim:Nat)(R:Rd):ByteArray×Rd:=
 if (wk bs lim R).2.err≠0\/((bs.length-(wk bs lim R).2.at_:Nat):Int)<(wk bs lim R).1 then (sZ,(wk bs lim R).2.fail bs.length 17)
 else (lp ((bs.drop (wk bs lim R).2.at_).take (wk bs lim R).1.toNat),⟨(wk bs lim R).2.at_+(wk bs lim R).1.toNat,(wk bs lim R).2.bad,(wk bs lim R).2.err⟩)
def po(bs:List Nat)(lim:Nat):Rd->ByteArray×Rd:=l8 (Sp bs lim) sZ
def Ex{α β:Type}(f:Rd->α×Rd)(g:Rd->β×Rd)(R:Rd):(α×β)×Rd:=(((f R).1,(g (f R).2).1),(g (f R).2).2)
def Na(bs:List Nat):Rd->(ByteArray×ByteArray)×Rd:=l8 (Ex (po bs 16) (po bs 16)) (sZ,sZ)
def wt(bs:List Nat):Rd->Ma×Rd:=l8 (Ex (Na bs) (po bs 16)) n3
def rt(bs:List Nat):Rd->U×Rd:=l8 (Ex (wt bs) (wt bs)) (n3,n3)
def zdf(h:R.at_<=bs.length):(Sp bs lim R).2.at_<=bs.length:=by
 have h1:=ia (lim:=lim) h;unfold Sp;split
 ·dsimp only;rw[Gk];exact h1
 ·rename_i h2;dsimp only;omega
def Ew(h:R.at_<=bs.length):(po bs lim R).2.at_<=bs.length:=bu h (zdf h)
def Uj(h:R.at_<=bs.length):(Na bs R).2.at_<=bs.length:=bu h (Ew (Ew h))
def Gh(h:R.at_<=bs.length):(wt bs R).2.at_<=bs.length:=bu h (Ew (Uj h))
def Sr(h:R.at_<=bs.length):(rt bs R).2.at_<=bs.length:=bu h (Gh (Gh h))
section
variable        {q:Nat}    
def T1(L:Tabs P){tt:TypeId}{ag:Bool}{lo hi:Operand}{kl kh:IntKind}(i k:Nat){pl ph:Int}(hn:Nat.blt d n=true)(hg:gK ops κ ⟨some d,.slice tt (.tmp q) (some lo) (some hi) none,ty,pos,aft,g⟩=some true)(hx:κ q=some (.sat (BsV bs fu)))(ht:L.sl tt=some N5)(hl:L.ld N5=some (ag,1))
  (hlo:evK κ lo=some (.int kl pl)) (hhi:evK κ hi=some (.int kh ph)) (el:pl=i) (eh:ph=(i+k:Nat)) (hjs:i+k<=bs.length):StepOK P F B n ops O κ ⟨some d,.slice tt (.tmp q) (some lo) (some hi) none,ty,pos,aft,g⟩ d (.sat (BsV ((bs.drop i).take k) false)):=by
 have h:=jk (km:=.i64) (pm:=0) (P:=P) (F:=F) (B:=B) (O:=O) (ops:=ops) (aft:=aft) (ty:=ty) (pos:=pos) (ys:=((bs.drop i).take k).map fun b:Nat=>Value.int .u8 (b:Int)) L i (i+k) false hn hg hx ht hl ⟨hlo,el⟩ ⟨hhi,eh⟩ (fun h=>by cases h) I hjs (by rw[zmi,zmi,zpa,zmk,zmz]);have e:i+k-i=((bs.drop i).take k).length:=by rw[mw,zlc];omega
 rw[e] at h;exact h
end
attribute [local irreducible] V N X VO Par StepOK Has Ret RetL RetO RetT kr RetX RetY Src
abbrev Qf:TypeId:=154
def Yj{b2 b3:Nat}{bs:List Nat}(hlim:lim<=1099511627776)(hb:∀ b∈bs,b<=255)(hl:bs.length<=1099511627776)(hat:R.at_<=bs.length)(hB:zpk B w)(hs:BsV bs fu sv B)(h2:B b2=some (.cells #[xy rb] Qf))(h3:B b3=some (.cells #[.int .i64 lim] 3))(hr:(GRd rb sv R).P B w C)(hC:ZCB C w B):
  RetX zpl 285 [xy b2,xy b3] w B C (GRd rb sv (Sp bs lim R).2) (.string (Sp bs lim R).1):=by
 obtain⟨p,c,rfl⟩:=jg hs;unfold RetX;refine yr 900 (GRd rb _ R) Tryz.func285 Z Tryz.ntmps285 (np Z) hB hr hC ?_;rw[xb];have hla:=ia (lim:=lim) hat;obtain⟨z,⟨at1,bad1,err1⟩,hz⟩:∃ z R1,wk bs lim R=(z,R1):=⟨_,_,rfl⟩
 have hlen:=fun(u:World) (H:Heap) (C2:Nat->Prop) (hH:zpk H u) (hle:B.Le H) hr2 hC2=>hz ▸ len_ret (R:=R) (rb:=rb) (C:=C2) hlim hb hl hat hH (hs.le hle) hr2 hC2;have hlv:=fun h=>a9 (bs:=bs) (R:=R) hlim h;unfold Sp;rw[hz] at hlv hla |-;dsimp only at hlv hla |-;by_cases h0:err1≠0
 ·rw[na (.inl h0)];refine Z5 (h:=?_);refine z8 (qf L (qk Z h2) Z Z Z Z) Z (z8 (qf L (qk Z h3) Z Z Z Z) Z (q0 (y6 L 900 (GRd rb (.slice p bs.length c) ⟨at1,bad1,err1⟩) (.int .i64 z) (r:=GRd rb (.slice p bs.length c) R) Z Z Z Z Z hlen) ((Zi∘ZM) ?_)));refine z8 (qf L (qk Z h2) Z Z Z Z) Z (q0 (y6 L 900 (GRd rb (.slice p bs.length c) ⟨at1,bad1,err1⟩) (.bool true) (r:=GRd rb (.slice p bs.length c) ⟨at1,bad1,err1⟩) Z Z Z Z Z (fun u H C2 hH _ hr2 hC2=>xx (nf h0) hH hr2 hC2)) ((Zb6∘Zg∘Zr) ?_));refine qh (id:=3) [(21,[900]),(200019,[900])] x8 T (zh (qf L (qk Z h2) Z Z Z Z) Z (zh (qf L (qk Z h2) Z Z Z Z) Z ((ZbM∘ZcP∘ZcH) ?_)));refine xu (yq L 900 (GRd rb (.slice p bs.length c) ((⟨at1,bad1,err1⟩:Rd).fail bs.length 17)) (r:=GRd rb (.slice p bs.length c) ⟨at1,bad1,err1⟩) Z Z Z Z Z (fun u H C2 hH _ hr2 hC2=>ee hH hr2 hC2)) Z Z ((ZU∘Z9∘Zd) ?_);exact xq L 900 (r:=xa rb _ uk) (rs:=[.tmp 2]) Z (fun _ _ h=>h) nq Z Z (fun _=>rfl)
 ·have he:err1=0:=m5.1 h0;subst he;obtain⟨k,rfl,hk⟩:=hlv rfl;by_cases h1:bs.length-at1<k
  ·rw[na (.inr I)];refine Z5 (h:=?_);refine z8 (qf L (qk Z h2) Z Z Z Z) Z (z8 (qf L (qk Z h3) Z Z Z Z) Z (q0 (y6 L 900 (GRd rb (.slice p bs.length c) ⟨at1,bad1,0⟩) (.int .i64 k) (r:=GRd rb (.slice p bs.length c) R) Z Z Z Z Z hlen) ((Zi∘ZM) ?_)));refine z8 (qf L (qk Z h2) Z Z Z Z) Z (q0 (y6 L 900 (GRd rb (.slice p bs.length c) ⟨at1,bad1,0⟩) (.bool false) (r:=GRd rb (.slice p bs.length c) ⟨at1,bad1,0⟩) Z Z Z Z Z (fun u H C2 hH _ hr2 hC2=>xx (ng h0) hH hr2 hC2)) (Zb (h:=?_)));refine z8 (qf L (qk Z h2) Z Z Z Z) Z (q0 (y6 L 900 (GRd rb (.slice p bs.length c) ⟨at1,bad1,0⟩) (.int .i64 (bs.length-at1:Nat)) (r:=GRd rb (.slice p bs.length c) ⟨at1,bad1,0⟩) Z Z Z Z Z (fun u H C2 hH hle hr2 hC2=>Al hl hla hH (hs.le hle) hr2 hC2)) ((ZN∘Zg∘Zr) ?_));refine qh (id:=3) [(21,[900]),(200019,[900])] x8 T (zh (qf L (qk Z h2) Z Z Z Z) Z (zh (qf L (qk Z h2) Z Z Z Z) Z ((ZbM∘ZcP∘ZcH) ?_)));refine xu (yq L 900 (GRd rb (.slice p bs.length c) ((⟨at1,bad1,0⟩:Rd).fail bs.length 17)) (r:=GRd rb (.slice p bs.length c) ⟨at1,bad1,0⟩) Z Z Z Z Z (fun u H C2 hH _ hr2 hC2=>ee hH hr2 hC2)) Z Z ((ZU∘Z9∘Zd) ?_);exact xq L 900 (r:=xa rb _ uk) (rs:=[.tmp 2]) Z (fun _ _ h=>h) nq Z Z (fun _=>rfl)
  ·rw[nc (fun h=>h.elim h0 (fun h=>h1 I)),zl6];have hw1:IntKind.i64.wrap ((at1:Int)+(k:Int))=((at1+k:Nat):Int):=(yz I I).trans I;have hw2:IntKind.i64.wrap (((at1+k:Nat):Int)-(k:Int))=(at1:Int):=(yz I I).trans I;have hsb:∀ b∈(bs.drop at1).take k,b<=255:=fun b hb2=>hb b (zo5 (zo4 hb2));refine Z5 (h:=?_);refine z8 (qf L (qk Z h2) Z Z Z Z) Z (z8 (qf L (qk Z h3) Z Z Z Z) Z (q0 (y6 L 900 (GRd rb (.slice p bs.length c) ⟨at1,bad1,0⟩) (.int .i64 k) (r:=GRd rb (.slice p bs.length c) R) Z Z Z Z Z hlen) ((Zi∘ZM) ?_)));refine z8 (qf L (qk Z h2) Z Z Z Z) Z (q0 (y6 L 900 (GRd rb (.slice p bs.length c) ⟨at1,bad1,0⟩) (.bool false) (r:=GRd rb (.slice p bs.length c) ⟨at1,bad1,0⟩) Z Z Z Z Z (fun u H C2 hH _ hr2 hC2=>xx (ng h0) hH hr2 hC2)) (Zb (h:=?_)));refine z8 (qf L (qk Z h2) Z Z Z Z) Z (q0 (y6 L 900 (GRd rb (.slice p bs.length c) ⟨at1,bad1,0⟩) (.int .i64 (bs.length-at1:Nat)) (r:=GRd rb (.slice p bs.length c) ⟨at1,bad1,0⟩) Z Z Z Z Z (fun u H C2 hH hle hr2 hC2=>Al hl hla hH (hs.le hle) hr2 hC2)) ((ZD∘Zbd∘ZY) ?_));refine z8 (qf L (qk Z h2) Z Z Z Z) Z ((ZW∘Za∘Zv∘ZI) ?_);refine xf (yc L (q:=900) (cs':=[.slice p bs.length c,.int .i64 (at1+k:Nat),.int .i64 bad1,.int .i64 0]) Z Z Z Z Z) (Zf (h:=?_));refine qh (id:=6) [(200033,[900]),(200037,[900]),(200043,[900])] x8 T (zh (qf L (qk Z h2) Z Z Z Z) Z (ZbM (h:=?_)));refine qq (StepOKR.seeV (qb L (q:=900) Z Z Z Z) hs) Z Z (zh (qf L (qk Z h2) Z Z Z Z) Z ((ZbM∘ZcP∘Zj∘Zdd) ?_));refine zh (qf L (qk Z h2) Z Z Z Z) Z ((ZbM∘ZcP) ?_);refine zh (T1 L (fu:=fu) at1 k Z Z Z Z Z Z Z Z Z I) Z (zh (Bv (bs:=(bs.drop at1).take k) (fu:=false) hsb Z Z Z Z Z Z) Z (Za3 (h:=?_)));exact xq L 900 (r:=xa rb _ uk) (rs:=[.tmp 2]) Z (fun _ _ h=>h) nq Z Z (fun _=>rfl)
end Go.V.L4
section
open Go.V
attribute [local irreducible] Has N Par Ret RetL RetO RetT RetX RetY Src StepOK V VO X kr
namespace Go.V.L11
open Go.V.L2 Go.V.L3 Go.V.L4 Go.V.L6
def Hg{f:Rd->α×Rd}{z:α}(P:α->Prop)(hz:P z)(hf:P (f R).1):P (l8 f z R).1:=by
 unfold l8;split
 ·exact hz
 ·split
  ·exact hz
  ·exact hf
def Ax(hl:lim<=1099511627776):(po bs lim R).1.size<=lim:=by
 refine Hg (fun s:ByteArray=>s.size<=lim) (mf _) ?_;unfold Sp;split
 ·exact mf _
 ·rename_i h;have h0:(wk bs lim R).2.err=0:=m5.1 fun h2=>h (.inl h2);obtain⟨n,hn,hn2⟩:=a9 hl h0;rw[hn,zl6];show(List.map UInt8.ofNat ((bs.drop _).take n)).toArray.size<=lim;rw[znx,mn,mw];omega
def Ui:(Na bs R).1.1.size<=16/\(Na bs R).1.2.size<=16:=
 Hg (fun s:ByteArray×ByteArray=>s.1.size<=16/\s.2.size<=16) ⟨by decide,by decide⟩ ⟨Ax J,Ax J⟩
def Ea:((wt bs R).1.1.1.size<=16/\(wt bs R).1.1.2.size<=16)/\(wt bs R).1.2.size<=16:=
 Hg (fun s:Ma=>(s.1.1.size<=16/\s.1.2.size<=16)/\s.2.size<=16) ⟨⟨by decide,by decide⟩,by decide⟩ ⟨Ui,Ax J⟩
def zdh:TZ (rt bs R).1:=by
 refine Hg TZ (by unfold TZ;decide) ?_;have h1:=Ea (bs:=bs) (R:=R);have h2:=Ea (bs:=bs) (R:=(wt bs R).2);unfold TZ Ex;dsimp only;omega
end Go.V.L11
namespace Go.V.L4
open Go.V.L2 Go.V.L3 Go.V.L8
def _root_.Ze3(t:Wr Y->A:=by intro h;refine qh (id:=1) [(3,[900]),(5,[900])] x8 T ?_;exact h.1)(h:Y):A:=t ⟨h⟩
def Mh(hlim:lim<=1099511627776){bs:List Nat}(hb:∀ b∈bs,b<=255)(hl:bs.length<=1099511627776)(hat:R.at_<=bs.length)(hB:zpk B w)(hs:BsV bs fu sv B)(hr:(GRd rb sv R).P B w C)(hC:ZCB C w B):
  RetX zpl 235 [xy rb,.int .i64 lim] w B C (GRd rb sv (po bs lim R).2) (.string (po bs lim R).1):=by
 unfold RetX;refine yr 900 (GRd rb _ R) Tryz.func235 Z Tryz.ntmps235 (np Z) hB hr hC ?_;rw[xb];refine(Zba∘Zdn∘Zc) ?_;refine kq 2 901 rfl fun b2=>?_;refine kq 3 902 rfl fun b3=>?_;refine wd 901 rfl fun H1 hs1 _ h2=>?_;refine wd 902 rfl fun H2 hs2 _ h3=>?_;have h2:=hs2.le _ _ h2;have hs12:=hs1.trans hs2;have hs':=hs.le hs12.le;refine Z4 (h:=?_);refine z8 (qf L (qk Z h2) Z Z Z Z) Z (Za8 (h:=?_));refine q0 (y6 L 900 (GRd rb sv (po bs lim R).2) (.string (po bs lim R).1) (r:=GRd rb sv R) Z Z Z Z Z (fun u H C2 hH hle hr2 hC2=>Qb (gf:=Sp bs lim) (fst:=[]) (cap:=[xy b2,xy b3]) Z hH hr2 hC2 (fun _ u3 H3 C3 hH3 hle3 hr3 hC3=>Yj hlim hb hl hat hH3 ((hs'.le hle).le hle3) ((hle.trans hle3) _ _ h2) ((hle.trans hle3) _ _ h3) hr3 hC3))) (Zd (h:=?_));exact xq L 900 (r:=xa rb _ uk) (rs:=[.tmp 4]) Z (fun _ _ h=>h) hs12 Z Z (fun _=>rfl)
def zak{bs:List Nat}(hb:∀ b∈bs,b<=255)(hl:bs.length<=1099511627776)(hat:R.at_<=bs.length)(hB:zpk B w)(hs:BsV bs fu sv B)(h1:B b1=some (.cells #[xy rb] Qf))(hr:(GRd rb sv R).P B w C)(hC:ZCB C w B):
  RetX zpl 283 [xy b1] w B C (GRd rb sv (Ex (po bs 16) (po bs 16) R).2) (oV ((po bs 16 R).1,(po bs 16 (po bs 16 R).2).1)):=by
 unfold RetX;refine yr 900 (GRd rb _ R) Tryz.func283 Z Tryz.ntmps283 (np Z) hB hr hC ?_;rw[xb];have hat2:=Ew (lim:=16) hat;unfold Ex;dsimp only;generalize hz1:po bs 16 R=z1 at hat2;obtain⟨x,R1⟩:=z1;dsimp only at hat2 |-;generalize hz2:po bs 16 R1=z2;obtain⟨y,R2⟩:=z2;dsimp only;refine(ZbW∘Ze3) ?_;refine zh (qf L (qk Z h1) Z Z Z Z) Z (xu (y6 L 900 (GRd rb sv R1) (.string x) (r:=GRd rb sv R) Z Z Z Z Z (fun u H C2 hH hle hr2 hC2=>by have h:=Mh (lim:=16) J hb hl hat hH (hs.le hle) hr2 hC2;rw[hz1] at h;exact h)) Z Z ?_);refine zh (qf L (qk Z h1) Z Z Z Z) Z (xu (y6 L 900 (GRd rb sv R2) (.string y) (r:=GRd rb sv R1) Z Z Z Z Z (fun u H C2 hH hle hr2 hC2=>by have h:=Mh (lim:=16) J hb hl hat2 hH (hs.le hle) hr2 hC2;rw[hz2] at h;exact h)) Z Z ?_);refine zh (yl (cs:=[_,_]) Z Z zir Z Z) Z ((ZcO∘Zbz) ?_);exact xq L 900 (r:=xa rb _ uk) (rs:=[.cell 1 zgh]) Z (fun _ _ h=>h) nq Z Z (fun _=>⟨_,qs Z,rfl,rfl⟩)
def zen{bs:List Nat}(hb:∀ b∈bs,b<=255)(hl:bs.length<=1099511627776)(hat:R.at_<=bs.length)(hB:zpk B w)(hs:BsV bs fu sv B)(hr:(GRd rb sv R).P B w C)(hC:ZCB C w B):
  RetX zpl 234 [xy rb] w B C (GRd rb sv (Na bs R).2) (oV (Na bs R).1):=by
 unfold RetX;refine yr 900 (GRd rb _ R) Tryz.func234 Z Tryz.ntmps234 (np Z) hB hr hC ?_;rw[xb];refine(Zba∘Z7∘Zf) ?_;refine kq 1 901 rfl fun b1=>?_;refine wd 901 rfl fun H1 hs1 _ h1=>?_;have hs':=hs.le hs1.le;generalize hz:Na bs R=z;obtain⟨⟨x,y⟩,R1⟩:=z;dsimp only;refine Z4 (h:=?_);refine z8 (qf L (qk Z h1) Z Z Z Z) Z (Za8 (h:=?_));refine q0 (y6 L 900 (GRd rb sv R1) (oV (x,y)) (r:=GRd rb sv R) Z Z Z Z Z (fun u H C2 hH hle hr2 hC2=>by have h:=Qc (gf:=Ex (po bs 16) (po bs 16)) (fst:=[]) (cap:=[xy b1]) Z hH hr2 hC2 (fun _ u3 H3 C3 hH3 hle3 hr3 hC3=>zak hb hl hat hH3 ((hs'.le hle).le hle3) ((hle.trans hle3) _ _ h1) hr3 hC3);unfold Na at hz;rw[hz] at h;exact h)) ?_;refine Zau (h:=?_);exact xq L 900 (r:=xa rb _ uk) (rs:=[.cell 2 zgh]) Z (fun _ _ h=>h) hs1 Z Z (fun _=>⟨_,qs Z,rfl,rfl⟩)
def Vq{bs:List Nat}(hb:∀ b∈bs,b<=255)(hl:bs.length<=1099511627776)(hat:R.at_<=bs.length)(hB:zpk B w)(hs:BsV bs fu sv B)(h1:B b1=some (.cells #[xy rb] Qf))(hr:(GRd rb sv R).P B w C)(hC:ZCB C w B):
  RetX zpl 233 [xy b1] w B C (GRd rb sv (Ex (Na bs) (po bs 16) R).2) (gV ((Na bs R).1,(po bs 16 (Na bs R).2).1)):=by
 unfold RetX;refine yr 900 (GRd rb _ R) Tryz.func233 Z Tryz.ntmps233 (np Z) hB hr hC ?_;rw[xb];have hat2:=Uj hat;unfold Ex;dsimp only;generalize hz1:Na bs R=z1 at hat2;obtain⟨x,R1⟩:=z1;dsimp only at hat2 |-;generalize hz2:po bs 16 R1=z2;obtain⟨y,R2⟩:=z2;dsimp only;refine(ZbW∘Ze3) ?_;refine zh (qf L (qk Z h1) Z Z Z Z) Z (xu (y6 L 900 (GRd rb sv R1) (oV x) (r:=GRd rb sv R) Z Z Z Z Z (fun u H C2 hH hle hr2 hC2=>by have h:=zen hb hl hat hH (hs.le hle) hr2 hC2;rw[hz1] at h;exact h)) Z Z ?_);refine zh (qf L (qk Z h1) Z Z Z Z) Z (xu (y6 L 900 (GRd rb sv R2) (.string y) (r:=GRd rb sv R1) Z Z Z Z Z (fun u H C2 hH hle hr2 hC2=>by have h:=Mh (lim:=16) J hb hl hat2 hH (hs.le hle) hr2 hC2;rw[hz2] at h;exact h)) Z Z ?_);refine zh (yl (cs:=[_,_,_]) Z Z zkb Z Z) Z ((ZcO∘Zbz) ?_);exact xq L 900 (r:=xa rb _ uk) (rs:=[.cell 1 zgi]) Z (fun _ _ h=>h) nq Z Z (fun _=>⟨_,qs Z,rfl,rfl⟩)
def goal_ret{bs:List Nat}(hb:∀ b∈bs,b<=255)(hl:bs.length<=1099511627776)(hat:R.at_<=bs.length)(hB:zpk B w)(hs:BsV bs fu sv B)(hr:(GRd rb sv R).P B w C)(hC:ZCB C w B):
  RetX zpl 164 [xy rb] w B C (GRd rb sv (wt bs R).2) (gV (wt bs R).1):=by
 unfold RetX;refine yr 900 (GRd rb _ R) Tryz.func164 Z Tryz.ntmps164 (np Z) hB hr hC ?_;rw[xb];refine(Zba∘Z7∘Zf) ?_;refine kq 1 901 rfl fun b1=>?_;refine wd 901 rfl fun H1 hs1 _ h1=>?_;have hs':=hs.le hs1.le;generalize hz:wt bs R=z;obtain⟨⟨⟨x,y⟩,y2⟩,R1⟩:=z;dsimp only;refine Z4 (h:=?_);refine z8 (qf L (qk Z h1) Z Z Z Z) Z (Za8 (h:=?_));refine q0 (y6 L 900 (GRd rb sv R1) (gV ((x,y),y2)) (r:=GRd rb sv R) Z Z Z Z Z (fun u H C2 hH hle hr2 hC2=>by have h:=Md (gf:=Ex (Na bs) (po bs 16)) (fst:=[]) (cap:=[xy b1]) Z hH hr2 hC2 (fun _ u3 H3 C3 hH3 hle3 hr3 hC3=>Vq hb hl hat hH3 ((hs'.le hle).le hle3) ((hle.trans hle3) _ _ h1) hr3 hC3);unfold wt at hz;rw[hz] at h;exact h)) ?_;refine Zau (h:=?_);exact xq L 900 (r:=xa rb _ uk) (rs:=[.cell 2 zgi]) Z (fun _ _ h=>h) hs1 Z Z (fun _=>⟨_,qs Z,rfl,rfl⟩)
def zdl{bs:List Nat}(hb:∀ b∈bs,b<=255)(hl:bs.length<=1099511627776)(hat:R.at_<=bs.length)(hB:zpk B w)(hs:BsV bs fu sv B)(hr:(GRd rb sv R).P B w C)(hC:ZCB C w B):
  RetX zpl 165 [xy rb] w B C (GRd rb sv (wt bs R).2) (gV (wt bs R).1):=by
 unfold RetX;refine yr 900 (GRd rb _ R) Tryz.func165 Z Tryz.ntmps165 (np Z) hB hr hC ?_;rw[xb];generalize hz:wt bs R=z;obtain⟨⟨⟨x,y⟩,y2⟩,R1⟩:=z;dsimp only;refine(ZbW∘Zbf) ?_;refine q0 (y6 L 900 (GRd rb sv R1) (gV ((x,y),y2)) (r:=GRd rb sv R) Z Z Z Z Z (fun u H C2 hH hle hr2 hC2=>by have h:=goal_ret hb hl hat hH (hs.le hle) hr2 hC2;rw[hz] at h;exact h)) ?_;refine Zau (h:=?_);exact xq L 900 (r:=xa rb _ uk) (rs:=[.cell 2 32]) Z (fun _ _ h=>h) nq Z Z (fun _=>⟨_,qs Z,rfl,rfl⟩)
def Yl{bs:List Nat}(hb:∀ b∈bs,b<=255)(hl:bs.length<=1099511627776)(hat:R.at_<=bs.length)(hB:zpk B w)(hs:BsV bs fu sv B)(h1:B b1=some (.cells #[xy rb] Qf))(hr:(GRd rb sv R).P B w C)(hC:ZCB C w B):
  RetX zpl 163 [xy b1] w B C (GRd rb sv (Ex (wt bs) (wt bs) R).2) (uv ((wt bs R).1,(wt bs (wt bs R).2).1)):=by
 unfold RetX;refine yr 900 (GRd rb _ R) Tryz.func163 Z Tryz.ntmps163 (np Z) hB hr hC ?_;rw[xb];have hat2:=Gh hat;unfold Ex;dsimp only;generalize hz1:wt bs R=z1 at hat2;obtain⟨x,R1⟩:=z1;dsimp only at hat2 |-;generalize hz2:wt bs R1=z2;obtain⟨y,R2⟩:=z2;dsimp only;refine(ZbW∘Ze3) ?_;refine zh (qf L (qk Z h1) Z Z Z Z) Z (xu (y6 L 900 (GRd rb sv R1) (gV x) (r:=GRd rb sv R) Z Z Z Z Z (fun u H C2 hH hle hr2 hC2=>by have h:=goal_ret hb hl hat hH (hs.le hle) hr2 hC2;rw[hz1] at h;exact h)) Z Z ?_);refine zh (qf L (qk Z h1) Z Z Z Z) Z (xu (y6 L 900 (GRd rb sv R2) (gV y) (r:=GRd rb sv R1) Z Z Z Z Z (fun u H C2 hH hle hr2 hC2=>by have h:=zdl hb hl hat2 hH (hs.le hle) hr2 hC2;rw[hz2] at h;exact h)) Z Z ?_);refine zh (yl (cs:=[_,_,_,_,_,_]) Z Z zka Z Z) Z ((ZcO∘Zbz) ?_);exact xq L 900 (r:=xa rb _ uk) (rs:=[.cell 1 tyU]) Z (fun _ _ h=>h) nq Z Z (fun _=>⟨_,qs Z,rfl,rfl⟩)
def tup_ret{bs:List Nat}(hb:∀ b∈bs,b<=255)(hl:bs.length<=1099511627776)(hat:R.at_<=bs.length)(hB:zpk B w)(hs:BsV bs fu sv B)(hr:(GRd rb sv R).P B w C)(hC:ZCB C w B):
  RetX zpl 99 [xy rb] w B C (GRd rb sv (rt bs R).2) (uv (rt bs R).1):=by
 unfold RetX;refine yr 900 (GRd rb _ R) Tryz.func99 Z Tryz.ntmps99 (np Z) hB hr hC ?_;rw[xb];refine(Zba∘Z7∘Zf) ?_;refine kq 1 901 rfl fun b1=>?_;refine wd 901 rfl fun H1 hs1 _ h1=>?_;have hs':=hs.le hs1.le;generalize hz:rt bs R=z;obtain⟨⟨⟨⟨x,y⟩,y2⟩,⟨⟨x3,y3⟩,y4⟩⟩,R1⟩:=z;dsimp only;refine Z4 (h:=?_);refine z8 (qf L (qk Z h1) Z Z Z Z) Z (Za8 (h:=?_));refine q0 (y6 L 900 (GRd rb sv R1) (uv (((x,y),y2),((x3,y3),y4))) (r:=GRd rb sv R) Z Z Z Z Z (fun u H C2 hH hle hr2 hC2=>by have h:=Qa (gf:=Ex (wt bs) (wt bs)) (fst:=[]) (cap:=[xy b1]) Z hH hr2 hC2 (fun _ u3 H3 C3 hH3 hle3 hr3 hC3=>Yl hb hl hat hH3 ((hs'.le hle).le hle3) ((hle.trans hle3) _ _ h1) hr3 hC3);unfold rt at hz;rw[hz] at h;exact h)) ?_;refine Zau (h:=?_);exact xq L 900 (r:=xa rb _ uk) (rs:=[.cell 2 tyU]) Z (fun _ _ h=>h) hs1 Z Z (fun _=>⟨_,qs Z,rfl,rfl⟩)
open Go.V.L6
abbrev Ly:TypeId:=42
def bG(bs:List Nat)(R:Rd):Bool×Rd:=(decide ((bo bs 1 5 R).1=1),(bo bs 1 5 R).2)
def Pu(bs:List Nat):au bs=l8 (bG bs) false:=rfl
def zbm(h:R.at_<=bs.length):(au bs R).2.at_<=bs.length:=bu h (Ny (lim:=1) (e:=5) h)
def li(bs:List Nat):Rd->CH×Rd:=l8 (Ex (rt bs) (au bs)) ((n3,n3),false)
def Nn(h:R.at_<=bs.length):(li bs R).2.at_<=bs.length:=bu h (zbm (Sr h))
def zbh{c:CH}(h:∀ s∈u6 c.1,s.size<=1000):(chgB c).length<=6061:=by
 have:=b0 h;unfold chgB N9;rw[nr];have e:(u6 c.1).length=6:=rfl;rw[e] at this;simp only[zmd];omega
def Sj{b:Bool}(hz:bs.length+2000<=1099511627776)(hB:zpk B w)(hr:(GWr wb bs).P B w C)(hC:ZCB C w B):
  kr zpl 157 [xy wb,.bool b] w B C (GWr wb (bs++[if b=true then 1 else 0])):=by
 unfold kr;refine yr 900 (GWr wb bs) Tryz.func157 Z Tryz.ntmps157 (np Z) hB hr hC ?_
 cases b with
 | true=>
  refine(ZL∘Za∘ZE∘Zbf) ?_;refine q0 (yq L 900 (GWr wb (bs++[1])) (r:=GWr wb bs) Z Z Z Z Z (fun u H C hH _ hr hC=>by have h:=vk (n:=1) J I hH hr hC;rw[cy J] at h;exact h)) ?_;refine ZS (h:=?_);exact xp L 900 (r:=GWr wb (bs++[1])) Z (fun _ _ h=>h) nq Z Z
 | false=>
  refine(ZL∘Za∘Za9∘Zq) ?_;refine q0 (yq L 900 (GWr wb (bs++[0])) (r:=GWr wb bs) Z Z Z Z Z (fun u H C hH _ hr hC=>by have h:=vk (n:=0) J I hH hr hC;rw[cy J] at h;exact h)) ?_;refine ZS (h:=?_);exact xp L 900 (r:=GWr wb (bs++[0])) Z (fun _ _ h=>h) nq Z Z
def Yb{c:CH}(ht:∀ s∈u6 c.1,s.size<=1000)(hz:bs.length+20000<=1099511627776)(hB:zpk B w)(hr:(GWr wb bs).P B w C)(hC:ZCB C w B):
  kr zpl 90 [xy wb,chv c.1 c.2] w B C (GWr wb (bs++chgB c)):=by
 obtain⟨⟨⟨⟨a,b⟩,d⟩,⟨⟨e,f⟩,g⟩⟩,k⟩:=c;have hl:=b0 ht;have e6:(u6 (((a,b),d),((e,f),g))).length=6:=rfl;rw[e6] at hl;dsimp only at hl ht;have e0:bs++chgB ((((a,b),d),((e,f),g)),k)=(bs++N9 (((a,b),d),((e,f),g)))++[if k=true then 1 else 0]:=by unfold chgB;rw[List.append_assoc]
 rw[e0];unfold kr;refine yr 900 (GWr wb bs) Tryz.func90 Z Tryz.ntmps90 (np Z) hB hr hC ((ZA∘Zf∘Zbf∘Zav∘Zcg) ?_);refine q0 (yq L 900 (GWr wb (bs++N9 (((a,b),d),((e,f),g)))) (r:=GWr wb bs) Z Z Z Z Z (fun u H C hH _ hr hC=>X7 ht I hH hr hC)) ((Z1∘Zq∘Zac) ?_);refine q0 (yq L 900 (GWr wb (bs++N9 (((a,b),d),((e,f),g))++[if k=true then 1 else 0])) (r:=GWr wb (bs++N9 (((a,b),d),((e,f),g)))) Z Z Z Z Z (fun u H C hH _ hr hC=>Sj (by rw[List.length_append];unfold N9;omega) hH hr hC)) ?_;refine ZS (h:=?_);exact xp L 900 (r:=GWr wb (bs++N9 (((a,b),d),((e,f),g))++[if k=true then 1 else 0])) Z (fun _ _ h=>h) nq Z Z
def Me{gf:Rd->Bool×Rd}(hfn:L.fn fr=some ()){C:Nat->Prop}(hB:zpk B w)(hr:(GRd rb sv R).P B w C)(hC:ZCB C w B)
  (hf:R.err=0->∀ (u:World) (H:Heap) (C:Nat->Prop),zpk H u->B.Le H->(GRd rb sv R).P H u C->(ZCB C u H)->RetX zpl fr (fst++cap) u H C (GRd rb sv (gf R).2) (.bool (gf R).1)):
  RetX zpl 265 [xy rb,.func (.func fr) fst.toArray cap.toArray] w B C (GRd rb sv (l8 gf false R).2) (.bool (l8 gf false R).1):=by
 unfold RetX;refine yr 900 (GRd rb sv R) Tryz.func265 Z Tryz.ntmps265 (np Z) hB hr hC ?_;rw[xb];obtain⟨⟨n,⟨at1,bad1,err1⟩⟩,hz⟩:∃ z,gf R=z:=⟨_,rfl⟩
 obtain⟨at_,bad,err⟩:=R;unfold l8;rw[hz] at hf |-;dsimp only at hf |-;by_cases h0:err≠0
 ·rw[na h0];refine(Z5∘Zi∘Zq) ?_;refine q0 (y6 L 900 (GRd rb sv ⟨at_,bad,err⟩) (.bool true) (r:=GRd rb sv ⟨at_,bad,err⟩) Z Z Z Z Z (fun u H C2 hH _ hr2 hC2=>xx (nf h0) hH hr2 hC2)) ((Zr∘Zu∘Zd) ?_);exact xq L 900 (r:=xa rb _ uk) (rs:=[.tmp 4]) Z (fun _ _ h=>h) nq Z Z (fun _=>rfl)
 ·have he:err=0:=m5.1 h0;subst he;rw[nc h0];have hf:=hf rfl;by_cases h1:err1≠0
  ·rw[na h1];refine(Z5∘Zi∘Zq) ?_;refine q0 (y6 L 900 (GRd rb sv ⟨at_,bad,0⟩) (.bool false) (r:=GRd rb sv ⟨at_,bad,0⟩) Z Z Z Z Z (fun u H C2 hH _ hr2 hC2=>xx (ng h0) hH hr2 hC2)) ((Zl∘Zce∘Zby) ?_);refine q0 (ja L 900 (GRd rb sv ⟨at1,bad1,err1⟩) (.bool n) (r:=GRd rb sv ⟨at_,bad,0⟩) Z Z Z hfn Z hf) ((Zi∘ZH∘ZW∘Zao∘Z8∘Zb∘ZI) ?_);refine xf (yc L (q:=900) (cs':=[sv,.int .i64 at_,.int .i64 bad1,.int .i64 err1]) Z Z Z Z Z) ((Zf∘Za4∘Zd) ?_);exact xq L 900 (r:=xa rb _ uk) (rs:=[.tmp 4]) Z (fun _ _ h=>h) nq Z Z (fun _=>rfl)
  ·have he:err1=0:=m5.1 h1;subst he;rw[nc h1];refine(Z5∘Zi∘Zq) ?_;refine q0 (y6 L 900 (GRd rb sv ⟨at_,bad,0⟩) (.bool false) (r:=GRd rb sv ⟨at_,bad,0⟩) Z Z Z Z Z (fun u H C2 hH _ hr2 hC2=>xx (ng h0) hH hr2 hC2)) ((Zl∘Zce∘Zby) ?_);refine q0 (ja L 900 (GRd rb sv ⟨at1,bad1,0⟩) (.bool n) (r:=GRd rb sv ⟨at_,bad,0⟩) Z Z Z hfn Z hf) ((Zi∘ZH∘ZW∘ZaE∘Zat∘Zd) ?_);exact xq L 900 (r:=xa rb _ uk) (rs:=[.tmp 4]) Z (fun _ _ h=>h) nq Z Z (fun _=>rfl)
def Qe{gf:Rd->CH×Rd}(hfn:L.fn fr=some ()){C:Nat->Prop}(hB:zpk B w)(hr:(GRd rb sv R).P B w C)(hC:ZCB C w B)
  (hf:R.err=0->∀ (u:World) (H:Heap) (C:Nat->Prop),zpk H u->B.Le H->(GRd rb sv R).P H u C->(ZCB C u H)->RetX zpl fr (fst++cap) u H C (GRd rb sv (gf R).2) (chv ((gf R).1).1 ((gf R).1).2)):
  RetX zpl 216 [xy rb,.func (.func fr) fst.toArray cap.toArray] w B C (GRd rb sv (l8 gf ((n3,n3),false) R).2) (chv ((l8 gf ((n3,n3),false) R).1).1 ((l8 gf ((n3,n3),false) R).1).2):=by
 unfold RetX;refine yr 900 (GRd rb sv R) Tryz.func216 Z Tryz.ntmps216 (np Z) hB hr hC ?_;rw[xb];obtain⟨⟨n,⟨at1,bad1,err1⟩⟩,hz⟩:∃ z,gf R=z:=⟨_,rfl⟩
 
 obtain⟨at_,bad,err⟩:=R;unfold l8;rw[hz] at hf |-;dsimp only at hf |-;by_cases h0:err≠0
 ·rw[na h0];refine(ZbW∘Z4∘Zbw∘Zq) ?_;refine q0 (y6 L 900 (GRd rb sv ⟨at_,bad,err⟩) (.bool true) (r:=GRd rb sv ⟨at_,bad,err⟩) Z Z Z Z Z (fun u H C2 hH _ hr2 hC2=>xx (nf h0) hH hr2 hC2)) ((Zr∘ZR∘ZcK∘Zau) ?_);exact xq L 900 (r:=xa rb _ uk) (rs:=[.cell 4 Ly]) Z (fun _ _ h=>h) nq Z Z (fun _=>⟨_,qs Z,rfl,rfl⟩)
 ·have he:err=0:=m5.1 h0;subst he;rw[nc h0];have hf:=hf rfl;by_cases h1:err1≠0
  ·rw[na h1];refine(ZbW∘Z4∘Zbw∘Zq) ?_;refine q0 (y6 L 900 (GRd rb sv ⟨at_,bad,0⟩) (.bool false) (r:=GRd rb sv ⟨at_,bad,0⟩) Z Z Z Z Z (fun u H C2 hH _ hr2 hC2=>xx (ng h0) hH hr2 hC2)) ((Zl∘Zce∘Zby) ?_);refine q0 (ja L 900 (GRd rb sv ⟨at1,bad1,err1⟩) (chv (n).1 (n).2) (r:=GRd rb sv ⟨at_,bad,0⟩) Z Z Z hfn Z hf) ((Zbs∘ZH∘ZW∘Zao∘Z8∘Zb∘ZI) ?_);refine xf (yc L (q:=900) (cs':=[sv,.int .i64 at_,.int .i64 bad1,.int .i64 err1]) Z Z Z Z Z) ((Zf∘ZK∘ZcK∘Zau) ?_);exact xq L 900 (r:=xa rb _ uk) (rs:=[.cell 4 Ly]) Z (fun _ _ h=>h) nq Z Z (fun _=>⟨_,qs Z,rfl,rfl⟩)
  ·have he:err1=0:=m5.1 h1;subst he;rw[nc h1];refine(ZbW∘Z4∘Zbw∘Zq) ?_;refine q0 (y6 L 900 (GRd rb sv ⟨at_,bad,0⟩) (.bool false) (r:=GRd rb sv ⟨at_,bad,0⟩) Z Z Z Z Z (fun u H C2 hH _ hr2 hC2=>xx (ng h0) hH hr2 hC2)) ((Zl∘Zce∘Zby) ?_);refine q0 (ja L 900 (GRd rb sv ⟨at1,bad1,0⟩) (chv (n).1 (n).2) (r:=GRd rb sv ⟨at_,bad,0⟩) Z Z Z hfn Z hf) ((Zbs∘ZH∘ZW∘ZaE∘ZQ∘ZcK∘Zau) ?_);exact xq L 900 (r:=xa rb _ uk) (rs:=[.cell 4 Ly]) Z (fun _ _ h=>h) nq Z Z (fun _=>⟨_,qs Z,rfl,rfl⟩)
def Xl{bs:List Nat}(hb:∀ b∈bs,b<=255)(hl:bs.length<=1099511627776)(hat:R.at_<=bs.length)(hB:zpk B w)(hs:BsV bs fu sv B)(h1:B b1=some (.cells #[xy rb] Qf))(hr:(GRd rb sv R).P B w C)(hC:ZCB C w B):
  RetX zpl 266 [xy b1] w B C (GRd rb sv (bG bs R).2) (.bool (bG bs R).1):=by
 unfold RetX;refine yr 900 (GRd rb _ R) Tryz.func266 Z Tryz.ntmps266 (np Z) hB hr hC ?_;rw[xb];unfold bG;generalize hz1:bo bs 1 5 R=z1;obtain⟨n,R1⟩:=z1;dsimp only;by_cases h1n:n=1
 ·rw[nf h1n];refine Z5 (h:=?_);refine z8 (qf L (qk Z h1) Z Z Z Z) Z (q0 (y6 L 900 (GRd rb sv R1) (.int .u64 n) (r:=GRd rb sv R) Z Z Z Z Z (fun u H C2 hH hle hr2 hC2=>by have h:=rm (lim:=1) (e:=5) hb hl hat hH (hs.le hle) hr2 hC2;rw[hz1] at h;exact h)) ?_);refine(ZC∘Zd) ?_;exact xq L 900 (r:=xa rb _ uk) (rs:=[.tmp 1]) Z (fun _ _ h=>h) nq Z Z (fun _=>rfl)
 ·rw[ng h1n];refine Z5 (h:=?_);refine z8 (qf L (qk Z h1) Z Z Z Z) Z (q0 (y6 L 900 (GRd rb sv R1) (.int .u64 n) (r:=GRd rb sv R) Z Z Z Z Z (fun u H C2 hH hle hr2 hC2=>by have h:=rm (lim:=1) (e:=5) hb hl hat hH (hs.le hle) hr2 hC2;rw[hz1] at h;exact h)) ?_);refine(Zs∘Zd) ?_;exact xq L 900 (r:=xa rb _ uk) (rs:=[.tmp 1]) Z (fun _ _ h=>h) nq Z Z (fun _=>rfl)
def zbl{bs:List Nat}(hb:∀ b∈bs,b<=255)(hl:bs.length<=1099511627776)(hat:R.at_<=bs.length)(hB:zpk B w)(hs:BsV bs fu sv B)(hr:(GRd rb sv R).P B w C)(hC:ZCB C w B):
  RetX zpl 218 [xy rb] w B C (GRd rb sv (au bs R).2) (.bool (au bs R).1):=by
 unfold RetX;refine yr 900 (GRd rb _ R) Tryz.func218 Z Tryz.ntmps218 (np Z) hB hr hC ?_;rw[xb];refine(Zba∘Zc) ?_;refine kq 1 901 rfl fun b1=>?_;refine wd 901 rfl fun H1 hs1 _ h1=>?_;have hs':=hs.le hs1.le;generalize hz:au bs R=z;obtain⟨x,R1⟩:=z;dsimp only;refine Z4 (h:=?_);refine z8 (qf L (qk Z h1) Z Z Z Z) Z (Za8 (h:=?_));refine q0 (y6 L 900 (GRd rb sv R1) (.bool x) (r:=GRd rb sv R) Z Z Z Z Z (fun u H C2 hH hle hr2 hC2=>by have h:=Me (gf:=bG bs) (fst:=[]) (cap:=[xy b1]) Z hH hr2 hC2 (fun _ u3 H3 C3 hH3 hle3 hr3 hC3=>Xl hb hl hat hH3 ((hs'.le hle).le hle3) ((hle.trans hle3) _ _ h1) hr3 hC3);rw[Pu] at hz;rw[hz] at h;exact h)) ?_;refine Zd (h:=?_);exact xq L 900 (r:=xa rb _ uk) (rs:=[.tmp 2]) Z (fun _ _ h=>h) hs1 Z Z (fun _=>rfl)
def zbi{bs:List Nat}(hb:∀ b∈bs,b<=255)(hl:bs.length<=1099511627776)(hat:R.at_<=bs.length)(hB:zpk B w)(hs:BsV bs fu sv B)(h1:B b1=some (.cells #[xy rb] Qf))(hr:(GRd rb sv R).P B w C)(hC:ZCB C w B):
  RetX zpl 217 [xy b1] w B C (GRd rb sv (Ex (rt bs) (au bs) R).2) (chv ((rt bs R).1) ((au bs (rt bs R).2).1)):=by
 unfold RetX;refine yr 900 (GRd rb _ R) Tryz.func217 Z Tryz.ntmps217 (np Z) hB hr hC ?_;rw[xb];have hat2:=Sr hat;unfold Ex;dsimp only;generalize hz1:rt bs R=z1 at hat2;obtain⟨x,R1⟩:=z1;dsimp only at hat2 |-;generalize hz2:au bs R1=z2;obtain⟨y,R2⟩:=z2;dsimp only;refine(ZbW∘Ze3) ?_;refine zh (qf L (qk Z h1) Z Z Z Z) Z (xu (y6 L 900 (GRd rb sv R1) (uv x) (r:=GRd rb sv R) Z Z Z Z Z (fun u H C2 hH hle hr2 hC2=>by have h:=tup_ret hb hl hat hH (hs.le hle) hr2 hC2;rw[hz1] at h;exact h)) Z Z ?_);refine zh (qf L (qk Z h1) Z Z Z Z) Z (xu (y6 L 900 (GRd rb sv R2) (.bool y) (r:=GRd rb sv R1) Z Z Z Z Z (fun u H C2 hH hle hr2 hC2=>by have h:=zbl hb hl hat2 hH (hs.le hle) hr2 hC2;rw[hz2] at h;exact h)) Z Z ?_);refine(Ze1∘ZcO∘Zbz) ?_;exact xq L 900 (r:=xa rb _ uk) (rs:=[.cell 1 Ly]) Z (fun _ _ h=>h) nq Z Z (fun _=>⟨_,qs Z,rfl,rfl⟩)
def chg_ret{bs:List Nat}(hb:∀ b∈bs,b<=255)(hl:bs.length<=1099511627776)(hat:R.at_<=bs.length)(hB:zpk B w)(hs:BsV bs fu sv B)(hr:(GRd rb sv R).P B w C)(hC:ZCB C w B):
  RetX zpl 147 [xy rb] w B C (GRd rb sv (li bs R).2) (chv ((li bs R).1).1 ((li bs R).1).2):=by
 unfold RetX;refine yr 900 (GRd rb _ R) Tryz.func147 Z Tryz.ntmps147 (np Z) hB hr hC ?_;rw[xb];refine(Zba∘Z7∘Zf) ?_;refine kq 1 901 rfl fun b1=>?_;refine wd 901 rfl fun H1 hs1 _ h1=>?_;have hs':=hs.le hs1.le;generalize hz:li bs R=z;obtain⟨⟨⟨⟨⟨x,y⟩,y2⟩,⟨⟨x3,y3⟩,y4⟩⟩,y5⟩,R1⟩:=z;dsimp only;refine Z4 (h:=?_);refine z8 (qf L (qk Z h1) Z Z Z Z) Z (Za8 (h:=?_));refine q0 (y6 L 900 (GRd rb sv R1) (chv (((((x,y),y2),((x3,y3),y4)),y5)).1 (((((x,y),y2),((x3,y3),y4)),y5)).2) (r:=GRd rb sv R) Z Z Z Z Z (fun u H C2 hH hle hr2 hC2=>by have h:=Qe (gf:=Ex (rt bs) (au bs)) (fst:=[]) (cap:=[xy b1]) Z hH hr2 hC2 (fun _ u3 H3 C3 hH3 hle3 hr3 hC3=>zbi hb hl hat hH3 ((hs'.le hle).le hle3) ((hle.trans hle3) _ _ h1) hr3 hC3);unfold li at hz;rw[hz] at h;exact h)) ?_;refine Zau (h:=?_);exact xq L 900 (r:=xa rb _ uk) (rs:=[.cell 2 Ly]) Z (fun _ _ h=>h) hs1 Z Z (fun _=>⟨_,qs Z,rfl,rfl⟩)
end Go.V.L4
namespace Go.V.L11
open Go.V.L2 Go.V.L3 Go.V.L4 Go.V.L6 Go.V.L8
def X4(la:Option U)(t:U):Bool:=match la with
 | none=>true
 | some y=>decide (jm y t<0)
def Ee(bs:List Nat)(l:List U):Nat->Option U->List CH->List CH->Rd->((List CH×List CH)×Rd)×(Int×Int)
 | 0,_,a,d,R=>(((a,d),R),(0,0))
 | k+1,la,a,d,R=>
  if (li bs R).2.err≠0 then (((a,d),R),(((li bs R).2.bad:Int),(li bs R).2.err))
  else if tE (li bs R).1.1≠0 then (((a,d),R),((R.at_:Int),6))
  else if X4 la (li bs R).1.1=false then (((a,d),R),((R.at_:Int),18))
  else if decide ((li bs R).1.1∈l)≠(li bs R).1.2 then (((a,d),R),((R.at_:Int),5))
  else Ee bs l k (some (li bs R).1.1) (if (li bs R).1.2=true then a else a++[(li bs R).1]) (if (li bs R).1.2=true then d++[(li bs R).1] else d) (li bs R).2
def ri(l:List U)(cs:List CH):List U:=cs.foldl (fun l c=>(wa l c.1 c.2).1) l
def t9(bs:List Nat)(l:List U)(R:Rd):(List U×Rd)×(Int×Int):=
 if (wk bs 8192 R).2.err≠0 then ((l,R),(((wk bs 8192 R).2.bad:Int),(wk bs 8192 R).2.err))
 else if (Ee bs l (wk bs 8192 R).1.toNat none [] [] (wk bs 8192 R).2).2.2≠0 then ((l,R),(Ee bs l (wk bs 8192 R).1.toNat none [] [] (wk bs 8192 R).2).2)
 else if l.length+(Ee bs l (wk bs 8192 R).1.toNat none [] [] (wk bs 8192 R).2).1.1.1.length>4096+(Ee bs l (wk bs 8192 R).1.toNat none [] [] (wk bs 8192 R).2).1.1.2.length then ((l,R),((R.at_:Int),3))
 else ((ri l ((Ee bs l (wk bs 8192 R).1.toNat none [] [] (wk bs 8192 R).2).1.1.2++(Ee bs l (wk bs 8192 R).1.toNat none [] [] (wk bs 8192 R).2).1.1.1),(Ee bs l (wk bs 8192 R).1.toNat none [] [] (wk bs 8192 R).2).1.2),(0,0))
def Gy:∀ (cs:List CH) {l:List U},l.length<=4096->(ri l cs).length<=4096
 | [],_,h=>h
 | c::cs,l,h=>Gy cs (As h c.1 c.2)
def Xn{cs:List CH}(l:List U)(h:cs[i]?=some c):ri l (cs.take (i+1))=(wa (ri l (cs.take i)) c.1 c.2).1:=by
 unfold ri;rw[zls,h,List.foldl_append];rfl
def Nm:TZ (li bs R).1.1:=by
 unfold li;exact Hg (fun c:CH=>TZ c.1) J (by unfold Ex;exact zdh)
end Go.V.L11
end
namespace Go.V
def zh4(ops:Array Oper)(K:Nat):Bool:=
 let b:=Region.before ops
 (List.range ops.size).all fun i=>Nat.blt i K || (List.range K).all fun j=>(b.getD i 0).testBit j
def V3(h:zh4 ops K=true)(hi:i<ops.size)(hK:K<=i)(hj:j<K):((Region.before ops).getD i 0).testBit j=true:=by
 simp only[zh4,zlj,znf] at h;rcases h i (by simpa using hi) with h | h
 ·rw[Nat.blt_eq] at h;omega
 ·exact h j (by simpa using hj)
section sound
variable    {ex:Exs} {Fin:Kap->Prop}
def Er{r:Option Nat}{Q0:Exit->Act->World->Prop}(hsep:Tg ops ex=true)(hcut:zh4 ops K=true){l2:List Nat}(hl2:∀ i∈l2,K<=i):∀ (fuel:Nat) (listed:Array Bool) (l:List Nat) (κ:Kap) (a:Act) (u:World),
  (l++l2).length=fuel->(l++l2).Pairwise (·<·)->listed.size=ops.size->(∀ i,i∈l++l2↔i<ops.size/\listed.getD i true=false)->C4 ops listed->(∀ i∈l,i<K)->
  ParI P St ops ex (fun κ1=>∀ a u,St κ1 a u->∀ listed':Array Bool,listed'.size=ops.size->(∀ i,i∈l2↔i<ops.size/\listed'.getD i true=false)->C4 ops listed'->wpAnyIn (FW r) 0 P .any ops Q0 l2.length listed' a u) l κ->St κ a u->
  wpAnyIn (FW r) 0 P .any ops Q0 fuel listed a u:=by
 intro fuel
 induction fuel with
 | zero=>
  intro listed l κ a u hlen hsort hsz hmem hcl _ hp hh;obtain⟨h1,h2⟩:=zo9.1 (m6 hlen);subst h1;subst h2;exact hp a u hh listed hsz hmem hcl
 | succ fuel ih=>
  intro listed l κ a u hlen hsort hsz hmem hcl hlK hp hh
  cases l with
  | nil=>
   rw[<-hlen];exact hp a u hh listed hsz hmem hcl
  | cons j0 l0=>
  have hsep':=hsep;simp only[Tg,zlj,zlw] at hsep'
  have hedge:∀ i (hi:i<ops.size),∀ e∈(ops[i]'hi).after,Region.binds .any e=true->e.on<i:=fun i hi e he hb=>by
   have h1:=(hsep' i (by simpa using hi)).1;rw[zlh,zln hi,zoc,Array.all_eq_true'] at h1;have:=h1 e he;simp [hb] at this;exact this
  constructor
  ·intro hr;exfalso;obtain⟨hi,hli⟩:=(hmem j0).1 (mb ..)
   have:j0∈Region.ready .any ops listed:=by
    refine mem_ready.2 ⟨hli,ops[j0],by simp [hi],fun e he hb=>?_⟩;have hlt:=hedge j0 hi e he hb;cases hle:listed.getD e.on true
    ·have hin:=(hmem e.on).2 ⟨by omega,hle⟩;rcases nw.1 hin with h | h
     ·omega
     ·have:=zox hsort h;omega
    ·rw[zlh,zln I] at hle |-;simpa using hle
   rw[hr] at this;cases this
  ·intro i hi;obtain⟨hli,o,ho,hall⟩:=mem_ready.1 hi
   have hisz:i<ops.size:=by
    rcases m8 i ops.size with h | h
    ·exact h
    ·rw[zms h] at ho;cases ho
   have hio:ops[i]=o:=by rw[zln hisz] at ho;exact Option.some.inj ho
   have hwait:∀ j,j<ops.size->((Region.before ops).getD i 0).testBit j=true->listed.getD j true=false->False:=fun j hjs h2 hjl=>by
    have:=bh hsz hcl i hisz (fun e he hb=>by rw[hio] at he;exact hall e he hb) j h2;rw[zlh,zln I] at this hjl;simp at this hjl;rw[this] at hjl;cases hjl
   have hil:i∈j0::l0:=by
    rcases mi.1 ((hmem i).2 ⟨hisz,hli⟩) with h | h
    ·exact h
    ·exfalso;obtain⟨h5,h6⟩:=(hmem j0).1 (mb ..);exact hwait j0 h5 (V3 hcut hisz (hl2 i h) (hlK j0 (mb ..))) h6
   generalize j0::l0=l at *;obtain⟨l1,l3,rfl⟩:=zng hil;rw[mj,zll] at hsort hlen;have hmem':∀ i',i'∈l1++i::(l3++l2)↔i'<ops.size/\listed.getD i' true=false:=fun i'=>by rw[<-hmem i',mj,zll]
   have hap:∀ j∈l1,∀ x y,ops[j]?=some x->ops[i]?=some y->o7 ops ex x y=true:=by
    intro j hj x y hx hy;have hji:j<i:=(zlt.1 hsort).2.2 j hj i (mb ..);obtain⟨hjs,hjl⟩:=(hmem' j).1 (zlr _ hj);have h2:=(hsep' i (by simpa using hisz)).2 j (by simpa using hji);rw[znf] at h2;rcases h2 with h2 | h2
    ·exact(hwait j hjs h2 hjl).elim
    ·rw[zlh,zlh,hx,hy] at h2;exact h2
   obtain⟨o',us,ho',hd,sx,rest⟩:=ParI.front l1 hap hp;obtain rfl:o=o':=by rw[ho] at ho';exact Option.some.inj ho'
   have hst:=sx κ a u (fun _ _=>rfl) hh;refine After.wpOpIn ho ?_;refine After.mono (fun a' u' hh'=>?_) hst;have hli':i<listed.size:=I;refine ih (listed.setIfInBounds i true) (l1++l3) _ a' u' (by simp at hlen |-;omega) ?_ (by simpa using hsz) ?_ ?_ (fun j hj=>hlK j (by rcases mi.1 hj with h | h;exact zlr _ h;exact zl8 _ (mc _ h))) rest hh'
   ·rw[mj];rw[zlt] at hsort |-;exact⟨hsort.1,(mg.1 hsort.2.1).2,fun x hx y hy=>hsort.2.2 x hx y (mc _ hy)⟩
   ·intro j;rw[ec true hli',mj]
    have hnd:i∉l1++(l3++l2):=by
     rw[zlt] at hsort;intro hm;rcases mi.1 hm with hm | hm
     ·have:=hsort.2.2 i hm i (mb ..);omega
     ·have:=(mg.1 hsort.2.1).1 i hm;omega
    by_cases hij:i=j
    ·subst hij;simp [hnd]
    ·rw[nc hij,<-hmem' j];simp only[mi,nw];constructor
     ·rintro(h | h);exact .inl h;exact .inr (.inr h)
     ·rintro(h | h | h);exact .inl h;exact ni h.symm hij;exact .inr h
   ·intro k hk hkl e he hb;rw[ec _ hli'] at hkl |-;by_cases hie:i=e.on
    ·rw[na hie]
    ·rw[nc hie];by_cases hik:i=k
     ·subst hik;rw[hio] at he;exact hall e he hb
     ·rw[nc hik] at hkl;exact hcl k hk hkl e he hb
def r8{Fin:Kap->Prop}:∀ (m i:Nat) {κ:Kap},i+m<=ops.size->X6 P St ops ex Fin ((ops.toList.drop i).take m) κ->ParI P St ops ex Fin (List.range' i m) κ
 | 0,i,κ,hm,h=>by
  rw[zl2] at h;exact h
 | m+1,i,κ,hm,h=>by
  have hi:i<ops.toList.length:=by simp;omega
  rw[zl4 hi,zna] at h;obtain⟨us,hd,sx,rest⟩:=h;refine⟨ops.toList[i],us,?_,hd,sx,r8 m (i+1) I rest⟩;have hi':i<ops.size:=by simpa using hi
  rw[zln hi'];simp
def Ke{F1 F2:Kap->Prop}(h:∀ κ,F1 κ->F2 κ):∀ {l:List Oper} {κ:Kap},X6 P St ops ex F1 l κ->X6 P St ops ex F2 l κ
 | [],κ,hp=>h κ hp
 | _::_,_,⟨us,hd,sx,rest⟩=>⟨us,hd,sx,Ke h rest⟩
def Qs{id:Nat}{κ:Kap}{a:Act}{u:World}{r:Option Nat}(hK:K<=ops.size)(hm:P.follows .mixedOrders=true)(hs:Tg ops ex=true)(hcut:zh4 ops K=true)
  (hdr:∀ κ a u,St κ a u->St κ a { u with drawn:=u.drawn+1 }) (hp:X6 P St ops ex (fun κ1=>∀ a u,St κ1 a u->∃ κ2,St κ2 a u/\X6 P St ops ex Fin (ops.toList.drop K) κ2) (ops.toList.take K) κ) (hh:St κ a u)
  (hQ:∀ κ' a' u',Fin κ'->St κ' a' u'->Q .normal a' u'):(Code.region id ops true).wpIn (FW r) 0 P Q a u:=by
 have hsplit:List.range' 0 K++List.range' K (ops.size-K)=List.range ops.size:=by
  have:=zpb (s:=0) (m:=K) (n:=ops.size-K);rw[zlf] at this;rw[this,znh,zpc hK]
 refine Go.wpIn_mono (wpIn_region_any hm (Er (St:=St) (ex:=ex) (r:=r) (Q0:=fun e a' u'=>e=.normal/\∃ κ',Fin κ'/\St κ' a' u') hs hcut (l2:=List.range' K (ops.size-K)) (fun i hi=>(zn7.1 hi).1) ops.size _ (List.range' 0 K) κ a _ (by rw[hsplit];simp) (by rw[hsplit];exact zoe) (by simp) ?_ ?_ (fun i hi=>by have:=zn7.1 hi;omega) ?_ (hdr _ _ _ hh))) fun e a' u' he=>?_
 ·intro i;rw[hsplit];simp;intro hi;simp [hi]
 ·intro k hk hkl;simp [hk] at hkl
 ·refine r8 K 0 I ?_;rw[zl5];refine Ke (fun κ1 h a u h1 listed hsz hmem hcl=>?_) hp;obtain⟨κ2,h2,h3⟩:=h a u h1;exact s4 hs _ listed _ κ2 a u Z List.pairwise_lt_range' hsz hmem hcl (Bm (ops.size-K) K I h3) h2
 ·obtain⟨rfl,κ',hf,hh'⟩:=he;exact hQ κ' a' u' hf hh'
end sound
section code
def zj0(P:Program)(F:Fr)(B:Heap)(n:Nat)(O:Boxes)(ops:Array Oper)(ex:Exs)(os:List Oper)(Q:Exit->Act->World->Prop):Exit->Act->World->Prop:=
 fun _ a u=>∃ κ2,Has F B O n κ2 a u/\Par P F B n O ops ex κ2 os Q
def Xs{id:Nat}{l:List Oper}(K:Nat)(ex:Exs)(hm:P.follows .mixedOrders=true)(hs:(Tg l.toArray ex && (zh4 l.toArray K && Nat.ble K l.length))=true)(h:Par P F B n O l.toArray ex κ (l.take K) (zj0 P F B n O l.toArray ex (l.drop K) Q)):V P F B n O κ (.region id l.toArray true) Q:=fun a u hh=>by
 rw[zlw,zlw] at hs;exact Qs (St:=Has F B O n) (ex:=ex) (Fin:=fun κ=>N F B n O κ Q) (K:=K) (by simpa using np hs.2.2) hm hs.1 hs.2.1 (fun _ _ _ h=>h.drew) (by simpa [Par,N,zj0] using h) hh fun κ' a' u' hf hh'=>hf a' u' hh'
def zj1{ex:Exs}(h:Par P F B n O ops ex κ os Q):N F B n O κ (zj0 P F B n O ops ex os Q):=fun a u hh=>⟨κ,hh,h⟩
def zb4(t q:Nat){X:Type}{vf:X->Value}{gg:X->GR}(hk:κ t=some (.own (Da vf gg)))(h:∀ x,N F B n O (upd (upd (upd κ t fw) q (.own (gg x).res)) t (.is (vf x))) Q):N F B n O κ Q:=fun a u hh=>let ⟨x,h'⟩:=hh.holdRf (q:=q) hk;h x a u h'
end code
end Go.V
namespace Go.V
def Nv(w:World)(B:Heap)(L:Nat->Prop)(pv:Value)(e:Ending)(u:World):Prop:=e=.panicked [{ v:=pv,recovered:=false }]/\∃ H,Grow L w B u H
def Pan(P:Program)(f:FuncId)(args:List Value)(w:World)(B:Heap)(L:Nat->Prop)(pv:Value):Prop:=Calls P f args.toArray w (Nv w B L pv)
section sound
variable    {ex:Exs}
end sound
section code
def QX(P:Program)(F:Fr)(ops:Array Oper)(K:Nat)(Q:Exit->Act->World->Prop):Exit->Act->World->Prop:=fun _ a u=>∀ Kk,wpOpIn (FW F.r) 0 P ops Q K Kk a u
def XP(F:Fr)(B:Heap)(n:Nat)(O:Boxes)(κ:Kap)(pv:Value)(Q:Exit->Act->World->Prop):Prop:=∀ a u,Has F B O n κ a u->Q (.panic [{ v:=pv,recovered:=false }]) a u
def jt{id:Nat}{l:List Oper}(K:Nat)(hK:Nat.ble (K+1) l.length=true)(h:VO P F B n O l.toArray κ (l.take K) (QX P F l.toArray K Q)):V P F B n O κ (.region id l.toArray false) Q:=fun a u hh=>by
 refine wpIn_region ?_;have hK:=np hK
 have hsplit:List.range l.toArray.size=List.range' 0 K++K::List.range' (K+1) (l.length-(K+1)):=by
  rw[znh,show K::List.range' (K+1) (l.length-(K+1))=List.range' K (l.length-K) by rw[show l.length-K=(l.length-(K+1))+1 by omega];rfl];have:=zpb (s:=0) (m:=K) (n:=l.length-K);rw[zlf] at this;rw[this,zpc I];simp
 rw[hsplit]
 have key:∀ (m i:Nat) {a:Act} {u:World},i+m=K->Ops P l.toArray (fun a u=>QX P F l.toArray K Q .normal a u) ((l.drop i).take m) a u->
   wpOpsIn (FW F.r) 0 P l.toArray Q (List.range' i m++K::List.range' (K+1) (l.length-(K+1))) a u:=by
  intro m
  induction m with
  | zero=>
   intro i a u hi ho;rw[zl2] at ho;show wpOpsIn (FW F.r) 0 P l.toArray Q (K::_) a u;rw[wpOpsIn_cons];exact ho _
  | succ m ih=>
   intro i a u hi ho;have hil:i<l.length:=I;rw[zl4 hil,zna] at ho;have hg:l.toArray[i]?=some l[i]:=by rw[znz,zlq hil]
   rw[znu,zll,wpOpsIn_cons];exact After.wpOpIn hg (After.mono (fun a' u' hh'=>ih (i+1) I hh') ho)
 exact key K 0 I (by rw[zl5];exact h a u hh)
def jq(L:Tabs P)(q:Nat){r:Res}{d:Option Nat}{f:Nat}{args:Array Operand}{at_:Array TypeId}{fo:Operand}
  (ho:ops[K]?=some ⟨d,.call { callee:=.value fo,args:=args,argTypes:=at_ },ty,pos,aft,g⟩) (hg:gK ops κ ⟨d,.call { callee:=.value fo,args:=args,argTypes:=at_ },ty,pos,aft,g⟩=some true)
  (hf:evK κ fo=some (.func (.func f) #[] cap.toArray)) (hfn:L.fn f=some ()) (hq:κ q=some (.own r))
  (h:∀ u H C,zpk H u->B.Le H->r.P undef H u C->(ZCB C u H)->Args κ H args.toList [] (fun vs=>Pan P f (vs++cap) u H C pv)) (hr:∀ v H u C,r.P v H u C->r.P undef H u C)
  (hX:XP F B n O (upd κ q fw) pv Q):N F B n O κ (QX P F ops K Q):=by
 rintro a u ⟨H,fp,hh⟩ Kk;have hlk:∀ t∈(⟨d,.call { callee:=.value fo,args:=args,argTypes:=at_ },ty,pos,aft,g⟩:Oper).looksAt ops,κ t=κ t:=fun _ _=>rfl;unfold wpOpIn;rw[ho];dsimp only;rw[na (xh hh hlk hg)];obtain⟨hown,hM⟩:=hh.slot q _ hq;have e2:=hh.env hlk;have hfe:a.eval fo=.func (.func f) #[] cap.toArray:=e2.is_ fo _ (by simp [Op.operands,Call.operands]) hf;have hc:=Args.use e2 args.toList [] (fun x hx=>by simp [Op.operands,Call.operands] at hx |-;exact .inr hx) (h u H (fp q) hh.sub hh.base (hr _ _ _ _ hown) fun k hk=>⟨(hM k hk).1,(hM k hk).2.1⟩);simp only[zma,mh] at hc;have hrun:=uf (u:=u) L (o:=⟨d,.call { callee:=.value fo,args:=args,argTypes:=at_ },ty,pos,aft,g⟩) rfl hfe hfn;refine⟨fun _ _=>trivial,?_⟩;rw[Oper.semAt_eq _ _ _ (fun c hc=>by cases hc),hrun];refine⟨fun e=>(by cases e),FW.call _ _ (Calls.mono hc fun e' u' hp=>?_)⟩;obtain⟨rfl,H',g'⟩:=hp;exact hX a u' ⟨H',_,hh.use hq g'⟩
def wg{K:Act->World->Prop}(h:XP F B n O κ pv Q):XP F B n O κ pv (Exit.then K Q):=h
def ji{id:Nat}(h:XP F B n O κ pv Q):XP F B n O κ pv (Exit.inBlock id Q):=h
def lj{fn:Func}{B0:Heap}(hs:Since F B0 B)(hd:F.ds=[]:=by rfl):XP F B n O κ pv (bodyPostM Fence.wide 0 P fn (Nv F.w0 B0 F.L pv)):=fun a u hh=>by
 obtain⟨H,fp,hH⟩:=hh;have h0:=hH.defers;rw[hd] at h0;show LeavesInM _ _ _ _ _ _ a.defers _ _;rw[h0];exact⟨rfl,H,⟨hH.keep,hH.sub,hs.le.trans hH.base,fun k hk hl=>(hH.fresh k hk hl).trans (hs.fresh k hk hl)⟩⟩
def fe{f:FuncId}{fn:Func}{c:Code}(gs:Nat)(r:GR)(hf:P.funcs[f]?=some fn)(hb:fn.body=some c)(hn:fn.ntmps=n)
  (hs:args.length<=n) (hB:zpk B w) (hr:r.P B w C) (hC:ZCB C w B) (h:V P ⟨w,none,[],C⟩ B n [] (upd (sk 0 args) gs (.own r.res)) c (bodyPostM Fence.wide 0 P fn (Nv w B C pv))):Pan P f args w B C pv:=by
 refine co hf hb (h _ w ?_);subst hn;have h0:=cj (B:=B) C (fun k hk=>(hC k hk).1) hs hB (fun _=>noL)
 exact⟨B,_,h0.putR (d:=gs) (r:=r.res) Z Z (fun _ _=>rfl) hr (fun k hk=>⟨(hC k hk).1,(hC k hk).2,.inr hk,fun y hy=>by cases hy⟩) fun t r' _ ht=>by
  obtain⟨v,hv,_⟩:=uu _ _ _ _ ht;cases hv⟩
end code
end Go.V
namespace Go.V
section
variable              {a:Act}   {t xt:TypeId} {x:Operand} 
def Kh(hn:Nat.blt d n=true)(hg:gK ops κ ⟨some d,.makeInterface t x,ty,pos,aft,g⟩=some true)(hx:evK κ x=some v)(hc:P.concrete t=true):
  StepOK P F B n ops O κ ⟨some d,.makeInterface t x,ty,pos,aft,g⟩ d (.is (.iface t v)):=
 ke rfl (by simpa using hn) hg trivial fun a u H fp e=>⟨_,by
  have h1:a.eval x=v:=e.is_ x _ (by simp [Op.operands]) hx;have h2:=run_makeInterface (w:=u) t v hc;simp only[execOp,h1,nu,me,h2,ny],rfl⟩
def Ra(hn:Nat.blt d n=true)(hg:gK ops κ ⟨some d,.typeAssert x xt t true,ty,pos,aft,g⟩=some true)(hx:evK κ x=some (.iface t v))(hc:P.concrete t=true):
  StepOK P F B n ops O κ ⟨some d,.typeAssert x xt t true,ty,pos,aft,g⟩ d (.is (.tuple #[v,.bool true])):=
 ke rfl (by simpa using hn) hg trivial fun a u H fp e=>⟨_,by
  have h1:a.eval x=.iface t v:=e.is_ x _ (by simp [Op.operands]) hx
  have h2:(Instr.typeAssert (.iface t v) xt t true).run P u=.ok (.tuple #[v,.bool true]) u:=by
   unfold Program.concrete at hc
   cases hd:P.underlying t with
   | none=>simp [hd] at hc
   | some dd=>cases dd<;>first | (simp [hd] at hc;done) | simp [Instr.typeAssert,run_underlying hd]
  simp only[execOp,h1,nu,me,h2,ny],rfl⟩
def Rb{z:Value}(hn:Nat.blt d n=true)(hg:gK ops κ ⟨some d,.typeAssert x xt t true,ty,pos,aft,g⟩=some true)(hx:evK κ x=some .nilIface)(hc:P.concrete t=true)(hz:∀ w,(zeroValue t).run P w=.ok z w):
  StepOK P F B n ops O κ ⟨some d,.typeAssert x xt t true,ty,pos,aft,g⟩ d (.is (.tuple #[z,.bool false])):=
 ke rfl (by simpa using hn) hg trivial fun a u H fp e=>⟨_,by
  have h1:a.eval x=.nilIface:=e.is_ x _ (by simp [Op.operands]) hx
  have h2:(Instr.typeAssert .nilIface xt t true).run P u=.ok (.tuple #[z,.bool false]) u:=by
   unfold Program.concrete at hc
   cases hd:P.underlying t with
   | none=>simp [hd] at hc
   | some dd=>cases dd<;>first | (simp [hd] at hc;done) | simp [Instr.typeAssert,run_underlying hd,hz]
  simp only[execOp,h1,nu,me,h2,ny],rfl⟩
def B5{dd:Option Nat}(ho:ops[K]?=some ⟨dd,.panic x,ty,pos,aft,g⟩)(hg:gK ops κ ⟨dd,.panic x,ty,pos,aft,g⟩=some true)(hx:evK κ x=some (.iface t v))(hX:XP F B n O κ (.iface t v) Q):N F B n O κ (QX P F ops K Q):=by
 rintro a u ⟨H,fp,hh⟩ Kk;have hlk:∀ s∈(⟨dd,.panic x,ty,pos,aft,g⟩:Oper).looksAt ops,κ s=κ s:=fun _ _=>rfl;unfold wpOpIn;rw[ho];dsimp only;rw[na (xh hh hlk hg)];have e2:=hh.env hlk;have h1:a.eval x=.iface t v:=e2.is_ x _ (by simp [Op.operands]) hx
 have hrun:(execOp a.eval ⟨dd,.panic x,ty,pos,aft,g⟩).run P u=.halt (.panic (.iface t v)) u:=by
  simp only[execOp,h1,nu,run_panic_iface];rfl
 refine⟨fun _ _=>trivial,?_⟩;rw[Oper.semAt_eq _ _ _ (fun c hc=>by cases hc),hrun];exact hX a u ⟨H,fp,hh⟩
end
end Go.V
namespace Go.V
def RetY.frame{f:FuncId}{r1 r1' r2:GR}(hr:(uw r1 r2).P B w C)(hC:ZCB C w B)
  (h:∀ C1,r1.P B w C1->(ZCB C1 w B)->RetY P f args w B C1 r1' φ):RetY P f args w B C (uw r1' r2) φ:=by
 obtain⟨C1,C2,h1,h2,h3,h4⟩:=hr;refine Calls.mono (h C1 h1 fun k hk=>hC k ((h3 k).2 (.inl hk))) fun e u ⟨v,he,H,g,hp,C',hv,hC'⟩=>?_;have hsub:∀ k,C1 k->C k:=fun k hk=>(h3 k).2 (.inl hk);have g2:Grow C w B u H:=⟨⟨g.keep.os,g.keep.tape,g.keep.output,g.keep.size,fun k hk hn=>g.keep.block k hk fun h=>hn (hsub k h),g.keep.dr⟩,g.sub,g.le,fun k hk hn=>g.fresh k hk fun h=>hn (hsub k h)⟩
 refine⟨v,he,H,g2,hp,fun k=>C' k\/C2 k,⟨C',C2,hv,r2.st h2 g.le g.sub ⟨g.keep.os,g.keep.tape,g.keep.output,g.keep.size,g.keep.dr⟩ (fun k hk=>g.keep.block k (hC k ((h3 k).2 (.inr hk))).1 fun h=>h4 k h hk),fun _=>Iff.rfl,fun k hk h2k=>?_⟩,fun k hk=>?_⟩
 ·rcases(hC' k hk).1 with h | h
  ·exact h4 k h h2k
  ·have:=(hC k ((h3 k).2 (.inr h2k))).1;omega
 ·rcases hk with hk | hk
  ·obtain⟨a,b,c⟩:=hC' k hk;exact⟨a.imp (hsub k) id,b,c⟩
  ·obtain⟨a,b⟩:=hC k ((h3 k).2 (.inr hk));exact⟨.inl ((h3 k).2 (.inr hk)),zme a g.keep.size,(g.fresh k a fun h=>h4 k h hk).trans b⟩
def RetY.conv{f:FuncId}{C:Nat->Prop}{r r':GR}(h:RetY P f args w B C r φ)(hi:∀ H u C,r.P H u C->r'.P H u C):RetY P f args w B C r' φ:=
 Calls.mono h fun _ _ ⟨v,he,H,g,hp,C',hv,hC'⟩=>⟨v,he,H,g,hp,C',hi _ _ _ hv,hC'⟩
def Gi{r1 r2:GR}{H:Heap}(h:(uw r1 r2).P H u C):(uw r2 r1).P H u C:=
 let ⟨C1,C2,h1,h2,h3,h4⟩:=h
 ⟨C2,C1,h2,h1,fun k=>(h3 k).trans or_comm,fun k a b=>h4 k b a⟩
section
variable              {a:Act}  
end
end Go.V
section
open Go.V
attribute [local irreducible] Has N Pan Par Ret RetL RetO RetT RetX RetY Src StepOK V VO X XP kr
namespace Go.V.L11
open Go.V.L4
def _root_.Zdj(t:Wr Y->A:=by intro h;refine vt 900 901 rfl (dj _ _ _) ?_;exact h.1)(h:Y):A:=t ⟨h⟩
def _root_.Zek(t:Wr Y->A:=by intro h;refine z8 (Kh Z Z Z T) Z ?_;exact h.1)(h:Y):A:=t ⟨h⟩
def _root_.Zel(t:Wr Y->A:=by intro h;refine z8 (yl (cs:=[_,_]) Z Z zje Z Z) Z ?_;exact h.1)(h:Y):A:=t ⟨h⟩
abbrev N4:TypeId:=157
abbrev zj5:TypeId:=252
abbrev xr(sb rb:Nat)(sv:Value)(fr:Int)(R:Rd):GR:=uw (xa sb [xy rb,.int .i64 fr] N4) (GRd rb sv R)
abbrev wrV(a e:Int):Value:=.iface zj5 (.agg #[.int .i64 a,.int .i64 e])
def Mx{R2:Rd}(hfn:L.fn fr=some ())(he:R2.err=0){C:Nat->Prop}(hB:zpk B w)(hr:(xr sb rb sv fr0 R).P B w C)(hC:ZCB C w B)(hf:∀ (u:World) (H:Heap) (C:Nat->Prop),zpk H u->B.Le H->(xr sb rb sv R.at_ R).P H u C->(ZCB C u H)->RetX zpl fr (fst++cap) u H C (xr sb rb sv R.at_ R2) (.int .i64 x)):
  RetX zpl 136 [xy sb,.func (.func fr) fst.toArray cap.toArray] w B C (xr sb rb sv R.at_ R2) (.int .i64 x):=by
 unfold RetX;refine yr 900 (xr sb rb sv fr0 R) Tryz.func136 Z Tryz.ntmps136 (np Z) hB hr hC ?_;rw[w5,xb,xb];refine Zdj (h:=?_);refine(Z5∘Zbe) ?_;refine q0 (y6 L 901 (GRd rb sv R) (.int .i64 R.at_) (r:=GRd rb sv R) Z Z Z Z Z (fun u H C2 hH _ hr2 hC2=>at_ret hH hr2 hC2)) (ZI (h:=?_));refine xf (yc L (q:=900) (cs':=[xy rb,.int .i64 R.at_]) Z Z Z Z Z) (Zf (h:=?_));refine j9 900 901 rfl Z (xd (GRd rb sv R)) ?_;refine Zq (h:=?_);refine q0 (ja L 900 (xr sb rb sv R.at_ R2) (.int .i64 x) (r:=xr sb rb sv R.at_ R) Z Z Z hfn Z hf) (Zi (h:=?_));refine vt (r1:=(xa sb [xy rb,.int .i64 R.at_] N4).res) (r2:=(GRd rb sv R2).res) 900 901 rfl (xd (GRd rb sv R2)) ?_;rw[xb];refine(Zu∘ZW) ?_;refine q0 (y6 L 901 (GRd rb sv R2) (.tuple #[.int .i64 R2.bad,.int .i64 R2.err]) (r:=GRd rb sv R2) Z Z Z Z Z (fun u H C2 hH _ hr2 hC2=>fault_ret hH hr2 hC2)) ((ZaX∘Z2∘ZaE∘ZH∘Zd) ?_);refine j9 900 901 rfl Z (xd (GRd rb sv R2)) ?_;exact xq L 900 (r:=xr sb rb sv R.at_ R2) (rs:=[.tmp 4]) Z (fun _ _ h=>h) nq Z Z (fun _=>rfl)
def My{R2:Rd}(hfn:L.fn fr=some ())(he:R2.err≠0){C:Nat->Prop}(hB:zpk B w)(hr:(xr sb rb sv fr0 R).P B w C)(hC:ZCB C w B)(hf:∀ (u:World) (H:Heap) (C:Nat->Prop),zpk H u->B.Le H->(xr sb rb sv R.at_ R).P H u C->(ZCB C u H)->RetX zpl fr (fst++cap) u H C (xr sb rb sv R.at_ R2) (.int .i64 x)):
  Pan zpl 136 [xy sb,.func (.func fr) fst.toArray cap.toArray] w B C (wrV R2.bad R2.err):=by
 refine fe 900 (xr sb rb sv fr0 R) Tryz.func136 Z Tryz.ntmps136 (np Z) hB hr hC ?_;rw[w5,xb,xb];refine Zdj (h:=?_);refine(Z5∘Zbe) ?_;refine q0 (y6 L 901 (GRd rb sv R) (.int .i64 R.at_) (r:=GRd rb sv R) Z Z Z Z Z (fun u H C2 hH _ hr2 hC2=>at_ret hH hr2 hC2)) (ZI (h:=?_));refine xf (yc L (q:=900) (cs':=[xy rb,.int .i64 R.at_]) Z Z Z Z Z) (Zf (h:=?_));refine j9 900 901 rfl Z (xd (GRd rb sv R)) ?_;refine Zq (h:=?_);refine q0 (ja L 900 (xr sb rb sv R.at_ R2) (.int .i64 x) (r:=xr sb rb sv R.at_ R) Z Z Z hfn Z hf) (Zi (h:=?_));refine vt (r1:=(xa sb [xy rb,.int .i64 R.at_] N4).res) (r2:=(GRd rb sv R2).res) 900 901 rfl (xd (GRd rb sv R2)) ?_;rw[xb];refine(Zu∘ZW) ?_;refine q0 (y6 L 901 (GRd rb sv R2) (.tuple #[.int .i64 R2.bad,.int .i64 R2.err]) (r:=GRd rb sv R2) Z Z Z Z Z (fun u H C2 hH _ hr2 hC2=>fault_ret hH hr2 hC2)) ((ZaX∘Z2∘Zco∘ZE) ?_);refine jt (id:=5) 4 rfl ((Zb∘Zel∘Zek∘ZS) ?_);refine B5 (K:=4) Z Z Z ?_
 repeat (first | refine wg ?_ | refine ji ?_)
 exact lj nq
def ey{R2:Rd}(hfn:L.fn fr=some ())(he:R2.err=0){C:Nat->Prop}(hB:zpk B w)(hr:(xr sb rb sv fr0 R).P B w C)(hC:ZCB C w B)(hf:∀ (u:World) (H:Heap) (C:Nat->Prop),zpk H u->B.Le H->(xr sb rb sv R.at_ R).P H u C->(ZCB C u H)->RetX zpl fr (fst++cap) u H C (xr sb rb sv R.at_ R2) (.int .u64 x)):
  RetX zpl 75 [xy sb,.func (.func fr) fst.toArray cap.toArray] w B C (xr sb rb sv R.at_ R2) (.int .u64 x):=by
 unfold RetX;refine yr 900 (xr sb rb sv fr0 R) Tryz.func75 Z Tryz.ntmps75 (np Z) hB hr hC ?_;rw[w5,xb,xb];refine Zdj (h:=?_);refine(Z5∘Zbe) ?_;refine q0 (y6 L 901 (GRd rb sv R) (.int .i64 R.at_) (r:=GRd rb sv R) Z Z Z Z Z (fun u H C2 hH _ hr2 hC2=>at_ret hH hr2 hC2)) (ZI (h:=?_));refine xf (yc L (q:=900) (cs':=[xy rb,.int .i64 R.at_]) Z Z Z Z Z) (Zf (h:=?_));refine j9 900 901 rfl Z (xd (GRd rb sv R)) ?_;refine Zq (h:=?_);refine q0 (ja L 900 (xr sb rb sv R.at_ R2) (.int .u64 x) (r:=xr sb rb sv R.at_ R) Z Z Z hfn Z hf) (Zi (h:=?_));refine vt (r1:=(xa sb [xy rb,.int .i64 R.at_] N4).res) (r2:=(GRd rb sv R2).res) 900 901 rfl (xd (GRd rb sv R2)) ?_;rw[xb];refine(Zu∘ZW) ?_;refine q0 (y6 L 901 (GRd rb sv R2) (.tuple #[.int .i64 R2.bad,.int .i64 R2.err]) (r:=GRd rb sv R2) Z Z Z Z Z (fun u H C2 hH _ hr2 hC2=>fault_ret hH hr2 hC2)) ((ZaX∘Z2∘ZaE∘ZH∘Zd) ?_);refine j9 900 901 rfl Z (xd (GRd rb sv R2)) ?_;exact xq L 900 (r:=xr sb rb sv R.at_ R2) (rs:=[.tmp 4]) Z (fun _ _ h=>h) nq Z Z (fun _=>rfl)
def Mw{R2:Rd}(hfn:L.fn fr=some ())(he:R2.err≠0){C:Nat->Prop}(hB:zpk B w)(hr:(xr sb rb sv fr0 R).P B w C)(hC:ZCB C w B)(hf:∀ (u:World) (H:Heap) (C:Nat->Prop),zpk H u->B.Le H->(xr sb rb sv R.at_ R).P H u C->(ZCB C u H)->RetX zpl fr (fst++cap) u H C (xr sb rb sv R.at_ R2) (.int .u64 x)):
  Pan zpl 75 [xy sb,.func (.func fr) fst.toArray cap.toArray] w B C (wrV R2.bad R2.err):=by
 refine fe 900 (xr sb rb sv fr0 R) Tryz.func75 Z Tryz.ntmps75 (np Z) hB hr hC ?_;rw[w5,xb,xb];refine Zdj (h:=?_);refine(Z5∘Zbe) ?_;refine q0 (y6 L 901 (GRd rb sv R) (.int .i64 R.at_) (r:=GRd rb sv R) Z Z Z Z Z (fun u H C2 hH _ hr2 hC2=>at_ret hH hr2 hC2)) (ZI (h:=?_));refine xf (yc L (q:=900) (cs':=[xy rb,.int .i64 R.at_]) Z Z Z Z Z) (Zf (h:=?_));refine j9 900 901 rfl Z (xd (GRd rb sv R)) ?_;refine Zq (h:=?_);refine q0 (ja L 900 (xr sb rb sv R.at_ R2) (.int .u64 x) (r:=xr sb rb sv R.at_ R) Z Z Z hfn Z hf) (Zi (h:=?_));refine vt (r1:=(xa sb [xy rb,.int .i64 R.at_] N4).res) (r2:=(GRd rb sv R2).res) 900 901 rfl (xd (GRd rb sv R2)) ?_;rw[xb];refine(Zu∘ZW) ?_;refine q0 (y6 L 901 (GRd rb sv R2) (.tuple #[.int .i64 R2.bad,.int .i64 R2.err]) (r:=GRd rb sv R2) Z Z Z Z Z (fun u H C2 hH _ hr2 hC2=>fault_ret hH hr2 hC2)) ((ZaX∘Z2∘Zco∘ZE) ?_);refine jt (id:=5) 4 rfl ((Zb∘Zel∘Zek∘ZS) ?_);refine B5 (K:=4) Z Z Z ?_
 repeat (first | refine wg ?_ | refine ji ?_)
 exact lj nq
def kf{e:Int}(hB:zpk B w)(hr:(xr sb rb sv fr0 R).P B w C)(hC:ZCB C w B):kr zpl 74 [xy sb,.bool true,.int .i64 e] w B C (xr sb rb sv fr0 R):=by
 unfold kr;refine yr 900 (xr sb rb sv fr0 R) Tryz.func74 Z Tryz.ntmps74 (np Z) hB hr hC ((ZL∘Za∘Zt∘ZZ) ?_);exact xp L 900 (r:=xr sb rb sv fr0 R) Z (fun _ _ h=>h) nq Z Z
def fj{e:Int}(hB:zpk B w)(hr:(xr sb rb sv fr0 R).P B w C)(hC:ZCB C w B):Pan zpl 74 [xy sb,.bool false,.int .i64 e] w B C (wrV fr0 e):=by
 refine fe 900 (xr sb rb sv fr0 R) Tryz.func74 Z Tryz.ntmps74 (np Z) hB hr hC ?_;rw[w5,xb,xb];refine Zdj (h:=?_);refine(ZL∘Za∘Zt∘ZE) ?_;refine jt (id:=1) 7 rfl ((Za∘ZW∘Za∘Zel∘Zek∘ZS) ?_);refine B5 (K:=7) Z Z Z ?_
 repeat (first | refine wg ?_ | refine ji ?_)
 exact lj nq
def Hv{b2 b3:Nat}{bs:List Nat}(hb:∀ b∈bs,b<=255)(hl:bs.length<=1099511627776)(hat:R.at_<=bs.length)(hlim:lim<=1099511627776)(hB:zpk B w)(hs:BsV bs fu sv B)(h2:B b2=some (.cells #[xy sb] 153))(h3:B b3=some (.cells #[.int .i64 lim] 3))(hr:(xr sb rb sv fr0 R).P B w C)(hC:ZCB C w B):
  RetX zpl 137 [xy b2,xy b3] w B C (xr sb rb sv fr0 (wk bs lim R).2) (.int .i64 (wk bs lim R).1):=by
 unfold RetX;refine yr 900 (xr sb rb sv fr0 R) Tryz.func137 Z Tryz.ntmps137 (np Z) hB hr hC ?_;rw[w5,xb,xb];refine Zdj (h:=?_);refine(ZL∘Zc) ?_;refine qh (id:=1) [(200006,[900]),(8,[901])] x8 T (zh (qf L (qk Z h2) Z Z Z Z) Z ((ZbM∘ZcP) ?_));refine zh (qf L (qk Z h3) Z Z Z Z) Z (xu (y6 L 901 (GRd rb sv (wk bs lim R).2) (.int .i64 (wk bs lim R).1) (r:=GRd rb sv R) Z Z Z Z Z (fun u H C2 hH hle hr2 hC2=>len_ret hlim hb hl hat hH (hs.le hle) hr2 hC2)) Z Z (Za3 (h:=?_)));refine j9 900 901 rfl Z (xd (GRd rb sv (wk bs lim R).2)) ?_;exact xq L 900 (r:=xr sb rb sv fr0 (wk bs lim R).2) (rs:=[.tmp 2]) Z (fun _ _ h=>h) nq Z Z (fun _=>rfl)
def size_ret{bs:List Nat}(hb:∀ b∈bs,b<=255)(hl:bs.length<=1099511627776)(hat:R.at_<=bs.length)(hlim:lim<=1099511627776)(he:(wk bs lim R).2.err=0)(hB:zpk B w)(hs:BsV bs fu sv B)(hr:(xr sb rb sv fr0 R).P B w C)(hC:ZCB C w B):
  RetX zpl 73 [xy sb,.int .i64 lim] w B C (xr sb rb sv R.at_ (wk bs lim R).2) (.int .i64 (wk bs lim R).1):=by
 unfold RetX;refine yr 900 (xr sb rb sv fr0 R) Tryz.func73 Z Tryz.ntmps73 (np Z) hB hr hC ((Zba∘Zdn∘Zc) ?_);refine kq 2 902 rfl fun b2=>?_;refine kq 3 903 rfl fun b3=>?_;refine wd 902 rfl fun H1 hs1 _ h2=>?_;refine wd 903 rfl fun H2 hs2 _ h3=>?_;have h2:=hs2.le _ _ h2;have hs12:=hs1.trans hs2;have hs':=hs.le hs12.le;have hcl:∀ (u:World) (H:Heap) (C:Nat->Prop),H2.Le H->zpk H u->(xr sb rb sv R.at_ R).P H u C->(ZCB C u H)->RetX zpl 137 ([]++[xy b2,xy b3]) u H C (xr sb rb sv R.at_ (wk bs lim R).2) (.int .i64 (wk bs lim R).1):=fun u H C3 hle hH hr3 hC3=>Hv hb hl hat hlim hH (hs'.le hle) (hle _ _ h2) (hle _ _ h3) hr3 hC3;refine Z4 (h:=?_);refine z8 (qf L (qk Z h2) Z Z Z Z) Z (Za8 (h:=?_));refine q0 (y6 L 900 (xr sb rb sv R.at_ (wk bs lim R).2) (.int .i64 (wk bs lim R).1) (r:=xr sb rb sv fr0 R) Z Z Z Z Z (fun u H C2 hH hle hr2 hC2=>Mx (fst:=[]) (cap:=[xy b2,xy b3]) Z he hH hr2 hC2 (fun u3 H3 C3 hH3 hle3 hr3 hC3=>hcl u3 H3 C3 (hle.trans hle3) hH3 hr3 hC3))) (Zd (h:=?_));exact xq L 900 (r:=xr sb rb sv R.at_ (wk bs lim R).2) (rs:=[.tmp 4]) Z (fun _ _ h=>h) hs12 Z Z (fun _=>rfl)
def E4{bs:List Nat}(hb:∀ b∈bs,b<=255)(hl:bs.length<=1099511627776)(hat:R.at_<=bs.length)(hlim:lim<=1099511627776)(he:(wk bs lim R).2.err≠0)(hB:zpk B w)(hs:BsV bs fu sv B)(hr:(xr sb rb sv fr0 R).P B w C)(hC:ZCB C w B):
  Pan zpl 73 [xy sb,.int .i64 lim] w B C (wrV (wk bs lim R).2.bad (wk bs lim R).2.err):=by
 refine fe 900 (xr sb rb sv fr0 R) Tryz.func73 Z Tryz.ntmps73 (np Z) hB hr hC ((Zba∘Zdn∘Zc) ?_);refine kq 2 902 rfl fun b2=>?_;refine kq 3 903 rfl fun b3=>?_;refine wd 902 rfl fun H1 hs1 _ h2=>?_;refine wd 903 rfl fun H2 hs2 _ h3=>?_;have h2:=hs2.le _ _ h2;have hs12:=hs1.trans hs2;have hs':=hs.le hs12.le;have hcl:∀ (u:World) (H:Heap) (C:Nat->Prop),H2.Le H->zpk H u->(xr sb rb sv R.at_ R).P H u C->(ZCB C u H)->RetX zpl 137 ([]++[xy b2,xy b3]) u H C (xr sb rb sv R.at_ (wk bs lim R).2) (.int .i64 (wk bs lim R).1):=fun u H C3 hle hH hr3 hC3=>Hv hb hl hat hlim hH (hs'.le hle) (hle _ _ h2) (hle _ _ h3) hr3 hC3;refine jt (id:=1) 2 rfl (z8 (qf L (qk Z h2) Z Z Z Z) Z ((Za8∘ZS) ?_));refine jq (r:=(xr sb rb sv fr0 R).res) (K:=2) L 900 rfl Z Z Z Z (fun u H C2 hH hle hr2 hC2=>My (fst:=[]) (cap:=[xy b2,xy b3]) Z he hH hr2 hC2 (fun u3 H3 C3 hH3 hle3 hr3 hC3=>hcl u3 H3 C3 (hle.trans hle3) hH3 hr3 hC3)) (fun _ _ _ _ h=>h) ?_
 repeat (first | refine wg ?_ | refine ji ?_)
 exact lj hs12
def Qm(hl:bs.length<=1099511627776)(hat:R.at_<=bs.length)(he:(Gn bs R).2=0)(hB:zpk B w)(hs:BsV bs fu sv B)(hr:(xr sb rb sv fr0 R).P B w C)(hC:ZCB C w B):
  kr zpl 79 [xy sb] w B C (xr sb rb sv fr0 R):=by
 unfold kr;refine yr 900 (xr sb rb sv fr0 R) Tryz.func79 Z Tryz.ntmps79 (np Z) hB hr hC ?_;rw[w5,xb,xb];refine Zdj (h:=?_);refine(ZL∘Za∘ZW) ?_;refine q0 (y6 L 901 (GRd rb sv R) (.tuple #[.int .i64 (Gn bs R).1,.int .i64 (Gn bs R).2]) (r:=GRd rb sv R) Z Z Z Z Z (fun u H C2 hH hle hr2 hC2=>Vv hl hat hH (hs.le hle) hr2 hC2)) ((Zy∘Zp∘ZaM∘ZG∘ZZ) ?_);refine ij 900 901 rfl Z (xd (GRd rb sv R)) ?_;exact xp L 900 (r:=xr sb rb sv fr0 R) Z (fun _ _ h=>h) nq Z Z
def Qn(hl:bs.length<=1099511627776)(hat:R.at_<=bs.length)(he:(Gn bs R).2≠0)(hB:zpk B w)(hs:BsV bs fu sv B)(hr:(xr sb rb sv fr0 R).P B w C)(hC:ZCB C w B):
  Pan zpl 79 [xy sb] w B C (wrV (Gn bs R).1 (Gn bs R).2):=by
 refine fe 900 (xr sb rb sv fr0 R) Tryz.func79 Z Tryz.ntmps79 (np Z) hB hr hC ?_;rw[w5,xb,xb];refine Zdj (h:=?_);refine(ZL∘Za∘ZW) ?_;refine q0 (y6 L 901 (GRd rb sv R) (.tuple #[.int .i64 (Gn bs R).1,.int .i64 (Gn bs R).2]) (r:=GRd rb sv R) Z Z Z Z Z (fun u H C2 hH hle hr2 hC2=>Vv hl hat hH (hs.le hle) hr2 hC2)) ((Zy∘Zp∘ZaM∘Zco∘ZE) ?_);refine jt (id:=2) 4 rfl ((Zb∘Zel∘Zek∘ZS) ?_);refine B5 (K:=4) Z Z Z ?_
 repeat (first | refine wg ?_ | refine ji ?_)
 exact lj nq
end Go.V.L11
end
end
