/- Texts, part 6. -/
import Derived.Test.YtooecmiihjampaaGreatTopReadM5
import Derived.Laws.IdiomStrings
import Derived.Laws.BytesArg
set_option linter.unusedVariables false
set_option linter.unusedSimpArgs false
set_option maxRecDepth 20000
set_option maxHeartbeats 8000000
set_option linter.defProp false
open Go.Proofs Go.RowKit
section
variable{b b1 d fr i last lim m n rb sb t wb:Nat}{a l:List Go.V.L2.U}{bs rest:List Nat}{args cap fst:List Go.Value}{w:Go.World}{B H:Go.V.Heap}{C:Nat->Prop}{fb fu:Bool}{s sv v v2:Go.Value}{e fr0 r x:Int}{c:Go.V.L8.CH}{S S':Go.V.L10.Sto}{es:Go.V.L10.Ent}{L0 P:List Int}{cs:List Go.V.L8.CH}{φ φ1 φ2:Go.Value->Go.V.Heap->Prop}{g:Option (Nat×Bool)}{R:Go.V.L4.Rd}{α:Type}{O:Go.V.Boxes}{ops:Array Go.Oper}{κ:Go.V.Kap}{ty:Go.TypeId}{pos:String}{aft:Array Go.Edge}{zs:List (Int×List Go.V.L2.U)}{A Y:Prop}
namespace Go.V.L8
open Go.V.L2 Go.V.L3 Go.V.L6
abbrev chC(n:Nat)(l:List CH):List CH:=chL (fun c:CH=>c.1) kw n l
def Bn(hn:0<n)(l:List CH):chC n l=stC (l.take n)++chC n (l.drop n):=Hg hn l
def Ad(hn:0<n){l:List CH}(h:l.length<=n):chC n l=stC l:=zh3 hn h
def zh4(hn:0<n)(l:List CH):(chC n l).length=l.length:=Y6 cmpT_ord hn l.length (nu _)
def Us(X Y:List CH):stC (stC X++stC Y)=stC (X++Y):=zbr cmpT_ord X Y
def Ba(X:List CH):ziv (stC X):=(uw cmpT_ord X).1
attribute [local irreducible] V N X VO Par StepOK Has Ret RetL RetO RetT kz Src
def zbs{l:List CH}{rest:List Value}{cap:Nat}(hm:l.length=m)(hm1:m<=100000)(hB:zs4 B w)
  (hr:(xc b (l.flatMap ccs++rest) tyC).P B w C) (hC:ZCB C w B):
  kz zs5 281 [.slice (some ⟨b,0,none⟩) m cap,.int .i64 m,Cw] w B C (xc b ((stC l).flatMap ccs++rest) tyC):=by
 unfold kz;refine xf 900 (xc b (l.flatMap ccs++rest) tyC) Tryz.func281 Z Tryz.ntmps281 (np Z) hB hr hC ?_;rw[xd];refine(Zc2∘ZaY∘Zar) ?_
 refine xp (fun s:Nat×List CH=>[(0,.is (.slice (some ⟨b,0,none⟩) m cap)),(1,.is (.int .i64 m)),(2,.is Cw),(6,.is (.int .i64 20)),(7,.is (.int .i64 s.1)),(8,.is (.int .i64 (s.1+20:Nat))),(900,.own (xu b ((s.2++l.drop s.1).flatMap ccs++rest) tyC))])
  (fun s=>s.2.length=s.1/\s.1<=m/\s.2++chC 20 (l.drop s.1)=chC 20 l) (fun s=>m-s.1) (0,[]) ⟨rfl,mb _,rfl⟩ ⟨rfl,rfl,rfl,rfl,rfl,rfl,rfl,nm⟩ ?_
 rintro⟨a,S1⟩ ⟨h1,h2,h3⟩;dsimp only at h1 h2 h3 |-;have hdl:(l.drop a).length=m-a:=by rw[m8,hm]
 by_cases hlt:a+20<=m
 ·have e0:S1++l.drop a=S1++((l.drop a).take 20++(l.drop a).drop 20):=by rw[zo0]
  have e1:S1++(stC ((l.drop a).take 20)++(l.drop a).drop 20)=(S1++stC ((l.drop a).take 20))++l.drop (a+20):=by rw[zp6,mw]
  have hlen:(S1++((l.drop a).take 20++(l.drop a).drop 20)).length=m:=by rw[<-e0,nr];omega
  have ltk:((l.drop a).take 20).length=20:=by rw[mi];omega
  have a1:IntKind.i64.wrap (((a+20:Nat):Int)+20)=((a+20+20:Nat):Int):=xb T T;rw[e0];refine(Zf∘Za9∘ZcW∘Zcb∘ZcE∘Zb) ?_;refine qg (xe L 900 (xc b ((S1++(stC ((l.drop a).take 20)++(l.drop a).drop 20)).flatMap ccs++rest) tyC) (r:=xc b ((S1++((l.drop a).take 20++(l.drop a).drop 20)).flatMap ccs++rest) tyC) Z Z Z Z Z (fun u H C hH _ hr hC=>(by have h:=ins_ret (cap:=cap) (a:=a) (e:=a+20) h1 T hlen hm1 hH hr hC;exact h))) ?_;refine(Zg∘Z5∘Zc∘ZbG∘ZC∘Zag) ?_;rw[e1]
  exact yo (x:=(a,S1)) (a+20,S1++stC ((l.drop a).take 20)) ⟨by dsimp only;rw[List.length_append,bw];omega,hlt,by
   dsimp only;rw[<-h3,Bn T (l.drop a),List.drop_drop,List.append_assoc]⟩ G ⟨rfl,rfl,rfl,rfl,rfl,rfl,rfl,nm⟩
 ·have e0:S1++l.drop a=S1++(l.drop a++[]):=by rw[mq]
  have e1:S1++(stC (l.drop a)++[])=chC 20 l:=by rw[mq,<-h3,Ad T T]
  have hlen:(S1++(l.drop a++[])).length=m:=by rw[<-e0,nr];omega
  rw[e0];refine(Zf∘Za9∘ZcO∘Za5∘ZO∘Zbv) ?_;refine qg (xe L 900 (xc b ((S1++(stC (l.drop a)++[])).flatMap ccs++rest) tyC) (r:=xc b ((S1++(l.drop a++[])).flatMap ccs++rest) tyC) Z Z Z Z Z (fun u H C hH _ hr hC=>(by have h:=ins_ret (cap:=cap) (a:=a) (e:=m) h1 T hlen hm1 hH hr hC;exact h))) ?_;refine Zd3 (h:=?_);rw[e1];clear e0 e1 hlen hlt hdl h1 h2 h3;refine xp (fun s:Nat=>[(0,.is (.slice (some ⟨b,0,none⟩) m cap)),(1,.is (.int .i64 m)),(2,.is Cw),(6,.is (.int .i64 s)),(900,.own (xu b ((chC s l).flatMap ccs++rest) tyC))]) (fun s=>0<s/\s<=20+2*m) (fun s=>m-s) 20 ⟨by omega,by omega⟩ ⟨Z,Z,Z,Z,Z,nm⟩ ?_;rintro s ⟨hs0,hs1⟩;by_cases hsm:s<m
  ·refine(Zf∘Zcc∘ZbB∘ZcQ∘ZaI∘Ze5∘ZaY∘Zar) ?_
   refine xp (fun t:Nat×List CH=>[(0,.is (.slice (some ⟨b,0,none⟩) m cap)),(1,.is (.int .i64 m)),(2,.is Cw),(6,.is (.int .i64 s)),(7,.is (.int .i64 t.1)),(8,.is (.int .i64 (t.1+2*s:Nat))),(900,.own (xu b ((t.2++chC s (l.drop t.1)).flatMap ccs++rest) tyC))])
    (fun t=>t.2.length=t.1/\t.1<=m/\t.2++chC (2*s) (l.drop t.1)=chC (2*s) l) (fun t=>m-t.1) (0,[]) ⟨rfl,Nat.zero_le _,rfl⟩ ⟨rfl,rfl,rfl,rfl,rfl,by dsimp only;rw[Nat.zero_add];rfl,rfl,trivial⟩ ?_
   rintro⟨a,S1⟩ ⟨h1,h2,h3⟩;dsimp only at h1 h2 h3 |-;have hdl:(l.drop a).length=m-a:=by rw[m8,hm]
   have hcs:=Bn hs0 (l.drop a);by_cases hlt:a+2*s<=m
   ·have hcs2:=Bn hs0 ((l.drop a).drop s)
    have e0:S1++chC s (l.drop a)=S1++(stC ((l.drop a).take s)++(stC (((l.drop a).drop s).take s)++chC s (l.drop (a+2*s)))):=by
     rw[hcs,hcs2,zp6,zp6,show a+s+s=a+2*s by omega]
    have ht2:(l.drop a).take (2*s)=(l.drop a).take s++((l.drop a).drop s).take s:=by rw[show 2*s=s+s by omega,List.take_add]
    have e1:S1++(stC (stC ((l.drop a).take s)++stC (((l.drop a).drop s).take s))++chC s (l.drop (a+2*s)))=(S1++stC ((l.drop a).take (2*s)))++chC s (l.drop (a+2*s)):=by rw[Us,<-ht2,mw]
    have l1:(stC ((l.drop a).take s)).length=s:=by rw[bw,mi];omega
    have l2:(stC (((l.drop a).drop s).take s)).length=s:=by rw[bw,mi,m8];omega
    have l3:(chC s (l.drop (a+2*s))).length=m-(a+2*s):=by rw[zh4 hs0,m8,hm]
    have hlen:(S1++(stC ((l.drop a).take s)++(stC (((l.drop a).drop s).take s)++chC s (l.drop (a+2*s))))).length=m:=by simp only[nr];omega
    have a1:IntKind.i64.wrap ((a:Int)+(s:Int))=((a+s:Nat):Int):=xb T T;have a2:IntKind.i64.wrap (((a+2*s:Nat):Int)+2*(s:Int))=((a+2*s+2*s:Nat):Int):=xb T T;rw[e0];refine(Zf∘Z2∘Zb∘ZcW∘Zcb∘Z4∘Zbv∘ZC∘Zb) ?_;refine qg (xe L 900 (xc b ((S1++(stC (stC ((l.drop a).take s)++stC (((l.drop a).drop s).take s))++chC s (l.drop (a+2*s)))).flatMap ccs++rest) tyC) (r:=xc b ((S1++(stC ((l.drop a).take s)++(stC (((l.drop a).drop s).take s)++chC s (l.drop (a+2*s))))).flatMap ccs++rest) tyC) Z Z Z Z Z (fun u H C hH _ hr hC=>(by have h:=Um _ (cap:=cap) (a:=a) (mm:=a+s) (e:=a+2*s) (nu _) h1 T T T T (Ba _) (Ba _) hlen hm1 hH hr hC;exact h))) ?_;refine(Zg∘ZG∘Za∘Zc∘ZJ∘Zb∘Zeg∘Zag) ?_;rw[e1]
    exact yo (x:=(a,S1)) (a+2*s,S1++stC ((l.drop a).take (2*s))) ⟨by dsimp only;rw[List.length_append,bw,List.length_take];omega,hlt,by
     dsimp only;rw[<-h3,Bn T (l.drop a),List.drop_drop,List.append_assoc]⟩ G ⟨rfl,rfl,rfl,rfl,rfl,rfl,rfl,nm⟩
   ·have a1:IntKind.i64.wrap ((a:Int)+(s:Int))=((a+s:Nat):Int):=xb T T;have a2:IntKind.i64.wrap ((s:Int)*2)=((2*s:Nat):Int):=xb T T |>.trans T;by_cases hlm:a+s<m
    ·have e0:S1++chC s (l.drop a)=S1++(stC ((l.drop a).take s)++(stC ((l.drop a).drop s)++[])):=by
      rw[hcs,Ad hs0 (l:=(l.drop a).drop s) (by rw[m8];omega),mq]
     have e1:S1++(stC (stC ((l.drop a).take s)++stC ((l.drop a).drop s))++[])=chC (2*s) l:=by
      rw[Us,zo0,mq,<-h3,Ad (n:=2*s) T T]
     have l1:(stC ((l.drop a).take s)).length=s:=by rw[bw,mi];omega
     have l2:(stC ((l.drop a).drop s)).length=m-a-s:=by rw[bw,m8];omega
     have hlen:(S1++(stC ((l.drop a).take s)++(stC ((l.drop a).drop s)++[]))).length=m:=by simp only[nr,m6];omega
     rw[e0];refine(Zf∘Z2∘Zb∘ZcO∘Za5∘Ze∘Zae∘Zb∘ZC∘Zd∘ZaD∘Zb∘ZbB∘Zaa∘Zb∘Z8) ?_;refine qg (xe L 900 (xc b ((S1++(stC (stC ((l.drop a).take s)++stC ((l.drop a).drop s))++[])).flatMap ccs++rest) tyC) (r:=xc b ((S1++(stC ((l.drop a).take s)++(stC ((l.drop a).drop s)++[]))).flatMap ccs++rest) tyC) Z Z Z Z Z (fun u H C hH _ hr hC=>(by have h:=Um _ (cap:=cap) (a:=a) (mm:=a+s) (e:=m) (nu _) h1 T T T T (Ba _) (Ba _) hlen hm1 hH hr hC;exact h))) ?_;refine(Zw∘Zaj∘Za) ?_;refine z7 (Vv Z Z Z Z a2) Z (Zag (h:=?_));rw[e1];exact yo (x:=s) (2*s) ⟨by omega,by omega⟩ T ⟨Z,Z,Z,Z,Z,nm⟩
    ·have e1:S1++chC s (l.drop a)=chC (2*s) l:=by
      rw[<-h3,Ad hs0 T,Ad (n:=2*s) T T]
     rw[e1];refine(Zf∘Z2∘Zb∘ZcO∘Za5∘Ze∘Zae∘Zb∘ZC∘Zd∘ZaD∘Zb∘Z0∘Zac∘Zbr∘Zaj∘Za) ?_;refine z7 (Vv Z Z Z Z a2) Z (Zag (h:=?_));exact yo (x:=s) (2*s) ⟨by omega,by omega⟩ T ⟨Z,Z,Z,Z,Z,nm⟩
  ·rw[Ad hs0 T];refine(Zf∘Zcc∘Z0∘ZaJ∘ZaH) ?_;exact xw L 900 (r:=xc b _ tyC) Z (fun _ _ h=>h) nq Z Z
abbrev SSF:Nat:=254
def Ux{l:List CH}{rest:List Value}{cap:Nat}(hm:l.length=m)(hm1:m<=100000)(hB:zs4 B w)
  (hr:(xc b (l.flatMap ccs++rest) tyC).P B w C) (hC:ZCB C w B):
  kz zs5 SSF [.slice (some ⟨b,0,none⟩) m cap,Cw] w B C (xc b ((stC l).flatMap ccs++rest) tyC):=by
 unfold kz;refine xf 900 (xc b (l.flatMap ccs++rest) tyC) Tryz.func254 Z Tryz.ntmps254 (np Z) hB hr hC ?_;rw[xd];refine(ZfC∘Zb∘Zco∘Za) ?_;refine qg (xe L 900 (xc b ((stC l).flatMap ccs++rest) tyC) (r:=xc b (l.flatMap ccs++rest) tyC) Z Z Z Z Z (fun u H C hH _ hr hC=>(by have h:=zbs (cap:=cap) hm hm1 hH hr hC;exact h))) ?_;refine Zab (h:=?_);exact xw L 900 (r:=xc b _ tyC) Z (fun _ _ h=>h) nq Z Z
def zc1(hB:zs4 B w):Ret zs5 291 [.slice none 0 0,.int .i64 0,.int .i64 0,Cw] w B (fun _ _=>True):=by
 refine yr Tryz.func291 Z Tryz.ntmps291 (np Z) hB ((ZQ∘Za∘Zay∘ZaX) ?_);refine xp (fun _:Nat=>[(2,.is (.int .i64 0)),(8,.is (.int .i64 1))]) (fun _=>True) (fun s=>s) 0 trivial ⟨Z,Z,nm⟩ ?_;rintro s _;refine(Zf∘Zan∘Zb∘Z0∘ZaJ∘ZaH) ?_;exact zat L Z (fun _ _ h=>h) nq
def Ur(hB:zs4 B w):Ret zs5 281 [.slice none 0 0,.int .i64 0,Cw] w B (fun _ _=>True):=by
 refine yr Tryz.func281 Z Tryz.ntmps281 (np Z) hB ((Zc2∘ZaY∘Zar) ?_);refine xp (fun _:Nat=>[(0,.is (.slice none 0 0)),(1,.is (.int .i64 0)),(2,.is Cw),(6,.is (.int .i64 20)),(7,.is (.int .i64 0)),(8,.is (.int .i64 20))]) (fun _=>True) (fun s=>s) 0 trivial ⟨Z,Z,Z,Z,Z,Z,nm⟩ ?_;rintro s _;refine(Zf∘Za9∘ZcO∘Za5∘ZO∘Zbv) ?_;refine z7 (xg (φ:=fun _ _=>True) L Z Z (zm Z) Z Z Z (fun _ _ _ _ _=>trivial) (fun u H hH _ _=>zc1 hH)) Z (Zd3 (h:=?_));refine xp (fun _:Nat=>[(1,.is (.int .i64 0)),(6,.is (.int .i64 20))]) (fun _=>True) (fun s=>s) 0 trivial ⟨Z,Z,nm⟩ ?_;rintro s _;refine(Zf∘Zcc∘Z0∘ZaJ∘ZaH) ?_;exact zat L Z (fun _ _ h=>h) nq
def Sb(hB:zs4 B w):Ret zs5 SSF [.slice none 0 0,Cw] w B (fun _ _=>True):=by
 refine yr Tryz.func254 Z Tryz.ntmps254 (np Z) hB ((ZfC∘Zb∘Zco∘Za) ?_);refine z7 (xg (φ:=fun _ _=>True) L Z Z (zm Z) Z Z Z (fun _ _ _ _ _=>trivial) (fun u H hH _ _=>Ur hH)) Z (Zab (h:=?_));exact zat L Z (fun _ _ h=>h) nq
def _root_.Zfa(t:Wr Y->A:=by intro h;refine z8 (zz L (vs:=[_,_,_,_,_,_,_]) (y7 Z) Z Z Z Z ⟨_,rfl⟩) Z ?_;exact h.1)(h:Y):A:=t ⟨h⟩
def _root_.Zfb(t:Wr Y->A:=by intro h;refine z8 (yx Z Z Z Z (ng T)) Z ?_;exact h.1)(h:Y):A:=t ⟨h⟩
def _root_.ZeK(t:Wr Y->A:=by intro h;refine z8 (yp L Z Z Z Z) Z ?_;exact h.1)(h:Y):A:=t ⟨h⟩
def _root_.Zge(t:Wr Y->A:=by intro h;refine Zh (h:=?_);refine qg (w8 L Z Z Z (Mn Z) Z zlv M M T T) ?_;exact h.1)(h:Y):A:=t ⟨h⟩
def zcy(l:List CH):aj (stC l)=Dc l:=X5 (uw cmpT_ord l)
def Ly:∀ (l:List CH),(aj l).length<=l.length
 | []=>nu _
 | [c]=>nu _
 | c::d::r=>by
  show(if kw c.1 d.1=0 then aj (d::r) else c::aj (d::r)).length<=_;have:=Ly (d::r);split
  ·simp only[nz] at this |-;omega
  ·simp only[nz] at this |-;omega
def Tp{l:List CH}(hz:l.length<=100000)(hB:zs4 B w)(hv:KS tyC l fu v B):
  RetO zs5 252 [v] w B (SlR tyC 7 l.length (l.flatMap ccs)):=by
 have hv0:=hv;have hlen:=Do l;have hpl:=Qz l;obtain⟨p,c,rfl⟩:=jk hv;rcases p with _ | b
 ·obtain⟨h0,rfl⟩:l.length=0/\c=0:=F6 hv;have hn:l=[]:=zow h0;subst hn;refine wz Tryz.func252 Z Tryz.ntmps252 (np Z) hB (Zck (h:=?_));refine z7 (u9 Z Z Z Z znp Z) Z ((Zn∘Zv∘Zc) ?_);exact ul 2 tyC 7 rfl (lf Z (fun _ _ h=>h) nq Z)
 ·refine wz Tryz.func252 Z Tryz.ntmps252 (np Z) hB (Zck (h:=?_));refine z7 (u9 Z Z Z Z znp Z) Z (Zx (h:=?_));refine k7 0 (KS tyC l fu) Z ns hv0 (Z6 (h:=?_));refine z7 (cu L Z Z Z Z Z) Z (Zge (h:=?_));refine qg (yu (.inr Z) Z) (Zw (h:=?_));rw[zo2,mj];exact lf Z (fun _ _ h=>h) nq Z
def Oh{l m:List CH}(hm:Dc l=m)(hz:l.length<=50000)(hB:zs4 B w)(hv:KS tyC l fu v B):
  Ret zs5 201 [v] w B (KS tyC m true):=by
 subst hm;have hsl:=bw l;refine yr Tryz.func201 Z Tryz.ntmps201 (np Z) hB (k7 0 (KS tyC l fu) Z ns hv ((ZK∘Zh) ?_));refine z7 (wq L Z Z (zm Z) Z Z Z (fun u H hH _ _ v1 hv1=>Tp T hH hv1)) Z (qg (yu (.inr Z) Z) ((Zg∘Zv∘Zd) ?_));refine Ai 3 900 rfl (fun h0 hn=>?_) fun b cap rest hl hmc hcm hcl=>?_
 ·have hl0:l=[]:=zow h0;subst hl0;refine ZcE (h:=?_);refine z7 (xg (φ:=fun _ _=>True) L Z Z (zm Z) Z Z Z (fun _ _ _ _ _=>trivial) (fun u H hH _ _=>Sb hH)) Z (Zg (h:=?_));refine k7 3 (KS tyC [] false) Z ns SlV.nil ((Zt∘Zh) ?_);refine z7 (jt L (kl:=.i64) (pl:=0) 0 0 true Z Z Z Z Z Z ⟨rfl,rfl⟩ ⟨rfl,rfl⟩ E E Z) Z ((ZR∘ZaC∘Z1∘Zj∘ZaR) ?_);refine xp (fun _:Nat=>[(5,.sat (KS tyC [] true)),(15,.sat (KS tyC [] false)),(16,.is (.int .i64 0)),(17,.is (.int .i64 0))]) (fun _=>True) (fun s=>s) 0 trivial ⟨Z,Z,Z,Z,nm⟩ ?_;rintro s _;refine(Zd8∘Zak∘ZG∘Zh∘Zj∘Zj∘Zec∘ZR∘Zw) ?_;refine yj1 L [.tmp 2] fun u H hH hle=>?_;exact fun v hv=>hv
 ·refine ZcE (h:=?_);refine qg (xe L 900 (xc b ((stC l).flatMap ccs++rest) tyC) (r:=xc b (l.flatMap ccs++rest) tyC) Z Z Z Z Z (fun u H C hH _ hr hC=>(by have h:=Ux (cap:=cap) Z T hH hr hC;exact h))) ?_;refine Zg (h:=?_)
  refine f6 (xs:=(stC l).flatMap ccs) (rest:=rest) (s:=7) 3 900 rfl Z Z (by rw[Do,hsl]) hmc hcm (by
   rw[nr] at hcl |-;rw[Do] at hcl |-;rw[hsl];exact hcl) ?_
  rw[<-hsl];have hkn:=zcy l;have hkl:=Ly (stC l);rw[<-hkn];generalize stC l=S at *;refine gt 3 rfl ((Zt∘Zh) ?_);refine z7 (jt L (kl:=.i64) (pl:=0) 0 0 true Z Z Z Z Z Z ⟨rfl,rfl⟩ ⟨rfl,rfl⟩ T T Z) Z ((ZR∘ZaC∘Z1∘Zj∘ZaR) ?_);refine Hq 5 (SlV tyC 7 [] 0 true) Z ns (fun v H h=>h) (zna 5 rfl (xp (fun i:Nat×List CH=>[(3,.sat (KS tyC S false)),(4,.is Cw),(5,.own (SlG tyC 7 i.2.length (i.2.flatMap ccs))),(15,.sat (KS tyC S false)),(16,.is (.int .i64 S.length)),(17,.is (.int .i64 i.1))]) (fun i=>i.1<=S.length/\i.2.length<=i.1/\i.2++aj (S.drop i.1)=aj S) (fun i=>S.length-i.1) (0,[]) ⟨mb _,nu _,rfl⟩ ⟨Z,Z,Z,Z,Z,Z,nm⟩ ?_));rintro⟨i,kp⟩ ⟨h1,h2,h3⟩;dsimp only at h1 h2 h3 |-;by_cases hlt:i<S.length
  ·obtain⟨c,hc0⟩:=xm hlt;have hc:=Gx hc0;have hst:=Ta hc0;have a1:IntKind.i64.wrap ((i:Int)+1)=((i+1:Nat):Int):=xb T T;by_cases hlast:i+1<S.length
   ·obtain⟨d,hd0⟩:=xm hlast;have hd:=Gx hd0;rw[hd0] at hst;dsimp only at hst;by_cases heq:kw c.1 d.1=0
    ·rw[na heq,mj] at hst;refine(Zc9∘Z7∘Zaz∘ZdH∘ZE∘Zs∘ZaU∘Zg∘ZcY∘Zl∘Zct∘Zad∘ZeK∘ZcI∘Zp∘Zfa∘ZeB∘Zct∘Zd5) ?_;refine z8 (yn L (vs:=[_,_,_,_,_,_,_]) Z Z Z Z Z ⟨_,rfl⟩) Z (z81 L Z (fun u H hH _=>f8 hH) ?_);refine(Zfb∘Zam∘Zds∘Zb8∘Z4∘ZC∘ZcK) ?_;exact yo (x:=(i,kp)) (i+1,kp) ⟨hlt,by dsimp only;omega,by dsimp only;rw[<-hst];exact h3⟩ G ⟨Z,Z,Z,Z,Z,Z,trivial⟩
    ·rw[nc heq] at hst;refine(Zc9∘Z7∘Zaz∘ZdH∘ZE∘Zs∘ZaU∘Zg∘ZcY∘Zl∘Zct∘Zad∘ZeK∘ZcI∘Zp∘Zfa∘ZeB∘Zct∘Zd5) ?_;refine z8 (yn L (vs:=[_,_,_,_,_,_,_]) Z Z Z Z Z ⟨_,rfl⟩) Z (z81 L Z (fun u H hH _=>f8 hH) ?_);refine z8 (yx Z Z Z Z (nf T)) Z ((ZbC∘Z2) ?_);refine qg (yu (.inl Z) Z) ((Zcv∘ZaF) ?_);refine qg (Er L E Z Z Z (o6 Z) Z zlv Z Z T T) (qg (yu (.inr Z) Z) ((ZaA∘Z4∘ZC∘ZcK) ?_));exact yo (x:=(i,kp)) (i+1,kp++[c]) ⟨hlt,by dsimp only;rw[List.length_append,List.length_singleton];omega,by dsimp only;rw[List.append_assoc,<-hst];exact h3⟩ G ⟨Z,Z,by dsimp only;rw[List.flatMap_append,List.length_append];rfl,Z,Z,Z,trivial⟩
   ·have hend:i+1=S.length:=T;rw[zo1 T] at hst;dsimp only at hst;refine(Zc9∘Z7∘Zaz∘ZdH∘ZE∘Zs∘ZaU∘Zg∘ZcY∘Zl∘Zct∘Zad∘ZeK∘Zdv∘ZbM∘Zer∘ZbC∘Z2) ?_;refine qg (yu (.inl Z) Z) ((Zcv∘ZaF) ?_);refine qg (Er L E Z Z Z (o6 Z) Z zlv Z Z T T) (qg (yu (.inr Z) Z) ((ZaA∘Z4∘ZC∘ZcK) ?_));exact yo (x:=(i,kp)) (i+1,kp++[c]) ⟨hlt,by dsimp only;rw[List.length_append,List.length_singleton];omega,by dsimp only;rw[List.append_assoc,<-hst];exact h3⟩ G ⟨Z,Z,by dsimp only;rw[List.flatMap_append,List.length_append];rfl,Z,Z,Z,trivial⟩
  ·rw[zo4 T,show aj []=[] from rfl,mq] at h3;subst h3;refine zli 5 rfl ((Zd8∘Zak∘ZG∘Zh∘Zj∘Zj∘Zec∘ZR∘Zw) ?_);refine yj1 L [.tmp 2] fun u H hH hle=>?_;exact fun v hv=>hv
end Go.V.L8
namespace Go.V.L2
abbrev fWo:Bool->Bool->Bool:=fun _ b=>!b
attribute [local irreducible] V N X VO Par StepOK Has Ret RetL RetO Src
def zht(p q:Bool)(w:World)(B:Heap)(hB:zs4 B w):Ret zs5 251 [.bool p,.bool q] w B (fun v _=>v=.bool (fWo p q)):=by
 refine yr Tryz.func251 Z Tryz.ntmps251 (np Z) hB ((Zc2∘Zm∘Zc) ?_);exact yj2 L [.tmp 4]
def Am{m:List U}{fa:Bool}{r:List U×Int}(hr:zew fWo l m=r)(hB:zs4 B w)(hv:US l fa v B)(hv2:US m fb v2 B):Ret zs5 200 [v,v2] w B (LE r):=by
 refine yr Tryz.func200 Z Tryz.ntmps200 (np Z) hB (k7 0 (US l fa) Z ns hv (k7 1 (US m fb) Z ns hv2 ((ZbX∘ZaW∘Zh∘Zh) ?_)));refine z7 (xg (φ:=LE r) L Z Z (zm Z) Z Z Z LE.mono (fun u H hH _ _ v1 h1 v2 h2=>Lr Z zht hr hH h1 h2)) Z (z7 (af Z Z Z Z ns) Z ((ZcR∘ZR∘Zc) ?_));refine yj1 L [.tmp 4,.tmp 5] fun u H hH hle=>?_;exact fun v hv=>M3 hv
end Go.V.L2
namespace Go.V.L8
open Go.V.L2 Go.V.L3 Go.V.L6
def Dt(a b:List U):List CH:=(oo a b true false true).map fun t=>(t,decide (t∈a))
def zlw(a b:List U):List CH:=Dc ((fh kw fWo (a.length+b.length) a b).map (fun t=>(t,true))++(fh kw fWo (b.length+a.length) b a).map (fun t=>(t,false)))
def Xy(a b:List CH)(t:U):f0 (a++b) t=(f0 b t).or (f0 a t):=by
 induction a with
 | nil=>rw[mj,Xx];cases f0 b t<;>rfl
 | cons c r ih=>
  rw[zpd,fz,fz,ih];cases f0 b t<;>cases f0 r t<;>rfl
def Lw{l:List CH}(h:Mq l){t:U}:f0 l t=some c↔c∈l/\c.1=t:=by
 constructor
 ·exact fun h1=>⟨(pw h1).2,(pw h1).1⟩
 ·rintro⟨hc,rfl⟩
  obtain⟨d,hd⟩:∃ d,f0 l c.1=some d:=by
   cases hk:f0 l c.1 with
   | some d=>exact⟨d,rfl⟩
   | none=>exact ni rfl (bk.1 hk c hc)
  obtain⟨h1,h2⟩:=pw hd;rw[hd];have hp:=r5 h;obtain⟨i,hi⟩:=zpg hc;obtain⟨j,hj⟩:=zpg h2;obtain⟨hi',rfl⟩:=zp0.1 hi;obtain⟨hj',rfl⟩:=zp0.1 hj;have hp':=zqm.1 hp;rcases zr9 i j with g | g | g
  ·exact ni h1.symm (hp' i j hi' hj' g)
  ·subst g;rfl
  ·exact ni h1 (hp' j i hj' hi' g)
def Pv{b:List U}{t:U}:t∈oo a b true false true↔((t∈a/\t∉b)\/(t∉a/\t∈b)):=by
 unfold oo;rw[rf,zo3,mn];unfold dy;by_cases h1:t∈a<;>by_cases h2:t∈b<;>simp [h1,h2]
def Hj(a b:List U):Mq (Dt a b):=by
 unfold Mq Dt;rw[zq8];have:((fun x:CH=>x.1)∘fun t:U=>(t,decide (t∈a)))=id:=rfl;rw[this,zry];exact Kl _
def u4{b:List U}:c∈Dt a b↔((c.1∈a/\c.1∉b)\/(c.1∉a/\c.1∈b))/\c.2=decide (c.1∈a):=by
 unfold Dt;rw[zoz];constructor
 ·rintro⟨t,ht,rfl⟩;exact⟨Pv.1 ht,rfl⟩
 ·rintro⟨h1,h2⟩;exact⟨c.1,Pv.2 h1,Prod.ext rfl h2.symm⟩
def O9{b:List U}(ha:Sst kw a)(hb:Sst kw b){t:U}:t∈fh kw fWo (a.length+b.length) a b↔t∈a/\t∉b:=by
 rw[uz cmpT_ord fWo (nu _) ha hb];unfold Tk;by_cases h1:t∈a<;>by_cases h2:t∈b<;>simp [h1,h2]
def zia{a b:List U}(ha:Sst kw a)(hb:Sst kw b):zlw a b=Dt a b:=Xd (Ll _) (Hj a b) fun c=>by
 unfold zlw;rw[Lm,u4,Xy]
 have h1:f0 ((fh kw fWo (b.length+a.length) b a).map fun t=>(t,false)) c.1=if c.1∈b/\c.1∉a then some (c.1,false) else none:=by
  by_cases h:c.1∈b/\c.1∉a
  ·rw[na h]
   have hn:Mq ((fh kw fWo (b.length+a.length) b a).map fun t=>(t,false)):=by
    unfold Mq;rw[zq8];have:((fun x:CH=>x.1)∘fun t:U=>(t,false))=id:=rfl;rw[this,zry];exact d6 cmpT_ord fWo (nu _) hb ha
   exact(Lw hn).2 ⟨zoz.2 ⟨c.1,(O9 hb ha).2 h,rfl⟩,rfl⟩
  ·rw[nc h,bk];intro d hd e;obtain⟨t,ht,rfl⟩:=zoz.1 hd;exact h (e ▸ (O9 hb ha).1 ht)
 have h2:f0 ((fh kw fWo (a.length+b.length) a b).map fun t=>(t,true)) c.1=if c.1∈a/\c.1∉b then some (c.1,true) else none:=by
  by_cases h:c.1∈a/\c.1∉b
  ·rw[na h]
   have hn:Mq ((fh kw fWo (a.length+b.length) a b).map fun t=>(t,true)):=by
    unfold Mq;rw[zq8];have:((fun x:CH=>x.1)∘fun t:U=>(t,true))=id:=rfl;rw[this,zry];exact d6 cmpT_ord fWo (nu _) ha hb
   exact(Lw hn).2 ⟨zoz.2 ⟨c.1,(O9 ha hb).2 h,rfl⟩,rfl⟩
  ·rw[nc h,bk];intro d hd e;obtain⟨t,ht,rfl⟩:=zoz.1 hd;exact h (e ▸ (O9 ha hb).1 ht)
 rw[h1,h2];obtain⟨x,d⟩:=c;dsimp only;by_cases ha':x∈a<;>by_cases hb':x∈b<;>cases d<;>simp [ha',hb']
def Hk(a b:List U):(Dt a b).length<=a.length+b.length:=by
 unfold Dt oo;rw[m4];refine mp (Aq _) (mp (zpp _ _) ?_);rw[nr];exact nu _
attribute [local irreducible] V N X VO Par StepOK Has Ret RetL RetO RetT kz Src
def zeg(a b:List U):(fh kw fWo (a.length+b.length) a b).length<=a.length+b.length:=fw _ _ _ (nu _)
def Xh{b:List U}(la:a.length<=4096)(lb:b.length<=4096)(sa:Sst kw a)(sb:Sst kw b):zew fWo a b=(fh kw fWo (a.length+b.length) a b,0):=by
 unfold zew;have h1:isB a=true:=nf sa;have h2:isB b=true:=nf sb;rw[nc T,h1,h2,na E]
def Mg{b:List U}{m:List CH}(la:a.length<=4096)(lb:b.length<=4096)(sa:Sst kw a)(sb:Sst kw b)(hr:zlw a b=m){av bv:Value}(hB:zs4 B w)(ha:SetV a av B)(hb:SetV b bv B):
  Ret zs5 144 [av,bv] w B (KS tyC m true):=by
 subst hr;obtain⟨f1,p1,k1,q1,rfl,hp1⟩:=ha.shape;obtain⟨f2,p2,k2,q2,rfl,hp2⟩:=hb.shape;have w1:=Xh la lb sa sb;have w2:=Xh lb la sb sa;have l1:=zeg a b;have l2:=zeg b a;have hbp:zlw a b=Dc ((fh kw fWo (a.length+b.length) a b).map (fun t=>(t,true))++(fh kw fWo (b.length+a.length) b a).map (fun t=>(t,false))):=rfl;rw[hbp];generalize fh kw fWo (a.length+b.length) a b=zs2 at *;generalize fh kw fWo (b.length+a.length) b a=K at *;have mG:Kn.mono (.sat (US zs2 true)):=ns;have mK:Kn.mono (.sat (US K true)):=ns;refine yr Tryz.func144 Z Tryz.ntmps144 (np Z) hB ((Zal∘Zd∘ZcC∘ZdS) ?_);refine z8 (xg (φ:=US a true) L Z Z (zm Z) Z Z Z ns (fun u H hH hle _=>dl T hH (ha.le hle))) Z (ZdS (h:=?_));refine z8 (xg (φ:=US b true) L Z Z (zm Z) Z Z Z ns (fun u H hH hle _=>dl T hH (hb.le hle))) Z ((Zc6∘Zc6∘ZaV∘Zv∘Zh∘Zh) ?_);refine z7 (xg (φ:=LE (zs2,0)) L Z Z (zm Z) Z Z Z LE.mono (fun u H hH _ _ v1 h1 v2 h2=>Am w1 hH h1 h2)) Z ((Zh∘Zdp∘ZcR∘ZR∘Zd∘Z6∘Zh∘Zh) ?_);refine z7 (xg (φ:=LE (K,0)) L Z Z (zm Z) Z Z Z LE.mono (fun u H hH _ _ v1 h1 v2 h2=>Am w2 hH h1 h2)) Z ((Zh∘Zdp∘ZcR∘ZR∘Zd∘Zt∘Zk) ?_);refine ul 11 tyC 7 rfl ((Z1∘Zj∘ZaR) ?_);refine xp (fun i:Nat=>[(9,.sat (US K true)),(11,.own (SlR tyC 7 ((zs2.take i).map fun t=>((t,true):CH)).length (((zs2.take i).map fun t=>((t,true):CH)).flatMap ccs))),(32,.sat (US zs2 true)),(33,.is (.int .i64 zs2.length)),(34,.is (.int .i64 i))]) (fun i=>i<=zs2.length) (fun i=>zs2.length-i) 0 (mb _) ⟨Z,Z,Z,Z,Z,nm⟩ ?_;rintro i hi;have hli:((zs2.take i).map fun t=>((t,true):CH)).length<=8192:=by rw[m4,mi];omega
 by_cases hlt:i<zs2.length
 ·obtain⟨t,ht⟩:=xm hlt;have hct:=pg ht;have e1:((zs2.take (i+1)).map fun t=>((t,true):CH))=((zs2.take i).map fun t=>((t,true):CH))++[(t,true)]:=by rw[zpa,ht,zpb];rfl
  refine(Zc9∘Zy∘Zaz∘ZaE∘Za1∘Zw∘Zu) ?_;refine qg (yu (.inl Z) Z) ((Za3∘Zfw∘ZaF∘ZdI) ?_);refine qg (yu (.inr Z) Z) ((ZaA∘Z2∘ZB) ?_);exact yo (x:=i) (i+1) hlt T ⟨Z,by rw[e1];exact lh Z,Z,Z,Z,nm⟩
 ·obtain rfl:i=zs2.length:=by omega
  rw[zoy];have lG:(zs2.map fun t=>((t,true):CH)).length<=8192:=by rw[m4];omega
  refine(Zd8∘Zak∘Ze∘Z4∘Zj∘ZaR) ?_;refine xp (fun j:Nat=>[(11,.own (SlR tyC 7 ((zs2.map fun t=>((t,true):CH))++((K.take j).map fun t=>((t,false):CH))).length (((zs2.map fun t=>((t,true):CH))++((K.take j).map fun t=>((t,false):CH))).flatMap ccs))),(44,.sat (US K true)),(45,.is (.int .i64 K.length)),(46,.is (.int .i64 j))]) (fun j=>j<=K.length) (fun j=>K.length-j) 0 (mb _) ⟨by rw[zpt,zph,mq];rfl,Z,Z,Z,nm⟩ ?_;rintro j hj;have hlj:((zs2.map fun t=>((t,true):CH))++((K.take j).map fun t=>((t,false):CH))).length<=16384:=by rw[nr,m4,m4,mi];omega
  by_cases hjl:j<K.length
  ·obtain⟨t,ht⟩:=xm hjl;have hct:=pg ht;have e1:((zs2.map fun t=>((t,true):CH))++((K.take (j+1)).map fun t=>((t,false):CH)))=((zs2.map fun t=>((t,true):CH))++((K.take j).map fun t=>((t,false):CH)))++[(t,false)]:=by rw[zpa,ht,zpb,mw];rfl
   refine(Ze∘ZG∘Zat∘ZJ∘Zaz∘ZaE∘Za1∘Zw∘Zae) ?_;refine qg (yu (.inl Z) Z) ((Za3∘Zfw∘ZaF∘ZdI) ?_);refine qg (yu (.inr Z) Z) ((ZaA∘ZaD∘ZB) ?_);exact yo (x:=j) (j+1) hjl T ⟨by rw[e1];exact lh Z,Z,Z,Z,nm⟩
  ·obtain rfl:j=K.length:=by omega
   rw[zoy];rw[zoy] at hlj;refine gt 11 rfl ((Ze∘ZG∘Zak∘Zaa∘Zh) ?_);refine z7 (xg (φ:=KS tyC (Dc ((zs2.map fun t=>((t,true):CH))++(K.map fun t=>((t,false):CH)))) true) L Z Z (zm Z) Z Z Z ns (fun u H hH _ _ v1 h1=>Oh Z T hH h1)) Z ((ZR∘Zw) ?_);refine yj1 L [.tmp 4] fun u H hH hle=>?_;exact fun v hv=>hv
end Go.V.L8
namespace Go.V.L10
open Go.V.L2 Go.V.L8 Go.V.L6
def Po(S:Sto):oc fun(x:Nat×Value×Ent) (H:Heap)=>MapOK x.2.2 S.R/\EsV x.2.2 H/\PsV (xh S.P) x.2.1 H:=fun _ _ _ ⟨h1,h2,h3⟩ hle=>⟨h1,h2.le hle,h3.le hle⟩
abbrev StG(b:Nat)(S:Sto):GR:=GEx (fun x:Nat×Value×Ent=>StO b S.R.length x.1 x.2.1 S.P.length x.2.2) (fun x H=>MapOK x.2.2 S.R/\EsV x.2.2 H/\PsV (xh S.P) x.2.1 H) (Po S)
def Cc(b:Nat)(S:Sto):(StG b S).res=ExR (fun x:Nat×Value×Ent=>(StO b S.R.length x.1 x.2.1 S.P.length x.2.2).res) (fun x H=>MapOK x.2.2 S.R/\EsV x.2.2 H/\PsV (xh S.P) x.2.1 H) (Po S):=rfl
def fj(hm:MapOK es S.R)(hes:EsV es B)(hps:PsV (xh S.P) s B):∀ (v:Value) H u C,B.Le H->(StO b S.R.length m s S.P.length es).res.P v H u C->(StG b S).res.P v H u C:=fun _ _ _ _ hle h=>⟨(m,s,es),⟨hm,hes.le hle,hps.le hle⟩,h⟩
def EsV.snoc(h:EsV es H){k:Int}{t:List U}(hv:SetV t v H):EsV (es++[(k,(t,v))]) H:=fun e he=>by
 rcases mn.1 he with he | he
 ·exact h e he
 ·rw[m7.1 he];exact hv
def Py{P:Program}{f:FuncId}{r:GR}(h:RetY P f args w B C r (fun x _=>x=v)):RetX P f args w B C r v:=RetL.mono h fun _ _ _ _ hp=>hp
attribute [local irreducible] V N X VO Par StepOK Has Ret RetL RetO RetT kz RetX RetY Src
def Ed{S S':Sto}{l cs:List CH}{rev e:Int}{fl fc:Bool}(hI:znw S)(hR:S.R.length<=100000)(hn:S.R.length≠0)(zl:∀ c∈l,TM c.1)(zc:∀ c∈cs,TM c.1)(ll:l.length<=9223372036854775807)(lc:cs.length<=9223372036854775807)(hw:Bt S l cs=(S',rev,e)){lv cv:Value}(hB:zs4 B w)
  (hl:KS tyM l fl lv B) (hc:KS tyC cs fc cv B) (hr:(StG b S).P B w C) (hC:ZCB C w B):
  RetY zs5 82 [.pointer (some ⟨b,0,none⟩),lv,cv] w B C (StG b S') (fun v _=>v=.tuple #[.int .u64 rev,.int .i64 e]):=by
 unfold RetY;refine xf 900 (StG b S) Tryz.func82 Z Tryz.ntmps82 (np Z) hB hr hC (k7 1 (KS tyM l fl) Z ns hl (k7 2 (KS tyC cs fc) Z ns hc ?_));rw[Cc];refine uk 900 rfl fun x H hs0 hφ=>?_;obtain⟨m,s,es⟩:=x;obtain⟨hm,hes,hps⟩:=hφ;dsimp only at hm hes hps |-;obtain⟨ps,pc,rfl⟩:=jk hps;obtain⟨t0,ht0⟩:∃ t0,kpt S.R S.R.length=some t0:=zp1.1 hI.last;have hA:atS S 0=(t0,0):=by unfold atS;rw[if_pos rfl,ht0]
 have ht4:=hI.tl _ _ ht0;obtain⟨⟨t1,made,e1⟩,hwr⟩:∃ x,a9 t0 l cs=x:=⟨_,rfl⟩
 unfold Bt at hw;rw[hA,hwr] at hw;dsimp only at hw;refine(ZbX∘ZbA) ?_;refine ye (vj L 900 (WithP t0 0) (r:=StO b S.R.length m _ S.P.length es) rfl rfl rfl rfl rfl WithP.mono (fun u H2 C2 hH hle hr2 hC2=>by have h:=Ki (S:=S) (r:=0) hm hn (hes.le hle) hH hr2 hC2;rw[hA] at h;exact h)) ?_;refine vo 14 rfl fun v1 H1 hs1 hp1=>?_;obtain⟨sv,rfl,hsv⟩:=hp1;obtain⟨f1,p1,f2,p2,rfl,hpl⟩:=hsv.shape;refine(ZA∘ZE∘Zb7∘Zk∘Zz∘Zb4∘Zt∘Zbg∘Zh∘Zh) ?_;refine z7 (xg L rfl rfl (zm rfl) rfl rfl rfl WriteP.mono (fun u H2 hH hle _ v1 h1 v2 h2=>write_ret zl zc ll lc ht4 hwr hH (hsv.le hle) h1 h2)) rfl ?_;refine vo 24 rfl fun v3 H3 hs3 hp3=>?_;obtain⟨tv,mv,rfl,htv,hmv⟩:=hp3;obtain⟨f3,p3,f4,p4,rfl,hpl4⟩:=htv.shape;refine(ZA∘Zb9∘ZE∘Zb7∘ZcM) ?_;have hs13:=hs1.trans hs3;have hes3:=hes.le hs13.le;have hps3:=hps.le hs13.le;by_cases he:e1=0
 ·subst he;rw[na rfl] at hw;have hlen:=hm.len;have hkl:=hI.kl;rw[cq];refine Zew (h:=?_);by_cases hk:1024<=(jb S.R).length
  ·rw[na hk] at hw;cases hw;refine(ZS∘ZbZ∘Z7∘ZW) ?_;refine ye (N6 (q:=901) (vc:=vcE) mpS Z Z Z Z Z) ((ZN∘Zn∘Zu∘ZI) ?_);refine ZdD (h:=?_);exact vn 900 (StG b S).res Z (fj hm hes3 hps3) (ui L 900 (r:=StG b S) (rs:=[.tmp 6,.tmp 7]) Z (fun _ _ h=>h) (hs0.trans hs13) Z Z (fun H hle=>rfl))
  ·rw[nc hk] at hw;cases hw;have hadd:=hm.add t1 (.agg #[f3,.pointer p3,f4,.pointer p4]);have hwn:IntKind.u64.wrap ((S.R.length:Int)+1)=((S.R.length+1:Nat):Int):=wrap_u64 T T;have hln:(S.R++[some t1]).length=S.R.length+1:=by rw[nr];rfl
   refine(ZS∘ZbZ∘Z7∘ZW) ?_;refine ye (N6 (q:=901) (vc:=vcE) mpS Z Z Z Z Z) ((Zdz∘Zaq∘ZW∘ZC∘ZbK∘ZG∘Za∘ZW∘ZC∘Zap) ?_);refine xo (yl L (q:=900) (cs':=stc (S.R.length+1) m (.slice ps (xh S.P).length pc) S.P.length) Z Z Z Z Z) (Zg (h:=?_));refine qn (id:=12) [(200053,[900]),(200057,[900]),(100053,[901])] ko J ((Zbo∘Zbo∘Zcj) ?_);refine xq (Ep (q:=901) (vc:=vcE) ((S.R.length+1:Nat):Int) (t1,.agg #[f3,.pointer p3,f4,.pointer p4]) mpS kyS Z Z Z Z Z Z hadd.2) Z (ZaV (h:=?_));refine(Zae∘Za∘ZW∘ZI) ?_;refine ZdD (h:=?_);refine vn 900 (StG b ⟨S.R++[some t1],S.P⟩).res Z (fun v H u C hle h=>fj (S:=⟨S.R++[some t1],S.P⟩) (by have h2:=hadd.1;rw[hadd.2] at h2;exact h2) (hes3.snoc htv) hps3 v H u C hle (by dsimp only;rw[hln];exact h)) ?_;exact ui L 900 (r:=StG b ⟨S.R++[some t1],S.P⟩) (rs:=[.tmp 6,.tmp 7]) Z (fun _ _ h=>h) (hs0.trans hs13) Z Z (fun H hle=>rfl)
 ·rw[nc he] at hw;cases hw;refine(ZS∘Za0∘ZL∘ZI) ?_;exact vn 900 (StG b S).res Z (fj hm hes3 hps3) (ui L 900 (r:=StG b S) (rs:=[.tmp 6,.tmp 7]) Z (fun _ _ h=>h) (hs0.trans hs13) Z Z (fun H hle=>rfl))
def Nf{f:Nat}{P':List Int}(hn:S.R.length≠0)(hk:(kpt S.R r).isSome=true)(hfn:L.fn f=some ())(hf:∀ {s:Value} {u:World} {H:Heap},zs4 H u->PsV (xh S.P) s H->Ret zs5 f [pnv s S.P.length,.int .u64 r] u H (PinP P' e))(hB:zs4 B w)
  (hr:(StG b S).P B w C) (hC:ZCB C w B):
  RetY zs5 137 [.pointer (some ⟨b,0,none⟩),.int .u64 r,.func (.func f) #[] #[]] w B C (StG b (if e=0 then ⟨S.R,P'⟩ else S)) (fun v _=>v=.int .i64 e):=by
 unfold RetY;refine xf 900 (StG b S) Tryz.func137 Z Tryz.ntmps137 (np Z) hB hr hC ?_;rw[Cc];refine uk 900 rfl fun x H hs0 hφ=>?_;obtain⟨m,s,es⟩:=x;obtain⟨hm,hes,hps⟩:=hφ;dsimp only at hm hes hps |-;obtain⟨ps,pc,rfl⟩:=jk hps;rw[cq];refine Zew (h:=?_);have hg:=hm.get r
 obtain⟨⟨t0,sv⟩,hgk⟩:∃ x,ut r es=some x:=by
  rw[<-hg,zrz] at hk;exact zp1.1 hk
 have hsv:SetV t0 sv H:=hes _ (ai hgk);obtain⟨f1,p1,f2,p2,rfl,hpl⟩:=hsv.shape;have q1:(ut r es).elim nilSet vcE=.agg #[f1,.pointer p1,f2,.pointer p2]:=by rw[hgk];rfl
 have q2:(ut r es).isSome=true:=by rw[hgk];rfl
 refine Zck (h:=?_);refine ye (xy L 900 (Φ:=fun H=>H b=some (.cells (stc S.R.length m _ S.P.length).toArray tyS)) (c:=.bool false) rfl rfl (zm rfl) rfl rfl rfl rfl rfl Au (fun u H hH hle hb=>none_ret hn hb hH)) ((ZV∘Zr∘ZW∘Za) ?_);refine ye (gk (q:=901) (vc:=vcE) r mpS kyS zrS rfl rfl rfl rfl rfl q1 q2) ((ZA∘ZE∘Zb7∘Zd∘Z5∘Zm∘Zx∘ZbF∘Zap∘ZeV∘Za) ?_);refine z7 (xg (φ:=PinP P' e) L rfl rfl (zm rfl) rfl (cap:=[]) rfl hfn PinP.mono (fun u H2 hH hle _=>hf hH (hps.le hle))) rfl ?_;refine vo 31 rfl fun v1 H1 hs1 hp1=>?_;obtain⟨s2,rfl,hs2⟩:=hp1;obtain⟨p5,c5,rfl⟩:=jk hs2;refine(ZA∘Za1∘Zk) ?_;by_cases he:e=0
 ·subst he;rw[na rfl];refine(Z7∘ZN∘Z3∘ZaI∘ZcN∘Zap) ?_;refine xo (yl L (q:=900) (cs':=stc S.R.length m (.slice p5 (xh P').length c5) P'.length) Z Z Z Z Z) ((Zg∘Zaq∘Zc) ?_);refine ZdD (h:=?_);exact vn 900 (StG b ⟨S.R,P'⟩).res Z (fj (S:=⟨S.R,P'⟩) hm (hes.le hs1.le) hs2) (ui L 900 (r:=StG b ⟨S.R,P'⟩) (rs:=[.tmp 6]) Z (fun _ _ h=>h) (hs0.trans hs1) Z Z (fun H hle=>rfl))
 ·rw[nc he];refine(Z7∘ZbK∘Zaq∘Zc) ?_;refine ZdD (h:=?_);exact vn 900 (StG b S).res Z (fj hm (hes.le hs1.le) (hps.le hs1.le)) (ui L 900 (r:=StG b S) (rs:=[.tmp 6]) Z (fun _ _ h=>h) (hs0.trans hs1) Z Z (fun H hle=>rfl))
def Ks{fv:Value}(hn:S.R.length≠0)(hk:¬ (kpt S.R r).isSome=true)(hB:zs4 B w)
  (hr:(StG b S).P B w C) (hC:ZCB C w B):
  RetY zs5 137 [.pointer (some ⟨b,0,none⟩),.int .u64 r,fv] w B C (StG b S) (fun v _=>v=.int .i64 14):=by
 refine RetY.ex hr fun x hφ hr=>?_;obtain⟨m,s,es⟩:=x;obtain⟨hm,hes,hps⟩:=hφ;dsimp only at hm hes hps hr |-;unfold RetY;refine xf 900 (StO b S.R.length m s S.P.length es) Tryz.func137 Z Tryz.ntmps137 (np Z) hB hr hC ?_;rw[cq];refine Zew (h:=?_);have hg:=hm.get r
 have hgk:ut r es=none:=by
  rw[<-hg,zrz] at hk
  cases h:ut r es with
  | none=>rfl
  | some y=>rw[h] at hk;exact ni rfl hk
 have q1:(ut r es).elim nilSet vcE=nilSet:=by rw[hgk];rfl
 have q2:(ut r es).isSome=false:=by rw[hgk];rfl
 refine Zck (h:=?_);refine ye (xy L 900 (Φ:=fun H=>H b=some (.cells (stc S.R.length m _ S.P.length).toArray tyS)) (c:=.bool false) Z Z (zm Z) Z Z Z Z Z Au (fun u H hH hle hb=>none_ret hn hb hH)) ((ZV∘Zr∘ZW∘Za) ?_);refine ye (gk (q:=901) (vc:=vcE) r mpS kyS zrS Z Z Z Z Z q1 q2) ((ZA∘Za1∘Zd∘Z5∘Zm∘Zn∘Z1∘Zc) ?_);refine ZdD (h:=?_);exact ui L 900 (r:=StO b S.R.length m s S.P.length es) (rs:=[.tmp 6]) Z (fun _ _ h=>h) nq Z Z (fun H hle=>rfl)
def Uw{S S':Sto}{r e:Int}(hn:S.R.length≠0)(hz2:(xh S.P).length<=1000)(hz:S.P.length<=4095)(hpn:zgs S r false=(S',e))(hB:zs4 B w)(hr:(StG b S).P B w C)(hC:ZCB C w B):
  RetY zs5 83 [.pointer (some ⟨b,0,none⟩),.int .u64 r] w B C (StG b S') (fun v _=>v=.int .i64 e):=by
 unfold zgs at hpn;unfold RetY;refine xf 900 (StG b S) Tryz.func83 Z Tryz.ntmps83 (np Z) hB hr hC ?_;by_cases hk:(kpt S.R r).isSome=true
 ·rw[na hk] at hpn;rw[nc E] at hpn;cases hpn;have hr0:r≠0:=by have:=bl hk;omega
  refine(ZK∘Zb) ?_;refine qg (yk L 900 (StG b ⟨S.R,S.P++[r]⟩) (.int .i64 0) (r:=StG b S) Z Z Z Z Z (fun u H2 C2 hH hle hr2 hC2=>by have h:=Nf (P':=S.P++[r]) (e:=0) hn hk Z (fun hH hv=>zgr hr0 hz2 hz hH hv) hH hr2 hC2;rw[na Z] at h;exact Py h)) ?_;refine Zc (h:=?_);exact ui L 900 (r:=StG b ⟨S.R,S.P++[r]⟩) (rs:=[.tmp 4]) Z (fun _ _ h=>h) nq Z Z (fun H hle=>rfl)
 ·rw[nc hk] at hpn;cases hpn;refine(ZK∘Zb) ?_;refine ye (Lh L 900 (.int .i64 14) (r:=StG b S) Z Z Z Z Z (fun u H2 C2 hH hle hr2 hC2=>Ks hn hk hH hr2 hC2)) (Zc (h:=?_));exact ui L 900 (r:=StG b S) (rs:=[.tmp 4]) Z (fun _ _ h=>h) nq Z Z (fun H hle=>rfl)
def zbu(hn:S.R.length≠0)(hz:S.P.length<=1000)(hpn:zgs S r false=(S',e))(hB:zs4 B w)(hr:(StG b S).P B w C)(hC:ZCB C w B):
  RetY zs5 83 [.pointer (some ⟨b,0,none⟩),.int .u64 r] w B C (StG b S') (fun v _=>v=.int .i64 e):=
 Uw hn (by rw[vg];exact mp (pz _) hz) T hpn hB hr hC
def sc(h:List Int)(k:Nat):Int:=if k=0 then 0 else (h[k-1]?).getD 0
def i7{h:List Int}{k:Nat}(hx:h[k]?=some x):sc h (k+1)=x:=by
 unfold sc;rw[nc T,zsg,hx];rfl
def U9{a tv:Value}(h:φ tv H):TupS [φ,fun v _=>v=a] (.tuple #[tv,a]) H:=by
 refine⟨[tv,a],rfl,rfl,fun i φ' x hi hx=>?_⟩;rcases i with _ | _ | i
 ·cases hi;cases hx;exact h
 ·cases hi;cases hx;rfl
 ·cases hi
def Np{a:Value}(h:Kn.mono (.sat φ)):Kn.mono (.sat (TupS [φ,fun v _=>v=a])):=TupS.mono fun ψ hψ=>by
 simp only[ma,zqp,or_false] at hψ;rcases hψ with rfl | rfl
 ·exact h
 ·exact fun _ _ _ h _=>h
def ziu(es:Ent)(l:List Int):Ent:=l.foldl (fun e g=>S4 g e) es
def Yq{l:List Int}{g:Int}(h:l[i]?=some g):ziu es (l.take (i+1))=S4 g (ziu es (l.take i)):=by unfold ziu;rw[uo h,List.foldl_append];rfl
def MapOK.dels:∀ {l:List Int} {es:Ent} {R:List (Option (List U))},MapOK es R->(∀ g∈l,0<g)->MapOK (ziu es l) (Yw R l)
 | [],_,_,h,_=>h
 | g::l,_,_,h,hg=>MapOK.dels (l:=l) (h.del (hg g (mc ..))) fun x hx=>hg x (mh _ hx)
def EsV.dels:∀ {l:List Int} {es:Ent} {H:Heap},EsV es H->EsV (ziu es l) H
 | [],_,_,h=>h
 | g::l,_,_,h=>EsV.dels (l:=l) fun e he=>h e ((Gq g _).subset he)
def zc5{P0:List Int}{R:List (Option (List U))}{k:Nat}:∀ g∈az P0 (jb R) k,0<g:=fun g hg=>by
 unfold az at hg;have h1:=zrv (zo3.1 hg).1;exact(bl (vl.1 h1)).1
def vh:∀ v H u C,(StO b n m s t es).res.P v H u C->joinH H u C b=some (.cells (stc n m s t).toArray tyS):=by rw[cq];exact Xu
def zds:∀ v H u C,(StO b n m s t es).res.P v H u C->u.heap[b]?=some (.cells (stc n m s t).toArray tyS):=by rw[cq];exact zae
abbrev zls(g:List Int)(e:Int):Value->Heap->Prop:=TupS [RsV g true,fun v _=>v=.int .i64 e]
def Kr{keep:Int}(hn:S.R.length≠0)(hz:S.P.length<=100000)(hR:S.R.length<=100000)(hB:zs4 B w)(hr:(StG b S).P B w C)(hC:ZCB C w B):
  RetY zs5 84 [.pointer (some ⟨b,0,none⟩),.int .i64 keep] w B C (StG b (Ac S keep).1) (zls (Ac S keep).2.1 (Ac S keep).2.2):=by
 unfold RetY;refine xf 900 (StG b S) Tryz.func84 Z Tryz.ntmps84 (np Z) hB hr hC ?_;rw[Cc];refine uk 900 rfl fun x H hs0 hφ=>?_;obtain⟨m,s,es⟩:=x;obtain⟨hm,hes,hps⟩:=hφ;dsimp only at hm hes hps |-;obtain⟨ps,pc,rfl⟩:=jk hps;have hlen:=hm.len;have hkl:=Av S.R;by_cases hk1:keep<1
 ·have hS:Ac S keep=(S,[],4):=by unfold Ac;rw[if_neg T]
  rw[hS];refine(ZQ∘ZaY∘ZF∘Zbp) ?_;refine ye (xy L 900 (Φ:=fun H=>H b=some (.cells (stc S.R.length m (.slice ps (xh S.P).length pc) S.P.length).toArray tyS)) (c:=.bool false) Z Z (zm Z) Z Z Z Z Z vh (fun u H hH hle hb=>none_ret hn hb hH)) ((Zav∘Zr∘ZU∘ZcL∘Zi∘ZbE∘ZcV∘ZI) ?_);exact vn 900 (StG b S).res Z (fj hm hes hps) (ui L 900 (r:=StG b S) (rs:=[.tmp 4,.tmp 5]) Z (fun _ _ h=>h) hs0 Z Z (fun H hle=>U9 SlV.nil))
 ·by_cases hk2:1024<keep
  ·have hS:Ac S keep=(S,[],4):=by unfold Ac;rw[if_neg T]
   rw[hS];refine(ZQ∘ZaY∘ZF∘Zbp) ?_;refine ye (xy L 900 (Φ:=fun H=>H b=some (.cells (stc S.R.length m (.slice ps (xh S.P).length pc) S.P.length).toArray tyS)) (c:=.bool false) Z Z (zm Z) Z Z Z Z Z vh (fun u H hH hle hb=>none_ret hn hb hH)) ((Zav∘Zr∘Z0∘Zb∘ZP∘Zi∘ZbE∘ZcV∘ZI) ?_);exact vn 900 (StG b S).res Z (fj hm hes hps) (ui L 900 (r:=StG b S) (rs:=[.tmp 4,.tmp 5]) Z (fun _ _ h=>h) hs0 Z Z (fun H hle=>U9 SlV.nil))
  ·obtain⟨k,rfl⟩:∃ k:Nat,keep=(k:Int):=⟨keep.toNat,by omega⟩
   have hS:Ac S k=(⟨Yw S.R (az S.P (jb S.R) k),S.P⟩,az S.P (jb S.R) k,0):=by unfold Ac;rw[if_pos T];rfl
   rw[hS];have hgp:∀ x∈az S.P (jb S.R) k,0<x:=zc5
   have hgl:(az S.P (jb S.R) k).length<=100000:=by
    unfold az;refine mp (zpp ..) ?_;rw[mi];omega
   generalize hg:az S.P (jb S.R) k=g at hgp hgl;refine(ZQ∘ZaY∘ZF∘Zbp) ?_;refine ye (xy L 900 (Φ:=fun H=>H b=some (.cells (stc S.R.length m (.slice ps (xh S.P).length pc) S.P.length).toArray tyS)) (c:=.bool false) Z Z (zm Z) Z Z Z Z Z vh (fun u H hH hle hb=>none_ret hn hb hH)) ((Zav∘Zr∘Z0∘Zb∘ZM∘Zi∘Zs∘Zac∘Zaw∘Zbh) ?_);refine qn (id:=5) [(200022,[900]),(200024,[900])] ko J (ZaN (h:=?_));refine qv (Vx L (q:=900) (vs:=[_,_]) Z Z zds Z Z Z Z ⟨_,rfl⟩) Z Z (Zl (h:=?_));refine qv (vj L 900 (RsV (jb S.R) true) (r:=StO b S.R.length m _ S.P.length es) Z Z Z Z Z ns (fun u H2 C2 hH hle hr2 hC2=>(i8 hm hn T hH hr2 hC2).pubY ci)) Z Z (Zl (h:=?_));refine z8 (xg (φ:=RsV g true) L Z Z (zm Z) Z Z Z ns (fun u H2 hH hle _ v1 h1=>by rw[<-hg];exact zc4 hz T T hH (hps.le hle) h1)) Z ?_;refine(Zc6∘ZaV∘Ze) ?_;rw[cq];refine Zew (h:=?_);refine(ZO∘Zj∘ZaR) ?_
   refine xp (fun y:Nat×Ent=>[(0,.is (.pointer (some ⟨b,0,none⟩))),(6,.sat (RsV g true)),(27,.sat (RsV g true)),(28,.is (.int .i64 g.length)),(29,.is (.int .i64 y.1)),(900,.own (xu b (stc S.R.length m (.slice ps (xh S.P).length pc) S.P.length) tyS)),(901,.own (Dz m .u64 vcE y.2))])
    (fun y=>y.1<=g.length/\y.2=ziu es (g.take y.1)) (fun y=>g.length-y.1) (0,es) ⟨mb _,rfl⟩ ⟨rfl,rfl,rfl,rfl,rfl,rfl,rfl,nm⟩ ?_
   rintro⟨i,ec⟩ ⟨hi,hec⟩;dsimp only at hi hec |-;by_cases hlt:i<g.length
   ·obtain⟨x,hx⟩:=xm hlt;have hc:=K6 hx;have hnx:=Yq (es:=es) hx;have hwk:IntKind.i64.wrap ((i:Int)+1)=((i+1:Nat):Int):=xb T T;refine(Ze∘Zy∘Zat∘Zu∘Zaz∘Zdf∘Zc∘Zaq∘ZW∘Za) ?_;refine xo (Ss (q:=901) (vc:=vcE) x mpS kyS Z Z Z Z Z) ((ZaA∘Z4∘ZC∘ZcK) ?_);exact yo (x:=(i,ec)) (i+1,S4 x ec) ⟨hlt,by rw[hnx,hec]⟩ G ⟨Z,Z,Z,Z,Z,Z,Z,nm⟩
   ·obtain rfl:i=g.length:=by omega
    rw[zoy] at hec;subst hec;refine(Ze∘Zy∘Zak∘ZG∘Zh∘ZR∘Zc) ?_;refine ZdD (h:=?_);refine vn 900 (StG b ⟨Yw S.R g,S.P⟩).res Z (fun v H u C hle h=>fj (S:=⟨Yw S.R g,S.P⟩) (hm.dels hgp) hes.dels hps v H u C hle (by dsimp only;rw[ak];exact h)) ?_;exact ui L 900 (r:=StG b ⟨Yw S.R g,S.P⟩) (rs:=[.tmp 4,.tmp 5]) Z (fun _ _ h=>h) hs0 Z Z (fun H hle=>fun v hv=>U9 hv)
abbrev eu(b:Nat):Value:=.pointer (some ⟨b,0,none⟩)
abbrev znc(S:Sto):Res:=Ht eu fun b=>StG b S
def Xn{Y:Type}:MapOK ([]:List (Int×(List U×Y))) []:=⟨zqg,fun r=>by
 cases h:kpt ([]:List (Option (List U))) r with
 | none=>rfl
 | some t=>have:=bl (R:=[]) (r:=r) (by rw[h];rfl);simp at this;omega⟩
def Xo:MapOK [((1:Int),(([]:List U),nilSet))] newS.R:=by
 have h:=(Xn (Y:=Value)).add [] nilSet;have h2:=h.1;rw[h.2] at h2;exact h2
def zcm{Y:Type}{k:Int}{y:Y}{l:List (Int×Y)}(h:k∉l.map Prod.fst):Oc k y l=l++[(k,y)]:=by
 refine r9 (i:=0) ?_;have h1:¬ (ut k l).isSome=true:=fun hs=>h (pq.1 hs);unfold ut at h1
 cases hm:pt k l 0 with
 | none=>rfl
 | some q=>rw[hm] at h1;exact ni rfl h1
def zby(hB:zs4 B w):RetO zs5 81 [] w B (znc newS):=by
 refine wz Tryz.func81 Z Tryz.ntmps81 (np Z) hB (ZK (h:=?_));refine z7 (N5 (hint:=none) .u64 vcE Z Z) Z ?_;refine T8 1 901 rfl fun m=>?_;refine ZdB (h:=?_);refine xo (Sn (q:=901) (vc:=vcE) 1 ([],nilSet) mpS kyS Z Z Z Z Z Z Z) (Za (h:=?_));refine z7 (yv (cs:=[_,_,_,_]) Z Z zjx Z Z) Z (Zeq (h:=?_));refine qg (yu (.inr Z) Z) (Zw (h:=?_));refine jd 0 900 rfl fun b=>?_;refine wc 900 901 rfl Z (xi (zl3 m .u64 vcE [((1:Int),(([]:List U),nilSet))])) ?_;refine vn 900 (StG b newS).res Z (fun v H u C hle h=>fj (S:=newS) (s:=.slice none 0 0) (m:=m) (B:=B) Xo (fun e he=>by rw[m7.1 he];exact SetV.nil) SlV.nil v H u C hle h) ?_;exact zeb 0 900 eu (fun b=>StG b newS) b Z Z (lf Z (fun _ _ h=>h) nq Z)
end Go.V.L10
namespace Go.V.L10
open Go.V Go.V.L2 Go.V.L8 Go.V.L6
abbrev SB:=List U×(Value×Option Addr×Value×Option Addr)
abbrev sbv(b:SB):Value:=.agg #[b.2.1,.pointer b.2.2.1,b.2.2.2.1,.pointer b.2.2.2.2]
def sbc(b:SB):List Value:=[b.2.1,.pointer b.2.2.1,b.2.2.2.1,.pointer b.2.2.2.2]
def zgg(b:SB):(sbc b).length=4:=rfl
abbrev zot(z:Int×SB):Int×(List U×Value):=(z.1,(z.2.1,sbv z.2))
def zsE(zs:List (Int×SB)):Ent:=zs.map zot
def SbOK(bs:List SB)(H:Heap):Prop:=∀ b∈bs,SetV b.1 (sbv b) H
def SbOK.le{bs:List SB}{H H':Heap}(h:SbOK bs H)(hle:H.Le H'):SbOK bs H':=fun b hb=>(h b hb).le hle
def SbOK.mem_plain{bs:List SB}(h:SbOK bs H)(b:SB)(hb:b∈bs):(sbc b).all gj=true:=by
 obtain⟨f1,p1,f2,p2,hv,hp⟩:=(h b hb).shape;unfold sbv at hv;cases hv;exact hp
abbrev SsV(bs:List SB)(fu:Bool):Value->Heap->Prop:=SlV tySt 4 (bs.flatMap sbc) bs.length fu
def zmd{bs:List SB}{b:SB}(h:bs[i]?=some b):((bs.flatMap sbc).drop (i*4)).take 4=[b.2.1,.pointer b.2.2.1,b.2.2.2.1,.pointer b.2.2.2.2]:=f5 zgg bs i b h
def za4(rs:List Int):Prop:=(0::rs).Pairwise (·<·)
instance (rs:List Int):Decidable (za4 rs):=inferInstanceAs (Decidable ((0::rs).Pairwise (·<·)))
def zd3{rs:List Int}(h:za4 rs)(hx:rs[i]?=some x):sc rs i<x:=by
 have h2:=mo.1 h
 cases i with
 | zero=>exact h2.1 x (zo7 hx)
 | succ i=>
  obtain⟨y,hy⟩:=xm (show i<rs.length by have:=get_lt hx;omega);rw[i7 hy];have h3:=zqm.1 h2.2 i (i+1) (get_lt hy) (get_lt hx) (zrw i)
  rwa [p9 hy,p9 hx] at h3
def zd2{rs:List Int}{i:Nat}(h:za4 (rs.take i))(hle:∀ a∈0::rs.take i,a<=sc rs i)(hx:rs[i]?=some x)(hlt:sc rs i<x):za4 (rs.take (i+1))/\∀ a∈0::rs.take (i+1),a<=sc rs (i+1):=by
 rw[uo hx,i7 hx];constructor
 ·unfold za4 at h |-;rw[<-zpd,zpq];refine⟨h,zqk _ _,fun a ha b hb=>?_⟩;rw[m7.1 hb];have:=hle a ha;omega
 ·intro a ha;rw[<-zpd,mn,m7] at ha;rcases ha with ha | rfl
  ·have:=hle a ha;omega
  ·omega
def mkE(rs L0:List Int):Int:=if rs.length=0 then 1 else if 1024<rs.length then 3 else if za4 rs then (if ∀ h∈k8 L0,h∈rs then 0 else 14) else 18
def MkR(e:Int)(S:Sto):Res where
 P v H u C:=(e=0/\∃ b,v=.tuple #[eu b,.int .i64 0]/\(StG b S).P H u C)\/(e≠0/\v=.tuple #[.pointer none,.int .i64 e]/\∀ k,¬ C k)
 st:=fun h a b c d=>h.imp (fun⟨h1,x,h2,h3⟩=>⟨h1,x,h2,(StG x S).st h3 a b c d⟩) id
def zkf{f:FuncId}(h:RetO zs5 f args w B (MkR 0 S)):RetO zs5 f args w B (Ht (fun b=>.tuple #[eu b,.int .i64 0]) fun b=>StG b S):=
 RetL.mono h fun _ _ _ _ ⟨C,h1,h2⟩=>⟨C,h1.elim (fun⟨_,b,hb,hs⟩=>⟨b,hb,hs⟩) fun h=>ni rfl h.1,h2⟩
attribute [local irreducible] V N X VO Par StepOK Has Ret RetL RetO RetT kz RetX RetY Src
end Go.V.L10
section
open Go.V
attribute [local irreducible] Has N Par Ret RetL RetO RetT RetX RetY Src StepOK V VO X kz
namespace Go.V.L10
open Go.V.L2 Go.V.L8 Go.V.L6
def _root_.Zf3(t:Wr Y->A:=by intro h;refine qn (id:=2) [(200009,[900]),(200011,[901]),(200016,[901]),(200022,[900]),(200024,[901])] ko J ?_;exact h.1)(h:Y):A:=t ⟨h⟩
def zop{p:α->Bool}{l:List α}{x:α}(h:l[i]?=some x)(hx:p x=true)(hb:∀ (j:Nat) y,j<i->l[j]?=some y->p y=false):l.findIdx? p=some i:=by
 rw[List.findIdx?_eq_some_iff_getElem];have hi:i<l.length:=get_lt h;rw[zpe hi] at h;cases h;exact⟨hi,hx,fun j hj=>by simp [hb j _ hj (zpe T)]⟩
def zoo{p:α->Bool}{l:List α}(hb:∀ (j:Nat) y,l[j]?=some y->p y=false):l.findIdx? p=none:=by
 rw[List.findIdx?_eq_none_iff];intro x hx;obtain⟨j,hj⟩:=zpg hx;exact hb j x hj
def zmz:Option Nat->Int
 | some i=>i
 | none=> -1
def zc2{p:α->Bool}{l:List α}:decide (0<=zmz (l.findIdx? p))=l.any p:=by
 cases hf:l.findIdx? p with
 | none=>
  rw[List.findIdx?_eq_none_iff] at hf;have:l.any p=false:=List.any_eq_false.2 fun x hx=>by simpa using hf x hx
  rw[this];rfl
 | some i=>
  rw[List.findIdx?_eq_some_iff_getElem] at hf;obtain⟨hi,hx,_⟩:=hf;rw[zrs.2 ⟨_,List.getElem_mem hi,hx⟩];exact nf (Int.natCast_nonneg _)
def StV(a n m:Nat)(s:Value)(t:Nat)(es:Ent)(H:Heap):Prop:=H a=some (.cells (stc n m s t).toArray tyS)/\MapVis m .u64 vcE es H
def StV.le{a n m t:Nat}{s:Value}{es:Ent}{H H':Heap}(h:StV a n m s t es H)(hle:H.Le H'):StV a n m s t es H':=⟨hle _ _ h.1,h.2.le hle⟩
def zeo{u:World}{D:Nat->Prop}(h:(StO b n m s t es).res.P v H u C)(hD:∀ k,C k->D k):StV b n m s t es (joinH H u D):=by
 rw[cq] at h;obtain⟨C1,C2,⟨hb,hC1⟩,⟨⟨ar,ck,hm,he,_⟩,hC2⟩,h3,_⟩:=h;exact⟨(cm (hD _ ((h3 _).2 (.inl ((hC1 _).2 rfl))))).trans hb,ar,ck,(cm (hD _ ((h3 _).2 (.inr ((hC2 _).2 rfl))))).trans hm,he⟩
def zf5{b' n' m' t':Nat}{s':Value}{es':Ent}:∀ v H u C,(im (StO b n m s t es).res (StO b' n' m' s' t' es').res).P v H u C->StV b n m s t es (joinH H u C)/\StV b' n' m' s' t' es' (joinH H u C):=
 fun _ _ _ _ ⟨_,_,h1,h2,h3,_⟩=>⟨zeo h1 fun k hk=>(h3 k).2 (.inl hk),zeo h2 fun k hk=>(h3 k).2 (.inr hk)⟩
def Ci(A B:Sto):Bool:=decide (A.R=B.R) && decide (xh A.P=xh B.P)
def zf6{A B:List (Option (List U))}(hl:A.length=B.length)(h:∀ r∈jb A,kpt A r=kpt B r)(hk:jb A=jb B):A=B:=by
 apply zsa;intro i;rcases m5 i A.length with hi | hi
 ·have h1:kpt A ((i+1:Nat):Int)=kpt B ((i+1:Nat):Int):=by
   by_cases hm:((i+1:Nat):Int)∈jb A
   ·exact h _ hm
   ·have hm2:((i+1:Nat):Int)∉jb B:=hk ▸ hm;rw[vl] at hm hm2
    cases ha:kpt A ((i+1:Nat):Int) with
    | some x=>rw[ha] at hm;exact ni rfl hm
    | none=>
     cases hb:kpt B ((i+1:Nat):Int) with
     | some x=>rw[hb] at hm2;exact ni rfl hm2
     | none=>rfl
  rw[o3,o3,zpe hi,zpe T] at h1;rw[zpe hi,zpe T];exact nh some h1
 ·rw[zo1 hi,zo1 T]
def t9{a b:List Int}{f:Bool}{fa:Bool}(hf:decide (a=b)=f)(ha:a.length<=100000){v1:Value}(hB:zs4 B w)(h1:RsV a fa v1 B)(h2:RsV b fb v2 B):
  Ret zs5 157 [v1,v2] w B (fun v _=>v=.bool f):=by
 subst hf;refine yr Tryz.func157 Z Tryz.ntmps157 (np Z) hB (k7 0 (RsV a fa) Z ns h1 (k7 1 (RsV b fb) Z ns h2 ?_));by_cases hl:a.length=b.length
 ·refine(ZQ∘ZH∘Zj∘Zj∘ZbZ∘Z6∘Zj∘ZaR) ?_;refine xp (fun i:Nat=>[(0,.sat (RsV a fa)),(1,.sat (RsV b fb)),(12,.is (.int .i64 a.length)),(13,.is (.int .i64 i))]) (fun i=>i<=a.length/\a.take i=b.take i) (fun i=>a.length-i) 0 ⟨mb _,rfl⟩ ⟨Z,Z,Z,Z,nm⟩ ?_;rintro i ⟨hi,ht⟩;by_cases hlt:i<a.length
  ·obtain⟨x,hx⟩:=xm hlt;obtain⟨y,hy⟩:=xm (show i<b.length by omega);have hc1:=K6 hx;have hc2:=K6 hy;have hwk:IntKind.i64.wrap ((i:Int)+1)=((i+1:Nat):Int):=xb T T;by_cases hxy:x=y
   ·refine(ZbU∘ZS∘Zd∘ZcG∘ZeC∘ZdK∘ZeC∘ZdK∘Zfb∘ZaL∘Zds∘Zb8∘Zu∘ZC∘ZcK) ?_;exact yo (x:=i) (i+1) ⟨hlt,by rw[uo hx,uo hy,ht,hxy]⟩ T ⟨Z,Z,Z,Z,nm⟩
   ·rw[ng (zle hx hy hxy)];refine(ZbU∘ZS∘Zd∘ZcG∘ZeC∘ZdK∘ZeC∘ZdK) ?_;refine z8 (yx Z Z Z Z (nf T)) Z ((ZbW∘Ze∘Zy∘Zc) ?_);exact yj2 L [.tmp 4]
  ·obtain rfl:i=a.length:=by omega
   have hab:a=b:=by rw[zoy,hl,zoy] at ht;exact ht
   rw[nf hab];refine(ZcV∘Zak∘Z2∘Zc) ?_;exact yj2 L [.tmp 4]
 ·rw[ng (ze0 hl)];refine(ZQ∘ZH∘Zj∘Zj∘Za0∘Zv∘Zc) ?_;exact yj2 L [.tmp 4]
def Qo{l:List Int}{p:Int->Bool}{f:Nat}(hfn:L.fn f=some ())(hlm:l.length<=100000)(hf:∀ r∈l,∀ (u:World) (H:Heap),B.Le H->zs4 H u->Ret zs5 f ([.int .u64 r]++cap) u H (fun x _=>x=.bool (p r)))(hv:RsV l fu v B)(hB:zs4 B w):
  Ret zs5 214 [v,.func (.func f) #[] cap.toArray] w B (fun r _=>r=.int .i64 (zmz (l.findIdx? p))):=by
 refine yr Tryz.func214 Z Tryz.ntmps214 (np Z) hB (k7 0 (RsV l fu) Z ns hv ((ZQ∘ZH∘Zj∘ZaR) ?_));refine xp (fun i:Nat=>[(0,.sat (RsV l fu)),(1,.is (.func (.func f) #[] cap.toArray)),(7,.is (.int .i64 l.length)),(8,.is (.int .i64 i))]) (fun i=>i<=l.length/\∀ (j:Nat) y,j<i->l[j]?=some y->p y=false) (fun i=>l.length-i) 0 ⟨mb _,fun j _ h=>ni h (Nat.not_lt_zero _)⟩ ⟨Z,Z,Z,Z,nm⟩ ?_;rintro i ⟨h1,h2⟩;by_cases hlt:i<l.length
 ·obtain⟨x,hx⟩:=xm hlt;have hc:=K6 hx;have hmx:=zo7 hx;have hwk:IntKind.i64.wrap ((i:Int)+1)=((i+1:Nat):Int):=xb T T
  cases hb:p x with
  | true=>
   rw[zop hx hb h2];refine(Ze∘Zv∘Zat∘Zr∘Zd∘Z5∘Zh∘Zb6∘Zdf) ?_;refine z7 (qb (cap:=cap) L Z Z (zm Z) Z Z hfn (fun u H hH hle _=>hb ▸ hf x hmx u H hle hH)) Z ((Zn∘ZS∘Zc) ?_);exact yj2 L [.tmp 4]
  | false=>
   refine(Ze∘Zv∘Zat∘Zr∘Zd∘Z5∘Zh∘Zb6∘Zdf) ?_;refine z7 (qb (cap:=cap) L Z Z (zm Z) Z Z hfn (fun u H hH hle _=>hb ▸ hf x hmx u H hle hH)) Z ((Zbl∘ZO∘ZC∘ZcK) ?_)
   exact yo (x:=i) (i+1) ⟨hlt,fun j y hj hy=>by
    rcases m5 j i with h | h
    ·exact h2 j y h hy
    ·have:j=i:=T;subst this;rw[hx] at hy;cases hy;exact hb⟩ T ⟨rfl,rfl,rfl,rfl,nm⟩
 ·rw[zoo (fun j y hy=>h2 j y (by have:=get_lt hy;omega) hy)];refine(Ze∘Zv∘Zak∘Zy∘Zc) ?_;exact yj2 L [.tmp 4]
def Yt{l:List Int}{p:Int->Bool}{f:Nat}{b:Bool}(hb:l.any p=b)(hfn:L.fn f=some ())(hlm:l.length<=100000)(hf:∀ r∈l,∀ (u:World) (H:Heap),B.Le H->zs4 H u->Ret zs5 f ([.int .u64 r]++cap) u H (fun x _=>x=.bool (p r)))(hv:RsV l fu v B)(hB:zs4 B w):
  Ret zs5 159 [v,.func (.func f) #[] cap.toArray] w B (fun r _=>r=.bool b):=by
 rw[<-zc2] at hb;generalize hJ:zmz (l.findIdx? p)=zsy at *;subst hb;refine yr Tryz.func159 Z Tryz.ntmps159 (np Z) hB ?_;by_cases h0:0<=zsy
 ·rw[nf h0];refine(ZK∘Zb) ?_;refine z71 L Z (fun u H hH hle=>hJ ▸ Qo hfn hlm (fun r hr u2 H2 hle2 hH2=>hf r hr u2 H2 (hle.trans hle2) hH2) (hv.le hle) hH) ?_;refine(Zbz∘Zc) ?_;exact yj2 L [.tmp 4]
 ·rw[ng h0];refine(ZK∘Zb) ?_;refine z71 L Z (fun u H hH hle=>hJ ▸ Qo hfn hlm (fun r hr u2 H2 hle2 hH2=>hf r hr u2 H2 (hle.trans hle2) hH2) (hv.le hle) hH) ?_;refine(Za6∘Zc) ?_;exact yj2 L [.tmp 4]
abbrev tyPS:TypeId:=147
def R7{a n1 n2 m1 m2 t1 t2 c1 c2:Nat}{s1 s2:Value}{ea eb:Ent}{la lb:List U}{va vb:Value}(ga:ut r ea=some (la,va))(gb:ut r eb=some (lb,vb))(hla:la.length<=100000)(hlb:lb.length<=100000)(hB:zs4 B w)
  (h1:B c1=some (.cells #[eu a] tyPS)) (h2:B c2=some (.cells #[eu b] tyPS)) (ha:StV a n1 m1 s1 t1 ea B) (hb:StV b n2 m2 s2 t2 eb B) (hsa:SetV la va B) (hsb:SetV lb vb B):
  Ret zs5 160 [.int .u64 r,eu c1,eu c2] w B (fun v _=>v=.bool (!decide (la=lb))):=by
 obtain⟨f1,p1,k1,x1,rfl,hp1⟩:=hsa.shape;obtain⟨f2,p2,k2,x2,rfl,hp2⟩:=hsb.shape;have hla1:=ha.1;have hlb1:=hb.1;have q1:(ut r ea).elim nilSet vcE=.agg #[f1,.pointer p1,k1,.pointer x1]:=nh (fun o=>Option.elim o nilSet vcE) ga;have q2:(ut r eb).elim nilSet vcE=.agg #[f2,.pointer p2,k2,.pointer x2]:=nh (fun o=>Option.elim o nilSet vcE) gb;refine yr Tryz.func160 Z Tryz.ntmps160 (np Z) hB ((ZQ∘Zd∘ZcC∘Z9∘Zca∘Z9∘Zl) ?_);refine z8 (Cz r mpS kyS zrS ha.2 Z Z Z Z q1) Z ((Z9∘Zca∘Z9∘Zl) ?_);refine z8 (Cz r mpS kyS zrS hb.2 Z Z Z Z q2) Z (z81 L Z (fun u H hH hle=>Uu hla hlb Z hH (hsa.le hle) (hsb.le hle)) ?_);refine(ZaG∘ZaS) ?_;exact yj2 L [.tmp 4]
def R5{A D:Sto}{a b:Nat}(hna:A.R.length≠0)(hnb:D.R.length≠0)(ka:(jb A.R).length<=100000)(kb:(jb D.R).length<=100000)(za:A.P.length<=100000)(zb:D.P.length<=100000)(ta:∀ r t,kpt A.R r=some t->t.length<=100000)(tb:∀ r t,kpt D.R r=some t->t.length<=100000)
     (hB:zs4 B w) (hr:(gu (StG a A) (StG b D)).P B w C) (hC:ZCB C w B):
  RetY zs5 87 [eu a,eu b] w B C (gu (StG a A) (StG b D)) (fun v _=>v=.bool (Ci A D)):=by
 unfold RetY;refine xf 900 (gu (StG a A) (StG b D)) Tryz.func87 Z Tryz.ntmps87 (np Z) hB hr hC ?_;rw[w9];refine Zew (h:=?_);rw[Cc,Cc];refine uk 900 rfl fun x H hs0 hφ=>?_;refine uk 901 rfl fun y H' hs1 hφ'=>?_;obtain⟨m1,s1,e1⟩:=x;obtain⟨hm1,he1,hp1⟩:=hφ;obtain⟨m2,s2,e2⟩:=y;obtain⟨hm2,he2,hp2⟩:=hφ';dsimp only at hm1 he1 hp1 hm2 he2 hp2 |-;have hs01:=hs0.trans hs1;replace he1:=he1.le hs1.le;replace hp1:=hp1.le hs1.le;obtain⟨q1,c1,rfl⟩:=jk hp1;obtain⟨q2,c2,rfl⟩:=jk hp2;have hl1:=hm1.len;have hl2:=hm2.len;refine ZD (h:=?_);refine vo 2 rfl fun v1 H1 hs2 hv1=>?_;obtain⟨d1,rfl,hd1⟩:=hv1;refine Zdk (h:=?_);refine vo 3 rfl fun v2 H2 hs3 hv2=>?_;obtain⟨d2,rfl,hd2⟩:=hv2;refine Zd (h:=?_);replace hd1:=hs3.le _ _ hd1;have hs23:=hs2.trans hs3;replace he1:=he1.le hs23.le;replace hp1:=hp1.le hs23.le;replace he2:=he2.le hs23.le;replace hp2:=hp2.le hs23.le;have hsf:=hs01.trans hs23;refine(Zan∘Zcr) ?_;refine ye (vj L 900 (RsV (jb A.R) true) (r:=StO a A.R.length m1 (.slice q1 (xh A.P).length c1) A.P.length e1) Z Z Z Z Z ns (fun u H2 C2 hH hle hr2 hC2=>(i8 hm1 hna T hH hr2 hC2).pubY ci)) ((ZR∘ZaC) ?_);by_cases hN:A.R.length=D.R.length
 ·by_cases hK:jb A.R=jb D.R
  ·by_cases hP:xh A.P=xh D.P
   ·have hS:Ci A D=decide (A.R=D.R):=by unfold Ci;rw[decide_eq_true hP,Bool.and_true]
    have hany:(jb A.R).any (fun r=>!decide (kpt A.R r=kpt D.R r))=!decide (A.R=D.R):=by
     by_cases h:A.R=D.R
     ·rw[nf h,h];simp
     ·rw[ng h]
      cases hh:(jb A.R).any (fun r=>!decide (kpt A.R r=kpt D.R r)) with
      | true=>rfl
      | false=>exact ni (zf6 hN (fun r hr=>by have:=List.any_eq_false.1 hh r hr;simpa using this) hK) h
    have hent1:∀ r∈jb A.R,∃ t v,kpt A.R r=some t/\ut r e1=some (t,v)/\SetV t v _:=fun r hr=>by
     have h1:=vl.1 hr;rw[<-hm1.get r,zrz] at h1;obtain⟨⟨t,v⟩,h2⟩:=zp1.1 h1;exact⟨t,v,by rw[<-hm1.get r,h2];rfl,h2,he1 _ (ai h2)⟩
    have hent2:∀ r∈jb A.R,∃ t v,kpt D.R r=some t/\ut r e2=some (t,v)/\SetV t v _:=fun r hr=>by
     have h1:=vl.1 (hK ▸ hr);rw[<-hm2.get r,zrz] at h1;obtain⟨⟨t,v⟩,h2⟩:=zp1.1 h1;exact⟨t,v,by rw[<-hm2.get r,h2];rfl,h2,he2 _ (ai h2)⟩
    refine(Zf3∘Z9) ?_;refine qv (xy L 900 (Φ:=fun H=>H a=some (.cells (stc A.R.length m1 (.slice q1 (xh A.P).length c1) A.P.length).toArray tyS)) (c:=.int .u64 A.R.length) Z Z (zm Z) Z Z Z Z Z vh (fun u H hH hle hb=>gm hna hb hH)) Z Z (Z9 (h:=?_));refine qv (xy L 901 (Φ:=fun H=>H b=some (.cells (stc D.R.length m2 (.slice q2 (xh D.P).length c2) D.P.length).toArray tyS)) (c:=.int .u64 D.R.length) Z Z (zm Z) Z Z Z Z Z vh (fun u H hH hle hb=>gm hnb hb hH)) Z Z ((Zfb∘Zl∘Zad∘Z9) ?_);refine qv (vj L 901 (RsV (jb D.R) true) (r:=StO b D.R.length m2 (.slice q2 (xh D.P).length c2) D.P.length e2) Z Z Z Z Z ns (fun u H2 C2 hH hle hr2 hC2=>(i8 hm2 hnb T hH hr2 hC2).pubY ci)) Z Z (z8 (qb L Z Z (zm Z) Z Z Z (fun u H hH _ _ v1 h1 v2 h2=>t9 (nf hK) ka hH h1 h2)) Z ((ZaG∘ZaB∘Zl∘Z9) ?_));refine qv (xy L 900 (Φ:=fun H=>H a=some (.cells (stc A.R.length m1 (.slice q1 (xh A.P).length c1) A.P.length).toArray tyS)) (c:=pnv (.slice q1 (xh A.P).length c1) A.P.length) Z Z (zm Z) Z Z Z Z Z vh (fun u H hH hle hb=>pins_ret ⟨_,_,_,rfl⟩ hna hb hH)) Z Z (Z9 (h:=?_));refine qv (xy L 901 (Φ:=fun H=>H b=some (.cells (stc D.R.length m2 (.slice q2 (xh D.P).length c2) D.P.length).toArray tyS)) (c:=pnv (.slice q2 (xh D.P).length c2) D.P.length) Z Z (zm Z) Z Z Z Z Z vh (fun u H hH hle hb=>pins_ret ⟨_,_,_,rfl⟩ hnb hb hH)) Z Z (z81 L Z (fun u H hH hle=>K9 (nf hP) za zb hH (hp1.le hle) (hp2.le hle)) ?_);refine(ZaG∘Zam∘Zao) ?_;refine wc 900 901 rfl Z (xi (StO b D.R.length m2 (.slice q2 (xh D.P).length c2) D.P.length e2)) ?_
    have hcl:∀ (u:World) (H3:Heap),zs4 H3 u->H2.Le H3->(StV a A.R.length m1 (.slice q1 (xh A.P).length c1) A.P.length e1 H3/\StV b D.R.length m2 (.slice q2 (xh D.P).length c2) D.P.length e2 H3)->∀ v1,RsV (jb A.R) true v1 H3->Ret zs5 159 [v1,.func (.func 160) #[] #[eu d1,eu d2]] u H3 (fun r _=>r=.bool (!decide (A.R=D.R))):=fun u H3 hH hle hb v1 h1=>Yt (cap:=[eu d1,eu d2]) (p:=fun r=>!decide (kpt A.R r=kpt D.R r)) hany rfl ka (fun r hr u2 H4 hle2 hH2=>by
     obtain⟨x1,w1,g1,g2,g3⟩:=hent1 r hr;obtain⟨x2,w2,g4,g5,g6⟩:=hent2 r hr;have hle3:=hle.trans hle2;have h:=R7 g2 g5 (ta _ _ g1) (tb _ _ g4) hH2 (hle3 _ _ hd1) (hle3 _ _ hd2) (hb.1.le hle2) (hb.2.le hle2) (g3.le hle3) (g6.le hle3);rw[g1,g4,show decide (some x1=some x2)=decide (x1=x2) by simp];exact h) h1 hH
    refine(Zt∘Zh∘Za7) ?_;refine ye (xy L 900 (Φ:=fun H=>StV a A.R.length m1 (.slice q1 (xh A.P).length c1) A.P.length e1 H/\StV b D.R.length m2 (.slice q2 (xh D.P).length c2) D.P.length e2 H) (c:=.bool (!decide (A.R=D.R))) Z Z (zm Z) Z Z Z Z Z zf5 (fun u H hH hle hb v1 h1=>hcl u H hH hle hb v1 h1)) ((Zm∘Zc) ?_);refine uj 900 901 rfl (xi (StO b D.R.length m2 (.slice q2 (xh D.P).length c2) D.P.length e2)) ?_;refine vn 900 (StG a A).res Z (fj hm1 he1 hp1) (vn 901 (StG b D).res Z (fj hm2 he2 hp2) (wc 900 901 rfl Z (xi (StG b D)) ?_));exact ui L 900 (r:=gu (StG a A) (StG b D)) (rs:=[.tmp 4]) Z (fun _ _ h=>h) hsf Z Z (fun H hle=>by rw[hS];generalize decide (A.R=D.R)=q;cases q<;>rfl)
   ·have hS:Ci A D=false:=by unfold Ci;rw[decide_eq_false hP,Bool.and_false]
    refine(Zf3∘Z9) ?_;refine qv (xy L 900 (Φ:=fun H=>H a=some (.cells (stc A.R.length m1 (.slice q1 (xh A.P).length c1) A.P.length).toArray tyS)) (c:=.int .u64 A.R.length) Z Z (zm Z) Z Z Z Z Z vh (fun u H hH hle hb=>gm hna hb hH)) Z Z (Z9 (h:=?_));refine qv (xy L 901 (Φ:=fun H=>H b=some (.cells (stc D.R.length m2 (.slice q2 (xh D.P).length c2) D.P.length).toArray tyS)) (c:=.int .u64 D.R.length) Z Z (zm Z) Z Z Z Z Z vh (fun u H hH hle hb=>gm hnb hb hH)) Z Z ((Zfb∘Zl∘Zad∘Z9) ?_);refine qv (vj L 901 (RsV (jb D.R) true) (r:=StO b D.R.length m2 (.slice q2 (xh D.P).length c2) D.P.length e2) Z Z Z Z Z ns (fun u H2 C2 hH hle hr2 hC2=>(i8 hm2 hnb T hH hr2 hC2).pubY ci)) Z Z (z8 (qb L Z Z (zm Z) Z Z Z (fun u H hH _ _ v1 h1 v2 h2=>t9 (nf hK) ka hH h1 h2)) Z ((ZaG∘ZaB∘Zl∘Z9) ?_));refine qv (xy L 900 (Φ:=fun H=>H a=some (.cells (stc A.R.length m1 (.slice q1 (xh A.P).length c1) A.P.length).toArray tyS)) (c:=pnv (.slice q1 (xh A.P).length c1) A.P.length) Z Z (zm Z) Z Z Z Z Z vh (fun u H hH hle hb=>pins_ret ⟨_,_,_,rfl⟩ hna hb hH)) Z Z (Z9 (h:=?_));refine qv (xy L 901 (Φ:=fun H=>H b=some (.cells (stc D.R.length m2 (.slice q2 (xh D.P).length c2) D.P.length).toArray tyS)) (c:=pnv (.slice q2 (xh D.P).length c2) D.P.length) Z Z (zm Z) Z Z Z Z Z vh (fun u H hH hle hb=>pins_ret ⟨_,_,_,rfl⟩ hnb hb hH)) Z Z (z81 L Z (fun u H hH hle=>K9 (ng hP) za zb hH (hp1.le hle) (hp2.le hle)) ?_);refine(ZaG∘ZbC∘Zdu∘Zc) ?_;refine vn 900 (StG a A).res Z (fj hm1 he1 hp1) (vn 901 (StG b D).res Z (fj hm2 he2 hp2) (wc 900 901 rfl Z (xi (StG b D)) ?_));exact ui L 900 (r:=gu (StG a A) (StG b D)) (rs:=[.tmp 4]) Z (fun _ _ h=>h) hsf Z Z (fun H hle=>by rw[hS];rfl)
  ·have hS:Ci A D=false:=by unfold Ci;rw[decide_eq_false (fun h=>hK (by rw[h])),Bool.false_and]
   refine(Zf3∘Z9) ?_;refine qv (xy L 900 (Φ:=fun H=>H a=some (.cells (stc A.R.length m1 (.slice q1 (xh A.P).length c1) A.P.length).toArray tyS)) (c:=.int .u64 A.R.length) Z Z (zm Z) Z Z Z Z Z vh (fun u H hH hle hb=>gm hna hb hH)) Z Z (Z9 (h:=?_));refine qv (xy L 901 (Φ:=fun H=>H b=some (.cells (stc D.R.length m2 (.slice q2 (xh D.P).length c2) D.P.length).toArray tyS)) (c:=.int .u64 D.R.length) Z Z (zm Z) Z Z Z Z Z vh (fun u H hH hle hb=>gm hnb hb hH)) Z Z ((Zfb∘Zl∘Zad∘Z9) ?_);refine qv (vj L 901 (RsV (jb D.R) true) (r:=StO b D.R.length m2 (.slice q2 (xh D.P).length c2) D.P.length e2) Z Z Z Z Z ns (fun u H2 C2 hH hle hr2 hC2=>(i8 hm2 hnb T hH hr2 hC2).pubY ci)) Z Z (z8 (qb L Z Z (zm Z) Z Z Z (fun u H hH _ _ v1 h1 v2 h2=>t9 (ng hK) ka hH h1 h2)) Z ((ZaG∘ZaB∘Zd9∘Zdx∘ZbC∘Zdu∘Zc) ?_));refine vn 900 (StG a A).res Z (fj hm1 he1 hp1) (vn 901 (StG b D).res Z (fj hm2 he2 hp2) (wc 900 901 rfl Z (xi (StG b D)) ?_));exact ui L 900 (r:=gu (StG a A) (StG b D)) (rs:=[.tmp 4]) Z (fun _ _ h=>h) hsf Z Z (fun H hle=>by rw[hS];rfl)
 ·have hS:Ci A D=false:=by unfold Ci;rw[decide_eq_false (fun h=>hN (by rw[h])),Bool.false_and]
  refine(Zf3∘Z9) ?_;refine qv (xy L 900 (Φ:=fun H=>H a=some (.cells (stc A.R.length m1 (.slice q1 (xh A.P).length c1) A.P.length).toArray tyS)) (c:=.int .u64 A.R.length) Z Z (zm Z) Z Z Z Z Z vh (fun u H hH hle hb=>gm hna hb hH)) Z Z (Z9 (h:=?_));refine qv (xy L 901 (Φ:=fun H=>H b=some (.cells (stc D.R.length m2 (.slice q2 (xh D.P).length c2) D.P.length).toArray tyS)) (c:=.int .u64 D.R.length) Z Z (zm Z) Z Z Z Z Z vh (fun u H hH hle hb=>gm hnb hb hH)) Z Z (z8 (yx Z Z Z Z (nf T)) Z ((Zd9∘Zer∘ZaB∘Zd9∘Zdx∘ZbC∘Zdu∘Zc) ?_));refine vn 900 (StG a A).res Z (fj hm1 he1 hp1) (vn 901 (StG b D).res Z (fj hm2 he2 hp2) (wc 900 901 rfl Z (xi (StG b D)) ?_));exact ui L 900 (r:=gu (StG a A) (StG b D)) (rs:=[.tmp 4]) Z (fun _ _ h=>h) hsf Z Z (fun H hle=>by rw[hS];rfl)
def tup3{a b v:Value}(h:φ v H):TupS [φ,fun v _=>v=a,fun v _=>v=b] (.tuple #[v,a,b]) H:=by
 refine⟨[v,a,b],rfl,rfl,fun i ψ x hi hx=>?_⟩;rcases i with _ | _ | _ | i
 ·cases hi;cases hx;exact h
 ·cases hi;cases hx;rfl
 ·cases hi;cases hx;rfl
 ·cases hi
end Go.V.L10
end
namespace Go.V.L10
open Go.V.L2 Go.V.L8 Go.V.L6
def Ng(hn:S.R.length≠0)(hB:zs4 B w)(hr:(StG b S).P B w C)(hC:ZCB C w B):
  RetY zs5 88 [eu b,.int .u64 r] w B C (StG b S) (WithP (atS S r).1 (atS S r).2):=
 RetY.ex hr fun _ ⟨hm,hes,_⟩ hr=>Ki hm hn hes hB hr hC
def Uz(hn:S.R.length≠0)(hz:(jb S.R).length<=100000)(hB:zs4 B w)(hr:(StG b S).P B w C)(hC:ZCB C w B):
  RetY zs5 141 [eu b] w B C (StG b S) (RsV (jb S.R) true):=
 RetY.ex hr fun _ ⟨hm,_,_⟩ hr=>(i8 hm hn (by rw[hm.len];exact hz) hB hr hC).pubY ci
abbrev PinsP(P0:List Int):Value->Heap->Prop:=fun v H=>∃ s,v=pnv s P0.length/\PsV (xh P0) s H
def PinsP.mono{P0:List Int}:Kn.mono (.sat (PinsP P0)):=fun _ _ _ ⟨s,h1,h2⟩ hle=>⟨s,h1,h2.le hle⟩
attribute [local irreducible] V N X VO Par StepOK Has Ret RetL RetO RetT kz RetX RetY Src
def Uv(hn:S.R.length≠0)(hB:zs4 B w)(hr:(StG b S).P B w C)(hC:ZCB C w B):
  RetY zs5 142 [eu b] w B C (StG b S) (PinsP S.P):=by
 refine RetY.ex hr fun x hφ hr=>?_;obtain⟨m,s,es⟩:=x;obtain⟨hm,hes,hps⟩:=hφ;dsimp only at hm hes hps hr |-;obtain⟨p,c,rfl⟩:=jk hps;unfold RetY;refine xf 900 (StO b S.R.length m _ S.P.length es) Tryz.func142 Z Tryz.ntmps142 (np Z) hB hr hC ?_;rw[cq];refine Zew (h:=?_);refine(Zah∘ZaC∘Zbp) ?_;refine ye (xy L 900 (Φ:=fun H=>H b=some (.cells (stc S.R.length m (.slice p (xh S.P).length c) S.P.length).toArray tyS)) (c:=.bool false) Z Z (zm Z) Z Z Z Z Z Au (fun u H hH hle hb=>none_ret hn hb hH)) ((Zx∘Zr∘Zap∘ZeV∘ZZ) ?_);refine ZdD (h:=?_);exact ui L 900 (r:=StO b S.R.length m (.slice p (xh S.P).length c) S.P.length es) (rs:=[.cell 2 224]) Z (fun _ _ h=>h) nq Z Z (fun H hle=>⟨_,y7 Z,rfl,_,rfl,hps.le hle⟩)
abbrev s1:Sto:=⟨[some [],some [d0]],[]⟩
abbrev s2:Sto:=⟨[some [],some [d0],some [d2]],[]⟩
abbrev s3:Sto:=⟨[some [],some [d0],some [d2]],[2]⟩
def zns{l cs:List CH}(h:JJ n S)(hn:n<=100)(hc:∀ c∈cs,TZ c.1/\tE c.1=0)(hl:cs.length<=30)(hw:Bt S l cs=(S',r,e)):JJ (n+1) S':=by
 have h1:=zcz h hn (l:=l) hc hl;rw[hw] at h1;exact h1
def zom{un:Bool}(h:JJ n S)(hw:zgs S r un=(S',e)):JJ (n+1) S':=by
 have h1:=zku h r un;rw[hw] at h1;exact h1
def zon{k:Int}{g:List Int}(h:JJ n S)(hw:Ac S k=(S',g,e)):JJ (n+1) S':=by
 have h1:=zhm h k;rw[hw] at h1;exact h1
end Go.V.L10
namespace Go.V.L10
open Go.V Go.V.L2 Go.V.L8 Go.V.L6
attribute [local irreducible] V N X VO Par StepOK Has Ret RetL RetO RetT kz RetX RetY Src
end Go.V.L10
namespace Go.V.L8
open Go.V Go.V.L2 Go.V.L3 Go.V.L6
attribute [local irreducible] V N X VO Par StepOK Has Ret RetL RetO RetT kz Src
end Go.V.L8
namespace Go.V.L11
open Go.V.L2 Go.V.L4 Go.V.L6 Go.V.L8 Go.V.L10
abbrev WithE(l:List U)(e:Int):Value->Heap->Prop:=TupS [SetV l,fun v _=>v=.int .i64 e]
def WithE.mono{l:List U}{e:Int}:Kn.mono (.sat (WithE l e)):=Np SetV.mono
def Hy(h:WithP l e v H):WithE l e v H:=by
 obtain⟨tv,rfl,h2⟩:=h;exact U9 h2
def zib{t:List U}(he:atS S r=(t,e))(hn:S.R.length≠0)(hB:zs4 B w)(hr:(StG b S).P B w C)(hC:ZCB C w B):
  RetY zs5 88 [eu b,.int .u64 r] w B C (StG b S) (WithE t e):=by
 have h:=Ng (r:=r) hn hB hr hC;rw[he] at h;exact RetY.mono h fun _ _ _=>Hy
attribute [local irreducible] V N X VO Par XP LV StepOK Has Ret RetL RetO RetT kz RetX RetY Pan ik Src
end Go.V.L11
namespace Go.V
section
variable {P:Program} {F:Fr}           {x:Operand} {s:ByteArray}
end
end Go.V
namespace Go.V
open Go.V.L4
section
variable {P:Program} {F:Fr}      {q:Nat}     {src dst e:TypeId}
def V2{bs:List Nat}(hb:∀ b∈bs,b<=255)(hn:Nat.blt d n=true)(hg:gK ops κ ⟨some d,.convert src dst (.tmp q),ty,pos,aft,g⟩=some true)(hx:κ q=some (.sat (BsV bs fu)))(hs:P.underlying src=some (.slice e))(he:P.underlying e=some (.int .u8))(hd:P.underlying dst=some .string):
  StepOK P F B n ops O κ ⟨some d,.convert src dst (.tmp q),ty,pos,aft,g⟩ d (.is (.string (Kh bs))):=
 kj rfl (by simpa using hn) hg trivial fun a u H fp en=>⟨_,by
  have key:(convert src dst (a.eval (.tmp q))).run P u=.ok (.string (Kh bs)) u:=by
   obtain⟨hl,⟨h0,p,hv⟩ | ⟨b,off,cap,cs,ty0,fr,hv,h2,h3,h4,_⟩⟩:=en.sat_ q _ (by simp [Op.operands]) hx
   ·have hb0:bs=[]:=zow h0;subst hb0;rw[hv]
    cases p with
    | none=>exact run_convert_bytes_nil u src e hs he _ _ dst hd
    | some a0=>exact run_convert_bytes_back (P:=P) u src dst e a0 0 [] hs he hd (fun j hj=>by cases hj)
   ·rw[hv];have hlen:(bs.map UInt8.ofNat).length=bs.length:=m4 _
    have hr:=run_convert_bytes_back (P:=P) u src dst e ⟨b,off,none⟩ cap (bs.map UInt8.ofNat) hs he hd (fun j hj=>by
     rw[hlen] at hj;obtain⟨z,hz⟩:=xm hj;have hj2:(bs.map fun b:Nat=>Value.int .u8 (b:Int))[j]?=some (.int .u8 (z:Int)):=by rw[zpl,hz];rfl
     have h5:=AtP.get h3 hj2;rw[vp,kx (en.sub _ _ h2)]
     have h6:((bs.map UInt8.ofNat)[j]'(by rw[hlen];exact hj)).toNat=z:=by
      have hzb:=hb z (zo7 hz);rw[List.getElem_map,p9 hz];simp;omega
     rw[h6];simpa using h5)
    rw[hlen] at hr;exact hr
  simp only[execOp,nw,me,key,ny],rfl⟩
end
end Go.V
namespace Go.V.L11
open Go.V.L2 Go.V.L4 Go.V.L6 Go.V.L8 Go.V.L10
def Mw{s:ByteArray}(h:zax ptA s=(l,n,e))(hs:s.size<=1000000)(hB:zs4 B w)(hM:GlobM B):
  Ret zs5 22 [.string s] w B (TupS [US l true,fun v _=>v=.int .i64 n,fun v _=>v=.int .i64 e]):=by
 have:=Rn hs hB hM;rw[h] at this;exact this
attribute [local irreducible] V N X VO Par XP LV StepOK Has Ret RetL RetO RetT kz RetX RetY Pan ik Src
end Go.V.L11
namespace Go.V.L4
open Go.V.L2 Go.V.L8 Go.V.Bd
def Ao(s:ByteArray):List Nat:=gl s.size++an s
def v8(l:List ByteArray):List Nat:=l.flatMap Ao
def u6(t:U):List ByteArray:=[t.1.1.1,t.1.1.2,t.1.2,t.2.1.1,t.2.1.2,t.2.2]
def Pn(t:U):List Nat:=v8 (u6 t)
def chgB(c:CH):List Nat:=Pn c.1++[if c.2=true then 1 else 0]
def Pk{s:ByteArray}(h:s.size<=1099511627776):(Ao s).length<=s.size+10:=by
 unfold Ao;rw[nr,bq];have h128:(128:Nat)^10=1180591620717411303424:=E;have:=rz 9 s.size T;omega
def Uo(bs:List Nat)(a b:ByteArray):(bs++Ao a)++Ao b=bs++v8 [a,b]:=by simp [v8]
def Up(bs:List Nat)(a b:List ByteArray):(bs++v8 a)++v8 b=bs++v8 (a++b):=by simp [v8]
def ej:∀ {l:List ByteArray},(∀ s∈l,s.size<=1000)->(v8 l).length<=l.length*1010
 | [],_=>nu _
 | s::l,h=>by
  have h1:=h s (mc ..);have h2:=Pk (s:=s) T;have h3:=ej fun x hx=>h x (mh _ hx);show(Ao s++v8 l).length<=_;rw[nr,nz];omega
attribute [local irreducible] V N X VO Par StepOK Has Ret RetL RetO RetT kz RetX RetY Src
def Fp{s:ByteArray}(hs:s.size<=1000)(hz:bs.length+2000<=1099511627776)(hB:zs4 B w)(hr:(GWr wb bs).P B w C)(hC:ZCB C w B):
  kz zs5 114 [kq wb,.string s] w B C (GWr wb (bs++Ao s)):=by
 unfold kz;have h128:(128:Nat)^10=1180591620717411303424:=E;have hnl:=rz 9 s.size T;have hcv:IntKind.u64.wrap (s.size:Int)=(s.size:Int):=wrap_u64 T T;refine xf 900 (GWr wb bs) Tryz.func114 Z Tryz.ntmps114 (np Z) hB hr hC ((ZQ∘Za) ?_);refine z7 (N3 Z Z Z Z zhd Z Z) Z ((Zn∘Zan∘Zb∘Zaf) ?_);refine z7 (kr Z Z Z oj.1 oj.2 (wrap_u64 T T)) Z (qg (xe L 900 (GWr wb (bs++gl s.size)) (r:=GWr wb bs) Z Z Z Z Z (fun u H C hH _ hr hC=>u5 T T hH hr hC)) (Zw (h:=?_)));have hz2:(bs++gl s.size).length+s.size<=140737488355328:=by rw[nr];omega
 have e0:bs++Ao s=(bs++gl s.size)++an s:=by unfold Ao;rw[List.append_assoc]
 rw[e0];generalize bs++gl s.size=bs1 at hz2;refine uk (X:=Value) 900 (r:=fun sv=>(GWv wb bs1 sv).res) (φ:=fun sv _=>O6 sv) (hφ:=dv) Z fun sv H0 hs0 hsp=>?_;obtain⟨p,k,c,rfl⟩:=hsp;refine uj (r1:=xu wb [.slice p k c] zi3) (r2:=(GSl (.slice p k c) bs1).res) 900 901 rfl (xi _) ?_;rw[G0];refine(Za9∘ZW) ?_;refine pf 15 901 rfl rfl (Za (h:=?_));refine qg (As L rfl rfl rfl rfl rfl J el5 hz2) ?_;refine c7 17 901 O6 rfl Pw fun s2 hp2=>?_;obtain⟨p2,k2,c2,rfl⟩:=hp2;refine Zap (h:=?_);refine xo (yl L (q:=900) (cs':=[.slice p2 k2 c2]) rfl rfl rfl rfl rfl) (Zab (h:=?_));have e2:bs1.length+s.size=(bs1++an s).length:=by rw[nr,bq]
 rw[zac,e2];refine o9 900 901 rfl Z (Hn _ _) ?_;exact ol (X:=Value) 900 (r:=fun sv=>(GWv wb (bs1++an s) sv).res) (φ:=fun sv _=>O6 sv) dv (.slice p2 k2 c2) ⟨_,_,_,rfl⟩ Z (xw L 900 (r:=GWr wb (bs1++an s)) Z (fun _ _ h=>h) hs0 Z Z)
def za7{a b:ByteArray}(ha:a.size<=1000)(hb:b.size<=1000)(hz:bs.length+4000<=1099511627776)(hB:zs4 B w)(hr:(GWr wb bs).P B w C)(hC:ZCB C w B):
  kz zs5 113 [kq wb,.agg #[.string a,.string b]] w B C (GWr wb (bs++v8 [a,b])):=by
 unfold kz;have h1:=Pk (s:=a) T;rw[<-Uo];refine xf 900 (GWr wb bs) Tryz.func113 Z Tryz.ntmps113 (np Z) hB hr hC ((ZD∘Zg∘Zbp∘Zo) ?_);refine qg (xe L 900 (GWr wb (bs++Ao a)) (r:=GWr wb bs) Z Z Z Z Z (fun u H C hH _ hr hC=>Fp ha T hH hr hC)) ((Zw∘Zz∘Zo) ?_);refine qg (xe L 900 (GWr wb (bs++Ao a++Ao b)) (r:=GWr wb (bs++Ao a)) Z Z Z Z Z (fun u H C hH _ hr hC=>Fp hb (by rw[nr];omega) hH hr hC)) ?_;refine Zab (h:=?_);exact xw L 900 (r:=GWr wb (bs++Ao a++Ao b)) Z (fun _ _ h=>h) nq Z Z
def Hz{a b c:ByteArray}(ha:a.size<=1000)(hb:b.size<=1000)(hc:c.size<=1000)(hz:bs.length+8000<=1099511627776)(hB:zs4 B w)(hr:(GWr wb bs).P B w C)(hC:ZCB C w B):
  kz zs5 47 [kq wb,.agg #[.string a,.string b,.string c]] w B C (GWr wb (bs++v8 [a,b,c])):=by
 unfold kz;have h1:=ej (l:=[a,b]) (fun s hs=>by simp only[ma,zp8,or_false] at hs;rcases hs with rfl | rfl<;>assumption);simp only[nz,m6] at h1;have e0:bs++v8 [a,b,c]=(bs++v8 [a,b])++Ao c:=by simp [v8]
 rw[e0];refine xf 900 (GWr wb bs) Tryz.func47 Z Tryz.ntmps47 (np Z) hB hr hC ((ZD∘Zg∘Zbp∘Zba) ?_);refine qg (xe L 900 (GWr wb (bs++v8 [a,b])) (r:=GWr wb bs) Z Z Z Z Z (fun u H C hH _ hr hC=>za7 ha hb T hH hr hC)) ((Zw∘Zz∘Zo) ?_);refine qg (xe L 900 (GWr wb (bs++v8 [a,b]++Ao c)) (r:=GWr wb (bs++v8 [a,b])) Z Z Z Z Z (fun u H C hH _ hr hC=>Fp hc (by rw[nr];omega) hH hr hC)) ?_;refine Zab (h:=?_);exact xw L 900 (r:=GWr wb (bs++v8 [a,b]++Ao c)) Z (fun _ _ h=>h) nq Z Z
def za6{a b c:ByteArray}(ha:a.size<=1000)(hb:b.size<=1000)(hc:c.size<=1000)(hz:bs.length+8000<=1099511627776)(hB:zs4 B w)(hr:(GWr wb bs).P B w C)(hC:ZCB C w B):
  kz zs5 48 [kq wb,.agg #[.string a,.string b,.string c]] w B C (GWr wb (bs++v8 [a,b,c])):=by
 unfold kz;refine xf 900 (GWr wb bs) Tryz.func48 Z Tryz.ntmps48 (np Z) hB hr hC ((ZD∘Zw∘Zbp∘ZeM) ?_);refine qg (xe L 900 (GWr wb (bs++v8 [a,b,c])) (r:=GWr wb bs) Z Z Z Z Z (fun u H C hH _ hr hC=>Hz ha hb hc hz hH hr hC)) (Zab (h:=?_));exact xw L 900 (r:=GWr wb (bs++v8 [a,b,c])) Z (fun _ _ h=>h) nq Z Z
def za5{t:U}(ht:∀ s∈u6 t,s.size<=1000)(hz:bs.length+16000<=1099511627776)(hB:zs4 B w)(hr:(GWr wb bs).P B w C)(hC:ZCB C w B):
  kz zs5 12 [kq wb,uv t] w B C (GWr wb (bs++Pn t)):=by
 unfold kz;obtain⟨⟨⟨a,b⟩,c⟩,⟨⟨d,e⟩,f⟩⟩:=t;have ha:=ht a (by simp [u6]);have hb:=ht b (by simp [u6]);have hc:=ht c (by simp [u6]);have hd:=ht d (by simp [u6]);have he:=ht e (by simp [u6]);have hf:=ht f (by simp [u6]);have h1:=ej (l:=[a,b,c]) (fun s hs=>by simp only[ma,zp8,or_false] at hs;rcases hs with rfl | rfl | rfl<;>assumption);simp only[nz,m6] at h1;have e0:bs++Pn (((a,b),c),((d,e),f))=(bs++v8 [a,b,c])++v8 [d,e,f]:=by rw[Up];rfl
 rw[e0];refine xf 900 (GWr wb bs) Tryz.func12 Z Tryz.ntmps12 (np Z) hB hr hC ((ZD∘Zg∘Zbp∘Zbn) ?_);refine qg (xe L 900 (GWr wb (bs++v8 [a,b,c])) (r:=GWr wb bs) Z Z Z Z Z (fun u H C hH _ hr hC=>Hz ha hb hc T hH hr hC)) ((Zw∘Zz∘Zbn) ?_);refine qg (xe L 900 (GWr wb (bs++v8 [a,b,c]++v8 [d,e,f])) (r:=GWr wb (bs++v8 [a,b,c])) Z Z Z Z Z (fun u H C hH _ hr hC=>za6 hd he hf (by rw[nr];omega) hH hr hC)) ?_;refine Zab (h:=?_);exact xw L 900 (r:=GWr wb (bs++v8 [a,b,c]++v8 [d,e,f])) Z (fun _ _ h=>h) nq Z Z
open Go.V.L3
abbrev zi5:TypeId:=52
abbrev zi6:TypeId:=54
abbrev oV(x:ByteArray×ByteArray):Value:=.agg #[.string x.1,.string x.2]
abbrev gV(x:Dx):Value:=.agg #[.string x.1.1,.string x.1.2,.string x.2]
abbrev sZ:ByteArray:=⟨#[]⟩
def Rr{gf:Rd->ByteArray×Rd}(hfn:L.fn fr=some ()){C:Nat->Prop}(hB:zs4 B w)(hr:(GRd rb sv R).P B w C)(hC:ZCB C w B)
  (hf:R.err=0->∀ (u:World) (H:Heap) (C:Nat->Prop),zs4 H u->B.Le H->(GRd rb sv R).P H u C->(ZCB C u H)->RetX zs5 fr (fst++cap) u H C (GRd rb sv (gf R).2) (.string (gf R).1)):
  RetX zs5 183 [kq rb,.func (.func fr) fst.toArray cap.toArray] w B C (GRd rb sv (dx gf sZ R).2) (.string (dx gf sZ R).1):=by
 unfold RetX;refine xf 900 (GRd rb sv R) Tryz.func183 Z Tryz.ntmps183 (np Z) hB hr hC ?_;rw[xd];obtain⟨⟨n,⟨at1,bad1,err1⟩⟩,hz⟩:∃ z,gf R=z:=⟨_,rfl⟩
 obtain⟨at_,bad,err⟩:=R;unfold dx;rw[hz] at hf |-;dsimp only at hf |-;by_cases h0:err≠0
 ·rw[na h0];refine(ZK∘Zk∘Zz) ?_;refine qg (yk L 900 (GRd rb sv ⟨at_,bad,err⟩) (.bool true) (r:=GRd rb sv ⟨at_,bad,err⟩) Z Z Z Z Z (fun u H C2 hH _ hr2 hC2=>ki (nf h0) hH hr2 hC2)) ((Zn∘Zr∘Zc) ?_);exact ke L 900 (r:=xc rb _ u7) (rs:=[.tmp 4]) Z (fun _ _ h=>h) nq Z Z (fun _=>rfl)
 ·have he:err=0:=m9.1 h0;subst he;rw[nc h0];have hf:=hf rfl;by_cases h1:err1≠0
  ·rw[na h1];refine(ZK∘Zk∘Zz) ?_;refine qg (yk L 900 (GRd rb sv ⟨at_,bad,0⟩) (.bool false) (r:=GRd rb sv ⟨at_,bad,0⟩) Z Z Z Z Z (fun u H C2 hH _ hr2 hC2=>ki (ng h0) hH hr2 hC2)) ((Zx∘Zc4∘Zbm) ?_);refine qg (jh L 900 (GRd rb sv ⟨at1,bad1,err1⟩) (.string n) (r:=GRd rb sv ⟨at_,bad,0⟩) Z Z Z hfn Z hf) ((Zk∘ZL∘ZW∘Za0∘Zcc∘Zap) ?_);refine xo (yl L (q:=900) (cs':=[sv,.int .i64 at_,.int .i64 bad1,.int .i64 err1]) Z Z Z Z Z) ((Zg∘ZaI∘Zc) ?_);exact ke L 900 (r:=xc rb _ u7) (rs:=[.tmp 4]) Z (fun _ _ h=>h) nq Z Z (fun _=>rfl)
  ·have he:err1=0:=m9.1 h1;subst he;rw[nc h1];refine(ZK∘Zk∘Zz) ?_;refine qg (yk L 900 (GRd rb sv ⟨at_,bad,0⟩) (.bool false) (r:=GRd rb sv ⟨at_,bad,0⟩) Z Z Z Z Z (fun u H C2 hH _ hr2 hC2=>ki (ng h0) hH hr2 hC2)) ((Zx∘Zc4∘Zbm) ?_);refine qg (jh L 900 (GRd rb sv ⟨at1,bad1,0⟩) (.string n) (r:=GRd rb sv ⟨at_,bad,0⟩) Z Z Z hfn Z hf) ((Zk∘ZL∘ZW∘Zb4∘Zaq∘Zc) ?_);exact ke L 900 (r:=xc rb _ u7) (rs:=[.tmp 4]) Z (fun _ _ h=>h) nq Z Z (fun _=>rfl)
def Rs{gf:Rd->(ByteArray×ByteArray)×Rd}(hfn:L.fn fr=some ()){C:Nat->Prop}(hB:zs4 B w)(hr:(GRd rb sv R).P B w C)(hC:ZCB C w B)
  (hf:R.err=0->∀ (u:World) (H:Heap) (C:Nat->Prop),zs4 H u->B.Le H->(GRd rb sv R).P H u C->(ZCB C u H)->RetX zs5 fr (fst++cap) u H C (GRd rb sv (gf R).2) (oV (gf R).1)):
  RetX zs5 181 [kq rb,.func (.func fr) fst.toArray cap.toArray] w B C (GRd rb sv (dx gf (sZ,sZ) R).2) (oV (dx gf (sZ,sZ) R).1):=by
 unfold RetX;refine xf 900 (GRd rb sv R) Tryz.func181 Z Tryz.ntmps181 (np Z) hB hr hC ?_;rw[xd];obtain⟨⟨n,⟨at1,bad1,err1⟩⟩,hz⟩:∃ z,gf R=z:=⟨_,rfl⟩
 
 obtain⟨at_,bad,err⟩:=R;unfold dx;rw[hz] at hf |-;dsimp only at hf |-;by_cases h0:err≠0
 ·rw[na h0];refine(Zah∘Zcq∘Zcg∘Zz) ?_;refine qg (yk L 900 (GRd rb sv ⟨at_,bad,err⟩) (.bool true) (r:=GRd rb sv ⟨at_,bad,err⟩) Z Z Z Z Z (fun u H C2 hH _ hr2 hC2=>ki (nf h0) hH hr2 hC2)) ((Zn∘Z6∘ZcN∘ZZ) ?_);exact ke L 900 (r:=xc rb _ u7) (rs:=[.cell 4 zi5]) Z (fun _ _ h=>h) nq Z Z (fun _=>⟨_,y7 Z,rfl,rfl⟩)
 ·have he:err=0:=m9.1 h0;subst he;rw[nc h0];have hf:=hf rfl;by_cases h1:err1≠0
  ·rw[na h1];refine(Zah∘Zcq∘Zcg∘Zz) ?_;refine qg (yk L 900 (GRd rb sv ⟨at_,bad,0⟩) (.bool false) (r:=GRd rb sv ⟨at_,bad,0⟩) Z Z Z Z Z (fun u H C2 hH _ hr2 hC2=>ki (ng h0) hH hr2 hC2)) ((Zx∘Zc4∘Zbm) ?_);refine qg (jh L 900 (GRd rb sv ⟨at1,bad1,err1⟩) (oV n) (r:=GRd rb sv ⟨at_,bad,0⟩) Z Z Z hfn Z hf) ((Zbj∘ZL∘ZW∘Za0∘Zcc∘Zap) ?_);refine xo (yl L (q:=900) (cs':=[sv,.int .i64 at_,.int .i64 bad1,.int .i64 err1]) Z Z Z Z Z) ((Zg∘Zu∘ZcN∘ZZ) ?_);exact ke L 900 (r:=xc rb _ u7) (rs:=[.cell 4 zi5]) Z (fun _ _ h=>h) nq Z Z (fun _=>⟨_,y7 Z,rfl,rfl⟩)
  ·have he:err1=0:=m9.1 h1;subst he;rw[nc h1];refine(Zah∘Zcq∘Zcg∘Zz) ?_;refine qg (yk L 900 (GRd rb sv ⟨at_,bad,0⟩) (.bool false) (r:=GRd rb sv ⟨at_,bad,0⟩) Z Z Z Z Z (fun u H C2 hH _ hr2 hC2=>ki (ng h0) hH hr2 hC2)) ((Zx∘Zc4∘Zbm) ?_);refine qg (jh L 900 (GRd rb sv ⟨at1,bad1,0⟩) (oV n) (r:=GRd rb sv ⟨at_,bad,0⟩) Z Z Z hfn Z hf) ((Zbj∘ZL∘ZW∘Zb4∘Z2∘ZcN∘ZZ) ?_);exact ke L 900 (r:=xc rb _ u7) (rs:=[.cell 4 zi5]) Z (fun _ _ h=>h) nq Z Z (fun _=>⟨_,y7 Z,rfl,rfl⟩)
def My{gf:Rd->Dx×Rd}(hfn:L.fn fr=some ()){C:Nat->Prop}(hB:zs4 B w)(hr:(GRd rb sv R).P B w C)(hC:ZCB C w B)
  (hf:R.err=0->∀ (u:World) (H:Heap) (C:Nat->Prop),zs4 H u->B.Le H->(GRd rb sv R).P H u C->(ZCB C u H)->RetX zs5 fr (fst++cap) u H C (GRd rb sv (gf R).2) (gV (gf R).1)):
  RetX zs5 117 [kq rb,.func (.func fr) fst.toArray cap.toArray] w B C (GRd rb sv (dx gf n3 R).2) (gV (dx gf n3 R).1):=by
 unfold RetX;refine xf 900 (GRd rb sv R) Tryz.func117 Z Tryz.ntmps117 (np Z) hB hr hC ?_;rw[xd];obtain⟨⟨n,⟨at1,bad1,err1⟩⟩,hz⟩:∃ z,gf R=z:=⟨_,rfl⟩
 
 obtain⟨at_,bad,err⟩:=R;unfold dx;rw[hz] at hf |-;dsimp only at hf |-;by_cases h0:err≠0
 ·rw[na h0];refine(Zah∘Zcq∘Zcg∘Zz) ?_;refine qg (yk L 900 (GRd rb sv ⟨at_,bad,err⟩) (.bool true) (r:=GRd rb sv ⟨at_,bad,err⟩) Z Z Z Z Z (fun u H C2 hH _ hr2 hC2=>ki (nf h0) hH hr2 hC2)) ((Zn∘Z6∘Zeo∘ZZ) ?_);exact ke L 900 (r:=xc rb _ u7) (rs:=[.cell 4 zi6]) Z (fun _ _ h=>h) nq Z Z (fun _=>⟨_,y7 Z,rfl,rfl⟩)
 ·have he:err=0:=m9.1 h0;subst he;rw[nc h0];have hf:=hf rfl;by_cases h1:err1≠0
  ·rw[na h1];refine(Zah∘Zcq∘Zcg∘Zz) ?_;refine qg (yk L 900 (GRd rb sv ⟨at_,bad,0⟩) (.bool false) (r:=GRd rb sv ⟨at_,bad,0⟩) Z Z Z Z Z (fun u H C2 hH _ hr2 hC2=>ki (ng h0) hH hr2 hC2)) ((Zx∘Zc4∘Zbm) ?_);refine qg (jh L 900 (GRd rb sv ⟨at1,bad1,err1⟩) (gV n) (r:=GRd rb sv ⟨at_,bad,0⟩) Z Z Z hfn Z hf) ((Zbj∘ZL∘ZW∘Za0∘Zcc∘Zap) ?_);refine xo (yl L (q:=900) (cs':=[sv,.int .i64 at_,.int .i64 bad1,.int .i64 err1]) Z Z Z Z Z) ((Zg∘Zu∘Zeo∘ZZ) ?_);exact ke L 900 (r:=xc rb _ u7) (rs:=[.cell 4 zi6]) Z (fun _ _ h=>h) nq Z Z (fun _=>⟨_,y7 Z,rfl,rfl⟩)
  ·have he:err1=0:=m9.1 h1;subst he;rw[nc h1];refine(Zah∘Zcq∘Zcg∘Zz) ?_;refine qg (yk L 900 (GRd rb sv ⟨at_,bad,0⟩) (.bool false) (r:=GRd rb sv ⟨at_,bad,0⟩) Z Z Z Z Z (fun u H C2 hH _ hr2 hC2=>ki (ng h0) hH hr2 hC2)) ((Zx∘Zc4∘Zbm) ?_);refine qg (jh L 900 (GRd rb sv ⟨at1,bad1,0⟩) (gV n) (r:=GRd rb sv ⟨at_,bad,0⟩) Z Z Z hfn Z hf) ((Zbj∘ZL∘ZW∘Zb4∘Z2∘Zeo∘ZZ) ?_);exact ke L 900 (r:=xc rb _ u7) (rs:=[.cell 4 zi6]) Z (fun _ _ h=>h) nq Z Z (fun _=>⟨_,y7 Z,rfl,rfl⟩)
def Rq{gf:Rd->U×Rd}(hfn:L.fn fr=some ()){C:Nat->Prop}(hB:zs4 B w)(hr:(GRd rb sv R).P B w C)(hC:ZCB C w B)
  (hf:R.err=0->∀ (u:World) (H:Heap) (C:Nat->Prop),zs4 H u->B.Le H->(GRd rb sv R).P H u C->(ZCB C u H)->RetX zs5 fr (fst++cap) u H C (GRd rb sv (gf R).2) (uv (gf R).1)):
  RetX zs5 54 [kq rb,.func (.func fr) fst.toArray cap.toArray] w B C (GRd rb sv (dx gf (n3,n3) R).2) (uv (dx gf (n3,n3) R).1):=by
 unfold RetX;refine xf 900 (GRd rb sv R) Tryz.func54 Z Tryz.ntmps54 (np Z) hB hr hC ?_;rw[xd];obtain⟨⟨n,⟨at1,bad1,err1⟩⟩,hz⟩:∃ z,gf R=z:=⟨_,rfl⟩
 
 obtain⟨at_,bad,err⟩:=R;unfold dx;rw[hz] at hf |-;dsimp only at hf |-;by_cases h0:err≠0
 ·rw[na h0];refine(Zah∘Zcq∘Zcg∘Zz) ?_;refine qg (yk L 900 (GRd rb sv ⟨at_,bad,err⟩) (.bool true) (r:=GRd rb sv ⟨at_,bad,err⟩) Z Z Z Z Z (fun u H C2 hH _ hr2 hC2=>ki (nf h0) hH hr2 hC2)) ((Zn∘Z6∘Za3∘ZZ) ?_);exact ke L 900 (r:=xc rb _ u7) (rs:=[.cell 4 tyU]) Z (fun _ _ h=>h) nq Z Z (fun _=>⟨_,y7 Z,rfl,rfl⟩)
 ·have he:err=0:=m9.1 h0;subst he;rw[nc h0];have hf:=hf rfl;by_cases h1:err1≠0
  ·rw[na h1];refine(Zah∘Zcq∘Zcg∘Zz) ?_;refine qg (yk L 900 (GRd rb sv ⟨at_,bad,0⟩) (.bool false) (r:=GRd rb sv ⟨at_,bad,0⟩) Z Z Z Z Z (fun u H C2 hH _ hr2 hC2=>ki (ng h0) hH hr2 hC2)) ((Zx∘Zc4∘Zbm) ?_);refine qg (jh L 900 (GRd rb sv ⟨at1,bad1,err1⟩) (uv n) (r:=GRd rb sv ⟨at_,bad,0⟩) Z Z Z hfn Z hf) ((Zbj∘ZL∘ZW∘Za0∘Zcc∘Zap) ?_);refine xo (yl L (q:=900) (cs':=[sv,.int .i64 at_,.int .i64 bad1,.int .i64 err1]) Z Z Z Z Z) ((Zg∘Zu∘Za3∘ZZ) ?_);exact ke L 900 (r:=xc rb _ u7) (rs:=[.cell 4 tyU]) Z (fun _ _ h=>h) nq Z Z (fun _=>⟨_,y7 Z,rfl,rfl⟩)
  ·have he:err1=0:=m9.1 h1;subst he;rw[nc h1];refine(Zah∘Zcq∘Zcg∘Zz) ?_;refine qg (yk L 900 (GRd rb sv ⟨at_,bad,0⟩) (.bool false) (r:=GRd rb sv ⟨at_,bad,0⟩) Z Z Z Z Z (fun u H C2 hH _ hr2 hC2=>ki (ng h0) hH hr2 hC2)) ((Zx∘Zc4∘Zbm) ?_);refine qg (jh L 900 (GRd rb sv ⟨at1,bad1,0⟩) (uv n) (r:=GRd rb sv ⟨at_,bad,0⟩) Z Z Z hfn Z hf) ((Zbj∘ZL∘ZW∘Zb4∘Z2∘Za3∘ZZ) ?_);exact ke L 900 (r:=xc rb _ u7) (rs:=[.cell 4 tyU]) Z (fun _ _ h=>h) nq Z Z (fun _=>⟨_,y7 Z,rfl,rfl⟩)
end Go.V.L4
namespace Go.V.L4
open Go.V Go.V.L2 Go.V.L3 Go.V.L8
def Oa(h:R.at_<=bs.length):(Lk bs R).2.at_<=bs.length:=(Xc _ _ _ R h).1
def Pb(h:R.at_<=bs.length):(ay bs lim e R).2.at_<=bs.length:=by
 unfold ay;split
 ·dsimp only;rw[G7];exact Oa h
 ·exact Oa h
def ed{f:Rd->α×Rd}{z:α}(h:R.at_<=m)(hf:(f R).2.at_<=m):(dx f z R).2.at_<=m:=by
 unfold dx;split
 ·exact h
 ·split
  ·exact h
  ·exact hf
def o0(h:R.at_<=bs.length):(wl bs lim R).2.at_<=bs.length:=ed h (Pb h)
def i6(hl:lim<=1099511627776)(h:(wl bs lim R).2.err=0):∃ n:Nat,(wl bs lim R).1=(n:Int)/\n<=lim:=by
 unfold wl dx at h |-;split at h
 ·rename_i h0;exact ni h h0
 ·rename_i h0;rw[nc h0];split at h
  ·rename_i h1;exact ni h h1
  ·rename_i h1;rw[nc h1];unfold ze1 ay at h |-;dsimp only at h |-;split at h
   ·rename_i h2;exfalso;unfold Rd.fail at h;split at h
    ·cases h
    ·rename_i h3;exact h3 h
   ·rename_i h2;rw[nc h2];exact⟨_,xb T T,by omega⟩
def Ug(bs:List Nat)(lim:Nat)(R:Rd):ByteArray×Rd:=
 if (wl bs lim R).2.err≠0\/((bs.length-(wl bs lim R).2.at_:Nat):Int)<(wl bs lim R).1 then (sZ,(wl bs lim R).2.fail bs.length 17)
 else (Kh ((bs.drop (wl bs lim R).2.at_).take (wl bs lim R).1.toNat),⟨(wl bs lim R).2.at_+(wl bs lim R).1.toNat,(wl bs lim R).2.bad,(wl bs lim R).2.err⟩)
def lj(bs:List Nat)(lim:Nat):Rd->ByteArray×Rd:=dx (Ug bs lim) sZ
def Fw{α β:Type}(f:Rd->α×Rd)(g:Rd->β×Rd)(R:Rd):(α×β)×Rd:=(((f R).1,(g (f R).2).1),(g (f R).2).2)
def N9(bs:List Nat):Rd->(ByteArray×ByteArray)×Rd:=dx (Fw (lj bs 16) (lj bs 16)) (sZ,sZ)
def ws(bs:List Nat):Rd->Dx×Rd:=dx (Fw (N9 bs) (lj bs 16)) n3
def td(bs:List Nat):Rd->U×Rd:=dx (Fw (ws bs) (ws bs)) (n3,n3)
def zft(h:R.at_<=bs.length):(Ug bs lim R).2.at_<=bs.length:=by
 have h1:=o0 (lim:=lim) h;unfold Ug;split
 ·dsimp only;rw[G7];exact h1
 ·rename_i h2;dsimp only;omega
def Fv(h:R.at_<=bs.length):(lj bs lim R).2.at_<=bs.length:=ed h (zft h)
def V8(h:R.at_<=bs.length):(N9 bs R).2.at_<=bs.length:=ed h (Fv (Fv h))
def G2(h:R.at_<=bs.length):(ws bs R).2.at_<=bs.length:=ed h (Fv (V8 h))
def Uj(h:R.at_<=bs.length):(td bs R).2.at_<=bs.length:=ed h (G2 (G2 h))
section
variable {P:Program} {F:Fr}      {q:Nat}    
def Vo(L:Tabs P){tt:TypeId}{fu ag:Bool}{lo hi:Operand}{kl kh:IntKind}(i k:Nat){pl ph:Int}(hn:Nat.blt d n=true)(hg:gK ops κ ⟨some d,.slice tt (.tmp q) (some lo) (some hi) none,ty,pos,aft,g⟩=some true)(hx:κ q=some (.sat (BsV bs fu)))(ht:L.sl tt=some zaw)(hl:L.ld zaw=some (ag,1))
  (hlo:evK κ lo=some (.int kl pl)) (hhi:evK κ hi=some (.int kh ph)) (el:pl=i) (eh:ph=(i+k:Nat)) (hjs:i+k<=bs.length):StepOK P F B n ops O κ ⟨some d,.slice tt (.tmp q) (some lo) (some hi) none,ty,pos,aft,g⟩ d (.sat (BsV ((bs.drop i).take k) false)):=by
 have h:=jt (km:=.i64) (pm:=0) (P:=P) (F:=F) (B:=B) (O:=O) (ops:=ops) (aft:=aft) (ty:=ty) (pos:=pos) (ys:=((bs.drop i).take k).map fun b:Nat=>Value.int .u8 (b:Int)) L i (i+k) false hn hg hx ht hl ⟨hlo,el⟩ ⟨hhi,eh⟩ (fun h=>by cases h) T hjs (by rw[zqa,zqa,zst,zqb,zqs]);have e:i+k-i=((bs.drop i).take k).length:=by rw[mi,m8];omega
 rw[e] at h;exact h
end
attribute [local irreducible] V N X VO Par StepOK Has Ret RetL RetO RetT kz RetX RetY Src
abbrev Rw:TypeId:=58
def zbg{b2 b3:Nat}{bs:List Nat}(hlim:lim<=1099511627776)(hb:∀ b∈bs,b<=255)(hl:bs.length<=1099511627776)(hat:R.at_<=bs.length)(hB:zs4 B w)(hs:BsV bs fu sv B)(h2:B b2=some (.cells #[kq rb] Rw))(h3:B b3=some (.cells #[.int .i64 lim] 3))(hr:(GRd rb sv R).P B w C)(hC:ZCB C w B):
  RetX zs5 184 [kq b2,kq b3] w B C (GRd rb sv (Ug bs lim R).2) (.string (Ug bs lim R).1):=by
 obtain⟨p,c,rfl⟩:=jk hs;unfold RetX;refine xf 900 (GRd rb _ R) Tryz.func184 Z Tryz.ntmps184 (np Z) hB hr hC ?_;rw[xd];have hla:=o0 (lim:=lim) hat;obtain⟨z,⟨at1,bad1,err1⟩,hz⟩:∃ z R1,wl bs lim R=(z,R1):=⟨_,_,rfl⟩
 have hlen:=fun(u:World) (H:Heap) (C2:Nat->Prop) (hH:zs4 H u) (hle:B.Le H) hr2 hC2=>hz ▸ len_ret (R:=R) (rb:=rb) (C:=C2) hlim hb hl hat hH (hs.le hle) hr2 hC2;have hlv:=fun h=>i6 (bs:=bs) (R:=R) hlim h;unfold Ug;rw[hz] at hlv hla |-;dsimp only at hlv hla |-;by_cases h0:err1≠0
 ·rw[na (.inl h0)];refine ZK (h:=?_);refine z7 (zo L (qt Z h2) Z Z Z Z) Z (z7 (zo L (qt Z h3) Z Z Z Z) Z (qg (yk L 900 (GRd rb (.slice p bs.length c) ⟨at1,bad1,err1⟩) (.int .i64 z) (r:=GRd rb (.slice p bs.length c) R) Z Z Z Z Z hlen) ((Zk∘Zv) ?_)));refine z7 (zo L (qt Z h2) Z Z Z Z) Z (qg (yk L 900 (GRd rb (.slice p bs.length c) ⟨at1,bad1,err1⟩) (.bool true) (r:=GRd rb (.slice p bs.length c) ⟨at1,bad1,err1⟩) Z Z Z Z Z (fun u H C2 hH _ hr2 hC2=>ki (nf h0) hH hr2 hC2)) ((Zau∘Zbe) ?_));refine qn (id:=3) [(21,[900]),(200019,[900])] ko J (z8 (zo L (qt Z h2) Z Z Z Z) Z (z8 (zo L (qt Z h2) Z Z Z Z) Z ((Zca∘Zd7∘ZdL) ?_)));refine kf (xe L 900 (GRd rb (.slice p bs.length c) ((⟨at1,bad1,err1⟩:Rd).fail bs.length 17)) (r:=GRd rb (.slice p bs.length c) ⟨at1,bad1,err1⟩) Z Z Z Z Z (fun u H C2 hH _ hr2 hC2=>oa hH hr2 hC2)) Z Z ((ZaV∘Zt∘Zc) ?_);exact ke L 900 (r:=xc rb _ u7) (rs:=[.tmp 2]) Z (fun _ _ h=>h) nq Z Z (fun _=>rfl)
 ·have he:err1=0:=m9.1 h0;subst he;obtain⟨k,rfl,hk⟩:=hlv rfl;by_cases h1:bs.length-at1<k
  ·rw[na (.inr T)];refine ZK (h:=?_);refine z7 (zo L (qt Z h2) Z Z Z Z) Z (z7 (zo L (qt Z h3) Z Z Z Z) Z (qg (yk L 900 (GRd rb (.slice p bs.length c) ⟨at1,bad1,0⟩) (.int .i64 k) (r:=GRd rb (.slice p bs.length c) R) Z Z Z Z Z hlen) ((Zk∘Zv) ?_)));refine z7 (zo L (qt Z h2) Z Z Z Z) Z (qg (yk L 900 (GRd rb (.slice p bs.length c) ⟨at1,bad1,0⟩) (.bool false) (r:=GRd rb (.slice p bs.length c) ⟨at1,bad1,0⟩) Z Z Z Z Z (fun u H C2 hH _ hr2 hC2=>ki (ng h0) hH hr2 hC2)) (Zb (h:=?_)));refine z7 (zo L (qt Z h2) Z Z Z Z) Z (qg (yk L 900 (GRd rb (.slice p bs.length c) ⟨at1,bad1,0⟩) (.int .i64 (bs.length-at1:Nat)) (r:=GRd rb (.slice p bs.length c) ⟨at1,bad1,0⟩) Z Z Z Z Z (fun u H C2 hH hle hr2 hC2=>Bf hl hla hH (hs.le hle) hr2 hC2)) ((ZP∘Zbe) ?_));refine qn (id:=3) [(21,[900]),(200019,[900])] ko J (z8 (zo L (qt Z h2) Z Z Z Z) Z (z8 (zo L (qt Z h2) Z Z Z Z) Z ((Zca∘Zd7∘ZdL) ?_)));refine kf (xe L 900 (GRd rb (.slice p bs.length c) ((⟨at1,bad1,0⟩:Rd).fail bs.length 17)) (r:=GRd rb (.slice p bs.length c) ⟨at1,bad1,0⟩) Z Z Z Z Z (fun u H C2 hH _ hr2 hC2=>oa hH hr2 hC2)) Z Z ((ZaV∘Zt∘Zc) ?_);exact ke L 900 (r:=xc rb _ u7) (rs:=[.tmp 2]) Z (fun _ _ h=>h) nq Z Z (fun _=>rfl)
  ·rw[nc (fun h=>h.elim h0 (fun h=>h1 T)),zpf];have hw1:IntKind.i64.wrap ((at1:Int)+(k:Int))=((at1+k:Nat):Int):=(xb T T).trans T;have hw2:IntKind.i64.wrap (((at1+k:Nat):Int)-(k:Int))=(at1:Int):=(xb T T).trans T;have hsb:∀ b∈(bs.drop at1).take k,b<=255:=fun b hb2=>hb b (zsq (zrv hb2));refine ZK (h:=?_);refine z7 (zo L (qt Z h2) Z Z Z Z) Z (z7 (zo L (qt Z h3) Z Z Z Z) Z (qg (yk L 900 (GRd rb (.slice p bs.length c) ⟨at1,bad1,0⟩) (.int .i64 k) (r:=GRd rb (.slice p bs.length c) R) Z Z Z Z Z hlen) ((Zk∘Zv) ?_)));refine z7 (zo L (qt Z h2) Z Z Z Z) Z (qg (yk L 900 (GRd rb (.slice p bs.length c) ⟨at1,bad1,0⟩) (.bool false) (r:=GRd rb (.slice p bs.length c) ⟨at1,bad1,0⟩) Z Z Z Z Z (fun u H C2 hH _ hr2 hC2=>ki (ng h0) hH hr2 hC2)) (Zb (h:=?_)));refine z7 (zo L (qt Z h2) Z Z Z Z) Z (qg (yk L 900 (GRd rb (.slice p bs.length c) ⟨at1,bad1,0⟩) (.int .i64 (bs.length-at1:Nat)) (r:=GRd rb (.slice p bs.length c) ⟨at1,bad1,0⟩) Z Z Z Z Z (fun u H C2 hH hle hr2 hC2=>Bf hl hla hH (hs.le hle) hr2 hC2)) ((ZM∘Zcz∘Z1) ?_));refine z7 (zo L (qt Z h2) Z Z Z Z) Z ((ZW∘Za∘ZC∘Zap) ?_);refine xo (yl L (q:=900) (cs':=[.slice p bs.length c,.int .i64 (at1+k:Nat),.int .i64 bad1,.int .i64 0]) Z Z Z Z Z) (Zg (h:=?_));refine qn (id:=6) [(200033,[900]),(200037,[900]),(200043,[900])] ko J (z8 (zo L (qt Z h2) Z Z Z Z) Z (Zca (h:=?_)));refine qv (StepOKR.seeV (qh L (q:=900) Z Z Z Z) hs) Z Z (z8 (zo L (qt Z h2) Z Z Z Z) Z ((Zca∘Zd7∘Zl∘ZdR) ?_));refine z8 (zo L (qt Z h2) Z Z Z Z) Z ((Zca∘Zd7) ?_);refine z8 (Vo L (fu:=fu) at1 k Z Z Z Z Z Z Z Z Z T) Z (z8 (V2 (bs:=(bs.drop at1).take k) (fu:=false) hsb Z Z Z Z Z Z) Z (ZaS (h:=?_)));exact ke L 900 (r:=xc rb _ u7) (rs:=[.tmp 2]) Z (fun _ _ h=>h) nq Z Z (fun _=>rfl)
end Go.V.L4
section
open Go.V
attribute [local irreducible] Has N Par Ret RetL RetO RetT RetX RetY Src StepOK V VO X kz
namespace Go.V.L11
open Go.V.L2 Go.V.L3 Go.V.L4 Go.V.L6
def H6{f:Rd->α×Rd}{z:α}(P:α->Prop)(hz:P z)(hf:P (f R).1):P (dx f z R).1:=by
 unfold dx;split
 ·exact hz
 ·split
  ·exact hz
  ·exact hf
def B5(hl:lim<=1099511627776):(lj bs lim R).1.size<=lim:=by
 refine H6 (fun s:ByteArray=>s.size<=lim) (mb _) ?_;unfold Ug;split
 ·exact mb _
 ·rename_i h;have h0:(wl bs lim R).2.err=0:=m9.1 fun h2=>h (.inl h2);obtain⟨n,hn,hn2⟩:=i6 hl h0;rw[hn,zpf];show(List.map UInt8.ofNat ((bs.drop _).take n)).toArray.size<=lim;rw[zrp,m4,mi];omega
def V7:(N9 bs R).1.1.size<=16/\(N9 bs R).1.2.size<=16:=
 H6 (fun s:ByteArray×ByteArray=>s.1.size<=16/\s.2.size<=16) ⟨by decide,by decide⟩ ⟨B5 E,B5 E⟩
def E5:((ws bs R).1.1.1.size<=16/\(ws bs R).1.1.2.size<=16)/\(ws bs R).1.2.size<=16:=
 H6 (fun s:Dx=>(s.1.1.size<=16/\s.1.2.size<=16)/\s.2.size<=16) ⟨⟨by decide,by decide⟩,by decide⟩ ⟨V7,B5 E⟩
def zfx:TZ (td bs R).1:=by
 refine H6 TZ (by unfold TZ;decide) ?_;have h1:=E5 (bs:=bs) (R:=R);have h2:=E5 (bs:=bs) (R:=(ws bs R).2);unfold TZ Fw;dsimp only;omega
end Go.V.L11
namespace Go.V.L4
open Go.V.L2 Go.V.L3 Go.V.L8
def _root_.Zf4(t:Wr Y->A:=by intro h;refine qn (id:=1) [(3,[900]),(5,[900])] ko J ?_;exact h.1)(h:Y):A:=t ⟨h⟩
def M1(hlim:lim<=1099511627776){bs:List Nat}(hb:∀ b∈bs,b<=255)(hl:bs.length<=1099511627776)(hat:R.at_<=bs.length)(hB:zs4 B w)(hs:BsV bs fu sv B)(hr:(GRd rb sv R).P B w C)(hC:ZCB C w B):
  RetX zs5 120 [kq rb,.int .i64 lim] w B C (GRd rb sv (lj bs lim R).2) (.string (lj bs lim R).1):=by
 unfold RetX;refine xf 900 (GRd rb _ R) Tryz.func120 Z Tryz.ntmps120 (np Z) hB hr hC ?_;rw[xd];refine(Zbw∘Zeq∘Zd) ?_;refine jd 2 901 rfl fun b2=>?_;refine jd 3 902 rfl fun b3=>?_;refine wk 901 rfl fun H1 hs1 _ h2=>?_;refine wk 902 rfl fun H2 hs2 _ h3=>?_;have h2:=hs2.le _ _ h2;have hs12:=hs1.trans hs2;have hs':=hs.le hs12.le;refine Zan (h:=?_);refine z7 (zo L (qt Z h2) Z Z Z Z) Z (Za7 (h:=?_));refine qg (yk L 900 (GRd rb sv (lj bs lim R).2) (.string (lj bs lim R).1) (r:=GRd rb sv R) Z Z Z Z Z (fun u H C2 hH hle hr2 hC2=>Rr (gf:=Ug bs lim) (fst:=[]) (cap:=[kq b2,kq b3]) Z hH hr2 hC2 (fun _ u3 H3 C3 hH3 hle3 hr3 hC3=>zbg hlim hb hl hat hH3 ((hs'.le hle).le hle3) ((hle.trans hle3) _ _ h2) ((hle.trans hle3) _ _ h3) hr3 hC3))) (Zc (h:=?_));exact ke L 900 (r:=xc rb _ u7) (rs:=[.tmp 4]) Z (fun _ _ h=>h) hs12 Z Z (fun _=>rfl)
def zcf{bs:List Nat}(hb:∀ b∈bs,b<=255)(hl:bs.length<=1099511627776)(hat:R.at_<=bs.length)(hB:zs4 B w)(hs:BsV bs fu sv B)(h1:B b1=some (.cells #[kq rb] Rw))(hr:(GRd rb sv R).P B w C)(hC:ZCB C w B):
  RetX zs5 182 [kq b1] w B C (GRd rb sv (Fw (lj bs 16) (lj bs 16) R).2) (oV ((lj bs 16 R).1,(lj bs 16 (lj bs 16 R).2).1)):=by
 unfold RetX;refine xf 900 (GRd rb _ R) Tryz.func182 Z Tryz.ntmps182 (np Z) hB hr hC ?_;rw[xd];have hat2:=Fv (lim:=16) hat;unfold Fw;dsimp only;generalize hz1:lj bs 16 R=z1 at hat2;obtain⟨x,R1⟩:=z1;dsimp only at hat2 |-;generalize hz2:lj bs 16 R1=z2;obtain⟨y,R2⟩:=z2;dsimp only;refine(Zah∘Zg∘Zf4) ?_;refine z8 (zo L (qt Z h1) Z Z Z Z) Z (kf (yk L 900 (GRd rb sv R1) (.string x) (r:=GRd rb sv R) Z Z Z Z Z (fun u H C2 hH hle hr2 hC2=>by have h:=M1 (lim:=16) E hb hl hat hH (hs.le hle) hr2 hC2;rw[hz1] at h;exact h)) Z Z ?_);refine z8 (zo L (qt Z h1) Z Z Z Z) Z (kf (yk L 900 (GRd rb sv R2) (.string y) (r:=GRd rb sv R1) Z Z Z Z Z (fun u H C2 hH hle hr2 hC2=>by have h:=M1 (lim:=16) E hb hl hat2 hH (hs.le hle) hr2 hC2;rw[hz2] at h;exact h)) Z Z ?_);refine z8 (yv (cs:=[_,_]) Z Z zno Z Z) Z ((ZdN∘Zb3) ?_);exact ke L 900 (r:=xc rb _ u7) (rs:=[.cell 1 zi5]) Z (fun _ _ h=>h) nq Z Z (fun _=>⟨_,y7 Z,rfl,rfl⟩)
def zha{bs:List Nat}(hb:∀ b∈bs,b<=255)(hl:bs.length<=1099511627776)(hat:R.at_<=bs.length)(hB:zs4 B w)(hs:BsV bs fu sv B)(hr:(GRd rb sv R).P B w C)(hC:ZCB C w B):
  RetX zs5 119 [kq rb] w B C (GRd rb sv (N9 bs R).2) (oV (N9 bs R).1):=by
 unfold RetX;refine xf 900 (GRd rb _ R) Tryz.func119 Z Tryz.ntmps119 (np Z) hB hr hC ?_;rw[xd];refine(Zbw∘ZE∘Zg) ?_;refine jd 1 901 rfl fun b1=>?_;refine wk 901 rfl fun H1 hs1 _ h1=>?_;have hs':=hs.le hs1.le;generalize hz:N9 bs R=z;obtain⟨⟨x,y⟩,R1⟩:=z;dsimp only;refine Zan (h:=?_);refine z7 (zo L (qt Z h1) Z Z Z Z) Z (Za7 (h:=?_));refine qg (yk L 900 (GRd rb sv R1) (oV (x,y)) (r:=GRd rb sv R) Z Z Z Z Z (fun u H C2 hH hle hr2 hC2=>by have h:=Rs (gf:=Fw (lj bs 16) (lj bs 16)) (fst:=[]) (cap:=[kq b1]) Z hH hr2 hC2 (fun _ u3 H3 C3 hH3 hle3 hr3 hC3=>zcf hb hl hat hH3 ((hs'.le hle).le hle3) ((hle.trans hle3) _ _ h1) hr3 hC3);unfold N9 at hz;rw[hz] at h;exact h)) ?_;refine ZZ (h:=?_);exact ke L 900 (r:=xc rb _ u7) (rs:=[.cell 2 zi5]) Z (fun _ _ h=>h) hs1 Z Z (fun _=>⟨_,y7 Z,rfl,rfl⟩)
def Yd{bs:List Nat}(hb:∀ b∈bs,b<=255)(hl:bs.length<=1099511627776)(hat:R.at_<=bs.length)(hB:zs4 B w)(hs:BsV bs fu sv B)(h1:B b1=some (.cells #[kq rb] Rw))(hr:(GRd rb sv R).P B w C)(hC:ZCB C w B):
  RetX zs5 118 [kq b1] w B C (GRd rb sv (Fw (N9 bs) (lj bs 16) R).2) (gV ((N9 bs R).1,(lj bs 16 (N9 bs R).2).1)):=by
 unfold RetX;refine xf 900 (GRd rb _ R) Tryz.func118 Z Tryz.ntmps118 (np Z) hB hr hC ?_;rw[xd];have hat2:=V8 hat;unfold Fw;dsimp only;generalize hz1:N9 bs R=z1 at hat2;obtain⟨x,R1⟩:=z1;dsimp only at hat2 |-;generalize hz2:lj bs 16 R1=z2;obtain⟨y,R2⟩:=z2;dsimp only;refine(Zah∘Zg∘Zf4) ?_;refine z8 (zo L (qt Z h1) Z Z Z Z) Z (kf (yk L 900 (GRd rb sv R1) (oV x) (r:=GRd rb sv R) Z Z Z Z Z (fun u H C2 hH hle hr2 hC2=>by have h:=zha hb hl hat hH (hs.le hle) hr2 hC2;rw[hz1] at h;exact h)) Z Z ?_);refine z8 (zo L (qt Z h1) Z Z Z Z) Z (kf (yk L 900 (GRd rb sv R2) (.string y) (r:=GRd rb sv R1) Z Z Z Z Z (fun u H C2 hH hle hr2 hC2=>by have h:=M1 (lim:=16) E hb hl hat2 hH (hs.le hle) hr2 hC2;rw[hz2] at h;exact h)) Z Z ?_);refine z8 (yv (cs:=[_,_,_]) Z Z znn Z Z) Z ((ZdN∘Zb3) ?_);exact ke L 900 (r:=xc rb _ u7) (rs:=[.cell 1 zi6]) Z (fun _ _ h=>h) nq Z Z (fun _=>⟨_,y7 Z,rfl,rfl⟩)
def goal_ret{bs:List Nat}(hb:∀ b∈bs,b<=255)(hl:bs.length<=1099511627776)(hat:R.at_<=bs.length)(hB:zs4 B w)(hs:BsV bs fu sv B)(hr:(GRd rb sv R).P B w C)(hC:ZCB C w B):
  RetX zs5 56 [kq rb] w B C (GRd rb sv (ws bs R).2) (gV (ws bs R).1):=by
 unfold RetX;refine xf 900 (GRd rb _ R) Tryz.func56 Z Tryz.ntmps56 (np Z) hB hr hC ?_;rw[xd];refine(Zbw∘ZE∘Zg) ?_;refine jd 1 901 rfl fun b1=>?_;refine wk 901 rfl fun H1 hs1 _ h1=>?_;have hs':=hs.le hs1.le;generalize hz:ws bs R=z;obtain⟨⟨⟨x,y⟩,y2⟩,R1⟩:=z;dsimp only;refine Zan (h:=?_);refine z7 (zo L (qt Z h1) Z Z Z Z) Z (Za7 (h:=?_));refine qg (yk L 900 (GRd rb sv R1) (gV ((x,y),y2)) (r:=GRd rb sv R) Z Z Z Z Z (fun u H C2 hH hle hr2 hC2=>by have h:=My (gf:=Fw (N9 bs) (lj bs 16)) (fst:=[]) (cap:=[kq b1]) Z hH hr2 hC2 (fun _ u3 H3 C3 hH3 hle3 hr3 hC3=>Yd hb hl hat hH3 ((hs'.le hle).le hle3) ((hle.trans hle3) _ _ h1) hr3 hC3);unfold ws at hz;rw[hz] at h;exact h)) ?_;refine ZZ (h:=?_);exact ke L 900 (r:=xc rb _ u7) (rs:=[.cell 2 zi6]) Z (fun _ _ h=>h) hs1 Z Z (fun _=>⟨_,y7 Z,rfl,rfl⟩)
def zf3{bs:List Nat}(hb:∀ b∈bs,b<=255)(hl:bs.length<=1099511627776)(hat:R.at_<=bs.length)(hB:zs4 B w)(hs:BsV bs fu sv B)(hr:(GRd rb sv R).P B w C)(hC:ZCB C w B):
  RetX zs5 57 [kq rb] w B C (GRd rb sv (ws bs R).2) (gV (ws bs R).1):=by
 unfold RetX;refine xf 900 (GRd rb _ R) Tryz.func57 Z Tryz.ntmps57 (np Z) hB hr hC ?_;rw[xd];generalize hz:ws bs R=z;obtain⟨⟨⟨x,y⟩,y2⟩,R1⟩:=z;dsimp only;refine(Zah∘Zg∘Zbp) ?_;refine qg (yk L 900 (GRd rb sv R1) (gV ((x,y),y2)) (r:=GRd rb sv R) Z Z Z Z Z (fun u H C2 hH hle hr2 hC2=>by have h:=goal_ret hb hl hat hH (hs.le hle) hr2 hC2;rw[hz] at h;exact h)) ?_;refine ZZ (h:=?_);exact ke L 900 (r:=xc rb _ u7) (rs:=[.cell 2 55]) Z (fun _ _ h=>h) nq Z Z (fun _=>⟨_,y7 Z,rfl,rfl⟩)
def zbi{bs:List Nat}(hb:∀ b∈bs,b<=255)(hl:bs.length<=1099511627776)(hat:R.at_<=bs.length)(hB:zs4 B w)(hs:BsV bs fu sv B)(h1:B b1=some (.cells #[kq rb] Rw))(hr:(GRd rb sv R).P B w C)(hC:ZCB C w B):
  RetX zs5 55 [kq b1] w B C (GRd rb sv (Fw (ws bs) (ws bs) R).2) (uv ((ws bs R).1,(ws bs (ws bs R).2).1)):=by
 unfold RetX;refine xf 900 (GRd rb _ R) Tryz.func55 Z Tryz.ntmps55 (np Z) hB hr hC ?_;rw[xd];have hat2:=G2 hat;unfold Fw;dsimp only;generalize hz1:ws bs R=z1 at hat2;obtain⟨x,R1⟩:=z1;dsimp only at hat2 |-;generalize hz2:ws bs R1=z2;obtain⟨y,R2⟩:=z2;dsimp only;refine(Zah∘Zg∘Zf4) ?_;refine z8 (zo L (qt Z h1) Z Z Z Z) Z (kf (yk L 900 (GRd rb sv R1) (gV x) (r:=GRd rb sv R) Z Z Z Z Z (fun u H C2 hH hle hr2 hC2=>by have h:=goal_ret hb hl hat hH (hs.le hle) hr2 hC2;rw[hz1] at h;exact h)) Z Z ?_);refine z8 (zo L (qt Z h1) Z Z Z Z) Z (kf (yk L 900 (GRd rb sv R2) (gV y) (r:=GRd rb sv R1) Z Z Z Z Z (fun u H C2 hH hle hr2 hC2=>by have h:=zf3 hb hl hat2 hH (hs.le hle) hr2 hC2;rw[hz2] at h;exact h)) Z Z ?_);refine z8 (yv (cs:=[_,_,_,_,_,_]) Z Z znm Z Z) Z ((ZdN∘Zb3) ?_);exact ke L 900 (r:=xc rb _ u7) (rs:=[.cell 1 tyU]) Z (fun _ _ h=>h) nq Z Z (fun _=>⟨_,y7 Z,rfl,rfl⟩)
def zfw{bs:List Nat}(hb:∀ b∈bs,b<=255)(hl:bs.length<=1099511627776)(hat:R.at_<=bs.length)(hB:zs4 B w)(hs:BsV bs fu sv B)(hr:(GRd rb sv R).P B w C)(hC:ZCB C w B):
  RetX zs5 16 [kq rb] w B C (GRd rb sv (td bs R).2) (uv (td bs R).1):=by
 unfold RetX;refine xf 900 (GRd rb _ R) Tryz.func16 Z Tryz.ntmps16 (np Z) hB hr hC ?_;rw[xd];refine(Zbw∘ZE∘Zg) ?_;refine jd 1 901 rfl fun b1=>?_;refine wk 901 rfl fun H1 hs1 _ h1=>?_;have hs':=hs.le hs1.le;generalize hz:td bs R=z;obtain⟨⟨⟨⟨x,y⟩,y2⟩,⟨⟨x3,y3⟩,y4⟩⟩,R1⟩:=z;dsimp only;refine Zan (h:=?_);refine z7 (zo L (qt Z h1) Z Z Z Z) Z (Za7 (h:=?_));refine qg (yk L 900 (GRd rb sv R1) (uv (((x,y),y2),((x3,y3),y4))) (r:=GRd rb sv R) Z Z Z Z Z (fun u H C2 hH hle hr2 hC2=>by have h:=Rq (gf:=Fw (ws bs) (ws bs)) (fst:=[]) (cap:=[kq b1]) Z hH hr2 hC2 (fun _ u3 H3 C3 hH3 hle3 hr3 hC3=>zbi hb hl hat hH3 ((hs'.le hle).le hle3) ((hle.trans hle3) _ _ h1) hr3 hC3);unfold td at hz;rw[hz] at h;exact h)) ?_;refine ZZ (h:=?_);exact ke L 900 (r:=xc rb _ u7) (rs:=[.cell 2 tyU]) Z (fun _ _ h=>h) hs1 Z Z (fun _=>⟨_,y7 Z,rfl,rfl⟩)
open Go.V.L6
abbrev Ms:TypeId:=77
def bG(bs:List Nat)(R:Rd):Bool×Rd:=(decide ((ay bs 1 5 R).1=1),(ay bs 1 5 R).2)
def Rc(bs:List Nat):ij bs=dx (bG bs) false:=rfl
def zdx(h:R.at_<=bs.length):(ij bs R).2.at_<=bs.length:=ed h (Pb (lim:=1) (e:=5) h)
def de(bs:List Nat):Rd->CH×Rd:=dx (Fw (td bs) (ij bs)) ((n3,n3),false)
def Oo(h:R.at_<=bs.length):(de bs R).2.at_<=bs.length:=ed h (zdx (Uj h))
def zdp{c:CH}(h:∀ s∈u6 c.1,s.size<=1000):(chgB c).length<=6061:=by
 have:=ej h;unfold chgB Pn;rw[nr];have e:(u6 c.1).length=6:=rfl;rw[e] at this;simp only[zp3];omega
def T7{b:Bool}(hz:bs.length+2000<=1099511627776)(hB:zs4 B w)(hr:(GWr wb bs).P B w C)(hC:ZCB C w B):
  kz zs5 202 [kq wb,.bool b] w B C (GWr wb (bs++[if b=true then 1 else 0])):=by
 unfold kz;refine xf 900 (GWr wb bs) Tryz.func202 Z Tryz.ntmps202 (np Z) hB hr hC ?_
 cases b with
 | true=>
  refine(ZQ∘Za∘Z3∘Zbp) ?_;refine qg (xe L 900 (GWr wb (bs++[1])) (r:=GWr wb bs) Z Z Z Z Z (fun u H C hH _ hr hC=>by have h:=u5 (n:=1) E T hH hr hC;rw[ez E] at h;exact h)) ?_;refine Zab (h:=?_);exact xw L 900 (r:=GWr wb (bs++[1])) Z (fun _ _ h=>h) nq Z Z
 | false=>
  refine(ZQ∘Za∘ZaJ∘Zz) ?_;refine qg (xe L 900 (GWr wb (bs++[0])) (r:=GWr wb bs) Z Z Z Z Z (fun u H C hH _ hr hC=>by have h:=u5 (n:=0) E T hH hr hC;rw[ez E] at h;exact h)) ?_;refine Zab (h:=?_);exact xw L 900 (r:=GWr wb (bs++[0])) Z (fun _ _ h=>h) nq Z Z
def za9{c:CH}(ht:∀ s∈u6 c.1,s.size<=1000)(hz:bs.length+20000<=1099511627776)(hB:zs4 B w)(hr:(GWr wb bs).P B w C)(hC:ZCB C w B):
  kz zs5 145 [kq wb,chv c.1 c.2] w B C (GWr wb (bs++chgB c)):=by
 obtain⟨⟨⟨⟨a,b⟩,d⟩,⟨⟨e,f⟩,g⟩⟩,k⟩:=c;have hl:=ej ht;have e6:(u6 (((a,b),d),((e,f),g))).length=6:=rfl;rw[e6] at hl;dsimp only at hl ht;have e0:bs++chgB ((((a,b),d),((e,f),g)),k)=(bs++Pn (((a,b),d),((e,f),g)))++[if k=true then 1 else 0]:=by unfold chgB;rw[List.append_assoc]
 rw[e0];unfold kz;refine xf 900 (GWr wb bs) Tryz.func145 Z Tryz.ntmps145 (np Z) hB hr hC ((ZD∘Zg∘Zbp∘ZbN) ?_);refine qg (xe L 900 (GWr wb (bs++Pn (((a,b),d),((e,f),g)))) (r:=GWr wb bs) Z Z Z Z Z (fun u H C hH _ hr hC=>za5 ht T hH hr hC)) ((Zw∘Zz∘Zo) ?_);refine qg (xe L 900 (GWr wb (bs++Pn (((a,b),d),((e,f),g))++[if k=true then 1 else 0])) (r:=GWr wb (bs++Pn (((a,b),d),((e,f),g)))) Z Z Z Z Z (fun u H C hH _ hr hC=>T7 (by rw[List.length_append];unfold Pn;omega) hH hr hC)) ?_;refine Zab (h:=?_);exact xw L 900 (r:=GWr wb (bs++Pn (((a,b),d),((e,f),g))++[if k=true then 1 else 0])) Z (fun _ _ h=>h) nq Z Z
def Mz{gf:Rd->Bool×Rd}(hfn:L.fn fr=some ()){C:Nat->Prop}(hB:zs4 B w)(hr:(GRd rb sv R).P B w C)(hC:ZCB C w B)
  (hf:R.err=0->∀ (u:World) (H:Heap) (C:Nat->Prop),zs4 H u->B.Le H->(GRd rb sv R).P H u C->(ZCB C u H)->RetX zs5 fr (fst++cap) u H C (GRd rb sv (gf R).2) (.bool (gf R).1)):
  RetX zs5 283 [kq rb,.func (.func fr) fst.toArray cap.toArray] w B C (GRd rb sv (dx gf false R).2) (.bool (dx gf false R).1):=by
 unfold RetX;refine xf 900 (GRd rb sv R) Tryz.func283 Z Tryz.ntmps283 (np Z) hB hr hC ?_;rw[xd];obtain⟨⟨n,⟨at1,bad1,err1⟩⟩,hz⟩:∃ z,gf R=z:=⟨_,rfl⟩
 obtain⟨at_,bad,err⟩:=R;unfold dx;rw[hz] at hf |-;dsimp only at hf |-;by_cases h0:err≠0
 ·rw[na h0];refine(ZK∘Zk∘Zz) ?_;refine qg (yk L 900 (GRd rb sv ⟨at_,bad,err⟩) (.bool true) (r:=GRd rb sv ⟨at_,bad,err⟩) Z Z Z Z Z (fun u H C2 hH _ hr2 hC2=>ki (nf h0) hH hr2 hC2)) ((Zn∘Zr∘Zc) ?_);exact ke L 900 (r:=xc rb _ u7) (rs:=[.tmp 4]) Z (fun _ _ h=>h) nq Z Z (fun _=>rfl)
 ·have he:err=0:=m9.1 h0;subst he;rw[nc h0];have hf:=hf rfl;by_cases h1:err1≠0
  ·rw[na h1];refine(ZK∘Zk∘Zz) ?_;refine qg (yk L 900 (GRd rb sv ⟨at_,bad,0⟩) (.bool false) (r:=GRd rb sv ⟨at_,bad,0⟩) Z Z Z Z Z (fun u H C2 hH _ hr2 hC2=>ki (ng h0) hH hr2 hC2)) ((Zx∘Zc4∘Zbm) ?_);refine qg (jh L 900 (GRd rb sv ⟨at1,bad1,err1⟩) (.bool n) (r:=GRd rb sv ⟨at_,bad,0⟩) Z Z Z hfn Z hf) ((Zk∘ZL∘ZW∘Za0∘Zcc∘Zap) ?_);refine xo (yl L (q:=900) (cs':=[sv,.int .i64 at_,.int .i64 bad1,.int .i64 err1]) Z Z Z Z Z) ((Zg∘ZaI∘Zc) ?_);exact ke L 900 (r:=xc rb _ u7) (rs:=[.tmp 4]) Z (fun _ _ h=>h) nq Z Z (fun _=>rfl)
  ·have he:err1=0:=m9.1 h1;subst he;rw[nc h1];refine(ZK∘Zk∘Zz) ?_;refine qg (yk L 900 (GRd rb sv ⟨at_,bad,0⟩) (.bool false) (r:=GRd rb sv ⟨at_,bad,0⟩) Z Z Z Z Z (fun u H C2 hH _ hr2 hC2=>ki (ng h0) hH hr2 hC2)) ((Zx∘Zc4∘Zbm) ?_);refine qg (jh L 900 (GRd rb sv ⟨at1,bad1,0⟩) (.bool n) (r:=GRd rb sv ⟨at_,bad,0⟩) Z Z Z hfn Z hf) ((Zk∘ZL∘ZW∘Zb4∘Zaq∘Zc) ?_);exact ke L 900 (r:=xc rb _ u7) (rs:=[.tmp 4]) Z (fun _ _ h=>h) nq Z Z (fun _=>rfl)
def Ru{gf:Rd->CH×Rd}(hfn:L.fn fr=some ()){C:Nat->Prop}(hB:zs4 B w)(hr:(GRd rb sv R).P B w C)(hC:ZCB C w B)
  (hf:R.err=0->∀ (u:World) (H:Heap) (C:Nat->Prop),zs4 H u->B.Le H->(GRd rb sv R).P H u C->(ZCB C u H)->RetX zs5 fr (fst++cap) u H C (GRd rb sv (gf R).2) (chv ((gf R).1).1 ((gf R).1).2)):
  RetX zs5 257 [kq rb,.func (.func fr) fst.toArray cap.toArray] w B C (GRd rb sv (dx gf ((n3,n3),false) R).2) (chv ((dx gf ((n3,n3),false) R).1).1 ((dx gf ((n3,n3),false) R).1).2):=by
 unfold RetX;refine xf 900 (GRd rb sv R) Tryz.func257 Z Tryz.ntmps257 (np Z) hB hr hC ?_;rw[xd];obtain⟨⟨n,⟨at1,bad1,err1⟩⟩,hz⟩:∃ z,gf R=z:=⟨_,rfl⟩
 
 obtain⟨at_,bad,err⟩:=R;unfold dx;rw[hz] at hf |-;dsimp only at hf |-;by_cases h0:err≠0
 ·rw[na h0];refine(Zah∘Zcq∘Zcg∘Zz) ?_;refine qg (yk L 900 (GRd rb sv ⟨at_,bad,err⟩) (.bool true) (r:=GRd rb sv ⟨at_,bad,err⟩) Z Z Z Z Z (fun u H C2 hH _ hr2 hC2=>ki (nf h0) hH hr2 hC2)) ((Zn∘Z6∘Zcv∘ZZ) ?_);exact ke L 900 (r:=xc rb _ u7) (rs:=[.cell 4 Ms]) Z (fun _ _ h=>h) nq Z Z (fun _=>⟨_,y7 Z,rfl,rfl⟩)
 ·have he:err=0:=m9.1 h0;subst he;rw[nc h0];have hf:=hf rfl;by_cases h1:err1≠0
  ·rw[na h1];refine(Zah∘Zcq∘Zcg∘Zz) ?_;refine qg (yk L 900 (GRd rb sv ⟨at_,bad,0⟩) (.bool false) (r:=GRd rb sv ⟨at_,bad,0⟩) Z Z Z Z Z (fun u H C2 hH _ hr2 hC2=>ki (ng h0) hH hr2 hC2)) ((Zx∘Zc4∘Zbm) ?_);refine qg (jh L 900 (GRd rb sv ⟨at1,bad1,err1⟩) (chv (n).1 (n).2) (r:=GRd rb sv ⟨at_,bad,0⟩) Z Z Z hfn Z hf) ((Zbj∘ZL∘ZW∘Za0∘Zcc∘Zap) ?_);refine xo (yl L (q:=900) (cs':=[sv,.int .i64 at_,.int .i64 bad1,.int .i64 err1]) Z Z Z Z Z) ((Zg∘Zu∘Zcv∘ZZ) ?_);exact ke L 900 (r:=xc rb _ u7) (rs:=[.cell 4 Ms]) Z (fun _ _ h=>h) nq Z Z (fun _=>⟨_,y7 Z,rfl,rfl⟩)
  ·have he:err1=0:=m9.1 h1;subst he;rw[nc h1];refine(Zah∘Zcq∘Zcg∘Zz) ?_;refine qg (yk L 900 (GRd rb sv ⟨at_,bad,0⟩) (.bool false) (r:=GRd rb sv ⟨at_,bad,0⟩) Z Z Z Z Z (fun u H C2 hH _ hr2 hC2=>ki (ng h0) hH hr2 hC2)) ((Zx∘Zc4∘Zbm) ?_);refine qg (jh L 900 (GRd rb sv ⟨at1,bad1,0⟩) (chv (n).1 (n).2) (r:=GRd rb sv ⟨at_,bad,0⟩) Z Z Z hfn Z hf) ((Zbj∘ZL∘ZW∘Zb4∘Z2∘Zcv∘ZZ) ?_);exact ke L 900 (r:=xc rb _ u7) (rs:=[.cell 4 Ms]) Z (fun _ _ h=>h) nq Z Z (fun _=>⟨_,y7 Z,rfl,rfl⟩)
def zaf{bs:List Nat}(hb:∀ b∈bs,b<=255)(hl:bs.length<=1099511627776)(hat:R.at_<=bs.length)(hB:zs4 B w)(hs:BsV bs fu sv B)(h1:B b1=some (.cells #[kq rb] Rw))(hr:(GRd rb sv R).P B w C)(hC:ZCB C w B):
  RetX zs5 284 [kq b1] w B C (GRd rb sv (bG bs R).2) (.bool (bG bs R).1):=by
 unfold RetX;refine xf 900 (GRd rb _ R) Tryz.func284 Z Tryz.ntmps284 (np Z) hB hr hC ?_;rw[xd];unfold bG;generalize hz1:ay bs 1 5 R=z1;obtain⟨n,R1⟩:=z1;dsimp only;by_cases h1n:n=1
 ·rw[nf h1n];refine ZK (h:=?_);refine z7 (zo L (qt Z h1) Z Z Z Z) Z (qg (yk L 900 (GRd rb sv R1) (.int .u64 n) (r:=GRd rb sv R) Z Z Z Z Z (fun u H C2 hH hle hr2 hC2=>by have h:=s9 (lim:=1) (e:=5) hb hl hat hH (hs.le hle) hr2 hC2;rw[hz1] at h;exact h)) ?_);refine(ZN∘Zc) ?_;exact ke L 900 (r:=xc rb _ u7) (rs:=[.tmp 1]) Z (fun _ _ h=>h) nq Z Z (fun _=>rfl)
 ·rw[ng h1n];refine ZK (h:=?_);refine z7 (zo L (qt Z h1) Z Z Z Z) Z (qg (yk L 900 (GRd rb sv R1) (.int .u64 n) (r:=GRd rb sv R) Z Z Z Z Z (fun u H C2 hH hle hr2 hC2=>by have h:=s9 (lim:=1) (e:=5) hb hl hat hH (hs.le hle) hr2 hC2;rw[hz1] at h;exact h)) ?_);refine(ZT∘Zc) ?_;exact ke L 900 (r:=xc rb _ u7) (rs:=[.tmp 1]) Z (fun _ _ h=>h) nq Z Z (fun _=>rfl)
def zdw{bs:List Nat}(hb:∀ b∈bs,b<=255)(hl:bs.length<=1099511627776)(hat:R.at_<=bs.length)(hB:zs4 B w)(hs:BsV bs fu sv B)(hr:(GRd rb sv R).P B w C)(hC:ZCB C w B):
  RetX zs5 259 [kq rb] w B C (GRd rb sv (ij bs R).2) (.bool (ij bs R).1):=by
 unfold RetX;refine xf 900 (GRd rb _ R) Tryz.func259 Z Tryz.ntmps259 (np Z) hB hr hC ?_;rw[xd];refine(Zbw∘Zd) ?_;refine jd 1 901 rfl fun b1=>?_;refine wk 901 rfl fun H1 hs1 _ h1=>?_;have hs':=hs.le hs1.le;generalize hz:ij bs R=z;obtain⟨x,R1⟩:=z;dsimp only;refine Zan (h:=?_);refine z7 (zo L (qt Z h1) Z Z Z Z) Z (Za7 (h:=?_));refine qg (yk L 900 (GRd rb sv R1) (.bool x) (r:=GRd rb sv R) Z Z Z Z Z (fun u H C2 hH hle hr2 hC2=>by have h:=Mz (gf:=bG bs) (fst:=[]) (cap:=[kq b1]) Z hH hr2 hC2 (fun _ u3 H3 C3 hH3 hle3 hr3 hC3=>zaf hb hl hat hH3 ((hs'.le hle).le hle3) ((hle.trans hle3) _ _ h1) hr3 hC3);rw[Rc] at hz;rw[hz] at h;exact h)) ?_;refine Zc (h:=?_);exact ke L 900 (r:=xc rb _ u7) (rs:=[.tmp 2]) Z (fun _ _ h=>h) hs1 Z Z (fun _=>rfl)
def zdq{bs:List Nat}(hb:∀ b∈bs,b<=255)(hl:bs.length<=1099511627776)(hat:R.at_<=bs.length)(hB:zs4 B w)(hs:BsV bs fu sv B)(h1:B b1=some (.cells #[kq rb] Rw))(hr:(GRd rb sv R).P B w C)(hC:ZCB C w B):
  RetX zs5 258 [kq b1] w B C (GRd rb sv (Fw (td bs) (ij bs) R).2) (chv ((td bs R).1) ((ij bs (td bs R).2).1)):=by
 unfold RetX;refine xf 900 (GRd rb _ R) Tryz.func258 Z Tryz.ntmps258 (np Z) hB hr hC ?_;rw[xd];have hat2:=Uj hat;unfold Fw;dsimp only;generalize hz1:td bs R=z1 at hat2;obtain⟨x,R1⟩:=z1;dsimp only at hat2 |-;generalize hz2:ij bs R1=z2;obtain⟨y,R2⟩:=z2;dsimp only;refine(Zah∘Zg∘Zf4) ?_;refine z8 (zo L (qt Z h1) Z Z Z Z) Z (kf (yk L 900 (GRd rb sv R1) (uv x) (r:=GRd rb sv R) Z Z Z Z Z (fun u H C2 hH hle hr2 hC2=>by have h:=zfw hb hl hat hH (hs.le hle) hr2 hC2;rw[hz1] at h;exact h)) Z Z ?_);refine z8 (zo L (qt Z h1) Z Z Z Z) Z (kf (yk L 900 (GRd rb sv R2) (.bool y) (r:=GRd rb sv R1) Z Z Z Z Z (fun u H C2 hH hle hr2 hC2=>by have h:=zdw hb hl hat2 hH (hs.le hle) hr2 hC2;rw[hz2] at h;exact h)) Z Z ?_);refine(ZeJ∘ZdN∘Zb3) ?_;exact ke L 900 (r:=xc rb _ u7) (rs:=[.cell 1 Ms]) Z (fun _ _ h=>h) nq Z Z (fun _=>⟨_,y7 Z,rfl,rfl⟩)
def chg_ret{bs:List Nat}(hb:∀ b∈bs,b<=255)(hl:bs.length<=1099511627776)(hat:R.at_<=bs.length)(hB:zs4 B w)(hs:BsV bs fu sv B)(hr:(GRd rb sv R).P B w C)(hC:ZCB C w B):
  RetX zs5 210 [kq rb] w B C (GRd rb sv (de bs R).2) (chv ((de bs R).1).1 ((de bs R).1).2):=by
 unfold RetX;refine xf 900 (GRd rb _ R) Tryz.func210 Z Tryz.ntmps210 (np Z) hB hr hC ?_;rw[xd];refine(Zbw∘ZE∘Zg) ?_;refine jd 1 901 rfl fun b1=>?_;refine wk 901 rfl fun H1 hs1 _ h1=>?_;have hs':=hs.le hs1.le;generalize hz:de bs R=z;obtain⟨⟨⟨⟨⟨x,y⟩,y2⟩,⟨⟨x3,y3⟩,y4⟩⟩,y5⟩,R1⟩:=z;dsimp only;refine Zan (h:=?_);refine z7 (zo L (qt Z h1) Z Z Z Z) Z (Za7 (h:=?_));refine qg (yk L 900 (GRd rb sv R1) (chv (((((x,y),y2),((x3,y3),y4)),y5)).1 (((((x,y),y2),((x3,y3),y4)),y5)).2) (r:=GRd rb sv R) Z Z Z Z Z (fun u H C2 hH hle hr2 hC2=>by have h:=Ru (gf:=Fw (td bs) (ij bs)) (fst:=[]) (cap:=[kq b1]) Z hH hr2 hC2 (fun _ u3 H3 C3 hH3 hle3 hr3 hC3=>zdq hb hl hat hH3 ((hs'.le hle).le hle3) ((hle.trans hle3) _ _ h1) hr3 hC3);unfold de at hz;rw[hz] at h;exact h)) ?_;refine ZZ (h:=?_);exact ke L 900 (r:=xc rb _ u7) (rs:=[.cell 2 Ms]) Z (fun _ _ h=>h) hs1 Z Z (fun _=>⟨_,y7 Z,rfl,rfl⟩)
end Go.V.L4
namespace Go.V.L11
open Go.V.L2 Go.V.L3 Go.V.L4 Go.V.L6 Go.V.L8
def za1(la:Option U)(t:U):Bool:=match la with
 | none=>true
 | some y=>decide (kw y t<0)
def E8(bs:List Nat)(l:List U):Nat->Option U->List CH->List CH->Rd->((List CH×List CH)×Rd)×(Int×Int)
 | 0,_,a,d,R=>(((a,d),R),(0,0))
 | k+1,la,a,d,R=>
  if (de bs R).2.err≠0 then (((a,d),R),(((de bs R).2.bad:Int),(de bs R).2.err))
  else if tE (de bs R).1.1≠0 then (((a,d),R),((R.at_:Int),6))
  else if za1 la (de bs R).1.1=false then (((a,d),R),((R.at_:Int),18))
  else if decide ((de bs R).1.1∈l)≠(de bs R).1.2 then (((a,d),R),((R.at_:Int),5))
  else E8 bs l k (some (de bs R).1.1) (if (de bs R).1.2=true then a else a++[(de bs R).1]) (if (de bs R).1.2=true then d++[(de bs R).1] else d) (de bs R).2
def s8(l:List U)(cs:List CH):List U:=cs.foldl (fun l c=>(wo l c.1 c.2).1) l
def A5(bs:List Nat)(l:List U)(R:Rd):(List U×Rd)×(Int×Int):=
 if (wl bs 8192 R).2.err≠0 then ((l,R),(((wl bs 8192 R).2.bad:Int),(wl bs 8192 R).2.err))
 else if (E8 bs l (wl bs 8192 R).1.toNat none [] [] (wl bs 8192 R).2).2.2≠0 then ((l,R),(E8 bs l (wl bs 8192 R).1.toNat none [] [] (wl bs 8192 R).2).2)
 else if l.length+(E8 bs l (wl bs 8192 R).1.toNat none [] [] (wl bs 8192 R).2).1.1.1.length>4096+(E8 bs l (wl bs 8192 R).1.toNat none [] [] (wl bs 8192 R).2).1.1.2.length then ((l,R),((R.at_:Int),3))
 else ((s8 l ((E8 bs l (wl bs 8192 R).1.toNat none [] [] (wl bs 8192 R).2).1.1.2++(E8 bs l (wl bs 8192 R).1.toNat none [] [] (wl bs 8192 R).2).1.1.1),(E8 bs l (wl bs 8192 R).1.toNat none [] [] (wl bs 8192 R).2).1.2),(0,0))
def Ho:∀ (cs:List CH) {l:List U},l.length<=4096->(s8 l cs).length<=4096
 | [],_,h=>h
 | c::cs,l,h=>Ho cs (Bu h c.1 c.2)
def zaj(l:List U)(h:cs[i]?=some c):s8 l (cs.take (i+1))=(wo (s8 l (cs.take i)) c.1 c.2).1:=by
 unfold s8;rw[zpa,h,List.foldl_append];rfl
def Om:TZ (de bs R).1.1:=by
 unfold de;exact H6 (fun c:CH=>TZ c.1) E (by unfold Fw;exact zfx)
attribute [local irreducible] XP Pan
def js{R2:Rd}{x:CH}(hfn:L.fn fr=some ())(he:R2.err=0){C:Nat->Prop}(hB:zs4 B w)(hr:(xx sb rb sv fr0 R).P B w C)(hC:ZCB C w B)(hf:∀ (u:World) (H:Heap) (C:Nat->Prop),zs4 H u->B.Le H->(xx sb rb sv R.at_ R).P H u C->(ZCB C u H)->RetX zs5 fr (fst++cap) u H C (xx sb rb sv R.at_ R2) (chv x.1 x.2)):
  RetX zs5 209 [kq sb,.func (.func fr) fst.toArray cap.toArray] w B C (xx sb rb sv R.at_ R2) (chv x.1 x.2):=by
 unfold RetX;obtain⟨⟨⟨⟨x1,x2⟩,x3⟩,⟨⟨x4,x5⟩,x6⟩⟩,x7⟩:=x;refine xf 900 (xx sb rb sv fr0 R) Tryz.func209 Z Tryz.ntmps209 (np Z) hB hr hC ?_;rw[w9,xd,xd];refine ZdV (h:=?_);refine(Zah∘Zcq∘Zb5) ?_;refine qg (yk L 901 (GRd rb sv R) (.int .i64 R.at_) (r:=GRd rb sv R) Z Z Z Z Z (fun u H C2 hH _ hr2 hC2=>L4.at_ret hH hr2 hC2)) (Zap (h:=?_));refine xo (yl L (q:=900) (cs':=[kq rb,.int .i64 R.at_]) Z Z Z Z Z) (Zg (h:=?_));refine wc 900 901 rfl Z (xi (GRd rb sv R)) ?_;refine Zz (h:=?_);refine qg (jh L 900 (xx sb rb sv R.at_ R2) (chv (((x1,x2),x3),((x4,x5),x6)) x7) (r:=xx sb rb sv R.at_ R) Z Z Z hfn Z hf) (Zbj (h:=?_));refine uj (r1:=(xc sb [kq rb,.int .i64 R.at_] Pj).res) (r2:=(GRd rb sv R2).res) 900 901 rfl (xi (GRd rb sv R2)) ?_;rw[xd];refine(Zr∘ZW) ?_;refine qg (yk L 901 (GRd rb sv R2) (.tuple #[.int .i64 R2.bad,.int .i64 R2.err]) (r:=GRd rb sv R2) Z Z Z Z Z (fun u H C2 hH _ hr2 hC2=>L4.fault_ret hH hr2 hC2)) ((ZcA∘Z5∘Zb4∘ZO∘Zcv∘ZZ) ?_);refine wc 900 901 rfl Z (xi (GRd rb sv R2)) ?_;exact ke L 900 (r:=xx sb rb sv R.at_ R2) (rs:=[.cell 4 Ms]) Z (fun _ _ h=>h) nq Z Z (fun _=>⟨_,y7 Z,rfl,rfl⟩)
def No{R2:Rd}{x:CH}(hfn:L.fn fr=some ())(he:R2.err≠0){C:Nat->Prop}(hB:zs4 B w)(hr:(xx sb rb sv fr0 R).P B w C)(hC:ZCB C w B)(hf:∀ (u:World) (H:Heap) (C:Nat->Prop),zs4 H u->B.Le H->(xx sb rb sv R.at_ R).P H u C->(ZCB C u H)->RetX zs5 fr (fst++cap) u H C (xx sb rb sv R.at_ R2) (chv x.1 x.2)):
  Pan zs5 209 [kq sb,.func (.func fr) fst.toArray cap.toArray] w B C (wrV R2.bad R2.err):=by
 obtain⟨⟨⟨⟨x1,x2⟩,x3⟩,⟨⟨x4,x5⟩,x6⟩⟩,x7⟩:=x;refine f7 900 (xx sb rb sv fr0 R) Tryz.func209 Z Tryz.ntmps209 (np Z) hB hr hC ?_;rw[w9,xd,xd];refine ZdV (h:=?_);refine(Zah∘Zcq∘Zb5) ?_;refine qg (yk L 901 (GRd rb sv R) (.int .i64 R.at_) (r:=GRd rb sv R) Z Z Z Z Z (fun u H C2 hH _ hr2 hC2=>L4.at_ret hH hr2 hC2)) (Zap (h:=?_));refine xo (yl L (q:=900) (cs':=[kq rb,.int .i64 R.at_]) Z Z Z Z Z) (Zg (h:=?_));refine wc 900 901 rfl Z (xi (GRd rb sv R)) ?_;refine Zz (h:=?_);refine qg (jh L 900 (xx sb rb sv R.at_ R2) (chv (((x1,x2),x3),((x4,x5),x6)) x7) (r:=xx sb rb sv R.at_ R) Z Z Z hfn Z hf) (Zbj (h:=?_));refine uj (r1:=(xc sb [kq rb,.int .i64 R.at_] Pj).res) (r2:=(GRd rb sv R2).res) 900 901 rfl (xi (GRd rb sv R2)) ?_;rw[xd];refine(Zr∘ZW) ?_;refine qg (yk L 901 (GRd rb sv R2) (.tuple #[.int .i64 R2.bad,.int .i64 R2.err]) (r:=GRd rb sv R2) Z Z Z Z Z (fun u H C2 hH _ hr2 hC2=>L4.fault_ret hH hr2 hC2)) ((ZcA∘Z5∘Zde∘Z3) ?_);refine jz (id:=5) 4 rfl ((Zb∘ZeY∘ZeX∘Zab) ?_);refine Dd (K:=4) Z Z Z ?_
 repeat (first | refine wh ?_ | refine jq ?_)
 exact dh nq
def Da:∀ (n:Nat),∀ b∈gl n,b<=255:=fun n=>by
 induction n using Nat.strongRecOn with
 | ind n ih=>
  intro b hb;by_cases h:n<128
  ·rw[ez h,m7] at hb;omega
  ·rw[Gp h] at hb;rcases ma.1 hb with rfl | hb
   ·omega
   ·exact ih (n/128) T b hb
attribute [local irreducible] LV ik
end Go.V.L11
end
namespace Go.V.L11
open Go.V.L2 Go.V.L3 Go.V.L4 Go.V.L6 Go.V.L8 Go.V.L10
def _root_.Zez(t:Wr Y->A:=by intro h;refine qn (id:=11) [(56,[900])] ko J ?_;exact h.1)(h:Y):A:=t ⟨h⟩
def _root_.Zbq(t:Wr Y->A:=by exact fun h=>(Zai∘Zgb) h.1)(h:Y):A:=t ⟨h⟩
def zep{bs:List Nat}{fr:Int}(hb:∀ b∈bs,b<=255)(hl:bs.length<=1099511627776)(hat:R.at_<=bs.length)(hB:zs4 B w)(hs:BsV bs fu sv B)(hr:(xx sb rb sv fr R).P B w C)(hC:ZCB C w B):
  RetX zs5 210 [kq rb] w B C (xx sb rb sv fr (de bs R).2) (chv (de bs R).1.1 (de bs R).1.2):=
 RetL.mono (RetY.conv (RetY.frame (G4 hr) hC fun C1 h1 hC1=>(L4.chg_ret hb hl hat hB hs h1 hC1).toY) fun _ _ _ h=>G4 h:RetY _ _ _ _ _ _ (xx sb rb sv fr (de bs R).2) fun x _=>x=chv (de bs R).1.1 (de bs R).1.2) fun _ _ _ _ h=>h
def zkr:Option U->List Value
 | none=>[.string sZ,.string sZ,.string sZ,.string sZ,.string sZ,.string sZ]
 | some t=>[.string t.1.1.1,.string t.1.1.2,.string t.1.2,.string t.2.1.1,.string t.2.1.2,.string t.2.2]
structure ChJ(bs:List Nat)(l:List U)(n:Nat)(Y:((List CH×List CH)×Rd)×(Int×Int))(i:Nat)(la:Option U)(a d:List CH)(R:Rd):Prop where
 hi:i<=n
 hW:E8 bs l (n-i) la a d R=Y
 h0:R.err=0
 at_:R.at_<=bs.length
 first:la=none↔i=0
 len:a.length+d.length=i
 za:∀ c∈a,TZ c.1
 zd:∀ c∈d,TZ c.1
def ChJ.step{n:Nat}{Y:((List CH×List CH)×Rd)×(Int×Int)}{i:Nat}{la:Option U}{a d:List CH}(h:ChJ bs l n Y i la a d R)(hi:i<n)(hY:Y.2.2=0):
  (de bs R).2.err=0/\tE (de bs R).1.1=0/\za1 la (de bs R).1.1=true/\decide ((de bs R).1.1∈l)=(de bs R).1.2/\
  ChJ bs l n Y (i+1) (some (de bs R).1.1) (if (de bs R).1.2=true then a else a++[(de bs R).1]) (if (de bs R).1.2=true then d++[(de bs R).1] else d) (de bs R).2:=by
 obtain⟨m,hm⟩:∃ m,n-i=m+1:=⟨n-i-1,by omega⟩
 have hW:=h.hW;rw[hm] at hW;unfold E8 at hW;have htz:=Om (bs:=bs) (R:=R);have hta:=Oo (bs:=bs) (R:=R) h.at_;generalize de bs R=zsx at hW htz hta |-;obtain⟨⟨t,k⟩,R2⟩:=zsx;dsimp only at hW htz hta |-;by_cases h2:R2.err≠0
 ·rw[na h2] at hW;subst hW;exact ni hY h2
 ·rw[nc h2] at hW;by_cases he:tE t≠0
  ·rw[na he] at hW;subst hW;exact ni hY (show(6:Int)≠0 by decide)
  ·rw[nc he] at hW;by_cases hbh:za1 la t=false
   ·rw[na hbh] at hW;subst hW;exact ni hY (show(18:Int)≠0 by decide)
   ·rw[nc hbh] at hW;by_cases hm2:decide (t∈l)≠k
    ·rw[na hm2] at hW;subst hW;exact ni hY (show(5:Int)≠0 by decide)
    ·rw[nc hm2] at hW;refine⟨m9.1 h2,m9.1 he,by cases hq:za1 la t<;>simp_all,m9.1 hm2,⟨hi,by rw[show n-(i+1)=m by omega];exact hW,m9.1 h2,hta,⟨fun h=>by(cases h),fun h=>by(cases h)⟩,?_,?_,?_⟩⟩
     ·have:=h.len;cases k
      ·rw[nc E,nc E,nr,zp3];omega
      ·rw[na rfl,na rfl,nr,zp3];omega
     ·intro c hc;cases k
      ·rw[nc E] at hc;rcases mn.1 hc with h3 | h3
       ·exact h.za c h3
       ·rw[m7] at h3;subst h3;exact htz
      ·rw[na rfl] at hc;exact h.za c hc
     ·intro c hc;cases k
      ·rw[nc E] at hc;exact h.zd c hc
      ·rw[na rfl] at hc;rcases mn.1 hc with h3 | h3
       ·exact h.zd c h3
       ·rw[m7] at h3;subst h3;exact htz
attribute [local irreducible] V N X VO Par XP LV StepOK Has Ret RetL RetO RetT kz RetX RetY Pan ik Src
def Oq{sb rb:Nat}{sv:Value}{bs:List Nat}(hl0:l.length<=4096)(hb:∀ b∈bs,b<=255)(hl:bs.length<=1099511627776)(hat:R.at_<=bs.length)(he:(A5 bs l R).2.2=0){v:Value}(hB:zs4 B w)(hs:BsV bs fu sv B)(hv:SetV l v B)(hr:(xx sb rb sv fr0 R).P B w C)(hC:ZCB C w B):
  RetY zs5 153 [kq sb,v] w B C (xx sb rb sv R.at_ (A5 bs l R).1.2) (SetV (A5 bs l R).1.1):=by
 have ha1:=o0 (bs:=bs) (lim:=8192) hat;have hlv:=fun h=>i6 (bs:=bs) (lim:=8192) (R:=R) E h;have hsz:=fun(h:(wl bs 8192 R).2.err=0) {w:World} {B:Heap} {C:Nat->Prop} (hB:zs4 B w) (hs:BsV bs fu sv B) (hr:(xx sb rb sv fr0 R).P B w C) (hC:ZCB C w B)=>size_ret (lim:=8192) hb hl hat T h hB hs hr hC;unfold A5 at he |-;obtain⟨z,R1,hz1⟩:∃ z R1,wl bs 8192 R=(z,R1):=⟨_,_,rfl⟩
 rw[hz1] at he ha1 hlv hsz |-;dsimp only at he ha1 hlv hsz |-;by_cases h1:R1.err≠0
 ·rw[na h1] at he;exact ni he h1
 ·rw[nc h1] at he |-;have h10:=m9.1 h1;obtain⟨n,rfl,hn⟩:=hlv h10;rw[zpf] at he |-;obtain⟨Y,hY⟩:∃ Y,E8 bs l n none [] [] R1=Y:=⟨_,rfl⟩
  rw[hY] at he |-;by_cases h2:Y.2.2≠0
  ·rw[na h2] at he;exact ni he h2
  ·rw[nc h2] at he |-;have h20:=m9.1 h2;by_cases h3:l.length+Y.1.1.1.length>4096+Y.1.1.2.length
   ·rw[na h3] at he;exact ni he (show(3:Int)≠0 by decide)
   ·rw[nc h3];dsimp only;obtain⟨f1,p1,k1,q1,rfl,hp1⟩:=hv.shape;have hj0:ChJ bs l n Y 0 none [] [] R1:=⟨mb _,hY,h10,ha1,⟨fun _=>rfl,fun _=>rfl⟩,rfl,(fun _ h=>by cases h),(fun _ h=>by cases h)⟩
    unfold RetY;refine xf 900 (xx sb rb sv fr0 R) Tryz.func153 Z Tryz.ntmps153 (np Z) hB hr hC ((Zbw∘ZE∘Zcq∘ZaY∘Zv∘ZE∘Zg∘Zr) ?_);refine qg (yk L 900 (xx sb rb sv R.at_ R1) (.int .i64 n) (r:=xx sb rb sv fr0 R) Z Z Z Z Z (fun u H C2 hH hle hr2 hC2=>hsz h10 hH (hs.le hle) hr2 hC2)) (Zd (h:=?_));refine uj (r1:=xu sb [kq rb,.int .i64 R.at_] Pj) (r2:=(GRd rb sv R1).res) 900 901 rfl (xi _) ?_;refine(Zc4∘Zk∘ZbG∘Zd3) ?_;refine wc 900 901 rfl Z (xi (GRd rb sv R1)) ?_;refine ul 5 Ms 7 rfl (ul 6 Ms 7 rfl ?_)
    refine xp (fun x:Nat×Option U×List CH×List CH×Rd×Nat=>[(0,.is (kq sb)),(3,.own (Cell [f1,.pointer p1,k1,.pointer q1] tySt)),(4,.own (Cell [.nilFunc,.pointer none,.nilFunc,.pointer none] tySt)),(5,.own (SlR Ms 7 x.2.2.1.length (x.2.2.1.flatMap ccs))),(6,.own (SlR Ms 7 x.2.2.2.1.length (x.2.2.2.1.flatMap ccs))),(7,.own (Cell (zkr x.2.1) tyU)),(9,.is (.int .i64 R.at_)),(20,.is (.int .i64 n)),(21,.is (.int .i64 x.1)),(900,.own (xx sb rb sv x.2.2.2.2.2 x.2.2.2.2.1).res)])
     (fun x=>ChJ bs l n Y x.1 x.2.1 x.2.2.1 x.2.2.2.1 x.2.2.2.2.1) (fun x=>n-x.1) (0,none,[],[],R1,R.at_) hj0 ⟨rfl,rfl,rfl,rfl,rfl,rfl,rfl,rfl,rfl,rfl,nm⟩ ?_
    rintro⟨i,la,a,d,R',fr⟩ hj;dsimp only at hj |-;by_cases hlt:i<n
    ·obtain⟨g1,g2,g3,g4,hj2⟩:=hj.step hlt h20;have htz:=Om (bs:=bs) (R:=R');have hRa:=hj.at_;have hfst:=hj.first;have hlen:=hj.len;have hsrc:=fun {w:World} {B:Heap} {C:Nat->Prop} (hB:zs4 B w) (hs:BsV bs fu sv B) (hr:(xx sb rb sv R'.at_ R').P B w C) (hC:ZCB C w B)=>zep hb hl hRa hB hs hr hC;generalize de bs R'=zsx at g1 g2 g3 g4 hj2 htz hsrc;obtain⟨⟨t,k⟩,R2⟩:=zsx;dsimp only at g1 g2 g3 g4 hj2 htz hsrc;have hsn:∀ x:List CH,(x++[(t,k)]).length=x.length+1:=fun x=>by simp
     refine uj (r1:=xu sb [kq rb,.int .i64 fr] Pj) (r2:=(GRd rb sv R').res) 900 901 rfl (xi _) ?_
     cases k with
     | true=>
      cases la with
      | none=>
       have hi0:i=0:=hfst.1 rfl;refine(Zc9∘Z7∘Zd∘Zu∘Zb5) ?_;refine jv 900 901 rfl Z (xi (GRd rb sv R')) ?_;refine Za7 (h:=?_);refine qg (yk L 900 (xx sb rb sv R'.at_ R2) (chv t true) (r:=xx sb rb sv fr R') Z Z Z Z Z (fun u H C hH hle hr hC=>js (x:=(t,true)) (fst:=[kq rb]) (cap:=[]) Z g1 hH hr hC (fun u3 H3 C3 hH3 hle3 hr3 hC3=>hsrc hH3 ((hs.le hle).le hle3) hr3 hC3))) (ZY (h:=?_));refine jd 11 913 rfl fun b11=>?_;refine wk 913 rfl fun H1 hs1 _ h11=>?_;have hv1:=hv.le hs1.le;refine(Zaq∘Zbq) ?_;refine z71 L Z (fun u H hH _=>je htz hH) ?_;refine ZN (h:=?_);refine qg (xe L 900 (xx sb rb sv R'.at_ R2) (r:=xx sb rb sv R'.at_ R2) Z Z Z Z Z (fun u H C hH _ hr hC=>ku hH hr hC)) ((Zg∘Z4∘Zb∘ZN∘Zau∘Za4) ?_);refine qg (xe L 900 (xx sb rb sv R'.at_ R2) (r:=xx sb rb sv R'.at_ R2) Z Z Z Z Z (fun u H C hH _ hr hC=>ku hH hr hC)) ((Zg∘Zez∘Zl∘Zcj∘Zc7) ?_);refine z81 L Z (fun u H hH hle=>jr g4 hH (hv1.le hle)) ?_;refine(Zdc∘Z9∘Zd1) ?_;refine kf (xe L 900 (xx sb rb sv R'.at_ R2) (r:=xx sb rb sv R'.at_ R2) Z Z Z Z Z (fun u H C hH _ hr hC=>ku hH hr hC)) Z Z ((ZaV∘ZJ∘Zbq∘ZaU∘Zg∘Zae∘Zai∘Zcr∘Z3∘ZaD) ?_);refine qg (yu (.inl Z) Z) ((Zef∘ZaF∘ZdI) ?_);refine qg (yu (.inr Z) Z) ((ZaA∘Zaj∘ZB) ?_);exact jn (x:=(i,none,a,d,R',fr)) (i+1,some t,a,d++[(t,true)],R2,R'.at_) hs1 hj2 G ⟨Z,Z,Z,Z,lh Z,Z,Z,Z,Z,Z,nm⟩
      | some y=>
       have hi0:i≠0:=fun h=>by have:=hfst.2 h;cases this
       refine(Zc9∘Z7∘Zd∘Zu∘Zb5) ?_;refine jv 900 901 rfl Z (xi (GRd rb sv R')) ?_;refine Za7 (h:=?_);refine qg (yk L 900 (xx sb rb sv R'.at_ R2) (chv t true) (r:=xx sb rb sv fr R') Z Z Z Z Z (fun u H C hH hle hr hC=>js (x:=(t,true)) (fst:=[kq rb]) (cap:=[]) Z g1 hH hr hC (fun u3 H3 C3 hH3 hle3 hr3 hC3=>hsrc hH3 ((hs.le hle).le hle3) hr3 hC3))) (ZY (h:=?_));refine jd 11 913 rfl fun b11=>?_;refine wk 913 rfl fun H1 hs1 _ h11=>?_;have hv1:=hv.le hs1.le;have g3:kw y t<0:=nj g3;refine(Zaq∘Zbq) ?_;refine z71 L Z (fun u H hH _=>je htz hH) ?_;refine ZN (h:=?_);refine qg (xe L 900 (xx sb rb sv R'.at_ R2) (r:=xx sb rb sv R'.at_ R2) Z Z Z Z Z (fun u H C hH _ hr hC=>ku hH hr hC)) ((Zg∘Z4∘Zb∘ZT∘Za∘Za3∘Zbq) ?_);refine z71 L Z (fun u H hH _=>j8 (a:=y) (b:=t) hH) ?_;refine(ZU∘Zi) ?_;refine qg (xe L 900 (xx sb rb sv R'.at_ R2) (r:=xx sb rb sv R'.at_ R2) Z Z Z Z Z (fun u H C hH _ hr hC=>ku hH hr hC)) ((Zg∘Zez∘Zl∘Zcj∘Zc7) ?_);refine z81 L Z (fun u H hH hle=>jr g4 hH (hv1.le hle)) ?_;refine(Zdc∘Z9∘Zd1) ?_;refine kf (xe L 900 (xx sb rb sv R'.at_ R2) (r:=xx sb rb sv R'.at_ R2) Z Z Z Z Z (fun u H C hH _ hr hC=>ku hH hr hC)) Z Z ((ZaV∘ZJ∘Zbq∘ZaU∘Zg∘Zae∘Zai∘Zcr∘Z3∘ZaD) ?_);refine qg (yu (.inl Z) Z) ((Zef∘ZaF∘ZdI) ?_);refine qg (yu (.inr Z) Z) ((ZaA∘Zaj∘ZB) ?_);exact jn (x:=(i,some y,a,d,R',fr)) (i+1,some t,a,d++[(t,true)],R2,R'.at_) hs1 hj2 G ⟨Z,Z,Z,Z,lh Z,Z,Z,Z,Z,Z,nm⟩
     | false=>
      cases la with
      | none=>
       have hi0:i=0:=hfst.1 rfl;refine(Zc9∘Z7∘Zd∘Zu∘Zb5) ?_;refine jv 900 901 rfl Z (xi (GRd rb sv R')) ?_;refine Za7 (h:=?_);refine qg (yk L 900 (xx sb rb sv R'.at_ R2) (chv t false) (r:=xx sb rb sv fr R') Z Z Z Z Z (fun u H C hH hle hr hC=>js (x:=(t,false)) (fst:=[kq rb]) (cap:=[]) Z g1 hH hr hC (fun u3 H3 C3 hH3 hle3 hr3 hC3=>hsrc hH3 ((hs.le hle).le hle3) hr3 hC3))) (ZY (h:=?_));refine jd 11 913 rfl fun b11=>?_;refine wk 913 rfl fun H1 hs1 _ h11=>?_;have hv1:=hv.le hs1.le;refine(Zaq∘Zbq) ?_;refine z71 L Z (fun u H hH _=>je htz hH) ?_;refine ZN (h:=?_);refine qg (xe L 900 (xx sb rb sv R'.at_ R2) (r:=xx sb rb sv R'.at_ R2) Z Z Z Z Z (fun u H C hH _ hr hC=>ku hH hr hC)) ((Zg∘Z4∘Zb∘ZN∘Zau∘Za4) ?_);refine qg (xe L 900 (xx sb rb sv R'.at_ R2) (r:=xx sb rb sv R'.at_ R2) Z Z Z Z Z (fun u H C hH _ hr hC=>ku hH hr hC)) ((Zg∘Zez∘Zl∘Zcj∘Zc7) ?_);refine z81 L Z (fun u H hH hle=>jr g4 hH (hv1.le hle)) ?_;refine(Zdc∘Z9∘Zd1) ?_;refine kf (xe L 900 (xx sb rb sv R'.at_ R2) (r:=xx sb rb sv R'.at_ R2) Z Z Z Z Z (fun u H C hH _ hr hC=>ku hH hr hC)) Z Z ((ZaV∘ZJ∘Zbq∘ZaU∘Zg∘Zae∘Zai∘Zcr∘ZaJ∘Zaa) ?_);refine qg (yu (.inl Z) Z) ((Zef∘ZaF∘ZdI) ?_);refine qg (yu (.inr Z) Z) ((ZaA∘Zaj∘ZB) ?_);exact jn (x:=(i,none,a,d,R',fr)) (i+1,some t,a++[(t,false)],d,R2,R'.at_) hs1 hj2 G ⟨Z,Z,Z,lh Z,Z,Z,Z,Z,Z,Z,nm⟩
      | some y=>
       have hi0:i≠0:=fun h=>by have:=hfst.2 h;cases this
       refine(Zc9∘Z7∘Zd∘Zu∘Zb5) ?_;refine jv 900 901 rfl Z (xi (GRd rb sv R')) ?_;refine Za7 (h:=?_);refine qg (yk L 900 (xx sb rb sv R'.at_ R2) (chv t false) (r:=xx sb rb sv fr R') Z Z Z Z Z (fun u H C hH hle hr hC=>js (x:=(t,false)) (fst:=[kq rb]) (cap:=[]) Z g1 hH hr hC (fun u3 H3 C3 hH3 hle3 hr3 hC3=>hsrc hH3 ((hs.le hle).le hle3) hr3 hC3))) (ZY (h:=?_));refine jd 11 913 rfl fun b11=>?_;refine wk 913 rfl fun H1 hs1 _ h11=>?_;have hv1:=hv.le hs1.le;have g3:kw y t<0:=nj g3;refine(Zaq∘Zbq) ?_;refine z71 L Z (fun u H hH _=>je htz hH) ?_;refine ZN (h:=?_);refine qg (xe L 900 (xx sb rb sv R'.at_ R2) (r:=xx sb rb sv R'.at_ R2) Z Z Z Z Z (fun u H C hH _ hr hC=>ku hH hr hC)) ((Zg∘Z4∘Zb∘ZT∘Za∘Za3∘Zbq) ?_);refine z71 L Z (fun u H hH _=>j8 (a:=y) (b:=t) hH) ?_;refine(ZU∘Zi) ?_;refine qg (xe L 900 (xx sb rb sv R'.at_ R2) (r:=xx sb rb sv R'.at_ R2) Z Z Z Z Z (fun u H C hH _ hr hC=>ku hH hr hC)) ((Zg∘Zez∘Zl∘Zcj∘Zc7) ?_);refine z81 L Z (fun u H hH hle=>jr g4 hH (hv1.le hle)) ?_;refine(Zdc∘Z9∘Zd1) ?_;refine kf (xe L 900 (xx sb rb sv R'.at_ R2) (r:=xx sb rb sv R'.at_ R2) Z Z Z Z Z (fun u H C hH _ hr hC=>ku hH hr hC)) Z Z ((ZaV∘ZJ∘Zbq∘ZaU∘Zg∘Zae∘Zai∘Zcr∘ZaJ∘Zaa) ?_);refine qg (yu (.inl Z) Z) ((Zef∘ZaF∘ZdI) ?_);refine qg (yu (.inr Z) Z) ((ZaA∘Zaj∘ZB) ?_);exact jn (x:=(i,some y,a,d,R',fr)) (i+1,some t,a++[(t,false)],d,R2,R'.at_) hs1 hj2 G ⟨Z,Z,Z,lh Z,Z,Z,Z,Z,Z,Z,nm⟩
    ·obtain rfl:i=n:=by have:=hj.hi;omega
     have hW:=hj.hW;rw[zqc] at hW;have hW2:(((a,d),R'),((0:Int),(0:Int)))=Y:=hW;subst hW2;dsimp only at h3 |-;have hlen:=hj.len;have hza:=hj.za;have hzd:=hj.zd;have hdl:(d++a).length<=8192:=by rw[nr];omega
     have hda:d.length+a.length<=8192:=T;have hpl:=Qz a;have hln:=Do a
     have hzda:∀ c∈d++a,TZ c.1:=fun c hc=>by
      rcases mn.1 hc with h | h
      ·exact hzd c h
      ·exact hza c h
     refine uj (r1:=xu sb [kq rb,.int .i64 fr] Pj) (r2:=(GRd rb sv R').res) 900 901 rfl (xi _) ?_;refine gt 5 rfl ?_;refine Br 6 931 _ Z SlR.shape fun z6 hz6=>?_;obtain⟨p6,c6,rfl⟩:=hz6;refine(Zd8∘Zak∘Zbx∘Zb∘Zap) ?_;refine xo (yl L (q:=900) (cs':=[kq rb,.int .i64 R.at_]) Z Z Z Z Z) ((Zg∘ZaO∘Za∘Zbg) ?_);refine z71 L Z (fun u H hH hle=>lq (l:=l) Z hH (hv.le hle)) ?_;refine(Zj∘Zay∘Za∘Zco∘Zdi∘ZcW) ?_;refine jv 900 901 rfl Z (xi (GRd rb sv R')) ?_;refine qg (xe L 900 (xx sb rb sv R.at_ R') (r:=xx sb rb sv R.at_ R') Z Z Z Z Z (fun u H C2 hH _ hr2 hC2=>ku hH hr2 hC2)) (ZaC (h:=?_));refine Rk 6 931 rfl Z (Zcs (h:=?_));refine qg (yu (.inl Z) Z) (Zge (h:=?_));refine Bv 87 rfl ((Zdd∘ZaR) ?_);refine s7 (X:=SXp) 3 (r:=fun x=>Cell (scs x.1) tySt) (φ:=D5 l) (jg l) ⟨(f1,p1,k1,q1),hp1⟩ hv Z (xp (fun j:Nat=>[(3,.own (ExR (fun x:SXp=>Cell (scs x.1) tySt) (D5 (s8 l ((d++a).take j))) (jg _))),(4,.own (Cell [.nilFunc,.pointer none,.nilFunc,.pointer none] tySt)),(87,.sat (KS Ms (d++a) false)),(88,.is (.int .i64 (d++a).length)),(89,.is (.int .i64 j)),(900,.own (xx sb rb sv R.at_ R').res)]) (fun j=>j<=(d++a).length) (fun j=>(d++a).length-j) 0 (mb _) ⟨Z,Z,by show _=some (Kn.sat (SlV Ms 7 ((d++a).flatMap ccs) (d++a).length false));rw[nr,zpo];rfl,by rw[nr];rfl,Z,Z,nm⟩ ?_);rintro j hjl;refine uk 3 rfl fun x H1 hs1 hset=>?_;obtain⟨⟨f,p,f',p'⟩,hpl⟩:=x;dsimp only[scs] at hset hpl |-;by_cases hjt:j<(d++a).length
     ·obtain⟨c,hc⟩:=xm hjt;have hcc:=Gx hc;have hzc:=hzda c (zo7 hc);have hlen4:=Ho ((d++a).take j) hl0;have happ:=zaj l hc;obtain⟨m,e,hme⟩:∃ m e,wo (s8 l ((d++a).take j)) c.1 c.2=(m,e):=⟨_,_,rfl⟩
      rw[hme] at happ;have hms:Kn.mono (.sat (SetV m)):=SetV.mono;have hme0:Kn.mono (.sat (fun(v:Value) (_:Heap)=>v=.int .i64 e)):=fun _ _ _ h _=>h;refine(Ze∘ZaP∘Zat∘ZcJ∘Zaz∘ZdH∘Za1∘Zw∘Zd0∘Zbg∘Zcv) ?_;refine z7 (xg (φ:=WithE m e) L Z Z (zm Z) Z Z Z WithE.mono (fun u H hH hle _=>(An hme hlen4 hzc hH (hset.le hle)).mono fun _ _ _=>Hy)) Z ((Zh∘Zdp∘ZcR) ?_);refine z7 (bg L (X:=SXp) (fun x=>scs x.1) (D5 m) (jg _) Kq (fun x=>⟨rfl,x.2⟩) Z Z Z Z Z) Z ((ZaA∘Zei∘ZB) ?_);exact jn (x:=j) (j+1) hs1 hjt T ⟨by rw[happ];rfl,Z,Z,Z,Z,Z,nm⟩
     ·obtain rfl:j=(d++a).length:=by omega
      rw[zoy] at hset;refine(Ze∘ZaP∘Zak∘ZdO∘Zbg∘Zb7∘Zw) ?_;exact ui L 900 (r:=xx sb rb sv R.at_ R') (rs:=[.cell 4 tySt]) Z (fun _ _ h=>h) hs1 Z Z (fun H hle=>ix (y7 Z) Z Z (hset.le hle))
def _root_.Ze0(t:Wr Y->A:=by intro h;refine j9 (zn L Z Z Z Z) Z ?_;exact h.1)(h:Y):A:=t ⟨h⟩
def _root_.Zf5(t:Wr Y->A:=by intro h;refine j9 (zz L (vs:=[_,_,_,_]) (y7 Z) Z Z Z Z ⟨_,rfl⟩) Z ?_;exact h.1)(h:Y):A:=t ⟨h⟩
def _root_.Zf6(t:Wr Y->A:=by intro h;refine Fh (id:=11) 8 [(56,[900])] ko Z J ?_;exact h.1)(h:Y):A:=t ⟨h⟩
def _root_.ZeL(t:Wr Y->A:=by intro h;refine j9 (z9 Z Z Z) Z ?_;exact h.1)(h:Y):A:=t ⟨h⟩
def _root_.Zf7(t:Wr Y->A:=by intro h;refine j9 (V5 Z Z Z Z bt4 Z) Z ?_;exact h.1)(h:Y):A:=t ⟨h⟩
def Ot{sb rb:Nat}{sv:Value}{bs:List Nat}(hl0:l.length<=4096)(hb:∀ b∈bs,b<=255)(hl:bs.length<=1099511627776)(hat:R.at_<=bs.length)(he:(A5 bs l R).2.2≠0){v:Value}(hB:zs4 B w)(hs:BsV bs fu sv B)(hv:SetV l v B)(hr:(xx sb rb sv fr0 R).P B w C)(hC:ZCB C w B):
  Pan zs5 153 [kq sb,v] w B C (wrV (A5 bs l R).2.1 (A5 bs l R).2.2):=by
 have ha1:=o0 (bs:=bs) (lim:=8192) hat;have hlv:=fun h=>i6 (bs:=bs) (lim:=8192) (R:=R) E h;have hsz:=fun(h:(wl bs 8192 R).2.err=0) {w:World} {B:Heap} {C:Nat->Prop} (hB:zs4 B w) (hs:BsV bs fu sv B) (hr:(xx sb rb sv fr0 R).P B w C) (hC:ZCB C w B)=>size_ret (lim:=8192) hb hl hat T h hB hs hr hC;have hszp:=fun(h:(wl bs 8192 R).2.err≠0) {w:World} {B:Heap} {C:Nat->Prop} (hB:zs4 B w) (hs:BsV bs fu sv B) (hr:(xx sb rb sv fr0 R).P B w C) (hC:ZCB C w B)=>F7 (lim:=8192) hb hl hat T h hB hs hr hC;obtain⟨f1,p1,k1,q1,rfl,hp1⟩:=hv.shape;refine f7 900 (xx sb rb sv fr0 R) Tryz.func153 Z Tryz.ntmps153 (np Z) hB hr hC ?_;unfold A5 at he |-;obtain⟨z,R1,hz1⟩:∃ z R1,wl bs 8192 R=(z,R1):=⟨_,_,rfl⟩
 rw[hz1] at he ha1 hlv hsz hszp |-;dsimp only at he ha1 hlv hsz hszp |-;by_cases h1:R1.err≠0
 ·rw[na h1];refine(Zbw∘ZE∘Zcq∘ZaY∘Zv∘ZE∘Zg) ?_;refine jz (id:=3) 1 rfl (ZcK (h:=?_));refine jw (r:=(xx sb rb sv fr0 R).res) (K:=1) L 900 rfl Z Z Z Z (fun u H C hH hle hr hC=>hszp h1 hH (hs.le hle) hr hC) (fun _ _ _ _ h=>h) ?_
  repeat (first | refine wh ?_ | refine jq ?_)
  exact dh nq
 ·rw[nc h1] at he |-;have h10:=m9.1 h1;obtain⟨n,rfl,hn⟩:=hlv h10;rw[zpf] at he |-;obtain⟨Y,hY⟩:∃ Y,E8 bs l n none [] [] R1=Y:=⟨_,rfl⟩
  rw[hY] at he |-;obtain⟨pa,pe,hW0⟩:∃ pa pe:Int,(if Y.2.2≠0 then ((l,R),Y.2) else if l.length+Y.1.1.1.length>4096+Y.1.1.2.length then ((l,R),((R.at_:Int),(3:Int))) else ((s8 l (Y.1.1.2++Y.1.1.1),Y.1.2),((0:Int),(0:Int)))).2=(pa,pe):=⟨_,_,rfl⟩
  rw[hW0] at he |-;dsimp only at he |-;have hj0:ChJ bs l n Y 0 none [] [] R1:=⟨mb _,hY,h10,ha1,⟨fun _=>rfl,fun _=>rfl⟩,rfl,(fun _ h=>by cases h),(fun _ h=>by cases h)⟩
  refine(Zbw∘ZE∘Zcq∘ZaY∘Zv∘ZE∘Zg∘Zr) ?_;refine qg (yk L 900 (xx sb rb sv R.at_ R1) (.int .i64 n) (r:=xx sb rb sv fr0 R) Z Z Z Z Z (fun u H C2 hH hle hr2 hC2=>hsz h10 hH (hs.le hle) hr2 hC2)) (Zd (h:=?_));refine uj (r1:=xu sb [kq rb,.int .i64 R.at_] Pj) (r2:=(GRd rb sv R1).res) 900 901 rfl (xi _) ?_;refine(Zc4∘Zk∘ZbG∘Zd3) ?_;refine wc 900 901 rfl Z (xi (GRd rb sv R1)) ?_;refine ul 5 Ms 7 rfl (ul 6 Ms 7 rfl ?_)
  refine xp (fun x:Nat×Option U×List CH×List CH×Rd×Nat=>[(0,.is (kq sb)),(3,.own (Cell [f1,.pointer p1,k1,.pointer q1] tySt)),(4,.own (Cell [.nilFunc,.pointer none,.nilFunc,.pointer none] tySt)),(5,.own (SlR Ms 7 x.2.2.1.length (x.2.2.1.flatMap ccs))),(6,.own (SlR Ms 7 x.2.2.2.1.length (x.2.2.2.1.flatMap ccs))),(7,.own (Cell (zkr x.2.1) tyU)),(9,.is (.int .i64 R.at_)),(20,.is (.int .i64 n)),(21,.is (.int .i64 x.1)),(900,.own (xx sb rb sv x.2.2.2.2.2 x.2.2.2.2.1).res)])
   (fun x=>ChJ bs l n Y x.1 x.2.1 x.2.2.1 x.2.2.2.1 x.2.2.2.2.1) (fun x=>n-x.1) (0,none,[],[],R1,R.at_) hj0 ⟨rfl,rfl,rfl,rfl,rfl,rfl,rfl,rfl,rfl,rfl,nm⟩ ?_
  rintro⟨i,la,a,d,R',fr⟩ hj;dsimp only at hj |-;by_cases hlt:i<n
  ·have hstep:=fun(h:Y.2.2=0)=>hj.step hlt h;obtain⟨m,hm⟩:∃ m,n-i=m+1:=⟨n-i-1,by omega⟩
   have hW:=hj.hW;rw[hm] at hW;unfold E8 at hW;have htz:=Om (bs:=bs) (R:=R');have hta:=Oo (bs:=bs) (R:=R') hj.at_;have hRa:=hj.at_;have hfst:=hj.first;have hlen:=hj.len;have hza:=hj.za;have hzd:=hj.zd;have hsrc:=fun {w:World} {B:Heap} {C:Nat->Prop} (hB:zs4 B w) (hs:BsV bs fu sv B) (hr:(xx sb rb sv R'.at_ R').P B w C) (hC:ZCB C w B)=>zep hb hl hRa hB hs hr hC;clear hstep;generalize de bs R'=zsx at hW htz hta hsrc;obtain⟨⟨t,k⟩,R2⟩:=zsx;dsimp only at hW htz hta hsrc;refine uj (r1:=xu sb [kq rb,.int .i64 fr] Pj) (r2:=(GRd rb sv R').res) 900 901 rfl (xi _) ?_;by_cases h2:R2.err≠0
   ·rw[na h2] at hW;subst hW;rw[na h2] at hW0;cases hW0;refine(Zc9∘Z7∘Zd) ?_;refine jz (id:=8) 6 rfl (Zb5 (h:=?_));refine jv 900 901 rfl Z (xi (GRd rb sv R')) ?_;refine(Za7∘Zab) ?_;refine jw (r:=(xx sb rb sv fr R').res) (K:=6) L 900 rfl Z Z Z Z (fun u H C hH hle hr hC=>No (x:=(t,k)) (fst:=[kq rb]) (cap:=[]) Z h2 hH hr hC (fun u3 H3 C3 hH3 hle3 hr3 hC3=>hsrc hH3 ((hs.le hle).le hle3) hr3 hC3)) (fun _ _ _ _ h=>h) ?_
    repeat (first | refine wh ?_ | refine jq ?_)
    exact dh nq
   ·rw[nc h2] at hW;have g1:=m9.1 h2;by_cases hte:tE t≠0
    ·rw[na hte] at hW;subst hW;rw[na (show(6:Int)≠0 by decide)] at hW0;cases hW0;refine(Zc9∘Z7∘Zd∘Zu∘Zb5) ?_;refine jv 900 901 rfl Z (xi (GRd rb sv R')) ?_;refine Za7 (h:=?_);refine qg (yk L 900 (xx sb rb sv R'.at_ R2) (chv t k) (r:=xx sb rb sv fr R') Z Z Z Z Z (fun u H C hH hle hr hC=>js (x:=(t,k)) (fst:=[kq rb]) (cap:=[]) Z g1 hH hr hC (fun u3 H3 C3 hH3 hle3 hr3 hC3=>hsrc hH3 ((hs.le hle).le hle3) hr3 hC3))) (ZY (h:=?_));refine jd 11 913 rfl fun b11=>?_;refine wk 913 rfl fun H1 hs1 _ h11=>?_;have hv1:=hv.le hs1.le;refine jz (id:=9) 5 rfl ((Za∘Zbq) ?_);refine z71 L Z (fun u H hH _=>je htz hH) ?_;refine(ZT∘Zab) ?_;refine jw (r:=(xx sb rb sv R'.at_ R2).res) (K:=5) L 900 rfl Z Z Z Z (fun u H C hH hle hr hC=>f9 hH hr hC) (fun _ _ _ _ h=>h) ?_
     repeat (first | refine wh ?_ | refine jq ?_)
     exact dh hs1
    ·rw[nc hte] at hW;have g2:=m9.1 hte
     cases la with
     | none=>
      have hi0:i=0:=hfst.1 rfl;have hbt:za1 none t=true:=rfl;rw[hbt,nc E] at hW
      cases k with
      | true=>
       by_cases hm2:decide (t∈l)≠true
       ·rw[na hm2] at hW;subst hW;rw[na (show(5:Int)≠0 by decide)] at hW0;cases hW0;have g4:decide (t∈l)=false:=by cases hq:decide (t∈l)<;>simp_all
        refine(Zc9∘Z7∘Zd∘Zu∘Zb5) ?_;refine jv 900 901 rfl Z (xi (GRd rb sv R')) ?_;refine Za7 (h:=?_);refine qg (yk L 900 (xx sb rb sv R'.at_ R2) (chv t true) (r:=xx sb rb sv fr R') Z Z Z Z Z (fun u H C hH hle hr hC=>js (x:=(t,true)) (fst:=[kq rb]) (cap:=[]) Z g1 hH hr hC (fun u3 H3 C3 hH3 hle3 hr3 hC3=>hsrc hH3 ((hs.le hle).le hle3) hr3 hC3))) (ZY (h:=?_));refine jd 11 913 rfl fun b11=>?_;refine wk 913 rfl fun H1 hs1 _ h11=>?_;have hv1:=hv.le hs1.le;refine(Zaq∘Zbq) ?_;refine z71 L Z (fun u H hH _=>je htz hH) ?_;refine ZN (h:=?_);refine qg (xe L 900 (xx sb rb sv R'.at_ R2) (r:=xx sb rb sv R'.at_ R2) Z Z Z Z Z (fun u H C hH _ hr hC=>ku hH hr hC)) ((Zg∘Z4∘Zb∘ZN∘Zau∘Za4) ?_);refine qg (xe L 900 (xx sb rb sv R'.at_ R2) (r:=xx sb rb sv R'.at_ R2) Z Z Z Z Z (fun u H C hH _ hr hC=>ku hH hr hC)) (Zg (h:=?_));refine Zf6 (h:=?_);refine ZeL (h:=?_);refine Zf5 (h:=?_);refine Ze0 (h:=?_);refine j9 (zz L (vs:=[_,_,_,_,_,_]) (qt Z h11) Z Z Z Z ⟨_,rfl⟩) Z (j9 (qb L Z Z (zm Z) Z Z Z (fun u H hH hle _=>jr g4 hH (hv1.le hle))) Z (Ze0 (h:=?_)));refine j9 (zo L (qt Z h11) Z Z Z Z) Z (Zf7 (h:=?_));refine rm [(48,.is (kq sb)),(55,.is (.bool false)),(900,.own (xx sb rb sv R'.at_ R2).res)] J ⟨Z,Z,Z,nm⟩ (jw (r:=(xx sb rb sv R'.at_ R2).res) (K:=8) L 900 rfl Z Z Z Z (fun u H C hH hle hr hC=>f9 hH hr hC) (fun _ _ _ _ h=>h) ?_)
        repeat (first | refine wh ?_ | refine jq ?_)
        exact dh hs1
       ·rw[nc hm2] at hW;have g4:=m9.1 hm2;have hj2:ChJ bs l n Y (i+1) (some t) (a) (d++[(t,true)]) R2:=⟨hlt,by rw[show n-(i+1)=m by omega];exact hW,g1,hta,⟨fun h=>by(cases h),fun h=>by(cases h)⟩,by simp only[nr,zp3];omega,hza,fun c hc=>by(rcases mn.1 hc with h3 | h3;exact hzd c h3;rw[m7] at h3;subst h3;exact htz)⟩
        refine(Zc9∘Z7∘Zd∘Zu∘Zb5) ?_;refine jv 900 901 rfl Z (xi (GRd rb sv R')) ?_;refine Za7 (h:=?_);refine qg (yk L 900 (xx sb rb sv R'.at_ R2) (chv t true) (r:=xx sb rb sv fr R') Z Z Z Z Z (fun u H C hH hle hr hC=>js (x:=(t,true)) (fst:=[kq rb]) (cap:=[]) Z g1 hH hr hC (fun u3 H3 C3 hH3 hle3 hr3 hC3=>hsrc hH3 ((hs.le hle).le hle3) hr3 hC3))) (ZY (h:=?_));refine jd 11 913 rfl fun b11=>?_;refine wk 913 rfl fun H1 hs1 _ h11=>?_;have hv1:=hv.le hs1.le;refine(Zaq∘Zbq) ?_;refine z71 L Z (fun u H hH _=>je htz hH) ?_;refine ZN (h:=?_);refine qg (xe L 900 (xx sb rb sv R'.at_ R2) (r:=xx sb rb sv R'.at_ R2) Z Z Z Z Z (fun u H C hH _ hr hC=>ku hH hr hC)) ((Zg∘Z4∘Zb∘ZN∘Zau∘Za4) ?_);refine qg (xe L 900 (xx sb rb sv R'.at_ R2) (r:=xx sb rb sv R'.at_ R2) Z Z Z Z Z (fun u H C hH _ hr hC=>ku hH hr hC)) ((Zg∘Zez∘Zl∘Zcj∘Zc7) ?_);refine z81 L Z (fun u H hH hle=>jr g4 hH (hv1.le hle)) ?_;refine(Zdc∘Z9∘Zd1) ?_;refine kf (xe L 900 (xx sb rb sv R'.at_ R2) (r:=xx sb rb sv R'.at_ R2) Z Z Z Z Z (fun u H C hH _ hr hC=>ku hH hr hC)) Z Z ((ZaV∘ZJ∘Zbq∘ZaU∘Zg∘Zae∘Zai∘Zcr∘Z3∘ZaD) ?_);refine qg (yu (.inl Z) Z) ((Zef∘ZaF∘ZdI) ?_);refine qg (yu (.inr Z) Z) ((ZaA∘Zaj∘ZB) ?_);exact jn (x:=(i,none,a,d,R',fr)) (i+1,some t,a,d++[(t,true)],R2,R'.at_) hs1 hj2 G ⟨Z,Z,Z,Z,lh Z,Z,Z,Z,Z,Z,nm⟩
      | false=>
       by_cases hm2:decide (t∈l)≠false
       ·rw[na hm2] at hW;subst hW;rw[na (show(5:Int)≠0 by decide)] at hW0;cases hW0;have g4:decide (t∈l)=true:=by cases hq:decide (t∈l)<;>simp_all
        refine(Zc9∘Z7∘Zd∘Zu∘Zb5) ?_;refine jv 900 901 rfl Z (xi (GRd rb sv R')) ?_;refine Za7 (h:=?_);refine qg (yk L 900 (xx sb rb sv R'.at_ R2) (chv t false) (r:=xx sb rb sv fr R') Z Z Z Z Z (fun u H C hH hle hr hC=>js (x:=(t,false)) (fst:=[kq rb]) (cap:=[]) Z g1 hH hr hC (fun u3 H3 C3 hH3 hle3 hr3 hC3=>hsrc hH3 ((hs.le hle).le hle3) hr3 hC3))) (ZY (h:=?_));refine jd 11 913 rfl fun b11=>?_;refine wk 913 rfl fun H1 hs1 _ h11=>?_;have hv1:=hv.le hs1.le;refine(Zaq∘Zbq) ?_;refine z71 L Z (fun u H hH _=>je htz hH) ?_;refine ZN (h:=?_);refine qg (xe L 900 (xx sb rb sv R'.at_ R2) (r:=xx sb rb sv R'.at_ R2) Z Z Z Z Z (fun u H C hH _ hr hC=>ku hH hr hC)) ((Zg∘Z4∘Zb∘ZN∘Zau∘Za4) ?_);refine qg (xe L 900 (xx sb rb sv R'.at_ R2) (r:=xx sb rb sv R'.at_ R2) Z Z Z Z Z (fun u H C hH _ hr hC=>ku hH hr hC)) (Zg (h:=?_));refine Zf6 (h:=?_);refine ZeL (h:=?_);refine Zf5 (h:=?_);refine Ze0 (h:=?_);refine j9 (zz L (vs:=[_,_,_,_,_,_]) (qt Z h11) Z Z Z Z ⟨_,rfl⟩) Z (j9 (qb L Z Z (zm Z) Z Z Z (fun u H hH hle _=>jr g4 hH (hv1.le hle))) Z (Ze0 (h:=?_)));refine j9 (zo L (qt Z h11) Z Z Z Z) Z (Zf7 (h:=?_));refine rm [(48,.is (kq sb)),(55,.is (.bool false)),(900,.own (xx sb rb sv R'.at_ R2).res)] J ⟨Z,Z,Z,nm⟩ (jw (r:=(xx sb rb sv R'.at_ R2).res) (K:=8) L 900 rfl Z Z Z Z (fun u H C hH hle hr hC=>f9 hH hr hC) (fun _ _ _ _ h=>h) ?_)
        repeat (first | refine wh ?_ | refine jq ?_)
        exact dh hs1
       ·rw[nc hm2] at hW;have g4:=m9.1 hm2;have hj2:ChJ bs l n Y (i+1) (some t) (a++[(t,false)]) (d) R2:=⟨hlt,by rw[show n-(i+1)=m by omega];exact hW,g1,hta,⟨fun h=>by(cases h),fun h=>by(cases h)⟩,by simp only[nr,zp3];omega,fun c hc=>by(rcases mn.1 hc with h3 | h3;exact hza c h3;rw[m7] at h3;subst h3;exact htz),hzd⟩
        refine(Zc9∘Z7∘Zd∘Zu∘Zb5) ?_;refine jv 900 901 rfl Z (xi (GRd rb sv R')) ?_;refine Za7 (h:=?_);refine qg (yk L 900 (xx sb rb sv R'.at_ R2) (chv t false) (r:=xx sb rb sv fr R') Z Z Z Z Z (fun u H C hH hle hr hC=>js (x:=(t,false)) (fst:=[kq rb]) (cap:=[]) Z g1 hH hr hC (fun u3 H3 C3 hH3 hle3 hr3 hC3=>hsrc hH3 ((hs.le hle).le hle3) hr3 hC3))) (ZY (h:=?_));refine jd 11 913 rfl fun b11=>?_;refine wk 913 rfl fun H1 hs1 _ h11=>?_;have hv1:=hv.le hs1.le;refine(Zaq∘Zbq) ?_;refine z71 L Z (fun u H hH _=>je htz hH) ?_;refine ZN (h:=?_);refine qg (xe L 900 (xx sb rb sv R'.at_ R2) (r:=xx sb rb sv R'.at_ R2) Z Z Z Z Z (fun u H C hH _ hr hC=>ku hH hr hC)) ((Zg∘Z4∘Zb∘ZN∘Zau∘Za4) ?_);refine qg (xe L 900 (xx sb rb sv R'.at_ R2) (r:=xx sb rb sv R'.at_ R2) Z Z Z Z Z (fun u H C hH _ hr hC=>ku hH hr hC)) ((Zg∘Zez∘Zl∘Zcj∘Zc7) ?_);refine z81 L Z (fun u H hH hle=>jr g4 hH (hv1.le hle)) ?_;refine(Zdc∘Z9∘Zd1) ?_;refine kf (xe L 900 (xx sb rb sv R'.at_ R2) (r:=xx sb rb sv R'.at_ R2) Z Z Z Z Z (fun u H C hH _ hr hC=>ku hH hr hC)) Z Z ((ZaV∘ZJ∘Zbq∘ZaU∘Zg∘Zae∘Zai∘Zcr∘ZaJ∘Zaa) ?_);refine qg (yu (.inl Z) Z) ((Zef∘ZaF∘ZdI) ?_);refine qg (yu (.inr Z) Z) ((ZaA∘Zaj∘ZB) ?_);exact jn (x:=(i,none,a,d,R',fr)) (i+1,some t,a++[(t,false)],d,R2,R'.at_) hs1 hj2 G ⟨Z,Z,Z,lh Z,Z,Z,Z,Z,Z,Z,nm⟩
     | some y=>
      have hi0:i≠0:=fun h=>by have:=hfst.2 h;cases this
      by_cases hbh:za1 (some y) t=false
      ·rw[na hbh] at hW;subst hW;rw[na (show(18:Int)≠0 by decide)] at hW0;cases hW0;have g3:¬ kw y t<0:=of_decide_eq_false hbh;refine(Zc9∘Z7∘Zd∘Zu∘Zb5) ?_;refine jv 900 901 rfl Z (xi (GRd rb sv R')) ?_;refine Za7 (h:=?_);refine qg (yk L 900 (xx sb rb sv R'.at_ R2) (chv t k) (r:=xx sb rb sv fr R') Z Z Z Z Z (fun u H C hH hle hr hC=>js (x:=(t,k)) (fst:=[kq rb]) (cap:=[]) Z g1 hH hr hC (fun u3 H3 C3 hH3 hle3 hr3 hC3=>hsrc hH3 ((hs.le hle).le hle3) hr3 hC3))) (ZY (h:=?_));refine jd 11 913 rfl fun b11=>?_;refine wk 913 rfl fun H1 hs1 _ h11=>?_;have hv1:=hv.le hs1.le;refine(Zaq∘Zbq) ?_;refine z71 L Z (fun u H hH _=>je htz hH) ?_;refine ZN (h:=?_);refine qg (xe L 900 (xx sb rb sv R'.at_ R2) (r:=xx sb rb sv R'.at_ R2) Z Z Z Z Z (fun u H C hH _ hr hC=>ku hH hr hC)) (Zg (h:=?_));refine jz (id:=10) 10 rfl ((Zb∘ZT∘Za∘Za3∘Zbq) ?_);refine z71 L Z (fun u H hH _=>j8 (a:=y) (b:=t) hH) ?_;refine(Z0∘Zi∘Zab) ?_;refine jw (r:=(xx sb rb sv R'.at_ R2).res) (K:=10) L 900 rfl Z Z Z Z (fun u H C hH hle hr hC=>f9 hH hr hC) (fun _ _ _ _ h=>h) ?_
       repeat (first | refine wh ?_ | refine jq ?_)
       exact dh hs1
      ·rw[nc hbh] at hW;have g3:kw y t<0:=by unfold za1 at hbh;exact Decidable.not_not.1 fun h=>hbh (decide_eq_false h)
       cases k with
       | true=>
        by_cases hm2:decide (t∈l)≠true
        ·rw[na hm2] at hW;subst hW;rw[na (show(5:Int)≠0 by decide)] at hW0;cases hW0;have g4:decide (t∈l)=false:=by cases hq:decide (t∈l)<;>simp_all
         refine(Zc9∘Z7∘Zd∘Zu∘Zb5) ?_;refine jv 900 901 rfl Z (xi (GRd rb sv R')) ?_;refine Za7 (h:=?_);refine qg (yk L 900 (xx sb rb sv R'.at_ R2) (chv t true) (r:=xx sb rb sv fr R') Z Z Z Z Z (fun u H C hH hle hr hC=>js (x:=(t,true)) (fst:=[kq rb]) (cap:=[]) Z g1 hH hr hC (fun u3 H3 C3 hH3 hle3 hr3 hC3=>hsrc hH3 ((hs.le hle).le hle3) hr3 hC3))) (ZY (h:=?_));refine jd 11 913 rfl fun b11=>?_;refine wk 913 rfl fun H1 hs1 _ h11=>?_;have hv1:=hv.le hs1.le;refine(Zaq∘Zbq) ?_;refine z71 L Z (fun u H hH _=>je htz hH) ?_;refine ZN (h:=?_);refine qg (xe L 900 (xx sb rb sv R'.at_ R2) (r:=xx sb rb sv R'.at_ R2) Z Z Z Z Z (fun u H C hH _ hr hC=>ku hH hr hC)) ((Zg∘Z4∘Zb∘ZT∘Za∘Za3∘Zbq) ?_);refine z71 L Z (fun u H hH _=>j8 (a:=y) (b:=t) hH) ?_;refine(ZU∘Zi) ?_;refine qg (xe L 900 (xx sb rb sv R'.at_ R2) (r:=xx sb rb sv R'.at_ R2) Z Z Z Z Z (fun u H C hH _ hr hC=>ku hH hr hC)) (Zg (h:=?_));refine Zf6 (h:=?_);refine ZeL (h:=?_);refine Zf5 (h:=?_);refine Ze0 (h:=?_);refine j9 (zz L (vs:=[_,_,_,_,_,_]) (qt Z h11) Z Z Z Z ⟨_,rfl⟩) Z (j9 (qb L Z Z (zm Z) Z Z Z (fun u H hH hle _=>jr g4 hH (hv1.le hle))) Z (Ze0 (h:=?_)));refine j9 (zo L (qt Z h11) Z Z Z Z) Z (Zf7 (h:=?_));refine rm [(48,.is (kq sb)),(55,.is (.bool false)),(900,.own (xx sb rb sv R'.at_ R2).res)] J ⟨Z,Z,Z,nm⟩ (jw (r:=(xx sb rb sv R'.at_ R2).res) (K:=8) L 900 rfl Z Z Z Z (fun u H C hH hle hr hC=>f9 hH hr hC) (fun _ _ _ _ h=>h) ?_)
         repeat (first | refine wh ?_ | refine jq ?_)
         exact dh hs1
        ·rw[nc hm2] at hW;have g4:=m9.1 hm2;have hj2:ChJ bs l n Y (i+1) (some t) (a) (d++[(t,true)]) R2:=⟨hlt,by rw[show n-(i+1)=m by omega];exact hW,g1,hta,⟨fun h=>by(cases h),fun h=>by(cases h)⟩,by simp only[nr,zp3];omega,hza,fun c hc=>by(rcases mn.1 hc with h3 | h3;exact hzd c h3;rw[m7] at h3;subst h3;exact htz)⟩
         refine(Zc9∘Z7∘Zd∘Zu∘Zb5) ?_;refine jv 900 901 rfl Z (xi (GRd rb sv R')) ?_;refine Za7 (h:=?_);refine qg (yk L 900 (xx sb rb sv R'.at_ R2) (chv t true) (r:=xx sb rb sv fr R') Z Z Z Z Z (fun u H C hH hle hr hC=>js (x:=(t,true)) (fst:=[kq rb]) (cap:=[]) Z g1 hH hr hC (fun u3 H3 C3 hH3 hle3 hr3 hC3=>hsrc hH3 ((hs.le hle).le hle3) hr3 hC3))) (ZY (h:=?_));refine jd 11 913 rfl fun b11=>?_;refine wk 913 rfl fun H1 hs1 _ h11=>?_;have hv1:=hv.le hs1.le;refine(Zaq∘Zbq) ?_;refine z71 L Z (fun u H hH _=>je htz hH) ?_;refine ZN (h:=?_);refine qg (xe L 900 (xx sb rb sv R'.at_ R2) (r:=xx sb rb sv R'.at_ R2) Z Z Z Z Z (fun u H C hH _ hr hC=>ku hH hr hC)) ((Zg∘Z4∘Zb∘ZT∘Za∘Za3∘Zbq) ?_);refine z71 L Z (fun u H hH _=>j8 (a:=y) (b:=t) hH) ?_;refine(ZU∘Zi) ?_;refine qg (xe L 900 (xx sb rb sv R'.at_ R2) (r:=xx sb rb sv R'.at_ R2) Z Z Z Z Z (fun u H C hH _ hr hC=>ku hH hr hC)) ((Zg∘Zez∘Zl∘Zcj∘Zc7) ?_);refine z81 L Z (fun u H hH hle=>jr g4 hH (hv1.le hle)) ?_;refine(Zdc∘Z9∘Zd1) ?_;refine kf (xe L 900 (xx sb rb sv R'.at_ R2) (r:=xx sb rb sv R'.at_ R2) Z Z Z Z Z (fun u H C hH _ hr hC=>ku hH hr hC)) Z Z ((ZaV∘ZJ∘Zbq∘ZaU∘Zg∘Zae∘Zai∘Zcr∘Z3∘ZaD) ?_);refine qg (yu (.inl Z) Z) ((Zef∘ZaF∘ZdI) ?_);refine qg (yu (.inr Z) Z) ((ZaA∘Zaj∘ZB) ?_);exact jn (x:=(i,some y,a,d,R',fr)) (i+1,some t,a,d++[(t,true)],R2,R'.at_) hs1 hj2 G ⟨Z,Z,Z,Z,lh Z,Z,Z,Z,Z,Z,nm⟩
       | false=>
        by_cases hm2:decide (t∈l)≠false
        ·rw[na hm2] at hW;subst hW;rw[na (show(5:Int)≠0 by decide)] at hW0;cases hW0;have g4:decide (t∈l)=true:=by cases hq:decide (t∈l)<;>simp_all
         refine(Zc9∘Z7∘Zd∘Zu∘Zb5) ?_;refine jv 900 901 rfl Z (xi (GRd rb sv R')) ?_;refine Za7 (h:=?_);refine qg (yk L 900 (xx sb rb sv R'.at_ R2) (chv t false) (r:=xx sb rb sv fr R') Z Z Z Z Z (fun u H C hH hle hr hC=>js (x:=(t,false)) (fst:=[kq rb]) (cap:=[]) Z g1 hH hr hC (fun u3 H3 C3 hH3 hle3 hr3 hC3=>hsrc hH3 ((hs.le hle).le hle3) hr3 hC3))) (ZY (h:=?_));refine jd 11 913 rfl fun b11=>?_;refine wk 913 rfl fun H1 hs1 _ h11=>?_;have hv1:=hv.le hs1.le;refine(Zaq∘Zbq) ?_;refine z71 L Z (fun u H hH _=>je htz hH) ?_;refine ZN (h:=?_);refine qg (xe L 900 (xx sb rb sv R'.at_ R2) (r:=xx sb rb sv R'.at_ R2) Z Z Z Z Z (fun u H C hH _ hr hC=>ku hH hr hC)) ((Zg∘Z4∘Zb∘ZT∘Za∘Za3∘Zbq) ?_);refine z71 L Z (fun u H hH _=>j8 (a:=y) (b:=t) hH) ?_;refine(ZU∘Zi) ?_;refine qg (xe L 900 (xx sb rb sv R'.at_ R2) (r:=xx sb rb sv R'.at_ R2) Z Z Z Z Z (fun u H C hH _ hr hC=>ku hH hr hC)) (Zg (h:=?_));refine Zf6 (h:=?_);refine ZeL (h:=?_);refine Zf5 (h:=?_);refine Ze0 (h:=?_);refine j9 (zz L (vs:=[_,_,_,_,_,_]) (qt Z h11) Z Z Z Z ⟨_,rfl⟩) Z (j9 (qb L Z Z (zm Z) Z Z Z (fun u H hH hle _=>jr g4 hH (hv1.le hle))) Z (Ze0 (h:=?_)));refine j9 (zo L (qt Z h11) Z Z Z Z) Z (Zf7 (h:=?_));refine rm [(48,.is (kq sb)),(55,.is (.bool false)),(900,.own (xx sb rb sv R'.at_ R2).res)] J ⟨Z,Z,Z,nm⟩ (jw (r:=(xx sb rb sv R'.at_ R2).res) (K:=8) L 900 rfl Z Z Z Z (fun u H C hH hle hr hC=>f9 hH hr hC) (fun _ _ _ _ h=>h) ?_)
         repeat (first | refine wh ?_ | refine jq ?_)
         exact dh hs1
        ·rw[nc hm2] at hW;have g4:=m9.1 hm2;have hj2:ChJ bs l n Y (i+1) (some t) (a++[(t,false)]) (d) R2:=⟨hlt,by rw[show n-(i+1)=m by omega];exact hW,g1,hta,⟨fun h=>by(cases h),fun h=>by(cases h)⟩,by simp only[nr,zp3];omega,fun c hc=>by(rcases mn.1 hc with h3 | h3;exact hza c h3;rw[m7] at h3;subst h3;exact htz),hzd⟩
         refine(Zc9∘Z7∘Zd∘Zu∘Zb5) ?_;refine jv 900 901 rfl Z (xi (GRd rb sv R')) ?_;refine Za7 (h:=?_);refine qg (yk L 900 (xx sb rb sv R'.at_ R2) (chv t false) (r:=xx sb rb sv fr R') Z Z Z Z Z (fun u H C hH hle hr hC=>js (x:=(t,false)) (fst:=[kq rb]) (cap:=[]) Z g1 hH hr hC (fun u3 H3 C3 hH3 hle3 hr3 hC3=>hsrc hH3 ((hs.le hle).le hle3) hr3 hC3))) (ZY (h:=?_));refine jd 11 913 rfl fun b11=>?_;refine wk 913 rfl fun H1 hs1 _ h11=>?_;have hv1:=hv.le hs1.le;refine(Zaq∘Zbq) ?_;refine z71 L Z (fun u H hH _=>je htz hH) ?_;refine ZN (h:=?_);refine qg (xe L 900 (xx sb rb sv R'.at_ R2) (r:=xx sb rb sv R'.at_ R2) Z Z Z Z Z (fun u H C hH _ hr hC=>ku hH hr hC)) ((Zg∘Z4∘Zb∘ZT∘Za∘Za3∘Zbq) ?_);refine z71 L Z (fun u H hH _=>j8 (a:=y) (b:=t) hH) ?_;refine(ZU∘Zi) ?_;refine qg (xe L 900 (xx sb rb sv R'.at_ R2) (r:=xx sb rb sv R'.at_ R2) Z Z Z Z Z (fun u H C hH _ hr hC=>ku hH hr hC)) ((Zg∘Zez∘Zl∘Zcj∘Zc7) ?_);refine z81 L Z (fun u H hH hle=>jr g4 hH (hv1.le hle)) ?_;refine(Zdc∘Z9∘Zd1) ?_;refine kf (xe L 900 (xx sb rb sv R'.at_ R2) (r:=xx sb rb sv R'.at_ R2) Z Z Z Z Z (fun u H C hH _ hr hC=>ku hH hr hC)) Z Z ((ZaV∘ZJ∘Zbq∘ZaU∘Zg∘Zae∘Zai∘Zcr∘ZaJ∘Zaa) ?_);refine qg (yu (.inl Z) Z) ((Zef∘ZaF∘ZdI) ?_);refine qg (yu (.inr Z) Z) ((ZaA∘Zaj∘ZB) ?_);exact jn (x:=(i,some y,a,d,R',fr)) (i+1,some t,a++[(t,false)],d,R2,R'.at_) hs1 hj2 G ⟨Z,Z,Z,lh Z,Z,Z,Z,Z,Z,Z,nm⟩
  ·obtain rfl:i=n:=by have:=hj.hi;omega
   have hW:=hj.hW;rw[zqc] at hW;have hW2:(((a,d),R'),((0:Int),(0:Int)))=Y:=hW;subst hW2;rw[nc (fun h=>h rfl)] at hW0;dsimp only at hW0;by_cases h3:l.length+a.length>4096+d.length
   ·rw[na h3] at hW0;cases hW0;have hlen:=hj.len;refine uj (r1:=xu sb [kq rb,.int .i64 fr] Pj) (r2:=(GRd rb sv R').res) 900 901 rfl (xi _) ?_;refine gt 5 rfl ?_;refine Br 6 931 _ Z SlR.shape fun z6 hz6=>?_;obtain⟨p6,c6,rfl⟩:=hz6;refine(Zd8∘Zak∘Zbx∘Zb∘Zap) ?_;refine xo (yl L (q:=900) (cs':=[kq rb,.int .i64 R.at_]) Z Z Z Z Z) (Zg (h:=?_));refine jz (id:=18) 10 rfl ((Za∘Zbg) ?_);refine z71 L Z (fun u H hH hle=>lq (l:=l) Z hH (hv.le hle)) ?_;refine(Zj∘Zay∘Za∘Zco∘Zdi∘ZcO) ?_;refine jv 900 901 rfl Z (xi (GRd rb sv R')) ?_;refine Zab (h:=?_);refine jw (r:=(xx sb rb sv R.at_ R').res) (K:=10) L 900 rfl Z Z Z Z (fun u H C hH hle hr hC=>f9 hH hr hC) (fun _ _ _ _ h=>h) ?_
    repeat (first | refine wh ?_ | refine jq ?_)
    exact dh nq
   ·rw[nc h3] at hW0;cases hW0;exact ni Z he
def Y4:∀ {k:Nat} {la:Option U} {a d:List CH} {R:Rd},R.at_<=bs.length->(E8 bs l k la a d R).1.2.at_<=bs.length
 | 0,_,_,_,_,h=>h
 | k+1,la,a,d,R,h=>by
  unfold E8;split
  ·exact h
  ·split
   ·exact h
   ·split
    ·exact h
    ·split
     ·exact h
     ·exact Y4 (Oo h)
def zh0(h:R.at_<=bs.length):(A5 bs l R).1.2.at_<=bs.length:=by
 have h1:=o0 (bs:=bs) (lim:=8192) h;unfold A5;split
 ·exact h
 ·split
  ·exact h
  ·split
   ·exact h
   ·exact Y4 h1
def zdm(h:l.length<=4096):(A5 bs l R).1.1.length<=4096:=by
 unfold A5;split
 ·exact h
 ·split
  ·exact h
  ·split
   ·exact h
   ·exact Ho _ h
def Q5:∀ {k:Nat} {la:Option U} {a d:List CH} {R:Rd},R.err=0->(E8 bs l k la a d R).2.2=0->(E8 bs l k la a d R).1.2.err=0
 | 0,_,_,_,_,h,_=>h
 | k+1,la,a,d,R,h,he=>by
  unfold E8 at he |-;by_cases h1:(de bs R).2.err≠0
  ·rw[na h1] at he;exact ni he h1
  ·rw[nc h1] at he |-;by_cases h2:tE (de bs R).1.1≠0
   ·rw[na h2] at he;exact ni he (show(6:Int)≠0 by decide)
   ·rw[nc h2] at he |-;by_cases h3:za1 la (de bs R).1.1=false
    ·rw[na h3] at he;exact ni he (show(18:Int)≠0 by decide)
    ·rw[nc h3] at he |-;by_cases h4:decide ((de bs R).1.1∈l)≠(de bs R).1.2
     ·rw[na h4] at he;exact ni he (show(5:Int)≠0 by decide)
     ·rw[nc h4] at he |-;exact Q5 (m9.1 h1) he
def zdn(he:(A5 bs l R).2.2=0):(A5 bs l R).1.2.err=0:=by
 unfold A5 at he |-;by_cases h1:(wl bs 8192 R).2.err≠0
 ·rw[na h1] at he;exact ni he h1
 ·rw[nc h1] at he |-;split at he
  ·rename_i h2;exact ni he h2
  ·rename_i h2;rw[nc h2];split at he
   ·exact ni he (show(3:Int)≠0 by decide)
   ·rename_i h3;rw[nc h3];exact Q5 (m9.1 h1) (m9.1 h2)
def ldW(bs:List Nat):Nat->Nat->List U->List (Int×List U)->List Int->Rd->((List (Int×List U)×List Int)×Rd)×(Int×Int)
 | 0,_,_,zs,P,R=>(((zs,P),R),(0,0))
 | k+1,last,s,zs,P,R=>
  if (r7 bs R).2.err≠0 then (((zs,P),R),(((r7 bs R).2.bad:Int),(r7 bs R).2.err))
  else if ¬ (0<(r7 bs R).1/\(r7 bs R).1<=18446744073709551615-last) then (((zs,P),R),((R.at_:Int),5))
  else if (wl bs 4096 (r7 bs R).2).2.err≠0 then (((zs,P),R),(((wl bs 4096 (r7 bs R).2).2.bad:Int),(wl bs 4096 (r7 bs R).2).2.err))
  else if (A5 bs s (wl bs 4096 (r7 bs R).2).2).2.2≠0 then (((zs,P),R),(A5 bs s (wl bs 4096 (r7 bs R).2).2).2)
  else ldW bs k (last+(r7 bs R).1) (A5 bs s (wl bs 4096 (r7 bs R).2).2).1.1 (zs++[(((last+(r7 bs R).1:Nat):Int),(A5 bs s (wl bs 4096 (r7 bs R).2).2).1.1)]) (P++List.replicate (wl bs 4096 (r7 bs R).2).1.toNat ((last+(r7 bs R).1:Nat):Int)) (A5 bs s (wl bs 4096 (r7 bs R).2).2).1.2
def ldF(bs:List Nat):(List (Int×List U)×List Int)×(Int×Int):=
 if (wl bs 1024 ⟨0,0,0⟩).2.err≠0 then (([],[]),(((wl bs 1024 ⟨0,0,0⟩).2.bad:Int),(wl bs 1024 ⟨0,0,0⟩).2.err))
 else if (wl bs 1024 ⟨0,0,0⟩).1=0 then (([],[]),(0,5))
 else if (ldW bs (wl bs 1024 ⟨0,0,0⟩).1.toNat 0 [] [] [] (wl bs 1024 ⟨0,0,0⟩).2).2.2≠0 then (([],[]),(ldW bs (wl bs 1024 ⟨0,0,0⟩).1.toNat 0 [] [] [] (wl bs 1024 ⟨0,0,0⟩).2).2)
 else if (Hb bs (ldW bs (wl bs 1024 ⟨0,0,0⟩).1.toNat 0 [] [] [] (wl bs 1024 ⟨0,0,0⟩).2).1.2).2≠0 then (([],[]),(((Hb bs (ldW bs (wl bs 1024 ⟨0,0,0⟩).1.toNat 0 [] [] [] (wl bs 1024 ⟨0,0,0⟩).2).1.2).1:Int),(Hb bs (ldW bs (wl bs 1024 ⟨0,0,0⟩).1.toNat 0 [] [] [] (wl bs 1024 ⟨0,0,0⟩).2).1.2).2))
 else ((ldW bs (wl bs 1024 ⟨0,0,0⟩).1.toNat 0 [] [] [] (wl bs 1024 ⟨0,0,0⟩).2).1.1,(0,0))
end Go.V.L11
namespace Go.V.L10
def Tb{L:List Int}(hn:0<n):k8 (L++List.replicate n r)=k8 (L++[r]):=fm lm (uq _) (uq _) fun z=>by
 rw[jx,jx,mn,mn,List.mem_replicate,m7];constructor
 ·rintro(h | h)
  ·exact .inl h
  ·exact .inr h.2
 ·rintro(h | h)
  ·exact .inl h
  ·exact .inr ⟨by omega,h⟩
def Cp{L:List Int}(hn:0<n)(h:r∉L):xh (L++List.replicate n r)=L5 (xh L) (ct cP r (k8 L)) (r,(n:Int)):=by
 have key:∀ l:List Int,(∀ x∈l,x∈L)->l.map (fun x=>(x,((L++List.replicate n r).count x:Int)))=l.map fun x=>(x,(L.count x:Int)):=fun l hl=>zsb fun x hx=>by
  have hxr:x≠r:=fun e=>h (e ▸ hl x hx);simp [zrf,List.count_replicate,hxr.symm]
 unfold xh L5;rw[Tb hn,E4 h,zpb,mz,zqb,zqs,<-zqb,<-zqs,key _ fun x hx=>jx.1 (zrv hx),key _ fun x hx=>jx.1 (zsq hx),zqb,zqs];congr 2;simp [zrf,zsc.2 h]
attribute [local irreducible] V N X VO Par StepOK Has Ret RetL RetO RetT kz RetX Src
def Tn(h:¬ r∈k8 L0)(hz2:(xh L0).length<=100000)(hB:zs4 B w)(hv:PsV (xh L0) s B):
  Ret zs5 143 [pnv s t,.int .u64 r] w B (fun v _=>v=.int .i64 0):=by
 have h1:=Ab (r:=r) (t:=t) hz2 hB hv
 rwa [zsc.2 fun hm=>h (jx.2 hm)] at h1
def Xj(hr:r≠0)(hn0:0<n)(hn:n<=4096)(hnew:r∉L0)(hz2:(xh L0).length<1024)(hz:L0.length<=1000000000000)(hB:zs4 B w)(hv:PsV (xh L0) s B):
  Ret zs5 152 [pnv s L0.length,.int .u64 r,.int .i64 n] w B (PinP (L0++List.replicate n r) 0):=by
 have hm:¬ r∈k8 L0:=fun h=>hnew (jx.1 h);have hws:IntKind.i64.wrap (4096-0)=4096:=E;have hwt:IntKind.i64.wrap ((L0.length:Int)+(n:Int))=((L0++List.replicate n r).length:Nat):=by rw[nr,List.length_replicate];exact(xb T T).trans T
 have hwc:IntKind.i64.wrap (0+(n:Int))=(n:Int):=(xb T T).trans T;have e1:=Cp (L:=L0) hn0 hnew;obtain⟨p,c,rfl⟩:=jk hv;have hpl:=Vg (L0:=L0) r;have hf:decide (r∈k8 L0)=false:=ng hm;generalize hat:ct cP r (k8 L0)=at_ at *;have e2:xh (L0++List.replicate n r)=(L5 (xh L0) at_ (r,0)).set at_ (r,(n:Int)):=by rw[Qn hpl];exact e1
 have hp:=X8 (x:=(r,(0:Int))) hpl;have hpi:=get_lt hp;have hil:=o4 (x:=(r,(0:Int))) hpl;refine yr Tryz.func152 Z Tryz.ntmps152 (np Z) hB ((ZD∘ZE∘Zd∘ZF∘Zbp∘Z0∘Zav∘Zr∘ZT∘Zav∘ZS∘ZT∘Zs∘Zac∘Zaw∘Zbh∘Zy∘ZbV∘Za) ?_);refine z71 L Z (fun u H hH hle=>hf ▸ hat ▸ si (L0:=L0) (t:=L0.length) T hH (hv.le hle)) ?_;refine(ZA∘ZcM∘ZaI∘ZbV∘Za) ?_;refine z71 L Z (fun u H hH hle=>Tn (L0:=L0) (t:=L0.length) hm T hH (hv.le hle)) ?_;refine(Zax∘ZM∘Zb∘Zm∘Za∘Zo∘Zco∘ZT∘Zi∘Zcz∘Z4∘Zo∘ZfO) ?_;refine qg (yu (.inr Z) Z) ((ZaC∘ZG∘Za∘Zm∘Z3∘ZJ) ?_);refine qg (yu (.inl Z) Z) (Zb (h:=?_));refine z7 (yv (cs:=[_,_]) Z Z zjw Z Z) Z (ZaF (h:=?_));refine qg (bh L (q:=51) Z Z Z Z Z (fun u H C x hH hle hx hC v2 hv2=>Ez (y:=(r,0)) hpl T hH hv2 hx hC)) (qg (yu (.inr Z) Z) (Zg (h:=?_)));rw[<-hil];refine Ai 10 900 rfl (fun h0 _=>by omega) fun b cap rest hl hmc hcm hcl=>?_;obtain⟨tl,hld⟩:=zgp hp rest;have hst:=Vi hp (n:Int) rest;have hbl:=Vj hpi rest;refine(Zae∘Zb∘Zdj∘Zai) ?_;refine ye (qh L (q:=900) Z Z Z hld) ((Za∘ZC∘Zdj∘Zai) ?_);refine xo (yl L (q:=900) Z Z hbl Z hst) (Zg (h:=?_));have hln:(xh (L0++List.replicate n r)).length=(L5 (xh L0) at_ (r,0)).length:=by rw[e2,zq1]
 rw[<-e2];refine f6 (s:=2) (xs:=(xh (L0++List.replicate n r)).flatMap pnc) (rest:=rest) 10 900 rfl Z Z (by rw[dp,hln]) hmc hcm (by rw[nr,dp,hln,<-dp,<-nr];exact hcl) ?_;refine zap 10 rfl fun x H hs _ hsw=>?_;have hsv:PsV (xh (L0++List.replicate n r)) x H:=by unfold PsV;rw[hln];exact hsw.toV
 obtain⟨p2,c2,rfl⟩:=jk hsv;refine(ZbL∘Zo∘Za∘ZfP∘Zbi) ?_;refine yj L (rs:=[.cell 6 224,.tmp 7]) Z (fun _ _ h=>h) hs fun u H hH hle=>?_;exact⟨_,y7 Z,rfl,_,rfl,hsv.le hle⟩
open Go.V.L2 Go.V.L8 Go.V.L6
def _root_.Zf8(t:Wr Y->A:=by intro h;refine ye (qh L (q:=902) Z Z Z Z) ?_;exact h.1)(h:Y):A:=t ⟨h⟩
attribute [local irreducible] RetY
def Yb(hz2:(xh L0).length<=100000)(hB:zs4 B w)(hv:PsV (xh L0) s B):
  Ret zs5 211 [pnv s t] w B (RsV (k8 L0) true):=by
 have hat:∀ (i:Nat) (x:Int),(k8 L0)[i]?=some x->(xh L0)[i]?=some (x,(L0.count x:Int)):=fun i x h=>Cs h;have hlen:(xh L0).length=(k8 L0).length:=vg L0;obtain⟨p,c,rfl⟩:=jk hv;refine yr Tryz.func211 Z Tryz.ntmps211 (np Z) hB ?_;by_cases h0:(k8 L0).length=0
 ·have hnil:k8 L0=[]:=zow h0;rw[hnil];refine(Zcy∘Zo∘Zco) ?_;refine z7 (Gl L (k8 L0).length Z Z Z zit Z Z (congrArg (Nat.cast (R:=Int)) hlen) (congrArg (Nat.cast (R:=Int)) hlen) T (by unfold maxLen;omega)) Z ?_;refine qg (yu (.inr Z) Z) ((ZaC∘Zv∘Zcx∘ZfM∘Zdd∘ZaR) ?_);refine Fi 3 rfl (xp (fun _:Unit=>[(3,.sat (SlV Fu 1 (zsL zs5 Fu ((k8 L0).length*1)) (k8 L0).length true)),(13,.is (.int .i64 0)),(12,.is (.int .i64 (xh L0).length))]) (fun _=>True) (fun _=>0) () trivial ⟨Z,Z,Z,nm⟩ ?_);rintro _ _;refine(Zdu∘Zak∘Zy∘Zh∘ZR∘Zw) ?_;refine yj1 L [.tmp 2] fun u H hH hle=>?_;intro v hv;have h1:(k8 L0).length*1=0:=T;rw[h0] at hv
  have hzl:zsL zs5 Fu (0*1)=[]:=by
   have:=hv.1;exact zow (by simpa using this)
  rw[hzl] at hv;exact hv
 ·refine(Zcy∘Zo∘Zco) ?_;refine z7 (Gl L (k8 L0).length Z Z Z zit Z Z (congrArg (Nat.cast (R:=Int)) hlen) (congrArg (Nat.cast (R:=Int)) hlen) T (by unfold maxLen;omega)) Z ?_;refine qg (yu (.inr Z) Z) (ZaC (h:=?_));refine zii 3 901 T Z fun b hzl=>?_;refine(Zv∘Zcx∘ZfM∘Zdd∘ZaR) ?_;generalize zsL zs5 Fu ((k8 L0).length*1)=zs at hzl |-
  refine xp (fun s:Nat×List Value=>[(3,.is (.slice (some ⟨b,0,none⟩) (k8 L0).length (k8 L0).length)),(11,.sat (PsV (xh L0))),(13,.is (.int .i64 s.1)),(12,.is (.int .i64 (xh L0).length)),(901,.own (xu b s.2 Fu))])
   (fun s=>s.1<=(k8 L0).length/\s.2.length=(k8 L0).length/\s.2.take s.1=((k8 L0).take s.1).map (Value.int .u64)) (fun s=>(k8 L0).length-s.1) (0,zs) ⟨Nat.zero_le _,by dsimp only;omega,rfl⟩ ⟨rfl,rfl,rfl,rfl,rfl,trivial⟩ ?_
  rintro⟨i,cs⟩ ⟨hi,hcs,htk⟩;dsimp only at hi hcs htk |-;by_cases hlt:i<(k8 L0).length
  ·obtain⟨x,hx⟩:=xm hlt;have hc:=Se (hat i x hx);have hle1:0+i*1+1<=cs.length:=by rw[hcs];omega
   have hwi:IntKind.i64.wrap ((i:Int)+1)=((i+1:Nat):Int):=xb T T;refine(Zcm∘Z5∘Zaz∘ZdW∘ZE∘Zs∘ZZ∘ZbG) ?_;refine ziy 5 rfl ((Zo∘Zdj) ?_);refine xo (yl L (q:=901) Z Z (zru hle1) Z Z) ((ZaA∘ZO∘ZC∘ZcK) ?_)
   exact yo (x:=(i,cs)) (i+1,cs.take (0+i*1)++([.int .u64 x]++cs.drop (0+i*1+1))) ⟨hlt,by dsimp only;rw[List.length_append,List.length_append,List.length_take,List.length_drop];simp only[List.length_cons,List.length_nil];omega,by
    dsimp only;rw[uo hx,zpb,<-htk,zo2,zqa,zq9,List.take_take,Nat.min_eq_right T,mi,zqj T,show i+1-i=1 by omega];rfl⟩ G ⟨rfl,rfl,rfl,rfl,rfl,nm⟩
  ·obtain rfl:i=(k8 L0).length:=by omega
   have hcs2:cs=(k8 L0).map (Value.int .u64):=by
    rw[zo6 T,zoy] at htk;exact htk
   subst hcs2;refine(Zdu∘Zak) ?_;refine zfg (s:=1) 3 901 rfl Z (by simp) (by unfold maxLen;omega) ?_;refine Fi 3 rfl ((Zy∘Zh∘ZR∘Zw) ?_);refine yj1 L [.tmp 2] fun u H hH hle=>?_;exact fun v hv=>hv
def Sc{zs:List (Int×SB)}{fr fb:Bool}(he:mkE (zs.map (·.1)) L0=e)(hS:e=0->MapOK (zsE zs) S.R/\(S.R.length:Int)=sc (zs.map (·.1)) zs.length/\S.P=L0)(hz:(xh L0).length<=100000)(hzb:L0.length<=1000000000000)(hZ:zs.length<=100000)
  {v1 v2 s:Value}   (hB:zs4 B w) (h1:RsV (zs.map (·.1)) fr v1 B) (h2:SsV (zs.map (·.2)) fb v2 B) (hb:SbOK (zs.map (·.2)) B) (hv:PsV (xh L0) s B):
  RetO zs5 155 [v1,v2,pnv s L0.length] w B (MkR e S):=by
 obtain⟨ps,pc,rfl⟩:=jk hv;obtain⟨rs,hrs⟩:∃ rs,rs=zs.map (·.1):=⟨_,rfl⟩
 obtain⟨bs,hbs⟩:∃ bs,bs=zs.map (·.2):=⟨_,rfl⟩
 have lr:rs.length=zs.length:=by rw[hrs,m4]
 have lb:bs.length=zs.length:=by rw[hbs,m4]
 rw[<-hrs] at he hS h1;rw[<-hbs] at h2 hb;unfold mkE at he;refine wz Tryz.func155 Z Tryz.ntmps155 (np Z) hB (k7 0 (RsV rs fr) Z ns h1 (k7 1 (SsV bs fb) Z ns h2 ?_));by_cases h0:rs.length=0
 ·rw[na h0] at he;refine(ZD∘ZaY∘ZF∘Zan∘Zj∘ZN∘Zau∘Za4∘ZbE∘Ze∘Zv∘ZI) ?_;exact Hp L (rs:=[.tmp 6,.tmp 7]) Z (fun _ _ h=>h) nq (fun _=>rfl) (fun H u _=>.inr ⟨by omega,by rw[<-he];rfl,fun _ h=>h⟩)
 ·rw[nc h0] at he;by_cases hk:1024<rs.length
  ·rw[na hk] at he;refine(ZD∘ZaY∘ZF∘Zan∘Zj∘ZT∘Za∘Zj∘Zj∘Zbf∘Zi∘Zav∘Z6∘Zj∘ZP∘ZbE∘ZcV∘ZI) ?_;exact Hp L (rs:=[.tmp 6,.tmp 7]) Z (fun _ _ h=>h) nq (fun _=>rfl) (fun H u _=>.inr ⟨by omega,by rw[<-he];rfl,fun _ h=>h⟩)
  ·rw[nc hk] at he;refine(ZD∘ZaY∘ZF∘Zan∘Zj∘ZT∘Za∘Zj∘Zj∘Zbf∘Zi∘Zav∘Z6∘Zj∘ZM∘Zs∘Zac∘Zaw∘Zbh) ?_;refine qn (id:=5) [(34,[32]),(35,[34]),(8,[35])] ko J ((Zad∘ZeK) ?_);refine z8 (N4 .u64 vcE Z mpS Z Z) Z (Zdl (h:=?_));refine kf (Su (q:=32) (fun k=>[(0,.int .u64 0),(1,.map (some k)),(2,.agg #[.slice ps (xh L0).length pc,.int .i64 L0.length])]) (fun k=>stc 0 k (.slice ps (xh L0).length pc) L0.length) Z Z Z Z zjx (fun _=>rfl) (fun _=>rfl)) Z Z (kf (zcd Z Z Z Z) Z Z (kf (yu (.inr Z) Z) Z Z ((ZaV∘Ze) ?_)));refine Hr 8 902 rfl fun x=>?_;obtain⟨b2,m2⟩:=x;rw[w9];refine uj 902 903 rfl (xi _) ?_;refine(ZO∘Zj∘ZaR) ?_;have lz:(zsE zs).length=rs.length:=by unfold zsE;rw[List.length_map,lr]
   refine xp (fun y:Nat=>[(1,.sat (SsV bs fb)),(5,.sat (At [.slice ps (xh L0).length pc,.int .i64 L0.length] 224 0)),(8,.is (eu b2)),(36,.sat (RsV rs fr)),(37,.is (.int .i64 rs.length)),(38,.is (.int .i64 y)),(902,.own (xu b2 [.int .u64 (sc rs y),.map (some m2),.slice ps (xh L0).length pc,.int .i64 L0.length] tyS)),(903,.own (Dz m2 .u64 vcE ((zsE zs).take y)))])
    (fun y=>y<=rs.length/\za4 (rs.take y)/\∀ a∈0::rs.take y,a<=sc rs y) (fun y=>rs.length-y) 0 ⟨mb _,zqk _ _,fun a ha=>by rw[zpt,m7] at ha;subst ha;exact zqq _⟩ ⟨rfl,rfl,rfl,rfl,rfl,rfl,rfl,rfl,nm⟩ ?_
   rintro i ⟨hi,hA,hmx⟩;dsimp only at hi hA hmx |-;by_cases hlt:i<rs.length
   ·obtain⟨z,hzi⟩:=xm (show i<zs.length by omega);obtain⟨x,c0⟩:=z;have hx:rs[i]?=some x:=by rw[hrs,zpl,hzi];rfl
    have hbi:bs[i]?=some c0:=by rw[hbs,zpl,hzi];rfl
    have hei:(zsE zs)[i]?=some (x,(c0.1,sbv c0)):=by unfold zsE;rw[List.getElem?_map,hzi];rfl
    obtain⟨t0,f1,p1,f2,p2⟩:=c0;have hc:=K6 hx;have hcb:=zmd hbi;have hwk:IntKind.i64.wrap ((i:Int)+1)=((i+1:Nat):Int):=xb T T;by_cases hle:x<=sc rs i
    ·have hnA:¬ za4 rs:=fun h=>by have:=zd3 h hx;omega
     rw[nc hnA] at he;refine(Ze∘Zy∘Zat∘ZaI∘Zaz∘Zdf∘ZcM∘Z2∘Zb∘Zap∘Zf8∘ZcW∘Zn∘Z4∘ZI) ?_;exact Hp L (rs:=[.tmp 6,.tmp 7]) Z (fun _ _ h=>h) nq (fun _=>rfl) (fun H u _=>.inr ⟨by omega,by rw[<-he];rfl,fun _ h=>h⟩)
    ·have hsn:=zd2 hA hmx hx T
     have hnk:x∉((zsE zs).take i).map Prod.fst:=fun hm2=>by
      have h3:((zsE zs).take i).map Prod.fst=rs.take i:=by rw[List.map_take];unfold zsE;rw[List.map_map,hrs];rfl
      rw[h3] at hm2;have:=hmx x (mh _ hm2);omega
     have hput:=zcm (y:=(t0,sbv (t0,f1,p1,f2,p2))) hnk;rw[<-uo hei] at hput;have hls:=i7 hx;refine(Ze∘Zy∘Zat∘ZaI∘Zaz∘Zdf∘ZcM∘Z2∘Zb∘Zap∘Zf8∘ZcO∘Zx∘ZG∘Zb∘Zap) ?_;refine xo (yl L (q:=902) (cs':=[.int .u64 x,.map (some m2),.slice ps (xh L0).length pc,.int .i64 L0.length]) Z Z Z Z Z) (Zw (h:=?_));refine qn (id:=12) [(200056,[902]),(100056,[903])] ko J (ZaN (h:=?_));refine qv (qh L (q:=902) Z Z Z Z) Z Z ((Zl∘ZeC) ?_);refine z8 (yn L (vs:=[_,_,_,_]) Z Z Z Z Z ⟨_,rfl⟩) Z (xq (Ep (q:=903) (vc:=vcE) x (t0,sbv (t0,f1,p1,f2,p2)) mpS kyS Z Z Z Z Z Z hput) Z ((ZcB∘Zae∘ZC∘ZcK) ?_));exact yo (x:=i) (i+1) ⟨hlt,hsn.1,hsn.2⟩ T ⟨Z,Z,Z,Z,Z,Z,by rw[hls];rfl,Z,nm⟩
   ·obtain rfl:i=rs.length:=by omega
    rw[zoy] at hA hmx;rw[na hA] at he;rw[show(zsE zs).take rs.length=zsE zs by rw[<-lz,zoy]];have hfs:(zsE zs).map Prod.fst=rs:=by unfold zsE;rw[List.map_map,hrs];rfl
    have hhl:=pz L0;refine(Ze∘Zy∘Zak∘Ze∘ZaD∘ZbV) ?_;refine z7 (xg (φ:=RsV (k8 L0) true) L Z Z (zm Z) Z Z Z ns (fun u H2 hH hle _=>Yb hz hH (hv.le hle))) Z ((Zdd∘ZaR) ?_)
    refine xp (fun y:Nat=>[(8,.is (eu b2)),(64,.sat (RsV (k8 L0) true)),(65,.is (.int .i64 (k8 L0).length)),(66,.is (.int .i64 y)),(902,.own (xu b2 [.int .u64 (sc rs rs.length),.map (some m2),.slice ps (xh L0).length pc,.int .i64 L0.length] tyS)),(903,.own (Dz m2 .u64 vcE (zsE zs)))])
     (fun y=>y<=(k8 L0).length/\∀ h∈(k8 L0).take y,h∈rs) (fun y=>(k8 L0).length-y) 0 ⟨mb _,fun h hh=>by rw[zpt] at hh;cases hh⟩ ⟨rfl,rfl,rfl,rfl,rfl,rfl,nm⟩ ?_
    rintro j ⟨hj,hin⟩;dsimp only at hj hin |-;by_cases hlt2:j<(k8 L0).length
    ·obtain⟨h,hh⟩:=xm hlt2;have hc:=K6 hh;have hwk:IntKind.i64.wrap ((j:Int)+1)=((j+1:Nat):Int):=xb T T
     cases hgk:ut h (zsE zs) with
     | none=>
      have hni:h∉rs:=fun hm2=>by rw[<-hfs,<-pq,hgk] at hm2;cases hm2
      rw[nc (fun hall=>hni (hall h (zo7 hh)))] at he;have q1:(ut h (zsE zs)).elim nilSet vcE=nilSet:=by rw[hgk];rfl
      have q2:(ut h (zsE zs)).isSome=false:=by rw[hgk];rfl
      refine(Ze∘Zaa∘Zat∘Zaj∘Zaz∘Zdf∘Zd∘Zbx∘Za∘Zap∘Zf8∘Za) ?_;refine ye (gk (q:=903) (vc:=vcE) h mpS kyS zrS Z Z Z Z Z q1 q2) ((ZA∘Za1∘Zd∘ZaO∘Za∘Zm∘Zn∘Zcs∘ZI) ?_);exact Hp L (rs:=[.tmp 6,.tmp 7]) Z (fun _ _ h=>h) nq (fun _=>rfl) (fun H u _=>.inr ⟨by omega,by rw[<-he];rfl,fun _ h=>h⟩)
     | some y=>
      have hir:h∈rs:=by rw[<-hfs,<-pq,hgk];rfl
      obtain⟨z,hz1,hz2⟩:=zoz.1 (ai hgk);obtain⟨k0,t0,f1,p1,f2,p2⟩:=z;cases hz2;have q1:(ut k0 (zsE zs)).elim nilSet vcE=.agg #[f1,.pointer p1,f2,.pointer p2]:=by rw[hgk];rfl
      have q2:(ut k0 (zsE zs)).isSome=true:=by rw[hgk];rfl
      have hpl:=(hb.mem_plain (t0,f1,p1,f2,p2) (by rw[hbs];exact zq7 (f:=(·.2)) hz1))
      refine(Ze∘Zaa∘Zat∘Zaj∘Zaz∘Zdf∘Zd∘Zbx∘Za∘Zap∘Zf8∘Za) ?_;refine ye (gk (q:=903) (vc:=vcE) k0 mpS kyS zrS Z Z Z Z Z q1 q2) ((ZA∘ZE∘Zb7∘Zd∘ZaO∘Za∘Zm∘Zbl∘ZaP∘ZC∘ZcK) ?_)
      exact yo (x:=j) (j+1) ⟨hlt2,fun a ha=>by
       rw[uo hh,mn,m7] at ha;rcases ha with ha | rfl
       ·exact hin a ha
       ·exact hir⟩ T ⟨Z,Z,Z,Z,Z,Z,nm⟩
    ·obtain rfl:j=(k8 L0).length:=by omega
     rw[zoy] at hin;rw[na hin] at he;obtain⟨hm,hl,hP⟩:=hS he.symm;subst hP;refine(Ze∘Zaa∘Zak∘ZcJ∘Za∘ZI) ?_;subst he;rw[show sc rs rs.length=(S.R.length:Int) by rw[hl,lr]];refine wc 902 903 rfl Z (xi _) ?_
     refine vn 902 (StG b2 S).res Z (fj (B:=B) (s:=.slice ps (xh S.P).length pc) (m:=m2) hm (fun e he=>by
      obtain⟨z,hz1,rfl⟩:=zoz.1 he;exact hb z.2 (by rw[hbs];exact zq7 (f:=(·.2)) hz1)) hv) ?_
     exact O4 L 902 (r0:=StG b2 S) (rs:=[.tmp 6,.tmp 7]) Z (fun _ _ h=>h) nq Z (fun _=>rfl) (fun H u C _ _ h=>.inl ⟨rfl,b2,rfl,h⟩)
end Go.V.L10
namespace Go.V.L11
open Go.V.L2 Go.V.L3 Go.V.L4 Go.V.L6 Go.V.L8 Go.V.L10
abbrev zi4:TypeId:=224
abbrev Sl3:=Option Addr×Nat×Nat
abbrev sl3(x:Sl3):Value:=.slice x.1 x.2.1 x.2.2
abbrev pnC(P:List Int)(x:Sl3):List Value:=[sl3 x,.int .i64 P.length]
abbrev pnQ(P:List Int)(x:Sl3)(H:Heap):Prop:=PsV (xh P) (sl3 x) H
def Gf(P:List Int):oc (pnQ P):=fun _ _ _ h hle=>h.le hle
abbrev PnS(P:List Int):Value->Heap->Prop:=fun v H=>∃ x:Sl3,v=.agg #[sl3 x,.int .i64 P.length]/\pnQ P x H
def PnS.mono:Kn.mono (.sat (PnS P)):=fun _ _ _ ⟨x,h1,h2⟩ hle=>⟨x,h1,h2.le hle⟩
def zjv(v:Value)(H:Heap)(h:PnS P v H):∃ x:Sl3,pnQ P x H/\ji v=pnC P x:=by
 obtain⟨x,rfl,h2⟩:=h;exact⟨x,h2,rfl⟩
abbrev PnE(P:List Int):Value->Heap->Prop:=TupS [PnS P,fun v _=>v=.int .i64 0]
def PnE.mono{P:List Int}:Kn.mono (.sat (PnE P)):=TupS.mono fun φ hφ=>by
 simp only[ma,zqp,or_false] at hφ;rcases hφ with rfl | rfl
 ·exact PnS.mono
 ·exact fun _ _ _ h _=>h
def zje{φ1 φ2:Value->Heap->Prop}{a b:Value}(h1:φ1 a H)(h2:φ2 b H):TupS [φ1,φ2] (.tuple #[a,b]) H:=⟨[a,b],rfl,rfl,fun i φ x hi hx=>by
 match i with
 | 0=>cases hi;cases hx;exact h1
 | 1=>cases hi;cases hx;exact h2
 | i+2=>cases hi⟩
attribute [local irreducible] V N X VO Par XP LV StepOK Has Ret RetL RetO RetT kz RetX RetY Pan ik Src
def Xi(hr:r≠0)(hn:n<=4096)(hnew:r∉L0)(hz2:(xh L0).length<1024)(hz:L0.length<=1000000000000){x:Sl3}(hB:zs4 B w)(hv:pnQ L0 x B):
  Ret zs5 152 [.agg #[sl3 x,.int .i64 L0.length],.int .u64 r,.int .i64 n] w B (PnE (L0++List.replicate n r)):=by
 by_cases h0:n=0
 ·subst h0;have h:=Xk (t:=(L0.length:Int)) hr (p:=x.1) (k:=x.2.1) (c:=x.2.2) hB;refine h.mono fun v H hle e=>?_;subst e;rw[show L0++List.replicate 0 r=L0 from mq _];exact zje ⟨x,rfl,hv.le hle⟩ Z
 ·have h:=Xj hr (Nat.pos_of_ne_zero h0) hn hnew hz2 hz hB hv;refine h.mono fun v H hle hp=>?_;obtain⟨s,rfl,hs⟩:=hp;obtain⟨p,c,rfl⟩:=jk hs;exact zje ⟨(p,_,c),rfl,hs⟩ Z
end Go.V.L11
namespace Go.V.L11
open Go.V.L2 Go.V.L3 Go.V.L4 Go.V.L6 Go.V.L8 Go.V.L10
structure LdZ(zs:List (Int×List U))(P:List Int)(last:Int):Prop where
 asc:za4 (zs.map (·.1))
 mx:∀ a∈0::zs.map (·.1),a<=last
 lst:sc (zs.map (·.1)) zs.length=last
 pk:∀ r∈P,r∈zs.map (·.1)
 tl:∀ z∈zs,z.2.length<=4096
def LdZ.snoc{last:Int}(h:LdZ zs P last)(hx:last<x){s:List U}(hs:s.length<=4096)(n:Nat):LdZ (zs++[(x,s)]) (P++List.replicate n x) x:=by
 have hm:(zs++[(x,s)]).map (·.1)=zs.map (·.1)++[x]:=by rw[zpb];rfl
 refine⟨?_,?_,?_,?_,?_⟩
 ·rw[hm];unfold za4;rw[<-zpd,zpq];refine⟨h.asc,zqk _ _,fun a ha b hb=>?_⟩;rw[m7.1 hb];have:=h.mx a ha;omega
 ·intro a ha;rw[hm,<-zpd,mn,m7] at ha;rcases ha with ha | rfl
  ·have:=h.mx a ha;omega
  ·omega
 ·rw[hm,nr,zp3];exact i7 (by rw[zrx (by rw[m4];omega),m4,zqc];rfl)
 ·intro r hr;rw[hm,mn];rcases mn.1 hr with h1 | h1
  ·exact .inl (h.pk r h1)
  ·exact .inr (by rw[List.mem_replicate] at h1;rw[h1.2];exact m7.2 Z)
 ·intro z hz;rcases mn.1 hz with h1 | h1
  ·exact h.tl z h1
  ·rw[m7.1 h1];exact hs
def loR(zs:List (Int×List U)):List (Option (List U)):=(List.range (sc (zs.map (·.1)) zs.length).toNat).map fun i=>ut ((i+1:Nat):Int) zs
abbrev loS(y:List (Int×List U)×List Int):Sto:=⟨loR y.1,y.2⟩
def LdZ.kpt{zs:List (Int×List U)}{P:List Int}{last:Int}(h:LdZ zs P last)(r:Int):kpt (loR zs) r=ut r zs:=by
 by_cases hr:0<r/\r<=last
 ·obtain⟨j,rfl⟩:∃ j:Nat,r=((j+1:Nat):Int):=⟨(r-1).toNat,by omega⟩
  rw[o3];unfold loR;rw[h.lst,zpl,List.getElem?_range T];show(some (ut ((j+1:Nat):Int) zs)).join=_;cases ut ((j+1:Nat):Int) zs<;>rfl
 ·have h1:ut r zs=none:=by
   cases hg:ut r zs with
   | none=>rfl
   | some t=>
    have hm:=pq.1 (show(ut r zs).isSome=true by rw[hg];rfl);exact ni ⟨(mo.1 h.asc).1 r hm,h.mx r (mh _ hm)⟩ hr
  rw[h1]
  cases hk:L10.kpt (loR zs) r with
  | none=>rfl
  | some t=>
   have h2:=bl (R:=loR zs) (r:=r) (by rw[hk];rfl);unfold loR at h2;rw[m4,List.length_range,h.lst] at h2;omega
def LdZ.len(h:LdZ zs P last):(loR zs).length=last:=by
 unfold loR;rw[m4,List.length_range,h.lst,zpf]
def LdZ.mkE{zs:List (Int×List U)}{P:List Int}{last:Int}(h:LdZ zs P last)(h0:0<zs.length)(h1:zs.length<=1024):mkE (zs.map (·.1)) P=0:=by
 unfold L10.mkE;rw[m4,nc T,nc T,na h.asc,na fun r hr=>h.pk r (jx.1 hr)]
def Qe{r:Int}:∀ {zs:List (Int×List U)} {bs:List SB},bs.map Prod.fst=zs.map Prod.snd->(ut r (zsE ((zs.map (·.1)).zip bs))).map Prod.fst=ut r zs
 | [],bs,h=>by rw[zph,List.zip_nil_left];rfl
 | z::zs,[],h=>by cases h
 | z::zs,b::bs,h=>by
  rw[mz,mz] at h;obtain⟨h1,h2⟩:=List.cons.inj h;rw[mz,List.zip_cons_cons];unfold zsE;rw[mz,vk,vk];by_cases e:r=z.1
  ·rw[na e,na e,<-h1];rfl
  ·rw[nc e,nc e];exact Qe h2
def Fo:∀ {zs:List (Int×List U)} {bs:List SB},bs.map Prod.fst=zs.map Prod.snd->((zs.map (·.1)).zip bs).map (·.1)=zs.map (·.1)/\((zs.map (·.1)).zip bs).map (·.2)=bs/\((zs.map (·.1)).zip bs).length=zs.length
 | [],[],_=>⟨rfl,rfl,rfl⟩
 | [],b::bs,h=>by cases h
 | z::zs,[],h=>by cases h
 | z::zs,b::bs,h=>by
  rw[mz,mz] at h;obtain⟨_,h2⟩:=List.cons.inj h;have ih:=Fo h2;rw[mz,List.zip_cons_cons,mz,mz,nz,ih.1,ih.2.1,ih.2.2];exact⟨rfl,rfl,rfl⟩
def LdZ.mapOK{last:Int}(h:LdZ zs P last){bs:List SB}(hb:bs.map Prod.fst=zs.map Prod.snd):MapOK (zsE ((zs.map (·.1)).zip bs)) (loR zs):=
 ⟨by
  have h1:(zsE ((zs.map (·.1)).zip bs)).map Prod.fst=zs.map (·.1):=by unfold zsE;rw[List.map_map];exact(Fo hb).1
  rw[h1];exact(mo.1 h.asc).2.imp fun hlt e=>by omega,fun r=>by rw[Qe hb,h.kpt]⟩
structure LdJ(bs:List Nat)(N:Nat)(Y:((List (Int×List U)×List Int)×Rd)×(Int×Int))(i last:Nat)(s:List U)(zs:List (Int×List U))(P:List Int)(R:Rd):Prop where
 hi:i<=N
 hW:ldW bs (N-i) last s zs P R=Y
 h0:R.err=0
 at_:R.at_<=bs.length
 zl:zs.length=i
 sl:s.length<=4096
 lastB:last<=18446744073709551615
 pn:∀ r∈P,r<=(last:Int)
 pl:P.length<=i*4096
 ph:(xh P).length<=i
 z:LdZ zs P (last:Int)
def LdJ.new{N:Nat}{Y:((List (Int×List U)×List Int)×Rd)×(Int×Int)}{s:List U}(h:LdJ bs N Y i last s zs P R){st:Nat}(hs:0<st):((last+st:Nat):Int)∉P:=fun hm=>by
 have:=h.pn _ hm;omega
def LdJ.next{N:Nat}{Y:((List (Int×List U)×List Int)×Rd)×(Int×Int)}{s:List U}(h:LdJ bs N Y i last s zs P R)(hi:i<N){st:Nat}(g2:0<st/\st<=18446744073709551615-last)(hn:n<=4096){s':List U}{R4:Rd}(hs':s'.length<=4096)(h4:R4.err=0)(a4:R4.at_<=bs.length)
  (hm:N-i=m+1) (hW:ldW bs m (last+st) s' (zs++[(((last+st:Nat):Int),s')]) (P++List.replicate n ((last+st:Nat):Int)) R4=Y):
  LdJ bs N Y (i+1) (last+st) s' (zs++[(((last+st:Nat):Int),s')]) (P++List.replicate n ((last+st:Nat):Int)) R4:=by
 have hb:=h.lastB;have hnew:=h.new g2.1;refine⟨hi,by rw[show N-(i+1)=m by omega];exact hW,h4,a4,by rw[nr,h.zl];rfl,hs',by omega,fun r hr=>?_,?_,?_,h.z.snoc T hs' n⟩
 ·rcases mn.1 hr with h1 | h1
  ·have:=h.pn r h1;omega
  ·rw[List.mem_replicate] at h1;rw[h1.2];exact zqq _
 ·have:=h.pl;rw[nr,List.length_replicate];omega
 ·have hph:=h.ph;by_cases h0:n=0
  ·subst h0;rw[show P++List.replicate 0 ((last+st:Nat):Int)=P from mq _];omega
  ·rw[Cp (Nat.pos_of_ne_zero h0) hnew,o4 (Vg _)];omega
abbrev sbQ(zs:List (Int×List U))(x:List SB)(H:Heap):Prop:=x.map Prod.fst=zs.map Prod.snd/\SbOK x H
def Ga(zs:List (Int×List U)):oc (sbQ zs):=fun _ _ _ h hle=>⟨h.1,h.2.le hle⟩
def zb2{x:List SB}{s:List U}{f1 k1:Value}{p1 q1:Option Addr}(h:sbQ zs x H)(hs:SetV s (.agg #[f1,.pointer p1,k1,.pointer q1]) H):sbQ (zs++[(r,s)]) (x++[(s,(f1,p1,k1,q1))]) H:=by
 refine⟨by rw[zpb,zpb,h.1];rfl,fun b hb=>?_⟩;rcases mn.1 hb with h1 | h1
 ·exact h.2 b h1
 ·rw[m7] at h1;subst h1;exact hs
def _root_.Zf9(t:Wr Y->A:=by intro h;refine ye (qh L (q:=921) Z Z Z Z) ?_;exact h.1)(h:Y):A:=t ⟨h⟩
def LdR(y:(List (Int×List U)×List Int)×(Int×Int)):Res where
 P v H u C:=(y.2.2=0/\∃ b,v=.tuple #[eu b,.int .i64 0,.int .i64 0]/\(StG b (loS y.1)).P H u C)\/(y.2.2≠0/\v=.tuple #[.pointer none,.int .i64 y.2.1,.int .i64 y.2.2]/\∀ k,¬ C k)
 st:=fun h a b c d=>h.imp (fun⟨h1,x,h2,h3⟩=>⟨h1,x,h2,(StG x (loS y.1)).st h3 a b c d⟩) id
def zko{f:FuncId}{y:(List (Int×List U)×List Int)×(Int×Int)}(he:y.2.2=0)(h:RetO zs5 f args w B (LdR y)):RetO zs5 f args w B (Ht (fun b=>.tuple #[eu b,.int .i64 0,.int .i64 0]) fun b=>StG b (loS y.1)):=
 RetL.mono h fun _ _ _ _ ⟨C,h1,h2⟩=>⟨C,h1.elim (fun⟨_,b,hb,hs⟩=>⟨b,hb,hs⟩) fun h=>ni he h.1,h2⟩
def zfr{s:List U}(h:κ t=some (.own (SlR Fu 1 ((zs.map (·.1)).length+1) ((zs.map (·.1)).map (Value.int .u64)++[.int .u64 r])))):κ t=some (.own (SlR Fu 1 ((zs++[(r,s)]).map (·.1)).length (((zs++[(r,s)]).map (·.1)).map (Value.int .u64)))):=by
 rw[h,zpb,zpb,nr];rfl
def zgh{y:List SB}{s:List U}{f1 k1:Value}{p1 q1:Option Addr}(h:κ t=some (.own (SlR tySt 4 (y.length+1) (y.flatMap sbc++[f1,.pointer p1,k1,.pointer q1])))):κ t=some (.own ((fun y:List SB=>SlR tySt 4 y.length (y.flatMap sbc)) (y++[(s,(f1,p1,k1,q1))]))):=by
 rw[h];dsimp only;rw[zpo,nr];rfl
attribute [local irreducible] V N X VO Par XP LV StepOK Has Ret RetL RetO RetT kz RetX RetY Pan ik Src
def pu{B0:Heap}{ba be bs:Nat}{x y z:Value}{a:Int}{z0:List (Int×List U)×List Int}(he:e≠0)(hs:Since (FLd w ba be bs) B0 B):
  XP (FLd w ba be bs) B n O (ofL (KLd ba be bs x y z)) (wrV a e) (bodyPostM Fence.wide 0 zs5 Tryz.f86 (li w B0 noL (zik w (LdR (z0,(a,e)))))):=
 Xq he hs fun _ _ ⟨v,h1,H,h2,h3⟩=>⟨v,h1,H,h2,fun _=>False,.inr ⟨he,h3,fun _ h=>h⟩,fun _ h=>h.elim⟩
def zcq{bs:List Nat}(hb:∀ b∈bs,b<=255)(hz:bs.length<=1099511627776)(hB:zs4 B w)(hv:BsV bs fu v B):
  RetO zs5 86 [v] w B (LdR (ldF bs)):=by
 obtain⟨p0,c0,rfl⟩:=jk hv;obtain⟨Y0,hY0⟩:∃ Y0,ldF bs=Y0:=⟨_,rfl⟩
 rw[hY0];refine wz Tryz.func86 Z Tryz.ntmps86 (np Z) hB ((Zah∘ZE∘ZE∘Zg) ?_);refine jd 2 910 rfl fun bs0=>?_;refine jd 3 911 rfl fun ba=>?_;refine jd 4 912 rfl fun be=>?_;refine zao (id:=1) 1 rfl ((Za7∘Zab) ?_);(refine zhe (K:=1) Z Z Z Z ?_;refine zh ?_);refine Zbh (h:=?_);refine Zz (h:=?_);refine z7 (wq L Z Z (zm Z) Z Z Z (fun u H hH hle _=>zj8 hz hH (hv.le hle))) Z ?_;refine Bw 15 922 rfl fun rb=>?_;refine zfo (X:=Value) 922 (r:=fun sv=>(GRd rb sv ⟨0,0,0⟩).res) (φ:=fun sv H=>BsV bs false sv H) (hφ:=fun _ _ _ h hle=>h.le hle) Z fun sv H1 hs1 hsv=>?_;refine z7 (yv (cs:=[_,_]) Z Z zmj Z Z) Z (Zeq (h:=?_));refine qg (yu (.inr Z) Z) (Zg (h:=?_));refine jd 5 921 rfl fun sb=>?_;refine wc 921 922 rfl Z (xi (GRd rb sv ⟨0,0,0⟩)) ?_;obtain⟨z,R1,hz1⟩:∃ z R1,wl bs 1024 ⟨0,0,0⟩=(z,R1):=⟨_,_,rfl⟩
 have ha1:=o0 (bs:=bs) (lim:=1024) (R:=⟨0,0,0⟩) (mb _);have hlv:=fun h=>i6 (bs:=bs) (lim:=1024) (R:=⟨0,0,0⟩) E h;unfold ldF at hY0;rw[hz1] at ha1 hlv hY0;dsimp only at ha1 hlv hY0;by_cases h1:R1.err≠0
 ·rw[na h1] at hY0;subst hY0;refine jz (id:=3) 1 rfl (ZcK (h:=?_));refine jw (r:=(xx sb rb sv 0 ⟨0,0,0⟩).res) (K:=1) L 921 rfl Z Z Z Z (fun u H C hH hle hr hC=>by have h:=F7 (lim:=1024) (R:=⟨0,0,0⟩) hb hz (mb _) T (by rw[hz1];exact h1) hH (hsv.le hle) hr hC;rw[hz1] at h;exact h) (fun _ _ _ _ h=>h) ?_
  repeat (first | refine wh ?_ | refine jq ?_)
  exact a8 (KLd ba be bs0 _ _ _) ⟨Z,Z,Z,Z,Z,Z,nm⟩ (pu h1 hs1)
 ·rw[nc h1] at hY0;have h10:R1.err=0:=m9.1 h1;obtain⟨n,rfl,hn⟩:=hlv h10;by_cases hn0:n=0
  ·subst hn0;rw[na (show((0:Nat):Int)=0 from rfl)] at hY0;subst hY0;refine Zr (h:=?_);refine qg (yk L 921 (xx sb rb sv 0 R1) (.int .i64 ((0:Nat):Int)) (r:=xx sb rb sv 0 ⟨0,0,0⟩) Z Z Z Z Z (fun u H C hH hle hr hC=>by have h:=size_ret (lim:=1024) hb hz (mb _) T (by rw[hz1];exact h10) hH (hsv.le hle) hr hC;rw[hz1] at h;exact h)) ?_;refine Zd (h:=?_);refine jz (id:=4) 3 rfl ((Zb∘ZM∘Zab) ?_);refine jw (r:=(xx sb rb sv 0 R1).res) (K:=3) L 921 rfl Z Z Z Z (fun u H C hH hle hr hC=>f9 hH hr hC) (fun _ _ _ _ h=>h) ?_
   repeat (first | refine wh ?_ | refine jq ?_)
   exact a8 (KLd ba be bs0 _ _ _) ⟨Z,Z,Z,Z,Z,Z,nm⟩ (pu E hs1)
  ·rw[nc T,zpf] at hY0;refine Zr (h:=?_);refine qg (yk L 921 (xx sb rb sv 0 R1) (.int .i64 n) (r:=xx sb rb sv 0 ⟨0,0,0⟩) Z Z Z Z Z (fun u H C hH hle hr hC=>by have h:=size_ret (lim:=1024) hb hz (mb _) T (by rw[hz1];exact h10) hH (hsv.le hle) hr hC;rw[hz1] at h;exact h)) ?_;refine(Zd∘Zt∘Zb∘ZP) ?_;refine qg (xe L 921 (xx sb rb sv 0 R1) (r:=xx sb rb sv 0 R1) Z Z Z Z Z (fun u H C hH _ hr hC=>ku hH hr hC)) ((Zg∘Z1∘Zd∘ZO∘Zd∘Zy∘ZE∘Zg∘Zu∘ZdB∘ZE∘Zs∘ZaU∘ZaC∘Z2∘Zb∘Zd3) ?_);refine ul 7 Fu 1 rfl (ul 8 tySt 4 rfl (s7 (X:=List SB) 8 (r:=fun x=>SlR tySt 4 x.length (x.flatMap sbc)) (φ:=sbQ []) (Ga []) [] ⟨rfl,fun _ h=>by cases h⟩ Z ?_));refine s7 (X:=Sl3) 9 (r:=fun x=>Cell (pnC [] x) zi4) (φ:=pnQ []) (Gf []) (none,0,0) SlV.nil Z (s7 (X:=SXp) 11 (r:=fun x=>Cell (scs x.1) tySt) (φ:=D5 []) (jg []) ⟨(.nilFunc,none,.nilFunc,none),rfl⟩ SetV.nil Z ?_);obtain⟨Y,hY⟩:∃ Y,ldW bs n 0 [] [] [] R1=Y:=⟨_,rfl⟩
   rw[hY] at hY0;have hj0:LdJ bs n Y 0 0 [] [] [] R1:=⟨mb _,hY,h10,ha1,rfl,mb _,by decide,(fun _ h=>by cases h),mb _,mb _,⟨zqk _ _,fun a ha=>by rw[zph,m7] at ha;subst ha;exact zqq _,rfl,(fun _ h=>by cases h),(fun _ h=>by cases h)⟩⟩
   refine xp (fun x:Nat×Nat×List U×List (Int×List U)×List Int×Rd×Nat=>[(2,.is (kq bs0)),(3,.is (kq ba)),(4,.is (kq be)),(910,.own (xu bs0 [.pointer none] tyPS)),(911,.own (xu ba [.int .i64 0] zbe)),(912,.own (xu be [.int .i64 0] Mr)),(5,.is (kq sb)),
    (7,.own (SlR Fu 1 (x.2.2.2.1.map (·.1)).length ((x.2.2.2.1.map (·.1)).map (Value.int .u64)))),(8,.own (ExR (fun y:List SB=>SlR tySt 4 y.length (y.flatMap sbc)) (sbQ x.2.2.2.1) (Ga _))),(9,.own (ExR (fun y:Sl3=>Cell (pnC x.2.2.2.2.1 y) zi4) (pnQ x.2.2.2.2.1) (Gf _))),(10,.is (.int .u64 x.2.1)),(11,.own (ExR (fun y:SXp=>Cell (scs y.1) tySt) (D5 x.2.2.1) (jg _))),(25,.is (.int .i64 n)),(26,.is (.int .i64 x.1)),(921,.own (xx sb rb sv x.2.2.2.2.2.2 x.2.2.2.2.2.1).res)])
    (fun x=>LdJ bs n Y x.1 x.2.1 x.2.2.1 x.2.2.2.1 x.2.2.2.2.1 x.2.2.2.2.2.1) (fun x=>n-x.1) (0,0,[],[],[],R1,0) hj0 ⟨rfl,rfl,rfl,rfl,rfl,rfl,rfl,rfl,rfl,rfl,rfl,rfl,rfl,rfl,rfl,nm⟩ ?_
   rintro⟨i,last,s,zs,P,R,fr⟩ hj;dsimp only at hj |-;have hRa:=hj.at_;by_cases hlt:i<n
   ·obtain⟨m,hm⟩:∃ m,n-i=m+1:=⟨n-i-1,by omega⟩
    have hW:=hj.hW;rw[hm] at hW;unfold ldW at hW;have ha2:(r7 bs R).2.at_<=bs.length:=ed hRa (Oa hRa);have hlB:=hj.lastB;have hsl:=hj.sl;obtain⟨st,R2,hz2⟩:∃ st R2,r7 bs R=(st,R2):=⟨_,_,rfl⟩
    rw[hz2] at hW ha2;dsimp only at hW ha2;refine uj (r1:=xu sb [kq rb,.int .i64 fr] Pj) (r2:=(GRd rb sv R).res) 921 922 rfl (xi _) ?_;by_cases h2:R2.err≠0
    ·rw[na h2] at hW;subst hW;rw[na (by exact h2)] at hY0;subst hY0;refine(Ze∘Z4∘Zat) ?_;refine jz (id:=11) 6 rfl ((Zb∘Zap∘Zf9) ?_);refine jv 921 922 rfl Z (xi (GRd rb sv R)) ?_;refine(Za7∘Zab) ?_;refine jw (r:=(xx sb rb sv fr R).res) (K:=6) L 921 rfl Z Z Z Z (fun u H C hH hle hr hC=>Nl (x:=st) (fst:=[kq rb]) (cap:=[]) Z h2 hH hr hC (fun u3 H3 C3 hH3 hle3 hr3 hC3=>by have h:=Pt hb hz hRa hH3 ((hsv.le hle).le hle3) hr3 hC3;rw[hz2] at h;exact h)) (fun _ _ _ _ h=>h) ?_
     repeat (first | refine wh ?_ | refine jq ?_)
     exact a8 (KLd ba be bs0 _ _ _) ⟨Z,Z,Z,Z,Z,Z,nm⟩ (pu h2 hs1)
    ·rw[nc h2] at hW;have h20:R2.err=0:=m9.1 h2;have hws:IntKind.u64.wrap (18446744073709551615-(last:Int))=((18446744073709551615-last:Nat):Int):=(wrap_u64 T T).trans T;by_cases h3:¬ (0<st/\st<=18446744073709551615-last)
     ·rw[na h3] at hW;subst hW;rw[na (show(5:Int)≠0 by decide)] at hY0;subst hY0;by_cases hst0:st=0
      ·have hst1:((st:Nat):Int)=0:=T;refine(Ze∘Z4∘Zat∘ZG∘Zb∘Zap∘Zf9) ?_;refine jv 921 922 rfl Z (xi (GRd rb sv R)) ?_;refine Za7 (h:=?_);refine qg (yk L 921 (xx sb rb sv R.at_ R2) (.int .u64 st) (r:=xx sb rb sv fr R) Z Z Z Z Z (fun u H C hH hle hr hC=>ov (fst:=[kq rb]) (cap:=[]) Z h20 hH hr hC (fun u3 H3 C3 hH3 hle3 hr3 hC3=>by have h:=Pt hb hz hRa hH3 ((hsv.le hle).le hle3) hr3 hC3;rw[hz2] at h;exact h))) ?_;refine Zd (h:=?_);refine jz (id:=12) 9 rfl ((Zb∘ZM∘Zau∘Zi∘Zab) ?_);refine jw (r:=(xx sb rb sv R.at_ R2).res) (K:=9) L 921 rfl Z Z Z Z (fun u H C hH hle hr hC=>f9 hH hr hC) (fun _ _ _ _ h=>h) ?_
       repeat (first | refine wh ?_ | refine jq ?_)
       exact a8 (KLd ba be bs0 _ _ _) ⟨Z,Z,Z,Z,Z,Z,nm⟩ (pu E hs1)
      ·have hst1:0<st/\18446744073709551615-last<st:=T;refine(Ze∘Z4∘Zat∘ZG∘Zb∘Zap∘Zf9) ?_;refine jv 921 922 rfl Z (xi (GRd rb sv R)) ?_;refine Za7 (h:=?_);refine qg (yk L 921 (xx sb rb sv R.at_ R2) (.int .u64 st) (r:=xx sb rb sv fr R) Z Z Z Z Z (fun u H C hH hle hr hC=>ov (fst:=[kq rb]) (cap:=[]) Z h20 hH hr hC (fun u3 H3 C3 hH3 hle3 hr3 hC3=>by have h:=Pt hb hz hRa hH3 ((hsv.le hle).le hle3) hr3 hC3;rw[hz2] at h;exact h))) ?_;refine Zd (h:=?_);refine jz (id:=12) 9 rfl ((Zb∘ZP∘Z8∘Zax∘ZcO∘Zi∘Zab) ?_);refine jw (r:=(xx sb rb sv R.at_ R2).res) (K:=9) L 921 rfl Z Z Z Z (fun u H C hH hle hr hC=>f9 hH hr hC) (fun _ _ _ _ h=>h) ?_
       repeat (first | refine wh ?_ | refine jq ?_)
       exact a8 (KLd ba be bs0 _ _ _) ⟨Z,Z,Z,Z,Z,Z,nm⟩ (pu E hs1)
     ·rw[nc h3] at hW;have h30:=m9.1 h3;have hwa:IntKind.u64.wrap ((last:Int)+(st:Int))=((last+st:Nat):Int):=(wrap_u64 T T).trans T;have ha3:=o0 (bs:=bs) (lim:=4096) ha2;have hlv2:=fun h=>i6 (bs:=bs) (lim:=4096) (R:=R2) E h;obtain⟨zq,R3,hz3⟩:∃ zq R3,wl bs 4096 R2=(zq,R3):=⟨_,_,rfl⟩
      rw[hz3] at hW ha3 hlv2;dsimp only at hW ha3 hlv2;refine(Ze∘Z4∘Zat∘ZG∘Zb∘Zap∘Zf9) ?_;refine jv 921 922 rfl Z (xi (GRd rb sv R)) ?_;refine Za7 (h:=?_);refine qg (yk L 921 (xx sb rb sv R.at_ R2) (.int .u64 st) (r:=xx sb rb sv fr R) Z Z Z Z Z (fun u H C hH hle hr hC=>ov (fst:=[kq rb]) (cap:=[]) Z h20 hH hr hC (fun u3 H3 C3 hH3 hle3 hr3 hC3=>by have h:=Pt hb hz hRa hH3 ((hsv.le hle).le hle3) hr3 hC3;rw[hz2] at h;exact h))) ?_;refine(Zd∘ZJ∘Zb∘ZP∘Z8∘Zax∘ZcW∘Zi) ?_;refine qg (xe L 921 (xx sb rb sv R.at_ R2) (r:=xx sb rb sv R.at_ R2) Z Z Z Z Z (fun u H C hH _ hr hC=>ku hH hr hC)) ((Zg∘Zae∘Zb∘ZC∘Zd) ?_);refine uk 9 rfl fun x9 H2 hs2 hp9=>?_;obtain⟨pp,pk,pc⟩:=x9;dsimp only at hp9 |-;have hs12:=hs1.trans hs2;have hsv2:=hsv.le hs2.le;by_cases h4:R3.err≠0
      ·rw[na h4] at hW;subst hW;rw[na (by exact h4)] at hY0;subst hY0;refine Fh (id:=14) 3 [(52,[921]),(200052,[2,3,4,910,911,912])] ko Z J (j9 (zz L (vs:=[_,_]) (y7 Z) Z Z Z Z ⟨_,rfl⟩) Z (ZeL (h:=?_)));refine ZeL (h:=?_);refine rm [(2,.is (kq bs0)),(3,.is (kq ba)),(4,.is (kq be)),(910,.own (xu bs0 [.pointer none] tyPS)),(911,.own (xu ba [.int .i64 0] zbe)),(912,.own (xu be [.int .i64 0] Mr)),(51,.is (kq sb)),(921,.own (xx sb rb sv R.at_ R2).res)] J ⟨Z,Z,Z,Z,Z,Z,Z,Z,nm⟩ (jw (r:=(xx sb rb sv R.at_ R2).res) (K:=3) L 921 rfl Z Z Z Z (fun u H C hH hle hr hC=>by have h:=F7 (lim:=4096) hb hz ha2 T (by rw[hz3];exact h4) hH (hsv2.le hle) hr hC;rw[hz3] at h;exact h) (fun _ _ _ _ h=>h) ?_)
       repeat (first | refine wh ?_ | refine jq ?_)
       exact a8 (KLd ba be bs0 _ _ _) ⟨Z,Z,Z,Z,Z,Z,nm⟩ (pu h4 hs12)
      ·rw[nc h4] at hW;have h40:R3.err=0:=m9.1 h4;obtain⟨k,rfl,hk⟩:=hlv2 h40;rw[zpf] at hW;have hnew:=hj.new h30.1;have hph:=hj.ph;have hpl0:=hj.pl;have hr0:((last+st:Nat):Int)≠0:=T;have hm1:Kn.mono (.sat (PnS (P++List.replicate k ((last+st:Nat):Int)))):=PnS.mono;have hm2:Kn.mono (.sat (fun v _=>v=Value.int .i64 0)):=fun _ _ _ h _=>h;refine qn (id:=14) [(52,[921])] ko J (z8 (zz L (vs:=[_,_]) (y7 Z) Z Z Z Z ⟨_,rfl⟩) Z (Zp (h:=?_)));refine kf (yk L 921 (xx sb rb sv R2.at_ R3) (.int .i64 k) (r:=xx sb rb sv R.at_ R2) Z Z Z Z Z (fun u H C hH hle hr hC=>by have h:=size_ret (lim:=4096) hb hz ha2 T (by rw[hz3];exact h40) hH (hsv2.le hle) hr hC;rw[hz3] at h;exact h)) Z Z ?_;refine z8 (xg (φ:=PnE (P++List.replicate k ((last+st:Nat):Int))) L Z Z (zm Z) Z Z Z PnE.mono (fun u H hH hle _=>Xi (x:=(pp,pk,pc)) hr0 hk hnew T T hH (SlV.le hp9 hle))) Z ((Zad∘ZeR∘ZeS) ?_);refine z8 (bg L (X:=Sl3) (fun x=>pnC (P++List.replicate k ((last+st:Nat):Int)) x) (pnQ (P++List.replicate k ((last+st:Nat):Int))) (Gf _) zjv (fun x=>⟨rfl,rfl⟩) Z Z Z Z Z) Z (ZaV (h:=?_));refine uk 11 rfl fun x11 H3 hs3 hset=>?_;obtain⟨⟨f1,p1,f2,p2⟩,hpl⟩:=x11;dsimp only[scs] at hset hpl |-;have hs13:=hs12.trans hs3;have hsv3:=hsv2.le hs3.le;have ha4:=zh0 (l:=s) ha3;have hsl4:=zdm (bs:=bs) (R:=R3) hsl;have he4:=fun h=>zdn (bs:=bs) (l:=s) (R:=R3) h;have hcr:=fun(h:(A5 bs s R3).2.2=0) {v:Value} {w:World} {B:Heap} {C:Nat->Prop} (hB:zs4 B w) (hs:BsV bs false sv B) (hv:SetV s v B) (hr:(xx sb rb sv R2.at_ R3).P B w C) (hC:ZCB C w B)=>Oq hsl hb hz ha3 h hB hs hv hr hC;have hcp:=fun(h:(A5 bs s R3).2.2≠0) {v:Value} {w:World} {B:Heap} {C:Nat->Prop} (hB:zs4 B w) (hs:BsV bs false sv B) (hv:SetV s v B) (hr:(xx sb rb sv R2.at_ R3).P B w C) (hC:ZCB C w B)=>Ot hsl hb hz ha3 h hB hs hv hr hC;generalize A5 bs s R3=zsx at hW ha4 hsl4 he4 hcr hcp;obtain⟨⟨s',R4⟩,⟨ca,ce⟩⟩:=zsx;dsimp only at hW ha4 hsl4 he4 hcr hcp;by_cases h5:ce≠0
       ·rw[na h5] at hW;subst hW;rw[na (by exact h5)] at hY0;subst hY0;refine jz (id:=15) 2 rfl ((Za∘Zbg∘Zab) ?_);refine jw (r:=(xx sb rb sv R2.at_ R3).res) (K:=2) L 921 rfl Z Z Z Z (fun u H C hH hle hr hC=>hcp h5 hH (hsv3.le hle) (hset.le hle) hr hC) (fun _ _ _ _ h=>h) ?_
        repeat (first | refine wh ?_ | refine jq ?_)
        exact a8 (KLd ba be bs0 _ _ _) ⟨Z,Z,Z,Z,Z,Z,nm⟩ (pu h5 hs13)
       ·rw[nc h5] at hW;have h50:ce=0:=m9.1 h5;have hj2:=hj.next hlt (st:=st) (n:=k) h30 hk hsl4 (he4 h50) ha4 hm hW;refine(Zaa∘Za∘Zbg) ?_;refine qg (C5 L 921 (xx sb rb sv R3.at_ R4) (SetV s') (r:=xx sb rb sv R2.at_ R3) Z Z Z Z Z SetV.mono (fun u H C hH hle hr hC=>hcr h50 hH (hsv3.le hle) (hset.le hle) hr hC)) (z7 (bg L (X:=SXp) (fun x=>scs x.1) (D5 s') (jg _) Kq (fun x=>⟨rfl,x.2⟩) Z Z Z Z Z) Z (Zw (h:=?_)));refine uk 11 rfl fun x12 H4 hs4 hset4=>?_;obtain⟨⟨f3,p3,f4,p4⟩,hpl4⟩:=x12;dsimp only[scs] at hset4 hpl4 |-;refine uk 8 rfl fun y8 H5 hs5 hq8=>?_;have hset5:=hset4.le hs5.le;have hzl1:(zs.map (·.1)).length<=1024:=by rw[m4,hj.zl];omega
        have hyl1:y8.length<=1024:=by have h:=nh List.length hq8.1;rw[m4,m4,hj.zl] at h;omega
        refine qn (id:=16) [(59,[7]),(62,[59]),(63,[8]),(66,[63]),(7,[62]),(8,[66])] ko J (kf (yu (.inl Z) Z) Z Z ((Zl∘ZcF) ?_));refine kf (w8 L Z Z Z (o6 Z) Z zit Z Z T T) Z Z (kf (yu (.inl Z) Z) Z Z ((Zcj∘ZcF) ?_));refine kf (w8 L Z Z Z (o6 Z) Z zou Z M T T) Z Z (kf (yu (.inr Z) Z) Z Z (kf (yu (.inr Z) Z) Z Z ((ZcB∘Zbx∘ZB) ?_)));refine ol (X:=List SB) 8 (r:=fun x=>SlR tySt 4 x.length (x.flatMap sbc)) (Ga _) (y8++[(s',(f3,p3,f4,p4))]) (zb2 (r:=((last+st:Nat):Int)) hq8 hset5) (by exact zgh Z) ?_;exact ol (X:=SXp) 11 (r:=fun x=>Cell (scs x.1) tySt) (jg s') ⟨(f3,p3,f4,p4),hpl4⟩ hset5 Z (jn (x:=(i,last,s,zs,P,R,fr)) (i+1,last+st,s',zs++[(((last+st:Nat):Int),s')],P++List.replicate k ((last+st:Nat):Int),R4,R3.at_) (hs2.trans (hs3.trans (hs4.trans hs5))) hj2 (Nat.sub_lt_sub_left hlt (zrw i)) ⟨Z,Z,Z,Z,Z,Z,Z,zfr Z,Z,Z,Z,Z,Z,Z,Z,nm⟩)
   ·obtain rfl:i=n:=by have:=hj.hi;omega
    have hW:=hj.hW;rw[zqc] at hW;have hW2:(((zs,P),R),((0:Int),(0:Int)))=Y:=hW;subst hW2;rw[nc (fun h=>h rfl)] at hY0;dsimp only at hY0;by_cases h5:(Hb bs R).2≠0
    ·rw[na h5] at hY0;subst hY0;refine(Ze∘Z4∘Zak) ?_;refine jz (id:=18) 1 rfl (ZcK (h:=?_));refine jw (r:=(xx sb rb sv fr R).res) (K:=1) L 921 rfl Z Z Z Z (fun u H C hH hle hr hC=>R9 hz hRa h5 hH (hsv.le hle) hr hC) (fun _ _ _ _ h=>h) ?_
     repeat (first | refine wh ?_ | refine jq ?_)
     exact a8 (KLd ba be bs0 _ _ _) ⟨Z,Z,Z,Z,Z,Z,nm⟩ (pu h5 hs1)
    ·rw[nc h5] at hY0;subst hY0;have h50:(Hb bs R).2=0:=m9.1 h5;have hZ:=hj.z;have hzl:=hj.zl;have hph:=hj.ph;have hpl0:=hj.pl;have hmk:=hZ.mkE T T;refine uk 8 rfl fun y8 H2 hs2 hq8=>?_;refine uk 9 rfl fun x9 H3 hs3 hp9=>?_;obtain⟨pp,pk,pc⟩:=x9;have hs13:=hs1.trans (hs2.trans hs3);have hsv3:=(hsv.le hs2.le).le hs3.le;have hqs:=hq8.2.le hs3.le;have hzk:=Fo hq8.1;have hmo:=hZ.mapOK hq8.1;refine(Ze∘Z4∘Zak∘ZaO∘Za) ?_;refine qg (xe L 921 (xx sb rb sv fr R) (r:=xx sb rb sv fr R) Z Z Z Z Z (fun u H C hH hle hr hC=>R8 hz hRa h50 hH (hsv3.le hle) hr hC)) (Zg (h:=?_));refine gt 7 rfl (gt 8 rfl ((Zcs∘Zh∘Zh∘ZcN) ?_));refine z7 (wq L Z Z (zm Z) Z Z Z (fun u H hH hle _ v1 h1 v2 h2=>by have h:=Sc (zs:=(zs.map (·.1)).zip y8) (L0:=P) (S:=loS (zs,P)) (e:=0) (by rw[hzk.1];exact hmk) (fun _=>⟨hmo,(nh (Nat.cast (R:=Int)) hZ.len).trans (by rw[hzk.1,hzk.2.2];exact hZ.lst.symm),rfl⟩) T T (by rw[hzk.2.2];omega) hH (by rw[hzk.1];exact h1) (by rw[hzk.2.1];exact h2) (by rw[hzk.2.1];exact hqs.le hle) (SlV.le hp9 hle);exact zkf h)) Z ?_;refine Bw 74 930 rfl fun b2=>?_;refine ZA (h:=?_);refine xo (yl L (q:=910) (cs':=[eu b2]) Z Z Z Z Z) (Zg (h:=?_));refine ZaP (h:=?_);refine ye (qh L (q:=910) Z Z Z Z) (xo (yl L (q:=910) (cs':=[eu b2]) Z Z Z Z Z) (xo (yl L (q:=911) (cs':=[.int .i64 0]) Z Z Z Z Z) (xo (yl L (q:=912) (cs':=[.int .i64 0]) Z Z Z Z Z) (Zw (h:=?_)))));refine wc 912 910 rfl Z (co _ _ _) ?_;refine wc 911 912 rfl Z (xi (gu (xc be [.int .i64 0] Mr) (xc bs0 [eu b2] tyPS))) ?_;refine zlh L 911 (r:=G3 ba be bs0 (.int .i64 0) (.int .i64 0) (eu b2)) (r':=G3 ba be bs0 (.int .i64 0) (.int .i64 0) (if (0:Int)=0 then eu b2 else .pointer none)) Z Z Z (fun u H C hH _ hr hC=>Lu RecM.idle (fun u H hH=>Ox hH) hH hr hC) ?_ (fun _ _ h=>h);rw[na rfl];refine Gr (r1:=xu ba [.int .i64 0] zbe) (r2:=(gu (xc be [.int .i64 0] Mr) (xc bs0 [eu b2] tyPS)).res) 911 912 rfl (xi _) ?_;refine Gr (r1:=xu be [.int .i64 0] Mr) (r2:=xu bs0 [eu b2] tyPS) 912 910 rfl (co _ _ _) ?_;exact db 3 911 rfl Z (db 4 912 rfl Z (db 2 910 rfl Z (zcp L 930 (r0:=StG b2 (loS (zs,P))) (rs:=[.cell 2 tyPS,.cell 3 zbe,.cell 4 Mr]) Z hs13 Z (fun H=>wn (y7 Z) Z (wn (y7 Z) Z (wn (y7 Z) Z Z))) (fun H u C _ _ h=>.inl ⟨rfl,b2,rfl,h⟩))))
end Go.V.L11
namespace Go.V
section
variable {P:Program} {F:Fr}          
end
end Go.V
section
open Go.V
attribute [local irreducible] Has LV N Pan Par Ret RetL RetO RetT RetX RetY Src StepOK V VO X XP ik kz
namespace Go.V.L11
open Go.V.L2 Go.V.L4 Go.V.L6 Go.V.L8 Go.V.Bd
open Go.V.L3
abbrev rv(sv:Value)(R:Rd):Value:=.agg #[sv,.int .i64 R.at_,.int .i64 R.bad,.int .i64 R.err]
def vt(bs:List Nat)(R:Rd):Nat->Rd
 | 0=>R
 | i+1=>(lj bs 16 (vt bs R i)).2
def zck(bs:List Nat)(R:Rd):Nat->List ByteArray
 | 0=>[]
 | i+1=>zck bs R i++[(lj bs 16 (vt bs R i)).1]
def zlu(bs:List Nat)(R:Rd):List ByteArray×Rd:=
 if (vt bs R 6).err≠0 then ([sZ,sZ,sZ,sZ,sZ,sZ],⟨R.at_,(vt bs R 6).bad,(vt bs R 6).err⟩) else (zck bs R 6,vt bs R 6)
def tupS2{φ1 φ2:Value->Heap->Prop}{a b:Value}(h1:φ1 a H)(h2:φ2 b H):TupS [φ1,φ2] (.tuple #[a,b]) H:=⟨[a,b],rfl,rfl,fun i φ x hi hx=>by
 match i with
 | 0=>cases hi;cases hx;exact h1
 | 1=>cases hi;cases hx;exact h2
 | i+2=>cases hi⟩
def vu{f:Rd->α×Rd}{z:α}(h:R.err≠0):dx f z R=(z,R):=na h
def A6{β:Type}{f:Rd->α×Rd}{g:Rd->β×Rd}{zf:α}{zg:β}(hf:∀ R:Rd,R.err≠0->f R=(zf,R))(hg:∀ R:Rd,R.err≠0->g R=(zg,R))(R:Rd):
  dx (Fw f g) (zf,zg) R=if (g (f R).2).2.err≠0 then ((zf,zg),⟨R.at_,(g (f R).2).2.bad,(g (f R).2).2.err⟩) else (((f R).1,(g (f R).2).1),(g (f R).2).2):=by
 unfold dx;by_cases h0:R.err≠0
 ·rw[na h0,hf R h0];dsimp only;rw[hg R h0,na h0]
 ·rw[nc h0];rfl
def r8{k:Nat}(h:(vt bs R k).err≠0):vt bs R (k+1)=vt bs R k:=nh Prod.snd (vu (f:=Ug bs 16) (z:=sZ) h)
def zhb:N9 bs R=if (vt bs R 2).err≠0 then ((sZ,sZ),⟨R.at_,(vt bs R 2).bad,(vt bs R 2).err⟩) else (((lj bs 16 R).1,(lj bs 16 (vt bs R 1)).1),vt bs R 2):=
 A6 (fun _ h=>vu h) (fun _ h=>vu h) R
def sf:ws bs R=if (vt bs R 3).err≠0 then (n3,⟨R.at_,(vt bs R 3).bad,(vt bs R 3).err⟩) else ((((lj bs 16 R).1,(lj bs 16 (vt bs R 1)).1),(lj bs 16 (vt bs R 2)).1),vt bs R 3):=by
 have h:=A6 (f:=N9 bs) (g:=lj bs 16) (zf:=(sZ,sZ)) (zg:=sZ) (fun _ h=>vu h) (fun _ h=>vu h) R;unfold ws;refine h.trans ?_;rw[zhb];by_cases h2:(vt bs R 2).err≠0
 ·rw[na h2];dsimp only;have hs:lj bs 16 ⟨R.at_,(vt bs R 2).bad,(vt bs R 2).err⟩=(sZ,⟨R.at_,(vt bs R 2).bad,(vt bs R 2).err⟩):=vu h2;rw[hs,r8 h2,na h2,na h2]
 ·rw[nc h2];rfl
def uOf:List ByteArray->U
 | [a,b,c,d,e,f]=>(((a,b),c),((d,e),f))
 | _=>(n3,n3)
def Qc:vt bs (vt bs R 3) 3=vt bs R 6:=by simp only[vt]
def Xf:vt bs (vt bs R 3) 1=vt bs R 4:=by simp only[vt]
def Xg:vt bs (vt bs R 3) 2=vt bs R 5:=by simp only[vt]
def zcj:zck bs R 6=[(lj bs 16 R).1,(lj bs 16 (vt bs R 1)).1,(lj bs 16 (vt bs R 2)).1,(lj bs 16 (vt bs R 3)).1,(lj bs 16 (vt bs R 4)).1,(lj bs 16 (vt bs R 5)).1]:=by
 simp only[zck,vt,mj,zpd]
def S0(h3:(vt bs R 3).err≠0):vt bs R 6=vt bs R 3:=by
 have h4:=r8 h3;have h5:=r8 (k:=4) (h4 ▸ h3);have h6:=r8 (k:=5) (h5 ▸ h4 ▸ h3);exact h6.trans (h5.trans h4)
def Fx:td bs R=if (ws bs (ws bs R).2).2.err≠0 then ((n3,n3),⟨R.at_,(ws bs (ws bs R).2).2.bad,(ws bs (ws bs R).2).2.err⟩) else (((ws bs R).1,(ws bs (ws bs R).2).1),(ws bs (ws bs R).2).2):=A6 (f:=ws bs) (g:=ws bs) (zf:=n3) (zg:=n3) (fun _ h=>vu h) (fun _ h=>vu h) R
def Td(h:R.err≠0):ws bs R=(n3,R):=vu h
def Of{a:Nat}(h:e≠0):ws bs ⟨a,b,e⟩=(n3,⟨a,b,e⟩):=Td (R:=⟨a,b,e⟩) h
def X9{a:Nat}{x y:α}(h:e≠0):(if (⟨a,b,e⟩:Rd).err≠0 then x else y)=x:=na h
def zjd(h3:(vt bs R 3).err≠0):td bs R=((n3,n3),⟨R.at_,(vt bs R 3).bad,(vt bs R 3).err⟩):=by
 have hG:=sf (bs:=bs) (R:=R);rw[na h3] at hG;rw[Fx,hG];generalize vt bs R 3=zs3 at h3 |-;obtain⟨q1,q2,q3⟩:=zs3;have hs:=Of (bs:=bs) (a:=R.at_) (b:=q2) h3;dsimp only at hs |-;rw[hs];exact X9 h3
def zl6{Q3:Rd}{g:Dx}{a:Nat}(hG:ws bs R=(g,Q3))(hg:ws bs Q3=(n3,⟨a,b,e⟩))(h6:e≠0):td bs R=((n3,n3),⟨R.at_,b,e⟩):=by
 rw[Fx,hG];dsimp only;rw[hg];exact X9 h6
def zl5{Q3 Q6:Rd}{g h:Dx}(hG:ws bs R=(g,Q3))(hg:ws bs Q3=(h,Q6))(h6:¬ Q6.err≠0):td bs R=((g,h),Q6):=by
 rw[Fx,hG];dsimp only;rw[hg];exact nc h6
def zjc(h3:¬ (vt bs R 3).err≠0)(h6:(vt bs R 6).err≠0):td bs R=((n3,n3),⟨R.at_,(vt bs R 6).bad,(vt bs R 6).err⟩):=by
 have hG:=sf (bs:=bs) (R:=R);rw[nc h3] at hG;have hg:=sf (bs:=bs) (R:=vt bs R 3);rw[Qc,na h6] at hg;exact zl6 hG hg h6
def zjb(h3:¬ (vt bs R 3).err≠0)(h6:¬ (vt bs R 6).err≠0):td bs R=(((((lj bs 16 R).1,(lj bs 16 (vt bs R 1)).1),(lj bs 16 (vt bs R 2)).1),(((lj bs 16 (vt bs R 3)).1,(lj bs 16 (vt bs R 4)).1),(lj bs 16 (vt bs R 5)).1)),vt bs R 6):=by
 have hG:=sf (bs:=bs) (R:=R);rw[nc h3] at hG;have hg:=sf (bs:=bs) (R:=vt bs R 3);rw[Qc,Xf,Xg,nc h6] at hg;exact zl5 hG hg h6
def zbh:td bs R=(uOf (zlu bs R).1,(zlu bs R).2):=by
 unfold zlu;by_cases h3:(vt bs R 3).err≠0
 ·rw[zjd h3,S0 h3,na h3];dsimp only[uOf]
 ·by_cases h6:(vt bs R 6).err≠0
  ·rw[zjc h3 h6,na h6];dsimp only[uOf]
  ·rw[zjb h3 h6,nc h6,zcj];dsimp only[uOf]
def Na(s:ByteArray)(l:List Nat):Kh (an s++l)=s++Kh l:=by
 apply cy;rw[uc];unfold Kh an;simp only[zpb,zq8];show List.map (UInt8.ofNat∘fun c=>c.toNat) s.data.toList++_=s.data.toList++_;rw[zsb (g:=id) fun c _=>by simp,zry]
def Uq:Kh []=⟨#[]⟩:=rfl
def Yo{a:Nat}(h:bs[a]?=some b):bs.drop a=b::bs.drop (a+1):=by
 obtain⟨h1,h2⟩:=zp0.1 h;rw[zpu h1,h2]
def sn{r:List Nat}{a:Nat}(h:bs.drop a=b::r):bs[a]?=some b/\bs.drop (a+1)=r:=by
 have h1:bs[a]?=some b:=by
  have:=nh (fun l:List Nat=>l[0]?) h;simpa using this
 refine⟨h1,?_⟩;have h2:=Yo h1;rw[h] at h2;exact(List.cons.inj h2).2.symm
def v6{x r:List Nat}{a:Nat}(h:bs.drop a=x++r):bs.drop (a+x.length)=r:=by
 rw[<-zp6,h,zr6]
def Xa(h:bs[R.at_]?=some n)(hn:n<128):Lk bs R=(n,⟨R.at_+1,R.bad,R.err⟩):=by
 unfold Lk;show T2 bs (9+1) 0 0 R=_;unfold T2;rw[h];dsimp only;rw[nc T,na hn,zsh hn];simp
def Ql{R2:Rd}(h0:R.err=0)(h:Lk bs R=(n,R2))(h2:R2.err=0)(hn:n<=lim)(hl:lim<=1099511627776):wl bs lim R=((n:Int),R2):=by
 have hw:ay bs lim 3 R=(n,R2):=by unfold ay;rw[h];exact if_neg G
 have hg:ze1 bs lim R=((n:Int),R2):=by
  unfold ze1;rw[hw];exact Prod.ext (xb G G) Z
 unfold wl dx;rw[nc (fun h=>h h0),hg,nc (fun h=>h h2)]
def zbf{s:ByteArray}(h:s.size<=16):Ao s=s.size::an s:=by unfold Ao;rw[ez T];rfl
def Kg(s:ByteArray):Kh (an s)=s:=by
 have h:=Na s [];rw[mq,Uq] at h;rw[h];apply cy;rw[uc];simp
def zi7{s:ByteArray}(h0:R.err=0)(hs:s.size<=16)(hd:bs.drop R.at_=Ao s++rest):lj bs 16 R=(s,⟨R.at_+(Ao s).length,R.bad,0⟩):=by
 rw[zbf hs] at hd |-;obtain⟨h1,h2⟩:=sn (r:=an s++rest) hd;have hln:(bs.drop R.at_).length=1+s.size+rest.length:=by rw[hd,nr,nz,bq];omega
 rw[m8] at hln;have hl:=Ql (lim:=16) h0 (Xa h1 T) h0 hs E
 have hg:Ug bs 16 R=(s,⟨R.at_+1+s.size,R.bad,R.err⟩):=by
  unfold Ug;rw[hl];dsimp only;rw[nc (by intro h;rcases h with h | h;exact h h0;omega),zpf,h2,<-bq,List.take_left,Kg]
 unfold lj dx;rw[nc (fun h=>h h0),hg,nc (fun h=>h h0),h0,nz,bq,show R.at_+1+s.size=R.at_+(s.size+1) by omega]
def tw{bs:List Nat}{R:Rd}:∀ n,vt bs R (n+1)=vt bs (lj bs 16 R).2 n
 | 0=>rfl
 | n+1=>by
  have h:vt bs R (n+1+1)=(lj bs 16 (vt bs R (n+1))).2:=rfl;rw[h,tw n];rfl
def Et{bs:List Nat}{R:Rd}:∀ n,zck bs R (n+1)=(lj bs 16 R).1::zck bs (lj bs 16 R).2 n
 | 0=>rfl
 | n+1=>by
  have h:zck bs R (n+1+1)=zck bs R (n+1)++[(lj bs 16 (vt bs R (n+1))).1]:=rfl;rw[h,Et n,tw n];rfl
def zev{bs rest:List Nat}:∀ {ss:List ByteArray} {R:Rd},R.err=0->(∀ s∈ss,s.size<=16)->bs.drop R.at_=v8 ss++rest->vt bs R ss.length=⟨R.at_+(v8 ss).length,R.bad,0⟩/\zck bs R ss.length=ss
 | [],R,h0,_,_=>by
  obtain⟨a,b,e⟩:=R;cases h0;exact⟨rfl,rfl⟩
 | s::ss,R,h0,hs,hd=>by
  have e1:v8 (s::ss)=Ao s++v8 ss:=rfl;rw[e1,mw] at hd;have h1:=zi7 h0 (hs s (mc ..)) hd;have h2:=zev (R:=⟨R.at_+(Ao s).length,R.bad,0⟩) rfl (fun x hx=>hs x (mh _ hx)) (v6 hd);rw[nz,tw,Et,h1,e1,nr,<-zrl];dsimp only;exact⟨h2.1,nh (s::·) h2.2⟩
def zfs{t:U}(h:tE t=0):∀ s∈u6 t,s.size<=16:=by
 unfold tE at h;split at h
 ·rename_i h1;obtain⟨c1,c2,c3⟩:=Tw h1;obtain⟨d1,d2,d3⟩:=tg h;have a1:=u0 c1;have a2:=u0 c2;have a3:=u0 c3;have b1:=u0 d1;have b2:=u0 d2
  have b3:t.2.2.size<=16:=by
   rcases d3 with d3 | d3
   ·rw[d3];decide
   ·exact u0 d3
  intro s hs;simp only[u6,ma,zp8,or_false] at hs;rcases hs with rfl | rfl | rfl | rfl | rfl | rfl<;>assumption
 ·rename_i h1;exact ni h h1
def zja{t:U}(h0:R.err=0)(ht:tE t=0)(hd:bs.drop R.at_=Pn t++rest):td bs R=(t,⟨R.at_+(Pn t).length,R.bad,0⟩):=by
 obtain⟨h1,h2⟩:=zev (ss:=u6 t) h0 (zfs ht) hd;have e6:(u6 t).length=6:=rfl;rw[e6] at h1 h2;rw[zbh];unfold zlu;rw[h1,h2,nc (fun h=>h rfl)];rfl
def zdc(h0:R.err=0)(ha:¬ R.at_<bs.length):Hb bs R=(R.bad,0):=by unfold Hb;rw[if_neg (fun h=>ha h.2),h0]
def zfm{R2:Rd}(h:Lk bs R=(n,R2))(hn:n<=lim):ay bs lim e R=(n,R2):=by
 unfold ay;rw[h];exact if_neg G
def zh9{bs rest:List Nat}{k:Bool}(h0:R.err=0)(hd:bs.drop R.at_=[if k=true then 1 else 0]++rest):ij bs R=(k,⟨R.at_+1,R.bad,0⟩):=by
 obtain⟨h1,_⟩:=sn (r:=rest) hd;have hw:=zfm (lim:=1) (e:=5) (Xa h1 (by split<;>omega)) (by split<;>omega)
 have hg:bG bs R=(k,⟨R.at_+1,R.bad,R.err⟩):=by
  unfold bG;rw[hw];cases k<;>rfl
 rw[Rc];unfold dx;rw[nc (fun h=>h h0),hg,nc (fun h=>h h0),h0]
def zdo:de bs R=if (ij bs (td bs R).2).2.err≠0 then (((n3,n3),false),⟨R.at_,(ij bs (td bs R).2).2.bad,(ij bs (td bs R).2).2.err⟩) else (((td bs R).1,(ij bs (td bs R).2).1),(ij bs (td bs R).2).2):=
 A6 (f:=td bs) (g:=ij bs) (zf:=(n3,n3)) (zg:=false) (fun _ h=>vu h) (fun _ h=>vu h) R
def zk8(h0:R.err=0)(ht:tE c.1=0)(hd:bs.drop R.at_=chgB c++rest):de bs R=(c,⟨R.at_+(chgB c).length,R.bad,0⟩):=by
 unfold chgB at hd;rw[mw] at hd;have h1:=zja h0 ht hd;have h2:=zh9 (R:=⟨R.at_+(Pn c.1).length,R.bad,0⟩) (k:=c.2) rfl (v6 hd);rw[zdo,h1];dsimp only;rw[h2];dsimp only;rw[nc (fun h=>h rfl)];unfold chgB;rw[nr,zp3,zrl]
def zin(l:List U):Option U->List CH->Prop
 | _,[]=>True
 | la,c::cs=>tE c.1=0/\za1 la c.1=true/\decide (c.1∈l)=c.2/\zin l (some c.1) cs
def Hu(cs:List CH):List CH:=cs.filter fun c=>!c.2
def dz(cs:List CH):List CH:=cs.filter fun c=>c.2
def zal(c:CH)(cs a:List CH):(if c.2=true then a else a++[c])++Hu cs=a++Hu (c::cs):=by
 unfold Hu;cases h:c.2
 ·rw[nc E,zqt (by simp [h])];simp
 ·rw[na rfl,zrk (by simp [h])]
def Tl(c:CH)(cs d:List CH):(if c.2=true then d++[c] else d)++dz cs=d++dz (c::cs):=by
 unfold dz;cases h:c.2
 ·rw[nc E,zrk (by simp [h])]
 ·rw[na rfl,zqt (by simp [h])];simp
def Y3{bs rest:List Nat}{l:List U}:∀ {cs:List CH} {la:Option U} {a d:List CH} {R:Rd},R.err=0->zin l la cs->bs.drop R.at_=cs.flatMap chgB++rest->
  E8 bs l cs.length la a d R=(((a++Hu cs,d++dz cs),⟨R.at_+(cs.flatMap chgB).length,R.bad,0⟩),(0,0))
 | [],la,a,d,R,h0,_,_=>by
  obtain⟨x,y,z⟩:=R;cases h0;show(((a,d),_),_)=(((a++[],d++[]),_),_);rw[mq,mq];rfl
 | c::cs,la,a,d,R,h0,hk,hd=>by
  obtain⟨k1,k2,k3,k4⟩:=hk;have e1:(c::cs).flatMap chgB=chgB c++cs.flatMap chgB:=rfl;rw[e1,mw] at hd;have h1:=zk8 h0 k1 hd;rw[nz];unfold E8;rw[h1];dsimp only;rw[nc (fun h=>h rfl),nc (fun h=>h k1),k2,nc E,nc (fun h=>h k3)];rw[Y3 (R:=⟨R.at_+(chgB c).length,R.bad,0⟩) rfl k4 (v6 hd),zal,Tl,e1,nr,zrl]
def zcg(h:¬ n<128)(hi:i<=9)(hn:n*128^i<18446744073709551616):i≠9/\n/128*128^(i+1)<18446744073709551616:=by
 have h1:n/128*128^(i+1)<=n*128^i:=by
  rw[Nat.pow_succ,Nat.mul_comm (128^i) 128,<-Nat.mul_assoc];exact zqz _ (Nat.div_mul_le_self n 128)
 refine⟨fun e=>?_,by omega⟩;subst e;have h9:(128:Nat)^9=9223372036854775808:=E;rw[h9] at hn;omega
def zch(hp:0<i->0<n)(hn:n*128^i<18446744073709551616):¬ (i=9/\n≠1\/0<i/\n=0):=by
 rintro(⟨rfl,h⟩ | ⟨h1,h2⟩)
 ·have h9:(128:Nat)^9=9223372036854775808:=E;rw[h9] at hn;have:=hp E;omega
 ·have:=hp h1;omega
def zhc:∀ (f i acc n:Nat) (R:Rd),f+i=10->i<=9->n*128^i<18446744073709551616->(0<i->0<n)->bs.drop R.at_=gl n++rest->
  T2 bs f i acc R=(acc+n*128^i,⟨R.at_+(gl n).length,R.bad,R.err⟩):=by
 intro f
 induction f with
 | zero=>intro i acc n R h1 h2;omega
 | succ f ih=>
  intro i acc n R hf hi hn hp hd;unfold T2;by_cases h:n<128
  ·rw[ez h] at hd |-;obtain⟨h1,_⟩:=sn (r:=rest) hd;rw[h1];dsimp only;rw[nc (zch hp hn),na h,zsh h];rfl
  ·rw[Gp h] at hd |-;obtain⟨h1,h2⟩:=sn (r:=gl (n/128)++rest) hd;obtain⟨hi8,hq⟩:=zcg h hi hn;have hr:=ih (i+1) (acc+(n%128+128)%128*128^i) (n/128) ⟨R.at_+1,R.bad,R.err⟩ T T hq (fun _=>by omega) h2;rw[h1];dsimp only;rw[nc T,nc T,hr];have e1:(n%128+128)%128=n%128:=T;have e2:n=n%128+128*(n/128):=T;refine Prod.ext ?_ ?_
   ·dsimp only;rw[e1,zrl,Nat.pow_succ];congr 1
    conv=>rhs;rw[e2]
    rw[zpx,Nat.mul_comm 128 (n/128),Nat.mul_assoc (n/128) 128,Nat.mul_comm 128 (128^i)]
   ·dsimp only;rw[nz,show R.at_+1+(gl (n/128)).length=R.at_+((gl (n/128)).length+1) by omega]
def Qa(hn:n<18446744073709551616)(hd:bs.drop R.at_=gl n++rest):Lk bs R=(n,⟨R.at_+(gl n).length,R.bad,R.err⟩):=by
 unfold Lk;rw[zhc 10 0 0 n R rfl E T (fun h=>ni h (Nat.lt_irrefl 0)) hd];simp
def za0(cs:List CH):List Nat:=gl cs.length++cs.flatMap chgB
def zhz(h0:R.err=0)(hn:cs.length<=8192)(hk:zin l none cs)(hs:l.length+(Hu cs).length<=4096+(dz cs).length)(hd:bs.drop R.at_=za0 cs++rest):
  A5 bs l R=((s8 l (dz cs++Hu cs),⟨R.at_+(za0 cs).length,R.bad,0⟩),(0,0)):=by
 unfold za0 at hd;rw[mw] at hd;have h1:=Qa (n:=cs.length) T hd;rw[h0] at h1;have h2:=Ql (lim:=8192) h0 h1 rfl hn E;have h3:=Y3 (bs:=bs) (rest:=rest) (l:=l) (cs:=cs) (la:=none) (a:=[]) (d:=[]) (R:=⟨R.at_+(gl cs.length).length,R.bad,0⟩) rfl hk (v6 hd);unfold A5;rw[h2];dsimp only;rw[nc (fun h=>h rfl),zpf,h3];dsimp only;rw[nc (fun h=>h rfl),mj,mj,nc T];unfold za0;rw[nr,zrl]
open Go.V.L10
abbrev K3:=Int×Nat×List U
def Tm:List K3->Int->List U->List Nat
 | [],_,_=>[]
 | k::ks,last,s=>(gl (k.1-last).toNat++(gl k.2.1++za0 (Dt s k.2.2)))++Tm ks k.1 k.2.2
def Oi(ks:List K3):List Nat:=gl ks.length++Tm ks 0 []
def tZ(S:Sto)(r:Int):List U:=(kpt S.R r).getD []
def Oe(S:Sto):List K3:=(jb S.R).map fun r=>(r,List.count r S.P,tZ S r)
structure znx(S:Sto):Prop where
 n0:S.R.length≠0
 rl:S.R.length<18446744073709551616
 k0:0<(jb S.R).length
 kl:(jb S.R).length<=1024
 pl:(xh S.P).length<=100000
 pb:S.P.length<=1000000000000
 tl:∀ r t,kpt S.R r=some t->t.length<=4096/\Sst kw t/\∀ x∈t,∀ s∈u6 x,s.size<=1000
def pj(h:n<18446744073709551616):(gl n).length<=10:=by
 have h128:(128:Nat)^10=1180591620717411303424:=E;exact rz 9 n T
def Dq{l:List CH}(h:∀ c∈l,∀ s∈u6 c.1,s.size<=1000):∀ i,((l.take i).flatMap chgB).length<=i*6061
 | 0=>by rw[zpt];exact nu _
 | i+1=>by
  have h1:=Dq h i;rw[zpa,zpo,nr]
  cases ht:l[i]? with
  | none=>
   have e:(none.toList:List CH).flatMap chgB=[]:=rfl;rw[e,m6];omega
  | some c=>
   have h2:=zdp (h c (zo7 ht));have e:((some c).toList:List CH).flatMap chgB=chgB c:=by simp
   rw[e];omega
def Tq{l:List CH}(h:l[i]?=some c):(l.take (i+1)).flatMap chgB=(l.take i).flatMap chgB++chgB c:=by
 rw[zpa,h,zpo];simp
structure DmJ(S:Sto)(T0:List Nat)(i last:Nat)(s:List U)(acc:List Nat):Prop where
 hi:i<=(jb S.R).length
 he:acc++Tm ((Oe S).drop i) last s=T0
 bz:acc.length<=10+i*50000000
 sl:s.length<=4096
 ss:Sst kw s
 sz:∀ x∈s,∀ q∈u6 x,q.size<=1000
 lb:∀ (j:Nat) (r:Int),i<=j->(jb S.R)[j]?=some r->(last:Int)<r
def zde(hD:znx S)(hB:zs4 B w)(hr:(StG b S).P B w C)(hC:ZCB C w B):
  RetY zs5 85 [eu b] w B C (StG b S) (TupS [BsV (Oi (Oe S)) true,fun v _=>v=.int .i64 0]):=by
 have hkl:=hD.kl;have hpb:=hD.pb;have hk0:=hD.k0;have hzl:(Oe S).length=(jb S.R).length:=m4 ..;have hn0:=pj (n:=(jb S.R).length) T;unfold RetY;refine xf 910 (StG b S) Tryz.func85 Z Tryz.ntmps85 (np Z) hB hr hC ((ZbX∘ZbA) ?_);refine ye (vj L 910 (RsV (jb S.R) true) (r:=StG b S) Z Z Z Z Z ns (fun u H2 C2 hH hle hr2 hC2=>Uz hD.n0 T hH hr2 hC2)) ((ZR∘ZaC∘Zv∘Zj∘ZbK∘Zt∘ZE∘Zg) ?_);refine jd 5 900 rfl fun wb=>?_;refine zaq 901 zaw 1 (wc 900 901 rfl Z (Hn _ _) ?_);refine s7 (X:=Value) 900 (r:=fun sv=>(GWv wb [] sv).res) (φ:=fun sv _=>O6 sv) dv (.slice none 0 0) ⟨_,_,_,rfl⟩ Z ((Z1∘Zj) ?_);refine z7 (kr Z Z Z oj.1 oj.2 (wrap_u64 T T)) Z (qg (xe L 900 (GWr wb (gl (jb S.R).length)) (r:=GWr wb []) Z Z Z Z Z (fun u H C hH _ hr hC=>u5 (bs:=[]) T E hH hr hC)) ((Zg∘ZO∘ZdB∘ZE∘Zs∘ZaU∘ZaC∘Zy∘Zj∘ZaR) ?_));have hj0:DmJ S (Oi (Oe S)) 0 0 [] (gl (jb S.R).length):=⟨Nat.zero_le _,by unfold Oi;rw[hzl];rfl,by omega,Nat.zero_le _,Sst.nil,(fun _ h=>by cases h),fun j r _ hr=>(bl (vl.1 (List.mem_of_getElem? hr))).1⟩
 generalize Oi (Oe S)=T0 at hj0 |-;refine s7 (X:=SXp) 7 (r:=fun x=>Cell (scs x.1) tySt) (φ:=D5 []) (jg []) ⟨(.nilFunc,none,.nilFunc,none),rfl⟩ SetV.nil Z ?_
 refine xp (fun x:Nat×Nat×List U×List Nat=>[(0,.is (eu b)),(5,.is (kq wb)),(6,.is (.int .u64 x.2.1)),(7,.own (ExR (fun y:SXp=>Cell (scs y.1) tySt) (D5 x.2.2.1) (jg _))),(25,.sat (RsV (jb S.R) true)),(26,.is (.int .i64 (jb S.R).length)),(27,.is (.int .i64 x.1)),(900,.own (GWr wb x.2.2.2).res),(910,.own (StG b S).res)])
  (fun x=>DmJ S T0 x.1 x.2.1 x.2.2.1 x.2.2.2) (fun x=>(jb S.R).length-x.1) (0,0,[],gl (jb S.R).length) hj0 ⟨rfl,rfl,rfl,rfl,rfl,rfl,rfl,rfl,rfl,nm⟩ ?_
 rintro⟨i,last,s,acc⟩ hj;dsimp only at hj |-;have hbz:=hj.bz;have hsl:=hj.sl;have hss:=hj.ss;by_cases hlt:i<(jb S.R).length
 ·obtain⟨r,hr1⟩:=xm hlt;have hk:=vl.1 (zo7 hr1);obtain⟨t,ht⟩:=zp1.1 hk;have hb1:=bl hk;obtain⟨rn,rfl⟩:∃ rn:Nat,r=(rn:Int):=⟨r.toNat,by omega⟩
  have hcr:=K6 hr1;have hrl:=hD.rl;have hA:atS S rn=(t,0):=by unfold atS;rw[if_neg T,ht]
  obtain⟨tl,ts,tz⟩:=hD.tl _ _ ht;have hlb:=hj.lb i _ (nu _) hr1;have hws:IntKind.u64.wrap ((rn:Int)-(last:Int))=((rn-last:Nat):Int):=(wrap_u64 T T).trans T;have hcn:List.count (rn:Int) S.P<=S.P.length:=zsu;have hcw:IntKind.u64.wrap ((List.count (rn:Int) S.P:Nat):Int)=((List.count (rn:Int) S.P:Nat):Int):=wrap_u64 T T;have hzi:(Oe S)[i]?=some ((rn:Int),List.count (rn:Int) S.P,t):=by unfold Oe tZ;rw[List.getElem?_map,hr1];show some ((rn:Int),List.count (rn:Int) S.P,(kpt S.R rn).getD [])=_;rw[ht];rfl
  have he:=hj.he
  have hdr:(Oe S).drop i=((rn:Int),List.count (rn:Int) S.P,t)::(Oe S).drop (i+1):=by
   rw[zpu T];rw[zpe T] at hzi;rw[Option.some.inj hzi]
  rw[hdr] at he;unfold Tm at he;dsimp only at he;rw[show((rn:Int)-(last:Int)).toNat=rn-last by omega] at he;have hbl:=Hk s t
  have hmz:∀ c∈Dt s t,∀ q∈u6 c.1,q.size<=1000:=fun c hc=>by
   rw[u4] at hc;rcases hc.1 with h | h
   ·exact hj.sz _ h.1
   ·exact tz _ h.2
  have hbt:=zia hss ts;have hn1:=pj (n:=rn-last) T;have hn2:=pj (n:=List.count (rn:Int) S.P) T
  have hlb2:∀ (j:Nat) (r:Int),i+1<=j->(jb S.R)[j]?=some r->(rn:Int)<r:=fun j r hij hr=>by
   have h3:=zqm.1 (ek S.R) i j hlt (get_lt hr) T;rw[p9 hr1,p9 hr] at h3;exact zab.1 h3
  generalize Dt s t=m at he hbl hmz hbt;have hn3:=pj (n:=m.length) T;have hmw:IntKind.u64.wrap ((m.length:Nat):Int)=((m.length:Nat):Int):=wrap_u64 T T
  have hcnt:∀ {v:Value} {u:World} {H:Heap},zs4 H u->PinsP S.P v H->Ret zs5 143 [v,.int .u64 rn] u H (fun v _=>v=.int .i64 (List.count (rn:Int) S.P:Nat)):=fun hH h1=>by
   obtain⟨sv,rfl,hsv⟩:=h1;exact Ab hD.pl hH hsv
  generalize List.count (rn:Int) S.P=cnt at he hcn hcw hn2 hcnt;have hms:Kn.mono (.sat (SetV t)):=SetV.mono;have hmi:Kn.mono (.sat (fun v _=>v=Value.int .i64 0)):=fun _ _ _ h _=>h;refine(Ze∘Zu∘Zat∘Z2∘Zaz∘Zdf∘Zd∘Z4∘Zb) ?_;refine ye (vj L 910 (WithE t 0) (r:=StG b S) Z Z Z Z Z WithE.mono (fun u H2 C2 hH hle hr2 hC2=>zib hA hD.n0 hH hr2 hC2)) ((Zh∘Zdp∘ZcR∘ZE) ?_);refine z7 (bg L (X:=SXp) (fun x=>scs x.1) (D5 t) (jg _) Kq (fun x=>⟨rfl,x.2⟩) Z Z Z Z Z) Z (Zd (h:=?_));refine uk 10 rfl fun x H1 hs1 hset=>?_;obtain⟨⟨f1,p1,f2,p2⟩,hpl⟩:=x;dsimp only[scs] at hset hpl |-;refine uk 7 rfl fun x7 H2 hs2 hset7=>?_;obtain⟨⟨f3,p3,f4,p4⟩,hpl7⟩:=x7;dsimp only[scs] at hset7 hpl7 |-;have hset2:=hset.le hs2.le;refine(ZG∘ZaQ) ?_;refine qg (xe L 900 (GWr wb (acc++gl (rn-last))) (r:=GWr wb acc) Z Z Z Z Z (fun u H C hH _ hr hC=>u5 T T hH hr hC)) ((Zg∘ZJ∘Za) ?_);refine ye (vj L 910 (PinsP S.P) (r:=StG b S) Z Z Z Z Z PinsP.mono (fun u H2 C2 hH hle hr2 hC2=>Uv hD.n0 hH hr2 hC2)) (Za (h:=?_));refine z7 (qb (r:=.int .i64 cnt) L Z Z (zm Z) Z Z Z (fun u H hH hle _ v1 h1=>hcnt hH h1)) Z (z7 (kr Z Z Z oj.1 oj.2 (wrap_u64 T T)) Z (qg (xe L 900 (GWr wb (acc++gl (rn-last)++gl cnt)) (r:=GWr wb (acc++gl (rn-last))) Z Z Z Z Z (fun u H C hH _ hr hC=>u5 T (by rw[nr];omega) hH hr hC)) ?_));refine Zg (h:=?_);refine(Zae∘Zbg∘Zbg) ?_;refine z7 (xg (φ:=KS tyC m true) L Z Z (zm Z) Z Z Z ns (fun u H hH hle _=>Mg hsl tl hss ts hbt hH (hset7.le hle) (hset2.le hle))) Z ((ZR∘Zg∘ZaD∘Zj) ?_);refine z7 (kr Z Z Z oj.1 oj.2 (wrap_u64 T T)) Z (qg (xe L 900 (GWr wb (acc++gl (rn-last)++gl cnt++gl m.length)) (r:=GWr wb (acc++gl (rn-last)++gl cnt)) Z Z Z Z Z (fun u H C hH _ hr hC=>u5 T (by simp only[nr];omega) hH hr hC)) ?_);refine(ZaC∘Zaa∘Zj∘ZaR) ?_;obtain⟨A,hA2,hAl⟩:∃ A,acc++gl (rn-last)++gl cnt++gl m.length=A/\A.length<=40+i*50000000:=⟨_,rfl,by simp only[nr];omega⟩
  rw[hA2];refine xp (fun j:Nat=>[(0,.is (eu b)),(5,.is (kq wb)),(6,.is (.int .u64 last)),(7,.own (Cell [f3,.pointer p3,f4,.pointer p4] tySt)),(9,.is (.int .u64 rn)),(10,.own (Cell [f1,.pointer p1,f2,.pointer p2] tySt)),(25,.sat (RsV (jb S.R) true)),(26,.is (.int .i64 (jb S.R).length)),(27,.is (.int .i64 i)),(54,.sat (KS tyC m true)),(55,.is (.int .i64 m.length)),(56,.is (.int .i64 j)),(900,.own (GWr wb (A++(m.take j).flatMap chgB)).res),(910,.own (StG b S).res)]) (fun j=>j<=m.length) (fun j=>m.length-j) 0 (mb _) ⟨Z,Z,Z,Z,Z,Z,Z,Z,Z,Z,Z,Z,by rw[zpt,List.flatMap_nil,mq];rfl,Z,nm⟩ ?_;rintro j hjl;have hcl:=Dq hmz j;by_cases hlt2:j<m.length
  ·obtain⟨c,hc⟩:=xm hlt2;have hck:=Gx hc;have hcz:=hmz c (zo7 hc);have hsn:=Tq hc;refine(Ze∘Zaj∘Zat∘Zbx∘Zaz∘ZdH∘Za1∘Zw∘ZaO∘Zcv) ?_;refine qg (xe L 900 (GWr wb (A++(m.take j).flatMap chgB++chgB c)) (r:=GWr wb (A++(m.take j).flatMap chgB)) Z Z Z Z Z (fun u H C hH _ hr hC=>za9 hcz (by rw[nr];omega) hH hr hC)) ?_;refine(ZaA∘Zcs∘ZB) ?_;exact yo (x:=j) (j+1) hlt2 T ⟨Z,Z,Z,Z,Z,Z,Z,Z,Z,Z,Z,Z,by rw[hsn,<-mw];rfl,Z,nm⟩
  ·obtain rfl:j=m.length:=by omega
   rw[zoy] at hcl |-;refine(Ze∘Zaj∘ZfX∘ZaH∘Zbr) ?_;refine qn (id:=20) [] ko J ((Zl∘Zcj∘ZaK) ?_);refine z8 (qq L Z Z M Z) Z ((ZcB∘ZcJ∘ZB) ?_);exact ol (X:=SXp) 7 (r:=fun x=>Cell (scs x.1) tySt) (jg t) ⟨(f1,p1,f2,p2),hpl⟩ hset2 Z (jn (x:=(i,last,s,acc)) (i+1,rn,t,A++m.flatMap chgB) (hs1.trans hs2) ⟨hlt,by rw[<-he,<-hA2];unfold za0;simp only[List.append_assoc],by rw[List.length_append];omega,tl,ts,tz,hlb2⟩ G ⟨Z,Z,Z,Z,Z,Z,Z,Z,Z,trivial⟩)
 ·obtain rfl:i=(jb S.R).length:=by have:=hj.hi;omega
  have he:=hj.he;rw[zo4 T] at he;have he2:acc=T0:=by rw[<-he];exact(mq _).symm
  subst he2;refine(Ze∘Zu∘Zak∘Zd0) ?_;refine qg (C5 L 900 GNo (BsV acc true) (r:=GWr wb acc) Z Z Z Z Z ns (fun u H C hH _ hr hC=>Tj (Ro T hH hr hC))) ((ZR∘Zc) ?_);exact ui L 910 (r:=StG b S) (rs:=[.tmp 2,.tmp 3]) Z (fun _ _ h=>h) nq Z Z (fun H _ v hv=>U9 hv)
end Go.V.L11
end
end
