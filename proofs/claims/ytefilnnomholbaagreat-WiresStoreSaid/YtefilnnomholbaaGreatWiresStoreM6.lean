/- Texts, part 6. -/
import Derived.Test.YtefilnnomholbaaGreatWiresStoreM5
set_option linter.unusedVariables false
set_option linter.unusedSimpArgs false
set_option maxRecDepth 20000
set_option maxHeartbeats 8000000
set_option linter.defProp false
open Go.Proofs Go.RowKit
section
variable{φ φ1 φ2:Go.Value->Go.V.Heap->Prop}{a cv lv pv s sv v v1 v2:Go.Value}{B H:Go.V.Heap}{e last r x:Int}{b i k lim m n t:Nat}{f:Go.FuncId}{L0 P l:List Int}{fa fb fu:Bool}{w:Go.World}{S S':Go.V.L10.Sto}{es:Go.V.L10.Ent}{args:List Go.Value}{C:Nat->Prop}{cs:List Go.V.L8.CH}{y:(List (Int×List Go.V.L2.U)×List Int)×(Int×Int)}{R:Go.V.L4.Rd}{α:Type}{zs:List (Int×List Go.V.L2.U)}{bs rest:List Nat}{A Y:Prop}
section
open Go.V
attribute [local irreducible] Has N Par Ret RetL Src StepOK V VO X
namespace Go.V.L2
def _root_.ZdG(t:Wr Y->A:=by intro h;refine z9 (y9 L 0 rfl Z Z Z (by first | omega | decide) M) Z ?_;exact h.1)(h:Y):A:=t ⟨h⟩
def _root_.ZdT(t:Wr Y->A:=by intro h;refine z7 (y9 L 0 rfl Z Z Z (by first | omega | decide) M) Z ?_;exact h.1)(h:Y):A:=t ⟨h⟩
def Vl{tv:Value}(h:φ tv H):TupS [φ,fun v _=>v=a] (.tuple #[tv,a]) H:=
 ⟨[tv,a],rfl,rfl,fun i ψ x hi hx=>by
  rcases i with _ | _ | i
  ·simp at hi hx;subst hi hx;exact h
  ·simp at hi hx;subst hi hx;rfl
  ·simp at hi⟩
def Vk(h:Kn.mono (.sat φ)):Kn.mono (.sat (TupS [φ,fun v _=>v=a])):=TupS.mono fun ψ hψ=>by
 rcases nz.1 hψ with rfl | hψ
 ·exact h
 ·rw[my] at hψ;subst hψ;exact fun _ _ _ h _=>h
def li{α:Type}{c:α->α->Int}{f:Bool->Bool->Bool}:∀ (n:Nat) (l m:List α),l.length+m.length<=n->(pz c f n l m).length<=l.length+m.length
 | 0,_,_,_=>by simp [pz]
 | n+1,[],[],_=>by simp [pz]
 | n+1,a::l,[],h=>by
  have:=li (c:=c) (f:=f) n l [] (by simp only[ma,m7] at h |-;omega);simp only[pz,nr,ma,m7] at this |-;split<;>simp only[ma,m7]<;>omega
 | n+1,[],b::m,h=>by
  have:=li (c:=c) (f:=f) n [] m (by simp only[ma,m7] at h |-;omega);simp only[pz,nr,ma,m7] at this |-;split<;>simp only[ma,m7]<;>omega
 | n+1,a::l,b::m,h=>by
  simp only[ma] at h;have h1:=li (c:=c) (f:=f) n l (b::m) (by simp only[ma];omega);have h2:=li (c:=c) (f:=f) n (a::l) m (by simp only[ma];omega);have h3:=li (c:=c) (f:=f) n l m J;simp only[ma] at h1 h2;simp only[pz];split
  ·rw[nr];split<;>simp only[ma,m7]<;>omega
  ·split
   ·rw[nr];split<;>simp only[ma,m7]<;>omega
   ·rw[nr];split<;>simp only[ma,m7]<;>omega
def znx(f:Bool->Bool->Bool)(l m:List U):List U×Int:=
 if 4096<l.length\/4096<m.length then ([],3) else if (isB l && isB m)=true then (pz js f (l.length+m.length) l m,0) else ([],18)
abbrev LE(r:List U×Int):Value->Heap->Prop:=TupS [US r.1 true,fun v _=>v=.int .i64 r.2]
def LE.mono{r:List U×Int}:Kn.mono (.sat (LE r)):=Vk ns
def Ki(a:U)(l:List U):(((a::l).flatMap ucs).drop (1*6)).take (((a::l).length-1)*6)=l.flatMap ucs:=by
 rw[zsi,List.drop_left' (by rfl),ma,zvr,m8 (zuf (gk Kd l))]
def Dv{κ:Kap}{s:Nat}{out:List U}{t:U}(h:κ s=some (.own (SlR tyU 6 (out.length+1) (out.flatMap ucs++[.string t.1.1.1,.string t.1.1.2,.string t.1.2,.string t.2.1.1,.string t.2.1.2,.string t.2.2])))):κ s=some (.own (SlR tyU 6 (out++[t]).length ((out++[t]).flatMap ucs))):=by
 rw[h,zr5,nr];simp [ucs]
def zcm{f:Bool->Bool->Bool}{tf:Nat}(hfn:L.fn tf=some ())(hf:∀ (p q:Bool) (u:World) (H:Heap),zwe H u->Ret zwf tf [.bool p,.bool q] u H (fun v _=>v=.bool (f p q))){l m:List U}
  {r:List U×Int} (hr:znx f l m=r)    (hB:zwe B w) (hv:US l fa v B) (hv2:US m fb v2 B):
  Ret zwf 225 [v,v2,.func (.func tf) #[] #[]] w B (LE r):=by
 subst hr;unfold znx;refine yl Tryz.func225 Z Tryz.ntmps225 (np Z) hB (ku 0 (US l fa) Z ns hv (ku 1 (US m fb) Z ns hv2 ?_));by_cases z1:4096<l.length
 ·rw[na (.inl z1)];refine(Za6∘ZbU∘ZN∘ZbF∘ZaM∘Z4) ?_;refine yk1 L [.tmp 6,.tmp 7] fun u H hH hle=>?_;exact Vl SlV.nil
 ·by_cases z2:4096<m.length
  ·rw[na (.inr z2)];refine(Za6∘ZbU∘ZG∘Za∘Zj∘ZN∘Zf∘ZaM∘Z4) ?_;refine yk1 L [.tmp 6,.tmp 7] fun u H hH hle=>?_;exact Vl SlV.nil
  ·rw[nc J];cases h1:isB l
   ·rw[nc (by simp)];refine(Za6∘ZbU∘ZG∘Za∘Zj∘ZG∘Zf∘ZK∘Z2∘Zg) ?_;refine z7 (qd L Z Z (zn Z) Z Z Z (fun u H hH _ _ v1 hv1=>Dz J h1 hH hv1)) Z ((Zo∘ZbF∘Zr∘ZE∘Z4) ?_);refine yk1 L [.tmp 6,.tmp 7] fun u H hH hle=>?_;exact Vl SlV.nil
   ·cases h2:isB m
    ·rw[nc (by simp)];refine(Za6∘ZbU∘ZG∘Za∘Zj∘ZG∘Zf∘ZK∘Z2∘Zg) ?_;refine z7 (qd L Z Z (zn Z) Z Z Z (fun u H hH _ _ v1 hv1=>Dz J h1 hH hv1)) Z ((Zo∘Za∘Zg) ?_);refine z7 (qd L Z Z (zn Z) Z Z Z (fun u H hH _ _ v1 hv1=>Dz J h2 hH hv1)) Z ((Zo∘Zf∘Zr∘ZE∘Z4) ?_);refine yk1 L [.tmp 6,.tmp 7] fun u H hH hle=>?_;exact Vl SlV.nil
    ·rw[na (by rfl)];refine(Za6∘ZbU∘ZG∘Za∘Zj∘ZG∘Zf∘ZK∘Z2∘Zg) ?_;refine z7 (qd L Z Z (zn Z) Z Z Z (fun u H hH _ _ v1 hv1=>Dz J h1 hH hv1)) Z ((Zo∘Za∘Zg) ?_);refine z7 (qd L Z Z (zn Z) Z Z Z (fun u H hH _ _ v1 hv1=>Dz J h2 hH hv1)) Z ((Zo∘Zba∘ZF∘Ze∘Za7) ?_);refine Yh 0 (US l false) Z ns (fun _ _ h=>h.nofu) (Yh 1 (US m false) Z ns (fun _ _ h=>h.nofu) (um 8 tyU 6 rfl ?_))
     refine xu (fun s:Nat×List U×List U×List U=>[(0,.sat (US s.2.1 false)),(1,.sat (US s.2.2.1 false)),(2,.is (.func (.func tf) #[] #[])),(8,.own (SlR tyU 6 s.2.2.2.length (s.2.2.2.flatMap ucs)))])
      (fun s=>s.2.1.length+s.2.2.1.length<=s.1/\s.2.2.2++pz js f s.1 s.2.1 s.2.2.1=pz js f (l.length+m.length) l m/\s.2.2.2.length+s.2.1.length+s.2.2.1.length<=8192) (fun s=>s.1) (l.length+m.length,l,m,[]) ⟨nu _,rfl,by simp only[m7];omega⟩ ⟨rfl,rfl,rfl,rfl,nm⟩ ?_
     generalize pz js f (l.length+m.length) l m=R;clear h1 h2 z1 z2 hv hv2;rintro⟨n,x,y,out⟩ ⟨hn,hR,hz⟩;dsimp only at hn hR hz |-;rcases x with _ | ⟨a,x⟩
     ·rcases y with _ | ⟨b,y⟩
      ·have hR:out=R:=by rw[<-hR];cases n<;>simp [pz]
       subst hR;have l0:([]:List U).length=0:=rfl;refine(Zd∘Z5∘Zj∘ZG∘Za∘Zj∘ZG∘Zf∘Zao∘Zdz) ?_;refine uz 8 rfl ((ZcS∘Zg∘Zj∘Zj∘ZdX∘Zaf∘Zc) ?_);refine yk1 L [.tmp 6,.tmp 7] fun u H hH hle=>?_;exact fun v hv=>Vl hv
      ·have l0:([]:List U).length=0:=rfl;have lb:(b::y).length=y.length+1:=rfl;have hb:=af (l:=b::y) (i:=0) (t:=b) rfl;have tb:=Ki b y;rcases n with _ | n
       ·simp only[ma,m7] at hn;omega
       cases hft:f false true
       ·have hR:out++pz js f n [] y=R:=by rw[<-hR];simp [pz,hft]
        have hfv:∀ (u:World) (H:Heap),zwe H u->Ret zwf tf [.bool false,.bool true] u H (fun v _=>v=.bool false):=fun u H h=>by have:=hf false true u H h;rwa [hft] at this
        refine(Zd∘Z5∘Zj∘ZG∘Za∘Zj∘ZN∘Zb4∘Zbe∘Z7∘Ze∘ZZ∘ZM∘Zj∘Zx∘Zcd∘ZaH∘ZaT∘Za0∘Zi∘ZU∘Zcn∘ZbA∘Zch∘ZN∘Z1∘Zat∘Zg∘ZdT∘ZaQ∘ZaF∘Zan∘ZaX∘Za∘Zci∘Zc5∘Zg) ?_;refine z7 (jw L (kh:=.i64) (ph:=0) (km:=.i64) (pm:=0) 1 _ false Z Z Z Z Z ⟨rfl,rfl⟩ ⟨rfl,rfl⟩ (fun h=>by cases h) J J M) Z ?_;refine(Zaf∘Zk∘Zbg∘Zb∘ZcV∘Za∘ZbJ) ?_;refine z7 (qd L Z Z (zn Z) Z Z hfn (fun u H hH _ _=>hfv u H hH)) Z ((Zbu∘ZaC) ?_);exact yr (x:=(n+1,[],b::y,out)) (n,[],y,out) ⟨by simp only[List.length_cons,List.length_nil] at hn |-;omega,hR,by simp only[List.length_cons,List.length_nil,List.length_append] at hz |-;omega⟩ G ⟨Z,Z,Z,Z,nm⟩
       ·have hR:out++[b]++pz js f n [] y=R:=by rw[<-hR];simp [pz,hft]
        have hfv:∀ (u:World) (H:Heap),zwe H u->Ret zwf tf [.bool false,.bool true] u H (fun v _=>v=.bool true):=fun u H h=>by have:=hf false true u H h;rwa [hft] at this
        refine(Zd∘Z5∘Zj∘ZG∘Za∘Zj∘ZN∘Zb4∘Zbe∘Z7∘Ze∘ZZ∘ZM∘Zj∘Zx∘Zcd∘ZaH∘ZaT∘Za0∘Zi∘ZU∘Zcn∘ZbA∘Zch∘ZN∘Z1∘Zat∘Zg∘ZdT∘ZaQ∘ZaF∘Zan∘ZaX∘Za∘Zci∘Zc5∘Zg) ?_;refine z7 (jw L (kh:=.i64) (ph:=0) (km:=.i64) (pm:=0) 1 _ false Z Z Z Z Z ⟨rfl,rfl⟩ ⟨rfl,rfl⟩ (fun h=>by cases h) J J M) Z ?_;refine(Zaf∘Zk∘Zbg∘Zb∘ZcV∘Za∘ZbJ) ?_;refine z7 (qd L Z Z (zn Z) Z Z hfn (fun u H hH _ _=>hfv u H hH)) Z ((Z1∘Zcv) ?_);refine qf (yo (.inl Z) Z) ((Zb1∘ZJ∘Zdb) ?_);refine qf (yo (.inr Z) Z) ((Zah∘ZaC) ?_);exact yr (x:=(n+1,[],b::y,out)) (n,[],y,out++[b]) ⟨by simp only[List.length_cons,List.length_nil] at hn |-;omega,hR,by simp only[List.length_cons,List.length_nil,List.length_append] at hz |-;omega⟩ G ⟨Z,Z,Z,Dv Z,nm⟩
     ·have la:(a::x).length=x.length+1:=rfl;have ha:=af (l:=a::x) (i:=0) (t:=a) rfl;have ta:=Ki a x;rcases y with _ | ⟨b,y⟩
      ·have l0:([]:List U).length=0:=rfl;rcases n with _ | n
       ·simp only[ma,m7] at hn;omega
       cases hft:f true false
       ·have hR:out++pz js f n x []=R:=by rw[<-hR];simp [pz,hft]
        have hfv:∀ (u:World) (H:Heap),zwe H u->Ret zwf tf [.bool true,.bool false] u H (fun v _=>v=.bool false):=fun u H h=>by have:=hf true false u H h;rwa [hft] at this
        refine(Zd∘Z5∘Zj∘ZN∘ZbF∘Z1∘Zbe∘Z7∘Ze∘ZZ∘ZM∘Zj∘ZbQ∘Zay∘Zj∘Zx∘Zcd∘ZQ∘ZaT∘Za0∘Zi∘ZU∘Zcn∘ZbA∘Zch∘ZG∘Zao∘Zi∘Zal∘Zg∘ZdT∘ZaQ∘Za3∘Zbm∘Zg) ?_;refine z7 (jw L (kh:=.i64) (ph:=0) (km:=.i64) (pm:=0) 1 _ false Z Z Z Z Z ⟨rfl,rfl⟩ ⟨rfl,rfl⟩ (fun h=>by cases h) J J M) Z ?_;refine(Zaf∘Zan∘ZaX∘Za∘Zav∘Zs∘Zbg∘Zb∘Zda∘Za∘Zav) ?_;refine z7 (qd L Z Z (zn Z) Z Z hfn (fun u H hH _ _=>hfv u H hH)) Z ((Zbu∘ZaC) ?_);exact yr (x:=(n+1,a::x,[],out)) (n,x,[],out) ⟨by simp only[List.length_cons,List.length_nil] at hn |-;omega,hR,by simp only[List.length_cons,List.length_nil,List.length_append] at hz |-;omega⟩ G ⟨Z,Z,Z,Z,nm⟩
       ·have hR:out++[a]++pz js f n x []=R:=by rw[<-hR];simp [pz,hft]
        have hfv:∀ (u:World) (H:Heap),zwe H u->Ret zwf tf [.bool true,.bool false] u H (fun v _=>v=.bool true):=fun u H h=>by have:=hf true false u H h;rwa [hft] at this
        refine(Zd∘Z5∘Zj∘ZN∘ZbF∘Z1∘Zbe∘Z7∘Ze∘ZZ∘ZM∘Zj∘ZbQ∘Zay∘Zj∘Zx∘Zcd∘ZQ∘ZaT∘Za0∘Zi∘ZU∘Zcn∘ZbA∘Zch∘ZG∘Zao∘Zi∘Zal∘Zg∘ZdT∘ZaQ∘Za3∘Zbm∘Zg) ?_;refine z7 (jw L (kh:=.i64) (ph:=0) (km:=.i64) (pm:=0) 1 _ false Z Z Z Z Z ⟨rfl,rfl⟩ ⟨rfl,rfl⟩ (fun h=>by cases h) J J M) Z ?_;refine(Zaf∘Zan∘ZaX∘Za∘Zav∘Zs∘Zbg∘Zb∘Zda∘Za∘Zav) ?_;refine z7 (qd L Z Z (zn Z) Z Z hfn (fun u H hH _ _=>hfv u H hH)) Z ((Z1∘Zcv) ?_);refine qf (yo (.inl Z) Z) ((Zb1∘ZJ∘Zdb) ?_);refine qf (yo (.inr Z) Z) ((Zah∘ZaC) ?_);exact yr (x:=(n+1,a::x,[],out)) (n,x,[],out++[a]) ⟨by simp only[List.length_cons,List.length_nil] at hn |-;omega,hR,by simp only[List.length_cons,List.length_nil,List.length_append] at hz |-;omega⟩ G ⟨Z,Z,Z,Dv Z,nm⟩
      ·have lb:(b::y).length=y.length+1:=rfl;have hb:=af (l:=b::y) (i:=0) (t:=b) rfl;have tb:=Ki b y;by_cases c1:js a b<0
       ·rcases n with _ | n
        ·simp only[ma,m7] at hn;omega
        cases hft:f true false
        ·have hR:out++pz js f n x (b::y)=R:=by rw[<-hR];simp [pz,c1,hft]
         have hfv:∀ (u:World) (H:Heap),zwe H u->Ret zwf tf [.bool true,.bool false] u H (fun v _=>v=.bool false):=fun u H h=>by have:=hf true false u H h;rwa [hft] at this
         refine(Zd∘Z5∘Zj∘ZN∘ZbF∘Z1∘Zbe∘Z7∘Ze∘ZZ∘ZM∘Zj∘ZbQ∘Zay∘Zj∘Z8∘ZcR∘Zdk∘ZaG∘ZdG∘Zdh∘ZaG∘ZdG∘Zdh) ?_;refine z91 L Z (fun u H hH _=>vo hH) ?_;refine(ZaS∘ZbP∘Zi∘ZU∘Zcn∘ZbA∘Zch∘ZG∘Zao∘Zi∘Zal∘Zg∘ZdT∘ZaQ∘Za3∘Zbm∘Zg) ?_;refine z7 (jw L (kh:=.i64) (ph:=0) (km:=.i64) (pm:=0) 1 _ false Z Z Z Z Z ⟨rfl,rfl⟩ ⟨rfl,rfl⟩ (fun h=>by cases h) J J M) Z ?_;refine(Zaf∘Zan∘ZaX∘Za∘Zav∘Zs∘Zbg∘Zb∘Zda∘Za∘Zav) ?_;refine z7 (qd L Z Z (zn Z) Z Z hfn (fun u H hH _ _=>hfv u H hH)) Z ((Zbu∘ZaC) ?_);exact yr (x:=(n+1,a::x,b::y,out)) (n,x,(b::y),out) ⟨by simp only[List.length_cons,List.length_nil] at hn |-;omega,hR,by simp only[List.length_cons,List.length_nil,List.length_append] at hz |-;omega⟩ G ⟨Z,Z,Z,Z,nm⟩
        ·have hR:out++[a]++pz js f n x (b::y)=R:=by rw[<-hR];simp [pz,c1,hft]
         have hfv:∀ (u:World) (H:Heap),zwe H u->Ret zwf tf [.bool true,.bool false] u H (fun v _=>v=.bool true):=fun u H h=>by have:=hf true false u H h;rwa [hft] at this
         refine(Zd∘Z5∘Zj∘ZN∘ZbF∘Z1∘Zbe∘Z7∘Ze∘ZZ∘ZM∘Zj∘ZbQ∘Zay∘Zj∘Z8∘ZcR∘Zdk∘ZaG∘ZdG∘Zdh∘ZaG∘ZdG∘Zdh) ?_;refine z91 L Z (fun u H hH _=>vo hH) ?_;refine(ZaS∘ZbP∘Zi∘ZU∘Zcn∘ZbA∘Zch∘ZG∘Zao∘Zi∘Zal∘Zg∘ZdT∘ZaQ∘Za3∘Zbm∘Zg) ?_;refine z7 (jw L (kh:=.i64) (ph:=0) (km:=.i64) (pm:=0) 1 _ false Z Z Z Z Z ⟨rfl,rfl⟩ ⟨rfl,rfl⟩ (fun h=>by cases h) J J M) Z ?_;refine(Zaf∘Zan∘ZaX∘Za∘Zav∘Zs∘Zbg∘Zb∘Zda∘Za∘Zav) ?_;refine z7 (qd L Z Z (zn Z) Z Z hfn (fun u H hH _ _=>hfv u H hH)) Z ((Z1∘Zcv) ?_);refine qf (yo (.inl Z) Z) ((Zb1∘ZJ∘Zdb) ?_);refine qf (yo (.inr Z) Z) ((Zah∘ZaC) ?_);exact yr (x:=(n+1,a::x,b::y,out)) (n,x,(b::y),out++[a]) ⟨by simp only[List.length_cons,List.length_nil] at hn |-;omega,hR,by simp only[List.length_cons,List.length_nil,List.length_append] at hz |-;omega⟩ G ⟨Z,Z,Z,Dv Z,nm⟩
       ·by_cases c2:0<js a b
        ·rcases n with _ | n
         ·simp only[ma,m7] at hn;omega
         cases hft:f false true
         ·have hR:out++pz js f n (a::x) y=R:=by rw[<-hR];simp [pz,c1,c2,hft]
          have hfv:∀ (u:World) (H:Heap),zwe H u->Ret zwf tf [.bool false,.bool true] u H (fun v _=>v=.bool false):=fun u H h=>by have:=hf false true u H h;rwa [hft] at this
          refine(Zd∘Z5∘Zj∘ZN∘ZbF∘Z1∘Zbe∘Z7∘Ze∘ZZ∘ZM∘Zj∘ZbQ∘Zay∘Zj∘Z8∘ZcR∘Zdk∘ZaG∘ZdG∘Zdh∘ZaG∘ZdG∘Zdh) ?_;refine z91 L Z (fun u H hH _=>vo hH) ?_;refine(ZaS∘ZbP∘Zi∘ZU∘Zcn∘ZbA∘Zch∘ZN∘Z1∘Zat∘Zg∘ZdT∘ZaQ∘ZaF∘Zan∘ZaX∘Za∘Zci∘Zc5∘Zg) ?_;refine z7 (jw L (kh:=.i64) (ph:=0) (km:=.i64) (pm:=0) 1 _ false Z Z Z Z Z ⟨rfl,rfl⟩ ⟨rfl,rfl⟩ (fun h=>by cases h) J J M) Z ?_;refine(Zaf∘Zk∘Zbg∘Zb∘ZcV∘Za∘ZbJ) ?_;refine z7 (qd L Z Z (zn Z) Z Z hfn (fun u H hH _ _=>hfv u H hH)) Z ((Zbu∘ZaC) ?_);exact yr (x:=(n+1,a::x,b::y,out)) (n,(a::x),y,out) ⟨by simp only[List.length_cons,List.length_nil] at hn |-;omega,hR,by simp only[List.length_cons,List.length_nil,List.length_append] at hz |-;omega⟩ G ⟨Z,Z,Z,Z,nm⟩
         ·have hR:out++[b]++pz js f n (a::x) y=R:=by rw[<-hR];simp [pz,c1,c2,hft]
          have hfv:∀ (u:World) (H:Heap),zwe H u->Ret zwf tf [.bool false,.bool true] u H (fun v _=>v=.bool true):=fun u H h=>by have:=hf false true u H h;rwa [hft] at this
          refine(Zd∘Z5∘Zj∘ZN∘ZbF∘Z1∘Zbe∘Z7∘Ze∘ZZ∘ZM∘Zj∘ZbQ∘Zay∘Zj∘Z8∘ZcR∘Zdk∘ZaG∘ZdG∘Zdh∘ZaG∘ZdG∘Zdh) ?_;refine z91 L Z (fun u H hH _=>vo hH) ?_;refine(ZaS∘ZbP∘Zi∘ZU∘Zcn∘ZbA∘Zch∘ZN∘Z1∘Zat∘Zg∘ZdT∘ZaQ∘ZaF∘Zan∘ZaX∘Za∘Zci∘Zc5∘Zg) ?_;refine z7 (jw L (kh:=.i64) (ph:=0) (km:=.i64) (pm:=0) 1 _ false Z Z Z Z Z ⟨rfl,rfl⟩ ⟨rfl,rfl⟩ (fun h=>by cases h) J J M) Z ?_;refine(Zaf∘Zk∘Zbg∘Zb∘ZcV∘Za∘ZbJ) ?_;refine z7 (qd L Z Z (zn Z) Z Z hfn (fun u H hH _ _=>hfv u H hH)) Z ((Z1∘Zcv) ?_);refine qf (yo (.inl Z) Z) ((Zb1∘ZJ∘Zdb) ?_);refine qf (yo (.inr Z) Z) ((Zah∘ZaC) ?_);exact yr (x:=(n+1,a::x,b::y,out)) (n,(a::x),y,out++[b]) ⟨by simp only[List.length_cons,List.length_nil] at hn |-;omega,hR,by simp only[List.length_cons,List.length_nil,List.length_append] at hz |-;omega⟩ G ⟨Z,Z,Z,Dv Z,nm⟩
        ·rcases n with _ | n
         ·simp only[ma,m7] at hn;omega
         cases hft:f true true
         ·have hR:out++pz js f n x y=R:=by rw[<-hR];simp [pz,c1,c2,hft]
          have hfv:∀ (u:World) (H:Heap),zwe H u->Ret zwf tf [.bool true,.bool true] u H (fun v _=>v=.bool false):=fun u H h=>by have:=hf true true u H h;rwa [hft] at this
          refine(Zd∘Z5∘Zj∘ZN∘ZbF∘Z1∘Zbe∘Z7∘Ze∘ZZ∘ZM∘Zj∘ZbQ∘Zay∘Zj∘Z8∘ZcR∘Zdk∘ZaG∘ZdG∘Zdh∘ZaG∘ZdG∘Zdh) ?_;refine z91 L Z (fun u H hH _=>vo hH) ?_;refine(ZaS∘ZbP∘Zi∘ZU∘Zcn∘ZbA∘Zch∘ZG∘Zao∘Zi∘Zal∘Zg∘ZdT∘ZaQ∘Za3∘Zbm∘Zg) ?_;refine z7 (jw L (kh:=.i64) (ph:=0) (km:=.i64) (pm:=0) 1 _ false Z Z Z Z Z ⟨rfl,rfl⟩ ⟨rfl,rfl⟩ (fun h=>by cases h) J J M) Z ?_;refine(Zaf∘Zan∘ZaX∘Za∘Zci∘Zc5∘Zg) ?_;refine z7 (jw L (kh:=.i64) (ph:=0) (km:=.i64) (pm:=0) 1 _ false Z Z Z Z Z ⟨rfl,rfl⟩ ⟨rfl,rfl⟩ (fun h=>by cases h) J J M) Z ?_;refine(Zaf∘Zk∘Zbg∘Zb∘Zda∘Za∘ZbJ) ?_;refine z7 (qd L Z Z (zn Z) Z Z hfn (fun u H hH _ _=>hfv u H hH)) Z ((Zbu∘ZaC) ?_);exact yr (x:=(n+1,a::x,b::y,out)) (n,x,y,out) ⟨by simp only[List.length_cons,List.length_nil] at hn |-;omega,hR,by simp only[List.length_cons,List.length_nil,List.length_append] at hz |-;omega⟩ G ⟨Z,Z,Z,Z,nm⟩
         ·have hR:out++[a]++pz js f n x y=R:=by rw[<-hR];simp [pz,c1,c2,hft]
          have hfv:∀ (u:World) (H:Heap),zwe H u->Ret zwf tf [.bool true,.bool true] u H (fun v _=>v=.bool true):=fun u H h=>by have:=hf true true u H h;rwa [hft] at this
          refine(Zd∘Z5∘Zj∘ZN∘ZbF∘Z1∘Zbe∘Z7∘Ze∘ZZ∘ZM∘Zj∘ZbQ∘Zay∘Zj∘Z8∘ZcR∘Zdk∘ZaG∘ZdG∘Zdh∘ZaG∘ZdG∘Zdh) ?_;refine z91 L Z (fun u H hH _=>vo hH) ?_;refine(ZaS∘ZbP∘Zi∘ZU∘Zcn∘ZbA∘Zch∘ZG∘Zao∘Zi∘Zal∘Zg∘ZdT∘ZaQ∘Za3∘Zbm∘Zg) ?_;refine z7 (jw L (kh:=.i64) (ph:=0) (km:=.i64) (pm:=0) 1 _ false Z Z Z Z Z ⟨rfl,rfl⟩ ⟨rfl,rfl⟩ (fun h=>by cases h) J J M) Z ?_;refine(Zaf∘Zan∘ZaX∘Za∘Zci∘Zc5∘Zg) ?_;refine z7 (jw L (kh:=.i64) (ph:=0) (km:=.i64) (pm:=0) 1 _ false Z Z Z Z Z ⟨rfl,rfl⟩ ⟨rfl,rfl⟩ (fun h=>by cases h) J J M) Z ?_;refine(Zaf∘Zk∘Zbg∘Zb∘Zda∘Za∘ZbJ) ?_;refine z7 (qd L Z Z (zn Z) Z Z hfn (fun u H hH _ _=>hfv u H hH)) Z ((Z1∘Zcv) ?_);refine qf (yo (.inl Z) Z) ((Zb1∘ZJ∘Zdb) ?_);refine qf (yo (.inr Z) Z) ((Zah∘ZaC) ?_);exact yr (x:=(n+1,a::x,b::y,out)) (n,x,y,out++[a]) ⟨by simp only[List.length_cons,List.length_nil] at hn |-;omega,hR,by simp only[List.length_cons,List.length_nil,List.length_append] at hz |-;omega⟩ G ⟨Z,Z,Z,Dv Z,nm⟩
abbrev fWo:Bool->Bool->Bool:=fun _ b=>!b
attribute [local irreducible] RetO
def zlm(p q:Bool)(w:World)(B:Heap)(hB:zwe B w):Ret zwf 226 [.bool p,.bool q] w B (fun v _=>v=.bool (fWo p q)):=by
 refine yl Tryz.func226 Z Tryz.ntmps226 (np Z) hB ((Zw∘Za∘Zo∘Zc) ?_);exact yk2 L [.tmp 4]
def Ca{l m:List U}{r:List U×Int}(hr:znx fWo l m=r)(hB:zwe B w)(hv:US l fa v B)(hv2:US m fb v2 B):Ret zwf 155 [v,v2] w B (LE r):=by
 refine yl Tryz.func155 Z Tryz.ntmps155 (np Z) hB (ku 0 (US l fa) Z ns hv (ku 1 (US m fb) Z ns hv2 ((Za6∘Zad∘Zg∘Zg) ?_)));refine z7 (xh (φ:=LE r) L Z Z (zn Z) Z Z Z LE.mono (fun u H hH _ _ v1 h1 v2 h2=>zcm Z zlm hr hH h1 h2)) Z (z7 (sg Z Z Z Z ns) Z ((Zc3∘Zaf∘Zc) ?_));refine yk1 L [.tmp 4,.tmp 5] fun u H hH hle=>?_;exact fun v hv=>Vl hv
end Go.V.L2
namespace Go.V.L8
open Go.V.L2 Go.V.L3 Go.V.L6
def sw(a b:List U):List CH:=(aj a b true false true).map fun t=>(t,decide (t∈a))
def zo9(a b:List U):List CH:=E3 ((pz js fWo (a.length+b.length) a b).map (fun t=>(t,true))++(pz js fWo (b.length+a.length) b a).map (fun t=>(t,false)))
def zc2(a b:List CH)(t:U):ln (a++b) t=(ln b t).or (ln a t):=by
 induction a with
 | nil=>rw[mo,zc1];cases ln b t<;>rfl
 | cons c r ih=>
  rw[zsa,lj,lj,ih];cases ln b t<;>cases ln r t<;>rfl
def Pb{l:List CH}(h:P5 l){t:U}{c:CH}:ln l t=some c↔c∈l/\c.1=t:=by
 constructor
 ·exact fun h1=>⟨(dh h1).2,(dh h1).1⟩
 ·rintro⟨hc,rfl⟩
  obtain⟨d,hd⟩:∃ d,ln l c.1=some d:=by
   cases hk:ln l c.1 with
   | some d=>exact⟨d,rfl⟩
   | none=>exact ni rfl (ay.1 hk c hc)
  obtain⟨h1,h2⟩:=dh hd;rw[hd];have hp:=t7 h;obtain⟨i,hi⟩:=zsf hc;obtain⟨j,hj⟩:=zsf h2;obtain⟨hi',rfl⟩:=zs2.1 hi;obtain⟨hj',rfl⟩:=zs2.1 hj;have hp':=zs9.1 hp;rcases zu2 i j with g | g | g
  ·exact ni h1.symm (hp' i j hi' hj' g)
  ·subst g;rfl
  ·exact ni h1 (hp' j i hj' hi' g)
def S7{a b:List U}{t:U}:t∈aj a b true false true↔((t∈a/\t∉b)\/(t∉a/\t∈b)):=by
 unfold aj;rw[td,zsb,mj];unfold fw;by_cases h1:t∈a<;>by_cases h2:t∈b<;>simp [h1,h2]
def Mw(a b:List U):P5 (sw a b):=by
 unfold P5 sw;rw[ztl];have:((fun x:CH=>x.1)∘fun t:U=>(t,decide (t∈a)))=id:=rfl;rw[this,zuc];exact Ns _
def fq{a b:List U}{c:CH}:c∈sw a b↔((c.1∈a/\c.1∉b)\/(c.1∉a/\c.1∈b))/\c.2=decide (c.1∈a):=by
 unfold sw;rw[m6];constructor
 ·rintro⟨t,ht,rfl⟩;exact⟨S7.1 ht,rfl⟩
 ·rintro⟨h1,h2⟩;exact⟨c.1,S7.2 h1,Prod.ext rfl h2.symm⟩
def Sk{a b:List U}(ha:Sst js a)(hb:Sst js b){t:U}:t∈pz js fWo (a.length+b.length) a b↔t∈a/\t∉b:=by
 rw[pw cmpT_ord fWo (nu _) ha hb];unfold Tk;by_cases h1:t∈a<;>by_cases h2:t∈b<;>simp [h1,h2]
def zl6{a b:List U}(ha:Sst js a)(hb:Sst js b):zo9 a b=sw a b:=zcc (Ov _) (Mw a b) fun c=>by
 unfold zo9;rw[Ow,fq,zc2]
 have h1:ln ((pz js fWo (b.length+a.length) b a).map fun t=>(t,false)) c.1=if c.1∈b/\c.1∉a then some (c.1,false) else none:=by
  by_cases h:c.1∈b/\c.1∉a
  ·rw[na h]
   have hn:P5 ((pz js fWo (b.length+a.length) b a).map fun t=>(t,false)):=by
    unfold P5;rw[ztl];have:((fun x:CH=>x.1)∘fun t:U=>(t,false))=id:=rfl;rw[this,zuc];exact ep cmpT_ord fWo (nu _) hb ha
   exact(Pb hn).2 ⟨m6.2 ⟨c.1,(Sk hb ha).2 h,rfl⟩,rfl⟩
  ·rw[nc h,ay];intro d hd e;obtain⟨t,ht,rfl⟩:=m6.1 hd;exact h (e ▸ (Sk hb ha).1 ht)
 have h2:ln ((pz js fWo (a.length+b.length) a b).map fun t=>(t,true)) c.1=if c.1∈a/\c.1∉b then some (c.1,true) else none:=by
  by_cases h:c.1∈a/\c.1∉b
  ·rw[na h]
   have hn:P5 ((pz js fWo (a.length+b.length) a b).map fun t=>(t,true)):=by
    unfold P5;rw[ztl];have:((fun x:CH=>x.1)∘fun t:U=>(t,true))=id:=rfl;rw[this,zuc];exact ep cmpT_ord fWo (nu _) ha hb
   exact(Pb hn).2 ⟨m6.2 ⟨c.1,(Sk ha hb).2 h,rfl⟩,rfl⟩
  ·rw[nc h,ay];intro d hd e;obtain⟨t,ht,rfl⟩:=m6.1 hd;exact h (e ▸ (Sk ha hb).1 ht)
 rw[h1,h2];obtain⟨x,d⟩:=c;dsimp only;by_cases ha':x∈a<;>by_cases hb':x∈b<;>cases d<;>simp [ha',hb']
def rp(a b:List U):(sw a b).length<=a.length+b.length:=by
 unfold sw aj;rw[mg];refine mq (Nt _) (mq (zte _ _) ?_);rw[nr];exact nu _
attribute [local irreducible] RetO RetT jh
def _root_.Zex(t:Wr Y->A:=by intro h;refine z7 (yv (cs:=[_,_,_,_,_,_,_]) Z Z zqt Z Z) Z ?_;exact h.1)(h:Y):A:=t ⟨h⟩
def zh9(a b:List U):(pz js fWo (a.length+b.length) a b).length<=a.length+b.length:=li _ _ _ (nu _)
def zch{a b:List U}(la:a.length<=4096)(lb:b.length<=4096)(sa:Sst js a)(sb:Sst js b):znx fWo a b=(pz js fWo (a.length+b.length) a b,0):=by
 unfold znx;have h1:isB a=true:=nf sa;have h2:isB b=true:=nf sb;rw[nc J,h1,h2,na E]
def Pq{a b:List U}{m:List CH}(la:a.length<=4096)(lb:b.length<=4096)(sa:Sst js a)(sb:Sst js b)(hr:zo9 a b=m){av bv:Value}(hB:zwe B w)(ha:SetV a av B)(hb:SetV b bv B):
  Ret zwf 89 [av,bv] w B (KS tyC m true):=by
 subst hr;obtain⟨f1,p1,k1,q1,rfl,hp1⟩:=ha.shape;obtain⟨f2,p2,k2,q2,rfl,hp2⟩:=hb.shape;have w1:=zch la lb sa sb;have w2:=zch lb la sb sa;have l1:=zh9 a b;have l2:=zh9 b a;have hbp:zo9 a b=E3 ((pz js fWo (a.length+b.length) a b).map (fun t=>(t,true))++(pz js fWo (b.length+a.length) b a).map (fun t=>(t,false))):=rfl;rw[hbp];generalize pz js fWo (a.length+b.length) a b=zwc at *;generalize pz js fWo (b.length+a.length) b a=zwd at *;have mG:Kn.mono (.sat (US zwc true)):=ns;have mK:Kn.mono (.sat (US zwd true)):=ns;refine yl Tryz.func89 Z Tryz.ntmps89 (np Z) hB ((ZaD∘Ze∘Zcl∘ZdP) ?_);refine z9 (xh (φ:=US a true) L Z Z (zn Z) Z Z Z ns (fun u H hH hle _=>ak J hH (ha.le hle))) Z (ZdP (h:=?_));refine z9 (xh (φ:=US b true) L Z Z (zn Z) Z Z Z ns (fun u H hH hle _=>ak J hH (hb.le hle))) Z ((Zcs∘Zcs∘Zbf∘ZL∘Zg∘Zg) ?_);refine z7 (xh (φ:=LE (zwc,0)) L Z Z (zn Z) Z Z Z LE.mono (fun u H hH _ _ v1 h1 v2 h2=>Ca w1 hH h1 h2)) Z ((Zg∘Zdd∘Zc3∘Zaf∘Ze∘Z2∘Zg∘Zg) ?_);refine z7 (xh (φ:=LE (zwd,0)) L Z Z (zn Z) Z Z Z LE.mono (fun u H hH _ _ v1 h1 v2 h2=>Ca w2 hH h1 h2)) Z ((Zg∘Zdd∘Zc3∘Zaf∘Ze∘ZE∘Zh) ?_);refine um 11 tyC 7 rfl ((ZF∘Zj∘Zb3) ?_);refine xu (fun i:Nat=>[(9,.sat (US zwd true)),(11,.own (SlR tyC 7 ((zwc.take i).map fun t=>((t,true):CH)).length (((zwc.take i).map fun t=>((t,true):CH)).flatMap ccs))),(32,.sat (US zwc true)),(33,.is (.int .i64 zwc.length)),(34,.is (.int .i64 i))]) (fun i=>i<=zwc.length) (fun i=>zwc.length-i) 0 (mb _) ⟨Z,Z,Z,Z,Z,nm⟩ ?_;rintro i hi;have hli:((zwc.take i).map fun t=>((t,true):CH)).length<=8192:=by rw[mg,mh];omega
 by_cases hlt:i<zwc.length
 ·obtain⟨t,ht⟩:=xj hlt;have hct:=af ht;have e1:((zwc.take (i+1)).map fun t=>((t,true):CH))=((zwc.take i).map fun t=>((t,true):CH))++[(t,true)]:=by rw[zr4,ht,zr1];rfl
  refine(Zbx∘ZA∘Z7∘ZaO∘ZaQ∘Zbr∘ZB∘Z0) ?_;refine qf (yo (.inl Z) Z) ((Zb1∘Zex∘ZJ∘Zdo) ?_);refine qf (yo (.inr Z) Z) ((Zaz∘ZM∘ZbE) ?_);exact yr (x:=i) (i+1) hlt J ⟨Z,by rw[e1];exact gj Z,Z,Z,Z,nm⟩
 ·obtain rfl:i=zwc.length:=by omega
  rw[m4];have lG:(zwc.map fun t=>((t,true):CH)).length<=8192:=by rw[mg];omega
  refine(Zbx∘Zfd∘ZbH∘ZaH∘Zj∘Zb3) ?_;refine xu (fun j:Nat=>[(11,.own (SlR tyC 7 ((zwc.map fun t=>((t,true):CH))++((zwd.take j).map fun t=>((t,false):CH))).length (((zwc.map fun t=>((t,true):CH))++((zwd.take j).map fun t=>((t,false):CH))).flatMap ccs))),(44,.sat (US zwd true)),(45,.is (.int .i64 zwd.length)),(46,.is (.int .i64 j))]) (fun j=>j<=zwd.length) (fun j=>zwd.length-j) 0 (mb _) ⟨by rw[zr0,zr7,mi];rfl,Z,Z,Z,nm⟩ ?_;rintro j hj;have hlj:((zwc.map fun t=>((t,true):CH))++((zwd.take j).map fun t=>((t,false):CH))).length<=16384:=by rw[nr,mg,mg,mh];omega
  by_cases hjl:j<zwd.length
  ·obtain⟨t,ht⟩:=xj hjl;have hct:=af ht;have e1:((zwc.map fun t=>((t,true):CH))++((zwd.take (j+1)).map fun t=>((t,false):CH)))=((zwc.map fun t=>((t,true):CH))++((zwd.take j).map fun t=>((t,false):CH)))++[(t,false)]:=by rw[zr4,ht,zr1,mp];rfl
   refine(Zi∘Zay∘ZA∘ZQ∘ZaO∘ZaQ∘Zbr∘ZB∘ZU) ?_;refine qf (yo (.inl Z) Z) ((Zb1∘Zex∘ZJ∘Zdo) ?_);refine qf (yo (.inr Z) Z) ((Zaz∘ZaP∘ZbE) ?_);exact yr (x:=j) (j+1) hjl J ⟨by rw[e1];exact gj Z,Z,Z,Z,nm⟩
  ·obtain rfl:j=zwd.length:=by omega
   rw[m4];rw[m4] at hlj;refine uz 11 rfl ((Zi∘Zay∘Zbh∘Zat∘Zg) ?_);refine z7 (xh (φ:=KS tyC (E3 ((zwc.map fun t=>((t,true):CH))++(zwd.map fun t=>((t,false):CH)))) true) L Z Z (zn Z) Z Z Z ns (fun u H hH _ _ v1 h1=>Rw Z J hH h1)) Z (Zb9 (h:=?_));refine yk1 L [.tmp 4] fun u H hH hle=>?_;exact fun v hv=>hv
end Go.V.L8
end
namespace Go.V.L10
open Go.V.L2 Go.V.L8 Go.V.L6
def S3(S:Sto):ij fun(x:Nat×Value×Ent) (H:Heap)=>MapOK x.2.2 S.R/\EsV x.2.2 H/\PsV (xf S.P) x.2.1 H:=fun _ _ _ ⟨h1,h2,h3⟩ hle=>⟨h1,h2.le hle,h3.le hle⟩
abbrev StG(b:Nat)(S:Sto):GR:=GEx (fun x:Nat×Value×Ent=>StO b S.R.length x.1 x.2.1 S.P.length x.2.2) (fun x H=>MapOK x.2.2 S.R/\EsV x.2.2 H/\PsV (xf S.P) x.2.1 H) (S3 S)
def A8(b:Nat)(S:Sto):(StG b S).res=ExR (fun x:Nat×Value×Ent=>(StO b S.R.length x.1 x.2.1 S.P.length x.2.2).res) (fun x H=>MapOK x.2.2 S.R/\EsV x.2.2 H/\PsV (xf S.P) x.2.1 H) (S3 S):=rfl
def pf(hm:MapOK es S.R)(hes:EsV es B)(hps:PsV (xf S.P) s B):∀ (v:Value) H u C,B.Le H->(StO b S.R.length m s S.P.length es).res.P v H u C->(StG b S).res.P v H u C:=fun _ _ _ _ hle h=>⟨(m,s,es),⟨hm,hes.le hle,hps.le hle⟩,h⟩
def EsV.snoc(h:EsV es H){k:Int}{t:List U}(hv:SetV t v H):EsV (es++[(k,(t,v))]) H:=fun e he=>by
 rcases mj.1 he with he | he
 ·exact h e he
 ·rw[my.1 he];exact hv
def tp{P:Program}{r:GR}(h:RetY P f args w B C r (fun x _=>x=v)):RetX P f args w B C r v:=RetL.mono h fun _ _ _ _ hp=>hp
attribute [local irreducible] V N X VO Par StepOK Has Ret RetL RetO RetT jh RetX RetY Src
def A6{S S':Sto}{l cs:List CH}{rev:Int}{fl fc:Bool}(hI:zpc S)(hR:S.R.length<=100000)(hn:S.R.length≠0)(zl:∀ c∈l,TM c.1)(zc:∀ c∈cs,TM c.1)(ll:l.length<=9223372036854775807)(lc:cs.length<=9223372036854775807)(hw:bg S l cs=(S',rev,e))(hB:zwe B w)
  (hl:KS tyM l fl lv B) (hc:KS tyC cs fc cv B) (hr:(StG b S).P B w C) (hC:ZCB C w B):
  RetY zwf 50 [.pointer (some ⟨b,0,none⟩),lv,cv] w B C (StG b S') (fun v _=>v=.tuple #[.int .u64 rev,.int .i64 e]):=by
 unfold RetY;refine yz 900 (StG b S) Tryz.func50 Z Tryz.ntmps50 (np Z) hB hr hC (ku 1 (KS tyM l fl) Z ns hl (ku 2 (KS tyC cs fc) Z ns hc ?_));rw[A8];refine vh 900 rfl fun x H hs0 hφ=>?_;obtain⟨m,s,es⟩:=x;obtain⟨hm,hes,hps⟩:=hφ;dsimp only at hm hes hps |-;obtain⟨ps,pc,rfl⟩:=ke hps;obtain⟨t0,ht0⟩:∃ t0,kpt S.R S.R.length=some t0:=zso.1 hI.last;have hA:atS S 0=(t0,0):=by unfold atS;rw[if_pos rfl,ht0]
 have ht4:=hI.tl _ _ ht0;obtain⟨⟨t1,made,e1⟩,hwr⟩:∃ x,ci t0 l cs=x:=⟨_,rfl⟩
 unfold bg at hw;rw[hA,hwr] at hw;dsimp only at hw;refine(Za6∘Zbb) ?_;refine ye (vp L 900 (WithP t0 0) (r:=StO b S.R.length m _ S.P.length es) rfl rfl rfl rfl rfl WithP.mono (fun u H2 C2 hH hle hr2 hC2=>by have h:=D7 (S:=S) (r:=0) hm hn (hes.le hle) hH hr2 hC2;rw[hA] at h;exact h)) ?_;refine ui 14 rfl fun v1 H1 hs1 hp1=>?_;obtain⟨sv,rfl,hsv⟩:=hp1;obtain⟨f1,p1,f2,p2,rfl,hpl⟩:=hsv.shape;refine(ZW∘ZX∘ZcN∘Zh∘Zn∘Zau∘ZE∘Zcx∘Zg∘Zg) ?_;refine z7 (xh L rfl rfl (zn rfl) rfl rfl rfl WriteP.mono (fun u H2 hH hle _ v1 h1 v2 h2=>write_ret zl zc ll lc ht4 hwr hH (hsv.le hle) h1 h2)) rfl ?_;refine ui 24 rfl fun v3 H3 hs3 hp3=>?_;obtain⟨tv,mv,rfl,htv,hmv⟩:=hp3;obtain⟨f3,p3,f4,p4,rfl,hpl4⟩:=htv.shape;refine(ZcB∘ZX∘ZcN∘Zbl) ?_;have hs13:=hs1.trans hs3;have hes3:=hes.le hs13.le;have hps3:=hps.le hs13.le;by_cases he:e1=0
 ·subst he;rw[na rfl] at hw;have hlen:=hm.len;have hkl:=hI.kl;rw[bu];refine ZdS (h:=?_);by_cases hk:1024<=(kx S.R).length
  ·rw[na hk] at hw;cases hw;refine(ZC∘Zca∘Z6∘ZR) ?_;refine ye (Rf (q:=901) (vc:=vcE) mpS Z Z Z Z Z) ((Zx∘Zr∘Z0∘Z4) ?_);refine ZdF (h:=?_);exact wn 900 (StG b S).res Z (pf hm hes3 hps3) (w6 L 900 (r:=StG b S) (rs:=[.tmp 6,.tmp 7]) Z (fun _ _ h=>h) (hs0.trans hs13) Z Z (fun H hle=>rfl))
  ·rw[nc hk] at hw;cases hw;have hadd:=hm.add t1 (.agg #[f3,.pointer p3,f4,.pointer p4]);have hwn:IntKind.u64.wrap ((S.R.length:Int)+1)=((S.R.length+1:Nat):Int):=wrap_u64 J J;have hln:(S.R++[some t1]).length=S.R.length+1:=by rw[nr];rfl
   refine(ZC∘Zca∘Z6∘ZR) ?_;refine ye (Rf (q:=901) (vc:=vcE) mpS Z Z Z Z Z) ((Z8∘ZK∘Zai∘ZR∘ZH∘Zb6∘ZbL∘ZR∘ZH∘Zam) ?_);refine xm (yq L (q:=900) (cs':=stc (S.R.length+1) m (.slice ps (xf S.P).length pc) S.P.length) Z Z Z Z Z) (Zk (h:=?_));refine qp (id:=12) [(200053,[900]),(200057,[900]),(100053,[901])] kr T ((ZaL∘ZaL∘ZcY) ?_);refine xw (G6 (q:=901) (vc:=vcE) ((S.R.length+1:Nat):Int) (t1,.agg #[f3,.pointer p3,f4,.pointer p4]) mpS kyS Z Z Z Z Z Z hadd.2) Z (Zbf (h:=?_));refine(ZU∘Za∘ZR∘Z4) ?_;refine ZdF (h:=?_);refine wn 900 (StG b ⟨S.R++[some t1],S.P⟩).res Z (fun v H u C hle h=>pf (S:=⟨S.R++[some t1],S.P⟩) (by have h2:=hadd.1;rw[hadd.2] at h2;exact h2) (hes3.snoc htv) hps3 v H u C hle (by dsimp only;rw[hln];exact h)) ?_;exact w6 L 900 (r:=StG b ⟨S.R++[some t1],S.P⟩) (rs:=[.tmp 6,.tmp 7]) Z (fun _ _ h=>h) (hs0.trans hs13) Z Z (fun H hle=>rfl)
 ·rw[nc he] at hw;cases hw;refine(ZC∘Zac∘ZD∘Z4) ?_;exact wn 900 (StG b S).res Z (pf hm hes3 hps3) (w6 L 900 (r:=StG b S) (rs:=[.tmp 6,.tmp 7]) Z (fun _ _ h=>h) (hs0.trans hs13) Z Z (fun H hle=>rfl))
def Eb{f:Nat}{P':List Int}(hn:S.R.length≠0)(hk:(kpt S.R r).isSome=true)(hfn:L.fn f=some ())(hf:∀ {s:Value} {u:World} {H:Heap},zwe H u->PsV (xf S.P) s H->Ret zwf f [pnv s S.P.length,.int .u64 r] u H (PinP P' e))(hB:zwe B w)
  (hr:(StG b S).P B w C) (hC:ZCB C w B):
  RetY zwf 112 [.pointer (some ⟨b,0,none⟩),.int .u64 r,.func (.func f) #[] #[]] w B C (StG b (if e=0 then ⟨S.R,P'⟩ else S)) (fun v _=>v=.int .i64 e):=by
 unfold RetY;refine yz 900 (StG b S) Tryz.func112 Z Tryz.ntmps112 (np Z) hB hr hC ?_;rw[A8];refine vh 900 rfl fun x H hs0 hφ=>?_;obtain⟨m,s,es⟩:=x;obtain⟨hm,hes,hps⟩:=hφ;dsimp only at hm hes hps |-;obtain⟨ps,pc,rfl⟩:=ke hps;rw[bu];refine ZdS (h:=?_);have hg:=hm.get r
 obtain⟨⟨t0,sv⟩,hgk⟩:∃ x,g7 r es=some x:=by
  rw[<-hg,zu7] at hk;exact zso.1 hk
 have hsv:SetV t0 sv H:=hes _ (bm hgk);obtain⟨f1,p1,f2,p2,rfl,hpl⟩:=hsv.shape;have q1:(g7 r es).elim nilSet vcE=.agg #[f1,.pointer p1,f2,.pointer p2]:=by rw[hgk];rfl
 have q2:(g7 r es).isSome=true:=by rw[hgk];rfl
 refine ZbD (h:=?_);refine ye (xz L 900 (Φ:=fun H=>H b=some (.cells (stc S.R.length m _ S.P.length).toArray tyS)) (c:=.bool false) rfl rfl (zn rfl) rfl rfl rfl rfl rfl Ce (fun u H hH hle hb=>none_ret hn hb hH)) ((ZK∘Zz∘ZR∘Za) ?_);refine ye (f6 (q:=901) (vc:=vcE) r mpS kyS zrS rfl rfl rfl rfl rfl q1 q2) ((ZW∘ZX∘ZcN∘Ze∘Zt∘Zo∘Zs∘Z5∘Zcm) ?_);refine ye (jd L (q:=900) (vs:=[_,_]) rfl rfl rfl rfl ⟨_,rfl⟩) (Za (h:=?_));refine z7 (xh (φ:=PinP P' e) L rfl rfl (zn rfl) rfl (cap:=[]) rfl hfn PinP.mono (fun u H2 hH hle _=>hf hH (hps.le hle))) rfl ?_;refine ui 31 rfl fun v1 H1 hs1 hp1=>?_;obtain⟨s2,rfl,hs2⟩:=hp1;obtain⟨p5,c5,rfl⟩:=ke hs2;refine(Zcj∘Zh) ?_;by_cases he:e=0
 ·subst he;rw[na rfl];refine(Z6∘Zx∘Z1∘Za5∘ZcJ∘Zam) ?_;refine xm (yq L (q:=900) (cs':=stc S.R.length m (.slice p5 (xf P').length c5) P'.length) Z Z Z Z Z) ((Zk∘Zai∘Zc) ?_);refine ZdF (h:=?_);exact wn 900 (StG b ⟨S.R,P'⟩).res Z (pf (S:=⟨S.R,P'⟩) hm (hes.le hs1.le) hs2) (w6 L 900 (r:=StG b ⟨S.R,P'⟩) (rs:=[.tmp 6]) Z (fun _ _ h=>h) (hs0.trans hs1) Z Z (fun H hle=>rfl))
 ·rw[nc he];refine(Z6∘Zb6∘Zai∘Zc) ?_;refine ZdF (h:=?_);exact wn 900 (StG b S).res Z (pf hm (hes.le hs1.le) (hps.le hs1.le)) (w6 L 900 (r:=StG b S) (rs:=[.tmp 6]) Z (fun _ _ h=>h) (hs0.trans hs1) Z Z (fun H hle=>rfl))
def Cc{fv:Value}(hn:S.R.length≠0)(hk:¬ (kpt S.R r).isSome=true)(hB:zwe B w)
  (hr:(StG b S).P B w C) (hC:ZCB C w B):
  RetY zwf 112 [.pointer (some ⟨b,0,none⟩),.int .u64 r,fv] w B C (StG b S) (fun v _=>v=.int .i64 14):=by
 refine RetY.ex hr fun x hφ hr=>?_;obtain⟨m,s,es⟩:=x;obtain⟨hm,hes,hps⟩:=hφ;dsimp only at hm hes hps hr |-;unfold RetY;refine yz 900 (StO b S.R.length m s S.P.length es) Tryz.func112 Z Tryz.ntmps112 (np Z) hB hr hC ?_;rw[bu];refine ZdS (h:=?_);have hg:=hm.get r
 have hgk:g7 r es=none:=by
  rw[<-hg,zu7] at hk
  cases h:g7 r es with
  | none=>rfl
  | some y=>rw[h] at hk;exact ni rfl hk
 have q1:(g7 r es).elim nilSet vcE=nilSet:=by rw[hgk];rfl
 have q2:(g7 r es).isSome=false:=by rw[hgk];rfl
 refine ZbD (h:=?_);refine ye (xz L 900 (Φ:=fun H=>H b=some (.cells (stc S.R.length m _ S.P.length).toArray tyS)) (c:=.bool false) Z Z (zn Z) Z Z Z Z Z Ce (fun u H hH hle hb=>none_ret hn hb hH)) ((ZK∘Zz∘ZR∘Za) ?_);refine ye (f6 (q:=901) (vc:=vcE) r mpS kyS zrS Z Z Z Z Z q1 q2) ((Zcj∘Ze∘Zt∘Zo∘Zr∘ZF∘Zc) ?_);refine ZdF (h:=?_);exact w6 L 900 (r:=StO b S.R.length m s S.P.length es) (rs:=[.tmp 6]) Z (fun _ _ h=>h) nq Z Z (fun H hle=>rfl)
def zap{S S':Sto}(hn:S.R.length≠0)(hz2:(xf S.P).length<=1000)(hz:S.P.length<=4095)(hpn:V3 S r false=(S',e))(hB:zwe B w)(hr:(StG b S).P B w C)(hC:ZCB C w B):
  RetY zwf 44 [.pointer (some ⟨b,0,none⟩),.int .u64 r] w B C (StG b S') (fun v _=>v=.int .i64 e):=by
 unfold V3 at hpn;unfold RetY;refine yz 900 (StG b S) Tryz.func44 Z Tryz.ntmps44 (np Z) hB hr hC ?_;by_cases hk:(kpt S.R r).isSome=true
 ·rw[na hk] at hpn;rw[nc E] at hpn;cases hpn;have hr0:r≠0:=by have:=f7 hk;omega
  refine(Zw∘Zb) ?_;refine qf (yj L 900 (StG b ⟨S.R,S.P++[r]⟩) (.int .i64 0) (r:=StG b S) Z Z Z Z Z (fun u H2 C2 hH hle hr2 hC2=>by have h:=Eb (P':=S.P++[r]) (e:=0) hn hk Z (fun hH hv=>zkk hr0 hz2 hz hH hv) hH hr2 hC2;rw[na Z] at h;exact tp h)) ?_;refine Zc (h:=?_);exact w6 L 900 (r:=StG b ⟨S.R,S.P++[r]⟩) (rs:=[.tmp 4]) Z (fun _ _ h=>h) nq Z Z (fun H hle=>rfl)
 ·rw[nc hk] at hpn;cases hpn;refine(Zw∘Zb) ?_;refine ye (oh L 900 (.int .i64 14) (r:=StG b S) Z Z Z Z Z (fun u H2 C2 hH hle hr2 hC2=>Cc hn hk hH hr2 hC2)) (Zc (h:=?_));exact w6 L 900 (r:=StG b S) (rs:=[.tmp 4]) Z (fun _ _ h=>h) nq Z Z (fun H hle=>rfl)
def zfo(hn:S.R.length≠0)(hz:S.P.length<=1000)(hpn:V3 S r false=(S',e))(hB:zwe B w)(hr:(StG b S).P B w C)(hC:ZCB C w B):
  RetY zwf 44 [.pointer (some ⟨b,0,none⟩),.int .u64 r] w B C (StG b S') (fun v _=>v=.int .i64 e):=
 zap hn (by rw[wy];exact mq (ul _) hz) J hpn hB hr hC
def Vm{S S':Sto}(hn:S.R.length≠0)(hz:S.P.length<=1000)(hpn:V3 S r true=(S',e))(hB:zwe B w)(hr:(StG b S).P B w C)(hC:ZCB C w B):
  RetY zwf 187 [.pointer (some ⟨b,0,none⟩),.int .u64 r] w B C (StG b S') (fun v _=>v=.int .i64 e):=by
 unfold V3 at hpn;unfold RetY;refine yz 900 (StG b S) Tryz.func187 Z Tryz.ntmps187 (np Z) hB hr hC ?_;by_cases hk:(kpt S.R r).isSome=true
 ·rw[na hk] at hpn;rw[na rfl] at hpn;obtain⟨⟨P',e'⟩,hu⟩:∃ x,i6 S.P r=x:=⟨_,rfl⟩
  rw[hu] at hpn;dsimp only at hpn
  have hS:S'=(if ((e':Nat):Int)=0 then ⟨S.R,P'⟩ else S)/\e=((e':Nat):Int):=by
   by_cases h0:e'=0
   ·subst h0;rw[na rfl] at hpn;rw[na (show((0:Nat):Int)=0 from rfl)];cases hpn;exact⟨rfl,rfl⟩
   ·rw[nc h0] at hpn;rw[nc J];cases hpn;exact⟨rfl,rfl⟩
  obtain⟨rfl,rfl⟩:=hS;refine(Zw∘Zb) ?_;refine qf (yj L 900 (StG b (if ((e':Nat):Int)=0 then ⟨S.R,P'⟩ else S)) (.int .i64 e') (r:=StG b S) Z Z Z Z Z (fun u H2 C2 hH hle hr2 hC2=>tp (Eb (P':=P') (e:=e') hn hk Z (fun hH hv=>Yz hu hz hH hv) hH hr2 hC2))) (Zc (h:=?_));exact w6 L 900 (r:=StG b (if ((e':Nat):Int)=0 then ⟨S.R,P'⟩ else S)) (rs:=[.tmp 4]) Z (fun _ _ h=>h) nq Z Z (fun H hle=>rfl)
 ·rw[nc hk] at hpn;cases hpn;refine(Zw∘Zb) ?_;refine ye (oh L 900 (.int .i64 14) (r:=StG b S) Z Z Z Z Z (fun u H2 C2 hH hle hr2 hC2=>Cc hn hk hH hr2 hC2)) (Zc (h:=?_));exact w6 L 900 (r:=StG b S) (rs:=[.tmp 4]) Z (fun _ _ h=>h) nq Z Z (fun H hle=>rfl)
def X9(h:l[i]?=some x):(l.take (i+1)).count r=(l.take i).count r+if x=r then 1 else 0:=by
 rw[ju h,zsq,List.count_singleton];congr 1;by_cases e:x=r<;>simp [e]
def zoj:(l.take i).count r<=l.length:=mq ztm (by rw[mh];omega)
def nxF(last n x:Int):Int:=if last<x/\(n=0\/x<n) then x else n
def nxS(last:Int)(l:List Int):Int:=l.foldl (nxF last) 0
def zgb(h:l[i]?=some x):nxS last (l.take (i+1))=nxF last (nxS last (l.take i)) x:=by
 unfold nxS;rw[ju h,List.foldl_append];rfl
def zga(h0:0<=last)(l:List Int):(nxS last l=0/\∀ x∈l,¬ last<x)\/(nxS last l∈l/\last<nxS last l/\∀ x∈l,last<x->nxS last l<=x):=by
 have key:∀ (m:List Int) (n:Int) (seen:List Int),((n=0/\∀ x∈seen,¬ last<x)\/(n∈seen/\last<n/\∀ x∈seen,last<x->n<=x))->((m.foldl (nxF last) n=0/\∀ x∈seen++m,¬ last<x)\/(m.foldl (nxF last) n∈seen++m/\last<m.foldl (nxF last) n/\∀ x∈seen++m,last<x->m.foldl (nxF last) n<=x)):=by
  intro m
  induction m with
  | nil=>intro n seen h;simpa using h
  | cons y m ih=>
   intro n seen h
   have h1:=ih (nxF last n y) (seen++[y]) (by
    unfold nxF;by_cases hc:last<y/\(n=0\/y<n)
    ·rw[na hc];refine .inr ⟨by simp,hc.1,fun x hx hl=>?_⟩;rcases mj.1 hx with hx | hx
     ·rcases h with ⟨_,h3⟩ | ⟨_,h3,h4⟩
      ·exact ni hl (h3 x hx)
      ·have:=h4 x hx hl;rcases hc.2 with h5 | h5<;>omega
     ·rw[my.1 hx];exact zsw _
    ·rw[nc hc];rcases h with ⟨h2,h3⟩ | ⟨h2,h3,h4⟩
     ·refine .inl ⟨h2,fun x hx=>?_⟩;rcases mj.1 hx with hx | hx
      ·exact h3 x hx
      ·rw[my.1 hx];exact fun hl=>hc ⟨hl,.inl h2⟩
     ·refine .inr ⟨zsg _ h2,h3,fun x hx hl=>?_⟩;rcases mj.1 hx with hx | hx
      ·exact h4 x hx hl
      ·rw[my.1 hx] at hl |-;rcases Int.lt_or_le y n with h5 | h5
       ·exact ni ⟨hl,.inr h5⟩ hc
       ·exact h5)
   simpa using h1
 simpa [nxS] using key l 0 [] (.inl ⟨rfl,fun x hx=>by cases hx⟩)
def ff(h:List Int)(k:Nat):Int:=if k=0 then 0 else (h[k-1]?).getD 0
def d9{h:List Int}(hx:h[k]?=some x):ff h (k+1)=x:=by
 unfold ff;rw[nc J,zvr,hx];rfl
def Rq{j:Nat}{y:Int}(hi:(kf L0)[i]?=some x)(hj:(kf L0)[j]?=some y)(hij:i<j):x<y:=by
 have h1:=zs9.1 (jj L0) i j (get_lt hi) (get_lt hj) hij;rw[ue hi,ue hj] at h1;exact Ms.1 h1
def zc0{L0:List Int}(hp:∀ x∈L0,0<x)(hx:(kf L0)[k]?=some x):ff (kf L0) k<x:=by
 unfold ff;by_cases h:k=0
 ·rw[na h];exact hp x (k7.1 (mz hx))
 ·rw[nc h];have hk:k-1<(kf L0).length:=by have:=get_lt hx;omega
  rw[zrz hk];exact Rq (zrz hk) hx J
def zgs{L0:List Int}(hp:∀ x∈L0,0<x)(hk:k<=(kf L0).length):0<=ff (kf L0) k:=by
 unfold ff;by_cases h:k=0
 ·rw[na h];exact zsw _
 ·rw[nc h];have hk2:k-1<(kf L0).length:=J;rw[zrz hk2];exact Int.le_of_lt (hp _ (k7.1 (zvv hk2)))
def zgc{L0:List Int}(hp:∀ x∈L0,0<x)(hk:k<=(kf L0).length):(nxS (ff (kf L0) k) L0=0/\k=(kf L0).length)\/(nxS (ff (kf L0) k) L0≠0/\(kf L0)[k]?=some (nxS (ff (kf L0) k) L0)):=by
 rcases zga (zgs hp hk) L0 with ⟨h1,h2⟩ | ⟨h1,h2,h3⟩
 ·refine .inl ⟨h1,?_⟩;by_cases hlt:k<(kf L0).length
  ·obtain⟨x,hx⟩:=xj hlt;exact ni (zc0 hp hx) (h2 x (k7.1 (mz hx)))
  ·omega
 ·generalize hn:nxS (ff (kf L0) k) L0=n at *;refine .inr ⟨fun e=>by have:=hp _ h1;omega,?_⟩;obtain⟨j,hj⟩:=zsf (k7.2 h1)
  have hjk:k<=j:=by
   rcases m5 j k with hlt | hge
   ·have:n<=ff (kf L0) k:=by
     unfold ff;have hk2:k-1<(kf L0).length:=J;rw[nc J,zrz hk2];by_cases e:j=k-1
     ·subst e;rw[ue hj];exact zsw _
     ·exact Int.le_of_lt (Rq hj (zrz hk2) J)
    omega
   ·exact hge
  obtain⟨x,hx⟩:=xj (show k<(kf L0).length by have:=get_lt hj;omega);have h4:=h3 x (k7.1 (mz hx)) (zc0 hp hx);by_cases e:j=k
  ·subst e;exact hj
  ·have:=Rq hx hj J;omega
def se{tv:Value}(h:φ tv H):TupS [φ,fun v _=>v=a] (.tuple #[tv,a]) H:=by
 refine⟨[tv,a],rfl,rfl,fun i φ' x hi hx=>?_⟩;rcases i with _ | _ | i
 ·cases hi;cases hx;exact h
 ·cases hi;cases hx;rfl
 ·cases hi
def Bg(h:Kn.mono (.sat φ)):Kn.mono (.sat (TupS [φ,fun v _=>v=a])):=TupS.mono fun ψ hψ=>by
 simp only[nz,zs8,or_false] at hψ;rcases hψ with rfl | rfl
 ·exact h
 ·exact fun _ _ _ h _=>h
def am{c:Nat}(hc:l.count r=c)(hz:l.length<=100000){v:Value}(hB:zwe B w)(hv:RsV l fu v B):
  Ret zwf 294 [v,.int .u64 r] w B (fun v _=>v=.int .i64 (c:Nat)):=by
 subst hc;refine yl Tryz.func294 Z Tryz.ntmps294 (np Z) hB (ku 0 (RsV l fu) Z ns hv ((Zw∘Zh∘ZL∘Zae) ?_));refine xu (fun s:Nat×Nat=>[(0,.sat (RsV l fu)),(1,.is (.int .u64 r)),(5,.is (.int .i64 s.2)),(6,.is (.int .i64 s.1))]) (fun s=>s.1<=l.length/\s.2=(l.take s.1).count r) (fun s=>l.length-s.1) (0,0) ⟨mb _,rfl⟩ ⟨Z,Z,Z,Z,nm⟩ ?_;rintro⟨i,c⟩ ⟨hi,hc⟩;dsimp only at hi hc |-;have hcl:(l.take i).count r<=l.length:=zoj;by_cases hlt:i<l.length
 ·obtain⟨x,hx⟩:=xj hlt;have hq:=oc hx;have hs:=X9 (r:=r) hx;have hwi:IntKind.i64.wrap ((i:Int)+1)=((i+1:Nat):Int):=xb J J;have hwc:IntKind.i64.wrap ((c:Int)+1)=((c+1:Nat):Int):=xb J J;by_cases hxr:x=r
  ·rw[na hxr] at hs;refine(Zcp∘Zc1∘ZF∘ZY∘Zap∘Za∘Zx∘Z1∘ZD∘Za4∘Za0∘Zt∘Za4) ?_;exact yr (x:=(i,c)) (i+1,c+1) ⟨hlt,by dsimp only;omega⟩ G ⟨Z,Z,Z,Z,trivial⟩
  ·rw[nc hxr] at hs;refine(Zcp∘Zc1∘ZF∘ZY∘Zap∘Za∘Z8∘Za1∘Zt∘Za4) ?_;exact yr (x:=(i,c)) (i+1,c) ⟨hlt,by dsimp only;omega⟩ G ⟨Z,Z,Z,Z,trivial⟩
 ·obtain rfl:i=l.length:=by omega
  rw[m4] at hc;subst hc;refine(Zcp∘Zj∘Zb5∘Z6∘Zc) ?_;exact yk2 L [.tmp 4]
set_option maxRecDepth 10000 in
def za1{l:List Int}(hpos:∀ x∈l,0<x)(hz:l.length<=100000)(hB:zwe B w)(hv:RsV l fu v B):
  Ret zwf 295 [v] w B (RsV (kf l) false):=by
 have hhl:(kf l).length<=100000:=mq (ul l) hz;refine yl Tryz.func295 Z Tryz.ntmps295 (np Z) hB (ku 0 (RsV l fu) Z ns hv ((Zw∘Ze∘ZL∘Zae) ?_));refine um 3 A0 1 rfl (xu (fun k:Nat=>[(0,.sat (RsV l fu)),(3,.own (SlR A0 1 ((kf l).take k).length (((kf l).take k).map (Value.int .u64)))),(4,.is (.int .u64 (ff (kf l) k)))]) (fun k=>k<=(kf l).length) (fun k=>(kf l).length-k) 0 (mb _) ⟨Z,Z,Z,nm⟩ ?_);rintro k hk;have hspec:=zgc hpos hk;obtain⟨last,hlast⟩:∃ x,x=ff (kf l) k:=⟨_,rfl⟩
 have hln:((kf l).take k).length=k:=by rw[mh];omega
 rw[<-hlast] at hspec |-;refine(ZZ∘Z2∘Zh∘ZE∘Zae) ?_;refine xu (fun i:Nat=>[(0,.sat (RsV l fu)),(3,.own (SlR A0 1 ((kf l).take k).length (((kf l).take k).map (Value.int .u64)))),(4,.is (.int .u64 last)),(5,.is (.int .u64 (nxS last (l.take i)))),(6,.is (.int .i64 i))]) (fun i=>i<=l.length) (fun i=>l.length-i) 0 (mb _) ⟨Z,Z,Z,Z,Z,nm⟩ ?_;rintro i hi;by_cases hlt:i<l.length
 ·obtain⟨x,hx⟩:=xj hlt;have hq:=oc hx;have hs:=zgb (last:=last) hx;have hwi:IntKind.i64.wrap ((i:Int)+1)=((i+1:Nat):Int):=xb J J;generalize nxS last (l.take i)=nx at hs |-;unfold nxF at hs;by_cases h1:last<x
  ·by_cases h2:nx=0
   ·rw[na ⟨h1,.inl h2⟩] at hs;refine(Zd∘ZC∘Zc1∘Z7∘ZY∘Zap∘Za∘ZN∘Zb∘Zx∘Za9∘Zaw∘Zf∘Zb4∘Z0∘ZY∘Zap∘ZaT∘Za0∘ZD∘Za4) ?_;exact yr (x:=i) (i+1) hlt J ⟨Z,Z,Z,by rw[hs];rfl,Z,nm⟩
   ·by_cases h3:x<nx
    ·rw[na ⟨h1,.inr h3⟩] at hs;refine(Zd∘ZC∘Zc1∘Z7∘ZY∘Zap∘Za∘ZN∘Zb∘Z8∘Za∘ZY∘Zap∘Za∘ZS∘Zf∘Zb4∘Z0∘ZY∘Zap∘ZaT∘Za0∘ZD∘Za4) ?_;exact yr (x:=i) (i+1) hlt J ⟨Z,Z,Z,by rw[hs];rfl,Z,nm⟩
    ·rw[nc (fun h=>h.2.elim h2 h3)] at hs;refine(Zd∘ZC∘Zc1∘Z7∘ZY∘Zap∘Za∘ZN∘Zb∘Z8∘Za∘ZY∘Zap∘Za∘Zab∘Zf∘Zf∘Za1∘ZD∘Za4) ?_;exact yr (x:=i) (i+1) hlt J ⟨Z,Z,Z,by rw[hs];rfl,Z,nm⟩
  ·rw[nc (fun h=>h1 h.1)] at hs;refine(Zd∘ZC∘Zc1∘Z7∘ZY∘Zap∘Za∘ZG∘Za9∘Zaw∘Zaw∘Zaw∘Zf∘Za1∘ZD∘Za4) ?_;exact yr (x:=i) (i+1) hlt J ⟨Z,Z,Z,by rw[hs];rfl,Z,nm⟩
 ·obtain rfl:i=l.length:=by omega
  rw[m4];generalize nxS last l=nx at hspec |-;rcases hspec with ⟨h1,h2⟩ | ⟨h1,h2⟩
  ·subst h2;rw[m4];refine Zew (h:=?_);refine(Zd∘ZC∘Zj∘Zbc∘ZbH∘Zai∘Zx∘Zr∘ZaH∘Zg∘Zb9) ?_;refine yk1 L [.tmp 2] fun u H hH hle=>?_;exact fun v hv=>hv
  ·have hlt2:=get_lt h2;refine(Zd∘ZC∘Zj∘Zbc∘ZbH∘Zai∘Zb6∘Zay) ?_;refine qf (yo (.inl Z) Z) ((Za∘ZJ∘ZeN) ?_);refine qf (yo (.inr Z) Z) ((ZB∘ZQ∘Za∘Zce) ?_);exact yr (x:=k) (k+1) hlt2 J ⟨Z,by rw[ju h2];exact Kz,by rw[d9 h2];rfl,nm⟩
def Tc(h:SlV A0 1 (l.map (Value.int .u64)++[Value.int .u64 x]) (l.length+1) fu v H):RsV (l++[x]) fu v H:=by
 unfold RsV;rw[List.map_append,List.length_append];exact h
abbrev RP2(l:List Int)(e:Int):Value->Heap->Prop:=TupS [RsV l false,fun v _=>v=.int .i64 e]
def Te:Kn.mono (.sat (RP2 l e)):=Bg ns
def zfu{l:List Int}(hr:r≠0)(hpos:∀ x∈l,0<x)(hz:l.length<=1000)(hB:zwe B w)(hv:RsV l fu v B):
  Ret zwf 246 [v,.int .u64 r] w B (RP2 (l++[r]) 0):=by
 obtain⟨c,hc⟩:∃ c,l.count r=c:=⟨_,rfl⟩
 have hcz:c<=1000:=by rw[<-hc];exact mq ztm hz
 have hhl:(kf l).length<=1000:=mq (ul l) hz;have hlen:(l.map (Value.int .u64)).length=l.length*1:=by simp
 have hpl:=K0 l;refine yl Tryz.func246 Z Tryz.ntmps246 (np Z) hB (ku 0 (RsV l fu) Z ns hv ?_);by_cases h0:c=0
 ·refine(Za6∘Zax∘Zb6∘Z2∘Zg∘Za) ?_;refine z7 (qd L Z Z (zn Z) Z Z Z (fun u H hH hle _ v1 h1=>am hc J hH h1)) Z ((Zh∘Zt∘Zav∘Zb∘Zx∘Za∘Zg) ?_);refine z7 (xh (φ:=RsV (kf l) false) L Z Z (zn Z) Z Z Z ns (fun u H hH hle _ v1 h1=>za1 hpos J hH h1)) Z ((ZbT∘Zav∘Zf∘Zba∘Z5∘Zg) ?_);refine z7 (gt L Z Z Z (oy Z) Z zes hlen hpl J J) Z ((Za∘ZJ∘ZeN) ?_);refine qf (yo (.inr Z) Z) (Zc (h:=?_));refine uz 4 rfl ?_;refine yk1 L [.tmp 4,.tmp 5] fun u H hH hle=>?_;exact fun v hv=>se (Tc hv)
 ·refine(Za6∘Zax∘Zb6∘Z2∘Zg∘Za) ?_;refine z7 (qd L Z Z (zn Z) Z Z Z (fun u H hH hle _ v1 h1=>am hc J hH h1)) Z ((Zh∘Zt∘Zav∘Zb∘Z8∘Za9∘Zf∘Zba∘Z5∘Zg) ?_);refine z7 (gt L Z Z Z (oy Z) Z zes hlen hpl J J) Z ((Za∘ZJ∘ZeN) ?_);refine qf (yo (.inr Z) Z) (Zc (h:=?_));refine uz 4 rfl ?_;refine yk1 L [.tmp 4,.tmp 5] fun u H hH hle=>?_;exact fun v hv=>se (Tc hv)
def zg4{l:List Int}{i:Nat}(h:∀ x∈l.take i,x≠r)(hx:l[i]?=some r):l.erase r=l.take i++l.drop (i+1):=by
 have hi:=get_lt hx
 have e:l=l.take i++r::l.drop (i+1):=by
  rw[show r::l.drop (i+1)=l.drop i by rw[zsc hi,ue hx],zry]
 conv=>lhs;rw[e]
 rw[List.erase_append_right _ (fun hm=>h _ hm rfl),List.erase_cons_head]
def Vv{l1:List Int}{e:Nat}(hr:i6 l r=(l1,e))(hz:l.length<=1000)(hB:zwe B w)(hv:RsV l fu v B):
  Ret zwf 247 [v,.int .u64 r] w B (RP2 l1 e):=by
 unfold i6 at hr;refine yl Tryz.func247 Z Tryz.ntmps247 (np Z) hB (ku 0 (RsV l fu) Z ns hv ((Za6∘Zag∘Zae) ?_));refine xu (fun i:Nat=>[(0,.sat (RsV l fu)),(1,.is (.int .u64 r)),(4,.is (.slice none 0 0)),(5,.is (.int .i64 0)),(6,.is (.int .i64 i))]) (fun i=>i<=l.length/\∀ x∈l.take i,x≠r) (fun i=>l.length-i) 0 ⟨mb _,fun x hx=>by cases hx⟩ ⟨Z,Z,Z,Z,Z,nm⟩ ?_;rintro i ⟨hi,hn⟩;by_cases hlt:i<l.length
 ·obtain⟨x,hx⟩:=xj hlt;have hq:=oc hx;have hwi:IntKind.i64.wrap ((i:Int)+1)=((i+1:Nat):Int):=xb J J;by_cases hxr:x=r
  ·subst hxr;have hc:¬ l.count x=0:=by have:=zs4.2 (mz hx);omega
   rw[nc hc] at hr;cases hr;have he:=zg4 hn hx;have q1:((l.map (Value.int .u64)).drop (0*1)).take ((i-0)*1)=(l.take i).map (Value.int .u64):=by simp
   have q2:((l.map (Value.int .u64)).drop ((i+1)*1)).take ((l.length-(i+1))*1)=(l.drop (i+1)).map (Value.int .u64):=by
    rw[zse,zse,<-ztk,m8 (by simp)]
   have hl1:((l.take i).map (Value.int .u64)).length=(i-0)*1:=by rw[mg,mh];omega
   have hl2:((l.drop (i+1)).map (Value.int .u64)).length=(l.length-(i+1))*1:=by rw[mg,m9];omega
   have hp1:=K0 (l.take i);have hp2:=K0 (l.drop (i+1));have hlen:i-0+(l.length-(i+1))=(l.erase x).length:=by rw[he,nr,mh,m9];omega
   refine(Zd∘Zn∘Zc1∘ZE∘ZY∘Zap∘Za∘Zx∘Zr) ?_;refine qp (id:=5) [(27,[22]),(4,[27])] kr T (Zeq (h:=?_));refine z9 (jw L (kl:=.i64) (pl:=0) (km:=.i64) (pm:=0) 0 i false Z Z Z Z Z Z ⟨rfl,rfl⟩ (fun h=>by cases h) J J q1) Z ?_;refine z9 (gt L Z Z Z (oy Z) Z zes hl1 hp1 J J) Z ((Zeq∘ZbB) ?_);refine z9 (jw L (kh:=.i64) (ph:=0) (km:=.i64) (pm:=0) (i+1) l.length false Z Z Z Z Z ⟨rfl,rfl⟩ ⟨rfl,rfl⟩ (fun h=>by cases h) J J q2) Z ?_;refine xo (jx L Z Z Z (oy Z) Z zes hl2 hp2 J J) Z Z (xo (yo (.inr Z) Z) Z Z (Zy (h:=?_)));rw[<-zr1,<-he,hlen];refine uz 4 rfl ?_;refine yk1 L [.tmp 4,.tmp 5] fun u H hH hle=>?_;exact fun v hv=>se hv
  ·refine(Zd∘Zn∘Zc1∘ZE∘ZY∘Zap∘Za∘Z8∘Za1∘Zz∘Za4) ?_
   exact yr (x:=i) (i+1) ⟨hlt,fun y hy=>by
    rw[ju hx] at hy;rcases mj.1 hy with hy | hy
    ·exact hn y hy
    ·rw[my.1 hy];exact hxr⟩ J ⟨rfl,rfl,rfl,rfl,rfl,nm⟩
 ·obtain rfl:i=l.length:=by omega
  rw[m4] at hn;rw[na (ztw.2 fun hm=>hn r hm rfl)] at hr;cases hr;refine(Zd∘Zn∘Zj∘Zb5∘Z5∘Z4) ?_;refine yk1 L [.tmp 4,.tmp 5] fun u H hH hle=>?_;exact se SlV.nil
def zdj{R:List Int}{keep:Nat}(h:R[i]?=some x):(List.filter (fun r=>decide (l.count r=0)) ((R.take (i+1)).take (R.length-keep)))=(List.filter (fun r=>decide (l.count r=0)) ((R.take i).take (R.length-keep)))++if l.count x=0/\keep<R.length-i then [x] else []:=by
 rw[zuy,zuy];by_cases hk:keep<R.length-i
 ·rw[Nat.min_eq_right (show i+1<=R.length-keep by omega),Nat.min_eq_right (show i<=R.length-keep by omega),ju h,zt0];congr 1;by_cases h0:l.count x=0
  ·rw[na ⟨h0,hk⟩];simp [h0]
  ·rw[nc (fun h=>h0 h.1)];simp [h0]
 ·rw[zsv (show R.length-keep<=i+1 by omega),zsv (show R.length-keep<=i by omega),nc (fun h=>hk h.2),mi]
set_option maxRecDepth 10000 in
def za2{R:List Int}{keep:Nat}{fr:Bool}(hz:l.length<=100000)(hR:R.length<=100000)(hkp:keep<=100000)(hB:zwe B w)(hv:RsV l fu v1 B)(hr:RsV R fr v2 B):
  Ret zwf 250 [v1,v2,.int .i64 keep] w B (RsV (lp l R keep) false):=by
 have hgo:lp l R keep=(R.take (R.length-keep)).filter fun r=>decide (l.count r=0):=rfl;rw[hgo];clear hgo;refine yl Tryz.func250 Z Tryz.ntmps250 (np Z) hB (ku 0 (RsV l fu) Z ns hv (ku 1 (RsV R fr) Z ns hr ((Zw∘Zh) ?_)));refine um 7 A0 1 rfl ((ZL∘Zae) ?_)
 refine xu (fun y:Nat×List Int=>[(0,.sat (RsV l fu)),(1,.sat (RsV R fr)),(2,.is (.int .i64 keep)),(7,.own (SlR A0 1 y.2.length (y.2.map (Value.int .u64)))),(8,.is (.int .i64 y.1))])
  (fun y=>y.1<=R.length/\y.2=List.filter (fun r=>decide (l.count r=0)) ((R.take y.1).take (R.length-keep))) (fun y=>R.length-y.1) (0,[]) ⟨mb _,by simp⟩ ⟨rfl,rfl,rfl,rfl,rfl,nm⟩ ?_
 rintro⟨i,out⟩ ⟨hi,hout⟩;dsimp only at hi hout |-;have hol:out.length<=i:=by rw[hout];exact mq (zte ..) (by rw[mh,mh];omega)
 by_cases hlt:i<R.length
 ·obtain⟨x,hx⟩:=xj hlt;have hq:=oc hx;have hs:=zdj (l:=l) (keep:=keep) hx;obtain⟨c,hc⟩:∃ c,l.count x=c:=⟨_,rfl⟩
  have hcz:c<=100000:=by rw[<-hc];exact mq ztm hz
  have hwi:IntKind.i64.wrap ((i:Int)+1)=((i+1:Nat):Int):=xb J J;have hws:IntKind.i64.wrap ((R.length:Int)-(i:Int))=((R.length-i:Nat):Int):=xb J J |>.trans J;rw[hc] at hs;by_cases h0:c=0
  ·by_cases hk:keep<R.length-i
   ·rw[na ⟨h0,hk⟩,<-hout] at hs;refine(Zcp∘Zc1∘ZF∘Zg∘ZY∘Zap) ?_;refine z7 (qd L Z Z (zn Z) Z Z Z (fun u H hH hle _ v1 h1=>am hc hz hH h1)) Z ((Zx∘Za∘Zj∘Za∘Zaj∘Za∘ZN∘Zb4∘Z5) ?_);refine qf (yo (.inl Z) Z) ((ZY∘Zap∘ZJ∘ZeN) ?_);refine qf (yo (.inr Z) Z) ((Zaz∘Zt∘Za4) ?_);exact yr (x:=(i,out)) (i+1,out++[x]) ⟨hlt,hs.symm⟩ G ⟨Z,Z,Z,Kz,Z,nm⟩
   ·rw[nc (fun h=>hk h.2),mi,<-hout] at hs;refine(Zcp∘Zc1∘ZF∘Zg∘ZY∘Zap) ?_;refine z7 (qd L Z Z (zn Z) Z Z Z (fun u H hH hle _ v1 h1=>am hc hz hH h1)) Z ((Zx∘Za∘Zj∘Za∘Zaj∘Za∘ZG∘Zf∘Za1∘Zt∘Za4) ?_);exact yr (x:=(i,out)) (i+1,out) ⟨hlt,hs.symm⟩ G ⟨Z,Z,Z,Z,Z,nm⟩
  ·rw[nc (fun h=>h0 h.1),mi,<-hout] at hs;refine(Zcp∘Zc1∘ZF∘Zg∘ZY∘Zap) ?_;refine z7 (qd L Z Z (zn Z) Z Z Z (fun u H hH hle _ v1 h1=>am hc hz hH h1)) Z ((Z8∘Za9∘Zaw∘Zf∘Za1∘Zt∘Za4) ?_);exact yr (x:=(i,out)) (i+1,out) ⟨hlt,hs.symm⟩ G ⟨Z,Z,Z,Z,Z,nm⟩
 ·obtain rfl:i=R.length:=by omega
  rw[m4] at hout;rw[<-hout];refine uz 7 rfl ((Zcp∘Zj∘Zb5∘Z7∘Zg∘Zb9) ?_);refine yk1 L [.tmp 6] fun u H hH hle=>?_;exact fun v hv=>hv
def b01(b:Bool):Int:=if b then 1 else 0
def zaz{a b:List Int}{f:Bool}(hf:decide (a=b)=f)(ha:a.length<=100000)(hb:b.length<=100000)(hB:zwe B w)(h1:RsV a fa v1 B)(h2:RsV b fb v2 B):
  Ret zwf 190 [v1,v2] w B (fun v _=>v=.int .i64 (b01 f)):=by
 subst hf;refine yl Tryz.func190 Z Tryz.ntmps190 (np Z) hB (ku 0 (RsV a fa) Z ns h1 (ku 1 (RsV b fb) Z ns h2 ?_));by_cases hl:a.length=b.length
 ·refine(ZT∘ZbU∘Zj∘Zca∘Z2∘Zae) ?_;refine xu (fun i:Nat=>[(0,.sat (RsV a fa)),(1,.sat (RsV b fb)),(5,.is (.int .i64 i))]) (fun i=>i<=a.length/\a.take i=b.take i) (fun i=>a.length-i) 0 ⟨mb _,rfl⟩ ⟨Z,Z,Z,nm⟩ ?_;rintro i ⟨hi,ht⟩;by_cases hlt:i<a.length
  ·obtain⟨x,hx⟩:=xj hlt;obtain⟨y,hy⟩:=xj (show i<b.length by omega);have hc1:=oc hx;have hc2:=oc hy;have hwk:IntKind.i64.wrap ((i:Int)+1)=((i+1:Nat):Int):=xb J J;by_cases hxy:x=y
   ·refine(Zco∘Zb7∘ZcK∘ZbX∘ZcK∘ZbX∘Zd6∘Zbv∘ZbR∘Za0∘ZC∘Za4) ?_;exact yr (x:=i) (i+1) ⟨hlt,by rw[ju hx,ju hy,ht,hxy]⟩ J ⟨Z,Z,Z,nm⟩
   ·rw[ng (zl7 hx hy hxy)];refine(Zco∘Zb7∘ZcK∘ZbX∘ZcK∘ZbX∘Zfz∘ZcI∘ZbW∘Zc) ?_;exact yk2 L [.tmp 4]
  ·obtain rfl:i=a.length:=by omega
   have hab:a=b:=by rw[m4,hl,m4] at ht;exact ht
   rw[nf hab];refine(ZcL∘Zj∘Zb5∘Z0∘Zc) ?_;exact yk2 L [.tmp 4]
 ·rw[ng (zcw hl)];refine(ZT∘ZbU∘Zj∘Zac∘ZL∘Zc) ?_;exact yk2 L [.tmp 4]
def zmo(es:Ent)(l:List Int):Ent:=l.foldl (fun e g=>Xn g e) es
def zdv{g:Int}(h:l[i]?=some g):zmo es (l.take (i+1))=Xn g (zmo es (l.take i)):=by unfold zmo;rw[ju h,List.foldl_append];rfl
def MapOK.dels:∀ {l:List Int} {es:Ent} {R:List (Option (List U))},MapOK es R->(∀ g∈l,0<g)->MapOK (zmo es l) (clrL R l)
 | [],_,_,h,_=>h
 | g::l,_,_,h,hg=>MapOK.dels (l:=l) (h.del (hg g (mc ..))) fun x hx=>hg x (mf _ hx)
def EsV.dels:∀ {l:List Int} {es:Ent} {H:Heap},EsV es H->EsV (zmo es l) H
 | [],_,_,h=>h
 | g::l,_,_,h=>EsV.dels (l:=l) fun e he=>h e ((Lr g _).subset he)
def zg1{P0:List Int}{R:List (Option (List U))}{k:Nat}:∀ g∈lp P0 (kx R) k,0<g:=fun g hg=>by
 unfold lp at hg;have h1:=zt4 (zsb.1 hg).1;exact(f7 (jk.1 h1)).1
def vj:∀ v H u C,(StO b n m s t es).res.P v H u C->joinH H u C b=some (.cells (stc n m s t).toArray tyS):=by rw[bu];exact zcu
def zhm:∀ v H u C,(StO b n m s t es).res.P v H u C->u.heap[b]?=some (.cells (stc n m s t).toArray tyS):=by rw[bu];exact zef
abbrev zo5(g:List Int)(e:Int):Value->Heap->Prop:=TupS [RsV g true,fun v _=>v=.int .i64 e]
def Ny{keep:Int}(hn:S.R.length≠0)(hz:S.P.length<=100000)(hR:S.R.length<=100000)(hB:zwe B w)(hr:(StG b S).P B w C)(hC:ZCB C w B):
  RetY zwf 188 [.pointer (some ⟨b,0,none⟩),.int .i64 keep] w B C (StG b (cy S keep).1) (zo5 (cy S keep).2.1 (cy S keep).2.2):=by
 unfold RetY;refine yz 900 (StG b S) Tryz.func188 Z Tryz.ntmps188 (np Z) hB hr hC ?_;rw[A8];refine vh 900 rfl fun x H hs0 hφ=>?_;obtain⟨m,s,es⟩:=x;obtain⟨hm,hes,hps⟩:=hφ;dsimp only at hm hes hps |-;obtain⟨ps,pc,rfl⟩:=ke hps;have hlen:=hm.len;have hkl:=oq S.R;by_cases hk1:keep<1
 ·have hS:cy S keep=(S,[],4):=by unfold cy;rw[if_neg J]
  rw[hS];refine(ZT∘ZaI∘ZZ∘Zbq) ?_;refine ye (xz L 900 (Φ:=fun H=>H b=some (.cells (stc S.R.length m (.slice ps (xf S.P).length pc) S.P.length).toArray tyS)) (c:=.bool false) Z Z (zn Z) Z Z Z Z Z vj (fun u H hH hle hb=>none_ret hn hb hH)) ((ZcM∘Zz∘ZS∘ZcF∘Zf∘Zcd∘ZbS∘Z4) ?_);exact wn 900 (StG b S).res Z (pf hm hes hps) (w6 L 900 (r:=StG b S) (rs:=[.tmp 4,.tmp 5]) Z (fun _ _ h=>h) hs0 Z Z (fun H hle=>se SlV.nil))
 ·by_cases hk2:1024<keep
  ·have hS:cy S keep=(S,[],4):=by unfold cy;rw[if_neg J]
   rw[hS];refine(ZT∘ZaI∘ZZ∘Zbq) ?_;refine ye (xz L 900 (Φ:=fun H=>H b=some (.cells (stc S.R.length m (.slice ps (xf S.P).length pc) S.P.length).toArray tyS)) (c:=.bool false) Z Z (zn Z) Z Z Z Z Z vj (fun u H hH hle hb=>none_ret hn hb hH)) ((ZcM∘Zz∘Zab∘Zb∘ZN∘Zf∘Zcd∘ZbS∘Z4) ?_);exact wn 900 (StG b S).res Z (pf hm hes hps) (w6 L 900 (r:=StG b S) (rs:=[.tmp 4,.tmp 5]) Z (fun _ _ h=>h) hs0 Z Z (fun H hle=>se SlV.nil))
  ·obtain⟨k,rfl⟩:∃ k:Nat,keep=(k:Int):=⟨keep.toNat,by omega⟩
   have hS:cy S k=(⟨clrL S.R (lp S.P (kx S.R) k),S.P⟩,lp S.P (kx S.R) k,0):=by unfold cy;rw[if_pos J];rfl
   rw[hS];have hgp:∀ x∈lp S.P (kx S.R) k,0<x:=zg1
   have hgl:(lp S.P (kx S.R) k).length<=100000:=by
    unfold lp;refine mq (zte ..) ?_;rw[mh];omega
   generalize hg:lp S.P (kx S.R) k=g at hgp hgl;refine(ZT∘ZaI∘ZZ∘Zbq) ?_;refine ye (xz L 900 (Φ:=fun H=>H b=some (.cells (stc S.R.length m (.slice ps (xf S.P).length pc) S.P.length).toArray tyS)) (c:=.bool false) Z Z (zn Z) Z Z Z Z Z vj (fun u H hH hle hb=>none_ret hn hb hH)) ((ZcM∘Zz∘Zab∘Zb∘ZG∘Zf∘ZcR∘ZbR∘Za0∘Zi) ?_);refine qp (id:=5) [(200022,[900]),(200024,[900])] kr T (ZaU (h:=?_));refine qy (zbx L (q:=900) (vs:=[_,_]) Z Z zhm Z Z Z Z ⟨_,rfl⟩) Z Z (Zl (h:=?_));refine qy (vp L 900 (RsV (kx S.R) true) (r:=StO b S.R.length m _ S.P.length es) Z Z Z Z Z ns (fun u H2 C2 hH hle hr2 hC2=>(ey hm hn J hH hr2 hC2).pubY bn)) Z Z (Zl (h:=?_));refine z9 (xh (φ:=RsV g true) L Z Z (zn Z) Z Z Z ns (fun u H2 hH hle _ v1 h1=>by rw[<-hg];exact zg0 hz J J hH (hps.le hle) h1)) Z ?_;refine(Zcs∘ZaW∘Zd) ?_;rw[bu];refine ZdS (h:=?_);refine(Z5∘Zj∘Zb3) ?_
   refine xu (fun y:Nat×Ent=>[(0,.is (.pointer (some ⟨b,0,none⟩))),(6,.sat (RsV g true)),(27,.sat (RsV g true)),(28,.is (.int .i64 g.length)),(29,.is (.int .i64 y.1)),(900,.own (xr b (stc S.R.length m (.slice ps (xf S.P).length pc) S.P.length) tyS)),(901,.own (F7 m .u64 vcE y.2))])
    (fun y=>y.1<=g.length/\y.2=zmo es (g.take y.1)) (fun y=>g.length-y.1) (0,es) ⟨mb _,rfl⟩ ⟨rfl,rfl,rfl,rfl,rfl,rfl,rfl,nm⟩ ?_
   rintro⟨i,ec⟩ ⟨hi,hec⟩;dsimp only at hi hec |-;by_cases hlt:i<g.length
   ·obtain⟨x,hx⟩:=xj hlt;have hc:=oc hx;have hnx:=zdv (es:=es) hx;have hwk:IntKind.i64.wrap ((i:Int)+1)=((i+1:Nat):Int):=xb J J;refine(ZbW∘ZA∘Z0∘ZaO∘Zap∘Zc∘Zai∘ZR∘Za) ?_;refine xm (Xf (q:=901) (vc:=vcE) x mpS kyS Z Z Z Z Z) ((Zaz∘ZaH∘ZH∘ZcH) ?_);exact yr (x:=(i,ec)) (i+1,Xn x ec) ⟨hlt,by rw[hnx,hec]⟩ G ⟨Z,Z,Z,Z,Z,Z,Z,nm⟩
   ·obtain rfl:i=g.length:=by omega
    rw[m4] at hec;subst hec;refine(ZbW∘Zbh∘Zay∘Zg∘Zaf∘Zc) ?_;refine ZdF (h:=?_);refine wn 900 (StG b ⟨clrL S.R g,S.P⟩).res Z (fun v H u C hle h=>pf (S:=⟨clrL S.R g,S.P⟩) (hm.dels hgp) hes.dels hps v H u C hle (by dsimp only;rw[cz];exact h)) ?_;exact w6 L 900 (r:=StG b ⟨clrL S.R g,S.P⟩) (rs:=[.tmp 4,.tmp 5]) Z (fun _ _ h=>h) hs0 Z Z (fun H hle=>fun v hv=>se hv)
abbrev po(b:Nat):Value:=.pointer (some ⟨b,0,none⟩)
abbrev zqm(S:Sto):Res:=F5 po fun b=>StG b S
def zcp{Y:Type}:MapOK ([]:List (Int×(List U×Y))) []:=⟨zth,fun r=>by
 cases h:kpt ([]:List (Option (List U))) r with
 | none=>rfl
 | some t=>have:=f7 (R:=[]) (r:=r) (by rw[h];rfl);simp at this;omega⟩
def zcq:MapOK [((1:Int),(([]:List U),nilSet))] newS.R:=by
 have h:=(zcp (Y:=Value)).add [] nilSet;have h2:=h.1;rw[h.2] at h2;exact h2
def zgk{Y:Type}{k:Int}{y:Y}{l:List (Int×Y)}(h:k∉l.map Prod.fst):Ro k y l=l++[(k,y)]:=by
 refine t8 (i:=0) ?_;have h1:¬ (g7 k l).isSome=true:=fun hs=>h (pu.1 hs);unfold g7 at h1
 cases hm:dc k l 0 with
 | none=>rfl
 | some q=>rw[hm] at h1;exact ni rfl h1
def S9(hB:zwe B w):RetO zwf 42 [] w B (zqm newS):=by
 refine wt Tryz.func42 Z Tryz.ntmps42 (np Z) hB (Zw (h:=?_));refine z7 (Rc (hint:=none) .u64 vcE Z Z) Z ?_;refine Yt 1 901 rfl fun m=>?_;refine ZdK (h:=?_);refine xm (Xc (q:=901) (vc:=vcE) 1 ([],nilSet) mpS kyS Z Z Z Z Z Z Z) (Za (h:=?_));refine z7 (yv (cs:=[_,_,_,_]) Z Z zng Z Z) Z (ZdW (h:=?_));refine qf (yo (.inr Z) Z) (ZB (h:=?_));refine jg 0 900 rfl fun b=>?_;refine jy 900 901 rfl Z (xi (zph m .u64 vcE [((1:Int),(([]:List U),nilSet))])) ?_;refine wn 900 (StG b newS).res Z (fun v H u C hle h=>pf (S:=newS) (s:=.slice none 0 0) (m:=m) (B:=B) zcq (fun e he=>by rw[my.1 he];exact SetV.nil) SlV.nil v H u C hle h) ?_;exact U2 0 900 po (fun b=>StG b newS) b Z Z (dt Z (fun _ _ h=>h) nq Z)
end Go.V.L10
namespace Go.V.L10
open Go.V Go.V.L2 Go.V.L8 Go.V.L6
abbrev SB:=List U×(Value×Option Addr×Value×Option Addr)
abbrev sbv(b:SB):Value:=.agg #[b.2.1,.pointer b.2.2.1,b.2.2.2.1,.pointer b.2.2.2.2]
def sbc(b:SB):List Value:=[b.2.1,.pointer b.2.2.1,b.2.2.2.1,.pointer b.2.2.2.2]
def zj9(b:SB):(sbc b).length=4:=rfl
abbrev zrn(z:Int×SB):Int×(List U×Value):=(z.1,(z.2.1,sbv z.2))
def zsE(zs:List (Int×SB)):Ent:=zs.map zrn
def SbOK(bs:List SB)(H:Heap):Prop:=∀ b∈bs,SetV b.1 (sbv b) H
def SbOK.le{bs:List SB}{H H':Heap}(h:SbOK bs H)(hle:H.Le H'):SbOK bs H':=fun b hb=>(h b hb).le hle
def SbOK.mem_plain{bs:List SB}(h:SbOK bs H)(b:SB)(hb:b∈bs):(sbc b).all wz=true:=by
 obtain⟨f1,p1,f2,p2,hv,hp⟩:=(h b hb).shape;unfold sbv at hv;cases hv;exact hp
abbrev SsV(bs:List SB)(fu:Bool):Value->Heap->Prop:=SlV tySt 4 (bs.flatMap sbc) bs.length fu
def zpp{bs:List SB}{b:SB}(h:bs[i]?=some b):((bs.flatMap sbc).drop (i*4)).take 4=[b.2.1,.pointer b.2.2.1,b.2.2.2.1,.pointer b.2.2.2.2]:=gy zj9 bs i b h
def Yn(rs:List Int):Prop:=(0::rs).Pairwise (·<·)
instance (rs:List Int):Decidable (Yn rs):=inferInstanceAs (Decidable ((0::rs).Pairwise (·<·)))
def zhw{rs:List Int}(h:Yn rs)(hx:rs[i]?=some x):ff rs i<x:=by
 have h2:=mn.1 h
 cases i with
 | zero=>exact h2.1 x (mz hx)
 | succ i=>
  obtain⟨y,hy⟩:=xj (show i<rs.length by have:=get_lt hx;omega);rw[d9 hy];have h3:=zs9.1 h2.2 i (i+1) (get_lt hy) (get_lt hx) (zuk i)
  rwa [ue hy,ue hx] at h3
def zhv{rs:List Int}{i:Nat}(h:Yn (rs.take i))(hle:∀ a∈0::rs.take i,a<=ff rs i)(hx:rs[i]?=some x)(hlt:ff rs i<x):Yn (rs.take (i+1))/\∀ a∈0::rs.take (i+1),a<=ff rs (i+1):=by
 rw[ju hx,d9 hx];constructor
 ·unfold Yn at h |-;rw[<-zsa,zsr];refine⟨h,ztc _ _,fun a ha b hb=>?_⟩;rw[my.1 hb];have:=hle a ha;omega
 ·intro a ha;rw[<-zsa,mj,my] at ha;rcases ha with ha | rfl
  ·have:=hle a ha;omega
  ·omega
def mkE(rs L0:List Int):Int:=if rs.length=0 then 1 else if 1024<rs.length then 3 else if Yn rs then (if ∀ h∈kf L0,h∈rs then 0 else 14) else 18
def MkR(e:Int)(S:Sto):Res where
 P v H u C:=(e=0/\∃ b,v=.tuple #[po b,.int .i64 0]/\(StG b S).P H u C)\/(e≠0/\v=.tuple #[.pointer none,.int .i64 e]/\∀ k,¬ C k)
 st:=fun h a b c d=>h.imp (fun⟨h1,x,h2,h3⟩=>⟨h1,x,h2,(StG x S).st h3 a b c d⟩) id
def zny(h:RetO zwf f args w B (MkR 0 S)):RetO zwf f args w B (F5 (fun b=>.tuple #[po b,.int .i64 0]) fun b=>StG b S):=
 RetL.mono h fun _ _ _ _ ⟨C,h1,h2⟩=>⟨C,h1.elim (fun⟨_,b,hb,hs⟩=>⟨b,hb,hs⟩) fun h=>ni rfl h.1,h2⟩
attribute [local irreducible] V N X VO Par StepOK Has Ret RetL RetO RetT jh RetX RetY Src
end Go.V.L10
section
open Go.V
attribute [local irreducible] Has N Par Ret RetL RetO RetT RetX RetY Src StepOK V VO X jh
namespace Go.V.L10
open Go.V.L2 Go.V.L8 Go.V.L6
def _root_.Zf0(t:Wr Y->A:=by intro h;refine qp (id:=2) [(200009,[900]),(200011,[901]),(200016,[901]),(200022,[900]),(200024,[901])] kr T ?_;exact h.1)(h:Y):A:=t ⟨h⟩
def zrj{p:α->Bool}{l:List α}{x:α}(h:l[i]?=some x)(hx:p x=true)(hb:∀ (j:Nat) y,j<i->l[j]?=some y->p y=false):l.findIdx? p=some i:=by
 rw[List.findIdx?_eq_some_iff_getElem];have hi:i<l.length:=get_lt h;rw[zrz hi] at h;cases h;exact⟨hi,hx,fun j hj=>by simp [hb j _ hj (zrz J)]⟩
def zri{p:α->Bool}{l:List α}(hb:∀ (j:Nat) y,l[j]?=some y->p y=false):l.findIdx? p=none:=by
 rw[List.findIdx?_eq_none_iff];intro x hx;obtain⟨j,hj⟩:=zsf hx;exact hb j x hj
def zp9:Option Nat->Int
 | some i=>i
 | none=> -1
def zgy{p:α->Bool}{l:List α}:decide (0<=zp9 (l.findIdx? p))=l.any p:=by
 cases hf:l.findIdx? p with
 | none=>
  rw[List.findIdx?_eq_none_iff] at hf;have:l.any p=false:=List.any_eq_false.2 fun x hx=>by simpa using hf x hx
  rw[this];rfl
 | some i=>
  rw[List.findIdx?_eq_some_iff_getElem] at hf;obtain⟨hi,hx,_⟩:=hf;rw[zu0.2 ⟨_,zvv hi,hx⟩];exact nf (Int.natCast_nonneg _)
def StV(a n m:Nat)(s:Value)(t:Nat)(es:Ent)(H:Heap):Prop:=H a=some (.cells (stc n m s t).toArray tyS)/\MapVis m .u64 vcE es H
def StV.le{a n m t:Nat}{s:Value}{es:Ent}{H H':Heap}(h:StV a n m s t es H)(hle:H.Le H'):StV a n m s t es H':=⟨hle _ _ h.1,h.2.le hle⟩
def zih{u:World}{D:Nat->Prop}(h:(StO b n m s t es).res.P v H u C)(hD:∀ k,C k->D k):StV b n m s t es (joinH H u D):=by
 rw[bu] at h;obtain⟨C1,C2,⟨hb,hC1⟩,⟨⟨ar,ck,hm,he,_⟩,hC2⟩,h3,_⟩:=h;exact⟨(bp (hD _ ((h3 _).2 (.inl ((hC1 _).2 rfl))))).trans hb,ar,ck,(bp (hD _ ((h3 _).2 (.inr ((hC2 _).2 rfl))))).trans hm,he⟩
def zj0{b' n' m' t':Nat}{s':Value}{es':Ent}:∀ v H u C,(ej (StO b n m s t es).res (StO b' n' m' s' t' es').res).P v H u C->StV b n m s t es (joinH H u C)/\StV b' n' m' s' t' es' (joinH H u C):=
 fun _ _ _ _ ⟨_,_,h1,h2,h3,_⟩=>⟨zih h1 fun k hk=>(h3 k).2 (.inl hk),zih h2 fun k hk=>(h3 k).2 (.inr hk)⟩
def Ed(A B:Sto):Bool:=decide (A.R=B.R) && decide (xf A.P=xf B.P)
def zaj{A B:List (Option (List U))}(hl:A.length=B.length)(h:∀ r∈kx A,kpt A r=kpt B r)(hk:kx A=kx B):A=B:=by
 apply zu3;intro i;rcases m5 i A.length with hi | hi
 ·have h1:kpt A ((i+1:Nat):Int)=kpt B ((i+1:Nat):Int):=by
   by_cases hm:((i+1:Nat):Int)∈kx A
   ·exact h _ hm
   ·have hm2:((i+1:Nat):Int)∉kx B:=hk ▸ hm;rw[jk] at hm hm2
    cases ha:kpt A ((i+1:Nat):Int) with
    | some x=>rw[ha] at hm;exact ni rfl hm
    | none=>
     cases hb:kpt B ((i+1:Nat):Int) with
     | some x=>rw[hb] at hm2;exact ni rfl hm2
     | none=>rfl
  rw[cu,cu,zrz hi,zrz J] at h1;rw[zrz hi,zrz J];exact nh some h1
 ·rw[zr6 hi,zr6 J]
def Bu{a b:List Int}{f:Bool}(hf:decide (a=b)=f)(ha:a.length<=100000)(hB:zwe B w)(h1:RsV a fa v1 B)(h2:RsV b fb v2 B):
  Ret zwf 114 [v1,v2] w B (fun v _=>v=.bool f):=by
 subst hf;refine yl Tryz.func114 Z Tryz.ntmps114 (np Z) hB (ku 0 (RsV a fa) Z ns h1 (ku 1 (RsV b fb) Z ns h2 ?_));by_cases hl:a.length=b.length
 ·refine(ZT∘ZbU∘Zj∘Zca∘Z2∘Zj∘Zb3) ?_;refine xu (fun i:Nat=>[(0,.sat (RsV a fa)),(1,.sat (RsV b fb)),(12,.is (.int .i64 a.length)),(13,.is (.int .i64 i))]) (fun i=>i<=a.length/\a.take i=b.take i) (fun i=>a.length-i) 0 ⟨mb _,rfl⟩ ⟨Z,Z,Z,Z,nm⟩ ?_;rintro i ⟨hi,ht⟩;by_cases hlt:i<a.length
  ·obtain⟨x,hx⟩:=xj hlt;obtain⟨y,hy⟩:=xj (show i<b.length by omega);have hc1:=oc hx;have hc2:=oc hy;have hwk:IntKind.i64.wrap ((i:Int)+1)=((i+1:Nat):Int):=xb J J;by_cases hxy:x=y
   ·refine(ZbS∘ZA∘ZC∘Ze∘Zb7∘ZcK∘ZbX∘ZcK∘ZbX∘Zd6∘Zbv∘ZbR∘Za0∘Z0∘ZH∘ZcH) ?_;exact yr (x:=i) (i+1) ⟨hlt,by rw[ju hx,ju hy,ht,hxy]⟩ J ⟨Z,Z,Z,Z,nm⟩
   ·rw[ng (zl7 hx hy hxy)];refine(ZbS∘ZA∘ZC∘Ze∘Zb7∘ZcK∘ZbX∘ZcK∘ZbX∘Zfz∘ZcI∘ZbW∘Zc) ?_;exact yk2 L [.tmp 4]
  ·obtain rfl:i=a.length:=by omega
   have hab:a=b:=by rw[m4,hl,m4] at ht;exact ht
   rw[nf hab];refine(ZbS∘Zbh∘ZM∘Zc) ?_;exact yk2 L [.tmp 4]
 ·rw[ng (zcw hl)];refine(ZT∘ZbU∘Zj∘Zac∘ZL∘Zc) ?_;exact yk2 L [.tmp 4]
def Ua{l:List Int}{p:Int->Bool}{f:Nat}{cap:List Value}(hfn:L.fn f=some ())(hlm:l.length<=100000)(hf:∀ r∈l,∀ (u:World) (H:Heap),B.Le H->zwe H u->Ret zwf f ([.int .u64 r]++cap) u H (fun x _=>x=.bool (p r)))(hv:RsV l fu v B)(hB:zwe B w):
  Ret zwf 182 [v,.func (.func f) #[] cap.toArray] w B (fun r _=>r=.int .i64 (zp9 (l.findIdx? p))):=by
 refine yl Tryz.func182 Z Tryz.ntmps182 (np Z) hB (ku 0 (RsV l fu) Z ns hv ((ZT∘ZbU∘Zb3) ?_));refine xu (fun i:Nat=>[(0,.sat (RsV l fu)),(1,.is (.func (.func f) #[] cap.toArray)),(7,.is (.int .i64 l.length)),(8,.is (.int .i64 i))]) (fun i=>i<=l.length/\∀ (j:Nat) y,j<i->l[j]?=some y->p y=false) (fun i=>l.length-i) 0 ⟨mb _,fun j _ h=>ni h (zt1 _)⟩ ⟨Z,Z,Z,Z,nm⟩ ?_;rintro i ⟨h1,h2⟩;by_cases hlt:i<l.length
 ·obtain⟨x,hx⟩:=xj hlt;have hc:=oc hx;have hmx:=mz hx;have hwk:IntKind.i64.wrap ((i:Int)+1)=((i+1:Nat):Int):=xb J J
  cases hb:p x with
  | true=>
   rw[zrj hx hb h2];refine(Zi∘ZL∘ZA∘Zz∘Ze∘Zt∘ZY∘Zap) ?_;refine z7 (qd (cap:=cap) L Z Z (zn Z) Z Z hfn (fun u H hH hle _=>hb ▸ hf x hmx u H hle hH)) Z ((Zr∘ZC∘Zc) ?_);exact yk2 L [.tmp 4]
  | false=>
   refine(Zi∘ZL∘ZA∘Zz∘Ze∘Zt∘ZY∘Zap) ?_;refine z7 (qd (cap:=cap) L Z Z (zn Z) Z Z hfn (fun u H hH hle _=>hb ▸ hf x hmx u H hle hH)) Z ((Za1∘Z5∘ZH∘ZcH) ?_)
   exact yr (x:=i) (i+1) ⟨hlt,fun j y hj hy=>by
    rcases m5 j i with h | h
    ·exact h2 j y h hy
    ·have:j=i:=J;subst this;rw[hx] at hy;cases hy;exact hb⟩ J ⟨rfl,rfl,rfl,rfl,nm⟩
 ·rw[zri (fun j y hy=>h2 j y (by have:=get_lt hy;omega) hy)];refine(Zi∘ZL∘Zbh∘Z7∘Zc) ?_;exact yk2 L [.tmp 4]
def zdy{l:List Int}{p:Int->Bool}{f:Nat}{cap:List Value}{b:Bool}(hb:l.any p=b)(hfn:L.fn f=some ())(hlm:l.length<=100000)(hf:∀ r∈l,∀ (u:World) (H:Heap),B.Le H->zwe H u->Ret zwf f ([.int .u64 r]++cap) u H (fun x _=>x=.bool (p r)))(hv:RsV l fu v B)(hB:zwe B w):
  Ret zwf 116 [v,.func (.func f) #[] cap.toArray] w B (fun r _=>r=.bool b):=by
 rw[<-zgy] at hb;generalize hJ:zp9 (l.findIdx? p)=zv8 at *;subst hb;refine yl Tryz.func116 Z Tryz.ntmps116 (np Z) hB ?_;by_cases h0:0<=zv8
 ·rw[nf h0];refine(Zw∘Zb) ?_;refine z71 L Z (fun u H hH hle=>hJ ▸ Ua hfn hlm (fun r hr u2 H2 hle2 hH2=>hf r hr u2 H2 (hle.trans hle2) hH2) (hv.le hle) hH) ?_;refine(ZbJ∘Zc) ?_;exact yk2 L [.tmp 4]
 ·rw[ng h0];refine(Zw∘Zb) ?_;refine z71 L Z (fun u H hH hle=>hJ ▸ Ua hfn hlm (fun r hr u2 H2 hle2 hH2=>hf r hr u2 H2 (hle.trans hle2) hH2) (hv.le hle) hH) ?_;refine(Zav∘Zc) ?_;exact yk2 L [.tmp 4]
abbrev tyPS:TypeId:=71
def Vn{a n1 n2 m1 m2 t1 t2 c1 c2:Nat}{s1 s2:Value}{ea eb:Ent}{la lb:List U}{va vb:Value}(ga:g7 r ea=some (la,va))(gb:g7 r eb=some (lb,vb))(hla:la.length<=100000)(hlb:lb.length<=100000)(hB:zwe B w)
  (h1:B c1=some (.cells #[po a] tyPS)) (h2:B c2=some (.cells #[po b] tyPS)) (ha:StV a n1 m1 s1 t1 ea B) (hb:StV b n2 m2 s2 t2 eb B) (hsa:SetV la va B) (hsb:SetV lb vb B):
  Ret zwf 117 [.int .u64 r,po c1,po c2] w B (fun v _=>v=.bool (!decide (la=lb))):=by
 obtain⟨f1,p1,k1,x1,rfl,hp1⟩:=hsa.shape;obtain⟨f2,p2,k2,x2,rfl,hp2⟩:=hsb.shape;have hla1:=ha.1;have hlb1:=hb.1;have q1:(g7 r ea).elim nilSet vcE=.agg #[f1,.pointer p1,k1,.pointer x1]:=nh (fun o=>Option.elim o nilSet vcE) ga;have q2:(g7 r eb).elim nilSet vcE=.agg #[f2,.pointer p2,k2,.pointer x2]:=nh (fun o=>Option.elim o nilSet vcE) gb;refine yl Tryz.func117 Z Tryz.ntmps117 (np Z) hB ((ZT∘Ze∘Zcl∘Z9∘Zbj∘Z9∘Zl) ?_);refine z9 (Ew r mpS kyS zrS ha.2 Z Z Z Z q1) Z ((Z9∘Zbj∘Z9∘Zl) ?_);refine z9 (Ew r mpS kyS zrS hb.2 Z Z Z Z q2) Z (z91 L Z (fun u H hH hle=>zan hla hlb Z hH (hsa.le hle) (hsb.le hle)) ?_);refine(ZaJ∘Zy) ?_;exact yk2 L [.tmp 4]
def Gw{A D:Sto}{a:Nat}(hna:A.R.length≠0)(hnb:D.R.length≠0)(ka:(kx A.R).length<=100000)(kb:(kx D.R).length<=100000)(za:A.P.length<=100000)(zb:D.P.length<=100000)(ta:∀ r t,kpt A.R r=some t->t.length<=100000)(tb:∀ r t,kpt D.R r=some t->t.length<=100000)
     (hB:zwe B w) (hr:(gz (StG a A) (StG b D)).P B w C) (hC:ZCB C w B):
  RetY zwf 45 [po a,po b] w B C (gz (StG a A) (StG b D)) (fun v _=>v=.bool (Ed A D)):=by
 unfold RetY;refine yz 900 (gz (StG a A) (StG b D)) Tryz.func45 Z Tryz.ntmps45 (np Z) hB hr hC ?_;rw[w9];refine ZdS (h:=?_);rw[A8,A8];refine vh 900 rfl fun x H hs0 hφ=>?_;refine vh 901 rfl fun y H' hs1 hφ'=>?_;obtain⟨m1,s1,e1⟩:=x;obtain⟨hm1,he1,hp1⟩:=hφ;obtain⟨m2,s2,e2⟩:=y;obtain⟨hm2,he2,hp2⟩:=hφ';dsimp only at hm1 he1 hp1 hm2 he2 hp2 |-;have hs01:=hs0.trans hs1;replace he1:=he1.le hs1.le;replace hp1:=hp1.le hs1.le;obtain⟨q1,c1,rfl⟩:=ke hp1;obtain⟨q2,c2,rfl⟩:=ke hp2;have hl1:=hm1.len;have hl2:=hm2.len;refine Zq (h:=?_);refine ui 2 rfl fun v1 H1 hs2 hv1=>?_;obtain⟨d1,rfl,hd1⟩:=hv1;refine Zd0 (h:=?_);refine ui 3 rfl fun v2 H2 hs3 hv2=>?_;obtain⟨d2,rfl,hd2⟩:=hv2;refine Ze (h:=?_);replace hd1:=hs3.le _ _ hd1;have hs23:=hs2.trans hs3;replace he1:=he1.le hs23.le;replace hp1:=hp1.le hs23.le;replace he2:=he2.le hs23.le;replace hp2:=hp2.le hs23.le;have hsf:=hs01.trans hs23;refine(ZI∘Zbd) ?_;refine ye (vp L 900 (RsV (kx A.R) true) (r:=StO a A.R.length m1 (.slice q1 (xf A.P).length c1) A.P.length e1) Z Z Z Z Z ns (fun u H2 C2 hH hle hr2 hC2=>(ey hm1 hna J hH hr2 hC2).pubY bn)) ((Zaf∘Zan) ?_);by_cases hN:A.R.length=D.R.length
 ·by_cases hK:kx A.R=kx D.R
  ·by_cases hP:xf A.P=xf D.P
   ·have hS:Ed A D=decide (A.R=D.R):=by unfold Ed;rw[decide_eq_true hP,Bool.and_true]
    have hany:(kx A.R).any (fun r=>!decide (kpt A.R r=kpt D.R r))=!decide (A.R=D.R):=by
     by_cases h:A.R=D.R
     ·rw[nf h,h];simp
     ·rw[ng h]
      cases hh:(kx A.R).any (fun r=>!decide (kpt A.R r=kpt D.R r)) with
      | true=>rfl
      | false=>exact ni (zaj hN (fun r hr=>by have:=List.any_eq_false.1 hh r hr;simpa using this) hK) h
    have hent1:∀ r∈kx A.R,∃ t v,kpt A.R r=some t/\g7 r e1=some (t,v)/\SetV t v _:=fun r hr=>by
     have h1:=jk.1 hr;rw[<-hm1.get r,zu7] at h1;obtain⟨⟨t,v⟩,h2⟩:=zso.1 h1;exact⟨t,v,by rw[<-hm1.get r,h2];rfl,h2,he1 _ (bm h2)⟩
    have hent2:∀ r∈kx A.R,∃ t v,kpt D.R r=some t/\g7 r e2=some (t,v)/\SetV t v _:=fun r hr=>by
     have h1:=jk.1 (hK ▸ hr);rw[<-hm2.get r,zu7] at h1;obtain⟨⟨t,v⟩,h2⟩:=zso.1 h1;exact⟨t,v,by rw[<-hm2.get r,h2];rfl,h2,he2 _ (bm h2)⟩
    refine(Zf0∘Z9) ?_;refine qy (xz L 900 (Φ:=fun H=>H a=some (.cells (stc A.R.length m1 (.slice q1 (xf A.P).length c1) A.P.length).toArray tyS)) (c:=.int .u64 A.R.length) Z Z (zn Z) Z Z Z Z Z vj (fun u H hH hle hb=>gu hna hb hH)) Z Z (Z9 (h:=?_));refine qy (xz L 901 (Φ:=fun H=>H b=some (.cells (stc D.R.length m2 (.slice q2 (xf D.P).length c2) D.P.length).toArray tyS)) (c:=.int .u64 D.R.length) Z Z (zn Z) Z Z Z Z Z vj (fun u H hH hle hb=>gu hnb hb hH)) Z Z ((Zd6∘Zl∘ZaG∘Z9) ?_);refine qy (vp L 901 (RsV (kx D.R) true) (r:=StO b D.R.length m2 (.slice q2 (xf D.P).length c2) D.P.length e2) Z Z Z Z Z ns (fun u H2 C2 hH hle hr2 hC2=>(ey hm2 hnb J hH hr2 hC2).pubY bn)) Z Z (z9 (qd L Z Z (zn Z) Z Z Z (fun u H hH _ _ v1 h1 v2 h2=>Bu (nf hK) ka hH h1 h2)) Z ((ZaJ∘Zcb∘Zl∘Z9) ?_));refine qy (xz L 900 (Φ:=fun H=>H a=some (.cells (stc A.R.length m1 (.slice q1 (xf A.P).length c1) A.P.length).toArray tyS)) (c:=pnv (.slice q1 (xf A.P).length c1) A.P.length) Z Z (zn Z) Z Z Z Z Z vj (fun u H hH hle hb=>pins_ret ⟨_,_,_,rfl⟩ hna hb hH)) Z Z (Z9 (h:=?_));refine qy (xz L 901 (Φ:=fun H=>H b=some (.cells (stc D.R.length m2 (.slice q2 (xf D.P).length c2) D.P.length).toArray tyS)) (c:=pnv (.slice q2 (xf D.P).length c2) D.P.length) Z Z (zn Z) Z Z Z Z Z vj (fun u H hH hle hb=>pins_ret ⟨_,_,_,rfl⟩ hnb hb hH)) Z Z (z91 L Z (fun u H hH hle=>Of (nf hP) za zb hH (hp1.le hle) (hp2.le hle)) ?_);refine(ZaJ∘Za2∘Zbt) ?_;refine jy 900 901 rfl Z (xi (StO b D.R.length m2 (.slice q2 (xf D.P).length c2) D.P.length e2)) ?_
    have hcl:∀ (u:World) (H3:Heap),zwe H3 u->H2.Le H3->(StV a A.R.length m1 (.slice q1 (xf A.P).length c1) A.P.length e1 H3/\StV b D.R.length m2 (.slice q2 (xf D.P).length c2) D.P.length e2 H3)->∀ v1,RsV (kx A.R) true v1 H3->Ret zwf 116 [v1,.func (.func 117) #[] #[po d1,po d2]] u H3 (fun r _=>r=.bool (!decide (A.R=D.R))):=fun u H3 hH hle hb v1 h1=>zdy (cap:=[po d1,po d2]) (p:=fun r=>!decide (kpt A.R r=kpt D.R r)) hany rfl ka (fun r hr u2 H4 hle2 hH2=>by
     obtain⟨x1,w1,g1,g2,g3⟩:=hent1 r hr;obtain⟨x2,w2,g4,g5,g6⟩:=hent2 r hr;have hle3:=hle.trans hle2;have h:=Vn g2 g5 (ta _ _ g1) (tb _ _ g4) hH2 (hle3 _ _ hd1) (hle3 _ _ hd2) (hb.1.le hle2) (hb.2.le hle2) (g3.le hle3) (g6.le hle3);rw[g1,g4,show decide (some x1=some x2)=decide (x1=x2) by simp];exact h) h1 hH
    refine(ZE∘Zg∘ZaN) ?_;refine ye (xz L 900 (Φ:=fun H=>StV a A.R.length m1 (.slice q1 (xf A.P).length c1) A.P.length e1 H/\StV b D.R.length m2 (.slice q2 (xf D.P).length c2) D.P.length e2 H) (c:=.bool (!decide (A.R=D.R))) Z Z (zn Z) Z Z Z Z Z zj0 (fun u H hH hle hb v1 h1=>hcl u H hH hle hb v1 h1)) ((Zo∘Zc) ?_);refine ug 900 901 rfl (xi (StO b D.R.length m2 (.slice q2 (xf D.P).length c2) D.P.length e2)) ?_;refine wn 900 (StG a A).res Z (pf hm1 he1 hp1) (wn 901 (StG b D).res Z (pf hm2 he2 hp2) (jy 900 901 rfl Z (xi (StG b D)) ?_));exact w6 L 900 (r:=gz (StG a A) (StG b D)) (rs:=[.tmp 4]) Z (fun _ _ h=>h) hsf Z Z (fun H hle=>by rw[hS];generalize decide (A.R=D.R)=q;cases q<;>rfl)
   ·have hS:Ed A D=false:=by unfold Ed;rw[decide_eq_false hP,Bool.and_false]
    refine(Zf0∘Z9) ?_;refine qy (xz L 900 (Φ:=fun H=>H a=some (.cells (stc A.R.length m1 (.slice q1 (xf A.P).length c1) A.P.length).toArray tyS)) (c:=.int .u64 A.R.length) Z Z (zn Z) Z Z Z Z Z vj (fun u H hH hle hb=>gu hna hb hH)) Z Z (Z9 (h:=?_));refine qy (xz L 901 (Φ:=fun H=>H b=some (.cells (stc D.R.length m2 (.slice q2 (xf D.P).length c2) D.P.length).toArray tyS)) (c:=.int .u64 D.R.length) Z Z (zn Z) Z Z Z Z Z vj (fun u H hH hle hb=>gu hnb hb hH)) Z Z ((Zd6∘Zl∘ZaG∘Z9) ?_);refine qy (vp L 901 (RsV (kx D.R) true) (r:=StO b D.R.length m2 (.slice q2 (xf D.P).length c2) D.P.length e2) Z Z Z Z Z ns (fun u H2 C2 hH hle hr2 hC2=>(ey hm2 hnb J hH hr2 hC2).pubY bn)) Z Z (z9 (qd L Z Z (zn Z) Z Z Z (fun u H hH _ _ v1 h1 v2 h2=>Bu (nf hK) ka hH h1 h2)) Z ((ZaJ∘Zcb∘Zl∘Z9) ?_));refine qy (xz L 900 (Φ:=fun H=>H a=some (.cells (stc A.R.length m1 (.slice q1 (xf A.P).length c1) A.P.length).toArray tyS)) (c:=pnv (.slice q1 (xf A.P).length c1) A.P.length) Z Z (zn Z) Z Z Z Z Z vj (fun u H hH hle hb=>pins_ret ⟨_,_,_,rfl⟩ hna hb hH)) Z Z (Z9 (h:=?_));refine qy (xz L 901 (Φ:=fun H=>H b=some (.cells (stc D.R.length m2 (.slice q2 (xf D.P).length c2) D.P.length).toArray tyS)) (c:=pnv (.slice q2 (xf D.P).length c2) D.P.length) Z Z (zn Z) Z Z Z Z Z vj (fun u H hH hle hb=>pins_ret ⟨_,_,_,rfl⟩ hnb hb hH)) Z Z (z91 L Z (fun u H hH hle=>Of (ng hP) za zb hH (hp1.le hle) (hp2.le hle)) ?_);refine(ZaJ∘Zc2∘ZcA∘Zc) ?_;refine wn 900 (StG a A).res Z (pf hm1 he1 hp1) (wn 901 (StG b D).res Z (pf hm2 he2 hp2) (jy 900 901 rfl Z (xi (StG b D)) ?_));exact w6 L 900 (r:=gz (StG a A) (StG b D)) (rs:=[.tmp 4]) Z (fun _ _ h=>h) hsf Z Z (fun H hle=>by rw[hS];rfl)
  ·have hS:Ed A D=false:=by unfold Ed;rw[decide_eq_false (fun h=>hK (by rw[h])),Bool.false_and]
   refine(Zf0∘Z9) ?_;refine qy (xz L 900 (Φ:=fun H=>H a=some (.cells (stc A.R.length m1 (.slice q1 (xf A.P).length c1) A.P.length).toArray tyS)) (c:=.int .u64 A.R.length) Z Z (zn Z) Z Z Z Z Z vj (fun u H hH hle hb=>gu hna hb hH)) Z Z (Z9 (h:=?_));refine qy (xz L 901 (Φ:=fun H=>H b=some (.cells (stc D.R.length m2 (.slice q2 (xf D.P).length c2) D.P.length).toArray tyS)) (c:=.int .u64 D.R.length) Z Z (zn Z) Z Z Z Z Z vj (fun u H hH hle hb=>gu hnb hb hH)) Z Z ((Zd6∘Zl∘ZaG∘Z9) ?_);refine qy (vp L 901 (RsV (kx D.R) true) (r:=StO b D.R.length m2 (.slice q2 (xf D.P).length c2) D.P.length e2) Z Z Z Z Z ns (fun u H2 C2 hH hle hr2 hC2=>(ey hm2 hnb J hH hr2 hC2).pubY bn)) Z Z (z9 (qd L Z Z (zn Z) Z Z Z (fun u H hH _ _ v1 h1 v2 h2=>Bu (ng hK) ka hH h1 h2)) Z ((ZaJ∘Zcb∘ZeI∘ZbM∘Zc2∘ZcA∘Zc) ?_));refine wn 900 (StG a A).res Z (pf hm1 he1 hp1) (wn 901 (StG b D).res Z (pf hm2 he2 hp2) (jy 900 901 rfl Z (xi (StG b D)) ?_));exact w6 L 900 (r:=gz (StG a A) (StG b D)) (rs:=[.tmp 4]) Z (fun _ _ h=>h) hsf Z Z (fun H hle=>by rw[hS];rfl)
 ·have hS:Ed A D=false:=by unfold Ed;rw[decide_eq_false (fun h=>hN (by rw[h])),Bool.false_and]
  refine(Zf0∘Z9) ?_;refine qy (xz L 900 (Φ:=fun H=>H a=some (.cells (stc A.R.length m1 (.slice q1 (xf A.P).length c1) A.P.length).toArray tyS)) (c:=.int .u64 A.R.length) Z Z (zn Z) Z Z Z Z Z vj (fun u H hH hle hb=>gu hna hb hH)) Z Z (Z9 (h:=?_));refine qy (xz L 901 (Φ:=fun H=>H b=some (.cells (stc D.R.length m2 (.slice q2 (xf D.P).length c2) D.P.length).toArray tyS)) (c:=.int .u64 D.R.length) Z Z (zn Z) Z Z Z Z Z vj (fun u H hH hle hb=>gu hnb hb hH)) Z Z ((Zfz∘ZeI∘ZcC∘Zcb∘ZeI∘ZbM∘Zc2∘ZcA∘Zc) ?_);refine wn 900 (StG a A).res Z (pf hm1 he1 hp1) (wn 901 (StG b D).res Z (pf hm2 he2 hp2) (jy 900 901 rfl Z (xi (StG b D)) ?_));exact w6 L 900 (r:=gz (StG a A) (StG b D)) (rs:=[.tmp 4]) Z (fun _ _ h=>h) hsf Z Z (fun H hle=>by rw[hS];rfl)
abbrev tyRr:TypeId:=221
abbrev zpk:TypeId:=125
abbrev Gg:=Option (List U)×Value
def rrc(z:Gg):List Value:=[.bool z.1.isSome,z.2]
def Be(z:Gg):(rrc z).length=2:=rfl
def RowOK(zs:List Gg)(H:Heap):Prop:=∀ z∈zs,US (z.1.getD []) false z.2 H
def RowOK.le{zs:List Gg}{H H':Heap}(h:RowOK zs H)(hle:H.Le H'):RowOK zs H':=fun z hz=>(h z hz).le hle
abbrev RwV(zs:List Gg):Value->Heap->Prop:=SlV tyRr 2 (zs.flatMap rrc) zs.length false
def RlV(R:List (Option (List U))):Value->Heap->Prop:=fun v H=>∃ zs:List Gg,zs.map (·.1)=R/\RowOK zs H/\RwV zs v H
def RlV.le{R:List (Option (List U))}{v:Value}{H H':Heap}(h:RlV R v H)(hle:H.Le H'):RlV R v H':=let ⟨zs,h1,h2,h3⟩:=h;⟨zs,h1,h2.le hle,h3.le hle⟩
def RsS(S:Sto):Value->Heap->Prop:=fun v H=>∃ lv pv,v=.agg #[lv,pv]/\RlV S.R lv H/\RsV S.P false pv H
def RsS.mono:Kn.mono (.sat (RsS S)):=fun _ _ _ ⟨lv,pv,h1,h2,h3⟩ hle=>⟨lv,pv,h1,h2.le hle,h3.le hle⟩
def RsS.le{H':Heap}(h:RsS S v H)(hle:H.Le H'):RsS S v H':=RsS.mono _ _ _ h hle
def za0{zs:List Gg}{z:Gg}(h:zs[i]?=some z):((zs.flatMap rrc).drop (i*2)).take 2=[.bool z.1.isSome,z.2]:=gy Be zs i z h
def Td{zs:List Gg}(h:RowOK zs H):(zs.flatMap rrc).all wz=true:=by
 rw[zr3];intro x hx;obtain⟨z,hz,hx⟩:=zub.1 hx;obtain⟨p,c,hs⟩:=ke (h z hz);unfold rrc at hx;rw[hs] at hx;simp only[nz,zs8,or_false] at hx;rcases hx with rfl | rfl<;>rfl
def Oc{zs:List Gg}{R:List (Option (List U))}(h:zs.map (·.1)=R){o:Option (List U)}(ho:R[i]?=some o):∃ v,zs[i]?=some (o,v):=by
 rw[<-h,zr8] at ho
 cases hz:zs[i]? with
 | none=>rw[hz] at ho;cases ho
 | some z=>rw[hz] at ho;cases ho;exact⟨z.2,rfl⟩
def Cw(R:List (Option (List U)))(i:Nat):List Int:=((List.range i).filter fun i=>((R[i]?).join).isSome).map fun i=>((i+1:Nat):Int)
def Hk{R:List (Option (List U))}:Cw R (i+1)=Cw R i++if ((R[i]?).join).isSome=true then [((i+1:Nat):Int)] else []:=by
 unfold Cw;rw[List.range_succ,zt0,zr1];congr 1;by_cases h:((R[i]?).join).isSome=true
 ·rw[na h];simp [h]
 ·rw[nc h];simp [h]
def Fa(R:List (Option (List U)))(i:Nat):(Cw R i).length<=i:=by
 unfold Cw;rw[mg];exact mq (zte ..) (by simp)
def Vx(hB:zwe B w):Ret zwf 118 [] w B (RsS newS):=by
 refine yl Tryz.func118 Z Tryz.ntmps118 (np Z) hB ((Zct∘ZI) ?_);refine z7 (yv (cs:=[_,_]) rfl rfl zki rfl rfl) rfl (ZJ (h:=?_));refine ui 2 rfl fun v1 H1 hs1 hv1=>?_;obtain⟨d1,rfl,hd1⟩:=hv1;refine z7 (yv (cs:=[_,_]) rfl rfl zbh rfl rfl) rfl (Za3 (h:=?_));refine yk L (rs:=[.cell 0 125]) Z (fun _ _ h=>h) hs1 fun u H hH hle=>?_;exact⟨_,ya Z,rfl,_,_,rfl,⟨[(some [],.slice none 0 0)],rfl,fun z hz=>by rw[my.1 hz];exact SlV.nil,(SlB.toV (n:=1) ⟨d1,rfl,hle _ _ hd1⟩ Z).nofu⟩,SlV.nil⟩
def sc{R:List (Option (List U))}{zs:List Gg}(hzs:zs.map (·.1)=R)(hR:R.length<=100000)(hpv:∃ p k c,pv=.slice p k c)(hB:zwe B w)(hl:RwV zs lv B):
  Ret zwf 245 [.agg #[lv,pv]] w B (RsV (kx R) false):=by
 have hzl:zs.length=R.length:=by rw[<-hzs,mg]
 obtain⟨p,c,rfl⟩:=ke hl;obtain⟨p2,k2,c2,rfl⟩:=hpv;refine yl Tryz.func245 Z Tryz.ntmps245 (np Z) hB ((Zq∘Zad∘Zh) ?_);refine um 3 A0 1 rfl ((ZL∘Zae) ?_)
 refine xu (fun y:Nat=>[(1,.sat (At [.slice p zs.length c,.slice p2 k2 c2] zpk 0)),(3,.own (SlR A0 1 (Cw R y).length ((Cw R y).map (Value.int .u64)))),(4,.is (.int .i64 y))])
  (fun y=>y<=R.length) (fun y=>R.length-y) 0 (mb _) ⟨rfl,rfl,rfl,nm⟩ ?_
 rintro i hi;dsimp only at hi |-;have htl:=Fa R i;by_cases hlt:i<R.length
 ·obtain⟨o,ho⟩:=xj hlt;obtain⟨v,hv⟩:=Oc hzs ho;have hc:=za0 hv;have hwk:IntKind.i64.wrap ((i:Int)+1)=((i+1:Nat):Int):=xb J J;have hwu:IntKind.u64.wrap ((i+1:Nat):Int)=((i+1:Nat):Int):=wrap_u64 J J;have hs:=Hk (R:=R) (i:=i);rw[ho] at hs
  cases o with
  | none=>
   have hs2:Cw R (i+1)=Cw R i:=hs.trans (mi _);refine(Zcp∘ZcE∘ZbT∘Zdi∘ZF∘ZcE∘Zdm∘ZcD∘Zap∘Za1∘Zt∘Za4) ?_;exact yr (x:=i) (i+1) hlt J ⟨Z,by rw[hs2];rfl,Z,nm⟩
  | some t=>
   have hs2:Cw R (i+1)=Cw R i++[((i+1:Nat):Int)]:=hs;refine(Zcp∘ZcE∘ZbT∘Zdi∘ZF∘ZcE∘Zdm∘ZcD∘Zap∘Z1∘Z5) ?_;refine qf (yo (.inl Z) Z) ((Za∘ZH) ?_);refine z7 (kw Z Z Z wo.1 wo.2 (wrap_u64 J J)) Z ((ZJ∘ZeN) ?_);refine qf (yo (.inr Z) Z) ((Zaz∘Zt∘Za4) ?_);exact yr (x:=i) (i+1) hlt J ⟨Z,by rw[hs2];exact Kz,Z,nm⟩
 ·obtain rfl:i=R.length:=by omega
  refine(Zcp∘ZcE∘ZbT∘Zb5) ?_;refine Zew (h:=?_);refine(Z7∘Zg∘Zb9) ?_;refine yk1 L [.tmp 2] fun u H hH hle=>?_;exact fun v hv=>hv
end Go.V.L10
end
namespace Go.V.L10
open Go.V.L2 Go.V.L8 Go.V.L6
def _root_.ZfL(t:Wr Y->A:=by intro h;refine z9 (StepOK.seeV (ql L (qz Z) Z Z Z Z) M) Z ?_;exact h.1)(h:Y):A:=t ⟨h⟩
def zim{v:Value}(h:TupS [φ,fun v _=>v=a] v H):∃ tv,v=.tuple #[tv,a]/\φ tv H:=by
 obtain⟨vs,rfl,hl,hp⟩:=h
 match vs,hl with
 | [x,y],_=>
  have h2:=hp 1 _ y rfl rfl;exact⟨x,by rw[<-h2],hp 0 _ x Z Z⟩
abbrev Wr10P(S:Sto)(rev e:Int):Value->Heap->Prop:=TupS [RsS S,fun v _=>v=.int .u64 rev,fun v _=>v=.int .i64 e]
def tup3{b v:Value}(h:φ v H):TupS [φ,fun v _=>v=a,fun v _=>v=b] (.tuple #[v,a,b]) H:=by
 refine⟨[v,a,b],rfl,rfl,fun i ψ x hi hx=>?_⟩;rcases i with _ | _ | _ | i
 ·cases hi;cases hx;exact h
 ·cases hi;cases hx;rfl
 ·cases hi;cases hx;rfl
 ·cases hi
def Wr10P.mono{S:Sto}{rev e:Int}:Kn.mono (.sat (Wr10P S rev e)):=TupS.mono fun ψ hψ=>by
 simp only[nz,zs8,or_false] at hψ;rcases hψ with rfl | rfl | rfl
 ·exact RsS.mono
 ·exact fun _ _ _ h _=>h
 ·exact fun _ _ _ h _=>h
attribute [local irreducible] V N X VO Par StepOK Has Ret RetL RetO RetT jh RetX RetY Src
def N2{S S':Sto}{l cs:List CH}{rev:Int}{fl fc:Bool}(hI:zpc S)(hR:S.R.length<=100000)(hn:S.R.length≠0)(hss:∀ r t,kpt S.R r=some t->Sst js t/\∀ x∈t,TZ x)(zl:∀ c∈l,TM c.1)(zc:∀ c∈cs,TM c.1)(ll:l.length<=9223372036854775807)(lc:cs.length<=9223372036854775807)(hw:bg S l cs=(S',rev,e))(hB:zwe B w)(hv:RsS S v B)(hl:KS tyM l fl lv B)(hc:KS tyC cs fc cv B):
  Ret zwf 184 [v,lv,cv] w B (Wr10P S' rev e):=by
 obtain⟨rv,pv,rfl,⟨zs,hzs,hrow,hrv⟩,hpv⟩:=hv;have hzl:zs.length=S.R.length:=by rw[<-hzs,mg]
 obtain⟨p,c,rfl⟩:=ke hrv;obtain⟨p2,c2,rfl⟩:=ke hpv;obtain⟨t0,ht0⟩:∃ t0,kpt S.R S.R.length=some t0:=zso.1 hI.last;have hA:atS S 0=(t0,0):=by unfold atS;rw[if_pos rfl,ht0]
 have ht4:=hI.tl _ _ ht0;have hts:=hss _ _ ht0;obtain⟨⟨t1,made,e1⟩,hwr⟩:∃ x,ci t0 l cs=x:=⟨_,rfl⟩
 unfold bg at hw;rw[hA,hwr] at hw;dsimp only at hw;obtain⟨j,hj⟩:∃ j,zs.length=j+1:=⟨zs.length-1,by omega⟩
 have hws:IntKind.i64.wrap (((zs.length:Nat):Int)-1)=((j:Nat):Int):=(xb J J).trans J
 obtain⟨v0,hv0⟩:∃ v,zs[j]?=some (some t0,v):=Oc hzs (by
  obtain⟨o,ho⟩:=xj (show j<S.R.length by omega);have h2:S.R.length=j+1:=J;rw[h2,cu,ho] at ht0
  cases o with
  | none=>cases ht0
  | some t=>cases ht0;exact ho)
 have hrz:US t0 false v0 B:=hrow (some t0,v0) (mz hv0);obtain⟨p3,c3,rfl⟩:=ke hrz;have hc0:=za0 hv0;have hkl:=Fa S.R S.R.length;refine yl Tryz.func184 Z Tryz.ntmps184 (np Z) hB (ku 1 (KS tyM l fl) Z ns hl (ku 2 (KS tyC cs fc) Z ns hc ((Zq∘ZX∘Zv∘Zad∘ZcE∘ZcE∘ZbT∘Zaj∘ZaO∘ZcD∘Zap∘Zg∘Zg) ?_)));refine z7 (xh (φ:=RWriteP t1 made e1) L rfl rfl (zn rfl) rfl rfl rfl RWriteP.mono (fun u H hH hle _ v1 h1 v2 h2=>Qt zl zc ll lc ht4 hts.1 hts.2 hwr hH (hrz.le hle) h1 h2)) rfl ?_;refine ui 25 rfl fun v1 H1 hs1 hp1=>?_;obtain⟨tv,mv,rfl,htv,hmv⟩:=hp1;obtain⟨p4,c4,rfl⟩:=ke htv;refine(ZcB∘Zbz) ?_;have hrow1:=hrow.le hs1.le;have hrv1:=hrv.le hs1.le;have hpv1:=hpv.le hs1.le;by_cases he:e1=0
 ·subst he;rw[na rfl] at hw;by_cases hk:1024<=(kx S.R).length
  ·rw[na hk] at hw;cases hw;refine(Zn∘Zx∘Za∘Zbn) ?_;refine z7 (xh (φ:=RsV (kx S.R) false) L Z Z (zn Z) Z Z Z ns (fun u H hH hle _=>sc hzs J ⟨_,_,_,rfl⟩ hH (hrv1.le hle))) Z ((ZbT∘ZbJ∘Zb4∘Z2∘Zh∘Zt∘Zac∘ZF∘Zbn∘Za∘ZaF∘Z4) ?_);refine yk L (rs:=[.cell 6 125,.tmp 7,.tmp 8]) Z (fun _ _ h=>h) hs1 fun u H hH hle=>?_;exact⟨_,ya Z,rfl,tup3 ⟨_,_,rfl,⟨zs,hzs,hrow1.le hle,hrv1.le hle⟩,hpv1.le hle⟩⟩
  ·rw[nc hk] at hw;cases hw;have hlen:(zs.flatMap rrc).length=zs.length*2:=gk Be zs;have hpl:=Td hrow;have hwu:IntKind.u64.wrap ((zs.length+1:Nat):Int)=((S.R.length+1:Nat):Int):=(wrap_u64 J J).trans J;refine(Zn∘Zx∘Za∘Zbn) ?_;refine z7 (xh (φ:=RsV (kx S.R) false) L Z Z (zn Z) Z Z Z ns (fun u H hH hle _=>sc hzs J ⟨_,_,_,rfl⟩ hH (hrv1.le hle))) Z ((ZbT∘Zav∘Zf∘ZK∘Zt∘Zau) ?_);refine qp (id:=6) [(47,[43]),(50,[47]),(100012,[50])] kr T ((ZaA∘ZfL) ?_);refine z9 (gt L Z Z Z (oy Z) Z zlp hlen hpl J J) Z (Zl (h:=?_));refine z9 (yv (cs:=[_,_]) Z Z zki Z Z) Z (ZdN (h:=?_));refine xo (StepOK2.turn (jx (q:=43) L Z Z Z (eg Z) Z zlp Z Z J J) (zik (Nat.succ_ne_zero _))) Z Z (Zbi (h:=?_));refine xo (Bm (q:=47) (X:=zqn 2 (zs.length+1) _) (fun x=>[(0,.slice (some ⟨x.1.1,0,none⟩) (zs.length+1) x.1.2.1),(1,.slice p2 S.P.length c2)]) (fun x=>[.slice (some ⟨x.1.1,0,none⟩) (zs.length+1) x.1.2.1,.slice p2 S.P.length c2]) Z Z Z Z zbh (fun _=>rfl) (fun _=>by rfl)) Z Z ?_;refine z9 (qs L Z Z Z Z) Z (xo (G5 L (q:=50) Z (fun _=>by exact⟨rfl,rfl⟩) Z Z Z Z Z) Z Z ?_);refine Zbf (h:=?_);refine Aq 12 902 rfl fun x=>?_;obtain⟨b12,⟨b47,cap,rest⟩,hcap,_,hfl⟩:=x;dsimp only at hcap hfl |-;rw[w9];refine ug 902 903 rfl (xi _) ?_;refine wx 903 rfl fun H2 hs2 _ hb47=>?_;refine qp (id:=7) [(200051,[902]),(200053,[902])] kr T (qy (jd L (q:=902) (vs:=[_,_]) Z Z Z Z ⟨_,rfl⟩) Z Z (Zas (h:=?_)));refine qy (qk L (q:=902) Z Z Z Z) Z Z (Zdt (h:=?_));refine z9 (kw Z Z Z wo.1 wo.2 (wrap_u64 J J)) Z ((Zdl∘ZaS∘Zy) ?_);refine yk L (rs:=[.cell 6 125,.tmp 7,.tmp 8]) Z (fun _ _ h=>h) (hs1.trans hs2) fun u H hH hle=>?_
   have hrow2:RowOK (zs++[(some t1,.slice p4 t1.length c4)]) H2:=fun z hz=>by
    rcases mj.1 hz with hz | hz
    ·exact(hrow1.le hs2.le) z hz
    ·rw[my.1 hz];exact htv.le hs2.le
   have hfm:(zs++[(some t1,Value.slice p4 t1.length c4)]).flatMap rrc=zs.flatMap rrc++[.bool true,.slice p4 t1.length c4]:=by rw[zr5];rfl
   have hrv2:RwV (zs++[(some t1,.slice p4 t1.length c4)]) (.slice (some ⟨b47,0,none⟩) (zs.length+1) cap) H2:=by
    unfold RwV;rw[hfm,nr,zsu];exact⟨by rw[nr,hlen];simp;omega,.inr ⟨b47,0,cap,_,_,_,rfl,hb47,(by show(((zs.flatMap rrc++([.bool true,.slice p4 t1.length c4]:List Value))++rest).drop 0).take _=_;rw[zsj];exact zu4),hcap,fun h=>by cases h⟩⟩
   rw[show S.R.length+1=zs.length+1 by omega];exact⟨_,ya Z,rfl,tup3 ⟨_,_,rfl,⟨_,by rw[zr1,hzs];rfl,hrow2.le hle,hrv2.le hle⟩,(hpv1.le hs2.le).le hle⟩⟩
 ·rw[nc he] at hw;cases hw;refine(Zn∘Z8∘Za9∘Zf∘ZK∘Zt∘Zac∘ZF∘Zbn∘Za∘ZaF∘Z4) ?_;refine yk L (rs:=[.cell 6 125,.tmp 7,.tmp 8]) Z (fun _ _ h=>h) hs1 fun u H hH hle=>?_;exact⟨_,ya Z,rfl,tup3 ⟨_,_,rfl,⟨zs,hzs,hrow1.le hle,hrv1.le hle⟩,hpv1.le hle⟩⟩
abbrev Pn10P(S:Sto)(e:Int):Value->Heap->Prop:=TupS [RsS S,fun v _=>v=.int .i64 e]
def Pn10P.mono{S:Sto}{e:Int}:Kn.mono (.sat (Pn10P S e)):=Bg RsS.mono
def Gz{S S':Sto}{un:Bool}(hR:S.R.length<=1000000000)(hr0:0<=r)(hr1:r<18446744073709551616)(hz:S.P.length<=1000)(hpos:∀ x∈S.P,0<x)(hpn:V3 S r un=(S',e))(hB:zwe B w)(hv:RsS S v B):
  Ret zwf 186 [v,.int .u64 r,.bool un] w B (Pn10P S' e):=by
 obtain⟨rv,pv,rfl,⟨zs,hzs,hrow,hrv⟩,hpv⟩:=hv;have hzl:zs.length=S.R.length:=by rw[<-hzs,mg]
 obtain⟨p,c,rfl⟩:=ke hrv;obtain⟨p2,c2,rfl⟩:=ke hpv;have hwl:IntKind.u64.wrap ((zs.length:Nat):Int)=((zs.length:Nat):Int):=wrap_u64 J J;unfold V3 at hpn;by_cases hk:(kpt S.R r).isSome=true
 ·rw[na hk] at hpn;obtain⟨k0,k1⟩:=f7 hk;obtain⟨j,rfl⟩:∃ j:Nat,r=((j+1:Nat):Int):=⟨(r-1).toNat,by omega⟩
  have hws:IntKind.u64.wrap (((j+1:Nat):Int)-1)=((j:Nat):Int):=(wrap_u64 J J).trans J;rw[cu] at hk;obtain⟨o,ho⟩:=xj (show j<S.R.length by omega);rw[ho] at hk
  cases o with
  | none=>cases hk
  | some t=>
   obtain⟨v,hv⟩:=Oc hzs ho;have hc:=za0 hv;obtain⟨⟨P1,e1⟩,hu⟩:∃ x,i6 S.P ((j+1:Nat):Int)=x:=⟨_,rfl⟩
   refine yl Tryz.func186 Z Tryz.ntmps186 (np Z) hB ((Zq∘ZX∘Zax∘Z8∘Zb∘ZcE∘ZbT) ?_);refine z7 (kw rfl rfl rfl wo.1 wo.2 (wrap_u64 J J)) rfl ((ZG∘Zf∘Za∘ZcE∘Za∘Zaj∘ZaO∘ZcD∘Zap∘Zo∘Zba∘Z2∘ZcE∘Za) ?_);refine z7 (xh (φ:=RP2 (S.P++[((j+1:Nat):Int)]) 0) L rfl rfl (zn rfl) rfl rfl rfl Te (fun u H hH hle _ v1 h1=>zfu J hpos hz hH h1)) rfl ?_;refine ui 35 rfl fun v1 H1 hs1 hp1=>?_;obtain⟨tv,rfl,htv⟩:=zim hp1;obtain⟨p4,c4,rfl⟩:=ke htv;refine(ZW∘Zbl) ?_;have hrow1:=hrow.le hs1.le;have hrv1:=hrv.le hs1.le;have hpv1:=hpv.le hs1.le
   cases un with
   | false=>
    rw[nc E] at hpn;cases hpn;refine(Zt∘ZK∘ZD∘Zau∘Z0∘Z3∘Za) ?_;refine z7 (yv (cs:=[_,_]) Z Z zbh Z Z) Z (Zaq (h:=?_));refine yk L (rs:=[.cell 6 125,.tmp 7]) Z (fun _ _ h=>h) hs1 fun u H hH hle=>?_;exact⟨_,ya Z,rfl,se ⟨_,_,rfl,⟨zs,hzs,hrow1.le hle,hrv1.le hle⟩,htv.le hle⟩⟩
   | true=>
    rw[na rfl,hu] at hpn;dsimp only at hpn;refine(Zt∘Z1∘ZF∘ZcE∘Za) ?_;refine z7 (xh (φ:=RP2 P1 e1) L rfl rfl (zn rfl) rfl rfl rfl Te (fun u H hH hle _ v1 h1=>Vv hu hz hH h1)) rfl ?_;refine ui 43 rfl fun v1 H2 hs2 hp2=>?_;obtain⟨uv,rfl,huv⟩:=zim hp2;obtain⟨p5,c5,rfl⟩:=ke huv;refine(ZW∘Zbl) ?_;have hrow2:=hrow1.le hs2.le;have hrv2:=hrv1.le hs2.le;have hpv2:=hpv1.le hs2.le;by_cases h0:e1=0
    ·subst h0;rw[na rfl] at hpn;cases hpn;refine(ZD∘Zau∘Z0∘Z3∘Za) ?_;refine z7 (yv (cs:=[_,_]) Z Z zbh Z Z) Z (Zaq (h:=?_));refine yk L (rs:=[.cell 6 125,.tmp 7]) Z (fun _ _ h=>h) (hs1.trans hs2) fun u H hH hle=>?_;exact⟨_,ya Z,rfl,se ⟨_,_,rfl,⟨zs,hzs,hrow2.le hle,hrv2.le hle⟩,huv.le hle⟩⟩
    ·rw[nc h0] at hpn;cases hpn;refine(ZD∘Zac∘Z7∘Zbn∘Za∘Zaq) ?_;refine yk L (rs:=[.cell 6 125,.tmp 7]) Z (fun _ _ h=>h) (hs1.trans hs2) fun u H hH hle=>?_;exact⟨_,ya Z,rfl,se ⟨_,_,rfl,⟨zs,hzs,hrow2.le hle,hrv2.le hle⟩,hpv2.le hle⟩⟩
 ·rw[nc hk] at hpn;cases hpn;by_cases hr:r=0
  ·refine yl Tryz.func186 Z Tryz.ntmps186 (np Z) hB ((Zq∘ZX∘Zax∘Zx∘Za9∘Zaw∘Zf∘Za9∘Zaw∘Zaw∘Zf∘ZaM∘Zbn∘Zaq) ?_);refine yk1 L [.cell 6 125,.tmp 7] fun u H hH hle=>?_;exact⟨_,ya Z,rfl,se ⟨_,_,rfl,⟨zs,hzs,hrow.le hle,hrv.le hle⟩,hpv.le hle⟩⟩
  ·obtain⟨j,rfl⟩:∃ j:Nat,r=((j+1:Nat):Int):=⟨(r-1).toNat,by omega⟩
   have hws:IntKind.u64.wrap (((j+1:Nat):Int)-1)=((j:Nat):Int):=(wrap_u64 J J).trans J;by_cases hjl:j<S.R.length
   ·rw[cu] at hk;obtain⟨o,ho⟩:=xj hjl;rw[ho] at hk
    cases o with
    | some t=>exact ni rfl hk
    | none=>
     obtain⟨v,hv⟩:=Oc hzs ho;have hc:=za0 hv;refine yl Tryz.func186 Z Tryz.ntmps186 (np Z) hB ((Zq∘ZX∘Zax∘Z8∘Zb∘ZcE∘ZbT) ?_);refine z7 (kw Z Z Z wo.1 wo.2 (wrap_u64 J J)) Z ((ZG∘Zf∘Za∘ZcE∘Za∘Zaj∘ZaO∘ZcD∘Zap∘Zo∘Zf∘ZaM∘Zbn∘Zaq) ?_);refine yk1 L [.cell 6 125,.tmp 7] fun u H hH hle=>?_;exact⟨_,ya Z,rfl,se ⟨_,_,rfl,⟨zs,hzs,hrow.le hle,hrv.le hle⟩,hpv.le hle⟩⟩
   ·refine yl Tryz.func186 Z Tryz.ntmps186 (np Z) hB ((Zq∘ZX∘Zax∘Z8∘Zb∘ZcE∘ZbT) ?_);refine z7 (kw Z Z Z wo.1 wo.2 (wrap_u64 J J)) Z ((ZN∘Zf∘Za9∘Zaw∘Zaw∘Zf∘ZaM∘Zbn∘Zaq) ?_);refine yk1 L [.cell 6 125,.tmp 7] fun u H hH hle=>?_;exact⟨_,ya Z,rfl,se ⟨_,_,rfl,⟨zs,hzs,hrow.le hle,hrv.le hle⟩,hpv.le hle⟩⟩
def Uc{f:α->List Value}{l:List α}{x:α}(h:l[i]?=some x)(rest:List Value):l.flatMap f++rest=(l.take i).flatMap f++(f x++((l.drop (i+1)).flatMap f++rest)):=by
 have hi:=get_lt h
 have e:l=l.take i++x::l.drop (i+1):=by
  rw[show x::l.drop (i+1)=l.drop i by rw[zsc hi,ue h],zry]
 conv=>lhs;rw[e,zr5,zsi]
 simp only[mp]
def zod{f:α->List Value}{s:Nat}(hf:∀ a,(f a).length=s){l:List α}{x:α}(h:l[i]?=some x)(y:α)(rest:List Value):(l.flatMap f++rest).take (0+i*s)++(f y++(l.flatMap f++rest).drop (0+i*s+s))=(l.set i y).flatMap f++rest:=by
 have hi:=get_lt h;have hl:((l.take i).flatMap f).length=i*s:=by rw[gk hf,mh,zsv (zs5 hi)]
 have hs:(l.set i y)[i]?=some y:=by rw[zuw hi]
 rw[Uc h rest,Uc hs rest,zvd (nu _),zve (zuk i)];have hx:=hf x;generalize (l.take i).flatMap f=A at hl |-;generalize (l.drop (i+1)).flatMap f++rest=zv9;have e1:(A++(f x++zv9)).take (0+i*s)=A:=by rw[zrw,<-hl];exact zu4
 have e2:(A++(f x++zv9)).drop (0+i*s+s)=zv9:=by
  rw[<-mp,zrw,<-hl];exact List.drop_left' (by rw[nr,hx])
 rw[e1,e2]
def zlu(zs:List Gg)(g:Int):List Gg:=zs.set (g-1).toNat (none,.slice none 0 0)
def By(zs:List Gg)(l:List Int):List Gg:=l.foldl zlu zs
def Yb{zs:List Gg}{g:Int}(h:l[i]?=some g):By zs (l.take (i+1))=zlu (By zs (l.take i)) g:=by
 unfold By;rw[ju h,List.foldl_append];rfl
def zhe(zs:List Gg)(g:Int):(zlu zs g).map (·.1)=clr (zs.map (·.1)) g:=by unfold zlu clr;rw[List.map_set]
def Fv:∀ (l:List Int) (zs:List Gg),(By zs l).map (·.1)=clrL (zs.map (·.1)) l
 | [],_=>rfl
 | g::l,zs=>by
  have:=Fv l (zlu zs g);rw[zhe] at this;exact this
def zd0(l:List Int)(zs:List Gg):(By zs l).length=zs.length:=by
 have:=nh List.length (Fv l zs);rw[mg,cz,mg] at this;exact this
def RowOK.clr{zs:List Gg}(h:RowOK zs H)(g:Int):RowOK (zlu zs g) H:=fun z hz=>by
 rcases List.mem_or_eq_of_mem_set hz with hz | rfl
 ·exact h z hz
 ·exact SlV.nil
def RowOK.clrL:∀ {l:List Int} {zs:List Gg} {H:Heap},RowOK zs H->RowOK (By zs l) H
 | [],_,_,h=>h
 | g::l,_,_,h=>RowOK.clrL (l:=l) (h.clr g)
def Cl10P(S:Sto)(g:List Int)(e:Int):Value->Heap->Prop:=fun v H=>∃ sv gv,v=.tuple #[sv,gv,.int .i64 e]/\RsS S sv H/\RsV g false gv H
def Gd{keep:Int}(hn:S.R.length≠0)(hR:S.R.length<=100000)(hz:S.P.length<=100000)(hB:zwe B w)(hv:RsS S v B):
  Ret zwf 189 [v,.int .i64 keep] w B (Cl10P (cy S keep).1 (cy S keep).2.1 (cy S keep).2.2):=by
 obtain⟨rv,pv,rfl,⟨zs,hzs,hrow,hrv⟩,hpv⟩:=hv;have hzl:zs.length=S.R.length:=by rw[<-hzs,mg]
 obtain⟨p,c,rfl⟩:=ke hrv;obtain⟨p2,c2,rfl⟩:=ke hpv;have hkl:=Fa S.R S.R.length;by_cases hk1:keep<1
 ·have hS:cy S keep=(S,[],4):=by unfold cy;rw[if_neg J]
  rw[hS];refine yl Tryz.func189 Z Tryz.ntmps189 (np Z) hB ((Zq∘ZX∘Zv∘Zax∘ZS∘ZcF∘Zf∘ZaM∘Zbn∘ZaF∘Z4) ?_);refine yk1 L [.cell 4 125,.tmp 5,.tmp 6] fun u H hH hle=>?_;exact⟨_,ya Z,rfl,_,_,rfl,⟨_,_,rfl,⟨zs,hzs,hrow.le hle,hrv.le hle⟩,hpv.le hle⟩,SlV.nil⟩
 ·by_cases hk2:1024<keep
  ·have hS:cy S keep=(S,[],4):=by unfold cy;rw[if_neg J]
   rw[hS];refine yl Tryz.func189 Z Tryz.ntmps189 (np Z) hB ((Zq∘ZX∘Zv∘Zax∘Zab∘Zb∘ZN∘Zf∘ZaM∘Zbn∘ZaF∘Z4) ?_);refine yk1 L [.cell 4 125,.tmp 5,.tmp 6] fun u H hH hle=>?_;exact⟨_,ya Z,rfl,_,_,rfl,⟨_,_,rfl,⟨zs,hzs,hrow.le hle,hrv.le hle⟩,hpv.le hle⟩,SlV.nil⟩
  ·obtain⟨k,rfl⟩:∃ k:Nat,keep=(k:Int):=⟨keep.toNat,by omega⟩
   have hS:cy S k=(⟨clrL S.R (lp S.P (kx S.R) k),S.P⟩,lp S.P (kx S.R) k,0):=by unfold cy;rw[if_pos J];rfl
   rw[hS]
   have hgp:∀ x∈lp S.P (kx S.R) k,0<x/\x<=S.R.length:=fun x hx=>by
    unfold lp at hx;exact f7 (jk.1 (zt4 (zsb.1 hx).1))
   have hgl:(lp S.P (kx S.R) k).length<=100000:=by
    unfold lp;refine mq (zte ..) ?_;rw[mh];have:(kx S.R).length<=S.R.length:=hkl;omega
   generalize hg:lp S.P (kx S.R) k=g at hgp hgl;have hlen:(zs.flatMap rrc).length=zs.length*2:=gk Be zs;have hpl:=Td hrow;refine yl Tryz.func189 Z Tryz.ntmps189 (np Z) hB ((Zq∘ZX∘Zv∘Zax∘Zab∘Zb∘ZG∘Zba) ?_);refine(ZcQ∘ZaA∘ZfL∘Zde) ?_;refine z9 (xh (φ:=RsV (kx S.R) false) L Z Z (zn Z) Z Z Z ns (fun u H hH hle _=>sc hzs J ⟨_,_,_,rfl⟩ hH (hrv.le hle))) Z (Zl (h:=?_));refine z9 (xh (φ:=RsV g false) L Z Z (zn Z) Z Z Z ns (fun u H hH hle _ v1 h1 v2 h2=>by rw[<-hg];exact za2 hz (mq hkl hR) J hH h1 h2)) Z ?_;refine(Zcs∘Zbf) ?_;refine qp (id:=4) [(28,[25]),(100008,[28])] kr T ((ZaA∘ZfL) ?_);refine z9 (StepOK.turn (gt L Z Z Z (oy Z) Z zlp hlen hpl J J) (zik J)) Z (Zbi (h:=?_));refine xo (Bm (q:=25) (X:=zqn 2 zs.length _) (fun x=>[(0,.slice (some ⟨x.1.1,0,none⟩) zs.length x.1.2.1),(1,.slice p2 S.P.length c2)]) (fun x=>[.slice (some ⟨x.1.1,0,none⟩) zs.length x.1.2.1,.slice p2 S.P.length c2]) Z Z Z Z zbh (fun _=>rfl) (fun _=>by rfl)) Z Z ?_;refine z9 (qs L Z Z Z Z) Z (xo (G5 L (q:=28) Z (fun _=>by exact⟨rfl,rfl⟩) Z Z Z Z Z) Z Z ?_);refine(ZaW∘Zd) ?_;refine Aq 8 902 rfl fun x=>?_;obtain⟨b8,⟨b25,cap,rest⟩,hcap,_,hfl⟩:=x
   try dsimp only at hcap hfl |-
   rw[w9];refine ug 902 903 rfl (xi _) ?_;refine(ZF∘Zae) ?_
   refine xu (fun y:Nat=>[(4,.own (Cell [.slice none 0 0,.slice none 0 0] zpk)),(7,.sat (RsV g false)),(8,.is (.pointer (some ⟨b8,0,none⟩))),(9,.is (.int .i64 y)),(902,.own (xr b8 [.slice (some ⟨b25,0,none⟩) zs.length cap,.slice p2 S.P.length c2] zpk)),(903,.own (xr b25 ((By zs (g.take y)).flatMap rrc++rest) tyRr))])
    (fun y=>y<=g.length) (fun y=>g.length-y) 0 (mb _) ⟨rfl,rfl,rfl,rfl,rfl,rfl,nm⟩ ?_
   rintro i hi
   try dsimp only at hi |-
   have hzc:=zd0 (g.take i) zs;by_cases hlt:i<g.length
   ·obtain⟨x,hx⟩:=xj hlt;have hc:=oc hx;have hxp:=hgp x (mz hx);obtain⟨j,rfl⟩:∃ j:Nat,x=((j+1:Nat):Int):=⟨(x-1).toNat,by omega⟩
    have hws:IntKind.u64.wrap (((j+1:Nat):Int)-1)=((j:Nat):Int):=(wrap_u64 J J).trans J;have hwk:IntKind.i64.wrap ((i:Int)+1)=((i+1:Nat):Int):=xb J J;obtain⟨z0,hz0⟩:=xj (show j<(By zs (g.take i)).length by omega);have hst:=zod Be hz0 (none,.slice none 0 0) rest;have hble:Nat.ble (0+j*2+2) ((By zs (g.take i)).flatMap rrc++rest).length=true:=zuj (by rw[nr,gk Be];omega)
    have hnx:(By zs (g.take i)).set j (none,.slice none 0 0)=By zs (g.take (i+1)):=by
     rw[Yb hx];unfold zlu;congr 1;omega
    rw[hnx] at hst;refine(Zd∘ZD∘Zj∘Zbp∘Zbw) ?_;refine qp (id:=8) [(200036,[902]),(100043,[903])] kr T (Zas (h:=?_));refine qy (qk L (q:=902) Z Z Z Z) Z Z ((ZcK∘ZbX∘Zd2) ?_);refine z9 (yv (cs:=[_,_]) Z Z zki Z Z) Z (Zp (h:=?_));refine xw (yq L (q:=903) Z Z hble Z hst) Z ((ZbP∘Z6∘Za4) ?_);exact yr (x:=i) (i+1) hlt J ⟨Z,Z,Z,Z,Z,Z,nm⟩
   ·obtain rfl:i=g.length:=by omega
    rw[m4] at hzc |-;refine(Zd∘ZD∘Zj∘Zb5) ?_;refine wx 903 rfl fun H2 hs2 _ hb25=>?_;refine ZM (h:=?_);refine ye (jd L (q:=902) (vs:=[_,_]) Z Z Z Z ⟨_,rfl⟩) ((Zg∘ZaF∘Zaf∘Zc) ?_);refine yk L (rs:=[.cell 4 125,.tmp 5,.tmp 6]) Z (fun _ _ h=>h) hs2 fun u H hH hle=>?_
    have hrw:RwV (By zs g) (.slice (some ⟨b25,0,none⟩) zs.length cap) H2:=by
     unfold RwV;rw[hzc];refine⟨by rw[gk Be,hzc],.inr ⟨b25,0,cap,_,_,_,rfl,hb25,?_,hcap,fun h=>by cases h⟩⟩;show(((By zs g).flatMap rrc++rest).drop 0).take _=_;rw[zsj];exact zu4
    exact⟨_,ya Z,rfl,fun gv hgv=>⟨_,_,rfl,⟨_,_,rfl,⟨_,by rw[Fv,hzs],((hrow.le hs2.le).clrL).le hle,hrw.le hle⟩,(hpv.le hs2.le).le hle⟩,hgv⟩⟩
abbrev zjq:TypeId:=127
abbrev zmi:TypeId:=219
def BhG(pb b:Nat)(S:Sto):GR:=GEx (fun x:Value×Value=>xd pb [po b,x.1,x.2] zjq) (fun x H=>RlV S.R x.1 H/\RsV S.P false x.2 H) fun _ _ _ ⟨h1,h2⟩ hle=>⟨h1.le hle,h2.le hle⟩
def Mv(pb b:Nat)(S:Sto):(BhG pb b S).res=ExR (fun x:Value×Value=>xr pb [po b,x.1,x.2] zjq) (fun x H=>RlV S.R x.1 H/\RsV S.P false x.2 H) (fun _ _ _ ⟨h1,h2⟩ hle=>⟨h1.le hle,h2.le hle⟩):=rfl
abbrev BoG(pb b:Nat)(S:Sto):GR:=gz (BhG pb b S) (StG b S)
def Sb(pb b:Nat)(S:Sto):(BoG pb b S).res=ej (BhG pb b S).res (StG b S).res:=rfl
def Fy{pb:Nat}(h1:RlV S.R lv B)(h2:RsV S.P false pv B):∀ (v:Value) H u C,B.Le H->(xr pb [po b,lv,pv] zjq).P v H u C->(BhG pb b S).res.P v H u C:=fun _ _ _ _ hle h=>⟨(lv,pv),⟨h1.le hle,h2.le hle⟩,h⟩
def Dq{cs:List Value}(h:StP (fun c _=>c=[po b,lv,pv]) (RsS S) 1 2 cs H):∃ lv' pv',cs=[po b,lv',pv']/\RlV S.R lv' H/\RsV S.P false pv' H:=by
 obtain⟨c,v,rfl,⟨l2,p2,rfl,h1,h2⟩,rfl⟩:=h;exact⟨l2,p2,rfl,h1,h2⟩
def zav(h:RsS S v H):(ja v).length=2/\(ja v).all wz=true:=by
 obtain⟨lv,pv,rfl,⟨zs,_,_,h1⟩,h2⟩:=h;obtain⟨p,c,rfl⟩:=ke h1;obtain⟨p2,c2,rfl⟩:=ke h2;exact⟨rfl,rfl⟩
def OvV(o:OO)(v:Value)(H:Heap):Prop:=∃ mv cv,v=.agg #[.int .u8 o.wh,mv,cv,.int .u8 o.rv,.int .i64 o.kp]/\PS3 o.ms false mv H/\PS3 o.cs false cv H
structure OOK(o:OO):Prop where
 wh:o.wh<=255
 rv:o.rv<=255
 ms:∀ c∈o.ms,c.1<=255/\c.2.1<=255/\c.2.2<=255
 cs:∀ c∈o.cs,c.1<=255/\c.2.1<=255/\c.2.2<=255
 lm:o.ms.length<=9223372036854775807
 lc:o.cs.length<=9223372036854775807
def OOK.rev{o:OO}(h:OOK o):0<=o.rev/\o.rev<18446744073709551616:=by
 have:=h.rv;unfold OO.rev;split<;>omega
def rev_ret{o:OO}(ho:OOK o){mv:Value}(hp1:wz mv=true)(hp2:wz cv=true)(hB:zwe B w):
  Ret zwf 185 [.agg #[.int .u8 o.wh,mv,cv,.int .u8 o.rv,.int .i64 o.kp]] w B (fun v _=>v=.int .u64 o.rev):=by
 have hrv:=ho.rv;unfold OO.rev;refine yl Tryz.func185 Z Tryz.ntmps185 (np Z) hB ?_;by_cases h:o.rv=255
 ·rw[na h];refine(Zq∘Zag∘Z3∘Zx∘ZaM∘Zc) ?_;exact yk2 L [.tmp 2]
 ·rw[nc h];have hwu:IntKind.u64.wrap (o.rv:Int)=(o.rv:Int):=wrap_u64 J J;refine(Zq∘Zag∘Z3∘Zb6∘Z2∘Z3) ?_;refine z7 (kw Z Z Z io.1 io.2 (wrap_u64 J J)) Z (Zc (h:=?_));exact yk2 L [.tmp 2]
def _root_.Zf1(t:Wr Y->A:=by intro h;refine xw (V9 L (q:=900) RsS.mono Z Z Z Z Z (fun _ _ h=>zav h) (np Z)) Z ?_;exact h.1)(h:Y):A:=t ⟨h⟩
def _root_.Zf2(t:Wr Y->A:=by intro h;refine qy (jd L (q:=900) (vs:=[_,_]) Z Z Z Z ⟨_,rfl⟩) Z Z ?_;exact h.1)(h:Y):A:=t ⟨h⟩
def _root_.Zf3(t:Wr Y->A:=by intro h;refine z9 (qg L (vs:=[_,_,_,_,_]) (qz Z) Z Z Z Z ⟨_,rfl⟩) Z ?_;exact h.1)(h:Y):A:=t ⟨h⟩
def _root_.Zf4(t:Wr Y->A:=by intro h;refine z9 (qg L (vs:=[_]) (qz Z) Z Z Z Z ⟨_,rfl⟩) Z ?_;exact h.1)(h:Y):A:=t ⟨h⟩
abbrev zrs:Nat:=119
abbrev Cl10S(S:Sto)(g:List Int)(e:Int):Value->Heap->Prop:=TupS [RsS S,RsV g false,fun v _=>v=.int .i64 e]
def Cl10S.mono{S:Sto}{g:List Int}{e:Int}:Kn.mono (.sat (Cl10S S g e)):=TupS.mono fun ψ hψ=>by
 simp only[nz,zs8,or_false] at hψ;rcases hψ with rfl | rfl | rfl
 ·exact RsS.mono
 ·exact ns
 ·exact fun _ _ _ h _=>h
def Cl10P.tup{g:List Int}(h:Cl10P S g e v H):Cl10S S g e v H:=by
 obtain⟨a,b,rfl,h1,h2⟩:=h;refine⟨[a,b,.int .i64 e],rfl,rfl,fun i ψ x hi hx=>?_⟩;rcases i with _ | _ | _ | i
 ·cases hi;cases hx;exact h1
 ·cases hi;cases hx;exact h2
 ·cases hi;cases hx;rfl
 ·cases hi
def zoh{pb:Nat}{o:OO}(hj:JJ n S)(hn:n<=100)(ho:OOK o){ov:Value}(hB:zwe B w)(hov:OvV o ov B)(hr:(BoG pb b S).P B w C)(hC:ZCB C w B):
  RetY zwf zrs [po pb,ov] w B C (BoG pb b (doS S o)) (fun v _=>v=.int .i64 1):=by
 obtain⟨mv,cv,rfl,hmv,hcv⟩:=hov;obtain⟨p1,c1,rfl⟩:=ke hmv;obtain⟨p2,c2,rfl⟩:=ke hcv;have hI:=hj.I hn;have hne:=hj.ne;have hR:=hj.hR;have hP:=hj.hP;have hem:Int.tmod ((o.wh:Nat):Int) 8=((o.wh%8:Nat):Int):=rfl;have hrev:=ho.rev;unfold RetY;refine yz 900 (BoG pb b S) Tryz.func119 Z Tryz.ntmps119 (np Z) hB hr hC ?_;rw[Sb];refine ZdS (h:=?_);rw[Mv];refine vh 900 rfl fun x H hs0 hφ=>?_;obtain⟨lv,pv⟩:=x;obtain⟨hl,hpv⟩:=hφ;dsimp only at hl hpv |-;replace hmv:=hmv.le hs0.le;replace hcv:=hcv.le hs0.le;have hss:RsS S (.agg #[lv,pv]) H:=⟨lv,pv,rfl,hl,hpv⟩
 have hk8:o.wh%8<8:=ztt _ J;unfold doS;generalize o.wh%8=k at hem hk8 |-;refine(Zq∘Zad∘Ze∘ZL∘Zh∘Z2∘Z3∘ZdL∘Zdq∘Zd) ?_;refine ig (fun _:Unit=>[(0,.is (po pb)),(3,.sat (At [.int .u8 o.wh,.slice p1 o.ms.length c1,.slice p2 o.cs.length c2,.int .u8 o.rv,.int .i64 o.kp] zmi 0)),(4,.is (.int .i64 0)),(5,.is (.int .i64 0)),(6,.is (.int .i64 0)),(13,.is (.int .u8 k)),(49,.is (.bool (decide (k<4)))),(900,.own (xr pb [po b,lv,pv] zjq)),(901,.own (StG b S).res)]) (fun _=>True) (fun _=>[]) ?two ?one
 case one=>
  by_cases h0:k=0
  ·subst h0;refine(ZM∘Zx∘Zcd∘ZbR) ?_;exact jz () nq trivial Z ⟨Z,Z,Z,Z,Z,Z,Z,Z,Z,nm⟩
  ·by_cases h1:k=1
   ·subst h1;refine(ZM∘ZbQ∘ZaH∘Zx∘Zcd∘ZbR) ?_;exact jz () nq trivial Z ⟨Z,Z,Z,Z,Z,Z,Z,Z,Z,nm⟩
   ·by_cases h2:k=2
    ·subst h2;refine(ZM∘ZbQ∘ZaH∘ZbQ∘Zay∘Zx∘Zcd∘ZbR) ?_;exact jz () nq trivial Z ⟨Z,Z,Z,Z,Z,Z,Z,Z,Z,nm⟩
    ·by_cases h3:k=3
     ·subst h3;refine(ZM∘ZbQ∘ZaH∘ZbQ∘Zay∘Z8∘ZcR∘ZQ∘Zx∘ZaT) ?_;exact jz () nq trivial Z ⟨Z,Z,Z,Z,Z,Z,Z,Z,Z,nm⟩
     ·refine(ZM∘ZbQ∘ZaH∘ZbQ∘Zay∘Z8∘ZcR∘ZQ∘Z8∘ZaT) ?_;rw[ng (show ¬ k<4 by omega)];exact jz () nq trivial Z ⟨Z,Z,Z,Z,Z,Z,Z,Z,Z,nm⟩
 rintro _ _;by_cases h4:k<4
 ·rw[nf h4];obtain⟨⟨S',rev,e⟩,hw⟩:∃ x,bg S (dOf o.ms) (dOf o.cs)=x:=⟨_,rfl⟩
  rw[na h4,hw];dsimp only;have hm1:=RsS.mono (S:=S');refine(Zeg∘Zi∘ZU∘ZaI) ?_;refine qp (id:=14) [(200058,[900]),(65,[901])] kr T ((ZaL∘ZaA∘Zf4) ?_);refine z9 (xh (φ:=KS tyM (dOf o.ms) false) L Z Z (zn Z) Z Z Z ns (fun u H hH hle _=>zcl Z ho.ms ho.lm hH (hmv.le hle))) Z ((ZaA∘Zf4) ?_);refine z9 (xh (φ:=KS tyC (dOf o.cs) false) L Z Z (zn Z) Z Z Z ns (fun u H hH hle _=>Rv Z ho.cs ho.lc hH (hcv.le hle))) Z (xo (yj L 901 (StG b S') (.tuple #[.int .u64 rev,.int .i64 e]) (r:=StG b S) Z Z Z Z Z (fun u H2 C2 hH hle hr2 hC2 v1 h1 v2 h2=>tp (A6 hI J hne (Uj _) (Uj _) (mq (Bw _) J) (mq (Bw _) J) hw hH h1 h2 hr2 hC2))) Z Z (Zl (h:=?_)));refine z9 (qe Z Z Z Z) Z (z9 (qe Z Z Z Z) Z ((ZaS∘Zy∘Zi) ?_));refine qp (id:=15) [(200073,[900]),(100085,[900])] kr T ((Zm∘Zbj∘Zf2∘ZaA∘Zf4) ?_);refine z9 (xh (φ:=KS tyM (dOf o.ms) false) L Z Z (zn Z) Z Z Z ns (fun u H hH hle _=>zcl Z ho.ms ho.lm hH (hmv.le hle))) Z ((ZaA∘Zf4) ?_);refine z9 (xh (φ:=KS tyC (dOf o.cs) false) L Z Z (zn Z) Z Z Z ns (fun u H hH hle _=>Rv Z ho.cs ho.lc hH (hcv.le hle))) Z (z9 (xh (φ:=Wr10P S' rev e) L Z Z (zn Z) Z Z Z Wr10P.mono (fun u H hH hle _ v1 h1 v2 h2=>N2 hI J hne hj.ss (Uj _) (Uj _) (mq (Bw _) J) (mq (Bw _) J) hw hH (hss.le hle) h1 h2)) Z ((ZaG∘ZdZ∘Zea∘Zea∘Zbj∘Zf1∘ZaS∘Zy∘Zi) ?_));refine vh 900 rfl fun cs' H1 hs1 hφ=>?_;obtain⟨lv',pv',rfl,hl',hpv'⟩:=Dq hφ;refine(Zal∘Zb∘Zar∘Za1∘Zd∘Zed∘Zb∘Zau∘ZdR∘Zc) ?_;refine wn 900 (BhG pb b S').res Z (Fy hl' hpv') (jy 900 901 rfl Z (xi (StG b S')) ?_);exact w6 L 900 (r:=BoG pb b S') (rs:=[.tmp 4]) Z (fun _ _ h=>h) (hs0.trans hs1) Z Z (fun H hle=>rfl)
 ·rw[ng h4,nc h4];refine Zdp (h:=?_);refine Zi (h:=?_);refine Zi (h:=?_);refine ig (fun _:Unit=>[(0,.is (po pb)),(3,.sat (At [.int .u8 o.wh,.slice p1 o.ms.length c1,.slice p2 o.cs.length c2,.int .u8 o.rv,.int .i64 o.kp] zmi 0)),(4,.is (.int .i64 0)),(5,.is (.int .i64 0)),(6,.is (.int .i64 0)),(13,.is (.int .u8 k)),(89,.is (.bool (decide (k<6)))),(900,.own (xr pb [po b,lv,pv] zjq)),(901,.own (StG b S).res)]) (fun _=>True) (fun _=>[]) ?two2 ?one2
  case one2=>
   by_cases h5:k=4
   ·subst h5;refine(ZaX∘Zx∘Zcd∘ZbR) ?_;exact jz () nq trivial Z ⟨Z,Z,Z,Z,Z,Z,Z,Z,Z,nm⟩
   ·by_cases h6:k=5
    ·subst h6;refine(ZaX∘Z8∘ZcR∘Zc5∘Zx∘ZaT) ?_;exact jz () nq trivial Z ⟨Z,Z,Z,Z,Z,Z,Z,Z,Z,nm⟩
    ·refine(ZaX∘Z8∘ZcR∘Zc5∘Z8∘ZaT) ?_;rw[ng (show ¬ k<6 by omega)];exact jz () nq trivial Z ⟨Z,Z,Z,Z,Z,Z,Z,Z,Z,nm⟩
  rintro _ _;by_cases h6:k<6
  ·rw[nf h6,na h6];obtain⟨⟨S',e⟩,hw⟩:∃ x,V3 S o.rev false=x:=⟨_,rfl⟩
   rw[hw];dsimp only;have hm1:=RsS.mono (S:=S');refine(Zeg∘Zi) ?_;refine qp (id:=20) [(200095,[900]),(98,[901])] kr T ((ZaL∘Zf3) ?_);refine z91 L Z (fun u H hH _=>rev_ret ho Z Z hH) ?_;refine xo (yj L 901 (StG b S') (.int .i64 e) (r:=StG b S) Z Z Z Z Z (fun u H2 C2 hH hle hr2 hC2=>tp (zfo hne J hw hH hr2 hC2))) Z Z (Zy (h:=?_));refine qp (id:=21) [(200104,[900]),(100111,[900])] kr T ((Zm∘Zbj∘Zf2∘Zf3) ?_);refine z91 L Z (fun u H hH _=>rev_ret ho Z Z hH) ?_;refine z9 (xh (φ:=Pn10P S' e) L Z Z (zn Z) Z Z Z Pn10P.mono (fun u H hH hle _=>Gz J hrev.1 hrev.2 J hj.pos hw hH (hss.le hle))) Z ((ZaG∘ZdZ∘Zea∘Zbj∘Zf1∘ZaS∘ZbP∘Zd) ?_);refine vh 900 rfl fun cs' H1 hs1 hφ=>?_;obtain⟨lv',pv',rfl,hl',hpv'⟩:=Dq hφ;refine(Zed∘Zb∘Zau∘ZdR∘Zc) ?_;refine wn 900 (BhG pb b S').res Z (Fy hl' hpv') (jy 900 901 rfl Z (xi (StG b S')) ?_);exact w6 L 900 (r:=BoG pb b S') (rs:=[.tmp 4]) Z (fun _ _ h=>h) (hs0.trans hs1) Z Z (fun H hle=>rfl)
  ·rw[ng h6,nc h6];by_cases h7:k=6
   ·rw[na h7];refine(Zdp∘Zi∘ZcS∘Zx∘Zcd∘Zi) ?_;obtain⟨⟨S',e⟩,hw⟩:∃ x,V3 S o.rev true=x:=⟨_,rfl⟩
    rw[hw];dsimp only;have hm1:=RsS.mono (S:=S');refine qp (id:=23) [(200117,[900]),(120,[901])] kr T ((ZaL∘Zf3) ?_);refine z91 L Z (fun u H hH _=>rev_ret ho Z Z hH) ?_;refine xo (yj L 901 (StG b S') (.int .i64 e) (r:=StG b S) Z Z Z Z Z (fun u H2 C2 hH hle hr2 hC2=>tp (Vm hne J hw hH hr2 hC2))) Z Z (Zy (h:=?_));refine qp (id:=24) [(200126,[900]),(100133,[900])] kr T ((Zm∘Zbj∘Zf2∘Zf3) ?_);refine z91 L Z (fun u H hH _=>rev_ret ho Z Z hH) ?_;refine z9 (xh (φ:=Pn10P S' e) L Z Z (zn Z) Z Z Z Pn10P.mono (fun u H hH hle _=>Gz J hrev.1 hrev.2 J hj.pos hw hH (hss.le hle))) Z ((ZaG∘ZdZ∘Zea∘Zbj∘Zf1∘ZaS∘ZbP∘Zd) ?_);refine vh 900 rfl fun cs' H1 hs1 hφ=>?_;obtain⟨lv',pv',rfl,hl',hpv'⟩:=Dq hφ;refine(Zed∘Zb∘Zau∘ZdR∘Zc) ?_;refine wn 900 (BhG pb b S').res Z (Fy hl' hpv') (jy 900 901 rfl Z (xi (StG b S')) ?_);exact w6 L 900 (r:=BoG pb b S') (rs:=[.tmp 4]) Z (fun _ _ h=>h) (hs0.trans hs1) Z Z (fun H hle=>rfl)
   ·rw[nc h7];refine(Zdp∘Zi∘ZcS∘ZbQ) ?_;obtain⟨⟨S',g,e⟩,hw⟩:∃ x,cy S o.kp=x:=⟨_,rfl⟩
    rw[hw];dsimp only;have hm1:=RsS.mono (S:=S');have hm2:Kn.mono (.sat (RsV g true)):=ns;have hm3:Kn.mono (.sat (RsV g false)):=ns
    have hgl:g.length<=100000:=by
     have h1:=nh (fun x=>x.2.1.length) hw;dsimp only at h1;rw[<-h1];unfold cy;split
     ·refine mq (zte ..) ?_;rw[mh];have:=oq S.R;omega
     ·exact mb _
    refine(ZE∘ZaI) ?_;refine qp (id:=5) [(200018,[900]),(21,[901])] kr T ((ZaL∘Zbi) ?_);refine xo (t5 L 901 (StG b S') (zo5 g e) (r:=StG b S) Z Z Z Z Z (Bg ns) (fun u H2 C2 hH hle hr2 hC2=>by have h:=Ny (keep:=o.kp) hne J J hH hr2 hC2;rw[hw] at h;exact h)) Z Z ?_;refine(ZaG∘ZdZ∘Zea∘Zcs∘Zy∘Zi) ?_;refine qp (id:=6) [(200029,[900]),(100037,[900])] kr T ((Zm∘Zbj∘Zf2∘Zbi) ?_);refine z9 (xh (φ:=Cl10S S' g e) L Z Z (zn Z) Z Z Z Cl10S.mono (fun u H hH hle _=>Ret.mono (by have h:=Gd (keep:=o.kp) hne J J hH (hss.le hle);rw[hw] at h;exact h) fun v H' _ h=>Cl10P.tup h)) Z ?_;refine(ZaG∘ZdZ∘ZdZ∘Zea∘Zbj∘Zf1∘Zcs∘Zy∘Zi) ?_;refine vh 900 rfl fun cs' H1 hs1 hφ=>?_;obtain⟨lv',pv',rfl,hl',hpv'⟩:=Dq hφ;refine(Z7∘Zg∘Zg) ?_;refine z7 (qd L Z Z (zn Z) Z Z Z (fun u H hH hle _ v1 h1 v2 h2=>zaz (f:=true) (nf Z) hgl hgl hH h1 h2)) Z (z7 (yh Z Z Z Z Z) Z ((Za∘Zg) ?_));refine z7 (zb3 L Z Z Z Z) Z ((Zj∘Zar∘Zf∘Za1∘Zd∘Zed∘Zb∘Zau∘ZdR∘Zc) ?_);refine wn 900 (BhG pb b S').res Z (Fy hl' hpv') (jy 900 901 rfl Z (xi (StG b S')) ?_);exact w6 L 900 (r:=BoG pb b S') (rs:=[.tmp 4]) Z (fun _ _ h=>h) (hs0.trans hs1) Z Z (fun H hle=>rfl)
def zm8{R:List (Option (List U))}(h:RlV R lv H):∃ p c,lv=.slice p R.length c:=by
 obtain⟨zs,h1,_,h3⟩:=h;obtain⟨p,c,h4⟩:=ke h3;rw[<-h1,mg];exact⟨p,c,h4⟩
abbrev zrt(S:Sto):Res:=F5 (fun p:Nat×Nat=>po p.1) fun p=>BoG p.1 p.2 S
def zgg(hB:zwe B w):RetO zwf 46 [] w B (zrt newS):=by
 refine wt Tryz.func46 Z Tryz.ntmps46 (np Z) hB (Zw (h:=?_));refine z7 (v6 L rfl rfl (zn rfl) rfl rfl rfl (fun u H hH hle _=>S9 hH)) rfl ?_;refine ix 1 901 rfl fun b=>?_;refine z7 (xh (φ:=RsS newS) L rfl rfl (zn rfl) rfl rfl rfl RsS.mono (fun u H hH hle _=>Vx hH)) rfl ?_;refine ui 2 rfl fun v1 H1 hs1 hv1=>?_;obtain⟨lv,pv,rfl,h1,h2⟩:=hv1;obtain⟨p1,c1,rfl⟩:=zm8 h1;obtain⟨p2,c2,rfl⟩:=ke h2;refine z7 (yv (cs:=[_,_,_]) rfl rfl zpx rfl rfl) rfl (ZdW (h:=?_));refine qf (yo (.inr rfl) rfl) (ZB (h:=?_));refine jg 0 900 rfl fun pb=>?_;refine wn 900 (BhG pb b newS).res Z (Fy h1 h2) (jy 900 901 rfl Z (xi (StG b newS)) ?_);exact U2 0 900 (fun p:Nat×Nat=>po p.1) (fun p=>BoG p.1 p.2 newS) (pb,b) Z Z (dt Z (fun _ _ h=>h) hs1 Z)
end Go.V.L10
namespace Go.V.L10
open Go.V.L2 Go.V.L8 Go.V.L6
def zkb(hn:S.R.length≠0)(hB:zwe B w)(hr:(StG b S).P B w C)(hC:ZCB C w B):
  RetY zwf 87 [po b,.int .u64 r] w B C (StG b S) (WithP (atS S r).1 (atS S r).2):=
 RetY.ex hr fun _ ⟨hm,hes,_⟩ hr=>D7 hm hn hes hB hr hC
def zar(hn:S.R.length≠0)(hz:(kx S.R).length<=100000)(hB:zwe B w)(hr:(StG b S).P B w C)(hC:ZCB C w B):
  RetY zwf 85 [po b] w B C (StG b S) (RsV (kx S.R) true):=
 RetY.ex hr fun _ ⟨hm,_,_⟩ hr=>(ey hm hn (by rw[hm.len];exact hz) hB hr hC).pubY bn
abbrev PinsP(P0:List Int):Value->Heap->Prop:=fun v H=>∃ s,v=pnv s P0.length/\PsV (xf P0) s H
def PinsP.mono{P0:List Int}:Kn.mono (.sat (PinsP P0)):=fun _ _ _ ⟨s,h1,h2⟩ hle=>⟨s,h1,h2.le hle⟩
attribute [local irreducible] V N X VO Par StepOK Has Ret RetL RetO RetT jh RetX RetY Src
def zao(hn:S.R.length≠0)(hB:zwe B w)(hr:(StG b S).P B w C)(hC:ZCB C w B):
  RetY zwf 43 [po b] w B C (StG b S) (PinsP S.P):=by
 refine RetY.ex hr fun x hφ hr=>?_;obtain⟨m,s,es⟩:=x;obtain⟨hm,hes,hps⟩:=hφ;dsimp only at hm hes hps hr |-;obtain⟨p,c,rfl⟩:=ke hps;unfold RetY;refine yz 900 (StO b S.R.length m _ S.P.length es) Tryz.func43 Z Tryz.ntmps43 (np Z) hB hr hC ?_;rw[bu];refine ZdS (h:=?_);refine(ZaB∘Zan∘Zbq) ?_;refine ye (xz L 900 (Φ:=fun H=>H b=some (.cells (stc S.R.length m (.slice p (xf S.P).length c) S.P.length).toArray tyS)) (c:=.bool false) Z Z (zn Z) Z Z Z Z Z Ce (fun u H hH hle hb=>none_ret hn hb hH)) ((Zs∘Zz∘Zam) ?_);refine ye (jd L (q:=900) (vs:=[_,_]) Z Z Z Z ⟨_,rfl⟩) (Za3 (h:=?_));refine ZdF (h:=?_);exact w6 L 900 (r:=StO b S.R.length m (.slice p (xf S.P).length c) S.P.length es) (rs:=[.cell 2 112]) Z (fun _ _ h=>h) nq Z Z (fun H hle=>⟨_,ya Z,rfl,_,rfl,hps.le hle⟩)
abbrev s1:Sto:=⟨[some [],some [d0]],[]⟩
abbrev s2:Sto:=⟨[some [],some [d0],some [d2]],[]⟩
abbrev s3:Sto:=⟨[some [],some [d0],some [d2]],[2]⟩
def zrh{l cs:List CH}(h:JJ n S)(hn:n<=100)(hc:∀ c∈cs,TZ c.1/\tE c.1=0)(hl:cs.length<=30)(hw:bg S l cs=(S',r,e)):JJ (n+1) S':=by
 have h1:=T8 h hn (l:=l) hc hl;rw[hw] at h1;exact h1
end Go.V.L10
namespace Go.V.L10
open Go.V Go.V.L2 Go.V.L8 Go.V.L6
attribute [local irreducible] V N X VO Par StepOK Has Ret RetL RetO RetT jh RetX RetY Src
end Go.V.L10
namespace Go.V.L8
open Go.V Go.V.L2 Go.V.L3 Go.V.L6
attribute [local irreducible] V N X VO Par StepOK Has Ret RetL RetO RetT jh Src
end Go.V.L8
namespace Go.V.L11
open Go.V.L2 Go.V.L4 Go.V.L6 Go.V.L8 Go.V.L10
abbrev WithE(l:List U)(e:Int):Value->Heap->Prop:=TupS [SetV l,fun v _=>v=.int .i64 e]
def WithE.mono{l:List U}{e:Int}:Kn.mono (.sat (WithE l e)):=Bg SetV.mono
def M8{l:List U}(h:WithP l e v H):WithE l e v H:=by
 obtain⟨tv,rfl,h2⟩:=h;exact se h2
def zl8{t:List U}(he:atS S r=(t,e))(hn:S.R.length≠0)(hB:zwe B w)(hr:(StG b S).P B w C)(hC:ZCB C w B):
  RetY zwf 87 [po b,.int .u64 r] w B C (StG b S) (WithE t e):=by
 have h:=zkb (r:=r) hn hB hr hC;rw[he] at h;exact RetY.mono h fun _ _ _=>M8
attribute [local irreducible] V N X VO Par XP LV StepOK Has Ret RetL RetO RetT jh RetX RetY Pan o5 Src
end Go.V.L11
namespace Go.V.L11
open Go.V.L2 Go.V.L3 Go.V.L4 Go.V.L6 Go.V.L8 Go.V.L10
def _root_.ZfZ(t:Wr Y->A:=by intro h;refine z7 (qg L (vs:=[_,_,_,_,_,_]) (qt Z M) Z Z Z Z ⟨_,rfl⟩) Z ?_;exact h.1)(h:Y):A:=t ⟨h⟩
def _root_.Zey(t:Wr Y->A:=by intro h;refine z7 (qg L (vs:=[_,_,_,_,_,_,_]) (qt Z M) Z Z Z Z ⟨_,rfl⟩) Z ?_;exact h.1)(h:Y):A:=t ⟨h⟩
def _root_.Zez(t:Wr Y->A:=by intro h;refine qp (id:=11) [(56,[900])] kr T ?_;exact h.1)(h:Y):A:=t ⟨h⟩
def _root_.Zb2(t:Wr Y->A:=by exact fun h=>(Zak∘ZfZ) h.1)(h:Y):A:=t ⟨h⟩
def zij{sb rb:Nat}{bs:List Nat}{fr:Int}(hb:∀ b∈bs,b<=255)(hl:bs.length<=1099511627776)(hat:R.at_<=bs.length)(hB:zwe B w)(hs:BsV bs fu sv B)(hr:(kq sb rb sv fr R).P B w C)(hC:ZCB C w B):
  RetX zwf 147 [k8 rb] w B C (kq sb rb sv fr (dq bs R).2) (chv (dq bs R).1.1 (dq bs R).1.2):=
 RetL.mono (RetY.conv (RetY.frame (Mk hr) hC fun C1 h1 hC1=>(L4.chg_ret hb hl hat hB hs h1 hC1).toY) fun _ _ _ h=>Mk h:RetY _ _ _ _ _ _ (kq sb rb sv fr (dq bs R).2) fun x _=>x=chv (dq bs R).1.1 (dq bs R).1.2) fun _ _ _ _ h=>h
def zn6:Option U->List Value
 | none=>[.string sZ,.string sZ,.string sZ,.string sZ,.string sZ,.string sZ]
 | some t=>[.string t.1.1.1,.string t.1.1.2,.string t.1.2,.string t.2.1.1,.string t.2.1.2,.string t.2.2]
structure ChJ(bs:List Nat)(l:List U)(n:Nat)(Y:((List CH×List CH)×Rd)×(Int×Int))(i:Nat)(la:Option U)(a d:List CH)(R:Rd):Prop where
 hi:i<=n
 hW:F9 bs l (n-i) la a d R=Y
 h0:R.err=0
 at_:R.at_<=bs.length
 first:la=none↔i=0
 len:a.length+d.length=i
 za:∀ c∈a,TZ c.1
 zd:∀ c∈d,TZ c.1
def ChJ.step{l:List U}{Y:((List CH×List CH)×Rd)×(Int×Int)}{la:Option U}{a d:List CH}(h:ChJ bs l n Y i la a d R)(hi:i<n)(hY:Y.2.2=0):
  (dq bs R).2.err=0/\tE (dq bs R).1.1=0/\zet la (dq bs R).1.1=true/\decide ((dq bs R).1.1∈l)=(dq bs R).1.2/\
  ChJ bs l n Y (i+1) (some (dq bs R).1.1) (if (dq bs R).1.2=true then a else a++[(dq bs R).1]) (if (dq bs R).1.2=true then d++[(dq bs R).1] else d) (dq bs R).2:=by
 obtain⟨m,hm⟩:∃ m,n-i=m+1:=⟨n-i-1,by omega⟩
 have hW:=h.hW;rw[hm] at hW;unfold F9 at hW;have htz:=Rz (bs:=bs) (R:=R);have hta:=R0 (bs:=bs) (R:=R) h.at_;generalize dq bs R=zv9 at hW htz hta |-;obtain⟨⟨t,k⟩,R2⟩:=zv9;dsimp only at hW htz hta |-;by_cases h2:R2.err≠0
 ·rw[na h2] at hW;subst hW;exact ni hY h2
 ·rw[nc h2] at hW;by_cases he:tE t≠0
  ·rw[na he] at hW;subst hW;exact ni hY (show(6:Int)≠0 by decide)
  ·rw[nc he] at hW;by_cases hbh:zet la t=false
   ·rw[na hbh] at hW;subst hW;exact ni hY (show(18:Int)≠0 by decide)
   ·rw[nc hbh] at hW;by_cases hm2:decide (t∈l)≠k
    ·rw[na hm2] at hW;subst hW;exact ni hY (show(5:Int)≠0 by decide)
    ·rw[nc hm2] at hW;refine⟨zru.1 h2,zru.1 he,by cases hq:zet la t<;>simp_all,zru.1 hm2,⟨hi,by rw[show n-(i+1)=m by omega];exact hW,zru.1 h2,hta,⟨fun h=>by(cases h),fun h=>by(cases h)⟩,?_,?_,?_⟩⟩
     ·have:=h.len;cases k
      ·rw[nc E,nc E,nr,zsu];omega
      ·rw[na rfl,na rfl,nr,zsu];omega
     ·intro c hc;cases k
      ·rw[nc E] at hc;rcases mj.1 hc with h3 | h3
       ·exact h.za c h3
       ·rw[my] at h3;subst h3;exact htz
      ·rw[na rfl] at hc;exact h.za c hc
     ·intro c hc;cases k
      ·rw[nc E] at hc;exact h.zd c hc
      ·rw[na rfl] at hc;rcases mj.1 hc with h3 | h3
       ·exact h.zd c h3
       ·rw[my] at h3;subst h3;exact htz
attribute [local irreducible] V N X VO Par XP LV StepOK Has Ret RetL RetO RetT jh RetX RetY Pan o5 Src
def R5{sb rb:Nat}{fr0:Int}{bs:List Nat}{l:List U}(hl0:l.length<=4096)(hb:∀ b∈bs,b<=255)(hl:bs.length<=1099511627776)(hat:R.at_<=bs.length)(he:(Bz bs l R).2.2=0)(hB:zwe B w)(hs:BsV bs fu sv B)(hv:SetV l v B)(hr:(kq sb rb sv fr0 R).P B w C)(hC:ZCB C w B):
  RetY zwf 78 [k8 sb,v] w B C (kq sb rb sv R.at_ (Bz bs l R).1.2) (SetV (Bz bs l R).1.1):=by
 have ha1:=sk (bs:=bs) (lim:=8192) hat;have hlv:=fun h=>re (bs:=bs) (lim:=8192) (R:=R) E h;have hsz:=fun(h:(vk bs 8192 R).2.err=0) {w:World} {B:Heap} {C:Nat->Prop} (hB:zwe B w) (hs:BsV bs fu sv B) (hr:(kq sb rb sv fr0 R).P B w C) (hC:ZCB C w B)=>size_ret (lim:=8192) hb hl hat J h hB hs hr hC;unfold Bz at he |-;obtain⟨z,R1,hz1⟩:∃ z R1,vk bs 8192 R=(z,R1):=⟨_,_,rfl⟩
 rw[hz1] at he ha1 hlv hsz |-;dsimp only at he ha1 hlv hsz |-;by_cases h1:R1.err≠0
 ·rw[na h1] at he;exact ni he h1
 ·rw[nc h1] at he |-;have h10:=zru.1 h1;obtain⟨n,rfl,hn⟩:=hlv h10;rw[zsh] at he |-;obtain⟨Y,hY⟩:∃ Y,F9 bs l n none [] [] R1=Y:=⟨_,rfl⟩
  rw[hY] at he |-;by_cases h2:Y.2.2≠0
  ·rw[na h2] at he;exact ni he h2
  ·rw[nc h2] at he |-;have h20:=zru.1 h2;by_cases h3:l.length+Y.1.1.1.length>4096+Y.1.1.2.length
   ·rw[na h3] at he;exact ni he (show(3:Int)≠0 by decide)
   ·rw[nc h3];dsimp only;obtain⟨f1,p1,k1,q1,rfl,hp1⟩:=hv.shape;have hj0:ChJ bs l n Y 0 none [] [] R1:=⟨mb _,hY,h10,ha1,⟨fun _=>rfl,fun _=>rfl⟩,rfl,(fun _ h=>by cases h),(fun _ h=>by cases h)⟩
    unfold RetY;refine yz 900 (kq sb rb sv fr0 R) Tryz.func78 Z Tryz.ntmps78 (np Z) hB hr hC ((Zby∘Zc4∘ZI∘ZaI∘ZL∘Zc4∘Zz) ?_);refine qf (yj L 900 (kq sb rb sv R.at_ R1) (.int .i64 n) (r:=kq sb rb sv fr0 R) Z Z Z Z Z (fun u H C2 hH hle hr2 hC2=>hsz h10 hH (hs.le hle) hr2 hC2)) (Ze (h:=?_));refine ug (r1:=xr sb [k8 rb,.int .i64 R.at_] Ss) (r2:=(GRd rb sv R1).res) 900 901 rfl (xi _) ?_;refine(Zc0∘Zh∘ZbG∘Zdq) ?_;refine jy 900 901 rfl Z (xi (GRd rb sv R1)) ?_;refine um 5 P7 7 rfl (um 6 P7 7 rfl ?_)
    refine xu (fun x:Nat×Option U×List CH×List CH×Rd×Nat=>[(0,.is (k8 sb)),(3,.own (Cell [f1,.pointer p1,k1,.pointer q1] tySt)),(4,.own (Cell [.nilFunc,.pointer none,.nilFunc,.pointer none] tySt)),(5,.own (SlR P7 7 x.2.2.1.length (x.2.2.1.flatMap ccs))),(6,.own (SlR P7 7 x.2.2.2.1.length (x.2.2.2.1.flatMap ccs))),(7,.own (Cell (zn6 x.2.1) tyU)),(9,.is (.int .i64 R.at_)),(20,.is (.int .i64 n)),(21,.is (.int .i64 x.1)),(900,.own (kq sb rb sv x.2.2.2.2.2 x.2.2.2.2.1).res)])
     (fun x=>ChJ bs l n Y x.1 x.2.1 x.2.2.1 x.2.2.2.1 x.2.2.2.2.1) (fun x=>n-x.1) (0,none,[],[],R1,R.at_) hj0 ⟨rfl,rfl,rfl,rfl,rfl,rfl,rfl,rfl,rfl,rfl,nm⟩ ?_
    rintro⟨i,la,a,d,R',fr⟩ hj;dsimp only at hj |-;by_cases hlt:i<n
    ·obtain⟨g1,g2,g3,g4,hj2⟩:=hj.step hlt h20;have htz:=Rz (bs:=bs) (R:=R');have hRa:=hj.at_;have hfst:=hj.first;have hlen:=hj.len;have hsrc:=fun {w:World} {B:Heap} {C:Nat->Prop} (hB:zwe B w) (hs:BsV bs fu sv B) (hr:(kq sb rb sv R'.at_ R').P B w C) (hC:ZCB C w B)=>zij hb hl hRa hB hs hr hC;generalize dq bs R'=zv9 at g1 g2 g3 g4 hj2 htz hsrc;obtain⟨⟨t,k⟩,R2⟩:=zv9;dsimp only at g1 g2 g3 g4 hj2 htz hsrc;have hsn:∀ x:List CH,(x++[(t,k)]).length=x.length+1:=fun x=>by simp
     refine ug (r1:=xr sb [k8 rb,.int .i64 fr] Ss) (r2:=(GRd rb sv R').res) 900 901 rfl (xi _) ?_
     cases k with
     | true=>
      cases la with
      | none=>
       have hi0:i=0:=hfst.1 rfl;refine(Zbx∘ZA∘Z6∘Ze∘Z0∘ZbI) ?_;refine wd 900 901 rfl Z (xi (GRd rb sv R')) ?_;refine ZaN (h:=?_);refine qf (yj L 900 (kq sb rb sv R'.at_ R2) (chv t true) (r:=kq sb rb sv fr R') Z Z Z Z Z (fun u H C hH hle hr hC=>wg (x:=(t,true)) (fst:=[k8 rb]) (cap:=[]) Z g1 hH hr hC (fun u3 H3 C3 hH3 hle3 hr3 hC3=>hsrc hH3 ((hs.le hle).le hle3) hr3 hC3))) (Zcw (h:=?_));refine jg 11 913 rfl fun b11=>?_;refine wx 913 rfl fun H1 hs1 _ h11=>?_;have hv1:=hv.le hs1.le;refine(Zai∘Zb2) ?_;refine z71 L Z (fun u H hH _=>jf htz hH) ?_;refine Zx (h:=?_);refine qf (xg L 900 (kq sb rb sv R'.at_ R2) (r:=kq sb rb sv R'.at_ R2) Z Z Z Z Z (fun u H C hH _ hr hC=>jb hH hr hC)) ((Zk∘Zcq∘Zx∘Za9∘ZcG) ?_);refine qf (xg L 900 (kq sb rb sv R'.at_ R2) (r:=kq sb rb sv R'.at_ R2) Z Z Z Z Z (fun u H C hH _ hr hC=>jb hH hr hC)) ((Zk∘Zez∘Zl∘ZcY∘Zas∘ZaY) ?_);refine z91 L Z (fun u H hH hle=>wi g4 hH (hv1.le hle)) ?_;refine(Zas∘Z9∘Zd5) ?_;refine xo (xg L 900 (kq sb rb sv R'.at_ R2) (r:=kq sb rb sv R'.at_ R2) Z Z Z Z Z (fun u H C hH _ hr hC=>jb hH hr hC)) Z Z ((Zbf∘ZQ∘Zb2∘ZaF∘Zk∘ZU∘Zak∘Zbd∘Z1∘ZaP) ?_);refine qf (yo (.inl Z) Z) ((Zey∘ZJ∘Zdo) ?_);refine qf (yo (.inr Z) Z) ((Zaz∘Zal∘ZbE) ?_);exact v9 (x:=(i,none,a,d,R',fr)) (i+1,some t,a,d++[(t,true)],R2,R'.at_) hs1 hj2 G ⟨Z,Z,Z,Z,gj Z,Z,Z,Z,Z,Z,nm⟩
      | some y=>
       have hi0:i≠0:=fun h=>by have:=hfst.2 h;cases this
       refine(Zbx∘ZA∘Z6∘Ze∘Z0∘ZbI) ?_;refine wd 900 901 rfl Z (xi (GRd rb sv R')) ?_;refine ZaN (h:=?_);refine qf (yj L 900 (kq sb rb sv R'.at_ R2) (chv t true) (r:=kq sb rb sv fr R') Z Z Z Z Z (fun u H C hH hle hr hC=>wg (x:=(t,true)) (fst:=[k8 rb]) (cap:=[]) Z g1 hH hr hC (fun u3 H3 C3 hH3 hle3 hr3 hC3=>hsrc hH3 ((hs.le hle).le hle3) hr3 hC3))) (Zcw (h:=?_));refine jg 11 913 rfl fun b11=>?_;refine wx 913 rfl fun H1 hs1 _ h11=>?_;have hv1:=hv.le hs1.le;have g3:js y t<0:=nj g3;refine(Zai∘Zb2) ?_;refine z71 L Z (fun u H hH _=>jf htz hH) ?_;refine Zx (h:=?_);refine qf (xg L 900 (kq sb rb sv R'.at_ R2) (r:=kq sb rb sv R'.at_ R2) Z Z Z Z Z (fun u H C hH _ hr hC=>jb hH hr hC)) ((Zk∘Zcq∘Z8∘Za∘Zb1∘Zb2) ?_);refine z71 L Z (fun u H hH _=>vo (a:=y) (b:=t) hH) ?_;refine(ZS∘Zf) ?_;refine qf (xg L 900 (kq sb rb sv R'.at_ R2) (r:=kq sb rb sv R'.at_ R2) Z Z Z Z Z (fun u H C hH _ hr hC=>jb hH hr hC)) ((Zk∘Zez∘Zl∘ZcY∘Zas∘ZaY) ?_);refine z91 L Z (fun u H hH hle=>wi g4 hH (hv1.le hle)) ?_;refine(Zas∘Z9∘Zd5) ?_;refine xo (xg L 900 (kq sb rb sv R'.at_ R2) (r:=kq sb rb sv R'.at_ R2) Z Z Z Z Z (fun u H C hH _ hr hC=>jb hH hr hC)) Z Z ((Zbf∘ZQ∘Zb2∘ZaF∘Zk∘ZU∘Zak∘Zbd∘Z1∘ZaP) ?_);refine qf (yo (.inl Z) Z) ((Zey∘ZJ∘Zdo) ?_);refine qf (yo (.inr Z) Z) ((Zaz∘Zal∘ZbE) ?_);exact v9 (x:=(i,some y,a,d,R',fr)) (i+1,some t,a,d++[(t,true)],R2,R'.at_) hs1 hj2 G ⟨Z,Z,Z,Z,gj Z,Z,Z,Z,Z,Z,nm⟩
     | false=>
      cases la with
      | none=>
       have hi0:i=0:=hfst.1 rfl;refine(Zbx∘ZA∘Z6∘Ze∘Z0∘ZbI) ?_;refine wd 900 901 rfl Z (xi (GRd rb sv R')) ?_;refine ZaN (h:=?_);refine qf (yj L 900 (kq sb rb sv R'.at_ R2) (chv t false) (r:=kq sb rb sv fr R') Z Z Z Z Z (fun u H C hH hle hr hC=>wg (x:=(t,false)) (fst:=[k8 rb]) (cap:=[]) Z g1 hH hr hC (fun u3 H3 C3 hH3 hle3 hr3 hC3=>hsrc hH3 ((hs.le hle).le hle3) hr3 hC3))) (Zcw (h:=?_));refine jg 11 913 rfl fun b11=>?_;refine wx 913 rfl fun H1 hs1 _ h11=>?_;have hv1:=hv.le hs1.le;refine(Zai∘Zb2) ?_;refine z71 L Z (fun u H hH _=>jf htz hH) ?_;refine Zx (h:=?_);refine qf (xg L 900 (kq sb rb sv R'.at_ R2) (r:=kq sb rb sv R'.at_ R2) Z Z Z Z Z (fun u H C hH _ hr hC=>jb hH hr hC)) ((Zk∘Zcq∘Zx∘Za9∘ZcG) ?_);refine qf (xg L 900 (kq sb rb sv R'.at_ R2) (r:=kq sb rb sv R'.at_ R2) Z Z Z Z Z (fun u H C hH _ hr hC=>jb hH hr hC)) ((Zk∘Zez∘Zl∘ZcY∘Zas∘ZaY) ?_);refine z91 L Z (fun u H hH hle=>wi g4 hH (hv1.le hle)) ?_;refine(Zas∘Z9∘Zd5) ?_;refine xo (xg L 900 (kq sb rb sv R'.at_ R2) (r:=kq sb rb sv R'.at_ R2) Z Z Z Z Z (fun u H C hH _ hr hC=>jb hH hr hC)) Z Z ((Zbf∘ZQ∘Zb2∘ZaF∘Zk∘ZU∘Zak∘Zbd∘Zao∘Zat) ?_);refine qf (yo (.inl Z) Z) ((Zey∘ZJ∘Zdo) ?_);refine qf (yo (.inr Z) Z) ((Zaz∘Zal∘ZbE) ?_);exact v9 (x:=(i,none,a,d,R',fr)) (i+1,some t,a++[(t,false)],d,R2,R'.at_) hs1 hj2 G ⟨Z,Z,Z,gj Z,Z,Z,Z,Z,Z,Z,nm⟩
      | some y=>
       have hi0:i≠0:=fun h=>by have:=hfst.2 h;cases this
       refine(Zbx∘ZA∘Z6∘Ze∘Z0∘ZbI) ?_;refine wd 900 901 rfl Z (xi (GRd rb sv R')) ?_;refine ZaN (h:=?_);refine qf (yj L 900 (kq sb rb sv R'.at_ R2) (chv t false) (r:=kq sb rb sv fr R') Z Z Z Z Z (fun u H C hH hle hr hC=>wg (x:=(t,false)) (fst:=[k8 rb]) (cap:=[]) Z g1 hH hr hC (fun u3 H3 C3 hH3 hle3 hr3 hC3=>hsrc hH3 ((hs.le hle).le hle3) hr3 hC3))) (Zcw (h:=?_));refine jg 11 913 rfl fun b11=>?_;refine wx 913 rfl fun H1 hs1 _ h11=>?_;have hv1:=hv.le hs1.le;have g3:js y t<0:=nj g3;refine(Zai∘Zb2) ?_;refine z71 L Z (fun u H hH _=>jf htz hH) ?_;refine Zx (h:=?_);refine qf (xg L 900 (kq sb rb sv R'.at_ R2) (r:=kq sb rb sv R'.at_ R2) Z Z Z Z Z (fun u H C hH _ hr hC=>jb hH hr hC)) ((Zk∘Zcq∘Z8∘Za∘Zb1∘Zb2) ?_);refine z71 L Z (fun u H hH _=>vo (a:=y) (b:=t) hH) ?_;refine(ZS∘Zf) ?_;refine qf (xg L 900 (kq sb rb sv R'.at_ R2) (r:=kq sb rb sv R'.at_ R2) Z Z Z Z Z (fun u H C hH _ hr hC=>jb hH hr hC)) ((Zk∘Zez∘Zl∘ZcY∘Zas∘ZaY) ?_);refine z91 L Z (fun u H hH hle=>wi g4 hH (hv1.le hle)) ?_;refine(Zas∘Z9∘Zd5) ?_;refine xo (xg L 900 (kq sb rb sv R'.at_ R2) (r:=kq sb rb sv R'.at_ R2) Z Z Z Z Z (fun u H C hH _ hr hC=>jb hH hr hC)) Z Z ((Zbf∘ZQ∘Zb2∘ZaF∘Zk∘ZU∘Zak∘Zbd∘Zao∘Zat) ?_);refine qf (yo (.inl Z) Z) ((Zey∘ZJ∘Zdo) ?_);refine qf (yo (.inr Z) Z) ((Zaz∘Zal∘ZbE) ?_);exact v9 (x:=(i,some y,a,d,R',fr)) (i+1,some t,a++[(t,false)],d,R2,R'.at_) hs1 hj2 G ⟨Z,Z,Z,gj Z,Z,Z,Z,Z,Z,Z,nm⟩
    ·obtain rfl:i=n:=by have:=hj.hi;omega
     have hW:=hj.hW;rw[zsx] at hW;have hW2:(((a,d),R'),((0:Int),(0:Int)))=Y:=hW;subst hW2;dsimp only at h3 |-;have hlen:=hj.len;have hza:=hj.za;have hzd:=hj.zd;have hdl:(d++a).length<=8192:=by rw[nr];omega
     have hda:d.length+a.length<=8192:=J;have hpl:=Un a;have hln:=Fs a
     have hzda:∀ c∈d++a,TZ c.1:=fun c hc=>by
      rcases mj.1 hc with h | h
      ·exact hzd c h
      ·exact hza c h
     refine ug (r1:=xr sb [k8 rb,.int .i64 fr] Ss) (r2:=(GRd rb sv R').res) 900 901 rfl (xi _) ?_;refine uz 5 rfl ?_;refine M0 6 931 _ Z SlR.shape fun z6 hz6=>?_;obtain⟨p6,c6,rfl⟩:=hz6;refine(Zbx∘Zbh∘Zbm∘Zcm) ?_;refine xm (yq L (q:=900) (cs':=[k8 rb,.int .i64 R.at_]) Z Z Z Z Z) ((Zk∘ZaX∘Za∘Zcx) ?_);refine z71 L Z (fun u H hH hle=>lw (l:=l) Z hH (hv.le hle)) ?_;refine(Zj∘ZcZ∘Za∘Zbo∘ZcW∘Zda) ?_;refine wd 900 901 rfl Z (xi (GRd rb sv R')) ?_;refine qf (xg L 900 (kq sb rb sv R.at_ R') (r:=kq sb rb sv R.at_ R') Z Z Z Z Z (fun u H C2 hH _ hr2 hC2=>jb hH hr2 hC2)) (Zan (h:=?_));refine U4 6 931 rfl Z (Zc5 (h:=?_));refine qf (yo (.inl Z) Z) (ZfV (h:=?_));refine iw 87 rfl ((ZbT∘Zb3) ?_);refine o3 (X:=SXp) 3 (r:=fun x=>Cell (scs x.1) tySt) (φ:=Kp l) (we l) ⟨(f1,p1,k1,q1),hp1⟩ hv Z (xu (fun j:Nat=>[(3,.own (ExR (fun x:SXp=>Cell (scs x.1) tySt) (Kp (Ay l ((d++a).take j))) (we _))),(4,.own (Cell [.nilFunc,.pointer none,.nilFunc,.pointer none] tySt)),(87,.sat (KS P7 (d++a) false)),(88,.is (.int .i64 (d++a).length)),(89,.is (.int .i64 j)),(900,.own (kq sb rb sv R.at_ R').res)]) (fun j=>j<=(d++a).length) (fun j=>(d++a).length-j) 0 (mb _) ⟨Z,Z,by show _=some (Kn.sat (SlV P7 7 ((d++a).flatMap ccs) (d++a).length false));rw[nr,zr5];rfl,by rw[nr];rfl,Z,Z,nm⟩ ?_);rintro j hjl;refine vh 3 rfl fun x H1 hs1 hset=>?_;obtain⟨⟨f,p,f',p'⟩,hpl⟩:=x;dsimp only[scs] at hset hpl |-;by_cases hjt:j<(d++a).length
     ·obtain⟨c,hc⟩:=xj hjt;have hcc:=rq hc;have hzc:=hzda c (mz hc);have hlen4:=Mx ((d++a).take j) hl0;have happ:=zeh l hc;obtain⟨m,e,hme⟩:∃ m e,uh (Ay l ((d++a).take j)) c.1 c.2=(m,e):=⟨_,_,rfl⟩
      rw[hme] at happ;have hms:Kn.mono (.sat (SetV m)):=SetV.mono;have hme0:Kn.mono (.sat (fun(v:Value) (_:Heap)=>v=.int .i64 e)):=fun _ _ _ h _=>h;refine(Zi∘Zbg∘ZA∘Zcv∘ZaO∘ZcO∘Zbr∘ZB∘ZcS∘Zcx∘Zd4) ?_;refine z7 (xh (φ:=WithE m e) L Z Z (zn Z) Z Z Z WithE.mono (fun u H hH hle _=>(Gi hme hlen4 hzc hH (hset.le hle)).mono fun _ _ _=>M8)) Z ((Zg∘Zdd∘Zc3) ?_);refine z7 (au L (X:=SXp) (fun x=>scs x.1) (Kp m) (we _) Nx (fun x=>⟨rfl,x.2⟩) Z Z Z Z Z) Z ((Zaz∘Zec∘ZbE) ?_);exact v9 (x:=j) (j+1) hs1 hjt J ⟨by rw[happ];rfl,Z,Z,Z,Z,Z,nm⟩
     ·obtain rfl:j=(d++a).length:=by omega
      rw[m4] at hset;refine(Zi∘Zbg∘Zbh∘ZdE∘Zcx∘ZcN∘ZB) ?_;exact w6 L 900 (r:=kq sb rb sv R.at_ R') (rs:=[.cell 4 tySt]) Z (fun _ _ h=>h) hs1 Z Z (fun H hle=>o8 (ya Z) Z Z (hset.le hle))
def _root_.Ze0(t:Wr Y->A:=by intro h;refine wq (qb L Z Z Z Z) Z ?_;exact h.1)(h:Y):A:=t ⟨h⟩
def _root_.Zf5(t:Wr Y->A:=by intro h;refine wq (qg L (vs:=[_,_,_,_]) (ya Z) Z Z Z Z ⟨_,rfl⟩) Z ?_;exact h.1)(h:Y):A:=t ⟨h⟩
def _root_.Zf6(t:Wr Y->A:=by intro h;refine H7 (id:=11) 8 [(56,[900])] kr Z T ?_;exact h.1)(h:Y):A:=t ⟨h⟩
def _root_.ZeQ(t:Wr Y->A:=by intro h;refine wq (z8 Z Z Z) Z ?_;exact h.1)(h:Y):A:=t ⟨h⟩
def _root_.Zf7(t:Wr Y->A:=by intro h;refine wq (zb6 Z Z Z Z bt4 Z) Z ?_;exact h.1)(h:Y):A:=t ⟨h⟩
def R7{sb rb:Nat}{fr0:Int}{bs:List Nat}{l:List U}(hl0:l.length<=4096)(hb:∀ b∈bs,b<=255)(hl:bs.length<=1099511627776)(hat:R.at_<=bs.length)(he:(Bz bs l R).2.2≠0)(hB:zwe B w)(hs:BsV bs fu sv B)(hv:SetV l v B)(hr:(kq sb rb sv fr0 R).P B w C)(hC:ZCB C w B):
  Pan zwf 78 [k8 sb,v] w B C (wrV (Bz bs l R).2.1 (Bz bs l R).2.2):=by
 have ha1:=sk (bs:=bs) (lim:=8192) hat;have hlv:=fun h=>re (bs:=bs) (lim:=8192) (R:=R) E h;have hsz:=fun(h:(vk bs 8192 R).2.err=0) {w:World} {B:Heap} {C:Nat->Prop} (hB:zwe B w) (hs:BsV bs fu sv B) (hr:(kq sb rb sv fr0 R).P B w C) (hC:ZCB C w B)=>size_ret (lim:=8192) hb hl hat J h hB hs hr hC;have hszp:=fun(h:(vk bs 8192 R).2.err≠0) {w:World} {B:Heap} {C:Nat->Prop} (hB:zwe B w) (hs:BsV bs fu sv B) (hr:(kq sb rb sv fr0 R).P B w C) (hC:ZCB C w B)=>Kr (lim:=8192) hb hl hat J h hB hs hr hC;obtain⟨f1,p1,k1,q1,rfl,hp1⟩:=hv.shape;refine lu 900 (kq sb rb sv fr0 R) Tryz.func78 Z Tryz.ntmps78 (np Z) hB hr hC ?_;unfold Bz at he |-;obtain⟨z,R1,hz1⟩:∃ z R1,vk bs 8192 R=(z,R1):=⟨_,_,rfl⟩
 rw[hz1] at he ha1 hlv hsz hszp |-;dsimp only at he ha1 hlv hsz hszp |-;by_cases h1:R1.err≠0
 ·rw[na h1];refine(Zby∘Zc4∘ZI∘ZaI∘ZL∘Zc4) ?_;refine wm (id:=3) 1 rfl (ZcH (h:=?_));refine wj (r:=(kq sb rb sv fr0 R).res) (zwd:=1) L 900 rfl Z Z Z Z (fun u H C hH hle hr hC=>hszp h1 hH (hs.le hle) hr hC) (fun _ _ _ _ h=>h) ?_
  repeat (first | refine w7 ?_ | refine wc ?_)
  exact cd nq
 ·rw[nc h1] at he |-;have h10:=zru.1 h1;obtain⟨n,rfl,hn⟩:=hlv h10;rw[zsh] at he |-;obtain⟨Y,hY⟩:∃ Y,F9 bs l n none [] [] R1=Y:=⟨_,rfl⟩
  rw[hY] at he |-;obtain⟨pa,pe,hW0⟩:∃ pa pe:Int,(if Y.2.2≠0 then ((l,R),Y.2) else if l.length+Y.1.1.1.length>4096+Y.1.1.2.length then ((l,R),((R.at_:Int),(3:Int))) else ((Ay l (Y.1.1.2++Y.1.1.1),Y.1.2),((0:Int),(0:Int)))).2=(pa,pe):=⟨_,_,rfl⟩
  rw[hW0] at he |-;dsimp only at he |-;have hj0:ChJ bs l n Y 0 none [] [] R1:=⟨mb _,hY,h10,ha1,⟨fun _=>rfl,fun _=>rfl⟩,rfl,(fun _ h=>by cases h),(fun _ h=>by cases h)⟩
  refine(Zby∘Zc4∘ZI∘ZaI∘ZL∘Zc4∘Zz) ?_;refine qf (yj L 900 (kq sb rb sv R.at_ R1) (.int .i64 n) (r:=kq sb rb sv fr0 R) Z Z Z Z Z (fun u H C2 hH hle hr2 hC2=>hsz h10 hH (hs.le hle) hr2 hC2)) (Ze (h:=?_));refine ug (r1:=xr sb [k8 rb,.int .i64 R.at_] Ss) (r2:=(GRd rb sv R1).res) 900 901 rfl (xi _) ?_;refine(Zc0∘Zh∘ZbG∘Zdq) ?_;refine jy 900 901 rfl Z (xi (GRd rb sv R1)) ?_;refine um 5 P7 7 rfl (um 6 P7 7 rfl ?_)
  refine xu (fun x:Nat×Option U×List CH×List CH×Rd×Nat=>[(0,.is (k8 sb)),(3,.own (Cell [f1,.pointer p1,k1,.pointer q1] tySt)),(4,.own (Cell [.nilFunc,.pointer none,.nilFunc,.pointer none] tySt)),(5,.own (SlR P7 7 x.2.2.1.length (x.2.2.1.flatMap ccs))),(6,.own (SlR P7 7 x.2.2.2.1.length (x.2.2.2.1.flatMap ccs))),(7,.own (Cell (zn6 x.2.1) tyU)),(9,.is (.int .i64 R.at_)),(20,.is (.int .i64 n)),(21,.is (.int .i64 x.1)),(900,.own (kq sb rb sv x.2.2.2.2.2 x.2.2.2.2.1).res)])
   (fun x=>ChJ bs l n Y x.1 x.2.1 x.2.2.1 x.2.2.2.1 x.2.2.2.2.1) (fun x=>n-x.1) (0,none,[],[],R1,R.at_) hj0 ⟨rfl,rfl,rfl,rfl,rfl,rfl,rfl,rfl,rfl,rfl,nm⟩ ?_
  rintro⟨i,la,a,d,R',fr⟩ hj;dsimp only at hj |-;by_cases hlt:i<n
  ·have hstep:=fun(h:Y.2.2=0)=>hj.step hlt h;obtain⟨m,hm⟩:∃ m,n-i=m+1:=⟨n-i-1,by omega⟩
   have hW:=hj.hW;rw[hm] at hW;unfold F9 at hW;have htz:=Rz (bs:=bs) (R:=R');have hta:=R0 (bs:=bs) (R:=R') hj.at_;have hRa:=hj.at_;have hfst:=hj.first;have hlen:=hj.len;have hza:=hj.za;have hzd:=hj.zd;have hsrc:=fun {w:World} {B:Heap} {C:Nat->Prop} (hB:zwe B w) (hs:BsV bs fu sv B) (hr:(kq sb rb sv R'.at_ R').P B w C) (hC:ZCB C w B)=>zij hb hl hRa hB hs hr hC;clear hstep;generalize dq bs R'=zv9 at hW htz hta hsrc;obtain⟨⟨t,k⟩,R2⟩:=zv9;dsimp only at hW htz hta hsrc;refine ug (r1:=xr sb [k8 rb,.int .i64 fr] Ss) (r2:=(GRd rb sv R').res) 900 901 rfl (xi _) ?_;by_cases h2:R2.err≠0
   ·rw[na h2] at hW;subst hW;rw[na h2] at hW0;cases hW0;refine(Zbx∘ZA∘Z6∘Ze) ?_;refine wm (id:=8) 6 rfl (ZbI (h:=?_));refine wd 900 901 rfl Z (xi (GRd rb sv R')) ?_;refine(ZaN∘Zah) ?_;refine wj (r:=(kq sb rb sv fr R').res) (zwd:=6) L 900 rfl Z Z Z Z (fun u H C hH hle hr hC=>Q2 (x:=(t,k)) (fst:=[k8 rb]) (cap:=[]) Z h2 hH hr hC (fun u3 H3 C3 hH3 hle3 hr3 hC3=>hsrc hH3 ((hs.le hle).le hle3) hr3 hC3)) (fun _ _ _ _ h=>h) ?_
    repeat (first | refine w7 ?_ | refine wc ?_)
    exact cd nq
   ·rw[nc h2] at hW;have g1:=zru.1 h2;by_cases hte:tE t≠0
    ·rw[na hte] at hW;subst hW;rw[na (show(6:Int)≠0 by decide)] at hW0;cases hW0;refine(Zbx∘ZA∘Z6∘Ze∘Z0∘ZbI) ?_;refine wd 900 901 rfl Z (xi (GRd rb sv R')) ?_;refine ZaN (h:=?_);refine qf (yj L 900 (kq sb rb sv R'.at_ R2) (chv t k) (r:=kq sb rb sv fr R') Z Z Z Z Z (fun u H C hH hle hr hC=>wg (x:=(t,k)) (fst:=[k8 rb]) (cap:=[]) Z g1 hH hr hC (fun u3 H3 C3 hH3 hle3 hr3 hC3=>hsrc hH3 ((hs.le hle).le hle3) hr3 hC3))) (Zcw (h:=?_));refine jg 11 913 rfl fun b11=>?_;refine wx 913 rfl fun H1 hs1 _ h11=>?_;have hv1:=hv.le hs1.le;refine wm (id:=9) 5 rfl ((Za∘Zb2) ?_);refine z71 L Z (fun u H hH _=>jf htz hH) ?_;refine(Z8∘Zah) ?_;refine wj (r:=(kq sb rb sv R'.at_ R2).res) (zwd:=5) L 900 rfl Z Z Z Z (fun u H C hH hle hr hC=>l6 hH hr hC) (fun _ _ _ _ h=>h) ?_
     repeat (first | refine w7 ?_ | refine wc ?_)
     exact cd hs1
    ·rw[nc hte] at hW;have g2:=zru.1 hte
     cases la with
     | none=>
      have hi0:i=0:=hfst.1 rfl;have hbt:zet none t=true:=rfl;rw[hbt,nc E] at hW
      cases k with
      | true=>
       by_cases hm2:decide (t∈l)≠true
       ·rw[na hm2] at hW;subst hW;rw[na (show(5:Int)≠0 by decide)] at hW0;cases hW0;have g4:decide (t∈l)=false:=by cases hq:decide (t∈l)<;>simp_all
        refine(Zbx∘ZA∘Z6∘Ze∘Z0∘ZbI) ?_;refine wd 900 901 rfl Z (xi (GRd rb sv R')) ?_;refine ZaN (h:=?_);refine qf (yj L 900 (kq sb rb sv R'.at_ R2) (chv t true) (r:=kq sb rb sv fr R') Z Z Z Z Z (fun u H C hH hle hr hC=>wg (x:=(t,true)) (fst:=[k8 rb]) (cap:=[]) Z g1 hH hr hC (fun u3 H3 C3 hH3 hle3 hr3 hC3=>hsrc hH3 ((hs.le hle).le hle3) hr3 hC3))) (Zcw (h:=?_));refine jg 11 913 rfl fun b11=>?_;refine wx 913 rfl fun H1 hs1 _ h11=>?_;have hv1:=hv.le hs1.le;refine(Zai∘Zb2) ?_;refine z71 L Z (fun u H hH _=>jf htz hH) ?_;refine Zx (h:=?_);refine qf (xg L 900 (kq sb rb sv R'.at_ R2) (r:=kq sb rb sv R'.at_ R2) Z Z Z Z Z (fun u H C hH _ hr hC=>jb hH hr hC)) ((Zk∘Zcq∘Zx∘Za9∘ZcG) ?_);refine qf (xg L 900 (kq sb rb sv R'.at_ R2) (r:=kq sb rb sv R'.at_ R2) Z Z Z Z Z (fun u H C hH _ hr hC=>jb hH hr hC)) (Zk (h:=?_));refine Zf6 (h:=?_);refine ZeQ (h:=?_);refine Zf5 (h:=?_);refine Ze0 (h:=?_);refine wq (qg L (vs:=[_,_,_,_,_,_]) (qt Z h11) Z Z Z Z ⟨_,rfl⟩) Z (wq (qd L Z Z (zn Z) Z Z Z (fun u H hH hle _=>wi g4 hH (hv1.le hle))) Z (Ze0 (h:=?_)));refine wq (ql L (qt Z h11) Z Z Z Z) Z (Zf7 (h:=?_));refine tu [(48,.is (k8 sb)),(55,.is (.bool false)),(900,.own (kq sb rb sv R'.at_ R2).res)] T ⟨Z,Z,Z,nm⟩ (wj (r:=(kq sb rb sv R'.at_ R2).res) (zwd:=8) L 900 rfl Z Z Z Z (fun u H C hH hle hr hC=>l6 hH hr hC) (fun _ _ _ _ h=>h) ?_)
        repeat (first | refine w7 ?_ | refine wc ?_)
        exact cd hs1
       ·rw[nc hm2] at hW;have g4:=zru.1 hm2;have hj2:ChJ bs l n Y (i+1) (some t) (a) (d++[(t,true)]) R2:=⟨hlt,by rw[show n-(i+1)=m by omega];exact hW,g1,hta,⟨fun h=>by(cases h),fun h=>by(cases h)⟩,by simp only[nr,zsu];omega,hza,fun c hc=>by(rcases mj.1 hc with h3 | h3;exact hzd c h3;rw[my] at h3;subst h3;exact htz)⟩
        refine(Zbx∘ZA∘Z6∘Ze∘Z0∘ZbI) ?_;refine wd 900 901 rfl Z (xi (GRd rb sv R')) ?_;refine ZaN (h:=?_);refine qf (yj L 900 (kq sb rb sv R'.at_ R2) (chv t true) (r:=kq sb rb sv fr R') Z Z Z Z Z (fun u H C hH hle hr hC=>wg (x:=(t,true)) (fst:=[k8 rb]) (cap:=[]) Z g1 hH hr hC (fun u3 H3 C3 hH3 hle3 hr3 hC3=>hsrc hH3 ((hs.le hle).le hle3) hr3 hC3))) (Zcw (h:=?_));refine jg 11 913 rfl fun b11=>?_;refine wx 913 rfl fun H1 hs1 _ h11=>?_;have hv1:=hv.le hs1.le;refine(Zai∘Zb2) ?_;refine z71 L Z (fun u H hH _=>jf htz hH) ?_;refine Zx (h:=?_);refine qf (xg L 900 (kq sb rb sv R'.at_ R2) (r:=kq sb rb sv R'.at_ R2) Z Z Z Z Z (fun u H C hH _ hr hC=>jb hH hr hC)) ((Zk∘Zcq∘Zx∘Za9∘ZcG) ?_);refine qf (xg L 900 (kq sb rb sv R'.at_ R2) (r:=kq sb rb sv R'.at_ R2) Z Z Z Z Z (fun u H C hH _ hr hC=>jb hH hr hC)) ((Zk∘Zez∘Zl∘ZcY∘Zas∘ZaY) ?_);refine z91 L Z (fun u H hH hle=>wi g4 hH (hv1.le hle)) ?_;refine(Zas∘Z9∘Zd5) ?_;refine xo (xg L 900 (kq sb rb sv R'.at_ R2) (r:=kq sb rb sv R'.at_ R2) Z Z Z Z Z (fun u H C hH _ hr hC=>jb hH hr hC)) Z Z ((Zbf∘ZQ∘Zb2∘ZaF∘Zk∘ZU∘Zak∘Zbd∘Z1∘ZaP) ?_);refine qf (yo (.inl Z) Z) ((Zey∘ZJ∘Zdo) ?_);refine qf (yo (.inr Z) Z) ((Zaz∘Zal∘ZbE) ?_);exact v9 (x:=(i,none,a,d,R',fr)) (i+1,some t,a,d++[(t,true)],R2,R'.at_) hs1 hj2 G ⟨Z,Z,Z,Z,gj Z,Z,Z,Z,Z,Z,nm⟩
      | false=>
       by_cases hm2:decide (t∈l)≠false
       ·rw[na hm2] at hW;subst hW;rw[na (show(5:Int)≠0 by decide)] at hW0;cases hW0;have g4:decide (t∈l)=true:=by cases hq:decide (t∈l)<;>simp_all
        refine(Zbx∘ZA∘Z6∘Ze∘Z0∘ZbI) ?_;refine wd 900 901 rfl Z (xi (GRd rb sv R')) ?_;refine ZaN (h:=?_);refine qf (yj L 900 (kq sb rb sv R'.at_ R2) (chv t false) (r:=kq sb rb sv fr R') Z Z Z Z Z (fun u H C hH hle hr hC=>wg (x:=(t,false)) (fst:=[k8 rb]) (cap:=[]) Z g1 hH hr hC (fun u3 H3 C3 hH3 hle3 hr3 hC3=>hsrc hH3 ((hs.le hle).le hle3) hr3 hC3))) (Zcw (h:=?_));refine jg 11 913 rfl fun b11=>?_;refine wx 913 rfl fun H1 hs1 _ h11=>?_;have hv1:=hv.le hs1.le;refine(Zai∘Zb2) ?_;refine z71 L Z (fun u H hH _=>jf htz hH) ?_;refine Zx (h:=?_);refine qf (xg L 900 (kq sb rb sv R'.at_ R2) (r:=kq sb rb sv R'.at_ R2) Z Z Z Z Z (fun u H C hH _ hr hC=>jb hH hr hC)) ((Zk∘Zcq∘Zx∘Za9∘ZcG) ?_);refine qf (xg L 900 (kq sb rb sv R'.at_ R2) (r:=kq sb rb sv R'.at_ R2) Z Z Z Z Z (fun u H C hH _ hr hC=>jb hH hr hC)) (Zk (h:=?_));refine Zf6 (h:=?_);refine ZeQ (h:=?_);refine Zf5 (h:=?_);refine Ze0 (h:=?_);refine wq (qg L (vs:=[_,_,_,_,_,_]) (qt Z h11) Z Z Z Z ⟨_,rfl⟩) Z (wq (qd L Z Z (zn Z) Z Z Z (fun u H hH hle _=>wi g4 hH (hv1.le hle))) Z (Ze0 (h:=?_)));refine wq (ql L (qt Z h11) Z Z Z Z) Z (Zf7 (h:=?_));refine tu [(48,.is (k8 sb)),(55,.is (.bool false)),(900,.own (kq sb rb sv R'.at_ R2).res)] T ⟨Z,Z,Z,nm⟩ (wj (r:=(kq sb rb sv R'.at_ R2).res) (zwd:=8) L 900 rfl Z Z Z Z (fun u H C hH hle hr hC=>l6 hH hr hC) (fun _ _ _ _ h=>h) ?_)
        repeat (first | refine w7 ?_ | refine wc ?_)
        exact cd hs1
       ·rw[nc hm2] at hW;have g4:=zru.1 hm2;have hj2:ChJ bs l n Y (i+1) (some t) (a++[(t,false)]) (d) R2:=⟨hlt,by rw[show n-(i+1)=m by omega];exact hW,g1,hta,⟨fun h=>by(cases h),fun h=>by(cases h)⟩,by simp only[nr,zsu];omega,fun c hc=>by(rcases mj.1 hc with h3 | h3;exact hza c h3;rw[my] at h3;subst h3;exact htz),hzd⟩
        refine(Zbx∘ZA∘Z6∘Ze∘Z0∘ZbI) ?_;refine wd 900 901 rfl Z (xi (GRd rb sv R')) ?_;refine ZaN (h:=?_);refine qf (yj L 900 (kq sb rb sv R'.at_ R2) (chv t false) (r:=kq sb rb sv fr R') Z Z Z Z Z (fun u H C hH hle hr hC=>wg (x:=(t,false)) (fst:=[k8 rb]) (cap:=[]) Z g1 hH hr hC (fun u3 H3 C3 hH3 hle3 hr3 hC3=>hsrc hH3 ((hs.le hle).le hle3) hr3 hC3))) (Zcw (h:=?_));refine jg 11 913 rfl fun b11=>?_;refine wx 913 rfl fun H1 hs1 _ h11=>?_;have hv1:=hv.le hs1.le;refine(Zai∘Zb2) ?_;refine z71 L Z (fun u H hH _=>jf htz hH) ?_;refine Zx (h:=?_);refine qf (xg L 900 (kq sb rb sv R'.at_ R2) (r:=kq sb rb sv R'.at_ R2) Z Z Z Z Z (fun u H C hH _ hr hC=>jb hH hr hC)) ((Zk∘Zcq∘Zx∘Za9∘ZcG) ?_);refine qf (xg L 900 (kq sb rb sv R'.at_ R2) (r:=kq sb rb sv R'.at_ R2) Z Z Z Z Z (fun u H C hH _ hr hC=>jb hH hr hC)) ((Zk∘Zez∘Zl∘ZcY∘Zas∘ZaY) ?_);refine z91 L Z (fun u H hH hle=>wi g4 hH (hv1.le hle)) ?_;refine(Zas∘Z9∘Zd5) ?_;refine xo (xg L 900 (kq sb rb sv R'.at_ R2) (r:=kq sb rb sv R'.at_ R2) Z Z Z Z Z (fun u H C hH _ hr hC=>jb hH hr hC)) Z Z ((Zbf∘ZQ∘Zb2∘ZaF∘Zk∘ZU∘Zak∘Zbd∘Zao∘Zat) ?_);refine qf (yo (.inl Z) Z) ((Zey∘ZJ∘Zdo) ?_);refine qf (yo (.inr Z) Z) ((Zaz∘Zal∘ZbE) ?_);exact v9 (x:=(i,none,a,d,R',fr)) (i+1,some t,a++[(t,false)],d,R2,R'.at_) hs1 hj2 G ⟨Z,Z,Z,gj Z,Z,Z,Z,Z,Z,Z,nm⟩
     | some y=>
      have hi0:i≠0:=fun h=>by have:=hfst.2 h;cases this
      by_cases hbh:zet (some y) t=false
      ·rw[na hbh] at hW;subst hW;rw[na (show(18:Int)≠0 by decide)] at hW0;cases hW0;have g3:¬ js y t<0:=of_decide_eq_false hbh;refine(Zbx∘ZA∘Z6∘Ze∘Z0∘ZbI) ?_;refine wd 900 901 rfl Z (xi (GRd rb sv R')) ?_;refine ZaN (h:=?_);refine qf (yj L 900 (kq sb rb sv R'.at_ R2) (chv t k) (r:=kq sb rb sv fr R') Z Z Z Z Z (fun u H C hH hle hr hC=>wg (x:=(t,k)) (fst:=[k8 rb]) (cap:=[]) Z g1 hH hr hC (fun u3 H3 C3 hH3 hle3 hr3 hC3=>hsrc hH3 ((hs.le hle).le hle3) hr3 hC3))) (Zcw (h:=?_));refine jg 11 913 rfl fun b11=>?_;refine wx 913 rfl fun H1 hs1 _ h11=>?_;have hv1:=hv.le hs1.le;refine(Zai∘Zb2) ?_;refine z71 L Z (fun u H hH _=>jf htz hH) ?_;refine Zx (h:=?_);refine qf (xg L 900 (kq sb rb sv R'.at_ R2) (r:=kq sb rb sv R'.at_ R2) Z Z Z Z Z (fun u H C hH _ hr hC=>jb hH hr hC)) (Zk (h:=?_));refine wm (id:=10) 10 rfl ((Zb∘Z8∘Za∘Zb1∘Zb2) ?_);refine z71 L Z (fun u H hH _=>vo (a:=y) (b:=t) hH) ?_;refine(Zab∘Zf∘Zah) ?_;refine wj (r:=(kq sb rb sv R'.at_ R2).res) (zwd:=10) L 900 rfl Z Z Z Z (fun u H C hH hle hr hC=>l6 hH hr hC) (fun _ _ _ _ h=>h) ?_
       repeat (first | refine w7 ?_ | refine wc ?_)
       exact cd hs1
      ·rw[nc hbh] at hW;have g3:js y t<0:=by unfold zet at hbh;exact Decidable.not_not.1 fun h=>hbh (decide_eq_false h)
       cases k with
       | true=>
        by_cases hm2:decide (t∈l)≠true
        ·rw[na hm2] at hW;subst hW;rw[na (show(5:Int)≠0 by decide)] at hW0;cases hW0;have g4:decide (t∈l)=false:=by cases hq:decide (t∈l)<;>simp_all
         refine(Zbx∘ZA∘Z6∘Ze∘Z0∘ZbI) ?_;refine wd 900 901 rfl Z (xi (GRd rb sv R')) ?_;refine ZaN (h:=?_);refine qf (yj L 900 (kq sb rb sv R'.at_ R2) (chv t true) (r:=kq sb rb sv fr R') Z Z Z Z Z (fun u H C hH hle hr hC=>wg (x:=(t,true)) (fst:=[k8 rb]) (cap:=[]) Z g1 hH hr hC (fun u3 H3 C3 hH3 hle3 hr3 hC3=>hsrc hH3 ((hs.le hle).le hle3) hr3 hC3))) (Zcw (h:=?_));refine jg 11 913 rfl fun b11=>?_;refine wx 913 rfl fun H1 hs1 _ h11=>?_;have hv1:=hv.le hs1.le;refine(Zai∘Zb2) ?_;refine z71 L Z (fun u H hH _=>jf htz hH) ?_;refine Zx (h:=?_);refine qf (xg L 900 (kq sb rb sv R'.at_ R2) (r:=kq sb rb sv R'.at_ R2) Z Z Z Z Z (fun u H C hH _ hr hC=>jb hH hr hC)) ((Zk∘Zcq∘Z8∘Za∘Zb1∘Zb2) ?_);refine z71 L Z (fun u H hH _=>vo (a:=y) (b:=t) hH) ?_;refine(ZS∘Zf) ?_;refine qf (xg L 900 (kq sb rb sv R'.at_ R2) (r:=kq sb rb sv R'.at_ R2) Z Z Z Z Z (fun u H C hH _ hr hC=>jb hH hr hC)) (Zk (h:=?_));refine Zf6 (h:=?_);refine ZeQ (h:=?_);refine Zf5 (h:=?_);refine Ze0 (h:=?_);refine wq (qg L (vs:=[_,_,_,_,_,_]) (qt Z h11) Z Z Z Z ⟨_,rfl⟩) Z (wq (qd L Z Z (zn Z) Z Z Z (fun u H hH hle _=>wi g4 hH (hv1.le hle))) Z (Ze0 (h:=?_)));refine wq (ql L (qt Z h11) Z Z Z Z) Z (Zf7 (h:=?_));refine tu [(48,.is (k8 sb)),(55,.is (.bool false)),(900,.own (kq sb rb sv R'.at_ R2).res)] T ⟨Z,Z,Z,nm⟩ (wj (r:=(kq sb rb sv R'.at_ R2).res) (zwd:=8) L 900 rfl Z Z Z Z (fun u H C hH hle hr hC=>l6 hH hr hC) (fun _ _ _ _ h=>h) ?_)
         repeat (first | refine w7 ?_ | refine wc ?_)
         exact cd hs1
        ·rw[nc hm2] at hW;have g4:=zru.1 hm2;have hj2:ChJ bs l n Y (i+1) (some t) (a) (d++[(t,true)]) R2:=⟨hlt,by rw[show n-(i+1)=m by omega];exact hW,g1,hta,⟨fun h=>by(cases h),fun h=>by(cases h)⟩,by simp only[nr,zsu];omega,hza,fun c hc=>by(rcases mj.1 hc with h3 | h3;exact hzd c h3;rw[my] at h3;subst h3;exact htz)⟩
         refine(Zbx∘ZA∘Z6∘Ze∘Z0∘ZbI) ?_;refine wd 900 901 rfl Z (xi (GRd rb sv R')) ?_;refine ZaN (h:=?_);refine qf (yj L 900 (kq sb rb sv R'.at_ R2) (chv t true) (r:=kq sb rb sv fr R') Z Z Z Z Z (fun u H C hH hle hr hC=>wg (x:=(t,true)) (fst:=[k8 rb]) (cap:=[]) Z g1 hH hr hC (fun u3 H3 C3 hH3 hle3 hr3 hC3=>hsrc hH3 ((hs.le hle).le hle3) hr3 hC3))) (Zcw (h:=?_));refine jg 11 913 rfl fun b11=>?_;refine wx 913 rfl fun H1 hs1 _ h11=>?_;have hv1:=hv.le hs1.le;refine(Zai∘Zb2) ?_;refine z71 L Z (fun u H hH _=>jf htz hH) ?_;refine Zx (h:=?_);refine qf (xg L 900 (kq sb rb sv R'.at_ R2) (r:=kq sb rb sv R'.at_ R2) Z Z Z Z Z (fun u H C hH _ hr hC=>jb hH hr hC)) ((Zk∘Zcq∘Z8∘Za∘Zb1∘Zb2) ?_);refine z71 L Z (fun u H hH _=>vo (a:=y) (b:=t) hH) ?_;refine(ZS∘Zf) ?_;refine qf (xg L 900 (kq sb rb sv R'.at_ R2) (r:=kq sb rb sv R'.at_ R2) Z Z Z Z Z (fun u H C hH _ hr hC=>jb hH hr hC)) ((Zk∘Zez∘Zl∘ZcY∘Zas∘ZaY) ?_);refine z91 L Z (fun u H hH hle=>wi g4 hH (hv1.le hle)) ?_;refine(Zas∘Z9∘Zd5) ?_;refine xo (xg L 900 (kq sb rb sv R'.at_ R2) (r:=kq sb rb sv R'.at_ R2) Z Z Z Z Z (fun u H C hH _ hr hC=>jb hH hr hC)) Z Z ((Zbf∘ZQ∘Zb2∘ZaF∘Zk∘ZU∘Zak∘Zbd∘Z1∘ZaP) ?_);refine qf (yo (.inl Z) Z) ((Zey∘ZJ∘Zdo) ?_);refine qf (yo (.inr Z) Z) ((Zaz∘Zal∘ZbE) ?_);exact v9 (x:=(i,some y,a,d,R',fr)) (i+1,some t,a,d++[(t,true)],R2,R'.at_) hs1 hj2 G ⟨Z,Z,Z,Z,gj Z,Z,Z,Z,Z,Z,nm⟩
       | false=>
        by_cases hm2:decide (t∈l)≠false
        ·rw[na hm2] at hW;subst hW;rw[na (show(5:Int)≠0 by decide)] at hW0;cases hW0;have g4:decide (t∈l)=true:=by cases hq:decide (t∈l)<;>simp_all
         refine(Zbx∘ZA∘Z6∘Ze∘Z0∘ZbI) ?_;refine wd 900 901 rfl Z (xi (GRd rb sv R')) ?_;refine ZaN (h:=?_);refine qf (yj L 900 (kq sb rb sv R'.at_ R2) (chv t false) (r:=kq sb rb sv fr R') Z Z Z Z Z (fun u H C hH hle hr hC=>wg (x:=(t,false)) (fst:=[k8 rb]) (cap:=[]) Z g1 hH hr hC (fun u3 H3 C3 hH3 hle3 hr3 hC3=>hsrc hH3 ((hs.le hle).le hle3) hr3 hC3))) (Zcw (h:=?_));refine jg 11 913 rfl fun b11=>?_;refine wx 913 rfl fun H1 hs1 _ h11=>?_;have hv1:=hv.le hs1.le;refine(Zai∘Zb2) ?_;refine z71 L Z (fun u H hH _=>jf htz hH) ?_;refine Zx (h:=?_);refine qf (xg L 900 (kq sb rb sv R'.at_ R2) (r:=kq sb rb sv R'.at_ R2) Z Z Z Z Z (fun u H C hH _ hr hC=>jb hH hr hC)) ((Zk∘Zcq∘Z8∘Za∘Zb1∘Zb2) ?_);refine z71 L Z (fun u H hH _=>vo (a:=y) (b:=t) hH) ?_;refine(ZS∘Zf) ?_;refine qf (xg L 900 (kq sb rb sv R'.at_ R2) (r:=kq sb rb sv R'.at_ R2) Z Z Z Z Z (fun u H C hH _ hr hC=>jb hH hr hC)) (Zk (h:=?_));refine Zf6 (h:=?_);refine ZeQ (h:=?_);refine Zf5 (h:=?_);refine Ze0 (h:=?_);refine wq (qg L (vs:=[_,_,_,_,_,_]) (qt Z h11) Z Z Z Z ⟨_,rfl⟩) Z (wq (qd L Z Z (zn Z) Z Z Z (fun u H hH hle _=>wi g4 hH (hv1.le hle))) Z (Ze0 (h:=?_)));refine wq (ql L (qt Z h11) Z Z Z Z) Z (Zf7 (h:=?_));refine tu [(48,.is (k8 sb)),(55,.is (.bool false)),(900,.own (kq sb rb sv R'.at_ R2).res)] T ⟨Z,Z,Z,nm⟩ (wj (r:=(kq sb rb sv R'.at_ R2).res) (zwd:=8) L 900 rfl Z Z Z Z (fun u H C hH hle hr hC=>l6 hH hr hC) (fun _ _ _ _ h=>h) ?_)
         repeat (first | refine w7 ?_ | refine wc ?_)
         exact cd hs1
        ·rw[nc hm2] at hW;have g4:=zru.1 hm2;have hj2:ChJ bs l n Y (i+1) (some t) (a++[(t,false)]) (d) R2:=⟨hlt,by rw[show n-(i+1)=m by omega];exact hW,g1,hta,⟨fun h=>by(cases h),fun h=>by(cases h)⟩,by simp only[nr,zsu];omega,fun c hc=>by(rcases mj.1 hc with h3 | h3;exact hza c h3;rw[my] at h3;subst h3;exact htz),hzd⟩
         refine(Zbx∘ZA∘Z6∘Ze∘Z0∘ZbI) ?_;refine wd 900 901 rfl Z (xi (GRd rb sv R')) ?_;refine ZaN (h:=?_);refine qf (yj L 900 (kq sb rb sv R'.at_ R2) (chv t false) (r:=kq sb rb sv fr R') Z Z Z Z Z (fun u H C hH hle hr hC=>wg (x:=(t,false)) (fst:=[k8 rb]) (cap:=[]) Z g1 hH hr hC (fun u3 H3 C3 hH3 hle3 hr3 hC3=>hsrc hH3 ((hs.le hle).le hle3) hr3 hC3))) (Zcw (h:=?_));refine jg 11 913 rfl fun b11=>?_;refine wx 913 rfl fun H1 hs1 _ h11=>?_;have hv1:=hv.le hs1.le;refine(Zai∘Zb2) ?_;refine z71 L Z (fun u H hH _=>jf htz hH) ?_;refine Zx (h:=?_);refine qf (xg L 900 (kq sb rb sv R'.at_ R2) (r:=kq sb rb sv R'.at_ R2) Z Z Z Z Z (fun u H C hH _ hr hC=>jb hH hr hC)) ((Zk∘Zcq∘Z8∘Za∘Zb1∘Zb2) ?_);refine z71 L Z (fun u H hH _=>vo (a:=y) (b:=t) hH) ?_;refine(ZS∘Zf) ?_;refine qf (xg L 900 (kq sb rb sv R'.at_ R2) (r:=kq sb rb sv R'.at_ R2) Z Z Z Z Z (fun u H C hH _ hr hC=>jb hH hr hC)) ((Zk∘Zez∘Zl∘ZcY∘Zas∘ZaY) ?_);refine z91 L Z (fun u H hH hle=>wi g4 hH (hv1.le hle)) ?_;refine(Zas∘Z9∘Zd5) ?_;refine xo (xg L 900 (kq sb rb sv R'.at_ R2) (r:=kq sb rb sv R'.at_ R2) Z Z Z Z Z (fun u H C hH _ hr hC=>jb hH hr hC)) Z Z ((Zbf∘ZQ∘Zb2∘ZaF∘Zk∘ZU∘Zak∘Zbd∘Zao∘Zat) ?_);refine qf (yo (.inl Z) Z) ((Zey∘ZJ∘Zdo) ?_);refine qf (yo (.inr Z) Z) ((Zaz∘Zal∘ZbE) ?_);exact v9 (x:=(i,some y,a,d,R',fr)) (i+1,some t,a++[(t,false)],d,R2,R'.at_) hs1 hj2 G ⟨Z,Z,Z,gj Z,Z,Z,Z,Z,Z,Z,nm⟩
  ·obtain rfl:i=n:=by have:=hj.hi;omega
   have hW:=hj.hW;rw[zsx] at hW;have hW2:(((a,d),R'),((0:Int),(0:Int)))=Y:=hW;subst hW2;rw[nc (fun h=>h rfl)] at hW0;dsimp only at hW0;by_cases h3:l.length+a.length>4096+d.length
   ·rw[na h3] at hW0;cases hW0;have hlen:=hj.len;refine ug (r1:=xr sb [k8 rb,.int .i64 fr] Ss) (r2:=(GRd rb sv R').res) 900 901 rfl (xi _) ?_;refine uz 5 rfl ?_;refine M0 6 931 _ Z SlR.shape fun z6 hz6=>?_;obtain⟨p6,c6,rfl⟩:=hz6;refine(Zbx∘Zbh∘Zbm∘Zcm) ?_;refine xm (yq L (q:=900) (cs':=[k8 rb,.int .i64 R.at_]) Z Z Z Z Z) (Zk (h:=?_));refine wm (id:=18) 10 rfl ((Za∘Zcx) ?_);refine z71 L Z (fun u H hH hle=>lw (l:=l) Z hH (hv.le hle)) ?_;refine(Zj∘ZcZ∘Za∘Zbo∘ZcW∘ZcV) ?_;refine wd 900 901 rfl Z (xi (GRd rb sv R')) ?_;refine Zah (h:=?_);refine wj (r:=(kq sb rb sv R.at_ R').res) (zwd:=10) L 900 rfl Z Z Z Z (fun u H C hH hle hr hC=>l6 hH hr hC) (fun _ _ _ _ h=>h) ?_
    repeat (first | refine w7 ?_ | refine wc ?_)
    exact cd nq
   ·rw[nc h3] at hW0;cases hW0;exact ni Z he
def zd5{l:List U}:∀ {k:Nat} {la:Option U} {a d:List CH} {R:Rd},R.at_<=bs.length->(F9 bs l k la a d R).1.2.at_<=bs.length
 | 0,_,_,_,_,h=>h
 | k+1,la,a,d,R,h=>by
  unfold F9;split
  ·exact h
  ·split
   ·exact h
   ·split
    ·exact h
    ·split
     ·exact h
     ·exact zd5 (R0 h)
def zlv{l:List U}(h:R.at_<=bs.length):(Bz bs l R).1.2.at_<=bs.length:=by
 have h1:=sk (bs:=bs) (lim:=8192) h;unfold Bz;split
 ·exact h
 ·split
  ·exact h
  ·split
   ·exact h
   ·exact zd5 h1
def zhg{l:List U}(h:l.length<=4096):(Bz bs l R).1.1.length<=4096:=by
 unfold Bz;split
 ·exact h
 ·split
  ·exact h
  ·split
   ·exact h
   ·exact Mx _ h
def Up{l:List U}:∀ {k:Nat} {la:Option U} {a d:List CH} {R:Rd},R.err=0->(F9 bs l k la a d R).2.2=0->(F9 bs l k la a d R).1.2.err=0
 | 0,_,_,_,_,h,_=>h
 | k+1,la,a,d,R,h,he=>by
  unfold F9 at he |-;by_cases h1:(dq bs R).2.err≠0
  ·rw[na h1] at he;exact ni he h1
  ·rw[nc h1] at he |-;by_cases h2:tE (dq bs R).1.1≠0
   ·rw[na h2] at he;exact ni he (show(6:Int)≠0 by decide)
   ·rw[nc h2] at he |-;by_cases h3:zet la (dq bs R).1.1=false
    ·rw[na h3] at he;exact ni he (show(18:Int)≠0 by decide)
    ·rw[nc h3] at he |-;by_cases h4:decide ((dq bs R).1.1∈l)≠(dq bs R).1.2
     ·rw[na h4] at he;exact ni he (show(5:Int)≠0 by decide)
     ·rw[nc h4] at he |-;exact Up (zru.1 h1) he
def zhh{l:List U}(he:(Bz bs l R).2.2=0):(Bz bs l R).1.2.err=0:=by
 unfold Bz at he |-;by_cases h1:(vk bs 8192 R).2.err≠0
 ·rw[na h1] at he;exact ni he h1
 ·rw[nc h1] at he |-;split at he
  ·rename_i h2;exact ni he h2
  ·rename_i h2;rw[nc h2];split at he
   ·exact ni he (show(3:Int)≠0 by decide)
   ·rename_i h3;rw[nc h3];exact Up (zru.1 h1) (zru.1 h2)
def ldW(bs:List Nat):Nat->Nat->List U->List (Int×List U)->List Int->Rd->((List (Int×List U)×List Int)×Rd)×(Int×Int)
 | 0,_,_,zs,P,R=>(((zs,P),R),(0,0))
 | k+1,last,s,zs,P,R=>
  if (ry bs R).2.err≠0 then (((zs,P),R),(((ry bs R).2.bad:Int),(ry bs R).2.err))
  else if ¬ (0<(ry bs R).1/\(ry bs R).1<=18446744073709551615-last) then (((zs,P),R),((R.at_:Int),5))
  else if (vk bs 4096 (ry bs R).2).2.err≠0 then (((zs,P),R),(((vk bs 4096 (ry bs R).2).2.bad:Int),(vk bs 4096 (ry bs R).2).2.err))
  else if (Bz bs s (vk bs 4096 (ry bs R).2).2).2.2≠0 then (((zs,P),R),(Bz bs s (vk bs 4096 (ry bs R).2).2).2)
  else ldW bs k (last+(ry bs R).1) (Bz bs s (vk bs 4096 (ry bs R).2).2).1.1 (zs++[(((last+(ry bs R).1:Nat):Int),(Bz bs s (vk bs 4096 (ry bs R).2).2).1.1)]) (P++List.replicate (vk bs 4096 (ry bs R).2).1.toNat ((last+(ry bs R).1:Nat):Int)) (Bz bs s (vk bs 4096 (ry bs R).2).2).1.2
def ldF(bs:List Nat):(List (Int×List U)×List Int)×(Int×Int):=
 if (vk bs 1024 ⟨0,0,0⟩).2.err≠0 then (([],[]),(((vk bs 1024 ⟨0,0,0⟩).2.bad:Int),(vk bs 1024 ⟨0,0,0⟩).2.err))
 else if (vk bs 1024 ⟨0,0,0⟩).1=0 then (([],[]),(0,5))
 else if (ldW bs (vk bs 1024 ⟨0,0,0⟩).1.toNat 0 [] [] [] (vk bs 1024 ⟨0,0,0⟩).2).2.2≠0 then (([],[]),(ldW bs (vk bs 1024 ⟨0,0,0⟩).1.toNat 0 [] [] [] (vk bs 1024 ⟨0,0,0⟩).2).2)
 else if (Mn bs (ldW bs (vk bs 1024 ⟨0,0,0⟩).1.toNat 0 [] [] [] (vk bs 1024 ⟨0,0,0⟩).2).1.2).2≠0 then (([],[]),(((Mn bs (ldW bs (vk bs 1024 ⟨0,0,0⟩).1.toNat 0 [] [] [] (vk bs 1024 ⟨0,0,0⟩).2).1.2).1:Int),(Mn bs (ldW bs (vk bs 1024 ⟨0,0,0⟩).1.toNat 0 [] [] [] (vk bs 1024 ⟨0,0,0⟩).2).1.2).2))
 else ((ldW bs (vk bs 1024 ⟨0,0,0⟩).1.toNat 0 [] [] [] (vk bs 1024 ⟨0,0,0⟩).2).1.1,(0,0))
end Go.V.L11
namespace Go.V.L10
def Xx{L:List Int}(hn:0<n):kf (L++List.replicate n r)=kf (L++[r]):=pg vz (jj _) (jj _) fun z=>by
 rw[k7,k7,mj,mj,zvw,my];constructor
 ·rintro(h | h)
  ·exact .inl h
  ·exact .inr h.2
 ·rintro(h | h)
  ·exact .inl h
  ·exact .inr ⟨by omega,h⟩
def Eo{L:List Int}(hn:0<n)(h:r∉L):xf (L++List.replicate n r)=Ph (xf L) (o9 cP r (kf L)) (r,(n:Int)):=by
 have key:∀ l:List Int,(∀ x∈l,x∈L)->l.map (fun x=>(x,((L++List.replicate n r).count x:Int)))=l.map fun x=>(x,(L.count x:Int)):=fun l hl=>ztv fun x hx=>by
  have hxr:x≠r:=fun e=>h (e ▸ hl x hx);simp [zsq,List.count_replicate,hxr.symm]
 unfold xf Ph;rw[Xx hn,Hq h,zr1,mt,zta,ztk,<-zta,<-ztk,key _ fun x hx=>k7.1 (zt4 hx),key _ fun x hx=>k7.1 (zv2 hx),zta,ztk];congr 2;simp [zsq,ztw.2 h]
attribute [local irreducible] V N X VO Par StepOK Has Ret RetL RetO RetT jh RetX Src
def Ya(h:¬ r∈kf L0)(hz2:(xf L0).length<=100000)(hB:zwe B w)(hv:PsV (xf L0) s B):
  Ret zwf 88 [pnv s t,.int .u64 r] w B (fun v _=>v=.int .i64 0):=by
 have h1:=rm (r:=r) (t:=t) hz2 hB hv
 rwa [ztw.2 fun hm=>h (k7.2 hm)] at h1
def zcj(hr:r≠0)(hn0:0<n)(hn:n<=4096)(hnew:r∉L0)(hz2:(xf L0).length<1024)(hz:L0.length<=1000000000000)(hB:zwe B w)(hv:PsV (xf L0) s B):
  Ret zwf 77 [pnv s L0.length,.int .u64 r,.int .i64 n] w B (PinP (L0++List.replicate n r) 0):=by
 have hm:¬ r∈kf L0:=fun h=>hnew (k7.1 h);have hws:IntKind.i64.wrap (4096-0)=4096:=E;have hwt:IntKind.i64.wrap ((L0.length:Int)+(n:Int))=((L0++List.replicate n r).length:Nat):=by rw[nr,zvx];exact(xb J J).trans J
 have hwc:IntKind.i64.wrap (0+(n:Int))=(n:Int):=(xb J J).trans J;have e1:=Eo (L:=L0) hn0 hnew;obtain⟨p,c,rfl⟩:=ke hv;have hpl:=zbb (L0:=L0) r;have hf:decide (r∈kf L0)=false:=ng hm;generalize hat:o9 cP r (kf L0)=at_ at *;have e2:xf (L0++List.replicate n r)=(Ph (xf L0) at_ (r,0)).set at_ (r,(n:Int)):=by rw[T9 hpl];exact e1
 have hp:=zde (x:=(r,(0:Int))) hpl;have hpi:=get_lt hp;have hil:=sn (x:=(r,(0:Int))) hpl;refine yl Tryz.func77 Z Tryz.ntmps77 (np Z) hB ((Zq∘ZX∘Ze∘ZZ∘Zbq∘Zab∘ZcM∘Zz∘ZbQ∘ZC∘Z8∘ZcR∘ZbR∘Za0∘ZbW∘Zbn∘Za) ?_);refine z71 L Z (fun u H hH hle=>hf ▸ hat ▸ Ag (L0:=L0) (t:=L0.length) J hH (hv.le hle)) ?_;refine(ZW∘Zbl∘Za5∘Zbn∘Za) ?_;refine z71 L Z (fun u H hH hle=>Ya (L0:=L0) (t:=L0.length) hm J hH (hv.le hle)) ?_;refine(Zaj∘ZG∘Zb∘Zo∘Za∘Z3∘Zbo∘Z8∘Zf∘Zba∘ZaH∘Z3∘Zfw) ?_;refine qf (yo (.inr Z) Z) ((Zan∘ZbL∘Zo∘Z1∘ZQ) ?_);refine qf (yo (.inl Z) Z) (Zb (h:=?_));refine z7 (yv (cs:=[_,_]) Z Z znf Z Z) Z (ZJ (h:=?_));refine qf (Ey L (q:=51) Z Z Z Z Z (fun u H C x hH hle hx hC v2 hv2=>Hm (y:=(r,0)) hpl J hH hv2 hx hC)) (qf (yo (.inr Z) Z) (Zk (h:=?_)));rw[<-hil];refine o0 10 900 rfl (fun h0 _=>by omega) fun b cap rest hl hmc hcm hcl=>?_;obtain⟨tl,hld⟩:=zbf hp rest;have hst:=Ti hp (n:Int) rest;have hbl:=Tj hpi rest;refine(ZU∘Zb∘Zdx∘Zak) ?_;refine ye (qk L (q:=900) Z Z Z hld) ((Za∘ZH∘Zdx∘Zak) ?_);refine xm (yq L (q:=900) Z Z hbl Z hst) (Zk (h:=?_));have hln:(xf (L0++List.replicate n r)).length=(Ph (xf L0) at_ (r,0)).length:=by rw[e2,zt2]
 rw[<-e2];refine uf (s:=2) (xs:=(xf (L0++List.replicate n r)).flatMap pnc) (rest:=rest) 10 900 rfl Z Z (by rw[g9,hln]) hmc hcm (by rw[nr,g9,hln,<-g9,<-nr];exact hcl) ?_;refine P4 10 rfl fun x H hs _ hsw=>?_;have hsv:PsV (xf (L0++List.replicate n r)) x H:=by unfold PsV;rw[hln];exact hsw.toV
 obtain⟨p2,c2,rfl⟩:=ke hsv;refine(Zch∘Z3∘Za∘ZH∘ZeO∘Zaq) ?_;refine yk L (rs:=[.cell 6 112,.tmp 7]) Z (fun _ _ h=>h) hs fun u H hH hle=>?_;exact⟨_,ya Z,rfl,_,rfl,hsv.le hle⟩
open Go.V.L2 Go.V.L8 Go.V.L6
def _root_.Zf8(t:Wr Y->A:=by intro h;refine ye (qk L (q:=902) Z Z Z Z) ?_;exact h.1)(h:Y):A:=t ⟨h⟩
attribute [local irreducible] RetY
def zdi(hz2:(xf L0).length<=100000)(hB:zwe B w)(hv:PsV (xf L0) s B):
  Ret zwf 110 [pnv s t] w B (RsV (kf L0) true):=by
 have hat:∀ (i:Nat) (x:Int),(kf L0)[i]?=some x->(xf L0)[i]?=some (x,(L0.count x:Int)):=fun i x h=>Er h;have hlen:(xf L0).length=(kf L0).length:=wy L0;obtain⟨p,c,rfl⟩:=ke hv;refine yl Tryz.func110 Z Tryz.ntmps110 (np Z) hB ?_;by_cases h0:(kf L0).length=0
 ·have hnil:kf L0=[]:=zrv h0;rw[hnil];refine(Zq∘Zad∘Z3∘Zbo) ?_;refine z7 (Lk L (kf L0).length Z Z Z zes Z Z (congrArg (Nat.cast (R:=Int)) hlen) (congrArg (Nat.cast (R:=Int)) hlen) J (by unfold maxLen;omega)) Z ?_;refine qf (yo (.inr Z) Z) ((Zan∘ZL∘ZcE∘ZbT∘Zb3) ?_);refine zje 3 rfl (xu (fun _:Unit=>[(3,.sat (SlV A0 1 (zsL zwf A0 ((kf L0).length*1)) (kf L0).length true)),(13,.is (.int .i64 0)),(12,.is (.int .i64 (xf L0).length))]) (fun _=>True) (fun _=>0) () trivial ⟨Z,Z,Z,nm⟩ ?_);rintro _ _;refine(ZcA∘Zbh∘Z7∘Zg∘Zb9) ?_;refine yk1 L [.tmp 2] fun u H hH hle=>?_;intro v hv;have h1:(kf L0).length*1=0:=J;rw[h0] at hv
  have hzl:zsL zwf A0 (0*1)=[]:=by
   have:=hv.1;exact zrv (by simpa using this)
  rw[hzl] at hv;exact hv
 ·refine(Zq∘Zad∘Z3∘Zbo) ?_;refine z7 (Lk L (kf L0).length Z Z Z zes Z Z (congrArg (Nat.cast (R:=Int)) hlen) (congrArg (Nat.cast (R:=Int)) hlen) J (by unfold maxLen;omega)) Z ?_;refine qf (yo (.inr Z) Z) (Zan (h:=?_));refine zmc 3 901 J Z fun b hzl=>?_;refine(ZL∘ZcE∘ZbT∘Zb3) ?_;generalize zsL zwf A0 ((kf L0).length*1)=zs at hzl |-
  refine xu (fun s:Nat×List Value=>[(3,.is (.slice (some ⟨b,0,none⟩) (kf L0).length (kf L0).length)),(11,.sat (PsV (xf L0))),(13,.is (.int .i64 s.1)),(12,.is (.int .i64 (xf L0).length)),(901,.own (xr b s.2 A0))])
   (fun s=>s.1<=(kf L0).length/\s.2.length=(kf L0).length/\s.2.take s.1=((kf L0).take s.1).map (Value.int .u64)) (fun s=>(kf L0).length-s.1) (0,zs) ⟨Nat.zero_le _,by dsimp only;omega,rfl⟩ ⟨rfl,rfl,rfl,rfl,rfl,trivial⟩ ?_
  rintro⟨i,cs⟩ ⟨hi,hcs,htk⟩;dsimp only at hi hcs htk |-;by_cases hlt:i<(kf L0).length
  ·obtain⟨x,hx⟩:=xj hlt;have hc:=V1 (hat i x hx);have hle1:0+i*1+1<=cs.length:=by rw[hcs];omega
   have hwi:IntKind.i64.wrap ((i:Int)+1)=((i+1:Nat):Int):=xb J J;refine(ZcA∘ZA∘Zt∘ZaO∘Zee∘ZX∘Zv∘Za3∘ZbG) ?_;refine zms 5 rfl ((Z3∘Zdx) ?_);refine xm (yq L (q:=901) Z Z (zuj hle1) Z Z) ((Zaz∘Z5∘ZH∘ZcH) ?_)
   exact yr (x:=(i,cs)) (i+1,cs.take (0+i*1)++([.int .u64 x]++cs.drop (0+i*1+1))) ⟨hlt,by dsimp only;rw[List.length_append,List.length_append,List.length_take,List.length_drop];simp only[List.length_cons,List.length_nil];omega,by
    dsimp only;rw[ju hx,zr1,<-htk,zrw,zse,zsm,zuy,Nat.min_eq_right J,mh,zsv J,show i+1-i=1 by omega];rfl⟩ G ⟨rfl,rfl,rfl,rfl,rfl,nm⟩
  ·obtain rfl:i=(kf L0).length:=by omega
   have hcs2:cs=(kf L0).map (Value.int .u64):=by
    rw[m8 J,m4] at htk;exact htk
   subst hcs2;refine(ZcA∘Zbh) ?_;refine zjd (s:=1) 3 901 rfl Z (by simp) (by unfold maxLen;omega) ?_;refine zje 3 rfl ((Z7∘Zg∘Zb9) ?_);refine yk1 L [.tmp 2] fun u H hH hle=>?_;exact fun v hv=>hv
def Vs{zs:List (Int×SB)}{fr:Bool}(he:mkE (zs.map (·.1)) L0=e)(hS:e=0->MapOK (zsE zs) S.R/\(S.R.length:Int)=ff (zs.map (·.1)) zs.length/\S.P=L0)(hz:(xf L0).length<=100000)(hzb:L0.length<=1000000000000)(hZ:zs.length<=100000)
     (hB:zwe B w) (h1:RsV (zs.map (·.1)) fr v1 B) (h2:SsV (zs.map (·.2)) fb v2 B) (hb:SbOK (zs.map (·.2)) B) (hv:PsV (xf L0) s B):
  RetO zwf 41 [v1,v2,pnv s L0.length] w B (MkR e S):=by
 obtain⟨ps,pc,rfl⟩:=ke hv;obtain⟨rs,hrs⟩:∃ rs,rs=zs.map (·.1):=⟨_,rfl⟩
 obtain⟨bs,hbs⟩:∃ bs,bs=zs.map (·.2):=⟨_,rfl⟩
 have lr:rs.length=zs.length:=by rw[hrs,mg]
 have lb:bs.length=zs.length:=by rw[hbs,mg]
 rw[<-hrs] at he hS h1;rw[<-hbs] at h2 hb;unfold mkE at he;refine wt Tryz.func41 Z Tryz.ntmps41 (np Z) hB (ku 0 (RsV rs fr) Z ns h1 (ku 1 (SsV bs fb) Z ns h2 ?_));by_cases h0:rs.length=0
 ·rw[na h0] at he;refine(Zq∘ZaI∘ZZ∘ZI∘Zj∘Zx∘Za9∘ZcG∘Zcd∘Zi∘ZL∘Z4) ?_;exact My L (rs:=[.tmp 6,.tmp 7]) Z (fun _ _ h=>h) nq (fun _=>rfl) (fun H u _=>.inr ⟨by omega,by rw[<-he];rfl,fun _ h=>h⟩)
 ·rw[nc h0] at he;by_cases hk:1024<rs.length
  ·rw[na hk] at he;refine(Zq∘ZaI∘ZZ∘ZI∘Zj∘Z8∘Za∘Zj∘Zj∘Zar∘Zf∘ZcM∘Z2∘Zj∘ZN∘Zcd∘ZbS∘Z4) ?_;exact My L (rs:=[.tmp 6,.tmp 7]) Z (fun _ _ h=>h) nq (fun _=>rfl) (fun H u _=>.inr ⟨by omega,by rw[<-he];rfl,fun _ h=>h⟩)
  ·rw[nc hk] at he;refine(Zq∘ZaI∘ZZ∘ZI∘Zj∘Z8∘Za∘Zj∘Zj∘Zar∘Zf∘ZcM∘Z2∘Zj∘ZG∘ZcR∘ZbR∘Za0∘Zi) ?_;refine qp (id:=5) [(34,[32]),(35,[34]),(8,[35])] kr T ((ZaG∘ZeP) ?_);refine z9 (Rb .u64 vcE Z mpS Z Z) Z (Zde (h:=?_));refine xo (Bm (q:=32) (fun k=>[(0,.int .u64 0),(1,.map (some k)),(2,.agg #[.slice ps (xf L0).length pc,.int .i64 L0.length])]) (fun k=>stc 0 k (.slice ps (xf L0).length pc) L0.length) Z Z Z Z zng (fun _=>rfl) (fun _=>rfl)) Z Z (xo (zf8 Z Z Z Z) Z Z (xo (yo (.inr Z) Z) Z Z ((ZaW∘Zd) ?_)));refine Aq 8 902 rfl fun x=>?_;obtain⟨b2,m2⟩:=x;rw[w9];refine ug 902 903 rfl (xi _) ?_;refine(Z5∘Zj∘Zb3) ?_;have lz:(zsE zs).length=rs.length:=by unfold zsE;rw[List.length_map,lr]
   refine xu (fun y:Nat=>[(1,.sat (SsV bs fb)),(5,.sat (At [.slice ps (xf L0).length pc,.int .i64 L0.length] 112 0)),(8,.is (po b2)),(36,.sat (RsV rs fr)),(37,.is (.int .i64 rs.length)),(38,.is (.int .i64 y)),(902,.own (xr b2 [.int .u64 (ff rs y),.map (some m2),.slice ps (xf L0).length pc,.int .i64 L0.length] tyS)),(903,.own (F7 m2 .u64 vcE ((zsE zs).take y)))])
    (fun y=>y<=rs.length/\Yn (rs.take y)/\∀ a∈0::rs.take y,a<=ff rs y) (fun y=>rs.length-y) 0 ⟨mb _,ztc _ _,fun a ha=>by rw[zr0,my] at ha;subst ha;exact zsw _⟩ ⟨rfl,rfl,rfl,rfl,rfl,rfl,rfl,rfl,nm⟩ ?_
   rintro i ⟨hi,hA,hmx⟩;dsimp only at hi hA hmx |-;by_cases hlt:i<rs.length
   ·obtain⟨z,hzi⟩:=xj (show i<zs.length by omega);obtain⟨x,c0⟩:=z;have hx:rs[i]?=some x:=by rw[hrs,zr8,hzi];rfl
    have hbi:bs[i]?=some c0:=by rw[hbs,zr8,hzi];rfl
    have hei:(zsE zs)[i]?=some (x,(c0.1,sbv c0)):=by unfold zsE;rw[List.getElem?_map,hzi];rfl
    obtain⟨t0,f1,p1,f2,p2⟩:=c0;have hc:=oc hx;have hcb:=zpp hbi;have hwk:IntKind.i64.wrap ((i:Int)+1)=((i+1:Nat):Int):=xb J J;by_cases hle:x<=ff rs i
    ·have hnA:¬ Yn rs:=fun h=>by have:=zhw h hx;omega
     rw[nc hnA] at he;refine(ZbW∘ZA∘Z0∘Zdm∘Zap∘Zbl∘ZM∘Zcm∘Zf8∘Zda∘Zr∘ZaH∘Z4) ?_;exact My L (rs:=[.tmp 6,.tmp 7]) Z (fun _ _ h=>h) nq (fun _=>rfl) (fun H u _=>.inr ⟨by omega,by rw[<-he];rfl,fun _ h=>h⟩)
    ·have hsn:=zhv hA hmx hx J
     have hnk:x∉((zsE zs).take i).map Prod.fst:=fun hm2=>by
      have h3:((zsE zs).take i).map Prod.fst=rs.take i:=by rw[List.map_take];unfold zsE;rw[List.map_map,hrs];rfl
      rw[h3] at hm2;have:=hmx x (mf _ hm2);omega
     have hput:=zgk (y:=(t0,sbv (t0,f1,p1,f2,p2))) hnk;rw[<-ju hei] at hput;have hls:=d9 hx;refine(ZbW∘ZA∘Z0∘Zdm∘Zap∘Zbl∘ZM∘Zcm∘Zf8∘ZcV∘Zs∘Zay∘Zcm) ?_;refine xm (yq L (q:=902) (cs':=[.int .u64 x,.map (some m2),.slice ps (xf L0).length pc,.int .i64 L0.length]) Z Z Z Z Z) (ZB (h:=?_));refine qp (id:=12) [(200056,[902]),(100056,[903])] kr T (ZaU (h:=?_));refine qy (qk L (q:=902) Z Z Z Z) Z Z ((Zl∘ZcK) ?_);refine z9 (yn L (vs:=[_,_,_,_]) Z Z Z Z Z ⟨_,rfl⟩) Z (xw (G6 (q:=903) (vc:=vcE) x (t0,sbv (t0,f1,p1,f2,p2)) mpS kyS Z Z Z Z Z Z hput) Z ((ZbP∘ZU∘ZH∘ZcH) ?_));exact yr (x:=i) (i+1) ⟨hlt,hsn.1,hsn.2⟩ J ⟨Z,Z,Z,Z,Z,Z,by rw[hls];rfl,Z,nm⟩
   ·obtain rfl:i=rs.length:=by omega
    rw[m4] at hA hmx;rw[na hA] at he;rw[show(zsE zs).take rs.length=zsE zs by rw[<-lz,m4]];have hfs:(zsE zs).map Prod.fst=rs:=by unfold zsE;rw[List.map_map,hrs];rfl
    have hhl:=ul L0;refine(ZbW∘Zfd∘ZbH∘ZaP∘Zbn) ?_;refine z7 (xh (φ:=RsV (kf L0) true) L Z Z (zn Z) Z Z Z ns (fun u H2 hH hle _=>zdi hz hH (hv.le hle))) Z ((ZbT∘Zb3) ?_)
    refine xu (fun y:Nat=>[(8,.is (po b2)),(64,.sat (RsV (kf L0) true)),(65,.is (.int .i64 (kf L0).length)),(66,.is (.int .i64 y)),(902,.own (xr b2 [.int .u64 (ff rs rs.length),.map (some m2),.slice ps (xf L0).length pc,.int .i64 L0.length] tyS)),(903,.own (F7 m2 .u64 vcE (zsE zs)))])
     (fun y=>y<=(kf L0).length/\∀ h∈(kf L0).take y,h∈rs) (fun y=>(kf L0).length-y) 0 ⟨mb _,fun h hh=>by rw[zr0] at hh;cases hh⟩ ⟨rfl,rfl,rfl,rfl,rfl,rfl,nm⟩ ?_
    rintro j ⟨hj,hin⟩;dsimp only at hj hin |-;by_cases hlt2:j<(kf L0).length
    ·obtain⟨h,hh⟩:=xj hlt2;have hc:=oc hh;have hwk:IntKind.i64.wrap ((j:Int)+1)=((j+1:Nat):Int):=xb J J
     cases hgk:g7 h (zsE zs) with
     | none=>
      have hni:h∉rs:=fun hm2=>by rw[<-hfs,<-pu,hgk] at hm2;cases hm2
      rw[nc (fun hall=>hni (hall h (mz hh)))] at he;have q1:(g7 h (zsE zs)).elim nilSet vcE=nilSet:=by rw[hgk];rfl
      have q2:(g7 h (zsE zs)).isSome=false:=by rw[hgk];rfl
      refine(Zi∘Zat∘ZA∘Zal∘ZaO∘Zap∘Ze∘Zbm∘Za∘Zam∘Zf8∘Za) ?_;refine ye (f6 (q:=903) (vc:=vcE) h mpS kyS zrS Z Z Z Z Z q1 q2) ((Zcj∘Ze∘ZaX∘Za∘Zo∘Zr∘Zc5∘Z4) ?_);exact My L (rs:=[.tmp 6,.tmp 7]) Z (fun _ _ h=>h) nq (fun _=>rfl) (fun H u _=>.inr ⟨by omega,by rw[<-he];rfl,fun _ h=>h⟩)
     | some y=>
      have hir:h∈rs:=by rw[<-hfs,<-pu,hgk];rfl
      obtain⟨z,hz1,hz2⟩:=m6.1 (bm hgk);obtain⟨k0,t0,f1,p1,f2,p2⟩:=z;cases hz2;have q1:(g7 k0 (zsE zs)).elim nilSet vcE=.agg #[f1,.pointer p1,f2,.pointer p2]:=by rw[hgk];rfl
      have q2:(g7 k0 (zsE zs)).isSome=true:=by rw[hgk];rfl
      have hpl:=(hb.mem_plain (t0,f1,p1,f2,p2) (by rw[hbs];exact zt6 (f:=(·.2)) hz1))
      refine(Zi∘Zat∘ZA∘Zal∘ZaO∘Zap∘Ze∘Zbm∘Za∘Zam∘Zf8∘Za) ?_;refine ye (f6 (q:=903) (vc:=vcE) k0 mpS kyS zrS Z Z Z Z Z q1 q2) ((ZW∘ZX∘ZcN∘Ze∘ZaX∘Za∘Zo∘Za1∘Zbg∘ZH∘ZcH) ?_)
      exact yr (x:=j) (j+1) ⟨hlt2,fun a ha=>by
       rw[ju hh,mj,my] at ha;rcases ha with ha | rfl
       ·exact hin a ha
       ·exact hir⟩ J ⟨Z,Z,Z,Z,Z,Z,nm⟩
    ·obtain rfl:j=(kf L0).length:=by omega
     rw[m4] at hin;rw[na hin] at he;obtain⟨hm,hl,hP⟩:=hS he.symm;subst hP;refine(Zi∘Zat∘Zbh∘Zcv∘Za∘Z4) ?_;subst he;rw[show ff rs rs.length=(S.R.length:Int) by rw[hl,lr]];refine jy 902 903 rfl Z (xi _) ?_
     refine wn 902 (StG b2 S).res Z (pf (B:=B) (s:=.slice ps (xf S.P).length pc) (m:=m2) hm (fun e he=>by
      obtain⟨z,hz1,rfl⟩:=m6.1 he;exact hb z.2 (by rw[hbs];exact zt6 (f:=(·.2)) hz1)) hv) ?_
     exact Se L 902 (r0:=StG b2 S) (rs:=[.tmp 6,.tmp 7]) Z (fun _ _ h=>h) nq Z (fun _=>rfl) (fun H u C _ _ h=>.inl ⟨rfl,b2,rfl,h⟩)
end Go.V.L10
namespace Go.V.L11
open Go.V.L2 Go.V.L3 Go.V.L4 Go.V.L6 Go.V.L8 Go.V.L10
abbrev zmv:TypeId:=112
abbrev Sl3:=Option Addr×Nat×Nat
abbrev sl3(x:Sl3):Value:=.slice x.1 x.2.1 x.2.2
abbrev pnC(P:List Int)(x:Sl3):List Value:=[sl3 x,.int .i64 P.length]
abbrev pnQ(P:List Int)(x:Sl3)(H:Heap):Prop:=PsV (xf P) (sl3 x) H
def K9(P:List Int):ij (pnQ P):=fun _ _ _ h hle=>h.le hle
abbrev PnS(P:List Int):Value->Heap->Prop:=fun v H=>∃ x:Sl3,v=.agg #[sl3 x,.int .i64 P.length]/\pnQ P x H
def PnS.mono:Kn.mono (.sat (PnS P)):=fun _ _ _ ⟨x,h1,h2⟩ hle=>⟨x,h1,h2.le hle⟩
def znd(v:Value)(H:Heap)(h:PnS P v H):∃ x:Sl3,pnQ P x H/\ja v=pnC P x:=by
 obtain⟨x,rfl,h2⟩:=h;exact⟨x,h2,rfl⟩
abbrev PnE(P:List Int):Value->Heap->Prop:=TupS [PnS P,fun v _=>v=.int .i64 0]
def PnE.mono{P:List Int}:Kn.mono (.sat (PnE P)):=TupS.mono fun φ hφ=>by
 simp only[nz,zs8,or_false] at hφ;rcases hφ with rfl | rfl
 ·exact PnS.mono
 ·exact fun _ _ _ h _=>h
def zm1{b:Value}(h1:φ1 a H)(h2:φ2 b H):TupS [φ1,φ2] (.tuple #[a,b]) H:=⟨[a,b],rfl,rfl,fun i φ x hi hx=>by
 match i with
 | 0=>cases hi;cases hx;exact h1
 | 1=>cases hi;cases hx;exact h2
 | i+2=>cases hi⟩
attribute [local irreducible] V N X VO Par XP LV StepOK Has Ret RetL RetO RetT jh RetX RetY Pan o5 Src
def zci(hr:r≠0)(hn:n<=4096)(hnew:r∉L0)(hz2:(xf L0).length<1024)(hz:L0.length<=1000000000000){x:Sl3}(hB:zwe B w)(hv:pnQ L0 x B):
  Ret zwf 77 [.agg #[sl3 x,.int .i64 L0.length],.int .u64 r,.int .i64 n] w B (PnE (L0++List.replicate n r)):=by
 by_cases h0:n=0
 ·subst h0;have h:=zck (t:=(L0.length:Int)) hr (p:=x.1) (k:=x.2.1) (c:=x.2.2) hB;refine h.mono fun v H hle e=>?_;subst e;rw[show L0++List.replicate 0 r=L0 from mi _];exact zm1 ⟨x,rfl,hv.le hle⟩ Z
 ·have h:=zcj hr (Nat.pos_of_ne_zero h0) hn hnew hz2 hz hB hv;refine h.mono fun v H hle hp=>?_;obtain⟨s,rfl,hs⟩:=hp;obtain⟨p,c,rfl⟩:=ke hs;exact zm1 ⟨(p,_,c),rfl,hs⟩ Z
end Go.V.L11
namespace Go.V.L11
open Go.V.L2 Go.V.L3 Go.V.L4 Go.V.L6 Go.V.L8 Go.V.L10
structure LdZ(zs:List (Int×List U))(P:List Int)(last:Int):Prop where
 asc:Yn (zs.map (·.1))
 mx:∀ a∈0::zs.map (·.1),a<=last
 lst:ff (zs.map (·.1)) zs.length=last
 pk:∀ r∈P,r∈zs.map (·.1)
 tl:∀ z∈zs,z.2.length<=4096
def LdZ.snoc(h:LdZ zs P last)(hx:last<x){s:List U}(hs:s.length<=4096)(n:Nat):LdZ (zs++[(x,s)]) (P++List.replicate n x) x:=by
 have hm:(zs++[(x,s)]).map (·.1)=zs.map (·.1)++[x]:=by rw[zr1];rfl
 refine⟨?_,?_,?_,?_,?_⟩
 ·rw[hm];unfold Yn;rw[<-zsa,zsr];refine⟨h.asc,ztc _ _,fun a ha b hb=>?_⟩;rw[my.1 hb];have:=h.mx a ha;omega
 ·intro a ha;rw[hm,<-zsa,mj,my] at ha;rcases ha with ha | rfl
  ·have:=h.mx a ha;omega
  ·omega
 ·rw[hm,nr,zsu];exact d9 (by rw[zvp (by rw[mg];omega),mg,zsx];rfl)
 ·intro r hr;rw[hm,mj];rcases mj.1 hr with h1 | h1
  ·exact .inl (h.pk r h1)
  ·exact .inr (by rw[zvw] at h1;rw[h1.2];exact my.2 Z)
 ·intro z hz;rcases mj.1 hz with h1 | h1
  ·exact h.tl z h1
  ·rw[my.1 h1];exact hs
def loR(zs:List (Int×List U)):List (Option (List U)):=(List.range (ff (zs.map (·.1)) zs.length).toNat).map fun i=>g7 ((i+1:Nat):Int) zs
abbrev loS(y:List (Int×List U)×List Int):Sto:=⟨loR y.1,y.2⟩
def LdZ.kpt{zs:List (Int×List U)}{P:List Int}{last:Int}(h:LdZ zs P last)(r:Int):kpt (loR zs) r=g7 r zs:=by
 by_cases hr:0<r/\r<=last
 ·obtain⟨j,rfl⟩:∃ j:Nat,r=((j+1:Nat):Int):=⟨(r-1).toNat,by omega⟩
  rw[cu];unfold loR;rw[h.lst,zr8,List.getElem?_range J];show(some (g7 ((j+1:Nat):Int) zs)).join=_;cases g7 ((j+1:Nat):Int) zs<;>rfl
 ·have h1:g7 r zs=none:=by
   cases hg:g7 r zs with
   | none=>rfl
   | some t=>
    have hm:=pu.1 (show(g7 r zs).isSome=true by rw[hg];rfl);exact ni ⟨(mn.1 h.asc).1 r hm,h.mx r (mf _ hm)⟩ hr
  rw[h1]
  cases hk:L10.kpt (loR zs) r with
  | none=>rfl
  | some t=>
   have h2:=f7 (R:=loR zs) (r:=r) (by rw[hk];rfl);unfold loR at h2;rw[mg,zu9,h.lst] at h2;omega
def LdZ.len{last:Nat}(h:LdZ zs P last):(loR zs).length=last:=by
 unfold loR;rw[mg,zu9,h.lst,zsh]
def LdZ.mkE{zs:List (Int×List U)}{P:List Int}{last:Int}(h:LdZ zs P last)(h0:0<zs.length)(h1:zs.length<=1024):mkE (zs.map (·.1)) P=0:=by
 unfold L10.mkE;rw[mg,nc J,nc J,na h.asc,na fun r hr=>h.pk r (k7.1 hr)]
def Tx{r:Int}:∀ {zs:List (Int×List U)} {bs:List SB},bs.map Prod.fst=zs.map Prod.snd->(g7 r (zsE ((zs.map (·.1)).zip bs))).map Prod.fst=g7 r zs
 | [],bs,h=>by rw[zr7,List.zip_nil_left];rfl
 | z::zs,[],h=>by cases h
 | z::zs,b::bs,h=>by
  rw[mt,mt] at h;obtain⟨h1,h2⟩:=List.cons.inj h;rw[mt,List.zip_cons_cons];unfold zsE;rw[mt,ud,ud];by_cases e:r=z.1
  ·rw[na e,na e,<-h1];rfl
  ·rw[nc e,nc e];exact Tx h2
def H8:∀ {zs:List (Int×List U)} {bs:List SB},bs.map Prod.fst=zs.map Prod.snd->((zs.map (·.1)).zip bs).map (·.1)=zs.map (·.1)/\((zs.map (·.1)).zip bs).map (·.2)=bs/\((zs.map (·.1)).zip bs).length=zs.length
 | [],[],_=>⟨rfl,rfl,rfl⟩
 | [],b::bs,h=>by cases h
 | z::zs,[],h=>by cases h
 | z::zs,b::bs,h=>by
  rw[mt,mt] at h;obtain⟨_,h2⟩:=List.cons.inj h;have ih:=H8 h2;rw[mt,List.zip_cons_cons,mt,mt,ma,ih.1,ih.2.1,ih.2.2];exact⟨rfl,rfl,rfl⟩
def LdZ.mapOK(h:LdZ zs P last){bs:List SB}(hb:bs.map Prod.fst=zs.map Prod.snd):MapOK (zsE ((zs.map (·.1)).zip bs)) (loR zs):=
 ⟨by
  have h1:(zsE ((zs.map (·.1)).zip bs)).map Prod.fst=zs.map (·.1):=by unfold zsE;rw[List.map_map];exact(H8 hb).1
  rw[h1];exact(mn.1 h.asc).2.imp fun hlt e=>by omega,fun r=>by rw[Tx hb,h.kpt]⟩
structure LdJ(bs:List Nat)(N:Nat)(Y:((List (Int×List U)×List Int)×Rd)×(Int×Int))(i last:Nat)(s:List U)(zs:List (Int×List U))(P:List Int)(R:Rd):Prop where
 hi:i<=N
 hW:ldW bs (N-i) last s zs P R=Y
 h0:R.err=0
 at_:R.at_<=bs.length
 zl:zs.length=i
 sl:s.length<=4096
 lastB:last<=18446744073709551615
 pn:∀ r∈P,r<=(last:Int)
 pl:P.length<=i*4096
 ph:(xf P).length<=i
 z:LdZ zs P (last:Int)
def LdJ.new{N:Nat}{Y:((List (Int×List U)×List Int)×Rd)×(Int×Int)}{last:Nat}{s:List U}(h:LdJ bs N Y i last s zs P R){st:Nat}(hs:0<st):((last+st:Nat):Int)∉P:=fun hm=>by
 have:=h.pn _ hm;omega
def LdJ.next{N:Nat}{Y:((List (Int×List U)×List Int)×Rd)×(Int×Int)}{last:Nat}{s:List U}(h:LdJ bs N Y i last s zs P R)(hi:i<N){st:Nat}(g2:0<st/\st<=18446744073709551615-last)(hn:n<=4096){s':List U}{R4:Rd}(hs':s'.length<=4096)(h4:R4.err=0)(a4:R4.at_<=bs.length)
  (hm:N-i=m+1) (hW:ldW bs m (last+st) s' (zs++[(((last+st:Nat):Int),s')]) (P++List.replicate n ((last+st:Nat):Int)) R4=Y):
  LdJ bs N Y (i+1) (last+st) s' (zs++[(((last+st:Nat):Int),s')]) (P++List.replicate n ((last+st:Nat):Int)) R4:=by
 have hb:=h.lastB;have hnew:=h.new g2.1;refine⟨hi,by rw[show N-(i+1)=m by omega];exact hW,h4,a4,by rw[nr,h.zl];rfl,hs',by omega,fun r hr=>?_,?_,?_,h.z.snoc J hs' n⟩
 ·rcases mj.1 hr with h1 | h1
  ·have:=h.pn r h1;omega
  ·rw[zvw] at h1;rw[h1.2];exact zsw _
 ·have:=h.pl;rw[nr,zvx];omega
 ·have hph:=h.ph;by_cases h0:n=0
  ·subst h0;rw[show P++List.replicate 0 ((last+st:Nat):Int)=P from mi _];omega
  ·rw[Eo (Nat.pos_of_ne_zero h0) hnew,sn (zbb _)];omega
abbrev sbQ(zs:List (Int×List U))(x:List SB)(H:Heap):Prop:=x.map Prod.fst=zs.map Prod.snd/\SbOK x H
def Kw(zs:List (Int×List U)):ij (sbQ zs):=fun _ _ _ h hle=>⟨h.1,h.2.le hle⟩
def zft{x:List SB}{s:List U}{f1 k1:Value}{p1 q1:Option Addr}(h:sbQ zs x H)(hs:SetV s (.agg #[f1,.pointer p1,k1,.pointer q1]) H):sbQ (zs++[(r,s)]) (x++[(s,(f1,p1,k1,q1))]) H:=by
 refine⟨by rw[zr1,zr1,h.1];rfl,fun b hb=>?_⟩;rcases mj.1 hb with h1 | h1
 ·exact h.2 b h1
 ·rw[my] at h1;subst h1;exact hs
def _root_.Zf9(t:Wr Y->A:=by intro h;refine ye (qk L (q:=921) Z Z Z Z) ?_;exact h.1)(h:Y):A:=t ⟨h⟩
def LdR(y:(List (Int×List U)×List Int)×(Int×Int)):Res where
 P v H u C:=(y.2.2=0/\∃ b,v=.tuple #[po b,.int .i64 0,.int .i64 0]/\(StG b (loS y.1)).P H u C)\/(y.2.2≠0/\v=.tuple #[.pointer none,.int .i64 y.2.1,.int .i64 y.2.2]/\∀ k,¬ C k)
 st:=fun h a b c d=>h.imp (fun⟨h1,x,h2,h3⟩=>⟨h1,x,h2,(StG x (loS y.1)).st h3 a b c d⟩) id
def zn3(he:y.2.2=0)(h:RetO zwf f args w B (LdR y)):RetO zwf f args w B (F5 (fun b=>.tuple #[po b,.int .i64 0,.int .i64 0]) fun b=>StG b (loS y.1)):=
 RetL.mono h fun _ _ _ _ ⟨C,h1,h2⟩=>⟨C,h1.elim (fun⟨_,b,hb,hs⟩=>⟨b,hb,hs⟩) fun h=>ni he h.1,h2⟩
def zcy(he:y.2.2≠0)(h:RetO zwf f args w B (LdR y)):Ret zwf f args w B fun v _=>v=.tuple #[.pointer none,.int .i64 y.2.1,.int .i64 y.2.2]:=
 RetL.mono h fun _ _ _ _ ⟨_,h1,_⟩=>h1.elim (fun h=>ni h.1 he) fun h=>h.2.1
def zjo{κ:Kap}{s:List U}(h:κ t=some (.own (SlR A0 1 ((zs.map (·.1)).length+1) ((zs.map (·.1)).map (Value.int .u64)++[.int .u64 r])))):κ t=some (.own (SlR A0 1 ((zs++[(r,s)]).map (·.1)).length (((zs++[(r,s)]).map (·.1)).map (Value.int .u64)))):=by
 rw[h,zr1,zr1,nr];rfl
def zka{κ:Kap}{y:List SB}{s:List U}{f1 k1:Value}{p1 q1:Option Addr}(h:κ t=some (.own (SlR tySt 4 (y.length+1) (y.flatMap sbc++[f1,.pointer p1,k1,.pointer q1])))):κ t=some (.own ((fun y:List SB=>SlR tySt 4 y.length (y.flatMap sbc)) (y++[(s,(f1,p1,k1,q1))]))):=by
 rw[h];dsimp only;rw[zr5,nr];rfl
attribute [local irreducible] V N X VO Par XP LV StepOK Has Ret RetL RetO RetT jh RetX RetY Pan o5 Src
def de{B0:Heap}{O:Boxes}{ba be bs:Nat}{x y z:Value}{a:Int}{z0:List (Int×List U)×List Int}(he:e≠0)(hs:Since (FLd w ba be bs) B0 B):
  XP (FLd w ba be bs) B n O (ofL (KLd ba be bs x y z)) (wrV a e) (bodyPostM Fence.wide 0 zwf Tryz.f26 (dm w B0 noL (zme w (LdR (z0,(a,e)))))):=
 zcs he hs fun _ _ ⟨v,h1,H,h2,h3⟩=>⟨v,h1,H,h2,fun _=>False,.inr ⟨he,h3,fun _ h=>h⟩,fun _ h=>h.elim⟩
def Lu{bs:List Nat}(hb:∀ b∈bs,b<=255)(hz:bs.length<=1099511627776)(hB:zwe B w)(hv:BsV bs fu v B):
  RetO zwf 26 [v] w B (LdR (ldF bs)):=by
 obtain⟨p0,c0,rfl⟩:=ke hv;obtain⟨Y0,hY0⟩:∃ Y0,ldF bs=Y0:=⟨_,rfl⟩
 rw[hY0];refine wt Tryz.func26 Z Tryz.ntmps26 (np Z) hB ((ZaB∘ZX∘Zc4) ?_);refine jg 2 910 rfl fun bs0=>?_;refine jg 3 911 rfl fun ba=>?_;refine jg 4 912 rfl fun be=>?_;refine zel (id:=1) 1 rfl ((ZaN∘Zah) ?_);(refine zk2 (zwd:=1) Z Z Z Z ?_;refine zk ?_);refine(Zdj∘Zi) ?_;refine Zn (h:=?_);refine z7 (v6 L Z Z (zn Z) Z Z Z (fun u H hH hle _=>znq hz hH (hv.le hle))) Z ?_;refine ix 15 922 rfl fun rb=>?_;refine zjk (X:=Value) 922 (r:=fun sv=>(GRd rb sv ⟨0,0,0⟩).res) (φ:=fun sv H=>BsV bs false sv H) (hφ:=fun _ _ _ h hle=>h.le hle) Z fun sv H1 hs1 hsv=>?_;refine z7 (yv (cs:=[_,_]) Z Z zpw Z Z) Z (ZdW (h:=?_));refine qf (yo (.inr Z) Z) (Zk (h:=?_));refine jg 5 921 rfl fun sb=>?_;refine jy 921 922 rfl Z (xi (GRd rb sv ⟨0,0,0⟩)) ?_;obtain⟨z,R1,hz1⟩:∃ z R1,vk bs 1024 ⟨0,0,0⟩=(z,R1):=⟨_,_,rfl⟩
 have ha1:=sk (bs:=bs) (lim:=1024) (R:=⟨0,0,0⟩) (mb _);have hlv:=fun h=>re (bs:=bs) (lim:=1024) (R:=⟨0,0,0⟩) E h;unfold ldF at hY0;rw[hz1] at ha1 hlv hY0;dsimp only at ha1 hlv hY0;by_cases h1:R1.err≠0
 ·rw[na h1] at hY0;subst hY0;refine wm (id:=3) 1 rfl (ZcH (h:=?_));refine wj (r:=(kq sb rb sv 0 ⟨0,0,0⟩).res) (zwd:=1) L 921 rfl Z Z Z Z (fun u H C hH hle hr hC=>by have h:=Kr (lim:=1024) (R:=⟨0,0,0⟩) hb hz (mb _) J (by rw[hz1];exact h1) hH (hsv.le hle) hr hC;rw[hz1] at h;exact h) (fun _ _ _ _ h=>h) ?_
  repeat (first | refine w7 ?_ | refine wc ?_)
  exact iq (KLd ba be bs0 _ _ _) ⟨Z,Z,Z,Z,Z,Z,nm⟩ (de h1 hs1)
 ·rw[nc h1] at hY0;have h10:R1.err=0:=zru.1 h1;obtain⟨n,rfl,hn⟩:=hlv h10;by_cases hn0:n=0
  ·subst hn0;rw[na (show((0:Nat):Int)=0 from rfl)] at hY0;subst hY0;refine Zz (h:=?_);refine qf (yj L 921 (kq sb rb sv 0 R1) (.int .i64 ((0:Nat):Int)) (r:=kq sb rb sv 0 ⟨0,0,0⟩) Z Z Z Z Z (fun u H C hH hle hr hC=>by have h:=size_ret (lim:=1024) hb hz (mb _) J (by rw[hz1];exact h10) hH (hsv.le hle) hr hC;rw[hz1] at h;exact h)) ?_;refine Ze (h:=?_);refine wm (id:=4) 3 rfl ((Zb∘ZG∘Zah) ?_);refine wj (r:=(kq sb rb sv 0 R1).res) (zwd:=3) L 921 rfl Z Z Z Z (fun u H C hH hle hr hC=>l6 hH hr hC) (fun _ _ _ _ h=>h) ?_
   repeat (first | refine w7 ?_ | refine wc ?_)
   exact iq (KLd ba be bs0 _ _ _) ⟨Z,Z,Z,Z,Z,Z,nm⟩ (de E hs1)
  ·rw[nc J,zsh] at hY0;refine Zz (h:=?_);refine qf (yj L 921 (kq sb rb sv 0 R1) (.int .i64 n) (r:=kq sb rb sv 0 ⟨0,0,0⟩) Z Z Z Z Z (fun u H C hH hle hr hC=>by have h:=size_ret (lim:=1024) hb hz (mb _) J (by rw[hz1];exact h10) hH (hsv.le hle) hr hC;rw[hz1] at h;exact h)) ?_;refine(Ze∘ZE∘Zb∘ZN) ?_;refine qf (xg L 921 (kq sb rb sv 0 R1) (r:=kq sb rb sv 0 R1) Z Z Z Z Z (fun u H C hH _ hr hC=>jb hH hr hC)) ((Zk∘ZF∘Ze∘Z5∘Ze∘Z7∘Zc4∘Z0∘ZdK∘ZX∘Zv∘ZaF∘Zan∘ZM∘Zb∘Zdq) ?_);refine um 7 A0 1 rfl (um 8 tySt 4 rfl (o3 (X:=List SB) 8 (r:=fun x=>SlR tySt 4 x.length (x.flatMap sbc)) (φ:=sbQ []) (Kw []) [] ⟨rfl,fun _ h=>by cases h⟩ Z ?_));refine o3 (X:=Sl3) 9 (r:=fun x=>Cell (pnC [] x) zmv) (φ:=pnQ []) (K9 []) (none,0,0) SlV.nil Z (o3 (X:=SXp) 11 (r:=fun x=>Cell (scs x.1) tySt) (φ:=Kp []) (we []) ⟨(.nilFunc,none,.nilFunc,none),rfl⟩ SetV.nil Z ?_);obtain⟨Y,hY⟩:∃ Y,ldW bs n 0 [] [] [] R1=Y:=⟨_,rfl⟩
   rw[hY] at hY0;have hj0:LdJ bs n Y 0 0 [] [] [] R1:=⟨mb _,hY,h10,ha1,rfl,mb _,by decide,(fun _ h=>by cases h),mb _,mb _,⟨ztc _ _,fun a ha=>by rw[zr7,my] at ha;subst ha;exact zsw _,rfl,(fun _ h=>by cases h),(fun _ h=>by cases h)⟩⟩
   refine xu (fun x:Nat×Nat×List U×List (Int×List U)×List Int×Rd×Nat=>[(2,.is (k8 bs0)),(3,.is (k8 ba)),(4,.is (k8 be)),(910,.own (xr bs0 [.pointer none] tyPS)),(911,.own (xr ba [.int .i64 0] ze3)),(912,.own (xr be [.int .i64 0] P6)),(5,.is (k8 sb)),
    (7,.own (SlR A0 1 (x.2.2.2.1.map (·.1)).length ((x.2.2.2.1.map (·.1)).map (Value.int .u64)))),(8,.own (ExR (fun y:List SB=>SlR tySt 4 y.length (y.flatMap sbc)) (sbQ x.2.2.2.1) (Kw _))),(9,.own (ExR (fun y:Sl3=>Cell (pnC x.2.2.2.2.1 y) zmv) (pnQ x.2.2.2.2.1) (K9 _))),(10,.is (.int .u64 x.2.1)),(11,.own (ExR (fun y:SXp=>Cell (scs y.1) tySt) (Kp x.2.2.1) (we _))),(25,.is (.int .i64 n)),(26,.is (.int .i64 x.1)),(921,.own (kq sb rb sv x.2.2.2.2.2.2 x.2.2.2.2.2.1).res)])
    (fun x=>LdJ bs n Y x.1 x.2.1 x.2.2.1 x.2.2.2.1 x.2.2.2.2.1 x.2.2.2.2.2.1) (fun x=>n-x.1) (0,0,[],[],[],R1,0) hj0 ⟨rfl,rfl,rfl,rfl,rfl,rfl,rfl,rfl,rfl,rfl,rfl,rfl,rfl,rfl,rfl,nm⟩ ?_
   rintro⟨i,last,s,zs,P,R,fr⟩ hj;dsimp only at hj |-;have hRa:=hj.at_;by_cases hlt:i<n
   ·obtain⟨m,hm⟩:∃ m,n-i=m+1:=⟨n-i-1,by omega⟩
    have hW:=hj.hW;rw[hm] at hW;unfold ldW at hW;have ha2:(ry bs R).2.at_<=bs.length:=iy hRa (Rm hRa);have hlB:=hj.lastB;have hsl:=hj.sl;obtain⟨st,R2,hz2⟩:∃ st R2,ry bs R=(st,R2):=⟨_,_,rfl⟩
    rw[hz2] at hW ha2;dsimp only at hW ha2;refine ug (r1:=xr sb [k8 rb,.int .i64 fr] Ss) (r2:=(GRd rb sv R).res) 921 922 rfl (xi _) ?_;by_cases h2:R2.err≠0
    ·rw[na h2] at hW;subst hW;rw[na (by exact h2)] at hY0;subst hY0;refine(Zi∘ZaH∘ZA) ?_;refine wm (id:=11) 6 rfl ((Zcm∘Zf9) ?_);refine wd 921 922 rfl Z (xi (GRd rb sv R)) ?_;refine(ZaN∘Zah) ?_;refine wj (r:=(kq sb rb sv fr R).res) (zwd:=6) L 921 rfl Z Z Z Z (fun u H C hH hle hr hC=>Qz (x:=st) (fst:=[k8 rb]) (cap:=[]) Z h2 hH hr hC (fun u3 H3 C3 hH3 hle3 hr3 hC3=>by have h:=S6 hb hz hRa hH3 ((hsv.le hle).le hle3) hr3 hC3;rw[hz2] at h;exact h)) (fun _ _ _ _ h=>h) ?_
     repeat (first | refine w7 ?_ | refine wc ?_)
     exact iq (KLd ba be bs0 _ _ _) ⟨Z,Z,Z,Z,Z,Z,nm⟩ (de h2 hs1)
    ·rw[nc h2] at hW;have h20:R2.err=0:=zru.1 h2;have hws:IntKind.u64.wrap (18446744073709551615-(last:Int))=((18446744073709551615-last:Nat):Int):=(wrap_u64 J J).trans J;by_cases h3:¬ (0<st/\st<=18446744073709551615-last)
     ·rw[na h3] at hW;subst hW;rw[na (show(5:Int)≠0 by decide)] at hY0;subst hY0;by_cases hst0:st=0
      ·have hst1:((st:Nat):Int)=0:=J;refine(Zi∘ZaH∘ZA∘Zay∘Zcm∘Zf9) ?_;refine wd 921 922 rfl Z (xi (GRd rb sv R)) ?_;refine ZaN (h:=?_);refine qf (yj L 921 (kq sb rb sv R.at_ R2) (.int .u64 st) (r:=kq sb rb sv fr R) Z Z Z Z Z (fun u H C hH hle hr hC=>sd (fst:=[k8 rb]) (cap:=[]) Z h20 hH hr hC (fun u3 H3 C3 hH3 hle3 hr3 hC3=>by have h:=S6 hb hz hRa hH3 ((hsv.le hle).le hle3) hr3 hC3;rw[hz2] at h;exact h))) ?_;refine Ze (h:=?_);refine wm (id:=12) 9 rfl ((Zb∘ZG∘Za9∘Zf∘Zah) ?_);refine wj (r:=(kq sb rb sv R.at_ R2).res) (zwd:=9) L 921 rfl Z Z Z Z (fun u H C hH hle hr hC=>l6 hH hr hC) (fun _ _ _ _ h=>h) ?_
       repeat (first | refine w7 ?_ | refine wc ?_)
       exact iq (KLd ba be bs0 _ _ _) ⟨Z,Z,Z,Z,Z,Z,nm⟩ (de E hs1)
      ·have hst1:0<st/\18446744073709551615-last<st:=J;refine(Zi∘ZaH∘ZA∘Zay∘Zcm∘Zf9) ?_;refine wd 921 922 rfl Z (xi (GRd rb sv R)) ?_;refine ZaN (h:=?_);refine qf (yj L 921 (kq sb rb sv R.at_ R2) (.int .u64 st) (r:=kq sb rb sv fr R) Z Z Z Z Z (fun u H C hH hle hr hC=>sd (fst:=[k8 rb]) (cap:=[]) Z h20 hH hr hC (fun u3 H3 C3 hH3 hle3 hr3 hC3=>by have h:=S6 hb hz hRa hH3 ((hsv.le hle).le hle3) hr3 hC3;rw[hz2] at h;exact h))) ?_;refine Ze (h:=?_);refine wm (id:=12) 9 rfl ((Zb∘ZN∘Zu∘Zaj∘ZcV∘Zf∘Zah) ?_);refine wj (r:=(kq sb rb sv R.at_ R2).res) (zwd:=9) L 921 rfl Z Z Z Z (fun u H C hH hle hr hC=>l6 hH hr hC) (fun _ _ _ _ h=>h) ?_
       repeat (first | refine w7 ?_ | refine wc ?_)
       exact iq (KLd ba be bs0 _ _ _) ⟨Z,Z,Z,Z,Z,Z,nm⟩ (de E hs1)
     ·rw[nc h3] at hW;have h30:=zru.1 h3;have hwa:IntKind.u64.wrap ((last:Int)+(st:Int))=((last+st:Nat):Int):=(wrap_u64 J J).trans J;have ha3:=sk (bs:=bs) (lim:=4096) ha2;have hlv2:=fun h=>re (bs:=bs) (lim:=4096) (R:=R2) E h;obtain⟨zq,R3,hz3⟩:∃ zq R3,vk bs 4096 R2=(zq,R3):=⟨_,_,rfl⟩
      rw[hz3] at hW ha3 hlv2;dsimp only at hW ha3 hlv2;refine(Zi∘ZaH∘ZA∘Zay∘Zcm∘Zf9) ?_;refine wd 921 922 rfl Z (xi (GRd rb sv R)) ?_;refine ZaN (h:=?_);refine qf (yj L 921 (kq sb rb sv R.at_ R2) (.int .u64 st) (r:=kq sb rb sv fr R) Z Z Z Z Z (fun u H C hH hle hr hC=>sd (fst:=[k8 rb]) (cap:=[]) Z h20 hH hr hC (fun u3 H3 C3 hH3 hle3 hr3 hC3=>by have h:=S6 hb hz hRa hH3 ((hsv.le hle).le hle3) hr3 hC3;rw[hz2] at h;exact h))) ?_;refine(Ze∘ZQ∘Zb∘ZN∘Zu∘Zaj∘Zda∘Zf) ?_;refine qf (xg L 921 (kq sb rb sv R.at_ R2) (r:=kq sb rb sv R.at_ R2) Z Z Z Z Z (fun u H C hH _ hr hC=>jb hH hr hC)) ((Zk∘ZU∘Zb∘ZH∘Ze) ?_);refine vh 9 rfl fun x9 H2 hs2 hp9=>?_;obtain⟨pp,pk,pc⟩:=x9;dsimp only at hp9 |-;have hs12:=hs1.trans hs2;have hsv2:=hsv.le hs2.le;by_cases h4:R3.err≠0
      ·rw[na h4] at hW;subst hW;rw[na (by exact h4)] at hY0;subst hY0;refine H7 (id:=14) 3 [(52,[921]),(200052,[2,3,4,910,911,912])] kr Z T (wq (qg L (vs:=[_,_]) (ya Z) Z Z Z Z ⟨_,rfl⟩) Z (ZeQ (h:=?_)));refine ZeQ (h:=?_);refine tu [(2,.is (k8 bs0)),(3,.is (k8 ba)),(4,.is (k8 be)),(910,.own (xr bs0 [.pointer none] tyPS)),(911,.own (xr ba [.int .i64 0] ze3)),(912,.own (xr be [.int .i64 0] P6)),(51,.is (k8 sb)),(921,.own (kq sb rb sv R.at_ R2).res)] T ⟨Z,Z,Z,Z,Z,Z,Z,Z,nm⟩ (wj (r:=(kq sb rb sv R.at_ R2).res) (zwd:=3) L 921 rfl Z Z Z Z (fun u H C hH hle hr hC=>by have h:=Kr (lim:=4096) hb hz ha2 J (by rw[hz3];exact h4) hH (hsv2.le hle) hr hC;rw[hz3] at h;exact h) (fun _ _ _ _ h=>h) ?_)
       repeat (first | refine w7 ?_ | refine wc ?_)
       exact iq (KLd ba be bs0 _ _ _) ⟨Z,Z,Z,Z,Z,Z,nm⟩ (de h4 hs12)
      ·rw[nc h4] at hW;have h40:R3.err=0:=zru.1 h4;obtain⟨k,rfl,hk⟩:=hlv2 h40;rw[zsh] at hW;have hnew:=hj.new h30.1;have hph:=hj.ph;have hpl0:=hj.pl;have hr0:((last+st:Nat):Int)≠0:=J;have hm1:Kn.mono (.sat (PnS (P++List.replicate k ((last+st:Nat):Int)))):=PnS.mono;have hm2:Kn.mono (.sat (fun v _=>v=Value.int .i64 0)):=fun _ _ _ h _=>h;refine qp (id:=14) [(52,[921])] kr T ((ZeW∘Zm) ?_);refine xo (yj L 921 (kq sb rb sv R2.at_ R3) (.int .i64 k) (r:=kq sb rb sv R.at_ R2) Z Z Z Z Z (fun u H C hH hle hr hC=>by have h:=size_ret (lim:=4096) hb hz ha2 J (by rw[hz3];exact h40) hH (hsv2.le hle) hr hC;rw[hz3] at h;exact h)) Z Z ?_;refine z9 (xh (φ:=PnE (P++List.replicate k ((last+st:Nat):Int))) L Z Z (zn Z) Z Z Z PnE.mono (fun u H hH hle _=>zci (x:=(pp,pk,pc)) hr0 hk hnew J J hH (SlV.le hp9 hle))) Z ((ZaG∘ZdZ∘Zea) ?_);refine z9 (au L (X:=Sl3) (fun x=>pnC (P++List.replicate k ((last+st:Nat):Int)) x) (pnQ (P++List.replicate k ((last+st:Nat):Int))) (K9 _) znd (fun x=>⟨rfl,rfl⟩) Z Z Z Z Z) Z (Zbf (h:=?_));refine vh 11 rfl fun x11 H3 hs3 hset=>?_;obtain⟨⟨f1,p1,f2,p2⟩,hpl⟩:=x11;dsimp only[scs] at hset hpl |-;have hs13:=hs12.trans hs3;have hsv3:=hsv2.le hs3.le;have ha4:=zlv (l:=s) ha3;have hsl4:=zhg (bs:=bs) (R:=R3) hsl;have he4:=fun h=>zhh (bs:=bs) (l:=s) (R:=R3) h;have hcr:=fun(h:(Bz bs s R3).2.2=0) {v:Value} {w:World} {B:Heap} {C:Nat->Prop} (hB:zwe B w) (hs:BsV bs false sv B) (hv:SetV s v B) (hr:(kq sb rb sv R2.at_ R3).P B w C) (hC:ZCB C w B)=>R5 hsl hb hz ha3 h hB hs hv hr hC;have hcp:=fun(h:(Bz bs s R3).2.2≠0) {v:Value} {w:World} {B:Heap} {C:Nat->Prop} (hB:zwe B w) (hs:BsV bs false sv B) (hv:SetV s v B) (hr:(kq sb rb sv R2.at_ R3).P B w C) (hC:ZCB C w B)=>R7 hsl hb hz ha3 h hB hs hv hr hC;generalize Bz bs s R3=zv9 at hW ha4 hsl4 he4 hcr hcp;obtain⟨⟨s',R4⟩,⟨ca,ce⟩⟩:=zv9;dsimp only at hW ha4 hsl4 he4 hcr hcp;by_cases h5:ce≠0
       ·rw[na h5] at hW;subst hW;rw[na (by exact h5)] at hY0;subst hY0;refine wm (id:=15) 2 rfl ((Za∘Zcx∘Zah) ?_);refine wj (r:=(kq sb rb sv R2.at_ R3).res) (zwd:=2) L 921 rfl Z Z Z Z (fun u H C hH hle hr hC=>hcp h5 hH (hsv3.le hle) (hset.le hle) hr hC) (fun _ _ _ _ h=>h) ?_
        repeat (first | refine w7 ?_ | refine wc ?_)
        exact iq (KLd ba be bs0 _ _ _) ⟨Z,Z,Z,Z,Z,Z,nm⟩ (de h5 hs13)
       ·rw[nc h5] at hW;have h50:ce=0:=zru.1 h5;have hj2:=hj.next hlt (st:=st) (n:=k) h30 hk hsl4 (he4 h50) ha4 hm hW;refine(Zat∘Za∘Zcx) ?_;refine qf (t5 L 921 (kq sb rb sv R3.at_ R4) (SetV s') (r:=kq sb rb sv R2.at_ R3) Z Z Z Z Z SetV.mono (fun u H C hH hle hr hC=>hcr h50 hH (hsv3.le hle) (hset.le hle) hr hC)) (z7 (au L (X:=SXp) (fun x=>scs x.1) (Kp s') (we _) Nx (fun x=>⟨rfl,x.2⟩) Z Z Z Z Z) Z (ZB (h:=?_)));refine vh 11 rfl fun x12 H4 hs4 hset4=>?_;obtain⟨⟨f3,p3,f4,p4⟩,hpl4⟩:=x12;dsimp only[scs] at hset4 hpl4 |-;refine vh 8 rfl fun y8 H5 hs5 hq8=>?_;have hset5:=hset4.le hs5.le;have hzl1:(zs.map (·.1)).length<=1024:=by rw[mg,hj.zl];omega
        have hyl1:y8.length<=1024:=by have h:=nh List.length hq8.1;rw[mg,mg,hj.zl] at h;omega
        refine qp (id:=16) [(59,[7]),(62,[59]),(63,[8]),(66,[63]),(7,[62]),(8,[66])] kr T (xo (yo (.inl Z) Z) Z Z ((Zl∘ZdN) ?_));refine xo (jx L Z Z Z (eg Z) Z zes Z Z J J) Z Z (xo (yo (.inl Z) Z) Z Z ((ZcY∘ZdN) ?_));refine xo (jx L Z Z Z (eg Z) Z zro Z M J J) Z Z (xo (yo (.inr Z) Z) Z Z (xo (yo (.inr Z) Z) Z Z ((ZbP∘Zbm∘ZbE) ?_)));refine As (X:=List SB) 8 (r:=fun x=>SlR tySt 4 x.length (x.flatMap sbc)) (Kw _) (y8++[(s',(f3,p3,f4,p4))]) (zft (r:=((last+st:Nat):Int)) hq8 hset5) (by exact zka Z) ?_;exact As (X:=SXp) 11 (r:=fun x=>Cell (scs x.1) tySt) (we s') ⟨(f3,p3,f4,p4),hpl4⟩ hset5 Z (v9 (x:=(i,last,s,zs,P,R,fr)) (i+1,last+st,s',zs++[(((last+st:Nat):Int),s')],P++List.replicate k ((last+st:Nat):Int),R4,R3.at_) (hs2.trans (hs3.trans (hs4.trans hs5))) hj2 (Nat.sub_lt_sub_left hlt (zuk i)) ⟨Z,Z,Z,Z,Z,Z,Z,zjo Z,Z,Z,Z,Z,Z,Z,Z,nm⟩)
   ·obtain rfl:i=n:=by have:=hj.hi;omega
    have hW:=hj.hW;rw[zsx] at hW;have hW2:(((zs,P),R),((0:Int),(0:Int)))=Y:=hW;subst hW2;rw[nc (fun h=>h rfl)] at hY0;dsimp only at hY0;by_cases h5:(Mn bs R).2≠0
    ·rw[na h5] at hY0;subst hY0;refine(Zi∘ZaH∘Zbh) ?_;refine wm (id:=18) 1 rfl (ZcH (h:=?_));refine wj (r:=(kq sb rb sv fr R).res) (zwd:=1) L 921 rfl Z Z Z Z (fun u H C hH hle hr hC=>Vp hz hRa h5 hH (hsv.le hle) hr hC) (fun _ _ _ _ h=>h) ?_
     repeat (first | refine w7 ?_ | refine wc ?_)
     exact iq (KLd ba be bs0 _ _ _) ⟨Z,Z,Z,Z,Z,Z,nm⟩ (de h5 hs1)
    ·rw[nc h5] at hY0;subst hY0;have h50:(Mn bs R).2=0:=zru.1 h5;have hZ:=hj.z;have hzl:=hj.zl;have hph:=hj.ph;have hpl0:=hj.pl;have hmk:=hZ.mkE J J;refine vh 8 rfl fun y8 H2 hs2 hq8=>?_;refine vh 9 rfl fun x9 H3 hs3 hp9=>?_;obtain⟨pp,pk,pc⟩:=x9;have hs13:=hs1.trans (hs2.trans hs3);have hsv3:=(hsv.le hs2.le).le hs3.le;have hqs:=hq8.2.le hs3.le;have hzk:=H8 hq8.1;have hmo:=hZ.mapOK hq8.1;refine(Zi∘ZaH∘Zbh∘ZaX∘Za) ?_;refine qf (xg L 921 (kq sb rb sv fr R) (r:=kq sb rb sv fr R) Z Z Z Z Z (fun u H C hH hle hr hC=>Vo hz hRa h50 hH (hsv3.le hle) hr hC)) (Zk (h:=?_));refine uz 7 rfl (uz 8 rfl ((Zc5∘Zg∘Zg∘ZcJ) ?_));refine z7 (v6 L Z Z (zn Z) Z Z Z (fun u H hH hle _ v1 h1 v2 h2=>by have h:=Vs (zs:=(zs.map (·.1)).zip y8) (L0:=P) (S:=loS (zs,P)) (e:=0) (by rw[hzk.1];exact hmk) (fun _=>⟨hmo,(nh (Nat.cast (R:=Int)) hZ.len).trans (by rw[hzk.1,hzk.2.2];exact hZ.lst.symm),rfl⟩) J J (by rw[hzk.2.2];omega) hH (by rw[hzk.1];exact h1) (by rw[hzk.2.1];exact h2) (by rw[hzk.2.1];exact hqs.le hle) (SlV.le hp9 hle);exact zny h)) Z ?_;refine ix 74 930 rfl fun b2=>?_;refine ZW (h:=?_);refine xm (yq L (q:=910) (cs':=[po b2]) Z Z Z Z Z) (Zk (h:=?_));refine Zbg (h:=?_);refine ye (qk L (q:=910) Z Z Z Z) (xm (yq L (q:=910) (cs':=[po b2]) Z Z Z Z Z) (xm (yq L (q:=911) (cs':=[.int .i64 0]) Z Z Z Z Z) (xm (yq L (q:=912) (cs':=[.int .i64 0]) Z Z Z Z Z) (ZB (h:=?_)))));refine jy 912 910 rfl Z (bq _ _ _) ?_;refine jy 911 912 rfl Z (xi (gz (xd be [.int .i64 0] P6) (xd bs0 [po b2] tyPS))) ?_;refine zos L 911 (r:=G3 ba be bs0 (.int .i64 0) (.int .i64 0) (po b2)) (r':=G3 ba be bs0 (.int .i64 0) (.int .i64 0) (if (0:Int)=0 then po b2 else .pointer none)) Z Z Z (fun u H C hH _ hr hC=>O4 RecM.idle (fun u H hH=>R9 hH) hH hr hC) ?_ (fun _ _ h=>h);rw[na rfl];refine Lt (r1:=xr ba [.int .i64 0] ze3) (r2:=(gz (xd be [.int .i64 0] P6) (xd bs0 [po b2] tyPS)).res) 911 912 rfl (xi _) ?_;refine Lt (r1:=xr be [.int .i64 0] P6) (r2:=xr bs0 [po b2] tyPS) 912 910 rfl (bq _ _ _) ?_;exact d8 3 911 rfl Z (d8 4 912 rfl Z (d8 2 910 rfl Z (zgn L 930 (r0:=StG b2 (loS (zs,P))) (rs:=[.cell 2 tyPS,.cell 3 ze3,.cell 4 P6]) Z hs13 Z (fun H=>jr (ya Z) Z (jr (ya Z) Z (jr (ya Z) Z Z))) (fun H u C _ _ h=>.inl ⟨rfl,b2,rfl,h⟩))))
end Go.V.L11
namespace Go.V
section
variable {P:Program} {F:Fr}  {O:Boxes}  {ops:Array Oper} {κ:Kap} {d:Nat} {ty:TypeId} {pos:String} {aft:Array Edge} {g:Option (Nat×Bool)}
def Ge(L:Tabs P){t e:TypeId}{ag:Bool}{s len:Nat}{parts:Array (Nat×Operand)}{z:Value}{vs:List (Nat×Value)}(hn:Nat.blt d n=true)(hg:gK ops κ ⟨some d,.buildSlice t len parts,ty,pos,aft,g⟩=some true)
  (ht:L.sl t=some e) (hl:L.ld e=some (ag,s)) (hz:L.zr e=some z) (hv:evP κ parts.toList=some vs) (hlen:vs.length=len) (hen:zdo s 0 vs=true) (hb:Nat.ble (len*s) 16777216=true) (hcl:(Af vs).length=len*s) (hml:len<=maxLen):
  StepOK P F B n ops O κ ⟨some d,.buildSlice t len parts,ty,pos,aft,g⟩ d (.own (SlR e s len (Af vs))):=by
 rintro κ' a u hlk ⟨H,fp,hh⟩;unfold After;rw[na (xn hh hlk hg)];have en:=hh.env hlk
 have hrun:(execOp a.eval ⟨some d,.buildSlice t len parts,ty,pos,aft,g⟩).run P u=.ok (.value (.slice (some ⟨u.heap.size,0,none⟩) len len)) (u.alloc (.cells (Af vs).toArray e)):=by
  have hm:=Fl en parts.toList vs (fun p hp'=>by simp [Op.operands];exact⟨p.1,by simpa using hp'⟩) hv
  have harr:(parts.map fun(p:Nat×Operand)=>(p.1,a.eval p.2))=vs.toArray:=by
   rw[<-hm,<-zr9,ztp]
  have hb':=np hb;have hzz:=Tabs.zr_spec hz;unfold zrI at hzz;split at hzz
  ·rename_i it hit;have hzr:(zeroValue e).run P u=.ok z u:=by simp [zeroValue,typeInfo,hit,hzz]
   simp only[execOp,nw];show Result.andThen ((Instr.buildSlice t len (parts.map fun(p:Nat×Operand)=>(p.1,a.eval p.2))).run P u) _=_;rw[harr];simp only[Instr.buildSlice,nw,run_underlying (Tabs.sl_spec ht),ny,jq (Tabs.ld_spec hl)];rw[nc J]
   have hfill:∀ cells:Array Value,cells.size=len*s->Instr.fill (fun i=>some (i*s,s)) cells vs=some (Af vs).toArray:=fun cells hc=>by
    have:=Fj vs 0 cells hen (by rw[hc,hlen];simp);simpa using this
   by_cases h0:len*s=0
   ·simp only[h0,if_true,nw,me,ny];rw[hfill _ (by simp [h0])];simp [newRow]
   ·simp only[h0,if_false,nw,me,ny,hzr];rw[hfill _ (by simp)];simp [newRow]
  ·cases hzz
 rw[hrun];simp only[Upon];have hg2:=hh.grow (Grow.hid hh.sub (.cells (Af vs).toArray e));refine⟨H,_,hg2.putR (C:=fun k=>k=u.heap.size) (by simp [Act.put]) Z (fun t ht=>xy ht) ⟨hcl,.inr ⟨u.heap.size,len,[],kg (by rw[hh.size];exact zn hn),by rw[xx,mi],nu _,hml,by rw[mi];exact hcl,fun _=>Iff.rfl⟩⟩ (fun k hk=>?_) fun t r' _ ht k hf hk=>?_⟩
 ·subst hk;exact⟨xl (xx u _),jm hh.sub (nu _),.inl hh.keep.size,fun y hy e=>by have:=xl (hh.boxes y hy).1;omega⟩
 ·have:=((hh.slot t _ ht).2 k hf).1;omega
end
end Go.V
section
open Go.V
attribute [local irreducible] Has N Par Ret RetL RetO RetT RetX RetY Src StepOK V VO X jh
namespace Go.V.L11
open Go.V.L2 Go.V.L4 Go.V.L6 Go.V.L8 Go.V.Bd
def _root_.ZfA(t:Wr Y->A:=by intro h;refine z7 (Ge L Z Z Z Z Z Z Z Z Z Z E) Z ?_;exact h.1)(h:Y):A:=t ⟨h⟩
attribute [local irreducible] XP LV Pan o5
def K2(n:Nat):n<18446744073709551616->∀ {w:World} {B:Heap},zwe B w->RetO zwf 22 [.int .u64 n] w B (SlR A3 1 (j7 n).length (byV (j7 n))):=by
 induction n using Nat.strongRecOn with
 | ind n ih=>
  intro hn w B hB;by_cases h:n<128
  ·rw[ct h];have hcv:IntKind.u8.wrap (n:Int)=(n:Int):=ek J J;refine wt Tryz.func22 Z Tryz.ntmps22 (np Z) hB ((ZbD∘ZS∘Zr∘Zn) ?_);refine z7 (kw Z Z Z Cl.1 Cl.2 (ek J J)) Z (ZfA (h:=?_));refine qf (yo (.inr Z) Z) (ZB (h:=?_));exact dt Z (fun _ _ h=>h) nq Z
  ·rw[Bp h];have hq:(n:Int).tdiv 128=((n/128:Nat):Int):=rfl;have hr:(n:Int).tmod 128=((n%128:Nat):Int):=rfl;have hwq:IntKind.u64.wrap ((n:Int).tdiv 128)=((n/128:Nat):Int):=wrap_u64 J J;have hcv:IntKind.u8.wrap ((n%128:Nat):Int)=((n%128:Nat):Int):=ek J J;have hwa:IntKind.u8.wrap (((n%128:Nat):Int)+128)=((n%128+128:Nat):Int):=ek J J;have h128:(128:Nat)^10=1180591620717411303424:=E;have hnl:=eu 9 (n/128) J;have hlen2:(byV (j7 (n/128))).length=(j7 (n/128)).length*1:=by rw[mg,zse]
   have hpl2:=d6 (j7 (n/128));refine wt Tryz.func22 Z Tryz.ntmps22 (np Z) hB ((ZbD∘Zab∘Zs∘Zz∘ZdL) ?_);refine z7 (kw Z Z Z Cl.1 Cl.2 (ek J J)) Z ((ZH∘ZfA∘Za∘Zdn) ?_);refine z7 (v6 L Z Z (zn Z) Z Z Z (fun u H hH _ _=>ih (n/128) J J hH)) Z (iw 15 rfl (Ze4 (h:=?_)));refine qf (yo (.inr Z) Z) (ZB (h:=?_));have e1:byV ((n%128+128)::j7 (n/128))=[Value.int .u8 ((n%128+128:Nat):Int)]++byV (j7 (n/128)):=rfl;have e2:((n%128+128)::j7 (n/128)).length=1+(j7 (n/128)).length:=by rw[ma];omega
   rw[e1,e2];exact dt Z (fun _ _ h=>h) nq Z
def zed(a b:List Nat):byV (a++b)=byV a++byV b:=zr1 ..
def Gr{l:List ByteArray}{s:ByteArray}(h:l[i]?=some s):ww (l.take (i+1))=ww (l.take i)++(j7 s.size++dz s):=by
 unfold ww;rw[zr4,h,zr5];simp [rt]
def Vw{l:List ByteArray}(hs:∀ s∈l,s.size<=1000)(hl:l.length<=100)(hB:zwe B w)(hv:SlV 9 1 (l.map Value.string) l.length fu v B):RetO zwf 66 [v] w B (SlR A3 1 (ww l).length (byV (ww l))):=by
 refine wt Tryz.func66 Z Tryz.ntmps66 (np Z) hB (ku 0 (SlV 9 1 (l.map Value.string) l.length fu) Z ns hv ((Zw∘Zh) ?_));refine um 3 A3 1 rfl ((ZL∘Zae) ?_);refine xu (fun i:Nat=>[(0,.sat (SlV 9 1 (l.map Value.string) l.length fu)),(3,.own (SlR A3 1 (ww (l.take i)).length (byV (ww (l.take i))))),(4,.is (.int .i64 i))]) (fun i=>i<=l.length) (fun i=>l.length-i) 0 (mb _) ⟨Z,Z,Z,nm⟩ ?_;rintro i hi;by_cases hlt:i<l.length
 ·obtain⟨s,hg⟩:=xj hlt;have hcr:=zii hg;have hss:=hs s (mz hg);have hcv:IntKind.u64.wrap (s.size:Int)=(s.size:Int):=wrap_u64 J J;have h128:(128:Nat)^10=1180591620717411303424:=E;have hnl:=eu 9 s.size J;have hlen2:(byV (j7 s.size)).length=(j7 s.size).length*1:=by rw[mg,zse]
  have hpl2:=d6 (j7 s.size);have hsl:=co (l:=l.take i) (fun x hx=>hs x (zt4 hx));rw[mh] at hsl;have hz:(ww (l.take i)).length+(j7 s.size).length+s.size<=140737488355328:=J;refine(Zcp∘Zc1∘ZF) ?_;refine qf (yo (.inl Z) Z) ((ZY∘Zap∘ZP) ?_);refine z7 (kw Z Z Z wo.1 wo.2 (wrap_u64 J J)) Z (z7 (v6 L Z Z (zn Z) Z Z Z (fun u H hH _ _=>K2 s.size J hH)) Z (iw 18 rfl (Ze4 (h:=?_))));refine qf (yo (.inr Z) Z) ((ZB∘Z5) ?_);refine qf (yo (.inl Z) Z) ((ZY∘Zap) ?_);refine qf (oj L Z Z Z Z Z T el5 hz) (qf (yo (.inr Z) Z) ((Zaz∘Zt∘Zaa) ?_));have e1:byV (ww (l.take (i+1)))=byV (ww (l.take i))++byV (j7 s.size)++Lib.strCells s:=by rw[Gr hg,<-zed,Sa,mp]
  have e2:(ww (l.take (i+1))).length=(ww (l.take i)).length+(j7 s.size).length+s.size:=by rw[Gr hg,nr,nr,ux,zud]
  exact yr (x:=i) (i+1) hlt J ⟨Z,by rw[e1,e2];rfl,Z,nm⟩
 ·obtain rfl:i=l.length:=by omega
  rw[m4];refine(Zcp∘Zj∘Zb5∘Z7) ?_;refine qf (yo (.inl Z) Z) (qf (yo (.inr Z) Z) (ZB (h:=?_)));exact dt Z (fun _ _ h=>h) nq Z
def zau{t:U}(ht:∀ s∈u6 t,s.size<=1000)(hB:zwe B w):RetO zwf 23 [uv t] w B (SlR A3 1 (Aw t).length (byV (Aw t))):=by
 refine wt Tryz.func23 Z Tryz.ntmps23 (np Z) hB ((Zq∘Zad∘ZaK∘ZaK∘Z3∘ZaK∘ZaK∘Z3∘ZaK∘Z3∘ZaK∘ZaK∘Z3∘ZaK∘ZaK∘Z3∘ZaK∘Z3∘ZJ) ?_);refine z7 (v6 L Z Z (zn Z) Z Z Z (fun u H hH hle _ v1 h1=>Vw (l:=u6 t) (fu:=true) ht (np Z) hH (SlB.toV (n:=6) h1 Z))) Z (qf (yo (.inr Z) Z) (ZB (h:=?_)));exact dt Z (fun _ _ h=>h) nq Z
open Go.V.L3
abbrev tyRr:TypeId:=166
abbrev rv(sv:Value)(R:Rd):Value:=.agg #[sv,.int .i64 R.at_,.int .i64 R.bad,.int .i64 R.err]
def u4(bs:List Nat)(R:Rd):Nat->Rd
 | 0=>R
 | i+1=>(l8 bs 16 (u4 bs R i)).2
def zgi(bs:List Nat)(R:Rd):Nat->List ByteArray
 | 0=>[]
 | i+1=>zgi bs R i++[(l8 bs 16 (u4 bs R i)).1]
def znu(bs:List Nat)(R:Rd):List ByteArray×Rd:=
 if (u4 bs R 6).err≠0 then ([sZ,sZ,sZ,sZ,sZ,sZ],⟨R.at_,(u4 bs R 6).bad,(u4 bs R 6).err⟩) else (zgi bs R 6,u4 bs R 6)
def tupS2{b:Value}(h1:φ1 a H)(h2:φ2 b H):TupS [φ1,φ2] (.tuple #[a,b]) H:=⟨[a,b],rfl,rfl,fun i φ x hi hx=>by
 match i with
 | 0=>cases hi;cases hx;exact h1
 | 1=>cases hi;cases hx;exact h2
 | i+2=>cases hi⟩
def uu{f:Rd->α×Rd}{z:α}(h:R.err≠0):dl f z R=(z,R):=na h
def C5{β:Type}{f:Rd->α×Rd}{g:Rd->β×Rd}{zf:α}{zg:β}(hf:∀ R:Rd,R.err≠0->f R=(zf,R))(hg:∀ R:Rd,R.err≠0->g R=(zg,R))(R:Rd):
  dl (Kf f g) (zf,zg) R=if (g (f R).2).2.err≠0 then ((zf,zg),⟨R.at_,(g (f R).2).2.bad,(g (f R).2).2.err⟩) else (((f R).1,(g (f R).2).1),(g (f R).2).2):=by
 unfold dl;by_cases h0:R.err≠0
 ·rw[na h0,hf R h0];dsimp only;rw[hg R h0,na h0]
 ·rw[nc h0];rfl
def om(h:(u4 bs R k).err≠0):u4 bs R (k+1)=u4 bs R k:=nh Prod.snd (uu (f:=Qk bs 16) (z:=sZ) h)
def zky:Rk bs R=if (u4 bs R 2).err≠0 then ((sZ,sZ),⟨R.at_,(u4 bs R 2).bad,(u4 bs R 2).err⟩) else (((l8 bs 16 R).1,(l8 bs 16 (u4 bs R 1)).1),u4 bs R 2):=
 C5 (fun _ h=>uu h) (fun _ h=>uu h) R
def Ad:vq bs R=if (u4 bs R 3).err≠0 then (n3,⟨R.at_,(u4 bs R 3).bad,(u4 bs R 3).err⟩) else ((((l8 bs 16 R).1,(l8 bs 16 (u4 bs R 1)).1),(l8 bs 16 (u4 bs R 2)).1),u4 bs R 3):=by
 have h:=C5 (f:=Rk bs) (g:=l8 bs 16) (zf:=(sZ,sZ)) (zg:=sZ) (fun _ h=>uu h) (fun _ h=>uu h) R;unfold vq;refine h.trans ?_;rw[zky];by_cases h2:(u4 bs R 2).err≠0
 ·rw[na h2];dsimp only;have hs:l8 bs 16 ⟨R.at_,(u4 bs R 2).bad,(u4 bs R 2).err⟩=(sZ,⟨R.at_,(u4 bs R 2).bad,(u4 bs R 2).err⟩):=uu h2;rw[hs,om h2,na h2,na h2]
 ·rw[nc h2];rfl
def uOf:List ByteArray->U
 | [a,b,c,d,e,f]=>(((a,b),c),((d,e),f))
 | _=>(n3,n3)
def Tu:u4 bs (u4 bs R 3) 3=u4 bs R 6:=by simp only[u4]
def zcf:u4 bs (u4 bs R 3) 1=u4 bs R 4:=by simp only[u4]
def zcg:u4 bs (u4 bs R 3) 2=u4 bs R 5:=by simp only[u4]
def zgh:zgi bs R 6=[(l8 bs 16 R).1,(l8 bs 16 (u4 bs R 1)).1,(l8 bs 16 (u4 bs R 2)).1,(l8 bs 16 (u4 bs R 3)).1,(l8 bs 16 (u4 bs R 4)).1,(l8 bs 16 (u4 bs R 5)).1]:=by
 simp only[zgi,u4,mo,zsa]
def Xl(h3:(u4 bs R 3).err≠0):u4 bs R 6=u4 bs R 3:=by
 have h4:=om h3;have h5:=om (k:=4) (h4 ▸ h3);have h6:=om (k:=5) (h5 ▸ h4 ▸ h3);exact h6.trans (h5.trans h4)
def Kg:r5 bs R=if (vq bs (vq bs R).2).2.err≠0 then ((n3,n3),⟨R.at_,(vq bs (vq bs R).2).2.bad,(vq bs (vq bs R).2).2.err⟩) else (((vq bs R).1,(vq bs (vq bs R).2).1),(vq bs (vq bs R).2).2):=C5 (f:=vq bs) (g:=vq bs) (zf:=n3) (zg:=n3) (fun _ h=>uu h) (fun _ h=>uu h) R
def Xz(h:R.err≠0):vq bs R=(n3,R):=uu h
def Rt{a:Nat}(h:e≠0):vq bs ⟨a,b,e⟩=(n3,⟨a,b,e⟩):=Xz (R:=⟨a,b,e⟩) h
def zdf{a:Nat}{x y:α}(h:e≠0):(if (⟨a,b,e⟩:Rd).err≠0 then x else y)=x:=na h
def zm0(h3:(u4 bs R 3).err≠0):r5 bs R=((n3,n3),⟨R.at_,(u4 bs R 3).bad,(u4 bs R 3).err⟩):=by
 have hG:=Ad (bs:=bs) (R:=R);rw[na h3] at hG;rw[Kg,hG];generalize u4 bs R 3=Q at h3 |-;obtain⟨q1,q2,q3⟩:=Q;have hs:=Rt (bs:=bs) (a:=R.at_) (b:=q2) h3;dsimp only at hs |-;rw[hs];exact zdf h3
def zpm{Q3:Rd}{g:Sf}{a:Nat}(hG:vq bs R=(g,Q3))(hg:vq bs Q3=(n3,⟨a,b,e⟩))(h6:e≠0):r5 bs R=((n3,n3),⟨R.at_,b,e⟩):=by
 rw[Kg,hG];dsimp only;rw[hg];exact zdf h6
def zpl{Q3 Q6:Rd}{g h:Sf}(hG:vq bs R=(g,Q3))(hg:vq bs Q3=(h,Q6))(h6:¬ Q6.err≠0):r5 bs R=((g,h),Q6):=by
 rw[Kg,hG];dsimp only;rw[hg];exact nc h6
def zmz(h3:¬ (u4 bs R 3).err≠0)(h6:(u4 bs R 6).err≠0):r5 bs R=((n3,n3),⟨R.at_,(u4 bs R 6).bad,(u4 bs R 6).err⟩):=by
 have hG:=Ad (bs:=bs) (R:=R);rw[nc h3] at hG;have hg:=Ad (bs:=bs) (R:=u4 bs R 3);rw[Tu,na h6] at hg;exact zpm hG hg h6
def zmy(h3:¬ (u4 bs R 3).err≠0)(h6:¬ (u4 bs R 6).err≠0):r5 bs R=(((((l8 bs 16 R).1,(l8 bs 16 (u4 bs R 1)).1),(l8 bs 16 (u4 bs R 2)).1),(((l8 bs 16 (u4 bs R 3)).1,(l8 bs 16 (u4 bs R 4)).1),(l8 bs 16 (u4 bs R 5)).1)),u4 bs R 6):=by
 have hG:=Ad (bs:=bs) (R:=R);rw[nc h3] at hG;have hg:=Ad (bs:=bs) (R:=u4 bs R 3);rw[Tu,zcf,zcg,nc h6] at hg;exact zpl hG hg h6
def Sx:r5 bs R=(uOf (znu bs R).1,(znu bs R).2):=by
 unfold znu;by_cases h3:(u4 bs R 3).err≠0
 ·rw[zm0 h3,Xl h3,na h3];dsimp only[uOf]
 ·by_cases h6:(u4 bs R 6).err≠0
  ·rw[zmz h3 h6,na h6];dsimp only[uOf]
  ·rw[zmy h3 h6,nc h6,zgh];dsimp only[uOf]
def prB(c:UInt8)(b:ByteArray):CH×Int:=if c=43\/c=45 then (if (ptA b).2≠0 then (zC,(ptA b).2) else (((ptA b).1,decide (c=45)),0)) else (zC,5)
def prC(s:ByteArray):CH×Int:=match s.data.toList with
 | []=>(zC,5)
 | c::l=>prB c ⟨l.toArray⟩
def zf0(c:UInt8)(b:ByteArray):prC (⟨#[c]⟩++b)=prB c b:=by
 unfold prC;have e:(⟨#[c]⟩++b:ByteArray).data.toList=c::b.data.toList:=by rw[jl];rfl
 rw[e]
def zff(s:ByteArray):s=⟨#[]⟩\/∃ c b,s=⟨#[c]⟩++b:=by
 cases h:s.data.toList with
 | nil=>exact .inl (uq h)
 | cons c l=>exact .inr ⟨c,⟨l.toArray⟩,uq (by rw[jl,h];rfl)⟩
def zkh{s:ByteArray}(hs:s.size<=1000000)(hB:zwe B w)(hM:GlobM B):
  Ret zwf 65 [.string s] w B (fun v _=>v=.tuple #[cvC (prC s).1,.int .i64 (prC s).2]):=by
 rcases zff s with rfl | ⟨c,b,rfl⟩
 ·refine yl Tryz.func65 Z Tryz.ntmps65 (np Z) hB ((ZaB∘Zax) ?_);refine z7 (Li Z Z Z Z (nf Z)) Z ((Za9∘Zaw∘Zaw∘Zf∘ZaM∘Zex∘Zaq) ?_);refine yk1 L [.cell 2 42,.tmp 3] fun u H hH hle=>?_
  first | exact rfl | exact⟨_,ya rfl,rfl,rfl⟩
 ·rw[zf0];have hsz:(⟨#[c]⟩++b:ByteArray).size=1+b.size:=by rw[zr2];rfl
  have hne:(⟨#[c]⟩++b:ByteArray)≠⟨#[]⟩:=fun e=>by rw[e] at hsz;have:(⟨#[]⟩:ByteArray).size=0:=rfl;omega
  have hc:(⟨#[c]⟩++b:ByteArray)[0]?=some c:=by
   show(⟨#[c]⟩++b:ByteArray).data[0]?=some c;rw[<-zt5,jl];rfl
  have x2:(⟨#[c]⟩++b:ByteArray).extract 1 (⟨#[c]⟩++b:ByteArray).size=b:=by
   have:=ib ⟨#[c]⟩ b ⟨#[]⟩ 1 (⟨#[c]⟩++b:ByteArray).size rfl (by rw[hsz];rfl);rw[show(⟨#[c]⟩++b++⟨#[]⟩:ByteArray)=⟨#[c]⟩++b from uq (by simp [jl])] at this;exact this
  generalize (⟨#[c]⟩++b:ByteArray)=s at hs hsz hne hc x2;have hb:b.size<=1000000:=J;obtain⟨t,e,ht⟩:∃ t e,ptA b=(t,e):=⟨_,_,rfl⟩
  have h255:=zjn c;by_cases h43:c=43
  ·subst h43;by_cases h0:e=0
   ·subst h0;refine yl Tryz.func65 Z Tryz.ntmps65 (np Z) hB ((ZaB∘Zax∘Ze2∘Zb∘Za8∘ZeT∘ZbF∘Zba∘Zz) ?_);refine z7 (jn L (kh:=.i64) (ph:=0) 1 _ Z Z Z Z ⟨rfl,rfl⟩ Z J J x2) Z (z71 L Z (fun u H hH hle=>ah ht hb hH (hM.mono hle)) ?_);refine(Zcj∘Zh∘Zt∘Zau∘Zb7∘ZeJ∘Zl∘ZdA) ?_;refine z9 (yh Z Z Z Z Z) Z ((Ze9∘Zdl∘Zy) ?_);refine yk1 L [.cell 2 42,.tmp 3] fun u H hH hle=>?_;unfold prB;rw[na (.inl rfl),ht,nc (by simp)]
    first | exact rfl | exact⟨_,ya rfl,rfl,rfl⟩
   ·refine yl Tryz.func65 Z Tryz.ntmps65 (np Z) hB ((ZaB∘Zax∘Ze2∘Zb∘Za8∘ZeT∘ZbF∘Zba∘Zz) ?_);refine z7 (jn L (kh:=.i64) (ph:=0) 1 _ Z Z Z Z ⟨rfl,rfl⟩ Z J J x2) Z (z71 L Z (fun u H hH hle=>ah ht hb hH (hM.mono hle)) ?_);refine(Zcj∘Zh∘Zt∘Zac∘ZF∘Zex∘Za∘Zaq) ?_;refine yk1 L [.cell 2 42,.tmp 3] fun u H hH hle=>?_;unfold prB;rw[na (.inl rfl),ht,na (by exact h0)]
    first | exact rfl | exact⟨_,ya rfl,rfl,rfl⟩
  ·have hx43:(c.toNat:Int)≠43:=fun e=>h43 (zvo.1 (by show c.toNat=43;omega));by_cases h45:c=45
   ·subst h45;by_cases h0:e=0
    ·subst h0;refine yl Tryz.func65 Z Tryz.ntmps65 (np Z) hB ((ZaB∘Zax∘Ze2∘Zb∘Za8∘ZcT∘Zb∘Za8∘ZeT∘Zf∘Zba∘Zz) ?_);refine z7 (jn L (kh:=.i64) (ph:=0) 1 _ Z Z Z Z ⟨rfl,rfl⟩ Z J J x2) Z (z71 L Z (fun u H hH hle=>ah ht hb hH (hM.mono hle)) ?_);refine(Zcj∘Zh∘Zt∘Zau∘Zb7∘ZeJ∘Zl∘ZdA) ?_;refine z9 (yh Z Z Z Z Z) Z ((Ze9∘Zdl∘Zy) ?_);refine yk1 L [.cell 2 42,.tmp 3] fun u H hH hle=>?_;unfold prB;rw[na (.inr rfl),ht,nc (by simp)]
     first | exact rfl | exact⟨_,ya rfl,rfl,rfl⟩
    ·refine yl Tryz.func65 Z Tryz.ntmps65 (np Z) hB ((ZaB∘Zax∘Ze2∘Zb∘Za8∘ZcT∘Zb∘Za8∘ZeT∘Zf∘Zba∘Zz) ?_);refine z7 (jn L (kh:=.i64) (ph:=0) 1 _ Z Z Z Z ⟨rfl,rfl⟩ Z J J x2) Z (z71 L Z (fun u H hH hle=>ah ht hb hH (hM.mono hle)) ?_);refine(Zcj∘Zh∘Zt∘Zac∘ZF∘Zex∘Za∘Zaq) ?_;refine yk1 L [.cell 2 42,.tmp 3] fun u H hH hle=>?_;unfold prB;rw[na (.inr rfl),ht,na (by exact h0)]
     first | exact rfl | exact⟨_,ya rfl,rfl,rfl⟩
   ·have hx45:(c.toNat:Int)≠45:=fun e=>h45 (zvo.1 (by show c.toNat=45;omega));refine yl Tryz.func65 Z Tryz.ntmps65 (np Z) hB ((ZaB∘Zax∘Ze2∘Zb∘Za8∘ZcT∘Zb∘Za8∘ZcT∘Zf∘Zf∘ZaM∘Zex∘Zaq) ?_);refine yk1 L [.cell 2 42,.tmp 3] fun u H hH hle=>?_;unfold prB;rw[nc (fun h=>h.elim h43 h45)]
    first | exact rfl | exact⟨_,ya rfl,rfl,rfl⟩
def Qq(s:ByteArray)(l:List Nat):i8 (dz s++l)=s++i8 l:=by
 apply uq;rw[jl];unfold i8 dz;simp only[zr1,ztl];show List.map (UInt8.ofNat∘fun c=>c.toNat) s.data.toList++_=s.data.toList++_;rw[ztv (g:=id) fun c _=>by simp,zuc]
def zai:i8 []=⟨#[]⟩:=rfl
def zds{a:Nat}(h:bs[a]?=some b):bs.drop a=b::bs.drop (a+1):=by
 obtain⟨h1,h2⟩:=zs2.1 h;rw[zsc h1,h2]
def ed{r:List Nat}{a:Nat}(h:bs.drop a=b::r):bs[a]?=some b/\bs.drop (a+1)=r:=by
 have h1:bs[a]?=some b:=by
  have:=nh (fun l:List Nat=>l[0]?) h;simpa using this
 refine⟨h1,?_⟩;have h2:=zds h1;rw[h] at h2;exact(List.cons.inj h2).2.symm
def wl{x r:List Nat}{a:Nat}(h:bs.drop a=x++r):bs.drop (a+x.length)=r:=by
 rw[<-ztb,h,zvi]
def Rl(h:bs[R.at_]?=some n)(hn:n<128):Bo bs R=(n,⟨R.at_+1,R.bad,R.err⟩):=by
 unfold Bo;show M2 bs (9+1) 0 0 R=_;unfold M2;rw[h];dsimp only;rw[nc J,na hn,Nat.mod_eq_of_lt hn];simp
def Ts(h:bs[R.at_]?=none)(h0:R.err=0):Bo bs R=(0,⟨R.at_,bs.length,17⟩):=by
 unfold Bo;show M2 bs (9+1) 0 0 R=_;unfold M2;rw[h];dsimp only;unfold Rd.fail;rw[na h0]
def Cf{R2:Rd}(h0:R.err=0)(h:Bo bs R=(n,R2))(h2:R2.err=0)(hn:n<=lim)(hl:lim<=1099511627776):vk bs lim R=((n:Int),R2):=by
 have hw:ae bs lim 3 R=(n,R2):=by unfold ae;rw[h];exact if_neg G
 have hg:zeq bs lim R=((n:Int),R2):=by
  unfold zeq;rw[hw];exact Prod.ext (xb G G) Z
 unfold vk dl;rw[nc (fun h=>h h0),hg,nc (fun h=>h h2)]
def Ly{R2:Rd}(h0:R.err=0)(h:Bo bs R=(0,R2))(h2:R2.err≠0):vk bs lim R=(0,⟨R.at_,R2.bad,R2.err⟩):=by
 have hw:ae bs lim 3 R=(0,R2):=by unfold ae;rw[h];exact if_neg (Nat.not_lt_zero _)
 have hg:(zeq bs lim R).2=R2:=by unfold zeq;rw[hw]
 unfold vk dl;rw[nc (fun h=>h h0),hg,na h2]
def Su{s:ByteArray}(h:s.size<=16):rt s=s.size::dz s:=by unfold rt;rw[ct J];rfl
def Nq(s:ByteArray):i8 (dz s)=s:=by
 have h:=Qq s [];rw[mi,zai] at h;rw[h];apply uq;rw[jl];simp
def zid{s:ByteArray}(h0:R.err=0)(hs:s.size<=16)(hd:bs.drop R.at_=rt s++rest):l8 bs 16 R=(s,⟨R.at_+(rt s).length,R.bad,0⟩):=by
 rw[Su hs] at hd |-;obtain⟨h1,h2⟩:=ed (r:=dz s++rest) hd;have hln:(bs.drop R.at_).length=1+s.size+rest.length:=by rw[hd,nr,ma,ux];omega
 rw[m9] at hln;have hl:=Cf (lim:=16) h0 (Rl h1 J) h0 hs E
 have hg:Qk bs 16 R=(s,⟨R.at_+1+s.size,R.bad,R.err⟩):=by
  unfold Qk;rw[hl];dsimp only;rw[nc (by intro h;rcases h with h | h;exact h h0;omega),zsh,h2,<-ux,zu4,Nq]
 unfold l8 dl;rw[nc (fun h=>h h0),hg,nc (fun h=>h h0),h0,ma,ux,show R.at_+1+s.size=R.at_+(s.size+1) by omega]
def zjr{s:ByteArray}(h0:R.err=0)(hs:s.size<=16)(hd:bs.drop R.at_=(rt s).take k)(hk:k<(rt s).length)(ha:R.at_+k=bs.length):l8 bs 16 R=(sZ,⟨R.at_,bs.length,17⟩):=by
 rw[Su hs] at hd hk;rw[ma,ux] at hk;have h17:(17:Int)≠0:=E
 cases k with
 | zero=>
  have h1:bs[R.at_]?=none:=zr6 J;have hl:=Ly (lim:=16) h0 (Ts h1 h0) h17
  have hg:Qk bs 16 R=(sZ,⟨R.at_,bs.length,17⟩):=by
   unfold Qk;rw[hl];dsimp only;rw[na (.inl h17)];rfl
  unfold l8 dl;rw[nc (fun h=>h h0),hg];exact na h17
 | succ k=>
  rw[ztu] at hd;obtain⟨h1,h2⟩:=ed hd;have hl:=Cf (lim:=16) h0 (Rl h1 J) h0 hs E
  have hg:Qk bs 16 R=(sZ,⟨R.at_+1,bs.length,17⟩):=by
   unfold Qk;rw[hl];dsimp only;rw[na (.inr J)];unfold Rd.fail;rw[na h0]
  unfold l8 dl;rw[nc (fun h=>h h0),hg];exact na h17
def ra{bs:List Nat}{R:Rd}:∀ n,u4 bs R (n+1)=u4 bs (l8 bs 16 R).2 n
 | 0=>rfl
 | n+1=>by
  have h:u4 bs R (n+1+1)=(l8 bs 16 (u4 bs R (n+1))).2:=rfl;rw[h,ra n];rfl
def He{bs:List Nat}{R:Rd}:∀ n,zgi bs R (n+1)=(l8 bs 16 R).1::zgi bs (l8 bs 16 R).2 n
 | 0=>rfl
 | n+1=>by
  have h:zgi bs R (n+1+1)=zgi bs R (n+1)++[(l8 bs 16 (u4 bs R (n+1))).1]:=rfl;rw[h,He n,ra n];rfl
def Tv{bs:List Nat}{R:Rd}(h:R.err≠0):∀ n,u4 bs R n=R
 | 0=>rfl
 | n+1=>by
  have ih:=Tv (bs:=bs) h n;rw[om (by rw[ih];exact h),ih]
def ziu{bs rest:List Nat}:∀ {ss:List ByteArray} {R:Rd},R.err=0->(∀ s∈ss,s.size<=16)->bs.drop R.at_=ww ss++rest->u4 bs R ss.length=⟨R.at_+(ww ss).length,R.bad,0⟩/\zgi bs R ss.length=ss
 | [],R,h0,_,_=>by
  obtain⟨a,b,e⟩:=R;cases h0;exact⟨rfl,rfl⟩
 | s::ss,R,h0,hs,hd=>by
  have e1:ww (s::ss)=rt s++ww ss:=rfl;rw[e1,mp] at hd;have h1:=zid h0 (hs s (mc ..)) hd;have h2:=ziu (R:=⟨R.at_+(rt s).length,R.bad,0⟩) rfl (fun x hx=>hs x (mf _ hx)) (wl hd);rw[ma,ra,He,h1,e1,nr,<-zud];dsimp only;exact⟨h2.1,nh (s::·) h2.2⟩
def zce{bs:List Nat}:∀ {ss:List ByteArray} {R:Rd} {k:Nat},R.err=0->(∀ s∈ss,s.size<=16)->bs.drop R.at_=(ww ss).take k->k<(ww ss).length->R.at_+k=bs.length->(u4 bs R ss.length).bad=bs.length/\(u4 bs R ss.length).err=17
 | [],R,k,_,_,_,hk,_=>ni hk (zt1 _)
 | s::ss,R,k,h0,hs,hd,hk,ha=>by
  have e1:ww (s::ss)=rt s++ww ss:=rfl;rw[e1,zsm] at hd;rw[e1,nr] at hk;rw[ma,ra];by_cases hc:k<(rt s).length
  ·rw[zt7 (zs5 hc),zr0,mi] at hd;have h1:=zjr h0 (hs s (mc ..)) hd hc ha;rw[h1];dsimp only;rw[Tv (show(17:Int)≠0 by decide)];exact⟨rfl,rfl⟩
  ·rw[m8 J] at hd;have h1:=zid h0 (hs s (mc ..)) hd;rw[h1];exact zce (R:=⟨R.at_+(rt s).length,R.bad,0⟩) Z (fun x hx=>hs x (List.mem_cons_of_mem _ hx)) (wl hd) J G
def ze2{t:U}(h:tE t=0):∀ s∈u6 t,s.size<=16:=by
 unfold tE at h;split at h
 ·rename_i h1;obtain⟨c1,c2,c3⟩:=Yg h1;obtain⟨d1,d2,d3⟩:=A7 h;have a1:=fm c1;have a2:=fm c2;have a3:=fm c3;have b1:=fm d1;have b2:=fm d2
  have b3:t.2.2.size<=16:=by
   rcases d3 with d3 | d3
   ·rw[d3];decide
   ·exact fm d3
  intro s hs;simp only[u6,nz,zs3,or_false] at hs;rcases hs with rfl | rfl | rfl | rfl | rfl | rfl<;>assumption
 ·rename_i h1;exact ni h h1
def zie{t:U}(h0:R.err=0)(ht:tE t=0)(hd:bs.drop R.at_=Aw t++rest):r5 bs R=(t,⟨R.at_+(Aw t).length,R.bad,0⟩):=by
 obtain⟨h1,h2⟩:=ziu (ss:=u6 t) h0 (ze2 ht) hd;have e6:(u6 t).length=6:=rfl;rw[e6] at h1 h2;rw[Sx];unfold znu;rw[h1,h2,nc (fun h=>h rfl)];rfl
def zju{t:U}(h0:R.err=0)(ht:tE t=0)(hd:bs.drop R.at_=(Aw t).take k)(hk:k<(Aw t).length)(ha:R.at_+k=bs.length):(r5 bs R).2.bad=bs.length/\(r5 bs R).2.err=17:=by
 obtain⟨h1,h2⟩:=zce (ss:=u6 t) h0 (ze2 ht) hd hk ha;have e6:(u6 t).length=6:=rfl;rw[e6] at h1 h2;rw[Sx];unfold znu;rw[h1,h2,na (show(17:Int)≠0 by decide)];exact⟨rfl,rfl⟩
def zg6(h0:R.err=0)(ha:¬ R.at_<bs.length):Mn bs R=(R.bad,0):=by unfold Mn;rw[if_neg (fun h=>ha h.2),h0]
def Yr{R2:Rd}(h:Bo bs R=(n,R2))(hn:n<=lim):ae bs lim e R=(n,R2):=by
 unfold ae;rw[h];exact if_neg G
def zl5{k:Bool}(h0:R.err=0)(hd:bs.drop R.at_=[if k=true then 1 else 0]++rest):ic bs R=(k,⟨R.at_+1,R.bad,0⟩):=by
 obtain⟨h1,_⟩:=ed (r:=rest) hd;have hw:=Yr (lim:=1) (e:=5) (Rl h1 (by split<;>omega)) (by split<;>omega)
 have hg:bG bs R=(k,⟨R.at_+1,R.bad,R.err⟩):=by
  unfold bG;rw[hw];cases k<;>rfl
 rw[Mu];unfold dl;rw[nc (fun h=>h h0),hg,nc (fun h=>h h0),h0]
def zhq(h0:R.err=0)(ha:R.at_=bs.length):ic bs R=(false,⟨R.at_,bs.length,17⟩):=by
 have h1:bs[R.at_]?=none:=zr6 J;have hw:=Yr (lim:=1) (e:=5) (Ts h1 h0) (mb _)
 have hg:bG bs R=(false,⟨R.at_,bs.length,17⟩):=by
  unfold bG;rw[hw];rfl
 rw[Mu];unfold dl;rw[nc (fun h=>h h0),hg];exact na (show(17:Int)≠0 by decide)
def Ur:dq bs R=if (ic bs (r5 bs R).2).2.err≠0 then (((n3,n3),false),⟨R.at_,(ic bs (r5 bs R).2).2.bad,(ic bs (r5 bs R).2).2.err⟩) else (((r5 bs R).1,(ic bs (r5 bs R).2).1),(ic bs (r5 bs R).2).2):=
 C5 (f:=r5 bs) (g:=ic bs) (zf:=(n3,n3)) (zg:=false) (fun _ h=>uu h) (fun _ h=>uu h) R
def zi7{c:CH}(h0:R.err=0)(ht:tE c.1=0)(hd:bs.drop R.at_=chgB c++rest):dq bs R=(c,⟨R.at_+(chgB c).length,R.bad,0⟩):=by
 unfold chgB at hd;rw[mp] at hd;have h1:=zie h0 ht hd;have h2:=zl5 (R:=⟨R.at_+(Aw c.1).length,R.bad,0⟩) (k:=c.2) rfl (wl hd);rw[Ur,h1];dsimp only;rw[h2];dsimp only;rw[nc (fun h=>h rfl)];unfold chgB;rw[nr,zsu,zud]
def zlx{c:CH}(h0:R.err=0)(ht:tE c.1=0)(hd:bs.drop R.at_=(chgB c).take k)(hk:k<(chgB c).length)(ha:R.at_+k=bs.length):(dq bs R).2.bad=bs.length/\(dq bs R).2.err=17:=by
 have h17:(17:Int)≠0:=E;unfold chgB at hd hk;rw[zsm] at hd;rw[nr,zsu] at hk;rw[Ur];by_cases hc:k<(Aw c.1).length
 ·rw[zt7 (zs5 hc),zr0,mi] at hd;obtain⟨h1,h2⟩:=zju h0 ht hd hc ha;have h3:ic bs (r5 bs R).2=(false,(r5 bs R).2):=uu (by rw[h2];exact h17);rw[h3];dsimp only;rw[na (by rw[h2];exact h17)];exact⟨h1,h2⟩
 ·have hk2:k=(Aw c.1).length:=J;subst hk2;rw[m8 (nu _),zsx,zr0] at hd;have h1:=zie h0 ht hd;have h2:=zhq (bs:=bs) (R:=⟨R.at_+(Aw c.1).length,R.bad,0⟩) rfl ha;rw[h1];dsimp only;rw[h2];dsimp only;rw[na h17];exact⟨rfl,rfl⟩
def zh7(l:List U):Option U->List CH->Prop
 | _,[]=>True
 | la,c::cs=>tE c.1=0/\zet la c.1=true/\decide (c.1∈l)=c.2/\zh7 l (some c.1) cs
def M4(cs:List CH):List CH:=cs.filter fun c=>!c.2
def bf(cs:List CH):List CH:=cs.filter fun c=>c.2
def zej(c:CH)(cs a:List CH):(if c.2=true then a else a++[c])++M4 cs=a++M4 (c::cs):=by
 unfold M4;cases h:c.2
 ·rw[nc E,zty (by simp [h])];simp
 ·rw[na rfl,zup (by simp [h])]
def X6(c:CH)(cs d:List CH):(if c.2=true then d++[c] else d)++bf cs=d++bf (c::cs):=by
 unfold bf;cases h:c.2
 ·rw[nc E,zup (by simp [h])]
 ·rw[na rfl,zty (by simp [h])];simp
def zd4{bs rest:List Nat}{l:List U}:∀ {cs:List CH} {la:Option U} {a d:List CH} {R:Rd},R.err=0->zh7 l la cs->bs.drop R.at_=cs.flatMap chgB++rest->
  F9 bs l cs.length la a d R=(((a++M4 cs,d++bf cs),⟨R.at_+(cs.flatMap chgB).length,R.bad,0⟩),(0,0))
 | [],la,a,d,R,h0,_,_=>by
  obtain⟨x,y,z⟩:=R;cases h0;show(((a,d),_),_)=(((a++[],d++[]),_),_);rw[mi,mi];rfl
 | c::cs,la,a,d,R,h0,hk,hd=>by
  obtain⟨k1,k2,k3,k4⟩:=hk;have e1:(c::cs).flatMap chgB=chgB c++cs.flatMap chgB:=rfl;rw[e1,mp] at hd;have h1:=zi7 h0 k1 hd;rw[ma];unfold F9;rw[h1];dsimp only;rw[nc (fun h=>h rfl),nc (fun h=>h k1),k2,nc E,nc (fun h=>h k3)];rw[zd4 (R:=⟨R.at_+(chgB c).length,R.bad,0⟩) rfl k4 (wl hd),zej,X6,e1,nr,zud]
def Uq{bs:List Nat}{l:List U}:∀ {cs:List CH} {la:Option U} {a d:List CH} {R:Rd} {k:Nat},R.err=0->zh7 l la cs->bs.drop R.at_=(cs.flatMap chgB).take k->k<(cs.flatMap chgB).length->R.at_+k=bs.length->(F9 bs l cs.length la a d R).2=((bs.length:Int),17)
 | [],_,_,_,_,_,_,_,_,hk,_=>ni hk (zt1 _)
 | c::cs,la,a,d,R,k,h0,hok,hd,hk,ha=>by
  obtain⟨k1,k2,k3,k4⟩:=hok;have e1:(c::cs).flatMap chgB=chgB c++cs.flatMap chgB:=rfl;rw[e1,zsm] at hd;rw[e1,nr] at hk;rw[ma];unfold F9;by_cases hc:k<(chgB c).length
  ·rw[zt7 (zs5 hc),zr0,mi] at hd;obtain⟨h1,h2⟩:=zlx h0 k1 hd hc ha;rw[na (by rw[h2];decide),h1,h2]
  ·rw[m8 J] at hd;have h1:=zi7 h0 k1 hd;rw[h1];dsimp only;rw[nc (fun h=>h rfl),nc (fun h=>h k1),k2,nc E,nc (fun h=>h k3)];exact Uq (R:=⟨R.at_+(chgB c).length,R.bad,0⟩) Z k4 (wl hd) J G
end Go.V.L11
end
end
