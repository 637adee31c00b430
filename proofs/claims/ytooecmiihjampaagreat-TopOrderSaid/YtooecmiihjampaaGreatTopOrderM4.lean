/- Texts, part 4. -/
import Derived.Test.YtooecmiihjampaaGreatTopOrderM3
import Derived.WalkSmall
import Derived.RecoverIn
import Derived.Sort.Walk7
import Derived.Sort.Walk13
set_option linter.unusedVariables false
set_option linter.unusedSimpArgs false
set_option maxRecDepth 20000
set_option maxHeartbeats 8000000
set_option linter.defProp false
open Go.Proofs Go.RowKit
section
variable{φ:Go.Value->Go.V.Heap->Prop}{a b e f fr i j k lim m n rb sb t:Nat}{pv s sv v v2:Go.Value}{B B0 H:Go.V.Heap}{l:List Go.V.L8.CH}{w:Go.World}{g:Option (Nat×Bool)}{fr0 r x:Int}{d:Array Int}{κ:Go.V.Kap}{fu:Bool}{c:Go.V.L8.CH}{ty:Go.TypeId}{P:Go.Program}{St:Go.V.Kap->Go.Act->Go.World->Prop}{ops:Array Go.Oper}{F:Go.V.Fr}{O:Go.V.Boxes}{zpf:Go.Exit->Go.Act->Go.World->Prop}{pos:String}{aft:Array Go.Edge}{args cap fst rest:List Go.Value}{C:Nat->Prop}{r':Go.V.GR}{R:List (Option (List Go.V.L2.U))}{bs:List Nat}{p:Int->Bool}{L0:List Int}{A Y:Prop}
namespace Go.V.L6
open Go.V.L2 Go.V.L3
def _root_.Zbg(t:Wr Y->A:=by intro h;refine z7 (zx L (vs:=[_,_,_,_]) (qw Z) Z Z Z Z ⟨_,rfl⟩) Z ?_;exact h.1)(h:Y):A:=t ⟨h⟩
def _root_.Ze7(t:Wr Y->A:=by intro h;refine z7 (yt (cs:=[_,_,_,_,_,_,_]) Z Z zj1 Z Z) Z ?_;exact h.1)(h:Y):A:=t ⟨h⟩
def LE2.out{a v:Value}(h:TupS [φ,fun v _=>v=a] v H):∃ tv,v=.tuple #[tv,a]/\φ tv H:=by
 obtain⟨vs,rfl,hl,h⟩:=h
 match vs,hl with
 | [x,y],_=>
  have h1:=h 0 _ x rfl rfl;have h2:=h 1 _ y rfl rfl;subst h2;exact⟨x,rfl,h1⟩
def WithP(l:List U)(e:Int)(r:Value)(H:Heap):Prop:=∃ tv,r=.tuple #[tv,.int .i64 e]/\SetV l tv H
def WithP.mono{l:List U}{e:Int}:Kn.mono (.sat (WithP l e)):=fun _ _ _ ⟨tv,h1,h2⟩ hle=>⟨tv,h1,h2.le hle⟩
def dh{l:List U}(hl:l.length<=100000)(hB:zpg B w)(hv:SetV l v B):Ret zph 11 [v] w B (US l true):=(zgh hl hB hv).toRet pj
def Sd{l zpd:List U}{g:gj}(hM:cw l g=zpd)(hl:l.length<=100000)(hB:zpg B w)(hv:SetV l v B):Ret zph 39 [v,g3v g] w B (US zpd true):=(zgk hM hl hB hv).toRet pj
def M7{l zpd:List U}{g:gj}(hM:zfn l g=zpd)(hl:l.length<=100000)(hB:zpg B w)(hv:SetV l v B):Ret zph 89 [v,g3v g] w B (US zpd true):=(ziy hM hl hB hv).toRet pj
def ru{l m:List U}{x:U}{d:Bool}{e:Int}(hr:wq l x d=(m,e))(hl:l.length<=4096)(hz:TZ x)(hB:zpg B w)(hv:SetV l v B):
  Ret zph 41 [v,chv x d] w B (WithP m e):=(Xq hr hl hz hB hv).mono fun _ _ _ h=>LE2.out h
def zeo{s:Nat}{r:List gj}{t:gj}(h:κ s=some (.own (SlR Rp 3 (r.length+1) (r.flatMap oc++[.string t.1.1,.string t.1.2,.string t.2])))):κ s=some (.own (SlR Rp 3 (r++[t]).length ((r++[t]).flatMap oc))):=by
 rw[h,nr,zlq];rfl
attribute [local irreducible] V N X VO Par StepOK Has Ret RetL RetO RetT Src
def Vj{l:List gj}(hB:zpg B w)(hv:G3S l fu v B):Ret zph 98 [v] w B (G3S l true):=by
 refine yh Tryz.func98 Z Tryz.ntmps98 (np Z) hB (k8 0 (G3S l fu) Z nw hv ((Z0∘Zk∘Zh∘Zh∘Zdk∘ZR∘Zs) ?_));refine yg1 L [.tmp 2] fun u H hH hle=>?_;exact fun v hv=>hv
def Pv{l:List U}{zpd:List gj}(hM:Bj l=zpd)(hl:l.length<=100000)(hB:zpg B w)(hv:SetV l v B):Ret zph 37 [v] w B (G3S zpd true):=by
 obtain⟨f1,p1,f2,q1,hsh,hpl⟩:=hv.shape;subst hsh;refine yh Tryz.func37 Z Tryz.ntmps37 (np Z) hB ((Z7∘Zaf∘Zi) ?_);refine gh 3 Rp 3 rfl ((Zx∘Zdm) ?_);refine z7 (xg (φ:=US l true) L Z Z (zn Z) Z Z Z nw (fun u H hH hle _=>dh hl hH (hv.le hle))) Z ((ZcL∘Zbt) ?_)
 refine xm (fun k:Nat=>[(3,.own (SlR Rp 3 ((l.take k).map (·.1)).length (((l.take k).map (·.1)).flatMap oc))),(7,.sat (US l true)),(8,.is (.int .i64 l.length)),(9,.is (.int .i64 k))])
  (fun k=>k<=l.length) (fun k=>l.length-k) 0 (mf _) ⟨rfl,rfl,rfl,rfl,nm⟩ ?_
 rintro k hk;have hkl:((l.take k).map (·.1)).length=k:=by rw[mt,mi];omega
 by_cases hlt:k<l.length
 ·obtain⟨t,ht⟩:=xi hlt;have hc:=d6 ht;have htk:(l.take (k+1)).map (·.1)=(l.take k).map (·.1)++[t.1]:=by rw[Cj ht,zli];rfl
  refine(Zbn∘Zz∘ZS∘Zaa∘Zcp∘Zaj∘Zs) ?_;refine zfd 5 rfl (ZE (h:=?_));refine zy (yo (.inl Z) Z) ((ZQ∘Zcz∘Zae) ?_);refine zy (wn L Z Z Z (az Z) Z zkb Z Z T T) (zy (yo (.inr Z) Z) ((Zbp∘Zaw∘Zbc) ?_));exact yn (x:=k) (k+1) hlt T ⟨by rw[htk];exact zeo Z,Z,Z,Z,nm⟩
 ·obtain rfl:k=l.length:=by omega
  rw[zla];rw[zla] at hkl;have hdd:dd (l.map (·.1))=zpd:=hM;refine(Zbn∘ZaO∘ZK) ?_;refine zy (yo (.inl Z) Z) (zy (iw L (q:=19) Z Z Z Z Z (fun u H C x hH hle hx hC=>Hp T hH hx hC)) (oz 20 rfl (z7 (xg (φ:=G3S zpd true) L Z Z (zn Z) Z Z Z nw (fun u H hH _ _ v1 h1=>by rw[hdd] at h1;exact Vj hH h1)) Z ?_)));refine(ZR∘Zs) ?_;refine yg1 L [.tmp 2] fun u H hH hle=>?_;exact fun v hv=>hv
abbrev zk4:Nat:=72
def U0{a b:List U}{fa fb:Bool}(hla:a.length<=1000000)(hlb:b.length<=1000000){r:Bool}(hr:decide (a=b)=r){va vb:Value}(hB:zpg B w)(ha:US a fa va B)(hb:US b fb vb B):
  Ret zph zk4 [va,vb] w B (fun v _=>v=.bool r):=by
 subst hr;refine yh Tryz.func72 Z Tryz.ntmps72 (np Z) hB (k8 0 (US a fa) Z nw ha (k8 1 (US b fb) Z nw hb ?_));by_cases hl:a.length=b.length
 ·refine(ZB∘Zah∘Zh∘Zh∘Za5∘Z4∘ZI∘Zh∘Zbt) ?_;refine xm (fun k:Nat=>[(0,.sat (US a fa)),(1,.sat (US b fb)),(12,.is (.int .i64 a.length)),(13,.is (.int .i64 k))]) (fun k=>k<=a.length/\a.take k=b.take k) (fun k=>a.length-k) 0 ⟨mf _,rfl⟩ ⟨Z,Z,Z,Z,nm⟩ ?_;rintro k ⟨hk,he⟩;by_cases hlt:k<a.length
  ·obtain⟨x,hx⟩:=xi hlt;obtain⟨y,hy⟩:=xi (show k<b.length by omega);have hcx:=d6 hx;have hcy:=d6 hy;by_cases hxy:x=y
   ·have hq:=eqU (nf hxy);refine(Zbm∘Zz∘ZT∘Zd∘Zd1∘Zb5∘Za9∘Zb5∘Za9∘ZdU∘Zaz∘Zbj∘ZP∘ZC∘Zbc) ?_;exact yn (x:=k) (k+1) ⟨hlt,by rw[Cj hx,Cj hy,he,hxy]⟩ T ⟨Z,Z,Z,Z,nm⟩
   ·have hq:=eqU (ng hxy);have hab:a≠b:=fun e=>hxy (by rw[e,hy] at hx;exact(Option.some.inj hx).symm);rw[ng hab];refine(Zbm∘Zz∘ZT∘Zd∘Zd1∘Zb5∘Za9∘Zb5∘Za9∘ZdU∘Zb4∘Zf∘ZK∘Zc) ?_;exact yg2 L [.tmp 4]
  ·obtain rfl:k=a.length:=by omega
   have hab:a=b:=by rw[zla,hl,zla] at he;exact he
   rw[nf hab];refine(Zbm∘ZaO∘Zat∘Zc) ?_;exact yg2 L [.tmp 4]
 ·have hab:a≠b:=fun e=>hl (by rw[e]);rw[ng hab];refine(ZB∘Zah∘Zh∘Zh∘ZaG∘Zx∘Zc) ?_;exact yg2 L [.tmp 4]
def R7{a b:List U}(hla:a.length<=100000)(hlb:b.length<=100000){r:Bool}(hr:decide (a=b)=r){va vb:Value}(hB:zpg B w)(ha:SetV a va B)(hb:SetV b vb B):
  Ret zph 23 [va,vb] w B (fun v _=>v=.bool r):=by
 obtain⟨f1,p1,f2,q1,hsh,hpl⟩:=ha.shape;subst hsh;obtain⟨f3,p3,f4,q3,hsh,hpl3⟩:=hb.shape;subst hsh;refine yh Tryz.func23 Z Tryz.ntmps23 (np Z) hB ((Za2∘Zaf∘Zd∘Zd5∘Zj∘Zdn) ?_);refine z8 (xg (φ:=US a true) L Z Z (zn Z) Z Z Z nw (fun u H hH hle _=>dh hla hH (ha.le hle))) Z ((Zj∘Zdn) ?_);refine z8 (xg (φ:=US b true) L Z Z (zn Z) Z Z Z nw (fun u H hH hle _=>dh hlb hH (hb.le hle))) Z (z8 (zz L Z Z (zn Z) Z Z Z (fun u H hH _ _ v1 h1 v2 h2=>U0 T T hr hH h1 h2)) Z (ZaP (h:=?_)));exact yg2 L [.tmp 4]
def zdg{l m:List U}{e:Int}(hr:ofU [] l=(m,e))(hl:l.length<=100000)(hz:∀ t∈l,TZ t)(hB:zpg B w)(hv:US l fu v B):
  Ret zph 6 [v] w B (WithP m e):=by
 refine yh Tryz.func6 Z Tryz.ntmps6 (np Z) hB (k8 0 (US l fu) Z nw hv ((ZaW∘Zaf∘ZbO∘Zx∘Zh∘Zbt) ?_));refine ow (X:=SXp) 4 (r:=fun x=>Cell (scs x.1) ii) (φ:=B7 []) (ku []) ⟨(.nilFunc,none,.nilFunc,none),rfl⟩ SetV.nil Z ?_
 refine xm (fun y:Nat×List U=>[(2,.own (Cell [.nilFunc,.pointer none,.nilFunc,.pointer none] ii)),(4,.own (ExR (fun x:SXp=>Cell (scs x.1) ii) (B7 y.2) (ku y.2))),(9,.sat (US l fu)),(10,.is (.int .i64 l.length)),(11,.is (.int .i64 y.1))])
  (fun y=>y.1<=l.length/\ofU y.2 (l.drop y.1)=(m,e)/\y.2.length<=4096) (fun y=>l.length-y.1) (0,[]) ⟨mf _,hr,mf _⟩ ⟨rfl,rfl,rfl,rfl,rfl,nm⟩ ?_
 rintro⟨k,s⟩ ⟨hk,he,hsl⟩;dsimp only at hk he hsl |-;refine vm 4 rfl fun⟨⟨f1,p1,f2,q1⟩,hpl⟩ H3 hs3 hT=>?_;have hT:SetV s (.agg #[f1,.pointer p1,f2,.pointer q1]) H3:=hT;by_cases hlt:k<l.length
 ·obtain⟨t,ht⟩:=xi hlt;have hc:=d6 ht;have hzt:=hz t (zln ht);rw[ol ht,ofU] at he;rcases hw:wq s t false with ⟨s',e'⟩
  rw[hw] at he;dsimp only at he;have hsl':=t8 hsl t false;rw[hw] at hsl';by_cases h0:e'=0
  ·rw[na h0] at he;subst h0;refine(Zbn∘Zz∘ZS∘Zaa∘Zcp∘Zbx∘ZE∘Zbg∘Zbq∘Ze7) ?_;refine z7 (xg (φ:=WithP s' 0) L rfl rfl (zn rfl) rfl rfl rfl WithP.mono (fun u H hH hle _=>ru hw hsl hzt hH (hT.le hle))) rfl (w6 19 rfl ?_);rintro _ H19 hs19 ⟨tv,rfl,hT19⟩;obtain⟨g1,r1,g2,r2,rfl,hpl2⟩:=hT19.shape;refine(Z1∘Z2∘Zbr∘Zi∘ZL∘Za5∘ZZ∘Zch∘ZC∘Zbg∘Zbr∘Zbp∘Zat∘Zbc) ?_;exact ei (X:=SXp) 4 (r:=fun x=>Cell (scs x.1) ii) (φ:=B7 s') (ku _) ⟨(g1,r1,g2,r2),hpl2⟩ hT19 Z (wk (x:=(k,s)) (k+1,s') (hs3.trans hs19) ⟨hlt,he,hsl'⟩ G ⟨Z,Z,Z,Z,Z,nm⟩)
  ·rw[nc h0] at he;cases he;refine(Zbn∘Zz∘ZS∘Zaa∘Zcp∘Zbx∘ZE∘Zbg∘Zbq∘Ze7) ?_;refine z7 (xg (φ:=WithP s' e) L rfl rfl (zn rfl) rfl rfl rfl WithP.mono (fun u H hH hle _=>ru hw hsl hzt hH (hT.le hle))) rfl (w6 19 rfl ?_);rintro _ H19 hs19 ⟨tv,rfl,hT19⟩;obtain⟨g1,r1,g2,r2,rfl,hpl2⟩:=hT19.shape;refine(Z1∘Z2∘Zbr∘Zi∘ZL∘ZaG∘ZK∘ZcS∘Za∘ZaQ) ?_;refine yg L (rs:=[.cell 2 37,.tmp 3]) Z (fun _ _ h=>h) (hs3.trans hs19) fun u H hH hle=>?_;exact⟨_,qw Z,rfl,_,rfl,SetV.nil⟩
 ·obtain rfl:k=l.length:=by omega
  rw[zos,ofU] at he;cases he;refine(Zbn∘ZaO∘ZA∘Zbg∘Zbr∘Zc) ?_;refine yg L (rs:=[.cell 2 37,.tmp 3]) Z (fun _ _ h=>h) hs3 fun u H hH hle=>?_;exact⟨_,qw Z,rfl,_,rfl,hT.le hle⟩
end Go.V.L6
namespace Go.V.L3
open Go.V.L2
attribute [local irreducible] V N X VO Par StepOK Has Ret RetL RetO RetT Src
end Go.V.L3
namespace Go.V.L6
open Go.V.L2 Go.V.L3
def zga(t:U):tE t=0\/tE t=6:=by
 unfold tE;split
 ·exact Rv _ _ _
 ·rename_i h;exact .inr ((Fi _).resolve_left h)
def Fu{l:List U}{x z:U}{d:Bool}(h:z∈(wq l x d).1):z∈l\/z=x:=by
 unfold wq at h;split at h
 ·split at h
  ·exact .inl (zlr.1 h).1
  ·split at h
   ·exact .inl h
   ·split at h
    ·cases h
    ·exact(u4.1 h).symm
 ·cases h
attribute [local irreducible] V N X VO Par StepOK Has Ret RetL RetO RetT Src
end Go.V.L6
namespace Go.V.L2
def TM(t:U):Prop:=(t.1.1.1.size<=9223372036854775807/\t.1.1.2.size<=9223372036854775807/\t.1.2.size<=9223372036854775807)/\t.2.1.1.size<=9223372036854775807/\t.2.1.2.size<=9223372036854775807/\t.2.2.size<=9223372036854775807
attribute [local irreducible] V N X VO Par StepOK Has Ret RetL Src
end Go.V.L2
namespace Go.V.L8
open Go.V.L2 Go.V.L3 Go.V.L6
abbrev tyM:TypeId:=82
abbrev tyC:TypeId:=77
abbrev zkm:TypeId:=151
abbrev zkn:TypeId:=74
def ccs(c:CH):List Value:=[.string c.1.1.1.1,.string c.1.1.1.2,.string c.1.1.2,.string c.1.2.1.1,.string c.1.2.1.2,.string c.1.2.2,.bool c.2]
def Vr(c:CH):(ccs c).length=7:=rfl
abbrev KS(ty:TypeId)(l:List CH)(fu:Bool):Value->Heap->Prop:=SlV ty 7 (l.flatMap ccs) l.length fu
def Eu(h:l[i]?=some c):((l.flatMap ccs).drop (i*7)).take 7=[.string c.1.1.1.1,.string c.1.1.1.2,.string c.1.1.2,.string c.1.2.1.1,.string c.1.2.1.2,.string c.1.2.2,.bool c.2]:=ut Vr l i c h
def fq{s:Nat}{r:List CH}(h:κ s=some (.own (SlR ty 7 (r.length+1) (r.flatMap ccs++[.string c.1.1.1.1,.string c.1.1.1.2,.string c.1.1.2,.string c.1.2.1.1,.string c.1.2.1.2,.string c.1.2.2,.bool c.2])))):κ s=some (.own (SlR ty 7 (r++[c]).length ((r++[c]).flatMap ccs))):=by
 rw[h,zlq,nr];rfl
def zjo(hl:¬ n<l.length)(hc:l[i]?=some c)(h:¬ tE c.1=0):cE n l=6:=by
 unfold cE;rw[nc hl,na];rw[zn5];exact⟨c,zln hc,by simp [h]⟩
def zhu(hl:¬ n<l.length)(h:∀ (j:Nat) c,l[j]?=some c->tE c.1=0):cE n l=0:=by
 unfold cE;rw[nc hl,nc];rw[zn5];rintro⟨c,hc,h1⟩;obtain⟨j,hj⟩:=zlx hc;rw[nf (h j c hj)] at h1;cases h1
attribute [local irreducible] V N X VO Par StepOK Has Ret RetL RetO RetT Src
def Rt{t:U}(hz:TM t)(hB:zpg B w):Ret zph 104 [uv t] w B (fun v _=>v=.int .i64 (tE t)):=by
 obtain⟨⟨z1,z2,z3⟩,z4,z5,z6⟩:=hz;unfold tE;refine yh Tryz.func104 Z Tryz.ntmps104 (np Z) hB ?_;by_cases h:p7 [t.1.1.1,t.1.1.2,t.1.2]=0
 ·rw[na h];refine(Z7∘Zah∘ZQ∘Zcz) ?_;refine z71 L Z (fun u H hH _=>goal_ret Q Q Q hH) ?_;refine(Zbh∘Zb3∘ZS∘ZQ∘Zcz∘Zfh∘Zc) ?_;exact yg2 L [.tmp 2]
 ·rw[nc h];refine(Z7∘Zah∘ZQ∘Zcz) ?_;refine z71 L Z (fun u H hH _=>goal_ret Q Q Q hH) ?_;refine(Zbh∘ZaG∘Zp∘Zc) ?_;exact yg2 L [.tmp 2]
def zeb(hc0:l[i]?=some c)(hB:zpg B w)(hb:B b=some (.cells #[v] zkm))(hv:KS tyM l fu v B):
  Ret zph 245 ([.int .i64 i]++[.pointer (some ⟨b,0,none⟩)]) w B (fun r _=>r=uv c.1):=by
 have hc:=Eu hc0;have hil:=get_lt hc0;refine yh Tryz.func245 Z Tryz.ntmps245 (np Z) hB ((ZbN∘Z3∘Zcn) ?_);refine c7 4 (KS tyM l fu) Z nw hv ((Za∘Zaa∘Ze3∘Zcp∘Zam) ?_);refine yg1 L [.cell 3 57] fun u H hH hle=>?_;refine ZcH (h:=?_);rfl
def ze4(hc0:l[i]?=some c)(hB:zpg B w)(hb:B b=some (.cells #[v] zkn))(hv:KS tyC l fu v B):
  Ret zph 246 ([.int .i64 i]++[.pointer (some ⟨b,0,none⟩)]) w B (fun r _=>r=uv c.1):=by
 have hc:=Eu hc0;have hil:=get_lt hc0;refine yh Tryz.func246 Z Tryz.ntmps246 (np Z) hB ((ZbN∘Z3∘Zcn) ?_);refine c7 4 (KS tyC l fu) Z nw hv ((Za∘Zaa∘Ze3∘Zcp∘Zam) ?_);refine yg1 L [.cell 3 57] fun u H hH hle=>?_;refine ZcH (h:=?_);rfl
def Cy{l:List CH}{cf:Nat}{caps:List Value}(hz:∀ c∈l,TM c.1)(hl:l.length<=9223372036854775807)(hfn:L.fn cf=some ()){e:Int}(he:cE 32 l=e)(hB:zpg B w)
  (hcl:∀ (i:Nat) (c:CH),l[i]?=some c->∀ (u:World) (H:Heap),zpg H u->B.Le H->Ret zph cf ([.int .i64 i]++caps) u H (fun r _=>r=uv c.1)):
  Ret zph 244 [.int .i64 l.length,.func (.func cf) #[] caps.toArray] w B (fun v _=>v=.int .i64 e):=by
 subst he;refine yh Tryz.func244 Z Tryz.ntmps244 (np Z) hB ?_;by_cases h32:32<l.length
 ·have:cE 32 l=3:=na h32;rw[this];refine(ZaN∘ZO∘Zu∘Zx∘Zc) ?_;exact yg2 L [.tmp 4]
 ·refine(ZaN∘ZJ∘Z4∘Zbi∘ZcK) ?_;refine xm (fun i:Nat=>[(1,.is (.func (.func cf) #[] caps.toArray)),(9,.is (.int .i64 l.length)),(10,.is (.int .i64 i))]) (fun i=>i<=l.length/\∀ (j:Nat) c,j<i->l[j]?=some c->tE c.1=0) (fun i=>l.length-i) 0 ⟨mf _,fun j c h=>ni h (Nat.not_lt_zero _)⟩ ⟨Z,Z,Z,nm⟩ ?_;rintro i ⟨hi,hok⟩;by_cases hlt:i<l.length
  ·obtain⟨c,hc⟩:=xi hlt;have hzc:=hz c (zln hc);by_cases h0:tE c.1=0
   ·refine(Zbm∘Zz∘ZT∘Zd∘ZbG) ?_;refine z7 (zz L Z Z (zn Z) Z Z hfn (fun u H hH hle _=>hcl i c hc u H hH hle)) Z (z71 L Z (fun u H hH _=>h0 ▸ Rt hzc hH) ?_);refine(Zd∘Z8∘Za5∘Zad∘ZP∘Zat∘Zbc) ?_
    exact yn (x:=i) (i+1) ⟨hlt,fun j c' hj hc'=>by
     rcases m5 j i with h | h
     ·exact hok j c' h hc'
     ·have:j=i:=T;subst this;rw[hc] at hc';cases hc';exact h0⟩ T ⟨rfl,rfl,rfl,nm⟩
   ·have h6:=(zga c.1).resolve_left h0;rw[zjo h32 hc h0];refine(Zbm∘Zz∘ZT∘Zd∘ZbG) ?_;refine z7 (zz L Z Z (zn Z) Z Z hfn (fun u H hH hle _=>hcl i c hc u H hH hle)) Z (z71 L Z (fun u H hH _=>h6 ▸ Rt hzc hH) ?_);refine(Zd∘Z8∘ZaG∘Zbe∘Zc) ?_;exact yg2 L [.tmp 4]
  ·rw[zhu h32 (fun j c hj=>hok j c (by have:=get_lt hj;omega) hj)];refine(Zbm∘ZaO∘ZA∘Zc) ?_;exact yg2 L [.tmp 4]
def Gc{e:TypeId}{s:Nat}{xs:List Value}(h:SlV e s xs n fu v H):∃ p m c,v=.slice p m c:=by
 rcases h.2 with ⟨_,_,h⟩ | ⟨b,off,cap,cs,ty0,fr,h,_⟩
 ·exact⟨_,_,_,h⟩
 ·exact⟨_,_,_,h⟩
def ak{l:List CH}(hz:∀ c∈l,TM c.1)(hl:l.length<=9223372036854775807){e:Int}(he:cE 32 l=e)(hB:zpg B w)(hv:KS tyM l fu v B):
  Ret zph 193 [v] w B (fun r _=>r=.int .i64 e):=by
 obtain⟨p,m,c,rfl⟩:=Gc hv;refine yh Tryz.func193 Z Tryz.ntmps193 (np Z) hB ((Z7∘Zd) ?_);refine sk 1 rfl fun q H1 hs1 ⟨b,hpb,hb1⟩=>?_;subst hpb;refine(Z3∘Zcn) ?_;refine c7 3 (KS tyM l fu) Z nw (hv.le hs1.le) ((ZcL∘Zav) ?_);refine z71 L Z (fun u H hH hle=>Cy (caps:=[.pointer (some ⟨b,0,none⟩)]) hz hl Z he hH (fun i c hc u' H' hH' hle'=>zeb hc hH' (hle' _ _ (hle _ _ hb1)) ((hv.le hs1.le).le (Heap.Le.trans hle hle')))) ?_;refine Zc (h:=?_);refine yg L (rs:=[.tmp 2]) Z (fun _ _ h=>h) hs1 fun u H hH hle=>?_;rfl
end Go.V.L8
namespace Go.V.L11
open Go.V.L2 Go.V.L4 Go.V.Bd Go.V.L8
attribute [local irreducible] V N X VO Par StepOK Has Ret RetL RetO RetT ki RetX RetY Src
end Go.V.L11
namespace Go.V
section
variable {α β:Type} [DecidableEq α] [DecidableEq β] {k:α->β} {c:β->β->Int}
def Eqv(k:α->β)(S S':List α):Prop:=∀ t,S'.filter (fun x=>decide (k x=t))=S.filter (fun x=>decide (k x=t))
def Srt(k:α->β)(c:β->β->Int)(l:List α):Prop:=l.Pairwise fun x y=>¬ c (k y) (k x)<0
def Stb(k:α->β)(c:β->β->Int)(S S':List α):Prop:=Srt k c S'/\Eqv k S S'
omit [DecidableEq α] in
theorem Eqv.refl(S:List α):Eqv k S S:=fun _=>rfl
omit [DecidableEq α] in
theorem Eqv.trans{A B C:List α}(h1:Eqv k A B)(h2:Eqv k B C):Eqv k A C:=fun t=>(h2 t).trans (h1 t)
omit [DecidableEq α] in
theorem Eqv.app{A A' B B':List α}(h1:Eqv k A A')(h2:Eqv k B B'):Eqv k (A++B) (A'++B'):=fun t=>by rw[zni,zni,h1 t,h2 t]
omit [DecidableEq α] in
theorem Eqv.swap{A B:List α}(h:∀ a∈A,∀ b∈B,k a≠k b):Eqv k (A++B) (B++A):=fun t=>by
 rw[zni,zni];by_cases ha:∃ a∈A,k a=t
 ·obtain⟨a,ha,rfl⟩:=ha;have:B.filter (fun x=>decide (k x=k a))=[]:=znb.2 fun b hb e=>h a ha b hb (by simpa using e:k b=k a).symm;rw[this,mq,mh]
 ·have:A.filter (fun x=>decide (k x=t))=[]:=znb.2 fun a h1 e=>ha ⟨a,h1,by simpa using e⟩;rw[this,mq,mh]
theorem Eqv.count{S S':List α}(h:Eqv k S S')(x:α):S'.count x=S.count x:=by
 have e:∀ l:List α,(l.filter fun y=>decide (k y=k x)).count x=l.count x:=fun l=>List.count_filter (by simp);rw[<-e S',<-e S,h (k x)]
theorem Eqv.perm{S S':List α}(h:Eqv k S S'):S'.Perm S:=List.perm_iff_count.2 fun x=>h.count x
theorem Eqv.length{S S':List α}(h:Eqv k S S'):S'.length=S.length:=h.perm.length_eq
theorem Eqv.mem{S S':List α}(h:Eqv k S S'){x:α}:x∈S'↔x∈S:=h.perm.mem_iff
omit [DecidableEq α] [DecidableEq β] in
theorem lf{A B:List α}:Srt k c (A++B)↔Srt k c A/\Srt k c B/\∀ a∈A,∀ b∈B,¬ c (k b) (k a)<0:=zl0
omit [DecidableEq α] [DecidableEq β] in
theorem T6(ho:Ord3 c){a b:β}(h:c a b<0):b≠a:=fun e=>by subst e;exact ho.irr _ h
omit [DecidableEq α] in
theorem Kw(ho:Ord3 c){A B:List α}{x:α}(hs:Srt k c (A++B))(ha:∀ a∈A,¬ c (k x) (k a)<0)(hb:∀ b∈B,c (k x) (k b)<0):Stb k c (A++B++[x]) (A++x::B):=by
 obtain⟨s1,s2,s3⟩:=lf.1 hs;refine⟨lf.2 ⟨s1,mg.2 ⟨fun b h=>ho.asym (hb b h),s2⟩,fun a h b hm=>?_⟩,?_⟩
 ·rcases nz.1 hm with rfl | hm
  ·exact ha a h
  ·exact s3 a h b hm
 ·rw[mj]
  exact(Eqv.refl A).app (Eqv.swap (A:=B) (B:=[x]) fun b h y hy=>by
   simp at hy;subst hy;exact T6 ho (hb b h))
omit [DecidableEq α] in
theorem zdb(ho:Ord3 c){A B:List α}{x:α}(hs:Srt k c (A++B))(ha:∀ a∈A,c (k a) (k x)<0)(hb:∀ b∈B,¬ c (k b) (k x)<0):Stb k c (x::(A++B)) (A++x::B):=by
 obtain⟨s1,s2,s3⟩:=lf.1 hs;refine⟨lf.2 ⟨s1,mg.2 ⟨hb,s2⟩,fun a h b hm=>?_⟩,?_⟩
 ·rcases nz.1 hm with rfl | hm
  ·exact ho.asym (ha a h)
  ·exact s3 a h b hm
 ·have e:A++x::B=A++[x]++B:=by simp
  have e2:x::(A++B)=[x]++A++B:=by simp
  rw[e,e2]
  exact(Eqv.swap (A:=[x]) (B:=A) fun y hy a h=>by
   simp at hy;subst hy;exact T6 ho (ha a h)).app (Eqv.refl B)
theorem X9(ho:Ord3 c){A1 A2 B1 B2 S1 S2:List α}(hA:Srt k c (A1++A2))(hB:Srt k c (B1++B2))(h12:∀ a∈A2,∀ b∈B1,c (k b) (k a)<0)(h21:∀ a∈A1,∀ b∈B2,¬ c (k b) (k a)<0)
  (h1:Stb k c (A1++B1) S1) (h2:Stb k c (A2++B2) S2):Stb k c (A1++A2++(B1++B2)) (S1++S2):=by
 obtain⟨a1,a2,a3⟩:=lf.1 hA;obtain⟨b1,b2,b3⟩:=lf.1 hB;refine⟨lf.2 ⟨h1.1,h2.1,fun x hx y hy=>?_⟩,?_⟩
 ·rcases mn.1 (h1.2.mem.1 hx) with hx | hx<;>rcases mn.1 (h2.2.mem.1 hy) with hy | hy
  ·exact a3 x hx y hy
  ·exact h21 x hx y hy
  ·exact ho.asym (h12 y hy x hx)
  ·exact b3 x hx y hy
 ·refine Eqv.trans ?_ (h1.2.app h2.2);have e1:A1++A2++(B1++B2)=A1++(A2++B1)++B2:=by simp
  have e2:A1++B1++(A2++B2)=A1++(B1++A2)++B2:=by simp
  rw[e1,e2];exact((Eqv.refl A1).app (Eqv.swap fun a ha b hb=>T6 ho (h12 a ha b hb))).app (Eqv.refl B2)
omit [DecidableEq α] [DecidableEq β] in
theorem cq(ho:Ord3 c){l:List α}(h:Srt k c l){i j:Nat}{x y:α}(hi:l[i]?=some x)(hj:l[j]?=some y)(hij:i<=j):¬ c (k y) (k x)<0:=by
 rcases m5 i j with h1 | h1
 ·obtain⟨hi',rfl⟩:=zl5.1 hi;obtain⟨hj',rfl⟩:=zl5.1 hj;exact zmk.1 h i j hi' hj' h1
 ·have:i=j:=T;subst this;rw[hi] at hj;cases hj;exact ho.irr _
end
end Go.V
section
open Go.V
attribute [local irreducible] Has N Par Ret RetL Src StepOK V VO X
namespace Go.V.L8
open Go.V.L2 Go.V.L3 Go.V.L6
abbrev zC:CH:=((n3,n3),false)
def Uh(l:List CH)(t:U)(z:CH):CH:=l.foldl (fun a c=>if c.1=t then c else a) z
def gn(l:List CH)(t:U):Option CH:=(l.filter fun c=>decide (c.1=t)).getLast?
def Uf(t:U):gn [] t=none:=rfl
def gm(c:CH)(l:List CH)(t:U):gn (c::l) t=(gn l t).or (if c.1=t then some c else none):=by
 unfold gn;by_cases h:c.1=t
 ·rw[na h,zm0 (by simpa using h),List.getLast?_cons];cases (l.filter fun c=>decide (c.1=t)).getLast?<;>rfl
 ·rw[nc h,znu (by simpa using h)];cases (l.filter fun c=>decide (c.1=t)).getLast?<;>rfl
def fg{t:U}(h:gn l t=some c):c.1=t/\c∈l:=by
 have:=List.mem_of_getLast? h;rw[zlr] at this;exact⟨by simpa using this.2,this.1⟩
def dp{l:List CH}{t:U}:gn l t=none↔∀ c∈l,c.1≠t:=by
 unfold gn;rw[List.getLast?_eq_none_iff,znb];simp
def N4(l:List CH)(t:U)(z:CH):Uh l t z=(gn l t).getD z:=by
 induction l generalizing z with
 | nil=>rfl
 | cons c r ih=>
  have:Uh (c::r) t z=Uh r t (if c.1=t then c else z):=rfl;rw[this,ih,gm]
  cases gn r t with
  | some d=>rfl
  | none=>by_cases h:c.1=t<;>simp [h]
def Hg{l:List CH}{t:U}{z:CH}(h:∃ c∈l,c.1=t):gn l t=some (Uh l t z):=by
 rw[N4]
 cases hk:gn l t with
 | some d=>rfl
 | none=>obtain⟨c,hc,he⟩:=h;exact ni he (dp.1 hk c hc)
def Bc(l:List CH):List CH:=(sortT (l.map (·.1))).map fun t=>Uh l t zC
def im{l:List U}{t:U}:t∈sortT l↔t∈l:=by unfold sortT;rw[dj];simp
def Gb(l:List U):Sst kq (sortT l):=p9 cmpT_ord Sst.nil
def G4:c∈Bc l↔gn l c.1=some c:=by
 unfold Bc;rw[m8];constructor
 ·rintro⟨t,ht,rfl⟩;rw[im,m8] at ht;have:=Hg (z:=zC) ht;rw[(fg this).1];exact this
 ·intro h;have hm:=fg h;exact⟨c.1,im.2 (m8.2 ⟨c,hm.2,rfl⟩),by rw[N4,h];rfl⟩
def Qf(l:List CH):(Bc l).map (·.1)=sortT (l.map (·.1)):=by
 unfold Bc;rw[znh]
 conv=>rhs;rw[<-zoa (sortT (l.map (·.1)))]
 refine zom fun t ht=>?_;rw[im,m8] at ht;exact(fg (Hg (z:=zC) ht)).1
def Kd(l:List CH):Prop:=Sst kq (l.map (·.1))
def G2(l:List CH):Kd (Bc l):=by unfold Kd;rw[Qf];exact Gb _
def iy(h:Kd l):l.Pairwise fun a b=>a.1≠b.1:=by
 unfold Kd Sst at h;rw[zot] at h;exact h.imp fun h1=>cmpT_ord.ne h1
def Ts{m:List CH}(hl:Kd l)(hm:Kd m)(h:∀ c,c∈l↔c∈m):l=m:=by
 have hk:l.map (·.1)=m.map (·.1):=l8 cmpT_ord hl hm fun t=>by
  rw[m8,m8];exact⟨fun⟨c,hc,e⟩=>⟨c,(h c).1 hc,e⟩,fun⟨c,hc,e⟩=>⟨c,(h c).2 hc,e⟩⟩
 have uni:∀ {l:List CH},Kd l->∀ a∈l,∀ b∈l,a.1=b.1->a=b:=fun {l} hn a ha b hb e=>by
  by_cases hab:a=b
  ·exact hab
  ·exfalso;obtain⟨i,hi⟩:=zlx ha;obtain⟨j,hj⟩:=zlx hb;obtain⟨hi',rfl⟩:=zl5.1 hi;obtain⟨hj',rfl⟩:=zl5.1 hj;have hp:=zmk.1 (iy hn);rcases zol i j with h | h | h
   ·exact hp i j hi' hj' h e
   ·subst h;exact hab rfl
   ·exact hp j i hj' hi' h e.symm
 have hlen:l.length=m.length:=by rw[<-mt (f:=(·.1)),hk,mt]
 refine List.ext_getElem hlen fun i h1 h2=>?_
 have e:l[i].1=m[i].1:=by
  have:=nh (·[i]?) hk;simp only[zlu,zlh h1,zlh h2,zmr,Option.some.injEq] at this;exact this
 exact uni hm _ ((h _).1 (List.getElem_mem h1)) _ (List.getElem_mem h2) e
def ci:List CH->List CH
 | []=>[]
 | [c]=>[c]
 | c::d::r=>if kq c.1 d.1=0 then ci (d::r) else c::ci (d::r)
def Qp(h:l[i]?=some c):ci (l.drop i)=(match l[i+1]? with | none=>[c] | some d=>if kq c.1 d.1=0 then [] else [c])++ci (l.drop (i+1)):=by
 have h1:l.drop i=c::l.drop (i+1):=ol h;rw[h1]
 cases h2:l[i+1]? with
 | none=>
  have:l.drop (i+1)=[]:=zlf (by simpa using h2);rw[this];rfl
 | some d=>
  have h3:l.drop (i+1)=d::l.drop (i+1+1):=ol h2;rw[h3];show(if kq c.1 d.1=0 then _ else _)=(if kq c.1 d.1=0 then _ else _)++_;split<;>rfl
def C4:∀ {S:List CH},Srt (·.1) kq S->(∀ c∈ci S,gn S c.1=some c)/\(∀ x∈S,∃ c∈ci S,c.1=x.1)/\Kd (ci S)
 | [],_=>⟨fun c hc=>(by cases hc),fun c hc=>(by cases hc),Sst.nil⟩
 | [c],_=>by
  have e:ci [c]=[c]:=rfl;rw[e];refine⟨fun d hd=>?_,fun x hx=>⟨x,hx,rfl⟩,zmi _ _⟩;rw[m6] at hd;subst hd;rw[gm,na rfl];rfl
 | c::d::r,h=>by
  obtain⟨h1,h2⟩:=mg.1 h;obtain⟨g1,g2,g3⟩:=C4 (S:=d::r) h2;have e:ci (c::d::r)=if kq c.1 d.1=0 then ci (d::r) else c::ci (d::r):=rfl
  by_cases h0:kq c.1 d.1=0
  ·rw[e,na h0];have hcd:=cmpT_ord.eq _ _ h0;refine⟨fun x hx=>by rw[gm,g1 x hx];rfl,fun x hx=>?_,g3⟩;rcases nz.1 hx with rfl | hx
   ·obtain⟨y,hy,e⟩:=g2 d (mb ..);exact⟨y,hy,e.trans hcd.symm⟩
   ·exact g2 x hx
  ·rw[e,nc h0]
   have hlt:∀ y∈d::r,kq c.1 y.1<0:=fun y hy=>by
    have hcd:kq c.1 d.1<0:=by
     have h3:=h1 d (mb ..);have:=cmpT_ord.anti c.1 d.1;dsimp only at h3;omega
    rcases nz.1 hy with rfl | hy
    ·exact hcd
    ·have h3:=(mg.1 h2).1 y hy;dsimp only at h3;by_cases h5:kq d.1 y.1<0
     ·exact cmpT_ord.tr hcd h5
     ·have h6:kq d.1 y.1=0:=by have:=cmpT_ord.anti d.1 y.1;omega
      rw[<-cmpT_ord.eq _ _ h6];exact hcd
   refine⟨fun x hx=>?_,fun x hx=>?_,?_⟩
   ·rcases nz.1 hx with rfl | hx
    ·rw[gm,na rfl,dp.2 fun y hy e=>cmpT_ord.irr x.1 (by rw[<-e];exact ni (hlt y hy) (by rw[e];exact cmpT_ord.irr _))];rfl
    ·rw[gm,g1 x hx];rfl
   ·rcases nz.1 hx with rfl | hx
    ·exact⟨x,mb ..,rfl⟩
    ·obtain⟨y,hy,e⟩:=g2 x hx;exact⟨y,mc _ hy,e⟩
   ·unfold Kd;rw[mp];refine mg.2 ⟨fun t ht=>?_,g3⟩;obtain⟨y,hy,rfl⟩:=m8.1 ht;exact hlt y (fg (g1 y hy)).2
def Uk{l S:List CH}(h:Stb (·.1) kq l S):ci S=Bc l:=by
 obtain⟨g1,g2,g3⟩:=C4 h.1;have hK:∀ t,gn S t=gn l t:=fun t=>by unfold gn;rw[h.2 t]
 refine Ts g3 (G2 l) fun c=>?_;rw[G4];constructor
 ·exact fun hc=>by rw[<-hK];exact g1 c hc
 ·intro hc;rw[<-hK] at hc;obtain⟨d,hd,e⟩:=g2 c (fg hc).2;have:=g1 d hd;rw[e,hc] at this;cases this;exact hd
end Go.V.L8
namespace Go.V.L11
open Go.V.L2 Go.V.L4 Go.V.L8
attribute [local irreducible] RetO RetT ki RetX RetY
end Go.V.L11
namespace Go.V.L2
def _root_.ZcU(t:Wr Y->A:=by intro h;refine z8 (yd L 0 rfl Z Z Z (by first | omega | decide) M) Z ?_;exact h.1)(h:Y):A:=t ⟨h⟩
def _root_.ZcB(t:Wr Y->A:=by intro h;refine z7 (Nm Z Z Z Z (ng T)) Z ?_;exact h.1)(h:Y):A:=t ⟨h⟩
def _root_.ZcC(t:Wr Y->A:=by intro h;refine z7 (Nm Z Z Z Z (nf T)) Z ?_;exact h.1)(h:Y):A:=t ⟨h⟩
def _root_.Zdo(t:Wr Y->A:=by intro h;refine z7 (yd L 0 rfl Z Z Z (by first | omega | decide) M) Z ?_;exact h.1)(h:Y):A:=t ⟨h⟩
def _root_.ZaM(t:Wr Y->A:=by intro h;refine zh (id:=20) ?_;exact h.1)(h:Y):A:=t ⟨h⟩
def _root_.ZdP(t:Wr Y->A:=by intro h;refine zy (wn L Z Z Z (az Z) Z zho Z Z T T) ?_;exact h.1)(h:Y):A:=t ⟨h⟩
def _root_.Zem(t:Wr Y->A:=by intro h;refine zh (id:=18) ?_;exact h.1)(h:Y):A:=t ⟨h⟩
def _root_.Zb8(t:Wr Y->A:=by intro h;refine zh (id:=17) ?_;exact h.1)(h:Y):A:=t ⟨h⟩
def _root_.Zcj(t:Wr Y->A:=by intro h;refine zh (id:=21) ?_;exact h.1)(h:Y):A:=t ⟨h⟩
def _root_.Zcx(t:Wr Y->A:=by intro h;refine zh (id:=19) ?_;exact h.1)(h:Y):A:=t ⟨h⟩
def _root_.ZcD(t:Wr Y->A:=by intro h;refine zh (id:=22) ?_;exact h.1)(h:Y):A:=t ⟨h⟩
def _root_.Zcc(t:Wr Y->A:=by exact fun h=>(Zem∘Za) h.1)(h:Y):A:=t ⟨h⟩
def Pi{a tv:Value}(h:φ tv H):TupS [φ,fun v _=>v=a] (.tuple #[tv,a]) H:=
 ⟨[tv,a],rfl,rfl,fun i ψ x hi hx=>by
  rcases i with _ | _ | i
  ·simp at hi hx;subst hi hx;exact h
  ·simp at hi hx;subst hi hx;rfl
  ·simp at hi⟩
def Ph{a:Value}(h:Kn.mono (.sat φ)):Kn.mono (.sat (TupS [φ,fun v _=>v=a])):=TupS.mono fun ψ hψ=>by
 rcases nz.1 hψ with rfl | hψ
 ·exact h
 ·rw[m6] at hψ;subst hψ;exact fun _ _ _ h _=>h
def gl{α:Type}{c:α->α->Int}{f:Bool->Bool->Bool}:∀ (n:Nat) (l m:List α),l.length+m.length<=n->(u7 c f n l m).length<=l.length+m.length
 | 0,_,_,_=>by simp [u7]
 | n+1,[],[],_=>by simp [u7]
 | n+1,a::l,[],h=>by
  have:=gl (c:=c) (f:=f) n l [] (by simp only[ny,my] at h |-;omega);simp only[u7,nr,ny,my] at this |-;split<;>simp only[ny,my]<;>omega
 | n+1,[],b::m,h=>by
  have:=gl (c:=c) (f:=f) n [] m (by simp only[ny,my] at h |-;omega);simp only[u7,nr,ny,my] at this |-;split<;>simp only[ny,my]<;>omega
 | n+1,a::l,b::m,h=>by
  simp only[ny] at h;have h1:=gl (c:=c) (f:=f) n l (b::m) (by simp only[ny];omega);have h2:=gl (c:=c) (f:=f) n (a::l) m (by simp only[ny];omega);have h3:=gl (c:=c) (f:=f) n l m T;simp only[ny] at h1 h2;simp only[u7];split
  ·rw[nr];split<;>simp only[ny,my]<;>omega
  ·split
   ·rw[nr];split<;>simp only[ny,my]<;>omega
   ·rw[nr];split<;>simp only[ny,my]<;>omega
def zg4(f:Bool->Bool->Bool)(l m:List U):List U×Int:=
 if 4096<l.length\/4096<m.length then ([],3) else if (isB l && isB m)=true then (u7 kq f (l.length+m.length) l m,0) else ([],18)
abbrev LE(r:List U×Int):Value->Heap->Prop:=TupS [US r.1 true,fun v _=>v=.int .i64 r.2]
def LE.mono{r:List U×Int}:Kn.mono (.sat (LE r)):=Ph nw
def Dw(a:U)(l:List U):(((a::l).flatMap ucs).drop (1*6)).take (((a::l).length-1)*6)=l.flatMap ucs:=by
 rw[zl3,zor (by rfl),ny,zou,zle (Nat.le_of_eq (wg ej l))]
def Ab{s:Nat}{out:List U}{t:U}(h:κ s=some (.own (SlR tyU 6 (out.length+1) (out.flatMap ucs++[.string t.1.1.1,.string t.1.1.2,.string t.1.2,.string t.2.1.1,.string t.2.1.2,.string t.2.2])))):κ s=some (.own (SlR tyU 6 (out++[t]).length ((out++[t]).flatMap ucs))):=by
 rw[h,zlq,nr];simp [ucs]
def T1{f:Bool->Bool->Bool}{tf:Nat}(hfn:L.fn tf=some ())(hf:∀ (p q:Bool) (u:World) (H:Heap),zpg H u->Ret zph tf [.bool p,.bool q] u H (fun v _=>v=.bool (f p q))){l m:List U}{fa fb:Bool}
  {r:List U×Int} (hr:zg4 f l m=r) {v v2:Value}   (hB:zpg B w) (hv:US l fa v B) (hv2:US m fb v2 B):
  Ret zph 93 [v,v2,.func (.func tf) #[] #[]] w B (LE r):=by
 subst hr;unfold zg4;refine yh Tryz.func93 Z Tryz.ntmps93 (np Z) hB (k8 0 (US l fa) Z nw hv (k8 1 (US m fb) Z nw hv2 ?_));by_cases z1:4096<l.length
 ·rw[na (.inl z1)];refine(ZbH∘Zah∘Zh∘ZO∘ZbT∘Zu∘Zx∘ZM) ?_;refine yg1 L [.tmp 6,.tmp 7] fun u H hH hle=>?_;exact Pi SlV.nil
 ·by_cases z2:4096<m.length
  ·rw[na (.inr z2)];refine(ZbH∘Zah∘Zh∘ZJ∘Za∘Zh∘ZO∘ZbS∘Zx∘ZM) ?_;refine yg1 L [.tmp 6,.tmp 7] fun u H hH hle=>?_;exact Pi SlV.nil
  ·rw[nc T];cases h1:isB l
   ·rw[nc (by simp)];refine(ZbH∘Zah∘Zh∘ZJ∘Za∘Zh∘ZJ∘Zl∘Z4∘ZI∘Zk) ?_;refine z7 (zz L Z Z (zn Z) Z Z Z (fun u H hH _ _ v1 hv1=>ek T h1 hH hv1)) Z ((Zt∘ZbT∘Zu∘ZS∘ZM) ?_);refine yg1 L [.tmp 6,.tmp 7] fun u H hH hle=>?_;exact Pi SlV.nil
   ·cases h2:isB m
    ·rw[nc (by simp)];refine(ZbH∘Zah∘Zh∘ZJ∘Za∘Zh∘ZJ∘Zl∘Z4∘ZI∘Zk) ?_;refine z7 (zz L Z Z (zn Z) Z Z Z (fun u H hH _ _ v1 hv1=>ek T h1 hH hv1)) Z ((Zt∘Za∘Zk) ?_);refine z7 (zz L Z Z (zn Z) Z Z Z (fun u H hH _ _ v1 hv1=>ek T h2 hH hv1)) Z ((Zt∘ZbS∘ZS∘ZM) ?_);refine yg1 L [.tmp 6,.tmp 7] fun u H hH hle=>?_;exact Pi SlV.nil
    ·rw[na (by rfl)];refine(ZbH∘Zah∘Zh∘ZJ∘Za∘Zh∘ZJ∘Zl∘Z4∘ZI∘Zk) ?_;refine z7 (zz L Z Z (zn Z) Z Z Z (fun u H hH _ _ v1 hv1=>ek T h1 hH hv1)) Z ((Zt∘Za∘Zk) ?_);refine z7 (zz L Z Z (zn Z) Z Z Z (fun u H hH _ _ v1 hv1=>ek T h2 hH hv1)) Z ((Zt∘ZbV∘ZE∘Zd∘Zak) ?_);refine zbs 0 (US l false) Z nw (fun _ _ h=>h.nofu) (zbs 1 (US m false) Z nw (fun _ _ h=>h.nofu) (gh 8 tyU 6 rfl ?_))
     refine xm (fun s:Nat×List U×List U×List U=>[(0,.sat (US s.2.1 false)),(1,.sat (US s.2.2.1 false)),(2,.is (.func (.func tf) #[] #[])),(8,.own (SlR tyU 6 s.2.2.2.length (s.2.2.2.flatMap ucs)))])
      (fun s=>s.2.1.length+s.2.2.1.length<=s.1/\s.2.2.2++u7 kq f s.1 s.2.1 s.2.2.1=u7 kq f (l.length+m.length) l m/\s.2.2.2.length+s.2.1.length+s.2.2.1.length<=8192) (fun s=>s.1) (l.length+m.length,l,m,[]) ⟨ns _,rfl,by simp only[my];omega⟩ ⟨rfl,rfl,rfl,rfl,nm⟩ ?_
     generalize u7 kq f (l.length+m.length) l m=R;clear h1 h2 z1 z2 hv hv2;rintro⟨n,x,y,out⟩ ⟨hn,hR,hz⟩;dsimp only at hn hR hz |-;rcases x with _ | ⟨a,x⟩
     ·rcases y with _ | ⟨b,y⟩
      ·have hR:out=R:=by rw[<-hR];cases n<;>simp [u7]
       subst hR;have l0:([]:List U).length=0:=rfl;refine(Ze∘Zaw∘Zh∘ZJ∘Za∘Zh∘ZJ∘Zl∘ZZ∘ZaD) ?_;refine l6 8 rfl ((ZcD∘Zk∘Zh∘Zh∘Zdk∘ZR∘Zc) ?_);refine yg1 L [.tmp 6,.tmp 7] fun u H hH hle=>?_;exact fun v hv=>Pi hv
      ·have l0:([]:List U).length=0:=rfl;have lb:(b::y).length=y.length+1:=rfl;have hb:=d6 (l:=b::y) (i:=0) (t:=b) rfl;have tb:=Dw b y;rcases n with _ | n
       ·simp only[ny,my] at hn;omega
       cases hft:f false true
       ·have hR:out++u7 kq f n [] y=R:=by rw[<-hR];simp [u7,hft]
        have hfv:∀ (u:World) (H:Heap),zpg H u->Ret zph tf [.bool false,.bool true] u H (fun v _=>v=.bool false):=fun u H h=>by have:=hf false true u H h;rwa [hft] at this
        refine(Ze∘Zaw∘Zh∘ZJ∘Za∘Zh∘ZO∘Zl∘ZbD∘ZK∘Zd∘Z6∘Zat∘Zh∘ZG∘ZbM∘ZA∘ZU∘Zbk∘ZX∘Zcm∘ZbA∘Zbw∘ZO∘ZD∘Za0∘Zk∘Zdo∘Zcp∘ZaL∘Zay∘Zcc∘ZbK∘Zcx∘Zk) ?_;refine z7 (jj L (kh:=.i64) (ph:=0) (km:=.i64) (pm:=0) 1 _ false Z Z Z Z Z ⟨rfl,rfl⟩ ⟨rfl,rfl⟩ (fun h=>by cases h) T T M) Z ?_;refine(ZR∘Zg∘ZaM∘Zb∘ZcB∘Za∘Zcg) ?_;refine z7 (zz L Z Z (zn Z) Z Z hfn (fun u H hH _ _=>hfv u H hH)) Z ((Zad∘Zao) ?_);exact yn (x:=(n+1,[],b::y,out)) (n,[],y,out) ⟨by simp only[List.length_cons,List.length_nil] at hn |-;omega,hR,by simp only[List.length_cons,List.length_nil,List.length_append] at hz |-;omega⟩ G ⟨Z,Z,Z,Z,nm⟩
       ·have hR:out++[b]++u7 kq f n [] y=R:=by rw[<-hR];simp [u7,hft]
        have hfv:∀ (u:World) (H:Heap),zpg H u->Ret zph tf [.bool false,.bool true] u H (fun v _=>v=.bool true):=fun u H h=>by have:=hf false true u H h;rwa [hft] at this
        refine(Ze∘Zaw∘Zh∘ZJ∘Za∘Zh∘ZO∘Zl∘ZbD∘ZK∘Zd∘Z6∘Zat∘Zh∘ZG∘ZbM∘ZA∘ZU∘Zbk∘ZX∘Zcm∘ZbA∘Zbw∘ZO∘ZD∘Za0∘Zk∘Zdo∘Zcp∘ZaL∘Zay∘Zcc∘ZbK∘Zcx∘Zk) ?_;refine z7 (jj L (kh:=.i64) (ph:=0) (km:=.i64) (pm:=0) 1 _ false Z Z Z Z Z ⟨rfl,rfl⟩ ⟨rfl,rfl⟩ (fun h=>by cases h) T T M) Z ?_;refine(ZR∘Zg∘ZaM∘Zb∘ZcB∘Za∘Zcg) ?_;refine z7 (zz L Z Z (zn Z) Z Z hfn (fun u H hH _ _=>hfv u H hH)) Z ((ZD∘Zcj) ?_);refine zy (yo (.inl Z) Z) ((Zbq∘Zae∘ZdP) ?_);refine zy (yo (.inr Z) Z) ((ZN∘Zao) ?_);exact yn (x:=(n+1,[],b::y,out)) (n,[],y,out++[b]) ⟨by simp only[List.length_cons,List.length_nil] at hn |-;omega,hR,by simp only[List.length_cons,List.length_nil,List.length_append] at hz |-;omega⟩ G ⟨Z,Z,Z,Ab Z,nm⟩
     ·have la:(a::x).length=x.length+1:=rfl;have ha:=d6 (l:=a::x) (i:=0) (t:=a) rfl;have ta:=Dw a x;rcases y with _ | ⟨b,y⟩
      ·have l0:([]:List U).length=0:=rfl;rcases n with _ | n
       ·simp only[ny,my] at hn;omega
       cases hft:f true false
       ·have hR:out++u7 kq f n x []=R:=by rw[<-hR];simp [u7,hft]
        have hfv:∀ (u:World) (H:Heap),zpg H u->Ret zph tf [.bool true,.bool false] u H (fun v _=>v=.bool false):=fun u H h=>by have:=hf true false u H h;rwa [hft] at this
        refine(Ze∘Zaw∘Zh∘ZO∘ZbT∘ZbD∘ZK∘Zd∘Z6∘Zat∘Zh∘Zq∘Zan∘ZV∘Zh∘ZG∘ZbM∘ZW∘ZU∘Zbk∘ZX∘Zcm∘ZbA∘Zbw∘ZJ∘ZZ∘Zf∘Zap∘Zk∘Zdo∘Zcp∘Zam∘Zb8∘Zk) ?_;refine z7 (jj L (kh:=.i64) (ph:=0) (km:=.i64) (pm:=0) 1 _ false Z Z Z Z Z ⟨rfl,rfl⟩ ⟨rfl,rfl⟩ (fun h=>by cases h) T T M) Z ?_;refine(ZR∘Zay∘Zcc∘Za6∘Zn∘ZaM∘Zb∘ZcC∘Za∘Za6) ?_;refine z7 (zz L Z Z (zn Z) Z Z hfn (fun u H hH _ _=>hfv u H hH)) Z ((Zad∘Zao) ?_);exact yn (x:=(n+1,a::x,[],out)) (n,x,[],out) ⟨by simp only[List.length_cons,List.length_nil] at hn |-;omega,hR,by simp only[List.length_cons,List.length_nil,List.length_append] at hz |-;omega⟩ G ⟨Z,Z,Z,Z,nm⟩
       ·have hR:out++[a]++u7 kq f n x []=R:=by rw[<-hR];simp [u7,hft]
        have hfv:∀ (u:World) (H:Heap),zpg H u->Ret zph tf [.bool true,.bool false] u H (fun v _=>v=.bool true):=fun u H h=>by have:=hf true false u H h;rwa [hft] at this
        refine(Ze∘Zaw∘Zh∘ZO∘ZbT∘ZbD∘ZK∘Zd∘Z6∘Zat∘Zh∘Zq∘Zan∘ZV∘Zh∘ZG∘ZbM∘ZW∘ZU∘Zbk∘ZX∘Zcm∘ZbA∘Zbw∘ZJ∘ZZ∘Zf∘Zap∘Zk∘Zdo∘Zcp∘Zam∘Zb8∘Zk) ?_;refine z7 (jj L (kh:=.i64) (ph:=0) (km:=.i64) (pm:=0) 1 _ false Z Z Z Z Z ⟨rfl,rfl⟩ ⟨rfl,rfl⟩ (fun h=>by cases h) T T M) Z ?_;refine(ZR∘Zay∘Zcc∘Za6∘Zn∘ZaM∘Zb∘ZcC∘Za∘Za6) ?_;refine z7 (zz L Z Z (zn Z) Z Z hfn (fun u H hH _ _=>hfv u H hH)) Z ((ZD∘Zcj) ?_);refine zy (yo (.inl Z) Z) ((Zbq∘Zae∘ZdP) ?_);refine zy (yo (.inr Z) Z) ((ZN∘Zao) ?_);exact yn (x:=(n+1,a::x,[],out)) (n,x,[],out++[a]) ⟨by simp only[List.length_cons,List.length_nil] at hn |-;omega,hR,by simp only[List.length_cons,List.length_nil,List.length_append] at hz |-;omega⟩ G ⟨Z,Z,Z,Ab Z,nm⟩
      ·have lb:(b::y).length=y.length+1:=rfl;have hb:=d6 (l:=b::y) (i:=0) (t:=b) rfl;have tb:=Dw b y;by_cases c1:kq a b<0
       ·rcases n with _ | n
        ·simp only[ny,my] at hn;omega
        cases hft:f true false
        ·have hR:out++u7 kq f n x (b::y)=R:=by rw[<-hR];simp [u7,c1,hft]
         have hfv:∀ (u:World) (H:Heap),zpg H u->Ret zph tf [.bool true,.bool false] u H (fun v _=>v=.bool false):=fun u H h=>by have:=hf true false u H h;rwa [hft] at this
         refine(Ze∘Zaw∘Zh∘ZO∘ZbT∘ZbD∘ZK∘Zd∘Z6∘Zat∘Zh∘Zq∘Zan∘ZV∘Zh∘Zq∘Zc4∘Zct∘ZaA∘ZcU∘Za9∘ZaA∘ZcU∘Za9) ?_;refine z81 L Z (fun u H hH _=>jh hH) ?_;refine(Zbd∘ZbU∘Zao∘Zbk∘ZX∘Zcm∘ZbA∘Zbw∘ZJ∘ZZ∘Zf∘Zap∘Zk∘Zdo∘Zcp∘Zam∘Zb8∘Zk) ?_;refine z7 (jj L (kh:=.i64) (ph:=0) (km:=.i64) (pm:=0) 1 _ false Z Z Z Z Z ⟨rfl,rfl⟩ ⟨rfl,rfl⟩ (fun h=>by cases h) T T M) Z ?_;refine(ZR∘Zay∘Zcc∘Za6∘Zn∘ZaM∘Zb∘ZcC∘Za∘Za6) ?_;refine z7 (zz L Z Z (zn Z) Z Z hfn (fun u H hH _ _=>hfv u H hH)) Z ((Zad∘Zao) ?_);exact yn (x:=(n+1,a::x,b::y,out)) (n,x,(b::y),out) ⟨by simp only[List.length_cons,List.length_nil] at hn |-;omega,hR,by simp only[List.length_cons,List.length_nil,List.length_append] at hz |-;omega⟩ G ⟨Z,Z,Z,Z,nm⟩
        ·have hR:out++[a]++u7 kq f n x (b::y)=R:=by rw[<-hR];simp [u7,c1,hft]
         have hfv:∀ (u:World) (H:Heap),zpg H u->Ret zph tf [.bool true,.bool false] u H (fun v _=>v=.bool true):=fun u H h=>by have:=hf true false u H h;rwa [hft] at this
         refine(Ze∘Zaw∘Zh∘ZO∘ZbT∘ZbD∘ZK∘Zd∘Z6∘Zat∘Zh∘Zq∘Zan∘ZV∘Zh∘Zq∘Zc4∘Zct∘ZaA∘ZcU∘Za9∘ZaA∘ZcU∘Za9) ?_;refine z81 L Z (fun u H hH _=>jh hH) ?_;refine(Zbd∘ZbU∘Zao∘Zbk∘ZX∘Zcm∘ZbA∘Zbw∘ZJ∘ZZ∘Zf∘Zap∘Zk∘Zdo∘Zcp∘Zam∘Zb8∘Zk) ?_;refine z7 (jj L (kh:=.i64) (ph:=0) (km:=.i64) (pm:=0) 1 _ false Z Z Z Z Z ⟨rfl,rfl⟩ ⟨rfl,rfl⟩ (fun h=>by cases h) T T M) Z ?_;refine(ZR∘Zay∘Zcc∘Za6∘Zn∘ZaM∘Zb∘ZcC∘Za∘Za6) ?_;refine z7 (zz L Z Z (zn Z) Z Z hfn (fun u H hH _ _=>hfv u H hH)) Z ((ZD∘Zcj) ?_);refine zy (yo (.inl Z) Z) ((Zbq∘Zae∘ZdP) ?_);refine zy (yo (.inr Z) Z) ((ZN∘Zao) ?_);exact yn (x:=(n+1,a::x,b::y,out)) (n,x,(b::y),out++[a]) ⟨by simp only[List.length_cons,List.length_nil] at hn |-;omega,hR,by simp only[List.length_cons,List.length_nil,List.length_append] at hz |-;omega⟩ G ⟨Z,Z,Z,Ab Z,nm⟩
       ·by_cases c2:0<kq a b
        ·rcases n with _ | n
         ·simp only[ny,my] at hn;omega
         cases hft:f false true
         ·have hR:out++u7 kq f n (a::x) y=R:=by rw[<-hR];simp [u7,c1,c2,hft]
          have hfv:∀ (u:World) (H:Heap),zpg H u->Ret zph tf [.bool false,.bool true] u H (fun v _=>v=.bool false):=fun u H h=>by have:=hf false true u H h;rwa [hft] at this
          refine(Ze∘Zaw∘Zh∘ZO∘ZbT∘ZbD∘ZK∘Zd∘Z6∘Zat∘Zh∘Zq∘Zan∘ZV∘Zh∘Zq∘Zc4∘Zct∘ZaA∘ZcU∘Za9∘ZaA∘ZcU∘Za9) ?_;refine z81 L Z (fun u H hH _=>jh hH) ?_;refine(Zbd∘ZbU∘Zao∘Zbk∘ZX∘Zcm∘ZbA∘Zbw∘ZO∘ZD∘Za0∘Zk∘Zdo∘Zcp∘ZaL∘Zay∘Zcc∘ZbK∘Zcx∘Zk) ?_;refine z7 (jj L (kh:=.i64) (ph:=0) (km:=.i64) (pm:=0) 1 _ false Z Z Z Z Z ⟨rfl,rfl⟩ ⟨rfl,rfl⟩ (fun h=>by cases h) T T M) Z ?_;refine(ZR∘Zg∘ZaM∘Zb∘ZcB∘Za∘Zcg) ?_;refine z7 (zz L Z Z (zn Z) Z Z hfn (fun u H hH _ _=>hfv u H hH)) Z ((Zad∘Zao) ?_);exact yn (x:=(n+1,a::x,b::y,out)) (n,(a::x),y,out) ⟨by simp only[List.length_cons,List.length_nil] at hn |-;omega,hR,by simp only[List.length_cons,List.length_nil,List.length_append] at hz |-;omega⟩ G ⟨Z,Z,Z,Z,nm⟩
         ·have hR:out++[b]++u7 kq f n (a::x) y=R:=by rw[<-hR];simp [u7,c1,c2,hft]
          have hfv:∀ (u:World) (H:Heap),zpg H u->Ret zph tf [.bool false,.bool true] u H (fun v _=>v=.bool true):=fun u H h=>by have:=hf false true u H h;rwa [hft] at this
          refine(Ze∘Zaw∘Zh∘ZO∘ZbT∘ZbD∘ZK∘Zd∘Z6∘Zat∘Zh∘Zq∘Zan∘ZV∘Zh∘Zq∘Zc4∘Zct∘ZaA∘ZcU∘Za9∘ZaA∘ZcU∘Za9) ?_;refine z81 L Z (fun u H hH _=>jh hH) ?_;refine(Zbd∘ZbU∘Zao∘Zbk∘ZX∘Zcm∘ZbA∘Zbw∘ZO∘ZD∘Za0∘Zk∘Zdo∘Zcp∘ZaL∘Zay∘Zcc∘ZbK∘Zcx∘Zk) ?_;refine z7 (jj L (kh:=.i64) (ph:=0) (km:=.i64) (pm:=0) 1 _ false Z Z Z Z Z ⟨rfl,rfl⟩ ⟨rfl,rfl⟩ (fun h=>by cases h) T T M) Z ?_;refine(ZR∘Zg∘ZaM∘Zb∘ZcB∘Za∘Zcg) ?_;refine z7 (zz L Z Z (zn Z) Z Z hfn (fun u H hH _ _=>hfv u H hH)) Z ((ZD∘Zcj) ?_);refine zy (yo (.inl Z) Z) ((Zbq∘Zae∘ZdP) ?_);refine zy (yo (.inr Z) Z) ((ZN∘Zao) ?_);exact yn (x:=(n+1,a::x,b::y,out)) (n,(a::x),y,out++[b]) ⟨by simp only[List.length_cons,List.length_nil] at hn |-;omega,hR,by simp only[List.length_cons,List.length_nil,List.length_append] at hz |-;omega⟩ G ⟨Z,Z,Z,Ab Z,nm⟩
        ·rcases n with _ | n
         ·simp only[ny,my] at hn;omega
         cases hft:f true true
         ·have hR:out++u7 kq f n x y=R:=by rw[<-hR];simp [u7,c1,c2,hft]
          have hfv:∀ (u:World) (H:Heap),zpg H u->Ret zph tf [.bool true,.bool true] u H (fun v _=>v=.bool false):=fun u H h=>by have:=hf true true u H h;rwa [hft] at this
          refine(Ze∘Zaw∘Zh∘ZO∘ZbT∘ZbD∘ZK∘Zd∘Z6∘Zat∘Zh∘Zq∘Zan∘ZV∘Zh∘Zq∘Zc4∘Zct∘ZaA∘ZcU∘Za9∘ZaA∘ZcU∘Za9) ?_;refine z81 L Z (fun u H hH _=>jh hH) ?_;refine(Zbd∘ZbU∘Zao∘Zbk∘ZX∘Zcm∘ZbA∘Zbw∘ZJ∘ZZ∘Zf∘Zap∘Zk∘Zdo∘Zcp∘Zam∘Zb8∘Zk) ?_;refine z7 (jj L (kh:=.i64) (ph:=0) (km:=.i64) (pm:=0) 1 _ false Z Z Z Z Z ⟨rfl,rfl⟩ ⟨rfl,rfl⟩ (fun h=>by cases h) T T M) Z ?_;refine(ZR∘Zay∘Zcc∘ZbK∘Zcx∘Zk) ?_;refine z7 (jj L (kh:=.i64) (ph:=0) (km:=.i64) (pm:=0) 1 _ false Z Z Z Z Z ⟨rfl,rfl⟩ ⟨rfl,rfl⟩ (fun h=>by cases h) T T M) Z ?_;refine(ZR∘Zg∘ZaM∘Zb∘ZcC∘Za∘Zcg) ?_;refine z7 (zz L Z Z (zn Z) Z Z hfn (fun u H hH _ _=>hfv u H hH)) Z ((Zad∘Zao) ?_);exact yn (x:=(n+1,a::x,b::y,out)) (n,x,y,out) ⟨by simp only[List.length_cons,List.length_nil] at hn |-;omega,hR,by simp only[List.length_cons,List.length_nil,List.length_append] at hz |-;omega⟩ G ⟨Z,Z,Z,Z,nm⟩
         ·have hR:out++[a]++u7 kq f n x y=R:=by rw[<-hR];simp [u7,c1,c2,hft]
          have hfv:∀ (u:World) (H:Heap),zpg H u->Ret zph tf [.bool true,.bool true] u H (fun v _=>v=.bool true):=fun u H h=>by have:=hf true true u H h;rwa [hft] at this
          refine(Ze∘Zaw∘Zh∘ZO∘ZbT∘ZbD∘ZK∘Zd∘Z6∘Zat∘Zh∘Zq∘Zan∘ZV∘Zh∘Zq∘Zc4∘Zct∘ZaA∘ZcU∘Za9∘ZaA∘ZcU∘Za9) ?_;refine z81 L Z (fun u H hH _=>jh hH) ?_;refine(Zbd∘ZbU∘Zao∘Zbk∘ZX∘Zcm∘ZbA∘Zbw∘ZJ∘ZZ∘Zf∘Zap∘Zk∘Zdo∘Zcp∘Zam∘Zb8∘Zk) ?_;refine z7 (jj L (kh:=.i64) (ph:=0) (km:=.i64) (pm:=0) 1 _ false Z Z Z Z Z ⟨rfl,rfl⟩ ⟨rfl,rfl⟩ (fun h=>by cases h) T T M) Z ?_;refine(ZR∘Zay∘Zcc∘ZbK∘Zcx∘Zk) ?_;refine z7 (jj L (kh:=.i64) (ph:=0) (km:=.i64) (pm:=0) 1 _ false Z Z Z Z Z ⟨rfl,rfl⟩ ⟨rfl,rfl⟩ (fun h=>by cases h) T T M) Z ?_;refine(ZR∘Zg∘ZaM∘Zb∘ZcC∘Za∘Zcg) ?_;refine z7 (zz L Z Z (zn Z) Z Z hfn (fun u H hH _ _=>hfv u H hH)) Z ((ZD∘Zcj) ?_);refine zy (yo (.inl Z) Z) ((Zbq∘Zae∘ZdP) ?_);refine zy (yo (.inr Z) Z) ((ZN∘Zao) ?_);exact yn (x:=(n+1,a::x,b::y,out)) (n,x,y,out++[a]) ⟨by simp only[List.length_cons,List.length_nil] at hn |-;omega,hR,by simp only[List.length_cons,List.length_nil,List.length_append] at hz |-;omega⟩ G ⟨Z,Z,Z,Ab Z,nm⟩
end Go.V.L2
namespace Go.V.L11
open Go.V.L2 Go.V.L4
abbrev zfm:Nat:=41
abbrev tyI:Nat:=3
abbrev tyE:Nat:=38
attribute [local irreducible] RetO RetT ki RetX RetY
def Oi{y r:ByteArray}(h:Kg y=some r)(hs:y.size<=9223372036854775807)(hB:zpg B w):
  Ret zph 131 [.string y,.string ⟨#[10]⟩] w B (fun v _=>v=.tuple #[.string r,.bool true]):=by
 have e1:=Hs h;have e:y.data.toList=r.data.toList++[10]:=by rw[e1,vt]
 have h1:Lib.hasSuffix y.data.toList [10]=true:=by
  rw[e];exact List.isSuffixOf_iff_suffix.2 (List.suffix_append _ _)
 refine Oj hs h1 ?_ hB;unfold Lib.trimSuffix;rw[na h1,e];apply db;simp
def zev{y:ByteArray}(h:Kg y=none)(hs:y.size<=9223372036854775807)(hB:zpg B w):
  Ret zph 131 [.string y,.string ⟨#[10]⟩] w B (fun v _=>v=.tuple #[.string y,.bool false]):=by
 have h1:Lib.hasSuffix y.data.toList [10]=false:=by
  cases hh:Lib.hasSuffix y.data.toList [10]
  ·rfl
  ·obtain⟨t,ht⟩:=List.isSuffixOf_iff_suffix.1 hh;unfold Kg at h;rw[na (by rw[<-ht];simp)] at h;cases h
 refine Oj hs h1 ?_ hB;unfold Lib.trimSuffix;rw[nc (by rw[h1];decide)]
def P2{rd:ByteArray->U×Int}{rdf:Nat}(hfn:L.fn rdf=some ()){s:ByteArray}(hs:s.size<=1000000)(hB:zpg B w)
  (hrd:∀ (r:ByteArray),r.size<=1000000->∀ (u:World) (H:Heap),zpg H u->B.Le H->Ret zph rdf [.string r] u H (fun v _=>v=.tuple #[uv (rd r).1,.int .i64 (rd r).2])):
  Ret zph 71 [.string s,.func (.func rdf) #[] #[]] w B (TupS [US (Xf rd s).1 true,fun v _=>v=.int .i64 (Xf rd s).2.1,fun v _=>v=.int .i64 (Xf rd s).2.2]):=by
 have hF:Xf rd s=o6 rd [] 1 (cx s):=nc T;rw[hF];refine yh Tryz.func71 Z Tryz.ntmps71 (np Z) hB ((Zbf∘Z2∘Z2∘ZbO∘ZaZ∘Zc8∘ZJ∘Zn∘ZI∘ZbO∘Z9) ?_);refine z7 (xg L Z Z (zn Z) Z Z Z LinAt.mono (fun u H hH _ _=>T8 hH)) Z (ZcK (h:=?_));refine kz 3 83 rfl fun b3=>?_;refine j8 83 rfl fun H1 hs1 _ hb3=>?_;refine kz 4 84 rfl fun b4=>?_;refine kz 5 85 rfl fun b5=>?_;refine kz 6 86 rfl fun b6=>?_;refine sn 7 rfl fun b7 hb7=>?_;refine V9 87 tyU 6 (Dk 87 [] Z Z ?_);refine sk 18 rfl fun v18 H2 hs2 ⟨lb,e18,hlb⟩=>?_;subst e18;have hsB:=hs1.trans hs2;have hnil:o6 rd [] 1 (Kh [])=([],0,0):=rfl
 refine cp L (gf:=190) (caps:=[xz lb]) [(3,xz b3),(4,xz b4),(5,xz b5),(6,xz b6),(7,xz b7)]
  (fun pre=>[(84,xk b4 [.slice none 0 0] zfm),(85,xk b5 [.int .i64 (o6 rd [] 1 (Kh pre)).2.1] tyI),(86,xk b6 [.int .i64 (o6 rd [] 1 (Kh pre)).2.2] tyE),(87,Xl b7 zfm (SlR tyU 6 (Lk rd 1 (Kh pre)).length ((Lk rd 1 (Kh pre)).flatMap ucs)))])
  (fun pre x=>[(84,.own (xk b4 [.slice none 0 0] zfm)),(85,.own (xk b5 [.int .i64 (o6 rd [] 1 (Kh pre)).2.1] tyI)),(86,.own (xk b6 [.int .i64 (o6 rd [] 1 (Kh pre)).2.2] tyE)),(87,.own (Xl b7 zfm (SlR tyU 6 (Lk rd 1 (Kh pre)).length ((Lk rd 1 (Kh pre)).flatMap ucs)))),
   (3,.is (xz b3)),(4,.is (xz b4)),(5,.is (xz b5)),(6,.is (xz b6)),(7,.is (xz b7)),(8,.is (x.headD undef)),(9,.is (x.tail.headD undef))])
  (f7 1 (vu (cx s))) (fun p=>!v6 rd 1 (Kh p)) (fun _=>.ret) rfl rfl rfl ⟨rfl,rfl,rfl,rfl,rfl,rfl,rfl,rfl,rfl,nm⟩
  (fun pre p hp=>by simp only[nz,zmj,or_false] at hp;rcases hp with rfl | rfl | rfl | rfl<;>exact np rfl) rfl
  (fun x hx=>by obtain⟨p,q,e⟩:=zoe hx;obtain⟨ls,y,_,rfl,_⟩:=Tp (pre:=p) (x:=x) ⟨q,by rw[e];simp⟩;rfl) E
  (fun u H hH hle=>Lz T hH (hle _ _ hlb)) ?asg ?bd ?dn ?st
 case asg=>
  intro w1 Ln B' l' D' o pre x' hpre hstp hBB;obtain⟨ls,y,rfl,rfl,hls⟩:=Tp hpre;refine(Zf∘ZE∘Zc∘Zaw∘ZbI) ?_;exact Xc nq ⟨Z,Z,Z,Z,Z,Z,Z,Z,Z,Z,Z,nm⟩
 case bd=>
  intro w1 Ln B' l' D' o pre x' hpre hstp hBB;obtain⟨ls,y,rfl,rfl,hls⟩:=Tp hpre
  have hg:v6 rd 1 ls=true:=by
   have:=hstp;rw[wj] at this;simpa using this
  have e3:=A9 ls y;rw[<-e3];have hb3':=hBB _ _ (hs2.le _ _ hb3)
  have hln:ls.length+1<=1000000:=by
   have h1:=hls.length_le;have h2:=Er s;rw[nr] at h1;simp at h1;omega
  have hys:y.size<=1000000:=by
   have:=Ua (s:=s) (y:=y) (hls.subset (by simp));omega
  rw[wj,Li hg,Lj hg];have hvl:(B6 rd ls).length<=ls.length:=Mw;by_cases hn:4096<ls.length+1
  ·have hp:=Ee (rd:=rd) (ys:=[]) (y:=y) hg T;have hbad:v6 rd 1 (ls++[y])=false:=by rw[pw,hg];unfold Ff;simp;omega
   have how:Lk rd 1 (ls++[y])=B6 rd ls:=by rw[bn hg];unfold Lk;rw[if_pos (by unfold Ff;simp;omega),List.append_nil]
   refine(Z6∘Zf∘Z8∘ZO∘Zu∘Zbe) ?_;refine xh (ye L (q:=84) (cs':=[.slice none 0 0]) Z Z Z Z Z) (xh (ye L (q:=85) (cs':=[.int .i64 ((ls.length+1:Nat):Int)]) Z Z Z Z Z) (xh (ye L (q:=86) (cs':=[.int .i64 3]) Z Z Z Z Z) (Zs (h:=?_))));refine Di (O6 (rp (Ra nq (by rw[wj,hbad];rfl) Z ?_)));rw[wj,hp,how,znn 1];exact⟨Z,Z,Z,Z,nm⟩
  ·cases he:Kg y with
   | none=>
    have hp:=Ay (rd:=rd) (ys:=[]) (y:=y) hg T he;have hbad:v6 rd 1 (ls++[y])=false:=by rw[pw,hg];unfold Ff;rw[he];simp
    have how:Lk rd 1 (ls++[y])=B6 rd ls:=by rw[bn hg];unfold Lk;rw[if_pos (by unfold Ff;rw[he];simp),List.append_nil]
    refine(Z6∘Zf∘Z8∘ZJ∘Zn∘Zau) ?_;refine z71 L Z (fun u H hH _=>zev he T hH) ?_;refine(Z1∘Za8∘ZA∘Za∘Zt∘Zu∘ZV∘Za) ?_;refine xh (ye L (q:=84) (cs':=[.slice none 0 0]) Z Z Z Z Z) (xh (ye L (q:=85) (cs':=[.int .i64 ((ls.length+1:Nat):Int)]) Z Z Z Z Z) (xh (ye L (q:=86) (cs':=[.int .i64 5]) Z Z Z Z Z) (Zs (h:=?_))));refine Di (O6 (rp (Ra nq (by rw[wj,hbad];rfl) Z ?_)));rw[wj,hp,how,znn 1];exact⟨Z,Z,Z,Z,nm⟩
   | some r=>
    have hrs:r.size<=1000000:=by
     have:=nh ByteArray.size (Hs he);rw[znq] at this;omega
    obtain⟨t,e,hrt⟩:∃ t e,rd r=(t,e):=⟨_,_,rfl⟩
    have hrr:=hrd r hrs;rw[hrt] at hrr;by_cases h0:e=0
    ·subst h0;have hgood:v6 rd 1 (ls++[y])=true:=by rw[pw,hg];unfold Ff;rw[he];simp [hrt];omega
     have hp:=Li hgood;have how:=Lj hgood;have hvs:=Rm (rd:=rd) (ls:=ls) he;rw[hrt] at hvs;refine(Z6∘Zf∘Z8∘ZJ∘Zn∘Zau) ?_;refine z71 L Z (fun u H hH _=>Oi he T hH) ?_;refine(Z1∘Za8∘ZA∘Za∘Zt∘Zn∘ZW) ?_;refine z7 (qf L (qh Z hb3') Z Z Z Z) Z (Za (h:=?_));refine z7 (zz L Z Z (zn Z) Z Z hfn (fun u H hH hle _=>hrr u H hH (hsB.le.trans (hBB.trans hle)))) Z ((Z1∘Zaj∘Zi∘ZX∘Za∘Za5∘ZZ∘Zch) ?_);refine ou 87 _ Z SlR.shape fun z hz=>?_;obtain⟨p,c,rfl⟩:=hz;refine(Za0∘Zdl) ?_;refine g0 42 87 rfl rfl ((Zbq∘Zae∘ZdP) ?_);refine dc 45 87 _ rfl SlR.shape fun z hz=>?_;obtain⟨p',c',rfl⟩:=hz;refine(ZdM∘ZN∘Zao) ?_;refine Dl 87 [] Z Z (Xd nq (by rw[wj,hgood];rfl) ?_);rw[wj,hp,how,hvs,zlq,nr];exact⟨Z,Z,Z,Z,nm⟩
    ·have hp:=Ef (rd:=rd) (ys:=[]) (y:=y) hg T he (by rw[hrt];exact h0);rw[hrt] at hp;have hbad:v6 rd 1 (ls++[y])=false:=by rw[pw,hg];unfold Ff;rw[he];simp [hrt,h0]
     have how:Lk rd 1 (ls++[y])=B6 rd ls:=by rw[bn hg];unfold Lk;rw[if_pos (by unfold Ff;rw[he];simp [hrt,h0]),List.append_nil]
     refine(Z6∘Zf∘Z8∘ZJ∘Zn∘Zau) ?_;refine z71 L Z (fun u H hH _=>Oi he T hH) ?_;refine(Z1∘Za8∘ZA∘Za∘Zt∘Zn∘ZW) ?_;refine z7 (qf L (qh Z hb3') Z Z Z Z) Z (Za (h:=?_));refine z7 (zz L Z Z (zn Z) Z Z hfn (fun u H hH hle _=>hrr u H hH (hsB.le.trans (hBB.trans hle)))) Z ((Z1∘Zaj∘Zi∘ZX∘Za∘ZaG∘Zbo∘Zb) ?_);refine xh (ye L (q:=84) (cs':=[.slice none 0 0]) Z Z Z Z Z) (xh (ye L (q:=85) (cs':=[.int .i64 ((ls.length+1:Nat):Int)]) Z Z Z Z Z) (xh (ye L (q:=86) (cs':=[.int .i64 e]) Z Z Z Z Z) (Zs (h:=?_))));refine Di (O6 (rp (Ra nq (by rw[wj,hbad];rfl) Z ?_)));rw[wj,hp,how,znn 1];exact⟨Z,Z,Z,Z,nm⟩
 case st=>
  intro l' D' o hstop;obtain⟨ks,h1,h2,h3⟩:=Af rd (cx s) [] rfl;have h1':jf (fun p=>!v6 rd 1 (Kh p)) [] (f7 1 (vu (cx s)))=f7 1 (vu ks):=h1;rw[h1',wj] at hstop;have hbad:v6 rd 1 ks=false:=by simpa using hstop
  have hn1:=Nh (out:=[]) hbad;have h2':o6 rd [] 1 ks=o6 rd [] 1 (cx s):=h2;rw[h1',wj,h2'];rw[h2'] at hn1;generalize o6 rd [] 1 (cx s)=R at hn1 |-;obtain⟨R1,R2,R3⟩:=R;dsimp only at hn1;subst hn1;refine dy 4 84 rfl Z (dy 5 85 rfl Z (dy 6 86 rfl Z ?_));refine V6 L (rs:=[.cell 4 zfm,.cell 5 tyI,.cell 6 tyE]) Z (fun _ _ h=>h) hsB fun O' u H hH hle=>?_;exact wc (qw Z) Z (wc (qw Z) Z (wc (qw Z) Z (tup3 SlV.nil Z Z)))
 case dn=>
  intro l' D' o hgo;obtain⟨ks,h1,h2,h3⟩:=Af rd (cx s) [] rfl;have h1':jf (fun p=>!v6 rd 1 (Kh p)) [] (f7 1 (vu (cx s)))=f7 1 (vu ks):=h1;rw[h1',wj] at hgo;have hg:v6 rd 1 ks=true:=by simpa using hgo
  have hkl:ks=cx s:=h3 hg;have hll:=Er s;have hvl:(B6 rd ks).length<=ks.length:=Mw;rw[h1',wj,<-hkl,Li hg,Lj hg];refine Zao (h:=?_);refine Zc6 (h:=?_);refine ou 87 _ Z SlR.shape fun z hz=>?_;obtain⟨p,c,rfl⟩:=hz;refine(Zf∘Zap∘Zdl) ?_;refine g0 46 87 rfl rfl (oz 46 rfl ((Zdl∘ZaC∘Zdl∘ZaC∘Zdk) ?_));refine w6 51 rfl fun sv H3 hs3 hsv=>?_;obtain⟨p1,c1,rfl⟩:=ky hsv;refine xh (ye L (q:=84) (cs':=[.slice p1 (B6 rd ks).length c1]) rfl rfl rfl rfl rfl) (xh (ye L (q:=85) (cs':=[.int .i64 0]) rfl rfl rfl rfl rfl) (xh (ye L (q:=86) (cs':=[.int .i64 0]) rfl rfl rfl rfl rfl) (Zs (h:=?_))));refine dy 4 84 rfl Z (dy 5 85 rfl Z (dy 6 86 rfl Z ?_));refine V6 L (rs:=[.cell 4 zfm,.cell 5 tyI,.cell 6 tyE]) Z (fun _ _ h=>h) (hsB.trans hs3) fun O' u H hH hle=>?_;exact wc (qw Z) Z (wc (qw Z) Z (wc (qw Z) Z (tup3 (hsv.le hle) Z Z)))
open Go.V.L8
def Gu{a b:Value}(h:Kn.mono (.sat φ)):Kn.mono (.sat (TupS [φ,fun v _=>v=a,fun v _=>v=b])):=TupS.mono fun ψ hψ=>by
 simp only[nz,zmj,or_false] at hψ;rcases hψ with rfl | rfl | rfl
 ·exact h
 ·exact fun _ _ _ h _=>h
 ·exact fun _ _ _ h _=>h
def O7{s:ByteArray}(hs:s.size<=1000000)(hB:zpg B w)(hM:GlobM B):
  Ret zph 22 [.string s] w B (TupS [US (Xf ptA s).1 true,fun v _=>v=.int .i64 (Xf ptA s).2.1,fun v _=>v=.int .i64 (Xf ptA s).2.2]):=by
 have hmo:Kn.mono (.sat (US (Xf ptA s).1 true)):=nw;refine yh Tryz.func22 Z Tryz.ntmps22 (np Z) hB ((ZbH∘Zv∘Zbv) ?_);refine z7 (xg L Z Z (zn Z) Z Z Z (Gu nw) (fun u H hH hle _=>P2 (rd:=ptA) Z hs hH (fun r hr u2 H2 hH2 hle2=>Pj Z hr hH2 (hM.mono (hle.trans hle2))))) Z ((ZcR∘Zc5∘Zc5∘ZR∘ZM) ?_);refine yg1 L [.tmp 2,.tmp 3,.tmp 4] fun u H hH hle=>?_;exact fun a h=>tup3 h Z Z
end Go.V.L11
end
namespace Go.V
section sound
variable    {ex:Exs} {Fin:Kap->Prop}
def Cs{Fin:Kap->Prop}:∀ (m i:Nat) {κ:Kap},i+m<=ops.size->zfs P St ops ex Fin ((ops.toList.drop i).take m) κ->ParI P St ops ex Fin (List.range' i m) κ
 | 0,i,κ,hm,h=>by
  rw[zl4] at h;exact h
 | m+1,i,κ,hm,h=>by
  have hi:i<ops.toList.length:=by simp;omega
  rw[zl9 hi,zm7] at h;obtain⟨us,hd,sx,rest⟩:=h;refine⟨ops.toList[i],us,?_,hd,sx,Cs m (i+1) T rest⟩;have hi':i<ops.size:=by simpa using hi
  rw[zlk hi'];simp
end sound
section code
end code
end Go.V
namespace Go.V
def Mp(w:World)(B:Heap)(L:Nat->Prop)(pv:Value)(e:Ending)(u:World):Prop:=e=.panicked [{ v:=pv,recovered:=false }]/\∃ H,Grow L w B u H
def Pan(P:Program)(f:FuncId)(args:List Value)(w:World)(B:Heap)(L:Nat->Prop)(pv:Value):Prop:=Calls P f args.toArray w (Mp w B L pv)
section sound
variable    {ex:Exs}
end sound
section code
def QX(P:Program)(F:Fr)(ops:Array Oper)(K:Nat)(zpf:Exit->Act->World->Prop):Exit->Act->World->Prop:=fun _ a u=>∀ Kk,wpOpIn (FW F.r) 0 P ops zpf K Kk a u
def XP(F:Fr)(B:Heap)(n:Nat)(O:Boxes)(κ:Kap)(pv:Value)(zpf:Exit->Act->World->Prop):Prop:=∀ a u,Has F B O n κ a u->zpf (.panic [{ v:=pv,recovered:=false }]) a u
def jn{id:Nat}{l:List Oper}(K:Nat)(hK:Nat.ble (K+1) l.length=true)(h:VO P F B n O l.toArray κ (l.take K) (QX P F l.toArray K zpf)):V P F B n O κ (.region id l.toArray false) zpf:=fun a u hh=>by
 refine wpIn_region ?_;have hK:=np hK
 have hsplit:List.range l.toArray.size=List.range' 0 K++K::List.range' (K+1) (l.length-(K+1)):=by
  rw[znx,show K::List.range' (K+1) (l.length-(K+1))=List.range' K (l.length-K) by rw[show l.length-K=(l.length-(K+1))+1 by omega];rfl];have:=List.range'_append_1 (s:=0) (m:=K) (n:=l.length-K);rw[zlb] at this;rw[this,Nat.add_sub_cancel' T];simp
 rw[hsplit]
 have key:∀ (m i:Nat) {a:Act} {u:World},i+m=K->Ops P l.toArray (fun a u=>QX P F l.toArray K zpf .normal a u) ((l.drop i).take m) a u->
   wpOpsIn (FW F.r) 0 P l.toArray zpf (List.range' i m++K::List.range' (K+1) (l.length-(K+1))) a u:=by
  intro m
  induction m with
  | zero=>
   intro i a u hi ho;rw[zl4] at ho;show wpOpsIn (FW F.r) 0 P l.toArray zpf (K::_) a u;rw[wpOpsIn_cons];exact ho _
  | succ m ih=>
   intro i a u hi ho;have hil:i<l.length:=T;rw[zl9 hil,zm7] at ho;have hg:l.toArray[i]?=some l[i]:=by rw[zmx,zlh hil]
   rw[zny,zll,wpOpsIn_cons];exact After.wpOpIn hg (After.mono (fun a' u' hh'=>ih (i+1) T hh') ho)
 exact key K 0 T (by rw[zl7];exact h a u hh)
def jk(L:Tabs P)(q:Nat){K:Nat}{r:Res}{d:Option Nat}{f:Nat}{args:Array Operand}{at_:Array TypeId}{fo:Operand}
  (ho:ops[K]?=some ⟨d,.call { callee:=.value fo,args:=args,argTypes:=at_ },ty,pos,aft,g⟩) (hg:gK ops κ ⟨d,.call { callee:=.value fo,args:=args,argTypes:=at_ },ty,pos,aft,g⟩=some true)
  (hf:evK κ fo=some (.func (.func f) #[] cap.toArray)) (hfn:L.fn f=some ()) (hq:κ q=some (.own r))
  (h:∀ u H C,zpg H u->B.Le H->r.P undef H u C->(ZCB C u H)->Args κ H args.toList [] (fun vs=>Pan P f (vs++cap) u H C pv)) (hr:∀ v H u C,r.P v H u C->r.P undef H u C)
  (hX:XP F B n O (upd κ q fm) pv zpf):N F B n O κ (QX P F ops K zpf):=by
 rintro a u ⟨H,fp,hh⟩ Kk;have hlk:∀ t∈(⟨d,.call { callee:=.value fo,args:=args,argTypes:=at_ },ty,pos,aft,g⟩:Oper).looksAt ops,κ t=κ t:=fun _ _=>rfl;unfold wpOpIn;rw[ho];dsimp only;rw[na (xf hh hlk hg)];obtain⟨hown,hM⟩:=hh.slot q _ hq;have e2:=hh.env hlk;have hfe:a.eval fo=.func (.func f) #[] cap.toArray:=e2.is_ fo _ (by simp [Op.operands,Call.operands]) hf;have hc:=Args.use e2 args.toList [] (fun x hx=>by simp [Op.operands,Call.operands] at hx |-;exact .inr hx) (h u H (fp q) hh.sub hh.base (hr _ _ _ _ hown) fun k hk=>⟨(hM k hk).1,(hM k hk).2.1⟩);simp only[zmb,mh] at hc;have hrun:=vr (u:=u) L (o:=⟨d,.call { callee:=.value fo,args:=args,argTypes:=at_ },ty,pos,aft,g⟩) rfl hfe hfn;refine⟨fun _ _=>trivial,?_⟩;rw[Oper.semAt_eq _ _ _ (fun c hc=>by cases hc),hrun];refine⟨fun e=>(by cases e),FW.call _ _ (Calls.mono hc fun e' u' hp=>?_)⟩;obtain⟨rfl,H',g'⟩:=hp;exact hX a u' ⟨H',_,hh.use hq g'⟩
def jx{K:Act->World->Prop}(h:XP F B n O κ pv zpf):XP F B n O κ pv (Exit.then K zpf):=h
def ja{id:Nat}(h:XP F B n O κ pv zpf):XP F B n O κ pv (Exit.inBlock id zpf):=h
def p8{fn:Func}(hs:Since F B0 B)(hd:F.ds=[]:=by rfl):XP F B n O κ pv (bodyPostM Fence.wide 0 P fn (Mp F.w0 B0 F.L pv)):=fun a u hh=>by
 obtain⟨H,fp,hH⟩:=hh;have h0:=hH.defers;rw[hd] at h0;show LeavesInM _ _ _ _ _ _ a.defers _ _;rw[h0];exact⟨rfl,H,⟨hH.keep,hH.sub,hs.le.trans hH.base,fun k hk hl=>(hH.fresh k hk hl).trans (hs.fresh k hk hl)⟩⟩
def gt{f:FuncId}{fn:Func}{c:Code}(gs:Nat)(r:GR)(hf:P.funcs[f]?=some fn)(hb:fn.body=some c)(hn:fn.ntmps=n)
  (hs:args.length<=n) (hB:zpg B w) (hr:r.P B w C) (hC:ZCB C w B) (h:V P ⟨w,none,[],C⟩ B n [] (upd (rm 0 args) gs (.own r.res)) c (bodyPostM Fence.wide 0 P fn (Mp w B C pv))):Pan P f args w B C pv:=by
 refine dv hf hb (h _ w ?_);subst hn;have h0:=dt (B:=B) C (fun k hk=>(hC k hk).1) hs hB (fun _=>noL)
 exact⟨B,_,h0.putR (d:=gs) (r:=r.res) Z Z (fun _ _=>rfl) hr (fun k hk=>⟨(hC k hk).1,(hC k hk).2,.inr hk,fun y hy=>by cases hy⟩) fun t r' _ ht=>by
  obtain⟨v,hv,_⟩:=uu _ _ _ _ ht;cases hv⟩
end code
end Go.V
namespace Go.V
section
variable        {d:Nat}      {a:Act} {u:World} {os:List Oper} {t xt:TypeId} {x:Operand} 
def Gw(hn:Nat.blt d n=true)(hg:gK ops κ ⟨some d,.makeInterface t x,ty,pos,aft,g⟩=some true)(hx:evK κ x=some v)(hc:P.concrete t=true):
  StepOK P F B n ops O κ ⟨some d,.makeInterface t x,ty,pos,aft,g⟩ d (.is (.iface t v)):=
 ke rfl (by simpa using hn) hg trivial fun a u H fp e=>⟨_,by
  have h1:a.eval x=v:=e.is_ x _ (by simp [Op.operands]) hx;have h2:=run_makeInterface (w:=u) t v hc;simp only[execOp,h1,nu,me,h2,ma],rfl⟩
def Qa(hn:Nat.blt d n=true)(hg:gK ops κ ⟨some d,.typeAssert x xt t true,ty,pos,aft,g⟩=some true)(hx:evK κ x=some (.iface t v))(hc:P.concrete t=true):
  StepOK P F B n ops O κ ⟨some d,.typeAssert x xt t true,ty,pos,aft,g⟩ d (.is (.tuple #[v,.bool true])):=
 ke rfl (by simpa using hn) hg trivial fun a u H fp e=>⟨_,by
  have h1:a.eval x=.iface t v:=e.is_ x _ (by simp [Op.operands]) hx
  have h2:(Instr.typeAssert (.iface t v) xt t true).run P u=.ok (.tuple #[v,.bool true]) u:=by
   unfold Program.concrete at hc
   cases hd:P.underlying t with
   | none=>simp [hd] at hc
   | some dd=>cases dd<;>first | (simp [hd] at hc;done) | simp [Instr.typeAssert,run_underlying hd]
  simp only[execOp,h1,nu,me,h2,ma],rfl⟩
def Qb{z:Value}(hn:Nat.blt d n=true)(hg:gK ops κ ⟨some d,.typeAssert x xt t true,ty,pos,aft,g⟩=some true)(hx:evK κ x=some .nilIface)(hc:P.concrete t=true)(hz:∀ w,(zeroValue t).run P w=.ok z w):
  StepOK P F B n ops O κ ⟨some d,.typeAssert x xt t true,ty,pos,aft,g⟩ d (.is (.tuple #[z,.bool false])):=
 ke rfl (by simpa using hn) hg trivial fun a u H fp e=>⟨_,by
  have h1:a.eval x=.nilIface:=e.is_ x _ (by simp [Op.operands]) hx
  have h2:(Instr.typeAssert .nilIface xt t true).run P u=.ok (.tuple #[z,.bool false]) u:=by
   unfold Program.concrete at hc
   cases hd:P.underlying t with
   | none=>simp [hd] at hc
   | some dd=>cases dd<;>first | (simp [hd] at hc;done) | simp [Instr.typeAssert,run_underlying hd,hz]
  simp only[execOp,h1,nu,me,h2,ma],rfl⟩
def Be{K:Nat}{dd:Option Nat}(ho:ops[K]?=some ⟨dd,.panic x,ty,pos,aft,g⟩)(hg:gK ops κ ⟨dd,.panic x,ty,pos,aft,g⟩=some true)(hx:evK κ x=some (.iface t v))(hX:XP F B n O κ (.iface t v) zpf):N F B n O κ (QX P F ops K zpf):=by
 rintro a u ⟨H,fp,hh⟩ Kk;have hlk:∀ s∈(⟨dd,.panic x,ty,pos,aft,g⟩:Oper).looksAt ops,κ s=κ s:=fun _ _=>rfl;unfold wpOpIn;rw[ho];dsimp only;rw[na (xf hh hlk hg)];have e2:=hh.env hlk;have h1:a.eval x=.iface t v:=e2.is_ x _ (by simp [Op.operands]) hx
 have hrun:(execOp a.eval ⟨dd,.panic x,ty,pos,aft,g⟩).run P u=.halt (.panic (.iface t v)) u:=by
  simp only[execOp,h1,nu,run_panic_iface];rfl
 refine⟨fun _ _=>trivial,?_⟩;rw[Oper.semAt_eq _ _ _ (fun c hc=>by cases hc),hrun];exact hX a u ⟨H,fp,hh⟩
end
end Go.V
namespace Go.V
def RetY.frame{f:FuncId}{r1 r1' r2:GR}(hr:(uw r1 r2).P B w C)(hC:ZCB C w B)
  (h:∀ C1,r1.P B w C1->(ZCB C1 w B)->RetY P f args w B C1 r1' φ):RetY P f args w B C (uw r1' r2) φ:=by
 obtain⟨C1,C2,h1,h2,h3,h4⟩:=hr;refine Calls.mono (h C1 h1 fun k hk=>hC k ((h3 k).2 (.inl hk))) fun e u ⟨v,he,H,g,hp,C',hv,hC'⟩=>?_;have hsub:∀ k,C1 k->C k:=fun k hk=>(h3 k).2 (.inl hk);have g2:Grow C w B u H:=⟨⟨g.keep.os,g.keep.tape,g.keep.output,g.keep.size,fun k hk hn=>g.keep.block k hk fun h=>hn (hsub k h),g.keep.dr⟩,g.sub,g.le,fun k hk hn=>g.fresh k hk fun h=>hn (hsub k h)⟩
 refine⟨v,he,H,g2,hp,fun k=>C' k\/C2 k,⟨C',C2,hv,r2.st h2 g.le g.sub ⟨g.keep.os,g.keep.tape,g.keep.output,g.keep.size,g.keep.dr⟩ (fun k hk=>g.keep.block k (hC k ((h3 k).2 (.inr hk))).1 fun h=>h4 k h hk),fun _=>Iff.rfl,fun k hk h2k=>?_⟩,fun k hk=>?_⟩
 ·rcases(hC' k hk).1 with h | h
  ·exact h4 k h h2k
  ·have:=(hC k ((h3 k).2 (.inr h2k))).1;omega
 ·rcases hk with hk | hk
  ·obtain⟨a,b,c⟩:=hC' k hk;exact⟨a.imp (hsub k) id,b,c⟩
  ·obtain⟨a,b⟩:=hC k ((h3 k).2 (.inr hk));exact⟨.inl ((h3 k).2 (.inr hk)),zl8 a g.keep.size,(g.fresh k a fun h=>h4 k h hk).trans b⟩
def RetY.conv{f:FuncId}{C:Nat->Prop}{r:GR}(h:RetY P f args w B C r φ)(hi:∀ H u C,r.P H u C->r'.P H u C):RetY P f args w B C r' φ:=
 Calls.mono h fun _ _ ⟨v,he,H,g,hp,C',hv,hC'⟩=>⟨v,he,H,g,hp,C',hi _ _ _ hv,hC'⟩
def E3{r1 r2:GR}{u:World}(h:(uw r1 r2).P H u C):(uw r2 r1).P H u C:=
 let ⟨C1,C2,h1,h2,h3,h4⟩:=h
 ⟨C2,C1,h2,h1,fun k=>(h3 k).trans or_comm,fun k a b=>h4 k b a⟩
section
variable        {d:Nat}      {a:Act} {u:World} {os:List Oper}
end
end Go.V
section
open Go.V
attribute [local irreducible] Has N Pan Par Ret RetL RetO RetT RetX RetY Src StepOK V VO X XP ki
namespace Go.V.L11
open Go.V.L4
def _root_.Zdp(t:Wr Y->A:=by intro h;refine vz 900 901 rfl (l5 _ _ _) ?_;exact h.1)(h:Y):A:=t ⟨h⟩
def _root_.Zen(t:Wr Y->A:=by intro h;refine z7 (Gw Z Z Z J) Z ?_;exact h.1)(h:Y):A:=t ⟨h⟩
def _root_.Zeo(t:Wr Y->A:=by intro h;refine z7 (yt (cs:=[_,_]) Z Z zi4 Z Z) Z ?_;exact h.1)(h:Y):A:=t ⟨h⟩
def _root_.Zcd(t:Wr Y->A:=by exact fun h=>(Z1∘ZaH) h.1)(h:Y):A:=t ⟨h⟩
abbrev M0:TypeId:=241
abbrev zjw:TypeId:=292
abbrev xp(sb rb:Nat)(sv:Value)(fr:Int)(R:Rd):GR:=uw (yz sb [xz rb,.int .i64 fr] M0) (GRd rb sv R)
abbrev wrV(a e:Int):Value:=.iface zjw (.agg #[.int .i64 a,.int .i64 e])
def K8{R R2:Rd}(hfn:L.fn fr=some ())(he:R2.err=0){C:Nat->Prop}(hB:zpg B w)(hr:(xp sb rb sv fr0 R).P B w C)(hC:ZCB C w B)(hf:∀ (u:World) (H:Heap) (C:Nat->Prop),zpg H u->B.Le H->(xp sb rb sv R.at_ R).P H u C->(ZCB C u H)->RetX zph fr (fst++cap) u H C (xp sb rb sv R.at_ R2) (.int .i64 x)):
  RetX zph 203 [xz sb,.func (.func fr) fst.toArray cap.toArray] w B C (xp sb rb sv R.at_ R2) (.int .i64 x):=by
 unfold RetX;refine yr 900 (xp sb rb sv fr0 R) Tryz.func203 Z Tryz.ntmps203 (np Z) hB hr hC ?_;rw[wo,xa,xa];refine Zdp (h:=?_);refine(Z0∘ZaX) ?_;refine zy (y7 L 901 (GRd rb sv R) (.int .i64 R.at_) (r:=GRd rb sv R) Z Z Z Z Z (fun u H C2 hH _ hr2 hC2=>at_ret hH hr2 hC2)) (ZY (h:=?_));refine xh (ye L (q:=900) (cs':=[xz rb,.int .i64 R.at_]) Z Z Z Z Z) (Zg (h:=?_));refine jt 900 901 rfl Z (xe (GRd rb sv R)) ?_;refine Zo (h:=?_);refine zy (kw L 900 (xp sb rb sv R.at_ R2) (.int .i64 x) (r:=xp sb rb sv R.at_ R) Z Z Z hfn Z hf) (Zi (h:=?_));refine vz (r1:=(yz sb [xz rb,.int .i64 R.at_] M0).res) (r2:=(GRd rb sv R2).res) 900 901 rfl (xe (GRd rb sv R2)) ?_;rw[xa];refine(Zp∘ZH) ?_;refine zy (y7 L 901 (GRd rb sv R2) (.tuple #[.int .i64 R2.bad,.int .i64 R2.err]) (r:=GRd rb sv R2) Z Z Z Z Z (fun u H C2 hH _ hr2 hC2=>fault_ret hH hr2 hC2)) ((Zcd∘Z9∘Zb3∘ZL∘Zc) ?_);refine jt 900 901 rfl Z (xe (GRd rb sv R2)) ?_;exact xv L 900 (r:=xp sb rb sv R.at_ R2) (rs:=[.tmp 4]) Z (fun _ _ h=>h) nq Z Z (fun _=>rfl)
def K9{R R2:Rd}(hfn:L.fn fr=some ())(he:R2.err≠0){C:Nat->Prop}(hB:zpg B w)(hr:(xp sb rb sv fr0 R).P B w C)(hC:ZCB C w B)(hf:∀ (u:World) (H:Heap) (C:Nat->Prop),zpg H u->B.Le H->(xp sb rb sv R.at_ R).P H u C->(ZCB C u H)->RetX zph fr (fst++cap) u H C (xp sb rb sv R.at_ R2) (.int .i64 x)):
  Pan zph 203 [xz sb,.func (.func fr) fst.toArray cap.toArray] w B C (wrV R2.bad R2.err):=by
 refine gt 900 (xp sb rb sv fr0 R) Tryz.func203 Z Tryz.ntmps203 (np Z) hB hr hC ?_;rw[wo,xa,xa];refine Zdp (h:=?_);refine(Z0∘ZaX) ?_;refine zy (y7 L 901 (GRd rb sv R) (.int .i64 R.at_) (r:=GRd rb sv R) Z Z Z Z Z (fun u H C2 hH _ hr2 hC2=>at_ret hH hr2 hC2)) (ZY (h:=?_));refine xh (ye L (q:=900) (cs':=[xz rb,.int .i64 R.at_]) Z Z Z Z Z) (Zg (h:=?_));refine jt 900 901 rfl Z (xe (GRd rb sv R)) ?_;refine Zo (h:=?_);refine zy (kw L 900 (xp sb rb sv R.at_ R2) (.int .i64 x) (r:=xp sb rb sv R.at_ R) Z Z Z hfn Z hf) (Zi (h:=?_));refine vz (r1:=(yz sb [xz rb,.int .i64 R.at_] M0).res) (r2:=(GRd rb sv R2).res) 900 901 rfl (xe (GRd rb sv R2)) ?_;rw[xa];refine(Zp∘ZH) ?_;refine zy (y7 L 901 (GRd rb sv R2) (.tuple #[.int .i64 R2.bad,.int .i64 R2.err]) (r:=GRd rb sv R2) Z Z Z Z Z (fun u H C2 hH _ hr2 hC2=>fault_ret hH hr2 hC2)) ((Zcd∘Z9∘Zds∘ZD) ?_);refine jn (id:=5) 4 rfl ((Zb∘Zeo∘Zen∘ZN) ?_);refine Be (K:=4) Z Z Z ?_
 repeat (first | refine jx ?_ | refine ja ?_)
 exact p8 nq
def er{R R2:Rd}(hfn:L.fn fr=some ())(he:R2.err=0){C:Nat->Prop}(hB:zpg B w)(hr:(xp sb rb sv fr0 R).P B w C)(hC:ZCB C w B)(hf:∀ (u:World) (H:Heap) (C:Nat->Prop),zpg H u->B.Le H->(xp sb rb sv R.at_ R).P H u C->(ZCB C u H)->RetX zph fr (fst++cap) u H C (xp sb rb sv R.at_ R2) (.int .u64 x)):
  RetX zph 150 [xz sb,.func (.func fr) fst.toArray cap.toArray] w B C (xp sb rb sv R.at_ R2) (.int .u64 x):=by
 unfold RetX;refine yr 900 (xp sb rb sv fr0 R) Tryz.func150 Z Tryz.ntmps150 (np Z) hB hr hC ?_;rw[wo,xa,xa];refine Zdp (h:=?_);refine(Z0∘ZaX) ?_;refine zy (y7 L 901 (GRd rb sv R) (.int .i64 R.at_) (r:=GRd rb sv R) Z Z Z Z Z (fun u H C2 hH _ hr2 hC2=>at_ret hH hr2 hC2)) (ZY (h:=?_));refine xh (ye L (q:=900) (cs':=[xz rb,.int .i64 R.at_]) Z Z Z Z Z) (Zg (h:=?_));refine jt 900 901 rfl Z (xe (GRd rb sv R)) ?_;refine Zo (h:=?_);refine zy (kw L 900 (xp sb rb sv R.at_ R2) (.int .u64 x) (r:=xp sb rb sv R.at_ R) Z Z Z hfn Z hf) (Zi (h:=?_));refine vz (r1:=(yz sb [xz rb,.int .i64 R.at_] M0).res) (r2:=(GRd rb sv R2).res) 900 901 rfl (xe (GRd rb sv R2)) ?_;rw[xa];refine(Zp∘ZH) ?_;refine zy (y7 L 901 (GRd rb sv R2) (.tuple #[.int .i64 R2.bad,.int .i64 R2.err]) (r:=GRd rb sv R2) Z Z Z Z Z (fun u H C2 hH _ hr2 hC2=>fault_ret hH hr2 hC2)) ((Zcd∘Z9∘Zb3∘ZL∘Zc) ?_);refine jt 900 901 rfl Z (xe (GRd rb sv R2)) ?_;exact xv L 900 (r:=xp sb rb sv R.at_ R2) (rs:=[.tmp 4]) Z (fun _ _ h=>h) nq Z Z (fun _=>rfl)
def K7{R R2:Rd}(hfn:L.fn fr=some ())(he:R2.err≠0){C:Nat->Prop}(hB:zpg B w)(hr:(xp sb rb sv fr0 R).P B w C)(hC:ZCB C w B)(hf:∀ (u:World) (H:Heap) (C:Nat->Prop),zpg H u->B.Le H->(xp sb rb sv R.at_ R).P H u C->(ZCB C u H)->RetX zph fr (fst++cap) u H C (xp sb rb sv R.at_ R2) (.int .u64 x)):
  Pan zph 150 [xz sb,.func (.func fr) fst.toArray cap.toArray] w B C (wrV R2.bad R2.err):=by
 refine gt 900 (xp sb rb sv fr0 R) Tryz.func150 Z Tryz.ntmps150 (np Z) hB hr hC ?_;rw[wo,xa,xa];refine Zdp (h:=?_);refine(Z0∘ZaX) ?_;refine zy (y7 L 901 (GRd rb sv R) (.int .i64 R.at_) (r:=GRd rb sv R) Z Z Z Z Z (fun u H C2 hH _ hr2 hC2=>at_ret hH hr2 hC2)) (ZY (h:=?_));refine xh (ye L (q:=900) (cs':=[xz rb,.int .i64 R.at_]) Z Z Z Z Z) (Zg (h:=?_));refine jt 900 901 rfl Z (xe (GRd rb sv R)) ?_;refine Zo (h:=?_);refine zy (kw L 900 (xp sb rb sv R.at_ R2) (.int .u64 x) (r:=xp sb rb sv R.at_ R) Z Z Z hfn Z hf) (Zi (h:=?_));refine vz (r1:=(yz sb [xz rb,.int .i64 R.at_] M0).res) (r2:=(GRd rb sv R2).res) 900 901 rfl (xe (GRd rb sv R2)) ?_;rw[xa];refine(Zp∘ZH) ?_;refine zy (y7 L 901 (GRd rb sv R2) (.tuple #[.int .i64 R2.bad,.int .i64 R2.err]) (r:=GRd rb sv R2) Z Z Z Z Z (fun u H C2 hH _ hr2 hC2=>fault_ret hH hr2 hC2)) ((Zcd∘Z9∘Zds∘ZD) ?_);refine jn (id:=5) 4 rfl ((Zb∘Zeo∘Zen∘ZN) ?_);refine Be (K:=4) Z Z Z ?_
 repeat (first | refine jx ?_ | refine ja ?_)
 exact p8 nq
def x8{R:Rd}{e:Int}(hB:zpg B w)(hr:(xp sb rb sv fr0 R).P B w C)(hC:ZCB C w B):ki zph 149 [xz sb,.bool true,.int .i64 e] w B C (xp sb rb sv fr0 R):=by
 unfold ki;refine yr 900 (xp sb rb sv fr0 R) Tryz.func149 Z Tryz.ntmps149 (np Z) hB hr hC ((ZB∘Za∘Zt∘Zad) ?_);exact xo L 900 (r:=xp sb rb sv fr0 R) Z (fun _ _ h=>h) nq Z Z
def gv{R:Rd}{e:Int}(hB:zpg B w)(hr:(xp sb rb sv fr0 R).P B w C)(hC:ZCB C w B):Pan zph 149 [xz sb,.bool false,.int .i64 e] w B C (wrV fr0 e):=by
 refine gt 900 (xp sb rb sv fr0 R) Tryz.func149 Z Tryz.ntmps149 (np Z) hB hr hC ?_;rw[wo,xa,xa];refine Zdp (h:=?_);refine(ZB∘Za∘Zt∘ZD) ?_;refine jn (id:=1) 7 rfl ((Za∘ZH∘Za∘Zeo∘Zen∘ZN) ?_);refine Be (K:=7) Z Z Z ?_
 repeat (first | refine jx ?_ | refine ja ?_)
 exact p8 nq
def Gd{b2 b3:Nat}{R:Rd}{bs:List Nat}(hb:∀ b∈bs,b<=255)(hl:bs.length<=1099511627776)(hat:R.at_<=bs.length)(hlim:lim<=1099511627776)(hB:zpg B w)(hs:BsV bs fu sv B)(h2:B b2=some (.cells #[xz sb] 239))(h3:B b3=some (.cells #[.int .i64 lim] 3))(hr:(xp sb rb sv fr0 R).P B w C)(hC:ZCB C w B):
  RetX zph 204 [xz b2,xz b3] w B C (xp sb rb sv fr0 (j9 bs lim R).2) (.int .i64 (j9 bs lim R).1):=by
 unfold RetX;refine yr 900 (xp sb rb sv fr0 R) Tryz.func204 Z Tryz.ntmps204 (np Z) hB hr hC ?_;rw[wo,xa,xa];refine Zdp (h:=?_);refine(ZB∘Zd) ?_;refine qg (id:=1) [(200006,[900]),(8,[901])] mixed J (z8 (qf L (qh Z h2) Z Z Z Z) Z ((ZbB∘ZcN) ?_));refine z8 (qf L (qh Z h3) Z Z Z Z) Z (xw (y7 L 901 (GRd rb sv (j9 bs lim R).2) (.int .i64 (j9 bs lim R).1) (r:=GRd rb sv R) Z Z Z Z Z (fun u H C2 hH hle hr2 hC2=>len_ret hlim hb hl hat hH (hs.le hle) hr2 hC2)) Z Z (ZaP (h:=?_)));refine jt 900 901 rfl Z (xe (GRd rb sv (j9 bs lim R).2)) ?_;exact xv L 900 (r:=xp sb rb sv fr0 (j9 bs lim R).2) (rs:=[.tmp 2]) Z (fun _ _ h=>h) nq Z Z (fun _=>rfl)
def size_ret{R:Rd}{bs:List Nat}(hb:∀ b∈bs,b<=255)(hl:bs.length<=1099511627776)(hat:R.at_<=bs.length)(hlim:lim<=1099511627776)(he:(j9 bs lim R).2.err=0)(hB:zpg B w)(hs:BsV bs fu sv B)(hr:(xp sb rb sv fr0 R).P B w C)(hC:ZCB C w B):
  RetX zph 148 [xz sb,.int .i64 lim] w B C (xp sb rb sv R.at_ (j9 bs lim R).2) (.int .i64 (j9 bs lim R).1):=by
 unfold RetX;refine yr 900 (xp sb rb sv fr0 R) Tryz.func148 Z Tryz.ntmps148 (np Z) hB hr hC ((Zbf∘Zd4∘Zd) ?_);refine kz 2 902 rfl fun b2=>?_;refine kz 3 903 rfl fun b3=>?_;refine j8 902 rfl fun H1 hs1 _ h2=>?_;refine j8 903 rfl fun H2 hs2 _ h3=>?_;have h2:=hs2.le _ _ h2;have hs12:=hs1.trans hs2;have hs':=hs.le hs12.le;have hcl:∀ (u:World) (H:Heap) (C:Nat->Prop),H2.Le H->zpg H u->(xp sb rb sv R.at_ R).P H u C->(ZCB C u H)->RetX zph 204 ([]++[xz b2,xz b3]) u H C (xp sb rb sv R.at_ (j9 bs lim R).2) (.int .i64 (j9 bs lim R).1):=fun u H C3 hle hH hr3 hC3=>Gd hb hl hat hlim hH (hs'.le hle) (hle _ _ h2) (hle _ _ h3) hr3 hC3;refine Z3 (h:=?_);refine z7 (qf L (qh Z h2) Z Z Z Z) Z (Zav (h:=?_));refine zy (y7 L 900 (xp sb rb sv R.at_ (j9 bs lim R).2) (.int .i64 (j9 bs lim R).1) (r:=xp sb rb sv fr0 R) Z Z Z Z Z (fun u H C2 hH hle hr2 hC2=>K8 (fst:=[]) (cap:=[xz b2,xz b3]) Z he hH hr2 hC2 (fun u3 H3 C3 hH3 hle3 hr3 hC3=>hcl u3 H3 C3 (hle.trans hle3) hH3 hr3 hC3))) (Zc (h:=?_));exact xv L 900 (r:=xp sb rb sv R.at_ (j9 bs lim R).2) (rs:=[.tmp 4]) Z (fun _ _ h=>h) hs12 Z Z (fun _=>rfl)
def Dz{R:Rd}{bs:List Nat}(hb:∀ b∈bs,b<=255)(hl:bs.length<=1099511627776)(hat:R.at_<=bs.length)(hlim:lim<=1099511627776)(he:(j9 bs lim R).2.err≠0)(hB:zpg B w)(hs:BsV bs fu sv B)(hr:(xp sb rb sv fr0 R).P B w C)(hC:ZCB C w B):
  Pan zph 148 [xz sb,.int .i64 lim] w B C (wrV (j9 bs lim R).2.bad (j9 bs lim R).2.err):=by
 refine gt 900 (xp sb rb sv fr0 R) Tryz.func148 Z Tryz.ntmps148 (np Z) hB hr hC ((Zbf∘Zd4∘Zd) ?_);refine kz 2 902 rfl fun b2=>?_;refine kz 3 903 rfl fun b3=>?_;refine j8 902 rfl fun H1 hs1 _ h2=>?_;refine j8 903 rfl fun H2 hs2 _ h3=>?_;have h2:=hs2.le _ _ h2;have hs12:=hs1.trans hs2;have hs':=hs.le hs12.le;have hcl:∀ (u:World) (H:Heap) (C:Nat->Prop),H2.Le H->zpg H u->(xp sb rb sv R.at_ R).P H u C->(ZCB C u H)->RetX zph 204 ([]++[xz b2,xz b3]) u H C (xp sb rb sv R.at_ (j9 bs lim R).2) (.int .i64 (j9 bs lim R).1):=fun u H C3 hle hH hr3 hC3=>Gd hb hl hat hlim hH (hs'.le hle) (hle _ _ h2) (hle _ _ h3) hr3 hC3;refine jn (id:=1) 2 rfl (z7 (qf L (qh Z h2) Z Z Z Z) Z ((Zav∘ZN) ?_));refine jk (r:=(xp sb rb sv fr0 R).res) (K:=2) L 900 rfl Z Z Z Z (fun u H C2 hH hle hr2 hC2=>K9 (fst:=[]) (cap:=[xz b2,xz b3]) Z he hH hr2 hC2 (fun u3 H3 C3 hH3 hle3 hr3 hC3=>hcl u3 H3 C3 (hle.trans hle3) hH3 hr3 hC3)) (fun _ _ _ _ h=>h) ?_
 repeat (first | refine jx ?_ | refine ja ?_)
 exact p8 hs12
def Po{R:Rd}(hl:bs.length<=1099511627776)(hat:R.at_<=bs.length)(he:(E8 bs R).2=0)(hB:zpg B w)(hs:BsV bs fu sv B)(hr:(xp sb rb sv fr0 R).P B w C)(hC:ZCB C w B):
  ki zph 154 [xz sb] w B C (xp sb rb sv fr0 R):=by
 unfold ki;refine yr 900 (xp sb rb sv fr0 R) Tryz.func154 Z Tryz.ntmps154 (np Z) hB hr hC ?_;rw[wo,xa,xa];refine Zdp (h:=?_);refine(ZB∘Za∘ZH) ?_;refine zy (y7 L 901 (GRd rb sv R) (.tuple #[.int .i64 (E8 bs R).1,.int .i64 (E8 bs R).2]) (r:=GRd rb sv R) Z Z Z Z Z (fun u H C2 hH hle hr2 hC2=>U1 hl hat hH (hs.le hle) hr2 hC2)) ((Z1∘Zv∘Zbv∘Za5∘Zad) ?_);refine ig 900 901 rfl Z (xe (GRd rb sv R)) ?_;exact xo L 900 (r:=xp sb rb sv fr0 R) Z (fun _ _ h=>h) nq Z Z
def Pp{R:Rd}(hl:bs.length<=1099511627776)(hat:R.at_<=bs.length)(he:(E8 bs R).2≠0)(hB:zpg B w)(hs:BsV bs fu sv B)(hr:(xp sb rb sv fr0 R).P B w C)(hC:ZCB C w B):
  Pan zph 154 [xz sb] w B C (wrV (E8 bs R).1 (E8 bs R).2):=by
 refine gt 900 (xp sb rb sv fr0 R) Tryz.func154 Z Tryz.ntmps154 (np Z) hB hr hC ?_;rw[wo,xa,xa];refine Zdp (h:=?_);refine(ZB∘Za∘ZH) ?_;refine zy (y7 L 901 (GRd rb sv R) (.tuple #[.int .i64 (E8 bs R).1,.int .i64 (E8 bs R).2]) (r:=GRd rb sv R) Z Z Z Z Z (fun u H C2 hH hle hr2 hC2=>U1 hl hat hH (hs.le hle) hr2 hC2)) ((Z1∘Zv∘Zbv∘Zds∘ZD) ?_);refine jn (id:=2) 4 rfl ((Zb∘Zeo∘Zen∘ZN) ?_);refine Be (K:=4) Z Z Z ?_
 repeat (first | refine jx ?_ | refine ja ?_)
 exact p8 nq
end Go.V.L11
end
namespace Go.V
section rec
variable {F:Fence} {nn:Nat}  {zpf:Exit->Act->List Frame->World->Prop} {a:Act} {cs:List Frame} 
def Dq{id d:Nat}{o:Oper}{l:List Oper}{cs':List Frame}(hro:F.round=none)(hd:o.dst=some d)(hop:o.op=.call { callee:=.builtin .recover,args:=#[],argTypes:=#[] })(hgd:o.guard=none)(hrec:(recoverD cs=some (v,cs'))\/(recoverD cs=none/\v=.nilIface/\cs'=cs))
  (h:wpOpsIn F nn P (o::l).toArray (fun e a' w'=>zpf e a' cs' w') (List.range' 1 l.length) (a.put (some d) v) w):(Code.region id (o::l).toArray false).wpSIn F nn P zpf a cs w:=fun b k hb hr hF hroom=>by
 have hlen:cs'.length=cs.length:=by
  rcases hrec with h | ⟨_,_,rfl⟩
  ·exact recoverD_length h
  ·rfl
 obtain⟨e,a',w',hq,harr⟩:=wp_opsIn _ _ _ h b k cs' (hr.trans hro.symm) hF (hlen ▸ hroom);have hsz:List.range (o::l).toArray.size=0::List.range' 1 l.length:=by rw[znx];simp [zny]
 have ho:(o::l).toArray[0]?=some o:=by simp
 have hw:Region.wanted o (yielded (o::l).toArray a.tmps)=true:=by unfold Region.wanted;rw[hgd]
 have hg:=stepGR_op (P:=P) (b:=b) (k:=k) (cs:=cs) (w:=w) (rest:=List.range' 1 l.length) ho hw;rw[hr,Oper.semAt_none] at hg;have hrun:(execOp a.eval o).run P w=.ok .recover w:=by unfold execOp;rw[hop];rfl
 have hfin:∀ v,(b.atR a (.inRegion (o::l).toArray (0::List.range' 1 l.length)::k)).finish v=b.atR (a.put o.dst v) (.inRegion (o::l).toArray (List.range' 1 l.length)::k):=by
  intro v;rw[Frame.finish_atR,ho];rfl
 have hk:(b.atR a (.inRegion (o::l).toArray (0::List.range' 1 l.length)::k)).kind=.deferred:=hb;have htr:=tryRecover_deferred hk cs
 have habout:∀ f,o.about P w a.eval=some f->F.fn f:=fun f hf=>by
  unfold Oper.about at hf;rw[hop] at hf;cases hf
 have hst:step P (lone (b.atR a (.inRegion (o::l).toArray (0::List.range' 1 l.length)::k)) cs w)=.next (lone (b.atR (a.put (some d) v) (.inRegion (o::l).toArray (List.range' 1 l.length)::k)) cs' w):=by
  refine step_lone_go ?_;rw[hg,<-hd,<-hfin];simp only[Frame.atR,hr] at htr |-;rcases hrec with h1 | ⟨h1,rfl,rfl⟩
  ·simp [stepG.apply,hrun,htr,h1]
  ·simp [stepG.apply,hrun,htr,h1]
 have hreg:step P (lone (b.atR a (.code (.region id (o::l).toArray false)::k)) cs w)=_:=stepR_region;rw[hsz] at hreg;exact⟨e,a',cs',w',hlen,hq,.of_steps (.one (fenced_calm hF hroom Z) hreg) (.of_steps (.one (fenced_oper hF hroom ho habout) hst) harr)⟩
end rec
section code
def QR(P:Program)(F:Fr)(ops:Array Oper)(K:Nat)(zpf:Exit->Act->World->Prop):Exit->Act->World->Prop:=fun _ a u=>wpOpsIn (FW F.r) 0 P ops zpf (List.range' K (ops.size-K)) a u
def V7{id:Nat}{l:List Oper}(K:Nat)(hK:Nat.ble K l.length=true)(h:VO P F B n O l.toArray κ (l.take K) (QR P F l.toArray K zpf)):V P F B n O κ (.region id l.toArray false) zpf:=fun a u hh=>by
 refine wpIn_region ?_;have hK:=np hK
 have hsplit:List.range l.toArray.size=List.range' 0 K++List.range' K (l.toArray.size-K):=by
  rw[znx];have:=List.range'_append_1 (s:=0) (m:=K) (n:=l.toArray.size-K);rw[zlb] at this;rw[this,Nat.add_sub_cancel' (by simpa using hK)]
 rw[hsplit]
 have key:∀ (m i:Nat) {a:Act} {u:World},i+m=K->Ops P l.toArray (fun a u=>QR P F l.toArray K zpf .normal a u) ((l.drop i).take m) a u->
   wpOpsIn (FW F.r) 0 P l.toArray zpf (List.range' i m++List.range' K (l.toArray.size-K)) a u:=by
  intro m
  induction m with
  | zero=>
   intro i a u hi ho;rw[zl4] at ho;exact ho
  | succ m ih=>
   intro i a u hi ho;have hil:i<l.length:=T;rw[zl9 hil,zm7] at ho;have hg:l.toArray[i]?=some l[i]:=by rw[zmx,zlh hil]
   rw[zny,zll,wpOpsIn_cons];exact After.wpOpIn hg (After.mono (fun a' u' hh'=>ih (i+1) T hh') ho)
 exact key K 0 T (by rw[zl7];exact h a u hh)
abbrev dfd(f:Nat)(cap:List Value):Deferred:={ target:=.fn (.func f) cap.toArray,args:=#[] }
def zea{K:Nat}{f:Nat}{fo:Operand}(hds:F.ds=[])(hr:F.r=none)
  (ho:ops[K]?=some ⟨none,.defer { callee:=.value fo,args:=#[],argTypes:=#[] },ty,pos,aft,none⟩) (hf:evK κ fo=some (.func (.func f) #[] cap.toArray))
  (h:VO P ⟨F.w0,F.r,[.u (dfd f cap)],F.L⟩ B n O ops κ (ops.toList.drop (K+1)) zpf):N F B n O κ (QR P F ops K zpf):=by
 rintro a u ⟨H,fp,hh⟩
 have hKs:K<ops.size:=by
  rcases m5 K ops.size with h | h
  ·exact h
  ·rw[zmt h] at ho;cases ho
 unfold QR;rw[show ops.size-K=(ops.size-(K+1))+1 by omega,zny,wpOpsIn_cons];unfold wpOpIn;rw[ho];dsimp only;rw[if_pos (by unfold Region.wanted;rfl)];have e2:=hh.env (ops:=ops) (o:=⟨none,.defer { callee:=.value fo,args:=#[],argTypes:=#[] },ty,pos,aft,none⟩) (κ:=κ) (fun _ _=>rfl);have hfe:a.eval fo=.func (.func f) #[] cap.toArray:=e2.is_ fo _ (by simp [Op.operands,Call.operands]) hf;refine⟨fun _ _=>trivial,?_⟩;have hround:(FW F.r).round=none:=by rw[hr];rfl
 rw[hround,Oper.semAt_none]
 have hrun:(execOp a.eval ⟨none,.defer { callee:=.value fo,args:=#[],argTypes:=#[] },ty,pos,aft,none⟩).run P u=.ok (.defer (dfd f cap)) u:=by
  unfold execOp;dsimp only;simp only[resolve,hfe,Deferred.ofValue,nu,me,ma];simp [dfd]
 rw[hrun,Oper.uponIn_defer];have had:a.defers=[]:=by have:=hh.defers;rw[hds] at this;exact this
 refine l4 (fun _ _ h=>h) (ops.size-(K+1)) (K+1) T (h _ u ⟨H,fp,?_⟩);exact⟨hh.size,by show dfd f cap::a.defers=_;rw[had];rfl,by simp,fun D hD=>by simp at hD,hh.lent,hh.keep,hh.sub,hh.base,hh.fresh,hh.boxes,hh.apart,hh.slot,hh.owns,hh.mono⟩
def aa(P:Program)(f:Nat)(args:List Value)(w:World)(B:Heap)(C:Nat->Prop)(m m':FrameMode)(r:GR):Prop:=
 CallsDIn Fence.wide 0 P f args.toArray m w fun e u' w'=>e=.returned (.tuple #[])/\u'=m'/\∃ H,Grow C w B w' H/\∃ C',r.P H w' C'/\∀ k,C' k->(C k\/w.heap.size<=k)/\k<w'.heap.size/\H k=none
def zfg(P:Program)(fn:Func)(R:World->Prop):Exit->Act->World->Prop
 | .normal,a,w | .ret,a,w=>a.defers=[]/\(results fn a.tmps).run P w=.ok (.tuple #[]) w/\R w
 | _,_,_=>False
inductive RecM:FrameMode->FrameMode->Value->Prop where
 | idle:RecM .returning .returning .nilIface
 | caught (v:Value):RecM (.panicking [{ v:=v,recovered:=false }]) (.panicking [{ v:=v,recovered:=true }]) v
def zbu{f:Nat}{fn:Func}{id d:Nat}{o:Oper}{l:List Oper}{y:Code}{m m':FrameMode}(gs:Nat)(r0 r:GR)(hm:RecM m m' v)(hf:P.funcs[f]?=some fn)
  (hb:fn.body=some (.seq (.region id (o::l).toArray false) y)) (hn:fn.ntmps=n) (hs:args.length<=n) (hd:o.dst=some d) (hdn:Nat.blt d n=true) (hop:o.op=.call { callee:=.builtin .recover,args:=#[],argTypes:=#[] }) (hgd:o.guard=none) (hB:zpg B w) (hr:r0.P B w C) (hC:ZCB C w B)
  (h:VO P ⟨w,none,[],C⟩ B n [] (o::l).toArray (upd (upd (rm 0 args) gs (.own r0.res)) d (.is v)) l (Exit.then (fun a u=>y.wpIn (FW none) 0 P (zfg P fn fun u=>∃ H,Grow C w B u H/\∃ C',r.P H u C'/\∀ k,C' k->(C k\/w.heap.size<=k)/\k<u.heap.size/\H k=none) a u) (zfg P fn fun u=>∃ H,Grow C w B u H/\∃ C',r.P H u C'/\∀ k,C' k->(C k\/w.heap.size<=k)/\k<u.heap.size/\H k=none))):
  aa P f args w B C m m' r:=by
 refine callsDIn_of_wpSIn hf hb trivial fun c0 cs hu=>?_
 have hrec:∃ cs',((recoverD (c0::cs)=some (v,cs'))\/(recoverD (c0::cs)=none/\v=.nilIface/\cs'=c0::cs))/\cs'={ c0 with mode:=m' }::cs:=by
  cases hm with
  | idle=>exact⟨_,.inr ⟨by simp [recoverD,hu],rfl,rfl⟩,by rw[<-hu]⟩
  | caught v=>exact⟨_,.inl (by simp [recoverD,hu]),rfl⟩
 obtain⟨cs',hrec,rfl⟩:=hrec
 have hend:∀ e a u,zfg P fn (fun u=>∃ H,Grow C w B u H/\∃ C',r.P H u C'/\∀ k,C' k->(C k\/w.heap.size<=k)/\k<u.heap.size/\H k=none) e a u->
   bodyPostS P fn c0 cs (fun e u' w'=>e=.returned (.tuple #[])/\u'=m'/\∃ H,Grow C w B w' H/\∃ C',r.P H w' C'/\∀ k,C' k->(C k\/w.heap.size<=k)/\k<w'.heap.size/\H k=none) e a ({ c0 with mode:=m' }::cs) u:=fun e a u he=>by
  cases e with
  | normal=>exact⟨he.1,m',rfl,_,he.2.1,rfl,rfl,he.2.2⟩
  | ret=>exact⟨he.1,m',rfl,_,he.2.1,rfl,rfl,he.2.2⟩
  | exit id=>exact he.elim
  | goto l=>exact he.elim
  | panic c=>exact he.elim
  | outgrown=>exact he.elim
 refine wpSIn_seq (Dq (cs':={ c0 with mode:=m' }::cs) Z hd hop hgd hrec ?_);subst hn;have h0:=dt (B:=B) C (fun k hk=>(hC k hk).1) hs hB (fun _=>noL)
 have h1:HasH ⟨w,none,[],C⟩ B [] fn.ntmps (upd (rm 0 args) gs (.own r0.res)) { tmps:=args.toArray++Array.replicate (fn.ntmps-args.toArray.size) undef,defers:=[] } w B _:=h0.putR (d:=gs) (r:=r0.res) rfl rfl (fun _ _=>rfl) hr (fun k hk=>⟨(hC k hk).1,(hC k hk).2,.inr hk,fun y hy=>by cases hy⟩) fun t r' _ ht=>by
  obtain⟨v,hv,_⟩:=uu _ _ _ _ ht;cases hv
 have h2:=h1.put (d:=d) (k:=.is v) (v:=v) (zn hdn) trivial rfl;have h3:=h _ w ⟨B,_,h2⟩;refine l4 (zpf:=fun a u=>Exit.then (fun a u=>y.wpIn (FW none) 0 P (zfg P fn fun u=>∃ H,Grow C w B u H/\∃ C',r.P H u C'/\∀ k,C' k->(C k\/w.heap.size<=k)/\k<u.heap.size/\H k=none) a u) (zfg P fn fun u=>∃ H,Grow C w B u H/\∃ C',r.P H u C'/\∀ k,C' k->(C k\/w.heap.size<=k)/\k<u.heap.size/\H k=none) .normal a u) (r:=none) (fun a u hy=>?_) l.length 1 (by simp;omega) (by simpa using h3);exact wpSIn_of_wpIn Z (Go.wpIn_mono hy fun e a u he=>hend e a u he)
def Yo(L:Tabs P){fn:Func}(gs:Nat){r:GR}(hrs:fn.results=#[])(hd:F.ds=[])(hk:κ gs=some (.own r.res))(hs:Since F B0 B):∀ a u,Has F B O n κ a u->
  zfg P fn (fun u=>∃ H,Grow F.L F.w0 B0 u H/\∃ C',r.P H u C'/\∀ k,C' k->(F.L k\/F.w0.heap.size<=k)/\k<u.heap.size/\H k=none) .normal a u:=fun a u hh=>by
 obtain⟨H,fp,hH⟩:=hh;have h0:=hH.defers;rw[hd] at h0;refine⟨h0,?_,H,⟨hH.keep,hH.sub,hs.le.trans hH.base,fun k hk hl=>(hH.fresh k hk hl).trans (hs.fresh k hk hl)⟩,HasH.ghost hk hH⟩;obtain⟨vs,h1,h2⟩:=jv L hH (rs:=[]) hrs (K:=fun vs=>vs=[]) rfl;subst h2;exact h1
def Xa(L:Tabs P){fn:Func}(gs:Nat){r:GR}(hrs:fn.results=#[])(hk:κ gs=some (.own r.res))(e:r=r')(hs:Since F B0 B)(hd:F.ds=[]:=by rfl):
  N F B n O κ (zfg P fn fun u=>∃ H,Grow F.L F.w0 B0 u H/\∃ C',r'.P H u C'/\∀ k,C' k->(F.L k\/F.w0.heap.size<=k)/\k<u.heap.size/\H k=none):=by
 subst e;exact Yo L gs hrs hd hk hs
def LV(P:Program)(F:Fr)(B:Heap)(n:Nat)(O:Boxes)(κ:Kap)(fn:Func)(R:Ending->World->Prop):Prop:=∀ a u,Has F B O n κ a u->∃ v,(results fn a.tmps).run P u=.ok v u/\R (.returned v) u
def He(L:Tabs P){fn:Func}{R:Ending->World->Prop}{m m':FrameMode}(q:Nat){r r':GR}(hds:F.ds=[.u (dfd f cap)])(hfn:L.fn f=some ())(hq:κ q=some (.own r.res))(hm:m≠.run)(hm':settle m'=.returning)
  (hc:∀ u H C,zpg H u->B.Le H->r.P H u C->(ZCB C u H)->aa P f cap u H C m m' r') (h:LV P ⟨F.w0,F.r,[],F.L⟩ B n O (upd κ q (.own r'.res)) fn R):
  ∀ a u,Has F B O n κ a u->LeavesInM Fence.wide 0 P fn a.tmps R a.defers m u:=fun a u hh=>by
 obtain⟨H,fp,hH⟩:=hh;have h0:=hH.defers;rw[hds] at h0;rw[h0];obtain⟨hown,hM⟩:=hH.slot q _ hq;have hc:=hc u H (fp q) hH.sub hH.base hown fun k hk=>⟨(hM k hk).1,(hM k hk).2.1⟩
 refine⟨hm,.inr ⟨fun h=>(by cases h),.func f,cap.toArray,f,cap.toArray,Z,?_,fun _ _=>trivial,?_⟩⟩
 ·show(callFunc f (#[]++cap.toArray)).run P u=_;rw[uk L hfn];simp
 ·refine CallsDIn.mono hc fun e u' w' hp=>?_;obtain⟨rfl,rfl,H',g',C',hr',hC'⟩:=hp;show LeavesInM Fence.wide 0 P fn a.tmps R [] (settle u') w';rw[hm'];have h2:=hH.usePut (d:=q) (a':=a) (r':=r'.res) hq g' rfl rfl (fun _ _=>rfl) hr' hC';rw[jo] at h2;exact h { a with defers:=[] } w' ⟨H',_,h2.size,rfl,zmn,fun D hD=>(by cases hD),h2.lent,h2.keep,h2.sub,h2.base,h2.fresh,h2.boxes,h2.apart,h2.slot,h2.owns,h2.mono⟩
def zh1(L:Tabs P){fn:Func}{R:Ending->World->Prop}(q:Nat){r:GR}(hds:F.ds=[.u (dfd f cap)])(hfn:L.fn f=some ())(hq:κ q=some (.own r.res))
  (hc:∀ u H C,zpg H u->B.Le H->r.P H u C->(ZCB C u H)->aa P f cap u H C .returning .returning r') (h:LV P ⟨F.w0,F.r,[],F.L⟩ B n O (upd κ q (.own r'.res)) fn R) (hQ:∀ a u,bodyPostM Fence.wide 0 P fn R .ret a u->zpf .ret a u):
  V P F B n O κ .ret zpf:=fun a u hh=>wpIn_ret (hQ a u (He L q hds hfn hq (by simp) rfl hc h a u hh))
def zct(L:Tabs P){fn:Func}{R:Ending->World->Prop}(q:Nat){r:GR}(hds:F.ds=[.u (dfd f cap)])(hfn:L.fn f=some ())(hq:κ q=some (.own r.res))
  (hc:∀ u H C,zpg H u->B.Le H->r.P H u C->(ZCB C u H)->aa P f cap u H C (.panicking [{ v:=pv,recovered:=false }]) (.panicking [{ v:=pv,recovered:=true }]) r') (h:LV P ⟨F.w0,F.r,[],F.L⟩ B n O (upd κ q (.own r'.res)) fn R)
  (hQ:∀ a u,bodyPostM Fence.wide 0 P fn R (.panic [{ v:=pv,recovered:=false }]) a u->zpf (.panic [{ v:=pv,recovered:=false }]) a u):XP F B n O κ pv zpf:=fun a u hh=>hQ a u (He L q hds hfn hq (by simp) rfl hc h a u hh)
def zg7(L:Tabs P){fn:Func}{rs:List ResultVar}(hrs:fn.results=rs.toArray)(hs:Since F B0 B)(h:∀ u H,zpg H u->B.Le H->B4 L F B O κ H rs [] (fun vs=>φ (tup vs) H)):LV P F B n O κ fn (ft F.w0 B0 F.L fun v H _=>φ v H):=fun a u hh=>by
 obtain⟨H,fp,hH⟩:=hh;obtain⟨vs,h1,h2⟩:=jv L hH hrs (h u H hH.sub hH.base);exact⟨_,h1,_,rfl,H,⟨hH.keep,hH.sub,hs.le.trans hH.base,fun k hk hl=>(hH.fresh k hk hl).trans (hs.fresh k hk hl)⟩,h2⟩
def zab(L:Tabs P){fn:Func}(gs:Nat){r0:GR}{r:Res}{rs:List ResultVar}(hrs:fn.results=rs.toArray)(hs:Since F B0 B)(hk:κ gs=some (.own r0.res))
  (h:∀ H,B4 L F B O κ H rs [] (fun vs=>tup vs=v)) (hr:∀ H u C,B.Le H->zpg H u->r0.P H u C->r.P v H u C) (hL:F.L=noL:=by rfl):LV P F B n O κ fn (ft F.w0 B0 F.L (zfh F.w0 r)):=fun a u hh=>by
 obtain⟨H,fp,hH⟩:=hh;obtain⟨vs,h1,h2⟩:=jv L hH hrs (h H);obtain⟨hown,hM⟩:=hH.slot gs _ hk;refine⟨_,h1,_,rfl,H,⟨hH.keep,hH.sub,hs.le.trans hH.base,fun k hk hl=>(hH.fresh k hk hl).trans (hs.fresh k hk hl)⟩,fp gs,?_,fun k hk=>?_⟩
 ·rw[h2];exact hr H u (fp gs) hH.base hH.sub hown
 ·obtain⟨g1,g2,g3,_⟩:=hM k hk;refine⟨?_,g1,g2⟩;rcases g3 with g3 | g3
  ·exact g3
  ·have g3':F.L k:=g3;rw[hL] at g3';exact g3'.elim
def En(q g1:Nat){fn:Func}{R:Ending->World->Prop}{r1 r2:Res}(hk:κ q=some (.own (ae r1 r2)))(hg1:∀ v v' H u C,r2.P v H u C->r2.P v' H u C)(h:LV P F B n O (upd (upd κ q (.own r1)) g1 (.own r2)) fn R)(hne:q≠g1:=by decide):LV P F B n O κ fn R:=fun a u hh=>h a u (hh.part hne hg1 hk)
def pu(t q:Nat){fn:Func}{R:Ending->World->Prop}{cs:List Value}(hk:κ q=some (.own (xk b cs ty)))(ht:κ t=some (.is (.pointer (some ⟨b,0,none⟩))))(h:LV P F B n O (upd (upd κ q fm) t (.own (Cell cs ty))) fn R):LV P F B n O κ fn R:=fun a u hh=>h a u (hh.release hk ht)
def Ms(q g1:Nat){r1 r2:Res}(hk:κ q=some (.own r1))(hk1:κ g1=some (.own r2))(hg1:∀ v v' H u C,r2.P v H u C->r2.P v' H u C)(h:XP F B n O (upd (upd κ g1 fm) q (.own (ae r1 r2))) pv zpf)(hne:q≠g1:=by decide):XP F B n O κ pv zpf:=fun a u hh=>h a u (hh.join2 hne hg1 hk hk1)
end code
end Go.V
namespace Go.V.L10
open Go.V Go.V.L2 Go.V.L8
def kpt(R:List (Option (List U)))(r:Int):Option (List U):=if 0<r then (R[(r-1).toNat]?).join else none
def ko(R:List (Option (List U))):List Int:=((List.range R.length).filter fun i=>((R[i]?).join).isSome).map fun i=>((i+1:Nat):Int)
def e7(R:List (Option (List U)))(i:Nat):kpt R ((i+1:Nat):Int)=(R[i]?).join:=by
 unfold kpt;rw[na T,show(((i+1:Nat):Int)-1).toNat=i by omega]
def dq(h:(kpt R r).isSome=true):0<r/\r<=R.length:=by
 unfold kpt at h;split at h
 ·rename_i h0;refine⟨h0,?_⟩
  cases hr:R[(r-1).toNat]? with
  | none=>rw[hr] at h;cases h
  | some x=>have:=get_lt hr;omega
 ·cases h
def wz:r∈ko R↔(kpt R r).isSome=true:=by
 unfold ko;rw[m8];constructor
 ·rintro⟨i,hi,rfl⟩;rw[zlr] at hi;rw[e7];exact hi.2
 ·intro h;have hb:=dq h;obtain⟨i,rfl⟩:∃ i:Nat,r=((i+1:Nat):Int):=⟨(r-1).toNat,by omega⟩
  rw[e7] at h;exact⟨i,zlr.2 ⟨List.mem_range.2 T,h⟩,rfl⟩
def bh(R:List (Option (List U))):Sst cP (ko R):=by
 unfold ko Sst;rw[zot];refine(List.Pairwise.filter _ List.pairwise_lt_range).imp ?_;intro a b h;exact Vu.2 T
def r9(R:List (Option (List U))):(ko R).length<=R.length:=by
 unfold ko;rw[mt];exact mw (zm9 ..) (by simp)
section
variable {Y:Type}
def Nv(k:Int):ub k ([]:List (Int×Y))=none:=rfl
def g9{k:Int}:∀ {l:List (Int×Y)},(ub k l).isSome=true↔k∈l.map Prod.fst
 | []=>by simp [Nv]
 | p::l=>by
  rw[wy,mp,nz];by_cases h:k=p.1
  ·rw[na h];simp [h]
  ·rw[nc h,g9];simp [h]
def cd{k:Int}{y:Y}:∀ {l:List (Int×Y)},ub k l=some y->(k,y)∈l
 | [],h=>by cases h
 | p::l,h=>by
  rw[wy] at h;by_cases e:k=p.1
  ·rw[na e] at h;cases h;rw[e];exact mb ..
  ·rw[nc e] at h;exact mc _ (cd h)
def Qh(k:Int)(p:Int×Y)(l:List (Int×Y)):fe k (p::l) 0=if k=p.1 then some (0,p.2) else (fe k l 0).map fun q=>(q.1+1,q.2):=by
 rw[<-ew];rfl
def G8(k:Int)(p:Int×Y)(l:List (Int×Y)):Qi k (p::l)=if k=p.1 then l else p::Qi k l:=by
 unfold Qi;rw[Qh];by_cases h:k=p.1
 ·rw[na h,na h];rfl
 ·rw[nc h,nc h]
  cases fe k l 0 with
  | none=>rfl
  | some q=>rfl
def Em(k:Int):∀ l:List (Int×Y),(Qi k l).Sublist l
 | []=>List.Sublist.refl _
 | p::l=>by
  rw[G8];by_cases h:k=p.1
  ·rw[na h];exact zog ..
  ·rw[nc h];exact(Em k l).cons_cons _
def Nw{k r:Int}:∀ {l:List (Int×Y)},(l.map Prod.fst).Nodup->ub r (Qi k l)=if r=k then none else ub r l
 | [],_=>by rw[show Qi k ([]:List (Int×Y))=[] from rfl,Nv];split<;>rfl
 | p::l,hn=>by
  rw[mp,zm3] at hn;rw[G8];by_cases h:k=p.1
  ·rw[na h];by_cases hr:r=k
   ·rw[na hr];have:¬ (ub r l).isSome=true:=fun hs=>hn.1 (h ▸ hr ▸ g9.1 hs)
    cases hg:ub r l with
    | none=>rfl
    | some y=>rw[hg] at this;exact ni rfl this
   ·rw[nc hr,wy,nc (fun e=>hr (e.trans h.symm))]
  ·rw[nc h,wy,Nw hn.2,wy];by_cases hr:r=k
   ·subst hr;rw[nc h,na rfl,na rfl]
   ·rw[nc hr,nc hr]
end
structure MapOK{Y:Type}(es:List (Int×(List U×Y)))(R:List (Option (List U))):Prop where
 nd:(es.map Prod.fst).Nodup
 get:∀ r,(ub r es).map Prod.fst=kpt R r
def MapOK.mem{Y:Type}{es:List (Int×(List U×Y))}(h:MapOK es R):r∈es.map Prod.fst↔r∈ko R:=by
 rw[<-g9,wz,<-h.get r,zob]
def Yp{a b:List Int}(ha:a.Nodup)(hb:b.Nodup)(h:∀ x,x∈a↔x∈b):a.length=b.length:=((List.perm_ext_iff_of_nodup ha hb).2 h).length_eq
def MapOK.len{Y:Type}{es:List (Int×(List U×Y))}(h:MapOK es R):es.length=(ko R).length:=by
 rw[<-mt (f:=Prod.fst)];exact Yp h.nd ((bh R).nodup fz) fun _=>h.mem
def tc(R:List (Option (List U)))(t:List U)(r:Int):kpt (R++[some t]) r=if r=((R.length+1:Nat):Int) then some t else kpt R r:=by
 by_cases h:r=((R.length+1:Nat):Int)
 ·rw[na h,h,e7];simp
 ·rw[nc h];unfold kpt;by_cases h0:0<r
  ·rw[na h0,na h0];rcases m5 (r-1).toNat R.length with hlt | hge
   ·rw[zl2 hlt]
   ·rw[zld (by rw[nr,zme];omega),zld hge]
  ·rw[nc h0,nc h0]
def MapOK.add{Y:Type}{es:List (Int×(List U×Y))}(h:MapOK es R)(t:List U)(y:Y):MapOK (Ly ((R.length+1:Nat):Int) (t,y) es) (R++[some t])/\Ly ((R.length+1:Nat):Int) (t,y) es=es++[(((R.length+1:Nat):Int),(t,y))]:=by
 have hn:((R.length+1:Nat):Int)∉es.map Prod.fst:=fun hm=>by
  have:=dq (wz.1 (h.mem.1 hm));omega
 have hf:fe ((R.length+1:Nat):Int) es 0=none:=by
  have h1:¬ (ub ((R.length+1:Nat):Int) es).isSome=true:=fun hs=>hn (g9.1 hs);unfold ub at h1
  cases hm:fe ((R.length+1:Nat):Int) es 0 with
  | none=>rfl
  | some q=>rw[hm] at h1;exact ni rfl h1
 have he:Ly ((R.length+1:Nat):Int) (t,y) es=es++[(((R.length+1:Nat):Int),(t,y))]:=i7 hf;refine⟨⟨?_,fun r=>?_⟩,he⟩
 ·rw[he,zli,List.nodup_append];refine⟨h.nd,zmi _ _,fun a ha b hb=>?_⟩;simp only[mp,zlm,m6] at hb;subst hb;exact fun e=>hn (e ▸ ha)
 ·rw[Nu,tc];by_cases e:r=((R.length+1:Nat):Int)
  ·rw[na e,na e];rfl
  ·rw[nc e,nc e,h.get]
def clr(R:List (Option (List U)))(g:Int):List (Option (List U)):=R.set (g-1).toNat none
def Ui{g:Int}(hg:0<g):kpt (clr R g) r=if r=g then none else kpt R r:=by
 unfold kpt clr;by_cases h0:0<r
 ·rw[na h0,na h0,List.getElem?_set];by_cases e:r=g
  ·subst e;rw[na rfl,na rfl];split<;>rfl
  ·rw[nc T,nc e]
 ·rw[nc h0,nc h0,nc T]
def MapOK.del{Y:Type}{es:List (Int×(List U×Y))}(h:MapOK es R){g:Int}(hg:0<g):MapOK (Qi g es) (clr R g):=⟨h.nd.sublist ((Em g es).map _),fun r=>by
 rw[Nw h.nd,Ui hg];by_cases e:r=g
 ·rw[na e,na e];rfl
 ·rw[nc e,nc e,h.get]⟩
def Vg(R:List (Option (List U)))(l:List Int):List (Option (List U)):=l.foldl clr R
def cm(l:List Int):∀ R:List (Option (List U)),(Vg R l).length=R.length:=by
 induction l with
 | nil=>intro R;rfl
 | cons g l ih=>
  intro R;have:=ih (clr R g);unfold Vg at this |-;rw[znk,this];unfold clr;rw[zna]
def td{r:Int}:∀ {l:List Int} {R:List (Option (List U))},(∀ g∈l,0<g)->kpt (Vg R l) r=if r∈l then none else kpt R r
 | [],R,_=>by simp [Vg]
 | g::l,R,h=>by
  have:=td (r:=r) (l:=l) (R:=clr R g) fun x hx=>h x (mc _ hx);unfold Vg at this |-;rw[znk,this,Ui (h g (mb ..))];by_cases e1:r∈l
  ·rw[na e1,na (mc _ e1)]
  ·rw[nc e1];by_cases e2:r=g
   ·rw[na e2,na (by simp [e2])]
   ·rw[nc e2,nc (by simp [e1,e2])]
structure Sto where
 R:List (Option (List U))
 P:List Int
structure zkf(S:Sto):Prop where
 last:(kpt S.R S.R.length).isSome=true
 kl:(ko S.R).length<=1024
 pin:∀ r∈S.P,(kpt S.R r).isSome=true
 tl:∀ r t,kpt S.R r=some t->t.length<=4096
def newS:Sto:=⟨[some []],[]⟩
def atS(S:Sto)(r:Int):List U×Int:=match kpt S.R (if r=0 then S.R.length else r) with
 | some t=>(t,0)
 | none=>([],14)
def t7(S:Sto)(l cs:List CH):Sto×Int×Int:=
 if (cz (atS S 0).1 l cs).2.2=0 then (if 1024<=(ko S.R).length then (S,0,3) else (⟨S.R++[some (cz (atS S 0).1 l cs).1],S.P⟩,((S.R.length+1:Nat):Int),0)) else (S,0,(cz (atS S 0).1 l cs).2.2)
def zdt(S:Sto)(r:Int)(un:Bool):Sto×Int:=
 if (kpt S.R r).isSome=true then (if un then (if (Fy S.P r).2=0 then (⟨S.R,(Fy S.P r).1⟩,0) else (S,(Fy S.P r).2)) else (⟨S.R,S.P++[r]⟩,0)) else (S,14)
def ri(S:Sto)(keep:Int):Sto×List Int×Int:=
 if 1<=keep/\keep<=1024 then (⟨Vg S.R (cu S.P (ko S.R) keep.toNat),S.P⟩,cu S.P (ko S.R) keep.toNat,0) else (S,[],4)
end Go.V.L10
section
open Go.V
attribute [local irreducible] Has N Par Ret RetL RetO RetX Src StepOK V VO X ki
namespace Go.V.So
open Go.Sort
def _root_.Zar(t:Wr Y->A:=by intro h;refine z7 (yp Z Z Z Z M) Z ?_;exact h.1)(h:Y):A:=t ⟨h⟩
abbrev lt:Int->Int->Bool:=ltInt
abbrev tyU:TypeId:=48
def isnanU(a:Int)(hB:zpg B w):Ret zph 280 [.int .u64 a] w B (fun v _=>v=.bool false):=by
 refine yh Tryz.func280 Z Tryz.ntmps280 (np Z) hB ((Z0∘Zb∘Za5∘Zc) ?_);exact yg2 L [.tmp 2]
def zjh(a b:Int)(hB:zpg B w):Ret zph 277 [.int .u64 a,.int .u64 b] w B (fun v _=>v=.bool (lt a b)):=by
 unfold lt ltInt;refine yh Tryz.func277 Z Tryz.ntmps277 (np Z) hB ?_;by_cases h:a<b
 ·rw[nf h];refine(Z0∘Za) ?_;refine z71 L Z (fun u H hH _=>isnanU _ hH) ?_;refine(ZbT∘ZF∘Zab∘Zl∘Zc) ?_;exact yg2 L [.tmp 4]
 ·rw[ng h];refine(Z0∘Za) ?_;refine z71 L Z (fun u H hH _=>isnanU _ hH) ?_;refine(ZbT∘ZF∘Zac∘Zl∘Zc) ?_;exact yg2 L [.tmp 4]
def jm{a b:Int}{f:Bool}(h:lt a b=f)(hB:zpg B w):Ret zph 277 [.int .u64 a,.int .u64 b] w B (fun v _=>v=.bool f):=h ▸ zjh a b hB
def ins_ret{b m cap a e:Nat}(hab:a<=e)(he:e<=d.size)(hm:d.size=m)(hm1:m<=100000)(hB:zpg B w)
  (hr:(yz b (uC d++rest) tyU).P B w C) (hC:ZCB C w B):
  ki zph 271 [.slice (some ⟨b,0,none⟩) m cap,.int .i64 a,.int .i64 e] w B C (yz b (uC (insertionSort lt d a e)++rest) tyU):=by
 unfold ki;refine yr 900 (yz b (uC d++rest) tyU) Tryz.func271 Z Tryz.ntmps271 (np Z) hB hr hC ?_;rw[xa];have hw0:IntKind.i64.wrap ((a:Int)+1)=((a+1:Nat):Int):=yy T T;refine(ZB∘Za∘Zy∘ZaR) ?_;refine xm (fun s:Nat×Array Int=>[(0,.is (.slice (some ⟨b,0,none⟩) m cap)),(1,.is (.int .i64 a)),(2,.is (.int .i64 e)),(6,.is (.int .i64 s.1)),(900,.own (xk b (uC s.2++rest) tyU))]) (fun s=>s.1<=e+1/\a<s.1/\s.2.size=m/\insOuter lt a e s.1 s.2=insertionSort lt d a e) (fun s=>e+1-s.1) (a+1,d) ⟨by omega,by omega,hm,rfl⟩ ⟨Z,Z,Z,Z,Z,nm⟩ ?_;rintro⟨i,D⟩ ⟨hi,hai,hD,hO⟩;dsimp only at hi hai hD hO |-;by_cases hlt:i<e
 ·rw[insOuter,na hlt] at hO;refine(Ze∘Z3∘Zb∘Zag∘Zbl∘Zp∘ZaR) ?_;refine xm (fun t:Nat×Array Int=>[(0,.is (.slice (some ⟨b,0,none⟩) m cap)),(1,.is (.int .i64 a)),(2,.is (.int .i64 e)),(6,.is (.int .i64 i)),(7,.is (.int .i64 t.1)),(900,.own (xk b (uC t.2++rest) tyU))]) (fun t=>t.1<=i/\t.2.size=m/\insInner lt a t.1 t.2=insInner lt a i D) (fun t=>t.1) (i,D) ⟨ns _,hD,rfl⟩ ⟨Z,Z,Z,Z,Z,Z,nm⟩ ?_;rintro⟨j,zpc⟩ ⟨hj,hE,hI⟩;dsimp only at hj hE hI |-;rcases j with _ | j
  ·rw[insInner] at hI;rw[hI];refine(Ze∘Zda∘Zm∘ZcP∘Zb7∘Zby∘Zaq∘Zax∘ZP∘Zo∘ZbW) ?_;exact yn (x:=(i,D)) (i+1,insInner lt a i D) ⟨by dsimp only;omega,by dsimp only;omega,by dsimp only;rw[<-hI];exact hE,hO⟩ G ⟨Z,Z,Z,Z,Z,trivial⟩
  ·by_cases hja:a<j+1
   ·have hw1:IntKind.i64.wrap (((j+1:Nat):Int)-1)=(j:Int):=yy T T |>.trans T;obtain⟨r1,q1⟩:=ux (rest:=rest) (show j+1<zpc.size by omega) (0+(j+1)*1) rfl;obtain⟨r2,q2⟩:=ux (rest:=rest) (show j<zpc.size by omega) (0+j*1) rfl
    cases hc:lt zpc[j+1]! zpc[j]! with
    | true=>
     rw[insInner,na (by rw[hc];simp;omega)] at hI;have s1:=ve (rest:=rest) zpc[j]! (show j+1<zpc.size by omega) (0+(j+1)*1) rfl;have b1:=vg (rest:=rest) (show j+1<zpc.size by omega) (0+(j+1)*1) rfl;have hz:j<(zpc.setIfInBounds (j+1) zpc[j]!).size:=by rw[zls];omega
     have s2:=ve (rest:=rest) zpc[j+1]! hz (0+j*1) rfl;have b2:=vg (rest:=rest) hz (0+j*1) rfl;rw[u9] at s2;refine Ze (h:=?_);refine qg (id:=4) [(200023,[900]),(200028,[900])] mixed J ((Zm∘Zdf∘ZaV∘Zr) ?_);refine qn (qb L (q:=900) Z Z Z q1) Z Z (Zbs (h:=?_));refine qn (qb L (q:=900) Z Z Z q2) Z Z (z81 L Z (fun u H hH _=>jm hc hH) ?_);refine(Zca∘Zal∘Zak) ?_;refine qg (id:=6) [(200042,[900]),(200046,[900]),(100047,[900]),(100048,[900])] mixed J ((Zm∘ZdO∘Zbs) ?_);refine qn (qb L (q:=900) Z Z Z q2) Z Z (Z5 (h:=?_));refine qn (qb L (q:=900) Z Z Z q1) Z Z (Zr (h:=?_));refine xl (ye L (q:=900) Z Z b1 Z s1) Z (Zr (h:=?_));refine xl (ye L (q:=900) Z Z b2 Z s2) Z ((ZbU∘ZP∘ZT∘Zar∘ZbI) ?_);exact yn (x:=(j+1,zpc)) (j,swp zpc (j+1) j) ⟨by dsimp only;omega,by dsimp only;rw[jz];exact hE,hI⟩ G ⟨Z,Z,Z,Z,Z,Z,trivial⟩
    | false=>
     rw[insInner,nc (by rw[hc];simp)] at hI;refine Ze (h:=?_);refine qg (id:=4) [(200023,[900]),(200028,[900])] mixed J ((Zm∘Zdf∘ZaV∘Zr) ?_);refine qn (qb L (q:=900) Z Z Z q1) Z Z (Zbs (h:=?_));refine qn (qb L (q:=900) Z Z Z q2) Z Z (z81 L Z (fun u H hH _=>jm hc hH) ?_);refine(Zaq∘Zax∘ZP) ?_;rw[hI];refine(Zo∘ZbW) ?_;exact yn (x:=(i,D)) (i+1,insInner lt a i D) ⟨by dsimp only;omega,by dsimp only;omega,by dsimp only;rw[<-hI];exact hE,hO⟩ G ⟨Z,Z,Z,Z,Z,trivial⟩
   ·rw[insInner,nc (by simp;omega)] at hI;rw[hI];refine(Ze∘Zda∘Zm∘ZcP∘Zb7∘Zby∘Zaq∘Zax∘ZP∘Zo∘ZbW) ?_;exact yn (x:=(i,D)) (i+1,insInner lt a i D) ⟨by dsimp only;omega,by dsimp only;omega,by dsimp only;rw[<-hI];exact hE,hO⟩ G ⟨Z,Z,Z,Z,Z,trivial⟩
 ·rw[insOuter,nc hlt] at hO;subst hO;refine(Ze∘Z3∘Zb∘Za3∘Zax) ?_;exact xo L 900 (r:=yz b _ tyU) Z (fun _ _ h=>h) nq Z Z
def _root_.ZbQ(t:Wr Y->A:=by intro h;refine z8 (y6 Z Z Z Z M) Z ?_;exact h.1)(h:Y):A:=t ⟨h⟩
def _root_.ZcE(t:Wr Y->A:=by intro h;refine z7 (zgw Z Z Z Z T M) Z ?_;exact h.1)(h:Y):A:=t ⟨h⟩
def _root_.Zea(t:Wr Y->A:=by intro h;refine qg (id:=5) [(200044,[900]),(200050,[900])] mixed J ?_;exact h.1)(h:Y):A:=t ⟨h⟩
def _root_.ZeU(t:Wr Y->A:=by intro h;refine qg (id:=6) [(200066,[900]),(200072,[900]),(100073,[900]),(100074,[900])] mixed J ?_;exact h.1)(h:Y):A:=t ⟨h⟩
def _root_.Ze8(t:Wr Y->A:=by intro h;refine qg (id:=3) [(200027,[900]),(200034,[900])] mixed J ?_;exact h.1)(h:Y):A:=t ⟨h⟩
def _root_.Zcq(t:Wr Y->A:=by exact fun h=>(ZaV∘ZbQ) h.1)(h:Y):A:=t ⟨h⟩
def _root_.Zas(t:Wr Y->A:=by exact fun h=>(Zb∘Zar) h.1)(h:Y):A:=t ⟨h⟩
def _root_.Zdu(t:Wr Y->A:=by exact fun h=>(ZdI∘Zy) h.1)(h:Y):A:=t ⟨h⟩
def _root_.ZbF(t:Wr Y->A:=by exact fun h=>(Zcq∘Zr) h.1)(h:Y):A:=t ⟨h⟩
def zdn{cap:Nat}(hab:a<e)(he:e<=d.size)(hm:d.size=m)(hm1:m<=100000)(hB:zpg B w)
  (hr:(yz b (uC d++rest) tyU).P B w C) (hC:ZCB C w B):
  ki zph 275 [.slice (some ⟨b,0,none⟩) m cap,.int .i64 a,.int .i64 e] w B C (yz b (uC (reverseRange d a e)++rest) tyU):=by
 unfold ki;refine yr 900 (yz b (uC d++rest) tyU) Tryz.func275 Z Tryz.ntmps275 (np Z) hB hr hC ?_;rw[xa];have hw0:IntKind.i64.wrap ((e:Int)-1)=((e-1:Nat):Int):=yy T T |>.trans T;refine(ZB∘Za∘Zbv∘Zar∘ZaR) ?_;refine xm (fun s:(Nat×Nat)×Array Int=>[(0,.is (.slice (some ⟨b,0,none⟩) m cap)),(6,.is (.int .i64 s.1.1)),(7,.is (.int .i64 s.1.2)),(900,.own (xk b (uC s.2++rest) tyU))]) (fun s=>s.1.1<=m/\s.1.2<m/\s.2.size=m/\reverseLoop s.1.1 s.1.2 s.2=reverseRange d a e) (fun s=>s.1.2-s.1.1) ((a,e-1),d) ⟨by dsimp only;omega,by dsimp only;omega,hm,rfl⟩ ⟨Z,Z,Z,Z,trivial⟩ ?_;rintro⟨⟨i,j⟩,zpc⟩ ⟨hi,hj,hE,hO⟩;dsimp only at hi hj hE hO |-;by_cases hlt:i<j
 ·rw[reverseLoop,na hlt] at hO;have hw1:IntKind.i64.wrap ((i:Int)+1)=((i+1:Nat):Int):=yy T T;have hw2:IntKind.i64.wrap ((j:Int)-1)=((j-1:Nat):Int):=yy T T |>.trans T;obtain⟨_,qj⟩:=ux (rest:=rest) (show j<zpc.size by omega) (0+(j)*1) rfl;obtain⟨_,qi⟩:=ux (rest:=rest) (show i<zpc.size by omega) (0+(i)*1) rfl;have s1:=ve (rest:=rest) zpc[j]! (show i<zpc.size by omega) (0+(i)*1) rfl;have b1:=vg (rest:=rest) (show i<zpc.size by omega) (0+(i)*1) rfl;have hz:j<(zpc.setIfInBounds (i) zpc[j]!).size:=by rw[zls];omega
  have s2:=ve (rest:=rest) zpc[i]! hz (0+(j)*1) rfl;have b2:=vg (rest:=rest) hz (0+(j)*1) rfl;rw[u9] at s2;refine(Ze∘Zb9∘Zag∘Zcw) ?_;refine qg (id:=3) [(200021,[900]),(200025,[900]),(100026,[900]),(100027,[900])] mixed J ((Zm∘Zm∘Z5) ?_);refine qn (qb L (q:=900) Z Z Z qj) Z Z (Z5 (h:=?_));refine qn (qb L (q:=900) Z Z Z qi) Z Z (Zr (h:=?_));refine xl (ye L (q:=900) Z Z b1 Z s1) Z (Zr (h:=?_));refine xl (ye L (q:=900) Z Z b2 Z s2) Z ((ZaJ∘Z9∘Zy∘Zc∘ZT∘Zar∘ZU) ?_);exact yn (x:=((i,j),zpc)) ((i+1,j-1),swp zpc i j) ⟨by dsimp only;omega,by dsimp only;omega,by dsimp only;rw[jz];exact hE,hO⟩ G ⟨Z,Z,Z,Z,trivial⟩
 ·rw[reverseLoop,nc hlt] at hO;subst hO;refine(Ze∘Zb9∘Za3∘Zax) ?_;exact xo L 900 (r:=yz b _ tyU) Z (fun _ _ h=>h) nq Z Z
def Nf{b m cap lo hi first:Nat}(hlo:lo<=hi)(hf:first+hi<=d.size)(hm:d.size=m)(hm1:m<=100000)(hB:zpg B w)
  (hr:(yz b (uC d++rest) tyU).P B w C) (hC:ZCB C w B):
  ki zph 288 [.slice (some ⟨b,0,none⟩) m cap,.int .i64 lo,.int .i64 hi,.int .i64 first] w B C (yz b (uC (siftDown lt hi first lo d)++rest) tyU):=by
 unfold ki;refine yr 900 (yz b (uC d++rest) tyU) Tryz.func288 Z Tryz.ntmps288 (np Z) hB hr hC ?_;rw[xa];refine(ZB∘Za∘ZaR) ?_;refine xm (fun s:Nat×Array Int=>[(0,.is (.slice (some ⟨b,0,none⟩) m cap)),(2,.is (.int .i64 hi)),(3,.is (.int .i64 first)),(8,.is (.int .i64 s.1)),(900,.own (xk b (uC s.2++rest) tyU))]) (fun s=>s.1<=hi/\s.2.size=m/\siftDown lt hi first s.1 s.2=siftDown lt hi first lo d) (fun s=>hi-s.1) (lo,d) ⟨hlo,hm,rfl⟩ ⟨Z,Z,Z,Z,Z,nm⟩ ?_;rintro⟨r,zpc⟩ ⟨hr0,hE,hO⟩;dsimp only at hr0 hE hO |-;have hw1:IntKind.i64.wrap (2*(r:Int))=((2*r:Nat):Int):=yy T T |>.trans T;have hw2:IntKind.i64.wrap (((2*r:Nat):Int)+1)=((2*r+1:Nat):Int):=yy T T;by_cases hend:hi<=2*r+1
 ·rw[siftDown,dif_pos T] at hO;subst hO;refine(Z6∘ZaZ∘Zdu∘Zi∘Zb9∘ZbK∘ZdE∘Zdt∘ZcZ) ?_;exact xo L 900 (r:=yz b _ tyU) Z (fun _ _ h=>h) nq Z Z
 ·rw[siftDown,dif_neg T] at hO;have hw3:IntKind.i64.wrap (((2*r+1:Nat):Int)+1)=((2*r+2:Nat):Int):=yy T T;have hw4:IntKind.i64.wrap ((first:Int)+((2*r+1:Nat):Int))=((first+(2*r+1):Nat):Int):=yy T T;have hw5:IntKind.i64.wrap (((first+(2*r+1):Nat):Int)+1)=((first+(2*r+2):Nat):Int):=yy T T;have hw6:IntKind.i64.wrap ((first:Int)+(r:Int))=((first+r:Nat):Int):=yy T T;have hw7:IntKind.i64.wrap ((first:Int)+((2*r+2:Nat):Int))=((first+(2*r+2):Nat):Int):=yy T T;obtain⟨_,qr⟩:=ux (rest:=rest) (show first+r<zpc.size by omega) (0+(first+r)*1) rfl;by_cases h2:2*r+2<hi
  ·obtain⟨_,q1⟩:=ux (rest:=rest) (show first+(2*r+1)<zpc.size by omega) (0+(first+(2*r+1))*1) rfl;obtain⟨_,q2⟩:=ux (rest:=rest) (show first+(2*r+2)<zpc.size by omega) (0+(first+(2*r+2))*1) rfl;have e2:first+(2*r+1)+1=first+(2*r+2):=T
   rw[e2] at hO
   cases hc:lt zpc[first+(2*r+1)]! zpc[first+(2*r+2)]! with
   | true=>
    rw[na (by rw[hc];simp;omega)] at hO;have qc:=q2
    cases hc2:lt zpc[first+r]! zpc[first+(2*r+2)]! with
    | false=>
     rw[hc2] at hO;simp only[Bool.not_false,if_true] at hO;subst hO;refine(Z6∘ZaZ∘Zdu∘Zi∘Zb9∘Za6∘Z4∘Ze8∘Zj∘ZbQ∘Zj∘Zco∘Zm∘Zm∘ZbQ∘Zr) ?_;refine qn (qb L (q:=900) Z Z Z q1) Z Z ((Zcq∘ZbQ∘Zr) ?_);refine qn (qb L (q:=900) Z Z Z q2) Z Z (z81 L Z (fun u H hH _=>jm hc hH) ?_);refine(Zca∘Z9∘Zy∘Zi∘Zea∘ZbF) ?_;refine qn (qb L (q:=900) Z Z Z qr) Z Z (ZbF (h:=?_));refine qn (qb L (q:=900) Z Z Z qc) Z Z (z81 L Z (fun u H hH _=>jm hc2 hH) ?_);refine(Za7∘Zb4) ?_;exact k9 L 900 (r:=yz b _ tyU) Z (fun _ _ h=>h) nq Z Z
    | true=>
     rw[hc2] at hO;simp only[Bool.not_true,zmp,if_false] at hO;rw[dif_pos T] at hO;obtain⟨_,qj⟩:=ux (rest:=rest) (show first+(2*r+2)<zpc.size by omega) (0+(first+(2*r+2))*1) rfl;obtain⟨_,qi⟩:=ux (rest:=rest) (show first+r<zpc.size by omega) (0+(first+r)*1) rfl;have s1:=ve (rest:=rest) zpc[first+(2*r+2)]! (show first+r<zpc.size by omega) (0+(first+r)*1) rfl;have b1:=vg (rest:=rest) (show first+r<zpc.size by omega) (0+(first+r)*1) rfl;have hz:first+(2*r+2)<(zpc.setIfInBounds (first+r) zpc[first+(2*r+2)]!).size:=by rw[zls];omega
     have s2:=ve (rest:=rest) zpc[first+r]! hz (0+(first+(2*r+2))*1) rfl;have b2:=vg (rest:=rest) hz (0+(first+(2*r+2))*1) rfl;rw[u9] at s2;refine(Z6∘ZaZ∘Zdu∘Zi∘Zb9∘Za6∘Z4∘Ze8∘Zj∘ZbQ∘Zj∘Zco∘Zm∘Zm∘ZbQ∘Zr) ?_;refine qn (qb L (q:=900) Z Z Z q1) Z Z ((Zcq∘ZbQ∘Zr) ?_);refine qn (qb L (q:=900) Z Z Z q2) Z Z (z81 L Z (fun u H hH _=>jm hc hH) ?_);refine(Zca∘Z9∘Zy∘Zi∘Zea∘ZbF) ?_;refine qn (qb L (q:=900) Z Z Z qr) Z Z (ZbF (h:=?_));refine qn (qb L (q:=900) Z Z Z qc) Z Z (z81 L Z (fun u H hH _=>jm hc2 hH) ?_);refine(Za7∘Zaz∘Zal∘ZeU∘Zcq∘Zcq∘ZbF) ?_;refine qn (qb L (q:=900) Z Z Z qj) Z Z (ZbF (h:=?_));refine qn (qb L (q:=900) Z Z Z qi) Z Z (Zr (h:=?_));refine xl (ye L (q:=900) Z Z b1 Z s1) Z (Zr (h:=?_));refine xl (ye L (q:=900) Z Z b2 Z s2) Z ((Zb1∘Z8∘ZU) ?_);exact yn (x:=(r,zpc)) (2*r+2,swp zpc (first+r) (first+(2*r+2))) ⟨by dsimp only;omega,by dsimp only;rw[jz];exact hE,hO⟩ G ⟨Z,Z,Z,Z,Z,trivial⟩
   | false=>
    rw[nc (by rw[hc];simp)] at hO;have qc:=q1
    cases hc2:lt zpc[first+r]! zpc[first+(2*r+1)]! with
    | false=>
     rw[hc2] at hO;simp only[Bool.not_false,if_true] at hO;subst hO;refine(Z6∘ZaZ∘Zdu∘Zi∘Zb9∘Za6∘Z4∘Ze8∘Zj∘ZbQ∘Zj∘Zco∘Zm∘Zm∘ZbQ∘Zr) ?_;refine qn (qb L (q:=900) Z Z Z q1) Z Z ((Zcq∘ZbQ∘Zr) ?_);refine qn (qb L (q:=900) Z Z Z q2) Z Z (z81 L Z (fun u H hH _=>jm hc hH) ?_);refine(Zaq∘Zal∘Zf∘Zea∘ZbF) ?_;refine qn (qb L (q:=900) Z Z Z qr) Z Z (ZbF (h:=?_));refine qn (qb L (q:=900) Z Z Z qc) Z Z (z81 L Z (fun u H hH _=>jm hc2 hH) ?_);refine(Za7∘Zb4) ?_;exact k9 L 900 (r:=yz b _ tyU) Z (fun _ _ h=>h) nq Z Z
    | true=>
     rw[hc2] at hO;simp only[Bool.not_true,zmp,if_false] at hO;obtain⟨_,qj⟩:=ux (rest:=rest) (show first+(2*r+1)<zpc.size by omega) (0+(first+(2*r+1))*1) rfl;obtain⟨_,qi⟩:=ux (rest:=rest) (show first+r<zpc.size by omega) (0+(first+r)*1) rfl;have s1:=ve (rest:=rest) zpc[first+(2*r+1)]! (show first+r<zpc.size by omega) (0+(first+r)*1) rfl;have b1:=vg (rest:=rest) (show first+r<zpc.size by omega) (0+(first+r)*1) rfl;have hz:first+(2*r+1)<(zpc.setIfInBounds (first+r) zpc[first+(2*r+1)]!).size:=by rw[zls];omega
     have s2:=ve (rest:=rest) zpc[first+r]! hz (0+(first+(2*r+1))*1) rfl;have b2:=vg (rest:=rest) hz (0+(first+(2*r+1))*1) rfl;rw[u9] at s2;refine(Z6∘ZaZ∘Zdu∘Zi∘Zb9∘Za6∘Z4∘Ze8∘Zj∘ZbQ∘Zj∘Zco∘Zm∘Zm∘ZbQ∘Zr) ?_;refine qn (qb L (q:=900) Z Z Z q1) Z Z ((Zcq∘ZbQ∘Zr) ?_);refine qn (qb L (q:=900) Z Z Z q2) Z Z (z81 L Z (fun u H hH _=>jm hc hH) ?_);refine(Zaq∘Zal∘Zf∘Zea∘ZbF) ?_;refine qn (qb L (q:=900) Z Z Z qr) Z Z (ZbF (h:=?_));refine qn (qb L (q:=900) Z Z Z qc) Z Z (z81 L Z (fun u H hH _=>jm hc2 hH) ?_);refine(Za7∘Zaz∘Zal∘ZeU∘Zcq∘Zcq∘ZbF) ?_;refine qn (qb L (q:=900) Z Z Z qj) Z Z (ZbF (h:=?_));refine qn (qb L (q:=900) Z Z Z qi) Z Z (Zr (h:=?_));refine xl (ye L (q:=900) Z Z b1 Z s1) Z (Zr (h:=?_));refine xl (ye L (q:=900) Z Z b2 Z s2) Z ((Zb1∘Z8∘ZU) ?_);exact yn (x:=(r,zpc)) (2*r+1,swp zpc (first+r) (first+(2*r+1))) ⟨by dsimp only;omega,by dsimp only;rw[jz];exact hE,hO⟩ G ⟨Z,Z,Z,Z,Z,trivial⟩
  ·rw[nc (by simp;omega)] at hO;obtain⟨_,qc⟩:=ux (rest:=rest) (show first+(2*r+1)<zpc.size by omega) (0+(first+(2*r+1))*1) rfl
   cases hc2:lt zpc[first+r]! zpc[first+(2*r+1)]! with
   | false=>
    rw[hc2] at hO;simp only[Bool.not_false,if_true] at hO;subst hO;refine(Z6∘ZaZ∘Zdu∘Zi∘Zb9∘Za6∘Z4∘Zcs∘Zj∘ZbQ∘Zj∘ZcQ∘Zb7∘ZdX∘Zby∘Zaq∘Zal∘Zf∘Zea∘ZbF) ?_;refine qn (qb L (q:=900) Z Z Z qr) Z Z (ZbF (h:=?_));refine qn (qb L (q:=900) Z Z Z qc) Z Z (z81 L Z (fun u H hH _=>jm hc2 hH) ?_);refine(Za7∘Zb4) ?_;exact k9 L 900 (r:=yz b _ tyU) Z (fun _ _ h=>h) nq Z Z
   | true=>
    rw[hc2] at hO;simp only[Bool.not_true,zmp,if_false] at hO;obtain⟨_,qj⟩:=ux (rest:=rest) (show first+(2*r+1)<zpc.size by omega) (0+(first+(2*r+1))*1) rfl;obtain⟨_,qi⟩:=ux (rest:=rest) (show first+r<zpc.size by omega) (0+(first+r)*1) rfl;have s1:=ve (rest:=rest) zpc[first+(2*r+1)]! (show first+r<zpc.size by omega) (0+(first+r)*1) rfl;have b1:=vg (rest:=rest) (show first+r<zpc.size by omega) (0+(first+r)*1) rfl;have hz:first+(2*r+1)<(zpc.setIfInBounds (first+r) zpc[first+(2*r+1)]!).size:=by rw[zls];omega
    have s2:=ve (rest:=rest) zpc[first+r]! hz (0+(first+(2*r+1))*1) rfl;have b2:=vg (rest:=rest) hz (0+(first+(2*r+1))*1) rfl;rw[u9] at s2;refine(Z6∘ZaZ∘Zdu∘Zi∘Zb9∘Za6∘Z4∘Zcs∘Zj∘ZbQ∘Zj∘ZcQ∘Zb7∘ZdX∘Zby∘Zaq∘Zal∘Zf∘Zea∘ZbF) ?_;refine qn (qb L (q:=900) Z Z Z qr) Z Z (ZbF (h:=?_));refine qn (qb L (q:=900) Z Z Z qc) Z Z (z81 L Z (fun u H hH _=>jm hc2 hH) ?_);refine(Za7∘Zaz∘Zal∘ZeU∘Zcq∘Zcq∘ZbF) ?_;refine qn (qb L (q:=900) Z Z Z qj) Z Z (ZbF (h:=?_));refine qn (qb L (q:=900) Z Z Z qi) Z Z (Zr (h:=?_));refine xl (ye L (q:=900) Z Z b1 Z s1) Z (Zr (h:=?_));refine xl (ye L (q:=900) Z Z b2 Z s2) Z ((Zb1∘Z8∘ZU) ?_);exact yn (x:=(r,zpc)) (2*r+1,swp zpc (first+r) (first+(2*r+1))) ⟨by dsimp only;omega,by dsimp only;rw[jz];exact hE,hO⟩ G ⟨Z,Z,Z,Z,Z,trivial⟩
def Ge(hi first:Nat):∀ (n root:Nat) (d:Array Int),hi-root<=n->(siftDown lt hi first root d).size=d.size:=by
 intro n
 induction n with
 | zero=>
  intro root d h;rw[siftDown,dif_pos T]
 | succ n ih=>
  intro root d h;rw[siftDown];split
  ·rfl
  ·split
   ·split
    ·rfl
    ·split
     ·rw[ih _ _ T,jz]
     ·rfl
   ·split
    ·rfl
    ·rw[ih _ _ T,jz]
def zan{cap:Nat}(hab:a<e)(he:e<=d.size)(hm:d.size=m)(hm1:m<=100000)(hB:zpg B w)
  (hr:(yz b (uC d++rest) tyU).P B w C) (hC:ZCB C w B):
  ki zph 272 [.slice (some ⟨b,0,none⟩) m cap,.int .i64 a,.int .i64 e] w B C (yz b (uC (heapSort lt d a e)++rest) tyU):=by
 unfold ki;refine yr 900 (yz b (uC d++rest) tyU) Tryz.func272 Z Tryz.ntmps272 (np Z) hB hr hC ?_;rw[xa];have hw0:IntKind.i64.wrap ((e:Int)-(a:Int))=((e-a:Nat):Int):=yy T T |>.trans T;have hw1:IntKind.i64.wrap (((e-a:Nat):Int)-1)=((e-a-1:Nat):Int):=yy T T |>.trans T
 have et:((e-a-1:Nat):Int).tdiv 2=(((e-a-1)/2+1:Nat):Int)-1:=by
  rw[zoc T];omega
 have hw2:IntKind.i64.wrap (((e-a-1:Nat):Int).tdiv 2)=(((e-a-1)/2+1:Nat):Int)-1:=by rw[et];exact yy T T
 refine(ZB∘Za∘Zaf∘Zd∘Zx∘Zas∘Zi∘Zp∘Zar∘ZcE∘ZaR) ?_;refine xm (fun s:Nat×Array Int=>[(0,.is (.slice (some ⟨b,0,none⟩) m cap)),(6,.is (.int .i64 a)),(7,.is (.int .i64 0)),(8,.is (.int .i64 (e-a:Nat))),(9,.is (.int .i64 ((s.1:Int)-1))),(900,.own (xk b (uC s.2++rest) tyU))]) (fun s=>s.1<=(e-a-1)/2+1/\s.2.size=m/\heapBuild lt (e-a) a s.1 s.2=heapBuild lt (e-a) a ((e-a-1)/2+1) d) (fun s=>s.1) ((e-a-1)/2+1,d) ⟨ns _,hm,rfl⟩ ⟨Z,Z,Z,Z,Z,Z,nm⟩ ?_;rintro⟨k,zpc⟩ ⟨hk,hE,hO⟩;dsimp only at hk hE hO |-;rcases k with _ | k
 ·have e9:(((0:Nat):Int)-1)= -1:=rfl;rw[e9];refine(Ze∘Z9∘Za6∘ZZ∘ZaD) ?_;rw[heapBuild] at hO;have e10:((e-a-1:Nat):Int)=((e-a:Nat):Int)-1:=T;rw[e10] at hw1;refine(Z8∘Zar∘ZaR) ?_;refine xm (fun s:Nat×Array Int=>[(0,.is (.slice (some ⟨b,0,none⟩) m cap)),(6,.is (.int .i64 a)),(7,.is (.int .i64 0)),(10,.is (.int .i64 ((s.1:Int)-1))),(900,.own (xk b (uC s.2++rest) tyU))]) (fun s=>s.1<=e-a/\s.2.size=m/\heapPop lt a s.1 s.2=heapPop lt a (e-a) zpc) (fun s=>s.1) (e-a,zpc) ⟨ns _,hE,rfl⟩ ⟨Z,Z,Z,Z,Z,nm⟩ ?_;rintro⟨j,zpe⟩ ⟨hj,hG,hP⟩;dsimp only at hj hG hP |-;rcases j with _ | j
  ·rw[e9];rw[heapPop] at hP;have:zpe=heapSort lt d a e:=by unfold heapSort;rw[<-hO,hP]
   subst this;refine(Ze∘Zbe∘Za6∘ZZ∘Zax) ?_;exact xo L 900 (r:=yz b _ tyU) Z (fun _ _ h=>h) nq Z Z
  ·have e8:(((j+1:Nat):Int)-1)=(j:Int):=T;rw[heapPop] at hP;rw[e8];have hw3:IntKind.i64.wrap ((a:Int)+(j:Int))=((a+j:Nat):Int):=yy T T;have hw4:IntKind.i64.wrap ((j:Int)-1)=(j:Int)-1:=yy T T;have hsz:=jz zpe a (a+j);have hss:=Ge j a j 0 (swp zpe a (a+j)) T;obtain⟨_,qj⟩:=ux (rest:=rest) (show a+j<zpe.size by omega) (0+(a+j)*1) rfl;obtain⟨_,qi⟩:=ux (rest:=rest) (show a<zpe.size by omega) (0+(a)*1) rfl;have s1:=ve (rest:=rest) zpe[a+j]! (show a<zpe.size by omega) (0+(a)*1) rfl;have b1:=vg (rest:=rest) (show a<zpe.size by omega) (0+(a)*1) rfl;have hz:a+j<(zpe.setIfInBounds (a) zpe[a+j]!).size:=by rw[zls];omega
   have s2:=ve (rest:=rest) zpe[a]! hz (0+(a+j)*1) rfl;have b2:=vg (rest:=rest) hz (0+(a+j)*1) rfl;rw[u9] at s2;refine(Ze∘Zbe∘ZbK∘Zbl) ?_;refine qg (id:=10) [(200044,[900]),(200048,[900]),(100049,[900]),(100050,[900])] mixed J ((Zm∘Zcq∘ZbF) ?_);refine qn (qb L (q:=900) Z Z Z qj) Z Z (Z5 (h:=?_));refine qn (qb L (q:=900) Z Z Z qi) Z Z (Zr (h:=?_));refine xl (ye L (q:=900) Z Z b1 Z s1) Z (Zr (h:=?_));refine xl (ye L (q:=900) Z Z b2 Z s2) Z ((Zb1∘ZV∘ZaI) ?_);refine zy (yq L 900 (yz b (uC (siftDown lt j a 0 (swp zpe a (a+j)))++rest) tyU) (r:=yz b (uC (swp zpe a (a+j))++rest) tyU) Z Z Z Z Z (fun u H C hH _ hr hC=>Nf (mf _) T T hm1 hH hr hC)) ((Zbp∘Zau∘Zar∘ZbI) ?_);exact yn (x:=(j+1,zpe)) (j,siftDown lt j a 0 (swp zpe a (a+j))) ⟨by dsimp only;omega,by dsimp only;omega,hP⟩ G ⟨Z,Z,Z,Z,Z,trivial⟩
 ·have e8:(((k+1:Nat):Int)-1)=(k:Int):=T;rw[heapBuild] at hO;rw[e8];have hw4:IntKind.i64.wrap ((k:Int)-1)=(k:Int)-1:=yy T T;have hss:=Ge (e-a) a (e-a) k zpc T;refine(Ze∘Z9∘ZbK∘Zal∘Zak∘Zaw∘ZaI) ?_;refine zy (yq L 900 (yz b (uC (siftDown lt (e-a) a k zpc)++rest) tyU) (r:=yz b (uC zpc++rest) tyU) Z Z Z Z Z (fun u H C hH _ hr hC=>Nf T T T hm1 hH hr hC)) ((Zbp∘ZT∘Zar∘ZbI) ?_);exact yn (x:=(k+1,zpc)) (k,siftDown lt (e-a) a k zpc) ⟨by dsimp only;omega,by dsimp only;omega,hO⟩ G ⟨Z,Z,Z,Z,Z,Z,trivial⟩
def _root_.Ze9(t:Wr Y->A:=by intro h;refine qg (id:=5) [(200053,[900]),(200057,[900])] mixed J ?_;exact h.1)(h:Y):A:=t ⟨h⟩
def gk(h:¬ (i<=j/\p d[i]! =true)):scanUp p d j i=i:=by
 rw[scanUp,nc];simpa using h
def Al(h1:i<=j)(h2:p d[i]! =true):scanUp p d j i=scanUp p d j (i+1):=by
 rw[scanUp,na (by simp [h1,h2])]
def vo(h:¬ (i<=j/\p d[j]! =true)):scanDown p d i j=j:=by
 cases j with
 | zero=>rfl
 | succ j=>rw[scanDown,nc];simpa using h
def eo(h1:i<=j+1)(h2:p d[j+1]! =true):scanDown p d i (j+1)=scanDown p d i j:=by
 rw[scanDown,na (by simp [h1,h2])]
def lw{b m cap a e p:Nat}(hap:a<=p)(hpe:p<e)(he:e<=d.size)(hm:d.size=m)(hm1:m<=100000)(hB:zpg B w)
  (hr:(yz b (uC d++rest) tyU).P B w C) (hC:ZCB C w B):
  RetX zph 279 [.slice (some ⟨b,0,none⟩) m cap,.int .i64 a,.int .i64 e,.int .i64 p] w B C (yz b (uC (Go.Sort.partition lt d a e p).2.2++rest) tyU) (.tuple #[.int .i64 (Go.Sort.partition lt d a e p).1,.bool (Go.Sort.partition lt d a e p).2.1]):=by
 unfold RetX;refine yr 900 (yz b (uC d++rest) tyU) Tryz.func279 Z Tryz.ntmps279 (np Z) hB hr hC ?_;rw[xa];obtain⟨_,qj⟩:=ux (rest:=rest) (show p<d.size by omega) (0+(p)*1) rfl;obtain⟨_,qi⟩:=ux (rest:=rest) (show a<d.size by omega) (0+(a)*1) rfl;have s1:=ve (rest:=rest) d[p]! (show a<d.size by omega) (0+(a)*1) rfl;have b1:=vg (rest:=rest) (show a<d.size by omega) (0+(a)*1) rfl;have hz:p<(d.setIfInBounds (a) d[p]!).size:=by rw[zls];omega
 have s2:=ve (rest:=rest) d[a]! hz (0+(p)*1) rfl;have b2:=vg (rest:=rest) hz (0+(p)*1) rfl;rw[u9] at s2;have hw1:IntKind.i64.wrap ((a:Int)+1)=((a+1:Nat):Int):=yy T T;obtain⟨e1,rfl⟩:∃ e1,e=e1+1:=⟨e-1,by omega⟩
 have hw2:IntKind.i64.wrap (((e1+1:Nat):Int)-1)=(e1:Int):=yy T T |>.trans T;obtain⟨R,hR⟩:∃ R,R=Go.Sort.partition lt d a (e1+1) p:=⟨_,rfl⟩
 rw[<-hR];have hR':=hR;unfold Go.Sort.partition at hR';have hDs:=jz d a p;refine(ZB∘ZaH) ?_;refine qg (id:=1) [(200019,[900]),(200023,[900]),(100024,[900]),(100025,[900])] mixed J ((Zm∘Zm∘Z5) ?_);refine qn (qb L (q:=900) Z Z Z qj) Z Z (Z5 (h:=?_));refine qn (qb L (q:=900) Z Z Z qi) Z Z (Zr (h:=?_));refine xl (ye L (q:=900) Z Z b1 Z s1) Z (Zr (h:=?_));refine xl (ye L (q:=900) Z Z b2 Z s2) Z ((ZaJ∘Zo∘Zy∘Za∘Zar∘ZaH∘Zak) ?_);generalize swp d a p=D at *;rw[zou] at hR';dsimp only at hR';refine ov (f8 (fun i:Nat=>[(0,.is (.slice (some ⟨b,0,none⟩) m cap)),(1,.is (.int .i64 a)),(10,.is (.int .i64 i)),(11,.is (.int .i64 e1)),(900,.own (xk b (uC D++rest) tyU))]) (fun i=>(a+1)<=i/\i<=max (a+1) (e1+1)/\i=scanUp (fun x=>lt x D[a]!) D e1 (a+1)) (fun _=>[]) ?_) ?_
 rotate_left
 ·refine xm (fun i:Nat=>[(0,.is (.slice (some ⟨b,0,none⟩) m cap)),(1,.is (.int .i64 a)),(10,.is (.int .i64 i)),(11,.is (.int .i64 e1)),(900,.own (xk b (uC D++rest) tyU))]) (fun i=>(a+1)<=i/\i<=max (a+1) (e1+1)/\scanUp (fun x=>lt x D[a]!) D e1 i=scanUp (fun x=>lt x D[a]!) D e1 (a+1)) (fun i=>e1+1-i) (a+1) ⟨ns _,by omega,rfl⟩ ⟨Z,Z,Z,Z,Z,nm⟩ ?_;rintro i ⟨hi1,hi2,hi3⟩;by_cases hle:i<=e1
  ·obtain⟨_,qx⟩:=ux (rest:=rest) (show i<D.size by omega) (0+(i)*1) rfl;obtain⟨_,qa⟩:=ux (rest:=rest) (show a<D.size by omega) (0+(a)*1) rfl
   cases hc:lt D[i]! D[a]! with
   | true=>
    have hw:IntKind.i64.wrap ((i:Int)+1)=((i+1:Nat):Int):=yy T T;refine Ze (h:=?_);refine qg (id:=3) [(200037,[900]),(200041,[900])] mixed J ((Zm∘ZcI∘ZaV∘Zr) ?_);refine qn (qb L (q:=900) Z Z Z qx) Z Z (Z5 (h:=?_));refine qn (qb L (q:=900) Z Z Z qa) Z Z (z81 L Z (fun u H hH _=>jm hc hH) ?_);refine(Zca∘Zch∘Zak∘Z9∘Zy∘ZU) ?_;exact yn (x:=i) (i+1) ⟨by omega,by omega,by rw[<-hi3];exact(Al hle (by simp [hc])).symm⟩ T ⟨Z,Z,Z,Z,Z,nm⟩
   | false=>
    refine Ze (h:=?_);refine qg (id:=3) [(200037,[900]),(200041,[900])] mixed J ((Zm∘ZcI∘ZaV∘Zr) ?_);refine qn (qb L (q:=900) Z Z Z qx) Z Z (Z5 (h:=?_));refine qn (qb L (q:=900) Z Z Z qa) Z Z (z81 L Z (fun u H hH _=>jm hc hH) ?_);refine(Zaq∘Zax) ?_;exact ju i nq ⟨hi1,hi2,by rw[<-hi3];exact(gk (by rintro⟨_,h⟩;simp [hc] at h)).symm⟩ rfl ⟨rfl,rfl,rfl,rfl,rfl,nm⟩
  ·refine(Ze∘Zcs∘Zm∘Zd7∘Zb7∘ZbL∘Zaq∘Zax) ?_;exact ju i nq ⟨hi1,hi2,by rw[<-hi3];exact(gk (by rintro⟨h,_⟩;exact hle h)).symm⟩ rfl ⟨rfl,rfl,rfl,rfl,rfl,nm⟩
 rintro I ⟨hI1,hI2,hI3⟩;refine zj (qm ?_);refine ov (f8 (fun i:Nat=>[(0,.is (.slice (some ⟨b,0,none⟩) m cap)),(1,.is (.int .i64 a)),(10,.is (.int .i64 I)),(11,.is (.int .i64 i)),(900,.own (xk b (uC D++rest) tyU))]) (fun i=>i<=e1/\min (I-1) e1<=i/\i=scanDown (fun x=>!lt x D[a]!) D I e1) (fun _=>[]) ?_) ?_
 rotate_left
 ·refine xm (fun i:Nat=>[(0,.is (.slice (some ⟨b,0,none⟩) m cap)),(1,.is (.int .i64 a)),(10,.is (.int .i64 I)),(11,.is (.int .i64 i)),(900,.own (xk b (uC D++rest) tyU))]) (fun i=>i<=e1/\min (I-1) e1<=i/\scanDown (fun x=>!lt x D[a]!) D I i=scanDown (fun x=>!lt x D[a]!) D I e1) (fun i=>i) e1 ⟨ns _,by omega,rfl⟩ ⟨Z,Z,Z,Z,Z,nm⟩ ?_;rintro i ⟨hi1,hi2,hi3⟩;by_cases hle:I<=i
  ·obtain⟨_,qx⟩:=ux (rest:=rest) (show i<D.size by omega) (0+(i)*1) rfl;obtain⟨_,qa⟩:=ux (rest:=rest) (show a<D.size by omega) (0+(a)*1) rfl
   cases hc:lt D[i]! D[a]! with
   | false=>
    obtain⟨i,rfl⟩:∃ k,i=k+1:=⟨i-1,by omega⟩
    have hw:IntKind.i64.wrap (((i+1:Nat):Int)-1)=(i:Int):=yy T T |>.trans T;refine(Ze∘Ze9∘Zm∘ZcI∘ZaV∘Zr) ?_;refine qn (qb L (q:=900) Z Z Z qx) Z Z (Z5 (h:=?_));refine qn (qb L (q:=900) Z Z Z qa) Z Z (z81 L Z (fun u H hH _=>jm hc hH) ?_);refine(Za7∘Zca∘Zch∘Zak∘ZL∘Zar∘ZU) ?_;exact yn (x:=i+1) i ⟨by omega,by omega,by rw[<-hi3];exact(eo hle (by simp [hc])).symm⟩ T ⟨Z,Z,Z,Z,Z,nm⟩
   | true=>
    refine(Ze∘Ze9∘Zm∘ZcI∘ZaV∘Zr) ?_;refine qn (qb L (q:=900) Z Z Z qx) Z Z (Z5 (h:=?_));refine qn (qb L (q:=900) Z Z Z qa) Z Z (z81 L Z (fun u H hH _=>jm hc hH) ?_);refine(Za7∘Zaq∘Zax) ?_;exact ju i nq ⟨hi1,hi2,by rw[<-hi3];exact(vo (by rintro⟨_,h⟩;simp [hc] at h)).symm⟩ rfl ⟨rfl,rfl,rfl,rfl,rfl,nm⟩
  ·refine(Ze∘ZdL∘Zm∘Zd7∘Zb7∘Zby∘Zaq∘Zax) ?_;exact ju i nq ⟨hi1,hi2,by rw[<-hi3];exact(vo (by rintro⟨h,_⟩;exact hle h)).symm⟩ rfl ⟨rfl,rfl,rfl,rfl,rfl,nm⟩
 rintro zpb ⟨hJ1,hJ2,hJ3⟩;rw[<-hI3,<-hJ3] at hR';by_cases hIJ:zpb<I
 ·rw[na hIJ] at hR';subst hR';obtain⟨_,qj⟩:=ux (rest:=rest) (show a<D.size by omega) (0+(a)*1) rfl;obtain⟨_,qi⟩:=ux (rest:=rest) (show zpb<D.size by omega) (0+(zpb)*1) rfl;have s1:=ve (rest:=rest) D[a]! (show zpb<D.size by omega) (0+(zpb)*1) rfl;have b1:=vg (rest:=rest) (show zpb<D.size by omega) (0+(zpb)*1) rfl;have hz:a<(D.setIfInBounds (zpb) D[a]!).size:=by rw[zls];omega
  have s2:=ve (rest:=rest) D[zpb]! hz (0+(a)*1) rfl;have b2:=vg (rest:=rest) hz (0+(a)*1) rfl;rw[u9] at s2;refine(Ze∘ZbY∘ZO∘Zu) ?_;refine qg (id:=8) [(200073,[900]),(200077,[900]),(100078,[900]),(100079,[900])] mixed J ((Zm∘Zm∘Z5) ?_);refine qn (qb L (q:=900) Z Z Z qj) Z Z (Z5 (h:=?_));refine qn (qb L (q:=900) Z Z Z qi) Z Z (Zr (h:=?_));refine xl (ye L (q:=900) Z Z b1 Z s1) Z (Zr (h:=?_));refine xl (ye L (q:=900) Z Z b2 Z s2) Z ((ZaJ∘Zau∘ZM) ?_);exact xv L 900 (r:=yz b _ tyU) (rs:=[.tmp 8,.tmp 9]) Z (fun _ _ h=>h) nq Z Z (fun _=>rfl)
 ·rw[nc hIJ] at hR';have hw3:IntKind.i64.wrap ((I:Int)+1)=((I+1:Nat):Int):=yy T T;have hw4:IntKind.i64.wrap ((zpb:Int)-1)=((zpb-1:Nat):Int):=yy T T |>.trans T;obtain⟨_,qj⟩:=ux (rest:=rest) (show zpb<D.size by omega) (0+(zpb)*1) rfl;obtain⟨_,qi⟩:=ux (rest:=rest) (show I<D.size by omega) (0+(I)*1) rfl;have s1:=ve (rest:=rest) D[zpb]! (show I<D.size by omega) (0+(I)*1) rfl;have b1:=vg (rest:=rest) (show I<D.size by omega) (0+(I)*1) rfl;have hz:zpb<(D.setIfInBounds (I) D[zpb]!).size:=by rw[zls];omega
  have s2:=ve (rest:=rest) D[I]! hz (0+(zpb)*1) rfl;have b2:=vg (rest:=rest) hz (0+(zpb)*1) rfl;rw[u9] at s2;have hEs:=jz D I zpb;refine(Ze∘ZbY∘ZJ∘Zn) ?_;refine qg (id:=10) [(200088,[900]),(200092,[900]),(100093,[900]),(100094,[900])] mixed J ((Zm∘Zm∘Z5) ?_);refine qn (qb L (q:=900) Z Z Z qj) Z Z (Z5 (h:=?_));refine qn (qb L (q:=900) Z Z Z qi) Z Z (Zr (h:=?_));refine xl (ye L (q:=900) Z Z b1 Z s1) Z (Zr (h:=?_));refine xl (ye L (q:=900) Z Z b2 Z s2) Z ((ZaJ∘ZV∘Za∘Zy∘Zd∘ZW∘Za∘Zar∘Zd∘Zak) ?_);generalize swp D I zpb=zpc at *;obtain⟨X,hX⟩:∃ X,X=partLoop lt a (I+1) (zpb-1) zpc:=⟨_,rfl⟩
  rw[<-hX] at hR';refine ov (f8 (fun s:Nat×Array Int=>[(0,.is (.slice (some ⟨b,0,none⟩) m cap)),(1,.is (.int .i64 a)),(11,.is (.int .i64 s.1)),(900,.own (xk b (uC s.2++rest) tyU))]) (fun s=>s.2.size=m/\a<=s.1/\s.1<=e1/\s=X) (fun _=>[]) ?_) ?_
  rotate_left
  ·refine xm (fun s:(Nat×Nat)×Array Int=>[(0,.is (.slice (some ⟨b,0,none⟩) m cap)),(1,.is (.int .i64 a)),(10,.is (.int .i64 s.1.1)),(11,.is (.int .i64 s.1.2)),(900,.own (xk b (uC s.2++rest) tyU))]) (fun s=>s.2.size=m/\a+1<=s.1.1/\s.1.1<=e1+1/\a<=s.1.2/\s.1.2<=e1/\partLoop lt a s.1.1 s.1.2 s.2=X) (fun s=>s.1.2+1-s.1.1) ((I+1,zpb-1),zpc) ⟨by dsimp only;omega,by dsimp only;omega,by dsimp only;omega,by dsimp only;omega,by dsimp only;omega,hX.symm⟩ ⟨Z,Z,Z,Z,Z,trivial⟩ ?_;rintro⟨⟨i0,j0⟩,zpe⟩ ⟨hG,hi1,hi2,hj1,hj2,hL⟩;dsimp only at hG hi1 hi2 hj1 hj2 hL |-;rw[partLoop] at hL;clear hX hR' hEs hIJ hI3 hJ3;refine qm (zj (qm ?_));refine ov (f8 (fun i:Nat=>[(0,.is (.slice (some ⟨b,0,none⟩) m cap)),(1,.is (.int .i64 a)),(10,.is (.int .i64 i)),(11,.is (.int .i64 j0)),(900,.own (xk b (uC zpe++rest) tyU))]) (fun i=>i0<=i/\i<=max i0 (j0+1)/\i=scanUp (fun x=>lt x zpe[a]!) zpe j0 i0) (fun _=>[]) ?_) ?_
   rotate_left
   ·refine xm (fun i:Nat=>[(0,.is (.slice (some ⟨b,0,none⟩) m cap)),(1,.is (.int .i64 a)),(10,.is (.int .i64 i)),(11,.is (.int .i64 j0)),(900,.own (xk b (uC zpe++rest) tyU))]) (fun i=>i0<=i/\i<=max i0 (j0+1)/\scanUp (fun x=>lt x zpe[a]!) zpe j0 i=scanUp (fun x=>lt x zpe[a]!) zpe j0 i0) (fun i=>j0+1-i) i0 ⟨ns _,by omega,rfl⟩ ⟨Z,Z,Z,Z,Z,nm⟩ ?_;rintro i ⟨hi1,hi2,hi3⟩;by_cases hle:i<=j0
    ·obtain⟨_,qx⟩:=ux (rest:=rest) (show i<zpe.size by omega) (0+(i)*1) rfl;obtain⟨_,qa⟩:=ux (rest:=rest) (show a<zpe.size by omega) (0+(a)*1) rfl
     cases hc:lt zpe[i]! zpe[a]! with
     | true=>
      have hw:IntKind.i64.wrap ((i:Int)+1)=((i+1:Nat):Int):=yy T T;refine Ze (h:=?_);refine qg (id:=13) [(200106,[900]),(200110,[900])] mixed J ((Zm∘ZcI∘ZaV∘Zr) ?_);refine qn (qb L (q:=900) Z Z Z qx) Z Z (Z5 (h:=?_));refine qn (qb L (q:=900) Z Z Z qa) Z Z (z81 L Z (fun u H hH _=>jm hc hH) ?_);refine(Zca∘Zch∘Zak∘Zbw∘Zy∘ZU) ?_;exact yn (x:=i) (i+1) ⟨by omega,by omega,by rw[<-hi3];exact(Al hle (by simp [hc])).symm⟩ T ⟨Z,Z,Z,Z,Z,nm⟩
     | false=>
      refine Ze (h:=?_);refine qg (id:=13) [(200106,[900]),(200110,[900])] mixed J ((Zm∘ZcI∘ZaV∘Zr) ?_);refine qn (qb L (q:=900) Z Z Z qx) Z Z (Z5 (h:=?_));refine qn (qb L (q:=900) Z Z Z qa) Z Z (z81 L Z (fun u H hH _=>jm hc hH) ?_);refine(Zaq∘Zax) ?_;exact ju i nq ⟨hi1,hi2,by rw[<-hi3];exact(gk (by rintro⟨_,h⟩;simp [hc] at h)).symm⟩ rfl ⟨rfl,rfl,rfl,rfl,rfl,nm⟩
    ·refine(Ze∘ZdK∘Zm∘Zd7∘Zb7∘ZbL∘Zaq∘Zax) ?_;exact ju i nq ⟨hi1,hi2,by rw[<-hi3];exact(gk (by rintro⟨h,_⟩;exact hle h)).symm⟩ rfl ⟨rfl,rfl,rfl,rfl,rfl,nm⟩
   rintro K ⟨hK1,hK2,hK3⟩;refine zj (qm ?_);refine ov (f8 (fun i:Nat=>[(0,.is (.slice (some ⟨b,0,none⟩) m cap)),(1,.is (.int .i64 a)),(10,.is (.int .i64 K)),(11,.is (.int .i64 i)),(900,.own (xk b (uC zpe++rest) tyU))]) (fun i=>i<=j0/\min (K-1) j0<=i/\i=scanDown (fun x=>!lt x zpe[a]!) zpe K j0) (fun _=>[]) ?_) ?_
   rotate_left
   ·refine xm (fun i:Nat=>[(0,.is (.slice (some ⟨b,0,none⟩) m cap)),(1,.is (.int .i64 a)),(10,.is (.int .i64 K)),(11,.is (.int .i64 i)),(900,.own (xk b (uC zpe++rest) tyU))]) (fun i=>i<=j0/\min (K-1) j0<=i/\scanDown (fun x=>!lt x zpe[a]!) zpe K i=scanDown (fun x=>!lt x zpe[a]!) zpe K j0) (fun i=>i) j0 ⟨ns _,by omega,rfl⟩ ⟨Z,Z,Z,Z,Z,nm⟩ ?_;rintro i ⟨hi1,hi2,hi3⟩;by_cases hle:K<=i
    ·obtain⟨_,qx⟩:=ux (rest:=rest) (show i<zpe.size by omega) (0+(i)*1) rfl;obtain⟨_,qa⟩:=ux (rest:=rest) (show a<zpe.size by omega) (0+(a)*1) rfl
     cases hc:lt zpe[i]! zpe[a]! with
     | false=>
      obtain⟨i,rfl⟩:∃ k,i=k+1:=⟨i-1,by omega⟩
      have hw:IntKind.i64.wrap (((i+1:Nat):Int)-1)=(i:Int):=yy T T |>.trans T;refine Ze (h:=?_);refine qg (id:=15) [(200122,[900]),(200126,[900])] mixed J ((Zm∘ZcI∘ZaV∘Zr) ?_);refine qn (qb L (q:=900) Z Z Z qx) Z Z (Z5 (h:=?_));refine qn (qb L (q:=900) Z Z Z qa) Z Z (z81 L Z (fun u H hH _=>jm hc hH) ?_);refine(Za7∘Zca∘Zch∘Zak∘Zap∘Za∘Zar∘ZU) ?_;exact yn (x:=i+1) i ⟨by omega,by omega,by rw[<-hi3];exact(eo hle (by simp [hc])).symm⟩ T ⟨Z,Z,Z,Z,Z,nm⟩
     | true=>
      refine Ze (h:=?_);refine qg (id:=15) [(200122,[900]),(200126,[900])] mixed J ((Zm∘ZcI∘ZaV∘Zr) ?_);refine qn (qb L (q:=900) Z Z Z qx) Z Z (Z5 (h:=?_));refine qn (qb L (q:=900) Z Z Z qa) Z Z (z81 L Z (fun u H hH _=>jm hc hH) ?_);refine(Za7∘Zaq∘Zax) ?_;exact ju i nq ⟨hi1,hi2,by rw[<-hi3];exact(vo (by rintro⟨_,h⟩;simp [hc] at h)).symm⟩ rfl ⟨rfl,rfl,rfl,rfl,rfl,nm⟩
    ·refine Ze (h:=?_);refine qg (id:=15) [] mixed J ((Zm∘Zd7∘Zb7∘Zby∘Zaq∘Zax) ?_);exact ju i nq ⟨hi1,hi2,by rw[<-hi3];exact(vo (by rintro⟨h,_⟩;exact hle h)).symm⟩ rfl ⟨rfl,rfl,rfl,rfl,rfl,nm⟩
   rintro zpd ⟨hM1,hM2,hM3⟩;rw[<-hK3,<-hM3] at hL;by_cases hKM:zpd<K
   ·rw[na hKM] at hL;refine(Ze∘Zb8∘Zb∘ZO∘ZD∘ZdE∘Zdt∘ZcZ) ?_;exact ju (zpd,zpe) Since.refl ⟨hG,by dsimp only;omega,by dsimp only;omega,hL⟩ Z ⟨Z,Z,Z,Z,trivial⟩
   ·rw[nc hKM,dif_pos T] at hL;have hw5:IntKind.i64.wrap ((K:Int)+1)=((K+1:Nat):Int):=yy T T;have hw6:IntKind.i64.wrap ((zpd:Int)-1)=((zpd-1:Nat):Int):=yy T T |>.trans T;have hGs:=jz zpe K zpd;obtain⟨_,qj⟩:=ux (rest:=rest) (show zpd<zpe.size by omega) (0+(zpd)*1) rfl;obtain⟨_,qi⟩:=ux (rest:=rest) (show K<zpe.size by omega) (0+(K)*1) rfl;have s1:=ve (rest:=rest) zpe[zpd]! (show K<zpe.size by omega) (0+(K)*1) rfl;have b1:=vg (rest:=rest) (show K<zpe.size by omega) (0+(K)*1) rfl;have hz:zpd<(zpe.setIfInBounds (K) zpe[zpd]!).size:=by rw[zls];omega
    have s2:=ve (rest:=rest) zpe[K]! hz (0+(zpd)*1) rfl;have b2:=vg (rest:=rest) hz (0+(zpd)*1) rfl;rw[u9] at s2;refine(Ze∘Zb8∘Zb∘ZJ∘Zn) ?_;refine qg (id:=18) [(200142,[900]),(200146,[900]),(100147,[900]),(100148,[900])] mixed J ((Zm∘Zm∘Z5) ?_);refine qn (qb L (q:=900) Z Z Z qj) Z Z (Z5 (h:=?_));refine qn (qb L (q:=900) Z Z Z qi) Z Z (Zr (h:=?_));refine xl (ye L (q:=900) Z Z b1 Z s1) Z (Zr (h:=?_));refine xl (ye L (q:=900) Z Z b2 Z s2) Z ((ZaJ∘Zcx∘Za∘Zy∘Zc∘ZaM∘Za∘Zar∘ZU) ?_);exact yn (x:=((i0,j0),zpe)) ((K+1,zpd-1),swp zpe K zpd) ⟨by dsimp only;omega,by dsimp only;omega,by dsimp only;omega,by dsimp only;omega,by dsimp only;omega,hL⟩ G ⟨Z,Z,Z,Z,Z,trivial⟩
  ·rintro⟨J2,zpe⟩ ⟨hG,hj1,hj2,hL⟩;dsimp only at hG hj1 hj2 |-;rw[<-hL] at hR';dsimp only at hR';subst hR';obtain⟨_,qj⟩:=ux (rest:=rest) (show a<zpe.size by omega) (0+(a)*1) rfl;obtain⟨_,qi⟩:=ux (rest:=rest) (show J2<zpe.size by omega) (0+(J2)*1) rfl;have s1:=ve (rest:=rest) zpe[a]! (show J2<zpe.size by omega) (0+(J2)*1) rfl;have b1:=vg (rest:=rest) (show J2<zpe.size by omega) (0+(J2)*1) rfl;have hz:a<(zpe.setIfInBounds (J2) zpe[a]!).size:=by rw[zls];omega
   have s2:=ve (rest:=rest) zpe[J2]! hz (0+(a)*1) rfl;have b2:=vg (rest:=rest) hz (0+(a)*1) rfl;rw[u9] at s2;refine Zf (h:=?_);refine qg (id:=21) [(200160,[900]),(200164,[900]),(100165,[900]),(100166,[900])] mixed J ((Zm∘Zm∘Z5) ?_);refine qn (qb L (q:=900) Z Z Z qj) Z Z (Z5 (h:=?_));refine qn (qb L (q:=900) Z Z Z qi) Z Z (Zr (h:=?_));refine xl (ye L (q:=900) Z Z b1 Z s1) Z (Zr (h:=?_));refine xl (ye L (q:=900) Z Z b2 Z s2) Z ((ZaJ∘ZcD∘Za∘ZM) ?_);exact xv L 900 (r:=yz b _ tyU) (rs:=[.tmp 8,.tmp 9]) Z (fun _ _ h=>h) nq Z Z (fun _=>rfl)
def zdv{b m cap a e p:Nat}(hap:a<=p)(hpe:p<e)(he:e<=d.size)(hm:d.size=m)(hm1:m<=100000)(hB:zpg B w)
  (hr:(yz b (uC d++rest) tyU).P B w C) (hC:ZCB C w B):
  RetX zph 278 [.slice (some ⟨b,0,none⟩) m cap,.int .i64 a,.int .i64 e,.int .i64 p] w B C (yz b (uC (partitionEqual lt d a e p).2++rest) tyU) (.int .i64 (partitionEqual lt d a e p).1):=by
 unfold RetX;refine yr 900 (yz b (uC d++rest) tyU) Tryz.func278 Z Tryz.ntmps278 (np Z) hB hr hC ?_;rw[xa];obtain⟨_,qj⟩:=ux (rest:=rest) (show p<d.size by omega) (0+(p)*1) rfl;obtain⟨_,qi⟩:=ux (rest:=rest) (show a<d.size by omega) (0+(a)*1) rfl;have s1:=ve (rest:=rest) d[p]! (show a<d.size by omega) (0+(a)*1) rfl;have b1:=vg (rest:=rest) (show a<d.size by omega) (0+(a)*1) rfl;have hz:p<(d.setIfInBounds (a) d[p]!).size:=by rw[zls];omega
 have s2:=ve (rest:=rest) d[a]! hz (0+(p)*1) rfl;have b2:=vg (rest:=rest) hz (0+(p)*1) rfl;rw[u9] at s2;have hw1:IntKind.i64.wrap ((a:Int)+1)=((a+1:Nat):Int):=yy T T;obtain⟨e1,rfl⟩:∃ e1,e=e1+1:=⟨e-1,by omega⟩
 have hw2:IntKind.i64.wrap (((e1+1:Nat):Int)-1)=(e1:Int):=yy T T |>.trans T;obtain⟨X,hX⟩:∃ X,X=partitionEqual lt d a (e1+1) p:=⟨_,rfl⟩
 rw[<-hX];have hR':=hX;unfold partitionEqual at hR';rw[zou] at hR';have hDs:=jz d a p;refine(ZB∘Zd) ?_;refine qg (id:=1) [(200018,[900]),(200022,[900]),(100023,[900]),(100024,[900])] mixed J ((Zm∘Zm∘Z5) ?_);refine qn (qb L (q:=900) Z Z Z qj) Z Z (Z5 (h:=?_));refine qn (qb L (q:=900) Z Z Z qi) Z Z (Zr (h:=?_));refine xl (ye L (q:=900) Z Z b1 Z s1) Z (Zr (h:=?_));refine xl (ye L (q:=900) Z Z b2 Z s2) Z ((ZaJ∘Zo∘Zy∘Za∘Zar∘ZaH∘Zak) ?_);generalize swp d a p=D at *;refine ov (f8 (fun s:Nat×Array Int=>[(9,.is (.int .i64 s.1)),(900,.own (xk b (uC s.2++rest) tyU))]) (fun s=>s.2.size=m/\s=X) (fun _=>[]) ?_) ?_
 rotate_left
 ·refine xm (fun s:(Nat×Nat)×Array Int=>[(0,.is (.slice (some ⟨b,0,none⟩) m cap)),(1,.is (.int .i64 a)),(9,.is (.int .i64 s.1.1)),(10,.is (.int .i64 s.1.2)),(900,.own (xk b (uC s.2++rest) tyU))]) (fun s=>s.2.size=m/\a+1<=s.1.1/\s.1.1<=e1+1/\a<=s.1.2/\s.1.2<=e1/\partEqLoop lt a s.1.1 s.1.2 s.2=X) (fun s=>s.1.2+1-s.1.1) ((a+1,e1),D) ⟨by dsimp only;omega,by dsimp only;omega,by dsimp only;omega,by dsimp only;omega,by dsimp only;omega,hR'.symm⟩ ⟨Z,Z,Z,Z,Z,trivial⟩ ?_;rintro⟨⟨i0,j0⟩,zpe⟩ ⟨hG,hi1,hi2,hj1,hj2,hL⟩;dsimp only at hG hi1 hi2 hj1 hj2 hL |-;rw[partEqLoop] at hL;clear hX hR' hDs;refine qm (zj (qm ?_));refine ov (f8 (fun i:Nat=>[(0,.is (.slice (some ⟨b,0,none⟩) m cap)),(1,.is (.int .i64 a)),(9,.is (.int .i64 i)),(10,.is (.int .i64 j0)),(900,.own (xk b (uC zpe++rest) tyU))]) (fun i=>i0<=i/\i<=max i0 (j0+1)/\i=scanUp (fun x=>!lt zpe[a]! x) zpe j0 i0) (fun _=>[]) ?_) ?_
  rotate_left
  ·refine xm (fun i:Nat=>[(0,.is (.slice (some ⟨b,0,none⟩) m cap)),(1,.is (.int .i64 a)),(9,.is (.int .i64 i)),(10,.is (.int .i64 j0)),(900,.own (xk b (uC zpe++rest) tyU))]) (fun i=>i0<=i/\i<=max i0 (j0+1)/\scanUp (fun x=>!lt zpe[a]! x) zpe j0 i=scanUp (fun x=>!lt zpe[a]! x) zpe j0 i0) (fun i=>j0+1-i) i0 ⟨ns _,by omega,rfl⟩ ⟨Z,Z,Z,Z,Z,nm⟩ ?_;rintro i ⟨hi1,hi2,hi3⟩;by_cases hle:i<=j0
   ·obtain⟨_,qx⟩:=ux (rest:=rest) (show i<zpe.size by omega) (0+(i)*1) rfl;obtain⟨_,qa⟩:=ux (rest:=rest) (show a<zpe.size by omega) (0+(a)*1) rfl
    cases hc:lt zpe[a]! zpe[i]! with
    | false=>
     have hw:IntKind.i64.wrap ((i:Int)+1)=((i+1:Nat):Int):=yy T T;refine Ze (h:=?_);refine qg (id:=3) [(200036,[900]),(200040,[900])] mixed J ((Zm∘ZcI∘ZaV∘Zr) ?_);refine qn (qb L (q:=900) Z Z Z qa) Z Z (Z5 (h:=?_));refine qn (qb L (q:=900) Z Z Z qx) Z Z (z81 L Z (fun u H hH _=>jm hc hH) ?_);refine(Za7∘Zca∘Zch∘Zak∘Z9∘Zy∘ZU) ?_;exact yn (x:=i) (i+1) ⟨by omega,by omega,by rw[<-hi3];exact(Al hle (by simp [hc])).symm⟩ T ⟨Z,Z,Z,Z,Z,nm⟩
    | true=>
     refine Ze (h:=?_);refine qg (id:=3) [(200036,[900]),(200040,[900])] mixed J ((Zm∘ZcI∘ZaV∘Zr) ?_);refine qn (qb L (q:=900) Z Z Z qa) Z Z (Z5 (h:=?_));refine qn (qb L (q:=900) Z Z Z qx) Z Z (z81 L Z (fun u H hH _=>jm hc hH) ?_);refine(Za7∘Zaq∘Zax) ?_;exact ju i nq ⟨hi1,hi2,by rw[<-hi3];exact(gk (by rintro⟨_,h⟩;simp [hc] at h)).symm⟩ rfl ⟨rfl,rfl,rfl,rfl,rfl,nm⟩
   ·refine(Ze∘Zcs∘Zm∘Zd7∘Zb7∘Zby∘Zaq∘Zax) ?_;exact ju i nq ⟨hi1,hi2,by rw[<-hi3];exact(gk (by rintro⟨h,_⟩;exact hle h)).symm⟩ rfl ⟨rfl,rfl,rfl,rfl,rfl,nm⟩
  rintro K ⟨hK1,hK2,hK3⟩;refine zj (qm ?_);refine ov (f8 (fun i:Nat=>[(0,.is (.slice (some ⟨b,0,none⟩) m cap)),(1,.is (.int .i64 a)),(9,.is (.int .i64 K)),(10,.is (.int .i64 i)),(900,.own (xk b (uC zpe++rest) tyU))]) (fun i=>i<=j0/\min (K-1) j0<=i/\i=scanDown (fun x=>lt zpe[a]! x) zpe K j0) (fun _=>[]) ?_) ?_
  rotate_left
  ·refine xm (fun i:Nat=>[(0,.is (.slice (some ⟨b,0,none⟩) m cap)),(1,.is (.int .i64 a)),(9,.is (.int .i64 K)),(10,.is (.int .i64 i)),(900,.own (xk b (uC zpe++rest) tyU))]) (fun i=>i<=j0/\min (K-1) j0<=i/\scanDown (fun x=>lt zpe[a]! x) zpe K i=scanDown (fun x=>lt zpe[a]! x) zpe K j0) (fun i=>i) j0 ⟨ns _,by omega,rfl⟩ ⟨Z,Z,Z,Z,Z,nm⟩ ?_;rintro i ⟨hi1,hi2,hi3⟩;by_cases hle:K<=i
   ·obtain⟨_,qx⟩:=ux (rest:=rest) (show i<zpe.size by omega) (0+(i)*1) rfl;obtain⟨_,qa⟩:=ux (rest:=rest) (show a<zpe.size by omega) (0+(a)*1) rfl
    cases hc:lt zpe[a]! zpe[i]! with
    | true=>
     obtain⟨i,rfl⟩:∃ k,i=k+1:=⟨i-1,by omega⟩
     have hw:IntKind.i64.wrap (((i+1:Nat):Int)-1)=(i:Int):=yy T T |>.trans T;refine(Ze∘Ze9∘Zm∘ZcI∘ZaV∘Zr) ?_;refine qn (qb L (q:=900) Z Z Z qa) Z Z (Z5 (h:=?_));refine qn (qb L (q:=900) Z Z Z qx) Z Z (z81 L Z (fun u H hH _=>jm hc hH) ?_);refine(Zca∘Zch∘Zak∘ZL∘Zar∘ZU) ?_;exact yn (x:=i+1) i ⟨by omega,by omega,by rw[<-hi3];exact(eo hle (by simp [hc])).symm⟩ T ⟨Z,Z,Z,Z,Z,nm⟩
    | false=>
     refine(Ze∘Ze9∘Zm∘ZcI∘ZaV∘Zr) ?_;refine qn (qb L (q:=900) Z Z Z qa) Z Z (Z5 (h:=?_));refine qn (qb L (q:=900) Z Z Z qx) Z Z (z81 L Z (fun u H hH _=>jm hc hH) ?_);refine(Zaq∘Zax) ?_;exact ju i nq ⟨hi1,hi2,by rw[<-hi3];exact(vo (by rintro⟨_,h⟩;simp [hc] at h)).symm⟩ rfl ⟨rfl,rfl,rfl,rfl,rfl,nm⟩
   ·refine(Ze∘ZdL∘Zm∘Zd7∘Zb7∘ZbL∘Zaq∘Zax) ?_;exact ju i nq ⟨hi1,hi2,by rw[<-hi3];exact(vo (by rintro⟨h,_⟩;exact hle h)).symm⟩ rfl ⟨rfl,rfl,rfl,rfl,rfl,nm⟩
  rintro zpd ⟨hM1,hM2,hM3⟩;rw[<-hK3,<-hM3] at hL;by_cases hKM:zpd<K
  ·rw[na hKM] at hL;refine(Ze∘ZbY∘ZO∘ZD∘ZdE∘Zdt∘ZcZ) ?_;exact ju (K,zpe) nq ⟨hG,hL⟩ Z ⟨Z,Z,nm⟩
  ·rw[nc hKM,dif_pos T] at hL;have hw5:IntKind.i64.wrap ((K:Int)+1)=((K+1:Nat):Int):=yy T T;have hw6:IntKind.i64.wrap ((zpd:Int)-1)=((zpd-1:Nat):Int):=yy T T |>.trans T;have hGs:=jz zpe K zpd;obtain⟨_,qj⟩:=ux (rest:=rest) (show zpd<zpe.size by omega) (0+(zpd)*1) rfl;obtain⟨_,qi⟩:=ux (rest:=rest) (show K<zpe.size by omega) (0+(K)*1) rfl;have s1:=ve (rest:=rest) zpe[zpd]! (show K<zpe.size by omega) (0+(K)*1) rfl;have b1:=vg (rest:=rest) (show K<zpe.size by omega) (0+(K)*1) rfl;have hz:zpd<(zpe.setIfInBounds (K) zpe[zpd]!).size:=by rw[zls];omega
   have s2:=ve (rest:=rest) zpe[K]! hz (0+(zpd)*1) rfl;have b2:=vg (rest:=rest) hz (0+(zpd)*1) rfl;rw[u9] at s2;refine(Ze∘ZbY∘ZJ∘Zn) ?_;refine qg (id:=8) [(200072,[900]),(200076,[900]),(100077,[900]),(100078,[900])] mixed J ((Zm∘Zm∘Z5) ?_);refine qn (qb L (q:=900) Z Z Z qj) Z Z (Z5 (h:=?_));refine qn (qb L (q:=900) Z Z Z qi) Z Z (Zr (h:=?_));refine xl (ye L (q:=900) Z Z b1 Z s1) Z (Zr (h:=?_));refine xl (ye L (q:=900) Z Z b2 Z s2) Z ((ZaJ∘Zau∘Zy∘Zc∘ZA∘Za∘Zar∘ZU) ?_);exact yn (x:=((i0,j0),zpe)) ((K+1,zpd-1),swp zpe K zpd) ⟨by dsimp only;omega,by dsimp only;omega,by dsimp only;omega,by dsimp only;omega,by dsimp only;omega,hL⟩ G ⟨Z,Z,Z,Z,Z,trivial⟩
 ·rintro⟨K,zpe⟩ ⟨hG,hL⟩;dsimp only at hG |-;rw[<-hL];refine(Zf∘ZV∘Za∘Zc) ?_;exact xv L 900 (r:=yz b _ tyU) (rs:=[.tmp 8]) Z (fun _ _ h=>h) nq Z Z (fun _=>rfl)
def _root_.Zdg(t:Wr Y->A:=by intro h;refine zh (id:=24) ?_;exact h.1)(h:Y):A:=t ⟨h⟩
def bj(h:¬ (i<e/\lt d[i]! d[i-1]! =false)):scanSorted lt d e i=i:=by
 rw[scanSorted,nc];simpa using h
def D5(h1:i<e)(h2:lt d[i]! d[i-1]! =false):scanSorted lt d e i=scanSorted lt d e (i+1):=by
 rw[scanSorted,na (by simp [h1,h2])]
def pins_ret{b m cap a e:Nat}(hab:a<e)(he:e<=d.size)(hm:d.size=m)(hm1:m<=100000)(hB:zpg B w)
  (hr:(yz b (uC d++rest) tyU).P B w C) (hC:ZCB C w B):
  RetX zph 276 [.slice (some ⟨b,0,none⟩) m cap,.int .i64 a,.int .i64 e] w B C (yz b (uC (partialInsertionSort lt d a e).1++rest) tyU) (.bool (partialInsertionSort lt d a e).2):=by
 unfold RetX;refine yr 900 (yz b (uC d++rest) tyU) Tryz.func276 Z Tryz.ntmps276 (np Z) hB hr hC ?_;rw[xa];have hw1:IntKind.i64.wrap ((a:Int)+1)=((a+1:Nat):Int):=yy T T;have hw2:IntKind.i64.wrap ((e:Int)-(a:Int))=((e-a:Nat):Int):=yy T T |>.trans T;obtain⟨X,hX⟩:∃ X,X=partialInsertionSort lt d a e:=⟨_,rfl⟩
 rw[<-hX];unfold partialInsertionSort at hX;refine(Z0∘Za∘Zy∘Zi∘Zx∘ZaR) ?_;refine xm (fun s:(Nat×Nat)×Array Int=>[(0,.is (.slice (some ⟨b,0,none⟩) m cap)),(1,.is (.int .i64 a)),(2,.is (.int .i64 e)),(7,.is (.int .i64 s.1.2)),(8,.is (.int .i64 s.1.1)),(900,.own (xk b (uC s.2++rest) tyU))]) (fun s=>s.1.1<=5/\a+1<=s.1.2/\s.1.2<=e/\s.2.size=m/\partialIns lt a e (5-s.1.1) s.1.2 s.2=X) (fun s=>5-s.1.1) ((0,a+1),d) ⟨by dsimp only;omega,by dsimp only;omega,by dsimp only;omega,hm,hX.symm⟩ ⟨Z,Z,Z,Z,Z,Z,trivial⟩ ?_;rintro⟨⟨k,i0⟩,D⟩ ⟨hk,hi1,hi2,hD,hL⟩;dsimp only at hk hi1 hi2 hD hL |-;clear hX;by_cases hk5:k<5
 ·obtain⟨s,hs⟩:∃ s,5-k=s+1:=⟨5-k-1,by omega⟩
  have hs':5-(k+1)=s:=T;rw[hs,partialIns] at hL;dsimp only at hL;refine(Ze∘Zp∘Zag∘Zbl∘Zak) ?_;refine ov (f8 (fun i:Nat=>[(0,.is (.slice (some ⟨b,0,none⟩) m cap)),(1,.is (.int .i64 a)),(2,.is (.int .i64 e)),(7,.is (.int .i64 i)),(8,.is (.int .i64 k)),(900,.own (xk b (uC D++rest) tyU))]) (fun i=>a+1<=i/\i<=e/\i=scanSorted lt D e i0) (fun _=>[]) ?_) ?_
  rotate_left
  ·refine xm (fun i:Nat=>[(0,.is (.slice (some ⟨b,0,none⟩) m cap)),(1,.is (.int .i64 a)),(2,.is (.int .i64 e)),(7,.is (.int .i64 i)),(8,.is (.int .i64 k)),(900,.own (xk b (uC D++rest) tyU))]) (fun i=>a+1<=i/\i<=e/\scanSorted lt D e i=scanSorted lt D e i0) (fun i=>e-i) i0 ⟨hi1,hi2,rfl⟩ ⟨Z,Z,Z,Z,Z,Z,nm⟩ ?_;rintro i ⟨h1,h2,h3⟩;by_cases hle:i<e
   ·obtain⟨_,q1⟩:=ux (rest:=rest) (show i<D.size by omega) (0+(i)*1) rfl;obtain⟨_,q2⟩:=ux (rest:=rest) (show i-1<D.size by omega) (0+(i-1)*1) rfl;have hw3:IntKind.i64.wrap ((i:Int)-1)=((i-1:Nat):Int):=yy T T |>.trans T
    cases hc:lt D[i]! D[i-1]! with
    | false=>
     have hw4:IntKind.i64.wrap ((i:Int)+1)=((i+1:Nat):Int):=yy T T;refine Ze (h:=?_);refine qg (id:=5) [(200024,[900]),(200029,[900])] mixed J ((Zm∘Zco∘ZaV∘Zr) ?_);refine qn (qb L (q:=900) Z Z Z q1) Z Z (Zbs (h:=?_));refine qn (qb L (q:=900) Z Z Z q2) Z Z (z81 L Z (fun u H hH _=>jm hc hH) ?_);refine(Za7∘Zca∘Zch∘Zak∘ZL∘Zy∘ZU) ?_;exact yn (x:=i) (i+1) ⟨by omega,by omega,by rw[<-h3];exact(D5 hle hc).symm⟩ T ⟨Z,Z,Z,Z,Z,Z,nm⟩
    | true=>
     refine Ze (h:=?_);refine qg (id:=5) [(200024,[900]),(200029,[900])] mixed J ((Zm∘Zco∘ZaV∘Zr) ?_);refine qn (qb L (q:=900) Z Z Z q1) Z Z (Zbs (h:=?_));refine qn (qb L (q:=900) Z Z Z q2) Z Z (z81 L Z (fun u H hH _=>jm hc hH) ?_);refine(Za7∘Zaq∘Zax) ?_;exact ju i nq ⟨h1,h2,by rw[<-h3];exact(bj (by rintro⟨_,h⟩;simp [hc] at h)).symm⟩ rfl ⟨rfl,rfl,rfl,rfl,rfl,rfl,nm⟩
   ·refine(Ze∘ZdL∘Zm∘ZcQ∘Zb7∘Zby∘ZbL∘Zaq∘Zax) ?_;exact ju i nq ⟨h1,h2,by rw[<-h3];exact(bj (by rintro⟨h,_⟩;exact hle h)).symm⟩ rfl ⟨rfl,rfl,rfl,rfl,rfl,rfl,nm⟩
  ·rintro i ⟨h1,h2,h3⟩;rw[<-h3] at hL;by_cases hie:i=e
   ·rw[na hie] at hL;subst hie;rw[<-hL];refine(Ze∘ZbY∘ZG∘Zu∘ZC∘Zc) ?_;exact xv L 900 (r:=yz b _ tyU) (rs:=[.tmp 6]) Z (fun _ _ h=>h) nq Z Z (fun _=>rfl)
   ·rw[nc hie] at hL;by_cases h50:e-a<50
    ·rw[na h50] at hL;rw[<-hL];refine(Ze∘ZbY∘Zq∘Z4∘Zat∘Zas∘Zab∘Zu∘ZA∘Zc) ?_;exact xv L 900 (r:=yz b _ tyU) (rs:=[.tmp 6]) Z (fun _ _ h=>h) nq Z Z (fun _=>rfl)
    ·rw[nc h50] at hL;have hw3:IntKind.i64.wrap ((i:Int)-1)=((i-1:Nat):Int):=yy T T |>.trans T;have hw4:IntKind.i64.wrap ((i:Int)-(a:Int))=((i-a:Nat):Int):=yy T T |>.trans T;have hw5:IntKind.i64.wrap ((e:Int)-(i:Int))=((e-i:Nat):Int):=yy T T |>.trans T;have hw6:IntKind.i64.wrap ((i:Int)+1)=((i+1:Nat):Int):=yy T T;have hw7:IntKind.i64.wrap ((k:Int)+1)=((k+1:Nat):Int):=yy T T;have hDs:=jz D i (i-1);obtain⟨_,qj⟩:=ux (rest:=rest) (show i-1<D.size by omega) (0+(i-1)*1) rfl;obtain⟨_,qi⟩:=ux (rest:=rest) (show i<D.size by omega) (0+(i)*1) rfl;have s1:=ve (rest:=rest) D[i-1]! (show i<D.size by omega) (0+(i)*1) rfl;have b1:=vg (rest:=rest) (show i<D.size by omega) (0+(i)*1) rfl;have hz:i-1<(D.setIfInBounds (i) D[i-1]!).size:=by rw[zls];omega
     have s2:=ve (rest:=rest) D[i]! hz (0+(i-1)*1) rfl;have b2:=vg (rest:=rest) hz (0+(i-1)*1) rfl;rw[u9] at s2;refine(Ze∘ZbY∘Zq∘Z4∘Zat∘Zas∘Zac∘Zn) ?_;refine qg (id:=11) [(200051,[900]),(200055,[900]),(100056,[900]),(100057,[900])] mixed J ((Zm∘ZdO∘Zbs) ?_);refine qn (qb L (q:=900) Z Z Z qj) Z Z (Z5 (h:=?_));refine qn (qb L (q:=900) Z Z Z qi) Z Z (Zr (h:=?_));refine xl (ye L (q:=900) Z Z b1 Z s1) Z (Zr (h:=?_));refine xl (ye L (q:=900) Z Z b2 Z s2) Z ((ZaJ∘Zf) ?_);generalize swp D i (i-1)=D1 at *;obtain⟨D2,hD2⟩:∃ D2,D2=(if i-a>=2 then shiftDown lt (i-1) D1 else D1):=⟨_,rfl⟩
     rw[<-hD2] at hL;refine ib (fun zpc:Array Int=>[(0,.is (.slice (some ⟨b,0,none⟩) m cap)),(1,.is (.int .i64 a)),(2,.is (.int .i64 e)),(7,.is (.int .i64 i)),(8,.is (.int .i64 k)),(900,.own (xk b (uC zpc++rest) tyU))]) (fun zpc=>zpc.size=m/\zpc=D2) (fun _=>[]) ?_ ?_
     rotate_left
     ·by_cases h2a:i-a>=2
      ·rw[na h2a] at hD2;refine(ZW∘Zas∘Zcg∘Zu∘ZX∘Za∘Zar∘ZaR) ?_;refine xm (fun t:Nat×Array Int=>[(0,.is (.slice (some ⟨b,0,none⟩) m cap)),(1,.is (.int .i64 a)),(2,.is (.int .i64 e)),(7,.is (.int .i64 i)),(8,.is (.int .i64 k)),(9,.is (.int .i64 t.1)),(900,.own (xk b (uC t.2++rest) tyU))]) (fun t=>t.1<=i-1/\t.2.size=m/\shiftDown lt t.1 t.2=D2) (fun t=>t.1) (i-1,D1) ⟨Nat.le_refl _,by dsimp only;omega,hD2.symm⟩ ⟨Z,Z,Z,Z,Z,Z,Z,trivial⟩ ?_;rintro⟨j,zpc⟩ ⟨hj,hE,hS⟩;dsimp only at hj hE hS |-;clear hD2;rcases j with _ | j
       ·rw[shiftDown] at hS;refine(Ze∘Zbw∘Za6∘ZZ∘Zax) ?_;exact ju zpc nq ⟨hE,hS⟩ Z ⟨Z,Z,Z,Z,Z,Z,nm⟩
       ·rw[shiftDown] at hS;have hw8:IntKind.i64.wrap (((j+1:Nat):Int)-1)=(j:Int):=yy T T |>.trans T;obtain⟨_,q1⟩:=ux (rest:=rest) (show j+1<zpc.size by omega) (0+(j+1)*1) rfl;obtain⟨_,q2⟩:=ux (rest:=rest) (show j<zpc.size by omega) (0+(j)*1) rfl
        cases hc:lt zpc[j+1]! zpc[j]! with
        | false=>
         rw[na (by rw[hc];rfl)] at hS;refine(Ze∘Zbw∘ZbK∘Zbl∘Zf) ?_;refine qg (id:=16) [(200071,[900]),(200076,[900])] mixed J (Z5 (h:=?_));refine qn (qb L (q:=900) Z Z Z q1) Z Z (Zbs (h:=?_));refine qn (qb L (q:=900) Z Z Z q2) Z Z (z81 L Z (fun u H hH _=>jm hc hH) ?_);refine(Za7∘Zb4∘ZdE∘Zdt∘ZdD∘ZcZ) ?_;exact ju zpc nq ⟨hE,hS⟩ Z ⟨Z,Z,Z,Z,Z,Z,nm⟩
        | true=>
         rw[nc (by rw[hc];simp)] at hS;obtain⟨_,qj⟩:=ux (rest:=rest) (show j<zpc.size by omega) (0+(j)*1) rfl;obtain⟨_,qi⟩:=ux (rest:=rest) (show j+1<zpc.size by omega) (0+(j+1)*1) rfl;have s1:=ve (rest:=rest) zpc[j]! (show j+1<zpc.size by omega) (0+(j+1)*1) rfl;have b1:=vg (rest:=rest) (show j+1<zpc.size by omega) (0+(j+1)*1) rfl;have hz:j<(zpc.setIfInBounds (j+1) zpc[j]!).size:=by rw[zls];omega
         have s2:=ve (rest:=rest) zpc[j+1]! hz (0+(j)*1) rfl;have b2:=vg (rest:=rest) hz (0+(j)*1) rfl;rw[u9] at s2;refine(Ze∘Zbw∘ZbK∘Zbl∘Zf) ?_;refine qg (id:=16) [(200071,[900]),(200076,[900])] mixed J (Z5 (h:=?_));refine qn (qb L (q:=900) Z Z Z q1) Z Z (Zbs (h:=?_));refine qn (qb L (q:=900) Z Z Z q2) Z Z (z81 L Z (fun u H hH _=>jm hc hH) ?_);refine(Za7∘Zaz∘Zch) ?_;refine qg (id:=17) [(200088,[900]),(200092,[900]),(100093,[900]),(100094,[900])] mixed J ((Zm∘ZdO∘Zbs) ?_);refine qn (qb L (q:=900) Z Z Z qj) Z Z (Z5 (h:=?_));refine qn (qb L (q:=900) Z Z Z qi) Z Z (Zr (h:=?_));refine xl (ye L (q:=900) Z Z b1 Z s1) Z (Zr (h:=?_));refine xl (ye L (q:=900) Z Z b2 Z s2) Z ((ZbU∘ZP∘Za0∘Za∘Zar∘ZbI) ?_);exact yn (x:=(j+1,zpc)) (j,swp zpc (j+1) j) ⟨by dsimp only;omega,by dsimp only;rw[jz];exact hE,hS⟩ G ⟨Z,Z,Z,Z,Z,Z,Z,trivial⟩
      ·rw[nc h2a] at hD2;refine(ZW∘Zas∘Za6∘Zad) ?_;exact ju D1 nq ⟨by omega,hD2.symm⟩ Z ⟨Z,Z,Z,Z,Z,Z,nm⟩
     ·rintro zpe ⟨hG,hGe⟩;rw[<-hGe] at hL;clear hD2 hGe;by_cases h2b:e-i>=2
      ·rw[na h2b] at hL;obtain⟨D3,hD3⟩:∃ D3,D3=shiftUp lt e (i+1) zpe:=⟨_,rfl⟩
       rw[<-hD3] at hL;refine(Zf∘Zem∘Zas∘Zcg∘Zu∘Zcx∘Za∘Zy∘ZaR) ?_
       ·refine xm (fun t:Nat×Array Int=>[(0,.is (.slice (some ⟨b,0,none⟩) m cap)),(1,.is (.int .i64 a)),(2,.is (.int .i64 e)),(7,.is (.int .i64 i)),(8,.is (.int .i64 k)),(10,.is (.int .i64 t.1)),(900,.own (xk b (uC t.2++rest) tyU))]) (fun t=>i+1<=t.1/\t.1<=e/\t.2.size=m/\shiftUp lt e t.1 t.2=D3) (fun t=>e-t.1) (i+1,zpe) ⟨Nat.le_refl _,by dsimp only;omega,hG,hD3.symm⟩ ⟨Z,Z,Z,Z,Z,Z,Z,trivial⟩ ?_;rintro⟨j,zpc⟩ ⟨hj1,hj2,hE,hS⟩;dsimp only at hj1 hj2 hE hS |-;clear hD3;rw[shiftUp] at hS;by_cases hje:j<e
        ·rw[na hje] at hS;have hw8:IntKind.i64.wrap ((j:Int)-1)=((j-1:Nat):Int):=yy T T |>.trans T;have hw9:IntKind.i64.wrap ((j:Int)+1)=((j+1:Nat):Int):=yy T T;obtain⟨_,q1⟩:=ux (rest:=rest) (show j<zpc.size by omega) (0+(j)*1) rfl;obtain⟨_,q2⟩:=ux (rest:=rest) (show j-1<zpc.size by omega) (0+(j-1)*1) rfl
         cases hc:lt zpc[j]! zpc[j-1]! with
         | false=>
          rw[na (by rw[hc];rfl)] at hS;refine(Ze∘ZaM∘Zb∘Zag∘Zbl∘Zf) ?_;refine qg (id:=22) [(200109,[900]),(200114,[900])] mixed J (Z5 (h:=?_));refine qn (qb L (q:=900) Z Z Z q1) Z Z (Zbs (h:=?_));refine qn (qb L (q:=900) Z Z Z q2) Z Z (z81 L Z (fun u H hH _=>jm hc hH) ?_);refine(Za7∘Zb4∘ZdE∘Zdt∘ZdD∘ZcZ∘ZP∘Z9∘Zy∘ZbI) ?_;exact yn (x:=((k,i0),D)) ((k+1,i),zpc) ⟨by dsimp only;omega,by dsimp only;omega,by dsimp only;omega,hE,by dsimp only;rw[hs',hS];exact hL⟩ G ⟨Z,Z,Z,Z,Z,Z,trivial⟩
         | true=>
          rw[nc (by rw[hc];simp)] at hS;obtain⟨_,qj⟩:=ux (rest:=rest) (show j-1<zpc.size by omega) (0+(j-1)*1) rfl;obtain⟨_,qi⟩:=ux (rest:=rest) (show j<zpc.size by omega) (0+(j)*1) rfl;have s1:=ve (rest:=rest) zpc[j-1]! (show j<zpc.size by omega) (0+(j)*1) rfl;have b1:=vg (rest:=rest) (show j<zpc.size by omega) (0+(j)*1) rfl;have hz:j-1<(zpc.setIfInBounds (j) zpc[j-1]!).size:=by rw[zls];omega
          have s2:=ve (rest:=rest) zpc[j]! hz (0+(j-1)*1) rfl;have b2:=vg (rest:=rest) hz (0+(j-1)*1) rfl;rw[u9] at s2;refine(Ze∘ZaM∘Zb∘Zag∘Zbl∘Zf) ?_;refine qg (id:=22) [(200109,[900]),(200114,[900])] mixed J (Z5 (h:=?_));refine qn (qb L (q:=900) Z Z Z q1) Z Z (Zbs (h:=?_));refine qn (qb L (q:=900) Z Z Z q2) Z Z (z81 L Z (fun u H hH _=>jm hc hH) ?_);refine(Za7∘Zaz∘Zch) ?_;refine qg (id:=23) [(200126,[900]),(200130,[900]),(100131,[900]),(100132,[900])] mixed J ((Zm∘ZdO∘Zbs) ?_);refine qn (qb L (q:=900) Z Z Z qj) Z Z (Z5 (h:=?_));refine qn (qb L (q:=900) Z Z Z qi) Z Z (Zr (h:=?_));refine xl (ye L (q:=900) Z Z b1 Z s1) Z (Zr (h:=?_));refine xl (ye L (q:=900) Z Z b2 Z s2) Z ((ZbU∘ZP∘Zcj∘Za∘Zy∘ZbI) ?_);exact yn (x:=(j,zpc)) (j+1,swp zpc j (j-1)) ⟨by dsimp only;omega,by dsimp only;omega,by dsimp only;rw[jz];exact hE,hS⟩ G ⟨Z,Z,Z,Z,Z,Z,Z,trivial⟩
        ·rw[nc hje] at hS;refine(Ze∘ZaM∘Zb∘Za3∘Zax∘ZP∘Z9∘Zy∘ZbI) ?_;exact yn (x:=((k,i0),D)) ((k+1,i),zpc) ⟨by dsimp only;omega,by dsimp only;omega,by dsimp only;omega,hE,by dsimp only;rw[hs',hS];exact hL⟩ G ⟨Z,Z,Z,Z,Z,Z,trivial⟩
      ·rw[nc h2b] at hL;refine(Zf∘Zem∘Zas∘Za6∘Zad∘ZP∘Z9∘Zy∘ZbI) ?_;exact yn (x:=((k,i0),D)) ((k+1,i),zpe) ⟨by dsimp only;omega,by dsimp only;omega,by dsimp only;omega,hG,by dsimp only;rw[hs'];exact hL⟩ G ⟨Z,Z,Z,Z,Z,Z,trivial⟩
 ·obtain rfl:k=5:=by omega
  have hL':(D,false)=X:=hL;rw[<-hL'];refine(Ze∘Zp∘Za3∘ZaD∘Zdg∘Zc) ?_;exact xv L 900 (r:=yz b _ tyU) (rs:=[.tmp 6]) Z (fun _ _ h=>h) nq Z Z (fun _=>rfl)
def _root_.ZeV(t:Wr Y->A:=by intro h;refine Zd2 (h:=?_);refine xl (ye L (q:=900) Z Z Z Z Z) Z ?_;exact h.1)(h:Y):A:=t ⟨h⟩
abbrev tyX:TypeId:=334
def Nq{x:Nat}(hx:x<18446744073709551616)(hB:zpg B w)
  (hr:(yz b [.int .u64 x] tyX).P B w C) (hC:ZCB C w B):
  RetX zph 263 [.pointer (some ⟨b,0,none⟩)] w B C (yz b [.int .u64 (xorNextN x:Nat)] tyX) (.int .u64 (xorNextN x:Nat)):=by
 obtain⟨X1,h1⟩:∃ X1:Nat,X1=x^^^(x*8192%18446744073709551616):=⟨_,rfl⟩
 obtain⟨X2,h2⟩:∃ X2:Nat,X2=X1^^^(X1/128):=⟨_,rfl⟩
 obtain⟨X3,h3⟩:∃ X3:Nat,X3=X2^^^(X2*131072%18446744073709551616):=⟨_,rfl⟩
 have l1:X1<18446744073709551616:=by rw[h1];exact Nat.xor_lt_two_pow (n:=64) T T
 have l2:X2<18446744073709551616:=by rw[h2];exact Nat.xor_lt_two_pow (n:=64) T T
 have l3:X3<18446744073709551616:=by rw[h3];exact Nat.xor_lt_two_pow (n:=64) T T
 have hv:xorNextN x=X3:=by unfold xorNextN;simp only[];rw[<-h1,<-h2,<-h3]
 have s1:IntKind.u64.wrap ((x:Int)*2^min (13:Int).toNat IntKind.u64.bits)=((x*8192%18446744073709551616:Nat):Int):=by
  rw[IntKind.wrap_u64,show((2:Int)^min (13:Int).toNat IntKind.u64.bits)=8192 from by decide];omega
 have s2:(X1:Int).fdiv (2^min (7:Int).toNat IntKind.u64.bits)=((X1/128:Nat):Int):=by
  rw[show((2:Int)^min (7:Int).toNat IntKind.u64.bits)=128 from by decide,zn9 _ T];omega
 have s3:IntKind.u64.wrap ((X2:Int)*2^min (17:Int).toNat IntKind.u64.bits)=((X2*131072%18446744073709551616:Nat):Int):=by
  rw[IntKind.wrap_u64,show((2:Int)^min (17:Int).toNat IntKind.u64.bits)=131072 from by decide];omega
 have x1:bits .xor .u64 (x:Int) ((x*8192%18446744073709551616:Nat):Int)=(X1:Int):=by rw[bits_xor_u64_nat _ _ hx T,h1]
 have x2:bits .xor .u64 (X1:Int) ((X1/128:Nat):Int)=(X2:Int):=by rw[bits_xor_u64_nat _ _ l1 T,h2]
 have x3:bits .xor .u64 (X2:Int) ((X2*131072%18446744073709551616:Nat):Int)=(X3:Int):=by rw[bits_xor_u64_nat _ _ l2 T,h3]
 rw[hv];clear hv h1 h2 h3;unfold RetX;refine yr 900 (yz b [.int .u64 x] tyX) Tryz.func263 Z Tryz.ntmps263 (np Z) hB hr hC ?_;rw[xa];refine(ZB∘Zd) ?_;refine qg (id:=1) [(200005,[900]),(200008,[900]),(100011,[900])] mixed J ((Zj∘Zd2∘ZcN∘Zj∘Zd2∘ZcN) ?_);refine z8 (Nk Z Z Z Z E s1) Z (z8 (Sv Z Z Z Z x1) Z ((ZeV∘ZaJ) ?_));refine qg (id:=2) [(200014,[900]),(200017,[900]),(100020,[900])] mixed J ((Zj∘Zd2∘ZcN∘Zj∘Zd2∘ZcN) ?_);refine z8 (zb7 Z Z Z Z E s2) Z (z8 (Sv Z Z Z Z x2) Z ((ZeV∘ZaJ) ?_));refine qg (id:=3) [(200023,[900]),(200026,[900]),(100029,[900])] mixed J ((Zj∘Zd2∘ZcN∘Zj∘Zd2∘ZcN) ?_);refine z8 (Nk Z Z Z Z E s3) Z (z8 (Sv Z Z Z Z x3) Z ((ZeV∘ZaJ∘Z9∘Zet∘ZeR∘Zc) ?_));exact xv L 900 (r:=yz b _ tyX) (rs:=[.tmp 2]) Z (fun _ _ h=>h) nq Z Z (fun _=>rfl)
def _root_.ZbR(t:Wr Y->A:=by exact fun h=>(ZcE∘Zdu) h.1)(h:Y):A:=t ⟨h⟩
def _root_.Zfl(t:Wr Y->A:=by intro h;refine qg (id:=10) [(200058,[900]),(200062,[900]),(100063,[900]),(100064,[900])] mixed J ?_;refine Zm (h:=?_);exact h.1)(h:Y):A:=t ⟨h⟩
def Bu(hn:n<18446744073709551616)(hB:zpg B w):Ret zph 169 [.int .u64 n] w B (fun v _=>v=.int .i64 (bitsLen n)):=by
 refine yh Tryz.func169 Z Tryz.ntmps169 (np Z) hB ((ZB∘Zd∘Zee∘Zal∘Zo) ?_);refine z71 L Z (fun u H hH _=>Ret.of_same hH (Tryz.bits_Len64 (n:Int) u T T)) ?_;refine Zc (h:=?_);refine yg1 L [.tmp 2] fun u H hH hle=>?_;rw[zlp,bitLen_eq n hn];rfl
def Y4(hn:n<=100000)(hB:zpg B w):Ret zph 262 [.int .i64 n] w B (fun v _=>v=.int .u64 (1<<<bitsLen n:Nat)):=by
 have hb:bitsLen n<=17:=(bitsLen_le_iff n 17).2 T;have hp2:(2:Nat)^bitsLen n<=2^17:=zoo T hb
 have hmin:min ((bitsLen n:Nat):Int).toNat IntKind.u64.bits=bitsLen n:=by
  rw[zlp];have:IntKind.u64.bits=64:=E;omega
 have s1:IntKind.u64.wrap ((1:Int)*2^min ((bitsLen n:Nat):Int).toNat IntKind.u64.bits)=((1<<<bitsLen n:Nat):Int):=by
  rw[hmin,zok,Nat.one_mul,Int.one_mul,Int.natCast_pow];have e2:((2:Nat):Int)^bitsLen n=((2^bitsLen n:Nat):Int):=(Int.natCast_pow 2 _).symm;rw[show((2:Int)^bitsLen n)=((2:Nat):Int)^bitsLen n from rfl,e2];have hp3:2^bitsLen n<=131072:=hp2;clear hp2 hmin e2;generalize 2^bitsLen n=zpd at *;exact wrap_u64 T T
 have hc:IntKind.u64.wrap (n:Int)=(n:Int):=wrap_u64 T T;refine yh Tryz.func262 Z Tryz.ntmps262 (np Z) hB ((Z0∘Za) ?_);refine z7 (kg Z Z Z jr.1 jr.2 (wrap_u64 T T)) Z (z71 L Z (fun u H hH _=>Bu T hH) ?_);refine z7 (Nk Z Z Z Z T s1) Z (Zc (h:=?_));exact yg2 L [.tmp 2]
def ze6{cap:Nat}(hab:a<=e)(he:e<=d.size)(hm:d.size=m)(hm1:m<=100000)(hB:zpg B w)
  (hr:(yz b (uC d++rest) tyU).P B w C) (hC:ZCB C w B):
  ki zph 273 [.slice (some ⟨b,0,none⟩) m cap,.int .i64 a,.int .i64 e] w B C (yz b (uC (breakPatterns d a e)++rest) tyU):=by
 unfold ki;refine yr 900 (yz b (uC d++rest) tyU) Tryz.func273 Z Tryz.ntmps273 (np Z) hB hr hC ?_;rw[xa];obtain⟨Ln,rfl⟩:∃ Ln,e=a+Ln:=⟨e-a,by omega⟩
 have hw0:IntKind.i64.wrap (((a+Ln:Nat):Int)-(a:Int))=(Ln:Int):=yy T T |>.trans T;by_cases h8:8<=Ln
 ·have hX:=breakPatterns_eq d a Ln h8;obtain⟨zpd,hM⟩:∃ zpd,zpd=1<<<bitsLen Ln:=⟨_,rfl⟩
  have hb17:bitsLen Ln<=17:=(bitsLen_le_iff Ln 17).2 T
  have hMp:1<=zpd/\zpd<=131072:=by
   rw[hM,zok,Nat.one_mul];exact⟨Nat.one_le_two_pow,zoo T hb17⟩
  have hM2:zpd<=2*Ln:=by
   rw[hM,zok,Nat.one_mul];exact two_pow_bitsLen_le T
  obtain⟨I0,hI0⟩:∃ I0,I0=a+Ln/4*2-1:=⟨_,rfl⟩
  rw[<-hM,<-hI0] at hX;have hc1:IntKind.u64.wrap (Ln:Int)=(Ln:Int):=wrap_u64 T T
  have et:((Ln:Nat):Int).tdiv 4=((Ln/4:Nat):Int):=by
   rw[zoc T];omega
  have hq:IntKind.i64.wrap (((Ln:Nat):Int).tdiv 4)=((Ln/4:Nat):Int):=by rw[et];exact yy T T
  have hw1:IntKind.i64.wrap (((Ln/4:Nat):Int)*2)=((Ln/4*2:Nat):Int):=yy T T |>.trans T;have hw2:IntKind.i64.wrap ((a:Int)+((Ln/4*2:Nat):Int))=((a+Ln/4*2:Nat):Int):=yy T T |>.trans T;have hw3:IntKind.i64.wrap (((a+Ln/4*2:Nat):Int)-1)=(I0:Int):=yy T T |>.trans T;have hw4:IntKind.i64.wrap (((a+Ln/4*2:Nat):Int)+1)=((I0+2:Nat):Int):=yy T T |>.trans T;have hM1:IntKind.u64.wrap ((zpd:Int)-1)=((zpd-1:Nat):Int):=wrap_u64 T T |>.trans T
  have hln:(UInt64.ofNat Ln).toNat=Ln:=by
   rw[UInt64.toNat_ofNat'];exact zov T
  refine(ZB∘Zas∘Zbv∘Zcg∘Zu∘Zo) ?_;refine z7 (kg Z Z Z U7.1 U7.2 (wrap_u64 T T)) Z (Zbx (h:=?_));refine kz 7 901 rfl fun br=>?_;refine Zp (h:=?_);refine z71 L Z (fun u H hH _=>hM ▸ Y4 (n:=Ln) T hH) ?_;refine(Zd∘Zcb∘ZbR∘Zar∘ZaR) ?_;refine xm (fun s:Nat×(UInt64×Array Int)=>[(0,.is (.slice (some ⟨b,0,none⟩) m cap)),(1,.is (.int .i64 a)),(6,.is (.int .i64 Ln)),(7,.is (.pointer (some ⟨br,0,none⟩))),(8,.is (.int .u64 zpd)),(9,.is (.int .i64 (I0+s.1:Nat))),(900,.own (xk b (uC s.2.2++rest) tyU)),(901,.own (xk br [.int .u64 s.2.1.toNat] tyX))]) (fun s=>s.1<=3/\s.2.2.size=m/\bpRest a Ln zpd I0 (3-s.1) s.1 s.2=breakPatterns d a (a+Ln)) (fun s=>3-s.1) (0,(UInt64.ofNat Ln,d)) ⟨by dsimp only;omega,hm,hX.symm⟩ ⟨Z,Z,Z,Z,Z,Z,Z,by dsimp only;rw[hln];rfl,trivial⟩ ?_;rintro⟨t,⟨r,D⟩⟩ ⟨ht3,hD,hst⟩;dsimp only at ht3 hD hst |-;have hrl:r.toNat<18446744073709551616:=UInt64.toNat_lt r;by_cases ht:t<3
  ·obtain⟨o1,ho1⟩:∃ o1,o1=xorNextN r.toNat &&& (zpd-1):=⟨_,rfl⟩
   have ho1l:o1<=zpd-1:=by rw[ho1];exact Nat.and_le_right
   have hand:bits .and .u64 ((xorNextN r.toNat:Nat):Int) ((zpd-1:Nat):Int)=(o1:Int):=by rw[bits_and_u64_nat _ _ (xorNextN_lt _ hrl) T,ho1]
   have hcv:IntKind.i64.wrap (o1:Int)=(o1:Int):=yy T T;have hwt:IntKind.i64.wrap (((I0+t:Nat):Int)+1)=((I0+(t+1):Nat):Int):=yy T T |>.trans T;by_cases hoL:Ln<=o1
   ·have hw5:IntKind.i64.wrap ((o1:Int)-(Ln:Int))=((o1-Ln:Nat):Int):=yy T T |>.trans T;have hw6:IntKind.i64.wrap ((a:Int)+((o1-Ln:Nat):Int))=((a+(o1-Ln):Nat):Int):=yy T T;have ho:(if (xorNext r).toNat &&& (zpd-1)>=Ln then ((xorNext r).toNat &&& (zpd-1))-Ln else (xorNext r).toNat &&& (zpd-1))=o1-Ln:=by rw[xorNext_toNat,<-ho1,na hoL]
    obtain⟨_,qj⟩:=ux (rest:=rest) (show a+(o1-Ln)<D.size by omega) (0+(a+(o1-Ln))*1) rfl;obtain⟨_,qi⟩:=ux (rest:=rest) (show I0+t<D.size by omega) (0+(I0+t)*1) rfl;have s1:=ve (rest:=rest) D[a+(o1-Ln)]! (show I0+t<D.size by omega) (0+(I0+t)*1) rfl;have b1:=vg (rest:=rest) (show I0+t<D.size by omega) (0+(I0+t)*1) rfl;have hz:a+(o1-Ln)<(D.setIfInBounds (I0+t) D[a+(o1-Ln)]!).size:=by rw[zls];omega
    have s2:=ve (rest:=rest) D[I0+t]! hz (0+(a+(o1-Ln))*1) rfl;have b2:=vg (rest:=rest) hz (0+(a+(o1-Ln))*1) rfl;rw[u9] at s2;refine(Ze∘ZE∘ZF∘ZbR∘Zy∘ZcC∘ZD∘Zbl∘ZK) ?_;refine zy (y7 L 901 (yz br [.int .u64 (xorNextN r.toNat:Nat)] tyX) (.int .u64 (xorNextN r.toNat:Nat)) (r:=yz br [.int .u64 r.toNat] tyX) Z Z Z Z Z (fun u H C hH _ hr hC=>Nq hrl hH hr hC)) ((Za∘Zar) ?_);refine z7 (Tj Z Z Z Z hand) Z (z7 (kg Z Z Z js.1 js.2 (yy T T)) Z ((Zi∘ZC∘Zb∘ZbK∘Zat∘Zas∘Zc∘Zfl∘Zcq∘ZbF) ?_));refine qn (qb L (q:=900) Z Z Z qj) Z Z (Z5 (h:=?_));refine qn (qb L (q:=900) Z Z Z qi) Z Z (Zr (h:=?_));refine xl (ye L (q:=900) Z Z b1 Z s1) Z (Zr (h:=?_));refine xl (ye L (q:=900) Z Z b2 Z s2) Z ((ZbU∘ZP∘ZL∘Zy∘ZbI) ?_);exact yn (x:=(t,(r,D))) (t+1,(xorNext r,swp D (I0+t) (a+(o1-Ln)))) ⟨by dsimp only;omega,by dsimp only;rw[jz];exact hD,by dsimp only;rw[<-hst,bp_step a Ln zpd I0 t r D ((o1-Ln)) ht ho]⟩ G ⟨Z,Z,Z,Z,Z,Z,Z,by dsimp only;rw[xorNext_toNat];rfl,trivial⟩
   ·have hw6:IntKind.i64.wrap ((a:Int)+(o1:Int))=((a+o1:Nat):Int):=yy T T;have ho:(if (xorNext r).toNat &&& (zpd-1)>=Ln then ((xorNext r).toNat &&& (zpd-1))-Ln else (xorNext r).toNat &&& (zpd-1))=o1:=by rw[xorNext_toNat,<-ho1,nc T]
    obtain⟨_,qj⟩:=ux (rest:=rest) (show a+o1<D.size by omega) (0+(a+o1)*1) rfl;obtain⟨_,qi⟩:=ux (rest:=rest) (show I0+t<D.size by omega) (0+(I0+t)*1) rfl;have s1:=ve (rest:=rest) D[a+o1]! (show I0+t<D.size by omega) (0+(I0+t)*1) rfl;have b1:=vg (rest:=rest) (show I0+t<D.size by omega) (0+(I0+t)*1) rfl;have hz:a+o1<(D.setIfInBounds (I0+t) D[a+o1]!).size:=by rw[zls];omega
    have s2:=ve (rest:=rest) D[I0+t]! hz (0+(a+o1)*1) rfl;have b2:=vg (rest:=rest) hz (0+(a+o1)*1) rfl;rw[u9] at s2;refine(Ze∘ZE∘ZF∘ZbR∘Zy∘ZcC∘ZD∘Zbl∘ZK) ?_;refine zy (y7 L 901 (yz br [.int .u64 (xorNextN r.toNat:Nat)] tyX) (.int .u64 (xorNextN r.toNat:Nat)) (r:=yz br [.int .u64 r.toNat] tyX) Z Z Z Z Z (fun u H C hH _ hr hC=>Nq hrl hH hr hC)) ((Za∘Zar) ?_);refine z7 (Tj Z Z Z Z hand) Z (z7 (kg Z Z Z js.1 js.2 (yy T T)) Z ((Zi∘ZC∘Zb∘Za6∘ZZ∘Zch∘Zfl∘Zcq∘ZbF) ?_));refine qn (qb L (q:=900) Z Z Z qj) Z Z (Z5 (h:=?_));refine qn (qb L (q:=900) Z Z Z qi) Z Z (Zr (h:=?_));refine xl (ye L (q:=900) Z Z b1 Z s1) Z (Zr (h:=?_));refine xl (ye L (q:=900) Z Z b2 Z s2) Z ((ZbU∘ZP∘ZL∘Zy∘ZbI) ?_);exact yn (x:=(t,(r,D))) (t+1,(xorNext r,swp D (I0+t) (a+o1))) ⟨by dsimp only;omega,by dsimp only;rw[jz];exact hD,by dsimp only;rw[<-hst,bp_step a Ln zpd I0 t r D (o1) ht ho]⟩ G ⟨Z,Z,Z,Z,Z,Z,Z,by dsimp only;rw[xorNext_toNat];rfl,trivial⟩
  ·obtain rfl:t=3:=by omega
   have hst':D=breakPatterns d a (a+Ln):=hst;rw[hst'];refine(Ze∘ZE∘ZF∘ZbR∘Zy∘ZcB∘ZZ∘Zax) ?_;exact xo L 900 (r:=yz b _ tyU) Z (fun _ _ h=>h) nq Z Z
 ·have:breakPatterns d a (a+Ln)=d:=by unfold breakPatterns;simp only[Nat.add_sub_cancel_left];rw[if_neg T]
  rw[this];refine(ZB∘Zas∘Zbv∘Za6∘Zad) ?_;exact xo L 900 (r:=yz b _ tyU) Z (fun _ _ h=>h) nq Z Z
def _root_.ZeA(t:Wr Y->A:=by intro h;refine z8 (S9 L (qh Z M) Z Z Z M) Z ?_;exact h.1)(h:Y):A:=t ⟨h⟩
abbrev tyI:TypeId:=3
def zfv(h:j<d.size):(uC d++rest)[0+j*1]?=some (.int .u64 d[j]!):=by
 rw[zlb,zmh,zl2 (by rw[Ac];exact h)];exact zby h
def Eg{b m cap a e bs k:Nat}(ha:a<m)(he:e<m)(hm:d.size=m)(hm1:m<=100000)(hk:k<=1000)(hB:zpg B w)(hb:B b=some (.cells (uC d++rest).toArray tyU))
  (hr:(yz bs [.int .i64 k] tyI).P B w C) (hC:ZCB C w B):
  RetX zph 294 [.slice (some ⟨b,0,none⟩) m cap,.int .i64 a,.int .i64 e,.pointer (some ⟨bs,0,none⟩)] w B C (yz bs [.int .i64 (order2 lt d a e k).2.2] tyI) (.tuple #[.int .i64 (order2 lt d a e k).1,.int .i64 (order2 lt d a e k).2.1]):=by
 unfold RetX;refine yr 900 (yz bs [.int .i64 k] tyI) Tryz.func294 Z Tryz.ntmps294 (np Z) hB hr hC ?_;rw[xa];have g1:=zfv (rest:=rest) (show a<d.size by omega);have g2:=zfv (rest:=rest) (show e<d.size by omega);have hw:IntKind.i64.wrap ((k:Int)+1)=((k+1:Nat):Int):=yy T T;unfold order2
 cases hc:lt d[e]! d[a]! with
 | true=>
  refine(ZB∘Za8∘Zc0∘Z5∘ZeA∘Z5∘ZeA) ?_;refine z81 L Z (fun u H hH _=>jm hc hH) ?_;refine(Zb4∘Zf∘Zo∘Zet∘ZeR∘Zy∘Zet) ?_;refine xh (ye L (q:=900) Z Z Z Z Z) ((Zg∘Zbi∘ZM) ?_);exact xv L 900 (r:=yz bs _ tyI) (rs:=[.tmp 8,.tmp 9]) Z (fun _ _ h=>h) nq Z Z (fun _=>rfl)
 | false=>
  refine(ZB∘Za8∘Zc0∘Z5∘ZeA∘Z5∘ZeA) ?_;refine z81 L Z (fun u H hH _=>jm hc hH) ?_;refine(Zaz∘Zal∘Zcb∘ZM) ?_;exact xv L 900 (r:=yz bs _ tyI) (rs:=[.tmp 8,.tmp 9]) Z (fun _ _ h=>h) nq Z Z (fun _=>rfl)
def A3(d:Array Int)(ha:a<m)(he:e<m):(order2 lt d a e k).1<m/\(order2 lt d a e k).2.1<m/\(order2 lt d a e k).2.2<=k+1:=by
 unfold order2;split
 ·exact⟨he,ha,ns _⟩
 ·exact⟨ha,he,zl1 _⟩
def ey{cap x y z bs:Nat}(hx:x<m)(hy:y<m)(hz:z<m)(hm:d.size=m)(hm1:m<=100000)(hk:k<=900)(hB:zpg B w)(hb:B b=some (.cells (uC d++rest).toArray tyU))
  (hr:(yz bs [.int .i64 k] tyI).P B w C) (hC:ZCB C w B):
  RetX zph 290 [.slice (some ⟨b,0,none⟩) m cap,.int .i64 x,.int .i64 y,.int .i64 z,.pointer (some ⟨bs,0,none⟩)] w B C (yz bs [.int .i64 (median lt d x y z k).2] tyI) (.int .i64 (median lt d x y z k).1):=by
 unfold RetX;refine yr 900 (yz bs [.int .i64 k] tyI) Tryz.func290 Z Tryz.ntmps290 (np Z) hB hr hC ?_;rw[xa];unfold median;dsimp only;obtain⟨r1,hr1⟩:∃ r,r=order2 lt d x y k:=⟨_,rfl⟩
 rw[<-hr1];obtain⟨r2,hr2⟩:∃ r,r=order2 lt d r1.2.1 z r1.2.2:=⟨_,rfl⟩
 rw[<-hr2];obtain⟨r3,hr3⟩:∃ r,r=order2 lt d r1.1 r2.1 r2.2.2:=⟨_,rfl⟩
 rw[<-hr3];obtain⟨a1,a2,a3⟩:=hr1 ▸ A3 d (k:=k) hx hy;obtain⟨b1,b2,b3⟩:=hr2 ▸ A3 d (k:=r1.2.2) a2 hz;refine(Z0∘ZaI) ?_;refine zy (y7 L 900 (yz bs [.int .i64 r1.2.2] tyI) (.tuple #[.int .i64 r1.1,.int .i64 r1.2.1]) (r:=yz bs [.int .i64 k] tyI) Z Z Z Z Z (fun u H C hH hle hr hC=>by have h:=Eg (rest:=rest) (cap:=cap) hx hy hm hm1 (k:=k) T hH (hle _ _ hb) hr hC;rw[<-hr1] at h;exact h)) ?_;refine(Zcd∘Zx∘ZaI) ?_;refine zy (y7 L 900 (yz bs [.int .i64 r2.2.2] tyI) (.tuple #[.int .i64 r2.1,.int .i64 r2.2.1]) (r:=yz bs [.int .i64 r1.2.2] tyI) Z Z Z Z Z (fun u H C hH hle hr hC=>by have h:=Eg (rest:=rest) (cap:=cap) a2 hz hm hm1 (k:=r1.2.2) T hH (hle _ _ hb) hr hC;rw[<-hr2] at h;exact h)) ?_;refine(Zcd∘ZI∘ZaI) ?_;refine zy (y7 L 900 (yz bs [.int .i64 r3.2.2] tyI) (.tuple #[.int .i64 r3.1,.int .i64 r3.2.1]) (r:=yz bs [.int .i64 r2.2.2] tyI) Z Z Z Z Z (fun u H C hH hle hr hC=>by have h:=Eg (rest:=rest) (cap:=cap) a1 b1 hm hm1 (k:=r2.2.2) T hH (hle _ _ hb) hr hC;rw[<-hr3] at h;exact h)) ?_;refine(Zcd∘Z9∘Zc) ?_;exact xv L 900 (r:=yz bs _ tyI) (rs:=[.tmp 10]) Z (fun _ _ h=>h) nq Z Z (fun _=>rfl)
def T2(d:Array Int){x y z:Nat}(hx:x<m)(hy:y<m)(hz:z<m):(median lt d x y z k).1<m/\(median lt d x y z k).2<=k+3:=by
 unfold median;dsimp only;obtain⟨a1,a2,a3⟩:=A3 d (k:=k) hx hy;obtain⟨b1,b2,b3⟩:=A3 d (k:=(order2 lt d x y k).2.2) a2 hz;obtain⟨c1,c2,c3⟩:=A3 d (k:=(order2 lt d (order2 lt d x y k).2.1 z (order2 lt d x y k).2.2).2.2) a1 b1;exact⟨c2,by omega⟩
def pd{cap x bs:Nat}(h1:1<=x)(hx:x+1<m)(hm:d.size=m)(hm1:m<=100000)(hk:k<=900)(hB:zpg B w)(hb:B b=some (.cells (uC d++rest).toArray tyU))
  (hr:(yz bs [.int .i64 k] tyI).P B w C) (hC:ZCB C w B):
  RetX zph 289 [.slice (some ⟨b,0,none⟩) m cap,.int .i64 x,.pointer (some ⟨bs,0,none⟩)] w B C (yz bs [.int .i64 (medianAdjacent lt d x k).2] tyI) (.int .i64 (medianAdjacent lt d x k).1):=by
 unfold RetX;refine yr 900 (yz bs [.int .i64 k] tyI) Tryz.func289 Z Tryz.ntmps289 (np Z) hB hr hC ?_;rw[xa];unfold medianAdjacent;have hw1:IntKind.i64.wrap ((x:Int)-1)=((x-1:Nat):Int):=yy T T |>.trans T;have hw2:IntKind.i64.wrap ((x:Int)+1)=((x+1:Nat):Int):=yy T T;refine(Z0∘Zas∘Zb∘Zy∘Za) ?_;refine zy (y7 L 900 (yz bs [.int .i64 (median lt d (x-1) x (x+1) k).2] tyI) (.int .i64 (median lt d (x-1) x (x+1) k).1) (r:=yz bs [.int .i64 k] tyI) Z Z Z Z Z (fun u H C hH hle hr hC=>ey (rest:=rest) (cap:=cap) T T T hm hm1 hk hH (hle _ _ hb) hr hC)) (Zc (h:=?_));exact xv L 900 (r:=yz bs _ tyI) (rs:=[.tmp 6]) Z (fun _ _ h=>h) nq Z Z (fun _=>rfl)
def _root_.Zd8(t:Wr Y->A:=by intro h;refine qz (qb L (q:=901) Z Z Z Z) ?_;exact h.1)(h:Y):A:=t ⟨h⟩
def Ew:Hint->Int
 | .unknown=>0
 | .increasing=>1
 | .decreasing=>2
def zdr{cap:Nat}(h12:12<e-a)(he:e<=m)(hm:d.size=m)(hm1:m<=100000)(hB:zpg B w)(hb:B b=some (.cells (uC d++rest).toArray tyU)):
  Ret zph 274 [.slice (some ⟨b,0,none⟩) m cap,.int .i64 a,.int .i64 e] w B (fun v _=>v=.tuple #[.int .i64 (choosePivot lt d a e).1,.int .i64 (Ew (choosePivot lt d a e).2)]):=by
 obtain⟨Ln,rfl⟩:∃ Ln,e=a+Ln:=⟨e-a,by omega⟩
 rw[zo6] at h12;unfold choosePivot;rw[zo6];dsimp only;obtain⟨q,hq⟩:∃ q,q=Ln/4:=⟨_,rfl⟩
 rw[<-hq,na T];have hw0:IntKind.i64.wrap (((a+Ln:Nat):Int)-(a:Int))=(Ln:Int):=yy T T |>.trans T
 have et:((Ln:Nat):Int).tdiv 4=(q:Int):=by
  rw[zoc T];omega
 have hq1:IntKind.i64.wrap (((Ln:Nat):Int).tdiv 4)=(q:Int):=by rw[et];exact yy T T
 have m1:IntKind.i64.wrap ((q:Int)*1)=((q*1:Nat):Int):=yy T T |>.trans T;have m2:IntKind.i64.wrap ((q:Int)*2)=((q*2:Nat):Int):=yy T T |>.trans T;have m3:IntKind.i64.wrap ((q:Int)*3)=((q*3:Nat):Int):=yy T T |>.trans T;have p1:IntKind.i64.wrap ((a:Int)+((q*1:Nat):Int))=((a+q*1:Nat):Int):=yy T T |>.trans T;have p2:IntKind.i64.wrap ((a:Int)+((q*2:Nat):Int))=((a+q*2:Nat):Int):=yy T T |>.trans T;have p3:IntKind.i64.wrap ((a:Int)+((q*3:Nat):Int))=((a+q*3:Nat):Int):=yy T T |>.trans T;refine yh Tryz.func274 Z Tryz.ntmps274 (np Z) hB ((ZbH∘Zaf∘Zas∘Zd∘Zx∘Z2∘Zg) ?_);refine kz 9 901 rfl fun bs=>?_;by_cases h50:Ln>=50
 ·rw[na h50];obtain⟨r1,hr1⟩:∃ r,r=medianAdjacent lt d (a+q*1) 0:=⟨_,rfl⟩
  rw[<-hr1];obtain⟨r2,hr2⟩:∃ r,r=medianAdjacent lt d (a+q*2) r1.2:=⟨_,rfl⟩
  rw[<-hr2];obtain⟨r3,hr3⟩:∃ r,r=medianAdjacent lt d (a+q*3) r2.2:=⟨_,rfl⟩
  rw[<-hr3];obtain⟨r4,hr4⟩:∃ r,r=median lt d r1.1 r2.1 r3.1 r3.2:=⟨_,rfl⟩
  rw[<-hr4];obtain⟨l1,s1⟩:r1.1<m/\r1.2<=0+3:=hr1 ▸ T2 d T T T;obtain⟨l2,s2⟩:r2.1<m/\r2.2<=r1.2+3:=hr2 ▸ T2 d T T T;obtain⟨l3,s3⟩:r3.1<m/\r3.2<=r2.2+3:=hr3 ▸ T2 d T T T;by_cases z0:r4.2=0
  ·rw[na z0];refine(Zbi∘ZbR∘Zd∘Zcb∘ZbR∘Zd∘ZE∘Zb∘ZbR∘Zi∘ZL∘ZbK∘Ze∘Z8∘Zcg∘Zu∘ZC∘Zb) ?_;refine zy (y7 L 901 (yz bs [.int .i64 r1.2] tyI) (.int .i64 r1.1) (r:=yz bs [.int .i64 0] tyI) Z Z Z Z Z (fun u H C hH hle hr hC=>by have h:=pd (rest:=rest) (cap:=cap) (d:=d) (x:=a+q*1) (k:=0) T T hm hm1 T hH (hle _ _ hb) hr hC;rw[<-hr1] at h;exact h)) ?_;refine(Zd∘ZbP) ?_;refine zy (y7 L 901 (yz bs [.int .i64 r2.2] tyI) (.int .i64 r2.1) (r:=yz bs [.int .i64 r1.2] tyI) Z Z Z Z Z (fun u H C hH hle hr hC=>by have h:=pd (rest:=rest) (cap:=cap) (d:=d) (x:=a+q*2) (k:=r1.2) T T hm hm1 T hH (hle _ _ hb) hr hC;rw[<-hr2] at h;exact h)) ?_;refine(Zc∘ZA∘Zb) ?_;refine zy (y7 L 901 (yz bs [.int .i64 r3.2] tyI) (.int .i64 r3.1) (r:=yz bs [.int .i64 r2.2] tyI) Z Z Z Z Z (fun u H C hH hle hr hC=>by have h:=pd (rest:=rest) (cap:=cap) (d:=d) (x:=a+q*3) (k:=r2.2) T T hm hm1 T hH (hle _ _ hb) hr hC;rw[<-hr3] at h;exact h)) ?_;refine(Zc∘ZV∘ZaI) ?_;refine zy (y7 L 901 (yz bs [.int .i64 r4.2] tyI) (.int .i64 r4.1) (r:=yz bs [.int .i64 r3.2] tyI) Z Z Z Z Z (fun u H C hH hle hr hC=>by have h:=ey (rest:=rest) (cap:=cap) (d:=d) (x:=r1.1) (y:=r2.1) (z:=r3.1) (k:=r3.2) T T T hm hm1 T hH (hle _ _ hb) hr hC;rw[<-hr4] at h;exact h)) ?_;refine(Zd∘ZW∘Zd8∘Zs∘Z6∘Zbo∘ZG∘ZbM∘Zf∘Za0∘Za∘ZM) ?_;exact yg2 L [.tmp 6,.tmp 7]
  ·rw[nc z0];by_cases z12:r4.2=12
   ·rw[na z12];refine(Zbi∘ZbR∘Zd∘Zcb∘ZbR∘Zd∘ZE∘Zb∘ZbR∘Zi∘ZL∘ZbK∘Ze∘Z8∘Zcg∘Zu∘ZC∘Zb) ?_;refine zy (y7 L 901 (yz bs [.int .i64 r1.2] tyI) (.int .i64 r1.1) (r:=yz bs [.int .i64 0] tyI) Z Z Z Z Z (fun u H C hH hle hr hC=>by have h:=pd (rest:=rest) (cap:=cap) (d:=d) (x:=a+q*1) (k:=0) T T hm hm1 T hH (hle _ _ hb) hr hC;rw[<-hr1] at h;exact h)) ?_;refine(Zd∘ZbP) ?_;refine zy (y7 L 901 (yz bs [.int .i64 r2.2] tyI) (.int .i64 r2.1) (r:=yz bs [.int .i64 r1.2] tyI) Z Z Z Z Z (fun u H C hH hle hr hC=>by have h:=pd (rest:=rest) (cap:=cap) (d:=d) (x:=a+q*2) (k:=r1.2) T T hm hm1 T hH (hle _ _ hb) hr hC;rw[<-hr2] at h;exact h)) ?_;refine(Zc∘ZA∘Zb) ?_;refine zy (y7 L 901 (yz bs [.int .i64 r3.2] tyI) (.int .i64 r3.1) (r:=yz bs [.int .i64 r2.2] tyI) Z Z Z Z Z (fun u H C hH hle hr hC=>by have h:=pd (rest:=rest) (cap:=cap) (d:=d) (x:=a+q*3) (k:=r2.2) T T hm hm1 T hH (hle _ _ hb) hr hC;rw[<-hr3] at h;exact h)) ?_;refine(Zc∘ZV∘ZaI) ?_;refine zy (y7 L 901 (yz bs [.int .i64 r4.2] tyI) (.int .i64 r4.1) (r:=yz bs [.int .i64 r3.2] tyI) Z Z Z Z Z (fun u H C hH hle hr hC=>by have h:=ey (rest:=rest) (cap:=cap) (d:=d) (x:=r1.1) (y:=r2.1) (z:=r3.1) (k:=r3.2) T T T hm hm1 T hH (hle _ _ hb) hr hC;rw[<-hr4] at h;exact h)) ?_;refine(Zd∘ZW∘Zd8∘Zs∘Z6∘Zbo∘Zq∘Zan∘Zap∘ZG∘ZbM∘Zf∘Zb8∘Za∘ZM) ?_;exact yg2 L [.tmp 6,.tmp 7]
   ·rw[nc z12];refine(Zbi∘ZbR∘Zd∘Zcb∘ZbR∘Zd∘ZE∘Zb∘ZbR∘Zi∘ZL∘ZbK∘Ze∘Z8∘Zcg∘Zu∘ZC∘Zb) ?_;refine zy (y7 L 901 (yz bs [.int .i64 r1.2] tyI) (.int .i64 r1.1) (r:=yz bs [.int .i64 0] tyI) Z Z Z Z Z (fun u H C hH hle hr hC=>by have h:=pd (rest:=rest) (cap:=cap) (d:=d) (x:=a+q*1) (k:=0) T T hm hm1 T hH (hle _ _ hb) hr hC;rw[<-hr1] at h;exact h)) ?_;refine(Zd∘ZbP) ?_;refine zy (y7 L 901 (yz bs [.int .i64 r2.2] tyI) (.int .i64 r2.1) (r:=yz bs [.int .i64 r1.2] tyI) Z Z Z Z Z (fun u H C hH hle hr hC=>by have h:=pd (rest:=rest) (cap:=cap) (d:=d) (x:=a+q*2) (k:=r1.2) T T hm hm1 T hH (hle _ _ hb) hr hC;rw[<-hr2] at h;exact h)) ?_;refine(Zc∘ZA∘Zb) ?_;refine zy (y7 L 901 (yz bs [.int .i64 r3.2] tyI) (.int .i64 r3.1) (r:=yz bs [.int .i64 r2.2] tyI) Z Z Z Z Z (fun u H C hH hle hr hC=>by have h:=pd (rest:=rest) (cap:=cap) (d:=d) (x:=a+q*3) (k:=r2.2) T T hm hm1 T hH (hle _ _ hb) hr hC;rw[<-hr3] at h;exact h)) ?_;refine(Zc∘ZV∘ZaI) ?_;refine zy (y7 L 901 (yz bs [.int .i64 r4.2] tyI) (.int .i64 r4.1) (r:=yz bs [.int .i64 r3.2] tyI) Z Z Z Z Z (fun u H C hH hle hr hC=>by have h:=ey (rest:=rest) (cap:=cap) (d:=d) (x:=r1.1) (y:=r2.1) (z:=r3.1) (k:=r3.2) T T T hm hm1 T hH (hle _ _ hb) hr hC;rw[<-hr4] at h;exact h)) ?_;refine(Zd∘ZW∘Zd8∘Zs∘Z6∘Zbo∘Zq∘Zan∘Zap∘Zq∘Zan∘ZX∘Za∘ZM) ?_;exact yg2 L [.tmp 6,.tmp 7]
 ·rw[nc h50];obtain⟨r4,hr4⟩:∃ r,r=median lt d (a+q*1) (a+q*2) (a+q*3) 0:=⟨_,rfl⟩
  rw[<-hr4];by_cases z0:r4.2=0
  ·rw[na z0];refine(Zbi∘ZbR∘Zd∘Zcb∘ZbR∘Zd∘ZE∘Zb∘ZbR∘Zi∘ZL∘ZbK∘Ze∘Z8∘Za6∘ZZ∘Zch∘ZV∘ZaI) ?_;refine zy (y7 L 901 (yz bs [.int .i64 r4.2] tyI) (.int .i64 r4.1) (r:=yz bs [.int .i64 0] tyI) Z Z Z Z Z (fun u H C hH hle hr hC=>by have h:=ey (rest:=rest) (cap:=cap) (d:=d) (x:=a+q*1) (y:=a+q*2) (z:=a+q*3) (k:=0) T T T hm hm1 T hH (hle _ _ hb) hr hC;rw[<-hr4] at h;exact h)) ?_;refine(Zd∘ZW∘Zd8∘Zs∘Z6∘Zbo∘ZG∘ZbM∘Zf∘Za0∘Za∘ZM) ?_;exact yg2 L [.tmp 6,.tmp 7]
  ·rw[nc z0];by_cases z12:r4.2=12
   ·rw[na z12];refine(Zbi∘ZbR∘Zd∘Zcb∘ZbR∘Zd∘ZE∘Zb∘ZbR∘Zi∘ZL∘ZbK∘Ze∘Z8∘Za6∘ZZ∘Zch∘ZV∘ZaI) ?_;refine zy (y7 L 901 (yz bs [.int .i64 r4.2] tyI) (.int .i64 r4.1) (r:=yz bs [.int .i64 0] tyI) Z Z Z Z Z (fun u H C hH hle hr hC=>by have h:=ey (rest:=rest) (cap:=cap) (d:=d) (x:=a+q*1) (y:=a+q*2) (z:=a+q*3) (k:=0) T T T hm hm1 T hH (hle _ _ hb) hr hC;rw[<-hr4] at h;exact h)) ?_;refine(Zd∘ZW∘Zd8∘Zs∘Z6∘Zbo∘Zq∘Zan∘Zap∘ZG∘ZbM∘Zf∘Zb8∘Za∘ZM) ?_;exact yg2 L [.tmp 6,.tmp 7]
   ·rw[nc z12];refine(Zbi∘ZbR∘Zd∘Zcb∘ZbR∘Zd∘ZE∘Zb∘ZbR∘Zi∘ZL∘ZbK∘Ze∘Z8∘Za6∘ZZ∘Zch∘ZV∘ZaI) ?_;refine zy (y7 L 901 (yz bs [.int .i64 r4.2] tyI) (.int .i64 r4.1) (r:=yz bs [.int .i64 0] tyI) Z Z Z Z Z (fun u H C hH hle hr hC=>by have h:=ey (rest:=rest) (cap:=cap) (d:=d) (x:=a+q*1) (y:=a+q*2) (z:=a+q*3) (k:=0) T T T hm hm1 T hH (hle _ _ hb) hr hC;rw[<-hr4] at h;exact h)) ?_;refine(Zd∘ZW∘Zd8∘Zs∘Z6∘Zbo∘Zq∘Zan∘Zap∘Zq∘Zan∘ZX∘Za∘ZM) ?_;exact yg2 L [.tmp 6,.tmp 7]
def _root_.Zdv(t:Wr Y->A:=by intro h;refine qg (id:=17) [(200080,[900]),(200084,[900])] mixed J ?_;exact h.1)(h:Y):A:=t ⟨h⟩
def _root_.Zdw(t:Wr Y->A:=by intro h;refine zh (id:=23) ?_;exact h.1)(h:Y):A:=t ⟨h⟩
def Uq{h:Hint}:Ew h=2↔h=.decreasing:=by cases h<;>simp [Ew]
def zef{cs:List Value}:∀ v H u C,(xk b cs ty).P v H u C->joinH H u C b=some (.cells cs.toArray ty):=fun _ _ _ _ ⟨hb,hC⟩=>(cj ((hC b).2 rfl)).trans hb
def zdw:∀ (N:Nat) {d:Array Int} {rest:List Value} {b m cap a e lim:Nat} (_:e-a<N) (_:a<=e) (_:e<=m) (_:d.size=m) (_:m<=100000) (_:lim<=1000) (_:Below lt a e d) {w:World} {B:Heap} {C:Nat->Prop} (_:zpg B w)
  (_:(yz b (uC d++rest) tyU).P B w C) (_:ZCB C w B),
  ki zph 247 [.slice (some ⟨b,0,none⟩) m cap,.int .i64 a,.int .i64 e,.int .i64 lim] w B C (yz b (uC (pdq lt d a e lim true true)++rest) tyU):=by
 intro N
 induction N with
 | zero=>intro d rest b m cap a e lim h;omega
 | succ N ih=>
 intro d rest b m cap a e lim hN hab he hm hm1 hlim hBel w B C hB hr hC;unfold ki;refine yr 900 (yz b (uC d++rest) tyU) Tryz.func247 Z Tryz.ntmps247 (np Z) hB hr hC ?_;rw[xa];obtain⟨X,hX⟩:∃ X,X=pdq lt d a e lim true true:=⟨_,rfl⟩
 rw[<-hX];refine(Z0∘ZaR) ?_
 refine xm (fun s:((Nat×Nat)×Nat)×((Bool×Bool)×Array Int)=>[(0,.is (.slice (some ⟨b,0,none⟩) m cap)),(1,.is (.int .i64 s.1.1.1)),(2,.is (.int .i64 s.1.1.2)),(3,.is (.int .i64 s.1.2)),(8,.is (.bool s.2.1.1)),(9,.is (.bool s.2.1.2)),(900,.own (xk b (uC s.2.2++rest) tyU))])
  (fun s=>s.1.1.1<=s.1.1.2/\s.1.1.2<=m/\s.1.1.2-s.1.1.1<=e-a/\s.1.2<=1000/\s.2.2.size=m/\Below lt s.1.1.1 s.1.1.2 s.2.2/\pdq lt s.2.2 s.1.1.1 s.1.1.2 s.1.2 s.2.1.1 s.2.1.2=X) (fun s=>s.1.1.2-s.1.1.1) (((a,e),lim),((true,true),d)) ⟨hab,he,ns _,hlim,hm,hBel,hX.symm⟩ ⟨rfl,rfl,rfl,rfl,rfl,rfl,rfl,nm⟩ ?_
 rintro⟨⟨⟨x,y⟩,l⟩,⟨⟨wb,wp⟩,D⟩⟩ ⟨hxy,hy,hL,hl,hD,hBl,hP⟩;dsimp only at hxy hy hL hl hD hBl hP |-;clear hX hBel hm;have hw0:IntKind.i64.wrap ((y:Int)-(x:Int))=((y-x:Nat):Int):=yy T T |>.trans T;by_cases h12:y-x<=12
 ·rw[pdq_small h12] at hP;rw[<-hP];refine(Z6∘Zx∘Zas∘Zi∘Zp∘ZcC∘Zu∘ZS∘ZF) ?_;refine zy (yq L 900 (yz b (uC (insertionSort lt D x y)++rest) tyU) (r:=yz b (uC D++rest) tyU) Z Z Z Z Z (fun u H C hH _ hr hC=>ins_ret hxy T hD hm1 hH hr hC)) (Zs (h:=?_));exact k9 L 900 (r:=yz b _ tyU) Z (fun _ _ h=>h) nq Z Z
 ·by_cases hl0:l=0
  ·rw[pdq_heap h12 hl0] at hP;rw[<-hP];refine(Z6∘Zx∘Zas∘Zi∘Zp∘ZcB∘Z4∘ZT∘ZG∘Zu∘Zaw∘ZF) ?_;refine zy (yq L 900 (yz b (uC (heapSort lt D x y)++rest) tyU) (r:=yz b (uC D++rest) tyU) Z Z Z Z Z (fun u H C hH _ hr hC=>zan T T hD hm1 hH hr hC)) (Zs (h:=?_));exact k9 L 900 (r:=yz b _ tyU) Z (fun _ _ h=>h) nq Z Z
  ·obtain⟨s1,B1,hc1,s2,B2,hpv,s3,B3⟩:=rd_facts (lt:=lt) (limit:=l) (wb:=wb) (wp:=wp) swo_ltInt partialInsertionSort_holds reverseRange_holds (show x<y by omega) (show y<=D.size by omega) hBl;have hlle:(rd lt D x y l wb wp).lim<=1000:=mw rd_lim_le hl;have hdone:=fun h=>pdq_done (lt:=lt) (d:=D) (wb:=wb) (wp:=wp) h12 hl0 h;have heq:=fun h1 h2 h3=>pdq_eq (lt:=lt) (d:=D) (wb:=wb) (wp:=wp) h12 hl0 h1 h2 h3;have hleft:=fun h1 h2 h3 h4=>pdq_left (lt:=lt) (d:=D) (wb:=wb) (wp:=wp) h12 hl0 h1 h2 h3 h4;have hright:=fun h1 h2 h3 h4=>pdq_right (lt:=lt) (d:=D) (wb:=wb) (wp:=wp) h12 hl0 h1 h2 h3 h4;have hrt:wb=true->(rd lt D x y l wb wp).d1=D/\(rd lt D x y l wb wp).lim=l:=fun e=>by subst e;exact rd_true
   have hrf:wb=false->(rd lt D x y l wb wp).d1=breakPatterns D x y/\(rd lt D x y l wb wp).lim=l-1:=fun e=>by subst e;exact rd_false
   have hrc:=rd_c (lt:=lt) (d:=D) (a:=x) (b:=y) (limit:=l) (wb:=wb) (wp:=wp);have hde:=fun h=>rd_dec (lt:=lt) (d:=D) (a:=x) (b:=y) (limit:=l) (wb:=wb) (wp:=wp) h;have hno:=fun h=>rd_not (lt:=lt) (d:=D) (a:=x) (b:=y) (limit:=l) (wb:=wb) (wp:=wp) h;have hpy:=fun h=>rd_pi_yes (lt:=lt) (d:=D) (a:=x) (b:=y) (limit:=l) (wb:=wb) (wp:=wp) h;have hpn:=fun h=>rd_pi_no (lt:=lt) (d:=D) (a:=x) (b:=y) (limit:=l) (wb:=wb) (wp:=wp) h;rw[hP] at hdone heq hleft hright;generalize (rd lt D x y l wb wp)=R at *;refine(Z6∘Zx∘Zas∘Zi∘Zp∘ZcB∘Z4∘ZT∘Zq∘Z4) ?_;refine ib (fun _:Unit=>[(0,.is (.slice (some ⟨b,0,none⟩) m cap)),(1,.is (.int .i64 x)),(2,.is (.int .i64 y)),(3,.is (.int .i64 R.lim)),(8,.is (.bool wb)),(9,.is (.bool wp)),(10,.is (.int .i64 (y-x:Nat))),(900,.own (xk b (uC R.d1++rest) tyU))]) (fun _=>True) (fun _=>[]) ?rest1 ?first1
   case first1=>
    cases wb with
    | true=>
     obtain⟨e1,e2⟩:=hrt rfl;rw[e1,e2];refine(Z8∘Zt∘Zad) ?_;exact ju () nq trivial Z ⟨Z,Z,Z,Z,Z,Z,Z,Z,nm⟩
    | false=>
     obtain⟨e1,e2⟩:=hrf rfl;have hw1:IntKind.i64.wrap ((l:Int)-1)=((l-1:Nat):Int):=yy T T |>.trans T;rw[e1,e2];refine(Z8∘Zt∘Zu∘ZC∘ZF) ?_;refine zy (yq L 900 (yz b (uC (breakPatterns D x y)++rest) tyU) (r:=yz b (uC D++rest) tyU) Z Z Z Z Z (fun u H C hH _ hr hC=>ze6 T T hD hm1 hH hr hC)) ((Zs∘Zau∘Zar∘ZbI) ?_);exact ju () nq trivial Z ⟨Z,Z,Z,Z,Z,Z,Z,Z,nm⟩
   intro _ _;refine(Zf∘ZA∘ZF) ?_;refine qz (xr L 900 (Φ:=fun H=>H b=some (.cells (uC R.d1++rest).toArray tyU)) (c:=.tuple #[.int .i64 R.c.1,.int .i64 (Ew R.c.2)]) Z Z (zn Z) Z Z Z Z Z zef (fun u H hH hle h1=>by rw[hrc];exact zdr T hy T hm1 hH h1)) ?_;refine(Z1∘Za8) ?_;refine ib (fun _:Unit=>[(0,.is (.slice (some ⟨b,0,none⟩) m cap)),(1,.is (.int .i64 x)),(2,.is (.int .i64 y)),(3,.is (.int .i64 R.lim)),(8,.is (.bool wb)),(9,.is (.bool wp)),(10,.is (.int .i64 (y-x:Nat))),(11,.is (.int .i64 R.pivot)),(12,.is (.int .i64 (Ew R.hint))),(900,.own (xk b (uC R.d2++rest) tyU))]) (fun _=>True) (fun _=>[]) ?rest2 ?first2
   case first2=>
    by_cases hdec:R.c.2=.decreasing
    ·obtain⟨e1,e2,e3⟩:=hde hdec;have hz:Ew R.c.2=2:=by rw[hdec];rfl
     rw[e1,e2,e3];have w1:IntKind.i64.wrap ((y:Int)-1)=((y-1:Nat):Int):=yy T T |>.trans T;have w2:IntKind.i64.wrap ((R.c.1:Int)-(x:Int))=((R.c.1-x:Nat):Int):=yy T T |>.trans T;have w3:IntKind.i64.wrap (((y-1:Nat):Int)-((R.c.1-x:Nat):Int))=((y-1-(R.c.1-x):Nat):Int):=yy T T |>.trans T;refine(ZV∘Za∘ZG∘Zu∘ZW∘ZF) ?_;refine zy (yq L 900 (yz b (uC (reverseRange R.d1 x y)++rest) tyU) (r:=yz b (uC R.d1++rest) tyU) Z Z Z Z Z (fun u H C hH _ hr hC=>zdn T T T hm1 hH hr hC)) ((Zg∘ZX∘Za∘Zar∘Zas∘Zar∘Zc∘Zbo∘ZbI) ?_);exact ju () nq trivial Z ⟨Z,Z,Z,Z,Z,Z,Z,Z,Z,Z,nm⟩
    ·obtain⟨e1,e2,e3⟩:=hno hdec;have hz:Ew R.c.2≠2:=fun h=>hdec (Uq.1 h);rw[e1,e2,e3];refine(ZV∘Za∘Zq∘Zad) ?_;exact ju () nq trivial Z ⟨Z,Z,Z,Z,Z,Z,Z,Z,Z,Z,nm⟩
   intro _ _;refine zj (zj (ib (fun _:Unit=>[(0,.is (.slice (some ⟨b,0,none⟩) m cap)),(1,.is (.int .i64 x)),(2,.is (.int .i64 y)),(3,.is (.int .i64 R.lim)),(8,.is (.bool wb)),(9,.is (.bool wp)),(10,.is (.int .i64 (y-x:Nat))),(11,.is (.int .i64 R.pivot)),(900,.own (xk b (uC R.pi.1++rest) tyU))]) (fun _=>R.pi.2=false) (fun _=>[]) ?rest3 ?first3))
   case first3=>
    cases wb with
    | false=>
     have hpi:=hpn rfl;rw[hpi];refine(Za0∘Zb∘Zdh∘ZaF∘Zl∘Zad) ?_;exact ju () nq Z Z ⟨Z,Z,Z,Z,Z,Z,Z,Z,Z,nm⟩
    | true=>
     cases wp with
     | false=>
      have hpi:=hpn rfl;rw[hpi];refine(Za0∘ZF∘Zl∘ZaF∘Zl∘Zad) ?_;exact ju () nq Z Z ⟨Z,Z,Z,Z,Z,Z,Z,Z,Z,nm⟩
     | true=>
      by_cases hi:R.hint=.increasing
      ·have hz:Ew R.hint=1:=by rw[hi];rfl
       have hpi:=hpy (by rw[hi];rfl)
       cases hb:(partialInsertionSort lt R.d2 x y).2 with
       | true=>
        rw[hdone (by rw[hpi];exact hb)];refine(Za0∘ZF∘Zl∘Zb∘ZG∘ZbS∘Zap∘ZF) ?_;refine zy (y7 L 900 (yz b (uC R.pi.1++rest) tyU) (.bool true) (r:=yz b (uC R.d2++rest) tyU) Z Z Z Z Z (fun u H C hH hle hr hC=>by have h:=pins_ret (rest:=rest) (cap:=cap) (d:=R.d2) (a:=x) (e:=y) (m:=m) T T T hm1 hH hr hC;rw[hb,<-hpi] at h;exact h)) ?_;refine ZD (h:=?_);exact k9 L 900 (r:=yz b _ tyU) Z (fun _ _ h=>h) nq Z Z
       | false=>
        refine(Za0∘ZF∘Zl∘Zb∘ZG∘ZbS∘Zap∘ZF) ?_;refine zy (y7 L 900 (yz b (uC R.pi.1++rest) tyU) (.bool false) (r:=yz b (uC R.d2++rest) tyU) Z Z Z Z Z (fun u H C hH hle hr hC=>by have h:=pins_ret (rest:=rest) (cap:=cap) (d:=R.d2) (a:=x) (e:=y) (m:=m) T T T hm1 hH hr hC;rw[hb,<-hpi] at h;exact h)) ?_;refine Zad (h:=?_);exact ju () nq (by rw[hpi];exact hb) Z ⟨Z,Z,Z,Z,Z,Z,Z,Z,Z,nm⟩
      ·have hz:Ew R.hint≠1:=fun h=>by
        cases hh:R.hint with
        | unknown=>rw[hh] at h;cases h
        | increasing=>exact hi hh
        | decreasing=>rw[hh] at h;cases h
       have hpi:=hpn (by simp [hi]);rw[hpi];refine(Za0∘ZF∘Zl∘Zb∘Zq∘Zl∘Zad) ?_;exact ju () nq Z Z ⟨Z,Z,Z,Z,Z,Z,Z,Z,Z,nm⟩
   intro _ h2;obtain⟨_,q2⟩:=ux (rest:=rest) (show R.pivot<R.pi.1.size by omega) (0+(R.pivot)*1) rfl;by_cases hx0:0<x
   ·obtain⟨_,q1⟩:=ux (rest:=rest) (show x-1<R.pi.1.size by omega) (0+(x-1)*1) rfl;have hw3:IntKind.i64.wrap ((x:Int)-1)=((x-1:Nat):Int):=yy T T |>.trans T
    cases hc:lt R.pi.1[x-1]! R.pi.1[R.pivot]! with
    | false=>
     obtain⟨mid,d4,hx⟩:∃ mid d4,partitionEqual lt R.pi.1 x y R.pivot=(mid,d4):=⟨_,_,rfl⟩
     obtain⟨g1,g2,g3,g4,_⟩:=round_eq swo_ltInt (partitionEqual_holds lt) hx0 hpv.1 hpv.2 T B3 hc hx;have hn:=heq h2 (by simp [hx0,hc]) (by rw[hx];exact⟨g1,g2⟩);rw[hx] at hn;refine(Ze∘Zdv∘Zj∘Zdf∘ZaV∘Zc9∘Zr) ?_;refine qn (qb L (q:=900) Z Z Z q1) Z Z (Z5 (h:=?_));refine qn (qb L (q:=900) Z Z Z q2) Z Z (z81 L Z (fun u H hH _=>jm hc hH) ?_);refine(Za7∘Zca∘Zf∘Zem∘ZaI) ?_;refine zy (y7 L 900 (yz b (uC d4++rest) tyU) (.int .i64 mid) (r:=yz b (uC R.pi.1++rest) tyU) Z Z Z Z Z (fun u H C hH hle hr hC=>by have h:=zdv (rest:=rest) (cap:=cap) (d:=R.pi.1) hpv.1 hpv.2 T (m:=m) T hm1 hH hr hC;rw[hx] at h;exact h)) ?_;refine(Zd∘Zcx∘Za∘Zc∘Zef∘ZcZ) ?_;exact yn (x:=(((x,y),l),((wb,wp),D))) (((mid,y),R.lim),((wb,wp),d4)) ⟨by dsimp only;omega,hy,by dsimp only;omega,hlle,by dsimp only;omega,g4,hn.symm⟩ G ⟨Z,Z,Z,Z,Z,Z,Z,trivial⟩
    | true=>
     have h2b:(decide (x>0) && !lt R.pi.1[x-1]! R.pi.1[R.pivot]!)=false:=by simp [hc]
     obtain⟨mid,ap,d4,hx⟩:∃ mid ap d4,Go.Sort.partition lt R.pi.1 x y R.pivot=(mid,ap,d4):=⟨_,_,_,rfl⟩
     obtain⟨g1,g2,g3,g4,g5,gL,gR⟩:=round_part swo_ltInt (partition_holds lt) hpv.1 hpv.2 T B3 hx;have w1:IntKind.i64.wrap ((mid:Int)-(x:Int))=((mid-x:Nat):Int):=yy T T |>.trans T;have w2:IntKind.i64.wrap ((y:Int)-(mid:Int))=((y-mid:Nat):Int):=yy T T |>.trans T;have w4:IntKind.i64.wrap ((mid:Int)+1)=((mid+1:Nat):Int):=yy T T
     have et:((y-x:Nat):Int).tdiv 8=(((y-x)/8:Nat):Int):=by
      rw[zoc T];omega
     have w3:IntKind.i64.wrap (((y-x:Nat):Int).tdiv 8)=(((y-x)/8:Nat):Int):=by rw[et];exact yy T T
     by_cases hlr:mid-x<y-mid
     ·have hn:=hleft h2 h2b (by rw[hx];exact⟨g1,g2⟩) (by rw[hx];exact hlr);rw[hx] at hn;dsimp only at hn;obtain⟨pL,sL⟩:=pdq_sorts lt swo_ltInt d4 x mid R.lim true true g1 T g4;obtain⟨LL,hLL⟩:∃ LL,LL=pdq lt d4 x mid R.lim true true:=⟨_,rfl⟩
      rw[<-hLL] at hn pL sL;obtain⟨gB,_⟩:=gL LL pL sL;have hLs:LL.size=d4.size:=pL.1;by_cases h8:mid-x>=(y-x)/8
      ·rw[nf h8] at hn;refine(Ze∘Zdv∘Zj∘Zdf∘ZaV∘Zc9∘Zr) ?_;refine qn (qb L (q:=900) Z Z Z q1) Z Z (Z5 (h:=?_));refine qn (qb L (q:=900) Z Z Z q2) Z Z (z81 L Z (fun u H hH _=>jm hc hH) ?_);refine(Za7∘Zaq∘Zal∘ZaM∘ZaI) ?_;refine zy (y7 L 900 (yz b (uC d4++rest) tyU) (.tuple #[.int .i64 mid,.bool ap]) (r:=yz b (uC R.pi.1++rest) tyU) Z Z Z Z Z (fun u H C hH hle hr hC=>by have h:=lw (rest:=rest) (cap:=cap) (d:=R.pi.1) hpv.1 hpv.2 T (m:=m) T hm1 hH hr hC;rw[hx] at h;exact h)) ?_;refine(Zcd∘Zcj∘Za∘Zd∘ZcD∘Zas∘Zas∘ZaH∘Zdw∘Za∘ZcE∘Zd∘Zdg∘Zb∘Zab∘Zu) ?_;refine zh (id:=25) ((Zb∘Zcg∘Zd) ?_);refine zh (id:=26) (ZaI (h:=?_));refine zy (yq L 900 (yz b (uC LL++rest) tyU) (r:=yz b (uC d4++rest) tyU) Z Z Z Z Z (fun u H C hH _ hr hC=>by rw[hLL];exact ih T g1 T T hm1 hlle g4 hH hr hC)) ?_;refine Zs (h:=?_);refine zh (id:=27) ((Za∘Zy∘ZU) ?_);exact yn (x:=(((x,y),l),((wb,wp),D))) (((mid+1,y),R.lim),((true,ap),LL)) ⟨by dsimp only;omega,hy,by dsimp only;omega,hlle,by dsimp only;omega,gB,hn.symm⟩ G ⟨Z,Z,Z,Z,Z,Z,Z,trivial⟩
      ·rw[ng h8] at hn;refine(Ze∘Zdv∘Zj∘Zdf∘ZaV∘Zc9∘Zr) ?_;refine qn (qb L (q:=900) Z Z Z q1) Z Z (Z5 (h:=?_));refine qn (qb L (q:=900) Z Z Z q2) Z Z (z81 L Z (fun u H hH _=>jm hc hH) ?_);refine(Za7∘Zaq∘Zal∘ZaM∘ZaI) ?_;refine zy (y7 L 900 (yz b (uC d4++rest) tyU) (.tuple #[.int .i64 mid,.bool ap]) (r:=yz b (uC R.pi.1++rest) tyU) Z Z Z Z Z (fun u H C hH hle hr hC=>by have h:=lw (rest:=rest) (cap:=cap) (d:=R.pi.1) hpv.1 hpv.2 T (m:=m) T hm1 hH hr hC;rw[hx] at h;exact h)) ?_;refine(Zcd∘Zcj∘Za∘Zd∘ZcD∘Zas∘Zas∘ZaH∘Zdw∘Za∘ZcE∘Zd∘Zdg∘Zb∘Zab∘Zu) ?_;refine zh (id:=25) ((Zb∘Za6∘Zd) ?_);refine zh (id:=26) (ZaI (h:=?_));refine zy (yq L 900 (yz b (uC LL++rest) tyU) (r:=yz b (uC d4++rest) tyU) Z Z Z Z Z (fun u H C hH _ hr hC=>by rw[hLL];exact ih T g1 T T hm1 hlle g4 hH hr hC)) ?_;refine Zs (h:=?_);refine zh (id:=27) ((Za∘Zy∘ZU) ?_);exact yn (x:=(((x,y),l),((wb,wp),D))) (((mid+1,y),R.lim),((false,ap),LL)) ⟨by dsimp only;omega,hy,by dsimp only;omega,hlle,by dsimp only;omega,gB,hn.symm⟩ G ⟨Z,Z,Z,Z,Z,Z,Z,trivial⟩
     ·have hn:=hright h2 h2b (by rw[hx];exact⟨g1,g2⟩) (by rw[hx];exact hlr);rw[hx] at hn;dsimp only at hn;obtain⟨pL,sL⟩:=pdq_sorts lt swo_ltInt d4 (mid+1) y R.lim true true T T g5;obtain⟨LL,hLL⟩:∃ LL,LL=pdq lt d4 (mid+1) y R.lim true true:=⟨_,rfl⟩
      rw[<-hLL] at hn pL sL;obtain⟨gB,_⟩:=gR LL pL sL;have hLs:LL.size=d4.size:=pL.1;by_cases h8:y-mid>=(y-x)/8
      ·rw[nf h8] at hn;refine(Ze∘Zdv∘Zj∘Zdf∘ZaV∘Zc9∘Zr) ?_;refine qn (qb L (q:=900) Z Z Z q1) Z Z (Z5 (h:=?_));refine qn (qb L (q:=900) Z Z Z q2) Z Z (z81 L Z (fun u H hH _=>jm hc hH) ?_);refine(Za7∘Zaq∘Zal∘ZaM∘ZaI) ?_;refine zy (y7 L 900 (yz b (uC d4++rest) tyU) (.tuple #[.int .i64 mid,.bool ap]) (r:=yz b (uC R.pi.1++rest) tyU) Z Z Z Z Z (fun u H C hH hle hr hC=>by have h:=lw (rest:=rest) (cap:=cap) (d:=R.pi.1) hpv.1 hpv.2 T (m:=m) T hm1 hH hr hC;rw[hx] at h;exact h)) ?_;refine(Zcd∘Zcj∘Za∘Zd∘ZcD∘Zas∘Zas∘ZaH∘Zdw∘Za∘ZcE∘Zd∘Zdg∘Zb∘Za3∘Zf) ?_;refine zh (id:=28) ((Zb∘Zcg∘Zd) ?_);refine zh (id:=29) ((Zb∘Zy∘Zb) ?_);refine zy (yq L 900 (yz b (uC LL++rest) tyU) (r:=yz b (uC d4++rest) tyU) Z Z Z Z Z (fun u H C hH _ hr hC=>by rw[hLL];exact ih T T hy T hm1 hlle g5 hH hr hC)) ?_;refine Zs (h:=?_);refine zh (id:=30) ((Za∘ZU) ?_);exact yn (x:=(((x,y),l),((wb,wp),D))) (((x,mid),R.lim),((true,ap),LL)) ⟨by dsimp only;omega,by dsimp only;omega,by dsimp only;omega,hlle,by dsimp only;omega,gB,hn.symm⟩ G ⟨Z,Z,Z,Z,Z,Z,Z,trivial⟩
      ·rw[ng h8] at hn;refine(Ze∘Zdv∘Zj∘Zdf∘ZaV∘Zc9∘Zr) ?_;refine qn (qb L (q:=900) Z Z Z q1) Z Z (Z5 (h:=?_));refine qn (qb L (q:=900) Z Z Z q2) Z Z (z81 L Z (fun u H hH _=>jm hc hH) ?_);refine(Za7∘Zaq∘Zal∘ZaM∘ZaI) ?_;refine zy (y7 L 900 (yz b (uC d4++rest) tyU) (.tuple #[.int .i64 mid,.bool ap]) (r:=yz b (uC R.pi.1++rest) tyU) Z Z Z Z Z (fun u H C hH hle hr hC=>by have h:=lw (rest:=rest) (cap:=cap) (d:=R.pi.1) hpv.1 hpv.2 T (m:=m) T hm1 hH hr hC;rw[hx] at h;exact h)) ?_;refine(Zcd∘Zcj∘Za∘Zd∘ZcD∘Zas∘Zas∘ZaH∘Zdw∘Za∘ZcE∘Zd∘Zdg∘Zb∘Za3∘Zf) ?_;refine zh (id:=28) ((Zb∘Za6∘Zd) ?_);refine zh (id:=29) ((Zb∘Zy∘Zb) ?_);refine zy (yq L 900 (yz b (uC LL++rest) tyU) (r:=yz b (uC d4++rest) tyU) Z Z Z Z Z (fun u H C hH _ hr hC=>by rw[hLL];exact ih T T hy T hm1 hlle g5 hH hr hC)) ?_;refine Zs (h:=?_);refine zh (id:=30) ((Za∘ZU) ?_);exact yn (x:=(((x,y),l),((wb,wp),D))) (((x,mid),R.lim),((false,ap),LL)) ⟨by dsimp only;omega,by dsimp only;omega,by dsimp only;omega,hlle,by dsimp only;omega,gB,hn.symm⟩ G ⟨Z,Z,Z,Z,Z,Z,Z,trivial⟩
   ·have h2b:(decide (x>0) && !lt R.pi.1[x-1]! R.pi.1[R.pivot]!)=false:=by simp [hx0]
    obtain⟨mid,ap,d4,hx⟩:∃ mid ap d4,Go.Sort.partition lt R.pi.1 x y R.pivot=(mid,ap,d4):=⟨_,_,_,rfl⟩
    obtain⟨g1,g2,g3,g4,g5,gL,gR⟩:=round_part swo_ltInt (partition_holds lt) hpv.1 hpv.2 T B3 hx;have w1:IntKind.i64.wrap ((mid:Int)-(x:Int))=((mid-x:Nat):Int):=yy T T |>.trans T;have w2:IntKind.i64.wrap ((y:Int)-(mid:Int))=((y-mid:Nat):Int):=yy T T |>.trans T;have w4:IntKind.i64.wrap ((mid:Int)+1)=((mid+1:Nat):Int):=yy T T
    have et:((y-x:Nat):Int).tdiv 8=(((y-x)/8:Nat):Int):=by
     rw[zoc T];omega
    have w3:IntKind.i64.wrap (((y-x:Nat):Int).tdiv 8)=(((y-x)/8:Nat):Int):=by rw[et];exact yy T T
    by_cases hlr:mid-x<y-mid
    ·have hn:=hleft h2 h2b (by rw[hx];exact⟨g1,g2⟩) (by rw[hx];exact hlr);rw[hx] at hn;dsimp only at hn;obtain⟨pL,sL⟩:=pdq_sorts lt swo_ltInt d4 x mid R.lim true true g1 T g4;obtain⟨LL,hLL⟩:∃ LL,LL=pdq lt d4 x mid R.lim true true:=⟨_,rfl⟩
     rw[<-hLL] at hn pL sL;obtain⟨gB,_⟩:=gL LL pL sL;have hLs:LL.size=d4.size:=pL.1;by_cases h8:mid-x>=(y-x)/8
     ·rw[nf h8] at hn;refine(Ze∘Zdv∘Zj∘ZcP∘Zb7∘Zby∘ZbL∘Zaq∘Zal∘ZaM∘ZaI) ?_;refine zy (y7 L 900 (yz b (uC d4++rest) tyU) (.tuple #[.int .i64 mid,.bool ap]) (r:=yz b (uC R.pi.1++rest) tyU) Z Z Z Z Z (fun u H C hH hle hr hC=>by have h:=lw (rest:=rest) (cap:=cap) (d:=R.pi.1) hpv.1 hpv.2 T (m:=m) T hm1 hH hr hC;rw[hx] at h;exact h)) ?_;refine(Zcd∘Zcj∘Za∘Zd∘ZcD∘Zas∘Zas∘ZaH∘Zdw∘Za∘ZcE∘Zd∘Zdg∘Zb∘Zab∘Zu) ?_;refine zh (id:=25) ((Zb∘Zcg∘Zd) ?_);refine zh (id:=26) (ZaI (h:=?_));refine zy (yq L 900 (yz b (uC LL++rest) tyU) (r:=yz b (uC d4++rest) tyU) Z Z Z Z Z (fun u H C hH _ hr hC=>by rw[hLL];exact ih T g1 T T hm1 hlle g4 hH hr hC)) ?_;refine Zs (h:=?_);refine zh (id:=27) ((Za∘Zy∘ZU) ?_);exact yn (x:=(((x,y),l),((wb,wp),D))) (((mid+1,y),R.lim),((true,ap),LL)) ⟨by dsimp only;omega,hy,by dsimp only;omega,hlle,by dsimp only;omega,gB,hn.symm⟩ G ⟨Z,Z,Z,Z,Z,Z,Z,trivial⟩
     ·rw[ng h8] at hn;refine(Ze∘Zdv∘Zj∘ZcP∘Zb7∘Zby∘ZbL∘Zaq∘Zal∘ZaM∘ZaI) ?_;refine zy (y7 L 900 (yz b (uC d4++rest) tyU) (.tuple #[.int .i64 mid,.bool ap]) (r:=yz b (uC R.pi.1++rest) tyU) Z Z Z Z Z (fun u H C hH hle hr hC=>by have h:=lw (rest:=rest) (cap:=cap) (d:=R.pi.1) hpv.1 hpv.2 T (m:=m) T hm1 hH hr hC;rw[hx] at h;exact h)) ?_;refine(Zcd∘Zcj∘Za∘Zd∘ZcD∘Zas∘Zas∘ZaH∘Zdw∘Za∘ZcE∘Zd∘Zdg∘Zb∘Zab∘Zu) ?_;refine zh (id:=25) ((Zb∘Za6∘Zd) ?_);refine zh (id:=26) (ZaI (h:=?_));refine zy (yq L 900 (yz b (uC LL++rest) tyU) (r:=yz b (uC d4++rest) tyU) Z Z Z Z Z (fun u H C hH _ hr hC=>by rw[hLL];exact ih T g1 T T hm1 hlle g4 hH hr hC)) ?_;refine Zs (h:=?_);refine zh (id:=27) ((Za∘Zy∘ZU) ?_);exact yn (x:=(((x,y),l),((wb,wp),D))) (((mid+1,y),R.lim),((false,ap),LL)) ⟨by dsimp only;omega,hy,by dsimp only;omega,hlle,by dsimp only;omega,gB,hn.symm⟩ G ⟨Z,Z,Z,Z,Z,Z,Z,trivial⟩
    ·have hn:=hright h2 h2b (by rw[hx];exact⟨g1,g2⟩) (by rw[hx];exact hlr);rw[hx] at hn;dsimp only at hn;obtain⟨pL,sL⟩:=pdq_sorts lt swo_ltInt d4 (mid+1) y R.lim true true T T g5;obtain⟨LL,hLL⟩:∃ LL,LL=pdq lt d4 (mid+1) y R.lim true true:=⟨_,rfl⟩
     rw[<-hLL] at hn pL sL;obtain⟨gB,_⟩:=gR LL pL sL;have hLs:LL.size=d4.size:=pL.1;by_cases h8:y-mid>=(y-x)/8
     ·rw[nf h8] at hn;refine(Ze∘Zdv∘Zj∘ZcP∘Zb7∘Zby∘ZbL∘Zaq∘Zal∘ZaM∘ZaI) ?_;refine zy (y7 L 900 (yz b (uC d4++rest) tyU) (.tuple #[.int .i64 mid,.bool ap]) (r:=yz b (uC R.pi.1++rest) tyU) Z Z Z Z Z (fun u H C hH hle hr hC=>by have h:=lw (rest:=rest) (cap:=cap) (d:=R.pi.1) hpv.1 hpv.2 T (m:=m) T hm1 hH hr hC;rw[hx] at h;exact h)) ?_;refine(Zcd∘Zcj∘Za∘Zd∘ZcD∘Zas∘Zas∘ZaH∘Zdw∘Za∘ZcE∘Zd∘Zdg∘Zb∘Za3∘Zf) ?_;refine zh (id:=28) ((Zb∘Zcg∘Zd) ?_);refine zh (id:=29) ((Zb∘Zy∘Zb) ?_);refine zy (yq L 900 (yz b (uC LL++rest) tyU) (r:=yz b (uC d4++rest) tyU) Z Z Z Z Z (fun u H C hH _ hr hC=>by rw[hLL];exact ih T T hy T hm1 hlle g5 hH hr hC)) ?_;refine Zs (h:=?_);refine zh (id:=30) ((Za∘ZU) ?_);exact yn (x:=(((x,y),l),((wb,wp),D))) (((x,mid),R.lim),((true,ap),LL)) ⟨by dsimp only;omega,by dsimp only;omega,by dsimp only;omega,hlle,by dsimp only;omega,gB,hn.symm⟩ G ⟨Z,Z,Z,Z,Z,Z,Z,trivial⟩
     ·rw[ng h8] at hn;refine(Ze∘Zdv∘Zj∘ZcP∘Zb7∘Zby∘ZbL∘Zaq∘Zal∘ZaM∘ZaI) ?_;refine zy (y7 L 900 (yz b (uC d4++rest) tyU) (.tuple #[.int .i64 mid,.bool ap]) (r:=yz b (uC R.pi.1++rest) tyU) Z Z Z Z Z (fun u H C hH hle hr hC=>by have h:=lw (rest:=rest) (cap:=cap) (d:=R.pi.1) hpv.1 hpv.2 T (m:=m) T hm1 hH hr hC;rw[hx] at h;exact h)) ?_;refine(Zcd∘Zcj∘Za∘Zd∘ZcD∘Zas∘Zas∘ZaH∘Zdw∘Za∘ZcE∘Zd∘Zdg∘Zb∘Za3∘Zf) ?_;refine zh (id:=28) ((Zb∘Za6∘Zd) ?_);refine zh (id:=29) ((Zb∘Zy∘Zb) ?_);refine zy (yq L 900 (yz b (uC LL++rest) tyU) (r:=yz b (uC d4++rest) tyU) Z Z Z Z Z (fun u H C hH _ hr hC=>by rw[hLL];exact ih T T hy T hm1 hlle g5 hH hr hC)) ?_;refine Zs (h:=?_);refine zh (id:=30) ((Za∘ZU) ?_);exact yn (x:=(((x,y),l),((wb,wp),D))) (((x,mid),R.lim),((false,ap),LL)) ⟨by dsimp only;omega,by dsimp only;omega,by dsimp only;omega,hlle,by dsimp only;omega,gB,hn.symm⟩ G ⟨Z,Z,Z,Z,Z,Z,Z,trivial⟩
def sortU_ret{cap:Nat}(hm:d.size=m)(hm1:m<=100000)(hB:zpg B w)
  (hr:(yz b (uC d++rest) tyU).P B w C) (hC:ZCB C w B):
  ki zph 198 [.slice (some ⟨b,0,none⟩) m cap] w B C (yz b (uC (Go.Sort.sort lt d)++rest) tyU):=by
 unfold ki;refine yr 900 (yz b (uC d++rest) tyU) Tryz.func198 Z Tryz.ntmps198 (np Z) hB hr hC ?_;rw[xa];have hc:IntKind.u64.wrap (m:Int)=(m:Int):=wrap_u64 T T;have hb17:bitsLen m<=17:=(bitsLen_le_iff m 17).2 T;refine(ZB∘Za∘ZaC∘Zc∘Z3∘ZF) ?_;refine z7 (kg Z Z Z jr.1 jr.2 (wrap_u64 T T)) Z (z71 L Z (fun u H hH _=>Bu T hH) ?_);refine zy (yq L 900 (yz b (uC (Go.Sort.sort lt d)++rest) tyU) (r:=yz b (uC d++rest) tyU) Z Z Z Z Z (fun u H C hH _ hr hC=>by have h:=zdw (rest:=rest) (cap:=cap) (m:=m) (d:=d) (a:=0) (e:=m) (lim:=bitsLen m) (m+1) T T T hm hm1 T (Or.inl Z) hH hr hC;unfold Go.Sort.sort;rw[hm];exact h)) ?_;refine ZN (h:=?_);exact xo L 900 (r:=yz b _ tyU) Z (fun _ _ h=>h) nq Z Z
end Go.V.So
end
namespace Go.V.L10
def _root_.Zdq(t:Wr Y->A:=by intro h;refine z7 (yk L (vs:=[_,_]) Z Z Z Z Z ⟨_,rfl⟩) Z ?_;exact h.1)(h:Y):A:=t ⟨h⟩
def _root_.Zeb(t:Wr Y->A:=by intro h;refine z71 L Z (fun u H hH _=>So.isnanU _ hH) ?_;exact h.1)(h:Y):A:=t ⟨h⟩
def _root_.ZeW(t:Wr Y->A:=by intro h;refine z7 (StepOK.seeV (qf L (y9 Z) Z Z Z Z) M) Z ?_;exact h.1)(h:Y):A:=t ⟨h⟩
abbrev zbz:TypeId:=289
abbrev Dr:TypeId:=48
def pnc(p:Int×Int):List Value:=[.int .u64 p.1,.int .i64 p.2]
def Sm(p:Int×Int):(pnc p).length=2:=rfl
def Ar(l:List (Int×Int)):(l.flatMap pnc).all vj=true:=by
 rw[zlj];intro v hv;obtain⟨x,_,hx⟩:=List.mem_flatMap.1 hv;simp only[pnc,nz,zmw,or_false] at hx;rcases hx with rfl | rfl<;>rfl
abbrev PsV(l:List (Int×Int)):Value->Heap->Prop:=SlV zbz 2 (l.flatMap pnc) l.length false
def Px{l:List (Int×Int)}{x:Int×Int}(h:l[i]?=some x):((l.flatMap pnc).drop (i*2)).take 2=[.int .u64 x.1,.int .i64 x.2]:=ut Sm l i x h
abbrev RsV(l:List Int)(fu:Bool):Value->Heap->Prop:=SlV Dr 1 (l.map (Value.int .u64)) l.length fu
def Gq{l:List Int}(h:l[i]?=some x):((l.map (Value.int .u64)).drop (i*1)).take 1=[.int .u64 x]:=by
 rw[zmh,List.take_one];simp [List.head?_drop,h]
attribute [local irreducible] V N X VO Par StepOK Has Ret RetL RetO ki RetX Src
def cmpU_ret(a b:Int)(hB:zpg B w):Ret zph 250 [.int .u64 a,.int .u64 b] w B (fun v _=>v=.int .i64 (cP a b)):=by
 unfold cP;refine yh Tryz.func250 Z Tryz.ntmps250 (np Z) hB ?_;by_cases h:a<b
 ·rw[na h];refine(Z0∘Za∘Zeb∘Zbh∘Zeb∘Zi∘Zp∘Z4∘Z8∘Z4∘ZbP∘Zab∘Zu∘ZA∘Zc) ?_;exact yg2 L [.tmp 4]
 ·rw[nc h];by_cases h2:b<a
  ·rw[na h2];refine(Z0∘Za∘Zeb∘Zbh∘Zeb∘Zi∘Zp∘Z4∘Z8∘Z4∘ZbP∘Zac∘Z4∘ZV∘Zb∘ZO∘Zu∘ZW∘Zc) ?_;exact yg2 L [.tmp 4]
  ·rw[nc h2];refine(Z0∘Za∘Zeb∘Zbh∘Zeb∘Zi∘Zp∘Z4∘Z8∘Z4∘ZbP∘Zac∘Z4∘ZV∘Zb∘ZJ∘Zn∘ZX∘Zc) ?_;exact yg2 L [.tmp 4]
def og(a n b:Int)(hB:zpg B w):Ret zph 249 [.agg #[.int .u64 a,.int .i64 n],.int .u64 b] w B (fun v _=>v=.int .i64 (cP a b)):=by
 refine yh Tryz.func249 Z Tryz.ntmps249 (np Z) hB ((Z7∘Zaf∘Zai∘Za) ?_);refine z71 L Z (fun u H hH _=>cmpU_ret _ _ hH) ?_;refine Zc (h:=?_);exact yg2 L [.tmp 4]
abbrev BSP:Nat:=248
abbrev fvP:Value:=.func (.func 249) #[] #[]
def ze5(hz:(xc L0).length<=100000){v:Value}(hB:zpg B w)(hv:PsV (xc L0) v B):
  Ret zph BSP [v,.int .u64 r,fvP] w B (fun v _=>v=.tuple #[.int .i64 (cr cP r (kj L0):Nat),.bool (decide (r∈kj L0))]):=by
 have hs:=v8 L0;obtain⟨l,hl⟩:∃ l,l=kj L0:=⟨_,rfl⟩
 obtain⟨ps,hps⟩:∃ ps,ps=xc L0:=⟨_,rfl⟩
 have hat:∀ (i:Nat) (x:Int),l[i]?=some x->ps[i]?=some (x,(L0.count x:Int)):=fun i x h=>by subst hl hps;exact Aw h
 have hlen:ps.length=l.length:=by subst hl hps;exact ws L0
 rw[<-hl] at hs |-;rw[<-hps] at hv hz;clear hl hps;refine yh Tryz.func248 Z Tryz.ntmps248 (np Z) hB (k8 0 (PsV ps) Z nw hv ((ZbH∘Zaf∘Zh∘Zbh∘ZaH∘Zak) ?_))
 refine xm (fun s:Nat×Nat=>[(0,.sat (PsV ps)),(2,.is fvP),(1,.is (.int .u64 r)),(8,.is (.int .i64 ps.length)),(9,.is (.int .i64 s.1)),(10,.is (.int .i64 s.2))])
  (fun s=>s.1<=s.2/\s.2<=l.length/\(∀ (k:Nat) (x:Int),k<s.1->l[k]?=some x->cP x r<0)/\∀ (k:Nat) (x:Int),s.2<=k->l[k]?=some x->¬ cP x r<0) (fun s=>s.2-s.1) (0,ps.length) ⟨Nat.zero_le _,Nat.le_of_eq hlen,fun k x h=>(by cases h),fun k x h hx=>(by rw[List.getElem?_eq_none (by dsimp only at h;omega)] at hx;cases hx)⟩ ⟨rfl,rfl,rfl,rfl,rfl,rfl,trivial⟩ ?_
 rintro⟨i,j⟩ ⟨hij,hjl,hlo,hhi⟩;dsimp only at hij hjl hlo hhi |-;by_cases hlt:i<j
 ·obtain⟨h,hh⟩:∃ h,h=(i+j)/2:=⟨_,rfl⟩
  have hsh:((i:Int)+(j:Int)).fdiv (2^min (1:Int).toNat IntKind.u64.bits)=(h:Int):=by
   show((i:Int)+(j:Int)).fdiv 2=(h:Int);rw[zn9 _ E];omega
  obtain⟨y,hy⟩:=xi (show h<l.length by omega);have hc:=Px (hat h y hy);by_cases hcm:cP y r<0
  ·refine(Ze∘Zbi∘Zag∘Zcw∘Zcb∘ZaE) ?_;refine z7 (kg Z Z Z jr.1 jr.2 (wrap_u64 T T)) Z (ZcO (h:=?_));refine z7 (kg Z Z Z js.1 js.2 (yy T T)) Z ((Zbu∘Zk∘Za∘Zaa∘Zdq∘Za) ?_);refine z71 L Z (fun u H hH _=>og _ _ _ hH) ?_;refine(Zag∘ZL∘ZaE∘ZU) ?_;exact yn (x:=(i,j)) (h+1,j) ⟨by dsimp only;omega,hjl,fun k x hk hx=>ai fz hs hy hx (by dsimp only at hk;omega) hcm,hhi⟩ G ⟨Z,Z,Z,Z,Z,Z,trivial⟩
  ·refine(Ze∘Zbi∘Zag∘Zcw∘Zcb∘ZaE) ?_;refine z7 (kg Z Z Z jr.1 jr.2 (wrap_u64 T T)) Z (ZcO (h:=?_));refine z7 (kg Z Z Z js.1 js.2 (yy T T)) Z ((Zbu∘Zk∘Za∘Zaa∘Zdq∘Za) ?_);refine z71 L Z (fun u H hH _=>og _ _ _ hH) ?_;refine(Za3∘Z8∘ZU) ?_;exact yn (x:=(i,j)) (i,h) ⟨by dsimp only;omega,by dsimp only;omega,hlo,fun k x hk hx hcx=>hcm (ai fz hs hx hy hk hcx)⟩ G ⟨Z,Z,Z,Z,Z,Z,trivial⟩
 ·obtain rfl:i=j:=by omega
  rw[Lg fz hs hlo hhi hjl];by_cases hin:i<l.length
  ·obtain⟨y,hy⟩:=xi hin;have hc:=Px (hat i y hy);have hm:=zb9 fz hs hlo hy hhi;by_cases hcm:cP y r=0
   ·rw[nf (hm.2 hcm)];refine(Ze∘Zbi∘Za3∘ZaD∘ZC∘ZF∘Zab∘Zb∘Zk∘Za∘Zaa∘Zdq∘Za) ?_;refine z71 L Z (fun u H hH _=>og _ _ _ hH) ?_;refine(ZG∘Zl∘ZM) ?_;exact yg2 L [.tmp 6,.tmp 7]
   ·rw[ng fun h=>hcm (hm.1 h)];refine(Ze∘Zbi∘Za3∘ZaD∘ZC∘ZF∘Zab∘Zb∘Zk∘Za∘Zaa∘Zdq∘Za) ?_;refine z71 L Z (fun u H hH _=>og _ _ _ hH) ?_;refine(Zq∘Zl∘ZM) ?_;exact yg2 L [.tmp 6,.tmp 7]
  ·obtain rfl:i=l.length:=by omega
   rw[ng (Bb fz hlo)];refine(Ze∘Zbi∘Za3∘ZaD∘ZC∘ZF∘Zac∘ZaF∘Zbb∘Zbb∘Zbb∘Zl∘ZM) ?_;exact yg2 L [.tmp 6,.tmp 7]
abbrev pnv(s:Value)(t:Nat):Value:=.agg #[s,.int .i64 t]
def oe(hz2:(xc L0).length<=100000)(hB:zpg B w)(hv:PsV (xc L0) s B):
  Ret zph 199 [pnv s t,.int .u64 r] w B (fun v _=>v=.tuple #[.int .i64 (cr cP r (kj L0):Nat),.bool (decide (r∈kj L0))]):=by
 obtain⟨p,c,rfl⟩:=ky hv;refine yh Tryz.func199 Z Tryz.ntmps199 (np Z) hB ((Z7∘Zv∘Zaf∘Zai∘Za) ?_);refine z71 L Z (fun u H hH hle=>ze5 hz2 hH (hv.le hle)) ?_;refine(Zcu∘ZM) ?_;exact yg2 L [.tmp 4,.tmp 5]
def Av(hz:L0.length<=n):(xc L0).length<=n:=by rw[ws];exact mw (fh _) hz
def find_ret(hz:L0.length<=100000)(hB:zpg B w)(hv:PsV (xc L0) s B):
  Ret zph 199 [pnv s t,.int .u64 r] w B (fun v _=>v=.tuple #[.int .i64 (cr cP r (kj L0):Nat),.bool (decide (r∈kj L0))]):=oe (Av hz) hB hv
def C9(h:r∈kj L0):(xc L0)[cr cP r (kj L0)]?=some (r,(L0.count r:Int)):=Aw (Ld fz (v8 L0) h)
def rf(hz:(xc L0).length<=100000)(hB:zpg B w)(hv:PsV (xc L0) s B):
  Ret zph 143 [pnv s t,.int .u64 r] w B (fun v _=>v=.int .i64 (L0.count r:Nat)):=by
 obtain⟨p,c,rfl⟩:=ky hv;refine yh Tryz.func143 Z Tryz.ntmps143 (np Z) hB ?_;by_cases h:r∈kj L0
 ·have hf:decide (r∈kj L0)=true:=nf h;have hp:=C9 h;have hlt:=get_lt hp;have hc:=Px hp;refine(Z7∘Zah∘Za1∘Za) ?_;refine z71 L Z (fun u H hH hle=>hf ▸ oe (t:=t) hz hH (hv.le hle)) ?_;refine(Zcd∘Zo∘Zu∘ZI∘ZQ∘ZeW∘Za∘Zaa∘Ze3∘Zcy∘Zc) ?_;exact yg2 L [.tmp 4]
 ·have hf:decide (r∈kj L0)=false:=ng h;have hc0:L0.count r=0:=zon.2 fun hm=>h (jl.2 hm);rw[hc0];refine(Z7∘Zah∘Za1∘Za) ?_;refine z71 L Z (fun u H hH hle=>hf ▸ oe (t:=t) hz hH (hv.le hle)) ?_;refine(Zcd∘Zo∘Zn∘ZS∘Zc) ?_;exact yg2 L [.tmp 4]
def count_ret(hz:L0.length<=100000)(hB:zpg B w)(hv:PsV (xc L0) s B):
  Ret zph 143 [pnv s t,.int .u64 r] w B (fun v _=>v=.int .i64 (L0.count r:Nat)):=rf (Av hz) hB hv
def Vi{l:List Int}(hB:zpg B w)(hv:RsV l fu v B):Ret zph 197 [v] w B (RsV l true):=by
 refine yh Tryz.func197 Z Tryz.ntmps197 (np Z) hB (k8 0 (RsV l fu) Z nw hv ((Z0∘Zk∘Zh∘Zh∘Zdk∘ZR∘Zs) ?_));refine yg1 L [.tmp 2] fun u H hH hle=>?_;exact fun v hv=>hv
def zdl{l:List Int}:some (Kn.own (SlR Dr 1 (l.length+1) (l.map (Value.int .u64)++[.int .u64 x])))=some (Kn.own (SlR Dr 1 (l++[x]).length ((l++[x]).map (Value.int .u64)))):=by
 rw[zli,nr];rfl
set_option maxRecDepth 10000 in
def zao{L0 R:List Int}{t keep:Nat}(hz:L0.length<=100000)(hR:R.length<=100000)(hkp:keep<=100000){s v:Value}(hB:zpg B w)(hv:PsV (xc L0) s B)(hr:RsV R fu v B):
  Ret zph 140 [pnv s t,v,.int .i64 keep] w B (RsV (cu L0 R keep) true):=by
 obtain⟨p,c,rfl⟩:=ky hv;obtain⟨n1,hn1⟩:∃ n1,n1=R.length-keep:=⟨_,rfl⟩
 have hmx:(if (0:Int)>(keep:Int) then (0:Int) else (keep:Int))=(keep:Int):=nc T;have hmn:(if (R.length:Int)<(keep:Int) then (R.length:Int) else (keep:Int))=(min R.length keep:Nat):=by split<;>omega
 have hsub:IntKind.i64.wrap ((R.length:Int)-(min R.length keep:Nat))=(n1:Int):=yy T T |>.trans T;have hys:((R.map (Value.int .u64)).drop (0*1)).take ((n1-0)*1)=(R.take n1).map (Value.int .u64):=by simp
 obtain⟨g,hg⟩:∃ g,g=R.take n1:=⟨_,rfl⟩
 have hgl:g.length=n1:=by rw[hg,mi];omega
 have hgo:cu L0 R keep=g.filter fun r=>decide (L0.count r=0):=by unfold cu;rw[hg,hn1]
 rw[<-hg] at hys;rw[hgo];clear hg hgo;refine yh Tryz.func140 Z Tryz.ntmps140 (np Z) hB (k8 1 (RsV R fu) Z nw hr ((Z7∘Zaf∘Zi) ?_));refine gh 7 Dr 1 rfl ((Zx∘Zk∘Zh∘Za) ?_);refine z7 (Gv Z Z Z Z M) Z (Zh (h:=?_));refine z7 (S6 Z Z Z Z M) Z (Zar (h:=?_));refine z7 (jj L (kl:=.i64) (pl:=0) (km:=.i64) (pm:=0) 0 _ false Z Z Z Z Z Z ⟨rfl,rfl⟩ (fun h=>by cases h) T T M) Z ?_;refine(ZcL∘Zbt) ?_;refine zbs 19 (RsV g false) Z SlV.mono (fun v H h=>by unfold RsV;rw[hgl];exact h) ?_
 refine xm (fun y:Nat×List Int=>[(3,.sat (At [.slice p (xc L0).length c,.int .i64 t] 224 0)),(7,.own (SlR Dr 1 y.2.length (y.2.map (Value.int .u64)))),(19,.sat (RsV g false)),(20,.is (.int .i64 n1)),(21,.is (.int .i64 y.1))])
  (fun y=>y.1<=g.length/\y.2=(g.take y.1).filter fun r=>decide (L0.count r=0)) (fun y=>g.length-y.1) (0,[]) ⟨mf _,rfl⟩ ⟨rfl,rfl,rfl,rfl,rfl,nm⟩ ?_
 rintro⟨k,out⟩ ⟨hk,hout⟩;dsimp only at hk hout |-;have hol:out.length<=k:=by rw[hout];exact mw (zm9 ..) (by rw[mi];omega)
 by_cases hlt:k<g.length
 ·obtain⟨x,hx⟩:=xi hlt;have hc:=Gq hx;have htk:=v7 hx;have hwk:IntKind.i64.wrap ((k:Int)+1)=((k+1:Nat):Int):=yy T T;by_cases h0:L0.count x=0
  ·have ho:out++[x]=(g.take (k+1)).filter fun r=>decide (L0.count r=0):=by rw[htk,zni,<-hout];simp [h0]
   refine(Zbn∘Zz∘ZS∘Zaa∘Zcy∘Zd∘ZE∘Za1∘Za) ?_;refine z71 L Z (fun u H hH hle=>count_ret hz hH (hv.le hle)) ?_;refine(ZG∘ZD∘Zaw) ?_;refine zy (yo (.inl Z) Z) ((Za∘Zae) ?_);refine zy (wn L Z Z Z (az Z) Z zfp Z Z T T) (zy (yo (.inr Z) Z) ((Zbp∘ZK∘Zy∘Zck) ?_));exact yn (x:=(k,out)) (k+1,out++[x]) ⟨hlt,ho⟩ G ⟨Z,zdl,Z,Z,Z,nm⟩
  ·have ho:out=(g.take (k+1)).filter fun r=>decide (L0.count r=0):=by rw[htk,zni,<-hout];simp [h0]
   refine(Zbn∘Zz∘ZS∘Zaa∘Zcy∘Zd∘ZE∘Za1∘Za) ?_;refine z71 L Z (fun u H hH hle=>count_ret hz hH (hv.le hle)) ?_;refine(Zq∘Zad∘ZP∘ZK∘Zy∘Zck) ?_;exact yn (x:=(k,out)) (k+1,out) ⟨hlt,ho⟩ G ⟨Z,Z,Z,Z,Z,nm⟩
 ·obtain rfl:k=g.length:=by omega
  rw[zla] at hout;rw[<-hout];refine l6 7 rfl ((Zbn∘ZaO∘ZC∘Zk) ?_);refine z7 (xg (φ:=RsV out true) L Z Z (zn Z) Z Z Z nw (fun u H hH _ _ v1 h1=>Vi hH h1)) Z ((ZR∘Zs) ?_);refine yg1 L [.tmp 6] fun u H hH hle=>?_;exact fun v hv=>hv
def zk5{a b:Int×Int}{f:Bool}(h:decide (a=b)=f):ay [1,1] (pnc a) (pnc b)=some f:=by
 obtain⟨a1,a2⟩:=a;obtain⟨b1,b2⟩:=b;subst h;simp only[pnc,ay,eqC,if_true,Bool.and_true,Prod.mk.injEq];congr 1;rw[Bool.eq_iff_iff];simp
def Gi{a b:Int×Int}{f:Bool}(h:decide (a=b)=f)(hB:zpg B w):Ret zph 213 [.agg #[.int .u64 a.1,.int .i64 a.2],.agg #[.int .u64 b.1,.int .i64 b.2]] w B (fun v _=>v=.bool f):=by
 have hq:ay [1,1] [.int .u64 a.1,.int .i64 a.2] [.int .u64 b.1,.int .i64 b.2]=some f:=zk5 h;refine yh Tryz.func213 Z Tryz.ntmps213 (np Z) hB ((Za2∘Zaf∘Za1∘Za1) ?_);refine z7 (ev Z Z Z Z zjm M Z) Z (Zc (h:=?_));exact yg2 L [.tmp 4]
def zcb{α:Type}{a b:List α}(h:a.length≠b.length):a≠b:=fun e=>h (nh List.length e)
def zhy{α:Type}{a b:List α}{x y:α}(hx:a[i]?=some x)(hy:b[i]?=some y)(h:x≠y):a≠b:=fun e=>h (by subst e;rw[hx] at hy;exact Option.some.inj hy)
def zer{a b:List (Int×Int)}{f:Bool}(hf:decide (a=b)=f)(ha:a.length<=100000)(hb:b.length<=100000){v1:Value}(hB:zpg B w)(h1:PsV a v1 B)(h2:PsV b v2 B):
  Ret zph 212 [v1,v2,.func (.func 213) #[] #[]] w B (fun v _=>v=.bool f):=by
 subst hf;refine yh Tryz.func212 Z Tryz.ntmps212 (np Z) hB (k8 0 (PsV a) Z nw h1 (k8 1 (PsV b) Z nw h2 ?_));by_cases hl:a.length=b.length
 ·refine(ZB∘Zah∘Zh∘Zh∘Za5∘Z4∘ZI∘Zh∘Zbt) ?_;refine xm (fun i:Nat=>[(0,.sat (PsV a)),(15,.sat (PsV a)),(1,.sat (PsV b)),(2,.is (.func (.func 213) #[] #[])),(16,.is (.int .i64 a.length)),(17,.is (.int .i64 i))]) (fun i=>i<=a.length/\a.take i=b.take i) (fun i=>a.length-i) 0 ⟨mf _,rfl⟩ ⟨Z,Z,Z,Z,Z,Z,nm⟩ ?_;rintro i ⟨hi,ht⟩;by_cases hlt:i<a.length
  ·obtain⟨x,hx⟩:=xi hlt;obtain⟨y,hy⟩:=xi (show i<b.length by omega);have hc1:=Px hx;have hc2:=Px hy;have hwk:IntKind.i64.wrap ((i:Int)+1)=((i+1:Nat):Int):=yy T T;by_cases hxy:x=y
   ·refine(Zbm∘Zz∘ZT∘Zaa∘Zdq∘Z2∘Zv∘ZaL∘Zg∘Zaw∘Zk∘Za∘Zaa∘Zdq∘Zbx∘Z8∘Zcl∘Zcl) ?_;refine z71 L Z (fun u H hH _=>Gi (nf hxy) hH) ?_;refine(Zt∘Zad∘ZP∘Zat∘Zy∘Zck) ?_;exact yn (x:=i) (i+1) ⟨hlt,by rw[v7 hx,v7 hy,ht,hxy]⟩ T ⟨Z,Z,Z,Z,Z,Z,nm⟩
   ·rw[ng (zhy hx hy hxy)];refine(Zbm∘Zz∘ZT∘Zaa∘Zdq∘Z2∘Zv∘ZaL∘Zg∘Zaw∘Zk∘Za∘Zaa∘Zdq∘Zbx∘Z8∘Zcl∘Zcl) ?_;refine z71 L Z (fun u H hH _=>Gi (ng hxy) hH) ?_;refine(Zt∘Zu∘ZC∘Zc) ?_;exact yg2 L [.tmp 6]
  ·obtain rfl:i=a.length:=by omega
   have hab:a=b:=by rw[zla,hl,zla] at ht;exact ht
   rw[nf hab];refine(Zbm∘ZaO∘ZA∘Zc) ?_;exact yg2 L [.tmp 6]
 ·rw[ng (zcb hl)];refine(ZB∘Zah∘Zh∘Zh∘ZaG∘Zx∘Zc) ?_;exact yg2 L [.tmp 6]
def Gs{L1 L2:List Int}{t1 t2:Nat}{f:Bool}(hf:decide (xc L1=xc L2)=f)(hz1:L1.length<=100000)(hz2:L2.length<=100000){s1 s2:Value}(hB:zpg B w)(h1:PsV (xc L1) s1 B)(h2:PsV (xc L2) s2 B):
  Ret zph 158 [pnv s1 t1,pnv s2 t2] w B (fun v _=>v=.bool f):=by
 have q1:(xc L1).length<=100000:=by rw[ws];exact mw (fh _) hz1
 have q2:(xc L2).length<=100000:=by rw[ws];exact mw (fh _) hz2
 obtain⟨p,c,rfl⟩:=ky h1;obtain⟨p',c',rfl⟩:=ky h2;refine yh Tryz.func158 Z Tryz.ntmps158 (np Z) hB ((Za2∘Zaf∘Zai∘Zai) ?_);refine z71 L Z (fun u H hH hle=>zer hf q1 q2 hH (h1.le hle) (h2.le hle)) ?_;refine Zc (h:=?_);exact yg2 L [.tmp 4]
end Go.V.L10
namespace Go.V.L10
open Go.V
def _root_.ZeB(t:Wr Y->A:=by intro h;refine Zk (h:=?_);refine z7 (Yv L Z Z Z Z) Z ?_;exact h.1)(h:Y):A:=t ⟨h⟩
def lg(l:List (Int×Int)):(l.flatMap pnc).length=l.length*2:=wg Sm l
section
variable {A Bq R X zo9:List Value} 
def zck(hA:A.length=a)(zpa:List Value):(A++zpa).take a=A/\(A++zpa).drop a=zpa:=by subst hA;simp
def zjg(hA:A.length=a)(hB:Bq.length=b)(_hR:2<=R.length):
  ((A++(Bq++R)).drop a).take b=Bq/\
  ((A++(Bq++R)).take (a+2)++(Bq++(A++(Bq++R)).drop (a+2+b)))=A++((Bq++R).take 2++(Bq++R.drop 2))/\
  ∀ (W:List Value),W.length=2->((A++(W++(Bq++R.drop 2))).take a++(X++(A++(W++(Bq++R.drop 2))).drop (a+2)))=A++(X++(Bq++R.drop 2)):=by
 subst hA hB;refine⟨by simp,?_,fun W hW=>?_⟩
 ·have e1:(A++(Bq++R)).take (A.length+2)=A++(Bq++R).take 2:=by rw[znj,zle T];congr 2;omega
  have e2:(A++(Bq++R)).drop (A.length+2+Bq.length)=R.drop 2:=by
   rw[<-mj,zmg,zlf (by rw[nr];omega),mh];congr 1;rw[nr];omega
  rw[e1,e2,mj]
 ·rw[znj,zle (ns _),zmd,zl4,mq,zmg,zlf T,mh,show A.length+2-A.length=2 by omega,zmg,zlf T,mh,hW,zmd,zl7]
def zg3(hA:A.length=a)(hB:Bq.length=b)(hZ:zo9.length=b+2)(hX:X.length=2):
  ((A++zo9++R).take a++(X++(A++zo9++R).drop (a+2)))=A++(X++(zo9.drop 2++R))/\
  ((A++(X++(zo9.drop 2++R))).take (a+2)++(Bq++(A++(X++(zo9.drop 2++R))).drop (a+2+b)))=A++(X++(Bq++R)):=by
 subst hA hB;refine⟨?_,?_⟩
 ·rw[mj,znj,zle (ns _),zmd,zl4,mq,zmg,zlf T,mh,show A.length+2-A.length=2 by omega,zmg,show 2-zo9.length=0 by omega,zl7]
 ·have e1:(A++(X++(zo9.drop 2++R))).take (A.length+2)=A++X:=by
   rw[<-mj,znj,zle (by rw[nr];omega),nr,show A.length+2-(A.length+X.length)=0 by omega,zl4,mq]
  have e2:(A++(X++(zo9.drop 2++R))).drop (A.length+2+Bq.length)=R:=by
   rw[<-mj,<-mj,zmg,zlf (by rw[nr,nr,m7];omega),mh,nr,nr,m7,show A.length+2+Bq.length-(A.length+X.length+(zo9.length-2))=0 by omega,zl7]
  rw[e1,e2,mj]
end
attribute [local irreducible] V N X VO Par StepOK Has Ret RetL RetO RetT ki RetX Src
def Py{l:List (Int×Int)}(hz:l.length<=100000)(hB:zpg B w)(hv:PsV l v B):
  RetO zph 207 [v] w B (SlR zbz 2 l.length (l.flatMap pnc)):=by
 have hv0:=hv;have hlen:=lg l;have hpl:=Ar l;obtain⟨p,c,rfl⟩:=ky hv;rcases p with _ | b
 ·obtain⟨h0,rfl⟩:l.length=0/\c=0:=s5 hv;have hn:l=[]:=mz h0;subst hn;refine j7 Tryz.func207 Z Tryz.ntmps207 (np Z) hB (ZaN (h:=?_));refine z7 (vk Z Z Z Z zg0 Z) Z ((Zu∘Zx∘Zc) ?_);exact gh 2 zbz 2 rfl (lm Z (fun _ _ h=>h) nq Z)
 ·refine j7 Tryz.func207 Z Tryz.ntmps207 (np Z) hB (ZaN (h:=?_));refine z7 (vk Z Z Z Z zg0 Z) Z (Zn (h:=?_));refine k8 0 (PsV l) Z nw hv0 ((ZI∘Zew∘Zk) ?_);refine zy (wn L Z Z Z (V2 Z) Z Ht M M T T) (zy (yo (.inr Z) Z) (Zs (h:=?_)));rw[zlb,mh];exact lm Z (fun _ _ h=>h) nq Z
def Hl(l:List (Int×Int))(i:Nat)(x:Int×Int):List (Int×Int):=l.take i++x::l.drop i
def ia{l:List (Int×Int)}{x:Int×Int}(hi:i<=l.length):(Hl l i x).length=l.length+1:=by
 unfold Hl;rw[List.length_append,List.length_cons,List.length_take,List.length_drop];omega
def C7{l:List (Int×Int)}{x:Int×Int}:(Hl l i x).flatMap pnc=(l.take i).flatMap pnc++([.int .u64 x.1,.int .i64 x.2]++(l.drop i).flatMap pnc):=by
 unfold Hl;rw[List.flatMap_append,List.flatMap_cons];rfl
def zdy(args:Array Value)(u:World):(callFunc 255 args).run zph u=((Extern.SlicesOverlaps.overlaps #[222,222] #[4] args).run zph u).andThen fun v w'=>.ok (.value v) w':=
 run_callFunc_extern Tryz.func255 J J J J args u
abbrev zPn:Value:=.agg #[.int .u64 0,.int .i64 0]
def zPs(m:Nat):List Value:=(Builtin.zeroCells (Value.cells zPn) m).toList
def zcr(m:Nat):(zPs m).length=m*2:=by unfold zPs;rw[Array.length_toList,size_zeroCells];rfl
def C5{l:List (Int×Int)}{y:Int×Int}(hi:i<=l.length)(hz:l.length<=100000){x v2:Value}(hB:zpg B w)(h2:SlB [Value.int .u64 y.1,Value.int .i64 y.2] zbz 1 v2 B)(hx:(SlR zbz 2 l.length (l.flatMap pnc)).P x B w C)(hC:ZCB C w B):
  RetT zph 208 [x,.int .i64 i,v2] w B C (SlR zbz 2 (l.length+1) ((Hl l i y).flatMap pnc)):=by
 have hpl:=Ar l;unfold RetT;refine tw 0 (x:=x) (SlR zbz 2 l.length (l.flatMap pnc)) Z Tryz.func208 Z Tryz.ntmps208 (np Z) hB hx hC (k8 2 (SlB [Value.int .u64 y.1,Value.int .i64 y.2] zbz 1) Z SlB.mono h2 ?_);have hw1:IntKind.i64.wrap ((l.length:Int)+((1:Nat):Int))=((l.length+1:Nat):Int):=yy T T;refine b9 0 900 rfl (fun hm hn=>?_) fun b cap rest hl hmc hcm hcl=>?_
 ·have h0:l=[]:=mz hm;subst h0;obtain rfl:i=0:=by simpa using hi
  refine(Z0∘Zb) ?_;refine z7 (P3 L Z Z Z Z Z Z Z) Z ((Zg∘Zx∘ZeB∘Zi∘Zp∘Zq∘Zn∘ZT∘ZaC∘Zi∘ZbG∘ZG∘Zu∘Z8∘Zk) ?_);refine z7 (Qe L Z Z Z (az Z) Z Ht Z Z T T) Z (zy (yo (.inr Z) Z) (Zs (h:=?_)));exact dx Z (fun _ _ h=>h) nq Z
 ·by_cases hin:i=l.length
  ·subst hin;have e1:(Hl l l.length y).flatMap pnc=l.flatMap pnc++[Value.int .u64 y.1,Value.int .i64 y.2]:=by rw[C7,zla,zos];simp
   rw[e1];refine(Z0∘Zb∘ZdN∘Zg∘Zx∘ZeB∘Zi∘Zp∘Zq∘Zn∘ZT∘ZaC∘Zi∘ZbG∘ZG∘Zu∘Z8∘Zk) ?_;refine zy (Qd L (q:=900) Z Z Z Z hl hmc hcm hcl (az Z) Z Ht Z Z T T) (zy (yo (.inr Z) Z) (Zs (h:=?_)));exact dx Z (fun _ _ h=>h) nq Z
  ·have hil:i<l.length:=T;have hA:((l.take i).flatMap pnc).length=i*2:=by rw[lg,mi,zmq T]
   have hBq:((l.drop i).flatMap pnc).length=(l.length-i)*2:=by rw[lg,m7]
   have hcur:l.flatMap pnc=(l.take i).flatMap pnc++(l.drop i).flatMap pnc:=by rw[<-zlq,m9]
   have hpB:=Ar (l.drop i);have hwi:IntKind.i64.wrap ((i:Int)+((1:Nat):Int))=((i+1:Nat):Int):=yy T T;rw[C7];generalize hAe:(l.take i).flatMap pnc=A at *;generalize hBe:(l.drop i).flatMap pnc=Bq at *;rw[hcur,mj] at hcl;rw[hcur,mj];rw[nr,nr,hA,hBq] at hcl;by_cases hg:l.length+1<=cap
   ·have hne1:¬ cap=i:=T;have hne2:¬ cap=i+1:=T;have hne3:¬ cap=0:=T;have hR:2<=rest.length:=T;obtain⟨m1,m2,m3⟩:=zjg (R:=rest) (X:=[Value.int .u64 y.1,Value.int .i64 y.2]) hA hBq hR;have m3':=m3 ((Bq++rest).take 2) (by rw[mi,nr];omega);have q1:((A++(Bq++rest)).drop (0+i*2)).take ((l.length-i)*2)=Bq:=by rw[zlb];exact m1
    have q2:(A++(Bq++rest)).take (0+(i+1)*2)++(Bq++(A++(Bq++rest)).drop (0+(i+1)*2+(l.length-i)*2))=A++((Bq++rest).take 2++(Bq++rest.drop 2)):=by rw[zlb,zl6 i 1 2];exact m2
    have q3:(A++((Bq++rest).take 2++(Bq++rest.drop 2))).take (0+i*2)++([Value.int .u64 y.1,Value.int .i64 y.2]++(A++((Bq++rest).take 2++(Bq++rest.drop 2))).drop (0+i*2+1*2))=A++([Value.int .u64 y.1,Value.int .i64 y.2]++(Bq++rest.drop 2)):=by rw[zlb];exact m3'
    have q4:0+(i+1)*2+(l.length-i)*2<=(A++(Bq++rest)).length:=by rw[nr,nr];omega
    have q5:0+i*2+1*2<=(A++((Bq++rest).take 2++(Bq++rest.drop 2))).length:=by rw[nr,nr,nr,mi,nr];omega
    have q8:0<(A++(Bq++rest)).length:=by rw[nr,nr];omega
    have q6:Nat.min (l.length+1-i) (l.length+1-(i+1))=l.length-i:=by show min _ _=_;omega
    have q7:Nat.min 1 (l.length+1-i)=1:=by show min _ _=_;omega
    refine(Z0∘Zb∘ZdN) ?_;rw[nc hne1];refine(Zg∘Zx∘ZeB∘Zi∘Zp∘Zq∘Zn∘ZT∘ZaC∘Zi∘ZbG∘Zq∘Z4∘ZC∘Zb∘Zy∘Za) ?_;refine z7 (Tf L Z Z Z Z) Z ((ZJ∘Zn∘ZX∘ZF∘Zy) ?_);refine z7 (ua L (kl:=.i64) (pl:=0) 0 (l.length+1) Z Z Z Z Z Z ⟨rfl,rfl⟩ T T) Z ?_;rw[nc hne3,show(0+0*2:Nat)=0 from Z,zmu,zmu];refine Zi (h:=?_);refine(Zbo∘Zk∘ZF∘Zy) ?_;refine z7 (ua L (kh:=.i64) (ph:=0) (i+1) _ Z Z Z Z Z ⟨rfl,rfl⟩ Z T T) Z ?_;rw[nc hne2];refine qz (Lm L (q:=900) Z Z Z zdy Z Z Z Z Z q8) ((Zt∘Zu) ?_);refine qg (id:=15) [(77,[900])] mixed J (Zcq (h:=?_));refine z8 (ua L (kh:=.i64) (ph:=0) (i+1) _ Z Z Z Z Z ⟨rfl,rfl⟩ Z T T) Z ?_;rw[nc hne2];refine Zm (h:=?_);refine z8 (ua L (kh:=.i64) (ph:=0) i _ Z Z Z Z Z ⟨rfl,rfl⟩ Z T T) Z ?_;rw[nc hne1];refine xw (Td L (q:=900) (l.length-i) Z Z Z Z Z Z Ht q6 q1 hBq q4 hpB q2) Z Z ((ZaJ∘Zap∘Zb) ?_);refine z7 (ua L (kh:=.i64) (ph:=0) i _ Z Z Z Z Z ⟨rfl,rfl⟩ Z T T) Z ?_;rw[nc hne1];refine Zk (h:=?_);refine zy (Ek L (q:=900) 1 rfl Z Z Z (az Z) Z Ht E q7 (ns 2) Z q5 Z q3) ((Zg∘Zb8∘Za∘Zc) ?_);refine jw (s:=2) (xs:=A++([Value.int .u64 y.1,Value.int .i64 y.2]++Bq)) (rest:=rest.drop 2) 6 900 (by simp [mj]) Z Z (by simp only[nr,ny,my];omega) hg hcm (by simp only[nr,ny,my,m7];omega) ?_;exact dx Z (fun _ _ h=>h) nq Z
   ·have hne1:¬ cap=i:=T;have hne3:¬ cap=0:=T;have hr0:rest=[]:=mz T;subst hr0;have hcap:cap=l.length:=T;subst hcap;rw[mq];have hwk:IntKind.i64.wrap (((l.length+1:Nat):Int)-(i:Int))=((l.length+1-i:Nat):Int):=yy T T |>.trans T;have hxs:(A++Bq).take (i*2)=A:=(zck hA Bq).1;have hxl:i*2<=(A++Bq).length:=by rw[nr];omega
    have hZ:=zcr (l.length+1-i);have hgt:l.length<i+(l.length+1-i):=T;refine(Z0∘Zb∘ZdN) ?_;rw[nc hne1];refine(Zg∘Zx∘ZeB∘Zi∘Zp∘Zq∘Zn∘ZT∘ZaC∘Zi∘ZbG∘Zq∘Z4∘ZC∘Zb∘Zy∘Za) ?_;refine z7 (Tf L Z Z Z Z) Z ((ZO∘Zu∘ZbP) ?_);refine z7 (ua L (kl:=.i64) (pl:=0) 0 i Z Z Z Z Z Z ⟨rfl,rfl⟩ T T) Z ?_;rw[nc hne3,show(0+0*2:Nat)=0 from Z,zmu,zmu];refine(Zb∘Zy∘Za∘Zar) ?_;refine qz (Qc L (q:=900) (z:=zPn) (k:=l.length+1-i) (kn:=.i64) Z Z Z Z Z Z J Ht Z T hgt hxs hxl Z T T) (zy (yo (.inr Z) Z) (Zg (h:=?_)));rw[show(Builtin.zeroCells (Value.cells zPn) (l.length+1-i)).toList=zPs (l.length+1-i) from rfl];have hlt:i+(l.length+1-i)=l.length+1:=T;rw[hlt];refine b9 9 901 rfl (fun hm _=>by omega) fun b2 cap2 rest2 hl2 hmc2 hcm2 hcl2=>?_;have hn1:¬ cap2=i:=T;have hn2:¬ cap2=i+1:=T;have hZ2:(zPs (l.length+1-i)).length=(l.length-i)*2+2:=T;obtain⟨m1,m2⟩:=zg3 (R:=rest2) (X:=[Value.int .u64 y.1,Value.int .i64 y.2]) hA hBq hZ2 rfl;have q1:(A++zPs (l.length+1-i)++rest2).take (0+i*2)++([Value.int .u64 y.1,Value.int .i64 y.2]++(A++zPs (l.length+1-i)++rest2).drop (0+i*2+1*2))=A++([Value.int .u64 y.1,Value.int .i64 y.2]++((zPs (l.length+1-i)).drop 2++rest2)):=by rw[zlb];exact m1
    have q2:(A++([Value.int .u64 y.1,Value.int .i64 y.2]++((zPs (l.length+1-i)).drop 2++rest2))).take (0+(i+1)*2)++(Bq++(A++([Value.int .u64 y.1,Value.int .i64 y.2]++((zPs (l.length+1-i)).drop 2++rest2))).drop (0+(i+1)*2+(l.length-i)*2))=A++([Value.int .u64 y.1,Value.int .i64 y.2]++(Bq++rest2)):=by rw[zlb,zl6 i 1 2];exact m2
    have q3:0+i*2+1*2<=(A++zPs (l.length+1-i)++rest2).length:=by rw[nr,nr];omega
    have q4:0+(i+1)*2+(l.length-i)*2<=(A++([Value.int .u64 y.1,Value.int .i64 y.2]++((zPs (l.length+1-i)).drop 2++rest2))).length:=by simp only[nr,ny,my,m7];omega
    have q5:Nat.min 1 (l.length+1-i)=1:=by show min _ _=_;omega
    have q6:Nat.min (l.length-i) (l.length+1-(i+1))=l.length-i:=by show min _ _=_;omega
    have q7:((A++Bq).drop (i*2)).take ((l.length-i)*2)=Bq:=by rw[(zck hA Bq).2,zle T]
    have q8:Bq.take ((l.length-i)*2)=Bq:=zle T;have q9:(l.length-i)*2<=Bq.length:=T;refine(ZA∘Zb) ?_;refine z7 (ua L (kh:=.i64) (ph:=0) i _ Z Z Z Z Z ⟨rfl,rfl⟩ Z T T) Z ?_;rw[nc hn1];refine Zk (h:=?_);refine zy (Ek L (q:=901) 1 rfl Z Z Z (az Z) Z Ht E q5 (ns 2) Z q3 Z q1) (Zg (h:=?_));refine jw (s:=2) (xs:=A++Bq) (rest:=[]) 0 900 (mq _).symm Z Z (by rw[<-hcur];exact hl) (ns _) hcm (by rw[<-hcur];exact hl) ?_;refine l6 0 rfl (qg (id:=11) [(54,[901])] mixed J (Zcq (h:=?_)));refine z8 (ua L (kh:=.i64) (ph:=0) (i+1) _ Z Z Z Z Z ⟨rfl,rfl⟩ Z T T) Z ?_;rw[nc hn2];refine Zdj (h:=?_);refine z8 (jj L (kh:=.i64) (ph:=0) (km:=.i64) (pm:=0) i l.length false Z Z Z Z Z ⟨rfl,rfl⟩ ⟨rfl,rfl⟩ (fun h=>by cases h) T T q7) Z ?_;refine xw (Ek L (q:=901) (l.length-i) Z Z Z Z (V2 Z) Z Ht T q6 q9 q8 q4 hpB q2) Z Z (ZaJ (h:=?_));refine jw (s:=2) (xs:=A++([Value.int .u64 y.1,Value.int .i64 y.2]++Bq)) (rest:=rest2) 9 901 (by simp [mj]) Z Z (by simp only[nr,ny,my];omega) hmc2 hcm2 (by simp only[nr,ny,my] at hcl2 |-;omega) ?_;refine ZW (h:=?_);refine zy (yo (.inl Z) Z) (zy (yo (.inr Z) Z) (Zs (h:=?_)));exact dx Z (fun _ _ h=>h) nq Z
end Go.V.L10
end
