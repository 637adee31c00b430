/- Texts, part 5. -/
import Derived.Test.YtooecmiihjampaaGreatTopOrderM4
import Derived.Lib.IndexAny
import Derived.Laws.IdiomStrings
import Derived.Laws.BytesArg
set_option linter.unusedVariables false
set_option linter.unusedSimpArgs false
set_option maxRecDepth 20000
set_option maxHeartbeats 8000000
set_option linter.defProp false
open Go.Proofs Go.RowKit
section
variable{L0 P0:List Int}{e r:Int}{cs l made:List Go.V.L8.CH}{a b d fr hi i j k lim lo m mid mm n rb wb:Nat}{x:Int×Int}{s sv v:Go.Value}{w:Go.World}{B H:Go.V.Heap}{ty:Go.TypeId}{P:Go.Program}{args cap fst rest:List Go.Value}{t:List Go.V.L2.U}{S S':Go.V.L10.Sto}{C:Nat->Prop}{bs:List Nat}{F:Go.V.Fr}{O:Go.V.Boxes}{κ:Go.V.Kap}{zpf:Go.Exit->Go.Act->Go.World->Prop}{ops:Array Go.Oper}{o:Go.Oper}{fu:Bool}{R:Go.V.L4.Rd}{ps:List (Nat×Nat)}{g:Option (Nat×Bool)}{α:Type}{φ:Go.Value->Go.V.Heap->Prop}{pos:String}{aft:Array Go.Edge}{A Y:Prop}
section
open Go.V
attribute [local irreducible] Has N Par Ret RetL RetO RetT RetX Src StepOK V VO X ki
namespace Go.V.L10
def _root_.ZeX(t:Wr Y->A:=by intro h;refine z7 (wt L Z Z (zn Z) Z Z Z (fun u H hH hle _=>Py T hH (hv.le hle))) Z ?_;exact h.1)(h:Y):A:=t ⟨h⟩
def _root_.ZeY(t:Wr Y->A:=by intro h;refine Zy (h:=?_);refine z7 (yt (cs:=[_,_]) Z Z zi6 Z Z) Z ?_;exact h.1)(h:Y):A:=t ⟨h⟩
def PinP(L0:List Int)(e:Int):Value->Heap->Prop:=fun v H=>∃ s,v=.tuple #[pnv s L0.length,.int .i64 e]/\PsV (xc L0) s H
def PinP.mono:Kn.mono (.sat (PinP L0 e)):=fun _ _ _ ⟨s,h1,h2⟩ hle=>⟨s,h1,h2.le hle⟩
def Ec{l:List (Int×Int)}(h:l[i]?=some x)(rest:List Value):l.flatMap pnc++rest=(l.take i).flatMap pnc++(pnc x++((l.drop (i+1)).flatMap pnc++rest)):=by
 have hi:=get_lt h
 have e:l=l.take i++x::l.drop (i+1):=by
  rw[show x::l.drop (i+1)=l.drop i by rw[zl9 hi,lj h],m9]
 conv=>lhs;rw[e,zlq,zl3]
 simp only[mj]
def zdq{l:List (Int×Int)}{c:Int}(h:l[i]?=some (r,c))(rest:List Value):∃ t,(l.flatMap pnc++rest).drop (0+i*2+1)=.int .i64 c::t:=by
 rw[Ec h rest];have hl:((l.take i).flatMap pnc).length=i*2:=by rw[lg,mi,zmq (Nat.le_of_lt (get_lt h))]
 refine⟨(l.drop (i+1)).flatMap pnc++rest,?_⟩;rw[zmg,zlf T,mh,show 0+i*2+1-((l.take i).flatMap pnc).length=1 by omega];rfl
def Sn{l:List (Int×Int)}{c:Int}(h:l[i]?=some (r,c))(c':Int)(rest:List Value):(l.flatMap pnc++rest).take (0+i*2+1)++([Value.int .i64 c']++(l.flatMap pnc++rest).drop (0+i*2+1+1))=(l.set i (r,c')).flatMap pnc++rest:=by
 have hi:=get_lt h;have hl:((l.take i).flatMap pnc).length=i*2:=by rw[lg,mi,zmq (Nat.le_of_lt hi)]
 have hs:(l.set i (r,c'))[i]?=some (r,c'):=by rw[zn0 hi]
 rw[Ec h rest,Ec hs rest,znz (ns _),zo1 (znr i)];generalize (l.take i).flatMap pnc=A at hl |-;generalize (l.drop (i+1)).flatMap pnc++rest=zpa
 subst_vars
 have e1:(A++(pnc (r,c)++zpa)).take (0+i*2+1)=A++[Value.int .u64 r]:=by
  rw[znj,zle T,show 0+i*2+1-A.length=1 by omega];rfl
 have e2:(A++(pnc (r,c)++zpa)).drop (0+i*2+1+1)=zpa:=by
  rw[zmg,zlf T,mh,show 0+i*2+1+1-A.length=2 by omega];rfl
 rw[e1,e2];simp [pnc]
def Sp{l:List (Int×Int)}(h:i<l.length)(rest:List Value):Nat.ble (0+i*2+1+1) (l.flatMap pnc++rest).length=true:=znf (by rw[nr,lg];omega)
def Un{l:List (Int×Int)}(hi:i<=l.length):(Hl l i x)[i]?=some x:=by
 unfold Hl;rw[List.getElem?_append_right (by rw[List.length_take];omega),List.length_take,Nat.min_eq_left hi,Nat.sub_self];rfl
def N5{l:List (Int×Int)}{y:Int×Int}(hi:i<=l.length):(Hl l i x).set i y=Hl l i y:=by
 unfold Hl;rw[List.set_append_right _ _ (by rw[List.length_take];omega),List.length_take,Nat.min_eq_left hi,Nat.sub_self];rfl
def Sl(r:Int):cr cP r (kj L0)<=(xc L0).length:=by rw[ws];exact Eb r _
def Y9(hr:r≠0)(hz2:(xc L0).length<=1000)(hz:L0.length<=4095)(hB:zpg B w)(hv:PsV (xc L0) s B):
  Ret zph 152 [pnv s L0.length,.int .u64 r,.int .i64 1] w B (PinP (L0++[r]) 0):=by
 have hcz:L0.count r<=4095:=mw zo7 hz;have hws:IntKind.i64.wrap (4096-((L0.count r:Nat):Int))=4096-((L0.count r:Nat):Int):=yy T T;have hwt:IntKind.i64.wrap ((L0.length:Int)+1)=((L0++[r]).length:Nat):=by rw[nr];exact yy T T
 obtain⟨p,c,rfl⟩:=ky hv;have hpl:=Sl (L0:=L0) r;by_cases hm:r∈kj L0
 ·have hf:decide (r∈kj L0)=true:=nf hm;have hp:=C9 hm;have hpi:=get_lt hp;have e1:=As (jl.1 hm);have hwc:IntKind.i64.wrap (((L0.count r:Nat):Int)+1)=((L0.count r:Nat):Int)+1:=yy T T;generalize hat:cr cP r (kj L0)=at_ at *;refine yh Tryz.func152 Z Tryz.ntmps152 (np Z) hB ((Z7∘Z2∘Zd∘Z6∘ZaZ∘Zac∘Zan∘Zp∘Zq∘Zan∘ZT∘Zq∘Zc4∘Zbj∘Zao∘Zbk∘ZK∘Za1∘Za) ?_);refine z71 L Z (fun u H hH hle=>hf ▸ hat ▸ find_ret (L0:=L0) (t:=L0.length) T hH (hv.le hle)) ?_;refine(Z1∘Za8∘Zbe∘Za1∘Za) ?_;refine z71 L Z (fun u H hH hle=>count_ret T hH (hv.le hle)) ?_;refine(Zar∘ZJ∘Zb∘Zt∘ZaF∘Zbb∘Zl∘ZbV∘ZA∘Zai∘ZeX) ?_;refine zy (yo (.inr Z) Z) ((Zay∘ZV∘Za∘Zt∘Zn) ?_);refine b9 10 900 rfl (fun h0 _=>by omega) fun b cap rest hl hmc hcm hcl=>?_;obtain⟨tl,hld⟩:=zdq hp rest;have hst:=Sn hp (((L0.count r:Nat):Int)+1) rest;have hbl:=Sp hpi rest;refine(ZX∘Zb∘ZcT∘ZaB) ?_;refine qz (qb L (q:=900) Z Z Z hld) ((Za∘Zy∘ZcT∘ZaB) ?_);refine xh (ye L (q:=900) Z Z hbl Z hst) (Zg (h:=?_));have hln:(xc (L0++[r])).length=(xc L0).length:=by rw[e1,zna]
  rw[<-e1];refine jw (s:=2) (xs:=(xc (L0++[r])).flatMap pnc) (rest:=rest) 10 900 rfl Z Z (by rw[lg,hln]) hmc hcm (by rw[nr,lg,hln,<-lg,<-nr];exact hcl) ?_;refine V8 10 rfl fun x H hs _ hsw=>?_;have hsv:PsV (xc (L0++[r])) x H:=by unfold PsV;rw[hln];exact hsw.toV
  obtain⟨p2,c2,rfl⟩:=ky hsv;refine(Zbw∘Zai∘Za∘ZeY∘ZaQ) ?_;refine yg L (rs:=[.cell 6 224,.tmp 7]) Z (fun _ _ h=>h) hs fun u H hH hle=>?_;exact⟨_,qw Z,rfl,_,rfl,hsv.le hle⟩
 ·have hf:decide (r∈kj L0)=false:=ng hm;have e1:=Lh (L:=L0) fun h=>hm (jl.2 h);generalize hat:cr cP r (kj L0)=at_ at *;have e2:xc (L0++[r])=(Hl (xc L0) at_ (r,0)).set at_ (r,1):=by rw[N5 hpl];exact e1
  have hp:=Un (x:=(r,(0:Int))) hpl;have hpi:=get_lt hp;have hil:=ia (x:=(r,(0:Int))) hpl;refine yh Tryz.func152 Z Tryz.ntmps152 (np Z) hB ((Z7∘Z2∘Zd∘Z6∘ZaZ∘Zac∘Zan∘Zp∘Zq∘Zan∘ZT∘Zq∘Zc4∘Zbj∘Zao∘Zbk∘ZK∘Za1∘Za) ?_);refine z71 L Z (fun u H hH hle=>hf ▸ hat ▸ find_ret (L0:=L0) (t:=L0.length) T hH (hv.le hle)) ?_;refine(Z1∘Za8∘Zbe∘Za1∘Za) ?_;refine z71 L Z (fun u H hH hle=>count_ret T hH (hv.le hle)) ?_;refine(Zar∘ZJ∘Zb∘Zt∘Za∘Zai∘ZaC∘Zq∘Zl∘ZbV∘ZA∘Zai∘ZeX) ?_;refine zy (yo (.inr Z) Z) ((Zay∘ZV∘Za∘Zt∘ZD∘ZW) ?_);refine zy (yo (.inl Z) Z) (Zb (h:=?_));refine z7 (yt (cs:=[_,_]) Z Z zgp Z Z) Z (Zae (h:=?_));refine zy (iw L (q:=51) Z Z Z Z Z (fun u H C x hH hle hx hC v2 hv2=>C5 (y:=(r,0)) hpl T hH hv2 hx hC)) (zy (yo (.inr Z) Z) (Zg (h:=?_)));rw[<-hil];refine b9 10 900 rfl (fun h0 _=>by omega) fun b cap rest hl hmc hcm hcl=>?_;obtain⟨tl,hld⟩:=zdq hp rest;have hst:=Sn hp 1 rest;have hbl:=Sp hpi rest;refine(ZX∘Zb∘ZcT∘ZaB) ?_;refine qz (qb L (q:=900) Z Z Z hld) ((Za∘ZaE∘ZcT∘ZaB) ?_);refine xh (ye L (q:=900) Z Z hbl Z hst) (Zg (h:=?_));have hln:(xc (L0++[r])).length=(Hl (xc L0) at_ (r,0)).length:=by rw[e2,zna]
  rw[<-e2];refine jw (s:=2) (xs:=(xc (L0++[r])).flatMap pnc) (rest:=rest) 10 900 rfl Z Z (by rw[lg,hln]) hmc hcm (by rw[nr,lg,hln,<-lg,<-nr];exact hcl) ?_;refine V8 10 rfl fun x H hs _ hsw=>?_;have hsv:PsV (xc (L0++[r])) x H:=by unfold PsV;rw[hln];exact hsw.toV
  obtain⟨p2,c2,rfl⟩:=ky hsv;refine(Zbw∘Zai∘Za∘ZeY∘ZaQ) ?_;refine yg L (rs:=[.cell 6 224,.tmp 7]) Z (fun _ _ h=>h) hs fun u H hH hle=>?_;exact⟨_,qw Z,rfl,_,rfl,hsv.le hle⟩
def zds(hr:r≠0)(hz2:(xc L0).length<=1000)(hz:L0.length<=4095)(hB:zpg B w)(hv:PsV (xc L0) s B):
  Ret zph 138 [pnv s L0.length,.int .u64 r] w B (PinP (L0++[r]) 0):=by
 obtain⟨p,c,rfl⟩:=ky hv;refine yh Tryz.func138 Z Tryz.ntmps138 (np Z) hB ((Z7∘Z2∘Zaf∘Za1∘Za) ?_);refine z7 (xg L rfl rfl (zn rfl) rfl rfl rfl PinP.mono (fun u H hH hle _=>Y9 hr hz2 hz hH (hv.le hle))) rfl ?_;refine w6 8 rfl fun v1 H1 hs1 hp1=>?_;obtain⟨s1,rfl,hq1⟩:=hp1;obtain⟨p1,c1,rfl⟩:=ky hq1;refine(Zcu∘ZaQ) ?_;refine yg L (rs:=[.cell 4 224,.tmp 5]) Z (fun _ _ h=>h) hs1 fun u H hH hle=>?_;exact⟨_,qw Z,rfl,_,rfl,hq1.le hle⟩
open Go.V.L2 Go.V.L8 Go.V.L6
def _root_.ZcV(t:Wr Y->A:=by intro h;refine jt 900 901 rfl Z (xe _) ?_;exact h.1)(h:Y):A:=t ⟨h⟩
def _root_.Zd9(t:Wr Y->A:=by intro h;refine vz 900 901 rfl (xe _) ?_;exact h.1)(h:Y):A:=t ⟨h⟩
abbrev tyS:TypeId:=226
abbrev Ent:=List (Int×(List U×Value))
abbrev vcE(p:List U×Value):Value:=p.2
abbrev stc(n m:Nat)(s:Value)(t:Nat):List Value:=[.int .u64 n,.map (some m),s,.int .i64 t]
abbrev StO(b n m:Nat)(s:Value)(t:Nat)(es:Ent):GR:=uw (yz b (stc n m s t) tyS) (zin m .u64 vcE es)
def l7(b n m:Nat)(s:Value)(t:Nat)(es:Ent):(StO b n m s t es).res=ae (xk b (stc n m s t) tyS) (B5 m .u64 vcE es):=rfl
def EsV(es:Ent)(H:Heap):Prop:=∀ e∈es,SetV e.2.1 e.2.2 H
def EsV.le{es:Ent}{H H':Heap}(h:EsV es H)(hle:H.Le H'):EsV es H':=fun e he=>(h e he).le hle
def r8{cs:List Value}:∀ v H u C,(xk b cs ty).P v H u C->joinH H u C b=some (.cells cs.toArray ty):=fun _ _ _ _ ⟨hb,hC⟩=>(cj ((hC b).2 rfl)).trans hb
def zr_run(L:Tabs P){e:TypeId}{z:Value}(hz:L.zr e=some z)(w:World):(zeroValue e).run P w=.ok z w:=by
 have h:=Tabs.zr_spec hz;unfold zrI at h;split at h
 ·rename_i it hit;simp [zeroValue,typeInfo,hit,h]
 ·cases h
abbrev zkl:TypeId:=221
abbrev tySt:TypeId:=37
def mpS:zph.underlying zkl=some (.map Dr tySt):=J
def kyS:zph.underlying Dr=some (.int .u64):=J
def zrS(w:World):(zeroValue tySt).run zph w=.ok nilSet w:=zr_run L rfl w
attribute [local irreducible] RetY
def none_ret(hn:n≠0)(hb:B b=some (.cells (Value.int .u64 n::rest).toArray tyS))(hB:zpg B w):
  Ret zph 139 [.pointer (some ⟨b,0,none⟩)] w B (fun v _=>v=.bool false):=by
 refine yh Tryz.func139 Z Tryz.ntmps139 (np Z) hB ((Z0∘Za) ?_);refine z7 (vk Z Z Z Z zg2 Z) Z ((Zb∘ZbE∘Zq∘Zl∘Zc) ?_);exact yg2 L [.tmp 2]
def uo(hn:n≠0)(hb:B b=some (.cells (Value.int .u64 n::rest).toArray tyS))(hB:zpg B w):
  Ret zph 156 [.pointer (some ⟨b,0,none⟩)] w B (fun v _=>v=.int .u64 n):=by
 refine yh Tryz.func156 Z Tryz.ntmps156 (np Z) hB (ZaN (h:=?_));refine z71 L Z (fun u H hH hle=>none_ret hn (hle _ _ hb) hH) ?_;refine(Zn∘Zp∘ZbE∘Zc) ?_;exact yg2 L [.tmp 2]
def pins_ret{t:Nat}(hs:∃ p k c,s=.slice p k c)(hn:n≠0)(hb:B b=some (.cells (stc n m s t).toArray tyS))(hB:zpg B w):
  Ret zph 142 [.pointer (some ⟨b,0,none⟩)] w B (fun v _=>v=pnv s t):=by
 obtain⟨p,k,c,rfl⟩:=hs;refine yh Tryz.func142 Z Tryz.ntmps142 (np Z) hB ((ZaW∘Zay∘ZaZ) ?_);refine z71 L Z (fun u H hH hle=>none_ret hn (hle _ _ hb) hH) ?_;refine(Zn∘Zp∘ZY) ?_;refine z7 (zx L (vs:=[_,_]) (qh Z M) Z Z Z Z ⟨_,rfl⟩) Z (Zam (h:=?_));refine yg1 L [.cell 2 224] fun u H hH hle=>?_;exact⟨_,qw Z,rfl,rfl⟩
def F9{b m t:Nat}{es:Ent}(hm:MapOK es S.R)(hn:S.R.length≠0)(hes:EsV es B)(hB:zpg B w)(hr:(StO b S.R.length m s t es).P B w C)(hC:ZCB C w B):
  RetY zph 88 [.pointer (some ⟨b,0,none⟩),.int .u64 r] w B C (StO b S.R.length m s t es) (WithP (atS S r).1 (atS S r).2):=by
 unfold RetY;refine yr 900 (StO b S.R.length m s t es) Tryz.func88 Z Tryz.ntmps88 (np Z) hB hr hC ?_;rw[l7];refine Zd9 (h:=?_);obtain⟨k,hk⟩:∃ k,k=if r=0 then (S.R.length:Int) else r:=⟨_,rfl⟩
 have hat:atS S r=match kpt S.R k with | some t=>(t,0) | none=>([],14):=by rw[hk];rfl
 have hg:=hm.get k;by_cases hr0:r=0
 ·rw[na hr0] at hk;subst hr0;subst hk
  cases hgk:ub (S.R.length:Int) es with
  | none=>
   rw[hgk] at hg;rw[hat,<-hg];have q1:(ub (S.R.length:Int) es).elim nilSet vcE=nilSet:=by rw[hgk];rfl
   have q2:(ub (S.R.length:Int) es).isSome=false:=by rw[hgk];rfl
   refine(ZaW∘ZaK) ?_;refine qz (xr L 900 (Φ:=fun H=>H b=some (.cells (stc S.R.length m s t).toArray tyS)) (c:=.bool false) Z Z (zn Z) Z Z Z Z Z r8 (fun u H hH hle hb=>none_ret hn hb hH)) ((Z4∘Zp∘ZG∘ZD∘ZbX∘Zbu∘ZH∘Za) ?_);refine qz (ul (q:=901) (vc:=vcE) (S.R.length:Int) mpS kyS zrS Z Z Z Z Z q1 q2) ((Z1∘Zaj∘Zi∘ZL∘Zt∘Zu∘ZK∘ZcS∘ZaQ) ?_);refine ZcV (h:=?_);exact vw L 900 (r:=StO b S.R.length m s t es) (rs:=[.cell 4 37,.tmp 5]) Z (fun _ _ h=>h) nq Z Z (fun H hle=>⟨_,qw Z,rfl,_,rfl,SetV.nil⟩)
  | some x=>
   obtain⟨l,sv⟩:=x;rw[hgk] at hg;rw[hat,<-hg];have hx:SetV l sv B:=hes _ (cd hgk);obtain⟨f1,p1,f2,p2,rfl,hpl⟩:=hx.shape;have q1:(ub (S.R.length:Int) es).elim nilSet vcE=.agg #[f1,.pointer p1,f2,.pointer p2]:=by rw[hgk];rfl
   have q2:(ub (S.R.length:Int) es).isSome=true:=by rw[hgk];rfl
   refine(ZaW∘ZaK) ?_;refine qz (xr L 900 (Φ:=fun H=>H b=some (.cells (stc S.R.length m s t).toArray tyS)) (c:=.bool false) Z Z (zn Z) Z Z Z Z Z r8 (fun u H hH hle hb=>none_ret hn hb hH)) ((Z4∘Zp∘ZG∘ZD∘ZbX∘Zbu∘ZH∘Za) ?_);refine qz (ul (q:=901) (vc:=vcE) (S.R.length:Int) mpS kyS zrS Z Z Z Z Z q1 q2) ((Z1∘Z2∘Zbr∘Zi∘ZL∘Zt∘Zn∘ZC∘Zbg∘Zbr∘Zc) ?_);refine ZcV (h:=?_);exact vw L 900 (r:=StO b S.R.length m s t es) (rs:=[.cell 4 37,.tmp 5]) Z (fun _ _ h=>h) nq Z Z (fun H hle=>⟨_,qw Z,rfl,_,rfl,hx.le hle⟩)
 ·rw[nc hr0] at hk;subst hk
  cases hgk:ub k es with
  | none=>
   rw[hgk] at hg;rw[hat,<-hg];have q1:(ub k es).elim nilSet vcE=nilSet:=by rw[hgk];rfl
   have q2:(ub k es).isSome=false:=by rw[hgk];rfl
   refine(ZaW∘ZaK) ?_;refine qz (xr L 900 (Φ:=fun H=>H b=some (.cells (stc S.R.length m s t).toArray tyS)) (c:=.bool false) Z Z (zn Z) Z Z Z Z Z r8 (fun u H hH hle hb=>none_ret hn hb hH)) ((Z4∘Zp∘Zq∘Zn∘ZT∘ZH∘Za) ?_);refine qz (ul (q:=901) (vc:=vcE) k mpS kyS zrS Z Z Z Z Z q1 q2) ((Z1∘Zaj∘Zi∘ZL∘Zt∘Zu∘ZK∘ZcS∘ZaQ) ?_);refine ZcV (h:=?_);exact vw L 900 (r:=StO b S.R.length m s t es) (rs:=[.cell 4 37,.tmp 5]) Z (fun _ _ h=>h) nq Z Z (fun H hle=>⟨_,qw Z,rfl,_,rfl,SetV.nil⟩)
  | some x=>
   obtain⟨l,sv⟩:=x;rw[hgk] at hg;rw[hat,<-hg];have hx:SetV l sv B:=hes _ (cd hgk);obtain⟨f1,p1,f2,p2,rfl,hpl⟩:=hx.shape;have q1:(ub k es).elim nilSet vcE=.agg #[f1,.pointer p1,f2,.pointer p2]:=by rw[hgk];rfl
   have q2:(ub k es).isSome=true:=by rw[hgk];rfl
   refine(ZaW∘ZaK) ?_;refine qz (xr L 900 (Φ:=fun H=>H b=some (.cells (stc S.R.length m s t).toArray tyS)) (c:=.bool false) Z Z (zn Z) Z Z Z Z Z r8 (fun u H hH hle hb=>none_ret hn hb hH)) ((Z4∘Zp∘Zq∘Zn∘ZT∘ZH∘Za) ?_);refine qz (ul (q:=901) (vc:=vcE) k mpS kyS zrS Z Z Z Z Z q1 q2) ((Z1∘Z2∘Zbr∘Zi∘ZL∘Zt∘Zn∘ZC∘Zbg∘Zbr∘Zc) ?_);refine ZcV (h:=?_);exact vw L 900 (r:=StO b S.R.length m s t es) (rs:=[.cell 4 37,.tmp 5]) Z (fun _ _ h=>h) nq Z Z (fun H hle=>⟨_,qw Z,rfl,_,rfl,hx.le hle⟩)
end Go.V.L10
namespace Go.V.L11
open Go.V.L4
def _root_.ZdQ(t:Wr Y->A:=by intro h;refine z8 (qf L (o4 Z (List.Mem.head _)) Z Z Z Z) Z ?_;exact h.1)(h:Y):A:=t ⟨h⟩
def zwr(w:World):(zeroValue zjw).run zph w=.ok (.agg #[.int .i64 0,.int .i64 0]) w:=L10.zr_run L rfl w
attribute [local irreducible] XP RetY Pan
def Q7{a:Int}(hB:zpg B w):Ret zph 147 [wrV a e] w B (fun v _=>v=.tuple #[.int .i64 a,.int .i64 e]):=by
 refine yh Tryz.func147 Z Tryz.ntmps147 (np Z) hB ((ZbH∘ZaK) ?_);refine z7 (Qa Z Z Z J) Z ((Z1∘Zaj∘Zd) ?_);refine sn 4 rfl fun b4 _=>?_;refine(Zo∘Zu∘Zcs∘ZbJ∘ZdQ∘ZbJ∘ZdQ∘Zbd∘ZaP) ?_;exact yg2 L [.tmp 2,.tmp 3]
def Ml(hB:zpg B w):Ret zph 147 [.nilIface] w B (fun v _=>v=.tuple #[.int .i64 0,.int .i64 0]):=by
 refine yh Tryz.func147 Z Tryz.ntmps147 (np Z) hB ((ZbH∘ZaK) ?_);refine z7 (Qb Z Z Z J zwr) Z ((Z1∘Zaj∘Zbh∘Zn∘ZS∘ZM) ?_);exact yg2 L [.tmp 2,.tmp 3]
abbrev Xx:TypeId:=3
abbrev Ke:TypeId:=38
abbrev tyPS:TypeId:=147
abbrev G3(ba be bs:Nat)(x y z:Value):GR:=uw (yz ba [x] Xx) (uw (yz be [y] Ke) (yz bs [z] tyPS))
attribute [local irreducible] aa
def Hb{ba be bs:Nat}{x y z:Value}{a:Int}{m m':FrameMode}(hm:RecM m m' v)(hcv:∀ (u:World) (H:Heap),zpg H u->Ret zph 147 [v] u H (fun r _=>r=.tuple #[.int .i64 a,.int .i64 e]))(hB:zpg B w)(hr:(G3 ba be bs x y z).P B w C)(hC:ZCB C w B):
  aa zph 146 [xz ba,xz be,xz bs] w B C m m' (G3 ba be bs (.int .i64 a) (.int .i64 e) (if e=0 then z else .pointer none)):=by
 refine zbu 900 (G3 ba be bs x y z) _ hm Tryz.func146 Z Tryz.ntmps146 (np Z) Z Z Z Z hB hr hC ?_;refine Kl (r1:=xk ba [x] Xx) (r2:=(uw (yz be [y] Ke) (yz bs [z] tyPS)).res) 900 901 rfl (xe _) ?_;refine Kl (r1:=xk be [y] Ke) (r2:=xk bs [z] tyPS) 901 902 rfl (l5 _ _ _) ?_;refine z71 L Z (fun u H hH _=>hcv u H hH) ?_;refine Z1 (h:=?_);refine xh (ye L (q:=900) (cs':=[.int .i64 a]) Z Z Z Z Z) (xh (ye L (q:=901) (cs':=[.int .i64 e]) Z Z Z Z Z) (ZN (h:=?_)));refine Zc6 (h:=?_);by_cases he:e=0
 ·rw[na he];refine(Zf∘Z3∘Zd8∘Za5∘Zad) ?_;refine ig 901 902 rfl Z (l5 _ _ _) ?_;refine ig 900 901 rfl Z (xe (uw (yz be [.int .i64 e] Ke) (yz bs [z] tyPS))) ?_;exact Xa L 900 (r:=G3 ba be bs (.int .i64 a) (.int .i64 e) z) Z Z Z nq
 ·rw[nc he];refine(Zf∘Z3∘Zd8∘Zds∘ZD∘Zx) ?_;refine xh (ye L (q:=902) (cs':=[.pointer none]) Z Z Z Z Z) (ZN (h:=?_));refine ig 901 902 rfl Z (l5 _ _ _) ?_;refine ig 900 901 rfl Z (xe (uw (yz be [.int .i64 e] Ke) (yz bs [.pointer none] tyPS))) ?_;exact Xa L 900 (r:=G3 ba be bs (.int .i64 a) (.int .i64 e) (.pointer none)) Z Z Z nq
end Go.V.L11
namespace Go.V.L11
open Go.V.L4
def cy{pv:Value}(l:List (Nat×Kn))(hl:LiveOK l κ)(h:XP F B n O (ofL l) pv zpf):XP F B n O κ pv zpf:=fun a u hh=>h a u (hh.live hl)
def zed{fn:Func}{R R':Ending->World->Prop}(h:LV P F B n O κ fn R)(hm:∀ e u,R e u->R' e u):LV P F B n O κ fn R':=fun a u hh=>let ⟨v,h1,h2⟩:=h a u hh;⟨v,h1,hm _ _ h2⟩
attribute [local irreducible] XP LV RetY Pan aa
abbrev FLd(w:World)(ba be bs:Nat):Fr:=⟨w,none,[.u (dfd 146 [xz ba,xz be,xz bs])],noL⟩
abbrev KLd(ba be bs:Nat)(x y z:Value):List (Nat×Kn):=[(2,.is (xz bs)),(3,.is (xz ba)),(4,.is (xz be)),(910,.own (xk bs [z] tyPS)),(911,.own (xk ba [x] Xx)),(912,.own (xk be [y] Ke))]
def T7{B0:Heap}{ba be bs:Nat}{x y z:Value}{a:Int}(he:e≠0)(hs:Since (FLd w ba be bs) B0 B){R:Ending->World->Prop}(hR:∀ r u,ft w B0 noL (fun v _ _=>v=.tuple #[.pointer none,.int .i64 a,.int .i64 e]) r u->R r u):
  XP (FLd w ba be bs) B n O (ofL (KLd ba be bs x y z)) (wrV a e) (bodyPostM Fence.wide 0 zph Tryz.f86 R):=by
 refine Ms 912 910 rfl Z (l5 _ _ _) ?_;refine Ms 911 912 rfl Z (xe (uw (yz be [y] Ke) (yz bs [z] tyPS))) ?_;refine zct L 911 (r:=G3 ba be bs x y z) (r':=G3 ba be bs (.int .i64 a) (.int .i64 e) (if e=0 then z else .pointer none)) Z Z Z (fun u H C hH _ hr hC=>Hb (RecM.caught _) (fun u H hH=>Q7 hH) hH hr hC) ?_ (fun _ _ h=>h);rw[nc he];refine En (r1:=xk ba [.int .i64 a] Xx) (r2:=(uw (yz be [.int .i64 e] Ke) (yz bs [.pointer none] tyPS)).res) 911 912 rfl (xe _) ?_;refine En (r1:=xk be [.int .i64 e] Ke) (r2:=xk bs [.pointer none] tyPS) 912 910 rfl (l5 _ _ _) ?_;refine pu 3 911 rfl Z (pu 4 912 rfl Z (pu 2 910 rfl Z (zed (R:=ft w B0 noL (fun v _ _=>v=.tuple #[.pointer none,.int .i64 a,.int .i64 e])) ?_ hR)));exact zg7 L (rs:=[.cell 2 tyPS,.cell 3 Xx,.cell 4 Ke]) Z hs (fun u H _ _=>wc (qw Z) Z (wc (qw Z) Z (wc (qw Z) Z Z)))
end Go.V.L11
end
variable{es:Go.V.L10.Ent}
namespace Go.V
def zcv(ops:Array Oper)(K:Nat):Bool:=
 let b:=Region.before ops
 (List.range ops.size).all fun i=>Nat.ble i K || (b.getD i 0).testBit K
section sound
variable  {St:Kap->Act->World->Prop}  {ex:Exs}
def O5(P:Program)(St:Kap->Act->World->Prop)(ops:Array Oper)(ex:Exs)(r:Option Nat)(zpf:Exit->Act->World->Prop)(K:Nat)(o:Oper)(κ:Kap):Prop:=
 ∀ κ' a u,(∀ t∈lks ops ex o,κ' t=κ t)->St κ' a u->∀ Kk,wpOpIn (FW r) 0 P ops zpf K Kk a u
def Cl{r:Option Nat}{zpf:Exit->Act->World->Prop}{K:Nat}{o:Oper}:∀ (l:List Nat) {κ:Kap},(∀ j∈l,∀ x,ops[j]?=some x->G5 (tch ex x) (lks ops ex o)=true)->
  ParI P St ops ex (O5 P St ops ex r zpf K o) l κ->O5 P St ops ex r zpf K o κ
 | [],κ,_,h=>h
 | j::l,κ,hap,⟨x,us,hx,hd,sx,rest⟩=>fun κ' a u hl hh=>by
  have h2:=cc (hap j (mb ..) x hx);exact Cl l (fun m hm=>hap m (mc _ hm)) rest κ' a u (fun t ht=>(hl t ht).trans (wl us κ t fun p hp e=>h2 p.1 (hd p hp) (e ▸ ht)).symm) hh
def Ri{r:Option Nat}(hsep:zdh ops ex=true){K:Nat}(hw:zcv ops K=true)(hoK:ops[K]?=some o)(hK:K<ops.size):∀ (fuel:Nat) (listed:Array Bool) (l:List Nat) (κ:Kap) (a:Act) (u:World),
  l.length<fuel->l.Pairwise (·<·)->listed.size=ops.size->(∀ i,(i∈l\/(K<=i/\i<ops.size))↔i<ops.size/\listed.getD i true=false)->Mr ops listed->(∀ i∈l,i<K)->
  ParI P St ops ex (O5 P St ops ex r zpf K o) l κ->St κ a u->wpAnyIn (FW r) 0 P .any ops zpf fuel listed a u:=by
 intro fuel
 induction fuel with
 | zero=>intro listed l κ a u hlen;omega
 | succ fuel ih=>
  intro listed l κ a u hlen hsort hsz hmem hcl hlK hp hh;have hsep':=hsep;simp only[zdh,zlj,zly] at hsep'
  have hedge:∀ i (hi:i<ops.size),∀ e∈(ops[i]'hi).after,Region.binds .any e=true->e.on<i:=fun i hi e he hb=>by
   have h1:=(hsep' i (by simpa using hi)).1;rw[zlg,zlk hi,Option.getD_some,Array.all_eq_true'] at h1;have:=h1 e he;simp [hb] at this;exact this
  have hlow:∀ j,j<ops.size->listed.getD j true=false->(∀ i∈l,j<=i)->j<=K->j∈Region.ready .any ops listed:=fun j hj hjl hmin hjK=>by
   refine mem_ready.2 ⟨hjl,ops[j],by simp [hj],fun e he hb=>?_⟩;have hlt:=hedge j hj e he hb;cases hle:listed.getD e.on true
   ·rcases(hmem e.on).2 ⟨by omega,hle⟩ with h | h
    ·have:=hmin _ h;omega
    ·omega
   ·rw[zlg,zlk T] at hle |-;simpa using hle
  have hKl:=((hmem K).1 (.inr ⟨ns _,hK⟩)).2;constructor
  ·intro hr;exfalso
   have:∃ j,j∈Region.ready .any ops listed:=by
    cases l with
    | nil=>exact⟨K,hlow K hK hKl (fun i hi=>by cases hi) (ns _)⟩
    | cons j0 l0=>
     obtain⟨h1,h2⟩:=(hmem j0).1 (.inl (mb ..));refine⟨j0,hlow j0 h1 h2 (fun i hi=>?_) (Nat.le_of_lt (hlK j0 (mb ..)))⟩;rcases nz.1 hi with rfl | hi
     ·exact ns _
     ·exact Nat.le_of_lt (List.rel_of_pairwise_cons hsort hi)
   obtain⟨j,hj⟩:=this;rw[hr] at hj;cases hj
  ·intro i hi;obtain⟨hli,oi,ho,hall⟩:=mem_ready.1 hi
   have hisz:i<ops.size:=by
    rcases m5 i ops.size with h | h
    ·exact h
    ·rw[zmt h] at ho;cases ho
   have hio:ops[i]=oi:=by rw[zlk hisz] at ho;exact Option.some.inj ho
   have hwait:∀ j,j<ops.size->((Region.before ops).getD i 0).testBit j=true->listed.getD j true=false->False:=fun j hjs h2 hjl=>by
    have:=oq hsz hcl i hisz (fun e he hb=>by rw[hio] at he;exact hall e he hb) j h2;rw[zlg,zlk T] at this hjl;simp at this hjl;rw[this] at hjl;cases hjl
   have hapart:∀ j∈l,j<i->∀ x y,ops[j]?=some x->ops[i]?=some y->sd ops ex x y=true:=fun j hj hji x y hx hy=>by
    obtain⟨hjs,hjl⟩:=(hmem j).1 (.inl hj);have h2:=(hsep' i (by simpa using hisz)).2 j (by simpa using hji);rw[zod] at h2;rcases h2 with h2 | h2
    ·exact(hwait j hjs h2 hjl).elim
    ·rw[zlg,zlg,hx,hy] at h2;exact h2
   rcases(hmem i).2 ⟨hisz,hli⟩ with hil | ⟨hKi,_⟩
   ·obtain⟨l1,l3,rfl⟩:=zoe hil
    have hap:∀ j∈l1,∀ x y,ops[j]?=some x->ops[i]?=some y->sd ops ex x y=true:=fun j hj=>
     hapart j (zlt _ hj) ((zl0.1 hsort).2.2 j hj i (mb ..))
    obtain⟨o',us,ho',hd,sx,rest⟩:=ParI.front l1 hap hp;obtain rfl:oi=o':=by rw[ho] at ho';exact Option.some.inj ho'
    have hst:=sx κ a u (fun _ _=>rfl) hh;refine After.wpOpIn ho ?_;refine After.mono (fun a' u' hh'=>?_) hst;have hli':i<listed.size:=T;have hiK:=hlK i hil;refine ih (listed.setIfInBounds i true) (l1++l3) _ a' u' (by simp at hlen |-;omega) ?_ (by simpa using hsz) ?_ ?_ (fun j hj=>hlK j (by rcases mn.1 hj with h | h;exact zlt _ h;exact zma _ (mc _ h))) rest hh'
    ·rw[zl0] at hsort |-;exact⟨hsort.1,(mg.1 hsort.2.1).2,fun x hx y hy=>hsort.2.2 x hx y (mc _ hy)⟩
    ·intro j;rw[tp true hli']
     have hnd:i∉l1++l3:=by
      rw[zl0] at hsort;intro hm;rcases mn.1 hm with hm | hm
      ·have:=hsort.2.2 i hm i (mb ..);omega
      ·have:=(mg.1 hsort.2.1).1 i hm;omega
     by_cases hij:i=j
     ·subst hij;simp [hnd];omega
     ·rw[nc hij,<-hmem j];simp only[mn,nz];constructor
      ·rintro((h | h) | h);exact .inl (.inl h);exact .inl (.inr (.inr h));exact .inr h
      ·rintro((h | h | h) | h);exact .inl (.inl h);exact ni h.symm hij;exact .inl (.inr h);exact .inr h
    ·intro k hk hkl e he hb;rw[tp _ hli'] at hkl |-;by_cases hie:i=e.on
     ·rw[na hie]
     ·rw[nc hie];by_cases hik:i=k
      ·subst hik;rw[hio] at he;exact hall e he hb
      ·rw[nc hik] at hkl;exact hcl k hk hkl e he hb
   ·by_cases hKe:i=K
    ·subst hKe;obtain rfl:oi=o:=by rw[ho] at hoK;exact Option.some.inj hoK
     refine Cl l (fun j hj x hx=>?_) hp κ a u (fun _ _=>rfl) hh _;have:=hapart j hj (hlK j hj) x oi hx ho;simp only[sd,zly] at this;exact this.1
    ·exfalso;simp only[zcv,zlj,zod] at hw;rcases hw i (by simpa using hisz) with h | h
     ·have:=np h;omega
     ·exact hwait K hK h hKl
end sound
section code
variable         {ex:Exs} {os:List Oper}
def zil(P:Program)(F:Fr)(B:Heap)(n:Nat)(O:Boxes)(ops:Array Oper)(ex:Exs)(K:Nat)(o:Oper)(κ:Kap)(os:List Oper)(zpf:Exit->Act->World->Prop):Prop:=
 zfs P (Has F B O n) ops ex (O5 P (Has F B O n) ops ex F.r zpf K o) os κ
def Dj{id:Nat}{l:List Oper}(K:Nat)(ex:Exs)(hm:P.follows .mixedOrders=true)(ho:l[K]?=some o)(hs:(zdh l.toArray ex && zcv l.toArray K)=true)
  (h:zil P F B n O l.toArray ex K o κ (l.take K) zpf):V P F B n O κ (.region id l.toArray true) zpf:=fun a u hh=>by
 rw[zly] at hs
 have hK:K<l.length:=by
  rcases m5 K l.length with h | h
  ·exact h
  ·rw[zld h] at ho;cases ho
 refine wpIn_region_any hm (Ri (St:=Has F B O n) (ex:=ex) (o:=o) hs.1 hs.2 (by simpa using ho) (by simpa using hK) l.toArray.size _ (List.range' 0 K) κ a _ (by simpa using hK) List.pairwise_lt_range' (by simp) ?_ ?_ (fun i hi=>by have:=List.mem_range'_1.1 hi;omega) ?_ hh.drew)
 ·intro i;constructor
  ·rintro(h | h)
   ·have:=List.mem_range'_1.1 h;refine⟨by simp;omega,?_⟩;have:i<l.length:=T;simp [this]
   ·have:i<l.length:=by simpa using h.2
    refine⟨h.2,?_⟩;simp [this]
  ·rintro⟨h,_⟩;by_cases hi:i<K
   ·exact .inl (List.mem_range'_1.2 ⟨mf _,by omega⟩)
   ·exact .inr ⟨by omega,h⟩
 ·intro k hk hkl;simp at hk;simp [hk] at hkl
 ·refine Cs K 0 (by simp;omega) ?_;rw[zl7];exact h
def jp{K:Nat}{ok:Oper}{k:Kn}(hs:StepOK P F B n ops O κ o d k)(hd:vd o=some d)(h:zil P F B n O ops ex K ok (upd κ d k) os zpf):zil P F B n O ops ex K ok κ (o::os) zpf:=
 ⟨[(d,k)],fun p hp=>by simp at hp;subst hp;simp [tch,hd],hs.stepG,h⟩
def iu{K:Nat}(ll:List (Nat×Kn))(hin:(ll.all fun p=>(lks ops ex o).contains p.1)=true)(hl:LiveOK ll κ)(h:N F B n O (ofL ll) (QX P F ops K zpf)):zil P F B n O ops ex K o κ [] zpf:=fun κ' a u hag hh Kk=>by
 have key:∀ l:List (Nat×Kn),(l.all fun p=>(lks ops ex o).contains p.1)=true->LiveOK l κ->LiveOK l κ':=by
  intro l
  induction l with
  | nil=>intro _ _;trivial
  | cons p l ih=>
   intro h1 h2;rw[List.all_cons,zly] at h1;exact⟨(hag p.1 (by simpa using h1.1)).trans h2.1,ih h1.2 h2.2⟩
 exact h a u (hh.live (key ll hin hl)) Kk
end code
end Go.V
namespace Go.V.L11
open Go.V.L4
def Na{sb:Nat}{bs:List Nat}{fr:Int}(hb:∀ b∈bs,b<=255)(hl:bs.length<=1099511627776)(hat:R.at_<=bs.length)(hB:zpg B w)(hs:BsV bs fu sv B)(hr:(xp sb rb sv fr R).P B w C)(hC:ZCB C w B):
  RetX zph 151 [xz rb] w B C (xp sb rb sv fr (iz bs R).2) (.int .u64 ((iz bs R).1:Nat)):=
 RetL.mono (RetY.conv (RetY.frame (E3 hr) hC fun C1 h1 hC1=>(K5 hb hl hat hB hs h1 hC1).toY) fun _ _ _ h=>E3 h:RetY _ _ _ _ _ _ (xp sb rb sv fr (iz bs R).2) fun x _=>x=.int .u64 ((iz bs R).1:Nat)) fun _ _ _ _ h=>h
attribute [local irreducible] V N X VO Par XP LV StepOK Has Ret RetL RetO RetT ki RetX RetY Pan aa Src
open Go.V.L2 Go.V.L6
abbrev tySt:TypeId:=37
def Tz(hr:r≠0){p:Option Addr}{c:Nat}{t:Int}(hB:zpg B w):
  Ret zph 152 [.agg #[.slice p k c,.int .i64 t],.int .u64 r,.int .i64 0] w B (fun v _=>v=.tuple #[.agg #[.slice p k c,.int .i64 t],.int .i64 0]):=by
 refine yh Tryz.func152 Z Tryz.ntmps152 (np Z) hB ((Z7∘Z2∘Zd∘Z6∘ZaZ∘Zac∘Zan∘Zp∘Zq∘Zan∘ZT∘ZG∘ZbM∘ZaS∘Za1∘ZaQ) ?_);refine yg1 L [.cell 6 224,.tmp 7] fun u H hH hle=>?_;exact⟨_,qw Z,rfl,rfl⟩
end Go.V.L11
namespace Go.V.L3
open Go.V.L2
attribute [local irreducible] V N X VO Par StepOK Has Ret RetL RetO RetT Src
abbrev tyI:TypeId:=3
end Go.V.L3
namespace Go.V
def Ai(n:Nat):ByteArray:=match n%3 with
 | 0=>⟨#[100,111,99]⟩
 | 1=>⟨#[102,111,108,100,101,114]⟩
 | _=>⟨#[103,114,111,117,112]⟩
def idS(n:Nat):ByteArray:=match n%5 with
 | 0=>⟨#[97]⟩
 | 1=>⟨#[98]⟩
 | 2=>⟨#[99,49]⟩
 | 3=>⟨#[100]⟩
 | _=>⟨#[114,111,111,116]⟩
def zdo(n:Nat):ByteArray:=match n%4 with
 | 0=>⟨#[118,105,101,119,101,114]⟩
 | 1=>⟨#[101,100,105,116,111,114]⟩
 | 2=>⟨#[109,101,109,98,101,114]⟩
 | _=>⟨#[112,97,114,101,110,116]⟩
def de(n:Nat):chk (Ai n)=0/\(Ai n).size<=16:=by
 unfold Ai;split<;>decide+kernel
def C8(n:Nat):chk (idS n)=0/\(idS n).size<=16:=by
 unfold idS;split<;>decide+kernel
def D9(n:Nat):chk (zdo n)=0/\(zdo n).size<=16:=by
 unfold zdo;split<;>decide+kernel
def E0(n:Nat):(ByteArray×ByteArray)×ByteArray:=((Ai n,idS (n/3)),zdo (n/15))
def zaq(n:Nat):p7 [(E0 n).1.1,(E0 n).1.2,(E0 n).2]=0:=by
 simp only[p7,E0,(de _).1,(C8 _).1,(D9 _).1,na]
def Qs(n:Nat):(E0 n).1.1.size<=16/\(E0 n).1.2.size<=16/\(E0 n).2.size<=16:=⟨(de _).2,(C8 _).2,(D9 _).2⟩
def _root_.ZcW(t:Wr Y->A:=by intro h;refine z7 (S0 Z Z Z Z T M) Z ?_;exact h.1)(h:Y):A:=t ⟨h⟩
def _root_.ZeZ(t:Wr Y->A:=by intro h;refine z7 (pq L 0 rfl Z Z Z Z Z Z T) Z ?_;exact h.1)(h:Y):A:=t ⟨h⟩
def _root_.Zfa(t:Wr Y->A:=by intro h;refine z7 (pq L 1 rfl Z Z Z Z Z Z T) Z ?_;exact h.1)(h:Y):A:=t ⟨h⟩
def _root_.Zfb(t:Wr Y->A:=by intro h;refine z7 (pq L 2 rfl Z Z Z Z Z Z T) Z ?_;exact h.1)(h:Y):A:=t ⟨h⟩
attribute [local irreducible] V N X VO Par StepOK Has Ret RetL Src
def Ga(n:Nat)(hB:zpg B w):Ret zph 162 [.int .i64 n] w B (fun v _=>v=.string (Ai n)):=by
 unfold Ai;have e:Int.tmod (n:Int) 3=((n%3:Nat):Int):=rfl;refine yh Tryz.func162 Z Tryz.ntmps162 (np Z) hB ?_;have hlt:=zmy n (show 0<3 by decide);rcases(by omega:n%3=0\/n%3=1\/n%3=2) with h | h | h
 ·have e0:Int.tmod (n:Int) 3=0:=by rw[e,h];rfl
  rw[h];refine(Z0∘Zae∘Za∘ZcW∘ZeZ∘ZcG∘Zc) ?_;exact yg2 L [.tmp 2]
 ·have e0:Int.tmod (n:Int) 3=1:=by rw[e,h];rfl
  rw[h];refine(Z0∘Zae∘Za∘ZcW∘Zfa∘ZcG∘Zc) ?_;exact yg2 L [.tmp 2]
 ·have e0:Int.tmod (n:Int) 3=2:=by rw[e,h];rfl
  rw[h];refine(Z0∘Zae∘Za∘ZcW∘Zfb∘ZcG∘Zc) ?_;exact yg2 L [.tmp 2]
def id_ret(n:Nat)(hB:zpg B w):Ret zph 163 [.int .i64 n] w B (fun v _=>v=.string (idS n)):=by
 unfold idS;have e:Int.tmod (n:Int) 5=((n%5:Nat):Int):=rfl;refine yh Tryz.func163 Z Tryz.ntmps163 (np Z) hB ?_;have hlt:=zmy n (show 0<5 by decide);rcases(by omega:n%5=0\/n%5=1\/n%5=2\/n%5=3\/n%5=4) with h | h | h | h | h
 ·have e0:Int.tmod (n:Int) 5=0:=by rw[e,h];rfl
  rw[h];refine(Z0∘Zae∘Za∘ZcW∘ZeZ∘ZcG∘Zc) ?_;exact yg2 L [.tmp 2]
 ·have e0:Int.tmod (n:Int) 5=1:=by rw[e,h];rfl
  rw[h];refine(Z0∘Zae∘Za∘ZcW∘Zfa∘ZcG∘Zc) ?_;exact yg2 L [.tmp 2]
 ·have e0:Int.tmod (n:Int) 5=2:=by rw[e,h];rfl
  rw[h];refine(Z0∘Zae∘Za∘ZcW∘Zfb∘ZcG∘Zc) ?_;exact yg2 L [.tmp 2]
 ·have e0:Int.tmod (n:Int) 5=3:=by rw[e,h];rfl
  rw[h];refine(Z0∘Zae∘Za∘ZcW) ?_;refine z7 (pq L 3 rfl Z Z Z Z Z Z T) Z ((ZcG∘Zc) ?_);exact yg2 L [.tmp 2]
 ·have e0:Int.tmod (n:Int) 5=4:=by rw[e,h];rfl
  rw[h];refine(Z0∘Zae∘Za∘ZcW) ?_;refine z7 (pq L 4 rfl Z Z Z Z Z Z T) Z ((ZcG∘Zc) ?_);exact yg2 L [.tmp 2]
def Sf(n:Nat)(hB:zpg B w):Ret zph 164 [.int .i64 n] w B (fun v _=>v=.string (zdo n)):=by
 unfold zdo;have e:Int.tmod (n:Int) 4=((n%4:Nat):Int):=rfl;refine yh Tryz.func164 Z Tryz.ntmps164 (np Z) hB ?_;have hlt:=zmy n (show 0<4 by decide);rcases(by omega:n%4=0\/n%4=1\/n%4=2\/n%4=3) with h | h | h | h
 ·have e0:Int.tmod (n:Int) 4=0:=by rw[e,h];rfl
  rw[h];refine(Z0∘Zae∘Za∘ZcW∘ZeZ∘ZcG∘Zc) ?_;exact yg2 L [.tmp 2]
 ·have e0:Int.tmod (n:Int) 4=1:=by rw[e,h];rfl
  rw[h];refine(Z0∘Zae∘Za∘ZcW∘Zfa∘ZcG∘Zc) ?_;exact yg2 L [.tmp 2]
 ·have e0:Int.tmod (n:Int) 4=2:=by rw[e,h];rfl
  rw[h];refine(Z0∘Zae∘Za∘ZcW∘Zfb∘ZcG∘Zc) ?_;exact yg2 L [.tmp 2]
 ·have e0:Int.tmod (n:Int) 4=3:=by rw[e,h];rfl
  rw[h];refine(Z0∘Zae∘Za∘ZcW) ?_;refine z7 (pq L 3 rfl Z Z Z Z Z Z T) Z ((ZcG∘Zc) ?_);exact yg2 L [.tmp 2]
end Go.V
namespace Go.V.L2
def zc8(s:Nat):gj:=((Ai s,idS (s/3)),if 15<=s then zdo (s/15-1) else ⟨#[]⟩)
def Ys(a b:Nat):U:=(E0 (a%60),zc8 (b%75))
abbrev ty2:TypeId:=88
def pcs(p:Nat×Nat):List Value:=[.int .u8 p.1,.int .u8 p.2]
def zdx(p:Nat×Nat):(pcs p).length=2:=rfl
abbrev PS2(ps:List (Nat×Nat))(fu:Bool):Value->Heap->Prop:=SlV ty2 2 (ps.flatMap pcs) ps.length fu
def zi2(h:ps[j]?=some (a,b)):((ps.flatMap pcs).drop (j*2)).take 2=[.int .u8 a,.int .u8 b]:=ut zdx ps j _ h
def tl(ps:List (Nat×Nat)):List U:=(ps.take 20).map fun p=>Ys p.1 p.2
def F4(ps:List (Nat×Nat)):(tl ps).length=min 20 ps.length:=by simp [tl]
def zf9(h:ps[i]?=some (a,b))(hi:i<20):(tl ps)[i]?=some (Ys a b):=by
 unfold tl;rw[zlu,zmv hi,h];rfl
def Rw(s:Nat):(zc8 s).1.1.size<=16/\(zc8 s).1.2.size<=16/\(zc8 s).2.size<=16:=by
 refine⟨(de _).2,(C8 _).2,?_⟩;unfold zc8;dsimp only;split
 ·exact(D9 _).2
 ·decide
def Ss(a b:Nat):TZ (Ys a b):=by
 have h1:=Qs (a%60);have h2:=Rw (b%75);unfold TZ Ys;dsimp only;refine⟨⟨?_,?_,?_⟩,?_,?_,?_⟩<;>omega
def zd3(a b:Nat):tE (Ys a b)=0:=by
 unfold tE Ys;dsimp only;rw[na (zaq _)];unfold zc8 B8;dsimp only;by_cases h:15<=b%75
 ·rw[na h];split
  ·simp only[p7,(de _).1,(C8 _).1,na]
  ·simp only[p7,(de _).1,(C8 _).1,(D9 _).1,na]
 ·rw[nc h,na rfl];simp only[p7,(de _).1,(C8 _).1,na]
def zb0{t:U}(h:t∈tl ps):TZ t/\tE t=0:=by
 obtain⟨p,_,rfl⟩:=m8.1 h;exact⟨Ss _ _,zd3 _ _⟩
attribute [local irreducible] V N X VO Par StepOK Has Ret RetL Src
def Su(a b:Nat)(ha:a<=255)(hb:b<=255)(hB:zpg B w):Ret zph 90 [.agg #[.int .u8 a,.int .u8 b]] w B (fun v _=>v=uv (Ys a b)):=by
 have e60:Int.tmod (a:Int) 60=((a%60:Nat):Int):=rfl;have e75:Int.tmod (b:Int) 75=((b%75:Nat):Int):=rfl;have hlt:=zmy a (show 0<60 by decide);have hlt2:=zmy b (show 0<75 by decide);unfold Ys;generalize a%60=m at e60 hlt;generalize b%75=s at e75 hlt2;have q1:(m:Int).tdiv 3=((m/3:Nat):Int):=rfl;have q2:(m:Int).tdiv 15=((m/15:Nat):Int):=rfl;have q3:(s:Int).tdiv 3=((s/3:Nat):Int):=rfl;have q4:(s:Int).tdiv 15=((s/15:Nat):Int):=rfl;have d1:IntKind.i64.wrap ((m:Int).tdiv 3)=((m/3:Nat):Int):=yy T T;have d2:IntKind.i64.wrap ((m:Int).tdiv 15)=((m/15:Nat):Int):=yy T T;have d3:IntKind.i64.wrap ((s:Int).tdiv 3)=((s/3:Nat):Int):=yy T T;have d4:IntKind.i64.wrap ((s:Int).tdiv 15)=((s/15:Nat):Int):=yy T T;unfold E0 zc8;refine yh Tryz.func90 Z Tryz.ntmps90 (np Z) hB ((Z7∘Z2∘Zg∘Zc0) ?_);refine z8 (A5 L _ Z Z Z Z zke Z Z (by first | omega | decide)) Z ?_;refine ZeP (h:=?_);refine z8 (S0 Z Z Z Z T M) Z (z8 (kg Z Z Z zay.1 zay.2 (yy T T)) Z (z8 (A5 L _ Z Z Z Z zke Z Z (by first | omega | decide)) Z ?_));refine ZeP (h:=?_);refine z8 (S0 Z Z Z Z T M) Z (z8 (kg Z Z Z zay.1 zay.2 (yy T T)) Z ((Zbd∘ZbC∘Zo) ?_));refine z71 L Z (fun u H hH _=>Ga _ hH) ?_;refine(Za∘ZcE) ?_;refine z71 L Z (fun u H hH _=>id_ret _ hH) ?_;refine(Zeg∘Za∘ZcE) ?_;refine z71 L Z (fun u H hH _=>Sf _ hH) ?_;refine(ZdT∘Za) ?_;refine z71 L Z (fun u H hH _=>Ga _ hH) ?_;refine(Za∘ZcE) ?_;refine z71 L Z (fun u H hH _=>id_ret _ hH) ?_;refine(Zeg∘ZdF∘Zcm∘ZbA) ?_;by_cases h:15<=s
 ·rw[na h];have hs1:IntKind.i64.wrap (((s/15:Nat):Int)-1)=((s/15-1:Nat):Int):=(yy T T).trans T;refine sn 5 rfl fun b5 hb5=>?_;refine(Zp∘ZbK∘Z9∘ZcE∘Zar) ?_;refine z71 L Z (fun u H hH _=>Sf _ hH) ?_;refine(ZaB∘ZaB∘ZdM∘Zg∘ZE) ?_;refine z7 (zx L (vs:=[_,_,_,_,_,_]) (o4 Z (List.Mem.head _)) Z Z Z Z ⟨_,rfl⟩) Z (Zam (h:=?_));refine yg1 L [.cell 2 57] fun u H hH hle=>?_;refine ZcH (h:=?_);rfl
 ·rw[nc h];refine(Zp∘Za6∘Zn∘ZE∘Zbq∘Zam) ?_;refine yg1 L [.cell 2 57] fun u H hH hle=>?_;refine ZcH (h:=?_);rfl
def zc4{ps:List (Nat×Nat)}(hps:∀ p∈ps,p.1<=255/\p.2<=255)(hlen:ps.length<=9223372036854775807)(hB:zpg B w)(hv:PS2 ps fu sv B):
  Ret zph 36 [.agg #[sv]] w B (US (tl ps) false):=by
 refine yh Tryz.func36 Z Tryz.ntmps36 (np Z) hB ((Z7∘Zaf∘Zi) ?_);refine gh 3 tyU 6 rfl ((Zx∘ZaR) ?_);have hll:=F4 ps
 refine xm (fun i:Nat=>[(1,.sat (At [sv] 24 0)),(3,.own (SlR tyU 6 ((tl ps).take i).length (((tl ps).take i).flatMap ucs))),(4,.is (.int .i64 i))])
  (fun i=>i<=(tl ps).length) (fun i=>(tl ps).length-i) 0 (mf _) ⟨rfl,rfl,rfl,nm⟩ ?_
 rintro i hi;have hli:=mi (i:=i) (l:=tl ps);by_cases h1:i<ps.length
 ·by_cases h2:i<20
  ·obtain⟨⟨a,b⟩,hn⟩:=xi h1;have hc:=zi2 hn;have hab:=hps _ (zln hn);have hg:=zf9 hn h2;generalize hgg:Ys a b=t at hg;refine(Ze∘Zp∘Zai) ?_;refine c7 7 (PS2 ps fu) Z nw hv ((ZcL∘Zab∘Zb∘Zab∘Zl∘ZD∘Zal∘Zak∘ZE) ?_);refine zy (yo (.inl Z) Z) (Zai (h:=?_));refine c7 18 (PS2 ps fu) Z nw hv ((Za∘Zaa∘Zdq) ?_);refine z7 (zz (r:=uv t) L Z Z (zn Z) Z Z Z (fun u H hH _ _=>hgg ▸ Su a b hab.1 hab.2 hH)) Z ((Zae∘ZdP) ?_);refine zy (yo (.inr Z) Z) ((Zbp∘Z9∘ZbW) ?_);exact yn (x:=i) (i+1) T T ⟨Z,by rw[Cj hg];exact Xv Z,Z,nm⟩
  ·obtain rfl:i=(tl ps).length:=by omega
   rw[zla];refine(Ze∘Zp∘Zai) ?_;refine c7 7 (PS2 ps fu) Z nw hv ((ZcL∘Zab∘Zb∘Zac∘Zl∘ZZ∘ZaD∘Zaw) ?_);refine zy (yo (.inl Z) Z) (zy (yo (.inr Z) Z) (Zs (h:=?_)));refine l6 2 rfl ?_;refine yg1 L [.tmp 2] fun u H hH hle=>?_;exact fun v hv=>hv
 ·obtain rfl:i=(tl ps).length:=by omega
  rw[zla];refine(Ze∘Zp∘Zai) ?_;refine c7 7 (PS2 ps fu) Z nw hv ((ZcL∘Zac∘ZaF∘Zl∘ZZ∘ZaD∘Zaw) ?_);refine zy (yo (.inl Z) Z) (zy (yo (.inr Z) Z) (Zs (h:=?_)));refine l6 2 rfl ?_;refine yg1 L [.tmp 2] fun u H hH hle=>?_;exact fun v hv=>hv
end Go.V.L2
namespace Go.V.L3
open Go.V.L2
attribute [local irreducible] V N X VO Par StepOK Has Ret RetL RetO RetT Src
end Go.V.L3
namespace Go.V.L6
open Go.V.L2 Go.V.L3
abbrev d0:U:=(((⟨#[100,111,99]⟩,⟨#[97]⟩),⟨#[118,105,101,119,101,114]⟩),((⟨#[117,115,101,114]⟩,⟨#[120]⟩),⟨#[]⟩))
abbrev d1:U:=(((⟨#[100,111,99]⟩,⟨#[97]⟩),⟨#[118,105,101,119,101,114]⟩),((⟨#[103,114,111,117,112]⟩,⟨#[103]⟩),⟨#[109,101,109,98,101,114]⟩))
abbrev d2:U:=(((⟨#[100,111,99]⟩,⟨#[98]⟩),⟨#[118,105,101,119,101,114]⟩),((⟨#[117,115,101,114]⟩,⟨#[120]⟩),⟨#[]⟩))
def tzB(t:U):Bool:=decide (t.1.1.1.size<=1000) && decide (t.1.1.2.size<=1000) && decide (t.1.2.size<=1000) && decide (t.2.1.1.size<=1000) && decide (t.2.1.2.size<=1000) && decide (t.2.2.size<=1000)
def Mz{t:U}(h:tzB t=true):TZ t:=by
 unfold tzB at h;simp only[zly,decide_eq_true_eq] at h;unfold TZ;omega
attribute [local irreducible] V N X VO Par StepOK Has Ret RetL RetO RetT Src
abbrev C3:=Nat×Nat×Nat
structure SOK(l:List U):Prop where
 sst:Sst kq l
 tz:∀ t∈l,TZ t
 ok:∀ t∈l,tE t=0
def Xr{l:List U}(h:SOK l){x:U}(hz:TZ x)(hx:tE x=0)(d:Bool)(hl:l.length<4096):SOK (wq l x d).1/\(wq l x d).2=0/\(wq l x d).1.length<=l.length+1:=by
 refine⟨⟨Rj h.sst x d,fun t ht=>?_,fun t ht=>?_⟩,?_⟩
 ·rcases Fu ht with ht | rfl
  ·exact h.tz t ht
  ·exact hz
 ·rcases Fu ht with ht | rfl
  ·exact h.ok t ht
  ·exact hx
 ·unfold wq;rw[na hx];split
  ·exact⟨rfl,znc (zm9 _ _)⟩
  ·split
   ·exact⟨rfl,zl1 _⟩
   ·rw[nc T,wv];exact⟨rfl,ns _⟩
def No:∀ (r:List U) {out:List U},(∀ t∈r,tE t=0)->out.length+r.length<=4096->ofU out r=(u5 kq out r,0)
 | [],_,_,_=>rfl
 | t::r,out,hr,hl=>by
  simp only[ny] at hl
  have h1:wq out t false=(if t∈out then out else tg kq t out,0):=by
   unfold wq;rw[na (hr t (mb ..)),nc E];split
   ·rfl
   ·rw[nc T]
  rw[ofU,h1,na rfl,Pr];refine No r (out:=if t∈out then out else tg kq t out) (fun z hz=>hr z (mc _ hz)) ?_;split
  ·omega
  ·rw[wv];omega
end Go.V.L6
namespace Go.V.L8
open Go.V.L2 Go.V.L3 Go.V.L6
def _root_.ZcX(t:Wr Y->A:=by intro h;refine z7 (yk L (vs:=[_,_,_,_,_,_,_]) Z Z Z Z Z ⟨_,rfl⟩) Z ?_;exact h.1)(h:Y):A:=t ⟨h⟩
def _root_.Zdr(t:Wr Y->A:=by intro h;refine z7 (zx L (vs:=[_,_,_,_,_,_,_]) (qw Z) Z Z Z Z ⟨_,rfl⟩) Z ?_;exact h.1)(h:Y):A:=t ⟨h⟩
def Ux{s:List U}(h0:cE 32 l=0){c:CH}(h:∀ (j:Nat) x,j<i->l[j]?=some x->si s x=true)(hc:l[i]?=some c)(hh:si s c=false):ee s l=(i,13):=by
 unfold ee;rw[if_pos h0];exact Qv h hc hh
def Qu{s:List U}(h0:cE 32 l=0)(h:∀ (j:Nat) x,l[j]?=some x->si s x=true):ee s l=(l.length,0):=by
 unfold ee;rw[if_pos h0];exact Qw fun x hx=>let ⟨j,hj⟩:=List.getElem?_of_mem hx;h j x hj
attribute [local irreducible] V N X VO Par StepOK Has Ret RetL RetO RetT Src
def Fb{l:List CH}(hz:∀ c∈l,TM c.1)(hl:l.length<=9223372036854775807)(he:cE 32 l=e)(hB:zpg B w)(hv:KS tyC l fu v B):
  Ret zph 194 [v] w B (fun r _=>r=.int .i64 e):=by
 obtain⟨p,m,c,rfl⟩:=Gc hv;refine yh Tryz.func194 Z Tryz.ntmps194 (np Z) hB ((Z7∘Zd) ?_);refine sk 1 rfl fun q H1 hs1 ⟨b,hpb,hb1⟩=>?_;subst hpb;refine(Z3∘Zcn) ?_;refine c7 3 (KS tyC l fu) Z nw (hv.le hs1.le) ((ZcL∘Zav) ?_);refine z71 L Z (fun u H hH hle=>Cy (caps:=[.pointer (some ⟨b,0,none⟩)]) hz hl Z he hH (fun i c hc u' H' hH' hle'=>ze4 hc hH' (hle' _ _ (hle _ _ hb1)) ((hv.le hs1.le).le (Heap.Le.trans hle hle')))) ?_;refine Zc (h:=?_);refine yg L (rs:=[.tmp 2]) Z (fun _ _ h=>h) hs1 fun u H hH hle=>?_;rfl
def Hm{s:List U}{c:CH}{b:Bool}(hb:si s c=b)(hB:zpg B w)(hv:SetV s v B):Ret zph 26 [v,chv c.1 c.2] w B (fun r _=>r=.bool b):=by
 subst hb;obtain⟨x,d⟩:=c;obtain⟨f1,p1,f2,q1,rfl,hpl⟩:=hv.shape;obtain⟨h,hh⟩:∃ h,decide (x∈s)=h:=⟨_,rfl⟩
 unfold si;dsimp only;rw[hh];refine yh Tryz.func26 Z Tryz.ntmps26 (np Z) hB ((Za2∘Zd∘Zc0∘Zdn∘Zb0∘ZaU) ?_);refine z81 L Z (fun u H hH hle=>jb hh hH (hv.le hle)) ?_;refine(Zb2∘Ze2∘ZaP) ?_;refine yg1 L [.tmp 4] fun u H hH hle=>?_;cases h<;>cases d<;>rfl
def first_ret{s:List U}{l:List CH}(hz:∀ c∈l,TM c.1)(hl:l.length<=9223372036854775807){r:Nat}(hr:ee s l=(r,e)){sv v:Value}(hB:zpg B w)(hs:SetV s sv B)(hv:KS tyM l fu v B):
  Ret zph 195 [sv,v] w B (fun x _=>x=.tuple #[.int .i64 r,.int .i64 e]):=by
 obtain⟨f1,p1,f2,q1,rfl,hpl⟩:=hs.shape;refine yh Tryz.func195 Z Tryz.ntmps195 (np Z) hB (k8 1 (KS tyM l fu) Z nw hv ?_);by_cases h0:cE 32 l=0
 ·refine(Z7∘Zv∘Zah∘Zk) ?_;refine z7 (zz L Z Z (zn Z) Z Z Z (fun u H hH _ _ v1 h1=>ak hz hl h0 hH h1)) Z ((Zbh∘Za5∘Z4∘ZS∘Zh∘Zbt) ?_);refine xm (fun i:Nat=>[(1,.sat (KS tyM l fu)),(2,.sat (At [f1,.pointer p1,f2,.pointer q1] ii 0)),(14,.sat (KS tyM l fu)),(15,.is (.int .i64 l.length)),(16,.is (.int .i64 i))]) (fun i=>i<=l.length/\∀ (j:Nat) x,j<i->l[j]?=some x->si s x=true) (fun i=>l.length-i) 0 ⟨mf _,fun j c h=>ni h (Nat.not_lt_zero _)⟩ ⟨Z,Z,Z,Z,Z,nm⟩ ?_;rintro i ⟨hi,hok⟩;by_cases hlt:i<l.length
  ·obtain⟨c,hc0⟩:=xi hlt;have hc:=Eu hc0;cases hh:si s c
   ·rw[Ux h0 hok hc0 hh] at hr;cases hr;refine(Zf∘ZE∘Zz∘ZL∘Zaa∘ZcX∘Z2∘Zv∘ZaL∘Zg∘ZK∘Zdm∘Zdr) ?_;refine z71 L Z (fun u H hH hle=>Hm hh hH (hs.le hle)) ?_;refine(Zt∘Zu∘Zbe∘ZM) ?_;exact yg2 L [.tmp 4,.tmp 5]
   ·refine(Zf∘ZE∘Zz∘ZL∘Zaa∘ZcX∘Z2∘Zv∘ZaL∘Zg∘ZK∘Zdm∘Zdr) ?_;refine z71 L Z (fun u H hH hle=>Hm hh hH (hs.le hle)) ?_;refine(Zt∘Zad∘ZP∘Zat∘Zbc) ?_
    exact yn (x:=i) (i+1) ⟨hlt,fun j c' hj hc'=>by
     rcases m5 j i with h | h
     ·exact hok j c' h hc'
     ·have:j=i:=T;subst this;rw[hc0] at hc';cases hc';exact hh⟩ T ⟨rfl,rfl,rfl,rfl,rfl,nm⟩
  ·rw[Qu h0 (fun j x hj=>hok j x (by have:=get_lt hj;omega) hj)] at hr;cases hr;refine(Zf∘ZE∘ZaO∘ZA∘Zh∘ZM) ?_;exact yg2 L [.tmp 4,.tmp 5]
 ·have:ee s l=(0,cE 32 l):=nc h0;rw[this] at hr;cases hr;refine(Z7∘Zv∘Zah∘Zk) ?_;refine z7 (zz L Z Z (zn Z) Z Z Z (fun u H hH _ _ v1 h1=>ak hz hl Z hH h1)) Z ((Zbh∘ZaG∘Zp∘ZM) ?_);exact yg2 L [.tmp 4,.tmp 5]
def _root_.Zce(t:Wr Y->A:=by intro h;refine z8 (zx L (vs:=[_,_,_,_]) (qw Z) Z Z Z Z ⟨_,rfl⟩) Z ?_;exact h.1)(h:Y):A:=t ⟨h⟩
def _root_.ZcY(t:Wr Y->A:=by intro h;refine zy (wn L Z Z Z (az Z) Z zig Z Z T T) ?_;exact h.1)(h:Y):A:=t ⟨h⟩
def _root_.ZdR(t:Wr Y->A:=by intro h;refine z7 (zx L (vs:=[_,_,_,_,_,_,_]) (o4 Z (List.Mem.head _)) Z Z Z Z ⟨_,rfl⟩) Z ?_;exact h.1)(h:Y):A:=t ⟨h⟩
def _root_.ZcJ(t:Wr Y->A:=by intro h;refine z8 (Ti Z Z Z Z bt4 Z) Z ?_;exact h.1)(h:Y):A:=t ⟨h⟩
def _root_.Zep(t:Wr Y->A:=by intro h;refine z8 (zx L (vs:=[_,_,_,_,_,_]) (o4 Z (List.Mem.head _)) Z Z Z Z ⟨_,rfl⟩) Z ?_;exact h.1)(h:Y):A:=t ⟨h⟩
def zhv{l:List CH}(h:cE n l=0):l.length<=n/\∀ c∈l,tE c.1=0:=by
 unfold cE at h;split at h
 ·exact ni h E
 ·split at h
  ·exact ni h E
  ·rename_i h1 h2;refine⟨by omega,fun c hc=>?_⟩;by_cases h0:tE c.1=0
   ·exact h0
   ·exact ni (zn5.2 ⟨c,hc,by simp [h0]⟩) h2
def Ce{s:ByteArray}(h:chk s=0):s.size<=1099511627776:=by
 unfold chk at h;split at h
 ·rename_i h1;omega
 ·exact ni h E
def Xw{t:U}(h:tE t=0):TZ t:=by
 unfold tE at h;split at h
 ·rename_i h1;obtain⟨c1,c2,c3⟩:=Q9 h1;obtain⟨d1,d2,d3⟩:=o3 h;refine⟨⟨Ce c1,Ce c2,Ce c3⟩,Ce d1,Ce d2,?_⟩;rcases d3 with d3 | d3
  ·rw[d3];exact mf _
  ·exact Ce d3
 ·rename_i h1;exact ni h h1
def WriteP(t:List U)(made:List CH)(e:Int)(r:Value)(H:Heap):Prop:=∃ tv mv,r=.tuple #[tv,mv,.int .i64 e]/\SetV t tv H/\KS tyC made true mv H
def WriteP.mono:Kn.mono (.sat (WriteP t made e)):=fun _ _ _ ⟨tv,mv,h1,h2,h3⟩ hle=>⟨tv,mv,h1,h2.le hle,h3.le hle⟩
def Vk(hB:zpg B w)(hv:KS tyC l fu v B):Ret zph 196 [v] w B (KS tyC l true):=by
 refine yh Tryz.func196 Z Tryz.ntmps196 (np Z) hB (k8 0 (KS tyC l fu) Z nw hv ((Z0∘Zk∘Zh∘Zh∘Zdk∘ZR∘Zs) ?_));refine yg1 L [.tmp 2] fun u H hH hle=>?_;exact fun v hv=>hv
set_option maxRecDepth 10000 in
def write_ret{s t:List U}{l cs made:List CH}{fl fc:Bool}(zl:∀ c∈l,TM c.1)(zc:∀ c∈cs,TM c.1)(ll:l.length<=9223372036854775807)(lc:cs.length<=9223372036854775807)(hsl:s.length<=4096)(hr:cz s l cs=(t,made,e)){sv lv cv:Value}(hB:zpg B w)
  (hs:SetV s sv B) (hl:KS tyM l fl lv B) (hc:KS tyC cs fc cv B):Ret zph 136 [sv,lv,cv] w B (WriteP t made e):=by
 obtain⟨f1,p1,f2,q1,rfl,hpl⟩:=hs.shape;refine yh Tryz.func136 Z Tryz.ntmps136 (np Z) hB (k8 1 (KS tyM l fl) Z nw hl (k8 2 (KS tyC cs fc) Z nw hc ?_));unfold cz at hr;by_cases h1:cE 32 l=0
 ·rw[na h1] at hr;by_cases h2:cE 32 cs=0
  ·rw[na h2] at hr;obtain⟨r,e1,hf⟩:∃ r e1,ee s l=(r,e1):=⟨_,_,rfl⟩
   rw[hf] at hr;dsimp only at hr;by_cases h3:e1=0
   ·subst h3;rw[na rfl] at hr;obtain⟨l32,hval⟩:=zhv h2;refine(Zbf∘Z2∘Zv∘Zah∘Zk) ?_;refine z7 (zz L Z Z (zn Z) Z Z Z (fun u H hH _ _ v1 g1=>ak zl ll h1 hH g1)) Z ((Zbh∘Za5∘Z4∘ZS∘Zk) ?_);refine z7 (zz L Z Z (zn Z) Z Z Z (fun u H hH _ _ v1 g1=>Fb zc lc h2 hH g1)) Z ((Zbu∘Za5∘Z4∘ZK∘Zbg∘Zk) ?_);refine z7 (zz L Z Z (zn Z) Z Z Z (fun u H hH hle _ v1 g1=>first_ret zl ll hf hH (hs.le hle) g1)) Z ((Zcd∘Zbe∘Za5∘Z4∘ZA∘Zh∘Zbt) ?_);refine ow (X:=SXp) 3 (r:=fun x=>Cell (scs x.1) ii) (φ:=B7 s) (ku s) ⟨(f1,p1,f2,q1),hpl⟩ hs Z (gh 7 tyC 7 rfl ?_)
    refine xm (fun y:Nat×List U×List CH=>[(3,.own (ExR (fun x:SXp=>Cell (scs x.1) ii) (B7 y.2.1) (ku y.2.1))),(6,.own (Cell [.nilFunc,.pointer none,.nilFunc,.pointer none] ii)),(7,.own (SlR tyC 7 y.2.2.length (y.2.2.flatMap ccs))),(40,.sat (KS tyC cs fc)),(41,.is (.int .i64 cs.length)),(42,.is (.int .i64 y.1))])
     (fun y=>y.1<=cs.length/\rq y.2.1 y.2.2 (cs.drop y.1)=(t,made,e)/\y.2.1.length<=4096/\y.2.2.length<=y.1) (fun y=>cs.length-y.1) (0,s,[]) ⟨mf _,hr,hsl,ns _⟩ ⟨rfl,rfl,rfl,rfl,rfl,rfl,nm⟩ ?_
    clear hr hs hsl;rintro⟨k,s,md⟩ ⟨hk,he,hsl,hmd⟩;dsimp only at hk he hsl hmd |-;refine vm 3 rfl fun⟨⟨f1,p1,f2,q1⟩,hpl⟩ H3 hs3 hT=>?_;have hT:SetV s (.agg #[f1,.pointer p1,f2,.pointer q1]) H3:=hT;by_cases hlt:k<cs.length
    ·obtain⟨c,hc0⟩:=xi hlt;have hc:=Eu hc0;have hv:=hval c (zln hc0);have hzt:=Xw hv;rw[ol hc0,rq] at he;obtain⟨x,d⟩:=c;dsimp only at hc hv hzt he;rcases hw:wq s x d with ⟨s',e'⟩
     rw[hw] at he;dsimp only at he;have hsl':=t8 hsl x d;rw[hw] at hsl';obtain⟨i,hin⟩:∃ i,decide (x∈s)=i:=⟨_,rfl⟩
     rw[hin] at he;by_cases h0:e'=0
     ·rw[na h0] at he;subst h0;cases i<;>cases d
      ·rw[na rfl] at he;refine(Zf∘ZV∘Zz∘ZW∘Zaa∘ZcX∘Zbx) ?_;refine sn 14 rfl fun b14 hb14=>?_;refine(ZdK∘Zce∘ZbJ∘Zep) ?_;refine z81 L rfl (fun u H hH hle=>jb hin hH (hT.le hle)) ?_;refine(ZbJ∘ZdQ∘ZcJ∘ZbC∘Zbo∘Zbg∘ZdR) ?_;refine z7 (xg (φ:=WithP s' 0) L rfl rfl (zn rfl) rfl rfl rfl WithP.mono (fun u H hH hle _=>ru hw hsl hzt hH (hT.le hle))) rfl (w6 56 rfl ?_);rintro _ H19 hs19 ⟨tv,rfl,hT19⟩;obtain⟨g1,r1,g2,r2,rfl,hpl2⟩:=hT19.shape;refine(Z1∘Z2∘Zbr∘Zi∘Za0∘Za∘Zb3∘Zb8∘Zbg∘Zbr∘Zg∘Zcc∘ZD∘Zcx) ?_;refine zy (yo (.inl rfl) rfl) ((ZdR∘Zae∘ZcY) ?_);refine zy (yo (.inr rfl) rfl) (Zbp (h:=?_));refine O4 (O':=[]) (zow _) ?_;refine(ZaM∘Zbc) ?_;exact ei (X:=SXp) 3 (r:=fun x=>Cell (scs x.1) ii) (φ:=B7 s') (ku _) ⟨(g1,r1,g2,r2),hpl2⟩ hT19 Z (wk (x:=(k,s,md)) (k+1,s',md++[(x,false)]) (hs3.trans hs19) ⟨hlt,he,hsl',by dsimp only;rw[List.length_append];show md.length+1<=k+1;omega⟩ G ⟨Z,Z,fq Z,Z,Z,Z,trivial⟩)
      ·rw[nc E] at he;refine(Zf∘ZV∘Zz∘ZW∘Zaa∘ZcX∘Zbx) ?_;refine sn 14 rfl fun b14 hb14=>?_;refine(ZdK∘Zce∘ZbJ∘Zep) ?_;refine z81 L rfl (fun u H hH hle=>jb hin hH (hT.le hle)) ?_;refine(ZbJ∘ZdQ∘ZcJ∘ZbC∘Zbo∘Zbg∘ZdR) ?_;refine z7 (xg (φ:=WithP s' 0) L rfl rfl (zn rfl) rfl rfl rfl WithP.mono (fun u H hH hle _=>ru hw hsl hzt hH (hT.le hle))) rfl (w6 56 rfl ?_);rintro _ H19 hs19 ⟨tv,rfl,hT19⟩;obtain⟨g1,r1,g2,r2,rfl,hpl2⟩:=hT19.shape;refine(Z1∘Z2∘Zbr∘Zi∘Za0∘Za∘Zb3∘Zb8∘Zbg∘Zbr∘Zg∘Zcc∘Zad∘ZP) ?_;refine O4 (O':=[]) (zow _) ?_;refine(ZaM∘Zbc) ?_;exact ei (X:=SXp) 3 (r:=fun x=>Cell (scs x.1) ii) (φ:=B7 s') (ku _) ⟨(g1,r1,g2,r2),hpl2⟩ hT19 Z (wk (x:=(k,s,md)) (k+1,s',md) (hs3.trans hs19) ⟨hlt,he,hsl',by dsimp only;omega⟩ G ⟨Z,Z,Z,Z,Z,Z,trivial⟩)
      ·rw[nc E] at he;refine(Zf∘ZV∘Zz∘ZW∘Zaa∘ZcX∘Zbx) ?_;refine sn 14 rfl fun b14 hb14=>?_;refine(ZdK∘Zce∘ZbJ∘Zep) ?_;refine z81 L rfl (fun u H hH hle=>jb hin hH (hT.le hle)) ?_;refine(ZbJ∘ZdQ∘ZcJ∘ZbC∘Zbo∘Zbg∘ZdR) ?_;refine z7 (xg (φ:=WithP s' 0) L rfl rfl (zn rfl) rfl rfl rfl WithP.mono (fun u H hH hle _=>ru hw hsl hzt hH (hT.le hle))) rfl (w6 56 rfl ?_);rintro _ H19 hs19 ⟨tv,rfl,hT19⟩;obtain⟨g1,r1,g2,r2,rfl,hpl2⟩:=hT19.shape;refine(Z1∘Z2∘Zbr∘Zi∘Za0∘Za∘Zb3∘Zb8∘Zbg∘Zbr∘Zg∘Zcc∘Zad∘ZP) ?_;refine O4 (O':=[]) (zow _) ?_;refine(ZaM∘Zbc) ?_;exact ei (X:=SXp) 3 (r:=fun x=>Cell (scs x.1) ii) (φ:=B7 s') (ku _) ⟨(g1,r1,g2,r2),hpl2⟩ hT19 Z (wk (x:=(k,s,md)) (k+1,s',md) (hs3.trans hs19) ⟨hlt,he,hsl',by dsimp only;omega⟩ G ⟨Z,Z,Z,Z,Z,Z,trivial⟩)
      ·rw[na rfl] at he;refine(Zf∘ZV∘Zz∘ZW∘Zaa∘ZcX∘Zbx) ?_;refine sn 14 rfl fun b14 hb14=>?_;refine(ZdK∘Zce∘ZbJ∘Zep) ?_;refine z81 L rfl (fun u H hH hle=>jb hin hH (hT.le hle)) ?_;refine(ZbJ∘ZdQ∘ZcJ∘ZbC∘Zbo∘Zbg∘ZdR) ?_;refine z7 (xg (φ:=WithP s' 0) L rfl rfl (zn rfl) rfl rfl rfl WithP.mono (fun u H hH hle _=>ru hw hsl hzt hH (hT.le hle))) rfl (w6 56 rfl ?_);rintro _ H19 hs19 ⟨tv,rfl,hT19⟩;obtain⟨g1,r1,g2,r2,rfl,hpl2⟩:=hT19.shape;refine(Z1∘Z2∘Zbr∘Zi∘Za0∘Za∘Zb3∘Zb8∘Zbg∘Zbr∘Zg∘Zcc∘ZD∘Zcx) ?_;refine zy (yo (.inl rfl) rfl) ((ZdR∘Zae∘ZcY) ?_);refine zy (yo (.inr rfl) rfl) (Zbp (h:=?_));refine O4 (O':=[]) (zow _) ?_;refine(ZaM∘Zbc) ?_;exact ei (X:=SXp) 3 (r:=fun x=>Cell (scs x.1) ii) (φ:=B7 s') (ku _) ⟨(g1,r1,g2,r2),hpl2⟩ hT19 Z (wk (x:=(k,s,md)) (k+1,s',md++[(x,true)]) (hs3.trans hs19) ⟨hlt,he,hsl',by dsimp only;rw[List.length_append];show md.length+1<=k+1;omega⟩ G ⟨Z,Z,fq Z,Z,Z,Z,trivial⟩)
     ·rw[nc h0] at he;cases he;refine(Zf∘ZV∘Zz∘ZW∘Zaa∘ZcX∘Zbx) ?_;refine sn 14 rfl fun b14 hb14=>?_;refine(ZdK∘Zce∘ZbJ∘Zep) ?_;refine z81 L rfl (fun u H hH hle=>jb hin hH (hT.le hle)) ?_;refine(ZbJ∘ZdQ∘ZcJ∘ZbC∘Zbo∘Zbg∘ZdR) ?_;refine z7 (xg (φ:=WithP s' e) L rfl rfl (zn rfl) rfl rfl rfl WithP.mono (fun u H hH hle _=>ru hw hsl hzt hH (hT.le hle))) rfl (w6 56 rfl ?_);rintro _ H19 hs19 ⟨tv,rfl,hT19⟩;obtain⟨g1,r1,g2,r2,rfl,hpl2⟩:=hT19.shape;refine(Z1∘Z2∘Zbr∘Zi∘Za0∘Za∘ZaG∘Zap∘ZcS∘Za∘ZaL∘ZM) ?_;refine yg L (rs:=[.cell 6 37,.tmp 7,.tmp 8]) Z (fun _ _ h=>h) (hs3.trans hs19) fun u H hH hle=>?_;exact⟨_,qw Z,rfl,_,_,rfl,SetV.nil,SlV.nil⟩
    ·obtain rfl:k=cs.length:=by omega
     rw[zos,rq] at he;cases he;refine(Zf∘ZV∘ZaO) ?_;refine l6 7 rfl (qg (id:=21) [] mixed J ((Zce∘ZaA) ?_));refine z8 (xg (φ:=KS tyC made true) L Z Z (zn Z) Z Z Z nw (fun u H hH _ _ v1 g1=>Vk hH g1)) Z (z8 (qp L Z Z M Z) Z ((Zci∘ZaP) ?_));refine yg L (rs:=[.cell 6 37,.tmp 7,.tmp 8]) Z (fun _ _ h=>h) hs3 fun u H hH hle=>?_;exact⟨_,qw Z,rfl,fun mv hmv=>⟨_,mv,rfl,hT.le hle,hmv⟩⟩
   ·rw[nc h3] at hr;cases hr;refine(Zbf∘Z2∘Zv∘Zah∘Zk) ?_;refine z7 (zz L Z Z (zn Z) Z Z Z (fun u H hH _ _ v1 g1=>ak zl ll h1 hH g1)) Z ((Zbh∘Za5∘Z4∘ZS∘Zk) ?_);refine z7 (zz L Z Z (zn Z) Z Z Z (fun u H hH _ _ v1 g1=>Fb zc lc h2 hH g1)) Z ((Zbu∘Za5∘Z4∘ZK∘Zbg∘Zk) ?_);refine z7 (zz L Z Z (zn Z) Z Z Z (fun u H hH hle _ v1 g1=>first_ret zl ll hf hH (hs.le hle) g1)) Z ((Zcd∘Zbe∘ZaG∘Zat∘ZcS∘Za∘ZaL∘ZM) ?_);refine yg1 L [.cell 6 37,.tmp 7,.tmp 8] fun u H hH hle=>?_;exact⟨_,qw Z,rfl,_,_,rfl,SetV.nil,SlV.nil⟩
  ·rw[nc h2] at hr;cases hr;refine(Zbf∘Z2∘Zv∘Zah∘Zk) ?_;refine z7 (zz L Z Z (zn Z) Z Z Z (fun u H hH _ _ v1 g1=>ak zl ll h1 hH g1)) Z ((Zbh∘Za5∘Z4∘ZS∘Zk) ?_);refine z7 (zz L Z Z (zn Z) Z Z Z (fun u H hH _ _ v1 g1=>Fb zc lc Z hH g1)) Z ((Zbu∘ZaG∘Zaw∘ZcS∘Za∘ZaL∘ZM) ?_);refine yg1 L [.cell 6 37,.tmp 7,.tmp 8] fun u H hH hle=>?_;exact⟨_,qw Z,rfl,_,_,rfl,SetV.nil,SlV.nil⟩
 ·rw[nc h1] at hr;cases hr;refine(Zbf∘Z2∘Zv∘Zah∘Zk) ?_;refine z7 (zz L Z Z (zn Z) Z Z Z (fun u H hH _ _ v1 g1=>ak zl ll Z hH g1)) Z ((Zbh∘ZaG∘ZI∘ZcS∘Za∘ZaL∘ZM) ?_);refine yg1 L [.cell 6 37,.tmp 7,.tmp 8] fun u H hH hle=>?_;exact⟨_,qw Z,rfl,_,_,rfl,SetV.nil,SlV.nil⟩
def Fs:∀ {cs:List CH} {s:List U} {md:List CH},SOK s->(∀ c∈cs,TZ c.1/\tE c.1=0)->s.length+cs.length<4096->∃ t made,rq s md cs=(t,made,0)/\SOK t/\t.length<=s.length+cs.length
 | [],s,md,h,_,_=>⟨s,md,rfl,h,ns _⟩
 | c::r,s,md,h,hc,hl=>by
  simp only[ny] at hl;obtain⟨hz,h0⟩:=hc c (mb ..);obtain⟨h1,h2,h3⟩:=Xr h hz h0 c.2 T;obtain⟨t,made,e,ht,hlt⟩:=Fs (cs:=r) (s:=(wq s c.1 c.2).1) (md:=if decide (c.1∈s)=c.2 then md++[c] else md) h1 (fun x hx=>hc x (mc _ hx)) T;refine⟨t,made,by rw[rq,na h2,e],ht,?_⟩;simp only[ny];omega
def writeR_ok{s:List U}(h1:cE 32 l=0)(h2:cE 32 cs=0)(h3:(ee s l).2=0):cz s l cs=rq s [] cs:=by
 unfold cz;rw[if_pos h1,if_pos h2,if_pos h3]
end Go.V.L8
namespace Go.V.L10
open Go.V.L2 Go.V.L8 Go.V.L6
structure JJ(n:Nat)(S:Sto):Prop where
 last:(kpt S.R S.R.length).isSome=true
 pin:∀ r∈S.P,(kpt S.R r).isSome=true
 so:∀ r t,kpt S.R r=some t->SOK t/\t.length<=30*S.R.length
 hR:S.R.length<=n+1
 hP:S.P.length<=n
def JJ.ne(h:JJ n S):S.R.length≠0:=by have:=dq h.last;omega
def JJ.I(h:JJ n S)(hn:n<=100):zkf S:=⟨h.last,mw (r9 _) (by have:=h.hR;omega),h.pin,fun r t ht=>by have:=(h.so r t ht).2;have:=h.hR;omega⟩
def JJ.mono(h:JJ n S)(hm:n<=m):JJ m S:=⟨h.last,h.pin,h.so,mw h.hR T,mw h.hP hm⟩
def zcg:JJ 0 newS:=⟨rfl,fun _ h=>(by cases h),fun r t h=>by
 have hr:=dq (R:=newS.R) (r:=r) (by rw[h];rfl);have h1:newS.R.length=1:=rfl;have:r=((0+1:Nat):Int):=T;subst this;have h2:kpt newS.R ((0+1:Nat):Int)=some []:=by rw[e7];rfl
 rw[h2] at h;cases h;exact⟨⟨Sst.nil,fun _ h=>(by cases h),fun _ h=>(by cases h)⟩,mf _⟩,ns _,ns _⟩
def zfx{t:U}(h:TZ t):TM t:=by
 unfold TZ at h;unfold TM;omega
def writeR_ok{s:List U}{l cs:List CH}{t:List U}{made:List CH}(h:cz s l cs=(t,made,0))(hs:SOK s)(hc:∀ c∈cs,TZ c.1/\tE c.1=0)(hl:s.length+cs.length<4096):SOK t/\t.length<=s.length+cs.length:=by
 obtain⟨t2,m2,h2,h3,h4⟩:=Fs (md:=[]) hs hc hl;unfold cz at h;split at h
 ·split at h
  ·split at h
   ·rw[h2] at h;cases h;exact⟨h3,h4⟩
   ·rename_i h1;exact ni (nh (·.2.2) h) h1
  ·rename_i h1;exact ni (nh (·.2.2) h) h1
 ·rename_i h1;exact ni (nh (·.2.2) h) h1
def zbg(h:kpt S.R S.R.length=some t):atS S 0=(t,0):=by unfold atS;rw[if_pos rfl,h]
def zai(h:JJ n S)(hn:n<=100){l cs:List CH}(hc:∀ c∈cs,TZ c.1/\tE c.1=0)(hcl:cs.length<=30):JJ (n+1) (t7 S l cs).1:=by
 obtain⟨t0,ht0⟩:∃ t0,kpt S.R S.R.length=some t0:=zmc.1 h.last;obtain⟨⟨t1,made,e1⟩,hwr⟩:∃ x,cz t0 l cs=x:=⟨_,rfl⟩
 unfold t7;rw[zbg ht0,hwr];dsimp only;by_cases he:e1=0
 ·subst he;rw[na rfl];split
  ·exact h.mono (zl1 _)
  ·have h0:=h.so _ _ ht0;have hR:=h.hR;have h1:=writeR_ok hwr h0.1 hc T;have hln:(S.R++[some t1]).length=S.R.length+1:=by rw[nr];rfl
   refine⟨?_,fun r hr=>?_,fun r t ht=>?_,?_,znc h.hP⟩
   ·dsimp only;rw[hln,tc,if_pos rfl];rfl
   ·dsimp only;rw[tc];split
    ·rfl
    ·exact h.pin r hr
   ·dsimp only at ht |-;rw[tc] at ht;rw[hln];split at ht
    ·cases ht;exact⟨h1.1,by omega⟩
    ·have h2:=h.so r t ht;exact⟨h2.1,by omega⟩
   ·dsimp only;omega
 ·rw[nc he];exact h.mono (zl1 _)
def zhh(h:JJ n S)(r:Int)(un:Bool):JJ (n+1) (zdt S r un).1:=by
 unfold zdt;by_cases hk:(kpt S.R r).isSome=true
 ·rw[na hk]
  cases un with
  | true=>
   rw[na rfl];split
   ·refine⟨h.last,fun x hx=>h.pin x ?_,h.so,znc h.hR,?_⟩
    ·dsimp only at hx;unfold Fy at hx;split at hx
     ·cases hx
     ·exact List.mem_of_mem_erase hx
    ·dsimp only;unfold Fy;split
     ·exact mf _
     ·exact mw (List.length_erase_le ..) (znc h.hP)
   ·exact h.mono (zl1 _)
  | false=>
   rw[nc E];refine⟨h.last,fun x hx=>?_,h.so,znc h.hR,?_⟩
   ·rcases mn.1 hx with hx | hx
    ·exact h.pin x hx
    ·rw[m6.1 hx];exact hk
   ·have:=h.hP;dsimp only;rw[List.length_append,List.length_singleton];omega
 ·rw[nc hk];exact h.mono (zl1 _)
def Qo(hk:1<=k):((S.R.length:Nat):Int)∉cu S.P (ko S.R) k:=fun hm=>by
 unfold cu at hm;have h1:=(zlr.1 hm).1;obtain⟨i,hi⟩:=zlx h1;have hil:i<(ko S.R).length-k:=by have:=get_lt hi;rw[mi] at this;omega
 rw[zmv hil] at hi;obtain⟨y,hy⟩:=xi (show i+1<(ko S.R).length by omega);have h3:=zmk.1 (bh S.R) i (i+1) (get_lt hi) (get_lt hy) (znr i);rw[lj hi,lj hy,Vu] at h3;have:=dq (wz.1 (zln hy));omega
def Hn{R:List (Option (List U))}{g:Int}(hg:g∈cu P0 (ko R) k):(kpt R g).isSome=true/\g∉P0:=by
 unfold cu at hg;have h1:=zlr.1 hg;exact⟨wz.1 (zn8 h1.1),fun hm=>by have:=List.count_pos_iff.2 hm;have h2:=h1.2;simp at h2;omega⟩
def zei(h:JJ n S)(keep:Int):JJ (n+1) (ri S keep).1:=by
 unfold ri;split
 ·rename_i hk;have hp:∀ g∈cu S.P (ko S.R) keep.toNat,0<g:=fun g hg=>(dq (Hn hg).1).1;refine⟨?_,fun r hr=>?_,fun r t ht=>?_,?_,znc h.hP⟩
  ·dsimp only;rw[cm,td hp,if_neg (Qo T)];exact h.last
  ·dsimp only;rw[td hp,if_neg (fun hm=>(Hn hm).2 hr)];exact h.pin r hr
  ·dsimp only at ht |-;rw[td hp] at ht;rw[cm];split at ht
   ·cases ht
   ·exact h.so r t ht
  ·dsimp only;rw[cm];exact Nat.le_succ_of_le h.hR
 ·exact h.mono (zl1 _)
def Ye{R:List (Option (List U))}(hm:MapOK es R){out:List Int}(hp:out.Perm (es.map Prod.fst)):(Go.Sort.sort So.lt out.toArray).toList=ko R:=by
 have h1:(Go.Sort.sort So.lt out.toArray).toList=out.mergeSort (fun x y=>decide (x<=y)):=Go.Sort.sortInt out;rw[h1];have hperm:=List.mergeSort_perm out (fun x y=>decide (x<=y));have hnd:(out.mergeSort (fun x y=>decide (x<=y))).Nodup:=(hperm.trans hp).nodup_iff.2 hm.nd;have hs:(out.mergeSort (fun x y=>decide (x<=y))).Pairwise fun a b=>decide (a<=b)=true:=List.pairwise_mergeSort (le:=fun x y:Int=>decide (x<=y)) (fun a b c h1 h2=>by simp at h1 h2 |-;omega) (fun a b=>by simp;omega) out;refine l8 fz ?_ (bh R) fun z=>?_
 ·refine(List.Pairwise.and hs hnd).imp ?_;rintro a b ⟨h2,h3⟩;have h4:a<=b:=by simpa using h2
  have h5:a≠b:=h3;exact Vu.2 T
 ·rw[(hperm.trans hp).mem_iff,hm.mem]
def Dd{α:Type}:∀ {l:List α} {j:Nat} {x:α},l[j]?=some x->(x::l.eraseIdx j).Perm l
 | [],_,_,h=>by cases h
 | y::l,0,x,h=>by cases h;exact List.Perm.refl _
 | y::l,j+1,x,h=>by
  have:=Dd (l:=l) (j:=j) (x:=x) (by simpa using h);exact(List.Perm.swap y x _).trans (this.cons y)
def Ud{left:Ent}{p:Int×(List U×Value)}(h:left[j]?=some p)(out:List Int):(out++[p.1]++(left.eraseIdx j).map Prod.fst).Perm (out++left.map Prod.fst):=by
 have h1:(p::left.eraseIdx j).Perm left:=Dd h;rw[mj];refine List.Perm.append_left out ?_;simpa using h1.map Prod.fst
attribute [local irreducible] V N X VO Par StepOK Has Ret RetL RetO RetT ki RetX RetY Src
abbrev zib(R:List (Option (List U))):Res:=SlE Dr 1 (ko R).length ((ko R).map (Value.int .u64))
set_option maxRecDepth 10000 in
def au{R:List (Option (List U))}{t:Nat}(hm:MapOK es R)(hn:R.length≠0)(hz:es.length<=100000)(hB:zpg B w)(hr:(StO b R.length m s t es).P B w C)(hC:ZCB C w B):
  RetT zph 141 [.pointer (some ⟨b,0,none⟩)] w B C (ae (zib R) (StO b R.length m s t es).res):=by
 have hlen:=hm.len;rw[show zib R=SlE Dr 1 es.length ((ko R).map (Value.int .u64)) by rw[hlen]];unfold RetT;refine yr 900 (StO b R.length m s t es) Tryz.func141 Z Tryz.ntmps141 (np Z) hB hr hC ?_;rw[l7];refine Zd9 (h:=?_);refine ZaN (h:=?_);refine qz (xr L 900 (Φ:=fun H=>H b=some (.cells (stc R.length m s t).toArray tyS)) (c:=.bool false) Z Z (zn Z) Z Z Z Z Z r8 (fun u H hH hle hb=>none_ret hn hb hH)) ((Zn∘Zp∘ZH) ?_);refine qz (Ls (q:=901) (vc:=vcE) mpS Z Z Z Z Z) (z7 (S7 L es.length Z Z Z zfp Z Z Z T (by unfold maxLen;omega)) Z ?_);refine zy (yo (.inr Z) Z) (Zay (h:=?_));refine zbt 3 902 rfl fun b3 rest0 _ _ hcm hcl0=>?_;refine ZbX (h:=?_);refine zy (S3 (q:=901) (vc:=vcE) mpS Z Z Z Z) (ZcK (h:=?_))
 refine xm (fun zpa:(List Int×List Value)×Ent=>[(3,.is (.slice (some ⟨b3,0,none⟩) zpa.1.1.length es.length)),(17,.own (zbv m .u64 vcE es zpa.2)),(900,.own (xk b (stc R.length m s t) tyS)),(902,.own (xk b3 (zpa.1.1.map (Value.int .u64)++zpa.1.2) Dr))])
  (fun zpa=>(zpa.1.1++zpa.2.map Prod.fst).Perm (es.map Prod.fst)/\(zpa.1.1.map (Value.int .u64)++zpa.1.2).length=es.length*1) (fun zpa=>zpa.2.length) (([],rest0),es) ⟨List.Perm.refl _,hcl0⟩ ⟨rfl,rfl,rfl,rfl,nm⟩ ?_
 rintro⟨⟨out,rest⟩,left⟩ ⟨hp,hcl⟩;dsimp only at hp hcl |-;have hpl:=hp.length_eq;rw[nr,mt,mt] at hpl;by_cases hl:left=[]
 ·subst hl;rw[zlm,mq] at hp;have hol:out.length=es.length:=by simpa using hpl
  have hr0:rest=[]:=mz (by rw[nr,mt] at hcl;omega);subst hr0;rw[hol];have hsk:=Ye hm hp;refine(Zf∘ZE) ?_;refine z7 (S4 Z Z Z Z Z) Z ((Zcf∘Zfe∘ZaD) ?_);refine zh4 17 901 rfl ?_;refine Zbe (h:=?_);refine zy (yq L 902 (yz b3 ((ko R).map (Value.int .u64)++[]) So.tyU) (r:=yz b3 (out.map (Value.int .u64)++[]) So.tyU) Z Z Z Z Z (fun u H C hH _ hr hC=>by have h:=So.sortU_ret (d:=out.toArray) (rest:=[]) (b:=b3) (m:=es.length) (cap:=es.length) (by simpa using hol) hz hH hr hC;unfold uC at h;rw[hsk] at h;exact h)) ?_;refine Zg (h:=?_);rw[xa,show(ko R).map (Value.int .u64)++[]=(ko R).map (Value.int .u64) from mq _];refine zcm (s:=1) 3 902 rfl Z (by rw[List.length_map,hlen,Nat.mul_one]) (by unfold maxLen;omega) ?_;refine Zat (h:=?_);refine zy (yo (.inl Z) Z) (zy (yo (.inr Z) Z) (Zs (h:=?_)));refine ZcV (h:=?_);refine jt 2 900 rfl Z (xe (StO b R.length m s t es)) ?_;exact dx Z (fun _ _ h=>h) nq Z
 ·have hll:0<left.length:=zox.2 hl;have hroom:out.length+1<=es.length:=T;have hrl:0<rest.length:=by rw[nr,mt] at hcl;omega
  have hcl2:out.length*1+1*1<=(out.map (Value.int .u64)++rest).length:=by rw[hcl];omega
  have hrr:∀ k:Int,(out.map (Value.int .u64)++rest).take (out.length*1)++([Value.int .u64 k]++(out.map (Value.int .u64)++rest).drop (out.length*1+1*1))=(out++[k]).map (Value.int .u64)++rest.drop 1:=fun k=>by
   have e1:(out.map (Value.int .u64)).length=out.length*1:=by simp
   rw[<-e1,znj,zle (ns _),zmd,zl4,mq,zmg,zlf T,mh,show(out.map (Value.int .u64)).length+1*1-(out.map (Value.int .u64)).length=1 by omega];simp
  refine(Zf∘ZE) ?_;refine Xt Z Z hl Z Z Z (fun j p hjp=>?_);refine(Zcf∘Zfd∘Zcw∘Zaw) ?_;refine z7 (Tc Z Z Z) Z ((Zcf∘Zc∘ZbY∘Zae) ?_);refine zy (Lu L (q:=902) Z Z Z Z (az Z) Z zfp T Z hroom hcl2 Z (hrr _)) (ZU (h:=?_));refine zfi 17 (zbv m .u64 vcE es (left.eraseIdx j)) Z zgm ?_
  exact yn (x:=((out,rest),left)) ((out++[p.1],rest.drop 1),left.eraseIdx j) ⟨(Ud hjp out).trans hp,by
   dsimp only;rw[nr,mt,nr,m7];rw[nr,mt] at hcl;simp only[ny,my];omega⟩ (by dsimp only;rw[List.length_eraseIdx_of_lt (get_lt hjp)];omega) ⟨by rw[List.length_append];rfl,rfl,rfl,rfl,trivial⟩
end Go.V.L10
namespace Go.V
section
variable {β:Type} [DecidableEq α] [DecidableEq β] {k:α->β} {c:β->β->Int}
theorem M9(ho:Ord3 c):∀ {S S':List α},Srt k c S->Srt k c S'->Eqv k S S'->S'=S
 | [],S',_,_,h=>mz (by rw[h.length];rfl)
 | x::r,[],_,_,h=>by have:=h.length;simp at this
 | x::r,y::r',h1,h2,h=>by
  have hxy:k x=k y:=by
   have hx:x∈y::r':=h.mem.2 (mb ..);have hy:y∈x::r:=h.mem.1 (mb ..)
   have e1:¬ c (k x) (k y)<0:=by
    rcases nz.1 hx with e | hx
    ·rw[e];exact ho.irr _
    ·exact(mg.1 h2).1 x hx
   have e2:¬ c (k y) (k x)<0:=by
    rcases nz.1 hy with e | hy
    ·rw[e];exact ho.irr _
    ·exact(mg.1 h1).1 y hy
   have:=ho.anti (k x) (k y);exact ho.eq _ _ T
  have hf:=h (k x);rw[zm0 (by simp [hxy]),zm0 (by simp)] at hf;have hxe:y=x:=(List.cons.inj hf).1;subst hxe
  have ht:Eqv k r r':=fun t=>by
   have:=h t;by_cases e:k y=t
   ·rw[zm0 (by simpa using e),zm0 (by simpa using e)] at this;exact(List.cons.inj this).2
   ·rwa [znu (by simpa using e),znu (by simpa using e)] at this
  rw[M9 ho (mg.1 h1).2 (mg.1 h2).2 ht]
omit [DecidableEq α] in
theorem Eqv.symm{A B:List α}(h:Eqv k A B):Eqv k B A:=fun t=>(h t).symm
theorem X7(ho:Ord3 c){l S S':List α}(h:Stb k c l S)(h':Stb k c l S'):S'=S:=M9 ho h.1 h'.1 (h.2.symm.trans h'.2)
def zel(k:α->β)(c:β->β->Int)(x:α):List α->List α
 | []=>[x]
 | y::l=>if c (k x) (k y)<0 then x::y::l else y::zel k c x l
omit [DecidableEq α] [DecidableEq β] in
theorem C6(ho:Ord3 c){x:α}:∀ {S:List α},Srt k c S->∃ A B,S=A++B/\zel k c x S=A++x::B/\(∀ a∈A,¬ c (k x) (k a)<0)/\∀ b∈B,c (k x) (k b)<0
 | [],_=>⟨[],[],rfl,rfl,fun a h=>(by cases h),fun a h=>(by cases h)⟩
 | y::l,h=>by
  obtain⟨h1,h2⟩:=mg.1 h;by_cases hxy:c (k x) (k y)<0
  ·refine⟨[],y::l,rfl,na hxy,fun a h=>(by cases h),fun b hb=>?_⟩;rcases nz.1 hb with rfl | hb
   ·exact hxy
   ·have h3:=h1 b hb;have:=ho.anti (k b) (k y);by_cases h4:c (k y) (k b)<0
    ·exact ho.tr hxy h4
    ·rw[<-ho.eq (k y) (k b) T];exact hxy
  ·obtain⟨A,B,e1,e2,e3,e4⟩:=C6 ho (x:=x) h2;refine⟨y::A,B,by rw[e1];rfl,?_,fun a ha=>?_,e4⟩
   ·rw[zel,nc hxy,e2];rfl
   ·rcases nz.1 ha with rfl | ha
    ·exact hxy
    ·exact e3 a ha
def B9(k:α->β)(c:β->β->Int)(l:List α):List α:=l.foldl (fun S x=>zel k c x S) []
omit [DecidableEq α] [DecidableEq β] in
theorem zde:Srt k c []:=List.Pairwise.nil
omit [DecidableEq α] in
theorem X8(ho:Ord3 c){l S:List α}{x:α}(h:Stb k c l S):Stb k c (l++[x]) (zel k c x S):=by
 obtain⟨A,B,e1,e2,e3,e4⟩:=C6 ho (x:=x) h.1;have h1:=h.1;rw[e1] at h1;have h2:=Kw ho h1 e3 e4;rw[e2];rw[<-e1] at h2;exact⟨h2.1,(h.2.app (Eqv.refl [x])).trans h2.2⟩
omit [DecidableEq α] in
theorem ud(ho:Ord3 c)(l:List α):Stb k c l (B9 k c l):=by
 suffices ∀ (r l S:List α),Stb k c l S->Stb k c (l++r) (r.foldl (fun S x=>zel k c x S) S) by
  have:=this l [] [] ⟨zde,Eqv.refl _⟩;exact this
 intro r
 induction r with
 | nil=>intro l S h;rw[mq];exact h
 | cons x r ih=>
  intro l S h;have:=ih (l++[x]) (zel k c x S) (X8 ho h);rw[mj] at this;exact this
theorem Cm(ho:Ord3 c){l S:List α}(h:Stb k c l S):S=B9 k c l:=X7 ho (ud ho l) h
theorem M6(ho:Ord3 c)(l:List α):(B9 k c l).length=l.length:=(ud (k:=k) ho l).2.length
omit [DecidableEq α] [DecidableEq β] in
theorem Yb:B9 k c []=[]:=rfl
theorem Ya(ho:Ord3 c){l:List α}(h:Srt k c l):B9 k c l=l:=(Cm ho ⟨h,Eqv.refl l⟩).symm
theorem Yc(ho:Ord3 c)(X Y:List α):B9 k c (B9 k c X++B9 k c Y)=B9 k c (X++Y):=
 Cm ho ⟨(ud ho _).1,(((ud ho X).2.app (ud ho Y).2)).trans (ud ho _).2⟩
theorem zek(ho:Ord3 c){X A B:List α}{x:α}(h:A++B=B9 k c X)(hb:∀ b∈B,c (k x) (k b)<0)(ha:∀ y,A.getLast?=some y->¬ c (k x) (k y)<0):A++x::B=B9 k c (X++[x]):=by
 have hs:=(ud (k:=k) ho X).1;rw[<-h] at hs
 have hA:∀ a∈A,¬ c (k x) (k a)<0:=fun a ham=>by
  rcases zo4 A with e | ⟨A',y,rfl⟩
  ·subst e;cases ham
  ·have h1:=ha y (by simp);simp only[zop,mn,m6] at ham;rcases ham with ham | rfl
   ·have h2:=(lf.1 hs).1;simp only[zop] at h2;have h3:=(lf.1 h2).2.2 a ham y (by simp);have e1:=ho.anti (k y) (k a);intro h4;refine h1 ?_;by_cases h5:c (k a) (k y)<0
    ·exact ho.tr h4 h5
    ·rw[<-ho.eq (k a) (k y) T];exact h4
   ·exact h1
 have h1:=Kw ho hs hA hb;rw[h] at h1;exact Cm ho ⟨h1.1,((ud (k:=k) ho X).2.app (Eqv.refl [x])).trans h1.2⟩
def chS(k:α->β)(c:β->β->Int)(n:Nat):Nat->List α->List α
 | 0,_=>[]
 | f+1,l=>if l=[] then [] else B9 k c (l.take n)++chS k c n f (l.drop n)
omit [DecidableEq α] [DecidableEq β] in
theorem bu(n f:Nat):chS k c n f []=[]:=by cases f<;>simp [chS]
omit [DecidableEq α] [DecidableEq β] in
theorem Oq{n:Nat}(hn:0<n):∀ {f g:Nat} {l:List α},l.length<=f->l.length<=g->chS k c n f l=chS k c n g l
 | 0,g,l,hf,_=>by obtain rfl:l=[]:=mz T;rw[bu,bu]
 | f+1,0,l,_,hg=>by obtain rfl:l=[]:=mz T;rw[bu,bu]
 | f+1,g+1,l,hf,hg=>by
  by_cases h:l=[]
  ·subst h;rw[bu,bu]
  ·rw[chS,chS,nc h,nc h];have:0<l.length:=zox.2 h;rw[Oq hn (f:=f) (g:=g) (by rw[m7];omega) (by rw[m7];omega)]
def chL(k:α->β)(c:β->β->Int)(n:Nat)(l:List α):List α:=chS k c n l.length l
omit [DecidableEq α] [DecidableEq β] in
theorem Fa(hn:0<n)(l:List α):chL k c n l=B9 k c (l.take n)++chL k c n (l.drop n):=by
 unfold chL;by_cases h:l=[]
 ·subst h;simp [bu,Yb]
 ·have:0<l.length:=zox.2 h;obtain⟨m,hm⟩:∃ m,l.length=m+1:=⟨l.length-1,by omega⟩
  rw[hm,chS,nc h,Oq hn (f:=m) (g:=(l.drop n).length) (by rw[m7];omega) (ns _)]
omit [DecidableEq α] [DecidableEq β] in
theorem Mk(n:Nat):chL k c n []=[]:=bu _ _
omit [DecidableEq α] [DecidableEq β] in
theorem ze2(hn:0<n){l:List α}(h:l.length<=n):chL k c n l=B9 k c l:=by
 rw[Fa hn,zle h,zlf h,Mk,mq]
theorem Vq(ho:Ord3 c){n:Nat}(hn:0<n):∀ (m:Nat) {l:List α},l.length<=m->(chL k c n l).length=l.length
 | 0,l,h=>by obtain rfl:l=[]:=mz T;rw[Mk]
 | m+1,l,h=>by
  by_cases h0:l=[]
  ·subst h0;rw[Mk]
  ·have:0<l.length:=zox.2 h0;rw[Fa hn,nr,M6 ho,Vq ho hn m (by rw[m7];omega),<-nr,m9]
end
end Go.V
namespace Go.V.L8
open Go.V Go.V.L2 Go.V.L3 Go.V.L6
def Br(l:List CH):(l.flatMap ccs).length=l.length*7:=wg Vr l
def Ol(l:List CH):(l.flatMap ccs).all vj=true:=by
 induction l with
 | nil=>rfl
 | cons x l ih=>rw[zl3,zoh,ih];rfl
abbrev ch7(c:CH):List Value:=[.string c.1.1.1.1,.string c.1.1.1.2,.string c.1.1.2,.string c.1.2.1.1,.string c.1.2.1.2,.string c.1.2.2,.bool c.2]
def wi{t:CH}(h:l[i]?=some t)(off:Nat)(ho:off=i*7):∃ r,(l.flatMap ccs++rest).drop off=ch7 t++r:=by
 subst ho;have h1:((l.flatMap ccs).drop (i*7)).take 7=ch7 t:=Eu h;have h2:=get_lt h;refine⟨((l.flatMap ccs).drop (i*7)).drop 7++rest,?_⟩;rw[zoj (by rw[Br];exact zmf _ T),<-mj];congr 1;rw[<-h1,m9]
def fi{ls:List CH}{z:CH}(h:k<ls.length)(off:Nat)(ho:off=k*7):(ls.flatMap ccs++rest).take off++(ch7 z++(ls.flatMap ccs++rest).drop (off+7))=(ls.set k z).flatMap ccs++rest:=by
 subst ho;have e1:ls=ls.take k++(ls[k]::ls.drop (k+1)):=by rw[zo5,m9]
 have hk:(ls.take k).length=k:=by rw[mi];omega
 have e2:ls.set k z=ls.take k++(z::ls.drop (k+1)):=by
  conv=>lhs;rw[e1]
  rw[zoq _ _ T,hk,zmd];rfl
 rw[e2];generalize ls.take k=A at e1 hk;generalize ls.drop (k+1)=D at e1;generalize ls[k]=y at e1;subst e1;have hA:(A.flatMap ccs).length=k*7:=by rw[Br,hk]
 simp only[zlq,zl3,mj];rw[znd hA,show k*7+7=(A.flatMap ccs).length+7 by omega,<-zlz,zm6,show(ccs y++(D.flatMap ccs++rest)).drop 7=D.flatMap ccs++rest from zor rfl];rfl
def fj{ls:List CH}(h:k<ls.length)(off:Nat)(ho:off=k*7):Nat.ble (off+7) (ls.flatMap ccs++rest).length=true:=znf (by rw[nr,Br];omega)
section
variable  {A zpd D:List α} {x y:α}
def s0(h:A.length=i):(A++x::(zpd++y::D))[i]?=some x:=by subst h;simp
def sw(h:A.length+1+zpd.length=j):(A++x::(zpd++y::D))[j]?=some y:=by
 subst h;have e:A++x::(zpd++y::D)=(A++x::zpd)++y::D:=by simp
 rw[e,zne (by simp;omega)];simp;rw[show A.length+1+zpd.length-(A.length+(zpd.length+1))=0 by omega];rfl
def Kr(hi:A.length=i)(hj:A.length+1+zpd.length=j):((A++x::(zpd++y::D)).set i y).set j x=A++y::(zpd++x::D):=by
 subst hi hj;have e:(A++x::(zpd++y::D)).set A.length y=(A++y::zpd)++y::D:=by simp
 rw[e,zoq _ _ (by simp;omega)];simp;rw[show A.length+1+zpd.length-(A.length+(zpd.length+1))=0 by omega];rfl
def M2(hi:A.length=i)(hj:A.length+1+zpd.length=j):((A++x::(zpd++y::D)).set j x).set i y=A++y::(zpd++x::D):=by
 rw[List.set_comm _ _ T];exact Kr hi hj
end
attribute [local irreducible] V N X VO Par StepOK Has Ret RetL RetO RetT Src
def Kt{P X zpf Y R:List CH}{cap e:Nat}(ha:P.length=a)(he:a+X.length+zpf.length=e)(hx:X.length=n)(hy:Y.length=n)(hm:(P++(X++(zpf++(Y++R)))).length=m)(hm1:m<=100000)(fv:Value)(hB:zpg B w)
  (hr:(yz b ((P++(X++(zpf++(Y++R)))).flatMap ccs++rest) tyC).P B w C) (hC:ZCB C w B):
  ki zph 296 [.slice (some ⟨b,0,none⟩) m cap,.int .i64 a,.int .i64 e,.int .i64 n,fv] w B C (yz b ((P++(Y++(zpf++(X++R)))).flatMap ccs++rest) tyC):=by
 unfold ki;refine yr 900 (yz b ((P++(X++(zpf++(Y++R)))).flatMap ccs++rest) tyC) Tryz.func296 Z Tryz.ntmps296 (np Z) hB hr hC ?_;rw[xa];simp only[nr] at hm;refine(ZB∘ZaR) ?_;refine xm (fun i:Nat=>[(0,.is (.slice (some ⟨b,0,none⟩) m cap)),(1,.is (.int .i64 a)),(2,.is (.int .i64 e)),(3,.is (.int .i64 n)),(10,.is (.int .i64 i)),(900,.own (xk b ((P++(Y.take i++(X.drop i++(zpf++(X.take i++(Y.drop i++R)))))).flatMap ccs++rest) tyC))]) (fun i=>i<=n) (fun i=>n-i) 0 (mf _) ⟨Z,Z,Z,Z,Z,by simp only[zl4,zl7,mh];rfl,nm⟩ ?_;rintro i hi;by_cases hlt:i<n
 ·obtain⟨x,hxi⟩:=xi (l:=X) (show i<X.length by omega);obtain⟨y,hyi⟩:=xi (l:=Y) (show i<Y.length by omega)
  have e0:P++(Y.take i++(X.drop i++(zpf++(X.take i++(Y.drop i++R)))))=(P++Y.take i)++x::((X.drop (i+1)++(zpf++X.take i))++y::(Y.drop (i+1)++R)):=by
   rw[ol hxi,ol hyi];simp
  have e1:P++(Y.take (i+1)++(X.drop (i+1)++(zpf++(X.take (i+1)++(Y.drop (i+1)++R)))))=(P++Y.take i)++y::((X.drop (i+1)++(zpf++X.take i))++x::(Y.drop (i+1)++R)):=by
   rw[zlc,zlc,hxi,hyi];simp
  have l1:(P++Y.take i).length=a+i:=by rw[nr,mi];omega
  have l2:(P++Y.take i).length+1+(X.drop (i+1)++(zpf++X.take i)).length=e+i:=by rw[l1,nr,nr,m7,mi];omega
  have g1:=s0 (x:=x) (y:=y) (zpd:=X.drop (i+1)++(zpf++X.take i)) (D:=Y.drop (i+1)++R) l1;have g2:=sw (x:=x) (y:=y) (D:=Y.drop (i+1)++R) l2;have g3:=Kr (x:=x) (y:=y) (D:=Y.drop (i+1)++R) l1 l2;rw[e0];have hlen:((P++Y.take i)++x::((X.drop (i+1)++(zpf++X.take i))++y::(Y.drop (i+1)++R))).length=m:=by rw[<-e0];simp only[nr,mi,m7];omega
  generalize (P++Y.take i)++x::((X.drop (i+1)++(zpf++X.take i))++y::(Y.drop (i+1)++R))=K at *;have h1:=get_lt g1;have h2:=get_lt g2;have q1:=wi (rest:=rest) g1 (0+(a+i)*7) T;have q2:=wi (rest:=rest) g2 (0+(e+i)*7) T;have s1:=fi (rest:=rest) (z:=y) h1 (0+(a+i)*7) T;have b1:=fj (rest:=rest) h1 (0+(a+i)*7) T;have h3:e+i<(K.set (a+i) y).length:=by rw[zna];exact h2
  have s2:=fi (rest:=rest) (z:=x) h3 (0+(e+i)*7) T;have b2:=fj (rest:=rest) h3 (0+(e+i)*7) T;rw[g3,<-e1] at s2;have a1:IntKind.i64.wrap ((a:Int)+(i:Int))=((a+i:Nat):Int):=yy T T;have a2:IntKind.i64.wrap ((e:Int)+(i:Int))=((e+i:Nat):Int):=yy T T;refine(Ze∘Z3∘Zb∘Zag∘Zal∘Zak) ?_;refine qg (id:=3) [(200029,[900]),(200035,[900]),(100036,[900]),(100037,[900])] mixed J ((Zcq∘Zcq∘ZbF) ?_);refine qn (xq L (q:=900) (vs:=[_,_,_,_,_,_,_]) Z Z Z Z q2) Z Z (ZbF (h:=?_));refine qn (xq L (q:=900) (vs:=[_,_,_,_,_,_,_]) Z Z Z Z q1) Z Z (Zr (h:=?_));refine xl (ye L (q:=900) Z Z b1 Z s1) Z (Zr (h:=?_));refine xl (ye L (q:=900) Z Z b2 Z s2) Z ((ZbU∘ZP∘Zo∘ZbW) ?_);exact yn (x:=i) (i+1) T T ⟨Z,Z,Z,Z,Z,Z,nm⟩
 ·obtain rfl:i=n:=by omega
  have t1:X.take i=X:=zle T;have t2:Y.take i=Y:=zle T;have t3:X.drop i=[]:=zlf T;have t4:Y.drop i=[]:=zlf T;rw[t1,t2,t3,t4];simp only[mh];refine(Ze∘Z3∘Zb∘Za3∘Zax) ?_;exact xo L 900 (r:=yz b _ tyC) Z (fun _ _ h=>h) nq Z Z
end Go.V.L8
namespace Go.V.L8
open Go.V.L2 Go.V.L3 Go.V.L6
def _root_.Zfc(t:Wr Y->A:=by intro h;refine qg (id:=4) [(200026,[900]),(200031,[900])] mixed J ?_;exact h.1)(h:Y):A:=t ⟨h⟩
def stC(l:List CH):List CH:=B9 (fun c=>c.1) kq l
def d7(l:List CH):(stC l).length=l.length:=M6 cmpT_ord l
attribute [local irreducible] V N X VO Par StepOK Has Ret RetL RetO RetT ki Src
def zdm{P X Y R:List CH}{cap e:Nat}(ha:P.length=a)(hmm:a+X.length=mm)(he:mm+Y.length=e)(hx:0<X.length)(hy:0<Y.length)(hm:(P++(X++(Y++R))).length=m)(hm1:m<=100000)(fv:Value)(hB:zpg B w)
  (hr:(yz b ((P++(X++(Y++R))).flatMap ccs++rest) tyC).P B w C) (hC:ZCB C w B):
  ki zph 295 [.slice (some ⟨b,0,none⟩) m cap,.int .i64 a,.int .i64 mm,.int .i64 e,fv] w B C (yz b ((P++(Y++(X++R))).flatMap ccs++rest) tyC):=by
 unfold ki;refine yr 900 (yz b ((P++(X++(Y++R))).flatMap ccs++rest) tyC) Tryz.func295 Z Tryz.ntmps295 (np Z) hB hr hC ?_;rw[xa];simp only[nr] at hm;have s1:IntKind.i64.wrap ((mm:Int)-(a:Int))=(X.length:Int):=yy T T |>.trans T;have s2:IntKind.i64.wrap ((e:Int)-(mm:Int))=(Y.length:Int):=yy T T |>.trans T;refine(ZB∘Zas∘Zaf∘Zas∘Zd∘Zak) ?_
 refine xm (fun s:(List CH×List CH)×(List CH×List CH)=>[(0,.is (.slice (some ⟨b,0,none⟩) m cap)),(2,.is (.int .i64 mm)),(4,.is fv),(10,.is (.int .i64 s.1.2.length)),(11,.is (.int .i64 s.2.1.length)),(900,.own (xk b ((P++(s.1.1++(s.1.2++(s.2.1++(s.2.2++R))))).flatMap ccs++rest) tyC))])
  (fun s=>a+s.1.1.length+s.1.2.length=mm/\mm+s.2.1.length+s.2.2.length=e/\0<s.1.2.length/\0<s.2.1.length/\s.1.1++(s.2.1++(s.1.2++s.2.2))=Y++X) (fun s=>s.1.2.length+s.2.1.length) (([],X),(Y,[])) ⟨hmm,he,hx,hy,by simp⟩ ⟨rfl,rfl,rfl,rfl,rfl,rfl,nm⟩ ?_
 rintro⟨⟨D1,X1⟩,⟨Y1,D2⟩⟩ ⟨h1,h2,h3,h4,h5⟩;dsimp only at h1 h2 h3 h4 h5 |-;have hs1:IntKind.i64.wrap ((mm:Int)-(X1.length:Int))=((mm-X1.length:Nat):Int):=yy T T |>.trans T;by_cases heq:X1.length=Y1.length
 ·have e0:P++(D1++(X1++(Y1++(D2++R))))=(P++D1)++(X1++([]++(Y1++(D2++R)))):=by simp
  have e1:(P++D1)++(Y1++([]++(X1++(D2++R))))=P++(Y++(X++R)):=by
   have:Y++(X++R)=D1++(Y1++(X1++D2))++R:=by rw[h5];simp
   rw[this];simp
  have hlen:((P++D1)++(X1++([]++(Y1++(D2++R))))).length=m:=by simp only[nr,my];omega
  rw[e0];refine(Ze∘Zb9∘Za5∘ZZ∘Zax∘Zc6∘ZC∘ZF∘Zar∘ZF) ?_;refine zy (yq L 900 (yz b (((P++D1)++(Y1++([]++(X1++(D2++R))))).flatMap ccs++rest) tyC) (r:=yz b (((P++D1)++(X1++([]++(Y1++(D2++R))))).flatMap ccs++rest) tyC) Z Z Z Z Z (fun u H C hH _ hr hC=>(by have h:=Kt (cap:=cap) (a:=mm-X1.length) (e:=mm) (n:=X1.length) (by rw[nr];omega) (by simp only[my];omega) Z heq.symm hlen hm1 fv hH hr hC;exact h))) ?_;refine ZN (h:=?_);rw[e1];exact xo L 900 (r:=yz b _ tyC) Z (fun _ _ h=>h) nq Z Z
 ·by_cases hgt:Y1.length<X1.length
  ·have hs2:IntKind.i64.wrap ((X1.length:Int)-(Y1.length:Int))=((X1.drop Y1.length).length:Int):=yy T T |>.trans (by rw[m7];omega);have lt:(X1.take Y1.length).length=Y1.length:=by rw[mi];omega
   have e0:P++(D1++(X1++(Y1++(D2++R))))=(P++D1)++(X1.take Y1.length++(X1.drop Y1.length++(Y1++(D2++R)))):=by
    conv=>lhs;rw[<-m9 Y1.length X1]
    simp only[mj]
   have e1:(P++D1)++(Y1++(X1.drop Y1.length++(X1.take Y1.length++(D2++R))))=P++((D1++Y1)++(X1.drop Y1.length++(X1.take Y1.length++(D2++R)))):=by simp
   have hlen:((P++D1)++(X1.take Y1.length++(X1.drop Y1.length++(Y1++(D2++R))))).length=m:=by rw[<-e0];simp only[nr];omega
   have hld:(X1.drop Y1.length).length=X1.length-Y1.length:=m7;rw[e0];refine(Ze∘Zb9∘Zds∘ZbD∘Zbi∘ZO∘Zu∘ZS∘ZF∘Zar∘ZF) ?_;refine zy (yq L 900 (yz b (((P++D1)++(Y1++(X1.drop Y1.length++(X1.take Y1.length++(D2++R))))).flatMap ccs++rest) tyC) (r:=yz b (((P++D1)++(X1.take Y1.length++(X1.drop Y1.length++(Y1++(D2++R))))).flatMap ccs++rest) tyC) Z Z Z Z Z (fun u H C hH _ hr hC=>(by have h:=Kt (cap:=cap) (a:=mm-X1.length) (e:=mm) (n:=Y1.length) (by rw[nr];omega) T lt Z hlen hm1 fv hH hr hC;exact h))) ?_;refine(Zs∘ZE∘Zas∘ZU) ?_;rw[e1]
   exact yn (x:=((D1,X1),(Y1,D2))) ((D1++Y1,X1.drop Y1.length),(X1.take Y1.length,D2)) ⟨by dsimp only;rw[List.length_append];omega,by dsimp only;omega,by dsimp only;omega,by dsimp only;omega,by
    dsimp only;rw[<-h5]
    conv=>rhs;rw[<-m9 Y1.length X1]
    simp only[List.append_assoc]⟩ G ⟨rfl,rfl,rfl,rfl,by dsimp only;rw[lt];rfl,rfl,trivial⟩
  ·have hs2:IntKind.i64.wrap ((Y1.length:Int)-(X1.length:Int))=((Y1.take (Y1.length-X1.length)).length:Int):=yy T T |>.trans (by rw[mi];omega);have hs3:IntKind.i64.wrap ((mm:Int)+(Y1.length:Int))=((mm+Y1.length:Nat):Int):=yy T T;have hs4:IntKind.i64.wrap (((mm+Y1.length:Nat):Int)-(X1.length:Int))=((mm+Y1.length-X1.length:Nat):Int):=yy T T |>.trans T;have lt:(Y1.take (Y1.length-X1.length)).length=Y1.length-X1.length:=by rw[mi];omega
   have ld:(Y1.drop (Y1.length-X1.length)).length=X1.length:=by rw[m7];omega
   have e0:P++(D1++(X1++(Y1++(D2++R))))=(P++D1)++(X1++(Y1.take (Y1.length-X1.length)++(Y1.drop (Y1.length-X1.length)++(D2++R)))):=by
    conv=>lhs;rw[<-m9 (Y1.length-X1.length) Y1]
    simp only[mj]
   have e1:(P++D1)++(Y1.drop (Y1.length-X1.length)++(Y1.take (Y1.length-X1.length)++(X1++(D2++R))))=P++(D1++(Y1.drop (Y1.length-X1.length)++(Y1.take (Y1.length-X1.length)++((X1++D2)++R)))):=by simp
   have hlen:((P++D1)++(X1++(Y1.take (Y1.length-X1.length)++(Y1.drop (Y1.length-X1.length)++(D2++R))))).length=m:=by rw[<-e0];simp only[nr];omega
   rw[e0];refine(Ze∘Zb9∘Zds∘ZbD∘Zbi∘ZJ∘ZZ∘ZaS∘ZF∘Zar∘Zb∘Zy∘Za∘Zar∘Zb) ?_;refine zy (yq L 900 (yz b (((P++D1)++(Y1.drop (Y1.length-X1.length)++(Y1.take (Y1.length-X1.length)++(X1++(D2++R))))).flatMap ccs++rest) tyC) (r:=yz b (((P++D1)++(X1++(Y1.take (Y1.length-X1.length)++(Y1.drop (Y1.length-X1.length)++(D2++R))))).flatMap ccs++rest) tyC) Z Z Z Z Z (fun u H C hH _ hr hC=>(by have h:=Kt (cap:=cap) (a:=mm-X1.length) (e:=mm+Y1.length-X1.length) (n:=X1.length) (by rw[nr];omega) T Z ld hlen hm1 fv hH hr hC;exact h))) ?_;refine(Zs∘ZK∘Zas∘ZU) ?_;rw[e1]
   exact yn (x:=((D1,X1),(Y1,D2))) ((D1,Y1.drop (Y1.length-X1.length)),(Y1.take (Y1.length-X1.length),X1++D2)) ⟨by dsimp only;omega,by dsimp only;rw[List.length_append];omega,by dsimp only;omega,by dsimp only;omega,by
    dsimp only;rw[<-h5]
    conv=>rhs;rw[<-m9 (Y1.length-X1.length) Y1]
    simp only[List.append_assoc]⟩ G ⟨rfl,rfl,rfl,by dsimp only;rw[ld];rfl,rfl,rfl,trivial⟩
abbrev ORD:Nat:=253
abbrev A0:Value:=.func (.func ORD) #[] #[]
def gu{x y:CH}(hB:zpg B w):Ret zph ORD ([chv x.1 x.2,chv y.1 y.2]++[]) w B (fun r _=>r=.int .i64 (kq x.1 y.1)):=by
 refine yh Tryz.func253 Z Tryz.ntmps253 (np Z) hB ((Za2∘Zaf∘ZQ∘Zb6∘ZQ∘Zb6) ?_);refine z71 L Z (fun u H hH _=>jh (a:=x.1) (b:=y.1) hH) ?_;refine Zc (h:=?_);exact yg2 L [.tmp 4]
def ins_ret{P X R:List CH}{b m cap a e:Nat}(ha:P.length=a)(he:a+X.length=e)(hm:(P++(X++R)).length=m)(hm1:m<=100000)(hB:zpg B w)
  (hr:(yz b ((P++(X++R)).flatMap ccs++rest) tyC).P B w C) (hC:ZCB C w B):
  ki zph 291 [.slice (some ⟨b,0,none⟩) m cap,.int .i64 a,.int .i64 e,A0] w B C (yz b ((P++(stC X++R)).flatMap ccs++rest) tyC):=by
 unfold ki;refine yr 900 (yz b ((P++(X++R)).flatMap ccs++rest) tyC) Tryz.func291 Z Tryz.ntmps291 (np Z) hB hr hC ?_;rw[xa];simp only[nr] at hm;have hst1:stC (X.take 1)=X.take 1:=by rcases X with _ | ⟨x,X⟩<;>rfl
 refine(ZB∘Za∘ZaE∘ZaR) ?_;refine xm (fun s:Nat=>[(0,.is (.slice (some ⟨b,0,none⟩) m cap)),(1,.is (.int .i64 a)),(2,.is (.int .i64 e)),(3,.is A0),(8,.is (.int .i64 (a+s:Nat))),(900,.own (xk b ((P++(stC (X.take s)++(X.drop s++R))).flatMap ccs++rest) tyC))]) (fun s=>1<=s/\s<=max X.length 1) (fun s=>X.length-s) 1 ⟨ns _,by omega⟩ ⟨Z,Z,Z,Z,Z,by rw[hst1,<-mj (X.take 1),m9];rfl,nm⟩ ?_;rintro s ⟨hs1,hs2⟩;by_cases hlt:s<X.length
 ·obtain⟨x,hx⟩:=xi hlt;have hsl:(stC (X.take s)).length=s:=by rw[d7,mi];omega
  refine(Ze∘Z3∘Zb∘Zag∘Zbl∘Zp∘ZaR) ?_
  refine xm (fun t:List CH×List CH=>[(0,.is (.slice (some ⟨b,0,none⟩) m cap)),(1,.is (.int .i64 a)),(2,.is (.int .i64 e)),(3,.is A0),(8,.is (.int .i64 (a+s:Nat))),(9,.is (.int .i64 (a+t.1.length:Nat))),(900,.own (xk b ((P++(t.1++(x::(t.2++(X.drop (s+1)++R))))).flatMap ccs++rest) tyC))])
   (fun t=>t.1++t.2=stC (X.take s)/\∀ z∈t.2,kq x.1 z.1<0) (fun t=>t.1.length) (stC (X.take s),[]) ⟨List.append_nil _,fun z hz=>(by cases hz)⟩ ⟨rfl,rfl,rfl,rfl,rfl,by dsimp only;rw[hsl];rfl,by dsimp only;rw[ol hx];rfl,trivial⟩ ?_
  rintro⟨A,D⟩ ⟨hAD,hD⟩;dsimp only at hAD hD |-;have hAl:A.length+D.length=s:=by rw[<-nr,hAD,hsl]
  have hfin:(∀ y,A.getLast?=some y->¬ kq x.1 y.1<0)->P++(A++(x::(D++(X.drop (s+1)++R))))=P++(stC (X.take (s+1))++(X.drop (s+1)++R)):=fun h=>by
   have:=zek (k:=fun c:CH=>c.1) cmpT_ord (x:=x) hAD hD h;rw[zlc,hx];unfold stC;show _=P++(B9 (fun c:CH=>c.1) kq (X.take s++[x])++_);rw[<-this];simp
  rcases zo4 A with hA | ⟨A',y,hA⟩
  ·subst hA;rw[hfin (fun y hy=>by simp at hy),my,znl];refine(Ze∘Zfc∘Zm∘ZcP∘Zb7∘ZdX∘Zaq∘Zax∘ZP∘Zo∘ZbW) ?_;exact yn (x:=s) (s+1) ⟨by omega,by omega⟩ T ⟨Z,Z,Z,Z,Z,Z,nm⟩
  ·rw[zop] at hA;subst hA;have hl9:(A'++[y]).length=A'.length+1:=by rw[nr,zme]
   rw[hl9] at hAl;have e0:P++((A'++[y])++(x::(D++(X.drop (s+1)++R))))=(P++A')++y::([]++x::(D++(X.drop (s+1)++R))):=by simp
   have l1:(P++A').length=a+A'.length:=by rw[nr,ha]
   have l2:(P++A').length+1+([]:List CH).length=a+(A'++[y]).length:=by rw[l1,hl9];rfl
   have g1:=s0 (x:=y) (y:=x) (zpd:=[]) (D:=D++(X.drop (s+1)++R)) l1;have g2:=sw (x:=y) (y:=x) (D:=D++(X.drop (s+1)++R)) l2;have g3:=M2 (x:=y) (y:=x) (D:=D++(X.drop (s+1)++R)) l1 l2;have e1:(P++A')++x::([]++y::(D++(X.drop (s+1)++R)))=P++(A'++(x::((y::D)++(X.drop (s+1)++R)))):=by simp
   have hlen:((P++A')++y::([]++x::(D++(X.drop (s+1)++R)))).length=m:=by rw[<-e0];simp only[nr,ny,my,m7];omega
   have hw1:IntKind.i64.wrap (((a+(A'++[y]).length:Nat):Int)-1)=((a+A'.length:Nat):Int):=yy T T |>.trans T;by_cases hc:kq x.1 y.1<0
   ·rw[e0];rw[e1] at g3;generalize (P++A')++y::([]++x::(D++(X.drop (s+1)++R)))=K at *;have h1:=get_lt g1;have h2:=get_lt g2;have q1:=wi (rest:=rest) g1 (0+(a+A'.length)*7) T;have q2:=wi (rest:=rest) g2 (0+(a+(A'++[y]).length)*7) T;have s1:=fi (rest:=rest) (z:=y) h2 (0+(a+(A'++[y]).length)*7) T;have b1:=fj (rest:=rest) h2 (0+(a+(A'++[y]).length)*7) T;have h3:a+A'.length<(K.set (a+(A'++[y]).length) y).length:=by rw[zna];exact h1
    have s2:=fi (rest:=rest) (z:=x) h3 (0+(a+A'.length)*7) T;have b2:=fj (rest:=rest) h3 (0+(a+A'.length)*7) T;rw[g3] at s2;refine(Ze∘Zfc∘Zm∘Zdf∘Zm∘Z5) ?_;refine qn (xq L (q:=900) (vs:=[_,_,_,_,_,_,_]) Z Z Z Z q2) Z Z (Zbs (h:=?_));refine qn (xq L (q:=900) (vs:=[_,_,_,_,_,_,_]) Z Z Z Z q1) Z Z (z81 L Z (fun u H hH _=>gu hH) ?_);refine(Zco∘Zca∘Zal∘Zak) ?_;refine qg (id:=6) [(200046,[900]),(200050,[900]),(100051,[900]),(100052,[900])] mixed J ((Zm∘ZdO∘Zbs) ?_);refine qn (xq L (q:=900) (vs:=[_,_,_,_,_,_,_]) Z Z Z Z q1) Z Z (Z5 (h:=?_));refine qn (xq L (q:=900) (vs:=[_,_,_,_,_,_,_]) Z Z Z Z q2) Z Z (Zr (h:=?_));refine xl (ye L (q:=900) Z Z b1 Z s1) Z (Zr (h:=?_));refine xl (ye L (q:=900) Z Z b2 Z s2) Z ((ZbU∘ZP∘ZT∘Zar∘ZbI) ?_)
    exact yn (x:=(A'++[y],D)) (A',y::D) ⟨by rw[<-hAD];simp,fun z hz=>by
     rcases nz.1 hz with rfl | hz
     ·exact hc
     ·exact hD z hz⟩ G ⟨Z,Z,Z,Z,Z,Z,Z,nm⟩
   ·have hf:=hfin (fun z hz=>by rw[List.getLast?_append] at hz;simp at hz;subst hz;exact hc);rw[e0];rw[e0] at hf;have q1:=wi (rest:=rest) g1 (0+(a+A'.length)*7) T;have q2:=wi (rest:=rest) g2 (0+(a+(A'++[y]).length)*7) T;rw[hf] at q1 q2 |-;refine(Ze∘Zfc∘Zm∘Zdf∘Zm∘Z5) ?_;refine qn (xq L (q:=900) (vs:=[_,_,_,_,_,_,_]) Z Z Z Z q2) Z Z (Zbs (h:=?_));refine qn (xq L (q:=900) (vs:=[_,_,_,_,_,_,_]) Z Z Z Z q1) Z Z (z81 L Z (fun u H hH _=>gu hH) ?_);refine(ZcQ∘Zaq∘Zax∘ZP∘Zo∘ZbW) ?_;exact yn (x:=s) (s+1) ⟨by omega,by omega⟩ T ⟨Z,Z,Z,Z,Z,Z,nm⟩
 ·have hX:P++(stC (X.take s)++(X.drop s++R))=P++(stC X++R):=by
   rw[zle T,zlf T,mh]
  rw[hX];refine(Ze∘Z3∘Zb∘Za3∘Zax) ?_;exact xo L 900 (r:=yz b _ tyC) Z (fun _ _ h=>h) nq Z Z
end Go.V.L8
namespace Go.V
section
variable {β:Type} [DecidableEq α] [DecidableEq β] {k:α->β} {c:β->β->Int}
omit [DecidableEq β] in
theorem Qn(ho:Ord3 c){z y x:β}(h1:¬ c y z<0)(h2:c y x<0):c z x<0:=by
 by_cases h3:c z y<0
 ·exact ho.tr h3 h2
 ·have:=ho.anti y z;rw[ho.eq z y T];exact h2
omit [DecidableEq β] in
theorem Qj(ho:Ord3 c){x y z:β}(h1:c y x<0)(h2:¬ c z x<0):c y z<0:=by
 by_cases h3:c x z<0
 ·exact ho.tr h1 h3
 ·have:=ho.anti x z;rw[ho.eq z x T];exact h1
structure SymI(k:α->β)(c:β->β->Int)(X Y:List α)(a mid lo hi s r:Nat):Prop where
 ls:lo<=s
 sr:s<=r
 rh:r<=hi
 bef:∀ i x y,lo<=i->i<s->X[i-a]?=some x->Y[mid-1-i]?=some y->¬ c (k y) (k x)<0
 aft:∀ i x y,r<=i->i<hi->X[i-a]?=some x->Y[mid-1-i]?=some y->c (k y) (k x)<0
structure zij(X Y:List α)(a mm e mid lo hi:Nat):Prop where
 lx:a+X.length=mm
 ly:mm+Y.length=e
 al:a<=lo
 nl:mid+mm<=lo+e
 hm:hi<=mid
 hx:hi<=mm
 lo_:lo=a\/mid+mm=lo+e
 hi_:hi=mm\/hi=mid
omit [DecidableEq α] [DecidableEq β] in
theorem SymI.start{X Y:List α}(h:lo<=hi):SymI k c X Y a mid lo hi lo hi:=⟨ns _,h,ns _,fun i x y h1 h2=>by omega,fun i x y h1 h2=>by omega⟩
omit [DecidableEq α] [DecidableEq β] in
theorem SymI.up(ho:Ord3 c){X Y:List α}(hX:Srt k c X)(hY:Srt k c Y){e s r:Nat}{x y:α}(hb:zij X Y a mm e mid lo hi)(h:SymI k c X Y a mid lo hi s r)(h1:s<=i)(h2:i<r)(hx:X[i-a]?=some x)(hy:Y[mid-1-i]?=some y)(hc:¬ c (k y) (k x)<0):SymI k c X Y a mid lo hi (i+1) r:=by
 obtain⟨b1,b2,b3,b4,b5,b6,_,_⟩:=hb;obtain⟨i1,i2,i3,i4,i5⟩:=h;refine⟨by omega,by omega,i3,fun j x' y' hj hji hx' hy' hlt=>hc ?_,i5⟩;have e1:=cq ho hX hx' hx T;have e2:=cq ho hY hy hy' T;exact Qn ho e2 (Qj ho hlt e1)
omit [DecidableEq α] [DecidableEq β] in
theorem SymI.down(ho:Ord3 c){X Y:List α}(hX:Srt k c X)(hY:Srt k c Y){e s r:Nat}{x y:α}(hb:zij X Y a mm e mid lo hi)(h:SymI k c X Y a mid lo hi s r)(h1:s<=i)(h2:i<r)(hx:X[i-a]?=some x)(hy:Y[mid-1-i]?=some y)(hc:c (k y) (k x)<0):SymI k c X Y a mid lo hi s i:=by
 obtain⟨b1,b2,b3,b4,b5,b6,_,_⟩:=hb;obtain⟨i1,i2,i3,i4,i5⟩:=h;refine⟨by omega,by omega,by omega,i4,fun j x' y' hj hji hx' hy'=>?_⟩;have e1:=cq ho hX hx hx' T;have e2:=cq ho hY hy' hy T;exact Qn ho e2 (Qj ho hc e1)
theorem X5(ho:Ord3 c){X Y:List α}(hX:Srt k c X)(hY:Srt k c Y){e s:Nat}(hb:zij X Y a mm e mid lo hi)(h:SymI k c X Y a mid lo hi s s):
  B9 k c (X.take (s-a)++Y.take (mid-s))++B9 k c (X.drop (s-a)++Y.drop (mid-s))=B9 k c (X++Y):=by
 obtain⟨b1,b2,b3,b4,b5,b6,b7,b8⟩:=hb;obtain⟨i1,i2,i3,i4,i5⟩:=h;have hXt:X.take (s-a)++X.drop (s-a)=X:=m9 _ _;have hYt:Y.take (mid-s)++Y.drop (mid-s)=Y:=m9 _ _
 have h12:∀ x∈X.drop (s-a),∀ y∈Y.take (mid-s),c (k y) (k x)<0:=fun x hx y hy=>by
  obtain⟨i,hi⟩:=zlx hx;obtain⟨j,hj⟩:=zlx hy;have hjl:=get_lt hj;rw[mi] at hjl;rw[zlo] at hi;rw[zmv T] at hj;have hil:=get_lt hi;obtain⟨x0,hx0⟩:=xi (l:=X) (i:=s-a) T;obtain⟨y0,hy0⟩:=xi (l:=Y) (i:=mid-1-s) T;have h0:=i5 s x0 y0 (ns _) T hx0 hy0;exact Qn ho (cq ho hY hj hy0 T) (Qj ho h0 (cq ho hX hx0 hi T))
 have h21:∀ x∈X.take (s-a),∀ y∈Y.drop (mid-s),¬ c (k y) (k x)<0:=fun x hx y hy hlt=>by
  obtain⟨i,hi⟩:=zlx hx;obtain⟨j,hj⟩:=zlx hy;have hil:=get_lt hi;rw[mi] at hil;rw[zlo] at hj;rw[zmv T] at hi;have hjl:=get_lt hj;obtain⟨x1,hx1⟩:=xi (l:=X) (i:=s-1-a) T;obtain⟨y1,hy1⟩:=xi (l:=Y) (i:=mid-s) T;have h0:=i4 (s-1) x1 y1 T T hx1 (by rw[show mid-1-(s-1)=mid-s by omega];exact hy1);exact h0 (Qn ho (cq ho hY hy1 hj T) (Qj ho hlt (cq ho hX hi hx1 T)))
 have:=X9 ho (by rw[hXt];exact hX) (by rw[hYt];exact hY) h12 h21 (ud ho _) (ud ho _);rw[hXt,hYt] at this;exact Cm ho this
theorem zd2(ho:Ord3 c){x:α}{Y:List α}(hY:Srt k c Y)(h1:∀ j z,j<i->Y[j]?=some z->c (k z) (k x)<0)(h2:∀ j z,i<=j->Y[j]?=some z->¬ c (k z) (k x)<0):
  Y.take i++x::Y.drop i=B9 k c ([x]++Y):=by
 have hY':Srt k c (Y.take i++Y.drop i):=by rw[m9];exact hY
 have:=zdb ho (x:=x) hY' (fun z hz=>by
  obtain⟨j,hj⟩:=zlx hz;have hjl:=get_lt hj;rw[mi] at hjl;rw[zmv T] at hj;exact h1 j z T hj) (fun z hz=>by
  obtain⟨j,hj⟩:=zlx hz;rw[zlo] at hj;exact h2 _ z T hj)
 rw[m9] at this;exact Cm ho this
theorem zd1(ho:Ord3 c){x:α}{X:List α}(hX:Srt k c X)(h1:∀ j z,j<i->X[j]?=some z->¬ c (k x) (k z)<0)(h2:∀ j z,i<=j->X[j]?=some z->c (k x) (k z)<0):
  X.take i++x::X.drop i=B9 k c (X++[x]):=by
 have hX':Srt k c (X.take i++X.drop i):=by rw[m9];exact hX
 have:=Kw ho (x:=x) hX' (fun z hz=>by
  obtain⟨j,hj⟩:=zlx hz;have hjl:=get_lt hj;rw[mi] at hjl;rw[zmv T] at hj;exact h1 j z T hj) (fun z hz=>by
  obtain⟨j,hj⟩:=zlx hz;rw[zlo] at hj;exact h2 _ z T hj)
 rw[m9] at this;exact Cm ho this
end
end Go.V
namespace Go.V.L8
open Go.V.L2 Go.V.L3 Go.V.L6
def zar{P X D:List CH}(ha:P.length=a){x:CH}(h:X[j]?=some x)(i:Nat)(hi:i=a+j):(P++(X++D))[i]?=some x:=by
 subst hi ha;have:=get_lt h;rw[zne T,show P.length+j-P.length=j by omega,zl2 this];exact h
def zen{P X Y D:List CH}(ha:P.length=a)(hx:a+X.length=mm){y:CH}(h:Y[j]?=some y)(i:Nat)(hi:i=mm+j):(P++(X++(Y++D)))[i]?=some y:=by
 have e:P++(X++(Y++D))=(P++X)++(Y++D):=by simp
 rw[e];exact zar (by rw[nr];omega) h i hi
abbrev zfr(l:List CH):Prop:=Srt (fun c:CH=>c.1) kq l
def tj(i j:Nat):((i:Int)+(j:Int)).fdiv (2^min (1:Int).toNat IntKind.u64.bits)=((i+j)/2:Nat):=by
 show((i:Int)+(j:Int)).fdiv 2=_;rw[zn9 _ E];omega
attribute [local irreducible] V N X VO Par StepOK Has Ret RetL RetO RetT ki Src
abbrev SYM:Nat:=292
def zc5{P Y R:List CH}{x:CH}{cap e:Nat}(ha:P.length=a)(hmm:a+1=mm)(he:mm+Y.length=e)(hY:zfr Y)(hm:(P++([x]++(Y++R))).length=m)(hm1:m<=100000)(hB:zpg B w)
  (hr:(yz b ((P++([x]++(Y++R))).flatMap ccs++rest) tyC).P B w C) (hC:ZCB C w B):
  ki zph SYM [.slice (some ⟨b,0,none⟩) m cap,.int .i64 a,.int .i64 mm,.int .i64 e,A0] w B C (yz b ((P++(stC ([x]++Y)++R)).flatMap ccs++rest) tyC):=by
 unfold ki;refine yr 900 (yz b ((P++([x]++(Y++R))).flatMap ccs++rest) tyC) Tryz.func292 Z Tryz.ntmps292 (np Z) hB hr hC ?_;rw[xa];have hm':=hm;simp only[nr,zme] at hm';refine(Zf∘ZB∘Zb∘Zc3∘ZG∘Zu∘ZaZ∘Zbh∘Zd∘Zak) ?_
 refine xm (fun s:Nat×Nat=>[(0,.is (.slice (some ⟨b,0,none⟩) m cap)),(1,.is (.int .i64 a)),(4,.is A0),(10,.is (.int .i64 s.1)),(11,.is (.int .i64 s.2)),(900,.own (xk b ((P++([x]++(Y++R))).flatMap ccs++rest) tyC))])
  (fun s=>mm<=s.1/\s.1<=s.2/\s.2<=e/\(∀ (j:Nat) (z:CH),j<s.1-mm->Y[j]?=some z->kq z.1 x.1<0)/\∀ (j:Nat) (z:CH),s.2-mm<=j->Y[j]?=some z->¬ kq z.1 x.1<0) (fun s=>s.2-s.1) (mm,e)
  ⟨Nat.le_refl _,by dsimp only;omega,Nat.le_refl _,fun j z h=>(by dsimp only at h;omega),fun j z h hz=>(by have:=get_lt hz;dsimp only at h;omega)⟩ ⟨rfl,rfl,rfl,rfl,rfl,rfl,trivial⟩ ?_
 rintro⟨i,j⟩ ⟨h1,h2,h3,h4,h5⟩;dsimp only at h1 h2 h3 h4 h5 |-;by_cases hlt:i<j
 ·have hsh:=tj i j;obtain⟨h,hh⟩:∃ h,(i+j)/2=h:=⟨_,rfl⟩
  rw[hh] at hsh;obtain⟨y,hy⟩:=xi (l:=Y) (show h-mm<Y.length by omega);have q1:=wi (rest:=rest) (zen (X:=[x]) (D:=R) (mm:=mm) ha hmm hy h T) (0+h*7) T;have q2:=wi (rest:=rest) (zar (X:=[x]) (D:=Y++R) ha (j:=0) rfl a T) (0+a*7) T;by_cases hc:kq y.1 x.1<0
  ·refine(Ze∘Zbi∘Zag∘Zcw∘Zcb∘ZaE) ?_;refine z7 (kg Z Z Z jr.1 jr.2 (wrap_u64 T T)) Z (ZcO (h:=?_));refine z7 (kg Z Z Z js.1 js.2 (yy T T)) Z (Zd (h:=?_));refine qg (id:=5) [(200044,[900]),(200048,[900])] mixed J ((ZaV∘Zr) ?_);refine qn (xq L (q:=900) (vs:=[_,_,_,_,_,_,_]) Z Z Z Z q1) Z Z (Z5 (h:=?_));refine qn (xq L (q:=900) (vs:=[_,_,_,_,_,_,_]) Z Z Z Z q2) Z Z (z81 L Z (fun u H hH _=>gu hH) ?_);refine(Zco∘Zb4∘ZL∘ZaE∘ZU) ?_
   exact yn (x:=(i,j)) (h+1,j) ⟨by dsimp only;omega,by dsimp only;omega,h3,fun k z hk hz=>by
    dsimp only at hk;exact Qn cmpT_ord (cq cmpT_ord hY hz hy T) hc,h5⟩ G ⟨Z,Z,Z,Z,Z,Z,nm⟩
  ·refine(Ze∘Zbi∘Zag∘Zcw∘Zcb∘ZaE) ?_;refine z7 (kg Z Z Z jr.1 jr.2 (wrap_u64 T T)) Z (ZcO (h:=?_));refine z7 (kg Z Z Z js.1 js.2 (yy T T)) Z (Zd (h:=?_));refine qg (id:=5) [(200044,[900]),(200048,[900])] mixed J ((ZaV∘Zr) ?_);refine qn (xq L (q:=900) (vs:=[_,_,_,_,_,_,_]) Z Z Z Z q1) Z Z (Z5 (h:=?_));refine qn (xq L (q:=900) (vs:=[_,_,_,_,_,_,_]) Z Z Z Z q2) Z Z (z81 L Z (fun u H hH _=>gu hH) ?_);refine(ZcQ∘Zaz∘Z8∘ZU) ?_
   exact yn (x:=(i,j)) (i,h) ⟨h1,by dsimp only;omega,by dsimp only;omega,h4,fun k z hk hz hcx=>by
    dsimp only at hk;exact hc (Qn cmpT_ord (cq cmpT_ord hY hy hz T) hcx)⟩ G ⟨Z,Z,Z,Z,Z,Z,nm⟩
 ·obtain rfl:i=j:=by omega
  have hfin:=zd2 (k:=fun c:CH=>c.1) cmpT_ord hY h4 h5;have hal:(Y.take (i-mm)).length=i-mm:=by rw[mi];omega
  have hYl:(Y.take (i-mm)).length+(Y.drop (i-mm)).length=Y.length:=by rw[<-nr,m9]
  have e0:P++([x]++(Y++R))=P++([]++(x::(Y.take (i-mm)++(Y.drop (i-mm)++R)))):=by
   rw[<-mj (Y.take _),m9];rfl
  rw[e0]
  have e9:P++(Y.take (i-mm)++(x::(Y.drop (i-mm)++R)))=P++(stC ([x]++Y)++R):=by
   unfold stC;rw[<-hfin];simp
  generalize Y.take (i-mm)=A at *;generalize Y.drop (i-mm)=D at *;clear hfin h4 h5 e0;refine(Ze∘Zbi∘Za3∘ZaD∘Zf∘Zbe∘ZaR) ?_;refine xm (fun t:Nat=>[(0,.is (.slice (some ⟨b,0,none⟩) m cap)),(10,.is (.int .i64 i)),(13,.is (.int .i64 (a+t:Nat))),(900,.own (xk b ((P++(A.take t++(x::(A.drop t++(D++R))))).flatMap ccs++rest) tyC))]) (fun t=>t<=A.length) (fun t=>A.length-t) 0 (mf _) ⟨Z,Z,Z,Z,nm⟩ ?_;rintro t ht;by_cases htl:t<A.length
  ·obtain⟨z,hz⟩:=xi htl;have e0:P++(A.take t++(x::(A.drop t++(D++R))))=(P++A.take t)++x::([]++z::(A.drop (t+1)++(D++R))):=by rw[ol hz];simp
   have e1:(P++A.take t)++z::([]++x::(A.drop (t+1)++(D++R)))=P++(A.take (t+1)++(x::(A.drop (t+1)++(D++R)))):=by rw[zlc,hz];simp
   have l1:(P++A.take t).length=a+t:=by rw[nr,mi];omega
   have l2:(P++A.take t).length+1+([]:List CH).length=a+t+1:=by rw[l1];rfl
   have g1:=s0 (x:=x) (y:=z) (zpd:=[]) (D:=A.drop (t+1)++(D++R)) l1;have g2:=sw (x:=x) (y:=z) (D:=A.drop (t+1)++(D++R)) l2;have g3:=Kr (x:=x) (y:=z) (D:=A.drop (t+1)++(D++R)) l1 l2;rw[e0];rw[e1] at g3;generalize (P++A.take t)++x::([]++z::(A.drop (t+1)++(D++R)))=K at *;have k1:=get_lt g1;have k2:=get_lt g2
   have hKl:a+t+1<m:=by
    have:a+1+A.length+D.length<=m:=T;omega
   have q1:=wi (rest:=rest) g1 (0+(a+t)*7) T;have q2:=wi (rest:=rest) g2 (0+(a+t+1)*7) T;have s1:=fi (rest:=rest) (z:=z) k1 (0+(a+t)*7) T;have b1:=fj (rest:=rest) k1 (0+(a+t)*7) T;have k3:a+t+1<(K.set (a+t) z).length:=by rw[zna];exact k2
   have s2:=fi (rest:=rest) (z:=x) k3 (0+(a+t+1)*7) T;have b2:=fj (rest:=rest) k3 (0+(a+t+1)*7) T;rw[g3] at s2;have a1:IntKind.i64.wrap (((a+t:Nat):Int)+1)=((a+t+1:Nat):Int):=yy T T;refine(Ze∘ZbP∘Zc3∘Zag∘Zal∘Zak) ?_;refine qg (id:=11) [(200070,[900]),(200074,[900]),(100075,[900]),(100076,[900])] mixed J ((Zm∘Zm∘ZbQ∘Zm∘ZbQ∘Zr) ?_);refine qn (xq L (q:=900) (vs:=[_,_,_,_,_,_,_]) Z Z Z Z q2) Z Z (Z5 (h:=?_));refine qn (xq L (q:=900) (vs:=[_,_,_,_,_,_,_]) Z Z Z Z q1) Z Z (Zr (h:=?_));refine xl (ye L (q:=900) Z Z b1 Z s1) Z (Zr (h:=?_));refine xl (ye L (q:=900) Z Z b2 Z s2) Z ((ZbU∘ZP∘ZA∘Za∘Zy∘ZbI) ?_);exact yn (x:=t) (t+1) T T ⟨Z,Z,Z,Z,nm⟩
  ·have hA:P++(A.take t++(x::(A.drop t++(D++R))))=P++(stC ([x]++Y)++R):=by
    rw[zle T,zlf T,mh,e9]
   rw[hA];refine(Ze∘ZbP∘Zc3∘Za3∘Zax∘Zc6) ?_;exact k9 L 900 (r:=yz b _ tyC) Z (fun _ _ h=>h) nq Z Z
def zc6{P X R:List CH}{y:CH}{cap e:Nat}(ha:P.length=a)(hmm:a+X.length=mm)(hx1:¬ X.length=1)(he:mm+1=e)(hX:zfr X)(hm:(P++(X++([y]++R))).length=m)(hm1:m<=100000)(hB:zpg B w)
  (hr:(yz b ((P++(X++([y]++R))).flatMap ccs++rest) tyC).P B w C) (hC:ZCB C w B):
  ki zph SYM [.slice (some ⟨b,0,none⟩) m cap,.int .i64 a,.int .i64 mm,.int .i64 e,A0] w B C (yz b ((P++(stC (X++[y])++R)).flatMap ccs++rest) tyC):=by
 unfold ki;refine yr 900 (yz b ((P++(X++([y]++R))).flatMap ccs++rest) tyC) Tryz.func292 Z Tryz.ntmps292 (np Z) hB hr hC ?_;rw[xa];have hm':=hm;simp only[nr,zme] at hm';refine(Zf∘ZB∘Zb∘Zc3∘Zq∘Z4∘ZW∘Zb∘Zc3∘ZG∘Zu∘ZX∘Za∘Zd∘Zbw∘Zd∘Zak) ?_
 refine xm (fun s:Nat×Nat=>[(0,.is (.slice (some ⟨b,0,none⟩) m cap)),(2,.is (.int .i64 mm)),(4,.is A0),(14,.is (.int .i64 s.1)),(15,.is (.int .i64 s.2)),(900,.own (xk b ((P++(X++([y]++R))).flatMap ccs++rest) tyC))])
  (fun s=>a<=s.1/\s.1<=s.2/\s.2<=mm/\(∀ (j:Nat) (z:CH),j<s.1-a->X[j]?=some z->¬ kq y.1 z.1<0)/\∀ (j:Nat) (z:CH),s.2-a<=j->X[j]?=some z->kq y.1 z.1<0) (fun s=>s.2-s.1) (a,mm)
  ⟨Nat.le_refl _,by dsimp only;omega,Nat.le_refl _,fun j z h=>(by dsimp only at h;omega),fun j z h hz=>(by have:=get_lt hz;dsimp only at h;omega)⟩ ⟨rfl,rfl,rfl,rfl,rfl,rfl,trivial⟩ ?_
 rintro⟨i,j⟩ ⟨h1,h2,h3,h4,h5⟩;dsimp only at h1 h2 h3 h4 h5 |-;by_cases hlt:i<j
 ·have hsh:=tj i j;obtain⟨h,hh⟩:∃ h,(i+j)/2=h:=⟨_,rfl⟩
  rw[hh] at hsh;obtain⟨x,hx⟩:=xi (l:=X) (show h-a<X.length by omega);have q1:=wi (rest:=rest) (zen (Y:=[y]) (D:=R) ha hmm (j:=0) rfl mm T) (0+mm*7) T;have q2:=wi (rest:=rest) (zar (D:=[y]++R) ha hx h T) (0+h*7) T;by_cases hc:kq y.1 x.1<0
  ·refine(Ze∘Za0∘Zb∘Zag∘Zcw∘Zap∘Zb∘ZaE) ?_;refine z7 (kg Z Z Z jr.1 jr.2 (wrap_u64 T T)) Z (ZcO (h:=?_));refine z7 (kg Z Z Z js.1 js.2 (yy T T)) Z (Zd (h:=?_));refine qg (id:=17) [(200096,[900]),(200100,[900])] mixed J ((ZaV∘Zr) ?_);refine qn (xq L (q:=900) (vs:=[_,_,_,_,_,_,_]) Z Z Z Z q1) Z Z (Z5 (h:=?_));refine qn (xq L (q:=900) (vs:=[_,_,_,_,_,_,_]) Z Z Z Z q2) Z Z (z81 L Z (fun u H hH _=>gu hH) ?_);refine(Zco∘Za7∘Zaz∘Zcx∘Za∘ZU) ?_
   exact yn (x:=(i,j)) (i,h) ⟨h1,by dsimp only;omega,by dsimp only;omega,h4,fun k z hk hz=>by
    dsimp only at hk;exact Qj cmpT_ord hc (cq cmpT_ord hX hx hz T)⟩ G ⟨Z,Z,Z,Z,Z,Z,nm⟩
  ·refine(Ze∘Za0∘Zb∘Zag∘Zcw∘Zap∘Zb∘ZaE) ?_;refine z7 (kg Z Z Z jr.1 jr.2 (wrap_u64 T T)) Z (ZcO (h:=?_));refine z7 (kg Z Z Z js.1 js.2 (yy T T)) Z (Zd (h:=?_));refine qg (id:=17) [(200096,[900]),(200100,[900])] mixed J ((ZaV∘Zr) ?_);refine qn (xq L (q:=900) (vs:=[_,_,_,_,_,_,_]) Z Z Z Z q1) Z Z (Z5 (h:=?_));refine qn (xq L (q:=900) (vs:=[_,_,_,_,_,_,_]) Z Z Z Z q2) Z Z (z81 L Z (fun u H hH _=>gu hH) ?_);refine(ZcQ∘Za7∘Zb4∘Zcc∘ZaE∘ZU) ?_
   exact yn (x:=(i,j)) (h+1,j) ⟨by dsimp only;omega,by dsimp only;omega,h3,fun k z hk hz hcx=>by
    dsimp only at hk;exact hc (Qj cmpT_ord hcx (cq cmpT_ord hX hz hx T)),h5⟩ G ⟨Z,Z,Z,Z,Z,Z,nm⟩
 ·obtain rfl:i=j:=by omega
  have hfin:=zd1 (k:=fun c:CH=>c.1) cmpT_ord hX h4 h5;have hal:(X.take (i-a)).length=i-a:=by rw[mi];omega
  have hXl:(X.take (i-a)).length+(X.drop (i-a)).length=X.length:=by rw[<-nr,m9]
  have e0:P++(X++([y]++R))=P++(X.take (i-a)++(X.drop (i-a)++(y::([]++R)))):=by
   rw[<-mj (X.take _),m9];rfl
  rw[e0]
  have e9:P++(X.take (i-a)++(y::(X.drop (i-a)++R)))=P++(stC (X++[y])++R):=by
   unfold stC;rw[<-hfin];simp
  generalize X.take (i-a)=A at *;generalize X.drop (i-a)=D at *;clear hfin h4 h5 e0;have hk0:mm=i+D.length:=T;refine(Ze∘Za0∘Zb∘Za3∘ZaD∘Zf∘ZaM∘Za∘ZaR) ?_;refine xm (fun t:Nat=>[(0,.is (.slice (some ⟨b,0,none⟩) m cap)),(14,.is (.int .i64 i)),(17,.is (.int .i64 (i+t:Nat))),(900,.own (xk b ((P++(A++(D.take t++(y::(D.drop t++R))))).flatMap ccs++rest) tyC))]) (fun t=>t<=D.length) (fun t=>t) D.length (ns _) ⟨Z,Z,by rw[<-hk0];rfl,by rw[zla,zos];rfl,nm⟩ ?_;rintro t ht;rcases t with _ | t
  ·rw[zl4,zl7,mh,e9,znl];refine(Ze∘Zcj∘Zb∘ZJ∘ZZ∘Zax∘Zc6) ?_;exact k9 L 900 (r:=yz b _ tyC) Z (fun _ _ h=>h) nq Z Z
  ·obtain⟨z,hz⟩:=xi (l:=D) (show t<D.length by omega);have e0:P++(A++(D.take (t+1)++(y::(D.drop (t+1)++R))))=(P++(A++D.take t))++z::([]++y::(D.drop (t+1)++R)):=by rw[zlc,hz];simp
   have e1:(P++(A++D.take t))++y::([]++z::(D.drop (t+1)++R))=P++(A++(D.take t++(y::(D.drop t++R)))):=by rw[ol hz];simp
   have l1:(P++(A++D.take t)).length=i+t:=by rw[nr,nr,mi];omega
   have l2:(P++(A++D.take t)).length+1+([]:List CH).length=i+(t+1):=by rw[l1];rfl
   have g1:=s0 (x:=z) (y:=y) (zpd:=[]) (D:=D.drop (t+1)++R) l1;have g2:=sw (x:=z) (y:=y) (D:=D.drop (t+1)++R) l2;have g3:=M2 (x:=z) (y:=y) (D:=D.drop (t+1)++R) l1 l2;rw[e0];rw[e1] at g3;generalize (P++(A++D.take t))++z::([]++y::(D.drop (t+1)++R))=K at *;have k1:=get_lt g1;have k2:=get_lt g2;have hKl:i+(t+1)<m:=T;have q1:=wi (rest:=rest) g1 (0+(i+t)*7) T;have q2:=wi (rest:=rest) g2 (0+(i+(t+1))*7) T;have s1:=fi (rest:=rest) (z:=z) k2 (0+(i+(t+1))*7) T;have b1:=fj (rest:=rest) k2 (0+(i+(t+1))*7) T;have k3:i+t<(K.set (i+(t+1)) z).length:=by rw[zna];exact k1
   have s2:=fi (rest:=rest) (z:=y) k3 (0+(i+t)*7) T;have b2:=fj (rest:=rest) k3 (0+(i+t)*7) T;rw[g3] at s2;have a1:IntKind.i64.wrap (((i+(t+1):Nat):Int)-1)=((i+t:Nat):Int):=yy T T |>.trans T;refine(Ze∘Zcj∘Zb∘ZO∘ZD∘Zal∘Zak) ?_;refine qg (id:=23) [(200122,[900]),(200126,[900]),(100127,[900]),(100128,[900])] mixed J ((Zm∘ZdO∘Zbs) ?_);refine qn (xq L (q:=900) (vs:=[_,_,_,_,_,_,_]) Z Z Z Z q1) Z Z (Z5 (h:=?_));refine qn (xq L (q:=900) (vs:=[_,_,_,_,_,_,_]) Z Z Z Z q2) Z Z (Zr (h:=?_));refine xl (ye L (q:=900) Z Z b1 Z s1) Z (Zr (h:=?_));refine xl (ye L (q:=900) Z Z b2 Z s2) Z ((ZbU∘ZP∘ZcD∘Za∘Zar∘ZbI) ?_);exact yn (x:=t+1) t T T ⟨Z,Z,Z,Z,nm⟩
def Uc(h:l.length=1):∃ x,l=[x]:=by
 rcases l with _ | ⟨x,_ | ⟨y,l⟩⟩
 ·simp at h
 ·exact⟨x,rfl⟩
 ·simp at h
def Dx(h:zfr l):stC l=l:=Ya cmpT_ord h
def Ru(N0:Nat):∀ {P X Y R:List CH} {rest:List Value} {b m cap a mm e:Nat},X.length+Y.length<=N0->P.length=a->a+X.length=mm->mm+Y.length=e->0<X.length->0<Y.length->zfr X->zfr Y->(P++(X++(Y++R))).length=m->m<=100000->∀ {w:World} {B:Heap} {C:Nat->Prop},zpg B w->
  (yz b ((P++(X++(Y++R))).flatMap ccs++rest) tyC).P B w C->(ZCB C w B)->
  ki zph SYM [.slice (some ⟨b,0,none⟩) m cap,.int .i64 a,.int .i64 mm,.int .i64 e,A0] w B C (yz b ((P++(stC (X++Y)++R)).flatMap ccs++rest) tyC):=by
 induction N0 with
 | zero=>intro P X Y R rest b m cap a mm e h1 h2 h3 h4 h5;omega
 | succ N0 ih=>
 intro P X Y R rest b m cap a mm e hN ha hmm he hx hy hX hY hm hm1 w B C hB hr hC;by_cases hx1:X.length=1
 ·obtain⟨x,rfl⟩:=Uc hx1;exact zc5 ha (by simpa using hmm) he hY hm hm1 hB hr hC
 by_cases hy1:Y.length=1
 ·obtain⟨y,rfl⟩:=Uc hy1;exact zc6 ha hmm hx1 (by simpa using he) hX hm hm1 hB hr hC
 unfold ki;refine yr 900 (yz b ((P++(X++(Y++R))).flatMap ccs++rest) tyC) Tryz.func292 Z Tryz.ntmps292 (np Z) hB hr hC ?_;rw[xa];have hm':=hm;simp only[nr] at hm';have hsh:=tj a e;obtain⟨mid,hmid⟩:∃ mid,(a+e)/2=mid:=⟨_,rfl⟩
 rw[hmid] at hsh;have hnn:IntKind.i64.wrap ((mid:Int)+(mm:Int))=((mid+mm:Nat):Int):=yy T T;refine(Zf∘ZB∘Zb∘Zc3∘Zq∘Z4∘ZW∘Zb∘Zc3∘Zq∘Zn∘Zdg∘Zb∘ZaE) ?_;refine z7 (kg Z Z Z jr.1 jr.2 (wrap_u64 T T)) Z (ZcO (h:=?_));refine z7 (kg Z Z Z js.1 js.2 (yy T T)) Z (Zd (h:=?_));refine zh (id:=25) ((Zb∘Zy∘Zd) ?_);refine zh (id:=26) (Za8 (h:=?_));refine ib (fun s:Nat×Nat=>[(0,.is (.slice (some ⟨b,0,none⟩) m cap)),(1,.is (.int .i64 a)),(2,.is (.int .i64 mm)),(3,.is (.int .i64 e)),(4,.is A0),(18,.is (.int .i64 mid)),(19,.is (.int .i64 (mid+mm:Nat))),(20,.is (.int .i64 s.1)),(21,.is (.int .i64 s.2)),(900,.own (xk b ((P++(X++(Y++R))).flatMap ccs++rest) tyC))]) (fun s=>zij X Y a mm e mid s.1 s.2/\s.1<=s.2) (fun _=>[]) ?rest ?first
 case first=>
  by_cases hgt:mid<mm
  ·have hs:IntKind.i64.wrap (((mid+mm:Nat):Int)-(e:Int))=((mid+mm-e:Nat):Int):=yy T T |>.trans T;refine zh (id:=27) ((Zb∘ZO∘Zu) ?_);refine zh (id:=28) ((Zas∘Zc) ?_);refine zh (id:=29) ((Za∘ZbI) ?_);exact ju (mid+mm-e,mid) Since.refl ⟨⟨hmm,he,by dsimp only;omega,by dsimp only;omega,Nat.le_refl _,by dsimp only;omega,.inr G,.inr Z⟩,by dsimp only;omega⟩ Z ⟨Z,Z,Z,Z,Z,Z,Z,Z,Z,Z,trivial⟩
  ·refine zh (id:=27) ((Zb∘ZJ∘ZZ∘Zf) ?_);refine zh (id:=30) ((Za∘Zc) ?_);refine zh (id:=31) ((Za∘ZbI) ?_);exact ju (a,mm) Since.refl ⟨⟨hmm,he,Nat.le_refl _,by dsimp only;omega,by dsimp only;omega,Nat.le_refl _,.inl Z,.inl Z⟩,by dsimp only;omega⟩ Z ⟨Z,Z,Z,Z,Z,Z,Z,Z,Z,Z,trivial⟩
 case rest=>
 rintro⟨lo,hi⟩ ⟨hb,hlh⟩;dsimp only at hb hlh |-;have hp:IntKind.i64.wrap (((mid+mm:Nat):Int)-1)=((mid+mm-1:Nat):Int):=yy T T |>.trans T;refine Zf (h:=?_);refine zh (id:=32) ((Za∘Zar∘Zd∘Zak) ?_)
 refine xm (fun s:Nat×Nat=>[(0,.is (.slice (some ⟨b,0,none⟩) m cap)),(1,.is (.int .i64 a)),(2,.is (.int .i64 mm)),(3,.is (.int .i64 e)),(4,.is A0),(18,.is (.int .i64 mid)),(19,.is (.int .i64 (mid+mm:Nat))),(20,.is (.int .i64 s.1)),(21,.is (.int .i64 s.2)),(22,.is (.int .i64 (mid+mm-1:Nat))),(900,.own (xk b ((P++(X++(Y++R))).flatMap ccs++rest) tyC))])
  (fun s=>SymI (fun c:CH=>c.1) kq X Y a mid lo hi s.1 s.2) (fun s=>s.2-s.1) (lo,hi) (SymI.start hlh) ⟨rfl,rfl,rfl,rfl,rfl,rfl,rfl,rfl,rfl,rfl,rfl,nm⟩ ?_
 rintro⟨i,j⟩ hI;dsimp only at hI |-;have hI':=hI;have hb':=hb;obtain⟨b1,b2,b3,b4,b5,b6,_,_⟩:=hb';obtain⟨i1,i2,i3,_,_⟩:=hI';by_cases hlt:i<j
 ·have hsc:=tj i j;obtain⟨c,hc⟩:∃ c,(i+j)/2=c:=⟨_,rfl⟩
  rw[hc] at hsc;obtain⟨x,hxc⟩:=xi (l:=X) (show c-a<X.length by omega);obtain⟨y,hyc⟩:=xi (l:=Y) (show mid-1-c<Y.length by omega);have q1:=wi (rest:=rest) (zen (D:=R) ha hmm hyc (mid+mm-1-c) T) (0+(mid+mm-1-c)*7) T;have q2:=wi (rest:=rest) (zar (D:=Y++R) ha hxc c T) (0+c*7) T;have hpc:IntKind.i64.wrap (((mid+mm-1:Nat):Int)-(c:Int))=((mid+mm-1-c:Nat):Int):=yy T T |>.trans T;by_cases hcm:kq y.1 x.1<0
  ·refine Ze (h:=?_);refine zh (id:=33) ((Zb∘Zag∘Zcw) ?_);refine zh (id:=34) ((Zb∘ZaE) ?_);refine z7 (kg Z Z Z jr.1 jr.2 (wrap_u64 T T)) Z (ZcO (h:=?_));refine z7 (kg Z Z Z js.1 js.2 (yy T T)) Z (Zd (h:=?_));refine qg (id:=35) [(200164,[900]),(200168,[900])] mixed J ((Zm∘Zbs) ?_);refine qn (xq L (q:=900) (vs:=[_,_,_,_,_,_,_]) Z Z Z Z q1) Z Z (Z5 (h:=?_));refine qn (xq L (q:=900) (vs:=[_,_,_,_,_,_,_]) Z Z Z Z q2) Z Z (z81 L Z (fun u H hH _=>gu hH) ?_);refine(Zco∘Za7∘Zaz) ?_;refine zh (id:=37) ((Za∘ZU) ?_);exact yn (x:=(i,j)) (i,c) (hI.down cmpT_ord hX hY hb T T hxc hyc hcm) G ⟨Z,Z,Z,Z,Z,Z,Z,Z,Z,Z,Z,nm⟩
  ·refine Ze (h:=?_);refine zh (id:=33) ((Zb∘Zag∘Zcw) ?_);refine zh (id:=34) ((Zb∘ZaE) ?_);refine z7 (kg Z Z Z jr.1 jr.2 (wrap_u64 T T)) Z (ZcO (h:=?_));refine z7 (kg Z Z Z js.1 js.2 (yy T T)) Z (Zd (h:=?_));refine qg (id:=35) [(200164,[900]),(200168,[900])] mixed J ((Zm∘Zbs) ?_);refine qn (xq L (q:=900) (vs:=[_,_,_,_,_,_,_]) Z Z Z Z q1) Z Z (Z5 (h:=?_));refine qn (xq L (q:=900) (vs:=[_,_,_,_,_,_,_]) Z Z Z Z q2) Z Z (z81 L Z (fun u H hH _=>gu hH) ?_);refine(ZcQ∘Za7∘Zb4) ?_;refine zh (id:=36) ((Za∘ZaE∘ZU) ?_);exact yn (x:=(i,j)) (c+1,j) (hI.up cmpT_ord hX hY hb T T hxc hyc hcm) G ⟨Z,Z,Z,Z,Z,Z,Z,Z,Z,Z,Z,nm⟩
 ·obtain rfl:i=j:=by omega
  have hj:=X5 cmpT_ord hX hY hb hI;have hen:IntKind.i64.wrap (((mid+mm:Nat):Int)-(i:Int))=((mid+mm-i:Nat):Int):=yy T T |>.trans T;refine Ze (h:=?_);refine zh (id:=33) ((Zb∘Za3∘ZaD) ?_);refine zh (id:=38) ((Zas∘Zi) ?_);have eX:X.take (i-a)++X.drop (i-a)=X:=m9 _ _;have eY:Y.take (mid-i)++Y.drop (mid-i)=Y:=m9 _ _;have lA1:(X.take (i-a)).length=i-a:=by rw[mi];omega
  have lA2:(X.drop (i-a)).length=mm-i:=by rw[m7];omega
  have lB1:(Y.take (mid-i)).length=mid-i:=by rw[mi];omega
  have lB2:(Y.drop (mid-i)).length=e-(mid+mm-i):=by rw[m7];omega
  generalize X.take (i-a)=A1 at *;generalize X.drop (i-a)=A2 at *;generalize Y.take (mid-i)=B1 at *;generalize Y.drop (mid-i)=B2 at *
  change stC (A1++B1)++stC (A2++B2)=stC (X++Y) at hj
  rw[<-hj];subst eX eY;obtain⟨sA1,sA2,_⟩:=lf.1 hX;obtain⟨sB1,sB2,_⟩:=lf.1 hY;clear hI hb hj hX hY;obtain⟨en,hend⟩:∃ en,mid+mm-i=en:=⟨_,rfl⟩
  rw[hend] at lB2 |-;have e0:P++((A1++A2)++((B1++B2)++R))=(P++A1)++(A2++(B1++(B2++R))):=by simp
  have e1:(P++A1)++(B1++(A2++(B2++R)))=P++(A1++(B1++(A2++(B2++R)))):=by simp
  have hlen1:((P++A1)++(A2++(B1++(B2++R)))).length=m:=by rw[<-e0];exact hm
  have hlen2:(P++(A1++(B1++(A2++(B2++R))))).length=m:=by simp only[nr] at hm' |-;omega
  have hl3:=d7 (A1++B1);rw[nr] at hl3;have e3:P++(stC (A1++B1)++(A2++(B2++R)))=(P++stC (A1++B1))++(A2++(B2++R)):=by simp
  have hlen3:((P++stC (A1++B1))++(A2++(B2++R))).length=m:=by simp only[nr] at hm' |-;omega
  have e4:(P++stC (A1++B1))++(stC (A2++B2)++R)=P++((stC (A1++B1)++stC (A2++B2))++R):=by simp
  simp only[nr] at hm' hmm he hN;refine ib (fun _:Unit=>[(0,.is (.slice (some ⟨b,0,none⟩) m cap)),(1,.is (.int .i64 a)),(3,.is (.int .i64 e)),(4,.is A0),(18,.is (.int .i64 mid)),(20,.is (.int .i64 i)),(24,.is (.int .i64 en)),(900,.own (xk b ((P++(A1++(B1++(A2++(B2++R))))).flatMap ccs++rest) tyC))]) (fun _=>True) (fun _=>[]) ?rest1 ?first1
  case first1=>
   rw[e0];by_cases h1:i<mm
   ·by_cases h2:mm<en
    ·refine zh (id:=39) ((Zb∘Zab∘ZF∘Zab∘Zl∘ZD) ?_);refine zh (id:=40) ((Zb∘ZF) ?_);refine zy (yq L 900 (yz b (((P++A1)++(B1++(A2++(B2++R)))).flatMap ccs++rest) tyC) (r:=yz b (((P++A1)++(A2++(B1++(B2++R)))).flatMap ccs++rest) tyC) Z Z Z Z Z (fun u H C hH _ hr hC=>(by have h:=zdm (cap:=cap) (a:=i) (mm:=mm) (e:=en) (by rw[nr];omega) T T T T hlen1 hm1 A0 hH hr hC;exact h))) ?_;refine ZN (h:=?_);rw[e1];exact ju () nq trivial Z ⟨Z,Z,Z,Z,Z,Z,Z,Z,nm⟩
    ·have hB1:B1=[]:=mz T;subst hB1;have e9:(P++A1)++(A2++([]++(B2++R)))=P++(A1++([]++(A2++(B2++R)))):=by simp
     rw[e9];refine zh (id:=39) ((Zb∘Zab∘ZF∘Zac∘Zl∘Zad) ?_);exact ju () nq trivial Z ⟨Z,Z,Z,Z,Z,Z,Z,Z,nm⟩
   ·have hA2:A2=[]:=mz T;subst hA2;have e9:(P++A1)++([]++(B1++(B2++R)))=P++(A1++(B1++([]++(B2++R)))):=by simp
    rw[e9];refine zh (id:=39) ((Zb∘Zac∘ZbT∘Zad) ?_);exact ju () nq trivial Z ⟨Z,Z,Z,Z,Z,Z,Z,Z,nm⟩
  case rest1=>
  rintro _ _;refine Ze (h:=?_);refine ib (fun _:Unit=>[(0,.is (.slice (some ⟨b,0,none⟩) m cap)),(3,.is (.int .i64 e)),(4,.is A0),(18,.is (.int .i64 mid)),(24,.is (.int .i64 en)),(900,.own (xk b (((P++stC (A1++B1))++(A2++(B2++R))).flatMap ccs++rest) tyC))]) (fun _=>True) (fun _=>[]) ?rest2 ?first2
  case first2=>
   rw[<-e3];by_cases h1:a<i
   ·by_cases h2:i<mid
    ·refine zh (id:=41) ((Zb∘Zab∘ZF∘Zab∘Zl∘ZD) ?_);refine zh (id:=42) ((Zb∘ZF) ?_);refine zy (yq L 900 (yz b ((P++(stC (A1++B1)++(A2++(B2++R)))).flatMap ccs++rest) tyC) (r:=yz b ((P++(A1++(B1++(A2++(B2++R))))).flatMap ccs++rest) tyC) Z Z Z Z Z (fun u H C hH _ hr hC=>(by have h:=ih (cap:=cap) (a:=a) (mm:=i) (e:=mid) T ha T T T T sA1 sB1 hlen2 hm1 hH hr hC;exact h))) ?_;refine ZN (h:=?_);exact ju () nq trivial Z ⟨Z,Z,Z,Z,Z,Z,nm⟩
    ·have hB1:B1=[]:=mz T;subst hB1;have e9:P++(A1++([]++(A2++(B2++R))))=P++(stC (A1++[])++(A2++(B2++R))):=by rw[mq,Dx sA1];rfl
     rw[e9];refine zh (id:=41) ((Zb∘Zab∘ZF∘Zac∘Zl∘Zad) ?_);exact ju () nq trivial Z ⟨Z,Z,Z,Z,Z,Z,nm⟩
   ·have hA1:A1=[]:=mz T;subst hA1;have e9:P++([]++(B1++(A2++(B2++R))))=P++(stC ([]++B1)++(A2++(B2++R))):=by rw[mh,mh,Dx sB1]
    rw[e9];refine zh (id:=41) ((Zb∘Zac∘ZbT∘Zad) ?_);exact ju () nq trivial Z ⟨Z,Z,Z,Z,Z,Z,nm⟩
  case rest2=>
  rintro _ _;by_cases h1:mid<en
  ·by_cases h2:en<e
   ·refine Zf (h:=?_);refine zh (id:=43) ((Zb∘Zab∘ZF∘Zab∘Zl∘ZD) ?_);refine zh (id:=44) ((Zb∘ZF) ?_);refine zy (yq L 900 (yz b (((P++stC (A1++B1))++(stC (A2++B2)++R)).flatMap ccs++rest) tyC) (r:=yz b (((P++stC (A1++B1))++(A2++(B2++R))).flatMap ccs++rest) tyC) Z Z Z Z Z (fun u H C hH _ hr hC=>(by have h:=ih (cap:=cap) (a:=mid) (mm:=en) (e:=e) T (by rw[nr];omega) T T T T sA2 sB2 hlen3 hm1 hH hr hC;exact h))) ?_;refine ZN (h:=?_);rw[e4];exact xo L 900 (r:=yz b _ tyC) Z (fun _ _ h=>h) nq Z Z
   ·have hB2:B2=[]:=mz T;subst hB2;have e9:(P++stC (A1++B1))++(A2++([]++R))=P++((stC (A1++B1)++stC (A2++[]))++R):=by rw[mq,Dx sA2];simp
    rw[e9];refine Zf (h:=?_);refine zh (id:=43) ((Zb∘Zab∘ZF∘Zac∘Zl∘Zad) ?_);exact xo L 900 (r:=yz b _ tyC) Z (fun _ _ h=>h) nq Z Z
  ·have hA2:A2=[]:=mz T;subst hA2;have e9:(P++stC (A1++B1))++([]++(B2++R))=P++((stC (A1++B1)++stC ([]++B2))++R):=by rw[mh,mh,Dx sB2];simp
   rw[e9];refine Zf (h:=?_);refine zh (id:=43) ((Zb∘Zac∘ZbT∘Zad) ?_);exact xo L 900 (r:=yz b _ tyC) Z (fun _ _ h=>h) nq Z Z
end Go.V.L8
namespace Go.V.L8
open Go.V.L2 Go.V.L3 Go.V.L6
abbrev chC(n:Nat)(l:List CH):List CH:=chL (fun c:CH=>c.1) kq n l
def tu(hn:0<n)(l:List CH):chC n l=stC (l.take n)++chC n (l.drop n):=Fa hn l
def rj(hn:0<n)(h:l.length<=n):chC n l=stC l:=ze2 hn h
def ze3(hn:0<n)(l:List CH):(chC n l).length=l.length:=Vq cmpT_ord hn l.length (ns _)
def R5(X Y:List CH):stC (stC X++stC Y)=stC (X++Y):=Yc cmpT_ord X Y
def s4(X:List CH):zfr (stC X):=(ud cmpT_ord X).1
attribute [local irreducible] V N X VO Par StepOK Has Ret RetL RetO RetT ki Src
def Yd{cap:Nat}(hm:l.length=m)(hm1:m<=100000)(hB:zpg B w)
  (hr:(yz b (l.flatMap ccs++rest) tyC).P B w C) (hC:ZCB C w B):
  ki zph 281 [.slice (some ⟨b,0,none⟩) m cap,.int .i64 m,A0] w B C (yz b ((stC l).flatMap ccs++rest) tyC):=by
 unfold ki;refine yr 900 (yz b (l.flatMap ccs++rest) tyC) Tryz.func281 Z Tryz.ntmps281 (np Z) hB hr hC ?_;rw[xa];refine(Z0∘Za∘ZaH∘Zak) ?_
 refine xm (fun s:Nat×List CH=>[(0,.is (.slice (some ⟨b,0,none⟩) m cap)),(1,.is (.int .i64 m)),(2,.is A0),(6,.is (.int .i64 20)),(7,.is (.int .i64 s.1)),(8,.is (.int .i64 (s.1+20:Nat))),(900,.own (xk b ((s.2++l.drop s.1).flatMap ccs++rest) tyC))])
  (fun s=>s.2.length=s.1/\s.1<=m/\s.2++chC 20 (l.drop s.1)=chC 20 l) (fun s=>m-s.1) (0,[]) ⟨rfl,mf _,rfl⟩ ⟨rfl,rfl,rfl,rfl,rfl,rfl,rfl,nm⟩ ?_
 rintro⟨a,S1⟩ ⟨h1,h2,h3⟩;dsimp only at h1 h2 h3 |-;have hdl:(l.drop a).length=m-a:=by rw[m7,hm]
 by_cases hlt:a+20<=m
 ·have e0:S1++l.drop a=S1++((l.drop a).take 20++(l.drop a).drop 20):=by rw[m9]
  have e1:S1++(stC ((l.drop a).take 20)++(l.drop a).drop 20)=(S1++stC ((l.drop a).take 20))++l.drop (a+20):=by rw[zlz,mj]
  have hlen:(S1++((l.drop a).take 20++(l.drop a).drop 20)).length=m:=by rw[<-e0,nr];omega
  have ltk:((l.drop a).take 20).length=20:=by rw[mi];omega
  have a1:IntKind.i64.wrap (((a+20:Nat):Int)+20)=((a+20+20:Nat):Int):=yy T T;rw[e0];refine(Ze∘Zb9∘ZcC∘ZbD∘ZI∘ZaI) ?_;refine zy (yq L 900 (yz b ((S1++(stC ((l.drop a).take 20)++(l.drop a).drop 20)).flatMap ccs++rest) tyC) (r:=yz b ((S1++((l.drop a).take 20++(l.drop a).drop 20)).flatMap ccs++rest) tyC) Z Z Z Z Z (fun u H C hH _ hr hC=>(by have h:=ins_ret (cap:=cap) (a:=a) (e:=a+20) h1 T hlen hm1 hH hr hC;exact h))) ?_;refine(Zg∘Z9∘Zc∘ZE∘Zb∘Zy∘ZU) ?_;rw[e1]
  exact yn (x:=(a,S1)) (a+20,S1++stC ((l.drop a).take 20)) ⟨by dsimp only;rw[List.length_append,d7];omega,hlt,by
   dsimp only;rw[<-h3,tu T (l.drop a),List.drop_drop,List.append_assoc]⟩ G ⟨rfl,rfl,rfl,rfl,rfl,rfl,rfl,nm⟩
 ·have e0:S1++l.drop a=S1++(l.drop a++[]):=by rw[mq]
  have e1:S1++(stC (l.drop a)++[])=chC 20 l:=by rw[mq,<-h3,rj T T]
  have hlen:(S1++(l.drop a++[])).length=m:=by rw[<-e0,nr];omega
  rw[e0];refine(Ze∘Zb9∘ZcB∘ZZ∘ZaD∘Zaw∘ZaI) ?_;refine zy (yq L 900 (yz b ((S1++(stC (l.drop a)++[])).flatMap ccs++rest) tyC) (r:=yz b ((S1++(l.drop a++[])).flatMap ccs++rest) tyC) Z Z Z Z Z (fun u H C hH _ hr hC=>(by have h:=ins_ret (cap:=cap) (a:=a) (e:=m) h1 T hlen hm1 hH hr hC;exact h))) ?_;refine ZcK (h:=?_);rw[e1];clear e0 e1 hlen hlt hdl h1 h2 h3;refine xm (fun s:Nat=>[(0,.is (.slice (some ⟨b,0,none⟩) m cap)),(1,.is (.int .i64 m)),(2,.is A0),(6,.is (.int .i64 s)),(900,.own (xk b ((chC s l).flatMap ccs++rest) tyC))]) (fun s=>0<s/\s<=20+2*m) (fun s=>m-s) 20 ⟨by omega,by omega⟩ ⟨Z,Z,Z,Z,Z,nm⟩ ?_;rintro s ⟨hs0,hs1⟩;by_cases hsm:s<m
  ·refine(Ze∘ZbY∘Zag∘Zcw∘Zbe∘ZdI∘ZaH∘Zak) ?_
   refine xm (fun t:Nat×List CH=>[(0,.is (.slice (some ⟨b,0,none⟩) m cap)),(1,.is (.int .i64 m)),(2,.is A0),(6,.is (.int .i64 s)),(7,.is (.int .i64 t.1)),(8,.is (.int .i64 (t.1+2*s:Nat))),(900,.own (xk b ((t.2++chC s (l.drop t.1)).flatMap ccs++rest) tyC))])
    (fun t=>t.2.length=t.1/\t.1<=m/\t.2++chC (2*s) (l.drop t.1)=chC (2*s) l) (fun t=>m-t.1) (0,[]) ⟨rfl,Nat.zero_le _,rfl⟩ ⟨rfl,rfl,rfl,rfl,rfl,by dsimp only;rw[Nat.zero_add];rfl,rfl,trivial⟩ ?_
   rintro⟨a,S1⟩ ⟨h1,h2,h3⟩;dsimp only at h1 h2 h3 |-;have hdl:(l.drop a).length=m-a:=by rw[m7,hm]
   have hcs:=tu hs0 (l.drop a);by_cases hlt:a+2*s<=m
   ·have hcs2:=tu hs0 ((l.drop a).drop s)
    have e0:S1++chC s (l.drop a)=S1++(stC ((l.drop a).take s)++(stC (((l.drop a).drop s).take s)++chC s (l.drop (a+2*s)))):=by
     rw[hcs,hcs2,zlz,zlz,show a+s+s=a+2*s by omega]
    have ht2:(l.drop a).take (2*s)=(l.drop a).take s++((l.drop a).drop s).take s:=by rw[show 2*s=s+s by omega,List.take_add]
    have e1:S1++(stC (stC ((l.drop a).take s)++stC (((l.drop a).drop s).take s))++chC s (l.drop (a+2*s)))=(S1++stC ((l.drop a).take (2*s)))++chC s (l.drop (a+2*s)):=by rw[R5,<-ht2,mj]
    have l1:(stC ((l.drop a).take s)).length=s:=by rw[d7,mi];omega
    have l2:(stC (((l.drop a).drop s).take s)).length=s:=by rw[d7,mi,m7];omega
    have l3:(chC s (l.drop (a+2*s))).length=m-(a+2*s):=by rw[ze3 hs0,m7,hm]
    have hlen:(S1++(stC ((l.drop a).take s)++(stC (((l.drop a).drop s).take s)++chC s (l.drop (a+2*s))))).length=m:=by simp only[nr];omega
    have a1:IntKind.i64.wrap ((a:Int)+(s:Int))=((a+s:Nat):Int):=yy T T;have a2:IntKind.i64.wrap (((a+2*s:Nat):Int)+2*(s:Int))=((a+2*s+2*s:Nat):Int):=yy T T;rw[e0];refine(Ze∘ZbP∘ZcC∘ZbD∘ZA∘ZaI∘Zy∘Zb) ?_;refine zy (yq L 900 (yz b ((S1++(stC (stC ((l.drop a).take s)++stC (((l.drop a).drop s).take s))++chC s (l.drop (a+2*s)))).flatMap ccs++rest) tyC) (r:=yz b ((S1++(stC ((l.drop a).take s)++(stC (((l.drop a).drop s).take s)++chC s (l.drop (a+2*s))))).flatMap ccs++rest) tyC) Z Z Z Z Z (fun u H C hH _ hr hC=>(by have h:=Ru _ (cap:=cap) (a:=a) (mm:=a+s) (e:=a+2*s) (ns _) h1 T T T T (s4 _) (s4 _) hlen hm1 hH hr hC;exact h))) ?_;refine(Zg∘ZV∘Za∘Zc∘ZW∘Zb∘Zdu∘ZU) ?_;rw[e1]
    exact yn (x:=(a,S1)) (a+2*s,S1++stC ((l.drop a).take (2*s))) ⟨by dsimp only;rw[List.length_append,d7,List.length_take];omega,hlt,by
     dsimp only;rw[<-h3,tu T (l.drop a),List.drop_drop,List.append_assoc]⟩ G ⟨rfl,rfl,rfl,rfl,rfl,rfl,rfl,nm⟩
   ·have a1:IntKind.i64.wrap ((a:Int)+(s:Int))=((a+s:Nat):Int):=yy T T;have a2:IntKind.i64.wrap ((s:Int)*2)=((2*s:Nat):Int):=yy T T |>.trans T;by_cases hlm:a+s<m
    ·have e0:S1++chC s (l.drop a)=S1++(stC ((l.drop a).take s)++(stC ((l.drop a).drop s)++[])):=by
      rw[hcs,rj hs0 (l:=(l.drop a).drop s) (by rw[m7];omega),mq]
     have e1:S1++(stC (stC ((l.drop a).take s)++stC ((l.drop a).drop s))++[])=chC (2*s) l:=by
      rw[R5,m9,mq,<-h3,rj (n:=2*s) T T]
     have l1:(stC ((l.drop a).take s)).length=s:=by rw[d7,mi];omega
     have l2:(stC ((l.drop a).drop s)).length=m-a-s:=by rw[d7,m7];omega
     have hlen:(S1++(stC ((l.drop a).take s)++(stC ((l.drop a).drop s)++[]))).length=m:=by simp only[nr,my];omega
     rw[e0];refine(Ze∘ZbP∘ZcB∘ZZ∘ZaD∘Zf∘ZX∘Zb∘Zy∘Zd∘Zbo∘Zb∘Zag∘Za0∘Zb∘ZF) ?_;refine zy (yq L 900 (yz b ((S1++(stC (stC ((l.drop a).take s)++stC ((l.drop a).drop s))++[])).flatMap ccs++rest) tyC) (r:=yz b ((S1++(stC ((l.drop a).take s)++(stC ((l.drop a).drop s)++[]))).flatMap ccs++rest) tyC) Z Z Z Z Z (fun u H C hH _ hr hC=>(by have h:=Ru _ (cap:=cap) (a:=a) (mm:=a+s) (e:=m) (ns _) h1 T T T T (s4 _) (s4 _) hlen hm1 hH hr hC;exact h))) ?_;refine(Zs∘Zap∘Za) ?_;refine z7 (S5 Z Z Z Z a2) Z (ZU (h:=?_));rw[e1];exact yn (x:=s) (2*s) ⟨by omega,by omega⟩ T ⟨Z,Z,Z,Z,Z,nm⟩
    ·have e1:S1++chC s (l.drop a)=chC (2*s) l:=by
      rw[<-h3,rj hs0 T,rj (n:=2*s) T T]
     rw[e1];refine(Ze∘ZbP∘ZcB∘ZZ∘ZaD∘Zf∘ZX∘Zb∘Zy∘Zd∘Zbo∘Zb∘Za3∘Zch∘Zap∘Za) ?_;refine z7 (S5 Z Z Z Z a2) Z (ZU (h:=?_));exact yn (x:=s) (2*s) ⟨by omega,by omega⟩ T ⟨Z,Z,Z,Z,Z,nm⟩
  ·rw[rj hs0 T];refine(Ze∘ZbY∘Za3∘Zax) ?_;exact xo L 900 (r:=yz b _ tyC) Z (fun _ _ h=>h) nq Z Z
abbrev SSF:Nat:=254
def Sa{cap:Nat}(hm:l.length=m)(hm1:m<=100000)(hB:zpg B w)
  (hr:(yz b (l.flatMap ccs++rest) tyC).P B w C) (hC:ZCB C w B):
  ki zph SSF [.slice (some ⟨b,0,none⟩) m cap,A0] w B C (yz b ((stC l).flatMap ccs++rest) tyC):=by
 unfold ki;refine yr 900 (yz b (l.flatMap ccs++rest) tyC) Tryz.func254 Z Tryz.ntmps254 (np Z) hB hr hC ?_;rw[xa];refine(ZeN∘Zb∘ZaC∘Za) ?_;refine zy (yq L 900 (yz b ((stC l).flatMap ccs++rest) tyC) (r:=yz b (l.flatMap ccs++rest) tyC) Z Z Z Z Z (fun u H C hH _ hr hC=>(by have h:=Yd (cap:=cap) hm hm1 hH hr hC;exact h))) ?_;refine ZN (h:=?_);exact xo L 900 (r:=yz b _ tyC) Z (fun _ _ h=>h) nq Z Z
def zak(hB:zpg B w):Ret zph 291 [.slice none 0 0,.int .i64 0,.int .i64 0,A0] w B (fun _ _=>True):=by
 refine yh Tryz.func291 Z Tryz.ntmps291 (np Z) hB ((ZB∘Za∘ZaE∘ZaR) ?_);refine xm (fun _:Nat=>[(2,.is (.int .i64 0)),(8,.is (.int .i64 1))]) (fun _=>True) (fun s=>s) 0 trivial ⟨Z,Z,nm⟩ ?_;rintro s _;refine(Ze∘Z3∘Zb∘Za3∘Zax) ?_;exact Xb L Z (fun _ _ h=>h) nq
def R0(hB:zpg B w):Ret zph 281 [.slice none 0 0,.int .i64 0,A0] w B (fun _ _=>True):=by
 refine yh Tryz.func281 Z Tryz.ntmps281 (np Z) hB ((Z0∘Za∘ZaH∘Zak) ?_);refine xm (fun _:Nat=>[(0,.is (.slice none 0 0)),(1,.is (.int .i64 0)),(2,.is A0),(6,.is (.int .i64 20)),(7,.is (.int .i64 0)),(8,.is (.int .i64 20))]) (fun _=>True) (fun s=>s) 0 trivial ⟨Z,Z,Z,Z,Z,Z,nm⟩ ?_;rintro s _;refine(Ze∘Zb9∘ZcB∘ZZ∘ZaD∘Zaw∘ZaI) ?_;refine z7 (xg (φ:=fun _ _=>True) L Z Z (zn Z) Z Z Z (fun _ _ _ _ _=>trivial) (fun u H hH _ _=>zak hH)) Z (ZcK (h:=?_));refine xm (fun _:Nat=>[(1,.is (.int .i64 0)),(6,.is (.int .i64 20))]) (fun _=>True) (fun s=>s) 0 trivial ⟨Z,Z,nm⟩ ?_;rintro s _;refine(Ze∘ZbY∘Za3∘Zax) ?_;exact Xb L Z (fun _ _ h=>h) nq
def Ps(hB:zpg B w):Ret zph SSF [.slice none 0 0,A0] w B (fun _ _=>True):=by
 refine yh Tryz.func254 Z Tryz.ntmps254 (np Z) hB ((ZeN∘Zb∘ZaC∘Za) ?_);refine z7 (xg (φ:=fun _ _=>True) L Z Z (zn Z) Z Z Z (fun _ _ _ _ _=>trivial) (fun u H hH _ _=>R0 hH)) Z (ZN (h:=?_));exact Xb L Z (fun _ _ h=>h) nq
def _root_.Zeq(t:Wr Y->A:=by intro h;refine z8 (yw Z Z Z Z (ng T)) Z ?_;exact h.1)(h:Y):A:=t ⟨h⟩
def _root_.ZdS(t:Wr Y->A:=by intro h;refine z8 (yf L Z Z Z Z) Z ?_;exact h.1)(h:Y):A:=t ⟨h⟩
def _root_.Zfm(t:Wr Y->A:=by intro h;refine Zk (h:=?_);refine zy (wn L Z Z Z (V2 Z) Z zig M M T T) ?_;exact h.1)(h:Y):A:=t ⟨h⟩
def zah(l:List CH):ci (stC l)=Bc l:=Uk (ud cmpT_ord l)
def Hi:∀ (l:List CH),(ci l).length<=l.length
 | []=>ns _
 | [c]=>ns _
 | c::d::r=>by
  show(if kq c.1 d.1=0 then ci (d::r) else c::ci (d::r)).length<=_;have:=Hi (d::r);split
  ·simp only[ny] at this |-;omega
  ·simp only[ny] at this |-;omega
def Q2(hz:l.length<=100000)(hB:zpg B w)(hv:KS tyC l fu v B):
  RetO zph 252 [v] w B (SlR tyC 7 l.length (l.flatMap ccs)):=by
 have hv0:=hv;have hlen:=Br l;have hpl:=Ol l;obtain⟨p,c,rfl⟩:=ky hv;rcases p with _ | b
 ·obtain⟨h0,rfl⟩:l.length=0/\c=0:=s5 hv;have hn:l=[]:=mz h0;subst hn;refine j7 Tryz.func252 Z Tryz.ntmps252 (np Z) hB (ZaN (h:=?_));refine z7 (vk Z Z Z Z zj5 Z) Z ((Zu∘Zx∘Zc) ?_);exact gh 2 tyC 7 rfl (lm Z (fun _ _ h=>h) nq Z)
 ·refine j7 Tryz.func252 Z Tryz.ntmps252 (np Z) hB (ZaN (h:=?_));refine z7 (vk Z Z Z Z zj5 Z) Z (Zn (h:=?_));refine k8 0 (KS tyC l fu) Z nw hv0 ((ZI∘Zew∘Zfm) ?_);refine zy (yo (.inr Z) Z) (Zs (h:=?_));rw[zlb,mh];exact lm Z (fun _ _ h=>h) nq Z
def Mb{m:List CH}(hm:Bc l=m)(hz:l.length<=50000)(hB:zpg B w)(hv:KS tyC l fu v B):
  Ret zph 201 [v] w B (KS tyC m true):=by
 subst hm;have hsl:=d7 l;refine yh Tryz.func201 Z Tryz.ntmps201 (np Z) hB (k8 0 (KS tyC l fu) Z nw hv ((Z0∘Zk) ?_));refine z7 (wt L Z Z (zn Z) Z Z Z (fun u H hH _ _ v1 hv1=>Q2 T hH hv1)) Z (zy (yo (.inr Z) Z) ((Zg∘Zx∘Zd) ?_));refine b9 3 900 rfl (fun h0 hn=>?_) fun b cap rest hl hmc hcm hcl=>?_
 ·have hl0:l=[]:=mz h0;subst hl0;refine Zbi (h:=?_);refine z7 (xg (φ:=fun _ _=>True) L Z Z (zn Z) Z Z Z (fun _ _ _ _ _=>trivial) (fun u H hH _ _=>Ps hH)) Z (Zg (h:=?_));refine k8 3 (KS tyC [] false) Z nw SlV.nil ((ZS∘Zk) ?_);refine z7 (jj L (kl:=.i64) (pl:=0) 0 0 true Z Z Z Z Z Z ⟨rfl,rfl⟩ ⟨rfl,rfl⟩ E E Z) Z ((ZR∘Zay∘ZE∘Zh∘Zbt) ?_);refine xm (fun _:Nat=>[(5,.sat (KS tyC [] true)),(15,.sat (KS tyC [] false)),(16,.is (.int .i64 0)),(17,.is (.int .i64 0))]) (fun _=>True) (fun s=>s) 0 trivial ⟨Z,Z,Z,Z,nm⟩ ?_;rintro s _;refine(ZaS∘ZaO∘ZV∘Zk∘Zh∘Zh∘Zdk∘ZR∘Zs) ?_;refine yg1 L [.tmp 2] fun u H hH hle=>?_;exact fun v hv=>hv
 ·refine Zbi (h:=?_);refine zy (yq L 900 (yz b ((stC l).flatMap ccs++rest) tyC) (r:=yz b (l.flatMap ccs++rest) tyC) Z Z Z Z Z (fun u H C hH _ hr hC=>(by have h:=Sa (cap:=cap) Z T hH hr hC;exact h))) ?_;refine Zg (h:=?_)
  refine jw (xs:=(stC l).flatMap ccs) (rest:=rest) (s:=7) 3 900 rfl Z Z (by rw[Br,hsl]) hmc hcm (by
   rw[nr] at hcl |-;rw[Br] at hcl |-;rw[hsl];exact hcl) ?_
  rw[<-hsl];have hkn:=zah l;have hkl:=Hi (stC l);rw[<-hkn];generalize stC l=S at *;refine l6 3 rfl ((ZS∘Zk) ?_);refine z7 (jj L (kl:=.i64) (pl:=0) 0 0 true Z Z Z Z Z Z ⟨rfl,rfl⟩ ⟨rfl,rfl⟩ T T Z) Z ((ZR∘Zay∘ZE∘Zh∘Zbt) ?_);refine zbs 5 (SlV tyC 7 [] 0 true) Z nw (fun v H h=>h) (zjr 5 rfl (xm (fun i:Nat×List CH=>[(3,.sat (KS tyC S false)),(4,.is A0),(5,.own (SlG tyC 7 i.2.length (i.2.flatMap ccs))),(15,.sat (KS tyC S false)),(16,.is (.int .i64 S.length)),(17,.is (.int .i64 i.1))]) (fun i=>i.1<=S.length/\i.2.length<=i.1/\i.2++ci (S.drop i.1)=ci S) (fun i=>S.length-i.1) (0,[]) ⟨mf _,ns _,rfl⟩ ⟨Z,Z,Z,Z,Z,Z,nm⟩ ?_));rintro⟨i,kp⟩ ⟨h1,h2,h3⟩;dsimp only at h1 h2 h3 |-;by_cases hlt:i<S.length
  ·obtain⟨c,hc0⟩:=xi hlt;have hc:=Eu hc0;have hst:=Qp hc0;have a1:IntKind.i64.wrap ((i:Int)+1)=((i+1:Nat):Int):=yy T T;by_cases hlast:i+1<S.length
   ·obtain⟨d,hd0⟩:=xi hlast;have hd:=Eu hd0;rw[hd0] at hst;dsimp only at hst;by_cases heq:kq c.1 d.1=0
    ·rw[na heq,mh] at hst;refine(ZaS∘Zz∘Z8∘Zaa∘ZcX∘Z2∘Zv∘ZaL∘Zg∘Zct∘Zj∘ZbQ∘ZaA∘ZdS∘Zdb∘Zm) ?_;refine z8 (zx L (vs:=[_,_,_,_,_,_,_]) (qw Z) Z Z Z Z ⟨_,rfl⟩) Z ((Zdj∘ZbQ∘Zcv) ?_);refine z8 (yk L (vs:=[_,_,_,_,_,_,_]) Z Z Z Z Z ⟨_,rfl⟩) Z (z81 L Z (fun u H hH _=>gu hH) ?_);refine(Zeq∘Zaq∘Zbj∘ZP∘ZA∘Zy∘Zck) ?_;exact yn (x:=(i,kp)) (i+1,kp) ⟨hlt,by dsimp only;omega,by dsimp only;rw[<-hst];exact h3⟩ G ⟨Z,Z,Z,Z,Z,Z,trivial⟩
    ·rw[nc heq] at hst;refine(ZaS∘Zz∘Z8∘Zaa∘ZcX∘Z2∘Zv∘ZaL∘Zg∘Zct∘Zj∘ZbQ∘ZaA∘ZdS∘Zdb∘Zm) ?_;refine z8 (zx L (vs:=[_,_,_,_,_,_,_]) (qw Z) Z Z Z Z ⟨_,rfl⟩) Z ((Zdj∘ZbQ∘Zcv) ?_);refine z8 (yk L (vs:=[_,_,_,_,_,_,_]) Z Z Z Z Z ⟨_,rfl⟩) Z (z81 L Z (fun u H hH _=>gu hH) ?_);refine z8 (yw Z Z Z Z (nf T)) Z ((Zca∘Zat) ?_);refine zy (yo (.inl Z) Z) ((Zdr∘Zae) ?_);refine zy (Cv L E Z Z Z (az Z) Z zig Z Z T T) (zy (yo (.inr Z) Z) ((Zbp∘ZA∘Zy∘Zck) ?_));exact yn (x:=(i,kp)) (i+1,kp++[c]) ⟨hlt,by dsimp only;rw[List.length_append,List.length_singleton];omega,by dsimp only;rw[List.append_assoc,<-hst];exact h3⟩ G ⟨Z,Z,by dsimp only;rw[List.flatMap_append,List.length_append];rfl,Z,Z,Z,trivial⟩
   ·have hend:i+1=S.length:=T;rw[zld T] at hst;dsimp only at hst;refine(ZaS∘Zz∘Z8∘Zaa∘ZcX∘Z2∘Zv∘ZaL∘Zg∘Zct∘Zj∘ZbQ∘ZaA∘ZdS∘Zei∘Zb7∘ZbL∘Zca∘Zat) ?_;refine zy (yo (.inl Z) Z) ((Zdr∘Zae) ?_);refine zy (Cv L E Z Z Z (az Z) Z zig Z Z T T) (zy (yo (.inr Z) Z) ((Zbp∘ZA∘Zy∘Zck) ?_));exact yn (x:=(i,kp)) (i+1,kp++[c]) ⟨hlt,by dsimp only;rw[List.length_append,List.length_singleton];omega,by dsimp only;rw[List.append_assoc,<-hst];exact h3⟩ G ⟨Z,Z,by dsimp only;rw[List.flatMap_append,List.length_append];rfl,Z,Z,Z,trivial⟩
  ·rw[zlf T,show ci []=[] from rfl,mq] at h3;subst h3;refine zh2 5 rfl ((ZaS∘ZaO∘ZV∘Zk∘Zh∘Zh∘Zdk∘ZR∘Zs) ?_);refine yg1 L [.tmp 2] fun u H hH hle=>?_;exact fun v hv=>hv
end Go.V.L8
namespace Go.V.L2
abbrev fWo:Bool->Bool->Bool:=fun _ b=>!b
attribute [local irreducible] V N X VO Par StepOK Has Ret RetL RetO Src
def zep(p q:Bool)(w:World)(B:Heap)(hB:zpg B w):Ret zph 251 [.bool p,.bool q] w B (fun v _=>v=.bool (fWo p q)):=by
 refine yh Tryz.func251 Z Tryz.ntmps251 (np Z) hB ((Z0∘Za∘Zt∘Zc) ?_);exact yg2 L [.tmp 4]
def rt{l m:List U}{fa fb:Bool}{r:List U×Int}{v2:Value}(hr:zg4 fWo l m=r)(hB:zpg B w)(hv:US l fa v B)(hv2:US m fb v2 B):Ret zph 200 [v,v2] w B (LE r):=by
 refine yh Tryz.func200 Z Tryz.ntmps200 (np Z) hB (k8 0 (US l fa) Z nw hv (k8 1 (US m fb) Z nw hv2 ((ZbH∘Zaf∘Zk∘Zk) ?_)));refine z7 (xg (φ:=LE r) L Z Z (zn Z) Z Z Z LE.mono (fun u H hH _ _ v1 h1 v2 h2=>T1 Z zep hr hH h1 h2)) Z (z7 (eu Z Z Z Z nw) Z ((Zc5∘ZR∘Zc) ?_));refine yg1 L [.tmp 4,.tmp 5] fun u H hH hle=>?_;exact fun v hv=>Pi hv
end Go.V.L2
namespace Go.V.L8
open Go.V.L2 Go.V.L3 Go.V.L6
def Bv(a b:List U):List CH:=(Yg a b true false true).map fun t=>(t,decide (t∈a))
def zih(a b:List U):List CH:=Bc ((u7 kq fWo (a.length+b.length) a b).map (fun t=>(t,true))++(u7 kq fWo (b.length+a.length) b a).map (fun t=>(t,false)))
def Ug(a b:List CH)(t:U):gn (a++b) t=(gn b t).or (gn a t):=by
 induction a with
 | nil=>rw[mh,Uf];cases gn b t<;>rfl
 | cons c r ih=>
  rw[zll,gm,gm,ih];cases gn b t<;>cases gn r t<;>rfl
def Hf(h:Kd l){t:U}{c:CH}:gn l t=some c↔c∈l/\c.1=t:=by
 constructor
 ·exact fun h1=>⟨(fg h1).2,(fg h1).1⟩
 ·rintro⟨hc,rfl⟩
  obtain⟨d,hd⟩:∃ d,gn l c.1=some d:=by
   cases hk:gn l c.1 with
   | some d=>exact⟨d,rfl⟩
   | none=>exact ni rfl (dp.1 hk c hc)
  obtain⟨h1,h2⟩:=fg hd;rw[hd];have hp:=iy h;obtain⟨i,hi⟩:=zlx hc;obtain⟨j,hj⟩:=zlx h2;obtain⟨hi',rfl⟩:=zl5.1 hi;obtain⟨hj',rfl⟩:=zl5.1 hj;have hp':=zmk.1 hp;rcases zol i j with g | g | g
  ·exact ni h1.symm (hp' i j hi' hj' g)
  ·subst g;rfl
  ·exact ni h1 (hp' j i hj' hi' g)
def Nb{a b:List U}{t:U}:t∈Yg a b true false true↔((t∈a/\t∉b)\/(t∉a/\t∈b)):=by
 unfold Yg;rw[im,zlr,mn];unfold zgt;by_cases h1:t∈a<;>by_cases h2:t∈b<;>simp [h1,h2]
def Fc(a b:List U):Kd (Bv a b):=by
 unfold Kd Bv;rw[znh];have:((fun x:CH=>x.1)∘fun t:U=>(t,decide (t∈a)))=id:=rfl;rw[this,zoa];exact Gb _
def ug{a b:List U}{c:CH}:c∈Bv a b↔((c.1∈a/\c.1∉b)\/(c.1∉a/\c.1∈b))/\c.2=decide (c.1∈a):=by
 unfold Bv;rw[m8];constructor
 ·rintro⟨t,ht,rfl⟩;exact⟨Nb.1 ht,rfl⟩
 ·rintro⟨h1,h2⟩;exact⟨c.1,Nb.2 h1,Prod.ext rfl h2.symm⟩
def Mt{a b:List U}(ha:Sst kq a)(hb:Sst kq b){t:U}:t∈u7 kq fWo (a.length+b.length) a b↔t∈a/\t∉b:=by
 rw[u0 cmpT_ord fWo (ns _) ha hb];unfold Tk;by_cases h1:t∈a<;>by_cases h2:t∈b<;>simp [h1,h2]
def ze8{a b:List U}(ha:Sst kq a)(hb:Sst kq b):zih a b=Bv a b:=Ts (G2 _) (Fc a b) fun c=>by
 unfold zih;rw[G4,ug,Ug]
 have h1:gn ((u7 kq fWo (b.length+a.length) b a).map fun t=>(t,false)) c.1=if c.1∈b/\c.1∉a then some (c.1,false) else none:=by
  by_cases h:c.1∈b/\c.1∉a
  ·rw[na h]
   have hn:Kd ((u7 kq fWo (b.length+a.length) b a).map fun t=>(t,false)):=by
    unfold Kd;rw[znh];have:((fun x:CH=>x.1)∘fun t:U=>(t,false))=id:=rfl;rw[this,zoa];exact d8 cmpT_ord fWo (ns _) hb ha
   exact(Hf hn).2 ⟨m8.2 ⟨c.1,(Mt hb ha).2 h,rfl⟩,rfl⟩
  ·rw[nc h,dp];intro d hd e;obtain⟨t,ht,rfl⟩:=m8.1 hd;exact h (e ▸ (Mt hb ha).1 ht)
 have h2:gn ((u7 kq fWo (a.length+b.length) a b).map fun t=>(t,true)) c.1=if c.1∈a/\c.1∉b then some (c.1,true) else none:=by
  by_cases h:c.1∈a/\c.1∉b
  ·rw[na h]
   have hn:Kd ((u7 kq fWo (a.length+b.length) a b).map fun t=>(t,true)):=by
    unfold Kd;rw[znh];have:((fun x:CH=>x.1)∘fun t:U=>(t,true))=id:=rfl;rw[this,zoa];exact d8 cmpT_ord fWo (ns _) ha hb
   exact(Hf hn).2 ⟨m8.2 ⟨c.1,(Mt ha hb).2 h,rfl⟩,rfl⟩
  ·rw[nc h,dp];intro d hd e;obtain⟨t,ht,rfl⟩:=m8.1 hd;exact h (e ▸ (Mt ha hb).1 ht)
 rw[h1,h2];obtain⟨x,d⟩:=c;dsimp only;by_cases ha':x∈a<;>by_cases hb':x∈b<;>cases d<;>simp [ha',hb']
def Fe(a b:List U):(Bv a b).length<=a.length+b.length:=by
 unfold Bv Yg;rw[mt];refine mw (r5 _) (mw (zm9 _ _) ?_);rw[nr];exact ns _
attribute [local irreducible] V N X VO Par StepOK Has Ret RetL RetO RetT ki Src
def zbx(a b:List U):(u7 kq fWo (a.length+b.length) a b).length<=a.length+b.length:=gl _ _ _ (ns _)
def Tw{a b:List U}(la:a.length<=4096)(lb:b.length<=4096)(sa:Sst kq a)(sb:Sst kq b):zg4 fWo a b=(u7 kq fWo (a.length+b.length) a b,0):=by
 unfold zg4;have h1:isB a=true:=nf sa;have h2:isB b=true:=nf sb;rw[nc T,h1,h2,na E]
def Hw{a b:List U}{m:List CH}(la:a.length<=4096)(lb:b.length<=4096)(sa:Sst kq a)(sb:Sst kq b)(hr:zih a b=m){av bv:Value}(hB:zpg B w)(ha:SetV a av B)(hb:SetV b bv B):
  Ret zph 144 [av,bv] w B (KS tyC m true):=by
 subst hr;obtain⟨f1,p1,k1,q1,rfl,hp1⟩:=ha.shape;obtain⟨f2,p2,k2,q2,rfl,hp2⟩:=hb.shape;have w1:=Tw la lb sa sb;have w2:=Tw lb la sb sa;have l1:=zbx a b;have l2:=zbx b a;have hbp:zih a b=Bc ((u7 kq fWo (a.length+b.length) a b).map (fun t=>(t,true))++(u7 kq fWo (b.length+a.length) b a).map (fun t=>(t,false))):=rfl;rw[hbp];generalize u7 kq fWo (a.length+b.length) a b=zpe at *;generalize u7 kq fWo (b.length+a.length) b a=K at *;have mG:Kn.mono (.sat (US zpe true)):=nw;have mK:Kn.mono (.sat (US K true)):=nw;refine yh Tryz.func144 Z Tryz.ntmps144 (np Z) hB ((Za2∘Zd∘Zc0∘Zdn) ?_);refine z8 (xg (φ:=US a true) L Z Z (zn Z) Z Z Z nw (fun u H hH hle _=>dh T hH (ha.le hle))) Z (Zdn (h:=?_));refine z8 (xg (φ:=US b true) L Z Z (zn Z) Z Z Z nw (fun u H hH hle _=>dh T hH (hb.le hle))) Z ((Zci∘Zci∘ZaJ∘Zx∘Zk∘Zk) ?_);refine z7 (xg (φ:=LE (zpe,0)) L Z Z (zn Z) Z Z Z LE.mono (fun u H hH _ _ v1 h1 v2 h2=>rt w1 hH h1 h2)) Z ((Zk∘ZcR∘Zc5∘ZR∘Zd∘ZI∘Zk∘Zk) ?_);refine z7 (xg (φ:=LE (K,0)) L Z Z (zn Z) Z Z Z LE.mono (fun u H hH _ _ v1 h1 v2 h2=>rt w2 hH h1 h2)) Z ((Zk∘ZcR∘Zc5∘ZR∘Zd∘ZS∘Zi) ?_);refine gh 11 tyC 7 rfl ((ZE∘Zh∘Zbt) ?_);refine xm (fun i:Nat=>[(9,.sat (US K true)),(11,.own (SlR tyC 7 ((zpe.take i).map fun t=>((t,true):CH)).length (((zpe.take i).map fun t=>((t,true):CH)).flatMap ccs))),(32,.sat (US zpe true)),(33,.is (.int .i64 zpe.length)),(34,.is (.int .i64 i))]) (fun i=>i<=zpe.length) (fun i=>zpe.length-i) 0 (mf _) ⟨Z,Z,Z,Z,Z,nm⟩ ?_;rintro i hi;have hli:((zpe.take i).map fun t=>((t,true):CH)).length<=8192:=by rw[mt,mi];omega
 by_cases hlt:i<zpe.length
 ·obtain⟨t,ht⟩:=xi hlt;have hct:=d6 ht;have e1:((zpe.take (i+1)).map fun t=>((t,true):CH))=((zpe.take i).map fun t=>((t,true):CH))++[(t,true)]:=by rw[zlc,ht,zli];rfl
  refine(ZaS∘Zz∘ZK∘Zaa∘Zcp∘Zaj∘Zs∘ZC) ?_;refine zy (yo (.inl Z) Z) ((Zbq∘Ze7∘Zae∘ZcY) ?_);refine zy (yo (.inr Z) Z) ((Zbp∘Zat∘Zbc) ?_);exact yn (x:=i) (i+1) hlt T ⟨Z,by rw[e1];exact fq Z,Z,Z,Z,nm⟩
 ·obtain rfl:i=zpe.length:=by omega
  rw[zla];have lG:(zpe.map fun t=>((t,true):CH)).length<=8192:=by rw[mt];omega
  refine(ZaS∘ZaO∘Zf∘ZA∘Zh∘Zbt) ?_;refine xm (fun j:Nat=>[(11,.own (SlR tyC 7 ((zpe.map fun t=>((t,true):CH))++((K.take j).map fun t=>((t,false):CH))).length (((zpe.map fun t=>((t,true):CH))++((K.take j).map fun t=>((t,false):CH))).flatMap ccs))),(44,.sat (US K true)),(45,.is (.int .i64 K.length)),(46,.is (.int .i64 j))]) (fun j=>j<=K.length) (fun j=>K.length-j) 0 (mf _) ⟨by rw[zl4,zlm,mq];rfl,Z,Z,Z,nm⟩ ?_;rintro j hj;have hlj:((zpe.map fun t=>((t,true):CH))++((K.take j).map fun t=>((t,false):CH))).length<=16384:=by rw[nr,mt,mt,mi];omega
  by_cases hjl:j<K.length
  ·obtain⟨t,ht⟩:=xi hjl;have hct:=d6 ht;have e1:((zpe.map fun t=>((t,true):CH))++((K.take (j+1)).map fun t=>((t,false):CH)))=((zpe.map fun t=>((t,true):CH))++((K.take j).map fun t=>((t,false):CH)))++[(t,false)]:=by rw[zlc,ht,zli,mj];rfl
   refine(Zf∘ZV∘Zz∘ZW∘Zaa∘Zcp∘Zaj∘Zs∘ZX) ?_;refine zy (yo (.inl Z) Z) ((Zbq∘Ze7∘Zae∘ZcY) ?_);refine zy (yo (.inr Z) Z) ((Zbp∘Zbo∘Zbc) ?_);exact yn (x:=j) (j+1) hjl T ⟨by rw[e1];exact fq Z,Z,Z,Z,nm⟩
  ·obtain rfl:j=K.length:=by omega
   rw[zla];rw[zla] at hlj;refine l6 11 rfl ((Zf∘ZV∘ZaO∘Za0∘Zk) ?_);refine z7 (xg (φ:=KS tyC (Bc ((zpe.map fun t=>((t,true):CH))++(K.map fun t=>((t,false):CH)))) true) L Z Z (zn Z) Z Z Z nw (fun u H hH _ _ v1 h1=>Mb Z T hH h1)) Z ((ZR∘Zs) ?_);refine yg1 L [.tmp 4] fun u H hH hle=>?_;exact fun v hv=>hv
end Go.V.L8
namespace Go.V.L10
open Go.V.L2 Go.V.L8 Go.V.L6
def M5(S:Sto):a7 fun(x:Nat×Value×Ent) (H:Heap)=>MapOK x.2.2 S.R/\EsV x.2.2 H/\PsV (xc S.P) x.2.1 H:=fun _ _ _ ⟨h1,h2,h3⟩ hle=>⟨h1,h2.le hle,h3.le hle⟩
abbrev StG(b:Nat)(S:Sto):GR:=GEx (fun x:Nat×Value×Ent=>StO b S.R.length x.1 x.2.1 S.P.length x.2.2) (fun x H=>MapOK x.2.2 S.R/\EsV x.2.2 H/\PsV (xc S.P) x.2.1 H) (M5 S)
def Ah(b:Nat)(S:Sto):(StG b S).res=ExR (fun x:Nat×Value×Ent=>(StO b S.R.length x.1 x.2.1 S.P.length x.2.2).res) (fun x H=>MapOK x.2.2 S.R/\EsV x.2.2 H/\PsV (xc S.P) x.2.1 H) (M5 S):=rfl
def ge(hm:MapOK es S.R)(hes:EsV es B)(hps:PsV (xc S.P) s B):∀ (v:Value) H u C,B.Le H->(StO b S.R.length m s S.P.length es).res.P v H u C->(StG b S).res.P v H u C:=fun _ _ _ _ hle h=>⟨(m,s,es),⟨hm,hes.le hle,hps.le hle⟩,h⟩
def EsV.snoc(h:EsV es H){k:Int}(hv:SetV t v H):EsV (es++[(k,(t,v))]) H:=fun e he=>by
 rcases mn.1 he with he | he
 ·exact h e he
 ·rw[m6.1 he];exact hv
def Ng{f:FuncId}{r:GR}(h:RetY P f args w B C r (fun x _=>x=v)):RetX P f args w B C r v:=RetL.mono h fun _ _ _ _ hp=>hp
attribute [local irreducible] V N X VO Par StepOK Has Ret RetL RetO RetT ki RetX RetY Src
def Ck{S S':Sto}{l cs:List CH}{rev e:Int}{fl fc:Bool}(hI:zkf S)(hR:S.R.length<=100000)(hn:S.R.length≠0)(zl:∀ c∈l,TM c.1)(zc:∀ c∈cs,TM c.1)(ll:l.length<=9223372036854775807)(lc:cs.length<=9223372036854775807)(hw:t7 S l cs=(S',rev,e)){lv cv:Value}(hB:zpg B w)
  (hl:KS tyM l fl lv B) (hc:KS tyC cs fc cv B) (hr:(StG b S).P B w C) (hC:ZCB C w B):
  RetY zph 82 [.pointer (some ⟨b,0,none⟩),lv,cv] w B C (StG b S') (fun v _=>v=.tuple #[.int .u64 rev,.int .i64 e]):=by
 unfold RetY;refine yr 900 (StG b S) Tryz.func82 Z Tryz.ntmps82 (np Z) hB hr hC (k8 1 (KS tyM l fl) Z nw hl (k8 2 (KS tyC cs fc) Z nw hc ?_));rw[Ah];refine vm 900 rfl fun x H hs0 hφ=>?_;obtain⟨m,s,es⟩:=x;obtain⟨hm,hes,hps⟩:=hφ;dsimp only at hm hes hps |-;obtain⟨ps,pc,rfl⟩:=ky hps;obtain⟨t0,ht0⟩:∃ t0,kpt S.R S.R.length=some t0:=zmc.1 hI.last;have hA:atS S 0=(t0,0):=by unfold atS;rw[if_pos rfl,ht0]
 have ht4:=hI.tl _ _ ht0;obtain⟨⟨t1,made,e1⟩,hwr⟩:∃ x,cz t0 l cs=x:=⟨_,rfl⟩
 unfold t7 at hw;rw[hA,hwr] at hw;dsimp only at hw;refine(ZbH∘Zbv) ?_;refine qz (wx L 900 (WithP t0 0) (r:=StO b S.R.length m _ S.P.length es) rfl rfl rfl rfl rfl WithP.mono (fun u H2 C2 hH hle hr2 hC2=>by have h:=F9 (S:=S) (r:=0) hm hn (hes.le hle) hH hr2 hC2;rw[hA] at h;exact h)) ?_;refine w6 14 rfl fun v1 H1 hs1 hp1=>?_;obtain⟨sv,rfl,hsv⟩:=hp1;obtain⟨f1,p1,f2,p2,rfl,hpl⟩:=hsv.shape;refine(Z1∘Z2∘Zbr∘Zi∘Zo∘Zb3∘ZS∘Zbg∘Zk∘Zk) ?_;refine z7 (xg L rfl rfl (zn rfl) rfl rfl rfl WriteP.mono (fun u H2 hH hle _ v1 h1 v2 h2=>write_ret zl zc ll lc ht4 hwr hH (hsv.le hle) h1 h2)) rfl ?_;refine w6 24 rfl fun v3 H3 hs3 hp3=>?_;obtain⟨tv,mv,rfl,htv,hmv⟩:=hp3;obtain⟨f3,p3,f4,p4,rfl,hpl4⟩:=htv.shape;refine(Z1∘Zcf∘Z2∘Zbr∘Za8) ?_;have hs13:=hs1.trans hs3;have hes3:=hes.le hs13.le;have hps3:=hps.le hs13.le;by_cases he:e1=0
 ·subst he;rw[na rfl] at hw;have hlen:=hm.len;have hkl:=hI.kl;rw[l7];refine Zd9 (h:=?_);by_cases hk:1024<=(ko S.R).length
  ·rw[na hk] at hw;cases hw;refine(ZT∘Za5∘Z4∘Z8∘ZH) ?_;refine qz (Ls (q:=901) (vc:=vcE) mpS Z Z Z Z Z) ((ZG∘Zu∘ZC∘ZM) ?_);refine ZcV (h:=?_);exact w5 900 (StG b S).res Z (ge hm hes3 hps3) (vw L 900 (r:=StG b S) (rs:=[.tmp 6,.tmp 7]) Z (fun _ _ h=>h) (hs0.trans hs13) Z Z (fun H hle=>rfl))
  ·rw[nc hk] at hw;cases hw;have hadd:=hm.add t1 (.agg #[f3,.pointer p3,f4,.pointer p4]);have hwn:IntKind.u64.wrap ((S.R.length:Int)+1)=((S.R.length+1:Nat):Int):=wrap_u64 T T;have hln:(S.R++[some t1]).length=S.R.length+1:=by rw[nr];rfl
   refine(ZT∘Za5∘Z4∘Z8∘ZH) ?_;refine qz (Ls (q:=901) (vc:=vcE) mpS Z Z Z Z Z) ((Zq∘Z4∘Zau∘ZH∘Zy∘Zq∘Zn∘ZV∘Za∘ZH∘Zy∘ZY) ?_);refine xh (ye L (q:=900) (cs':=stc (S.R.length+1) m (.slice ps (xc S.P).length pc) S.P.length) Z Z Z Z Z) (Zg (h:=?_));refine qg (id:=12) [(200053,[900]),(200057,[900]),(100053,[901])] mixed J ((ZaY∘ZaY∘Zce) ?_);refine xl (Ct (q:=901) (vc:=vcE) ((S.R.length+1:Nat):Int) (t1,.agg #[f3,.pointer p3,f4,.pointer p4]) mpS kyS Z Z Z Z Z Z hadd.2) Z (ZaJ (h:=?_));refine(ZX∘Za∘ZH∘ZM) ?_;refine ZcV (h:=?_);refine w5 900 (StG b ⟨S.R++[some t1],S.P⟩).res Z (fun v H u C hle h=>ge (S:=⟨S.R++[some t1],S.P⟩) (by have h2:=hadd.1;rw[hadd.2] at h2;exact h2) (hes3.snoc htv) hps3 v H u C hle (by dsimp only;rw[hln];exact h)) ?_;exact vw L 900 (r:=StG b ⟨S.R++[some t1],S.P⟩) (rs:=[.tmp 6,.tmp 7]) Z (fun _ _ h=>h) (hs0.trans hs13) Z Z (fun H hle=>rfl)
 ·rw[nc he] at hw;cases hw;refine(ZT∘ZaG∘ZL∘ZM) ?_;exact w5 900 (StG b S).res Z (ge hm hes3 hps3) (vw L 900 (r:=StG b S) (rs:=[.tmp 6,.tmp 7]) Z (fun _ _ h=>h) (hs0.trans hs13) Z Z (fun H hle=>rfl))
def Kz{f:Nat}{P':List Int}(hn:S.R.length≠0)(hk:(kpt S.R r).isSome=true)(hfn:L.fn f=some ())(hf:∀ {s:Value} {u:World} {H:Heap},zpg H u->PsV (xc S.P) s H->Ret zph f [pnv s S.P.length,.int .u64 r] u H (PinP P' e))(hB:zpg B w)
  (hr:(StG b S).P B w C) (hC:ZCB C w B):
  RetY zph 137 [.pointer (some ⟨b,0,none⟩),.int .u64 r,.func (.func f) #[] #[]] w B C (StG b (if e=0 then ⟨S.R,P'⟩ else S)) (fun v _=>v=.int .i64 e):=by
 unfold RetY;refine yr 900 (StG b S) Tryz.func137 Z Tryz.ntmps137 (np Z) hB hr hC ?_;rw[Ah];refine vm 900 rfl fun x H hs0 hφ=>?_;obtain⟨m,s,es⟩:=x;obtain⟨hm,hes,hps⟩:=hφ;dsimp only at hm hes hps |-;obtain⟨ps,pc,rfl⟩:=ky hps;rw[l7];refine Zd9 (h:=?_);have hg:=hm.get r
 obtain⟨⟨t0,sv⟩,hgk⟩:∃ x,ub r es=some x:=by
  rw[<-hg,zob] at hk;exact zmc.1 hk
 have hsv:SetV t0 sv H:=hes _ (cd hgk);obtain⟨f1,p1,f2,p2,rfl,hpl⟩:=hsv.shape;have q1:(ub r es).elim nilSet vcE=.agg #[f1,.pointer p1,f2,.pointer p2]:=by rw[hgk];rfl
 have q2:(ub r es).isSome=true:=by rw[hgk];rfl
 refine ZaN (h:=?_);refine qz (xr L 900 (Φ:=fun H=>H b=some (.cells (stc S.R.length m _ S.P.length).toArray tyS)) (c:=.bool false) rfl rfl (zn rfl) rfl rfl rfl rfl rfl r8 (fun u H hH hle hb=>none_ret hn hb hH)) ((Z4∘Zp∘ZH∘Za) ?_);refine qz (ul (q:=901) (vc:=vcE) r mpS kyS zrS rfl rfl rfl rfl rfl q1 q2) ((Z1∘Z2∘Zbr∘Zd∘Z9∘Zt∘Zn∘ZbG∘ZY) ?_);refine qz (xq L (q:=900) (vs:=[_,_]) rfl rfl rfl rfl ⟨_,rfl⟩) (Za (h:=?_));refine z7 (xg (φ:=PinP P' e) L rfl rfl (zn rfl) rfl (cap:=[]) rfl hfn PinP.mono (fun u H2 hH hle _=>hf hH (hps.le hle))) rfl ?_;refine w6 31 rfl fun v1 H1 hs1 hp1=>?_;obtain⟨s2,rfl,hs2⟩:=hp1;obtain⟨p5,c5,rfl⟩:=ky hs2;refine(Z1∘Zaj∘Zi) ?_;by_cases he:e=0
 ·subst he;rw[na rfl];refine(Z8∘ZG∘ZD∘Zbe∘Zcl∘ZY) ?_;refine xh (ye L (q:=900) (cs':=stc S.R.length m (.slice p5 (xc P').length c5) P'.length) Z Z Z Z Z) ((Zg∘Zau∘Zc) ?_);refine ZcV (h:=?_);exact w5 900 (StG b ⟨S.R,P'⟩).res Z (ge (S:=⟨S.R,P'⟩) hm (hes.le hs1.le) hs2) (vw L 900 (r:=StG b ⟨S.R,P'⟩) (rs:=[.tmp 6]) Z (fun _ _ h=>h) (hs0.trans hs1) Z Z (fun H hle=>rfl))
 ·rw[nc he];refine(Z8∘Zq∘Zn∘Zau∘Zc) ?_;refine ZcV (h:=?_);exact w5 900 (StG b S).res Z (ge hm (hes.le hs1.le) (hps.le hs1.le)) (vw L 900 (r:=StG b S) (rs:=[.tmp 6]) Z (fun _ _ h=>h) (hs0.trans hs1) Z Z (fun H hle=>rfl))
def Gh{fv:Value}(hn:S.R.length≠0)(hk:¬ (kpt S.R r).isSome=true)(hB:zpg B w)
  (hr:(StG b S).P B w C) (hC:ZCB C w B):
  RetY zph 137 [.pointer (some ⟨b,0,none⟩),.int .u64 r,fv] w B C (StG b S) (fun v _=>v=.int .i64 14):=by
 refine RetY.ex hr fun x hφ hr=>?_;obtain⟨m,s,es⟩:=x;obtain⟨hm,hes,hps⟩:=hφ;dsimp only at hm hes hps hr |-;unfold RetY;refine yr 900 (StO b S.R.length m s S.P.length es) Tryz.func137 Z Tryz.ntmps137 (np Z) hB hr hC ?_;rw[l7];refine Zd9 (h:=?_);have hg:=hm.get r
 have hgk:ub r es=none:=by
  rw[<-hg,zob] at hk
  cases h:ub r es with
  | none=>rfl
  | some y=>rw[h] at hk;exact ni rfl hk
 have q1:(ub r es).elim nilSet vcE=nilSet:=by rw[hgk];rfl
 have q2:(ub r es).isSome=false:=by rw[hgk];rfl
 refine ZaN (h:=?_);refine qz (xr L 900 (Φ:=fun H=>H b=some (.cells (stc S.R.length m _ S.P.length).toArray tyS)) (c:=.bool false) Z Z (zn Z) Z Z Z Z Z r8 (fun u H hH hle hb=>none_ret hn hb hH)) ((Z4∘Zp∘ZH∘Za) ?_);refine qz (ul (q:=901) (vc:=vcE) r mpS kyS zrS Z Z Z Z Z q1 q2) ((Z1∘Zaj∘Zd∘Z9∘Zt∘Zu∘ZE∘Zc) ?_);refine ZcV (h:=?_);exact vw L 900 (r:=StO b S.R.length m s S.P.length es) (rs:=[.tmp 6]) Z (fun _ _ h=>h) nq Z Z (fun H hle=>rfl)
def R9{S S':Sto}{r e:Int}(hn:S.R.length≠0)(hz2:(xc S.P).length<=1000)(hz:S.P.length<=4095)(hpn:zdt S r false=(S',e))(hB:zpg B w)(hr:(StG b S).P B w C)(hC:ZCB C w B):
  RetY zph 83 [.pointer (some ⟨b,0,none⟩),.int .u64 r] w B C (StG b S') (fun v _=>v=.int .i64 e):=by
 unfold zdt at hpn;unfold RetY;refine yr 900 (StG b S) Tryz.func83 Z Tryz.ntmps83 (np Z) hB hr hC ?_;by_cases hk:(kpt S.R r).isSome=true
 ·rw[na hk] at hpn;rw[nc E] at hpn;cases hpn;have hr0:r≠0:=by have:=dq hk;omega
  refine(Z0∘Zb) ?_;refine zy (y7 L 900 (StG b ⟨S.R,S.P++[r]⟩) (.int .i64 0) (r:=StG b S) Z Z Z Z Z (fun u H2 C2 hH hle hr2 hC2=>by have h:=Kz (P':=S.P++[r]) (e:=0) hn hk Z (fun hH hv=>zds hr0 hz2 hz hH hv) hH hr2 hC2;rw[na Z] at h;exact Ng h)) ?_;refine Zc (h:=?_);exact vw L 900 (r:=StG b ⟨S.R,S.P++[r]⟩) (rs:=[.tmp 4]) Z (fun _ _ h=>h) nq Z Z (fun H hle=>rfl)
 ·rw[nc hk] at hpn;cases hpn;refine(Z0∘Zb) ?_;refine qz (Gz L 900 (.int .i64 14) (r:=StG b S) Z Z Z Z Z (fun u H2 C2 hH hle hr2 hC2=>Gh hn hk hH hr2 hC2)) (Zc (h:=?_));exact vw L 900 (r:=StG b S) (rs:=[.tmp 4]) Z (fun _ _ h=>h) nq Z Z (fun H hle=>rfl)
def Yf(hn:S.R.length≠0)(hz:S.P.length<=1000)(hpn:zdt S r false=(S',e))(hB:zpg B w)(hr:(StG b S).P B w C)(hC:ZCB C w B):
  RetY zph 83 [.pointer (some ⟨b,0,none⟩),.int .u64 r] w B C (StG b S') (fun v _=>v=.int .i64 e):=
 R9 hn (by rw[ws];exact mw (fh _) hz) T hpn hB hr hC
def i8(h:List Int)(k:Nat):Int:=if k=0 then 0 else (h[k-1]?).getD 0
def an{h:List Int}{x:Int}(hx:h[k]?=some x):i8 h (k+1)=x:=by
 unfold i8;rw[nc T,zou,hx];rfl
def Sg{a tv:Value}(h:φ tv H):TupS [φ,fun v _=>v=a] (.tuple #[tv,a]) H:=by
 refine⟨[tv,a],rfl,rfl,fun i φ' x hi hx=>?_⟩;rcases i with _ | _ | i
 ·cases hi;cases hx;exact h
 ·cases hi;cases hx;rfl
 ·cases hi
def Lb{a:Value}(h:Kn.mono (.sat φ)):Kn.mono (.sat (TupS [φ,fun v _=>v=a])):=TupS.mono fun ψ hψ=>by
 simp only[nz,zmw,or_false] at hψ;rcases hψ with rfl | rfl
 ·exact h
 ·exact fun _ _ _ h _=>h
def zfq(es:Ent)(l:List Int):Ent:=l.foldl (fun e g=>Qi g e) es
def U5{l:List Int}{g:Int}(h:l[i]?=some g):zfq es (l.take (i+1))=Qi g (zfq es (l.take i)):=by unfold zfq;rw[v7 h,List.foldl_append];rfl
def MapOK.dels:∀ {l:List Int} {es:Ent} {R:List (Option (List U))},MapOK es R->(∀ g∈l,0<g)->MapOK (zfq es l) (Vg R l)
 | [],_,_,h,_=>h
 | g::l,_,_,h,hg=>MapOK.dels (l:=l) (h.del (hg g (mb ..))) fun x hx=>hg x (mc _ hx)
def EsV.dels:∀ {l:List Int} {es:Ent} {H:Heap},EsV es H->EsV (zfq es l) H
 | [],_,_,h=>h
 | g::l,_,_,h=>EsV.dels (l:=l) fun e he=>h e ((Em g _).subset he)
def zap{P0:List Int}{R:List (Option (List U))}{k:Nat}:∀ g∈cu P0 (ko R) k,0<g:=fun g hg=>by
 unfold cu at hg;have h1:=zn8 (zlr.1 hg).1;exact(dq (wz.1 h1)).1
def wu{t:Nat}:∀ v H u C,(StO b n m s t es).res.P v H u C->joinH H u C b=some (.cells (stc n m s t).toArray tyS):=by rw[l7];exact Ub
def za8{t:Nat}:∀ v H u C,(StO b n m s t es).res.P v H u C->u.heap[b]?=some (.cells (stc n m s t).toArray tyS):=by rw[l7];exact Vy
abbrev zid(g:List Int)(e:Int):Value->Heap->Prop:=TupS [RsV g true,fun v _=>v=.int .i64 e]
def Gg{keep:Int}(hn:S.R.length≠0)(hz:S.P.length<=100000)(hR:S.R.length<=100000)(hB:zpg B w)(hr:(StG b S).P B w C)(hC:ZCB C w B):
  RetY zph 84 [.pointer (some ⟨b,0,none⟩),.int .i64 keep] w B C (StG b (ri S keep).1) (zid (ri S keep).2.1 (ri S keep).2.2):=by
 unfold RetY;refine yr 900 (StG b S) Tryz.func84 Z Tryz.ntmps84 (np Z) hB hr hC ?_;rw[Ah];refine vm 900 rfl fun x H hs0 hφ=>?_;obtain⟨m,s,es⟩:=x;obtain⟨hm,hes,hps⟩:=hφ;dsimp only at hm hes hps |-;obtain⟨ps,pc,rfl⟩:=ky hps;have hlen:=hm.len;have hkl:=r9 S.R;by_cases hk1:keep<1
 ·have hS:ri S keep=(S,[],4):=by unfold ri;rw[if_neg T]
  rw[hS];refine(ZB∘ZaH∘Z6∘ZaZ) ?_;refine qz (xr L 900 (Φ:=fun H=>H b=some (.cells (stc S.R.length m (.slice ps (xc S.P).length pc) S.P.length).toArray tyS)) (c:=.bool false) Z Z (zn Z) Z Z Z Z Z wu (fun u H hH hle hb=>none_ret hn hb hH)) ((Zan∘Zp∘Zab∘ZaF∘Zl∘ZbM∘Zbm∘ZM) ?_);exact w5 900 (StG b S).res Z (ge hm hes hps) (vw L 900 (r:=StG b S) (rs:=[.tmp 4,.tmp 5]) Z (fun _ _ h=>h) hs0 Z Z (fun H hle=>Sg SlV.nil))
 ·by_cases hk2:1024<keep
  ·have hS:ri S keep=(S,[],4):=by unfold ri;rw[if_neg T]
   rw[hS];refine(ZB∘ZaH∘Z6∘ZaZ) ?_;refine qz (xr L 900 (Φ:=fun H=>H b=some (.cells (stc S.R.length m (.slice ps (xc S.P).length pc) S.P.length).toArray tyS)) (c:=.bool false) Z Z (zn Z) Z Z Z Z Z wu (fun u H hH hle hb=>none_ret hn hb hH)) ((Zan∘Zp∘Zac∘Zb∘ZO∘Zl∘ZbM∘Zbm∘ZM) ?_);exact w5 900 (StG b S).res Z (ge hm hes hps) (vw L 900 (r:=StG b S) (rs:=[.tmp 4,.tmp 5]) Z (fun _ _ h=>h) hs0 Z Z (fun H hle=>Sg SlV.nil))
  ·obtain⟨k,rfl⟩:∃ k:Nat,keep=(k:Int):=⟨keep.toNat,by omega⟩
   have hS:ri S k=(⟨Vg S.R (cu S.P (ko S.R) k),S.P⟩,cu S.P (ko S.R) k,0):=by unfold ri;rw[if_pos T];rfl
   rw[hS];have hgp:∀ x∈cu S.P (ko S.R) k,0<x:=zap
   have hgl:(cu S.P (ko S.R) k).length<=100000:=by
    unfold cu;refine mw (zm9 ..) ?_;rw[mi];omega
   generalize hg:cu S.P (ko S.R) k=g at hgp hgl;refine(ZB∘ZaH∘Z6∘ZaZ) ?_;refine qz (xr L 900 (Φ:=fun H=>H b=some (.cells (stc S.R.length m (.slice ps (xc S.P).length pc) S.P.length).toArray tyS)) (c:=.bool false) Z Z (zn Z) Z Z Z Z Z wu (fun u H hH hle hb=>none_ret hn hb hH)) ((Zan∘Zp∘Zac∘Zb∘ZJ∘Zl∘Zc4∘Zbj∘Zao∘Zbk) ?_);refine qg (id:=5) [(200022,[900]),(200024,[900])] mixed J (Za4 (h:=?_));refine qn (S8 L (q:=900) (vs:=[_,_]) Z Z za8 Z Z Z Z ⟨_,rfl⟩) Z Z (Zj (h:=?_));refine qn (wx L 900 (RsV (ko S.R) true) (r:=StO b S.R.length m _ S.P.length es) Z Z Z Z Z nw (fun u H2 C2 hH hle hr2 hC2=>(au hm hn T hH hr2 hC2).pubY pj)) Z Z (Zj (h:=?_));refine z8 (xg (φ:=RsV g true) L Z Z (zn Z) Z Z Z nw (fun u H2 hH hle _ v1 h1=>by rw[<-hg];exact zao hz T T hH (hps.le hle) h1)) Z ?_;refine(Zci∘ZaJ∘Zf) ?_;rw[l7];refine Zd9 (h:=?_);refine(Zaw∘Zh∘Zbt) ?_
   refine xm (fun y:Nat×Ent=>[(0,.is (.pointer (some ⟨b,0,none⟩))),(6,.sat (RsV g true)),(27,.sat (RsV g true)),(28,.is (.int .i64 g.length)),(29,.is (.int .i64 y.1)),(900,.own (xk b (stc S.R.length m (.slice ps (xc S.P).length pc) S.P.length) tyS)),(901,.own (B5 m .u64 vcE y.2))])
    (fun y=>y.1<=g.length/\y.2=zfq es (g.take y.1)) (fun y=>g.length-y.1) (0,es) ⟨mf _,rfl⟩ ⟨rfl,rfl,rfl,rfl,rfl,rfl,rfl,nm⟩ ?_
   rintro⟨i,ec⟩ ⟨hi,hec⟩;dsimp only at hi hec |-;by_cases hlt:i<g.length
   ·obtain⟨x,hx⟩:=xi hlt;have hc:=Gq hx;have hnx:=U5 (es:=es) hx;have hwk:IntKind.i64.wrap ((i:Int)+1)=((i+1:Nat):Int):=yy T T;refine(Zf∘ZK∘Zz∘ZC∘Zaa∘Zcy∘Zc∘Zau∘ZH∘Za) ?_;refine xh (P8 (q:=901) (vc:=vcE) x mpS kyS Z Z Z Z Z) ((Zbp∘ZA∘Zy∘Zck) ?_);exact yn (x:=(i,ec)) (i+1,Qi x ec) ⟨hlt,by rw[hnx,hec]⟩ G ⟨Z,Z,Z,Z,Z,Z,Z,nm⟩
   ·obtain rfl:i=g.length:=by omega
    rw[zla] at hec;subst hec;refine(Zf∘ZK∘ZaO∘ZV∘Zk∘ZR∘Zc) ?_;refine ZcV (h:=?_);refine w5 900 (StG b ⟨Vg S.R g,S.P⟩).res Z (fun v H u C hle h=>ge (S:=⟨Vg S.R g,S.P⟩) (hm.dels hgp) hes.dels hps v H u C hle (by dsimp only;rw[cm];exact h)) ?_;exact vw L 900 (r:=StG b ⟨Vg S.R g,S.P⟩) (rs:=[.tmp 4,.tmp 5]) Z (fun _ _ h=>h) hs0 Z Z (fun H hle=>fun v hv=>Sg hv)
abbrev bk(b:Nat):Value:=.pointer (some ⟨b,0,none⟩)
abbrev zjs(S:Sto):Res:=Fp bk fun b=>StG b S
def T4{Y:Type}:MapOK ([]:List (Int×(List U×Y))) []:=⟨zmn,fun r=>by
 cases h:kpt ([]:List (Option (List U))) r with
 | none=>rfl
 | some t=>have:=dq (R:=[]) (r:=r) (by rw[h];rfl);simp at this;omega⟩
def T5:MapOK [((1:Int),(([]:List U),nilSet))] newS.R:=by
 have h:=(T4 (Y:=Value)).add [] nilSet;have h2:=h.1;rw[h.2] at h2;exact h2
def Y8{Y:Type}{k:Int}{y:Y}{l:List (Int×Y)}(h:k∉l.map Prod.fst):Ly k y l=l++[(k,y)]:=by
 refine i7 (i:=0) ?_;have h1:¬ (ub k l).isSome=true:=fun hs=>h (g9.1 hs);unfold ub at h1
 cases hm:fe k l 0 with
 | none=>rfl
 | some q=>rw[hm] at h1;exact ni rfl h1
def Yh(hB:zpg B w):RetO zph 81 [] w B (zjs newS):=by
 refine j7 Tryz.func81 Z Tryz.ntmps81 (np Z) hB (Z0 (h:=?_));refine z7 (Lq (hint:=none) .u64 vcE Z Z) Z ?_;refine Rl 1 901 rfl fun m=>?_;refine ZcS (h:=?_);refine xh (P5 (q:=901) (vc:=vcE) 1 ([],nilSet) mpS kyS Z Z Z Z Z Z Z) (Za (h:=?_));refine z7 (yt (cs:=[_,_,_,_]) Z Z zgq Z Z) Z (Zd4 (h:=?_));refine zy (yo (.inr Z) Z) (Zs (h:=?_));refine kz 0 900 rfl fun b=>?_;refine jt 900 901 rfl Z (xe (zin m .u64 vcE [((1:Int),(([]:List U),nilSet))])) ?_;refine w5 900 (StG b newS).res Z (fun v H u C hle h=>ge (S:=newS) (s:=.slice none 0 0) (m:=m) (B:=B) T5 (fun e he=>by rw[m6.1 he];exact SetV.nil) SlV.nil v H u C hle h) ?_;exact zbr 0 900 bk (fun b=>StG b newS) b Z Z (lm Z (fun _ _ h=>h) nq Z)
end Go.V.L10
namespace Go.V.L10
open Go.V Go.V.L2 Go.V.L8 Go.V.L6
abbrev SB:=List U×(Value×Option Addr×Value×Option Addr)
abbrev sbv(b:SB):Value:=.agg #[b.2.1,.pointer b.2.2.1,b.2.2.2.1,.pointer b.2.2.2.2]
def sbc(b:SB):List Value:=[b.2.1,.pointer b.2.2.1,b.2.2.2.1,.pointer b.2.2.2.2]
def zdi(b:SB):(sbc b).length=4:=rfl
abbrev zk7(z:Int×SB):Int×(List U×Value):=(z.1,(z.2.1,sbv z.2))
def zsE(zs:List (Int×SB)):Ent:=zs.map zk7
def SbOK(bs:List SB)(H:Heap):Prop:=∀ b∈bs,SetV b.1 (sbv b) H
def SbOK.le{bs:List SB}{H H':Heap}(h:SbOK bs H)(hle:H.Le H'):SbOK bs H':=fun b hb=>(h b hb).le hle
def SbOK.mem_plain{bs:List SB}(h:SbOK bs H)(b:SB)(hb:b∈bs):(sbc b).all vj=true:=by
 obtain⟨f1,p1,f2,p2,hv,hp⟩:=(h b hb).shape;unfold sbv at hv;cases hv;exact hp
abbrev SsV(bs:List SB)(fu:Bool):Value->Heap->Prop:=SlV tySt 4 (bs.flatMap sbc) bs.length fu
def zi0{bs:List SB}{b:SB}(h:bs[i]?=some b):((bs.flatMap sbc).drop (i*4)).take 4=[b.2.1,.pointer b.2.2.1,b.2.2.2.1,.pointer b.2.2.2.2]:=ut zdi bs i b h
def Xm(rs:List Int):Prop:=(0::rs).Pairwise (·<·)
instance (rs:List Int):Decidable (Xm rs):=inferInstanceAs (Decidable ((0::rs).Pairwise (·<·)))
def zbj{rs:List Int}(h:Xm rs){x:Int}(hx:rs[i]?=some x):i8 rs i<x:=by
 have h2:=mg.1 h
 cases i with
 | zero=>exact h2.1 x (zln hx)
 | succ i=>
  obtain⟨y,hy⟩:=xi (show i<rs.length by have:=get_lt hx;omega);rw[an hy];have h3:=zmk.1 h2.2 i (i+1) (get_lt hy) (get_lt hx) (znr i)
  rwa [lj hy,lj hx] at h3
def zbi{rs:List Int}{i:Nat}{x:Int}(h:Xm (rs.take i))(hle:∀ a∈0::rs.take i,a<=i8 rs i)(hx:rs[i]?=some x)(hlt:i8 rs i<x):Xm (rs.take (i+1))/\∀ a∈0::rs.take (i+1),a<=i8 rs (i+1):=by
 rw[v7 hx,an hx];constructor
 ·unfold Xm at h |-;rw[<-zll,zl0];refine⟨h,zmi _ _,fun a ha b hb=>?_⟩;rw[m6.1 hb];have:=hle a ha;omega
 ·intro a ha;rw[<-zll,mn,m6] at ha;rcases ha with ha | rfl
  ·have:=hle a ha;omega
  ·omega
def mkE(rs L0:List Int):Int:=if rs.length=0 then 1 else if 1024<rs.length then 3 else if Xm rs then (if ∀ h∈kj L0,h∈rs then 0 else 14) else 18
def MkR(e:Int)(S:Sto):Res where
 P v H u C:=(e=0/\∃ b,v=.tuple #[bk b,.int .i64 0]/\(StG b S).P H u C)\/(e≠0/\v=.tuple #[.pointer none,.int .i64 e]/\∀ k,¬ C k)
 st:=fun h a b c d=>h.imp (fun⟨h1,x,h2,h3⟩=>⟨h1,x,h2,(StG x S).st h3 a b c d⟩) id
def zg5{f:FuncId}(h:RetO zph f args w B (MkR 0 S)):RetO zph f args w B (Fp (fun b=>.tuple #[bk b,.int .i64 0]) fun b=>StG b S):=
 RetL.mono h fun _ _ _ _ ⟨C,h1,h2⟩=>⟨C,h1.elim (fun⟨_,b,hb,hs⟩=>⟨b,hb,hs⟩) fun h=>ni rfl h.1,h2⟩
attribute [local irreducible] V N X VO Par StepOK Has Ret RetL RetO RetT ki RetX RetY Src
end Go.V.L10
section
open Go.V
attribute [local irreducible] Has N Par Ret RetL RetO RetT RetX RetY Src StepOK V VO X ki
namespace Go.V.L10
open Go.V.L2 Go.V.L8 Go.V.L6
def _root_.ZeC(t:Wr Y->A:=by intro h;refine qg (id:=2) [(200009,[900]),(200011,[901]),(200016,[901]),(200022,[900]),(200024,[901])] mixed J ?_;exact h.1)(h:Y):A:=t ⟨h⟩
def zk3{p:α->Bool}{l:List α}{x:α}(h:l[i]?=some x)(hx:p x=true)(hb:∀ (j:Nat) y,j<i->l[j]?=some y->p y=false):l.findIdx? p=some i:=by
 rw[List.findIdx?_eq_some_iff_getElem];have hi:i<l.length:=get_lt h;rw[zlh hi] at h;cases h;exact⟨hi,hx,fun j hj=>by simp [hb j _ hj (zlh T)]⟩
def zk2{p:α->Bool}{l:List α}(hb:∀ (j:Nat) y,l[j]?=some y->p y=false):l.findIdx? p=none:=by
 rw[List.findIdx?_eq_none_iff];intro x hx;obtain⟨j,hj⟩:=zlx hx;exact hb j x hj
def zji:Option Nat->Int
 | some i=>i
 | none=> -1
def zal{p:α->Bool}{l:List α}:decide (0<=zji (l.findIdx? p))=l.any p:=by
 cases hf:l.findIdx? p with
 | none=>
  rw[List.findIdx?_eq_none_iff] at hf;have:l.any p=false:=List.any_eq_false.2 fun x hx=>by simpa using hf x hx
  rw[this];rfl
 | some i=>
  rw[List.findIdx?_eq_some_iff_getElem] at hf;obtain⟨hi,hx,_⟩:=hf;rw[zn5.2 ⟨_,List.getElem_mem hi,hx⟩];exact nf (Int.natCast_nonneg _)
def StV(a n m:Nat)(s:Value)(t:Nat)(es:Ent)(H:Heap):Prop:=H a=some (.cells (stc n m s t).toArray tyS)/\MapVis m .u64 vcE es H
def StV.le{a n m t:Nat}{s:Value}{es:Ent}{H H':Heap}(h:StV a n m s t es H)(hle:H.Le H'):StV a n m s t es H':=⟨hle _ _ h.1,h.2.le hle⟩
def zb2{t:Nat}{u:World}{D:Nat->Prop}(h:(StO b n m s t es).res.P v H u C)(hD:∀ k,C k->D k):StV b n m s t es (joinH H u D):=by
 rw[l7] at h;obtain⟨C1,C2,⟨hb,hC1⟩,⟨⟨ar,ck,hm,he,_⟩,hC2⟩,h3,_⟩:=h;exact⟨(cj (hD _ ((h3 _).2 (.inl ((hC1 _).2 rfl))))).trans hb,ar,ck,(cj (hD _ ((h3 _).2 (.inr ((hC2 _).2 rfl))))).trans hm,he⟩
def zc9{t b' n' m' t':Nat}{s':Value}{es':Ent}:∀ v H u C,(ae (StO b n m s t es).res (StO b' n' m' s' t' es').res).P v H u C->StV b n m s t es (joinH H u C)/\StV b' n' m' s' t' es' (joinH H u C):=
 fun _ _ _ _ ⟨_,_,h1,h2,h3,_⟩=>⟨zb2 h1 fun k hk=>(h3 k).2 (.inl hk),zb2 h2 fun k hk=>(h3 k).2 (.inr hk)⟩
def Am(A B:Sto):Bool:=decide (A.R=B.R) && decide (xc A.P=xc B.P)
def zda{A B:List (Option (List U))}(hl:A.length=B.length)(h:∀ r∈ko A,kpt A r=kpt B r)(hk:ko A=ko B):A=B:=by
 apply zn6;intro i;rcases m5 i A.length with hi | hi
 ·have h1:kpt A ((i+1:Nat):Int)=kpt B ((i+1:Nat):Int):=by
   by_cases hm:((i+1:Nat):Int)∈ko A
   ·exact h _ hm
   ·have hm2:((i+1:Nat):Int)∉ko B:=hk ▸ hm;rw[wz] at hm hm2
    cases ha:kpt A ((i+1:Nat):Int) with
    | some x=>rw[ha] at hm;exact ni rfl hm
    | none=>
     cases hb:kpt B ((i+1:Nat):Int) with
     | some x=>rw[hb] at hm2;exact ni rfl hm2
     | none=>rfl
  rw[e7,e7,zlh hi,zlh T] at h1;rw[zlh hi,zlh T];exact nh some h1
 ·rw[zld hi,zld T]
def rc{a b:List Int}{f:Bool}{fa fb:Bool}(hf:decide (a=b)=f)(ha:a.length<=100000){v1 v2:Value}(hB:zpg B w)(h1:RsV a fa v1 B)(h2:RsV b fb v2 B):
  Ret zph 157 [v1,v2] w B (fun v _=>v=.bool f):=by
 subst hf;refine yh Tryz.func157 Z Tryz.ntmps157 (np Z) hB (k8 0 (RsV a fa) Z nw h1 (k8 1 (RsV b fb) Z nw h2 ?_));by_cases hl:a.length=b.length
 ·refine(ZB∘Zah∘Zh∘Zh∘Za5∘Z4∘ZI∘Zh∘Zbt) ?_;refine xm (fun i:Nat=>[(0,.sat (RsV a fa)),(1,.sat (RsV b fb)),(12,.is (.int .i64 a.length)),(13,.is (.int .i64 i))]) (fun i=>i<=a.length/\a.take i=b.take i) (fun i=>a.length-i) 0 ⟨mf _,rfl⟩ ⟨Z,Z,Z,Z,nm⟩ ?_;rintro i ⟨hi,ht⟩;by_cases hlt:i<a.length
  ·obtain⟨x,hx⟩:=xi hlt;obtain⟨y,hy⟩:=xi (show i<b.length by omega);have hc1:=Gq hx;have hc2:=Gq hy;have hwk:IntKind.i64.wrap ((i:Int)+1)=((i+1:Nat):Int):=yy T T;by_cases hxy:x=y
   ·refine(Zbm∘Zz∘ZT∘Zd∘Zd1∘Zb5∘Zdc∘Zb5∘Zdc∘Zeq∘Zaz∘Zbj∘ZP∘ZC∘Zy∘Zck) ?_;exact yn (x:=i) (i+1) ⟨hlt,by rw[v7 hx,v7 hy,ht,hxy]⟩ T ⟨Z,Z,Z,Z,nm⟩
   ·rw[ng (zhy hx hy hxy)];refine(Zbm∘Zz∘ZT∘Zd∘Zd1∘Zb5∘Zdc∘Zb5∘Zdc) ?_;refine z8 (yw Z Z Z Z (nf T)) Z ((Zb4∘Zf∘ZK∘Zc) ?_);exact yg2 L [.tmp 4]
  ·obtain rfl:i=a.length:=by omega
   have hab:a=b:=by rw[zla,hl,zla] at ht;exact ht
   rw[nf hab];refine(Zbm∘ZaO∘Zat∘Zc) ?_;exact yg2 L [.tmp 4]
 ·rw[ng (zcb hl)];refine(ZB∘Zah∘Zh∘Zh∘ZaG∘Zx∘Zc) ?_;exact yg2 L [.tmp 4]
def N6{l:List Int}{p:Int->Bool}{f:Nat}(hfn:L.fn f=some ())(hlm:l.length<=100000)(hf:∀ r∈l,∀ (u:World) (H:Heap),B.Le H->zpg H u->Ret zph f ([.int .u64 r]++cap) u H (fun x _=>x=.bool (p r)))(hv:RsV l fu v B)(hB:zpg B w):
  Ret zph 214 [v,.func (.func f) #[] cap.toArray] w B (fun r _=>r=.int .i64 (zji (l.findIdx? p))):=by
 refine yh Tryz.func214 Z Tryz.ntmps214 (np Z) hB (k8 0 (RsV l fu) Z nw hv ((ZB∘Zah∘Zh∘Zbt) ?_));refine xm (fun i:Nat=>[(0,.sat (RsV l fu)),(1,.is (.func (.func f) #[] cap.toArray)),(7,.is (.int .i64 l.length)),(8,.is (.int .i64 i))]) (fun i=>i<=l.length/\∀ (j:Nat) y,j<i->l[j]?=some y->p y=false) (fun i=>l.length-i) 0 ⟨mf _,fun j _ h=>ni h (Nat.not_lt_zero _)⟩ ⟨Z,Z,Z,Z,nm⟩ ?_;rintro i ⟨h1,h2⟩;by_cases hlt:i<l.length
 ·obtain⟨x,hx⟩:=xi hlt;have hc:=Gq hx;have hmx:=zln hx;have hwk:IntKind.i64.wrap ((i:Int)+1)=((i+1:Nat):Int):=yy T T
  cases hb:p x with
  | true=>
   rw[zk3 hx hb h2];refine(Zf∘Zx∘Zz∘Zp∘Zd∘Z9∘Zk∘Za∘Zaa∘Zcy) ?_;refine z7 (zz (cap:=cap) L Z Z (zn Z) Z Z hfn (fun u H hH hle _=>hb ▸ hf x hmx u H hle hH)) Z ((Zu∘ZT∘Zc) ?_);exact yg2 L [.tmp 4]
  | false=>
   refine(Zf∘Zx∘Zz∘Zp∘Zd∘Z9∘Zk∘Za∘Zaa∘Zcy) ?_;refine z7 (zz (cap:=cap) L Z Z (zn Z) Z Z hfn (fun u H hH hle _=>hb ▸ hf x hmx u H hle hH)) Z ((Zad∘ZP∘Zaw∘Zy∘Zck) ?_)
   exact yn (x:=i) (i+1) ⟨hlt,fun j y hj hy=>by
    rcases m5 j i with h | h
    ·exact h2 j y h hy
    ·have:j=i:=T;subst this;rw[hx] at hy;cases hy;exact hb⟩ T ⟨rfl,rfl,rfl,rfl,nm⟩
 ·rw[zk2 (fun j y hy=>h2 j y (by have:=get_lt hy;omega) hy)];refine(Zf∘Zx∘ZaO∘ZK∘Zc) ?_;exact yg2 L [.tmp 4]
def U9{l:List Int}{p:Int->Bool}{f:Nat}{b:Bool}(hb:l.any p=b)(hfn:L.fn f=some ())(hlm:l.length<=100000)(hf:∀ r∈l,∀ (u:World) (H:Heap),B.Le H->zpg H u->Ret zph f ([.int .u64 r]++cap) u H (fun x _=>x=.bool (p r)))(hv:RsV l fu v B)(hB:zpg B w):
  Ret zph 159 [v,.func (.func f) #[] cap.toArray] w B (fun r _=>r=.bool b):=by
 rw[<-zal] at hb;generalize hJ:zji (l.findIdx? p)=zpb at *;subst hb;refine yh Tryz.func159 Z Tryz.ntmps159 (np Z) hB ?_;by_cases h0:0<=zpb
 ·rw[nf h0];refine(Z0∘Zb) ?_;refine z71 L Z (fun u H hH hle=>hJ ▸ N6 hfn hlm (fun r hr u2 H2 hle2 hH2=>hf r hr u2 H2 (hle.trans hle2) hH2) (hv.le hle) hH) ?_;refine(Zcg∘Zc) ?_;exact yg2 L [.tmp 4]
 ·rw[ng h0];refine(Z0∘Zb) ?_;refine z71 L Z (fun u H hH hle=>hJ ▸ N6 hfn hlm (fun r hr u2 H2 hle2 hH2=>hf r hr u2 H2 (hle.trans hle2) hH2) (hv.le hle) hH) ?_;refine(Za6∘Zc) ?_;exact yg2 L [.tmp 4]
abbrev tyPS:TypeId:=147
def Pn{n1 n2 m1 m2 t1 t2 c1 c2:Nat}{s1 s2:Value}{ea eb:Ent}{la lb:List U}{va vb:Value}(ga:ub r ea=some (la,va))(gb:ub r eb=some (lb,vb))(hla:la.length<=100000)(hlb:lb.length<=100000)(hB:zpg B w)
  (h1:B c1=some (.cells #[bk a] tyPS)) (h2:B c2=some (.cells #[bk b] tyPS)) (ha:StV a n1 m1 s1 t1 ea B) (hb:StV b n2 m2 s2 t2 eb B) (hsa:SetV la va B) (hsb:SetV lb vb B):
  Ret zph 160 [.int .u64 r,bk c1,bk c2] w B (fun v _=>v=.bool (!decide (la=lb))):=by
 obtain⟨f1,p1,k1,x1,rfl,hp1⟩:=hsa.shape;obtain⟨f2,p2,k2,x2,rfl,hp2⟩:=hsb.shape;have hla1:=ha.1;have hlb1:=hb.1;have q1:(ub r ea).elim nilSet vcE=.agg #[f1,.pointer p1,k1,.pointer x1]:=nh (fun o=>Option.elim o nilSet vcE) ga;have q2:(ub r eb).elim nilSet vcE=.agg #[f2,.pointer p2,k2,.pointer x2]:=nh (fun o=>Option.elim o nilSet vcE) gb;refine yh Tryz.func160 Z Tryz.ntmps160 (np Z) hB ((ZB∘Zd∘Zc0∘Zw∘ZbB∘Zw∘Zj) ?_);refine z8 (A4 r mpS kyS zrS ha.2 Z Z Z Z q1) Z ((Zw∘ZbB∘Zw∘Zj) ?_);refine z8 (A4 r mpS kyS zrS hb.2 Z Z Z Z q2) Z (z81 L Z (fun u H hH hle=>R7 hla hlb Z hH (hsa.le hle) (hsb.le hle)) ?_);refine(Za7∘ZaP) ?_;exact yg2 L [.tmp 4]
def Pm{A D:Sto}{a b:Nat}(hna:A.R.length≠0)(hnb:D.R.length≠0)(ka:(ko A.R).length<=100000)(kb:(ko D.R).length<=100000)(za:A.P.length<=100000)(zb:D.P.length<=100000)(ta:∀ r t,kpt A.R r=some t->t.length<=100000)(tb:∀ r t,kpt D.R r=some t->t.length<=100000)
     (hB:zpg B w) (hr:(uw (StG a A) (StG b D)).P B w C) (hC:ZCB C w B):
  RetY zph 87 [bk a,bk b] w B C (uw (StG a A) (StG b D)) (fun v _=>v=.bool (Am A D)):=by
 unfold RetY;refine yr 900 (uw (StG a A) (StG b D)) Tryz.func87 Z Tryz.ntmps87 (np Z) hB hr hC ?_;rw[wo];refine Zd9 (h:=?_);rw[Ah,Ah];refine vm 900 rfl fun x H hs0 hφ=>?_;refine vm 901 rfl fun y H' hs1 hφ'=>?_;obtain⟨m1,s1,e1⟩:=x;obtain⟨hm1,he1,hp1⟩:=hφ;obtain⟨m2,s2,e2⟩:=y;obtain⟨hm2,he2,hp2⟩:=hφ';dsimp only at hm1 he1 hp1 hm2 he2 hp2 |-;have hs01:=hs0.trans hs1;replace he1:=he1.le hs1.le;replace hp1:=hp1.le hs1.le;obtain⟨q1,c1,rfl⟩:=ky hp1;obtain⟨q2,c2,rfl⟩:=ky hp2;have hl1:=hm1.len;have hl2:=hm2.len;refine Z7 (h:=?_);refine w6 2 rfl fun v1 H1 hs2 hv1=>?_;obtain⟨d1,rfl,hd1⟩:=hv1;refine ZcF (h:=?_);refine w6 3 rfl fun v2 H2 hs3 hv2=>?_;obtain⟨d2,rfl,hd2⟩:=hv2;refine Zd (h:=?_);replace hd1:=hs3.le _ _ hd1;have hs23:=hs2.trans hs3;replace he1:=he1.le hs23.le;replace hp1:=hp1.le hs23.le;replace he2:=he2.le hs23.le;replace hp2:=hp2.le hs23.le;have hsf:=hs01.trans hs23;refine(Z3∘Zcn) ?_;refine qz (wx L 900 (RsV (ko A.R) true) (r:=StO a A.R.length m1 (.slice q1 (xc A.P).length c1) A.P.length e1) Z Z Z Z Z nw (fun u H2 C2 hH hle hr2 hC2=>(au hm1 hna T hH hr2 hC2).pubY pj)) ((ZR∘Zay) ?_);by_cases hN:A.R.length=D.R.length
 ·by_cases hK:ko A.R=ko D.R
  ·by_cases hP:xc A.P=xc D.P
   ·have hS:Am A D=decide (A.R=D.R):=by unfold Am;rw[decide_eq_true hP,Bool.and_true]
    have hany:(ko A.R).any (fun r=>!decide (kpt A.R r=kpt D.R r))=!decide (A.R=D.R):=by
     by_cases h:A.R=D.R
     ·rw[nf h,h];simp
     ·rw[ng h]
      cases hh:(ko A.R).any (fun r=>!decide (kpt A.R r=kpt D.R r)) with
      | true=>rfl
      | false=>exact ni (zda hN (fun r hr=>by have:=List.any_eq_false.1 hh r hr;simpa using this) hK) h
    have hent1:∀ r∈ko A.R,∃ t v,kpt A.R r=some t/\ub r e1=some (t,v)/\SetV t v _:=fun r hr=>by
     have h1:=wz.1 hr;rw[<-hm1.get r,zob] at h1;obtain⟨⟨t,v⟩,h2⟩:=zmc.1 h1;exact⟨t,v,by rw[<-hm1.get r,h2];rfl,h2,he1 _ (cd h2)⟩
    have hent2:∀ r∈ko A.R,∃ t v,kpt D.R r=some t/\ub r e2=some (t,v)/\SetV t v _:=fun r hr=>by
     have h1:=wz.1 (hK ▸ hr);rw[<-hm2.get r,zob] at h1;obtain⟨⟨t,v⟩,h2⟩:=zmc.1 h1;exact⟨t,v,by rw[<-hm2.get r,h2];rfl,h2,he2 _ (cd h2)⟩
    refine(ZeC∘Zw) ?_;refine qn (xr L 900 (Φ:=fun H=>H a=some (.cells (stc A.R.length m1 (.slice q1 (xc A.P).length c1) A.P.length).toArray tyS)) (c:=.int .u64 A.R.length) Z Z (zn Z) Z Z Z Z Z wu (fun u H hH hle hb=>uo hna hb hH)) Z Z (Zw (h:=?_));refine qn (xr L 901 (Φ:=fun H=>H b=some (.cells (stc D.R.length m2 (.slice q2 (xc D.P).length c2) D.P.length).toArray tyS)) (c:=.int .u64 D.R.length) Z Z (zn Z) Z Z Z Z Z wu (fun u H hH hle hb=>uo hnb hb hH)) Z Z ((Zeq∘Zj∘ZaA∘Zw) ?_);refine qn (wx L 901 (RsV (ko D.R) true) (r:=StO b D.R.length m2 (.slice q2 (xc D.P).length c2) D.P.length e2) Z Z Z Z Z nw (fun u H2 C2 hH hle hr2 hC2=>(au hm2 hnb T hH hr2 hC2).pubY pj)) Z Z (z8 (zz L Z Z (zn Z) Z Z Z (fun u H hH _ _ v1 h1 v2 h2=>rc (nf hK) ka hH h1 h2)) Z ((Za7∘ZaT∘Zj∘Zw) ?_));refine qn (xr L 900 (Φ:=fun H=>H a=some (.cells (stc A.R.length m1 (.slice q1 (xc A.P).length c1) A.P.length).toArray tyS)) (c:=pnv (.slice q1 (xc A.P).length c1) A.P.length) Z Z (zn Z) Z Z Z Z Z wu (fun u H hH hle hb=>pins_ret ⟨_,_,_,rfl⟩ hna hb hH)) Z Z (Zw (h:=?_));refine qn (xr L 901 (Φ:=fun H=>H b=some (.cells (stc D.R.length m2 (.slice q2 (xc D.P).length c2) D.P.length).toArray tyS)) (c:=pnv (.slice q2 (xc D.P).length c2) D.P.length) Z Z (zn Z) Z Z Z Z Z wu (fun u H hH hle hb=>pins_ret ⟨_,_,_,rfl⟩ hnb hb hH)) Z Z (z81 L Z (fun u H hH hle=>Gs (nf hP) za zb hH (hp1.le hle) (hp2.le hle)) ?_);refine(Za7∘Zaq∘Zal) ?_;refine jt 900 901 rfl Z (xe (StO b D.R.length m2 (.slice q2 (xc D.P).length c2) D.P.length e2)) ?_
    have hcl:∀ (u:World) (H3:Heap),zpg H3 u->H2.Le H3->(StV a A.R.length m1 (.slice q1 (xc A.P).length c1) A.P.length e1 H3/\StV b D.R.length m2 (.slice q2 (xc D.P).length c2) D.P.length e2 H3)->∀ v1,RsV (ko A.R) true v1 H3->Ret zph 159 [v1,.func (.func 160) #[] #[bk d1,bk d2]] u H3 (fun r _=>r=.bool (!decide (A.R=D.R))):=fun u H3 hH hle hb v1 h1=>U9 (cap:=[bk d1,bk d2]) (p:=fun r=>!decide (kpt A.R r=kpt D.R r)) hany rfl ka (fun r hr u2 H4 hle2 hH2=>by
     obtain⟨x1,w1,g1,g2,g3⟩:=hent1 r hr;obtain⟨x2,w2,g4,g5,g6⟩:=hent2 r hr;have hle3:=hle.trans hle2;have h:=Pn g2 g5 (ta _ _ g1) (tb _ _ g4) hH2 (hle3 _ _ hd1) (hle3 _ _ hd2) (hb.1.le hle2) (hb.2.le hle2) (g3.le hle3) (g6.le hle3);rw[g1,g4,show decide (some x1=some x2)=decide (x1=x2) by simp];exact h) h1 hH
    refine(ZS∘Zk∘Zav) ?_;refine qz (xr L 900 (Φ:=fun H=>StV a A.R.length m1 (.slice q1 (xc A.P).length c1) A.P.length e1 H/\StV b D.R.length m2 (.slice q2 (xc D.P).length c2) D.P.length e2 H) (c:=.bool (!decide (A.R=D.R))) Z Z (zn Z) Z Z Z Z Z zc9 (fun u H hH hle hb v1 h1=>hcl u H hH hle hb v1 h1)) ((Zt∘Zc) ?_);refine vz 900 901 rfl (xe (StO b D.R.length m2 (.slice q2 (xc D.P).length c2) D.P.length e2)) ?_;refine w5 900 (StG a A).res Z (ge hm1 he1 hp1) (w5 901 (StG b D).res Z (ge hm2 he2 hp2) (jt 900 901 rfl Z (xe (StG b D)) ?_));exact vw L 900 (r:=uw (StG a A) (StG b D)) (rs:=[.tmp 4]) Z (fun _ _ h=>h) hsf Z Z (fun H hle=>by rw[hS];generalize decide (A.R=D.R)=q;cases q<;>rfl)
   ·have hS:Am A D=false:=by unfold Am;rw[decide_eq_false hP,Bool.and_false]
    refine(ZeC∘Zw) ?_;refine qn (xr L 900 (Φ:=fun H=>H a=some (.cells (stc A.R.length m1 (.slice q1 (xc A.P).length c1) A.P.length).toArray tyS)) (c:=.int .u64 A.R.length) Z Z (zn Z) Z Z Z Z Z wu (fun u H hH hle hb=>uo hna hb hH)) Z Z (Zw (h:=?_));refine qn (xr L 901 (Φ:=fun H=>H b=some (.cells (stc D.R.length m2 (.slice q2 (xc D.P).length c2) D.P.length).toArray tyS)) (c:=.int .u64 D.R.length) Z Z (zn Z) Z Z Z Z Z wu (fun u H hH hle hb=>uo hnb hb hH)) Z Z ((Zeq∘Zj∘ZaA∘Zw) ?_);refine qn (wx L 901 (RsV (ko D.R) true) (r:=StO b D.R.length m2 (.slice q2 (xc D.P).length c2) D.P.length e2) Z Z Z Z Z nw (fun u H2 C2 hH hle hr2 hC2=>(au hm2 hnb T hH hr2 hC2).pubY pj)) Z Z (z8 (zz L Z Z (zn Z) Z Z Z (fun u H hH _ _ v1 h1 v2 h2=>rc (nf hK) ka hH h1 h2)) Z ((Za7∘ZaT∘Zj∘Zw) ?_));refine qn (xr L 900 (Φ:=fun H=>H a=some (.cells (stc A.R.length m1 (.slice q1 (xc A.P).length c1) A.P.length).toArray tyS)) (c:=pnv (.slice q1 (xc A.P).length c1) A.P.length) Z Z (zn Z) Z Z Z Z Z wu (fun u H hH hle hb=>pins_ret ⟨_,_,_,rfl⟩ hna hb hH)) Z Z (Zw (h:=?_));refine qn (xr L 901 (Φ:=fun H=>H b=some (.cells (stc D.R.length m2 (.slice q2 (xc D.P).length c2) D.P.length).toArray tyS)) (c:=pnv (.slice q2 (xc D.P).length c2) D.P.length) Z Z (zn Z) Z Z Z Z Z wu (fun u H hH hle hb=>pins_ret ⟨_,_,_,rfl⟩ hnb hb hH)) Z Z (z81 L Z (fun u H hH hle=>Gs (ng hP) za zb hH (hp1.le hle) (hp2.le hle)) ?_);refine(Za7∘Zca∘Zbn∘Zc) ?_;refine w5 900 (StG a A).res Z (ge hm1 he1 hp1) (w5 901 (StG b D).res Z (ge hm2 he2 hp2) (jt 900 901 rfl Z (xe (StG b D)) ?_));exact vw L 900 (r:=uw (StG a A) (StG b D)) (rs:=[.tmp 4]) Z (fun _ _ h=>h) hsf Z Z (fun H hle=>by rw[hS];rfl)
  ·have hS:Am A D=false:=by unfold Am;rw[decide_eq_false (fun h=>hK (by rw[h])),Bool.false_and]
   refine(ZeC∘Zw) ?_;refine qn (xr L 900 (Φ:=fun H=>H a=some (.cells (stc A.R.length m1 (.slice q1 (xc A.P).length c1) A.P.length).toArray tyS)) (c:=.int .u64 A.R.length) Z Z (zn Z) Z Z Z Z Z wu (fun u H hH hle hb=>uo hna hb hH)) Z Z (Zw (h:=?_));refine qn (xr L 901 (Φ:=fun H=>H b=some (.cells (stc D.R.length m2 (.slice q2 (xc D.P).length c2) D.P.length).toArray tyS)) (c:=.int .u64 D.R.length) Z Z (zn Z) Z Z Z Z Z wu (fun u H hH hle hb=>uo hnb hb hH)) Z Z ((Zeq∘Zj∘ZaA∘Zw) ?_);refine qn (wx L 901 (RsV (ko D.R) true) (r:=StO b D.R.length m2 (.slice q2 (xc D.P).length c2) D.P.length e2) Z Z Z Z Z nw (fun u H2 C2 hH hle hr2 hC2=>(au hm2 hnb T hH hr2 hC2).pubY pj)) Z Z (z8 (zz L Z Z (zn Z) Z Z Z (fun u H hH _ _ v1 h1 v2 h2=>rc (ng hK) ka hH h1 h2)) Z ((Za7∘ZaT∘ZdY∘Zby∘Zca∘Zbn∘Zc) ?_));refine w5 900 (StG a A).res Z (ge hm1 he1 hp1) (w5 901 (StG b D).res Z (ge hm2 he2 hp2) (jt 900 901 rfl Z (xe (StG b D)) ?_));exact vw L 900 (r:=uw (StG a A) (StG b D)) (rs:=[.tmp 4]) Z (fun _ _ h=>h) hsf Z Z (fun H hle=>by rw[hS];rfl)
 ·have hS:Am A D=false:=by unfold Am;rw[decide_eq_false (fun h=>hN (by rw[h])),Bool.false_and]
  refine(ZeC∘Zw) ?_;refine qn (xr L 900 (Φ:=fun H=>H a=some (.cells (stc A.R.length m1 (.slice q1 (xc A.P).length c1) A.P.length).toArray tyS)) (c:=.int .u64 A.R.length) Z Z (zn Z) Z Z Z Z Z wu (fun u H hH hle hb=>uo hna hb hH)) Z Z (Zw (h:=?_));refine qn (xr L 901 (Φ:=fun H=>H b=some (.cells (stc D.R.length m2 (.slice q2 (xc D.P).length c2) D.P.length).toArray tyS)) (c:=.int .u64 D.R.length) Z Z (zn Z) Z Z Z Z Z wu (fun u H hH hle hb=>uo hnb hb hH)) Z Z (z8 (yw Z Z Z Z (nf T)) Z ((ZdY∘ZbL∘ZaT∘ZdY∘Zby∘Zca∘Zbn∘Zc) ?_));refine w5 900 (StG a A).res Z (ge hm1 he1 hp1) (w5 901 (StG b D).res Z (ge hm2 he2 hp2) (jt 900 901 rfl Z (xe (StG b D)) ?_));exact vw L 900 (r:=uw (StG a A) (StG b D)) (rs:=[.tmp 4]) Z (fun _ _ h=>h) hsf Z Z (fun H hle=>by rw[hS];rfl)
def tup3{a b v:Value}(h:φ v H):TupS [φ,fun v _=>v=a,fun v _=>v=b] (.tuple #[v,a,b]) H:=by
 refine⟨[v,a,b],rfl,rfl,fun i ψ x hi hx=>?_⟩;rcases i with _ | _ | _ | i
 ·cases hi;cases hx;exact h
 ·cases hi;cases hx;rfl
 ·cases hi;cases hx;rfl
 ·cases hi
end Go.V.L10
end
namespace Go.V.L10
open Go.V.L2 Go.V.L8 Go.V.L6
def K0(hn:S.R.length≠0)(hB:zpg B w)(hr:(StG b S).P B w C)(hC:ZCB C w B):
  RetY zph 88 [bk b,.int .u64 r] w B C (StG b S) (WithP (atS S r).1 (atS S r).2):=
 RetY.ex hr fun _ ⟨hm,hes,_⟩ hr=>F9 hm hn hes hB hr hC
def Sc(hn:S.R.length≠0)(hz:(ko S.R).length<=100000)(hB:zpg B w)(hr:(StG b S).P B w C)(hC:ZCB C w B):
  RetY zph 141 [bk b] w B C (StG b S) (RsV (ko S.R) true):=
 RetY.ex hr fun _ ⟨hm,_,_⟩ hr=>(au hm hn (by rw[hm.len];exact hz) hB hr hC).pubY pj
abbrev PinsP(P0:List Int):Value->Heap->Prop:=fun v H=>∃ s,v=pnv s P0.length/\PsV (xc P0) s H
def PinsP.mono:Kn.mono (.sat (PinsP P0)):=fun _ _ _ ⟨s,h1,h2⟩ hle=>⟨s,h1,h2.le hle⟩
attribute [local irreducible] V N X VO Par StepOK Has Ret RetL RetO RetT ki RetX RetY Src
def R8(hn:S.R.length≠0)(hB:zpg B w)(hr:(StG b S).P B w C)(hC:ZCB C w B):
  RetY zph 142 [bk b] w B C (StG b S) (PinsP S.P):=by
 refine RetY.ex hr fun x hφ hr=>?_;obtain⟨m,s,es⟩:=x;obtain⟨hm,hes,hps⟩:=hφ;dsimp only at hm hes hps hr |-;obtain⟨p,c,rfl⟩:=ky hps;unfold RetY;refine yr 900 (StO b S.R.length m _ S.P.length es) Tryz.func142 Z Tryz.ntmps142 (np Z) hB hr hC ?_;rw[l7];refine Zd9 (h:=?_);refine(ZaW∘Zay∘ZaZ) ?_;refine qz (xr L 900 (Φ:=fun H=>H b=some (.cells (stc S.R.length m (.slice p (xc S.P).length c) S.P.length).toArray tyS)) (c:=.bool false) Z Z (zn Z) Z Z Z Z Z r8 (fun u H hH hle hb=>none_ret hn hb hH)) ((Zn∘Zp∘ZY) ?_);refine qz (xq L (q:=900) (vs:=[_,_]) Z Z Z Z ⟨_,rfl⟩) (Zam (h:=?_));refine ZcV (h:=?_);exact vw L 900 (r:=StO b S.R.length m (.slice p (xc S.P).length c) S.P.length es) (rs:=[.cell 2 224]) Z (fun _ _ h=>h) nq Z Z (fun H hle=>⟨_,qw Z,rfl,_,rfl,hps.le hle⟩)
abbrev s1:Sto:=⟨[some [],some [d0]],[]⟩
abbrev s2:Sto:=⟨[some [],some [d0],some [d2]],[]⟩
abbrev s3:Sto:=⟨[some [],some [d0],some [d2]],[2]⟩
def zj9{cs:List CH}(h:JJ n S)(hn:n<=100)(hc:∀ c∈cs,TZ c.1/\tE c.1=0)(hl:cs.length<=30)(hw:t7 S l cs=(S',r,e)):JJ (n+1) S':=by
 have h1:=zai h hn (l:=l) hc hl;rw[hw] at h1;exact h1
def zk0{un:Bool}(h:JJ n S)(hw:zdt S r un=(S',e)):JJ (n+1) S':=by
 have h1:=zhh h r un;rw[hw] at h1;exact h1
def zk1{k:Int}{g:List Int}(h:JJ n S)(hw:ri S k=(S',g,e)):JJ (n+1) S':=by
 have h1:=zei h k;rw[hw] at h1;exact h1
end Go.V.L10
namespace Go.V.L10
open Go.V Go.V.L2 Go.V.L8 Go.V.L6
attribute [local irreducible] V N X VO Par StepOK Has Ret RetL RetO RetT ki RetX RetY Src
end Go.V.L10
namespace Go.V.L8
open Go.V Go.V.L2 Go.V.L3 Go.V.L6
attribute [local irreducible] V N X VO Par StepOK Has Ret RetL RetO RetT ki Src
end Go.V.L8
namespace Go.V.L11
open Go.V.L2 Go.V.L4 Go.V.L6 Go.V.L8 Go.V.L10
abbrev WithE(l:List U)(e:Int):Value->Heap->Prop:=TupS [SetV l,fun v _=>v=.int .i64 e]
def WithE.mono{l:List U}{e:Int}:Kn.mono (.sat (WithE l e)):=Lb SetV.mono
def Fv{l:List U}(h:WithP l e v H):WithE l e v H:=by
 obtain⟨tv,rfl,h2⟩:=h;exact Sg h2
def ze9(he:atS S r=(t,e))(hn:S.R.length≠0)(hB:zpg B w)(hr:(StG b S).P B w C)(hC:ZCB C w B):
  RetY zph 88 [bk b,.int .u64 r] w B C (StG b S) (WithE t e):=by
 have h:=K0 (r:=r) hn hB hr hC;rw[he] at h;exact RetY.mono h fun _ _ _=>Fv
attribute [local irreducible] V N X VO Par XP LV StepOK Has Ret RetL RetO RetT ki RetX RetY Pan aa Src
end Go.V.L11
namespace Go.V
section
variable             {x:Operand} {s:ByteArray}
end
end Go.V
namespace Go.V
open Go.V.L4
section
variable        {q:Nat}     {src dst e:TypeId}
def Te{bs:List Nat}(hb:∀ b∈bs,b<=255)(hn:Nat.blt d n=true)(hg:gK ops κ ⟨some d,.convert src dst (.tmp q),ty,pos,aft,g⟩=some true)(hx:κ q=some (.sat (BsV bs fu)))(hs:P.underlying src=some (.slice e))(he:P.underlying e=some (.int .u8))(hd:P.underlying dst=some .string):
  StepOK P F B n ops O κ ⟨some d,.convert src dst (.tmp q),ty,pos,aft,g⟩ d (.is (.string (F8 bs))):=
 ke rfl (by simpa using hn) hg trivial fun a u H fp en=>⟨_,by
  have key:(convert src dst (a.eval (.tmp q))).run P u=.ok (.string (F8 bs)) u:=by
   obtain⟨hl,⟨h0,p,hv⟩ | ⟨b,off,cap,cs,ty0,fr,hv,h2,h3,h4,_⟩⟩:=en.sat_ q _ (by simp [Op.operands]) hx
   ·have hb0:bs=[]:=mz h0;subst hb0;rw[hv]
    cases p with
    | none=>exact run_convert_bytes_nil u src e hs he _ _ dst hd
    | some a0=>exact run_convert_bytes_back (P:=P) u src dst e a0 0 [] hs he hd (fun j hj=>by cases hj)
   ·rw[hv];have hlen:(bs.map UInt8.ofNat).length=bs.length:=mt _
    have hr:=run_convert_bytes_back (P:=P) u src dst e ⟨b,off,none⟩ cap (bs.map UInt8.ofNat) hs he hd (fun j hj=>by
     rw[hlen] at hj;obtain⟨z,hz⟩:=xi hj;have hj2:(bs.map fun b:Nat=>Value.int .u8 (b:Int))[j]?=some (.int .u8 (z:Int)):=by rw[zlu,hz];rfl
     have h5:=AtP.get h3 hj2;rw[w9,kf (en.sub _ _ h2)]
     have h6:((bs.map UInt8.ofNat)[j]'(by rw[hlen];exact hj)).toNat=z:=by
      have hzb:=hb z (zln hz);rw[List.getElem_map,lj hz];simp;omega
     rw[h6];simpa using h5)
    rw[hlen] at hr;exact hr
  simp only[execOp,nu,me,key,ma],rfl⟩
end
end Go.V
namespace Go.V.L11
open Go.V.L2 Go.V.L4 Go.V.L6 Go.V.L8 Go.V.L10
def Kj{s:ByteArray}{l:List U}(h:Xf ptA s=(l,n,e))(hs:s.size<=1000000)(hB:zpg B w)(hM:GlobM B):
  Ret zph 22 [.string s] w B (TupS [US l true,fun v _=>v=.int .i64 n,fun v _=>v=.int .i64 e]):=by
 have:=O7 hs hB hM;rw[h] at this;exact this
attribute [local irreducible] V N X VO Par XP LV StepOK Has Ret RetL RetO RetT ki RetX RetY Pan aa Src
end Go.V.L11
namespace Go.V.L4
open Go.V.L2 Go.V.L8 Go.V.Bd
def ry(s:ByteArray):List Nat:=um s.size++co s
def vn(l:List ByteArray):List Nat:=l.flatMap ry
def u6(t:U):List ByteArray:=[t.1.1.1,t.1.1.2,t.1.2,t.2.1.1,t.2.1.2,t.2.2]
def M3(t:U):List Nat:=vn (u6 t)
def chgB(c:CH):List Nat:=M3 c.1++[if c.2=true then 1 else 0]
def M1{s:ByteArray}(h:s.size<=1099511627776):(ry s).length<=s.size+10:=by
 unfold ry;rw[nr,dw];have h128:(128:Nat)^10=1180591620717411303424:=E;have:=ix 9 s.size T;omega
def Rx(bs:List Nat)(a b:ByteArray):(bs++ry a)++ry b=bs++vn [a,b]:=by simp [vn]
def Ry(bs:List Nat)(a b:List ByteArray):(bs++vn a)++vn b=bs++vn (a++b):=by simp [vn]
def bg:∀ {l:List ByteArray},(∀ s∈l,s.size<=1000)->(vn l).length<=l.length*1010
 | [],_=>ns _
 | s::l,h=>by
  have h1:=h s (mb ..);have h2:=M1 (s:=s) T;have h3:=bg fun x hx=>h x (mc _ hx);show(ry s++vn l).length<=_;rw[nr,ny];omega
attribute [local irreducible] V N X VO Par StepOK Has Ret RetL RetO RetT ki RetX RetY Src
def Do{s:ByteArray}(hs:s.size<=1000)(hz:bs.length+2000<=1099511627776)(hB:zpg B w)(hr:(GWr wb bs).P B w C)(hC:ZCB C w B):
  ki zph 114 [xz wb,.string s] w B C (GWr wb (bs++ry s)):=by
 unfold ki;have h128:(128:Nat)^10=1180591620717411303424:=E;have hnl:=ix 9 s.size T;have hcv:IntKind.u64.wrap (s.size:Int)=(s.size:Int):=wrap_u64 T T;refine yr 900 (GWr wb bs) Tryz.func114 Z Tryz.ntmps114 (np Z) hB hr hC ((ZB∘Za) ?_);refine z7 (Lo Z Z Z Z zd9 Z Z) Z ((Zu∘Z3∘Zb∘Zc8) ?_);refine z7 (kg Z Z Z eg.1 eg.2 (wrap_u64 T T)) Z (zy (yq L 900 (GWr wb (bs++um s.size)) (r:=GWr wb bs) Z Z Z Z Z (fun u H C hH _ hr hC=>uh T T hH hr hC)) (Zs (h:=?_)));have hz2:(bs++um s.size).length+s.size<=140737488355328:=by rw[nr];omega
 have e0:bs++ry s=(bs++um s.size)++co s:=by unfold ry;rw[List.append_assoc]
 rw[e0];generalize bs++um s.size=bs1 at hz2;refine vm (X:=Value) 900 (r:=fun sv=>(GWv wb bs1 sv).res) (φ:=fun sv _=>Mq sv) (hφ:=li) Z fun sv H0 hs0 hsp=>?_;obtain⟨p,k,c,rfl⟩:=hsp;refine vz (r1:=xk wb [.slice p k c] zfy) (r2:=(GSl (.slice p k c) bs1).res) 900 901 rfl (xe _) ?_;rw[Ey];refine(Zx∘ZaX) ?_;refine g0 15 901 rfl rfl (Za (h:=?_));refine zy (r7 L rfl rfl rfl rfl rfl J el5 hz2) ?_;refine dc 17 901 Mq rfl Nc fun s2 hp2=>?_;obtain⟨p2,k2,c2,rfl⟩:=hp2;refine ZY (h:=?_);refine xh (ye L (q:=900) (cs':=[.slice p2 k2 c2]) rfl rfl rfl rfl rfl) (ZN (h:=?_));have e2:bs1.length+s.size=(bs1++co s).length:=by rw[nr,dw]
 rw[Vw,e2];refine ig 900 901 rfl Z (Fg _ _) ?_;exact ei (X:=Value) 900 (r:=fun sv=>(GWv wb (bs1++co s) sv).res) (φ:=fun sv _=>Mq sv) li (.slice p2 k2 c2) ⟨_,_,_,rfl⟩ Z (xo L 900 (r:=GWr wb (bs1++co s)) Z (fun _ _ h=>h) hs0 Z Z)
def Xp{a b:ByteArray}(ha:a.size<=1000)(hb:b.size<=1000)(hz:bs.length+4000<=1099511627776)(hB:zpg B w)(hr:(GWr wb bs).P B w C)(hC:ZCB C w B):
  ki zph 113 [xz wb,.agg #[.string a,.string b]] w B C (GWr wb (bs++vn [a,b])):=by
 unfold ki;have h1:=M1 (s:=a) T;rw[<-Rx];refine yr 900 (GWr wb bs) Tryz.func113 Z Tryz.ntmps113 (np Z) hB hr hC ((Z7∘Zg∘ZaZ∘Zai) ?_);refine zy (yq L 900 (GWr wb (bs++ry a)) (r:=GWr wb bs) Z Z Z Z Z (fun u H C hH _ hr hC=>Do ha T hH hr hC)) ((Zs∘Zo∘Zai) ?_);refine zy (yq L 900 (GWr wb (bs++ry a++ry b)) (r:=GWr wb (bs++ry a)) Z Z Z Z Z (fun u H C hH _ hr hC=>Do hb (by rw[nr];omega) hH hr hC)) ?_;refine ZN (h:=?_);exact xo L 900 (r:=GWr wb (bs++ry a++ry b)) Z (fun _ _ h=>h) nq Z Z
def Fw{a b c:ByteArray}(ha:a.size<=1000)(hb:b.size<=1000)(hc:c.size<=1000)(hz:bs.length+8000<=1099511627776)(hB:zpg B w)(hr:(GWr wb bs).P B w C)(hC:ZCB C w B):
  ki zph 47 [xz wb,.agg #[.string a,.string b,.string c]] w B C (GWr wb (bs++vn [a,b,c])):=by
 unfold ki;have h1:=bg (l:=[a,b]) (fun s hs=>by simp only[nz,zmj,or_false] at hs;rcases hs with rfl | rfl<;>assumption);simp only[ny,my] at h1;have e0:bs++vn [a,b,c]=(bs++vn [a,b])++ry c:=by simp [vn]
 rw[e0];refine yr 900 (GWr wb bs) Tryz.func47 Z Tryz.ntmps47 (np Z) hB hr hC ((Z7∘Zg∘ZaZ∘ZQ∘Za1) ?_);refine zy (yq L 900 (GWr wb (bs++vn [a,b])) (r:=GWr wb bs) Z Z Z Z Z (fun u H C hH _ hr hC=>Xp ha hb T hH hr hC)) ((Zs∘Zo∘Zai) ?_);refine zy (yq L 900 (GWr wb (bs++vn [a,b]++ry c)) (r:=GWr wb (bs++vn [a,b])) Z Z Z Z Z (fun u H C hH _ hr hC=>Do hc (by rw[nr];omega) hH hr hC)) ?_;refine ZN (h:=?_);exact xo L 900 (r:=GWr wb (bs++vn [a,b]++ry c)) Z (fun _ _ h=>h) nq Z Z
def Xo{a b c:ByteArray}(ha:a.size<=1000)(hb:b.size<=1000)(hc:c.size<=1000)(hz:bs.length+8000<=1099511627776)(hB:zpg B w)(hr:(GWr wb bs).P B w C)(hC:ZCB C w B):
  ki zph 48 [xz wb,.agg #[.string a,.string b,.string c]] w B C (GWr wb (bs++vn [a,b,c])):=by
 unfold ki;refine yr 900 (GWr wb bs) Tryz.func48 Z Tryz.ntmps48 (np Z) hB hr hC ((Z7∘Zs∘ZaZ∘Zcz) ?_);refine zy (yq L 900 (GWr wb (bs++vn [a,b,c])) (r:=GWr wb bs) Z Z Z Z Z (fun u H C hH _ hr hC=>Fw ha hb hc hz hH hr hC)) (ZN (h:=?_));exact xo L 900 (r:=GWr wb (bs++vn [a,b,c])) Z (fun _ _ h=>h) nq Z Z
def Xn{t:U}(ht:∀ s∈u6 t,s.size<=1000)(hz:bs.length+16000<=1099511627776)(hB:zpg B w)(hr:(GWr wb bs).P B w C)(hC:ZCB C w B):
  ki zph 12 [xz wb,uv t] w B C (GWr wb (bs++M3 t)):=by
 unfold ki;obtain⟨⟨⟨a,b⟩,c⟩,⟨⟨d,e⟩,f⟩⟩:=t;have ha:=ht a (by simp [u6]);have hb:=ht b (by simp [u6]);have hc:=ht c (by simp [u6]);have hd:=ht d (by simp [u6]);have he:=ht e (by simp [u6]);have hf:=ht f (by simp [u6]);have h1:=bg (l:=[a,b,c]) (fun s hs=>by simp only[nz,zmj,or_false] at hs;rcases hs with rfl | rfl | rfl<;>assumption);simp only[ny,my] at h1;have e0:bs++M3 (((a,b),c),((d,e),f))=(bs++vn [a,b,c])++vn [d,e,f]:=by rw[Ry];rfl
 rw[e0];refine yr 900 (GWr wb bs) Tryz.func12 Z Tryz.ntmps12 (np Z) hB hr hC ((Z7∘Zg∘ZaZ∘ZQ∘Zcz) ?_);refine zy (yq L 900 (GWr wb (bs++vn [a,b,c])) (r:=GWr wb bs) Z Z Z Z Z (fun u H C hH _ hr hC=>Fw ha hb hc T hH hr hC)) ((Zs∘Zo∘ZQ∘Zcz) ?_);refine zy (yq L 900 (GWr wb (bs++vn [a,b,c]++vn [d,e,f])) (r:=GWr wb (bs++vn [a,b,c])) Z Z Z Z Z (fun u H C hH _ hr hC=>Xo hd he hf (by rw[nr];omega) hH hr hC)) ?_;refine ZN (h:=?_);exact xo L 900 (r:=GWr wb (bs++vn [a,b,c]++vn [d,e,f])) Z (fun _ _ h=>h) nq Z Z
open Go.V.L3
abbrev zf0:TypeId:=52
abbrev zf1:TypeId:=54
abbrev oV(x:ByteArray×ByteArray):Value:=.agg #[.string x.1,.string x.2]
abbrev gV(x:gj):Value:=.agg #[.string x.1.1,.string x.1.2,.string x.2]
abbrev sZ:ByteArray:=⟨#[]⟩
def Pb{gf:Rd->ByteArray×Rd}(hfn:L.fn fr=some ()){C:Nat->Prop}(hB:zpg B w)(hr:(GRd rb sv R).P B w C)(hC:ZCB C w B)
  (hf:R.err=0->∀ (u:World) (H:Heap) (C:Nat->Prop),zpg H u->B.Le H->(GRd rb sv R).P H u C->(ZCB C u H)->RetX zph fr (fst++cap) u H C (GRd rb sv (gf R).2) (.string (gf R).1)):
  RetX zph 183 [xz rb,.func (.func fr) fst.toArray cap.toArray] w B C (GRd rb sv (ln gf sZ R).2) (.string (ln gf sZ R).1):=by
 unfold RetX;refine yr 900 (GRd rb sv R) Tryz.func183 Z Tryz.ntmps183 (np Z) hB hr hC ?_;rw[xa];obtain⟨⟨n,⟨at1,bad1,err1⟩⟩,hz⟩:∃ z,gf R=z:=⟨_,rfl⟩
 obtain⟨at_,bad,err⟩:=R;unfold ln;rw[hz] at hf |-;dsimp only at hf |-;by_cases h0:err≠0
 ·rw[na h0];refine(Z0∘Zi∘Zo) ?_;refine zy (y7 L 900 (GRd rb sv ⟨at_,bad,err⟩) (.bool true) (r:=GRd rb sv ⟨at_,bad,err⟩) Z Z Z Z Z (fun u H C2 hH _ hr2 hC2=>xy (nf h0) hH hr2 hC2)) ((Zu∘Zp∘Zc) ?_);exact xv L 900 (r:=yz rb _ ui) (rs:=[.tmp 4]) Z (fun _ _ h=>h) nq Z Z (fun _=>rfl)
 ·have he:err=0:=m4.1 h0;subst he;rw[nc h0];have hf:=hf rfl;by_cases h1:err1≠0
  ·rw[na h1];refine(Z0∘Zi∘Zo) ?_;refine zy (y7 L 900 (GRd rb sv ⟨at_,bad,0⟩) (.bool false) (r:=GRd rb sv ⟨at_,bad,0⟩) Z Z Z Z Z (fun u H C2 hH _ hr2 hC2=>xy (ng h0) hH hr2 hC2)) ((Zn∘ZbX∘Zbu) ?_);refine zy (kw L 900 (GRd rb sv ⟨at1,bad1,err1⟩) (.string n) (r:=GRd rb sv ⟨at_,bad,0⟩) Z Z Z hfn Z hf) ((Zi∘ZL∘ZH∘ZaG∘ZbY∘ZY) ?_);refine xh (ye L (q:=900) (cs':=[sv,.int .i64 at_,.int .i64 bad1,.int .i64 err1]) Z Z Z Z Z) ((Zg∘Zbe∘Zc) ?_);exact xv L 900 (r:=yz rb _ ui) (rs:=[.tmp 4]) Z (fun _ _ h=>h) nq Z Z (fun _=>rfl)
  ·have he:err1=0:=m4.1 h1;subst he;rw[nc h1];refine(Z0∘Zi∘Zo) ?_;refine zy (y7 L 900 (GRd rb sv ⟨at_,bad,0⟩) (.bool false) (r:=GRd rb sv ⟨at_,bad,0⟩) Z Z Z Z Z (fun u H C2 hH _ hr2 hC2=>xy (ng h0) hH hr2 hC2)) ((Zn∘ZbX∘Zbu) ?_);refine zy (kw L 900 (GRd rb sv ⟨at1,bad1,0⟩) (.string n) (r:=GRd rb sv ⟨at_,bad,0⟩) Z Z Z hfn Z hf) ((Zi∘ZL∘ZH∘Zb3∘Zau∘Zc) ?_);exact xv L 900 (r:=yz rb _ ui) (rs:=[.tmp 4]) Z (fun _ _ h=>h) nq Z Z (fun _=>rfl)
def Pd{gf:Rd->(ByteArray×ByteArray)×Rd}(hfn:L.fn fr=some ()){C:Nat->Prop}(hB:zpg B w)(hr:(GRd rb sv R).P B w C)(hC:ZCB C w B)
  (hf:R.err=0->∀ (u:World) (H:Heap) (C:Nat->Prop),zpg H u->B.Le H->(GRd rb sv R).P H u C->(ZCB C u H)->RetX zph fr (fst++cap) u H C (GRd rb sv (gf R).2) (oV (gf R).1)):
  RetX zph 181 [xz rb,.func (.func fr) fst.toArray cap.toArray] w B C (GRd rb sv (ln gf (sZ,sZ) R).2) (oV (ln gf (sZ,sZ) R).1):=by
 unfold RetX;refine yr 900 (GRd rb sv R) Tryz.func181 Z Tryz.ntmps181 (np Z) hB hr hC ?_;rw[xa];obtain⟨⟨n,⟨at1,bad1,err1⟩⟩,hz⟩:∃ z,gf R=z:=⟨_,rfl⟩
 
 obtain⟨at_,bad,err⟩:=R;unfold ln;rw[hz] at hf |-;dsimp only at hf |-;by_cases h0:err≠0
 ·rw[na h0];refine(ZbN∘Z3∘ZbO∘Zo) ?_;refine zy (y7 L 900 (GRd rb sv ⟨at_,bad,err⟩) (.bool true) (r:=GRd rb sv ⟨at_,bad,err⟩) Z Z Z Z Z (fun u H C2 hH _ hr2 hC2=>xy (nf h0) hH hr2 hC2)) ((Zu∘ZI∘Zcl∘Zam) ?_);exact xv L 900 (r:=yz rb _ ui) (rs:=[.cell 4 zf0]) Z (fun _ _ h=>h) nq Z Z (fun _=>⟨_,qw Z,rfl,rfl⟩)
 ·have he:err=0:=m4.1 h0;subst he;rw[nc h0];have hf:=hf rfl;by_cases h1:err1≠0
  ·rw[na h1];refine(ZbN∘Z3∘ZbO∘Zo) ?_;refine zy (y7 L 900 (GRd rb sv ⟨at_,bad,0⟩) (.bool false) (r:=GRd rb sv ⟨at_,bad,0⟩) Z Z Z Z Z (fun u H C2 hH _ hr2 hC2=>xy (ng h0) hH hr2 hC2)) ((Zn∘ZbX∘Zbu) ?_);refine zy (kw L 900 (GRd rb sv ⟨at1,bad1,err1⟩) (oV n) (r:=GRd rb sv ⟨at_,bad,0⟩) Z Z Z hfn Z hf) ((ZbA∘ZL∘ZH∘ZaG∘ZbY∘ZY) ?_);refine xh (ye L (q:=900) (cs':=[sv,.int .i64 at_,.int .i64 bad1,.int .i64 err1]) Z Z Z Z Z) ((Zg∘ZC∘Zcl∘Zam) ?_);exact xv L 900 (r:=yz rb _ ui) (rs:=[.cell 4 zf0]) Z (fun _ _ h=>h) nq Z Z (fun _=>⟨_,qw Z,rfl,rfl⟩)
  ·have he:err1=0:=m4.1 h1;subst he;rw[nc h1];refine(ZbN∘Z3∘ZbO∘Zo) ?_;refine zy (y7 L 900 (GRd rb sv ⟨at_,bad,0⟩) (.bool false) (r:=GRd rb sv ⟨at_,bad,0⟩) Z Z Z Z Z (fun u H C2 hH _ hr2 hC2=>xy (ng h0) hH hr2 hC2)) ((Zn∘ZbX∘Zbu) ?_);refine zy (kw L 900 (GRd rb sv ⟨at1,bad1,0⟩) (oV n) (r:=GRd rb sv ⟨at_,bad,0⟩) Z Z Z hfn Z hf) ((ZbA∘ZL∘ZH∘Zb3∘Zat∘Zcl∘Zam) ?_);exact xv L 900 (r:=yz rb _ ui) (rs:=[.cell 4 zf0]) Z (fun _ _ h=>h) nq Z Z (fun _=>⟨_,qw Z,rfl,rfl⟩)
def Km{gf:Rd->gj×Rd}(hfn:L.fn fr=some ()){C:Nat->Prop}(hB:zpg B w)(hr:(GRd rb sv R).P B w C)(hC:ZCB C w B)
  (hf:R.err=0->∀ (u:World) (H:Heap) (C:Nat->Prop),zpg H u->B.Le H->(GRd rb sv R).P H u C->(ZCB C u H)->RetX zph fr (fst++cap) u H C (GRd rb sv (gf R).2) (gV (gf R).1)):
  RetX zph 117 [xz rb,.func (.func fr) fst.toArray cap.toArray] w B C (GRd rb sv (ln gf n3 R).2) (gV (ln gf n3 R).1):=by
 unfold RetX;refine yr 900 (GRd rb sv R) Tryz.func117 Z Tryz.ntmps117 (np Z) hB hr hC ?_;rw[xa];obtain⟨⟨n,⟨at1,bad1,err1⟩⟩,hz⟩:∃ z,gf R=z:=⟨_,rfl⟩
 
 obtain⟨at_,bad,err⟩:=R;unfold ln;rw[hz] at hf |-;dsimp only at hf |-;by_cases h0:err≠0
 ·rw[na h0];refine(ZbN∘Z3∘ZbO∘Zo) ?_;refine zy (y7 L 900 (GRd rb sv ⟨at_,bad,err⟩) (.bool true) (r:=GRd rb sv ⟨at_,bad,err⟩) Z Z Z Z Z (fun u H C2 hH _ hr2 hC2=>xy (nf h0) hH hr2 hC2)) ((Zu∘ZI∘Zdz∘Zam) ?_);exact xv L 900 (r:=yz rb _ ui) (rs:=[.cell 4 zf1]) Z (fun _ _ h=>h) nq Z Z (fun _=>⟨_,qw Z,rfl,rfl⟩)
 ·have he:err=0:=m4.1 h0;subst he;rw[nc h0];have hf:=hf rfl;by_cases h1:err1≠0
  ·rw[na h1];refine(ZbN∘Z3∘ZbO∘Zo) ?_;refine zy (y7 L 900 (GRd rb sv ⟨at_,bad,0⟩) (.bool false) (r:=GRd rb sv ⟨at_,bad,0⟩) Z Z Z Z Z (fun u H C2 hH _ hr2 hC2=>xy (ng h0) hH hr2 hC2)) ((Zn∘ZbX∘Zbu) ?_);refine zy (kw L 900 (GRd rb sv ⟨at1,bad1,err1⟩) (gV n) (r:=GRd rb sv ⟨at_,bad,0⟩) Z Z Z hfn Z hf) ((ZbA∘ZL∘ZH∘ZaG∘ZbY∘ZY) ?_);refine xh (ye L (q:=900) (cs':=[sv,.int .i64 at_,.int .i64 bad1,.int .i64 err1]) Z Z Z Z Z) ((Zg∘ZC∘Zdz∘Zam) ?_);exact xv L 900 (r:=yz rb _ ui) (rs:=[.cell 4 zf1]) Z (fun _ _ h=>h) nq Z Z (fun _=>⟨_,qw Z,rfl,rfl⟩)
  ·have he:err1=0:=m4.1 h1;subst he;rw[nc h1];refine(ZbN∘Z3∘ZbO∘Zo) ?_;refine zy (y7 L 900 (GRd rb sv ⟨at_,bad,0⟩) (.bool false) (r:=GRd rb sv ⟨at_,bad,0⟩) Z Z Z Z Z (fun u H C2 hH _ hr2 hC2=>xy (ng h0) hH hr2 hC2)) ((Zn∘ZbX∘Zbu) ?_);refine zy (kw L 900 (GRd rb sv ⟨at1,bad1,0⟩) (gV n) (r:=GRd rb sv ⟨at_,bad,0⟩) Z Z Z hfn Z hf) ((ZbA∘ZL∘ZH∘Zb3∘Zat∘Zdz∘Zam) ?_);exact xv L 900 (r:=yz rb _ ui) (rs:=[.cell 4 zf1]) Z (fun _ _ h=>h) nq Z Z (fun _=>⟨_,qw Z,rfl,rfl⟩)
def Pa{gf:Rd->U×Rd}(hfn:L.fn fr=some ()){C:Nat->Prop}(hB:zpg B w)(hr:(GRd rb sv R).P B w C)(hC:ZCB C w B)
  (hf:R.err=0->∀ (u:World) (H:Heap) (C:Nat->Prop),zpg H u->B.Le H->(GRd rb sv R).P H u C->(ZCB C u H)->RetX zph fr (fst++cap) u H C (GRd rb sv (gf R).2) (uv (gf R).1)):
  RetX zph 54 [xz rb,.func (.func fr) fst.toArray cap.toArray] w B C (GRd rb sv (ln gf (n3,n3) R).2) (uv (ln gf (n3,n3) R).1):=by
 unfold RetX;refine yr 900 (GRd rb sv R) Tryz.func54 Z Tryz.ntmps54 (np Z) hB hr hC ?_;rw[xa];obtain⟨⟨n,⟨at1,bad1,err1⟩⟩,hz⟩:∃ z,gf R=z:=⟨_,rfl⟩
 
 obtain⟨at_,bad,err⟩:=R;unfold ln;rw[hz] at hf |-;dsimp only at hf |-;by_cases h0:err≠0
 ·rw[na h0];refine(ZbN∘Z3∘ZbO∘Zo) ?_;refine zy (y7 L 900 (GRd rb sv ⟨at_,bad,err⟩) (.bool true) (r:=GRd rb sv ⟨at_,bad,err⟩) Z Z Z Z Z (fun u H C2 hH _ hr2 hC2=>xy (nf h0) hH hr2 hC2)) ((Zu∘ZI∘Zbq∘Zam) ?_);exact xv L 900 (r:=yz rb _ ui) (rs:=[.cell 4 tyU]) Z (fun _ _ h=>h) nq Z Z (fun _=>⟨_,qw Z,rfl,rfl⟩)
 ·have he:err=0:=m4.1 h0;subst he;rw[nc h0];have hf:=hf rfl;by_cases h1:err1≠0
  ·rw[na h1];refine(ZbN∘Z3∘ZbO∘Zo) ?_;refine zy (y7 L 900 (GRd rb sv ⟨at_,bad,0⟩) (.bool false) (r:=GRd rb sv ⟨at_,bad,0⟩) Z Z Z Z Z (fun u H C2 hH _ hr2 hC2=>xy (ng h0) hH hr2 hC2)) ((Zn∘ZbX∘Zbu) ?_);refine zy (kw L 900 (GRd rb sv ⟨at1,bad1,err1⟩) (uv n) (r:=GRd rb sv ⟨at_,bad,0⟩) Z Z Z hfn Z hf) ((ZbA∘ZL∘ZH∘ZaG∘ZbY∘ZY) ?_);refine xh (ye L (q:=900) (cs':=[sv,.int .i64 at_,.int .i64 bad1,.int .i64 err1]) Z Z Z Z Z) ((Zg∘ZC∘Zbq∘Zam) ?_);exact xv L 900 (r:=yz rb _ ui) (rs:=[.cell 4 tyU]) Z (fun _ _ h=>h) nq Z Z (fun _=>⟨_,qw Z,rfl,rfl⟩)
  ·have he:err1=0:=m4.1 h1;subst he;rw[nc h1];refine(ZbN∘Z3∘ZbO∘Zo) ?_;refine zy (y7 L 900 (GRd rb sv ⟨at_,bad,0⟩) (.bool false) (r:=GRd rb sv ⟨at_,bad,0⟩) Z Z Z Z Z (fun u H C2 hH _ hr2 hC2=>xy (ng h0) hH hr2 hC2)) ((Zn∘ZbX∘Zbu) ?_);refine zy (kw L 900 (GRd rb sv ⟨at1,bad1,0⟩) (uv n) (r:=GRd rb sv ⟨at_,bad,0⟩) Z Z Z hfn Z hf) ((ZbA∘ZL∘ZH∘Zb3∘Zat∘Zbq∘Zam) ?_);exact xv L 900 (r:=yz rb _ ui) (rs:=[.cell 4 tyU]) Z (fun _ _ h=>h) nq Z Z (fun _=>⟨_,qw Z,rfl,rfl⟩)
end Go.V.L4
namespace Go.V.L4
open Go.V Go.V.L2 Go.V.L3 Go.V.L8
def Lx(h:R.at_<=bs.length):(G1 bs R).2.at_<=bs.length:=(Tq _ _ _ R h).1
def Mu(h:R.at_<=bs.length):(ct bs lim e R).2.at_<=bs.length:=by
 unfold ct;split
 ·dsimp only;rw[E5];exact Lx h
 ·exact Lx h
def c8{f:Rd->α×Rd}{z:α}(h:R.at_<=m)(hf:(f R).2.at_<=m):(ln f z R).2.at_<=m:=by
 unfold ln;split
 ·exact h
 ·split
  ·exact h
  ·exact hf
def ez(h:R.at_<=bs.length):(j9 bs lim R).2.at_<=bs.length:=c8 h (Mu h)
def am(hl:lim<=1099511627776)(h:(j9 bs lim R).2.err=0):∃ n:Nat,(j9 bs lim R).1=(n:Int)/\n<=lim:=by
 unfold j9 ln at h |-;split at h
 ·rename_i h0;exact ni h h0
 ·rename_i h0;rw[nc h0];split at h
  ·rename_i h1;exact ni h h1
  ·rename_i h1;rw[nc h1];unfold zcc ct at h |-;dsimp only at h |-;split at h
   ·rename_i h2;exfalso;unfold Rd.fail at h;split at h
    ·cases h
    ·rename_i h3;exact h3 h
   ·rename_i h2;rw[nc h2];exact⟨_,yy T T,by omega⟩
def Rq(bs:List Nat)(lim:Nat)(R:Rd):ByteArray×Rd:=
 if (j9 bs lim R).2.err≠0\/((bs.length-(j9 bs lim R).2.at_:Nat):Int)<(j9 bs lim R).1 then (sZ,(j9 bs lim R).2.fail bs.length 17)
 else (F8 ((bs.drop (j9 bs lim R).2.at_).take (j9 bs lim R).1.toNat),⟨(j9 bs lim R).2.at_+(j9 bs lim R).1.toNat,(j9 bs lim R).2.bad,(j9 bs lim R).2.err⟩)
def fw(bs:List Nat)(lim:Nat):Rd->ByteArray×Rd:=ln (Rq bs lim) sZ
def Dt{α β:Type}(f:Rd->α×Rd)(g:Rd->β×Rd)(R:Rd):(α×β)×Rd:=(((f R).1,(g (f R).2).1),(g (f R).2).2)
def Lw(bs:List Nat):Rd->(ByteArray×ByteArray)×Rd:=ln (Dt (fw bs 16) (fw bs 16)) (sZ,sZ)
def wd(bs:List Nat):Rd->gj×Rd:=ln (Dt (Lw bs) (fw bs 16)) n3
def o0(bs:List Nat):Rd->U×Rd:=ln (Dt (wd bs) (wd bs)) (n3,n3)
def zc0(h:R.at_<=bs.length):(Rq bs lim R).2.at_<=bs.length:=by
 have h1:=ez (lim:=lim) h;unfold Rq;split
 ·dsimp only;rw[E5];exact h1
 ·rename_i h2;dsimp only;omega
def Ds(h:R.at_<=bs.length):(fw bs lim R).2.at_<=bs.length:=c8 h (zc0 h)
def Tm(h:R.at_<=bs.length):(Lw bs R).2.at_<=bs.length:=c8 h (Ds (Ds h))
def E1(h:R.at_<=bs.length):(wd bs R).2.at_<=bs.length:=c8 h (Ds (Tm h))
def Rs(h:R.at_<=bs.length):(o0 bs R).2.at_<=bs.length:=c8 h (E1 (E1 h))
section
variable        {q:Nat}    
def Sw(L:Tabs P){tt:TypeId}{fu ag:Bool}{lo hi:Operand}{kl kh:IntKind}(i k:Nat){pl ph:Int}(hn:Nat.blt d n=true)(hg:gK ops κ ⟨some d,.slice tt (.tmp q) (some lo) (some hi) none,ty,pos,aft,g⟩=some true)(hx:κ q=some (.sat (BsV bs fu)))(ht:L.sl tt=some Xe)(hl:L.ld Xe=some (ag,1))
  (hlo:evK κ lo=some (.int kl pl)) (hhi:evK κ hi=some (.int kh ph)) (el:pl=i) (eh:ph=(i+k:Nat)) (hjs:i+k<=bs.length):StepOK P F B n ops O κ ⟨some d,.slice tt (.tmp q) (some lo) (some hi) none,ty,pos,aft,g⟩ d (.sat (BsV ((bs.drop i).take k) false)):=by
 have h:=jj (km:=.i64) (pm:=0) (P:=P) (F:=F) (B:=B) (O:=O) (ops:=ops) (aft:=aft) (ty:=ty) (pos:=pos) (ys:=((bs.drop i).take k).map fun b:Nat=>Value.int .u8 (b:Int)) L i (i+k) false hn hg hx ht hl ⟨hlo,el⟩ ⟨hhi,eh⟩ (fun h=>by cases h) T hjs (by rw[zmh,zmh,zo6,zml,zmz]);have e:i+k-i=((bs.drop i).take k).length:=by rw[mi,m7];omega
 rw[e] at h;exact h
end
attribute [local irreducible] V N X VO Par StepOK Has Ret RetL RetO RetT ki RetX RetY Src
abbrev Pg:TypeId:=58
def Xz{b2 b3:Nat}{bs:List Nat}(hlim:lim<=1099511627776)(hb:∀ b∈bs,b<=255)(hl:bs.length<=1099511627776)(hat:R.at_<=bs.length)(hB:zpg B w)(hs:BsV bs fu sv B)(h2:B b2=some (.cells #[xz rb] Pg))(h3:B b3=some (.cells #[.int .i64 lim] 3))(hr:(GRd rb sv R).P B w C)(hC:ZCB C w B):
  RetX zph 184 [xz b2,xz b3] w B C (GRd rb sv (Rq bs lim R).2) (.string (Rq bs lim R).1):=by
 obtain⟨p,c,rfl⟩:=ky hs;unfold RetX;refine yr 900 (GRd rb _ R) Tryz.func184 Z Tryz.ntmps184 (np Z) hB hr hC ?_;rw[xa];have hla:=ez (lim:=lim) hat;obtain⟨z,⟨at1,bad1,err1⟩,hz⟩:∃ z R1,j9 bs lim R=(z,R1):=⟨_,_,rfl⟩
 have hlen:=fun(u:World) (H:Heap) (C2:Nat->Prop) (hH:zpg H u) (hle:B.Le H) hr2 hC2=>hz ▸ len_ret (R:=R) (rb:=rb) (C:=C2) hlim hb hl hat hH (hs.le hle) hr2 hC2;have hlv:=fun h=>am (bs:=bs) (R:=R) hlim h;unfold Rq;rw[hz] at hlv hla |-;dsimp only at hlv hla |-;by_cases h0:err1≠0
 ·rw[na (.inl h0)];refine Z0 (h:=?_);refine z7 (qf L (qh Z h2) Z Z Z Z) Z (z7 (qf L (qh Z h3) Z Z Z Z) Z (zy (y7 L 900 (GRd rb (.slice p bs.length c) ⟨at1,bad1,err1⟩) (.int .i64 z) (r:=GRd rb (.slice p bs.length c) R) Z Z Z Z Z hlen) ((Zi∘Zx) ?_)));refine z7 (qf L (qh Z h2) Z Z Z Z) Z (zy (y7 L 900 (GRd rb (.slice p bs.length c) ⟨at1,bad1,err1⟩) (.bool true) (r:=GRd rb (.slice p bs.length c) ⟨at1,bad1,err1⟩) Z Z Z Z Z (fun u H C2 hH _ hr2 hC2=>xy (nf h0) hH hr2 hC2)) ((ZaF∘Zbb∘ZbS) ?_));refine qg (id:=3) [(21,[900]),(200019,[900])] mixed J (z8 (qf L (qh Z h2) Z Z Z Z) Z (z8 (qf L (qh Z h2) Z Z Z Z) Z ((ZbB∘ZcN∘Zdd) ?_)));refine xw (yq L 900 (GRd rb (.slice p bs.length c) ((⟨at1,bad1,err1⟩:Rd).fail bs.length 17)) (r:=GRd rb (.slice p bs.length c) ⟨at1,bad1,err1⟩) Z Z Z Z Z (fun u H C2 hH _ hr2 hC2=>ax hH hr2 hC2)) Z Z ((ZaJ∘ZS∘Zc) ?_);exact xv L 900 (r:=yz rb _ ui) (rs:=[.tmp 2]) Z (fun _ _ h=>h) nq Z Z (fun _=>rfl)
 ·have he:err1=0:=m4.1 h0;subst he;obtain⟨k,rfl,hk⟩:=hlv rfl;by_cases h1:bs.length-at1<k
  ·rw[na (.inr T)];refine Z0 (h:=?_);refine z7 (qf L (qh Z h2) Z Z Z Z) Z (z7 (qf L (qh Z h3) Z Z Z Z) Z (zy (y7 L 900 (GRd rb (.slice p bs.length c) ⟨at1,bad1,0⟩) (.int .i64 k) (r:=GRd rb (.slice p bs.length c) R) Z Z Z Z Z hlen) ((Zi∘Zx) ?_)));refine z7 (qf L (qh Z h2) Z Z Z Z) Z (zy (y7 L 900 (GRd rb (.slice p bs.length c) ⟨at1,bad1,0⟩) (.bool false) (r:=GRd rb (.slice p bs.length c) ⟨at1,bad1,0⟩) Z Z Z Z Z (fun u H C2 hH _ hr2 hC2=>xy (ng h0) hH hr2 hC2)) (Zb (h:=?_)));refine z7 (qf L (qh Z h2) Z Z Z Z) Z (zy (y7 L 900 (GRd rb (.slice p bs.length c) ⟨at1,bad1,0⟩) (.int .i64 (bs.length-at1:Nat)) (r:=GRd rb (.slice p bs.length c) ⟨at1,bad1,0⟩) Z Z Z Z Z (fun u H C2 hH hle hr2 hC2=>s9 hl hla hH (hs.le hle) hr2 hC2)) ((ZO∘ZbS) ?_));refine qg (id:=3) [(21,[900]),(200019,[900])] mixed J (z8 (qf L (qh Z h2) Z Z Z Z) Z (z8 (qf L (qh Z h2) Z Z Z Z) Z ((ZbB∘ZcN∘Zdd) ?_)));refine xw (yq L 900 (GRd rb (.slice p bs.length c) ((⟨at1,bad1,0⟩:Rd).fail bs.length 17)) (r:=GRd rb (.slice p bs.length c) ⟨at1,bad1,0⟩) Z Z Z Z Z (fun u H C2 hH _ hr2 hC2=>ax hH hr2 hC2)) Z Z ((ZaJ∘ZS∘Zc) ?_);exact xv L 900 (r:=yz rb _ ui) (rs:=[.tmp 2]) Z (fun _ _ h=>h) nq Z Z (fun _=>rfl)
  ·rw[nc (fun h=>h.elim h0 (fun h=>h1 T)),zlp];have hw1:IntKind.i64.wrap ((at1:Int)+(k:Int))=((at1+k:Nat):Int):=(yy T T).trans T;have hw2:IntKind.i64.wrap (((at1+k:Nat):Int)-(k:Int))=(at1:Int):=(yy T T).trans T;have hsb:∀ b∈(bs.drop at1).take k,b<=255:=fun b hb2=>hb b (zo2 (zn8 hb2));refine Z0 (h:=?_);refine z7 (qf L (qh Z h2) Z Z Z Z) Z (z7 (qf L (qh Z h3) Z Z Z Z) Z (zy (y7 L 900 (GRd rb (.slice p bs.length c) ⟨at1,bad1,0⟩) (.int .i64 k) (r:=GRd rb (.slice p bs.length c) R) Z Z Z Z Z hlen) ((Zi∘Zx) ?_)));refine z7 (qf L (qh Z h2) Z Z Z Z) Z (zy (y7 L 900 (GRd rb (.slice p bs.length c) ⟨at1,bad1,0⟩) (.bool false) (r:=GRd rb (.slice p bs.length c) ⟨at1,bad1,0⟩) Z Z Z Z Z (fun u H C2 hH _ hr2 hC2=>xy (ng h0) hH hr2 hC2)) (Zb (h:=?_)));refine z7 (qf L (qh Z h2) Z Z Z Z) Z (zy (y7 L 900 (GRd rb (.slice p bs.length c) ⟨at1,bad1,0⟩) (.int .i64 (bs.length-at1:Nat)) (r:=GRd rb (.slice p bs.length c) ⟨at1,bad1,0⟩) Z Z Z Z Z (fun u H C2 hH hle hr2 hC2=>s9 hl hla hH (hs.le hle) hr2 hC2)) ((ZJ∘ZbV∘ZE) ?_));refine z7 (qf L (qh Z h2) Z Z Z Z) Z ((ZH∘Za∘Zy∘ZY) ?_);refine xh (ye L (q:=900) (cs':=[.slice p bs.length c,.int .i64 (at1+k:Nat),.int .i64 bad1,.int .i64 0]) Z Z Z Z Z) (Zg (h:=?_));refine qg (id:=6) [(200033,[900]),(200037,[900]),(200043,[900])] mixed J (z8 (qf L (qh Z h2) Z Z Z Z) Z (ZbB (h:=?_)));refine qn (StepOKR.seeV (qb L (q:=900) Z Z Z Z) hs) Z Z (z8 (qf L (qh Z h2) Z Z Z Z) Z ((ZbB∘ZcN∘Zj∘Zc9) ?_));refine z8 (qf L (qh Z h2) Z Z Z Z) Z ((ZbB∘ZcN) ?_);refine z8 (Sw L (fu:=fu) at1 k Z Z Z Z Z Z Z Z Z T) Z (z8 (Te (bs:=(bs.drop at1).take k) (fu:=false) hsb Z Z Z Z Z Z) Z (ZaP (h:=?_)));exact xv L 900 (r:=yz rb _ ui) (rs:=[.tmp 2]) Z (fun _ _ h=>h) nq Z Z (fun _=>rfl)
end Go.V.L4
namespace Go.V.L11
open Go.V.L2 Go.V.L3 Go.V.L4 Go.V.L6
def Fx{f:Rd->α×Rd}{z:α}(P:α->Prop)(hz:P z)(hf:P (f R).1):P (ln f z R).1:=by
 unfold ln;split
 ·exact hz
 ·split
  ·exact hz
  ·exact hf
def Ad(hl:lim<=1099511627776):(fw bs lim R).1.size<=lim:=by
 refine Fx (fun s:ByteArray=>s.size<=lim) (mf _) ?_;unfold Rq;split
 ·exact mf _
 ·rename_i h;have h0:(j9 bs lim R).2.err=0:=m4.1 fun h2=>h (.inl h2);obtain⟨n,hn,hn2⟩:=am hl h0;rw[hn,zlp];show(List.map UInt8.ofNat ((bs.drop _).take n)).toArray.size<=lim;rw[zn1,mt,mi];omega
def Tl:(Lw bs R).1.1.size<=16/\(Lw bs R).1.2.size<=16:=
 Fx (fun s:ByteArray×ByteArray=>s.1.size<=16/\s.2.size<=16) ⟨by decide,by decide⟩ ⟨Ad E,Ad E⟩
def Db:((wd bs R).1.1.1.size<=16/\(wd bs R).1.1.2.size<=16)/\(wd bs R).1.2.size<=16:=
 Fx (fun s:gj=>(s.1.1.size<=16/\s.1.2.size<=16)/\s.2.size<=16) ⟨⟨by decide,by decide⟩,by decide⟩ ⟨Tl,Ad E⟩
def zc3:TZ (o0 bs R).1:=by
 refine Fx TZ (by unfold TZ;decide) ?_;have h1:=Db (bs:=bs) (R:=R);have h2:=Db (bs:=bs) (R:=(wd bs R).2);unfold TZ Dt;dsimp only;omega
end Go.V.L11
namespace Go.V.L4
open Go.V.L2 Go.V.L3 Go.V.L8
def _root_.ZeD(t:Wr Y->A:=by intro h;refine qg (id:=1) [(3,[900]),(5,[900])] mixed J ?_;exact h.1)(h:Y):A:=t ⟨h⟩
attribute [local irreducible] V N X VO Par StepOK Has Ret RetL RetO RetT ki RetX RetY Src
def Kq(hlim:lim<=1099511627776){bs:List Nat}(hb:∀ b∈bs,b<=255)(hl:bs.length<=1099511627776)(hat:R.at_<=bs.length)(hB:zpg B w)(hs:BsV bs fu sv B)(hr:(GRd rb sv R).P B w C)(hC:ZCB C w B):
  RetX zph 120 [xz rb,.int .i64 lim] w B C (GRd rb sv (fw bs lim R).2) (.string (fw bs lim R).1):=by
 unfold RetX;refine yr 900 (GRd rb _ R) Tryz.func120 Z Tryz.ntmps120 (np Z) hB hr hC ?_;rw[xa];refine(Zbf∘Zd4∘Zd) ?_;refine kz 2 901 rfl fun b2=>?_;refine kz 3 902 rfl fun b3=>?_;refine j8 901 rfl fun H1 hs1 _ h2=>?_;refine j8 902 rfl fun H2 hs2 _ h3=>?_;have h2:=hs2.le _ _ h2;have hs12:=hs1.trans hs2;have hs':=hs.le hs12.le;refine Z3 (h:=?_);refine z7 (qf L (qh Z h2) Z Z Z Z) Z (Zav (h:=?_));refine zy (y7 L 900 (GRd rb sv (fw bs lim R).2) (.string (fw bs lim R).1) (r:=GRd rb sv R) Z Z Z Z Z (fun u H C2 hH hle hr2 hC2=>Pb (gf:=Rq bs lim) (fst:=[]) (cap:=[xz b2,xz b3]) Z hH hr2 hC2 (fun _ u3 H3 C3 hH3 hle3 hr3 hC3=>Xz hlim hb hl hat hH3 ((hs'.le hle).le hle3) ((hle.trans hle3) _ _ h2) ((hle.trans hle3) _ _ h3) hr3 hC3))) (Zc (h:=?_));exact xv L 900 (r:=yz rb _ ui) (rs:=[.tmp 4]) Z (fun _ _ h=>h) hs12 Z Z (fun _=>rfl)
def Yz{b1:Nat}{bs:List Nat}(hb:∀ b∈bs,b<=255)(hl:bs.length<=1099511627776)(hat:R.at_<=bs.length)(hB:zpg B w)(hs:BsV bs fu sv B)(h1:B b1=some (.cells #[xz rb] Pg))(hr:(GRd rb sv R).P B w C)(hC:ZCB C w B):
  RetX zph 182 [xz b1] w B C (GRd rb sv (Dt (fw bs 16) (fw bs 16) R).2) (oV ((fw bs 16 R).1,(fw bs 16 (fw bs 16 R).2).1)):=by
 unfold RetX;refine yr 900 (GRd rb _ R) Tryz.func182 Z Tryz.ntmps182 (np Z) hB hr hC ?_;rw[xa];have hat2:=Ds (lim:=16) hat;unfold Dt;dsimp only;generalize hz1:fw bs 16 R=z1 at hat2;obtain⟨x,R1⟩:=z1;dsimp only at hat2 |-;generalize hz2:fw bs 16 R1=z2;obtain⟨y,R2⟩:=z2;dsimp only;refine(ZbN∘ZeD) ?_;refine z8 (qf L (qh Z h1) Z Z Z Z) Z (xw (y7 L 900 (GRd rb sv R1) (.string x) (r:=GRd rb sv R) Z Z Z Z Z (fun u H C2 hH hle hr2 hC2=>by have h:=Kq (lim:=16) E hb hl hat hH (hs.le hle) hr2 hC2;rw[hz1] at h;exact h)) Z Z ?_);refine z8 (qf L (qh Z h1) Z Z Z Z) Z (xw (y7 L 900 (GRd rb sv R2) (.string y) (r:=GRd rb sv R1) Z Z Z Z Z (fun u H C2 hH hle hr2 hC2=>by have h:=Kq (lim:=16) E hb hl hat2 hH (hs.le hle) hr2 hC2;rw[hz2] at h;exact h)) Z Z ?_);refine z8 (yt (cs:=[_,_]) Z Z zj4 Z Z) Z ((ZdZ∘Zb1) ?_);exact xv L 900 (r:=yz rb _ ui) (rs:=[.cell 1 zf0]) Z (fun _ _ h=>h) nq Z Z (fun _=>⟨_,qw Z,rfl,rfl⟩)
def zd6{bs:List Nat}(hb:∀ b∈bs,b<=255)(hl:bs.length<=1099511627776)(hat:R.at_<=bs.length)(hB:zpg B w)(hs:BsV bs fu sv B)(hr:(GRd rb sv R).P B w C)(hC:ZCB C w B):
  RetX zph 119 [xz rb] w B C (GRd rb sv (Lw bs R).2) (oV (Lw bs R).1):=by
 unfold RetX;refine yr 900 (GRd rb _ R) Tryz.func119 Z Tryz.ntmps119 (np Z) hB hr hC ?_;rw[xa];refine(Zbf∘Z2∘Zg) ?_;refine kz 1 901 rfl fun b1=>?_;refine j8 901 rfl fun H1 hs1 _ h1=>?_;have hs':=hs.le hs1.le;generalize hz:Lw bs R=z;obtain⟨⟨x,y⟩,R1⟩:=z;dsimp only;refine Z3 (h:=?_);refine z7 (qf L (qh Z h1) Z Z Z Z) Z (Zav (h:=?_));refine zy (y7 L 900 (GRd rb sv R1) (oV (x,y)) (r:=GRd rb sv R) Z Z Z Z Z (fun u H C2 hH hle hr2 hC2=>by have h:=Pd (gf:=Dt (fw bs 16) (fw bs 16)) (fst:=[]) (cap:=[xz b1]) Z hH hr2 hC2 (fun _ u3 H3 C3 hH3 hle3 hr3 hC3=>Yz hb hl hat hH3 ((hs'.le hle).le hle3) ((hle.trans hle3) _ _ h1) hr3 hC3);unfold Lw at hz;rw[hz] at h;exact h)) ?_;refine Zam (h:=?_);exact xv L 900 (r:=yz rb _ ui) (rs:=[.cell 2 zf0]) Z (fun _ _ h=>h) hs1 Z Z (fun _=>⟨_,qw Z,rfl,rfl⟩)
def Uu{b1:Nat}{bs:List Nat}(hb:∀ b∈bs,b<=255)(hl:bs.length<=1099511627776)(hat:R.at_<=bs.length)(hB:zpg B w)(hs:BsV bs fu sv B)(h1:B b1=some (.cells #[xz rb] Pg))(hr:(GRd rb sv R).P B w C)(hC:ZCB C w B):
  RetX zph 118 [xz b1] w B C (GRd rb sv (Dt (Lw bs) (fw bs 16) R).2) (gV ((Lw bs R).1,(fw bs 16 (Lw bs R).2).1)):=by
 unfold RetX;refine yr 900 (GRd rb _ R) Tryz.func118 Z Tryz.ntmps118 (np Z) hB hr hC ?_;rw[xa];have hat2:=Tm hat;unfold Dt;dsimp only;generalize hz1:Lw bs R=z1 at hat2;obtain⟨x,R1⟩:=z1;dsimp only at hat2 |-;generalize hz2:fw bs 16 R1=z2;obtain⟨y,R2⟩:=z2;dsimp only;refine(ZbN∘ZeD) ?_;refine z8 (qf L (qh Z h1) Z Z Z Z) Z (xw (y7 L 900 (GRd rb sv R1) (oV x) (r:=GRd rb sv R) Z Z Z Z Z (fun u H C2 hH hle hr2 hC2=>by have h:=zd6 hb hl hat hH (hs.le hle) hr2 hC2;rw[hz1] at h;exact h)) Z Z ?_);refine z8 (qf L (qh Z h1) Z Z Z Z) Z (xw (y7 L 900 (GRd rb sv R2) (.string y) (r:=GRd rb sv R1) Z Z Z Z Z (fun u H C2 hH hle hr2 hC2=>by have h:=Kq (lim:=16) E hb hl hat2 hH (hs.le hle) hr2 hC2;rw[hz2] at h;exact h)) Z Z ?_);refine z8 (yt (cs:=[_,_,_]) Z Z zj3 Z Z) Z ((ZdZ∘Zb1) ?_);exact xv L 900 (r:=yz rb _ ui) (rs:=[.cell 1 zf1]) Z (fun _ _ h=>h) nq Z Z (fun _=>⟨_,qw Z,rfl,rfl⟩)
def goal_ret{bs:List Nat}(hb:∀ b∈bs,b<=255)(hl:bs.length<=1099511627776)(hat:R.at_<=bs.length)(hB:zpg B w)(hs:BsV bs fu sv B)(hr:(GRd rb sv R).P B w C)(hC:ZCB C w B):
  RetX zph 56 [xz rb] w B C (GRd rb sv (wd bs R).2) (gV (wd bs R).1):=by
 unfold RetX;refine yr 900 (GRd rb _ R) Tryz.func56 Z Tryz.ntmps56 (np Z) hB hr hC ?_;rw[xa];refine(Zbf∘Z2∘Zg) ?_;refine kz 1 901 rfl fun b1=>?_;refine j8 901 rfl fun H1 hs1 _ h1=>?_;have hs':=hs.le hs1.le;generalize hz:wd bs R=z;obtain⟨⟨⟨x,y⟩,y2⟩,R1⟩:=z;dsimp only;refine Z3 (h:=?_);refine z7 (qf L (qh Z h1) Z Z Z Z) Z (Zav (h:=?_));refine zy (y7 L 900 (GRd rb sv R1) (gV ((x,y),y2)) (r:=GRd rb sv R) Z Z Z Z Z (fun u H C2 hH hle hr2 hC2=>by have h:=Km (gf:=Dt (Lw bs) (fw bs 16)) (fst:=[]) (cap:=[xz b1]) Z hH hr2 hC2 (fun _ u3 H3 C3 hH3 hle3 hr3 hC3=>Uu hb hl hat hH3 ((hs'.le hle).le hle3) ((hle.trans hle3) _ _ h1) hr3 hC3);unfold wd at hz;rw[hz] at h;exact h)) ?_;refine Zam (h:=?_);exact xv L 900 (r:=yz rb _ ui) (rs:=[.cell 2 zf1]) Z (fun _ _ h=>h) hs1 Z Z (fun _=>⟨_,qw Z,rfl,rfl⟩)
def zc7{bs:List Nat}(hb:∀ b∈bs,b<=255)(hl:bs.length<=1099511627776)(hat:R.at_<=bs.length)(hB:zpg B w)(hs:BsV bs fu sv B)(hr:(GRd rb sv R).P B w C)(hC:ZCB C w B):
  RetX zph 57 [xz rb] w B C (GRd rb sv (wd bs R).2) (gV (wd bs R).1):=by
 unfold RetX;refine yr 900 (GRd rb _ R) Tryz.func57 Z Tryz.ntmps57 (np Z) hB hr hC ?_;rw[xa];generalize hz:wd bs R=z;obtain⟨⟨⟨x,y⟩,y2⟩,R1⟩:=z;dsimp only;refine(ZbN∘ZaZ) ?_;refine zy (y7 L 900 (GRd rb sv R1) (gV ((x,y),y2)) (r:=GRd rb sv R) Z Z Z Z Z (fun u H C2 hH hle hr2 hC2=>by have h:=goal_ret hb hl hat hH (hs.le hle) hr2 hC2;rw[hz] at h;exact h)) ?_;refine Zam (h:=?_);exact xv L 900 (r:=yz rb _ ui) (rs:=[.cell 2 55]) Z (fun _ _ h=>h) nq Z Z (fun _=>⟨_,qw Z,rfl,rfl⟩)
def X4{b1:Nat}{bs:List Nat}(hb:∀ b∈bs,b<=255)(hl:bs.length<=1099511627776)(hat:R.at_<=bs.length)(hB:zpg B w)(hs:BsV bs fu sv B)(h1:B b1=some (.cells #[xz rb] Pg))(hr:(GRd rb sv R).P B w C)(hC:ZCB C w B):
  RetX zph 55 [xz b1] w B C (GRd rb sv (Dt (wd bs) (wd bs) R).2) (uv ((wd bs R).1,(wd bs (wd bs R).2).1)):=by
 unfold RetX;refine yr 900 (GRd rb _ R) Tryz.func55 Z Tryz.ntmps55 (np Z) hB hr hC ?_;rw[xa];have hat2:=E1 hat;unfold Dt;dsimp only;generalize hz1:wd bs R=z1 at hat2;obtain⟨x,R1⟩:=z1;dsimp only at hat2 |-;generalize hz2:wd bs R1=z2;obtain⟨y,R2⟩:=z2;dsimp only;refine(ZbN∘ZeD) ?_;refine z8 (qf L (qh Z h1) Z Z Z Z) Z (xw (y7 L 900 (GRd rb sv R1) (gV x) (r:=GRd rb sv R) Z Z Z Z Z (fun u H C2 hH hle hr2 hC2=>by have h:=goal_ret hb hl hat hH (hs.le hle) hr2 hC2;rw[hz1] at h;exact h)) Z Z ?_);refine z8 (qf L (qh Z h1) Z Z Z Z) Z (xw (y7 L 900 (GRd rb sv R2) (gV y) (r:=GRd rb sv R1) Z Z Z Z Z (fun u H C2 hH hle hr2 hC2=>by have h:=zc7 hb hl hat2 hH (hs.le hle) hr2 hC2;rw[hz2] at h;exact h)) Z Z ?_);refine z8 (yt (cs:=[_,_,_,_,_,_]) Z Z zj2 Z Z) Z ((ZdZ∘Zb1) ?_);exact xv L 900 (r:=yz rb _ ui) (rs:=[.cell 1 tyU]) Z (fun _ _ h=>h) nq Z Z (fun _=>⟨_,qw Z,rfl,rfl⟩)
def zc2{bs:List Nat}(hb:∀ b∈bs,b<=255)(hl:bs.length<=1099511627776)(hat:R.at_<=bs.length)(hB:zpg B w)(hs:BsV bs fu sv B)(hr:(GRd rb sv R).P B w C)(hC:ZCB C w B):
  RetX zph 16 [xz rb] w B C (GRd rb sv (o0 bs R).2) (uv (o0 bs R).1):=by
 unfold RetX;refine yr 900 (GRd rb _ R) Tryz.func16 Z Tryz.ntmps16 (np Z) hB hr hC ?_;rw[xa];refine(Zbf∘Z2∘Zg) ?_;refine kz 1 901 rfl fun b1=>?_;refine j8 901 rfl fun H1 hs1 _ h1=>?_;have hs':=hs.le hs1.le;generalize hz:o0 bs R=z;obtain⟨⟨⟨⟨x,y⟩,y2⟩,⟨⟨x3,y3⟩,y4⟩⟩,R1⟩:=z;dsimp only;refine Z3 (h:=?_);refine z7 (qf L (qh Z h1) Z Z Z Z) Z (Zav (h:=?_));refine zy (y7 L 900 (GRd rb sv R1) (uv (((x,y),y2),((x3,y3),y4))) (r:=GRd rb sv R) Z Z Z Z Z (fun u H C2 hH hle hr2 hC2=>by have h:=Pa (gf:=Dt (wd bs) (wd bs)) (fst:=[]) (cap:=[xz b1]) Z hH hr2 hC2 (fun _ u3 H3 C3 hH3 hle3 hr3 hC3=>X4 hb hl hat hH3 ((hs'.le hle).le hle3) ((hle.trans hle3) _ _ h1) hr3 hC3);unfold o0 at hz;rw[hz] at h;exact h)) ?_;refine Zam (h:=?_);exact xv L 900 (r:=yz rb _ ui) (rs:=[.cell 2 tyU]) Z (fun _ _ h=>h) hs1 Z Z (fun _=>⟨_,qw Z,rfl,rfl⟩)
end Go.V.L4
end
