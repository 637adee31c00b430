/- Texts on the way to WiresLoad, part 6: one behind another. -/
import Derived.Test.YtefilnnomholbaaGreatWiresLoadM5
import Derived.Laws.IdiomStrings
import Derived.ProofKit
import Derived.HandedShaped
import Derived.OpenShut
import Derived.Deep.Slices
set_option linter.unusedVariables false
set_option linter.unusedSimpArgs false
set_option maxRecDepth 20000
set_option maxHeartbeats 8000000
set_option linter.defProp false
open Go.Proofs Go.RowKit
section
variable{L0 P:List Int}{t ty:Go.TypeId}{s:ByteArray}{W w:Go.World}{B:Go.V.Heap}{zs:List (Int×List Go.V.L2.U)}{S:Go.V.L10.Sto}{e r:Int}{φ1 φ2:Go.Value->Go.V.Heap->Prop}{a b c i lim n:Nat}{H α:Type}{bs rest:List Nat}{R:Go.V.L4.Rd}{args:List Go.Value}{y:List (Int×List Go.V.L2.U)×List Int}{κ:Go.V.Kap}{O:Go.V.Boxes}{fu held:Bool}{v:Go.Value}{ops:Array Go.Oper}{pos:String}{aft:Array Go.Edge}{g:Option (Nat×Bool)}{l:List Go.V.L2.U}{p:Option Go.Addr}{cs:List Go.V.L8.CH}{C:Nat->Prop}{Φ:List Go.Value->Prop}{A Y:Prop}
section
open Go.V
attribute [local irreducible] Has N Par Ret RetL RetO RetT RetX RetY Src StepOK V VO X ky
namespace Go.V.L10
open Go.V.L2 Go.V.L8 Go.V.L6
def _root_.Zfh(t:Wr Y->A:=by intro h;refine y9 (qk L (q:=902) Z Z Z Z) ?_;exact h.1)(h:Y):A:=t ⟨h⟩
def zaf{t:Nat}(hz2:(ko L0).length<=100000){s:Value}(hB:zry B w)(hv:PsV (ko L0) s B):
  Ret zrz 110 [pnv s t] w B (RsV (jl L0) true):=by
 have hat:∀ (i:Nat) (x:Int),(jl L0)[i]?=some x->(ko L0)[i]?=some (x,(L0.count x:Int)):=fun i x h=>Db h;have hlen:(ko L0).length=(jl L0).length:=gx L0;obtain⟨p,c,rfl⟩:=jx hv;refine yo Tryz.func110 Z Tryz.ntmps110 (np Z) hB ?_;by_cases h0:(jl L0).length=0
 ·have hnil:jl L0=[]:=m8 h0;rw[hnil];refine(Z0∘ZaH∘Z8∘Za1) ?_;refine z7 (ry L (jl L0).length Z Z Z zke Z Z (congrArg (Nat.cast (R:=Int)) hlen) (congrArg (Nat.cast (R:=Int)) hlen) I (by unfold maxLen;omega)) Z ?_;refine qh (yt (.inr Z) Z) ((Zam∘ZS∘ZaD∘Zf1∘ZdE∘Zcm) ?_);refine R8 3 rfl (xq (fun _:Unit=>[(3,.sat (SlV N3 1 (zsL zrz N3 ((jl L0).length*1)) (jl L0).length true)),(13,.is (.int .i64 0)),(12,.is (.int .i64 (ko L0).length))]) (fun _=>True) (fun _=>0) () trivial ⟨Z,Z,Z,nm⟩ ?_);rintro _ _;refine(Zf∘Zy∘ZbB∘ZU∘Zk∘ZP∘Zp) ?_;refine yl1 L [.tmp 2] fun u H hH hle=>?_;intro v hv;have h1:(jl L0).length*1=0:=I;rw[h0] at hv
  have hzl:zsL zrz N3 (0*1)=[]:=by
   have:=hv.1;exact m8 (by simpa using this)
  rw[hzl] at hv;exact hv
 ·refine(Z0∘ZaH∘Z8∘Za1) ?_;refine z7 (ry L (jl L0).length Z Z Z zke Z Z (congrArg (Nat.cast (R:=Int)) hlen) (congrArg (Nat.cast (R:=Int)) hlen) I (by unfold maxLen;omega)) Z ?_;refine qh (yt (.inr Z) Z) (Zam (h:=?_));refine zbg 3 901 I Z fun b hzl=>?_;refine(ZS∘ZaD∘Zf1∘ZdE∘Zcm) ?_;generalize zsL zrz N3 ((jl L0).length*1)=zs at hzl |-
  refine xq (fun s:Nat×List Value=>[(3,.is (.slice (some ⟨b,0,none⟩) (jl L0).length (jl L0).length)),(11,.sat (PsV (ko L0))),(13,.is (.int .i64 s.1)),(12,.is (.int .i64 (ko L0).length)),(901,.own (xn b s.2 N3))])
   (fun s=>s.1<=(jl L0).length/\s.2.length=(jl L0).length/\s.2.take s.1=((jl L0).take s.1).map (Value.int .u64)) (fun s=>(jl L0).length-s.1) (0,zs) ⟨Nat.zero_le _,by dsimp only;omega,rfl⟩ ⟨rfl,rfl,rfl,rfl,rfl,trivial⟩ ?_
  rintro⟨i,cs⟩ ⟨hi,hcs,htk⟩;dsimp only at hi hcs htk |-;by_cases hlt:i<(jl L0).length
  ·obtain⟨x,hx⟩:=xu hlt;have hc:=zct (hat i x hx);have hle1:0+i*1+1<=cs.length:=by rw[hcs];omega
   have hwi:IntKind.i64.wrap ((i:Int)+1)=((i+1:Nat):Int):=xd I I;refine(Zf∘Zy∘ZN∘ZB∘Zbn∘Zel∘ZC∘Zh∘Zab∘ZbZ) ?_;refine zim 5 rfl ((Z8∘ZeB) ?_);refine xg (yj L (q:=901) Z Z (zpw hle1) Z Z) ((ZaJ∘ZD∘ZF∘ZcZ) ?_)
   exact yv (x:=(i,cs)) (i+1,cs.take (0+i*1)++([.int .u64 x]++cs.drop (0+i*1+1))) ⟨hlt,by dsimp only;rw[List.length_append,List.length_append,List.length_take,List.length_drop];simp only[List.length_cons,List.length_nil];omega,by
    dsimp only;rw[cp hx,znp,<-htk,znk,zoe,zpj,zqs,Nat.min_eq_right I,mw,zos I,show i+1-i=1 by omega];rfl⟩ M ⟨rfl,rfl,rfl,rfl,rfl,nm⟩
  ·obtain rfl:i=(jl L0).length:=by omega
   have hcs2:cs=(jl L0).map (Value.int .u64):=by
    rw[znl I,znq] at htk;exact htk
   subst hcs2;refine(Zf∘Zy∘ZbB) ?_;refine zbd (s:=1) 3 901 rfl Z (by simp) (by unfold maxLen;omega) ?_;refine R8 3 rfl ((ZU∘Zk∘ZP∘Zp) ?_);refine yl1 L [.tmp 2] fun u H hH hle=>?_;exact fun v hv=>hv
def S3{zs:List (Int×SB)}{fr fb:Bool}(he:mkE (zs.map (·.1)) L0=e)(hS:e=0->MapOK (zsE zs) S.R/\(S.R.length:Int)=bj (zs.map (·.1)) zs.length/\S.P=L0)(hz:(ko L0).length<=100000)(hzb:L0.length<=1000000000000)(hZ:zs.length<=100000)
  {v1 v2 s:Value}   (hB:zry B w) (h1:RsV (zs.map (·.1)) fr v1 B) (h2:SsV (zs.map (·.2)) fb v2 B) (hb:SbOK (zs.map (·.2)) B) (hv:PsV (ko L0) s B):
  RetO zrz 41 [v1,v2,pnv s L0.length] w B (MkR e S):=by
 obtain⟨ps,pc,rfl⟩:=jx hv;obtain⟨rs,hrs⟩:∃ rs,rs=zs.map (·.1):=⟨_,rfl⟩
 obtain⟨bs,hbs⟩:∃ bs,bs=zs.map (·.2):=⟨_,rfl⟩
 have lr:rs.length=zs.length:=by rw[hrs,mj]
 have lb:bs.length=zs.length:=by rw[hbs,mj]
 rw[<-hrs] at he hS h1;rw[<-hbs] at h2 hb;unfold mkE at he;refine wj Tryz.func41 Z Tryz.ntmps41 (np Z) hB (jf 0 (RsV rs fr) Z nw h1 (jf 1 (SsV bs fb) Z nw h2 ?_));by_cases h0:rs.length=0
 ·rw[na h0] at he;refine(Z0∘ZaR∘Zae∘Z9∘Zl∘Zv∘Zcr∘Za6∘Zh∘Zbd∘ZA) ?_;exact Kl L (rs:=[.tmp 6,.tmp 7]) Z (fun _ _ h=>h) nq (fun _=>rfl) (fun H u _=>.inr ⟨by omega,by rw[<-he];rfl,fun _ h=>h⟩)
 ·rw[nc h0] at he;by_cases hk:1024<rs.length
  ·rw[na hk] at he;refine(Z0∘ZaR∘Zae∘Z9∘Zl∘Zn∘Za∘Zl∘Zl∘Za7∘Zi∘Zbx∘Zy∘Zl∘ZJ∘Zh∘Zr∘Zs∘ZA) ?_;exact Kl L (rs:=[.tmp 6,.tmp 7]) Z (fun _ _ h=>h) nq (fun _=>rfl) (fun H u _=>.inr ⟨by omega,by rw[<-he];rfl,fun _ h=>h⟩)
  ·rw[nc hk] at he;refine(Z0∘ZaR∘Zae∘Z9∘Zl∘Zn∘Za∘Zl∘Zl∘Za7∘Zi∘Zbx∘Zy∘Zl∘Zan∘Zh∘Zas∘Zau∘Zcl) ?_;refine qp (id:=5) [(34,[32]),(35,[34]),(8,[35])] kj J ((Zag∘ZeG) ?_);refine z9 (O0 .u64 vcE Z mpS Z Z) Z (ZcS (h:=?_));refine xx (Tp (q:=32) (fun k=>[(0,.int .u64 0),(1,.map (some k)),(2,.agg #[.slice ps (ko L0).length pc,.int .i64 L0.length])]) (fun k=>stc 0 k (.slice ps (ko L0).length pc) L0.length) Z Z Z Z zje (fun _=>rfl) (fun _=>rfl)) Z Z (xx (zc0 Z Z Z Z) Z Z (xx (yt (.inr Z) Z) Z Z ((Zbh∘Zf) ?_)));refine R9 8 902 rfl fun x=>?_;obtain⟨b2,m2⟩:=x;rw[vu];refine v8 902 903 rfl (xm _) ?_;refine(ZD∘Zl∘Zcm) ?_;have lz:(zsE zs).length=rs.length:=by unfold zsE;rw[List.length_map,lr]
   refine xq (fun y:Nat=>[(1,.sat (SsV bs fb)),(5,.sat (At [.slice ps (ko L0).length pc,.int .i64 L0.length] 112 0)),(8,.is (A5 b2)),(36,.sat (RsV rs fr)),(37,.is (.int .i64 rs.length)),(38,.is (.int .i64 y)),(902,.own (xn b2 [.int .u64 (bj rs y),.map (some m2),.slice ps (ko L0).length pc,.int .i64 L0.length] tyS)),(903,.own (F8 m2 .u64 vcE ((zsE zs).take y)))])
    (fun y=>y<=rs.length/\zbj (rs.take y)/\∀ a∈0::rs.take y,a<=bj rs y) (fun y=>rs.length-y) 0 ⟨mf _,zop _ _,fun a ha=>by rw[zn6,mz] at ha;subst ha;exact zo8 _⟩ ⟨rfl,rfl,rfl,rfl,rfl,rfl,rfl,rfl,nm⟩ ?_
   rintro i ⟨hi,hA,hmx⟩;dsimp only at hi hA hmx |-;by_cases hlt:i<rs.length
   ·obtain⟨z,hzi⟩:=xu (show i<zs.length by omega);obtain⟨x,c0⟩:=z;have hx:rs[i]?=some x:=by rw[hrs,zn4,hzi];rfl
    have hbi:bs[i]?=some c0:=by rw[hbs,zn4,hzi];rfl
    have hei:(zsE zs)[i]?=some (x,(c0.1,sbv c0)):=by unfold zsE;rw[List.getElem?_map,hzi];rfl
    obtain⟨t0,f1,p1,f2,p2⟩:=c0;have hc:=zcm hx;have hcb:=zlr hbi;have hwk:IntKind.i64.wrap ((i:Int)+1)=((i+1:Nat):Int):=xd I I;by_cases hle:x<=bj rs i
    ·have hnA:¬ zbj rs:=fun h=>by have:=zeh h hx;omega
     rw[nc hnA] at he;refine(Zf∘ZU∘ZN∘Z7∘ZcW∘Za9∘Zb1∘ZE∘Zb∘Zaa∘Zfh∘ZcL∘Zr∘Zbf∘ZA) ?_;exact Kl L (rs:=[.tmp 6,.tmp 7]) Z (fun _ _ h=>h) nq (fun _=>rfl) (fun H u _=>.inr ⟨by omega,by rw[<-he];rfl,fun _ h=>h⟩)
    ·have hsn:=zeg hA hmx hx I
     have hnk:x∉((zsE zs).take i).map Prod.fst:=fun hm2=>by
      have h3:((zsE zs).take i).map Prod.fst=rs.take i:=by rw[List.map_take];unfold zsE;rw[List.map_map,hrs];rfl
      rw[h3] at hm2;have:=hmx x (me _ hm2);omega
     have hput:=zc9 (y:=(t0,sbv (t0,f1,p1,f2,p2))) hnk;rw[<-cp hei] at hput;have hls:=bi hx;refine(Zf∘ZU∘ZN∘Z7∘ZcW∘Za9∘Zb1∘ZE∘Zb∘Zaa∘Zfh∘ZcG∘Zo∘ZG∘Zb∘Zaa) ?_;refine xg (yj L (q:=902) (cs':=[.int .u64 x,.map (some m2),.slice ps (ko L0).length pc,.int .i64 L0.length]) Z Z Z Z Z) (Zp (h:=?_));refine qp (id:=12) [(200056,[902]),(100056,[903])] kj J (Zba (h:=?_));refine qz (qk L (q:=902) Z Z Z Z) Z Z ((Zm∘Zej) ?_);refine z9 (yw L (vs:=[_,_,_,_]) Z Z Z Z Z ⟨_,rfl⟩) Z (xp (Tl (q:=903) (vc:=vcE) x (t0,sbv (t0,f1,p1,f2,p2)) mpS kyS Z Z Z Z Z Z hput) Z ((Zco∘Zax∘ZO∘ZF∘ZcZ) ?_));exact yv (x:=i) (i+1) ⟨hlt,hsn.1,hsn.2⟩ I ⟨Z,Z,Z,Z,Z,Z,by rw[hls];rfl,Z,nm⟩
   ·obtain rfl:i=rs.length:=by omega
    rw[znq] at hA hmx;rw[na hA] at he;rw[show(zsE zs).take rs.length=zsE zs by rw[<-lz,znq]];have hfs:(zsE zs).map Prod.fst=rs:=by unfold zsE;rw[List.map_map,hrs];rfl
    have hhl:=A6 L0;refine(Zf∘ZU∘ZbB∘Zf∘Za2∘Zd8) ?_;refine z7 (xl (φ:=RsV (jl L0) true) L Z Z (zp Z) Z Z Z nw (fun u H2 hH hle _=>zaf hz hH (hv.le hle))) Z ((ZdE∘Zcm) ?_)
    refine xq (fun y:Nat=>[(8,.is (A5 b2)),(64,.sat (RsV (jl L0) true)),(65,.is (.int .i64 (jl L0).length)),(66,.is (.int .i64 y)),(902,.own (xn b2 [.int .u64 (bj rs rs.length),.map (some m2),.slice ps (ko L0).length pc,.int .i64 L0.length] tyS)),(903,.own (F8 m2 .u64 vcE (zsE zs)))])
     (fun y=>y<=(jl L0).length/\∀ h∈(jl L0).take y,h∈rs) (fun y=>(jl L0).length-y) 0 ⟨mf _,fun h hh=>by rw[zn6] at hh;cases hh⟩ ⟨rfl,rfl,rfl,rfl,rfl,rfl,nm⟩ ?_
    rintro j ⟨hj,hin⟩;dsimp only at hj hin |-;by_cases hlt2:j<(jl L0).length
    ·obtain⟨h,hh⟩:=xu hlt2;have hc:=zcm hh;have hwk:IntKind.i64.wrap ((j:Int)+1)=((j+1:Nat):Int):=xd I I
     cases hgk:dy h (zsE zs) with
     | none=>
      have hni:h∉rs:=fun hm2=>by rw[<-hfs,<-po,hgk] at hm2;cases hm2
      rw[nc (fun hall=>hni (hall h (m9 hh)))] at he;have q1:(dy h (zsE zs)).elim nilSet vcE=nilSet:=by rw[hgk];rfl
      have q2:(dy h (zsE zs)).isSome=false:=by rw[hgk];rfl
      refine(Zf∘Zap∘ZN∘Zaf∘Zbn∘Za9∘Zc∘ZaW∘Za∘Zaa∘Zfh∘Za) ?_;refine y9 (l6 (q:=903) (vc:=vcE) h mpS kyS zrS Z Z Z Z Z q1 q2) ((Zcp∘Zc∘Zbb∘Za∘Zw∘Zr∘Zbu∘ZA) ?_);exact Kl L (rs:=[.tmp 6,.tmp 7]) Z (fun _ _ h=>h) nq (fun _=>rfl) (fun H u _=>.inr ⟨by omega,by rw[<-he];rfl,fun _ h=>h⟩)
     | some y=>
      have hir:h∈rs:=by rw[<-hfs,<-po,hgk];rfl
      obtain⟨z,hz1,hz2⟩:=m7.1 (r8 hgk);obtain⟨k0,t0,f1,p1,f2,p2⟩:=z;cases hz2;have q1:(dy k0 (zsE zs)).elim nilSet vcE=.agg #[f1,.pointer p1,f2,.pointer p2]:=by rw[hgk];rfl
      have q2:(dy k0 (zsE zs)).isSome=true:=by rw[hgk];rfl
      have hpl:=(hb.mem_plain (t0,f1,p1,f2,p2) (by rw[hbs];exact zph (f:=(·.2)) hz1))
      refine(Zf∘Zap∘ZN∘Zaf∘Zbn∘Za9∘Zc∘ZaW∘Za∘Zaa∘Zfh∘Za) ?_;refine y9 (l6 (q:=903) (vc:=vcE) k0 mpS kyS zrS Z Z Z Z Z q1 q2) ((ZH∘ZC∘ZcO∘Zc∘Zbb∘Za∘Zw∘Zcn∘ZaK∘ZF∘ZcZ) ?_)
      exact yv (x:=j) (j+1) ⟨hlt2,fun a ha=>by
       rw[cp hh,mt,mz] at ha;rcases ha with ha | rfl
       ·exact hin a ha
       ·exact hir⟩ I ⟨Z,Z,Z,Z,Z,Z,nm⟩
    ·obtain rfl:j=(jl L0).length:=by omega
     rw[znq] at hin;rw[na hin] at he;obtain⟨hm,hl,hP⟩:=hS he.symm;subst hP;refine(Zf∘Zap∘ZbB∘Zb0∘Za∘ZA) ?_;subst he;rw[show bj rs rs.length=(S.R.length:Int) by rw[hl,lr]];refine vk 902 903 rfl Z (xm _) ?_
     refine Kj 902 (StG b2 S).res Z (Vu (B:=B) (s:=.slice ps (ko S.P).length pc) (m:=m2) hm (fun e he=>by
      obtain⟨z,hz1,rfl⟩:=m7.1 he;exact hb z.2 (by rw[hbs];exact zph (f:=(·.2)) hz1)) hv) ?_
     exact P3 L 902 (r0:=StG b2 S) (rs:=[.tmp 6,.tmp 7]) Z (fun _ _ h=>h) nq Z (fun _=>rfl) (fun H u C _ _ h=>.inl ⟨rfl,b2,rfl,h⟩)
end Go.V.L10
namespace Go.V.L11
open Go.V.L2 Go.V.L3 Go.V.L4 Go.V.L6 Go.V.L8 Go.V.L10
abbrev ziq:TypeId:=112
abbrev Sl3:=Option Addr×Nat×Nat
abbrev sl3(x:Sl3):Value:=.slice x.1 x.2.1 x.2.2
abbrev pnC(P:List Int)(x:Sl3):List Value:=[sl3 x,.int .i64 P.length]
abbrev pnQ(P:List Int)(x:Sl3)(H:Heap):Prop:=PsV (ko P) (sl3 x) H
def G0(P:List Int):az (pnQ P):=fun _ _ _ h hle=>h.le hle
abbrev PnS(P:List Int):Value->Heap->Prop:=fun v H=>∃ x:Sl3,v=.agg #[sl3 x,.int .i64 P.length]/\pnQ P x H
def PnS.mono:Kn.mono (.sat (PnS P)):=fun _ _ _ ⟨x,h1,h2⟩ hle=>⟨x,h1,h2.le hle⟩
def zja(v:Value)(H:Heap)(h:PnS P v H):∃ x:Sl3,pnQ P x H/\k9 v=pnC P x:=by
 obtain⟨x,rfl,h2⟩:=h;exact⟨x,h2,rfl⟩
abbrev PnE(P:List Int):Value->Heap->Prop:=TupS [PnS P,fun v _=>v=.int .i64 0]
def PnE.mono{P:List Int}:Kn.mono (.sat (PnE P)):=TupS.mono fun φ hφ=>by
 simp only[nz,zou,or_false] at hφ;rcases hφ with rfl | rfl
 ·exact PnS.mono
 ·exact fun _ _ _ h _=>h
def ziy{a b:Value}{H:Heap}(h1:φ1 a H)(h2:φ2 b H):TupS [φ1,φ2] (.tuple #[a,b]) H:=⟨[a,b],rfl,rfl,fun i φ x hi hx=>by
 match i with
 | 0=>cases hi;cases hx;exact h1
 | 1=>cases hi;cases hx;exact h2
 | i+2=>cases hi⟩
attribute [local irreducible] XP LV Pan ay
def Yj(hr:r≠0)(hn:n<=4096)(hnew:r∉L0)(hz2:(ko L0).length<1024)(hz:L0.length<=1000000000000){x:Sl3}(hB:zry B w)(hv:pnQ L0 x B):
  Ret zrz 77 [.agg #[sl3 x,.int .i64 L0.length],.int .u64 r,.int .i64 n] w B (PnE (L0++List.replicate n r)):=by
 by_cases h0:n=0
 ·subst h0;have h:=Yl (t:=(L0.length:Int)) hr (p:=x.1) (k:=x.2.1) (c:=x.2.2) hB;refine h.mono fun v H hle e=>?_;subst e;rw[show L0++List.replicate 0 r=L0 from mp _];exact ziy ⟨x,rfl,hv.le hle⟩ Z
 ·have h:=Yk hr (Nat.pos_of_ne_zero h0) hn hnew hz2 hz hB hv;refine h.mono fun v H hle hp=>?_;obtain⟨s,rfl,hs⟩:=hp;obtain⟨p,c,rfl⟩:=jx hs;exact ziy ⟨(p,_,c),rfl,hs⟩ Z
end Go.V.L11
end
namespace Go.V.L11
open Go.V.L2 Go.V.L3 Go.V.L4 Go.V.L6 Go.V.L8 Go.V.L10
structure LdZ(zs:List (Int×List U))(P:List Int)(last:Int):Prop where
 asc:zbj (zs.map (·.1))
 mx:∀ a∈0::zs.map (·.1),a<=last
 lst:bj (zs.map (·.1)) zs.length=last
 pk:∀ r∈P,r∈zs.map (·.1)
 tl:∀ z∈zs,z.2.length<=4096
def LdZ.snoc{last x:Int}(h:LdZ zs P last)(hx:last<x){s:List U}(hs:s.length<=4096)(n:Nat):LdZ (zs++[(x,s)]) (P++List.replicate n x) x:=by
 have hm:(zs++[(x,s)]).map (·.1)=zs.map (·.1)++[x]:=by rw[znp];rfl
 refine⟨?_,?_,?_,?_,?_⟩
 ·rw[hm];unfold zbj;rw[<-znt,zoa];refine⟨h.asc,zop _ _,fun a ha b hb=>?_⟩;rw[mz.1 hb];have:=h.mx a ha;omega
 ·intro a ha;rw[hm,<-znt,mt,mz] at ha;rcases ha with ha | rfl
  ·have:=h.mx a ha;omega
  ·omega
 ·rw[hm,nr,zn1];exact bi (by rw[zq2 (by rw[mj];omega),mj,zoq];rfl)
 ·intro r hr;rw[hm,mt];rcases mt.1 hr with h1 | h1
  ·exact .inl (h.pk r h1)
  ·exact .inr (by rw[zrc] at h1;rw[h1.2];exact mz.2 Z)
 ·intro z hz;rcases mt.1 hz with h1 | h1
  ·exact h.tl z h1
  ·rw[mz.1 h1];exact hs
def loR(zs:List (Int×List U)):List (Option (List U)):=(List.range (bj (zs.map (·.1)) zs.length).toNat).map fun i=>dy ((i+1:Nat):Int) zs
abbrev loS(y:List (Int×List U)×List Int):Sto:=⟨loR y.1,y.2⟩
def LdZ.kpt{zs:List (Int×List U)}{P:List Int}{last:Int}(h:LdZ zs P last)(r:Int):kpt (loR zs) r=dy r zs:=by
 by_cases hr:0<r/\r<=last
 ·obtain⟨j,rfl⟩:∃ j:Nat,r=((j+1:Nat):Int):=⟨(r-1).toNat,by omega⟩
  rw[Du];unfold loR;rw[h.lst,zn4,List.getElem?_range I];show(some (dy ((j+1:Nat):Int) zs)).join=_;cases dy ((j+1:Nat):Int) zs<;>rfl
 ·have h1:dy r zs=none:=by
   cases hg:dy r zs with
   | none=>rfl
   | some t=>
    have hm:=po.1 (show(dy r zs).isSome=true by rw[hg];rfl);exact ni ⟨(mi.1 h.asc).1 r hm,h.mx r (me _ hm)⟩ hr
  rw[h1]
  cases hk:L10.kpt (loR zs) r with
  | none=>rfl
  | some t=>
   have h2:=i8 (R:=loR zs) (r:=r) (by rw[hk];rfl);unfold loR at h2;rw[mj,zqk,h.lst] at h2;omega
def LdZ.len{last:Nat}(h:LdZ zs P last):(loR zs).length=last:=by
 unfold loR;rw[mj,zqk,h.lst,znu]
def LdZ.mkE{zs:List (Int×List U)}{P:List Int}{last:Int}(h:LdZ zs P last)(h0:0<zs.length)(h1:zs.length<=1024):mkE (zs.map (·.1)) P=0:=by
 unfold L10.mkE;rw[mj,nc I,nc I,na h.asc,na fun r hr=>h.pk r (vt.1 hr)]
def Q1{r:Int}:∀ {zs:List (Int×List U)} {bs:List SB},bs.map Prod.fst=zs.map Prod.snd->(dy r (zsE ((zs.map (·.1)).zip bs))).map Prod.fst=dy r zs
 | [],bs,h=>by rw[znv,List.zip_nil_left];rfl
 | z::zs,[],h=>by cases h
 | z::zs,b::bs,h=>by
  rw[mq,mq] at h;obtain⟨h1,h2⟩:=List.cons.inj h;rw[mq,List.zip_cons_cons];unfold zsE;rw[mq,uq,uq];by_cases e:r=z.1
  ·rw[na e,na e,<-h1];rfl
  ·rw[nc e,nc e];exact Q1 h2
def F9:∀ {zs:List (Int×List U)} {bs:List SB},bs.map Prod.fst=zs.map Prod.snd->((zs.map (·.1)).zip bs).map (·.1)=zs.map (·.1)/\((zs.map (·.1)).zip bs).map (·.2)=bs/\((zs.map (·.1)).zip bs).length=zs.length
 | [],[],_=>⟨rfl,rfl,rfl⟩
 | [],b::bs,h=>by cases h
 | z::zs,[],h=>by cases h
 | z::zs,b::bs,h=>by
  rw[mq,mq] at h;obtain⟨_,h2⟩:=List.cons.inj h;have ih:=F9 h2;rw[mq,List.zip_cons_cons,mq,mq,ma,ih.1,ih.2.1,ih.2.2];exact⟨rfl,rfl,rfl⟩
def LdZ.mapOK{last:Int}(h:LdZ zs P last){bs:List SB}(hb:bs.map Prod.fst=zs.map Prod.snd):MapOK (zsE ((zs.map (·.1)).zip bs)) (loR zs):=
 ⟨by
  have h1:(zsE ((zs.map (·.1)).zip bs)).map Prod.fst=zs.map (·.1):=by unfold zsE;rw[List.map_map];exact(F9 hb).1
  rw[h1];exact(mi.1 h.asc).2.imp fun hlt e=>by omega,fun r=>by rw[Q1 hb,h.kpt]⟩
structure LdJ(bs:List Nat)(N:Nat)(Y:((List (Int×List U)×List Int)×Rd)×(Int×Int))(i last:Nat)(s:List U)(zs:List (Int×List U))(P:List Int)(R:Rd):Prop where
 hi:i<=N
 hW:ldW bs (N-i) last s zs P R=Y
 h0:R.err=0
 at_:R.at_<=bs.length
 zl:zs.length=i
 sl:s.length<=4096
 lastB:last<=18446744073709551615
 pn:∀ r∈P,r<=(last:Int)
 pl:P.length<=i*4096
 ph:(ko P).length<=i
 z:LdZ zs P (last:Int)
def LdJ.new{N:Nat}{Y:((List (Int×List U)×List Int)×Rd)×(Int×Int)}{last:Nat}{s:List U}(h:LdJ bs N Y i last s zs P R){st:Nat}(hs:0<st):((last+st:Nat):Int)∉P:=fun hm=>by
 have:=h.pn _ hm;omega
def LdJ.next{N:Nat}{Y:((List (Int×List U)×List Int)×Rd)×(Int×Int)}{last:Nat}{s:List U}(h:LdJ bs N Y i last s zs P R)(hi:i<N){st m:Nat}(g2:0<st/\st<=18446744073709551615-last)(hn:n<=4096){s':List U}{R4:Rd}(hs':s'.length<=4096)(h4:R4.err=0)(a4:R4.at_<=bs.length)
  (hm:N-i=m+1) (hW:ldW bs m (last+st) s' (zs++[(((last+st:Nat):Int),s')]) (P++List.replicate n ((last+st:Nat):Int)) R4=Y):
  LdJ bs N Y (i+1) (last+st) s' (zs++[(((last+st:Nat):Int),s')]) (P++List.replicate n ((last+st:Nat):Int)) R4:=by
 have hb:=h.lastB;have hnew:=h.new g2.1;refine⟨hi,by rw[show N-(i+1)=m by omega];exact hW,h4,a4,by rw[nr,h.zl];rfl,hs',by omega,fun r hr=>?_,?_,?_,h.z.snoc I hs' n⟩
 ·rcases mt.1 hr with h1 | h1
  ·have:=h.pn r h1;omega
  ·rw[zrc] at h1;rw[h1.2];exact zo8 _
 ·have:=h.pl;rw[nr,zro];omega
 ·have hph:=h.ph;by_cases h0:n=0
  ·subst h0;rw[show P++List.replicate 0 ((last+st:Nat):Int)=P from mp _];omega
  ·rw[Da (Nat.pos_of_ne_zero h0) hnew,Dv (ze4 _)];omega
abbrev sbQ(zs:List (Int×List U))(x:List SB)(H:Heap):Prop:=x.map Prod.fst=zs.map Prod.snd/\SbOK x H
def Gw(zs:List (Int×List U)):az (sbQ zs):=fun _ _ _ h hle=>⟨h.1,h.2.le hle⟩
def zcl{x:List SB}{H:Heap}{s:List U}{f1 k1:Value}{p1 q1:Option Addr}(h:sbQ zs x H)(hs:SetV s (.agg #[f1,.pointer p1,k1,.pointer q1]) H):sbQ (zs++[(r,s)]) (x++[(s,(f1,p1,k1,q1))]) H:=by
 refine⟨by rw[znp,znp,h.1];rfl,fun b hb=>?_⟩;rcases mt.1 hb with h1 | h1
 ·exact h.2 b h1
 ·rw[mz] at h1;subst h1;exact hs
def _root_.Zfi(t:Wr Y->A:=by intro h;refine y9 (qk L (q:=921) Z Z Z Z) ?_;exact h.1)(h:Y):A:=t ⟨h⟩
def LdR(y:(List (Int×List U)×List Int)×(Int×Int)):Res where
 P v H u C:=(y.2.2=0/\∃ b,v=.tuple #[A5 b,.int .i64 0,.int .i64 0]/\(StG b (loS y.1)).P H u C)\/(y.2.2≠0/\v=.tuple #[.pointer none,.int .i64 y.2.1,.int .i64 y.2.2]/\∀ k,¬ C k)
 st:=fun h a b c d=>h.imp (fun⟨h1,x,h2,h3⟩=>⟨h1,x,h2,(StG x (loS y.1)).st h3 a b c d⟩) id
def zj0{f:FuncId}{y:(List (Int×List U)×List Int)×(Int×Int)}(he:y.2.2=0)(h:RetO zrz f args w B (LdR y)):RetO zrz f args w B (Ko (fun b=>.tuple #[A5 b,.int .i64 0,.int .i64 0]) fun b=>StG b (loS y.1)):=
 RetL.mono h fun _ _ _ _ ⟨C,h1,h2⟩=>⟨C,h1.elim (fun⟨_,b,hb,hs⟩=>⟨b,hb,hs⟩) fun h=>ni he h.1,h2⟩
def Yz{f:FuncId}{y:(List (Int×List U)×List Int)×(Int×Int)}(he:y.2.2≠0)(h:RetO zrz f args w B (LdR y)):Ret zrz f args w B fun v _=>v=.tuple #[.pointer none,.int .i64 y.2.1,.int .i64 y.2.2]:=
 RetL.mono h fun _ _ _ _ ⟨_,h1,_⟩=>h1.elim (fun h=>ni h.1 he) fun h=>h.2.1
def zfy{t:Nat}{s:List U}(h:κ t=some (.own (SlR N3 1 ((zs.map (·.1)).length+1) ((zs.map (·.1)).map (Value.int .u64)++[.int .u64 r])))):κ t=some (.own (SlR N3 1 ((zs++[(r,s)]).map (·.1)).length (((zs++[(r,s)]).map (·.1)).map (Value.int .u64)))):=by
 rw[h,znp,znp,nr];rfl
def zgj{t:Nat}{y:List SB}{s:List U}{f1 k1:Value}{p1 q1:Option Addr}(h:κ t=some (.own (SlR tySt 4 (y.length+1) (y.flatMap sbc++[f1,.pointer p1,k1,.pointer q1])))):κ t=some (.own ((fun y:List SB=>SlR tySt 4 y.length (y.flatMap sbc)) (y++[(s,(f1,p1,k1,q1))]))):=by
 rw[h];dsimp only;rw[znw,nr];rfl
attribute [local irreducible] V N X VO Par XP LV StepOK Has Ret RetL RetO RetT ky RetX RetY Pan ay Src
def pq{B0:Heap}{ba be bs:Nat}{x y z:Value}{a:Int}{z0:List (Int×List U)×List Int}(he:e≠0)(hs:Since (FLd w ba be bs) B0 B):
  XP (FLd w ba be bs) B n O (ofL (KLd ba be bs x y z)) (wrV a e) (bodyPostM Fence.wide 0 zrz Tryz.f26 (lh w B0 noL (zia w (LdR (z0,(a,e)))))):=
 Yt he hs fun _ _ ⟨v,h1,H,h2,h3⟩=>⟨v,h1,H,h2,fun _=>False,.inr ⟨he,h3,fun _ h=>h⟩,fun _ h=>h.elim⟩
def Hk{bs:List Nat}(hb:∀ b∈bs,b<=255)(hz:bs.length<=1099511627776)(hB:zry B w)(hv:BsV bs fu v B):
  RetO zrz 26 [v] w B (LdR (ldF bs)):=by
 obtain⟨p0,c0,rfl⟩:=jx hv;obtain⟨Y0,hY0⟩:∃ Y0,ldF bs=Y0:=⟨_,rfl⟩
 rw[hY0];refine wj Tryz.func26 Z Tryz.ntmps26 (np Z) hB ((ZQ∘ZC∘ZC∘Zg) ?_);refine ku 2 910 rfl fun bs0=>?_;refine ku 3 911 rfl fun ba=>?_;refine ku 4 912 rfl fun be=>?_;refine zbe (id:=1) 1 rfl ((ZaQ∘Zac) ?_);(refine zg9 (K:=1) Z Z Z Z ?_;refine zm ?_);refine Zcl (h:=?_);refine Zq (h:=?_);refine z7 (uk L Z Z (zp Z) Z Z Z (fun u H hH hle _=>zjo hz hH (hv.le hle))) Z ?_;refine oy 15 922 rfl fun rb=>?_;refine zfu (X:=Value) 922 (r:=fun sv=>(GRd rb sv ⟨0,0,0⟩).res) (φ:=fun sv H=>BsV bs false sv H) (hφ:=fun _ _ _ h hle=>h.le hle) Z fun sv H1 hs1 hsv=>?_;refine z7 (yz (cs:=[_,_]) Z Z zl1 Z Z) Z (ZdI (h:=?_));refine qh (yt (.inr Z) Z) (Zg (h:=?_));refine ku 5 921 rfl fun sb=>?_;refine vk 921 922 rfl Z (xm (GRd rb sv ⟨0,0,0⟩)) ?_;obtain⟨z,R1,hz1⟩:∃ z R1,jy bs 1024 ⟨0,0,0⟩=(z,R1):=⟨_,_,rfl⟩
 have ha1:=dt (bs:=bs) (lim:=1024) (R:=⟨0,0,0⟩) (mf _);have hlv:=fun h=>ip (bs:=bs) (lim:=1024) (R:=⟨0,0,0⟩) T h;unfold ldF at hY0;rw[hz1] at ha1 hlv hY0;dsimp only at ha1 hlv hY0;by_cases h1:R1.err≠0
 ·rw[na h1] at hY0;subst hY0;refine jw (id:=3) 1 rfl (ZcZ (h:=?_));refine ju (r:=(ke sb rb sv 0 ⟨0,0,0⟩).res) (K:=1) L 921 rfl Z Z Z Z (fun u H C hH hle hr hC=>by have h:=Gr (lim:=1024) (R:=⟨0,0,0⟩) hb hz (mf _) I (by rw[hz1];exact h1) hH (hsv.le hle) hr hC;rw[hz1] at h;exact h) (fun _ _ _ _ h=>h) ?_
  repeat (first | refine wl ?_ | refine jo ?_)
  exact a8 (KLd ba be bs0 _ _ _) ⟨Z,Z,Z,Z,Z,Z,nm⟩ (pq h1 hs1)
 ·rw[nc h1] at hY0;have h10:R1.err=0:=mh.1 h1;obtain⟨n,rfl,hn⟩:=hlv h10;by_cases hn0:n=0
  ·subst hn0;rw[na (show((0:Nat):Int)=0 from rfl)] at hY0;subst hY0;refine Zx (h:=?_);refine qh (yi L 921 (ke sb rb sv 0 R1) (.int .i64 ((0:Nat):Int)) (r:=ke sb rb sv 0 ⟨0,0,0⟩) Z Z Z Z Z (fun u H C hH hle hr hC=>by have h:=size_ret (lim:=1024) hb hz (mf _) I (by rw[hz1];exact h10) hH (hsv.le hle) hr hC;rw[hz1] at h;exact h)) ?_;refine Zc (h:=?_);refine jw (id:=4) 3 rfl ((Zb∘Zan∘Zac) ?_);refine ju (r:=(ke sb rb sv 0 R1).res) (K:=3) L 921 rfl Z Z Z Z (fun u H C hH hle hr hC=>pf hH hr hC) (fun _ _ _ _ h=>h) ?_
   repeat (first | refine wl ?_ | refine jo ?_)
   exact a8 (KLd ba be bs0 _ _ _) ⟨Z,Z,Z,Z,Z,Z,nm⟩ (pq T hs1)
  ·rw[nc I,znu] at hY0;refine Zx (h:=?_);refine qh (yi L 921 (ke sb rb sv 0 R1) (.int .i64 n) (r:=ke sb rb sv 0 ⟨0,0,0⟩) Z Z Z Z Z (fun u H C hH hle hr hC=>by have h:=size_ret (lim:=1024) hb hz (mf _) I (by rw[hz1];exact h10) hH (hsv.le hle) hr hC;rw[hz1] at h;exact h)) ?_;refine(Zc∘Zs∘Zb∘ZJ) ?_;refine qh (xc L 921 (ke sb rb sv 0 R1) (r:=ke sb rb sv 0 R1) Z Z Z Z Z (fun u H C hH _ hr hC=>kr hH hr hC)) ((Zg∘ZT∘Zc∘ZD∘Zc∘ZU∘ZC∘Zg∘Z7∘Zd1∘ZC∘Zh∘ZaF∘Zam∘ZE∘Zb∘Zdg) ?_);refine g7 7 N3 1 rfl (g7 8 tySt 4 rfl (bq (X:=List SB) 8 (r:=fun x=>SlR tySt 4 x.length (x.flatMap sbc)) (φ:=sbQ []) (Gw []) [] ⟨rfl,fun _ h=>by cases h⟩ Z ?_));refine bq (X:=Sl3) 9 (r:=fun x=>gm (pnC [] x) ziq) (φ:=pnQ []) (G0 []) (none,0,0) SlV.nil Z (bq (X:=SXp) 11 (r:=fun x=>gm (scs x.1) tySt) (φ:=Gp []) (jp []) ⟨(.nilFunc,none,.nilFunc,none),rfl⟩ SetV.nil Z ?_);obtain⟨Y,hY⟩:∃ Y,ldW bs n 0 [] [] [] R1=Y:=⟨_,rfl⟩
   rw[hY] at hY0;have hj0:LdJ bs n Y 0 0 [] [] [] R1:=⟨mf _,hY,h10,ha1,rfl,mf _,by decide,(fun _ h=>by cases h),mf _,mf _,⟨zop _ _,fun a ha=>by rw[znv,mz] at ha;subst ha;exact zo8 _,rfl,(fun _ h=>by cases h),(fun _ h=>by cases h)⟩⟩
   refine xq (fun x:Nat×Nat×List U×List (Int×List U)×List Int×Rd×Nat=>[(2,.is (kg bs0)),(3,.is (kg ba)),(4,.is (kg be)),(910,.own (xn bs0 [.pointer none] tyPS)),(911,.own (xn ba [.int .i64 0] zbv)),(912,.own (xn be [.int .i64 0] Nq)),(5,.is (kg sb)),
    (7,.own (SlR N3 1 (x.2.2.2.1.map (·.1)).length ((x.2.2.2.1.map (·.1)).map (Value.int .u64)))),(8,.own (ExR (fun y:List SB=>SlR tySt 4 y.length (y.flatMap sbc)) (sbQ x.2.2.2.1) (Gw _))),(9,.own (ExR (fun y:Sl3=>gm (pnC x.2.2.2.2.1 y) ziq) (pnQ x.2.2.2.2.1) (G0 _))),(10,.is (.int .u64 x.2.1)),(11,.own (ExR (fun y:SXp=>gm (scs y.1) tySt) (Gp x.2.2.1) (jp _))),(25,.is (.int .i64 n)),(26,.is (.int .i64 x.1)),(921,.own (ke sb rb sv x.2.2.2.2.2.2 x.2.2.2.2.2.1).res)])
    (fun x=>LdJ bs n Y x.1 x.2.1 x.2.2.1 x.2.2.2.1 x.2.2.2.2.1 x.2.2.2.2.2.1) (fun x=>n-x.1) (0,0,[],[],[],R1,0) hj0 ⟨rfl,rfl,rfl,rfl,rfl,rfl,rfl,rfl,rfl,rfl,rfl,rfl,rfl,rfl,rfl,nm⟩ ?_
   rintro⟨i,last,s,zs,P,R,fr⟩ hj;dsimp only at hj |-;have hRa:=hj.at_;by_cases hlt:i<n
   ·obtain⟨m,hm⟩:∃ m,n-i=m+1:=⟨n-i-1,by omega⟩
    have hW:=hj.hW;rw[hm] at hW;unfold ldW at hW;have ha2:(p9 bs R).2.at_<=bs.length:=de hRa (Dm hRa);have hlB:=hj.lastB;have hsl:=hj.sl;obtain⟨st,R2,hz2⟩:∃ st R2,p9 bs R=(st,R2):=⟨_,_,rfl⟩
    rw[hz2] at hW ha2;dsimp only at hW ha2;refine v8 (r1:=xn sb [kg rb,.int .i64 fr] Qe) (r2:=(GRd rb sv R).res) 921 922 rfl (xm _) ?_;by_cases h2:R2.err≠0
    ·rw[na h2] at hW;subst hW;rw[na (by exact h2)] at hY0;subst hY0;refine(Zf∘Zbf∘ZN) ?_;refine jw (id:=11) 6 rfl ((Zb∘Zaa∘Zfi) ?_);refine jz 921 922 rfl Z (xm (GRd rb sv R)) ?_;refine(ZaQ∘Zac) ?_;refine ju (r:=(ke sb rb sv fr R).res) (K:=6) L 921 rfl Z Z Z Z (fun u H C hH hle hr hC=>Oj (x:=st) (fst:=[kg rb]) (cap:=[]) Z h2 hH hr hC (fun u3 H3 C3 hH3 hle3 hr3 hC3=>by have h:=Qm hb hz hRa hH3 ((hsv.le hle).le hle3) hr3 hC3;rw[hz2] at h;exact h)) (fun _ _ _ _ h=>h) ?_
     repeat (first | refine wl ?_ | refine jo ?_)
     exact a8 (KLd ba be bs0 _ _ _) ⟨Z,Z,Z,Z,Z,Z,nm⟩ (pq h2 hs1)
    ·rw[nc h2] at hW;have h20:R2.err=0:=mh.1 h2;have hws:IntKind.u64.wrap (18446744073709551615-(last:Int))=((18446744073709551615-last:Nat):Int):=(wrap_u64 I I).trans I;by_cases h3:¬ (0<st/\st<=18446744073709551615-last)
     ·rw[na h3] at hW;subst hW;rw[na (show(5:Int)≠0 by decide)] at hY0;subst hY0;by_cases hst0:st=0
      ·have hst1:((st:Nat):Int)=0:=I;refine(Zf∘Zbf∘ZN∘ZG∘Zb∘Zaa∘Zfi) ?_;refine jz 921 922 rfl Z (xm (GRd rb sv R)) ?_;refine ZaQ (h:=?_);refine qh (yi L 921 (ke sb rb sv R.at_ R2) (.int .u64 st) (r:=ke sb rb sv fr R) Z Z Z Z Z (fun u H C hH hle hr hC=>oh (fst:=[kg rb]) (cap:=[]) Z h20 hH hr hC (fun u3 H3 C3 hH3 hle3 hr3 hC3=>by have h:=Qm hb hz hRa hH3 ((hsv.le hle).le hle3) hr3 hC3;rw[hz2] at h;exact h))) ?_;refine Zc (h:=?_);refine jw (id:=12) 9 rfl ((Zb∘Zan∘Zcr∘Zi∘Zac) ?_);refine ju (r:=(ke sb rb sv R.at_ R2).res) (K:=9) L 921 rfl Z Z Z Z (fun u H C hH hle hr hC=>pf hH hr hC) (fun _ _ _ _ h=>h) ?_
       repeat (first | refine wl ?_ | refine jo ?_)
       exact a8 (KLd ba be bs0 _ _ _) ⟨Z,Z,Z,Z,Z,Z,nm⟩ (pq T hs1)
      ·have hst1:0<st/\18446744073709551615-last<st:=I;refine(Zf∘Zbf∘ZN∘ZG∘Zb∘Zaa∘Zfi) ?_;refine jz 921 922 rfl Z (xm (GRd rb sv R)) ?_;refine ZaQ (h:=?_);refine qh (yi L 921 (ke sb rb sv R.at_ R2) (.int .u64 st) (r:=ke sb rb sv fr R) Z Z Z Z Z (fun u H C hH hle hr hC=>oh (fst:=[kg rb]) (cap:=[]) Z h20 hH hr hC (fun u3 H3 C3 hH3 hle3 hr3 hC3=>by have h:=Qm hb hz hRa hH3 ((hsv.le hle).le hle3) hr3 hC3;rw[hz2] at h;exact h))) ?_;refine Zc (h:=?_);refine jw (id:=12) 9 rfl ((Zb∘ZJ∘Zu∘Zat∘ZcG∘Zi∘Zac) ?_);refine ju (r:=(ke sb rb sv R.at_ R2).res) (K:=9) L 921 rfl Z Z Z Z (fun u H C hH hle hr hC=>pf hH hr hC) (fun _ _ _ _ h=>h) ?_
       repeat (first | refine wl ?_ | refine jo ?_)
       exact a8 (KLd ba be bs0 _ _ _) ⟨Z,Z,Z,Z,Z,Z,nm⟩ (pq T hs1)
     ·rw[nc h3] at hW;have h30:=mh.1 h3;have hwa:IntKind.u64.wrap ((last:Int)+(st:Int))=((last+st:Nat):Int):=(wrap_u64 I I).trans I;have ha3:=dt (bs:=bs) (lim:=4096) ha2;have hlv2:=fun h=>ip (bs:=bs) (lim:=4096) (R:=R2) T h;obtain⟨zq,R3,hz3⟩:∃ zq R3,jy bs 4096 R2=(zq,R3):=⟨_,_,rfl⟩
      rw[hz3] at hW ha3 hlv2;dsimp only at hW ha3 hlv2;refine(Zf∘Zbf∘ZN∘ZG∘Zb∘Zaa∘Zfi) ?_;refine jz 921 922 rfl Z (xm (GRd rb sv R)) ?_;refine ZaQ (h:=?_);refine qh (yi L 921 (ke sb rb sv R.at_ R2) (.int .u64 st) (r:=ke sb rb sv fr R) Z Z Z Z Z (fun u H C hH hle hr hC=>oh (fst:=[kg rb]) (cap:=[]) Z h20 hH hr hC (fun u3 H3 C3 hH3 hle3 hr3 hC3=>by have h:=Qm hb hz hRa hH3 ((hsv.le hle).le hle3) hr3 hC3;rw[hz2] at h;exact h))) ?_;refine(Zc∘ZW∘Zb∘ZJ∘Zu∘Zat∘ZcL∘Zi) ?_;refine qh (xc L 921 (ke sb rb sv R.at_ R2) (r:=ke sb rb sv R.at_ R2) Z Z Z Z Z (fun u H C hH _ hr hC=>kr hH hr hC)) ((Zg∘ZO∘Zb∘ZF∘Zc) ?_);refine uu 9 rfl fun x9 H2 hs2 hp9=>?_;obtain⟨pp,pk,pc⟩:=x9;dsimp only at hp9 |-;have hs12:=hs1.trans hs2;have hsv2:=hsv.le hs2.le;by_cases h4:R3.err≠0
      ·rw[na h4] at hW;subst hW;rw[na (by exact h4)] at hY0;subst hY0;refine F7 (id:=14) 3 [(52,[921]),(200052,[2,3,4,910,911,912])] kj Z J (j9 (qg L (vs:=[_,_]) (qy Z) Z Z Z Z ⟨_,rfl⟩) Z (Ze2 (h:=?_)));refine Ze2 (h:=?_);refine rq [(2,.is (kg bs0)),(3,.is (kg ba)),(4,.is (kg be)),(910,.own (xn bs0 [.pointer none] tyPS)),(911,.own (xn ba [.int .i64 0] zbv)),(912,.own (xn be [.int .i64 0] Nq)),(51,.is (kg sb)),(921,.own (ke sb rb sv R.at_ R2).res)] J ⟨Z,Z,Z,Z,Z,Z,Z,Z,nm⟩ (ju (r:=(ke sb rb sv R.at_ R2).res) (K:=3) L 921 rfl Z Z Z Z (fun u H C hH hle hr hC=>by have h:=Gr (lim:=4096) hb hz ha2 I (by rw[hz3];exact h4) hH (hsv2.le hle) hr hC;rw[hz3] at h;exact h) (fun _ _ _ _ h=>h) ?_)
       repeat (first | refine wl ?_ | refine jo ?_)
       exact a8 (KLd ba be bs0 _ _ _) ⟨Z,Z,Z,Z,Z,Z,nm⟩ (pq h4 hs12)
      ·rw[nc h4] at hW;have h40:R3.err=0:=mh.1 h4;obtain⟨k,rfl,hk⟩:=hlv2 h40;rw[znu] at hW;have hnew:=hj.new h30.1;have hph:=hj.ph;have hpl0:=hj.pl;have hr0:((last+st:Nat):Int)≠0:=I;have hm1:Kn.mono (.sat (PnS (P++List.replicate k ((last+st:Nat):Int)))):=PnS.mono;have hm2:Kn.mono (.sat (fun v _=>v=Value.int .i64 0)):=fun _ _ _ h _=>h;refine qp (id:=14) [(52,[921])] kj J ((Ze8∘Zt) ?_);refine xx (yi L 921 (ke sb rb sv R2.at_ R3) (.int .i64 k) (r:=ke sb rb sv R.at_ R2) Z Z Z Z Z (fun u H C hH hle hr hC=>by have h:=size_ret (lim:=4096) hb hz ha2 I (by rw[hz3];exact h40) hH (hsv2.le hle) hr hC;rw[hz3] at h;exact h)) Z Z ?_;refine z9 (xl (φ:=PnE (P++List.replicate k ((last+st:Nat):Int))) L Z Z (zp Z) Z Z Z PnE.mono (fun u H hH hle _=>Yj (x:=(pp,pk,pc)) hr0 hk hnew I I hH (SlV.le hp9 hle))) Z ((Zag∘Zfv) ?_);refine z9 (cw L (X:=Sl3) (fun x=>pnC (P++List.replicate k ((last+st:Nat):Int)) x) (pnQ (P++List.replicate k ((last+st:Nat):Int))) (G0 _) zja (fun x=>⟨rfl,rfl⟩) Z Z Z Z Z) Z (Zbh (h:=?_));refine uu 11 rfl fun x11 H3 hs3 hset=>?_;obtain⟨⟨f1,p1,f2,p2⟩,hpl⟩:=x11;dsimp only[scs] at hset hpl |-;have hs13:=hs12.trans hs3;have hsv3:=hsv2.le hs3.le;have ha4:=Kc (l:=s) ha3;have hsl4:=zd3 (bs:=bs) (R:=R3) hsl;have he4:=fun h=>Kb (bs:=bs) (l:=s) (R:=R3) h;have hcr:=fun(h:(au bs s R3).2.2=0) {v:Value} {w:World} {B:Heap} {C:Nat->Prop} (hB:zry B w) (hs:BsV bs false sv B) (hv:SetV s v B) (hr:(ke sb rb sv R2.at_ R3).P B w C) (hC:ZCB C w B)=>Pt hsl hb hz ha3 h hB hs hv hr hC;have hcp:=fun(h:(au bs s R3).2.2≠0) {v:Value} {w:World} {B:Heap} {C:Nat->Prop} (hB:zry B w) (hs:BsV bs false sv B) (hv:SetV s v B) (hr:(ke sb rb sv R2.at_ R3).P B w C) (hC:ZCB C w B)=>Pu hsl hb hz ha3 h hB hs hv hr hC;generalize au bs s R3=zru at hW ha4 hsl4 he4 hcr hcp;obtain⟨⟨s',R4⟩,⟨ca,ce⟩⟩:=zru;dsimp only at hW ha4 hsl4 he4 hcr hcp;by_cases h5:ce≠0
       ·rw[na h5] at hW;subst hW;rw[na (by exact h5)] at hY0;subst hY0;refine jw (id:=15) 2 rfl ((Za∘Zcf∘Zac) ?_);refine ju (r:=(ke sb rb sv R2.at_ R3).res) (K:=2) L 921 rfl Z Z Z Z (fun u H C hH hle hr hC=>hcp h5 hH (hsv3.le hle) (hset.le hle) hr hC) (fun _ _ _ _ h=>h) ?_
        repeat (first | refine wl ?_ | refine jo ?_)
        exact a8 (KLd ba be bs0 _ _ _) ⟨Z,Z,Z,Z,Z,Z,nm⟩ (pq h5 hs13)
       ·rw[nc h5] at hW;have h50:ce=0:=mh.1 h5;have hj2:=hj.next hlt (st:=st) (n:=k) h30 hk hsl4 (he4 h50) ha4 hm hW;refine(Zap∘Za∘Zcf) ?_;refine qh (Dj L 921 (ke sb rb sv R3.at_ R4) (SetV s') (r:=ke sb rb sv R2.at_ R3) Z Z Z Z Z SetV.mono (fun u H C hH hle hr hC=>hcr h50 hH (hsv3.le hle) (hset.le hle) hr hC)) (z7 (cw L (X:=SXp) (fun x=>scs x.1) (Gp s') (jp _) Lq (fun x=>⟨rfl,x.2⟩) Z Z Z Z Z) Z (Zp (h:=?_)));refine uu 11 rfl fun x12 H4 hs4 hset4=>?_;obtain⟨⟨f3,p3,f4,p4⟩,hpl4⟩:=x12;dsimp only[scs] at hset4 hpl4 |-;refine uu 8 rfl fun y8 H5 hs5 hq8=>?_;have hset5:=hset4.le hs5.le;have hzl1:(zs.map (·.1)).length<=1024:=by rw[mj,hj.zl];omega
        have hyl1:y8.length<=1024:=by have h:=nh List.length hq8.1;rw[mj,mj,hj.zl] at h;omega
        refine qp (id:=16) [(59,[7]),(62,[59]),(63,[8]),(66,[63]),(7,[62]),(8,[66])] kj J (xx (yt (.inl Z) Z) Z Z ((Zm∘Zer) ?_));refine xx (vj L Z Z Z (oq Z) Z zke Z Z I I) Z Z (xx (yt (.inl Z) Z) Z Z ((ZcP∘Zer) ?_));refine xx (vj L Z Z Z (oq Z) Z zne Z E I I) Z Z (xx (yt (.inr Z) Z) Z Z (xx (yt (.inr Z) Z) Z Z ((Zco∘Zax∘ZaW∘ZbR) ?_)));refine ic (X:=List SB) 8 (r:=fun x=>SlR tySt 4 x.length (x.flatMap sbc)) (Gw _) (y8++[(s',(f3,p3,f4,p4))]) (zcl (r:=((last+st:Nat):Int)) hq8 hset5) (by exact zgj Z) ?_;exact ic (X:=SXp) 11 (r:=fun x=>gm (scs x.1) tySt) (jp s') ⟨(f3,p3,f4,p4),hpl4⟩ hset5 Z (w5 (x:=(i,last,s,zs,P,R,fr)) (i+1,last+st,s',zs++[(((last+st:Nat):Int),s')],P++List.replicate k ((last+st:Nat):Int),R4,R3.at_) (hs2.trans (hs3.trans (hs4.trans hs5))) hj2 (Nat.sub_lt_sub_left hlt (zqz i)) ⟨Z,Z,Z,Z,Z,Z,Z,zfy Z,Z,Z,Z,Z,Z,Z,Z,nm⟩)
   ·obtain rfl:i=n:=by have:=hj.hi;omega
    have hW:=hj.hW;rw[zoq] at hW;have hW2:(((zs,P),R),((0:Int),(0:Int)))=Y:=hW;subst hW2;rw[nc (fun h=>h rfl)] at hY0;dsimp only at hY0;by_cases h5:(ew bs R).2≠0
    ·rw[na h5] at hY0;subst hY0;refine(Zf∘Zbf∘ZbB) ?_;refine jw (id:=18) 1 rfl (ZcZ (h:=?_));refine ju (r:=(ke sb rb sv fr R).res) (K:=1) L 921 rfl Z Z Z Z (fun u H C hH hle hr hC=>Sy hz hRa h5 hH (hsv.le hle) hr hC) (fun _ _ _ _ h=>h) ?_
     repeat (first | refine wl ?_ | refine jo ?_)
     exact a8 (KLd ba be bs0 _ _ _) ⟨Z,Z,Z,Z,Z,Z,nm⟩ (pq h5 hs1)
    ·rw[nc h5] at hY0;subst hY0;have h50:(ew bs R).2=0:=mh.1 h5;have hZ:=hj.z;have hzl:=hj.zl;have hph:=hj.ph;have hpl0:=hj.pl;have hmk:=hZ.mkE I I;refine uu 8 rfl fun y8 H2 hs2 hq8=>?_;refine uu 9 rfl fun x9 H3 hs3 hp9=>?_;obtain⟨pp,pk,pc⟩:=x9;have hs13:=hs1.trans (hs2.trans hs3);have hsv3:=(hsv.le hs2.le).le hs3.le;have hqs:=hq8.2.le hs3.le;have hzk:=F9 hq8.1;have hmo:=hZ.mapOK hq8.1;refine(Zf∘Zbf∘ZbB∘Zbb∘Za) ?_;refine qh (xc L 921 (ke sb rb sv fr R) (r:=ke sb rb sv fr R) Z Z Z Z Z (fun u H C hH hle hr hC=>Sx hz hRa h50 hH (hsv3.le hle) hr hC)) (Zg (h:=?_));refine fj 7 rfl (fj 8 rfl ((Zbu∘Zk∘Zk∘ZcT) ?_));refine z7 (uk L Z Z (zp Z) Z Z Z (fun u H hH hle _ v1 h1 v2 h2=>by have h:=S3 (zs:=(zs.map (·.1)).zip y8) (L0:=P) (S:=loS (zs,P)) (e:=0) (by rw[hzk.1];exact hmk) (fun _=>⟨hmo,(nh (Nat.cast (R:=Int)) hZ.len).trans (by rw[hzk.1,hzk.2.2];exact hZ.lst.symm),rfl⟩) I I (by rw[hzk.2.2];omega) hH (by rw[hzk.1];exact h1) (by rw[hzk.2.1];exact h2) (by rw[hzk.2.1];exact hqs.le hle) (SlV.le hp9 hle);exact zjv h)) Z ?_;refine oy 74 930 rfl fun b2=>?_;refine ZH (h:=?_);refine xg (yj L (q:=910) (cs':=[A5 b2]) Z Z Z Z Z) (Zg (h:=?_));refine ZaK (h:=?_);refine y9 (qk L (q:=910) Z Z Z Z) (xg (yj L (q:=910) (cs':=[A5 b2]) Z Z Z Z Z) (xg (yj L (q:=911) (cs':=[.int .i64 0]) Z Z Z Z Z) (xg (yj L (q:=912) (cs':=[.int .i64 0]) Z Z Z Z Z) (Zp (h:=?_)))));refine vk 912 910 rfl Z (cc _ _ _) ?_;refine vk 911 912 rfl Z (xm (bw (xe be [.int .i64 0] Nq) (xe bs0 [A5 b2] tyPS))) ?_;refine zku L 911 (r:=G3 ba be bs0 (.int .i64 0) (.int .i64 0) (A5 b2)) (r':=G3 ba be bs0 (.int .i64 0) (.int .i64 0) (if (0:Int)=0 then A5 b2 else .pointer none)) Z Z Z (fun u H C hH _ hr hC=>Mp RecM.idle (fun u H hH=>Pw hH) hH hr hC) ?_ (fun _ _ h=>h);rw[na rfl];refine Hi (r1:=xn ba [.int .i64 0] zbv) (r2:=(bw (xe be [.int .i64 0] Nq) (xe bs0 [A5 b2] tyPS)).res) 911 912 rfl (xm _) ?_;refine Hi (r1:=xn be [.int .i64 0] Nq) (r2:=xn bs0 [A5 b2] tyPS) 912 910 rfl (cc _ _ _) ?_;exact l8 3 911 rfl Z (l8 4 912 rfl Z (l8 2 910 rfl Z (zde L 930 (r0:=StG b2 (loS (zs,P))) (rs:=[.cell 2 tyPS,.cell 3 zbv,.cell 4 Nq]) Z hs13 Z (fun H=>je (qy Z) Z (je (qy Z) Z (je (qy Z) Z Z))) (fun H u C _ _ h=>.inl ⟨rfl,b2,rfl,h⟩))))
end Go.V.L11
namespace Go.V
section
variable {P:Program} {F:Fr}      {d:Nat}    
def Et(L:Tabs P){e:TypeId}{ag:Bool}{s len:Nat}{parts:Array (Nat×Operand)}{z:Value}{vs:List (Nat×Value)}(hn:Nat.blt d n=true)(hg:gK ops κ ⟨some d,.buildSlice t len parts,ty,pos,aft,g⟩=some true)
  (ht:L.sl t=some e) (hl:L.ld e=some (ag,s)) (hz:L.zr e=some z) (hv:evP κ parts.toList=some vs) (hlen:vs.length=len) (hen:zak s 0 vs=true) (hb:Nat.ble (len*s) 16777216=true) (hcl:(sn vs).length=len*s) (hml:len<=maxLen):
  StepOK P F B n ops O κ ⟨some d,.buildSlice t len parts,ty,pos,aft,g⟩ d (.own (SlR e s len (sn vs))):=by
 rintro κ' a u hlk ⟨H,fp,hh⟩;unfold After;rw[na (xk hh hlk hg)];have en:=hh.env hlk
 have hrun:(execOp a.eval ⟨some d,.buildSlice t len parts,ty,pos,aft,g⟩).run P u=.ok (.value (.slice (some ⟨u.heap.size,0,none⟩) len len)) (u.alloc (.cells (sn vs).toArray e)):=by
  have hm:=D9 en parts.toList vs (fun p hp'=>by simp [Op.operands];exact⟨p.1,by simpa using hp'⟩) hv
  have harr:(parts.map fun(p:Nat×Operand)=>(p.1,a.eval p.2))=vs.toArray:=by
   rw[<-hm,<-zny,zo4]
  have hb':=np hb;have hzz:=Tabs.zr_spec hz;unfold zrI at hzz;split at hzz
  ·rename_i it hit;have hzr:(zeroValue e).run P u=.ok z u:=by simp [zeroValue,typeInfo,hit,hzz]
   simp only[execOp,ny];show Result.andThen ((Instr.buildSlice t len (parts.map fun(p:Nat×Operand)=>(p.1,a.eval p.2))).run P u) _=_;rw[harr];simp only[Instr.buildSlice,ny,run_underlying (Tabs.sl_spec ht),mb,ji (Tabs.ld_spec hl)];rw[nc I]
   have hfill:∀ cells:Array Value,cells.size=len*s->Instr.fill (fun i=>some (i*s,s)) cells vs=some (sn vs).toArray:=fun cells hc=>by
    have:=D8 vs 0 cells hen (by rw[hc,hlen];simp);simpa using this
   by_cases h0:len*s=0
   ·simp only[h0,if_true,ny,mg,mb];rw[hfill _ (by simp [h0])];simp [newRow]
   ·simp only[h0,if_false,ny,mg,mb,hzr];rw[hfill _ (by simp)];simp [newRow]
  ·cases hzz
 rw[hrun];simp only[Upon];have hg2:=hh.grow (Grow.hid hh.sub (.cells (sn vs).toArray e));refine⟨H,_,hg2.putR (C:=fun k=>k=u.heap.size) (by simp [Act.put]) Z (fun t ht=>xv ht) ⟨hcl,.inr ⟨u.heap.size,len,[],xy (by rw[hh.size];exact zp hn),by rw[xr,mp],nu _,hml,by rw[mp];exact hcl,fun _=>Iff.rfl⟩⟩ (fun k hk=>?_) fun t r' _ ht k hf hk=>?_⟩
 ·subst hk;exact⟨xi (xr u _),ja hh.sub (nu _),.inl hh.keep.size,fun y hy e=>by have:=xi (hh.boxes y hy).1;omega⟩
 ·have:=((hh.slot t _ ht).2 k hf).1;omega
end
end Go.V
section
open Go.V
attribute [local irreducible] Has N Par Ret RetL Src StepOK V VO X
namespace Go.V.L11
open Go.V.L2 Go.V.L4 Go.V.L6 Go.V.L8 Go.V.Bd
def _root_.Zfj(t:Wr Y->A:=by intro h;refine z7 (Et L Z Z Z Z Z Z Z Z Z Z T) Z ?_;exact h.1)(h:Y):A:=t ⟨h⟩
attribute [local irreducible] XP LV RetO RetT ky RetX RetY Pan ay
def Qq(n:Nat):n<18446744073709551616->∀ {w:World} {B:Heap},zry B w->RetO zrz 22 [.int .u64 n] w B (SlR o3 1 (jg n).length (byV (jg n))):=by
 induction n using Nat.strongRecOn with
 | ind n ih=>
  intro hn w B hB;by_cases h:n<128
  ·rw[ga h];have hcv:IntKind.u8.wrap (n:Int)=(n:Int):=aa I I;refine wj Tryz.func22 Z Tryz.ntmps22 (np Z) hB ((ZbX∘ZI∘Zr∘Zq) ?_);refine z7 (xw Z Z Z A9.1 A9.2 (aa I I)) Z (Zfj (h:=?_));refine qh (yt (.inr Z) Z) (Zp (h:=?_));exact dw Z (fun _ _ h=>h) nq Z
  ·rw[ol h];have hq:(n:Int).tdiv 128=((n/128:Nat):Int):=rfl;have hr:(n:Int).tmod 128=((n%128:Nat):Int):=rfl;have hwq:IntKind.u64.wrap ((n:Int).tdiv 128)=((n/128:Nat):Int):=wrap_u64 I I;have hcv:IntKind.u8.wrap ((n%128:Nat):Int)=((n%128:Nat):Int):=aa I I;have hwa:IntKind.u8.wrap (((n%128:Nat):Int)+128)=((n%128+128:Nat):Int):=aa I I;have h128:(128:Nat)^10=1180591620717411303424:=T;have hnl:=ai 9 (n/128) I;have hlen2:(byV (jg (n/128))).length=(jg (n/128)).length*1:=by rw[mj,zoe]
   have hpl2:=cd (jg (n/128));refine wj Tryz.func22 Z Tryz.ntmps22 (np Z) hB ((ZbX∘Z6∘Zo∘Zx∘ZcI) ?_);refine z7 (xw Z Z Z A9.1 A9.2 (aa I I)) Z ((ZF∘Zfj∘Za∘ZcY) ?_);refine z7 (uk L Z Z (zp Z) Z Z Z (fun u H hH _ _=>ih (n/128) I I hH)) Z (ea 15 rfl (Zd9 (h:=?_)));refine qh (yt (.inr Z) Z) (Zp (h:=?_));have e1:byV ((n%128+128)::jg (n/128))=[Value.int .u8 ((n%128+128:Nat):Int)]++byV (jg (n/128)):=rfl;have e2:((n%128+128)::jg (n/128)).length=1+(jg (n/128)).length:=by rw[ma];omega
   rw[e1,e2];exact dw Z (fun _ _ h=>h) nq Z
def za6(a b:List Nat):byV (a++b)=byV a++byV b:=znp ..
def E6{l:List ByteArray}(h:l[i]?=some s):we (l.take (i+1))=we (l.take i)++(jg s.size++g9 s):=by
 unfold we;rw[zns,h,znw];simp [iy]
def S7{l:List ByteArray}(hs:∀ s∈l,s.size<=1000)(hl:l.length<=100)(hB:zry B w)(hv:SlV 9 1 (l.map Value.string) l.length fu v B):RetO zrz 66 [v] w B (SlR o3 1 (we l).length (byV (we l))):=by
 refine wj Tryz.func66 Z Tryz.ntmps66 (np Z) hB (jf 0 (SlV 9 1 (l.map Value.string) l.length fu) Z nw hv ((Z4∘Zj) ?_));refine g7 3 o3 1 rfl ((ZS∘Za0) ?_);refine xq (fun i:Nat=>[(0,.sat (SlV 9 1 (l.map Value.string) l.length fu)),(3,.own (SlR o3 1 (we (l.take i)).length (byV (we (l.take i))))),(4,.is (.int .i64 i))]) (fun i=>i<=l.length) (fun i=>l.length-i) 0 (mf _) ⟨Z,Z,Z,nm⟩ ?_;rintro i hi;by_cases hlt:i<l.length
 ·obtain⟨s,hg⟩:=xu hlt;have hcr:=ze1 hg;have hss:=hs s (m9 hg);have hcv:IntKind.u64.wrap (s.size:Int)=(s.size:Int):=wrap_u64 I I;have h128:(128:Nat)^10=1180591620717411303424:=T;have hnl:=ai 9 s.size I;have hlen2:(byV (jg s.size)).length=(jg s.size).length*1:=by rw[mj,zoe]
  have hpl2:=cd (jg s.size);have hsl:=cq (l:=l.take i) (fun x hx=>hs x (zqf hx));rw[mw] at hsl;have hz:(we (l.take i)).length+(jg s.size).length+s.size<=140737488355328:=I;refine(Zd∘Zx∘ZbN∘ZaX∘ZT) ?_;refine qh (yt (.inl Z) Z) ((ZaS∘Za9∘ZK) ?_);refine z7 (xw Z Z Z gj.1 gj.2 (wrap_u64 I I)) Z (z7 (uk L Z Z (zp Z) Z Z Z (fun u H hH _ _=>Qq s.size I hH)) Z (ea 18 rfl (Zd9 (h:=?_))));refine qh (yt (.inr Z) Z) ((Zp∘ZD) ?_);refine qh (yt (.inl Z) Z) ((ZaS∘Za9) ?_);refine qh (ej L Z Z Z Z Z J el5 hz) (qh (yt (.inr Z) Z) ((ZaJ∘ZB∘Zay) ?_));have e1:byV (we (l.take (i+1)))=byV (we (l.take i))++byV (jg s.size)++Lib.strCells s:=by rw[E6 hg,<-za6,Py,mo]
  have e2:(we (l.take (i+1))).length=(we (l.take i)).length+(jg s.size).length+s.size:=by rw[E6 hg,nr,nr,vw,zo1]
  exact yv (x:=i) (i+1) hlt I ⟨Z,by rw[e1,e2];rfl,Z,nm⟩
 ·obtain rfl:i=l.length:=by omega
  rw[znq];refine(Zd∘Zx∘Zl∘Zb8∘ZU) ?_;refine qh (yt (.inl Z) Z) (qh (yt (.inr Z) Z) (Zp (h:=?_)));exact dw Z (fun _ _ h=>h) nq Z
def V1{t:U}(ht:∀ s∈u6 t,s.size<=1000)(hB:zry B w):RetO zrz 23 [uv t] w B (SlR o3 1 (ec t).length (byV (ec t))):=by
 refine wj Tryz.func23 Z Tryz.ntmps23 (np Z) hB ((Z0∘ZaH∘ZaD∘ZaD∘Z8∘ZaD∘ZaD∘Z8∘ZaD∘Z8∘ZaD∘ZaD∘Z8∘ZaD∘ZaD∘Z8∘ZaD∘Z8∘ZR) ?_);refine z7 (uk L Z Z (zp Z) Z Z Z (fun u H hH hle _ v1 h1=>S7 (l:=u6 t) (fu:=true) ht (np Z) hH (SlB.toV (n:=6) h1 Z))) Z (qh (yt (.inr Z) Z) (Zp (h:=?_)));exact dw Z (fun _ _ h=>h) nq Z
open Go.V.L3
def _root_.ZdZ(t:Wr Y->A:=by intro h;refine z7 (qg L (vs:=[_,_,_,_]) (yu Z (List.Mem.head _)) Z Z Z Z ⟨_,rfl⟩) Z ?_;exact h.1)(h:Y):A:=t ⟨h⟩
abbrev tyRr:TypeId:=166
abbrev rv(sv:Value)(R:Rd):Value:=.agg #[sv,.int .i64 R.at_,.int .i64 R.bad,.int .i64 R.err]
def ci:List Nat->Nat
 | []=>0
 | d::ds=>d%128+128*ci ds
def Ci:∀ (ds:List Nat) (d:Nat),ci (ds++[d])=ci ds+d%128*128^ds.length
 | [],d=>by simp [ci]
 | x::ds,d=>by
  show x%128+128*ci (ds++[d])=_;rw[Ci,ma,zpf];show _=x%128+128*ci ds+_;rw[Nat.mul_add,zo1,Nat.mul_left_comm 128,zpp (128^ds.length) 128]
def U4:∀ (ds:List Nat),ci ds<128^ds.length
 | []=>by simp [ci]
 | d::ds=>by
  have:=U4 ds;rw[ma,zpf];show d%128+128*ci ds<_;omega
def Qi(h:bs[a+n]?=some b):(bs.drop a).take (n+1)=(bs.drop a).take n++[b]:=by
 have hd:(bs.drop a)[n]?=some b:=by rw[zoi];exact h
 rw[zns,hd];rfl
def ij(h:a+n<=bs.length):((bs.drop a).take n).length=n:=by rw[mw,m6];omega
def Qx{bad:Nat}{err:Int}:∀ (n:Nat),n<=9->a+n<=bs.length->(∀ j<n,∃ b,bs[a+j]?=some b/\128<=b)->
  i7 bs 10 0 0 ⟨a,bad,err⟩=i7 bs (10-n) n (ci ((bs.drop a).take n)) ⟨a+n,bad,err⟩
 | 0,_,_,_=>by rw[zn6];rfl
 | n+1,h9,hl,h=>by
  rw[Qx n I I fun j hj=>h j I];obtain⟨b,hb,h128⟩:=h n I;obtain⟨f,hf⟩:∃ f,10-n=f+1:=⟨9-n,by omega⟩
  rw[hf,show 10-(n+1)=f by omega];show i7 bs (f+1) n _ _=_;unfold i7;dsimp only;rw[hb];dsimp only;rw[nc I,nc I,Qi hb,Ci,ij I];cases f<;>rfl
def zg6{bad n:Nat}(h9:n<=9)(hl:a+n<=bs.length)(h:∀ j<n,∃ b,bs[a+j]?=some b/\128<=b):
  (a+n=bs.length->p9 bs ⟨a,bad,0⟩=(0,⟨a,bs.length,17⟩))/\
  ∀ b,bs[a+n]?=some b->(b<128\/n=9)->((0<n/\b=0\/n=9/\b≠1)->p9 bs ⟨a,bad,0⟩=(0,⟨a,a+n,5⟩))/\
   (¬ (0<n/\b=0\/n=9/\b≠1)->p9 bs ⟨a,bad,0⟩=(ci ((bs.drop a).take (n+1)),⟨a+n+1,bad,0⟩)/\ci ((bs.drop a).take (n+1))<18446744073709551616):=by
 have hs:=Qx (bad:=bad) (err:=0) n h9 hl h;obtain⟨f,hf⟩:∃ f,10-n=f+1:=⟨9-n,by omega⟩
 rw[hf] at hs;unfold p9 um cz;rw[nc (by simp)];refine⟨fun he=>?_,fun b hb hbn=>⟨fun hbad=>?_,fun hok=>?_⟩⟩
 ·have hnone:bs[a+n]?=none:=zqy.2 I
  have hv:=hs.trans (show i7 bs (f+1) n (ci ((bs.drop a).take n)) ⟨a+n,bad,0⟩=(0,⟨a+n,bs.length,17⟩) from by
   unfold i7;dsimp only;rw[hnone];rfl)
  rw[hv];rfl
 ·have hbad2:n=9/\b≠1\/0<n/\b=0:=I
  have hv:=hs.trans (show i7 bs (f+1) n (ci ((bs.drop a).take n)) ⟨a+n,bad,0⟩=(0,⟨a+n,a+n,5⟩) from by
   unfold i7;dsimp only;rw[hb];dsimp only;rw[na hbad2];rfl)
  rw[hv];rfl
 ·have hok2:¬ (n=9/\b≠1\/0<n/\b=0):=I;have hb128:b<128:=I
  have hv2:=hs.trans (show i7 bs (f+1) n (ci ((bs.drop a).take n)) ⟨a+n,bad,0⟩=(ci ((bs.drop a).take n)+b%128*128^n,⟨a+n+1,bad,0⟩) from by
   unfold i7;dsimp only;rw[hb];dsimp only;rw[nc hok2,na hb128])
  have hv:ci ((bs.drop a).take (n+1))=ci ((bs.drop a).take n)+b%128*128^n:=by rw[Qi hb,Ci,ij hl]
  rw[hv];refine⟨?_,?_⟩
  ·rw[hv2];rfl
  ·have hlt:=U4 ((bs.drop a).take n);rw[ij hl] at hlt;have h64:(128:Nat)^9=9223372036854775808:=T;by_cases hn9:n=9
   ·subst hn9;have hb1:b=1:=I;subst hb1;omega
   ·have h8:n<=8:=I;have hp:(128:Nat)^n<=128^8:=zpx T h8;have h56:(128:Nat)^8=72057594037927936:=T;have hm:b%128*128^n<=127*128^n:=zot _ I;omega
def dm{k:Nat}(hB:zry B w):
  Ret zrz 149 [rv (.slice p k c) R,.int .i64 a,.int .i64 e] w B (fun v _=>v=rv (.slice p k c) (R.fail a e)):=by
 obtain⟨at_,bad,err⟩:=R;refine yo Tryz.func149 Z Tryz.ntmps149 (np Z) hB ((ZaU∘Zbz) ?_);refine bu 3 rfl fun b3 hb3=>?_;unfold Rd.fail;by_cases h0:err=0
 ·rw[na h0];refine(Z9∘Z1∘Zv∘Zr∘Zq∘Zz∘ZcN∘Zp∘Zx∘Zz∘ZcN∘Zg∘Zs∘ZdZ∘Zab) ?_;refine yl1 L [.cell 6 166] fun u H hH hle=>?_;exact⟨_,qy Z,rfl,rfl⟩
 ·rw[nc h0];refine(Z9∘Z1∘Zn∘Zo∘Zs∘ZdZ∘Zab) ?_;refine yl1 L [.cell 6 166] fun u H hH hle=>?_;exact⟨_,qy Z,rfl,rfl⟩
def _root_.ZdD(t:Wr Y->A:=by intro h;refine z9 (qg L (vs:=[_,_,_,_]) (yu Z (List.Mem.head _)) Z Z Z Z ⟨_,rfl⟩) Z ?_;exact h.1)(h:Y):A:=t ⟨h⟩
def o0:∀ (ds:List Nat) (k:Nat),ci (ds.drop k)<=ci ds
 | [],k=>by rw[List.drop_nil];exact nu _
 | d::ds,0=>nu _
 | d::ds,k+1=>by
  have:=o0 ds k;show ci (ds.drop k)<=d%128+128*ci ds;omega
def Lz{bs:List Nat}(hb:∀ b∈bs,b<=255)(hl:bs.length<=1099511627776)(hat:R.at_<=bs.length)(hB:zry B w)(hv:BsV bs fu (.slice p bs.length c) B):
  Ret zrz 82 [rv (.slice p bs.length c) R] w B (fun v _=>v=.tuple #[.int .u64 ((p9 bs R).1:Nat),rv (.slice p bs.length c) (p9 bs R).2]):=by
 obtain⟨at_,bad,err⟩:=R;dsimp only[rv] at hat |-;refine yo Tryz.func82 Z Tryz.ntmps82 (np Z) hB ((ZaU∘Zh∘Zbz) ?_);refine bu 1 rfl fun b1 hb1=>?_;by_cases h0:err≠0
 ·have hn:p9 bs ⟨at_,bad,err⟩=(0,⟨at_,bad,err⟩):=na h0;rw[hn];refine(Z9∘Z1∘ZY∘ZdQ∘ZdD∘Zah∘ZbQ∘ZaE) ?_;refine yl1 L [.tmp 2,.cell 3 166] fun u H hH hle=>?_;exact⟨_,qy Z,rfl,rfl⟩
 ·have h00:err=0:=mh.1 h0;subst h00;refine(Z9∘Z1∘Zaw∘Zy∘Zc∘Zaz) ?_;refine xq (fun n:Nat=>[(1,.is (kg b1)),(3,.own (gm [.slice none 0 0,.int .i64 0,.int .i64 0,.int .i64 0] tyRr)),(4,.is (.int .i64 n))]) (fun n=>n<=9/\at_+n<=bs.length/\∀ j<n,∃ b,bs[at_+j]?=some b/\128<=b) (fun n=>9-n) 0 ⟨by decide,hat,fun j hj=>ni hj (zq5 _)⟩ ⟨Z,Z,Z,nm⟩ ?_;rintro n ⟨h9,hln,hdg⟩;dsimp only at h9 hln hdg |-;obtain⟨hshort,hfin⟩:=zg6 (bad:=bad) h9 hln hdg;have hwa:IntKind.i64.wrap ((at_:Int)+(n:Int))=((at_+n:Nat):Int):=(xd I I).trans I;by_cases hn9:n=9
  ·by_cases hal:at_+n=bs.length
   ·refine(Zcb∘Z6∘ZbY∘Zbv∘Zi∘ZbY∘Zbv∘Za6∘ZaP∘ZD∘Z1∘Zar∘Zj∘Z5∘Z1∘Za1∘ZbD∘Zr∘Z7∘ZdZ∘Z1∘Za1) ?_;refine z71 L Z (fun u H hH _=>dm (R:=⟨at_,bad,0⟩) (a:=bs.length) (e:=17) hH) ?_;refine(Zh∘Zab) ?_;rw[hshort hal];refine yl1 L [.tmp 2,.cell 3 166] fun u H hH hle=>?_;exact⟨_,qy Z,rfl,rfl⟩
   ·obtain⟨b,hb2⟩:=xu (l:=bs) (i:=at_+n) I;have hb255:=hb b (m9 hb2);have hcr:=Ul hb2;by_cases kb0:b=0
    ·have hbad:0<n/\b=0\/n=9/\b≠1:=I;rw[(hfin b hb2 I).1 hbad];refine(Zcb∘Z6∘ZbY∘Zbv∘Zi∘ZbY∘Zbv∘Za6∘ZaP∘ZD∘Z1∘Zar∘Zj∘Z5∘Z1∘Za1∘Zaj∘Zo∘ZE∘Z1) ?_;refine vo 53 (BsV bs fu) Z nw hv ((ZcW∘Za9∘Zj∘Zcw∘ZJ∘Zb∘Zv∘Zi∘ZbY∘Zcs∘ZG∘ZdZ∘Za) ?_);refine z71 L Z (fun u H hH _=>dm (R:=⟨at_,bad,0⟩) (a:=at_+n) (e:=5) hH) ?_;refine(Zh∘Zab) ?_;refine yl1 L [.tmp 2,.cell 3 166] fun u H hH hle=>?_;exact⟨_,qy Z,rfl,rfl⟩
    ·by_cases kb1:b=1
     ·have hbad:¬ (0<n/\b=0\/n=9/\b≠1):=I;obtain⟨hval,hlt64⟩:=(hfin b hb2 I).2 hbad;rw[hval];obtain⟨ds,hds⟩:∃ ds,(bs.drop at_).take (n+1)=ds:=⟨_,rfl⟩
      rw[hds] at hlt64 |-;have hdl:ds.length=n+1:=by rw[<-hds];exact ij I
      have hne:IntKind.i64.wrap (((at_+n:Nat):Int)+1)=((at_+n+1:Nat):Int):=xd I I;refine(Zcb∘Z6∘ZbY∘Zbv∘Zi∘ZbY∘Zbv∘Za6∘ZaP∘ZD∘Z1∘Zar∘Zj∘Z5∘Z1∘Za1∘Zaj∘Zo∘ZE∘Z1) ?_;refine vo 53 (BsV bs fu) Z nw hv ((ZcW∘Za9∘Zj∘Zcw∘ZJ∘Zb∘Zn∘Zbs∘Zv∘Zb∘Za7∘Zi∘ZaT∘ZW∘Zj∘ZO∘Za∘Za0) ?_);refine xq (fun k:Nat=>[(1,.is (kg b1)),(3,.own (gm [.slice none 0 0,.int .i64 0,.int .i64 0,.int .i64 0] tyRr)),(5,.is (.int .i64 (at_+n:Nat))),(7,.is (.int .u64 (ci (ds.drop k):Nat))),(8,.is (.int .i64 (((at_+k:Nat):Int)-1)))]) (fun k=>k<=n+1) (fun k=>k) (n+1) (nu _) ⟨Z,Z,Z,by rw[zqt I];rfl,by rw[show((at_+(n+1):Nat):Int)-1=((at_+n:Nat):Int) by omega];rfl,nm⟩ ?_;rintro k hk
      cases k with
      | zero=>
       rw[zn5];refine(Zd∘ZbL∘Z1∘Zaj∘ZaP∘ZaW∘Zar∘Zz∘ZcN∘Zg) ?_;refine qp (id:=18) [] kj J ((Zm∘ZdD∘Zah∘ZbQ∘ZaE) ?_);refine yl1 L [.tmp 2,.cell 3 166] fun u H hH hle=>?_;exact⟨_,qy Z,rfl,rfl⟩
      | succ k=>
       obtain⟨d,hd⟩:=xu (l:=ds) (i:=k) I;have hdc:=hd;rw[<-hds,zo7 I,zoi] at hdc;have hd255:=hb d (m9 hdc);have hcr2:=Ul hdc;have hdrop:ds.drop k=d::ds.drop (k+1):=by rw[zn0 (get_lt hd),gk hd]
       have hvk:ci (ds.drop k)=d%128+128*ci (ds.drop (k+1)):=by rw[hdrop];rfl
       have hle:=o0 ds k;have hi8:((at_+(k+1):Nat):Int)-1=((at_+k:Nat):Int):=I;rw[hi8];have hwm:IntKind.u64.wrap (128*((ci (ds.drop (k+1)):Nat):Int))=((128*ci (ds.drop (k+1)):Nat):Int):=(wrap_u64 I I).trans I;have hrm:(d:Int).tmod 128=((d%128:Nat):Int):=rfl;have hcv:IntKind.u64.wrap ((d%128:Nat):Int)=((d%128:Nat):Int):=wrap_u64 I I;have hwk:IntKind.u64.wrap (((128*ci (ds.drop (k+1)):Nat):Int)+((d%128:Nat):Int))=((ci (ds.drop k):Nat):Int):=(wrap_u64 I I).trans I;have hws:IntKind.i64.wrap (((at_+k:Nat):Int)-1)=((at_+k:Nat):Int)-1:=xd I I;refine(Zd∘ZbL∘Z1∘ZbE∘ZaZ∘Zaf∘Za) ?_;refine z7 (Fg Z Z Z Z hwm) Z (Z1 (h:=?_));refine vo 84 (BsV bs fu) Z nw hv ((ZcW∘Za9∘ZcI) ?_);refine z7 (xw Z Z Z fh.1 fh.2 (wrap_u64 I I)) Z (z7 (yd Z Z Z Z hwk) Z ((Zao∘Zax∘Zap∘Za∘Zat∘Zao) ?_));exact yv (x:=k+1) k I I ⟨Z,Z,Z,Z,Z,nm⟩
     ·have hbad:0<n/\b=0\/n=9/\b≠1:=I;rw[(hfin b hb2 I).1 hbad];refine(Zcb∘Z6∘ZbY∘Zbv∘Zi∘ZbY∘Zbv∘Za6∘ZaP∘ZD∘Z1∘Zar∘Zj∘Z5∘Z1∘Za1∘Zaj∘Zo∘ZE∘Z1) ?_;refine vo 53 (BsV bs fu) Z nw hv ((ZcW∘Za9∘Zj∘Zcw∘ZJ∘Zb∘Zn∘Zbs∘Zv∘Zb∘Zc8∘Zi∘Zcs∘ZG∘ZdZ∘Za) ?_);refine z71 L Z (fun u H hH _=>dm (R:=⟨at_,bad,0⟩) (a:=at_+n) (e:=5) hH) ?_;refine(Zh∘Zab) ?_;refine yl1 L [.tmp 2,.cell 3 166] fun u H hH hle=>?_;exact⟨_,qy Z,rfl,rfl⟩
  ·by_cases hal:at_+n=bs.length
   ·refine(Zcb∘ZI∘Za∘Z1∘Zar∘Z1∘Za1∘Z6∘Zi∘ZbY∘Zbv∘Za6∘ZaP∘ZD∘Z1∘Zar∘Zj∘Z5∘Z1∘Za1∘ZbD∘Zr∘Z7∘ZdZ∘Z1∘Za1) ?_;refine z71 L Z (fun u H hH _=>dm (R:=⟨at_,bad,0⟩) (a:=bs.length) (e:=17) hH) ?_;refine(Zh∘Zab) ?_;rw[hshort hal];refine yl1 L [.tmp 2,.cell 3 166] fun u H hH hle=>?_;exact⟨_,qy Z,rfl,rfl⟩
   ·obtain⟨b,hb2⟩:=xu (l:=bs) (i:=at_+n) I;have hb255:=hb b (m9 hb2);have hcr:=Ul hb2;by_cases hge:128<=b
    ·have hwn:IntKind.i64.wrap ((n:Int)+1)=((n+1:Nat):Int):=xd I I;refine(Zcb∘ZI∘Za∘Z1∘Zar∘Z1∘Za1∘ZI∘Zi∘Za∘Z1) ?_;refine vo 27 (BsV bs fu) Z nw hv ((Z1∘Zar∘Zbn∘Za9∘ZbD∘ZbJ∘ZcX∘Zaz∘Zak∘ZF∘ZaB) ?_)
     exact yv (x:=n) (n+1) ⟨by omega,by omega,fun j hj=>by
      by_cases e:j=n
      ·subst e;exact⟨b,hb2,hge⟩
      ·exact hdg j I⟩ I ⟨Z,Z,Z,nm⟩
    ·by_cases kn0:n=0
     ·have hbad:¬ (0<n/\b=0\/n=9/\b≠1):=I;obtain⟨hval,hlt64⟩:=(hfin b hb2 I).2 hbad;rw[hval];obtain⟨ds,hds⟩:∃ ds,(bs.drop at_).take (n+1)=ds:=⟨_,rfl⟩
      rw[hds] at hlt64 |-;have hdl:ds.length=n+1:=by rw[<-hds];exact ij I
      have hne:IntKind.i64.wrap (((at_+n:Nat):Int)+1)=((at_+n+1:Nat):Int):=xd I I;refine(Zcb∘ZI∘Za∘Z1∘Zar∘Z1∘Za1∘ZI∘Zi∘Za∘Z1) ?_;refine vo 27 (BsV bs fu) Z nw hv ((Z1∘Zar∘Zbn∘Za9∘Zaj∘Zi∘ZaP∘ZD∘Z1∘Zar∘Zj∘Z5∘Z1∘Za1∘Zaj∘Zo∘ZE∘Z1) ?_);refine vo 53 (BsV bs fu) Z nw hv ((ZcW∘Za9∘Zj∘Zcw∘Zan∘Zc6∘Zbs∘Zn∘Zc6∘Zi∘ZaT∘ZW∘Zj∘ZO∘Za∘Za0) ?_);refine xq (fun k:Nat=>[(1,.is (kg b1)),(3,.own (gm [.slice none 0 0,.int .i64 0,.int .i64 0,.int .i64 0] tyRr)),(5,.is (.int .i64 (at_+n:Nat))),(7,.is (.int .u64 (ci (ds.drop k):Nat))),(8,.is (.int .i64 (((at_+k:Nat):Int)-1)))]) (fun k=>k<=n+1) (fun k=>k) (n+1) (nu _) ⟨Z,Z,Z,by rw[zqt I];rfl,by rw[show((at_+(n+1):Nat):Int)-1=((at_+n:Nat):Int) by omega];rfl,nm⟩ ?_;rintro k hk
      cases k with
      | zero=>
       rw[zn5];refine(Zd∘ZbL∘Z1∘Zaj∘ZaP∘ZaW∘Zar∘Zz∘ZcN∘Zg) ?_;refine qp (id:=18) [] kj J ((Zm∘ZdD∘Zah∘ZbQ∘ZaE) ?_);refine yl1 L [.tmp 2,.cell 3 166] fun u H hH hle=>?_;exact⟨_,qy Z,rfl,rfl⟩
      | succ k=>
       obtain⟨d,hd⟩:=xu (l:=ds) (i:=k) I;have hdc:=hd;rw[<-hds,zo7 I,zoi] at hdc;have hd255:=hb d (m9 hdc);have hcr2:=Ul hdc;have hdrop:ds.drop k=d::ds.drop (k+1):=by rw[zn0 (get_lt hd),gk hd]
       have hvk:ci (ds.drop k)=d%128+128*ci (ds.drop (k+1)):=by rw[hdrop];rfl
       have hle:=o0 ds k;have hi8:((at_+(k+1):Nat):Int)-1=((at_+k:Nat):Int):=I;rw[hi8];have hwm:IntKind.u64.wrap (128*((ci (ds.drop (k+1)):Nat):Int))=((128*ci (ds.drop (k+1)):Nat):Int):=(wrap_u64 I I).trans I;have hrm:(d:Int).tmod 128=((d%128:Nat):Int):=rfl;have hcv:IntKind.u64.wrap ((d%128:Nat):Int)=((d%128:Nat):Int):=wrap_u64 I I;have hwk:IntKind.u64.wrap (((128*ci (ds.drop (k+1)):Nat):Int)+((d%128:Nat):Int))=((ci (ds.drop k):Nat):Int):=(wrap_u64 I I).trans I;have hws:IntKind.i64.wrap (((at_+k:Nat):Int)-1)=((at_+k:Nat):Int)-1:=xd I I;refine(Zd∘ZbL∘Z1∘ZbE∘ZaZ∘Zaf∘Za) ?_;refine z7 (Fg Z Z Z Z hwm) Z (Z1 (h:=?_));refine vo 84 (BsV bs fu) Z nw hv ((ZcW∘Za9∘ZcI) ?_);refine z7 (xw Z Z Z fh.1 fh.2 (wrap_u64 I I)) Z (z7 (yd Z Z Z Z hwk) Z ((Zao∘Zax∘Zap∘Za∘Zat∘Zao) ?_));exact yv (x:=k+1) k I I ⟨Z,Z,Z,Z,Z,nm⟩
     ·by_cases kb0:b=0
      ·have hbad:0<n/\b=0\/n=9/\b≠1:=I;rw[(hfin b hb2 I).1 hbad];refine(Zcb∘ZI∘Za∘Z1∘Zar∘Z1∘Za1∘ZI∘Zi∘Za∘Z1) ?_;refine vo 27 (BsV bs fu) Z nw hv ((Z1∘Zar∘Zbn∘Za9∘Zaj∘Zi∘ZaP∘ZD∘Z1∘Zar∘Zj∘Z5∘Z1∘Za1∘Zaj∘Zo∘ZE∘Z1) ?_);refine vo 53 (BsV bs fu) Z nw hv ((ZcW∘Za9∘Zj∘Zcw∘ZJ∘Zb∘Zv∘Zi∘ZbY∘Zcs∘ZG∘ZdZ∘Za) ?_);refine z71 L Z (fun u H hH _=>dm (R:=⟨at_,bad,0⟩) (a:=at_+n) (e:=5) hH) ?_;refine(Zh∘Zab) ?_;refine yl1 L [.tmp 2,.cell 3 166] fun u H hH hle=>?_;exact⟨_,qy Z,rfl,rfl⟩
      ·have hbad:¬ (0<n/\b=0\/n=9/\b≠1):=I;obtain⟨hval,hlt64⟩:=(hfin b hb2 I).2 hbad;rw[hval];obtain⟨ds,hds⟩:∃ ds,(bs.drop at_).take (n+1)=ds:=⟨_,rfl⟩
       rw[hds] at hlt64 |-;have hdl:ds.length=n+1:=by rw[<-hds];exact ij I
       have hne:IntKind.i64.wrap (((at_+n:Nat):Int)+1)=((at_+n+1:Nat):Int):=xd I I;refine(Zcb∘ZI∘Za∘Z1∘Zar∘Z1∘Za1∘ZI∘Zi∘Za∘Z1) ?_;refine vo 27 (BsV bs fu) Z nw hv ((Z1∘Zar∘Zbn∘Za9∘Zaj∘Zi∘ZaP∘ZD∘Z1∘Zar∘Zj∘Z5∘Z1∘Za1∘Zaj∘Zo∘ZE∘Z1) ?_);refine vo 53 (BsV bs fu) Z nw hv ((ZcW∘Za9∘Zj∘Zcw∘ZJ∘Zb∘Zn∘Zbs∘Zn∘Zc6∘Zi∘ZaT∘ZW∘Zj∘ZO∘Za∘Za0) ?_);refine xq (fun k:Nat=>[(1,.is (kg b1)),(3,.own (gm [.slice none 0 0,.int .i64 0,.int .i64 0,.int .i64 0] tyRr)),(5,.is (.int .i64 (at_+n:Nat))),(7,.is (.int .u64 (ci (ds.drop k):Nat))),(8,.is (.int .i64 (((at_+k:Nat):Int)-1)))]) (fun k=>k<=n+1) (fun k=>k) (n+1) (nu _) ⟨Z,Z,Z,by rw[zqt I];rfl,by rw[show((at_+(n+1):Nat):Int)-1=((at_+n:Nat):Int) by omega];rfl,nm⟩ ?_;rintro k hk
       cases k with
       | zero=>
        rw[zn5];refine(Zd∘ZbL∘Z1∘Zaj∘ZaP∘ZaW∘Zar∘Zz∘ZcN∘Zg) ?_;refine qp (id:=18) [] kj J ((Zm∘ZdD∘Zah∘ZbQ∘ZaE) ?_);refine yl1 L [.tmp 2,.cell 3 166] fun u H hH hle=>?_;exact⟨_,qy Z,rfl,rfl⟩
       | succ k=>
        obtain⟨d,hd⟩:=xu (l:=ds) (i:=k) I;have hdc:=hd;rw[<-hds,zo7 I,zoi] at hdc;have hd255:=hb d (m9 hdc);have hcr2:=Ul hdc;have hdrop:ds.drop k=d::ds.drop (k+1):=by rw[zn0 (get_lt hd),gk hd]
        have hvk:ci (ds.drop k)=d%128+128*ci (ds.drop (k+1)):=by rw[hdrop];rfl
        have hle:=o0 ds k;have hi8:((at_+(k+1):Nat):Int)-1=((at_+k:Nat):Int):=I;rw[hi8];have hwm:IntKind.u64.wrap (128*((ci (ds.drop (k+1)):Nat):Int))=((128*ci (ds.drop (k+1)):Nat):Int):=(wrap_u64 I I).trans I;have hrm:(d:Int).tmod 128=((d%128:Nat):Int):=rfl;have hcv:IntKind.u64.wrap ((d%128:Nat):Int)=((d%128:Nat):Int):=wrap_u64 I I;have hwk:IntKind.u64.wrap (((128*ci (ds.drop (k+1)):Nat):Int)+((d%128:Nat):Int))=((ci (ds.drop k):Nat):Int):=(wrap_u64 I I).trans I;have hws:IntKind.i64.wrap (((at_+k:Nat):Int)-1)=((at_+k:Nat):Int)-1:=xd I I;refine(Zd∘ZbL∘Z1∘ZbE∘ZaZ∘Zaf∘Za) ?_;refine z7 (Fg Z Z Z Z hwm) Z (Z1 (h:=?_));refine vo 84 (BsV bs fu) Z nw hv ((ZcW∘Za9∘ZcI) ?_);refine z7 (xw Z Z Z fh.1 fh.2 (wrap_u64 I I)) Z (z7 (yd Z Z Z Z hwk) Z ((Zao∘Zax∘Zap∘Za∘Zat∘Zao) ?_));exact yv (x:=k+1) k I I ⟨Z,Z,Z,Z,Z,nm⟩
def jn(bs:List Nat)(lim:Nat)(e:Int):Rd->Nat×Rd:=um (vl bs lim e) 0
def Bz:∀ (f i acc:Nat) (R:Rd),R.err=0->(i7 bs f i acc R).2.err≠0->(i7 bs f i acc R).1=0
 | 0,_,_,R,h0,h=>ni h0 h
 | f+1,i,acc,R,h0,h=>by
  unfold i7 at h |-
  cases hb:bs[R.at_]? with
  | none=>rfl
  | some b=>
   rw[hb] at h;dsimp only at h |-;split at h
   ·rename_i h1;rw[na h1]
   ·rename_i h1;rw[nc h1];split at h
    ·exact ni h0 h
    ·rename_i h2;rw[nc h2];exact Bz f (i+1) _ _ h0 h
def zda(he:e≠0)(R:Rd):jn bs lim e R=if (p9 bs R).2.err≠0 then (0,(p9 bs R).2) else if lim<(p9 bs R).1 then (0,R.fail R.at_ e) else p9 bs R:=by
 unfold jn p9 um;by_cases h0:R.err≠0
 ·rw[na h0,na h0,na h0]
 ·rw[nc h0,nc h0];have h00:R.err=0:=mh.1 h0;unfold vl;by_cases h1:(cz bs R).2.err≠0
  ·have hz:(cz bs R).1=0:=Bz 10 0 0 R h00 h1;have hw:(if lim<(cz bs R).1 then ((cz bs R).1,(cz bs R).2.fail R.at_ e) else cz bs R)=cz bs R:=nc (by rw[hz];exact zq5 _);rw[hw,na h1,na h1]
  ·have h10:(cz bs R).2.err=0:=mh.1 h1;rw[nc h1];by_cases h2:lim<(cz bs R).1
   ·have hf:((cz bs R).2.fail R.at_ e)=⟨(cz bs R).2.at_,R.at_,e⟩:=na h10;have hf2:R.fail R.at_ e=⟨R.at_,R.at_,e⟩:=na h00;rw[na h2,nc h1,na h2,hf,hf2,na he]
   ·rw[nc h2,nc h1,nc h1,nc h2]
def oz{f:Rd->α×Rd}{z:α}(h:(um f z R).2.err≠0):um f z R=(z,⟨R.at_,(um f z R).2.bad,(um f z R).2.err⟩):=by
 unfold um at h |-;by_cases h0:R.err≠0
 ·rw[na h0]
 ·rw[nc h0] at h |-;by_cases h1:(f R).2.err≠0
  ·rw[na h1]
  ·rw[nc h1] at h;exact ni h h1
def He(he:e≠0)(h:(jn bs lim e R).2.err=0):(jn bs lim e R).1<=lim:=by
 unfold jn um at h |-;split at h
 ·rename_i h0;exact ni h h0
 ·rename_i h0;rw[nc h0];split at h
  ·rename_i h1;exact ni h h1
  ·rename_i h1;rw[nc h1];unfold vl at h |-;split at h
   ·rename_i h2;exfalso;dsimp only at h;unfold Rd.fail at h;split at h
    ·exact he h
    ·rename_i h3;exact h3 h
   ·rename_i h2;rw[nc h2];omega
def se(hl:lim<=1099511627776)(R:Rd):(jy bs lim R).2=(jn bs lim 3 R).2/\((jy bs lim R).2.err=0->(jy bs lim R).1=((jn bs lim 3 R).1:Int)):=by
 have h2:(jy bs lim R).2=(jn bs lim 3 R).2:=by
  unfold jy jn um Q8;by_cases h0:R.err≠0
  ·rw[na h0,na h0]
  ·rw[nc h0,nc h0];dsimp only;by_cases h1:(vl bs lim 3 R).2.err≠0
   ·rw[na h1,na h1]
   ·rw[nc h1,nc h1]
 refine⟨h2,fun h=>?_⟩;have hle:=He (e:=3) (bs:=bs) (lim:=lim) (R:=R) T (by rw[<-h2];exact h);unfold jy jn um Q8 at *;by_cases h0:R.err≠0
 ·rw[na h0] at h;exact ni h h0
 ·rw[nc h0] at h hle |-;rw[nc h0];dsimp only at h hle |-;by_cases h1:(vl bs lim 3 R).2.err≠0
  ·rw[na h1] at h;exact ni h h1
  ·rw[nc h1] at hle |-;rw[nc h1];exact xd I I
def zf3(hl:lim<=1099511627776):uw bs lim R=if (jn bs lim 3 R).2.err≠0 then (sZ,(jn bs lim 3 R).2) else
  if bs.length-(jn bs lim 3 R).2.at_<(jn bs lim 3 R).1 then (sZ,R.fail bs.length 17) else (dh ((bs.drop (jn bs lim 3 R).2.at_).take (jn bs lim 3 R).1),⟨(jn bs lim 3 R).2.at_+(jn bs lim 3 R).1,(jn bs lim 3 R).2.bad,(jn bs lim 3 R).2.err⟩):=by
 obtain⟨h2,hv⟩:=se (bs:=bs) hl R;by_cases h0:R.err≠0
 ·have e1:uw bs lim R=(sZ,R):=na h0;have e2:jn bs lim 3 R=(0,R):=na h0;rw[e1,e2,na h0]
 ·have h00:R.err=0:=mh.1 h0;have e1:uw bs lim R=if (Bf bs lim R).2.err≠0 then (sZ,⟨R.at_,(Bf bs lim R).2.bad,(Bf bs lim R).2.err⟩) else Bf bs lim R:=nc h0
  rw[e1];by_cases h1:(jn bs lim 3 R).2.err≠0
  ·have hf:(jn bs lim 3 R).2.fail bs.length 17=(jn bs lim 3 R).2:=nc h1
   have hG:Bf bs lim R=(sZ,(jn bs lim 3 R).2):=by
    unfold Bf;rw[h2,hf];exact na (.inl h1)
   have hm:=oz (f:=vl bs lim 3) (z:=0) (R:=R) h1;rw[hG,na h1,na h1];exact nh (fun x:Nat×Rd=>(sZ,x.2)) hm.symm
  ·have h10:(jn bs lim 3 R).2.err=0:=mh.1 h1;have hv1:=hv (by rw[h2];exact h10);rw[nc h1];by_cases h3:bs.length-(jn bs lim 3 R).2.at_<(jn bs lim 3 R).1
   ·have hf:(jn bs lim 3 R).2.fail bs.length 17=⟨(jn bs lim 3 R).2.at_,bs.length,17⟩:=na h10;have hf2:R.fail bs.length 17=⟨R.at_,bs.length,17⟩:=na h00
    have hG:Bf bs lim R=(sZ,⟨(jn bs lim 3 R).2.at_,bs.length,17⟩):=by
     unfold Bf;rw[h2,hf,hv1];exact na (.inr I)
    rw[hG,na h3,hf2];exact na (show(17:Int)≠0 by decide)
   ·have hG:Bf bs lim R=(dh ((bs.drop (jn bs lim 3 R).2.at_).take (jn bs lim 3 R).1),⟨(jn bs lim 3 R).2.at_+(jn bs lim 3 R).1,(jn bs lim 3 R).2.bad,(jn bs lim 3 R).2.err⟩):=by
     unfold Bf;rw[h2,hv1,znu];exact nc (fun h=>h.elim h1 (fun h=>h3 I))
    rw[hG,nc h3];exact nc h1
def B4(h:R.at_<=bs.length):(jn bs lim e R).2.at_<=bs.length:=de h (Gd h)
def cu{bs:List Nat}(he:e≠0)(hb:∀ b∈bs,b<=255)(hl:bs.length<=1099511627776)(hat:R.at_<=bs.length)(hB:zry B w)(hv:BsV bs fu (.slice p bs.length c) B):
  Ret zrz 80 [rv (.slice p bs.length c) R,.int .u64 lim,.int .i64 e] w B (fun v _=>v=.tuple #[.int .u64 ((jn bs lim e R).1:Nat),rv (.slice p bs.length c) (jn bs lim e R).2]):=by
 rw[zda he];obtain⟨n,⟨a2,b2,e2⟩,hn⟩:∃ n R2,p9 bs R=(n,R2):=⟨_,_,rfl⟩
 have hrd:=fun(u:World) (H:Heap) (hH:zry H u) (hle:B.Le H)=>hn ▸ Lz (R:=R) hb hl hat hH (hv.le hle);obtain⟨at_,bad,err⟩:=R;rw[hn];dsimp only[rv] at hrd |-;refine yo Tryz.func80 Z Tryz.ntmps80 (np Z) hB ((Z0∘Zh∘ZC∘Zby∘Zde) ?_);refine z71 L Z (fun u H hH hle=>hrd u H hH hle) ?_;refine(ZH∘ZC∘Zh∘ZaF∘Zam) ?_;refine bu 9 rfl fun b9 hb9=>?_;by_cases h0:e2≠0
 ·rw[na h0];refine(ZS∘Z1∘ZY∘Zc0∘ZdD∘Zah∘ZbQ∘ZaE) ?_;refine yl1 L [.tmp 6,.cell 7 166] fun u H hH hle=>?_;exact⟨_,qy Z,rfl,rfl⟩
 ·rw[nc h0];by_cases h1:lim<n
  ·rw[na h1];refine(ZS∘Z1∘Zch∘Zs∘Zb∘ZJ∘Zr∘ZT∘Zde∘Z8∘Za) ?_;refine z71 L Z (fun u H hH _=>dm (R:=⟨at_,bad,err⟩) (a:=at_) (e:=e) hH) ?_;refine(Zh∘Zab) ?_;refine yl1 L [.tmp 6,.cell 7 166] fun u H hH hle=>?_;exact⟨_,qy Z,rfl,rfl⟩
  ·rw[nc h1];refine(ZS∘Z1∘Zch∘Zs∘Zb∘Zca∘ZcK∘Zm∘ZdD∘Zah∘ZbQ∘ZaE) ?_;refine yl1 L [.tmp 6,.cell 7 166] fun u H hH hle=>?_;exact⟨_,qy Z,rfl,rfl⟩
def Tb{bs:List Nat}(hlim:lim<=1099511627776)(hb:∀ b∈bs,b<=255)(hl:bs.length<=1099511627776)(hat:R.at_<=bs.length)(hB:zry B w)(hv:BsV bs fu (.slice p bs.length c) B):
  Ret zrz 220 [rv (.slice p bs.length c) R,.int .i64 lim] w B (fun v _=>v=.tuple #[.string (uw bs lim R).1,rv (.slice p bs.length c) (uw bs lim R).2]):=by
 rw[zf3 hlim];have hma:=B4 (lim:=lim) (e:=3) hat;have hme:=oz (f:=vl bs lim 3) (z:=0) (R:=R);have hml:=He (bs:=bs) (lim:=lim) (e:=3) T (R:=R);obtain⟨n,⟨a2,b2,e2⟩,hn⟩:∃ n R2,jn bs lim 3 R=(n,R2):=⟨_,_,rfl⟩
 have hrd:=fun(u:World) (H:Heap) (hH:zry H u) (hle:B.Le H)=>hn ▸ cu (R:=R) (lim:=lim) (e:=3) T hb hl hat hH (hv.le hle)
 have hme2:e2≠0->a2=R.at_:=fun h=>by
  have:=hme (by unfold jn at hn;rw[hn];exact h);unfold jn at hn;rw[hn] at this;exact nh (fun x:Nat×Rd=>x.2.at_) this
 obtain⟨at_,bad,err⟩:=R;rw[hn] at hma hml |-;have hmx:(if (lim:Int)>0 then (lim:Int) else 0)=(lim:Int):=by split<;>omega
 have hcu:IntKind.u64.wrap (lim:Int)=(lim:Int):=wrap_u64 I I;dsimp only[rv] at hrd hma hml hme2 |-;refine yo Tryz.func220 Z Tryz.ntmps220 (np Z) hB ((ZaU∘Zh∘ZC∘Zby∘Zcf∘Za) ?_);refine z7 (i6 Z Z Z Z E) Z (z7 (xw Z Z Z gj.1 gj.2 (wrap_u64 I I)) Z (z71 L Z (fun u H hH hle=>hrd u H hH hle) ?_));refine(ZH∘ZC∘Zh∘ZaF∘Zam) ?_;refine bu 2 rfl fun bb2 hbb2=>?_;refine bu 7 rfl fun b7 hb7=>?_;by_cases h0:e2≠0
 ·rw[na h0];obtain rfl:=hme2 h0;refine(ZS∘Z1∘ZY∘Zy∘Z1∘Zz) ?_;refine tn L (O1:=[_]) Z Z Z Z Z Z ((Zg∘Zs∘Z1∘Zz) ?_);refine tn L (O1:=[_]) Z Z Z Z Z Z ((Zg∘ZdP) ?_);refine z9 (qg L (vs:=[_,_,_,_]) (yu Z (List.Mem.tail _ (List.Mem.head _))) Z Z Z Z ⟨_,rfl⟩) Z ((Zah∘ZbQ∘ZaE) ?_);refine yl1 L [.tmp 4,.cell 5 166] fun u H hH hle=>?_;exact⟨_,qy Z,rfl,rfl⟩
 ·rw[nc h0];have h00:e2=0:=mh.1 h0;have hnl:=hml h00;have hws:IntKind.i64.wrap ((bs.length:Int)-(a2:Int))=((bs.length-a2:Nat):Int):=(xd I I).trans I;have hcs:IntKind.u64.wrap ((bs.length-a2:Nat):Int)=((bs.length-a2:Nat):Int):=wrap_u64 I I;by_cases h1:bs.length-a2<n
  ·rw[na h1];refine(ZS∘Z1∘Zch∘ZL∘Z1∘Za1∘Z1∘Zat) ?_;refine z7 (xw Z Z Z gj.1 gj.2 (wrap_u64 I I)) Z ((ZJ∘Zr∘ZU) ?_);refine z7 (qg L (vs:=[_,_,_,_]) (yu Z (List.Mem.tail _ (List.Mem.head _))) Z Z Z Z ⟨_,rfl⟩) Z (Zz (h:=?_));refine z7 (ql L (yu Z (List.Mem.tail _ (List.Mem.head _))) Z Z Z Z) Z (Za1 (h:=?_));refine z71 L Z (fun u H hH _=>dm (R:=⟨at_,bad,err⟩) (a:=bs.length) (e:=17) hH) ?_;refine(Zh∘Zab) ?_;refine yl1 L [.tmp 4,.cell 5 166] fun u H hH hle=>?_;exact⟨_,qy Z,rfl,rfl⟩
  ·rw[nc h1];have hci:IntKind.i64.wrap (n:Int)=(n:Int):=xd I I;have hwa:IntKind.i64.wrap ((a2:Int)+(n:Int))=((a2+n:Nat):Int):=(xd I I).trans I;have hsb:∀ b∈(bs.drop a2).take n,b<=255:=fun b hb2=>hb b (zq6 (zqf hb2));refine(ZS∘Z1∘Zch∘ZL∘Z1∘Za1∘Z1∘Zat) ?_;refine z7 (xw Z Z Z gj.1 gj.2 (wrap_u64 I I)) Z ((Zca∘Z7∘Z1) ?_);refine vo 42 (BsV bs fu) Z nw hv ((Z1∘Z1∘Za) ?_);refine z7 (xw Z Z Z wq.1 wq.2 (xd I I)) Z (ZF (h:=?_));refine z7 (Mf L (fu:=fu) a2 n Z Z Z Z Z Z Z Z Z I) Z (z7 (cx (bs:=(bs.drop a2).take n) (fu:=false) hsb Z Z Z Z Z Z) Z ((Zc∘ZE∘Z1∘Za) ?_));refine z7 (xw Z Z Z wq.1 wq.2 (xd I I)) Z ((ZF∘Zz∘ZcN∘Zg) ?_);refine qp (id:=10) [] kj J ((Zm∘ZdD∘Zah∘ZbQ∘ZaE) ?_);refine yl1 L [.tmp 4,.cell 5 166] fun u H hH hle=>?_;exact⟨_,qy Z,rfl,rfl⟩
abbrev zfz:TypeId:=9
def w6(bs:List Nat)(R:Rd):Nat->Rd
 | 0=>R
 | i+1=>(uw bs 16 (w6 bs R i)).2
def Fp(bs:List Nat)(R:Rd):Nat->List ByteArray
 | 0=>[]
 | i+1=>Fp bs R i++[(uw bs 16 (w6 bs R i)).1]
def Pb(h:R.at_<=bs.length):∀ i,(w6 bs R i).at_<=bs.length
 | 0=>h
 | i+1=>Co (Pb h i)
def r6:∀ i,(Fp bs R i).length=i
 | 0=>rfl
 | i+1=>by unfold Fp;rw[List.length_append,r6 i];rfl
def Ut(bs:List Nat)(R:Rd):List ByteArray×Rd:=
 if (w6 bs R 6).err≠0 then ([sZ,sZ,sZ,sZ,sZ,sZ],⟨R.at_,(w6 bs R 6).bad,(w6 bs R 6).err⟩) else (Fp bs R 6,w6 bs R 6)
abbrev NamP(sv:Value)(x:List ByteArray×Rd):Value->Heap->Prop:=TupS [SlV zfz 1 (x.1.map Value.string) 6 true,fun v _=>v=rv sv x.2]
def tupS2{a b:Value}{H:Heap}(h1:φ1 a H)(h2:φ2 b H):TupS [φ1,φ2] (.tuple #[a,b]) H:=⟨[a,b],rfl,rfl,fun i φ x hi hx=>by
 match i with
 | 0=>cases hi;cases hx;exact h1
 | 1=>cases hi;cases hx;exact h2
 | i+2=>cases hi⟩
def Ye{bs:List Nat}(hb:∀ b∈bs,b<=255)(hl:bs.length<=1099511627776)(hat:R.at_<=bs.length)(hB:zry B w)(hv:BsV bs fu (.slice p bs.length c) B):
  Ret zrz 150 [rv (.slice p bs.length c) R,.int .i64 6] w B (NamP (.slice p bs.length c) (Ut bs R)):=by
 have hR0:w6 bs R 0=R:=rfl;have hna:=Pb (bs:=bs) hat;have hrd:=fun(i:Nat) (u:World) (H:Heap) (hH:zry H u) (hle:B.Le H)=>Tb (R:=w6 bs R i) (lim:=16) T hb hl (hna i) hH (hv.le hle);unfold Ut;obtain⟨at_,bad,err⟩:=R;dsimp only[rv] at hrd |-;refine yo Tryz.func150 Z Tryz.ntmps150 (np Z) hB ((Z0∘Zh∘ZC∘Zby∘Zde∘ZbW∘Zq) ?_);refine z7 (ry L 6 rfl Z Z el9 Z Z Z Z T T) Z (qh (yt (.inr Z) Z) (Zam (h:=?_)));refine zbg 7 901 T Z fun b hzl=>?_;refine(Zy∘Za0) ?_;generalize zsL zrz zfz (6*1)=zs at hzl |-
 refine xq (fun s:Nat×List Value=>[(1,.is (.int .i64 6)),(2,.sat (At [.slice p bs.length c,.int .i64 at_,.int .i64 bad,.int .i64 err] tyRr 0)),(6,.own (gm (k9 (rv (.slice p bs.length c) (w6 bs ⟨at_,bad,err⟩ s.1))) tyRr)),(7,.is (.slice (some ⟨b,0,none⟩) 6 6)),(8,.is (.int .i64 s.1)),(5,.own (gm (k9 (rv (.slice none 0 0) ⟨0,0,0⟩)) tyRr)),(901,.own (xn b s.2 zfz))])
  (fun s=>s.1<=6/\s.2.length=6/\s.2.take s.1=(Fp bs ⟨at_,bad,err⟩ s.1).map Value.string) (fun s=>6-s.1) (0,zs) ⟨mf _,hzl,rfl⟩ ⟨rfl,rfl,rfl,rfl,rfl,rfl,rfl,nm⟩ ?_
 rintro⟨i,cs⟩ ⟨hi,hcs,htk⟩;dsimp only at hi hcs htk |-;by_cases hlt:i<6
 ·have hrd1:=hrd i;obtain⟨s,R2,hz⟩:∃ s R2,uw bs 16 (w6 bs ⟨at_,bad,err⟩ i)=(s,R2):=⟨_,_,rfl⟩
  have hR1:w6 bs ⟨at_,bad,err⟩ (i+1)=R2:=nh Prod.snd hz;have hL1:Fp bs ⟨at_,bad,err⟩ (i+1)=Fp bs ⟨at_,bad,err⟩ i++[s]:=nh (fun x:ByteArray×Rd=>Fp bs ⟨at_,bad,err⟩ i++[x.1]) hz;rw[hz] at hrd1;have hnl:=r6 (bs:=bs) (R:=⟨at_,bad,err⟩) i;generalize w6 bs ⟨at_,bad,err⟩ i=Q at hrd1 hz |-;obtain⟨a1,b1,e1⟩:=Q;obtain⟨a2,b2,e2⟩:=R2;dsimp only[rv] at hrd1 |-;have hle1:0+i*1+1<=cs.length:=by rw[hcs];omega
  refine(Zd∘Zs∘Zb∘Zbq∘ZaZ∘ZD∘Zb∘Zcf) ?_;refine z71 L Z (fun u H hH hle=>hrd1 u H hH hle) ?_;refine(ZH∘ZeB) ?_;refine xg (yj L (q:=901) Z Z (zpw hle1) Z Z) ((ZaF∘ZaJ∘Zak∘Zay) ?_)
  exact yv (x:=(i,cs)) (i+1,cs.take (0+i*1)++([.string s]++cs.drop (0+i*1+1))) ⟨hlt,by dsimp only;rw[List.length_append,List.length_append,List.length_take,List.length_drop];simp only[List.length_cons,List.length_nil];omega,by
    dsimp only;rw[hL1,znp,<-htk,znk,zoe,zpj,zqs,Nat.min_eq_right I,mw,zos I,show i+1-i=1 by omega];rfl⟩ M ⟨rfl,rfl,by rw[hR1];rfl,rfl,rfl,rfl,rfl,nm⟩
 ·obtain rfl:i=6:=by omega
  rw[znl I] at htk;subst htk;have hnl:=r6 (bs:=bs) (R:=⟨at_,bad,err⟩) 6;generalize Fp bs ⟨at_,bad,err⟩ 6=ns at hnl |-;obtain⟨a1,b1,e1⟩:=w6 bs ⟨at_,bad,err⟩ 6;refine(Zd∘Zs∘Zb∘Zb8∘Zf) ?_;refine zbd (s:=1) 7 901 rfl Z (by rw[mj,hnl]) T ?_;dsimp only[rv];refine bu 6 rfl fun b6 hb6=>?_;by_cases h0:e1≠0
  ·rw[na h0];refine(ZU∘Z1∘ZY∘Z7∘Z8∘Zz∘ZcN∘Zg) ?_;refine qp (id:=9) [(4,[32])] kj J (Zm (h:=?_));refine z9 (ry L 6 rfl Z Z el9 Z Z Z Z T T) Z (ZdD (h:=?_));refine xx (yt (.inr Z) Z) Z Z ((ZbQ∘ZaE) ?_);refine R8 4 rfl ?_;refine yl1 L [.tmp 4,.cell 5 166] fun u H hH hle=>?_;have hzz:zsL zrz zfz (6*1)=List.map Value.string [sZ,sZ,sZ,sZ,sZ,sZ]:=J;exact fun v hv=>l5 (qy Z) Z Z (tupS2 (hzz ▸ hv) Z)
  ·rw[nc h0];refine R8 7 rfl ((ZU∘Z1∘Zaw) ?_);refine qp (id:=10) [] kj J ((Zag∘ZdD∘Zc2∘ZbQ∘ZaE) ?_);refine yl1 L [.tmp 4,.cell 5 166] fun u H hH hle=>?_;exact fun v hv=>l5 (qy Z) Z Z (tupS2 hv Z)
def vh{f:Rd->α×Rd}{z:α}(h:R.err≠0):um f z R=(z,R):=na h
def Bp{β:Type}{f:Rd->α×Rd}{g:Rd->β×Rd}{zf:α}{zg:β}(hf:∀ R:Rd,R.err≠0->f R=(zf,R))(hg:∀ R:Rd,R.err≠0->g R=(zg,R))(R:Rd):
  um (Gf f g) (zf,zg) R=if (g (f R).2).2.err≠0 then ((zf,zg),⟨R.at_,(g (f R).2).2.bad,(g (f R).2).2.err⟩) else (((f R).1,(g (f R).2).1),(g (f R).2).2):=by
 unfold um;by_cases h0:R.err≠0
 ·rw[na h0,hf R h0];dsimp only;rw[hg R h0,na h0]
 ·rw[nc h0];rfl
def r5{k:Nat}(h:(w6 bs R k).err≠0):w6 bs R (k+1)=w6 bs R k:=nh Prod.snd (vh (f:=Bf bs 16) (z:=sZ) h)
def zg3:O7 bs R=if (w6 bs R 2).err≠0 then ((sZ,sZ),⟨R.at_,(w6 bs R 2).bad,(w6 bs R 2).err⟩) else (((uw bs 16 R).1,(uw bs 16 (w6 bs R 1)).1),w6 bs R 2):=
 Bp (fun _ h=>vh h) (fun _ h=>vh h) R
def sj:wx bs R=if (w6 bs R 3).err≠0 then (n3,⟨R.at_,(w6 bs R 3).bad,(w6 bs R 3).err⟩) else ((((uw bs 16 R).1,(uw bs 16 (w6 bs R 1)).1),(uw bs 16 (w6 bs R 2)).1),w6 bs R 3):=by
 have h:=Bp (f:=O7 bs) (g:=uw bs 16) (zf:=(sZ,sZ)) (zg:=sZ) (fun _ h=>vh h) (fun _ h=>vh h) R;unfold wx;refine h.trans ?_;rw[zg3];by_cases h2:(w6 bs R 2).err≠0
 ·rw[na h2];dsimp only;have hs:uw bs 16 ⟨R.at_,(w6 bs R 2).bad,(w6 bs R 2).err⟩=(sZ,⟨R.at_,(w6 bs R 2).bad,(w6 bs R 2).err⟩):=vh h2;rw[hs,r5 h2,na h2,na h2]
 ·rw[nc h2];rfl
def uOf:List ByteArray->U
 | [a,b,c,d,e,f]=>(((a,b),c),((d,e),f))
 | _=>(n3,n3)
def zev{l:List ByteArray}(h:l.length=6):u6 (uOf l)=l:=by
 match l,h with
 | [_,_,_,_,_,_],_=>rfl
def zc7:(Ut bs R).1.length=6:=by
 unfold Ut;split
 ·rfl
 ·exact r6 6
def Qz:w6 bs (w6 bs R 3) 3=w6 bs R 6:=by simp only[w6]
def Yg:w6 bs (w6 bs R 3) 1=w6 bs R 4:=by simp only[w6]
def Yh:w6 bs (w6 bs R 3) 2=w6 bs R 5:=by simp only[w6]
def zc6:Fp bs R 6=[(uw bs 16 R).1,(uw bs 16 (w6 bs R 1)).1,(uw bs 16 (w6 bs R 2)).1,(uw bs 16 (w6 bs R 3)).1,(uw bs 16 (w6 bs R 4)).1,(uw bs 16 (w6 bs R 5)).1]:=by
 simp only[Fp,w6,mn,znt]
def Tx(h3:(w6 bs R 3).err≠0):w6 bs R 6=w6 bs R 3:=by
 have h4:=r5 h3;have h5:=r5 (k:=4) (h4 ▸ h3);have h6:=r5 (k:=5) (h5 ▸ h4 ▸ h3);exact h6.trans (h5.trans h4)
def Gg:ob bs R=if (wx bs (wx bs R).2).2.err≠0 then ((n3,n3),⟨R.at_,(wx bs (wx bs R).2).2.bad,(wx bs (wx bs R).2).2.err⟩) else (((wx bs R).1,(wx bs (wx bs R).2).1),(wx bs (wx bs R).2).2):=Bp (f:=wx bs) (g:=wx bs) (zf:=n3) (zg:=n3) (fun _ h=>vh h) (fun _ h=>vh h) R
def Ua(h:R.err≠0):wx bs R=(n3,R):=vh h
def Pm(h:e≠0):wx bs ⟨a,b,e⟩=(n3,⟨a,b,e⟩):=Ua (R:=⟨a,b,e⟩) h
def zad{x y:α}(h:e≠0):(if (⟨a,b,e⟩:Rd).err≠0 then x else y)=x:=na h
def zix(h3:(w6 bs R 3).err≠0):ob bs R=((n3,n3),⟨R.at_,(w6 bs R 3).bad,(w6 bs R 3).err⟩):=by
 have hG:=sj (bs:=bs) (R:=R);rw[na h3] at hG;rw[Gg,hG];generalize w6 bs R 3=Q at h3 |-;obtain⟨q1,q2,q3⟩:=Q;have hs:=Pm (bs:=bs) (a:=R.at_) (b:=q2) h3;dsimp only at hs |-;rw[hs];exact zad h3
def zln{Q3:Rd}{g:P4}(hG:wx bs R=(g,Q3))(hg:wx bs Q3=(n3,⟨a,b,e⟩))(h6:e≠0):ob bs R=((n3,n3),⟨R.at_,b,e⟩):=by
 rw[Gg,hG];dsimp only;rw[hg];exact zad h6
def zlm{Q3 Q6:Rd}{g h:P4}(hG:wx bs R=(g,Q3))(hg:wx bs Q3=(h,Q6))(h6:¬ Q6.err≠0):ob bs R=((g,h),Q6):=by
 rw[Gg,hG];dsimp only;rw[hg];exact nc h6
def ziw(h3:¬ (w6 bs R 3).err≠0)(h6:(w6 bs R 6).err≠0):ob bs R=((n3,n3),⟨R.at_,(w6 bs R 6).bad,(w6 bs R 6).err⟩):=by
 have hG:=sj (bs:=bs) (R:=R);rw[nc h3] at hG;have hg:=sj (bs:=bs) (R:=w6 bs R 3);rw[Qz,na h6] at hg;exact zln hG hg h6
def ziv(h3:¬ (w6 bs R 3).err≠0)(h6:¬ (w6 bs R 6).err≠0):ob bs R=(((((uw bs 16 R).1,(uw bs 16 (w6 bs R 1)).1),(uw bs 16 (w6 bs R 2)).1),(((uw bs 16 (w6 bs R 3)).1,(uw bs 16 (w6 bs R 4)).1),(uw bs 16 (w6 bs R 5)).1)),w6 bs R 6):=by
 have hG:=sj (bs:=bs) (R:=R);rw[nc h3] at hG;have hg:=sj (bs:=bs) (R:=w6 bs R 3);rw[Qz,Yg,Yh,nc h6] at hg;exact zlm hG hg h6
def ig:ob bs R=(uOf (Ut bs R).1,(Ut bs R).2):=by
 unfold Ut;by_cases h3:(w6 bs R 3).err≠0
 ·rw[zix h3,Tx h3,na h3];dsimp only[uOf]
 ·by_cases h6:(w6 bs R 6).err≠0
  ·rw[ziw h3 h6,na h6];dsimp only[uOf]
  ·rw[ziv h3 h6,nc h6,zc6];dsimp only[uOf]
def ww{k:Nat}(hB:zry B w):
  Ret zrz 81 [rv (.slice p k c) R,.int .i64 a,.int .i64 e] w B (fun v _=>v=rv (.slice p k c) ⟨R.at_,a,e⟩):=by
 obtain⟨at_,bad,err⟩:=R;refine yo Tryz.func81 Z Tryz.ntmps81 (np Z) hB ((ZaU∘ZC∘Zg) ?_);refine bu 3 rfl fun b3 hb3=>?_;refine(Z9∘Za∘Zz∘ZcN∘Zg∘Zq∘Zz∘ZcN∘Zg∘Zy∘ZdZ∘Zab) ?_;refine yl1 L [.cell 6 166] fun u H hH hle=>?_;exact⟨_,qy Z,rfl,rfl⟩
def Ae(hB:zry B w):
  Ret zrz 84 [rv (.slice p bs.length c) R] w B (fun v _=>v=.tuple #[.int .i64 (ew bs R).1,.int .i64 (ew bs R).2]):=by
 obtain⟨at_,bad,err⟩:=R;unfold ew;dsimp only[rv];refine yo Tryz.func84 Z Tryz.ntmps84 (np Z) hB ?_;by_cases h0:err=0
 ·subst h0;by_cases h1:at_<bs.length
  ·rw[na ⟨rfl,h1⟩];refine(Z0∘Zh∘ZM∘Z8∘Zv∘Za∘Z8∘Z8∘Za1∘ZI∘Zi∘Zbd∘Z8∘ZA) ?_;exact yl2 L [.tmp 2,.tmp 3]
  ·rw[nc (fun h=>h1 h.2)];refine(Z0∘Zh∘ZM∘Z8∘Zv∘Za∘Z8∘Z8∘Za1∘Z6∘ZaT∘Zc0∘Zbp∘Zbp∘Zah∘Zav) ?_;exact yl2 L [.tmp 2,.tmp 3]
 ·rw[nc (fun h=>h0 h.1)];refine(Z0∘Zh∘ZM∘Z8∘Zn∘ZbY∘ZaT∘Zc0∘Zbp∘Zbp∘Zah∘Zav) ?_;exact yl2 L [.tmp 2,.tmp 3]
def zcn{t:U}(hB:zry B w)(hv:SlV zfz 1 ((u6 t).map Value.string) 6 fu v B):
  Ret zrz 151 [v] w B (fun r _=>r=uv t):=by
 obtain⟨⟨⟨s1,s2⟩,s3⟩,⟨⟨s4,s5⟩,s6⟩⟩:=t;refine yo Tryz.func151 Z Tryz.ntmps151 (np Z) hB (jf 0 (SlV zfz 1 [.string s1,.string s2,.string s3,.string s4,.string s5,.string s6] 6 fu) Z nw hv ((ZQ∘Zg∘Zc7∘Zag) ?_));refine z9 (yh L 0 rfl Z Z Z T Z) Z ((Zc9∘Zag) ?_);refine z9 (yh L 1 rfl Z Z Z T Z) Z ((Zc9∘Ze9∘Zag) ?_);refine z9 (yh L 2 rfl Z Z Z T Z) Z (Zc9 (h:=?_));refine z9 (yz (cs:=[_,_,_]) Z Z zlw Z Z) Z (Zag (h:=?_));refine z9 (yh L 3 rfl Z Z Z T Z) Z ((Zc9∘Zag) ?_);refine z9 (yh L 4 rfl Z Z Z T Z) Z ((Zc9∘Ze9∘Zag) ?_);refine z9 (yh L 5 rfl Z Z Z T Z) Z (Zc9 (h:=?_));refine z9 (yz (cs:=[_,_,_]) Z Z zmq Z Z) Z (z9 (yz (cs:=[_,_,_,_,_,_]) Z Z zlv Z Z) Z ((ZbQ∘ZaE) ?_));refine yl1 L [.cell 2 34] fun u H hH hle=>?_;refine Zdz (h:=?_);rfl
def NamP.mono{sv:Value}{x:List ByteArray×Rd}:Kn.mono (.sat (NamP sv x)):=TupS.mono fun φ hφ=>by
 simp only[nz,zou,or_false] at hφ;rcases hφ with rfl | rfl
 ·exact nw
 ·exact fun _ _ _ h _=>h
def prB(c:UInt8)(b:ByteArray):CH×Int:=if c=43\/c=45 then (if (ptA b).2≠0 then (zC,(ptA b).2) else (((ptA b).1,decide (c=45)),0)) else (zC,5)
def prC(s:ByteArray):CH×Int:=match s.data.toList with
 | []=>(zC,5)
 | c::l=>prB c ⟨l.toArray⟩
def zcs(c:UInt8)(b:ByteArray):prC (⟨#[c]⟩++b)=prB c b:=by
 unfold prC;have e:(⟨#[c]⟩++b:ByteArray).data.toList=c::b.data.toList:=by rw[k8];rfl
 rw[e]
def zb7(s:ByteArray):s=⟨#[]⟩\/∃ c b,s=⟨#[c]⟩++b:=by
 cases h:s.data.toList with
 | nil=>exact .inl (vq h)
 | cons c l=>exact .inr ⟨c,⟨l.toArray⟩,vq (by rw[k8,h];rfl)⟩
def zgp(hs:s.size<=1000000)(hB:zry B w)(hM:GlobM B):
  Ret zrz 65 [.string s] w B (fun v _=>v=.tuple #[cvC (prC s).1,.int .i64 (prC s).2]):=by
 rcases zb7 s with rfl | ⟨c,b,rfl⟩
 ·refine yo Tryz.func65 Z Tryz.ntmps65 (np Z) hB ((ZQ∘ZaO) ?_);refine z7 (Dg Z Z Z Z (nf Z)) Z ((ZbY∘Zbv∘Zi∘Zbd∘Zdv∘ZaV) ?_);refine yl1 L [.cell 2 42,.tmp 3] fun u H hH hle=>?_
  first | exact rfl | exact⟨_,qy rfl,rfl,rfl⟩
 ·rw[zcs];have hsz:(⟨#[c]⟩++b:ByteArray).size=1+b.size:=by rw[zno];rfl
  have hne:(⟨#[c]⟩++b:ByteArray)≠⟨#[]⟩:=fun e=>by rw[e] at hsz;have:(⟨#[]⟩:ByteArray).size=0:=rfl;omega
  have hc:(⟨#[c]⟩++b:ByteArray)[0]?=some c:=by
   show(⟨#[c]⟩++b:ByteArray).data[0]?=some c;rw[<-zpg,k8];rfl
  have x2:(⟨#[c]⟩++b:ByteArray).extract 1 (⟨#[c]⟩++b:ByteArray).size=b:=by
   have:=ar ⟨#[c]⟩ b ⟨#[]⟩ 1 (⟨#[c]⟩++b:ByteArray).size rfl (by rw[hsz];rfl);rw[show(⟨#[c]⟩++b++⟨#[]⟩:ByteArray)=⟨#[c]⟩++b from vq (by simp [k8])] at this;exact this
  generalize (⟨#[c]⟩++b:ByteArray)=s at hs hsz hne hc x2;have hb:b.size<=1000000:=I;obtain⟨t,e,ht⟩:∃ t e,ptA b=(t,e):=⟨_,_,rfl⟩
  have h255:=zfx c;by_cases h43:c=43
  ·subst h43;by_cases h0:e=0
   ·subst h0;refine yo Tryz.func65 Z Tryz.ntmps65 (np Z) hB ((ZQ∘ZaO∘Zeg∘Zb∘Za8∘Ze6∘Zbe∘ZaT∘Zx) ?_);refine z7 (jb L (kh:=.i64) (ph:=0) 1 _ Z Z Z Z ⟨rfl,rfl⟩ Z I I x2) Z (z71 L Z (fun u H hH hle=>co ht hb hH (hM.mono hle)) ?_);refine(Zcp∘Zj∘ZB∘Zaw∘ZcK∘ZdR∘Zm∘Zdp) ?_;refine z9 (ym Z Z Z Z Z) Z ((Zfy∘ZbQ∘Zav) ?_);refine yl1 L [.cell 2 42,.tmp 3] fun u H hH hle=>?_;unfold prB;rw[na (.inl rfl),ht,nc (by simp)]
    first | exact rfl | exact⟨_,qy rfl,rfl,rfl⟩
   ·refine yo Tryz.func65 Z Tryz.ntmps65 (np Z) hB ((ZQ∘ZaO∘Zeg∘Zb∘Za8∘Ze6∘Zbe∘ZaT∘Zx) ?_);refine z7 (jb L (kh:=.i64) (ph:=0) 1 _ Z Z Z Z ⟨rfl,rfl⟩ Z I I x2) Z (z71 L Z (fun u H hH hle=>co ht hb hH (hM.mono hle)) ?_);refine(Zcp∘Zj∘ZB∘ZY∘ZT∘Zdv∘Za∘ZaV) ?_;refine yl1 L [.cell 2 42,.tmp 3] fun u H hH hle=>?_;unfold prB;rw[na (.inl rfl),ht,na (by exact h0)]
    first | exact rfl | exact⟨_,qy rfl,rfl,rfl⟩
  ·have hx43:(c.toNat:Int)≠43:=fun e=>h43 (zq1.1 (by show c.toNat=43;omega));by_cases h45:c=45
   ·subst h45;by_cases h0:e=0
    ·subst h0;refine yo Tryz.func65 Z Tryz.ntmps65 (np Z) hB ((ZQ∘ZaO∘Zeg∘Zb∘Za8∘Zc8∘Zb∘Za8∘Ze6∘Zi∘ZaT∘Zx) ?_);refine z7 (jb L (kh:=.i64) (ph:=0) 1 _ Z Z Z Z ⟨rfl,rfl⟩ Z I I x2) Z (z71 L Z (fun u H hH hle=>co ht hb hH (hM.mono hle)) ?_);refine(Zcp∘Zj∘ZB∘Zaw∘ZcK∘ZdR∘Zm∘Zdp) ?_;refine z9 (ym Z Z Z Z Z) Z ((Zfy∘ZbQ∘Zav) ?_);refine yl1 L [.cell 2 42,.tmp 3] fun u H hH hle=>?_;unfold prB;rw[na (.inr rfl),ht,nc (by simp)]
     first | exact rfl | exact⟨_,qy rfl,rfl,rfl⟩
    ·refine yo Tryz.func65 Z Tryz.ntmps65 (np Z) hB ((ZQ∘ZaO∘Zeg∘Zb∘Za8∘Zc8∘Zb∘Za8∘Ze6∘Zi∘ZaT∘Zx) ?_);refine z7 (jb L (kh:=.i64) (ph:=0) 1 _ Z Z Z Z ⟨rfl,rfl⟩ Z I I x2) Z (z71 L Z (fun u H hH hle=>co ht hb hH (hM.mono hle)) ?_);refine(Zcp∘Zj∘ZB∘ZY∘ZT∘Zdv∘Za∘ZaV) ?_;refine yl1 L [.cell 2 42,.tmp 3] fun u H hH hle=>?_;unfold prB;rw[na (.inr rfl),ht,na (by exact h0)]
     first | exact rfl | exact⟨_,qy rfl,rfl,rfl⟩
   ·have hx45:(c.toNat:Int)≠45:=fun e=>h45 (zq1.1 (by show c.toNat=45;omega));refine yo Tryz.func65 Z Tryz.ntmps65 (np Z) hB ((ZQ∘ZaO∘Zeg∘Zb∘Za8∘Zc8∘Zb∘Za8∘Zc8∘Zi∘Zi∘Zbd∘Zdv∘ZaV) ?_);refine yl1 L [.cell 2 42,.tmp 3] fun u H hH hle=>?_;unfold prB;rw[nc (fun h=>h.elim h43 h45)]
    first | exact rfl | exact⟨_,qy rfl,rfl,rfl⟩
def Od(s:ByteArray)(l:List Nat):dh (g9 s++l)=s++dh l:=by
 apply vq;rw[k8];unfold dh g9;simp only[znp,zoz];show List.map (UInt8.ofNat∘fun c=>c.toNat) s.data.toList++_=s.data.toList++_;rw[zpr (g:=id) fun c _=>by simp,zp2]
def Vt:dh []=⟨#[]⟩:=rfl
def s8(h:bs[a]?=some b):bs.drop a=b::bs.drop (a+1):=by
 obtain⟨h1,h2⟩:=zoj.1 h;rw[zn0 h1,h2]
def s7{r:List Nat}(h:bs.drop a=b::r):bs[a]?=some b/\bs.drop (a+1)=r:=by
 have h1:bs[a]?=some b:=by
  have:=nh (fun l:List Nat=>l[0]?) h;simpa using this
 refine⟨h1,?_⟩;have h2:=s8 h1;rw[h] at h2;exact(List.cons.inj h2).2.symm
def ui{x r:List Nat}(h:bs.drop a=x++r):bs.drop (a+x.length)=r:=by
 rw[<-zon,h,zqa]
def X9(h:bs[R.at_]?=some n)(hn:n<128):cz bs R=(n,⟨R.at_+1,R.bad,R.err⟩):=by
 unfold cz;show i7 bs (9+1) 0 0 R=_;unfold i7;rw[h];dsimp only;rw[nc I,na hn,zq8 hn];simp
def zc4{bs:List Nat}(hb:∀ b∈bs,b<=255):∀ (f i acc:Nat) (R:Rd),f+1+i=10->R.err=0->(i7 bs (f+1) i acc R).2.err=0->
  ∃ n,i7 bs (f+1) i acc R=(acc+n*128^i,⟨R.at_+(jg n).length,R.bad,0⟩)/\bs.drop R.at_=jg n++bs.drop (R.at_+(jg n).length)/\(0<i->0<n):=by
 intro f
 induction f with
 | zero=>
  intro i acc R hi h0 h;unfold i7 at h |-
  cases hg:bs[R.at_]? with
  | none=>rw[hg] at h;dsimp only at h;unfold Rd.fail at h;rw[if_pos h0] at h;exact absurd h (show(17:Int)≠0 by decide)
  | some b=>
   rw[hg] at h;dsimp only at h |-;by_cases h1:i=9/\b≠1\/0<i/\b=0
   ·rw[if_pos h1] at h;unfold Rd.fail at h;rw[if_pos h0] at h;exact absurd h (show(5:Int)≠0 by decide)
   ·rw[nc h1];have hb1:b=1:=I;subst hb1;rw[na T];refine⟨1,?_,?_,fun _=>Nat.one_pos⟩
    ·rw[ga T,h0];rfl
    ·rw[ga T];exact s8 hg
 | succ f ih=>
  intro i acc R hi h0 h;unfold i7 at h |-
  cases hg:bs[R.at_]? with
  | none=>rw[hg] at h;dsimp only at h;unfold Rd.fail at h;rw[if_pos h0] at h;exact absurd h (show(17:Int)≠0 by decide)
  | some b=>
   rw[hg] at h;dsimp only at h |-;have hb255:=hb b (m9 hg);by_cases h1:i=9/\b≠1\/0<i/\b=0
   ·rw[if_pos h1] at h;unfold Rd.fail at h;rw[if_pos h0] at h;exact absurd h (show(5:Int)≠0 by decide)
   ·rw[nc h1] at h |-;by_cases h2:b<128
    ·rw[na h2];refine⟨b,?_,?_,fun h3=>by omega⟩
     ·rw[ga h2,h0,zq8 h2];rfl
     ·rw[ga h2];exact s8 hg
    ·rw[nc h2] at h |-;obtain⟨n,e1,e2,e3⟩:=ih (i+1) (acc+b%128*128^i) ⟨R.at_+1,R.bad,R.err⟩ I h0 h;dsimp only at e1 e2;have hn:=e3 (Nat.succ_pos i);have hbm:b%128=b-128:=I;have hg2:¬ (b-128+128*n<128):=I;have hm:(b-128+128*n)%128+128=b:=I;have hd:(b-128+128*n)/128=n:=I;refine⟨b-128+128*n,?_,?_,fun _=>by omega⟩
     ·rw[e1,ol hg2,hm,hd,ma,hbm];refine Prod.ext ?_ ?_
      ·dsimp only;rw[zpf,zof,zo1,<-zql,zpp 128 n,zql n 128,zpp 128 (128^i),zql]
      ·dsimp only;rw[show R.at_+1+(jg n).length=R.at_+((jg n).length+1) by omega]
     ·rw[ol hg2,hm,hd,ma,s8 hg,znt,show R.at_+((jg n).length+1)=R.at_+1+(jg n).length by omega];exact nh (b::·) e2
def O8{bs:List Nat}(hb:∀ b∈bs,b<=255)(h0:R.err=0)(h:(cz bs R).2.err=0):∃ n,cz bs R=(n,⟨R.at_+(jg n).length,R.bad,0⟩)/\bs.drop R.at_=jg n++bs.drop (R.at_+(jg n).length):=by
 obtain⟨n,h1,h2,_⟩:=zc4 hb 9 0 0 R rfl h0 h;refine⟨n,?_,h2⟩;unfold cz;rw[h1];simp
def Mu{R2:Rd}(h0:R.err=0)(h:cz bs R=(n,R2))(h2:R2.err=0)(hn:n<=lim)(hl:lim<=1099511627776):jy bs lim R=((n:Int),R2):=by
 have hw:vl bs lim 3 R=(n,R2):=by unfold vl;rw[h];exact if_neg M
 have hg:Q8 bs lim R=((n:Int),R2):=by
  unfold Q8;rw[hw];exact Prod.ext (xd M M) Z
 unfold jy um;rw[nc (fun h=>h h0),hg,nc (fun h=>h h2)]
def Al{bs:List Nat}(hb:∀ b∈bs,b<=255)(hl:lim<=1099511627776)(h:(jy bs lim R).2.err=0):R.err=0/\∃ n,n<=lim/\jy bs lim R=((n:Int),⟨R.at_+(jg n).length,R.bad,0⟩)/\bs.drop R.at_=jg n++bs.drop (R.at_+(jg n).length):=by
 by_cases h0:R.err=0
 ·refine⟨h0,?_⟩;by_cases h1:(cz bs R).2.err=0
  ·obtain⟨n,h2,h3⟩:=O8 hb h0 h1;by_cases hn:n<=lim
   ·exact⟨n,hn,Mu h0 h2 Z hn hl,h3⟩
   ·exfalso;have hw:vl bs lim 3 R=(n,⟨R.at_+(jg n).length,R.at_,3⟩):=by unfold vl;rw[h2];exact if_pos M
    have hg:(Q8 bs lim R).2=⟨R.at_+(jg n).length,R.at_,3⟩:=by unfold Q8;rw[hw]
    unfold jy um at h;rw[nc (fun h=>h h0),hg,na (show(3:Int)≠0 by decide)] at h;exact ni h (show(3:Int)≠0 by decide)
  ·exfalso;have hz:(cz bs R).1=0:=Bz 10 0 0 R h0 h1;have hw:vl bs lim 3 R=cz bs R:=by unfold vl;exact if_neg (by rw[hz];exact Nat.not_lt_zero _)
   have hg:(Q8 bs lim R).2=(cz bs R).2:=by unfold Q8;rw[hw]
   unfold jy um at h;rw[nc (fun h=>h h0),hg,na h1] at h;exact h1 h
 ·exfalso;unfold jy um at h;rw[na h0] at h;exact h0 h
def Qf(h:s.size<=16):iy s=s.size::g9 s:=by unfold iy;rw[ga I];rfl
def Px{l:List Nat}(h:∀ b∈l,b<=255):g9 (dh l)=l:=by
 unfold g9 dh;simp only[zoz]
 have:∀ b∈l,(UInt8.toNat∘UInt8.ofNat) b=b:=fun b hb=>by
  have:=h b hb;show(UInt8.ofNat b).toNat=b;rw[UInt8.toNat_ofNat'];omega
 rw[zpr this];exact List.map_id' l
def Lh(s:ByteArray):dh (g9 s)=s:=by
 have h:=Od s [];rw[mp,Vt] at h;rw[h];apply vq;rw[k8];simp
def zit(h0:R.err=0)(hs:s.size<=16)(hd:bs.drop R.at_=iy s++rest):uw bs 16 R=(s,⟨R.at_+(iy s).length,R.bad,0⟩):=by
 rw[Qf hs] at hd |-;obtain⟨h1,h2⟩:=s7 (r:=g9 s++rest) hd;have hln:(bs.drop R.at_).length=1+s.size+rest.length:=by rw[hd,nr,ma,vw];omega
 rw[m6] at hln;have hl:=Mu (lim:=16) h0 (X9 h1 I) h0 hs T
 have hg:Bf bs 16 R=(s,⟨R.at_+1+s.size,R.bad,R.err⟩):=by
  unfold Bf;rw[hl];dsimp only;rw[nc (by intro h;rcases h with h | h;exact h h0;omega),znu,h2,<-vw,List.take_left,Lh]
 unfold uw um;rw[nc (fun h=>h h0),hg,nc (fun h=>h h0),h0,ma,vw,show R.at_+1+s.size=R.at_+(s.size+1) by omega]
def zf1{bs:List Nat}(hb:∀ b∈bs,b<=255)(ha:R.at_<=bs.length)(h:(uw bs 16 R).2.err=0):R.err=0/\bs.drop R.at_=iy (uw bs 16 R).1++bs.drop (uw bs 16 R).2.at_:=by
 have hlen:=dt (bs:=bs) (lim:=16) ha;by_cases h0:R.err=0
 ·refine⟨h0,?_⟩
  have hG:uw bs 16 R=Bf bs 16 R/\(Bf bs 16 R).2.err=0:=by
   unfold uw um at h |-;rw[nc (fun h=>h h0)] at h |-;by_cases h1:(Bf bs 16 R).2.err≠0
   ·rw[na h1] at h;exact ni h h1
   ·rw[nc h1];exact⟨rfl,mh.1 h1⟩
  obtain⟨hG,h2⟩:=hG;rw[hG];unfold Bf at h2 |-;by_cases hc:(jy bs 16 R).2.err≠0\/((bs.length-(jy bs 16 R).2.at_:Nat):Int)<(jy bs 16 R).1
  ·exfalso;rw[na hc] at h2;dsimp only at h2;unfold Rd.fail at h2;split at h2
   ·exact ni h2 (show(17:Int)≠0 by decide)
   ·rename_i h3;exact h3 h2
  ·rw[nc hc];have hc1:(jy bs 16 R).2.err=0:=mh.1 fun h=>hc (.inl h);obtain⟨_,n,hn,e1,e2⟩:=Al hb T hc1;rw[e1] at hc hlen |-;dsimp only at hc hlen |-;rw[znu]
   have hnl:n<=bs.length-(R.at_+(jg n).length):=by
    have:¬ (((bs.length-(R.at_+(jg n).length):Nat):Int)<(n:Int)):=fun h=>hc (.inr h);omega
   have htl:((bs.drop (R.at_+(jg n).length)).take n).length=n:=by rw[mw,m6];omega
   have hbl:g9 (dh ((bs.drop (R.at_+(jg n).length)).take n))=(bs.drop (R.at_+(jg n).length)).take n:=Px fun b hb2=>hb b (zq6 (zqf hb2));have hsz:(dh ((bs.drop (R.at_+(jg n).length)).take n)).size=n:=by rw[<-vw,hbl,htl]
   unfold iy;have hdd:bs.drop (R.at_+(jg n).length+n)=(bs.drop (R.at_+(jg n).length)).drop n:=by rw[zon]
   rw[hsz,hbl,mo,hdd,znn];exact e2
 ·exfalso;unfold uw um at h;rw[na h0] at h;exact h0 h
def Aj{bs:List Nat}{R:Rd}:∀ n,w6 bs R (n+1)=w6 bs (uw bs 16 R).2 n
 | 0=>rfl
 | n+1=>by
  have h:w6 bs R (n+1+1)=(uw bs 16 (w6 bs R (n+1))).2:=rfl;rw[h,Aj n];rfl
def Fo{bs:List Nat}{R:Rd}:∀ n,Fp bs R (n+1)=(uw bs 16 R).1::Fp bs (uw bs 16 R).2 n
 | 0=>rfl
 | n+1=>by
  have h:Fp bs R (n+1+1)=Fp bs R (n+1)++[(uw bs 16 (w6 bs R (n+1))).1]:=rfl;rw[h,Fo n,Aj n];rfl
def zfb{bs rest:List Nat}:∀ {ss:List ByteArray} {R:Rd},R.err=0->(∀ s∈ss,s.size<=16)->bs.drop R.at_=we ss++rest->w6 bs R ss.length=⟨R.at_+(we ss).length,R.bad,0⟩/\Fp bs R ss.length=ss
 | [],R,h0,_,_=>by
  obtain⟨a,b,e⟩:=R;cases h0;exact⟨rfl,rfl⟩
 | s::ss,R,h0,hs,hd=>by
  have e1:we (s::ss)=iy s++we ss:=rfl;rw[e1,mo] at hd;have h1:=zit h0 (hs s (mc ..)) hd;have h2:=zfb (R:=⟨R.at_+(iy s).length,R.bad,0⟩) rfl (fun x hx=>hs x (me _ hx)) (ui hd);rw[ma,Aj,Fo,h1,e1,nr,<-zo1];dsimp only;exact⟨h2.1,nh (s::·) h2.2⟩
def Oc(l:List ByteArray)(s:ByteArray):we (l++[s])=we l++iy s:=by simp [we]
def Yf{bs:List Nat}(hb:∀ b∈bs,b<=255){R:Rd}(ha:R.at_<=bs.length):∀ n,(w6 bs R n).err=0->R.err=0/\bs.drop R.at_=we (Fp bs R n)++bs.drop (w6 bs R n).at_
 | 0,h=>⟨h,rfl⟩
 | n+1,h=>by
  have h1:w6 bs R (n+1)=(uw bs 16 (w6 bs R n)).2:=rfl;have h2:Fp bs R (n+1)=Fp bs R n++[(uw bs 16 (w6 bs R n)).1]:=rfl;rw[h1] at h |-;obtain⟨h3,h4⟩:=zf1 hb (Pb ha n) h;obtain⟨h5,h6⟩:=Yf hb ha n h3;refine⟨h5,?_⟩;rw[h2,Oc,mo,<-h4];exact h6
def Vb{t:U}(h:tE t=0):∀ s∈u6 t,s.size<=16:=by
 unfold tE at h;split at h
 ·rename_i h1;obtain⟨c1,c2,c3⟩:=Up h1;obtain⟨d1,d2,d3⟩:=Ab h;have a1:=u0 c1;have a2:=u0 c2;have a3:=u0 c3;have b1:=u0 d1;have b2:=u0 d2
  have b3:t.2.2.size<=16:=by
   rcases d3 with d3 | d3
   ·rw[d3];decide
   ·exact u0 d3
  intro s hs;simp only[u6,nz,zok,or_false] at hs;rcases hs with rfl | rfl | rfl | rfl | rfl | rfl<;>assumption
 ·rename_i h1;exact ni h h1
def ziu{t:U}(h0:R.err=0)(ht:tE t=0)(hd:bs.drop R.at_=ec t++rest):ob bs R=(t,⟨R.at_+(ec t).length,R.bad,0⟩):=by
 obtain⟨h1,h2⟩:=zfb (ss:=u6 t) h0 (Vb ht) hd;have e6:(u6 t).length=6:=rfl;rw[e6] at h1 h2;rw[ig];unfold Ut;rw[h1,h2,nc (fun h=>h rfl)];rfl
def zf5{bs:List Nat}(hb:∀ b∈bs,b<=255)(ha:R.at_<=bs.length)(h:(ob bs R).2.err=0):bs.drop R.at_=ec (ob bs R).1++bs.drop (ob bs R).2.at_:=by
 have h1:(w6 bs R 6).err=0:=by
  rw[ig] at h;unfold Ut at h;by_cases h2:(w6 bs R 6).err≠0
  ·rw[na h2] at h;exact ni h h2
  ·exact mh.1 h2
 have hn:Ut bs R=(Fp bs R 6,w6 bs R 6):=nc (fun h=>h h1);rw[ig,hn];dsimp only;unfold ec;rw[zev (r6 6)];exact(Yf hb ha 6 h1).2
def zdv(h0:R.err=0)(ha:¬ R.at_<bs.length):ew bs R=(R.bad,0):=by unfold ew;rw[if_neg (fun h=>ha h.2),h0]
def Uz{R2:Rd}(h:cz bs R=(n,R2))(hn:n<=lim):vl bs lim e R=(n,R2):=by
 unfold vl;rw[h];exact if_neg M
def zh4{k:Bool}(h0:R.err=0)(hd:bs.drop R.at_=[if k=true then 1 else 0]++rest):dv bs R=(k,⟨R.at_+1,R.bad,0⟩):=by
 obtain⟨h1,_⟩:=s7 (r:=rest) hd;have hw:=Uz (lim:=1) (e:=5) (X9 h1 (by split<;>omega)) (by split<;>omega)
 have hg:bG bs R=(k,⟨R.at_+1,R.bad,R.err⟩):=by
  unfold bG;rw[hw];cases k<;>rfl
 rw[Kh];unfold um;rw[nc (fun h=>h h0),hg,nc (fun h=>h h0),h0]
def zeb{bs:List Nat}(hb:∀ b∈bs,b<=255)(h:(dv bs R).2.err=0):R.err=0/\bs.drop R.at_=[if (dv bs R).1=true then 1 else 0]++bs.drop (dv bs R).2.at_:=by
 rw[Kh] at h |-;by_cases h0:R.err=0
 ·refine⟨h0,?_⟩
  have hG:um (bG bs) false R=bG bs R/\(bG bs R).2.err=0:=by
   unfold um at h |-;rw[nc (fun h=>h h0)] at h |-;by_cases h1:(bG bs R).2.err≠0
   ·rw[na h1] at h;exact ni h h1
   ·rw[nc h1];exact⟨rfl,mh.1 h1⟩
  obtain⟨hG,h2⟩:=hG;rw[hG];have hW:(vl bs 1 5 R).2.err=0:=h2;by_cases h1:(cz bs R).2.err=0
  ·obtain⟨n,e1,e2⟩:=O8 hb h0 h1;by_cases hn:n<=1
   ·have hw:=Uz (lim:=1) (e:=5) e1 hn;unfold bG;rw[hw];dsimp only;rw[ga I] at e2 |-;refine e2.trans ?_
    have:[n]=[if decide (n=1)=true then 1 else 0]:=by
     have:n=0\/n=1:=I;rcases this with rfl | rfl<;>rfl
    rw[this]
   ·exfalso;have hw:vl bs 1 5 R=(n,⟨R.at_+(jg n).length,R.at_,5⟩):=by unfold vl;rw[e1];exact if_pos M
    rw[hw] at hW;exact ni hW (show(5:Int)≠0 by decide)
  ·exfalso;have hz:(cz bs R).1=0:=Bz 10 0 0 R h0 h1;have hw:vl bs 1 5 R=cz bs R:=by unfold vl;exact if_neg (by rw[hz];exact Nat.not_lt_zero _)
   rw[hw] at hW;exact h1 hW
 ·exfalso;unfold um at h;rw[na h0] at h;exact h0 h
def Kd:ge bs R=if (dv bs (ob bs R).2).2.err≠0 then (((n3,n3),false),⟨R.at_,(dv bs (ob bs R).2).2.bad,(dv bs (ob bs R).2).2.err⟩) else (((ob bs R).1,(dv bs (ob bs R).2).1),(dv bs (ob bs R).2).2):=
 Bp (f:=ob bs) (g:=dv bs) (zf:=(n3,n3)) (zg:=false) (fun _ h=>vh h) (fun _ h=>vh h) R
def zkm{c:CH}(h0:R.err=0)(ht:tE c.1=0)(hd:bs.drop R.at_=chgB c++rest):ge bs R=(c,⟨R.at_+(chgB c).length,R.bad,0⟩):=by
 unfold chgB at hd;rw[mo] at hd;have h1:=ziu h0 ht hd;have h2:=zh4 (R:=⟨R.at_+(ec c.1).length,R.bad,0⟩) (k:=c.2) rfl (ui hd);rw[Kd,h1];dsimp only;rw[h2];dsimp only;rw[nc (fun h=>h rfl)];unfold chgB;rw[nr,zn1,zo1]
def za1{bs:List Nat}(hb:∀ b∈bs,b<=255)(ha:R.at_<=bs.length)(h:(ge bs R).2.err=0):bs.drop R.at_=chgB (ge bs R).1++bs.drop (ge bs R).2.at_:=by
 rw[Kd] at h |-;by_cases h1:(dv bs (ob bs R).2).2.err≠0
 ·rw[na h1] at h;exact ni h h1
 ·rw[nc h1];obtain⟨h2,h3⟩:=zeb hb (mh.1 h1);have h4:=zf5 hb ha h2;dsimp only;unfold chgB;rw[mo,<-h3];exact h4
def Sd(l:List U):Option U->List CH->Prop
 | _,[]=>True
 | la,c::cs=>tE c.1=0/\Ng la c.1=true/\decide (c.1∈l)=c.2/\Sd l (some c.1) cs
def l9(cs:List CH):List CH:=cs.filter fun c=>!c.2
def wg(cs:List CH):List CH:=cs.filter fun c=>c.2
def Nl(c:CH)(cs a:List CH):(if c.2=true then a else a++[c])++l9 cs=a++l9 (c::cs):=by
 unfold l9;cases h:c.2
 ·rw[nc T,zov (by simp [h])];simp
 ·rw[na rfl,zpk (by simp [h])]
def F2(c:CH)(cs d:List CH):(if c.2=true then d++[c] else d)++wg cs=d++wg (c::cs):=by
 unfold wg;cases h:c.2
 ·rw[nc T,zpk (by simp [h])]
 ·rw[na rfl,zov (by simp [h])];simp
def zav{bs rest:List Nat}{l:List U}:∀ {cs:List CH} {la:Option U} {a d:List CH} {R:Rd},R.err=0->Sd l la cs->bs.drop R.at_=cs.flatMap chgB++rest->
  t6 bs l cs.length la a d R=(((a++l9 cs,d++wg cs),⟨R.at_+(cs.flatMap chgB).length,R.bad,0⟩),(0,0))
 | [],la,a,d,R,h0,_,_=>by
  obtain⟨x,y,z⟩:=R;cases h0;show(((a,d),_),_)=(((a++[],d++[]),_),_);rw[mp,mp];rfl
 | c::cs,la,a,d,R,h0,hk,hd=>by
  obtain⟨k1,k2,k3,k4⟩:=hk;have e1:(c::cs).flatMap chgB=chgB c++cs.flatMap chgB:=rfl;rw[e1,mo] at hd;have h1:=zkm h0 k1 hd;rw[ma];unfold t6;rw[h1];dsimp only;rw[nc (fun h=>h rfl),nc (fun h=>h k1),k2,nc T,nc (fun h=>h k3)];rw[zav (R:=⟨R.at_+(chgB c).length,R.bad,0⟩) rfl k4 (ui hd),Nl,F2,e1,nr,zo1]
def Rq{bs:List Nat}{l:List U}(hb:∀ b∈bs,b<=255):∀ {k:Nat} {la:Option U} {a d:List CH} {R:Rd},R.err=0->R.at_<=bs.length->(t6 bs l k la a d R).2.2=0->
  ∃ cs R2,t6 bs l k la a d R=(((a++l9 cs,d++wg cs),R2),(0,0))/\cs.length=k/\Sd l la cs/\bs.drop R.at_=cs.flatMap chgB++bs.drop R2.at_/\R2.err=0/\R2.at_<=bs.length
 | 0,la,a,d,R,h0,ha,_=>⟨[],R,by show(((a,d),_),_)=(((a++[],d++[]),_),_);rw[mp,mp],rfl,nm,rfl,h0,ha⟩
 | k+1,la,a,d,R,h0,ha,he=>by
  unfold t6 at he |-;by_cases h1:(ge bs R).2.err≠0
  ·rw[na h1] at he;exact ni he h1
  ·rw[nc h1] at he |-;by_cases h2:tE (ge bs R).1.1≠0
   ·rw[na h2] at he;exact ni he (show(6:Int)≠0 by decide)
   ·rw[nc h2] at he |-;by_cases h3:Ng la (ge bs R).1.1=false
    ·rw[na h3] at he;exact ni he (show(18:Int)≠0 by decide)
    ·rw[nc h3] at he |-;by_cases h4:decide ((ge bs R).1.1∈l)≠(ge bs R).1.2
     ·rw[na h4] at he;exact ni he (show(5:Int)≠0 by decide)
     ·rw[nc h4] at he |-;have h10:=mh.1 h1;obtain⟨cs,R2,e1,e2,e3,e4,e5,e6⟩:=Rq hb h10 (Aq ha) he;refine⟨(ge bs R).1::cs,R2,by rw[e1,Nl,F2],by rw[ma,e2],⟨mh.1 h2,?_,mh.1 h4,e3⟩,?_,e5,e6⟩
      ·cases hq:Ng la (ge bs R).1.1
       ·exact ni hq h3
       ·rfl
      ·rw[za1 hb ha h10,e4,znz,mo]
def zc2(h:¬ n<128)(hi:i<=9)(hn:n*128^i<18446744073709551616):i≠9/\n/128*128^(i+1)<18446744073709551616:=by
 have h1:n/128*128^(i+1)<=n*128^i:=by
  rw[zpf,zpp (128^i) 128,<-zql];exact zot _ (Nat.div_mul_le_self n 128)
 refine⟨fun e=>?_,by omega⟩;subst e;have h9:(128:Nat)^9=9223372036854775808:=T;rw[h9] at hn;omega
def zc3(hp:0<i->0<n)(hn:n*128^i<18446744073709551616):¬ (i=9/\n≠1\/0<i/\n=0):=by
 rintro(⟨rfl,h⟩ | ⟨h1,h2⟩)
 ·have h9:(128:Nat)^9=9223372036854775808:=T;rw[h9] at hn;have:=hp T;omega
 ·have:=hp h1;omega
def zg4:∀ (f i acc n:Nat) (R:Rd),f+i=10->i<=9->n*128^i<18446744073709551616->(0<i->0<n)->bs.drop R.at_=jg n++rest->
  i7 bs f i acc R=(acc+n*128^i,⟨R.at_+(jg n).length,R.bad,R.err⟩):=by
 intro f
 induction f with
 | zero=>intro i acc n R h1 h2;omega
 | succ f ih=>
  intro i acc n R hf hi hn hp hd;unfold i7;by_cases h:n<128
  ·rw[ga h] at hd |-;obtain⟨h1,_⟩:=s7 (r:=rest) hd;rw[h1];dsimp only;rw[nc (zc3 hp hn),na h,zq8 h];rfl
  ·rw[ol h] at hd |-;obtain⟨h1,h2⟩:=s7 (r:=jg (n/128)++rest) hd;obtain⟨hi8,hq⟩:=zc2 h hi hn;have hr:=ih (i+1) (acc+(n%128+128)%128*128^i) (n/128) ⟨R.at_+1,R.bad,R.err⟩ I I hq (fun _=>by omega) h2;rw[h1];dsimp only;rw[nc I,nc I,hr];have e1:(n%128+128)%128=n%128:=I;have e2:n=n%128+128*(n/128):=I;refine Prod.ext ?_ ?_
   ·dsimp only;rw[e1,zo1,zpf];congr 1
    conv=>rhs;rw[e2]
    rw[zof,zpp 128 (n/128),zql (n/128) 128,zpp 128 (128^i)]
   ·dsimp only;rw[ma,show R.at_+1+(jg (n/128)).length=R.at_+((jg (n/128)).length+1) by omega]
def Qw(hn:n<18446744073709551616)(hd:bs.drop R.at_=jg n++rest):cz bs R=(n,⟨R.at_+(jg n).length,R.bad,R.err⟩):=by
 unfold cz;rw[zg4 10 0 0 n R rfl T I (fun h=>ni h (Nat.lt_irrefl 0)) hd];simp
def zaz(cs:List CH):List Nat:=jg cs.length++cs.flatMap chgB
def zax(h0:R.err=0)(hn:cs.length<=8192)(hk:Sd l none cs)(hs:l.length+(l9 cs).length<=4096+(wg cs).length)(hd:bs.drop R.at_=zaz cs++rest):
  au bs l R=((fe l (wg cs++l9 cs),⟨R.at_+(zaz cs).length,R.bad,0⟩),(0,0)):=by
 unfold zaz at hd;rw[mo] at hd;have h1:=Qw (n:=cs.length) I hd;rw[h0] at h1;have h2:=Mu (lim:=8192) h0 h1 rfl hn T;have h3:=zav (bs:=bs) (rest:=rest) (l:=l) (cs:=cs) (la:=none) (a:=[]) (d:=[]) (R:=⟨R.at_+(jg cs.length).length,R.bad,0⟩) rfl hk (ui hd);unfold au;rw[h2];dsimp only;rw[nc (fun h=>h rfl),znu,h3];dsimp only;rw[nc (fun h=>h rfl),mn,mn,nc I];unfold zaz;rw[nr,zo1]
def Rr{bs:List Nat}(hb:∀ b∈bs,b<=255)(ha:R.at_<=bs.length)(he:(au bs l R).2.2=0):
  R.err=0/\∃ cs,cs.length<=8192/\Sd l none cs/\l.length+(l9 cs).length<=4096+(wg cs).length/\(au bs l R).1.1=fe l (wg cs++l9 cs)/\bs.drop R.at_=zaz cs++bs.drop (au bs l R).1.2.at_:=by
 have hla:=dt (bs:=bs) (lim:=8192) ha;unfold au at he |-;by_cases h1:(jy bs 8192 R).2.err≠0
 ·rw[na h1] at he;exact ni he h1
 ·rw[nc h1] at he |-;obtain⟨h0,n,hn,e1,e2⟩:=Al hb T (mh.1 h1);refine⟨h0,?_⟩;rw[e1] at he hla |-;dsimp only at he hla |-;rw[znu] at he |-;by_cases h2:(t6 bs l n none [] [] ⟨R.at_+(jg n).length,R.bad,0⟩).2.2≠0
  ·rw[na h2] at he;exact ni he h2
  ·obtain⟨cs,R2,g1,g2,g3,g4,g5,g6⟩:=Rq hb rfl hla (mh.1 h2);rw[nc h2] at he |-;rw[g1] at he |-;dsimp only at he |-;rw[mn,mn] at he |-;by_cases h3:l.length+(l9 cs).length>4096+(wg cs).length
   ·rw[na h3] at he;exact ni he (show(3:Int)≠0 by decide)
   ·rw[nc h3];dsimp only at g4 |-;refine⟨cs,by omega,g3,by omega,rfl,?_⟩;unfold zaz;rw[g2,mo,<-g4];exact e2
open Go.V.L10
abbrev K3:=Int×Nat×List U
def Pp:List K3->Int->List U->List Nat
 | [],_,_=>[]
 | k::ks,last,s=>(jg (k.1-last).toNat++(jg k.2.1++zaz (Ev s k.2.2)))++Pp ks k.1 k.2.2
def zao(ks:List K3):List Nat:=jg ks.length++Pp ks 0 []
def tZ(S:Sto)(r:Int):List U:=(kpt S.R r).getD []
def Am(S:Sto):List K3:=(j7 S.R).map fun r=>(r,List.count r S.P,tZ S r)
structure zle(S:Sto):Prop where
 n0:S.R.length≠0
 rl:S.R.length<18446744073709551616
 k0:0<(j7 S.R).length
 kl:(j7 S.R).length<=1024
 pl:(ko S.P).length<=100000
 pb:S.P.length<=1000000000000
 tl:∀ r t,kpt S.R r=some t->t.length<=4096/\Sst jh t/\∀ x∈t,∀ s∈u6 x,s.size<=1000
def c7(h:n<18446744073709551616):(jg n).length<=10:=by
 have h128:(128:Nat)^10=1180591620717411303424:=T;exact ai 9 n I
def Nb{l:List CH}(h:∀ c∈l,∀ s∈u6 c.1,s.size<=1000):∀ i,((l.take i).flatMap chgB).length<=i*6061
 | 0=>by rw[zn6];exact nu _
 | i+1=>by
  have h1:=Nb h i;rw[zns,znw,nr]
  cases ht:l[i]? with
  | none=>
   have e:(none.toList:List CH).flatMap chgB=[]:=rfl;rw[e,m5];omega
  | some c=>
   have h2:=zd6 (h c (m9 ht));have e:((some c).toList:List CH).flatMap chgB=chgB c:=by simp
   rw[e];omega
def Uh{l:List CH}{c:CH}(h:l[i]?=some c):(l.take (i+1)).flatMap chgB=(l.take i).flatMap chgB++chgB c:=by
 rw[zns,h,znw];simp
structure DmJ(S:Sto)(T0:List Nat)(i last:Nat)(s:List U)(acc:List Nat):Prop where
 hi:i<=(j7 S.R).length
 he:acc++Pp ((Am S).drop i) last s=T0
 bz:acc.length<=10+i*50000000
 sl:s.length<=4096
 ss:Sst jh s
 sz:∀ x∈s,∀ q∈u6 x,q.size<=1000
 lb:∀ (j:Nat) (r:Int),i<=j->(j7 S.R)[j]?=some r->(last:Int)<r
def Rj(hD:zle S)(hB:zry B w)(hr:(StG b S).P B w C)(hC:ZCB C w B):
  RetY zrz 28 [A5 b] w B C (StG b S) (TupS [BsV (zao (Am S)) true,fun v _=>v=.int .i64 0]):=by
 have hkl:=hD.kl;have hpb:=hD.pb;have hk0:=hD.k0;have hzl:(Am S).length=(j7 S.R).length:=mj ..;have hn0:=c7 (n:=(j7 S.R).length) I;unfold RetY;refine xh 910 (StG b S) Tryz.func28 Z Tryz.ntmps28 (np Z) hB hr hC ((Zbj∘Zbk) ?_);refine y9 (dq L 910 (RsV (j7 S.R) true) (r:=StG b S) Z Z Z Z Z nw (fun u H2 C2 hH hle hr2 hC2=>Vz hD.n0 I hH hr2 hC2)) ((ZP∘Zam∘ZS∘Zl∘Zn∘Zo∘Zs∘ZC∘Zg) ?_);refine ku 5 900 rfl fun wb=>?_;refine Au 901 o3 1 (Ze7 (h:=?_));refine bq (X:=Value) 900 (r:=fun sv=>(GWv wb [] sv).res) (φ:=fun sv _=>Nu sv) pw (.slice none 0 0) ⟨_,_,_,rfl⟩ Z ((ZT∘Zl) ?_);refine z7 (xw Z Z Z gj.1 gj.2 (wrap_u64 I I)) Z (qh (xc L 900 (GWr wb (jg (j7 S.R).length)) (r:=GWr wb []) Z Z Z Z Z (fun u H C hH _ hr hC=>uc (bs:=[]) I T hH hr hC)) ((Zg∘ZD∘Zd1∘ZC∘Zh∘ZaF∘Zam∘ZU∘Zl∘Zcm) ?_));have hj0:DmJ S (zao (Am S)) 0 0 [] (jg (j7 S.R).length):=⟨Nat.zero_le _,by unfold zao;rw[hzl];rfl,by omega,Nat.zero_le _,Sst.nil,(fun _ h=>by cases h),fun j r _ hr=>(i8 (ug.1 (List.mem_of_getElem? hr))).1⟩
 generalize zao (Am S)=T0 at hj0 |-;refine bq (X:=SXp) 7 (r:=fun x=>gm (scs x.1) tySt) (φ:=Gp []) (jp []) ⟨(.nilFunc,none,.nilFunc,none),rfl⟩ SetV.nil Z ?_
 refine xq (fun x:Nat×Nat×List U×List Nat=>[(0,.is (A5 b)),(5,.is (kg wb)),(6,.is (.int .u64 x.2.1)),(7,.own (ExR (fun y:SXp=>gm (scs y.1) tySt) (Gp x.2.2.1) (jp _))),(25,.sat (RsV (j7 S.R) true)),(26,.is (.int .i64 (j7 S.R).length)),(27,.is (.int .i64 x.1)),(900,.own (GWr wb x.2.2.2).res),(910,.own (StG b S).res)])
  (fun x=>DmJ S T0 x.1 x.2.1 x.2.2.1 x.2.2.2) (fun x=>(j7 S.R).length-x.1) (0,0,[],jg (j7 S.R).length) hj0 ⟨rfl,rfl,rfl,rfl,rfl,rfl,rfl,rfl,rfl,nm⟩ ?_
 rintro⟨i,last,s,acc⟩ hj;dsimp only at hj |-;have hbz:=hj.bz;have hsl:=hj.sl;have hss:=hj.ss;by_cases hlt:i<(j7 S.R).length
 ·obtain⟨r,hr1⟩:=xu hlt;have hk:=ug.1 (m9 hr1);obtain⟨t,ht⟩:=zpd.1 hk;have hb1:=i8 hk;obtain⟨rn,rfl⟩:∃ rn:Nat,r=(rn:Int):=⟨r.toNat,by omega⟩
  have hcr:=zcm hr1;have hrl:=hD.rl;have hA:atS S rn=(t,0):=by unfold atS;rw[if_neg I,ht]
  obtain⟨tl,ts,tz⟩:=hD.tl _ _ ht;have hlb:=hj.lb i _ (nu _) hr1;have hws:IntKind.u64.wrap ((rn:Int)-(last:Int))=((rn-last:Nat):Int):=(wrap_u64 I I).trans I;have hcn:List.count (rn:Int) S.P<=S.P.length:=zrp;have hcw:IntKind.u64.wrap ((List.count (rn:Int) S.P:Nat):Int)=((List.count (rn:Int) S.P:Nat):Int):=wrap_u64 I I;have hzi:(Am S)[i]?=some ((rn:Int),List.count (rn:Int) S.P,t):=by unfold Am tZ;rw[List.getElem?_map,hr1];show some ((rn:Int),List.count (rn:Int) S.P,(kpt S.R rn).getD [])=_;rw[ht];rfl
  have he:=hj.he
  have hdr:(Am S).drop i=((rn:Int),List.count (rn:Int) S.P,t)::(Am S).drop (i+1):=by
   rw[zn0 I];rw[zob I] at hzi;rw[Option.some.inj hzi]
  rw[hdr] at he;unfold Pp at he;dsimp only at he;rw[show((rn:Int)-(last:Int)).toNat=rn-last by omega] at he;have hbl:=Rv s t
  have hmz:∀ c∈Ev s t,∀ q∈u6 c.1,q.size<=1000:=fun c hc=>by
   rw[u4] at hc;rcases hc.1 with h | h
   ·exact hj.sz _ h.1
   ·exact tz _ h.2
  have hbt:=zh5 hss ts;have hn1:=c7 (n:=rn-last) I;have hn2:=c7 (n:=List.count (rn:Int) S.P) I
  have hlb2:∀ (j:Nat) (r:Int),i+1<=j->(j7 S.R)[j]?=some r->(rn:Int)<r:=fun j r hij hr=>by
   have h3:=zpa.1 (cr S.R) i j hlt (get_lt hr) I;rw[gk hr1,gk hr] at h3;exact Uk.1 h3
  generalize Ev s t=m at he hbl hmz hbt;have hn3:=c7 (n:=m.length) I;have hmw:IntKind.u64.wrap ((m.length:Nat):Int)=((m.length:Nat):Int):=wrap_u64 I I
  have hcnt:∀ {v:Value} {u:World} {H:Heap},zry H u->PinsP S.P v H->Ret zrz 88 [v,.int .u64 rn] u H (fun v _=>v=.int .i64 (List.count (rn:Int) S.P:Nat)):=fun hH h1=>by
   obtain⟨sv,rfl,hsv⟩:=h1;exact iw hD.pl hH hsv
  generalize List.count (rn:Int) S.P=cnt at he hcn hcw hn2 hcnt;have hms:Kn.mono (.sat (SetV t)):=SetV.mono;have hmi:Kn.mono (.sat (fun v _=>v=Value.int .i64 0)):=fun _ _ _ h _=>h;refine(Zf∘Z7∘ZN∘ZE∘Zbn∘Za9∘Zc∘Zci) ?_;refine y9 (dq L 910 (WithE t 0) (r:=StG b S) Z Z Z Z Z WithE.mono (fun u H2 C2 hH hle hr2 hC2=>zh6 hA hD.n0 hH hr2 hC2)) ((Zk∘ZcB∘Zce∘ZC) ?_);refine z7 (cw L (X:=SXp) (fun x=>scs x.1) (Gp t) (jp _) Lq (fun x=>⟨rfl,x.2⟩) Z Z Z Z Z) Z (Zc (h:=?_));refine uu 10 rfl fun x H1 hs1 hset=>?_;obtain⟨⟨f1,p1,f2,p2⟩,hpl⟩:=x;dsimp only[scs] at hset hpl |-;refine uu 7 rfl fun x7 H2 hs2 hset7=>?_;obtain⟨⟨f3,p3,f4,p4⟩,hpl7⟩:=x7;dsimp only[scs] at hset7 hpl7 |-;have hset2:=hset.le hs2.le;refine(ZG∘ZaC) ?_;refine qh (xc L 900 (GWr wb (acc++jg (rn-last))) (r:=GWr wb acc) Z Z Z Z Z (fun u H C hH _ hr hC=>uc I I hH hr hC)) ((Zg∘ZW∘Za) ?_);refine y9 (dq L 910 (PinsP S.P) (r:=StG b S) Z Z Z Z Z PinsP.mono (fun u H2 C2 hH hle hr2 hC2=>Vx hD.n0 hH hr2 hC2)) (Za (h:=?_));refine z7 (qe (r:=.int .i64 cnt) L Z Z (zp Z) Z Z Z (fun u H hH hle _ v1 h1=>hcnt hH h1)) Z (z7 (xw Z Z Z gj.1 gj.2 (wrap_u64 I I)) Z (qh (xc L 900 (GWr wb (acc++jg (rn-last)++jg cnt)) (r:=GWr wb (acc++jg (rn-last))) Z Z Z Z Z (fun u H C hH _ hr hC=>uc I (by rw[nr];omega) hH hr hC)) ?_));refine Zg (h:=?_);refine(ZO∘Zcf∘Zcf) ?_;refine z7 (xl (φ:=KS tyC m true) L Z Z (zp Z) Z Z Z nw (fun u H hH hle _=>M7 hsl tl hss ts hbt hH (hset7.le hle) (hset2.le hle))) Z ((ZP∘Zg∘Za2∘Zl) ?_);refine z7 (xw Z Z Z gj.1 gj.2 (wrap_u64 I I)) Z (qh (xc L 900 (GWr wb (acc++jg (rn-last)++jg cnt++jg m.length)) (r:=GWr wb (acc++jg (rn-last)++jg cnt)) Z Z Z Z Z (fun u H C hH _ hr hC=>uc I (by simp only[nr];omega) hH hr hC)) ?_);refine(Zam∘Zap∘Zl∘Zcm) ?_;obtain⟨A,hA2,hAl⟩:∃ A,acc++jg (rn-last)++jg cnt++jg m.length=A/\A.length<=40+i*50000000:=⟨_,rfl,by simp only[nr];omega⟩
  rw[hA2];refine xq (fun j:Nat=>[(0,.is (A5 b)),(5,.is (kg wb)),(6,.is (.int .u64 last)),(7,.own (gm [f3,.pointer p3,f4,.pointer p4] tySt)),(9,.is (.int .u64 rn)),(10,.own (gm [f1,.pointer p1,f2,.pointer p2] tySt)),(25,.sat (RsV (j7 S.R) true)),(26,.is (.int .i64 (j7 S.R).length)),(27,.is (.int .i64 i)),(54,.sat (KS tyC m true)),(55,.is (.int .i64 m.length)),(56,.is (.int .i64 j)),(900,.own (GWr wb (A++(m.take j).flatMap chgB)).res),(910,.own (StG b S).res)]) (fun j=>j<=m.length) (fun j=>m.length-j) 0 (mf _) ⟨Z,Z,Z,Z,Z,Z,Z,Z,Z,Z,Z,Z,by rw[zn6,zqi,mp];rfl,Z,nm⟩ ?_;rintro j hjl;have hcl:=Nb hmz j;by_cases hlt2:j<m.length
  ·obtain⟨c,hc⟩:=xu hlt2;have hck:=Eu hc;have hcz:=hmz c (m9 hc);have hsn:=Uh hc;refine(Zf∘Zaf∘ZN∘ZaW∘Zbn∘Zdf∘Zbw∘Zp∘Zbb∘Zdj) ?_;refine qh (xc L 900 (GWr wb (A++(m.take j).flatMap chgB++chgB c)) (r:=GWr wb (A++(m.take j).flatMap chgB)) Z Z Z Z Z (fun u H C hH _ hr hC=>zbs hcz (by rw[nr];omega) hH hr hC)) ?_;refine(ZaJ∘Zbu∘ZbR) ?_;exact yv (x:=j) (j+1) hlt2 I ⟨Z,Z,Z,Z,Z,Z,Z,Z,Z,Z,Z,Z,by rw[hsn,<-mo];rfl,Z,nm⟩
  ·obtain rfl:j=m.length:=by omega
   rw[znq] at hcl |-;refine(Zf∘Zaf∘Zf7∘ZaG∘ZbA) ?_;refine qp (id:=20) [] kj J ((Zm∘ZcP∘Zah) ?_);refine z9 (qt L Z Z E Z) Z ((Zco∘Zax∘Zb0∘ZbR) ?_);exact ic (X:=SXp) 7 (r:=fun x=>gm (scs x.1) tySt) (jp t) ⟨(f1,p1,f2,p2),hpl⟩ hset2 Z (w5 (x:=(i,last,s,acc)) (i+1,rn,t,A++m.flatMap chgB) (hs1.trans hs2) ⟨hlt,by rw[<-he,<-hA2];unfold zaz;simp only[List.append_assoc],by rw[List.length_append];omega,tl,ts,tz,hlb2⟩ M ⟨Z,Z,Z,Z,Z,Z,Z,Z,Z,trivial⟩)
 ·obtain rfl:i=(j7 S.R).length:=by have:=hj.hi;omega
  have he:=hj.he;rw[znm I] at he;have he2:acc=T0:=by rw[<-he];exact(mp _).symm
  subst he2;refine(Zf∘Z7∘ZbB∘ZbI) ?_;refine qh (Dj L 900 GNo (BsV acc true) (r:=GWr wb acc) Z Z Z Z Z nw (fun u H C hH _ hr hC=>F0 (Ey I hH hr hC))) ((ZP∘Ze) ?_);exact Bc L 910 (r:=StG b S) (rs:=[.tmp 2,.tmp 3]) Z (fun _ _ h=>h) nq Z Z (fun H _ v hv=>zi7 hv)
def za9{la:Option U}{t:U}:Ng la t=true↔∀ y,la=some y->jh y t<0:=by
 cases la with
 | none=>exact⟨fun _ y h=>(by cases h),fun _=>rfl⟩
 | some y=>exact⟨fun h z hz=>(by cases hz;exact nj h),fun h=>nf (h y rfl)⟩
def oa{l:List U}:∀ {cs:List CH} {la:Option U},Sd l la cs↔((∀ c∈cs,tE c.1=0/\decide (c.1∈l)=c.2/\∀ y,la=some y->jh y c.1<0)/\Ku cs)
 | [],_=>⟨fun _=>⟨(fun _ h=>by cases h),Sst.nil⟩,fun _=>trivial⟩
 | c::cs,la=>by
  have ih:=oa (l:=l) (cs:=cs) (la:=some c.1);constructor
  ·rintro⟨h1,h2,h3,h4⟩;obtain⟨h4,h5⟩:=ih.1 h4;have hb:=za9.1 h2;refine⟨fun d hd=>?_,mi.2 ⟨fun a ha=>?_,h5⟩⟩
   ·rcases nz.1 hd with rfl | hd
    ·exact⟨h1,h3,hb⟩
    ·obtain⟨g1,g2,g3⟩:=h4 d hd;exact⟨g1,g2,fun y hy=>cmpT_ord.tr (hb y hy) (g3 _ Z)⟩
   ·obtain⟨d,hd,rfl⟩:=m7.1 ha;exact(h4 d hd).2.2 _ Z
  ·rintro⟨h1,h2⟩;have h3:=mi.1 h2;obtain⟨g1,g2,g3⟩:=h1 c (mc ..);exact⟨g1,za9.2 g3,g2,ih.2 ⟨fun d hd=>⟨(h1 d (me _ hd)).1,(h1 d (me _ hd)).2.1,fun y hy=>by cases hy;exact h3.1 _ (zph (f:=(·.1)) hd)⟩,h3.2⟩⟩
def s0{x:U}:∀ {l:List U},l.Nodup->x∈l->(l.filter fun z=>decide (z≠x)).length+1=l.length
 | [],_,h=>by cases h
 | y::l,hn,h=>by
  obtain⟨h1,h2⟩:=zo3.1 hn;by_cases e:y=x
  ·subst e;have he:(l.filter fun z=>decide (z≠y))=l:=zqd.2 fun a ha=>nf (fun e:a=y=>h1 (e ▸ ha));rw[zpk (by simp),ma,he]
  ·rw[zov (by simp [e]),ma,ma,s0 h2 ((nz.1 h).resolve_left fun h=>e h.symm)]
def Ei(l:List U)(c:CH)(cs:List CH):fe l (c::cs)=fe (vg l c.1 c.2).1 cs:=rfl
def tp(l:List U)(a b:List CH):fe l (a++b)=fe (fe l a) b:=List.foldl_append ..
def Ni:∀ {cs:List CH} {l:List U},SOK l->(∀ c∈cs,c.2=true/\tE c.1=0/\c.1∈l)->cs.Pairwise (fun a b=>a.1≠b.1)->SOK (fe l cs)/\(∀ z,z∈fe l cs↔z∈l/\∀ c∈cs,c.1≠z)/\(fe l cs).length+cs.length=l.length
 | [],l,h,_,_=>⟨h,fun z=>⟨fun h=>⟨h,(fun _ h=>by cases h)⟩,fun h=>h.1⟩,rfl⟩
 | c::cs,l,h,hc,hp=>by
  obtain⟨g1,g2,g3⟩:=hc c (mc ..);have hw:vg l c.1 c.2=(l.filter fun z=>decide (z≠c.1),0):=by unfold vg;rw[if_pos g2,if_pos g1]
  have hp2:=mi.1 hp;have hS:SOK (l.filter fun z=>decide (z≠c.1)):=⟨h.sst.sublist zpz,fun t ht=>h.tz t (zn7.1 ht).1,fun t ht=>h.ok t (zn7.1 ht).1⟩
  obtain⟨i1,i2,i3⟩:=Ni (cs:=cs) hS (fun d hd=>⟨(hc d (me _ hd)).1,(hc d (me _ hd)).2.1,zn7.2 ⟨(hc d (me _ hd)).2.2,nf (hp2.1 d hd).symm⟩⟩) hp2.2;rw[Ei,hw];refine⟨i1,fun z=>?_,?_⟩
  ·rw[i2,zn7];constructor
   ·rintro⟨⟨h1,h2⟩,h3⟩;exact⟨h1,fun d hd=>(nz.1 hd).elim (fun e=>by subst e;exact fun e=>nj h2 e.symm) (h3 d)⟩
   ·rintro⟨h1,h2⟩;exact⟨⟨h1,nf fun e=>h2 c (mc ..) e.symm⟩,fun d hd=>h2 d (me _ hd)⟩
  ·have:=s0 (h.sst.nodup cmpT_ord) g3;rw[ma];dsimp only at i3 |-;omega
def tz_of{t:U}(h:tE t=0):TZ t:=by
 have h6:=Vb h;obtain⟨⟨⟨a,b⟩,c⟩,⟨d,e⟩,f⟩:=t;simp only[u6,nz,zou,or_false,forall_eq_or_imp,forall_eq] at h6;unfold TZ;dsimp only;omega
def Rx:∀ {cs:List CH} {l:List U},SOK l->(∀ c∈cs,c.2=false/\tE c.1=0/\c.1∉l)->cs.Pairwise (fun a b=>a.1≠b.1)->l.length+cs.length<=4096->SOK (fe l cs)/\(∀ z,z∈fe l cs↔z∈l\/∃ c∈cs,c.1=z)/\(fe l cs).length=l.length+cs.length
 | [],l,h,_,_,_=>⟨h,fun z=>⟨.inl,fun h=>h.elim id (fun⟨_,h,_⟩=>by cases h)⟩,rfl⟩
 | c::cs,l,h,hc,hp,hn=>by
  obtain⟨g1,g2,g3⟩:=hc c (mc ..);rw[ma] at hn;have hw:vg l c.1 c.2=(ow jh c.1 l,0):=by unfold vg;rw[if_pos g2,g1,if_neg T,if_neg g3,if_neg I]
  have hp2:=mi.1 hp;have hS:SOK (ow jh c.1 l):=⟨d7 cmpT_ord h.sst g3,fun t ht=>(v7.1 ht).elim (fun e=>e ▸ tz_of g2) (h.tz t),fun t ht=>(v7.1 ht).elim (fun e=>e ▸ g2) (h.ok t)⟩
  obtain⟨i1,i2,i3⟩:=Rx (cs:=cs) hS (fun d hd=>⟨(hc d (me _ hd)).1,(hc d (me _ hd)).2.1,fun hm=>(v7.1 hm).elim (fun e=>hp2.1 d hd e.symm) (hc d (me _ hd)).2.2⟩) hp2.2 (by rw[vp];omega);rw[Ei,hw];rw[vp] at i3;refine⟨i1,fun z=>?_,by rw[List.length_cons];dsimp only at i3 |-;omega⟩;rw[i2,v7];constructor
  ·rintro((e | h) | ⟨d,hd,e⟩)
   ·exact .inr ⟨c,mc ..,e.symm⟩
   ·exact .inl h
   ·exact .inr ⟨d,me _ hd,e⟩
  ·rintro(h | ⟨d,hd,e⟩)
   ·exact .inl (.inr h)
   ·rcases nz.1 hd with rfl | hd
    ·exact .inl (.inl e.symm)
    ·exact .inr ⟨d,hd,e⟩
def lq{c:CH}:c∈l9 cs↔c∈cs/\c.2=false:=by unfold l9;rw[List.mem_filter];simp
def bf{c:CH}:c∈wg cs↔c∈cs/\c.2=true:=by unfold wg;rw[List.mem_filter]
def Rk{s:List U}{cs:List CH}(hs:SOK s)(hk:Sd s none cs):SOK (fe s (wg cs))/\(∀ z,z∈fe s (wg cs)↔z∈s/\∀ c∈cs,c.1≠z)/\(fe s (wg cs)).length+(wg cs).length=s.length:=by
 obtain⟨h1,h2⟩:=oa.1 hk;obtain⟨i1,i2,i3⟩:=Ni (cs:=wg cs) hs (fun c hc=>⟨(bf.1 hc).2,(h1 c (bf.1 hc).1).1,nj ((h1 c (bf.1 hc).1).2.1.trans (bf.1 hc).2)⟩) ((aj h2).filter _);refine⟨i1,fun z=>(i2 z).trans ⟨fun⟨h3,h4⟩=>⟨h3,fun c hc e=>?_⟩,fun⟨h3,h4⟩=>⟨h3,fun c hc=>h4 c (bf.1 hc).1⟩⟩,i3⟩
 cases hk:c.2 with
 | true=>exact h4 c (bf.2 ⟨hc,hk⟩) e
 | false=>exact of_decide_eq_false ((h1 c hc).2.1.trans hk) (e ▸ h3)
def Eh{s:List U}{cs:List CH}(hs:SOK s)(hk:Sd s none cs)(hl:s.length+(l9 cs).length<=4096+(wg cs).length):SOK (fe s (wg cs++l9 cs))/\(∀ z,z∈fe s (wg cs++l9 cs)↔(z∈s/\∀ c∈cs,c.1≠z)\/∃ c∈cs,c.2=false/\c.1=z)/\(fe s (wg cs++l9 cs)).length+(wg cs).length=s.length+(l9 cs).length:=by
 obtain⟨h1,h2⟩:=oa.1 hk;obtain⟨i1,i2,i3⟩:=Rk hs hk;obtain⟨j1,j2,j3⟩:=Rx (cs:=l9 cs) i1 (fun c hc=>⟨(lq.1 hc).2,(h1 c (lq.1 hc).1).1,fun hm=>((i2 _).1 hm).2 c (lq.1 hc).1 rfl⟩) ((aj h2).filter _) I;rw[tp];refine⟨j1,fun z=>?_,by omega⟩;rw[j2,i2];exact or_congr Iff.rfl ⟨fun⟨c,hc,e⟩=>⟨c,(lq.1 hc).1,(lq.1 hc).2,e⟩,fun⟨c,hc,h,e⟩=>⟨c,lq.2 ⟨hc,h⟩,e⟩⟩
def zar{s t:List U}(hs:SOK s)(ht:SOK t):Sd s none (Ev s t):=oa.2 ⟨fun c hc=>by
 rw[u4] at hc;exact⟨hc.1.elim (fun h=>hs.ok _ h.1) fun h=>ht.ok _ h.2,hc.2.symm,fun _ h=>by cases h⟩,Cd s t⟩
def zed{s t:List U}(hs:SOK s)(ht:SOK t):t.length+(wg (Ev s t)).length=s.length+(l9 (Ev s t)).length:=by
 obtain⟨i1,i2,i3⟩:=Rk hs (zar hs ht)
 have hp:(fe s (wg (Ev s t))++(l9 (Ev s t)).map (·.1)).Perm t:=by
  refine(List.perm_ext_iff_of_nodup (List.nodup_append.2 ⟨i1.sst.nodup cmpT_ord,?_,?_⟩) (ht.sst.nodup cmpT_ord)).2 fun z=>?_
  ·exact List.pairwise_map.2 ((aj (Cd s t)).filter _)
  ·intro a ha b hb e;obtain⟨c,hc,rfl⟩:=m7.1 hb;exact((i2 a).1 ha).2 c (lq.1 hc).1 e.symm
  ·rw[mt,i2,m7];constructor
   ·rintro(⟨h1,h2⟩ | ⟨c,hc,rfl⟩)
    ·exact zrq fun h=>h2 (z,true) (u4.2 ⟨.inl ⟨h1,h⟩,(nf h1).symm⟩) Z
    ·have h1:=lq.1 hc;have h2:=u4.1 h1.1;rcases h2.1 with h | h
     ·exact ni h.1 (of_decide_eq_false (h2.2.symm.trans h1.2))
     ·exact h.2
   ·intro hz;by_cases h1:z∈s
    ·refine .inl ⟨h1,fun c hc e=>?_⟩;subst e;rcases(u4.1 hc).1 with h | h
     ·exact h.2 hz
     ·exact h.1 h1
    ·exact .inr ⟨(z,false),lq.2 ⟨u4.2 ⟨.inr ⟨h1,hz⟩,(ng h1).symm⟩,rfl⟩,rfl⟩
 have:=hp.length_eq;rw[nr,mj] at this;omega
def zee{s t:List U}(hs:SOK s)(ht:SOK t)(lt:t.length<=4096):s.length+(l9 (Ev s t)).length<=4096+(wg (Ev s t)).length/\fe s (wg (Ev s t)++l9 (Ev s t))=t:=by
 have h0:=zed hs ht;obtain⟨i1,i2,i3⟩:=Eh hs (zar hs ht) I;refine⟨by omega,dj cmpT_ord i1.sst ht.sst fun z=>?_⟩;rw[i2];constructor
 ·rintro(⟨h1,h2⟩ | ⟨c,hc,h1,rfl⟩)
  ·exact zrq fun h=>h2 (z,true) (u4.2 ⟨.inl ⟨h1,h⟩,(nf h1).symm⟩) Z
  ·have h2:=u4.1 hc;rcases h2.1 with h | h
   ·exact ni h.1 (of_decide_eq_false (h2.2.symm.trans h1))
   ·exact h.2
 ·intro hz;by_cases h1:z∈s
  ·refine .inl ⟨h1,fun c hc e=>?_⟩;subst e;rcases(u4.1 hc).1 with h | h
   ·exact h.2 hz
   ·exact h.1 h1
  ·exact .inr ⟨(z,false),u4.2 ⟨.inr ⟨h1,hz⟩,(ng h1).symm⟩,rfl,rfl⟩
def zhw{s:List U}(hs:SOK s)(hk:Sd s none cs)(hl:s.length+(l9 cs).length<=4096+(wg cs).length):Ev s (fe s (wg cs++l9 cs))=cs:=by
 obtain⟨h1,h2⟩:=oa.1 hk;obtain⟨i1,i2,i3⟩:=Eh hs hk hl;have hsame:∀ c∈cs,∀ d∈cs,c.1=d.1->c.2=d.2:=fun c hc d hd e=>by rw[<-(h1 c hc).2.1,<-(h1 d hd).2.1,e]
 refine O9 (Cd ..) h2 fun c=>?_;rw[u4,i2];constructor
 ·rintro⟨h3,h4⟩
  have hex:∃ d∈cs,d.1=c.1:=zrq fun hn=>by
   have hno:∀ d∈cs,d.1≠c.1:=fun d hd e=>hn ⟨d,hd,e⟩;rcases h3 with ⟨g1,g2⟩ | ⟨g1,g2 | ⟨d,hd,_,e⟩⟩
   ·exact g2 (.inl ⟨g1,hno⟩)
   ·exact g1 g2.1
   ·exact hno d hd e
  obtain⟨d,hd,e⟩:=hex;have:d=c:=Prod.ext e (by rw[h4,<-(h1 d hd).2.1,e]);exact this ▸ hd
 ·intro hc;refine⟨?_,(h1 c hc).2.1.symm⟩
  cases hk:c.2 with
  | true=>
   refine .inl ⟨nj ((h1 c hc).2.1.trans hk),?_⟩;rintro(⟨_,g⟩ | ⟨d,hd,g,e⟩)
   ·exact g c hc Z
   ·rw[hsame d hd c hc e,hk] at g;cases g
  | false=>exact .inr ⟨of_decide_eq_false ((h1 c hc).2.1.trans hk),.inr ⟨c,hc,hk,rfl⟩⟩
def kzs(ks:List K3):List (Int×List U):=ks.map fun k=>(k.1,k.2.2)
def kpi(ks:List K3):List Int:=ks.flatMap fun k=>List.replicate k.2.1 k.1
def KOK:List K3->Int->Prop
 | [],_=>True
 | k::ks,last=>last<k.1/\k.1<=18446744073709551615/\k.2.1<=4096/\SOK k.2.2/\k.2.2.length<=4096/\KOK ks k.1
def zk7:SOK []:=⟨Sst.nil,(fun _ h=>by cases h),(fun _ h=>by cases h)⟩
def zjq(h0:R.err=0)(hn:n<18446744073709551616)(hd:bs.drop R.at_=jg n++rest):p9 bs R=(n,⟨R.at_+(jg n).length,R.bad,0⟩):=by
 unfold p9 um;rw[Qw hn hd,h0,nc (fun h=>h rfl)];dsimp only;rw[nc (fun h=>h rfl)]
def Yd{bs:List Nat}(hb:∀ b∈bs,b<=255)(h0:R.err=0)(h:(p9 bs R).2.err=0):∃ n,p9 bs R=(n,⟨R.at_+(jg n).length,R.bad,0⟩)/\bs.drop R.at_=jg n++bs.drop (R.at_+(jg n).length):=by
 have hq:p9 bs R=cz bs R:=by
  unfold p9 um at h |-;rw[h0,nc (fun h=>h rfl)] at h |-;by_cases h1:(cz bs R).2.err≠0
  ·rw[na h1] at h;exact ni h h1
  ·rw[nc h1]
 rw[hq] at h |-;exact O8 hb h0 h
def Y2{bs rest:List Nat}:∀ {ks:List K3} {last:Nat} {s:List U} {acc:List (Int×List U)} {Q:List Int} {R:Rd},R.err=0->SOK s->s.length<=4096->KOK ks last->bs.drop R.at_=Pp ks last s++rest->
  ldW bs ks.length last s acc Q R=(((acc++kzs ks,Q++kpi ks),⟨R.at_+(Pp ks last s).length,R.bad,0⟩),(0,0))
 | [],last,s,acc,Q,⟨a,b,e⟩,h0,_,_,_,_=>by
  dsimp only at h0;subst h0;show(((acc,Q),(⟨a,b,0⟩:Rd)),((0:Int),(0:Int)))=(((acc++[],Q++[]),⟨a+0,b,0⟩),(0,0));rw[mp,mp];rfl
 | (r,n,t)::ks,last,s,acc,Q,R,h0,hs,hl,hk,hd=>by
  obtain⟨k1,k2,k3,k4,k5,k6⟩:=hk;dsimp only at k1 k2 k3 k4 k5 k6;obtain⟨st,rfl,hst⟩:∃ st:Nat,r=((last+st:Nat):Int)/\0<st:=⟨(r-last).toNat,by omega,by omega⟩
  unfold Pp at hd |-;dsimp only at hd |-;rw[show(((last+st:Nat):Int)-(last:Int)).toNat=st by omega] at hd |-;rw[mo,mo,mo] at hd;have h1:=zjq h0 I hd;have h2:=Mu (lim:=4096) (R:=⟨R.at_+(jg st).length,R.bad,0⟩) rfl (Qw (n:=n) I (ui hd)) rfl k3 T;have hb:=zee hs k4 k5;have hbl:=Rv s t;have h3:=zax (R:=⟨R.at_+(jg st).length+(jg n).length,R.bad,0⟩) rfl I (zar hs k4) hb.1 (ui (ui hd));rw[hb.2] at h3;have ih:=Y2 (ks:=ks) (last:=last+st) (s:=t) (acc:=acc++[(((last+st:Nat):Int),t)]) (Q:=Q++List.replicate n ((last+st:Nat):Int)) (R:=⟨R.at_+(jg st).length+(jg n).length+(zaz (Ev s t)).length,R.bad,0⟩) rfl k4 k5 k6 (ui (ui (ui hd)));rw[ma];unfold ldW;rw[h1];dsimp only;rw[nc (fun h=>h rfl),nc (fun h=>h ⟨hst,by omega⟩),h2];dsimp only;rw[nc (fun h=>h rfl),h3];dsimp only;rw[nc (fun h=>h rfl),znu,ih];unfold kzs kpi;simp only[mq,znz,mo,nr,znt,mn,zo1]
def Y3{bs:List Nat}(hb:∀ b∈bs,b<=255):∀ {k last:Nat} {s:List U} {acc:List (Int×List U)} {Q:List Int} {R:Rd},R.err=0->R.at_<=bs.length->SOK s->s.length<=4096->last<=18446744073709551615->(ldW bs k last s acc Q R).2.2=0->
  ∃ ks:List K3,ks.length=k/\KOK ks last/\bs.drop R.at_=Pp ks last s++bs.drop (R.at_+(Pp ks last s).length)
 | 0,_,_,_,_,_,_,_,_,_,_,_=>⟨[],rfl,nm,rfl⟩
 | k+1,last,s,acc,Q,R,h0,ha,hs,hl,hlast,he=>by
  unfold ldW at he;by_cases c1:(p9 bs R).2.err≠0
  ·rw[na c1] at he;exact ni he c1
  ·rw[nc c1] at he;obtain⟨st,e1,e2⟩:=Yd hb h0 (mh.1 c1);have ha1:(p9 bs R).2.at_<=bs.length:=de ha (Dm ha);rw[e1] at he ha1;dsimp only at he ha1;by_cases c2:¬ (0<st/\st<=18446744073709551615-last)
   ·rw[na c2] at he;exact ni he (show(5:Int)≠0 by decide)
   ·rw[nc c2] at he;have c2':=mh.1 c2;by_cases c3:(jy bs 4096 ⟨R.at_+(jg st).length,R.bad,0⟩).2.err≠0
    ·rw[na c3] at he;exact ni he c3
    ·rw[nc c3] at he;obtain⟨_,n,hn,e3,e4⟩:=Al hb T (mh.1 c3);have ha2:=dt (bs:=bs) (lim:=4096) (R:=⟨R.at_+(jg st).length,R.bad,0⟩) ha1;rw[e3] at he ha2;dsimp only at he ha2 e4;by_cases c4:(au bs s ⟨R.at_+(jg st).length+(jg n).length,R.bad,0⟩).2.2≠0
     ·rw[na c4] at he;exact ni he c4
     ·rw[nc c4] at he;have c4':=mh.1 c4;have ha3:=Kc (l:=s) (R:=⟨R.at_+(jg st).length+(jg n).length,R.bad,0⟩) ha2;have h04:=Kb c4';obtain⟨_,cs,g1,g2,g3,g4,g5⟩:=Rr hb ha2 c4';obtain⟨i1,i2,i3⟩:=Eh hs g2 g3;have hbk:=zhw hs g2 g3;have hg:=zax (rest:=bs.drop (au bs s ⟨R.at_+(jg st).length+(jg n).length,R.bad,0⟩).1.2.at_) rfl g1 g2 g3 g5;rw[hg] at he ha3;dsimp only at he ha3;rw[hg] at g5;dsimp only at g5;have hle:(fe s (wg cs++l9 cs)).length<=4096:=I;generalize fe s (wg cs++l9 cs)=t at *;obtain⟨ks,j1,j2,j3⟩:=Y3 hb (k:=k) (R:=⟨R.at_+(jg st).length+(jg n).length+(zaz cs).length,R.bad,0⟩) rfl ha3 i1 hle I he;dsimp only at j3;refine⟨(((last+st:Nat):Int),n,t)::ks,by rw[List.length_cons,j1],⟨by dsimp only;omega,by dsimp only;omega,hn,i1,hle,j2⟩,?_⟩;unfold Pp;dsimp only;rw[show(((last+st:Nat):Int)-(last:Int)).toNat=st by omega,hbk,e2,e4,g5,j3];simp only[mo,nr,zo1]
def zj2{ks:List K3}(hk:KOK ks 0)(h0:0<ks.length)(h1:ks.length<=1024):ldF (zao ks)=((kzs ks,kpi ks),(0,0)):=by
 have hd:(zao ks).drop (⟨0,0,0⟩:Rd).at_=jg ks.length++(Pp ks (0:Nat) []++[]):=by rw[mp];rfl
 have h2:=Mu (lim:=1024) (R:=⟨0,0,0⟩) rfl (Qw (n:=ks.length) I hd) rfl h1 T;have h3:=Y2 (bs:=zao ks) (acc:=[]) (Q:=[]) (R:=⟨0+(jg ks.length).length,0,0⟩) rfl zk7 (mf _) hk (ui hd);unfold ldF;rw[h2];dsimp only;rw[nc (fun h=>h rfl),nc I,znu,h3];dsimp only;have he:ew (zao ks) ⟨0+(jg ks.length).length+(Pp ks (0:Nat) []).length,0,0⟩=(0,0):=zdv rfl (by unfold zao;rw[List.length_append];dsimp only;exact(by simp));rw[nc (fun h=>h rfl),he,nc (fun h=>h rfl)];rfl
def zhf{bs:List Nat}(hb:∀ b∈bs,b<=255)(he:(ldF bs).2.2=0):∃ ks:List K3,KOK ks 0/\0<ks.length/\ks.length<=1024/\bs=zao ks:=by
 unfold ldF at he;by_cases c1:(jy bs 1024 ⟨0,0,0⟩).2.err≠0
 ·rw[na c1] at he;exact ni he c1
 ·rw[nc c1] at he;obtain⟨_,n,hn,e1,e2⟩:=Al hb T (mh.1 c1);have ha:=dt (bs:=bs) (lim:=1024) (R:=⟨0,0,0⟩) (mf _);rw[e1] at he ha;dsimp only at he ha e2;by_cases c2:(n:Int)=0
  ·rw[na c2] at he;exact ni he (show(5:Int)≠0 by decide)
  ·rw[nc c2,znu] at he;by_cases c3:(ldW bs n 0 [] [] [] ⟨0+(jg n).length,0,0⟩).2.2≠0
   ·rw[na c3] at he;exact ni he c3
   ·obtain⟨ks,j1,j2,j3⟩:=Y3 hb (R:=⟨0+(jg n).length,0,0⟩) rfl ha zk7 (mf _) (mf _) (mh.1 c3);subst j1;have h3:=Y2 (bs:=bs) (acc:=[]) (Q:=[]) (R:=⟨0+(jg ks.length).length,0,0⟩) rfl zk7 (mf _) j2 j3;rw[nc c3,h3] at he;dsimp only at he j3;refine⟨ks,j2,by omega,hn,?_⟩;by_cases c4:(ew bs ⟨0+(jg ks.length).length+(Pp ks (0:Nat) []).length,0,0⟩).2≠0
    ·rw[na c4] at he;exact ni he c4
    ·have hend:¬ 0+(jg ks.length).length+(Pp ks (0:Nat) []).length<bs.length:=fun hlt=>c4 (by unfold ew;rw[if_pos ⟨rfl,hlt⟩];exact(show(5:Int)≠0 by decide));have hnil:bs.drop (0+(jg ks.length).length+(Pp ks (0:Nat) []).length)=[]:=znm I;rw[hnil,mp] at j3;rw[zn5,j3] at e2;exact e2
end Go.V.L11
namespace Go.V.L10
open Go.V.L2 Go.V.L8 Go.V.L6
attribute [local irreducible] RetO RetT ky RetX RetY
end Go.V.L10
namespace Go.V.L11
open Go.V.L2 Go.V.L3 Go.V.L4 Go.V.L6 Go.V.L8 Go.V.L10
abbrev zbk:TypeId:=171
abbrev KZ:=K3×Value
def kzc(z:KZ):List Value:=[.int .u64 z.1.1,.int .i64 z.1.2.1,z.2]
def zhg(z:KZ):(kzc z).length=3:=rfl
def KzOK(zs:List KZ)(H:Heap):Prop:=∀ z∈zs,US z.1.2.2 false z.2 H
def KzOK.le{zs:List KZ}{H H':Heap}(h:KzOK zs H)(hle:H.Le H'):KzOK zs H':=fun z hz=>(h z hz).le hle
abbrev KzV(zs:List KZ):Value->Heap->Prop:=SlV zbk 3 (zs.flatMap kzc) zs.length false
def KlV(ks:List K3):Value->Heap->Prop:=fun v H=>∃ zs:List KZ,zs.map (·.1)=ks/\KzOK zs H/\KzV zs v H
def KlV.le{ks:List K3}{v:Value}{H H':Heap}(h:KlV ks v H)(hle:H.Le H'):KlV ks v H':=let ⟨zs,h1,h2,h3⟩:=h;⟨zs,h1,h2.le hle,h3.le hle⟩
def zj4{zs:List KZ}{z:KZ}(h:zs[i]?=some z):((zs.flatMap kzc).drop (i*3)).take 3=[.int .u64 z.1.1,.int .i64 z.1.2.1,z.2]:=f0 zhg zs i z h
def zhh{s:Nat}{zs:List KZ}{t:List U}(h:κ s=some (.own (SlR zbk 3 (zs.length+1) (zs.flatMap kzc++[.int .u64 r,.int .i64 n,v])))):κ s=some (.own (SlR zbk 3 (zs++[((r,n,t),v)]).length ((zs++[((r,n,t),v)]).flatMap kzc))):=by
 rw[h,znw,nr];rfl
def zfd{zs:List KZ}{ks:List K3}(h:zs.map (·.1)=ks){k:K3}(hk:ks[i]?=some k):∃ v,zs[i]?=some (k,v):=by
 rw[<-h,zn4] at hk
 cases hz:zs[i]? with
 | none=>rw[hz] at hk;cases hk
 | some z=>rw[hz] at hk;cases hk;exact⟨z.2,rfl⟩
attribute [local irreducible] XP LV RetO RetT ky RetX RetY Pan ay
def _root_.ZeH(t:Wr Y->A:=by intro h;refine z9 (Fh L Z Z Z Z) Z ?_;exact h.1)(h:Y):A:=t ⟨h⟩
def zj5(S:Sto):(Am S).length=(j7 S.R).length:=mj ..
def Y9(h:(j7 S.R)[i]?=some r):(Am S)[i]?=some (r,List.count r S.P,tZ S r):=by unfold Am;rw[List.getElem?_map,h];rfl
def Sw(ks:List K3)(i:Nat):Nat:=((ks.take i).map fun k=>k.2.1).sum
def K8{ks:List K3}{k:K3}(h:ks[i]?=some k):Sw ks (i+1)=Sw ks i+k.2.1:=by
 unfold Sw;rw[zns,h,znp,List.sum_append];simp
def Vi{S:Sto}(hz:S.P.length<=1000000000000):∀ i,Sw (Am S) i<=i*1000000000000
 | 0=>by unfold Sw;rw[List.take_zero];exact Nat.le_refl _
 | i+1=>by
  have ih:=Vi hz i
  cases hk:(Am S)[i]? with
  | none=>
   have:Sw (Am S) (i+1)=Sw (Am S) i:=by unfold Sw;rw[List.take_add_one,hk];simp
   omega
  | some k=>
   rw[K8 hk];have hm:=m9 hk;unfold Am at hm;obtain⟨r,_,rfl⟩:=m7.1 hm;have:List.count r S.P<=S.P.length:=zrp;dsimp only;omega
def Vq{α:Type}(f g:α->Nat):∀ l:List α,(l.map fun x=>f x+g x).sum=(l.map f).sum+(l.map g).sum
 | []=>rfl
 | x::l=>by rw[mq,mq,mq,zqm,zqm,zqm,Vq f g l];omega
def Gj{α:Type}:∀ l:List α,(l.map fun _=>0).sum=0
 | []=>rfl
 | x::l=>by rw[mq,zqm,Gj l]
def Vp{x:Int}:∀ {l:List Int},l.Nodup->x∈l->(l.map fun r=>if x=r then 1 else 0).sum=1
 | [],_,h=>by cases h
 | y::l,hn,h=>by
  obtain⟨h1,h2⟩:=zo3.1 hn;rw[mq,zqm];by_cases e:x=y
  ·subst e;have hz:(l.map fun r=>if x=r then 1 else 0)=l.map fun _=>0:=zpr fun r hr=>nc fun(e:x=r)=>h1 (e ▸ hr);rw[na rfl,hz,Gj]
  ·rw[nc e,Vp h2 ((nz.1 h).resolve_left e)]
def E5{L:List Int}(hn:L.Nodup):∀ {P:List Int},(∀ r∈P,r∈L)->(L.map fun r=>List.count r P).sum=P.length
 | [],_=>Gj L
 | x::P,h=>by
  have hc:(L.map fun r=>List.count r (x::P))=L.map fun r=>List.count r P+(if x=r then 1 else 0):=zpr fun r _=>by
   rw[List.count_cons];by_cases e:x=r<;>simp [e]
  rw[hc,Vq,E5 hn fun r hr=>h r (me _ hr),Vp hn (h x (mc ..)),ma]
def zb0{S:Sto}(hp:∀ r∈S.P,(kpt S.R r).isSome=true):Sw (Am S) (Am S).length=S.P.length:=by
 unfold Sw;rw[znq];unfold Am;rw[zoz];exact E5 ((cr S.R).nodup lj) fun r hr=>ug.2 (hp r hr)
def zdm(h:(kpt S.R S.R.length).isSome=true):∃ n,(j7 S.R).length=n+1/\(j7 S.R)[n]?=some (S.R.length:Int):=by
 have hm:=ug.2 h;obtain⟨j,hj⟩:=zoc hm;have hjl:=get_lt hj;refine⟨(j7 S.R).length-1,by omega,?_⟩;by_cases e:j=(j7 S.R).length-1
 ·rw[<-e];exact hj
 ·obtain⟨x,hx⟩:=xu (show(j7 S.R).length-1<(j7 S.R).length by omega);have h3:=zpa.1 (cr S.R) j ((j7 S.R).length-1) hjl I I;rw[gk hj,gk hx] at h3;have h4:=Uk.1 h3;have h5:=i8 (ug.1 (m9 hx));omega
def S5{S:Sto}{zs:List KZ}(hD:zle S)(hpin:∀ r∈S.P,(kpt S.R r).isSome=true)(hend:(kpt S.R S.R.length).isSome=true)(hzs:zs.map (·.1)=Am S){v:Value}(hB:zry B w)(hok:KzOK zs B)(hv:KzV zs v B)(hr:(StG b S).P B w C)(hC:ZCB C w B):
  RetY zrz 29 [A5 b,v] w B C (StG b S) (fun v _=>v=.int .i64 1):=by
 have hne:=hD.n0;have hkl:=hD.kl;have hk0:=hD.k0;have hpb:=hD.pb;have hrl:=hD.rl;have hkn:=zj5 S;have hzl:zs.length=(j7 S.R).length:=by rw[<-hkn,<-hzs,mj]
 have htt:=zb0 hpin;rw[hkn] at htt;obtain⟨en,hen1,hen2⟩:=zdm hend;obtain⟨ve,hze⟩:=zfd hzs (Y9 hen2);have hce:=zj4 hze;dsimp only at hce;unfold RetY;refine xh 900 (StG b S) Tryz.func29 Z Tryz.ntmps29 (np Z) hB hr hC (jf 1 (KzV zs) Z nw hv ?_);rw[zf9];refine uu 900 rfl fun y H hs0 hψ=>?_;obtain⟨m,s,es⟩:=y;obtain⟨hm,hes,hps⟩:=hψ;dsimp only at hm hes hps |-;obtain⟨ps,pc,rfl⟩:=jx hps;have hlen:=hm.len;have hokH:=hok.le hs0.le;refine(Z4∘Za) ?_;refine y9 (dq L 900 (RsV (j7 S.R) true) (r:=StO b S.R.length m (.slice ps (ko S.P).length pc) S.P.length es) Z Z Z Z Z nw (fun u H2 C2 hH hle hr2 hC2=>(Rb hm hne I hH hr2 hC2).pubY Hp)) ((ZP∘Zam∘ZS∘Zl∘Zl∘Zaw∘Zs∘Zj∘ZT∘Za0) ?_);refine xq (fun i:Nat=>[(0,.is (A5 b)),(1,.sat (KzV zs)),(5,.sat (RsV (j7 S.R) true)),(6,.is (.int .i64 (Sw (Am S) i))),(7,.is (.int .i64 i)),(900,.own (StO b S.R.length m (.slice ps (ko S.P).length pc) S.P.length es).res)]) (fun i=>i<=(j7 S.R).length) (fun i=>(j7 S.R).length-i) 0 (mf _) ⟨Z,Z,Z,Z,Z,Z,nm⟩ ?_;rintro i hi;have htl:=Vi (S:=S) hpb i;by_cases hlt:i<(j7 S.R).length
 ·obtain⟨r,hr1⟩:=xu hlt;have hcr:=zcm hr1;obtain⟨v1,hz1⟩:=zfd hzs (Y9 hr1);have hc:=zj4 hz1;dsimp only at hc;have hk:=ug.1 (m9 hr1);obtain⟨t,ht⟩:=zpd.1 hk;have hb1:=i8 hk;have htz:tZ S r=t:=by unfold tZ;rw[ht];rfl
  have hus:US t false v1 H:=by have h:=hokH _ (List.mem_of_getElem? hz1);dsimp only at h;rwa [htz] at h
  obtain⟨p3,c3,rfl⟩:=jx hus;have hA:atS S r=(t,0):=by unfold atS;rw[if_neg I,ht]
  have htl4:=(hD.tl _ _ ht).1;have hct:List.count r S.P<=S.P.length:=zrp;have hsu:=K8 (Y9 hr1);dsimp only at hsu;have hwk:IntKind.i64.wrap ((i:Int)+1)=((i+1:Nat):Int):=xd I I;have hwt:IntKind.i64.wrap ((Sw (Am S) i:Int)+(List.count r S.P:Int))=((Sw (Am S) i+List.count r S.P:Nat):Int):=xd I I;have hum:Kn.mono (.sat (US t true)):=nw;refine(Zd∘ZL∘ZbN∘ZaX∘ZaM∘ZaS∘Zc3∘Za9) ?_;refine y9 (dq L 900 (WithP t 0) (r:=(StO b S.R.length m (.slice ps (ko S.P).length pc) S.P.length es)) rfl rfl rfl rfl rfl WithP.mono (fun u H2 C2 hH hle hr2 hC2=>by have h:=Li (S:=S) (r:=r) hm hne (hes.le hle) hH hr2 hC2;rw[hA] at h;exact h)) ?_;refine ff 30 rfl fun v1 H1 hs2 hp1=>?_;obtain⟨sv,rfl,hsv⟩:=hp1;obtain⟨f1,p4,f2,p5,rfl,hpl⟩:=hsv.shape;refine(ZH∘ZC∘ZcO∘Zj) ?_;refine qp (id:=9) [(200060,[900])] kj J ((Zej∘Zc9∘Zej∘ZeH∘Zc9∘Ze1∘Zt∘Ze1∘ZaA∘Zm∘ZcP) ?_);refine z9 (xl (φ:=US t true) L Z Z (zp Z) Z Z Z nw (fun u H hH hle _=>rc I hH (hsv.le hle))) Z ((Zej∘ZeH∘Zc9) ?_);refine z9 (qe L Z Z (zp Z) Z Z Z (fun u H hH hle _ v1 h1=>S6 I I (na Z) hH h1 (hus.le (hs2.le.trans hle)))) Z ((ZcD∘ZaA∘Zt) ?_);refine qz (wk L 900 (Φ:=fun H=>H b=some (.cells (stc S.R.length m (.slice ps (ko S.P).length pc) S.P.length).toArray tyS)) (c:=pnv (.slice ps (ko S.P).length pc) S.P.length) Z Z (zp Z) Z Z Z Z Z Hn (fun u H hH hle hb=>pins_ret ⟨_,_,_,rfl⟩ hne hb hH)) Z Z ((Zej∘ZeH∘Zc9) ?_);refine z91 L Z (fun u H hH hle=>iw hD.pl hH (hps.le (hs2.le.trans hle))) ?_;refine(Zej∘ZeH∘Zc9∘Ze1∘Za4∘ZcX) ?_;refine(ZG∘Za∘ZaS∘Zc3∘Za9∘ZF∘Zao∘Zax∘Z5∘ZF∘Zao) ?_;exact w5 (x:=i) (i+1) hs2 hlt I ⟨Z,Z,Z,by rw[hsu];rfl,Z,Z,nm⟩
 ·obtain rfl:i=(j7 S.R).length:=by omega
  rw[htt];have hwe:IntKind.i64.wrap ((zs.length:Int)-1)=((en:Nat):Int):=(xd I I).trans I;refine(Zd∘ZL∘Zl∘Zb8∘Zf) ?_;refine qp (id:=12) [(200082,[900]),(200088,[900])] kj J (Zm (h:=?_));refine qz (wk L 900 (Φ:=fun H=>H b=some (.cells (stc S.R.length m (.slice ps (ko S.P).length pc) S.P.length).toArray tyS)) (c:=pnv (.slice ps (ko S.P).length pc) S.P.length) Z Z (zp Z) Z Z Z Z Z Hn (fun u H hH hle hb=>pins_ret ⟨_,_,_,rfl⟩ hne hb hH)) Z Z (z91 L Z (fun u H hH hle=>Vh ⟨rfl,rfl⟩ hH) ?_);refine(Zm∘Ze1∘Zt) ?_;refine qz (wk L 900 (Φ:=fun H=>H b=some (.cells (stc S.R.length m (.slice ps (ko S.P).length pc) S.P.length).toArray tyS)) (c:=.int .u64 S.R.length) Z Z (zp Z) Z Z Z Z Z Hn (fun u H hH hle hb=>Tw hne hb hH)) Z Z ((Zag∘Zag∘ZeG∘Zdr∘Zdh∘ZeH∘Zc9∘Ze1∘Za4∘ZaL) ?_);refine(Za2∘Ze) ?_;exact Kj 900 (StG b S).res Z (Vu hm hes hps) (Bc L 900 (r:=StG b S) (rs:=[.tmp 4]) Z (fun _ _ h=>h) hs0 Z Z (fun H hle=>rfl))
open Go.V.Bd
def S9{b:Bool}(hB:zry B w):RetO zrz 25 [.bool b] w B (SlR o3 1 1 (byV [if b=true then 1 else 0])):=by
 cases b with
 | true=>
  refine wj Tryz.func25 Z Tryz.ntmps25 (np Z) hB ((ZbX∘Zbd∘Zfj) ?_);refine qh (yt (.inr Z) Z) (Zp (h:=?_));exact dw Z (fun _ _ h=>h) nq Z
 | false=>
  refine wj Tryz.func25 Z Tryz.ntmps25 (np Z) hB ((ZbX∘Zo∘Zy∘Zfj) ?_);refine qh (yt (.inr Z) Z) (Zp (h:=?_));exact dw Z (fun _ _ h=>h) nq Z
end Go.V.L11
namespace Go.V.L2
end Go.V.L2
namespace Go.V.L8
open Go.V.L2 Go.V.L3 Go.V.L6
attribute [local irreducible] RetO RetT ky
end Go.V.L8
namespace Go.V.L11
open Go.V.L2 Go.V.L3 Go.V.L4 Go.V.L6 Go.V.L8 Go.V.L10
def zi2{t:List U}(h:SOK t):∀ x∈t,∀ s∈u6 x,s.size<=1000:=fun x hx s hs=>znj (Vb (h.ok x hx) s hs) T
attribute [local irreducible] XP LV RetO RetT ky RetX RetY Pan ay
def V4(h:n<18446744073709551616)(hB:zry B w):Ret zrz 22 [.int .u64 n] w B (BsV (jg n) false):=(Qq n h hB).toRet Ho
def Lx{t:U}(ht:∀ s∈u6 t,s.size<=1000)(hB:zry B w):Ret zrz 23 [uv t] w B (BsV (ec t) false):=(V1 ht hB).toRet Ho
def S8{b:Bool}(hB:zry B w):Ret zrz 25 [.bool b] w B (BsV [if b=true then 1 else 0] false):=(S9 hB).toRet Ho
def Aw(t:Nat){P:Program}{F:Fr}{c:Code}{Q:Exit->Act->World->Prop}{a b:List Nat}(hk:κ t=some (.own (SlR o3 1 (a.length+b.length) (byV a++byV b))))(h:V P F B n O (upd κ t (.own (SlR o3 1 (a++b).length (byV (a++b))))) c Q):V P F B n O κ c Q:=
 Kj t (SlR o3 1 (a++b).length (byV (a++b))) hk (fun v H u C _ h=>by rw[za6,nr];exact h) h
abbrev zie:Nat:=37
abbrev tyI:Nat:=3
abbrev tyE:Nat:=43
def Cb{y r:ByteArray}(h:M4 y=some r)(hs:y.size<=9223372036854775807)(hB:zry B w):
  Ret zrz 130 [.string y,.string ⟨#[10]⟩] w B (fun v _=>v=.tuple #[.string r,.bool true]):=by
 have e1:=Eb h;have e:y.data.toList=r.data.toList++[10]:=by rw[e1,k8]
 have h1:Lib.hasSuffix y.data.toList [10]=true:=by
  rw[e];exact List.isSuffixOf_iff_suffix.2 (List.suffix_append _ _)
 refine Rn hs h1 ?_ hB;unfold Lib.trimSuffix;rw[na h1,e];apply vq;simp
def zaq{y:ByteArray}(h:M4 y=none)(hs:y.size<=9223372036854775807)(hB:zry B w):
  Ret zrz 130 [.string y,.string ⟨#[10]⟩] w B (fun v _=>v=.tuple #[.string y,.bool false]):=by
 have h1:Lib.hasSuffix y.data.toList [10]=false:=by
  cases hh:Lib.hasSuffix y.data.toList [10]
  ·rfl
  ·obtain⟨t,ht⟩:=List.isSuffixOf_iff_suffix.1 hh;unfold M4 at h;rw[na (by rw[<-ht];simp)] at h;cases h
 refine Rn hs h1 ?_ hB;unfold Lib.trimSuffix;rw[nc (by rw[h1];decide)]
def Tf{rd:ByteArray->U×Int}{rdf:Nat}(hfn:L.fn rdf=some ())(hs:s.size<=1000000)(hB:zry B w)
  (hrd:∀ (r:ByteArray),r.size<=1000000->∀ (u:World) (H:Heap),zry H u->B.Le H->Ret zrz rdf [.string r] u H (fun v _=>v=.tuple #[uv (rd r).1,.int .i64 (rd r).2])):
  Ret zrz 62 [.string s,.func (.func rdf) #[] #[]] w B (TupS [US (Ff rd s).1 true,fun v _=>v=.int .i64 (Ff rd s).2.1,fun v _=>v=.int .i64 (Ff rd s).2.2]):=by
 have hF:Ff rd s=a7 rd [] 1 (d6 s):=nc I;rw[hF];refine yo Tryz.func62 Z Tryz.ntmps62 (np Z) hB ((ZaU∘ZC∘ZC∘Zbz∘Z9∘Za∘ZK∘Zca∘Zy∘Zbz∘ZB) ?_);refine z7 (xl L Z Z (zp Z) Z Z Z LinAt.mono (fun u H hH _ _=>Mr hH)) Z (Zdg (h:=?_));refine ku 3 83 rfl fun b3=>?_;refine wn 83 rfl fun H1 hs1 _ hb3=>?_;refine ku 4 84 rfl fun b4=>?_;refine ku 5 85 rfl fun b5=>?_;refine ku 6 86 rfl fun b6=>?_;refine bu 7 rfl fun b7 hb7=>?_;refine Au 87 tyU 6 (Av 87 [] Z Z ?_);refine Ek 18 rfl fun v18 H2 hs2 ⟨lb,e18,hlb⟩=>?_;subst e18;have hsB:=hs1.trans hs2;have hnil:a7 rd [] 1 (t5 [])=([],0,0):=rfl
 refine dx L (gf:=198) (caps:=[kg lb]) [(3,kg b3),(4,kg b4),(5,kg b5),(6,kg b6),(7,kg b7)]
  (fun pre=>[(84,xn b4 [.slice none 0 0] zie),(85,xn b5 [.int .i64 (a7 rd [] 1 (t5 pre)).2.1] tyI),(86,xn b6 [.int .i64 (a7 rd [] 1 (t5 pre)).2.2] tyE),(87,Uv b7 zie (SlR tyU 6 (Bh rd 1 (t5 pre)).length ((Bh rd 1 (t5 pre)).flatMap ucs)))])
  (fun pre x=>[(84,.own (xn b4 [.slice none 0 0] zie)),(85,.own (xn b5 [.int .i64 (a7 rd [] 1 (t5 pre)).2.1] tyI)),(86,.own (xn b6 [.int .i64 (a7 rd [] 1 (t5 pre)).2.2] tyE)),(87,.own (Uv b7 zie (SlR tyU 6 (Bh rd 1 (t5 pre)).length ((Bh rd 1 (t5 pre)).flatMap ucs)))),
   (3,.is (kg b3)),(4,.is (kg b4)),(5,.is (kg b5)),(6,.is (kg b6)),(7,.is (kg b7)),(8,.is (x.headD undef)),(9,.is (x.tail.headD undef))])
  (pd 1 (ub (d6 s))) (fun p=>!w7 rd 1 (t5 p)) (fun _=>.ret) rfl rfl rfl ⟨rfl,rfl,rfl,rfl,rfl,rfl,rfl,rfl,rfl,nm⟩
  (fun pre p hp=>by simp only[nz,zok,or_false] at hp;rcases hp with rfl | rfl | rfl | rfl<;>exact np rfl) rfl
  (fun x hx=>by obtain⟨p,q,e⟩:=zp5 hx;obtain⟨ls,y,_,rfl,_⟩:=Fl (pre:=p) (x:=x) ⟨q,by rw[e];simp⟩;rfl) T
  (fun u H hH hle=>Ds I hH (hle _ _ hlb)) ?asg ?bd ?dn ?st
 case asg=>
  intro w1 Ln B' l' D' o pre x' hpre hstp hBB;obtain⟨ls,y,rfl,rfl,hls⟩:=Fl hpre;refine(Zf∘ZT∘Ze∘ZD∘Zao) ?_;exact Uq nq ⟨Z,Z,Z,Z,Z,Z,Z,Z,Z,Z,Z,nm⟩
 case bd=>
  intro w1 Ln B' l' D' o pre x' hpre hstp hBB;obtain⟨ls,y,rfl,rfl,hls⟩:=Fl hpre
  have hg:w7 rd 1 ls=true:=by
   have:=hstp;rw[k7] at this;simpa using this
  have e3:=rz ls y;rw[<-e3];have hb3':=hBB _ _ (hs2.le _ _ hb3)
  have hln:ls.length+1<=1000000:=by
   have h1:=hls.length_le;have h2:=sd s;rw[nr] at h1;simp at h1;omega
  have hys:y.size<=1000000:=by
   have:=Mt (s:=s) (y:=y) (hls.subset (by simp));omega
  rw[k7,Af hg,Ag hg];have hvl:(tx rd ls).length<=ls.length:=Bo;by_cases hn:4096<ls.length+1
  ·have hp:=Bv (rd:=rd) (ys:=[]) (y:=y) hg I;have hbad:w7 rd 1 (ls++[y])=false:=by rw[v6,hg];unfold Ba;simp;omega
   have how:Bh rd 1 (ls++[y])=tx rd ls:=by rw[pj hg];unfold Bh;rw[if_pos (by unfold Ba;simp;omega),List.append_nil]
   refine(Zaz∘Zd∘Z5∘ZJ∘Zr∘ZaM) ?_;refine xg (yj L (q:=84) (cs':=[.slice none 0 0]) Z Z Z Z Z) (xg (yj L (q:=85) (cs':=[.int .i64 ((ls.length+1:Nat):Int)]) Z Z Z Z Z) (xg (yj L (q:=86) (cs':=[.int .i64 3]) Z Z Z Z Z) (Zp (h:=?_))));refine tu (Eo (aw (Kq nq (by rw[k7,hbad];rfl) Z ?_)));rw[k7,hp,how,zo9 1];exact⟨Z,Z,Z,Z,nm⟩
  ·cases he:M4 y with
   | none=>
    have hp:=rt (rd:=rd) (ys:=[]) (y:=y) hg I he;have hbad:w7 rd 1 (ls++[y])=false:=by rw[v6,hg];unfold Ba;rw[he];simp
    have how:Bh rd 1 (ls++[y])=tx rd ls:=by rw[pj hg];unfold Bh;rw[if_pos (by unfold Ba;rw[he];simp),List.append_nil]
    refine(Zaz∘Zd∘Z5∘Zca∘Za3) ?_;refine z71 L Z (fun u H hH _=>zaq he I hH) ?_;refine(ZH∘Zb1∘Zcw∘Zw∘Zr∘ZG∘Za) ?_;refine xg (yj L (q:=84) (cs':=[.slice none 0 0]) Z Z Z Z Z) (xg (yj L (q:=85) (cs':=[.int .i64 ((ls.length+1:Nat):Int)]) Z Z Z Z Z) (xg (yj L (q:=86) (cs':=[.int .i64 5]) Z Z Z Z Z) (Zp (h:=?_))));refine tu (Eo (aw (Kq nq (by rw[k7,hbad];rfl) Z ?_)));rw[k7,hp,how,zo9 1];exact⟨Z,Z,Z,Z,nm⟩
   | some r=>
    have hrs:r.size<=1000000:=by
     have:=nh ByteArray.size (Eb he);rw[zno] at this;omega
    obtain⟨t,e,hrt⟩:∃ t e,rd r=(t,e):=⟨_,_,rfl⟩
    have hrr:=hrd r hrs;rw[hrt] at hrr;by_cases h0:e=0
    ·subst h0;have hgood:w7 rd 1 (ls++[y])=true:=by rw[v6,hg];unfold Ba;rw[he];simp [hrt];omega
     have hp:=Af hgood;have how:=Ag hgood;have hvs:=K2 (rd:=rd) (ls:=ls) he;rw[hrt] at hvs;refine(Zaz∘Zd∘Z5∘Zca∘Za3) ?_;refine z71 L Z (fun u H hH _=>Cb he I hH) ?_;refine(ZH∘Zb1∘Zcw∘Zw∘Zo∘ZW) ?_;refine z7 (ql L (qw Z hb3') Z Z Z Z) Z (Za (h:=?_));refine z7 (qe L Z Z (zp Z) Z Z hfn (fun u H hH hle _=>hrr u H hH (hsB.le.trans (hBB.trans hle)))) Z ((Zcp∘Zj∘ZO∘Za∘Za7∘Zas∘ZbA) ?_);refine bp 87 _ Z SlR.shape fun z hz=>?_;obtain⟨p,c,rfl⟩:=hz;refine(Zap∘Zd0) ?_;refine un 42 87 rfl rfl ((Zaq∘ZR∘ZcA) ?_);refine dc 45 87 _ rfl SlR.shape fun z hz=>?_;obtain⟨p',c',rfl⟩:=hz;refine(ZcN∘Zac∘Zau) ?_;refine Ax 87 [] Z Z (Ur nq (by rw[k7,hgood];rfl) ?_);rw[k7,hp,how,hvs,znw,nr];exact⟨Z,Z,Z,Z,nm⟩
    ·have hp:=Bw (rd:=rd) (ys:=[]) (y:=y) hg I he (by rw[hrt];exact h0);rw[hrt] at hp;have hbad:w7 rd 1 (ls++[y])=false:=by rw[v6,hg];unfold Ba;rw[he];simp [hrt,h0]
     have how:Bh rd 1 (ls++[y])=tx rd ls:=by rw[pj hg];unfold Bh;rw[if_pos (by unfold Ba;rw[he];simp [hrt,h0]),List.append_nil]
     refine(Zaz∘Zd∘Z5∘Zca∘Za3) ?_;refine z71 L Z (fun u H hH _=>Cb he I hH) ?_;refine(ZH∘Zb1∘Zcw∘Zw∘Zo∘ZW) ?_;refine z7 (ql L (qw Z hb3') Z Z Z Z) Z (Za (h:=?_));refine z7 (qe L Z Z (zp Z) Z Z hfn (fun u H hH hle _=>hrr u H hH (hsB.le.trans (hBB.trans hle)))) Z ((Zcp∘Zj∘ZO∘Za∘ZY∘Za2∘Zb) ?_);refine xg (yj L (q:=84) (cs':=[.slice none 0 0]) Z Z Z Z Z) (xg (yj L (q:=85) (cs':=[.int .i64 ((ls.length+1:Nat):Int)]) Z Z Z Z Z) (xg (yj L (q:=86) (cs':=[.int .i64 e]) Z Z Z Z Z) (Zp (h:=?_))));refine tu (Eo (aw (Kq nq (by rw[k7,hbad];rfl) Z ?_)));rw[k7,hp,how,zo9 1];exact⟨Z,Z,Z,Z,nm⟩
 case st=>
  intro l' D' o hstop;obtain⟨ks,h1,h2,h3⟩:=ed rd (d6 s) [] rfl;have h1':jm (fun p=>!w7 rd 1 (t5 p)) [] (pd 1 (ub (d6 s)))=pd 1 (ub ks):=h1;rw[h1',k7] at hstop;have hbad:w7 rd 1 ks=false:=by simpa using hstop
  have hn1:=G1 (out:=[]) hbad;have h2':a7 rd [] 1 ks=a7 rd [] 1 (d6 s):=h2;rw[h1',k7,h2'];rw[h2'] at hn1;generalize a7 rd [] 1 (d6 s)=R at hn1 |-;obtain⟨R1,R2,R3⟩:=R;dsimp only at hn1;subst hn1;refine vz 4 84 rfl Z (vz 5 85 rfl Z (vz 6 86 rfl Z ?_));refine Nn L (rs:=[.cell 4 zie,.cell 5 tyI,.cell 6 tyE]) Z (fun _ _ h=>h) hsB fun O' u H hH hle=>?_;exact je (qy Z) Z (je (qy Z) Z (je (qy Z) Z (tup3 SlV.nil Z Z)))
 case dn=>
  intro l' D' o hgo;obtain⟨ks,h1,h2,h3⟩:=ed rd (d6 s) [] rfl;have h1':jm (fun p=>!w7 rd 1 (t5 p)) [] (pd 1 (ub (d6 s)))=pd 1 (ub ks):=h1;rw[h1',k7] at hgo;have hg:w7 rd 1 ks=true:=by simpa using hgo
  have hkl:ks=d6 s:=h3 hg;have hll:=sd s;have hvl:(tx rd ks).length<=ks.length:=Bo;rw[h1',k7,<-hkl,Af hg,Ag hg];refine Zau (h:=?_);refine ZbA (h:=?_);refine bp 87 _ Z SlR.shape fun z hz=>?_;obtain⟨p,c,rfl⟩:=hz;refine(Zf∘Zaf∘Zd0) ?_;refine un 46 87 rfl rfl (ea 46 rfl ((Zd0∘Za1∘Zd0∘Za1∘ZdJ) ?_));refine ff 51 rfl fun sv H3 hs3 hsv=>?_;obtain⟨p1,c1,rfl⟩:=jx hsv;refine xg (yj L (q:=84) (cs':=[.slice p1 (tx rd ks).length c1]) rfl rfl rfl rfl rfl) (xg (yj L (q:=85) (cs':=[.int .i64 0]) rfl rfl rfl rfl rfl) (xg (yj L (q:=86) (cs':=[.int .i64 0]) rfl rfl rfl rfl rfl) (Zp (h:=?_))));refine vz 4 84 rfl Z (vz 5 85 rfl Z (vz 6 86 rfl Z ?_));refine Nn L (rs:=[.cell 4 zie,.cell 5 tyI,.cell 6 tyE]) Z (fun _ _ h=>h) (hsB.trans hs3) fun O' u H hH hle=>?_;exact je (qy Z) Z (je (qy Z) Z (je (qy Z) Z (tup3 (hsv.le hle) Z Z)))
def Tg{rd:ByteArray->CH×Int}{rdf:Nat}(hfn:L.fn rdf=some ())(hs:s.size<=1000000)(hB:zry B w)
  (hrd:∀ (r:ByteArray),r.size<=1000000->∀ (u:World) (H:Heap),zry H u->B.Le H->Ret zrz rdf [.string r] u H (fun v _=>v=.tuple #[cvC (rd r).1,.int .i64 (rd r).2])):
  Ret zrz 64 [.string s,.func (.func rdf) #[] #[]] w B (TupS [KS tyC (Ff rd s).1 true,fun v _=>v=.int .i64 (Ff rd s).2.1,fun v _=>v=.int .i64 (Ff rd s).2.2]):=by
 have hF:Ff rd s=a7 rd [] 1 (d6 s):=nc I;rw[hF];refine yo Tryz.func64 Z Tryz.ntmps64 (np Z) hB ((ZaU∘ZC∘ZC∘Zbz∘Z9∘Za∘ZK∘Zca∘Zy∘Zbz∘ZB) ?_);refine z7 (xl L Z Z (zp Z) Z Z Z LinAt.mono (fun u H hH _ _=>Mr hH)) Z (Zdg (h:=?_));refine ku 3 83 rfl fun b3=>?_;refine wn 83 rfl fun H1 hs1 _ hb3=>?_;refine ku 4 84 rfl fun b4=>?_;refine ku 5 85 rfl fun b5=>?_;refine ku 6 86 rfl fun b6=>?_;refine bu 7 rfl fun b7 hb7=>?_;refine Au 87 tyC 7 (Av 87 [] Z Z ?_);refine Ek 18 rfl fun v18 H2 hs2 ⟨lb,e18,hlb⟩=>?_;subst e18;have hsB:=hs1.trans hs2;have hnil:a7 rd [] 1 (t5 [])=([],0,0):=rfl
 refine dx L (gf:=198) (caps:=[kg lb]) [(3,kg b3),(4,kg b4),(5,kg b5),(6,kg b6),(7,kg b7)]
  (fun pre=>[(84,xn b4 [.slice none 0 0] zf0),(85,xn b5 [.int .i64 (a7 rd [] 1 (t5 pre)).2.1] tyI),(86,xn b6 [.int .i64 (a7 rd [] 1 (t5 pre)).2.2] tyE),(87,Uv b7 zf0 (SlR tyC 7 (Bh rd 1 (t5 pre)).length ((Bh rd 1 (t5 pre)).flatMap ccs)))])
  (fun pre x=>[(84,.own (xn b4 [.slice none 0 0] zf0)),(85,.own (xn b5 [.int .i64 (a7 rd [] 1 (t5 pre)).2.1] tyI)),(86,.own (xn b6 [.int .i64 (a7 rd [] 1 (t5 pre)).2.2] tyE)),(87,.own (Uv b7 zf0 (SlR tyC 7 (Bh rd 1 (t5 pre)).length ((Bh rd 1 (t5 pre)).flatMap ccs)))),
   (3,.is (kg b3)),(4,.is (kg b4)),(5,.is (kg b5)),(6,.is (kg b6)),(7,.is (kg b7)),(8,.is (x.headD undef)),(9,.is (x.tail.headD undef))])
  (pd 1 (ub (d6 s))) (fun p=>!w7 rd 1 (t5 p)) (fun _=>.ret) rfl rfl rfl ⟨rfl,rfl,rfl,rfl,rfl,rfl,rfl,rfl,rfl,nm⟩
  (fun pre p hp=>by simp only[nz,zok,or_false] at hp;rcases hp with rfl | rfl | rfl | rfl<;>exact np rfl) rfl
  (fun x hx=>by obtain⟨p,q,e⟩:=zp5 hx;obtain⟨ls,y,_,rfl,_⟩:=Fl (pre:=p) (x:=x) ⟨q,by rw[e];simp⟩;rfl) T
  (fun u H hH hle=>Ds I hH (hle _ _ hlb)) ?asg ?bd ?dn ?st
 case asg=>
  intro w1 Ln B' l' D' o pre x' hpre hstp hBB;obtain⟨ls,y,rfl,rfl,hls⟩:=Fl hpre;refine(Zf∘ZT∘Ze∘ZD∘Zao) ?_;exact Uq nq ⟨Z,Z,Z,Z,Z,Z,Z,Z,Z,Z,Z,nm⟩
 case bd=>
  intro w1 Ln B' l' D' o pre x' hpre hstp hBB;obtain⟨ls,y,rfl,rfl,hls⟩:=Fl hpre
  have hg:w7 rd 1 ls=true:=by
   have:=hstp;rw[k7] at this;simpa using this
  have e3:=rz ls y;rw[<-e3];have hb3':=hBB _ _ (hs2.le _ _ hb3)
  have hln:ls.length+1<=1000000:=by
   have h1:=hls.length_le;have h2:=sd s;rw[nr] at h1;simp at h1;omega
  have hys:y.size<=1000000:=by
   have:=Mt (s:=s) (y:=y) (hls.subset (by simp));omega
  rw[k7,Af hg,Ag hg];have hvl:(tx rd ls).length<=ls.length:=Bo;by_cases hn:4096<ls.length+1
  ·have hp:=Bv (rd:=rd) (ys:=[]) (y:=y) hg I;have hbad:w7 rd 1 (ls++[y])=false:=by rw[v6,hg];unfold Ba;simp;omega
   have how:Bh rd 1 (ls++[y])=tx rd ls:=by rw[pj hg];unfold Bh;rw[if_pos (by unfold Ba;simp;omega),List.append_nil]
   refine(Zaz∘Zd∘Z5∘ZJ∘Zr∘ZaM) ?_;refine xg (yj L (q:=84) (cs':=[.slice none 0 0]) Z Z Z Z Z) (xg (yj L (q:=85) (cs':=[.int .i64 ((ls.length+1:Nat):Int)]) Z Z Z Z Z) (xg (yj L (q:=86) (cs':=[.int .i64 3]) Z Z Z Z Z) (Zp (h:=?_))));refine tu (Eo (aw (Kq nq (by rw[k7,hbad];rfl) Z ?_)));rw[k7,hp,how,zo9 1];exact⟨Z,Z,Z,Z,nm⟩
  ·cases he:M4 y with
   | none=>
    have hp:=rt (rd:=rd) (ys:=[]) (y:=y) hg I he;have hbad:w7 rd 1 (ls++[y])=false:=by rw[v6,hg];unfold Ba;rw[he];simp
    have how:Bh rd 1 (ls++[y])=tx rd ls:=by rw[pj hg];unfold Bh;rw[if_pos (by unfold Ba;rw[he];simp),List.append_nil]
    refine(Zaz∘Zd∘Z5∘Zca∘Za3) ?_;refine z71 L Z (fun u H hH _=>zaq he I hH) ?_;refine(ZH∘Zb1∘Zcw∘Zw∘Zr∘ZG∘Za) ?_;refine xg (yj L (q:=84) (cs':=[.slice none 0 0]) Z Z Z Z Z) (xg (yj L (q:=85) (cs':=[.int .i64 ((ls.length+1:Nat):Int)]) Z Z Z Z Z) (xg (yj L (q:=86) (cs':=[.int .i64 5]) Z Z Z Z Z) (Zp (h:=?_))));refine tu (Eo (aw (Kq nq (by rw[k7,hbad];rfl) Z ?_)));rw[k7,hp,how,zo9 1];exact⟨Z,Z,Z,Z,nm⟩
   | some r=>
    have hrs:r.size<=1000000:=by
     have:=nh ByteArray.size (Eb he);rw[zno] at this;omega
    obtain⟨t,e,hrt⟩:∃ t e,rd r=(t,e):=⟨_,_,rfl⟩
    have hrr:=hrd r hrs;rw[hrt] at hrr;by_cases h0:e=0
    ·subst h0;have hgood:w7 rd 1 (ls++[y])=true:=by rw[v6,hg];unfold Ba;rw[he];simp [hrt];omega
     have hp:=Af hgood;have how:=Ag hgood;have hvs:=K2 (rd:=rd) (ls:=ls) he;rw[hrt] at hvs;refine(Zaz∘Zd∘Z5∘Zca∘Za3) ?_;refine z71 L Z (fun u H hH _=>Cb he I hH) ?_;refine(ZH∘Zb1∘Zcw∘Zw∘Zo∘ZW) ?_;refine z7 (ql L (qw Z hb3') Z Z Z Z) Z (Za (h:=?_));refine z7 (qe L Z Z (zp Z) Z Z hfn (fun u H hH hle _=>hrr u H hH (hsB.le.trans (hBB.trans hle)))) Z ((Zcp∘Zj∘ZO∘Za∘Za7∘Zas∘ZbA) ?_);refine bp 87 _ Z SlR.shape fun z hz=>?_;obtain⟨p,c,rfl⟩:=hz;refine(Zap∘Zd0) ?_;refine un 42 87 rfl rfl ((Zdj∘ZR∘Zdk) ?_);refine dc 45 87 _ rfl SlR.shape fun z hz=>?_;obtain⟨p',c',rfl⟩:=hz;refine(ZcN∘Zac∘Zau) ?_;refine Ax 87 [] Z Z (Ur nq (by rw[k7,hgood];rfl) ?_);rw[k7,hp,how,hvs,znw,nr];exact⟨Z,Z,Z,Z,nm⟩
    ·have hp:=Bw (rd:=rd) (ys:=[]) (y:=y) hg I he (by rw[hrt];exact h0);rw[hrt] at hp;have hbad:w7 rd 1 (ls++[y])=false:=by rw[v6,hg];unfold Ba;rw[he];simp [hrt,h0]
     have how:Bh rd 1 (ls++[y])=tx rd ls:=by rw[pj hg];unfold Bh;rw[if_pos (by unfold Ba;rw[he];simp [hrt,h0]),List.append_nil]
     refine(Zaz∘Zd∘Z5∘Zca∘Za3) ?_;refine z71 L Z (fun u H hH _=>Cb he I hH) ?_;refine(ZH∘Zb1∘Zcw∘Zw∘Zo∘ZW) ?_;refine z7 (ql L (qw Z hb3') Z Z Z Z) Z (Za (h:=?_));refine z7 (qe L Z Z (zp Z) Z Z hfn (fun u H hH hle _=>hrr u H hH (hsB.le.trans (hBB.trans hle)))) Z ((Zcp∘Zj∘ZO∘Za∘ZY∘Za2∘Zb) ?_);refine xg (yj L (q:=84) (cs':=[.slice none 0 0]) Z Z Z Z Z) (xg (yj L (q:=85) (cs':=[.int .i64 ((ls.length+1:Nat):Int)]) Z Z Z Z Z) (xg (yj L (q:=86) (cs':=[.int .i64 e]) Z Z Z Z Z) (Zp (h:=?_))));refine tu (Eo (aw (Kq nq (by rw[k7,hbad];rfl) Z ?_)));rw[k7,hp,how,zo9 1];exact⟨Z,Z,Z,Z,nm⟩
 case st=>
  intro l' D' o hstop;obtain⟨ks,h1,h2,h3⟩:=ed rd (d6 s) [] rfl;have h1':jm (fun p=>!w7 rd 1 (t5 p)) [] (pd 1 (ub (d6 s)))=pd 1 (ub ks):=h1;rw[h1',k7] at hstop;have hbad:w7 rd 1 ks=false:=by simpa using hstop
  have hn1:=G1 (out:=[]) hbad;have h2':a7 rd [] 1 ks=a7 rd [] 1 (d6 s):=h2;rw[h1',k7,h2'];rw[h2'] at hn1;generalize a7 rd [] 1 (d6 s)=R at hn1 |-;obtain⟨R1,R2,R3⟩:=R;dsimp only at hn1;subst hn1;refine vz 4 84 rfl Z (vz 5 85 rfl Z (vz 6 86 rfl Z ?_));refine Nn L (rs:=[.cell 4 zf0,.cell 5 tyI,.cell 6 tyE]) Z (fun _ _ h=>h) hsB fun O' u H hH hle=>?_;exact je (qy Z) Z (je (qy Z) Z (je (qy Z) Z (tup3 SlV.nil Z Z)))
 case dn=>
  intro l' D' o hgo;obtain⟨ks,h1,h2,h3⟩:=ed rd (d6 s) [] rfl;have h1':jm (fun p=>!w7 rd 1 (t5 p)) [] (pd 1 (ub (d6 s)))=pd 1 (ub ks):=h1;rw[h1',k7] at hgo;have hg:w7 rd 1 ks=true:=by simpa using hgo
  have hkl:ks=d6 s:=h3 hg;have hll:=sd s;have hvl:(tx rd ks).length<=ks.length:=Bo;rw[h1',k7,<-hkl,Af hg,Ag hg];refine Zau (h:=?_);refine ZbA (h:=?_);refine bp 87 _ Z SlR.shape fun z hz=>?_;obtain⟨p,c,rfl⟩:=hz;refine(Zf∘Zaf∘Zd0) ?_;refine un 46 87 rfl rfl (ea 46 rfl ((Zd0∘Za1∘Zd0∘Za1∘ZdJ) ?_));refine ff 51 rfl fun sv H3 hs3 hsv=>?_;obtain⟨p1,c1,rfl⟩:=jx hsv;refine xg (yj L (q:=84) (cs':=[.slice p1 (tx rd ks).length c1]) rfl rfl rfl rfl rfl) (xg (yj L (q:=85) (cs':=[.int .i64 0]) rfl rfl rfl rfl rfl) (xg (yj L (q:=86) (cs':=[.int .i64 0]) rfl rfl rfl rfl rfl) (Zp (h:=?_))));refine vz 4 84 rfl Z (vz 5 85 rfl Z (vz 6 86 rfl Z ?_));refine Nn L (rs:=[.cell 4 zf0,.cell 5 tyI,.cell 6 tyE]) Z (fun _ _ h=>h) (hsB.trans hs3) fun O' u H hH hle=>?_;exact je (qy Z) Z (je (qy Z) Z (je (qy Z) Z (tup3 (hsv.le hle) Z Z)))
def ru{φ:Value->Heap->Prop}{a b:Value}(h:Kn.mono (.sat φ)):Kn.mono (.sat (TupS [φ,fun v _=>v=a,fun v _=>v=b])):=TupS.mono fun ψ hψ=>by
 simp only[nz,zok,or_false] at hψ;rcases hψ with rfl | rfl | rfl
 ·exact h
 ·exact fun _ _ _ h _=>h
 ·exact fun _ _ _ h _=>h
def Sf(hs:s.size<=1000000)(hB:zry B w)(hM:GlobM B):
  Ret zrz 16 [.string s] w B (TupS [US (Ff ptA s).1 true,fun v _=>v=.int .i64 (Ff ptA s).2.1,fun v _=>v=.int .i64 (Ff ptA s).2.2]):=by
 have hmo:Kn.mono (.sat (US (Ff ptA s).1 true)):=nw;refine yo Tryz.func16 Z Tryz.ntmps16 (np Z) hB ((Zbj∘Zh∘Zbk) ?_);refine z7 (xl L Z Z (zp Z) Z Z Z (ru nw) (fun u H hH hle _=>Tf (rd:=ptA) Z hs hH (fun r hr u2 H2 hH2 hle2=>co Z hr hH2 (hM.mono (hle.trans hle2))))) Z ((ZcB∘Zce∘Zce∘ZP∘ZA) ?_);refine yl1 L [.tmp 2,.tmp 3,.tmp 4] fun u H hH hle=>?_;exact fun a h=>tup3 h Z Z
def Gb(hs:s.size<=1000000)(hB:zry B w)(hM:GlobM B):
  Ret zrz 17 [.string s] w B (TupS [KS tyC (Ff prC s).1 true,fun v _=>v=.int .i64 (Ff prC s).2.1,fun v _=>v=.int .i64 (Ff prC s).2.2]):=by
 have hmo:Kn.mono (.sat (KS tyC (Ff prC s).1 true)):=nw;refine yo Tryz.func17 Z Tryz.ntmps17 (np Z) hB ((Zbj∘Zh∘Zbk) ?_);refine z7 (xl L Z Z (zp Z) Z Z Z (ru nw) (fun u H hH hle _=>Tg (rd:=prC) Z hs hH (fun r hr u2 H2 hH2 hle2=>zgp hr hH2 (hM.mono (hle.trans hle2))))) Z ((ZcB∘Zce∘Zce∘ZP∘ZA) ?_);refine yl1 L [.tmp 2,.tmp 3,.tmp 4] fun u H hH hle=>?_;exact fun a h=>tup3 h Z Z
end Go.V.L11
end
variable{ks:List Go.V.L11.K3}
namespace Go.V
abbrev zfl(s:ByteArray):List Value:=s.data.toList.map fun c:UInt8=>Value.int .u8 (c.toNat:Int)
section
variable {P:Program} {F:Fr}      {d:Nat}     {x:Operand} 
def Xv{src dst e:TypeId}(hn:Nat.blt d n=true)(hg:gK ops κ ⟨some d,.convert src dst x,ty,pos,aft,g⟩=some true)(hx:evK κ x=some (.string s))(hs:P.underlying src=some .string)(hd:P.underlying dst=some (.slice e))(he:P.underlying e=some (.int .u8)):
  StepOK P F B n ops O κ ⟨some d,.convert src dst x,ty,pos,aft,g⟩ d (.sat (SlV e 1 (zfl s) s.size false)):=by
 rintro κ' a u hl ⟨H,fp,hh⟩;unfold After;rw[na (xk hh hl hg)];have en:=hh.env hl;have h1:=en.is_ x _ (by simp [Op.operands]) hx;have hr:=run_bytes_of_string (P:=P) u src dst e s hs hd he;generalize hcap:grownCap u s.size 0 e=cap at hr;generalize hfr:((bytesRow s cap).size,(bytesRow s cap).size+1)=fr at hr
 have hrun:(execOp a.eval ⟨some d,.convert src dst x,ty,pos,aft,g⟩).run P u=.ok (.value (.slice (some ⟨u.heap.size,0,none⟩) s.size cap)) (u.drew.alloc (.cells (bytesRow s cap) e fr)):=by
  simp only[execOp,h1,ny,hr,mb];rfl
 rw[hrun];simp only[Upon];have hcl:s.size<=cap:=by subst hcap;exact grownCap_ge u s.size 0 e
 have hg2:=(hh.drew).grow (Grow.hid (hh.drew).sub (.cells (bytesRow s cap) e fr));have hval:(a.put (some d) (.slice (some ⟨u.heap.size,0,none⟩) s.size cap)).eval (.tmp d)=.slice (some ⟨u.heap.size,0,none⟩) s.size cap:=xy (by rw[hh.size];exact zp hn)
 have h2:=hg2.putR (d:=d) (r:=⟨fun v H u' C=>v=.slice (some ⟨u.heap.size,0,none⟩) s.size cap/\C u.heap.size,fun h _ _ _ _=>h⟩) (C:=fun k=>k=u.heap.size) (a':=a.put (some d) (.slice (some ⟨u.heap.size,0,none⟩) s.size cap)) (by simp [Act.put]) rfl (fun t ht=>xv ht) ⟨hval,rfl⟩ (fun k hk=>by
  subst hk;exact⟨xi (xr u.drew _),ja hh.sub (nu _),.inl hh.keep.size,fun y hy e=>by have:=xi (hh.boxes y hy).1;omega⟩) fun t r' _ ht k hf hk=>by
  have:=((hh.slot t _ ht).2 k hf).1;omega
 obtain⟨H',h3⟩:=h2.pub (t:=d) (b:=u.heap.size) (φ:=SlV e 1 (zfl s) s.size false) (xo ..) (xr u.drew _) (by simp [fpu]) nw fun H' _ hb=>by
  rw[hval];refine⟨by rw[mj,zo6,zoe];rfl,.inr ⟨u.heap.size,0,cap,_,_,_,rfl,hb,?_,hcl,fun h=>by cases h⟩⟩;rw[zn5,mj];unfold bytesRow;rw[Array.toList_append,Array.toList_map,zqq (by simp)];rw[znl (by simp)]
 rw[j8] at h3;exact⟨H',_,h3⟩
end
end Go.V
namespace Go.V.L11
open Go.V.L2 Go.V.L4 Go.V.L6 Go.V.L8 Go.V.L10
abbrev zmo:ByteArray:=⟨#[100,111,99,58,97,35,118,105,101,119,101,114,64,117,115,101,114,58,120]⟩
abbrev zm3:ByteArray:=⟨#[100,111,99,58,98,35,118,105,101,119,101,114,64,117,115,101,114,58,120]⟩
abbrev zmn:ByteArray:=⟨#[100,111,99,58,97,35,118,105,101,119,101,114,64,117,115,101,114,58,120,10]⟩
abbrev zm2:ByteArray:=⟨#[43,100,111,99,58,97,35,118,105,101,119,101,114,64,117,115,101,114,58,120,10,45,100,111,99,58,98,35,118,105,101,119,101,114,64,117,115,101,114,58,120,10]⟩
def wrS:List ByteArray:=[⟨#[0]⟩,⟨#[1,0]⟩,⟨#[1,1,0,0,7]⟩,⟨#[1,1]⟩]
def wrA:List Int:=[0,1,4,2]
def zm8:Vk [d0]=(zmn,0):=by decide+kernel
def znb:Vj [(d0,false),(d2,true)]=(zm2,0):=by decide+kernel
def zna:Ff ptA zmo=([],1,5):=by decide+kernel
def zm9:Ff prC zmn=([],1,5):=J
def Se{l:List U}(h:Vk l=(s,e))(hz:∀ t∈l,TZ t)(hs:∀ t∈l,(Bj t).size<=1000)(hB:zry B w)(hv:US l fu v B):
  Ret zrz 12 [v] w B (fun r _=>r=.tuple #[.string s,.int .i64 e]):=by
 have:=Uw hz hs hB hv;rw[h] at this;exact this
def Nw{l:List CH}(h:Vj l=(s,e))(hz:∀ t∈l,TZ t.1)(hs:∀ t∈l,(Bl t).size<=1000)(hB:zry B w)(hv:KS tyC l fu v B):
  Ret zrz 13 [v] w B (fun r _=>r=.tuple #[.string s,.int .i64 e]):=by
 have:=Si hz hs hB hv;rw[h] at this;exact this
def Nv(h:Ff ptA s=(l,n,e))(hs:s.size<=1000000)(hB:zry B w)(hM:GlobM B):
  Ret zrz 16 [.string s] w B (TupS [US l true,fun v _=>v=.int .i64 n,fun v _=>v=.int .i64 e]):=by
 have:=Sf hs hB hM;rw[h] at this;exact this
def Er{l:List CH}(h:Ff prC s=(l,n,e))(hs:s.size<=1000000)(hB:zry B w)(hM:GlobM B):
  Ret zrz 17 [.string s] w B (TupS [KS tyC l true,fun v _=>v=.int .i64 n,fun v _=>v=.int .i64 e]):=by
 have:=Gb hs hB hM;rw[h] at this;exact this
abbrev LdE(a e:Int):Value->Heap->Prop:=fun r _=>r=.tuple #[.pointer none,.int .i64 a,.int .i64 e]
attribute [local irreducible] V N X VO Par XP LV StepOK Has Ret RetL RetO RetT ky RetX RetY Pan ay Src
end Go.V.L11
namespace Go.V
inductive Ay where
 | s
 | b
 | i (k:IntKind)
def zk3:Ay->Value->Prop
 | .s,v=>∃ a:ByteArray,v=.string a/\a.size<=maxLen
 | .b,v=>∃ c,v=.bool c
 | .i k,v=>∃ n,v=.int k n/\(Lit.int k n).wf=true
def LeafsOK:List Ay->List Value->Prop
 | [],[]=>True
 | l::ls,v::vs=>zk3 l v/\LeafsOK ls vs
 | _,_=>False
def LeafsOK.append:∀ {a b:List Ay} {x y:List Value},LeafsOK a x->LeafsOK b y->LeafsOK (a++b) (x++y)
 | [],_,[],_,_,h=>h
 | [],_,_::_,_,h,_=>h.elim
 | _::_,_,[],_,h,_=>h.elim
 | _::_,_,_::_,_,h,k=>⟨h.1,LeafsOK.append h.2 k⟩
def LeafsOK.length:∀ {a:List Ay} {x:List Value},LeafsOK a x->x.length=a.length
 | [],[],_=>rfl
 | [],_::_,h=>h.elim
 | _::_,[],h=>h.elim
 | _::_,_::_,h=>by simp [LeafsOK.length h.2]
def Yy{k:IntKind}{ls:List Ay}{vs:List Value}(h:LeafsOK (.i k::ls) vs):∃ n r,vs=.int k n::r/\(Lit.int k n).wf=true/\LeafsOK ls r:=by
 cases vs with
 | nil=>exact h.elim
 | cons v vs=>obtain⟨⟨a,rfl,ha⟩,h⟩:=h;exact⟨a,vs,rfl,ha,h⟩
def Q9{vs:List Value}(h:LeafsOK [] vs):vs=[]:=by
 cases vs with
 | nil=>rfl
 | cons _ _=>exact h.elim
def zdi(P:Program)(rec:TypeId->Option (List Ay)):List Field->Nat->Option (List Ay)
 | [],_=>some []
 | f::fs,off=>match rec f.type with
  | some ls=>if f.offset=off/\P.cellsOf f.type=ls.length then
    match zdi P rec fs (off+ls.length) with
    | some r=>some (ls++r)
    | none=>none
   else none
  | none=>none
def ze3(ls:List Ay):Nat->List Ay
 | 0=>[]
 | n+1=>ls++ze3 ls n
def Pf(P:Program):Nat->TypeId->Option (List Ay)
 | 0,_=>none
 | d+1,t=>match P.underlying t with
  | some .string=>some [.s]
  | some (.int k)=>some [.i k]
  | some .bool=>some [.b]
  | some (.struct fs)=>match zdi P (Pf P d) fs.toList 0 with
   | some ls=>if P.cellsOf t=ls.length then some ls else none
   | none=>none
  | some (.array n e)=>match Pf P d e with
   | some ls=>if P.cellsOf e=ls.length/\P.cellsOf t=(ze3 ls n).length then some (ze3 ls n) else none
   | none=>none
  | _=>none
def Hg{α β:Type}{f:α->Option β}:∀ {l:List α} {ys:List β},l.mapM f=some ys->∃ g:List β,g=ys/\(∀ x∈l,∃ y,f x=some y/\y∈ys)/\(∀ y∈ys,∃ x∈l,f x=some y)
 | [],ys,h=>by
  simp at h;subst h;exact⟨_,rfl,by simp,by simp⟩
 | x::l,ys,h=>by
  rw[List.mapM_cons] at h
  cases hx:f x with
  | none=>rw[hx] at h;cases h
  | some y=>
   rw[hx] at h
   cases hl:l.mapM f with
   | none=>rw[hl] at h;cases h
   | some zs=>
    rw[hl] at h;cases h;obtain⟨_,_,h1,h2⟩:=Hg hl;refine⟨_,rfl,fun z hz=>?_,fun z hz=>?_⟩
    ·rcases nz.1 hz with rfl | hz
     ·exact⟨y,hx,mc ..⟩
     ·obtain⟨w,hw,hm⟩:=h1 z hz;exact⟨w,hw,me _ hm⟩
    ·rcases nz.1 hz with rfl | hz
     ·exact⟨x,mc ..,hx⟩
     ·obtain⟨w,hw,hm⟩:=h2 z hz;exact⟨w,me _ hw,hm⟩
def Aa(cs:List Value)(off m r:Nat):(cs.drop off).take (m+r)=(cs.drop off).take m++(cs.drop (off+m)).take r:=by
 rw[List.take_add,zon]
section
variable {P:Program}  {enc:TypeId×Value->H}  {sp:Nat->Bool}  {base:Nat}
def ep:∀ (d:Nat) {t:TypeId} {ls:List Ay},Pf P d t=some ls->∀ {fuel:Nat} {cs:List Value} {x:DataW H×List MemPlace},
  DataW.trod enc P W base sp held fuel t cs=some x->LeafsOK ls cs/\x.2=[]
 | 0,_,_,h,_,_,_,_=>by cases h
 | d+1,t,ls,h,fuel,cs,x,hx=>by
  have ih:=@ep d
  cases fuel with
  | zero=>simp [DataW.trod] at hx
  | succ fuel=>
   rw[Pf] at h;unfold DataW.trod at hx
   cases hu:P.underlying t with
   | none=>rw[hu] at h;cases h
   | some ds=>
    rw[hu] at h hx;cases ds<;>first | (cases h;done) | skip
    ·cases h
     match cs,hx with
     | [.bool b],hx=>cases hx;exact⟨⟨⟨b,rfl⟩,nm⟩,rfl⟩
    ·rename_i k;cases h
     match cs,hx with
     | [.int k' m],hx=>
      simp only at hx;split at hx
      ·rename_i hk;obtain⟨rfl,hw⟩:=hk;cases hx;exact⟨⟨⟨m,rfl,hw⟩,nm⟩,rfl⟩
      ·cases hx
    ·cases h
     match cs,hx with
     | [.string s],hx=>
      simp only at hx;split at hx
      ·rename_i hs;cases hx;exact⟨⟨⟨s,rfl,hs⟩,nm⟩,rfl⟩
      ·cases hx
    ·rename_i n e;simp only at h hx;split at h
     ·rename_i l1 hl1;split at h
      ·rename_i hc;cases h;split at hx
       ·rename_i hlen;obtain⟨xs,hxs,rfl⟩:=Option.map_eq_some_iff.1 hx;obtain⟨_,_,hall,hback⟩:=Hg hxs
        have each:∀ i,i<n->LeafsOK l1 ((cs.drop (i*P.cellsOf e)).take (P.cellsOf e)):=fun i hi=>by
         obtain⟨y,hy,_⟩:=hall i (zqg.2 hi);exact(ih hl1 hy).1
        have gen:∀ m k,k+m=n->LeafsOK (ze3 l1 m) ((cs.drop (k*P.cellsOf e)).take (m*P.cellsOf e)):=by
         intro m
         induction m with
         | zero=>intro k _;simp [ze3,LeafsOK]
         | succ m ihm=>
          intro k hk;rw[show(m+1)*P.cellsOf e=P.cellsOf e+m*P.cellsOf e by rw[zo5];omega,Aa];refine LeafsOK.append (each k I) ?_;rw[show k*P.cellsOf e+P.cellsOf e=(k+1)*P.cellsOf e by rw[zo5]];exact ihm (k+1) I
        refine⟨?_,?_⟩
        ·have:=gen n 0 I
         have hrl:∀ m,(ze3 l1 m).length=m*P.cellsOf e:=by
          intro m
          induction m with
          | zero=>simp [ze3]
          | succ m ihm=>simp only[ze3,nr,ihm,hc.1];rw[zo5];omega
         rw[<-hrl n,<-hc.2,<-hlen] at this;simpa using this
        ·refine List.flatMap_eq_nil_iff.2 fun y hy=>?_;obtain⟨i,_,hi⟩:=hback y hy;exact(ih hl1 hi).2
       ·cases hx
      ·cases h
     ·cases h
    ·rename_i fs;simp only at h hx;split at h
     ·rename_i l1 hl1;split at h
      ·rename_i hc;cases h;split at hx
       ·rename_i hlen;obtain⟨xs,hxs,rfl⟩:=Option.map_eq_some_iff.1 hx;obtain⟨_,_,hall,hback⟩:=Hg hxs
        have gen:∀ (fl:List Field) (off:Nat) (ls:List Ay),(∀ f∈fl,f∈fs.toList)->zdi P (Pf P d) fl off=some ls->
          LeafsOK ls ((cs.drop off).take ls.length)/\∀ f∈fl,∃ l,Pf P d f.type=some l:=by
         intro fl
         induction fl with
         | nil=>intro off ls _ h;cases h;simp [LeafsOK]
         | cons f fl ihf=>
          intro off ls hm h;simp only[zdi] at h;split at h
          ·rename_i l2 hl2;split at h
           ·rename_i hc2;obtain⟨rfl,hc3⟩:=hc2;split at h
            ·rename_i r hr;cases h;obtain⟨g1,g2⟩:=ihf _ _ (fun g hg=>hm g (me _ hg)) hr;refine⟨?_,fun g hg=>?_⟩
             ·rw[nr,Aa];refine LeafsOK.append ?_ g1;obtain⟨y,hy,_⟩:=hall f (hm f (mc ..));rw[<-hc3];exact(ih hl2 hy).1
             ·rcases nz.1 hg with rfl | hg
              ·exact⟨l2,hl2⟩
              ·exact g2 g hg
            ·cases h
           ·cases h
          ·cases h
        obtain⟨g1,g2⟩:=gen fs.toList 0 _ (fun _ h=>h) hl1;refine⟨?_,?_⟩
        ·rw[<-hc,<-hlen] at g1;simpa using g1
        ·refine List.flatMap_eq_nil_iff.2 fun y hy=>?_;obtain⟨f,hf,hi⟩:=hback y hy;obtain⟨l,hl⟩:=g2 f hf;exact(ih hl hi).2
       ·cases hx
      ·cases h
     ·cases h
end
end Go.V
namespace Go.V.L3
open Go.V.L2
end Go.V.L3
namespace Go.V.L8
open Go.V.L2 Go.V.L3 Go.V.L6
end Go.V.L8
namespace Go.V.L11
open Go.V Go.V.L2 Go.V.L3 Go.V.L4 Go.V.L6 Go.V.L8 Go.V.Bd Go.V.L10
def zf4(s:ByteArray):∀ b∈iy s,b<=255:=fun b hb=>by
 unfold iy at hb;rcases mt.1 hb with h | h
 ·exact Yb _ b h
 ·exact Kg s b h
section
variable {P:Program} {F:Fr}      {d q:Nat}    
end
attribute [local irreducible] V N X VO Par XP LV StepOK Has Ret RetL RetO RetT ky RetX RetY Pan ay Src
end Go.V.L11
namespace Go.V.L11
open Go.V.L2 Go.V.L3 Go.V.L4 Go.V.L6 Go.V.L8 Go.V.L10
def Pg{rs:List Int}(h0:rs≠[])(h:zbj rs):bj rs rs.length∈rs/\∀ x∈rs,x<=bj rs rs.length:=by
 obtain⟨m,hm⟩:∃ m,rs.length=m+1:=⟨rs.length-1,by have:=zp1.2 h0;omega⟩
 obtain⟨y,hy⟩:=xu (show m<rs.length by omega);rw[hm,bi hy];refine⟨m9 hy,fun x hx=>?_⟩;obtain⟨i,hi⟩:=zoc hx;have hl:=get_lt hi;rcases zni i m with hlt | hge
 ·have:=zpa.1 (mi.1 h).2 i m (get_lt hi) (get_lt hy) hlt;rw[gk hi,gk hy] at this;omega
 ·have:i=m:=I;subst this;rw[hi] at hy;cases hy;exact zo8 _
abbrev Bm(ks:List K3):List Int:=ks.map fun k=>k.1
def er:∀ {ks:List K3} {last:Int},KOK ks last->(last::Bm ks).Pairwise (·<·)
 | [],_,_=>zop _ _
 | k::ks,last,h=>by
  have h1:=er h.2.2.2.2.2;refine mi.2 ⟨fun a ha=>?_,h1⟩;rcases nz.1 ha with rfl | ha
  ·exact h.1
  ·have:=(mi.1 h1).1 a ha;have:=h.1;omega
def Hv:∀ {ks:List K3} {last:Int},KOK ks last->∀ k∈ks,last<k.1/\k.1<=18446744073709551615/\k.2.1<=4096/\SOK k.2.2/\k.2.2.length<=4096
 | [],_,_,_,h=>by cases h
 | k::ks,last,h,x,hx=>by
  rcases nz.1 hx with rfl | hx
  ·exact⟨h.1,h.2.1,h.2.2.1,h.2.2.2.1,h.2.2.2.2.1⟩
  ·obtain⟨h1,h2⟩:=Hv h.2.2.2.2.2 x hx;exact⟨by have:=h.1;omega,h2⟩
def An(ks:List K3):(kzs ks).map (·.1)=Bm ks:=by unfold kzs;rw[List.map_map];rfl
def Hu(h:r∈kpi ks):r∈Bm ks:=by
 unfold kpi at h;obtain⟨k,hk,hr⟩:=zp0.1 h;rw[zrc] at hr;exact m7.2 ⟨k,hk,hr.2.symm⟩
def Ph(h:KOK ks 0):LdZ (kzs ks) (kpi ks) (bj (Bm ks) ks.length):=by
 have ha:=er h;have hk:=An ks;have hlen:(kzs ks).length=ks.length:=mj ..;have hkl:(Bm ks).length=ks.length:=mj ..;refine⟨by rw[hk];exact ha,fun a hm=>?_,by rw[hk,hlen],fun r hr=>by rw[hk];exact Hu hr,fun z hz=>?_⟩
 ·rw[hk] at hm;rw[<-hkl];by_cases h0:Bm ks=[]
  ·rw[h0,mz] at hm;subst hm;rw[h0];exact zo8 _
  ·rcases nz.1 hm with rfl | hm
   ·exact Int.le_of_lt ((mi.1 ha).1 _ (Pg h0 ha).1)
   ·exact(Pg h0 ha).2 a hm
 ·unfold kzs at hz;obtain⟨k,hk2,rfl⟩:=m7.1 hz;exact(Hv h k hk2).2.2.2.2
def zdc(h:KOK ks 0){k:K3}(hk:k∈ks):dy k.1 (kzs ks)=some k.2.2:=by
 refine Dp ?_ (m7.2 ⟨k,hk,rfl⟩);rw[An];exact(mi.1 (er h)).2.imp fun hlt e=>by omega
def sf(h:KOK ks 0):j7 (loR (kzs ks))=Bm ks:=dj lj (cr _) ((mi.1 (er h)).2.imp fun hlt=>Uk.2 hlt) fun r=>by
 rw[ug,(Ph h).kpt,po,An]
def tc:∀ {ks:List K3},(Bm ks).Nodup->∀ k∈ks,List.count k.1 (kpi ks)=k.2.1
 | [],_,_,h=>by cases h
 | x::ks,hn,k,hk=>by
  obtain⟨h1,h2⟩:=zo3.1 hn;have e:kpi (x::ks)=List.replicate x.2.1 x.1++kpi ks:=rfl;rw[e,zo0];rcases nz.1 hk with rfl | hk
  ·rw[List.count_replicate_self,zq9.2 fun hm=>h1 (Hu hm),zpt]
  ·have hne:x.1≠k.1:=fun e=>h1 (m7.2 ⟨k,hk,e.symm⟩);rw[tc h2 k hk,List.count_replicate,nc (by simpa using hne),znk]
def My(h:KOK ks 0):(Bm ks).Nodup:=(mi.1 (er h)).2.imp fun hlt e=>by omega
def zlp(h:KOK ks 0){k:K3}(hk:k∈ks):tZ (loS (kzs ks,kpi ks)) k.1=k.2.2:=by
 unfold tZ;show(kpt (loR (kzs ks)) k.1).getD []=_;rw[(Ph h).kpt,zdc h hk];rfl
def zhi(h:KOK ks 0):Am (loS (kzs ks,kpi ks))=ks:=by
 unfold Am;show(j7 (loR (kzs ks))).map _=ks;rw[sf h,zoz]
 conv=>rhs;rw[<-zp2 ks]
 refine zpr fun k hk=>?_;show(k.1,List.count k.1 (kpi ks),tZ (loS (kzs ks,kpi ks)) k.1)=k;rw[tc (My h) k hk,zlp h hk]
def zaa:∀ {ks:List K3},(∀ k∈ks,k.2.1<=4096)->(kpi ks).length<=4096*ks.length
 | [],_=>nu _
 | x::ks,h=>by
  have e:kpi (x::ks)=List.replicate x.2.1 x.1++kpi ks:=rfl;have h1:=h x (mc ..);have h2:=zaa (ks:=ks) fun k hk=>h k (me _ hk);rw[e,nr,zro,ma];omega
def zgb{a b:List Int}(ha:Sst cP a)(hb:Sst cP b)(h:∀ x∈a,x∈b):a.length<=b.length:=by
 have e:a=b.filter fun x=>decide (x∈a):=dj lj ha (hb.sublist zpz) fun z=>by
  rw[zn7];exact⟨fun hz=>⟨h z hz,nf hz⟩,fun hz=>nj hz.2⟩
 rw[e];exact zq3 _ _
def zhj(h:KOK ks 0):Sst cP (Bm ks):=(mi.1 (er h)).2.imp fun hlt=>Uk.2 hlt
structure LoOK(ks:List K3):Prop where
 k:KOK ks 0
 l0:0<ks.length
 l1:ks.length<=1024
def LoOK.ne(h:LoOK ks):Bm ks≠[]:=fun e=>by have h1:=nh List.length e;rw[mj,m5] at h1;have:=h.l0;omega
def LoOK.last(h:LoOK ks):bj (Bm ks) (Bm ks).length∈Bm ks:=(Pg h.ne (er h.k)).1
def LoOK.len(h:LoOK ks):((loR (kzs ks)).length:Int)=bj (Bm ks) (Bm ks).length/\0<bj (Bm ks) (Bm ks).length:=by
 have h1:=(mi.1 (er h.k)).1 _ h.last;have h2:(kzs ks).length=(Bm ks).length:=by unfold kzs;rw[List.length_map,List.length_map]
 refine⟨?_,h1⟩;unfold loR;rw[mj,zqk,An,h2];omega
def LoOK.endL(h:LoOK ks):(kpt (loR (kzs ks)) (loR (kzs ks)).length).isSome=true:=by
 rw[h.len.1,<-ug,sf h.k];exact h.last
def LoOK.pin{ks:List K3}(h:LoOK ks):∀ r∈kpi ks,(kpt (loR (kzs ks)) r).isSome=true:=fun r hr=>by
 rw[<-ug,sf h.k];exact Hu hr
def LoOK.tl(h:LoOK ks){t:List U}(ht:kpt (loR (kzs ks)) r=some t):SOK t/\t.length<=4096:=by
 rw[(Ph h.k).kpt] at ht;have hm:=r8 ht;unfold kzs at hm;obtain⟨k,hk,e⟩:=m7.1 hm;cases e;exact(Hv h.k k hk).2.2.2
def LoOK.pl(h:LoOK ks):(ko (kpi ks)).length<=1024:=by
 rw[gx];have h1:=zgb (di (kpi ks)) (zhj h.k) fun x hx=>Hu (vt.1 hx);rw[mj] at h1;have:=h.l1;omega
def LoOK.D(h:LoOK ks):zle (loS (kzs ks,kpi ks)):=by
 have h1:=h.len;have h2:=(Hv h.k)
 obtain⟨k,hk,e⟩:=m7.1 h.last;have h3:=(h2 k hk).2.1;have h4:=zaa fun k hk=>(h2 k hk).2.2.1;have h5:=h.l0;have h6:=h.l1;have h7:=h.pl;refine⟨?_,?_,?_,?_,?_,?_,fun r t ht=>⟨(h.tl ht).2,(h.tl ht).1.sst,zi2 (h.tl ht).1⟩⟩
 ·show(loR (kzs ks)).length≠0;omega
 ·show(loR (kzs ks)).length<_;omega
 ·show 0<(j7 (loR (kzs ks))).length;rw[sf h.k,mj];exact h5
 ·show(j7 (loR (kzs ks))).length<=_;rw[sf h.k,mj];exact h6
 ·show(ko (kpi ks)).length<=_;omega
 ·show(kpi ks).length<=_;omega
def _root_.Ze3(t:Wr Y->A:=by intro h;refine z7 (fq L _ Z Z Z Z I) Z ?_;exact h.1)(h:Y):A:=t ⟨h⟩
def _root_.ZeI(t:Wr Y->A:=by intro h;refine z7 (G7 Z Z Z Z zl5 Z Z) Z ?_;exact h.1)(h:Y):A:=t ⟨h⟩
def _root_.Zfk(t:Wr Y->A:=by intro h;refine z7 (Xv Z Z Z Z Z Z) Z ?_;exact h.1)(h:Y):A:=t ⟨h⟩
def _root_.Zfl(t:Wr Y->A:=by intro h;refine z7 (Ox Z Z Z Z Z) Z ?_;exact h.1)(h:Y):A:=t ⟨h⟩
def zm7:zle newS:=⟨by decide,by decide,by decide,by decide,by decide,by decide,fun r t h=>by
 have h1:=(jj_new.so r t h)
 have h2:newS.R.length=1:=rfl
 exact⟨by omega,h1.1.sst,fun x hx=>by
  have h3:=h1.2;have hr:=i8 (R:=newS.R) (r:=r) (by rw[h];rfl);obtain rfl:r=1:=by omega
  cases h;cases hx⟩⟩
def znf:zao (Am newS)=[1,1,0,0]:=J
def r9{bs:List Nat}{a:Int}(h:ldF bs=(y,(a,e)))(he:e≠0)(hb:∀ b∈bs,b<=255)(hz:bs.length<=1099511627776)(hB:zry B w)(hv:BsV bs false v B):
  Ret zrz 26 [v] w B (LdE a e):=by
 have h1:=Hk hb hz hB hv;rw[h] at h1;exact Yz he h1
def wg0(hB:zry B w)(hv:BsV [0] false v B):Ret zrz 26 [v] w B (LdE 0 5):=r9 (y:=([],[])) J T T T hB hv
def wg1(hB:zry B w)(hv:BsV [1,0] false v B):Ret zrz 26 [v] w B (LdE 1 5):=r9 (y:=([],[])) J T T T hB hv
def wg2(hB:zry B w)(hv:BsV [1,1,0,0,7] false v B):Ret zrz 26 [v] w B (LdE 4 5):=r9 (y:=([],[])) J T T T hB hv
def wg3(hB:zry B w)(hv:BsV [1,1] false v B):Ret zrz 26 [v] w B (LdE 2 17):=r9 (y:=([],[])) J T T T hB hv
attribute [local irreducible] V N X VO Par XP LV StepOK Has Ret RetL RetO RetT ky RetX RetY Pan ay Src
def zan(hB:zry B w)(hr:(StG b newS).P B w C)(hC:ZCB C w B):
  RetY zrz 28 [A5 b] w B C (StG b newS) (TupS [BsV [1,1,0,0] true,fun v _=>v=.int .i64 0]):=by
 have h:=Rj zm7 hB hr hC
 rwa [znf] at h
def Mq(hB:zry B w)(hM:GlobM B):Ret zrz 9 [] w B (fun v _=>v=.bool true):=by
 have p0:ptA zmo=(d0,0):=by decide+kernel
 have p2:ptA zm3=(d2,0):=by decide+kernel
 have z0:TZ d0:=zex T;have z2:TZ d2:=zex T;have hz1:∀ t∈[d0],TZ t:=fun t ht=>by rw[mz] at ht;subst ht;exact z0
 have hz2:∀ t∈[((d0,false):CH),(d2,true)],TZ t.1:=fun t ht=>by
  simp only[nz,zok,or_false] at ht;rcases ht with rfl | rfl
  ·exact z0
  ·exact z2
 have hs1:∀ t∈[d0],(Bj t).size<=1000:=by decide+kernel
 have hs2:∀ t∈[((d0,false):CH),(d2,true)],(Bl t).size<=1000:=by decide+kernel
 have k1:Kn.mono (.sat (US ([]:List U) true)):=nw;have k2:Kn.mono (.sat (KS tyC ([]:List CH) true)):=nw;have k3:Kn.mono (.sat (BsV [1,1,0,0] true)):=nw;refine yo Tryz.func9 Z Tryz.ntmps9 (np Z) hB (Z4 (h:=?_));refine z71 L Z (fun u H hH _=>C4 p0 (np Z) hH) ?_;refine(Zcp∘Zc∘ZS) ?_;refine z71 L Z (fun u H hH _=>C4 p2 (np Z) hH) ?_;refine(Zcp∘Zc∘Zy∘Zaq∘ZR) ?_;refine z7 (qe L Z Z (zp Z) Z Z Z (fun u H hH hle _ v1 h1=>Se zm8 hz1 hs1 hH (h1.toV (n:=1) Z))) Z ((ZbH∘Zs∘Zaq∘Zdv∘Zaq∘Zdv∘ZR) ?_);refine z7 (qe L Z Z (zp Z) Z Z Z (fun u H hH hle _ v1 h1=>Nw znb hz2 hs2 hH (h1.toV (n:=2) Z))) Z ((ZH∘Zb1∘ZbZ∘ZcQ∘Za7∘Zb∘Zfl∘Zbs∘Zfl∘ZaT) ?_);refine ZU (h:=?_);refine z7 (xl (φ:=TupS [US ([]:List U) true,fun v _=>v=.int .i64 1,fun v _=>v=.int .i64 5]) L Z Z (zp Z) Z Z Z (ru nw) (fun u H hH hle _=>Nv zna (np Z) hH (hM.mono hle))) Z ((Zk∘ZcB∘Zce∘Zce∘ZP∘ZaR∘ZaM) ?_);refine z7 (xl (φ:=TupS [KS tyC ([]:List CH) true,fun v _=>v=.int .i64 1,fun v _=>v=.int .i64 5]) L Z Z (zp Z) Z Z Z (ru nw) (fun u H hH hle _=>Er zm9 (np Z) hH (hM.mono hle))) Z ((Zk∘ZcB∘Zce∘Zce∘ZP∘ZaR∘ZE∘ZC∘Zg) ?_);refine Zbf (h:=?_);refine z7 (uk L Z Z (zp Z) Z Z Z (fun u H hH hle _=>zch hH)) Z ?_;refine oy 72 900 rfl fun b=>?_;refine y9 (dq L 900 (TupS [BsV [1,1,0,0] true,fun v _=>v=.int .i64 0]) (r:=StG b newS) Z Z Z Z Z (Oq nw) (fun u H2 C2 hH hle hr2 hC2=>zan hH hr2 hC2)) ((Zk∘ZcB∘Zce∘ZP∘Zj) ?_);refine(ZG∘Za∘Za7∘Zb∘Za7∘Zbs∘Za7∘Zbs∘Za7∘Zi∘Za∘Zcf) ?_;refine z7 (xl (φ:=BsV [0] true) L Z Z (zp Z) Z Z Z nw (fun u H hH hle _=>Gt hH)) Z (z7 (cx (bs:=[0]) (fu:=true) T Z Z Z Z Z Z) Z ((Zfl∘Zbs∘Za7∘Zi∘Za∘Zk) ?_));refine z7 (cx (bs:=[1,1,0,0]) (fu:=true) T Z Z Z Z Z Z) Z ((Zfl∘ZaT) ?_);refine(ZO∘ZR∘ZP∘Zg∘Za2∘ZR∘ZP∘Zam∘Zap∘Za0) ?_;refine zbf 18 (SlB (wrS.map Value.string) 9 4) Z SlB.mono (fun _ _ h=>by unfold wrS;exact h) ?_;refine zbf 19 (SlB (wrA.map (Value.int .i64)) tyI 4) Z SlB.mono (fun _ _ h=>by unfold wrA;exact h) ?_;refine xq (fun i:Nat=>[(18,.sat (SlB (wrS.map Value.string) 9 4)),(19,.sat (SlB (wrA.map (Value.int .i64)) tyI 4)),(20,.is (.int .i64 i))]) (fun i=>i<=4) (fun i=>4-i) 0 (mf _) ⟨Z,Z,Z,nm⟩ ?_;rintro i hi;have hcases:i=0\/i=1\/i=2\/i=3\/i=4:=I;rcases hcases with rfl | rfl | rfl | rfl | rfl
 ·have hcs:(wrS.map Value.string)[0*1]?=some (.string ⟨#[0]⟩):=rfl;have hca:(wrA.map (Value.int .i64))[0*1]?=some (.int .i64 0):=rfl;refine(Zd∘Zaf∘Za∘Zbq∘ZaX∘Zbb∘Zj∘Zbu∘Za∘Zn∘Zo∘Zb0∘Zk∘Za∘ZeC∘Zct∘Zfk) ?_;refine z7 (qe L Z Z (zp Z) Z Z Z (fun u H hH hle _ v1 h1=>wg0 hH h1)) Z ((Zcz∘Zh∘ZaR∘ZbI∘Za∘ZeI∘Zb∘Zk∘Za∘ZeC∘Zct∘Za7∘Zi∘Zu∘Za7∘Zi∘Zcn∘ZaW∘Za∘Zay) ?_);exact yv (x:=0) 1 T T ⟨Z,Z,Z,nm⟩
 ·have hcs:(wrS.map Value.string)[1*1]?=some (.string ⟨#[1,0]⟩):=rfl;have hca:(wrA.map (Value.int .i64))[1*1]?=some (.int .i64 1):=rfl;refine(Zd∘Zaf∘Za∘Zbq∘ZaX∘Zbb∘Zj∘Zbu∘Za∘Zn∘Zo∘Zb0∘Zk∘Za∘Ze3∘Zct∘Zfk) ?_;refine z7 (qe L Z Z (zp Z) Z Z Z (fun u H hH hle _ v1 h1=>wg1 hH h1)) Z ((Zcz∘Zh∘ZaR∘ZbI∘Za∘ZeI∘Zb∘Zk∘Za∘Ze3∘Zct∘Za7∘Zi∘Zu∘Za7∘Zi∘Zcn∘ZaW∘Za∘Zay) ?_);exact yv (x:=1) 2 T T ⟨Z,Z,Z,nm⟩
 ·have hcs:(wrS.map Value.string)[2*1]?=some (.string ⟨#[1,1,0,0,7]⟩):=rfl;have hca:(wrA.map (Value.int .i64))[2*1]?=some (.int .i64 4):=rfl;refine(Zd∘Zaf∘Za∘Zbq∘ZaX∘Zbb∘Zj∘Zbu∘Za∘Zn∘Zo∘Zb0∘Zk∘Za∘Ze3∘Zct∘Zfk) ?_;refine z7 (qe L Z Z (zp Z) Z Z Z (fun u H hH hle _ v1 h1=>wg2 hH h1)) Z ((Zcz∘Zh∘ZaR∘ZbI∘Za∘ZeI∘Zb∘Zk∘Za∘Ze3∘Zct∘Za7∘Zi∘Zu∘Za7∘Zi∘Zcn∘ZaW∘Za∘Zay) ?_);exact yv (x:=2) 3 T T ⟨Z,Z,Z,nm⟩
 ·have hcs:(wrS.map Value.string)[3*1]?=some (.string ⟨#[1,1]⟩):=rfl;have hca:(wrA.map (Value.int .i64))[3*1]?=some (.int .i64 2):=rfl;refine(Zd∘Zaf∘Za∘Zbq∘ZaX∘Zbb∘Zj∘Zbu∘Za∘Zv∘Z3∘ZaK∘Zc∘Zb0∘Zk∘Za∘Ze3∘Zct∘Zfk) ?_;refine z7 (qe L Z Z (zp Z) Z Z Z (fun u H hH hle _ v1 h1=>wg3 hH h1)) Z ((Zcz∘Zh∘ZaR∘ZbI∘Za∘ZeI∘Zb∘Zk∘Za∘Ze3∘Zct∘Za7∘Zi∘Zu∘Za7∘Zi∘Zcn∘ZaW∘Za∘Zay) ?_);exact yv (x:=3) 4 T T ⟨Z,Z,Z,nm⟩
 ·refine(Zd∘Zaf∘Za∘Zb8∘Zc5∘Ze) ?_;exact yl2 L [.tmp 0]
end Go.V.L11
namespace Go.V
open Go.ChangeShapes Go.WideShapes Go.ChangeAt Go.ChangeMaps
section
variable {P:Program}  {enc:TypeId×Value->H}  
end
end Go.V
namespace Go.V
open Go.ChangeShapes Go.WideShapes Go.ChangeAt Go.ChangeMaps
section
variable {P:Program}  {enc:TypeId×Value->H}  
def Kp(enc:TypeId×Value->H)(P:Program)(W:World)(held:Bool)(t:TypeId)(n:Nat)(Φ:List Value->Prop):Prop:=
 P.cellsOf t=n/\∀ (fuel:Nat) (cs:List Value) (x:DataW H×List MemPlace),DataW.trod enc P W 0 (fun _=>true) held fuel t cs=some x->(x.1.weights P t).all (·<=reachBytes)=true->cs.length=n/\Φ cs
def im{ls:List Ay}(h:Pf P 20 t=some ls)(hc:P.cellsOf t=ls.length):Kp enc P W held t ls.length (LeafsOK ls):=
 ⟨hc,fun _ _ _ hx _=>⟨(ep 20 h hx).1.length,(ep 20 h hx).1⟩⟩
def SlD(e:TypeId)(n by_:Nat)(Φ:List Value->Prop)(Hh:Heap)(v:Value):Prop:=∃ cs:List (List Value),(∀ c∈cs,c.length=n/\Φ c)/\cs.length<=maxLen/\cs.length*by_<=reachBytes/\SlV e n cs.flatten cs.length false v Hh
def a9{e:TypeId}:∀ {l:List (DataW H)} {d:DataW H},d∈l->∀ n∈d.weights P e,n∈DataW.weightsAll P e l
 | d0::l,d,hd,n,hn=>by
  simp only[DataW.weightsAll,mt];rcases nz.1 hd with rfl | hd
  ·exact .inl hn
  ·exact .inr (a9 hd n hn)
def zes{l m:List Nat}(h:l.all (·<=reachBytes)=true)(hs:∀ n∈m,n∈l):m.all (·<=reachBytes)=true:=
 znr.2 fun n hn=>znr.1 h n (hs n hn)
def wt_at{ts:List TypeId}{ds:List (DataW H)}(h:(DataW.weightsEach P ts ds).all (·<=reachBytes)=true)(j:Nat){d:DataW H}(ht:ts[j]?=some t)(hd:ds[j]?=some d):(d.weights P t).all (·<=reachBytes)=true:=
 zes h (DataW.weights_mem_each ht hd)
def C7{e:TypeId}(ht:P.underlying t=some (.slice e))(hct:P.cellsOf t=1)(he:Kp enc P W held e n Φ)(hn:0<n):
  Kp enc P W held t 1 (fun vs=>∃ v,vs=[v]/\SlD e n (P.bytesOf e) Φ (hp W) v):=by
 refine⟨hct,fun fuel cs x hf hw=>?_⟩;rcases Deep.open_slice ht hf with ⟨rfl,_⟩ | ⟨a,len,cap,m,nn,D,Pl,rfl,_,h1,h2,hm,rfl,hx⟩
 ·exact⟨rfl,_,rfl,[],fun c h=>(nomatch h),mf _,by simp,SlV.nil⟩
 refine⟨rfl,_,rfl,?_⟩;simp only[if_true] at hm;subst hm
 have hwe:(DataW.weights P t (DataW.slice ((List.range len).map D) ((List.range (m-len)).map fun j=>D (len+j))))=(len+(m-len))*P.bytesOf e::(DataW.weightsAll P e ((List.range len).map D)++DataW.weightsAll P e ((List.range (m-len)).map fun j=>D (len+j))):=by
  rw[DataW.weights,ht];simp
 simp only at hw;rw[hwe] at hw
 have hb:(len+(m-len))*P.bytesOf e<=reachBytes:=by
  have:=znr.1 hw _ (mc ..);simpa using this
 have hwD:∀ i,i<len->((D i).weights P e).all (·<=reachBytes)=true:=fun i hi=>zes hw fun k hk=>
  me _ (zn2 _ (a9 (m7.2 ⟨i,zqg.2 hi,rfl⟩) k hk))
 rcases Nat.eq_zero_or_pos m with h0 | h0
 ·obtain rfl:len=0:=by omega
  subst h0;exact⟨[],fun c h=>(nomatch h),mf _,by simp,by simp,.inl ⟨rfl,_,rfl⟩⟩
 obtain⟨he1,he2⟩:=he
 have hsp:a.spot=none/\∃ c0 ty fr,W.heap[a.block]?=some (.cells c0 ty fr):=by
  obtain⟨c,g1,_⟩:=hx 0 h0;obtain⟨_,g2,g3⟩:=World.cells?_some g1;have g4:=g3 0 I;have hc0:∃ v,c[0]?=some v:=⟨_,zob I⟩
  obtain⟨v,hv⟩:=hc0;rw[hv] at g4
  have hadd:((a.add (0*P.cellsOf e)).add 0)=a:=by
   rw[Nat.zero_mul];unfold Addr.add;simp
  rw[hadd] at g4;unfold World.cell? at g4;split at g4
  ·rename_i c1 ty fr hh;split at g4
   ·cases g4
   ·rename_i hs;exact⟨by simpa using hs,_,_,_,hh⟩
  ·cases g4
 obtain⟨h3,cs,ty,fr,h4⟩:=hsp
 obtain⟨C,hC⟩:=Deep.choose_lt (α:=List Value) (n:=m) (p:=fun i c=>W.cells? 0 (a.add (i*P.cellsOf e)) (P.cellsOf e)=some c/\(i<len->c.length=n/\Φ c)) (fun i hi=>by
  obtain⟨c,g1,g2⟩:=hx i hi;exact⟨c,g1,fun hl=>he2 _ _ _ g2 (hwD i hl)⟩)
 have hln:∀ i,i<len->(C i).length=n:=fun i hi=>((hC i I).2 hi).1;refine⟨(List.range len).map C,fun c hc=>?_,by simp;omega,?_,?_⟩
 ·obtain⟨i,hi,rfl⟩:=m7.1 hc;exact(hC i (by have:=zqg.1 hi;omega)).2 (zqg.1 hi)
 ·rw[mj,zqk];exact znj (zot _ I) hb
 ·have hfl:∀ k,k<=len->((List.range k).map C).flatten.length=k*n:=by
   intro k
   induction k with
   | zero=>simp
   | succ k ih=>
    intro hk;rw[List.range_succ,znp,List.flatten_append,nr,ih I,zo5];simp [hln k I]
  refine⟨by rw[hfl len (nu _),mj,zqk],.inr ⟨a.block,a.off,m,cs,ty,fr,?_,h4,?_,by simpa using h1,fun h=>by cases h⟩⟩
  ·obtain⟨ab,ao,asp⟩:=a;simp only at h3;subst h3;simp
  ·rw[hfl len (nu _)]
   have key:∀ k,k<=len->(cs.toList.drop a.off).take (k*n)=((List.range k).map C).flatten:=by
    intro k
    induction k with
    | zero=>simp
    | succ k ih=>
     intro hk;rw[zo5,Aa,ih I,List.range_succ,znp,List.flatten_append];congr 1;obtain⟨_,g2,g3⟩:=World.cells?_some (hC k I).1;simp only[mq,znv,List.flatten_cons,List.flatten_nil,mp];apply List.ext_getElem?;intro j;rcases zni j n with hj | hj
     ·have:=g3 j I;rw[<-this,zo7 hj,zoi];obtain⟨ab,ao,asp⟩:=a;simp only at h3;subst h3;rw[vr,vr,kw h4];simp only[he1];rw[zpg]
     ·rw[zn3 (by rw[mw];omega),zn3 (by rw[hln k I];exact hj)]
   exact key len (nu _)
def Np:List (Nat×(List Value->Prop))->List Value->Prop
 | [],vs=>vs=[]
 | (n,Φ)::r,vs=>∃ a b,vs=a++b/\a.length=n/\Φ a/\Np r b
inductive Ep (enc:TypeId×Value->H) (P:Program) (W:World) (held:Bool):List Field->Nat->List (Nat×(List Value->Prop))->Prop
 | nil {off:Nat}:Ep enc P W held [] off []
 | cons {f:Field} {fs:List Field} {off n:Nat} {Φ:List Value->Prop} {r:List (Nat×(List Value->Prop))} (ho:f.offset=off) (hr:Kp enc P W held f.type n Φ) (h:Ep enc P W held fs (off+n) r):Ep enc P W held (f::fs) off ((n,Φ)::r)
def zih:List (Nat×(List Value->Prop))->Nat
 | []=>0
 | p::r=>p.1+zih r
def L5{fs:Array Field}{ps:List (Nat×(List Value->Prop))}(hu:P.underlying t=some (.struct fs))(h:Ep enc P W held fs.toList 0 ps)(hc:P.cellsOf t=zih ps):Kp enc P W held t (zih ps) (Np ps):=by
 refine⟨hc,fun fuel cs x hf hw=>?_⟩;obtain⟨xs,n,rfl,rfl,hl,hxl,hx⟩:=DataW.trod_struct hu hf
 have hwe:DataW.weights P t (DataW.agg (H:=H) (xs.map (·.1)))=DataW.weightsEach P (fs.toList.map (·.type)) (xs.map (·.1)):=by
  rw[DataW.weights,hu]
 simp only at hw;rw[hwe] at hw;refine⟨by rw[hl,hc],?_⟩
 have gen:∀ (fl:List Field) (i off:Nat) (ps:List (Nat×(List Value->Prop))),(∀ (j:Nat) f,fl[j]?=some f->fs[i+j]?=some f)->Ep enc P W held fl off ps->off+zih ps=cs.length->Np ps (cs.drop off):=by
  intro fl
  induction fl with
  | nil=>intro i off ps _ h ho;cases h;simp only[zih] at ho;simp only[Np];rw[znm I]
  | cons f fl ihf=>
   intro i off ps hm h ho
   cases h with
   | @cons _ _ _ n' Φ r h1 h2 h3=>
   simp only[zih] at ho;have g0:=hm 0 f rfl;rw[zpt] at g0;have g1:=hx i f g0
   have hi:i<xs.length:=by
    rw[hxl];rcases zni i fs.size with h | h
    ·exact h
    ·rw[zo2 h] at g0;cases g0
   rw[zob hi,h1,h2.1] at g1;have hwi:(xs[i].1.weights P f.type).all (·<=reachBytes)=true:=wt_at hw i (by rw[zn4,zpg,g0];rfl) (by rw[zn4,zob hi];rfl);obtain⟨g2,g3⟩:=h2.2 _ _ _ g1 hwi;refine⟨(cs.drop off).take n',cs.drop (off+n'),?_,g2,g3,ihf (i+1) (off+n') r (fun j f' hj=>?_) h3 I⟩
   ·rw[<-zon,znn]
   ·have:=hm (j+1) f' (by simpa using hj);rw[<-this];congr 1;omega
 have g:=gen fs.toList 0 0 ps (fun j f hj=>by rw[znk,<-zpg];exact hj) h (by rw[hl,hc];omega);simpa using g
def open_slD{e:TypeId}{b0:Nat}{v:Value}{dd:DataW H}{ps:List MemPlace}(ht:P.underlying t=some (.slice e))(h:Kp enc P W held t 1 (fun vs=>∃ v,vs=[v]/\SlD e n (P.bytesOf e) Φ (hp W) v))
  (hval:Value.okWide P W .any b0 t v) (hd:DataW.Trod enc P W 0 (fun _=>true) held t v dd ps) (hw:(dd.weights P t).all (·<=reachBytes)=true):SlD e n (P.bytesOf e) Φ (hp W) v:=by
 obtain⟨fuel,hf⟩:=hd;obtain⟨_,v',h1,h2⟩:=h.2 _ _ _ hf hw;obtain⟨a,len,cap,rfl⟩:=okWide_slice ht hval;simp only[Value.cells] at h1;cases h1;exact h2
end
end Go.V
namespace Go.V.L10
open Go.ChangeShapes Go.WideShapes Go.ChangeAt Go.ChangeMaps Go.V Go.V.L2 Go.V.L6
section
variable  {enc:TypeId×Value->H}  
end
def Hr{k:IntKind}{a:List Value}(h:LeafsOK [.i k] a):∃ z,a=[.int k z]/\(Lit.int k z).wf=true:=by
 obtain⟨z,r,rfl,h1,h2⟩:=Yy h;obtain rfl:=Q9 h2;exact⟨z,rfl,h1⟩
def Pn{α:Type}{f:α->List Value}{Φ:List Value->Prop}{Ψ:α->Prop}(hf:∀ c,Φ c->∃ x,c=f x/\Ψ x):∀ (cs:List (List Value)),(∀ c∈cs,Φ c)->∃ l:List α,cs.flatten=l.flatMap f/\l.length=cs.length/\∀ x∈l,Ψ x
 | [],_=>⟨[],rfl,rfl,fun x h=>by cases h⟩
 | c::cs,h=>by
  obtain⟨x,rfl,hx⟩:=hf c (h c (mc ..));obtain⟨l,h1,h2,h3⟩:=Pn hf cs fun d hd=>h d (me _ hd)
  exact⟨x::l,by rw[List.flatten_cons,znz,h1],by rw[ma,ma,h2],fun y hy=>by
   rcases nz.1 hy with rfl | hy
   ·exact hx
   ·exact h3 y hy⟩
def Qd{z:Int}(h:(Lit.int .u8 z).wf=true):∃ n:Nat,z=(n:Int)/\n<=255:=by
 have:=Go.bounds_u8 h;exact⟨z.toNat,by omega,by omega⟩
end Go.V.L10
section
open Go.V
attribute [local irreducible] Has LV N Pan Par Ret RetL RetO RetT RetX RetY Src StepOK V VO X XP ay ky
namespace Go.V.L11
open Go.ChangeShapes Go.V.L2 Go.V.L3 Go.V.L4 Go.V.L6 Go.V.L8 Go.V.Bd Go.V.L10
abbrev DmP(D:List Nat):Value->Heap->Prop:=TupS [BsV D true,fun v _=>v=.int .i64 0]
def DmP.mono{D:List Nat}:Kn.mono (.sat (DmP D)):=Oq nw
def Tz{bs:List Nat}(h:ldF bs=(y,(0,0)))(hS:loS y=S)(hb:∀ b∈bs,b<=255)(hz:bs.length<=1099511627776)(hB:zry B w)(hv:BsV bs fu v B):
  RetO zrz 26 [v] w B (Ko (fun b=>.tuple #[A5 b,.int .i64 0,.int .i64 0]) fun b=>StG b S):=by
 have h1:=Hk hb hz hB hv;rw[h] at h1;subst hS;exact zj0 Z h1
def Pe{bs:List Nat}{a:Int}(h:ldF bs=(y,(a,e)))(he:e≠0)(hb:∀ b∈bs,b<=255)(hz:bs.length<=1099511627776){v:Value}(hB:zry B w)(hv:BsV bs fu v B):
  Ret zrz 26 [v] w B fun v _=>v=.tuple #[.pointer none,.int .i64 a,.int .i64 e]:=by
 have h1:=Hk hb hz hB hv;rw[h] at h1;exact Yz he h1
def Um:dv bs R=(decide ((jn bs 1 5 R).1=1),(jn bs 1 5 R).2):=by
 unfold dv jn um;by_cases h0:R.err≠0
 ·rw[na h0,na h0];rfl
 ·rw[nc h0,nc h0];by_cases h1:(vl bs 1 5 R).2.err≠0
  ·rw[na h1,na h1];rfl
  ·rw[nc h1,nc h1]
def zd5{N1 N2:Rd}{ns:List ByteArray}{dr:Nat}(h1:Ut bs R=(ns,N1))(h2:jn bs 1 5 N1=(dr,N2)):
  ge bs R=if N2.err≠0 then (((n3,n3),false),⟨R.at_,N2.bad,N2.err⟩) else ((uOf ns,decide (dr=1)),N2):=by
 rw[Kd,ig,h1];dsimp only;rw[Um,h2]
def P2:∀ {cs:List CH} {l:List U},SOK l->(∀ c∈cs,tE c.1=0/\decide (c.1∈l)=c.2)->cs.Pairwise (fun a b=>a.1≠b.1)->l.length+cs.length<=4096->SOK (fe l cs)/\(∀ z,z∈fe l cs↔(z∈l/\∀ c∈cs,c.1≠z)\/∃ c∈cs,c.2=false/\c.1=z)/\(fe l cs).length<=l.length+cs.length
 | [],l,h,_,_,_=>⟨h,fun z=>⟨fun h=>.inl ⟨h,(fun _ h=>by cases h)⟩,fun h=>h.elim (fun h=>h.1) (fun⟨_,h,_⟩=>by cases h)⟩,nu _⟩
 | c::cs,l,h,hc,hp,hn=>by
  obtain⟨g1,g2⟩:=hc c (mc ..);rw[ma] at hn;have hp2:=mi.1 hp;have hw:=ox h (tz_of g1) g1 c.2 I;have hm:=fun z=>Sg hw.2.1 z
  obtain⟨i1,i2,i3⟩:=P2 (cs:=cs) hw.1 (fun d hd=>⟨(hc d (me _ hd)).1,by
   rw[<-(hc d (me _ hd)).2];have:=hm d.1;rw[nc (hp2.1 d hd).symm] at this;exact decide_eq_decide.2 this⟩) hp2.2 I
  rw[Ei];refine⟨i1,fun z=>?_,by rw[ma];omega⟩;rw[i2,hm];constructor
  ·rintro(⟨h1,h2⟩ | ⟨d,hd,h1,h2⟩)
   ·by_cases e:z=c.1
    ·rw[na e] at h1;exact .inr ⟨c,mc ..,h1,e.symm⟩
    ·rw[nc e] at h1;exact .inl ⟨h1,fun d hd=>(nz.1 hd).elim (fun e2=>by subst e2;exact fun e3=>e e3.symm) (h2 d)⟩
   ·exact .inr ⟨d,me _ hd,h1,h2⟩
  ·rintro(⟨h1,h2⟩ | ⟨d,hd,h1,h2⟩)
   ·have hne:z≠c.1:=fun e=>h2 c (mc ..) e.symm;exact .inl ⟨by rw[nc hne];exact h1,fun d hd=>h2 d (me _ hd)⟩
   ·rcases nz.1 hd with rfl | hd
    ·refine .inl ⟨by rw[na h2.symm];exact h1,fun x hx e=>hp2.1 x hx (h2.trans e.symm)⟩
    ·exact .inr ⟨d,hd,h1,h2⟩
def Uo(hs:SOK l)(hk:Sd l none cs)(hn:l.length+cs.length<=4096)(hl:l.length+(l9 cs).length<=4096+(wg cs).length):fe l cs=fe l (wg cs++l9 cs):=by
 obtain⟨h1,h2⟩:=oa.1 hk;obtain⟨i1,i2,_⟩:=P2 hs (fun c hc=>⟨(h1 c hc).1,(h1 c hc).2.1⟩) (aj h2) hn;obtain⟨j1,j2,_⟩:=Eh hs hk hl;exact dj cmpT_ord i1.sst j1.sst fun z=>by rw[i2,j2]
def Nc(c:CH):7<=(chgB c).length:=by
 have h:∀ s:ByteArray,1<=(iy s).length:=fun s=>by
  unfold iy;rw[nr];have:0<(jg s.size).length:=by unfold jg;split<;>simp
  omega
 obtain⟨⟨⟨⟨a,b⟩,d⟩,⟨⟨e,f⟩,g⟩⟩,k⟩:=c;have ha:=h a;have hb:=h b;have hd:=h d;have he:=h e;have hf:=h f;have hg:=h g;unfold chgB ec we;simp only[u6,znz,zqi,nr,ma,m5];omega
def zd4{bs:List Nat}(hb:∀ b∈bs,b<=255)(ha:R.at_<=bs.length)(h:(ge bs R).2.err=0):R.at_+7<=(ge bs R).2.at_:=by
 have h1:=nh List.length (za1 hb ha h);have h2:=Nc (ge bs R).1;have h3:=Aq (bs:=bs) (R:=R) ha;rw[nr,m6,m6] at h1;omega
def _root_.Zea(t:Wr Y->A:=by intro h;refine y9 (kf L (q:=930) (vs:=[_,_,_,_]) Z Z Z Z ⟨[],rfl⟩) ?_;exact h.1)(h:Y):A:=t ⟨h⟩
def _root_.ZeJ(t:Wr Y->A:=by intro h;refine y9 (kf L (q:=931) (vs:=[_,_,_,_]) Z Z Z Z ⟨[],rfl⟩) ?_;exact h.1)(h:Y):A:=t ⟨h⟩
def _root_.Zeb(t:Wr Y->A:=by intro h;refine y9 (qk L (q:=930) Z Z Z Z) ?_;exact h.1)(h:Y):A:=t ⟨h⟩
def _root_.Zf4(t:Wr Y->A:=by intro h;refine y9 (kf L (q:=912) (vs:=[_,_,_,_]) Z Z Z Z ⟨[],rfl⟩) ?_;exact h.1)(h:Y):A:=t ⟨h⟩
def _root_.Zfm(t:Wr Y->A:=by intro h;refine y9 (qk L (q:=912) Z Z Z Z) ?_;exact h.1)(h:Y):A:=t ⟨h⟩
def RcP(sv:Value)(zru:(List U×Rd)×(Int×Int))(v:Value)(H:Heap):Prop:=∃ (m:List U) (R':Rd) (lv:Value),v=.tuple #[lv,rv sv R']/\US m false lv H/\((zru.2.2=0/\m=zru.1.1/\R'=zru.1.2)\/(zru.2.2≠0/\(R'.bad:Int)=zru.2.1/\R'.err=zru.2.2))
def RcP.mono{sv:Value}{zru:(List U×Rd)×(Int×Int)}:Kn.mono (.sat (RcP sv zru)):=fun _ _ _ ⟨m,R',lv,h1,h2,h3⟩ hle=>⟨m,R',lv,h1,h2.le hle,h3⟩
structure RcJ(bs:List Nat)(l:List U)(n:Nat)(Y:((List CH×List CH)×Rd)×(Int×Int))(i:Nat)(cs:List CH)(R:Rd):Prop where
 hi:i<=n
 hW:t6 bs l (n-i) (cs.map (·.1)).getLast? (l9 cs) (wg cs) R=Y
 h0:R.err=0
 at_:R.at_<=bs.length
 len:cs.length=i
 ok:Sd l none cs
 sz:2*(l.length+i)<=R.at_
def tq(cs:List CH)(c:CH):l9 (cs++[c])=if c.2=true then l9 cs else l9 cs++[c]:=by
 unfold l9;rw[zpq];cases h:c.2<;>simp [h]
def ey(cs:List CH)(c:CH):wg (cs++[c])=if c.2=true then wg cs++[c] else wg cs:=by
 unfold wg;rw[zpq];cases h:c.2<;>simp [h]
def zhv{c:CH}(h:Sd l none cs)(h1:tE c.1=0)(h2:decide (c.1∈l)=c.2)(h3:Ng (cs.map (·.1)).getLast? c.1=true):Sd l none (cs++[c]):=by
 obtain⟨a,b⟩:=oa.1 h;refine oa.2 ⟨fun d hd=>?_,?_⟩
 ·rcases mt.1 hd with hd | hd
  ·exact a d hd
  ·rw[mz.1 hd];exact⟨h1,h2,fun _ h=>by cases h⟩
 ·unfold Ku Sst at b |-;rw[znp,zoa];refine⟨b,zop _ _,fun x hx y hy=>?_⟩;simp only[mq,znv,mz] at hy;subst hy
  cases hg:(cs.map (·.1)).getLast? with
  | none=>rw[zrn.1 hg] at hx;cases hx
  | some z=>
   rw[hg] at h3;have h4:=za9.1 h3 z rfl;obtain⟨m,hm⟩:=zrl.1 hg;rw[hm] at hx b;rcases mt.1 hx with h5 | h5
   ·exact cmpT_ord.tr ((zoa.1 b).2.2 x h5 z (mz.2 Z)) h4
   ·rw[mz.1 h5];exact h4
def Y4(cs:List CH)(c:CH):((cs++[c]).map (·.1)).getLast?=some c.1:=by rw[znp];simp
def RcJ.next{bs:List Nat}{Y:((List CH×List CH)×Rd)×(Int×Int)}(hb:∀ b∈bs,b<=255)(h:RcJ bs l n Y i cs R)(hi:i<n){t:U}{k:Bool}{R2:Rd}(hc:ge bs R=((t,k),R2))(h2:R2.err=0)(ht:tE t=0)(hbh:Ng (cs.map (·.1)).getLast? t=true)(hk:decide (t∈l)=k):RcJ bs l n Y (i+1) (cs++[(t,k)]) R2:=by
 have hst:=zd4 hb h.at_ (by rw[hc];exact h2);have hat:=Aq (bs:=bs) (R:=R) h.at_;rw[hc] at hst hat;obtain⟨m,hm⟩:∃ m,n-i=m+1:=⟨n-i-1,by omega⟩
 have hW:=h.hW;rw[hm] at hW;unfold t6 at hW;rw[hc] at hW;dsimp only at hW hst hat;rw[nc (fun e=>e h2),nc (fun e=>e ht),nc (by rw[hbh];decide),nc (fun e=>e hk)] at hW;have hsz:=h.sz;refine⟨hi,?_,h2,hat,by rw[nr,h.len];rfl,zhv h.ok ht hk hbh,by omega⟩;rw[show n-(i+1)=m by omega,Y4,tq,ey];exact hW
def RcJ.set{Y:((List CH×List CH)×Rd)×(Int×Int)}(h:RcJ bs l n Y i cs R)(hs:SOK l)(hz:bs.length<=8000):SOK (fe l cs)/\(fe l cs).length<=4000/\l.length+cs.length<=4000:=by
 have h1:=h.sz;have h2:=h.at_;have h3:=h.len;obtain⟨a,b⟩:=oa.1 h.ok;obtain⟨i1,_,i3⟩:=P2 hs (fun c hc=>⟨(a c hc).1,(a c hc).2.1⟩) (aj b) I;exact⟨i1,by omega,by omega⟩
def R0(cs:List CH):(l9 cs).length+(wg cs).length=cs.length:=by
 unfold l9 wg
 induction cs with
 | nil=>rfl
 | cons c cs ih=>
  cases hk:c.2
  ·rw[zov (by simp [hk]),zpk (by simp [hk]),ma,ma];omega
  ·rw[zpk (by simp [hk]),zov (by simp [hk]),ma,ma];omega
def Hb(he:e≠0){R2:Rd}(h:jn bs lim e R=(n,R2)):n<=lim:=by
 by_cases h0:R2.err=0
 ·have:=He (bs:=bs) (lim:=lim) he (R:=R) (by rw[h];exact h0);rw[h] at this;exact this
 ·have:=oz (f:=vl bs lim e) (z:=0) (R:=R) (by unfold jn at h;rw[h];exact h0);unfold jn at h;rw[h] at this;have h1:n=0:=nh Prod.fst this;omega
def Ma{bs:List Nat}(hs:SOK l)(hsz:2*l.length<=R.at_)(hb:∀ b∈bs,b<=255)(hl:bs.length<=8000)(hat:R.at_<=bs.length)(h0:R.err=0){lv:Value}(hB:zry B w)(hv:BsV bs fu (.slice p bs.length c) B)(hlv:US l false lv B):
  Ret zrz 83 [rv (.slice p bs.length c) R,lv] w B (RcP (.slice p bs.length c) (au bs l R)):=by
 obtain⟨T0,hT0⟩:∃ T0,au bs l R=T0:=⟨_,rfl⟩
 rw[hT0];obtain⟨n,R1,hn⟩:∃ n R1,jn bs 8192 3 R=(n,R1):=⟨_,_,rfl⟩
 have hnl:=Hb T hn;obtain⟨e2,e1⟩:=se (bs:=bs) (lim:=8192) T R;have ha1:R1.at_<=bs.length:=by have:=B4 (bs:=bs) (lim:=8192) (e:=3) (R:=R) hat;rw[hn] at this;exact this
 rw[hn] at e1 e2;dsimp only at e1 e2;have hcan:=fun h=>Al hb (lim:=8192) T (R:=R) h;have hrd:=fun(u:World) (H:Heap) (hH:zry H u) (hle:B.Le H)=>hn ▸ cu (R:=R) (lim:=8192) (e:=3) T hb I hat hH (hv.le hle);unfold au at hT0;rw[e2] at hT0 e1 hcan;refine yo Tryz.func83 Z Tryz.ntmps83 (np Z) hB (jf 1 (US l false) Z nw hlv ((ZaU∘Zh∘ZC∘Zg) ?_));refine ku 2 912 rfl fun b2=>?_;refine(Z9∘Zz∘Zfm∘Zc∘ZS∘Zf4) ?_;refine z71 L Z (fun u H hH hle=>hrd u H hH hle) ?_;refine(ZH∘Zh) ?_;refine xg (yj L (q:=912) (cs':=[.slice p bs.length c,.int .i64 R1.at_,.int .i64 R1.bad,.int .i64 R1.err]) Z Z Z Z Z) ((Zg∘Zy∘Zk∘ZP∘Zg) ?_);refine(Zs∘Zc∘ZT∘Zj∘ZD∘Za0) ?_;refine g7 9 tyU 6 rfl ?_;by_cases h1:R1.err≠0
 ·rw[na h1] at hT0;subst hT0
  have hn0:n=0:=by
   have:=oz (f:=vl bs 8192 3) (z:=0) (R:=R) (by unfold jn at hn;rw[hn];exact h1);unfold jn at hn;rw[hn] at this;exact nh Prod.fst this
  subst hn0;refine xq (fun _:Unit=>[(2,.is (kg b2)),(5,.own (gm [.slice none 0 0,.int .i64 0,.int .i64 0,.int .i64 0] tyRr)),(7,.is (.int .u64 ((0:Nat):Int))),(8,.sat (US l false)),(11,.is (.int .u64 0)),(912,.own (xn b2 [.slice p bs.length c,.int .i64 R1.at_,.int .i64 R1.bad,.int .i64 R1.err] tyRr))]) (fun _=>True) (fun _=>0) () trivial ⟨Z,Z,Z,Z,Z,Z,nm⟩ ?_;rintro _ _;refine(Zd∘Zbi∘Z6∘Zbe∘ZaP∘Zf∘ZdV∘Zz∘Zfm∘Zn∘Zcr∘Za6∘Zo) ?_;refine qp (id:=27) [(200121,[912])] kj J (Zag (h:=?_));refine qz (kf L (q:=912) (vs:=[_,_,_,_]) Z Z Z Z ⟨[],rfl⟩) Z Z ((Zc2∘ZbQ∘ZaE) ?_);refine yl1 L [.tmp 4,.cell 5 166] fun u H hH hle=>?_;exact fun v hv=>⟨_,qy Z,rfl,⟨l,R1,v,rfl,hv,.inr ⟨h1,rfl,rfl⟩⟩⟩
 ·have h10:R1.err=0:=mh.1 h1;obtain⟨_,n1,_,e3,_⟩:=hcan h10
  have hR1:R.at_<=R1.at_:=by
   have:=nh (fun x:Int×Rd=>x.2.at_) e3;rw[show(jy bs 8192 R).2=R1 from e2] at this;dsimp only at this;omega
  rw[nc h1,e1 h10,znu] at hT0;obtain⟨Y,hY⟩:∃ Y,t6 bs l n none [] [] R1=Y:=⟨_,rfl⟩
  rw[hY] at hT0;have hj0:RcJ bs l n Y 0 [] R1:=⟨mf _,hY,h10,ha1,rfl,nm,by omega⟩
  refine xq (fun x:Nat×List CH×Rd=>[(1,.sat (US l false)),(2,.is (kg b2)),(5,.own (gm [.slice none 0 0,.int .i64 0,.int .i64 0,.int .i64 0] tyRr)),(6,.is (.int .i64 R.at_)),(7,.is (.int .u64 n)),(8,.sat (US (fe l x.2.1) false)),(9,.own (SlR tyU 6 (x.2.1.map (·.1)).length ((x.2.1.map (·.1)).flatMap ucs))),(10,.is (.int .i64 (((l9 x.2.1).length:Int)-((wg x.2.1).length:Int)))),(11,.is (.int .u64 x.1)),(912,.own (xn b2 [.slice p bs.length c,.int .i64 x.2.2.at_,.int .i64 x.2.2.bad,.int .i64 x.2.2.err] tyRr))])
   (fun x=>RcJ bs l n Y x.1 x.2.1 x.2.2) (fun x=>n-x.1) (0,[],R1) hj0 ⟨rfl,rfl,rfl,rfl,rfl,rfl,rfl,rfl,rfl,rfl,nm⟩ ?_
  rintro⟨i,cs,R'⟩ hj;dsimp only at hj |-;obtain⟨hsk,hskl,hlc⟩:=hj.set hs hl;have had:=R0 cs;have hR0:=hj.h0;have hRa:=hj.at_;have hci:=hj.len;by_cases hlt:i<n
  ·obtain⟨m,hm⟩:∃ m,n-i=m+1:=⟨n-i-1,by omega⟩
   have hW:=hj.hW;rw[hm] at hW;unfold t6 at hW;obtain⟨ns,N1,hn1⟩:∃ ns N1,Ut bs R'=(ns,N1):=⟨_,_,rfl⟩
   obtain⟨dr,N2,hn2⟩:∃ dr N2,jn bs 1 5 N1=(dr,N2):=⟨_,_,rfl⟩
   have hcn:=zd5 hn1 hn2;have hdl:=Hb T hn2;have hN1:N1.at_<=bs.length:=by have:=N6 (bs:=bs) (R:=R') hRa;rw[ig,hn1] at this;exact this
   have hnm:=fun(u:World) (H:Heap) (hH:zry H u) (hle:B.Le H)=>hn1 ▸ Ye (R:=R') hb I hRa hH (hv.le hle);have hmo:=fun(u:World) (H:Heap) (hH:zry H u) (hle:B.Le H)=>hn2 ▸ cu (R:=N1) (lim:=1) (e:=5) T hb I hN1 hH (hv.le hle);have hlen:ns.length=6:=by have:=zc7 (bs:=bs) (R:=R');rw[hn1] at this;exact this
   have htz:TZ (uOf ns):=by have:=Vf (bs:=bs) (R:=R');rw[ig,hn1] at this;exact this
   obtain⟨t,ht⟩:∃ t,uOf ns=t:=⟨_,rfl⟩
   have hu6:=zev hlen;rw[ht] at htz hu6 hcn;subst hu6;have hms:Kn.mono (.sat (SlV zfz 1 ((u6 t).map Value.string) 6 true)):=nw;have hmr:Kn.mono (.sat fun(v:Value) (_:Heap)=>v=rv (.slice p bs.length c) N1):=fun _ _ _ h _=>h;refine(Zd∘Zbi∘ZI∘Za∘Zz∘Zfm∘Zv∘ZbJ∘ZaX∘ZE∘Zf4∘ZbW) ?_;refine ku 12 930 rfl fun b12=>?_;refine(Zbf∘Zf4) ?_;refine z7 (xl (φ:=NamP (.slice p bs.length c) (u6 t,N1)) L Z Z (zp Z) Z Z Z NamP.mono (fun u H hH hle _=>hnm u H hH hle)) Z ((Zk∘ZcB∘Zce∘ZC∘ZP∘ZaF∘Zg) ?_);refine ku 14 931 rfl fun b14=>?_;refine(ZG∘Zk) ?_;refine z7 (qe L Z Z (zp Z) Z Z Z (fun u H hH _ _ v1 h1=>zcn (t:=t) hH h1)) Z ((ZbW∘ZW∘ZeJ) ?_);refine z71 L Z (fun u H hH hle=>hmo u H hH hle) ?_;refine(ZH∘Zh) ?_;refine xg (yj L (q:=931) (cs':=[.slice p bs.length c,.int .i64 N2.at_,.int .i64 N2.bad,.int .i64 N2.err]) Z Z Z Z Z) (Zam (h:=?_));by_cases h2:N2.err≠0
   ·rw[na h2] at hcn;rw[hcn] at hW;dsimp only at hW;rw[na h2] at hW;subst hW;rw[na (by exact h2)] at hT0;subst hT0;refine(ZO∘Zz) ?_;refine y9 (qk L (q:=931) Z Z Z Z) (ZY (h:=?_));refine qp (id:=14) [(200051,[931])] kj J (qz (kf L (q:=931) (vs:=[_,_,_,_]) Z Z Z Z ⟨[],rfl⟩) Z Z ((Zah∘ZbQ∘ZaE) ?_));refine yl1 L [.tmp 4,.cell 5 166] fun u H hH hle=>?_;exact⟨_,qy Z,rfl,⟨[],_,.slice none 0 0,rfl,SlV.nil,.inr ⟨by exact h2,rfl,rfl⟩⟩⟩
   ·rw[nc h2] at hcn;rw[hcn] at hW;dsimp only at hW;rw[nc h2] at hW;have h20:=mh.1 h2;by_cases he:tE t≠0
    ·rw[na he] at hW;subst hW;rw[na (show(6:Int)≠0 by decide)] at hT0;subst hT0;refine(ZO∘Zz) ?_;refine y9 (qk L (q:=931) Z Z Z Z) ((Zch∘Zap∘Zaq) ?_);refine z71 L Z (fun u H hH _=>u7 htz hH) ?_;refine(ZY∘Zaf∘Zea∘Zz∘Zeb) ?_;refine z71 L Z (fun u H hH _=>ww (R:=R') (a:=R'.at_) (e:=6) hH) ?_;refine(Zh∘Zab) ?_;refine yl1 L [.tmp 4,.cell 5 166] fun u H hH hle=>?_;exact⟨_,qy Z,rfl,⟨[],_,.slice none 0 0,rfl,SlV.nil,.inr ⟨(show(6:Int)≠0 by decide),rfl,rfl⟩⟩⟩
    ·rw[nc he] at hW;have he0:=mh.1 he;refine(ZO∘Zz) ?_;refine y9 (qk L (q:=931) Z Z Z Z) ((Zch∘Zap∘Zaq) ?_);refine z71 L Z (fun u H hH _=>u7 htz hH) ?_;refine Zch (h:=?_);have hdr:dr=1\/dr=0:=I
     cases hgl:(cs.map (·.1)).getLast? with
     | none=>
      have hcs0:cs=[]:=List.map_eq_nil_iff.1 (zrn.1 hgl);have hl0:(cs.map (·.1)).length=0:=by rw[hcs0];rfl
      have hbh:Ng (cs.map (·.1)).getLast? t=true:=by rw[hgl];rfl
      rw[nc (by rw[hbh];decide)] at hW;refine Cf 9 941 _ Z SlR.shape fun z hz=>?_;obtain⟨p1,c1,rfl⟩:=hz;refine qp (id:=17) [] kj J ((Zm∘ZcE∘Zdo∘Zcd∘Zc1∘Za4∘ZaL∘Zf) ?_);refine Km 9 941 rfl Z ?_;rcases hdr with rfl | rfl
      ·have hkk:decide ((1:Nat)=1)=true:=T;rw[hkk] at hcn hW;have hc0:IntKind.i64.wrap ((1:Nat):Int)=1:=T;by_cases hml:t∈l
       ·have hin:(if t∈l then 1 else 0:Int)=1:=na hml;have hkd:decide (t∈l)=true:=nf hml;have hj2:=hj.next hb hlt hcn h20 he0 hbh hkd;have hwu:vg (fe l cs) t true=(fe l (cs++[(t,true)]),0):=Prod.ext (by rw[tp];rfl) (ox hsk htz he0 true I).2.1;have hum:Kn.mono (.sat (US (fe l (cs++[(t,true)])) false)):=nw;have hmi:Kn.mono (.sat (fun v _=>v=Value.int .i64 0)):=fun _ _ _ h _=>h;have h2d:IntKind.i64.wrap (2*1)=2:=T;have h1d:IntKind.i64.wrap (1-2)= -1:=T
        have hmw:IntKind.i64.wrap (((l9 cs).length:Int)-((wg cs).length:Int)+(-1))=(((l9 (cs++[(t,true)])).length:Int)-((wg (cs++[(t,true)])).length:Int)):=by
         rw[tq,ey];simp only[if_true,nr,zn1];exact(xd I I).trans I
        have hwi:IntKind.u64.wrap ((i:Int)+1)=((i+1:Nat):Int):=wrap_u64 I I;refine(Zbu∘Zk∘Zaq) ?_;refine z7 (qe L Z Z (zp Z) Z Z Z (fun u H hH hle _ v1 h1=>jq (l:=l) (t:=t) I hin hH h1)) Z (Za (h:=?_));refine z7 (xw Z Z Z wq.1 wq.2 (xd I I)) Z ((Zaw∘Zb0) ?_);refine qh (yt (.inl Z) Z) ((Zaq∘ZR∘ZcA) ?_);refine qh (yt (.inr Z) Z) (Zg (h:=?_));refine(ZbI∘Zb) ?_;refine z7 (xw Z Z Z wq.1 wq.2 (xd I I)) Z ((Zdy∘Zat∘ZF∘Zc∘ZcC∘Zk∘Zaq∘Za∘Zv∘Zdv) ?_);refine z7 (xl (φ:=R6 (fe l (cs++[(t,true)])) 0) L Z Z (zp Z) Z Z Z R6.mono (fun u H hH hle _ v1 h1=>ri hwu hsk.sst I htz hsk.tz hH h1)) Z ((Zk∘ZcB∘Zce∘ZP∘Zp∘Zc5∘ZeJ) ?_);refine xg (yj L (q:=912) (cs':=[.slice p bs.length c,.int .i64 N2.at_,.int .i64 N2.bad,.int .i64 N2.err]) Z Z Z Z Z) ((ZaJ∘Z7∘Zar∘Zao) ?_);exact yv (x:=(i,cs,R')) (i+1,cs++[(t,true)],N2) hj2 M ⟨Z,Z,Z,Z,Z,Z,by rw[List.map_append];exact gt Z,Z,Z,Z,nm⟩
       ·have hin:(if t∈l then 1 else 0:Int)=0:=nc hml;rw[na (by rw[ng hml];decide)] at hW;subst hW;rw[na (show(5:Int)≠0 by decide)] at hT0;subst hT0;refine(Zbu∘Zk∘Zaq) ?_;refine z7 (qe L Z Z (zp Z) Z Z Z (fun u H hH hle _ v1 h1=>jq (l:=l) (t:=t) I hin hH h1)) Z (Za (h:=?_));refine z7 (xw Z Z Z wq.1 wq.2 (xd I I)) Z ((ZY∘ZaK∘Zea∘Zz∘Zeb) ?_);refine z71 L Z (fun u H hH _=>ww (R:=R') (a:=R'.at_) (e:=5) hH) ?_;refine(Zh∘Zab) ?_;refine yl1 L [.tmp 4,.cell 5 166] fun u H hH hle=>?_;exact⟨_,qy Z,rfl,⟨[],_,.slice none 0 0,rfl,SlV.nil,.inr ⟨(show(5:Int)≠0 by decide),rfl,rfl⟩⟩⟩
      ·have hkk:decide ((0:Nat)=1)=false:=T;rw[hkk] at hcn hW;have hc0:IntKind.i64.wrap ((0:Nat):Int)=0:=T;by_cases hml:t∈l
       ·have hin:(if t∈l then 1 else 0:Int)=1:=na hml;rw[na (by rw[nf hml];decide)] at hW;subst hW;rw[na (show(5:Int)≠0 by decide)] at hT0;subst hT0;refine(Zbu∘Zk∘Zaq) ?_;refine z7 (qe L Z Z (zp Z) Z Z Z (fun u H hH hle _ v1 h1=>jq (l:=l) (t:=t) I hin hH h1)) Z (Za (h:=?_));refine z7 (xw Z Z Z wq.1 wq.2 (xd I I)) Z ((ZY∘ZaK∘Zea∘Zz∘Zeb) ?_);refine z71 L Z (fun u H hH _=>ww (R:=R') (a:=R'.at_) (e:=5) hH) ?_;refine(Zh∘Zab) ?_;refine yl1 L [.tmp 4,.cell 5 166] fun u H hH hle=>?_;exact⟨_,qy Z,rfl,⟨[],_,.slice none 0 0,rfl,SlV.nil,.inr ⟨(show(5:Int)≠0 by decide),rfl,rfl⟩⟩⟩
       ·have hin:(if t∈l then 1 else 0:Int)=0:=nc hml;have hkd:decide (t∈l)=false:=ng hml;have hj2:=hj.next hb hlt hcn h20 he0 hbh hkd;have hwu:vg (fe l cs) t false=(fe l (cs++[(t,false)]),0):=Prod.ext (by rw[tp];rfl) (ox hsk htz he0 false I).2.1;have hum:Kn.mono (.sat (US (fe l (cs++[(t,false)])) false)):=nw;have hmi:Kn.mono (.sat (fun v _=>v=Value.int .i64 0)):=fun _ _ _ h _=>h;have h2d:IntKind.i64.wrap (2*0)=0:=T;have h1d:IntKind.i64.wrap (1-0)=1:=T
        have hmw:IntKind.i64.wrap (((l9 cs).length:Int)-((wg cs).length:Int)+1)=(((l9 (cs++[(t,false)])).length:Int)-((wg (cs++[(t,false)])).length:Int)):=by
         rw[tq,ey];simp only[zom,if_false,nr,zn1];exact(xd I I).trans I
        have hwi:IntKind.u64.wrap ((i:Int)+1)=((i+1:Nat):Int):=wrap_u64 I I;refine(Zbu∘Zk∘Zaq) ?_;refine z7 (qe L Z Z (zp Z) Z Z Z (fun u H hH hle _ v1 h1=>jq (l:=l) (t:=t) I hin hH h1)) Z (Za (h:=?_));refine z7 (xw Z Z Z wq.1 wq.2 (xd I I)) Z ((Zaw∘Zb0) ?_);refine qh (yt (.inl Z) Z) ((Zaq∘ZR∘ZcA) ?_);refine qh (yt (.inr Z) Z) (Zg (h:=?_));refine(ZbI∘Zb) ?_;refine z7 (xw Z Z Z wq.1 wq.2 (xd I I)) Z ((Zdy∘Zat∘ZF∘Zc∘ZcC∘Zk∘Zaq∘Za∘Zn∘Zdv) ?_);refine z7 (xl (φ:=R6 (fe l (cs++[(t,false)])) 0) L Z Z (zp Z) Z Z Z R6.mono (fun u H hH hle _ v1 h1=>ri hwu hsk.sst I htz hsk.tz hH h1)) Z ((Zk∘ZcB∘Zce∘ZP∘Zp∘Zc5∘ZeJ) ?_);refine xg (yj L (q:=912) (cs':=[.slice p bs.length c,.int .i64 N2.at_,.int .i64 N2.bad,.int .i64 N2.err]) Z Z Z Z Z) ((ZaJ∘Z7∘Zar∘Zao) ?_);exact yv (x:=(i,cs,R')) (i+1,cs++[(t,false)],N2) hj2 M ⟨Z,Z,Z,Z,Z,Z,by rw[List.map_append];exact gt Z,Z,Z,Z,nm⟩
     | some y=>
      obtain⟨m',hm'⟩:=zrl.1 hgl;have hml1:(cs.map (·.1)).length=m'.length+1:=by rw[hm'];simp
      have hml2:(cs.map (·.1)).length=i:=by rw[mj];exact hci
      have hws:IntKind.i64.wrap ((((cs.map (·.1)).length:Nat):Int)-1)=((m'.length:Nat):Int):=(xd I I).trans I;have hym:y∈cs.map (·.1):=by rw[hm'];simp
      obtain⟨cy,hcy,hcy2⟩:=m7.1 hym;have hyz:TZ y:=by rw[<-hcy2];exact tz_of ((oa.1 hj.ok).1 cy hcy).1
      refine El 9 941 rfl (fun h0 _=>by omega) fun lb cap rest hl1 hl2 hl3 hl4=>?_
      have hcd:(((cs.map (·.1)).flatMap ucs++rest).drop (0+m'.length*6))=[.string y.1.1.1,.string y.1.1.2,.string y.1.2,.string y.2.1.1,.string y.2.1.2,.string y.2.2]++rest:=by
       have hm6:(m'.flatMap ucs).length=m'.length*6:=by rw[List.length_flatMap];simp [Ck,List.map_const',List.sum_replicate_nat]
       rw[hm',znw,znk,<-hm6,mo,zqa];rfl
      by_cases hlo:jh y t<0
      ·have hbh:Ng (cs.map (·.1)).getLast? t=true:=by rw[hgl];exact nf hlo
       rw[nc (by rw[hbh];decide)] at hW;refine qp (id:=17) [(200068,[941])] kj J ((Zm∘ZcE∘Zda∘Zb2∘ZcE∘ZbV) ?_);refine qz (kf L (q:=941) (vs:=[.string y.1.1.1,.string y.1.1.2,.string y.1.2,.string y.2.1.1,.string y.2.1.2,.string y.2.2]) Z Z Z Z ⟨_,hcd⟩) Z Z (ZdR (h:=?_));refine z91 L Z (fun u H hH _=>rm (a:=y) (b:=t) hyz htz hH) ?_;refine(Zev∘Za4∘ZaL∘Zf) ?_;refine da 9 941 rfl Z Z hl1 hl2 hl3 hl4 ?_;rcases hdr with rfl | rfl
       ·have hkk:decide ((1:Nat)=1)=true:=T;rw[hkk] at hcn hW;have hc0:IntKind.i64.wrap ((1:Nat):Int)=1:=T;by_cases hml:t∈l
        ·have hin:(if t∈l then 1 else 0:Int)=1:=na hml;have hkd:decide (t∈l)=true:=nf hml;have hj2:=hj.next hb hlt hcn h20 he0 hbh hkd;have hwu:vg (fe l cs) t true=(fe l (cs++[(t,true)]),0):=Prod.ext (by rw[tp];rfl) (ox hsk htz he0 true I).2.1;have hum:Kn.mono (.sat (US (fe l (cs++[(t,true)])) false)):=nw;have hmi:Kn.mono (.sat (fun v _=>v=Value.int .i64 0)):=fun _ _ _ h _=>h;have h2d:IntKind.i64.wrap (2*1)=2:=T;have h1d:IntKind.i64.wrap (1-2)= -1:=T
         have hmw:IntKind.i64.wrap (((l9 cs).length:Int)-((wg cs).length:Int)+(-1))=(((l9 (cs++[(t,true)])).length:Int)-((wg (cs++[(t,true)])).length:Int)):=by
          rw[tq,ey];simp only[if_true,nr,zn1];exact(xd I I).trans I
         have hwi:IntKind.u64.wrap ((i:Int)+1)=((i+1:Nat):Int):=wrap_u64 I I;refine(Zbu∘Zk∘Zaq) ?_;refine z7 (qe L Z Z (zp Z) Z Z Z (fun u H hH hle _ v1 h1=>jq (l:=l) (t:=t) I hin hH h1)) Z (Za (h:=?_));refine z7 (xw Z Z Z wq.1 wq.2 (xd I I)) Z ((Zaw∘Zb0) ?_);refine qh (yt (.inl Z) Z) ((Zaq∘ZR∘ZcA) ?_);refine qh (yt (.inr Z) Z) (Zg (h:=?_));refine(ZbI∘Zb) ?_;refine z7 (xw Z Z Z wq.1 wq.2 (xd I I)) Z ((Zdy∘Zat∘ZF∘Zc∘ZcC∘Zk∘Zaq∘Za∘Zv∘Zdv) ?_);refine z7 (xl (φ:=R6 (fe l (cs++[(t,true)])) 0) L Z Z (zp Z) Z Z Z R6.mono (fun u H hH hle _ v1 h1=>ri hwu hsk.sst I htz hsk.tz hH h1)) Z ((Zk∘ZcB∘Zce∘ZP∘Zp∘Zc5∘ZeJ) ?_);refine xg (yj L (q:=912) (cs':=[.slice p bs.length c,.int .i64 N2.at_,.int .i64 N2.bad,.int .i64 N2.err]) Z Z Z Z Z) ((ZaJ∘Z7∘Zar∘Zao) ?_);exact yv (x:=(i,cs,R')) (i+1,cs++[(t,true)],N2) hj2 M ⟨Z,Z,Z,Z,Z,Z,by rw[List.map_append];exact gt Z,Z,Z,Z,nm⟩
        ·have hin:(if t∈l then 1 else 0:Int)=0:=nc hml;rw[na (by rw[ng hml];decide)] at hW;subst hW;rw[na (show(5:Int)≠0 by decide)] at hT0;subst hT0;refine(Zbu∘Zk∘Zaq) ?_;refine z7 (qe L Z Z (zp Z) Z Z Z (fun u H hH hle _ v1 h1=>jq (l:=l) (t:=t) I hin hH h1)) Z (Za (h:=?_));refine z7 (xw Z Z Z wq.1 wq.2 (xd I I)) Z ((ZY∘ZaK∘Zea∘Zz∘Zeb) ?_);refine z71 L Z (fun u H hH _=>ww (R:=R') (a:=R'.at_) (e:=5) hH) ?_;refine(Zh∘Zab) ?_;refine yl1 L [.tmp 4,.cell 5 166] fun u H hH hle=>?_;exact⟨_,qy Z,rfl,⟨[],_,.slice none 0 0,rfl,SlV.nil,.inr ⟨(show(5:Int)≠0 by decide),rfl,rfl⟩⟩⟩
       ·have hkk:decide ((0:Nat)=1)=false:=T;rw[hkk] at hcn hW;have hc0:IntKind.i64.wrap ((0:Nat):Int)=0:=T;by_cases hml:t∈l
        ·have hin:(if t∈l then 1 else 0:Int)=1:=na hml;rw[na (by rw[nf hml];decide)] at hW;subst hW;rw[na (show(5:Int)≠0 by decide)] at hT0;subst hT0;refine(Zbu∘Zk∘Zaq) ?_;refine z7 (qe L Z Z (zp Z) Z Z Z (fun u H hH hle _ v1 h1=>jq (l:=l) (t:=t) I hin hH h1)) Z (Za (h:=?_));refine z7 (xw Z Z Z wq.1 wq.2 (xd I I)) Z ((ZY∘ZaK∘Zea∘Zz∘Zeb) ?_);refine z71 L Z (fun u H hH _=>ww (R:=R') (a:=R'.at_) (e:=5) hH) ?_;refine(Zh∘Zab) ?_;refine yl1 L [.tmp 4,.cell 5 166] fun u H hH hle=>?_;exact⟨_,qy Z,rfl,⟨[],_,.slice none 0 0,rfl,SlV.nil,.inr ⟨(show(5:Int)≠0 by decide),rfl,rfl⟩⟩⟩
        ·have hin:(if t∈l then 1 else 0:Int)=0:=nc hml;have hkd:decide (t∈l)=false:=ng hml;have hj2:=hj.next hb hlt hcn h20 he0 hbh hkd;have hwu:vg (fe l cs) t false=(fe l (cs++[(t,false)]),0):=Prod.ext (by rw[tp];rfl) (ox hsk htz he0 false I).2.1;have hum:Kn.mono (.sat (US (fe l (cs++[(t,false)])) false)):=nw;have hmi:Kn.mono (.sat (fun v _=>v=Value.int .i64 0)):=fun _ _ _ h _=>h;have h2d:IntKind.i64.wrap (2*0)=0:=T;have h1d:IntKind.i64.wrap (1-0)=1:=T
         have hmw:IntKind.i64.wrap (((l9 cs).length:Int)-((wg cs).length:Int)+1)=(((l9 (cs++[(t,false)])).length:Int)-((wg (cs++[(t,false)])).length:Int)):=by
          rw[tq,ey];simp only[zom,if_false,nr,zn1];exact(xd I I).trans I
         have hwi:IntKind.u64.wrap ((i:Int)+1)=((i+1:Nat):Int):=wrap_u64 I I;refine(Zbu∘Zk∘Zaq) ?_;refine z7 (qe L Z Z (zp Z) Z Z Z (fun u H hH hle _ v1 h1=>jq (l:=l) (t:=t) I hin hH h1)) Z (Za (h:=?_));refine z7 (xw Z Z Z wq.1 wq.2 (xd I I)) Z ((Zaw∘Zb0) ?_);refine qh (yt (.inl Z) Z) ((Zaq∘ZR∘ZcA) ?_);refine qh (yt (.inr Z) Z) (Zg (h:=?_));refine(ZbI∘Zb) ?_;refine z7 (xw Z Z Z wq.1 wq.2 (xd I I)) Z ((Zdy∘Zat∘ZF∘Zc∘ZcC∘Zk∘Zaq∘Za∘Zn∘Zdv) ?_);refine z7 (xl (φ:=R6 (fe l (cs++[(t,false)])) 0) L Z Z (zp Z) Z Z Z R6.mono (fun u H hH hle _ v1 h1=>ri hwu hsk.sst I htz hsk.tz hH h1)) Z ((Zk∘ZcB∘Zce∘ZP∘Zp∘Zc5∘ZeJ) ?_);refine xg (yj L (q:=912) (cs':=[.slice p bs.length c,.int .i64 N2.at_,.int .i64 N2.bad,.int .i64 N2.err]) Z Z Z Z Z) ((ZaJ∘Z7∘Zar∘Zao) ?_);exact yv (x:=(i,cs,R')) (i+1,cs++[(t,false)],N2) hj2 M ⟨Z,Z,Z,Z,Z,Z,by rw[List.map_append];exact gt Z,Z,Z,Z,nm⟩
      ·have hbh:Ng (cs.map (·.1)).getLast? t=false:=by rw[hgl];exact ng hlo
       rw[na hbh] at hW;subst hW;rw[na (show(18:Int)≠0 by decide)] at hT0;subst hT0;refine qp (id:=17) [(200068,[941])] kj J ((Zm∘ZcE∘Zda∘Zb2∘ZcE∘ZbV) ?_);refine qz (kf L (q:=941) (vs:=[.string y.1.1.1,.string y.1.1.2,.string y.1.2,.string y.2.1.1,.string y.2.1.2,.string y.2.2]) Z Z Z Z ⟨_,hcd⟩) Z Z (ZdR (h:=?_));refine z91 L Z (fun u H hH _=>rm (a:=y) (b:=t) hyz htz hH) ?_;refine(ZdO∘ZaA∘ZaN∘Zf∘Zbb∘Zea∘Zz∘Zeb) ?_;refine z71 L Z (fun u H hH _=>ww (R:=R') (a:=R'.at_) (e:=18) hH) ?_;refine(Zh∘Zab) ?_;refine yl1 L [.tmp 4,.cell 5 166] fun u H hH hle=>?_;exact⟨_,qy Z,rfl,⟨[],_,.slice none 0 0,rfl,SlV.nil,.inr ⟨(show(18:Int)≠0 by decide),rfl,rfl⟩⟩⟩
  ·obtain rfl:i=n:=by have:=hj.hi;omega
   have hW:=hj.hW;rw[zoq] at hW;have hW2:(((l9 cs,wg cs),R'),((0:Int),(0:Int)))=Y:=hW;subst hW2;rw[nc (fun h=>h rfl)] at hT0;dsimp only at hT0;have hww:IntKind.i64.wrap ((l.length:Int)+(((l9 cs).length:Int)-((wg cs).length:Int)))=(l.length:Int)+(((l9 cs).length:Int)-((wg cs).length:Int)):=xd I I;have hnz:¬ l.length+(l9 cs).length>4096+(wg cs).length:=I;rw[nc hnz] at hT0;subst hT0;have hor:=Uo hs hj.ok I I;refine(Zd∘Zbi∘Z6∘Zbe∘ZaP∘Zf∘ZdV∘Zz∘Zfm∘Zv∘Za∘Zl∘Zar∘Zan∘ZaT) ?_;refine qp (id:=27) [(200121,[912])] kj J (Zag (h:=?_));refine qz (kf L (q:=912) (vs:=[_,_,_,_]) Z Z Z Z ⟨[],rfl⟩) Z Z ((Zc2∘ZbQ∘ZaE) ?_);refine yl1 L [.tmp 4,.cell 5 166] fun u H hH hle=>?_;exact fun v hv=>⟨_,qy Z,rfl,⟨fe l cs,R',v,rfl,hv,.inl ⟨rfl,hor,rfl⟩⟩⟩
end Go.V.L11
end
end
