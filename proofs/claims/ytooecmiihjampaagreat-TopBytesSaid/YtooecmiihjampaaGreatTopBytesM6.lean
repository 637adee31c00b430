/- Texts, part 6. -/
import Derived.Test.YtooecmiihjampaaGreatTopBytesM5
import Derived.Laws.IdiomStrings
import Derived.Laws.BytesArg
import Derived.ProofKit
import Derived.HandedShaped
import Derived.OpenShut
import Derived.Deep.Slices
set_option linter.unusedVariables false
set_option linter.unusedSimpArgs false
set_option maxRecDepth 20000
set_option maxHeartbeats 8000000
set_option linter.defProp false
open Go.Proofs Go.RowKit
section
variable{es:Go.V.L10.Ent}{l s t:List Go.V.L2.U}{a b b1 d fr i last lim m n rb sb wb:Nat}{g:Option (Nat×Bool)}{R:Go.V.L4.Rd}{S:Go.V.L10.Sto}{w:Go.World}{B H:Go.V.Heap}{C:Nat->Prop}{args cap fst vs:List Go.Value}{α:Type}{sv v:Go.Value}{fu:Bool}{e fr0 r:Int}{cs:List Go.V.L8.CH}{L0 P:List Int}{F:Go.V.Fr}{O:Go.V.Boxes}{ops:Array Go.Oper}{κ:Go.V.Kap}{ty:Go.TypeId}{pos:String}{aft:Array Go.Edge}{bs rest:List Nat}{c:Go.V.L8.CH}{zs:List (Int×List Go.V.L2.U)}{φ1 φ2:Go.Value->Go.V.Heap->Prop}{A Y:Prop}
section
open Go.V
attribute [local irreducible] Has N Par Ret RetL RetO RetT RetX RetY Src StepOK V VO X kx
namespace Go.V.L10
open Go.V.L2 Go.V.L8 Go.V.L6
def zjn(es:Ent)(l:List Int):Ent:=l.foldl (fun e g=>T6 g e) es
def zao{l:List Int}{g:Int}(h:l[i]?=some g):zjn es (l.take (i+1))=T6 g (zjn es (l.take i)):=by unfold zjn;rw[vl h,List.foldl_append];rfl
def MapOK.dels:∀ {l:List Int} {es:Ent} {R:List (Option (List U))},MapOK es R->(∀ g∈l,0<g)->MapOK (zjn es l) (zaw R l)
 | [],_,_,h,_=>h
 | g::l,_,_,h,hg=>MapOK.dels (l:=l) (h.del (hg g (mb ..))) fun x hx=>hg x (me _ hx)
def EsV.dels:∀ {l:List Int} {es:Ent} {H:Heap},EsV es H->EsV (zjn es l) H
 | [],_,_,h=>h
 | g::l,_,_,h=>EsV.dels (l:=l) fun e he=>h e ((He g _).subset he)
def zd2{P0:List Int}{R:List (Option (List U))}{k:Nat}:∀ g∈a9 P0 (k7 R) k,0<g:=fun g hg=>by
 unfold a9 at hg;have h1:=zr6 (zpg.1 hg).1;exact(bj (vo.1 h1)).1
def vi{t:Nat}{s:Value}:∀ v H u C,(StO b n m s t es).res.P v H u C->joinH H u C b=some (.cells (stc n m s t).toArray tyS):=by rw[cm];exact Yx
def zen{t:Nat}{s:Value}:∀ v H u C,(StO b n m s t es).res.P v H u C->u.heap[b]?=some (.cells (stc n m s t).toArray tyS):=by rw[cm];exact zba
abbrev zmg(g:List Int)(e:Int):Value->Heap->Prop:=TupS [RsV g true,fun v _=>v=.int .i64 e]
def Lj{keep:Int}(hn:S.R.length≠0)(hz:S.P.length<=100000)(hR:S.R.length<=100000)(hB:zth B w)(hr:(StG b S).P B w C)(hC:ZCB C w B):
  RetY zti 84 [.pointer (some ⟨b,0,none⟩),.int .i64 keep] w B C (StG b (Am S keep).1) (zmg (Am S keep).2.1 (Am S keep).2.2):=by
 unfold RetY;refine xa 900 (StG b S) Tryz.func84 Z Tryz.ntmps84 (np Z) hB hr hC ?_;rw[Cl];refine v9 900 rfl fun x H hs0 hφ=>?_;obtain⟨m,s,es⟩:=x;obtain⟨hm,hes,hps⟩:=hφ;dsimp only at hm hes hps |-;obtain⟨ps,pc,rfl⟩:=jh hps;have hlen:=hm.len;have hkl:=A6 S.R;by_cases hk1:keep<1
 ·have hS:Am S keep=(S,[],4):=by unfold Am;rw[if_neg T]
  rw[hS];refine(ZP∘ZaS∘ZH∘Zbp) ?_;refine yd (xx L 900 (Φ:=fun H=>H b=some (.cells (stc S.R.length m (.slice ps (xe S.P).length pc) S.P.length).toArray tyS)) (c:=.bool false) Z Z (zm Z) Z Z Z Z Z vi (fun u H hH hle hb=>none_ret hn hb hH)) ((Za6∘ZA∘ZN∘ZcE∘Zh∘Zcd∘ZcI∘ZR) ?_);exact vr 900 (StG b S).res Z (ff hm hes hps) (uh L 900 (r:=StG b S) (rs:=[.tmp 4,.tmp 5]) Z (fun _ _ h=>h) hs0 Z Z (fun H hle=>Xa SlV.nil))
 ·by_cases hk2:1024<keep
  ·have hS:Am S keep=(S,[],4):=by unfold Am;rw[if_neg T]
   rw[hS];refine(ZP∘ZaS∘ZH∘Zbp) ?_;refine yd (xx L 900 (Φ:=fun H=>H b=some (.cells (stc S.R.length m (.slice ps (xe S.P).length pc) S.P.length).toArray tyS)) (c:=.bool false) Z Z (zm Z) Z Z Z Z Z vi (fun u H hH hle hb=>none_ret hn hb hH)) ((Za6∘ZA∘ZJ∘Zb∘ZO∘Zh∘Zcd∘ZcI∘ZR) ?_);exact vr 900 (StG b S).res Z (ff hm hes hps) (uh L 900 (r:=StG b S) (rs:=[.tmp 4,.tmp 5]) Z (fun _ _ h=>h) hs0 Z Z (fun H hle=>Xa SlV.nil))
  ·obtain⟨k,rfl⟩:∃ k:Nat,keep=(k:Int):=⟨keep.toNat,by omega⟩
   have hS:Am S k=(⟨zaw S.R (a9 S.P (k7 S.R) k),S.P⟩,a9 S.P (k7 S.R) k,0):=by unfold Am;rw[if_pos T];rfl
   rw[hS];have hgp:∀ x∈a9 S.P (k7 S.R) k,0<x:=zd2
   have hgl:(a9 S.P (k7 S.R) k).length<=100000:=by
    unfold a9;refine mp (zqu ..) ?_;rw[mg];omega
   generalize hg:a9 S.P (k7 S.R) k=g at hgp hgl;refine(ZP∘ZaS∘ZH∘Zbp) ?_;refine yd (xx L 900 (Φ:=fun H=>H b=some (.cells (stc S.R.length m (.slice ps (xe S.P).length pc) S.P.length).toArray tyS)) (c:=.bool false) Z Z (zm Z) Z Z Z Z Z vi (fun u H hH hle hb=>none_ret hn hb hH)) ((Za6∘ZA∘ZJ∘Zb∘ZL∘Zh∘Zo∘Zae∘Za7∘Zbz) ?_);refine qo (id:=5) [(200022,[900]),(200024,[900])] ki J (ZaK (h:=?_));refine qz (Xy L (q:=900) (vs:=[_,_]) Z Z zen Z Z Z Z ⟨_,rfl⟩) Z Z (Zl (h:=?_));refine qz (vm L 900 (RsV (k7 S.R) true) (r:=StO b S.R.length m _ S.P.length es) Z Z Z Z Z ns (fun u H2 C2 hH hle hr2 hC2=>(oa hm hn T hH hr2 hC2).pubY d8)) Z Z (Zl (h:=?_));refine z8 (xg (φ:=RsV g true) L Z Z (zm Z) Z Z Z ns (fun u H2 hH hle _ v1 h1=>by rw[<-hg];exact zd1 hz T T hH (hps.le hle) h1)) Z ?_;refine(Zc4∘ZaZ∘Ze) ?_;rw[cm];refine ZdV (h:=?_);refine(Zs∘Zg∘ZaW) ?_
   refine xm (fun y:Nat×Ent=>[(0,.is (.pointer (some ⟨b,0,none⟩))),(6,.sat (RsV g true)),(27,.sat (RsV g true)),(28,.is (.int .i64 g.length)),(29,.is (.int .i64 y.1)),(900,.own (xp b (stc S.R.length m (.slice ps (xe S.P).length pc) S.P.length) tyS)),(901,.own (Ef m .u64 vcE y.2))])
    (fun y=>y.1<=g.length/\y.2=zjn es (g.take y.1)) (fun y=>g.length-y.1) (0,es) ⟨mc _,rfl⟩ ⟨rfl,rfl,rfl,rfl,rfl,rfl,rfl,nm⟩ ?_
   rintro⟨i,ec⟩ ⟨hi,hec⟩;dsimp only at hi hec |-;by_cases hlt:i<g.length
   ·obtain⟨x,hx⟩:=xk hlt;have hc:=Lv hx;have hnx:=zao (es:=es) hx;have hwk:IntKind.i64.wrap ((i:Int)+1)=((i+1:Nat):Int):=xb T T;refine(Ze∘ZC∘Z6∘Zv∘Zau∘ZcO∘Zc∘Zal∘ZS∘Za) ?_;refine xl (Tw (q:=901) (vc:=vcE) x mpS kyS Z Z Z Z Z) ((Zax∘ZI∘Z7∘Zc1) ?_);exact ym (x:=(i,ec)) (i+1,T6 x ec) ⟨hlt,by rw[hnx,hec]⟩ G ⟨Z,Z,Z,Z,Z,Z,Z,nm⟩
   ·obtain rfl:i=g.length:=by omega
    rw[m9] at hec;subst hec;refine(Ze∘ZC∘Zav∘ZY∘Zk∘Zat∘Zc) ?_;refine Zdw (h:=?_);refine vr 900 (StG b ⟨zaw S.R g,S.P⟩).res Z (fun v H u C hle h=>ff (S:=⟨zaw S.R g,S.P⟩) (hm.dels hgp) hes.dels hps v H u C hle (by dsimp only;rw[au];exact h)) ?_;exact uh L 900 (r:=StG b ⟨zaw S.R g,S.P⟩) (rs:=[.tmp 4,.tmp 5]) Z (fun _ _ h=>h) hs0 Z Z (fun H hle=>fun v hv=>Xa hv)
abbrev eu(b:Nat):Value:=.pointer (some ⟨b,0,none⟩)
abbrev znt(S:Sto):Res:=Kh eu fun b=>StG b S
def Yp{Y:Type}:MapOK ([]:List (Int×(List U×Y))) []:=⟨zqn,fun r=>by
 cases h:kpt ([]:List (Option (List U))) r with
 | none=>rfl
 | some t=>have:=bj (R:=[]) (r:=r) (by rw[h];rfl);simp at this;omega⟩
def Yq:MapOK [((1:Int),(([]:List U),nilSet))] newS.R:=by
 have h:=(Yp (Y:=Value)).add [] nilSet;have h2:=h.1;rw[h.2] at h2;exact h2
def zdk{Y:Type}{k:Int}{y:Y}{l:List (Int×Y)}(h:k∉l.map Prod.fst):Pa k y l=l++[(k,y)]:=by
 refine sj (i:=0) ?_;have h1:¬ (um k l).isSome=true:=fun hs=>h (pj.1 hs);unfold um at h1
 cases hm:po k l 0 with
 | none=>rfl
 | some q=>rw[hm] at h1;exact ni rfl h1
def zcu(hB:zth B w):RetO zti 81 [] w B (znt newS):=by
 refine wz Tryz.func81 Z Tryz.ntmps81 (np Z) hB (Z4 (h:=?_));refine z7 (Oz (hint:=none) .u64 vcE Z Z) Z ?_;refine U4 1 901 rfl fun m=>?_;refine Zdt (h:=?_);refine xl (Tq (q:=901) (vc:=vcE) 1 ([],nilSet) mpS kyS Z Z Z Z Z Z Z) (Za (h:=?_));refine z7 (yu (cs:=[_,_,_,_]) Z Z zkn Z Z) Z (ZdN (h:=?_));refine qe (yr (.inr Z) Z) (ZF (h:=?_));refine k9 0 900 rfl fun b=>?_;refine wa 900 901 rfl Z (xf (zmt m .u64 vcE [((1:Int),(([]:List U),nilSet))])) ?_;refine vr 900 (StG b newS).res Z (fun v H u C hle h=>ff (S:=newS) (s:=.slice none 0 0) (m:=m) (B:=B) Yq (fun e he=>by rw[m4.1 he];exact SetV.nil) SlV.nil v H u C hle h) ?_;exact ze6 0 900 eu (fun b=>StG b newS) b Z Z (p9 Z (fun _ _ h=>h) nq Z)
end Go.V.L10
end
namespace Go.V.L10
open Go.V Go.V.L2 Go.V.L8 Go.V.L6
abbrev SB:=List U×(Value×Option Addr×Value×Option Addr)
abbrev sbv(b:SB):Value:=.agg #[b.2.1,.pointer b.2.2.1,b.2.2.2.1,.pointer b.2.2.2.2]
def sbc(b:SB):List Value:=[b.2.1,.pointer b.2.2.1,b.2.2.2.1,.pointer b.2.2.2.2]
def zg4(b:SB):(sbc b).length=4:=rfl
abbrev zo6(z:Int×SB):Int×(List U×Value):=(z.1,(z.2.1,sbv z.2))
def zsE(zs:List (Int×SB)):Ent:=zs.map zo6
def SbOK(bs:List SB)(H:Heap):Prop:=∀ b∈bs,SetV b.1 (sbv b) H
def SbOK.le{bs:List SB}{H H':Heap}(h:SbOK bs H)(hle:H.Le H'):SbOK bs H':=fun b hb=>(h b hb).le hle
def SbOK.mem_plain{bs:List SB}(h:SbOK bs H)(b:SB)(hb:b∈bs):(sbc b).all u7=true:=by
 obtain⟨f1,p1,f2,p2,hv,hp⟩:=(h b hb).shape;unfold sbv at hv;cases hv;exact hp
abbrev SsV(bs:List SB)(fu:Bool):Value->Heap->Prop:=SlV tySt 4 (bs.flatMap sbc) bs.length fu
def zm2{bs:List SB}{b:SB}(h:bs[i]?=some b):((bs.flatMap sbc).drop (i*4)).take 4=[b.2.1,.pointer b.2.2.1,b.2.2.2.1,.pointer b.2.2.2.2]:=fw zg4 bs i b h
def zbv(rs:List Int):Prop:=(0::rs).Pairwise (·<·)
instance (rs:List Int):Decidable (zbv rs):=inferInstanceAs (Decidable ((0::rs).Pairwise (·<·)))
def zey{rs:List Int}(h:zbv rs){x:Int}(hx:rs[i]?=some x):sk rs i<x:=by
 have h2:=mj.1 h
 cases i with
 | zero=>exact h2.1 x (zpa hx)
 | succ i=>
  obtain⟨y,hy⟩:=xk (show i<rs.length by have:=get_lt hx;omega);rw[i9 hy];have h3:=zqz.1 h2.2 i (i+1) (get_lt hy) (get_lt hx) (zr7 i)
  rwa [ln hy,ln hx] at h3
def zex{rs:List Int}{i:Nat}{x:Int}(h:zbv (rs.take i))(hle:∀ a∈0::rs.take i,a<=sk rs i)(hx:rs[i]?=some x)(hlt:sk rs i<x):zbv (rs.take (i+1))/\∀ a∈0::rs.take (i+1),a<=sk rs (i+1):=by
 rw[vl hx,i9 hx];constructor
 ·unfold zbv at h |-;rw[<-zpq,zp4];refine⟨h,zqr _ _,fun a ha b hb=>?_⟩;rw[m4.1 hb];have:=hle a ha;omega
 ·intro a ha;rw[<-zpq,mh,m4] at ha;rcases ha with ha | rfl
  ·have:=hle a ha;omega
  ·omega
def mkE(rs L0:List Int):Int:=if rs.length=0 then 1 else if 1024<rs.length then 3 else if zbv rs then (if ∀ h∈kz L0,h∈rs then 0 else 14) else 18
def MkR(e:Int)(S:Sto):Res where
 P v H u C:=(e=0/\∃ b,v=.tuple #[eu b,.int .i64 0]/\(StG b S).P H u C)\/(e≠0/\v=.tuple #[.pointer none,.int .i64 e]/\∀ k,¬ C k)
 st:=fun h a b c d=>h.imp (fun⟨h1,x,h2,h3⟩=>⟨h1,x,h2,(StG x S).st h3 a b c d⟩) id
def zk5{f:FuncId}(h:RetO zti f args w B (MkR 0 S)):RetO zti f args w B (Kh (fun b=>.tuple #[eu b,.int .i64 0]) fun b=>StG b S):=
 RetL.mono h fun _ _ _ _ ⟨C,h1,h2⟩=>⟨C,h1.elim (fun⟨_,b,hb,hs⟩=>⟨b,hb,hs⟩) fun h=>ni rfl h.1,h2⟩
attribute [local irreducible] V N X VO Par StepOK Has Ret RetL RetO RetT kx RetX RetY Src
end Go.V.L10
section
open Go.V
attribute [local irreducible] Has N Par Ret RetL RetO RetT RetX RetY Src StepOK V VO X kx
namespace Go.V.L10
open Go.V.L2 Go.V.L8 Go.V.L6
def _root_.Zfb(t:Wr Y->A:=by intro h;refine qo (id:=2) [(200009,[900]),(200011,[901]),(200016,[901]),(200022,[900]),(200024,[901])] ki J ?_;exact h.1)(h:Y):A:=t ⟨h⟩
def zo2{p:α->Bool}{l:List α}{x:α}(h:l[i]?=some x)(hx:p x=true)(hb:∀ (j:Nat) y,j<i->l[j]?=some y->p y=false):l.findIdx? p=some i:=by
 rw[List.findIdx?_eq_some_iff_getElem];have hi:i<l.length:=get_lt h;rw[zpt hi] at h;cases h;exact⟨hi,hx,fun j hj=>by simp [hb j _ hj (zpt T)]⟩
def zo1{p:α->Bool}{l:List α}(hb:∀ (j:Nat) y,l[j]?=some y->p y=false):l.findIdx? p=none:=by
 rw[List.findIdx?_eq_none_iff];intro x hx;obtain⟨j,hj⟩:=zp1 hx;exact hb j x hj
def zni:Option Nat->Int
 | some i=>i
 | none=> -1
def zdz{p:α->Bool}{l:List α}:decide (0<=zni (l.findIdx? p))=l.any p:=by
 cases hf:l.findIdx? p with
 | none=>
  rw[List.findIdx?_eq_none_iff] at hf;have:l.any p=false:=List.any_eq_false.2 fun x hx=>by simpa using hf x hx
  rw[this];rfl
 | some i=>
  rw[List.findIdx?_eq_some_iff_getElem] at hf;obtain⟨hi,hx,_⟩:=hf;rw[zr3.2 ⟨_,List.getElem_mem hi,hx⟩];exact nf (Int.natCast_nonneg _)
def StV(a n m:Nat)(s:Value)(t:Nat)(es:Ent)(H:Heap):Prop:=H a=some (.cells (stc n m s t).toArray tyS)/\MapVis m .u64 vcE es H
def StV.le{a n m t:Nat}{s:Value}{es:Ent}{H H':Heap}(h:StV a n m s t es H)(hle:H.Le H'):StV a n m s t es H':=⟨hle _ _ h.1,h.2.le hle⟩
def zfi{t:Nat}{s:Value}{u:World}{D:Nat->Prop}(h:(StO b n m s t es).res.P v H u C)(hD:∀ k,C k->D k):StV b n m s t es (joinH H u D):=by
 rw[cm] at h;obtain⟨C1,C2,⟨hb,hC1⟩,⟨⟨ar,ck,hm,he,_⟩,hC2⟩,h3,_⟩:=h;exact⟨(d9 (hD _ ((h3 _).2 (.inl ((hC1 _).2 rfl))))).trans hb,ar,ck,(d9 (hD _ ((h3 _).2 (.inr ((hC2 _).2 rfl))))).trans hm,he⟩
def zgs{t b' n' m' t':Nat}{s s':Value}{es':Ent}:∀ v H u C,(iq (StO b n m s t es).res (StO b' n' m' s' t' es').res).P v H u C->StV b n m s t es (joinH H u C)/\StV b' n' m' s' t' es' (joinH H u C):=
 fun _ _ _ _ ⟨_,_,h1,h2,h3,_⟩=>⟨zfi h1 fun k hk=>(h3 k).2 (.inl hk),zfi h2 fun k hk=>(h3 k).2 (.inr hk)⟩
def Cq(A B:Sto):Bool:=decide (A.R=B.R) && decide (xe A.P=xe B.P)
def zgt{A B:List (Option (List U))}(hl:A.length=B.length)(h:∀ r∈k7 A,kpt A r=kpt B r)(hk:k7 A=k7 B):A=B:=by
 apply zsn;intro i;rcases m8 i A.length with hi | hi
 ·have h1:kpt A ((i+1:Nat):Int)=kpt B ((i+1:Nat):Int):=by
   by_cases hm:((i+1:Nat):Int)∈k7 A
   ·exact h _ hm
   ·have hm2:((i+1:Nat):Int)∉k7 B:=hk ▸ hm;rw[vo] at hm hm2
    cases ha:kpt A ((i+1:Nat):Int) with
    | some x=>rw[ha] at hm;exact ni rfl hm
    | none=>
     cases hb:kpt B ((i+1:Nat):Int) with
     | some x=>rw[hb] at hm2;exact ni rfl hm2
     | none=>rfl
  rw[ra,ra,zpt hi,zpt T] at h1;rw[zpt hi,zpt T];exact nh some h1
 ·rw[zpd hi,zpd T]
def Ai{a b:List Int}{f:Bool}{fa fb:Bool}(hf:decide (a=b)=f)(ha:a.length<=100000){v1 v2:Value}(hB:zth B w)(h1:RsV a fa v1 B)(h2:RsV b fb v2 B):
  Ret zti 157 [v1,v2] w B (fun v _=>v=.bool f):=by
 subst hf;refine yn Tryz.func157 Z Tryz.ntmps157 (np Z) hB (k8 0 (RsV a fa) Z ns h1 (k8 1 (RsV b fb) Z ns h2 ?_));by_cases hl:a.length=b.length
 ·refine(ZP∘ZG∘Zg∘Zg∘Zaq∘Z1∘ZK∘Zg∘ZaW) ?_;refine xm (fun i:Nat=>[(0,.sat (RsV a fa)),(1,.sat (RsV b fb)),(12,.is (.int .i64 a.length)),(13,.is (.int .i64 i))]) (fun i=>i<=a.length/\a.take i=b.take i) (fun i=>a.length-i) 0 ⟨mc _,rfl⟩ ⟨Z,Z,Z,Z,nm⟩ ?_;rintro i ⟨hi,ht⟩;by_cases hlt:i<a.length
  ·obtain⟨x,hx⟩:=xk hlt;obtain⟨y,hy⟩:=xk (show i<b.length by omega);have hc1:=Lv hx;have hc2:=Lv hy;have hwk:IntKind.i64.wrap ((i:Int)+1)=((i+1:Nat):Int):=xb T T;by_cases hxy:x=y
   ·refine(Zci∘ZU∘Zd∘ZcK∘Zeq∘Zd0∘Zeq∘Zd0∘ZdW∘ZaN∘Zda∘ZaE∘Zv∘Z7∘Zc1) ?_;exact ym (x:=i) (i+1) ⟨hlt,by rw[vl hx,vl hy,ht,hxy]⟩ T ⟨Z,Z,Z,Z,nm⟩
   ·rw[ng (zl0 hx hy hxy)];refine(Zci∘ZU∘Zd∘ZcK∘Zeq∘Zd0∘Zeq∘Zd0∘Zf3∘ZbW∘Ze∘ZC∘Zc) ?_;exact yj2 L [.tmp 4]
  ·obtain rfl:i=a.length:=by omega
   have hab:a=b:=by rw[m9,hl,m9] at ht;exact ht
   rw[nf hab];refine(ZcI∘Zav∘ZM∘Zc) ?_;exact yj2 L [.tmp 4]
 ·rw[ng (zfu hl)];refine(ZP∘ZG∘Zg∘Zg∘ZaO∘Z9∘Zc) ?_;exact yj2 L [.tmp 4]
def Rl{l:List Int}{p:Int->Bool}{f:Nat}(hfn:L.fn f=some ())(hlm:l.length<=100000)(hf:∀ r∈l,∀ (u:World) (H:Heap),B.Le H->zth H u->Ret zti f ([.int .u64 r]++cap) u H (fun x _=>x=.bool (p r)))(hv:RsV l fu v B)(hB:zth B w):
  Ret zti 214 [v,.func (.func f) #[] cap.toArray] w B (fun r _=>r=.int .i64 (zni (l.findIdx? p))):=by
 refine yn Tryz.func214 Z Tryz.ntmps214 (np Z) hB (k8 0 (RsV l fu) Z ns hv ((ZP∘ZG∘Zg∘ZaW) ?_));refine xm (fun i:Nat=>[(0,.sat (RsV l fu)),(1,.is (.func (.func f) #[] cap.toArray)),(7,.is (.int .i64 l.length)),(8,.is (.int .i64 i))]) (fun i=>i<=l.length/\∀ (j:Nat) y,j<i->l[j]?=some y->p y=false) (fun i=>l.length-i) 0 ⟨mc _,fun j _ h=>ni h (Nat.not_lt_zero _)⟩ ⟨Z,Z,Z,Z,nm⟩ ?_;rintro i ⟨h1,h2⟩;by_cases hlt:i<l.length
 ·obtain⟨x,hx⟩:=xk hlt;have hc:=Lv hx;have hmx:=zpa hx;have hwk:IntKind.i64.wrap ((i:Int)+1)=((i+1:Nat):Int):=xb T T
  cases hb:p x with
  | true=>
   rw[zo2 hx hb h2];refine(Ze∘Z9∘Z6∘ZA∘Zd∘Z0∘Zcb∘ZcO) ?_;refine z7 (q0 (cap:=cap) L Z Z (zm Z) Z Z hfn (fun u H hH hle _=>hb ▸ hf x hmx u H hle hH)) Z ((ZD∘ZU∘Zc) ?_);exact yj2 L [.tmp 4]
  | false=>
   refine(Ze∘Z9∘Z6∘ZA∘Zd∘Z0∘Zcb∘ZcO) ?_;refine z7 (q0 (cap:=cap) L Z Z (zm Z) Z Z hfn (fun u H hH hle _=>hb ▸ hf x hmx u H hle hH)) Z ((Zch∘Zs∘Z7∘Zc1) ?_)
   exact ym (x:=i) (i+1) ⟨hlt,fun j y hj hy=>by
    rcases m8 j i with h | h
    ·exact h2 j y h hy
    ·have:j=i:=T;subst this;rw[hx] at hy;cases hy;exact hb⟩ T ⟨rfl,rfl,rfl,rfl,nm⟩
 ·rw[zo1 (fun j y hy=>h2 j y (by have:=get_lt hy;omega) hy)];refine(Ze∘Z9∘Zav∘ZC∘Zc) ?_;exact yj2 L [.tmp 4]
def zar{l:List Int}{p:Int->Bool}{f:Nat}{b:Bool}(hb:l.any p=b)(hfn:L.fn f=some ())(hlm:l.length<=100000)(hf:∀ r∈l,∀ (u:World) (H:Heap),B.Le H->zth H u->Ret zti f ([.int .u64 r]++cap) u H (fun x _=>x=.bool (p r)))(hv:RsV l fu v B)(hB:zth B w):
  Ret zti 159 [v,.func (.func f) #[] cap.toArray] w B (fun r _=>r=.bool b):=by
 rw[<-zdz] at hb;generalize hJ:zni (l.findIdx? p)=ztc at *;subst hb;refine yn Tryz.func159 Z Tryz.ntmps159 (np Z) hB ?_;by_cases h0:0<=ztc
 ·rw[nf h0];refine(Z4∘Zb) ?_;refine z71 L Z (fun u H hH hle=>hJ ▸ Rl hfn hlm (fun r hr u2 H2 hle2 hH2=>hf r hr u2 H2 (hle.trans hle2) hH2) (hv.le hle) hH) ?_;refine(Zb3∘Zc) ?_;exact yj2 L [.tmp 4]
 ·rw[ng h0];refine(Z4∘Zb) ?_;refine z71 L Z (fun u H hH hle=>hJ ▸ Rl hfn hlm (fun r hr u2 H2 hle2 hH2=>hf r hr u2 H2 (hle.trans hle2) hH2) (hv.le hle) hH) ?_;refine(Za4∘Zc) ?_;exact yj2 L [.tmp 4]
abbrev tyPS:TypeId:=147
def S9{n1 n2 m1 m2 t1 t2 c1 c2:Nat}{s1 s2:Value}{ea eb:Ent}{la lb:List U}{va vb:Value}(ga:um r ea=some (la,va))(gb:um r eb=some (lb,vb))(hla:la.length<=100000)(hlb:lb.length<=100000)(hB:zth B w)
  (h1:B c1=some (.cells #[eu a] tyPS)) (h2:B c2=some (.cells #[eu b] tyPS)) (ha:StV a n1 m1 s1 t1 ea B) (hb:StV b n2 m2 s2 t2 eb B) (hsa:SetV la va B) (hsb:SetV lb vb B):
  Ret zti 160 [.int .u64 r,eu c1,eu c2] w B (fun v _=>v=.bool (!decide (la=lb))):=by
 obtain⟨f1,p1,k1,x1,rfl,hp1⟩:=hsa.shape;obtain⟨f2,p2,k2,x2,rfl,hp2⟩:=hsb.shape;have hla1:=ha.1;have hlb1:=hb.1;have q1:(um r ea).elim nilSet vcE=.agg #[f1,.pointer p1,k1,.pointer x1]:=nh (fun o=>Option.elim o nilSet vcE) ga;have q2:(um r eb).elim nilSet vcE=.agg #[f2,.pointer p2,k2,.pointer x2]:=nh (fun o=>Option.elim o nilSet vcE) gb;refine yn Tryz.func160 Z Tryz.ntmps160 (np Z) hB ((ZP∘Zd∘ZbV∘Z5∘ZbN∘Z5∘Zl) ?_);refine z8 (Dd r mpS kyS zrS ha.2 Z Z Z Z q1) Z ((Z5∘ZbN∘Z5∘Zl) ?_);refine z8 (Dd r mpS kyS zrS hb.2 Z Z Z Z q2) Z (z81 L Z (fun u H hH hle=>K9 hla hlb Z hH (hsa.le hle) (hsb.le hle)) ?_);refine(Za8∘ZaB) ?_;exact yj2 L [.tmp 4]
def S8{A D:Sto}{a b:Nat}(hna:A.R.length≠0)(hnb:D.R.length≠0)(ka:(k7 A.R).length<=100000)(kb:(k7 D.R).length<=100000)(za:A.P.length<=100000)(zb:D.P.length<=100000)(ta:∀ r t,kpt A.R r=some t->t.length<=100000)(tb:∀ r t,kpt D.R r=some t->t.length<=100000)
     (hB:zth B w) (hr:(gj (StG a A) (StG b D)).P B w C) (hC:ZCB C w B):
  RetY zti 87 [eu a,eu b] w B C (gj (StG a A) (StG b D)) (fun v _=>v=.bool (Cq A D)):=by
 unfold RetY;refine xa 900 (gj (StG a A) (StG b D)) Tryz.func87 Z Tryz.ntmps87 (np Z) hB hr hC ?_;rw[w8];refine ZdV (h:=?_);rw[Cl,Cl];refine v9 900 rfl fun x H hs0 hφ=>?_;refine v9 901 rfl fun y H' hs1 hφ'=>?_;obtain⟨m1,s1,e1⟩:=x;obtain⟨hm1,he1,hp1⟩:=hφ;obtain⟨m2,s2,e2⟩:=y;obtain⟨hm2,he2,hp2⟩:=hφ';dsimp only at hm1 he1 hp1 hm2 he2 hp2 |-;have hs01:=hs0.trans hs1;replace he1:=he1.le hs1.le;replace hp1:=hp1.le hs1.le;obtain⟨q1,c1,rfl⟩:=jh hp1;obtain⟨q2,c2,rfl⟩:=jh hp2;have hl1:=hm1.len;have hl2:=hm2.len;refine Zu (h:=?_);refine vk 2 rfl fun v1 H1 hs2 hv1=>?_;obtain⟨d1,rfl,hd1⟩:=hv1;refine Zdb (h:=?_);refine vk 3 rfl fun v2 H2 hs3 hv2=>?_;obtain⟨d2,rfl,hd2⟩:=hv2;refine Zd (h:=?_);replace hd1:=hs3.le _ _ hd1;have hs23:=hs2.trans hs3;replace he1:=he1.le hs23.le;replace hp1:=hp1.le hs23.le;replace he2:=he2.le hs23.le;replace hp2:=hp2.le hs23.le;have hsf:=hs01.trans hs23;refine(ZE∘ZcB) ?_;refine yd (vm L 900 (RsV (k7 A.R) true) (r:=StO a A.R.length m1 (.slice q1 (xe A.P).length c1) A.P.length e1) Z Z Z Z Z ns (fun u H2 C2 hH hle hr2 hC2=>(oa hm1 hna T hH hr2 hC2).pubY d8)) ((Zat∘Zan) ?_);by_cases hN:A.R.length=D.R.length
 ·by_cases hK:k7 A.R=k7 D.R
  ·by_cases hP:xe A.P=xe D.P
   ·have hS:Cq A D=decide (A.R=D.R):=by unfold Cq;rw[decide_eq_true hP,Bool.and_true]
    have hany:(k7 A.R).any (fun r=>!decide (kpt A.R r=kpt D.R r))=!decide (A.R=D.R):=by
     by_cases h:A.R=D.R
     ·rw[nf h,h];simp
     ·rw[ng h]
      cases hh:(k7 A.R).any (fun r=>!decide (kpt A.R r=kpt D.R r)) with
      | true=>rfl
      | false=>exact ni (zgt hN (fun r hr=>by have:=List.any_eq_false.1 hh r hr;simpa using this) hK) h
    have hent1:∀ r∈k7 A.R,∃ t v,kpt A.R r=some t/\um r e1=some (t,v)/\SetV t v _:=fun r hr=>by
     have h1:=vo.1 hr;rw[<-hm1.get r,zsc] at h1;obtain⟨⟨t,v⟩,h2⟩:=zqd.1 h1;exact⟨t,v,by rw[<-hm1.get r,h2];rfl,h2,he1 _ (am h2)⟩
    have hent2:∀ r∈k7 A.R,∃ t v,kpt D.R r=some t/\um r e2=some (t,v)/\SetV t v _:=fun r hr=>by
     have h1:=vo.1 (hK ▸ hr);rw[<-hm2.get r,zsc] at h1;obtain⟨⟨t,v⟩,h2⟩:=zqd.1 h1;exact⟨t,v,by rw[<-hm2.get r,h2];rfl,h2,he2 _ (am h2)⟩
    refine(Zfb∘Z5) ?_;refine qz (xx L 900 (Φ:=fun H=>H a=some (.cells (stc A.R.length m1 (.slice q1 (xe A.P).length c1) A.P.length).toArray tyS)) (c:=.int .u64 A.R.length) Z Z (zm Z) Z Z Z Z Z vi (fun u H hH hle hb=>ge hna hb hH)) Z Z (Z5 (h:=?_));refine qz (xx L 901 (Φ:=fun H=>H b=some (.cells (stc D.R.length m2 (.slice q2 (xe D.P).length c2) D.P.length).toArray tyS)) (c:=.int .u64 D.R.length) Z Z (zm Z) Z Z Z Z Z vi (fun u H hH hle hb=>ge hnb hb hH)) Z Z ((ZdW∘Zl∘Zab∘Z5) ?_);refine qz (vm L 901 (RsV (k7 D.R) true) (r:=StO b D.R.length m2 (.slice q2 (xe D.P).length c2) D.P.length e2) Z Z Z Z Z ns (fun u H2 C2 hH hle hr2 hC2=>(oa hm2 hnb T hH hr2 hC2).pubY d8)) Z Z (z8 (q0 L Z Z (zm Z) Z Z Z (fun u H hH _ _ v1 h1 v2 h2=>Ai (nf hK) ka hH h1 h2)) Z ((Za8∘Zbg∘Zl∘Z5) ?_));refine qz (xx L 900 (Φ:=fun H=>H a=some (.cells (stc A.R.length m1 (.slice q1 (xe A.P).length c1) A.P.length).toArray tyS)) (c:=pnv (.slice q1 (xe A.P).length c1) A.P.length) Z Z (zm Z) Z Z Z Z Z vi (fun u H hH hle hb=>pins_ret ⟨_,_,_,rfl⟩ hna hb hH)) Z Z (Z5 (h:=?_));refine qz (xx L 901 (Φ:=fun H=>H b=some (.cells (stc D.R.length m2 (.slice q2 (xe D.P).length c2) D.P.length).toArray tyS)) (c:=pnv (.slice q2 (xe D.P).length c2) D.P.length) Z Z (zm Z) Z Z Z Z Z vi (fun u H hH hle hb=>pins_ret ⟨_,_,_,rfl⟩ hnb hb hH)) Z Z (z81 L Z (fun u H hH hle=>Ly (nf hP) za zb hH (hp1.le hle) (hp2.le hle)) ?_);refine(Za8∘Za3∘Zaf) ?_;refine wa 900 901 rfl Z (xf (StO b D.R.length m2 (.slice q2 (xe D.P).length c2) D.P.length e2)) ?_
    have hcl:∀ (u:World) (H3:Heap),zth H3 u->H2.Le H3->(StV a A.R.length m1 (.slice q1 (xe A.P).length c1) A.P.length e1 H3/\StV b D.R.length m2 (.slice q2 (xe D.P).length c2) D.P.length e2 H3)->∀ v1,RsV (k7 A.R) true v1 H3->Ret zti 159 [v1,.func (.func 160) #[] #[eu d1,eu d2]] u H3 (fun r _=>r=.bool (!decide (A.R=D.R))):=fun u H3 hH hle hb v1 h1=>zar (cap:=[eu d1,eu d2]) (p:=fun r=>!decide (kpt A.R r=kpt D.R r)) hany rfl ka (fun r hr u2 H4 hle2 hH2=>by
     obtain⟨x1,w1,g1,g2,g3⟩:=hent1 r hr;obtain⟨x2,w2,g4,g5,g6⟩:=hent2 r hr;have hle3:=hle.trans hle2;have h:=S9 g2 g5 (ta _ _ g1) (tb _ _ g4) hH2 (hle3 _ _ hd1) (hle3 _ _ hd2) (hb.1.le hle2) (hb.2.le hle2) (g3.le hle3) (g6.le hle3);rw[g1,g4,show decide (some x1=some x2)=decide (x1=x2) by simp];exact h) h1 hH
    refine(Z2∘Zk∘Za0) ?_;refine yd (xx L 900 (Φ:=fun H=>StV a A.R.length m1 (.slice q1 (xe A.P).length c1) A.P.length e1 H/\StV b D.R.length m2 (.slice q2 (xe D.P).length c2) D.P.length e2 H) (c:=.bool (!decide (A.R=D.R))) Z Z (zm Z) Z Z Z Z Z zgs (fun u H hH hle hb v1 h1=>hcl u H hH hle hb v1 h1)) ((Zr∘Zc) ?_);refine v8 900 901 rfl (xf (StO b D.R.length m2 (.slice q2 (xe D.P).length c2) D.P.length e2)) ?_;refine vr 900 (StG a A).res Z (ff hm1 he1 hp1) (vr 901 (StG b D).res Z (ff hm2 he2 hp2) (wa 900 901 rfl Z (xf (StG b D)) ?_));exact uh L 900 (r:=gj (StG a A) (StG b D)) (rs:=[.tmp 4]) Z (fun _ _ h=>h) hsf Z Z (fun H hle=>by rw[hS];generalize decide (A.R=D.R)=q;cases q<;>rfl)
   ·have hS:Cq A D=false:=by unfold Cq;rw[decide_eq_false hP,Bool.and_false]
    refine(Zfb∘Z5) ?_;refine qz (xx L 900 (Φ:=fun H=>H a=some (.cells (stc A.R.length m1 (.slice q1 (xe A.P).length c1) A.P.length).toArray tyS)) (c:=.int .u64 A.R.length) Z Z (zm Z) Z Z Z Z Z vi (fun u H hH hle hb=>ge hna hb hH)) Z Z (Z5 (h:=?_));refine qz (xx L 901 (Φ:=fun H=>H b=some (.cells (stc D.R.length m2 (.slice q2 (xe D.P).length c2) D.P.length).toArray tyS)) (c:=.int .u64 D.R.length) Z Z (zm Z) Z Z Z Z Z vi (fun u H hH hle hb=>ge hnb hb hH)) Z Z ((ZdW∘Zl∘Zab∘Z5) ?_);refine qz (vm L 901 (RsV (k7 D.R) true) (r:=StO b D.R.length m2 (.slice q2 (xe D.P).length c2) D.P.length e2) Z Z Z Z Z ns (fun u H2 C2 hH hle hr2 hC2=>(oa hm2 hnb T hH hr2 hC2).pubY d8)) Z Z (z8 (q0 L Z Z (zm Z) Z Z Z (fun u H hH _ _ v1 h1 v2 h2=>Ai (nf hK) ka hH h1 h2)) Z ((Za8∘Zbg∘Zl∘Z5) ?_));refine qz (xx L 900 (Φ:=fun H=>H a=some (.cells (stc A.R.length m1 (.slice q1 (xe A.P).length c1) A.P.length).toArray tyS)) (c:=pnv (.slice q1 (xe A.P).length c1) A.P.length) Z Z (zm Z) Z Z Z Z Z vi (fun u H hH hle hb=>pins_ret ⟨_,_,_,rfl⟩ hna hb hH)) Z Z (Z5 (h:=?_));refine qz (xx L 901 (Φ:=fun H=>H b=some (.cells (stc D.R.length m2 (.slice q2 (xe D.P).length c2) D.P.length).toArray tyS)) (c:=pnv (.slice q2 (xe D.P).length c2) D.P.length) Z Z (zm Z) Z Z Z Z Z vi (fun u H hH hle hb=>pins_ret ⟨_,_,_,rfl⟩ hnb hb hH)) Z Z (z81 L Z (fun u H hH hle=>Ly (ng hP) za zb hH (hp1.le hle) (hp2.le hle)) ?_);refine(Za8∘Zcc∘Zbl∘Zc) ?_;refine vr 900 (StG a A).res Z (ff hm1 he1 hp1) (vr 901 (StG b D).res Z (ff hm2 he2 hp2) (wa 900 901 rfl Z (xf (StG b D)) ?_));exact uh L 900 (r:=gj (StG a A) (StG b D)) (rs:=[.tmp 4]) Z (fun _ _ h=>h) hsf Z Z (fun H hle=>by rw[hS];rfl)
  ·have hS:Cq A D=false:=by unfold Cq;rw[decide_eq_false (fun h=>hK (by rw[h])),Bool.false_and]
   refine(Zfb∘Z5) ?_;refine qz (xx L 900 (Φ:=fun H=>H a=some (.cells (stc A.R.length m1 (.slice q1 (xe A.P).length c1) A.P.length).toArray tyS)) (c:=.int .u64 A.R.length) Z Z (zm Z) Z Z Z Z Z vi (fun u H hH hle hb=>ge hna hb hH)) Z Z (Z5 (h:=?_));refine qz (xx L 901 (Φ:=fun H=>H b=some (.cells (stc D.R.length m2 (.slice q2 (xe D.P).length c2) D.P.length).toArray tyS)) (c:=.int .u64 D.R.length) Z Z (zm Z) Z Z Z Z Z vi (fun u H hH hle hb=>ge hnb hb hH)) Z Z ((ZdW∘Zl∘Zab∘Z5) ?_);refine qz (vm L 901 (RsV (k7 D.R) true) (r:=StO b D.R.length m2 (.slice q2 (xe D.P).length c2) D.P.length e2) Z Z Z Z Z ns (fun u H2 C2 hH hle hr2 hC2=>(oa hm2 hnb T hH hr2 hC2).pubY d8)) Z Z (z8 (q0 L Z Z (zm Z) Z Z Z (fun u H hH _ _ v1 h1 v2 h2=>Ai (ng hK) ka hH h1 h2)) Z ((Za8∘Zbg∘Zeu∘Zb5∘Zcc∘Zbl∘Zc) ?_));refine vr 900 (StG a A).res Z (ff hm1 he1 hp1) (vr 901 (StG b D).res Z (ff hm2 he2 hp2) (wa 900 901 rfl Z (xf (StG b D)) ?_));exact uh L 900 (r:=gj (StG a A) (StG b D)) (rs:=[.tmp 4]) Z (fun _ _ h=>h) hsf Z Z (fun H hle=>by rw[hS];rfl)
 ·have hS:Cq A D=false:=by unfold Cq;rw[decide_eq_false (fun h=>hN (by rw[h])),Bool.false_and]
  refine(Zfb∘Z5) ?_;refine qz (xx L 900 (Φ:=fun H=>H a=some (.cells (stc A.R.length m1 (.slice q1 (xe A.P).length c1) A.P.length).toArray tyS)) (c:=.int .u64 A.R.length) Z Z (zm Z) Z Z Z Z Z vi (fun u H hH hle hb=>ge hna hb hH)) Z Z (Z5 (h:=?_));refine qz (xx L 901 (Φ:=fun H=>H b=some (.cells (stc D.R.length m2 (.slice q2 (xe D.P).length c2) D.P.length).toArray tyS)) (c:=.int .u64 D.R.length) Z Z (zm Z) Z Z Z Z Z vi (fun u H hH hle hb=>ge hnb hb hH)) Z Z ((Zf3∘Zeu∘Zcq∘Zbg∘Zeu∘Zb5∘Zcc∘Zbl∘Zc) ?_);refine vr 900 (StG a A).res Z (ff hm1 he1 hp1) (vr 901 (StG b D).res Z (ff hm2 he2 hp2) (wa 900 901 rfl Z (xf (StG b D)) ?_));exact uh L 900 (r:=gj (StG a A) (StG b D)) (rs:=[.tmp 4]) Z (fun _ _ h=>h) hsf Z Z (fun H hle=>by rw[hS];rfl)
def tup3{φ:Value->Heap->Prop}{a b v:Value}(h:φ v H):TupS [φ,fun v _=>v=a,fun v _=>v=b] (.tuple #[v,a,b]) H:=by
 refine⟨[v,a,b],rfl,rfl,fun i ψ x hi hx=>?_⟩;rcases i with _ | _ | _ | i
 ·cases hi;cases hx;exact h
 ·cases hi;cases hx;rfl
 ·cases hi;cases hx;rfl
 ·cases hi
end Go.V.L10
end
namespace Go.V.L10
open Go.V.L2 Go.V.L8 Go.V.L6
def N4(hn:S.R.length≠0)(hB:zth B w)(hr:(StG b S).P B w C)(hC:ZCB C w B):
  RetY zti 88 [eu b,.int .u64 r] w B C (StG b S) (WithP (atS S r).1 (atS S r).2):=
 RetY.ex hr fun _ ⟨hm,hes,_⟩ hr=>K8 hm hn hes hB hr hC
def V0(hn:S.R.length≠0)(hz:(k7 S.R).length<=100000)(hB:zth B w)(hr:(StG b S).P B w C)(hC:ZCB C w B):
  RetY zti 141 [eu b] w B C (StG b S) (RsV (k7 S.R) true):=
 RetY.ex hr fun _ ⟨hm,_,_⟩ hr=>(oa hm hn (by rw[hm.len];exact hz) hB hr hC).pubY d8
abbrev PinsP(P0:List Int):Value->Heap->Prop:=fun v H=>∃ s,v=pnv s P0.length/\PsV (xe P0) s H
def PinsP.mono{P0:List Int}:Kn.mono (.sat (PinsP P0)):=fun _ _ _ ⟨s,h1,h2⟩ hle=>⟨s,h1,h2.le hle⟩
attribute [local irreducible] V N X VO Par StepOK Has Ret RetL RetO RetT kx RetX RetY Src
def Vv(hn:S.R.length≠0)(hB:zth B w)(hr:(StG b S).P B w C)(hC:ZCB C w B):
  RetY zti 142 [eu b] w B C (StG b S) (PinsP S.P):=by
 refine RetY.ex hr fun x hφ hr=>?_;obtain⟨m,s,es⟩:=x;obtain⟨hm,hes,hps⟩:=hφ;dsimp only at hm hes hps hr |-;obtain⟨p,c,rfl⟩:=jh hps;unfold RetY;refine xa 900 (StO b S.R.length m _ S.P.length es) Tryz.func142 Z Tryz.ntmps142 (np Z) hB hr hC ?_;rw[cm];refine ZdV (h:=?_);refine(Zbm∘Zan∘Zbp) ?_;refine yd (xx L 900 (Φ:=fun H=>H b=some (.cells (stc S.R.length m (.slice p (xe S.P).length c) S.P.length).toArray tyS)) (c:=.bool false) Z Z (zm Z) Z Z Z Z Z A5 (fun u H hH hle hb=>none_ret hn hb hH)) ((Zm∘ZA∘Zap) ?_);refine yd (kw L (q:=900) (vs:=[_,_]) Z Z Z Z ⟨_,rfl⟩) (Za2 (h:=?_));refine Zdw (h:=?_);exact uh L 900 (r:=StO b S.R.length m (.slice p (xe S.P).length c) S.P.length es) (rs:=[.cell 2 224]) Z (fun _ _ h=>h) nq Z Z (fun H hle=>⟨_,y9 Z,rfl,_,rfl,hps.le hle⟩)
abbrev s1:Sto:=⟨[some [],some [d0]],[]⟩
abbrev s2:Sto:=⟨[some [],some [d0],some [d2]],[]⟩
abbrev s3:Sto:=⟨[some [],some [d0],some [d2]],[2]⟩
def zn8{S':Sto}{l cs:List CH}(h:JJ n S)(hn:n<=100)(hc:∀ c∈cs,TZ c.1/\tE c.1=0)(hl:cs.length<=30)(hw:B5 S l cs=(S',r,e)):JJ (n+1) S':=by
 have h1:=zdw h hn (l:=l) hc hl;rw[hw] at h1;exact h1
def zoz{S':Sto}{un:Bool}(h:JJ n S)(hw:zhh S r un=(S',e)):JJ (n+1) S':=by
 have h1:=zlj h r un;rw[hw] at h1;exact h1
def zo0{S':Sto}{k:Int}{g:List Int}(h:JJ n S)(hw:Am S k=(S',g,e)):JJ (n+1) S':=by
 have h1:=zh9 h k;rw[hw] at h1;exact h1
end Go.V.L10
namespace Go.V.L10
open Go.V Go.V.L2 Go.V.L8 Go.V.L6
attribute [local irreducible] V N X VO Par StepOK Has Ret RetL RetO RetT kx RetX RetY Src
end Go.V.L10
namespace Go.V.L8
open Go.V Go.V.L2 Go.V.L3 Go.V.L6
attribute [local irreducible] V N X VO Par StepOK Has Ret RetL RetO RetT kx Src
end Go.V.L8
namespace Go.V.L11
open Go.V.L2 Go.V.L4 Go.V.L6 Go.V.L8 Go.V.L10
abbrev WithE(l:List U)(e:Int):Value->Heap->Prop:=TupS [SetV l,fun v _=>v=.int .i64 e]
def WithE.mono{l:List U}{e:Int}:Kn.mono (.sat (WithE l e)):=Oe SetV.mono
def Kp(h:WithP l e v H):WithE l e v H:=by
 obtain⟨tv,rfl,h2⟩:=h;exact Xa h2
def zi6(he:atS S r=(t,e))(hn:S.R.length≠0)(hB:zth B w)(hr:(StG b S).P B w C)(hC:ZCB C w B):
  RetY zti 88 [eu b,.int .u64 r] w B C (StG b S) (WithE t e):=by
 have h:=N4 (r:=r) hn hB hr hC;rw[he] at h;exact RetY.mono h fun _ _ _=>Kp
attribute [local irreducible] V N X VO Par XP LV StepOK Has Ret RetL RetO RetT kx RetX RetY Pan ed Src
end Go.V.L11
namespace Go.V
section
variable {P:Program}            {x:Operand} {s:ByteArray}
end
end Go.V
namespace Go.V
open Go.V.L4
section
variable {P:Program}       {q:Nat}     {src dst e:TypeId}
def Df{bs:List Nat}(hb:∀ b∈bs,b<=255)(hn:Nat.blt d n=true)(hg:gK ops κ ⟨some d,.convert src dst (.tmp q),ty,pos,aft,g⟩=some true)(hx:κ q=some (.sat (BsV bs fu)))(hs:P.underlying src=some (.slice e))(he:P.underlying e=some (.int .u8))(hd:P.underlying dst=some .string):
  StepOK P F B n ops O κ ⟨some d,.convert src dst (.tmp q),ty,pos,aft,g⟩ d (.is (.string (og bs))):=
 kf rfl (by simpa using hn) hg trivial fun a u H fp en=>⟨_,by
  have key:(convert src dst (a.eval (.tmp q))).run P u=.ok (.string (og bs)) u:=by
   obtain⟨hl,⟨h0,p,hv⟩ | ⟨b,off,cap,cs,ty0,fr,hv,h2,h3,h4,_⟩⟩:=en.sat_ q _ (by simp [Op.operands]) hx
   ·have hb0:bs=[]:=m7 h0;subst hb0;rw[hv]
    cases p with
    | none=>exact run_convert_bytes_nil u src e hs he _ _ dst hd
    | some a0=>exact run_convert_bytes_back (P:=P) u src dst e a0 0 [] hs he hd (fun j hj=>by cases hj)
   ·rw[hv];have hlen:(bs.map UInt8.ofNat).length=bs.length:=my _
    have hr:=run_convert_bytes_back (P:=P) u src dst e ⟨b,off,none⟩ cap (bs.map UInt8.ofNat) hs he hd (fun j hj=>by
     rw[hlen] at hj;obtain⟨z,hz⟩:=xk hj;have hj2:(bs.map fun b:Nat=>Value.int .u8 (b:Int))[j]?=some (.int .u8 (z:Int)):=by rw[zpr,hz];rfl
     have h5:=AtP.get h3 hj2;rw[vj,kq (en.sub _ _ h2)]
     have h6:((bs.map UInt8.ofNat)[j]'(by rw[hlen];exact hj)).toNat=z:=by
      have hzb:=hb z (zpa hz);rw[List.getElem_map,ln hz];simp;omega
     rw[h6];simpa using h5)
    rw[hlen] at hr;exact hr
  simp only[execOp,nw,mf,key,ny],rfl⟩
end
end Go.V
namespace Go.V.L11
open Go.V.L2 Go.V.L4 Go.V.L6 Go.V.L8 Go.V.L10
def Sq{l:List U}{s:ByteArray}(h:Ce l=(s,e))(hz:∀ t∈l,TZ t)(hs:∀ t∈l,(oh t).size<=1000)(hB:zth B w)(hv:US l fu v B):
  Ret zti 21 [v] w B (fun r _=>r=.tuple #[.string s,.int .i64 e]):=by
 have:=Uz hz hs hB hv;rw[h] at this;exact this
def B6{s:ByteArray}(h:Uw ptA s=(l,n,e))(hs:s.size<=1000000)(hB:zth B w)(hM:GlobM B):
  Ret zti 22 [.string s] w B (TupS [US l true,fun v _=>v=.int .i64 n,fun v _=>v=.int .i64 e]):=by
 have:=Sr hs hB hM;rw[h] at this;exact this
attribute [local irreducible] V N X VO Par XP LV StepOK Has Ret RetL RetO RetT kx RetX RetY Pan ed Src
end Go.V.L11
namespace Go.V.L4
open Go.V.L2 Go.V.L8 Go.V.Bd
def t7(s:ByteArray):List Nat:=vq s.size++dm s
def ua(l:List ByteArray):List Nat:=l.flatMap t7
def u6(t:U):List ByteArray:=[t.1.1.1,t.1.1.2,t.1.2,t.2.1.1,t.2.1.2,t.2.2]
def tupB(t:U):List Nat:=ua (u6 t)
def chgB(c:CH):List Nat:=tupB c.1++[if c.2=true then 1 else 0]
def Qf{s:ByteArray}(h:s.size<=1099511627776):(t7 s).length<=s.size+10:=by
 unfold t7;rw[nr,p8];have h128:(128:Nat)^10=1180591620717411303424:=E;have:=aj 9 s.size T;omega
def Vo(bs:List Nat)(a b:ByteArray):(bs++t7 a)++t7 b=bs++ua [a,b]:=by simp [ua]
def Vp(bs:List Nat)(a b:List ByteArray):(bs++ua a)++ua b=bs++ua (a++b):=by simp [ua]
def cy:∀ {l:List ByteArray},(∀ s∈l,s.size<=1000)->(ua l).length<=l.length*1010
 | [],_=>nu _
 | s::l,h=>by
  have h1:=h s (mb ..);have h2:=Qf (s:=s) T;have h3:=cy fun x hx=>h x (me _ hx);show(t7 s++ua l).length<=_;rw[nr,nz];omega
attribute [local irreducible] V N X VO Par StepOK Has Ret RetL RetO RetT kx RetX RetY Src
def Ga{s:ByteArray}(hs:s.size<=1000)(hz:bs.length+2000<=1099511627776)(hB:zth B w)(hr:(GWr wb bs).P B w C)(hC:ZCB C w B):
  kx zti 114 [kg wb,.string s] w B C (GWr wb (bs++t7 s)):=by
 unfold kx;have h128:(128:Nat)^10=1180591620717411303424:=E;have hnl:=aj 9 s.size T;have hcv:IntKind.u64.wrap (s.size:Int)=(s.size:Int):=wrap_u64 T T;refine xa 900 (GWr wb bs) Tryz.func114 Z Tryz.ntmps114 (np Z) hB hr hC ((ZP∘Za) ?_);refine z7 (Ox Z Z Z Z zhz Z Z) Z ((ZD∘ZE∘Zb∘Zad) ?_);refine z7 (ko Z Z Z cj.1 cj.2 (wrap_u64 T T)) Z (qe (yx L 900 (GWr wb (bs++vq s.size)) (r:=GWr wb bs) Z Z Z Z Z (fun u H C hH _ hr hC=>vg T T hH hr hC)) (ZF (h:=?_)));have hz2:(bs++vq s.size).length+s.size<=140737488355328:=by rw[nr];omega
 have e0:bs++t7 s=(bs++vq s.size)++dm s:=by unfold t7;rw[List.append_assoc]
 rw[e0];generalize bs++vq s.size=bs1 at hz2;refine v9 (X:=Value) 900 (r:=fun sv=>(GWv wb bs1 sv).res) (φ:=fun sv _=>Nh sv) (hφ:=g7) Z fun sv H0 hs0 hsp=>?_;obtain⟨p,k,c,rfl⟩:=hsp;refine v8 (r1:=xp wb [.slice p k c] zjx) (r2:=(GSl (.slice p k c) bs1).res) 900 901 rfl (xf _) ?_;rw[Ds];refine(ZaR∘ZS) ?_;refine f8 15 901 rfl rfl (Za (h:=?_));refine qe (A4 L rfl rfl rfl rfl rfl J el5 hz2) ?_;refine cw 17 901 Nh rfl Qp fun s2 hp2=>?_;obtain⟨p2,k2,c2,rfl⟩:=hp2;refine Zap (h:=?_);refine xl (yo L (q:=900) (cs':=[.slice p2 k2 c2]) rfl rfl rfl rfl rfl) (Zac (h:=?_));have e2:bs1.length+s.size=(bs1++dm s).length:=by rw[nr,p8]
 rw[za8,e2];refine rm 900 901 rfl Z (Pw _ _) ?_;exact ot (X:=Value) 900 (r:=fun sv=>(GWv wb (bs1++dm s) sv).res) (φ:=fun sv _=>Nh sv) g7 (.slice p2 k2 c2) ⟨_,_,_,rfl⟩ Z (xu L 900 (r:=GWr wb (bs1++dm s)) Z (fun _ _ h=>h) hs0 Z Z)
def zbx{a b:ByteArray}(ha:a.size<=1000)(hb:b.size<=1000)(hz:bs.length+4000<=1099511627776)(hB:zth B w)(hr:(GWr wb bs).P B w C)(hC:ZCB C w B):
  kx zti 113 [kg wb,.agg #[.string a,.string b]] w B C (GWr wb (bs++ua [a,b])):=by
 unfold kx;have h1:=Qf (s:=a) T;rw[<-Vo];refine xa 900 (GWr wb bs) Tryz.func113 Z Tryz.ntmps113 (np Z) hB hr hC ((Zu∘Zi∘Zbp∘Zq) ?_);refine qe (yx L 900 (GWr wb (bs++t7 a)) (r:=GWr wb bs) Z Z Z Z Z (fun u H C hH _ hr hC=>Ga ha T hH hr hC)) ((ZF∘Zy∘Zq) ?_);refine qe (yx L 900 (GWr wb (bs++t7 a++t7 b)) (r:=GWr wb (bs++t7 a)) Z Z Z Z Z (fun u H C hH _ hr hC=>Ga hb (by rw[nr];omega) hH hr hC)) ?_;refine Zac (h:=?_);exact xu L 900 (r:=GWr wb (bs++t7 a++t7 b)) Z (fun _ _ h=>h) nq Z Z
def Kq{a b c:ByteArray}(ha:a.size<=1000)(hb:b.size<=1000)(hc:c.size<=1000)(hz:bs.length+8000<=1099511627776)(hB:zth B w)(hr:(GWr wb bs).P B w C)(hC:ZCB C w B):
  kx zti 47 [kg wb,.agg #[.string a,.string b,.string c]] w B C (GWr wb (bs++ua [a,b,c])):=by
 unfold kx;have h1:=cy (l:=[a,b]) (fun s hs=>by simp only[ma,zqe,or_false] at hs;rcases hs with rfl | rfl<;>assumption);simp only[nz,mz] at h1;have e0:bs++ua [a,b,c]=(bs++ua [a,b])++t7 c:=by simp [ua]
 rw[e0];refine xa 900 (GWr wb bs) Tryz.func47 Z Tryz.ntmps47 (np Z) hB hr hC ((Zu∘Zi∘Zbp∘ZaX) ?_);refine qe (yx L 900 (GWr wb (bs++ua [a,b])) (r:=GWr wb bs) Z Z Z Z Z (fun u H C hH _ hr hC=>zbx ha hb T hH hr hC)) ((ZF∘Zy∘Zq) ?_);refine qe (yx L 900 (GWr wb (bs++ua [a,b]++t7 c)) (r:=GWr wb (bs++ua [a,b])) Z Z Z Z Z (fun u H C hH _ hr hC=>Ga hc (by rw[nr];omega) hH hr hC)) ?_;refine Zac (h:=?_);exact xu L 900 (r:=GWr wb (bs++ua [a,b]++t7 c)) Z (fun _ _ h=>h) nq Z Z
def zbw{a b c:ByteArray}(ha:a.size<=1000)(hb:b.size<=1000)(hc:c.size<=1000)(hz:bs.length+8000<=1099511627776)(hB:zth B w)(hr:(GWr wb bs).P B w C)(hC:ZCB C w B):
  kx zti 48 [kg wb,.agg #[.string a,.string b,.string c]] w B C (GWr wb (bs++ua [a,b,c])):=by
 unfold kx;refine xa 900 (GWr wb bs) Tryz.func48 Z Tryz.ntmps48 (np Z) hB hr hC ((Zu∘ZF∘Zbp∘Zem) ?_);refine qe (yx L 900 (GWr wb (bs++ua [a,b,c])) (r:=GWr wb bs) Z Z Z Z Z (fun u H C hH _ hr hC=>Kq ha hb hc hz hH hr hC)) (Zac (h:=?_));exact xu L 900 (r:=GWr wb (bs++ua [a,b,c])) Z (fun _ _ h=>h) nq Z Z
def Gb{t:U}(ht:∀ s∈u6 t,s.size<=1000)(hz:bs.length+16000<=1099511627776)(hB:zth B w)(hr:(GWr wb bs).P B w C)(hC:ZCB C w B):
  kx zti 12 [kg wb,uv t] w B C (GWr wb (bs++tupB t)):=by
 unfold kx;obtain⟨⟨⟨a,b⟩,c⟩,⟨⟨d,e⟩,f⟩⟩:=t;have ha:=ht a (by simp [u6]);have hb:=ht b (by simp [u6]);have hc:=ht c (by simp [u6]);have hd:=ht d (by simp [u6]);have he:=ht e (by simp [u6]);have hf:=ht f (by simp [u6]);have h1:=cy (l:=[a,b,c]) (fun s hs=>by simp only[ma,zqe,or_false] at hs;rcases hs with rfl | rfl | rfl<;>assumption);simp only[nz,mz] at h1;have e0:bs++tupB (((a,b),c),((d,e),f))=(bs++ua [a,b,c])++ua [d,e,f]:=by rw[Vp];rfl
 rw[e0];refine xa 900 (GWr wb bs) Tryz.func12 Z Tryz.ntmps12 (np Z) hB hr hC ((Zu∘Zi∘Zbp∘ZbE) ?_);refine qe (yx L 900 (GWr wb (bs++ua [a,b,c])) (r:=GWr wb bs) Z Z Z Z Z (fun u H C hH _ hr hC=>Kq ha hb hc T hH hr hC)) ((ZF∘Zy∘ZbE) ?_);refine qe (yx L 900 (GWr wb (bs++ua [a,b,c]++ua [d,e,f])) (r:=GWr wb (bs++ua [a,b,c])) Z Z Z Z Z (fun u H C hH _ hr hC=>zbw hd he hf (by rw[nr];omega) hH hr hC)) ?_;refine Zac (h:=?_);exact xu L 900 (r:=GWr wb (bs++ua [a,b,c]++ua [d,e,f])) Z (fun _ _ h=>h) nq Z Z
open Go.V.L3
abbrev zjz:TypeId:=52
abbrev zj0:TypeId:=54
abbrev oV(x:ByteArray×ByteArray):Value:=.agg #[.string x.1,.string x.2]
abbrev gV(x:Ed):Value:=.agg #[.string x.1.1,.string x.1.2,.string x.2]
abbrev sZ:ByteArray:=⟨#[]⟩
def Sv{gf:Rd->ByteArray×Rd}(hfn:L.fn fr=some ()){C:Nat->Prop}(hB:zth B w)(hr:(GRd rb sv R).P B w C)(hC:ZCB C w B)
  (hf:R.err=0->∀ (u:World) (H:Heap) (C:Nat->Prop),zth H u->B.Le H->(GRd rb sv R).P H u C->(ZCB C u H)->RetX zti fr (fst++cap) u H C (GRd rb sv (gf R).2) (.string (gf R).1)):
  RetX zti 183 [kg rb,.func (.func fr) fst.toArray cap.toArray] w B C (GRd rb sv (dq gf sZ R).2) (.string (dq gf sZ R).1):=by
 unfold RetX;refine xa 900 (GRd rb sv R) Tryz.func183 Z Tryz.ntmps183 (np Z) hB hr hC ?_;rw[xd];obtain⟨⟨n,⟨at1,bad1,err1⟩⟩,hz⟩:∃ z,gf R=z:=⟨_,rfl⟩
 obtain⟨at_,bad,err⟩:=R;unfold dq;rw[hz] at hf |-;dsimp only at hf |-;by_cases h0:err≠0
 ·rw[na h0];refine(Z4∘Zj∘Zy) ?_;refine qe (yh L 900 (GRd rb sv ⟨at_,bad,err⟩) (.bool true) (r:=GRd rb sv ⟨at_,bad,err⟩) Z Z Z Z Z (fun u H C2 hH _ hr2 hC2=>ke (nf h0) hH hr2 hC2)) ((ZD∘ZA∘Zc) ?_);exact xv L 900 (r:=xc rb _ uz) (rs:=[.tmp 4]) Z (fun _ _ h=>h) nq Z Z (fun _=>rfl)
 ·have he:err=0:=m5.1 h0;subst he;rw[nc h0];have hf:=hf rfl;by_cases h1:err1≠0
  ·rw[na h1];refine(Z4∘Zj∘Zy) ?_;refine qe (yh L 900 (GRd rb sv ⟨at_,bad,0⟩) (.bool false) (r:=GRd rb sv ⟨at_,bad,0⟩) Z Z Z Z Z (fun u H C2 hH _ hr2 hC2=>ke (ng h0) hH hr2 hC2)) ((Zm∘Zcn∘Zb6) ?_);refine qe (jd L 900 (GRd rb sv ⟨at1,bad1,err1⟩) (.string n) (r:=GRd rb sv ⟨at_,bad,0⟩) Z Z Z hfn Z hf) ((Zj∘ZQ∘ZS∘ZaO∘Zco∘Zap) ?_);refine xl (yo L (q:=900) (cs':=[sv,.int .i64 at_,.int .i64 bad1,.int .i64 err1]) Z Z Z Z Z) ((Zi∘ZaQ∘Zc) ?_);exact xv L 900 (r:=xc rb _ uz) (rs:=[.tmp 4]) Z (fun _ _ h=>h) nq Z Z (fun _=>rfl)
  ·have he:err1=0:=m5.1 h1;subst he;rw[nc h1];refine(Z4∘Zj∘Zy) ?_;refine qe (yh L 900 (GRd rb sv ⟨at_,bad,0⟩) (.bool false) (r:=GRd rb sv ⟨at_,bad,0⟩) Z Z Z Z Z (fun u H C2 hH _ hr2 hC2=>ke (ng h0) hH hr2 hC2)) ((Zm∘Zcn∘Zb6) ?_);refine qe (jd L 900 (GRd rb sv ⟨at1,bad1,0⟩) (.string n) (r:=GRd rb sv ⟨at_,bad,0⟩) Z Z Z hfn Z hf) ((Zj∘ZQ∘ZS∘Zb8∘Zal∘Zc) ?_);exact xv L 900 (r:=xc rb _ uz) (rs:=[.tmp 4]) Z (fun _ _ h=>h) nq Z Z (fun _=>rfl)
def Sw{gf:Rd->(ByteArray×ByteArray)×Rd}(hfn:L.fn fr=some ()){C:Nat->Prop}(hB:zth B w)(hr:(GRd rb sv R).P B w C)(hC:ZCB C w B)
  (hf:R.err=0->∀ (u:World) (H:Heap) (C:Nat->Prop),zth H u->B.Le H->(GRd rb sv R).P H u C->(ZCB C u H)->RetX zti fr (fst++cap) u H C (GRd rb sv (gf R).2) (oV (gf R).1)):
  RetX zti 181 [kg rb,.func (.func fr) fst.toArray cap.toArray] w B C (GRd rb sv (dq gf (sZ,sZ) R).2) (oV (dq gf (sZ,sZ) R).1):=by
 unfold RetX;refine xa 900 (GRd rb sv R) Tryz.func181 Z Tryz.ntmps181 (np Z) hB hr hC ?_;rw[xd];obtain⟨⟨n,⟨at1,bad1,err1⟩⟩,hz⟩:∃ z,gf R=z:=⟨_,rfl⟩
 
 obtain⟨at_,bad,err⟩:=R;unfold dq;rw[hz] at hf |-;dsimp only at hf |-;by_cases h0:err≠0
 ·rw[na h0];refine(Zce∘ZE∘ZbP∘Zy) ?_;refine qe (yh L 900 (GRd rb sv ⟨at_,bad,err⟩) (.bool true) (r:=GRd rb sv ⟨at_,bad,err⟩) Z Z Z Z Z (fun u H C2 hH _ hr2 hC2=>ke (nf h0) hH hr2 hC2)) ((ZD∘ZK∘Zc6∘Za2) ?_);exact xv L 900 (r:=xc rb _ uz) (rs:=[.cell 4 zjz]) Z (fun _ _ h=>h) nq Z Z (fun _=>⟨_,y9 Z,rfl,rfl⟩)
 ·have he:err=0:=m5.1 h0;subst he;rw[nc h0];have hf:=hf rfl;by_cases h1:err1≠0
  ·rw[na h1];refine(Zce∘ZE∘ZbP∘Zy) ?_;refine qe (yh L 900 (GRd rb sv ⟨at_,bad,0⟩) (.bool false) (r:=GRd rb sv ⟨at_,bad,0⟩) Z Z Z Z Z (fun u H C2 hH _ hr2 hC2=>ke (ng h0) hH hr2 hC2)) ((Zm∘Zcn∘Zb6) ?_);refine qe (jd L 900 (GRd rb sv ⟨at1,bad1,err1⟩) (oV n) (r:=GRd rb sv ⟨at_,bad,0⟩) Z Z Z hfn Z hf) ((Zbs∘ZQ∘ZS∘ZaO∘Zco∘Zap) ?_);refine xl (yo L (q:=900) (cs':=[sv,.int .i64 at_,.int .i64 bad1,.int .i64 err1]) Z Z Z Z Z) ((Zi∘Zv∘Zc6∘Za2) ?_);exact xv L 900 (r:=xc rb _ uz) (rs:=[.cell 4 zjz]) Z (fun _ _ h=>h) nq Z Z (fun _=>⟨_,y9 Z,rfl,rfl⟩)
  ·have he:err1=0:=m5.1 h1;subst he;rw[nc h1];refine(Zce∘ZE∘ZbP∘Zy) ?_;refine qe (yh L 900 (GRd rb sv ⟨at_,bad,0⟩) (.bool false) (r:=GRd rb sv ⟨at_,bad,0⟩) Z Z Z Z Z (fun u H C2 hH _ hr2 hC2=>ke (ng h0) hH hr2 hC2)) ((Zm∘Zcn∘Zb6) ?_);refine qe (jd L 900 (GRd rb sv ⟨at1,bad1,0⟩) (oV n) (r:=GRd rb sv ⟨at_,bad,0⟩) Z Z Z hfn Z hf) ((Zbs∘ZQ∘ZS∘Zb8∘ZM∘Zc6∘Za2) ?_);exact xv L 900 (r:=xc rb _ uz) (rs:=[.cell 4 zjz]) Z (fun _ _ h=>h) nq Z Z (fun _=>⟨_,y9 Z,rfl,rfl⟩)
def Nm{gf:Rd->Ed×Rd}(hfn:L.fn fr=some ()){C:Nat->Prop}(hB:zth B w)(hr:(GRd rb sv R).P B w C)(hC:ZCB C w B)
  (hf:R.err=0->∀ (u:World) (H:Heap) (C:Nat->Prop),zth H u->B.Le H->(GRd rb sv R).P H u C->(ZCB C u H)->RetX zti fr (fst++cap) u H C (GRd rb sv (gf R).2) (gV (gf R).1)):
  RetX zti 117 [kg rb,.func (.func fr) fst.toArray cap.toArray] w B C (GRd rb sv (dq gf n3 R).2) (gV (dq gf n3 R).1):=by
 unfold RetX;refine xa 900 (GRd rb sv R) Tryz.func117 Z Tryz.ntmps117 (np Z) hB hr hC ?_;rw[xd];obtain⟨⟨n,⟨at1,bad1,err1⟩⟩,hz⟩:∃ z,gf R=z:=⟨_,rfl⟩
 
 obtain⟨at_,bad,err⟩:=R;unfold dq;rw[hz] at hf |-;dsimp only at hf |-;by_cases h0:err≠0
 ·rw[na h0];refine(Zce∘ZE∘ZbP∘Zy) ?_;refine qe (yh L 900 (GRd rb sv ⟨at_,bad,err⟩) (.bool true) (r:=GRd rb sv ⟨at_,bad,err⟩) Z Z Z Z Z (fun u H C2 hH _ hr2 hC2=>ke (nf h0) hH hr2 hC2)) ((ZD∘ZK∘ZdK∘Za2) ?_);exact xv L 900 (r:=xc rb _ uz) (rs:=[.cell 4 zj0]) Z (fun _ _ h=>h) nq Z Z (fun _=>⟨_,y9 Z,rfl,rfl⟩)
 ·have he:err=0:=m5.1 h0;subst he;rw[nc h0];have hf:=hf rfl;by_cases h1:err1≠0
  ·rw[na h1];refine(Zce∘ZE∘ZbP∘Zy) ?_;refine qe (yh L 900 (GRd rb sv ⟨at_,bad,0⟩) (.bool false) (r:=GRd rb sv ⟨at_,bad,0⟩) Z Z Z Z Z (fun u H C2 hH _ hr2 hC2=>ke (ng h0) hH hr2 hC2)) ((Zm∘Zcn∘Zb6) ?_);refine qe (jd L 900 (GRd rb sv ⟨at1,bad1,err1⟩) (gV n) (r:=GRd rb sv ⟨at_,bad,0⟩) Z Z Z hfn Z hf) ((Zbs∘ZQ∘ZS∘ZaO∘Zco∘Zap) ?_);refine xl (yo L (q:=900) (cs':=[sv,.int .i64 at_,.int .i64 bad1,.int .i64 err1]) Z Z Z Z Z) ((Zi∘Zv∘ZdK∘Za2) ?_);exact xv L 900 (r:=xc rb _ uz) (rs:=[.cell 4 zj0]) Z (fun _ _ h=>h) nq Z Z (fun _=>⟨_,y9 Z,rfl,rfl⟩)
  ·have he:err1=0:=m5.1 h1;subst he;rw[nc h1];refine(Zce∘ZE∘ZbP∘Zy) ?_;refine qe (yh L 900 (GRd rb sv ⟨at_,bad,0⟩) (.bool false) (r:=GRd rb sv ⟨at_,bad,0⟩) Z Z Z Z Z (fun u H C2 hH _ hr2 hC2=>ke (ng h0) hH hr2 hC2)) ((Zm∘Zcn∘Zb6) ?_);refine qe (jd L 900 (GRd rb sv ⟨at1,bad1,0⟩) (gV n) (r:=GRd rb sv ⟨at_,bad,0⟩) Z Z Z hfn Z hf) ((Zbs∘ZQ∘ZS∘Zb8∘ZM∘ZdK∘Za2) ?_);exact xv L 900 (r:=xc rb _ uz) (rs:=[.cell 4 zj0]) Z (fun _ _ h=>h) nq Z Z (fun _=>⟨_,y9 Z,rfl,rfl⟩)
def Su{gf:Rd->U×Rd}(hfn:L.fn fr=some ()){C:Nat->Prop}(hB:zth B w)(hr:(GRd rb sv R).P B w C)(hC:ZCB C w B)
  (hf:R.err=0->∀ (u:World) (H:Heap) (C:Nat->Prop),zth H u->B.Le H->(GRd rb sv R).P H u C->(ZCB C u H)->RetX zti fr (fst++cap) u H C (GRd rb sv (gf R).2) (uv (gf R).1)):
  RetX zti 54 [kg rb,.func (.func fr) fst.toArray cap.toArray] w B C (GRd rb sv (dq gf (n3,n3) R).2) (uv (dq gf (n3,n3) R).1):=by
 unfold RetX;refine xa 900 (GRd rb sv R) Tryz.func54 Z Tryz.ntmps54 (np Z) hB hr hC ?_;rw[xd];obtain⟨⟨n,⟨at1,bad1,err1⟩⟩,hz⟩:∃ z,gf R=z:=⟨_,rfl⟩
 
 obtain⟨at_,bad,err⟩:=R;unfold dq;rw[hz] at hf |-;dsimp only at hf |-;by_cases h0:err≠0
 ·rw[na h0];refine(Zce∘ZE∘ZbP∘Zy) ?_;refine qe (yh L 900 (GRd rb sv ⟨at_,bad,err⟩) (.bool true) (r:=GRd rb sv ⟨at_,bad,err⟩) Z Z Z Z Z (fun u H C2 hH _ hr2 hC2=>ke (nf h0) hH hr2 hC2)) ((ZD∘ZK∘Zay∘Za2) ?_);exact xv L 900 (r:=xc rb _ uz) (rs:=[.cell 4 tyU]) Z (fun _ _ h=>h) nq Z Z (fun _=>⟨_,y9 Z,rfl,rfl⟩)
 ·have he:err=0:=m5.1 h0;subst he;rw[nc h0];have hf:=hf rfl;by_cases h1:err1≠0
  ·rw[na h1];refine(Zce∘ZE∘ZbP∘Zy) ?_;refine qe (yh L 900 (GRd rb sv ⟨at_,bad,0⟩) (.bool false) (r:=GRd rb sv ⟨at_,bad,0⟩) Z Z Z Z Z (fun u H C2 hH _ hr2 hC2=>ke (ng h0) hH hr2 hC2)) ((Zm∘Zcn∘Zb6) ?_);refine qe (jd L 900 (GRd rb sv ⟨at1,bad1,err1⟩) (uv n) (r:=GRd rb sv ⟨at_,bad,0⟩) Z Z Z hfn Z hf) ((Zbs∘ZQ∘ZS∘ZaO∘Zco∘Zap) ?_);refine xl (yo L (q:=900) (cs':=[sv,.int .i64 at_,.int .i64 bad1,.int .i64 err1]) Z Z Z Z Z) ((Zi∘Zv∘Zay∘Za2) ?_);exact xv L 900 (r:=xc rb _ uz) (rs:=[.cell 4 tyU]) Z (fun _ _ h=>h) nq Z Z (fun _=>⟨_,y9 Z,rfl,rfl⟩)
  ·have he:err1=0:=m5.1 h1;subst he;rw[nc h1];refine(Zce∘ZE∘ZbP∘Zy) ?_;refine qe (yh L 900 (GRd rb sv ⟨at_,bad,0⟩) (.bool false) (r:=GRd rb sv ⟨at_,bad,0⟩) Z Z Z Z Z (fun u H C2 hH _ hr2 hC2=>ke (ng h0) hH hr2 hC2)) ((Zm∘Zcn∘Zb6) ?_);refine qe (jd L 900 (GRd rb sv ⟨at1,bad1,0⟩) (uv n) (r:=GRd rb sv ⟨at_,bad,0⟩) Z Z Z hfn Z hf) ((Zbs∘ZQ∘ZS∘Zb8∘ZM∘Zay∘Za2) ?_);exact xv L 900 (r:=xc rb _ uz) (rs:=[.cell 4 tyU]) Z (fun _ _ h=>h) nq Z Z (fun _=>⟨_,y9 Z,rfl,rfl⟩)
end Go.V.L4
namespace Go.V.L4
open Go.V Go.V.L2 Go.V.L3 Go.V.L8
def O9(h:R.at_<=bs.length):(Mg bs R).2.at_<=bs.length:=(Yd _ _ _ R h).1
def P5(h:R.at_<=bs.length):(az bs lim e R).2.at_<=bs.length:=by
 unfold az;split
 ·dsimp only;rw[Hu];exact O9 h
 ·exact O9 h
def eg{f:Rd->α×Rd}{z:α}(h:R.at_<=m)(hf:(f R).2.at_<=m):(dq f z R).2.at_<=m:=by
 unfold dq;split
 ·exact h
 ·split
  ·exact h
  ·exact hf
def o9(h:R.at_<=bs.length):(wj bs lim R).2.at_<=bs.length:=eg h (P5 h)
def i8(hl:lim<=1099511627776)(h:(wj bs lim R).2.err=0):∃ n:Nat,(wj bs lim R).1=(n:Int)/\n<=lim:=by
 unfold wj dq at h |-;split at h
 ·rename_i h0;exact ni h h0
 ·rename_i h0;rw[nc h0];split at h
  ·rename_i h1;exact ni h h1
  ·rename_i h1;rw[nc h1];unfold zfv az at h |-;dsimp only at h |-;split at h
   ·rename_i h2;exfalso;unfold Rd.fail at h;split at h
    ·cases h
    ·rename_i h3;exact h3 h
   ·rename_i h2;rw[nc h2];exact⟨_,xb T T,by omega⟩
def Ve(bs:List Nat)(lim:Nat)(R:Rd):ByteArray×Rd:=
 if (wj bs lim R).2.err≠0\/((bs.length-(wj bs lim R).2.at_:Nat):Int)<(wj bs lim R).1 then (sZ,(wj bs lim R).2.fail bs.length 17)
 else (og ((bs.drop (wj bs lim R).2.at_).take (wj bs lim R).1.toNat),⟨(wj bs lim R).2.at_+(wj bs lim R).1.toNat,(wj bs lim R).2.bad,(wj bs lim R).2.err⟩)
def lj(bs:List Nat)(lim:Nat):Rd->ByteArray×Rd:=dq (Ve bs lim) sZ
def Gh{α β:Type}(f:Rd->α×Rd)(g:Rd->β×Rd)(R:Rd):(α×β)×Rd:=(((f R).1,(g (f R).2).1),(g (f R).2).2)
def O7(bs:List Nat):Rd->(ByteArray×ByteArray)×Rd:=dq (Gh (lj bs 16) (lj bs 16)) (sZ,sZ)
def wq(bs:List Nat):Rd->Ed×Rd:=dq (Gh (O7 bs) (lj bs 16)) n3
def tq(bs:List Nat):Rd->U×Rd:=dq (Gh (wq bs) (wq bs)) (n3,n3)
def zgl(h:R.at_<=bs.length):(Ve bs lim R).2.at_<=bs.length:=by
 have h1:=o9 (lim:=lim) h;unfold Ve;split
 ·dsimp only;rw[Hu];exact h1
 ·rename_i h2;dsimp only;omega
def Gg(h:R.at_<=bs.length):(lj bs lim R).2.at_<=bs.length:=eg h (zgl h)
def Ya(h:R.at_<=bs.length):(O7 bs R).2.at_<=bs.length:=eg h (Gg (Gg h))
def Hq(h:R.at_<=bs.length):(wq bs R).2.at_<=bs.length:=eg h (Gg (Ya h))
def Vi(h:R.at_<=bs.length):(tq bs R).2.at_<=bs.length:=eg h (Hq (Hq h))
section
variable {P:Program}       {q:Nat}    
def Xp(L:Tabs P){tt:TypeId}{fu ag:Bool}{lo hi:Operand}{kl kh:IntKind}(i k:Nat){pl ph:Int}(hn:Nat.blt d n=true)(hg:gK ops κ ⟨some d,.slice tt (.tmp q) (some lo) (some hi) none,ty,pos,aft,g⟩=some true)(hx:κ q=some (.sat (BsV bs fu)))(ht:L.sl tt=some Qd)(hl:L.ld Qd=some (ag,1))
  (hlo:evK κ lo=some (.int kl pl)) (hhi:evK κ hi=some (.int kh ph)) (el:pl=i) (eh:ph=(i+k:Nat)) (hjs:i+k<=bs.length):StepOK P F B n ops O κ ⟨some d,.slice tt (.tmp q) (some lo) (some hi) none,ty,pos,aft,g⟩ d (.sat (BsV ((bs.drop i).take k) false)):=by
 have h:=jp (km:=.i64) (pm:=0) (P:=P) (F:=F) (B:=B) (O:=O) (ops:=ops) (aft:=aft) (ty:=ty) (pos:=pos) (ys:=((bs.drop i).take k).map fun b:Nat=>Value.int .u8 (b:Int)) L i (i+k) false hn hg hx ht hl ⟨hlo,el⟩ ⟨hhi,eh⟩ (fun h=>by cases h) T hjs (by rw[zqi,zqi,zs7,zqk,zq0]);have e:i+k-i=((bs.drop i).take k).length:=by rw[mg,m6];omega
 rw[e] at h;exact h
end
attribute [local irreducible] V N X VO Par StepOK Has Ret RetL RetO RetT kx RetX RetY Src
abbrev S0:TypeId:=58
def zb6{b2 b3:Nat}{bs:List Nat}(hlim:lim<=1099511627776)(hb:∀ b∈bs,b<=255)(hl:bs.length<=1099511627776)(hat:R.at_<=bs.length)(hB:zth B w)(hs:BsV bs fu sv B)(h2:B b2=some (.cells #[kg rb] S0))(h3:B b3=some (.cells #[.int .i64 lim] 3))(hr:(GRd rb sv R).P B w C)(hC:ZCB C w B):
  RetX zti 184 [kg b2,kg b3] w B C (GRd rb sv (Ve bs lim R).2) (.string (Ve bs lim R).1):=by
 obtain⟨p,c,rfl⟩:=jh hs;unfold RetX;refine xa 900 (GRd rb _ R) Tryz.func184 Z Tryz.ntmps184 (np Z) hB hr hC ?_;rw[xd];have hla:=o9 (lim:=lim) hat;obtain⟨z,⟨at1,bad1,err1⟩,hz⟩:∃ z R1,wj bs lim R=(z,R1):=⟨_,_,rfl⟩
 have hlen:=fun(u:World) (H:Heap) (C2:Nat->Prop) (hH:zth H u) (hle:B.Le H) hr2 hC2=>hz ▸ len_ret (R:=R) (rb:=rb) (C:=C2) hlim hb hl hat hH (hs.le hle) hr2 hC2;have hlv:=fun h=>i8 (bs:=bs) (R:=R) hlim h;unfold Ve;rw[hz] at hlv hla |-;dsimp only at hlv hla |-;by_cases h0:err1≠0
 ·rw[na (.inl h0)];refine Z4 (h:=?_);refine z7 (qd L (qp Z h2) Z Z Z Z) Z (z7 (qd L (qp Z h3) Z Z Z Z) Z (qe (yh L 900 (GRd rb (.slice p bs.length c) ⟨at1,bad1,err1⟩) (.int .i64 z) (r:=GRd rb (.slice p bs.length c) R) Z Z Z Z Z hlen) ((Zj∘Z9) ?_)));refine z7 (qd L (qp Z h2) Z Z Z Z) Z (qe (yh L 900 (GRd rb (.slice p bs.length c) ⟨at1,bad1,err1⟩) (.bool true) (r:=GRd rb (.slice p bs.length c) ⟨at1,bad1,err1⟩) Z Z Z Z Z (fun u H C2 hH _ hr2 hC2=>ke (nf h0) hH hr2 hC2)) ((Zaz∘Zbb) ?_));refine qo (id:=3) [(21,[900]),(200019,[900])] ki J (z8 (qd L (qp Z h2) Z Z Z Z) Z (z8 (qd L (qp Z h2) Z Z Z Z) Z ((ZbN∘Zdp∘Zdf) ?_)));refine xq (yx L 900 (GRd rb (.slice p bs.length c) ((⟨at1,bad1,err1⟩:Rd).fail bs.length 17)) (r:=GRd rb (.slice p bs.length c) ⟨at1,bad1,err1⟩) Z Z Z Z Z (fun u H C2 hH _ hr2 hC2=>od hH hr2 hC2)) Z Z ((ZaZ∘Z2∘Zc) ?_);exact xv L 900 (r:=xc rb _ uz) (rs:=[.tmp 2]) Z (fun _ _ h=>h) nq Z Z (fun _=>rfl)
 ·have he:err1=0:=m5.1 h0;subst he;obtain⟨k,rfl,hk⟩:=hlv rfl;by_cases h1:bs.length-at1<k
  ·rw[na (.inr T)];refine Z4 (h:=?_);refine z7 (qd L (qp Z h2) Z Z Z Z) Z (z7 (qd L (qp Z h3) Z Z Z Z) Z (qe (yh L 900 (GRd rb (.slice p bs.length c) ⟨at1,bad1,0⟩) (.int .i64 k) (r:=GRd rb (.slice p bs.length c) R) Z Z Z Z Z hlen) ((Zj∘Z9) ?_)));refine z7 (qd L (qp Z h2) Z Z Z Z) Z (qe (yh L 900 (GRd rb (.slice p bs.length c) ⟨at1,bad1,0⟩) (.bool false) (r:=GRd rb (.slice p bs.length c) ⟨at1,bad1,0⟩) Z Z Z Z Z (fun u H C2 hH _ hr2 hC2=>ke (ng h0) hH hr2 hC2)) (Zb (h:=?_)));refine z7 (qd L (qp Z h2) Z Z Z Z) Z (qe (yh L 900 (GRd rb (.slice p bs.length c) ⟨at1,bad1,0⟩) (.int .i64 (bs.length-at1:Nat)) (r:=GRd rb (.slice p bs.length c) ⟨at1,bad1,0⟩) Z Z Z Z Z (fun u H C2 hH hle hr2 hC2=>Bo hl hla hH (hs.le hle) hr2 hC2)) ((ZO∘Zbb) ?_));refine qo (id:=3) [(21,[900]),(200019,[900])] ki J (z8 (qd L (qp Z h2) Z Z Z Z) Z (z8 (qd L (qp Z h2) Z Z Z Z) Z ((ZbN∘Zdp∘Zdf) ?_)));refine xq (yx L 900 (GRd rb (.slice p bs.length c) ((⟨at1,bad1,0⟩:Rd).fail bs.length 17)) (r:=GRd rb (.slice p bs.length c) ⟨at1,bad1,0⟩) Z Z Z Z Z (fun u H C2 hH _ hr2 hC2=>od hH hr2 hC2)) Z Z ((ZaZ∘Z2∘Zc) ?_);exact xv L 900 (r:=xc rb _ uz) (rs:=[.tmp 2]) Z (fun _ _ h=>h) nq Z Z (fun _=>rfl)
  ·rw[nc (fun h=>h.elim h0 (fun h=>h1 T)),zpu];have hw1:IntKind.i64.wrap ((at1:Int)+(k:Int))=((at1+k:Nat):Int):=(xb T T).trans T;have hw2:IntKind.i64.wrap (((at1+k:Nat):Int)-(k:Int))=(at1:Int):=(xb T T).trans T;have hsb:∀ b∈(bs.drop at1).take k,b<=255:=fun b hb2=>hb b (zs4 (zr6 hb2));refine Z4 (h:=?_);refine z7 (qd L (qp Z h2) Z Z Z Z) Z (z7 (qd L (qp Z h3) Z Z Z Z) Z (qe (yh L 900 (GRd rb (.slice p bs.length c) ⟨at1,bad1,0⟩) (.int .i64 k) (r:=GRd rb (.slice p bs.length c) R) Z Z Z Z Z hlen) ((Zj∘Z9) ?_)));refine z7 (qd L (qp Z h2) Z Z Z Z) Z (qe (yh L 900 (GRd rb (.slice p bs.length c) ⟨at1,bad1,0⟩) (.bool false) (r:=GRd rb (.slice p bs.length c) ⟨at1,bad1,0⟩) Z Z Z Z Z (fun u H C2 hH _ hr2 hC2=>ke (ng h0) hH hr2 hC2)) (Zb (h:=?_)));refine z7 (qd L (qp Z h2) Z Z Z Z) Z (qe (yh L 900 (GRd rb (.slice p bs.length c) ⟨at1,bad1,0⟩) (.int .i64 (bs.length-at1:Nat)) (r:=GRd rb (.slice p bs.length c) ⟨at1,bad1,0⟩) Z Z Z Z Z (fun u H C2 hH hle hr2 hC2=>Bo hl hla hH (hs.le hle) hr2 hC2)) ((ZL∘ZbX∘Zt) ?_));refine z7 (qd L (qp Z h2) Z Z Z Z) Z ((ZS∘Za∘Z7∘Zap) ?_);refine xl (yo L (q:=900) (cs':=[.slice p bs.length c,.int .i64 (at1+k:Nat),.int .i64 bad1,.int .i64 0]) Z Z Z Z Z) (Zi (h:=?_));refine qo (id:=6) [(200033,[900]),(200037,[900]),(200043,[900])] ki J (z8 (qd L (qp Z h2) Z Z Z Z) Z (ZbN (h:=?_)));refine qz (StepOKR.seeV (qg L (q:=900) Z Z Z Z) hs) Z Z (z8 (qd L (qp Z h2) Z Z Z Z) Z ((ZbN∘Zdp∘Zl∘Zd6) ?_));refine z8 (qd L (qp Z h2) Z Z Z Z) Z ((ZbN∘Zdp) ?_);refine z8 (Xp L (fu:=fu) at1 k Z Z Z Z Z Z Z Z Z T) Z (z8 (Df (bs:=(bs.drop at1).take k) (fu:=false) hsb Z Z Z Z Z Z) Z (ZaB (h:=?_)));exact xv L 900 (r:=xc rb _ uz) (rs:=[.tmp 2]) Z (fun _ _ h=>h) nq Z Z (fun _=>rfl)
end Go.V.L4
section
open Go.V
attribute [local irreducible] Has N Par Ret RetL RetO RetT RetX RetY Src StepOK V VO X kx
namespace Go.V.L11
open Go.V.L2 Go.V.L3 Go.V.L4 Go.V.L6
def Kr{f:Rd->α×Rd}{z:α}(P:α->Prop)(hz:P z)(hf:P (f R).1):P (dq f z R).1:=by
 unfold dq;split
 ·exact hz
 ·split
  ·exact hz
  ·exact hf
def Cb(hl:lim<=1099511627776):(lj bs lim R).1.size<=lim:=by
 refine Kr (fun s:ByteArray=>s.size<=lim) (mc _) ?_;unfold Ve;split
 ·exact mc _
 ·rename_i h;have h0:(wj bs lim R).2.err=0:=m5.1 fun h2=>h (.inl h2);obtain⟨n,hn,hn2⟩:=i8 hl h0;rw[hn,zpu];show(List.map UInt8.ofNat ((bs.drop _).take n)).toArray.size<=lim;rw[zry,my,mg];omega
def X9:(O7 bs R).1.1.size<=16/\(O7 bs R).1.2.size<=16:=
 Kr (fun s:ByteArray×ByteArray=>s.1.size<=16/\s.2.size<=16) ⟨by decide,by decide⟩ ⟨Cb E,Cb E⟩
def Fs:((wq bs R).1.1.1.size<=16/\(wq bs R).1.1.2.size<=16)/\(wq bs R).1.2.size<=16:=
 Kr (fun s:Ed=>(s.1.1.size<=16/\s.1.2.size<=16)/\s.2.size<=16) ⟨⟨by decide,by decide⟩,by decide⟩ ⟨X9,Cb E⟩
def zgm:TZ (tq bs R).1:=by
 refine Kr TZ (by unfold TZ;decide) ?_;have h1:=Fs (bs:=bs) (R:=R);have h2:=Fs (bs:=bs) (R:=(wq bs R).2);unfold TZ Gh;dsimp only;omega
end Go.V.L11
namespace Go.V.L4
open Go.V.L2 Go.V.L3 Go.V.L8
def _root_.Zfc(t:Wr Y->A:=by intro h;refine qo (id:=1) [(3,[900]),(5,[900])] ki J ?_;exact h.1)(h:Y):A:=t ⟨h⟩
def Np(hlim:lim<=1099511627776){bs:List Nat}(hb:∀ b∈bs,b<=255)(hl:bs.length<=1099511627776)(hat:R.at_<=bs.length)(hB:zth B w)(hs:BsV bs fu sv B)(hr:(GRd rb sv R).P B w C)(hC:ZCB C w B):
  RetX zti 120 [kg rb,.int .i64 lim] w B C (GRd rb sv (lj bs lim R).2) (.string (lj bs lim R).1):=by
 unfold RetX;refine xa 900 (GRd rb _ R) Tryz.func120 Z Tryz.ntmps120 (np Z) hB hr hC ?_;rw[xd];refine(Zbu∘ZdN∘Zd) ?_;refine k9 2 901 rfl fun b2=>?_;refine k9 3 902 rfl fun b3=>?_;refine wk 901 rfl fun H1 hs1 _ h2=>?_;refine wk 902 rfl fun H2 hs2 _ h3=>?_;have h2:=hs2.le _ _ h2;have hs12:=hs1.trans hs2;have hs':=hs.le hs12.le;refine ZE (h:=?_);refine z7 (qd L (qp Z h2) Z Z Z Z) Z (Za0 (h:=?_));refine qe (yh L 900 (GRd rb sv (lj bs lim R).2) (.string (lj bs lim R).1) (r:=GRd rb sv R) Z Z Z Z Z (fun u H C2 hH hle hr2 hC2=>Sv (gf:=Ve bs lim) (fst:=[]) (cap:=[kg b2,kg b3]) Z hH hr2 hC2 (fun _ u3 H3 C3 hH3 hle3 hr3 hC3=>zb6 hlim hb hl hat hH3 ((hs'.le hle).le hle3) ((hle.trans hle3) _ _ h2) ((hle.trans hle3) _ _ h3) hr3 hC3))) (Zc (h:=?_));exact xv L 900 (r:=xc rb _ uz) (rs:=[.tmp 4]) Z (fun _ _ h=>h) hs12 Z Z (fun _=>rfl)
def zdc{bs:List Nat}(hb:∀ b∈bs,b<=255)(hl:bs.length<=1099511627776)(hat:R.at_<=bs.length)(hB:zth B w)(hs:BsV bs fu sv B)(h1:B b1=some (.cells #[kg rb] S0))(hr:(GRd rb sv R).P B w C)(hC:ZCB C w B):
  RetX zti 182 [kg b1] w B C (GRd rb sv (Gh (lj bs 16) (lj bs 16) R).2) (oV ((lj bs 16 R).1,(lj bs 16 (lj bs 16 R).2).1)):=by
 unfold RetX;refine xa 900 (GRd rb _ R) Tryz.func182 Z Tryz.ntmps182 (np Z) hB hr hC ?_;rw[xd];have hat2:=Gg (lim:=16) hat;unfold Gh;dsimp only;generalize hz1:lj bs 16 R=z1 at hat2;obtain⟨x,R1⟩:=z1;dsimp only at hat2 |-;generalize hz2:lj bs 16 R1=z2;obtain⟨y,R2⟩:=z2;dsimp only;refine(Zce∘Zfc) ?_;refine z8 (qd L (qp Z h1) Z Z Z Z) Z (xq (yh L 900 (GRd rb sv R1) (.string x) (r:=GRd rb sv R) Z Z Z Z Z (fun u H C2 hH hle hr2 hC2=>by have h:=Np (lim:=16) E hb hl hat hH (hs.le hle) hr2 hC2;rw[hz1] at h;exact h)) Z Z ?_);refine z8 (qd L (qp Z h1) Z Z Z Z) Z (xq (yh L 900 (GRd rb sv R2) (.string y) (r:=GRd rb sv R1) Z Z Z Z Z (fun u H C2 hH hle hr2 hC2=>by have h:=Np (lim:=16) E hb hl hat2 hH (hs.le hle) hr2 hC2;rw[hz2] at h;exact h)) Z Z ?_);refine z8 (yu (cs:=[_,_]) Z Z zn4 Z Z) Z ((ZdQ∘Zb1) ?_);exact xv L 900 (r:=xc rb _ uz) (rs:=[.cell 1 zjz]) Z (fun _ _ h=>h) nq Z Z (fun _=>⟨_,y9 Z,rfl,rfl⟩)
def zhw{bs:List Nat}(hb:∀ b∈bs,b<=255)(hl:bs.length<=1099511627776)(hat:R.at_<=bs.length)(hB:zth B w)(hs:BsV bs fu sv B)(hr:(GRd rb sv R).P B w C)(hC:ZCB C w B):
  RetX zti 119 [kg rb] w B C (GRd rb sv (O7 bs R).2) (oV (O7 bs R).1):=by
 unfold RetX;refine xa 900 (GRd rb _ R) Tryz.func119 Z Tryz.ntmps119 (np Z) hB hr hC ?_;rw[xd];refine(Zbu∘Zca) ?_;refine k9 1 901 rfl fun b1=>?_;refine wk 901 rfl fun H1 hs1 _ h1=>?_;have hs':=hs.le hs1.le;generalize hz:O7 bs R=z;obtain⟨⟨x,y⟩,R1⟩:=z;dsimp only;refine ZE (h:=?_);refine z7 (qd L (qp Z h1) Z Z Z Z) Z (Za0 (h:=?_));refine qe (yh L 900 (GRd rb sv R1) (oV (x,y)) (r:=GRd rb sv R) Z Z Z Z Z (fun u H C2 hH hle hr2 hC2=>by have h:=Sw (gf:=Gh (lj bs 16) (lj bs 16)) (fst:=[]) (cap:=[kg b1]) Z hH hr2 hC2 (fun _ u3 H3 C3 hH3 hle3 hr3 hC3=>zdc hb hl hat hH3 ((hs'.le hle).le hle3) ((hle.trans hle3) _ _ h1) hr3 hC3);unfold O7 at hz;rw[hz] at h;exact h)) ?_;refine Za2 (h:=?_);exact xv L 900 (r:=xc rb _ uz) (rs:=[.cell 2 zjz]) Z (fun _ _ h=>h) hs1 Z Z (fun _=>⟨_,y9 Z,rfl,rfl⟩)
def zad{bs:List Nat}(hb:∀ b∈bs,b<=255)(hl:bs.length<=1099511627776)(hat:R.at_<=bs.length)(hB:zth B w)(hs:BsV bs fu sv B)(h1:B b1=some (.cells #[kg rb] S0))(hr:(GRd rb sv R).P B w C)(hC:ZCB C w B):
  RetX zti 118 [kg b1] w B C (GRd rb sv (Gh (O7 bs) (lj bs 16) R).2) (gV ((O7 bs R).1,(lj bs 16 (O7 bs R).2).1)):=by
 unfold RetX;refine xa 900 (GRd rb _ R) Tryz.func118 Z Tryz.ntmps118 (np Z) hB hr hC ?_;rw[xd];have hat2:=Ya hat;unfold Gh;dsimp only;generalize hz1:O7 bs R=z1 at hat2;obtain⟨x,R1⟩:=z1;dsimp only at hat2 |-;generalize hz2:lj bs 16 R1=z2;obtain⟨y,R2⟩:=z2;dsimp only;refine(Zce∘Zfc) ?_;refine z8 (qd L (qp Z h1) Z Z Z Z) Z (xq (yh L 900 (GRd rb sv R1) (oV x) (r:=GRd rb sv R) Z Z Z Z Z (fun u H C2 hH hle hr2 hC2=>by have h:=zhw hb hl hat hH (hs.le hle) hr2 hC2;rw[hz1] at h;exact h)) Z Z ?_);refine z8 (qd L (qp Z h1) Z Z Z Z) Z (xq (yh L 900 (GRd rb sv R2) (.string y) (r:=GRd rb sv R1) Z Z Z Z Z (fun u H C2 hH hle hr2 hC2=>by have h:=Np (lim:=16) E hb hl hat2 hH (hs.le hle) hr2 hC2;rw[hz2] at h;exact h)) Z Z ?_);refine z8 (yu (cs:=[_,_,_]) Z Z zn3 Z Z) Z ((ZdQ∘Zb1) ?_);exact xv L 900 (r:=xc rb _ uz) (rs:=[.cell 1 zj0]) Z (fun _ _ h=>h) nq Z Z (fun _=>⟨_,y9 Z,rfl,rfl⟩)
def goal_ret{bs:List Nat}(hb:∀ b∈bs,b<=255)(hl:bs.length<=1099511627776)(hat:R.at_<=bs.length)(hB:zth B w)(hs:BsV bs fu sv B)(hr:(GRd rb sv R).P B w C)(hC:ZCB C w B):
  RetX zti 56 [kg rb] w B C (GRd rb sv (wq bs R).2) (gV (wq bs R).1):=by
 unfold RetX;refine xa 900 (GRd rb _ R) Tryz.func56 Z Tryz.ntmps56 (np Z) hB hr hC ?_;rw[xd];refine(Zbu∘Zca) ?_;refine k9 1 901 rfl fun b1=>?_;refine wk 901 rfl fun H1 hs1 _ h1=>?_;have hs':=hs.le hs1.le;generalize hz:wq bs R=z;obtain⟨⟨⟨x,y⟩,y2⟩,R1⟩:=z;dsimp only;refine ZE (h:=?_);refine z7 (qd L (qp Z h1) Z Z Z Z) Z (Za0 (h:=?_));refine qe (yh L 900 (GRd rb sv R1) (gV ((x,y),y2)) (r:=GRd rb sv R) Z Z Z Z Z (fun u H C2 hH hle hr2 hC2=>by have h:=Nm (gf:=Gh (O7 bs) (lj bs 16)) (fst:=[]) (cap:=[kg b1]) Z hH hr2 hC2 (fun _ u3 H3 C3 hH3 hle3 hr3 hC3=>zad hb hl hat hH3 ((hs'.le hle).le hle3) ((hle.trans hle3) _ _ h1) hr3 hC3);unfold wq at hz;rw[hz] at h;exact h)) ?_;refine Za2 (h:=?_);exact xv L 900 (r:=xc rb _ uz) (rs:=[.cell 2 zj0]) Z (fun _ _ h=>h) hs1 Z Z (fun _=>⟨_,y9 Z,rfl,rfl⟩)
def zgq{bs:List Nat}(hb:∀ b∈bs,b<=255)(hl:bs.length<=1099511627776)(hat:R.at_<=bs.length)(hB:zth B w)(hs:BsV bs fu sv B)(hr:(GRd rb sv R).P B w C)(hC:ZCB C w B):
  RetX zti 57 [kg rb] w B C (GRd rb sv (wq bs R).2) (gV (wq bs R).1):=by
 unfold RetX;refine xa 900 (GRd rb _ R) Tryz.func57 Z Tryz.ntmps57 (np Z) hB hr hC ?_;rw[xd];generalize hz:wq bs R=z;obtain⟨⟨⟨x,y⟩,y2⟩,R1⟩:=z;dsimp only;refine(Zce∘Zbp) ?_;refine qe (yh L 900 (GRd rb sv R1) (gV ((x,y),y2)) (r:=GRd rb sv R) Z Z Z Z Z (fun u H C2 hH hle hr2 hC2=>by have h:=goal_ret hb hl hat hH (hs.le hle) hr2 hC2;rw[hz] at h;exact h)) ?_;refine Za2 (h:=?_);exact xv L 900 (r:=xc rb _ uz) (rs:=[.cell 2 55]) Z (fun _ _ h=>h) nq Z Z (fun _=>⟨_,y9 Z,rfl,rfl⟩)
def zca{bs:List Nat}(hb:∀ b∈bs,b<=255)(hl:bs.length<=1099511627776)(hat:R.at_<=bs.length)(hB:zth B w)(hs:BsV bs fu sv B)(h1:B b1=some (.cells #[kg rb] S0))(hr:(GRd rb sv R).P B w C)(hC:ZCB C w B):
  RetX zti 55 [kg b1] w B C (GRd rb sv (Gh (wq bs) (wq bs) R).2) (uv ((wq bs R).1,(wq bs (wq bs R).2).1)):=by
 unfold RetX;refine xa 900 (GRd rb _ R) Tryz.func55 Z Tryz.ntmps55 (np Z) hB hr hC ?_;rw[xd];have hat2:=Hq hat;unfold Gh;dsimp only;generalize hz1:wq bs R=z1 at hat2;obtain⟨x,R1⟩:=z1;dsimp only at hat2 |-;generalize hz2:wq bs R1=z2;obtain⟨y,R2⟩:=z2;dsimp only;refine(Zce∘Zfc) ?_;refine z8 (qd L (qp Z h1) Z Z Z Z) Z (xq (yh L 900 (GRd rb sv R1) (gV x) (r:=GRd rb sv R) Z Z Z Z Z (fun u H C2 hH hle hr2 hC2=>by have h:=goal_ret hb hl hat hH (hs.le hle) hr2 hC2;rw[hz1] at h;exact h)) Z Z ?_);refine z8 (qd L (qp Z h1) Z Z Z Z) Z (xq (yh L 900 (GRd rb sv R2) (gV y) (r:=GRd rb sv R1) Z Z Z Z Z (fun u H C2 hH hle hr2 hC2=>by have h:=zgq hb hl hat2 hH (hs.le hle) hr2 hC2;rw[hz2] at h;exact h)) Z Z ?_);refine z8 (yu (cs:=[_,_,_,_,_,_]) Z Z zn2 Z Z) Z ((ZdQ∘Zb1) ?_);exact xv L 900 (r:=xc rb _ uz) (rs:=[.cell 1 tyU]) Z (fun _ _ h=>h) nq Z Z (fun _=>⟨_,y9 Z,rfl,rfl⟩)
def tup_ret{bs:List Nat}(hb:∀ b∈bs,b<=255)(hl:bs.length<=1099511627776)(hat:R.at_<=bs.length)(hB:zth B w)(hs:BsV bs fu sv B)(hr:(GRd rb sv R).P B w C)(hC:ZCB C w B):
  RetX zti 16 [kg rb] w B C (GRd rb sv (tq bs R).2) (uv (tq bs R).1):=by
 unfold RetX;refine xa 900 (GRd rb _ R) Tryz.func16 Z Tryz.ntmps16 (np Z) hB hr hC ?_;rw[xd];refine(Zbu∘Zca) ?_;refine k9 1 901 rfl fun b1=>?_;refine wk 901 rfl fun H1 hs1 _ h1=>?_;have hs':=hs.le hs1.le;generalize hz:tq bs R=z;obtain⟨⟨⟨⟨x,y⟩,y2⟩,⟨⟨x3,y3⟩,y4⟩⟩,R1⟩:=z;dsimp only;refine ZE (h:=?_);refine z7 (qd L (qp Z h1) Z Z Z Z) Z (Za0 (h:=?_));refine qe (yh L 900 (GRd rb sv R1) (uv (((x,y),y2),((x3,y3),y4))) (r:=GRd rb sv R) Z Z Z Z Z (fun u H C2 hH hle hr2 hC2=>by have h:=Su (gf:=Gh (wq bs) (wq bs)) (fst:=[]) (cap:=[kg b1]) Z hH hr2 hC2 (fun _ u3 H3 C3 hH3 hle3 hr3 hC3=>zca hb hl hat hH3 ((hs'.le hle).le hle3) ((hle.trans hle3) _ _ h1) hr3 hC3);unfold tq at hz;rw[hz] at h;exact h)) ?_;refine Za2 (h:=?_);exact xv L 900 (r:=xc rb _ uz) (rs:=[.cell 2 tyU]) Z (fun _ _ h=>h) hs1 Z Z (fun _=>⟨_,y9 Z,rfl,rfl⟩)
open Go.V.L6
abbrev Nj:TypeId:=77
def bG(bs:List Nat)(R:Rd):Bool×Rd:=(decide ((az bs 1 5 R).1=1),(az bs 1 5 R).2)
def Se(bs:List Nat):io bs=dq (bG bs) false:=rfl
def zer(h:R.at_<=bs.length):(io bs R).2.at_<=bs.length:=eg h (P5 (lim:=1) (e:=5) h)
def db(bs:List Nat):Rd->CH×Rd:=dq (Gh (tq bs) (io bs)) ((n3,n3),false)
def Pp(h:R.at_<=bs.length):(db bs R).2.at_<=bs.length:=eg h (zer (Vi h))
def zel{c:CH}(h:∀ s∈u6 c.1,s.size<=1000):(chgB c).length<=6061:=by
 have:=cy h;unfold chgB tupB;rw[nr];have e:(u6 c.1).length=6:=rfl;rw[e] at this;simp only[zqf];omega
def U2{b:Bool}(hz:bs.length+2000<=1099511627776)(hB:zth B w)(hr:(GWr wb bs).P B w C)(hC:ZCB C w B):
  kx zti 202 [kg wb,.bool b] w B C (GWr wb (bs++[if b=true then 1 else 0])):=by
 unfold kx;refine xa 900 (GWr wb bs) Tryz.func202 Z Tryz.ntmps202 (np Z) hB hr hC ?_
 cases b with
 | true=>
  refine(ZP∘Za∘Zw∘Zbp) ?_;refine qe (yx L 900 (GWr wb (bs++[1])) (r:=GWr wb bs) Z Z Z Z Z (fun u H C hH _ hr hC=>by have h:=vg (n:=1) E T hH hr hC;rw[cq E] at h;exact h)) ?_;refine Zac (h:=?_);exact xu L 900 (r:=GWr wb (bs++[1])) Z (fun _ _ h=>h) nq Z Z
 | false=>
  refine(ZP∘Za∘ZaL∘Zy) ?_;refine qe (yx L 900 (GWr wb (bs++[0])) (r:=GWr wb bs) Z Z Z Z Z (fun u H C hH _ hr hC=>by have h:=vg (n:=0) E T hH hr hC;rw[cq E] at h;exact h)) ?_;refine Zac (h:=?_);exact xu L 900 (r:=GWr wb (bs++[0])) Z (fun _ _ h=>h) nq Z Z
def zbz{c:CH}(ht:∀ s∈u6 c.1,s.size<=1000)(hz:bs.length+20000<=1099511627776)(hB:zth B w)(hr:(GWr wb bs).P B w C)(hC:ZCB C w B):
  kx zti 145 [kg wb,chv c.1 c.2] w B C (GWr wb (bs++chgB c)):=by
 obtain⟨⟨⟨⟨a,b⟩,d⟩,⟨⟨e,f⟩,g⟩⟩,k⟩:=c;have hl:=cy ht;have e6:(u6 (((a,b),d),((e,f),g))).length=6:=rfl;rw[e6] at hl;dsimp only at hl ht;have e0:bs++chgB ((((a,b),d),((e,f),g)),k)=(bs++tupB (((a,b),d),((e,f),g)))++[if k=true then 1 else 0]:=by unfold chgB;rw[List.append_assoc]
 rw[e0];unfold kx;refine xa 900 (GWr wb bs) Tryz.func145 Z Tryz.ntmps145 (np Z) hB hr hC ((Zu∘Zi∘Zbp∘ZbI) ?_);refine qe (yx L 900 (GWr wb (bs++tupB (((a,b),d),((e,f),g)))) (r:=GWr wb bs) Z Z Z Z Z (fun u H C hH _ hr hC=>Gb ht T hH hr hC)) ((ZF∘Zy∘Zq) ?_);refine qe (yx L 900 (GWr wb (bs++tupB (((a,b),d),((e,f),g))++[if k=true then 1 else 0])) (r:=GWr wb (bs++tupB (((a,b),d),((e,f),g)))) Z Z Z Z Z (fun u H C hH _ hr hC=>U2 (by rw[List.length_append];unfold tupB;omega) hH hr hC)) ?_;refine Zac (h:=?_);exact xu L 900 (r:=GWr wb (bs++tupB (((a,b),d),((e,f),g))++[if k=true then 1 else 0])) Z (fun _ _ h=>h) nq Z Z
def Nn{gf:Rd->Bool×Rd}(hfn:L.fn fr=some ()){C:Nat->Prop}(hB:zth B w)(hr:(GRd rb sv R).P B w C)(hC:ZCB C w B)
  (hf:R.err=0->∀ (u:World) (H:Heap) (C:Nat->Prop),zth H u->B.Le H->(GRd rb sv R).P H u C->(ZCB C u H)->RetX zti fr (fst++cap) u H C (GRd rb sv (gf R).2) (.bool (gf R).1)):
  RetX zti 283 [kg rb,.func (.func fr) fst.toArray cap.toArray] w B C (GRd rb sv (dq gf false R).2) (.bool (dq gf false R).1):=by
 unfold RetX;refine xa 900 (GRd rb sv R) Tryz.func283 Z Tryz.ntmps283 (np Z) hB hr hC ?_;rw[xd];obtain⟨⟨n,⟨at1,bad1,err1⟩⟩,hz⟩:∃ z,gf R=z:=⟨_,rfl⟩
 obtain⟨at_,bad,err⟩:=R;unfold dq;rw[hz] at hf |-;dsimp only at hf |-;by_cases h0:err≠0
 ·rw[na h0];refine(Z4∘Zj∘Zy) ?_;refine qe (yh L 900 (GRd rb sv ⟨at_,bad,err⟩) (.bool true) (r:=GRd rb sv ⟨at_,bad,err⟩) Z Z Z Z Z (fun u H C2 hH _ hr2 hC2=>ke (nf h0) hH hr2 hC2)) ((ZD∘ZA∘Zc) ?_);exact xv L 900 (r:=xc rb _ uz) (rs:=[.tmp 4]) Z (fun _ _ h=>h) nq Z Z (fun _=>rfl)
 ·have he:err=0:=m5.1 h0;subst he;rw[nc h0];have hf:=hf rfl;by_cases h1:err1≠0
  ·rw[na h1];refine(Z4∘Zj∘Zy) ?_;refine qe (yh L 900 (GRd rb sv ⟨at_,bad,0⟩) (.bool false) (r:=GRd rb sv ⟨at_,bad,0⟩) Z Z Z Z Z (fun u H C2 hH _ hr2 hC2=>ke (ng h0) hH hr2 hC2)) ((Zm∘Zcn∘Zb6) ?_);refine qe (jd L 900 (GRd rb sv ⟨at1,bad1,err1⟩) (.bool n) (r:=GRd rb sv ⟨at_,bad,0⟩) Z Z Z hfn Z hf) ((Zj∘ZQ∘ZS∘ZaO∘Zco∘Zap) ?_);refine xl (yo L (q:=900) (cs':=[sv,.int .i64 at_,.int .i64 bad1,.int .i64 err1]) Z Z Z Z Z) ((Zi∘ZaQ∘Zc) ?_);exact xv L 900 (r:=xc rb _ uz) (rs:=[.tmp 4]) Z (fun _ _ h=>h) nq Z Z (fun _=>rfl)
  ·have he:err1=0:=m5.1 h1;subst he;rw[nc h1];refine(Z4∘Zj∘Zy) ?_;refine qe (yh L 900 (GRd rb sv ⟨at_,bad,0⟩) (.bool false) (r:=GRd rb sv ⟨at_,bad,0⟩) Z Z Z Z Z (fun u H C2 hH _ hr2 hC2=>ke (ng h0) hH hr2 hC2)) ((Zm∘Zcn∘Zb6) ?_);refine qe (jd L 900 (GRd rb sv ⟨at1,bad1,0⟩) (.bool n) (r:=GRd rb sv ⟨at_,bad,0⟩) Z Z Z hfn Z hf) ((Zj∘ZQ∘ZS∘Zb8∘Zal∘Zc) ?_);exact xv L 900 (r:=xc rb _ uz) (rs:=[.tmp 4]) Z (fun _ _ h=>h) nq Z Z (fun _=>rfl)
def Sy{gf:Rd->CH×Rd}(hfn:L.fn fr=some ()){C:Nat->Prop}(hB:zth B w)(hr:(GRd rb sv R).P B w C)(hC:ZCB C w B)
  (hf:R.err=0->∀ (u:World) (H:Heap) (C:Nat->Prop),zth H u->B.Le H->(GRd rb sv R).P H u C->(ZCB C u H)->RetX zti fr (fst++cap) u H C (GRd rb sv (gf R).2) (chv ((gf R).1).1 ((gf R).1).2)):
  RetX zti 257 [kg rb,.func (.func fr) fst.toArray cap.toArray] w B C (GRd rb sv (dq gf ((n3,n3),false) R).2) (chv ((dq gf ((n3,n3),false) R).1).1 ((dq gf ((n3,n3),false) R).1).2):=by
 unfold RetX;refine xa 900 (GRd rb sv R) Tryz.func257 Z Tryz.ntmps257 (np Z) hB hr hC ?_;rw[xd];obtain⟨⟨n,⟨at1,bad1,err1⟩⟩,hz⟩:∃ z,gf R=z:=⟨_,rfl⟩
 
 obtain⟨at_,bad,err⟩:=R;unfold dq;rw[hz] at hf |-;dsimp only at hf |-;by_cases h0:err≠0
 ·rw[na h0];refine(Zce∘ZE∘ZbP∘Zy) ?_;refine qe (yh L 900 (GRd rb sv ⟨at_,bad,err⟩) (.bool true) (r:=GRd rb sv ⟨at_,bad,err⟩) Z Z Z Z Z (fun u H C2 hH _ hr2 hC2=>ke (nf h0) hH hr2 hC2)) ((ZD∘ZK∘ZdC∘Za2) ?_);exact xv L 900 (r:=xc rb _ uz) (rs:=[.cell 4 Nj]) Z (fun _ _ h=>h) nq Z Z (fun _=>⟨_,y9 Z,rfl,rfl⟩)
 ·have he:err=0:=m5.1 h0;subst he;rw[nc h0];have hf:=hf rfl;by_cases h1:err1≠0
  ·rw[na h1];refine(Zce∘ZE∘ZbP∘Zy) ?_;refine qe (yh L 900 (GRd rb sv ⟨at_,bad,0⟩) (.bool false) (r:=GRd rb sv ⟨at_,bad,0⟩) Z Z Z Z Z (fun u H C2 hH _ hr2 hC2=>ke (ng h0) hH hr2 hC2)) ((Zm∘Zcn∘Zb6) ?_);refine qe (jd L 900 (GRd rb sv ⟨at1,bad1,err1⟩) (chv (n).1 (n).2) (r:=GRd rb sv ⟨at_,bad,0⟩) Z Z Z hfn Z hf) ((Zbs∘ZQ∘ZS∘ZaO∘Zco∘Zap) ?_);refine xl (yo L (q:=900) (cs':=[sv,.int .i64 at_,.int .i64 bad1,.int .i64 err1]) Z Z Z Z Z) ((Zi∘Zv∘ZdC∘Za2) ?_);exact xv L 900 (r:=xc rb _ uz) (rs:=[.cell 4 Nj]) Z (fun _ _ h=>h) nq Z Z (fun _=>⟨_,y9 Z,rfl,rfl⟩)
  ·have he:err1=0:=m5.1 h1;subst he;rw[nc h1];refine(Zce∘ZE∘ZbP∘Zy) ?_;refine qe (yh L 900 (GRd rb sv ⟨at_,bad,0⟩) (.bool false) (r:=GRd rb sv ⟨at_,bad,0⟩) Z Z Z Z Z (fun u H C2 hH _ hr2 hC2=>ke (ng h0) hH hr2 hC2)) ((Zm∘Zcn∘Zb6) ?_);refine qe (jd L 900 (GRd rb sv ⟨at1,bad1,0⟩) (chv (n).1 (n).2) (r:=GRd rb sv ⟨at_,bad,0⟩) Z Z Z hfn Z hf) ((Zbs∘ZQ∘ZS∘Zb8∘ZM∘ZdC∘Za2) ?_);exact xv L 900 (r:=xc rb _ uz) (rs:=[.cell 4 Nj]) Z (fun _ _ h=>h) nq Z Z (fun _=>⟨_,y9 Z,rfl,rfl⟩)
def zbb{bs:List Nat}(hb:∀ b∈bs,b<=255)(hl:bs.length<=1099511627776)(hat:R.at_<=bs.length)(hB:zth B w)(hs:BsV bs fu sv B)(h1:B b1=some (.cells #[kg rb] S0))(hr:(GRd rb sv R).P B w C)(hC:ZCB C w B):
  RetX zti 284 [kg b1] w B C (GRd rb sv (bG bs R).2) (.bool (bG bs R).1):=by
 unfold RetX;refine xa 900 (GRd rb _ R) Tryz.func284 Z Tryz.ntmps284 (np Z) hB hr hC ?_;rw[xd];unfold bG;generalize hz1:az bs 1 5 R=z1;obtain⟨n,R1⟩:=z1;dsimp only;by_cases h1n:n=1
 ·rw[nf h1n];refine Z4 (h:=?_);refine z7 (qd L (qp Z h1) Z Z Z Z) Z (qe (yh L 900 (GRd rb sv R1) (.int .u64 n) (r:=GRd rb sv R) Z Z Z Z Z (fun u H C2 hH hle hr2 hC2=>by have h:=tw (lim:=1) (e:=5) hb hl hat hH (hs.le hle) hr2 hC2;rw[hz1] at h;exact h)) ?_);refine(ZW∘Zc) ?_;exact xv L 900 (r:=xc rb _ uz) (rs:=[.tmp 1]) Z (fun _ _ h=>h) nq Z Z (fun _=>rfl)
 ·rw[ng h1n];refine Z4 (h:=?_);refine z7 (qd L (qp Z h1) Z Z Z Z) Z (qe (yh L 900 (GRd rb sv R1) (.int .u64 n) (r:=GRd rb sv R) Z Z Z Z Z (fun u H C2 hH hle hr2 hC2=>by have h:=tw (lim:=1) (e:=5) hb hl hat hH (hs.le hle) hr2 hC2;rw[hz1] at h;exact h)) ?_);refine(Zx∘Zc) ?_;exact xv L 900 (r:=xc rb _ uz) (rs:=[.tmp 1]) Z (fun _ _ h=>h) nq Z Z (fun _=>rfl)
def zeq{bs:List Nat}(hb:∀ b∈bs,b<=255)(hl:bs.length<=1099511627776)(hat:R.at_<=bs.length)(hB:zth B w)(hs:BsV bs fu sv B)(hr:(GRd rb sv R).P B w C)(hC:ZCB C w B):
  RetX zti 259 [kg rb] w B C (GRd rb sv (io bs R).2) (.bool (io bs R).1):=by
 unfold RetX;refine xa 900 (GRd rb _ R) Tryz.func259 Z Tryz.ntmps259 (np Z) hB hr hC ?_;rw[xd];refine(Zbu∘Zd) ?_;refine k9 1 901 rfl fun b1=>?_;refine wk 901 rfl fun H1 hs1 _ h1=>?_;have hs':=hs.le hs1.le;generalize hz:io bs R=z;obtain⟨x,R1⟩:=z;dsimp only;refine ZE (h:=?_);refine z7 (qd L (qp Z h1) Z Z Z Z) Z (Za0 (h:=?_));refine qe (yh L 900 (GRd rb sv R1) (.bool x) (r:=GRd rb sv R) Z Z Z Z Z (fun u H C2 hH hle hr2 hC2=>by have h:=Nn (gf:=bG bs) (fst:=[]) (cap:=[kg b1]) Z hH hr2 hC2 (fun _ u3 H3 C3 hH3 hle3 hr3 hC3=>zbb hb hl hat hH3 ((hs'.le hle).le hle3) ((hle.trans hle3) _ _ h1) hr3 hC3);rw[Se] at hz;rw[hz] at h;exact h)) ?_;refine Zc (h:=?_);exact xv L 900 (r:=xc rb _ uz) (rs:=[.tmp 2]) Z (fun _ _ h=>h) hs1 Z Z (fun _=>rfl)
def zem{bs:List Nat}(hb:∀ b∈bs,b<=255)(hl:bs.length<=1099511627776)(hat:R.at_<=bs.length)(hB:zth B w)(hs:BsV bs fu sv B)(h1:B b1=some (.cells #[kg rb] S0))(hr:(GRd rb sv R).P B w C)(hC:ZCB C w B):
  RetX zti 258 [kg b1] w B C (GRd rb sv (Gh (tq bs) (io bs) R).2) (chv ((tq bs R).1) ((io bs (tq bs R).2).1)):=by
 unfold RetX;refine xa 900 (GRd rb _ R) Tryz.func258 Z Tryz.ntmps258 (np Z) hB hr hC ?_;rw[xd];have hat2:=Vi hat;unfold Gh;dsimp only;generalize hz1:tq bs R=z1 at hat2;obtain⟨x,R1⟩:=z1;dsimp only at hat2 |-;generalize hz2:io bs R1=z2;obtain⟨y,R2⟩:=z2;dsimp only;refine(Zce∘Zfc) ?_;refine z8 (qd L (qp Z h1) Z Z Z Z) Z (xq (yh L 900 (GRd rb sv R1) (uv x) (r:=GRd rb sv R) Z Z Z Z Z (fun u H C2 hH hle hr2 hC2=>by have h:=tup_ret hb hl hat hH (hs.le hle) hr2 hC2;rw[hz1] at h;exact h)) Z Z ?_);refine z8 (qd L (qp Z h1) Z Z Z Z) Z (xq (yh L 900 (GRd rb sv R2) (.bool y) (r:=GRd rb sv R1) Z Z Z Z Z (fun u H C2 hH hle hr2 hC2=>by have h:=zeq hb hl hat2 hH (hs.le hle) hr2 hC2;rw[hz2] at h;exact h)) Z Z ?_);refine(Zez∘ZdQ∘Zb1) ?_;exact xv L 900 (r:=xc rb _ uz) (rs:=[.cell 1 Nj]) Z (fun _ _ h=>h) nq Z Z (fun _=>⟨_,y9 Z,rfl,rfl⟩)
def chg_ret{bs:List Nat}(hb:∀ b∈bs,b<=255)(hl:bs.length<=1099511627776)(hat:R.at_<=bs.length)(hB:zth B w)(hs:BsV bs fu sv B)(hr:(GRd rb sv R).P B w C)(hC:ZCB C w B):
  RetX zti 210 [kg rb] w B C (GRd rb sv (db bs R).2) (chv ((db bs R).1).1 ((db bs R).1).2):=by
 unfold RetX;refine xa 900 (GRd rb _ R) Tryz.func210 Z Tryz.ntmps210 (np Z) hB hr hC ?_;rw[xd];refine(Zbu∘Zca) ?_;refine k9 1 901 rfl fun b1=>?_;refine wk 901 rfl fun H1 hs1 _ h1=>?_;have hs':=hs.le hs1.le;generalize hz:db bs R=z;obtain⟨⟨⟨⟨⟨x,y⟩,y2⟩,⟨⟨x3,y3⟩,y4⟩⟩,y5⟩,R1⟩:=z;dsimp only;refine ZE (h:=?_);refine z7 (qd L (qp Z h1) Z Z Z Z) Z (Za0 (h:=?_));refine qe (yh L 900 (GRd rb sv R1) (chv (((((x,y),y2),((x3,y3),y4)),y5)).1 (((((x,y),y2),((x3,y3),y4)),y5)).2) (r:=GRd rb sv R) Z Z Z Z Z (fun u H C2 hH hle hr2 hC2=>by have h:=Sy (gf:=Gh (tq bs) (io bs)) (fst:=[]) (cap:=[kg b1]) Z hH hr2 hC2 (fun _ u3 H3 C3 hH3 hle3 hr3 hC3=>zem hb hl hat hH3 ((hs'.le hle).le hle3) ((hle.trans hle3) _ _ h1) hr3 hC3);unfold db at hz;rw[hz] at h;exact h)) ?_;refine Za2 (h:=?_);exact xv L 900 (r:=xc rb _ uz) (rs:=[.cell 2 Nj]) Z (fun _ _ h=>h) hs1 Z Z (fun _=>⟨_,y9 Z,rfl,rfl⟩)
end Go.V.L4
namespace Go.V.L11
open Go.V.L2 Go.V.L3 Go.V.L4 Go.V.L6 Go.V.L8
def zbs(la:Option U)(t:U):Bool:=match la with
 | none=>true
 | some y=>decide (ku y t<0)
def Fw(bs:List Nat)(l:List U):Nat->Option U->List CH->List CH->Rd->((List CH×List CH)×Rd)×(Int×Int)
 | 0,_,a,d,R=>(((a,d),R),(0,0))
 | k+1,la,a,d,R=>
  if (db bs R).2.err≠0 then (((a,d),R),(((db bs R).2.bad:Int),(db bs R).2.err))
  else if tE (db bs R).1.1≠0 then (((a,d),R),((R.at_:Int),6))
  else if zbs la (db bs R).1.1=false then (((a,d),R),((R.at_:Int),18))
  else if decide ((db bs R).1.1∈l)≠(db bs R).1.2 then (((a,d),R),((R.at_:Int),5))
  else Fw bs l k (some (db bs R).1.1) (if (db bs R).1.2=true then a else a++[(db bs R).1]) (if (db bs R).1.2=true then d++[(db bs R).1] else d) (db bs R).2
def tu(l:List U)(cs:List CH):List U:=cs.foldl (fun l c=>(wo l c.1 c.2).1) l
def Bc(bs:List Nat)(l:List U)(R:Rd):(List U×Rd)×(Int×Int):=
 if (wj bs 8192 R).2.err≠0 then ((l,R),(((wj bs 8192 R).2.bad:Int),(wj bs 8192 R).2.err))
 else if (Fw bs l (wj bs 8192 R).1.toNat none [] [] (wj bs 8192 R).2).2.2≠0 then ((l,R),(Fw bs l (wj bs 8192 R).1.toNat none [] [] (wj bs 8192 R).2).2)
 else if l.length+(Fw bs l (wj bs 8192 R).1.toNat none [] [] (wj bs 8192 R).2).1.1.1.length>4096+(Fw bs l (wj bs 8192 R).1.toNat none [] [] (wj bs 8192 R).2).1.1.2.length then ((l,R),((R.at_:Int),3))
 else ((tu l ((Fw bs l (wj bs 8192 R).1.toNat none [] [] (wj bs 8192 R).2).1.1.2++(Fw bs l (wj bs 8192 R).1.toNat none [] [] (wj bs 8192 R).2).1.1.1),(Fw bs l (wj bs 8192 R).1.toNat none [] [] (wj bs 8192 R).2).1.2),(0,0))
def Kc:∀ (cs:List CH) {l:List U},l.length<=4096->(tu l cs).length<=4096
 | [],_,h=>h
 | c::cs,l,h=>Kc cs (B7 h c.1 c.2)
def zbd(l:List U)(h:cs[i]?=some c):tu l (cs.take (i+1))=(wo (tu l (cs.take i)) c.1 c.2).1:=by
 unfold tu;rw[zpj,h,List.foldl_append];rfl
def Po:TZ (db bs R).1.1:=by
 unfold db;exact Kr (fun c:CH=>TZ c.1) E (by unfold Gh;exact zgm)
attribute [local irreducible] XP Pan
def jm{R2:Rd}{x:CH}(hfn:L.fn fr=some ())(he:R2.err=0){C:Nat->Prop}(hB:zth B w)(hr:(xw sb rb sv fr0 R).P B w C)(hC:ZCB C w B)(hf:∀ (u:World) (H:Heap) (C:Nat->Prop),zth H u->B.Le H->(xw sb rb sv R.at_ R).P H u C->(ZCB C u H)->RetX zti fr (fst++cap) u H C (xw sb rb sv R.at_ R2) (chv x.1 x.2)):
  RetX zti 209 [kg sb,.func (.func fr) fst.toArray cap.toArray] w B C (xw sb rb sv R.at_ R2) (chv x.1 x.2):=by
 unfold RetX;obtain⟨⟨⟨⟨x1,x2⟩,x3⟩,⟨⟨x4,x5⟩,x6⟩⟩,x7⟩:=x;refine xa 900 (xw sb rb sv fr0 R) Tryz.func209 Z Tryz.ntmps209 (np Z) hB hr hC ?_;rw[w8,xd,xd];refine Zd9 (h:=?_);refine(Zce∘ZE∘Zb4) ?_;refine qe (yh L 901 (GRd rb sv R) (.int .i64 R.at_) (r:=GRd rb sv R) Z Z Z Z Z (fun u H C2 hH _ hr2 hC2=>L4.at_ret hH hr2 hC2)) (Zap (h:=?_));refine xl (yo L (q:=900) (cs':=[kg rb,.int .i64 R.at_]) Z Z Z Z Z) (Zi (h:=?_));refine wa 900 901 rfl Z (xf (GRd rb sv R)) ?_;refine Zy (h:=?_);refine qe (jd L 900 (xw sb rb sv R.at_ R2) (chv (((x1,x2),x3),((x4,x5),x6)) x7) (r:=xw sb rb sv R.at_ R) Z Z Z hfn Z hf) (Zbs (h:=?_));refine v8 (r1:=(xc sb [kg rb,.int .i64 R.at_] Qc).res) (r2:=(GRd rb sv R2).res) 900 901 rfl (xf (GRd rb sv R2)) ?_;rw[xd];refine(ZA∘ZS) ?_;refine qe (yh L 901 (GRd rb sv R2) (.tuple #[.int .i64 R2.bad,.int .i64 R2.err]) (r:=GRd rb sv R2) Z Z Z Z Z (fun u H C2 hH _ hr2 hC2=>L4.fault_ret hH hr2 hC2)) ((ZbB∘Z0∘Zb8∘Zs∘ZdC∘Za2) ?_);refine wa 900 901 rfl Z (xf (GRd rb sv R2)) ?_;exact xv L 900 (r:=xw sb rb sv R.at_ R2) (rs:=[.cell 4 Nj]) Z (fun _ _ h=>h) nq Z Z (fun _=>⟨_,y9 Z,rfl,rfl⟩)
def Od{R2:Rd}{x:CH}(hfn:L.fn fr=some ())(he:R2.err≠0){C:Nat->Prop}(hB:zth B w)(hr:(xw sb rb sv fr0 R).P B w C)(hC:ZCB C w B)(hf:∀ (u:World) (H:Heap) (C:Nat->Prop),zth H u->B.Le H->(xw sb rb sv R.at_ R).P H u C->(ZCB C u H)->RetX zti fr (fst++cap) u H C (xw sb rb sv R.at_ R2) (chv x.1 x.2)):
  Pan zti 209 [kg sb,.func (.func fr) fst.toArray cap.toArray] w B C (wrV R2.bad R2.err):=by
 obtain⟨⟨⟨⟨x1,x2⟩,x3⟩,⟨⟨x4,x5⟩,x6⟩⟩,x7⟩:=x;refine f0 900 (xw sb rb sv fr0 R) Tryz.func209 Z Tryz.ntmps209 (np Z) hB hr hC ?_;rw[w8,xd,xd];refine Zd9 (h:=?_);refine(Zce∘ZE∘Zb4) ?_;refine qe (yh L 901 (GRd rb sv R) (.int .i64 R.at_) (r:=GRd rb sv R) Z Z Z Z Z (fun u H C2 hH _ hr2 hC2=>L4.at_ret hH hr2 hC2)) (Zap (h:=?_));refine xl (yo L (q:=900) (cs':=[kg rb,.int .i64 R.at_]) Z Z Z Z Z) (Zi (h:=?_));refine wa 900 901 rfl Z (xf (GRd rb sv R)) ?_;refine Zy (h:=?_);refine qe (jd L 900 (xw sb rb sv R.at_ R2) (chv (((x1,x2),x3),((x4,x5),x6)) x7) (r:=xw sb rb sv R.at_ R) Z Z Z hfn Z hf) (Zbs (h:=?_));refine v8 (r1:=(xc sb [kg rb,.int .i64 R.at_] Qc).res) (r2:=(GRd rb sv R2).res) 900 901 rfl (xf (GRd rb sv R2)) ?_;rw[xd];refine(ZA∘ZS) ?_;refine qe (yh L 901 (GRd rb sv R2) (.tuple #[.int .i64 R2.bad,.int .i64 R2.err]) (r:=GRd rb sv R2) Z Z Z Z Z (fun u H C2 hH _ hr2 hC2=>L4.fault_ret hH hr2 hC2)) ((ZbB∘Z0∘ZcN∘Zw) ?_);refine jt (id:=5) 4 rfl ((Zb∘ZeE∘ZeD∘Zac) ?_);refine Dl (K:=4) Z Z Z ?_
 repeat (first | refine wd ?_ | refine jl ?_)
 exact dc nq
def rp(l:List U):List Nat:=vq l.length++l.flatMap tupB
def Ae:∀ (n:Nat),∀ b∈vq n,b<=255:=fun n=>by
 induction n using Nat.strongRecOn with
 | ind n ih=>
  intro b hb;by_cases h:n<128
  ·rw[cq h,m4] at hb;omega
  ·rw[G9 h] at hb;rcases ma.1 hb with rfl | hb
   ·omega
   ·exact ih (n/128) T b hb
def zb9{t:U}(h:∀ s∈u6 t,s.size<=1000):(tupB t).length<=6060:=cy h
def ru{l:List U}(h:∀ t∈l,∀ s∈u6 t,s.size<=1000):∀ i,((l.take i).flatMap tupB).length<=i*6060
 | 0=>by rw[zpv];exact nu _
 | i+1=>by
  have h1:=ru h i;rw[zpj,zpl,nr]
  cases ht:l[i]? with
  | none=>
   have e:(none.toList:List U).flatMap tupB=[]:=rfl;rw[e,mz];omega
  | some t=>
   have h2:=zb9 (h t (zpa ht));have e:((some t).toList:List U).flatMap tupB=tupB t:=by simp
   rw[e];omega
def Er{t:U}(h:l[i]?=some t):(l.take (i+1)).flatMap tupB=(l.take i).flatMap tupB++tupB t:=by
 rw[zpj,h,zpl];simp
attribute [local irreducible] LV ed
def Li{l:List U}(hl:l.length<=100000)(ht:∀ t∈l,∀ s∈u6 t,s.size<=1000)(hB:zth B w)(hv:SetV l v B):Ret zti 8 [v] w B (BsV (rp l) true):=by
 have h128:(128:Nat)^10=1180591620717411303424:=E;have hnl:=aj 9 l.length T;have hcv:IntKind.u64.wrap (l.length:Int)=(l.length:Int):=wrap_u64 T T;obtain⟨f,p,k,q,rfl,hpl⟩:=hv.shape;refine yn Tryz.func8 Z Tryz.ntmps8 (np Z) hB ((Zu∘Zag∘Zca) ?_);refine k9 3 900 rfl fun wb=>?_;refine Ec 901 Qd 1 (Ze6 (h:=?_));refine ay (X:=Value) 900 (r:=fun sv=>(GWv wb [] sv).res) (φ:=fun sv _=>Nh sv) g7 (.slice none 0 0) ⟨_,_,_,rfl⟩ Z ((Z9∘Zd2) ?_);refine z71 L Z (fun u H hH hle=>gn Z hH (hv.le hle)) ?_;refine z7 (ko Z Z Z cj.1 cj.2 (wrap_u64 T T)) Z (qe (yx L 900 (GWr wb (vq l.length)) (r:=GWr wb []) Z Z Z Z Z (fun u H C hH _ hr hC=>vg (bs:=[]) T E hH hr hC)) ((Zan∘ZK∘Zd2) ?_));refine z7 (xg (φ:=US l true) L Z Z (zm Z) Z Z Z ns (fun u H hH hle _=>c7 hl hH (hv.le hle))) Z ((Zcv∘ZaW) ?_);refine xm (fun i:Nat=>[(12,.is (.int .i64 l.length)),(13,.is (.int .i64 i)),(11,.sat (US l true)),(3,.is (kg wb)),(900,.own (GWr wb (vq l.length++(l.take i).flatMap tupB)).res)]) (fun i=>i<=l.length) (fun i=>l.length-i) 0 (mc _) ⟨Z,Z,Z,Z,by rw[zpv,zss,mo];rfl,nm⟩ ?_;rintro i hi;have hsz:=ru ht i;have hz0:(vq l.length++(l.take i).flatMap tupB).length+16000<=1099511627776:=by rw[nr];omega
 by_cases hlt:i<l.length
 ·obtain⟨t,hg⟩:=xk hlt;have hcr:=f9 hg;have htt:=ht t (zpa hg);have hsn:=Er hg;refine(Zci∘Zt∘Zau∘Za1∘Zaw∘ZF∘Zs∘Zay) ?_;refine qe (yx L 900 (GWr wb (vq l.length++(l.take i).flatMap tupB++tupB t)) (r:=GWr wb (vq l.length++(l.take i).flatMap tupB)) Z Z Z Z Z (fun u H C hH _ hr hC=>Gb htt hz0 hH hr hC)) ((Zax∘ZC∘ZX) ?_);exact ym (x:=i) (i+1) hlt T ⟨Z,Z,Z,Z,by rw[hsn,<-mn];rfl,nm⟩
 ·obtain rfl:i=l.length:=by omega
  rw[m9] at hz0 |-;have hz1:(vq l.length++l.flatMap tupB).length<=1099511627776:=T;refine(ZcI∘Zav∘Zv) ?_;refine qe (ey L 900 GNo (BsV (rp l) true) (r:=GWr wb (rp l)) Z Z Z Z Z ns (fun u H C hH _ hr hC=>Ak (tx hz1 hH hr hC))) (Zcp (h:=?_));exact yj L (rs:=[.tmp 2]) Z (fun _ _ h=>h) nq (fun _ H _ _ v hv=>hv)
end Go.V.L11
end
namespace Go.V.L11
open Go.V.L2 Go.V.L3 Go.V.L4 Go.V.L6 Go.V.L8 Go.V.L10
def _root_.ZdX(t:Wr Y->A:=by intro h;refine qo (id:=11) [(56,[900])] ki J ?_;exact h.1)(h:Y):A:=t ⟨h⟩
def _root_.Zbq(t:Wr Y->A:=by exact fun h=>(Zz∘ZfB) h.1)(h:Y):A:=t ⟨h⟩
def zfj{bs:List Nat}{fr:Int}(hb:∀ b∈bs,b<=255)(hl:bs.length<=1099511627776)(hat:R.at_<=bs.length)(hB:zth B w)(hs:BsV bs fu sv B)(hr:(xw sb rb sv fr R).P B w C)(hC:ZCB C w B):
  RetX zti 210 [kg rb] w B C (xw sb rb sv fr (db bs R).2) (chv (db bs R).1.1 (db bs R).1.2):=
 RetL.mono (RetY.conv (RetY.frame (Hr hr) hC fun C1 h1 hC1=>(L4.chg_ret hb hl hat hB hs h1 hC1).toY) fun _ _ _ h=>Hr h:RetY _ _ _ _ _ _ (xw sb rb sv fr (db bs R).2) fun x _=>x=chv (db bs R).1.1 (db bs R).1.2) fun _ _ _ _ h=>h
def zlg:Option U->List Value
 | none=>[.string sZ,.string sZ,.string sZ,.string sZ,.string sZ,.string sZ]
 | some t=>[.string t.1.1.1,.string t.1.1.2,.string t.1.2,.string t.2.1.1,.string t.2.1.2,.string t.2.2]
structure ChJ(bs:List Nat)(l:List U)(n:Nat)(Y:((List CH×List CH)×Rd)×(Int×Int))(i:Nat)(la:Option U)(a d:List CH)(R:Rd):Prop where
 hi:i<=n
 hW:Fw bs l (n-i) la a d R=Y
 h0:R.err=0
 at_:R.at_<=bs.length
 first:la=none↔i=0
 len:a.length+d.length=i
 za:∀ c∈a,TZ c.1
 zd:∀ c∈d,TZ c.1
def ChJ.step{n:Nat}{Y:((List CH×List CH)×Rd)×(Int×Int)}{i:Nat}{la:Option U}{a d:List CH}(h:ChJ bs l n Y i la a d R)(hi:i<n)(hY:Y.2.2=0):
  (db bs R).2.err=0/\tE (db bs R).1.1=0/\zbs la (db bs R).1.1=true/\decide ((db bs R).1.1∈l)=(db bs R).1.2/\
  ChJ bs l n Y (i+1) (some (db bs R).1.1) (if (db bs R).1.2=true then a else a++[(db bs R).1]) (if (db bs R).1.2=true then d++[(db bs R).1] else d) (db bs R).2:=by
 obtain⟨m,hm⟩:∃ m,n-i=m+1:=⟨n-i-1,by omega⟩
 have hW:=h.hW;rw[hm] at hW;unfold Fw at hW;have htz:=Po (bs:=bs) (R:=R);have hta:=Pp (bs:=bs) (R:=R) h.at_;generalize db bs R=ztb at hW htz hta |-;obtain⟨⟨t,k⟩,R2⟩:=ztb;dsimp only at hW htz hta |-;by_cases h2:R2.err≠0
 ·rw[na h2] at hW;subst hW;exact ni hY h2
 ·rw[nc h2] at hW;by_cases he:tE t≠0
  ·rw[na he] at hW;subst hW;exact ni hY (show(6:Int)≠0 by decide)
  ·rw[nc he] at hW;by_cases hbh:zbs la t=false
   ·rw[na hbh] at hW;subst hW;exact ni hY (show(18:Int)≠0 by decide)
   ·rw[nc hbh] at hW;by_cases hm2:decide (t∈l)≠k
    ·rw[na hm2] at hW;subst hW;exact ni hY (show(5:Int)≠0 by decide)
    ·rw[nc hm2] at hW;refine⟨m5.1 h2,m5.1 he,by cases hq:zbs la t<;>simp_all,m5.1 hm2,⟨hi,by rw[show n-(i+1)=m by omega];exact hW,m5.1 h2,hta,⟨fun h=>by(cases h),fun h=>by(cases h)⟩,?_,?_,?_⟩⟩
     ·have:=h.len;cases k
      ·rw[nc E,nc E,nr,zqf];omega
      ·rw[na rfl,na rfl,nr,zqf];omega
     ·intro c hc;cases k
      ·rw[nc E] at hc;rcases mh.1 hc with h3 | h3
       ·exact h.za c h3
       ·rw[m4] at h3;subst h3;exact htz
      ·rw[na rfl] at hc;exact h.za c hc
     ·intro c hc;cases k
      ·rw[nc E] at hc;exact h.zd c hc
      ·rw[na rfl] at hc;rcases mh.1 hc with h3 | h3
       ·exact h.zd c h3
       ·rw[m4] at h3;subst h3;exact htz
attribute [local irreducible] V N X VO Par XP LV StepOK Has Ret RetL RetO RetT kx RetX RetY Pan ed Src
def Pq{sb rb:Nat}{sv:Value}{bs:List Nat}(hl0:l.length<=4096)(hb:∀ b∈bs,b<=255)(hl:bs.length<=1099511627776)(hat:R.at_<=bs.length)(he:(Bc bs l R).2.2=0){v:Value}(hB:zth B w)(hs:BsV bs fu sv B)(hv:SetV l v B)(hr:(xw sb rb sv fr0 R).P B w C)(hC:ZCB C w B):
  RetY zti 153 [kg sb,v] w B C (xw sb rb sv R.at_ (Bc bs l R).1.2) (SetV (Bc bs l R).1.1):=by
 have ha1:=o9 (bs:=bs) (lim:=8192) hat;have hlv:=fun h=>i8 (bs:=bs) (lim:=8192) (R:=R) E h;have hsz:=fun(h:(wj bs 8192 R).2.err=0) {w:World} {B:Heap} {C:Nat->Prop} (hB:zth B w) (hs:BsV bs fu sv B) (hr:(xw sb rb sv fr0 R).P B w C) (hC:ZCB C w B)=>size_ret (lim:=8192) hb hl hat T h hB hs hr hC;unfold Bc at he |-;obtain⟨z,R1,hz1⟩:∃ z R1,wj bs 8192 R=(z,R1):=⟨_,_,rfl⟩
 rw[hz1] at he ha1 hlv hsz |-;dsimp only at he ha1 hlv hsz |-;by_cases h1:R1.err≠0
 ·rw[na h1] at he;exact ni he h1
 ·rw[nc h1] at he |-;have h10:=m5.1 h1;obtain⟨n,rfl,hn⟩:=hlv h10;rw[zpu] at he |-;obtain⟨Y,hY⟩:∃ Y,Fw bs l n none [] [] R1=Y:=⟨_,rfl⟩
  rw[hY] at he |-;by_cases h2:Y.2.2≠0
  ·rw[na h2] at he;exact ni he h2
  ·rw[nc h2] at he |-;have h20:=m5.1 h2;by_cases h3:l.length+Y.1.1.1.length>4096+Y.1.1.2.length
   ·rw[na h3] at he;exact ni he (show(3:Int)≠0 by decide)
   ·rw[nc h3];dsimp only;obtain⟨f1,p1,k1,q1,rfl,hp1⟩:=hv.shape;have hj0:ChJ bs l n Y 0 none [] [] R1:=⟨mc _,hY,h10,ha1,⟨fun _=>rfl,fun _=>rfl⟩,rfl,(fun _ h=>by cases h),(fun _ h=>by cases h)⟩
    unfold RetY;refine xa 900 (xw sb rb sv fr0 R) Tryz.func153 Z Tryz.ntmps153 (np Z) hB hr hC ((Zbu∘Zca∘ZE∘ZaS∘Z9∘Zca∘ZA) ?_);refine qe (yh L 900 (xw sb rb sv R.at_ R1) (.int .i64 n) (r:=xw sb rb sv fr0 R) Z Z Z Z Z (fun u H C2 hH hle hr2 hC2=>hsz h10 hH (hs.le hle) hr2 hC2)) (Zd (h:=?_));refine v8 (r1:=xp sb [kg rb,.int .i64 R.at_] Qc) (r2:=(GRd rb sv R1).res) 900 901 rfl (xf _) ?_;refine(Zcn∘Zj∘Zt∘Zb∘Zdl) ?_;refine wa 900 901 rfl Z (xf (GRd rb sv R1)) ?_;refine ui 5 Nj 7 rfl (ui 6 Nj 7 rfl ?_)
    refine xm (fun x:Nat×Option U×List CH×List CH×Rd×Nat=>[(0,.is (kg sb)),(3,.own (Cell [f1,.pointer p1,k1,.pointer q1] tySt)),(4,.own (Cell [.nilFunc,.pointer none,.nilFunc,.pointer none] tySt)),(5,.own (SlR Nj 7 x.2.2.1.length (x.2.2.1.flatMap ccs))),(6,.own (SlR Nj 7 x.2.2.2.1.length (x.2.2.2.1.flatMap ccs))),(7,.own (Cell (zlg x.2.1) tyU)),(9,.is (.int .i64 R.at_)),(20,.is (.int .i64 n)),(21,.is (.int .i64 x.1)),(900,.own (xw sb rb sv x.2.2.2.2.2 x.2.2.2.2.1).res)])
     (fun x=>ChJ bs l n Y x.1 x.2.1 x.2.2.1 x.2.2.2.1 x.2.2.2.2.1) (fun x=>n-x.1) (0,none,[],[],R1,R.at_) hj0 ⟨rfl,rfl,rfl,rfl,rfl,rfl,rfl,rfl,rfl,rfl,nm⟩ ?_
    rintro⟨i,la,a,d,R',fr⟩ hj;dsimp only at hj |-;by_cases hlt:i<n
    ·obtain⟨g1,g2,g3,g4,hj2⟩:=hj.step hlt h20;have htz:=Po (bs:=bs) (R:=R');have hRa:=hj.at_;have hfst:=hj.first;have hlen:=hj.len;have hsrc:=fun {w:World} {B:Heap} {C:Nat->Prop} (hB:zth B w) (hs:BsV bs fu sv B) (hr:(xw sb rb sv R'.at_ R').P B w C) (hC:ZCB C w B)=>zfj hb hl hRa hB hs hr hC;generalize db bs R'=ztb at g1 g2 g3 g4 hj2 htz hsrc;obtain⟨⟨t,k⟩,R2⟩:=ztb;dsimp only at g1 g2 g3 g4 hj2 htz hsrc;have hsn:∀ x:List CH,(x++[(t,k)]).length=x.length+1:=fun x=>by simp
     refine v8 (r1:=xp sb [kg rb,.int .i64 fr] Qc) (r2:=(GRd rb sv R').res) 900 901 rfl (xf _) ?_
     cases k with
     | true=>
      cases la with
      | none=>
       have hi0:i=0:=hfst.1 rfl;refine(Zbn∘Z6∘Z8∘Zd∘Zv∘Zb4) ?_;refine jo 900 901 rfl Z (xf (GRd rb sv R')) ?_;refine Za0 (h:=?_);refine qe (yh L 900 (xw sb rb sv R'.at_ R2) (chv t true) (r:=xw sb rb sv fr R') Z Z Z Z Z (fun u H C hH hle hr hC=>jm (x:=(t,true)) (fst:=[kg rb]) (cap:=[]) Z g1 hH hr hC (fun u3 H3 C3 hH3 hle3 hr3 hC3=>hsrc hH3 ((hs.le hle).le hle3) hr3 hC3))) (Zah (h:=?_));refine k9 11 913 rfl fun b11=>?_;refine wk 913 rfl fun H1 hs1 _ h11=>?_;have hv1:=hv.le hs1.le;refine(Zal∘Zbq) ?_;refine z71 L Z (fun u H hH _=>ky htz hH) ?_;refine ZW (h:=?_);refine qe (yx L 900 (xw sb rb sv R'.at_ R2) (r:=xw sb rb sv R'.at_ R2) Z Z Z Z Z (fun u H C hH _ hr hC=>kj hH hr hC)) ((Zi∘ZI∘Zb∘ZW∘Zaz∘ZaF) ?_);refine qe (yx L 900 (xw sb rb sv R'.at_ R2) (r:=xw sb rb sv R'.at_ R2) Z Z Z Z Z (fun u H C hH _ hr hC=>kj hH hr hC)) ((Zi∘ZdX∘Zl∘Zcu∘Zcs) ?_);refine z81 L Z (fun u H hH hle=>jf g4 hH (hv1.le hle)) ?_;refine(ZbY∘Z5∘Zdj) ?_;refine xq (yx L 900 (xw sb rb sv R'.at_ R2) (r:=xw sb rb sv R'.at_ R2) Z Z Z Z Z (fun u H C hH _ hr hC=>kj hH hr hC)) Z Z ((ZaZ∘Zaa∘Zbq∘Zbd∘Zi∘Zak∘Zz∘ZcB∘Zw∘Za5) ?_);refine qe (yr (.inl Z) Z) ((ZdG∘ZV∘Zdi) ?_);refine qe (yr (.inr Z) Z) ((Zax∘Zar∘ZX) ?_);exact jk (x:=(i,none,a,d,R',fr)) (i+1,some t,a,d++[(t,true)],R2,R'.at_) hs1 hj2 G ⟨Z,Z,Z,Z,ft Z,Z,Z,Z,Z,Z,nm⟩
      | some y=>
       have hi0:i≠0:=fun h=>by have:=hfst.2 h;cases this
       refine(Zbn∘Z6∘Z8∘Zd∘Zv∘Zb4) ?_;refine jo 900 901 rfl Z (xf (GRd rb sv R')) ?_;refine Za0 (h:=?_);refine qe (yh L 900 (xw sb rb sv R'.at_ R2) (chv t true) (r:=xw sb rb sv fr R') Z Z Z Z Z (fun u H C hH hle hr hC=>jm (x:=(t,true)) (fst:=[kg rb]) (cap:=[]) Z g1 hH hr hC (fun u3 H3 C3 hH3 hle3 hr3 hC3=>hsrc hH3 ((hs.le hle).le hle3) hr3 hC3))) (Zah (h:=?_));refine k9 11 913 rfl fun b11=>?_;refine wk 913 rfl fun H1 hs1 _ h11=>?_;have hv1:=hv.le hs1.le;have g3:ku y t<0:=nj g3;refine(Zal∘Zbq) ?_;refine z71 L Z (fun u H hH _=>ky htz hH) ?_;refine ZW (h:=?_);refine qe (yx L 900 (xw sb rb sv R'.at_ R2) (r:=xw sb rb sv R'.at_ R2) Z Z Z Z Z (fun u H C hH _ hr hC=>kj hH hr hC)) ((Zi∘ZI∘Zb∘Zx∘Za∘Zay∘Zbq) ?_);refine z71 L Z (fun u H hH _=>ju (a:=y) (b:=t) hH) ?_;refine(ZN∘Zh) ?_;refine qe (yx L 900 (xw sb rb sv R'.at_ R2) (r:=xw sb rb sv R'.at_ R2) Z Z Z Z Z (fun u H C hH _ hr hC=>kj hH hr hC)) ((Zi∘ZdX∘Zl∘Zcu∘Zcs) ?_);refine z81 L Z (fun u H hH hle=>jf g4 hH (hv1.le hle)) ?_;refine(ZbY∘Z5∘Zdj) ?_;refine xq (yx L 900 (xw sb rb sv R'.at_ R2) (r:=xw sb rb sv R'.at_ R2) Z Z Z Z Z (fun u H C hH _ hr hC=>kj hH hr hC)) Z Z ((ZaZ∘Zaa∘Zbq∘Zbd∘Zi∘Zak∘Zz∘ZcB∘Zw∘Za5) ?_);refine qe (yr (.inl Z) Z) ((ZdG∘ZV∘Zdi) ?_);refine qe (yr (.inr Z) Z) ((Zax∘Zar∘ZX) ?_);exact jk (x:=(i,some y,a,d,R',fr)) (i+1,some t,a,d++[(t,true)],R2,R'.at_) hs1 hj2 G ⟨Z,Z,Z,Z,ft Z,Z,Z,Z,Z,Z,nm⟩
     | false=>
      cases la with
      | none=>
       have hi0:i=0:=hfst.1 rfl;refine(Zbn∘Z6∘Z8∘Zd∘Zv∘Zb4) ?_;refine jo 900 901 rfl Z (xf (GRd rb sv R')) ?_;refine Za0 (h:=?_);refine qe (yh L 900 (xw sb rb sv R'.at_ R2) (chv t false) (r:=xw sb rb sv fr R') Z Z Z Z Z (fun u H C hH hle hr hC=>jm (x:=(t,false)) (fst:=[kg rb]) (cap:=[]) Z g1 hH hr hC (fun u3 H3 C3 hH3 hle3 hr3 hC3=>hsrc hH3 ((hs.le hle).le hle3) hr3 hC3))) (Zah (h:=?_));refine k9 11 913 rfl fun b11=>?_;refine wk 913 rfl fun H1 hs1 _ h11=>?_;have hv1:=hv.le hs1.le;refine(Zal∘Zbq) ?_;refine z71 L Z (fun u H hH _=>ky htz hH) ?_;refine ZW (h:=?_);refine qe (yx L 900 (xw sb rb sv R'.at_ R2) (r:=xw sb rb sv R'.at_ R2) Z Z Z Z Z (fun u H C hH _ hr hC=>kj hH hr hC)) ((Zi∘ZI∘Zb∘ZW∘Zaz∘ZaF) ?_);refine qe (yx L 900 (xw sb rb sv R'.at_ R2) (r:=xw sb rb sv R'.at_ R2) Z Z Z Z Z (fun u H C hH _ hr hC=>kj hH hr hC)) ((Zi∘ZdX∘Zl∘Zcu∘Zcs) ?_);refine z81 L Z (fun u H hH hle=>jf g4 hH (hv1.le hle)) ?_;refine(ZbY∘Z5∘Zdj) ?_;refine xq (yx L 900 (xw sb rb sv R'.at_ R2) (r:=xw sb rb sv R'.at_ R2) Z Z Z Z Z (fun u H C hH _ hr hC=>kj hH hr hC)) Z Z ((ZaZ∘Zaa∘Zbq∘Zbd∘Zi∘Zak∘Zz∘ZcB∘ZaL∘Zao) ?_);refine qe (yr (.inl Z) Z) ((ZdG∘ZV∘Zdi) ?_);refine qe (yr (.inr Z) Z) ((Zax∘Zar∘ZX) ?_);exact jk (x:=(i,none,a,d,R',fr)) (i+1,some t,a++[(t,false)],d,R2,R'.at_) hs1 hj2 G ⟨Z,Z,Z,ft Z,Z,Z,Z,Z,Z,Z,nm⟩
      | some y=>
       have hi0:i≠0:=fun h=>by have:=hfst.2 h;cases this
       refine(Zbn∘Z6∘Z8∘Zd∘Zv∘Zb4) ?_;refine jo 900 901 rfl Z (xf (GRd rb sv R')) ?_;refine Za0 (h:=?_);refine qe (yh L 900 (xw sb rb sv R'.at_ R2) (chv t false) (r:=xw sb rb sv fr R') Z Z Z Z Z (fun u H C hH hle hr hC=>jm (x:=(t,false)) (fst:=[kg rb]) (cap:=[]) Z g1 hH hr hC (fun u3 H3 C3 hH3 hle3 hr3 hC3=>hsrc hH3 ((hs.le hle).le hle3) hr3 hC3))) (Zah (h:=?_));refine k9 11 913 rfl fun b11=>?_;refine wk 913 rfl fun H1 hs1 _ h11=>?_;have hv1:=hv.le hs1.le;have g3:ku y t<0:=nj g3;refine(Zal∘Zbq) ?_;refine z71 L Z (fun u H hH _=>ky htz hH) ?_;refine ZW (h:=?_);refine qe (yx L 900 (xw sb rb sv R'.at_ R2) (r:=xw sb rb sv R'.at_ R2) Z Z Z Z Z (fun u H C hH _ hr hC=>kj hH hr hC)) ((Zi∘ZI∘Zb∘Zx∘Za∘Zay∘Zbq) ?_);refine z71 L Z (fun u H hH _=>ju (a:=y) (b:=t) hH) ?_;refine(ZN∘Zh) ?_;refine qe (yx L 900 (xw sb rb sv R'.at_ R2) (r:=xw sb rb sv R'.at_ R2) Z Z Z Z Z (fun u H C hH _ hr hC=>kj hH hr hC)) ((Zi∘ZdX∘Zl∘Zcu∘Zcs) ?_);refine z81 L Z (fun u H hH hle=>jf g4 hH (hv1.le hle)) ?_;refine(ZbY∘Z5∘Zdj) ?_;refine xq (yx L 900 (xw sb rb sv R'.at_ R2) (r:=xw sb rb sv R'.at_ R2) Z Z Z Z Z (fun u H C hH _ hr hC=>kj hH hr hC)) Z Z ((ZaZ∘Zaa∘Zbq∘Zbd∘Zi∘Zak∘Zz∘ZcB∘ZaL∘Zao) ?_);refine qe (yr (.inl Z) Z) ((ZdG∘ZV∘Zdi) ?_);refine qe (yr (.inr Z) Z) ((Zax∘Zar∘ZX) ?_);exact jk (x:=(i,some y,a,d,R',fr)) (i+1,some t,a++[(t,false)],d,R2,R'.at_) hs1 hj2 G ⟨Z,Z,Z,ft Z,Z,Z,Z,Z,Z,Z,nm⟩
    ·obtain rfl:i=n:=by have:=hj.hi;omega
     have hW:=hj.hW;rw[zql] at hW;have hW2:(((a,d),R'),((0:Int),(0:Int)))=Y:=hW;subst hW2;dsimp only at h3 |-;have hlen:=hj.len;have hza:=hj.za;have hzd:=hj.zd;have hdl:(d++a).length<=8192:=by rw[nr];omega
     have hda:d.length+a.length<=8192:=T;have hpl:=Rx a;have hln:=D4 a
     have hzda:∀ c∈d++a,TZ c.1:=fun c hc=>by
      rcases mh.1 hc with h | h
      ·exact hzd c h
      ·exact hza c h
     refine v8 (r1:=xp sb [kg rb,.int .i64 fr] Qc) (r2:=(GRd rb sv R').res) 900 901 rfl (xf _) ?_;refine uq 5 rfl ?_;refine Bz 6 931 _ Z SlR.shape fun z6 hz6=>?_;obtain⟨p6,c6,rfl⟩:=hz6;refine(Zbn∘Zav∘Zbv∘Zb∘Zap) ?_;refine xl (yo L (q:=900) (cs':=[kg rb,.int .i64 R.at_]) Z Z Z Z Z) ((Zi∘ZaV∘Za∘ZaH) ?_);refine z71 L Z (fun u H hH hle=>gn (l:=l) Z hH (hv.le hle)) ?_;refine(Zg∘ZaI∘Za∘ZcA∘ZcS∘ZcF) ?_;refine jo 900 901 rfl Z (xf (GRd rb sv R')) ?_;refine qe (yx L 900 (xw sb rb sv R.at_ R') (r:=xw sb rb sv R.at_ R') Z Z Z Z Z (fun u H C2 hH _ hr2 hC2=>kj hH hr2 hC2)) (Zan (h:=?_));refine Sm 6 931 rfl Z (Zcz (h:=?_));refine qe (yr (.inl Z) Z) (ZfD (h:=?_));refine B8 87 rfl ((Zcv∘ZaW) ?_);refine ay (X:=SXp) 3 (r:=fun x=>Cell (scs x.1) tySt) (φ:=Eh l) (jb l) ⟨(f1,p1,k1,q1),hp1⟩ hv Z (xm (fun j:Nat=>[(3,.own (ExR (fun x:SXp=>Cell (scs x.1) tySt) (Eh (tu l ((d++a).take j))) (jb _))),(4,.own (Cell [.nilFunc,.pointer none,.nilFunc,.pointer none] tySt)),(87,.sat (KS Nj (d++a) false)),(88,.is (.int .i64 (d++a).length)),(89,.is (.int .i64 j)),(900,.own (xw sb rb sv R.at_ R').res)]) (fun j=>j<=(d++a).length) (fun j=>(d++a).length-j) 0 (mc _) ⟨Z,Z,by show _=some (Kn.sat (SlV Nj 7 ((d++a).flatMap ccs) (d++a).length false));rw[nr,zpl];rfl,by rw[nr];rfl,Z,Z,nm⟩ ?_);rintro j hjl;refine v9 3 rfl fun x H1 hs1 hset=>?_;obtain⟨⟨f,p,f',p'⟩,hpl⟩:=x;dsimp only[scs] at hset hpl |-;by_cases hjt:j<(d++a).length
     ·obtain⟨c,hc⟩:=xk hjt;have hcc:=El hc;have hzc:=hzda c (zpa hc);have hlen4:=Kc ((d++a).take j) hl0;have happ:=zbd l hc;obtain⟨m,e,hme⟩:∃ m e,wo (tu l ((d++a).take j)) c.1 c.2=(m,e):=⟨_,_,rfl⟩
      rw[hme] at happ;have hms:Kn.mono (.sat (SetV m)):=SetV.mono;have hme0:Kn.mono (.sat (fun(v:Value) (_:Heap)=>v=.int .i64 e)):=fun _ _ _ h _=>h;refine(Ze∘Zbe∘Z6∘Zc0∘Zau∘Zdy∘Zaw∘ZF∘ZcY∘ZaH∘ZdC) ?_;refine z7 (xg (φ:=WithE m e) L Z Z (zm Z) Z Z Z WithE.mono (fun u H hH hle _=>(Ax hme hlen4 hzc hH (hset.le hle)).mono fun _ _ _=>Kp)) Z ((Zk∘ZcW∘ZcC) ?_);refine z7 (c8 L (X:=SXp) (fun x=>scs x.1) (Eh m) (jb _) Lh (fun x=>⟨rfl,x.2⟩) Z Z Z Z Z) Z ((Zax∘ZdA∘ZX) ?_);exact jk (x:=j) (j+1) hs1 hjt T ⟨by rw[happ];rfl,Z,Z,Z,Z,Z,nm⟩
     ·obtain rfl:j=(d++a).length:=by omega
      rw[m9] at hset;refine(Ze∘Zbe∘Zav∘Zdv∘ZaH∘Zby∘ZF) ?_;exact uh L 900 (r:=xw sb rb sv R.at_ R') (rs:=[.cell 4 tySt]) Z (fun _ _ h=>h) hs1 Z Z (fun H hle=>iz (y9 Z) Z Z (hset.le hle))
def _root_.ZdY(t:Wr Y->A:=by intro h;refine jv (zo L Z Z Z Z) Z ?_;exact h.1)(h:Y):A:=t ⟨h⟩
def _root_.Zfd(t:Wr Y->A:=by intro h;refine jv (zw L (vs:=[_,_,_,_]) (y9 Z) Z Z Z Z ⟨_,rfl⟩) Z ?_;exact h.1)(h:Y):A:=t ⟨h⟩
def _root_.Zfe(t:Wr Y->A:=by intro h;refine F5 (id:=11) 8 [(56,[900])] ki Z J ?_;exact h.1)(h:Y):A:=t ⟨h⟩
def _root_.Ze0(t:Wr Y->A:=by intro h;refine jv (z9 Z Z Z) Z ?_;exact h.1)(h:Y):A:=t ⟨h⟩
def _root_.Zff(t:Wr Y->A:=by intro h;refine jv (X7 Z Z Z Z bt4 Z) Z ?_;exact h.1)(h:Y):A:=t ⟨h⟩
def Pr{sb rb:Nat}{sv:Value}{bs:List Nat}(hl0:l.length<=4096)(hb:∀ b∈bs,b<=255)(hl:bs.length<=1099511627776)(hat:R.at_<=bs.length)(he:(Bc bs l R).2.2≠0){v:Value}(hB:zth B w)(hs:BsV bs fu sv B)(hv:SetV l v B)(hr:(xw sb rb sv fr0 R).P B w C)(hC:ZCB C w B):
  Pan zti 153 [kg sb,v] w B C (wrV (Bc bs l R).2.1 (Bc bs l R).2.2):=by
 have ha1:=o9 (bs:=bs) (lim:=8192) hat;have hlv:=fun h=>i8 (bs:=bs) (lim:=8192) (R:=R) E h;have hsz:=fun(h:(wj bs 8192 R).2.err=0) {w:World} {B:Heap} {C:Nat->Prop} (hB:zth B w) (hs:BsV bs fu sv B) (hr:(xw sb rb sv fr0 R).P B w C) (hC:ZCB C w B)=>size_ret (lim:=8192) hb hl hat T h hB hs hr hC;have hszp:=fun(h:(wj bs 8192 R).2.err≠0) {w:World} {B:Heap} {C:Nat->Prop} (hB:zth B w) (hs:BsV bs fu sv B) (hr:(xw sb rb sv fr0 R).P B w C) (hC:ZCB C w B)=>Gp (lim:=8192) hb hl hat T h hB hs hr hC;obtain⟨f1,p1,k1,q1,rfl,hp1⟩:=hv.shape;refine f0 900 (xw sb rb sv fr0 R) Tryz.func153 Z Tryz.ntmps153 (np Z) hB hr hC ?_;unfold Bc at he |-;obtain⟨z,R1,hz1⟩:∃ z R1,wj bs 8192 R=(z,R1):=⟨_,_,rfl⟩
 rw[hz1] at he ha1 hlv hsz hszp |-;dsimp only at he ha1 hlv hsz hszp |-;by_cases h1:R1.err≠0
 ·rw[na h1];refine(Zbu∘Zca∘ZE∘ZaS∘Z9∘Zca) ?_;refine jt (id:=3) 1 rfl (Zc1 (h:=?_));refine jq (r:=(xw sb rb sv fr0 R).res) (K:=1) L 900 rfl Z Z Z Z (fun u H C hH hle hr hC=>hszp h1 hH (hs.le hle) hr hC) (fun _ _ _ _ h=>h) ?_
  repeat (first | refine wd ?_ | refine jl ?_)
  exact dc nq
 ·rw[nc h1] at he |-;have h10:=m5.1 h1;obtain⟨n,rfl,hn⟩:=hlv h10;rw[zpu] at he |-;obtain⟨Y,hY⟩:∃ Y,Fw bs l n none [] [] R1=Y:=⟨_,rfl⟩
  rw[hY] at he |-;obtain⟨pa,pe,hW0⟩:∃ pa pe:Int,(if Y.2.2≠0 then ((l,R),Y.2) else if l.length+Y.1.1.1.length>4096+Y.1.1.2.length then ((l,R),((R.at_:Int),(3:Int))) else ((tu l (Y.1.1.2++Y.1.1.1),Y.1.2),((0:Int),(0:Int)))).2=(pa,pe):=⟨_,_,rfl⟩
  rw[hW0] at he |-;dsimp only at he |-;have hj0:ChJ bs l n Y 0 none [] [] R1:=⟨mc _,hY,h10,ha1,⟨fun _=>rfl,fun _=>rfl⟩,rfl,(fun _ h=>by cases h),(fun _ h=>by cases h)⟩
  refine(Zbu∘Zca∘ZE∘ZaS∘Z9∘Zca∘ZA) ?_;refine qe (yh L 900 (xw sb rb sv R.at_ R1) (.int .i64 n) (r:=xw sb rb sv fr0 R) Z Z Z Z Z (fun u H C2 hH hle hr2 hC2=>hsz h10 hH (hs.le hle) hr2 hC2)) (Zd (h:=?_));refine v8 (r1:=xp sb [kg rb,.int .i64 R.at_] Qc) (r2:=(GRd rb sv R1).res) 900 901 rfl (xf _) ?_;refine(Zcn∘Zj∘Zt∘Zb∘Zdl) ?_;refine wa 900 901 rfl Z (xf (GRd rb sv R1)) ?_;refine ui 5 Nj 7 rfl (ui 6 Nj 7 rfl ?_)
  refine xm (fun x:Nat×Option U×List CH×List CH×Rd×Nat=>[(0,.is (kg sb)),(3,.own (Cell [f1,.pointer p1,k1,.pointer q1] tySt)),(4,.own (Cell [.nilFunc,.pointer none,.nilFunc,.pointer none] tySt)),(5,.own (SlR Nj 7 x.2.2.1.length (x.2.2.1.flatMap ccs))),(6,.own (SlR Nj 7 x.2.2.2.1.length (x.2.2.2.1.flatMap ccs))),(7,.own (Cell (zlg x.2.1) tyU)),(9,.is (.int .i64 R.at_)),(20,.is (.int .i64 n)),(21,.is (.int .i64 x.1)),(900,.own (xw sb rb sv x.2.2.2.2.2 x.2.2.2.2.1).res)])
   (fun x=>ChJ bs l n Y x.1 x.2.1 x.2.2.1 x.2.2.2.1 x.2.2.2.2.1) (fun x=>n-x.1) (0,none,[],[],R1,R.at_) hj0 ⟨rfl,rfl,rfl,rfl,rfl,rfl,rfl,rfl,rfl,rfl,nm⟩ ?_
  rintro⟨i,la,a,d,R',fr⟩ hj;dsimp only at hj |-;by_cases hlt:i<n
  ·have hstep:=fun(h:Y.2.2=0)=>hj.step hlt h;obtain⟨m,hm⟩:∃ m,n-i=m+1:=⟨n-i-1,by omega⟩
   have hW:=hj.hW;rw[hm] at hW;unfold Fw at hW;have htz:=Po (bs:=bs) (R:=R');have hta:=Pp (bs:=bs) (R:=R') hj.at_;have hRa:=hj.at_;have hfst:=hj.first;have hlen:=hj.len;have hza:=hj.za;have hzd:=hj.zd;have hsrc:=fun {w:World} {B:Heap} {C:Nat->Prop} (hB:zth B w) (hs:BsV bs fu sv B) (hr:(xw sb rb sv R'.at_ R').P B w C) (hC:ZCB C w B)=>zfj hb hl hRa hB hs hr hC;clear hstep;generalize db bs R'=ztb at hW htz hta hsrc;obtain⟨⟨t,k⟩,R2⟩:=ztb;dsimp only at hW htz hta hsrc;refine v8 (r1:=xp sb [kg rb,.int .i64 fr] Qc) (r2:=(GRd rb sv R').res) 900 901 rfl (xf _) ?_;by_cases h2:R2.err≠0
   ·rw[na h2] at hW;subst hW;rw[na h2] at hW0;cases hW0;refine(Zbn∘Z6∘Z8∘Zd) ?_;refine jt (id:=8) 6 rfl (Zb4 (h:=?_));refine jo 900 901 rfl Z (xf (GRd rb sv R')) ?_;refine(Za0∘Zac) ?_;refine jq (r:=(xw sb rb sv fr R').res) (K:=6) L 900 rfl Z Z Z Z (fun u H C hH hle hr hC=>Od (x:=(t,k)) (fst:=[kg rb]) (cap:=[]) Z h2 hH hr hC (fun u3 H3 C3 hH3 hle3 hr3 hC3=>hsrc hH3 ((hs.le hle).le hle3) hr3 hC3)) (fun _ _ _ _ h=>h) ?_
    repeat (first | refine wd ?_ | refine jl ?_)
    exact dc nq
   ·rw[nc h2] at hW;have g1:=m5.1 h2;by_cases hte:tE t≠0
    ·rw[na hte] at hW;subst hW;rw[na (show(6:Int)≠0 by decide)] at hW0;cases hW0;refine(Zbn∘Z6∘Z8∘Zd∘Zv∘Zb4) ?_;refine jo 900 901 rfl Z (xf (GRd rb sv R')) ?_;refine Za0 (h:=?_);refine qe (yh L 900 (xw sb rb sv R'.at_ R2) (chv t k) (r:=xw sb rb sv fr R') Z Z Z Z Z (fun u H C hH hle hr hC=>jm (x:=(t,k)) (fst:=[kg rb]) (cap:=[]) Z g1 hH hr hC (fun u3 H3 C3 hH3 hle3 hr3 hC3=>hsrc hH3 ((hs.le hle).le hle3) hr3 hC3))) (Zah (h:=?_));refine k9 11 913 rfl fun b11=>?_;refine wk 913 rfl fun H1 hs1 _ h11=>?_;have hv1:=hv.le hs1.le;refine jt (id:=9) 5 rfl ((Za∘Zbq) ?_);refine z71 L Z (fun u H hH _=>ky htz hH) ?_;refine(Zx∘Zac) ?_;refine jq (r:=(xw sb rb sv R'.at_ R2).res) (K:=5) L 900 rfl Z Z Z Z (fun u H C hH hle hr hC=>f6 hH hr hC) (fun _ _ _ _ h=>h) ?_
     repeat (first | refine wd ?_ | refine jl ?_)
     exact dc hs1
    ·rw[nc hte] at hW;have g2:=m5.1 hte
     cases la with
     | none=>
      have hi0:i=0:=hfst.1 rfl;have hbt:zbs none t=true:=rfl;rw[hbt,nc E] at hW
      cases k with
      | true=>
       by_cases hm2:decide (t∈l)≠true
       ·rw[na hm2] at hW;subst hW;rw[na (show(5:Int)≠0 by decide)] at hW0;cases hW0;have g4:decide (t∈l)=false:=by cases hq:decide (t∈l)<;>simp_all
        refine(Zbn∘Z6∘Z8∘Zd∘Zv∘Zb4) ?_;refine jo 900 901 rfl Z (xf (GRd rb sv R')) ?_;refine Za0 (h:=?_);refine qe (yh L 900 (xw sb rb sv R'.at_ R2) (chv t true) (r:=xw sb rb sv fr R') Z Z Z Z Z (fun u H C hH hle hr hC=>jm (x:=(t,true)) (fst:=[kg rb]) (cap:=[]) Z g1 hH hr hC (fun u3 H3 C3 hH3 hle3 hr3 hC3=>hsrc hH3 ((hs.le hle).le hle3) hr3 hC3))) (Zah (h:=?_));refine k9 11 913 rfl fun b11=>?_;refine wk 913 rfl fun H1 hs1 _ h11=>?_;have hv1:=hv.le hs1.le;refine(Zal∘Zbq) ?_;refine z71 L Z (fun u H hH _=>ky htz hH) ?_;refine ZW (h:=?_);refine qe (yx L 900 (xw sb rb sv R'.at_ R2) (r:=xw sb rb sv R'.at_ R2) Z Z Z Z Z (fun u H C hH _ hr hC=>kj hH hr hC)) ((Zi∘ZI∘Zb∘ZW∘Zaz∘ZaF) ?_);refine qe (yx L 900 (xw sb rb sv R'.at_ R2) (r:=xw sb rb sv R'.at_ R2) Z Z Z Z Z (fun u H C hH _ hr hC=>kj hH hr hC)) (Zi (h:=?_));refine Zfe (h:=?_);refine Ze0 (h:=?_);refine Zfd (h:=?_);refine ZdY (h:=?_);refine jv (zw L (vs:=[_,_,_,_,_,_]) (qp Z h11) Z Z Z Z ⟨_,rfl⟩) Z (jv (q0 L Z Z (zm Z) Z Z Z (fun u H hH hle _=>jf g4 hH (hv1.le hle))) Z (ZdY (h:=?_)));refine jv (qd L (qp Z h11) Z Z Z Z) Z (Zff (h:=?_));refine r8 [(48,.is (kg sb)),(55,.is (.bool false)),(900,.own (xw sb rb sv R'.at_ R2).res)] J ⟨Z,Z,Z,nm⟩ (jq (r:=(xw sb rb sv R'.at_ R2).res) (K:=8) L 900 rfl Z Z Z Z (fun u H C hH hle hr hC=>f6 hH hr hC) (fun _ _ _ _ h=>h) ?_)
        repeat (first | refine wd ?_ | refine jl ?_)
        exact dc hs1
       ·rw[nc hm2] at hW;have g4:=m5.1 hm2;have hj2:ChJ bs l n Y (i+1) (some t) (a) (d++[(t,true)]) R2:=⟨hlt,by rw[show n-(i+1)=m by omega];exact hW,g1,hta,⟨fun h=>by(cases h),fun h=>by(cases h)⟩,by simp only[nr,zqf];omega,hza,fun c hc=>by(rcases mh.1 hc with h3 | h3;exact hzd c h3;rw[m4] at h3;subst h3;exact htz)⟩
        refine(Zbn∘Z6∘Z8∘Zd∘Zv∘Zb4) ?_;refine jo 900 901 rfl Z (xf (GRd rb sv R')) ?_;refine Za0 (h:=?_);refine qe (yh L 900 (xw sb rb sv R'.at_ R2) (chv t true) (r:=xw sb rb sv fr R') Z Z Z Z Z (fun u H C hH hle hr hC=>jm (x:=(t,true)) (fst:=[kg rb]) (cap:=[]) Z g1 hH hr hC (fun u3 H3 C3 hH3 hle3 hr3 hC3=>hsrc hH3 ((hs.le hle).le hle3) hr3 hC3))) (Zah (h:=?_));refine k9 11 913 rfl fun b11=>?_;refine wk 913 rfl fun H1 hs1 _ h11=>?_;have hv1:=hv.le hs1.le;refine(Zal∘Zbq) ?_;refine z71 L Z (fun u H hH _=>ky htz hH) ?_;refine ZW (h:=?_);refine qe (yx L 900 (xw sb rb sv R'.at_ R2) (r:=xw sb rb sv R'.at_ R2) Z Z Z Z Z (fun u H C hH _ hr hC=>kj hH hr hC)) ((Zi∘ZI∘Zb∘ZW∘Zaz∘ZaF) ?_);refine qe (yx L 900 (xw sb rb sv R'.at_ R2) (r:=xw sb rb sv R'.at_ R2) Z Z Z Z Z (fun u H C hH _ hr hC=>kj hH hr hC)) ((Zi∘ZdX∘Zl∘Zcu∘Zcs) ?_);refine z81 L Z (fun u H hH hle=>jf g4 hH (hv1.le hle)) ?_;refine(ZbY∘Z5∘Zdj) ?_;refine xq (yx L 900 (xw sb rb sv R'.at_ R2) (r:=xw sb rb sv R'.at_ R2) Z Z Z Z Z (fun u H C hH _ hr hC=>kj hH hr hC)) Z Z ((ZaZ∘Zaa∘Zbq∘Zbd∘Zi∘Zak∘Zz∘ZcB∘Zw∘Za5) ?_);refine qe (yr (.inl Z) Z) ((ZdG∘ZV∘Zdi) ?_);refine qe (yr (.inr Z) Z) ((Zax∘Zar∘ZX) ?_);exact jk (x:=(i,none,a,d,R',fr)) (i+1,some t,a,d++[(t,true)],R2,R'.at_) hs1 hj2 G ⟨Z,Z,Z,Z,ft Z,Z,Z,Z,Z,Z,nm⟩
      | false=>
       by_cases hm2:decide (t∈l)≠false
       ·rw[na hm2] at hW;subst hW;rw[na (show(5:Int)≠0 by decide)] at hW0;cases hW0;have g4:decide (t∈l)=true:=by cases hq:decide (t∈l)<;>simp_all
        refine(Zbn∘Z6∘Z8∘Zd∘Zv∘Zb4) ?_;refine jo 900 901 rfl Z (xf (GRd rb sv R')) ?_;refine Za0 (h:=?_);refine qe (yh L 900 (xw sb rb sv R'.at_ R2) (chv t false) (r:=xw sb rb sv fr R') Z Z Z Z Z (fun u H C hH hle hr hC=>jm (x:=(t,false)) (fst:=[kg rb]) (cap:=[]) Z g1 hH hr hC (fun u3 H3 C3 hH3 hle3 hr3 hC3=>hsrc hH3 ((hs.le hle).le hle3) hr3 hC3))) (Zah (h:=?_));refine k9 11 913 rfl fun b11=>?_;refine wk 913 rfl fun H1 hs1 _ h11=>?_;have hv1:=hv.le hs1.le;refine(Zal∘Zbq) ?_;refine z71 L Z (fun u H hH _=>ky htz hH) ?_;refine ZW (h:=?_);refine qe (yx L 900 (xw sb rb sv R'.at_ R2) (r:=xw sb rb sv R'.at_ R2) Z Z Z Z Z (fun u H C hH _ hr hC=>kj hH hr hC)) ((Zi∘ZI∘Zb∘ZW∘Zaz∘ZaF) ?_);refine qe (yx L 900 (xw sb rb sv R'.at_ R2) (r:=xw sb rb sv R'.at_ R2) Z Z Z Z Z (fun u H C hH _ hr hC=>kj hH hr hC)) (Zi (h:=?_));refine Zfe (h:=?_);refine Ze0 (h:=?_);refine Zfd (h:=?_);refine ZdY (h:=?_);refine jv (zw L (vs:=[_,_,_,_,_,_]) (qp Z h11) Z Z Z Z ⟨_,rfl⟩) Z (jv (q0 L Z Z (zm Z) Z Z Z (fun u H hH hle _=>jf g4 hH (hv1.le hle))) Z (ZdY (h:=?_)));refine jv (qd L (qp Z h11) Z Z Z Z) Z (Zff (h:=?_));refine r8 [(48,.is (kg sb)),(55,.is (.bool false)),(900,.own (xw sb rb sv R'.at_ R2).res)] J ⟨Z,Z,Z,nm⟩ (jq (r:=(xw sb rb sv R'.at_ R2).res) (K:=8) L 900 rfl Z Z Z Z (fun u H C hH hle hr hC=>f6 hH hr hC) (fun _ _ _ _ h=>h) ?_)
        repeat (first | refine wd ?_ | refine jl ?_)
        exact dc hs1
       ·rw[nc hm2] at hW;have g4:=m5.1 hm2;have hj2:ChJ bs l n Y (i+1) (some t) (a++[(t,false)]) (d) R2:=⟨hlt,by rw[show n-(i+1)=m by omega];exact hW,g1,hta,⟨fun h=>by(cases h),fun h=>by(cases h)⟩,by simp only[nr,zqf];omega,fun c hc=>by(rcases mh.1 hc with h3 | h3;exact hza c h3;rw[m4] at h3;subst h3;exact htz),hzd⟩
        refine(Zbn∘Z6∘Z8∘Zd∘Zv∘Zb4) ?_;refine jo 900 901 rfl Z (xf (GRd rb sv R')) ?_;refine Za0 (h:=?_);refine qe (yh L 900 (xw sb rb sv R'.at_ R2) (chv t false) (r:=xw sb rb sv fr R') Z Z Z Z Z (fun u H C hH hle hr hC=>jm (x:=(t,false)) (fst:=[kg rb]) (cap:=[]) Z g1 hH hr hC (fun u3 H3 C3 hH3 hle3 hr3 hC3=>hsrc hH3 ((hs.le hle).le hle3) hr3 hC3))) (Zah (h:=?_));refine k9 11 913 rfl fun b11=>?_;refine wk 913 rfl fun H1 hs1 _ h11=>?_;have hv1:=hv.le hs1.le;refine(Zal∘Zbq) ?_;refine z71 L Z (fun u H hH _=>ky htz hH) ?_;refine ZW (h:=?_);refine qe (yx L 900 (xw sb rb sv R'.at_ R2) (r:=xw sb rb sv R'.at_ R2) Z Z Z Z Z (fun u H C hH _ hr hC=>kj hH hr hC)) ((Zi∘ZI∘Zb∘ZW∘Zaz∘ZaF) ?_);refine qe (yx L 900 (xw sb rb sv R'.at_ R2) (r:=xw sb rb sv R'.at_ R2) Z Z Z Z Z (fun u H C hH _ hr hC=>kj hH hr hC)) ((Zi∘ZdX∘Zl∘Zcu∘Zcs) ?_);refine z81 L Z (fun u H hH hle=>jf g4 hH (hv1.le hle)) ?_;refine(ZbY∘Z5∘Zdj) ?_;refine xq (yx L 900 (xw sb rb sv R'.at_ R2) (r:=xw sb rb sv R'.at_ R2) Z Z Z Z Z (fun u H C hH _ hr hC=>kj hH hr hC)) Z Z ((ZaZ∘Zaa∘Zbq∘Zbd∘Zi∘Zak∘Zz∘ZcB∘ZaL∘Zao) ?_);refine qe (yr (.inl Z) Z) ((ZdG∘ZV∘Zdi) ?_);refine qe (yr (.inr Z) Z) ((Zax∘Zar∘ZX) ?_);exact jk (x:=(i,none,a,d,R',fr)) (i+1,some t,a++[(t,false)],d,R2,R'.at_) hs1 hj2 G ⟨Z,Z,Z,ft Z,Z,Z,Z,Z,Z,Z,nm⟩
     | some y=>
      have hi0:i≠0:=fun h=>by have:=hfst.2 h;cases this
      by_cases hbh:zbs (some y) t=false
      ·rw[na hbh] at hW;subst hW;rw[na (show(18:Int)≠0 by decide)] at hW0;cases hW0;have g3:¬ ku y t<0:=of_decide_eq_false hbh;refine(Zbn∘Z6∘Z8∘Zd∘Zv∘Zb4) ?_;refine jo 900 901 rfl Z (xf (GRd rb sv R')) ?_;refine Za0 (h:=?_);refine qe (yh L 900 (xw sb rb sv R'.at_ R2) (chv t k) (r:=xw sb rb sv fr R') Z Z Z Z Z (fun u H C hH hle hr hC=>jm (x:=(t,k)) (fst:=[kg rb]) (cap:=[]) Z g1 hH hr hC (fun u3 H3 C3 hH3 hle3 hr3 hC3=>hsrc hH3 ((hs.le hle).le hle3) hr3 hC3))) (Zah (h:=?_));refine k9 11 913 rfl fun b11=>?_;refine wk 913 rfl fun H1 hs1 _ h11=>?_;have hv1:=hv.le hs1.le;refine(Zal∘Zbq) ?_;refine z71 L Z (fun u H hH _=>ky htz hH) ?_;refine ZW (h:=?_);refine qe (yx L 900 (xw sb rb sv R'.at_ R2) (r:=xw sb rb sv R'.at_ R2) Z Z Z Z Z (fun u H C hH _ hr hC=>kj hH hr hC)) (Zi (h:=?_));refine jt (id:=10) 10 rfl ((Zb∘Zx∘Za∘Zay∘Zbq) ?_);refine z71 L Z (fun u H hH _=>ju (a:=y) (b:=t) hH) ?_;refine(ZJ∘Zh∘Zac) ?_;refine jq (r:=(xw sb rb sv R'.at_ R2).res) (K:=10) L 900 rfl Z Z Z Z (fun u H C hH hle hr hC=>f6 hH hr hC) (fun _ _ _ _ h=>h) ?_
       repeat (first | refine wd ?_ | refine jl ?_)
       exact dc hs1
      ·rw[nc hbh] at hW;have g3:ku y t<0:=by unfold zbs at hbh;exact Decidable.not_not.1 fun h=>hbh (decide_eq_false h)
       cases k with
       | true=>
        by_cases hm2:decide (t∈l)≠true
        ·rw[na hm2] at hW;subst hW;rw[na (show(5:Int)≠0 by decide)] at hW0;cases hW0;have g4:decide (t∈l)=false:=by cases hq:decide (t∈l)<;>simp_all
         refine(Zbn∘Z6∘Z8∘Zd∘Zv∘Zb4) ?_;refine jo 900 901 rfl Z (xf (GRd rb sv R')) ?_;refine Za0 (h:=?_);refine qe (yh L 900 (xw sb rb sv R'.at_ R2) (chv t true) (r:=xw sb rb sv fr R') Z Z Z Z Z (fun u H C hH hle hr hC=>jm (x:=(t,true)) (fst:=[kg rb]) (cap:=[]) Z g1 hH hr hC (fun u3 H3 C3 hH3 hle3 hr3 hC3=>hsrc hH3 ((hs.le hle).le hle3) hr3 hC3))) (Zah (h:=?_));refine k9 11 913 rfl fun b11=>?_;refine wk 913 rfl fun H1 hs1 _ h11=>?_;have hv1:=hv.le hs1.le;refine(Zal∘Zbq) ?_;refine z71 L Z (fun u H hH _=>ky htz hH) ?_;refine ZW (h:=?_);refine qe (yx L 900 (xw sb rb sv R'.at_ R2) (r:=xw sb rb sv R'.at_ R2) Z Z Z Z Z (fun u H C hH _ hr hC=>kj hH hr hC)) ((Zi∘ZI∘Zb∘Zx∘Za∘Zay∘Zbq) ?_);refine z71 L Z (fun u H hH _=>ju (a:=y) (b:=t) hH) ?_;refine(ZN∘Zh) ?_;refine qe (yx L 900 (xw sb rb sv R'.at_ R2) (r:=xw sb rb sv R'.at_ R2) Z Z Z Z Z (fun u H C hH _ hr hC=>kj hH hr hC)) (Zi (h:=?_));refine Zfe (h:=?_);refine Ze0 (h:=?_);refine Zfd (h:=?_);refine ZdY (h:=?_);refine jv (zw L (vs:=[_,_,_,_,_,_]) (qp Z h11) Z Z Z Z ⟨_,rfl⟩) Z (jv (q0 L Z Z (zm Z) Z Z Z (fun u H hH hle _=>jf g4 hH (hv1.le hle))) Z (ZdY (h:=?_)));refine jv (qd L (qp Z h11) Z Z Z Z) Z (Zff (h:=?_));refine r8 [(48,.is (kg sb)),(55,.is (.bool false)),(900,.own (xw sb rb sv R'.at_ R2).res)] J ⟨Z,Z,Z,nm⟩ (jq (r:=(xw sb rb sv R'.at_ R2).res) (K:=8) L 900 rfl Z Z Z Z (fun u H C hH hle hr hC=>f6 hH hr hC) (fun _ _ _ _ h=>h) ?_)
         repeat (first | refine wd ?_ | refine jl ?_)
         exact dc hs1
        ·rw[nc hm2] at hW;have g4:=m5.1 hm2;have hj2:ChJ bs l n Y (i+1) (some t) (a) (d++[(t,true)]) R2:=⟨hlt,by rw[show n-(i+1)=m by omega];exact hW,g1,hta,⟨fun h=>by(cases h),fun h=>by(cases h)⟩,by simp only[nr,zqf];omega,hza,fun c hc=>by(rcases mh.1 hc with h3 | h3;exact hzd c h3;rw[m4] at h3;subst h3;exact htz)⟩
         refine(Zbn∘Z6∘Z8∘Zd∘Zv∘Zb4) ?_;refine jo 900 901 rfl Z (xf (GRd rb sv R')) ?_;refine Za0 (h:=?_);refine qe (yh L 900 (xw sb rb sv R'.at_ R2) (chv t true) (r:=xw sb rb sv fr R') Z Z Z Z Z (fun u H C hH hle hr hC=>jm (x:=(t,true)) (fst:=[kg rb]) (cap:=[]) Z g1 hH hr hC (fun u3 H3 C3 hH3 hle3 hr3 hC3=>hsrc hH3 ((hs.le hle).le hle3) hr3 hC3))) (Zah (h:=?_));refine k9 11 913 rfl fun b11=>?_;refine wk 913 rfl fun H1 hs1 _ h11=>?_;have hv1:=hv.le hs1.le;refine(Zal∘Zbq) ?_;refine z71 L Z (fun u H hH _=>ky htz hH) ?_;refine ZW (h:=?_);refine qe (yx L 900 (xw sb rb sv R'.at_ R2) (r:=xw sb rb sv R'.at_ R2) Z Z Z Z Z (fun u H C hH _ hr hC=>kj hH hr hC)) ((Zi∘ZI∘Zb∘Zx∘Za∘Zay∘Zbq) ?_);refine z71 L Z (fun u H hH _=>ju (a:=y) (b:=t) hH) ?_;refine(ZN∘Zh) ?_;refine qe (yx L 900 (xw sb rb sv R'.at_ R2) (r:=xw sb rb sv R'.at_ R2) Z Z Z Z Z (fun u H C hH _ hr hC=>kj hH hr hC)) ((Zi∘ZdX∘Zl∘Zcu∘Zcs) ?_);refine z81 L Z (fun u H hH hle=>jf g4 hH (hv1.le hle)) ?_;refine(ZbY∘Z5∘Zdj) ?_;refine xq (yx L 900 (xw sb rb sv R'.at_ R2) (r:=xw sb rb sv R'.at_ R2) Z Z Z Z Z (fun u H C hH _ hr hC=>kj hH hr hC)) Z Z ((ZaZ∘Zaa∘Zbq∘Zbd∘Zi∘Zak∘Zz∘ZcB∘Zw∘Za5) ?_);refine qe (yr (.inl Z) Z) ((ZdG∘ZV∘Zdi) ?_);refine qe (yr (.inr Z) Z) ((Zax∘Zar∘ZX) ?_);exact jk (x:=(i,some y,a,d,R',fr)) (i+1,some t,a,d++[(t,true)],R2,R'.at_) hs1 hj2 G ⟨Z,Z,Z,Z,ft Z,Z,Z,Z,Z,Z,nm⟩
       | false=>
        by_cases hm2:decide (t∈l)≠false
        ·rw[na hm2] at hW;subst hW;rw[na (show(5:Int)≠0 by decide)] at hW0;cases hW0;have g4:decide (t∈l)=true:=by cases hq:decide (t∈l)<;>simp_all
         refine(Zbn∘Z6∘Z8∘Zd∘Zv∘Zb4) ?_;refine jo 900 901 rfl Z (xf (GRd rb sv R')) ?_;refine Za0 (h:=?_);refine qe (yh L 900 (xw sb rb sv R'.at_ R2) (chv t false) (r:=xw sb rb sv fr R') Z Z Z Z Z (fun u H C hH hle hr hC=>jm (x:=(t,false)) (fst:=[kg rb]) (cap:=[]) Z g1 hH hr hC (fun u3 H3 C3 hH3 hle3 hr3 hC3=>hsrc hH3 ((hs.le hle).le hle3) hr3 hC3))) (Zah (h:=?_));refine k9 11 913 rfl fun b11=>?_;refine wk 913 rfl fun H1 hs1 _ h11=>?_;have hv1:=hv.le hs1.le;refine(Zal∘Zbq) ?_;refine z71 L Z (fun u H hH _=>ky htz hH) ?_;refine ZW (h:=?_);refine qe (yx L 900 (xw sb rb sv R'.at_ R2) (r:=xw sb rb sv R'.at_ R2) Z Z Z Z Z (fun u H C hH _ hr hC=>kj hH hr hC)) ((Zi∘ZI∘Zb∘Zx∘Za∘Zay∘Zbq) ?_);refine z71 L Z (fun u H hH _=>ju (a:=y) (b:=t) hH) ?_;refine(ZN∘Zh) ?_;refine qe (yx L 900 (xw sb rb sv R'.at_ R2) (r:=xw sb rb sv R'.at_ R2) Z Z Z Z Z (fun u H C hH _ hr hC=>kj hH hr hC)) (Zi (h:=?_));refine Zfe (h:=?_);refine Ze0 (h:=?_);refine Zfd (h:=?_);refine ZdY (h:=?_);refine jv (zw L (vs:=[_,_,_,_,_,_]) (qp Z h11) Z Z Z Z ⟨_,rfl⟩) Z (jv (q0 L Z Z (zm Z) Z Z Z (fun u H hH hle _=>jf g4 hH (hv1.le hle))) Z (ZdY (h:=?_)));refine jv (qd L (qp Z h11) Z Z Z Z) Z (Zff (h:=?_));refine r8 [(48,.is (kg sb)),(55,.is (.bool false)),(900,.own (xw sb rb sv R'.at_ R2).res)] J ⟨Z,Z,Z,nm⟩ (jq (r:=(xw sb rb sv R'.at_ R2).res) (K:=8) L 900 rfl Z Z Z Z (fun u H C hH hle hr hC=>f6 hH hr hC) (fun _ _ _ _ h=>h) ?_)
         repeat (first | refine wd ?_ | refine jl ?_)
         exact dc hs1
        ·rw[nc hm2] at hW;have g4:=m5.1 hm2;have hj2:ChJ bs l n Y (i+1) (some t) (a++[(t,false)]) (d) R2:=⟨hlt,by rw[show n-(i+1)=m by omega];exact hW,g1,hta,⟨fun h=>by(cases h),fun h=>by(cases h)⟩,by simp only[nr,zqf];omega,fun c hc=>by(rcases mh.1 hc with h3 | h3;exact hza c h3;rw[m4] at h3;subst h3;exact htz),hzd⟩
         refine(Zbn∘Z6∘Z8∘Zd∘Zv∘Zb4) ?_;refine jo 900 901 rfl Z (xf (GRd rb sv R')) ?_;refine Za0 (h:=?_);refine qe (yh L 900 (xw sb rb sv R'.at_ R2) (chv t false) (r:=xw sb rb sv fr R') Z Z Z Z Z (fun u H C hH hle hr hC=>jm (x:=(t,false)) (fst:=[kg rb]) (cap:=[]) Z g1 hH hr hC (fun u3 H3 C3 hH3 hle3 hr3 hC3=>hsrc hH3 ((hs.le hle).le hle3) hr3 hC3))) (Zah (h:=?_));refine k9 11 913 rfl fun b11=>?_;refine wk 913 rfl fun H1 hs1 _ h11=>?_;have hv1:=hv.le hs1.le;refine(Zal∘Zbq) ?_;refine z71 L Z (fun u H hH _=>ky htz hH) ?_;refine ZW (h:=?_);refine qe (yx L 900 (xw sb rb sv R'.at_ R2) (r:=xw sb rb sv R'.at_ R2) Z Z Z Z Z (fun u H C hH _ hr hC=>kj hH hr hC)) ((Zi∘ZI∘Zb∘Zx∘Za∘Zay∘Zbq) ?_);refine z71 L Z (fun u H hH _=>ju (a:=y) (b:=t) hH) ?_;refine(ZN∘Zh) ?_;refine qe (yx L 900 (xw sb rb sv R'.at_ R2) (r:=xw sb rb sv R'.at_ R2) Z Z Z Z Z (fun u H C hH _ hr hC=>kj hH hr hC)) ((Zi∘ZdX∘Zl∘Zcu∘Zcs) ?_);refine z81 L Z (fun u H hH hle=>jf g4 hH (hv1.le hle)) ?_;refine(ZbY∘Z5∘Zdj) ?_;refine xq (yx L 900 (xw sb rb sv R'.at_ R2) (r:=xw sb rb sv R'.at_ R2) Z Z Z Z Z (fun u H C hH _ hr hC=>kj hH hr hC)) Z Z ((ZaZ∘Zaa∘Zbq∘Zbd∘Zi∘Zak∘Zz∘ZcB∘ZaL∘Zao) ?_);refine qe (yr (.inl Z) Z) ((ZdG∘ZV∘Zdi) ?_);refine qe (yr (.inr Z) Z) ((Zax∘Zar∘ZX) ?_);exact jk (x:=(i,some y,a,d,R',fr)) (i+1,some t,a++[(t,false)],d,R2,R'.at_) hs1 hj2 G ⟨Z,Z,Z,ft Z,Z,Z,Z,Z,Z,Z,nm⟩
  ·obtain rfl:i=n:=by have:=hj.hi;omega
   have hW:=hj.hW;rw[zql] at hW;have hW2:(((a,d),R'),((0:Int),(0:Int)))=Y:=hW;subst hW2;rw[nc (fun h=>h rfl)] at hW0;dsimp only at hW0;by_cases h3:l.length+a.length>4096+d.length
   ·rw[na h3] at hW0;cases hW0;have hlen:=hj.len;refine v8 (r1:=xp sb [kg rb,.int .i64 fr] Qc) (r2:=(GRd rb sv R').res) 900 901 rfl (xf _) ?_;refine uq 5 rfl ?_;refine Bz 6 931 _ Z SlR.shape fun z6 hz6=>?_;obtain⟨p6,c6,rfl⟩:=hz6;refine(Zbn∘Zav∘Zbv∘Zb∘Zap) ?_;refine xl (yo L (q:=900) (cs':=[kg rb,.int .i64 R.at_]) Z Z Z Z Z) (Zi (h:=?_));refine jt (id:=18) 10 rfl ((Za∘ZaH) ?_);refine z71 L Z (fun u H hH hle=>gn (l:=l) Z hH (hv.le hle)) ?_;refine(Zg∘ZaI∘Za∘ZcA∘ZcS∘Zc7) ?_;refine jo 900 901 rfl Z (xf (GRd rb sv R')) ?_;refine Zac (h:=?_);refine jq (r:=(xw sb rb sv R.at_ R').res) (K:=10) L 900 rfl Z Z Z Z (fun u H C hH hle hr hC=>f6 hH hr hC) (fun _ _ _ _ h=>h) ?_
    repeat (first | refine wd ?_ | refine jl ?_)
    exact dc nq
   ·rw[nc h3] at hW0;cases hW0;exact ni Z he
def za1:∀ {k:Nat} {la:Option U} {a d:List CH} {R:Rd},R.at_<=bs.length->(Fw bs l k la a d R).1.2.at_<=bs.length
 | 0,_,_,_,_,h=>h
 | k+1,la,a,d,R,h=>by
  unfold Fw;split
  ·exact h
  ·split
   ·exact h
   ·split
    ·exact h
    ·split
     ·exact h
     ·exact za1 (Pp h)
def ziv(h:R.at_<=bs.length):(Bc bs l R).1.2.at_<=bs.length:=by
 have h1:=o9 (bs:=bs) (lim:=8192) h;unfold Bc;split
 ·exact h
 ·split
  ·exact h
  ·split
   ·exact h
   ·exact za1 h1
def zei(h:l.length<=4096):(Bc bs l R).1.1.length<=4096:=by
 unfold Bc;split
 ·exact h
 ·split
  ·exact h
  ·split
   ·exact h
   ·exact Kc _ h
def R7:∀ {k:Nat} {la:Option U} {a d:List CH} {R:Rd},R.err=0->(Fw bs l k la a d R).2.2=0->(Fw bs l k la a d R).1.2.err=0
 | 0,_,_,_,_,h,_=>h
 | k+1,la,a,d,R,h,he=>by
  unfold Fw at he |-;by_cases h1:(db bs R).2.err≠0
  ·rw[na h1] at he;exact ni he h1
  ·rw[nc h1] at he |-;by_cases h2:tE (db bs R).1.1≠0
   ·rw[na h2] at he;exact ni he (show(6:Int)≠0 by decide)
   ·rw[nc h2] at he |-;by_cases h3:zbs la (db bs R).1.1=false
    ·rw[na h3] at he;exact ni he (show(18:Int)≠0 by decide)
    ·rw[nc h3] at he |-;by_cases h4:decide ((db bs R).1.1∈l)≠(db bs R).1.2
     ·rw[na h4] at he;exact ni he (show(5:Int)≠0 by decide)
     ·rw[nc h4] at he |-;exact R7 (m5.1 h1) he
def zej(he:(Bc bs l R).2.2=0):(Bc bs l R).1.2.err=0:=by
 unfold Bc at he |-;by_cases h1:(wj bs 8192 R).2.err≠0
 ·rw[na h1] at he;exact ni he h1
 ·rw[nc h1] at he |-;split at he
  ·rename_i h2;exact ni he h2
  ·rename_i h2;rw[nc h2];split at he
   ·exact ni he (show(3:Int)≠0 by decide)
   ·rename_i h3;rw[nc h3];exact R7 (m5.1 h1) (m5.1 h2)
def ldW(bs:List Nat):Nat->Nat->List U->List (Int×List U)->List Int->Rd->((List (Int×List U)×List Int)×Rd)×(Int×Int)
 | 0,_,_,zs,P,R=>(((zs,P),R),(0,0))
 | k+1,last,s,zs,P,R=>
  if (sg bs R).2.err≠0 then (((zs,P),R),(((sg bs R).2.bad:Int),(sg bs R).2.err))
  else if ¬ (0<(sg bs R).1/\(sg bs R).1<=18446744073709551615-last) then (((zs,P),R),((R.at_:Int),5))
  else if (wj bs 4096 (sg bs R).2).2.err≠0 then (((zs,P),R),(((wj bs 4096 (sg bs R).2).2.bad:Int),(wj bs 4096 (sg bs R).2).2.err))
  else if (Bc bs s (wj bs 4096 (sg bs R).2).2).2.2≠0 then (((zs,P),R),(Bc bs s (wj bs 4096 (sg bs R).2).2).2)
  else ldW bs k (last+(sg bs R).1) (Bc bs s (wj bs 4096 (sg bs R).2).2).1.1 (zs++[(((last+(sg bs R).1:Nat):Int),(Bc bs s (wj bs 4096 (sg bs R).2).2).1.1)]) (P++List.replicate (wj bs 4096 (sg bs R).2).1.toNat ((last+(sg bs R).1:Nat):Int)) (Bc bs s (wj bs 4096 (sg bs R).2).2).1.2
def ldF(bs:List Nat):(List (Int×List U)×List Int)×(Int×Int):=
 if (wj bs 1024 ⟨0,0,0⟩).2.err≠0 then (([],[]),(((wj bs 1024 ⟨0,0,0⟩).2.bad:Int),(wj bs 1024 ⟨0,0,0⟩).2.err))
 else if (wj bs 1024 ⟨0,0,0⟩).1=0 then (([],[]),(0,5))
 else if (ldW bs (wj bs 1024 ⟨0,0,0⟩).1.toNat 0 [] [] [] (wj bs 1024 ⟨0,0,0⟩).2).2.2≠0 then (([],[]),(ldW bs (wj bs 1024 ⟨0,0,0⟩).1.toNat 0 [] [] [] (wj bs 1024 ⟨0,0,0⟩).2).2)
 else if (Fv bs (ldW bs (wj bs 1024 ⟨0,0,0⟩).1.toNat 0 [] [] [] (wj bs 1024 ⟨0,0,0⟩).2).1.2).2≠0 then (([],[]),(((Fv bs (ldW bs (wj bs 1024 ⟨0,0,0⟩).1.toNat 0 [] [] [] (wj bs 1024 ⟨0,0,0⟩).2).1.2).1:Int),(Fv bs (ldW bs (wj bs 1024 ⟨0,0,0⟩).1.toNat 0 [] [] [] (wj bs 1024 ⟨0,0,0⟩).2).1.2).2))
 else ((ldW bs (wj bs 1024 ⟨0,0,0⟩).1.toNat 0 [] [] [] (wj bs 1024 ⟨0,0,0⟩).2).1.1,(0,0))
end Go.V.L11
namespace Go.V.L10
def Ue{L:List Int}(hn:0<n):kz (L++List.replicate n r)=kz (L++[r]):=lf lm (ul _) (ul _) fun z=>by
 rw[jr,jr,mh,mh,List.mem_replicate,m4];constructor
 ·rintro(h | h)
  ·exact .inl h
  ·exact .inr h.2
 ·rintro(h | h)
  ·exact .inl h
  ·exact .inr ⟨by omega,h⟩
def Cy{L:List Int}(hn:0<n)(h:r∉L):xe (L++List.replicate n r)=Mv (xe L) (dt cP r (kz L)) (r,(n:Int)):=by
 have key:∀ l:List Int,(∀ x∈l,x∈L)->l.map (fun x=>(x,((L++List.replicate n r).count x:Int)))=l.map fun x=>(x,(L.count x:Int)):=fun l hl=>zso fun x hx=>by
  have hxr:x≠r:=fun e=>h (e ▸ hl x hx);simp [zra,List.count_replicate,hxr.symm]
 unfold xe Mv;rw[Ue hn,Fq h,zpo,mw,zqk,zq0,<-zqk,<-zq0,key _ fun x hx=>jr.1 (zr6 hx),key _ fun x hx=>jr.1 (zs4 hx),zqk,zq0];congr 2;simp [zra,zsp.2 h]
attribute [local irreducible] V N X VO Par StepOK Has Ret RetL RetO RetT kx RetX Src
def Uo{t:Nat}(h:¬ r∈kz L0)(hz2:(xe L0).length<=100000){s:Value}(hB:zth B w)(hv:PsV (xe L0) s B):
  Ret zti 143 [pnv s t,.int .u64 r] w B (fun v _=>v=.int .i64 0):=by
 have h1:=Al (r:=r) (t:=t) hz2 hB hv
 rwa [zsp.2 fun hm=>h (jr.2 hm)] at h1
def Yk(hr:r≠0)(hn0:0<n)(hn:n<=4096)(hnew:r∉L0)(hz2:(xe L0).length<1024)(hz:L0.length<=1000000000000){s:Value}(hB:zth B w)(hv:PsV (xe L0) s B):
  Ret zti 152 [pnv s L0.length,.int .u64 r,.int .i64 n] w B (PinP (L0++List.replicate n r) 0):=by
 have hm:¬ r∈kz L0:=fun h=>hnew (jr.1 h);have hws:IntKind.i64.wrap (4096-0)=4096:=E;have hwt:IntKind.i64.wrap ((L0.length:Int)+(n:Int))=((L0++List.replicate n r).length:Nat):=by rw[nr,List.length_replicate];exact(xb T T).trans T
 have hwc:IntKind.i64.wrap (0+(n:Int))=(n:Int):=(xb T T).trans T;have e1:=Cy (L:=L0) hn0 hnew;obtain⟨p,c,rfl⟩:=jh hv;have hpl:=Xh (L0:=L0) r;have hf:decide (r∈kz L0)=false:=ng hm;generalize hat:dt cP r (kz L0)=at_ at *;have e2:xe (L0++List.replicate n r)=(Mv (xe L0) at_ (r,0)).set at_ (r,(n:Int)):=by rw[Rk hpl];exact e1
 have hp:=Y9 (x:=(r,(0:Int))) hpl;have hpi:=get_lt hp;have hil:=rc (x:=(r,(0:Int))) hpl;refine yn Tryz.func152 Z Tryz.ntmps152 (np Z) hB ((Zu∘ZZ∘Zd∘ZH∘Zbp∘ZJ∘Za6∘ZA∘Zx∘Za6∘ZU∘Zx∘Zo∘Zae∘Za7∘Zbz∘ZC∘ZbL∘Za) ?_);refine z71 L Z (fun u H hH hle=>hf ▸ hat ▸ s7 (L0:=L0) (t:=L0.length) T hH (hv.le hle)) ?_;refine(ZB∘ZaP∘ZaQ∘ZbL∘Za) ?_;refine z71 L Z (fun u H hH hle=>Uo (L0:=L0) (t:=L0.length) hm T hH (hv.le hle)) ?_;refine(Za9∘ZL∘Zb∘Zr∘Za∘Zq∘ZcA∘Zx∘Zh∘ZbX∘ZI∘Zq∘Zfx) ?_;refine qe (yr (.inr Z) Z) ((Zan∘ZY∘Za∘Zr∘Zw∘Zaa) ?_);refine qe (yr (.inl Z) Z) (Zb (h:=?_));refine z7 (yu (cs:=[_,_]) Z Z zkm Z Z) Z (ZV (h:=?_));refine qe (c9 L (q:=51) Z Z Z Z Z (fun u H C x hH hle hx hC v2 hv2=>Fi (y:=(r,0)) hpl T hH hv2 hx hC)) (qe (yr (.inr Z) Z) (Zi (h:=?_)));rw[<-hil];refine Ar 10 900 rfl (fun h0 _=>by omega) fun b cap rest hl hmc hcm hcl=>?_;obtain⟨tl,hld⟩:=zhe hp rest;have hst:=Xj hp (n:Int) rest;have hbl:=Xk hpi rest;refine(Zak∘Zb∘ZdT∘Zz) ?_;refine yd (qg L (q:=900) Z Z Z hld) ((Za∘Z7∘ZdT∘Zz) ?_);refine xl (yo L (q:=900) Z Z hbl Z hst) (Zi (h:=?_));have hln:(xe (L0++List.replicate n r)).length=(Mv (xe L0) at_ (r,0)).length:=by rw[e2,zrc]
 rw[<-e2];refine fz (s:=2) (xs:=(xe (L0++List.replicate n r)).flatMap pnc) (rest:=rest) 10 900 rfl Z Z (by rw[di,hln]) hmc hcm (by rw[nr,di,hln,<-di,<-nr];exact hcl) ?_;refine zbj 10 rfl fun x H hs _ hsw=>?_;have hsv:PsV (xe (L0++List.replicate n r)) x H:=by unfold PsV;rw[hln];exact hsw.toV
 obtain⟨p2,c2,rfl⟩:=jh hsv;refine(ZbG∘Zq∘Za∘Zfy∘Zbf) ?_;refine yj L (rs:=[.cell 6 224,.tmp 7]) Z (fun _ _ h=>h) hs fun u H hH hle=>?_;exact⟨_,y9 Z,rfl,_,rfl,hsv.le hle⟩
open Go.V.L2 Go.V.L8 Go.V.L6
def _root_.Zfg(t:Wr Y->A:=by intro h;refine yd (qg L (q:=902) Z Z Z Z) ?_;exact h.1)(h:Y):A:=t ⟨h⟩
attribute [local irreducible] RetY
def zac{t:Nat}(hz2:(xe L0).length<=100000){s:Value}(hB:zth B w)(hv:PsV (xe L0) s B):
  Ret zti 211 [pnv s t] w B (RsV (kz L0) true):=by
 have hat:∀ (i:Nat) (x:Int),(kz L0)[i]?=some x->(xe L0)[i]?=some (x,(L0.count x:Int)):=fun i x h=>C4 h;have hlen:(xe L0).length=(kz L0).length:=vh L0;obtain⟨p,c,rfl⟩:=jh hv;refine yn Tryz.func211 Z Tryz.ntmps211 (np Z) hB ?_;by_cases h0:(kz L0).length=0
 ·have hnil:kz L0=[]:=m7 h0;rw[hnil];refine(Zu∘Zag∘Zq∘ZcA) ?_;refine z7 (G5 L (kz L0).length Z Z Z zjm Z Z (congrArg (Nat.cast (R:=Int)) hlen) (congrArg (Nat.cast (R:=Int)) hlen) T (by unfold maxLen;omega)) Z ?_;refine qe (yr (.inr Z) Z) ((Zan∘Z9∘Zbj∘Zfv∘Zcv∘ZaW) ?_);refine F6 3 rfl (xm (fun _:Unit=>[(3,.sat (SlV Gf 1 (zsL zti Gf ((kz L0).length*1)) (kz L0).length true)),(13,.is (.int .i64 0)),(12,.is (.int .i64 (xe L0).length))]) (fun _=>True) (fun _=>0) () trivial ⟨Z,Z,Z,nm⟩ ?_);rintro _ _;refine(Zbl∘Zav∘ZC∘Zk∘Zcp) ?_;refine yj1 L [.tmp 2] fun u H hH hle=>?_;intro v hv;have h1:(kz L0).length*1=0:=T;rw[h0] at hv
  have hzl:zsL zti Gf (0*1)=[]:=by
   have:=hv.1;exact m7 (by simpa using this)
  rw[hzl] at hv;exact hv
 ·refine(Zu∘Zag∘Zq∘ZcA) ?_;refine z7 (G5 L (kz L0).length Z Z Z zjm Z Z (congrArg (Nat.cast (R:=Int)) hlen) (congrArg (Nat.cast (R:=Int)) hlen) T (by unfold maxLen;omega)) Z ?_;refine qe (yr (.inr Z) Z) (Zan (h:=?_));refine zjc 3 901 T Z fun b hzl=>?_;refine(Z9∘Zbj∘Zfv∘Zcv∘ZaW) ?_;generalize zsL zti Gf ((kz L0).length*1)=zs at hzl |-
  refine xm (fun s:Nat×List Value=>[(3,.is (.slice (some ⟨b,0,none⟩) (kz L0).length (kz L0).length)),(11,.sat (PsV (xe L0))),(13,.is (.int .i64 s.1)),(12,.is (.int .i64 (xe L0).length)),(901,.own (xp b s.2 Gf))])
   (fun s=>s.1<=(kz L0).length/\s.2.length=(kz L0).length/\s.2.take s.1=((kz L0).take s.1).map (Value.int .u64)) (fun s=>(kz L0).length-s.1) (0,zs) ⟨Nat.zero_le _,by dsimp only;omega,rfl⟩ ⟨rfl,rfl,rfl,rfl,rfl,trivial⟩ ?_
  rintro⟨i,cs⟩ ⟨hi,hcs,htk⟩;dsimp only at hi hcs htk |-;by_cases hlt:i<(kz L0).length
  ·obtain⟨x,hx⟩:=xk hlt;have hc:=Ti (hat i x hx);have hle1:0+i*1+1<=cs.length:=by rw[hcs];omega
   have hwi:IntKind.i64.wrap ((i:Int)+1)=((i+1:Nat):Int):=xb T T;refine(Zbl∘Z6∘Z0∘Zau∘ZdB∘ZZ∘Zo∘Za2∘Zt∘Zb) ?_;refine zjt 5 rfl ((Zq∘ZdT) ?_);refine xl (yo L (q:=901) Z Z (zr5 hle1) Z Z) ((Zax∘Zs∘Z7∘Zc1) ?_)
   exact ym (x:=(i,cs)) (i+1,cs.take (0+i*1)++([.int .u64 x]++cs.drop (0+i*1+1))) ⟨hlt,by dsimp only;rw[List.length_append,List.length_append,List.length_take,List.length_drop];simp only[List.length_cons,List.length_nil];omega,by
    dsimp only;rw[vl hx,zpo,<-htk,zpc,zqi,zrj,List.take_take,Nat.min_eq_right T,mg,zqq T,show i+1-i=1 by omega];rfl⟩ G ⟨rfl,rfl,rfl,rfl,rfl,nm⟩
  ·obtain rfl:i=(kz L0).length:=by omega
   have hcs2:cs=(kz L0).map (Value.int .u64):=by
    rw[zpf T,m9] at htk;exact htk
   subst hcs2;refine(Zbl∘Zav) ?_;refine zf8 (s:=1) 3 901 rfl Z (by simp) (by unfold maxLen;omega) ?_;refine F6 3 rfl ((ZC∘Zk∘Zcp) ?_);refine yj1 L [.tmp 2] fun u H hH hle=>?_;exact fun v hv=>hv
def Te{zs:List (Int×SB)}{fr fb:Bool}(he:mkE (zs.map (·.1)) L0=e)(hS:e=0->MapOK (zsE zs) S.R/\(S.R.length:Int)=sk (zs.map (·.1)) zs.length/\S.P=L0)(hz:(xe L0).length<=100000)(hzb:L0.length<=1000000000000)(hZ:zs.length<=100000)
  {v1 v2 s:Value}   (hB:zth B w) (h1:RsV (zs.map (·.1)) fr v1 B) (h2:SsV (zs.map (·.2)) fb v2 B) (hb:SbOK (zs.map (·.2)) B) (hv:PsV (xe L0) s B):
  RetO zti 155 [v1,v2,pnv s L0.length] w B (MkR e S):=by
 obtain⟨ps,pc,rfl⟩:=jh hv;obtain⟨rs,hrs⟩:∃ rs,rs=zs.map (·.1):=⟨_,rfl⟩
 obtain⟨bs,hbs⟩:∃ bs,bs=zs.map (·.2):=⟨_,rfl⟩
 have lr:rs.length=zs.length:=by rw[hrs,my]
 have lb:bs.length=zs.length:=by rw[hbs,my]
 rw[<-hrs] at he hS h1;rw[<-hbs] at h2 hb;unfold mkE at he;refine wz Tryz.func155 Z Tryz.ntmps155 (np Z) hB (k8 0 (RsV rs fr) Z ns h1 (k8 1 (SsV bs fb) Z ns h2 ?_));by_cases h0:rs.length=0
 ·rw[na h0] at he;refine(Zu∘ZaS∘ZH∘ZE∘Zg∘ZW∘Zaz∘ZaF∘Zcd∘Ze∘Z9∘ZR) ?_;exact Ke L (rs:=[.tmp 6,.tmp 7]) Z (fun _ _ h=>h) nq (fun _=>rfl) (fun H u _=>.inr ⟨by omega,by rw[<-he];rfl,fun _ h=>h⟩)
 ·rw[nc h0] at he;by_cases hk:1024<rs.length
  ·rw[na hk] at he;refine(Zu∘ZaS∘ZH∘ZE∘Zg∘Zx∘Za∘Zg∘Zg∘Zaq∘Zh∘Za6∘ZK∘Zg∘ZO∘Zcd∘ZcI∘ZR) ?_;exact Ke L (rs:=[.tmp 6,.tmp 7]) Z (fun _ _ h=>h) nq (fun _=>rfl) (fun H u _=>.inr ⟨by omega,by rw[<-he];rfl,fun _ h=>h⟩)
  ·rw[nc hk] at he;refine(Zu∘ZaS∘ZH∘ZE∘Zg∘Zx∘Za∘Zg∘Zg∘Zaq∘Zh∘Za6∘ZK∘Zg∘ZL∘Zo∘Zae∘Za7∘Zbz) ?_;refine qo (id:=5) [(34,[32]),(35,[34]),(8,[35])] ki J ((Zab∘Zek) ?_);refine z8 (Oy .u64 vcE Z mpS Z Z) Z (ZcP (h:=?_));refine xq (Tx (q:=32) (fun k=>[(0,.int .u64 0),(1,.map (some k)),(2,.agg #[.slice ps (xe L0).length pc,.int .i64 L0.length])]) (fun k=>stc 0 k (.slice ps (xe L0).length pc) L0.length) Z Z Z Z zkn (fun _=>rfl) (fun _=>rfl)) Z Z (xq (zda Z Z Z Z) Z Z (xq (yr (.inr Z) Z) Z Z ((ZaZ∘Ze) ?_)));refine Kf 8 902 rfl fun x=>?_;obtain⟨b2,m2⟩:=x;rw[w8];refine v8 902 903 rfl (xf _) ?_;refine(Zs∘Zg∘ZaW) ?_;have lz:(zsE zs).length=rs.length:=by unfold zsE;rw[List.length_map,lr]
   refine xm (fun y:Nat=>[(1,.sat (SsV bs fb)),(5,.sat (At [.slice ps (xe L0).length pc,.int .i64 L0.length] 224 0)),(8,.is (eu b2)),(36,.sat (RsV rs fr)),(37,.is (.int .i64 rs.length)),(38,.is (.int .i64 y)),(902,.own (xp b2 [.int .u64 (sk rs y),.map (some m2),.slice ps (xe L0).length pc,.int .i64 L0.length] tyS)),(903,.own (Ef m2 .u64 vcE ((zsE zs).take y)))])
    (fun y=>y<=rs.length/\zbv (rs.take y)/\∀ a∈0::rs.take y,a<=sk rs y) (fun y=>rs.length-y) 0 ⟨mc _,zqr _ _,fun a ha=>by rw[zpv,m4] at ha;subst ha;exact zqy _⟩ ⟨rfl,rfl,rfl,rfl,rfl,rfl,rfl,rfl,nm⟩ ?_
   rintro i ⟨hi,hA,hmx⟩;dsimp only at hi hA hmx |-;by_cases hlt:i<rs.length
   ·obtain⟨z,hzi⟩:=xk (show i<zs.length by omega);obtain⟨x,c0⟩:=z;have hx:rs[i]?=some x:=by rw[hrs,zpr,hzi];rfl
    have hbi:bs[i]?=some c0:=by rw[hbs,zpr,hzi];rfl
    have hei:(zsE zs)[i]?=some (x,(c0.1,sbv c0)):=by unfold zsE;rw[List.getElem?_map,hzi];rfl
    obtain⟨t0,f1,p1,f2,p2⟩:=c0;have hc:=Lv hx;have hcb:=zm2 hbi;have hwk:IntKind.i64.wrap ((i:Int)+1)=((i+1:Nat):Int):=xb T T;by_cases hle:x<=sk rs i
    ·have hnA:¬ zbv rs:=fun h=>by have:=zey h hx;omega
     rw[nc hnA] at he;refine(Ze∘ZC∘Z6∘ZaQ∘Zau∘ZcO∘ZaP∘ZM∘Zb∘Zap∘Zfg∘ZcF∘ZD∘ZI∘ZR) ?_;exact Ke L (rs:=[.tmp 6,.tmp 7]) Z (fun _ _ h=>h) nq (fun _=>rfl) (fun H u _=>.inr ⟨by omega,by rw[<-he];rfl,fun _ h=>h⟩)
    ·have hsn:=zex hA hmx hx T
     have hnk:x∉((zsE zs).take i).map Prod.fst:=fun hm2=>by
      have h3:((zsE zs).take i).map Prod.fst=rs.take i:=by rw[List.map_take];unfold zsE;rw[List.map_map,hrs];rfl
      rw[h3] at hm2;have:=hmx x (me _ hm2);omega
     have hput:=zdk (y:=(t0,sbv (t0,f1,p1,f2,p2))) hnk;rw[<-vl hei] at hput;have hls:=i9 hx;refine(Ze∘ZC∘Z6∘ZaQ∘Zau∘ZcO∘ZaP∘ZM∘Zb∘Zap∘Zfg∘Zc7∘Zm∘ZY∘Zb∘Zap) ?_;refine xl (yo L (q:=902) (cs':=[.int .u64 x,.map (some m2),.slice ps (xe L0).length pc,.int .i64 L0.length]) Z Z Z Z Z) (ZF (h:=?_));refine qo (id:=12) [(200056,[902]),(100056,[903])] ki J (ZaK (h:=?_));refine qz (qg L (q:=902) Z Z Z Z) Z Z ((Zl∘Zeq) ?_);refine z8 (yi L (vs:=[_,_,_,_]) Z Z Z Z Z ⟨_,rfl⟩) Z (xo (E8 (q:=903) (vc:=vcE) x (t0,sbv (t0,f1,p1,f2,p2)) mpS kyS Z Z Z Z Z Z hput) Z ((Zck∘ZaE∘Zak∘Z7∘Zc1) ?_));exact ym (x:=i) (i+1) ⟨hlt,hsn.1,hsn.2⟩ T ⟨Z,Z,Z,Z,Z,Z,by rw[hls];rfl,Z,nm⟩
   ·obtain rfl:i=rs.length:=by omega
    rw[m9] at hA hmx;rw[na hA] at he;rw[show(zsE zs).take rs.length=zsE zs by rw[<-lz,m9]];have hfs:(zsE zs).map Prod.fst=rs:=by unfold zsE;rw[List.map_map,hrs];rfl
    have hhl:=pw L0;refine(Ze∘ZC∘Zav∘Ze∘Za5∘ZbL) ?_;refine z7 (xg (φ:=RsV (kz L0) true) L Z Z (zm Z) Z Z Z ns (fun u H2 hH hle _=>zac hz hH (hv.le hle))) Z ((Zcv∘ZaW) ?_)
    refine xm (fun y:Nat=>[(8,.is (eu b2)),(64,.sat (RsV (kz L0) true)),(65,.is (.int .i64 (kz L0).length)),(66,.is (.int .i64 y)),(902,.own (xp b2 [.int .u64 (sk rs rs.length),.map (some m2),.slice ps (xe L0).length pc,.int .i64 L0.length] tyS)),(903,.own (Ef m2 .u64 vcE (zsE zs)))])
     (fun y=>y<=(kz L0).length/\∀ h∈(kz L0).take y,h∈rs) (fun y=>(kz L0).length-y) 0 ⟨mc _,fun h hh=>by rw[zpv] at hh;cases hh⟩ ⟨rfl,rfl,rfl,rfl,rfl,rfl,nm⟩ ?_
    rintro j ⟨hj,hin⟩;dsimp only at hj hin |-;by_cases hlt2:j<(kz L0).length
    ·obtain⟨h,hh⟩:=xk hlt2;have hc:=Lv hh;have hwk:IntKind.i64.wrap ((j:Int)+1)=((j+1:Nat):Int):=xb T T
     cases hgk:um h (zsE zs) with
     | none=>
      have hni:h∉rs:=fun hm2=>by rw[<-hfs,<-pj,hgk] at hm2;cases hm2
      rw[nc (fun hall=>hni (hall h (zpa hh)))] at he;have q1:(um h (zsE zs)).elim nilSet vcE=nilSet:=by rw[hgk];rfl
      have q2:(um h (zsE zs)).isSome=false:=by rw[hgk];rfl
      refine(Ze∘Zao∘Z6∘Zar∘Zau∘ZcO∘Zd∘Zbv∘Za∘Zap∘Zfg∘Za) ?_;refine yd (u9 (q:=903) (vc:=vcE) h mpS kyS zrS Z Z Z Z Z q1 q2) ((ZB∘Zaw∘Zd∘ZaV∘Za∘Zr∘ZD∘Zcz∘ZR) ?_);exact Ke L (rs:=[.tmp 6,.tmp 7]) Z (fun _ _ h=>h) nq (fun _=>rfl) (fun H u _=>.inr ⟨by omega,by rw[<-he];rfl,fun _ h=>h⟩)
     | some y=>
      have hir:h∈rs:=by rw[<-hfs,<-pj,hgk];rfl
      obtain⟨z,hz1,hz2⟩:=zo9.1 (am hgk);obtain⟨k0,t0,f1,p1,f2,p2⟩:=z;cases hz2;have q1:(um k0 (zsE zs)).elim nilSet vcE=.agg #[f1,.pointer p1,f2,.pointer p2]:=by rw[hgk];rfl
      have q2:(um k0 (zsE zs)).isSome=true:=by rw[hgk];rfl
      have hpl:=(hb.mem_plain (t0,f1,p1,f2,p2) (by rw[hbs];exact zrh (f:=(·.2)) hz1))
      refine(Ze∘Zao∘Z6∘Zar∘Zau∘ZcO∘Zd∘Zbv∘Za∘Zap∘Zfg∘Za) ?_;refine yd (u9 (q:=903) (vc:=vcE) k0 mpS kyS zrS Z Z Z Z Z q1 q2) ((ZB∘ZZ∘Zby∘Zd∘ZaV∘Za∘Zr∘Zch∘Zbe∘Z7∘Zc1) ?_)
      exact ym (x:=j) (j+1) ⟨hlt2,fun a ha=>by
       rw[vl hh,mh,m4] at ha;rcases ha with ha | rfl
       ·exact hin a ha
       ·exact hir⟩ T ⟨Z,Z,Z,Z,Z,Z,nm⟩
    ·obtain rfl:j=(kz L0).length:=by omega
     rw[m9] at hin;rw[na hin] at he;obtain⟨hm,hl,hP⟩:=hS he.symm;subst hP;refine(Ze∘Zao∘Zav∘Zc0∘Za∘ZR) ?_;subst he;rw[show sk rs rs.length=(S.R.length:Int) by rw[hl,lr]];refine wa 902 903 rfl Z (xf _) ?_
     refine vr 902 (StG b2 S).res Z (ff (B:=B) (s:=.slice ps (xe S.P).length pc) (m:=m2) hm (fun e he=>by
      obtain⟨z,hz1,rfl⟩:=zo9.1 he;exact hb z.2 (by rw[hbs];exact zrh (f:=(·.2)) hz1)) hv) ?_
     exact Px L 902 (r0:=StG b2 S) (rs:=[.tmp 6,.tmp 7]) Z (fun _ _ h=>h) nq Z (fun _=>rfl) (fun H u C _ _ h=>.inl ⟨rfl,b2,rfl,h⟩)
end Go.V.L10
namespace Go.V.L11
open Go.V.L2 Go.V.L3 Go.V.L4 Go.V.L6 Go.V.L8 Go.V.L10
abbrev zjy:TypeId:=224
abbrev Sl3:=Option Addr×Nat×Nat
abbrev sl3(x:Sl3):Value:=.slice x.1 x.2.1 x.2.2
abbrev pnC(P:List Int)(x:Sl3):List Value:=[sl3 x,.int .i64 P.length]
abbrev pnQ(P:List Int)(x:Sl3)(H:Heap):Prop:=PsV (xe P) (sl3 x) H
def Gx(P:List Int):oj (pnQ P):=fun _ _ _ h hle=>h.le hle
abbrev PnS(P:List Int):Value->Heap->Prop:=fun v H=>∃ x:Sl3,v=.agg #[sl3 x,.int .i64 P.length]/\pnQ P x H
def PnS.mono:Kn.mono (.sat (PnS P)):=fun _ _ _ ⟨x,h1,h2⟩ hle=>⟨x,h1,h2.le hle⟩
def zkl(v:Value)(H:Heap)(h:PnS P v H):∃ x:Sl3,pnQ P x H/\je v=pnC P x:=by
 obtain⟨x,rfl,h2⟩:=h;exact⟨x,h2,rfl⟩
abbrev PnE(P:List Int):Value->Heap->Prop:=TupS [PnS P,fun v _=>v=.int .i64 0]
def PnE.mono{P:List Int}:Kn.mono (.sat (PnE P)):=TupS.mono fun φ hφ=>by
 simp only[ma,zqx,or_false] at hφ;rcases hφ with rfl | rfl
 ·exact PnS.mono
 ·exact fun _ _ _ h _=>h
def zj5{φ1 φ2:Value->Heap->Prop}{a b:Value}(h1:φ1 a H)(h2:φ2 b H):TupS [φ1,φ2] (.tuple #[a,b]) H:=⟨[a,b],rfl,rfl,fun i φ x hi hx=>by
 match i with
 | 0=>cases hi;cases hx;exact h1
 | 1=>cases hi;cases hx;exact h2
 | i+2=>cases hi⟩
attribute [local irreducible] V N X VO Par XP LV StepOK Has Ret RetL RetO RetT kx RetX RetY Pan ed Src
def Yj(hr:r≠0)(hn:n<=4096)(hnew:r∉L0)(hz2:(xe L0).length<1024)(hz:L0.length<=1000000000000){x:Sl3}(hB:zth B w)(hv:pnQ L0 x B):
  Ret zti 152 [.agg #[sl3 x,.int .i64 L0.length],.int .u64 r,.int .i64 n] w B (PnE (L0++List.replicate n r)):=by
 by_cases h0:n=0
 ·subst h0;have h:=Yl (t:=(L0.length:Int)) hr (p:=x.1) (k:=x.2.1) (c:=x.2.2) hB;refine h.mono fun v H hle e=>?_;subst e;rw[show L0++List.replicate 0 r=L0 from mo _];exact zj5 ⟨x,rfl,hv.le hle⟩ Z
 ·have h:=Yk hr (Nat.pos_of_ne_zero h0) hn hnew hz2 hz hB hv;refine h.mono fun v H hle hp=>?_;obtain⟨s,rfl,hs⟩:=hp;obtain⟨p,c,rfl⟩:=jh hs;exact zj5 ⟨(p,_,c),rfl,hs⟩ Z
end Go.V.L11
namespace Go.V.L11
open Go.V.L2 Go.V.L3 Go.V.L4 Go.V.L6 Go.V.L8 Go.V.L10
structure LdZ(zs:List (Int×List U))(P:List Int)(last:Int):Prop where
 asc:zbv (zs.map (·.1))
 mx:∀ a∈0::zs.map (·.1),a<=last
 lst:sk (zs.map (·.1)) zs.length=last
 pk:∀ r∈P,r∈zs.map (·.1)
 tl:∀ z∈zs,z.2.length<=4096
def LdZ.snoc{last x:Int}(h:LdZ zs P last)(hx:last<x)(hs:s.length<=4096)(n:Nat):LdZ (zs++[(x,s)]) (P++List.replicate n x) x:=by
 have hm:(zs++[(x,s)]).map (·.1)=zs.map (·.1)++[x]:=by rw[zpo];rfl
 refine⟨?_,?_,?_,?_,?_⟩
 ·rw[hm];unfold zbv;rw[<-zpq,zp4];refine⟨h.asc,zqr _ _,fun a ha b hb=>?_⟩;rw[m4.1 hb];have:=h.mx a ha;omega
 ·intro a ha;rw[hm,<-zpq,mh,m4] at ha;rcases ha with ha | rfl
  ·have:=h.mx a ha;omega
  ·omega
 ·rw[hm,nr,zqf];exact i9 (by rw[zsa (by rw[my];omega),my,zql];rfl)
 ·intro r hr;rw[hm,mh];rcases mh.1 hr with h1 | h1
  ·exact .inl (h.pk r h1)
  ·exact .inr (by rw[List.mem_replicate] at h1;rw[h1.2];exact m4.2 Z)
 ·intro z hz;rcases mh.1 hz with h1 | h1
  ·exact h.tl z h1
  ·rw[m4.1 h1];exact hs
def loR(zs:List (Int×List U)):List (Option (List U)):=(List.range (sk (zs.map (·.1)) zs.length).toNat).map fun i=>um ((i+1:Nat):Int) zs
abbrev loS(y:List (Int×List U)×List Int):Sto:=⟨loR y.1,y.2⟩
def LdZ.kpt{zs:List (Int×List U)}{P:List Int}{last:Int}(h:LdZ zs P last)(r:Int):kpt (loR zs) r=um r zs:=by
 by_cases hr:0<r/\r<=last
 ·obtain⟨j,rfl⟩:∃ j:Nat,r=((j+1:Nat):Int):=⟨(r-1).toNat,by omega⟩
  rw[ra];unfold loR;rw[h.lst,zpr,List.getElem?_range T];show(some (um ((j+1:Nat):Int) zs)).join=_;cases um ((j+1:Nat):Int) zs<;>rfl
 ·have h1:um r zs=none:=by
   cases hg:um r zs with
   | none=>rfl
   | some t=>
    have hm:=pj.1 (show(um r zs).isSome=true by rw[hg];rfl);exact ni ⟨(mj.1 h.asc).1 r hm,h.mx r (me _ hm)⟩ hr
  rw[h1]
  cases hk:L10.kpt (loR zs) r with
  | none=>rfl
  | some t=>
   have h2:=bj (R:=loR zs) (r:=r) (by rw[hk];rfl);unfold loR at h2;rw[my,List.length_range,h.lst] at h2;omega
def LdZ.len(h:LdZ zs P last):(loR zs).length=last:=by
 unfold loR;rw[my,List.length_range,h.lst,zpu]
def LdZ.mkE{zs:List (Int×List U)}{P:List Int}{last:Int}(h:LdZ zs P last)(h0:0<zs.length)(h1:zs.length<=1024):mkE (zs.map (·.1)) P=0:=by
 unfold L10.mkE;rw[my,nc T,nc T,na h.asc,na fun r hr=>h.pk r (jr.1 hr)]
def Q9{r:Int}:∀ {zs:List (Int×List U)} {bs:List SB},bs.map Prod.fst=zs.map Prod.snd->(um r (zsE ((zs.map (·.1)).zip bs))).map Prod.fst=um r zs
 | [],bs,h=>by rw[zpk,List.zip_nil_left];rfl
 | z::zs,[],h=>by cases h
 | z::zs,b::bs,h=>by
  rw[mw,mw] at h;obtain⟨h1,h2⟩:=List.cons.inj h;rw[mw,List.zip_cons_cons];unfold zsE;rw[mw,vn,vn];by_cases e:r=z.1
  ·rw[na e,na e,<-h1];rfl
  ·rw[nc e,nc e];exact Q9 h2
def F9:∀ {zs:List (Int×List U)} {bs:List SB},bs.map Prod.fst=zs.map Prod.snd->((zs.map (·.1)).zip bs).map (·.1)=zs.map (·.1)/\((zs.map (·.1)).zip bs).map (·.2)=bs/\((zs.map (·.1)).zip bs).length=zs.length
 | [],[],_=>⟨rfl,rfl,rfl⟩
 | [],b::bs,h=>by cases h
 | z::zs,[],h=>by cases h
 | z::zs,b::bs,h=>by
  rw[mw,mw] at h;obtain⟨_,h2⟩:=List.cons.inj h;have ih:=F9 h2;rw[mw,List.zip_cons_cons,mw,mw,nz,ih.1,ih.2.1,ih.2.2];exact⟨rfl,rfl,rfl⟩
def LdZ.mapOK{last:Int}(h:LdZ zs P last){bs:List SB}(hb:bs.map Prod.fst=zs.map Prod.snd):MapOK (zsE ((zs.map (·.1)).zip bs)) (loR zs):=
 ⟨by
  have h1:(zsE ((zs.map (·.1)).zip bs)).map Prod.fst=zs.map (·.1):=by unfold zsE;rw[List.map_map];exact(F9 hb).1
  rw[h1];exact(mj.1 h.asc).2.imp fun hlt e=>by omega,fun r=>by rw[Q9 hb,h.kpt]⟩
structure LdJ(bs:List Nat)(N:Nat)(Y:((List (Int×List U)×List Int)×Rd)×(Int×Int))(i last:Nat)(s:List U)(zs:List (Int×List U))(P:List Int)(R:Rd):Prop where
 hi:i<=N
 hW:ldW bs (N-i) last s zs P R=Y
 h0:R.err=0
 at_:R.at_<=bs.length
 zl:zs.length=i
 sl:s.length<=4096
 lastB:last<=18446744073709551615
 pn:∀ r∈P,r<=(last:Int)
 pl:P.length<=i*4096
 ph:(xe P).length<=i
 z:LdZ zs P (last:Int)
def LdJ.new{N:Nat}{Y:((List (Int×List U)×List Int)×Rd)×(Int×Int)}(h:LdJ bs N Y i last s zs P R){st:Nat}(hs:0<st):((last+st:Nat):Int)∉P:=fun hm=>by
 have:=h.pn _ hm;omega
def LdJ.next{N:Nat}{Y:((List (Int×List U)×List Int)×Rd)×(Int×Int)}(h:LdJ bs N Y i last s zs P R)(hi:i<N){st:Nat}(g2:0<st/\st<=18446744073709551615-last)(hn:n<=4096){s':List U}{R4:Rd}(hs':s'.length<=4096)(h4:R4.err=0)(a4:R4.at_<=bs.length)
  (hm:N-i=m+1) (hW:ldW bs m (last+st) s' (zs++[(((last+st:Nat):Int),s')]) (P++List.replicate n ((last+st:Nat):Int)) R4=Y):
  LdJ bs N Y (i+1) (last+st) s' (zs++[(((last+st:Nat):Int),s')]) (P++List.replicate n ((last+st:Nat):Int)) R4:=by
 have hb:=h.lastB;have hnew:=h.new g2.1;refine⟨hi,by rw[show N-(i+1)=m by omega];exact hW,h4,a4,by rw[nr,h.zl];rfl,hs',by omega,fun r hr=>?_,?_,?_,h.z.snoc T hs' n⟩
 ·rcases mh.1 hr with h1 | h1
  ·have:=h.pn r h1;omega
  ·rw[List.mem_replicate] at h1;rw[h1.2];exact zqy _
 ·have:=h.pl;rw[nr,List.length_replicate];omega
 ·have hph:=h.ph;by_cases h0:n=0
  ·subst h0;rw[show P++List.replicate 0 ((last+st:Nat):Int)=P from mo _];omega
  ·rw[Cy (Nat.pos_of_ne_zero h0) hnew,rc (Xh _)];omega
abbrev sbQ(zs:List (Int×List U))(x:List SB)(H:Heap):Prop:=x.map Prod.fst=zs.map Prod.snd/\SbOK x H
def Gs(zs:List (Int×List U)):oj (sbQ zs):=fun _ _ _ h hle=>⟨h.1,h.2.le hle⟩
def zcy{x:List SB}{f1 k1:Value}{p1 q1:Option Addr}(h:sbQ zs x H)(hs:SetV s (.agg #[f1,.pointer p1,k1,.pointer q1]) H):sbQ (zs++[(r,s)]) (x++[(s,(f1,p1,k1,q1))]) H:=by
 refine⟨by rw[zpo,zpo,h.1];rfl,fun b hb=>?_⟩;rcases mh.1 hb with h1 | h1
 ·exact h.2 b h1
 ·rw[m4] at h1;subst h1;exact hs
def _root_.Zfh(t:Wr Y->A:=by intro h;refine yd (qg L (q:=921) Z Z Z Z) ?_;exact h.1)(h:Y):A:=t ⟨h⟩
def LdR(y:(List (Int×List U)×List Int)×(Int×Int)):Res where
 P v H u C:=(y.2.2=0/\∃ b,v=.tuple #[eu b,.int .i64 0,.int .i64 0]/\(StG b (loS y.1)).P H u C)\/(y.2.2≠0/\v=.tuple #[.pointer none,.int .i64 y.2.1,.int .i64 y.2.2]/\∀ k,¬ C k)
 st:=fun h a b c d=>h.imp (fun⟨h1,x,h2,h3⟩=>⟨h1,x,h2,(StG x (loS y.1)).st h3 a b c d⟩) id
def zld{f:FuncId}{y:(List (Int×List U)×List Int)×(Int×Int)}(he:y.2.2=0)(h:RetO zti f args w B (LdR y)):RetO zti f args w B (Kh (fun b=>.tuple #[eu b,.int .i64 0,.int .i64 0]) fun b=>StG b (loS y.1)):=
 RetL.mono h fun _ _ _ _ ⟨C,h1,h2⟩=>⟨C,h1.elim (fun⟨_,b,hb,hs⟩=>⟨b,hb,hs⟩) fun h=>ni he h.1,h2⟩
def zgi{t:Nat}(h:κ t=some (.own (SlR Gf 1 ((zs.map (·.1)).length+1) ((zs.map (·.1)).map (Value.int .u64)++[.int .u64 r])))):κ t=some (.own (SlR Gf 1 ((zs++[(r,s)]).map (·.1)).length (((zs++[(r,s)]).map (·.1)).map (Value.int .u64)))):=by
 rw[h,zpo,zpo,nr];rfl
def zg5{t:Nat}{y:List SB}{f1 k1:Value}{p1 q1:Option Addr}(h:κ t=some (.own (SlR tySt 4 (y.length+1) (y.flatMap sbc++[f1,.pointer p1,k1,.pointer q1])))):κ t=some (.own ((fun y:List SB=>SlR tySt 4 y.length (y.flatMap sbc)) (y++[(s,(f1,p1,k1,q1))]))):=by
 rw[h];dsimp only;rw[zpl,nr];rfl
attribute [local irreducible] V N X VO Par XP LV StepOK Has Ret RetL RetO RetT kx RetX RetY Pan ed Src
def pq{B0:Heap}{ba be bs:Nat}{x y z:Value}{a:Int}{z0:List (Int×List U)×List Int}(he:e≠0)(hs:Since (FLd w ba be bs) B0 B):
  XP (FLd w ba be bs) B n O (ofL (KLd ba be bs x y z)) (wrV a e) (bodyPostM Fence.wide 0 zti Tryz.f86 (li w B0 noL (zje w (LdR (z0,(a,e)))))):=
 Ys he hs fun _ _ ⟨v,h1,H,h2,h3⟩=>⟨v,h1,H,h2,fun _=>False,.inr ⟨he,h3,fun _ h=>h⟩,fun _ h=>h.elim⟩
def zdo{bs:List Nat}(hb:∀ b∈bs,b<=255)(hz:bs.length<=1099511627776)(hB:zth B w)(hv:BsV bs fu v B):
  RetO zti 86 [v] w B (LdR (ldF bs)):=by
 obtain⟨p0,c0,rfl⟩:=jh hv;obtain⟨Y0,hY0⟩:∃ Y0,ldF bs=Y0:=⟨_,rfl⟩
 rw[hY0];refine wz Tryz.func86 Z Tryz.ntmps86 (np Z) hB ((Zbm∘ZZ∘Zca) ?_);refine k9 2 910 rfl fun bs0=>?_;refine k9 3 911 rfl fun ba=>?_;refine k9 4 912 rfl fun be=>?_;refine zbi (id:=1) 1 rfl ((Za0∘Zac) ?_);(refine zh0 (K:=1) Z Z Z Z ?_;refine zi ?_);refine Zbz (h:=?_);refine Zy (h:=?_);refine z7 (wh L Z Z (zm Z) Z Z Z (fun u H hH hle _=>zfq hz hH (hv.le hle))) Z ?_;refine rt 15 922 rfl fun rb=>?_;refine U3 (X:=Value) 922 (r:=fun sv=>(GRd rb sv ⟨0,0,0⟩).res) (φ:=fun sv H=>BsV bs false sv H) (hφ:=fun _ _ _ h hle=>h.le hle) Z fun sv H1 hs1 hsv=>?_;refine z7 (yu (cs:=[_,_]) Z Z zm7 Z Z) Z (ZdN (h:=?_));refine qe (yr (.inr Z) Z) (Zi (h:=?_));refine k9 5 921 rfl fun sb=>?_;refine wa 921 922 rfl Z (xf (GRd rb sv ⟨0,0,0⟩)) ?_;obtain⟨z,R1,hz1⟩:∃ z R1,wj bs 1024 ⟨0,0,0⟩=(z,R1):=⟨_,_,rfl⟩
 have ha1:=o9 (bs:=bs) (lim:=1024) (R:=⟨0,0,0⟩) (mc _);have hlv:=fun h=>i8 (bs:=bs) (lim:=1024) (R:=⟨0,0,0⟩) E h;unfold ldF at hY0;rw[hz1] at ha1 hlv hY0;dsimp only at ha1 hlv hY0;by_cases h1:R1.err≠0
 ·rw[na h1] at hY0;subst hY0;refine jt (id:=3) 1 rfl (Zc1 (h:=?_));refine jq (r:=(xw sb rb sv 0 ⟨0,0,0⟩).res) (K:=1) L 921 rfl Z Z Z Z (fun u H C hH hle hr hC=>by have h:=Gp (lim:=1024) (R:=⟨0,0,0⟩) hb hz (mc _) T (by rw[hz1];exact h1) hH (hsv.le hle) hr hC;rw[hz1] at h;exact h) (fun _ _ _ _ h=>h) ?_
  repeat (first | refine wd ?_ | refine jl ?_)
  exact ee (KLd ba be bs0 _ _ _) ⟨Z,Z,Z,Z,Z,Z,nm⟩ (pq h1 hs1)
 ·rw[nc h1] at hY0;have h10:R1.err=0:=m5.1 h1;obtain⟨n,rfl,hn⟩:=hlv h10;by_cases hn0:n=0
  ·subst hn0;rw[na (show((0:Nat):Int)=0 from rfl)] at hY0;subst hY0;refine ZA (h:=?_);refine qe (yh L 921 (xw sb rb sv 0 R1) (.int .i64 ((0:Nat):Int)) (r:=xw sb rb sv 0 ⟨0,0,0⟩) Z Z Z Z Z (fun u H C hH hle hr hC=>by have h:=size_ret (lim:=1024) hb hz (mc _) T (by rw[hz1];exact h10) hH (hsv.le hle) hr hC;rw[hz1] at h;exact h)) ?_;refine Zd (h:=?_);refine jt (id:=4) 3 rfl ((Zb∘ZL∘Zac) ?_);refine jq (r:=(xw sb rb sv 0 R1).res) (K:=3) L 921 rfl Z Z Z Z (fun u H C hH hle hr hC=>f6 hH hr hC) (fun _ _ _ _ h=>h) ?_
   repeat (first | refine wd ?_ | refine jl ?_)
   exact ee (KLd ba be bs0 _ _ _) ⟨Z,Z,Z,Z,Z,Z,nm⟩ (pq E hs1)
  ·rw[nc T,zpu] at hY0;refine ZA (h:=?_);refine qe (yh L 921 (xw sb rb sv 0 R1) (.int .i64 n) (r:=xw sb rb sv 0 ⟨0,0,0⟩) Z Z Z Z Z (fun u H C hH hle hr hC=>by have h:=size_ret (lim:=1024) hb hz (mc _) T (by rw[hz1];exact h10) hH (hsv.le hle) hr hC;rw[hz1] at h;exact h)) ?_;refine(Zd∘Z2∘Zb∘ZO) ?_;refine qe (yx L 921 (xw sb rb sv 0 R1) (r:=xw sb rb sv 0 R1) Z Z Z Z Z (fun u H C hH _ hr hC=>kj hH hr hC)) ((Zi∘Zt∘Zd∘Zs∘Zd∘ZC∘Zca∘Zv∘Zdt∘ZZ∘Zo∘Zbd∘Zan∘ZM∘Zb∘Zdl) ?_);refine ui 7 Gf 1 rfl (ui 8 tySt 4 rfl (ay (X:=List SB) 8 (r:=fun x=>SlR tySt 4 x.length (x.flatMap sbc)) (φ:=sbQ []) (Gs []) [] ⟨rfl,fun _ h=>by cases h⟩ Z ?_));refine ay (X:=Sl3) 9 (r:=fun x=>Cell (pnC [] x) zjy) (φ:=pnQ []) (Gx []) (none,0,0) SlV.nil Z (ay (X:=SXp) 11 (r:=fun x=>Cell (scs x.1) tySt) (φ:=Eh []) (jb []) ⟨(.nilFunc,none,.nilFunc,none),rfl⟩ SetV.nil Z ?_);obtain⟨Y,hY⟩:∃ Y,ldW bs n 0 [] [] [] R1=Y:=⟨_,rfl⟩
   rw[hY] at hY0;have hj0:LdJ bs n Y 0 0 [] [] [] R1:=⟨mc _,hY,h10,ha1,rfl,mc _,by decide,(fun _ h=>by cases h),mc _,mc _,⟨zqr _ _,fun a ha=>by rw[zpk,m4] at ha;subst ha;exact zqy _,rfl,(fun _ h=>by cases h),(fun _ h=>by cases h)⟩⟩
   refine xm (fun x:Nat×Nat×List U×List (Int×List U)×List Int×Rd×Nat=>[(2,.is (kg bs0)),(3,.is (kg ba)),(4,.is (kg be)),(910,.own (xp bs0 [.pointer none] tyPS)),(911,.own (xp ba [.int .i64 0] zb4)),(912,.own (xp be [.int .i64 0] Ni)),(5,.is (kg sb)),
    (7,.own (SlR Gf 1 (x.2.2.2.1.map (·.1)).length ((x.2.2.2.1.map (·.1)).map (Value.int .u64)))),(8,.own (ExR (fun y:List SB=>SlR tySt 4 y.length (y.flatMap sbc)) (sbQ x.2.2.2.1) (Gs _))),(9,.own (ExR (fun y:Sl3=>Cell (pnC x.2.2.2.2.1 y) zjy) (pnQ x.2.2.2.2.1) (Gx _))),(10,.is (.int .u64 x.2.1)),(11,.own (ExR (fun y:SXp=>Cell (scs y.1) tySt) (Eh x.2.2.1) (jb _))),(25,.is (.int .i64 n)),(26,.is (.int .i64 x.1)),(921,.own (xw sb rb sv x.2.2.2.2.2.2 x.2.2.2.2.2.1).res)])
    (fun x=>LdJ bs n Y x.1 x.2.1 x.2.2.1 x.2.2.2.1 x.2.2.2.2.1 x.2.2.2.2.2.1) (fun x=>n-x.1) (0,0,[],[],[],R1,0) hj0 ⟨rfl,rfl,rfl,rfl,rfl,rfl,rfl,rfl,rfl,rfl,rfl,rfl,rfl,rfl,rfl,nm⟩ ?_
   rintro⟨i,last,s,zs,P,R,fr⟩ hj;dsimp only at hj |-;have hRa:=hj.at_;by_cases hlt:i<n
   ·obtain⟨m,hm⟩:∃ m,n-i=m+1:=⟨n-i-1,by omega⟩
    have hW:=hj.hW;rw[hm] at hW;unfold ldW at hW;have ha2:(sg bs R).2.at_<=bs.length:=eg hRa (O9 hRa);have hlB:=hj.lastB;have hsl:=hj.sl;obtain⟨st,R2,hz2⟩:∃ st R2,sg bs R=(st,R2):=⟨_,_,rfl⟩
    rw[hz2] at hW ha2;dsimp only at hW ha2;refine v8 (r1:=xp sb [kg rb,.int .i64 fr] Qc) (r2:=(GRd rb sv R).res) 921 922 rfl (xf _) ?_;by_cases h2:R2.err≠0
    ·rw[na h2] at hW;subst hW;rw[na (by exact h2)] at hY0;subst hY0;refine(Ze∘ZI∘Z6) ?_;refine jt (id:=11) 6 rfl ((Zb∘Zap∘Zfh) ?_);refine jo 921 922 rfl Z (xf (GRd rb sv R)) ?_;refine(Za0∘Zac) ?_;refine jq (r:=(xw sb rb sv fr R).res) (K:=6) L 921 rfl Z Z Z Z (fun u H C hH hle hr hC=>N9 (x:=st) (fst:=[kg rb]) (cap:=[]) Z h2 hH hr hC (fun u3 H3 C3 hH3 hle3 hr3 hC3=>by have h:=Qm hb hz hRa hH3 ((hsv.le hle).le hle3) hr3 hC3;rw[hz2] at h;exact h)) (fun _ _ _ _ h=>h) ?_
     repeat (first | refine wd ?_ | refine jl ?_)
     exact ee (KLd ba be bs0 _ _ _) ⟨Z,Z,Z,Z,Z,Z,nm⟩ (pq h2 hs1)
    ·rw[nc h2] at hW;have h20:R2.err=0:=m5.1 h2;have hws:IntKind.u64.wrap (18446744073709551615-(last:Int))=((18446744073709551615-last:Nat):Int):=(wrap_u64 T T).trans T;by_cases h3:¬ (0<st/\st<=18446744073709551615-last)
     ·rw[na h3] at hW;subst hW;rw[na (show(5:Int)≠0 by decide)] at hY0;subst hY0;by_cases hst0:st=0
      ·have hst1:((st:Nat):Int)=0:=T;refine(Ze∘ZI∘Z6∘ZY∘Zb∘Zap∘Zfh) ?_;refine jo 921 922 rfl Z (xf (GRd rb sv R)) ?_;refine Za0 (h:=?_);refine qe (yh L 921 (xw sb rb sv R.at_ R2) (.int .u64 st) (r:=xw sb rb sv fr R) Z Z Z Z Z (fun u H C hH hle hr hC=>o3 (fst:=[kg rb]) (cap:=[]) Z h20 hH hr hC (fun u3 H3 C3 hH3 hle3 hr3 hC3=>by have h:=Qm hb hz hRa hH3 ((hsv.le hle).le hle3) hr3 hC3;rw[hz2] at h;exact h))) ?_;refine Zd (h:=?_);refine jt (id:=12) 9 rfl ((Zb∘ZL∘Zaz∘Zh∘Zac) ?_);refine jq (r:=(xw sb rb sv R.at_ R2).res) (K:=9) L 921 rfl Z Z Z Z (fun u H C hH hle hr hC=>f6 hH hr hC) (fun _ _ _ _ h=>h) ?_
       repeat (first | refine wd ?_ | refine jl ?_)
       exact ee (KLd ba be bs0 _ _ _) ⟨Z,Z,Z,Z,Z,Z,nm⟩ (pq E hs1)
      ·have hst1:0<st/\18446744073709551615-last<st:=T;refine(Ze∘ZI∘Z6∘ZY∘Zb∘Zap∘Zfh) ?_;refine jo 921 922 rfl Z (xf (GRd rb sv R)) ?_;refine Za0 (h:=?_);refine qe (yh L 921 (xw sb rb sv R.at_ R2) (.int .u64 st) (r:=xw sb rb sv fr R) Z Z Z Z Z (fun u H C hH hle hr hC=>o3 (fst:=[kg rb]) (cap:=[]) Z h20 hH hr hC (fun u3 H3 C3 hH3 hle3 hr3 hC3=>by have h:=Qm hb hz hRa hH3 ((hsv.le hle).le hle3) hr3 hC3;rw[hz2] at h;exact h))) ?_;refine Zd (h:=?_);refine jt (id:=12) 9 rfl ((Zb∘ZO∘Z3∘Za9∘Zc7∘Zh∘Zac) ?_);refine jq (r:=(xw sb rb sv R.at_ R2).res) (K:=9) L 921 rfl Z Z Z Z (fun u H C hH hle hr hC=>f6 hH hr hC) (fun _ _ _ _ h=>h) ?_
       repeat (first | refine wd ?_ | refine jl ?_)
       exact ee (KLd ba be bs0 _ _ _) ⟨Z,Z,Z,Z,Z,Z,nm⟩ (pq E hs1)
     ·rw[nc h3] at hW;have h30:=m5.1 h3;have hwa:IntKind.u64.wrap ((last:Int)+(st:Int))=((last+st:Nat):Int):=(wrap_u64 T T).trans T;have ha3:=o9 (bs:=bs) (lim:=4096) ha2;have hlv2:=fun h=>i8 (bs:=bs) (lim:=4096) (R:=R2) E h;obtain⟨zq,R3,hz3⟩:∃ zq R3,wj bs 4096 R2=(zq,R3):=⟨_,_,rfl⟩
      rw[hz3] at hW ha3 hlv2;dsimp only at hW ha3 hlv2;refine(Ze∘ZI∘Z6∘ZY∘Zb∘Zap∘Zfh) ?_;refine jo 921 922 rfl Z (xf (GRd rb sv R)) ?_;refine Za0 (h:=?_);refine qe (yh L 921 (xw sb rb sv R.at_ R2) (.int .u64 st) (r:=xw sb rb sv fr R) Z Z Z Z Z (fun u H C hH hle hr hC=>o3 (fst:=[kg rb]) (cap:=[]) Z h20 hH hr hC (fun u3 H3 C3 hH3 hle3 hr3 hC3=>by have h:=Qm hb hz hRa hH3 ((hsv.le hle).le hle3) hr3 hC3;rw[hz2] at h;exact h))) ?_;refine(Zd∘Zaa∘Zb∘ZO∘Z3∘Za9∘ZcF∘Zh) ?_;refine qe (yx L 921 (xw sb rb sv R.at_ R2) (r:=xw sb rb sv R.at_ R2) Z Z Z Z Z (fun u H C hH _ hr hC=>kj hH hr hC)) ((Zi∘Zak∘Zb∘Z7∘Zd) ?_);refine v9 9 rfl fun x9 H2 hs2 hp9=>?_;obtain⟨pp,pk,pc⟩:=x9;dsimp only at hp9 |-;have hs12:=hs1.trans hs2;have hsv2:=hsv.le hs2.le;by_cases h4:R3.err≠0
      ·rw[na h4] at hW;subst hW;rw[na (by exact h4)] at hY0;subst hY0;refine F5 (id:=14) 3 [(52,[921]),(200052,[2,3,4,910,911,912])] ki Z J (jv (zw L (vs:=[_,_]) (y9 Z) Z Z Z Z ⟨_,rfl⟩) Z (Ze0 (h:=?_)));refine Ze0 (h:=?_);refine r8 [(2,.is (kg bs0)),(3,.is (kg ba)),(4,.is (kg be)),(910,.own (xp bs0 [.pointer none] tyPS)),(911,.own (xp ba [.int .i64 0] zb4)),(912,.own (xp be [.int .i64 0] Ni)),(51,.is (kg sb)),(921,.own (xw sb rb sv R.at_ R2).res)] J ⟨Z,Z,Z,Z,Z,Z,Z,Z,nm⟩ (jq (r:=(xw sb rb sv R.at_ R2).res) (K:=3) L 921 rfl Z Z Z Z (fun u H C hH hle hr hC=>by have h:=Gp (lim:=4096) hb hz ha2 T (by rw[hz3];exact h4) hH (hsv2.le hle) hr hC;rw[hz3] at h;exact h) (fun _ _ _ _ h=>h) ?_)
       repeat (first | refine wd ?_ | refine jl ?_)
       exact ee (KLd ba be bs0 _ _ _) ⟨Z,Z,Z,Z,Z,Z,nm⟩ (pq h4 hs12)
      ·rw[nc h4] at hW;have h40:R3.err=0:=m5.1 h4;obtain⟨k,rfl,hk⟩:=hlv2 h40;rw[zpu] at hW;have hnew:=hj.new h30.1;have hph:=hj.ph;have hpl0:=hj.pl;have hr0:((last+st:Nat):Int)≠0:=T;have hm1:Kn.mono (.sat (PnS (P++List.replicate k ((last+st:Nat):Int)))):=PnS.mono;have hm2:Kn.mono (.sat (fun v _=>v=Value.int .i64 0)):=fun _ _ _ h _=>h;refine qo (id:=14) [(52,[921])] ki J (z8 (zw L (vs:=[_,_]) (y9 Z) Z Z Z Z ⟨_,rfl⟩) Z (Zn (h:=?_)));refine xq (yh L 921 (xw sb rb sv R2.at_ R3) (.int .i64 k) (r:=xw sb rb sv R.at_ R2) Z Z Z Z Z (fun u H C hH hle hr hC=>by have h:=size_ret (lim:=4096) hb hz ha2 T (by rw[hz3];exact h40) hH (hsv2.le hle) hr hC;rw[hz3] at h;exact h)) Z Z ?_;refine z8 (xg (φ:=PnE (P++List.replicate k ((last+st:Nat):Int))) L Z Z (zm Z) Z Z Z PnE.mono (fun u H hH hle _=>Yj (x:=(pp,pk,pc)) hr0 hk hnew T T hH (SlV.le hp9 hle))) Z ((Zab∘Zfp) ?_);refine z8 (c8 L (X:=Sl3) (fun x=>pnC (P++List.replicate k ((last+st:Nat):Int)) x) (pnQ (P++List.replicate k ((last+st:Nat):Int))) (Gx _) zkl (fun x=>⟨rfl,rfl⟩) Z Z Z Z Z) Z (ZaZ (h:=?_));refine v9 11 rfl fun x11 H3 hs3 hset=>?_;obtain⟨⟨f1,p1,f2,p2⟩,hpl⟩:=x11;dsimp only[scs] at hset hpl |-;have hs13:=hs12.trans hs3;have hsv3:=hsv2.le hs3.le;have ha4:=ziv (l:=s) ha3;have hsl4:=zei (bs:=bs) (R:=R3) hsl;have he4:=fun h=>zej (bs:=bs) (l:=s) (R:=R3) h;have hcr:=fun(h:(Bc bs s R3).2.2=0) {v:Value} {w:World} {B:Heap} {C:Nat->Prop} (hB:zth B w) (hs:BsV bs false sv B) (hv:SetV s v B) (hr:(xw sb rb sv R2.at_ R3).P B w C) (hC:ZCB C w B)=>Pq hsl hb hz ha3 h hB hs hv hr hC;have hcp:=fun(h:(Bc bs s R3).2.2≠0) {v:Value} {w:World} {B:Heap} {C:Nat->Prop} (hB:zth B w) (hs:BsV bs false sv B) (hv:SetV s v B) (hr:(xw sb rb sv R2.at_ R3).P B w C) (hC:ZCB C w B)=>Pr hsl hb hz ha3 h hB hs hv hr hC;generalize Bc bs s R3=ztb at hW ha4 hsl4 he4 hcr hcp;obtain⟨⟨s',R4⟩,⟨ca,ce⟩⟩:=ztb;dsimp only at hW ha4 hsl4 he4 hcr hcp;by_cases h5:ce≠0
       ·rw[na h5] at hW;subst hW;rw[na (by exact h5)] at hY0;subst hY0;refine jt (id:=15) 2 rfl ((Za∘ZaH∘Zac) ?_);refine jq (r:=(xw sb rb sv R2.at_ R3).res) (K:=2) L 921 rfl Z Z Z Z (fun u H C hH hle hr hC=>hcp h5 hH (hsv3.le hle) (hset.le hle) hr hC) (fun _ _ _ _ h=>h) ?_
        repeat (first | refine wd ?_ | refine jl ?_)
        exact ee (KLd ba be bs0 _ _ _) ⟨Z,Z,Z,Z,Z,Z,nm⟩ (pq h5 hs13)
       ·rw[nc h5] at hW;have h50:ce=0:=m5.1 h5;have hj2:=hj.next hlt (st:=st) (n:=k) h30 hk hsl4 (he4 h50) ha4 hm hW;refine(Zao∘Za∘ZaH) ?_;refine qe (ey L 921 (xw sb rb sv R3.at_ R4) (SetV s') (r:=xw sb rb sv R2.at_ R3) Z Z Z Z Z SetV.mono (fun u H C hH hle hr hC=>hcr h50 hH (hsv3.le hle) (hset.le hle) hr hC)) (z7 (c8 L (X:=SXp) (fun x=>scs x.1) (Eh s') (jb _) Lh (fun x=>⟨rfl,x.2⟩) Z Z Z Z Z) Z (ZF (h:=?_)));refine v9 11 rfl fun x12 H4 hs4 hset4=>?_;obtain⟨⟨f3,p3,f4,p4⟩,hpl4⟩:=x12;dsimp only[scs] at hset4 hpl4 |-;refine v9 8 rfl fun y8 H5 hs5 hq8=>?_;have hset5:=hset4.le hs5.le;have hzl1:(zs.map (·.1)).length<=1024:=by rw[my,hj.zl];omega
        have hyl1:y8.length<=1024:=by have h:=nh List.length hq8.1;rw[my,my,hj.zl] at h;omega
        refine qo (id:=16) [(59,[7]),(62,[59]),(63,[8]),(66,[63]),(7,[62]),(8,[66])] ki J (xq (yr (.inl Z) Z) Z Z ((Zl∘Zd4) ?_));refine xq (w7 L Z Z Z (rf Z) Z zjm Z Z T T) Z Z (xq (yr (.inl Z) Z) Z Z ((Zcu∘Zd4) ?_));refine xq (w7 L Z Z Z (rf Z) Z zo7 Z M T T) Z Z (xq (yr (.inr Z) Z) Z Z (xq (yr (.inr Z) Z) Z Z ((Zck∘ZaE∘Zbv∘ZX) ?_)));refine ot (X:=List SB) 8 (r:=fun x=>SlR tySt 4 x.length (x.flatMap sbc)) (Gs _) (y8++[(s',(f3,p3,f4,p4))]) (zcy (r:=((last+st:Nat):Int)) hq8 hset5) (by exact zg5 Z) ?_;exact ot (X:=SXp) 11 (r:=fun x=>Cell (scs x.1) tySt) (jb s') ⟨(f3,p3,f4,p4),hpl4⟩ hset5 Z (jk (x:=(i,last,s,zs,P,R,fr)) (i+1,last+st,s',zs++[(((last+st:Nat):Int),s')],P++List.replicate k ((last+st:Nat):Int),R4,R3.at_) (hs2.trans (hs3.trans (hs4.trans hs5))) hj2 (Nat.sub_lt_sub_left hlt (zr7 i)) ⟨Z,Z,Z,Z,Z,Z,Z,zgi Z,Z,Z,Z,Z,Z,Z,Z,nm⟩)
   ·obtain rfl:i=n:=by have:=hj.hi;omega
    have hW:=hj.hW;rw[zql] at hW;have hW2:(((zs,P),R),((0:Int),(0:Int)))=Y:=hW;subst hW2;rw[nc (fun h=>h rfl)] at hY0;dsimp only at hY0;by_cases h5:(Fv bs R).2≠0
    ·rw[na h5] at hY0;subst hY0;refine(Ze∘ZI∘Zav) ?_;refine jt (id:=18) 1 rfl (Zc1 (h:=?_));refine jq (r:=(xw sb rb sv fr R).res) (K:=1) L 921 rfl Z Z Z Z (fun u H C hH hle hr hC=>Tb hz hRa h5 hH (hsv.le hle) hr hC) (fun _ _ _ _ h=>h) ?_
     repeat (first | refine wd ?_ | refine jl ?_)
     exact ee (KLd ba be bs0 _ _ _) ⟨Z,Z,Z,Z,Z,Z,nm⟩ (pq h5 hs1)
    ·rw[nc h5] at hY0;subst hY0;have h50:(Fv bs R).2=0:=m5.1 h5;have hZ:=hj.z;have hzl:=hj.zl;have hph:=hj.ph;have hpl0:=hj.pl;have hmk:=hZ.mkE T T;refine v9 8 rfl fun y8 H2 hs2 hq8=>?_;refine v9 9 rfl fun x9 H3 hs3 hp9=>?_;obtain⟨pp,pk,pc⟩:=x9;have hs13:=hs1.trans (hs2.trans hs3);have hsv3:=(hsv.le hs2.le).le hs3.le;have hqs:=hq8.2.le hs3.le;have hzk:=F9 hq8.1;have hmo:=hZ.mapOK hq8.1;refine(Ze∘ZI∘Zav∘ZaV∘Za) ?_;refine qe (yx L 921 (xw sb rb sv fr R) (r:=xw sb rb sv fr R) Z Z Z Z Z (fun u H C hH hle hr hC=>Ta hz hRa h50 hH (hsv3.le hle) hr hC)) (Zi (h:=?_));refine uq 7 rfl (uq 8 rfl ((Zcz∘Zk∘Zk∘Zc6) ?_));refine z7 (wh L Z Z (zm Z) Z Z Z (fun u H hH hle _ v1 h1 v2 h2=>by have h:=Te (zs:=(zs.map (·.1)).zip y8) (L0:=P) (S:=loS (zs,P)) (e:=0) (by rw[hzk.1];exact hmk) (fun _=>⟨hmo,(nh (Nat.cast (R:=Int)) hZ.len).trans (by rw[hzk.1,hzk.2.2];exact hZ.lst.symm),rfl⟩) T T (by rw[hzk.2.2];omega) hH (by rw[hzk.1];exact h1) (by rw[hzk.2.1];exact h2) (by rw[hzk.2.1];exact hqs.le hle) (SlV.le hp9 hle);exact zk5 h)) Z ?_;refine rt 74 930 rfl fun b2=>?_;refine ZB (h:=?_);refine xl (yo L (q:=910) (cs':=[eu b2]) Z Z Z Z Z) (Zi (h:=?_));refine Zbe (h:=?_);refine yd (qg L (q:=910) Z Z Z Z) (xl (yo L (q:=910) (cs':=[eu b2]) Z Z Z Z Z) (xl (yo L (q:=911) (cs':=[.int .i64 0]) Z Z Z Z Z) (xl (yo L (q:=912) (cs':=[.int .i64 0]) Z Z Z Z Z) (ZF (h:=?_)))));refine wa 912 910 rfl Z (cd _ _ _) ?_;refine wa 911 912 rfl Z (xf (gj (xc be [.int .i64 0] Ni) (xc bs0 [eu b2] tyPS))) ?_;refine zl4 L 911 (r:=G3 ba be bs0 (.int .i64 0) (.int .i64 0) (eu b2)) (r':=G3 ba be bs0 (.int .i64 0) (.int .i64 0) (if (0:Int)=0 then eu b2 else .pointer none)) Z Z Z (fun u H C hH _ hr hC=>Mo RecM.idle (fun u H hH=>Pt hH) hH hr hC) ?_ (fun _ _ h=>h);rw[na rfl];refine Hf (r1:=xp ba [.int .i64 0] zb4) (r2:=(gj (xc be [.int .i64 0] Ni) (xc bs0 [eu b2] tyPS)).res) 911 912 rfl (xf _) ?_;refine Hf (r1:=xp be [.int .i64 0] Ni) (r2:=xp bs0 [eu b2] tyPS) 912 910 rfl (cd _ _ _) ?_;exact l9 3 911 rfl Z (l9 4 912 rfl Z (l9 2 910 rfl Z (zdn L 930 (r0:=StG b2 (loS (zs,P))) (rs:=[.cell 2 tyPS,.cell 3 zb4,.cell 4 Ni]) Z hs13 Z (fun H=>wm (y9 Z) Z (wm (y9 Z) Z (wm (y9 Z) Z Z))) (fun H u C _ _ h=>.inl ⟨rfl,b2,rfl,h⟩))))
end Go.V.L11
namespace Go.V
section
variable {P:Program}           
end
end Go.V
section
open Go.V
attribute [local irreducible] Has LV N Pan Par Ret RetL RetO RetT RetX RetY Src StepOK V VO X XP ed kx
namespace Go.V.L11
open Go.V.L2 Go.V.L4 Go.V.L6 Go.V.L8 Go.V.Bd
open Go.V.L3
abbrev rv(sv:Value)(R:Rd):Value:=.agg #[sv,.int .i64 R.at_,.int .i64 R.bad,.int .i64 R.err]
def vw(bs:List Nat)(R:Rd):Nat->Rd
 | 0=>R
 | i+1=>(lj bs 16 (vw bs R i)).2
def zdi(bs:List Nat)(R:Rd):Nat->List ByteArray
 | 0=>[]
 | i+1=>zdi bs R i++[(lj bs 16 (vw bs R i)).1]
def zmj(bs:List Nat)(R:Rd):List ByteArray×Rd:=
 if (vw bs R 6).err≠0 then ([sZ,sZ,sZ,sZ,sZ,sZ],⟨R.at_,(vw bs R 6).bad,(vw bs R 6).err⟩) else (zdi bs R 6,vw bs R 6)
def tupS2{φ1 φ2:Value->Heap->Prop}{a b:Value}(h1:φ1 a H)(h2:φ2 b H):TupS [φ1,φ2] (.tuple #[a,b]) H:=⟨[a,b],rfl,rfl,fun i φ x hi hx=>by
 match i with
 | 0=>cases hi;cases hx;exact h1
 | 1=>cases hi;cases hx;exact h2
 | i+2=>cases hi⟩
def vz{f:Rd->α×Rd}{z:α}(h:R.err≠0):dq f z R=(z,R):=na h
def Bf{β:Type}{f:Rd->α×Rd}{g:Rd->β×Rd}{zf:α}{zg:β}(hf:∀ R:Rd,R.err≠0->f R=(zf,R))(hg:∀ R:Rd,R.err≠0->g R=(zg,R))(R:Rd):
  dq (Gh f g) (zf,zg) R=if (g (f R).2).2.err≠0 then ((zf,zg),⟨R.at_,(g (f R).2).2.bad,(g (f R).2).2.err⟩) else (((f R).1,(g (f R).2).1),(g (f R).2).2):=by
 unfold dq;by_cases h0:R.err≠0
 ·rw[na h0,hf R h0];dsimp only;rw[hg R h0,na h0]
 ·rw[nc h0];rfl
def si{k:Nat}(h:(vw bs R k).err≠0):vw bs R (k+1)=vw bs R k:=nh Prod.snd (vz (f:=Ve bs 16) (z:=sZ) h)
def zhx:O7 bs R=if (vw bs R 2).err≠0 then ((sZ,sZ),⟨R.at_,(vw bs R 2).bad,(vw bs R 2).err⟩) else (((lj bs 16 R).1,(lj bs 16 (vw bs R 1)).1),vw bs R 2):=
 Bf (fun _ h=>vz h) (fun _ h=>vz h) R
def s5:wq bs R=if (vw bs R 3).err≠0 then (n3,⟨R.at_,(vw bs R 3).bad,(vw bs R 3).err⟩) else ((((lj bs 16 R).1,(lj bs 16 (vw bs R 1)).1),(lj bs 16 (vw bs R 2)).1),vw bs R 3):=by
 have h:=Bf (f:=O7 bs) (g:=lj bs 16) (zf:=(sZ,sZ)) (zg:=sZ) (fun _ h=>vz h) (fun _ h=>vz h) R;unfold wq;refine h.trans ?_;rw[zhx];by_cases h2:(vw bs R 2).err≠0
 ·rw[na h2];dsimp only;have hs:lj bs 16 ⟨R.at_,(vw bs R 2).bad,(vw bs R 2).err⟩=(sZ,⟨R.at_,(vw bs R 2).bad,(vw bs R 2).err⟩):=vz h2;rw[hs,si h2,na h2,na h2]
 ·rw[nc h2];rfl
def uOf:List ByteArray->U
 | [a,b,c,d,e,f]=>(((a,b),c),((d,e),f))
 | _=>(n3,n3)
def Q7:vw bs (vw bs R 3) 3=vw bs R 6:=by simp only[vw]
def Yg:vw bs (vw bs R 3) 1=vw bs R 4:=by simp only[vw]
def Yh:vw bs (vw bs R 3) 2=vw bs R 5:=by simp only[vw]
def zdh:zdi bs R 6=[(lj bs 16 R).1,(lj bs 16 (vw bs R 1)).1,(lj bs 16 (vw bs R 2)).1,(lj bs 16 (vw bs R 3)).1,(lj bs 16 (vw bs R 4)).1,(lj bs 16 (vw bs R 5)).1]:=by
 simp only[zdi,vw,mi,zpq]
def T4(h3:(vw bs R 3).err≠0):vw bs R 6=vw bs R 3:=by
 have h4:=si h3;have h5:=si (k:=4) (h4 ▸ h3);have h6:=si (k:=5) (h5 ▸ h4 ▸ h3);exact h6.trans (h5.trans h4)
def Gi:tq bs R=if (wq bs (wq bs R).2).2.err≠0 then ((n3,n3),⟨R.at_,(wq bs (wq bs R).2).2.bad,(wq bs (wq bs R).2).2.err⟩) else (((wq bs R).1,(wq bs (wq bs R).2).1),(wq bs (wq bs R).2).2):=Bf (f:=wq bs) (g:=wq bs) (zf:=n3) (zg:=n3) (fun _ h=>vz h) (fun _ h=>vz h) R
def Uh(h:R.err≠0):wq bs R=(n3,R):=vz h
def Ph(h:e≠0):wq bs ⟨a,b,e⟩=(n3,⟨a,b,e⟩):=Uh (R:=⟨a,b,e⟩) h
def zaa{x y:α}(h:e≠0):(if (⟨a,b,e⟩:Rd).err≠0 then x else y)=x:=na h
def zj4(h3:(vw bs R 3).err≠0):tq bs R=((n3,n3),⟨R.at_,(vw bs R 3).bad,(vw bs R 3).err⟩):=by
 have hG:=s5 (bs:=bs) (R:=R);rw[na h3] at hG;rw[Gi,hG];generalize vw bs R 3=ztg at h3 |-;obtain⟨q1,q2,q3⟩:=ztg;have hs:=Ph (bs:=bs) (a:=R.at_) (b:=q2) h3;dsimp only at hs |-;rw[hs];exact zaa h3
def zmv{Q3:Rd}{g:Ed}(hG:wq bs R=(g,Q3))(hg:wq bs Q3=(n3,⟨a,b,e⟩))(h6:e≠0):tq bs R=((n3,n3),⟨R.at_,b,e⟩):=by
 rw[Gi,hG];dsimp only;rw[hg];exact zaa h6
def zmu{Q3 Q6:Rd}{g h:Ed}(hG:wq bs R=(g,Q3))(hg:wq bs Q3=(h,Q6))(h6:¬ Q6.err≠0):tq bs R=((g,h),Q6):=by
 rw[Gi,hG];dsimp only;rw[hg];exact nc h6
def zj3(h3:¬ (vw bs R 3).err≠0)(h6:(vw bs R 6).err≠0):tq bs R=((n3,n3),⟨R.at_,(vw bs R 6).bad,(vw bs R 6).err⟩):=by
 have hG:=s5 (bs:=bs) (R:=R);rw[nc h3] at hG;have hg:=s5 (bs:=bs) (R:=vw bs R 3);rw[Q7,na h6] at hg;exact zmv hG hg h6
def zj2(h3:¬ (vw bs R 3).err≠0)(h6:¬ (vw bs R 6).err≠0):tq bs R=(((((lj bs 16 R).1,(lj bs 16 (vw bs R 1)).1),(lj bs 16 (vw bs R 2)).1),(((lj bs 16 (vw bs R 3)).1,(lj bs 16 (vw bs R 4)).1),(lj bs 16 (vw bs R 5)).1)),vw bs R 6):=by
 have hG:=s5 (bs:=bs) (R:=R);rw[nc h3] at hG;have hg:=s5 (bs:=bs) (R:=vw bs R 3);rw[Q7,Yg,Yh,nc h6] at hg;exact zmu hG hg h6
def zb8:tq bs R=(uOf (zmj bs R).1,(zmj bs R).2):=by
 unfold zmj;by_cases h3:(vw bs R 3).err≠0
 ·rw[zj4 h3,T4 h3,na h3];dsimp only[uOf]
 ·by_cases h6:(vw bs R 6).err≠0
  ·rw[zj3 h3 h6,na h6];dsimp only[uOf]
  ·rw[zj2 h3 h6,nc h6,zdh];dsimp only[uOf]
end Go.V.L11
end
namespace Go.V.L11
open Go.V.L2 Go.V.L4 Go.V.L8 Go.V.Bd
def ez{s:ByteArray}{c:UInt8}(h:chk s=0)(hc:okB c=false):noB s c:=by
 unfold chk at h;split at h
 ·rename_i hk;have:=zph.1 hk.2.2;exact fun hm=>by have:=this _ hm;rw[hc] at this;cases this
 ·exact ni h E
def zdg{t:U}(h:tE t=0):noB (tT t) 10:=by
 obtain⟨⟨⟨x,y⟩,z⟩,⟨⟨x2,y2⟩,z2⟩⟩:=t;unfold tE at h;dsimp only at h;split at h
 ·rename_i h1;obtain⟨c1,c2,c3⟩:=Kd h1;obtain⟨d1,d2,d3⟩:=fh h;have k:okB 10=false:=E
  have n1:noB (cr x y z) 10:=by
   unfold cr G8;exact wc (wc (wc (wc (ez c1 k) (lg E)) (ez c2 k)) (lg E)) (ez c3 k)
  have n2:noB (oe x2 y2 z2) 10:=by
   unfold oe;split
   ·unfold G8;exact wc (wc (ez d1 k) (lg E)) (ez d2 k)
   ·rename_i hz;unfold cr G8;exact wc (wc (wc (wc (ez d1 k) (lg E)) (ez d2 k)) (lg E)) (ez (d3.resolve_left hz) k)
  unfold tT;exact wc (wc n1 (lg E)) n2
 ·rename_i h1;exact ni h h1
def Ck(s:ByteArray)(l:List Nat):og (dm s++l)=s++og l:=by
 apply dp;rw[j7];unfold og dm;simp only[zpo,zri];show List.map (UInt8.ofNat∘fun c=>c.toNat) s.data.toList++_=s.data.toList++_;rw[zso (g:=id) fun c _=>by simp,zsb]
def Vq:og []=⟨#[]⟩:=rfl
def Yu{X:Type}{f:X->ByteArray}:∀ {l:List X},(∀ x∈l,noB (f x) 10)->a8 (og (l.flatMap fun x=>dm (f x++sNl)))=l.map fun x=>f x++sNl
 | [],_=>rfl
 | x::l,h=>by
  rw[zp0,Ck,Ri (h x (mb ..)),Yu fun y hy=>h y (me _ hy)];rfl
def Qu{X:Type}{f:X->ByteArray}{rd:ByteArray->X×Int}:∀ {l:List X} {out:List X} {n:Nat},(∀ x∈l,rd (f x)=(x,0))->n+l.length<=4097->rq rd out n (l.map fun x=>f x++sNl)=(out++l,0,0)
 | [],out,n,_,_=>by rw[mo];rfl
 | x::l,out,n,h,hn=>by
  rw[nz] at hn;show rq rd out n ((f x++sNl)::l.map fun x=>f x++sNl)=_;unfold rq;rw[nc T,zij];dsimp only;rw[h x (mb ..),nc (by simp),Qu (fun y hy=>h y (me _ hy)) T,mn];rfl
def zce(l:List U):a7 l=l.flatMap fun t=>dm (tT t++sNl):=by
 unfold a7;congr 1
def Ku:∀ {l:List U},S3 l=0->∀ t∈l,tE t=0
 | t::l,h,x,hx=>by
  unfold S3 at h;by_cases h0:tE t=0
  ·rw[nc (fun h=>h h0)] at h;rcases ma.1 hx with rfl | hx
   ·exact h0
   ·exact Ku h x hx
  ·rw[na h0] at h;exact ni h h0
def zc3{s:ByteArray}(h:Ce l=(s,0))(hz:s.size<=1000000):Uw ptA s=(l,0,0):=by
 unfold Ce at h;split at h
 ·cases nh Prod.snd h
 ·rename_i hl;have h2:=nh Prod.snd h;dsimp only at h2;rw[nc (fun h=>h h2)] at h;have h1:=nh Prod.fst h;dsimp only at h1;have hv:=Ku h2;unfold Uw;rw[nc T,<-h1,zce,Yu (fun t ht=>zdg (hv t ht)),Qu (fun t ht=>Xe (hv t ht)) T];rfl
open Go.V.L3 Go.V.L6
def zam(h:bs[a]?=some b):bs.drop a=b::bs.drop (a+1):=by
 obtain⟨h1,h2⟩:=zqc.1 h;rw[zp3 h1,h2]
def ii{r:List Nat}(h:bs.drop a=b::r):bs[a]?=some b/\bs.drop (a+1)=r:=by
 have h1:bs[a]?=some b:=by
  have:=nh (fun l:List Nat=>l[0]?) h;simpa using this
 refine⟨h1,?_⟩;have h2:=zam h1;rw[h] at h2;exact(List.cons.inj h2).2.symm
def v7{x r:List Nat}(h:bs.drop a=x++r):bs.drop (a+x.length)=r:=by
 rw[<-zqp,h,zr1]
def O8(h:bs[R.at_]?=some n)(hn:n<128):Mg bs R=(n,⟨R.at_+1,R.bad,R.err⟩):=by
 unfold Mg;show Ux bs (9+1) 0 0 R=_;unfold Ux;rw[h];dsimp only;rw[nc T,na hn,zsu hn];simp
def Mp{R2:Rd}(h0:R.err=0)(h:Mg bs R=(n,R2))(h2:R2.err=0)(hn:n<=lim)(hl:lim<=1099511627776):wj bs lim R=((n:Int),R2):=by
 have hw:az bs lim 3 R=(n,R2):=by unfold az;rw[h];exact if_neg G
 have hg:zfv bs lim R=((n:Int),R2):=by
  unfold zfv;rw[hw];exact Prod.ext (xb G G) Z
 unfold wj dq;rw[nc (fun h=>h h0),hg,nc (fun h=>h h2)]
def zb5{s:ByteArray}(h:s.size<=16):t7 s=s.size::dm s:=by unfold t7;rw[cq T];rfl
def K7(s:ByteArray):og (dm s)=s:=by
 have h:=Ck s [];rw[mo,Vq] at h;rw[h];apply dp;rw[j7];simp
def zj1{s:ByteArray}(h0:R.err=0)(hs:s.size<=16)(hd:bs.drop R.at_=t7 s++rest):lj bs 16 R=(s,⟨R.at_+(t7 s).length,R.bad,0⟩):=by
 rw[zb5 hs] at hd |-;obtain⟨h1,h2⟩:=ii (r:=dm s++rest) hd;have hln:(bs.drop R.at_).length=1+s.size+rest.length:=by rw[hd,nr,nz,p8];omega
 rw[m6] at hln;have hl:=Mp (lim:=16) h0 (O8 h1 T) h0 hs E
 have hg:Ve bs 16 R=(s,⟨R.at_+1+s.size,R.bad,R.err⟩):=by
  unfold Ve;rw[hl];dsimp only;rw[nc (by intro h;rcases h with h | h;exact h h0;omega),zpu,h2,<-p8,List.take_left,K7]
 unfold lj dq;rw[nc (fun h=>h h0),hg,nc (fun h=>h h0),h0,nz,p8,show R.at_+1+s.size=R.at_+(s.size+1) by omega]
def Af{bs:List Nat}{R:Rd}:∀ n,vw bs R (n+1)=vw bs (lj bs 16 R).2 n
 | 0=>rfl
 | n+1=>by
  have h:vw bs R (n+1+1)=(lj bs 16 (vw bs R (n+1))).2:=rfl;rw[h,Af n];rfl
def Fb{bs:List Nat}{R:Rd}:∀ n,zdi bs R (n+1)=(lj bs 16 R).1::zdi bs (lj bs 16 R).2 n
 | 0=>rfl
 | n+1=>by
  have h:zdi bs R (n+1+1)=zdi bs R (n+1)++[(lj bs 16 (vw bs R (n+1))).1]:=rfl;rw[h,Fb n,Af n];rfl
def zfr{bs rest:List Nat}:∀ {ss:List ByteArray} {R:Rd},R.err=0->(∀ s∈ss,s.size<=16)->bs.drop R.at_=ua ss++rest->vw bs R ss.length=⟨R.at_+(ua ss).length,R.bad,0⟩/\zdi bs R ss.length=ss
 | [],R,h0,_,_=>by
  obtain⟨a,b,e⟩:=R;cases h0;exact⟨rfl,rfl⟩
 | s::ss,R,h0,hs,hd=>by
  have e1:ua (s::ss)=t7 s++ua ss:=rfl;rw[e1,mn] at hd;have h1:=zj1 h0 (hs s (mb ..)) hd;have h2:=zfr (R:=⟨R.at_+(t7 s).length,R.bad,0⟩) rfl (fun x hx=>hs x (me _ hx)) (v7 hd);rw[nz,Af,Fb,h1,e1,nr,<-zrt];dsimp only;exact⟨h2.1,nh (s::·) h2.2⟩
def zb2{t:U}(h:tE t=0):∀ s∈u6 t,s.size<=16:=by
 unfold tE at h;split at h
 ·rename_i h1;obtain⟨c1,c2,c3⟩:=Kd h1;obtain⟨d1,d2,d3⟩:=fh h;have a1:=wi c1;have a2:=wi c2;have a3:=wi c3;have b1:=wi d1;have b2:=wi d2
  have b3:t.2.2.size<=16:=by
   rcases d3 with d3 | d3
   ·rw[d3];decide
   ·exact wi d3
  intro s hs;simp only[u6,ma,zqe,or_false] at hs;rcases hs with rfl | rfl | rfl | rfl | rfl | rfl<;>assumption
 ·rename_i h1;exact ni h h1
def zfe{t:U}(h0:R.err=0)(ht:tE t=0)(hd:bs.drop R.at_=tupB t++rest):tq bs R=(t,⟨R.at_+(tupB t).length,R.bad,0⟩):=by
 obtain⟨h1,h2⟩:=zfr (ss:=u6 t) h0 (zb2 ht) hd;have e6:(u6 t).length=6:=rfl;rw[e6] at h1 h2;rw[zb8];unfold zmj;rw[h1,h2,nc (fun h=>h rfl)];rfl
def Qr(h:l.length<128):rp l=l.length::l.flatMap tupB:=by unfold rp;rw[cq h];rfl
def Rp(h0:R.err=0)(ha:¬ R.at_<bs.length):Fv bs R=(R.bad,0):=by unfold Fv;rw[if_neg (fun h=>ha h.2),h0]
def zge{R2:Rd}(h:Mg bs R=(n,R2))(hn:n<=lim):az bs lim e R=(n,R2):=by
 unfold az;rw[h];exact if_neg G
def zi4{bs rest:List Nat}{k:Bool}(h0:R.err=0)(hd:bs.drop R.at_=[if k=true then 1 else 0]++rest):io bs R=(k,⟨R.at_+1,R.bad,0⟩):=by
 obtain⟨h1,_⟩:=ii (r:=rest) hd;have hw:=zge (lim:=1) (e:=5) (O8 h1 (by split<;>omega)) (by split<;>omega)
 have hg:bG bs R=(k,⟨R.at_+1,R.bad,R.err⟩):=by
  unfold bG;rw[hw];cases k<;>rfl
 rw[Se];unfold dq;rw[nc (fun h=>h h0),hg,nc (fun h=>h h0),h0]
def zek:db bs R=if (io bs (tq bs R).2).2.err≠0 then (((n3,n3),false),⟨R.at_,(io bs (tq bs R).2).2.bad,(io bs (tq bs R).2).2.err⟩) else (((tq bs R).1,(io bs (tq bs R).2).1),(io bs (tq bs R).2).2):=
 Bf (f:=tq bs) (g:=io bs) (zf:=(n3,n3)) (zg:=false) (fun _ h=>vz h) (fun _ h=>vz h) R
def zlu(h0:R.err=0)(ht:tE c.1=0)(hd:bs.drop R.at_=chgB c++rest):db bs R=(c,⟨R.at_+(chgB c).length,R.bad,0⟩):=by
 unfold chgB at hd;rw[mn] at hd;have h1:=zfe h0 ht hd;have h2:=zi4 (R:=⟨R.at_+(tupB c.1).length,R.bad,0⟩) (k:=c.2) rfl (v7 hd);rw[zek,h1];dsimp only;rw[h2];dsimp only;rw[nc (fun h=>h rfl)];unfold chgB;rw[nr,zqf,zrt]
def zjh(l:List U):Option U->List CH->Prop
 | _,[]=>True
 | la,c::cs=>tE c.1=0/\zbs la c.1=true/\decide (c.1∈l)=c.2/\zjh l (some c.1) cs
def Kj(cs:List CH):List CH:=cs.filter fun c=>!c.2
def dv(cs:List CH):List CH:=cs.filter fun c=>c.2
def zbf(c:CH)(cs a:List CH):(if c.2=true then a else a++[c])++Kj cs=a++Kj (c::cs):=by
 unfold Kj;cases h:c.2
 ·rw[nc E,zq1 (by simp [h])];simp
 ·rw[na rfl,zrs (by simp [h])]
def Um(c:CH)(cs d:List CH):(if c.2=true then d++[c] else d)++dv cs=d++dv (c::cs):=by
 unfold dv;cases h:c.2
 ·rw[nc E,zrs (by simp [h])]
 ·rw[na rfl,zq1 (by simp [h])];simp
def za0{bs rest:List Nat}{l:List U}:∀ {cs:List CH} {la:Option U} {a d:List CH} {R:Rd},R.err=0->zjh l la cs->bs.drop R.at_=cs.flatMap chgB++rest->
  Fw bs l cs.length la a d R=(((a++Kj cs,d++dv cs),⟨R.at_+(cs.flatMap chgB).length,R.bad,0⟩),(0,0))
 | [],la,a,d,R,h0,_,_=>by
  obtain⟨x,y,z⟩:=R;cases h0;show(((a,d),_),_)=(((a++[],d++[]),_),_);rw[mo,mo];rfl
 | c::cs,la,a,d,R,h0,hk,hd=>by
  obtain⟨k1,k2,k3,k4⟩:=hk;have e1:(c::cs).flatMap chgB=chgB c++cs.flatMap chgB:=rfl;rw[e1,mn] at hd;have h1:=zlu h0 k1 hd;rw[nz];unfold Fw;rw[h1];dsimp only;rw[nc (fun h=>h rfl),nc (fun h=>h k1),k2,nc E,nc (fun h=>h k3)];rw[za0 (R:=⟨R.at_+(chgB c).length,R.bad,0⟩) rfl k4 (v7 hd),zbf,Um,e1,nr,zrt]
def zdd(h:¬ n<128)(hi:i<=9)(hn:n*128^i<18446744073709551616):i≠9/\n/128*128^(i+1)<18446744073709551616:=by
 have h1:n/128*128^(i+1)<=n*128^i:=by
  rw[Nat.pow_succ,Nat.mul_comm (128^i) 128,<-Nat.mul_assoc];exact zq7 _ (Nat.div_mul_le_self n 128)
 refine⟨fun e=>?_,by omega⟩;subst e;have h9:(128:Nat)^9=9223372036854775808:=E;rw[h9] at hn;omega
def zde(hp:0<i->0<n)(hn:n*128^i<18446744073709551616):¬ (i=9/\n≠1\/0<i/\n=0):=by
 rintro(⟨rfl,h⟩ | ⟨h1,h2⟩)
 ·have h9:(128:Nat)^9=9223372036854775808:=E;rw[h9] at hn;have:=hp E;omega
 ·have:=hp h1;omega
def zhy:∀ (f i acc n:Nat) (R:Rd),f+i=10->i<=9->n*128^i<18446744073709551616->(0<i->0<n)->bs.drop R.at_=vq n++rest->
  Ux bs f i acc R=(acc+n*128^i,⟨R.at_+(vq n).length,R.bad,R.err⟩):=by
 intro f
 induction f with
 | zero=>intro i acc n R h1 h2;omega
 | succ f ih=>
  intro i acc n R hf hi hn hp hd;unfold Ux;by_cases h:n<128
  ·rw[cq h] at hd |-;obtain⟨h1,_⟩:=ii (r:=rest) hd;rw[h1];dsimp only;rw[nc (zde hp hn),na h,zsu h];rfl
  ·rw[G9 h] at hd |-;obtain⟨h1,h2⟩:=ii (r:=vq (n/128)++rest) hd;obtain⟨hi8,hq⟩:=zdd h hi hn;have hr:=ih (i+1) (acc+(n%128+128)%128*128^i) (n/128) ⟨R.at_+1,R.bad,R.err⟩ T T hq (fun _=>by omega) h2;rw[h1];dsimp only;rw[nc T,nc T,hr];have e1:(n%128+128)%128=n%128:=T;have e2:n=n%128+128*(n/128):=T;refine Prod.ext ?_ ?_
   ·dsimp only;rw[e1,zrt,Nat.pow_succ];congr 1
    conv=>rhs;rw[e2]
    rw[zp6,Nat.mul_comm 128 (n/128),Nat.mul_assoc (n/128) 128,Nat.mul_comm 128 (128^i)]
   ·dsimp only;rw[nz,show R.at_+1+(vq (n/128)).length=R.at_+((vq (n/128)).length+1) by omega]
def Q4(hn:n<18446744073709551616)(hd:bs.drop R.at_=vq n++rest):Mg bs R=(n,⟨R.at_+(vq n).length,R.bad,R.err⟩):=by
 unfold Mg;rw[zhy 10 0 0 n R rfl E T (fun h=>ni h (Nat.lt_irrefl 0)) hd];simp
def zbr(cs:List CH):List Nat:=vq cs.length++cs.flatMap chgB
def ziu(h0:R.err=0)(hn:cs.length<=8192)(hk:zjh l none cs)(hs:l.length+(Kj cs).length<=4096+(dv cs).length)(hd:bs.drop R.at_=zbr cs++rest):
  Bc bs l R=((tu l (dv cs++Kj cs),⟨R.at_+(zbr cs).length,R.bad,0⟩),(0,0)):=by
 unfold zbr at hd;rw[mn] at hd;have h1:=Q4 (n:=cs.length) T hd;rw[h0] at h1;have h2:=Mp (lim:=8192) h0 h1 rfl hn E;have h3:=za0 (bs:=bs) (rest:=rest) (l:=l) (cs:=cs) (la:=none) (a:=[]) (d:=[]) (R:=⟨R.at_+(vq cs.length).length,R.bad,0⟩) rfl hk (v7 hd);unfold Bc;rw[h2];dsimp only;rw[nc (fun h=>h rfl),zpu,h3];dsimp only;rw[nc (fun h=>h rfl),mi,mi,nc T];unfold zbr;rw[nr,zrt]
open Go.V.L10
abbrev K3:=Int×Nat×List U
def Un:List K3->Int->List U->List Nat
 | [],_,_=>[]
 | k::ks,last,s=>(vq (k.1-last).toNat++(vq k.2.1++zbr (D9 s k.2.2)))++Un ks k.1 k.2.2
def Pm(ks:List K3):List Nat:=vq ks.length++Un ks 0 []
def tZ(S:Sto)(r:Int):List U:=(kpt S.R r).getD []
def Pf(S:Sto):List K3:=(k7 S.R).map fun r=>(r,List.count r S.P,tZ S r)
structure zod(S:Sto):Prop where
 n0:S.R.length≠0
 rl:S.R.length<18446744073709551616
 k0:0<(k7 S.R).length
 kl:(k7 S.R).length<=1024
 pl:(xe S.P).length<=100000
 pb:S.P.length<=1000000000000
 tl:∀ r t,kpt S.R r=some t->t.length<=4096/\Sst ku t/\∀ x∈t,∀ s∈u6 x,s.size<=1000
def pf(h:n<18446744073709551616):(vq n).length<=10:=by
 have h128:(128:Nat)^10=1180591620717411303424:=E;exact aj 9 n T
def D6{l:List CH}(h:∀ c∈l,∀ s∈u6 c.1,s.size<=1000):∀ i,((l.take i).flatMap chgB).length<=i*6061
 | 0=>by rw[zpv];exact nu _
 | i+1=>by
  have h1:=D6 h i;rw[zpj,zpl,nr]
  cases ht:l[i]? with
  | none=>
   have e:(none.toList:List CH).flatMap chgB=[]:=rfl;rw[e,mz];omega
  | some c=>
   have h2:=zel (h c (zpa ht));have e:((some c).toList:List CH).flatMap chgB=chgB c:=by simp
   rw[e];omega
def Uq{l:List CH}(h:l[i]?=some c):(l.take (i+1)).flatMap chgB=(l.take i).flatMap chgB++chgB c:=by
 rw[zpj,h,zpl];simp
structure DmJ(S:Sto)(T0:List Nat)(i last:Nat)(s:List U)(acc:List Nat):Prop where
 hi:i<=(k7 S.R).length
 he:acc++Un ((Pf S).drop i) last s=T0
 bz:acc.length<=10+i*50000000
 sl:s.length<=4096
 ss:Sst ku s
 sz:∀ x∈s,∀ q∈u6 x,q.size<=1000
 lb:∀ (j:Nat) (r:Int),i<=j->(k7 S.R)[j]?=some r->(last:Int)<r
attribute [local irreducible] V N X VO Par XP LV StepOK Has Ret RetL RetO RetT kx RetX RetY Pan ed Src
def zd9(hD:zod S)(hB:zth B w)(hr:(StG b S).P B w C)(hC:ZCB C w B):
  RetY zti 85 [eu b] w B C (StG b S) (TupS [BsV (Pm (Pf S)) true,fun v _=>v=.int .i64 0]):=by
 have hkl:=hD.kl;have hpb:=hD.pb;have hk0:=hD.k0;have hzl:(Pf S).length=(k7 S.R).length:=my ..;have hn0:=pf (n:=(k7 S.R).length) T;unfold RetY;refine xa 910 (StG b S) Tryz.func85 Z Tryz.ntmps85 (np Z) hB hr hC ((Zb2∘Zb7) ?_);refine yd (vm L 910 (RsV (k7 S.R) true) (r:=StG b S) Z Z Z Z Z ns (fun u H2 C2 hH hle hr2 hC2=>V0 hD.n0 T hH hr2 hC2)) ((Zat∘Zan∘Z9∘Zg∘Zx∘Zm∘Z2∘Zca) ?_);refine k9 5 900 rfl fun wb=>?_;refine Ec 901 Qd 1 (Ze6 (h:=?_));refine ay (X:=Value) 900 (r:=fun sv=>(GWv wb [] sv).res) (φ:=fun sv _=>Nh sv) g7 (.slice none 0 0) ⟨_,_,_,rfl⟩ Z ((Zt∘Zg) ?_);refine z7 (ko Z Z Z cj.1 cj.2 (wrap_u64 T T)) Z (qe (yx L 900 (GWr wb (vq (k7 S.R).length)) (r:=GWr wb []) Z Z Z Z Z (fun u H C hH _ hr hC=>vg (bs:=[]) T E hH hr hC)) ((Zi∘Zs∘Zdt∘ZZ∘Zo∘Zbd∘Zan∘ZC∘Zg∘ZaW) ?_));have hj0:DmJ S (Pm (Pf S)) 0 0 [] (vq (k7 S.R).length):=⟨Nat.zero_le _,by unfold Pm;rw[hzl];rfl,by omega,Nat.zero_le _,Sst.nil,(fun _ h=>by cases h),fun j r _ hr=>(bj (vo.1 (List.mem_of_getElem? hr))).1⟩
 generalize Pm (Pf S)=T0 at hj0 |-;refine ay (X:=SXp) 7 (r:=fun x=>Cell (scs x.1) tySt) (φ:=Eh []) (jb []) ⟨(.nilFunc,none,.nilFunc,none),rfl⟩ SetV.nil Z ?_
 refine xm (fun x:Nat×Nat×List U×List Nat=>[(0,.is (eu b)),(5,.is (kg wb)),(6,.is (.int .u64 x.2.1)),(7,.own (ExR (fun y:SXp=>Cell (scs y.1) tySt) (Eh x.2.2.1) (jb _))),(25,.sat (RsV (k7 S.R) true)),(26,.is (.int .i64 (k7 S.R).length)),(27,.is (.int .i64 x.1)),(900,.own (GWr wb x.2.2.2).res),(910,.own (StG b S).res)])
  (fun x=>DmJ S T0 x.1 x.2.1 x.2.2.1 x.2.2.2) (fun x=>(k7 S.R).length-x.1) (0,0,[],vq (k7 S.R).length) hj0 ⟨rfl,rfl,rfl,rfl,rfl,rfl,rfl,rfl,rfl,nm⟩ ?_
 rintro⟨i,last,s,acc⟩ hj;dsimp only at hj |-;have hbz:=hj.bz;have hsl:=hj.sl;have hss:=hj.ss;by_cases hlt:i<(k7 S.R).length
 ·obtain⟨r,hr1⟩:=xk hlt;have hk:=vo.1 (zpa hr1);obtain⟨t,ht⟩:=zqd.1 hk;have hb1:=bj hk;obtain⟨rn,rfl⟩:∃ rn:Nat,r=(rn:Int):=⟨r.toNat,by omega⟩
  have hcr:=Lv hr1;have hrl:=hD.rl;have hA:atS S rn=(t,0):=by unfold atS;rw[if_neg T,ht]
  obtain⟨tl,ts,tz⟩:=hD.tl _ _ ht;have hlb:=hj.lb i _ (nu _) hr1;have hws:IntKind.u64.wrap ((rn:Int)-(last:Int))=((rn-last:Nat):Int):=(wrap_u64 T T).trans T;have hcn:List.count (rn:Int) S.P<=S.P.length:=zs8;have hcw:IntKind.u64.wrap ((List.count (rn:Int) S.P:Nat):Int)=((List.count (rn:Int) S.P:Nat):Int):=wrap_u64 T T;have hzi:(Pf S)[i]?=some ((rn:Int),List.count (rn:Int) S.P,t):=by unfold Pf tZ;rw[List.getElem?_map,hr1];show some ((rn:Int),List.count (rn:Int) S.P,(kpt S.R rn).getD [])=_;rw[ht];rfl
  have he:=hj.he
  have hdr:(Pf S).drop i=((rn:Int),List.count (rn:Int) S.P,t)::(Pf S).drop (i+1):=by
   rw[zp3 T];rw[zpt T] at hzi;rw[Option.some.inj hzi]
  rw[hdr] at he;unfold Un at he;dsimp only at he;rw[show((rn:Int)-(last:Int)).toNat=rn-last by omega] at he;have hbl:=H9 s t
  have hmz:∀ c∈D9 s t,∀ q∈u6 c.1,q.size<=1000:=fun c hc=>by
   rw[uy] at hc;rcases hc.1 with h | h
   ·exact hj.sz _ h.1
   ·exact tz _ h.2
  have hbt:=zi5 hss ts;have hn1:=pf (n:=rn-last) T;have hn2:=pf (n:=List.count (rn:Int) S.P) T
  have hlb2:∀ (j:Nat) (r:Int),i+1<=j->(k7 S.R)[j]?=some r->(rn:Int)<r:=fun j r hij hr=>by
   have h3:=zqz.1 (ek S.R) i j hlt (get_lt hr) T;rw[ln hr1,ln hr] at h3;exact za7.1 h3
  generalize D9 s t=m at he hbl hmz hbt;have hn3:=pf (n:=m.length) T;have hmw:IntKind.u64.wrap ((m.length:Nat):Int)=((m.length:Nat):Int):=wrap_u64 T T
  have hcnt:∀ {v:Value} {u:World} {H:Heap},zth H u->PinsP S.P v H->Ret zti 143 [v,.int .u64 rn] u H (fun v _=>v=.int .i64 (List.count (rn:Int) S.P:Nat)):=fun hH h1=>by
   obtain⟨sv,rfl,hsv⟩:=h1;exact Al hD.pl hH hsv
  generalize List.count (rn:Int) S.P=cnt at he hcn hcw hn2 hcnt;have hms:Kn.mono (.sat (SetV t)):=SetV.mono;have hmi:Kn.mono (.sat (fun v _=>v=Value.int .i64 0)):=fun _ _ _ h _=>h;refine(Ze∘Zv∘Z6∘ZM∘Zau∘ZcO∘Zd∘ZI∘Zb) ?_;refine yd (vm L 910 (WithE t 0) (r:=StG b S) Z Z Z Z Z WithE.mono (fun u H2 C2 hH hle hr2 hC2=>zi6 hA hD.n0 hH hr2 hC2)) ((Zk∘ZcW∘ZcC∘ZZ) ?_);refine z7 (c8 L (X:=SXp) (fun x=>scs x.1) (Eh t) (jb _) Lh (fun x=>⟨rfl,x.2⟩) Z Z Z Z Z) Z (Zd (h:=?_));refine v9 10 rfl fun x H1 hs1 hset=>?_;obtain⟨⟨f1,p1,f2,p2⟩,hpl⟩:=x;dsimp only[scs] at hset hpl |-;refine v9 7 rfl fun x7 H2 hs2 hset7=>?_;obtain⟨⟨f3,p3,f4,p4⟩,hpl7⟩:=x7;dsimp only[scs] at hset7 hpl7 |-;have hset2:=hset.le hs2.le;refine(ZY∘ZaA) ?_;refine qe (yx L 900 (GWr wb (acc++vq (rn-last))) (r:=GWr wb acc) Z Z Z Z Z (fun u H C hH _ hr hC=>vg T T hH hr hC)) ((Zi∘Zaa∘Za) ?_);refine yd (vm L 910 (PinsP S.P) (r:=StG b S) Z Z Z Z Z PinsP.mono (fun u H2 C2 hH hle hr2 hC2=>Vv hD.n0 hH hr2 hC2)) (Za (h:=?_));refine z7 (q0 (r:=.int .i64 cnt) L Z Z (zm Z) Z Z Z (fun u H hH hle _ v1 h1=>hcnt hH h1)) Z (z7 (ko Z Z Z cj.1 cj.2 (wrap_u64 T T)) Z (qe (yx L 900 (GWr wb (acc++vq (rn-last)++vq cnt)) (r:=GWr wb (acc++vq (rn-last))) Z Z Z Z Z (fun u H C hH _ hr hC=>vg T (by rw[nr];omega) hH hr hC)) ?_));refine Zi (h:=?_);refine(Zak∘ZaH∘ZaH) ?_;refine z7 (xg (φ:=KS tyC m true) L Z Z (zm Z) Z Z Z ns (fun u H hH hle _=>M3 hsl tl hss ts hbt hH (hset7.le hle) (hset2.le hle))) Z ((Zat∘Zi∘Za5∘Zg) ?_);refine z7 (ko Z Z Z cj.1 cj.2 (wrap_u64 T T)) Z (qe (yx L 900 (GWr wb (acc++vq (rn-last)++vq cnt++vq m.length)) (r:=GWr wb (acc++vq (rn-last)++vq cnt)) Z Z Z Z Z (fun u H C hH _ hr hC=>vg T (by simp only[nr];omega) hH hr hC)) ?_);refine(Zan∘Zao∘Zg∘ZaW) ?_;obtain⟨A,hA2,hAl⟩:∃ A,acc++vq (rn-last)++vq cnt++vq m.length=A/\A.length<=40+i*50000000:=⟨_,rfl,by simp only[nr];omega⟩
  rw[hA2];refine xm (fun j:Nat=>[(0,.is (eu b)),(5,.is (kg wb)),(6,.is (.int .u64 last)),(7,.own (Cell [f3,.pointer p3,f4,.pointer p4] tySt)),(9,.is (.int .u64 rn)),(10,.own (Cell [f1,.pointer p1,f2,.pointer p2] tySt)),(25,.sat (RsV (k7 S.R) true)),(26,.is (.int .i64 (k7 S.R).length)),(27,.is (.int .i64 i)),(54,.sat (KS tyC m true)),(55,.is (.int .i64 m.length)),(56,.is (.int .i64 j)),(900,.own (GWr wb (A++(m.take j).flatMap chgB)).res),(910,.own (StG b S).res)]) (fun j=>j<=m.length) (fun j=>m.length-j) 0 (mc _) ⟨Z,Z,Z,Z,Z,Z,Z,Z,Z,Z,Z,Z,by rw[zpv,zss,mo];rfl,Z,nm⟩ ?_;rintro j hjl;have hcl:=D6 hmz j;by_cases hlt2:j<m.length
  ·obtain⟨c,hc⟩:=xk hlt2;have hck:=El hc;have hcz:=hmz c (zpa hc);have hsn:=Uq hc;refine(Ze∘Zar∘Z6∘Zbv∘Zau∘Zdy∘Zaw∘ZF∘ZaV∘ZdC) ?_;refine qe (yx L 900 (GWr wb (A++(m.take j).flatMap chgB++chgB c)) (r:=GWr wb (A++(m.take j).flatMap chgB)) Z Z Z Z Z (fun u H C hH _ hr hC=>zbz hcz (by rw[nr];omega) hH hr hC)) ?_;refine(Zax∘Zcz∘ZX) ?_;exact ym (x:=j) (j+1) hlt2 T ⟨Z,Z,Z,Z,Z,Z,Z,Z,Z,Z,Z,Z,by rw[hsn,<-mn];rfl,Z,nm⟩
  ·obtain rfl:j=m.length:=by omega
   rw[m9] at hcl |-;refine(Ze∘Zar∘Zf6∘ZaD∘Zbi) ?_;refine qo (id:=20) [] ki J ((Zl∘Zcu∘ZaM) ?_);refine z8 (qt L Z Z M Z) Z ((Zck∘ZaE∘Zc0∘ZX) ?_);exact ot (X:=SXp) 7 (r:=fun x=>Cell (scs x.1) tySt) (jb t) ⟨(f1,p1,f2,p2),hpl⟩ hset2 Z (jk (x:=(i,last,s,acc)) (i+1,rn,t,A++m.flatMap chgB) (hs1.trans hs2) ⟨hlt,by rw[<-he,<-hA2];unfold zbr;simp only[List.append_assoc],by rw[List.length_append];omega,tl,ts,tz,hlb2⟩ G ⟨Z,Z,Z,Z,Z,Z,Z,Z,Z,trivial⟩)
 ·obtain rfl:i=(k7 S.R).length:=by have:=hj.hi;omega
  have he:=hj.he;rw[zpi T] at he;have he2:acc=T0:=by rw[<-he];exact(mo _).symm
  subst he2;refine(Ze∘Zv∘Zav∘ZcY) ?_;refine qe (ey L 900 GNo (BsV acc true) (r:=GWr wb acc) Z Z Z Z Z ns (fun u H C hH _ hr hC=>Ak (tx T hH hr hC))) ((Zat∘Zc) ?_);exact uh L 910 (r:=StG b S) (rs:=[.tmp 2,.tmp 3]) Z (fun _ _ h=>h) nq Z Z (fun H _ v hv=>Xa hv)
def zf7{la:Option U}{t:U}:zbs la t=true↔∀ y,la=some y->ku y t<0:=by
 cases la with
 | none=>exact⟨fun _ y h=>(by cases h),fun _=>rfl⟩
 | some y=>exact⟨fun h z hz=>(by cases hz;exact nj h),fun h=>nf (h y rfl)⟩
def Ry{l:List U}:∀ {cs:List CH} {la:Option U},zjh l la cs↔((∀ c∈cs,tE c.1=0/\decide (c.1∈l)=c.2/\∀ y,la=some y->ku y c.1<0)/\Ng cs)
 | [],_=>⟨fun _=>⟨(fun _ h=>by cases h),Sst.nil⟩,fun _=>trivial⟩
 | c::cs,la=>by
  have ih:=Ry (l:=l) (cs:=cs) (la:=some c.1);constructor
  ·rintro⟨h1,h2,h3,h4⟩;obtain⟨h4,h5⟩:=ih.1 h4;have hb:=zf7.1 h2;refine⟨fun d hd=>?_,mj.2 ⟨fun a ha=>?_,h5⟩⟩
   ·rcases ma.1 hd with rfl | hd
    ·exact⟨h1,h3,hb⟩
    ·obtain⟨g1,g2,g3⟩:=h4 d hd;exact⟨g1,g2,fun y hy=>cmpT_ord.tr (hb y hy) (g3 _ Z)⟩
   ·obtain⟨d,hd,rfl⟩:=zo9.1 ha;exact(h4 d hd).2.2 _ Z
  ·rintro⟨h1,h2⟩;have h3:=mj.1 h2;obtain⟨g1,g2,g3⟩:=h1 c (mb ..);exact⟨g1,zf7.2 g3,g2,ih.2 ⟨fun d hd=>⟨(h1 d (me _ hd)).1,(h1 d (me _ hd)).2.1,fun y hy=>by cases hy;exact h3.1 _ (zrh (f:=(·.1)) hd)⟩,h3.2⟩⟩
def s9{x:U}:∀ {l:List U},l.Nodup->x∈l->(l.filter fun z=>decide (z≠x)).length+1=l.length
 | [],_,h=>by cases h
 | y::l,hn,h=>by
  obtain⟨h1,h2⟩:=zrl.1 hn;by_cases e:y=x
  ·subst e;have he:(l.filter fun z=>decide (z≠y))=l:=zrq.2 fun a ha=>nf (fun e:a=y=>h1 (e ▸ ha));rw[zrs (by simp),nz,he]
  ·rw[zq1 (by simp [e]),nz,nz,s9 h2 ((ma.1 h).resolve_left fun h=>e h.symm)]
def M9(l:List U)(c:CH)(cs:List CH):tu l (c::cs)=tu (wo l c.1 c.2).1 cs:=rfl
def ze0(l:List U)(a b:List CH):tu l (a++b)=tu (tu l a) b:=List.foldl_append ..
def M8:∀ {cs:List CH} {l:List U},SOK l->(∀ c∈cs,c.2=true/\tE c.1=0/\c.1∈l)->cs.Pairwise (fun a b=>a.1≠b.1)->SOK (tu l cs)/\(∀ z,z∈tu l cs↔z∈l/\∀ c∈cs,c.1≠z)/\(tu l cs).length+cs.length=l.length
 | [],l,h,_,_=>⟨h,fun z=>⟨fun h=>⟨h,(fun _ h=>by cases h)⟩,fun h=>h.1⟩,rfl⟩
 | c::cs,l,h,hc,hp=>by
  obtain⟨g1,g2,g3⟩:=hc c (mb ..);have hw:wo l c.1 c.2=(l.filter fun z=>decide (z≠c.1),0):=by unfold wo;rw[if_pos g2,if_pos g1]
  have hp2:=mj.1 hp;have hS:SOK (l.filter fun z=>decide (z≠c.1)):=⟨h.sst.sublist zrb,fun t ht=>h.tz t (zpg.1 ht).1,fun t ht=>h.ok t (zpg.1 ht).1⟩
  obtain⟨i1,i2,i3⟩:=M8 (cs:=cs) hS (fun d hd=>⟨(hc d (me _ hd)).1,(hc d (me _ hd)).2.1,zpg.2 ⟨(hc d (me _ hd)).2.2,nf (hp2.1 d hd).symm⟩⟩) hp2.2;rw[M9,hw];refine⟨i1,fun z=>?_,?_⟩
  ·rw[i2,zpg];constructor
   ·rintro⟨⟨h1,h2⟩,h3⟩;exact⟨h1,fun d hd=>(ma.1 hd).elim (fun e=>by subst e;exact fun e=>nj h2 e.symm) (h3 d)⟩
   ·rintro⟨h1,h2⟩;exact⟨⟨h1,nf fun e=>h2 c (mb ..) e.symm⟩,fun d hd=>h2 d (me _ hd)⟩
  ·have:=s9 (h.sst.nodup cmpT_ord) g3;rw[nz];dsimp only at i3 |-;omega
def tz_of{t:U}(h:tE t=0):TZ t:=by
 have h6:=zb2 h;obtain⟨⟨⟨a,b⟩,c⟩,⟨d,e⟩,f⟩:=t;simp only[u6,ma,zqx,or_false,forall_eq_or_imp,forall_eq] at h6;unfold TZ;dsimp only;omega
def Sf:∀ {cs:List CH} {l:List U},SOK l->(∀ c∈cs,c.2=false/\tE c.1=0/\c.1∉l)->cs.Pairwise (fun a b=>a.1≠b.1)->l.length+cs.length<=4096->SOK (tu l cs)/\(∀ z,z∈tu l cs↔z∈l\/∃ c∈cs,c.1=z)/\(tu l cs).length=l.length+cs.length
 | [],l,h,_,_,_=>⟨h,fun z=>⟨.inl,fun h=>h.elim id (fun⟨_,h,_⟩=>by cases h)⟩,rfl⟩
 | c::cs,l,h,hc,hp,hn=>by
  obtain⟨g1,g2,g3⟩:=hc c (mb ..);rw[nz] at hn;have hw:wo l c.1 c.2=(om ku c.1 l,0):=by unfold wo;rw[if_pos g2,g1,if_neg E,if_neg g3,if_neg T]
  have hp2:=mj.1 hp;have hS:SOK (om ku c.1 l):=⟨dw cmpT_ord h.sst g3,fun t ht=>(ud.1 ht).elim (fun e=>e ▸ tz_of g2) (h.tz t),fun t ht=>(ud.1 ht).elim (fun e=>e ▸ g2) (h.ok t)⟩
  obtain⟨i1,i2,i3⟩:=Sf (cs:=cs) hS (fun d hd=>⟨(hc d (me _ hd)).1,(hc d (me _ hd)).2.1,fun hm=>(ud.1 hm).elim (fun e=>hp2.1 d hd e.symm) (hc d (me _ hd)).2.2⟩) hp2.2 (by rw[wv];omega);rw[M9,hw];rw[wv] at i3;refine⟨i1,fun z=>?_,by rw[List.length_cons];dsimp only at i3 |-;omega⟩;rw[i2,ud];constructor
  ·rintro((e | h) | ⟨d,hd,e⟩)
   ·exact .inr ⟨c,mb ..,e.symm⟩
   ·exact .inl h
   ·exact .inr ⟨d,me _ hd,e⟩
  ·rintro(h | ⟨d,hd,e⟩)
   ·exact .inl (.inr h)
   ·rcases ma.1 hd with rfl | hd
    ·exact .inl (.inl e.symm)
    ·exact .inr ⟨d,hd,e⟩
def lw:c∈Kj cs↔c∈cs/\c.2=false:=by unfold Kj;rw[List.mem_filter];simp
def bg:c∈dv cs↔c∈cs/\c.2=true:=by unfold dv;rw[List.mem_filter]
def Rq{cs:List CH}(hs:SOK s)(hk:zjh s none cs):SOK (tu s (dv cs))/\(∀ z,z∈tu s (dv cs)↔z∈s/\∀ c∈cs,c.1≠z)/\(tu s (dv cs)).length+(dv cs).length=s.length:=by
 obtain⟨h1,h2⟩:=Ry.1 hk;obtain⟨i1,i2,i3⟩:=M8 (cs:=dv cs) hs (fun c hc=>⟨(bg.1 hc).2,(h1 c (bg.1 hc).1).1,nj ((h1 c (bg.1 hc).1).2.1.trans (bg.1 hc).2)⟩) ((se h2).filter _);refine⟨i1,fun z=>(i2 z).trans ⟨fun⟨h3,h4⟩=>⟨h3,fun c hc e=>?_⟩,fun⟨h3,h4⟩=>⟨h3,fun c hc=>h4 c (bg.1 hc).1⟩⟩,i3⟩
 cases hk:c.2 with
 | true=>exact h4 c (bg.2 ⟨hc,hk⟩) e
 | false=>exact of_decide_eq_false ((h1 c hc).2.1.trans hk) (e ▸ h3)
def zi8{cs:List CH}(hs:SOK s)(hk:zjh s none cs)(hl:s.length+(Kj cs).length<=4096+(dv cs).length):SOK (tu s (dv cs++Kj cs))/\(∀ z,z∈tu s (dv cs++Kj cs)↔(z∈s/\∀ c∈cs,c.1≠z)\/∃ c∈cs,c.2=false/\c.1=z)/\(tu s (dv cs++Kj cs)).length+(dv cs).length=s.length+(Kj cs).length:=by
 obtain⟨h1,h2⟩:=Ry.1 hk;obtain⟨i1,i2,i3⟩:=Rq hs hk;obtain⟨j1,j2,j3⟩:=Sf (cs:=Kj cs) i1 (fun c hc=>⟨(lw.1 hc).2,(h1 c (lw.1 hc).1).1,fun hm=>((i2 _).1 hm).2 c (lw.1 hc).1 rfl⟩) ((se h2).filter _) T;rw[ze0];refine⟨j1,fun z=>?_,by omega⟩;rw[j2,i2];exact or_congr Iff.rfl ⟨fun⟨c,hc,e⟩=>⟨c,(lw.1 hc).1,(lw.1 hc).2,e⟩,fun⟨c,hc,h,e⟩=>⟨c,lw.2 ⟨hc,h⟩,e⟩⟩
def zaq{s t:List U}(hs:SOK s)(ht:SOK t):zjh s none (D9 s t):=Ry.2 ⟨fun c hc=>by
 rw[uy] at hc;exact⟨hc.1.elim (fun h=>hs.ok _ h.1) fun h=>ht.ok _ h.2,hc.2.symm,fun _ h=>by cases h⟩,H8 s t⟩
def zes(hs:SOK s)(ht:SOK t):t.length+(dv (D9 s t)).length=s.length+(Kj (D9 s t)).length:=by
 obtain⟨i1,i2,i3⟩:=Rq hs (zaq hs ht)
 have hp:(tu s (dv (D9 s t))++(Kj (D9 s t)).map (·.1)).Perm t:=by
  refine(List.perm_ext_iff_of_nodup (List.nodup_append.2 ⟨i1.sst.nodup cmpT_ord,?_,?_⟩) (ht.sst.nodup cmpT_ord)).2 fun z=>?_
  ·exact List.pairwise_map.2 ((se (H8 s t)).filter _)
  ·intro a ha b hb e;obtain⟨c,hc,rfl⟩:=zo9.1 hb;exact((i2 a).1 ha).2 c (lw.1 hc).1 e.symm
  ·rw[mh,i2,zo9];constructor
   ·rintro(⟨h1,h2⟩ | ⟨c,hc,rfl⟩)
    ·exact Decidable.byContradiction fun h=>h2 (z,true) (uy.2 ⟨.inl ⟨h1,h⟩,(nf h1).symm⟩) Z
    ·have h1:=lw.1 hc;have h2:=uy.1 h1.1;rcases h2.1 with h | h
     ·exact ni h.1 (of_decide_eq_false (h2.2.symm.trans h1.2))
     ·exact h.2
   ·intro hz;by_cases h1:z∈s
    ·refine .inl ⟨h1,fun c hc e=>?_⟩;subst e;rcases(uy.1 hc).1 with h | h
     ·exact h.2 hz
     ·exact h.1 h1
    ·exact .inr ⟨(z,false),lw.2 ⟨uy.2 ⟨.inr ⟨h1,hz⟩,(ng h1).symm⟩,rfl⟩,rfl⟩
 have:=hp.length_eq;rw[nr,my] at this;omega
def zet(hs:SOK s)(ht:SOK t)(lt:t.length<=4096):s.length+(Kj (D9 s t)).length<=4096+(dv (D9 s t)).length/\tu s (dv (D9 s t)++Kj (D9 s t))=t:=by
 have h0:=zes hs ht;obtain⟨i1,i2,i3⟩:=zi8 hs (zaq hs ht) T;refine⟨by omega,lf cmpT_ord i1.sst ht.sst fun z=>?_⟩;rw[i2];constructor
 ·rintro(⟨h1,h2⟩ | ⟨c,hc,h1,rfl⟩)
  ·exact Decidable.byContradiction fun h=>h2 (z,true) (uy.2 ⟨.inl ⟨h1,h⟩,(nf h1).symm⟩) Z
  ·have h2:=uy.1 hc;rcases h2.1 with h | h
   ·exact ni h.1 (of_decide_eq_false (h2.2.symm.trans h1))
   ·exact h.2
 ·intro hz;by_cases h1:z∈s
  ·refine .inl ⟨h1,fun c hc e=>?_⟩;subst e;rcases(uy.1 hc).1 with h | h
   ·exact h.2 hz
   ·exact h.1 h1
  ·exact .inr ⟨(z,false),uy.2 ⟨.inr ⟨h1,hz⟩,(ng h1).symm⟩,rfl,rfl⟩
def kzs(ks:List K3):List (Int×List U):=ks.map fun k=>(k.1,k.2.2)
def kpi(ks:List K3):List Int:=ks.flatMap fun k=>List.replicate k.2.1 k.1
def KOK:List K3->Int->Prop
 | [],_=>True
 | k::ks,last=>last<k.1/\k.1<=18446744073709551615/\k.2.1<=4096/\SOK k.2.2/\k.2.2.length<=4096/\KOK ks k.1
def znz:SOK []:=⟨Sst.nil,(fun _ h=>by cases h),(fun _ h=>by cases h)⟩
def zkz(h0:R.err=0)(hn:n<18446744073709551616)(hd:bs.drop R.at_=vq n++rest):sg bs R=(n,⟨R.at_+(vq n).length,R.bad,0⟩):=by
 unfold sg dq;rw[Q4 hn hd,h0,nc (fun h=>h rfl)];dsimp only;rw[nc (fun h=>h rfl)]
def zfw{bs rest:List Nat}:∀ {ks:List K3} {last:Nat} {s:List U} {acc:List (Int×List U)} {ztg:List Int} {R:Rd},R.err=0->SOK s->s.length<=4096->KOK ks last->bs.drop R.at_=Un ks last s++rest->
  ldW bs ks.length last s acc ztg R=(((acc++kzs ks,ztg++kpi ks),⟨R.at_+(Un ks last s).length,R.bad,0⟩),(0,0))
 | [],last,s,acc,ztg,⟨a,b,e⟩,h0,_,_,_,_=>by
  dsimp only at h0;subst h0;show(((acc,ztg),(⟨a,b,0⟩:Rd)),((0:Int),(0:Int)))=(((acc++[],ztg++[]),⟨a+0,b,0⟩),(0,0));rw[mo,mo];rfl
 | (r,n,t)::ks,last,s,acc,ztg,R,h0,hs,hl,hk,hd=>by
  obtain⟨k1,k2,k3,k4,k5,k6⟩:=hk;dsimp only at k1 k2 k3 k4 k5 k6;obtain⟨st,rfl,hst⟩:∃ st:Nat,r=((last+st:Nat):Int)/\0<st:=⟨(r-last).toNat,by omega,by omega⟩
  unfold Un at hd |-;dsimp only at hd |-;rw[show(((last+st:Nat):Int)-(last:Int)).toNat=st by omega] at hd |-;rw[mn,mn,mn] at hd;have h1:=zkz h0 T hd;have h2:=Mp (lim:=4096) (R:=⟨R.at_+(vq st).length,R.bad,0⟩) rfl (Q4 (n:=n) T (v7 hd)) rfl k3 E;have hb:=zet hs k4 k5;have hbl:=H9 s t;have h3:=ziu (R:=⟨R.at_+(vq st).length+(vq n).length,R.bad,0⟩) rfl T (zaq hs k4) hb.1 (v7 (v7 hd));rw[hb.2] at h3;have ih:=zfw (ks:=ks) (last:=last+st) (s:=t) (acc:=acc++[(((last+st:Nat):Int),t)]) (ztg:=ztg++List.replicate n ((last+st:Nat):Int)) (R:=⟨R.at_+(vq st).length+(vq n).length+(zbr (D9 s t)).length,R.bad,0⟩) rfl k4 k5 k6 (v7 (v7 (v7 hd)));rw[nz];unfold ldW;rw[h1];dsimp only;rw[nc (fun h=>h rfl),nc (fun h=>h ⟨hst,by omega⟩),h2];dsimp only;rw[nc (fun h=>h rfl),h3];dsimp only;rw[nc (fun h=>h rfl),zpu,ih];unfold kzs kpi;simp only[mw,zp0,mn,nr,zpq,mi,zrt]
def zlf{ks:List K3}(hk:KOK ks 0)(h0:0<ks.length)(h1:ks.length<=1024):ldF (Pm ks)=((kzs ks,kpi ks),(0,0)):=by
 have hd:(Pm ks).drop (⟨0,0,0⟩:Rd).at_=vq ks.length++(Un ks (0:Nat) []++[]):=by rw[mo];rfl
 have h2:=Mp (lim:=1024) (R:=⟨0,0,0⟩) rfl (Q4 (n:=ks.length) T hd) rfl h1 E;have h3:=zfw (bs:=Pm ks) (acc:=[]) (ztg:=[]) (R:=⟨0+(vq ks.length).length,0,0⟩) rfl znz (mc _) hk (v7 hd);unfold ldF;rw[h2];dsimp only;rw[nc (fun h=>h rfl),nc T,zpu,h3];dsimp only;have he:Fv (Pm ks) ⟨0+(vq ks.length).length+(Un ks (0:Nat) []).length,0,0⟩=(0,0):=Rp rfl (by unfold Pm;rw[List.length_append];dsimp only;exact(by simp));rw[nc (fun h=>h rfl),he,nc (fun h=>h rfl)];rfl
end Go.V.L11
namespace Go.V.L10
open Go.V.L2 Go.V.L8 Go.V.L6
attribute [local irreducible] V N X VO Par StepOK Has Ret RetL RetO RetT kx RetX RetY Src
end Go.V.L10
namespace Go.V.L11
open Go.V.L2 Go.V.L3 Go.V.L4 Go.V.L6 Go.V.L8 Go.V.L10
attribute [local irreducible] V N X VO Par XP LV StepOK Has Ret RetL RetO RetT kx RetX RetY Pan ed Src
def zfx(S:Sto):(Pf S).length=(k7 S.R).length:=my ..
open Go.V.Bd
end Go.V.L11
namespace Go.V.L2
attribute [local irreducible] V N X VO Par StepOK Has Ret RetL Src
end Go.V.L2
namespace Go.V.L8
open Go.V.L2 Go.V.L3 Go.V.L6
attribute [local irreducible] V N X VO Par StepOK Has Ret RetL RetO RetT kx Src
end Go.V.L8
namespace Go.V.L11
open Go.V.L2 Go.V.L3 Go.V.L4 Go.V.L6 Go.V.L8 Go.V.L10
def Vy{t:List U}(h:SOK t):∀ x∈t,∀ s∈u6 x,s.size<=1000:=fun x hx s hs=>mp (zb2 (h.ok x hx) s hs) E
def zly{s t:List U}(hs:SOK s)(ht:SOK t):∀ c∈D9 s t,∀ q∈u6 c.1,q.size<=1000:=fun c hc=>by
 rw[uy] at hc;rcases hc.1 with h | h
 ·exact Vy hs _ h.1
 ·exact Vy ht _ h.2
attribute [local irreducible] V N X VO Par XP LV StepOK Has Ret RetL RetO RetT kx RetX RetY Pan ed Src
end Go.V.L11
namespace Go.V
inductive bu where
 | s
 | b
 | i (k:IntKind)
def zmd:bu->Value->Prop
 | .s,v=>∃ a:ByteArray,v=.string a/\a.size<=maxLen
 | .b,v=>∃ c,v=.bool c
 | .i k,v=>∃ n,v=.int k n/\(Lit.int k n).wf=true
def LeafsOK:List bu->List Value->Prop
 | [],[]=>True
 | l::ls,v::vs=>zmd l v/\LeafsOK ls vs
 | _,_=>False
def LeafsOK.append:∀ {a b:List bu} {x y:List Value},LeafsOK a x->LeafsOK b y->LeafsOK (a++b) (x++y)
 | [],_,[],_,_,h=>h
 | [],_,_::_,_,h,_=>h.elim
 | _::_,_,[],_,h,_=>h.elim
 | _::_,_,_::_,_,h,k=>⟨h.1,LeafsOK.append h.2 k⟩
def LeafsOK.length:∀ {a:List bu} {x:List Value},LeafsOK a x->x.length=a.length
 | [],[],_=>rfl
 | [],_::_,h=>h.elim
 | _::_,[],h=>h.elim
 | _::_,_::_,h=>by simp [LeafsOK.length h.2]
def zk9{ls:List bu}(h:LeafsOK (.s::ls) vs):∃ a r,vs=.string a::r/\a.size<=maxLen/\LeafsOK ls r:=by
 cases vs with
 | nil=>exact h.elim
 | cons v vs=>obtain⟨⟨a,rfl,ha⟩,h⟩:=h;exact⟨a,vs,rfl,ha,h⟩
def Ff{k:IntKind}{ls:List bu}(h:LeafsOK (.i k::ls) vs):∃ n r,vs=.int k n::r/\(Lit.int k n).wf=true/\LeafsOK ls r:=by
 cases vs with
 | nil=>exact h.elim
 | cons v vs=>obtain⟨⟨a,rfl,ha⟩,h⟩:=h;exact⟨a,vs,rfl,ha,h⟩
def zla{ls:List bu}(h:LeafsOK (.b::ls) vs):∃ c r,vs=.bool c::r/\LeafsOK ls r:=by
 cases vs with
 | nil=>exact h.elim
 | cons v vs=>obtain⟨⟨a,rfl⟩,h⟩:=h;exact⟨a,vs,rfl,h⟩
def Hl(h:LeafsOK [] vs):vs=[]:=by
 cases vs with
 | nil=>rfl
 | cons _ _=>exact h.elim
def zdt(P:Program)(rec:TypeId->Option (List bu)):List Field->Nat->Option (List bu)
 | [],_=>some []
 | f::fs,off=>match rec f.type with
  | some ls=>if f.offset=off/\P.cellsOf f.type=ls.length then
    match zdt P rec fs (off+ls.length) with
    | some r=>some (ls++r)
    | none=>none
   else none
  | none=>none
def zfk(ls:List bu):Nat->List bu
 | 0=>[]
 | n+1=>ls++zfk ls n
def Ek(P:Program):Nat->TypeId->Option (List bu)
 | 0,_=>none
 | d+1,t=>match P.underlying t with
  | some .string=>some [.s]
  | some (.int k)=>some [.i k]
  | some .bool=>some [.b]
  | some (.struct fs)=>match zdt P (Ek P d) fs.toList 0 with
   | some ls=>if P.cellsOf t=ls.length then some ls else none
   | none=>none
  | some (.array n e)=>match Ek P d e with
   | some ls=>if P.cellsOf e=ls.length/\P.cellsOf t=(zfk ls n).length then some (zfk ls n) else none
   | none=>none
  | _=>none
def Bn{α β:Type}{f:α->Option β}:∀ {l:List α} {ys:List β},l.mapM f=some ys->∃ g:List β,g=ys/\(∀ x∈l,∃ y,f x=some y/\y∈ys)/\(∀ y∈ys,∃ x∈l,f x=some y)
 | [],ys,h=>by
  simp at h;subst h;exact⟨_,rfl,by simp,by simp⟩
 | x::l,ys,h=>by
  rw[List.mapM_cons] at h
  cases hx:f x with
  | none=>rw[hx] at h;cases h
  | some y=>
   rw[hx] at h
   cases hl:l.mapM f with
   | none=>rw[hl] at h;cases h
   | some zs=>
    rw[hl] at h;cases h;obtain⟨_,_,h1,h2⟩:=Bn hl;refine⟨_,rfl,fun z hz=>?_,fun z hz=>?_⟩
    ·rcases ma.1 hz with rfl | hz
     ·exact⟨y,hx,mb ..⟩
     ·obtain⟨w,hw,hm⟩:=h1 z hz;exact⟨w,hw,me _ hm⟩
    ·rcases ma.1 hz with rfl | hz
     ·exact⟨x,mb ..,hx⟩
     ·obtain⟨w,hw,hm⟩:=h2 z hz;exact⟨w,me _ hw,hm⟩
def iv(cs:List Value)(off m r:Nat):(cs.drop off).take (m+r)=(cs.drop off).take m++(cs.drop (off+m)).take r:=by
 rw[List.take_add,zqp]
section
variable {P:Program} {H:Type} {enc:TypeId×Value->H} {W:World} {sp:Nat->Bool} {held:Bool} {base:Nat}
def e7:∀ (d:Nat) {t:TypeId} {ls:List bu},Ek P d t=some ls->∀ {fuel:Nat} {cs:List Value} {x:DataW H×List MemPlace},
  DataW.trod enc P W base sp held fuel t cs=some x->LeafsOK ls cs/\x.2=[]
 | 0,_,_,h,_,_,_,_=>by cases h
 | d+1,t,ls,h,fuel,cs,x,hx=>by
  have ih:=@e7 d
  cases fuel with
  | zero=>simp [DataW.trod] at hx
  | succ fuel=>
   rw[Ek] at h;unfold DataW.trod at hx
   cases hu:P.underlying t with
   | none=>rw[hu] at h;cases h
   | some ds=>
    rw[hu] at h hx;cases ds<;>first | (cases h;done) | skip
    ·cases h
     match cs,hx with
     | [.bool b],hx=>cases hx;exact⟨⟨⟨b,rfl⟩,nm⟩,rfl⟩
    ·rename_i k;cases h
     match cs,hx with
     | [.int k' m],hx=>
      simp only at hx;split at hx
      ·rename_i hk;obtain⟨rfl,hw⟩:=hk;cases hx;exact⟨⟨⟨m,rfl,hw⟩,nm⟩,rfl⟩
      ·cases hx
    ·cases h
     match cs,hx with
     | [.string s],hx=>
      simp only at hx;split at hx
      ·rename_i hs;cases hx;exact⟨⟨⟨s,rfl,hs⟩,nm⟩,rfl⟩
      ·cases hx
    ·rename_i n e;simp only at h hx;split at h
     ·rename_i l1 hl1;split at h
      ·rename_i hc;cases h;split at hx
       ·rename_i hlen;obtain⟨xs,hxs,rfl⟩:=zs9.1 hx;obtain⟨_,_,hall,hback⟩:=Bn hxs
        have each:∀ i,i<n->LeafsOK l1 ((cs.drop (i*P.cellsOf e)).take (P.cellsOf e)):=fun i hi=>by
         obtain⟨y,hy,_⟩:=hall i (List.mem_range.2 hi);exact(ih hl1 hy).1
        have gen:∀ m k,k+m=n->LeafsOK (zfk l1 m) ((cs.drop (k*P.cellsOf e)).take (m*P.cellsOf e)):=by
         intro m
         induction m with
         | zero=>intro k _;simp [zfk,LeafsOK]
         | succ m ihm=>
          intro k hk;rw[show(m+1)*P.cellsOf e=P.cellsOf e+m*P.cellsOf e by rw[zqv];omega,iv];refine LeafsOK.append (each k T) ?_;rw[show k*P.cellsOf e+P.cellsOf e=(k+1)*P.cellsOf e by rw[zqv]];exact ihm (k+1) T
        refine⟨?_,?_⟩
        ·have:=gen n 0 T
         have hrl:∀ m,(zfk l1 m).length=m*P.cellsOf e:=by
          intro m
          induction m with
          | zero=>simp [zfk]
          | succ m ihm=>simp only[zfk,nr,ihm,hc.1];rw[zqv];omega
         rw[<-hrl n,<-hc.2,<-hlen] at this;simpa using this
        ·refine List.flatMap_eq_nil_iff.2 fun y hy=>?_;obtain⟨i,_,hi⟩:=hback y hy;exact(ih hl1 hi).2
       ·cases hx
      ·cases h
     ·cases h
    ·rename_i fs;simp only at h hx;split at h
     ·rename_i l1 hl1;split at h
      ·rename_i hc;cases h;split at hx
       ·rename_i hlen;obtain⟨xs,hxs,rfl⟩:=zs9.1 hx;obtain⟨_,_,hall,hback⟩:=Bn hxs
        have gen:∀ (fl:List Field) (off:Nat) (ls:List bu),(∀ f∈fl,f∈fs.toList)->zdt P (Ek P d) fl off=some ls->
          LeafsOK ls ((cs.drop off).take ls.length)/\∀ f∈fl,∃ l,Ek P d f.type=some l:=by
         intro fl
         induction fl with
         | nil=>intro off ls _ h;cases h;simp [LeafsOK]
         | cons f fl ihf=>
          intro off ls hm h;simp only[zdt] at h;split at h
          ·rename_i l2 hl2;split at h
           ·rename_i hc2;obtain⟨rfl,hc3⟩:=hc2;split at h
            ·rename_i r hr;cases h;obtain⟨g1,g2⟩:=ihf _ _ (fun g hg=>hm g (me _ hg)) hr;refine⟨?_,fun g hg=>?_⟩
             ·rw[nr,iv];refine LeafsOK.append ?_ g1;obtain⟨y,hy,_⟩:=hall f (hm f (mb ..));rw[<-hc3];exact(ih hl2 hy).1
             ·rcases ma.1 hg with rfl | hg
              ·exact⟨l2,hl2⟩
              ·exact g2 g hg
            ·cases h
           ·cases h
          ·cases h
        obtain⟨g1,g2⟩:=gen fs.toList 0 _ (fun _ h=>h) hl1;refine⟨?_,?_⟩
        ·rw[<-hc,<-hlen] at g1;simpa using g1
        ·refine List.flatMap_eq_nil_iff.2 fun y hy=>?_;obtain⟨f,hf,hi⟩:=hback y hy;obtain⟨l,hl⟩:=g2 f hf;exact(ih hl hi).2
       ·cases hx
      ·cases h
     ·cases h
def zhq{t e:TypeId}{ls:List bu}{b0:Nat}{dd:DataW H}{ps:List MemPlace}(ht:P.underlying t=some (.slice e))(hlf:Ek P 20 e=some ls)(hce:P.cellsOf e=ls.length)
  (hval:Value.okWide P W .any b0 t v) (hd:DataW.Trod enc P W 0 (fun _=>true) held t v dd ps):
  ∃ cs:List (List Value),(∀ c∈cs,LeafsOK ls c)/\cs.length<=maxLen/\SlV e ls.length cs.flatten cs.length false v (hp W):=by
 obtain⟨fuel,hf⟩:=hd
 have hv:v=.slice none 0 0\/∃ a len cap,v=.slice (some a) len cap/\len<=cap/\cap<=maxLen/\a.spot=none/\∃ cs fr ty,W.heap[a.block]?=some (.cells cs ty fr):=by
  have h0:Cell.ok P W .any b0 t v:=by
   unfold Value.okWide at hval;rw[ht] at hval;unfold Cell.okWide at hval;rw[ht] at hval;exact hval
  unfold Cell.ok at h0;rw[ht] at h0
  match v,h0 with
  | .slice none 0 0,_=>exact .inl rfl
  | .slice (some a) len cap,h0=>
   obtain⟨h1,h2,_,h3,row,cells,h4,_⟩:=h0;have hm:IntKind.i64.max=9223372036854775807:=E;refine .inr ⟨a,len,cap,rfl,h1,by rw[hm] at h2;unfold maxLen;omega,h3,?_⟩;unfold World.shape? at h4;split at h4
   ·rename_i cs ty fr hh;exact⟨_,_,_,hh⟩
   ·cases h4
 rcases hv with rfl | ⟨a,len,cap,rfl,h1,h2,h3,cs,fr,ty,h4⟩
 ·exact⟨[],fun c h=>(nomatch h),mc _,SlV.nil⟩
 ·rcases Deep.open_slice ht (by simpa [Value.cells] using hf) with ⟨h,_⟩ | ⟨a',len',cap',m,nn,D,Pl,h5,_,_,_,hm,_,hx⟩
  ·cases h
  ·cases h5;simp only[if_true] at hm;rw[hm] at hx;clear hm
   obtain⟨C,hC⟩:=Deep.choose_lt (α:=List Value) (n:=cap) (p:=fun i c=>W.cells? 0 (a.add (i*P.cellsOf e)) (P.cellsOf e)=some c/\LeafsOK ls c) (fun i hi=>by
    obtain⟨c,g1,g2⟩:=hx i hi;exact⟨c,g1,(e7 20 hlf g2).1⟩)
   have hln:∀ i,i<cap->(C i).length=ls.length:=fun i hi=>(hC i hi).2.length;refine⟨(List.range len).map C,fun c hc=>?_,by simp;omega,?_⟩
   ·obtain⟨i,hi,rfl⟩:=zo9.1 hc;exact(hC i (by have:=List.mem_range.1 hi;omega)).2
   ·have hfl:∀ k,k<=cap->((List.range k).map C).flatten.length=k*ls.length:=by
     intro k
     induction k with
     | zero=>simp
     | succ k ih=>
      intro hk;rw[List.range_succ,zpo,List.flatten_append,nr,ih T,zqv];simp [hln k T]
    refine⟨by rw[hfl len h1,my,List.length_range],.inr ⟨a.block,a.off,cap,cs,ty,fr,?_,h4,?_,by simpa using h1,fun h=>by cases h⟩⟩
    ·obtain⟨ab,ao,asp⟩:=a;simp only at h3;subst h3;simp
    ·rw[hfl len h1]
     have key:∀ k,k<=cap->(cs.toList.drop a.off).take (k*ls.length)=((List.range k).map C).flatten:=by
      intro k
      induction k with
      | zero=>simp
      | succ k ih=>
       intro hk;rw[zqv,iv,ih T,List.range_succ,zpo,List.flatten_append];congr 1;obtain⟨_,g2,g3⟩:=World.cells?_some (hC k T).1;simp only[mw,zpk,List.flatten_cons,List.flatten_nil,mo];apply zsn;intro j;rcases m8 j ls.length with hj | hj
       ·have:=g3 j T;rw[<-this,zqw hj,zqa];obtain⟨ab,ao,asp⟩:=a;simp only at h3;subst h3;rw[vj,vj,kq h4];simp only[hce];rw[zr4]
       ·rw[zpd (by rw[mg];omega),zpd (by rw[hln k T];exact hj)]
     exact key len h1
end
end Go.V
namespace Go.V.L3
open Go.V.L2
def Vd{n:Int}(h:Lit.wf (.int .u8 n)=true):∃ k:Nat,n=k/\k<=255:=by
 have hb:IntKind.u8.min<=n/\n<=IntKind.u8.max:=by simpa [Lit.wf] using h
 have hmin:IntKind.u8.min=0:=E;have hmax:IntKind.u8.max=255:=E;rw[hmin,hmax] at hb;exact⟨n.toNat,by omega,by omega⟩
def Qv:∀ (cs:List (List Value)),(∀ c∈cs,LeafsOK [.i .u8,.i .u8] c)->∃ ps:List (Nat×Nat),cs.flatten=ps.flatMap pcs/\cs.length=ps.length/\∀ p∈ps,p.1<=255/\p.2<=255
 | [],_=>⟨[],rfl,rfl,fun n h=>by cases h⟩
 | c::cs,h=>by
  obtain⟨ps,h1,h2,h3⟩:=Qv cs fun x hx=>h x (me _ hx);have hc:=h c (mb ..);obtain⟨n,r1,rfl,hw,hc⟩:=Ff hc;obtain⟨m,r2,rfl,hw2,hc⟩:=Ff hc;obtain rfl:=Hl hc;obtain⟨n,rfl,hn⟩:=Vd hw;obtain⟨m,rfl,hm⟩:=Vd hw2;refine⟨(n,m)::ps,by rw[List.flatten_cons,zp0,h1];rfl,by rw[nz,nz,h2],fun p hp=>?_⟩;rcases ma.1 hp with rfl | hp
  ·exact⟨hn,hm⟩
  ·exact h3 p hp
def zm3{cs:List (List Value)}(lcs:∀ c∈cs,LeafsOK [.i .u8,.i .u8] c)(zcs:cs.length<=maxLen)(hcs:SlV ty2 2 cs.flatten cs.length false v H):
  ∃ ps:List (Nat×Nat),(∀ p∈ps,p.1<=255/\p.2<=255)/\ps.length<=9223372036854775807/\PS2 ps false v H:=by
 obtain⟨ps,h1,h2,h3⟩:=Qv cs lcs;rw[h1,h2] at hcs;exact⟨ps,h3,by unfold maxLen at zcs;omega,hcs⟩
end Go.V.L3
namespace Go.V.L8
open Go.V.L2 Go.V.L3 Go.V.L6
def Cc:∀ (cs:List (List Value)),(∀ c∈cs,LeafsOK [.i .u8,.i .u8,.i .u8] c)->∃ qs:List C3,cs.flatten=qs.flatMap qcs/\cs.length=qs.length/\∀ c∈qs,c.1<=255/\c.2.1<=255/\c.2.2<=255
 | [],_=>⟨[],rfl,rfl,fun n h=>by cases h⟩
 | c::cs,h=>by
  obtain⟨qs,h1,h2,h3⟩:=Cc cs fun x hx=>h x (me _ hx);have hc:=h c (mb ..);obtain⟨n,r1,rfl,hw,hc⟩:=Ff hc;obtain⟨m,r2,rfl,hw2,hc⟩:=Ff hc;obtain⟨k,r3,rfl,hw3,hc⟩:=Ff hc;obtain rfl:=Hl hc;obtain⟨n,rfl,hn⟩:=Vd hw;obtain⟨m,rfl,hm⟩:=Vd hw2;obtain⟨k,rfl,hk⟩:=Vd hw3;refine⟨(n,m,k)::qs,by rw[List.flatten_cons,zp0,h1];rfl,by rw[nz,nz,h2],fun p hp=>?_⟩;rcases ma.1 hp with rfl | hp
  ·exact⟨hn,hm,hk⟩
  ·exact h3 p hp
def zf3{cs:List (List Value)}(lcs:∀ c∈cs,LeafsOK [.i .u8,.i .u8,.i .u8] c)(zcs:cs.length<=maxLen)(hcs:SlV ty3 3 cs.flatten cs.length false v H):
  ∃ qs:List C3,(∀ c∈qs,c.1<=255/\c.2.1<=255/\c.2.2<=255)/\qs.length<=9223372036854775807/\PS3 qs false v H:=by
 obtain⟨qs,h1,h2,h3⟩:=Cc cs lcs;rw[h1,h2] at hcs;exact⟨qs,h3,by unfold maxLen at zcs;omega,hcs⟩
end Go.V.L8
namespace Go.V.L11
open Go.V Go.V.L2 Go.V.L3 Go.V.L4 Go.V.L6 Go.V.L8 Go.V.Bd Go.V.L10
def Vg(s:ByteArray):∀ b∈t7 s,b<=255:=fun b hb=>by
 unfold t7 at hb;rcases mh.1 hb with h | h
 ·exact Ae _ b h
 ·exact Sb s b h
def zg2(l:List U):∀ b∈rp l,b<=255:=fun b hb=>by
 unfold rp at hb;rcases mh.1 hb with h | h
 ·exact Ae _ b h
 ·obtain⟨t,_,ht⟩:=zrr.1 h;obtain⟨s,_,hs⟩:=zrr.1 (show b∈(u6 t).flatMap t7 from ht);exact Vg s b hs
def zgk{l:List U}(h:∀ t∈l,tE t=0):∀ t∈l,∀ s∈u6 t,s.size<=1000:=fun t ht s hs=>by have:=zb2 (h t ht) s hs;omega
section
variable {P:Program}       {q:Nat}    
end
attribute [local irreducible] V N X VO Par XP LV StepOK Has Ret RetL RetO RetT kx RetX RetY Pan ed Src
end Go.V.L11
namespace Go.V.L11
open Go.V.L2 Go.V.L3 Go.V.L4 Go.V.L6 Go.V.L8 Go.V.L10
structure LoOK(ks:List K3):Prop where
 k:KOK ks 0
 l0:0<ks.length
 l1:ks.length<=1024
def Y6{f:Int->Nat×List U}:∀ {L:List Int} {last:Int},(∀ r∈L,last<r/\r<=18446744073709551615/\(f r).1<=4096/\SOK (f r).2/\(f r).2.length<=4096)->Sst cP L->KOK (L.map fun r=>(r,f r)) last
 | [],_,_,_=>trivial
 | r::L,last,h,hs=>by
  have h1:=mj.1 hs;obtain⟨a,b,c,d,e⟩:=h r (mb ..);exact⟨a,b,c,d,e,Y6 (fun x hx=>⟨za7.1 (h1.1 x hx),(h x (me _ hx)).2⟩) h1.2⟩
structure StoL(S:Sto):Prop where
 D:zod S
 last:(kpt S.R S.R.length).isSome=true
 pin:∀ r∈S.P,(kpt S.R r).isSome=true
 so:∀ r t,kpt S.R r=some t->SOK t
 cn:∀ r,List.count r S.P<=4096
def StoL.lo(h:StoL S):LoOK (Pf S):=by
 have hk:=h.D.k0;have hl:=h.D.kl;have hr:=h.D.rl;refine⟨Y6 (f:=fun r=>(List.count r S.P,tZ S r)) (fun r hm=>?_) (ek S.R),by rw[zfx];exact hk,by rw[zfx];exact hl⟩;have h1:=vo.1 hm;have h2:=bj h1;obtain⟨t,ht⟩:=zqd.1 h1;have h3:tZ S r=t:=by unfold tZ;rw[ht];rfl
 rw[h3];exact⟨h2.1,by omega,h.cn r,h.so r t ht,(h.D.tl r t ht).1⟩
def ziy(c:CH):∀ b∈chgB c,b<=255:=fun b hb=>by
 unfold chgB tupB ua at hb;rcases mh.1 hb with h | h
 ·obtain⟨s,_,h⟩:=zrr.1 h;exact Vg s b h
 ·rw[m4] at h;subst h;split<;>decide
def ziw(cs:List CH):∀ b∈zbr cs,b<=255:=fun b hb=>by
 unfold zbr at hb;rcases mh.1 hb with h | h
 ·exact Ae _ b h
 ·obtain⟨c,_,h⟩:=zrr.1 h;exact ziy c b h
def zan:∀ {ks:List K3} {last:Int} {s:List U},∀ b∈Un ks last s,b<=255
 | [],_,_,_,h=>by cases h
 | k::ks,last,s,b,hb=>by
  unfold Un at hb;rcases mh.1 hb with h | h
  ·rcases mh.1 h with h | h
   ·exact Ae _ b h
   ·rcases mh.1 h with h | h
    ·exact Ae _ b h
    ·exact ziw _ b h
  ·exact zan b h
def zim{ks:List K3}:∀ b∈Pm ks,b<=255:=fun b hb=>by
 unfold Pm at hb;rcases mh.1 hb with h | h
 ·exact Ae _ b h
 ·exact zan b h
def Rr:∀ {ks:List K3} {last:Int} {s:List U},KOK ks last->0<=last->SOK s->s.length<=4096->(Un ks last s).length<=ks.length*50000000
 | [],_,_,_,_,_,_=>nu _
 | (r,n,t)::ks,last,s,h,h0,hs,hl=>by
  obtain⟨k1,k2,k3,k4,k5,k6⟩:=h;dsimp only at k1 k2 k3 k4 k5 k6;have ih:=Rr k6 T k4 k5;have hb:=H9 s t;have hz:=zly hs k4;have h1:=pf (n:=(r-last).toNat) T;have h2:=pf (n:=n) T;have h3:=pf (n:=(D9 s t).length) T;have h4:=D6 hz (D9 s t).length;rw[m9] at h4;unfold Un zbr;simp only[nr,nz];omega
def LoOK.bytes{ks:List K3}(h:LoOK ks):(Pm ks).length<=52000000000/\0<(Pm ks).length:=by
 have h1:=Rr h.k (zqy 0) znz (mc _);have h2:=pf (n:=ks.length) (by have:=h.l1;omega);have h3:=h.l1;have h4:0<(vq ks.length).length:=by unfold vq;split<;>simp
 unfold Pm;rw[nr];omega
end Go.V.L11
namespace Go.V.Top
open Go.V.L2 Go.V.L4 Go.V.L6 Go.V.L8 Go.V.L10 Go.V.L11
abbrev zor:ByteArray:=⟨#[100,111,99,58,97,35,118,105,101,119,101,114,64,117,115,101,114,58,120,10,100,111,99,58,98,35,118,105,101,119,101,114,64,117,115,101,114,58,120,10]⟩
def zon:Uw ptA zor=([d0,d2],0,0):=by decide+kernel
abbrev q1:Sto:=⟨[some [],some [d0,d2]],[]⟩
abbrev q2:Sto:=⟨[some [],some [d0,d2]],[2]⟩
abbrev q3:Sto:=⟨[some [],some [d0,d2],some [d2]],[2]⟩
abbrev q4:Sto:=⟨[none,some [d0,d2],some [d2]],[2]⟩
def zka:B5 newS [(d0,true)] [(d0,false),(d2,false)]=(q1,2,0):=J
def znx:zhh q1 2 false=(q2,0):=J
def zj9:B5 q2 [(d0,false)] [(d0,true)]=(q3,3,0):=J
def zny:Am q3 1=(q4,[1],0):=J
def zmz:atS q4 2=([d0,d2],0):=J
def zm0:atS q4 0=([d2],0):=J
def zmx:zjk [d0,d2] d0.2=[d0,d2]:=by decide+kernel
def zmy:zjk [d2] d0.2=[d2]:=by decide+kernel
def zoo:loS (kzs (Pf q4),kpi (Pf q4))=q4:=J
def zoq:Cq q4 q4=true:=by unfold Cq;rw[Bool.and_eq_true];exact⟨decide_eq_true rfl,decide_eq_true rfl⟩
def zop:JJ 1 q1/\JJ 2 q2/\JJ 3 q3/\JJ 4 q4:=by
 have z0:TZ d0:=Qb E;have z2:TZ d2:=Qb E;have e0:tE d0=0:=by decide+kernel
 have e2:tE d2=0:=by decide+kernel
 have j1:=zn8 zfz E (fun c hc=>by
  simp only[ma,zqe,or_false] at hc;rcases hc with rfl | rfl
  ·exact⟨z0,e0⟩
  ·exact⟨z2,e2⟩) E zka
 have j2:=zoz j1 znx
 have j3:=zn8 j2 E (fun c hc=>by
  rw[m4] at hc;subst hc;exact⟨z0,e0⟩) E zj9
 exact⟨j1,j2,j3,zo0 j3 zny⟩
end Go.V.Top
end
