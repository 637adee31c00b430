/- Texts, part 3. -/
import Derived.Test.YtooecmiihjampaaGreatTopOrderM2
import Derived.Laws.IdiomRangeMap
import Derived.Lib.Builder
import Derived.Lib.UnsafeStr
set_option linter.unusedVariables false
set_option linter.unusedSimpArgs false
set_option maxRecDepth 20000
set_option maxHeartbeats 8000000
set_option linter.defProp false
open Go.Proofs Go.RowKit
section
variable{b cf ck d f i k lim m n off q rb:Nat}{s str:ByteArray}{u w:Go.World}{B H:Go.V.Heap}{stop:Go.V.wa->Bool}{x y:Go.Operand}{args cap caps cs fst rest xs z:List Go.Value}{pre:Go.V.wa}{P:Go.Program}{F:Go.V.Fr}{O:Go.V.Boxes}{ops:Array Go.Oper}{κ:Go.V.Kap}{e et kt t t' ty:Go.TypeId}{pos:String}{aft:Array Go.Edge}{g:Option (Nat×Bool)}{zpf:Go.Exit->Go.Act->Go.World->Prop}{p:Option Go.Addr}{at_:Array Go.TypeId}{vs:List (Nat×Go.Value)}{C:Nat->Prop}{φ ψ:Go.Value->Go.V.Heap->Prop}{kd:Go.IntKind}{a:Go.Act}{os:List Go.Oper}{α:Type}{fp:Nat->Nat->Prop}{parts:Array (Nat×Go.Operand)}{places:List (Nat×Nat)}{root sv v:Go.Value}{l zpd:List Go.V.L2.U}{bs:List Nat}{fu:Bool}{R:Go.V.L4.Rd}{fr:Nat×Nat}{A Y:Prop}
namespace Go.V.L11
open Go.V.L2 Go.V.L4
def _root_.Zcg(t:Wr Y->A:=by intro h;refine z7 (Nn Z Z Z Z (nf T)) Z ?_;exact h.1)(h:Y):A:=t ⟨h⟩
def _root_.Za6(t:Wr Y->A:=by intro h;refine z7 (Nn Z Z Z Z (ng T)) Z ?_;exact h.1)(h:Y):A:=t ⟨h⟩
def _root_.Zc1(t:Wr Y->A:=by intro h;refine z8 (y6 Z Z Z Z (yy T T)) Z ?_;exact h.1)(h:Y):A:=t ⟨h⟩
def _root_.Zde(t:Wr Y->A:=by intro h;refine qz (qb L (q:=78) Z Z Z Z) ?_;exact h.1)(h:Y):A:=t ⟨h⟩
def _root_.Zev(t:Wr Y->A:=by intro h;refine qn (qb L (q:=78) Z Z Z Z) Z Z ?_;exact h.1)(h:Y):A:=t ⟨h⟩
def _root_.Zch(t:Wr Y->A:=by exact fun h=>(Zbj∘Zc6) h.1)(h:Y):A:=t ⟨h⟩
def _root_.Zcw(t:Wr Y->A:=by exact fun h=>(Zch∘Z6) h.1)(h:Y):A:=t ⟨h⟩
def _root_.ZbD(t:Wr Y->A:=by exact fun h=>(ZD∘Zcw) h.1)(h:Y):A:=t ⟨h⟩
def _root_.ZbK(t:Wr Y->A:=by exact fun h=>(Zcg∘ZD) h.1)(h:Y):A:=t ⟨h⟩
abbrev Fz:Nat:=9
abbrev vu(l:List ByteArray):wa:=l.map fun x=>[Value.string x]
def zhj{c:UInt8}:∀ {l:List UInt8},c∉l->Lib.indexByte l c= -1
 | [],_=>rfl
 | x::l,h=>by
  rw[nz,not_or] at h;unfold Lib.indexByte;rw[nc (by simpa using Ne.symm h.1),zhj h.2];rfl
def zci{c:UInt8}{q:List UInt8}:∀ {p:List UInt8},c∉p->Lib.indexByte (p++c::q) c=(p.length:Int)
 | [],_=>by
  show Lib.indexByte (c::q) c=0;unfold Lib.indexByte;rw[na (by simp)]
 | x::p,h=>by
  rw[nz,not_or] at h;show Lib.indexByte (x::(p++c::q)) c=_;unfold Lib.indexByte;rw[nc (by simpa using Ne.symm h.1),zci h.2,nc (by simp)];rfl
attribute [local irreducible] V N X VO Par StepOK Has Ret RetL RetO RetT ki RetX RetY Src
def oa{k:Int}(hk:Lib.indexByte s.data.toList 10=k)(hB:zpg B w):
  Ret zph 242 [.string s,.int .u8 10] w B (fun v _=>v=.int .i64 k):=by
 subst hk;exact Ret.of_same hB (Tryz.strings_IndexByte s 10 w)
def Oj{r:ByteArray}{f:Bool}(hs:s.size<=9223372036854775807)(h:Lib.hasSuffix s.data.toList [10]=f)(hr:(⟨(Lib.trimSuffix s.data.toList [10]).toArray⟩:ByteArray)=r)(hB:zpg B w):
  Ret zph 131 [.string s,.string ⟨#[10]⟩] w B (fun v _=>v=.tuple #[.string r,.bool f]):=by
 subst h hr;exact Ret.of_same hB (Tryz.strings_CutSuffix s ⟨#[10]⟩ w hs)
def Ci{x:List Value}{xs:wa}(h:stop (pre++[x])=false):jf stop pre (x::xs)=jf stop (pre++[x]) xs:=by
 simp only[jf];rw[nc (by rw[h];decide)]
def F6{x:List Value}{xs:wa}(h:stop (pre++[x])=true):jf stop pre (x::xs)=pre++[x]:=by
 simp only[jf];rw[na h]
def Yj{r:ByteArray}(h:r≠⟨#[]⟩):0<r.size:=by
 rcases Nat.eq_zero_or_pos r.size with h0 | h0
 ·exfalso;apply h;apply db;have:=uq r;rw[h0] at this;exact mz this
 ·exact h0
def Yi(hs:s.size<=1099511627776)(hB:zpg B w):zic zph 241 [xz b] (yz b [.string s] Fz) w B (vu (cx s)):=by
 intro ly zpb stop C Cg hst hY hJ hC hg hCg hd;refine yr 77 (uw (zpb []) (yz b [.string s] Fz)) Tryz.func241 Z Tryz.ntmps241 (np Z) hB ⟨C,Cg,hJ,hg,fun _=>Iff.rfl,hd⟩ (fun k hk=>hk.elim (hC k) (hCg k)) ?_;rw[wo];refine vz 77 78 rfl (fun _ _ _ _ _ h=>h) ?_;rw[xa];refine Zak (h:=?_)
 refine xm (fun x:List ByteArray×ByteArray=>[(0,.is (.func (.yield ly) #[] #[])),(1,.is (xz b)),(77,.own (zpb (vu x.1)).res),(78,.own (xk b [.string x.2] Fz))])
  (fun x=>vu x.1++vu (cx x.2)=vu (cx s)/\jf stop [] (vu (cx s))=jf stop (vu x.1) (vu (cx x.2))/\stop (vu x.1)=false/\x.2.size<=s.size) (fun x=>x.2.size) ([],s) ⟨rfl,rfl,hst,ns _⟩ ⟨rfl,rfl,rfl,rfl,nm⟩ ?_
 rintro⟨pre,r⟩ ⟨h1,h2,h3,h4⟩;dsimp only at h1 h2 h3 h4 |-;by_cases hr:r=⟨#[]⟩
 ·subst hr;have h0:(⟨#[]⟩:ByteArray).size=0:=rfl;rw[Ep] at h2;refine(Zf∘ZB∘Zde∘Zc8∘ZJ∘ZZ∘Zax) ?_;refine xo (r:=zpb (vu pre)) (r':=zpb (jf stop [] (vu (cx s)))) L 77 rfl (fun _ _ h=>h) nq Z (by rw[h2];rfl)
 ·have hp0:=Yj hr;rcases zdf r 10 with hn | ⟨a,c,hac,hn⟩
  ·have e1:=zee hn hr;rw[e1] at h1 h2;have hi:=zhj hn;have hpre:vu pre++[[Value.string r]]<+:vu (cx s):=by rw[<-h1];exact List.prefix_rfl
   cases hb':stop (vu pre++[[Value.string r]])
   ·refine(Zf∘ZB∘Zde∘Zc8∘ZO∘ZbD∘Z3∘Zi∘Zx∘Zde) ?_;refine z71 L Z (fun u H hH _=>oa hi hH) ?_;refine(Zd∘Zp∘Za6∘ZZ∘ZE∘Zde∘Zv) ?_;refine xh (ye L (q:=78) (cs':=[.string ⟨#[]⟩]) Z Z Z Z Z) ((Zg∘ZbG) ?_);refine zy (ue (gs:=77) hY hpre h3 (nh Bool.not hb') Z Z Z Z Z) ((Zt∘Zad∘Zao) ?_);refine yn (x:=(pre,r)) (pre++[r],⟨#[]⟩) ⟨?_,?_,?_,mf _⟩ hp0 ⟨Z,Z,?_,Z,nm⟩
    ·rw[Ep,<-h1];simp [vu]
    ·rw[h2,Ep];show jf stop (vu pre) [[Value.string r]]=jf stop (vu (pre++[r])) [];rw[Ci hb'];simp [vu]
    ·have:vu (pre++[r])=vu pre++[[Value.string r]]:=by simp [vu]
     rw[this];exact hb'
    ·have:vu (pre++[r])=vu pre++[[Value.string r]]:=by simp [vu]
     dsimp only;rw[this];rfl
   ·refine(Zf∘ZB∘Zde∘Zc8∘ZO∘ZbD∘Z3∘Zi∘Zx∘Zde) ?_;refine z71 L Z (fun u H hH _=>oa hi hH) ?_;refine(Zd∘Zp∘Za6∘ZZ∘ZE∘Zde∘Zv) ?_;refine xh (ye L (q:=78) (cs':=[.string ⟨#[]⟩]) Z Z Z Z Z) ((Zg∘ZbG) ?_);refine zy (ue (gs:=77) hY hpre h3 (nh Bool.not hb') Z Z Z Z Z) ((Zt∘ZD) ?_);exact k9 L 77 rfl (fun _ _ h=>h) nq Z (by rw[h2];show _=zpb (jf stop (vu pre) [[Value.string r]]);rw[F6 hb'])
  ·have e1:cx r=(a++sNl)::cx c:=by rw[hac];exact zad hn
   have hra:r.size=a.size+1+c.size:=by rw[hac,znq,znq];rfl
   have hi:Lib.indexByte r.data.toList 10=(a.size:Int):=by
    rw[hac,vt,vt,mj];show Lib.indexByte (a.data.toList++10::c.data.toList) 10=_;rw[zci hn,uq]
   have x1:r.extract 0 (a.size+1)=a++sNl:=by
    have:=Uz ⟨#[]⟩ (a++sNl) c 0 (a.size+1) rfl (by rw[znq];show _=0+(a.size+1);omega);rw[hac];rw[show(a++⟨#[10]⟩++c:ByteArray)=⟨#[]⟩++(a++sNl)++c from db (by simp [vt])];exact this
   have x2:r.extract (a.size+1) r.size=c:=by
    have:=Uz (a++sNl) c ⟨#[]⟩ (a.size+1) r.size (by rw[znq];rfl) (by rw[znq];exact hra);rw[show(a++sNl++c++⟨#[]⟩:ByteArray)=r from db (by rw[hac];simp [vt])] at this;exact this
   rw[e1] at h1 h2
   have hpre:vu pre++[[Value.string (a++sNl)]]<+:vu (cx s):=by
    rw[<-h1];exact⟨vu (cx c),by simp [vu]⟩
   cases hb':stop (vu pre++[[Value.string (a++sNl)]])
   ·refine(Zf∘ZB∘Zde∘Zc8∘ZO∘ZbD∘Z3∘Zi∘Zx∘Zde) ?_;refine z71 L Z (fun u H hH _=>oa hi hH) ?_;refine(Zd∘Zp∘ZbK) ?_;refine qg (id:=4) [(200012,[78]),(200016,[78]),(100001,[78])] mixed J ((Zev∘Zj∘Zc1) ?_);refine z8 (iv L (kl:=.i64) (pl:=0) 0 (a.size+1) Z Z Z Z Z ⟨rfl,by omega⟩ T T x1) Z ?_;refine(Zev∘Zj∘Zc1) ?_;refine z8 (iv L (kh:=.i64) (ph:=0) (a.size+1) _ Z Z Z Z ⟨rfl,by omega⟩ Z T T x2) Z ?_;refine Zbd (h:=?_);refine xl (ye L (q:=78) (cs':=[.string c]) Z Z Z Z Z) Z ((ZaJ∘ZbG) ?_);refine zy (ue (gs:=77) hY hpre h3 (nh Bool.not hb') Z Z Z Z Z) ((Zt∘Zad∘Zao) ?_);have e3:vu (pre++[a++sNl])=vu pre++[[Value.string (a++sNl)]]:=by simp [vu]
    refine yn (x:=(pre,r)) (pre++[a++sNl],c) ⟨?_,?_,?_,?_⟩ ?_ ⟨Z,Z,?_,Z,nm⟩
    ·rw[<-h1];simp [vu]
    ·rw[h2];show jf stop (vu pre) ([Value.string (a++sNl)]::vu (cx c))=_;rw[Ci hb',e3]
    ·rw[e3];exact hb'
    ·dsimp only;omega
    ·dsimp only;omega
    ·dsimp only;rw[e3];rfl
   ·refine(Zf∘ZB∘Zde∘Zc8∘ZO∘ZbD∘Z3∘Zi∘Zx∘Zde) ?_;refine z71 L Z (fun u H hH _=>oa hi hH) ?_;refine(Zd∘Zp∘ZbK) ?_;refine qg (id:=4) [(200012,[78]),(200016,[78]),(100001,[78])] mixed J ((Zev∘Zj∘Zc1) ?_);refine z8 (iv L (kl:=.i64) (pl:=0) 0 (a.size+1) Z Z Z Z Z ⟨rfl,by omega⟩ T T x1) Z ?_;refine(Zev∘Zj∘Zc1) ?_;refine z8 (iv L (kh:=.i64) (ph:=0) (a.size+1) _ Z Z Z Z ⟨rfl,by omega⟩ Z T T x2) Z ?_;refine Zbd (h:=?_);refine xl (ye L (q:=78) (cs':=[.string c]) Z Z Z Z Z) Z ((ZaJ∘ZbG) ?_);refine zy (ue (gs:=77) hY hpre h3 (nh Bool.not hb') Z Z Z Z Z) ((Zt∘ZD) ?_);exact k9 L 77 rfl (fun _ _ h=>h) nq Z (by rw[h2];show _=zpb (jf stop (vu pre) ([Value.string (a++sNl)]::vu (cx c)));rw[F6 hb'])
end Go.V.L11
namespace Go.V
def SlX(e:TypeId)(s cap n:Nat)(xs:List Value):Res where
 P x _ u C:=xs.length=n*s/\∃ b rest,x=.slice (some ⟨b,0,none⟩) n cap/\u.heap[b]?=some (.cells (xs++rest).toArray e)/\n<=cap/\cap<=maxLen/\(xs++rest).length=cap*s/\∀ k,C k↔k=b
 st:=fun⟨hl,b,rest,h1,h2,h3,h4,h5,h6⟩ _ _ _ hk=>⟨hl,b,rest,h1,(hk b ((h6 b).2 rfl)).trans h2,h3,h4,h5,h6⟩
section
def S7(L:Tabs P){kl kc:IntKind}{s by_:Nat}(c:Nat){p:Int}(hn:Nat.blt d n=true)(hg:gK ops κ ⟨some d,.makeSlice t x y,ty,pos,aft,g⟩=some true)(ht:L.sl t=some e)(he:elI P e=some (s,by_))
  (hx:evK κ x=some (.int kl 0)) (hy:evK κ y=some (.int kc p)) (hp:p=c) (hb:by_*c<=281474976710656) (hc:c<=maxLen):StepOK P F B n ops O κ ⟨some d,.makeSlice t x y,ty,pos,aft,g⟩ d (.own (SlX e s c 0 [])):=by
 rintro κ' a u hl ⟨H,fp,hh⟩;unfold After;rw[na (xf hh hl hg)];have en:=hh.env hl;obtain⟨i,z,hi,hz,hs1,hs2,hs3,hs4⟩:=w8 he;have h1:=en.is_ x _ (by simp [Op.operands]) hx;have h2:=en.is_ y _ (by simp [Op.operands]) hy;subst hp
 have hb':(i.bytes:Int)*(c:Int)<=281474976710656:=by
  have h:((by_*c:Nat):Int)<=281474976710656:=T;rw[hs2];rwa [Int.natCast_mul] at h
 have h63:(c:Int)<=9223372036854775807:=by simp [maxLen] at hc;omega
 have hr:=run_make (P:=P) u t e i z (Tabs.sl_spec ht) hi hz kl kc 0 c (zm5 _) T hb' h63;simp only[Int.toNat_zero,zlp] at hr
 have hrun:(execOp a.eval ⟨some d,.makeSlice t x y,ty,pos,aft,g⟩).run P u=.ok (.value (.slice (some ⟨u.heap.size,0,none⟩) 0 c)) (u.alloc (.cells (madeCells z.cells (c*i.size)) e)):=by
  simp only[execOp,h1,h2,nu,hr,ma];rfl
 rw[hrun];simp only[Upon];have hg2:=hh.grow (Grow.hid hh.sub (.cells (madeCells z.cells (c*i.size)) e));refine⟨H,_,hg2.putR (C:=fun k=>k=u.heap.size) (by simp [Act.put]) Z (fun t ht=>xn ht) ⟨by simp,u.heap.size,(madeCells z.cells (c*i.size)).toList,xx (by rw[hh.size];exact zn hn),by rw[xu];simp,mf _,hc,by simp [size_madeCells,hs1],fun _=>Iff.rfl⟩ (fun k hk=>?_) fun t r' _ ht k hf hk=>?_⟩
 ·subst hk;exact⟨xb (xu u _),k7 hh.sub (ns _),.inl hh.keep.size,fun y hy e=>by have:=xb (hh.boxes y hy).1;omega⟩
 ·have:=((hh.slot t _ ht).2 k hf).1;omega
def zbt(t q:Nat){s cap:Nat}{c:Code}(hk:κ t=some (.own (SlX e s cap m xs)))
  (h:∀ b rest,xs.length=m*s->m<=cap->cap<=maxLen->(xs++rest).length=cap*s->V P F B n O (upd (upd (upd κ t fm) q (.own (xk b (xs++rest) e))) t (.is (.slice (some ⟨b,0,none⟩) m cap))) c zpf):V P F B n O κ c zpf:=fun a u hh=>by
 obtain⟨H,fp,hh⟩:=hh;obtain⟨⟨hl,b,rest,hv,hb,h3,h4,h5,hC⟩,hM⟩:=hh.slot t _ hk;have h2:=hh.usePut (d:=q) (a':=a) (r':=xk b (xs++rest) e) (C:=fp t) hk ⟨Keep.refl _ _,hh.sub,mo _,fun _ _ _=>rfl⟩ rfl rfl (fun _ _=>rfl) ⟨hb,hC⟩ fun k hk=>⟨.inl hk,(hM k hk).1,(hM k hk).2.1⟩
 have h3':=h2.name t;rw[hv] at h3';exact h b rest hl h3 h4 h5 a u ⟨H,_,h3'⟩
def Lu(L:Tabs P){nn cap:Nat}{s by_:Nat}{cur news cur':List Value}(hn:Nat.blt d n=true)(hg:gK ops κ ⟨some d,.call ⟨.builtin .append,#[x,y],#[t,t]⟩,ty,pos,aft,g⟩=some true)
  (hx:evK κ x=some (.slice (some ⟨b,0,none⟩) nn cap)) (hq:κ q=some (.own (xk b cur e))) (hy:Apd F B O κ y m news) (ht:L.sl t=some e) (he:elI P e=some (s,by_)) (hm:0<m) (hnl:news.length=m*s) (hroom:nn+m<=cap) (hcl:nn*s+m*s<=cur.length) (h1:news.all vj=true)
  (hr:cur.take (nn*s)++(news++cur.drop (nn*s+m*s))=cur'):
  wh P F B n ops O κ ⟨some d,.call ⟨.builtin .append,#[x,y],#[t,t]⟩,ty,pos,aft,g⟩ q (.own (xk b cur' e)) d (.is (.slice (some ⟨b,0,none⟩) (nn+m) cap)):=by
 rintro κ' a u hlk hks ⟨H,fp,hh⟩;unfold After;rw[na (xf hh hlk hg)];have en:=hh.env hlk;have hk':κ' q=some (.own (xk b cur e)):=hks.trans hq;have hxe:=en.is_ x _ (by simp [Op.operands,Call.operands]) hx;obtain⟨⟨hb,hC⟩,hM⟩:=hh.slot q _ hk';obtain⟨i,z,hi,hz,hs1,hs2,hs3,hs4⟩:=w8 he;subst hs1;rcases hy _ a u H fp (by simp [Op.operands,Call.operands]) en with ⟨h0,_⟩ | ⟨ad,c',hye,hcy⟩
 ·omega
 have hrun0:=run_append_room (P:=P) u t ty e i (Tabs.sl_spec ht) hi b nn cap cur.toArray hb ad m c' news hnl hcy (fun v hv=>g7 (zlj.1 h1 v hv)) hroom (by rw[hnl];simpa using hcl);rw[hnl] at hrun0;simp only[mj] at hrun0;rw[hr] at hrun0
 have hrun:(execOp a.eval ⟨some d,.call ⟨.builtin .append,#[x,y],#[t,t]⟩,ty,pos,aft,g⟩).run P u=.ok (.value (.slice (some ⟨b,0,none⟩) (nn+m) cap)) (u.setRow b cur'.toArray):=by
  simp only[execOp,resolve,invoke,builtin,nu,me,ma,zlv,mp,zlm,hxe,hye,hrun0]
 rw[hrun];simp only[Upon];have hbm:=hM b ((hC b).2 rfl)
 have h2:=hh.usePut (d:=q) (a':=a) (r':=xk b cur' e) (C:=fun k=>k=b) hk' (ww hh.sub hb ((hC b).2 rfl) hbm.2.1 _) rfl rfl (fun _ _=>rfl) ⟨setRow_heap u b cur.toArray cur'.toArray e (0,0) hb,fun _=>Iff.rfl⟩ (fun k hk=>by
  subst hk;exact⟨.inl ((hC k).2 rfl),by rw[setRow_size];exact hbm.1,hbm.2.1⟩)
 rw[jo] at h2;exact⟨H,_,h2.put (k:=.is _) (zn hn) trivial Z⟩
end
end Go.V
namespace Go.V
section
def My{k:Kn}(h:κ q=some k):upd κ q k=κ:=by
 funext t;by_cases e:t=q
 ·subst e;rw[xj];exact h.symm
 ·rw[xd _ _ e]
def wx(L:Tabs P)(q:Nat)(φ:Value->Heap->Prop){r:GR}{args:Array Operand}{fo:Operand}
  (hn:Nat.blt d n=true) (hg:gK ops κ ⟨some d,.call { callee:=.value fo,args:=args,argTypes:=at_ },ty,pos,aft,g⟩=some true)
  (hf:evK κ fo=some (.func (.func f) #[] cap.toArray)) (hfn:L.fn f=some ()) (hq:κ q=some (.own r.res)) (hm:Kn.mono (.sat φ))
  (h:∀ u H C,zpg H u->B.Le H->r.P H u C->(ZCB C u H)->Args κ H args.toList [] (fun vs=>RetY P f (vs++cap) u H C r φ)):
  StepOKR P F B n ops O κ ⟨some d,.call { callee:=.value fo,args:=args,argTypes:=at_ },ty,pos,aft,g⟩ q d (.sat φ):=by
 rintro κ' a u hlk hks ⟨H,fp,hh⟩;unfold After;rw[na (xf hh hlk hg)];have hk':κ' q=some (.own r.res):=hks.trans hq;obtain⟨hown,hM⟩:=hh.slot q _ hk';have e2:=hh.env hlk;have hfe:a.eval fo=.func (.func f) #[] cap.toArray:=e2.is_ fo _ (by simp [Op.operands,Call.operands]) hf;have hc:=Args.use e2 args.toList [] (fun x hx=>by simp [Op.operands,Call.operands] at hx |-;exact .inr hx) (h u H (fp q) hh.sub hh.base hown fun k hk=>⟨(hM k hk).1,(hM k hk).2.1⟩);simp only[zmb,mh] at hc;rw[vr L rfl hfe hfn];simp only[Upon];refine Calls.mono hc fun e' u' hp=>?_;obtain⟨x,rfl,H',g',hx,C',hv,hC'⟩:=hp;have h2:=hh.usePut (d:=q) (a':=a) (r':=r.res) hk' g' rfl rfl (fun _ _=>rfl) hv hC';rw[jo,My hk'] at h2;exact⟨x,rfl,H',_,h2.put (k:=.sat φ) (zn hn) hm hx⟩
def Gz(L:Tabs P)(q:Nat)(v:Value){r:GR}{args:Array Operand}{fo:Operand}
  (hn:Nat.blt d n=true) (hg:gK ops κ ⟨some d,.call { callee:=.value fo,args:=args,argTypes:=at_ },ty,pos,aft,g⟩=some true)
  (hf:evK κ fo=some (.func (.func f) #[] cap.toArray)) (hfn:L.fn f=some ()) (hq:κ q=some (.own r.res))
  (h:∀ u H C,zpg H u->B.Le H->r.P H u C->(ZCB C u H)->Args κ H args.toList [] (fun vs=>RetY P f (vs++cap) u H C r (fun x _=>x=v))):
  StepOKR P F B n ops O κ ⟨some d,.call { callee:=.value fo,args:=args,argTypes:=at_ },ty,pos,aft,g⟩ q d (.is v):=by
 rintro κ' a u hlk hks ⟨H,fp,hh⟩;unfold After;rw[na (xf hh hlk hg)];have hk':κ' q=some (.own r.res):=hks.trans hq;obtain⟨hown,hM⟩:=hh.slot q _ hk';have e2:=hh.env hlk;have hfe:a.eval fo=.func (.func f) #[] cap.toArray:=e2.is_ fo _ (by simp [Op.operands,Call.operands]) hf;have hc:=Args.use e2 args.toList [] (fun x hx=>by simp [Op.operands,Call.operands] at hx |-;exact .inr hx) (h u H (fp q) hh.sub hh.base hown fun k hk=>⟨(hM k hk).1,(hM k hk).2.1⟩);simp only[zmb,mh] at hc;rw[vr L rfl hfe hfn];simp only[Upon];refine Calls.mono hc fun e' u' hp=>?_;obtain⟨x,rfl,H',g',hx,C',hv,hC'⟩:=hp;have h2:=hh.usePut (d:=q) (a':=a) (r':=r.res) hk' g' rfl rfl (fun _ _=>rfl) hv hC';rw[jo,My hk'] at h2;exact⟨x,Z,H',_,h2.put (k:=.is v) (zn hn) trivial hx⟩
def S8(L:Tabs P){q b:Nat}{t t':TypeId}{s off:Nat}{cs vs:List Value}{r:Res}(hx:evK κ x=some (.pointer (some ⟨b,off,none⟩)))(hq:κ q=some (.own r))(hcell:∀ v H u C,r.P v H u C->u.heap[b]?=some (.cells cs.toArray t'))(hn:Nat.blt d n=true)(hg:gK ops κ ⟨some d,.load t x,ty,pos,aft,g⟩=some true)
  (hl:L.ld t=some (true,s)) (hlen:vs.length=s) (hc:∃ r,cs.drop off=vs++r):StepOKR P F B n ops O κ ⟨some d,.load t x,ty,pos,aft,g⟩ q d (.is (.agg vs.toArray)):=by
 rintro κ' a u hlk hqk ⟨H,fp,hh⟩;unfold After;rw[na (xf hh hlk hg)];have e:=hh.env hlk;have h1:=e.is_ x _ (by simp [Op.operands]) hx;obtain⟨hown,hM⟩:=hh.slot q _ (hqk.trans hq);have h2:=hcell _ _ _ _ hown;obtain⟨r,hc⟩:=hc
 have hrun:(execOp a.eval ⟨some d,.load t x,ty,pos,aft,g⟩).run P u=.ok (.value (.agg vs.toArray)) u:=by
  simp only[execOp,h1,Instr.loadAt,Instr.sureAddr,nu,me,ma]
  rw[wm (Tabs.ld_spec hl) u _ vs hlen (fun j v hj=>by
   have h3:cs[off+j]?=some v:=by
    have:=nh (·[j]?) hc;simp only[zlo] at this
    rw[this,zl2 (by
     rcases m5 j vs.length with h | h
     ·exact h
     ·rw[zld h] at hj;cases hj)]
    exact hj
   show u.cell? (Addr.add ⟨b,off,none⟩ j)=some v;have:Addr.add ⟨b,off,none⟩ j=⟨b,off+j,none⟩:=by simp [Addr.add]
   rw[this,kf h2];simpa using h3)]
  rfl
 rw[hrun];simp only[Upon];exact⟨H,fp,hh.put (k:=.is (.agg vs.toArray)) (zn hn) trivial Z⟩
def Vy{r2:Res}:∀ v H u C,(ae (xk b cs ty) r2).P v H u C->u.heap[b]?=some (.cells cs.toArray ty):=fun _ _ _ _ ⟨_,_,h,_⟩=>h.1
def Ub{r2:Res}:∀ v H u C,(ae (xk b cs ty) r2).P v H u C->joinH H u C b=some (.cells cs.toArray ty):=fun _ _ _ _ ⟨_,_,⟨hb,hC⟩,_,h3,_⟩=>(cj ((h3 b).2 (.inl ((hC b).2 rfl)))).trans hb
end
def RetT.pubY{f:FuncId}{r:GR}{r1:Res}(h:RetT P f args w B C (ae r1 r.res))(hl:zju r1 φ):RetY P f args w B C r φ:=
 Calls.mono h fun _ u ⟨v,he,H,g,C',⟨C1,C2,h1,h2,h3,h4⟩,h5⟩=>by
  have hs:=i9 (u:=u) (C:=C1) g.sub;have hle:=Ev (u:=u) fun k hk=>(h5 k ((h3 k).2 (.inl hk))).2.2;refine⟨v,he,joinH H u C1,⟨g.keep,hs,fun k x hx=>hle _ _ (g.le _ _ hx),fun k hk hn=>(lh fun hc=>?_).trans (g.fresh k hk hn)⟩,hl _ _ _ _ h1,C2,r.st h2 hle hs (On.refl u) (fun _ _=>rfl),fun k hk=>⟨(h5 k ((h3 k).2 (.inr hk))).1,(h5 k ((h3 k).2 (.inr hk))).2.1,(lh fun hc=>h4 k hc hk).trans (h5 k ((h3 k).2 (.inr hk))).2.2⟩⟩;rcases(h5 k ((h3 k).2 (.inl hc))).1 with h6 | h6
  ·exact hn h6
  ·omega
def RetY.ex{f:FuncId}{X:Type}{r:X->GR}{φ:X->Heap->Prop}{hφ:a7 φ}(hr:(GEx r φ hφ).P B w C)(h:∀ x,φ x B->(r x).P B w C->RetY P f args w B C (r x) ψ):RetY P f args w B C (GEx r φ hφ) ψ:=by
 obtain⟨x,h1,h2⟩:=hr;exact RetL.mono (h x h1 h2) fun v H u hg ⟨h3,C',h4,h5⟩=>⟨h3,C',⟨x,hφ _ _ _ h1 hg.le,h4⟩,h5⟩
end Go.V
namespace Go.V
def MiE{V:Type}(kd:IntKind)(vc:V->Value)(l:List (Int×V))(es:List MapEntry):Prop:=es.map (fun e=>(e.key,e.val))=l.map fun p=>(Value.int kd p.1,vc p.2)
section
variable  {V:Type}  {vc:V->Value} {l:List (Int×V)} 
def Ns{p:Int×V}{l:List (Int×V)}{es:List MapEntry}(h:MiE kd vc (p::l) es):∃ e r,es=e::r/\e.key=.int kd p.1/\e.val=vc p.2/\MiE kd vc l r:=by
 unfold MiE at h
 cases es with
 | nil=>simp at h
 | cons e r=>
  simp at h;exact⟨e,r,rfl,h.1.1,h.1.2,h.2⟩
def Hq(k:Int):∀ (l:List (Int×V)) (es:List MapEntry) (i:Nat),MiE kd vc l es->Instr.findNow (.int kd) (.int kd k) es i=some ((fe k l i).map fun p=>(p.1,vc p.2))
 | [],es,i,h=>by
  have:es=[]:=by simpa [MiE] using h
  subst this;rfl
 | p::l,es,i,h=>by
  obtain⟨e,r,rfl,h1,h2,h3⟩:=Ns h;rw[Instr.findNow,fe,h1];simp only[Instr.sameNow,if_true];by_cases hkp:k=p.1
  ·rw[na hkp,beq_iff_eq.2 hkp,h2];rfl
  ·rw[nc hkp,beq_false_of_ne hkp];exact Hq k l r (i+1) h3
def lu(hk:P.underlying kt=some (.int kd))(k:Int)(w:World)(l:List (Int×V))(es:List MapEntry)(h:MiE kd vc l es):
  (Instr.findKey kt (.int kd k) es).run P w=.ok ((fe k l 0).map fun p=>(p.1,vc p.2)) w:=by
 unfold Instr.findKey;simp only[nu,run_underlying hk,ma,Hq k l es 0 h,me]
def vq(hk:P.underlying kt=some (.int kd))(k:Int)(em:Bool)(w:World):(Instr.checkKey em 10000 kt (.int kd k)).run P w=.ok () w:=by
 rw[Instr.checkKey];simp only[nu,run_underlying hk,ma];rfl
def K2(ht:P.underlying t=some (.map kt et))(hk:P.underlying kt=some (.int kd)){b:Nat}{es:Array MapEntry}{ck:Nat}(hb:u.heap[b]?=some (.map es ck))(he:MiE kd vc l es.toList)(k:Int){z:Value}
  (hz:(zeroValue et).run P u=.ok z u):(Instr.lookup t (.map (some b)) (.int kd k) false).run P u=.ok ((ub k l).elim z vc) u:=by
 unfold Instr.lookup;have hf:=lu hk k u l es.toList he;simp only[nu,run_underlying ht,ma,MapKept.run_getObj_map hb,me,vq hk k,hf];unfold ub
 cases fe k l 0 with
 | none=>simp [hz]
 | some p=>simp
def G7(k:Int)(v:V):∀ (l:List (Int×V)) (es:List MapEntry) (i j:Nat) (x:V),MiE kd vc l es->fe k l i=some (j,x)->
  MiE kd vc (Ly k v l) (es.modify (j-i) fun e=>{ e with key:=.int kd k,val:=vc v })
 | [],_,_,_,_,_,h=>by cases h
 | p::l,es,i,j,x,he,h=>by
  obtain⟨e,r,rfl,h1,h2,h3⟩:=Ns he;unfold fe at h;rw[Ly];split at h
  ·rename_i hk;cases h;rw[na hk,zmd];unfold MiE at h3 |-;subst hk;simpa using h3
  ·rename_i hk;rw[nc hk];obtain⟨n,hn,_⟩:=Bf h;have ih:=G7 k v l r (i+1) j x h3 h;have e1:j-i=(j-(i+1))+1:=T;rw[e1];unfold MiE at ih |-;simp [h1,h2];exact ih
end
section
variable                  {ex:Exs}
variable {Y:Type}  {vc:Y->Value} {l:List (Int×Y)}
end
end Go.V
namespace Go.V
section
variable {V:Type}
def Qi(k:Int)(l:List (Int×V)):List (Int×V):=match fe k l 0 with
 | some (j,_)=>l.eraseIdx j
 | none=>l
end
structure Brn(es:List MapEntry)(ck:Nat):Prop where
 lt:∀ e∈es,e.born<ck
 nd:(es.map (·.born)).Nodup
def Vx:Brn [] 0:=⟨fun _ h=>(by cases h),zmn⟩
def Brn.push{es:List MapEntry}(h:Brn es ck)(e:MapEntry)(he:e.born=ck):Brn (es++[e]) (ck+1):=⟨fun x hx=>by
 rcases mn.1 hx with hx | hx
 ·exact Nat.lt_succ_of_lt (h.lt x hx)
 ·rw[m6.1 hx,he];exact znr _,by
 rw[zli,List.nodup_append];refine⟨h.nd,zmi _ _,fun a ha b hb=>?_⟩;obtain⟨x,hx,rfl⟩:=m8.1 ha;have:=h.lt x hx;simp only[mp,zlm,m6] at hb;omega⟩
def Brn.modify{es:List MapEntry}{ck:Nat}(h:Brn es ck)(j:Nat)(f:MapEntry->MapEntry)(hf:∀ e,(f e).born=e.born):Brn (es.modify j f) ck:=by
 have e1:(es.modify j f).map (·.born)=es.map (·.born):=by
  apply zn6;intro i;rw[zlu,zlu,List.getElem?_modify]
  cases es[i]? with
  | none=>rfl
  | some e=>
   simp only[zmr];split<;>simp [hf]
 refine⟨fun e he=>?_,by rw[e1];exact h.nd⟩;have h2:e.born∈es.map (·.born):=by rw[<-e1];exact zng he
 obtain⟨x,hx,hb⟩:=m8.1 h2;rw[<-hb];exact h.lt x hx
def Brn.sub{es es':List MapEntry}(h:Brn es ck)(hs:es'.Sublist es):Brn es' ck:=⟨fun e he=>h.lt e (hs.subset he),h.nd.sublist (hs.map _)⟩
section
variable  {V:Type}  {vc:V->Value} {l:List (Int×V)} 
def Gn(ht:P.underlying t=some (.map kt et))(hk:P.underlying kt=some (.int kd)){b:Nat}{es:Array MapEntry}{ck:Nat}(hb:u.heap[b]?=some (.map es ck))(he:MiE kd vc l es.toList)(k:Int){z:Value}
  (hz:(zeroValue et).run P u=.ok z u):(Instr.lookup t (.map (some b)) (.int kd k) true).run P u=.ok (.tuple #[(ub k l).elim z vc,.bool (ub k l).isSome]) u:=by
 unfold Instr.lookup;have hf:=lu hk k u l es.toList he;simp only[nu,run_underlying ht,ma,MapKept.run_getObj_map hb,me,vq hk k,hf];unfold ub
 cases fe k l 0 with
 | none=>simp [hz]
 | some p=>simp
def a8(ht:P.underlying t=some (.map kt et))(hk:P.underlying kt=some (.int kd)){b:Nat}{es:Array MapEntry}{ck:Nat}(hb:u.heap[b]?=some (.map es ck))(he:MiE kd vc l es.toList)(hn:Brn es.toList ck)(k:Int)(v:V):
  ∃ es' ck',(Instr.mapUpdate t (.map (some b)) (.int kd k) (vc v)).run P u=.ok () (u.putObj b (.map es' ck'))/\MiE kd vc (Ly k v l) es'.toList/\Brn es'.toList ck':=by
 have hf:=lu hk k u l es.toList he
 cases hm:fe k l 0 with
 | none=>
  refine⟨es.push { key:=.int kd k,val:=vc v,born:=ck },ck+1,?_,?_,by simpa using hn.push _ Z⟩
  ·unfold Instr.mapUpdate;rw[hm] at hf;simp only[nu,run_underlying ht,ma,MapKept.run_getObj_map hb,me,vq hk k,hf,zoi];simp [setObj,Sem.run,hb,World.putObj,Result.andThen]
  ·rw[i7 hm];unfold MiE at he |-;simp [he]
 | some q=>
  obtain⟨j,x⟩:=q;refine⟨es.modify j fun e=>{ e with key:=.int kd k,val:=vc v },ck,?_,?_,by rw[Array.toList_modify];exact hn.modify j _ fun _=>rfl⟩
  ·obtain⟨n,hn2,hx⟩:=Bf hm;have hn':j=n:=T;subst hn'
   have hkey:((es[j]?).map (·.key)).getD (.int kd k)=.int kd k:=by
    have h2:=nh (·[j]?) he;simp only[zlu,hx,zmr] at h2;rw[<-zm8]
    cases hz:es.toList[j]? with
    | none=>rfl
    | some e=>
     rw[hz] at h2;simp at h2;simpa using h2.1
   unfold Instr.mapUpdate;rw[hm] at hf;simp only[nu,run_underlying ht,ma,MapKept.run_getObj_map hb,me,vq hk k,hf,zmr,hkey];unfold Instr.keyThatStays;rw[na (by simp [Instr.sameBits])];simp [setObj,Sem.run,hb,World.putObj,Result.andThen]
  ·have:=G7 k v l es.toList 0 j x he hm;simpa using this
def map_erase{α β:Type}(f:α->β):∀ (l:List α) (j:Nat),(l.eraseIdx j).map f=(l.map f).eraseIdx j
 | [],_=>rfl
 | _::_,0=>rfl
 | x::l,j+1=>by simp [map_erase f l j]
def G6{es:List MapEntry}(h:MiE kd vc l es)(j:Nat):MiE kd vc (l.eraseIdx j) (es.eraseIdx j):=by
 unfold MiE at *;rw[map_erase,map_erase,h]
def K4(ht:P.underlying t=some (.map kt et))(hk:P.underlying kt=some (.int kd)){b:Nat}{es:Array MapEntry}{ck:Nat}(hb:u.heap[b]?=some (.map es ck))(he:MiE kd vc l es.toList)(hn:Brn es.toList ck)(k:Int)(ty:TypeId){ts:Array TypeId}(hts:ts[0]?=some t):
  ∃ es',(Builtin.delete_ ts ty #[.map (some b),.int kd k]).run P u=.ok (.tuple #[]) (u.putObj b (.map es' ck))/\MiE kd vc (Qi k l) es'.toList/\Brn es'.toList ck:=by
 have hf:=lu hk k u l es.toList he;unfold Qi
 cases hm:fe k l 0 with
 | none=>
  refine⟨es,?_,he,hn⟩;rw[hm] at hf;simp only[Builtin.delete_,hts,zmx,znm,zmm,nu,run_underlying ht,ma,MapKept.run_getObj_map hb,vq hk k,hf,zoi];simp [setObj,Sem.run,hb,World.putObj,Result.andThen]
 | some q=>
  obtain⟨j,x⟩:=q;refine⟨es.eraseIdxIfInBounds j,?_,by simpa using G6 he j,by simpa using hn.sub (List.eraseIdx_sublist ..)⟩;rw[hm] at hf;simp only[Builtin.delete_,hts,zmx,znm,zmm,nu,run_underlying ht,ma,MapKept.run_getObj_map hb,vq hk k,hf,zmr];simp [setObj,Sem.run,hb,World.putObj,Result.andThen]
def Gm{es:Array MapEntry}{since last:Nat}{seen:Array Nat}(hm:u.heap[m]?=some (.map es ck))(hi:u.heap[i]?=some (.mapIter (some m) since seen last))(hold:∀ x∈es.toList,x.born<since)(hsc:since<=last):
  ((leftOf es seen).size=0/\(Instr.next (.pointer (some ⟨i,0,none⟩)) false ty).run P u=.ok (.tuple #[.bool false]) u)\/
  ∃ (j:Nat) (e:MapEntry),(leftOf es seen)[j]?=some e/\∃ u1:World,(u1=u\/u1=u.drew)/\(Instr.next (.pointer (some ⟨i,0,none⟩)) false ty).run P u=.ok (.tuple #[.bool true,e.key,e.val]) (u1.putObj i (.mapIter (some m) since (seen.push e.born) ck)):=by
 simp only[Instr.next,getObj,nu,Sem.run,hi,hm,Result.andThen,next_test_false seen es since last hold hsc,zmp,if_false];unfold leftOf;have hmem:∀ x∈(Array.filter (fun e=>!seen.contains e.born) es).toList,x.born<since:=fun x hx=>hold x (by simp at hx |-;exact hx.1);generalize Array.filter (fun e=>!seen.contains e.born) es=L at hmem |-;have e1:L.filter (fun x=>decide (x.born<since))=L:=Array.filter_eq_self.2 (fun x hx=>by simpa using hmem x (by simpa using hx))
 have e2:L.filter (fun x=>decide (x.born>=since))=#[]:=by
  rw[Array.filter_eq_empty_iff];intro x hx;have:=hmem x (by simpa using hx);simp;omega
 simp only[e1,e2,Array.append_empty];by_cases h0:L.size=0
 ·left;have:L=#[]:=Array.eq_empty_of_size_eq_zero h0;subst this;refine⟨rfl,?_⟩;simp [choose,Sem.run,Question.forced]
 ·right;have hne:L.isEmpty=false:=by simp [Array.isEmpty,h0]
  simp only[hne,zmp,if_false,Array.empty_append,Array.size_map]
  have hch:∃ (j:Nat) (w1:World),j<L.size/\(w1=u\/w1=u.drew)/\(choose (Question.mapNext L.size)).run P u=.ok j w1:=by
   by_cases hf:L.size<=1
   ·exact⟨0,u,by omega,.inl Z,by simp [choose,Sem.run,Question.forced,hf]⟩
   ·exact⟨_,u.drew,zmy _ T,.inr Z,by
     simp only[choose,Sem.run,Question.forced,decide_eq_true_eq,hf,if_false,Question.cut];rfl⟩
  obtain⟨j,w1,hj,hal,hrun⟩:=hch;refine⟨j,L[j],by simp [hj],w1,hal,?_⟩;have hi1:w1.heap[i]?=some (.mapIter (some m) since seen last):=by rcases hal with rfl | rfl<;>exact hi
  simp only[hrun,Array.getElem?_map,zlk hj,zmr,nu,Result.andThen];simp [setObj,Sem.run,hi1,World.putObj]
end
def zin{V:Type}(b:Nat)(kd:IntKind)(vc:V->Value)(l:List (Int×V)):GR where
 P _ u C:=(∃ es ck,u.heap[b]?=some (.map es ck)/\MiE kd vc l es.toList/\Brn es.toList ck)/\∀ k,C k↔k=b
 st:=fun⟨⟨es,ck,hb,he⟩,hC⟩ _ _ _ hk=>⟨⟨es,ck,(hk b ((hC b).2 rfl)).trans hb,he⟩,hC⟩
abbrev B5{V:Type}(b:Nat)(kd:IntKind)(vc:V->Value)(l:List (Int×V)):Res:=(zin b kd vc l).res
def Rb{V:Type}(kd:IntKind)(vc:V->Value)(l:List (Int×V)):Res where
 P x _ u C:=∃ b,x=.map (some b)/\(∃ es ck,u.heap[b]?=some (.map es ck)/\MiE kd vc l es.toList/\Brn es.toList ck)/\∀ k,C k↔k=b
 st:=fun⟨b,hx,⟨es,ck,hb,he⟩,hC⟩ _ _ _ hk=>⟨b,hx,⟨es,ck,(hk b ((hC b).2 rfl)).trans hb,he⟩,hC⟩
def zbv{V:Type}(m:Nat)(kd:IntKind)(vc:V->Value)(l left:List (Int×V)):Res where
 P x _ u C:=∃ i es ck since seen last,x=.pointer (some ⟨i,0,none⟩)/\i≠m/\u.heap[m]?=some (.map es ck)/\MiE kd vc l es.toList/\Brn es.toList ck/\u.heap[i]?=some (.mapIter (some m) since seen last)/\
  (∀ e∈es.toList,e.born<since)/\since<=last/\since<=ck/\MiE kd vc left (leftOf es seen).toList/\∀ k,C k↔k=m\/k=i
 st:=fun⟨i,es,ck,since,seen,last,h1,h2,h3,h4,h5,h6,h7,h8,h9,h10,hC⟩ _ _ _ hk=>⟨i,es,ck,since,seen,last,h1,h2,(hk m ((hC m).2 (.inl rfl))).trans h3,h4,h5,(hk i ((hC i).2 (.inr rfl))).trans h6,h7,h8,h9,h10,hC⟩
section
variable {Y:Type}  {vc:Y->Value} {l left:List (Int×Y)}
def Has.holdMb{t:Nat}(hk:κ t=some (.own (Rb kd vc l)))(h:Has F B O n κ a u):∃ b,Has F B O n (upd (upd (upd κ t fm) q (.own (B5 b kd vc l))) t (.is (.map (some b)))) a u:=by
 obtain⟨H,fp,h⟩:=h;obtain⟨⟨b,hv,hb,hC⟩,hM⟩:=h.slot t _ hk;have h2:=h.usePut (d:=q) (a':=a) (r':=B5 b kd vc l) (C:=fp t) hk ⟨Keep.refl _ _,h.sub,mo _,fun _ _ _=>rfl⟩ rfl rfl (fun _ _=>rfl) ⟨hb,hC⟩ fun k hk=>⟨.inl hk,(hM k hk).1,(hM k hk).2.1⟩
 have h3:=h2.name t;rw[hv] at h3;exact⟨b,H,_,h3⟩
def zii(t q:Nat){c:Code}(hk:κ t=some (.own (Rb kd vc l)))(h:∀ b,V P F B n O (upd (upd (upd κ t fm) q (.own (B5 b kd vc l))) t (.is (.map (some b)))) c zpf):V P F B n O κ c zpf:=fun a u hh=>let ⟨b,h'⟩:=hh.holdMb (q:=q) hk;h b a u h'
def Rl(t q:Nat)(hk:κ t=some (.own (Rb kd vc l)))(h:∀ b,VO P F B n O ops (upd (upd (upd κ t fm) q (.own (B5 b kd vc l))) t (.is (.map (some b)))) os zpf):VO P F B n O ops κ os zpf:=fun a u hh=>let ⟨b,h'⟩:=hh.holdMb (q:=q) hk;h b a u h'
def Lq(kd:IntKind)(vc:Y->Value){hint:Option Operand}(hn:Nat.blt d n=true)(hg:gK ops κ ⟨some d,.makeMap t none,ty,pos,aft,g⟩=some true):
  StepOK P F B n ops O κ ⟨some d,.makeMap t none,ty,pos,aft,g⟩ d (.own (Rb kd vc [])):=by
 rintro κ' a u hl ⟨H,fp,hh⟩;have hn:d<n:=by simpa using hn
 unfold After;rw[na (xf hh hl hg)]
 have hrun:(execOp a.eval ⟨some d,.makeMap t none,ty,pos,aft,g⟩).run P u=.ok (.value (.map (some u.heap.size))) (u.alloc (.map #[] 0)):=by
  simp [execOp,Instr.makeMap]
 rw[hrun];simp only[Upon];have hg2:=hh.grow (Grow.hid hh.sub (.map #[] 0));refine⟨H,_,hg2.putR (C:=fun k=>k=u.heap.size) (by simp [Act.put]) Z (fun t ht=>xn ht) ⟨u.heap.size,xx (by rw[hh.size];exact hn),⟨_,_,xu _ _,rfl,Vx⟩,fun _=>Iff.rfl⟩ (fun k hk=>?_) fun t r' _ ht k hf hk=>?_⟩
 ·subst hk;exact⟨xb (xu u _),k7 hh.sub (ns _),.inl hh.keep.size,fun y hy e=>by have:=xb (hh.boxes y hy).1;omega⟩
 ·have:=((hh.slot t _ ht).2 k hf).1;omega
def ul(k:Int){r z:Value}{f:Bool}(ht:P.underlying t=some (.map kt et))(hkt:P.underlying kt=some (.int kd))(hz:∀ w,(zeroValue et).run P w=.ok z w)
  (hx:evK κ x=some (.map (some b))) (hq:κ q=some (.own (B5 b kd vc l))) (hy:evK κ y=some (.int kd k)) (hn:Nat.blt d n=true) (hg:gK ops κ ⟨some d,.lookup t x y true,ty,pos,aft,g⟩=some true)
  (hr:(ub k l).elim z vc=r) (hf:(ub k l).isSome=f):
  StepOKR P F B n ops O κ ⟨some d,.lookup t x y true,ty,pos,aft,g⟩ q d (.is (.tuple #[r,.bool f])):=by
 rintro κ' a u hlk hqk ⟨H,fp,hh⟩;subst hr hf;unfold After;rw[na (xf hh hlk hg)];have e:=hh.env hlk;have h1:=e.is_ x _ (by simp [Op.operands]) hx;have h2:=e.is_ y _ (by simp [Op.operands]) hy;obtain⟨⟨⟨es,ck,hb,he,_⟩,hC⟩,hM⟩:=hh.slot q _ (hqk.trans hq)
 have hrun:(execOp a.eval ⟨some d,.lookup t x y true,ty,pos,aft,g⟩).run P u=.ok (.value (.tuple #[(ub k l).elim z vc,.bool (ub k l).isSome])) u:=by
  simp only[execOp,h1,h2,nu,Gn ht hkt hb he k (hz u),ma];rfl
 rw[hrun];simp only[Upon];exact⟨H,fp,hh.put (k:=.is _) (zn hn) trivial Z⟩
def HasH.turnMap{es:Array MapEntry}{l':List (Int×Y)}(hh:HasH F B O n κ a u H fp)(hq:κ q=some (.own (B5 b kd vc l)))(he:MiE kd vc l' es.toList)(hb:Brn es.toList ck):
  HasH F B O n (upd κ q (.own (B5 b kd vc l'))) a (u.putObj b (.map es ck)) H (fpu fp q fun k=>k=b):=by
 obtain⟨⟨_,hC⟩,hM⟩:=hh.slot q _ hq;have hbm:=hM b ((hC b).2 rfl)
 have:=hh.usePut (d:=q) (a':=a) (r':=B5 b kd vc l') (C:=fun k=>k=b) hq (Bi hh.sub ((hC b).2 rfl) hbm.2.1) rfl rfl (fun _ _=>rfl) ⟨⟨es,ck,zoz hbm.1,he,hb⟩,fun _=>Iff.rfl⟩ (fun k hk=>by
  subst hk;exact⟨.inl ((hC k).2 rfl),by rw[World.putObj_size];exact hbm.1,hbm.2.1⟩)
 rw[jo] at this;exact this
def Ct{z:Operand}(k:Int)(v:Y){zv:Value}{l':List (Int×Y)}(ht:P.underlying t=some (.map kt et))(hkt:P.underlying kt=some (.int kd))
  (hx:evK κ x=some (.map (some b))) (hq:κ q=some (.own (B5 b kd vc l))) (hy:evK κ y=some (.int kd k)) (hz:evK κ z=some zv) (hzv:vc v=zv) (hg:gK ops κ ⟨none,.mapUpdate t x y z,ty,pos,aft,g⟩=some true)
  (hl':Ly k v l=l'):
  ic P F B n ops O κ ⟨none,.mapUpdate t x y z,ty,pos,aft,g⟩ q (.own (B5 b kd vc l')):=by
 rintro κ' a u hlk hqk ⟨H,fp,hh⟩;subst hl' hzv;unfold After;rw[na (xf hh hlk hg)];have e:=hh.env hlk;have h1:=e.is_ x _ (by simp [Op.operands]) hx;have h2:=e.is_ y _ (by simp [Op.operands]) hy;have h3:=e.is_ z _ (by simp [Op.operands]) hz;have hqs:=hqk.trans hq;obtain⟨⟨⟨es,ck,hb,he,hbn⟩,hC⟩,hM⟩:=hh.slot q _ hqs;obtain⟨es',ck',hr,he',hb'⟩:=a8 ht hkt hb he hbn k v
 have hrun:(execOp a.eval ⟨none,.mapUpdate t x y z,ty,pos,aft,g⟩).run P u=.ok .skip (u.putObj b (.map es' ck')):=by
  simp only[execOp,h1,h2,h3,nu,hr,ma];rfl
 rw[hrun];simp only[Upon,Act.put];exact⟨H,_,hh.turnMap hqs he' hb'⟩
def P8{t2:TypeId}(k:Int){l':List (Int×Y)}(ht:P.underlying t=some (.map kt et))(hkt:P.underlying kt=some (.int kd))
  (hx:evK κ x=some (.map (some b))) (hq:κ q=some (.own (B5 b kd vc l))) (hy:evK κ y=some (.int kd k)) (hg:gK ops κ ⟨none,.call ⟨.builtin .delete,#[x,y],#[t,t2]⟩,ty,pos,aft,g⟩=some true)
  (hl':Qi k l=l'):
  ic P F B n ops O κ ⟨none,.call ⟨.builtin .delete,#[x,y],#[t,t2]⟩,ty,pos,aft,g⟩ q (.own (B5 b kd vc l')):=by
 rintro κ' a u hlk hqk ⟨H,fp,hh⟩;subst hl';unfold After;rw[na (xf hh hlk hg)];have e:=hh.env hlk;have h1:=e.is_ x _ (by simp [Op.operands,Call.operands]) hx;have h2:=e.is_ y _ (by simp [Op.operands,Call.operands]) hy;have hqs:=hqk.trans hq;obtain⟨⟨⟨es,ck,hb,he,hbn⟩,hC⟩,hM⟩:=hh.slot q _ hqs;obtain⟨es',hr,he',hb'⟩:=K4 ht hkt hb he hbn k ty (ts:=#[t,t2]) rfl
 have hrun:(execOp a.eval ⟨none,.call ⟨.builtin .delete,#[x,y],#[t,t2]⟩,ty,pos,aft,g⟩).run P u=.ok (.value (.tuple #[])) (u.putObj b (.map es' ck)):=by
  simp [execOp,resolve,h1,h2,invoke,builtin,hr]
 rw[hrun];simp only[Upon,Act.put];exact⟨H,_,hh.turnMap hqs he' hb'⟩
def Ls(ht:P.underlying t=some (.map kt et))(hx:evK κ x=some (.map (some b)))(hq:κ q=some (.own (B5 b kd vc l)))(hn:Nat.blt d n=true)
  (hg:gK ops κ ⟨some d,.call ⟨.builtin .len,#[x],#[t]⟩,ty,pos,aft,g⟩=some true) (hm:l.length=m):
  StepOKR P F B n ops O κ ⟨some d,.call ⟨.builtin .len,#[x],#[t]⟩,ty,pos,aft,g⟩ q d (.is (.int .i64 m)):=by
 rintro κ' a u hlk hqk ⟨H,fp,hh⟩;subst hm;unfold After;rw[na (xf hh hlk hg)];have e:=hh.env hlk;have h1:=e.is_ x _ (by simp [Op.operands,Call.operands]) hx;obtain⟨⟨⟨es,ck,hb,he,_⟩,hC⟩,hM⟩:=hh.slot q _ (hqk.trans hq);have hsz:es.size=l.length:=by have:=nh List.length he;simpa using this
 have hrun:(execOp a.eval ⟨some d,.call ⟨.builtin .len,#[x],#[t]⟩,ty,pos,aft,g⟩).run P u=.ok (.value (.int .i64 l.length)) u:=by
  simp [execOp,resolve,h1,invoke,builtin,Builtin.len_,run_underlying ht,MapKept.run_getObj_map hb,goInt,hsz]
 rw[hrun];simp only[Upon];exact⟨H,fp,hh.put (k:=.is _) (zn hn) trivial Z⟩
def S3(ht:P.underlying t=some (.map kt et))(hx:evK κ x=some (.map (some b)))(hq:κ q=some (.own (B5 b kd vc l)))(hn:Nat.blt d n=true)
  (hg:gK ops κ ⟨some d,.range t x,ty,pos,aft,g⟩=some true):
  wh P F B n ops O κ ⟨some d,.range t x,ty,pos,aft,g⟩ q fm d (.own (zbv b kd vc l l)):=by
 rintro κ' a u hlk hqk ⟨H,fp,hh⟩;have hn:d<n:=by simpa using hn
 unfold After;rw[na (xf hh hlk hg)];have e:=hh.env hlk;have h1:=e.is_ x _ (by simp [Op.operands]) hx;have hqs:=hqk.trans hq;obtain⟨⟨⟨es,ck,hb,he,hbn⟩,hC⟩,hM⟩:=hh.slot q _ hqs
 have hrun:(execOp a.eval ⟨some d,.range t x,ty,pos,aft,g⟩).run P u=.ok (.value (.pointer (some ⟨u.heap.size,0,none⟩))) (u.alloc (.mapIter (some b) ck #[] ck)):=by
  simp only[execOp,h1,nu,run_range_map u t kt et b es ck ht hb,ma];rfl
 rw[hrun];simp only[Upon];have hbm:=hM b ((hC b).2 rfl);have hg2:Grow (fp q) u H (u.alloc (.mapIter (some b) ck #[] ck)) H:=⟨(Grow.hid hh.sub (.mapIter (some b) ck #[] ck)).keep.weak (fun k _ h=>h.elim),(Grow.hid hh.sub _).sub,mo _,fun _ _ _=>rfl⟩
 have hlo:leftOf es #[]=es:=by unfold leftOf;simp
 have:=hh.usePut (d:=d) (a':=a.put (some d) (.pointer (some ⟨u.heap.size,0,none⟩))) (r':=zbv b kd vc l l) (C:=fun k=>k=b\/k=u.heap.size) hqs hg2 (by simp [Act.put]) rfl (fun t ht=>xn ht)
  ⟨u.heap.size,es,ck,ck,#[],ck,xx (by rw[hh.size];exact hn),by omega,by rw[heap_alloc_old u _ hbm.1];exact hb,he,hbn,heap_alloc_new u _,hbn.lt,ns _,ns _,by rw[hlo];exact he,fun _=>Iff.rfl⟩
  (fun k hk=>by
   have hsz:(u.alloc (.mapIter (some b) ck #[] ck)).heap.size=u.heap.size+1:=by show(u.heap.push _).size=_;simp
   rcases hk with rfl | rfl
   ·exact⟨.inl ((hC _).2 rfl),by omega,hbm.2.1⟩
   ·exact⟨.inr (ns _),by omega,k7 hh.sub (ns _)⟩)
 exact⟨H,_,this⟩
def S4{q m:Nat}{w:Bool}(hw:w=false)(hq:κ q=some (.own (zbv m kd vc l left)))(hl:left=[])(hn:Nat.blt d n=true)(hg:gK ops κ ⟨some d,.next (.tmp q) w,ty,pos,aft,g⟩=some true):
  StepOK P F B n ops O κ ⟨some d,.next (.tmp q) w,ty,pos,aft,g⟩ d (.is (.tuple #[.bool false])):=
 ke rfl (zn hn) hg trivial fun a u H fp e=>by
  subst hw hl;obtain⟨⟨i,es,ck,since,seen,last,h1,h2,h3,h4,h5,h6,h7,h8,h9,h10,hC⟩,hM⟩:=e.own_ q _ (by simp [Op.operands]) hq;have hz:(leftOf es seen).size=0:=by have:=nh List.length h10;simpa using this
  refine⟨_,?_,rfl⟩;rcases Gm (P:=P) (ty:=ty) h3 h6 h7 h8 with ⟨_,hr⟩ | ⟨j,e2,he2,_⟩
  ·simp only[execOp,h1,nu,hr,ma];rfl
  ·rw[zmt T] at he2;cases he2
def Qm{es:Array MapEntry}{ck j:Nat}{seen:Array Nat}{e:MapEntry}(hb:Brn es.toList ck)(he:(leftOf es seen)[j]?=some e):(leftOf es (seen.push e.born)).toList=(leftOf es seen).toList.eraseIdx j:=by
 have e1:(leftOf es (seen.push e.born)).toList=(leftOf es seen).toList.filter fun x=>!(x.born == e.born):=by
  unfold leftOf;rw[zo3,zo3,List.filter_filter];apply List.filter_congr;intro x _;rw[contains_push];cases seen.contains x.born<;>cases (x.born == e.born)<;>rfl
 have hnd:((leftOf es seen).toList.map (·.born)).Nodup:=by
  unfold leftOf;rw[zo3];exact hb.nd.sublist (List.filter_sublist.map _)
 rw[<-zm8] at he;rw[e1];generalize (leftOf es seen).toList=L at hnd he;clear e1
 induction L generalizing j with
 | nil=>cases he
 | cons x L ih=>
  rw[mp,zm3] at hnd
  cases j with
  | zero=>
   cases he
   have h0:L.filter (fun x=>!(x.born == e.born))=L:=zns.2 fun y hy=>by
    have:y.born≠e.born:=fun h=>hnd.1 (h ▸ zng hy);simpa using this
   simp [h0]
  | succ j=>
   have he':L[j]?=some e:=by simpa using he
   have hne:x.born≠e.born:=fun h=>hnd.1 (h ▸ zng (zln he'));have:(!(x.born == e.born))=true:=by simpa using hne
   rw[zm0 (by simpa using hne),ih hnd.2 he'];rfl
def zg6{es:List MapEntry}{j:Nat}{e:MapEntry}(h:MiE kd vc left es)(he:es[j]?=some e):∃ p,left[j]?=some p/\e.key=.int kd p.1/\e.val=vc p.2:=by
 have h2:=nh (·[j]?) h;simp only[zlu,he,zmr] at h2
 cases hp:left[j]? with
 | none=>rw[hp] at h2;cases h2
 | some p=>
  rw[hp] at h2;simp at h2;exact⟨p,rfl,h2.1,h2.2⟩
def Has.endM{t:Nat}(hne:t≠q)(hk:κ t=some (.own (zbv m kd vc l left)))(h:Has F B O n κ a u):Has F B O n (upd (upd κ t fm) q (.own (B5 m kd vc l))) a u:=by
 obtain⟨H,fp,hh⟩:=h;obtain⟨⟨i,es,ck,since,seen,last,h1,h2,h3,h4,h5,h6,h7,h8,h9,h10,hC⟩,hM⟩:=hh.slot t _ hk
 have:=hh.usePut (d:=q) (a':=a) (r':=B5 m kd vc l) (C:=fun k=>k=m) hk ⟨Keep.refl _ _,hh.sub,mo _,fun _ _ _=>rfl⟩ rfl rfl (fun _ _=>rfl) ⟨⟨es,ck,h3,h4,h5⟩,fun _=>Iff.rfl⟩
  (fun k hk'=>by subst hk';have:=(hC k).2 (.inl rfl);exact⟨.inl this,(hM k this).1,(hM k this).2.1⟩)
 exact⟨H,_,this⟩
def zh4(t q:Nat){c:Code}(hk:κ t=some (.own (zbv m kd vc l left)))(h:V P F B n O (upd (upd κ t fm) q (.own (B5 m kd vc l))) c zpf)(hne:t≠q:=by decide):V P F B n O κ c zpf:=fun a u hh=>h a u (hh.endM hne hk)
end
end Go.V
namespace Go.V
def zik{V:Type}(m:Nat)(kd:IntKind)(vc:V->Value)(l left:List (Int×V))(p:Int×V):Res where
 P x _ u C:=∃ (i:Nat) (es:Array MapEntry) (ck since:Nat) (seen:Array Nat) (e:MapEntry),x=.pointer (some ⟨i,0,none⟩)/\i≠m/\u.heap[m]?=some (.map es ck)/\MiE kd vc l es.toList/\Brn es.toList ck/\u.heap[i]?=some (.mapIter (some m) since (seen.push e.born) ck)/\
  (∀ e∈es.toList,e.born<since)/\since<=ck/\MiE kd vc left (leftOf es (seen.push e.born)).toList/\e∈es.toList/\e.key=.int kd p.1/\e.val=vc p.2/\∀ k,C k↔k=m\/k=i
 st:=fun⟨i,es,ck,since,seen,e,h1,h2,h3,h4,h5,h6,h7,h8,h9,h10,h11,h12,hC⟩ _ _ _ hk=>⟨i,es,ck,since,seen,e,h1,h2,(hk m ((hC m).2 (.inl rfl))).trans h3,h4,h5,(hk i ((hC i).2 (.inr rfl))).trans h6,h7,h8,h9,h10,h11,h12,hC⟩
def zgm{V:Type}{vc:V->Value}{l left:List (Int×V)}{p:Int×V}:∀ v H u C,B.Le H->(zik m kd vc l left p).P v H u C->(zbv m kd vc l left).P v H u C:=
 fun _ _ _ _ _ ⟨i,es,ck,since,seen,e,h1,h2,h3,h4,h5,h6,h7,h8,h9,_,_,_,hC⟩=>⟨i,es,ck,since,seen.push e.born,ck,h1,h2,h3,h4,h5,h6,h7,h8,h8,h9,hC⟩
def zaf{es:Array MapEntry}{seen:Array Nat}{j:Nat}{e:MapEntry}(h:(leftOf es seen)[j]?=some e):e∈es.toList:=by
 have h1:e∈leftOf es seen:=Array.mem_of_getElem? h;unfold leftOf at h1;rw[Array.mem_filter] at h1;exact Array.mem_toList_iff.2 h1.1
def Uy{es:List MapEntry}(hn:(es.map (·.born)).Nodup){e:MapEntry}(he:e∈es):es.find? (fun x=>x.born == e.born)=some e:=by
 induction es with
 | nil=>cases he
 | cons x es ih=>
  rw[mp,zm3] at hn;rw[List.find?_cons];rcases nz.1 he with h | h
  ·subst h;simp
  ·have hne:x.born≠e.born:=fun h2=>hn.1 (h2 ▸ zng (f:=(·.born)) h);have:(x.born == e.born)=false:=by simpa using hne
   rw[this];exact ih hn.2 h
section
variable {Y:Type}  {vc:Y->Value} {l left:List (Int×Y)}
def Xt{o:Oper}(ho:o=⟨some d,.next (.tmp q) false,ty,pos,aft,g⟩)(hq:κ q=some (.own (zbv m kd vc l left)))(hl:left≠[])(hn:Nat.blt d n=true)(hdq:Nat.beq q d=false)(hg:gK ops κ o=some true)
  (h:∀ (j:Nat) (p:Int×Y),left[j]?=some p->VO P F B n O ops (upd (upd κ q (.own (zik m kd vc l (left.eraseIdx j) p))) d (.is (.tuple #[.bool true,.int kd p.1,vc p.2]))) os zpf):VO P F B n O ops κ (o::os) zpf:=fun a u hh=>by
 subst ho;obtain⟨H,fp,hh⟩:=hh;obtain⟨⟨i,es,ck,since,seen,last,h1,h2,h3,h4,h5,h6,h7,h8,h9,h10,hC⟩,hM⟩:=hh.slot q _ hq;show After P ops _ _ a u;unfold After;rw[na (xf hh (fun _ _=>rfl) hg)];rcases Gm (P:=P) (ty:=ty) h3 h6 h7 h8 with ⟨hz,_⟩ | ⟨j,e,he,u1,hu1,hr⟩
 ·exfalso;have:=nh List.length h10;simp [hz] at this;exact hl (mz this.symm)
 ·have hrun:(execOp a.eval ⟨some d,.next (.tmp q) false,ty,pos,aft,g⟩).run P u=.ok (.value (.tuple #[.bool true,e.key,e.val])) (u1.putObj i (.mapIter (some m) since (seen.push e.born) ck)):=by
   simp only[execOp,h1,nu,hr,ma];rfl
  rw[hrun];simp only[Upon];obtain⟨p,hp,hk1,hv1⟩:=zg6 h10 (by rw[zm8];exact he);rw[hk1,hv1];have him:=hM i ((hC i).2 (.inr rfl));have hsub:H.Le (Go.V.hp u1):=by rcases hu1 with rfl | rfl<;>exact hh.sub
  have hgr:Grow (fp q) u H (u1.putObj i (.mapIter (some m) since (seen.push e.born) ck)) H:=by
   have g1:=Bi (u:=u1) (L:=fp q) (o:=.mapIter (some m) since (seen.push e.born) ck) hsub ((hC i).2 (.inr rfl)) him.2.1;rcases hu1 with rfl | rfl
   ·exact g1
   ·exact⟨⟨g1.keep.os,g1.keep.tape,g1.keep.output,g1.keep.size,g1.keep.block,mw (zl1 _) g1.keep.dr⟩,g1.sub,g1.le,g1.fresh⟩
  have hmm:u1.heap[m]?=some (.map es ck):=by rcases hu1 with rfl | rfl<;>exact h3
  have hsz:i<u1.heap.size:=by rcases hu1 with rfl | rfl<;>exact him.1
  have h5':=hh.usePut (d:=q) (a':=a) (r':=zik m kd vc l (left.eraseIdx j) p) (C:=fun k=>k=m\/k=i) hq hgr rfl rfl (fun _ _=>rfl)
   ⟨i,es,ck,since,seen,e,h1,h2,by rw[zof (Ne.symm h2)];exact hmm,h4,h5,zoz hsz,h7,h9,by rw[Qm h5 he];exact G6 h10 j,zaf he,hk1,hv1,fun _=>Iff.rfl⟩
   (fun k hk=>by
    have hkC:fp q k:=(hC k).2 hk;refine⟨.inl hkC,?_,(hM k hkC).2.1⟩;rw[World.putObj_size];rcases hu1 with rfl | rfl<;>exact(hM k hkC).1)
  rw[jo] at h5';exact h j p hp _ _ ⟨H,_,h5'.put (k:=.is _) (zn hn) trivial Z⟩
def Tc{p:Int×Y}(hq:κ q=some (.own (zik m kd vc l left p)))(hn:Nat.blt d n=true)(hg:gK ops κ ⟨some d,.entry (.tmp q),ty,pos,aft,g⟩=some true):
  StepOK P F B n ops O κ ⟨some d,.entry (.tmp q),ty,pos,aft,g⟩ d (.is (.tuple #[.int kd p.1,vc p.2])):=
 ke rfl (zn hn) hg trivial fun a u H fp e=>by
  obtain⟨⟨i,es,ck,since,seen,x,h1,h2,h3,h4,h5,h6,h7,h8,h9,h10,h11,h12,hC⟩,hM⟩:=e.own_ q _ (by simp [Op.operands]) hq;refine⟨_,?_,rfl⟩;have hf:=Uy h5.nd h10;have hf2:es.find? (fun y=>y.born == x.born)=some x:=by rw[<-Array.find?_toList];exact hf
  simp only[execOp,h1,Instr.entry,getObj,nu,Sem.run,h6,Result.andThen,Array.back?_push,h3,bne_self_eq_false,zmp,if_false,hf2,h11,h12];rfl
def P5{z:Operand}(k:Int)(v:Y){zv:Value}{l':List (Int×Y)}(ht:P.underlying t=some (.map kt et))(hkt:P.underlying kt=some (.int kd))
  (hx:evK κ x=some (.map (some b))) (hq:κ q=some (.own (B5 b kd vc l))) (hy:evK κ y=some (.int kd k)) (hz:evK κ z=some zv) (hzv:vc v=zv) (hg:gK ops κ ⟨none,.insert t x y z,ty,pos,aft,g⟩=some true)
  (hl':Ly k v l=l'):
  ic P F B n ops O κ ⟨none,.insert t x y z,ty,pos,aft,g⟩ q (.own (B5 b kd vc l')):=by
 rintro κ' a u hlk hqk ⟨H,fp,hh⟩;subst hl' hzv;unfold After;rw[na (xf hh hlk hg)];have e:=hh.env hlk;have h1:=e.is_ x _ (by simp [Op.operands]) hx;have h2:=e.is_ y _ (by simp [Op.operands]) hy;have h3:=e.is_ z _ (by simp [Op.operands]) hz;have hqs:=hqk.trans hq;obtain⟨⟨⟨es,ck,hb,he,hbn⟩,hC⟩,hM⟩:=hh.slot q _ hqs;obtain⟨es',ck',hr,he',hb'⟩:=a8 ht hkt hb he hbn k v
 have hrun:(execOp a.eval ⟨none,.insert t x y z,ty,pos,aft,g⟩).run P u=.ok .skip (u.putObj b (.map es' ck')):=by
  simp only[execOp,h1,h2,h3,nu,hr,ma];rfl
 rw[hrun];simp only[Upon,Act.put];exact⟨H,_,hh.turnMap hqs he' hb'⟩
end
end Go.V
namespace Go.V
def Fp{X:Type}(vf:X->Value)(g:X->GR):Res where
 P v H u C:=∃ x,v=vf x/\(g x).P H u C
 st:=fun⟨x,h1,h2⟩ a b c d=>⟨x,h1,(g x).st h2 a b c d⟩
abbrev zjv{X:Type}(vf:X->Value)(g:X->GR)(ty:TypeId):Res:=Fp (fun p:Nat×X=>.pointer (some ⟨p.1,0,none⟩)) fun p=>uw (yz p.1 (kx (vf p.2)) ty) (g p.2)
abbrev zh9{V:Type}(kd:IntKind)(vc:V->Value)(l:List (Int×V)):Res:=Fp (fun m:Nat=>.map (some m)) fun m=>zin m kd vc l
def MapVis{V:Type}(b:Nat)(kd:IntKind)(vc:V->Value)(l:List (Int×V))(H:Heap):Prop:=∃ es ck,H b=some (.map es ck)/\MiE kd vc l es.toList
def MapVis.le{V:Type}{vc:V->Value}{l:List (Int×V)}{H':Heap}(h:MapVis b kd vc l H)(hle:H.Le H'):MapVis b kd vc l H':=let ⟨es,ck,h1,h2⟩:=h;⟨es,ck,hle _ _ h1,h2⟩
section
def Gp{z cs:List Value}(e:Env F B O κ ⟨some d,.build t parts,ty,pos,aft,g⟩ a u H fp)
  (hp:PL P t places z) (hv:evP κ parts.toList=some vs) (hc:ot places z vs=some cs):(execOp a.eval ⟨some d,.build t parts,ty,pos,aft,g⟩).run P u=.ok (.value (.agg cs.toArray)) u:=by
 have hm:=E7 e parts.toList vs (fun p hp'=>by simp [Op.operands];exact⟨p.1,by simpa using hp'⟩) hv;obtain⟨zv,hz1,hz2⟩:=hp.zr
 have hbt:P.built t vs=some cs.toArray:=by
  have hpl:=hp.pl;unfold plI at hpl;unfold zrI at hz1;split at hz1
  ·rename_i it hit;unfold Program.built;split at hpl
   ·rename_i fs hu;simp only[hit,hu,hz1,hpl];rw[jy,hz2];exact uj (fun i p h=>by simpa using h) vs z cs hc
   ·rename_i m el hu;split at hpl
    ·rename_i ie hie;simp only[hit,hu,hz1,hie];cases hpl;rw[jy,hz2]
     exact uj (fun i p h=>by
      rw[zlu] at h
      cases hr:(List.range m)[i]? with
      | none=>rw[hr] at h;cases h
      | some j=>
       rw[hr] at h
       have:j=i:=by
        have:=zl5.1 hr;obtain⟨h1,h2⟩:=this;simpa using h2.symm
       subst this;simpa using h) vs z cs hc
    ·cases hpl
   ·cases hpl
  ·cases hz1
 have hr:=run_build (P:=P) u t vs.toArray cs.toArray (by simpa using hbt)
 have harr:(parts.map fun(p:Nat×Operand)=>(p.1,a.eval p.2))=vs.toArray:=by
  rw[<-hm,<-zlv,zm4]
 simp only[execOp,nu];show Result.andThen ((Instr.build t (parts.map fun(p:Nat×Operand)=>(p.1,a.eval p.2))).run P u) _=_;rw[harr,hr];rfl
def P9{X:Type}{vf:X->Value}{gg:X->GR}(vs:X->List (Nat×Value))(cs:X->List Value)(hq:κ q=some (.own (Fp vf gg)))(hn:Nat.blt d n=true)(hg:gK ops κ ⟨some d,.build t parts,ty,pos,aft,g⟩=some true)
  (hne:Nat.beq q d=false) (hp:PL P t places z) (hv:∀ x,evP (upd κ q (.is (vf x))) parts.toList=some (vs x)) (hc:∀ x,ot places z (vs x)=some (cs x)):wh P F B n ops O κ ⟨some d,.build t parts,ty,pos,aft,g⟩ q fm d (.own (Fp (fun x=>.agg (cs x).toArray) gg)):=by
 rintro κ' a u hlk hks ⟨H,fp,hh⟩;unfold After;rw[na (xf hh hlk hg)];have hk':κ' q=some (.own (Fp vf gg)):=hks.trans hq;obtain⟨⟨x,hx,hown⟩,hM⟩:=hh.slot q _ hk'
 have e:=(hh.name q).env (κ:=upd κ q (.is (vf x))) (ops:=ops) (o:=⟨some d,.build t parts,ty,pos,aft,g⟩) fun s hs=>by
  by_cases h:s=q
  ·subst h;rw[xj,xj,hx]
  ·rw[xd _ _ h,xd _ _ h];exact hlk s hs
 rw[Gp e hp (hv x) (hc x)];simp only[Upon];exact⟨H,_,hh.usePut (C:=fp q) hk' ⟨Keep.refl _ _,hh.sub,mo _,fun _ _ _=>rfl⟩ (by simp [Act.put]) Z (fun t ht=>xn ht) (by rw[xx (by rw[hh.size];exact zn hn)];exact⟨x,rfl,hown⟩) fun k hk=>⟨.inl hk,(hM k hk).1,(hM k hk).2.1⟩⟩
def Yy{X:Type}{vf:X->Value}{gg:X->GR}(hq:κ q=some (.own (Fp vf gg)))(hn:Nat.blt d n=true)(hg:gK ops κ ⟨some d,.box t (.tmp q),ty,pos,aft,g⟩=some true)
  (hne:Nat.beq q d=false):wh P F B n ops O κ ⟨some d,.box t (.tmp q),ty,pos,aft,g⟩ q fm d (.own (zjv vf gg t)):=by
 rintro κ' a u hlk hks ⟨H,fp,hh⟩;unfold After;rw[na (xf hh hlk hg)];have hk':κ' q=some (.own (Fp vf gg)):=hks.trans hq;obtain⟨⟨x,hx,hown⟩,hM⟩:=hh.slot q _ hk'
 have hrun:(execOp a.eval ⟨some d,.box t (.tmp q),ty,pos,aft,g⟩).run P u=.ok (.value (.pointer (some ⟨u.heap.size,0,none⟩))) (u.alloc (.cells (kx (vf x)).toArray t)):=by
  simp [execOp,hx,Instr.box,newVar,newRow,jy]
 rw[hrun];simp only[Upon]
 have hgr:Grow (fp q) u H (u.alloc (.cells (kx (vf x)).toArray t)) H:=by
  have h1:=Grow.hid hh.sub (.cells (kx (vf x)).toArray t);exact⟨⟨h1.keep.os,h1.keep.tape,h1.keep.output,h1.keep.size,fun k hk _=>h1.keep.block k hk (fun h=>h),h1.keep.dr⟩,h1.sub,h1.le,fun k hk _=>h1.fresh k hk (fun h=>h)⟩
 have hsz:u.heap.size<(u.alloc (.cells (kx (vf x)).toArray t)).heap.size:=xb (xu u _);refine⟨H,_,hh.usePut (C:=fun k=>k=u.heap.size\/fp q k) hk' hgr (by simp [Act.put]) Z (fun t ht=>xn ht) ?_ fun k hk=>?_⟩
 ·rw[xx (by rw[hh.size];exact zn hn)];refine⟨(u.heap.size,x),rfl,fun k=>k=u.heap.size,fp q,⟨xu _ _,fun _=>Iff.rfl⟩,(gg x).st hown (mo _) hgr.sub ⟨hgr.keep.os,hgr.keep.tape,hgr.keep.output,hgr.keep.size,hgr.keep.dr⟩ (fun k hk=>?_),fun k=>Iff.rfl,fun k h1 h2=>?_⟩
  ·exact jq u _ (hM k hk).1
  ·have:=(hM k h2).1;omega
 ·rcases hk with rfl | hk
  ·exact⟨.inr (ns _),by omega,k7 hh.sub (ns _)⟩
  ·exact⟨.inl hk,by have:=(hM k hk).1;omega,(hM k hk).2.1⟩
def Has.holdRf{X:Type}{t:Nat}{vf:X->Value}{gg:X->GR}(hk:κ t=some (.own (Fp vf gg)))(h:Has F B O n κ a u):∃ x,Has F B O n (upd (upd (upd κ t fm) q (.own (gg x).res)) t (.is (vf x))) a u:=by
 obtain⟨H,fp,h⟩:=h;obtain⟨⟨x,hv,hx⟩,hM⟩:=h.slot t _ hk;have h2:=h.usePut (d:=q) (a':=a) (r':=(gg x).res) (C:=fp t) hk ⟨Keep.refl _ _,h.sub,mo _,fun _ _ _=>rfl⟩ rfl rfl (fun _ _=>rfl) hx fun k hk=>⟨.inl hk,(hM k hk).1,(hM k hk).2.1⟩
 have h3:=h2.name t;rw[hv] at h3;exact⟨x,H,_,h3⟩
def Fl(t q:Nat){X:Type}{vf:X->Value}{gg:X->GR}{c:Code}(hk:κ t=some (.own (Fp vf gg)))(h:∀ x,V P F B n O (upd (upd (upd κ t fm) q (.own (gg x).res)) t (.is (vf x))) c zpf):V P F B n O κ c zpf:=fun a u hh=>let ⟨x,h'⟩:=hh.holdRf (q:=q) hk;h x a u h'
def Aa(t q:Nat){X:Type}{vf:X->Value}{gg:X->GR}(hk:κ t=some (.own (Fp vf gg)))(h:∀ x,VO P F B n O ops (upd (upd (upd κ t fm) q (.own (gg x).res)) t (.is (vf x))) os zpf):VO P F B n O ops κ os zpf:=fun a u hh=>let ⟨x,h'⟩:=hh.holdRf (q:=q) hk;h x a u h'
def Has.packRf{X:Type}{t:Nat}{vf:X->Value}{gg:X->GR}(x:X)(hk:κ q=some (.own (gg x).res))(ht:κ t=some (.is (vf x)))(h:Has F B O n κ a u):Has F B O n (upd (upd κ q fm) t (.own (Fp vf gg))) a u:=by
 obtain⟨H,fp,h⟩:=h;obtain⟨hx,hM⟩:=h.slot q _ hk;have hv:a.eval (.tmp t)=vf x:=h.slot t _ ht;exact⟨H,_,h.usePut (d:=t) (a':=a) (r':=Fp vf gg) (C:=fp q) hk ⟨Keep.refl _ _,h.sub,mo _,fun _ _ _=>rfl⟩ Z Z (fun _ _=>rfl) ⟨x,hv,hx⟩ fun k hk=>⟨.inl hk,(hM k hk).1,(hM k hk).2.1⟩⟩
def zbr(t q:Nat){X:Type}(vf:X->Value)(gg:X->GR){c:Code}(x:X)(hk:κ q=some (.own (gg x).res))(ht:κ t=some (.is (vf x)))(h:V P F B n O (upd (upd κ q fm) t (.own (Fp vf gg))) c zpf):V P F B n O κ c zpf:=fun a u hh=>h a u (hh.packRf x hk ht)
def Mo(L:Tabs P){fn:Func}{B0:Heap}(gs:Nat){r0:GR}{r:Res}{rs:List ResultVar}(hrs:fn.results=rs.toArray)
  (hQ:∀ a u,bodyPostM Fence.wide 0 P fn (ft F.w0 B0 F.L (zfh F.w0 r)) .ret a u->zpf .ret a u) (hs:Since F B0 B) (hk:κ gs=some (.own r0.res))
  (h:∀ H,B4 L F B O κ H rs [] (fun vs=>tup vs=v)) (hr:∀ H u C,B.Le H->zpg H u->r0.P H u C->r.P v H u C) (hL:F.L=noL:=by rfl) (hd:F.ds=[]:=by rfl):V P F B n O κ .ret zpf:=fun a u hh=>by
 obtain⟨H,fp,hH⟩:=hh;refine wpIn_ret (hQ a u ?_);have h0:=hH.defers;rw[hd] at h0;show LeavesInM _ _ _ _ _ _ a.defers _ _;rw[h0];obtain⟨vs,h1,h2⟩:=jv L hH hrs (h H);obtain⟨hown,hM⟩:=hH.slot gs _ hk;refine⟨_,h1,_,rfl,H,⟨hH.keep,hH.sub,hs.le.trans hH.base,fun k hk hl=>(hH.fresh k hk hl).trans (hs.fresh k hk hl)⟩,fp gs,?_,fun k hk=>?_⟩
 ·rw[h2];exact hr H u (fp gs) hH.base hH.sub hown
 ·obtain⟨g1,g2,g3,_⟩:=hM k hk;refine⟨?_,g1,g2⟩;rcases g3 with g3 | g3
  ·exact g3
  ·have g3':F.L k:=g3;rw[hL] at g3';exact g3'.elim
def StepOK.turn{o:Oper}{r r':Res}(h:StepOK P F B n ops O κ o d (.own r))(hr:∀ v H u C,B.Le H->r.P v H u C->r'.P v H u C):StepOK P F B n ops O κ o d (.own r'):=
 fun κ' a u hl hh=>After.mono (fun a' u' h2=>by have:=h2.turnO (t:=d) (r':=r') (xj ..) hr;rwa [jo] at this) (h κ' a u hl hh)
def zaa{V:Type}{vc:V->Value}{l:List (Int×V)}:∀ v H u C,B.Le H->(Rb kd vc l).P v H u C->(zh9 kd vc l).P v H u C:=fun _ _ _ _ _ ⟨b,h1,h2,h3⟩=>⟨b,h1,h2,h3⟩
variable {Y:Type}  {vc:Y->Value} {l:List (Int×Y)}
def Lp(kd:IntKind)(vc:Y->Value){k:IntKind}{c:Int}(hn:Nat.blt d n=true)(ht:P.underlying t=some (.map kt et))(hx:evK κ x=some (.int k c))(hg:gK ops κ ⟨some d,.makeMap t (some x),ty,pos,aft,g⟩=some true):
  StepOK P F B n ops O κ ⟨some d,.makeMap t (some x),ty,pos,aft,g⟩ d (.own (zh9 kd vc [])):=by
 refine StepOK.turn (r:=Rb kd vc []) ?_ zaa;rintro κ' a u hl ⟨H,fp,hh⟩;have hn:d<n:=by simpa using hn
 unfold After;rw[na (xf hh hl hg)];have e:=hh.env hl;have h1:=e.is_ x _ (by simp [Op.operands]) hx
 have hrun:(execOp a.eval ⟨some d,.makeMap t (some x),ty,pos,aft,g⟩).run P u=.ok (.value (.map (some u.heap.size))) (u.alloc (.map #[] 0)):=by
  simp [execOp,Instr.makeMap,h1,asInt,asIntOf,run_underlying ht,nu]
 rw[hrun];simp only[Upon];have hg2:=hh.grow (Grow.hid hh.sub (.map #[] 0));refine⟨H,_,hg2.putR (C:=fun k=>k=u.heap.size) (by simp [Act.put]) Z (fun t ht=>xn ht) ⟨u.heap.size,xx (by rw[hh.size];exact hn),⟨_,_,xu _ _,rfl,Vx⟩,fun _=>Iff.rfl⟩ (fun k hk=>?_) fun t r' _ ht k hf hk=>?_⟩
 ·subst hk;exact⟨xb (xu u _),k7 hh.sub (ns _),.inl hh.keep.size,fun y hy e=>by have:=xb (hh.boxes y hy).1;omega⟩
 ·have:=((hh.slot t _ ht).2 k hf).1;omega
def A4(k:Int){r z:Value}(ht:P.underlying t=some (.map kt et))(hkt:P.underlying kt=some (.int kd))(hz:∀ w,(zeroValue et).run P w=.ok z w)
  (hv:MapVis b kd vc l B) (hx:evK κ x=some (.map (some b))) (hy:evK κ y=some (.int kd k)) (hn:Nat.blt d n=true) (hg:gK ops κ ⟨some d,.lookup t x y false,ty,pos,aft,g⟩=some true)
  (hr:(ub k l).elim z vc=r):
  StepOK P F B n ops O κ ⟨some d,.lookup t x y false,ty,pos,aft,g⟩ d (.is r):=
 ke rfl (zn hn) hg trivial fun a u H fp e=>by
  have h1:=e.is_ x _ (by simp [Op.operands]) hx;have h2:=e.is_ y _ (by simp [Op.operands]) hy;obtain⟨es,ck,hb,he⟩:=hv;refine⟨(ub k l).elim z vc,?_,hr⟩;simp only[execOp,h1,h2,nu,K2 ht hkt (e.sub _ _ (e.base _ _ hb)) he k (hz u),ma];rfl
end
end Go.V
namespace Go.V.L11
open Go.V.L2 Go.V.L4
def _root_.Zav(t:Wr Y->A:=by intro h;refine z7 (Lr Z Z Z Z) Z ?_;exact h.1)(h:Y):A:=t ⟨h⟩
def _root_.Zd4(t:Wr Y->A:=by intro h;refine z7 (zd5 Z Z Z Z) Z ?_;exact h.1)(h:Y):A:=t ⟨h⟩
def _root_.Zbf(t:Wr Y->A:=by exact fun h=>(ZB∘Zd4) h.1)(h:Y):A:=t ⟨h⟩
def _root_.Zbx(t:Wr Y->A:=by exact fun h=>(Zaj∘Zg) h.1)(h:Y):A:=t ⟨h⟩
def f7:Nat->wa->wa
 | _,[]=>[]
 | n,x::xs=>(Value.int .i64 (n:Int)::x)::f7 (n+1) xs
def s7:∀ {a b:wa} {n:Nat},f7 n (a++b)=f7 n a++f7 (n+a.length) b
 | [],b,n=>rfl
 | x::a,b,n=>by
  show _::f7 (n+1) (a++b)=_;rw[s7,ny,show n+1+a.length=n+(a.length+1) by omega];rfl
def A8(a:wa)(x:List Value):f7 1 (a++[x])=f7 1 a++[Value.int .i64 ((a.length+1:Nat):Int)::x]:=by
 rw[s7,znn 1];rfl
def Ag(stop:wa->Bool):∀ (xs pre:wa),f7 1 (jf (fun p=>stop (f7 1 p)) pre xs)=jf stop (f7 1 pre) (f7 (1+pre.length) xs)
 | [],pre=>rfl
 | x::xs,pre=>by
  have e:f7 1 (pre++[x])=f7 1 pre++[Value.int .i64 ((1+pre.length:Nat):Int)::x]:=by rw[s7];rfl
  show f7 1 (if stop (f7 1 (pre++[x]))=true then _ else _)=(if stop (f7 1 pre++[Value.int .i64 ((1+pre.length:Nat):Int)::x])=true then _ else _);rw[<-e];split
  ·rfl
  ·rw[Ag stop xs (pre++[x]),nr];rfl
def U2{l:List ByteArray}{x:List Value}(h:pre++[x]<+:vu l):∃ y,x=[Value.string y]:=by
 have:x∈vu l:=h.subset (by simp);obtain⟨y,_,e⟩:=m8.1 this;exact⟨y,e.symm⟩
def Eo:∀ {l acc:List UInt8},(Rf acc l).length<=l.length+(if acc=[] then 0 else 1)
 | [],acc=>by
  show(if acc=[] then ([]:List (List UInt8)) else [acc]).length<=_;split<;>simp
 | c::l,acc=>by
  show(if c=10 then (acc++[c])::Rf [] l else Rf (acc++[c]) l).length<=_;split
  ·have:=Eo (l:=l) (acc:=[]);rw[na rfl] at this;simp only[ny];split<;>omega
  ·have:=Eo (l:=l) (acc:=acc++[c]);rw[nc (by simp)] at this;simp only[ny];split<;>omega
def Er(s:ByteArray):(cx s).length<=s.size:=by
 unfold cx;rw[mt];have:=Eo (l:=s.data.toList) (acc:=[]);rw[na rfl,uq] at this;exact this
def cnS(stop:wa->Bool)(pre:wa):Int:=if stop (f7 1 pre)=true then (pre.length:Int) else ((pre.length+1:Nat):Int)
def Vd(h:stop (f7 1 pre)=false):cnS stop pre=((pre.length+1:Nat):Int):=nc (by rw[h];decide)
def zaz(h:stop (f7 1 pre)=true):cnS stop pre=(pre.length:Int):=na h
attribute [local irreducible] V N X VO Par StepOK Has Ret RetL RetO RetT ki RetX RetY Src
def Pu(hB:zpg B w):
  RetO zph 191 [.string s] w B (Fp (fun b:Nat=>.func (.func 241) #[] #[xz b]) fun b=>yz b [.string s] Fz):=by
 refine j7 Tryz.func191 Z Tryz.ntmps191 (np Z) hB ((Zbf∘Zd) ?_);refine kz 1 900 rfl fun b=>?_;refine(Z3∘Zav∘Zc) ?_;exact Mo L 900 (r0:=yz b [.string s] Fz) (v:=.func (.func 241) #[] #[xz b]) (rs:=[.tmp 2]) Z (fun _ _ h=>h) nq Z (fun _=>rfl) (fun H u C hle _ hr=>⟨b,rfl,hr⟩)
def Lz(hs:s.size<=1099511627776){sb:Nat}(hB:zpg B w)(hb:B sb=some (.cells #[.string s] Fz)):zim zph 190 [xz sb] w B (f7 1 (vu (cx s))):=by
 intro ly zpb stop C hst hY hJ hC;refine yr 77 (zpb []) Tryz.func190 Z Tryz.ntmps190 (np Z) hB hJ hC ((Zbf∘Zg) ?_);refine kz 2 81 rfl fun yb=>?_;refine j8 81 rfl fun H1 hs1 _ hyb=>?_;refine(Z3∘Zbx) ?_;refine kz 3 79 rfl fun nb=>?_;have hb1:=hs1.le _ _ hb;refine Zx (h:=?_);refine z7 (qf L (qh Z hb1) Z Z Z Z) Z (z7 (wt L Z Z (zn Z) Z Z Z (fun u H hH _ _=>Pu hH)) Z (ZcK (h:=?_)));refine Fl 6 80 rfl fun b=>?_
 refine Kc L 80 (gr:=yz b [.string s] Fz) (gf:=241) (caps:=[xz b]) [(2,xz yb),(3,xz nb)]
  (fun pre=>[(77,(zpb (f7 1 pre)).res),(79,xk nb [.int .i64 (cnS stop pre)] 3)])
  (fun pre x=>[(77,.own (zpb (f7 1 pre)).res),(79,.own (xk nb [.int .i64 ((pre.length+1:Nat):Int)] 3)),(2,.is (xz yb)),(3,.is (xz nb)),(4,.is (x.headD undef))])
  (vu (cx s)) (fun p=>stop (f7 1 p)) (fun _=>.ret) rfl rfl rfl rfl
  (fun pre p hp=>by simp only[nz,m6,zmj,or_false] at hp;rcases hp with rfl | rfl<;>exact Nat.ne_of_beq_eq_false rfl) ⟨rfl,by rw[Vd hst];rfl,rfl,rfl,nm⟩
  (fun pre p hp=>by simp only[nz,m6,zmj,or_false] at hp;rcases hp with rfl | rfl<;>exact np rfl) hst (fun x hx=>by obtain⟨y,_,rfl⟩:=m8.1 hx;rfl) E
  (fun u H hH hle=>Yi hs hH) ?asg ?bd ?dn ?st
 case asg=>
  intro w1 Ln B' l' D' o pre x' hpre hstp hBB;obtain⟨y,rfl⟩:=U2 hpre;refine(ZI∘ZbI) ?_;exact Xc nq ⟨Z,by rw[<-Vd hstp];rfl,Z,Z,Z,nm⟩
 case bd=>
  intro w1 Ln B' l' D' o pre x' hpre hstp hBB;have hlen:=hpre.length_le;obtain⟨y,rfl⟩:=U2 hpre;have hll:=Er s;simp only[nr,mt,ny,my] at hlen;have hyb2:=hBB _ _ hyb
  have hpre':f7 1 pre++[[Value.int .i64 ((pre.length+1:Nat):Int),Value.string y]]<+:f7 1 (vu (cx s)):=by
   obtain⟨t,ht⟩:=hpre;rw[<-ht,s7,A8];exact List.prefix_append _ _
  have hwk:IntKind.i64.wrap (((pre.length+1:Nat):Int)+1)=((pre.length+1+1:Nat):Int):=yy T T;have e3:f7 1 (pre++[[Value.string y]])=f7 1 pre++[[Value.int .i64 ((pre.length+1:Nat):Int),Value.string y]]:=A8 _ _;have hpl:(pre++[[Value.string y]]).length=pre.length+1:=by simp
  cases hb':stop (f7 1 pre++[[Value.int .i64 ((pre.length+1:Nat):Int),Value.string y]])
  ·refine(Z6∘Zbm) ?_;refine z7 (qf L (qh Z hyb2) Z Z Z Z) Z (qz (qb L (q:=79) Z Z Z Z) (Za (h:=?_)));refine zy (ue (gs:=77) hY hpre' hstp (nh Bool.not hb') Z Z Z Z Z) ((Zt∘ZZ∘Zch∘ZE) ?_);refine qz (qb L (q:=79) Z Z Z Z) (Zy (h:=?_));refine xh (ye L (q:=79) (cs':=[.int .i64 ((pre.length+1+1:Nat):Int)]) Z Z Z Z Z) ((ZN∘Zao) ?_);exact Xd nq (by rw[e3];exact hb') ⟨by rw[e3];rfl,by rw[Vd (by rw[e3];exact hb'),hpl];rfl,nm⟩
  ·refine(Z6∘Zbm) ?_;refine z7 (qf L (qh Z hyb2) Z Z Z Z) Z (qz (qb L (q:=79) Z Z Z Z) (Za (h:=?_)));refine zy (ue (gs:=77) hY hpre' hstp (nh Bool.not hb') Z Z Z Z Z) ((Zt∘ZD) ?_);exact Di (O6 (rp (Ra nq (by rw[e3];exact hb') Z ⟨by rw[e3];rfl,by rw[zaz (by rw[e3];exact hb'),hpl];rfl,nm⟩)))
 case st=>
  intro l' D' o hstop;exact k9 L 77 rfl (fun _ _ h=>h) hs1 Z (by rw[Ag];rfl)
 case dn=>
  intro l' D' o hgo;exact xo L 77 rfl (fun _ _ h=>h) hs1 Z (by rw[Ag];rfl)
def LinAt(s:ByteArray)(v:Value)(H:Heap):Prop:=∃ b,v=.func (.func 190) #[] #[xz b]/\H b=some (.cells #[.string s] Fz)
def LinAt.mono:Kn.mono (.sat (LinAt s)):=fun _ _ _ ⟨b,h1,h2⟩ hle=>⟨b,h1,hle _ _ h2⟩
def T8(hB:zpg B w):Ret zph 130 [.string s] w B (LinAt s):=by
 refine yh Tryz.func130 Z Tryz.ntmps130 (np Z) hB ((Zbf∘Zd) ?_);refine kz 1 900 rfl fun b=>?_;refine j8 900 rfl fun H1 hs1 _ hyb=>?_;refine(Z3∘Zav∘Zc) ?_;refine yg L (rs:=[.tmp 2]) Z (fun _ _ h=>h) hs1 fun u H hH hle=>?_;exact⟨b,rfl,hle _ _ hyb⟩
end Go.V.L11
namespace Go.V.L11
open Go.V.L2 Go.V.L4
def Kh(p:wa):List ByteArray:=p.map fun x=>match x with
 | [_,.string y]=>y
 | _=>⟨#[]⟩
def wj:∀ {ls:List ByteArray} {n:Nat},Kh (f7 n (vu ls))=ls
 | [],_=>rfl
 | x::ls,n=>by
  show x::Kh (f7 (n+1) (vu ls))=_;rw[wj]
def zav(a b:List ByteArray):vu (a++b)=vu a++vu b:=zli ..
def A9(ls:List ByteArray)(y:ByteArray):f7 1 (vu (ls++[y]))=f7 1 (vu ls)++[[Value.int .i64 ((ls.length+1:Nat):Int),Value.string y]]:=by
 rw[zav];have:=A8 (vu ls) [Value.string y];rw[mt] at this;exact this
def Tn:∀ {L:List ByteArray} {n:Nat} {p:wa},p<+:f7 n (vu L)->∃ ls,p=f7 n (vu ls)/\ls<+:L
 | [],n,p,h=>⟨[],List.prefix_nil.1 h,List.prefix_rfl⟩
 | x::L,n,[],h=>⟨[],rfl,List.nil_prefix⟩
 | x::L,n,q::p,h=>by
  have h':q::p<+:[Value.int .i64 (n:Int),Value.string x]::f7 (n+1) (vu L):=h;rw[List.cons_prefix_cons] at h';obtain⟨rfl,h2⟩:=h';obtain⟨ls,rfl,h3⟩:=Tn h2;exact⟨x::ls,rfl,List.cons_prefix_cons.2 ⟨rfl,h3⟩⟩
def Tp{L:List ByteArray}{x:List Value}(h:pre++[x]<+:f7 1 (vu L)):∃ ls y,pre=f7 1 (vu ls)/\x=[Value.int .i64 ((ls.length+1:Nat):Int),Value.string y]/\ls++[y]<+:L:=by
 obtain⟨ls,e,hp⟩:=Tn h;rcases zo4 ls with rfl | ⟨ls',y,rfl⟩
 ·exact ni e (by simp [vu,f7])
 ·rw[zop] at e hp;rw[A9] at e;obtain⟨h1,h2⟩:=List.append_inj' e rfl;exact⟨ls',y,h1,by simpa using h2,hp⟩
def Af{X:Type}(rd:ByteArray->X×Int):∀ (xs ls:List ByteArray),v6 rd 1 ls=true->
  ∃ ks,jf (fun p=>!v6 rd 1 (Kh p)) (f7 1 (vu ls)) (f7 (1+ls.length) (vu xs))=f7 1 (vu ks)/\o6 rd [] 1 ks=o6 rd [] 1 (ls++xs)/\(v6 rd 1 ks=true->ks=ls++xs)
 | [],ls,h=>⟨ls,rfl,by rw[mq],fun _=>(mq _).symm⟩
 | x::xs,ls,h=>by
  have e1:f7 1 (vu ls)++[[Value.int .i64 ((1+ls.length:Nat):Int),Value.string x]]=f7 1 (vu (ls++[x])):=by rw[A9,znn 1]
  show ∃ ks,(if (!v6 rd 1 (Kh (f7 1 (vu ls)++[[Value.int .i64 ((1+ls.length:Nat):Int),Value.string x]])))=true then _ else _)=_/\_;rw[e1,wj];cases hg:v6 rd 1 (ls++[x])
  ·refine⟨ls++[x],na Z,?_,fun h'=>by rw[hg] at h';cases h'⟩;rw[pw,h] at hg;exact(Yq h (by simpa using hg)).symm
  ·obtain⟨ks,h1,h2,h3⟩:=Af rd xs (ls++[x]) hg;refine⟨ks,?_,by rw[h2,mj];rfl,fun h'=>by rw[h3 h',mj];rfl⟩;rw[nc E,<-h1,nr];rfl
def tup3{φ1 φ2 φ3:Value->Heap->Prop}{a b c:Value}(h1:φ1 a H)(h2:φ2 b H)(h3:φ3 c H):TupS [φ1,φ2,φ3] (.tuple #[a,b,c]) H:=⟨[a,b,c],rfl,rfl,fun i φ x hi hx=>by
 match i with
 | 0=>cases hi;cases hx;exact h1
 | 1=>cases hi;cases hx;exact h2
 | 2=>cases hi;cases hx;exact h3⟩
end Go.V.L11
namespace Go.V
section
def Se(L:Tabs P){o:Oper}{fo:Operand}(hop:o.op=.call { callee:=.value fo,args:=#[],argTypes:=#[] })(hfe:a.eval fo=.func (.func f) fst.toArray cap.toArray)(hfn:L.fn f=some ()):
  (execOp a.eval o).run P u=.ok (.enter f ((fst++cap).toArray)) u:=by
 simp only[execOp,hop,resolve,hfe,Deferred.ofValue,nu,me,ma,invoke];rw[uk L hfn];simp
def kw(L:Tabs P)(q:Nat)(r':GR)(v:Value){r:GR}{fo:Operand}
  (hn:Nat.blt d n=true) (hg:gK ops κ ⟨some d,.call { callee:=.value fo,args:=#[],argTypes:=#[] },ty,pos,aft,g⟩=some true)
  (hf:evK κ fo=some (.func (.func f) fst.toArray cap.toArray)) (hfn:L.fn f=some ()) (hq:κ q=some (.own r.res))
  (h:∀ u H C,zpg H u->B.Le H->r.P H u C->(ZCB C u H)->RetX P f (fst++cap) u H C r' v):
  wh P F B n ops O κ ⟨some d,.call { callee:=.value fo,args:=#[],argTypes:=#[] },ty,pos,aft,g⟩ q (.own r'.res) d (.is v):=by
 rintro κ' a u hlk hks ⟨H,fp,hh⟩;unfold After;rw[na (xf hh hlk hg)];have hk':κ' q=some (.own r.res):=hks.trans hq;obtain⟨hown,hM⟩:=hh.slot q _ hk';have e2:=hh.env hlk;have hfe:a.eval fo=.func (.func f) fst.toArray cap.toArray:=e2.is_ fo _ (by simp [Op.operands,Call.operands]) hf;have hc:=h u H (fp q) hh.sub hh.base hown fun k hk=>⟨(hM k hk).1,(hM k hk).2.1⟩
 rw[Se L rfl hfe hfn];simp only[Upon];refine Calls.mono hc fun e' u' hp=>?_;obtain⟨x,rfl,H',g',hx,C',hv,hC'⟩:=hp;have h2:=hh.usePut (d:=q) (a':=a) (r':=r'.res) hk' g' rfl rfl (fun _ _=>rfl) hv hC';rw[jo] at h2;exact⟨x,Z,H',_,h2.put (k:=.is v) (zn hn) trivial hx⟩
end
end Go.V
section
open Go.V
attribute [local irreducible] Has N Par Ret RetL RetO RetT RetX RetY Src StepOK V VO X ki
namespace Go.V.L4
def _root_.Zbi(t:Wr Y->A:=by exact fun h=>(ZI∘Zb) h.1)(h:Y):A:=t ⟨h⟩
def _root_.ZbX(t:Wr Y->A:=by exact fun h=>(Z9∘ZH) h.1)(h:Y):A:=t ⟨h⟩
def _root_.ZbY(t:Wr Y->A:=by exact fun h=>(ZK∘Zb) h.1)(h:Y):A:=t ⟨h⟩
def oy{bs:List Nat}{e:Int}(hb:∀ b∈bs,b<=255)(hl:bs.length<=1099511627776)(hat:R.at_<=bs.length)(hB:zpg B w)(hs:BsV bs fu sv B)(hr:(GRd rb sv R).P B w C)(hC:ZCB C w B):
  RetX zph 52 [xz rb,.int .u64 lim,.int .i64 e] w B C (GRd rb sv (ct bs lim e R).2) (.int .u64 ((ct bs lim e R).1:Nat)):=by
 unfold RetX;refine yr 900 (GRd rb sv R) Tryz.func52 Z Tryz.ntmps52 (np Z) hB hr hC ?_;rw[xa];obtain⟨⟨n,⟨at1,bad1,err1⟩⟩,hz⟩:∃ z,G1 bs R=z:=⟨_,rfl⟩
 obtain⟨at_,bad,err⟩:=R;unfold ct;rw[hz];dsimp only;have hnum:=fun(u:World) (H:Heap) (C2:Nat->Prop) (hH:zpg H u) (hle:B.Le H) hr2 hC2=>hz ▸ Cw (R:=⟨at_,bad,err⟩) (rb:=rb) (C:=C2) hb hl hat hH (hs.le hle) hr2 hC2;by_cases hlt:lim<n
 ·rw[na hlt];refine(Z0∘Za∘ZH∘Zbh) ?_;refine zy (y7 L 900 (GRd rb sv ⟨at1,bad1,err1⟩) (.int .u64 n) (r:=GRd rb sv ⟨at_,bad,err⟩) Z Z Z Z Z hnum) ((Zi∘Zbi∘ZO∘ZD∘ZS∘ZF) ?_);refine zy (yq L 900 (GRd rb sv ((⟨at1,bad1,err1⟩:Rd).fail at_ e)) (r:=GRd rb sv ⟨at1,bad1,err1⟩) Z Z Z Z Z (fun u H C2 hH _ hr2 hC2=>ax hH hr2 hC2)) ((Zg∘ZT∘Zc) ?_);exact xv L 900 (r:=yz rb _ ui) (rs:=[.tmp 6]) Z (fun _ _ h=>h) nq Z Z (fun _=>rfl)
 ·rw[nc hlt];refine(Z0∘Za∘ZH∘Zbh) ?_;refine zy (y7 L 900 (GRd rb sv ⟨at1,bad1,err1⟩) (.int .u64 n) (r:=GRd rb sv ⟨at_,bad,err⟩) Z Z Z Z Z hnum) ((Zi∘Zbi∘ZJ∘Zn∘ZT∘Zc) ?_);exact xv L 900 (r:=yz rb _ ui) (rs:=[.tmp 6]) Z (fun _ _ h=>h) nq Z Z (fun _=>rfl)
def Pe{gf:Rd->Int×Rd}{fr:Nat}(hfn:L.fn fr=some ()){C:Nat->Prop}(hB:zpg B w)(hr:(GRd rb sv R).P B w C)(hC:ZCB C w B)
  (hf:R.err=0->∀ (u:World) (H:Heap) (C:Nat->Prop),zpg H u->B.Le H->(GRd rb sv R).P H u C->(ZCB C u H)->RetX zph fr (fst++cap) u H C (GRd rb sv (gf R).2) (.int .i64 ((gf R).1:Int))):
  RetX zph 50 [xz rb,.func (.func fr) fst.toArray cap.toArray] w B C (GRd rb sv (ln gf 0 R).2) (.int .i64 ((ln gf 0 R).1:Int)):=by
 unfold RetX;refine yr 900 (GRd rb sv R) Tryz.func50 Z Tryz.ntmps50 (np Z) hB hr hC ?_;rw[xa];obtain⟨⟨n,⟨at1,bad1,err1⟩⟩,hz⟩:∃ z,gf R=z:=⟨_,rfl⟩
 obtain⟨at_,bad,err⟩:=R;unfold ln;rw[hz] at hf |-;dsimp only at hf |-;by_cases h0:err≠0
 ·rw[na h0];refine(Z0∘Zi∘Zo) ?_;refine zy (y7 L 900 (GRd rb sv ⟨at_,bad,err⟩) (.bool true) (r:=GRd rb sv ⟨at_,bad,err⟩) Z Z Z Z Z (fun u H C2 hH _ hr2 hC2=>xy (nf h0) hH hr2 hC2)) ((Zu∘Zp∘Zc) ?_);exact xv L 900 (r:=yz rb _ ui) (rs:=[.tmp 4]) Z (fun _ _ h=>h) nq Z Z (fun _=>rfl)
 ·have he:err=0:=m4.1 h0;subst he;rw[nc h0];have hf:=hf rfl;by_cases h1:err1≠0
  ·rw[na h1];refine(Z0∘Zi∘Zo) ?_;refine zy (y7 L 900 (GRd rb sv ⟨at_,bad,0⟩) (.bool false) (r:=GRd rb sv ⟨at_,bad,0⟩) Z Z Z Z Z (fun u H C2 hH _ hr2 hC2=>xy (ng h0) hH hr2 hC2)) ((Zn∘ZbX∘Zbu) ?_);refine zy (kw L 900 (GRd rb sv ⟨at1,bad1,err1⟩) (.int .i64 n) (r:=GRd rb sv ⟨at_,bad,0⟩) Z Z Z hfn Z hf) ((Zi∘ZL∘ZH∘ZaG∘ZbY∘ZY) ?_);refine xh (ye L (q:=900) (cs':=[sv,.int .i64 at_,.int .i64 bad1,.int .i64 err1]) Z Z Z Z Z) ((Zg∘Zbe∘Zc) ?_);exact xv L 900 (r:=yz rb _ ui) (rs:=[.tmp 4]) Z (fun _ _ h=>h) nq Z Z (fun _=>rfl)
  ·have he:err1=0:=m4.1 h1;subst he;rw[nc h1];refine(Z0∘Zi∘Zo) ?_;refine zy (y7 L 900 (GRd rb sv ⟨at_,bad,0⟩) (.bool false) (r:=GRd rb sv ⟨at_,bad,0⟩) Z Z Z Z Z (fun u H C2 hH _ hr2 hC2=>xy (ng h0) hH hr2 hC2)) ((Zn∘ZbX∘Zbu) ?_);refine zy (kw L 900 (GRd rb sv ⟨at1,bad1,0⟩) (.int .i64 n) (r:=GRd rb sv ⟨at_,bad,0⟩) Z Z Z hfn Z hf) ((Zi∘ZL∘ZH∘Zb3∘Zau∘Zc) ?_);exact xv L 900 (r:=yz rb _ ui) (rs:=[.tmp 4]) Z (fun _ _ h=>h) nq Z Z (fun _=>rfl)
def O9{gf:Rd->Nat×Rd}{fr:Nat}(hfn:L.fn fr=some ()){C:Nat->Prop}(hB:zpg B w)(hr:(GRd rb sv R).P B w C)(hC:ZCB C w B)
  (hf:R.err=0->∀ (u:World) (H:Heap) (C:Nat->Prop),zpg H u->B.Le H->(GRd rb sv R).P H u C->(ZCB C u H)->RetX zph fr (fst++cap) u H C (GRd rb sv (gf R).2) (.int .u64 ((gf R).1:Nat))):
  RetX zph 206 [xz rb,.func (.func fr) fst.toArray cap.toArray] w B C (GRd rb sv (ln gf 0 R).2) (.int .u64 ((ln gf 0 R).1:Nat)):=by
 unfold RetX;refine yr 900 (GRd rb sv R) Tryz.func206 Z Tryz.ntmps206 (np Z) hB hr hC ?_;rw[xa];obtain⟨⟨n,⟨at1,bad1,err1⟩⟩,hz⟩:∃ z,gf R=z:=⟨_,rfl⟩
 obtain⟨at_,bad,err⟩:=R;unfold ln;rw[hz] at hf |-;dsimp only at hf |-;by_cases h0:err≠0
 ·rw[na h0];refine(Z0∘Zi∘Zo) ?_;refine zy (y7 L 900 (GRd rb sv ⟨at_,bad,err⟩) (.bool true) (r:=GRd rb sv ⟨at_,bad,err⟩) Z Z Z Z Z (fun u H C2 hH _ hr2 hC2=>xy (nf h0) hH hr2 hC2)) ((Zu∘Zp∘Zc) ?_);exact xv L 900 (r:=yz rb _ ui) (rs:=[.tmp 4]) Z (fun _ _ h=>h) nq Z Z (fun _=>rfl)
 ·have he:err=0:=m4.1 h0;subst he;rw[nc h0];have hf:=hf rfl;by_cases h1:err1≠0
  ·rw[na h1];refine(Z0∘Zi∘Zo) ?_;refine zy (y7 L 900 (GRd rb sv ⟨at_,bad,0⟩) (.bool false) (r:=GRd rb sv ⟨at_,bad,0⟩) Z Z Z Z Z (fun u H C2 hH _ hr2 hC2=>xy (ng h0) hH hr2 hC2)) ((Zn∘ZbX∘Zbu) ?_);refine zy (kw L 900 (GRd rb sv ⟨at1,bad1,err1⟩) (.int .u64 n) (r:=GRd rb sv ⟨at_,bad,0⟩) Z Z Z hfn Z hf) ((Zi∘ZL∘ZH∘ZaG∘ZbY∘ZY) ?_);refine xh (ye L (q:=900) (cs':=[sv,.int .i64 at_,.int .i64 bad1,.int .i64 err1]) Z Z Z Z Z) ((Zg∘Zbe∘Zc) ?_);exact xv L 900 (r:=yz rb _ ui) (rs:=[.tmp 4]) Z (fun _ _ h=>h) nq Z Z (fun _=>rfl)
  ·have he:err1=0:=m4.1 h1;subst he;rw[nc h1];refine(Z0∘Zi∘Zo) ?_;refine zy (y7 L 900 (GRd rb sv ⟨at_,bad,0⟩) (.bool false) (r:=GRd rb sv ⟨at_,bad,0⟩) Z Z Z Z Z (fun u H C2 hH _ hr2 hC2=>xy (ng h0) hH hr2 hC2)) ((Zn∘ZbX∘Zbu) ?_);refine zy (kw L 900 (GRd rb sv ⟨at1,bad1,0⟩) (.int .u64 n) (r:=GRd rb sv ⟨at_,bad,0⟩) Z Z Z hfn Z hf) ((Zi∘ZL∘ZH∘Zb3∘Zau∘Zc) ?_);exact xv L 900 (r:=yz rb _ ui) (rs:=[.tmp 4]) Z (fun _ _ h=>h) nq Z Z (fun _=>rfl)
def K5{bs:List Nat}(hb:∀ b∈bs,b<=255)(hl:bs.length<=1099511627776)(hat:R.at_<=bs.length)(hB:zpg B w)(hs:BsV bs fu sv B)(hr:(GRd rb sv R).P B w C)(hC:ZCB C w B):
  RetX zph 151 [xz rb] w B C (GRd rb sv (iz bs R).2) (.int .u64 ((iz bs R).1:Nat)):=by
 unfold RetX;refine yr 900 (GRd rb sv R) Tryz.func151 Z Tryz.ntmps151 (np Z) hB hr hC ?_;rw[xa];refine(Z0∘Zb∘Zav) ?_;refine zy (y7 L 900 (GRd rb sv (iz bs R).2) (.int .u64 ((iz bs R).1:Nat)) (r:=GRd rb sv R) Z Z Z Z Z (fun u H C2 hH hle hr2 hC2=>O9 (gf:=G1 bs) (fst:=[xz rb]) (cap:=[]) Z hH hr2 hC2 (fun _ u3 H3 C3 hH3 hle3 hr3 hC3=>Cw hb hl hat hH3 ((hs.le hle).le hle3) hr3 hC3))) (Zc (h:=?_));exact xv L 900 (r:=yz rb _ ui) (rs:=[.tmp 2]) Z (fun _ _ h=>h) nq Z Z (fun _=>rfl)
def zae{b2 b3:Nat}{bs:List Nat}(hlim:lim<=1099511627776)(hb:∀ b∈bs,b<=255)(hl:bs.length<=1099511627776)(hat:R.at_<=bs.length)(hB:zpg B w)(hs:BsV bs fu sv B)(h2:B b2=some (.cells #[xz rb] 58))(h3:B b3=some (.cells #[.int .i64 lim] 3))(hr:(GRd rb sv R).P B w C)(hC:ZCB C w B):
  RetX zph 51 [xz b2,xz b3] w B C (GRd rb sv (zcc bs lim R).2) (.int .i64 (zcc bs lim R).1):=by
 unfold RetX;refine yr 900 (GRd rb sv R) Tryz.func51 Z Tryz.ntmps51 (np Z) hB hr hC ?_;rw[xa];have hmx:max (lim:Int) 0=lim:=T;have hcu:IntKind.u64.wrap (lim:Int)=(lim:Int):=wrap_u64 T T;obtain⟨⟨n,⟨at1,bad1,err1⟩⟩,hz⟩:∃ z,ct bs lim 3 R=z:=⟨_,rfl⟩
 unfold zcc;rw[hz];dsimp only;have hci:IntKind.i64.wrap ((n:Nat):Int)=IntKind.i64.wrap ((n:Nat):Int):=rfl;refine Z0 (h:=?_);refine z7 (qf L (qh Z h2) Z Z Z Z) Z (z7 (qf L (qh Z h3) Z Z Z Z) Z (z7 (Gv Z Z Z Z Z) Z (z7 (kg Z Z Z eg.1 eg.2 (wrap_u64 T T)) Z (zy (y7 L 900 (GRd rb sv ⟨at1,bad1,err1⟩) (.int .u64 n) (r:=GRd rb sv R) Z Z Z Z Z (fun u H C2 hH hle hr2 hC2=>by have h:=oy (lim:=lim) (e:=3) hb hl hat hH (hs.le hle) hr2 hC2;rw[hz] at h;exact h)) ?_))));refine z7 (kg Z Z Z Z Z hci) Z (Zc (h:=?_));exact xv L 900 (r:=yz rb _ ui) (rs:=[.tmp 2]) Z (fun _ _ h=>h) nq Z Z (fun _=>rfl)
def len_ret{bs:List Nat}(hlim:lim<=1099511627776)(hb:∀ b∈bs,b<=255)(hl:bs.length<=1099511627776)(hat:R.at_<=bs.length)(hB:zpg B w)(hs:BsV bs fu sv B)(hr:(GRd rb sv R).P B w C)(hC:ZCB C w B):
  RetX zph 14 [xz rb,.int .i64 lim] w B C (GRd rb sv (j9 bs lim R).2) (.int .i64 (j9 bs lim R).1):=by
 unfold RetX;refine yr 900 (GRd rb sv R) Tryz.func14 Z Tryz.ntmps14 (np Z) hB hr hC ?_;rw[xa];refine(Zbf∘Zd4∘Zd) ?_;refine kz 2 901 rfl fun b2=>?_;refine kz 3 902 rfl fun b3=>?_;refine j8 901 rfl fun H1 hs1 _ h2=>?_;refine j8 902 rfl fun H2 hs2 _ h3=>?_;have h2:=hs2.le _ _ h2;have hs12:=hs1.trans hs2;have hs':=hs.le hs12.le;refine Z3 (h:=?_);refine z7 (qf L (qh Z h2) Z Z Z Z) Z (Zav (h:=?_));refine zy (y7 L 900 (GRd rb sv (j9 bs lim R).2) (.int .i64 (j9 bs lim R).1) (r:=GRd rb sv R) Z Z Z Z Z (fun u H C2 hH hle hr2 hC2=>Pe (gf:=zcc bs lim) (fst:=[]) (cap:=[xz b2,xz b3]) Z hH hr2 hC2 (fun _ u3 H3 C3 hH3 hle3 hr3 hC3=>zae hlim hb hl hat hH3 ((hs'.le hle).le hle3) ((hle.trans hle3) _ _ h2) ((hle.trans hle3) _ _ h3) hr3 hC3))) (Zc (h:=?_));exact xv L 900 (r:=yz rb _ ui) (rs:=[.tmp 4]) Z (fun _ _ h=>h) hs12 Z Z (fun _=>rfl)
def E8(bs:List Nat)(R:Rd):Nat×Int:=if R.err=0/\R.at_<bs.length then (R.at_,5) else (R.bad,R.err)
def at_ret(hB:zpg B w)(hr:(GRd rb sv R).P B w C)(hC:ZCB C w B):RetX zph 205 [xz rb] w B C (GRd rb sv R) (.int .i64 R.at_):=by
 unfold RetX;refine yr 900 (GRd rb sv R) Tryz.func205 Z Tryz.ntmps205 (np Z) hB hr hC ?_;rw[xa];refine(ZaN∘Zeu∘Zn∘Zp∘ZH∘Zc) ?_;exact xv L 900 (r:=yz rb _ ui) (rs:=[.tmp 2]) Z (fun _ _ h=>h) nq Z Z (fun _=>rfl)
def s9(hl:bs.length<=1099511627776)(hat:R.at_<=bs.length)(hB:zpg B w)(hs:BsV bs fu sv B)(hr:(GRd rb sv R).P B w C)(hC:ZCB C w B):RetX zph 66 [xz rb] w B C (GRd rb sv R) (.int .i64 (bs.length-R.at_:Nat)):=by
 obtain⟨p,c,rfl⟩:=ky hs;unfold RetX;refine yr 900 (GRd rb _ R) Tryz.func66 Z Tryz.ntmps66 (np Z) hB hr hC ?_;rw[xa];obtain⟨at_,bad,err⟩:=R;dsimp only[rdC] at hat |-;have hw:IntKind.i64.wrap ((bs.length:Int)-(at_:Int))=((bs.length-at_:Nat):Int):=(yy T T).trans T;refine(ZaN∘Zeu∘Zn) ?_;refine qg (id:=3) [(200008,[900]),(200013,[900])] mixed J ((ZaY∘Zdd∘ZaY∘Zc9∘ZaP) ?_);exact xv L 900 (r:=yz rb _ ui) (rs:=[.tmp 2]) Z (fun _ _ h=>h) nq Z Z (fun _=>rfl)
def fault_ret(hB:zpg B w)(hr:(GRd rb sv R).P B w C)(hC:ZCB C w B):RetX zph 67 [xz rb] w B C (GRd rb sv R) (.tuple #[.int .i64 R.bad,.int .i64 R.err]):=by
 unfold RetX;refine yr 900 (GRd rb sv R) Tryz.func67 Z Tryz.ntmps67 (np Z) hB hr hC ?_;rw[xa];refine(ZbH∘ZaK∘Zeu∘Zn) ?_;refine qg (id:=3) [(200009,[900]),(200013,[900])] mixed J ((ZaY∘ZaY∘Zbd∘ZaP) ?_);exact xv L 900 (r:=yz rb _ ui) (rs:=[.tmp 2,.tmp 3]) Z (fun _ _ h=>h) nq Z Z (fun _=>rfl)
def U1(hl:bs.length<=1099511627776)(hat:R.at_<=bs.length)(hB:zpg B w)(hs:BsV bs fu sv B)(hr:(GRd rb sv R).P B w C)(hC:ZCB C w B):RetX zph 20 [xz rb] w B C (GRd rb sv R) (.tuple #[.int .i64 (E8 bs R).1,.int .i64 (E8 bs R).2]):=by
 unfold RetX;refine yr 900 (GRd rb sv R) Tryz.func20 Z Tryz.ntmps20 (np Z) hB hr hC ?_;rw[xa];obtain⟨at_,bad,err⟩:=R;unfold E8;dsimp only[rdC] at hat |-;by_cases h0:err=0
 ·subst h0;by_cases h1:at_<bs.length
  ·rw[na ⟨rfl,h1⟩];refine(ZbH∘ZaK) ?_;refine zy (y7 L 900 (GRd rb sv ⟨at_,bad,0⟩) (.bool false) (r:=GRd rb sv ⟨at_,bad,0⟩) Z Z Z Z Z (fun u H C2 hH _ hr2 hC2=>xy (ng fun h=>h Z) hH hr2 hC2)) ((Zt∘Zb) ?_);refine zy (y7 L 900 (GRd rb sv ⟨at_,bad,0⟩) (.int .i64 (bs.length-at_:Nat)) (r:=GRd rb sv ⟨at_,bad,0⟩) Z Z Z Z Z (fun u H C2 hH hle hr2 hC2=>s9 hl hat hH (hs.le hle) hr2 hC2)) ((ZO∘ZbS∘Zo∘ZH∘ZM) ?_);exact xv L 900 (r:=yz rb _ ui) (rs:=[.tmp 2,.tmp 3]) Z (fun _ _ h=>h) nq Z Z (fun _=>rfl)
  ·rw[nc (fun h=>h1 h.2)];refine(ZbH∘ZaK) ?_;refine zy (y7 L 900 (GRd rb sv ⟨at_,bad,0⟩) (.bool false) (r:=GRd rb sv ⟨at_,bad,0⟩) Z Z Z Z Z (fun u H C2 hH _ hr2 hC2=>xy (ng fun h=>h Z) hH hr2 hC2)) ((Zt∘Zb) ?_);refine zy (y7 L 900 (GRd rb sv ⟨at_,bad,0⟩) (.int .i64 (bs.length-at_:Nat)) (r:=GRd rb sv ⟨at_,bad,0⟩) Z Z Z Z Z (fun u H C2 hH hle hr2 hC2=>s9 hl hat hH (hs.le hle) hr2 hC2)) ((ZJ∘ZbV∘Zp) ?_);refine zy (y7 L 900 (GRd rb sv ⟨at_,bad,0⟩) (.tuple #[.int .i64 bad,.int .i64 0]) (r:=GRd rb sv ⟨at_,bad,0⟩) Z Z Z Z Z (fun u H C2 hH hle hr2 hC2=>fault_ret hH hr2 hC2)) ((Zcu∘ZM) ?_);exact xv L 900 (r:=yz rb _ ui) (rs:=[.tmp 2,.tmp 3]) Z (fun _ _ h=>h) nq Z Z (fun _=>rfl)
 ·rw[nc (fun h=>h0 h.1)];refine(ZbH∘ZaK) ?_;refine zy (y7 L 900 (GRd rb sv ⟨at_,bad,err⟩) (.bool true) (r:=GRd rb sv ⟨at_,bad,err⟩) Z Z Z Z Z (fun u H C2 hH _ hr2 hC2=>xy (nf h0) hH hr2 hC2)) ((Zt∘ZbT∘Zn∘Zp) ?_);refine zy (y7 L 900 (GRd rb sv ⟨at_,bad,err⟩) (.tuple #[.int .i64 bad,.int .i64 err]) (r:=GRd rb sv ⟨at_,bad,err⟩) Z Z Z Z Z (fun u H C2 hH hle hr2 hC2=>fault_ret hH hr2 hC2)) ((Zcu∘ZM) ?_);exact xv L 900 (r:=yz rb _ ui) (rs:=[.tmp 2,.tmp 3]) Z (fun _ _ h=>h) nq Z Z (fun _=>rfl)
end Go.V.L4
end
namespace Go.V.L4
def _root_.Zew(t:Wr Y->A:=by intro h;refine z7 (Ca L Z Z Z Z Z) Z ?_;exact h.1)(h:Y):A:=t ⟨h⟩
def _root_.ZaZ(t:Wr Y->A:=by exact fun h=>(Z3∘Za) h.1)(h:Y):A:=t ⟨h⟩
def Ov(bs:List Nat):(bs.map fun b:Nat=>Value.int .u8 (b:Int)).all vj=true:=by
 rw[zlj];intro v hv;obtain⟨b,_,rfl⟩:=m8.1 hv;rfl
abbrev zk9(bs:List Nat)(R:Rd)(rb:Nat):GR:=GEx (X:=Value) (fun sv=>GRd rb sv R) (fun sv H=>BsV bs false sv H) (fun _ _ _ h hle=>h.le hle)
attribute [local irreducible] V N X VO Par StepOK Has Ret RetL RetO RetT ki RetX RetY Src
def Dh(hz:bs.length<=1099511627776)(hB:zpg B w)(hv:BsV bs fu v B):
  RetO zph 49 [v] w B (SlR Xe 1 bs.length (bs.map fun b:Nat=>Value.int .u8 (b:Int))):=by
 have hv0:=hv;have hlen:(bs.map fun b:Nat=>Value.int .u8 (b:Int)).length=bs.length*1:=by rw[mt,zmh]
 have hpl:=Ov bs;obtain⟨p,c,rfl⟩:=ky hv;rcases p with _ | b
 ·obtain⟨h0,rfl⟩:bs.length=0/\c=0:=s5 hv;have hn:bs=[]:=mz h0;subst hn;refine j7 Tryz.func49 Z Tryz.ntmps49 (np Z) hB (ZaN (h:=?_));refine z7 (vk Z Z Z Z zj6 Z) Z ((Zu∘Zx∘Zc) ?_);exact gh 2 Xe 1 rfl (lm Z (fun _ _ h=>h) nq Z)
 ·refine j7 Tryz.func49 Z Tryz.ntmps49 (np Z) hB (ZaN (h:=?_));refine z7 (vk Z Z Z Z zj6 Z) Z (Zn (h:=?_));refine k8 0 (BsV bs fu) Z nw hv0 ((ZI∘Zew∘Zk) ?_);refine zy (wn L Z Z Z (V2 Z) Z el5 M M T T) (zy (yo (.inr Z) Z) (Zs (h:=?_)));rw[zlb,mh];exact lm Z (fun _ _ h=>h) nq Z
def zgx(hz:bs.length<=1099511627776)(hB:zpg B w)(hv:BsV bs fu v B):
  RetO zph 13 [v] w B (Fp xz (zk9 bs ⟨0,0,0⟩)):=by
 obtain⟨p,c,rfl⟩:=ky hv;refine j7 Tryz.func13 Z Tryz.ntmps13 (np Z) hB ((ZB∘Zd) ?_);refine ZaZ (h:=?_);refine z7 (wt L rfl rfl (zn rfl) rfl rfl rfl (fun u H hH hle _=>Dh hz hH (hv.le hle))) rfl (oz 4 rfl ?_);refine w6 4 rfl fun sv H1 hs1 hsv=>?_;obtain⟨p1,c1,rfl⟩:=ky hsv;refine z7 (yt (cs:=[_,_,_,_]) rfl rfl zi8 rfl rfl) rfl (Zd4 (h:=?_));refine zy (yo (.inr rfl) rfl) (Zs (h:=?_));refine kz 2 900 rfl fun rb=>?_;exact Mo L 900 (r0:=GRd rb _ ⟨0,0,0⟩) (v:=xz rb) (rs:=[.tmp 2]) Z (fun _ _ h=>h) hs1 Z (fun _=>rfl) (fun H u C hle _ hr=>⟨rb,rfl,_,hsv.le hle,hr⟩)
end Go.V.L4
namespace Go.V.L4
def _root_.ZR(t:Wr Y->A:=by intro h;refine z7 (yj Z Z Z) Z ?_;exact h.1)(h:Y):A:=t ⟨h⟩
def _root_.ZcO(t:Wr Y->A:=by intro h;refine z7 (zb7 Z Z Z Z T M) Z ?_;exact h.1)(h:Y):A:=t ⟨h⟩
def _root_.Zdk(t:Wr Y->A:=by intro h;refine z7 (Yw L Z Z Z Z Z Z Z) Z ?_;exact h.1)(h:Y):A:=t ⟨h⟩
def _root_.Zbp(t:Wr Y->A:=by exact fun h=>(ZN∘ZP) h.1)(h:Y):A:=t ⟨h⟩
def um(n:Nat):List Nat:=if n<128 then [n] else (n%128+128)::um (n/128)
termination_by n
decreasing_by omega
def bo(h:n<128):um n=[n]:=by unfold um;rw[if_pos h]
def El(h:¬ n<128):um n=(n%128+128)::um (n/128):=by rw[um,nc h]
abbrev zfy:TypeId:=46
abbrev byV(bs:List Nat):List Value:=bs.map fun b:Nat=>Value.int .u8 (b:Int)
def GSl(sv:Value)(bs:List Nat):GR:=⟨fun H u C=>(SlR Xe 1 bs.length (byV bs)).P sv H u C,(SlR Xe 1 bs.length (byV bs)).st⟩
def Ey(sv:Value)(bs:List Nat):(GSl sv bs).res=AtV sv (SlR Xe 1 bs.length (byV bs)):=rfl
abbrev GWv(wb:Nat)(bs:List Nat)(sv:Value):GR:=uw (yz wb [sv] zfy) (GSl sv bs)
def Mq(v:Value):Prop:=∃ p k c,v=.slice p k c
def li:a7 fun(sv:Value) (_:Heap)=>Mq sv:=fun _ _ _ h _=>h
abbrev GWr(wb:Nat)(bs:List Nat):GR:=GEx (X:=Value) (GWv wb bs) (fun sv _=>Mq sv) li
def Nc{s:Nat}:∀ v H u C,(SlR e s n xs).P v H u C->Mq v:=fun v H u C ⟨_,h⟩=>by
 rcases h with ⟨_,rfl,_⟩ | ⟨b,c,r,rfl,_⟩<;>exact⟨_,_,_,rfl⟩
def Ou(acc:List Nat)(m:Nat):byV acc++[Value.int .u8 (m:Int)]=byV (acc++[m]):=by unfold byV;rw[List.map_append];rfl
def ix:∀ (k n:Nat),n<128^(k+1)->(um n).length<=k+1
 | 0,n,h=>by rw[bo T];exact ns _
 | k+1,n,h=>by
  by_cases h2:n<128
  ·rw[bo h2];exact Nat.le_add_left _ _
  ·rw[El h2,ny];have:=ix k (n/128) (by rw[Nat.pow_succ] at h;exact Nat.div_lt_of_lt_mul (by rw[zn7];exact h));omega
def zbm(h:n<18446744073709551616):bits .and .u64 (n:Int) 127=((n%128:Nat):Int):=by
 have h2:=bits_and_u64_nat n 127 h E;rw[show n &&& 127=n%128 from Nat.and_two_pow_sub_one_eq_mod n 7] at h2;exact h2
def zdz(n:Nat):bits .or .u64 ((n%128:Nat):Int) 128=((n%128+128:Nat):Int):=by
 have h2:=bits_or_u64_nat (n%128) 128 T E;have h3:=zb5 (a:=n%128) (b:=1) (i:=7) T;rw[show 1*2^7=128 from rfl] at h3;rw[h3] at h2;exact h2
def GNo:GR:=⟨fun _ _ C=>∀ k,¬ C k,fun h _ _ _ _=>h⟩
def Qy{f:FuncId}(h:RetL P f args w B C (fun v H _=>φ v H)):RetY P f args w B C GNo φ:=RetL.mono h fun _ _ _ _ hp=>⟨hp,fun _=>False,fun _ h=>h,fun _ h=>h.elim⟩
attribute [local irreducible] V N X VO Par StepOK Has Ret RetL RetO RetT ki RetX RetY Src
def uh{wb:Nat}(hn:n<18446744073709551616)(hz:bs.length+10<=1099511627776)(hB:zpg B w)(hr:(GWr wb bs).P B w C)(hC:ZCB C w B):
  ki zph 9 [xz wb,.int .u64 n] w B C (GWr wb (bs++um n)):=by
 unfold ki;refine yr 900 (GWr wb bs) Tryz.func9 Z Tryz.ntmps9 (np Z) hB hr hC ?_;refine vm (X:=Value) 900 (r:=fun sv=>(GWv wb bs sv).res) (φ:=fun sv _=>Mq sv) (hφ:=li) Z fun sv H0 hs0 hsp=>?_;refine vz (r1:=xk wb [sv] zfy) (r2:=(GSl sv bs).res) 900 901 rfl (xe _) ?_;rw[Ey];refine(Zf∘ZB∘Za) ?_;refine z7 (vk Z Z Z Z zd9 Z) Z ((Zn∘Zak) ?_);refine xm (fun x:Value×Nat×List Nat=>[(0,.is (xz wb)),(1,.is (.int .u64 x.2.1)),(900,.own (xk wb [x.1] zfy)),(901,.own (AtV x.1 (SlR Xe 1 x.2.2.length (byV x.2.2))))]) (fun x=>x.2.1<18446744073709551616/\Mq x.1/\x.2.2.length+(um x.2.1).length=bs.length+(um n).length/\x.2.2++um x.2.1=bs++um n) (fun x=>x.2.1) (sv,n,bs) ⟨hn,hsp,rfl,rfl⟩ ⟨Z,Z,Z,Z,nm⟩ ?_;rintro⟨s1,m,acc⟩ ⟨hm,hp1,hl,he⟩;dsimp only at hm hp1 hl he |-;have hlen:(byV acc).length=acc.length*1:=by rw[mt,zmh]
 have hpl:=Ov acc;have h128:(128:Nat)^10=1180591620717411303424:=E;have hnl:=ix 9 n T;have haz:acc.length<=1099511627776:=T;by_cases h:m<128
 ·rw[bo h] at he;have hcv:IntKind.u8.wrap (m:Int)=(m:Int):=Dp T T;refine(Ze∘ZaZ∘Za6∘ZZ∘Zax∘Zc6∘ZS∘ZaX) ?_;refine g0 27 901 rfl rfl (Za (h:=?_));refine z7 (kg rfl rfl rfl Of.1 Of.2 (Dp T T)) rfl (Zae (h:=?_));refine zy (wn L rfl rfl rfl (az rfl) rfl el5 rfl rfl T T) ?_;refine dc 31 901 Mq rfl Nc fun s2 hp2=>?_;obtain⟨p2,k2,c2,rfl⟩:=hp2;refine ZY (h:=?_);refine xh (ye L (q:=900) (cs':=[.slice p2 k2 c2]) rfl rfl rfl rfl rfl) (ZN (h:=?_));have e1:byV acc++E4 [(0,Value.int .u8 (m:Int))]=byV (bs++um n):=by rw[<-he];exact Ou acc m
  have e2:acc.length+1=(bs++um n).length:=by rw[<-he,nr];rfl
  rw[e1,e2];refine ig 900 901 rfl Z (Fg _ _) ?_;exact ei (X:=Value) 900 (r:=fun sv=>(GWv wb (bs++um n) sv).res) (φ:=fun sv _=>Mq sv) li (.slice p2 k2 c2) ⟨_,_,_,rfl⟩ Z (xo L 900 (r:=GWr wb (bs++um n)) Z (fun _ _ h=>h) hs0 Z Z)
 ·rw[El h] at he hl;have hand:=zbm hm;have hor:=zdz m;have hcv:IntKind.u8.wrap ((m%128+128:Nat):Int)=((m%128+128:Nat):Int):=Dp T T
  have hsr:(m:Int).fdiv (2^min (7:Int).toNat IntKind.u64.bits)=((m/128:Nat):Int):=by
   show(m:Int).fdiv 128=_;rw[zn9 _ E];omega
  refine(Ze∘ZaZ∘ZbK∘Zal∘Zak∘ZI∘ZaX) ?_;refine g0 14 901 rfl rfl ((Za∘ZdV∘ZdW) ?_);refine z7 (kg rfl rfl rfl Of.1 Of.2 (Dp T T)) rfl (Zae (h:=?_));refine zy (wn L rfl rfl rfl (az rfl) rfl el5 rfl rfl T T) ?_;refine dc 20 901 Mq rfl Nc fun s2 hp2=>?_;obtain⟨p2,k2,c2,rfl⟩:=hp2;refine ZY (h:=?_);refine xh (ye L (q:=900) (cs':=[.slice p2 k2 c2]) rfl rfl rfl rfl rfl) ((Zbp∘Zo∘ZcO∘ZbI) ?_);have e1:byV acc++E4 [(0,Value.int .u8 ((m%128+128:Nat):Int))]=byV (acc++[m%128+128]):=Ou _ _;have e2:acc.length+1=(acc++[m%128+128]).length:=by rw[nr];rfl
  rw[e1,e2];exact yn (x:=(s1,m,acc)) (.slice p2 k2 c2,m/128,acc++[m%128+128]) ⟨by dsimp only;omega,⟨_,_,_,rfl⟩,by dsimp only;rw[List.length_append];rw[List.length_cons] at hl;simp only[List.length_cons,List.length_nil];omega,by dsimp only;rw[List.append_assoc];exact he⟩ G ⟨Z,Z,Z,Z,trivial⟩
def Vl(hB:zpg B w)(hv:BsV bs fu v B):Ret zph 53 [v] w B (BsV bs true):=by
 refine yh Tryz.func53 Z Tryz.ntmps53 (np Z) hB (k8 0 (BsV bs fu) Z nw hv ((Z0∘Zk∘Zh∘Zh∘Zdk∘ZR∘Zs) ?_));refine yg1 L [.tmp 2] fun u H hH hle=>?_;exact fun v hv=>hv
def O8{wb:Nat}(hz:bs.length<=1099511627776)(hB:zpg B w)(hr:(GWr wb bs).P B w C)(hC:ZCB C w B):
  RetL zph 15 [xz wb] w B C (fun v H _=>BsV bs true v H):=by
 refine yr 900 (GWr wb bs) Tryz.func15 Z Tryz.ntmps15 (np Z) hB hr hC ?_;refine vm (X:=Value) 900 (r:=fun sv=>(GWv wb bs sv).res) (φ:=fun sv _=>Mq sv) (hφ:=li) Z fun sv H0 hs0 hsp=>?_;refine vz (r1:=xk wb [sv] zfy) (r2:=(GSl sv bs).res) 900 901 rfl (xe _) ?_;rw[Ey];obtain⟨p,k,c,rfl⟩:=hsp;refine ZaN (h:=?_);refine z7 (vk Z Z Z Z zd9 Z) Z ((Zn∘Zp∘ZH) ?_);refine g0 8 901 rfl Z (oz 8 rfl (z7 (wt L Z Z (zn Z) Z Z Z (fun u H hH hle _ v1 h1=>Dh hz hH h1)) Z (oz 9 rfl (z7 (xg (φ:=BsV bs true) L Z Z (zn Z) Z Z Z nw (fun u H hH hle _ v1 h1=>Vl hH h1)) Z ((ZR∘Zs) ?_)))));exact yg L (rs:=[.tmp 2]) Z (fun _ _ h=>h) hs0 (fun _ H _ _ v hv=>hv)
end Go.V.L4
namespace Go.V
section
variable             {src dst:TypeId}  
def ip{vs:Array Value}(h:u.heap[b]?=some (.cells vs t' fr)):u.shape? b=some (t',vs.size):=by simp [World.shape?,h]
def Ll(hx:evK κ x=some (.pointer (some ⟨b,0,none⟩)))(hq:κ q=some (.own (xk b cs t')))(hn:Nat.blt d n=true)(hg:gK ops κ ⟨some d,.convert src dst x,ty,pos,aft,g⟩=some true)(hs:P.underlying src=some (.pointer t))(hd:P.underlying dst=some .unsafePointer)(hj:(P.info? t).map (fun j=>decide (j.size≠0))=some true)(hc:Nat.ble 1 cs.length=true):
  StepOKR P F B n ops O κ ⟨some d,.convert src dst x,ty,pos,aft,g⟩ q d (.is (.pointer (some ⟨b,0,none⟩))):=by
 obtain⟨j,ht,hj⟩:∃ j,P.info? t=some j/\j.size≠0:=by
  cases h:P.info? t with
  | none=>rw[h] at hj;cases hj
  | some j=>rw[h] at hj;exact⟨j,rfl,by simpa using hj⟩
 rintro κ' a u hlk hqk ⟨H,fp,hh⟩;unfold After;rw[na (xf hh hlk hg)];have e:=hh.env hlk;have h1:=e.is_ x _ (by simp [Op.operands]) hx;obtain⟨⟨h2,hC⟩,hM⟩:=hh.slot q _ (hqk.trans hq);have hr:=Lib.run_to_unsafe (P:=P) u (src:=src) (dst:=dst) ⟨b,0,none⟩ hs hd ht hj (ip h2) (by have:=np hc;simp only[zn1];omega)
 have hrun:(execOp a.eval ⟨some d,.convert src dst x,ty,pos,aft,g⟩).run P u=.ok (.value (.pointer (some ⟨b,0,none⟩))) u:=by
  simp only[execOp,h1,nu,me,hr,ma]
 rw[hrun];simp only[Upon];exact⟨H,fp,hh.put (k:=.is _) (zn hn) trivial Z⟩
def Ej(hx:evK κ x=some (.pointer (some ⟨b,0,none⟩)))(hq:κ q=some (.own (xk b cs t')))(hn:Nat.blt d n=true)(hg:gK ops κ ⟨some d,.convert src dst x,ty,pos,aft,g⟩=some true)(hs:P.underlying src=some .unsafePointer)(hd:P.underlying dst=some (.pointer t))(ht:(P.info? t).isSome=true)(hm:cs.length=m)(hl:liesAt P P.depth t' (m/P.cellsOf t') 0 t 1=true):
  StepOKR P F B n ops O κ ⟨some d,.convert src dst x,ty,pos,aft,g⟩ q d (.is (.pointer (some ⟨b,0,none⟩))):=by
 obtain⟨j,ht⟩:=zmc.1 ht;rintro κ' a u hlk hqk ⟨H,fp,hh⟩;subst hm;unfold After;rw[na (xf hh hlk hg)];have e:=hh.env hlk;have h1:=e.is_ x _ (by simp [Op.operands]) hx;obtain⟨⟨h2,hC⟩,hM⟩:=hh.slot q _ (hqk.trans hq);have hr:=Lib.run_from_unsafe (P:=P) u (src:=src) (dst:=dst) ⟨b,0,none⟩ hs hd ht (ip h2) (by simpa using hl)
 have hrun:(execOp a.eval ⟨some d,.convert src dst x,ty,pos,aft,g⟩).run P u=.ok (.value (.pointer (some ⟨b,0,none⟩))) u:=by
  simp only[execOp,h1,nu,me,hr,ma]
 rw[hrun];simp only[Upon];exact⟨H,fp,hh.put (k:=.is _) (zn hn) trivial Z⟩
def P4{te:TypeId}{a0:Addr}(hn:Nat.blt d n=true)(hg:gK ops κ ⟨some d,.binOp .neq t x y t',ty,pos,aft,g⟩=some true)(hx:evK κ x=some (.pointer (some a0)))(hy:evK κ y=some (.pointer (some a0)))(hp:P.underlying t=some (.pointer te))(hte:(P.info? te).isSome=true):
  StepOK P F B n ops O κ ⟨some d,.binOp .neq t x y t',ty,pos,aft,g⟩ d (.is (.bool false)):=by
 obtain⟨j,hte⟩:=zmc.1 hte;exact w7 hn hg hx hy fun u=>Lib.run_neq_ptr_same u a0 hp hte
def Lt{fo:Operand}{r:Value}(hn:Nat.blt d n=true)(hg:gK ops κ ⟨some d,.call { callee:=.value fo,args:=#[x],argTypes:=at_ },ty,pos,aft,g⟩=some true)(hfo:evK κ fo=some (.func (.func f) #[] #[]))(hx:evK κ x=some v)(hext:∀ u,(callFunc f #[v]).run P u=.ok (.value r) u):
  StepOK P F B n ops O κ ⟨some d,.call { callee:=.value fo,args:=#[x],argTypes:=at_ },ty,pos,aft,g⟩ d (.is r):=by
 rintro κ' a u hlk ⟨H,fp,hh⟩;unfold After;rw[na (xf hh hlk hg)];have e:=hh.env hlk;have h1:a.eval x=v:=e.is_ x _ (by simp [Op.operands,Call.operands]) hx;have h2:a.eval fo=.func (.func f) #[] #[]:=e.is_ fo _ (by simp [Op.operands,Call.operands]) hfo
 have hrun:(execOp a.eval ⟨some d,.call { callee:=.value fo,args:=#[x],argTypes:=at_ },ty,pos,aft,g⟩).run P u=.ok (.value r) u:=by
  simp only[execOp,resolve,h2,Deferred.ofValue,nu,me,ma,invoke];simp [h1,hext]
 rw[hrun];simp only[Upon];exact⟨H,fp,hh.put (k:=.is r) (zn hn) trivial Z⟩
end
end Go.V
namespace Go.V
def zbk(u:World){t ty2 e:TypeId}{aty:TypeId}{i:TypeInfo}{z:Value}(ht:P.underlying t=some (.slice e))(hu:P.underlying ty2=some .string)(hi:P.info? e=some i)(hz:i.zero=some z)(hs1:i.size=1)(hs2:i.bytes=1)(hs3:z.cells.size=1)
  {x:Value}    {nn:Nat}  (hsub:zpg H u) (hown:(SlR e 1 nn xs).P x H u C) (hlt:ZCB C u H) (h63:nn+str.size<=9223372036854775807) (hb:nn+str.size<=140737488355328):
  ∃ x' u' C',(Builtin.append_ #[t,ty2] aty #[x,.string str]).run P u=.ok x' u'/\(SlR e 1 (nn+str.size) (xs++Lib.strCells str)).P x' H u' C'/\Grow C u H u' H/\∀ k,C' k->(C k\/u.heap.size<=k)/\k<u'.heap.size/\H k=none:=by
 have hl:=Lib.strCells_length str;generalize hnews:Lib.strCells str=news at hl |-;obtain⟨m,hm0⟩:∃ m,str.size=m:=⟨_,rfl⟩
 have hmx:nn+m<=maxLen:=by simp only[maxLen];omega
 obtain⟨hxl,hown⟩:=hown;have hlen:(xs++news).length=(nn+m)*1:=by rw[nr,hxl,hl,hm0];omega
 have hdrew:∀ o:Obj,Grow C u H (u.drew.alloc o) H:=fun o=>⟨⟨rfl,rfl,rfl,by simp,fun k hk _=>jq u.drew _ hk,zl1 _⟩,fun k v hv=>by
  have:=hsub.size hv;show(u.drew.alloc o).heap[k]?=some v;rw[jq u.drew _ this];exact hsub k v hv,mo _,fun _ _ _=>rfl⟩
 have hnew:∀ (o:Obj) (k:Nat),k=u.heap.size->(C k\/u.heap.size<=k)/\k<(u.drew.alloc o).heap.size/\H k=none:=fun o k hk=>by
  subst hk;exact⟨.inr (ns _),by simp,k7 hsub (ns _)⟩
 have grown:∀ (old:Nat),old<nn+m->∀ vs:List Value,vs=xs->
   (SlR e 1 (nn+m) (xs++news)).P (.slice (some ⟨u.heap.size,0,none⟩) (nn+m) (grownCap u (nn+m) old e)) H (u.drew.alloc (.cells (vs.toArray++news.toArray++Builtin.zeroCells z.cells (grownCap u (nn+m) old e-(nn+m))) e)) (fun k=>k=u.heap.size):=by
  rintro old ho vs rfl;have hge:=grownCap_ge u (nn+m) old e;refine⟨hlen,.inr ⟨u.heap.size,_,(Builtin.zeroCells z.cells (grownCap u (nn+m) old e-(nn+m))).toList,rfl,?_,hge,grownCap_le_maxLen u (nn+m) old e hmx,?_,fun _=>Iff.rfl⟩⟩
  ·have h2:(u.drew.alloc (.cells (vs.toArray++news.toArray++Builtin.zeroCells z.cells (grownCap u (nn+m) old e-(nn+m))) e)).heap[u.heap.size]?=some (.cells (vs.toArray++news.toArray++Builtin.zeroCells z.cells (grownCap u (nn+m) old e-(nn+m))) e):=heap_alloc_new u.drew _;rw[h2];congr 2;apply Array.ext';simp
  ·rw[nr,hlen,zlw,size_zeroCells,hs3];omega
 rcases hown with ⟨rfl,rfl,hC⟩ | ⟨b,cap,rest,rfl,hbk,hnc,hcm,hcl,hC⟩
 ·have hx:xs=[]:=mz (by simpa using hxl);subst hx;by_cases h0:m=0
  ·subst h0;have hn:news=[]:=mz T;subst hn;refine⟨.slice none 0 0,u,noL,?_,⟨by simp [hm0],.inl ⟨by omega,rfl,fun _ h=>h⟩⟩,⟨Keep.refl _ _,hsub,mo _,fun _ _ _=>rfl⟩,fun _ h=>h.elim⟩;have hf:=Lib.run_firstCells_string (P:=P) u i.size str;rw[hm0] at hf;simp [Builtin.append_,run_underlying ht,run_underlying hu,sizeOf,typeInfo,hi,Builtin.lenOf,hm0,hf]
  ·have hr:=run_append_nil_string (P:=P) u t ty2 aty e i z ht hu hi hz str T T (by rw[hs2];omega);have hgr:=grown 0 T [] rfl;rw[hm0] at hr |-;simp only[zlb,mh,Array.empty_append] at hgr |-;refine⟨_,_,_,hr,?_,hdrew _,fun k hk=>hnew _ k hk⟩;have e1:str.data.map (fun b=>Value.int .u8 b.toNat)=news.toArray:=by rw[<-hnews];apply Array.ext';simp [Lib.strCells]
   rw[e1];exact hgr
 ·have hbl:=hlt b ((hC b).2 rfl)
  have holds:∀ j v,xs[j]?=some v->u.cell? ((⟨b,0,none⟩:Addr).add j)=some v:=fun j v hj=>by
   rw[w9,zlb,kf hbk]
   have hlt:j<xs.length:=by
    rcases m5 j xs.length with h | h
    ·exact h
    ·rw[zld h] at hj;cases hj
   simp only[zmx];rw[zl2 hlt];exact hj
  rw[hm0];by_cases hroom:nn+m<=cap
  ·have hfit:nn+str.size<=(xs++rest).toArray.size:=by simp only[zn1,hcl];omega
   have hr:=Lib.run_append_room_string (P:=P) u t ty2 aty e i ht hu hi hs1 b nn cap _ hbk str T hfit;rw[hnews,hm0] at hr;refine⟨_,_,C,hr,⟨hlen,.inr ⟨b,cap,rest.drop news.length,rfl,?_,hroom,hcm,?_,hC⟩⟩,ww hsub hbk ((hC b).2 rfl) hbl.2 _,fun k hk=>⟨.inl hk,by rw[setRow_size];exact(hlt k hk).1,(hlt k hk).2⟩⟩
   ·rw[setRow_heap u b _ _ e (0,0) hbk];congr 2;have hx1:xs.length=nn:=T;rw[<-hx1,hl,hm0];simp [zmg,zlf]
   ·have h5:rest.length=cap*1-nn*1:=by rw[<-hcl,nr,hxl];omega
    rw[nr,hlen,m7,h5,hl,hm0];omega
  ·have hr:=Lib.run_append_grow_string (P:=P) u t ty2 aty e i z ht hu hi hz ⟨b,0,none⟩ nn cap xs (by rw[hs1];exact hxl) holds str T T (by rw[hs2];exact growslice_fits T T);rw[hnews,hm0] at hr;exact⟨_,_,_,hr,grown cap T xs Z,hdrew _,fun k hk=>hnew _ k hk⟩
section
def r7(L:Tabs P){ty2:TypeId}{nn:Nat}(hn:Nat.blt d n=true)(hg:gK ops κ ⟨some d,.call ⟨.builtin .append,#[.tmp q,y],#[t,ty2]⟩,ty,pos,aft,g⟩=some true)
  (hq:κ q=some (.own (SlR e 1 nn xs))) (hy:evK κ y=some (.string str)) (ht:L.sl t=some e) (hu:P.underlying ty2=some .string) (he:elI P e=some (1,1)) (hb:nn+str.size<=140737488355328):
  wh P F B n ops O κ ⟨some d,.call ⟨.builtin .append,#[.tmp q,y],#[t,ty2]⟩,ty,pos,aft,g⟩ q fm d (.own (SlR e 1 (nn+str.size) (xs++Lib.strCells str))):=by
 rintro κ' a u hlk hks ⟨H,fp,hh⟩;unfold After;rw[na (xf hh hlk hg)];have en:=hh.env hlk;obtain⟨i,z,hi,hz,hs1,hs2,hs3,hs4⟩:=w8 he;have hk':κ' q=some (.own (SlR e 1 nn xs)):=hks.trans hq;obtain⟨hown,hM⟩:=hh.slot q _ hk';have h1:a.eval y=.string str:=en.is_ y _ (by simp [Op.operands,Call.operands]) hy;obtain⟨x',u',C',hr,hown',hgr,hC'⟩:=zbk u (aty:=ty) (Tabs.sl_spec ht) hu hi hz hs1 hs2 hs3 hh.sub hown (fun k hk=>⟨(hM k hk).1,(hM k hk).2.1⟩) T hb
 have hrun:(execOp a.eval ⟨some d,.call ⟨.builtin .append,#[.tmp q,y],#[t,ty2]⟩,ty,pos,aft,g⟩).run P u=.ok (.value x') u':=by
  simp only[execOp,resolve,invoke,builtin,nu,me,ma,zlv,mp,zlm,h1,hr]
 rw[hrun];simp only[Upon];exact⟨H,_,hh.usePut hk' hgr (by simp [Act.put]) Z (fun t ht=>xn ht) (by rw[xx (by rw[hh.size];exact zn hn)];exact hown') hC'⟩
end
end Go.V
namespace Go.V.Bd
open Go.V.L4
abbrev Rc:TypeId:=204
def zeq(v:Value)(u:World):(callFunc 240 #[v]).run zph u=.ok (.value v) u:=
 (run_callFunc_extern Tryz.func240 J J J (e:=Extern.AbiNoEscape.same) J #[v] u).trans rfl
attribute [local irreducible] V N X VO Par StepOK Has Ret RetL RetO RetT ki RetX RetY Src
def check_ret{bb:Nat}{p:Value}(hpp:p=.pointer none\/p=xz bb)(hB:zpg B w)(hr:(yz bb [p,sv] Rc).P B w C)(hC:ZCB C w B):
  ki zph 189 [xz bb] w B C (yz bb [xz bb,sv] Rc):=by
 unfold ki;refine yr 900 (yz bb [p,sv] Rc) Tryz.func189 Z Tryz.ntmps189 (np Z) hB hr hC ?_;rw[xa];rcases hpp with rfl | rfl
 ·refine(ZB∘Za∘ZH) ?_;refine z7 (vk Z Z Z Z zg1 Z) Z ((ZD∘Z3∘Zb) ?_);refine qz (Ll (q:=900) (t:=Rc) Z Z Z Z J J J Z) (z7 (Lt Z Z Z Z (zeq _)) Z (qz (Ej (q:=900) (t:=Rc) Z Z Z Z J J J Z J) (ZY (h:=?_))));refine xh (ye L (q:=900) (cs':=[xz bb,sv]) Z Z Z Z Z) (ZN (h:=?_));exact xo L 900 (r:=yz bb _ Rc) Z (fun _ _ h=>h) nq Z Z
 ·refine(ZB∘Za∘ZH) ?_;refine z7 (vk Z Z Z Z zg1 Z) Z ((ZZ∘Zf∘Zo∘ZH∘Za) ?_);refine z7 (P4 (te:=Rc) Z Z Z Z J J) Z (Zad (h:=?_));exact xo L 900 (r:=yz bb _ Rc) Z (fun _ _ h=>h) nq Z Z
abbrev GBv(bb:Nat)(bs:List Nat)(x:Value×Value):GR:=uw (yz bb [x.1,x.2] Rc) (GSl x.2 bs)
def zio(bb:Nat)(x:Value×Value):Prop:=(x.1=.pointer none\/x.1=xz bb)/\Mq x.2
def Bw(bb:Nat):a7 fun(x:Value×Value) (_:Heap)=>zio bb x:=fun _ _ _ h _=>h
abbrev GBd(bb:Nat)(bs:List Nat):GR:=GEx (X:=Value×Value) (GBv bb bs) (fun x _=>zio bb x) (Bw bb)
def co(s:ByteArray):List Nat:=s.data.toList.map fun c=>c.toNat
def dw(s:ByteArray):(co s).length=s.size:=by unfold co;rw[List.length_map,Array.length_toList];rfl
def Vw(bs:List Nat)(s:ByteArray):byV bs++Lib.strCells s=byV (bs++co s):=by
 unfold byV co Lib.strCells;rw[zli,znh];rfl
def write_ret{bb:Nat}(hz:bs.length+str.size<=140737488355328)(hB:zpg B w)(hr:(GBd bb bs).P B w C)(hC:ZCB C w B):
  RetX zph 128 [xz bb,.string str] w B C (GBd bb (bs++co str)) (.tuple #[.int .i64 str.size,.nilIface]):=by
 unfold RetX;refine yr 900 (GBd bb bs) Tryz.func128 Z Tryz.ntmps128 (np Z) hB hr hC ?_;refine vm (X:=Value×Value) 900 (r:=fun x=>(GBv bb bs x).res) (φ:=fun x _=>zio bb x) (hφ:=Bw bb) Z fun x H0 hs0 hx=>?_;obtain⟨p,sv⟩:=x;obtain⟨hpp,hsl⟩:=hx;dsimp only at hpp hsl |-;obtain⟨p1,k1,c1,rfl⟩:=hsl;refine vz (r1:=xk bb [p,.slice p1 k1 c1] Rc) (r2:=(GSl (.slice p1 k1 c1) bs).res) 900 901 rfl (xe _) ?_;rw[Ey];refine(ZbH∘Zbv) ?_;refine zy (yq L 900 (yz bb [xz bb,.slice p1 k1 c1] Rc) (r:=yz bb [p,.slice p1 k1 c1] Rc) rfl rfl rfl rfl rfl (fun u H C hH _ hr hC=>check_ret hpp hH hr hC)) ((Zg∘Zx∘ZaX) ?_);refine g0 12 901 rfl rfl (Za (h:=?_));refine zy (r7 L rfl rfl rfl rfl rfl J el5 hz) ?_;refine dc 14 901 Mq rfl Nc fun s2 hp2=>?_;obtain⟨p2,k2,c2,rfl⟩:=hp2;refine ZY (h:=?_);refine xh (ye L (q:=900) (cs':=[xz bb,.slice p2 k2 c2]) rfl rfl rfl rfl rfl) ((Zg∘Zp∘Zc8∘ZM) ?_);have e2:bs.length+str.size=(bs++co str).length:=by rw[nr,dw]
 rw[Vw,e2];refine jt 900 901 rfl Z (Fg _ _) ?_;exact ow (X:=Value×Value) 900 (r:=fun x=>(GBv bb (bs++co str) x).res) (φ:=fun x _=>zio bb x) (Bw bb) (xz bb,.slice p2 k2 c2) ⟨.inr Z,_,_,_,rfl⟩ Z (xv L 900 (r:=GBd bb (bs++co str)) (rs:=[.tmp 4,.tmp 5]) Z (fun _ _ h=>h) hs0 Z Z (fun _=>rfl))
end Go.V.Bd
namespace Go.V
open Go.V.L4
def F8(bs:List Nat):ByteArray:=⟨(bs.map UInt8.ofNat).toArray⟩
section
end
end Go.V
section
open Go.V
attribute [local irreducible] Has N Par Ret RetL Src StepOK V VO X
namespace Go.V.Bd
open Go.V.L4
attribute [local irreducible] RetO RetT ki RetX RetY
end Go.V.Bd
namespace Go.V.L11
open Go.V.L2 Go.V.L4 Go.V.Bd
def _root_.Zb6(t:Wr Y->A:=by intro h;refine z7 (zx L (vs:=[_,_,_,_,_,_]) (y9 Z) Z Z Z Z ⟨_,rfl⟩) Z ?_;exact h.1)(h:Y):A:=t ⟨h⟩
def _root_.Zam(t:Wr Y->A:=by exact fun h=>(ZaL∘Zs) h.1)(h:Y):A:=t ⟨h⟩
def zba(s:ByteArray):∀ b∈co s,b<=255:=fun b hb=>by
 obtain⟨c,_,rfl⟩:=m8.1 hb;have:=c.toNat_lt;omega
attribute [local irreducible] RetO RetT ki RetX RetY
def id_ret{t:U}(hB:zpg B w):Ret zph 69 [uv t] w B (fun v _=>v=uv t):=by
 refine yh Tryz.func69 Z Tryz.ntmps69 (np Z) hB ((Z7∘Z2∘Zg∘Z3∘Zb6∘Zam) ?_);refine yg1 L [.cell 2 57] fun u H hH hle=>?_;exact⟨_,qw Z,rfl,rfl⟩
def none_ret{t:U}(hB:zpg B w):Ret zph 70 [uv t] w B (fun v _=>v=.string ⟨#[]⟩):=by
 refine yh Tryz.func70 Z Tryz.ntmps70 (np Z) hB ((Z7∘Zaf∘Zc) ?_);exact yg2 L [.tmp 2]
end Go.V.L11
namespace Go.V.L2
def uf(h:chk s=0):s.size<=16:=by
 unfold chk at h;split at h
 ·rename_i hc;exact hc.2.1
 ·exact ni h E
def tz_of{t:U}(h:tE t=0):TZ t:=by
 unfold tE at h;split at h
 ·rename_i h1;obtain⟨c1,c2,c3⟩:=Q9 h1;obtain⟨d1,d2,d3⟩:=o3 h;have a1:=uf c1;have a2:=uf c2;have a3:=uf c3;have b1:=uf d1;have b2:=uf d2
  have b3:t.2.2.size<=16:=by
   rcases d3 with d3 | d3
   ·rw[d3];decide
   ·exact uf d3
  unfold TZ;refine⟨⟨?_,?_,?_⟩,?_,?_,?_⟩<;>omega
 ·rename_i h1;exact ni h h1
end Go.V.L2
namespace Go.V.L3
open Go.V.L2
abbrev FT:=gj×gj×Bool
abbrev n3:gj:=((⟨#[]⟩,⟨#[]⟩),⟨#[]⟩)
end Go.V.L3
namespace Go.V.L2
def sortT(l:List U):List U:=u5 kq [] l
def zgt(x y:List U)(a c b:Bool)(t:U):Bool:=(decide (t∈x) && !decide (t∈y) && a) || (decide (t∈x) && decide (t∈y) && c) || (!decide (t∈x) && decide (t∈y) && b)
def Yg(x y:List U)(a c b:Bool):List U:=sortT ((x++y).filter (zgt x y a c b))
def r5(l:List U):(sortT l).length<=l.length:=by
 have:=bi (c:=kq) l [];rw[my,zlb] at this;exact this
def Pr(c:U->U->Int)(o:List U)(t:U)(r:List U):u5 c o (t::r)=u5 c (if t∈o then o else tg c t o) r:=by
 simp only[u5];congr 1;by_cases h:t∈o
 ·rw[na h,na h]
 ·rw[nc h,nc h]
end Go.V.L2
end
namespace Go.V
inductive Tr (K V:Type) where
 | nil
 | node (k:K) (v:V) (l r:Tr K V)
namespace Tr
variable {K V:Type}
def size:Tr K V->Nat
 | nil=>0
 | node _ _ l r=>size l+1+size r
def deep:Tr K V->Nat
 | nil=>0
 | node _ _ l r=>1+max (deep l) (deep r)
def deep_le:∀ t:Tr K V,deep t<=size t
 | nil=>ns _
 | node _ _ l r=>by have:=deep_le l;have:=deep_le r;simp only[deep,size];omega
def bal(k:K)(v:V)(l r:Tr K V):Tr K V:=
 if deep l>deep r+1 then
  match l with
  | nil=>nil
  | node lk lv ll lr=>
   if deep ll>=deep lr then node lk lv ll (node k v lr r)
   else match lr with
    | nil=>nil
    | node mk mv ml mr=>node mk mv (node lk lv ll ml) (node k v mr r)
 else if deep r>deep l+1 then
  match r with
  | nil=>nil
  | node rk rv rl rr=>
   if deep rr>=deep rl then node rk rv (node k v l rl) rr
   else match rl with
    | nil=>nil
    | node mk mv ml mr=>node mk mv (node k v l ml) (node rk rv mr rr)
 else node k v l r
def put(c:K->K->Int)(k:K)(v:V):Tr K V->Tr K V
 | nil=>node k v nil nil
 | node nk nv l r=>if c k nk<0 then bal nk nv (put c k v l) r else if c k nk>0 then bal nk nv l (put c k v r) else node nk v l r
def first:K->V->Tr K V->Tr K V->(K×V)×Tr K V
 | k,v,nil,r=>((k,v),r)
 | k,v,node lk lv ll lr,r=>((first lk lv ll lr).1,bal k v (first lk lv ll lr).2 r)
def drop(c:K->K->Int)(k:K):Tr K V->Tr K V×Bool
 | nil=>(nil,false)
 | node nk nv l r=>if c k nk<0 then (bal nk nv (drop c k l).1 r,(drop c k l).2) else if c k nk>0 then (bal nk nv l (drop c k r).1,(drop c k r).2)
  else match r with
   | nil=>(l,true)
   | node rk rv rl rr=>(bal (first rk rv rl rr).1.1 (first rk rv rl rr).1.2 l (first rk rv rl rr).2,true)
def get(c:K->K->Int)(k:K):Tr K V->Option V
 | nil=>none
 | node nk nv l r=>if c k nk=0 then some nv else if c k nk<0 then get c k l else get c k r
def rank(c:K->K->Int)(k:K):Tr K V->Nat
 | nil=>0
 | node nk _ l r=>if c nk k<0 then size l+1+rank c k r else rank c k l
def at':Tr K V->Nat->Option (K×V)
 | nil,_=>none
 | node k v l r,i=>if i<size l then at' l i else if i>size l then at' r (i-(size l+1)) else some (k,v)
def list:Tr K V->List (K×V)
 | nil=>[]
 | node k v l r=>list l++(k,v)::list r
def prs:Tr K V->Int->Int->Int->List (K×V)
 | nil,_,_,_=>[]
 | node k v l r,a,f,t=>if a+(size (node k v l r):Int)<=f\/a>=t then [] else
   prs l a f t++((if a+(size l:Int)>=f/\a+(size l:Int)<t then [(k,v)] else [])++prs r (a+size l+1) f t)
def get_eq{c:K->K->Int}{k nk:K}{nv:V}{l r:Tr K V}(h:c k nk=0):get c k (node nk nv l r)=some nv:=na h
def get_lt{c:K->K->Int}{k nk:K}{nv:V}{l r:Tr K V}(h:c k nk<0):get c k (node nk nv l r)=get c k l:=(nc T).trans (na h)
def get_gt{c:K->K->Int}{k nk:K}{nv:V}{l r:Tr K V}(h0:¬ c k nk=0)(h:¬ c k nk<0):get c k (node nk nv l r)=get c k r:=(nc h0).trans (nc h)
def rank_lt{c:K->K->Int}{k nk:K}{nv:V}{l r:Tr K V}(h:c nk k<0):rank c k (node nk nv l r)=size l+1+rank c k r:=na h
def rank_ge{c:K->K->Int}{k nk:K}{nv:V}{l r:Tr K V}(h:¬ c nk k<0):rank c k (node nk nv l r)=rank c k l:=nc h
def at_lt{k:K}{v:V}{l r:Tr K V}(h:i<size l):at' (node k v l r) i=at' l i:=na h
def at_gt{k:K}{v:V}{l r:Tr K V}(h:i>size l):at' (node k v l r) i=at' r (i-(size l+1)):=(nc T).trans (na h)
def at_eq{k:K}{v:V}{l r:Tr K V}(h:i=size l):at' (node k v l r) i=some (k,v):=(nc T).trans (nc T)
def size_list:∀ t:Tr K V,(list t).length=size t
 | nil=>rfl
 | node _ _ l r=>by simp only[list,nr,ny,size_list l,size_list r,size];omega
def size_node(k:K)(v:V)(l r:Tr K V):size (node k v l r)=size l+1+size r:=rfl
def deep_node(k:K)(v:V)(l r:Tr K V):deep (node k v l r)=1+max (deep l) (deep r):=rfl
def pg(k:K)(v:V)(l r:Tr K V):list (bal k v l r)=list l++(k,v)::list r:=by
 unfold bal;split
 ·rename_i h
  cases l with
  | nil=>simp [deep] at h
  | node lk lv ll lr=>
   dsimp only;split
   ·simp [list]
   ·rename_i h2
    cases lr with
    | nil=>simp [deep] at h2
    | node mk mv ml mr=>simp [list]
 ·split
  ·rename_i h
   cases r with
   | nil=>simp [deep] at h
   | node rk rv rl rr=>
    dsimp only;split
    ·simp [list]
    ·rename_i h2
     cases rl with
     | nil=>simp [deep] at h2
     | node mk mv ml mr=>simp [list]
  ·simp [list]
def io(k:K)(v:V)(l r:Tr K V):size (bal k v l r)=size l+1+size r:=by
 rw[<-size_list,pg,nr,ny,size_list,size_list];omega
def o9:∀ (k:K) (v:V) (l r:Tr K V),(first k v l r).1::list (first k v l r).2=list l++(k,v)::list r
 | k,v,nil,r=>rfl
 | k,v,node lk lv ll lr,r=>by
  simp only[first,pg,list];rw[<-zll,o9 lk lv ll lr]
def size_first(k:K)(v:V)(l r:Tr K V):size (first k v l r).2=size l+size r:=by
 have:=nh List.length (o9 k v l r);simp only[ny,nr,size_list] at this;omega
def size_put(c:K->K->Int)(k:K)(v:V):∀ t:Tr K V,size (put c k v t)<=size t+1
 | nil=>by simp [put,size]
 | node nk nv l r=>by
  have:=size_put c k v l;have:=size_put c k v r;simp only[put];split
  ·rw[io,size_node];omega
  ·split
   ·rw[io,size_node];omega
   ·rw[size_node,size_node];omega
def size_drop(c:K->K->Int)(k:K):∀ t:Tr K V,size (drop c k t).1<=size t
 | nil=>ns _
 | node nk nv l r=>by
  have:=size_drop c k l;have:=size_drop c k r;simp only[drop];split
  ·rw[io,size_node];omega
  ·split
   ·rw[io,size_node];omega
   ·cases r with
    | nil=>simp only[size];omega
    | node rk rv rl rr=>rw[io,size_first,size_node,size_node];omega
def prs_length_le:∀ (t:Tr K V) (a f e:Int),(prs t a f e).length<=size t
 | nil,_,_,_=>ns _
 | node k v l r,a,f,e=>by
  have:=prs_length_le l a f e;have:=prs_length_le r (a+size l+1) f e;simp only[prs];split
  ·exact mf _
  ·simp only[nr,size_node];split
   ·simp only[ny,my];omega
   ·simp only[my];omega
def TreeAt(nl:K->V->Value->Value->Int->Int->List Value)(ty:TypeId):Tr K V->Value->Heap->Prop
 | nil,v,_=>v=.pointer none
 | node k x l r,v,H=>∃ b lv rv,v=.pointer (some ⟨b,0,none⟩)/\H b=some (.cells (nl k x lv rv (size (node k x l r)) (deep (node k x l r))).toArray ty)/\TreeAt nl ty l lv H/\TreeAt nl ty r rv H
def TreeAt.mono{nl:K->V->Value->Value->Int->Int->List Value}:∀ {t:Tr K V},Kn.mono (.sat (TreeAt nl ty t))
 | nil,_,_,_,h,_=>h
 | node k x l r,_,_,_,⟨b,lv,rv,h1,h2,h3,h4⟩,hle=>⟨b,lv,rv,h1,hle _ _ h2,TreeAt.mono _ _ _ h3 hle,TreeAt.mono _ _ _ h4 hle⟩
def TreeAt.le{nl:K->V->Value->Value->Int->Int->List Value}{t:Tr K V}{H':Heap}(h:TreeAt nl ty t v H)(hle:H.Le H'):TreeAt nl ty t v H':=TreeAt.mono _ _ _ h hle
end Tr
end Go.V
namespace Go.V
structure zcp{K:Type}(c:K->K->Int):Prop where
 anti:∀ a b,c a b<0↔0<c b a
 trans:∀ {a b d},c a b<0->c b d<0->c a d<0
 eql:∀ {a b} (d),c a b=0->(c a d<0↔c b d<0)
namespace zcp
variable {K:Type} {c:K->K->Int}
def refl(h:zcp c)(a:K):c a a=0:=by
 have:=h.anti a a;omega
def symm(h:zcp c){a b:K}(e:c a b=0):c b a=0:=by
 have:=h.anti a b;have:=h.anti b a;omega
end zcp
namespace Tr
variable {K V:Type} (c:K->K->Int)
def Srt(l:List (K×V)):Prop:=l.Pairwise fun x y=>c x.1 y.1<0
def putS(k:K)(v:V):List (K×V)->List (K×V)
 | []=>[(k,v)]
 | y::l=>if c k y.1<0 then (k,v)::y::l else if c k y.1>0 then y::putS k v l else (y.1,v)::l
def dropS(k:K):List (K×V)->List (K×V)
 | []=>[]
 | y::l=>if c k y.1<0 then y::l else if c k y.1>0 then y::dropS k l else l
def getS(k:K):List (K×V)->Option V
 | []=>none
 | y::l=>if c k y.1=0 then some y.2 else getS k l
def rankS(k:K)(l:List (K×V)):Nat:=(l.filter fun y=>c y.1 k<0).length
def cutI(f e:Int):List (K×V)->Int->List (K×V)
 | [],_=>[]
 | y::l,i=>if f<=i/\i<e then y::cutI f e l (i+1) else cutI f e l (i+1)
variable {c} (h:zcp c)
include h
theorem Aq{k:K}{v:V}:∀ {l1 l2:List (K×V)} {y:K×V},(∀ x∈l1,c x.1 y.1<0)->
  putS c k v (l1++y::l2)=if c k y.1<0 then putS c k v l1++y::l2 else if c k y.1>0 then l1++y::putS c k v l2 else l1++(y.1,v)::l2
 | [],l2,y,_=>by simp only[mh,putS];split<;>simp
 | x::l1,l2,y,hl=>by
  have ih:=Aq (k:=k) (v:=v) (l1:=l1) (l2:=l2) (y:=y) fun z hz=>hl z (mc _ hz);have hx:=hl x (mb ..);simp only[zll,putS];by_cases h1:c k x.1<0
  ·have:c k y.1<0:=h.trans h1 hx;rw[na h1,na this,na h1];rfl
  ·rw[nc h1];by_cases h2:c k x.1>0
   ·rw[na h2,ih,nc h1,na h2];split
    ·rfl
    ·split<;>rfl
   ·have h0:c k x.1=0:=T;have:c k y.1<0:=(h.eql _ h0).2 hx;rw[nc h2,na this,nc h1,nc h2];rfl
theorem sc{k:K}:∀ {l1 l2:List (K×V)} {y:K×V},(∀ x∈l1,c x.1 y.1<0)->
  dropS c k (l1++y::l2)=if c k y.1<0 then dropS c k l1++y::l2 else if c k y.1>0 then l1++y::dropS c k l2 else l1++l2
 | [],l2,y,_=>by simp only[mh,dropS]
 | x::l1,l2,y,hl=>by
  have ih:=sc (k:=k) (l1:=l1) (l2:=l2) (y:=y) fun z hz=>hl z (mc _ hz);have hx:=hl x (mb ..);simp only[zll,dropS];by_cases h1:c k x.1<0
  ·have:c k y.1<0:=h.trans h1 hx;rw[na h1,na this,na h1];rfl
  ·rw[nc h1];by_cases h2:c k x.1>0
   ·rw[na h2,ih,nc h1,na h2];split
    ·rfl
    ·split<;>rfl
   ·have h0:c k x.1=0:=T;have:c k y.1<0:=(h.eql _ h0).2 hx;rw[nc h2,na this,nc h1,nc h2]
omit h in
theorem ik{l1 l2:List (K×V)}{y:K×V}(hs:Srt c (l1++y::l2)):Srt c l1/\Srt c l2/\(∀ x∈l1,c x.1 y.1<0)/\(∀ x∈l2,c y.1 x.1<0):=by
 have h1:=zl0.1 hs;have h2:=mg.1 h1.2.1;exact⟨h1.1,h2.2,fun x hx=>h1.2.2 x hx y (mb ..),h2.1⟩
theorem list_put(k:K)(v:V):∀ {t:Tr K V},Srt c (list t)->list (put c k v t)=putS c k v (list t)
 | nil,_=>rfl
 | node nk nv l r,hs=>by
  obtain⟨hl,hr,hx,_⟩:=ik (y:=(nk,nv)) hs;simp only[list,put];rw[Aq h hx];split
  ·rw[pg,list_put k v hl]
  ·split
   ·rw[pg,list_put k v hr]
   ·rfl
theorem list_drop(k:K):∀ {t:Tr K V},Srt c (list t)->list (if (drop c k t).2=true then (drop c k t).1 else t)=dropS c k (list t)/\((drop c k t).2=false->(drop c k t).1=t\/list (drop c k t).1=list t)/\((drop c k t).2=true->list (drop c k t).1=dropS c k (list t))/\((drop c k t).2=false->dropS c k (list t)=list t)
 | nil,_=>⟨rfl,fun _=>.inl rfl,fun h=>(by cases h),fun _=>rfl⟩
 | node nk nv l r,hs=>by
  obtain⟨hl,hr,hx,_⟩:=ik (y:=(nk,nv)) hs;have il:=list_drop k hl;have ir:=list_drop k hr
  have key:((drop c k (node nk nv l r)).2=true->list (drop c k (node nk nv l r)).1=dropS c k (list (node nk nv l r)))/\((drop c k (node nk nv l r)).2=false->dropS c k (list (node nk nv l r))=list (node nk nv l r)/\list (drop c k (node nk nv l r)).1=list (node nk nv l r)):=by
   simp only[list,drop];rw[sc h hx];split
   ·refine⟨fun ht=>?_,fun hf=>?_⟩
    ·dsimp only at ht |-;rw[pg,il.2.2.1 ht]
    ·dsimp only at hf |-;have e:=il.2.2.2 hf;refine⟨by rw[e],?_⟩;rw[pg];rcases il.2.1 hf with e1 | e1<;>rw[e1]
   ·split
    ·refine⟨fun ht=>?_,fun hf=>?_⟩
     ·dsimp only at ht |-;rw[pg,ir.2.2.1 ht]
     ·dsimp only at hf |-;have e:=ir.2.2.2 hf;refine⟨by rw[e],?_⟩;rw[pg];rcases ir.2.1 hf with e1 | e1<;>rw[e1]
    ·cases r with
     | nil=>exact⟨fun _=>by simp [list],fun hf=>by cases hf⟩
     | node rk rv rl rr=>
      refine⟨fun _=>?_,fun hf=>by cases hf⟩;dsimp only;rw[pg];have:=o9 rk rv rl rr;rw[show((first rk rv rl rr).1.1,(first rk rv rl rr).1.2)=(first rk rv rl rr).1 from rfl,this];rfl
  refine⟨?_,fun hf=>.inr (key.2 hf).2,key.1,fun hf=>(key.2 hf).1⟩;split
  ·rename_i ht;exact key.1 ht
  ·rename_i ht;have hf:(drop c k (node nk nv l r)).2=false:=by simpa using ht
   exact(key.2 hf).1.symm
theorem Bl{k:K}:∀ {l1 l2:List (K×V)} {y:K×V},(∀ x∈l1,c x.1 y.1<0)->(∀ x∈l2,c y.1 x.1<0)->
  getS c k (l1++y::l2)=if c k y.1=0 then some y.2 else if c k y.1<0 then getS c k l1 else getS c k l2
 | [],l2,y,_,h2=>by
  simp only[mh,getS];split
  ·rfl
  ·split
   ·rename_i h1
    have:∀ (l:List (K×V)),(∀ x∈l,c y.1 x.1<0)->getS c k l=none:=by
     intro l
     induction l with
     | nil=>intro _;rfl
     | cons z l ih=>
      intro hz;have:=h.trans h1 (hz z (mb ..));simp only[getS];rw[nc T];exact ih fun x hx=>hz x (mc _ hx)
    exact this l2 h2
   ·rfl
 | x::l1,l2,y,hl,h2=>by
  have ih:=Bl (k:=k) (l1:=l1) (l2:=l2) (y:=y) (fun z hz=>hl z (mc _ hz)) h2;have hx:=hl x (mb ..);simp only[zll,getS];by_cases h0:c k x.1=0
  ·have:c k y.1<0:=(h.eql _ h0).2 hx;rw[na h0,nc T,na this,na h0]
  ·rw[nc h0,ih,nc h0]
theorem get_list(k:K):∀ {t:Tr K V},Srt c (list t)->get c k t=getS c k (list t)
 | nil,_=>rfl
 | node nk nv l r,hs=>by
  obtain⟨hl,hr,hx,hy⟩:=ik (y:=(nk,nv)) hs;simp only[list,get];rw[Bl h hx hy,get_list k hl,get_list k hr]
theorem rank_list(k:K):∀ {t:Tr K V},Srt c (list t)->rank c k t=rankS c k (list t)
 | nil,_=>rfl
 | node nk nv l r,hs=>by
  obtain⟨hl,hr,hx,hy⟩:=ik (y:=(nk,nv)) hs;simp only[list,rank,rankS,zni,nr,zm1];split
  ·rename_i h1;have:(list l).filter (fun y=>decide (c y.1 k<0))=list l:=zns.2 fun x hx'=>by simpa using h.trans (hx x hx') h1
   rw[this,size_list,na (by simpa using h1),rank_list k hr];simp only[rankS,ny];omega
  ·rename_i h1
   have:(list r).filter (fun y=>decide (c y.1 k<0))=[]:=znb.2 fun x hx'=>by
    have h2:=hy x hx';simp only[decide_eq_true_eq];intro h3;exact h1 (h.trans h2 h3)
   rw[this,nc (by simpa using h1),rank_list k hl];simp [rankS]
omit h
theorem at_list:∀ (t:Tr K V) (i:Nat),at' t i=(list t)[i]?
 | nil,i=>by simp [at',list]
 | node nk nv l r,i=>by
  simp only[at',list];split
  ·rename_i h1;rw[at_list l,zl2 (by rw[size_list];exact h1)]
  ·rw[zne (by rw[size_list];omega),size_list];split
   ·rename_i h1 h2;rw[at_list r];rw[show i-size l=(i-(size l+1))+1 by omega,zmm]
   ·rename_i h1 h2;rw[show i-size l=0 by omega];rfl
theorem Bp(f e:Int):∀ (l1 l2:List (K×V)) (i:Int),cutI f e (l1++l2) i=cutI f e l1 i++cutI f e l2 (i+l1.length)
 | [],l2,i=>by simp [cutI]
 | y::l1,l2,i=>by
  simp only[zll,cutI,Bp f e l1 l2 (i+1),ny];rw[show i+1+(l1.length:Int)=i+((l1.length+1:Nat):Int) by omega];split<;>rfl
theorem Og(f e:Int):∀ (l:List (K×V)) (i:Int),i+l.length<=f\/i>=e->cutI f e l i=[]
 | [],_,_=>rfl
 | y::l,i,h=>by
  simp only[ny] at h;simp only[cutI];rw[nc T,Og f e l (i+1) T]
theorem prs_list:∀ (t:Tr K V) (a f e:Int),prs t a f e=cutI f e (list t) a
 | nil,_,_,_=>rfl
 | node nk nv l r,a,f,e=>by
  simp only[prs];split
  ·rename_i h1;rw[Og];rw[size_list];exact h1
  ·simp only[list];rw[Bp,prs_list l,prs_list r,size_list];simp only[cutI];split
   ·rename_i h2;rfl
   ·rename_i h2;rfl
def lst:Nat->Nat
 | 0=>0
 | 1=>1
 | n+2=>lst (n+1)+lst n+1
end Tr
end Go.V
namespace Go.V.L6
open Go.V Go.V.L2 Go.V.L3
def Sq{c:α->α->Int}(h:Ord3 c):zcp c:=by
 refine⟨fun a b=>?_,fun {a b d} h1 h2=>?_,fun {a b} d e=>?_⟩
 ·have:=h.anti a b;omega
 ·exact h.tr h1 h2
 ·rw[h.eq _ _ e]
def bq(a b:U):Int:=kq (a.2,a.1) (b.2,b.1)
def gz:Ord3 bq where
 refl a:=cmpT_ord.refl _
 eq a b h:=by
  have:=cmpT_ord.eq _ _ h;exact Prod.ext (nh Prod.snd this) (nh Prod.fst this)
 anti a b:=cmpT_ord.anti _ _
 trans a b d:=cmpT_ord.trans _ _ _
set_option linter.unusedSectionVars false
section keys
variable  [DecidableEq α] {c:α->α->Int}
abbrev kS(L:List (α×Unit)):List α:=L.map (·.1)
def zhf{L:List (α×Unit)}:Tr.Srt c L↔Sst c (kS L):=by unfold Tr.Srt Sst kS;rw[List.pairwise_map]
def zeg(h:Ord3 c){k:α}:∀ {L:List (α×Unit)},k∉kS L->kS (Tr.putS c k () L)=tg c k (kS L)
 | [],_=>rfl
 | y::L,hk=>by
  simp only[kS,mp,nz,not_or] at hk;simp only[Tr.putS];by_cases h1:c k y.1<0
  ·rw[na h1];simp [kS,tg,h1]
  ·have h2:=h.tri h1 hk.1;have h3:=h.anti k y.1;rw[nc h1,na T];have ih:=zeg h (L:=L) hk.2;simp only[kS,mp,tg] at ih |-;rw[nc h1,ih]
def Um(h:Ord3 c){k:α}:∀ {L:List (α×Unit)},Sst c (kS L)->kS (Tr.dropS c k L)=(kS L).filter fun z=>decide (z≠k)
 | [],_=>rfl
 | y::L,hs=>by
  simp only[kS,mp] at hs;obtain⟨hy,hs'⟩:=mg.1 hs;simp only[Tr.dropS]
  have all:∀ {d:α},(c k d<0\/k=d)->(∀ z∈kS L,c d z<0)->(kS L).filter (fun z=>decide (z≠k))=kS L:=fun {d} hd hz=>zns.2 fun z hm=>by
   have h4:=hz z hm;simp only[decide_eq_true_eq];intro e;subst e;rcases hd with hd | hd
   ·exact h.asym hd h4
   ·subst hd;exact h.irr _ h4
  by_cases h1:c k y.1<0
  ·rw[na h1];simp only[kS,mp,zm1];rw[na (by simpa using (h.ne h1).symm)];have:=all (.inl h1) hy;unfold kS at this;rw[this]
  ·rw[nc h1];by_cases h2:c k y.1>0
   ·rw[na h2];have ih:=Um h (k:=k) (L:=L) hs';simp only[kS,mp,zm1] at ih |-;have hne:y.1≠k:=fun e=>by rw[e,h.refl] at h2;omega
    rw[na (by simpa using hne),ih]
   ·rw[nc h2];have e:=h.eq _ _ (show c k y.1=0 by omega);simp only[kS,mp,zm1];rw[nc (by simpa using e.symm)];have:=all (.inr e) hy;unfold kS at this;rw[this]
def zhg(h:Ord3 c){k:α}:∀ {L:List (α×Unit)},(k∈kS L->Tr.getS c k L=some ())/\(k∉kS L->Tr.getS c k L=none)
 | []=>⟨fun h=>(by cases h),fun _=>rfl⟩
 | y::L=>by
  have ih:=zhg h (k:=k) (L:=L);simp only[Tr.getS,kS,mp,nz];by_cases e:k=y.1
  ·subst e;rw[na (h.refl _)];exact⟨fun _=>rfl,fun hn=>ni (.inl rfl) hn⟩
  ·have:¬ c k y.1=0:=fun h0=>e (h.eq _ _ h0);rw[nc this];exact⟨fun hm=>ih.1 (hm.resolve_left e),fun hn=>ih.2 fun hm=>hn (.inr hm)⟩
def zch{p:Prop}[Decidable p]{a b:Int}(ha:0<=a)(hb:0<=b):0<=if p then a else b:=by split<;>assumption
def F0(h:Ord3 c){x:α}:∀ {l:List α},Sst c l->(l.filter fun z=>decide (c z x<0))=l.takeWhile fun z=>decide (c z x<0)
 | [],_=>rfl
 | y::l,hs=>by
  obtain⟨hy,hs'⟩:=mg.1 hs;rw[zm1,zms];by_cases h1:c y x<0
  ·rw[na (by simpa using h1),na (by simpa using h1),F0 h hs']
  ·rw[nc (by simpa using h1),nc (by simpa using h1)]
   exact znb.2 fun z hz=>by
    simp only[decide_eq_true_eq];exact fun h2=>h1 (h.tr (hy z hz) h2)
def zcf(h:Ord3 c){k:α}{L:List (α×Unit)}(hs:Sst c (kS L)):Tr.rankS c k L=cr c k (kS L):=by
 unfold Tr.rankS cr;rw[<-F0 h hs];unfold kS;rw[List.filter_map,mt];rfl
def Es:∀ {l:List α} {x:α},l.Nodup->x∈l->(l.filter fun z=>decide (z≠x)).length+1=l.length
 | [],_,_,h=>by cases h
 | y::l,x,hn,h=>by
  obtain⟨h1,h2⟩:=zm3.1 hn;rw[zm1];by_cases e:y=x
  ·subst e;rw[nc (by simp)]
   have:(l.filter fun z=>decide (z≠y))=l:=zns.2 fun z hz=>by
    simp only[decide_eq_true_eq];exact fun e=>h1 (e ▸ hz)
   rw[this,ny]
  ·rw[na (by simpa using e),ny,ny,Es h2 (by
    rcases nz.1 h with h | h
    ·exact ni h.symm e
    ·exact h)]
def Qx{l:List α}{x:α}(h:x∉l):(l.filter fun z=>decide (z≠x))=l:=zns.2 fun z hz=>by
 simp only[decide_eq_true_eq];exact fun e=>h (e ▸ hz)
def Oh{V:Type}(f e:Nat):∀ (l:List (α×V)) (i:Nat),Tr.cutI (f:Int) (e:Int) l (i:Int)=(l.take (e-i)).drop (f-i)
 | [],i=>by simp [Tr.cutI]
 | y::l,i=>by
  have ih:=Oh f e l (i+1);simp only[Tr.cutI];rw[show((i:Int)+1)=((i+1:Nat):Int) by omega,ih];by_cases h:f<=i/\i<e
  ·rw[na T,show e-i=(e-(i+1))+1 by omega,show f-i=0 by omega,show f-(i+1)=0 by omega];rfl
  ·rw[nc T];by_cases h2:i<e
   ·rw[show e-i=(e-(i+1))+1 by omega,show f-i=(f-(i+1))+1 by omega];rfl
   ·rw[show e-i=0 by omega,show e-(i+1)=0 by omega];simp
def o5(h:Ord3 c){x:α}{p:α->Bool}:∀ {l:List α},Sst c l->(∀ z,c z x<0->p z=false)->(∀ a b,c a b<0->¬ c a x<0->p b=true->p a=true)->(l.drop (cr c x l)).takeWhile p=l.filter p
 | [],_,_,_=>rfl
 | y::l,hs,h1,h2=>by
  obtain⟨hy,hs'⟩:=mg.1 hs;have ih:=o5 h hs' h1 h2;unfold cr at ih |-;rw[zms,zm1];by_cases hyx:c y x<0
  ·rw[na (by simpa using hyx),h1 y hyx,nc E,ny,List.drop_succ_cons];exact ih
  ·rw[nc (by simpa using hyx),my,zl7]
   have key:∀ {m:List α},Sst c m->(∀ z∈m,¬ c z x<0)->m.takeWhile p=m.filter p:=by
    intro m
    induction m with
    | nil=>intro _ _;rfl
    | cons z m ihm=>
     intro hm hz;obtain⟨g1,g2⟩:=mg.1 hm;rw[zms,zm1];cases hp:p z
     ·rw[nc E,nc E]
      exact(znb.2 fun b hb hpb=>by
       have:=h2 z b (g1 b hb) (hz z (mb ..)) hpb;rw[hp] at this;cases this).symm
     ·rw[na rfl,na rfl,ihm g2 fun b hb=>hz b (mc _ hb)]
   have:=key hs fun z hz=>by
    rcases nz.1 hz with rfl | hz
    ·exact hyx
    ·exact fun h3=>hyx (h.tr (hy z hz) h3)
   rw[this,zm1]
end keys
structure TS(l:List U)(t u:Tr U Unit):Prop where
 kt:kS t.list=l
 st:Sst kq l
 su:Sst bq (kS u.list)
 mu:∀ z,z∈kS u.list↔z∈l
 zu:u.size=l.length
def oo:zcp kq:=Sq cmpT_ord
def Bs:zcp bq:=Sq gz
def zf8:TS [] .nil .nil:=⟨rfl,Sst.nil,Sst.nil,fun _=>Iff.rfl,rfl⟩
section ts
variable  {t u:Tr U Unit}
def TS.size(h:TS l t u):t.size=l.length:=by rw[<-Tr.size_list,<-h.kt];simp
def TS.srt(h:TS l t u):Tr.Srt kq t.list:=zhf.2 (h.kt ▸ h.st)
def TS.srtu(h:TS l t u):Tr.Srt bq u.list:=zhf.2 h.su
def TS.bySub(h:TS l t u):kS u.list=u5 bq [] l:=l8 gz h.su (p9 gz Sst.nil) fun z=>by rw[h.mu,dj];simp
def TS.put(h:TS l t u){x:U}(hx:x∉l):TS (tg kq x l) (Tr.put kq x () t) (Tr.put bq x () u):=by
 have hxt:x∉kS t.list:=by rw[h.kt];exact hx
 have hxu:x∉kS u.list:=fun hm=>hx ((h.mu x).1 hm)
 have e1:kS (Tr.put kq x () t).list=tg kq x l:=by
  rw[Tr.list_put oo x () h.srt,zeg cmpT_ord hxt,h.kt]
 have e2:kS (Tr.put bq x () u).list=tg bq x (kS u.list):=by
  rw[Tr.list_put Bs x () h.srtu,zeg gz hxu]
 refine⟨e1,d9 cmpT_ord h.st hx,?_,fun z=>?_,?_⟩
 ·rw[e2];exact d9 gz h.su hxu
 ·rw[e2,u4,u4,h.mu]
 ·have:=nh List.length e2;simp only[kS,mt,wv,Tr.size_list] at this;rw[this,wv,h.zu]
def TS.drop(h:TS l t u){x:U}(hx:x∈l):TS (l.filter fun z=>decide (z≠x)) (if (Tr.drop kq x t).2=true then (Tr.drop kq x t).1 else t) (if (Tr.drop bq x u).2=true then (Tr.drop bq x u).1 else u):=by
 have e1:kS (if (Tr.drop kq x t).2=true then (Tr.drop kq x t).1 else t).list=l.filter fun z=>decide (z≠x):=by
  rw[(Tr.list_drop oo x h.srt).1,Um cmpT_ord (by rw[h.kt];exact h.st),h.kt]
 have e2:kS (if (Tr.drop bq x u).2=true then (Tr.drop bq x u).1 else u).list=(kS u.list).filter fun z=>decide (z≠x):=by
  rw[(Tr.list_drop Bs x h.srtu).1,Um gz h.su]
 refine⟨e1,h.st.sublist znt,?_,fun z=>?_,?_⟩
 ·rw[e2];exact h.su.sublist znt
 ·rw[e2,zlr,zlr,h.mu]
 ·have h1:=nh List.length e2;have h2:=Es (h.su.nodup gz) ((h.mu x).2 hx);have h3:=Es (h.st.nodup cmpT_ord) hx;have h4:=h.zu;simp only[kS,mt,Tr.size_list] at h1 h2;omega
def TS.get(h:TS l t u)(x:U):Tr.get kq x t=if x∈l then some () else none:=by
 have hk:=zhg cmpT_ord (k:=x) (L:=t.list);rw[h.kt] at hk;rw[Tr.get_list oo x h.srt];by_cases hx:x∈l
 ·rw[na hx];exact hk.1 hx
 ·rw[nc hx];exact hk.2 hx
def TS.rank(h:TS l t u)(x:U):Tr.rank kq x t=cr kq x l:=by
 rw[Tr.rank_list oo x h.srt,zcf cmpT_ord (by rw[h.kt];exact h.st),h.kt]
def TS.ranku(h:TS l t u)(x:U):Tr.rank bq x u=cr bq x (u5 bq [] l):=by
 rw[Tr.rank_list Bs x h.srtu,zcf gz h.su,h.bySub]
end ts
def Vv(x:ByteArray):0<=Xh x ⟨#[]⟩:=by
 unfold Xh
 cases x.data.toList with
 | nil=>decide
 | cons a r=>exact Int.le_of_lt (show(0:Int)<1 by decide)
def zj8(x:gj):0<=Ki x n3:=by
 unfold Ki Rh;simp only[Yr];exact zch (Vv _) (zch (Vv _) (Vv _))
def cw(l:List U)(g:gj):List U:=l.filter fun z=>decide (z.1=g)
def zfn(l:List U)(s:gj):List U:=l.filter fun z=>decide (z.2=s)
def Yl(hs:Sst kq l)(g:gj):(l.drop (cr kq (g,n3) l)).takeWhile (fun z=>decide (z.1=g))=cw l g:=by
 refine o5 cmpT_ord hs (fun z hz=>?_) fun a b hab hax hb=>?_
 ·refine ng fun e=>?_;rw[Ve (a:=z) (b:=(g,n3)) e] at hz;have:=zj8 z.2;dsimp only at hz;omega
 ·have hb':b.1=g:=by simpa using hb
  refine nf ?_;by_cases e:a.1=g
  ·exact e
  ·rw[Hz (a:=a) (b:=b) (by rw[hb'];exact e),hb'] at hab;rw[Hz (a:=a) (b:=(g,n3)) e] at hax;exact ni hab hax
def zdk(hs:Sst kq l)(s:gj):((u5 bq [] l).drop (cr bq (n3,s) (u5 bq [] l))).takeWhile (fun z=>decide (z.2=s))=zfn l s:=by
 have hS:Sst bq (u5 bq [] l):=p9 gz Sst.nil
 have e:((u5 bq [] l).drop (cr bq (n3,s) (u5 bq [] l))).takeWhile (fun z=>decide (z.2=s))=(u5 bq [] l).filter fun z=>decide (z.2=s):=by
  refine o5 gz hS (fun z hz=>?_) fun a b hab hax hb=>?_
  ·refine ng fun e=>?_;unfold bq at hz;have hz':kq (z.2,z.1) (s,n3)<0:=hz;rw[Ve (a:=(z.2,z.1)) (b:=(s,n3)) e] at hz';have:=zj8 z.1;dsimp only at hz';omega
  ·have hb':b.2=s:=by simpa using hb
   refine nf ?_;by_cases e:a.2=s
   ·exact e
   ·unfold bq at hab hax;rw[Hz (a:=(a.2,a.1)) (b:=(b.2,b.1)) (by dsimp only;rw[hb'];exact e)] at hab;have hax':¬ kq (a.2,a.1) (s,n3)<0:=hax;rw[Hz (a:=(a.2,a.1)) (b:=(s,n3)) e] at hax';dsimp only at hab hax';rw[hb'] at hab;exact ni hab hax'
 rw[e];refine l8 cmpT_ord ?_ (hs.sublist znt) fun z=>?_
 ·refine List.Pairwise.imp_of_mem ?_ (hS.sublist znt);intro a b ha hb hab;have ha':a.2=s:=by simpa using (zlr.1 ha).2
  have hb':b.2=s:=by simpa using (zlr.1 hb).2
  unfold bq at hab;rw[Ve (a:=(a.2,a.1)) (b:=(b.2,b.1)) (ha'.trans hb'.symm)] at hab;have hne:a.1≠b.1:=fun e=>by dsimp only at hab;rw[e,cmp3_ord.refl] at hab;omega
  rw[Hz hne];exact hab
 ·rw[zlr];unfold zfn;rw[zlr,dj];simp
def Bj(l:List U):List gj:=dd (l.map (·.1))
def wq(l:List U)(x:U)(d:Bool):List U×Int:=
 if tE x=0 then (if d=true then (l.filter fun z=>decide (z≠x),0) else if x∈l then (l,0) else if l.length>=4096 then ([],3) else (tg kq x l,0)) else ([],tE x)
def Rj(hs:Sst kq l)(x:U)(d:Bool):Sst kq (wq l x d).1:=by
 unfold wq;split
 ·split
  ·exact hs.sublist znt
  ·split
   ·exact hs
   ·split
    ·exact Sst.nil
    ·rename_i h _;exact d9 cmpT_ord hs h
 ·exact Sst.nil
def t8(hl:l.length<=4096)(x:U)(d:Bool):(wq l x d).1.length<=4096:=by
 unfold wq;split
 ·split
  ·exact mw (zm9 _ _) hl
  ·split
   ·exact hl
   ·split
    ·exact mf _
    ·rw[wv];omega
 ·exact mf _
def ofU:List U->List U->List U×Int
 | l,[]=>(l,0)
 | l,x::r=>if (wq l x false).2=0 then ofU (wq l x false).1 r else ([],(wq l x false).2)
end Go.V.L6
namespace Go.V.L8
open Go.V.L2 Go.V.L3 Go.V.L6
abbrev CH:=U×Bool
def cE(n:Nat)(l:List CH):Int:=if n<l.length then 3 else if (l.any fun c=>!decide (tE c.1=0))=true then 6 else 0
def si(s:List U)(m:CH):Bool:=decide (m.1∈s) != m.2
def uc(s:List U):List CH->Nat->Nat×Int
 | [],i=>(i,0)
 | m::r,i=>if si s m=true then uc s r (i+1) else (i,13)
def ee(s:List U)(l:List CH):Nat×Int:=if cE 32 l=0 then uc s l 0 else (0,cE 32 l)
def aw(s:List U):∀ (l:List CH) (i:Nat),uc s l i=((uc s l 0).1+i,(uc s l 0).2)
 | [],i=>by simp [uc]
 | m::r,i=>by
  by_cases h:si s m=true
  ·have e1:uc s (m::r) i=uc s r (i+1):=by rw[uc,na h]
   have e2:uc s (m::r) 0=uc s r (0+1):=by rw[uc,na h]
   rw[e1,e2,aw s r (i+1),aw s r (0+1)];exact Prod.ext (by show(uc s r 0).1+(i+1)=(uc s r 0).1+(0+1)+i;omega) Z
  ·rw[uc,uc,nc h,nc h];simp
def Qv{s:List U}{l:List CH}{m:CH}(h:∀ (j:Nat) x,j<i->l[j]?=some x->si s x=true)(hm:l[i]?=some m)(hh:si s m=false):uc s l 0=(i,13):=by
 induction l generalizing i with
 | nil=>simp at hm
 | cons y r ih=>
  cases i with
  | zero=>
   simp at hm;subst hm;unfold uc;rw[nc (by rw[hh];decide)]
  | succ i=>
   have hy:=h 0 y (Nat.succ_pos _) rfl;unfold uc;rw[na hy,aw,ih (i:=i) (fun j x hj hx=>h (j+1) x T hx) (by simpa using hm)]
def Qw{s:List U}{l:List CH}(h:∀ x∈l,si s x=true):uc s l 0=(l.length,0):=by
 induction l with
 | nil=>rfl
 | cons y r ih=>
  unfold uc;rw[na (h y (by simp)),aw,ih (fun x hx=>h x (by simp [hx]))];rfl
def rq:List U->List CH->List CH->List U×List CH×Int
 | s,made,[]=>(s,made,0)
 | s,made,c::r=>if (wq s c.1 c.2).2=0 then rq (wq s c.1 c.2).1 (if decide (c.1∈s)=c.2 then made++[c] else made) r else ([],[],(wq s c.1 c.2).2)
def cz(s:List U)(l cs:List CH):List U×List CH×Int:=
 if cE 32 l=0 then (if cE 32 cs=0 then (if (ee s l).2=0 then rq s [] cs else ([],[],(ee s l).2)) else ([],[],cE 32 cs)) else ([],[],cE 32 l)
end Go.V.L8
namespace Go.V
def fzI(P:Program)(t' st:TypeId)(off i:Nat):Bool:=
 match P.underlying st with
 | some (.struct fs)=>match fs[i]? with
  | some f=>(match P.info? f.type with | some j=>j.size == 0 | none=>false) && (!(P.cellsOf t' == 0) && ((byteOfCell P P.depth t' (off%P.cellsOf t')).isSome && (byteOfCell P P.depth t' ((off+f.offset)%P.cellsOf t')).isSome))
  | none=>false
 | _=>false
def PtrS:Value->Heap->Prop:=fun v _=>∃ a,v=.pointer (some a)
def PtrS.mono:Kn.mono (.sat PtrS):=fun _ _ _ h _=>h
section
def Cp{cs:Array Value}(h:u.heap[b]?=some (.cells cs e fr))(hs:P.cellsOf e≠0)(hb:byteOfCell P P.depth e (off%P.cellsOf e)=some k):
  (byteOf ⟨b,off,none⟩).run P u=.ok (off/P.cellsOf e*P.bytesOf e+k) u:=by
 have hsh:u.shape? b=some (e,cs.size):=by unfold World.shape?;rw[h]
 simp only[byteOf,nu,run_program,ma,noView,viewAt,shape,Sem.run,hsh,Option.isSome_some,if_true,me,Option.isSome_none,zmp,if_false,Option.isSome];simp [hs,hb,hsh]
def Co{st t':TypeId}{b off i:Nat}{cs:Array Value}(hz:fzI P t' st off i=true)(hb:u.heap[b]?=some (.cells cs t' fr)):
  ∃ a,(Instr.fieldAt st (.pointer (some ⟨b,off,none⟩)) i).run P u=.ok (.pointer (some a)) u:=by
 unfold fzI at hz;split at hz
 ·rename_i fs hu;split at hz
  ·rename_i f hf;split at hz
   ·rename_i j hj;simp only[zly,beq_iff_eq,Bool.not_eq_true',beq_eq_false_iff_ne,ne_eq,zmc] at hz;obtain⟨hj0,hc,⟨k1,h1⟩,k2,h2⟩:=hz;have r1:=Cp (P:=P) hb hc h1;have r2:=Cp (P:=P) hb hc h2;have hsz:(sizeOf f.type).run P u=.ok 0 u:=by simp [sizeOf,typeInfo,hj,hj0]
    have hun:=run_underlying (P:=P) (w:=u) hu
    have hfp:∃ a,(fieldPlace ⟨b,off,none⟩ f).run P u=.ok a u:=by
     simp only[fieldPlace,nu,hsz,ma,if_true,partAt,r1,r2,me];exact⟨_,rfl⟩
    obtain⟨a,ha⟩:=hfp;refine⟨a,?_⟩;simp only[Instr.fieldAt,nu,hun,ma,hf,Instr.sureAddr,me,ha]
   ·simp at hz
  ·cases hz
 ·cases hz
def zbb{z cs:List Value}(hp:PL P t places z)(hc:ot places z vs=some cs):P.built t vs=some cs.toArray:=by
 obtain⟨zv,hz1,hz2⟩:=hp.zr;have hpl:=hp.pl;unfold plI at hpl;unfold zrI at hz1;split at hz1
 ·rename_i it hit;unfold Program.built;split at hpl
  ·rename_i fs hu;simp only[hit,hu,hz1,hpl];rw[jy,hz2];exact uj (fun i p h=>by simpa using h) vs z cs hc
  ·rename_i m el hu;split at hpl
   ·rename_i ie hie;simp only[hit,hu,hz1,hie];cases hpl;rw[jy,hz2]
    exact uj (fun i p h=>by
     rw[zlu] at h
     cases hr:(List.range m)[i]? with
     | none=>rw[hr] at h;cases h
     | some j=>
      rw[hr] at h
      have:j=i:=by
       have:=zl5.1 hr;obtain⟨h1,h2⟩:=this;simpa using h2.symm
      subst this;simpa using h) vs z cs hc
   ·cases hpl
  ·cases hpl
 ·cases hz1
def P7{t:Nat}{st:TypeId}(hx:κ t=some (.sat (At cs t' off)))(hn:Nat.blt d n=true)(hg:gK ops κ ⟨some d,.fieldAddr st (.tmp t) i,ty,pos,aft,g⟩=some true)
  (hz:fzI P t' st off i=true):StepOK P F B n ops O κ ⟨some d,.fieldAddr st (.tmp t) i,ty,pos,aft,g⟩ d (.sat PtrS):=
 ke rfl (zn hn) hg PtrS.mono fun a u H fp e=>by
  obtain⟨b,hv,hb⟩:=e.sat_ t _ (by simp [Op.operands]) hx;obtain⟨ad,hr⟩:=Co hz (e.sub _ _ hb);refine⟨_,?_,ad,rfl⟩;simp only[execOp,hv,nu,hr,ma];rfl
def P6{st:TypeId}{cs:Array Value}(hb:B b=some (.cells cs t' fr))(hx:evK κ x=some (.pointer (some ⟨b,off,none⟩)))(hn:Nat.blt d n=true)(hg:gK ops κ ⟨some d,.fieldAddr st x i,ty,pos,aft,g⟩=some true)
  (hz:fzI P t' st off i=true):StepOK P F B n ops O κ ⟨some d,.fieldAddr st x i,ty,pos,aft,g⟩ d (.sat PtrS):=
 ke rfl (zn hn) hg PtrS.mono fun a u H fp e=>by
  have hv:=e.is_ x _ (by simp [Op.operands]) hx;obtain⟨ad,hr⟩:=Co hz (e.sub _ _ (e.base _ _ hb));refine⟨_,?_,ad,rfl⟩;simp only[execOp,hv,nu,hr,ma];rfl
def Nl(L:Tabs P)(hx:κ q=some (.sat PtrS))(hn:Nat.blt d n=true)(hg:gK ops κ ⟨some d,.load t (.tmp q),ty,pos,aft,g⟩=some true)(ht:L.ld t=some (true,0)):
  StepOK P F B n ops O κ ⟨some d,.load t (.tmp q),ty,pos,aft,g⟩ d (.is (.agg #[])):=
 ke rfl (zn hn) hg trivial fun a u H fp e=>by
  obtain⟨ad,hv⟩:=e.sat_ q _ (by simp [Op.operands]) hx;refine⟨.agg #[],?_,rfl⟩;simp only[execOp,hv,Instr.loadAt,Instr.sureAddr,nu,me,ma];rw[wm (Tabs.ld_spec ht) u ad [] rfl (fun j v hj=>by simp at hj)];rfl
def G0(hn:Nat.blt d n=true)(hg:gK ops κ ⟨some d,.build t parts,ty,pos,aft,g⟩=some true)
  (hp:PL P t places z) (hm:Kn.mono (.sat ψ)) (h:∀ H,B.Le H->Args κ H (parts.toList.map (·.2)) [] (fun vs=>∃ cs,ot places z ((parts.toList.map (·.1)).zip vs)=some cs/\ψ (.agg cs.toArray) H)):
  StepOK P F B n ops O κ ⟨some d,.build t parts,ty,pos,aft,g⟩ d (.sat ψ):=by
 rintro κ' a u hl ⟨H,fp,hh⟩;unfold After;rw[na (xf hh hl hg)];have e:=hh.env (o:=⟨some d,.build t parts,ty,pos,aft,g⟩) hl
 have hc:=Args.use e (parts.toList.map (·.2)) [] (fun x hx=>by
  simp only[Op.operands];obtain⟨q,hq,rfl⟩:=m8.1 hx;simp;exact⟨q.1,by simpa using hq⟩) (h H e.base)
 obtain⟨cs,hb,hψ⟩:=hc;simp only[zmb,mh,znh] at hb
 have hz:(parts.toList.map (·.1)).zip (parts.toList.map (a.eval∘(·.2)))=parts.toList.map fun p=>(p.1,a.eval p.2):=by
  generalize parts.toList=l
  induction l with
  | nil=>rfl
  | cons x l ih=>simp only[mp,List.zip_cons_cons,ih];rfl
 rw[hz] at hb;have hbt:=zbb hp hb;have hr:=run_build (P:=P) u t (parts.toList.map fun p=>(p.1,a.eval p.2)).toArray cs.toArray (by simpa using hbt)
 have harr:(parts.map fun(p:Nat×Operand)=>(p.1,a.eval p.2))=(parts.toList.map fun p=>(p.1,a.eval p.2)).toArray:=by
  rw[<-zlv,zm4]
 have hrun:(execOp a.eval ⟨some d,.build t parts,ty,pos,aft,g⟩).run P u=.ok (.value (.agg cs.toArray)) u:=by
  simp only[execOp,nu];show Result.andThen ((Instr.build t (parts.map fun(p:Nat×Operand)=>(p.1,a.eval p.2))).run P u) _=_;rw[harr,hr];rfl
 rw[hrun];simp only[Upon];exact⟨H,fp,hh.put (zn hn) hm hψ⟩
end
end Go.V
namespace Go.V.UT
def _root_.ZbL(t:Wr Y->A:=by intro h;refine z8 (zt Z (zn Z) Z) Z ?_;exact h.1)(h:Y):A:=t ⟨h⟩
def _root_.Zw(t:Wr Y->A:=by intro h;refine z8 (qf L (qh Z M) Z Z Z Z) Z ?_;exact h.1)(h:Y):A:=t ⟨h⟩
def _root_.Zc2(t:Wr Y->A:=by intro h;refine z8 (zx L (vs:=[_,_,_,_,_,_]) (qh Z M) Z Z Z Z ⟨_,rfl⟩) Z ?_;exact h.1)(h:Y):A:=t ⟨h⟩
def _root_.ZaT(t:Wr Y->A:=by intro h;refine z8 (qq Z Z Z Z) Z ?_;exact h.1)(h:Y):A:=t ⟨h⟩
def _root_.ZaU(t:Wr Y->A:=by intro h;refine z8 (zx L (vs:=[_,_,_,_,_,_]) (y9 Z) Z Z Z Z ⟨_,rfl⟩) Z ?_;exact h.1)(h:Y):A:=t ⟨h⟩
def _root_.Zcn(t:Wr Y->A:=by intro h;refine z7 (qf L (qh Z M) Z Z Z Z) Z ?_;exact h.1)(h:Y):A:=t ⟨h⟩
def _root_.Zco(t:Wr Y->A:=by intro h;refine z8 (qt Z Z Z Z (nf T)) Z ?_;exact h.1)(h:Y):A:=t ⟨h⟩
def _root_.Zc3(t:Wr Y->A:=by intro h;refine z7 (yp Z Z Z Z (yy T T)) Z ?_;exact h.1)(h:Y):A:=t ⟨h⟩
def _root_.Zcr(t:Wr Y->A:=by intro h;refine z7 (vk Z Z Z Z zjf Z) Z ?_;exact h.1)(h:Y):A:=t ⟨h⟩
def _root_.Zcs(t:Wr Y->A:=by intro h;refine qg (id:=3) [] mixed J ?_;exact h.1)(h:Y):A:=t ⟨h⟩
def _root_.Zct(t:Wr Y->A:=by intro h;refine qg (id:=8) [] mixed J ?_;exact h.1)(h:Y):A:=t ⟨h⟩
def _root_.ZcP(t:Wr Y->A:=by intro h;refine z8 (yu Z Z Z Z (ng T)) Z ?_;exact h.1)(h:Y):A:=t ⟨h⟩
def _root_.ZcQ(t:Wr Y->A:=by intro h;refine z8 (qt Z Z Z Z (ng T)) Z ?_;exact h.1)(h:Y):A:=t ⟨h⟩
def _root_.Zdf(t:Wr Y->A:=by intro h;refine z8 (yu Z Z Z Z (nf T)) Z ?_;exact h.1)(h:Y):A:=t ⟨h⟩
def _root_.Zci(t:Wr Y->A:=by intro h;refine z8 (yj Z Z Z) Z ?_;exact h.1)(h:Y):A:=t ⟨h⟩
def _root_.Zd5(t:Wr Y->A:=by intro h;refine qg (id:=2) [] mixed J ?_;exact h.1)(h:Y):A:=t ⟨h⟩
def _root_.Zej(t:Wr Y->A:=by intro h;refine qg (id:=7) [] mixed J ?_;exact h.1)(h:Y):A:=t ⟨h⟩
def _root_.Zm(t:Wr Y->A:=by exact fun h=>(Zj∘Zj) h.1)(h:Y):A:=t ⟨h⟩
def _root_.Zby(t:Wr Y->A:=by exact fun h=>(ZbL∘ZbL) h.1)(h:Y):A:=t ⟨h⟩
def _root_.ZaV(t:Wr Y->A:=by exact fun h=>(Zm∘Zj) h.1)(h:Y):A:=t ⟨h⟩
def _root_.ZdX(t:Wr Y->A:=by exact fun h=>(Zby∘Zby) h.1)(h:Y):A:=t ⟨h⟩
def _root_.Zc4(t:Wr Y->A:=by exact fun h=>(Zc∘Zee) h.1)(h:Y):A:=t ⟨h⟩
def _root_.Zan(t:Wr Y->A:=by exact fun h=>(Zc4∘Zf) h.1)(h:Y):A:=t ⟨h⟩
def _root_.ZdY(t:Wr Y->A:=by exact fun h=>(Zj∘ZdX) h.1)(h:Y):A:=t ⟨h⟩
def _root_.Zbz(t:Wr Y->A:=by exact fun h=>(Za4∘Zw) h.1)(h:Y):A:=t ⟨h⟩
def _root_.Zb7(t:Wr Y->A:=by exact fun h=>(ZdY∘ZdX) h.1)(h:Y):A:=t ⟨h⟩
def _root_.ZbE(t:Wr Y->A:=by exact fun h=>(ZY∘Zcn) h.1)(h:Y):A:=t ⟨h⟩
def _root_.ZbM(t:Wr Y->A:=by exact fun h=>(Zc∘Zer) h.1)(h:Y):A:=t ⟨h⟩
abbrev KT:=((ByteArray×ByteArray)×ByteArray)×((ByteArray×ByteArray)×ByteArray)
abbrev VT:=Unit
abbrev kv(k:KT):Value:=.agg #[.string k.1.1.1,.string k.1.1.2,.string k.1.2,.string k.2.1.1,.string k.2.1.2,.string k.2.2]
abbrev vv(x:VT):Value:=.agg #[]
abbrev pl(k:KT)(x:VT):List Value:=[.string k.1.1.1,.string k.1.1.2,.string k.1.2,.string k.2.1.1,.string k.2.1.2,.string k.2.2]
abbrev nl(k:KT)(x:VT)(l r:Value)(s d:Int):List Value:=[.string k.1.1.1,.string k.1.1.2,.string k.1.2,.string k.2.1.1,.string k.2.1.2,.string k.2.2]++[l,r,.int .i64 s,.int .i64 d]
abbrev TA(t:Tr KT VT):Value->Heap->Prop:=Tr.TreeAt nl 201 t
def TA.mono{t:Tr KT VT}:Kn.mono (.sat (TA t)):=Tr.TreeAt.mono
def TA.le{t:Tr KT VT}{v:Value}{H H':Heap}(h:TA t v H)(hle:H.Le H'):TA t v H':=Tr.TreeAt.le h hle
def TA.ptr{t:Tr KT VT}(h:TA t v H):∃ p,v=.pointer p:=by
 cases t with
 | nil=>exact⟨_,h⟩
 | node k x l r=>obtain⟨b,lv,rv,h,_⟩:=h;exact⟨_,h⟩
attribute [local irreducible] V N X VO Par StepOK Has Ret RetL Src
def size_ret(t:Tr KT VT){v:Value}(hB:zpg B w)(hv:TA t v B):Ret zph 111 [v] w B (fun v _=>v=.int .i64 t.size):=by
 cases t with
 | nil=>
  obtain rfl:v=.pointer none:=hv;refine yh Tryz.func111 Z Tryz.ntmps111 (np Z) hB ((ZaN∘Zcr∘Zu∘Zx∘Zc) ?_);exact yg2 L [.tmp 2]
 | node k x l r=>
  obtain⟨b,lv,rv,rfl,hb,_,_⟩:=hv;refine yh Tryz.func111 Z Tryz.ntmps111 (np Z) hB ((ZaN∘Zcr∘Zn∘Zp∘ZbE∘Zc) ?_);exact yg2 L [.tmp 2]
def deep_ret(t:Tr KT VT){v:Value}(hB:zpg B w)(hv:TA t v B):Ret zph 287 [v] w B (fun v _=>v=.int .i64 t.deep):=by
 cases t with
 | nil=>
  obtain rfl:v=.pointer none:=hv;refine yh Tryz.func287 Z Tryz.ntmps287 (np Z) hB ((ZaN∘Zcr∘Zu∘Zx∘Zc) ?_);exact yg2 L [.tmp 2]
 | node k x l r=>
  obtain⟨b,lv,rv,rfl,hb,_,_⟩:=hv;refine yh Tryz.func287 Z Tryz.ntmps287 (np Z) hB ((ZaN∘Zcr∘Zn∘Zp∘ZbE∘Zc) ?_);exact yg2 L [.tmp 2]
def zec(a b:Nat):(if ((b:Nat):Int)>(a:Int) then ((b:Nat):Int) else (a:Int))=((max a b:Nat):Int):=by
 split<;>omega
def join_ret(k:KT)(x:VT)(l r:Tr KT VT){lv rv:Value}(hB:zpg B w)(hl:TA l lv B)(hr:TA r rv B)(hs:l.size+r.size<1099511627776):
  Ret zph 268 [.agg (pl k x).toArray,lv,rv] w B (TA (.node k x l r)):=by
 obtain⟨pl',rfl⟩:=hl.ptr;obtain⟨pr,rfl⟩:=hr.ptr;have hdl:=l.deep_le;have hdr:=r.deep_le;refine yh Tryz.func268 Z Tryz.ntmps268 (np Z) hB ((Z7∘Zd∘Zc0∘ZaU∘ZaV) ?_);refine z81 L Z (fun u H hH hle=>UT.size_ret _ hH (UT.TA.le M hle)) ?_;refine(Zc1∘Zj) ?_;refine z81 L Z (fun u H hH hle=>UT.size_ret _ hH (UT.TA.le M hle)) ?_;refine(Zc1∘Zj) ?_;refine z81 L Z (fun u H hH hle=>UT.deep_ret _ hH (UT.TA.le M hle)) ?_;refine Zj (h:=?_);refine z81 L Z (fun u H hH hle=>UT.deep_ret _ hH (UT.TA.le M hle)) ?_;refine z8 (Gv Z Z Z Z Z) Z (Zc1 (h:=?_));refine z8 (yt (cs:=[_,_,_,_,_,_,_,_,_,_]) Z Z zi7 Z Z) Z (z8 (yl Z Z Z Z) Z ((Zci∘Zb1) ?_));refine yg1 L [.tmp 6] fun u H hH hle=>?_;rintro _ ⟨b,rfl,hb⟩;refine⟨b,_,_,rfl,?_,TA.le hl hle,TA.le hr hle⟩;rw[zec] at hb;simpa [Tr.size_node,Tr.deep_node] using hb
def bal_ret(k:KT)(x:VT)(l r:Tr KT VT){lv rv:Value}(hB:zpg B w)(hl:TA l lv B)(hr:TA r rv B)(hs:l.size+r.size<1099511627776):
  Ret zph 266 [.agg (pl k x).toArray,lv,rv] w B (TA (Tr.bal k x l r)):=by
 have hdl:=l.deep_le;have hdr:=r.deep_le;refine yh Tryz.func266 Z Tryz.ntmps266 (np Z) hB ?_;unfold Tr.bal;by_cases h1:l.deep>r.deep+1
 ·rw[na h1]
  cases l with
  | nil=>simp [Tr.deep] at h1
  | node lk lx ll lr=>
   have hl0:=hl;obtain⟨b1,v1,v2,rfl,hb1,hll,hlr⟩:=hl;have hd1:=ll.deep_le;have hd2:=lr.deep_le;simp only[Tr.size_node] at hs hdl;dsimp only;by_cases h2:ll.deep>=lr.deep
   ·rw[na h2];refine(Z7∘ZaK) ?_;refine z71 L Z (fun u H hH hle=>UT.deep_ret _ hH (UT.TA.le M hle)) ?_;refine Za (h:=?_);refine z71 L Z (fun u H hH hle=>UT.deep_ret _ hH (UT.TA.le M hle)) ?_;refine(Zc3∘Zc∘Z6∘Zd5∘Zj∘Zdf∘Zm∘ZbB∘Zw) ?_;refine z81 L Z (fun u H hH hle=>UT.deep_ret _ hH (UT.TA.le M hle)) ?_;refine Zbz (h:=?_);refine z81 L Z (fun u H hH hle=>UT.deep_ret _ hH (UT.TA.le M hle)) ?_;refine(ZdH∘ZaT∘Zbd∘Zb4∘Zf∘Zcs∘Za4∘Zc2∘Zbz∘ZaU∘Zbz∘Zj) ?_;refine z8 (xg L Z Z (zn Z) Z Z Z UT.TA.mono (fun u H hH hle _=>UT.join_ret _ () _ _ hH (UT.TA.le M hle) (UT.TA.le M hle) (by first | omega | (simp only[Tr.size_node];omega)))) Z ?_;refine z8 (xg L Z Z (zn Z) Z Z Z UT.TA.mono (fun u H hH hle _ v1 hv1=>UT.join_ret _ () _ _ hH (UT.TA.le M hle) hv1 (by first | omega | (simp only[Tr.size_node];omega)))) Z ?_;refine(Zci∘Zb1) ?_;refine yg1 L [.tmp 6] fun u H hH hle=>?_;exact fun v hv=>hv
   ·rw[nc h2]
    cases lr with
    | nil=>simp [Tr.deep] at h2
    | node mk mx ml mr=>
     have hlr0:=hlr;obtain⟨b2,v3,v4,rfl,hb2,hml,hmr⟩:=hlr;simp only[Tr.size_node] at hs hdl hd2;refine(Z7∘ZaK) ?_;refine z71 L Z (fun u H hH hle=>UT.deep_ret _ hH (UT.TA.le M hle)) ?_;refine Za (h:=?_);refine z71 L Z (fun u H hH hle=>UT.deep_ret _ hH (UT.TA.le M hle)) ?_;refine(Zc3∘Zc∘Z6∘Zd5∘Zj∘Zdf∘Zm∘ZbB∘Zw) ?_;refine z81 L Z (fun u H hH hle=>UT.deep_ret _ hH (UT.TA.le M hle)) ?_;refine Zbz (h:=?_);refine z81 L Z (fun u H hH hle=>UT.deep_ret _ hH (UT.TA.le M hle)) ?_;refine(ZdG∘ZaT∘Zbd∘Zaz∘Zf∘Z9∘ZO∘ZbM∘Zf∘ZT∘ZbE∘Zd∘Zd1∘Za4∘Zc2∘Za4∘Zc2∘Zbz∘Zbz) ?_;refine z8 (xg L Z Z (zn Z) Z Z Z UT.TA.mono (fun u H hH hle _=>UT.join_ret _ () _ _ hH (UT.TA.le M hle) (UT.TA.le M hle) (by first | omega | (simp only[Tr.size_node];omega)))) Z ?_;refine(ZaU∘Zbz∘Zj) ?_;refine z8 (xg L Z Z (zn Z) Z Z Z UT.TA.mono (fun u H hH hle _=>UT.join_ret _ () _ _ hH (UT.TA.le M hle) (UT.TA.le M hle) (by first | omega | (simp only[Tr.size_node];omega)))) Z ?_;refine z8 (xg L Z Z (zn Z) Z Z Z UT.TA.mono (fun u H hH hle _ v1 hv1 v2 hv2=>UT.join_ret _ () _ _ hH hv1 hv2 (by first | omega | (simp only[Tr.size_node];omega)))) Z ?_;refine(Zci∘Zb1) ?_;refine yg1 L [.tmp 6] fun u H hH hle=>?_;exact fun v hv=>hv
 ·rw[nc h1];by_cases h3:r.deep>l.deep+1
  ·rw[na h3]
   cases r with
   | nil=>simp [Tr.deep] at h3
   | node rk rx rl rr=>
    have hr0:=hr;obtain⟨b1,v1,v2,rfl,hb1,hrl,hrr⟩:=hr;have hd1:=rl.deep_le;have hd2:=rr.deep_le;simp only[Tr.size_node] at hs hdr;dsimp only;by_cases h2:rr.deep>=rl.deep
    ·rw[na h2];refine(Z7∘ZaK) ?_;refine z71 L Z (fun u H hH hle=>UT.deep_ret _ hH (UT.TA.le M hle)) ?_;refine Za (h:=?_);refine z71 L Z (fun u H hH hle=>UT.deep_ret _ hH (UT.TA.le M hle)) ?_;refine(Zc3∘Zc∘Z6∘Zd5∘Zj∘ZcP∘Zb7∘Zby∘ZbL∘ZaT∘Zbd∘Zaz∘Zf∘Z9∘ZJ∘Zan∘Zej∘Zj∘Zco∘Zm∘ZbB∘Zw) ?_;refine z81 L Z (fun u H hH hle=>UT.deep_ret _ hH (UT.TA.le M hle)) ?_;refine Zbz (h:=?_);refine z81 L Z (fun u H hH hle=>UT.deep_ret _ hH (UT.TA.le M hle)) ?_;refine(ZdH∘ZaT∘Zbd∘Zb4∘Zf∘Zct∘Za4∘Zc2∘ZaU∘Zm∘ZbB∘Zw) ?_;refine z8 (xg L Z Z (zn Z) Z Z Z UT.TA.mono (fun u H hH hle _=>UT.join_ret _ () _ _ hH (UT.TA.le M hle) (UT.TA.le M hle) (by first | omega | (simp only[Tr.size_node];omega)))) Z ?_;refine Zbz (h:=?_);refine z8 (xg L Z Z (zn Z) Z Z Z UT.TA.mono (fun u H hH hle _ v1 hv1=>UT.join_ret _ () _ _ hH hv1 (UT.TA.le M hle) (by first | omega | (simp only[Tr.size_node];omega)))) Z ?_;refine(Zci∘Zb1) ?_;refine yg1 L [.tmp 6] fun u H hH hle=>?_;exact fun v hv=>hv
    ·rw[nc h2]
     cases rl with
     | nil=>simp [Tr.deep] at h2
     | node mk mx ml mr=>
      have hrl0:=hrl;obtain⟨b2,v3,v4,rfl,hb2,hml,hmr⟩:=hrl;simp only[Tr.size_node] at hs hdr hd1;refine(Z7∘ZaK) ?_;refine z71 L Z (fun u H hH hle=>UT.deep_ret _ hH (UT.TA.le M hle)) ?_;refine Za (h:=?_);refine z71 L Z (fun u H hH hle=>UT.deep_ret _ hH (UT.TA.le M hle)) ?_;refine(Zc3∘Zc∘Z6∘Zd5∘Zj∘ZcP∘Zb7∘Zby∘ZbL∘ZaT∘Zbd∘Zaz∘Zf∘Z9∘ZJ∘Zan∘Zej∘Zj∘Zco∘Zm∘ZbB∘Zw) ?_;refine z81 L Z (fun u H hH hle=>UT.deep_ret _ hH (UT.TA.le M hle)) ?_;refine Zbz (h:=?_);refine z81 L Z (fun u H hH hle=>UT.deep_ret _ hH (UT.TA.le M hle)) ?_;refine(ZdG∘ZaT∘Zbd∘Zaz∘Zf∘Zau∘Zab∘ZbM∘Zf∘ZA∘Za∘ZbE∘Zd) ?_;refine qg (id:=11) [] mixed J ((Za4∘Zc2∘ZaU∘Zm∘ZbB∘Zw) ?_);refine z8 (xg L Z Z (zn Z) Z Z Z UT.TA.mono (fun u H hH hle _=>UT.join_ret _ () _ _ hH (UT.TA.le M hle) (UT.TA.le M hle) (by first | omega | (simp only[Tr.size_node];omega)))) Z ?_;refine(Za4∘Zc2∘Zbz∘Zbz) ?_;refine z8 (xg L Z Z (zn Z) Z Z Z UT.TA.mono (fun u H hH hle _=>UT.join_ret _ () _ _ hH (UT.TA.le M hle) (UT.TA.le M hle) (by first | omega | (simp only[Tr.size_node];omega)))) Z ?_;refine z8 (xg L Z Z (zn Z) Z Z Z UT.TA.mono (fun u H hH hle _ v1 hv1 v2 hv2=>UT.join_ret _ () _ _ hH hv1 hv2 (by first | omega | (simp only[Tr.size_node];omega)))) Z ?_;refine(Zci∘Zb1) ?_;refine yg1 L [.tmp 6] fun u H hH hle=>?_;exact fun v hv=>hv
  ·rw[nc h3];refine(Z7∘ZaK) ?_;refine z71 L Z (fun u H hH hle=>UT.deep_ret _ hH (UT.TA.le M hle)) ?_;refine Za (h:=?_);refine z71 L Z (fun u H hH hle=>UT.deep_ret _ hH (UT.TA.le M hle)) ?_;refine(Zc3∘Zc∘Z6∘Zd5∘Zj∘ZcP∘Zb7∘Zby∘ZbL∘ZaT∘Zbd∘Zaz∘Zf∘Z9∘ZJ∘Zan∘Zej∘Zj∘ZcQ∘Zb7∘Zby∘ZbL∘ZaT∘Zbd∘Zaz∘Zf∘Zau∘Zac∘Zc4∘Zbj∘Zao∘Zbk∘ZW∘Zb6∘Zb) ?_;refine z7 (xg L Z Z (zn Z) Z Z Z UT.TA.mono (fun u H hH hle _=>UT.join_ret _ () _ _ hH (UT.TA.le M hle) (UT.TA.le M hle) (by first | omega | (simp only[Tr.size_node];omega)))) Z ?_;refine(ZR∘Zs) ?_;refine yg1 L [.tmp 6] fun u H hH hle=>?_;exact fun v hv=>hv
end Go.V.UT
variable{c:Go.V.UT.KT->Go.V.UT.KT->Int}
namespace Go.V.UT
def _root_.ZcR(t:Wr Y->A:=by intro h;refine z7 (eu Z Z Z Z M) Z ?_;exact h.1)(h:Y):A:=t ⟨h⟩
def _root_.Zc5(t:Wr Y->A:=by intro h;refine z7 (A6 Z Z Z Z) Z ?_;exact h.1)(h:Y):A:=t ⟨h⟩
def _root_.ZcH(t:Wr Y->A:=by intro h;refine aj (qw Z) Z Z ?_;exact h.1)(h:Y):A:=t ⟨h⟩
def _root_.ZdK(t:Wr Y->A:=by intro h;refine qg (id:=13) [] mixed J ?_;exact h.1)(h:Y):A:=t ⟨h⟩
def _root_.ZdL(t:Wr Y->A:=by intro h;refine qg (id:=5) [] mixed J ?_;exact h.1)(h:Y):A:=t ⟨h⟩
def _root_.ZdZ(t:Wr Y->A:=by intro h;refine z8 (qp L Z Z Z Z) Z ?_;exact h.1)(h:Y):A:=t ⟨h⟩
def _root_.ZeS(t:Wr Y->A:=by intro h;refine z8 (eu Z Z Z Z M) Z ?_;refine z8 (A6 Z Z Z Z) Z ?_;exact h.1)(h:Y):A:=t ⟨h⟩
def _root_.ZbZ(t:Wr Y->A:=by exact fun h=>(ZbJ∘Zc2) h.1)(h:Y):A:=t ⟨h⟩
structure Cmp(cf:Nat)(c:KT->KT->Int):Prop where
 fn:L.fn cf=some ()
 ret:∀ (a b:KT) (u:World) (H:Heap),zpg H u->Ret zph cf [kv a,kv b] u H (fun v _=>v=.int .i64 (c a b))
abbrev mv(cf:Nat)(root:Value):Value:=.agg #[.func (.func cf) #[] #[],root]
attribute [local irreducible] V N X VO Par StepOK Has Ret RetL Src
def zdp(hc:Cmp cf c)(root:Value)(k:KT)(x:VT):∀ (t:Tr KT VT) {rv:Value} {w:World} {B:Heap},zpg B w->TA t rv B->t.size+1<1099511627776->
  Ret zph 228 [mv cf root,rv,.agg (pl k x).toArray] w B (TA (Tr.put c k x t)):=by
 intro t
 induction t with
 | nil=>
  intro rv w B hB hv hs;obtain rfl:rv=.pointer none:=hv;have hn:TA .nil (.pointer none) B:=rfl;have hz:(Tr.nil:Tr KT VT).size=0:=rfl;refine yh Tryz.func228 Z Tryz.ntmps228 (np Z) hB ((Za2∘ZaK∘Zcr∘Zu∘Zx∘Zb6) ?_);refine z7 (xg L Z Z (zn Z) Z Z Z UT.TA.mono (fun u H hH hle _=>UT.join_ret _ () _ _ hH (UT.TA.le M hle) (UT.TA.le M hle) (by first | omega | (simp only[Tr.size_node];omega)))) Z ?_;refine(ZR∘Zs) ?_;refine yg1 L [.tmp 6] fun u H hH hle=>?_;exact fun v hv=>hv
 | node nk nx l r ihl ihr=>
  intro rv w B hB hv hs;obtain⟨b,lv,rv',rfl,hb,hl,hr⟩:=hv;have hpl:=Tr.size_put c k x l;have hpr:=Tr.size_put c k x r;simp only[Tr.size_node] at hs;refine yh Tryz.func228 Z Tryz.ntmps228 (np Z) hB ?_;unfold Tr.put;by_cases h1:c k nk<0
  ·rw[na h1];refine(Za2∘ZaK∘Zcr∘Z4∘Zcs∘Zb2∘Zb0∘ZaU∘Za4∘ZbZ) ?_;refine z8 (zz L Z Z (zn Z) Z Z hc.fn (fun u H hH _ _=>hc.ret _ _ u H hH)) Z ((ZaP∘Z6∘Z9∘Zab∘ZbM∘Zf∘ZdL∘Za4∘Zc2∘ZcM∘Zbz∘ZaU) ?_);refine z8 (xg L Z Z (zn Z) Z Z Z TA.mono (fun u H hH hle _=>ihl hH (hl.le hle) T)) Z (Zbz (h:=?_));refine z8 (xg L Z Z (zn Z) Z Z Z UT.TA.mono (fun u H hH hle _ v1 hv1=>UT.bal_ret _ () _ _ hH hv1 (UT.TA.le M hle) (by first | omega | (simp only[Tr.size_node];omega)))) Z ?_;refine(Zci∘Zb1) ?_;refine yg1 L [.tmp 6] fun u H hH hle=>?_;exact fun v hv=>hv
  ·rw[nc h1];by_cases h2:c k nk>0
   ·rw[na h2];refine(Za2∘ZaK∘Zcr∘Z4∘Zcs∘Zb2∘Zb0∘ZaU∘Za4∘ZbZ) ?_;refine z8 (zz L Z Z (zn Z) Z Z hc.fn (fun u H hH _ _=>hc.ret _ _ u H hH)) Z ((ZaP∘Z6∘Z9∘Zac∘Zan∘ZL∘ZO∘ZbM∘Zf∘Zej∘Za4∘Zc2∘Zbz∘ZcM∘Zbz∘ZaU) ?_);refine z8 (xg L Z Z (zn Z) Z Z Z TA.mono (fun u H hH hle _=>ihr hH (hr.le hle) T)) Z (z8 (xg L Z Z (zn Z) Z Z Z UT.TA.mono (fun u H hH hle _ v1 hv1=>UT.bal_ret _ () _ _ hH (UT.TA.le M hle) hv1 (by first | omega | (simp only[Tr.size_node];omega)))) Z ?_);refine(Zci∘Zb1) ?_;refine yg1 L [.tmp 6] fun u H hH hle=>?_;exact fun v hv=>hv
   ·rw[nc h2];refine(Za2∘ZaK∘Zcr∘Z4∘Zcs∘Zb2∘Zb0∘ZaU∘Za4∘ZbZ) ?_;refine z8 (zz L Z Z (zn Z) Z Z hc.fn (fun u H hH _ _=>hc.ret _ _ u H hH)) Z ((ZaP∘Z6∘Z9∘Zac∘Zan∘ZL∘ZJ∘Zc4∘Zbj∘Zao∘Zbk∘Zct∘Za4∘ZbZ) ?_);refine z8 (P7 Z Z Z J) Z (z8 (Nl L Z Z Z Z) Z (z8 (yt (cs:=[_,_,_,_,_,_]) Z Z zgr Z Z) Z ((Zbz∘Zbz) ?_)));refine z8 (xg L Z Z (zn Z) Z Z Z UT.TA.mono (fun u H hH hle _=>UT.join_ret _ () _ _ hH (UT.TA.le M hle) (UT.TA.le M hle) (by first | omega | (simp only[Tr.size_node];omega)))) Z ?_;refine(Zci∘Zb1) ?_;refine yg1 L [.tmp 6] fun u H hH hle=>?_;exact fun v hv=>hv
abbrev FirstS(y:(KT×VT)×Tr KT VT):Value->Heap->Prop:=TupS [fun v _=>v=.agg (pl y.1.1 y.1.2).toArray,TA y.2]
def FirstS.mono{y:(KT×VT)×Tr KT VT}:Kn.mono (.sat (FirstS y)):=TupS.mono fun φ hφ=>by
 simp only[nz,zmw,or_false] at hφ;rcases hφ with rfl | rfl
 ·exact fun _ _ _ h _=>h
 ·exact TA.mono
def tupS2{φ ψ:Value->Heap->Prop}{v w:Value}(h1:φ v H)(h2:ψ w H):TupS [φ,ψ] (tup [v,w]) H:=⟨[v,w],rfl,rfl,fun i χ x hi hx=>by
 match i with
 | 0=>cases hi;cases hx;exact h1
 | 1=>cases hi;cases hx;exact h2
 | _+2=>cases hi⟩
def first_ret:∀ (k:KT) (x:VT) (l r:Tr KT VT) {v:Value} {w:World} {B:Heap},zpg B w->TA (.node k x l r) v B->l.size+r.size<1099511627776->
  Ret zph 267 [v] w B (FirstS (Tr.first k x l r)):=by
 intro k x l
 induction l generalizing k x with
 | nil=>
  intro r v w B hB hv hs;obtain⟨b,lv,rv,rfl,hb,hl,hr⟩:=hv;obtain rfl:lv=.pointer none:=hl;refine yh Tryz.func267 Z Tryz.ntmps267 (np Z) hB ((ZaW∘ZaK∘ZbE∘Zcr∘Zu∘Zd5∘Za4∘Zc2∘Zbz∘ZdZ∘ZaP) ?_);refine yg1 L [.cell 2 186,.tmp 3] fun u H hH hle=>?_;refine ZcH (h:=?_);exact tupS2 Z (TA.le hr hle)
 | node lk lx ll lr ih _=>
  intro r v w B hB hv hs;obtain⟨b,lv,rv,rfl,hb,hl,hr⟩:=hv;have hl0:=hl;obtain⟨b2,v3,v4,rfl,hb2,_,_⟩:=hl;have hz:=Tr.size_first lk lx ll lr;simp only[Tr.size_node] at hs;have hm:=TA.mono (t:=(Tr.first lk lx ll lr).2);refine yh Tryz.func267 Z Tryz.ntmps267 (np Z) hB ((ZaW∘ZaK∘ZbE∘Zcr∘Zn∘Zp∘ZbE) ?_);refine z7 (xg L Z Z (zn Z) Z Z Z FirstS.mono (fun u H hH hle _=>ih lk lx lr hH (TA.le hl0 hle) T)) Z ((Zk∘Zc5∘ZcR∘Zaj∘ZR∘Zg∘Zda) ?_);refine z8 (zx L (vs:=[_,_,_,_,_,_]) (qw Z) Z Z Z Z ⟨_,rfl⟩) Z ((Za4∘Zc2∘ZaA∘Zbz) ?_);refine z8 (xg L Z Z (zn Z) Z Z Z UT.TA.mono (fun u H hH hle _ v1 hv1=>UT.bal_ret _ () _ _ hH hv1 (UT.TA.le M hle) (by first | omega | (simp only[Tr.size_node];omega)))) Z ?_;refine(ZdZ∘Zci∘Zb1) ?_;refine yg1 L [.cell 2 186,.tmp 3] fun u H hH hle=>?_;refine ZcH (h:=?_);exact fun v hv=>tupS2 Z hv
abbrev DropS(y:Tr KT VT×Bool):Value->Heap->Prop:=TupS [TA y.1,fun v _=>v=.bool y.2]
def DropS.mono{y:Tr KT VT×Bool}:Kn.mono (.sat (DropS y)):=TupS.mono fun φ hφ=>by
 simp only[nz,zmw,or_false] at hφ;rcases hφ with rfl | rfl
 ·exact TA.mono
 ·exact fun _ _ _ h _=>h
def zax(hc:Cmp cf c)(root:Value)(k:KT):∀ (t:Tr KT VT) {rv:Value} {w:World} {B:Heap},zpg B w->TA t rv B->t.size<1099511627776->
  Ret zph 227 [mv cf root,rv,kv k] w B (DropS (Tr.drop c k t)):=by
 intro t
 induction t with
 | nil=>
  intro rv w B hB hv hs;obtain rfl:rv=.pointer none:=hv;have hn:TA .nil (.pointer none) B:=rfl;refine yh Tryz.func227 Z Tryz.ntmps227 (np Z) hB ((Za2∘Zv∘ZaK∘Zcr∘Zu∘Zx∘ZM) ?_);refine yg1 L [.tmp 6,.tmp 7] fun u H hH hle=>?_;exact tupS2 Z Z
 | node nk nx l r ihl ihr=>
  intro rv w B hB hv hs;obtain⟨b,lv,rv',rfl,hb,hl,hr⟩:=hv;have hpl:=Tr.size_drop c k l;have hpr:=Tr.size_drop c k r;simp only[Tr.size_node] at hs;refine yh Tryz.func227 Z Tryz.ntmps227 (np Z) hB ?_;unfold Tr.drop;by_cases h1:c k nk<0
  ·rw[na h1];have hm:=TA.mono (t:=(Tr.drop c k l).1);refine(Za2∘Zv∘ZaK∘Zcr∘Z4∘Zcs∘Zb2∘ZaU∘Za4∘ZbZ) ?_;refine z8 (zz L Z Z (zn Z) Z Z hc.fn (fun u H hH _ _=>hc.ret _ _ u H hH)) Z ((ZaP∘Z6∘Z9∘Zab∘ZbM∘Zf∘ZdL∘ZcM∘Zbz∘ZaU) ?_);refine z8 (xg L Z Z (zn Z) Z Z Z DropS.mono (fun u H hH hle _=>ihl hH (hl.le hle) T)) Z ((ZaA∘ZeS∘Zci∘ZbC∘Zd1∘Za4∘Zc2∘ZaA∘Zbz) ?_);refine z8 (xg L Z Z (zn Z) Z Z Z UT.TA.mono (fun u H hH hle _ v1 hv1=>UT.bal_ret _ () _ _ hH hv1 (UT.TA.le M hle) (by first | omega | (simp only[Tr.size_node];omega)))) Z ?_;refine(Zj∘Zci∘ZaP) ?_;refine yg1 L [.tmp 6,.tmp 7] fun u H hH hle=>?_;exact fun v hv=>tupS2 hv Z
  ·rw[nc h1];by_cases h2:c k nk>0
   ·rw[na h2];have hm:=TA.mono (t:=(Tr.drop c k r).1);refine(Za2∘Zv∘ZaK∘Zcr∘Z4∘Zcs∘Zb2∘ZaU∘Za4∘ZbZ) ?_;refine z8 (zz L Z Z (zn Z) Z Z hc.fn (fun u H hH _ _=>hc.ret _ _ u H hH)) Z ((ZaP∘Z6∘Z9∘Zac∘Zan∘Z8∘ZO∘ZbM∘Zf∘Zct∘ZcM∘Zbz∘ZaU) ?_);refine z8 (xg L Z Z (zn Z) Z Z Z DropS.mono (fun u H hH hle _=>ihr hH (hr.le hle) T)) Z ((ZaA∘ZeS∘Zci∘ZbC) ?_);refine qg (id:=9) [] mixed J ((Za4∘Zc2∘Zbz∘ZaA) ?_);refine z8 (xg L Z Z (zn Z) Z Z Z UT.TA.mono (fun u H hH hle _ v1 hv1=>UT.bal_ret _ () _ _ hH (UT.TA.le M hle) hv1 (by first | omega | (simp only[Tr.size_node];omega)))) Z ?_;refine(Zj∘Zci∘ZaP) ?_;refine yg1 L [.tmp 6,.tmp 7] fun u H hH hle=>?_;exact fun v hv=>tupS2 hv Z
   ·rw[nc h2]
    cases r with
    | nil=>
     obtain rfl:rv'=.pointer none:=hr;refine(Za2∘Zv∘ZaK∘Zcr∘Z4∘Zcs∘Zb2∘ZaU∘Za4∘ZbZ) ?_;refine z8 (zz L Z Z (zn Z) Z Z hc.fn (fun u H hH _ _=>hc.ret _ _ u H hH)) Z ((ZaP∘Z6∘Z9∘Zac∘Zan∘Z8∘ZJ∘Zan∘ZA∘Za∘ZbE∘Zcr∘ZbM∘Zf∘ZV∘Za∘ZbE∘ZM) ?_);refine yg1 L [.tmp 6,.tmp 7] fun u H hH hle=>?_;exact tupS2 (TA.le hl hle) Z
    | node rk rx rl rr=>
     have hr0:=hr;obtain⟨b2,v3,v4,rfl,hb2,_,_⟩:=hr;have hz:=Tr.size_first rk rx rl rr;simp only[Tr.size_node] at hs;have hm:=TA.mono (t:=(Tr.first rk rx rl rr).2);refine(Za2∘Zv∘ZaK∘Zcr∘Z4∘Zcs∘Zb2∘ZaU∘Za4∘ZbZ) ?_;refine z8 (zz L Z Z (zn Z) Z Z hc.fn (fun u H hH _ _=>hc.ret _ _ u H hH)) Z ((ZaP∘Z6∘Z9∘Zac∘Zan∘Z8∘ZJ∘Zan∘ZA∘Za∘ZbE∘Zcr∘Zc4∘Zbj∘Zao∘Zbk∘ZW∘Za∘ZbE) ?_);refine z7 (xg L Z Z (zn Z) Z Z Z FirstS.mono (fun u H hH hle _=>first_ret rk rx rl rr hH (TA.le hr0 hle) T)) Z ((Zk∘Zc5∘ZcR∘Zaj∘ZR∘Zg∘ZdK) ?_);refine z8 (zx L (vs:=[_,_,_,_,_,_]) (qw Z) Z Z Z Z ⟨_,rfl⟩) Z ((Zbz∘ZaA) ?_);refine z8 (xg L Z Z (zn Z) Z Z Z UT.TA.mono (fun u H hH hle _ v1 hv1=>UT.bal_ret _ () _ _ hH (UT.TA.le M hle) hv1 (by first | omega | (simp only[Tr.size_node];omega)))) Z ?_;refine(Zci∘ZaP) ?_;refine yg1 L [.tmp 6,.tmp 7] fun u H hH hle=>?_;exact fun v hv=>tupS2 hv Z
def _root_.Zfj(t:Wr Y->A:=by intro h;refine z7 (zx L (vs:=[_,_,_,_,_,_]) (qh Z M) Z Z Z Z ⟨_,rfl⟩) Z ?_;exact h.1)(h:Y):A:=t ⟨h⟩
def _root_.ZcA(t:Wr Y->A:=by intro h;refine z7 (zx L (vs:=[_,_]) (o4 Z (List.Mem.head _)) Z Z Z Z ⟨_,rfl⟩) Z ?_;exact h.1)(h:Y):A:=t ⟨h⟩
def _root_.Zdl(t:Wr Y->A:=by intro h;refine z7 (qf L (o4 Z (List.Mem.head _)) Z Z Z Z) Z ?_;exact h.1)(h:Y):A:=t ⟨h⟩
def _root_.ZdM(t:Wr Y->A:=by intro h;refine H7 L (O1:=[]) Z Z Z Z Z Z Z Z Z ?_;exact h.1)(h:Y):A:=t ⟨h⟩
def _root_.Zd6(t:Wr Y->A:=by intro h;refine z7 (Lo Z Z Z Z zjf Z Z) Z ?_;exact h.1)(h:Y):A:=t ⟨h⟩
def _root_.Zek(t:Wr Y->A:=by intro h;refine z71 L Z (fun u H hH hle=>UT.size_ret _ hH (UT.TA.le M hle)) ?_;exact h.1)(h:Y):A:=t ⟨h⟩
def _root_.Zex(t:Wr Y->A:=by intro h;refine z71 L Z (fun u H hH hle=>len_ret hH (hv.le hle)) ?_;exact h.1)(h:Y):A:=t ⟨h⟩
def _root_.ZeT(t:Wr Y->A:=by intro h;refine z7 (yt (cs:=[_,_,_,_,_,_]) Z Z zgr Z Z) Z ?_;exact h.1)(h:Y):A:=t ⟨h⟩
def _root_.ZU(t:Wr Y->A:=by exact fun h=>(ZbI∘Zao) h.1)(h:Y):A:=t ⟨h⟩
def _root_.ZbN(t:Wr Y->A:=by exact fun h=>(ZaW∘Zg) h.1)(h:Y):A:=t ⟨h⟩
def _root_.ZbO(t:Wr Y->A:=by exact fun h=>(Z2∘Zay) h.1)(h:Y):A:=t ⟨h⟩
def _root_.ZbP(t:Wr Y->A:=by exact fun h=>(Zat∘Zb) h.1)(h:Y):A:=t ⟨h⟩
def MA(fv:Value)(t:Tr KT VT):Value->Heap->Prop:=fun v H=>∃ p,v=.agg #[fv,.pointer p]/\TA t (.pointer p) H
def MA.mono{fv:Value}{t:Tr KT VT}:Kn.mono (.sat (MA fv t)):=fun _ _ _ ⟨p,hv,h⟩ hle=>⟨p,hv,h.le hle⟩
def new_ret(cf:Nat)(hB:zpg B w):Ret zph 171 [.func (.func cf) #[] #[]] w B (fun v _=>v=.agg #[.func (.func cf) #[] #[],.pointer none]):=by
 refine yh Tryz.func171 Z Tryz.ntmps171 (np Z) hB ((ZbN∘ZaZ) ?_);refine z7 (yt (cs:=[_,_]) Z Z zkx Z Z) Z (Zam (h:=?_));refine yg1 L [.cell 2 33] fun u H hH hle=>?_;refine ZcH (h:=?_);rfl
def len_ret{fv:Value}{t:Tr KT VT}(hB:zpg B w)(hv:TA t root B):Ret zph 45 [.agg #[fv,root]] w B (fun v _=>v=.int .i64 t.size):=by
 refine yh Tryz.func45 Z Tryz.ntmps45 (np Z) hB ((Z7∘Zaf∘Zai∘Zek∘Zc) ?_);exact yg2 L [.tmp 2]
def Y7(hc:Cmp cf c)(k:KT)(x:VT){t:Tr KT VT}(hB:zpg B w)(hv:TA t (.pointer p) B)(hs:t.size+1<1099511627776):
  Ret zph 173 [mv cf (.pointer p),kv k,vv x] w B (MA (.func (.func cf) #[] #[]) (Tr.put c k x t)):=by
 refine yh Tryz.func173 Z Tryz.ntmps173 (np Z) hB ((Zbf∘ZcF∘ZcF∘ZbO) ?_);(refine sn 3 rfl ?_;intro b3 hb3);refine(Z3∘ZaB∘Zdl) ?_;refine z7 (Lo rfl rfl rfl rfl zkz rfl rfl) rfl ((ZD∘Zx∘ZcA∘ZaB∘Zdl∘Zb6) ?_);refine z7 (zx L (vs:=[]) (y9 rfl) rfl rfl rfl rfl ⟨_,rfl⟩) rfl (ZeT (h:=?_));refine z7 (xg L rfl rfl (zn rfl) rfl rfl rfl TA.mono (fun u H hH hle _=>zdp hc _ k x t hH (hv.le hle) hs)) rfl (w6 16 rfl ?_);intro p16 H16 hs16 hp16;obtain⟨q16,rfl⟩:=TA.ptr hp16;refine(ZaB∘ZdM∘Zg∘ZI∘ZcA∘Zam) ?_;refine yg L (rs:=[.cell 6 33]) Z (fun _ _ h=>h) hs16 fun u H hH hle=>?_;refine ZcH (h:=?_);exact⟨q16,rfl,hp16.le hle⟩
def T3(hc:Cmp cf c)(k:KT){t:Tr KT VT}(hB:zpg B w)(hv:TA t (.pointer p) B)(hs:t.size<1099511627776):
  Ret zph 172 [mv cf (.pointer p),kv k] w B (MA (.func (.func cf) #[] #[]) (if (Tr.drop c k t).2=true then (Tr.drop c k t).1 else t)):=by
 have hD:=fun(u:World) (H:Heap) (hH:zpg H u) (hle:B.Le H)=>zax hc (.pointer p) k t hH (hv.le hle) hs;rcases hq:Tr.drop c k t with ⟨t',was⟩
 rw[hq] at hD;have hm:=TA.mono (t:=t');cases was
 ·rw[nc (by simp)];refine yh Tryz.func172 Z Tryz.ntmps172 (np Z) hB ((Zbf∘ZcF∘ZbO) ?_);(refine sn 2 rfl ?_;intro b2 hb2);refine(Z3∘ZcA∘ZaB∘Zdl∘Zb6) ?_;refine z7 (xg L Z Z (zn Z) Z Z Z DropS.mono (fun u H hH hle _=>hD u H hH hle)) Z ((Zk∘ZcR∘Zc5∘ZR∘Zbh∘Zn∘ZS∘ZcA∘Zam) ?_);refine yg1 L [.cell 4 33] fun u H hH hle=>?_;refine ZcH (h:=?_);exact⟨p,rfl,hv.le hle⟩
 ·rw[na rfl];refine yh Tryz.func172 Z Tryz.ntmps172 (np Z) hB ((Zbf∘ZcF∘ZbO) ?_);(refine sn 2 rfl ?_;intro b2 hb2);refine(Z3∘ZcA∘ZaB∘Zdl∘Zb6) ?_;refine z7 (xg L rfl rfl (zn rfl) rfl rfl rfl DropS.mono (fun u H hH hle _=>hD u H hH hle)) rfl ((Zk∘ZcR∘Zc5∘ZR∘Zbh∘ZD∘ZI∘Zk) ?_);refine w6 16 rfl ?_;intro p16 H16 hs16 hp16;obtain⟨q16,rfl⟩:=TA.ptr hp16;refine(ZaB∘ZdM∘Zg∘ZS∘ZcA∘Zam) ?_;refine yg L (rs:=[.cell 4 33]) Z (fun _ _ h=>h) hs16 fun u H hH hle=>?_;refine ZcH (h:=?_);exact⟨q16,rfl,hp16.le hle⟩
def zka:Option VT->List Value
 | some x=>[vv x,.bool true]
 | none=>[.agg #[],.bool false]
def zem(hc:Cmp cf c)(k:KT){t:Tr KT VT}(hB:zpg B w)(hv:TA t root B):
  Ret zph 64 [mv cf root,kv k] w B (fun v _=>v=tup (zka (Tr.get c k t))):=by
 refine yh Tryz.func64 Z Tryz.ntmps64 (np Z) hB ((Za2∘Z2∘Zaf∘Zai∘Zd∘Zak) ?_)
 refine xm (fun s:Tr KT VT×Value=>[(3,.sat (At [.string k.1.1.1,.string k.1.1.2,.string k.1.2,.string k.2.1.1,.string k.2.1.2,.string k.2.2] 57 0)),(4,.own (Cell [] 114)),(2,.sat (At [.func (.func cf) #[] #[],root] 33 0)),(6,.is s.2)])
  (fun s=>TA s.1 s.2 B/\Tr.get c k s.1=Tr.get c k t) (fun s=>s.1.size) (t,root) ⟨hv,rfl⟩ (by repeat (first | exact trivial | refine⟨rfl,?_⟩)) ?_
 rintro⟨s,v⟩ ⟨hs,hg⟩;dsimp only at hs hg |-
 cases s with
 | nil=>
  obtain rfl:v=.pointer none:=hs;refine(Ze∘Zo∘Zd6∘ZZ∘ZaD∘Zat∘Z2∘Zg∘ZA) ?_;refine z7 (zx L (vs:=[]) (qw Z) Z Z Z Z ⟨_,rfl⟩) Z (ZaQ (h:=?_));refine yg1 L [.cell 4 114,.tmp 5] fun u H hH hle=>?_
  first | (rw[<-hg];rfl) | (refine aj (qw rfl) rfl rfl ?_;rw[<-hg];rfl)
 | node nk nx l r=>
  obtain⟨b,lv,rv,rfl,hb,hl,hr⟩:=hs;by_cases h0:c k nk=0
  ·rw[Tr.get_eq h0] at hg;refine(Ze∘Zo∘Zd6∘ZbD∘Zcs∘Zb2∘ZaU∘Za4∘ZbZ) ?_;refine z8 (zz L Z Z (zn Z) Z Z hc.fn (fun u H hH _ _=>hc.ret _ _ u H hH)) Z ((ZbC∘Zf∘Z9∘ZG∘Zu∘ZT∘ZY) ?_);refine z7 (P6 M Z Z Z J) Z (z7 (Nl L Z Z Z Z) Z (ZaQ (h:=?_)));refine yg1 L [.cell 4 114,.tmp 5] fun u H hH hle=>?_
   first | (rw[<-hg];rfl) | (refine aj (qw rfl) rfl rfl ?_;rw[<-hg];rfl)
  ·by_cases h1:c k nk<0
   ·rw[Tr.get_lt h1] at hg;refine(Ze∘Zo∘Zd6∘ZbD∘Zcs∘Zb2∘ZaU∘Za4∘ZbZ) ?_;refine z8 (zz L Z Z (zn Z) Z Z hc.fn (fun u H hH _ _=>hc.ret _ _ u H hH)) Z ((ZbC∘Zf∘Z9∘Zq∘Zn∘ZL∘Zag∘Z8∘ZbE∘ZU) ?_);exact yn (x:=(Tr.node nk nx l r,Value.pointer (some ⟨b,0,none⟩))) (l,lv) ⟨hl,hg⟩ (by simp only[Tr.size_node];omega) (by repeat (first | exact trivial | refine⟨rfl,?_⟩))
   ·rw[Tr.get_gt h0 h1] at hg;refine(Ze∘Zo∘Zd6∘ZbD∘Zcs∘Zb2∘ZaU∘Za4∘ZbZ) ?_;refine z8 (zz L Z Z (zn Z) Z Z hc.fn (fun u H hH _ _=>hc.ret _ _ u H hH)) Z ((ZbC∘Zf∘Z9∘Zq∘Zn∘ZL∘Za3∘Zbe∘ZbE∘ZU) ?_);exact yn (x:=(Tr.node nk nx l r,Value.pointer (some ⟨b,0,none⟩))) (r,rv) ⟨hr,hg⟩ (by simp only[Tr.size_node];omega) (by repeat (first | exact trivial | refine⟨rfl,?_⟩))
def Yn(hc:Cmp cf c)(k:KT){t:Tr KT VT}(hB:zpg B w)(hv:TA t root B)(hs:t.size<1099511627776):
  Ret zph 134 [mv cf root,kv k] w B (fun v _=>v=.int .i64 (Tr.rank c k t)):=by
 refine yh Tryz.func134 Z Tryz.ntmps134 (np Z) hB ((Za2∘Zaf∘Zi∘Zx∘Zai∘ZaR) ?_)
 refine xm (fun s:Tr KT VT×Value×Nat=>[(3,.sat (At [.string k.1.1.1,.string k.1.1.2,.string k.1.2,.string k.2.1.1,.string k.2.1.2,.string k.2.2] 57 0)),(2,.sat (At [.func (.func cf) #[] #[],root] 33 0)),(5,.is (.int .i64 s.2.2)),(6,.is s.2.1)])
  (fun s=>TA s.1 s.2.1 B/\Tr.rank c k t=s.2.2+Tr.rank c k s.1/\s.2.2+s.1.size<=t.size) (fun s=>s.1.size) (t,root,0) ⟨hv,by simp,by simp⟩ (by repeat (first | exact trivial | refine⟨rfl,?_⟩)) ?_
 rintro⟨s,v,m⟩ ⟨hs',hg,hz⟩;dsimp only at hs' hg hz |-
 cases s with
 | nil=>
  obtain rfl:v=.pointer none:=hs';refine(Ze∘Zp∘Zd6∘ZZ∘ZaD∘Zbe∘Zc) ?_;refine yg1 L [.tmp 4] fun u H hH hle=>?_;rw[hg];rfl
 | node nk nx l r=>
  obtain⟨b,lv,rv,rfl,hb,hl,hr⟩:=hs';simp only[Tr.size_node] at hz;by_cases h1:c nk k<0
  ·rw[Tr.rank_lt h1] at hg;refine(Ze∘Zp∘Zd6∘ZbD∘Zda∘Zb2∘Za4∘ZbZ∘ZaU) ?_;refine z8 (zz L Z Z (zn Z) Z Z hc.fn (fun u H hH _ _=>hc.ret _ _ u H hH)) Z ((Zco∘Zb4∘Zf∘ZE∘Zb∘ZbE∘Zek∘ZaE∘ZaE∘Zc∘ZL∘ZbE∘ZU) ?_);exact yn (x:=(Tr.node nk nx l r,Value.pointer (some ⟨b,0,none⟩),m)) (r,rv,m+(l.size+1)) ⟨hr,by dsimp only;omega,by dsimp only;omega⟩ (by simp only[Tr.size_node];omega) (by repeat (first | exact trivial | refine⟨rfl,?_⟩))
  ·rw[Tr.rank_ge h1] at hg;refine(Ze∘Zp∘Zd6∘ZbD∘Zda∘Zb2∘Za4∘ZbZ∘ZaU) ?_;refine z8 (zz L Z Z (zn Z) Z Z hc.fn (fun u H hH _ _=>hc.ret _ _ u H hH)) Z ((ZcQ∘Zaz∘Z8∘ZbE∘ZU) ?_);exact yn (x:=(Tr.node nk nx l r,Value.pointer (some ⟨b,0,none⟩),m)) (l,lv,m) ⟨hl,hg,by dsimp only;omega⟩ (by simp only[Tr.size_node];omega) (by repeat (first | exact trivial | refine⟨rfl,?_⟩))
def rank_nil(k:KT){fv:Value}(hB:zpg B w):
  Ret zph 134 [.agg #[fv,.pointer none],kv k] w B (fun v _=>v=.int .i64 0):=by
 refine yh Tryz.func134 Z Tryz.ntmps134 (np Z) hB ((Za2∘Zaf∘Zi∘Zx∘Zai∘ZaR) ?_);refine xm (fun _:Unit=>[(5,.is (.int .i64 0)),(6,.is (.pointer none))]) (fun _=>True) (fun _=>0) () trivial (by repeat (first | exact trivial | refine⟨rfl,?_⟩)) ?_;rintro _ _;refine(Ze∘Zp∘Zd6∘ZZ∘ZaD∘Zbe∘Zc) ?_;exact yg2 L [.tmp 4]
def atV:Option (KT×VT)->List Value
 | some y=>[.agg (pl y.1 y.2).toArray,.int .i64 0]
 | none=>[.agg #[.string ⟨#[]⟩,.string ⟨#[]⟩,.string ⟨#[]⟩,.string ⟨#[]⟩,.string ⟨#[]⟩,.string ⟨#[]⟩],.int .i64 4]
def atO(t:Tr KT VT)(i:Int):Option (KT×VT):=if i<0 then none else Tr.at' t i.toNat
def V0:∀ (t:Tr KT VT) (i:Nat),t.size<=i->Tr.at' t i=none
 | .nil,_,_=>rfl
 | .node k x l r,i,h=>by
  simp only[Tr.size_node] at h;rw[Tr.at_gt T];exact V0 r _ T
def at_ret{fv root:Value}{t:Tr KT VT}(i:Int)(hB:zpg B w)(hv:TA t root B)(hs:t.size<1099511627776):
  Ret zph 135 [.agg #[fv,root],.int .i64 i] w B (fun v _=>v=tup (atV (atO t i))):=by
 refine yh Tryz.func135 Z Tryz.ntmps135 (np Z) hB ?_;by_cases h0:i<0
 ·refine(Z7∘Z2∘ZaK∘Zab∘ZaF∘Zbb∘ZbS∘Zx∘ZeT∘ZaQ) ?_;refine yg1 L [.cell 4 186,.tmp 5] fun u H hH hle=>?_;refine ZcH (h:=?_);rw[atO,na h0];rfl
 ·by_cases h1:i>=t.size
  ·refine(Z7∘Z2∘ZaK∘Zac∘Zb∘Za1∘Zex∘Zcg∘ZbS∘Zx∘ZeT∘ZaQ) ?_;refine yg1 L [.cell 4 186,.tmp 5] fun u H hH hle=>?_;refine ZcH (h:=?_);rw[atO,nc h0,V0 t _ T];rfl
  ·obtain⟨j,rfl⟩:=Int.eq_ofNat_of_zero_le (by omega:0<=i);refine(Z7∘Z2∘ZaK∘Zac∘Zb∘Za1∘Zex∘Za6∘ZbV∘ZI∘Zai∘ZaR) ?_
   refine xm (fun s:Tr KT VT×Value×Nat=>[(1,.is (.int .i64 s.2.2)),(4,.own (Cell [.string ⟨#[]⟩,.string ⟨#[]⟩,.string ⟨#[]⟩,.string ⟨#[]⟩,.string ⟨#[]⟩,.string ⟨#[]⟩] 186)),(6,.is s.2.1)])
    (fun s=>TA s.1 s.2.1 B/\Tr.at' t j=Tr.at' s.1 s.2.2/\s.2.2<s.1.size/\s.1.size<=t.size) (fun s=>s.1.size) (t,root,j) ⟨hv,rfl,by dsimp only;omega,Nat.le_refl _⟩ ⟨rfl,rfl,rfl,trivial⟩ ?_
   rintro⟨s,v,m⟩ ⟨hs',hg,hlt,hz⟩;dsimp only at hs' hg hlt hz |-
   cases s with
   | nil=>cases hlt
   | node nk nx l r=>
    obtain⟨b,lv,rv,rfl,hb,hl,hr⟩:=hs';simp only[Tr.size_node] at hlt hz;by_cases h2:m<l.size
    ·rw[Tr.at_lt h2] at hg;refine(Z6∘Z9∘ZbE∘Zek∘Zc∘Z6∘ZbG∘Zab∘ZbM∘Z8∘ZbE∘ZU∘Zao) ?_;exact yn (x:=(Tr.node nk nx l r,Value.pointer (some ⟨b,0,none⟩),m)) (l,lv,m) ⟨hl,hg,h2,by dsimp only;omega⟩ (by simp only[Tr.size_node];omega) ⟨Z,Z,Z,trivial⟩
    ·by_cases h3:m>l.size
     ·rw[Tr.at_gt h3] at hg;refine(Z6∘Z9∘ZbE∘Zek∘Zc∘Z6∘ZbG∘Zac∘Zan∘ZC∘Zb∘ZO∘ZbM∘Zf∘ZbP∘ZaE∘Zc3∘Zc∘ZA∘Za∘ZbE∘ZU∘Zao) ?_;have e:((m:Int)-((l.size:Int)+1))=((m-(l.size+1):Nat):Int):=T;rw[e];exact yn (x:=(Tr.node nk nx l r,Value.pointer (some ⟨b,0,none⟩),m)) (r,rv,m-(l.size+1)) ⟨hr,hg,by dsimp only;omega,by dsimp only;omega⟩ (by simp only[Tr.size_node];omega) ⟨Z,Z,Z,trivial⟩
     ·rw[Tr.at_eq T] at hg;refine(Z6∘Z9∘ZbE∘Zek∘Zc∘Z6∘ZbG∘Zac∘Zan∘ZC∘Zb∘ZJ∘Zan∘ZT∘ZY∘Zfj∘ZaQ) ?_;refine yg1 L [.cell 4 186,.tmp 5] fun u H hH hle=>?_;refine ZcH (h:=?_);rw[atO,nc h0,zlp,hg];rfl
def _root_.Zbq(t:Wr Y->A:=by intro h;refine z7 (zx L (vs:=[_,_,_,_,_,_]) (qw Z) Z Z Z Z ⟨_,rfl⟩) Z ?_;exact h.1)(h:Y):A:=t ⟨h⟩
def _root_.Za7(t:Wr Y->A:=by intro h;refine z8 (yv Z Z Z Z) Z ?_;exact h.1)(h:Y):A:=t ⟨h⟩
def _root_.ZcI(t:Wr Y->A:=by intro h;refine z8 (Nm Z Z Z Z (nf T)) Z ?_;exact h.1)(h:Y):A:=t ⟨h⟩
def _root_.Zd7(t:Wr Y->A:=by intro h;refine z8 (Nm Z Z Z Z (ng T)) Z ?_;exact h.1)(h:Y):A:=t ⟨h⟩
def _root_.Zey(t:Wr Y->A:=by intro h;refine qg (id:=6) [(60,[77])] mixed J ?_;exact h.1)(h:Y):A:=t ⟨h⟩
def _root_.Zez(t:Wr Y->A:=by intro h;refine z8 (vk Z Z Z Z zjf Z) Z ?_;exact h.1)(h:Y):A:=t ⟨h⟩
def _root_.Zaq(t:Wr Y->A:=by exact fun h=>(ZaT∘Zaz) h.1)(h:Y):A:=t ⟨h⟩
def _root_.Zca(t:Wr Y->A:=by exact fun h=>(ZaT∘Zb4) h.1)(h:Y):A:=t ⟨h⟩
def encP(y:KT×VT):List Value:=[.agg (pl y.1 y.2).toArray]
def PairsAt(t:Tr KT VT)(a f e:Int):Value->Heap->Prop:=fun v H=>∃ b1 b2 b3 b4 root,v=.func (.func 233) #[] #[.pointer (some ⟨b1,0,none⟩),.pointer (some ⟨b2,0,none⟩),.pointer (some ⟨b3,0,none⟩),.pointer (some ⟨b4,0,none⟩)]/\
 H b1=some (.cells [root].toArray 31)/\H b2=some (.cells [.int .i64 a].toArray 3)/\H b3=some (.cells [.int .i64 f].toArray 3)/\H b4=some (.cells [.int .i64 e].toArray 3)/\TA t root H
def PairsAt.mono{t:Tr KT VT}{a f e:Int}:Kn.mono (.sat (PairsAt t a f e)):=fun _ _ _ ⟨b1,b2,b3,b4,root,h0,h1,h2,h3,h4,h5⟩ hle=>⟨b1,b2,b3,b4,root,h0,hle _ _ h1,hle _ _ h2,hle _ _ h3,hle _ _ h4,h5.le hle⟩
def Az(t:Tr KT VT)(a f e:Int)(hB:zpg B w)(hv:TA t root B):
  Ret zph 180 [root,.int .i64 a,.int .i64 f,.int .i64 e] w B (PairsAt t a f e):=by
 obtain⟨p,rfl⟩:=hv.ptr;refine yh Tryz.func180 Z Tryz.ntmps180 (np Z) hB ((Za2∘ZcF∘ZcF∘Zd) ?_);refine sk 4 rfl fun v1 H1 hs1 ⟨b1,e1,h1⟩=>?_;subst e1;refine sk 5 rfl fun v2 H2 hs2 ⟨b2,e2,h2⟩=>?_;subst e2;refine sk 6 rfl fun v3 H3 hs3 ⟨b3,e3,h3⟩=>?_;subst e3;refine sk 7 rfl fun v4 H4 hs4 ⟨b4,e4,h4⟩=>?_;subst e4;refine(Z3∘Zav∘Zc) ?_;refine yg L (rs:=[.tmp 8]) Z (fun _ _ h=>h) (hs1.trans (hs2.trans (hs3.trans hs4))) fun u H hH hle=>?_;exact⟨b1,b2,b3,b4,_,rfl,hle _ _ (hs4.le _ _ (hs3.le _ _ (hs2.le _ _ h1))),hle _ _ (hs4.le _ _ (hs3.le _ _ h2)),hle _ _ (hs4.le _ _ h3),hle _ _ h4,(((hv.le hs1.le).le hs2.le).le (hs3.le.trans hs4.le)).le hle⟩
def re{l:List (KT×VT)}{x:List Value}(h:pre++[x]<+:l.map encP):∃ y,x=encP y:=by
 have:x∈l.map encP:=h.subset (by simp);obtain⟨y,_,rfl⟩:=m8.1 this;exact⟨y,rfl⟩
abbrev Dg:List Value->List Value
 | [.agg cs]=>cs.toList
 | _=>[]
set_option maxRecDepth 10000 in
def zaj:∀ (t:Tr KT VT) (a f e:Int) {b1 b2 b3 b4:Nat} {root:Value} {w:World} {B:Heap},0<=a->a+t.size<1099511627776->zpg B w->
  B b1=some (.cells [root].toArray 31)->B b2=some (.cells [.int .i64 a].toArray 3)->B b3=some (.cells [.int .i64 f].toArray 3)->B b4=some (.cells [.int .i64 e].toArray 3)->TA t root B->
  zim zph 233 [.pointer (some ⟨b1,0,none⟩),.pointer (some ⟨b2,0,none⟩),.pointer (some ⟨b3,0,none⟩),.pointer (some ⟨b4,0,none⟩)] w B ((Tr.prs t a f e).map encP):=by
 intro t
 induction t with
 | nil=>
  intro a f e b1 b2 b3 b4 root w B ha hsz hB g1 g2 g3 g4 hv ly zpb stop C hst hY hJ hC;obtain rfl:root=.pointer none:=hv;refine yr 77 (zpb []) Tryz.func233 Z Tryz.ntmps233 (np Z) hB hJ hC ((Z7∘Zay∘Zc0∘Zw∘Zez∘Zb7∘ZaT∘Zj∘Zby∘ZbL∘Zca) ?_);exact k9 L 77 rfl (fun _ _ h=>h) nq Z Z
 | node k x l r ihl ihr=>
  intro a f e b1 b2 b3 b4 root w B ha hsz hB g1 g2 g3 g4 hv ly zpb stop C hst hY hJ hC;obtain⟨b,lv,rv,rfl,hb,hl,hr⟩:=hv;have hsn:(Tr.node k x l r).size=l.size+1+r.size:=rfl;rw[hsn] at hsz;refine yr 77 (zpb []) Tryz.func233 Z Tryz.ntmps233 (np Z) hB hJ hC ?_;by_cases h1:a+((Tr.node k x l r).size:Int)<=f
  ·have hx:Tr.prs (.node k x l r) a f e=[]:=na (.inl h1);refine(Z7∘Zay∘Zc0∘Zw∘Zez∘Zj∘Zw∘Zw∘ZbB∘Zw∘Zc1∘Zw∘ZcI∘ZaT∘Zj∘Zby∘ZbL∘Zca) ?_;exact k9 L 77 rfl (fun _ _ h=>h) nq Z (by rw[hx];rfl)
  ·by_cases h2:a>=e
   ·have hx:Tr.prs (.node k x l r) a f e=[]:=na (.inr h2);refine(Z7∘Zay∘Zc0∘Zw∘Zez∘Zj∘Zw∘Zw∘ZbB∘Zw∘Zc1∘Zw∘Zd7∘ZaT∘Zj∘Zw∘Zw∘ZdH∘Zca) ?_;exact k9 L 77 rfl (fun _ _ h=>h) nq Z (by rw[hx];rfl)
   ·have hx:Tr.prs (.node k x l r) a f e=Tr.prs l a f e++((if a+(l.size:Int)>=f/\a+(l.size:Int)<e then [(k,x)] else [])++Tr.prs r (a+l.size+1) f e):=
     nc (by rintro(h | h);exact h1 h;exact h2 h)
    rw[hx] at hY |-;simp only[zli] at hY |-;refine(Z7∘Zay∘Zc0∘Zw∘Zez∘Zj∘Zw∘Zw∘ZbB∘Zw∘Zc1∘Zw∘Zd7∘ZaT∘Zj∘Zw∘Zw∘ZdG∘Zaq∘Zal∘Zd5∘Zw∘Zw∘ZbB∘Zw) ?_;refine z81 L Z (fun u H hH hle=>UT.size_ret _ hH (UT.TA.le M hle)) ?_;refine(Zc1∘ZbC∘Zf∘Zcs∘Zw∘ZbB∘Zw∘Zw∘Zw∘Zw) ?_;refine z8 (xg L Z Z (zn Z) Z Z Z PairsAt.mono (fun u H hH hle _=>Az l a f e hH (TA.le hl hle))) Z ((Zb1∘Zak) ?_);refine sk 5 rfl fun v5 H5 hs5 ⟨b5,e5,g5⟩=>?_;subst e5;refine sk 40 rfl fun v40 H40 hs40 ⟨c1,c2,c3,c4,r1,e40,d1,d2,d3,d4,d5⟩=>?_;subst e40;have hsB:=hs5.trans hs40;have gg5:=hs40.le _ _ g5
    refine cp L (gf:=233) (caps:=[.pointer (some ⟨c1,0,none⟩),.pointer (some ⟨c2,0,none⟩),.pointer (some ⟨c3,0,none⟩),.pointer (some ⟨c4,0,none⟩)])
     [(1,.pointer (some ⟨b1,0,none⟩)),(2,.pointer (some ⟨b2,0,none⟩)),(3,.pointer (some ⟨b3,0,none⟩)),(4,.pointer (some ⟨b4,0,none⟩)),(5,.pointer (some ⟨b5,0,none⟩)),(6,.int .i64 (a+l.size))]
     (fun pre=>[(77,(zpb pre).res)]) (fun pre x=>[(77,.own (zpb pre).res),(7,.own (Cell (Dg x) 186)),(5,.is (.pointer (some ⟨b5,0,none⟩)))])
     ((Tr.prs l a f e).map encP) stop (fun _=>.ret) rfl rfl rfl ⟨rfl,rfl,rfl,rfl,rfl,rfl,rfl,nm⟩
     (fun pre p hp=>by simp only[m6] at hp;subst hp;exact ns _) hst (fun x hx=>by obtain⟨y,_,rfl⟩:=m8.1 hx;rfl) E
     (fun u H hH hle=>ihl a f e ha T hH (hle _ _ d1) (hle _ _ d2) (hle _ _ d3) (hle _ _ d4) (d5.le hle)) ?asg ?bd ?dn ?st
    case asg=>
     intro w1 Ln B' l' D' o pre x' hpre hstp hBB;obtain⟨y,rfl⟩:=re hpre;refine(ZS∘Zaj∘ZN) ?_;exact Xc nq ⟨Z,Z,Z,nm⟩
    case bd=>
     intro w1 Ln B' l' D' o pre x' hpre hstp hBB;obtain⟨y,rfl⟩:=re hpre;have q5:=hBB _ _ gg5;have hpre':=hpre.trans (List.prefix_append ((Tr.prs l a f e).map encP) (((if a+(l.size:Int)>=f/\a+(l.size:Int)<e then [(k,x)] else [])).map encP++(Tr.prs r (a+l.size+1) f e).map encP));cases hb':stop (pre++[encP y])
     ·refine(Z6∘ZE∘Zcn∘Zbq) ?_;refine zy (ue (gs:=77) hY hpre' hstp (nh Bool.not hb') Z Z Z Z Z) ((Zt∘Zad∘Zao) ?_);exact Xd nq hb' ⟨Z,nm⟩
     ·refine(Z6∘ZE∘Zcn∘Zbq) ?_;refine zy (ue (gs:=77) hY hpre' hstp (nh Bool.not hb') Z Z Z Z Z) ((Zt∘ZD) ?_);exact Di (rp (Ra nq hb' Z ⟨Z,nm⟩))
    case st=>
     intro l' D' o hstop;exact k9 L 77 rfl (fun _ _ h=>h) hsB Z (by rw[Ch _ _ _ hstop hst])
    case dn=>
     intro l' D' o hgo;have htk:=Dv (stop:=stop) ((Tr.prs l a f e).map encP) [] hgo;simp only[mh] at htk;rw[htk] at hgo |-;have gg1:=hsB.le _ _ g1;have gg2:=hsB.le _ _ g2;have gg3:=hsB.le _ _ g3;have gg4:=hsB.le _ _ g4;have ggb:=hsB.le _ _ hb;have ggr:=TA.le hr hsB.le;refine Zao (h:=?_);refine Zc6 (h:=?_)
     refine V5 (fun zpd:wa=>[(77,.own (zpb zpd).res),(1,.is (.pointer (some ⟨b1,0,none⟩))),(2,.is (.pointer (some ⟨b2,0,none⟩))),(3,.is (.pointer (some ⟨b3,0,none⟩))),(4,.is (.pointer (some ⟨b4,0,none⟩))),(5,.is (.pointer (some ⟨b5,0,none⟩))),(6,.is (.int .i64 (a+l.size)))])
      (fun zpd=>stop zpd=false/\jf stop [] zpd=zpd/\zpd++(Tr.prs r (a+l.size+1) f e).map encP=(Tr.prs l a f e).map encP++(((if a+(l.size:Int)>=f/\a+(l.size:Int)<e then [(k,x)] else [])).map encP++(Tr.prs r (a+l.size+1) f e).map encP)) ?one ?two
     case one=>
      by_cases hy1:a+(l.size:Int)>=f
      ·by_cases hy2:a+(l.size:Int)<e
       ·rw[na ⟨hy1,hy2⟩] at hY |-;have hpre:(Tr.prs l a f e).map encP++[encP (k,x)]<+:(Tr.prs l a f e).map encP++([(k,x)].map encP++(Tr.prs r (a+l.size+1) f e).map encP):=⟨(Tr.prs r (a+l.size+1) f e).map encP,by simp⟩
        cases hb':stop ((Tr.prs l a f e).map encP++[encP (k,x)])
        ·refine(Zf∘Zey∘Zj∘Zw∘ZdH∘Zm∘Zw∘Zco∘ZaT∘Zj∘Zw∘Zw∘ZbB∘Zc2) ?_;refine xw (ue (gs:=77) hY hpre hgo (nh Bool.not hb') Z Z Z Z Z) Z Z ((Za7∘Zaq∘Zbj) ?_);refine zfj ((Tr.prs l a f e).map encP++[encP (k,x)]) nq ⟨hb',?_,by simp⟩ ⟨Z,Z,Z,Z,Z,Z,Z,nm⟩;rw[af _ _ _ (by rw[htk];exact hgo),mh];simp only[jf];split<;>rfl
        ·refine(Zf∘Zey∘Zj∘Zw∘ZdH∘Zm∘Zw∘Zco∘ZaT∘Zj∘Zw∘Zw∘ZbB∘Zc2) ?_;refine xw (ue (gs:=77) hY hpre hgo (nh Bool.not hb') Z Z Z Z Z) Z Z ((Za7∘Zca) ?_);refine k9 L 77 rfl (fun _ _ h=>h) hsB Z ?_;rw[af _ _ _ (by rw[htk];exact hgo),mh];simp only[mp,zlm,zll,jf];rw[na hb']
       ·rw[nc (by rintro⟨_,h⟩;exact hy2 h)];refine(Zf∘Zey∘Zj∘Zw∘ZdH∘Zm∘Zw∘ZcQ∘ZaT∘ZdY∘Zby∘ZbL∘Zaq∘Zbj) ?_;exact zfj ((Tr.prs l a f e).map encP) nq ⟨hgo,htk,by simp⟩ ⟨Z,Z,Z,Z,Z,Z,Z,nm⟩
      ·rw[nc (by rintro⟨h,_⟩;exact hy1 h)];refine(Zf∘Zey∘Zj∘Zw∘ZdG∘Zj∘Zby∘ZbL∘ZaT∘ZdY∘Zby∘ZbL∘Zaq∘Zbj) ?_;exact zfj ((Tr.prs l a f e).map encP) nq ⟨hgo,htk,by simp⟩ ⟨Z,Z,Z,Z,Z,Z,Z,nm⟩
     case two=>
      rintro zpd ⟨hM1,hM2,hM3⟩;rw[<-hM3] at hY |-;refine(Zf∘Zej∘Zw∘ZbB∘Zw∘Zj∘Zc1∘Zw∘Zw) ?_;refine z8 (xg L Z Z (zn Z) Z Z Z PairsAt.mono (fun u H hH hle _=>Az r (a+l.size+1) f e hH (TA.le ggr hle))) Z ((Zb1∘Zak) ?_);refine sk 71 rfl fun v71 H71 hs71 ⟨c1,c2,c3,c4,r1,e71,d1,d2,d3,d4,d5⟩=>?_;subst e71;have qq5:=hs71.le _ _ gg5
      have htot:jf stop [] (zpd++(Tr.prs r (a+l.size+1) f e).map encP)=zpd++jf (fun p=>stop (zpd++p)) [] ((Tr.prs r (a+l.size+1) f e).map encP):=by
       rw[af _ _ _ (by rw[hM2];exact hM1),Ae,mh,mq]
      refine cp L (gf:=233) (caps:=[.pointer (some ⟨c1,0,none⟩),.pointer (some ⟨c2,0,none⟩),.pointer (some ⟨c3,0,none⟩),.pointer (some ⟨c4,0,none⟩)])
       [(5,.pointer (some ⟨b5,0,none⟩))]
       (fun pre=>[(77,(zpb (zpd++pre)).res)]) (fun pre x=>[(77,.own (zpb (zpd++pre)).res),(8,.own (Cell (Dg x) 186)),(5,.is (.pointer (some ⟨b5,0,none⟩)))])
       ((Tr.prs r (a+l.size+1) f e).map encP) (fun p=>stop (zpd++p)) (fun _=>.ret) rfl rfl rfl ⟨by rw[mq];rfl,rfl,nm⟩
       (fun pre p hp=>by simp only[m6] at hp;subst hp;exact ns _) (by show stop (zpd++[])=false;rw[mq];exact hM1) (fun x hx=>by obtain⟨y,_,rfl⟩:=m8.1 hx;rfl) E
       (fun u H hH hle=>ihr (a+l.size+1) f e T T hH (hle _ _ d1) (hle _ _ d2) (hle _ _ d3) (hle _ _ d4) (d5.le hle)) ?asg2 ?bd2 ?dn2 ?st2
      case asg2=>
       intro w1 Ln B' l' D' o pre x' hpre hstp hBB;obtain⟨y,rfl⟩:=re hpre;refine(ZC∘Zaj∘ZN) ?_;exact Xc nq ⟨Z,Z,Z,nm⟩
      case bd2=>
       intro w1 Ln B' l' D' o pre x' hpre hstp hBB;obtain⟨y,rfl⟩:=re hpre;have q5:=hBB _ _ qq5;have hpre':(zpd++pre)++[encP y]<+:zpd++(Tr.prs r (a+l.size+1) f e).map encP:=by rw[mj];exact(List.prefix_append_right_inj zpd).2 hpre
       cases hb':stop ((zpd++pre)++[encP y])
       ·refine(Z6∘Zat∘Zcn∘Zbq) ?_;refine zy (ue (gs:=77) hY hpre' hstp (nh Bool.not hb') Z Z Z Z Z) ((Zt∘Zad∘Zao) ?_);exact Xd nq (by rw[<-mj];exact hb') ⟨by rw[<-mj];rfl,nm⟩
       ·refine(Z6∘Zat∘Zcn∘Zbq) ?_;refine zy (ue (gs:=77) hY hpre' hstp (nh Bool.not hb') Z Z Z Z Z) ((Zt∘ZD) ?_);exact Di (rp (Ra nq (by rw[<-mj];exact hb') Z ⟨by rw[<-mj];rfl,nm⟩))
      case st2=>
       intro l' D' o hstop;exact k9 L 77 rfl (fun _ _ h=>h) (hsB.trans hs71) Z (by rw[htot])
      case dn2=>
       intro l' D' o hgo2;refine Zao (h:=?_);exact xo L 77 rfl (fun _ _ h=>h) (hsB.trans hs71) Z (by rw[htot])
abbrev tyP:TypeId:=186
abbrev tyS:TypeId:=183
def flat(l:List (KT×VT)):List Value:=l.flatMap fun y=>pl y.1 y.2
abbrev PS(l:List (KT×VT))(fu:Bool):Value->Heap->Prop:=SlV tyP 6 (flat l) l.length fu
def Q5:∀ (pre:wa) (l:List (KT×VT)),pre<+:l.map encP->∃ m:List (KT×VT),pre=m.map encP/\m.length=pre.length/\pre.flatMap Dg=flat m:=by
 intro pre l h;refine⟨l.take pre.length,?_,?_,?_⟩
 ·rw[zml];exact(List.prefix_iff_eq_take.1 h)
 ·rw[mi];have:=h.length_le;simp only[mt] at this;omega
 ·conv=>lhs;rw[List.prefix_iff_eq_take.1 h,<-zml]
  generalize l.take pre.length=m
  induction m with
  | nil=>rfl
  | cons y m ih=>simp only[mp,zl3,flat] at ih |-;rw[ih];rfl
def Ks(xs:wa):jf (fun _=>false) [] xs=xs:=by
 have:=Dv (stop:=fun _=>false) xs [] rfl;simpa using this
def za2(l:List (KT×VT))(fu:Bool)(hB:zpg B w)(hv:PS l fu v B):Ret zph 178 [v] w B (PS l true):=by
 refine yh Tryz.func178 Z Tryz.ntmps178 (np Z) hB (k8 0 (PS l fu) Z nw hv ((Z0∘Zk∘Zh∘Zh∘Zdk∘ZR∘Zs) ?_));refine yg1 L [.tmp 2] fun u H hH hle=>?_;exact fun v hv=>hv
def zbh(l:List (KT×VT))(hl:l.length<1099511627776){x:Value}{gf:Nat}(hB:zpg B w)(hx:(SlR tyP 6 0 []).P x B w C)(hC:ZCB C w B)
  (hfn:L.fn gf=some ()) (hit:∀ u H,zpg H u->B.Le H->zim zph gf caps u H (l.map encP)):
  RetL zph 179 [x,.func (.func gf) #[] caps.toArray] w B C (fun v H _=>PS l false v H):=by
 refine tw 0 (x:=x) (SlR tyP 6 0 []) Z Tryz.func179 Z Tryz.ntmps179 (np Z) hB hx hC ?_;refine tx 0 13 _ Z SlR.shape fun y hy=>?_;obtain⟨p,c,rfl⟩:=hy;refine(Zbf∘ZaK∘ZcK) ?_;refine sn 2 rfl fun b2 hb2=>?_;refine Dk 13 [] Z Z ?_
 refine cp L (gf:=gf) (caps:=caps) [(2,.pointer (some ⟨b2,0,none⟩))] (fun pre=>[(13,Xl b2 tyS (SlR tyP 6 pre.length (pre.flatMap Dg)))])
  (fun pre x=>[(13,.own (Xl b2 tyS (SlR tyP 6 pre.length (pre.flatMap Dg)))),(2,.is (.pointer (some ⟨b2,0,none⟩))),(5,.own (Cell (Dg x) tyP))])
  (l.map encP) (fun _=>false) (fun _=>.ret) rfl rfl hfn ⟨rfl,rfl,nm⟩
  (fun pre p hp=>by simp only[m6] at hp;subst hp;exact ns _) rfl (fun x hx=>by obtain⟨y,_,rfl⟩:=m8.1 hx;rfl) E hit ?asg ?bd ?dn ?st
 case asg=>
  intro w1 Ln B' l' D' o pre x' hpre hstp hBB;obtain⟨y,rfl⟩:=re hpre;refine(Zx∘Zaj∘ZN) ?_;exact Xc nq ⟨Z,Z,Z,nm⟩
 case bd=>
  intro w1 Ln B' l' D' o pre x' hpre hstp hBB;obtain⟨y,rfl⟩:=re hpre;have hlen:=hpre.length_le;simp only[nr,mt,ny,my] at hlen;refine Zak (h:=?_);refine ou 13 _ Z SlR.shape fun z hz=>?_;obtain⟨p,c,rfl⟩:=hz;refine(ZI∘Zdl) ?_;refine g0 8 13 rfl rfl ((Zbq∘Zae) ?_);refine zy (wn L rfl rfl rfl (az rfl) rfl zhp rfl rfl T T) ?_;refine dc 11 13 _ rfl SlR.shape fun z hz=>?_;obtain⟨p',c',rfl⟩:=hz;refine(ZdM∘ZN∘Zao) ?_;refine Dl 13 [] Z Z (Xd nq Z ⟨?_,nm⟩);rw[zlq,nr];rfl
 case st=>
  intro l' D' o h;cases h
 case dn=>
  intro l' D' o _;rw[Ks];refine Zao (h:=?_);refine Zc6 (h:=?_);refine ou 13 _ Z SlR.shape fun z hz=>?_;obtain⟨p,c,rfl⟩:=hz;refine(Zbm∘Zdl∘Zc) ?_;refine Fo 4 13 rfl Z (l6 4 rfl ?_);refine V6 L (rs:=[.tmp 4]) Z (fun _ _ h=>h) nq fun O' u H hH hle=>?_;obtain⟨m,h1,h2,h3⟩:=Q5 _ l (List.prefix_refl _)
  have hm:m=l:=by
   have:=List.map_inj_right (f:=encP) (fun a b h=>by
    simp only[encP,List.cons.injEq,Value.agg.injEq,and_true] at h;have h:=nh Array.toList h;simp at h
    first | exact Prod.ext h.1 h.2 | exact Prod.ext h.1 (Prod.ext (Prod.ext h.2.1 h.2.2.1) h.2.2.2) | exact Prod.ext (Prod.ext (Prod.ext h.1 h.2.1) h.2.2.1) h.2.2.2 | exact Prod.ext (Prod.ext (Prod.ext (Prod.ext h.1 h.2.1) h.2.2.1) (Prod.ext (Prod.ext h.2.2.2.1 h.2.2.2.2.1) h.2.2.2.2.2)) rfl) |>.1 h1
   exact this.symm
  subst hm;rw[h3];simp only[mt];exact fun v hv=>hv
def PS.mono{l:List (KT×VT)}:Kn.mono (.sat (PS l fu)):=nw
def Q8{t:Tr KT VT}{f e:Int}{x v:Value}(hB:zpg B w)(hx:(SlR tyP 6 0 []).P x B w C)(hC:ZCB C w B)(hv:PairsAt t 0 f e v B)(hs:t.size<1099511627776):
  RetL zph 179 [x,v] w B C (fun v H _=>PS (Tr.prs t 0 f e) false v H):=by
 obtain⟨b1,b2,b3,b4,root,rfl,h1,h2,h3,h4,h5⟩:=hv;have hlen:=Tr.prs_length_le t 0 f e;exact zbh (Tr.prs t 0 f e) T hB hx hC Z fun u H hH hle=>zaj t 0 f e (zm5 _) T hH (hle _ _ h1) (hle _ _ h2) (hle _ _ h3) (hle _ _ h4) (h5.le hle)
def Sk(t:Tr KT VT){a f e:Int}:(Tr.prs t a f e).length<=t.size:=Tr.prs_length_le t a f e
def rangeL(t:Tr KT VT)(f e:Int):List (KT×VT):=if max f 0>=min e t.size then [] else Tr.prs t 0 (max f 0) (min e t.size)
set_option maxRecDepth 10000 in
def Si{fv:Value}{t:Tr KT VT}(f e:Int)(hB:zpg B w)(hv:TA t root B)(hs:t.size<1099511627776):
  Ret zph 112 [.agg #[fv,root],.int .i64 f,.int .i64 e] w B (PS (rangeL t f e) true):=by
 refine yh Tryz.func112 Z Tryz.ntmps112 (np Z) hB ?_;unfold rangeL;by_cases h:max f 0>=min e t.size
 ·rw[na h];refine(Z7∘Zbv) ?_;refine z7 (Gv Z Z Z Z Z) Z ((Za∘Za1∘Zex) ?_);refine z7 (S6 Z Z Z Z Z) Z ((Za8∘Zb9∘Zcg∘Zu∘ZI∘Zc) ?_);refine yg1 L [.tmp 6] fun u H hH hle=>?_;exact(SlV.nil (e:=tyP))
 ·rw[nc h];have hlen:=Sk t (a:=0) (f:=max f 0) (e:=min e t.size);have e1:(if (0:Int)>f then 0 else f)=max f 0:=T;have e2:(if (t.size:Int)<e then (t.size:Int) else e)=min e t.size:=T;refine(Z7∘Zbv) ?_;refine z7 (Gv Z Z Z Z M) Z ((Za∘Za1∘Zex) ?_);refine z7 (S6 Z Z Z Z M) Z ((Za8∘Zb9∘Za6∘Zn) ?_);obtain⟨m,hm⟩:∃ m:Nat,min e (t.size:Int)-max f 0=m:=⟨(min e (t.size:Int)-max f 0).toNat,by omega⟩
  refine qg (id:=4) [(25,[19])] mixed J (Zm (h:=?_));refine z8 (yp Z Z Z Z (yy T T)) Z (z8 (Yu L _ Z Z Z zhp Z Z M T (by simp only[maxLen];omega)) Z ?_);refine(Zb2∘Zm) ?_;refine z8 (xg L Z Z (zn Z) Z Z Z PairsAt.mono (fun u H hH hle _=>Az t 0 (max f 0) (min e t.size) hH (TA.le hv hle))) Z (xw (Yx (q:=19) (cap:=[]) L Z Z Z Z Z PS.mono (fun u H C x hH hle hx hC v hv=>Q8 hH hx hC hv hs)) Z Z (z8 (xg L Z Z (zn Z) Z Z Z PS.mono (fun u H hH hle _ v hv=>za2 _ _ hH hv)) Z ((Zci∘Zb1) ?_)));refine yg1 L [.tmp 6] fun u H hH hle=>?_;exact fun v hv=>hv
end Go.V.UT
namespace Go.V.UT
abbrev MF(cf:Nat)(t:Tr KT VT):Value->Heap->Prop:=MA (.func (.func cf) #[] #[]) t
def mput_m(hc:Cmp cf c)(k:KT)(x:VT){t:Tr KT VT}(hB:zpg B w)(hv:MF cf t v B)(hs:t.size+1<1099511627776):
  Ret zph 173 [v,kv k,vv x] w B (MF cf (Tr.put c k x t)):=by
 obtain⟨p,rfl,h⟩:=hv;exact Y7 hc k x hB h hs
def mdrop_m(hc:Cmp cf c)(k:KT){t:Tr KT VT}(hB:zpg B w)(hv:MF cf t v B)(hs:t.size<1099511627776):
  Ret zph 172 [v,kv k] w B (MF cf (if (Tr.drop c k t).2=true then (Tr.drop c k t).1 else t)):=by
 obtain⟨p,rfl,h⟩:=hv;exact T3 hc k hB h hs
def len_m{fv:Value}{t:Tr KT VT}{v:Value}(hB:zpg B w)(hv:MA fv t v B)(hn:t.size=n):Ret zph 45 [v] w B (fun v _=>v=.int .i64 n):=by
 obtain⟨p,rfl,h⟩:=hv;subst hn;exact len_ret hB h
def get_m(hc:Cmp cf c)(k:KT){t:Tr KT VT}{v:Value}(hB:zpg B w)(hv:MF cf t v B){o:Option VT}(ho:Tr.get c k t=o):
  Ret zph 64 [v,kv k] w B (fun v _=>v=tup (zka o)):=by
 obtain⟨p,rfl,h⟩:=hv;subst ho;exact zem hc k hB h
def rank_m(hc:Cmp cf c)(k:KT){t:Tr KT VT}{v:Value}(hB:zpg B w)(hv:MF cf t v B)(hs:t.size<1099511627776)(hn:Tr.rank c k t=n):
  Ret zph 134 [v,kv k] w B (fun v _=>v=.int .i64 n):=by
 obtain⟨p,rfl,h⟩:=hv;subst hn;exact Yn hc k hB h hs
def at_m{fv:Value}{t:Tr KT VT}(i:Int){v:Value}(hB:zpg B w)(hv:MA fv t v B)(hs:t.size<1099511627776){o:Option (KT×VT)}(ho:atO t i=o):
  Ret zph 135 [v,.int .i64 i] w B (fun v _=>v=tup (atV o)):=by
 obtain⟨p,rfl,h⟩:=hv;subst ho;exact at_ret i hB h hs
def range_m{fv:Value}{t:Tr KT VT}(f e:Int)(hB:zpg B w)(hv:MA fv t v B)(hs:t.size<1099511627776){l:List (KT×VT)}(hl:rangeL t f e=l):
  Ret zph 112 [v,.int .i64 f,.int .i64 e] w B (PS l true):=by
 obtain⟨p,rfl,h⟩:=hv;subst hl;exact Si f e hB h hs
end Go.V.UT
namespace Go.V.L6
open Go.V.L2 Go.V.L3
def _root_.Zel(t:Wr Y->A:=by intro h;refine z71 L Z (fun u H hH hle=>UT.len_m hH (⟨_,rfl,ht.le hle⟩) Z) ?_;exact h.1)(h:Y):A:=t ⟨h⟩
def _root_.Ze0(t:Wr Y->A:=by intro h;refine z7 (yt (cs:=[_,_]) Z Z zkw Z Z) Z ?_;exact h.1)(h:Y):A:=t ⟨h⟩
abbrev fvC:Value:=.func (.func 74) #[] #[]
abbrev fvS:Value:=.func (.func 106) #[] #[]
abbrev ii:TypeId:=37
abbrev chv(x:U)(d:Bool):Value:=.agg #[.string x.1.1.1,.string x.1.1.2,.string x.1.2,.string x.2.1.1,.string x.2.1.2,.string x.2.2,.bool d]
attribute [local irreducible] V N X VO Par StepOK Has Ret RetL RetO Src
def X6{a b:U}(hB:zpg B w):Ret zph 106 [uv a,uv b] w B (fun v _=>v=.int .i64 (bq a b)):=by
 refine yh Tryz.func106 Z Tryz.ntmps106 (np Z) hB ((Za2∘Zd∘Zc0∘Zb0∘Zd0∘Zb0∘Zd0) ?_);refine z81 L Z (fun u H hH _=>cmpU_ret hH) ?_;refine(Zb0∘Zd0∘Zb0∘Zd0) ?_;refine z81 L Z (fun u H hH _=>tq hH) ?_;refine Zdi (h:=?_);refine z8 (zz L Z Z (zn Z) Z Z Z (fun u H hH _ _ v hv=>Eh hH hv)) Z (ZaP (h:=?_));exact yg2 L [.tmp 4]
def za0:UT.Cmp 74 kq:=⟨rfl,fun _ _ _ _ hH=>jh hH⟩
def zhr:UT.Cmp 106 bq:=⟨rfl,fun _ _ _ _ hH=>X6 hH⟩
def chT(c:U->U->Int)(x:U)(d:Bool)(t:Tr U Unit):Tr U Unit:=if d=true then (if (Tr.drop c x t).2=true then (Tr.drop c x t).1 else t) else Tr.put c x () t
def Df{c:U->U->Int}(hc:UT.Cmp cf c){f:Value}{t:Tr U Unit}(hf:f=.func (.func cf) #[] #[]\/(f=.nilFunc/\t=.nil))(x:U)(d:Bool)(hB:zpg B w)(ht:UT.TA t (.pointer p) B)(hs:t.size+1<1099511627776):
  Ret zph 105 [.agg #[f,.pointer p],chv x d,.func (.func cf) #[] #[]] w B (UT.MF cf (chT c x d t)):=by
 by_cases h0:t.size=0
 ·have hn:t=.nil:=by
   cases t with
   | nil=>rfl
   | node k y l r=>simp only[Tr.size] at h0;omega
  subst hn;have hz:UT.TA .nil (.pointer none) B:=rfl;refine yh Tryz.func105 Z Tryz.ntmps105 (np Z) hB ?_;unfold chT;cases d
  ·refine Zbf (h:=?_);refine Mv 3 rfl fun b hb=>?_;refine(ZcF∘ZbO∘Z3∘ZaB∘ZcA) ?_;refine z71 L rfl (fun u H hH hle=>UT.len_m hH (⟨_,rfl,ht.le hle⟩) h0) ?_;refine(ZG∘ZD∘Zo) ?_;refine z71 L rfl (fun u H hH _=>UT.new_ret _ hH) ?_;refine(ZaB∘ZdM∘Zay∘ZI∘Zai∘Zn∘ZE∘ZaB∘ZcA∘ZQ∘Zb6) ?_;refine z7 (yt (cs:=[]) rfl rfl zgs rfl rfl) rfl (z7 (xg (φ:=UT.MF cf (Tr.put c x () .nil)) L rfl rfl (zn rfl) rfl rfl rfl UT.MA.mono (fun u H hH hle _=>UT.mput_m hc x () hH (⟨_,rfl,hz.le hle⟩) hs)) rfl (w6 27 rfl ?_));rintro _ H27 hs27 ⟨q27,rfl,hp27⟩;refine(Ze0∘Zam) ?_;refine yg L (rs:=[.cell 6 35]) Z (fun _ _ h=>h) hs27 fun u H hH hle=>?_;exact⟨_,qw Z,rfl,q27,rfl,hp27.le hle⟩
  ·refine Zbf (h:=?_);refine Mv 3 rfl fun b hb=>?_;refine(ZcF∘ZbO∘Z3∘ZaB∘ZcA) ?_;refine z71 L rfl (fun u H hH hle=>UT.len_m hH (⟨_,rfl,ht.le hle⟩) h0) ?_;refine(ZG∘ZD∘Zo) ?_;refine z71 L rfl (fun u H hH _=>UT.new_ret _ hH) ?_;refine(ZaB∘ZdM∘Zay∘ZI∘Zai∘Zu∘ZS∘ZaB∘ZcA∘ZQ∘Zb6) ?_;refine z7 (xg (φ:=UT.MF cf (if (Tr.drop c x .nil).2=true then (Tr.drop c x .nil).1 else .nil)) L rfl rfl (zn rfl) rfl rfl rfl UT.MA.mono (fun u H hH hle _=>UT.mdrop_m hc x hH (⟨_,rfl,hz.le hle⟩) T)) rfl (w6 20 rfl ?_);rintro _ H20 hs20 ⟨q20,rfl,hp20⟩;refine(Ze0∘Zam) ?_;refine yg L (rs:=[.cell 6 35]) Z (fun _ _ h=>h) hs20 fun u H hH hle=>?_;exact⟨_,qw Z,rfl,q20,rfl,hp20.le hle⟩
 ·obtain rfl:f=.func (.func cf) #[] #[]:=by
   rcases hf with h | ⟨_,h⟩
   ·exact h
   ·subst h;exact ni rfl h0
  refine yh Tryz.func105 Z Tryz.ntmps105 (np Z) hB ?_;unfold chT;cases d
  ·refine Zbf (h:=?_);refine Mv 3 rfl fun b hb=>?_;refine(ZcF∘ZbO∘Z3∘ZaB∘ZcA∘Zel∘Zq∘Z4∘ZI∘Zai∘Zn∘ZE∘ZaB∘ZcA∘ZQ∘Zb6) ?_;refine z7 (yt (cs:=[]) rfl rfl zgs rfl rfl) rfl (z7 (xg (φ:=UT.MF cf (Tr.put c x () t)) L rfl rfl (zn rfl) rfl rfl rfl UT.MA.mono (fun u H hH hle _=>UT.mput_m hc x () hH (⟨_,rfl,ht.le hle⟩) hs)) rfl (w6 27 rfl ?_));rintro _ H27 hs27 ⟨q27,rfl,hp27⟩;refine(Ze0∘Zam) ?_;refine yg L (rs:=[.cell 6 35]) Z (fun _ _ h=>h) hs27 fun u H hH hle=>?_;exact⟨_,qw Z,rfl,q27,rfl,hp27.le hle⟩
  ·refine Zbf (h:=?_);refine Mv 3 rfl fun b hb=>?_;refine(ZcF∘ZbO∘Z3∘ZaB∘ZcA∘Zel∘Zq∘Z4∘ZI∘Zai∘Zu∘ZS∘ZaB∘ZcA∘ZQ∘Zb6) ?_;refine z7 (xg (φ:=UT.MF cf (if (Tr.drop c x t).2=true then (Tr.drop c x t).1 else t)) L rfl rfl (zn rfl) rfl rfl rfl UT.MA.mono (fun u H hH hle _=>UT.mdrop_m hc x hH (⟨_,rfl,ht.le hle⟩) T)) rfl (w6 20 rfl ?_);rintro _ H20 hs20 ⟨q20,rfl,hp20⟩;refine(Ze0∘Zam) ?_;refine yg L (rs:=[.cell 6 35]) Z (fun _ _ h=>h) hs20 fun u H hH hle=>?_;exact⟨_,qw Z,rfl,q20,rfl,hp20.le hle⟩
end Go.V.L6
namespace Go.V.L3
open Go.V Go.V.L2
abbrev fv(f:FT):Value:=.agg #[.string f.1.1.1,.string f.1.1.2,.string f.1.2,.string f.2.1.1.1,.string f.2.1.1.2,.string f.2.1.2,.bool f.2.2]
def FZ(f:FT):Prop:=(f.1.1.1.size<=1099511627776/\f.1.1.2.size<=1099511627776/\f.1.2.size<=1099511627776)/\f.2.1.1.1.size<=1099511627776/\f.2.1.1.2.size<=1099511627776/\f.2.1.2.size<=1099511627776
instance (f:FT):Decidable (FZ f):=inferInstanceAs (Decidable (_/\_))
attribute [local irreducible] V N X VO Par StepOK Has Ret RetL RetO RetT Src
end Go.V.L3
section
open Go.V
attribute [local irreducible] Has N Par Ret RetL Src StepOK V VO X
namespace Go.V.L3
open Go.V.L2
attribute [local irreducible] RetO RetT
def LE2.mk{a tv:Value}(h:φ tv H):TupS [φ,fun v _=>v=a] (.tuple #[tv,a]) H:=
 ⟨[tv,a],rfl,rfl,fun i ψ x hi hx=>by
  rcases i with _ | _ | i
  ·simp at hi hx;subst hi hx;exact h
  ·simp at hi hx;subst hi hx;rfl
  ·simp at hi⟩
end Go.V.L3
namespace Go.V.L6
open Go.V.L2 Go.V.L3
def _root_.Zbr(t:Wr Y->A:=by intro h;refine z7 (qp L Z Z M Z) Z ?_;exact h.1)(h:Y):A:=t ⟨h⟩
def _root_.Zdm(t:Wr Y->A:=by intro h;refine z7 (zx L (vs:=[_,_,_,_]) (y9 Z) Z Z Z Z ⟨_,rfl⟩) Z ?_;exact h.1)(h:Y):A:=t ⟨h⟩
def _root_.Zdn(t:Wr Y->A:=by intro h;refine z8 (zx L (vs:=[_,_,_,_]) (y9 Z) Z Z Z Z ⟨_,rfl⟩) Z ?_;exact h.1)(h:Y):A:=t ⟨h⟩
def _root_.ZcS(t:Wr Y->A:=by intro h;refine z7 (yt (cs:=[_,_,_,_]) Z Z zi3 Z Z) Z ?_;exact h.1)(h:Y):A:=t ⟨h⟩
def _root_.Ze1(t:Wr Y->A:=by intro h;refine z8 (zx L (vs:=[_,_,_,_,_,_,_]) (y9 Z) Z Z Z Z ⟨_,rfl⟩) Z ?_;exact h.1)(h:Y):A:=t ⟨h⟩
def _root_.Ze2(t:Wr Y->A:=by intro h;refine z8 (Tg Z Z Z Z bt4 Z) Z ?_;exact h.1)(h:Y):A:=t ⟨h⟩
def SetV(l:List U):Value->Heap->Prop:=fun v H=>∃ p q t u,TS l t u/\UT.TA t (.pointer p) H/\UT.TA u (.pointer q) H/\
 (v=.agg #[fvC,.pointer p,fvS,.pointer q]\/(l=[]/\p=none/\q=none/\v=.agg #[.nilFunc,.pointer p,.nilFunc,.pointer q]))
def SetV.mono:Kn.mono (.sat (SetV l)):=fun _ _ _ ⟨p,q,t,u,h1,h2,h3,h4⟩ hle=>⟨p,q,t,u,h1,h2.le hle,h3.le hle,h4⟩
def SetV.le{H':Heap}(h:SetV l v H)(hle:H.Le H'):SetV l v H':=SetV.mono _ _ _ h hle
def SetV.shape(h:SetV l v H):∃ f p k q,v=.agg #[f,.pointer p,k,.pointer q]/\(kx (.agg #[f,.pointer p,k,.pointer q])).all vj=true:=by
 obtain⟨p,q,_,_,_,_,_,h | ⟨_,_,_,h⟩⟩:=h
 ·exact⟨_,_,_,_,h,rfl⟩
 ·exact⟨_,_,_,_,h,rfl⟩
abbrev nilSet:Value:=.agg #[.nilFunc,.pointer none,.nilFunc,.pointer none]
def SetV.nil{H:Heap}:SetV [] nilSet H:=⟨none,none,.nil,.nil,zf8,rfl,rfl,.inr ⟨rfl,rfl,rfl,rfl⟩⟩
attribute [local irreducible] RetO
def f0(hn:l.length=n){v:Value}(hB:zpg B w)(hv:SetV l v B):Ret zph 10 [v] w B (fun v _=>v=.int .i64 n):=by
 subst hn;obtain⟨p,q,t,u,hT,ht,hu,rfl | ⟨rfl,rfl,rfl,rfl⟩⟩:=hv
 ·refine yh Tryz.func10 Z Tryz.ntmps10 (np Z) hB ((Z7∘Zaf∘ZQ∘ZQ∘Za1) ?_);refine z71 L Z (fun u H hH hle=>UT.len_m hH (⟨_,rfl,ht.le hle⟩) hT.size) ?_;refine Zc (h:=?_);exact yg2 L [.tmp 2]
 ·refine yh Tryz.func10 Z Tryz.ntmps10 (np Z) hB ((Z7∘Zaf∘ZQ∘ZQ∘Za1) ?_);refine z71 L Z (fun u H hH hle=>UT.len_m hH (⟨_,rfl,ht.le hle⟩) hT.size) ?_;refine Zc (h:=?_);exact yg2 L [.tmp 2]
def jb{x:U}{b:Bool}(hb:decide (x∈l)=b){v:Value}(hB:zpg B w)(hv:SetV l v B):Ret zph 19 [v,uv x] w B (fun v _=>v=.bool b):=by
 have hv0:=hv;obtain⟨p,q,t,u,hT,ht,hu,rfl | ⟨rfl,rfl,rfl,rfl⟩⟩:=hv
 ·have hg:=hT.get x;refine yh Tryz.func19 Z Tryz.ntmps19 (np Z) hB ?_;by_cases h0:l.length=0
  ·have hn:l=[]:=mz h0;subst hn;have hb':b=false:=by rw[<-hb];simp
   subst hb';refine(Za2∘Zah∘Zdm) ?_;refine z71 L Z (fun u H hH hle=>f0 Z hH (hv0.le hle)) ?_;refine(ZG∘Zu∘Zx∘Zc) ?_;exact yg2 L [.tmp 4]
  ·cases b
   ·have hx:x∉l:=by simpa using hb
    rw[nc hx] at hg;refine(Za2∘Zah∘Zdm) ?_;refine z71 L Z (fun u H hH hle=>f0 Z hH (hv0.le hle)) ?_;refine(Zq∘Zn∘ZI∘ZQ∘ZQ∘Za1∘Zb6) ?_;refine z71 L Z (fun u H hH hle=>UT.get_m za0 x hH (⟨_,rfl,ht.le hle⟩) hg) ?_;refine(Z1∘Zaj∘Zd∘Z9∘Zc) ?_;exact yg2 L [.tmp 4]
   ·have hx:x∈l:=by simpa using hb
    rw[na hx] at hg;refine(Za2∘Zah∘Zdm) ?_;refine z71 L Z (fun u H hH hle=>f0 Z hH (hv0.le hle)) ?_;refine(Zq∘Zn∘ZI∘ZQ∘ZQ∘Za1∘Zb6) ?_;refine z71 L Z (fun u H hH hle=>UT.get_m za0 x hH (⟨_,rfl,ht.le hle⟩) hg) ?_;refine(Z1∘Zaj∘Zd∘Z9∘Zc) ?_;exact yg2 L [.tmp 4]
 ·have hb':b=false:=by rw[<-hb];simp
  subst hb';refine yh Tryz.func19 Z Tryz.ntmps19 (np Z) hB ((Za2∘Zah∘Zdm) ?_);refine z71 L Z (fun u H hH hle=>f0 Z hH (hv0.le hle)) ?_;refine z7 (yi Z Z Z Z Z) Z ((Zu∘Zx∘Zc) ?_);exact yg2 L [.tmp 4]
def scs(x:Value×Option Addr×Value×Option Addr):List Value:=[x.1,.pointer x.2.1,x.2.2.1,.pointer x.2.2.2]
abbrev SXp:={ x:Value×Option Addr×Value×Option Addr//(scs x).all vj=true }
abbrev B7(l:List U)(x:SXp)(H:Heap):Prop:=SetV l (.agg (scs x.1).toArray) H
def ku(l:List U):a7 (B7 l):=fun _ _ _ h hle=>SetV.le h hle
def Gf(v:Value)(H:Heap)(h:SetV l v H):∃ x:SXp,B7 l x H/\kx v=scs x.1:=by
 obtain⟨f,p,k,q,rfl,hp⟩:=h.shape;exact⟨⟨(f,p,k,q),hp⟩,h,rfl⟩
abbrev zjq(l:List U)(e:Int):Value->Heap->Prop:=TupS [SetV l,fun v _=>v=.int .i64 e]
def mf4{cg:Nat}{t u:Tr U Unit}{v1 v2:Value}(h1:UT.MF cf t v1 H)(h2:UT.MF cg u v2 H):∃ p q,v1=.agg #[.func (.func cf) #[] #[],.pointer p]/\v2=.agg #[.func (.func cg) #[] #[],.pointer q]/\UT.TA t (.pointer p) H/\UT.TA u (.pointer q) H:=by
 obtain⟨p,e1,h1⟩:=h1;obtain⟨q,e2,h2⟩:=h2;exact⟨p,q,e1,e2,h1,h2⟩
def zit{t u:Tr U Unit}(h:TS l t u){x:U}{d:Bool}(hx:decide (x∈l)=d)(hc:d=false->l.length<4096)(he:tE x=0):TS (wq l x d).1 (chT kq x d t) (chT bq x d u)/\(wq l x d).2=0:=by
 unfold wq chT;rw[na he];cases d
 ·have hx':x∉l:=by simpa using hx
  rw[nc E,nc hx',nc (by have:=hc rfl;omega),nc E,nc E];exact⟨h.put hx',rfl⟩
 ·have hx':x∈l:=by simpa using hx
  rw[na rfl,na rfl,na rfl];exact⟨h.drop hx',rfl⟩
def Xq{l m:List U}{x:U}{d:Bool}{e:Int}(hr:wq l x d=(m,e))(hl:l.length<=4096)(hz:TZ x)(hB:zpg B w)(hv:SetV l v B):
  Ret zph 41 [v,chv x d] w B (zjq m e):=by
 obtain⟨f1,p1,f2,q1,hsh,hpl⟩:=hv.shape;by_cases he:tE x=0
 ·obtain⟨hin,hin0⟩:∃ b,decide (x∈l)=b:=⟨_,rfl⟩
  by_cases hd:hin=d
  ·subst hd;by_cases hfull:hin=false/\l.length=4096
   ·obtain⟨rfl,hlen⟩:=hfull
    have hw:wq l x false=([],3):=by
     unfold wq;rw[na he,nc E,nc (by simpa using hin0),na T]
    rw[hw] at hr;cases hr;subst hsh;refine yh Tryz.func41 Z Tryz.ntmps41 (np Z) hB ((Za2∘Z2∘Zah∘ZQ∘Zb6) ?_);refine z71 L Z (fun u H hH _=>he ▸ kr hz hH) ?_;refine(Zbh∘Za5∘Z4∘Zda∘Zdn∘Zb0∘ZaU) ?_;refine z81 L Z (fun u H hH hle=>jb hin0 hH (hv.le hle)) ?_;refine(Zb2∘Ze2∘Zaz∘Zal∘ZaS∘Zai∘Zt∘Za∘Zdm) ?_;refine z71 L Z (fun u H hH hle=>f0 hlen hH (hv.le hle)) ?_;refine(ZG∘ZbS∘ZK∘ZcS∘ZaQ) ?_;refine yg1 L [.cell 4 37,.tmp 5] fun u H hH hle=>?_;exact⟨_,qw Z,rfl,LE2.mk SetV.nil⟩
   ·have hc:hin=false->l.length<4096:=fun h=>by
     rcases m5 l.length 4096 with h' | h'
     ·exact h'
     ·exact ni ⟨h,by omega⟩ hfull
    obtain⟨p,q,t,u,hT,ht,hu,hv1⟩:=id hv;have hch:=zit hT hin0 hc he;rw[hr] at hch;obtain⟨hT',rfl⟩:=hch;have hts:=hT.size;have hus:=hT.zu
    have hf1:p1=p/\q1=q/\(f1=fvC\/(f1=.nilFunc/\t=.nil))/\(f2=fvS\/(f2=.nilFunc/\u=.nil)):=by
     rcases hv1 with h | ⟨h0,rfl,rfl,h⟩
     ·rw[hsh] at h;cases h;exact⟨rfl,rfl,.inl rfl,.inl rfl⟩
     ·rw[hsh] at h;cases h;subst h0
      have key:∀ {s:Tr U Unit},s.size=0->s=.nil:=fun {s} hs=>by
       cases s with
       | nil=>rfl
       | node k y l r=>simp only[Tr.size] at hs;omega
      exact⟨rfl,rfl,.inr ⟨rfl,key hts⟩,.inr ⟨rfl,key hus⟩⟩
    obtain⟨rfl,rfl,hf1,hf2⟩:=hf1;subst hsh;have hchg1:=fun(u1:World) (H:Heap) (hH:zpg H u1) (hle:B.Le H)=>Df za0 hf1 x hin hH (ht.le hle) T;have hchg2:=fun(u1:World) (H:Heap) (hH:zpg H u1) (hle:B.Le H)=>Df zhr hf2 x hin hH (hu.le hle) T;cases hin
    ·have hlen:=hc rfl;refine yh Tryz.func41 Z Tryz.ntmps41 (np Z) hB ((Za2∘Z2∘Zah∘ZQ∘Zb6) ?_);refine z71 L rfl (fun u H hH _=>he ▸ kr hz hH) ?_;refine(Zbh∘Za5∘Z4∘Zda∘Zdn∘Zb0∘ZaU) ?_;refine z81 L rfl (fun u H hH hle=>jb hin0 hH (hv.le hle)) ?_;refine(Zb2∘Ze2∘Zaz∘Zal∘ZaS∘Zai∘Zt∘Za∘Zdm) ?_;refine z71 L rfl (fun u H hH hle=>f0 rfl hH (hv.le hle)) ?_;refine(Zq∘ZbV∘Zct∘Zb0∘ZcM∘Ze1) ?_;refine z8 (xg (φ:=UT.MF 74 (chT kq x false t)) L rfl rfl (zn rfl) rfl rfl rfl UT.MA.mono (fun u H hH hle _=>hchg1 u H hH hle)) rfl ((Zb0∘ZcM∘Ze1) ?_);refine z8 (xg (φ:=UT.MF 106 (chT bq x false u)) L rfl rfl (zn rfl) rfl rfl rfl UT.MA.mono (fun u H hH hle _=>hchg2 u H hH hle)) rfl (z8 (G0 (ψ:=SetV m) rfl rfl zi3 SetV.mono (fun H _ v1 h1 v2 h2=>by obtain⟨p,q,rfl,rfl,k1,k2⟩:=mf4 h1 h2;exact⟨_,rfl,p,q,_,_,hT',k1,k2,.inl rfl⟩)) rfl ?_);refine z8 (di L (X:=SXp) (fun x=>scs x.1) (B7 m) (ku m) Gf (fun x=>⟨rfl,x.2⟩) rfl rfl rfl rfl rfl) rfl (ZaP (h:=?_));refine vm 4 rfl fun x4 H4 hs4 hx4=>?_;refine yg L (rs:=[.cell 4 37,.tmp 5]) Z (fun _ _ h=>h) hs4 fun u H hH hle=>?_;exact⟨_,qw Z,rfl,LE2.mk (hx4.le hle)⟩
    ·refine yh Tryz.func41 Z Tryz.ntmps41 (np Z) hB ((Za2∘Z2∘Zah∘ZQ∘Zb6) ?_);refine z71 L rfl (fun u H hH _=>he ▸ kr hz hH) ?_;refine(Zbh∘Za5∘Z4∘Zda∘Zdn∘Zb0∘ZaU) ?_;refine z81 L rfl (fun u H hH hle=>jb hin0 hH (hv.le hle)) ?_;refine(Zb2∘Ze2∘Zaz∘Zal∘ZaS∘Zai∘Zt∘ZbT∘Zn∘Zct∘Zb0∘ZcM∘Ze1) ?_;refine z8 (xg (φ:=UT.MF 74 (chT kq x true t)) L rfl rfl (zn rfl) rfl rfl rfl UT.MA.mono (fun u H hH hle _=>hchg1 u H hH hle)) rfl ((Zb0∘ZcM∘Ze1) ?_);refine z8 (xg (φ:=UT.MF 106 (chT bq x true u)) L rfl rfl (zn rfl) rfl rfl rfl UT.MA.mono (fun u H hH hle _=>hchg2 u H hH hle)) rfl (z8 (G0 (ψ:=SetV m) rfl rfl zi3 SetV.mono (fun H _ v1 h1 v2 h2=>by obtain⟨p,q,rfl,rfl,k1,k2⟩:=mf4 h1 h2;exact⟨_,rfl,p,q,_,_,hT',k1,k2,.inl rfl⟩)) rfl ?_);refine z8 (di L (X:=SXp) (fun x=>scs x.1) (B7 m) (ku m) Gf (fun x=>⟨rfl,x.2⟩) rfl rfl rfl rfl rfl) rfl (ZaP (h:=?_));refine vm 4 rfl fun x4 H4 hs4 hx4=>?_;refine yg L (rs:=[.cell 4 37,.tmp 5]) Z (fun _ _ h=>h) hs4 fun u H hH hle=>?_;exact⟨_,qw Z,rfl,LE2.mk (hx4.le hle)⟩
  ·have hw:wq l x d=(l,0):=by
    unfold wq;rw[na he];cases d
    ·have:hin=true:=by cases hin;exact ni rfl hd;rfl
     subst this;rw[nc E,na (by simpa using hin0)]
    ·have:hin=false:=by cases hin;rfl;exact ni rfl hd
     subst this;rw[na rfl,Qx (by simpa using hin0)]
   rw[hw] at hr;cases hr;have hb:(hin == d)=false:=by cases hin<;>cases d<;>first | rfl | exact ni rfl hd
   subst hsh;refine yh Tryz.func41 Z Tryz.ntmps41 (np Z) hB ?_;have hb2:(!(hin == d))=true:=by rw[hb];rfl
   refine(Za2∘Z2∘Zah∘ZQ∘Zb6) ?_;refine z71 L Z (fun u H hH _=>he ▸ kr hz hH) ?_;refine(Zbh∘Za5∘Z4∘Zda∘Zdn∘Zb0∘ZaU) ?_;refine z81 L Z (fun u H hH hle=>jb hin0 hH (hv.le hle)) ?_;refine Zb2 (h:=?_);refine z8 (Tg Z Z Z Z bt4 hb2) Z ((Zb4∘Zf∘ZE∘Zdm∘Zbr∘Zc) ?_);refine yg1 L [.cell 4 37,.tmp 5] fun u H hH hle=>?_;exact⟨_,qw Z,rfl,LE2.mk (hv.le hle)⟩
 ·have hw:wq l x d=([],tE x):=nc he;rw[hw] at hr;cases hr;subst hsh;refine yh Tryz.func41 Z Tryz.ntmps41 (np Z) hB ((Za2∘Z2∘Zah∘ZQ∘Zb6) ?_);refine z71 L Z (fun u H hH _=>kr hz hH) ?_;refine(Zbh∘ZaG∘ZI∘ZcS∘Za∘ZaQ) ?_;refine yg1 L [.cell 4 37,.tmp 5] fun u H hH hle=>?_;exact⟨_,qw Z,rfl,LE2.mk SetV.nil⟩
end Go.V.L6
namespace Go.V.L2
def Rn:∀ (l:List U),(l.flatMap ucs).length=l.length*6
 | []=>rfl
 | y::l=>by rw[zl3,nr,Rn l,ej,ny];omega
end Go.V.L2
end
namespace Go.V.L6
open Go.V.L2 Go.V.L3
def _root_.Zcp(t:Wr Y->A:=by intro h;refine z7 (yk L (vs:=[_,_,_,_,_,_]) Z Z Z Z Z ⟨_,rfl⟩) Z ?_;exact h.1)(h:Y):A:=t ⟨h⟩
def _root_.ZcT(t:Wr Y->A:=by intro h;refine z7 (qk L _ Z Z Z Z T) Z ?_;exact h.1)(h:Y):A:=t ⟨h⟩
def _root_.Ze3(t:Wr Y->A:=by intro h;refine z7 (Cu L Z Z Z Z) Z ?_;exact h.1)(h:Y):A:=t ⟨h⟩
def Uw(N:List (U×Unit)):UT.flat N=(kS N).flatMap ucs:=by
 unfold UT.flat kS;rw[List.flatMap_map];rfl
def Cq{t:Tr U Unit}{r:Nat}(hk:k<=t.size):kS (UT.rangeL t (r:Int) (k:Int))=((kS t.list).take k).drop r:=by
 unfold UT.rangeL;have h0:max (r:Int) 0=(r:Int):=T;have h1:min (k:Int) (t.size:Int)=(k:Int):=T;rw[h0,h1];by_cases h:(r:Int)>=k
 ·rw[na h,zlf (by rw[mi];omega)];rfl
 ·rw[nc h,Tr.prs_list];have:=Oh r k t.list 0;rw[show((0:Nat):Int)=0 from rfl] at this;rw[this,zmu,zmu];unfold kS;rw[zmz,zml]
attribute [local irreducible] V N X VO Par StepOK Has Ret RetL RetO Src
def ra{fv:Value}{t:Tr U Unit}{f e:Int}(hM:kS (UT.rangeL t f e)=zpd)(hs:t.size<=100000)(hB:zpg B w)(ht:UT.TA t (.pointer p) B):
  RetO zph 46 [.agg #[fv,.pointer p],.int .i64 f,.int .i64 e] w B (SlE tyU 6 zpd.length (zpd.flatMap ucs)):=by
 obtain⟨N,hN⟩:∃ N,UT.rangeL t f e=N:=⟨_,rfl⟩
 rw[hN] at hM;have hfl:=Uw N;have hNM:N.length=zpd.length:=by rw[<-hM];simp
 have hlen:zpd.length<=100000:=by
  rw[<-hNM,<-hN];unfold UT.rangeL;split
  ·exact mf _
  ·exact mw (Tr.prs_length_le _ _ _ _) hs
 have hat:∀ {k:Nat} {g:U},zpd[k]?=some g->((UT.flat N).drop (k*6)).take 6=[.string g.1.1.1,.string g.1.1.2,.string g.1.2,.string g.2.1.1,.string g.2.1.2,.string g.2.2]:=fun {k g} h=>by
  rw[hfl,hM];exact d6 h
 clear hM hfl;refine j7 Tryz.func46 Z Tryz.ntmps46 (np Z) hB ((Z7∘Zaf∘ZQ∘Za1∘Zb) ?_);refine z7 (xg (φ:=UT.PS N true) L Z Z (zn Z) Z Z Z UT.PS.mono (fun u H hH hle _=>UT.range_m _ _ hH (⟨_,rfl,ht.le hle⟩) T hN)) Z ((ZR∘Zg∘Zx∘Zh) ?_);refine z7 (Ei L _ Z Z Z zho Z Z Z Z T (by simp only[maxLen];omega)) Z ?_;refine zy (yo (.inr Z) Z) ((Zay∘ZI∘Zh∘Zbt) ?_);have hzl:=Cd (P:=zph) (k:=N.length*6) zho;generalize zsL zph tyU (N.length*6)=zs0 at hzl;rw[hNM] at hzl |-
 refine xm (fun s:Nat×List Value=>[(7,.sat (UT.PS N true)),(8,.own (SlE tyU 6 zpd.length ((zpd.take s.1).flatMap ucs++s.2))),(19,.is (.int .i64 zpd.length)),(20,.is (.int .i64 s.1))])
  (fun s=>s.1<=zpd.length/\s.2.length=(zpd.length-s.1)*6) (fun s=>zpd.length-s.1) (0,zs0) ⟨mf _,hzl⟩ ⟨rfl,rfl,rfl,rfl,nm⟩ ?_
 rintro⟨k,zs⟩ ⟨hk,hz⟩;dsimp only at hk hz |-;by_cases hlt:k<zpd.length
 ·obtain⟨g,hg⟩:=xi hlt;have hc:=hat hg;have hlN:k<N.length:=T;have ht1:zpd.take (k+1)=zpd.take k++[g]:=by rw[zlc,hg];rfl
  have hr:List.take (0+k*6) ((zpd.take k).flatMap ucs++zs)++(ucs g++List.drop (0+k*6+6) ((zpd.take k).flatMap ucs++zs))=(zpd.take (k+1)).flatMap ucs++zs.drop 6:=by
   rw[ht1,zlb];exact zgl ej (zpd.take k) k zpd.length zs g (by rw[mi];omega) hz hlt
  have hlen':((zpd.take (k+1)).flatMap ucs++zs.drop 6).length=zpd.length*6:=by
   rw[nr,Rn,mi,m7,hz];omega
  refine zh5 8 T Z fun b hb=>?_;have hle1:0+k*6+6<=((zpd.take k).flatMap ucs++zs).length:=by rw[hb.1];omega
  refine(Zbm∘Zz∘ZT∘Zc∘ZbG∘Zk∘Za∘Zaa∘Ze3∘Zcp∘ZcT) ?_;refine H7 L (O1:=[]) (cs':=(zpd.take (k+1)).flatMap ucs++zs.drop 6) Z Z Z Z Z Z (znf hle1) Z hr (Zbp (h:=?_));refine zbq (s:=6) 8 [] Z Z hlen' hb.2 ?_;refine(ZK∘Zbc) ?_;exact yn (x:=(k,zs)) (k+1,zs.drop 6) ⟨hlt,by dsimp only;rw[List.length_drop,hz];omega⟩ G ⟨Z,Z,Z,Z,trivial⟩
 ·obtain rfl:k=zpd.length:=by omega
  have hzn:zs=[]:=mz (by rw[hz];omega);rw[hzn,mq,zla];refine(Zbm∘ZaO∘ZC) ?_;refine zy (yo (.inl Z) Z) (zy (yo (.inr Z) Z) (Zs (h:=?_)));exact lm Z (fun _ _ h=>h) nq Z
def _root_.Ze4(t:Wr Y->A:=by intro h;refine z7 (zx L (vs:=[_,_,_]) (qh Z M) Z Z Z Z ⟨_,rfl⟩) Z ?_;exact h.1)(h:Y):A:=t ⟨h⟩
def Rr{α:Type}{p:α->Bool}:∀ {m:List α} {n:Nat},(m.take n).all p=true->(∀ x,m[n]?=some x->p x=false)->m.takeWhile p=m.take n
 | [],n,_,_=>by simp
 | y::m,0,_,h2=>by
  rw[zms,h2 y rfl];rfl
 | y::m,n+1,h1,h2=>by
  simp only[zm7,List.all_cons,zly] at h1 |-;rw[zms,na h1.1,Rr h1.2 fun x hx=>h2 x (by simpa using hx)]
def zhz{t:Tr U Unit}{g:U}(h:(kS t.list)[k]?=some g):UT.atO t (k:Int)=some (g,()):=by
 unfold UT.atO;rw[nc T,zlp,Tr.at_list];unfold kS at h;rw[zlu] at h
 cases hx:t.list[k]? with
 | none=>rw[hx] at h;cases h
 | some y=>
  rw[hx] at h;cases h;rfl
abbrev zko:TypeId:=35
def Hj{bf:Nat}{pr:U->Bool}{fv:Value}{t:Tr U Unit}{x:U}{r:Nat}(hfn:L.fn bf=some ())
  (hpr:∀ (y:U) (u:World) (H:Heap),zpg H u->B.Le H->Ret zph bf ([uv y]++caps) u H (fun v _=>v=.bool (pr y)))
  (hrk:∀ (u:World) (H:Heap),zpg H u->B.Le H->Ret zph 134 [.agg #[fv,.pointer p],uv x] u H (fun v _=>v=.int .i64 r)) (hr:r<=t.size)
  (hM:((kS t.list).drop r).takeWhile pr=zpd) (hs:t.size<=100000) (hB:zpg B w) (ht:UT.TA t (.pointer p) B):
  RetO zph 77 [.agg #[fv,.pointer p],uv x,.func (.func bf) #[] caps.toArray] w B (SlE tyU 6 zpd.length (zpd.flatMap ucs)):=by
 have hkl:(kS t.list).length=t.size:=by rw[<-Tr.size_list];simp
 refine j7 Tryz.func77 Z Tryz.ntmps77 (np Z) hB ((Za2∘Zaf∘ZQ∘Za1∘Zb6) ?_);refine z71 L Z (fun u H hH hle=>hrk u H hH hle) ?_;refine(Zbh∘Zd∘Zak) ?_
 refine xm (fun k:Nat=>[(2,.is (.func (.func bf) #[] caps.toArray)),(3,.sat (At [fv,.pointer p] zko 0)),(7,.is (.int .i64 r)),(8,.is (.int .i64 k))])
  (fun k=>r<=k/\k<=t.size/\(((kS t.list).drop r).take (k-r)).all pr=true) (fun k=>t.size-k) r ⟨ns _,hr,by rw[zmd];rfl⟩ ⟨rfl,rfl,rfl,rfl,nm⟩ ?_
 rintro k ⟨h1,h2,h3⟩
 have hlst:(∀ y,((kS t.list).drop r)[k-r]?=some y->pr y=false)->kS (UT.rangeL t (r:Int) (k:Int))=zpd:=fun h=>by
  rw[Cq h2,List.drop_take,<-hM];exact(Rr h3 h).symm
 by_cases hlt:k<t.size
 ·obtain⟨g,hg⟩:=xi (show k<(kS t.list).length by omega);have hat:=zhz hg;have hd:((kS t.list).drop r)[k-r]?=some g:=by rw[zlo,show r+(k-r)=k by omega];exact hg
  cases hb:pr g
  ·have hpg:=hpr g;rw[hb] at hpg;have hl2:=hlst fun y hy=>by rw[hd] at hy;cases hy;exact hb
   refine(Ze∘Zp∘ZQ∘Za1∘Zel∘Zag∘Zcw∘ZS∘ZQ∘Za1∘Za) ?_;refine z71 L Z (fun u H hH hle=>UT.at_m _ hH (⟨_,rfl,ht.le hle⟩) T hat) ?_;refine(Z1∘Zaj∘Zi) ?_;refine zfd 9 rfl ((ZT∘ZQ∘Zb6) ?_);refine z7 (zz L Z Z (zn Z) Z Z hfn (fun u H hH hle _=>hpg u H hH hle)) Z ((Zt∘ZD∘ZdE∘Zdt∘ZcZ∘Zbk∘ZK∘Za1∘Zb) ?_);refine z7 (wt L Z Z (zn Z) Z Z Z (fun u H hH hle _=>ra hl2 hs hH (ht.le hle))) Z (zy (yo (.inr Z) Z) (Zs (h:=?_)));exact lm Z (fun _ _ h=>h) nq Z
  ·have hpg:=hpr g;rw[hb] at hpg;refine(Ze∘Zp∘ZQ∘Za1∘Zel∘Zag∘Zcw∘ZS∘ZQ∘Za1∘Za) ?_;refine z71 L Z (fun u H hH hle=>UT.at_m _ hH (⟨_,rfl,ht.le hle⟩) T hat) ?_;refine(Z1∘Zaj∘Zi) ?_;refine zfd 9 rfl ((ZT∘ZQ∘Zb6) ?_);refine z7 (zz L Z Z (zn Z) Z Z hfn (fun u H hH hle _=>hpg u H hH hle)) Z ((Zt∘ZZ∘Zch∘ZL∘ZaE∘ZU) ?_);refine yn (x:=k) (k+1) ⟨by omega,hlt,?_⟩ T ⟨Z,Z,Z,Z,nm⟩;rw[show k+1-r=(k-r)+1 by omega,zlc,hd,zoh,h3];simp [hb]
 ·obtain rfl:k=t.size:=by omega
  have hl2:=hlst fun y hy=>by rw[zlo,zld T] at hy;cases hy
  refine(Ze∘Zp∘ZQ∘Za1∘Zel∘Za3∘ZaD∘ZK∘Za1∘Zb) ?_;refine z7 (wt L Z Z (zn Z) Z Z Z (fun u H hH hle _=>ra hl2 hs hH (ht.le hle))) Z (zy (yo (.inr Z) Z) (Zs (h:=?_)));exact lm Z (fun _ _ h=>h) nq Z
def SetV.both(hv:SetV l v B)(hl:l.length<=100000):∃ f p k q t u,v=.agg #[f,.pointer p,k,.pointer q]/\TS l t u/\UT.TA t (.pointer p) B/\UT.TA u (.pointer q) B/\
  (∀ (x:U) (w:World) (H:Heap),zpg H w->B.Le H->Ret zph 134 [.agg #[f,.pointer p],uv x] w H (fun r _=>r=.int .i64 (cr kq x l)))/\
  (∀ (x:U) (w:World) (H:Heap),zpg H w->B.Le H->Ret zph 134 [.agg #[k,.pointer q],uv x] w H (fun r _=>r=.int .i64 (cr bq x (u5 bq [] l)))):=by
 obtain⟨p,q,t,u,hT,ht,hu,rfl | ⟨rfl,rfl,rfl,rfl⟩⟩:=hv
 ·have hts:=hT.size;have hus:=hT.zu;exact⟨_,_,_,_,t,u,rfl,hT,ht,hu,fun x w H hH hle=>UT.rank_m za0 x hH (⟨_,rfl,ht.le hle⟩) T (hT.rank x),fun x w H hH hle=>UT.rank_m zhr x hH (⟨_,rfl,hu.le hle⟩) T (hT.ranku x)⟩
 ·exact⟨_,_,_,_,t,u,rfl,hT,ht,hu,fun x w H hH hle=>UT.rank_nil x hH,fun x w H hH hle=>UT.rank_nil x hH⟩
def SetV.trees(hv:SetV l v B):∃ f p k q t u,v=.agg #[f,.pointer p,k,.pointer q]/\TS l t u/\UT.TA t (.pointer p) B/\UT.TA u (.pointer q) B:=by
 obtain⟨p,q,t,u,hT,ht,hu,rfl | ⟨rfl,rfl,rfl,rfl⟩⟩:=hv
 ·exact⟨_,_,_,_,t,u,rfl,hT,ht,hu⟩
 ·exact⟨_,_,_,_,t,u,rfl,hT,ht,hu⟩
def zgh(hl:l.length<=100000)(hB:zpg B w)(hv:SetV l v B):RetO zph 11 [v] w B (SlE tyU 6 l.length (l.flatMap ucs)):=by
 obtain⟨f,p,k,q,t,u,rfl,hT,ht,hu⟩:=hv.trees;have hts:=hT.size
 have hr:kS (UT.rangeL t 0 (l.length:Int))=l:=by
  have:=Cq (t:=t) (r:=0) (k:=l.length) T;rw[show((0:Nat):Int)=0 from rfl] at this;rw[this,hT.kt,zl7,zla]
 refine j7 Tryz.func11 Z Tryz.ntmps11 (np Z) hB ((Z7∘Zd) ?_);refine qg (id:=1) [(2,[7])] mixed J ((Zb0∘ZcM∘Zdn) ?_);refine z81 L Z (fun u H hH hle=>f0 Z hH (hv.le hle)) ?_;refine z8 (wt L Z Z (zn Z) Z Z Z (fun u H hH hle _=>ra hr T hH (ht.le hle))) Z (xw (yo (.inr Z) Z) Z Z (Zb1 (h:=?_)));exact lm Z (fun _ _ h=>h) nq Z
def Pw{g:gj}{y:U}{r:Bool}(hr:decide (y.1=g)=r)(hB:zpg B w)(hb:B b=some (.cells #[.string g.1.1,.string g.1.2,.string g.2] 54)):
  Ret zph 103 ([uv y]++[.pointer (some ⟨b,0,none⟩)]) w B (fun v _=>v=.bool r):=by
 have he:=eq3 hr;refine yh Tryz.func103 Z Tryz.ntmps103 (np Z) hB ((Z7∘Zaf∘ZQ∘Zcz∘Ze4) ?_);refine z7 (ev Z Z Z Z zhn M Z) Z (Zc (h:=?_));exact yg2 L [.tmp 3]
def R6{g:gj}{y:U}{r:Bool}(hr:decide (y.2=g)=r)(hB:zpg B w)(hb:B b=some (.cells #[.string g.1.1,.string g.1.2,.string g.2] 55)):
  Ret zph 161 ([uv y]++[.pointer (some ⟨b,0,none⟩)]) w B (fun v _=>v=.bool r):=by
 have he:=eq3 hr;refine yh Tryz.func161 Z Tryz.ntmps161 (np Z) hB ((Z7∘Zaf∘ZQ∘Zcz∘Ze4) ?_);refine z7 (ev Z Z Z Z zk6 M Z) Z (Zc (h:=?_));exact yg2 L [.tmp 3]
abbrev g3v(g:gj):Value:=.agg #[.string g.1.1,.string g.1.2,.string g.2]
def zgk{g:gj}(hM:cw l g=zpd)(hl:l.length<=100000)(hB:zpg B w)(hv:SetV l v B):RetO zph 39 [v,g3v g] w B (SlE tyU 6 zpd.length (zpd.flatMap ucs)):=by
 obtain⟨f,p,k,q,t,u,rfl,hT,ht,hu,hr1,_⟩:=hv.both hl;have hts:=hT.size;have hrun:=Yl hT.st g;rw[hM] at hrun;have hkt:=hT.kt;refine j7 Tryz.func39 Z Tryz.ntmps39 (np Z) hB ((Za2∘Zd) ?_);refine sk 3 rfl ?_;rintro _ H3 hs3 ⟨b3,rfl,hb3⟩;refine(Z3∘ZQ∘Za1∘Ze4∘Zcm∘Zav) ?_;refine z7 (wt L Z Z (zn Z) Z Z Z (fun u H hH hle _=>Hj (zpd:=zpd) (caps:=[.pointer (some ⟨b3,0,none⟩)]) (pr:=fun z=>decide (z.1=g)) (x:=(g,n3)) Z (fun y u' H' hH' hle'=>Pw Z hH' (hle' _ _ (hle _ _ hb3))) (fun u' H' hH' hle'=>hr1 _ u' H' hH' (hs3.le.trans (hle.trans hle'))) (by rw[hts];exact Eb _ _) (by rw[hkt];exact hrun) T hH (ht.le (hs3.le.trans hle)))) Z ?_;refine zy (yo (.inr Z) Z) (Zs (h:=?_));exact lm Z (fun _ _ h=>h) hs3 Z
def ziy{g:gj}(hM:zfn l g=zpd)(hl:l.length<=100000)(hB:zpg B w)(hv:SetV l v B):RetO zph 89 [v,g3v g] w B (SlE tyU 6 zpd.length (zpd.flatMap ucs)):=by
 obtain⟨f,p,k,q,t,u,rfl,hT,ht,hu,_,hr2⟩:=hv.both hl;have hus:=hT.zu;have hrun:=zdk hT.st g;rw[hM] at hrun;have hkt:=hT.bySub;have hln:(u5 bq [] l).length=u.size:=by rw[<-hkt,<-Tr.size_list];simp
 refine j7 Tryz.func89 Z Tryz.ntmps89 (np Z) hB ((Za2∘Zd) ?_);refine sk 3 rfl ?_;rintro _ H3 hs3 ⟨b3,rfl,hb3⟩;refine(Z3∘ZQ∘Za1∘Ze4∘Zcm∘Zav) ?_;refine z7 (wt L Z Z (zn Z) Z Z Z (fun u H hH hle _=>Hj (zpd:=zpd) (caps:=[.pointer (some ⟨b3,0,none⟩)]) (pr:=fun z=>decide (z.2=g)) (x:=(n3,g)) Z (fun y u' H' hH' hle'=>R6 Z hH' (hle' _ _ (hle _ _ hb3))) (fun u' H' hH' hle'=>hr2 _ u' H' hH' (hs3.le.trans (hle.trans hle'))) (by rw[<-hln];exact Eb _ _) (by rw[hkt];exact hrun) T hH (hu.le (hs3.le.trans hle)))) Z ?_;refine zy (yo (.inr Z) Z) (Zs (h:=?_));exact lm Z (fun _ _ h=>h) hs3 Z
attribute [local irreducible] RetT
def _root_.Zr(t:Wr Y->A:=by intro h;refine z8 (qk L _ Z Z Z Z T) Z ?_;exact h.1)(h:Y):A:=t ⟨h⟩
def _root_.ZdN(t:Wr Y->A:=by intro h;refine z7 (ua L (kh:=.i64) (ph:=0) _ _ Z Z Z Z Z ⟨rfl,rfl⟩ Z T T) Z ?_;exact h.1)(h:Y):A:=t ⟨h⟩
def _root_.Ze5(t:Wr Y->A:=by intro h;refine qg (id:=11) [(200038,[900]),(200043,[900])] mixed J ?_;exact h.1)(h:Y):A:=t ⟨h⟩
def _root_.Ze6(t:Wr Y->A:=by intro h;refine qg (id:=6) [(200019,[900]),(200024,[900])] mixed J ?_;exact h.1)(h:Y):A:=t ⟨h⟩
def _root_.Z5(t:Wr Y->A:=by exact fun h=>(Zm∘Zr) h.1)(h:Y):A:=t ⟨h⟩
def _root_.ZdO(t:Wr Y->A:=by exact fun h=>(Zm∘Zc9) h.1)(h:Y):A:=t ⟨h⟩
def _root_.Zbs(t:Wr Y->A:=by exact fun h=>(ZdO∘Zr) h.1)(h:Y):A:=t ⟨h⟩
def _root_.Zcb(t:Wr Y->A:=by exact fun h=>(ZS∘Zb) h.1)(h:Y):A:=t ⟨h⟩
def _root_.Zfk(t:Wr Y->A:=by intro h;refine Zb (h:=?_);refine z7 (ua L (kl:=.i64) (pl:=0) 0 _ Z Z Z Z Z Z ⟨rfl,rfl⟩ T T) Z ?_;exact h.1)(h:Y):A:=t ⟨h⟩
def oc(g:gj):List Value:=[.string g.1.1,.string g.1.2,.string g.2]
abbrev zjj(g:gj):List Value:=[.string g.1.1,.string g.1.2,.string g.2]
def N7(g:gj):(oc g).length=3:=rfl
abbrev Rp:TypeId:=54
abbrev G3S(l:List gj)(fu:Bool):Value->Heap->Prop:=SlV Rp 3 (l.flatMap oc) l.length fu
def zas{l:List gj}{g:gj}(h:l[i]?=some g):((l.flatMap oc).drop (i*3)).take 3=[.string g.1.1,.string g.1.2,.string g.2]:=ut N7 l i g h
def ed(l:List gj):(l.flatMap oc).length=l.length*3:=wg N7 l
def tn{l:List gj}{t:gj}(h:l[i]?=some t)(off:Nat)(ho:off=i*3):∃ r,(l.flatMap oc++rest).drop off=zjj t++r:=by
 subst ho;have h1:((l.flatMap oc).drop (i*3)).take 3=zjj t:=zas h;have h2:=get_lt h;refine⟨((l.flatMap oc).drop (i*3)).drop 3++rest,?_⟩;rw[zoj (by rw[ed];exact zmf _ T),<-mj];congr 1;rw[<-h1,m9]
def Uv{ls:List gj}{z:gj}(h:k<ls.length)(off:Nat)(ho:off=k*3):(ls.flatMap oc++rest).take off++(zjj z++(ls.flatMap oc++rest).drop (off+3))=(ls.set k z).flatMap oc++rest:=by
 subst ho;have e1:ls=ls.take k++(ls[k]::ls.drop (k+1)):=by rw[zo5,m9]
 have hk:(ls.take k).length=k:=by rw[mi];omega
 have e2:ls.set k z=ls.take k++(z::ls.drop (k+1)):=by
  conv=>lhs;rw[e1]
  rw[zoq _ _ T,hk,zmd];rfl
 rw[e2];generalize ls.take k=A at e1 hk;generalize ls.drop (k+1)=D at e1;generalize ls[k]=y at e1;subst e1;have hA:(A.flatMap oc).length=k*3:=by rw[ed,hk]
 simp only[zlq,zl3,mj];rw[znd hA,show k*3+3=(A.flatMap oc).length+3 by omega,<-zlz,zm6,show(oc y++(D.flatMap oc++rest)).drop 3=D.flatMap oc++rest from zor rfl];rfl
def Ma{ls:List gj}{zs:List Value}(hm:ls.length=m)(hk:k<=m)(ho:off=k*3):(ls.flatMap oc++rest).take off++(zs++(ls.flatMap oc++rest).drop (off+(m-k)*3))=(ls.take k).flatMap oc++(zs++rest):=by
 subst hm ho;have h1:k*3+(ls.length-k)*3=(ls.flatMap oc).length:=by rw[ed];omega
 rw[h1,zm6];congr 1;rw[zn2 (by rw[ed];exact zmf _ hk)]
 conv=>lhs;rw[<-m9 k ls,zlq]
 rw[znd (by rw[ed,mi];congr 1;omega)]
def E2{l:List gj}{p:Nat}{y z:gj}(hy:l[p]?=some y)(hz:l[p+1]?=some z):dd (l.take (p+2))=if z=y then dd (l.take (p+1)) else dd (l.take (p+1))++[z]:=by
 have e:l.take (p+2)=l.take (p+1)++[z]:=by rw[zlc,hz];rfl
 rw[e];refine Me _ y z ?_;rw[zlc,hy];simp
def Hp{l:List gj}(hz:l.length<=100000){x:Value}(hB:zpg B w)(hx:(SlR Rp 3 l.length (l.flatMap oc)).P x B w C)(hC:ZCB C w B):
  RetT zph 99 [x] w B C (SlR Rp 3 (dd l).length ((dd l).flatMap oc)):=by
 unfold RetT;refine tw 0 (x:=x) (SlR Rp 3 l.length (l.flatMap oc)) Z Tryz.func99 Z Tryz.ntmps99 (np Z) hB hx hC ?_;refine b9 0 900 rfl (fun hm hn=>?_) fun b cap rest hl hmc hcm hcl=>?_
 ·have h0:l=[]:=mz hm;subst h0;refine(ZaN∘ZaC∘Zab∘Zu∘Zo∘Zc) ?_;exact gh 2 Rp 3 rfl (dx Z (fun _ _ h=>h) nq Z)
 ·by_cases h2:l.length<2
  ·have hdd:dd l=l:=by
    rcases l with _ | ⟨a,_ | ⟨b,l⟩⟩
    ·rfl
    ·rfl
    ·simp only[ny] at h2;omega
   rw[hdd];refine(ZaN∘ZaC∘Zab∘Zu∘Zo∘Zc) ?_;exact jw 2 900 rfl Z Z hl hmc hcm hcl (dx Z (fun _ _ h=>h) nq Z)
  ·refine(ZaN∘ZaC∘Zac∘Z4∘ZI∘ZaR) ?_
   refine xm (fun i:Nat=>[(0,.is (.slice (some ⟨b,0,none⟩) l.length cap)),(3,.is (.int .i64 (i+1:Nat))),(900,.own (xk b (l.flatMap oc++rest) Rp))])
    (fun i=>i+1<=l.length/\dd (l.take (i+1))=l.take (i+1)) (fun i=>l.length-i) 0 ⟨by omega,by rcases l with _ | ⟨a,l⟩<;>simp [dd]⟩ ⟨rfl,rfl,rfl,nm⟩ ?_
   rintro i ⟨hi,hd⟩;by_cases hlt:i+1<l.length
   ·obtain⟨y,hy⟩:=xi (show i<l.length by omega);obtain⟨z,hzz⟩:=xi hlt;have q1:=tn (rest:=rest) hzz (0+(i+1)*3) T;have q2:=tn (rest:=rest) hy (0+i*3) T;have hsub:IntKind.i64.wrap (((i+1:Nat):Int)-1)=(i:Int):=yy T T |>.trans T;by_cases hzy:z=y
    ·have hq:=eq3 (nf hzy);have hne:¬ cap=i+1:=T;refine(Ze∘Zcb∘ZaC∘Zag∘Zbl∘Ze6∘Z5) ?_;refine qn (xq L (q:=900) (vs:=[_,_,_]) Z Z Z Z q1) Z Z (Zbs (h:=?_));refine qn (xq L (q:=900) (vs:=[_,_,_]) Z Z Z Z q2) Z Z (z8 (ev Z Z Z Z zhn M Z) Z ((Zb4∘Zf∘ZbY∘ZdN∘Zi∘ZC∘ZaR) ?_));rw[nc hne];have hdi:dd (l.take (i+1+1))=l.take (i+1):=by rw[E2 hy hzz,na hzy,hd]
     refine xm (fun s:Nat×Nat×List gj=>[(0,.is (.slice (some ⟨b,0,none⟩) l.length cap)),(3,.is (.int .i64 s.1)),(4,.is (.slice (some ⟨b,0+(i+1)*3,none⟩) (l.length-(i+1)) (cap-(i+1)))),(5,.is (.int .i64 (s.2.1+1:Nat))),(900,.own (xk b (s.2.2.flatMap oc++rest) Rp))])
      (fun s=>s.2.2.length=l.length/\s.1<=i+1+s.2.1/\i+1+s.2.1+1<=l.length/\s.2.2.take s.1=dd (l.take (i+1+s.2.1+1))/\s.2.2.drop (i+1+s.2.1)=l.drop (i+1+s.2.1)) (fun s=>l.length-s.2.1) (i+1,0,l) ⟨rfl,ns _,hlt,hdi.symm,rfl⟩ ⟨rfl,rfl,rfl,rfl,rfl,nm⟩ ?_
     clear hd hq hzy q1 q2 hsub hdi hy hzz y z;rintro⟨k,j,ls⟩ ⟨hls,hkp,hpl,htk,hdr⟩;dsimp only at hls hkp hpl htk hdr |-;by_cases hend:i+1+j+1<l.length
     ·obtain⟨y,hy⟩:=xi (show i+1+j<l.length by omega);obtain⟨z,hz2⟩:=xi hend
      have e1:ls[i+1+j]?=some y:=by
       have:=nh (·[0]?) hdr;simp only[zlo,znl] at this;rw[this,hy]
      have e2:ls[i+1+j+1]?=some z:=by
       have:=nh (·[1]?) hdr;simp only[zlo] at this;rw[this,hz2]
      have q1:=tn (rest:=rest) e2 (0+(i+1)*3+(j+1)*3) T;have q2:=tn (rest:=rest) e1 (0+(i+1)*3+j*3) T;have hsub:IntKind.i64.wrap (((j+1:Nat):Int)-1)=(j:Int):=yy T T |>.trans T;have hst:=E2 hy hz2
      have hdr':ls.drop (i+1+(j+1))=l.drop (i+1+(j+1)):=by
       have:=nh (List.drop 1) hdr;rw[zlz,zlz] at this;exact this
      by_cases hzy:z=y
      ·have hq:=eq3 (nf hzy);rw[na hzy] at hst;refine(Ze∘ZbP∘ZaC∘Zag∘Zbl∘Ze5∘Z5) ?_;refine qn (xq L (q:=900) (vs:=[_,_,_]) Z Z Z Z q1) Z Z (Zbs (h:=?_));refine qn (xq L (q:=900) (vs:=[_,_,_]) Z Z Z Z q2) Z Z (z8 (Lv Z Z Z Z zhn M Z) Z ((Zaz∘Zbj∘ZP∘ZA∘Za∘ZbW) ?_));exact yn (x:=(k,j,ls)) (k,j+1,ls) ⟨hls,by dsimp only;omega,by dsimp only;omega,htk.trans hst.symm,hdr'⟩ G ⟨Z,Z,Z,Z,Z,trivial⟩
      ·have hq:=eq3 (ng hzy);rw[nc hzy] at hst;have hkl:k<ls.length:=T;have hset:=Uv (rest:=rest) (z:=z) hkl (0+k*3) T;have hble:Nat.ble (0+k*3+3) (ls.flatMap oc++rest).length=true:=znf (by rw[nr,ed];omega);refine(Ze∘ZbP∘ZaC∘Zag∘Zbl∘Ze5∘Z5) ?_;refine qn (xq L (q:=900) (vs:=[_,_,_]) Z Z Z Z q1) Z Z (Zbs (h:=?_));refine qn (xq L (q:=900) (vs:=[_,_,_]) Z Z Z Z q2) Z Z (z8 (Lv Z Z Z Z zhn M Z) Z ((Zb4∘Zf∘ZW∘ZaI∘ZcT) ?_));refine qz (xq L (q:=900) (vs:=[_,_,_]) Z Z Z Z q1) (ZcT (h:=?_));refine xh (ye L (q:=900) Z Z hble Z hset) ((Zs∘ZX∘Za∘ZbW∘ZP∘ZA∘Za∘ZbW) ?_)
       exact yn (x:=(k,j,ls)) (k+1,j+1,ls.set k z) ⟨by rw[List.length_set];exact hls,by dsimp only;omega,by dsimp only;omega,by
        dsimp only;rw[show i+1+(j+1)+1=i+1+j+2 by omega,hst,<-htk,zlc,zn0 hkl,znz (ns _)];rfl,by
        dsimp only;rw[List.drop_set_of_lt T];exact hdr'⟩ G ⟨rfl,rfl,rfl,rfl,rfl,nm⟩
     ·have hfull:l.take (i+1+j+1)=l:=zle T;rw[hfull] at htk;have hkd:(dd l).length=k:=by rw[<-htk,mi];omega
      subst hkd;have hzl:(Builtin.zeroCells (Value.cells (.agg #[.string ⟨#[]⟩,.string ⟨#[]⟩,.string ⟨#[]⟩])) (l.length-(dd l).length)).toList.length=(l.length-(dd l).length)*3:=by rw[zlw,size_zeroCells];rfl
      have hcl2:=Ma (rest:=rest) (zs:=(Builtin.zeroCells (Value.cells (.agg #[.string ⟨#[]⟩,.string ⟨#[]⟩,.string ⟨#[]⟩])) (l.length-(dd l).length)).toList) hls T (show 0+(dd l).length*3=(dd l).length*3 by omega);rw[htk] at hcl2;have hne2:¬ cap=(dd l).length:=T;have hne3:¬ cap=0:=T;have hbd:0+(dd l).length*3+(l.length-(dd l).length)*3<=(ls.flatMap oc++rest).length:=by rw[nr,ed];omega
      refine(Ze∘ZbP∘ZaC∘Za3∘ZaD∘Zbo∘Zb∘ZdN) ?_;rw[nc hne2];refine xh (Gy L (q:=900) Z Z Z Z zkb Z Z (.inr hbd) (fun _=>hcl2) (fun h=>by omega)) ?_;refine(Zg∘Za0∘Zfk∘Zc) ?_;rw[nc hne3]
      refine jw (m:=(dd l).length) (cap:=cap) (s:=3) 2 900 rfl Z Z (ed _) T hcm (by
       rw[ed] at hl;simp only[nr,ed,hzl] at hcl |-;omega) ?_
      exact dx Z (fun _ _ h=>h) nq Z
    ·have hq:=eq3 (ng hzy);have hst:=E2 hy hzz;rw[nc hzy,hd] at hst;refine(Ze∘Zcb∘ZaC∘Zag∘Zbl∘Ze6∘Z5) ?_;refine qn (xq L (q:=900) (vs:=[_,_,_]) Z Z Z Z q1) Z Z (Zbs (h:=?_));refine qn (xq L (q:=900) (vs:=[_,_,_]) Z Z Z Z q2) Z Z (z8 (ev Z Z Z Z zhn M Z) Z ((Zaz∘Zbj∘ZP∘ZT∘ZbW) ?_));exact yn (x:=i) (i+1) ⟨hlt,by rw[hst,zlc (i:=i+1),hzz];rfl⟩ T ⟨Z,Z,Z,nm⟩
   ·have hie:i+1=l.length:=T;rw[hie,zla] at hd;rw[hd];refine(Ze∘Zcb∘ZaC∘Za3∘ZaD∘Zap∘Za∘Zc) ?_;exact jw 2 900 rfl Z Z hl hmc hcm hcl (dx Z (fun _ _ h=>h) nq Z)
end Go.V.L6
end
