/- Texts on the way to WiresLoad, part 3: one behind another. -/
import Derived.Test.YtefilnnomholbaaGreatWiresLoadM2
import Derived.Lib.Builder
import Derived.Lib.IndexMore
import Derived.Lib.UnsafeStr
import Derived.Laws.IdiomStrings
import Derived.Laws.BytesArg
set_option linter.unusedVariables false
set_option linter.unusedSimpArgs false
set_option maxRecDepth 20000
set_option maxHeartbeats 8000000
set_option linter.defProp false
open Go.Proofs Go.RowKit
section
variable{P:Go.Program}{F:Go.V.Fr}{B H:Go.V.Heap}{O:Go.V.Boxes}{cf i k lim m n off q rb wb:Nat}{ops:Array Go.Oper}{κ:Go.V.Kap}{d fu:Bool}{a b c s str:ByteArray}{t' ty:Go.TypeId}{pos:String}{aft:Array Go.Edge}{g:Option (Nat×Bool)}{y:Go.Operand}{cs:Array Go.Value}{u w:Go.World}{fr:Nat×Nat}{e f:Int}{root sv v:Go.Value}{r:ByteArray×ByteArray×ByteArray×Int}{C:Nat->Prop}{cap caps fst xs:List Go.Value}{p:Option Go.Addr}{bs:List Nat}{α:Type}{places:List (Nat×Nat)}{φ ψ:Go.Value->Go.V.Heap->Prop}{tts:Array Go.TypeId}{R:Go.V.L4.Rd}{A Y:Prop}
namespace Go.V
section
variable        {d b:Nat}     {src dst t:TypeId} {x:Operand} {cs:List Value}
def rf{vs:Array Value}(h:u.heap[b]?=some (.cells vs t' fr)):u.shape? b=some (t',vs.size):=by simp [World.shape?,h]
def Ow(hx:evK κ x=some (.pointer (some ⟨b,0,none⟩)))(hq:κ q=some (.own (xn b cs t')))(hn:Nat.blt d n=true)(hg:gK ops κ ⟨some d,.convert src dst x,ty,pos,aft,g⟩=some true)(hs:P.underlying src=some (.pointer t))(hd:P.underlying dst=some .unsafePointer)(hj:(P.info? t).map (fun j=>decide (j.size≠0))=some true)(hc:Nat.ble 1 cs.length=true):
  StepOKR P F B n ops O κ ⟨some d,.convert src dst x,ty,pos,aft,g⟩ q d (.is (.pointer (some ⟨b,0,none⟩))):=by
 obtain⟨j,ht,hj⟩:∃ j,P.info? t=some j/\j.size≠0:=by
  cases h:P.info? t with
  | none=>rw[h] at hj;cases hj
  | some j=>rw[h] at hj;exact⟨j,rfl,by simpa using hj⟩
 rintro κ' a u hlk hqk ⟨H,fp,hh⟩;unfold After;rw[na (xk hh hlk hg)];have e:=hh.env hlk;have h1:=e.is_ x _ (by simp [Op.operands]) hx;obtain⟨⟨h2,hC⟩,hM⟩:=hh.slot q _ (hqk.trans hq);have hr:=Lib.run_to_unsafe (P:=P) u (src:=src) (dst:=dst) ⟨b,0,none⟩ hs hd ht hj (rf h2) (by have:=np hc;simp only[zp8];omega)
 have hrun:(execOp a.eval ⟨some d,.convert src dst x,ty,pos,aft,g⟩).run P u=.ok (.value (.pointer (some ⟨b,0,none⟩))) u:=by
  simp only[execOp,h1,ny,mg,hr,mb]
 rw[hrun];simp only[Upon];exact⟨H,fp,hh.put (k:=.is _) (zp hn) trivial Z⟩
def G8(hx:evK κ x=some (.pointer (some ⟨b,0,none⟩)))(hq:κ q=some (.own (xn b cs t')))(hn:Nat.blt d n=true)(hg:gK ops κ ⟨some d,.convert src dst x,ty,pos,aft,g⟩=some true)(hs:P.underlying src=some .unsafePointer)(hd:P.underlying dst=some (.pointer t))(ht:(P.info? t).isSome=true)(hm:cs.length=m)(hl:liesAt P P.depth t' (m/P.cellsOf t') 0 t 1=true):
  StepOKR P F B n ops O κ ⟨some d,.convert src dst x,ty,pos,aft,g⟩ q d (.is (.pointer (some ⟨b,0,none⟩))):=by
 obtain⟨j,ht⟩:=zpd.1 ht;rintro κ' a u hlk hqk ⟨H,fp,hh⟩;subst hm;unfold After;rw[na (xk hh hlk hg)];have e:=hh.env hlk;have h1:=e.is_ x _ (by simp [Op.operands]) hx;obtain⟨⟨h2,hC⟩,hM⟩:=hh.slot q _ (hqk.trans hq);have hr:=Lib.run_from_unsafe (P:=P) u (src:=src) (dst:=dst) ⟨b,0,none⟩ hs hd ht (rf h2) (by simpa using hl)
 have hrun:(execOp a.eval ⟨some d,.convert src dst x,ty,pos,aft,g⟩).run P u=.ok (.value (.pointer (some ⟨b,0,none⟩))) u:=by
  simp only[execOp,h1,ny,mg,hr,mb]
 rw[hrun];simp only[Upon];exact⟨H,fp,hh.put (k:=.is _) (zp hn) trivial Z⟩
def Tj{te:TypeId}{a0:Addr}(hn:Nat.blt d n=true)(hg:gK ops κ ⟨some d,.binOp .neq t x y t',ty,pos,aft,g⟩=some true)(hx:evK κ x=some (.pointer (some a0)))(hy:evK κ y=some (.pointer (some a0)))(hp:P.underlying t=some (.pointer te))(hte:(P.info? te).isSome=true):
  StepOK P F B n ops O κ ⟨some d,.binOp .neq t x y t',ty,pos,aft,g⟩ d (.is (.bool false)):=by
 obtain⟨j,hte⟩:=zpd.1 hte;exact vn hn hg hx hy fun u=>Lib.run_neq_ptr_same u a0 hp hte
def O5{f:Nat}{at_:Array TypeId}{fo:Operand}{r:Value}(hn:Nat.blt d n=true)(hg:gK ops κ ⟨some d,.call { callee:=.value fo,args:=#[x],argTypes:=at_ },ty,pos,aft,g⟩=some true)(hfo:evK κ fo=some (.func (.func f) #[] #[]))(hx:evK κ x=some v)(hext:∀ u,(callFunc f #[v]).run P u=.ok (.value r) u):
  StepOK P F B n ops O κ ⟨some d,.call { callee:=.value fo,args:=#[x],argTypes:=at_ },ty,pos,aft,g⟩ d (.is r):=by
 rintro κ' a u hlk ⟨H,fp,hh⟩;unfold After;rw[na (xk hh hlk hg)];have e:=hh.env hlk;have h1:a.eval x=v:=e.is_ x _ (by simp [Op.operands,Call.operands]) hx;have h2:a.eval fo=.func (.func f) #[] #[]:=e.is_ fo _ (by simp [Op.operands,Call.operands]) hfo
 have hrun:(execOp a.eval ⟨some d,.call { callee:=.value fo,args:=#[x],argTypes:=at_ },ty,pos,aft,g⟩).run P u=.ok (.value r) u:=by
  simp only[execOp,resolve,h2,Deferred.ofValue,ny,mg,mb,invoke];simp [h1,hext]
 rw[hrun];simp only[Upon];exact⟨H,fp,hh.put (k:=.is r) (zp hn) trivial Z⟩
end
end Go.V
namespace Go.V
def zei(u:World){t ty2 e:TypeId}{aty:TypeId}{i:TypeInfo}{z:Value}(ht:P.underlying t=some (.slice e))(hu:P.underlying ty2=some .string)(hi:P.info? e=some i)(hz:i.zero=some z)(hs1:i.size=1)(hs2:i.bytes=1)(hs3:z.cells.size=1)
  {x:Value}    {nn:Nat}  (hsub:zry H u) (hown:(SlR e 1 nn xs).P x H u C) (hlt:ZCB C u H) (h63:nn+str.size<=9223372036854775807) (hb:nn+str.size<=140737488355328):
  ∃ x' u' C',(Builtin.append_ #[t,ty2] aty #[x,.string str]).run P u=.ok x' u'/\(SlR e 1 (nn+str.size) (xs++Lib.strCells str)).P x' H u' C'/\Grow C u H u' H/\∀ k,C' k->(C k\/u.heap.size<=k)/\k<u'.heap.size/\H k=none:=by
 have hl:=Lib.strCells_length str;generalize hnews:Lib.strCells str=news at hl |-;obtain⟨m,hm0⟩:∃ m,str.size=m:=⟨_,rfl⟩
 have hmx:nn+m<=maxLen:=by simp only[maxLen];omega
 obtain⟨hxl,hown⟩:=hown;have hlen:(xs++news).length=(nn+m)*1:=by rw[nr,hxl,hl,hm0];omega
 have hdrew:∀ o:Obj,Grow C u H (u.drew.alloc o) H:=fun o=>⟨⟨rfl,rfl,rfl,by simp,fun k hk _=>wc u.drew _ hk,zox _⟩,fun k v hv=>by
  have:=hsub.size hv;show(u.drew.alloc o).heap[k]?=some v;rw[wc u.drew _ this];exact hsub k v hv,my _,fun _ _ _=>rfl⟩
 have hnew:∀ (o:Obj) (k:Nat),k=u.heap.size->(C k\/u.heap.size<=k)/\k<(u.drew.alloc o).heap.size/\H k=none:=fun o k hk=>by
  subst hk;exact⟨.inr (nu _),by simp,ja hsub (nu _)⟩
 have grown:∀ (old:Nat),old<nn+m->∀ vs:List Value,vs=xs->
   (SlR e 1 (nn+m) (xs++news)).P (.slice (some ⟨u.heap.size,0,none⟩) (nn+m) (grownCap u (nn+m) old e)) H (u.drew.alloc (.cells (vs.toArray++news.toArray++Builtin.zeroCells z.cells (grownCap u (nn+m) old e-(nn+m))) e)) (fun k=>k=u.heap.size):=by
  rintro old ho vs rfl;have hge:=grownCap_ge u (nn+m) old e;refine⟨hlen,.inr ⟨u.heap.size,_,(Builtin.zeroCells z.cells (grownCap u (nn+m) old e-(nn+m))).toList,rfl,?_,hge,grownCap_le_maxLen u (nn+m) old e hmx,?_,fun _=>Iff.rfl⟩⟩
  ·have h2:(u.drew.alloc (.cells (vs.toArray++news.toArray++Builtin.zeroCells z.cells (grownCap u (nn+m) old e-(nn+m))) e)).heap[u.heap.size]?=some (.cells (vs.toArray++news.toArray++Builtin.zeroCells z.cells (grownCap u (nn+m) old e-(nn+m))) e):=heap_alloc_new u.drew _;rw[h2];congr 2;apply Array.ext';simp
  ·rw[nr,hlen,zo6,size_zeroCells,hs3];omega
 rcases hown with ⟨rfl,rfl,hC⟩ | ⟨b,cap,rest,rfl,hbk,hnc,hcm,hcl,hC⟩
 ·have hx:xs=[]:=m8 (by simpa using hxl);subst hx;by_cases h0:m=0
  ·subst h0;have hn:news=[]:=m8 I;subst hn;refine⟨.slice none 0 0,u,noL,?_,⟨by simp [hm0],.inl ⟨by omega,rfl,fun _ h=>h⟩⟩,⟨Keep.refl _ _,hsub,my _,fun _ _ _=>rfl⟩,fun _ h=>h.elim⟩;have hf:=Lib.run_firstCells_string (P:=P) u i.size str;rw[hm0] at hf;simp [Builtin.append_,run_underlying ht,run_underlying hu,sizeOf,typeInfo,hi,Builtin.lenOf,hm0,hf]
  ·have hr:=run_append_nil_string (P:=P) u t ty2 aty e i z ht hu hi hz str I I (by rw[hs2];omega);have hgr:=grown 0 I [] rfl;rw[hm0] at hr |-;simp only[znk,mn,Array.empty_append] at hgr |-;refine⟨_,_,_,hr,?_,hdrew _,fun k hk=>hnew _ k hk⟩;have e1:str.data.map (fun b=>Value.int .u8 b.toNat)=news.toArray:=by rw[<-hnews];apply Array.ext';simp [Lib.strCells]
   rw[e1];exact hgr
 ·have hbl:=hlt b ((hC b).2 rfl)
  have holds:∀ j v,xs[j]?=some v->u.cell? ((⟨b,0,none⟩:Addr).add j)=some v:=fun j v hj=>by
   rw[vr,znk,kw hbk]
   have hlt:j<xs.length:=by
    rcases zni j xs.length with h | h
    ·exact h
    ·rw[zn3 h] at hj;cases hj
   simp only[zp9];rw[zor hlt];exact hj
  rw[hm0];by_cases hroom:nn+m<=cap
  ·have hfit:nn+str.size<=(xs++rest).toArray.size:=by simp only[zp8,hcl];omega
   have hr:=Lib.run_append_room_string (P:=P) u t ty2 aty e i ht hu hi hs1 b nn cap _ hbk str I hfit;rw[hnews,hm0] at hr;refine⟨_,_,C,hr,⟨hlen,.inr ⟨b,cap,rest.drop news.length,rfl,?_,hroom,hcm,?_,hC⟩⟩,uh hsub hbk ((hC b).2 rfl) hbl.2 _,fun k hk=>⟨.inl hk,by rw[setRow_size];exact(hlt k hk).1,(hlt k hk).2⟩⟩
   ·rw[setRow_heap u b _ _ e (0,0) hbk];congr 2;have hx1:xs.length=nn:=I;rw[<-hx1,hl,hm0];simp [zoo,znm]
   ·have h5:rest.length=cap*1-nn*1:=by rw[<-hcl,nr,hxl];omega
    rw[nr,hlen,m6,h5,hl,hm0];omega
  ·have hr:=Lib.run_append_grow_string (P:=P) u t ty2 aty e i z ht hu hi hz ⟨b,0,none⟩ nn cap xs (by rw[hs1];exact hxl) holds str I I (by rw[hs2];exact growslice_fits I I);rw[hnews,hm0] at hr;exact⟨_,_,_,hr,grown cap I xs Z,hdrew _,fun k hk=>hnew _ k hk⟩
section
variable        {d:Nat}    
def ej(L:Tabs P){t ty2 e:TypeId}{nn:Nat}(hn:Nat.blt d n=true)(hg:gK ops κ ⟨some d,.call ⟨.builtin .append,#[.tmp q,y],#[t,ty2]⟩,ty,pos,aft,g⟩=some true)
  (hq:κ q=some (.own (SlR e 1 nn xs))) (hy:evK κ y=some (.string str)) (ht:L.sl t=some e) (hu:P.underlying ty2=some .string) (he:elI P e=some (1,1)) (hb:nn+str.size<=140737488355328):
  w8 P F B n ops O κ ⟨some d,.call ⟨.builtin .append,#[.tmp q,y],#[t,ty2]⟩,ty,pos,aft,g⟩ q lf d (.own (SlR e 1 (nn+str.size) (xs++Lib.strCells str))):=by
 rintro κ' a u hlk hks ⟨H,fp,hh⟩;unfold After;rw[na (xk hh hlk hg)];have en:=hh.env hlk;obtain⟨i,z,hi,hz,hs1,hs2,hs3,hs4⟩:=ul he;have hk':κ' q=some (.own (SlR e 1 nn xs)):=hks.trans hq;obtain⟨hown,hM⟩:=hh.slot q _ hk';have h1:a.eval y=.string str:=en.is_ y _ (by simp [Op.operands,Call.operands]) hy;obtain⟨x',u',C',hr,hown',hgr,hC'⟩:=zei u (aty:=ty) (Tabs.sl_spec ht) hu hi hz hs1 hs2 hs3 hh.sub hown (fun k hk=>⟨(hM k hk).1,(hM k hk).2.1⟩) I hb
 have hrun:(execOp a.eval ⟨some d,.call ⟨.builtin .append,#[.tmp q,y],#[t,ty2]⟩,ty,pos,aft,g⟩).run P u=.ok (.value x') u':=by
  simp only[execOp,resolve,invoke,builtin,ny,mg,mb,zny,mq,znv,h1,hr]
 rw[hrun];simp only[Upon];exact⟨H,_,hh.usePut hk' hgr (by simp [Act.put]) Z (fun t ht=>xv ht) (by rw[xy (by rw[hh.size];exact zp hn)];exact hown') hC'⟩
end
end Go.V
section
open Go.V
attribute [local irreducible] Has N Par Ret RetL Src StepOK V VO X
namespace Go.V.Bd
open Go.V.L4
def _root_.Ze7(t:Wr Y->A:=by intro h;refine vk 900 901 rfl Z (P1 _ _) ?_;exact h.1)(h:Y):A:=t ⟨h⟩
def _root_.Zdc(t:Wr Y->A:=by exact fun h=>(Za5∘Zf) h.1)(h:Y):A:=t ⟨h⟩
def _root_.Zbk(t:Wr Y->A:=by exact fun h=>(ZaH∘Za) h.1)(h:Y):A:=t ⟨h⟩
abbrev Cm:TypeId:=228
def zhs(v:Value)(u:World):(callFunc 255 #[v]).run zrz u=.ok (.value v) u:=
 (run_callFunc_extern Tryz.func255 J J J (e:=Extern.AbiNoEscape.same) J #[v] u).trans rfl
attribute [local irreducible] RetO RetT ky RetX RetY
def check_ret{bb:Nat}{p:Value}(hpp:p=.pointer none\/p=kg bb)(hB:zry B w)(hr:(xe bb [p,sv] Cm).P B w C)(hC:ZCB C w B):
  ky zrz 195 [kg bb] w B C (xe bb [kg bb,sv] Cm):=by
 unfold ky;refine xh 900 (xe bb [p,sv] Cm) Tryz.func195 Z Tryz.ntmps195 (np Z) hB hr hC ?_;rw[xf];rcases hpp with rfl | rfl
 ·refine(Zad∘Za∘Zai) ?_;refine z7 (u9 Z Z Z Z zjr Z) Z ((Z3∘Z9∘Zb) ?_);refine y9 (Ow (q:=900) (t:=Cm) Z Z Z Z J J J Z) (z7 (O5 Z Z Z Z (zhs _)) Z (y9 (G8 (q:=900) (t:=Cm) Z Z Z Z J J J Z J) (Zaa (h:=?_))));refine xg (yj L (q:=900) (cs':=[kg bb,sv]) Z Z Z Z Z) (Zac (h:=?_));exact xz L 900 (r:=xe bb _ Cm) Z (fun _ _ h=>h) nq Z Z
 ·refine(Zad∘Za∘Zai) ?_;refine z7 (u9 Z Z Z Z zjr Z) Z ((Zdc∘Zq∘Zai∘Za) ?_);refine z7 (Tj (te:=Cm) Z Z Z Z J J) Z (Zas (h:=?_));exact xz L 900 (r:=xe bb _ Cm) Z (fun _ _ h=>h) nq Z Z
abbrev GBv(bb:Nat)(bs:List Nat)(x:Value×Value):GR:=bw (xe bb [x.1,x.2] Cm) (GSl x.2 bs)
def zid(bb:Nat)(x:Value×Value):Prop:=(x.1=.pointer none\/x.1=kg bb)/\Nu x.2
def bo(bb:Nat):az fun(x:Value×Value) (_:Heap)=>zid bb x:=fun _ _ _ h _=>h
abbrev GBd(bb:Nat)(bs:List Nat):GR:=GEx (X:=Value×Value) (GBv bb bs) (fun x _=>zid bb x) (bo bb)
def g9(s:ByteArray):List Nat:=s.data.toList.map fun c=>c.toNat
def vw(s:ByteArray):(g9 s).length=s.size:=by unfold g9;rw[List.length_map,Array.length_toList];rfl
def Py(bs:List Nat)(s:ByteArray):byV bs++Lib.strCells s=byV (bs++g9 s):=by
 unfold byV g9 Lib.strCells;rw[znp,zoz];rfl
def write_ret{bb:Nat}(hz:bs.length+str.size<=140737488355328)(hB:zry B w)(hr:(GBd bb bs).P B w C)(hC:ZCB C w B):
  RetX zrz 122 [kg bb,.string str] w B C (GBd bb (bs++g9 str)) (.tuple #[.int .i64 str.size,.nilIface]):=by
 unfold RetX;refine xh 900 (GBd bb bs) Tryz.func122 Z Tryz.ntmps122 (np Z) hB hr hC ?_;refine uu (X:=Value×Value) 900 (r:=fun x=>(GBv bb bs x).res) (φ:=fun x _=>zid bb x) (hφ:=bo bb) Z fun x H0 hs0 hx=>?_;obtain⟨p,sv⟩:=x;obtain⟨hpp,hsl⟩:=hx;dsimp only at hpp hsl |-;obtain⟨p1,k1,c1,rfl⟩:=hsl;refine v8 (r1:=xn bb [p,.slice p1 k1 c1] Cm) (r2:=(GSl (.slice p1 k1 c1) bs).res) 900 901 rfl (xm _) ?_;rw[Dx];refine(Zbj∘Zbk) ?_;refine qh (xc L 900 (xe bb [kg bb,.slice p1 k1 c1] Cm) (r:=xe bb [p,.slice p1 k1 c1] Cm) rfl rfl rfl rfl rfl (fun u H C hH _ hr hC=>check_ret hpp hH hr hC)) ((Zg∘ZaY∘Zai) ?_);refine un 12 901 rfl rfl (Za (h:=?_));refine qh (ej L rfl rfl rfl rfl rfl J el5 hz) ?_;refine dc 14 901 Nu rfl Qo fun s2 hp2=>?_;obtain⟨p2,k2,c2,rfl⟩:=hp2;refine Zaa (h:=?_);refine xg (yj L (q:=900) (cs':=[kg bb,.slice p2 k2 c2]) rfl rfl rfl rfl rfl) ((Zg∘Zx∘ZK∘ZA) ?_);have e2:bs.length+str.size=(bs++g9 str).length:=by rw[nr,vw]
 rw[Py,e2];refine Ze7 (h:=?_);exact bq (X:=Value×Value) 900 (r:=fun x=>(GBv bb (bs++g9 str) x).res) (φ:=fun x _=>zid bb x) (bo bb) (kg bb,.slice p2 k2 c2) ⟨.inr Z,_,_,_,rfl⟩ Z (ka L 900 (r:=GBd bb (bs++g9 str)) (rs:=[.tmp 4,.tmp 5]) Z (fun _ _ h=>h) hs0 Z Z (fun _=>rfl))
end Go.V.Bd
namespace Go.V
def _root_.ZC(t:Wr Y->A:=by intro h;refine z7 (qu L Z Z Z Z) Z ?_;exact h.1)(h:Y):A:=t ⟨h⟩
def _root_.ZaF(t:Wr Y->A:=by intro h;refine z7 (qt L Z Z Z Z) Z ?_;exact h.1)(h:Y):A:=t ⟨h⟩
def _root_.ZdK(t:Wr Y->A:=by intro h;refine z7 (yz (cs:=[_,_]) Z Z zmr Z Z) Z ?_;exact h.1)(h:Y):A:=t ⟨h⟩
def _root_.ZH(t:Wr Y->A:=by exact fun h=>(Za∘ZbM) h.1)(h:Y):A:=t ⟨h⟩
def _root_.ZQ(t:Wr Y->A:=by exact fun h=>(Zad∘ZC) h.1)(h:Y):A:=t ⟨h⟩
def _root_.ZaR(t:Wr Y->A:=by exact fun h=>(Zh∘Zc) h.1)(h:Y):A:=t ⟨h⟩
def _root_.Zb1(t:Wr Y->A:=by exact fun h=>(Zh∘Zj) h.1)(h:Y):A:=t ⟨h⟩
def _root_.Zb6(t:Wr Y->A:=by exact fun h=>(Zh∘Zb1) h.1)(h:Y):A:=t ⟨h⟩
def _root_.Zcz(t:Wr Y->A:=by exact fun h=>(ZH∘Zeu) h.1)(h:Y):A:=t ⟨h⟩
def GlobM(B:Heap):Prop:=∃ m cs t fr,B 0=some (.cells cs t fr)/\cs[0]?=some (.int .i64 m)
def GlobM.of_cell{m:Int}(h:w.cell? ⟨0,0,none⟩=some (.int .i64 m)):GlobM (hp w):=by
 unfold World.cell? at h;split at h
 ·rename_i cs t fr hb;exact⟨m,cs,t,fr,hb,by simpa using h⟩
 ·cases h
def GlobM.mono(h:GlobM B)(hl:B.Le H):GlobM H:=let ⟨m,cs,t,fr,hb,hc⟩:=h;⟨m,cs,t,fr,hl _ _ hb,hc⟩
def f6(s:ByteArray)(c:UInt8):ByteArray×ByteArray×Bool:=
 (⟨(Lib.cut s.data.toList [c]).1.toArray⟩,⟨(Lib.cut s.data.toList [c]).2.1.toArray⟩,(Lib.cut s.data.toList [c]).2.2)
def Ns(s:ByteArray)(c:UInt8):Bool:=decide (0<=Lib.indexByte s.data.toList c)
def zfh(s:ByteArray)(c:UInt8):Nat:=Lib.countByte s.data.toList c
def cn{c:UInt8}{f:Bool}(hs:s.size<=1000000)(hB:zry B w)(hM:GlobM B)(hf:(f6 s c).2.2=f):
  Ret zrz 131 [.string s,.string ⟨#[c]⟩] w B (fun v _=>v=.tuple #[.string (f6 s c).1,.string (f6 s c).2.1,.bool f]):=by
 obtain⟨m,cs,t,fr,hb,hc⟩:=hM;subst hf;refine Ret.of_drawn hB (Tryz.strings_Cut s ⟨#[c]⟩ m w I ?_);rw[kw (hB _ _ hb)];exact hc
def wy{c:UInt8}{f:Bool}(hB:zry B w)(hf:Ns s c=f):
  Ret zrz 132 [.string s,.string ⟨#[c]⟩] w B (fun v _=>v=.bool f):=by
 subst hf;exact Ret.of_same hB (Tryz.strings_Contains_one s c w)
def count_ret{c:UInt8}(hB:zry B w):
  Ret zrz 262 [.string s,.string ⟨#[c]⟩] w B (fun v _=>v=.int .i64 (zfh s c)):=Ret.of_same hB (Tryz.strings_Count_one s c w)
def s9(s:ByteArray)(c:UInt8):(f6 s c).1.size<=s.size/\(f6 s c).2.1.size<=s.size:=by
 unfold f6 Lib.cut;have hl:=jj s;have e:∀ l:List UInt8,(ByteArray.mk l.toArray).size=l.length:=fun l=>by show l.toArray.size=_;simp
 generalize s.data.toList=l at hl |-;rw[<-hl];split
 ·simp only[e,mw,m6];omega
 ·simp only[e,m5];omega
def uf(s:ByteArray):Option (ByteArray×ByteArray×ByteArray×Bool):=
 if ((f6 s 58).2.2 && !Ns (f6 s 58).1 35 && !Ns (f6 s 58).2.1 58)=true/\zfh (f6 s 58).2.1 35<=1 then
  some ((f6 s 58).1,(f6 (f6 s 58).2.1 35).1,(f6 (f6 s 58).2.1 35).2.1,(f6 (f6 s 58).2.1 35).2.2)
 else none
def Dc(h:uf s=some (a,b,c,d)):a.size<=s.size/\b.size<=s.size/\c.size<=s.size:=by
 unfold uf at h;split at h
 ·cases h;have h1:=s9 s 58;have h2:=s9 (f6 s 58).2.1 35;omega
 ·cases h
def H9{f:Bool}(hs:s.size<=1000000)(hB:zry B w)(hM:GlobM B)(hf:((f6 s 58).2.2 && !Ns (f6 s 58).1 35 && !Ns (f6 s 58).2.1 58)=f):
  Ret zrz 261 [.string s,.string ⟨#[58]⟩] w B (fun v _=>v=.tuple #[.string (f6 s 58).1,.string (f6 s 58).2.1,.bool f]):=by
 subst hf;refine yo Tryz.func261 Z Tryz.ntmps261 (np Z) hB ?_;cases h1:(f6 s 58).2.2
 ·refine(Zbj∘Zh∘ZaH∘Zb) ?_;refine z71 L Z (fun u H hH hle=>cn E hH (GlobM.mono E hle) E) ?_;refine(Zcz∘Zh∘ZaR∘ZaY∘Zb∘Zbv∘Za6∘Zbe∘Zh∘ZA) ?_;exact yl2 L [.tmp 4,.tmp 5,.tmp 6]
 ·cases h2:Ns (f6 s 58).1 35
  ·cases h3:Ns (f6 s 58).2.1 58
   ·refine(Zbj∘Zh∘ZaH∘Zb) ?_;refine z71 L Z (fun u H hH hle=>cn E hH (GlobM.mono E hle) E) ?_;refine(Zcz∘Zh∘ZaR∘ZaY∘Zu) ?_;refine z71 L Z (fun u H hH _=>wy hH E) ?_;refine(Zw∘Zbs) ?_;refine z71 L Z (fun u H hH _=>wy hH E) ?_;refine(Zw∘Zi∘Zh∘ZA) ?_;exact yl2 L [.tmp 4,.tmp 5,.tmp 6]
   ·refine(Zbj∘Zh∘ZaH∘Zb) ?_;refine z71 L Z (fun u H hH hle=>cn E hH (GlobM.mono E hle) E) ?_;refine(Zcz∘Zh∘ZaR∘ZaY∘Zu) ?_;refine z71 L Z (fun u H hH _=>wy hH E) ?_;refine(Zw∘Zbs) ?_;refine z71 L Z (fun u H hH _=>wy hH E) ?_;refine(Zw∘Zi∘Zh∘ZA) ?_;exact yl2 L [.tmp 4,.tmp 5,.tmp 6]
  ·refine(Zbj∘Zh∘ZaH∘Zb) ?_;refine z71 L Z (fun u H hH hle=>cn E hH (GlobM.mono E hle) E) ?_;refine(Zcz∘Zh∘ZaR∘ZaY∘Zu) ?_;refine z71 L Z (fun u H hH _=>wy hH E) ?_;refine(Zw∘Zi∘Zbe∘Zh∘ZA) ?_;exact yl2 L [.tmp 4,.tmp 5,.tmp 6]
def Te(hs:s.size<=1000000)(hB:zry B w)(hM:GlobM B)(h:uf s=none):
  Ret zrz 203 [.string s] w B (fun v _=>v=.tuple #[.agg #[.string ⟨#[]⟩,.string ⟨#[]⟩],.string ⟨#[]⟩,.bool false,.bool false]):=by
 refine yo Tryz.func203 Z Tryz.ntmps203 (np Z) hB ?_;unfold uf at h;cases h1:((f6 s 58).2.2 && !Ns (f6 s 58).1 35 && !Ns (f6 s 58).2.1 58)
 ·refine(ZQ∘Zh∘Zh∘ZaH∘Zc∘ZaY) ?_;refine z71 L Z (fun u H hH hle=>H9 E hH (GlobM.mono E hle) E) ?_;refine(Zcz∘Zb6∘Zx∘Zw∘Zbe∘Zr∘Zs∘ZdK∘ZaF∘Zh∘ZA) ?_;refine yl1 L [.cell 2 29,.tmp 3,.tmp 4,.tmp 5] fun u H hH hle=>?_;exact⟨_,qy Z,rfl,rfl⟩
 ·have h2:¬ zfh (f6 s 58).2.1 35<=1:=fun h2=>by rw[na ⟨h1,h2⟩] at h;cases h
  clear h;refine(ZQ∘Zh∘Zh∘ZaH∘Zc∘ZaY) ?_;refine z71 L Z (fun u H hH hle=>H9 E hH (GlobM.mono E hle) E) ?_;refine(Zcz∘Zb6∘Zx∘Zw∘Zb) ?_;refine z71 L Z (fun u H hH _=>count_ret hH) ?_;refine(ZJ∘Zcs∘Zs∘ZdK∘ZaF∘Zh∘ZA) ?_;refine yl1 L [.cell 2 29,.tmp 3,.tmp 4,.tmp 5] fun u H hH hle=>?_;exact⟨_,qy Z,rfl,rfl⟩
def Td(hs:s.size<=1000000)(hB:zry B w)(hM:GlobM B)(h:uf s=some (a,b,c,d)):
  Ret zrz 203 [.string s] w B (fun v _=>v=.tuple #[.agg #[.string a,.string b],.string c,.bool d,.bool true]):=by
 refine yo Tryz.func203 Z Tryz.ntmps203 (np Z) hB ?_;unfold uf at h;split at h
 ·rename_i hc;obtain⟨h1,h2⟩:=hc;cases h;have hz:=s9 s 58;have hz2:(f6 s 58).2.1.size<=1000000:=I;refine(ZQ∘Zh∘Zh∘ZaH∘Zc∘ZaY) ?_;refine z71 L Z (fun u H hH hle=>H9 E hH (GlobM.mono E hle) E) ?_;refine(Zcz∘Zb6∘Zx∘Zw∘Zb) ?_;refine z71 L Z (fun u H hH _=>count_ret hH) ?_;refine(Zan∘ZaT∘Zak) ?_;refine z71 L Z (fun u H hH hle=>cn E hH (GlobM.mono E hle) Z) ?_;refine(Zcz∘Zh∘ZaR∘ZD∘Zb∘ZdK∘Zb∘ZaF∘Zh∘ZA) ?_;refine yl1 L [.cell 2 29,.tmp 3,.tmp 4,.tmp 5] fun u H hH hle=>?_;exact⟨_,qy Z,rfl,rfl⟩
 ·cases h
def _root_.ZcT(t:Wr Y->A:=by intro h;refine z7 (qg L (vs:=[_,_]) (qy Z) Z Z Z Z ⟨_,rfl⟩) Z ?_;exact h.1)(h:Y):A:=t ⟨h⟩
def _root_.ZdL(t:Wr Y->A:=by intro h;refine z71 L Z (fun u H hH hle=>Td E hH (GlobM.mono E hle) E) ?_;exact h.1)(h:Y):A:=t ⟨h⟩
def _root_.ZdM(t:Wr Y->A:=by intro h;refine z7 (qg L (vs:=[_,_,_]) (qy Z) Z Z Z Z ⟨_,rfl⟩) Z ?_;exact h.1)(h:Y):A:=t ⟨h⟩
def _root_.ZdN(t:Wr Y->A:=by intro h;refine z7 (yz (cs:=[_,_,_]) Z Z zmq Z Z) Z ?_;exact h.1)(h:Y):A:=t ⟨h⟩
def _root_.Zei(t:Wr Y->A:=by intro h;refine z7 (yz (cs:=[_,_,_]) Z Z zlw Z Z) Z ?_;exact h.1)(h:Y):A:=t ⟨h⟩
def _root_.Zam(t:Wr Y->A:=by exact fun h=>(Zg∘Zf) h.1)(h:Y):A:=t ⟨h⟩
def _root_.Zbw(t:Wr Y->A:=by exact fun h=>(ZC∘ZaF) h.1)(h:Y):A:=t ⟨h⟩
def _root_.Z5(t:Wr Y->A:=by exact fun h=>(ZU∘Za) h.1)(h:Y):A:=t ⟨h⟩
def _root_.ZaV(t:Wr Y->A:=by exact fun h=>(ZaF∘Ze) h.1)(h:Y):A:=t ⟨h⟩
def _root_.ZbF(t:Wr Y->A:=by exact fun h=>(Zbw∘Zam) h.1)(h:Y):A:=t ⟨h⟩
def _root_.Zf8(t:Wr Y->A:=by intro h;refine Zbk (h:=?_);refine z71 L Z (fun u H hH hle=>Te E hH (GlobM.mono E hle) E) ?_;exact h.1)(h:Y):A:=t ⟨h⟩
abbrev li:ByteArray:=⟨#[]⟩
def poA(s:ByteArray):ByteArray×ByteArray×Int:=
 match uf s with
 | none=>(li,li,5)
 | some (a,b,_,d)=>if d=true then (li,li,5) else if gh [a,b]=0 then (a,b,0) else (li,li,gh [a,b])
def pgA(s:ByteArray):ByteArray×ByteArray×ByteArray×Int:=
 match uf s with
 | none=>(li,li,li,5)
 | some (a,b,c,d)=>if d=false then (li,li,li,5) else if gh [a,b,c]=0 then (a,b,c,0) else (li,li,li,gh [a,b,c])
def psA(s:ByteArray):ByteArray×ByteArray×ByteArray×Int:=
 match uf s with
 | none=>(li,li,li,5)
 | some (a,b,c,d)=>if gh [a,b]=0 then (if d=true then (if chk c=0 then (a,b,c,0) else (li,li,li,chk c)) else (a,b,c,0)) else (li,li,li,gh [a,b])
def zjg(hr:pgA s=r)(hs:s.size<=1000000)(hB:zry B w)(hM:GlobM B):
  Ret zrz 133 [.string s] w B (fun v _=>v=.tuple #[.agg #[.string r.1,.string r.2.1,.string r.2.2.1],.int .i64 r.2.2.2]):=by
 refine yo Tryz.func133 Z Tryz.ntmps133 (np Z) hB ?_;unfold pgA at hr
 cases hp:uf s with
 | none=>
  rw[hp] at hr;simp only at hr;subst hr;refine(ZQ∘Zf8∘ZH∘ZbM∘Zbw∘Zb6∘Zq∘Zw∘Zc6∘Zcs∘Zy∘Zei∘ZaV) ?_;refine yl1 L [.cell 2 31,.tmp 3] fun u H hH hle=>?_;exact⟨_,qy Z,rfl,rfl⟩
 | some p=>
  obtain⟨a,b,c,d⟩:=p;rw[hp] at hr;simp only at hr;have hz:=Dc hp;have ha:a.size<=1099511627776:=I;have hb:b.size<=1099511627776:=I;have hc:c.size<=1099511627776:=I
  cases d with
  | false=>
   rw[na rfl] at hr;subst hr;refine(ZQ∘Zbk∘ZdL∘ZH∘ZbM∘Zbw∘Zb6∘Zq∘Zw∘Zb∘Zw∘Zcs∘Zy∘Zei∘ZaV) ?_;refine yl1 L [.cell 2 31,.tmp 3] fun u H hH hle=>?_;exact⟨_,qy Z,rfl,rfl⟩
  | true=>
   rw[nc T] at hr;by_cases h0:gh [a,b,c]=0
   ·rw[na h0] at hr;subst hr;refine(ZQ∘Zbk∘ZdL∘ZH∘ZbM∘Zbw∘Zb6∘Zq∘Zw∘Zb∘Zw∘ZaT∘Zs∘ZcT∘Za∘Zei∘ZbF∘ZT∘ZdM) ?_;refine z71 L Z (fun u H hH _=>goal_ret G G G hH) ?_;refine(Zc∘ZL∘Zaw∘Z7∘ZdM∘ZaV) ?_;refine yl1 L [.cell 2 31,.tmp 3] fun u H hH hle=>?_;exact⟨_,qy Z,rfl,rfl⟩
   ·rw[nc h0] at hr;subst hr;refine(ZQ∘Zbk∘ZdL∘ZH∘ZbM∘Zbw∘Zb6∘Zq∘Zw∘Zb∘Zw∘ZaT∘Zs∘ZcT∘Za∘Zei∘ZbF∘ZT∘ZdM) ?_;refine z71 L Z (fun u H hH _=>goal_ret G G G hH) ?_;refine(Zc∘ZL∘ZY∘ZU∘Zei∘Za∘ZaV) ?_;refine yl1 L [.cell 2 31,.tmp 3] fun u H hH hle=>?_;exact⟨_,qy Z,rfl,rfl⟩
def zi9(hr:psA s=r)(hs:s.size<=1000000)(hB:zry B w)(hM:GlobM B):
  Ret zrz 134 [.string s] w B (fun v _=>v=.tuple #[.agg #[.string r.1,.string r.2.1,.string r.2.2.1],.int .i64 r.2.2.2]):=by
 refine yo Tryz.func134 Z Tryz.ntmps134 (np Z) hB ?_;unfold psA at hr
 cases hp:uf s with
 | none=>
  rw[hp] at hr;simp only at hr;subst hr;refine(ZQ∘Zf8∘ZH∘ZbM∘Zbw∘Zb6∘Zq∘Zw∘Zr∘Zy∘ZdN∘ZaV) ?_;refine yl1 L [.cell 2 32,.tmp 3] fun u H hH hle=>?_;exact⟨_,qy Z,rfl,rfl⟩
 | some p=>
  obtain⟨a,b,c,d⟩:=p;rw[hp] at hr;simp only at hr;have hz:=Dc hp;have ha:a.size<=1099511627776:=I;have hb:b.size<=1099511627776:=I;have hc:c.size<=1099511627776:=I;by_cases h0:gh [a,b]=0
  ·rw[na h0] at hr
   cases d with
   | false=>
    rw[nc T] at hr;subst hr;refine(ZQ∘Zbk∘ZdL∘ZH∘ZbM∘Zbw∘Zb6∘Zq∘Zw∘Zo∘Zs∘ZcT) ?_;refine z71 L Z (fun u H hH _=>l7 G G hH) ?_;refine(Zj∘ZbZ∘Zbv∘Zi∘ZV∘Z5∘Zaw∘ZE∘ZcT∘Za∘ZdN∘ZaV) ?_;refine yl1 L [.cell 2 32,.tmp 3] fun u H hH hle=>?_;exact⟨_,qy Z,rfl,rfl⟩
   | true=>
    rw[na rfl] at hr;by_cases h1:chk c=0
    ·rw[na h1] at hr;subst hr;refine(ZQ∘Zbk∘ZdL∘ZH∘ZbM∘Zbw∘Zb6∘Zq∘Zw∘Zo∘Zs∘ZcT) ?_;refine z71 L Z (fun u H hH _=>l7 G G hH) ?_;refine(Zj∘ZT∘Zu∘Zv∘ZbJ∘ZL∘ZeM∘Zj∘Z5∘Zaw∘ZE∘ZcT∘Za∘ZdN∘ZaV) ?_;refine yl1 L [.cell 2 32,.tmp 3] fun u H hH hle=>?_;exact⟨_,qy Z,rfl,rfl⟩
    ·rw[nc h1] at hr;subst hr;refine(ZQ∘Zbk∘ZdL∘ZH∘ZbM∘Zbw∘Zb6∘Zq∘Zw∘Zo∘Zs∘ZcT) ?_;refine z71 L Z (fun u H hH _=>l7 G G hH) ?_;refine(Zj∘ZT∘Zu∘Zv∘ZbJ∘ZL∘ZeM∘Zj∘Z5∘ZY∘Z7∘ZdN∘Za∘ZaV) ?_;refine yl1 L [.cell 2 32,.tmp 3] fun u H hH hle=>?_;exact⟨_,qy Z,rfl,rfl⟩
  ·rw[nc h0] at hr;subst hr;cases d
   ·refine(ZQ∘Zbk∘ZdL∘ZH∘ZbM∘Zbw∘Zb6∘Zq∘Zw∘Zo∘Zs∘ZcT) ?_;refine z71 L Z (fun u H hH _=>l7 G G hH) ?_;refine(Zj∘ZbZ∘Zbv∘Zi∘ZV∘Z5∘ZY∘Z7∘ZdN∘Za∘ZaV) ?_;refine yl1 L [.cell 2 32,.tmp 3] fun u H hH hle=>?_;exact⟨_,qy Z,rfl,rfl⟩
   ·refine(ZQ∘Zbk∘ZdL∘ZH∘ZbM∘Zbw∘Zb6∘Zq∘Zw∘Zo∘Zs∘ZcT) ?_;refine z71 L Z (fun u H hH _=>l7 G G hH) ?_;refine(Zj∘ZT∘Zu∘Zn∘Zi∘ZV∘Z5∘ZY∘Z7∘ZdN∘Za∘ZaV) ?_;refine yl1 L [.cell 2 32,.tmp 3] fun u H hH hle=>?_;exact⟨_,qy Z,rfl,rfl⟩
def zgs(hr:pgA s=(a,b,c,e))(hs:s.size<=1000000)(hB:zry B w)(hM:GlobM B):
  Ret zrz 133 [.string s] w B (fun v _=>v=.tuple #[.agg #[.string a,.string b,.string c],.int .i64 e]):=zjg hr hs hB hM
def zgo(hr:psA s=(a,b,c,e))(hs:s.size<=1000000)(hB:zry B w)(hM:GlobM B):
  Ret zrz 134 [.string s] w B (fun v _=>v=.tuple #[.agg #[.string a,.string b,.string c],.int .i64 e]):=zi9 hr hs hB hM
end Go.V
end
namespace Go.V.L2
open Go.V
abbrev U:=P4×P4
def ucs(t:U):List Value:=[.string t.1.1.1,.string t.1.1.2,.string t.1.2,.string t.2.1.1,.string t.2.1.2,.string t.2.2]
def Ck(t:U):(ucs t).length=6:=rfl
def jh:U->U->Int:=zbl zkl zkl
def cmpT_ord:Ord3 jh:=cmp3_ord.lex cmp3_ord
def zmz{t v:U}:(t.1.1.1=v.1.1.1/\t.1.1.2=v.1.1.2/\t.1.2=v.1.2/\t.2.1.1=v.2.1.1/\t.2.1.2=v.2.1.2/\t.2.2=v.2.2)↔t=v:=
 ⟨fun⟨a,b,c,d,e,f⟩=>Prod.ext (Prod.ext (Prod.ext a b) c) (Prod.ext (Prod.ext d e) f),fun e=>by subst e;exact⟨rfl,rfl,rfl,rfl,rfl,rfl⟩⟩
instance memU(t:U)(l:List U):Decidable (t∈l):=decidable_of_iff (l.any (fun x=>decide (x=t))=true) (by simp)
def tE(t:U):Int:=if gh [t.1.1.1,t.1.1.2,t.1.2]=0 then oc t.2.1.1 t.2.1.2 t.2.2 else gh [t.1.1.1,t.1.1.2,t.1.2]
abbrev sAt:ByteArray:=⟨#[64]⟩
def tT(t:U):ByteArray:=M2 t.1.1.1 t.1.1.2 t.1.2++sAt++Gk t.2.1.1 t.2.1.2 t.2.2
def TZ(t:U):Prop:=(t.1.1.1.size<=1099511627776/\t.1.1.2.size<=1099511627776/\t.1.2.size<=1099511627776)/\t.2.1.1.size<=1099511627776/\t.2.1.2.size<=1099511627776/\t.2.2.size<=1099511627776
instance (t:U):Decidable (TZ t):=inferInstanceAs (Decidable (_/\_))
def Gn{α:Type}{c:α->α->Int}(h:Ord3 c):∀ {l:List α},Sst c l↔∀ (j:Nat) (a b:α),l[j]?=some a->l[j+1]?=some b->c a b<0
 | []=>⟨fun _ j a b h1 _=>by simp at h1,fun _=>Sst.nil⟩
 | [x]=>⟨fun _ j a b _ h2=>by simp at h2,fun _=>zop ..⟩
 | x::y::l=>by
  constructor
  ·intro hs j a b h1 h2;have hp:=mi.1 hs
   cases j with
   | zero=>simp at h1 h2;subst h1 h2;exact hp.1 _ (mc ..)
   | succ j=>exact(Gn h).1 hp.2 j a b (by simpa using h1) (by simpa using h2)
  ·intro hj;have hl:Sst c (y::l):=(Gn h).2 fun j a b h1 h2=>hj (j+1) a b (by simpa using h1) (by simpa using h2);have hxy:c x y<0:=hj 0 x y rfl rfl;refine mi.2 ⟨fun z hz=>?_,hl⟩;rcases nz.1 hz with rfl | hz
   ·exact hxy
   ·exact h.tr hxy ((mi.1 hl).1 z hz)
instance {α:Type}(c:α->α->Int)(l:List α):Decidable (Sst c l):=inferInstanceAs (Decidable (l.Pairwise _))
def isB(l:List U):Bool:=decide (Sst jh l)
def zj8{l:List U}{j:Nat}{a b:U}(h1:l[j]?=some a)(h2:l[j+1]?=some b)(h:¬ jh a b<0):isB l=false:=ng fun hs=>h ((Gn cmpT_ord).1 hs j a b h1 h2)
def zhl{l:List U}(h:∀ j a b,l[j]?=some a->l[j+1]?=some b->jh a b<0):isB l=true:=nf ((Gn cmpT_ord).2 h)
def ptA(s:ByteArray):U×Int:=
 if (f6 s 64).2.2=true/\Ns (f6 s 64).2.1 64=false then
  (if (pgA (f6 s 64).1).2.2.2=0 then
   (if (psA (f6 s 64).2.1).2.2.2=0 then
    (((((pgA (f6 s 64).1).1,(pgA (f6 s 64).1).2.1),(pgA (f6 s 64).1).2.2.1),(((psA (f6 s 64).2.1).1,(psA (f6 s 64).2.1).2.1),(psA (f6 s 64).2.1).2.2.1)),0)
   else ((((⟨#[]⟩,⟨#[]⟩),⟨#[]⟩),((⟨#[]⟩,⟨#[]⟩),⟨#[]⟩)),(psA (f6 s 64).2.1).2.2.2))
  else ((((⟨#[]⟩,⟨#[]⟩),⟨#[]⟩),((⟨#[]⟩,⟨#[]⟩),⟨#[]⟩)),(pgA (f6 s 64).1).2.2.2))
 else ((((⟨#[]⟩,⟨#[]⟩),⟨#[]⟩),((⟨#[]⟩,⟨#[]⟩),⟨#[]⟩)),5)
end Go.V.L2
variable{x:Go.V.L2.U}{l:List Go.V.L2.U}
section
open Go.V
attribute [local irreducible] Has N Par Ret RetL Src StepOK V VO X
namespace Go.V.L2
def _root_.ZcU(t:Wr Y->A:=by intro h;refine z9 (yw L (vs:=[_,_,_,_,_,_]) Z Z Z Z Z ⟨_,rfl⟩) Z ?_;exact h.1)(h:Y):A:=t ⟨h⟩
def _root_.Zag(t:Wr Y->A:=by intro h;refine z9 (qd Z Z Z) Z ?_;exact h.1)(h:Y):A:=t ⟨h⟩
def _root_.Zcg(t:Wr Y->A:=by intro h;refine z7 (yz (cs:=[_,_,_,_,_,_]) Z Z zlv Z Z) Z ?_;exact h.1)(h:Y):A:=t ⟨h⟩
def _root_.Zds(t:Wr Y->A:=by intro h;refine z9 (qg L (vs:=[_,_,_]) (ye Z) Z Z Z Z ⟨_,rfl⟩) Z ?_;exact h.1)(h:Y):A:=t ⟨h⟩
def _root_.ZdO(t:Wr Y->A:=by intro h;refine z9 (Qv Z Z Z Z (nf I)) Z ?_;exact h.1)(h:Y):A:=t ⟨h⟩
def _root_.Zft(t:Wr Y->A:=by intro h;refine z71 L Z (fun u H hH hle=>zgs (by first | assumption | rfl) G hH (GlobM.mono E hle)) ?_;exact h.1)(h:Y):A:=t ⟨h⟩
def _root_.Zev(t:Wr Y->A:=by intro h;refine z9 (Qv Z Z Z Z (ng I)) Z ?_;exact h.1)(h:Y):A:=t ⟨h⟩
def _root_.Zf9(t:Wr Y->A:=by intro h;refine z71 L Z (fun u H hH _=>Oa G G G hH) ?_;exact h.1)(h:Y):A:=t ⟨h⟩
def _root_.ZfA(t:Wr Y->A:=by intro h;refine z71 L Z (fun u H hH hle=>zgo (by first | assumption | rfl) G hH (GlobM.mono E hle)) ?_;exact h.1)(h:Y):A:=t ⟨h⟩
def _root_.Zew(t:Wr Y->A:=by exact fun h=>(Zag∘Zm) h.1)(h:Y):A:=t ⟨h⟩
def _root_.Zej(t:Wr Y->A:=by exact fun h=>(Zew∘Zdh) h.1)(h:Y):A:=t ⟨h⟩
def _root_.Zb7(t:Wr Y->A:=by exact fun h=>(Zej∘ZcU) h.1)(h:Y):A:=t ⟨h⟩
def _root_.Zb8(t:Wr Y->A:=by exact fun h=>(Z6∘ZaP) h.1)(h:Y):A:=t ⟨h⟩
def _root_.ZbN(t:Wr Y->A:=by exact fun h=>(Zl∘Zbq) h.1)(h:Y):A:=t ⟨h⟩
def _root_.Zcp(t:Wr Y->A:=by exact fun h=>(ZH∘Zbw) h.1)(h:Y):A:=t ⟨h⟩
abbrev uv(t:U):Value:=.agg #[.string t.1.1.1,.string t.1.1.2,.string t.1.2,.string t.2.1.1,.string t.2.1.2,.string t.2.2]
abbrev tyU:TypeId:=34
abbrev US(l:List U)(fu:Bool):Value->Heap->Prop:=SlV tyU 6 (l.flatMap ucs) l.length fu
def ix{t:U}(h:l[i]?=some t):((l.flatMap ucs).drop (i*6)).take 6=[.string t.1.1.1,.string t.1.1.2,.string t.1.2,.string t.2.1.1,.string t.2.1.2,.string t.2.2]:=f0 Ck l i t h
def kx{t:U}(hz:TZ t)(hB:zry B w):Ret zrz 100 [uv t] w B (fun v _=>v=.int .i64 (tE t)):=by
 obtain⟨⟨z1,z2,z3⟩,z4,z5,z6⟩:=hz;unfold tE;refine yo Tryz.func100 Z Tryz.ntmps100 (np Z) hB ?_;by_cases h:gh [t.1.1.1,t.1.1.2,t.1.2]=0
 ·rw[na h];refine(Z0∘ZM∘ZaD∘Zcu) ?_;refine z71 L Z (fun u H hH _=>goal_ret G G G hH) ?_;refine(ZbT∘Zaw∘Zs∘ZaD∘Zcu∘Zf9∘Ze) ?_;exact yl2 L [.tmp 2]
 ·rw[nc h];refine(Z0∘ZM∘ZaD∘Zcu) ?_;refine z71 L Z (fun u H hH _=>goal_ret G G G hH) ?_;refine(ZbT∘ZY∘Zx∘Ze) ?_;exact yl2 L [.tmp 2]
def wv{a b:U}(hB:zry B w):Ret zrz 101 [uv a,uv b] w B (fun v _=>v=.int .i64 (jh a b)):=by
 refine yo Tryz.func101 Z Tryz.ntmps101 (np Z) hB ((ZaI∘Zc∘Zc7∘Zbo∘Zds∘Zbo∘Zds) ?_);refine z91 L Z (fun u H hH _=>Ka hH) ?_;refine(Zbo∘Zds∘Zbo∘Zds) ?_;refine z91 L Z (fun u H hH _=>cmpU_ret hH) ?_;refine Zer (h:=?_);refine z9 (qe L Z Z (zp Z) Z Z Z (fun u H hH _ _ v hv=>G4 hH hv)) Z (Zav (h:=?_));exact yl2 L [.tmp 4]
def subjT_size(a b c:ByteArray):(Gk a b c).size<=a.size+b.size+c.size+2:=by
 unfold Gk;split
 ·rw[ek];omega
 ·rw[Ao];omega
def K7{t:U}(hz:TZ t)(hB:zry B w):Ret zrz 123 [uv t] w B (fun v _=>v=.string (tT t)):=by
 obtain⟨⟨z1,z2,z3⟩,z4,z5,z6⟩:=hz;have h0:sAt.size=1:=rfl;have h1:=Ao t.1.1.1 t.1.1.2 t.1.2;have h2:=subjT_size t.2.1.1 t.2.1.2 t.2.2;have h3:(M2 t.1.1.1 t.1.1.2 t.1.2).size+sAt.size<=9223372036854775807:=I;have h4:(M2 t.1.1.1 t.1.1.2 t.1.2++sAt).size+(Gk t.2.1.1 t.2.1.2 t.2.2).size<=9223372036854775807:=by rw[zno];omega
 refine yo Tryz.func123 Z Tryz.ntmps123 (np Z) hB ((Z0∘Zc∘Zc7∘Zbo∘Zds) ?_);refine z91 L Z (fun u H hH _=>A7 G G G hH) ?_;refine(ZdF∘Zbo∘Zds) ?_;refine z91 L Z (fun u H hH _=>Ld G G G hH) ?_;refine(ZdF∘Zav) ?_;exact yl2 L [.tmp 2]
def co{r:U×Int}(hr:ptA s=r)(hs:s.size<=1000000)(hB:zry B w)(hM:GlobM B):
  Ret zrz 63 [.string s] w B (fun v _=>v=.tuple #[uv r.1,.int .i64 r.2]):=by
 subst hr;have hz:=s9 s 64;have hz1:(f6 s 64).1.size<=1000000:=I;have hz2:(f6 s 64).2.1.size<=1000000:=I;unfold ptA;refine yo Tryz.func63 Z Tryz.ntmps63 (np Z) hB ?_;cases h1:(f6 s 64).2.2
 ·rw[nc (fun h=>by cases h.1)];refine(ZQ∘Zbk) ?_;refine z71 L Z (fun u H hH hle=>cn E hH (GlobM.mono E hle) E) ?_;refine(Zcz∘Zb6∘Zq∘Zw∘Zc6∘Zcs∘Zy∘Zcg∘ZaV) ?_;refine yl1 L [.cell 2 34,.tmp 3] fun u H hH hle=>?_;exact⟨_,qy Z,rfl,rfl⟩
 ·cases h2:Ns (f6 s 64).2.1 64
  ·rw[na ⟨rfl,rfl⟩];rcases hp:pgA (f6 s 64).1 with ⟨a,b,c,e⟩
   dsimp only;by_cases he:e=0
   ·rw[na he];rcases hq:psA (f6 s 64).2.1 with ⟨a',b',c',e'⟩
    dsimp only;by_cases he':e'=0
    ·rw[na he'];refine(ZQ∘Zbk) ?_;refine z71 L Z (fun u H hH hle=>cn E hH (GlobM.mono E hle) E) ?_;refine(Zcz∘Zb6∘Zq∘Zw∘Zb) ?_;refine z71 L Z (fun u H hH _=>wy hH E) ?_;refine(ZaT∘ZB∘Zft∘Zcp∘Zj∘Zak∘Zaw∘Z5∘ZfA∘Zcp∘Zj∘ZaM∘Zaw∘Zbf∘ZdM∘ZdM∘Zcg∘ZaV) ?_;refine yl1 L [.cell 2 34,.tmp 3] fun u H hH hle=>?_;exact⟨_,qy Z,rfl,rfl⟩
    ·rw[nc he'];refine(ZQ∘Zbk) ?_;refine z71 L Z (fun u H hH hle=>cn E hH (GlobM.mono E hle) E) ?_;refine(Zcz∘Zb6∘Zq∘Zw∘Zb) ?_;refine z71 L Z (fun u H hH _=>wy hH E) ?_;refine(ZaT∘ZB∘Zft∘Zcp∘Zj∘Zak∘Zaw∘Z5∘ZfA∘Zcp∘Zj∘ZaM∘ZY∘ZE∘Zcg∘Za∘ZaV) ?_;refine yl1 L [.cell 2 34,.tmp 3] fun u H hH hle=>?_;exact⟨_,qy Z,rfl,rfl⟩
   ·rw[nc he];refine(ZQ∘Zbk) ?_;refine z71 L Z (fun u H hH hle=>cn E hH (GlobM.mono E hle) E) ?_;refine(Zcz∘Zb6∘Zq∘Zw∘Zb) ?_;refine z71 L Z (fun u H hH _=>wy hH E) ?_;refine(ZaT∘ZB∘Zft∘Zcp∘Zj∘Zak∘ZY∘ZD∘Zcg∘Za∘ZaV) ?_;refine yl1 L [.cell 2 34,.tmp 3] fun u H hH hle=>?_;exact⟨_,qy Z,rfl,rfl⟩
  ·rw[nc (fun h=>by cases h.2)];refine(ZQ∘Zbk) ?_;refine z71 L Z (fun u H hH hle=>cn E hH (GlobM.mono E hle) E) ?_;refine(Zcz∘Zb6∘Zq∘Zw∘Zb) ?_;refine z71 L Z (fun u H hH _=>wy hH E) ?_;refine(Zcs∘Zy∘Zcg∘ZaV) ?_;refine yl1 L [.cell 2 34,.tmp 3] fun u H hH hle=>?_;exact⟨_,qy Z,rfl,rfl⟩
def Cp(hl:l.length<=1000000){r:Bool}(hr:isB l=r){v:Value}(hB:zry B w)(hv:US l fu v B):
  Ret zrz 280 [v] w B (fun v _=>v=.bool r):=by
 subst hr;refine yo Tryz.func280 Z Tryz.ntmps280 (np Z) hB (jf 0 (US l fu) Z nw hv ((Zad∘ZM∘Za0) ?_))
 refine xq (fun i:Nat=>[(0,.sat (US l fu)),(3,.is (.int .i64 (i+1:Nat)))])
  (fun i=>∀ j a b,j<i->l[j]?=some a->l[j+1]?=some b->jh a b<0) (fun i=>l.length-i) 0 (fun j a b h=>by omega) ⟨rfl,rfl,nm⟩ ?_
 rintro i hall;by_cases hlt:i+1<l.length
 ·obtain⟨a,ha⟩:=xu (show i<l.length by omega);obtain⟨b,hb⟩:=xu hlt;have hca:=ix ha;have hcb:=ix hb;have hsub:IntKind.i64.wrap (((i+1:Nat):Int)-1)=(i:Int):=xd I I |>.trans I;by_cases hc:jh a b<0
  ·refine(Zd∘Zq∘ZbN∘ZaX∘Zdb∘Zew∘Zdr∘Zdh∘ZcU∘Zb7) ?_;refine z91 L Z (fun u H hH _=>wv hH) ?_;refine(Zev∘Zbg∘Zdw∘Zax∘Zx∘Zay) ?_
   exact yv (x:=i) (i+1) (fun j a' b' hj h1 h2=>by
    by_cases hji:j=i
    ·subst hji;rw[ha] at h1;rw[hb] at h2;cases h1;cases h2;exact hc
    ·exact hall j a' b' I h1 h2) I ⟨Z,Z,nm⟩
  ·rw[zj8 ha hb hc];refine(Zd∘Zq∘ZbN∘ZaX∘Zdb∘Zew∘Zdr∘Zdh∘ZcU∘Zb7) ?_;refine z91 L Z (fun u H hH _=>wv hH) ?_;refine(ZdO∘ZaN∘Zf∘ZT∘Ze) ?_;exact yl2 L [.tmp 2]
 ·rw[zhl fun j a b h1 h2=>hall j a b (by
   have:j+1<l.length:=by
    rcases zni (j+1) l.length with h | h
    ·exact h
    ·rw[zn3 h] at h2;cases h2
   omega) h1 h2]
  refine(Zd∘Zq∘Zl∘Zb8∘ZD∘Ze) ?_;exact yl2 L [.tmp 2]
end Go.V.L2
namespace Go.V
def _root_.ZcG(t:Wr Y->A:=by intro h;refine z7 (Qu Z Z Z Z (ng I)) Z ?_;exact h.1)(h:Y):A:=t ⟨h⟩
def _root_.ZcL(t:Wr Y->A:=by intro h;refine z7 (Qu Z Z Z Z (nf I)) Z ?_;exact h.1)(h:Y):A:=t ⟨h⟩
def _root_.ZbG(t:Wr Y->A:=by exact fun h=>(Zd∘ZcF) h.1)(h:Y):A:=t ⟨h⟩
def ct(hs:s.size<=9223372036854775807)(hB:zry B w):
  Ret zrz 175 [.string s] w B (fun v _=>v=.int .i64 (chk s)):=by
 refine yo Tryz.func175 Z Tryz.ntmps175 (np Z) hB ?_;by_cases h0:1<=s.size/\s.size<=16
 ·obtain⟨h1,h2⟩:=h0;refine(Z4∘Za∘ZK∘ZJ∘Zb∘ZK∘ZcL∘Zi∘Zj∘ZS∘Za0) ?_
  refine xq (fun p:Nat×Bool=>[(0,.is (.string s)),(3,.is (.bool p.2)),(4,.is (.int .i64 p.1))])
   (fun p=>p.1<=s.size/\(p.2=true->(s.data.toList.take p.1).all okB=true)/\(p.2=false->chk s=6)) (fun p=>s.size-p.1) (0,true) ⟨mf _,fun _=>by simp,fun h=>by cases h⟩ ⟨rfl,rfl,rfl,nm⟩ ?_
  rintro⟨k,b⟩ ⟨hk,hall,hbad⟩;dsimp only at hk hall hbad |-;by_cases hlt:k<s.size
  ·cases b with
   | false=>
    refine(ZbG∘ZK∘ZI∘Zb∘Zi∘ZaP∘Zf∘ZL∘Zo∘Z7∘Ze) ?_;refine yl1 L [.tmp 2] fun u H hH hle=>?_;exact nh _ (hbad Z).symm
   | true=>
    obtain⟨c,hc⟩:=getElem?_lt hlt;have hu:=zfx c;by_cases a1:97<=(c.toNat:Int)
    ·by_cases a4:(c.toNat:Int)<=122
     ·refine(ZbG∘ZK∘ZI∘Zb∘ZbJ∘ZaZ∘ZbZ∘Za8∘ZbD∘Zu∘Za8∘ZcL∘Zi∘ZbY∘Zbv∘Zbv∘Zi∘Zao∘Zax∘ZB∘Zay) ?_;exact yv (x:=(k,true)) (k+1,true) ⟨hlt,fun _=>Bt hc (zjk I I) (hall Z),fun h=>(by cases h)⟩ M ⟨Z,Z,Z,nm⟩
     ·refine(ZbG∘ZK∘ZI∘Zb∘ZbJ∘ZaZ∘ZbZ∘Za8∘ZbD∘Zu∘Za8∘ZcG∘Zi∘Zu∘Za8∘ZbD∘Zu∘Za8∘ZcG∘Zi∘Zi∘Zao∘Zax∘ZB∘Zay) ?_;exact yv (x:=(k,true)) (k+1,false) ⟨hlt,fun h=>(by cases h),fun _=>F3 hc (zjl I)⟩ M ⟨Z,Z,Z,nm⟩
    ·by_cases a2:48<=(c.toNat:Int)
     ·by_cases a3:(c.toNat:Int)<=57
      ·refine(ZbG∘ZK∘ZI∘Zb∘ZbJ∘ZaZ∘ZbZ∘Za8∘Zaj∘Zcr∘Zi∘Zu∘Za8∘ZbD∘Zu∘Za8∘ZcL∘Zi∘Zi∘Zao∘Zax∘ZB∘Zay) ?_;exact yv (x:=(k,true)) (k+1,true) ⟨hlt,fun _=>Bt hc (zjj I I) (hall Z),fun h=>(by cases h)⟩ M ⟨Z,Z,Z,nm⟩
      ·refine(ZbG∘ZK∘ZI∘Zb∘ZbJ∘ZaZ∘ZbZ∘Za8∘Zaj∘Zcr∘Zi∘Zu∘Za8∘ZbD∘Zu∘Za8∘ZcG∘Zi∘Zi∘Zao∘Zax∘ZB∘Zay) ?_;exact yv (x:=(k,true)) (k+1,false) ⟨hlt,fun h=>(by cases h),fun _=>F3 hc (zjm I I)⟩ M ⟨Z,Z,Z,nm⟩
     ·refine(ZbG∘ZK∘ZI∘Zb∘ZbJ∘ZaZ∘ZbZ∘Za8∘Zaj∘Zcr∘Zi∘Zu∘Za8∘Zaj∘Zcr∘Zi∘Zi∘Zao∘Zax∘ZB∘Zay) ?_;exact yv (x:=(k,true)) (k+1,false) ⟨hlt,fun h=>(by cases h),fun _=>F3 hc (zjn I I)⟩ M ⟨Z,Z,Z,nm⟩
  ·cases b with
   | false=>
    refine(ZbG∘ZK∘Z6∘Za∘Za6∘ZaP∘Zf∘ZL∘Zo∘Z7∘Ze) ?_;refine yl1 L [.tmp 2] fun u H hH hle=>?_;exact nh _ (hbad Z).symm
   | true=>
    refine(ZbG∘ZK∘Z6∘Za∘Za6∘ZaP∘Zf∘ZL∘Zr∘ZU∘Ze) ?_;refine yl1 L [.tmp 2] fun u H hH hle=>?_;exact nh _ (za0 h1 h2 (Ry I (hall Z))).symm
 ·have hbad:=Pr h0;by_cases h1:1<=s.size
  ·have h2:16<s.size:=I;refine(Z4∘Za∘ZK∘ZJ∘Zb∘ZK∘ZcG∘Zi∘Zj∘ZS∘Za0) ?_;refine xq (fun _:Unit=>[(0,.is (.string s)),(3,.is (.bool false)),(4,.is (.int .i64 0))]) (fun _=>True) (fun _=>0) () trivial ⟨Z,Z,Z,nm⟩ ?_;rintro _ _;refine(ZbG∘ZK∘ZI∘Zb∘Zi∘ZaP∘Zf∘ZL∘Zo∘Z7∘Ze) ?_;refine yl1 L [.tmp 2] fun u H hH hle=>?_;exact nh _ hbad.symm
  ·refine(Z4∘Za∘ZK∘Zan∘Zbe∘Zj∘ZS∘Za0) ?_;refine xq (fun _:Unit=>[(0,.is (.string s)),(3,.is (.bool false)),(4,.is (.int .i64 0))]) (fun _=>True) (fun _=>0) () trivial ⟨Z,Z,Z,nm⟩ ?_;rintro _ _;refine(ZbG∘ZK∘Z6∘Za∘Za6∘ZaP∘Zf∘ZL∘Zo∘Z7∘Ze) ?_;refine yl1 L [.tmp 2] fun u H hH hle=>?_;exact nh _ hbad.symm
def max2(a b:ByteArray):(if chk b>chk a then chk b else chk a)=gh [a,b]:=by
 simp only[gh];rcases wz a with h | h<;>rcases wz b with h' | h'<;>simp [h,h']
def zl8(a b c:ByteArray):(if chk c>gh [a,b] then chk c else gh [a,b])=gh [a,b,c]:=by
 simp only[gh];rcases wz a with h | h<;>rcases wz b with h' | h'<;>rcases wz c with h'' | h''<;>simp [h,h',h'']
def dl(ha:a.size<=9223372036854775807)(hb:b.size<=9223372036854775807)(hB:zry B w):
  Ret zrz 174 [.agg #[.string a,.string b]] w B (fun v _=>v=.int .i64 (gh [a,b])):=by
 refine yo Tryz.func174 Z Tryz.ntmps174 (np Z) hB ((Z0∘Zc∘Zc7∘Zbp) ?_);refine z91 L Z (fun u H hH _=>ct (by first | omega | decide) hH) ?_;refine Zbp (h:=?_);refine z91 L Z (fun u H hH _=>ct (by first | omega | decide) hH) ?_;refine z9 (i6 Z Z Z Z Z) Z (Zav (h:=?_));refine yl1 L [.tmp 2] fun u H hH hle=>?_;exact nh _ (max2 a b)
def V5(ha:a.size<=9223372036854775807)(hb:b.size<=9223372036854775807)(hc:c.size<=9223372036854775807)(hB:zry B w):
  Ret zrz 125 [.agg #[.string a,.string b,.string c]] w B (fun v _=>v=.int .i64 (gh [a,b,c])):=by
 refine yo Tryz.func125 Z Tryz.ntmps125 (np Z) hB ((Z0∘Zc∘Zc7∘Zbo∘ZcS) ?_);refine z91 L Z (fun u H hH _=>dl G G hH) ?_;refine Zbp (h:=?_);refine z91 L Z (fun u H hH _=>ct (by first | omega | decide) hH) ?_;refine z9 (i6 Z Z Z Z Z) Z (Zav (h:=?_));refine yl1 L [.tmp 2] fun u H hH hle=>?_;exact nh _ (zl8 a b c)
def _root_.Zc0(t:Wr Y->A:=by intro h;refine qp (id:=3) [] kj J ?_;exact h.1)(h:Y):A:=t ⟨h⟩
def zck(h:c.size=0):c=⟨#[]⟩:=by
 obtain⟨⟨l⟩⟩:=c;have h':l.length=0:=h;rw[m8 h']
def Ly(ha:a.size<=9223372036854775807)(hb:b.size<=9223372036854775807)(hc:c.size<=9223372036854775807)(hB:zry B w):
  Ret zrz 126 [.agg #[.string a,.string b,.string c]] w B (fun v _=>v=.int .i64 (oc a b c)):=by
 refine yo Tryz.func126 Z Tryz.ntmps126 (np Z) hB ?_;by_cases h:c.size=0
 ·refine(Z0∘ZM∘Z8∘ZK∘Zv∘Zbd∘Zcv) ?_;refine z71 L Z (fun u H hH _=>dl G G hH) ?_;refine Ze (h:=?_);refine yl1 L [.tmp 2] fun u H hH hle=>?_;exact nh (Value.int .i64) (show gh [a,b]=oc a b c from(na (zck h)).symm)
 ·refine(Z0∘ZM∘Z8∘ZK∘Zn∘Zo∘Zc0∘Zbo∘ZcS) ?_;refine z91 L Z (fun u H hH _=>dl G G hH) ?_;refine Zbp (h:=?_);refine z91 L Z (fun u H hH _=>ct (by first | omega | decide) hH) ?_;refine z9 (i6 Z Z Z Z Z) Z (Zav (h:=?_));refine yl1 L [.tmp 2] fun u H hH hle=>?_;exact nh (Value.int .i64) ((zl8 a b c).trans (show gh [a,b,c]=oc a b c from(nc (fun e=>h (by subst e;rfl))).symm))
end Go.V
namespace Go.V.L2
def _root_.ZbO(t:Wr Y->A:=by intro h;refine z9 (qg L (vs:=[_,_,_,_,_,_]) (ye Z) Z Z Z Z ⟨_,rfl⟩) Z ?_;exact h.1)(h:Y):A:=t ⟨h⟩
def _root_.Zcb(t:Wr Y->A:=by exact fun h=>(Zd∘ZB) h.1)(h:Y):A:=t ⟨h⟩
def _root_.Zch(t:Wr Y->A:=by exact fun h=>(Za7∘ZV) h.1)(h:Y):A:=t ⟨h⟩
def Ce:∀ (l:List ByteArray),gh l=0\/gh l=6
 | []=>.inl rfl
 | s::l=>by
  simp only[gh];split
  ·exact Ce l
  ·rename_i h;exact .inr ((wz s).resolve_left h)
def Lg(a b c:ByteArray):oc a b c=0\/oc a b c=6:=by
 unfold oc;split<;>exact Ce _
def zi0(t:U):(if oc t.2.1.1 t.2.1.2 t.2.2>gh [t.1.1.1,t.1.1.2,t.1.2] then oc t.2.1.1 t.2.1.2 t.2.2 else gh [t.1.1.1,t.1.1.2,t.1.2])=tE t:=by
 unfold tE;rcases Ce [t.1.1.1,t.1.1.2,t.1.2] with h | h<;>rcases Lg t.2.1.1 t.2.1.2 t.2.2 with h' | h'<;>rw[h,h']<;>decide
def eqU{t v:U}{r:Bool}(e:decide (t=v)=r):i9 [0,0,0,0,0,0] [.string t.1.1.1,.string t.1.1.2,.string t.1.2,.string t.2.1.1,.string t.2.1.2,.string t.2.2] [.string v.1.1.1,.string v.1.1.2,.string v.1.2,.string v.2.1.1,.string v.2.1.2,.string v.2.2]=some r:=by
 subst e;simp only[i9,eqC];have h:=@zmz t v;by_cases hh:t=v
 ·subst hh;simp
 ·rw[ng hh];have h':=fun x=>hh (h.1 x);by_cases a1:t.1.1.1=v.1.1.1
  ·by_cases a2:t.1.1.2=v.1.1.2
   ·by_cases a3:t.1.2=v.1.2
    ·by_cases a4:t.2.1.1=v.2.1.1
     ·by_cases a5:t.2.1.2=v.2.1.2
      ·by_cases a6:t.2.2=v.2.2
       ·exact ni ⟨a1,a2,a3,a4,a5,a6⟩ h'
       ·simp [a6]
      ·simp [a5]
     ·simp [a4]
    ·simp [a3]
   ·simp [a2]
  ·simp [a1]
def eq3{g h:P4}{r:Bool}(e:decide (g=h)=r):i9 [0,0,0] [.string g.1.1,.string g.1.2,.string g.2] [.string h.1.1,.string h.1.2,.string h.2]=some r:=
 zma (by rw[<-e];exact decide_eq_decide.2 ⟨fun⟨a,b,c⟩=>Prod.ext (Prod.ext a b) c,fun e=>by subst e;exact⟨rfl,rfl,rfl⟩⟩)
def zki{a b:U}(h:a.1≠b.1):jh a b=zkl a.1 b.1:=by
 unfold jh zbl;rw[Xj,if_neg fun e=>h (cmp3_ord.eq _ _ e)]
def zkh{a b:U}(h:a.1=b.1):jh a b=zkl a.2 b.2:=by
 unfold jh zbl;rw[Xj,if_pos (by rw[h];exact cmp3_ord.refl _)]
def Vn{l:List α}{g:α}(h:l[k]?=some g):l.take (k+1)=l.take k++[g]:=by rw[zns,h];rfl
def ez{l:List α}{g:α}(h:l[k]?=some g):l.drop k=g::l.drop (k+1):=by
 obtain⟨hl,he⟩:=zoj.1 h;rw[zn0 hl,he]
def gt{s:Nat}{r:List U}{t:U}(h:κ s=some (.own (SlR tyU 6 (r.length+1) (r.flatMap ucs++[.string t.1.1.1,.string t.1.1.2,.string t.1.2,.string t.2.1.1,.string t.2.1.2,.string t.2.2])))):κ s=some (.own (SlR tyU 6 (r++[t]).length ((r++[t]).flatMap ucs))):=by
 rw[h,znw,nr];rfl
def u7{t:U}(hz:TZ t)(hB:zry B w):Ret zrz 58 [uv t] w B (fun v _=>v=.int .i64 (tE t)):=by
 obtain⟨⟨z1,z2,z3⟩,z4,z5,z6⟩:=hz;have hm:=zi0 t;refine yo Tryz.func58 Z Tryz.ntmps58 (np Z) hB ((Z0∘Zc∘Zc7∘Zbo∘Zds) ?_);refine z91 L Z (fun u H hH _=>V5 G G G hH) ?_;refine(Zbo∘Zds) ?_;refine z91 L Z (fun u H hH _=>Ly G G G hH) ?_;refine z9 (i6 Z Z Z Z E) Z (Zav (h:=?_));exact yl2 L [.tmp 2]
def rm{a b:U}(ha:TZ a)(hb:TZ b)(hB:zry B w):Ret zrz 152 [uv a,uv b] w B (fun v _=>v=.int .i64 (jh a b)):=by
 obtain⟨⟨z1,z2,z3⟩,z4,z5,z6⟩:=ha;obtain⟨⟨y1,y2,y3⟩,y4,y5,y6⟩:=hb;refine yo Tryz.func152 Z Tryz.ntmps152 (np Z) hB ?_;by_cases h:a.1=b.1
 ·have hq:=eq3 (nf h);rw[zkh h];refine(ZaI∘ZM∘ZaD∘Zcu∘ZaD∘Zcu) ?_;refine z7 (Dk Z Z Z Z zmv E Z) Z ((Zo∘Zy∘ZaD∘Zcu∘ZaD∘Zcu) ?_);refine z71 L Z (fun u H hH _=>V8 G G G G G G hH) ?_;refine Ze (h:=?_);exact yl2 L [.tmp 4]
 ·have hq:=eq3 (ng h);rw[zki h];refine(ZaI∘ZM∘ZaD∘Zcu∘ZaD∘Zcu) ?_;refine z7 (Dk Z Z Z Z zmv E Z) Z ((Zbd∘ZaD∘Zcu∘ZaD∘Zcu) ?_);refine z71 L Z (fun u H hH _=>V9 G G G G G G hH) ?_;refine Ze (h:=?_);exact yl2 L [.tmp 4]
def jq{t:U}(hl:l.length<=1000000)(he:(if t∈l then 1 else 0:Int)=e){v:Value}(hB:zry B w)(hv:US l fu v B):
  Ret zrz 153 [v,uv t] w B (fun v _=>v=.int .i64 e):=by
 subst he;refine yo Tryz.func153 Z Tryz.ntmps153 (np Z) hB (jf 0 (US l fu) Z nw hv ((Z0∘ZM∘Za0) ?_))
 refine xq (fun i:Nat=>[(0,.sat (US l fu)),(3,.sat (At [.string t.1.1.1,.string t.1.1.2,.string t.1.2,.string t.2.1.1,.string t.2.1.2,.string t.2.2] tyU 0)),(5,.is (.int .i64 i))])
  (fun i=>i<=l.length/\(t∈l↔t∈l.drop i)) (fun i=>l.length-i) 0 ⟨mf _,Iff.rfl⟩ ⟨rfl,rfl,rfl,nm⟩ ?_
 rintro i ⟨hi,he⟩;by_cases hlt:i<l.length
 ·obtain⟨y,hy⟩:=xu hlt;have hc:=ix hy;rw[ez hy] at he;by_cases hyt:y=t
  ·have hq:=eqU (nf hyt);rw[na (he.2 (by rw[hyt];exact mc ..))];refine(Zd∘Zq∘ZbN∘ZaX∘Zdb∘Zb7∘ZbO) ?_;refine z9 (X5 Z Z Z Z zk8 E Z) Z ((ZaN∘Zf∘ZT∘Ze) ?_);exact yl2 L [.tmp 4]
  ·have hq:=eqU (ng hyt);refine(Zd∘Zq∘ZbN∘ZaX∘Zdb∘Zb7∘ZbO) ?_;refine z9 (X5 Z Z Z Z zk8 E Z) Z ((Zbg∘Zdw∘Zax∘Zx∘Zay) ?_);exact yv (x:=i) (i+1) ⟨hlt,he.trans ⟨fun h=>(nz.1 h).resolve_left fun e=>hyt e.symm,fun h=>me _ h⟩⟩ I ⟨Z,Z,Z,nm⟩
 ·obtain rfl:i=l.length:=by omega
  rw[zpi] at he;rw[nc fun h=>by cases he.1 h];refine(Zd∘Zq∘Zl∘Zb8∘ZD∘Ze) ?_;exact yl2 L [.tmp 4]
def S6{a b:List U}{fa fb:Bool}(hla:a.length<=1000000)(hlb:b.length<=1000000)(he:(if a=b then 1 else 0:Int)=e){va vb:Value}(hB:zry B w)(ha:US a fa va B)(hb:US b fb vb B):
  Ret zrz 18 [va,vb] w B (fun v _=>v=.int .i64 e):=by
 subst he;refine yo Tryz.func18 Z Tryz.ntmps18 (np Z) hB (jf 0 (US a fa) Z nw ha (jf 1 (US b fb) Z nw hb ?_));by_cases hlen:a.length=b.length
 ·refine(Zad∘ZM∘Zl∘Zl∘Zch∘Zy∘Za0) ?_
  refine xq (fun i:Nat=>[(0,.sat (US a fa)),(1,.sat (US b fb)),(5,.is (.int .i64 i))])
   (fun i=>i<=a.length/\a.take i=b.take i) (fun i=>a.length-i) 0 ⟨mf _,rfl⟩ ⟨rfl,rfl,rfl,nm⟩ ?_
  rintro i ⟨hi,he⟩;by_cases hlt:i<a.length
  ·obtain⟨x,hx⟩:=xu hlt;obtain⟨y,hy⟩:=xu (show i<b.length by omega);have hcx:=ix hx;have hcy:=ix hy;by_cases hxy:x=y
   ·have hq:=eqU (nf hxy);refine(Zcb∘ZbN∘ZaX∘ZcK∘Zb7∘Zb7) ?_;refine z9 (Dk Z Z Z Z zk8 E Z) Z ((Zbg∘Zdw∘Zax∘Zak∘Zay) ?_);exact yv (x:=i) (i+1) ⟨hlt,by rw[Vn hx,Vn hy,he,hxy]⟩ I ⟨Z,Z,Z,nm⟩
   ·have hq:=eqU (ng hxy);have h1:a≠b:=fun e=>by subst e;rw[hx] at hy;exact hxy (Option.some.inj hy)
    rw[nc h1];refine(Zcb∘ZbN∘ZaX∘ZcK∘Zb7∘Zb7) ?_;refine z9 (Dk Z Z Z Z zk8 E Z) Z ((ZaN∘Zf∘ZU∘Ze) ?_);exact yl2 L [.tmp 4]
  ·obtain rfl:i=a.length:=by omega
   have h1:a=b:=by rw[znq,hlen,znq] at he;exact he
   rw[na h1];refine(Zcb∘Zl∘Zb8∘Z7∘Ze) ?_;exact yl2 L [.tmp 4]
 ·have h1:a≠b:=fun e=>hlen (by rw[e]);rw[nc h1];refine(Zad∘ZM∘Zl∘Zl∘ZY∘ZS∘Ze) ?_;exact yl2 L [.tmp 4]
end Go.V.L2
namespace Go.V
def noB(s:ByteArray)(c:UInt8):Prop:=c∉s.data.toList
def an(r:List UInt8)(c:UInt8):∀ (l:List UInt8),c∉l->Lib.indexByte (l++c::r) c=l.length
 | [],_=>by simp [Lib.indexByte]
 | b::l,h=>by
  have h1:¬ (b == c)=true:=fun e=>h (by rw[beq_iff_eq] at e;rw[e];exact mc ..);have ih:=an r c l (fun e=>h (me _ e));rw[znt,Lib.indexByte,nc h1,ih,nc (by rw[beq_iff_eq];omega)];simp
def ev(c:UInt8):∀ (l:List UInt8),c∉l->Lib.indexByte l c= -1
 | [],_=>rfl
 | b::l,h=>by
  have h1:¬ (b == c)=true:=fun e=>h (by rw[beq_iff_eq] at e;rw[e];exact mc ..);rw[Lib.indexByte,nc h1,ev c l (fun e=>h (me _ e))];rfl
def zhu{l r:List UInt8}{c:UInt8}(h:c∉l):Lib.cut (l++c::r) [c]=(l,r,true):=by
 unfold Lib.cut;rw[Lib.index_one,an r c l h,na I];simp
def zkg{l:List UInt8}{c:UInt8}(h:c∉l):Lib.cut l [c]=(l,[],false):=by
 unfold Lib.cut;rw[Lib.index_one,ev c l h,nc I]
def k8(a b:ByteArray):(a++b).data.toList=a.data.toList++b.data.toList:=by
 rw[ByteArray.data_append,Array.toList_append]
def vq(h:a.data.toList=b.data.toList):a=b:=by
 obtain⟨⟨x⟩⟩:=a;obtain⟨⟨y⟩⟩:=b;simp at h;subst h;rfl
def ba_of(a:ByteArray):(⟨a.data.toList.toArray⟩:ByteArray)=a:=by obtain⟨⟨l⟩⟩:=a;rfl
def Ca{c:UInt8}(h:noB a c):f6 (a++⟨#[c]⟩++b) c=(a,b,true):=by
 have e:(a++⟨#[c]⟩++b).data.toList=a.data.toList++c::b.data.toList:=by rw[k8,k8];simp
 unfold f6;rw[e,zhu h]
def Pq{c:UInt8}(h:noB a c):f6 a c=(a,⟨#[]⟩,false):=by
 unfold f6;rw[zkg h]
def Pj{c:UInt8}(h:noB a c):Ns a c=false:=by
 unfold Ns;rw[ev c _ h];rfl
def zhx{c:UInt8}(h:noB a c):zfh a c=0:=by
 unfold zfh Lib.countByte;exact zow h
def zkr(h:gh [a,b]=0):chk a=0/\chk b=0:=by
 simp only[gh] at h;rcases wz a with h1 | h1<;>rcases wz b with h2 | h2<;>simp [h1,h2] at h |-
def Up(h:gh [a,b,c]=0):chk a=0/\chk b=0/\chk c=0:=by
 simp only[gh] at h;rcases wz a with h1 | h1<;>rcases wz b with h2 | h2<;>rcases wz c with h3 | h3<;>simp [h1,h2,h3] at h |-
def Ab(h:oc a b c=0):chk a=0/\chk b=0/\(c=⟨#[]⟩\/chk c=0):=by
 unfold oc at h;split at h
 ·rename_i hc;exact⟨(zkr h).1,(zkr h).2,.inl hc⟩
 ·exact⟨(Up h).1,(Up h).2.1,.inr (Up h).2.2⟩
def subjT_size(a b c:ByteArray):(Gk a b c).size<=a.size+b.size+c.size+2:=by
 unfold Gk;split
 ·rw[ek];omega
 ·rw[Ao];omega
def _root_.ZbP(t:Wr Y->A:=by intro h;refine z9 (yd Z Z Z Z E) Z ?_;exact h.1)(h:Y):A:=t ⟨h⟩
def _root_.ZcM(t:Wr Y->A:=by intro h;refine z7 (x8 Z Z Z Z (xd I I)) Z ?_;exact h.1)(h:Y):A:=t ⟨h⟩
def _root_.ZbQ(t:Wr Y->A:=by intro h;refine z9 (qt L Z Z Z Z) Z ?_;exact h.1)(h:Y):A:=t ⟨h⟩
def _root_.ZcV(t:Wr Y->A:=by intro h;refine qp (id:=8) [] kj J ?_;exact h.1)(h:Y):A:=t ⟨h⟩
def _root_.ZdP(t:Wr Y->A:=by intro h;refine qp (id:=5) [] kj J ?_;exact h.1)(h:Y):A:=t ⟨h⟩
def _root_.Ze8(t:Wr Y->A:=by intro h;refine z9 (qg L (vs:=[_,_]) (qy Z) Z Z Z Z ⟨_,rfl⟩) Z ?_;exact h.1)(h:Y):A:=t ⟨h⟩
def _root_.Ze9(t:Wr Y->A:=by intro h;refine z9 (yz (cs:=[_,_]) Z Z zmr Z Z) Z ?_;exact h.1)(h:Y):A:=t ⟨h⟩
def _root_.Zex(t:Wr Y->A:=by intro h;refine qp (id:=7) [] kj J ?_;exact h.1)(h:Y):A:=t ⟨h⟩
def _root_.ZbH(t:Wr Y->A:=by exact fun h=>(ZH∘ZaR) h.1)(h:Y):A:=t ⟨h⟩
def fi(c:UInt8):List UInt8->Nat
 | []=>0
 | x::l=>if x=c then 0 else fi c l+1
def zkc{c:UInt8}:∀ {l:List UInt8},c∉l->fi c l=l.length
 | [],_=>rfl
 | x::l,h=>by
  rw[fi,nc fun e=>h (by rw[e];exact mc ..),zkc fun e=>h (me _ e),ma]
def Rf{c:UInt8}{q:List UInt8}:∀ {p:List UInt8},c∉p->fi c (p++q)=p.length+fi c q
 | [],_=>by simp
 | x::p,h=>by
  rw[znt,fi,nc fun e=>h (by rw[e];exact mc ..),Rf fun e=>h (me _ e),ma];omega
def zkd{c:UInt8}{q:List UInt8}:∀ {p:List UInt8},c∈p->fi c (p++q)<p.length
 | x::p,h=>by
  rw[znt,fi];split
  ·simp
  ·rename_i hx;have:=zkd (q:=q) ((nz.1 h).resolve_left fun e=>hx e.symm);simp only[ma];omega
def Ac(s:ByteArray)(c:UInt8):noB s c\/∃ a b,s=a++⟨#[c]⟩++b/\noB a c:=by
 by_cases h:c∈s.data.toList
 ·obtain⟨p,q,e,hp⟩:=List.eq_append_cons_of_mem h;refine .inr ⟨⟨p.toArray⟩,⟨q.toArray⟩,vq ?_,by unfold noB;simpa using hp⟩;rw[k8,k8,e];simp
 ·exact .inl h
def ar(p q r:ByteArray)(i j:Nat)(hi:i=p.size)(hj:j=p.size+q.size):(p++q++r).extract i j=q:=by
 subst hi hj;apply vq;rw[ByteArray.data_extract,Array.toList_extract,List.extract,k8,k8];have h1:p.data.toList.length=p.size:=jj p;have h2:q.data.toList.length=q.size:=jj q;rw[mo,<-h1,zqa,List.take_left' I]
def Hy{c:UInt8}(h:¬ noB a c):Ns a c=true:=by
 rcases Ac a c with h1 | ⟨p,q,rfl,hp⟩
 ·exact ni h1 h
 ·unfold Ns;have e:(p++⟨#[c]⟩++q).data.toList=p.data.toList++c::q.data.toList:=by rw[k8,k8];simp
  rw[e,an _ _ _ hp];simp
def rp1(s:ByteArray):ByteArray×ByteArray×ByteArray×Bool×Int:=
 match uf s with
 | none=>(li,li,li,false,5)
 | some (x,y,z,d)=>(x,y,z,d,if d=true then gh [x,y,z] else gh [x,y])
def B5(a b:ByteArray)(c:UInt8):(a++⟨#[c]⟩++b).data.toList=a.data.toList++c::b.data.toList:=by rw[k8,k8];simp
def Hf(a b:ByteArray)(c:UInt8):(a++⟨#[c]⟩++b).size=a.size+1+b.size:=by rw[zno,zno];rfl
def M8{c:UInt8}(h:¬ noB s c):0<s.data.toList.count c:=List.count_pos_iff.2 (Classical.not_not.1 h)
def uo{c:UInt8}{a:Nat}(ha:fi c s.data.toList=a)(hn:s.data.toList.count c=n)(hs:s.size<=1000000)(hB:zry B w):
  Ret zrz 173 [.string s,.int .u8 c.toNat] w B (fun v _=>v=.tuple #[.int .i64 a,.int .i64 n]):=by
 subst ha hn;have hlen:=jj s;refine yo Tryz.func173 Z Tryz.ntmps173 (np Z) hB ((Zbj∘Zbk∘ZK∘Zb1∘Zq∘ZK∘ZcM∘Za0) ?_)
 refine xq (fun x:Nat×Nat×Nat×Int=>[(0,.is (.string s)),(1,.is (.int .u8 c.toNat)),(6,.is (.int .i64 x.2.1)),(7,.is (.int .i64 x.2.2.1)),(8,.is (.int .i64 x.2.2.2))])
  (fun x=>x.1<=s.size/\x.2.1=x.1+fi c (s.data.toList.drop x.1)/\x.2.2.1=(s.data.toList.drop x.1).count c/\x.2.2.2=(x.1:Int)-1/\x.2.2.1<=s.size-x.1) (fun x=>x.1) (s.size,s.size,0,(s.size:Int)-1)
  ⟨nu _,by rw[znm I];rfl,by rw[znm I];rfl,rfl,mf _⟩ ⟨rfl,rfl,rfl,rfl,rfl,nm⟩ ?_
 rintro⟨i,a,n,z⟩ ⟨hi,ha,hn,hz,hb⟩;dsimp only at hi ha hn hz hb |-
 cases i with
 | zero=>
  rw[zn5] at ha hn;have hz0:z<0:=I;obtain rfl:a=fi c s.data.toList:=by omega
  subst hn;refine(Zd∘Zx∘Zaj∘ZaP∘Z7∘Zb∘ZA) ?_;exact yl2 L [.tmp 4,.tmp 5]
 | succ k=>
  obtain rfl:z=(k:Int):=by omega
  obtain⟨x,hc⟩:=getElem?_lt (show k<s.size by omega)
  have hd:s.data.toList[k]?=some x:=by
   have:s.data[k]?=some x:=hc;simpa using this
  have hdr:s.data.toList.drop k=x::s.data.toList.drop (k+1):=by
   have h1:k<s.data.toList.length:=I;rw[zn0 h1];rw[zob h1] at hd;rw[Option.some.inj hd]
  by_cases hx:x=c
  ·subst hx;refine(Zd∘Zx∘ZbE∘ZaX∘ZbZ∘Za8∘Za∘Zv∘Zr∘ZL∘Ze∘Z5∘Zay∘Zax∘ZB∘ZcM∘Zao) ?_;exact yv (x:=(k+1,a,n,(k:Int))) (k,k,n+1,(k:Int)-1) ⟨by dsimp only;omega,by dsimp only;rw[hdr,fi,if_pos Z];rfl,by dsimp only;rw[hdr,List.count_cons_self,hn],rfl,by dsimp only;omega⟩ M ⟨Z,Z,Z,Z,Z,trivial⟩
  ·have hxc:(x.toNat:Int)≠(c.toNat:Int):=fun e=>hx (zq1.1 I);refine(Zd∘Zx∘ZbE∘ZaX∘ZbZ∘Za8∘Za∘Zn∘Zcn∘ZB∘ZcM∘Zao) ?_;exact yv (x:=(k+1,a,n,(k:Int))) (k,a,n,(k:Int)-1) ⟨by dsimp only;omega,by dsimp only;rw[hdr,fi,if_neg hx,ha];omega,by dsimp only;rw[hdr,List.count_cons_of_ne hx,hn],rfl,by dsimp only;omega⟩ M ⟨Z,Z,Z,Z,Z,trivial⟩
def Og{r:ByteArray×ByteArray×ByteArray×Bool×Int}(hr:rp1 s=r)(hs:s.size<=1000000)(hB:zry B w):
  Ret zrz 106 [.string s] w B (fun v _=>v=.tuple #[.agg #[.string r.1,.string r.2.1],.string r.2.2.1,.bool r.2.2.2.1,.int .i64 r.2.2.2.2]):=by
 subst hr
 have bad:uf s=none->∀ {m k m2 k2:Nat},fi 58 s.data.toList=m->s.data.toList.count 58=k->fi 35 s.data.toList=m2->s.data.toList.count 35=k2->(k≠1\/1<k2\/m2<m)->
   Ret zrz 106 [.string s] w B (fun v _=>v=.tuple #[.agg #[.string (rp1 s).1,.string (rp1 s).2.1],.string (rp1 s).2.2.1,.bool (rp1 s).2.2.2.1,.int .i64 (rp1 s).2.2.2.2]):=by
  intro hp m k m2 k2 e1 e2 e3 e4 hor;have hr1:rp1 s=(li,li,li,false,5):=by unfold rp1;rw[hp]
  rw[hr1];refine yo Tryz.func106 Z Tryz.ntmps106 (np Z) hB ?_;by_cases c1:k=1
  ·by_cases c2:1<k2
   ·refine(ZQ∘Zh∘Zh∘Zbk) ?_;refine z71 L Z (fun u H hH _=>uo (c:=58) e1 e2 hs hH) ?_;refine(ZbH∘Zq) ?_;refine z71 L Z (fun u H hH _=>uo (c:=35) e3 e4 hs hH) ?_;refine(ZH∘Zb1∘Zx∘Za7∘Zb∘ZJ∘Zi∘Zbe∘Zr∘Zs∘ZdK∘ZaF∘Zh∘ZA) ?_;refine yl1 L [.cell 2 29,.tmp 3,.tmp 4,.tmp 5] fun u H hH hle=>?_;exact⟨_,qy Z,rfl,rfl⟩
   ·have c3:m2<m:=I;refine(ZQ∘Zh∘Zh∘Zbk) ?_;refine z71 L Z (fun u H hH _=>uo (c:=58) e1 e2 hs hH) ?_;refine(ZbH∘Zq) ?_;refine z71 L Z (fun u H hH _=>uo (c:=35) e3 e4 hs hH) ?_;refine(ZH∘Zb1∘Zx∘Za7∘Zb∘Zan∘Zi∘Zu∘ZI∘Zcs∘Zs∘ZdK∘ZaF∘Zh∘ZA) ?_;refine yl1 L [.cell 2 29,.tmp 3,.tmp 4,.tmp 5] fun u H hH hle=>?_;exact⟨_,qy Z,rfl,rfl⟩
  ·refine(ZQ∘Zh∘Zh∘Zbk) ?_;refine z71 L Z (fun u H hH _=>uo (c:=58) e1 e2 hs hH) ?_;refine(ZbH∘Zq) ?_;refine z71 L Z (fun u H hH _=>uo (c:=35) e3 e4 hs hH) ?_;refine(ZH∘Zb1∘Zx∘Zc8∘Zc6∘Zi∘Zbe∘Zr∘Zs∘ZdK∘ZaF∘Zh∘ZA) ?_;refine yl1 L [.cell 2 29,.tmp 3,.tmp 4,.tmp 5] fun u H hH hle=>?_;exact⟨_,qy Z,rfl,rfl⟩
 rcases Ac s 58 with h58 | ⟨a,b,rfl,ha⟩
 ·refine bad ?_ rfl Z Z Z (.inl ?_)
  ·unfold uf;rw[Pq h58];simp
  ·rw[zow h58];decide
 ·have hcut:f6 (a++⟨#[58]⟩++b) 58=(a,b,true):=Ca ha;have hls:=B5 a b 58;have hsz:=Hf a b 58;by_cases hb:noB b 58
  ·have hf1:fi 58 (a++⟨#[58]⟩++b).data.toList=a.size:=by rw[hls,Rf ha,jj];simp [fi]
   have hc1:(a++⟨#[58]⟩++b).data.toList.count 58=1:=by rw[hls,zo0,zpy,zow ha,zow hb]
   by_cases ha3:noB a 35
   ·have hf2:fi 35 (a++⟨#[58]⟩++b).data.toList=a.size+1+fi 35 b.data.toList:=by rw[hls,Rf ha3,jj,fi,nc T];omega
    have hc2:(a++⟨#[58]⟩++b).data.toList.count 35=b.data.toList.count 35:=by rw[hls,zo0,zow ha3,List.count_cons_of_ne T];omega
    have hn1:=Pj ha3;have hn2:=Pj hb;have za:a.size<=1099511627776:=I;have zb:b.size<=1099511627776:=I;have hadd1:IntKind.i64.wrap ((a.size:Int)+1)=((a.size+1:Nat):Int):=xd I I |>.trans I
    have x1:(a++⟨#[58]⟩++b).extract 0 a.size=a:=by
     have:=ar ⟨#[]⟩ a (⟨#[58]⟩++b) 0 a.size rfl (by show _=0+_;omega)
     conv=>rhs;rw[<-this]
     congr 1;apply vq;simp [k8]
    rcases Ac b 35 with hb3 | ⟨c,e,rfl,hc3⟩
    ·have hp:uf (a++⟨#[58]⟩++b)=some (a,b,li,false):=by
      unfold uf;rw[hcut];simp only[hn1,hn2,zhx hb3,Pq hb3];simp
     have hr1:rp1 (a++⟨#[58]⟩++b)=(a,b,li,false,gh [a,b]):=by unfold rp1;rw[hp];rfl
     rw[hr1];have hf3:fi 35 (a++⟨#[58]⟩++b).data.toList=a.size+1+b.size:=by rw[hf2,zkc hb3,jj]
     have hc3:(a++⟨#[58]⟩++b).data.toList.count 35=0:=by rw[hc2,zow hb3]
     have x2:(a++⟨#[58]⟩++b).extract (a.size+1) (a.size+1+b.size)=b:=by
      have:=ar (a++⟨#[58]⟩) b ⟨#[]⟩ (a.size+1) (a.size+1+b.size) (by rw[zno];rfl) (by rw[zno];rfl)
      conv=>rhs;rw[<-this]
      congr 1;apply vq;simp [k8]
     generalize a++⟨#[58]⟩++b=s at *;refine yo Tryz.func106 Z Tryz.ntmps106 (np Z) hB ((ZQ∘Zh∘Zh∘Zbk) ?_);refine z71 L Z (fun u H hH _=>uo (c:=58) hf1 hc1 hs hH) ?_;refine(ZbH∘Zq) ?_;refine z71 L Z (fun u H hH _=>uo (c:=35) hf3 hc3 hs hH) ?_;refine(ZH∘Zb1∘Zx∘Za7∘Zb∘Zan∘Zi∘Zu∘Z6∘ZaT∘ZdP∘Zt) ?_;refine z9 (jb L (kl:=.i64) (pl:=0) 0 a.size Z Z Z Z Z ⟨rfl,rfl⟩ I I x1) Z ((Zt∘ZbP∘Zm) ?_);refine z9 (jb L (a.size+1) (a.size+1+b.size) Z Z Z Z ⟨rfl,rfl⟩ ⟨rfl,rfl⟩ I I x2) Z (Ze9 (h:=?_));refine z9 (qu L Z Z Z Z) Z ((ZbQ∘Zbh∘Zf∘ZL∘Zv∘Zr∘Zex∘Ze8∘Ze8) ?_);refine z91 L Z (fun u H hH _=>dl G G hH) ?_;refine(ZbQ∘Zah∘Zah∘Zav) ?_;refine yl1 L [.cell 2 29,.tmp 3,.tmp 4,.tmp 5] fun u H hH hle=>?_;exact⟨_,qy Z,rfl,rfl⟩
    ·have hls2:=B5 c e 35;have hsz2:=Hf c e 35;by_cases he3:noB e 35
     ·have hcn:(c++⟨#[35]⟩++e).data.toList.count 35=1:=by rw[hls2,zo0,zpy,zow hc3,zow he3]
      have hp:uf (a++⟨#[58]⟩++(c++⟨#[35]⟩++e))=some (a,c,e,true):=by
       unfold uf;rw[hcut];have h4:zfh (c++⟨#[35]⟩++e) 35=1:=hcn;simp only[hn1,hn2,h4,Ca hc3];simp
      have hr1:rp1 (a++⟨#[58]⟩++(c++⟨#[35]⟩++e))=(a,c,e,true,gh [a,c,e]):=by unfold rp1;rw[hp];rfl
      rw[hr1];have hf3:fi 35 (a++⟨#[58]⟩++(c++⟨#[35]⟩++e)).data.toList=a.size+1+c.size:=by rw[hf2,hls2,Rf hc3,jj];simp [fi]
      have hc4:(a++⟨#[58]⟩++(c++⟨#[35]⟩++e)).data.toList.count 35=1:=by rw[hc2,hcn]
      have x2:(a++⟨#[58]⟩++(c++⟨#[35]⟩++e)).extract (a.size+1) (a.size+1+c.size)=c:=by
       have:=ar (a++⟨#[58]⟩) c (⟨#[35]⟩++e) (a.size+1) (a.size+1+c.size) (by rw[zno];rfl) (by rw[zno];rfl)
       conv=>rhs;rw[<-this]
       congr 1;apply vq;simp [k8]
      have x3:(a++⟨#[58]⟩++(c++⟨#[35]⟩++e)).extract (a.size+1+c.size+1) (a++⟨#[58]⟩++(c++⟨#[35]⟩++e)).size=e:=by
       have:=ar (a++⟨#[58]⟩++c++⟨#[35]⟩) e ⟨#[]⟩ (a.size+1+c.size+1) (a++⟨#[58]⟩++(c++⟨#[35]⟩++e)).size (by simp only[zno];rfl) (by simp only[zno];rw[show(⟨#[58]⟩:ByteArray).size=1 from rfl,show(⟨#[35]⟩:ByteArray).size=1 from rfl];omega)
       conv=>rhs;rw[<-this]
       congr 1;apply vq;simp [k8]
      have hsz3:(a++⟨#[58]⟩++(c++⟨#[35]⟩++e)).size=a.size+1+(c.size+1+e.size):=by rw[hsz,hsz2]
      have zc:c.size<=1099511627776:=I;have ze:e.size<=1099511627776:=I;have hadd2:IntKind.i64.wrap (((a.size+1+c.size:Nat):Int)+1)=((a.size+1+c.size+1:Nat):Int):=xd I I |>.trans I;have hmx:=zl8 a c e;generalize a++⟨#[58]⟩++(c++⟨#[35]⟩++e)=s at *;refine yo Tryz.func106 Z Tryz.ntmps106 (np Z) hB ((ZQ∘Zh∘Zh∘Zbk) ?_);refine z71 L Z (fun u H hH _=>uo (c:=58) hf1 hc1 hs hH) ?_;refine(ZbH∘Zq) ?_;refine z71 L Z (fun u H hH _=>uo (c:=35) hf3 hc4 hs hH) ?_;refine(ZH∘Zb1∘Zx∘Za7∘Zb∘Zan∘Zi∘Zu∘Z6∘ZaT∘ZdP∘Zt) ?_;refine z9 (jb L (kl:=.i64) (pl:=0) 0 a.size Z Z Z Z Z ⟨rfl,rfl⟩ I I x1) Z ((Zt∘ZbP∘Zm) ?_);refine z9 (jb L (a.size+1) (a.size+1+c.size) Z Z Z Z ⟨rfl,rfl⟩ ⟨rfl,rfl⟩ I I x2) Z (Ze9 (h:=?_));refine z9 (qu L Z Z Z Z) Z ((ZbQ∘Zbh∘Zf∘ZL∘Zn∘Zo∘ZcV∘Ze8∘Zt∘ZbP) ?_);refine z9 (jb L (kh:=.i64) (ph:=0) (a.size+1+c.size+1) _ Z Z Z Z ⟨rfl,rfl⟩ Z I I x3) Z (Ze8 (h:=?_));refine z91 L Z (fun u H hH _=>dl G G hH) ?_;refine(Zt∘ZbP) ?_;refine z9 (jb L (kh:=.i64) (ph:=0) (a.size+1+c.size+1) _ Z Z Z Z ⟨rfl,rfl⟩ Z I I x3) Z (z91 L Z (fun u H hH _=>ct (by first | omega | decide) hH) ?_);refine z9 (i6 Z Z Z Z E) Z ((ZbQ∘Zah∘Zah∘Zav) ?_);refine yl1 L [.cell 2 29,.tmp 3,.tmp 4,.tmp 5] fun u H hH hle=>?_;exact⟨_,qy Z,rfl,rfl⟩
     ·have hcn:1<(c++⟨#[35]⟩++e).data.toList.count 35:=by have:=M8 he3;rw[hls2,zo0,zpy];omega
      refine bad ?_ rfl Z Z Z (.inr (.inl (by rw[hc2];exact hcn)));unfold uf;rw[hcut];have h4:¬ zfh (c++⟨#[35]⟩++e) 35<=1:=by unfold zfh Lib.countByte;omega
      simp only[h4,and_false,if_false]
   ·refine bad ?_ rfl Z Z Z (.inr (.inr ?_))
    ·unfold uf;rw[hcut];simp only[Hy ha3];simp
    ·rw[hf1,hls,<-jj];exact zkd (Classical.not_not.1 ha3)
  ·refine bad ?_ rfl Z Z Z (.inl ?_)
   ·unfold uf;rw[hcut];simp only[Hy hb];simp
   ·have:=M8 hb;rw[hls,zo0,zpy];omega
def vm{x y z:ByteArray}(hr:rp1 s=(x,y,z,d,e))(hs:s.size<=1000000)(hB:zry B w):
  Ret zrz 106 [.string s] w B (fun v _=>v=.tuple #[.agg #[.string x,.string y],.string z,.bool d,.int .i64 e]):=Og hr hs hB
end Go.V
namespace Go.V.L2
def _root_.ZaW(t:Wr Y->A:=by intro h;refine zh (id:=17) ?_;exact h.1)(h:Y):A:=t ⟨h⟩
def _root_.Zbb(t:Wr Y->A:=by intro h;refine zh (id:=18) ?_;exact h.1)(h:Y):A:=t ⟨h⟩
def _root_.Zci(t:Wr Y->A:=by exact fun h=>(Zbf∘Zb) h.1)(h:Y):A:=t ⟨h⟩
def zgr(a:ByteArray):pgA a=if (rp1 a).2.2.2.1=false then (li,li,li,5) else if (rp1 a).2.2.2.2=0 then ((rp1 a).1,(rp1 a).2.1,(rp1 a).2.2.1,0) else (li,li,li,(rp1 a).2.2.2.2):=by
 unfold pgA rp1;rcases uf a with _ | ⟨x,y,z,d⟩
 ·rfl
 ·cases d
  ·rfl
  ·simp only[if_true]
def zi8(a:ByteArray):psA a=if (rp1 a).2.2.2.2=0 then ((rp1 a).1,(rp1 a).2.1,(rp1 a).2.2.1,0) else (li,li,li,(rp1 a).2.2.2.2):=by
 unfold psA rp1;rcases uf a with _ | ⟨x,y,z,d⟩
 ·rfl
 ·dsimp only;cases d
  ·simp
  ·simp only[if_true,gh];rcases wz x with h1 | h1<;>rcases wz y with h2 | h2<;>rcases wz z with h3 | h3<;>simp [h1,h2,h3]
def zmf{l a b:List UInt8}{c:UInt8}(e:l=a++c::b)(ha:c∉a)(hb:c∉b)(hk:l[k]?=some c):k=a.length:=by
 subst e;rcases zqx k a.length with h | h | h
 ·rw[zor h] at hk;exact ni (m9 hk) ha
 ·exact h
 ·rw[zq2 I,show k-a.length=(k-a.length-1)+1 by omega,zpb] at hk;exact ni (m9 hk) hb
def C4{r:U×Int}(hr:ptA s=r)(hs:s.size<=1000000)(hB:zry B w):
  Ret zrz 39 [.string s] w B (fun v _=>v=.tuple #[uv r.1,.int .i64 r.2]):=by
 subst hr;have hlen:=jj s;refine yo Tryz.func39 Z Tryz.ntmps39 (np Z) hB ((ZQ∘ZaH∘Zb1∘ZS∘Za0) ?_)
 refine xq (fun x:Nat×Nat×Nat=>[(0,.is (.string s)),(2,.own (gm [.string ⟨#[]⟩,.string ⟨#[]⟩,.string ⟨#[]⟩,.string ⟨#[]⟩,.string ⟨#[]⟩,.string ⟨#[]⟩] tyU)),(4,.is (.int .i64 x.2.1)),(5,.is (.int .i64 x.2.2)),(6,.is (.int .i64 x.1))])
  (fun x=>x.1<=s.size/\x.2.2=(s.data.toList.take x.1).count 64/\x.2.2<=x.1/\(x.2.2=1->x.2.1<s.size/\s.data.toList[x.2.1]?=some 64)) (fun x=>s.size-x.1) (0,0,0)
  ⟨mf _,by simp,nu _,fun h=>by cases h⟩ ⟨rfl,rfl,rfl,rfl,rfl,nm⟩ ?_
 rintro⟨i,k,n⟩ ⟨hi,hn,hni,hk⟩;dsimp only at hi hn hni hk |-;by_cases hlt:i<s.size
 ·obtain⟨x,hc⟩:=getElem?_lt hlt
  have hd:s.data.toList[i]?=some x:=by
   have:s.data[i]?=some x:=hc;simpa using this
  have htk:s.data.toList.take (i+1)=s.data.toList.take i++[x]:=by rw[zns,hd];rfl
  by_cases hx:x=64
  ·subst hx;refine(ZbG∘ZK∘Zbq∘ZaX∘ZbZ∘Za8) ?_;refine z7 (ym Z Z Z Z Z) Z ((Zr∘ZL∘Ze∘Z5∘Zay∘Zax∘ZB∘Zay) ?_);exact yv (x:=(i,k,n)) (i+1,i,n+1) ⟨hlt,by dsimp only;rw[htk,List.count_append,<-hn];rfl,by dsimp only;omega,fun _=>⟨hlt,hd⟩⟩ M ⟨Z,Z,Z,Z,Z,trivial⟩
  ·have hxc:(x.toNat:Int)≠64:=fun e=>hx (zq1.1 (by show x.toNat=64;omega));refine(ZbG∘ZK∘Zbq∘ZaX∘ZbZ∘Za8∘Zn∘Zcn∘ZB∘Zay) ?_;exact yv (x:=(i,k,n)) (i+1,k,n) ⟨hlt,by dsimp only;rw[htk,List.count_append,<-hn,List.count_cons_of_ne hx];rfl,by dsimp only;omega,hk⟩ M ⟨Z,Z,Z,Z,Z,trivial⟩
 ·obtain rfl:i=s.size:=by omega
  rw[znl I] at hn;by_cases h1:n=1
  ·obtain⟨hk1,hk2⟩:=hk h1;rcases Ac s 64 with h64 | ⟨a,b,rfl,ha⟩
   ·rw[zow h64] at hn;omega
   ·have hls:=B5 a b 64;have hsz:=Hf a b 64
    have hb:noB b 64:=fun hm=>by
     have:=List.count_pos_iff.2 hm;rw[hls,zo0,zpy] at hn;omega
    obtain rfl:k=a.size:=(zmf hls ha hb hk2).trans (jj a);have hcut:f6 (a++⟨#[64]⟩++b) 64=(a,b,true):=Ca ha
    have x1:(a++⟨#[64]⟩++b).extract 0 a.size=a:=by
     have:=ar ⟨#[]⟩ a (⟨#[64]⟩++b) 0 a.size rfl (by show _=0+_;omega)
     conv=>rhs;rw[<-this]
     congr 1;apply vq;simp [k8]
    have x2:(a++⟨#[64]⟩++b).extract (a.size+1) (a++⟨#[64]⟩++b).size=b:=by
     have:=ar (a++⟨#[64]⟩) b ⟨#[]⟩ (a.size+1) (a++⟨#[64]⟩++b).size (by rw[zno];rfl) (by rw[zno])
     conv=>rhs;rw[<-this]
     congr 1;apply vq;simp [k8]
    have za:a.size<=1000000:=I;have zb:b.size<=1000000:=I;have hadd:IntKind.i64.wrap ((a.size:Int)+1)=((a.size+1:Nat):Int):=xd I I |>.trans I
    have hpt:ptA (a++⟨#[64]⟩++b)=if (pgA a).2.2.2=0 then (if (psA b).2.2.2=0 then (((((pgA a).1,(pgA a).2.1),(pgA a).2.2.1),(((psA b).1,(psA b).2.1),(psA b).2.2.1)),0) else ((((⟨#[]⟩,⟨#[]⟩),⟨#[]⟩),((⟨#[]⟩,⟨#[]⟩),⟨#[]⟩)),(psA b).2.2.2)) else ((((⟨#[]⟩,⟨#[]⟩),⟨#[]⟩),((⟨#[]⟩,⟨#[]⟩),⟨#[]⟩)),(pgA a).2.2.2):=by
     unfold ptA;rw[hcut];dsimp only;rw[na ⟨rfl,Pj hb⟩]
    clear hk hk2 hn hcut;generalize a++⟨#[64]⟩++b=s at *;rcases hra:rp1 a with ⟨o1,o2,rel,has,e⟩
    rcases hrb:rp1 b with ⟨p1,p2,rel2,has2,e2⟩
    cases has
    ·have g1:pgA a=(li,li,li,5):=by rw[zgr,hra];rfl
     rw[hpt,g1,nc T];by_cases h5:e=5
     ·skip
      refine(ZbG∘ZK∘Zb8∘Zf∘ZaM∘Zaw∘Zci) ?_;refine z7 (jb L (kl:=.i64) (pl:=0) 0 a.size Z Z Z Z Z ⟨rfl,rfl⟩ I I x1) Z (z71 L Z (fun u H hH _=>vm hra za hH) ?_);refine(ZH∘ZbM∘Zbw∘Zb6∘ZG∘Za∘Za7∘Zc6∘Zi∘ZV∘ZO∘Za∘ZY∘Za2∘Zcg∘Za∘ZaV) ?_;refine yl1 L [.cell 2 34,.tmp 3] fun u H hH hle=>?_;refine⟨_,qy Z,rfl,?_⟩;rw[h5];rfl
     ·refine(ZbG∘ZK∘Zb8∘Zf∘ZaM∘Zaw∘Zci) ?_;refine z7 (jb L (kl:=.i64) (pl:=0) 0 a.size Z Z Z Z Z ⟨rfl,rfl⟩ I I x1) Z (z71 L Z (fun u H hH _=>vm hra za hH) ?_);refine(ZH∘ZbM∘Zbw∘Zb6∘ZG∘Za∘Zc8∘Zb∘Zw∘ZbJ∘ZW∘Zj∘ZO∘Za∘ZY∘Za2∘Zcg∘Za∘ZaV) ?_;refine yl1 L [.cell 2 34,.tmp 3] fun u H hH hle=>?_;exact⟨_,qy Z,rfl,rfl⟩
    ·by_cases h0:e=0
     ·have g1:pgA a=(o1,o2,rel,0):=by rw[zgr,hra];dsimp only;rw[if_neg T,if_pos h0]
      by_cases h02:e2=0
      ·have g2:psA b=(p1,p2,rel2,0):=by rw[zi8,hrb];dsimp only;rw[if_pos h02]
       rw[hpt,g1,g2,na rfl,na rfl];refine(ZbG∘ZK∘Zb8∘Zf∘ZaM∘Zaw∘Zci) ?_;refine z7 (jb L (kl:=.i64) (pl:=0) 0 a.size Z Z Z Z Z ⟨rfl,rfl⟩ I I x1) Z (z71 L Z (fun u H hH _=>vm hra za hH) ?_);refine(ZH∘ZbM∘Zbw∘Zb6∘ZG∘Za∘Zc8∘Zb∘Zw∘Zi∘ZV∘ZO∘Za∘Zaw∘Zap∘Zb∘ZF) ?_;refine z7 (jb L (kh:=.i64) (ph:=0) (a.size+1) _ Z Z Z Z ⟨rfl,rfl⟩ Z I I x2) Z (z71 L Z (fun u H hH _=>vm hrb zb hH) ?_);refine(ZH∘ZbM∘Zbw∘Zb6∘Zaf∘Za∘Zaw∘Zbb∘ZcT∘Za∘Zei∘ZcT∘Za∘ZdN∘Zcg∘ZaV) ?_;refine yl1 L [.cell 2 34,.tmp 3] fun u H hH hle=>?_;exact⟨_,qy Z,rfl,rfl⟩
      ·have g2:psA b=(li,li,li,e2):=by rw[zi8,hrb];dsimp only;rw[if_neg h02]
       rw[hpt,g1,g2,na rfl,nc h02];refine(ZbG∘ZK∘Zb8∘Zf∘ZaM∘Zaw∘Zci) ?_;refine z7 (jb L (kl:=.i64) (pl:=0) 0 a.size Z Z Z Z Z ⟨rfl,rfl⟩ I I x1) Z (z71 L Z (fun u H hH _=>vm hra za hH) ?_);refine(ZH∘ZbM∘Zbw∘Zb6∘ZG∘Za∘Zc8∘Zb∘Zw∘Zi∘ZV∘ZO∘Za∘Zaw∘Zap∘Zb∘ZF) ?_;refine z7 (jb L (kh:=.i64) (ph:=0) (a.size+1) _ Z Z Z Z ⟨rfl,rfl⟩ Z I I x2) Z (z71 L Z (fun u H hH _=>vm hrb zb hH) ?_);refine(ZH∘ZbM∘Zbw∘Zb6∘Zaf∘Za∘ZY∘ZaW∘Zcg∘Za∘ZaV) ?_;refine yl1 L [.cell 2 34,.tmp 3] fun u H hH hle=>?_;exact⟨_,qy Z,rfl,rfl⟩
     ·have g1:pgA a=(li,li,li,e):=by rw[zgr,hra];dsimp only;rw[if_neg T,if_neg h0]
      rw[hpt,g1,nc h0];by_cases h5:e=5
      ·refine(ZbG∘ZK∘Zb8∘Zf∘ZaM∘Zaw∘Zci) ?_;refine z7 (jb L (kl:=.i64) (pl:=0) 0 a.size Z Z Z Z Z ⟨rfl,rfl⟩ I I x1) Z (z71 L Z (fun u H hH _=>vm hra za hH) ?_);refine(ZH∘ZbM∘Zbw∘Zb6∘ZG∘Za∘Za7∘Zc6∘Zi∘ZV∘ZO∘Za∘ZY∘Za2∘Zcg∘Za∘ZaV) ?_;refine yl1 L [.cell 2 34,.tmp 3] fun u H hH hle=>?_;exact⟨_,qy Z,rfl,rfl⟩
      ·refine(ZbG∘ZK∘Zb8∘Zf∘ZaM∘Zaw∘Zci) ?_;refine z7 (jb L (kl:=.i64) (pl:=0) 0 a.size Z Z Z Z Z ⟨rfl,rfl⟩ I I x1) Z (z71 L Z (fun u H hH _=>vm hra za hH) ?_);refine(ZH∘ZbM∘Zbw∘Zb6∘ZG∘Za∘Zc8∘Zb∘Zw∘Zi∘ZV∘ZO∘Za∘ZY∘Za2∘Zcg∘Za∘ZaV) ?_;refine yl1 L [.cell 2 34,.tmp 3] fun u H hH hle=>?_;exact⟨_,qy Z,rfl,rfl⟩
  ·have hpt:ptA s=((((⟨#[]⟩,⟨#[]⟩),⟨#[]⟩),((⟨#[]⟩,⟨#[]⟩),⟨#[]⟩)),5):=by
    unfold ptA;rw[nc];rintro⟨hc1,hc2⟩;rcases Ac s 64 with h64 | ⟨a,b,rfl,ha⟩
    ·rw[Pq h64] at hc1;cases hc1
    ·rw[Ca ha] at hc2;by_cases hb:noB b 64
     ·apply h1;rw[hn,B5,zo0,zpy,zow ha,zow hb]
     ·rw[show Ns b 64=true from Hy hb] at hc2;cases hc2
   rw[hpt];refine(ZbG∘ZK∘Zb8∘Zf∘ZaM∘ZY∘ZE∘Zcg∘ZaV) ?_;refine yl1 L [.cell 2 34,.tmp 3] fun u H hH hle=>?_;exact⟨_,qy Z,rfl,rfl⟩
def u0(h:chk s=0):s.size<=16:=by
 unfold chk at h;split at h
 ·rename_i hc;exact hc.2.1
 ·exact ni h T
def tz_of{t:U}(h:tE t=0):TZ t:=by
 unfold tE at h;split at h
 ·rename_i h1;obtain⟨c1,c2,c3⟩:=Up h1;obtain⟨d1,d2,d3⟩:=Ab h;have a1:=u0 c1;have a2:=u0 c2;have a3:=u0 c3;have b1:=u0 d1;have b2:=u0 d2
  have b3:t.2.2.size<=16:=by
   rcases d3 with d3 | d3
   ·rw[d3];decide
   ·exact u0 d3
  unfold TZ;refine⟨⟨?_,?_,?_⟩,?_,?_,?_⟩<;>omega
 ·rename_i h1;exact ni h h1
end Go.V.L2
namespace Go.V.L3
open Go.V.L2
abbrev FT:=P4×P4×Bool
abbrev n3:P4:=((⟨#[]⟩,⟨#[]⟩),⟨#[]⟩)
end Go.V.L3
namespace Go.V.L2
def _root_.Zc1(t:Wr Y->A:=by intro h;refine z9 (zw Z (zp Z) Z) Z ?_;exact h.1)(h:Y):A:=t ⟨h⟩
def _root_.ZaA(t:Wr Y->A:=by intro h;refine z9 (qn Z Z Z Z) Z ?_;exact h.1)(h:Y):A:=t ⟨h⟩
def _root_.Zb9(t:Wr Y->A:=by intro h;refine z7 (yw L (vs:=[_,_,_,_,_,_]) Z Z Z Z Z ⟨_,rfl⟩) Z ?_;exact h.1)(h:Y):A:=t ⟨h⟩
def _root_.ZcA(t:Wr Y->A:=by intro h;refine qh (vj L Z Z Z (oq Z) Z zht Z Z I I) ?_;exact h.1)(h:Y):A:=t ⟨h⟩
def _root_.Zbl(t:Wr Y->A:=by intro h;refine z9 (ze8 Z Z Z Z) Z ?_;exact h.1)(h:Y):A:=t ⟨h⟩
def _root_.ZeQ(t:Wr Y->A:=by intro h;refine qp (id:=11) [] kj J ?_;exact h.1)(h:Y):A:=t ⟨h⟩
def _root_.Zcc(t:Wr Y->A:=by exact fun h=>(Zc1∘Zc1) h.1)(h:Y):A:=t ⟨h⟩
def _root_.ZeA(t:Wr Y->A:=by exact fun h=>(Zcc∘Zcc) h.1)(h:Y):A:=t ⟨h⟩
def _root_.ZcW(t:Wr Y->A:=by exact fun h=>(Za∘Zbn) h.1)(h:Y):A:=t ⟨h⟩
def _root_.ZcX(t:Wr Y->A:=by exact fun h=>(Zdw∘ZbA) h.1)(h:Y):A:=t ⟨h⟩
def _root_.Za4(t:Wr Y->A:=by exact fun h=>(ZaA∘Zbg) h.1)(h:Y):A:=t ⟨h⟩
def _root_.ZaS(t:Wr Y->A:=by exact fun h=>(Zk∘ZcW) h.1)(h:Y):A:=t ⟨h⟩
def _root_.Zfu(t:Wr Y->A:=by exact fun h=>(Zm∘ZeA) h.1)(h:Y):A:=t ⟨h⟩
def _root_.Zcd(t:Wr Y->A:=by exact fun h=>(Zfu∘ZeA) h.1)(h:Y):A:=t ⟨h⟩
def Bg(l:List U):List U:=od jh [] l
def dz(x y:List U)(a c b:Bool)(t:U):Bool:=(decide (t∈x) && !decide (t∈y) && a) || (decide (t∈x) && decide (t∈y) && c) || (!decide (t∈x) && decide (t∈y) && b)
def oe(x y:List U)(a c b:Bool):List U:=Bg ((x++y).filter (dz x y a c b))
def Ll(l:List U):(Bg l).length<=l.length:=by
 have:=ef (c:=jh) l [];rw[m5,znk] at this;exact this
def U5{s:Nat}{r:List U}{t y:U}(h:κ s=some (.own (SlR tyU 6 (r.length+1+1) ((r.flatMap ucs++ucs t)++ucs y)))):κ s=some (.own (SlR tyU 6 (r++[t]++[y]).length ((r++[t]++[y]).flatMap ucs))):=by
 rw[h,znw,znw,nr,nr];simp
def Sz(c:U->U->Int)(o:List U)(t:U)(r:List U):od c o (t::r)=od c (if t∈o then o else ow c t o) r:=by
 simp only[od];congr 1;by_cases h:t∈o
 ·rw[na h,na h]
 ·rw[nc h,nc h]
def C5{l:List U}(hl:l.length<=1000000)(hz:∀ t∈l,TZ t)(hB:zry B w)(hv:US l fu v B):
  Ret zrz 94 [v] w B (US (Bg l) false):=by
 refine yo Tryz.func94 Z Tryz.ntmps94 (np Z) hB (jf 0 (US l fu) Z nw hv ((Z4∘Zj) ?_));refine jf 3 (US [] false) Z nw SlV.nil ((ZS∘Za0) ?_)
 refine xq (fun s:Nat×List U=>[(0,.sat (US l fu)),(3,.sat (US s.2 false)),(4,.is (.int .i64 s.1))])
  (fun s=>s.1<=l.length/\s.2.length<=s.1/\(∀ t∈s.2,TZ t)/\Bg l=od jh s.2 (l.drop s.1)) (fun s=>l.length-s.1) (0,[]) ⟨mf _,nu _,fun t h=>(by cases h),rfl⟩ ⟨rfl,rfl,rfl,nm⟩ ?_
 rintro⟨i,o⟩ ⟨hi,ho,hoz,he⟩;dsimp only at hi ho hoz he |-;by_cases hlt:i<l.length
 ·obtain⟨t,ht⟩:=xu hlt;have hct:=ix ht;have zt:=hz t (m9 ht);have hol:o.length<=1000000:=I;rw[ez ht,Sz] at he;by_cases hin:t∈o
  ·rw[na hin] at he;have h1:(if t∈o then 1 else 0:Int)=1:=na hin;refine(Zd∘Zx∘ZbN∘ZaZ∘Zd∘ZT∘Zk∘ZaS∘Zb9) ?_;refine z7 (qe L Z Z (zp Z) Z Z Z (fun u H hH _ _ v1 h2=>jq hol h1 hH h2)) Z ((Zv∘Z3∘Zep∘Zdx∘ZbA∘ZB∘Zay) ?_);exact yv (x:=(i,o)) (i+1,o) ⟨hlt,by dsimp only;omega,hoz,he⟩ M ⟨Z,Z,Z,trivial⟩
  ·rw[nc hin] at he;have h1:(if t∈o then 1 else 0:Int)=0:=nc hin;refine(Zd∘Zx∘ZbN∘ZaZ∘Zd∘ZT∘Zk∘ZaS∘Zb9) ?_;refine z7 (qe L Z Z (zp Z) Z Z Z (fun u H hH _ _ v1 h2=>jq hol h1 hH h2)) Z ((Zn∘Zo∘ZD∘Zc) ?_);refine g7 5 tyU 6 rfl ((ZU∘Zj∘Z7∘Za0) ?_)
   refine xq (fun s:Nat×List U×Bool=>[(0,.sat (US l fu)),(3,.sat (US o false)),(4,.is (.int .i64 i)),(5,.own (SlR tyU 6 s.2.1.length (s.2.1.flatMap ucs))),(6,.is (.bool s.2.2)),(7,.is (.int .i64 s.1))])
    (fun s=>s.1<=o.length/\s.2.1.length<=s.1+(if s.2.2=true then 1 else 0)/\ow jh t o=s.2.1++(if s.2.2=true then o.drop s.1 else ow jh t (o.drop s.1))) (fun s=>o.length-s.1) (0,[],false) ⟨mf _,mf _,rfl⟩ ⟨rfl,rfl,rfl,rfl,rfl,rfl,nm⟩ ?_
   rintro⟨k,nx,put⟩ ⟨hk,hnx,hins⟩;dsimp only at hk hnx hins |-;by_cases hko:k<o.length
   ·obtain⟨y,hy⟩:=xu hko;have hcy:=ix hy;have zy:=hoz y (m9 hy);rw[ez hy] at hins;cases put
    ·rw[nc T] at hnx;rw[nc T,ow] at hins;by_cases hc:jh t y<0
     ·rw[na hc] at hins;refine(Zd∘Za3∘ZbN∘ZaZ∘Zd∘ZeQ∘Zm∘Zbl∘Zm∘Zb7∘Zb7) ?_;refine z91 L Z (fun u H hH _=>rm zt zy hH) ?_;refine(ZcR∘ZaA∘ZaN∘Zf∘ZW) ?_;refine qh (yt (.inl Z) Z) ((ZaS∘Zb9∘ZR∘ZcA) ?_);refine qh (yt (.inr Z) Z) ((Zp∘ZO∘Ze∘Za2) ?_);refine qh (yt (.inl Z) Z) ((ZaS∘Zb9∘ZR∘ZcA) ?_);refine qh (yt (.inr Z) Z) ((ZaJ∘Zcw∘Zay) ?_);exact yv (x:=(k,nx,false)) (k+1,nx++[t]++[y],true) ⟨hko,by dsimp only;rw[if_pos Z];simp only[List.length_append,List.length_cons,List.length_nil];omega,by dsimp only;rw[hins,if_pos Z];simp⟩ M ⟨Z,Z,Z,U5 Z,Z,Z,trivial⟩
     ·rw[nc hc] at hins;refine(Zd∘Za3∘ZbN∘ZaZ∘Zd∘ZeQ∘Zm∘Zbl∘Zm∘Zb7∘Zb7) ?_;refine z91 L Z (fun u H hH _=>rm zt zy hH) ?_;refine(Zdn∘Za4∘ZcX∘Za2) ?_;refine qh (yt (.inl Z) Z) ((ZaS∘Zb9∘ZR∘ZcA) ?_);refine qh (yt (.inr Z) Z) ((ZaJ∘Zcw∘Zay) ?_);exact yv (x:=(k,nx,false)) (k+1,nx++[y],false) ⟨hko,by dsimp only;rw[if_neg T,List.length_append,List.length_singleton];omega,by dsimp only;rw[hins,if_neg T];simp⟩ M ⟨Z,Z,Z,gt Z,Z,Z,trivial⟩
    ·rw[na rfl] at hnx hins;refine(Zd∘Za3∘ZbN∘ZaZ∘Zd∘ZeQ∘Zm∘Zbl∘Zcd∘Zcc∘Za4∘ZcX∘Za2) ?_;refine qh (yt (.inl Z) Z) ((ZaS∘Zb9∘ZR∘ZcA) ?_);refine qh (yt (.inr Z) Z) ((ZaJ∘Zcw∘Zay) ?_);exact yv (x:=(k,nx,true)) (k+1,nx++[y],true) ⟨hko,by dsimp only;rw[if_pos Z,List.length_append,List.length_singleton];omega,by dsimp only;rw[hins,if_pos Z];simp⟩ M ⟨Z,Z,Z,gt Z,Z,Z,trivial⟩
   ·obtain rfl:k=o.length:=by omega
    rw[zpi] at hins;have hil:=vp (c:=jh) t o
    have hiz:∀ x∈ow jh t o,TZ x:=fun x hx=>by
     rcases v7.1 hx with rfl | hx
     ·exact zt
     ·exact hoz x hx
    cases put
    ·rw[nc T] at hnx;rw[nc T,ow] at hins;refine(Zd∘Za3∘Zl∘Zb8∘Zf∘Zap∘Za∘Zw∘Z3∘Zaf) ?_;refine qh (yt (.inl Z) Z) ((ZaS∘Zb9∘ZR∘ZcA) ?_);refine qh (yt (.inr Z) Z) (Zp (h:=?_));refine fj 5 (gt Z) ?_;rw[<-hins];refine(ZaW∘Zk∘ZP∘ZaJ∘ZB∘Zay) ?_;exact yv (x:=(i,o)) (i+1,ow jh t o) ⟨hlt,by dsimp only;omega,hiz,he⟩ M ⟨Z,Z,Z,trivial⟩
    ·rw[na rfl] at hnx;rw[na rfl,mp] at hins;refine(Zd∘Za3∘Zl∘Zb8∘Zf∘Zap∘Za∘Zw∘Zas∘ZbA) ?_;refine fj 5 rfl ?_;rw[<-hins];refine(ZaW∘Zk∘ZP∘ZaJ∘ZB∘Zay) ?_;exact yv (x:=(i,o)) (i+1,ow jh t o) ⟨hlt,by dsimp only;omega,hiz,he⟩ M ⟨Z,Z,Z,trivial⟩
 ·obtain rfl:i=l.length:=by omega
  rw[zpi,od] at he;rw[he];refine(Zd∘Zx∘Zl∘Zb8∘Zbb∘Zk∘ZP∘Zp) ?_;refine yl1 L [.tmp 2] fun u H hH hle=>?_;exact fun v hv=>hv
end Go.V.L2
end
namespace Go.V
inductive Tr (K V:Type) where
 | nil
 | node (k:K) (v:V) (l r:Tr K V)
namespace Tr
variable {K V:Type}
def size:Tr K V->Nat
 | nil=>0
 | node _ _ l r=>size l+1+size r
def deep:Tr K V->Nat
 | nil=>0
 | node _ _ l r=>1+max (deep l) (deep r)
def deep_le:∀ t:Tr K V,deep t<=size t
 | nil=>nu _
 | node _ _ l r=>by have:=deep_le l;have:=deep_le r;simp only[deep,size];omega
def bal(k:K)(v:V)(l r:Tr K V):Tr K V:=
 if deep l>deep r+1 then
  match l with
  | nil=>nil
  | node lk lv ll lr=>
   if deep ll>=deep lr then node lk lv ll (node k v lr r)
   else match lr with
    | nil=>nil
    | node mk mv ml mr=>node mk mv (node lk lv ll ml) (node k v mr r)
 else if deep r>deep l+1 then
  match r with
  | nil=>nil
  | node rk rv rl rr=>
   if deep rr>=deep rl then node rk rv (node k v l rl) rr
   else match rl with
    | nil=>nil
    | node mk mv ml mr=>node mk mv (node k v l ml) (node rk rv mr rr)
 else node k v l r
def put(c:K->K->Int)(k:K)(v:V):Tr K V->Tr K V
 | nil=>node k v nil nil
 | node nk nv l r=>if c k nk<0 then bal nk nv (put c k v l) r else if c k nk>0 then bal nk nv l (put c k v r) else node nk v l r
def first:K->V->Tr K V->Tr K V->(K×V)×Tr K V
 | k,v,nil,r=>((k,v),r)
 | k,v,node lk lv ll lr,r=>((first lk lv ll lr).1,bal k v (first lk lv ll lr).2 r)
def drop(c:K->K->Int)(k:K):Tr K V->Tr K V×Bool
 | nil=>(nil,false)
 | node nk nv l r=>if c k nk<0 then (bal nk nv (drop c k l).1 r,(drop c k l).2) else if c k nk>0 then (bal nk nv l (drop c k r).1,(drop c k r).2)
  else match r with
   | nil=>(l,true)
   | node rk rv rl rr=>(bal (first rk rv rl rr).1.1 (first rk rv rl rr).1.2 l (first rk rv rl rr).2,true)
def get(c:K->K->Int)(k:K):Tr K V->Option V
 | nil=>none
 | node nk nv l r=>if c k nk=0 then some nv else if c k nk<0 then get c k l else get c k r
def list:Tr K V->List (K×V)
 | nil=>[]
 | node k v l r=>list l++(k,v)::list r
def prs:Tr K V->Int->Int->Int->List (K×V)
 | nil,_,_,_=>[]
 | node k v l r,a,f,t=>if a+(size (node k v l r):Int)<=f\/a>=t then [] else
   prs l a f t++((if a+(size l:Int)>=f/\a+(size l:Int)<t then [(k,v)] else [])++prs r (a+size l+1) f t)
def get_eq{c:K->K->Int}{k nk:K}{nv:V}{l r:Tr K V}(h:c k nk=0):get c k (node nk nv l r)=some nv:=na h
def get_lt{c:K->K->Int}{k nk:K}{nv:V}{l r:Tr K V}(h:c k nk<0):get c k (node nk nv l r)=get c k l:=(nc I).trans (na h)
def get_gt{c:K->K->Int}{k nk:K}{nv:V}{l r:Tr K V}(h0:¬ c k nk=0)(h:¬ c k nk<0):get c k (node nk nv l r)=get c k r:=(nc h0).trans (nc h)
def size_list:∀ t:Tr K V,(list t).length=size t
 | nil=>rfl
 | node _ _ l r=>by simp only[list,nr,ma,size_list l,size_list r,size];omega
def size_node(k:K)(v:V)(l r:Tr K V):size (node k v l r)=size l+1+size r:=rfl
def deep_node(k:K)(v:V)(l r:Tr K V):deep (node k v l r)=1+max (deep l) (deep r):=rfl
def l4(k:K)(v:V)(l r:Tr K V):list (bal k v l r)=list l++(k,v)::list r:=by
 unfold bal;split
 ·rename_i h
  cases l with
  | nil=>simp [deep] at h
  | node lk lv ll lr=>
   dsimp only;split
   ·simp [list]
   ·rename_i h2
    cases lr with
    | nil=>simp [deep] at h2
    | node mk mv ml mr=>simp [list]
 ·split
  ·rename_i h
   cases r with
   | nil=>simp [deep] at h
   | node rk rv rl rr=>
    dsimp only;split
    ·simp [list]
    ·rename_i h2
     cases rl with
     | nil=>simp [deep] at h2
     | node mk mv ml mr=>simp [list]
  ·simp [list]
def re(k:K)(v:V)(l r:Tr K V):size (bal k v l r)=size l+1+size r:=by
 rw[<-size_list,l4,nr,ma,size_list,size_list];omega
def Ak:∀ (k:K) (v:V) (l r:Tr K V),(first k v l r).1::list (first k v l r).2=list l++(k,v)::list r
 | k,v,nil,r=>rfl
 | k,v,node lk lv ll lr,r=>by
  simp only[first,l4,list];rw[<-znt,Ak lk lv ll lr]
def size_first(k:K)(v:V)(l r:Tr K V):size (first k v l r).2=size l+size r:=by
 have:=nh List.length (Ak k v l r);simp only[ma,nr,size_list] at this;omega
def size_put(c:K->K->Int)(k:K)(v:V):∀ t:Tr K V,size (put c k v t)<=size t+1
 | nil=>by simp [put,size]
 | node nk nv l r=>by
  have:=size_put c k v l;have:=size_put c k v r;simp only[put];split
  ·rw[re,size_node];omega
  ·split
   ·rw[re,size_node];omega
   ·rw[size_node,size_node];omega
def size_drop(c:K->K->Int)(k:K):∀ t:Tr K V,size (drop c k t).1<=size t
 | nil=>nu _
 | node nk nv l r=>by
  have:=size_drop c k l;have:=size_drop c k r;simp only[drop];split
  ·rw[re,size_node];omega
  ·split
   ·rw[re,size_node];omega
   ·cases r with
    | nil=>simp only[size];omega
    | node rk rv rl rr=>rw[re,size_first,size_node,size_node];omega
def prs_length_le:∀ (t:Tr K V) (a f e:Int),(prs t a f e).length<=size t
 | nil,_,_,_=>nu _
 | node k v l r,a,f,e=>by
  have:=prs_length_le l a f e;have:=prs_length_le r (a+size l+1) f e;simp only[prs];split
  ·exact mf _
  ·simp only[nr,size_node];split
   ·simp only[ma,m5];omega
   ·simp only[m5];omega
def TreeAt(nl:K->V->Value->Value->Int->Int->List Value)(ty:TypeId):Tr K V->Value->Heap->Prop
 | nil,v,_=>v=.pointer none
 | node k x l r,v,H=>∃ b lv rv,v=.pointer (some ⟨b,0,none⟩)/\H b=some (.cells (nl k x lv rv (size (node k x l r)) (deep (node k x l r))).toArray ty)/\TreeAt nl ty l lv H/\TreeAt nl ty r rv H
def TreeAt.mono{nl:K->V->Value->Value->Int->Int->List Value}:∀ {t:Tr K V},Kn.mono (.sat (TreeAt nl ty t))
 | nil,_,_,_,h,_=>h
 | node k x l r,_,_,_,⟨b,lv,rv,h1,h2,h3,h4⟩,hle=>⟨b,lv,rv,h1,hle _ _ h2,TreeAt.mono _ _ _ h3 hle,TreeAt.mono _ _ _ h4 hle⟩
def TreeAt.le{nl:K->V->Value->Value->Int->Int->List Value}{t:Tr K V}{H':Heap}(h:TreeAt nl ty t v H)(hle:H.Le H'):TreeAt nl ty t v H':=TreeAt.mono _ _ _ h hle
end Tr
end Go.V
namespace Go.V
structure zfn{K:Type}(c:K->K->Int):Prop where
 anti:∀ a b,c a b<0↔0<c b a
 trans:∀ {a b d},c a b<0->c b d<0->c a d<0
 eql:∀ {a b} (d),c a b=0->(c a d<0↔c b d<0)
namespace zfn
variable {K:Type} {c:K->K->Int}
def refl(h:zfn c)(a:K):c a a=0:=by
 have:=h.anti a a;omega
def symm(h:zfn c){a b:K}(e:c a b=0):c b a=0:=by
 have:=h.anti a b;have:=h.anti b a;omega
end zfn
namespace Tr
variable {K V:Type} (c:K->K->Int)
def Srt(l:List (K×V)):Prop:=l.Pairwise fun x y=>c x.1 y.1<0
def putS(k:K)(v:V):List (K×V)->List (K×V)
 | []=>[(k,v)]
 | y::l=>if c k y.1<0 then (k,v)::y::l else if c k y.1>0 then y::putS k v l else (y.1,v)::l
def dropS(k:K):List (K×V)->List (K×V)
 | []=>[]
 | y::l=>if c k y.1<0 then y::l else if c k y.1>0 then y::dropS k l else l
def getS(k:K):List (K×V)->Option V
 | []=>none
 | y::l=>if c k y.1=0 then some y.2 else getS k l
def cutI(f e:Int):List (K×V)->Int->List (K×V)
 | [],_=>[]
 | y::l,i=>if f<=i/\i<e then y::cutI f e l (i+1) else cutI f e l (i+1)
variable {c} (h:zfn c)
include h
theorem C8{k:K}{v:V}:∀ {l1 l2:List (K×V)} {y:K×V},(∀ x∈l1,c x.1 y.1<0)->
  putS c k v (l1++y::l2)=if c k y.1<0 then putS c k v l1++y::l2 else if c k y.1>0 then l1++y::putS c k v l2 else l1++(y.1,v)::l2
 | [],l2,y,_=>by simp only[mn,putS];split<;>simp
 | x::l1,l2,y,hl=>by
  have ih:=C8 (k:=k) (v:=v) (l1:=l1) (l2:=l2) (y:=y) fun z hz=>hl z (me _ hz);have hx:=hl x (mc ..);simp only[znt,putS];by_cases h1:c k x.1<0
  ·have:c k y.1<0:=h.trans h1 hx;rw[na h1,na this,na h1];rfl
  ·rw[nc h1];by_cases h2:c k x.1>0
   ·rw[na h2,ih,nc h1,na h2];split
    ·rfl
    ·split<;>rfl
   ·have h0:c k x.1=0:=I;have:c k y.1<0:=(h.eql _ h0).2 hx;rw[nc h2,na this,nc h1,nc h2];rfl
theorem A8{k:K}:∀ {l1 l2:List (K×V)} {y:K×V},(∀ x∈l1,c x.1 y.1<0)->
  dropS c k (l1++y::l2)=if c k y.1<0 then dropS c k l1++y::l2 else if c k y.1>0 then l1++y::dropS c k l2 else l1++l2
 | [],l2,y,_=>by simp only[mn,dropS]
 | x::l1,l2,y,hl=>by
  have ih:=A8 (k:=k) (l1:=l1) (l2:=l2) (y:=y) fun z hz=>hl z (me _ hz);have hx:=hl x (mc ..);simp only[znt,dropS];by_cases h1:c k x.1<0
  ·have:c k y.1<0:=h.trans h1 hx;rw[na h1,na this,na h1];rfl
  ·rw[nc h1];by_cases h2:c k x.1>0
   ·rw[na h2,ih,nc h1,na h2];split
    ·rfl
    ·split<;>rfl
   ·have h0:c k x.1=0:=I;have:c k y.1<0:=(h.eql _ h0).2 hx;rw[nc h2,na this,nc h1,nc h2]
omit h in
theorem Cu{l1 l2:List (K×V)}{y:K×V}(hs:Srt c (l1++y::l2)):Srt c l1/\Srt c l2/\(∀ x∈l1,c x.1 y.1<0)/\(∀ x∈l2,c y.1 x.1<0):=by
 have h1:=zoa.1 hs;have h2:=mi.1 h1.2.1;exact⟨h1.1,h2.2,fun x hx=>h1.2.2 x hx y (mc ..),h2.1⟩
theorem list_put(k:K)(v:V):∀ {t:Tr K V},Srt c (list t)->list (put c k v t)=putS c k v (list t)
 | nil,_=>rfl
 | node nk nv l r,hs=>by
  obtain⟨hl,hr,hx,_⟩:=Cu (y:=(nk,nv)) hs;simp only[list,put];rw[C8 h hx];split
  ·rw[l4,list_put k v hl]
  ·split
   ·rw[l4,list_put k v hr]
   ·rfl
theorem list_drop(k:K):∀ {t:Tr K V},Srt c (list t)->list (if (drop c k t).2=true then (drop c k t).1 else t)=dropS c k (list t)/\((drop c k t).2=false->(drop c k t).1=t\/list (drop c k t).1=list t)/\((drop c k t).2=true->list (drop c k t).1=dropS c k (list t))/\((drop c k t).2=false->dropS c k (list t)=list t)
 | nil,_=>⟨rfl,fun _=>.inl rfl,fun h=>(by cases h),fun _=>rfl⟩
 | node nk nv l r,hs=>by
  obtain⟨hl,hr,hx,_⟩:=Cu (y:=(nk,nv)) hs;have il:=list_drop k hl;have ir:=list_drop k hr
  have key:((drop c k (node nk nv l r)).2=true->list (drop c k (node nk nv l r)).1=dropS c k (list (node nk nv l r)))/\((drop c k (node nk nv l r)).2=false->dropS c k (list (node nk nv l r))=list (node nk nv l r)/\list (drop c k (node nk nv l r)).1=list (node nk nv l r)):=by
   simp only[list,drop];rw[A8 h hx];split
   ·refine⟨fun ht=>?_,fun hf=>?_⟩
    ·dsimp only at ht |-;rw[l4,il.2.2.1 ht]
    ·dsimp only at hf |-;have e:=il.2.2.2 hf;refine⟨by rw[e],?_⟩;rw[l4];rcases il.2.1 hf with e1 | e1<;>rw[e1]
   ·split
    ·refine⟨fun ht=>?_,fun hf=>?_⟩
     ·dsimp only at ht |-;rw[l4,ir.2.2.1 ht]
     ·dsimp only at hf |-;have e:=ir.2.2.2 hf;refine⟨by rw[e],?_⟩;rw[l4];rcases ir.2.1 hf with e1 | e1<;>rw[e1]
    ·cases r with
     | nil=>exact⟨fun _=>by simp [list],fun hf=>by cases hf⟩
     | node rk rv rl rr=>
      refine⟨fun _=>?_,fun hf=>by cases hf⟩;dsimp only;rw[l4];have:=Ak rk rv rl rr;rw[show((first rk rv rl rr).1.1,(first rk rv rl rr).1.2)=(first rk rv rl rr).1 from rfl,this];rfl
  refine⟨?_,fun hf=>.inr (key.2 hf).2,key.1,fun hf=>(key.2 hf).1⟩;split
  ·rename_i ht;exact key.1 ht
  ·rename_i ht;have hf:(drop c k (node nk nv l r)).2=false:=by simpa using ht
   exact(key.2 hf).1.symm
theorem Dz{k:K}:∀ {l1 l2:List (K×V)} {y:K×V},(∀ x∈l1,c x.1 y.1<0)->(∀ x∈l2,c y.1 x.1<0)->
  getS c k (l1++y::l2)=if c k y.1=0 then some y.2 else if c k y.1<0 then getS c k l1 else getS c k l2
 | [],l2,y,_,h2=>by
  simp only[mn,getS];split
  ·rfl
  ·split
   ·rename_i h1
    have:∀ (l:List (K×V)),(∀ x∈l,c y.1 x.1<0)->getS c k l=none:=by
     intro l
     induction l with
     | nil=>intro _;rfl
     | cons z l ih=>
      intro hz;have:=h.trans h1 (hz z (mc ..));simp only[getS];rw[nc I];exact ih fun x hx=>hz x (me _ hx)
    exact this l2 h2
   ·rfl
 | x::l1,l2,y,hl,h2=>by
  have ih:=Dz (k:=k) (l1:=l1) (l2:=l2) (y:=y) (fun z hz=>hl z (me _ hz)) h2;have hx:=hl x (mc ..);simp only[znt,getS];by_cases h0:c k x.1=0
  ·have:c k y.1<0:=(h.eql _ h0).2 hx;rw[na h0,nc I,na this,na h0]
  ·rw[nc h0,ih,nc h0]
theorem get_list(k:K):∀ {t:Tr K V},Srt c (list t)->get c k t=getS c k (list t)
 | nil,_=>rfl
 | node nk nv l r,hs=>by
  obtain⟨hl,hr,hx,hy⟩:=Cu (y:=(nk,nv)) hs;simp only[list,get];rw[Dz h hx hy,get_list k hl,get_list k hr]
omit h
theorem Ec(f e:Int):∀ (l1 l2:List (K×V)) (i:Int),cutI f e (l1++l2) i=cutI f e l1 i++cutI f e l2 (i+l1.length)
 | [],l2,i=>by simp [cutI]
 | y::l1,l2,i=>by
  simp only[znt,cutI,Ec f e l1 l2 (i+1),ma];rw[show i+1+(l1.length:Int)=i+((l1.length+1:Nat):Int) by omega];split<;>rfl
theorem Rl(f e:Int):∀ (l:List (K×V)) (i:Int),i+l.length<=f\/i>=e->cutI f e l i=[]
 | [],_,_=>rfl
 | y::l,i,h=>by
  simp only[ma] at h;simp only[cutI];rw[nc I,Rl f e l (i+1) I]
theorem prs_list:∀ (t:Tr K V) (a f e:Int),prs t a f e=cutI f e (list t) a
 | nil,_,_,_=>rfl
 | node nk nv l r,a,f,e=>by
  simp only[prs];split
  ·rename_i h1;rw[Rl];rw[size_list];exact h1
  ·simp only[list];rw[Ec,prs_list l,prs_list r,size_list];simp only[cutI];split
   ·rename_i h2;rfl
   ·rename_i h2;rfl
def lst:Nat->Nat
 | 0=>0
 | 1=>1
 | n+2=>lst (n+1)+lst n+1
end Tr
end Go.V
namespace Go.V.L6
open Go.V Go.V.L2 Go.V.L3
def Xh{c:α->α->Int}(h:Ord3 c):zfn c:=by
 refine⟨fun a b=>?_,fun {a b d} h1 h2=>?_,fun {a b} d e=>?_⟩
 ·have:=h.anti a b;omega
 ·exact h.tr h1 h2
 ·rw[h.eq _ _ e]
def Nt(a b:U):Int:=jh (a.2,a.1) (b.2,b.1)
def td:Ord3 Nt where
 refl a:=cmpT_ord.refl _
 eq a b h:=by
  have:=cmpT_ord.eq _ _ h;exact Prod.ext (nh Prod.snd this) (nh Prod.fst this)
 anti a b:=cmpT_ord.anti _ _
 trans a b d:=cmpT_ord.trans _ _ _
set_option linter.unusedSectionVars false
section keys
variable  [DecidableEq α] {c:α->α->Int}
abbrev kS(L:List (α×Unit)):List α:=L.map (·.1)
def zj6{L:List (α×Unit)}:Tr.Srt c L↔Sst c (kS L):=by unfold Tr.Srt Sst kS;rw[List.pairwise_map]
def zhk(h:Ord3 c){k:α}:∀ {L:List (α×Unit)},k∉kS L->kS (Tr.putS c k () L)=ow c k (kS L)
 | [],_=>rfl
 | y::L,hk=>by
  simp only[kS,mq,nz,not_or] at hk;simp only[Tr.putS];by_cases h1:c k y.1<0
  ·rw[na h1];simp [kS,ow,h1]
  ·have h2:=h.tri h1 hk.1;have h3:=h.anti k y.1;rw[nc h1,na I];have ih:=zhk h (L:=L) hk.2;simp only[kS,mq,ow] at ih |-;rw[nc h1,ih]
def zac(h:Ord3 c){k:α}:∀ {L:List (α×Unit)},Sst c (kS L)->kS (Tr.dropS c k L)=(kS L).filter fun z=>decide (z≠k)
 | [],_=>rfl
 | y::L,hs=>by
  simp only[kS,mq] at hs;obtain⟨hy,hs'⟩:=mi.1 hs;simp only[Tr.dropS]
  have all:∀ {d:α},(c k d<0\/k=d)->(∀ z∈kS L,c d z<0)->(kS L).filter (fun z=>decide (z≠k))=kS L:=fun {d} hd hz=>zqd.2 fun z hm=>by
   have h4:=hz z hm;simp only[decide_eq_true_eq];intro e;subst e;rcases hd with hd | hd
   ·exact h.asym hd h4
   ·subst hd;exact h.irr _ h4
  by_cases h1:c k y.1<0
  ·rw[na h1];simp only[kS,mq,zqe];rw[na (by simpa using (h.ne h1).symm)];have:=all (.inl h1) hy;unfold kS at this;rw[this]
  ·rw[nc h1];by_cases h2:c k y.1>0
   ·rw[na h2];have ih:=zac h (k:=k) (L:=L) hs';simp only[kS,mq,zqe] at ih |-;have hne:y.1≠k:=fun e=>by rw[e,h.refl] at h2;omega
    rw[na (by simpa using hne),ih]
   ·rw[nc h2];have e:=h.eq _ _ (show c k y.1=0 by omega);simp only[kS,mq,zqe];rw[nc (by simpa using e.symm)];have:=all (.inr e) hy;unfold kS at this;rw[this]
def zj7(h:Ord3 c){k:α}:∀ {L:List (α×Unit)},(k∈kS L->Tr.getS c k L=some ())/\(k∉kS L->Tr.getS c k L=none)
 | []=>⟨fun h=>(by cases h),fun _=>rfl⟩
 | y::L=>by
  have ih:=zj7 h (k:=k) (L:=L);simp only[Tr.getS,kS,mq,nz];by_cases e:k=y.1
  ·subst e;rw[na (h.refl _)];exact⟨fun _=>rfl,fun hn=>ni (.inl rfl) hn⟩
  ·have:¬ c k y.1=0:=fun h0=>e (h.eq _ _ h0);rw[nc this];exact⟨fun hm=>ih.1 (hm.resolve_left e),fun hn=>ih.2 fun hm=>hn (.inr hm)⟩
def Hq:∀ {l:List α} {x:α},l.Nodup->x∈l->(l.filter fun z=>decide (z≠x)).length+1=l.length
 | [],_,_,h=>by cases h
 | y::l,x,hn,h=>by
  obtain⟨h1,h2⟩:=zo3.1 hn;rw[zqe];by_cases e:y=x
  ·subst e;rw[nc (by simp)]
   have:(l.filter fun z=>decide (z≠y))=l:=zqd.2 fun z hz=>by
    simp only[decide_eq_true_eq];exact fun e=>h1 (e ▸ hz)
   rw[this,ma]
  ·rw[na (by simpa using e),ma,ma,Hq h2 (by
    rcases nz.1 h with h | h
    ·exact ni h.symm e
    ·exact h)]
def Ue{l:List α}{x:α}(h:x∉l):(l.filter fun z=>decide (z≠x))=l:=zqd.2 fun z hz=>by
 simp only[decide_eq_true_eq];exact fun e=>h (e ▸ hz)
def Rm{V:Type}(f e:Nat):∀ (l:List (α×V)) (i:Nat),Tr.cutI (f:Int) (e:Int) l (i:Int)=(l.take (e-i)).drop (f-i)
 | [],i=>by simp [Tr.cutI]
 | y::l,i=>by
  have ih:=Rm f e l (i+1);simp only[Tr.cutI];rw[show((i:Int)+1)=((i+1:Nat):Int) by omega,ih];by_cases h:f<=i/\i<e
  ·rw[na I,show e-i=(e-(i+1))+1 by omega,show f-i=0 by omega,show f-(i+1)=0 by omega];rfl
  ·rw[nc I];by_cases h2:i<e
   ·rw[show e-i=(e-(i+1))+1 by omega,show f-i=(f-(i+1))+1 by omega];rfl
   ·rw[show e-i=0 by omega,show e-(i+1)=0 by omega];simp
end keys
structure TS(l:List U)(t u:Tr U Unit):Prop where
 kt:kS t.list=l
 st:Sst jh l
 su:Sst Nt (kS u.list)
 mu:∀ z,z∈kS u.list↔z∈l
 zu:u.size=l.length
def Ee:zfn jh:=Xh cmpT_ord
def M9:zfn Nt:=Xh td
def ziz:TS [] .nil .nil:=⟨rfl,Sst.nil,Sst.nil,fun _=>Iff.rfl,rfl⟩
section ts
variable  {t u:Tr U Unit}
def TS.size(h:TS l t u):t.size=l.length:=by rw[<-Tr.size_list,<-h.kt];simp
def TS.srt(h:TS l t u):Tr.Srt jh t.list:=zj6.2 (h.kt ▸ h.st)
def TS.srtu(h:TS l t u):Tr.Srt Nt u.list:=zj6.2 h.su
def TS.put(h:TS l t u){x:U}(hx:x∉l):TS (ow jh x l) (Tr.put jh x () t) (Tr.put Nt x () u):=by
 have hxt:x∉kS t.list:=by rw[h.kt];exact hx
 have hxu:x∉kS u.list:=fun hm=>hx ((h.mu x).1 hm)
 have e1:kS (Tr.put jh x () t).list=ow jh x l:=by
  rw[Tr.list_put Ee x () h.srt,zhk cmpT_ord hxt,h.kt]
 have e2:kS (Tr.put Nt x () u).list=ow Nt x (kS u.list):=by
  rw[Tr.list_put M9 x () h.srtu,zhk td hxu]
 refine⟨e1,d7 cmpT_ord h.st hx,?_,fun z=>?_,?_⟩
 ·rw[e2];exact d7 td h.su hxu
 ·rw[e2,v7,v7,h.mu]
 ·have:=nh List.length e2;simp only[kS,mj,vp,Tr.size_list] at this;rw[this,vp,h.zu]
def TS.drop(h:TS l t u){x:U}(hx:x∈l):TS (l.filter fun z=>decide (z≠x)) (if (Tr.drop jh x t).2=true then (Tr.drop jh x t).1 else t) (if (Tr.drop Nt x u).2=true then (Tr.drop Nt x u).1 else u):=by
 have e1:kS (if (Tr.drop jh x t).2=true then (Tr.drop jh x t).1 else t).list=l.filter fun z=>decide (z≠x):=by
  rw[(Tr.list_drop Ee x h.srt).1,zac cmpT_ord (by rw[h.kt];exact h.st),h.kt]
 have e2:kS (if (Tr.drop Nt x u).2=true then (Tr.drop Nt x u).1 else u).list=(kS u.list).filter fun z=>decide (z≠x):=by
  rw[(Tr.list_drop M9 x h.srtu).1,zac td h.su]
 refine⟨e1,h.st.sublist zpz,?_,fun z=>?_,?_⟩
 ·rw[e2];exact h.su.sublist zpz
 ·rw[e2,zn7,zn7,h.mu]
 ·have h1:=nh List.length e2;have h2:=Hq (h.su.nodup td) ((h.mu x).2 hx);have h3:=Hq (h.st.nodup cmpT_ord) hx;have h4:=h.zu;simp only[kS,mj,Tr.size_list] at h1 h2;omega
def TS.get(h:TS l t u)(x:U):Tr.get jh x t=if x∈l then some () else none:=by
 have hk:=zj7 cmpT_ord (k:=x) (L:=t.list);rw[h.kt] at hk;rw[Tr.get_list Ee x h.srt];by_cases hx:x∈l
 ·rw[na hx];exact hk.1 hx
 ·rw[nc hx];exact hk.2 hx
end ts
def vg(l:List U)(x:U)(d:Bool):List U×Int:=
 if tE x=0 then (if d=true then (l.filter fun z=>decide (z≠x),0) else if x∈l then (l,0) else if l.length>=4096 then ([],3) else (ow jh x l,0)) else ([],tE x)
def U0(hs:Sst jh l)(x:U)(d:Bool):Sst jh (vg l x d).1:=by
 unfold vg;split
 ·split
  ·exact hs.sublist zpz
  ·split
   ·exact hs
   ·split
    ·exact Sst.nil
    ·rename_i h _;exact d7 cmpT_ord hs h
 ·exact Sst.nil
def Ky(hl:l.length<=4096)(x:U)(d:Bool):(vg l x d).1.length<=4096:=by
 unfold vg;split
 ·split
  ·exact znj (zq3 _ _) hl
  ·split
   ·exact hl
   ·split
    ·exact mf _
    ·rw[vp];omega
 ·exact mf _
end Go.V.L6
namespace Go.V.L8
open Go.V.L2 Go.V.L3 Go.V.L6
abbrev CH:=U×Bool
def cE(n:Nat)(l:List CH):Int:=if n<l.length then 3 else if (l.any fun c=>!decide (tE c.1=0))=true then 6 else 0
def Bn(s:List U)(m:CH):Bool:=decide (m.1∈s) != m.2
def ut(s:List U):List CH->Nat->Nat×Int
 | [],i=>(i,0)
 | m::r,i=>if Bn s m=true then ut s r (i+1) else (i,13)
def sq(s:List U)(l:List CH):Nat×Int:=if cE 32 l=0 then ut s l 0 else (0,cE 32 l)
def iu(s:List U):∀ (l:List CH) (i:Nat),ut s l i=((ut s l 0).1+i,(ut s l 0).2)
 | [],i=>by simp [ut]
 | m::r,i=>by
  by_cases h:Bn s m=true
  ·have e1:ut s (m::r) i=ut s r (i+1):=by rw[ut,na h]
   have e2:ut s (m::r) 0=ut s r (0+1):=by rw[ut,na h]
   rw[e1,e2,iu s r (i+1),iu s r (0+1)];exact Prod.ext (by show(ut s r 0).1+(i+1)=(ut s r 0).1+(0+1)+i;omega) Z
  ·rw[ut,ut,nc h,nc h];simp
def Uc{s:List U}{l:List CH}{m:CH}(h:∀ (j:Nat) x,j<i->l[j]?=some x->Bn s x=true)(hm:l[i]?=some m)(hh:Bn s m=false):ut s l 0=(i,13):=by
 induction l generalizing i with
 | nil=>simp at hm
 | cons y r ih=>
  cases i with
  | zero=>
   simp at hm;subst hm;unfold ut;rw[nc (by rw[hh];decide)]
  | succ i=>
   have hy:=h 0 y (Nat.succ_pos _) rfl;unfold ut;rw[na hy,iu,ih (i:=i) (fun j x hj hx=>h (j+1) x I hx) (by simpa using hm)]
def Ud{s:List U}{l:List CH}(h:∀ x∈l,Bn s x=true):ut s l 0=(l.length,0):=by
 induction l with
 | nil=>rfl
 | cons y r ih=>
  unfold ut;rw[na (h y (by simp)),iu,ih (fun x hx=>h x (by simp [hx]))];rfl
def Kv:List U->List CH->List CH->List U×List CH×Int
 | s,made,[]=>(s,made,0)
 | s,made,c::r=>if (vg s c.1 c.2).2=0 then Kv (vg s c.1 c.2).1 (if decide (c.1∈s)=c.2 then made++[c] else made) r else ([],[],(vg s c.1 c.2).2)
def zet(s:List U)(l cs:List CH):List U×List CH×Int:=
 if cE 32 l=0 then (if cE 32 cs=0 then (if (sq s l).2=0 then Kv s [] cs else ([],[],(sq s l).2)) else ([],[],cE 32 cs)) else ([],[],cE 32 l)
end Go.V.L8
namespace Go.V
def fzI(P:Program)(t' st:TypeId)(off i:Nat):Bool:=
 match P.underlying st with
 | some (.struct fs)=>match fs[i]? with
  | some f=>(match P.info? f.type with | some j=>j.size == 0 | none=>false) && (!(P.cellsOf t' == 0) && ((byteOfCell P P.depth t' (off%P.cellsOf t')).isSome && (byteOfCell P P.depth t' ((off+f.offset)%P.cellsOf t')).isSome))
  | none=>false
 | _=>false
def PtrS:Value->Heap->Prop:=fun v _=>∃ a,v=.pointer (some a)
def PtrS.mono:Kn.mono (.sat PtrS):=fun _ _ _ h _=>h
section
variable        {d:Nat}    
def Fc{b:Nat}{e:TypeId}(h:u.heap[b]?=some (.cells cs e fr))(hs:P.cellsOf e≠0)(hb:byteOfCell P P.depth e (off%P.cellsOf e)=some k):
  (byteOf ⟨b,off,none⟩).run P u=.ok (off/P.cellsOf e*P.bytesOf e+k) u:=by
 have hsh:u.shape? b=some (e,cs.size):=by unfold World.shape?;rw[h]
 simp only[byteOf,ny,run_program,mb,noView,viewAt,shape,Sem.run,hsh,Option.isSome_some,if_true,mg,Option.isSome_none,zom,if_false,Option.isSome];simp [hs,hb,hsh]
def Fb{st:TypeId}{b:Nat}(hz:fzI P t' st off i=true)(hb:u.heap[b]?=some (.cells cs t' fr)):
  ∃ a,(Instr.fieldAt st (.pointer (some ⟨b,off,none⟩)) i).run P u=.ok (.pointer (some a)) u:=by
 unfold fzI at hz;split at hz
 ·rename_i fs hu;split at hz
  ·rename_i f hf;split at hz
   ·rename_i j hj;simp only[zod,beq_iff_eq,zq4,beq_eq_false_iff_ne,ne_eq,zpd] at hz;obtain⟨hj0,hc,⟨k1,h1⟩,k2,h2⟩:=hz;have r1:=Fc (P:=P) hb hc h1;have r2:=Fc (P:=P) hb hc h2;have hsz:(sizeOf f.type).run P u=.ok 0 u:=by simp [sizeOf,typeInfo,hj,hj0]
    have hun:=run_underlying (P:=P) (w:=u) hu
    have hfp:∃ a,(fieldPlace ⟨b,off,none⟩ f).run P u=.ok a u:=by
     simp only[fieldPlace,ny,hsz,mb,if_true,partAt,r1,r2,mg];exact⟨_,rfl⟩
    obtain⟨a,ha⟩:=hfp;refine⟨a,?_⟩;simp only[Instr.fieldAt,ny,hun,mb,hf,Instr.sureAddr,mg,ha]
   ·simp at hz
  ·cases hz
 ·cases hz
def zd9{t:TypeId}{z cs:List Value}{vs:List (Nat×Value)}(hp:PL P t places z)(hc:tj places z vs=some cs):P.built t vs=some cs.toArray:=by
 obtain⟨zv,hz1,hz2⟩:=hp.zr;have hpl:=hp.pl;unfold plI at hpl;unfold zrI at hz1;split at hz1
 ·rename_i it hit;unfold Program.built;split at hpl
  ·rename_i fs hu;simp only[hit,hu,hz1,hpl];rw[wm,hz2];exact gb (fun i p h=>by simpa using h) vs z cs hc
  ·rename_i m el hu;split at hpl
   ·rename_i ie hie;simp only[hit,hu,hz1,hie];cases hpl;rw[wm,hz2]
    exact gb (fun i p h=>by
     rw[zn4] at h
     cases hr:(List.range m)[i]? with
     | none=>rw[hr] at h;cases h
     | some j=>
      rw[hr] at h
      have:j=i:=by
       have:=zoj.1 hr;obtain⟨h1,h2⟩:=this;simpa using h2.symm
      subst this;simpa using h) vs z cs hc
   ·cases hpl
  ·cases hpl
 ·cases hz1
def To{t:Nat}{st:TypeId}{cs:List Value}(hx:κ t=some (.sat (At cs t' off)))(hn:Nat.blt d n=true)(hg:gK ops κ ⟨some d,.fieldAddr st (.tmp t) i,ty,pos,aft,g⟩=some true)
  (hz:fzI P t' st off i=true):StepOK P F B n ops O κ ⟨some d,.fieldAddr st (.tmp t) i,ty,pos,aft,g⟩ d (.sat PtrS):=
 kq rfl (zp hn) hg PtrS.mono fun a u H fp e=>by
  obtain⟨b,hv,hb⟩:=e.sat_ t _ (by simp [Op.operands]) hx;obtain⟨ad,hr⟩:=Fb hz (e.sub _ _ hb);refine⟨_,?_,ad,rfl⟩;simp only[execOp,hv,ny,hr,mb];rfl
def Tn{x:Operand}{st:TypeId}{b:Nat}(hb:B b=some (.cells cs t' fr))(hx:evK κ x=some (.pointer (some ⟨b,off,none⟩)))(hn:Nat.blt d n=true)(hg:gK ops κ ⟨some d,.fieldAddr st x i,ty,pos,aft,g⟩=some true)
  (hz:fzI P t' st off i=true):StepOK P F B n ops O κ ⟨some d,.fieldAddr st x i,ty,pos,aft,g⟩ d (.sat PtrS):=
 kq rfl (zp hn) hg PtrS.mono fun a u H fp e=>by
  have hv:=e.is_ x _ (by simp [Op.operands]) hx;obtain⟨ad,hr⟩:=Fb hz (e.sub _ _ (e.base _ _ hb));refine⟨_,?_,ad,rfl⟩;simp only[execOp,hv,ny,hr,mb];rfl
def Qt(L:Tabs P){t:TypeId}(hx:κ q=some (.sat PtrS))(hn:Nat.blt d n=true)(hg:gK ops κ ⟨some d,.load t (.tmp q),ty,pos,aft,g⟩=some true)(ht:L.ld t=some (true,0)):
  StepOK P F B n ops O κ ⟨some d,.load t (.tmp q),ty,pos,aft,g⟩ d (.is (.agg #[])):=
 kq rfl (zp hn) hg trivial fun a u H fp e=>by
  obtain⟨ad,hv⟩:=e.sat_ q _ (by simp [Op.operands]) hx;refine⟨.agg #[],?_,rfl⟩;simp only[execOp,hv,Instr.loadAt,Instr.sureAddr,ny,mg,mb];rw[ud (Tabs.ld_spec ht) u ad [] rfl (fun j v hj=>by simp at hj)];rfl
def Mj{t:TypeId}{parts:Array (Nat×Operand)}{z:List Value}(hn:Nat.blt d n=true)(hg:gK ops κ ⟨some d,.build t parts,ty,pos,aft,g⟩=some true)
  (hp:PL P t places z) (hm:Kn.mono (.sat ψ)) (h:∀ H,B.Le H->Args κ H (parts.toList.map (·.2)) [] (fun vs=>∃ cs,tj places z ((parts.toList.map (·.1)).zip vs)=some cs/\ψ (.agg cs.toArray) H)):
  StepOK P F B n ops O κ ⟨some d,.build t parts,ty,pos,aft,g⟩ d (.sat ψ):=by
 rintro κ' a u hl ⟨H,fp,hh⟩;unfold After;rw[na (xk hh hl hg)];have e:=hh.env (o:=⟨some d,.build t parts,ty,pos,aft,g⟩) hl
 have hc:=Args.use e (parts.toList.map (·.2)) [] (fun x hx=>by
  simp only[Op.operands];obtain⟨q,hq,rfl⟩:=m7.1 hx;simp;exact⟨q.1,by simpa using hq⟩) (h H e.base)
 obtain⟨cs,hb,hψ⟩:=hc;simp only[zoh,mn,zoz] at hb
 have hz:(parts.toList.map (·.1)).zip (parts.toList.map (a.eval∘(·.2)))=parts.toList.map fun p=>(p.1,a.eval p.2):=by
  generalize parts.toList=l
  induction l with
  | nil=>rfl
  | cons x l ih=>simp only[mq,List.zip_cons_cons,ih];rfl
 rw[hz] at hb;have hbt:=zd9 hp hb;have hr:=run_build (P:=P) u t (parts.toList.map fun p=>(p.1,a.eval p.2)).toArray cs.toArray (by simpa using hbt)
 have harr:(parts.map fun(p:Nat×Operand)=>(p.1,a.eval p.2))=(parts.toList.map fun p=>(p.1,a.eval p.2)).toArray:=by
  rw[<-zny,zo4]
 have hrun:(execOp a.eval ⟨some d,.build t parts,ty,pos,aft,g⟩).run P u=.ok (.value (.agg cs.toArray)) u:=by
  simp only[execOp,ny];show Result.andThen ((Instr.build t (parts.map fun(p:Nat×Operand)=>(p.1,a.eval p.2))).run P u) _=_;rw[harr,hr];rfl
 rw[hrun];simp only[Upon];exact⟨H,fp,hh.put (zp hn) hm hψ⟩
end
end Go.V
namespace Go.V.UT
def _root_.ZZ(t:Wr Y->A:=by intro h;refine z9 (ql L (qw Z E) Z Z Z Z) Z ?_;exact h.1)(h:Y):A:=t ⟨h⟩
def _root_.Zbc(t:Wr Y->A:=by intro h;refine z9 (qg L (vs:=[_,_,_,_,_,_]) (qw Z E) Z Z Z Z ⟨_,rfl⟩) Z ?_;exact h.1)(h:Y):A:=t ⟨h⟩
def _root_.ZdA(t:Wr Y->A:=by intro h;refine z7 (qg L (vs:=[_,_,_,_,_,_]) (ye Z) Z Z Z Z ⟨_,rfl⟩) Z ?_;exact h.1)(h:Y):A:=t ⟨h⟩
def _root_.Zbt(t:Wr Y->A:=by intro h;refine z7 (ql L (qw Z E) Z Z Z Z) Z ?_;exact h.1)(h:Y):A:=t ⟨h⟩
def _root_.ZcH(t:Wr Y->A:=by intro h;refine z7 (u9 Z Z Z Z zl4 Z) Z ?_;exact h.1)(h:Y):A:=t ⟨h⟩
def _root_.Zdt(t:Wr Y->A:=by intro h;refine z9 (yd Z Z Z Z (xd I I)) Z ?_;exact h.1)(h:Y):A:=t ⟨h⟩
def _root_.Zc2(t:Wr Y->A:=by intro h;refine z9 (yq Z Z Z) Z ?_;exact h.1)(h:Y):A:=t ⟨h⟩
def _root_.ZdQ(t:Wr Y->A:=by intro h;refine qp (id:=2) [] kj J ?_;exact h.1)(h:Y):A:=t ⟨h⟩
def _root_.Zb2(t:Wr Y->A:=by exact fun h=>(Zt∘Zm) h.1)(h:Y):A:=t ⟨h⟩
def _root_.Zbx(t:Wr Y->A:=by exact fun h=>(Zh∘Zdc) h.1)(h:Y):A:=t ⟨h⟩
def _root_.ZbU(t:Wr Y->A:=by exact fun h=>(Zba∘ZZ) h.1)(h:Y):A:=t ⟨h⟩
abbrev KT:=((ByteArray×ByteArray)×ByteArray)×((ByteArray×ByteArray)×ByteArray)
abbrev VT:=Unit
abbrev kv(k:KT):Value:=.agg #[.string k.1.1.1,.string k.1.1.2,.string k.1.2,.string k.2.1.1,.string k.2.1.2,.string k.2.2]
abbrev vv(x:VT):Value:=.agg #[]
abbrev pl(k:KT)(x:VT):List Value:=[.string k.1.1.1,.string k.1.1.2,.string k.1.2,.string k.2.1.1,.string k.2.1.2,.string k.2.2]
abbrev nl(k:KT)(x:VT)(l r:Value)(s d:Int):List Value:=[.string k.1.1.1,.string k.1.1.2,.string k.1.2,.string k.2.1.1,.string k.2.1.2,.string k.2.2]++[l,r,.int .i64 s,.int .i64 d]
abbrev TA(t:Tr KT VT):Value->Heap->Prop:=Tr.TreeAt nl 352 t
def TA.mono{t:Tr KT VT}:Kn.mono (.sat (TA t)):=Tr.TreeAt.mono
def TA.le{t:Tr KT VT}{v:Value}{H H':Heap}(h:TA t v H)(hle:H.Le H'):TA t v H':=Tr.TreeAt.le h hle
def TA.ptr{t:Tr KT VT}(h:TA t v H):∃ p,v=.pointer p:=by
 cases t with
 | nil=>exact⟨_,h⟩
 | node k x l r=>obtain⟨b,lv,rv,h,_⟩:=h;exact⟨_,h⟩
attribute [local irreducible] V N X VO Par StepOK Has Ret RetL Src
def size_ret(t:Tr KT VT){v:Value}(hB:zry B w)(hv:TA t v B):Ret zrz 171 [v] w B (fun v _=>v=.int .i64 t.size):=by
 cases t with
 | nil=>
  obtain rfl:v=.pointer none:=hv;refine yo Tryz.func171 Z Tryz.ntmps171 (np Z) hB ((ZbX∘ZcH∘Zbd∘Ze) ?_);exact yl2 L [.tmp 2]
 | node k x l r=>
  obtain⟨b,lv,rv,rfl,hb,_,_⟩:=hv;refine yo Tryz.func171 Z Tryz.ntmps171 (np Z) hB ((ZbX∘ZcH∘Zo∘Zx∘Zaa∘Zbt∘Ze) ?_);exact yl2 L [.tmp 2]
def deep_ret(t:Tr KT VT){v:Value}(hB:zry B w)(hv:TA t v B):Ret zrz 313 [v] w B (fun v _=>v=.int .i64 t.deep):=by
 cases t with
 | nil=>
  obtain rfl:v=.pointer none:=hv;refine yo Tryz.func313 Z Tryz.ntmps313 (np Z) hB ((ZbX∘ZcH∘Zbd∘Ze) ?_);exact yl2 L [.tmp 2]
 | node k x l r=>
  obtain⟨b,lv,rv,rfl,hb,_,_⟩:=hv;refine yo Tryz.func313 Z Tryz.ntmps313 (np Z) hB ((ZbX∘ZcH∘Zo∘Zx∘Zaa∘Zbt∘Ze) ?_);exact yl2 L [.tmp 2]
def zhb(a b:Nat):(if ((b:Nat):Int)>(a:Int) then ((b:Nat):Int) else (a:Int))=((max a b:Nat):Int):=by
 split<;>omega
def join_ret(k:KT)(x:VT)(l r:Tr KT VT){lv rv:Value}(hB:zry B w)(hl:TA l lv B)(hr:TA r rv B)(hs:l.size+r.size<1099511627776):
  Ret zrz 290 [.agg (pl k x).toArray,lv,rv] w B (TA (.node k x l r)):=by
 obtain⟨pl',rfl⟩:=hl.ptr;obtain⟨pr,rfl⟩:=hr.ptr;have hdl:=l.deep_le;have hdr:=r.deep_le;refine yo Tryz.func290 Z Tryz.ntmps290 (np Z) hB ((Z0∘Zc∘Zc7∘ZbO∘Zb2) ?_);refine z91 L Z (fun u H hH hle=>UT.size_ret _ hH (UT.TA.le E hle)) ?_;refine(Zdt∘Zm) ?_;refine z91 L Z (fun u H hH hle=>UT.size_ret _ hH (UT.TA.le E hle)) ?_;refine(Zdt∘Zm) ?_;refine z91 L Z (fun u H hH hle=>UT.deep_ret _ hH (UT.TA.le E hle)) ?_;refine Zm (h:=?_);refine z91 L Z (fun u H hH hle=>UT.deep_ret _ hH (UT.TA.le E hle)) ?_;refine z9 (i6 Z Z Z Z Z) Z (Zdt (h:=?_));refine z9 (yz (cs:=[_,_,_,_,_,_,_,_,_,_]) Z Z zlu Z Z) Z (z9 (yy Z Z Z Z) Z ((Zc2∘ZaE) ?_));refine yl1 L [.tmp 6] fun u H hH hle=>?_;rintro _ ⟨b,rfl,hb⟩;refine⟨b,_,_,rfl,?_,TA.le hl hle,TA.le hr hle⟩;rw[zhb] at hb;simpa [Tr.size_node,Tr.deep_node] using hb
def bal_ret(k:KT)(x:VT)(l r:Tr KT VT){lv rv:Value}(hB:zry B w)(hl:TA l lv B)(hr:TA r rv B)(hs:l.size+r.size<1099511627776):
  Ret zrz 288 [.agg (pl k x).toArray,lv,rv] w B (TA (Tr.bal k x l r)):=by
 have hdl:=l.deep_le;have hdr:=r.deep_le;refine yo Tryz.func288 Z Tryz.ntmps288 (np Z) hB ?_;unfold Tr.bal;by_cases h1:l.deep>r.deep+1
 ·rw[na h1]
  cases l with
  | nil=>simp [Tr.deep] at h1
  | node lk lx ll lr=>
   have hl0:=hl;obtain⟨b1,v1,v2,rfl,hb1,hll,hlr⟩:=hl;have hd1:=ll.deep_le;have hd2:=lr.deep_le;simp only[Tr.size_node] at hs hdl;dsimp only;by_cases h2:ll.deep>=lr.deep
   ·rw[na h2];refine(Z0∘ZaO) ?_;refine z71 L Z (fun u H hH hle=>UT.deep_ret _ hH (UT.TA.le E hle)) ?_;refine Za (h:=?_);refine z71 L Z (fun u H hH hle=>UT.deep_ret _ hH (UT.TA.le E hle)) ?_;refine(ZcM∘Ze∘Zae∘ZdQ∘Zm∘Zda∘Zt∘Zcx∘ZZ) ?_;refine z91 L Z (fun u H hH hle=>UT.deep_ret _ hH (UT.TA.le E hle)) ?_;refine ZbU (h:=?_);refine z91 L Z (fun u H hH hle=>UT.deep_ret _ hH (UT.TA.le E hle)) ?_;refine(ZdO∘ZaA∘Zav∘Zeo∘Zf∘Zc0∘Zba∘Zbc∘ZbU∘ZbO∘ZbU∘Zm) ?_;refine z9 (xl L Z Z (zp Z) Z Z Z UT.TA.mono (fun u H hH hle _=>UT.join_ret _ () _ _ hH (UT.TA.le E hle) (UT.TA.le E hle) (by first | omega | (simp only[Tr.size_node];omega)))) Z ?_;refine z9 (xl L Z Z (zp Z) Z Z Z UT.TA.mono (fun u H hH hle _ v1 hv1=>UT.join_ret _ () _ _ hH (UT.TA.le E hle) hv1 (by first | omega | (simp only[Tr.size_node];omega)))) Z ?_;refine(Zc2∘ZaE) ?_;refine yl1 L [.tmp 6] fun u H hH hle=>?_;exact fun v hv=>hv
   ·rw[nc h2]
    cases lr with
    | nil=>simp [Tr.deep] at h2
    | node mk mx ml mr=>
     have hlr0:=hlr;obtain⟨b2,v3,v4,rfl,hb2,hml,hmr⟩:=hlr;simp only[Tr.size_node] at hs hdl hd2;refine(Z0∘ZaO) ?_;refine z71 L Z (fun u H hH hle=>UT.deep_ret _ hH (UT.TA.le E hle)) ?_;refine Za (h:=?_);refine z71 L Z (fun u H hH hle=>UT.deep_ret _ hH (UT.TA.le E hle)) ?_;refine(ZcM∘Ze∘Zae∘ZdQ∘Zm∘Zda∘Zt∘Zcx∘ZZ) ?_;refine z91 L Z (fun u H hH hle=>UT.deep_ret _ hH (UT.TA.le E hle)) ?_;refine ZbU (h:=?_);refine z91 L Z (fun u H hH hle=>UT.deep_ret _ hH (UT.TA.le E hle)) ?_;refine(Zev∘ZaA∘Zah∘Zbg∘Zf∘ZB∘ZJ∘Zh∘Zr∘Zak∘Zaa∘Zbt∘Zc∘ZcK∘Zba∘Zbc∘Zba∘Zbc∘ZbU∘ZbU) ?_;refine z9 (xl L Z Z (zp Z) Z Z Z UT.TA.mono (fun u H hH hle _=>UT.join_ret _ () _ _ hH (UT.TA.le E hle) (UT.TA.le E hle) (by first | omega | (simp only[Tr.size_node];omega)))) Z ?_;refine(ZbO∘ZbU∘Zm) ?_;refine z9 (xl L Z Z (zp Z) Z Z Z UT.TA.mono (fun u H hH hle _=>UT.join_ret _ () _ _ hH (UT.TA.le E hle) (UT.TA.le E hle) (by first | omega | (simp only[Tr.size_node];omega)))) Z ?_;refine z9 (xl L Z Z (zp Z) Z Z Z UT.TA.mono (fun u H hH hle _ v1 hv1 v2 hv2=>UT.join_ret _ () _ _ hH hv1 hv2 (by first | omega | (simp only[Tr.size_node];omega)))) Z ?_;refine(Zc2∘ZaE) ?_;refine yl1 L [.tmp 6] fun u H hH hle=>?_;exact fun v hv=>hv
 ·rw[nc h1];by_cases h3:r.deep>l.deep+1
  ·rw[na h3]
   cases r with
   | nil=>simp [Tr.deep] at h3
   | node rk rx rl rr=>
    have hr0:=hr;obtain⟨b1,v1,v2,rfl,hb1,hrl,hrr⟩:=hr;have hd1:=rl.deep_le;have hd2:=rr.deep_le;simp only[Tr.size_node] at hs hdr;dsimp only;by_cases h2:rr.deep>=rl.deep
    ·rw[na h2];refine(Z0∘ZaO) ?_;refine z71 L Z (fun u H hH hle=>UT.deep_ret _ hH (UT.TA.le E hle)) ?_;refine Za (h:=?_);refine z71 L Z (fun u H hH hle=>UT.deep_ret _ hH (UT.TA.le E hle)) ?_;refine(ZcM∘Ze∘Zae∘ZdQ∘Zm∘Zdo∘Zcd∘Zcc∘Zc1∘ZaA∘Zah∘Zbg∘Zf∘ZB∘Zan∘Zbx∘Zex∘Zm∘ZcR∘Zt∘Zcx∘ZZ) ?_;refine z91 L Z (fun u H hH hle=>UT.deep_ret _ hH (UT.TA.le E hle)) ?_;refine ZbU (h:=?_);refine z91 L Z (fun u H hH hle=>UT.deep_ret _ hH (UT.TA.le E hle)) ?_;refine(ZdO∘ZaA∘Zav∘Zeo∘Zf∘ZcV∘Zba∘Zbc∘ZbO∘Zt∘Zcx∘ZZ) ?_;refine z9 (xl L Z Z (zp Z) Z Z Z UT.TA.mono (fun u H hH hle _=>UT.join_ret _ () _ _ hH (UT.TA.le E hle) (UT.TA.le E hle) (by first | omega | (simp only[Tr.size_node];omega)))) Z ?_;refine ZbU (h:=?_);refine z9 (xl L Z Z (zp Z) Z Z Z UT.TA.mono (fun u H hH hle _ v1 hv1=>UT.join_ret _ () _ _ hH hv1 (UT.TA.le E hle) (by first | omega | (simp only[Tr.size_node];omega)))) Z ?_;refine(Zc2∘ZaE) ?_;refine yl1 L [.tmp 6] fun u H hH hle=>?_;exact fun v hv=>hv
    ·rw[nc h2]
     cases rl with
     | nil=>simp [Tr.deep] at h2
     | node mk mx ml mr=>
      have hrl0:=hrl;obtain⟨b2,v3,v4,rfl,hb2,hml,hmr⟩:=hrl;simp only[Tr.size_node] at hs hdr hd1;refine(Z0∘ZaO) ?_;refine z71 L Z (fun u H hH hle=>UT.deep_ret _ hH (UT.TA.le E hle)) ?_;refine Za (h:=?_);refine z71 L Z (fun u H hH hle=>UT.deep_ret _ hH (UT.TA.le E hle)) ?_;refine(ZcM∘Ze∘Zae∘ZdQ∘Zm∘Zdo∘Zcd∘Zcc∘Zc1∘ZaA∘Zah∘Zbg∘Zf∘ZB∘Zan∘Zbx∘Zex∘Zm∘ZcR∘Zt∘Zcx∘ZZ) ?_;refine z91 L Z (fun u H hH hle=>UT.deep_ret _ hH (UT.TA.le E hle)) ?_;refine ZbU (h:=?_);refine z91 L Z (fun u H hH hle=>UT.deep_ret _ hH (UT.TA.le E hle)) ?_;refine(Zev∘ZaA∘Zah∘Zbg∘Zf∘Za3∘ZI∘Zh∘Zr∘Zcw∘Zaa∘Zbt∘Zc∘ZeQ∘Zba∘Zbc∘ZbO∘Zt∘Zcx∘ZZ) ?_;refine z9 (xl L Z Z (zp Z) Z Z Z UT.TA.mono (fun u H hH hle _=>UT.join_ret _ () _ _ hH (UT.TA.le E hle) (UT.TA.le E hle) (by first | omega | (simp only[Tr.size_node];omega)))) Z ?_;refine(Zba∘Zbc∘ZbU∘ZbU) ?_;refine z9 (xl L Z Z (zp Z) Z Z Z UT.TA.mono (fun u H hH hle _=>UT.join_ret _ () _ _ hH (UT.TA.le E hle) (UT.TA.le E hle) (by first | omega | (simp only[Tr.size_node];omega)))) Z ?_;refine z9 (xl L Z Z (zp Z) Z Z Z UT.TA.mono (fun u H hH hle _ v1 hv1 v2 hv2=>UT.join_ret _ () _ _ hH hv1 hv2 (by first | omega | (simp only[Tr.size_node];omega)))) Z ?_;refine(Zc2∘ZaE) ?_;refine yl1 L [.tmp 6] fun u H hH hle=>?_;exact fun v hv=>hv
  ·rw[nc h3];refine(Z0∘ZaO) ?_;refine z71 L Z (fun u H hH hle=>UT.deep_ret _ hH (UT.TA.le E hle)) ?_;refine Za (h:=?_);refine z71 L Z (fun u H hH hle=>UT.deep_ret _ hH (UT.TA.le E hle)) ?_;refine(ZcM∘Ze∘Zae∘ZdQ∘Zm∘Zdo∘Zcd∘Zcc∘Zc1∘ZaA∘Zah∘Zbg∘Zf∘ZB∘Zan∘Zbx∘Zex∘Zm∘Zdn∘Zcd∘Zcc∘Zc1∘ZaA∘Zah∘Zbg∘Zf∘Za3∘Z6∘Zh∘Zas∘Zau∘Zcl∘ZW∘ZdA∘Zb) ?_;refine z7 (xl L Z Z (zp Z) Z Z Z UT.TA.mono (fun u H hH hle _=>UT.join_ret _ () _ _ hH (UT.TA.le E hle) (UT.TA.le E hle) (by first | omega | (simp only[Tr.size_node];omega)))) Z ?_;refine(ZP∘Zp) ?_;refine yl1 L [.tmp 6] fun u H hH hle=>?_;exact fun v hv=>hv
end Go.V.UT
variable{t:Go.V.Tr Go.V.UT.KT Go.V.UT.VT}
namespace Go.V.UT
def _root_.ZcB(t:Wr Y->A:=by intro h;refine z7 (oj Z Z Z Z E) Z ?_;exact h.1)(h:Y):A:=t ⟨h⟩
def _root_.Zce(t:Wr Y->A:=by intro h;refine z7 (Di Z Z Z Z) Z ?_;exact h.1)(h:Y):A:=t ⟨h⟩
def _root_.ZdR(t:Wr Y->A:=by intro h;refine z9 (qg L (vs:=[_,_,_,_,_,_]) (qy Z) Z Z Z Z ⟨_,rfl⟩) Z ?_;exact h.1)(h:Y):A:=t ⟨h⟩
def _root_.Zdz(t:Wr Y->A:=by intro h;refine l5 (qy Z) Z Z ?_;exact h.1)(h:Y):A:=t ⟨h⟩
def _root_.Zek(t:Wr Y->A:=by intro h;refine qp (id:=13) [] kj J ?_;exact h.1)(h:Y):A:=t ⟨h⟩
def _root_.Zfv(t:Wr Y->A:=by intro h;refine z9 (oj Z Z Z Z E) Z ?_;refine z9 (Di Z Z Z Z) Z ?_;exact h.1)(h:Y):A:=t ⟨h⟩
structure Cmp(cf:Nat)(c:KT->KT->Int):Prop where
 fn:L.fn cf=some ()
 ret:∀ (a b:KT) (u:World) (H:Heap),zry H u->Ret zrz cf [kv a,kv b] u H (fun v _=>v=.int .i64 (c a b))
abbrev mv(cf:Nat)(root:Value):Value:=.agg #[.func (.func cf) #[] #[],root]
attribute [local irreducible] V N X VO Par StepOK Has Ret RetL Src
def zgn{c:KT->KT->Int}(hc:Cmp cf c)(root:Value)(k:KT)(x:VT):∀ (t:Tr KT VT) {rv:Value} {w:World} {B:Heap},zry B w->TA t rv B->t.size+1<1099511627776->
  Ret zrz 243 [mv cf root,rv,.agg (pl k x).toArray] w B (TA (Tr.put c k x t)):=by
 intro t
 induction t with
 | nil=>
  intro rv w B hB hv hs;obtain rfl:rv=.pointer none:=hv;have hn:TA .nil (.pointer none) B:=rfl;have hz:(Tr.nil:Tr KT VT).size=0:=rfl;refine yo Tryz.func243 Z Tryz.ntmps243 (np Z) hB ((ZaI∘ZaO∘ZcH∘Zbd∘ZdA) ?_);refine z7 (xl L Z Z (zp Z) Z Z Z UT.TA.mono (fun u H hH hle _=>UT.join_ret _ () _ _ hH (UT.TA.le E hle) (UT.TA.le E hle) (by first | omega | (simp only[Tr.size_node];omega)))) Z ?_;refine(ZP∘Zp) ?_;refine yl1 L [.tmp 6] fun u H hH hle=>?_;exact fun v hv=>hv
 | node nk nx l r ihl ihr=>
  intro rv w B hB hv hs;obtain⟨b,lv,rv',rfl,hb,hl,hr⟩:=hv;have hpl:=Tr.size_put c k x l;have hpr:=Tr.size_put c k x r;simp only[Tr.size_node] at hs;refine yo Tryz.func243 Z Tryz.ntmps243 (np Z) hB ?_;unfold Tr.put;by_cases h1:c k nk<0
  ·rw[na h1];refine(ZaI∘ZaO∘ZcH∘ZV∘Zc0∘Zbp∘Zbo∘ZbO∘Zba∘Zal∘Zbc) ?_;refine z9 (qe L Z Z (zp Z) Z Z hc.fn (fun u H hH _ _=>hc.ret _ _ u H hH)) Z ((Zav∘Zae∘ZB∘ZI∘Zh∘Zr∘ZdP∘Zba∘Zbc∘ZcS∘ZbU∘ZbO) ?_);refine z9 (xl L Z Z (zp Z) Z Z Z TA.mono (fun u H hH hle _=>ihl hH (hl.le hle) I)) Z (ZbU (h:=?_));refine z9 (xl L Z Z (zp Z) Z Z Z UT.TA.mono (fun u H hH hle _ v1 hv1=>UT.bal_ret _ () _ _ hH hv1 (UT.TA.le E hle) (by first | omega | (simp only[Tr.size_node];omega)))) Z ?_;refine(Zc2∘ZaE) ?_;refine yl1 L [.tmp 6] fun u H hH hle=>?_;exact fun v hv=>hv
  ·rw[nc h1];by_cases h2:c k nk>0
   ·rw[na h2];refine(ZaI∘ZaO∘ZcH∘ZV∘Zc0∘Zbp∘Zbo∘ZbO∘Zba∘Zal∘Zbc) ?_;refine z9 (qe L Z Z (zp Z) Z Z hc.fn (fun u H hH _ _=>hc.ret _ _ u H hH)) Z ((Zav∘Zae∘ZB∘Z6∘Zbx∘ZL∘ZJ∘Zh∘Zr∘Zex∘Zba∘Zbc∘ZbU∘ZcS∘ZbU∘ZbO) ?_);refine z9 (xl L Z Z (zp Z) Z Z Z TA.mono (fun u H hH hle _=>ihr hH (hr.le hle) I)) Z (z9 (xl L Z Z (zp Z) Z Z Z UT.TA.mono (fun u H hH hle _ v1 hv1=>UT.bal_ret _ () _ _ hH (UT.TA.le E hle) hv1 (by first | omega | (simp only[Tr.size_node];omega)))) Z ?_);refine(Zc2∘ZaE) ?_;refine yl1 L [.tmp 6] fun u H hH hle=>?_;exact fun v hv=>hv
   ·rw[nc h2];refine(ZaI∘ZaO∘ZcH∘ZV∘Zc0∘Zbp∘Zbo∘ZbO∘Zba∘Zal∘Zbc) ?_;refine z9 (qe L Z Z (zp Z) Z Z hc.fn (fun u H hH _ _=>hc.ret _ _ u H hH)) Z ((Zav∘Zae∘ZB∘Z6∘Zbx∘ZL∘Zan∘Zh∘Zas∘Zau∘Zcl∘ZcV∘Zba∘Zal∘Zbc) ?_);refine z9 (To Z Z Z J) Z (z9 (Qt L Z Z Z Z) Z (z9 (yz (cs:=[_,_,_,_,_,_]) Z Z zjd Z Z) Z ((ZbU∘ZbU) ?_)));refine z9 (xl L Z Z (zp Z) Z Z Z UT.TA.mono (fun u H hH hle _=>UT.join_ret _ () _ _ hH (UT.TA.le E hle) (UT.TA.le E hle) (by first | omega | (simp only[Tr.size_node];omega)))) Z ?_;refine(Zc2∘ZaE) ?_;refine yl1 L [.tmp 6] fun u H hH hle=>?_;exact fun v hv=>hv
abbrev FirstS(y:(KT×VT)×Tr KT VT):Value->Heap->Prop:=TupS [fun v _=>v=.agg (pl y.1.1 y.1.2).toArray,TA y.2]
def FirstS.mono{y:(KT×VT)×Tr KT VT}:Kn.mono (.sat (FirstS y)):=TupS.mono fun φ hφ=>by
 simp only[nz,zou,or_false] at hφ;rcases hφ with rfl | rfl
 ·exact fun _ _ _ h _=>h
 ·exact TA.mono
def tupS2{w:Value}(h1:φ v H)(h2:ψ w H):TupS [φ,ψ] (tup [v,w]) H:=⟨[v,w],rfl,rfl,fun i χ x hi hx=>by
 match i with
 | 0=>cases hi;cases hx;exact h1
 | 1=>cases hi;cases hx;exact h2
 | _+2=>cases hi⟩
def first_ret:∀ (k:KT) (x:VT) (l r:Tr KT VT) {v:Value} {w:World} {B:Heap},zry B w->TA (.node k x l r) v B->l.size+r.size<1099511627776->
  Ret zrz 289 [v] w B (FirstS (Tr.first k x l r)):=by
 intro k x l
 induction l generalizing k x with
 | nil=>
  intro r v w B hB hv hs;obtain⟨b,lv,rv,rfl,hb,hl,hr⟩:=hv;obtain rfl:lv=.pointer none:=hl;refine yo Tryz.func289 Z Tryz.ntmps289 (np Z) hB ((ZQ∘ZaO∘Zaa∘Zbt∘ZcH∘Zr∘ZdQ∘Zba∘Zbc∘ZbU∘ZbQ∘Zav) ?_);refine yl1 L [.cell 2 293,.tmp 3] fun u H hH hle=>?_;refine Zdz (h:=?_);exact tupS2 Z (TA.le hr hle)
 | node lk lx ll lr ih _=>
  intro r v w B hB hv hs;obtain⟨b,lv,rv,rfl,hb,hl,hr⟩:=hv;have hl0:=hl;obtain⟨b2,v3,v4,rfl,hb2,_,_⟩:=hl;have hz:=Tr.size_first lk lx ll lr;simp only[Tr.size_node] at hs;have hm:=TA.mono (t:=(Tr.first lk lx ll lr).2);refine yo Tryz.func289 Z Tryz.ntmps289 (np Z) hB ((ZQ∘ZaO∘Zaa∘Zbt∘ZcH∘Zo∘Zx∘Zaa∘Zbt) ?_);refine z7 (xl L Z Z (zp Z) Z Z Z FirstS.mono (fun u H hH hle _=>ih lk lx lr hH (TA.le hl0 hle) I)) Z ((Zk∘Zce∘ZcB∘Zbw∘ZP∘Zg∘Zdb∘ZdR∘Zba∘Zbc∘Zag∘ZbU) ?_);refine z9 (xl L Z Z (zp Z) Z Z Z UT.TA.mono (fun u H hH hle _ v1 hv1=>UT.bal_ret _ () _ _ hH hv1 (UT.TA.le E hle) (by first | omega | (simp only[Tr.size_node];omega)))) Z ?_;refine(ZbQ∘Zc2∘ZaE) ?_;refine yl1 L [.cell 2 293,.tmp 3] fun u H hH hle=>?_;refine Zdz (h:=?_);exact fun v hv=>tupS2 Z hv
abbrev DropS(y:Tr KT VT×Bool):Value->Heap->Prop:=TupS [TA y.1,fun v _=>v=.bool y.2]
def DropS.mono{y:Tr KT VT×Bool}:Kn.mono (.sat (DropS y)):=TupS.mono fun φ hφ=>by
 simp only[nz,zou,or_false] at hφ;rcases hφ with rfl | rfl
 ·exact TA.mono
 ·exact fun _ _ _ h _=>h
def drop_nil(fv root:Value)(k:KT)(hB:zry B w):
  Ret zrz 242 [.agg #[fv,root],.pointer none,kv k] w B (DropS (.nil,false)):=by
 have hn:TA .nil (.pointer none) B:=rfl;refine yo Tryz.func242 Z Tryz.ntmps242 (np Z) hB ((ZaI∘Zh∘ZaO∘ZcH∘Zbd∘ZA) ?_);refine yl1 L [.tmp 6,.tmp 7] fun u H hH hle=>?_;exact tupS2 Z Z
def zdx{c:KT->KT->Int}(hc:Cmp cf c)(root:Value)(k:KT):∀ (t:Tr KT VT) {rv:Value} {w:World} {B:Heap},zry B w->TA t rv B->t.size<1099511627776->
  Ret zrz 242 [mv cf root,rv,kv k] w B (DropS (Tr.drop c k t)):=by
 intro t
 induction t with
 | nil=>
  intro rv w B hB hv hs;obtain rfl:rv=.pointer none:=hv;have hn:TA .nil (.pointer none) B:=rfl;refine yo Tryz.func242 Z Tryz.ntmps242 (np Z) hB ((ZaI∘Zh∘ZaO∘ZcH∘Zbd∘ZA) ?_);refine yl1 L [.tmp 6,.tmp 7] fun u H hH hle=>?_;exact tupS2 Z Z
 | node nk nx l r ihl ihr=>
  intro rv w B hB hv hs;obtain⟨b,lv,rv',rfl,hb,hl,hr⟩:=hv;have hpl:=Tr.size_drop c k l;have hpr:=Tr.size_drop c k r;simp only[Tr.size_node] at hs;refine yo Tryz.func242 Z Tryz.ntmps242 (np Z) hB ?_;unfold Tr.drop;by_cases h1:c k nk<0
  ·rw[na h1];have hm:=TA.mono (t:=(Tr.drop c k l).1);refine(ZaI∘Zh∘ZaO∘ZcH∘ZV∘Zc0∘Zbp∘ZbO∘Zba∘Zal∘Zbc) ?_;refine z9 (qe L Z Z (zp Z) Z Z hc.fn (fun u H hH _ _=>hc.ret _ _ u H hH)) Z ((Zav∘Zae∘ZB∘ZI∘Zh∘Zr∘ZdP∘ZcS∘ZbU∘ZbO) ?_);refine z9 (xl L Z Z (zp Z) Z Z Z DropS.mono (fun u H hH hle _=>ihl hH (hl.le hle) I)) Z ((Zag∘Zfv∘Zc2∘ZbC∘ZcK∘Zba∘Zbc∘Zag∘ZbU) ?_);refine z9 (xl L Z Z (zp Z) Z Z Z UT.TA.mono (fun u H hH hle _ v1 hv1=>UT.bal_ret _ () _ _ hH hv1 (UT.TA.le E hle) (by first | omega | (simp only[Tr.size_node];omega)))) Z ?_;refine(Zm∘Zc2∘Zav) ?_;refine yl1 L [.tmp 6,.tmp 7] fun u H hH hle=>?_;exact fun v hv=>tupS2 hv Z
  ·rw[nc h1];by_cases h2:c k nk>0
   ·rw[na h2];have hm:=TA.mono (t:=(Tr.drop c k r).1);refine(ZaI∘Zh∘ZaO∘ZcH∘ZV∘Zc0∘Zbp∘ZbO∘Zba∘Zal∘Zbc) ?_;refine z9 (qe L Z Z (zp Z) Z Z hc.fn (fun u H hH _ _=>hc.ret _ _ u H hH)) Z ((Zav∘Zae∘ZB∘Z6∘Zbx∘Z5∘ZJ∘Zh∘Zr∘ZcV∘ZcS∘ZbU∘ZbO) ?_);refine z9 (xl L Z Z (zp Z) Z Z Z DropS.mono (fun u H hH hle _=>ihr hH (hr.le hle) I)) Z ((Zag∘Zfv∘Zc2∘ZbC) ?_);refine qp (id:=9) [] kj J ((Zba∘Zbc∘ZbU∘Zag) ?_);refine z9 (xl L Z Z (zp Z) Z Z Z UT.TA.mono (fun u H hH hle _ v1 hv1=>UT.bal_ret _ () _ _ hH (UT.TA.le E hle) hv1 (by first | omega | (simp only[Tr.size_node];omega)))) Z ?_;refine(Zm∘Zc2∘Zav) ?_;refine yl1 L [.tmp 6,.tmp 7] fun u H hH hle=>?_;exact fun v hv=>tupS2 hv Z
   ·rw[nc h2]
    cases r with
    | nil=>
     obtain rfl:rv'=.pointer none:=hr;refine(ZaI∘Zh∘ZaO∘ZcH∘ZV∘Zc0∘Zbp∘ZbO∘Zba∘Zal∘Zbc) ?_;refine z9 (qe L Z Z (zp Z) Z Z hc.fn (fun u H hH _ _=>hc.ret _ _ u H hH)) Z ((Zav∘Zae∘ZB∘Z6∘Zbx∘Z5∘Zan∘Zbx∘Zcw∘Zaa∘Zbt∘ZcH∘Zh∘Zr∘ZG∘Za∘Zaa∘Zbt∘ZA) ?_);refine yl1 L [.tmp 6,.tmp 7] fun u H hH hle=>?_;exact tupS2 (TA.le hl hle) Z
    | node rk rx rl rr=>
     have hr0:=hr;obtain⟨b2,v3,v4,rfl,hb2,_,_⟩:=hr;have hz:=Tr.size_first rk rx rl rr;simp only[Tr.size_node] at hs;have hm:=TA.mono (t:=(Tr.first rk rx rl rr).2);refine(ZaI∘Zh∘ZaO∘ZcH∘ZV∘Zc0∘Zbp∘ZbO∘Zba∘Zal∘Zbc) ?_;refine z9 (qe L Z Z (zp Z) Z Z hc.fn (fun u H hH _ _=>hc.ret _ _ u H hH)) Z ((Zav∘Zae∘ZB∘Z6∘Zbx∘Z5∘Zan∘Zbx∘Zcw∘Zaa∘Zbt∘ZcH∘Zh∘Zas∘Zau∘Zcl∘ZW∘Za∘Zaa∘Zbt) ?_);refine z7 (xl L Z Z (zp Z) Z Z Z FirstS.mono (fun u H hH hle _=>first_ret rk rx rl rr hH (TA.le hr0 hle) I)) Z ((Zk∘Zce∘ZcB∘Zbw∘ZP∘Zg∘Zek∘ZdR∘ZbU∘Zag) ?_);refine z9 (xl L Z Z (zp Z) Z Z Z UT.TA.mono (fun u H hH hle _ v1 hv1=>UT.bal_ret _ () _ _ hH (UT.TA.le E hle) hv1 (by first | omega | (simp only[Tr.size_node];omega)))) Z ?_;refine(Zc2∘Zav) ?_;refine yl1 L [.tmp 6,.tmp 7] fun u H hH hle=>?_;exact fun v hv=>tupS2 hv Z
def _root_.Zd0(t:Wr Y->A:=by intro h;refine z7 (ql L (yu Z (List.Mem.head _)) Z Z Z Z) Z ?_;exact h.1)(h:Y):A:=t ⟨h⟩
def _root_.Zdd(t:Wr Y->A:=by intro h;refine z7 (qg L (vs:=[_,_]) (yu Z (List.Mem.head _)) Z Z Z Z ⟨_,rfl⟩) Z ?_;exact h.1)(h:Y):A:=t ⟨h⟩
def _root_.ZcN(t:Wr Y->A:=by intro h;refine tn L (O1:=[]) Z Z Z Z Z Z ?_;exact h.1)(h:Y):A:=t ⟨h⟩
def _root_.ZeR(t:Wr Y->A:=by intro h;refine z7 (G7 Z Z Z Z zl4 Z Z) Z ?_;exact h.1)(h:Y):A:=t ⟨h⟩
def _root_.Z1(t:Wr Y->A:=by exact fun h=>(Zz∘Zd0) h.1)(h:Y):A:=t ⟨h⟩
def _root_.Zab(t:Wr Y->A:=by exact fun h=>(ZaF∘Zp) h.1)(h:Y):A:=t ⟨h⟩
def _root_.ZaB(t:Wr Y->A:=by exact fun h=>(Zao∘Zau) h.1)(h:Y):A:=t ⟨h⟩
def _root_.Zbm(t:Wr Y->A:=by exact fun h=>(ZcX∘Zae) h.1)(h:Y):A:=t ⟨h⟩
def _root_.Zby(t:Wr Y->A:=by exact fun h=>(Zg∘Z9) h.1)(h:Y):A:=t ⟨h⟩
def _root_.Zbz(t:Wr Y->A:=by exact fun h=>(ZC∘Zam) h.1)(h:Y):A:=t ⟨h⟩
def MA(fv:Value)(t:Tr KT VT):Value->Heap->Prop:=fun v H=>∃ p,v=.agg #[fv,.pointer p]/\TA t (.pointer p) H
def MA.mono{fv:Value}:Kn.mono (.sat (MA fv t)):=fun _ _ _ ⟨p,hv,h⟩ hle=>⟨p,hv,h.le hle⟩
def new_ret(cf:Nat)(hB:zry B w):Ret zrz 177 [.func (.func cf) #[] #[]] w B (fun v _=>v=.agg #[.func (.func cf) #[] #[],.pointer none]):=by
 refine yo Tryz.func177 Z Tryz.ntmps177 (np Z) hB ((ZQ∘Zby∘Za) ?_);refine z7 (yz (cs:=[_,_]) Z Z zm5 Z Z) Z (Zab (h:=?_));refine yl1 L [.cell 2 87] fun u H hH hle=>?_;refine Zdz (h:=?_);rfl
def len_ret{fv:Value}(hB:zry B w)(hv:TA t root B):Ret zrz 103 [.agg #[fv,root]] w B (fun v _=>v=.int .i64 t.size):=by
 refine yo Tryz.func103 Z Tryz.ntmps103 (np Z) hB ((Z0∘ZaH∘Z8) ?_);refine z71 L Z (fun u H hH hle=>UT.size_ret _ hH (UT.TA.le E hle)) ?_;refine Ze (h:=?_);exact yl2 L [.tmp 2]
def zc8{c:KT->KT->Int}(hc:Cmp cf c)(k:KT)(x:VT)(hB:zry B w)(hv:TA t (.pointer p) B)(hs:t.size+1<1099511627776):
  Ret zrz 179 [mv cf (.pointer p),kv k,vv x] w B (MA (.func (.func cf) #[] #[]) (Tr.put c k x t)):=by
 refine yo Tryz.func179 Z Tryz.ntmps179 (np Z) hB ((ZaU∘Zdm∘Zdm∘Zbz) ?_);(refine bu 3 rfl ?_;intro b3 hb3);refine(Z9∘Z1) ?_;refine z7 (G7 rfl rfl rfl rfl zm6 rfl rfl) rfl ((Z3∘ZS∘Zdd∘Z1∘ZdA) ?_);refine z7 (qg L (vs:=[]) (ye rfl) rfl rfl rfl rfl ⟨_,rfl⟩) rfl (z7 (yz (cs:=[_,_,_,_,_,_]) rfl rfl zjd rfl rfl) rfl (z7 (xl L rfl rfl (zp rfl) rfl rfl rfl TA.mono (fun u H hH hle _=>zgn hc _ k x t hH (hv.le hle) hs)) rfl (ff 16 rfl ?_)));intro p16 H16 hs16 hp16;obtain⟨q16,rfl⟩:=TA.ptr hp16;refine(Zz∘ZcN∘Zg∘Zy∘Zdd∘Zab) ?_;refine yl L (rs:=[.cell 6 87]) Z (fun _ _ h=>h) hs16 fun u H hH hle=>?_;refine Zdz (h:=?_);exact⟨q16,rfl,hp16.le hle⟩
def Yp{c:KT->KT->Int}(hc:Cmp cf c)(k:KT)(hB:zry B w)(hv:TA t (.pointer p) B)(hs:t.size<1099511627776):
  Ret zrz 178 [mv cf (.pointer p),kv k] w B (MA (.func (.func cf) #[] #[]) (if (Tr.drop c k t).2=true then (Tr.drop c k t).1 else t)):=by
 have hD:=fun(u:World) (H:Heap) (hH:zry H u) (hle:B.Le H)=>zdx hc (.pointer p) k t hH (hv.le hle) hs;rcases hq:Tr.drop c k t with ⟨t',was⟩
 rw[hq] at hD;have hm:=TA.mono (t:=t');cases was
 ·rw[nc (by simp)];refine yo Tryz.func178 Z Tryz.ntmps178 (np Z) hB ((ZaU∘Zdm∘Zbz) ?_);(refine bu 2 rfl ?_;intro b2 hb2);refine(Z9∘Zdd∘Z1∘ZdA) ?_;refine z7 (xl L Z Z (zp Z) Z Z Z DropS.mono (fun u H hH hle _=>hD u H hH hle)) Z ((Zk∘ZcB∘Zce∘ZP∘ZbT∘Zo∘Zs∘Zdd∘Zab) ?_);refine yl1 L [.cell 4 87] fun u H hH hle=>?_;refine Zdz (h:=?_);exact⟨p,rfl,hv.le hle⟩
 ·rw[na rfl];refine yo Tryz.func178 Z Tryz.ntmps178 (np Z) hB ((ZaU∘Zdm∘Zbz) ?_);(refine bu 2 rfl ?_;intro b2 hb2);refine(Z9∘Zdd∘Z1∘ZdA) ?_;refine z7 (xl L rfl rfl (zp rfl) rfl rfl rfl DropS.mono (fun u H hH hle _=>hD u H hH hle)) rfl ((Zk∘ZcB∘Zce∘ZP∘ZbT∘Z3∘Zy∘Zk) ?_);refine ff 16 rfl ?_;intro p16 H16 hs16 hp16;obtain⟨q16,rfl⟩:=TA.ptr hp16;refine(Zz∘ZcN∘Zg∘Zs∘Zdd∘Zab) ?_;refine yl L (rs:=[.cell 4 87]) Z (fun _ _ h=>h) hs16 fun u H hH hle=>?_;refine Zdz (h:=?_);exact⟨q16,rfl,hp16.le hle⟩
def zmu:Option VT->List Value
 | some x=>[vv x,.bool true]
 | none=>[.agg #[],.bool false]
def zhp{c:KT->KT->Int}(hc:Cmp cf c)(k:KT)(hB:zry B w)(hv:TA t root B):
  Ret zrz 176 [mv cf root,kv k] w B (fun v _=>v=tup (zmu (Tr.get c k t))):=by
 refine yo Tryz.func176 Z Tryz.ntmps176 (np Z) hB ((ZaI∘ZC∘ZaH∘Z8∘Zc∘Zaz) ?_)
 refine xq (fun s:Tr KT VT×Value=>[(3,.sat (At [.string k.1.1.1,.string k.1.1.2,.string k.1.2,.string k.2.1.1,.string k.2.1.2,.string k.2.2] 34 0)),(4,.own (gm [] 195)),(2,.sat (At [.func (.func cf) #[] #[],root] 87 0)),(6,.is s.2)])
  (fun s=>TA s.1 s.2 B/\Tr.get c k s.1=Tr.get c k t) (fun s=>s.1.size) (t,root) ⟨hv,rfl⟩ (by repeat (first | exact trivial | refine⟨rfl,?_⟩)) ?_
 rintro⟨s,v⟩ ⟨hs,hg⟩;dsimp only at hs hg |-
 cases s with
 | nil=>
  obtain rfl:v=.pointer none:=hs;refine(Zd∘Zq∘ZeR∘ZaP∘ZE∘ZC∘Zg∘Zbf) ?_;refine z7 (qg L (vs:=[]) (qy Z) Z Z Z Z ⟨_,rfl⟩) Z (ZaV (h:=?_));refine yl1 L [.cell 4 195,.tmp 5] fun u H hH hle=>?_
  first | (rw[<-hg];rfl) | (refine l5 (qy rfl) rfl rfl ?_;rw[<-hg];rfl)
 | node nk nx l r=>
  obtain⟨b,lv,rv,rfl,hb,hl,hr⟩:=hs;by_cases h0:c k nk=0
  ·rw[Tr.get_eq h0] at hg;refine(Zd∘Zq∘ZeR∘Z3∘Zbm∘Zc0∘Zbp∘ZbO∘Zba∘Zal∘Zbc) ?_;refine z9 (qe L Z Z (zp Z) Z Z hc.fn (fun u H hH _ _=>hc.ret _ _ u H hH)) Z ((ZbC∘Zf∘ZB∘Zv∘Zr∘Zak∘Zaa) ?_);refine z7 (Tn E Z Z Z J) Z (z7 (Qt L Z Z Z Z) Z (ZaV (h:=?_)));refine yl1 L [.cell 4 195,.tmp 5] fun u H hH hle=>?_
   first | (rw[<-hg];rfl) | (refine l5 (qy rfl) rfl rfl ?_;rw[<-hg];rfl)
  ·by_cases h1:c k nk<0
   ·rw[Tr.get_lt h1] at hg;refine(Zd∘Zq∘ZeR∘Z3∘Zbm∘Zc0∘Zbp∘ZbO∘Zba∘Zal∘Zbc) ?_;refine z9 (qe L Z Z (zp Z) Z Z hc.fn (fun u H hH _ _=>hc.ret _ _ u H hH)) Z ((ZbC∘Zf∘ZB∘Zn∘Zo∘ZL∘Zbq∘Z5∘Zaa∘Zbt∘ZaB) ?_);exact yv (x:=(Tr.node nk nx l r,Value.pointer (some ⟨b,0,none⟩))) (l,lv) ⟨hl,hg⟩ (by simp only[Tr.size_node];omega) (by repeat (first | exact trivial | refine⟨rfl,?_⟩))
   ·rw[Tr.get_gt h0 h1] at hg;refine(Zd∘Zq∘ZeR∘Z3∘Zbm∘Zc0∘Zbp∘ZbO∘Zba∘Zal∘Zbc) ?_;refine z9 (qe L Z Z (zp Z) Z Z hc.fn (fun u H hH _ _=>hc.ret _ _ u H hH)) Z ((ZbC∘Zf∘ZB∘Zn∘Zo∘ZL∘Z6∘Za5∘ZaM∘Zaa∘Zbt∘ZaB) ?_);exact yv (x:=(Tr.node nk nx l r,Value.pointer (some ⟨b,0,none⟩))) (r,rv) ⟨hr,hg⟩ (by simp only[Tr.size_node];omega) (by repeat (first | exact trivial | refine⟨rfl,?_⟩))
def _root_.Zaq(t:Wr Y->A:=by intro h;refine z7 (qg L (vs:=[_,_,_,_,_,_]) (qy Z) Z Z Z Z ⟨_,rfl⟩) Z ?_;exact h.1)(h:Y):A:=t ⟨h⟩
def _root_.Zdi(t:Wr Y->A:=by intro h;refine z9 (Qu Z Z Z Z (nf I)) Z ?_;exact h.1)(h:Y):A:=t ⟨h⟩
def _root_.ZdS(t:Wr Y->A:=by intro h;refine z9 (Qu Z Z Z Z (ng I)) Z ?_;exact h.1)(h:Y):A:=t ⟨h⟩
def _root_.ZeS(t:Wr Y->A:=by intro h;refine qp (id:=6) [(60,[77])] kj J ?_;exact h.1)(h:Y):A:=t ⟨h⟩
def _root_.ZeT(t:Wr Y->A:=by intro h;refine z9 (u9 Z Z Z Z zl4 Z) Z ?_;exact h.1)(h:Y):A:=t ⟨h⟩
def encP(y:KT×VT):List Value:=[.agg (pl y.1 y.2).toArray]
def PairsAt(t:Tr KT VT)(a f e:Int):Value->Heap->Prop:=fun v H=>∃ b1 b2 b3 b4 root,v=.func (.func 287) #[] #[.pointer (some ⟨b1,0,none⟩),.pointer (some ⟨b2,0,none⟩),.pointer (some ⟨b3,0,none⟩),.pointer (some ⟨b4,0,none⟩)]/\
 H b1=some (.cells [root].toArray 85)/\H b2=some (.cells [.int .i64 a].toArray 3)/\H b3=some (.cells [.int .i64 f].toArray 3)/\H b4=some (.cells [.int .i64 e].toArray 3)/\TA t root H
def PairsAt.mono{a:Int}:Kn.mono (.sat (PairsAt t a f e)):=fun _ _ _ ⟨b1,b2,b3,b4,root,h0,h1,h2,h3,h4,h5⟩ hle=>⟨b1,b2,b3,b4,root,h0,hle _ _ h1,hle _ _ h2,hle _ _ h3,hle _ _ h4,h5.le hle⟩
def Dd(t:Tr KT VT)(a f e:Int)(hB:zry B w)(hv:TA t root B):
  Ret zrz 241 [root,.int .i64 a,.int .i64 f,.int .i64 e] w B (PairsAt t a f e):=by
 obtain⟨p,rfl⟩:=hv.ptr;refine yo Tryz.func241 Z Tryz.ntmps241 (np Z) hB ((ZaI∘Zdm∘Zdm∘Zc) ?_);refine Ek 4 rfl fun v1 H1 hs1 ⟨b1,e1,h1⟩=>?_;subst e1;refine Ek 5 rfl fun v2 H2 hs2 ⟨b2,e2,h2⟩=>?_;subst e2;refine Ek 6 rfl fun v3 H3 hs3 ⟨b3,e3,h3⟩=>?_;subst e3;refine Ek 7 rfl fun v4 H4 hs4 ⟨b4,e4,h4⟩=>?_;subst e4;refine(Z9∘ZaQ∘Ze) ?_;refine yl L (rs:=[.tmp 8]) Z (fun _ _ h=>h) (hs1.trans (hs2.trans (hs3.trans hs4))) fun u H hH hle=>?_;exact⟨b1,b2,b3,b4,_,rfl,hle _ _ (hs4.le _ _ (hs3.le _ _ (hs2.le _ _ h1))),hle _ _ (hs4.le _ _ (hs3.le _ _ h2)),hle _ _ (hs4.le _ _ h3),hle _ _ h4,(((hv.le hs1.le).le hs2.le).le (hs3.le.trans hs4.le)).le hle⟩
def Ap{l:List (KT×VT)}{x:List Value}{pre:wu}(h:pre++[x]<+:l.map encP):∃ y,x=encP y:=by
 have:x∈l.map encP:=h.subset (by simp);obtain⟨y,_,rfl⟩:=m7.1 this;exact⟨y,rfl⟩
abbrev F5:List Value->List Value
 | [.agg cs]=>cs.toList
 | _=>[]
set_option maxRecDepth 10000 in
def zdo:∀ (t:Tr KT VT) (a f e:Int) {b1 b2 b3 b4:Nat} {root:Value} {w:World} {B:Heap},0<=a->a+t.size<1099511627776->zry B w->
  B b1=some (.cells [root].toArray 85)->B b2=some (.cells [.int .i64 a].toArray 3)->B b3=some (.cells [.int .i64 f].toArray 3)->B b4=some (.cells [.int .i64 e].toArray 3)->TA t root B->
  zli zrz 287 [.pointer (some ⟨b1,0,none⟩),.pointer (some ⟨b2,0,none⟩),.pointer (some ⟨b3,0,none⟩),.pointer (some ⟨b4,0,none⟩)] w B ((Tr.prs t a f e).map encP):=by
 intro t
 induction t with
 | nil=>
  intro a f e b1 b2 b3 b4 root w B ha hsz hB g1 g2 g3 g4 hv ly zrt stop C hst hY hJ hC;obtain rfl:root=.pointer none:=hv;refine xh 77 (zrt []) Tryz.func287 Z Tryz.ntmps287 (np Z) hB hJ hC ((Z0∘Zam∘Zc7∘ZZ∘ZeT∘Zcd∘ZaA∘Zm∘Zcc∘Zc1∘ZaA∘ZaN) ?_);exact jk L 77 rfl (fun _ _ h=>h) nq Z Z
 | node k x l r ihl ihr=>
  intro a f e b1 b2 b3 b4 root w B ha hsz hB g1 g2 g3 g4 hv ly zrt stop C hst hY hJ hC;obtain⟨b,lv,rv,rfl,hb,hl,hr⟩:=hv;have hsn:(Tr.node k x l r).size=l.size+1+r.size:=rfl;rw[hsn] at hsz;refine xh 77 (zrt []) Tryz.func287 Z Tryz.ntmps287 (np Z) hB hJ hC ?_;by_cases h1:a+((Tr.node k x l r).size:Int)<=f
  ·have hx:Tr.prs (.node k x l r) a f e=[]:=na (.inl h1);refine(Z0∘Zam∘Zc7∘ZZ∘ZeT∘Zm∘ZZ∘ZZ∘Zcx∘ZZ∘Zdt∘ZZ∘Zdi∘ZaA∘Zm∘Zcc∘Zc1∘ZaA∘ZaN) ?_;exact jk L 77 rfl (fun _ _ h=>h) nq Z (by rw[hx];rfl)
  ·by_cases h2:a>=e
   ·have hx:Tr.prs (.node k x l r) a f e=[]:=na (.inr h2);refine(Z0∘Zam∘Zc7∘ZZ∘ZeT∘Zm∘ZZ∘ZZ∘Zcx∘ZZ∘Zdt∘ZZ∘ZdS∘ZaA∘Zm∘ZZ∘ZZ∘ZdO∘ZaA∘ZaN) ?_;exact jk L 77 rfl (fun _ _ h=>h) nq Z (by rw[hx];rfl)
   ·have hx:Tr.prs (.node k x l r) a f e=Tr.prs l a f e++((if a+(l.size:Int)>=f/\a+(l.size:Int)<e then [(k,x)] else [])++Tr.prs r (a+l.size+1) f e):=
     nc (by rintro(h | h);exact h1 h;exact h2 h)
    rw[hx] at hY |-;simp only[znp] at hY |-;refine(Z0∘Zam∘Zc7∘ZZ∘ZeT∘Zm∘ZZ∘ZZ∘Zcx∘ZZ∘Zdt∘ZZ∘ZdS∘ZaA∘Zm∘ZZ∘ZZ∘Zev∘Za4∘ZaL∘ZdQ∘ZZ∘ZZ∘Zcx∘ZZ) ?_;refine z91 L Z (fun u H hH hle=>UT.size_ret _ hH (UT.TA.le E hle)) ?_;refine(Zdt∘ZbC∘Zf∘Zc0∘ZZ∘Zcx∘ZZ∘ZZ∘ZZ∘ZZ) ?_;refine z9 (xl L Z Z (zp Z) Z Z Z PairsAt.mono (fun u H hH hle _=>Dd l a f e hH (TA.le hl hle))) Z ((ZaE∘Zaz) ?_);refine Ek 5 rfl fun v5 H5 hs5 ⟨b5,e5,g5⟩=>?_;subst e5;refine Ek 40 rfl fun v40 H40 hs40 ⟨c1,c2,c3,c4,r1,e40,d1,d2,d3,d4,d5⟩=>?_;subst e40;have hsB:=hs5.trans hs40;have gg5:=hs40.le _ _ g5
    refine dx L (gf:=287) (caps:=[.pointer (some ⟨c1,0,none⟩),.pointer (some ⟨c2,0,none⟩),.pointer (some ⟨c3,0,none⟩),.pointer (some ⟨c4,0,none⟩)])
     [(1,.pointer (some ⟨b1,0,none⟩)),(2,.pointer (some ⟨b2,0,none⟩)),(3,.pointer (some ⟨b3,0,none⟩)),(4,.pointer (some ⟨b4,0,none⟩)),(5,.pointer (some ⟨b5,0,none⟩)),(6,.int .i64 (a+l.size))]
     (fun pre=>[(77,(zrt pre).res)]) (fun pre x=>[(77,.own (zrt pre).res),(7,.own (gm (F5 x) 293)),(5,.is (.pointer (some ⟨b5,0,none⟩)))])
     ((Tr.prs l a f e).map encP) stop (fun _=>.ret) rfl rfl rfl ⟨rfl,rfl,rfl,rfl,rfl,rfl,rfl,nm⟩
     (fun pre p hp=>by simp only[mz] at hp;subst hp;exact nu _) hst (fun x hx=>by obtain⟨y,_,rfl⟩:=m7.1 hx;rfl) T
     (fun u H hH hle=>ihl a f e ha I hH (hle _ _ d1) (hle _ _ d2) (hle _ _ d3) (hle _ _ d4) (d5.le hle)) ?asg ?bd ?dn ?st
    case asg=>
     intro w1 Ln B' l' D' o pre x' hpre hstp hBB;obtain⟨y,rfl⟩:=Ap hpre;refine(Zs∘Zbw∘Zac) ?_;exact Uq nq ⟨Z,Z,Z,nm⟩
    case bd=>
     intro w1 Ln B' l' D' o pre x' hpre hstp hBB;obtain⟨y,rfl⟩:=Ap hpre;have q5:=hBB _ _ gg5;have hpre':=hpre.trans (List.prefix_append ((Tr.prs l a f e).map encP) (((if a+(l.size:Int)>=f/\a+(l.size:Int)<e then [(k,x)] else [])).map encP++(Tr.prs r (a+l.size+1) f e).map encP));cases hb':stop (pre++[encP y])
     ·refine(Zae∘ZT∘Zbt∘Zaq) ?_;refine qh (uz (gs:=77) hY hpre' hstp (nh Bool.not hb') Z Z Z Z Z) ((Zw∘Zas∘Zau) ?_);exact Ur nq hb' ⟨Z,nm⟩
     ·refine(Zae∘ZT∘Zbt∘Zaq) ?_;refine qh (uz (gs:=77) hY hpre' hstp (nh Bool.not hb') Z Z Z Z Z) ((Zw∘Z3) ?_);exact tu (aw (Kq nq hb' Z ⟨Z,nm⟩))
    case st=>
     intro l' D' o hstop;exact jk L 77 rfl (fun _ _ h=>h) hsB Z (by rw[E3 _ _ _ hstop hst])
    case dn=>
     intro l' D' o hgo;have htk:=Gh (stop:=stop) ((Tr.prs l a f e).map encP) [] hgo;simp only[mn] at htk;rw[htk] at hgo |-;have gg1:=hsB.le _ _ g1;have gg2:=hsB.le _ _ g2;have gg3:=hsB.le _ _ g3;have gg4:=hsB.le _ _ g4;have ggb:=hsB.le _ _ hb;have ggr:=TA.le hr hsB.le;refine Zau (h:=?_);refine ZbA (h:=?_)
     refine zbc (fun zrw:wu=>[(77,.own (zrt zrw).res),(1,.is (.pointer (some ⟨b1,0,none⟩))),(2,.is (.pointer (some ⟨b2,0,none⟩))),(3,.is (.pointer (some ⟨b3,0,none⟩))),(4,.is (.pointer (some ⟨b4,0,none⟩))),(5,.is (.pointer (some ⟨b5,0,none⟩))),(6,.is (.int .i64 (a+l.size)))])
      (fun zrw=>stop zrw=false/\jm stop [] zrw=zrw/\zrw++(Tr.prs r (a+l.size+1) f e).map encP=(Tr.prs l a f e).map encP++(((if a+(l.size:Int)>=f/\a+(l.size:Int)<e then [(k,x)] else [])).map encP++(Tr.prs r (a+l.size+1) f e).map encP)) ?one ?two
     case one=>
      by_cases hy1:a+(l.size:Int)>=f
      ·by_cases hy2:a+(l.size:Int)<e
       ·rw[na ⟨hy1,hy2⟩] at hY |-;have hpre:(Tr.prs l a f e).map encP++[encP (k,x)]<+:(Tr.prs l a f e).map encP++([(k,x)].map encP++(Tr.prs r (a+l.size+1) f e).map encP):=⟨(Tr.prs r (a+l.size+1) f e).map encP,by simp⟩
        cases hb':stop ((Tr.prs l a f e).map encP++[encP (k,x)])
        ·refine(Zf∘ZeS∘Zm∘ZZ∘ZdO∘Zt∘ZZ∘ZcR∘ZaA∘Zm∘ZZ∘ZZ∘Zcx∘Zbc) ?_;refine xx (uz (gs:=77) hY hpre hgo (nh Bool.not hb') Z Z Z Z Z) Z Z ((Zbl∘Za4∘Zdw) ?_);refine zic ((Tr.prs l a f e).map encP++[encP (k,x)]) nq ⟨hb',?_,by simp⟩ ⟨Z,Z,Z,Z,Z,Z,Z,nm⟩;rw[ii _ _ _ (by rw[htk];exact hgo),mn];simp only[jm];split<;>rfl
        ·refine(Zf∘ZeS∘Zm∘ZZ∘ZdO∘Zt∘ZZ∘ZcR∘ZaA∘Zm∘ZZ∘ZZ∘Zcx∘Zbc) ?_;refine xx (uz (gs:=77) hY hpre hgo (nh Bool.not hb') Z Z Z Z Z) Z Z ((Zbl∘ZaA∘ZaN) ?_);refine jk L 77 rfl (fun _ _ h=>h) hsB Z ?_;rw[ii _ _ _ (by rw[htk];exact hgo),mn];simp only[mq,znv,znt,jm];rw[na hb']
       ·rw[nc (by rintro⟨_,h⟩;exact hy2 h)];refine(Zf∘ZeS∘Zm∘ZZ∘ZdO∘Zt∘ZZ∘Zdn∘ZaA∘Zfu∘Zcc∘Zc1∘Za4∘Zdw) ?_;exact zic ((Tr.prs l a f e).map encP) nq ⟨hgo,htk,by simp⟩ ⟨Z,Z,Z,Z,Z,Z,Z,nm⟩
      ·rw[nc (by rintro⟨h,_⟩;exact hy1 h)];refine(Zf∘ZeS∘Zm∘ZZ∘Zev∘Zm∘Zcc∘Zc1∘ZaA∘Zfu∘Zcc∘Zc1∘Za4∘Zdw) ?_;exact zic ((Tr.prs l a f e).map encP) nq ⟨hgo,htk,by simp⟩ ⟨Z,Z,Z,Z,Z,Z,Z,nm⟩
     case two=>
      rintro zrw ⟨hM1,hM2,hM3⟩;rw[<-hM3] at hY |-;refine(Zf∘Zex∘ZZ∘Zcx∘ZZ∘Zm∘Zdt∘ZZ∘ZZ) ?_;refine z9 (xl L Z Z (zp Z) Z Z Z PairsAt.mono (fun u H hH hle _=>Dd r (a+l.size+1) f e hH (TA.le ggr hle))) Z ((ZaE∘Zaz) ?_);refine Ek 71 rfl fun v71 H71 hs71 ⟨c1,c2,c3,c4,r1,e71,d1,d2,d3,d4,d5⟩=>?_;subst e71;have qq5:=hs71.le _ _ gg5
      have htot:jm stop [] (zrw++(Tr.prs r (a+l.size+1) f e).map encP)=zrw++jm (fun p=>stop (zrw++p)) [] ((Tr.prs r (a+l.size+1) f e).map encP):=by
       rw[ii _ _ _ (by rw[hM2];exact hM1),Cq,mn,mp]
      refine dx L (gf:=287) (caps:=[.pointer (some ⟨c1,0,none⟩),.pointer (some ⟨c2,0,none⟩),.pointer (some ⟨c3,0,none⟩),.pointer (some ⟨c4,0,none⟩)])
       [(5,.pointer (some ⟨b5,0,none⟩))]
       (fun pre=>[(77,(zrt (zrw++pre)).res)]) (fun pre x=>[(77,.own (zrt (zrw++pre)).res),(8,.own (gm (F5 x) 293)),(5,.is (.pointer (some ⟨b5,0,none⟩)))])
       ((Tr.prs r (a+l.size+1) f e).map encP) (fun p=>stop (zrw++p)) (fun _=>.ret) rfl rfl rfl ⟨by rw[mp];rfl,rfl,nm⟩
       (fun pre p hp=>by simp only[mz] at hp;subst hp;exact nu _) (by show stop (zrw++[])=false;rw[mp];exact hM1) (fun x hx=>by obtain⟨y,_,rfl⟩:=m7.1 hx;rfl) T
       (fun u H hH hle=>ihr (a+l.size+1) f e I I hH (hle _ _ d1) (hle _ _ d2) (hle _ _ d3) (hle _ _ d4) (d5.le hle)) ?asg2 ?bd2 ?dn2 ?st2
      case asg2=>
       intro w1 Ln B' l' D' o pre x' hpre hstp hBB;obtain⟨y,rfl⟩:=Ap hpre;refine(Z7∘Zbw∘Zac) ?_;exact Uq nq ⟨Z,Z,Z,nm⟩
      case bd2=>
       intro w1 Ln B' l' D' o pre x' hpre hstp hBB;obtain⟨y,rfl⟩:=Ap hpre;have q5:=hBB _ _ qq5;have hpre':(zrw++pre)++[encP y]<+:zrw++(Tr.prs r (a+l.size+1) f e).map encP:=by rw[mo];exact(List.prefix_append_right_inj zrw).2 hpre
       cases hb':stop ((zrw++pre)++[encP y])
       ·refine(Zae∘ZE∘Zbt∘Zaq) ?_;refine qh (uz (gs:=77) hY hpre' hstp (nh Bool.not hb') Z Z Z Z Z) ((Zw∘Zas∘Zau) ?_);exact Ur nq (by rw[<-mo];exact hb') ⟨by rw[<-mo];rfl,nm⟩
       ·refine(Zae∘ZE∘Zbt∘Zaq) ?_;refine qh (uz (gs:=77) hY hpre' hstp (nh Bool.not hb') Z Z Z Z Z) ((Zw∘Z3) ?_);exact tu (aw (Kq nq (by rw[<-mo];exact hb') Z ⟨by rw[<-mo];rfl,nm⟩))
      case st2=>
       intro l' D' o hstop;exact jk L 77 rfl (fun _ _ h=>h) (hsB.trans hs71) Z (by rw[htot])
      case dn2=>
       intro l' D' o hgo2;refine Zau (h:=?_);exact xz L 77 rfl (fun _ _ h=>h) (hsB.trans hs71) Z (by rw[htot])
abbrev tyP:TypeId:=293
abbrev tyS:TypeId:=290
def flat(l:List (KT×VT)):List Value:=l.flatMap fun y=>pl y.1 y.2
abbrev PS(l:List (KT×VT))(fu:Bool):Value->Heap->Prop:=SlV tyP 6 (flat l) l.length fu
def Ui:∀ (pre:wu) (l:List (KT×VT)),pre<+:l.map encP->∃ m:List (KT×VT),pre=m.map encP/\m.length=pre.length/\pre.flatMap F5=flat m:=by
 intro pre l h;refine⟨l.take pre.length,?_,?_,?_⟩
 ·rw[zpe];exact(List.prefix_iff_eq_take.1 h)
 ·rw[mw];have:=h.length_le;simp only[mj] at this;omega
 ·conv=>lhs;rw[List.prefix_iff_eq_take.1 h,<-zpe]
  generalize l.take pre.length=m
  induction m with
  | nil=>rfl
  | cons y m ih=>simp only[mq,znz,flat] at ih |-;rw[ih];rfl
def N8(xs:wu):jm (fun _=>false) [] xs=xs:=by
 have:=Gh (stop:=fun _=>false) xs [] rfl;simpa using this
def zd2(l:List (KT×VT))(fu:Bool)(hB:zry B w)(hv:PS l fu v B):Ret zrz 239 [v] w B (PS l true):=by
 refine yo Tryz.func239 Z Tryz.ntmps239 (np Z) hB (jf 0 (PS l fu) Z nw hv ((Z4∘Zk∘Zl∘Zl∘ZdJ∘ZP∘Zp) ?_));refine yl1 L [.tmp 2] fun u H hH hle=>?_;exact fun v hv=>hv
def zef(l:List (KT×VT))(hl:l.length<1099511627776){x:Value}{gf:Nat}(hB:zry B w)(hx:(SlR tyP 6 0 []).P x B w C)(hC:ZCB C w B)
  (hfn:L.fn gf=some ()) (hit:∀ u H,zry H u->B.Le H->zli zrz gf caps u H (l.map encP)):
  RetL zrz 240 [x,.func (.func gf) #[] caps.toArray] w B C (fun v H _=>PS l false v H):=by
 refine Sa 0 (x:=x) (SlR tyP 6 0 []) Z Tryz.func240 Z Tryz.ntmps240 (np Z) hB hx hC ?_;refine Cf 0 13 _ Z SlR.shape fun y hy=>?_;obtain⟨p,c,rfl⟩:=hy;refine(ZaU∘ZaO∘Zdg) ?_;refine bu 2 rfl fun b2 hb2=>?_;refine Av 13 [] Z Z ?_
 refine dx L (gf:=gf) (caps:=caps) [(2,.pointer (some ⟨b2,0,none⟩))] (fun pre=>[(13,Uv b2 tyS (SlR tyP 6 pre.length (pre.flatMap F5)))])
  (fun pre x=>[(13,.own (Uv b2 tyS (SlR tyP 6 pre.length (pre.flatMap F5)))),(2,.is (.pointer (some ⟨b2,0,none⟩))),(5,.own (gm (F5 x) tyP))])
  (l.map encP) (fun _=>false) (fun _=>.ret) rfl rfl hfn ⟨rfl,rfl,nm⟩
  (fun pre p hp=>by simp only[mz] at hp;subst hp;exact nu _) rfl (fun x hx=>by obtain⟨y,_,rfl⟩:=m7.1 hx;rfl) T hit ?asg ?bd ?dn ?st
 case asg=>
  intro w1 Ln B' l' D' o pre x' hpre hstp hBB;obtain⟨y,rfl⟩:=Ap hpre;refine(ZS∘Zbw∘Zac) ?_;exact Uq nq ⟨Z,Z,Z,nm⟩
 case bd=>
  intro w1 Ln B' l' D' o pre x' hpre hstp hBB;obtain⟨y,rfl⟩:=Ap hpre;have hlen:=hpre.length_le;simp only[nr,mj,ma,m5] at hlen;refine Zaz (h:=?_);refine bp 13 _ Z SlR.shape fun z hz=>?_;obtain⟨p,c,rfl⟩:=hz;refine(Zy∘Zd0) ?_;refine un 8 13 rfl rfl ((Zaq∘ZR) ?_);refine qh (vj L rfl rfl rfl (oq rfl) rfl zkf rfl rfl I I) ?_;refine dc 11 13 _ rfl SlR.shape fun z hz=>?_;obtain⟨p',c',rfl⟩:=hz;refine(ZcN∘Zac∘Zau) ?_;refine Ax 13 [] Z Z (Ur nq Z ⟨?_,nm⟩);rw[znw,nr];rfl
 case st=>
  intro l' D' o h;cases h
 case dn=>
  intro l' D' o _;rw[N8];refine Zau (h:=?_);refine ZbA (h:=?_);refine bp 13 _ Z SlR.shape fun z hz=>?_;obtain⟨p,c,rfl⟩:=hz;refine(Zf∘Zs∘Zd0∘Ze) ?_;refine Km 4 13 rfl Z (fj 4 rfl ?_);refine Nn L (rs:=[.tmp 4]) Z (fun _ _ h=>h) nq fun O' u H hH hle=>?_;obtain⟨m,h1,h2,h3⟩:=Ui _ l (List.prefix_refl _)
  have hm:m=l:=by
   have:=List.map_inj_right (f:=encP) (fun a b h=>by
    simp only[encP,List.cons.injEq,Value.agg.injEq,and_true] at h;have h:=nh Array.toList h;simp at h
    first | exact Prod.ext h.1 h.2 | exact Prod.ext h.1 (Prod.ext (Prod.ext h.2.1 h.2.2.1) h.2.2.2) | exact Prod.ext (Prod.ext (Prod.ext h.1 h.2.1) h.2.2.1) h.2.2.2 | exact Prod.ext (Prod.ext (Prod.ext (Prod.ext h.1 h.2.1) h.2.2.1) (Prod.ext (Prod.ext h.2.2.2.1 h.2.2.2.2.1) h.2.2.2.2.2)) rfl) |>.1 h1
   exact this.symm
  subst hm;rw[h3];simp only[mj];exact fun v hv=>hv
def PS.mono{l:List (KT×VT)}:Kn.mono (.sat (PS l fu)):=nw
def Un{x v:Value}(hB:zry B w)(hx:(SlR tyP 6 0 []).P x B w C)(hC:ZCB C w B)(hv:PairsAt t 0 f e v B)(hs:t.size<1099511627776):
  RetL zrz 240 [x,v] w B C (fun v H _=>PS (Tr.prs t 0 f e) false v H):=by
 obtain⟨b1,b2,b3,b4,root,rfl,h1,h2,h3,h4,h5⟩:=hv;have hlen:=Tr.prs_length_le t 0 f e;exact zef (Tr.prs t 0 f e) I hB hx hC Z fun u H hH hle=>zdo t 0 f e (zo8 _) I hH (hle _ _ h1) (hle _ _ h2) (hle _ _ h3) (hle _ _ h4) (h5.le hle)
def Xb(t:Tr KT VT){a:Int}:(Tr.prs t a f e).length<=t.size:=Tr.prs_length_le t a f e
def rangeL(t:Tr KT VT)(f e:Int):List (KT×VT):=if max f 0>=min e t.size then [] else Tr.prs t 0 (max f 0) (min e t.size)
set_option maxRecDepth 10000 in
def Xa{fv:Value}(f e:Int)(hB:zry B w)(hv:TA t root B)(hs:t.size<1099511627776):
  Ret zrz 172 [.agg #[fv,root],.int .i64 f,.int .i64 e] w B (PS (rangeL t f e) true):=by
 refine yo Tryz.func172 Z Tryz.ntmps172 (np Z) hB ?_;unfold rangeL;by_cases h:max f 0>=min e t.size
 ·rw[na h];refine(Z0∘Zbk) ?_;refine z7 (i6 Z Z Z Z Z) Z ((Za∘Zd8) ?_);refine z71 L Z (fun u H hH hle=>len_ret hH (hv.le hle)) ?_;refine z7 (ze9 Z Z Z Z Z) Z ((Zb1∘ZaY∘ZbD∘Zr∘Zy∘Ze) ?_);refine yl1 L [.tmp 6] fun u H hH hle=>?_;exact(SlV.nil (e:=tyP))
 ·rw[nc h];have hlen:=Xb t (a:=0) (f:=max f 0) (e:=min e t.size);have e1:(if (0:Int)>f then 0 else f)=max f 0:=I;have e2:(if (t.size:Int)<e then (t.size:Int) else e)=min e t.size:=I;refine(Z0∘Zbk) ?_;refine z7 (i6 Z Z Z Z E) Z ((Za∘Zd8) ?_);refine z71 L Z (fun u H hH hle=>len_ret hH (hv.le hle)) ?_;refine z7 (ze9 Z Z Z Z E) Z ((Zb1∘ZaY∘Zaj∘Zo) ?_);obtain⟨m,hm⟩:∃ m:Nat,min e (t.size:Int)-max f 0=m:=⟨(min e (t.size:Int)-max f 0).toNat,by omega⟩
  refine qp (id:=4) [(25,[19])] kj J (Zt (h:=?_));refine z9 (x8 Z Z Z Z (xd I I)) Z (z9 (zcw L _ Z Z Z zkf Z Z E I (by simp only[maxLen];omega)) Z ?_);refine(Zbp∘Zt) ?_;refine z9 (xl L Z Z (zp Z) Z Z Z PairsAt.mono (fun u H hH hle _=>Dd t 0 (max f 0) (min e t.size) hH (TA.le hv hle))) Z (xx (zcz (q:=19) (cap:=[]) L Z Z Z Z Z PS.mono (fun u H C x hH hle hx hC v hv=>Un hH hx hC hv hs)) Z Z (z9 (xl L Z Z (zp Z) Z Z Z PS.mono (fun u H hH hle _ v hv=>zd2 _ _ hH hv)) Z ((Zc2∘ZaE) ?_)));refine yl1 L [.tmp 6] fun u H hH hle=>?_;exact fun v hv=>hv
end Go.V.UT
namespace Go.V.UT
abbrev MF(cf:Nat)(t:Tr KT VT):Value->Heap->Prop:=MA (.func (.func cf) #[] #[]) t
def mput_m{c:KT->KT->Int}(hc:Cmp cf c)(k:KT)(x:VT)(hB:zry B w)(hv:MF cf t v B)(hs:t.size+1<1099511627776):
  Ret zrz 179 [v,kv k,vv x] w B (MF cf (Tr.put c k x t)):=by
 obtain⟨p,rfl,h⟩:=hv;exact zc8 hc k x hB h hs
def mdrop_m{c:KT->KT->Int}(hc:Cmp cf c)(k:KT)(hB:zry B w)(hv:MF cf t v B)(hs:t.size<1099511627776):
  Ret zrz 178 [v,kv k] w B (MF cf (if (Tr.drop c k t).2=true then (Tr.drop c k t).1 else t)):=by
 obtain⟨p,rfl,h⟩:=hv;exact Yp hc k hB h hs
def len_m{fv:Value}{v:Value}(hB:zry B w)(hv:MA fv t v B)(hn:t.size=n):Ret zrz 103 [v] w B (fun v _=>v=.int .i64 n):=by
 obtain⟨p,rfl,h⟩:=hv;subst hn;exact len_ret hB h
def get_m{c:KT->KT->Int}(hc:Cmp cf c)(k:KT){v:Value}(hB:zry B w)(hv:MF cf t v B){o:Option VT}(ho:Tr.get c k t=o):
  Ret zrz 176 [v,kv k] w B (fun v _=>v=tup (zmu o)):=by
 obtain⟨p,rfl,h⟩:=hv;subst ho;exact zhp hc k hB h
def range_m{fv:Value}(f e:Int)(hB:zry B w)(hv:MA fv t v B)(hs:t.size<1099511627776){l:List (KT×VT)}(hl:rangeL t f e=l):
  Ret zrz 172 [v,.int .i64 f,.int .i64 e] w B (PS l true):=by
 obtain⟨p,rfl,h⟩:=hv;subst hl;exact Xa f e hB h hs
end Go.V.UT
namespace Go.V.L6
open Go.V.L2 Go.V.L3
def _root_.ZeU(t:Wr Y->A:=by intro h;refine z7 (yz (cs:=[_,_]) Z Z zm4 Z Z) Z ?_;exact h.1)(h:Y):A:=t ⟨h⟩
def _root_.Zcj(t:Wr Y->A:=by exact fun h=>(ZaD∘ZdA) h.1)(h:Y):A:=t ⟨h⟩
abbrev fvC:Value:=.func (.func 101) #[] #[]
abbrev fvS:Value:=.func (.func 109) #[] #[]
abbrev K6:TypeId:=91
abbrev chv(x:U)(d:Bool):Value:=.agg #[.string x.1.1.1,.string x.1.1.2,.string x.1.2,.string x.2.1.1,.string x.2.1.2,.string x.2.2,.bool d]
attribute [local irreducible] V N X VO Par StepOK Has Ret RetL RetO Src
def zb6{a b:U}(hB:zry B w):Ret zrz 109 [uv a,uv b] w B (fun v _=>v=.int .i64 (Nt a b)):=by
 refine yo Tryz.func109 Z Tryz.ntmps109 (np Z) hB ((ZaI∘Zc∘Zc7∘Zbo∘Zds∘Zbo∘Zds) ?_);refine z91 L Z (fun u H hH _=>cmpU_ret hH) ?_;refine(Zbo∘Zds∘Zbo∘Zds) ?_;refine z91 L Z (fun u H hH _=>Ka hH) ?_;refine Zer (h:=?_);refine z9 (qe L Z Z (zp Z) Z Z Z (fun u H hH _ _ v hv=>G4 hH hv)) Z (Zav (h:=?_));exact yl2 L [.tmp 4]
def zhy:UT.Cmp 101 jh:=⟨rfl,fun _ _ _ _ hH=>wv hH⟩
def zmc:UT.Cmp 109 Nt:=⟨rfl,fun _ _ _ _ hH=>zb6 hH⟩
def chT(c:U->U->Int)(x:U)(d:Bool)(t:Tr U Unit):Tr U Unit:=if d=true then (if (Tr.drop c x t).2=true then (Tr.drop c x t).1 else t) else Tr.put c x () t
def F4{c:U->U->Int}(hc:UT.Cmp cf c){f:Value}{t:Tr U Unit}(hf:f=.func (.func cf) #[] #[]\/(f=.nilFunc/\t=.nil))(x:U)(d:Bool)(hB:zry B w)(ht:UT.TA t (.pointer p) B)(hs:t.size+1<1099511627776):
  Ret zrz 108 [.agg #[f,.pointer p],chv x d,.func (.func cf) #[] #[]] w B (UT.MF cf (chT c x d t)):=by
 by_cases h0:t.size=0
 ·have hn:t=.nil:=by
   cases t with
   | nil=>rfl
   | node k y l r=>simp only[Tr.size] at h0;omega
  subst hn;have hz:UT.TA .nil (.pointer none) B:=rfl;refine yo Tryz.func108 Z Tryz.ntmps108 (np Z) hB ?_;unfold chT;cases d
  ·refine ZaU (h:=?_);refine P9 3 rfl fun b hb=>?_;refine(Zdm∘Zbz∘Z9∘Zz∘Zdd) ?_;refine z71 L rfl (fun u H hH hle=>UT.len_m hH (⟨_,rfl,ht.le hle⟩) h0) ?_;refine(Zv∘Z3∘Zq) ?_;refine z71 L rfl (fun u H hH _=>UT.new_ret _ hH) ?_;refine(Zz∘ZcN∘Zam∘Zy∘Z8∘Zo∘ZT∘Zz∘Zdd∘Zcj) ?_;refine z7 (yz (cs:=[]) rfl rfl zjf rfl rfl) rfl (z7 (xl (φ:=UT.MF cf (Tr.put c x () .nil)) L rfl rfl (zp rfl) rfl rfl rfl UT.MA.mono (fun u H hH hle _=>UT.mput_m hc x () hH (⟨_,rfl,hz.le hle⟩) hs)) rfl (ff 27 rfl ?_));rintro _ H27 hs27 ⟨q27,rfl,hp27⟩;refine(ZeU∘Zab) ?_;refine yl L (rs:=[.cell 6 89]) Z (fun _ _ h=>h) hs27 fun u H hH hle=>?_;exact⟨_,qy Z,rfl,q27,rfl,hp27.le hle⟩
  ·refine ZaU (h:=?_);refine P9 3 rfl fun b hb=>?_;refine(Zdm∘Zbz∘Z9∘Zz∘Zdd) ?_;refine z71 L rfl (fun u H hH hle=>UT.len_m hH (⟨_,rfl,ht.le hle⟩) h0) ?_;refine(Zv∘Z3∘Zq) ?_;refine z71 L rfl (fun u H hH _=>UT.new_ret _ hH) ?_;refine(Zz∘ZcN∘Zam∘Zy∘Z8∘Zr∘Zs∘Zz∘Zdd∘Zcj) ?_;refine z7 (xl (φ:=UT.MF cf (if (Tr.drop c x .nil).2=true then (Tr.drop c x .nil).1 else .nil)) L rfl rfl (zp rfl) rfl rfl rfl UT.MA.mono (fun u H hH hle _=>UT.mdrop_m hc x hH (⟨_,rfl,hz.le hle⟩) I)) rfl (ff 20 rfl ?_);rintro _ H20 hs20 ⟨q20,rfl,hp20⟩;refine(ZeU∘Zab) ?_;refine yl L (rs:=[.cell 6 89]) Z (fun _ _ h=>h) hs20 fun u H hH hle=>?_;exact⟨_,qy Z,rfl,q20,rfl,hp20.le hle⟩
 ·obtain rfl:f=.func (.func cf) #[] #[]:=by
   rcases hf with h | ⟨_,h⟩
   ·exact h
   ·subst h;exact ni rfl h0
  refine yo Tryz.func108 Z Tryz.ntmps108 (np Z) hB ?_;unfold chT;cases d
  ·refine ZaU (h:=?_);refine P9 3 rfl fun b hb=>?_;refine(Zdm∘Zbz∘Z9∘Zz∘Zdd) ?_;refine z71 L rfl (fun u H hH hle=>UT.len_m hH (⟨_,rfl,ht.le hle⟩) rfl) ?_;refine(Zn∘ZV∘Zy∘Z8∘Zo∘ZT∘Zz∘Zdd∘Zcj) ?_;refine z7 (yz (cs:=[]) rfl rfl zjf rfl rfl) rfl (z7 (xl (φ:=UT.MF cf (Tr.put c x () t)) L rfl rfl (zp rfl) rfl rfl rfl UT.MA.mono (fun u H hH hle _=>UT.mput_m hc x () hH (⟨_,rfl,ht.le hle⟩) hs)) rfl (ff 27 rfl ?_));rintro _ H27 hs27 ⟨q27,rfl,hp27⟩;refine(ZeU∘Zab) ?_;refine yl L (rs:=[.cell 6 89]) Z (fun _ _ h=>h) hs27 fun u H hH hle=>?_;exact⟨_,qy Z,rfl,q27,rfl,hp27.le hle⟩
  ·refine ZaU (h:=?_);refine P9 3 rfl fun b hb=>?_;refine(Zdm∘Zbz∘Z9∘Zz∘Zdd) ?_;refine z71 L rfl (fun u H hH hle=>UT.len_m hH (⟨_,rfl,ht.le hle⟩) rfl) ?_;refine(Zn∘ZV∘Zy∘Z8∘Zr∘Zs∘Zz∘Zdd∘Zcj) ?_;refine z7 (xl (φ:=UT.MF cf (if (Tr.drop c x t).2=true then (Tr.drop c x t).1 else t)) L rfl rfl (zp rfl) rfl rfl rfl UT.MA.mono (fun u H hH hle _=>UT.mdrop_m hc x hH (⟨_,rfl,ht.le hle⟩) I)) rfl (ff 20 rfl ?_);rintro _ H20 hs20 ⟨q20,rfl,hp20⟩;refine(ZeU∘Zab) ?_;refine yl L (rs:=[.cell 6 89]) Z (fun _ _ h=>h) hs20 fun u H hH hle=>?_;exact⟨_,qy Z,rfl,q20,rfl,hp20.le hle⟩
end Go.V.L6
namespace Go.V.L3
open Go.V Go.V.L2
abbrev fv(f:FT):Value:=.agg #[.string f.1.1.1,.string f.1.1.2,.string f.1.2,.string f.2.1.1.1,.string f.2.1.1.2,.string f.2.1.2,.bool f.2.2]
def FZ(f:FT):Prop:=(f.1.1.1.size<=1099511627776/\f.1.1.2.size<=1099511627776/\f.1.2.size<=1099511627776)/\f.2.1.1.1.size<=1099511627776/\f.2.1.1.2.size<=1099511627776/\f.2.1.2.size<=1099511627776
instance (f:FT):Decidable (FZ f):=inferInstanceAs (Decidable (_/\_))
attribute [local irreducible] V N X VO Par StepOK Has Ret RetL RetO RetT Src
end Go.V.L3
section
open Go.V
attribute [local irreducible] Has N Par Ret RetL Src StepOK V VO X
namespace Go.V.L3
open Go.V.L2
attribute [local irreducible] RetO RetT
def LE2.mk{a tv:Value}(h:φ tv H):TupS [φ,fun v _=>v=a] (.tuple #[tv,a]) H:=
 ⟨[tv,a],rfl,rfl,fun i ψ x hi hx=>by
  rcases i with _ | _ | i
  ·simp at hi hx;subst hi hx;exact h
  ·simp at hi hx;subst hi hx;rfl
  ·simp at hi⟩
def LE2.mono{φ:Value->Heap->Prop}{a:Value}(h:Kn.mono (.sat φ)):Kn.mono (.sat (TupS [φ,fun v _=>v=a])):=TupS.mono fun ψ hψ=>by
 rcases nz.1 hψ with rfl | hψ
 ·exact h
 ·rw[mz] at hψ;subst hψ;exact fun _ _ _ h _=>h
end Go.V.L3
namespace Go.V.L6
open Go.V.L2 Go.V.L3
def _root_.Zde(t:Wr Y->A:=by intro h;refine z7 (qg L (vs:=[_,_,_,_]) (ye Z) Z Z Z Z ⟨_,rfl⟩) Z ?_;exact h.1)(h:Y):A:=t ⟨h⟩
def _root_.ZcO(t:Wr Y->A:=by intro h;refine z7 (qt L Z Z E Z) Z ?_;exact h.1)(h:Y):A:=t ⟨h⟩
def _root_.Zd1(t:Wr Y->A:=by intro h;refine z7 (yz (cs:=[_,_,_,_]) Z Z zlt Z Z) Z ?_;exact h.1)(h:Y):A:=t ⟨h⟩
def _root_.ZdT(t:Wr Y->A:=by intro h;refine z9 (qg L (vs:=[_,_,_,_]) (ye Z) Z Z Z Z ⟨_,rfl⟩) Z ?_;exact h.1)(h:Y):A:=t ⟨h⟩
def _root_.ZeV(t:Wr Y->A:=by intro h;refine z9 (qg L (vs:=[_,_,_,_,_,_,_]) (ye Z) Z Z Z Z ⟨_,rfl⟩) Z ?_;exact h.1)(h:Y):A:=t ⟨h⟩
def _root_.ZeW(t:Wr Y->A:=by intro h;refine z9 (Xz Z Z Z Z bt4 Z) Z ?_;exact h.1)(h:Y):A:=t ⟨h⟩
def SetV(l:List U):Value->Heap->Prop:=fun v H=>∃ p q t u,TS l t u/\UT.TA t (.pointer p) H/\UT.TA u (.pointer q) H/\
 (v=.agg #[fvC,.pointer p,fvS,.pointer q]\/(l=[]/\p=none/\q=none/\v=.agg #[.nilFunc,.pointer p,.nilFunc,.pointer q]))
def SetV.mono:Kn.mono (.sat (SetV l)):=fun _ _ _ ⟨p,q,t,u,h1,h2,h3,h4⟩ hle=>⟨p,q,t,u,h1,h2.le hle,h3.le hle,h4⟩
def SetV.le{H':Heap}(h:SetV l v H)(hle:H.Le H'):SetV l v H':=SetV.mono _ _ _ h hle
def SetV.shape(h:SetV l v H):∃ f p k q,v=.agg #[f,.pointer p,k,.pointer q]/\(k9 (.agg #[f,.pointer p,k,.pointer q])).all ue=true:=by
 obtain⟨p,q,_,_,_,_,_,h | ⟨_,_,_,h⟩⟩:=h
 ·exact⟨_,_,_,_,h,rfl⟩
 ·exact⟨_,_,_,_,h,rfl⟩
abbrev nilSet:Value:=.agg #[.nilFunc,.pointer none,.nilFunc,.pointer none]
def SetV.nil{H:Heap}:SetV [] nilSet H:=⟨none,none,.nil,.nil,ziz,rfl,rfl,.inr ⟨rfl,rfl,rfl,rfl⟩⟩
attribute [local irreducible] RetO
def f8(hn:l.length=n){v:Value}(hB:zry B w)(hv:SetV l v B):Ret zrz 36 [v] w B (fun v _=>v=.int .i64 n):=by
 subst hn;obtain⟨p,q,t,u,hT,ht,hu,rfl | ⟨rfl,rfl,rfl,rfl⟩⟩:=hv
 ·refine yo Tryz.func36 Z Tryz.ntmps36 (np Z) hB ((Z0∘ZaH∘ZaD∘Zcv) ?_);refine z71 L Z (fun u H hH hle=>UT.len_m hH (⟨_,rfl,ht.le hle⟩) hT.size) ?_;refine Ze (h:=?_);exact yl2 L [.tmp 2]
 ·refine yo Tryz.func36 Z Tryz.ntmps36 (np Z) hB ((Z0∘ZaH∘ZaD∘Zcv) ?_);refine z71 L Z (fun u H hH hle=>UT.len_m hH (⟨_,rfl,ht.le hle⟩) hT.size) ?_;refine Ze (h:=?_);exact yl2 L [.tmp 2]
def js{b:Bool}(hb:decide (x∈l)=b){v:Value}(hB:zry B w)(hv:SetV l v B):Ret zrz 107 [v,uv x] w B (fun v _=>v=.bool b):=by
 have hv0:=hv;obtain⟨p,q,t,u,hT,ht,hu,rfl | ⟨rfl,rfl,rfl,rfl⟩⟩:=hv
 ·have hg:=hT.get x;refine yo Tryz.func107 Z Tryz.ntmps107 (np Z) hB ?_;by_cases h0:l.length=0
  ·have hn:l=[]:=m8 h0;subst hn;have hb':b=false:=by rw[<-hb];simp
   subst hb';refine(ZaI∘ZM∘Zde) ?_;refine z71 L Z (fun u H hH hle=>f8 Z hH (hv0.le hle)) ?_;refine(Zv∘Zbd∘Ze) ?_;exact yl2 L [.tmp 4]
  ·cases b
   ·have hx:x∉l:=by simpa using hb
    rw[nc hx] at hg;refine(ZaI∘ZM∘Zde) ?_;refine z71 L Z (fun u H hH hle=>f8 Z hH (hv0.le hle)) ?_;refine(Zn∘Zo∘Zy∘ZaD∘Zcv∘ZdA) ?_;refine z71 L Z (fun u H hH hle=>UT.get_m zhy x hH (⟨_,rfl,ht.le hle⟩) hg) ?_;refine(Zcp∘Zc∘ZB∘Ze) ?_;exact yl2 L [.tmp 4]
   ·have hx:x∈l:=by simpa using hb
    rw[na hx] at hg;refine(ZaI∘ZM∘Zde) ?_;refine z71 L Z (fun u H hH hle=>f8 Z hH (hv0.le hle)) ?_;refine(Zn∘Zo∘Zy∘ZaD∘Zcv∘ZdA) ?_;refine z71 L Z (fun u H hH hle=>UT.get_m zhy x hH (⟨_,rfl,ht.le hle⟩) hg) ?_;refine(Zcp∘Zc∘ZB∘Ze) ?_;exact yl2 L [.tmp 4]
 ·have hb':b=false:=by rw[<-hb];simp
  subst hb';refine yo Tryz.func107 Z Tryz.ntmps107 (np Z) hB ((ZaI∘ZM∘Zde) ?_);refine z71 L Z (fun u H hH hle=>f8 Z hH (hv0.le hle)) ?_;refine z7 (ym Z Z Z Z Z) Z ((Zbd∘Ze) ?_);exact yl2 L [.tmp 4]
def scs(x:Value×Option Addr×Value×Option Addr):List Value:=[x.1,.pointer x.2.1,x.2.2.1,.pointer x.2.2.2]
abbrev SXp:={ x:Value×Option Addr×Value×Option Addr//(scs x).all ue=true }
abbrev Gp(l:List U)(x:SXp)(H:Heap):Prop:=SetV l (.agg (scs x.1).toArray) H
def jp(l:List U):az (Gp l):=fun _ _ _ h hle=>SetV.le h hle
def Lq(v:Value)(H:Heap)(h:SetV l v H):∃ x:SXp,Gp l x H/\k9 v=scs x.1:=by
 obtain⟨f,p,k,q,rfl,hp⟩:=h.shape;exact⟨⟨(f,p,k,q),hp⟩,h,rfl⟩
abbrev zmg(l:List U)(e:Int):Value->Heap->Prop:=TupS [SetV l,fun v _=>v=.int .i64 e]
def mf4{cg:Nat}{t u:Tr U Unit}{v1 v2:Value}(h1:UT.MF cf t v1 H)(h2:UT.MF cg u v2 H):∃ p q,v1=.agg #[.func (.func cf) #[] #[],.pointer p]/\v2=.agg #[.func (.func cg) #[] #[],.pointer q]/\UT.TA t (.pointer p) H/\UT.TA u (.pointer q) H:=by
 obtain⟨p,e1,h1⟩:=h1;obtain⟨q,e2,h2⟩:=h2;exact⟨p,q,e1,e2,h1,h2⟩
def zlo{t u:Tr U Unit}(h:TS l t u)(hx:decide (x∈l)=d)(hc:d=false->l.length<4096)(he:tE x=0):TS (vg l x d).1 (chT jh x d t) (chT Nt x d u)/\(vg l x d).2=0:=by
 unfold vg chT;rw[na he];cases d
 ·have hx':x∉l:=by simpa using hx
  rw[nc T,nc hx',nc (by have:=hc rfl;omega),nc T,nc T];exact⟨h.put hx',rfl⟩
 ·have hx':x∈l:=by simpa using hx
  rw[na rfl,na rfl,na rfl];exact⟨h.drop hx',rfl⟩
def zbr{m:List U}(hr:vg l x d=(m,e))(hl:l.length<=4096)(hz:TZ x)(hB:zry B w)(hv:SetV l v B):
  Ret zrz 40 [v,chv x d] w B (zmg m e):=by
 obtain⟨f1,p1,f2,q1,hsh,hpl⟩:=hv.shape;by_cases he:tE x=0
 ·obtain⟨hin,hin0⟩:∃ b,decide (x∈l)=b:=⟨_,rfl⟩
  by_cases hd:hin=d
  ·subst hd;by_cases hfull:hin=false/\l.length=4096
   ·obtain⟨rfl,hlen⟩:=hfull
    have hw:vg l x false=([],3):=by
     unfold vg;rw[na he,nc T,nc (by simpa using hin0),na I]
    rw[hw] at hr;cases hr;subst hsh;refine yo Tryz.func40 Z Tryz.ntmps40 (np Z) hB ((ZaI∘ZC∘ZM∘Zcj) ?_);refine z71 L Z (fun u H hH _=>he ▸ kx hz hH) ?_;refine(ZbT∘Zch∘Zdb∘ZdT∘Zbo∘ZbO) ?_;refine z91 L Z (fun u H hH hle=>js hin0 hH (hv.le hle)) ?_;refine(Zbp∘ZeW∘Zbg∘ZaL∘Zb5∘Z8∘Zw∘Za∘Zde) ?_;refine z71 L Z (fun u H hH hle=>f8 hlen hH (hv.le hle)) ?_;refine(Zv∘Zcs∘ZU∘Zd1∘ZaV) ?_;refine yl1 L [.cell 4 91,.tmp 5] fun u H hH hle=>?_;exact⟨_,qy Z,rfl,LE2.mk SetV.nil⟩
   ·have hc:hin=false->l.length<4096:=fun h=>by
     rcases zni l.length 4096 with h' | h'
     ·exact h'
     ·exact ni ⟨h,by omega⟩ hfull
    obtain⟨p,q,t,u,hT,ht,hu,hv1⟩:=id hv;have hch:=zlo hT hin0 hc he;rw[hr] at hch;obtain⟨hT',rfl⟩:=hch;have hts:=hT.size;have hus:=hT.zu
    have hf1:p1=p/\q1=q/\(f1=fvC\/(f1=.nilFunc/\t=.nil))/\(f2=fvS\/(f2=.nilFunc/\u=.nil)):=by
     rcases hv1 with h | ⟨h0,rfl,rfl,h⟩
     ·rw[hsh] at h;cases h;exact⟨rfl,rfl,.inl rfl,.inl rfl⟩
     ·rw[hsh] at h;cases h;subst h0
      have key:∀ {s:Tr U Unit},s.size=0->s=.nil:=fun {s} hs=>by
       cases s with
       | nil=>rfl
       | node k y l r=>simp only[Tr.size] at hs;omega
      exact⟨rfl,rfl,.inr ⟨rfl,key hts⟩,.inr ⟨rfl,key hus⟩⟩
    obtain⟨rfl,rfl,hf1,hf2⟩:=hf1;subst hsh;have hchg1:=fun(u1:World) (H:Heap) (hH:zry H u1) (hle:B.Le H)=>F4 zhy hf1 x hin hH (ht.le hle) I;have hchg2:=fun(u1:World) (H:Heap) (hH:zry H u1) (hle:B.Le H)=>F4 zmc hf2 x hin hH (hu.le hle) I;cases hin
    ·have hlen:=hc rfl;refine yo Tryz.func40 Z Tryz.ntmps40 (np Z) hB ((ZaI∘ZC∘ZM∘Zcj) ?_);refine z71 L rfl (fun u H hH _=>he ▸ kx hz hH) ?_;refine(ZbT∘Zch∘Zdb∘ZdT∘Zbo∘ZbO) ?_;refine z91 L rfl (fun u H hH hle=>js hin0 hH (hv.le hle)) ?_;refine(Zbp∘ZeW∘Zbg∘ZaL∘Zb5∘Z8∘Zw∘Za∘Zde) ?_;refine z71 L rfl (fun u H hH hle=>f8 rfl hH (hv.le hle)) ?_;refine(Zn∘ZaT∘ZcV∘Zbo∘ZcS∘ZeV) ?_;refine z9 (xl (φ:=UT.MF 101 (chT jh x false t)) L rfl rfl (zp rfl) rfl rfl rfl UT.MA.mono (fun u H hH hle _=>hchg1 u H hH hle)) rfl ((Zbo∘ZcS∘ZeV) ?_);refine z9 (xl (φ:=UT.MF 109 (chT Nt x false u)) L rfl rfl (zp rfl) rfl rfl rfl UT.MA.mono (fun u H hH hle _=>hchg2 u H hH hle)) rfl (z9 (Mj (ψ:=SetV m) rfl rfl zlt SetV.mono (fun H _ v1 h1 v2 h2=>by obtain⟨p,q,rfl,rfl,k1,k2⟩:=mf4 h1 h2;exact⟨_,rfl,p,q,_,_,hT',k1,k2,.inl rfl⟩)) rfl ?_);refine z9 (cw L (X:=SXp) (fun x=>scs x.1) (Gp m) (jp m) Lq (fun x=>⟨rfl,x.2⟩) rfl rfl rfl rfl rfl) rfl (Zav (h:=?_));refine uu 4 rfl fun x4 H4 hs4 hx4=>?_;refine yl L (rs:=[.cell 4 91,.tmp 5]) Z (fun _ _ h=>h) hs4 fun u H hH hle=>?_;exact⟨_,qy Z,rfl,LE2.mk (hx4.le hle)⟩
    ·refine yo Tryz.func40 Z Tryz.ntmps40 (np Z) hB ((ZaI∘ZC∘ZM∘Zcj) ?_);refine z71 L rfl (fun u H hH _=>he ▸ kx hz hH) ?_;refine(ZbT∘Zch∘Zdb∘ZdT∘Zbo∘ZbO) ?_;refine z91 L rfl (fun u H hH hle=>js hin0 hH (hv.le hle)) ?_;refine(Zbp∘ZeW∘Zbg∘ZaL∘Zb5∘Z8∘Zw∘Zbe∘Zo∘ZcV∘Zbo∘ZcS∘ZeV) ?_;refine z9 (xl (φ:=UT.MF 101 (chT jh x true t)) L rfl rfl (zp rfl) rfl rfl rfl UT.MA.mono (fun u H hH hle _=>hchg1 u H hH hle)) rfl ((Zbo∘ZcS∘ZeV) ?_);refine z9 (xl (φ:=UT.MF 109 (chT Nt x true u)) L rfl rfl (zp rfl) rfl rfl rfl UT.MA.mono (fun u H hH hle _=>hchg2 u H hH hle)) rfl (z9 (Mj (ψ:=SetV m) rfl rfl zlt SetV.mono (fun H _ v1 h1 v2 h2=>by obtain⟨p,q,rfl,rfl,k1,k2⟩:=mf4 h1 h2;exact⟨_,rfl,p,q,_,_,hT',k1,k2,.inl rfl⟩)) rfl ?_);refine z9 (cw L (X:=SXp) (fun x=>scs x.1) (Gp m) (jp m) Lq (fun x=>⟨rfl,x.2⟩) rfl rfl rfl rfl rfl) rfl (Zav (h:=?_));refine uu 4 rfl fun x4 H4 hs4 hx4=>?_;refine yl L (rs:=[.cell 4 91,.tmp 5]) Z (fun _ _ h=>h) hs4 fun u H hH hle=>?_;exact⟨_,qy Z,rfl,LE2.mk (hx4.le hle)⟩
  ·have hw:vg l x d=(l,0):=by
    unfold vg;rw[na he];cases d
    ·have:hin=true:=by cases hin;exact ni rfl hd;rfl
     subst this;rw[nc T,na (by simpa using hin0)]
    ·have:hin=false:=by cases hin;rfl;exact ni rfl hd
     subst this;rw[na rfl,Ue (by simpa using hin0)]
   rw[hw] at hr;cases hr;have hb:(hin == d)=false:=by cases hin<;>cases d<;>first | rfl | exact ni rfl hd
   subst hsh;refine yo Tryz.func40 Z Tryz.ntmps40 (np Z) hB ?_;have hb2:(!(hin == d))=true:=by rw[hb];rfl
   refine(ZaI∘ZC∘ZM∘Zcj) ?_;refine z71 L Z (fun u H hH _=>he ▸ kx hz hH) ?_;refine(ZbT∘Zch∘Zdb∘ZdT∘Zbo∘ZbO) ?_;refine z91 L Z (fun u H hH hle=>js hin0 hH (hv.le hle)) ?_;refine Zbp (h:=?_);refine z9 (Xz Z Z Z Z bt4 hb2) Z ((ZaN∘Zf∘ZT∘Zde∘ZcO∘Ze) ?_);refine yl1 L [.cell 4 91,.tmp 5] fun u H hH hle=>?_;exact⟨_,qy Z,rfl,LE2.mk (hv.le hle)⟩
 ·have hw:vg l x d=([],tE x):=nc he;rw[hw] at hr;cases hr;subst hsh;refine yo Tryz.func40 Z Tryz.ntmps40 (np Z) hB ((ZaI∘ZC∘ZM∘Zcj) ?_);refine z71 L Z (fun u H hH _=>kx hz hH) ?_;refine(ZbT∘ZY∘Zy∘Zd1∘Za∘ZaV) ?_;refine yl1 L [.cell 4 91,.tmp 5] fun u H hH hle=>?_;exact⟨_,qy Z,rfl,LE2.mk SetV.nil⟩
end Go.V.L6
namespace Go.V.L2
def t8:∀ (l:List U),(l.flatMap ucs).length=l.length*6
 | []=>rfl
 | y::l=>by rw[znz,nr,t8 l,Ck,ma];omega
def eb:∀ (l:List U),(l.flatMap ucs).all ue=true
 | []=>rfl
 | g::l=>by rw[znz,List.all_append,eb l];rfl
def U6{s:Nat}{x y:List U}(h:κ s=some (.own (SlR tyU 6 (x.length+y.length) (x.flatMap ucs++y.flatMap ucs)))):κ s=some (.own (SlR tyU 6 (x++y).length ((x++y).flatMap ucs))):=by
 rw[h,znw,nr]
def D7{p:U->Bool}{r:List U}{t:U}(h:l[k]?=some t)(hr:r=(l.take k).filter p):(l.take (k+1)).filter p=if p t=true then r++[t] else r:=by
 rw[Vn h,zpq,hr,zqe,List.filter_nil];split<;>simp
def V2{x y:List U}{fx fy:Bool}(hx:x.length<=100000)(hy:y.length<=100000)(zx:∀ t∈x,TZ t)(zy:∀ t∈y,TZ t){vx vy:Value}(hB:zry B w)(hvx:US x fx vx B)(hvy:US y fy vy B):
  Ret zrz 159 [vx,vy,.bool true,.bool true,.bool true] w B (US (oe x y true true true) false):=by
 have lx:=t8 x;have ly:=t8 y;have px:=eb x;have py:=eb y;refine yo Tryz.func159 Z Tryz.ntmps159 (np Z) hB (jf 0 (US x fx) Z nw hvx (jf 1 (US y fy) Z nw hvy ((Z4∘Zc) ?_)));refine g7 11 tyU 6 rfl ((ZS∘Zk) ?_);refine z7 (Ah L Z Z Z (Nj Z) Z zht lx px I I) Z (Zk (h:=?_));refine qh (vj L Z Z Z (Nj Z) Z zht ly py I I) (qh (yt (.inr Z) Z) (Zam (h:=?_)));refine fj 12 (U6 Z) ?_;have hal:(x++y).length<=200000:=by rw[nr];omega
 have hza:∀ t∈x++y,TZ t:=fun t ht=>(mt.1 ht).elim (zx t) (zy t);unfold oe;generalize hall:x++y=l at hal hza;refine(Zy∘Za0) ?_
 refine xq (fun s:Nat×List U=>[(0,.sat (US x fx)),(1,.sat (US y fy)),(2,.is (.bool true)),(3,.is (.bool true)),(4,.is (.bool true)),(11,.own (SlR tyU 6 s.2.length (s.2.flatMap ucs))),(12,.sat (US l false)),(13,.is (.int .i64 s.1))])
  (fun s=>s.1<=l.length/\s.2.length<=s.1/\s.2=(l.take s.1).filter (dz x y true true true)) (fun s=>l.length-s.1) (0,[]) ⟨mf _,nu _,rfl⟩ ⟨rfl,rfl,rfl,rfl,rfl,rfl,rfl,rfl,nm⟩ ?_
 rintro⟨i,r⟩ ⟨hi,hrl,hr⟩;dsimp only at hi hrl hr |-;by_cases hlt:i<l.length
 ·obtain⟨t,ht⟩:=xu hlt;have hc:=ix ht;have hf:=D7 ht hr;by_cases h1:t∈x
  ·have e1:(if t∈x then 1 else 0:Int)=1:=na h1;by_cases h2:t∈y
   ·have e2:(if t∈y then 1 else 0:Int)=1:=na h2;have hp:(dz x y true true true) t=true:=by simp [dz,h1,h2]
    rw[hp,na rfl] at hf;refine(Zcb∘ZbN∘ZaX∘ZcK∘Zag∘Zb7) ?_;refine z9 (qe L Z Z (zp Z) Z Z Z (fun u H hH _ _ v1 h3=>jq (l:=x) I e1 hH h3)) Z ((Zd3∘Zag∘Zb7) ?_);refine z9 (qe L Z Z (zp Z) Z Z Z (fun u H hH _ _ v1 h3=>jq (l:=y) I e2 hH h3)) Z ((Zd3∘Zah∘ZbC∘ZU∘Zu∘Zw∘Zi∘Za∘Za6∘Zb4∘Zbs∘Zi∘Zi∘ZbY∘Zbv∘ZbJ∘Z7) ?_);refine qh (yt (.inl Z) Z) ((ZaS∘Zb9∘ZR∘ZcA) ?_);refine qh (yt (.inr Z) Z) ((ZaJ∘Zak∘Zay) ?_);exact yv (x:=(i,r)) (i+1,r++[t]) ⟨hlt,by dsimp only;rw[List.length_append,List.length_singleton];omega,hf.symm⟩ M ⟨Z,Z,Z,Z,Z,gt Z,Z,Z,trivial⟩
   ·have e2:(if t∈y then 1 else 0:Int)=0:=nc h2;have hp:(dz x y true true true) t=true:=by simp [dz,h1,h2]
    rw[hp,na rfl] at hf;refine(Zcb∘ZbN∘ZaX∘ZcK∘Zag∘Zb7) ?_;refine z9 (qe L Z Z (zp Z) Z Z Z (fun u H hH _ _ v1 h3=>jq (l:=x) I e1 hH h3)) Z ((Zd3∘Zag∘Zb7) ?_);refine z9 (qe L Z Z (zp Z) Z Z Z (fun u H hH _ _ v1 h3=>jq (l:=y) I e2 hH h3)) Z ((ZcD∘Zah∘ZbC∘ZU∘Zu∘Zw∘Zbs∘Zi∘ZbY∘Za6∘ZbY∘Zbv∘ZbJ∘Z7) ?_);refine qh (yt (.inl Z) Z) ((ZaS∘Zb9∘ZR∘ZcA) ?_);refine qh (yt (.inr Z) Z) ((ZaJ∘Zak∘Zay) ?_);exact yv (x:=(i,r)) (i+1,r++[t]) ⟨hlt,by dsimp only;rw[List.length_append,List.length_singleton];omega,hf.symm⟩ M ⟨Z,Z,Z,Z,Z,gt Z,Z,Z,trivial⟩
  ·have e1:(if t∈x then 1 else 0:Int)=0:=nc h1;by_cases h2:t∈y
   ·have e2:(if t∈y then 1 else 0:Int)=1:=na h2;have hp:(dz x y true true true) t=true:=by simp [dz,h1,h2]
    rw[hp,na rfl] at hf;refine(Zcb∘ZbN∘ZaX∘ZcK∘Zag∘Zb7) ?_;refine z9 (qe L Z Z (zp Z) Z Z Z (fun u H hH _ _ v1 h3=>jq (l:=x) I e1 hH h3)) Z ((ZcD∘Zag∘Zb7) ?_);refine z9 (qe L Z Z (zp Z) Z Z Z (fun u H hH _ _ v1 h3=>jq (l:=y) I e2 hH h3)) Z ((Zd3∘Zah∘ZbC∘Zbi∘Zbv∘Zi∘Za∘Za6∘Zu∘Za6∘Za∘Za6∘Zbs∘Zw∘Zb∘Zbs∘Zi∘ZbJ∘Z7) ?_);refine qh (yt (.inl Z) Z) ((ZaS∘Zb9∘ZR∘ZcA) ?_);refine qh (yt (.inr Z) Z) ((ZaJ∘Zak∘Zay) ?_);exact yv (x:=(i,r)) (i+1,r++[t]) ⟨hlt,by dsimp only;rw[List.length_append,List.length_singleton];omega,hf.symm⟩ M ⟨Z,Z,Z,Z,Z,gt Z,Z,Z,trivial⟩
   ·have e2:(if t∈y then 1 else 0:Int)=0:=nc h2;have hp:(dz x y true true true) t=false:=by simp [dz,h1,h2]
    rw[hp,nc T] at hf;refine(Zcb∘ZbN∘ZaX∘ZcK∘Zag∘Zb7) ?_;refine z9 (qe L Z Z (zp Z) Z Z Z (fun u H hH _ _ v1 h3=>jq (l:=x) I e1 hH h3)) Z ((ZcD∘Zag∘Zb7) ?_);refine z9 (qe L Z Z (zp Z) Z Z Z (fun u H hH _ _ v1 h3=>jq (l:=y) I e2 hH h3)) Z ((ZcD∘Zah∘ZbC∘Zbi∘Zbv∘Zi∘Za∘Za6∘Zu∘Za6∘Za∘Za6∘Zbs∘Zw∘Zb∘Zi∘Za∘Za6∘Zi∘Zcn∘Zak∘Zay) ?_);exact yv (x:=(i,r)) (i+1,r) ⟨hlt,by dsimp only;omega,hf.symm⟩ M ⟨Z,Z,Z,Z,Z,Z,Z,Z,trivial⟩
 ·obtain rfl:i=l.length:=by omega
  rw[znq] at hr;have hzr:∀ t∈r,TZ t:=fun t h=>hza t (zn7.1 (by rw[<-hr];exact h)).1;rw[<-hr];refine fj 11 rfl ((Zcb∘Zl∘Zb8∘ZE∘Zk) ?_);refine z7 (xl L Z Z (zp Z) Z Z Z nw (fun u H hH _ _ v1 h3=>C5 I hzr hH h3)) Z ((ZP∘Zp) ?_);refine yl1 L [.tmp 10] fun u H hH hle=>?_;exact fun v hv=>hv
def V3{x y:List U}{fx fy:Bool}(hx:x.length<=100000)(hy:y.length<=100000)(zx:∀ t∈x,TZ t)(zy:∀ t∈y,TZ t){vx vy:Value}(hB:zry B w)(hvx:US x fx vx B)(hvy:US y fy vy B):
  Ret zrz 159 [vx,vy,.bool true,.bool false,.bool false] w B (US (oe x y true false false) false):=by
 have lx:=t8 x;have ly:=t8 y;have px:=eb x;have py:=eb y;refine yo Tryz.func159 Z Tryz.ntmps159 (np Z) hB (jf 0 (US x fx) Z nw hvx (jf 1 (US y fy) Z nw hvy ((Z4∘Zc) ?_)));refine g7 11 tyU 6 rfl ((ZS∘Zk) ?_);refine z7 (Ah L Z Z Z (Nj Z) Z zht lx px I I) Z (Zk (h:=?_));refine qh (vj L Z Z Z (Nj Z) Z zht ly py I I) (qh (yt (.inr Z) Z) (Zam (h:=?_)));refine fj 12 (U6 Z) ?_;have hal:(x++y).length<=200000:=by rw[nr];omega
 have hza:∀ t∈x++y,TZ t:=fun t ht=>(mt.1 ht).elim (zx t) (zy t);unfold oe;generalize hall:x++y=l at hal hza;refine(Zy∘Za0) ?_
 refine xq (fun s:Nat×List U=>[(0,.sat (US x fx)),(1,.sat (US y fy)),(2,.is (.bool true)),(3,.is (.bool false)),(4,.is (.bool false)),(11,.own (SlR tyU 6 s.2.length (s.2.flatMap ucs))),(12,.sat (US l false)),(13,.is (.int .i64 s.1))])
  (fun s=>s.1<=l.length/\s.2.length<=s.1/\s.2=(l.take s.1).filter (dz x y true false false)) (fun s=>l.length-s.1) (0,[]) ⟨mf _,nu _,rfl⟩ ⟨rfl,rfl,rfl,rfl,rfl,rfl,rfl,rfl,nm⟩ ?_
 rintro⟨i,r⟩ ⟨hi,hrl,hr⟩;dsimp only at hi hrl hr |-;by_cases hlt:i<l.length
 ·obtain⟨t,ht⟩:=xu hlt;have hc:=ix ht;have hf:=D7 ht hr;by_cases h1:t∈x
  ·have e1:(if t∈x then 1 else 0:Int)=1:=na h1;by_cases h2:t∈y
   ·have e2:(if t∈y then 1 else 0:Int)=1:=na h2;have hp:(dz x y true false false) t=false:=by simp [dz,h1,h2]
    rw[hp,nc T] at hf;refine(Zcb∘ZbN∘ZaX∘ZcK∘Zag∘Zb7) ?_;refine z9 (qe L Z Z (zp Z) Z Z Z (fun u H hH _ _ v1 h3=>jq (l:=x) I e1 hH h3)) Z ((Zd3∘Zag∘Zb7) ?_);refine z9 (qe L Z Z (zp Z) Z Z Z (fun u H hH _ _ v1 h3=>jq (l:=y) I e2 hH h3)) Z ((Zd3∘Zah∘ZbC∘ZU∘Zu∘Zw∘Zi∘Za∘Za6∘Zb4∘Zbs∘Zi∘Zbs∘Zw∘Za∘Za6∘Za∘Za6∘Zi∘Zcn∘Zak∘Zay) ?_);exact yv (x:=(i,r)) (i+1,r) ⟨hlt,by dsimp only;omega,hf.symm⟩ M ⟨Z,Z,Z,Z,Z,Z,Z,Z,trivial⟩
   ·have e2:(if t∈y then 1 else 0:Int)=0:=nc h2;have hp:(dz x y true false false) t=true:=by simp [dz,h1,h2]
    rw[hp,na rfl] at hf;refine(Zcb∘ZbN∘ZaX∘ZcK∘Zag∘Zb7) ?_;refine z9 (qe L Z Z (zp Z) Z Z Z (fun u H hH _ _ v1 h3=>jq (l:=x) I e1 hH h3)) Z ((Zd3∘Zag∘Zb7) ?_);refine z9 (qe L Z Z (zp Z) Z Z Z (fun u H hH _ _ v1 h3=>jq (l:=y) I e2 hH h3)) Z ((ZcD∘Zah∘ZbC∘ZU∘Zu∘Zw∘Zbs∘Zi∘ZbY∘Za6∘ZbY∘Zbv∘ZbJ∘Z7) ?_);refine qh (yt (.inl Z) Z) ((ZaS∘Zb9∘ZR∘ZcA) ?_);refine qh (yt (.inr Z) Z) ((ZaJ∘Zak∘Zay) ?_);exact yv (x:=(i,r)) (i+1,r++[t]) ⟨hlt,by dsimp only;rw[List.length_append,List.length_singleton];omega,hf.symm⟩ M ⟨Z,Z,Z,Z,Z,gt Z,Z,Z,trivial⟩
  ·have e1:(if t∈x then 1 else 0:Int)=0:=nc h1;by_cases h2:t∈y
   ·have e2:(if t∈y then 1 else 0:Int)=1:=na h2;have hp:(dz x y true false false) t=false:=by simp [dz,h1,h2]
    rw[hp,nc T] at hf;refine(Zcb∘ZbN∘ZaX∘ZcK∘Zag∘Zb7) ?_;refine z9 (qe L Z Z (zp Z) Z Z Z (fun u H hH _ _ v1 h3=>jq (l:=x) I e1 hH h3)) Z ((ZcD∘Zag∘Zb7) ?_);refine z9 (qe L Z Z (zp Z) Z Z Z (fun u H hH _ _ v1 h3=>jq (l:=y) I e2 hH h3)) Z ((Zd3∘Zah∘ZbC∘Zbi∘Zbv∘Zi∘Za∘Za6∘Zu∘Za6∘Za∘Za6∘Zbs∘Zw∘Zb∘Zbs∘Zi∘Zi∘Zcn∘Zak∘Zay) ?_);exact yv (x:=(i,r)) (i+1,r) ⟨hlt,by dsimp only;omega,hf.symm⟩ M ⟨Z,Z,Z,Z,Z,Z,Z,Z,trivial⟩
   ·have e2:(if t∈y then 1 else 0:Int)=0:=nc h2;have hp:(dz x y true false false) t=false:=by simp [dz,h1,h2]
    rw[hp,nc T] at hf;refine(Zcb∘ZbN∘ZaX∘ZcK∘Zag∘Zb7) ?_;refine z9 (qe L Z Z (zp Z) Z Z Z (fun u H hH _ _ v1 h3=>jq (l:=x) I e1 hH h3)) Z ((ZcD∘Zag∘Zb7) ?_);refine z9 (qe L Z Z (zp Z) Z Z Z (fun u H hH _ _ v1 h3=>jq (l:=y) I e2 hH h3)) Z ((ZcD∘Zah∘ZbC∘Zbi∘Zbv∘Zi∘Za∘Za6∘Zu∘Za6∘Za∘Za6∘Zbs∘Zw∘Zb∘Zi∘Za∘Za6∘Zi∘Zcn∘Zak∘Zay) ?_);exact yv (x:=(i,r)) (i+1,r) ⟨hlt,by dsimp only;omega,hf.symm⟩ M ⟨Z,Z,Z,Z,Z,Z,Z,Z,trivial⟩
 ·obtain rfl:i=l.length:=by omega
  rw[znq] at hr;have hzr:∀ t∈r,TZ t:=fun t h=>hza t (zn7.1 (by rw[<-hr];exact h)).1;rw[<-hr];refine fj 11 rfl ((Zcb∘Zl∘Zb8∘ZE∘Zk) ?_);refine z7 (xl L Z Z (zp Z) Z Z Z nw (fun u H hH _ _ v1 h3=>C5 I hzr hH h3)) Z ((ZP∘Zp) ?_);refine yl1 L [.tmp 10] fun u H hH hle=>?_;exact fun v hv=>hv
end Go.V.L2
end
namespace Go.V.L6
open Go.V.L2 Go.V.L3
def _root_.Zc3(t:Wr Y->A:=by intro h;refine z7 (Fh L Z Z Z Z) Z ?_;exact h.1)(h:Y):A:=t ⟨h⟩
def _root_.ZeB(t:Wr Y->A:=by intro h;refine z7 (qv L _ Z Z Z Z I) Z ?_;exact h.1)(h:Y):A:=t ⟨h⟩
def zah(N:List (U×Unit)):UT.flat N=(kS N).flatMap ucs:=by
 unfold UT.flat kS;rw[List.flatMap_map];rfl
def Ta{t:Tr U Unit}{r:Nat}(hk:k<=t.size):kS (UT.rangeL t (r:Int) (k:Int))=((kS t.list).take k).drop r:=by
 unfold UT.rangeL;have h0:max (r:Int) 0=(r:Int):=I;have h1:min (k:Int) (t.size:Int)=(k:Int):=I;rw[h0,h1];by_cases h:(r:Int)>=k
 ·rw[na h,znm (by rw[mw];omega)];rfl
 ·rw[nc h,Tr.prs_list];have:=Rm r k t.list 0;rw[show((0:Nat):Int)=0 from rfl] at this;rw[this,zpc,zpc];unfold kS;rw[zpv,zpe]
attribute [local irreducible] V N X VO Par StepOK Has Ret RetL RetO Src
def T5{fv:Value}{t:Tr U Unit}{zrw:List U}(hM:kS (UT.rangeL t f e)=zrw)(hs:t.size<=100000)(hB:zry B w)(ht:UT.TA t (.pointer p) B):
  RetO zrz 105 [.agg #[fv,.pointer p],.int .i64 f,.int .i64 e] w B (SlE tyU 6 zrw.length (zrw.flatMap ucs)):=by
 obtain⟨N,hN⟩:∃ N,UT.rangeL t f e=N:=⟨_,rfl⟩
 rw[hN] at hM;have hfl:=zah N;have hNM:N.length=zrw.length:=by rw[<-hM];simp
 have hlen:zrw.length<=100000:=by
  rw[<-hNM,<-hN];unfold UT.rangeL;split
  ·exact mf _
  ·exact znj (Tr.prs_length_le _ _ _ _) hs
 have hat:∀ {k:Nat} {g:U},zrw[k]?=some g->((UT.flat N).drop (k*6)).take 6=[.string g.1.1.1,.string g.1.1.2,.string g.1.2,.string g.2.1.1,.string g.2.1.2,.string g.2.2]:=fun {k g} h=>by
  rw[hfl,hM];exact ix h
 clear hM hfl;refine wj Tryz.func105 Z Tryz.ntmps105 (np Z) hB ((Z0∘ZaH∘Zcv∘Zb) ?_);refine z7 (xl (φ:=UT.PS N true) L Z Z (zp Z) Z Z Z UT.PS.mono (fun u H hH hle _=>UT.range_m _ _ hH (⟨_,rfl,ht.le hle⟩) I hN)) Z ((ZP∘Zg∘ZS∘Zl) ?_);refine z7 (ry L _ Z Z Z zht Z Z Z Z I (by simp only[maxLen];omega)) Z ?_;refine qh (yt (.inr Z) Z) ((Zam∘Zy∘Zl∘Zcm) ?_);have hzl:=Ew (P:=zrz) (k:=N.length*6) zht;generalize zsL zrz tyU (N.length*6)=zs0 at hzl;rw[hNM] at hzl |-
 refine xq (fun s:Nat×List Value=>[(7,.sat (UT.PS N true)),(8,.own (SlE tyU 6 zrw.length ((zrw.take s.1).flatMap ucs++s.2))),(19,.is (.int .i64 zrw.length)),(20,.is (.int .i64 s.1))])
  (fun s=>s.1<=zrw.length/\s.2.length=(zrw.length-s.1)*6) (fun s=>zrw.length-s.1) (0,zs0) ⟨mf _,hzl⟩ ⟨rfl,rfl,rfl,rfl,nm⟩ ?_
 rintro⟨k,zs⟩ ⟨hk,hz⟩;dsimp only at hk hz |-;by_cases hlt:k<zrw.length
 ·obtain⟨g,hg⟩:=xu hlt;have hc:=hat hg;have hlN:k<N.length:=I;have ht1:zrw.take (k+1)=zrw.take k++[g]:=by rw[zns,hg];rfl
  have hr:List.take (0+k*6) ((zrw.take k).flatMap ucs++zs)++(ucs g++List.drop (0+k*6+6) ((zrw.take k).flatMap ucs++zs))=(zrw.take (k+1)).flatMap ucs++zs.drop 6:=by
   rw[ht1,znk];exact zi5 Ck (zrw.take k) k zrw.length zs g (by rw[mw];omega) hz hlt
  have hlen':((zrw.take (k+1)).flatMap ucs++zs.drop 6).length=zrw.length*6:=by
   rw[nr,t8,mw,m6,hz];omega
  refine zkz 8 I Z fun b hb=>?_;have hle1:0+k*6+6<=((zrw.take k).flatMap ucs++zs).length:=by rw[hb.1];omega
  refine(Zf∘Zs∘ZN∘Zak∘Ze∘ZD∘Zb∘ZaS∘Zc3∘Zb9∘ZeB) ?_;refine tn L (O1:=[]) (cs':=(zrw.take (k+1)).flatMap ucs++zs.drop 6) Z Z Z (zpw hle1) Z hr (ZaJ (h:=?_));refine zem (s:=6) 8 [] Z Z hlen' hb.2 ?_;refine(ZU∘ZbR) ?_;exact yv (x:=(k,zs)) (k+1,zs.drop 6) ⟨hlt,by dsimp only;rw[List.length_drop,hz];omega⟩ M ⟨Z,Z,Z,Z,trivial⟩
 ·obtain rfl:k=zrw.length:=by omega
  have hzn:zs=[]:=m8 (by rw[hz];omega);rw[hzn,mp,znq];refine(Zf∘Zs∘ZbB∘Z7) ?_;refine qh (yt (.inl Z) Z) (qh (yt (.inr Z) Z) (Zp (h:=?_)));exact dw Z (fun _ _ h=>h) nq Z
def SetV.trees(hv:SetV l v B):∃ f p k q t u,v=.agg #[f,.pointer p,k,.pointer q]/\TS l t u/\UT.TA t (.pointer p) B/\UT.TA u (.pointer q) B:=by
 obtain⟨p,q,t,u,hT,ht,hu,rfl | ⟨rfl,rfl,rfl,rfl⟩⟩:=hv
 ·exact⟨_,_,_,_,t,u,rfl,hT,ht,hu⟩
 ·exact⟨_,_,_,_,t,u,rfl,hT,ht,hu⟩
def zi3(hl:l.length<=100000)(hB:zry B w)(hv:SetV l v B):RetO zrz 38 [v] w B (SlE tyU 6 l.length (l.flatMap ucs)):=by
 obtain⟨f,p,k,q,t,u,rfl,hT,ht,hu⟩:=hv.trees;have hts:=hT.size
 have hr:kS (UT.rangeL t 0 (l.length:Int))=l:=by
  have:=Ta (t:=t) (r:=0) (k:=l.length) I;rw[show((0:Nat):Int)=0 from rfl] at this;rw[this,hT.kt,zn5,znq]
 refine wj Tryz.func38 Z Tryz.ntmps38 (np Z) hB ((Z0∘Zc) ?_);refine qp (id:=1) [(2,[7])] kj J ((Zbo∘ZcS∘ZdT) ?_);refine z91 L Z (fun u H hH hle=>f8 Z hH (hv.le hle)) ?_;refine z9 (uk L Z Z (zp Z) Z Z Z (fun u H hH hle _=>T5 hr I hH (ht.le hle))) Z (xx (yt (.inr Z) Z) Z Z (ZaE (h:=?_)));exact dw Z (fun _ _ h=>h) nq Z
attribute [local irreducible] RetT
end Go.V.L6
namespace Go.V.L6
open Go.V.L2 Go.V.L3
def LE2.out{a v:Value}(h:TupS [φ,fun v _=>v=a] v H):∃ tv,v=.tuple #[tv,a]/\φ tv H:=by
 obtain⟨vs,rfl,hl,h⟩:=h
 match vs,hl with
 | [x,y],_=>
  have h1:=h 0 _ x rfl rfl;have h2:=h 1 _ y rfl rfl;subst h2;exact⟨x,rfl,h1⟩
def WithP(l:List U)(e:Int)(r:Value)(H:Heap):Prop:=∃ tv,r=.tuple #[tv,.int .i64 e]/\SetV l tv H
def WithP.mono:Kn.mono (.sat (WithP l e)):=fun _ _ _ ⟨tv,h1,h2⟩ hle=>⟨tv,h1,h2.le hle⟩
def rc(hl:l.length<=100000)(hB:zry B w)(hv:SetV l v B):Ret zrz 38 [v] w B (US l true):=(zi3 hl hB hv).toRet Hp
def Ex{m:List U}(hr:vg l x d=(m,e))(hl:l.length<=4096)(hz:TZ x)(hB:zry B w)(hv:SetV l v B):
  Ret zrz 40 [v,chv x d] w B (WithP m e):=(zbr hr hl hz hB hv).mono fun _ _ _ h=>LE2.out h
attribute [local irreducible] V N X VO Par StepOK Has Ret RetL RetO RetT Src
end Go.V.L6
namespace Go.V.L3
open Go.V.L2
attribute [local irreducible] V N X VO Par StepOK Has Ret RetL RetO RetT Src
end Go.V.L3
namespace Go.V.L6
open Go.V.L2 Go.V.L3
abbrev R6(l:List U)(e:Int):Value->Heap->Prop:=TupS [US l false,fun v _=>v=.int .i64 e]
def R6.mono{l:List U}{e:Int}:Kn.mono (.sat (R6 l e)):=LE2.mono nw
def zcg(hs:Sst jh l)(x:U):oe l [x] true false false=l.filter fun z=>decide (z≠x):=by
 refine dj cmpT_ord (ee cmpT_ord Sst.nil) (hs.sublist zpz) fun z=>?_;unfold oe Bg;rw[eo,zn7,zn7];unfold dz;simp only[mt,mz,zok,false_or,Bool.and_true,Bool.and_false,Bool.or_false,zod,decide_eq_true_eq,zq4,decide_eq_false_iff_not,ne_eq];constructor
 ·rintro⟨_,h1,h2⟩;exact⟨h1,h2⟩
 ·rintro⟨h1,h2⟩;exact⟨.inl h1,h1,h2⟩
def zge(hs:Sst jh l)(hx:x∉l):oe l [x] true true true=ow jh x l:=by
 refine dj cmpT_ord (ee cmpT_ord Sst.nil) (d7 cmpT_ord hs hx) fun z=>?_;unfold oe Bg;rw[eo,zn7,v7];unfold dz;simp only[mt,mz,zok,false_or,Bool.and_true,zp3,zod,decide_eq_true_eq,zq4,decide_eq_false_iff_not];constructor
 ·rintro⟨h,_⟩;exact h.symm
 ·rintro(rfl | h)
  ·exact⟨.inr Z,.inr ⟨hx,rfl⟩⟩
  ·refine⟨.inl h,.inl (.inl ⟨h,fun e=>?_⟩)⟩;subst e;exact hx h
def ze0(t:U):tE t=0\/tE t=6:=by
 unfold tE;split
 ·exact Lg _ _ _
 ·rename_i h;exact .inr ((Ce _).resolve_left h)
def Kx{z:U}(h:z∈(vg l x d).1):z∈l\/z=x:=by
 unfold vg at h;split at h
 ·split at h
  ·exact .inl (zn7.1 h).1
  ·split at h
   ·exact .inl h
   ·split at h
    ·cases h
    ·exact(v7.1 h).symm
 ·cases h
attribute [local irreducible] V N X VO Par StepOK Has Ret RetL RetO RetT Src
def ri{l m:List U}(hr:vg l x d=(m,e))(hs:Sst jh l)(hl:l.length<=90000)(hz:TZ x)(zl:∀ t∈l,TZ t)(hB:zry B w)(hv:US l fu v B):
  Ret zrz 95 [v,chv x d] w B (R6 m e):=by
 have z1:∀ t∈[x],TZ t:=fun t ht=>by rw[mz] at ht;subst ht;exact hz
 have zx1:([x]:List U).length<=100000:=show 1<=100000 by decide
 have key:∀ {a b c:Bool} (u:World) (H:Heap) (v1 v2:Value),zry H u->US l fu v1 H->SlB (ucs x) tyU 1 v2 H->(a=true/\b=false/\c=false\/a=true/\b=true/\c=true)->Ret zrz 159 [v1,v2,.bool a,.bool b,.bool c] u H (US (oe l [x] a b c) false):=by
  rintro a b c u H v1 v2 hH h1 h2 (⟨rfl,rfl,rfl⟩ | ⟨rfl,rfl,rfl⟩)
  ·exact V3 (y:=[x]) I zx1 zl z1 hH h1 (h2.toV Z)
  ·exact V2 (y:=[x]) I zx1 zl z1 hH h1 (h2.toV Z)
 refine yo Tryz.func95 Z Tryz.ntmps95 (np Z) hB (jf 0 (US l fu) Z nw hv ?_);unfold vg at hr;by_cases he:tE x=0
 ·rw[na he] at hr;cases d
  ·rw[nc T] at hr;by_cases hx:x∈l
   ·rw[na hx] at hr;cases hr;have hin:(if x∈l then 1 else 0:Int)=1:=na hx;refine(Z0∘Zh∘ZM∘Zcj) ?_;refine z71 L Z (fun u H hH _=>he ▸ u7 hz hH) ?_;refine(Zch∘Zy∘Z8∘ZV∘ZT∘Zk∘Zcj) ?_;refine z7 (qe L Z Z (zp Z) Z Z Z (fun u H hH _ _ v1 h1=>jq I hin hH h1)) Z ((Zv∘Zr∘ZD∘Zk∘ZP∘Ze) ?_);refine yl1 L [.tmp 4,.tmp 5] fun u H hH hle=>?_;exact fun v hv=>LE2.mk hv.nofu
   ·rw[nc hx] at hr;have hin:(if x∈l then 1 else 0:Int)=0:=nc hx;by_cases hf:l.length>=4096
    ·rw[na hf] at hr;cases hr;refine(Z0∘Zh∘ZM∘Zcj) ?_;refine z71 L Z (fun u H hH _=>he ▸ u7 hz hH) ?_;refine(Zch∘Zy∘Z8∘ZV∘ZT∘Zk∘Zcj) ?_;refine z7 (qe L Z Z (zp Z) Z Z Z (fun u H hH _ _ v1 h1=>jq I hin hH h1)) Z ((Zn∘ZV∘ZU∘Zl∘ZbD∘Zr∘Z7∘ZA) ?_);refine yl1 L [.tmp 4,.tmp 5] fun u H hH hle=>?_;exact LE2.mk SlV.nil
    ·rw[nc hf] at hr;cases hr;rw[<-zge hs hx];refine(Z0∘Zh∘ZM∘Zcj) ?_;refine z71 L Z (fun u H hH _=>he ▸ u7 hz hH) ?_;refine(Zch∘Zy∘Z8∘ZV∘ZT∘Zk∘Zcj) ?_;refine z7 (qe L Z Z (zp Z) Z Z Z (fun u H hH _ _ v1 h1=>jq I hin hH h1)) Z ((Zn∘ZV∘ZU∘Zl∘Zaj∘Zo∘ZE∘Zk∘Zcj∘ZR) ?_);refine z7 (xl (φ:=US (oe l [x] true true true) false) L Z Z (zp Z) Z Z Z nw (fun u H hH _ _ v1 h1 v2 h2=>key u H v1 v2 hH h1 h2 (.inr ⟨rfl,rfl,rfl⟩))) Z ((ZP∘Ze) ?_);refine yl1 L [.tmp 4,.tmp 5] fun u H hH hle=>?_;exact fun v hv=>LE2.mk hv
  ·rw[na rfl] at hr;cases hr;rw[<-zcg hs x];refine(Z0∘Zh∘ZM∘Zcj) ?_;refine z71 L Z (fun u H hH _=>he ▸ u7 hz hH) ?_;refine(Zch∘Zy∘Z8∘Zr∘Zs∘Zk∘Zcj∘ZR) ?_;refine z7 (xl (φ:=US (oe l [x] true false false) false) L Z Z (zp Z) Z Z Z nw (fun u H hH _ _ v1 h1 v2 h2=>key u H v1 v2 hH h1 h2 (.inl ⟨rfl,rfl,rfl⟩))) Z ((ZP∘Ze) ?_);refine yl1 L [.tmp 4,.tmp 5] fun u H hH hle=>?_;exact fun v hv=>LE2.mk hv
 ·have h6:=(ze0 x).resolve_left he;rw[nc he,h6] at hr;cases hr;refine(Z0∘Zh∘ZM∘Zcj) ?_;refine z71 L Z (fun u H hH _=>h6 ▸ u7 hz hH) ?_;refine(ZY∘ZS∘ZA) ?_;refine yl1 L [.tmp 4,.tmp 5] fun u H hH hle=>?_;exact LE2.mk SlV.nil
end Go.V.L6
namespace Go.V.L2
def TM(t:U):Prop:=(t.1.1.1.size<=9223372036854775807/\t.1.1.2.size<=9223372036854775807/\t.1.2.size<=9223372036854775807)/\t.2.1.1.size<=9223372036854775807/\t.2.1.2.size<=9223372036854775807/\t.2.2.size<=9223372036854775807
attribute [local irreducible] V N X VO Par StepOK Has Ret RetL Src
end Go.V.L2
namespace Go.V.L8
open Go.V.L2 Go.V.L3 Go.V.L6
abbrev tyM:TypeId:=362
abbrev tyC:TypeId:=42
abbrev zm1:TypeId:=223
abbrev zf0:TypeId:=39
def ccs(c:CH):List Value:=[.string c.1.1.1.1,.string c.1.1.1.2,.string c.1.1.2,.string c.1.2.1.1,.string c.1.2.1.2,.string c.1.2.2,.bool c.2]
def za3(c:CH):(ccs c).length=7:=rfl
abbrev KS(ty:TypeId)(l:List CH)(fu:Bool):Value->Heap->Prop:=SlV ty 7 (l.flatMap ccs) l.length fu
def Eu{l:List CH}{c:CH}(h:l[i]?=some c):((l.flatMap ccs).drop (i*7)).take 7=[.string c.1.1.1.1,.string c.1.1.1.2,.string c.1.1.2,.string c.1.2.1.1,.string c.1.2.1.2,.string c.1.2.2,.bool c.2]:=f0 za3 l i c h
def lg{s:Nat}{r:List CH}{c:CH}(h:κ s=some (.own (SlR ty 7 (r.length+1) (r.flatMap ccs++[.string c.1.1.1.1,.string c.1.1.1.2,.string c.1.1.2,.string c.1.2.1.1,.string c.1.2.1.2,.string c.1.2.2,.bool c.2])))):κ s=some (.own (SlR ty 7 (r++[c]).length ((r++[c]).flatMap ccs))):=by
 rw[h,znw,nr];rfl
def zmd{l:List CH}(hl:¬ n<l.length){c:CH}(hc:l[i]?=some c)(h:¬ tE c.1=0):cE n l=6:=by
 unfold cE;rw[nc hl,na];rw[zqu];exact⟨c,m9 hc,by simp [h]⟩
def zko{l:List CH}(hl:¬ n<l.length)(h:∀ (j:Nat) c,l[j]?=some c->tE c.1=0):cE n l=0:=by
 unfold cE;rw[nc hl,nc];rw[zqu];rintro⟨c,hc,h1⟩;obtain⟨j,hj⟩:=zoc hc;rw[nf (h j c hj)] at h1;cases h1
attribute [local irreducible] V N X VO Par StepOK Has Ret RetL RetO RetT Src
def Vm{t:U}(hz:TM t)(hB:zry B w):Ret zrz 100 [uv t] w B (fun v _=>v=.int .i64 (tE t)):=by
 obtain⟨⟨z1,z2,z3⟩,z4,z5,z6⟩:=hz;unfold tE;refine yo Tryz.func100 Z Tryz.ntmps100 (np Z) hB ?_;by_cases h:gh [t.1.1.1,t.1.1.2,t.1.2]=0
 ·rw[na h];refine(Z0∘ZM∘ZaD∘Zcu) ?_;refine z71 L Z (fun u H hH _=>goal_ret G G G hH) ?_;refine(ZbT∘Zaw∘Zs∘ZaD∘Zcu∘Zf9∘Ze) ?_;exact yl2 L [.tmp 2]
 ·rw[nc h];refine(Z0∘ZM∘ZaD∘Zcu) ?_;refine z71 L Z (fun u H hH _=>goal_ret G G G hH) ?_;refine(ZbT∘ZY∘Zx∘Ze) ?_;exact yl2 L [.tmp 2]
def zha{l:List CH}{b:Nat}{c:CH}(hc0:l[i]?=some c)(hB:zry B w)(hb:B b=some (.cells #[v] zm1))(hv:KS tyM l fu v B):
  Ret zrz 252 ([.int .i64 i]++[.pointer (some ⟨b,0,none⟩)]) w B (fun r _=>r=uv c.1):=by
 have hc:=Eu hc0;have hil:=get_lt hc0;refine yo Tryz.func252 Z Tryz.ntmps252 (np Z) hB ((ZQ∘Zby∘Zbt) ?_);refine vo 4 (KS tyM l fu) Z nw hv ((ZcW∘Zc3∘Zb9∘Zab) ?_);refine yl1 L [.cell 3 34] fun u H hH hle=>?_;refine Zdz (h:=?_);rfl
def zh1{l:List CH}{b:Nat}{c:CH}(hc0:l[i]?=some c)(hB:zry B w)(hb:B b=some (.cells #[v] zf0))(hv:KS tyC l fu v B):
  Ret zrz 253 ([.int .i64 i]++[.pointer (some ⟨b,0,none⟩)]) w B (fun r _=>r=uv c.1):=by
 have hc:=Eu hc0;have hil:=get_lt hc0;refine yo Tryz.func253 Z Tryz.ntmps253 (np Z) hB ((ZQ∘Zby∘Zbt) ?_);refine vo 4 (KS tyC l fu) Z nw hv ((ZcW∘Zc3∘Zb9∘Zab) ?_);refine yl1 L [.cell 3 34] fun u H hH hle=>?_;refine Zdz (h:=?_);rfl
def Fq{l:List CH}(hz:∀ c∈l,TM c.1)(hl:l.length<=9223372036854775807)(hfn:L.fn cf=some ())(he:cE 32 l=e)(hB:zry B w)
  (hcl:∀ (i:Nat) (c:CH),l[i]?=some c->∀ (u:World) (H:Heap),zry H u->B.Le H->Ret zrz cf ([.int .i64 i]++caps) u H (fun r _=>r=uv c.1)):
  Ret zrz 251 [.int .i64 l.length,.func (.func cf) #[] caps.toArray] w B (fun v _=>v=.int .i64 e):=by
 subst he;refine yo Tryz.func251 Z Tryz.ntmps251 (np Z) hB ?_;by_cases h32:32<l.length
 ·have:cE 32 l=3:=na h32;rw[this];refine(ZbX∘ZJ∘Zbd∘Ze) ?_;exact yl2 L [.tmp 4]
 ·refine(ZbX∘Zan∘ZV∘ZcF∘Zdg) ?_;refine xq (fun i:Nat=>[(1,.is (.func (.func cf) #[] caps.toArray)),(9,.is (.int .i64 l.length)),(10,.is (.int .i64 i))]) (fun i=>i<=l.length/\∀ (j:Nat) c,j<i->l[j]?=some c->tE c.1=0) (fun i=>l.length-i) 0 ⟨mf _,fun j c h=>ni h (zq5 _)⟩ ⟨Z,Z,Z,nm⟩ ?_;rintro i ⟨hi,hok⟩;by_cases hlt:i<l.length
  ·obtain⟨c,hc⟩:=xu hlt;have hzc:=hz c (m9 hc);by_cases h0:tE c.1=0
   ·refine(Zf∘Zs∘ZN∘Zak∘Zc∘ZD∘Zb) ?_;refine z7 (qe L Z Z (zp Z) Z Z hfn (fun u H hH hle _=>hcl i c hc u H hH hle)) Z (z71 L Z (fun u H hH _=>h0 ▸ Vm hzc hH) ?_);refine(Zc∘Z5∘Za7∘Zcn∘ZE∘ZbR) ?_
    exact yv (x:=i) (i+1) ⟨hlt,fun j c' hj hc'=>by
     rcases zni j i with h | h
     ·exact hok j c' h hc'
     ·have:j=i:=I;subst this;rw[hc] at hc';cases hc';exact h0⟩ I ⟨rfl,rfl,rfl,nm⟩
   ·have h6:=(ze0 c.1).resolve_left h0;rw[zmd h32 hc h0];refine(Zf∘Zs∘ZN∘Zak∘Zc∘ZD∘Zb) ?_;refine z7 (qe L Z Z (zp Z) Z Z hfn (fun u H hH hle _=>hcl i c hc u H hH hle)) Z (z71 L Z (fun u H hH _=>h6 ▸ Vm hzc hH) ?_);refine(Zc∘Z5∘ZY∘ZaM∘Ze) ?_;exact yl2 L [.tmp 4]
  ·rw[zko h32 (fun j c hj=>hok j c (by have:=get_lt hj;omega) hj)];refine(Zf∘Zs∘ZbB∘Zbf∘Ze) ?_;exact yl2 L [.tmp 4]
def Lm{e:TypeId}{s:Nat}(h:SlV e s xs n fu v H):∃ p m c,v=.slice p m c:=by
 rcases h.2 with ⟨_,_,h⟩ | ⟨b,off,cap,cs,ty0,fr,h,_⟩
 ·exact⟨_,_,_,h⟩
 ·exact⟨_,_,_,h⟩
def io{l:List CH}(hz:∀ c∈l,TM c.1)(hl:l.length<=9223372036854775807)(he:cE 32 l=e)(hB:zry B w)(hv:KS tyM l fu v B):
  Ret zrz 191 [v] w B (fun r _=>r=.int .i64 e):=by
 obtain⟨p,m,c,rfl⟩:=Lm hv;refine yo Tryz.func191 Z Tryz.ntmps191 (np Z) hB ((Z0∘Zc) ?_);refine Ek 1 rfl fun q H1 hs1 ⟨b,hpb,hb1⟩=>?_;subst hpb;refine(Z9∘Zbt) ?_;refine vo 3 (KS tyM l fu) Z nw (hv.le hs1.le) ((ZdE∘ZaQ) ?_);refine z71 L Z (fun u H hH hle=>Fq (caps:=[.pointer (some ⟨b,0,none⟩)]) hz hl Z he hH (fun i c hc u' H' hH' hle'=>zha hc hH' (hle' _ _ (hle _ _ hb1)) ((hv.le hs1.le).le (Heap.Le.trans hle hle')))) ?_;refine Ze (h:=?_);refine yl L (rs:=[.tmp 2]) Z (fun _ _ h=>h) hs1 fun u H hH hle=>?_;rfl
end Go.V.L8
namespace Go.V.L4
open Go.V.L2 Go.V.L8 Go.V.Bd
def iy(s:ByteArray):List Nat:=jg s.size++g9 s
def we(l:List ByteArray):List Nat:=l.flatMap iy
def u6(t:U):List ByteArray:=[t.1.1.1,t.1.1.2,t.1.2,t.2.1.1,t.2.1.2,t.2.2]
def ec(t:U):List Nat:=we (u6 t)
def chgB(c:CH):List Nat:=ec c.1++[if c.2=true then 1 else 0]
def Qg(h:s.size<=1099511627776):(iy s).length<=s.size+10:=by
 unfold iy;rw[nr,vw];have h128:(128:Nat)^10=1180591620717411303424:=T;have:=ai 9 s.size I;omega
def Vr(bs:List Nat)(a b:ByteArray):(bs++iy a)++iy b=bs++we [a,b]:=by simp [we]
def Vs(bs:List Nat)(a b:List ByteArray):(bs++we a)++we b=bs++we (a++b):=by simp [we]
def cq:∀ {l:List ByteArray},(∀ s∈l,s.size<=1000)->(we l).length<=l.length*1010
 | [],_=>nu _
 | s::l,h=>by
  have h1:=h s (mc ..);have h2:=Qg (s:=s) I;have h3:=cq fun x hx=>h x (me _ hx);show(iy s++we l).length<=_;rw[nr,ma];omega
attribute [local irreducible] V N X VO Par StepOK Has Ret RetL RetO RetT ky RetX RetY Src
def Ga(hs:s.size<=1000)(hz:bs.length+2000<=1099511627776)(hB:zry B w)(hr:(GWr wb bs).P B w C)(hC:ZCB C w B):
  ky zrz 231 [kg wb,.string s] w B C (GWr wb (bs++iy s)):=by
 unfold ky;have h128:(128:Nat)^10=1180591620717411303424:=T;have hnl:=ai 9 s.size I;have hcv:IntKind.u64.wrap (s.size:Int)=(s.size:Int):=wrap_u64 I I;refine xh 900 (GWr wb bs) Tryz.func231 Z Tryz.ntmps231 (np Z) hB hr hC ((Zad∘Za) ?_);refine z7 (G7 Z Z Z Z zg8 Z Z) Z ((Zr∘Z9∘Zb∘ZK) ?_);refine z7 (xw Z Z Z gj.1 gj.2 (wrap_u64 I I)) Z (qh (xc L 900 (GWr wb (bs++jg s.size)) (r:=GWr wb bs) Z Z Z Z Z (fun u H C hH _ hr hC=>uc I I hH hr hC)) (Zp (h:=?_)));have hz2:(bs++jg s.size).length+s.size<=140737488355328:=by rw[nr];omega
 have e0:bs++iy s=(bs++jg s.size)++g9 s:=by unfold iy;rw[List.append_assoc]
 rw[e0];generalize bs++jg s.size=bs1 at hz2;refine uu (X:=Value) 900 (r:=fun sv=>(GWv wb bs1 sv).res) (φ:=fun sv _=>Nu sv) (hφ:=pw) Z fun sv H0 hs0 hsp=>?_;obtain⟨p,k,c,rfl⟩:=hsp;refine v8 (r1:=xn wb [.slice p k c] zio) (r2:=(GSl (.slice p k c) bs1).res) 900 901 rfl (xm _) ?_;rw[Dx];refine(ZaY∘Zai) ?_;refine un 15 901 rfl rfl (Za (h:=?_));refine qh (ej L rfl rfl rfl rfl rfl J el5 hz2) ?_;refine dc 17 901 Nu rfl Qo fun s2 hp2=>?_;obtain⟨p2,k2,c2,rfl⟩:=hp2;refine Zaa (h:=?_);refine xg (yj L (q:=900) (cs':=[.slice p2 k2 c2]) rfl rfl rfl rfl rfl) (Zac (h:=?_));have e2:bs1.length+s.size=(bs1++g9 s).length:=by rw[nr,vw]
 rw[Py,e2];refine ou 900 901 rfl Z (P1 _ _) ?_;exact ic (X:=Value) 900 (r:=fun sv=>(GWv wb (bs1++g9 s) sv).res) (φ:=fun sv _=>Nu sv) pw (.slice p2 k2 c2) ⟨_,_,_,rfl⟩ Z (xz L 900 (r:=GWr wb (bs1++g9 s)) Z (fun _ _ h=>h) hs0 Z Z)
def zbq(ha:a.size<=1000)(hb:b.size<=1000)(hz:bs.length+4000<=1099511627776)(hB:zry B w)(hr:(GWr wb bs).P B w C)(hC:ZCB C w B):
  ky zrz 230 [kg wb,.agg #[.string a,.string b]] w B C (GWr wb (bs++we [a,b])):=by
 unfold ky;have h1:=Qg (s:=a) I;rw[<-Vr];refine xh 900 (GWr wb bs) Tryz.func230 Z Tryz.ntmps230 (np Z) hB hr hC ((Z0∘Zby∘Za∘Z8) ?_);refine qh (xc L 900 (GWr wb (bs++iy a)) (r:=GWr wb bs) Z Z Z Z Z (fun u H C hH _ hr hC=>Ga ha I hH hr hC)) ((Zp∘Zq∘Z8) ?_);refine qh (xc L 900 (GWr wb (bs++iy a++iy b)) (r:=GWr wb (bs++iy a)) Z Z Z Z Z (fun u H C hH _ hr hC=>Ga hb (by rw[nr];omega) hH hr hC)) ?_;refine Zac (h:=?_);exact xz L 900 (r:=GWr wb (bs++iy a++iy b)) Z (fun _ _ h=>h) nq Z Z
def K0(ha:a.size<=1000)(hb:b.size<=1000)(hc:c.size<=1000)(hz:bs.length+8000<=1099511627776)(hB:zry B w)(hr:(GWr wb bs).P B w C)(hC:ZCB C w B):
  ky zrz 160 [kg wb,.agg #[.string a,.string b,.string c]] w B C (GWr wb (bs++we [a,b,c])):=by
 unfold ky;have h1:=cq (l:=[a,b]) (fun s hs=>by simp only[nz,zok,or_false] at hs;rcases hs with rfl | rfl<;>assumption);simp only[ma,m5] at h1;have e0:bs++we [a,b,c]=(bs++we [a,b])++iy c:=by simp [we]
 rw[e0];refine xh 900 (GWr wb bs) Tryz.func160 Z Tryz.ntmps160 (np Z) hB hr hC ((Z0∘Zby∘Za∘Zcv) ?_);refine qh (xc L 900 (GWr wb (bs++we [a,b])) (r:=GWr wb bs) Z Z Z Z Z (fun u H C hH _ hr hC=>zbq ha hb I hH hr hC)) ((Zp∘Zq∘Z8) ?_);refine qh (xc L 900 (GWr wb (bs++we [a,b]++iy c)) (r:=GWr wb (bs++we [a,b])) Z Z Z Z Z (fun u H C hH _ hr hC=>Ga hc (by rw[nr];omega) hH hr hC)) ?_;refine Zac (h:=?_);exact xz L 900 (r:=GWr wb (bs++we [a,b]++iy c)) Z (fun _ _ h=>h) nq Z Z
def zbp(ha:a.size<=1000)(hb:b.size<=1000)(hc:c.size<=1000)(hz:bs.length+8000<=1099511627776)(hB:zry B w)(hr:(GWr wb bs).P B w C)(hC:ZCB C w B):
  ky zrz 161 [kg wb,.agg #[.string a,.string b,.string c]] w B C (GWr wb (bs++we [a,b,c])):=by
 unfold ky;refine xh 900 (GWr wb bs) Tryz.func161 Z Tryz.ntmps161 (np Z) hB hr hC ((Z0∘Zp∘Z9∘Za∘Zcu) ?_);refine qh (xc L 900 (GWr wb (bs++we [a,b,c])) (r:=GWr wb bs) Z Z Z Z Z (fun u H C hH _ hr hC=>K0 ha hb hc hz hH hr hC)) (Zac (h:=?_));exact xz L 900 (r:=GWr wb (bs++we [a,b,c])) Z (fun _ _ h=>h) nq Z Z
def zbo{t:U}(ht:∀ s∈u6 t,s.size<=1000)(hz:bs.length+16000<=1099511627776)(hB:zry B w)(hr:(GWr wb bs).P B w C)(hC:ZCB C w B):
  ky zrz 96 [kg wb,uv t] w B C (GWr wb (bs++ec t)):=by
 unfold ky;obtain⟨⟨⟨a,b⟩,c⟩,⟨⟨d,e⟩,f⟩⟩:=t;have ha:=ht a (by simp [u6]);have hb:=ht b (by simp [u6]);have hc:=ht c (by simp [u6]);have hd:=ht d (by simp [u6]);have he:=ht e (by simp [u6]);have hf:=ht f (by simp [u6]);have h1:=cq (l:=[a,b,c]) (fun s hs=>by simp only[nz,zok,or_false] at hs;rcases hs with rfl | rfl | rfl<;>assumption);simp only[ma,m5] at h1;have e0:bs++ec (((a,b),c),((d,e),f))=(bs++we [a,b,c])++we [d,e,f]:=by rw[Vs];rfl
 rw[e0];refine xh 900 (GWr wb bs) Tryz.func96 Z Tryz.ntmps96 (np Z) hB hr hC ((Z0∘Zby∘Za∘ZaD∘Zcu) ?_);refine qh (xc L 900 (GWr wb (bs++we [a,b,c])) (r:=GWr wb bs) Z Z Z Z Z (fun u H C hH _ hr hC=>K0 ha hb hc I hH hr hC)) ((Zp∘Zq∘ZaD∘Zcu) ?_);refine qh (xc L 900 (GWr wb (bs++we [a,b,c]++we [d,e,f])) (r:=GWr wb (bs++we [a,b,c])) Z Z Z Z Z (fun u H C hH _ hr hC=>zbp hd he hf (by rw[nr];omega) hH hr hC)) ?_;refine Zac (h:=?_);exact xz L 900 (r:=GWr wb (bs++we [a,b,c]++we [d,e,f])) Z (fun _ _ h=>h) nq Z Z
end Go.V.L4
namespace Go.V
open Go.V.L4
def bk{a:Addr}(h:k≠a.block):(u.freeze a n).heap[k]?=u.heap[k]?:=by
 unfold World.freeze;split
 ·rfl
 ·simp [Array.getElem?_modify,Ne.symm h]
def Of(u:World)(a:Addr)(n:Nat):(u.freeze a n).heap.size=u.heap.size:=by
 unfold World.freeze;split<;>simp
def Pk{b:Nat}{L:Nat->Prop}(hs:zry H u)(hL:L b)(hH:H b=none):Grow L u H (u.freeze ⟨b,0,none⟩ n) H:=
 have ho:(u.freeze ⟨b,0,none⟩ n).os=u.os/\(u.freeze ⟨b,0,none⟩ n).tape=u.tape/\(u.freeze ⟨b,0,none⟩ n).output=u.output/\(u.freeze ⟨b,0,none⟩ n).drawn=u.drawn:=by unfold World.freeze;split<;>exact⟨rfl,rfl,rfl,rfl⟩
 ⟨⟨ho.1,ho.2.1,ho.2.2.1,zps (Of ..).symm,fun k _ hk=>bk (fun e=>hk (e ▸ hL)),zps ho.2.2.2.symm⟩,fun k x hx=>by
  have:k≠b:=fun e=>by subst e;rw[hH] at hx;cases hx
  show(u.freeze ⟨b,0,none⟩ n).heap[k]?=some x;rw[bk this];exact hs k x hx,my _,fun _ _ _=>rfl⟩
def dh(bs:List Nat):ByteArray:=⟨(bs.map UInt8.ofNat).toArray⟩
section
variable        {d b:Nat}     {x:Operand} {Q:Exit->Act->World->Prop}
def zkx(q:Nat){r:Res}{c:Code}(S:Prop)(hk:κ q=some (.own r))(hS:∀ v H u C,r.P v H u C->S)(h:S->V P F B n O κ c Q):V P F B n O κ c Q:=fun a u hh=>by
 obtain⟨H,fp,hH⟩:=hh;exact h (hS _ _ _ _ (hH.slot q _ hk).1) a u ⟨H,fp,hH⟩
def Me{a0:Addr}{c:Nat}(hn:Nat.blt d n=true)(hg:gK ops κ ⟨some d,.call ⟨.builtin .unsafeSliceData,#[x],tts⟩,ty,pos,aft,g⟩=some true)(hx:evK κ x=some (.slice (some a0) m c))(hc:c≠0):
  StepOK P F B n ops O κ ⟨some d,.call ⟨.builtin .unsafeSliceData,#[x],tts⟩,ty,pos,aft,g⟩ d (.is (.pointer (some a0))):=
 kq rfl (by simpa using hn) hg trivial fun a u H fp e=>⟨_,by
  have h1:a.eval x=.slice (some a0) m c:=e.is_ x _ (by simp [Op.operands,Call.operands]) hx;have h2:=Lib.run_unsafeSliceData_row (P:=P) u tts ty a0 m c hc;simp only[execOp,resolve,invoke,builtin,ny,mg,mb,zny,mq,znv,h1,h2],rfl⟩
def Md{pt it e:TypeId}{c:Nat}{bs:List Nat}(hb:∀ b∈bs,b<=255)(h0:bs≠[])(hl:bs.length<=1099511627776)(hn:Nat.blt d n=true)(hg:gK ops κ ⟨some d,.call ⟨.builtin .unsafeString,#[x,y],#[pt,it]⟩,ty,pos,aft,g⟩=some true)(hx:evK κ x=some (.pointer (some ⟨b,0,none⟩)))(hy:evK κ y=some (.int .i64 bs.length))
  (hq:κ q=some (.own (AtV (.slice (some ⟨b,0,none⟩) m c) (SlR e 1 bs.length (byV bs))))) (hp:P.underlying pt=some (.pointer e)) (hc:P.cellsOf e=1):
  w8 P F B n ops O κ ⟨some d,.call ⟨.builtin .unsafeString,#[x,y],#[pt,it]⟩,ty,pos,aft,g⟩ q (.own GNo.res) d (.is (.string (dh bs))):=by
 rintro κ' a u hlk hks ⟨H,fp,hh⟩;unfold After;rw[na (xk hh hlk hg)];have en:=hh.env hlk;have hk':=hks.trans hq;obtain⟨hown,hM⟩:=hh.slot q _ hk';have h1:a.eval x=.pointer (some ⟨b,0,none⟩):=en.is_ x _ (by simp [Op.operands,Call.operands]) hx;have h2:a.eval y=.int .i64 bs.length:=en.is_ y _ (by simp [Op.operands,Call.operands]) hy;obtain⟨hxl,hown⟩:=hown;rcases hown with ⟨_,hv,_⟩ | ⟨b2,cap,rest,hv,hbk,hnc,hcm,hcl,hC⟩
 ·cases hv
 ·cases hv;have hbm:=hM b ((hC b).2 rfl);have hlen:(bs.map UInt8.ofNat).length=bs.length:=mj _
  have hr:=Lib.run_unsafeString_row (P:=P) u pt it ty e hp hc b (byV bs++rest).toArray.size (by simp [World.shape?,hbk]) (bs.map UInt8.ofNat) (fun h=>h0 (List.map_eq_nil_iff.1 h)) (by rw[hlen];simp) (by rw[hlen];omega) (fun j v hj=>by
   rw[vr,znk,kw hbk];rw[zn4] at hj
   cases hbj:bs[j]? with
   | none=>rw[hbj] at hj;cases hj
   | some z=>
    rw[hbj] at hj;cases hj;have hz:=hb z (m9 hbj);have hjl:j<(byV bs).length:=by rw[mj];exact get_lt hbj
    simp only[zp9];rw[zor hjl,zn4,hbj];have:(UInt8.ofNat z).toNat=z:=by simp;omega
    rw[this];rfl)
  rw[hlen] at hr
  have hrun:(execOp a.eval ⟨some d,.call ⟨.builtin .unsafeString,#[x,y],#[pt,it]⟩,ty,pos,aft,g⟩).run P u=.ok (.value (.string (dh bs))) (u.freeze ⟨b,0,none⟩ bs.length):=by
   simp only[execOp,resolve,invoke,builtin,ny,mg,mb,zny,mq,znv,h1,h2,hr];rfl
  rw[hrun];simp only[Upon];have h3:=hh.usePut (d:=q) (a':=a) (r':=GNo.res) (C:=fun _=>False) hk' (Pk (n:=bs.length) hh.sub ((hC b).2 rfl) hbm.2.1) rfl rfl (fun _ _=>rfl) (fun k h=>h) (fun k h=>h.elim);rw[j8] at h3;exact⟨H,_,h3.put (k:=.is _) (zp hn) trivial Z⟩
def G6{c:Nat}(hn:Nat.blt d n=true)(hg:gK ops κ ⟨some d,.call ⟨.builtin .unsafeSliceData,#[x],tts⟩,ty,pos,aft,g⟩=some true)(hx:evK κ x=some (.slice none m c)):
  StepOK P F B n ops O κ ⟨some d,.call ⟨.builtin .unsafeSliceData,#[x],tts⟩,ty,pos,aft,g⟩ d (.is (.pointer none)):=
 kq rfl (by simpa using hn) hg trivial fun a u H fp e=>⟨_,by
  have h1:a.eval x=.slice none m c:=e.is_ x _ (by simp [Op.operands,Call.operands]) hx;have h2:=Lib.run_unsafeSliceData_nil (P:=P) u tts ty m c;simp only[execOp,resolve,invoke,builtin,ny,mg,mb,zny,mq,znv,h1,h2],rfl⟩
def G5{pt it:TypeId}{p0:Option Addr}(hn:Nat.blt d n=true)(hg:gK ops κ ⟨some d,.call ⟨.builtin .unsafeString,#[x,y],#[pt,it]⟩,ty,pos,aft,g⟩=some true)(hx:evK κ x=some (.pointer p0))(hy:evK κ y=some (.int .i64 0)):
  StepOK P F B n ops O κ ⟨some d,.call ⟨.builtin .unsafeString,#[x,y],#[pt,it]⟩,ty,pos,aft,g⟩ d (.is (.string .empty)):=
 kq rfl (by simpa using hn) hg trivial fun a u H fp e=>⟨_,by
  have h1:a.eval x=.pointer p0:=e.is_ x _ (by simp [Op.operands,Call.operands]) hx;have h2:a.eval y=.int .i64 0:=e.is_ y _ (by simp [Op.operands,Call.operands]) hy;have h3:=Lib.run_unsafeString_none (P:=P) u pt it ty p0;simp only[execOp,resolve,invoke,builtin,ny,mg,mb,zny,mq,znv,h1,h2,h3],rfl⟩
end
end Go.V
namespace Go.V
open Go.V.L4
section
variable        {d:Nat}     {src dst e:TypeId}
def cx{bs:List Nat}(hb:∀ b∈bs,b<=255)(hn:Nat.blt d n=true)(hg:gK ops κ ⟨some d,.convert src dst (.tmp q),ty,pos,aft,g⟩=some true)(hx:κ q=some (.sat (BsV bs fu)))(hs:P.underlying src=some (.slice e))(he:P.underlying e=some (.int .u8))(hd:P.underlying dst=some .string):
  StepOK P F B n ops O κ ⟨some d,.convert src dst (.tmp q),ty,pos,aft,g⟩ d (.is (.string (dh bs))):=
 kq rfl (by simpa using hn) hg trivial fun a u H fp en=>⟨_,by
  have key:(convert src dst (a.eval (.tmp q))).run P u=.ok (.string (dh bs)) u:=by
   obtain⟨hl,⟨h0,p,hv⟩ | ⟨b,off,cap,cs,ty0,fr,hv,h2,h3,h4,_⟩⟩:=en.sat_ q _ (by simp [Op.operands]) hx
   ·have hb0:bs=[]:=m8 h0;subst hb0;rw[hv]
    cases p with
    | none=>exact run_convert_bytes_nil u src e hs he _ _ dst hd
    | some a0=>exact run_convert_bytes_back (P:=P) u src dst e a0 0 [] hs he hd (fun j hj=>by cases hj)
   ·rw[hv];have hlen:(bs.map UInt8.ofNat).length=bs.length:=mj _
    have hr:=run_convert_bytes_back (P:=P) u src dst e ⟨b,off,none⟩ cap (bs.map UInt8.ofNat) hs he hd (fun j hj=>by
     rw[hlen] at hj;obtain⟨z,hz⟩:=xu hj;have hj2:(bs.map fun b:Nat=>Value.int .u8 (b:Int))[j]?=some (.int .u8 (z:Int)):=by rw[zn4,hz];rfl
     have h5:=AtP.get h3 hj2;rw[vr,kw (en.sub _ _ h2)]
     have h6:((bs.map UInt8.ofNat)[j]'(by rw[hlen];exact hj)).toNat=z:=by
      have hzb:=hb z (m9 hz);rw[List.getElem_map,gk hz];simp;omega
     rw[h6];simpa using h5)
    rw[hlen] at hr;exact hr
  simp only[execOp,ny,mg,key,mb],rfl⟩
end
end Go.V
namespace Go.V.L4
open Go.V.L2 Go.V.L3 Go.V.L8
abbrev zir:TypeId:=29
abbrev zis:TypeId:=31
abbrev oV(x:ByteArray×ByteArray):Value:=.agg #[.string x.1,.string x.2]
abbrev gV(x:P4):Value:=.agg #[.string x.1.1,.string x.1.2,.string x.2]
abbrev sZ:ByteArray:=⟨#[]⟩
attribute [local irreducible] V N X VO Par StepOK Has Ret RetL RetO RetT ky RetX RetY Src
def Sl{gf:Rd->ByteArray×Rd}{fr:Nat}(hfn:L.fn fr=some ()){C:Nat->Prop}(hB:zry B w)(hr:(GRd rb sv R).P B w C)(hC:ZCB C w B)
  (hf:R.err=0->∀ (u:World) (H:Heap) (C:Nat->Prop),zry H u->B.Le H->(GRd rb sv R).P H u C->(ZCB C u H)->RetX zrz fr (fst++cap) u H C (GRd rb sv (gf R).2) (.string (gf R).1)):
  RetX zrz 284 [kg rb,.func (.func fr) fst.toArray cap.toArray] w B C (GRd rb sv (um gf sZ R).2) (.string (um gf sZ R).1):=by
 unfold RetX;refine xh 900 (GRd rb sv R) Tryz.func284 Z Tryz.ntmps284 (np Z) hB hr hC ?_;rw[xf];obtain⟨⟨n,⟨at1,bad1,err1⟩⟩,hz⟩:∃ z,gf R=z:=⟨_,rfl⟩
 obtain⟨at_,bad,err⟩:=R;unfold um;rw[hz] at hf |-;dsimp only at hf |-;by_cases h0:err≠0
 ·rw[na h0];refine(Z4∘Zj∘Zq) ?_;refine qh (yi L 900 (GRd rb sv ⟨at_,bad,err⟩) (.bool true) (r:=GRd rb sv ⟨at_,bad,err⟩) Z Z Z Z Z (fun u H C2 hH _ hr2 hC2=>ki (nf h0) hH hr2 hC2)) ((Zr∘Zx∘Ze) ?_);exact ka L 900 (r:=xe rb _ u5) (rs:=[.tmp 4]) Z (fun _ _ h=>h) nq Z Z (fun _=>rfl)
 ·have he:err=0:=mh.1 h0;subst he;rw[nc h0];have hf:=hf rfl;by_cases h1:err1≠0
  ·rw[na h1];refine(Z4∘Zj∘Zq) ?_;refine qh (yi L 900 (GRd rb sv ⟨at_,bad,0⟩) (.bool false) (r:=GRd rb sv ⟨at_,bad,0⟩) Z Z Z Z Z (fun u H C2 hH _ hr2 hC2=>ki (ng h0) hH hr2 hC2)) ((Zo∘Zcy∘ZbS) ?_);refine qh (jd L 900 (GRd rb sv ⟨at1,bad1,err1⟩) (.string n) (r:=GRd rb sv ⟨at_,bad,0⟩) Z Z Z hfn Z hf) ((Zj∘ZL∘Zai∘ZY∘Zbi∘Zaa) ?_);refine xg (yj L (q:=900) (cs':=[sv,.int .i64 at_,.int .i64 bad1,.int .i64 err1]) Z Z Z Z Z) ((Zg∘ZaM∘Ze) ?_);exact ka L 900 (r:=xe rb _ u5) (rs:=[.tmp 4]) Z (fun _ _ h=>h) nq Z Z (fun _=>rfl)
  ·have he:err1=0:=mh.1 h1;subst he;rw[nc h1];refine(Z4∘Zj∘Zq) ?_;refine qh (yi L 900 (GRd rb sv ⟨at_,bad,0⟩) (.bool false) (r:=GRd rb sv ⟨at_,bad,0⟩) Z Z Z Z Z (fun u H C2 hH _ hr2 hC2=>ki (ng h0) hH hr2 hC2)) ((Zo∘Zcy∘ZbS) ?_);refine qh (jd L 900 (GRd rb sv ⟨at1,bad1,0⟩) (.string n) (r:=GRd rb sv ⟨at_,bad,0⟩) Z Z Z hfn Z hf) ((Zj∘ZL∘Zai∘Zaw∘Za3∘Ze) ?_);exact ka L 900 (r:=xe rb _ u5) (rs:=[.tmp 4]) Z (fun _ _ h=>h) nq Z Z (fun _=>rfl)
def Sm{gf:Rd->(ByteArray×ByteArray)×Rd}{fr:Nat}(hfn:L.fn fr=some ()){C:Nat->Prop}(hB:zry B w)(hr:(GRd rb sv R).P B w C)(hC:ZCB C w B)
  (hf:R.err=0->∀ (u:World) (H:Heap) (C:Nat->Prop),zry H u->B.Le H->(GRd rb sv R).P H u C->(ZCB C u H)->RetX zrz fr (fst++cap) u H C (GRd rb sv (gf R).2) (oV (gf R).1)):
  RetX zrz 282 [kg rb,.func (.func fr) fst.toArray cap.toArray] w B C (GRd rb sv (um gf (sZ,sZ) R).2) (oV (um gf (sZ,sZ) R).1):=by
 unfold RetX;refine xh 900 (GRd rb sv R) Tryz.func282 Z Tryz.ntmps282 (np Z) hB hr hC ?_;rw[xf];obtain⟨⟨n,⟨at1,bad1,err1⟩⟩,hz⟩:∃ z,gf R=z:=⟨_,rfl⟩
 
 obtain⟨at_,bad,err⟩:=R;unfold um;rw[hz] at hf |-;dsimp only at hf |-;by_cases h0:err≠0
 ·rw[na h0];refine(ZQ∘Zby∘Zbz∘Zq) ?_;refine qh (yi L 900 (GRd rb sv ⟨at_,bad,err⟩) (.bool true) (r:=GRd rb sv ⟨at_,bad,err⟩) Z Z Z Z Z (fun u H C2 hH _ hr2 hC2=>ki (nf h0) hH hr2 hC2)) ((Zr∘Zy∘ZcT∘Zab) ?_);exact ka L 900 (r:=xe rb _ u5) (rs:=[.cell 4 zir]) Z (fun _ _ h=>h) nq Z Z (fun _=>⟨_,qy Z,rfl,rfl⟩)
 ·have he:err=0:=mh.1 h0;subst he;rw[nc h0];have hf:=hf rfl;by_cases h1:err1≠0
  ·rw[na h1];refine(ZQ∘Zby∘Zbz∘Zq) ?_;refine qh (yi L 900 (GRd rb sv ⟨at_,bad,0⟩) (.bool false) (r:=GRd rb sv ⟨at_,bad,0⟩) Z Z Z Z Z (fun u H C2 hH _ hr2 hC2=>ki (ng h0) hH hr2 hC2)) ((Zo∘Zcy∘ZbS) ?_);refine qh (jd L 900 (GRd rb sv ⟨at1,bad1,err1⟩) (oV n) (r:=GRd rb sv ⟨at_,bad,0⟩) Z Z Z hfn Z hf) ((ZbF∘ZL∘Zai∘ZY∘Zbi∘Zaa) ?_);refine xg (yj L (q:=900) (cs':=[sv,.int .i64 at_,.int .i64 bad1,.int .i64 err1]) Z Z Z Z Z) ((Zg∘Z7∘ZcT∘Zab) ?_);exact ka L 900 (r:=xe rb _ u5) (rs:=[.cell 4 zir]) Z (fun _ _ h=>h) nq Z Z (fun _=>⟨_,qy Z,rfl,rfl⟩)
  ·have he:err1=0:=mh.1 h1;subst he;rw[nc h1];refine(ZQ∘Zby∘Zbz∘Zq) ?_;refine qh (yi L 900 (GRd rb sv ⟨at_,bad,0⟩) (.bool false) (r:=GRd rb sv ⟨at_,bad,0⟩) Z Z Z Z Z (fun u H C2 hH _ hr2 hC2=>ki (ng h0) hH hr2 hC2)) ((Zo∘Zcy∘ZbS) ?_);refine qh (jd L 900 (GRd rb sv ⟨at1,bad1,0⟩) (oV n) (r:=GRd rb sv ⟨at_,bad,0⟩) Z Z Z hfn Z hf) ((ZbF∘ZL∘Zai∘Zaw∘ZE∘ZcT∘Zab) ?_);exact ka L 900 (r:=xe rb _ u5) (rs:=[.cell 4 zir]) Z (fun _ _ h=>h) nq Z Z (fun _=>⟨_,qy Z,rfl,rfl⟩)
def Nx{gf:Rd->P4×Rd}{fr:Nat}(hfn:L.fn fr=some ()){C:Nat->Prop}(hB:zry B w)(hr:(GRd rb sv R).P B w C)(hC:ZCB C w B)
  (hf:R.err=0->∀ (u:World) (H:Heap) (C:Nat->Prop),zry H u->B.Le H->(GRd rb sv R).P H u C->(ZCB C u H)->RetX zrz fr (fst++cap) u H C (GRd rb sv (gf R).2) (gV (gf R).1)):
  RetX zrz 232 [kg rb,.func (.func fr) fst.toArray cap.toArray] w B C (GRd rb sv (um gf n3 R).2) (gV (um gf n3 R).1):=by
 unfold RetX;refine xh 900 (GRd rb sv R) Tryz.func232 Z Tryz.ntmps232 (np Z) hB hr hC ?_;rw[xf];obtain⟨⟨n,⟨at1,bad1,err1⟩⟩,hz⟩:∃ z,gf R=z:=⟨_,rfl⟩
 
 obtain⟨at_,bad,err⟩:=R;unfold um;rw[hz] at hf |-;dsimp only at hf |-;by_cases h0:err≠0
 ·rw[na h0];refine(ZQ∘Zby∘Zbz∘Zq) ?_;refine qh (yi L 900 (GRd rb sv ⟨at_,bad,err⟩) (.bool true) (r:=GRd rb sv ⟨at_,bad,err⟩) Z Z Z Z Z (fun u H C2 hH _ hr2 hC2=>ki (nf h0) hH hr2 hC2)) ((Zr∘Zy∘ZdM∘Zab) ?_);exact ka L 900 (r:=xe rb _ u5) (rs:=[.cell 4 zis]) Z (fun _ _ h=>h) nq Z Z (fun _=>⟨_,qy Z,rfl,rfl⟩)
 ·have he:err=0:=mh.1 h0;subst he;rw[nc h0];have hf:=hf rfl;by_cases h1:err1≠0
  ·rw[na h1];refine(ZQ∘Zby∘Zbz∘Zq) ?_;refine qh (yi L 900 (GRd rb sv ⟨at_,bad,0⟩) (.bool false) (r:=GRd rb sv ⟨at_,bad,0⟩) Z Z Z Z Z (fun u H C2 hH _ hr2 hC2=>ki (ng h0) hH hr2 hC2)) ((Zo∘Zcy∘ZbS) ?_);refine qh (jd L 900 (GRd rb sv ⟨at1,bad1,err1⟩) (gV n) (r:=GRd rb sv ⟨at_,bad,0⟩) Z Z Z hfn Z hf) ((ZbF∘ZL∘Zai∘ZY∘Zbi∘Zaa) ?_);refine xg (yj L (q:=900) (cs':=[sv,.int .i64 at_,.int .i64 bad1,.int .i64 err1]) Z Z Z Z Z) ((Zg∘Z7∘ZdM∘Zab) ?_);exact ka L 900 (r:=xe rb _ u5) (rs:=[.cell 4 zis]) Z (fun _ _ h=>h) nq Z Z (fun _=>⟨_,qy Z,rfl,rfl⟩)
  ·have he:err1=0:=mh.1 h1;subst he;rw[nc h1];refine(ZQ∘Zby∘Zbz∘Zq) ?_;refine qh (yi L 900 (GRd rb sv ⟨at_,bad,0⟩) (.bool false) (r:=GRd rb sv ⟨at_,bad,0⟩) Z Z Z Z Z (fun u H C2 hH _ hr2 hC2=>ki (ng h0) hH hr2 hC2)) ((Zo∘Zcy∘ZbS) ?_);refine qh (jd L 900 (GRd rb sv ⟨at1,bad1,0⟩) (gV n) (r:=GRd rb sv ⟨at_,bad,0⟩) Z Z Z hfn Z hf) ((ZbF∘ZL∘Zai∘Zaw∘ZE∘ZdM∘Zab) ?_);exact ka L 900 (r:=xe rb _ u5) (rs:=[.cell 4 zis]) Z (fun _ _ h=>h) nq Z Z (fun _=>⟨_,qy Z,rfl,rfl⟩)
def Sk{gf:Rd->U×Rd}{fr:Nat}(hfn:L.fn fr=some ()){C:Nat->Prop}(hB:zry B w)(hr:(GRd rb sv R).P B w C)(hC:ZCB C w B)
  (hf:R.err=0->∀ (u:World) (H:Heap) (C:Nat->Prop),zry H u->B.Le H->(GRd rb sv R).P H u C->(ZCB C u H)->RetX zrz fr (fst++cap) u H C (GRd rb sv (gf R).2) (uv (gf R).1)):
  RetX zrz 162 [kg rb,.func (.func fr) fst.toArray cap.toArray] w B C (GRd rb sv (um gf (n3,n3) R).2) (uv (um gf (n3,n3) R).1):=by
 unfold RetX;refine xh 900 (GRd rb sv R) Tryz.func162 Z Tryz.ntmps162 (np Z) hB hr hC ?_;rw[xf];obtain⟨⟨n,⟨at1,bad1,err1⟩⟩,hz⟩:∃ z,gf R=z:=⟨_,rfl⟩
 
 obtain⟨at_,bad,err⟩:=R;unfold um;rw[hz] at hf |-;dsimp only at hf |-;by_cases h0:err≠0
 ·rw[na h0];refine(ZQ∘Zby∘Zbz∘Zq) ?_;refine qh (yi L 900 (GRd rb sv ⟨at_,bad,err⟩) (.bool true) (r:=GRd rb sv ⟨at_,bad,err⟩) Z Z Z Z Z (fun u H C2 hH _ hr2 hC2=>ki (nf h0) hH hr2 hC2)) ((Zr∘Zy∘Zaq∘Zab) ?_);exact ka L 900 (r:=xe rb _ u5) (rs:=[.cell 4 tyU]) Z (fun _ _ h=>h) nq Z Z (fun _=>⟨_,qy Z,rfl,rfl⟩)
 ·have he:err=0:=mh.1 h0;subst he;rw[nc h0];have hf:=hf rfl;by_cases h1:err1≠0
  ·rw[na h1];refine(ZQ∘Zby∘Zbz∘Zq) ?_;refine qh (yi L 900 (GRd rb sv ⟨at_,bad,0⟩) (.bool false) (r:=GRd rb sv ⟨at_,bad,0⟩) Z Z Z Z Z (fun u H C2 hH _ hr2 hC2=>ki (ng h0) hH hr2 hC2)) ((Zo∘Zcy∘ZbS) ?_);refine qh (jd L 900 (GRd rb sv ⟨at1,bad1,err1⟩) (uv n) (r:=GRd rb sv ⟨at_,bad,0⟩) Z Z Z hfn Z hf) ((ZbF∘ZL∘Zai∘ZY∘Zbi∘Zaa) ?_);refine xg (yj L (q:=900) (cs':=[sv,.int .i64 at_,.int .i64 bad1,.int .i64 err1]) Z Z Z Z Z) ((Zg∘Z7∘Zaq∘Zab) ?_);exact ka L 900 (r:=xe rb _ u5) (rs:=[.cell 4 tyU]) Z (fun _ _ h=>h) nq Z Z (fun _=>⟨_,qy Z,rfl,rfl⟩)
  ·have he:err1=0:=mh.1 h1;subst he;rw[nc h1];refine(ZQ∘Zby∘Zbz∘Zq) ?_;refine qh (yi L 900 (GRd rb sv ⟨at_,bad,0⟩) (.bool false) (r:=GRd rb sv ⟨at_,bad,0⟩) Z Z Z Z Z (fun u H C2 hH _ hr2 hC2=>ki (ng h0) hH hr2 hC2)) ((Zo∘Zcy∘ZbS) ?_);refine qh (jd L 900 (GRd rb sv ⟨at1,bad1,0⟩) (uv n) (r:=GRd rb sv ⟨at_,bad,0⟩) Z Z Z hfn Z hf) ((ZbF∘ZL∘Zai∘Zaw∘ZE∘Zaq∘Zab) ?_);exact ka L 900 (r:=xe rb _ u5) (rs:=[.cell 4 tyU]) Z (fun _ _ h=>h) nq Z Z (fun _=>⟨_,qy Z,rfl,rfl⟩)
end Go.V.L4
namespace Go.V.L4
open Go.V Go.V.L2 Go.V.L3 Go.V.L8
def _root_.Zar(t:Wr Y->A:=by exact fun h=>(Za∘ZF) h.1)(h:Y):A:=t ⟨h⟩
def Dm(h:R.at_<=bs.length):(cz bs R).2.at_<=bs.length:=(Ya _ _ _ R h).1
def Gd(h:R.at_<=bs.length):(vl bs lim e R).2.at_<=bs.length:=by
 unfold vl;split
 ·dsimp only;rw[H7];exact Dm h
 ·exact Dm h
def de{f:Rd->α×Rd}{z:α}(h:R.at_<=m)(hf:(f R).2.at_<=m):(um f z R).2.at_<=m:=by
 unfold um;split
 ·exact h
 ·split
  ·exact h
  ·exact hf
def dt(h:R.at_<=bs.length):(jy bs lim R).2.at_<=bs.length:=de h (Gd h)
def ip(hl:lim<=1099511627776)(h:(jy bs lim R).2.err=0):∃ n:Nat,(jy bs lim R).1=(n:Int)/\n<=lim:=by
 unfold jy um at h |-;split at h
 ·rename_i h0;exact ni h h0
 ·rename_i h0;rw[nc h0];split at h
  ·rename_i h1;exact ni h h1
  ·rename_i h1;rw[nc h1];unfold Q8 vl at h |-;dsimp only at h |-;split at h
   ·rename_i h2;exfalso;unfold Rd.fail at h;split at h
    ·cases h
    ·rename_i h3;exact h3 h
   ·rename_i h2;rw[nc h2];exact⟨_,xd I I,by omega⟩
def Bf(bs:List Nat)(lim:Nat)(R:Rd):ByteArray×Rd:=
 if (jy bs lim R).2.err≠0\/((bs.length-(jy bs lim R).2.at_:Nat):Int)<(jy bs lim R).1 then (sZ,(jy bs lim R).2.fail bs.length 17)
 else (dh ((bs.drop (jy bs lim R).2.at_).take (jy bs lim R).1.toNat),⟨(jy bs lim R).2.at_+(jy bs lim R).1.toNat,(jy bs lim R).2.bad,(jy bs lim R).2.err⟩)
def uw(bs:List Nat)(lim:Nat):Rd->ByteArray×Rd:=um (Bf bs lim) sZ
def Gf{α β:Type}(f:Rd->α×Rd)(g:Rd->β×Rd)(R:Rd):(α×β)×Rd:=(((f R).1,(g (f R).2).1),(g (f R).2).2)
def O7(bs:List Nat):Rd->(ByteArray×ByteArray)×Rd:=um (Gf (uw bs 16) (uw bs 16)) (sZ,sZ)
def wx(bs:List Nat):Rd->P4×Rd:=um (Gf (O7 bs) (uw bs 16)) n3
def ob(bs:List Nat):Rd->U×Rd:=um (Gf (wx bs) (wx bs)) (n3,n3)
def zf2(h:R.at_<=bs.length):(Bf bs lim R).2.at_<=bs.length:=by
 have h1:=dt (lim:=lim) h;unfold Bf;split
 ·dsimp only;rw[H7];exact h1
 ·rename_i h2;dsimp only;omega
def Co(h:R.at_<=bs.length):(uw bs lim R).2.at_<=bs.length:=de h (zf2 h)
def X7(h:R.at_<=bs.length):(O7 bs R).2.at_<=bs.length:=de h (Co (Co h))
def Hz(h:R.at_<=bs.length):(wx bs R).2.at_<=bs.length:=de h (Co (X7 h))
def N6(h:R.at_<=bs.length):(ob bs R).2.at_<=bs.length:=de h (Hz (Hz h))
section
variable        {d:Nat}    
def Mf(L:Tabs P){tt:TypeId}{ag:Bool}{lo hi:Operand}{kl kh:IntKind}(i k:Nat){pl ph:Int}(hn:Nat.blt d n=true)(hg:gK ops κ ⟨some d,.slice tt (.tmp q) (some lo) (some hi) none,ty,pos,aft,g⟩=some true)(hx:κ q=some (.sat (BsV bs fu)))(ht:L.sl tt=some o3)(hl:L.ld o3=some (ag,1))
  (hlo:evK κ lo=some (.int kl pl)) (hhi:evK κ hi=some (.int kh ph)) (el:pl=i) (eh:ph=(i+k:Nat)) (hjs:i+k<=bs.length):StepOK P F B n ops O κ ⟨some d,.slice tt (.tmp q) (some lo) (some hi) none,ty,pos,aft,g⟩ d (.sat (BsV ((bs.drop i).take k) false)):=by
 have h:=wa (km:=.i64) (pm:=0) (P:=P) (F:=F) (B:=B) (O:=O) (ops:=ops) (aft:=aft) (ty:=ty) (pos:=pos) (ys:=((bs.drop i).take k).map fun b:Nat=>Value.int .u8 (b:Int)) L i (i+k) false hn hg hx ht hl ⟨hlo,el⟩ ⟨hhi,eh⟩ (fun h=>by cases h) I hjs (by rw[zoe,zoe,zrk,zpe,zpv]);have e:i+k-i=((bs.drop i).take k).length:=by rw[mw,m6];omega
 rw[e] at h;exact h
end
attribute [local irreducible] V N X VO Par StepOK Has Ret RetL RetO RetT ky RetX RetY Src
abbrev Ss:TypeId:=154
def zby{b2 b3:Nat}{bs:List Nat}(hlim:lim<=1099511627776)(hb:∀ b∈bs,b<=255)(hl:bs.length<=1099511627776)(hat:R.at_<=bs.length)(hB:zry B w)(hs:BsV bs fu sv B)(h2:B b2=some (.cells #[kg rb] Ss))(h3:B b3=some (.cells #[.int .i64 lim] 3))(hr:(GRd rb sv R).P B w C)(hC:ZCB C w B):
  RetX zrz 285 [kg b2,kg b3] w B C (GRd rb sv (Bf bs lim R).2) (.string (Bf bs lim R).1):=by
 obtain⟨p,c,rfl⟩:=jx hs;unfold RetX;refine xh 900 (GRd rb _ R) Tryz.func285 Z Tryz.ntmps285 (np Z) hB hr hC ?_;rw[xf];have hla:=dt (lim:=lim) hat;obtain⟨z,⟨at1,bad1,err1⟩,hz⟩:∃ z R1,jy bs lim R=(z,R1):=⟨_,_,rfl⟩
 have hlen:=fun(u:World) (H:Heap) (C2:Nat->Prop) (hH:zry H u) (hle:B.Le H) hr2 hC2=>hz ▸ len_ret (R:=R) (rb:=rb) (C:=C2) hlim hb hl hat hH (hs.le hle) hr2 hC2;have hlv:=fun h=>ip (bs:=bs) (R:=R) hlim h;unfold Bf;rw[hz] at hlv hla |-;dsimp only at hlv hla |-;by_cases h0:err1≠0
 ·rw[na (.inl h0)];refine Z4 (h:=?_);refine z7 (ql L (qw Z h2) Z Z Z Z) Z (z7 (ql L (qw Z h3) Z Z Z Z) Z (qh (yi L 900 (GRd rb (.slice p bs.length c) ⟨at1,bad1,err1⟩) (.int .i64 z) (r:=GRd rb (.slice p bs.length c) R) Z Z Z Z Z hlen) ((Zj∘ZS) ?_)));refine z7 (ql L (qw Z h2) Z Z Z Z) Z (qh (yi L 900 (GRd rb (.slice p bs.length c) ⟨at1,bad1,err1⟩) (.bool true) (r:=GRd rb (.slice p bs.length c) ⟨at1,bad1,err1⟩) Z Z Z Z Z (fun u H C2 hH _ hr2 hC2=>ki (nf h0) hH hr2 hC2)) ((Zcr∘Zcs) ?_));refine qp (id:=3) [(21,[900]),(200019,[900])] kj J (z9 (ql L (qw Z h2) Z Z Z Z) Z (z9 (ql L (qw Z h2) Z Z Z Z) Z ((Zcx∘Zdq∘ZcE) ?_)));refine xx (xc L 900 (GRd rb (.slice p bs.length c) ((⟨at1,bad1,err1⟩:Rd).fail bs.length 17)) (r:=GRd rb (.slice p bs.length c) ⟨at1,bad1,err1⟩) Z Z Z Z Z (fun u H C2 hH _ hr2 hC2=>iv hH hr2 hC2)) Z Z ((Zbh∘Zs∘Ze) ?_);exact ka L 900 (r:=xe rb _ u5) (rs:=[.tmp 2]) Z (fun _ _ h=>h) nq Z Z (fun _=>rfl)
 ·have he:err1=0:=mh.1 h0;subst he;obtain⟨k,rfl,hk⟩:=hlv rfl;by_cases h1:bs.length-at1<k
  ·rw[na (.inr I)];refine Z4 (h:=?_);refine z7 (ql L (qw Z h2) Z Z Z Z) Z (z7 (ql L (qw Z h3) Z Z Z Z) Z (qh (yi L 900 (GRd rb (.slice p bs.length c) ⟨at1,bad1,0⟩) (.int .i64 k) (r:=GRd rb (.slice p bs.length c) R) Z Z Z Z Z hlen) ((Zj∘ZS) ?_)));refine z7 (ql L (qw Z h2) Z Z Z Z) Z (qh (yi L 900 (GRd rb (.slice p bs.length c) ⟨at1,bad1,0⟩) (.bool false) (r:=GRd rb (.slice p bs.length c) ⟨at1,bad1,0⟩) Z Z Z Z Z (fun u H C2 hH _ hr2 hC2=>ki (ng h0) hH hr2 hC2)) (Zb (h:=?_)));refine z7 (ql L (qw Z h2) Z Z Z Z) Z (qh (yi L 900 (GRd rb (.slice p bs.length c) ⟨at1,bad1,0⟩) (.int .i64 (bs.length-at1:Nat)) (r:=GRd rb (.slice p bs.length c) ⟨at1,bad1,0⟩) Z Z Z Z Z (fun u H C2 hH hle hr2 hC2=>B6 hl hla hH (hs.le hle) hr2 hC2)) ((ZJ∘Zcs) ?_));refine qp (id:=3) [(21,[900]),(200019,[900])] kj J (z9 (ql L (qw Z h2) Z Z Z Z) Z (z9 (ql L (qw Z h2) Z Z Z Z) Z ((Zcx∘Zdq∘ZcE) ?_)));refine xx (xc L 900 (GRd rb (.slice p bs.length c) ((⟨at1,bad1,0⟩:Rd).fail bs.length 17)) (r:=GRd rb (.slice p bs.length c) ⟨at1,bad1,0⟩) Z Z Z Z Z (fun u H C2 hH _ hr2 hC2=>iv hH hr2 hC2)) Z Z ((Zbh∘Zs∘Ze) ?_);exact ka L 900 (r:=xe rb _ u5) (rs:=[.tmp 2]) Z (fun _ _ h=>h) nq Z Z (fun _=>rfl)
  ·rw[nc (fun h=>h.elim h0 (fun h=>h1 I)),znu];have hw1:IntKind.i64.wrap ((at1:Int)+(k:Int))=((at1+k:Nat):Int):=(xd I I).trans I;have hw2:IntKind.i64.wrap (((at1+k:Nat):Int)-(k:Int))=(at1:Int):=(xd I I).trans I;have hsb:∀ b∈(bs.drop at1).take k,b<=255:=fun b hb2=>hb b (zq6 (zqf hb2));refine Z4 (h:=?_);refine z7 (ql L (qw Z h2) Z Z Z Z) Z (z7 (ql L (qw Z h3) Z Z Z Z) Z (qh (yi L 900 (GRd rb (.slice p bs.length c) ⟨at1,bad1,0⟩) (.int .i64 k) (r:=GRd rb (.slice p bs.length c) R) Z Z Z Z Z hlen) ((Zj∘ZS) ?_)));refine z7 (ql L (qw Z h2) Z Z Z Z) Z (qh (yi L 900 (GRd rb (.slice p bs.length c) ⟨at1,bad1,0⟩) (.bool false) (r:=GRd rb (.slice p bs.length c) ⟨at1,bad1,0⟩) Z Z Z Z Z (fun u H C2 hH _ hr2 hC2=>ki (ng h0) hH hr2 hC2)) (Zb (h:=?_)));refine z7 (ql L (qw Z h2) Z Z Z Z) Z (qh (yi L 900 (GRd rb (.slice p bs.length c) ⟨at1,bad1,0⟩) (.int .i64 (bs.length-at1:Nat)) (r:=GRd rb (.slice p bs.length c) ⟨at1,bad1,0⟩) Z Z Z Z Z (fun u H C2 hH hle hr2 hC2=>B6 hl hla hH (hs.le hle) hr2 hC2)) ((Zan∘ZaT∘ZT) ?_));refine z7 (ql L (qw Z h2) Z Z Z Z) Z ((Zai∘Zar∘Zaa) ?_);refine xg (yj L (q:=900) (cs':=[.slice p bs.length c,.int .i64 (at1+k:Nat),.int .i64 bad1,.int .i64 0]) Z Z Z Z Z) (Zg (h:=?_));refine qp (id:=6) [(200033,[900]),(200037,[900]),(200043,[900])] kj J (z9 (ql L (qw Z h2) Z Z Z Z) Z (Zcx (h:=?_)));refine qz (StepOKR.seeV (qk L (q:=900) Z Z Z Z) hs) Z Z (z9 (ql L (qw Z h2) Z Z Z Z) Z ((Zcx∘Zdq∘Zm∘Zdr) ?_));refine z9 (ql L (qw Z h2) Z Z Z Z) Z ((Zcx∘Zdq) ?_);refine z9 (Mf L (fu:=fu) at1 k Z Z Z Z Z Z Z Z Z I) Z (z9 (cx (bs:=(bs.drop at1).take k) (fu:=false) hsb Z Z Z Z Z Z) Z (Zav (h:=?_)));exact ka L 900 (r:=xe rb _ u5) (rs:=[.tmp 2]) Z (fun _ _ h=>h) nq Z Z (fun _=>rfl)
end Go.V.L4
section
open Go.V
attribute [local irreducible] Has N Par Ret RetL Src StepOK V VO X
namespace Go.V.L3
open Go.V.L2
attribute [local irreducible] RetO RetT
abbrev tyI:TypeId:=3
end Go.V.L3
namespace Go.V
def Cv(n:Nat):ByteArray:=match n%3 with
 | 0=>⟨#[100,111,99]⟩
 | 1=>⟨#[102,111,108,100,101,114]⟩
 | _=>⟨#[103,114,111,117,112]⟩
def idS(n:Nat):ByteArray:=match n%5 with
 | 0=>⟨#[97]⟩
 | 1=>⟨#[98]⟩
 | 2=>⟨#[99,49]⟩
 | 3=>⟨#[100]⟩
 | _=>⟨#[114,111,111,116]⟩
def zgm(n:Nat):ByteArray:=match n%4 with
 | 0=>⟨#[118,105,101,119,101,114]⟩
 | 1=>⟨#[101,100,105,116,111,114]⟩
 | 2=>⟨#[109,101,109,98,101,114]⟩
 | _=>⟨#[112,97,114,101,110,116]⟩
def o9(n:Nat):chk (Cv n)=0/\(Cv n).size<=16:=by
 unfold Cv;split<;>decide+kernel
def Rc(n:Nat):chk (idS n)=0/\(idS n).size<=16:=by
 unfold idS;split<;>decide+kernel
def V7(n:Nat):chk (zgm n)=0/\(zgm n).size<=16:=by
 unfold zgm;split<;>decide+kernel
def T9(n:Nat):(ByteArray×ByteArray)×ByteArray:=((Cv n,idS (n/3)),zgm (n/15))
def zds(n:Nat):gh [(T9 n).1.1,(T9 n).1.2,(T9 n).2]=0:=by
 simp only[gh,T9,(o9 _).1,(Rc _).1,(V7 _).1,na]
def _root_.ZcI(t:Wr Y->A:=by intro h;refine z7 (Xn Z Z Z Z I E) Z ?_;exact h.1)(h:Y):A:=t ⟨h⟩
def _root_.ZeC(t:Wr Y->A:=by intro h;refine z7 (fq L 0 rfl Z Z Z I) Z ?_;exact h.1)(h:Y):A:=t ⟨h⟩
def _root_.Zfw(t:Wr Y->A:=by intro h;refine ZcI (h:=?_);refine z7 (fq L 1 rfl Z Z Z I) Z ?_;exact h.1)(h:Y):A:=t ⟨h⟩
def _root_.Zfx(t:Wr Y->A:=by intro h;refine ZcI (h:=?_);refine z7 (fq L 2 rfl Z Z Z I) Z ?_;exact h.1)(h:Y):A:=t ⟨h⟩
def Lj(n:Nat)(hB:zry B w):Ret zrz 67 [.int .i64 n] w B (fun v _=>v=.string (Cv n)):=by
 unfold Cv;have e:Int.tmod (n:Int) 3=((n%3:Nat):Int):=rfl;refine yo Tryz.func67 Z Tryz.ntmps67 (np Z) hB ?_;have hlt:=zpo n (show 0<3 by decide);rcases(by omega:n%3=0\/n%3=1\/n%3=2) with h | h | h
 ·have e0:Int.tmod (n:Int) 3=0:=by rw[e,h];rfl
  rw[h];refine(Z4∘ZR∘Za∘ZcI∘ZeC∘Zct∘Ze) ?_;exact yl2 L [.tmp 2]
 ·have e0:Int.tmod (n:Int) 3=1:=by rw[e,h];rfl
  rw[h];refine(Z4∘ZR∘Za∘Zfw∘Zct∘Ze) ?_;exact yl2 L [.tmp 2]
 ·have e0:Int.tmod (n:Int) 3=2:=by rw[e,h];rfl
  rw[h];refine(Z4∘ZR∘Za∘Zfx∘Zct∘Ze) ?_;exact yl2 L [.tmp 2]
def id_ret(n:Nat)(hB:zry B w):Ret zrz 68 [.int .i64 n] w B (fun v _=>v=.string (idS n)):=by
 unfold idS;have e:Int.tmod (n:Int) 5=((n%5:Nat):Int):=rfl;refine yo Tryz.func68 Z Tryz.ntmps68 (np Z) hB ?_;have hlt:=zpo n (show 0<5 by decide);rcases(by omega:n%5=0\/n%5=1\/n%5=2\/n%5=3\/n%5=4) with h | h | h | h | h
 ·have e0:Int.tmod (n:Int) 5=0:=by rw[e,h];rfl
  rw[h];refine(Z4∘ZR∘Za∘ZcI∘ZeC∘Zct∘Ze) ?_;exact yl2 L [.tmp 2]
 ·have e0:Int.tmod (n:Int) 5=1:=by rw[e,h];rfl
  rw[h];refine(Z4∘ZR∘Za∘Zfw∘Zct∘Ze) ?_;exact yl2 L [.tmp 2]
 ·have e0:Int.tmod (n:Int) 5=2:=by rw[e,h];rfl
  rw[h];refine(Z4∘ZR∘Za∘Zfx∘Zct∘Ze) ?_;exact yl2 L [.tmp 2]
 ·have e0:Int.tmod (n:Int) 5=3:=by rw[e,h];rfl
  rw[h];refine(Z4∘ZR∘Za∘ZcI) ?_;refine z7 (fq L 3 rfl Z Z Z I) Z ((Zct∘Ze) ?_);exact yl2 L [.tmp 2]
 ·have e0:Int.tmod (n:Int) 5=4:=by rw[e,h];rfl
  rw[h];refine(Z4∘ZR∘Za∘ZcI) ?_;refine z7 (fq L 4 rfl Z Z Z I) Z ((Zct∘Ze) ?_);exact yl2 L [.tmp 2]
def V6(n:Nat)(hB:zry B w):Ret zrz 69 [.int .i64 n] w B (fun v _=>v=.string (zgm n)):=by
 unfold zgm;have e:Int.tmod (n:Int) 4=((n%4:Nat):Int):=rfl;refine yo Tryz.func69 Z Tryz.ntmps69 (np Z) hB ?_;have hlt:=zpo n (show 0<4 by decide);rcases(by omega:n%4=0\/n%4=1\/n%4=2\/n%4=3) with h | h | h | h
 ·have e0:Int.tmod (n:Int) 4=0:=by rw[e,h];rfl
  rw[h];refine(Z4∘ZR∘Za∘ZcI∘ZeC∘Zct∘Ze) ?_;exact yl2 L [.tmp 2]
 ·have e0:Int.tmod (n:Int) 4=1:=by rw[e,h];rfl
  rw[h];refine(Z4∘ZR∘Za∘Zfw∘Zct∘Ze) ?_;exact yl2 L [.tmp 2]
 ·have e0:Int.tmod (n:Int) 4=2:=by rw[e,h];rfl
  rw[h];refine(Z4∘ZR∘Za∘Zfx∘Zct∘Ze) ?_;exact yl2 L [.tmp 2]
 ·have e0:Int.tmod (n:Int) 4=3:=by rw[e,h];rfl
  rw[h];refine(Z4∘ZR∘Za∘ZcI) ?_;refine z7 (fq L 3 rfl Z Z Z I) Z ((Zct∘Ze) ?_);exact yl2 L [.tmp 2]
end Go.V
end
end
