/- Texts on the way to WiresKnown, part 5: one behind another. -/
import Derived.Test.YtefilnnomholbaaGreatWiresKnownM4
import Derived.RecoverIn
import Derived.Sort.Walk7
import Derived.Sort.Walk13
set_option linter.unusedVariables false
set_option linter.unusedSimpArgs false
set_option maxRecDepth 20000
set_option maxHeartbeats 8000000
set_option linter.defProp false
open Go.Proofs Go.RowKit
section
variable{P:Go.Program}{K a b e f i j k m n rb sb t:Nat}{w:Go.World}{d:Array Int}{o:Go.Oper}{l:List (Int×Int)}{pv s sv v v2:Go.Value}{B B0 H:Go.V.Heap}{O:Go.V.Boxes}{Q:Go.Exit->Go.Act->Go.World->Prop}{ops:Array Go.Oper}{ty:Go.TypeId}{args cap cs rest:List Go.Value}{C:Nat->Prop}{fr0 r:Int}{φ:Go.Value->Go.V.Heap->Prop}{R:List (Option (List Go.V.L2.U))}{p:Int->Bool}{x:Int×Int}{bs:List Nat}{L0:List Int}{α:Type}{fu:Bool}{A Y:Prop}
namespace Go.V
section rec
variable {F:Fence} {nn:Nat}  {Q:Exit->Act->List Frame->World->Prop} {a:Act} {cs:List Frame} 
def Ep{id d:Nat}{l:List Oper}{cs':List Frame}(hro:F.round=none)(hd:o.dst=some d)(hop:o.op=.call { callee:=.builtin .recover,args:=#[],argTypes:=#[] })(hgd:o.guard=none)(hrec:(recoverD cs=some (v,cs'))\/(recoverD cs=none/\v=.nilIface/\cs'=cs))
  (h:wpOpsIn F nn P (o::l).toArray (fun e a' w'=>Q e a' cs' w') (List.range' 1 l.length) (a.put (some d) v) w):(Code.region id (o::l).toArray false).wpSIn F nn P Q a cs w:=fun b k hb hr hF hroom=>by
 have hlen:cs'.length=cs.length:=by
  rcases hrec with h | ⟨_,_,rfl⟩
  ·exact recoverD_length h
  ·rfl
 obtain⟨e,a',w',hq,harr⟩:=wp_opsIn _ _ _ h b k cs' (hr.trans hro.symm) hF (hlen ▸ hroom);have hsz:List.range (o::l).toArray.size=0::List.range' 1 l.length:=by rw[znh];simp [znu]
 have ho:(o::l).toArray[0]?=some o:=by simp
 have hw:Region.wanted o (yielded (o::l).toArray a.tmps)=true:=by unfold Region.wanted;rw[hgd]
 have hg:=stepGR_op (P:=P) (b:=b) (k:=k) (cs:=cs) (w:=w) (rest:=List.range' 1 l.length) ho hw;rw[hr,Oper.semAt_none] at hg;have hrun:(execOp a.eval o).run P w=.ok .recover w:=by unfold execOp;rw[hop];rfl
 have hfin:∀ v,(b.atR a (.inRegion (o::l).toArray (0::List.range' 1 l.length)::k)).finish v=b.atR (a.put o.dst v) (.inRegion (o::l).toArray (List.range' 1 l.length)::k):=by
  intro v;rw[Frame.finish_atR,ho];rfl
 have hk:(b.atR a (.inRegion (o::l).toArray (0::List.range' 1 l.length)::k)).kind=.deferred:=hb;have htr:=tryRecover_deferred hk cs
 have habout:∀ f,o.about P w a.eval=some f->F.fn f:=fun f hf=>by
  unfold Oper.about at hf;rw[hop] at hf;cases hf
 have hst:step P (lone (b.atR a (.inRegion (o::l).toArray (0::List.range' 1 l.length)::k)) cs w)=.next (lone (b.atR (a.put (some d) v) (.inRegion (o::l).toArray (List.range' 1 l.length)::k)) cs' w):=by
  refine step_lone_go ?_;rw[hg,<-hd,<-hfin];simp only[Frame.atR,hr] at htr |-;rcases hrec with h1 | ⟨h1,rfl,rfl⟩
  ·simp [stepG.apply,hrun,htr,h1]
  ·simp [stepG.apply,hrun,htr,h1]
 have hreg:step P (lone (b.atR a (.code (.region id (o::l).toArray false)::k)) cs w)=_:=stepR_region;rw[hsz] at hreg;exact⟨e,a',cs',w',hlen,hq,.of_steps (.one (fenced_calm hF hroom Z) hreg) (.of_steps (.one (fenced_oper hF hroom ho habout) hst) harr)⟩
end rec
section code
variable  {F:Fr}    {κ:Kap}  
def QR(P:Program)(F:Fr)(ops:Array Oper)(K:Nat)(Q:Exit->Act->World->Prop):Exit->Act->World->Prop:=fun _ a u=>wpOpsIn (FW F.r) 0 P ops Q (List.range' K (ops.size-K)) a u
def Xr{id:Nat}{l:List Oper}(K:Nat)(hK:Nat.ble K l.length=true)(h:VO P F B n O l.toArray κ (l.take K) (QR P F l.toArray K Q)):V P F B n O κ (.region id l.toArray false) Q:=fun a u hh=>by
 refine wpIn_region ?_;have hK:=np hK
 have hsplit:List.range l.toArray.size=List.range' 0 K++List.range' K (l.toArray.size-K):=by
  rw[znh];have:=zpb (s:=0) (m:=K) (n:=l.toArray.size-K);rw[zlf] at this;rw[this,zpc (by simpa using hK)]
 rw[hsplit]
 have key:∀ (m i:Nat) {a:Act} {u:World},i+m=K->Ops P l.toArray (fun a u=>QR P F l.toArray K Q .normal a u) ((l.drop i).take m) a u->
   wpOpsIn (FW F.r) 0 P l.toArray Q (List.range' i m++List.range' K (l.toArray.size-K)) a u:=by
  intro m
  induction m with
  | zero=>
   intro i a u hi ho;rw[zl2] at ho;exact ho
  | succ m ih=>
   intro i a u hi ho;have hil:i<l.length:=I;rw[zl4 hil,zna] at ho;have hg:l.toArray[i]?=some l[i]:=by rw[znz,zlq hil]
   rw[znu,zll,wpOpsIn_cons];exact After.wpOpIn hg (After.mono (fun a' u' hh'=>ih (i+1) I hh') ho)
 exact key K 0 I (by rw[zl5];exact h a u hh)
abbrev dfd(f:Nat)(cap:List Value):Deferred:={ target:=.fn (.func f) cap.toArray,args:=#[] }
def zes{pos:String}{aft:Array Edge}{fo:Operand}(hds:F.ds=[])(hr:F.r=none)
  (ho:ops[K]?=some ⟨none,.defer { callee:=.value fo,args:=#[],argTypes:=#[] },ty,pos,aft,none⟩) (hf:evK κ fo=some (.func (.func f) #[] cap.toArray))
  (h:VO P ⟨F.w0,F.r,[.u (dfd f cap)],F.L⟩ B n O ops κ (ops.toList.drop (K+1)) Q):N F B n O κ (QR P F ops K Q):=by
 rintro a u ⟨H,fp,hh⟩
 have hKs:K<ops.size:=by
  rcases m8 K ops.size with h | h
  ·exact h
  ·rw[zms h] at ho;cases ho
 unfold QR;rw[show ops.size-K=(ops.size-(K+1))+1 by omega,znu,wpOpsIn_cons];unfold wpOpIn;rw[ho];dsimp only;rw[if_pos (by unfold Region.wanted;rfl)];have e2:=hh.env (ops:=ops) (o:=⟨none,.defer { callee:=.value fo,args:=#[],argTypes:=#[] },ty,pos,aft,none⟩) (κ:=κ) (fun _ _=>rfl);have hfe:a.eval fo=.func (.func f) #[] cap.toArray:=e2.is_ fo _ (by simp [Op.operands,Call.operands]) hf;refine⟨fun _ _=>trivial,?_⟩;have hround:(FW F.r).round=none:=by rw[hr];rfl
 rw[hround,Oper.semAt_none]
 have hrun:(execOp a.eval ⟨none,.defer { callee:=.value fo,args:=#[],argTypes:=#[] },ty,pos,aft,none⟩).run P u=.ok (.defer (dfd f cap)) u:=by
  unfold execOp;dsimp only;simp only[resolve,hfe,Deferred.ofValue,nu,me,ny];simp [dfd]
 rw[hrun,Oper.uponIn_defer];have had:a.defers=[]:=by have:=hh.defers;rw[hds] at this;exact this
 refine de (fun _ _ h=>h) (ops.size-(K+1)) (K+1) I (h _ u ⟨H,fp,?_⟩);exact⟨hh.size,by show dfd f cap::a.defers=_;rw[had];rfl,by simp,fun D hD=>by simp at hD,hh.lent,hh.keep,hh.sub,hh.base,hh.fresh,hh.boxes,hh.apart,hh.slot,hh.owns,hh.mono⟩
def bp(P:Program)(f:Nat)(args:List Value)(w:World)(B:Heap)(C:Nat->Prop)(m m':FrameMode)(r:GR):Prop:=
 CallsDIn Fence.wide 0 P f args.toArray m w fun e u' w'=>e=.returned (.tuple #[])/\u'=m'/\∃ H,Grow C w B w' H/\∃ C',r.P H w' C'/\∀ k,C' k->(C k\/w.heap.size<=k)/\k<w'.heap.size/\H k=none
def zf0(P:Program)(fn:Func)(R:World->Prop):Exit->Act->World->Prop
 | .normal,a,w | .ret,a,w=>a.defers=[]/\(results fn a.tmps).run P w=.ok (.tuple #[]) w/\R w
 | _,_,_=>False
inductive RecM:FrameMode->FrameMode->Value->Prop where
 | idle:RecM .returning .returning .nilIface
 | caught (v:Value):RecM (.panicking [{ v:=v,recovered:=false }]) (.panicking [{ v:=v,recovered:=true }]) v
def zb1{fn:Func}{id d:Nat}{l:List Oper}{y:Code}{m m':FrameMode}(gs:Nat)(r0 r:GR)(hm:RecM m m' v)(hf:P.funcs[f]?=some fn)
  (hb:fn.body=some (.seq (.region id (o::l).toArray false) y)) (hn:fn.ntmps=n) (hs:args.length<=n) (hd:o.dst=some d) (hdn:Nat.blt d n=true) (hop:o.op=.call { callee:=.builtin .recover,args:=#[],argTypes:=#[] }) (hgd:o.guard=none) (hB:zpk B w) (hr:r0.P B w C) (hC:ZCB C w B)
  (h:VO P ⟨w,none,[],C⟩ B n [] (o::l).toArray (upd (upd (sk 0 args) gs (.own r0.res)) d (.is v)) l (Exit.then (fun a u=>y.wpIn (FW none) 0 P (zf0 P fn fun u=>∃ H,Grow C w B u H/\∃ C',r.P H u C'/\∀ k,C' k->(C k\/w.heap.size<=k)/\k<u.heap.size/\H k=none) a u) (zf0 P fn fun u=>∃ H,Grow C w B u H/\∃ C',r.P H u C'/\∀ k,C' k->(C k\/w.heap.size<=k)/\k<u.heap.size/\H k=none))):
  bp P f args w B C m m' r:=by
 refine callsDIn_of_wpSIn hf hb trivial fun c0 cs hu=>?_
 have hrec:∃ cs',((recoverD (c0::cs)=some (v,cs'))\/(recoverD (c0::cs)=none/\v=.nilIface/\cs'=c0::cs))/\cs'={ c0 with mode:=m' }::cs:=by
  cases hm with
  | idle=>exact⟨_,.inr ⟨by simp [recoverD,hu],rfl,rfl⟩,by rw[<-hu]⟩
  | caught v=>exact⟨_,.inl (by simp [recoverD,hu]),rfl⟩
 obtain⟨cs',hrec,rfl⟩:=hrec
 have hend:∀ e a u,zf0 P fn (fun u=>∃ H,Grow C w B u H/\∃ C',r.P H u C'/\∀ k,C' k->(C k\/w.heap.size<=k)/\k<u.heap.size/\H k=none) e a u->
   bodyPostS P fn c0 cs (fun e u' w'=>e=.returned (.tuple #[])/\u'=m'/\∃ H,Grow C w B w' H/\∃ C',r.P H w' C'/\∀ k,C' k->(C k\/w.heap.size<=k)/\k<w'.heap.size/\H k=none) e a ({ c0 with mode:=m' }::cs) u:=fun e a u he=>by
  cases e with
  | normal=>exact⟨he.1,m',rfl,_,he.2.1,rfl,rfl,he.2.2⟩
  | ret=>exact⟨he.1,m',rfl,_,he.2.1,rfl,rfl,he.2.2⟩
  | exit id=>exact he.elim
  | goto l=>exact he.elim
  | panic c=>exact he.elim
  | outgrown=>exact he.elim
 refine wpSIn_seq (Ep (cs':={ c0 with mode:=m' }::cs) Z hd hop hgd hrec ?_);subst hn;have h0:=cj (B:=B) C (fun k hk=>(hC k hk).1) hs hB (fun _=>noL)
 have h1:HasH ⟨w,none,[],C⟩ B [] fn.ntmps (upd (sk 0 args) gs (.own r0.res)) { tmps:=args.toArray++Array.replicate (fn.ntmps-args.toArray.size) undef,defers:=[] } w B _:=h0.putR (d:=gs) (r:=r0.res) rfl rfl (fun _ _=>rfl) hr (fun k hk=>⟨(hC k hk).1,(hC k hk).2,.inr hk,fun y hy=>by cases hy⟩) fun t r' _ ht=>by
  obtain⟨v,hv,_⟩:=uu _ _ _ _ ht;cases hv
 have h2:=h1.put (d:=d) (k:=.is v) (v:=v) (zo hdn) trivial rfl;have h3:=h _ w ⟨B,_,h2⟩;refine de (Q:=fun a u=>Exit.then (fun a u=>y.wpIn (FW none) 0 P (zf0 P fn fun u=>∃ H,Grow C w B u H/\∃ C',r.P H u C'/\∀ k,C' k->(C k\/w.heap.size<=k)/\k<u.heap.size/\H k=none) a u) (zf0 P fn fun u=>∃ H,Grow C w B u H/\∃ C',r.P H u C'/\∀ k,C' k->(C k\/w.heap.size<=k)/\k<u.heap.size/\H k=none) .normal a u) (r:=none) (fun a u hy=>?_) l.length 1 (by simp;omega) (by simpa using h3);exact wpSIn_of_wpIn Z (Go.wpIn_mono hy fun e a u he=>hend e a u he)
def zaa(L:Tabs P){fn:Func}(gs:Nat){r:GR}(hrs:fn.results=#[])(hd:F.ds=[])(hk:κ gs=some (.own r.res))(hs:Since F B0 B):∀ a u,Has F B O n κ a u->
  zf0 P fn (fun u=>∃ H,Grow F.L F.w0 B0 u H/\∃ C',r.P H u C'/\∀ k,C' k->(F.L k\/F.w0.heap.size<=k)/\k<u.heap.size/\H k=none) .normal a u:=fun a u hh=>by
 obtain⟨H,fp,hH⟩:=hh;have h0:=hH.defers;rw[hd] at h0;refine⟨h0,?_,H,⟨hH.keep,hH.sub,hs.le.trans hH.base,fun k hk hl=>(hH.fresh k hk hl).trans (hs.fresh k hk hl)⟩,HasH.ghost hk hH⟩;obtain⟨vs,h1,h2⟩:=j8 L hH (rs:=[]) hrs (K:=fun vs=>vs=[]) rfl;subst h2;exact h1
def Xv(L:Tabs P){fn:Func}(gs:Nat){r r':GR}(hrs:fn.results=#[])(hk:κ gs=some (.own r.res))(e:r=r')(hs:Since F B0 B)(hd:F.ds=[]:=by rfl):
  N F B n O κ (zf0 P fn fun u=>∃ H,Grow F.L F.w0 B0 u H/\∃ C',r'.P H u C'/\∀ k,C' k->(F.L k\/F.w0.heap.size<=k)/\k<u.heap.size/\H k=none):=by
 subst e;exact zaa L gs hrs hd hk hs
def LV(P:Program)(F:Fr)(B:Heap)(n:Nat)(O:Boxes)(κ:Kap)(fn:Func)(R:Ending->World->Prop):Prop:=∀ a u,Has F B O n κ a u->∃ v,(results fn a.tmps).run P u=.ok v u/\R (.returned v) u
def Ky(L:Tabs P){fn:Func}{R:Ending->World->Prop}{m m':FrameMode}(q:Nat){r r':GR}(hds:F.ds=[.u (dfd f cap)])(hfn:L.fn f=some ())(hq:κ q=some (.own r.res))(hm:m≠.run)(hm':settle m'=.returning)
  (hc:∀ u H C,zpk H u->B.Le H->r.P H u C->(ZCB C u H)->bp P f cap u H C m m' r') (h:LV P ⟨F.w0,F.r,[],F.L⟩ B n O (upd κ q (.own r'.res)) fn R):
  ∀ a u,Has F B O n κ a u->LeavesInM Fence.wide 0 P fn a.tmps R a.defers m u:=fun a u hh=>by
 obtain⟨H,fp,hH⟩:=hh;have h0:=hH.defers;rw[hds] at h0;rw[h0];obtain⟨hown,hM⟩:=hH.slot q _ hq;have hc:=hc u H (fp q) hH.sub hH.base hown fun k hk=>⟨(hM k hk).1,(hM k hk).2.1⟩
 refine⟨hm,.inr ⟨fun h=>(by cases h),.func f,cap.toArray,f,cap.toArray,Z,?_,fun _ _=>trivial,?_⟩⟩
 ·show(callFunc f (#[]++cap.toArray)).run P u=_;rw[fk L hfn];simp
 ·refine CallsDIn.mono hc fun e u' w' hp=>?_;obtain⟨rfl,rfl,H',g',C',hr',hC'⟩:=hp;show LeavesInM Fence.wide 0 P fn a.tmps R [] (settle u') w';rw[hm'];have h2:=hH.usePut (d:=q) (a':=a) (r':=r'.res) hq g' rfl rfl (fun _ _=>rfl) hr' hC';rw[jv] at h2;exact h { a with defers:=[] } w' ⟨H',_,h2.size,rfl,zmo,fun D hD=>(by cases hD),h2.lent,h2.keep,h2.sub,h2.base,h2.fresh,h2.boxes,h2.apart,h2.slot,h2.owns,h2.mono⟩
def zie(L:Tabs P){fn:Func}{R:Ending->World->Prop}(q:Nat){r r':GR}(hds:F.ds=[.u (dfd f cap)])(hfn:L.fn f=some ())(hq:κ q=some (.own r.res))
  (hc:∀ u H C,zpk H u->B.Le H->r.P H u C->(ZCB C u H)->bp P f cap u H C .returning .returning r') (h:LV P ⟨F.w0,F.r,[],F.L⟩ B n O (upd κ q (.own r'.res)) fn R) (hQ:∀ a u,bodyPostM Fence.wide 0 P fn R .ret a u->Q .ret a u):
  V P F B n O κ .ret Q:=fun a u hh=>wpIn_ret (hQ a u (Ky L q hds hfn hq (by simp) rfl hc h a u hh))
def zc7(L:Tabs P){fn:Func}{R:Ending->World->Prop}(q:Nat){r r':GR}(hds:F.ds=[.u (dfd f cap)])(hfn:L.fn f=some ())(hq:κ q=some (.own r.res))
  (hc:∀ u H C,zpk H u->B.Le H->r.P H u C->(ZCB C u H)->bp P f cap u H C (.panicking [{ v:=pv,recovered:=false }]) (.panicking [{ v:=pv,recovered:=true }]) r') (h:LV P ⟨F.w0,F.r,[],F.L⟩ B n O (upd κ q (.own r'.res)) fn R)
  (hQ:∀ a u,bodyPostM Fence.wide 0 P fn R (.panic [{ v:=pv,recovered:=false }]) a u->Q (.panic [{ v:=pv,recovered:=false }]) a u):XP F B n O κ pv Q:=fun a u hh=>hQ a u (Ky L q hds hfn hq (by simp) rfl hc h a u hh)
def zhl(L:Tabs P){fn:Func}{rs:List ResultVar}(hrs:fn.results=rs.toArray)(hs:Since F B0 B)(h:∀ u H,zpk H u->B.Le H->Cy L F B O κ H rs [] (fun vs=>φ (tup vs) H)):LV P F B n O κ fn (pj F.w0 B0 F.L fun v H _=>φ v H):=fun a u hh=>by
 obtain⟨H,fp,hH⟩:=hh;obtain⟨vs,h1,h2⟩:=j8 L hH hrs (h u H hH.sub hH.base);exact⟨_,h1,_,rfl,H,⟨hH.keep,hH.sub,hs.le.trans hH.base,fun k hk hl=>(hH.fresh k hk hl).trans (hs.fresh k hk hl)⟩,h2⟩
def zaw(L:Tabs P){fn:Func}(gs:Nat){r0:GR}{r:Res}{rs:List ResultVar}(hrs:fn.results=rs.toArray)(hs:Since F B0 B)(hk:κ gs=some (.own r0.res))
  (h:∀ H,Cy L F B O κ H rs [] (fun vs=>tup vs=v)) (hr:∀ H u C,B.Le H->zpk H u->r0.P H u C->r.P v H u C) (hL:F.L=noL:=by rfl):LV P F B n O κ fn (pj F.w0 B0 F.L (zf1 F.w0 r)):=fun a u hh=>by
 obtain⟨H,fp,hH⟩:=hh;obtain⟨vs,h1,h2⟩:=j8 L hH hrs (h H);obtain⟨hown,hM⟩:=hH.slot gs _ hk;refine⟨_,h1,_,rfl,H,⟨hH.keep,hH.sub,hs.le.trans hH.base,fun k hk hl=>(hH.fresh k hk hl).trans (hs.fresh k hk hl)⟩,fp gs,?_,fun k hk=>?_⟩
 ·rw[h2];exact hr H u (fp gs) hH.base hH.sub hown
 ·obtain⟨g1,g2,g3,_⟩:=hM k hk;refine⟨?_,g1,g2⟩;rcases g3 with g3 | g3
  ·exact g3
  ·have g3':F.L k:=g3;rw[hL] at g3';exact g3'.elim
def Fy(q g1:Nat){fn:Func}{R:Ending->World->Prop}{r1 r2:Res}(hk:κ q=some (.own (ei r1 r2)))(hg1:∀ v v' H u C,r2.P v H u C->r2.P v' H u C)(h:LV P F B n O (upd (upd κ q (.own r1)) g1 (.own r2)) fn R)(hne:q≠g1:=by decide):LV P F B n O κ fn R:=fun a u hh=>h a u (hh.part hne hg1 hk)
def lh(t q:Nat){fn:Func}{R:Ending->World->Prop}(hk:κ q=some (.own (xk b cs ty)))(ht:κ t=some (.is (.pointer (some ⟨b,0,none⟩))))(h:LV P F B n O (upd (upd κ q fw) t (.own (gj cs ty))) fn R):LV P F B n O κ fn R:=fun a u hh=>h a u (hh.release hk ht)
def Nw(q g1:Nat){r1 r2:Res}(hk:κ q=some (.own r1))(hk1:κ g1=some (.own r2))(hg1:∀ v v' H u C,r2.P v H u C->r2.P v' H u C)(h:XP F B n O (upd (upd κ g1 fw) q (.own (ei r1 r2))) pv Q)(hne:q≠g1:=by decide):XP F B n O κ pv Q:=fun a u hh=>h a u (hh.join2 hne hg1 hk hk1)
end code
end Go.V
namespace Go.V.L10
open Go.V Go.V.L2 Go.V.L8
def kpt(R:List (Option (List U)))(r:Int):Option (List U):=if 0<r then (R[(r-1).toNat]?).join else none
def js(R:List (Option (List U))):List Int:=((List.range R.length).filter fun i=>((R[i]?).join).isSome).map fun i=>((i+1:Nat):Int)
def ib(R:List (Option (List U)))(i:Nat):kpt R ((i+1:Nat):Int)=(R[i]?).join:=by
 unfold kpt;rw[na I,show(((i+1:Nat):Int)-1).toNat=i by omega]
def ol(h:(kpt R r).isSome=true):0<r/\r<=R.length:=by
 unfold kpt at h;split at h
 ·rename_i h0;refine⟨h0,?_⟩
  cases hr:R[(r-1).toNat]? with
  | none=>rw[hr] at h;cases h
  | some x=>have:=get_lt hr;omega
 ·cases h
def u9:r∈js R↔(kpt R r).isSome=true:=by
 unfold js;rw[zlb];constructor
 ·rintro⟨i,hi,rfl⟩;rw[zl3] at hi;rw[ib];exact hi.2
 ·intro h;have hb:=ol h;obtain⟨i,rfl⟩:∃ i:Nat,r=((i+1:Nat):Int):=⟨(r-1).toNat,by omega⟩
  rw[ib] at h;exact⟨i,zl3.2 ⟨List.mem_range.2 I,h⟩,rfl⟩
def iu(R:List (Option (List U))):Sst cP (js R):=by
 unfold js Sst;rw[zou];refine(List.Pairwise.filter _ zoe).imp ?_;intro a b h;exact Xi.2 I
section
variable {Y:Type}
def zat(k:Int):ul k ([]:List (Int×Y))=none:=rfl
def fy{k:Int}:∀ {l:List (Int×Y)},(ul k l).isSome=true↔k∈l.map Prod.fst
 | []=>by simp [zat]
 | p::l=>by
  rw[uc,mq,nw];by_cases h:k=p.1
  ·rw[na h];simp [h]
  ·rw[nc h,fy];simp [h]
def di{k:Int}{y:Y}:∀ {l:List (Int×Y)},ul k l=some y->(k,y)∈l
 | [],h=>by cases h
 | p::l,h=>by
  rw[uc] at h;by_cases e:k=p.1
  ·rw[na e] at h;cases h;rw[e];exact mb ..
  ·rw[nc e] at h;exact mc _ (di h)
def B6{k:Int}{y:Y}:∀ {l:List (Int×Y)},(l.map Prod.fst).Nodup->(k,y)∈l->ul k l=some y
 | [],_,h=>by cases h
 | p::l,hn,h=>by
  rw[mq,zm9] at hn;rw[uc];rcases nw.1 h with e | h
  ·subst e;rw[na rfl]
  ·rw[nc (fun e:k=p.1=>hn.1 (by rw[<-e];exact zm5 (f:=Prod.fst) h)),B6 hn.2 h]
end
structure MapOK{Y:Type}(es:List (Int×(List U×Y)))(R:List (Option (List U))):Prop where
 nd:(es.map Prod.fst).Nodup
 get:∀ r,(ul r es).map Prod.fst=kpt R r
def MapOK.mem{Y:Type}{es:List (Int×(List U×Y))}(h:MapOK es R):r∈es.map Prod.fst↔r∈js R:=by
 rw[<-fy,u9,<-h.get r,zn8]
def zac{a b:List Int}(ha:a.Nodup)(hb:b.Nodup)(h:∀ x,x∈a↔x∈b):a.length=b.length:=((List.perm_ext_iff_of_nodup ha hb).2 h).length_eq
def MapOK.len{Y:Type}{es:List (Int×(List U×Y))}(h:MapOK es R):es.length=(js R).length:=by
 rw[<-mn (f:=Prod.fst)];exact zac h.nd ((iu R).nodup gt) fun _=>h.mem
def za0(R:List (Option (List U)))(t:List U)(r:Int):kpt (R++[some t]) r=if r=((R.length+1:Nat):Int) then some t else kpt R r:=by
 by_cases h:r=((R.length+1:Nat):Int)
 ·rw[na h,h,ib];simp
 ·rw[nc h];unfold kpt;by_cases h0:0<r
  ·rw[na h0,na h0];rcases m8 (r-1).toNat R.length with hlt | hge
   ·rw[zml hlt]
   ·rw[zlu (by rw[nr,zmd];omega),zlu hge]
  ·rw[nc h0,nc h0]
def MapOK.add{Y:Type}{es:List (Int×(List U×Y))}(h:MapOK es R)(t:List U)(y:Y):MapOK (Nf ((R.length+1:Nat):Int) (t,y) es) (R++[some t])/\Nf ((R.length+1:Nat):Int) (t,y) es=es++[(((R.length+1:Nat):Int),(t,y))]:=by
 have hn:((R.length+1:Nat):Int)∉es.map Prod.fst:=fun hm=>by
  have:=ol (u9.1 (h.mem.1 hm));omega
 have hf:dw ((R.length+1:Nat):Int) es 0=none:=by
  have h1:¬ (ul ((R.length+1:Nat):Int) es).isSome=true:=fun hs=>hn (fy.1 hs);unfold ul at h1
  cases hm:dw ((R.length+1:Nat):Int) es 0 with
  | none=>rfl
  | some q=>rw[hm] at h1;exact ni rfl h1
 have he:Nf ((R.length+1:Nat):Int) (t,y) es=es++[(((R.length+1:Nat):Int),(t,y))]:=oe hf;refine⟨⟨?_,fun r=>?_⟩,he⟩
 ·rw[he,zl1,List.nodup_append];refine⟨h.nd,zmc _ _,fun a ha b hb=>?_⟩;simp only[mq,zlo,mz] at hb;subst hb;exact fun e=>hn (e ▸ ha)
 ·rw[Oz,za0];by_cases e:r=((R.length+1:Nat):Int)
  ·rw[na e,na e];rfl
  ·rw[nc e,nc e,h.get]
structure Sto where
 R:List (Option (List U))
 P:List Int
def newS:Sto:=⟨[some []],[]⟩
def atS(S:Sto)(r:Int):List U×Int:=match kpt S.R (if r=0 then S.R.length else r) with
 | some t=>(t,0)
 | none=>([],14)
def zis(S:Sto)(r:Int)(un:Bool):Sto×Int:=
 if (kpt S.R r).isSome=true then (if un then (if (Sm S.P r).2=0 then (⟨S.R,(Sm S.P r).1⟩,0) else (S,(Sm S.P r).2)) else (⟨S.R,S.P++[r]⟩,0)) else (S,14)
end Go.V.L10
variable{S:Go.V.L10.Sto}
section
open Go.V
attribute [local irreducible] Has N Par Ret RetL RetO RetX Src StepOK V VO X kr
namespace Go.V.So
open Go.Sort
abbrev lt:Int->Int->Bool:=ltInt
abbrev tyU:TypeId:=63
def isnanU(a:Int)(hB:zpk B w):Ret zpl 263 [.int .u64 a] w B (fun v _=>v=.bool false):=by
 refine yf Tryz.func263 Z Tryz.ntmps263 (np Z) hB ((Z5∘Zb∘ZG∘Zd) ?_);exact ye2 L [.tmp 2]
def zjl(a b:Int)(hB:zpk B w):Ret zpl 275 [.int .u64 a,.int .u64 b] w B (fun v _=>v=.bool (lt a b)):=by
 unfold lt ltInt;refine yf Tryz.func275 Z Tryz.ntmps275 (np Z) hB ?_;by_cases h:a<b
 ·rw[nf h];refine(Z5∘Za) ?_;refine z81 L Z (fun u H hH _=>isnanU _ hH) ?_;refine(Zbr∘Zz∘Zai∘Zg∘Zd) ?_;exact ye2 L [.tmp 4]
 ·rw[ng h];refine(Z5∘Za) ?_;refine z81 L Z (fun u H hH _=>isnanU _ hH) ?_;refine(Zbr∘Zz∘Z0∘Zg∘Zd) ?_;exact ye2 L [.tmp 4]
def jr{a b:Int}{f:Bool}(h:lt a b=f)(hB:zpk B w):Ret zpl 275 [.int .u64 a,.int .u64 b] w B (fun v _=>v=.bool f):=h ▸ zjl a b hB
def ins_ret{cap:Nat}(hab:a<=e)(he:e<=d.size)(hm:d.size=m)(hm1:m<=100000)(hB:zpk B w)
  (hr:(xa b (uC d++rest) tyU).P B w C) (hC:ZCB C w B):
  kr zpl 269 [.slice (some ⟨b,0,none⟩) m cap,.int .i64 a,.int .i64 e] w B C (xa b (uC (insertionSort lt d a e)++rest) tyU):=by
 unfold kr;refine yr 900 (xa b (uC d++rest) tyU) Tryz.func269 Z Tryz.ntmps269 (np Z) hB hr hC ?_;rw[xb];have hw0:IntKind.i64.wrap ((a:Int)+1)=((a+1:Nat):Int):=yz I I;refine(ZL∘Za∘Zv∘Zbt) ?_;refine xo (fun s:Nat×Array Int=>[(0,.is (.slice (some ⟨b,0,none⟩) m cap)),(1,.is (.int .i64 a)),(2,.is (.int .i64 e)),(6,.is (.int .i64 s.1)),(900,.own (xk b (uC s.2++rest) tyU))]) (fun s=>s.1<=e+1/\a<s.1/\s.2.size=m/\insOuter lt a e s.1 s.2=insertionSort lt d a e) (fun s=>e+1-s.1) (a+1,d) ⟨by omega,by omega,hm,rfl⟩ ⟨Z,Z,Z,Z,Z,nm⟩ ?_;rintro⟨i,D⟩ ⟨hi,hai,hD,hO⟩;dsimp only at hi hai hD hO |-;by_cases hlt:i<e
 ·rw[insOuter,na hlt] at hO;refine(Zh∘Z4∘Zb∘ZaH∘ZbF∘Zu∘Zbt) ?_;refine xo (fun t:Nat×Array Int=>[(0,.is (.slice (some ⟨b,0,none⟩) m cap)),(1,.is (.int .i64 a)),(2,.is (.int .i64 e)),(6,.is (.int .i64 i)),(7,.is (.int .i64 t.1)),(900,.own (xk b (uC t.2++rest) tyU))]) (fun t=>t.1<=i/\t.2.size=m/\insInner lt a t.1 t.2=insInner lt a i D) (fun t=>t.1) (i,D) ⟨ns _,hD,rfl⟩ ⟨Z,Z,Z,Z,Z,Z,nm⟩ ?_;rintro⟨j,zph⟩ ⟨hj,hE,hI⟩;dsimp only at hj hE hI |-;rcases j with _ | j
  ·rw[insInner] at hI;rw[hI];refine(Zh∘Zdo∘Zn∘Zdg∘ZbV∘Zb3∘Za5∘Za2∘ZaB∘Zq∘ZbR) ?_;exact ym (x:=(i,D)) (i+1,insInner lt a i D) ⟨by dsimp only;omega,by dsimp only;omega,by dsimp only;rw[<-hI];exact hE,hO⟩ M ⟨Z,Z,Z,Z,Z,trivial⟩
  ·by_cases hja:a<j+1
   ·have hw1:IntKind.i64.wrap (((j+1:Nat):Int)-1)=(j:Int):=yz I I |>.trans I;obtain⟨r1,q1⟩:=ux (rest:=rest) (show j+1<zph.size by omega) (0+(j+1)*1) rfl;obtain⟨r2,q2⟩:=ux (rest:=rest) (show j<zph.size by omega) (0+j*1) rfl
    cases hc:lt zph[j+1]! zph[j]! with
    | true=>
     rw[insInner,na (by rw[hc];simp;omega)] at hI;have s1:=vg (rest:=rest) zph[j]! (show j+1<zph.size by omega) (0+(j+1)*1) rfl;have b1:=vh (rest:=rest) (show j+1<zph.size by omega) (0+(j+1)*1) rfl;have hz:j<(zph.setIfInBounds (j+1) zph[j]!).size:=by rw[zlv];omega
     have s2:=vg (rest:=rest) zph[j+1]! hz (0+j*1) rfl;have b2:=vh (rest:=rest) hz (0+j*1) rfl;rw[gn] at s2;refine Zh (h:=?_);refine qh (id:=4) [(200023,[900]),(200028,[900])] x8 T ((Zn∘ZcV∘Zbo∘Zm) ?_);refine qq (qb L (q:=900) Z Z Z q1) Z Z ((ZbC∘Zm) ?_);refine qq (qb L (q:=900) Z Z Z q2) Z Z (zh1 L Z (fun u H hH _=>jr hc hH) ?_);refine(Zci∘Zae∘Zam) ?_;refine qh (id:=6) [(200042,[900]),(200046,[900]),(100047,[900]),(100048,[900])] x8 T ((Zn∘ZbC∘ZbC∘Zm) ?_);refine qq (qb L (q:=900) Z Z Z q2) Z Z (ZJ (h:=?_));refine qq (qb L (q:=900) Z Z Z q1) Z Z (Zm (h:=?_));refine xl (yc L (q:=900) Z Z b1 Z s1) Z (Zm (h:=?_));refine xl (yc L (q:=900) Z Z b2 Z s2) Z ((ZbI∘ZaB∘Zar∘Za6∘ZaU) ?_);exact ym (x:=(j+1,zph)) (j,swp zph (j+1) j) ⟨by dsimp only;omega,by dsimp only;rw[wj];exact hE,hI⟩ M ⟨Z,Z,Z,Z,Z,Z,trivial⟩
    | false=>
     rw[insInner,nc (by rw[hc];simp)] at hI;refine Zh (h:=?_);refine qh (id:=4) [(200023,[900]),(200028,[900])] x8 T ((Zn∘ZcV∘Zbo∘Zm) ?_);refine qq (qb L (q:=900) Z Z Z q1) Z Z ((ZbC∘Zm) ?_);refine qq (qb L (q:=900) Z Z Z q2) Z Z (zh1 L Z (fun u H hH _=>jr hc hH) ?_);refine(Za5∘Za2∘ZaB) ?_;rw[hI];refine(Zq∘ZbR) ?_;exact ym (x:=(i,D)) (i+1,insInner lt a i D) ⟨by dsimp only;omega,by dsimp only;omega,by dsimp only;rw[<-hI];exact hE,hO⟩ M ⟨Z,Z,Z,Z,Z,trivial⟩
   ·rw[insInner,nc (by simp;omega)] at hI;rw[hI];refine(Zh∘Zdo∘Zn∘Zdg∘ZbV∘Zb3∘Za5∘Za2∘ZaB∘Zq∘ZbR) ?_;exact ym (x:=(i,D)) (i+1,insInner lt a i D) ⟨by dsimp only;omega,by dsimp only;omega,by dsimp only;rw[<-hI];exact hE,hO⟩ M ⟨Z,Z,Z,Z,Z,trivial⟩
 ·rw[insOuter,nc hlt] at hO;subst hO;refine(Zh∘Z4∘Zb∘Z0∘Za9∘Za2) ?_;exact xp L 900 (r:=xa b _ tyU) Z (fun _ _ h=>h) nq Z Z
def _root_.Zdk(t:Wr Y->A:=by intro h;refine z8 (zcj Z Z Z Z I E) Z ?_;exact h.1)(h:Y):A:=t ⟨h⟩
def _root_.ZdV(t:Wr Y->A:=by intro h;refine qh (id:=5) [(200044,[900]),(200050,[900])] x8 T ?_;exact h.1)(h:Y):A:=t ⟨h⟩
def _root_.ZeR(t:Wr Y->A:=by intro h;refine qh (id:=6) [(200066,[900]),(200072,[900]),(100073,[900]),(100074,[900])] x8 T ?_;exact h.1)(h:Y):A:=t ⟨h⟩
def _root_.Ze4(t:Wr Y->A:=by intro h;refine qh (id:=3) [(200027,[900]),(200034,[900])] x8 T ?_;exact h.1)(h:Y):A:=t ⟨h⟩
def rev_ret{cap:Nat}(hab:a<e)(he:e<=d.size)(hm:d.size=m)(hm1:m<=100000)(hB:zpk B w)
  (hr:(xa b (uC d++rest) tyU).P B w C) (hC:ZCB C w B):
  kr zpl 273 [.slice (some ⟨b,0,none⟩) m cap,.int .i64 a,.int .i64 e] w B C (xa b (uC (reverseRange d a e)++rest) tyU):=by
 unfold kr;refine yr 900 (xa b (uC d++rest) tyU) Tryz.func273 Z Tryz.ntmps273 (np Z) hB hr hC ?_;rw[xb];have hw0:IntKind.i64.wrap ((e:Int)-1)=((e-1:Nat):Int):=yz I I |>.trans I;refine(ZL∘Za∘ZaM∘Za6∘Zbt) ?_;refine xo (fun s:(Nat×Nat)×Array Int=>[(0,.is (.slice (some ⟨b,0,none⟩) m cap)),(6,.is (.int .i64 s.1.1)),(7,.is (.int .i64 s.1.2)),(900,.own (xk b (uC s.2++rest) tyU))]) (fun s=>s.1.1<=m/\s.1.2<m/\s.2.size=m/\reverseLoop s.1.1 s.1.2 s.2=reverseRange d a e) (fun s=>s.1.2-s.1.1) ((a,e-1),d) ⟨by dsimp only;omega,by dsimp only;omega,hm,rfl⟩ ⟨Z,Z,Z,Z,trivial⟩ ?_;rintro⟨⟨i,j⟩,zph⟩ ⟨hi,hj,hE,hO⟩;dsimp only at hi hj hE hO |-;by_cases hlt:i<j
 ·rw[reverseLoop,na hlt] at hO;have hw1:IntKind.i64.wrap ((i:Int)+1)=((i+1:Nat):Int):=yz I I;have hw2:IntKind.i64.wrap ((j:Int)-1)=((j-1:Nat):Int):=yz I I |>.trans I;obtain⟨_,qj⟩:=ux (rest:=rest) (show j<zph.size by omega) (0+(j)*1) rfl;obtain⟨_,qi⟩:=ux (rest:=rest) (show i<zph.size by omega) (0+(i)*1) rfl;have s1:=vg (rest:=rest) zph[j]! (show i<zph.size by omega) (0+(i)*1) rfl;have b1:=vh (rest:=rest) (show i<zph.size by omega) (0+(i)*1) rfl;have hz:j<(zph.setIfInBounds (i) zph[j]!).size:=by rw[zlv];omega
  have s2:=vg (rest:=rest) zph[i]! hz (0+(j)*1) rfl;have b2:=vh (rest:=rest) hz (0+(j)*1) rfl;rw[gn] at s2;refine(Zh∘ZbK∘ZaH∘ZcR) ?_;refine qh (id:=3) [(200021,[900]),(200025,[900]),(100026,[900]),(100027,[900])] x8 T ((Zn∘Zn∘ZJ) ?_);refine qq (qb L (q:=900) Z Z Z qj) Z Z (ZJ (h:=?_));refine qq (qb L (q:=900) Z Z Z qi) Z Z (Zm (h:=?_));refine xl (yc L (q:=900) Z Z b1 Z s1) Z (Zm (h:=?_));refine xl (yc L (q:=900) Z Z b2 Z s2) Z ((ZU∘Z2∘Zv∘Zd∘Zar∘Za6∘Zal) ?_);exact ym (x:=((i,j),zph)) ((i+1,j-1),swp zph i j) ⟨by dsimp only;omega,by dsimp only;omega,by dsimp only;rw[wj];exact hE,hO⟩ M ⟨Z,Z,Z,Z,trivial⟩
 ·rw[reverseLoop,nc hlt] at hO;subst hO;refine(Zh∘ZbK∘Z0∘Za9∘Za2) ?_;exact xp L 900 (r:=xa b _ tyU) Z (fun _ _ h=>h) nq Z Z
def Oi{cap lo hi first:Nat}(hlo:lo<=hi)(hf:first+hi<=d.size)(hm:d.size=m)(hm1:m<=100000)(hB:zpk B w)
  (hr:(xa b (uC d++rest) tyU).P B w C) (hC:ZCB C w B):
  kr zpl 305 [.slice (some ⟨b,0,none⟩) m cap,.int .i64 lo,.int .i64 hi,.int .i64 first] w B C (xa b (uC (siftDown lt hi first lo d)++rest) tyU):=by
 unfold kr;refine yr 900 (xa b (uC d++rest) tyU) Tryz.func305 Z Tryz.ntmps305 (np Z) hB hr hC ?_;rw[xb];refine(ZL∘Za∘Zbt) ?_;refine xo (fun s:Nat×Array Int=>[(0,.is (.slice (some ⟨b,0,none⟩) m cap)),(2,.is (.int .i64 hi)),(3,.is (.int .i64 first)),(8,.is (.int .i64 s.1)),(900,.own (xk b (uC s.2++rest) tyU))]) (fun s=>s.1<=hi/\s.2.size=m/\siftDown lt hi first s.1 s.2=siftDown lt hi first lo d) (fun s=>hi-s.1) (lo,d) ⟨hlo,hm,rfl⟩ ⟨Z,Z,Z,Z,Z,nm⟩ ?_;rintro⟨r,zph⟩ ⟨hr0,hE,hO⟩;dsimp only at hr0 hE hO |-;have hw1:IntKind.i64.wrap (2*(r:Int))=((2*r:Nat):Int):=yz I I |>.trans I;have hw2:IntKind.i64.wrap (((2*r:Nat):Int)+1)=((2*r+1:Nat):Int):=yz I I;by_cases hend:hi<=2*r+1
 ·rw[siftDown,dif_pos I] at hO;subst hO;refine(ZF∘Zbf∘Zdq∘Zi∘ZbK∘ZbL∘ZdM) ?_;refine aw Z (ZcZ (h:=?_));exact xp L 900 (r:=xa b _ tyU) Z (fun _ _ h=>h) nq Z Z
 ·rw[siftDown,dif_neg I] at hO;have hw3:IntKind.i64.wrap (((2*r+1:Nat):Int)+1)=((2*r+2:Nat):Int):=yz I I;have hw4:IntKind.i64.wrap ((first:Int)+((2*r+1:Nat):Int))=((first+(2*r+1):Nat):Int):=yz I I;have hw5:IntKind.i64.wrap (((first+(2*r+1):Nat):Int)+1)=((first+(2*r+2):Nat):Int):=yz I I;have hw6:IntKind.i64.wrap ((first:Int)+(r:Int))=((first+r:Nat):Int):=yz I I;have hw7:IntKind.i64.wrap ((first:Int)+((2*r+2:Nat):Int))=((first+(2*r+2):Nat):Int):=yz I I;obtain⟨_,qr⟩:=ux (rest:=rest) (show first+r<zph.size by omega) (0+(first+r)*1) rfl;by_cases h2:2*r+2<hi
  ·obtain⟨_,q1⟩:=ux (rest:=rest) (show first+(2*r+1)<zph.size by omega) (0+(first+(2*r+1))*1) rfl;obtain⟨_,q2⟩:=ux (rest:=rest) (show first+(2*r+2)<zph.size by omega) (0+(first+(2*r+2))*1) rfl;have e2:first+(2*r+1)+1=first+(2*r+2):=I
   rw[e2] at hO
   cases hc:lt zph[first+(2*r+1)]! zph[first+(2*r+2)]! with
   | true=>
    rw[na (by rw[hc];simp;omega)] at hO;have qc:=q2
    cases hc2:lt zph[first+r]! zph[first+(2*r+2)]! with
    | false=>
     rw[hc2] at hO;simp only[Bool.not_false,if_true] at hO;subst hO;refine(ZF∘Zbf∘Zdq∘Zi∘ZbK∘Za1∘Z6∘Ze4∘Zj∘ZaW∘Zj∘Zc8∘Zn∘Zn∘ZaW∘Zm) ?_;refine qq (qb L (q:=900) Z Z Z q1) Z Z ((Zcs∘ZaW∘Zm) ?_);refine qq (qb L (q:=900) Z Z Z q2) Z Z (zh1 L Z (fun u H hH _=>jr hc hH) ?_);refine(Zci∘Z2∘Zv∘Zi∘ZdV∘ZbP) ?_;refine qq (qb L (q:=900) Z Z Z qr) Z Z (ZbP (h:=?_));refine qq (qb L (q:=900) Z Z Z qc) Z Z (zh1 L Z (fun u H hH _=>jr hc2 hH) ?_);refine(ZaA∘Zc4) ?_;exact jf L 900 (r:=xa b _ tyU) Z (fun _ _ h=>h) nq Z Z
    | true=>
     rw[hc2] at hO;simp only[Bool.not_true,zmp,if_false] at hO;rw[dif_pos I] at hO;obtain⟨_,qj⟩:=ux (rest:=rest) (show first+(2*r+2)<zph.size by omega) (0+(first+(2*r+2))*1) rfl;obtain⟨_,qi⟩:=ux (rest:=rest) (show first+r<zph.size by omega) (0+(first+r)*1) rfl;have s1:=vg (rest:=rest) zph[first+(2*r+2)]! (show first+r<zph.size by omega) (0+(first+r)*1) rfl;have b1:=vh (rest:=rest) (show first+r<zph.size by omega) (0+(first+r)*1) rfl;have hz:first+(2*r+2)<(zph.setIfInBounds (first+r) zph[first+(2*r+2)]!).size:=by rw[zlv];omega
     have s2:=vg (rest:=rest) zph[first+r]! hz (0+(first+(2*r+2))*1) rfl;have b2:=vh (rest:=rest) hz (0+(first+(2*r+2))*1) rfl;rw[gn] at s2;refine(ZF∘Zbf∘Zdq∘Zi∘ZbK∘Za1∘Z6∘Ze4∘Zj∘ZaW∘Zj∘Zc8∘Zn∘Zn∘ZaW∘Zm) ?_;refine qq (qb L (q:=900) Z Z Z q1) Z Z ((Zcs∘ZaW∘Zm) ?_);refine qq (qb L (q:=900) Z Z Z q2) Z Z (zh1 L Z (fun u H hH _=>jr hc hH) ?_);refine(Zci∘Z2∘Zv∘Zi∘ZdV∘ZbP) ?_;refine qq (qb L (q:=900) Z Z Z qr) Z Z (ZbP (h:=?_));refine qq (qb L (q:=900) Z Z Z qc) Z Z (zh1 L Z (fun u H hH _=>jr hc2 hH) ?_);refine(ZaA∘ZaY∘Zae∘ZeR∘Zcs∘Zcs∘ZbP) ?_;refine qq (qb L (q:=900) Z Z Z qj) Z Z (ZbP (h:=?_));refine qq (qb L (q:=900) Z Z Z qi) Z Z (Zm (h:=?_));refine xl (yc L (q:=900) Z Z b1 Z s1) Z (Zm (h:=?_));refine xl (yc L (q:=900) Z Z b2 Z s2) Z ((Zbz∘Z3∘Zal) ?_);exact ym (x:=(r,zph)) (2*r+2,swp zph (first+r) (first+(2*r+2))) ⟨by dsimp only;omega,by dsimp only;rw[wj];exact hE,hO⟩ M ⟨Z,Z,Z,Z,Z,trivial⟩
   | false=>
    rw[nc (by rw[hc];simp)] at hO;have qc:=q1
    cases hc2:lt zph[first+r]! zph[first+(2*r+1)]! with
    | false=>
     rw[hc2] at hO;simp only[Bool.not_false,if_true] at hO;subst hO;refine(ZF∘Zbf∘Zdq∘Zi∘ZbK∘Za1∘Z6∘Ze4∘Zj∘ZaW∘Zj∘Zc8∘Zn∘Zn∘ZaW∘Zm) ?_;refine qq (qb L (q:=900) Z Z Z q1) Z Z ((Zcs∘ZaW∘Zm) ?_);refine qq (qb L (q:=900) Z Z Z q2) Z Z (zh1 L Z (fun u H hH _=>jr hc hH) ?_);refine(Za5∘Zae∘Ze∘ZdV∘ZbP) ?_;refine qq (qb L (q:=900) Z Z Z qr) Z Z (ZbP (h:=?_));refine qq (qb L (q:=900) Z Z Z qc) Z Z (zh1 L Z (fun u H hH _=>jr hc2 hH) ?_);refine(ZaA∘Zc4) ?_;exact jf L 900 (r:=xa b _ tyU) Z (fun _ _ h=>h) nq Z Z
    | true=>
     rw[hc2] at hO;simp only[Bool.not_true,zmp,if_false] at hO;obtain⟨_,qj⟩:=ux (rest:=rest) (show first+(2*r+1)<zph.size by omega) (0+(first+(2*r+1))*1) rfl;obtain⟨_,qi⟩:=ux (rest:=rest) (show first+r<zph.size by omega) (0+(first+r)*1) rfl;have s1:=vg (rest:=rest) zph[first+(2*r+1)]! (show first+r<zph.size by omega) (0+(first+r)*1) rfl;have b1:=vh (rest:=rest) (show first+r<zph.size by omega) (0+(first+r)*1) rfl;have hz:first+(2*r+1)<(zph.setIfInBounds (first+r) zph[first+(2*r+1)]!).size:=by rw[zlv];omega
     have s2:=vg (rest:=rest) zph[first+r]! hz (0+(first+(2*r+1))*1) rfl;have b2:=vh (rest:=rest) hz (0+(first+(2*r+1))*1) rfl;rw[gn] at s2;refine(ZF∘Zbf∘Zdq∘Zi∘ZbK∘Za1∘Z6∘Ze4∘Zj∘ZaW∘Zj∘Zc8∘Zn∘Zn∘ZaW∘Zm) ?_;refine qq (qb L (q:=900) Z Z Z q1) Z Z ((Zcs∘ZaW∘Zm) ?_);refine qq (qb L (q:=900) Z Z Z q2) Z Z (zh1 L Z (fun u H hH _=>jr hc hH) ?_);refine(Za5∘Zae∘Ze∘ZdV∘ZbP) ?_;refine qq (qb L (q:=900) Z Z Z qr) Z Z (ZbP (h:=?_));refine qq (qb L (q:=900) Z Z Z qc) Z Z (zh1 L Z (fun u H hH _=>jr hc2 hH) ?_);refine(ZaA∘ZaY∘Zae∘ZeR∘Zcs∘Zcs∘ZbP) ?_;refine qq (qb L (q:=900) Z Z Z qj) Z Z (ZbP (h:=?_));refine qq (qb L (q:=900) Z Z Z qi) Z Z (Zm (h:=?_));refine xl (yc L (q:=900) Z Z b1 Z s1) Z (Zm (h:=?_));refine xl (yc L (q:=900) Z Z b2 Z s2) Z ((Zbz∘Z3∘Zal) ?_);exact ym (x:=(r,zph)) (2*r+1,swp zph (first+r) (first+(2*r+1))) ⟨by dsimp only;omega,by dsimp only;rw[wj];exact hE,hO⟩ M ⟨Z,Z,Z,Z,Z,trivial⟩
  ·rw[nc (by simp;omega)] at hO;obtain⟨_,qc⟩:=ux (rest:=rest) (show first+(2*r+1)<zph.size by omega) (0+(first+(2*r+1))*1) rfl
   cases hc2:lt zph[first+r]! zph[first+(2*r+1)]! with
   | false=>
    rw[hc2] at hO;simp only[Bool.not_false,if_true] at hO;subst hO;refine(ZF∘Zbf∘Zdq∘Zi∘ZbK∘Za1∘Z6∘Zcy∘Zj∘ZaW∘Zj∘Zdp∘ZbV∘Zeg∘Zb3∘Za5∘Zae∘Ze∘ZdV∘ZbP) ?_;refine qq (qb L (q:=900) Z Z Z qr) Z Z (ZbP (h:=?_));refine qq (qb L (q:=900) Z Z Z qc) Z Z (zh1 L Z (fun u H hH _=>jr hc2 hH) ?_);refine(ZaA∘Zc4) ?_;exact jf L 900 (r:=xa b _ tyU) Z (fun _ _ h=>h) nq Z Z
   | true=>
    rw[hc2] at hO;simp only[Bool.not_true,zmp,if_false] at hO;obtain⟨_,qj⟩:=ux (rest:=rest) (show first+(2*r+1)<zph.size by omega) (0+(first+(2*r+1))*1) rfl;obtain⟨_,qi⟩:=ux (rest:=rest) (show first+r<zph.size by omega) (0+(first+r)*1) rfl;have s1:=vg (rest:=rest) zph[first+(2*r+1)]! (show first+r<zph.size by omega) (0+(first+r)*1) rfl;have b1:=vh (rest:=rest) (show first+r<zph.size by omega) (0+(first+r)*1) rfl;have hz:first+(2*r+1)<(zph.setIfInBounds (first+r) zph[first+(2*r+1)]!).size:=by rw[zlv];omega
    have s2:=vg (rest:=rest) zph[first+r]! hz (0+(first+(2*r+1))*1) rfl;have b2:=vh (rest:=rest) hz (0+(first+(2*r+1))*1) rfl;rw[gn] at s2;refine(ZF∘Zbf∘Zdq∘Zi∘ZbK∘Za1∘Z6∘Zcy∘Zj∘ZaW∘Zj∘Zdp∘ZbV∘Zeg∘Zb3∘Za5∘Zae∘Ze∘ZdV∘ZbP) ?_;refine qq (qb L (q:=900) Z Z Z qr) Z Z (ZbP (h:=?_));refine qq (qb L (q:=900) Z Z Z qc) Z Z (zh1 L Z (fun u H hH _=>jr hc2 hH) ?_);refine(ZaA∘ZaY∘Zae∘ZeR∘Zcs∘Zcs∘ZbP) ?_;refine qq (qb L (q:=900) Z Z Z qj) Z Z (ZbP (h:=?_));refine qq (qb L (q:=900) Z Z Z qi) Z Z (Zm (h:=?_));refine xl (yc L (q:=900) Z Z b1 Z s1) Z (Zm (h:=?_));refine xl (yc L (q:=900) Z Z b2 Z s2) Z ((Zbz∘Z3∘Zal) ?_);exact ym (x:=(r,zph)) (2*r+1,swp zph (first+r) (first+(2*r+1))) ⟨by dsimp only;omega,by dsimp only;rw[wj];exact hE,hO⟩ M ⟨Z,Z,Z,Z,Z,trivial⟩
def Hw(hi first:Nat):∀ (n root:Nat) (d:Array Int),hi-root<=n->(siftDown lt hi first root d).size=d.size:=by
 intro n
 induction n with
 | zero=>
  intro root d h;rw[siftDown,dif_pos I]
 | succ n ih=>
  intro root d h;rw[siftDown];split
  ·rfl
  ·split
   ·split
    ·rfl
    ·split
     ·rw[ih _ _ I,wj]
     ·rfl
   ·split
    ·rfl
    ·rw[ih _ _ I,wj]
def za5{cap:Nat}(hab:a<e)(he:e<=d.size)(hm:d.size=m)(hm1:m<=100000)(hB:zpk B w)
  (hr:(xa b (uC d++rest) tyU).P B w C) (hC:ZCB C w B):
  kr zpl 270 [.slice (some ⟨b,0,none⟩) m cap,.int .i64 a,.int .i64 e] w B C (xa b (uC (heapSort lt d a e)++rest) tyU):=by
 unfold kr;refine yr 900 (xa b (uC d++rest) tyU) Tryz.func270 Z Tryz.ntmps270 (np Z) hB hr hC ?_;rw[xb];have hw0:IntKind.i64.wrap ((e:Int)-(a:Int))=((e-a:Nat):Int):=yz I I |>.trans I;have hw1:IntKind.i64.wrap (((e-a:Nat):Int)-1)=((e-a-1:Nat):Int):=yz I I |>.trans I
 have et:((e-a-1:Nat):Int).tdiv 2=(((e-a-1)/2+1:Nat):Int)-1:=by
  rw[zn9 I];omega
 have hw2:IntKind.i64.wrap (((e-a-1:Nat):Int).tdiv 2)=(((e-a-1)/2+1:Nat):Int)-1:=by rw[et];exact yz I I
 refine(ZL∘Za∘Zas∘Zc∘ZM∘Zax∘Zi∘Zu∘Za6∘Zdk∘Zbt) ?_;refine xo (fun s:Nat×Array Int=>[(0,.is (.slice (some ⟨b,0,none⟩) m cap)),(6,.is (.int .i64 a)),(7,.is (.int .i64 0)),(8,.is (.int .i64 (e-a:Nat))),(9,.is (.int .i64 ((s.1:Int)-1))),(900,.own (xk b (uC s.2++rest) tyU))]) (fun s=>s.1<=(e-a-1)/2+1/\s.2.size=m/\heapBuild lt (e-a) a s.1 s.2=heapBuild lt (e-a) a ((e-a-1)/2+1) d) (fun s=>s.1) ((e-a-1)/2+1,d) ⟨ns _,hm,rfl⟩ ⟨Z,Z,Z,Z,Z,Z,nm⟩ ?_;rintro⟨k,zph⟩ ⟨hk,hE,hO⟩;dsimp only at hk hE hO |-;rcases k with _ | k
 ·have e9:(((0:Nat):Int)-1)= -1:=rfl;rw[e9];refine(Zh∘Z2∘Za1∘ZaR) ?_;rw[heapBuild] at hO;have e10:((e-a-1:Nat):Int)=((e-a:Nat):Int)-1:=I;rw[e10] at hw1;refine(Z3∘Za6∘Zbt) ?_;refine xo (fun s:Nat×Array Int=>[(0,.is (.slice (some ⟨b,0,none⟩) m cap)),(6,.is (.int .i64 a)),(7,.is (.int .i64 0)),(10,.is (.int .i64 ((s.1:Int)-1))),(900,.own (xk b (uC s.2++rest) tyU))]) (fun s=>s.1<=e-a/\s.2.size=m/\heapPop lt a s.1 s.2=heapPop lt a (e-a) zph) (fun s=>s.1) (e-a,zph) ⟨ns _,hE,rfl⟩ ⟨Z,Z,Z,Z,Z,nm⟩ ?_;rintro⟨j,zpj⟩ ⟨hj,hG,hP⟩;dsimp only at hj hG hP |-;rcases j with _ | j
  ·rw[e9];rw[heapPop] at hP;have:zpj=heapSort lt d a e:=by unfold heapSort;rw[<-hO,hP]
   subst this;refine(Zh∘Za4∘Za1∘Za9∘Za2) ?_;exact xp L 900 (r:=xa b _ tyU) Z (fun _ _ h=>h) nq Z Z
  ·have e8:(((j+1:Nat):Int)-1)=(j:Int):=I;rw[heapPop] at hP;rw[e8];have hw3:IntKind.i64.wrap ((a:Int)+(j:Int))=((a+j:Nat):Int):=yz I I;have hw4:IntKind.i64.wrap ((j:Int)-1)=(j:Int)-1:=yz I I;have hsz:=wj zpj a (a+j);have hss:=Hw j a j 0 (swp zpj a (a+j)) I;obtain⟨_,qj⟩:=ux (rest:=rest) (show a+j<zpj.size by omega) (0+(a+j)*1) rfl;obtain⟨_,qi⟩:=ux (rest:=rest) (show a<zpj.size by omega) (0+(a)*1) rfl;have s1:=vg (rest:=rest) zpj[a+j]! (show a<zpj.size by omega) (0+(a)*1) rfl;have b1:=vh (rest:=rest) (show a<zpj.size by omega) (0+(a)*1) rfl;have hz:a+j<(zpj.setIfInBounds (a) zpj[a+j]!).size:=by rw[zlv];omega
   have s2:=vg (rest:=rest) zpj[a]! hz (0+(a+j)*1) rfl;have b2:=vh (rest:=rest) hz (0+(a+j)*1) rfl;rw[gn] at s2;refine(Zh∘Za4∘ZbL∘ZbF) ?_;refine qh (id:=10) [(200044,[900]),(200048,[900]),(100049,[900]),(100050,[900])] x8 T ((Zn∘Zcs∘ZbP) ?_);refine qq (qb L (q:=900) Z Z Z qj) Z Z (ZJ (h:=?_));refine qq (qb L (q:=900) Z Z Z qi) Z Z (Zm (h:=?_));refine xl (yc L (q:=900) Z Z b1 Z s1) Z (Zm (h:=?_));refine xl (yc L (q:=900) Z Z b2 Z s2) Z ((Zbz∘ZO∘Zbc) ?_);refine q0 (yq L 900 (xa b (uC (siftDown lt j a 0 (swp zpj a (a+j)))++rest) tyU) (r:=xa b (uC (swp zpj a (a+j))++rest) tyU) Z Z Z Z Z (fun u H C hH _ hr hC=>Oi (mf _) I I hm1 hH hr hC)) ((ZbN∘Zat∘Za6∘ZaU) ?_);exact ym (x:=(j+1,zpj)) (j,siftDown lt j a 0 (swp zpj a (a+j))) ⟨by dsimp only;omega,by dsimp only;omega,hP⟩ M ⟨Z,Z,Z,Z,Z,trivial⟩
 ·have e8:(((k+1:Nat):Int)-1)=(k:Int):=I;rw[heapBuild] at hO;rw[e8];have hw4:IntKind.i64.wrap ((k:Int)-1)=(k:Int)-1:=yz I I;have hss:=Hw (e-a) a (e-a) k zph I;refine(Zh∘Z2∘ZbL∘Zae∘Zam∘ZP∘Zbc) ?_;refine q0 (yq L 900 (xa b (uC (siftDown lt (e-a) a k zph)++rest) tyU) (r:=xa b (uC zph++rest) tyU) Z Z Z Z Z (fun u H C hH _ hr hC=>Oi I I I hm1 hH hr hC)) ((ZbN∘Zar∘Za6∘ZaU) ?_);exact ym (x:=(k+1,zph)) (k,siftDown lt (e-a) a k zph) ⟨by dsimp only;omega,by dsimp only;omega,hO⟩ M ⟨Z,Z,Z,Z,Z,Z,trivial⟩
def _root_.Ze5(t:Wr Y->A:=by intro h;refine qh (id:=5) [(200053,[900]),(200057,[900])] x8 T ?_;exact h.1)(h:Y):A:=t ⟨h⟩
def gv(h:¬ (i<=j/\p d[i]! =true)):scanUp p d j i=i:=by
 rw[scanUp,nc];simpa using h
def A9(h1:i<=j)(h2:p d[i]! =true):scanUp p d j i=scanUp p d j (i+1):=by
 rw[scanUp,na (by simp [h1,h2])]
def vx(h:¬ (i<=j/\p d[j]! =true)):scanDown p d i j=j:=by
 cases j with
 | zero=>rfl
 | succ j=>rw[scanDown,nc];simpa using h
def ew(h1:i<=j+1)(h2:p d[j+1]! =true):scanDown p d i (j+1)=scanDown p d i j:=by
 rw[scanDown,na (by simp [h1,h2])]
def dc{cap p:Nat}(hap:a<=p)(hpe:p<e)(he:e<=d.size)(hm:d.size=m)(hm1:m<=100000)(hB:zpk B w)
  (hr:(xa b (uC d++rest) tyU).P B w C) (hC:ZCB C w B):
  RetX zpl 277 [.slice (some ⟨b,0,none⟩) m cap,.int .i64 a,.int .i64 e,.int .i64 p] w B C (xa b (uC (Go.Sort.partition lt d a e p).2.2++rest) tyU) (.tuple #[.int .i64 (Go.Sort.partition lt d a e p).1,.bool (Go.Sort.partition lt d a e p).2.1]):=by
 unfold RetX;refine yr 900 (xa b (uC d++rest) tyU) Tryz.func277 Z Tryz.ntmps277 (np Z) hB hr hC ?_;rw[xb];obtain⟨_,qj⟩:=ux (rest:=rest) (show p<d.size by omega) (0+(p)*1) rfl;obtain⟨_,qi⟩:=ux (rest:=rest) (show a<d.size by omega) (0+(a)*1) rfl;have s1:=vg (rest:=rest) d[p]! (show a<d.size by omega) (0+(a)*1) rfl;have b1:=vh (rest:=rest) (show a<d.size by omega) (0+(a)*1) rfl;have hz:p<(d.setIfInBounds (a) d[p]!).size:=by rw[zlv];omega
 have s2:=vg (rest:=rest) d[a]! hz (0+(p)*1) rfl;have b2:=vh (rest:=rest) hz (0+(p)*1) rfl;rw[gn] at s2;have hw1:IntKind.i64.wrap ((a:Int)+1)=((a+1:Nat):Int):=yz I I;obtain⟨e1,rfl⟩:∃ e1,e=e1+1:=⟨e-1,by omega⟩
 have hw2:IntKind.i64.wrap (((e1+1:Nat):Int)-1)=(e1:Int):=yz I I |>.trans I;obtain⟨R,hR⟩:∃ R,R=Go.Sort.partition lt d a (e1+1) p:=⟨_,rfl⟩
 rw[<-hR];have hR':=hR;unfold Go.Sort.partition at hR';have hDs:=wj d a p;refine(ZL∘Za7) ?_;refine qh (id:=1) [(200019,[900]),(200023,[900]),(100024,[900]),(100025,[900])] x8 T ((Zn∘Zn∘ZJ) ?_);refine qq (qb L (q:=900) Z Z Z qj) Z Z (ZJ (h:=?_));refine qq (qb L (q:=900) Z Z Z qi) Z Z (Zm (h:=?_));refine xl (yc L (q:=900) Z Z b1 Z s1) Z (Zm (h:=?_));refine xl (yc L (q:=900) Z Z b2 Z s2) Z ((ZU∘Zq∘Zv∘Za∘Za6∘Za7∘Zam) ?_);generalize swp d a p=D at *;rw[zow] at hR';dsimp only at hR';refine ra (py (fun i:Nat=>[(0,.is (.slice (some ⟨b,0,none⟩) m cap)),(1,.is (.int .i64 a)),(10,.is (.int .i64 i)),(11,.is (.int .i64 e1)),(900,.own (xk b (uC D++rest) tyU))]) (fun i=>(a+1)<=i/\i<=max (a+1) (e1+1)/\i=scanUp (fun x=>lt x D[a]!) D e1 (a+1)) (fun _=>[]) ?_) ?_
 rotate_left
 ·refine xo (fun i:Nat=>[(0,.is (.slice (some ⟨b,0,none⟩) m cap)),(1,.is (.int .i64 a)),(10,.is (.int .i64 i)),(11,.is (.int .i64 e1)),(900,.own (xk b (uC D++rest) tyU))]) (fun i=>(a+1)<=i/\i<=max (a+1) (e1+1)/\scanUp (fun x=>lt x D[a]!) D e1 i=scanUp (fun x=>lt x D[a]!) D e1 (a+1)) (fun i=>e1+1-i) (a+1) ⟨ns _,by omega,rfl⟩ ⟨Z,Z,Z,Z,Z,nm⟩ ?_;rintro i ⟨hi1,hi2,hi3⟩;by_cases hle:i<=e1
  ·obtain⟨_,qx⟩:=ux (rest:=rest) (show i<D.size by omega) (0+(i)*1) rfl;obtain⟨_,qa⟩:=ux (rest:=rest) (show a<D.size by omega) (0+(a)*1) rfl
   cases hc:lt D[i]! D[a]! with
   | true=>
    have hw:IntKind.i64.wrap ((i:Int)+1)=((i+1:Nat):Int):=yz I I;refine Zh (h:=?_);refine qh (id:=3) [(200037,[900]),(200041,[900])] x8 T ((Zn∘ZcI∘Zbo∘Zm) ?_);refine qq (qb L (q:=900) Z Z Z qx) Z Z (ZJ (h:=?_));refine qq (qb L (q:=900) Z Z Z qa) Z Z (zh1 L Z (fun u H hH _=>jr hc hH) ?_);refine(Zci∘Zdc∘Zam∘Z2∘Zv∘Zal) ?_;exact ym (x:=i) (i+1) ⟨by omega,by omega,by rw[<-hi3];exact(A9 hle (by simp [hc])).symm⟩ I ⟨Z,Z,Z,Z,Z,nm⟩
   | false=>
    refine Zh (h:=?_);refine qh (id:=3) [(200037,[900]),(200041,[900])] x8 T ((Zn∘ZcI∘Zbo∘Zm) ?_);refine qq (qb L (q:=900) Z Z Z qx) Z Z (ZJ (h:=?_));refine qq (qb L (q:=900) Z Z Z qa) Z Z (zh1 L Z (fun u H hH _=>jr hc hH) ?_);refine(Za5∘Za2) ?_;exact jz i nq ⟨hi1,hi2,by rw[<-hi3];exact(gv (by rintro⟨_,h⟩;simp [hc] at h)).symm⟩ rfl ⟨rfl,rfl,rfl,rfl,rfl,nm⟩
  ·refine(Zh∘Zcy∘Zn∘Zd3∘ZbV∘Zch∘Za5∘Za2) ?_;exact jz i nq ⟨hi1,hi2,by rw[<-hi3];exact(gv (by rintro⟨h,_⟩;exact hle h)).symm⟩ rfl ⟨rfl,rfl,rfl,rfl,rfl,nm⟩
 rintro zpe ⟨hI1,hI2,hI3⟩;refine zk (qp ?_);refine ra (py (fun i:Nat=>[(0,.is (.slice (some ⟨b,0,none⟩) m cap)),(1,.is (.int .i64 a)),(10,.is (.int .i64 zpe)),(11,.is (.int .i64 i)),(900,.own (xk b (uC D++rest) tyU))]) (fun i=>i<=e1/\min (zpe-1) e1<=i/\i=scanDown (fun x=>!lt x D[a]!) D zpe e1) (fun _=>[]) ?_) ?_
 rotate_left
 ·refine xo (fun i:Nat=>[(0,.is (.slice (some ⟨b,0,none⟩) m cap)),(1,.is (.int .i64 a)),(10,.is (.int .i64 zpe)),(11,.is (.int .i64 i)),(900,.own (xk b (uC D++rest) tyU))]) (fun i=>i<=e1/\min (zpe-1) e1<=i/\scanDown (fun x=>!lt x D[a]!) D zpe i=scanDown (fun x=>!lt x D[a]!) D zpe e1) (fun i=>i) e1 ⟨ns _,by omega,rfl⟩ ⟨Z,Z,Z,Z,Z,nm⟩ ?_;rintro i ⟨hi1,hi2,hi3⟩;by_cases hle:zpe<=i
  ·obtain⟨_,qx⟩:=ux (rest:=rest) (show i<D.size by omega) (0+(i)*1) rfl;obtain⟨_,qa⟩:=ux (rest:=rest) (show a<D.size by omega) (0+(a)*1) rfl
   cases hc:lt D[i]! D[a]! with
   | false=>
    obtain⟨i,rfl⟩:∃ k,i=k+1:=⟨i-1,by omega⟩
    have hw:IntKind.i64.wrap (((i+1:Nat):Int)-1)=(i:Int):=yz I I |>.trans I;refine(Zh∘Ze5∘Zn∘ZcI∘Zbo∘Zm) ?_;refine qq (qb L (q:=900) Z Z Z qx) Z Z (ZJ (h:=?_));refine qq (qb L (q:=900) Z Z Z qa) Z Z (zh1 L Z (fun u H hH _=>jr hc hH) ?_);refine(ZaA∘Zci∘Zdc∘Zam∘ZH∘Za6∘Zal) ?_;exact ym (x:=i+1) i ⟨by omega,by omega,by rw[<-hi3];exact(ew hle (by simp [hc])).symm⟩ I ⟨Z,Z,Z,Z,Z,nm⟩
   | true=>
    refine(Zh∘Ze5∘Zn∘ZcI∘Zbo∘Zm) ?_;refine qq (qb L (q:=900) Z Z Z qx) Z Z (ZJ (h:=?_));refine qq (qb L (q:=900) Z Z Z qa) Z Z (zh1 L Z (fun u H hH _=>jr hc hH) ?_);refine(ZaA∘Za5∘Za2) ?_;exact jz i nq ⟨hi1,hi2,by rw[<-hi3];exact(vx (by rintro⟨_,h⟩;simp [hc] at h)).symm⟩ rfl ⟨rfl,rfl,rfl,rfl,rfl,nm⟩
  ·refine(Zh∘ZdD∘Zn∘Zd3∘ZbV∘Zb3∘Za5∘Za2) ?_;exact jz i nq ⟨hi1,hi2,by rw[<-hi3];exact(vx (by rintro⟨h,_⟩;exact hle h)).symm⟩ rfl ⟨rfl,rfl,rfl,rfl,rfl,nm⟩
 rintro zpg ⟨hJ1,hJ2,hJ3⟩;rw[<-hI3,<-hJ3] at hR';by_cases hIJ:zpg<zpe
 ·rw[na hIJ] at hR';subst hR';obtain⟨_,qj⟩:=ux (rest:=rest) (show a<D.size by omega) (0+(a)*1) rfl;obtain⟨_,qi⟩:=ux (rest:=rest) (show zpg<D.size by omega) (0+(zpg)*1) rfl;have s1:=vg (rest:=rest) D[a]! (show zpg<D.size by omega) (0+(zpg)*1) rfl;have b1:=vh (rest:=rest) (show zpg<D.size by omega) (0+(zpg)*1) rfl;have hz:a<(D.setIfInBounds (zpg) D[a]!).size:=by rw[zlv];omega
  have s2:=vg (rest:=rest) D[zpg]! hz (0+(a)*1) rfl;have b2:=vh (rest:=rest) hz (0+(a)*1) rfl;rw[gn] at s2;refine(Zh∘Z8∘Zb∘ZN∘Zr) ?_;refine qh (id:=8) [(200073,[900]),(200077,[900]),(100078,[900]),(100079,[900])] x8 T ((Zn∘Zn∘ZJ) ?_);refine qq (qb L (q:=900) Z Z Z qj) Z Z (ZJ (h:=?_));refine qq (qb L (q:=900) Z Z Z qi) Z Z (Zm (h:=?_));refine xl (yc L (q:=900) Z Z b1 Z s1) Z (Zm (h:=?_));refine xl (yc L (q:=900) Z Z b2 Z s2) Z ((ZU∘Zat∘ZB) ?_);exact xq L 900 (r:=xa b _ tyU) (rs:=[.tmp 8,.tmp 9]) Z (fun _ _ h=>h) nq Z Z (fun _=>rfl)
 ·rw[nc hIJ] at hR';have hw3:IntKind.i64.wrap ((zpe:Int)+1)=((zpe+1:Nat):Int):=yz I I;have hw4:IntKind.i64.wrap ((zpg:Int)-1)=((zpg-1:Nat):Int):=yz I I |>.trans I;obtain⟨_,qj⟩:=ux (rest:=rest) (show zpg<D.size by omega) (0+(zpg)*1) rfl;obtain⟨_,qi⟩:=ux (rest:=rest) (show zpe<D.size by omega) (0+(zpe)*1) rfl;have s1:=vg (rest:=rest) D[zpg]! (show zpe<D.size by omega) (0+(zpe)*1) rfl;have b1:=vh (rest:=rest) (show zpe<D.size by omega) (0+(zpe)*1) rfl;have hz:zpg<(D.setIfInBounds (zpe) D[zpg]!).size:=by rw[zlv];omega
  have s2:=vg (rest:=rest) D[zpe]! hz (0+(zpg)*1) rfl;have b2:=vh (rest:=rest) hz (0+(zpg)*1) rfl;rw[gn] at s2;have hEs:=wj D zpe zpg;refine(Zh∘Z8∘Zb∘ZD∘Zl) ?_;refine qh (id:=10) [(200088,[900]),(200092,[900]),(100093,[900]),(100094,[900])] x8 T ((Zn∘Zn∘ZJ) ?_);refine qq (qb L (q:=900) Z Z Z qj) Z Z (ZJ (h:=?_));refine qq (qb L (q:=900) Z Z Z qi) Z Z (Zm (h:=?_));refine xl (yc L (q:=900) Z Z b1 Z s1) Z (Zm (h:=?_));refine xl (yc L (q:=900) Z Z b2 Z s2) Z ((ZU∘ZO∘Za∘Zv∘Zc∘ZT∘Za∘Za6∘Zc∘Zam) ?_);generalize swp D zpe zpg=zph at *;obtain⟨X,hX⟩:∃ X,X=partLoop lt a (zpe+1) (zpg-1) zph:=⟨_,rfl⟩
  rw[<-hX] at hR';refine ra (py (fun s:Nat×Array Int=>[(0,.is (.slice (some ⟨b,0,none⟩) m cap)),(1,.is (.int .i64 a)),(11,.is (.int .i64 s.1)),(900,.own (xk b (uC s.2++rest) tyU))]) (fun s=>s.2.size=m/\a<=s.1/\s.1<=e1/\s=X) (fun _=>[]) ?_) ?_
  rotate_left
  ·refine xo (fun s:(Nat×Nat)×Array Int=>[(0,.is (.slice (some ⟨b,0,none⟩) m cap)),(1,.is (.int .i64 a)),(10,.is (.int .i64 s.1.1)),(11,.is (.int .i64 s.1.2)),(900,.own (xk b (uC s.2++rest) tyU))]) (fun s=>s.2.size=m/\a+1<=s.1.1/\s.1.1<=e1+1/\a<=s.1.2/\s.1.2<=e1/\partLoop lt a s.1.1 s.1.2 s.2=X) (fun s=>s.1.2+1-s.1.1) ((zpe+1,zpg-1),zph) ⟨by dsimp only;omega,by dsimp only;omega,by dsimp only;omega,by dsimp only;omega,by dsimp only;omega,hX.symm⟩ ⟨Z,Z,Z,Z,Z,trivial⟩ ?_;rintro⟨⟨i0,j0⟩,zpj⟩ ⟨hG,hi1,hi2,hj1,hj2,hL⟩;dsimp only at hG hi1 hi2 hj1 hj2 hL |-;rw[partLoop] at hL;clear hX hR' hEs hIJ hI3 hJ3;refine qp (zk (qp ?_));refine ra (py (fun i:Nat=>[(0,.is (.slice (some ⟨b,0,none⟩) m cap)),(1,.is (.int .i64 a)),(10,.is (.int .i64 i)),(11,.is (.int .i64 j0)),(900,.own (xk b (uC zpj++rest) tyU))]) (fun i=>i0<=i/\i<=max i0 (j0+1)/\i=scanUp (fun x=>lt x zpj[a]!) zpj j0 i0) (fun _=>[]) ?_) ?_
   rotate_left
   ·refine xo (fun i:Nat=>[(0,.is (.slice (some ⟨b,0,none⟩) m cap)),(1,.is (.int .i64 a)),(10,.is (.int .i64 i)),(11,.is (.int .i64 j0)),(900,.own (xk b (uC zpj++rest) tyU))]) (fun i=>i0<=i/\i<=max i0 (j0+1)/\scanUp (fun x=>lt x zpj[a]!) zpj j0 i=scanUp (fun x=>lt x zpj[a]!) zpj j0 i0) (fun i=>j0+1-i) i0 ⟨ns _,by omega,rfl⟩ ⟨Z,Z,Z,Z,Z,nm⟩ ?_;rintro i ⟨hi1,hi2,hi3⟩;by_cases hle:i<=j0
    ·obtain⟨_,qx⟩:=ux (rest:=rest) (show i<zpj.size by omega) (0+(i)*1) rfl;obtain⟨_,qa⟩:=ux (rest:=rest) (show a<zpj.size by omega) (0+(a)*1) rfl
     cases hc:lt zpj[i]! zpj[a]! with
     | true=>
      have hw:IntKind.i64.wrap ((i:Int)+1)=((i+1:Nat):Int):=yz I I;refine Zh (h:=?_);refine qh (id:=13) [(200106,[900]),(200110,[900])] x8 T ((Zn∘ZcI∘Zbo∘Zm) ?_);refine qq (qb L (q:=900) Z Z Z qx) Z Z (ZJ (h:=?_));refine qq (qb L (q:=900) Z Z Z qa) Z Z (zh1 L Z (fun u H hH _=>jr hc hH) ?_);refine(Zci∘Zdc∘Zam∘Zb9∘Zv∘Zal) ?_;exact ym (x:=i) (i+1) ⟨by omega,by omega,by rw[<-hi3];exact(A9 hle (by simp [hc])).symm⟩ I ⟨Z,Z,Z,Z,Z,nm⟩
     | false=>
      refine Zh (h:=?_);refine qh (id:=13) [(200106,[900]),(200110,[900])] x8 T ((Zn∘ZcI∘Zbo∘Zm) ?_);refine qq (qb L (q:=900) Z Z Z qx) Z Z (ZJ (h:=?_));refine qq (qb L (q:=900) Z Z Z qa) Z Z (zh1 L Z (fun u H hH _=>jr hc hH) ?_);refine(Za5∘Za2) ?_;exact jz i nq ⟨hi1,hi2,by rw[<-hi3];exact(gv (by rintro⟨_,h⟩;simp [hc] at h)).symm⟩ rfl ⟨rfl,rfl,rfl,rfl,rfl,nm⟩
    ·refine(Zh∘ZdH∘Zn∘Zd3∘ZbV∘Zch∘Za5∘Za2) ?_;exact jz i nq ⟨hi1,hi2,by rw[<-hi3];exact(gv (by rintro⟨h,_⟩;exact hle h)).symm⟩ rfl ⟨rfl,rfl,rfl,rfl,rfl,nm⟩
   rintro K ⟨hK1,hK2,hK3⟩;refine zk (qp ?_);refine ra (py (fun i:Nat=>[(0,.is (.slice (some ⟨b,0,none⟩) m cap)),(1,.is (.int .i64 a)),(10,.is (.int .i64 K)),(11,.is (.int .i64 i)),(900,.own (xk b (uC zpj++rest) tyU))]) (fun i=>i<=j0/\min (K-1) j0<=i/\i=scanDown (fun x=>!lt x zpj[a]!) zpj K j0) (fun _=>[]) ?_) ?_
   rotate_left
   ·refine xo (fun i:Nat=>[(0,.is (.slice (some ⟨b,0,none⟩) m cap)),(1,.is (.int .i64 a)),(10,.is (.int .i64 K)),(11,.is (.int .i64 i)),(900,.own (xk b (uC zpj++rest) tyU))]) (fun i=>i<=j0/\min (K-1) j0<=i/\scanDown (fun x=>!lt x zpj[a]!) zpj K i=scanDown (fun x=>!lt x zpj[a]!) zpj K j0) (fun i=>i) j0 ⟨ns _,by omega,rfl⟩ ⟨Z,Z,Z,Z,Z,nm⟩ ?_;rintro i ⟨hi1,hi2,hi3⟩;by_cases hle:K<=i
    ·obtain⟨_,qx⟩:=ux (rest:=rest) (show i<zpj.size by omega) (0+(i)*1) rfl;obtain⟨_,qa⟩:=ux (rest:=rest) (show a<zpj.size by omega) (0+(a)*1) rfl
     cases hc:lt zpj[i]! zpj[a]! with
     | false=>
      obtain⟨i,rfl⟩:∃ k,i=k+1:=⟨i-1,by omega⟩
      have hw:IntKind.i64.wrap (((i+1:Nat):Int)-1)=(i:Int):=yz I I |>.trans I;refine Zh (h:=?_);refine qh (id:=15) [(200122,[900]),(200126,[900])] x8 T ((Zn∘ZcI∘Zbo∘Zm) ?_);refine qq (qb L (q:=900) Z Z Z qx) Z Z (ZJ (h:=?_));refine qq (qb L (q:=900) Z Z Z qa) Z Z (zh1 L Z (fun u H hH _=>jr hc hH) ?_);refine(ZaA∘Zci∘Zdc∘Zam∘Zad∘Za∘Za6∘Zal) ?_;exact ym (x:=i+1) i ⟨by omega,by omega,by rw[<-hi3];exact(ew hle (by simp [hc])).symm⟩ I ⟨Z,Z,Z,Z,Z,nm⟩
     | true=>
      refine Zh (h:=?_);refine qh (id:=15) [(200122,[900]),(200126,[900])] x8 T ((Zn∘ZcI∘Zbo∘Zm) ?_);refine qq (qb L (q:=900) Z Z Z qx) Z Z (ZJ (h:=?_));refine qq (qb L (q:=900) Z Z Z qa) Z Z (zh1 L Z (fun u H hH _=>jr hc hH) ?_);refine(ZaA∘Za5∘Za2) ?_;exact jz i nq ⟨hi1,hi2,by rw[<-hi3];exact(vx (by rintro⟨_,h⟩;simp [hc] at h)).symm⟩ rfl ⟨rfl,rfl,rfl,rfl,rfl,nm⟩
    ·refine Zh (h:=?_);refine qh (id:=15) [] x8 T ((Zn∘Zd3∘ZbV∘Zb3∘Za5∘Za2) ?_);exact jz i nq ⟨hi1,hi2,by rw[<-hi3];exact(vx (by rintro⟨h,_⟩;exact hle h)).symm⟩ rfl ⟨rfl,rfl,rfl,rfl,rfl,nm⟩
   rintro zpi ⟨hM1,hM2,hM3⟩;rw[<-hK3,<-hM3] at hL;by_cases hKM:zpi<K
   ·rw[na hKM] at hL;refine(Zh∘Zbn∘Zb∘ZN∘ZE∘ZdM) ?_;refine aw Z (ZcZ (h:=?_));exact jz (zpi,zpj) Since.refl ⟨hG,by dsimp only;omega,by dsimp only;omega,hL⟩ Z ⟨Z,Z,Z,Z,trivial⟩
   ·rw[nc hKM,dif_pos I] at hL;have hw5:IntKind.i64.wrap ((K:Int)+1)=((K+1:Nat):Int):=yz I I;have hw6:IntKind.i64.wrap ((zpi:Int)-1)=((zpi-1:Nat):Int):=yz I I |>.trans I;have hGs:=wj zpj K zpi;obtain⟨_,qj⟩:=ux (rest:=rest) (show zpi<zpj.size by omega) (0+(zpi)*1) rfl;obtain⟨_,qi⟩:=ux (rest:=rest) (show K<zpj.size by omega) (0+(K)*1) rfl;have s1:=vg (rest:=rest) zpj[zpi]! (show K<zpj.size by omega) (0+(K)*1) rfl;have b1:=vh (rest:=rest) (show K<zpj.size by omega) (0+(K)*1) rfl;have hz:zpi<(zpj.setIfInBounds (K) zpj[zpi]!).size:=by rw[zlv];omega
    have s2:=vg (rest:=rest) zpj[K]! hz (0+(zpi)*1) rfl;have b2:=vh (rest:=rest) hz (0+(zpi)*1) rfl;rw[gn] at s2;refine(Zh∘Zbn∘Zb∘ZD∘Zl) ?_;refine qh (id:=18) [(200142,[900]),(200146,[900]),(100147,[900]),(100148,[900])] x8 T ((Zn∘Zn∘ZJ) ?_);refine qq (qb L (q:=900) Z Z Z qj) Z Z (ZJ (h:=?_));refine qq (qb L (q:=900) Z Z Z qi) Z Z (Zm (h:=?_));refine xl (yc L (q:=900) Z Z b1 Z s1) Z (Zm (h:=?_));refine xl (yc L (q:=900) Z Z b2 Z s2) Z ((ZU∘Zcj∘Za∘Zv∘Zd∘ZaP∘Za∘Za6∘Zal) ?_);exact ym (x:=((i0,j0),zpj)) ((K+1,zpi-1),swp zpj K zpi) ⟨by dsimp only;omega,by dsimp only;omega,by dsimp only;omega,by dsimp only;omega,by dsimp only;omega,hL⟩ M ⟨Z,Z,Z,Z,Z,trivial⟩
  ·rintro⟨J2,zpj⟩ ⟨hG,hj1,hj2,hL⟩;dsimp only at hG hj1 hj2 |-;rw[<-hL] at hR';dsimp only at hR';subst hR';obtain⟨_,qj⟩:=ux (rest:=rest) (show a<zpj.size by omega) (0+(a)*1) rfl;obtain⟨_,qi⟩:=ux (rest:=rest) (show J2<zpj.size by omega) (0+(J2)*1) rfl;have s1:=vg (rest:=rest) zpj[a]! (show J2<zpj.size by omega) (0+(J2)*1) rfl;have b1:=vh (rest:=rest) (show J2<zpj.size by omega) (0+(J2)*1) rfl;have hz:a<(zpj.setIfInBounds (J2) zpj[a]!).size:=by rw[zlv];omega
   have s2:=vg (rest:=rest) zpj[J2]! hz (0+(a)*1) rfl;have b2:=vh (rest:=rest) hz (0+(a)*1) rfl;rw[gn] at s2;refine Ze (h:=?_);refine qh (id:=21) [(200160,[900]),(200164,[900]),(100165,[900]),(100166,[900])] x8 T ((Zn∘Zn∘ZJ) ?_);refine qq (qb L (q:=900) Z Z Z qj) Z Z (ZJ (h:=?_));refine qq (qb L (q:=900) Z Z Z qi) Z Z (Zm (h:=?_));refine xl (yc L (q:=900) Z Z b1 Z s1) Z (Zm (h:=?_));refine xl (yc L (q:=900) Z Z b2 Z s2) Z ((ZU∘Zc0∘Za∘ZB) ?_);exact xq L 900 (r:=xa b _ tyU) (rs:=[.tmp 8,.tmp 9]) Z (fun _ _ h=>h) nq Z Z (fun _=>rfl)
def zeb{cap p:Nat}(hap:a<=p)(hpe:p<e)(he:e<=d.size)(hm:d.size=m)(hm1:m<=100000)(hB:zpk B w)
  (hr:(xa b (uC d++rest) tyU).P B w C) (hC:ZCB C w B):
  RetX zpl 276 [.slice (some ⟨b,0,none⟩) m cap,.int .i64 a,.int .i64 e,.int .i64 p] w B C (xa b (uC (partitionEqual lt d a e p).2++rest) tyU) (.int .i64 (partitionEqual lt d a e p).1):=by
 unfold RetX;refine yr 900 (xa b (uC d++rest) tyU) Tryz.func276 Z Tryz.ntmps276 (np Z) hB hr hC ?_;rw[xb];obtain⟨_,qj⟩:=ux (rest:=rest) (show p<d.size by omega) (0+(p)*1) rfl;obtain⟨_,qi⟩:=ux (rest:=rest) (show a<d.size by omega) (0+(a)*1) rfl;have s1:=vg (rest:=rest) d[p]! (show a<d.size by omega) (0+(a)*1) rfl;have b1:=vh (rest:=rest) (show a<d.size by omega) (0+(a)*1) rfl;have hz:p<(d.setIfInBounds (a) d[p]!).size:=by rw[zlv];omega
 have s2:=vg (rest:=rest) d[a]! hz (0+(p)*1) rfl;have b2:=vh (rest:=rest) hz (0+(p)*1) rfl;rw[gn] at s2;have hw1:IntKind.i64.wrap ((a:Int)+1)=((a+1:Nat):Int):=yz I I;obtain⟨e1,rfl⟩:∃ e1,e=e1+1:=⟨e-1,by omega⟩
 have hw2:IntKind.i64.wrap (((e1+1:Nat):Int)-1)=(e1:Int):=yz I I |>.trans I;obtain⟨X,hX⟩:∃ X,X=partitionEqual lt d a (e1+1) p:=⟨_,rfl⟩
 rw[<-hX];have hR':=hX;unfold partitionEqual at hR';rw[zow] at hR';have hDs:=wj d a p;refine(ZL∘Zc) ?_;refine qh (id:=1) [(200018,[900]),(200022,[900]),(100023,[900]),(100024,[900])] x8 T ((Zn∘Zn∘ZJ) ?_);refine qq (qb L (q:=900) Z Z Z qj) Z Z (ZJ (h:=?_));refine qq (qb L (q:=900) Z Z Z qi) Z Z (Zm (h:=?_));refine xl (yc L (q:=900) Z Z b1 Z s1) Z (Zm (h:=?_));refine xl (yc L (q:=900) Z Z b2 Z s2) Z ((ZU∘Zq∘Zv∘Za∘Za6∘Za7∘Zam) ?_);generalize swp d a p=D at *;refine ra (py (fun s:Nat×Array Int=>[(9,.is (.int .i64 s.1)),(900,.own (xk b (uC s.2++rest) tyU))]) (fun s=>s.2.size=m/\s=X) (fun _=>[]) ?_) ?_
 rotate_left
 ·refine xo (fun s:(Nat×Nat)×Array Int=>[(0,.is (.slice (some ⟨b,0,none⟩) m cap)),(1,.is (.int .i64 a)),(9,.is (.int .i64 s.1.1)),(10,.is (.int .i64 s.1.2)),(900,.own (xk b (uC s.2++rest) tyU))]) (fun s=>s.2.size=m/\a+1<=s.1.1/\s.1.1<=e1+1/\a<=s.1.2/\s.1.2<=e1/\partEqLoop lt a s.1.1 s.1.2 s.2=X) (fun s=>s.1.2+1-s.1.1) ((a+1,e1),D) ⟨by dsimp only;omega,by dsimp only;omega,by dsimp only;omega,by dsimp only;omega,by dsimp only;omega,hR'.symm⟩ ⟨Z,Z,Z,Z,Z,trivial⟩ ?_;rintro⟨⟨i0,j0⟩,zpj⟩ ⟨hG,hi1,hi2,hj1,hj2,hL⟩;dsimp only at hG hi1 hi2 hj1 hj2 hL |-;rw[partEqLoop] at hL;clear hX hR' hDs;refine qp (zk (qp ?_));refine ra (py (fun i:Nat=>[(0,.is (.slice (some ⟨b,0,none⟩) m cap)),(1,.is (.int .i64 a)),(9,.is (.int .i64 i)),(10,.is (.int .i64 j0)),(900,.own (xk b (uC zpj++rest) tyU))]) (fun i=>i0<=i/\i<=max i0 (j0+1)/\i=scanUp (fun x=>!lt zpj[a]! x) zpj j0 i0) (fun _=>[]) ?_) ?_
  rotate_left
  ·refine xo (fun i:Nat=>[(0,.is (.slice (some ⟨b,0,none⟩) m cap)),(1,.is (.int .i64 a)),(9,.is (.int .i64 i)),(10,.is (.int .i64 j0)),(900,.own (xk b (uC zpj++rest) tyU))]) (fun i=>i0<=i/\i<=max i0 (j0+1)/\scanUp (fun x=>!lt zpj[a]! x) zpj j0 i=scanUp (fun x=>!lt zpj[a]! x) zpj j0 i0) (fun i=>j0+1-i) i0 ⟨ns _,by omega,rfl⟩ ⟨Z,Z,Z,Z,Z,nm⟩ ?_;rintro i ⟨hi1,hi2,hi3⟩;by_cases hle:i<=j0
   ·obtain⟨_,qx⟩:=ux (rest:=rest) (show i<zpj.size by omega) (0+(i)*1) rfl;obtain⟨_,qa⟩:=ux (rest:=rest) (show a<zpj.size by omega) (0+(a)*1) rfl
    cases hc:lt zpj[a]! zpj[i]! with
    | false=>
     have hw:IntKind.i64.wrap ((i:Int)+1)=((i+1:Nat):Int):=yz I I;refine Zh (h:=?_);refine qh (id:=3) [(200036,[900]),(200040,[900])] x8 T ((Zn∘ZcI∘Zbo∘Zm) ?_);refine qq (qb L (q:=900) Z Z Z qa) Z Z (ZJ (h:=?_));refine qq (qb L (q:=900) Z Z Z qx) Z Z (zh1 L Z (fun u H hH _=>jr hc hH) ?_);refine(ZaA∘Zci∘Zdc∘Zam∘Z2∘Zv∘Zal) ?_;exact ym (x:=i) (i+1) ⟨by omega,by omega,by rw[<-hi3];exact(A9 hle (by simp [hc])).symm⟩ I ⟨Z,Z,Z,Z,Z,nm⟩
    | true=>
     refine Zh (h:=?_);refine qh (id:=3) [(200036,[900]),(200040,[900])] x8 T ((Zn∘ZcI∘Zbo∘Zm) ?_);refine qq (qb L (q:=900) Z Z Z qa) Z Z (ZJ (h:=?_));refine qq (qb L (q:=900) Z Z Z qx) Z Z (zh1 L Z (fun u H hH _=>jr hc hH) ?_);refine(ZaA∘Za5∘Za2) ?_;exact jz i nq ⟨hi1,hi2,by rw[<-hi3];exact(gv (by rintro⟨_,h⟩;simp [hc] at h)).symm⟩ rfl ⟨rfl,rfl,rfl,rfl,rfl,nm⟩
   ·refine(Zh∘Zcy∘Zn∘Zd3∘ZbV∘Zb3∘Za5∘Za2) ?_;exact jz i nq ⟨hi1,hi2,by rw[<-hi3];exact(gv (by rintro⟨h,_⟩;exact hle h)).symm⟩ rfl ⟨rfl,rfl,rfl,rfl,rfl,nm⟩
  rintro K ⟨hK1,hK2,hK3⟩;refine zk (qp ?_);refine ra (py (fun i:Nat=>[(0,.is (.slice (some ⟨b,0,none⟩) m cap)),(1,.is (.int .i64 a)),(9,.is (.int .i64 K)),(10,.is (.int .i64 i)),(900,.own (xk b (uC zpj++rest) tyU))]) (fun i=>i<=j0/\min (K-1) j0<=i/\i=scanDown (fun x=>lt zpj[a]! x) zpj K j0) (fun _=>[]) ?_) ?_
  rotate_left
  ·refine xo (fun i:Nat=>[(0,.is (.slice (some ⟨b,0,none⟩) m cap)),(1,.is (.int .i64 a)),(9,.is (.int .i64 K)),(10,.is (.int .i64 i)),(900,.own (xk b (uC zpj++rest) tyU))]) (fun i=>i<=j0/\min (K-1) j0<=i/\scanDown (fun x=>lt zpj[a]! x) zpj K i=scanDown (fun x=>lt zpj[a]! x) zpj K j0) (fun i=>i) j0 ⟨ns _,by omega,rfl⟩ ⟨Z,Z,Z,Z,Z,nm⟩ ?_;rintro i ⟨hi1,hi2,hi3⟩;by_cases hle:K<=i
   ·obtain⟨_,qx⟩:=ux (rest:=rest) (show i<zpj.size by omega) (0+(i)*1) rfl;obtain⟨_,qa⟩:=ux (rest:=rest) (show a<zpj.size by omega) (0+(a)*1) rfl
    cases hc:lt zpj[a]! zpj[i]! with
    | true=>
     obtain⟨i,rfl⟩:∃ k,i=k+1:=⟨i-1,by omega⟩
     have hw:IntKind.i64.wrap (((i+1:Nat):Int)-1)=(i:Int):=yz I I |>.trans I;refine(Zh∘Ze5∘Zn∘ZcI∘Zbo∘Zm) ?_;refine qq (qb L (q:=900) Z Z Z qa) Z Z (ZJ (h:=?_));refine qq (qb L (q:=900) Z Z Z qx) Z Z (zh1 L Z (fun u H hH _=>jr hc hH) ?_);refine(Zci∘Zdc∘Zam∘ZH∘Za6∘Zal) ?_;exact ym (x:=i+1) i ⟨by omega,by omega,by rw[<-hi3];exact(ew hle (by simp [hc])).symm⟩ I ⟨Z,Z,Z,Z,Z,nm⟩
    | false=>
     refine(Zh∘Ze5∘Zn∘ZcI∘Zbo∘Zm) ?_;refine qq (qb L (q:=900) Z Z Z qa) Z Z (ZJ (h:=?_));refine qq (qb L (q:=900) Z Z Z qx) Z Z (zh1 L Z (fun u H hH _=>jr hc hH) ?_);refine(Za5∘Za2) ?_;exact jz i nq ⟨hi1,hi2,by rw[<-hi3];exact(vx (by rintro⟨_,h⟩;simp [hc] at h)).symm⟩ rfl ⟨rfl,rfl,rfl,rfl,rfl,nm⟩
   ·refine(Zh∘ZdD∘Zn∘Zd3∘ZbV∘Zch∘Za5∘Za2) ?_;exact jz i nq ⟨hi1,hi2,by rw[<-hi3];exact(vx (by rintro⟨h,_⟩;exact hle h)).symm⟩ rfl ⟨rfl,rfl,rfl,rfl,rfl,nm⟩
  rintro zpi ⟨hM1,hM2,hM3⟩;rw[<-hK3,<-hM3] at hL;by_cases hKM:zpi<K
  ·rw[na hKM] at hL;refine(Zh∘Z8∘Zb∘ZN∘ZE∘ZdM) ?_;refine aw Z (ZcZ (h:=?_));exact jz (K,zpj) nq ⟨hG,hL⟩ Z ⟨Z,Z,nm⟩
  ·rw[nc hKM,dif_pos I] at hL;have hw5:IntKind.i64.wrap ((K:Int)+1)=((K+1:Nat):Int):=yz I I;have hw6:IntKind.i64.wrap ((zpi:Int)-1)=((zpi-1:Nat):Int):=yz I I |>.trans I;have hGs:=wj zpj K zpi;obtain⟨_,qj⟩:=ux (rest:=rest) (show zpi<zpj.size by omega) (0+(zpi)*1) rfl;obtain⟨_,qi⟩:=ux (rest:=rest) (show K<zpj.size by omega) (0+(K)*1) rfl;have s1:=vg (rest:=rest) zpj[zpi]! (show K<zpj.size by omega) (0+(K)*1) rfl;have b1:=vh (rest:=rest) (show K<zpj.size by omega) (0+(K)*1) rfl;have hz:zpi<(zpj.setIfInBounds (K) zpj[zpi]!).size:=by rw[zlv];omega
   have s2:=vg (rest:=rest) zpj[K]! hz (0+(zpi)*1) rfl;have b2:=vh (rest:=rest) hz (0+(zpi)*1) rfl;rw[gn] at s2;refine(Zh∘Z8∘Zb∘ZD∘Zl) ?_;refine qh (id:=8) [(200072,[900]),(200076,[900]),(100077,[900]),(100078,[900])] x8 T ((Zn∘Zn∘ZJ) ?_);refine qq (qb L (q:=900) Z Z Z qj) Z Z (ZJ (h:=?_));refine qq (qb L (q:=900) Z Z Z qi) Z Z (Zm (h:=?_));refine xl (yc L (q:=900) Z Z b1 Z s1) Z (Zm (h:=?_));refine xl (yc L (q:=900) Z Z b2 Z s2) Z ((ZU∘Zat∘Zv∘Zd∘Zah∘Za∘Za6∘Zal) ?_);exact ym (x:=((i0,j0),zpj)) ((K+1,zpi-1),swp zpj K zpi) ⟨by dsimp only;omega,by dsimp only;omega,by dsimp only;omega,by dsimp only;omega,by dsimp only;omega,hL⟩ M ⟨Z,Z,Z,Z,Z,trivial⟩
 ·rintro⟨K,zpj⟩ ⟨hG,hL⟩;dsimp only at hG |-;rw[<-hL];refine(Ze∘ZO∘Za∘Zd) ?_;exact xq L 900 (r:=xa b _ tyU) (rs:=[.tmp 8]) Z (fun _ _ h=>h) nq Z Z (fun _=>rfl)
def ae(h:¬ (i<e/\lt d[i]! d[i-1]! =false)):scanSorted lt d e i=i:=by
 rw[scanSorted,nc];simpa using h
def E8(h1:i<e)(h2:lt d[i]! d[i-1]! =false):scanSorted lt d e i=scanSorted lt d e (i+1):=by
 rw[scanSorted,na (by simp [h1,h2])]
def pins_ret{cap:Nat}(hab:a<e)(he:e<=d.size)(hm:d.size=m)(hm1:m<=100000)(hB:zpk B w)
  (hr:(xa b (uC d++rest) tyU).P B w C) (hC:ZCB C w B):
  RetX zpl 274 [.slice (some ⟨b,0,none⟩) m cap,.int .i64 a,.int .i64 e] w B C (xa b (uC (partialInsertionSort lt d a e).1++rest) tyU) (.bool (partialInsertionSort lt d a e).2):=by
 unfold RetX;refine yr 900 (xa b (uC d++rest) tyU) Tryz.func274 Z Tryz.ntmps274 (np Z) hB hr hC ?_;rw[xb];have hw1:IntKind.i64.wrap ((a:Int)+1)=((a+1:Nat):Int):=yz I I;have hw2:IntKind.i64.wrap ((e:Int)-(a:Int))=((e-a:Nat):Int):=yz I I |>.trans I;obtain⟨X,hX⟩:∃ X,X=partialInsertionSort lt d a e:=⟨_,rfl⟩
 rw[<-hX];unfold partialInsertionSort at hX;refine(Z5∘Za∘Zv∘Zi∘ZM∘Zbt) ?_;refine xo (fun s:(Nat×Nat)×Array Int=>[(0,.is (.slice (some ⟨b,0,none⟩) m cap)),(1,.is (.int .i64 a)),(2,.is (.int .i64 e)),(7,.is (.int .i64 s.1.2)),(8,.is (.int .i64 s.1.1)),(900,.own (xk b (uC s.2++rest) tyU))]) (fun s=>s.1.1<=5/\a+1<=s.1.2/\s.1.2<=e/\s.2.size=m/\partialIns lt a e (5-s.1.1) s.1.2 s.2=X) (fun s=>5-s.1.1) ((0,a+1),d) ⟨by dsimp only;omega,by dsimp only;omega,by dsimp only;omega,hm,hX.symm⟩ ⟨Z,Z,Z,Z,Z,Z,trivial⟩ ?_;rintro⟨⟨k,i0⟩,D⟩ ⟨hk,hi1,hi2,hD,hL⟩;dsimp only at hk hi1 hi2 hD hL |-;clear hX;by_cases hk5:k<5
 ·obtain⟨s,hs⟩:∃ s,5-k=s+1:=⟨5-k-1,by omega⟩
  have hs':5-(k+1)=s:=I;rw[hs,partialIns] at hL;dsimp only at hL;refine(Zh∘Zu∘ZaH∘ZbF∘Zam) ?_;refine ra (py (fun i:Nat=>[(0,.is (.slice (some ⟨b,0,none⟩) m cap)),(1,.is (.int .i64 a)),(2,.is (.int .i64 e)),(7,.is (.int .i64 i)),(8,.is (.int .i64 k)),(900,.own (xk b (uC D++rest) tyU))]) (fun i=>a+1<=i/\i<=e/\i=scanSorted lt D e i0) (fun _=>[]) ?_) ?_
  rotate_left
  ·refine xo (fun i:Nat=>[(0,.is (.slice (some ⟨b,0,none⟩) m cap)),(1,.is (.int .i64 a)),(2,.is (.int .i64 e)),(7,.is (.int .i64 i)),(8,.is (.int .i64 k)),(900,.own (xk b (uC D++rest) tyU))]) (fun i=>a+1<=i/\i<=e/\scanSorted lt D e i=scanSorted lt D e i0) (fun i=>e-i) i0 ⟨hi1,hi2,rfl⟩ ⟨Z,Z,Z,Z,Z,Z,nm⟩ ?_;rintro i ⟨h1,h2,h3⟩;by_cases hle:i<e
   ·obtain⟨_,q1⟩:=ux (rest:=rest) (show i<D.size by omega) (0+(i)*1) rfl;obtain⟨_,q2⟩:=ux (rest:=rest) (show i-1<D.size by omega) (0+(i-1)*1) rfl;have hw3:IntKind.i64.wrap ((i:Int)-1)=((i-1:Nat):Int):=yz I I |>.trans I
    cases hc:lt D[i]! D[i-1]! with
    | false=>
     have hw4:IntKind.i64.wrap ((i:Int)+1)=((i+1:Nat):Int):=yz I I;refine Zh (h:=?_);refine qh (id:=5) [(200024,[900]),(200029,[900])] x8 T ((Zn∘Zc8∘Zbo∘Zm) ?_);refine qq (qb L (q:=900) Z Z Z q1) Z Z ((ZbC∘Zm) ?_);refine qq (qb L (q:=900) Z Z Z q2) Z Z (zh1 L Z (fun u H hH _=>jr hc hH) ?_);refine(ZaA∘Zci∘Zdc∘Zam∘ZH∘Zv∘Zal) ?_;exact ym (x:=i) (i+1) ⟨by omega,by omega,by rw[<-h3];exact(E8 hle hc).symm⟩ I ⟨Z,Z,Z,Z,Z,Z,nm⟩
    | true=>
     refine Zh (h:=?_);refine qh (id:=5) [(200024,[900]),(200029,[900])] x8 T ((Zn∘Zc8∘Zbo∘Zm) ?_);refine qq (qb L (q:=900) Z Z Z q1) Z Z ((ZbC∘Zm) ?_);refine qq (qb L (q:=900) Z Z Z q2) Z Z (zh1 L Z (fun u H hH _=>jr hc hH) ?_);refine(ZaA∘Za5∘Za2) ?_;exact jz i nq ⟨h1,h2,by rw[<-h3];exact(ae (by rintro⟨_,h⟩;simp [hc] at h)).symm⟩ rfl ⟨rfl,rfl,rfl,rfl,rfl,rfl,nm⟩
   ·refine(Zh∘ZdD∘Zn∘Zdp∘ZbV∘Zb3∘Zch∘Za5∘Za2) ?_;exact jz i nq ⟨h1,h2,by rw[<-h3];exact(ae (by rintro⟨h,_⟩;exact hle h)).symm⟩ rfl ⟨rfl,rfl,rfl,rfl,rfl,rfl,nm⟩
  ·rintro i ⟨h1,h2,h3⟩;rw[<-h3] at hL;by_cases hie:i=e
   ·rw[na hie] at hL;subst hie;rw[<-hL];refine(Zh∘Z8∘Zb∘ZC∘Zr∘ZK∘Zd) ?_;exact xq L 900 (r:=xa b _ tyU) (rs:=[.tmp 6]) Z (fun _ _ h=>h) nq Z Z (fun _=>rfl)
   ·rw[nc hie] at hL;by_cases h50:e-a<50
    ·rw[na h50] at hL;rw[<-hL];refine(Zh∘Z8∘Zb∘Zs∘Z6∘ZQ∘Zax∘Zai∘Zr∘Zah∘Zd) ?_;exact xq L 900 (r:=xa b _ tyU) (rs:=[.tmp 6]) Z (fun _ _ h=>h) nq Z Z (fun _=>rfl)
    ·rw[nc h50] at hL;have hw3:IntKind.i64.wrap ((i:Int)-1)=((i-1:Nat):Int):=yz I I |>.trans I;have hw4:IntKind.i64.wrap ((i:Int)-(a:Int))=((i-a:Nat):Int):=yz I I |>.trans I;have hw5:IntKind.i64.wrap ((e:Int)-(i:Int))=((e-i:Nat):Int):=yz I I |>.trans I;have hw6:IntKind.i64.wrap ((i:Int)+1)=((i+1:Nat):Int):=yz I I;have hw7:IntKind.i64.wrap ((k:Int)+1)=((k+1:Nat):Int):=yz I I;have hDs:=wj D i (i-1);obtain⟨_,qj⟩:=ux (rest:=rest) (show i-1<D.size by omega) (0+(i-1)*1) rfl;obtain⟨_,qi⟩:=ux (rest:=rest) (show i<D.size by omega) (0+(i)*1) rfl;have s1:=vg (rest:=rest) D[i-1]! (show i<D.size by omega) (0+(i)*1) rfl;have b1:=vh (rest:=rest) (show i<D.size by omega) (0+(i)*1) rfl;have hz:i-1<(D.setIfInBounds (i) D[i-1]!).size:=by rw[zlv];omega
     have s2:=vg (rest:=rest) D[i]! hz (0+(i-1)*1) rfl;have b2:=vh (rest:=rest) hz (0+(i-1)*1) rfl;rw[gn] at s2;refine(Zh∘Z8∘Zb∘Zs∘Z6∘ZQ∘Zax∘Z0∘Zl) ?_;refine qh (id:=11) [(200051,[900]),(200055,[900]),(100056,[900]),(100057,[900])] x8 T ((Zn∘ZbC∘ZbC∘Zm) ?_);refine qq (qb L (q:=900) Z Z Z qj) Z Z (ZJ (h:=?_));refine qq (qb L (q:=900) Z Z Z qi) Z Z (Zm (h:=?_));refine xl (yc L (q:=900) Z Z b1 Z s1) Z (Zm (h:=?_));refine xl (yc L (q:=900) Z Z b2 Z s2) Z ((ZU∘Ze) ?_);generalize swp D i (i-1)=D1 at *;obtain⟨D2,hD2⟩:∃ D2,D2=(if i-a>=2 then shiftDown lt (i-1) D1 else D1):=⟨_,rfl⟩
     rw[<-hD2] at hL;refine ii (fun zph:Array Int=>[(0,.is (.slice (some ⟨b,0,none⟩) m cap)),(1,.is (.int .i64 a)),(2,.is (.int .i64 e)),(7,.is (.int .i64 i)),(8,.is (.int .i64 k)),(900,.own (xk b (uC zph++rest) tyU))]) (fun zph=>zph.size=m/\zph=D2) (fun _=>[]) ?_ ?_
     rotate_left
     ·by_cases h2a:i-a>=2
      ·rw[na h2a] at hD2;refine(ZT∘Zax∘Zb8∘Zr∘ZV∘Za∘Za6∘Zbt) ?_;refine xo (fun t:Nat×Array Int=>[(0,.is (.slice (some ⟨b,0,none⟩) m cap)),(1,.is (.int .i64 a)),(2,.is (.int .i64 e)),(7,.is (.int .i64 i)),(8,.is (.int .i64 k)),(9,.is (.int .i64 t.1)),(900,.own (xk b (uC t.2++rest) tyU))]) (fun t=>t.1<=i-1/\t.2.size=m/\shiftDown lt t.1 t.2=D2) (fun t=>t.1) (i-1,D1) ⟨Nat.le_refl _,by dsimp only;omega,hD2.symm⟩ ⟨Z,Z,Z,Z,Z,Z,Z,trivial⟩ ?_;rintro⟨j,zph⟩ ⟨hj,hE,hS⟩;dsimp only at hj hE hS |-;clear hD2;rcases j with _ | j
       ·rw[shiftDown] at hS;refine(Zh∘Zb9∘Za1∘Za9∘Za2) ?_;exact jz zph nq ⟨hE,hS⟩ Z ⟨Z,Z,Z,Z,Z,Z,nm⟩
       ·rw[shiftDown] at hS;have hw8:IntKind.i64.wrap (((j+1:Nat):Int)-1)=(j:Int):=yz I I |>.trans I;obtain⟨_,q1⟩:=ux (rest:=rest) (show j+1<zph.size by omega) (0+(j+1)*1) rfl;obtain⟨_,q2⟩:=ux (rest:=rest) (show j<zph.size by omega) (0+(j)*1) rfl
        cases hc:lt zph[j+1]! zph[j]! with
        | false=>
         rw[na (by rw[hc];rfl)] at hS;refine(Zh∘Zb9∘ZbL∘ZbF∘Ze) ?_;refine qh (id:=16) [(200071,[900]),(200076,[900])] x8 T (ZJ (h:=?_));refine qq (qb L (q:=900) Z Z Z q1) Z Z ((ZbC∘Zm) ?_);refine qq (qb L (q:=900) Z Z Z q2) Z Z (zh1 L Z (fun u H hH _=>jr hc hH) ?_);refine(ZaA∘Zc4∘ZdM) ?_;refine aw Z ((Zd9∘ZcZ) ?_);exact jz zph nq ⟨hE,hS⟩ Z ⟨Z,Z,Z,Z,Z,Z,nm⟩
        | true=>
         rw[nc (by rw[hc];simp)] at hS;obtain⟨_,qj⟩:=ux (rest:=rest) (show j<zph.size by omega) (0+(j)*1) rfl;obtain⟨_,qi⟩:=ux (rest:=rest) (show j+1<zph.size by omega) (0+(j+1)*1) rfl;have s1:=vg (rest:=rest) zph[j]! (show j+1<zph.size by omega) (0+(j+1)*1) rfl;have b1:=vh (rest:=rest) (show j+1<zph.size by omega) (0+(j+1)*1) rfl;have hz:j<(zph.setIfInBounds (j+1) zph[j]!).size:=by rw[zlv];omega
         have s2:=vg (rest:=rest) zph[j+1]! hz (0+(j)*1) rfl;have b2:=vh (rest:=rest) hz (0+(j)*1) rfl;rw[gn] at s2;refine(Zh∘Zb9∘ZbL∘ZbF∘Ze) ?_;refine qh (id:=16) [(200071,[900]),(200076,[900])] x8 T (ZJ (h:=?_));refine qq (qb L (q:=900) Z Z Z q1) Z Z ((ZbC∘Zm) ?_);refine qq (qb L (q:=900) Z Z Z q2) Z Z (zh1 L Z (fun u H hH _=>jr hc hH) ?_);refine(ZaA∘ZaY∘Zdc) ?_;refine qh (id:=17) [(200088,[900]),(200092,[900]),(100093,[900]),(100094,[900])] x8 T ((Zn∘ZbC∘ZbC∘Zm) ?_);refine qq (qb L (q:=900) Z Z Z qj) Z Z (ZJ (h:=?_));refine qq (qb L (q:=900) Z Z Z qi) Z Z (Zm (h:=?_));refine xl (yc L (q:=900) Z Z b1 Z s1) Z (Zm (h:=?_));refine xl (yc L (q:=900) Z Z b2 Z s2) Z ((ZbI∘ZaB∘Zaw∘Za∘Za6∘ZaU) ?_);exact ym (x:=(j+1,zph)) (j,swp zph (j+1) j) ⟨by dsimp only;omega,by dsimp only;rw[wj];exact hE,hS⟩ M ⟨Z,Z,Z,Z,Z,Z,Z,trivial⟩
      ·rw[nc h2a] at hD2;refine(ZT∘Zax∘Za1∘ZZ) ?_;exact jz D1 nq ⟨by omega,hD2.symm⟩ Z ⟨Z,Z,Z,Z,Z,Z,nm⟩
     ·rintro zpj ⟨hG,hGe⟩;rw[<-hGe] at hL;clear hD2 hGe;by_cases h2b:e-i>=2
      ·rw[na h2b] at hL;obtain⟨D3,hD3⟩:∃ D3,D3=shiftUp lt e (i+1) zpj:=⟨_,rfl⟩
       rw[<-hD3] at hL;refine(Ze∘Zbg∘Zax∘Zb8∘Zr∘Zcj∘Za∘Zv∘Zbt) ?_
       ·refine xo (fun t:Nat×Array Int=>[(0,.is (.slice (some ⟨b,0,none⟩) m cap)),(1,.is (.int .i64 a)),(2,.is (.int .i64 e)),(7,.is (.int .i64 i)),(8,.is (.int .i64 k)),(10,.is (.int .i64 t.1)),(900,.own (xk b (uC t.2++rest) tyU))]) (fun t=>i+1<=t.1/\t.1<=e/\t.2.size=m/\shiftUp lt e t.1 t.2=D3) (fun t=>e-t.1) (i+1,zpj) ⟨Nat.le_refl _,by dsimp only;omega,hG,hD3.symm⟩ ⟨Z,Z,Z,Z,Z,Z,Z,trivial⟩ ?_;rintro⟨j,zph⟩ ⟨hj1,hj2,hE,hS⟩;dsimp only at hj1 hj2 hE hS |-;clear hD3;rw[shiftUp] at hS;by_cases hje:j<e
        ·rw[na hje] at hS;have hw8:IntKind.i64.wrap ((j:Int)-1)=((j-1:Nat):Int):=yz I I |>.trans I;have hw9:IntKind.i64.wrap ((j:Int)+1)=((j+1:Nat):Int):=yz I I;obtain⟨_,q1⟩:=ux (rest:=rest) (show j<zph.size by omega) (0+(j)*1) rfl;obtain⟨_,q2⟩:=ux (rest:=rest) (show j-1<zph.size by omega) (0+(j-1)*1) rfl
         cases hc:lt zph[j]! zph[j-1]! with
         | false=>
          rw[na (by rw[hc];rfl)] at hS;refine(Zh∘ZaP∘Zb∘ZaH∘ZbF∘Ze) ?_;refine qh (id:=22) [(200109,[900]),(200114,[900])] x8 T (ZJ (h:=?_));refine qq (qb L (q:=900) Z Z Z q1) Z Z ((ZbC∘Zm) ?_);refine qq (qb L (q:=900) Z Z Z q2) Z Z (zh1 L Z (fun u H hH _=>jr hc hH) ?_);refine(ZaA∘Zc4∘ZdM) ?_;refine aw Z ((Zd9∘ZcZ∘ZaB∘Z2∘Zv∘ZaU) ?_);exact ym (x:=((k,i0),D)) ((k+1,i),zph) ⟨by dsimp only;omega,by dsimp only;omega,by dsimp only;omega,hE,by dsimp only;rw[hs',hS];exact hL⟩ M ⟨Z,Z,Z,Z,Z,Z,trivial⟩
         | true=>
          rw[nc (by rw[hc];simp)] at hS;obtain⟨_,qj⟩:=ux (rest:=rest) (show j-1<zph.size by omega) (0+(j-1)*1) rfl;obtain⟨_,qi⟩:=ux (rest:=rest) (show j<zph.size by omega) (0+(j)*1) rfl;have s1:=vg (rest:=rest) zph[j-1]! (show j<zph.size by omega) (0+(j)*1) rfl;have b1:=vh (rest:=rest) (show j<zph.size by omega) (0+(j)*1) rfl;have hz:j-1<(zph.setIfInBounds (j) zph[j-1]!).size:=by rw[zlv];omega
          have s2:=vg (rest:=rest) zph[j]! hz (0+(j-1)*1) rfl;have b2:=vh (rest:=rest) hz (0+(j-1)*1) rfl;rw[gn] at s2;refine(Zh∘ZaP∘Zb∘ZaH∘ZbF∘Ze) ?_;refine qh (id:=22) [(200109,[900]),(200114,[900])] x8 T (ZJ (h:=?_));refine qq (qb L (q:=900) Z Z Z q1) Z Z ((ZbC∘Zm) ?_);refine qq (qb L (q:=900) Z Z Z q2) Z Z (zh1 L Z (fun u H hH _=>jr hc hH) ?_);refine(ZaA∘ZaY∘Zdc) ?_;refine qh (id:=23) [(200126,[900]),(200130,[900]),(100131,[900]),(100132,[900])] x8 T ((Zn∘ZbC∘ZbC∘Zm) ?_);refine qq (qb L (q:=900) Z Z Z qj) Z Z (ZJ (h:=?_));refine qq (qb L (q:=900) Z Z Z qi) Z Z (Zm (h:=?_));refine xl (yc L (q:=900) Z Z b1 Z s1) Z (Zm (h:=?_));refine xl (yc L (q:=900) Z Z b2 Z s2) Z ((ZbI∘ZaB∘ZbD∘Za∘Zv∘ZaU) ?_);exact ym (x:=(j,zph)) (j+1,swp zph j (j-1)) ⟨by dsimp only;omega,by dsimp only;omega,by dsimp only;rw[wj];exact hE,hS⟩ M ⟨Z,Z,Z,Z,Z,Z,Z,trivial⟩
        ·rw[nc hje] at hS;refine(Zh∘ZaP∘Zb∘Z0∘Za9∘Za2∘ZaB∘Z2∘Zv∘ZaU) ?_;exact ym (x:=((k,i0),D)) ((k+1,i),zph) ⟨by dsimp only;omega,by dsimp only;omega,by dsimp only;omega,hE,by dsimp only;rw[hs',hS];exact hL⟩ M ⟨Z,Z,Z,Z,Z,Z,trivial⟩
      ·rw[nc h2b] at hL;refine(Ze∘Zbg∘Zax∘Za1∘Zca∘Z2∘Zv∘ZaU) ?_;exact ym (x:=((k,i0),D)) ((k+1,i),zpj) ⟨by dsimp only;omega,by dsimp only;omega,by dsimp only;omega,hG,by dsimp only;rw[hs'];exact hL⟩ M ⟨Z,Z,Z,Z,Z,Z,trivial⟩
 ·obtain rfl:k=5:=by omega
  have hL':(D,false)=X:=hL;rw[<-hL'];refine(Zh∘Zu∘Z0∘ZaR∘ZcC∘Zd) ?_;exact xq L 900 (r:=xa b _ tyU) (rs:=[.tmp 6]) Z (fun _ _ h=>h) nq Z Z (fun _=>rfl)
def _root_.Ze6(t:Wr Y->A:=by intro h;refine xl (yc L (q:=900) Z Z Z Z Z) Z ?_;exact h.1)(h:Y):A:=t ⟨h⟩
abbrev tyX:TypeId:=402
def Ov{x:Nat}(hx:x<18446744073709551616)(hB:zpk B w)
  (hr:(xa b [.int .u64 x] tyX).P B w C) (hC:ZCB C w B):
  RetX zpl 307 [.pointer (some ⟨b,0,none⟩)] w B C (xa b [.int .u64 (xorNextN x:Nat)] tyX) (.int .u64 (xorNextN x:Nat)):=by
 obtain⟨X1,h1⟩:∃ X1:Nat,X1=x^^^(x*8192%18446744073709551616):=⟨_,rfl⟩
 obtain⟨X2,h2⟩:∃ X2:Nat,X2=X1^^^(X1/128):=⟨_,rfl⟩
 obtain⟨X3,h3⟩:∃ X3:Nat,X3=X2^^^(X2*131072%18446744073709551616):=⟨_,rfl⟩
 have l1:X1<18446744073709551616:=by rw[h1];exact Nat.xor_lt_two_pow (n:=64) I I
 have l2:X2<18446744073709551616:=by rw[h2];exact Nat.xor_lt_two_pow (n:=64) I I
 have l3:X3<18446744073709551616:=by rw[h3];exact Nat.xor_lt_two_pow (n:=64) I I
 have hv:xorNextN x=X3:=by unfold xorNextN;simp only[];rw[<-h1,<-h2,<-h3]
 have s1:IntKind.u64.wrap ((x:Int)*2^min (13:Int).toNat IntKind.u64.bits)=((x*8192%18446744073709551616:Nat):Int):=by
  rw[IntKind.wrap_u64,show((2:Int)^min (13:Int).toNat IntKind.u64.bits)=8192 from by decide];omega
 have s2:(X1:Int).fdiv (2^min (7:Int).toNat IntKind.u64.bits)=((X1/128:Nat):Int):=by
  rw[show((2:Int)^min (7:Int).toNat IntKind.u64.bits)=128 from by decide,zop _ I];omega
 have s3:IntKind.u64.wrap ((X2:Int)*2^min (17:Int).toNat IntKind.u64.bits)=((X2*131072%18446744073709551616:Nat):Int):=by
  rw[IntKind.wrap_u64,show((2:Int)^min (17:Int).toNat IntKind.u64.bits)=131072 from by decide];omega
 have x1:bits .xor .u64 (x:Int) ((x*8192%18446744073709551616:Nat):Int)=(X1:Int):=by rw[bits_xor_u64_nat _ _ hx I,h1]
 have x2:bits .xor .u64 (X1:Int) ((X1/128:Nat):Int)=(X2:Int):=by rw[bits_xor_u64_nat _ _ l1 I,h2]
 have x3:bits .xor .u64 (X2:Int) ((X2*131072%18446744073709551616:Nat):Int)=(X3:Int):=by rw[bits_xor_u64_nat _ _ l2 I,h3]
 rw[hv];clear hv h1 h2 h3;unfold RetX;refine yr 900 (xa b [.int .u64 x] tyX) Tryz.func307 Z Tryz.ntmps307 (np Z) hB hr hC ?_;rw[xb];refine(ZL∘Zc) ?_;refine qh (id:=1) [(200005,[900]),(200008,[900]),(100011,[900])] x8 T ((Zj∘Zdb∘ZcP∘Zj∘Zdb∘ZcP) ?_);refine zh (Ol Z Z Z Z J s1) Z (zh (Tz Z Z Z Z x1) Z ((Zdb∘Ze6∘ZU) ?_));refine qh (id:=2) [(200014,[900]),(200017,[900]),(100020,[900])] x8 T ((Zj∘Zdb∘ZcP∘Zj∘Zdb∘ZcP) ?_);refine zh (zch Z Z Z Z J s2) Z (zh (Tz Z Z Z Z x2) Z ((Zdb∘Ze6∘ZU) ?_));refine qh (id:=3) [(200023,[900]),(200026,[900]),(100029,[900])] x8 T ((Zj∘Zdb∘ZcP∘Zj∘Zdb∘ZcP) ?_);refine zh (Ol Z Z Z Z J s3) Z (zh (Tz Z Z Z Z x3) Z ((Zdb∘Ze6∘ZU∘Z2∘Zeo∘ZeN∘Zd) ?_));exact xq L 900 (r:=xa b _ tyX) (rs:=[.tmp 2]) Z (fun _ _ h=>h) nq Z Z (fun _=>rfl)
def _root_.ZbY(t:Wr Y->A:=by exact fun h=>(Zdk∘Zdq) h.1)(h:Y):A:=t ⟨h⟩
def _root_.Zff(t:Wr Y->A:=by intro h;refine qh (id:=10) [(200058,[900]),(200062,[900]),(100063,[900]),(100064,[900])] x8 T ?_;refine Zn (h:=?_);exact h.1)(h:Y):A:=t ⟨h⟩
def Cs(hn:n<18446744073709551616)(hB:zpk B w):Ret zpl 224 [.int .u64 n] w B (fun v _=>v=.int .i64 (bitsLen n)):=by
 refine yf Tryz.func224 Z Tryz.ntmps224 (np Z) hB ((ZL∘Zc∘Zem∘Zae∘Zq) ?_);refine z81 L Z (fun u H hH _=>Ret.of_same hH (Tryz.bits_Len64 (n:Int) u I I)) ?_;refine Zd (h:=?_);refine ye1 L [.tmp 2] fun u H hH hle=>?_;rw[zl6,bitLen_eq n hn];rfl
def zan(hn:n<=100000)(hB:zpk B w):Ret zpl 306 [.int .i64 n] w B (fun v _=>v=.int .u64 (1<<<bitsLen n:Nat)):=by
 have hb:bitsLen n<=17:=(bitsLen_le_iff n 17).2 I;have hp2:(2:Nat)^bitsLen n<=2^17:=zom I hb
 have hmin:min ((bitsLen n:Nat):Int).toNat IntKind.u64.bits=bitsLen n:=by
  rw[zl6];have:IntKind.u64.bits=64:=J;omega
 have s1:IntKind.u64.wrap ((1:Int)*2^min ((bitsLen n:Nat):Int).toNat IntKind.u64.bits)=((1<<<bitsLen n:Nat):Int):=by
  rw[hmin,zol,Nat.one_mul,Int.one_mul,Int.natCast_pow];have e2:((2:Nat):Int)^bitsLen n=((2^bitsLen n:Nat):Int):=(Int.natCast_pow 2 _).symm;rw[show((2:Int)^bitsLen n)=((2:Nat):Int)^bitsLen n from rfl,e2];have hp3:2^bitsLen n<=131072:=hp2;clear hp2 hmin e2;generalize 2^bitsLen n=zpi at *;exact wrap_u64 I I
 have hc:IntKind.u64.wrap (n:Int)=(n:Int):=wrap_u64 I I;refine yf Tryz.func306 Z Tryz.ntmps306 (np Z) hB ((Z5∘Za) ?_);refine z8 (ku Z Z Z wl.1 wl.2 (wrap_u64 I I)) Z (z81 L Z (fun u H hH _=>Cs I hH) ?_);refine z8 (Ol Z Z Z Z I s1) Z (Zd (h:=?_));exact ye2 L [.tmp 2]
def zfs{cap:Nat}(hab:a<=e)(he:e<=d.size)(hm:d.size=m)(hm1:m<=100000)(hB:zpk B w)
  (hr:(xa b (uC d++rest) tyU).P B w C) (hC:ZCB C w B):
  kr zpl 271 [.slice (some ⟨b,0,none⟩) m cap,.int .i64 a,.int .i64 e] w B C (xa b (uC (breakPatterns d a e)++rest) tyU):=by
 unfold kr;refine yr 900 (xa b (uC d++rest) tyU) Tryz.func271 Z Tryz.ntmps271 (np Z) hB hr hC ?_;rw[xb];obtain⟨Ln,rfl⟩:∃ Ln,e=a+Ln:=⟨e-a,by omega⟩
 have hw0:IntKind.i64.wrap (((a+Ln:Nat):Int)-(a:Int))=(Ln:Int):=yz I I |>.trans I;by_cases h8:8<=Ln
 ·have hX:=breakPatterns_eq d a Ln h8;obtain⟨zpi,hM⟩:∃ zpi,zpi=1<<<bitsLen Ln:=⟨_,rfl⟩
  have hb17:bitsLen Ln<=17:=(bitsLen_le_iff Ln 17).2 I
  have hMp:1<=zpi/\zpi<=131072:=by
   rw[hM,zol,Nat.one_mul];exact⟨Nat.one_le_two_pow,zom I hb17⟩
  have hM2:zpi<=2*Ln:=by
   rw[hM,zol,Nat.one_mul];exact two_pow_bitsLen_le I
  obtain⟨I0,hI0⟩:∃ I0,I0=a+Ln/4*2-1:=⟨_,rfl⟩
  rw[<-hM,<-hI0] at hX;have hc1:IntKind.u64.wrap (Ln:Int)=(Ln:Int):=wrap_u64 I I
  have et:((Ln:Nat):Int).tdiv 4=((Ln/4:Nat):Int):=by
   rw[zn9 I];omega
  have hq:IntKind.i64.wrap (((Ln:Nat):Int).tdiv 4)=((Ln/4:Nat):Int):=by rw[et];exact yz I I
  have hw1:IntKind.i64.wrap (((Ln/4:Nat):Int)*2)=((Ln/4*2:Nat):Int):=yz I I |>.trans I;have hw2:IntKind.i64.wrap ((a:Int)+((Ln/4*2:Nat):Int))=((a+Ln/4*2:Nat):Int):=yz I I |>.trans I;have hw3:IntKind.i64.wrap (((a+Ln/4*2:Nat):Int)-1)=(I0:Int):=yz I I |>.trans I;have hw4:IntKind.i64.wrap (((a+Ln/4*2:Nat):Int)+1)=((I0+2:Nat):Int):=yz I I |>.trans I;have hM1:IntKind.u64.wrap ((zpi:Int)-1)=((zpi-1:Nat):Int):=wrap_u64 I I |>.trans I
  have hln:(UInt64.ofNat Ln).toNat=Ln:=by
   rw[UInt64.toNat_ofNat'];exact Nat.mod_eq_of_lt I
  refine(ZL∘Zax∘ZaM∘Zb8∘Zr∘Zq) ?_;refine z8 (ku Z Z Z V2.1 V2.2 (wrap_u64 I I)) Z (Zbu (h:=?_));refine kq 7 901 rfl fun br=>?_;refine Zu (h:=?_);refine z81 L Z (fun u H hH _=>hM ▸ zan (n:=Ln) I hH) ?_;refine(Zc∘Z9∘Zb∘ZbY∘Za6∘Zbt) ?_;refine xo (fun s:Nat×(UInt64×Array Int)=>[(0,.is (.slice (some ⟨b,0,none⟩) m cap)),(1,.is (.int .i64 a)),(6,.is (.int .i64 Ln)),(7,.is (.pointer (some ⟨br,0,none⟩))),(8,.is (.int .u64 zpi)),(9,.is (.int .i64 (I0+s.1:Nat))),(900,.own (xk b (uC s.2.2++rest) tyU)),(901,.own (xk br [.int .u64 s.2.1.toNat] tyX))]) (fun s=>s.1<=3/\s.2.2.size=m/\bpRest a Ln zpi I0 (3-s.1) s.1 s.2=breakPatterns d a (a+Ln)) (fun s=>3-s.1) (0,(UInt64.ofNat Ln,d)) ⟨by dsimp only;omega,hm,hX.symm⟩ ⟨Z,Z,Z,Z,Z,Z,Z,by dsimp only;rw[hln];rfl,trivial⟩ ?_;rintro⟨t,⟨r,D⟩⟩ ⟨ht3,hD,hst⟩;dsimp only at ht3 hD hst |-;have hrl:r.toNat<18446744073709551616:=UInt64.toNat_lt r;by_cases ht:t<3
  ·obtain⟨o1,ho1⟩:∃ o1,o1=xorNextN r.toNat &&& (zpi-1):=⟨_,rfl⟩
   have ho1l:o1<=zpi-1:=by rw[ho1];exact Nat.and_le_right
   have hand:bits .and .u64 ((xorNextN r.toNat:Nat):Int) ((zpi-1:Nat):Int)=(o1:Int):=by rw[bits_and_u64_nat _ _ (xorNextN_lt _ hrl) I,ho1]
   have hcv:IntKind.i64.wrap (o1:Int)=(o1:Int):=yz I I;have hwt:IntKind.i64.wrap (((I0+t:Nat):Int)+1)=((I0+(t+1):Nat):Int):=yz I I |>.trans I;by_cases hoL:Ln<=o1
   ·have hw5:IntKind.i64.wrap ((o1:Int)-(Ln:Int))=((o1-Ln:Nat):Int):=yz I I |>.trans I;have hw6:IntKind.i64.wrap ((a:Int)+((o1-Ln:Nat):Int))=((a+(o1-Ln):Nat):Int):=yz I I;have ho:(if (xorNext r).toNat &&& (zpi-1)>=Ln then ((xorNext r).toNat &&& (zpi-1))-Ln else (xorNext r).toNat &&& (zpi-1))=o1-Ln:=by rw[xorNext_toNat,<-ho1,na hoL]
    obtain⟨_,qj⟩:=ux (rest:=rest) (show a+(o1-Ln)<D.size by omega) (0+(a+(o1-Ln))*1) rfl;obtain⟨_,qi⟩:=ux (rest:=rest) (show I0+t<D.size by omega) (0+(I0+t)*1) rfl;have s1:=vg (rest:=rest) D[a+(o1-Ln)]! (show I0+t<D.size by omega) (0+(I0+t)*1) rfl;have b1:=vh (rest:=rest) (show I0+t<D.size by omega) (0+(I0+t)*1) rfl;have hz:a+(o1-Ln)<(D.setIfInBounds (I0+t) D[a+(o1-Ln)]!).size:=by rw[zlv];omega
    have s2:=vg (rest:=rest) D[I0+t]! hz (0+(a+(o1-Ln))*1) rfl;have b2:=vh (rest:=rest) hz (0+(a+(o1-Ln))*1) rfl;rw[gn] at s2;refine(Zh∘ZY∘Zz∘ZbY∘Zv∘Zcv∘ZE∘ZbF∘Z8) ?_;refine q0 (y6 L 901 (xa br [.int .u64 (xorNextN r.toNat:Nat)] tyX) (.int .u64 (xorNextN r.toNat:Nat)) (r:=xa br [.int .u64 r.toNat] tyX) Z Z Z Z Z (fun u H C hH _ hr hC=>Ov hrl hH hr hC)) ((Za∘Za6) ?_);refine z8 (Uh Z Z Z Z hand) Z (z8 (ku Z Z Z wm.1 wm.2 (yz I I)) Z ((Zi∘ZK∘Zb∘ZbL∘ZQ∘Zax∘Zd∘Zff∘Zcs∘ZbP) ?_));refine qq (qb L (q:=900) Z Z Z qj) Z Z (ZJ (h:=?_));refine qq (qb L (q:=900) Z Z Z qi) Z Z (Zm (h:=?_));refine xl (yc L (q:=900) Z Z b1 Z s1) Z (Zm (h:=?_));refine xl (yc L (q:=900) Z Z b2 Z s2) Z ((ZbI∘ZaB∘ZH∘Zv∘ZaU) ?_);exact ym (x:=(t,(r,D))) (t+1,(xorNext r,swp D (I0+t) (a+(o1-Ln)))) ⟨by dsimp only;omega,by dsimp only;rw[wj];exact hD,by dsimp only;rw[<-hst,bp_step a Ln zpi I0 t r D ((o1-Ln)) ht ho]⟩ M ⟨Z,Z,Z,Z,Z,Z,Z,by dsimp only;rw[xorNext_toNat];rfl,trivial⟩
   ·have hw6:IntKind.i64.wrap ((a:Int)+(o1:Int))=((a+o1:Nat):Int):=yz I I;have ho:(if (xorNext r).toNat &&& (zpi-1)>=Ln then ((xorNext r).toNat &&& (zpi-1))-Ln else (xorNext r).toNat &&& (zpi-1))=o1:=by rw[xorNext_toNat,<-ho1,nc I]
    obtain⟨_,qj⟩:=ux (rest:=rest) (show a+o1<D.size by omega) (0+(a+o1)*1) rfl;obtain⟨_,qi⟩:=ux (rest:=rest) (show I0+t<D.size by omega) (0+(I0+t)*1) rfl;have s1:=vg (rest:=rest) D[a+o1]! (show I0+t<D.size by omega) (0+(I0+t)*1) rfl;have b1:=vh (rest:=rest) (show I0+t<D.size by omega) (0+(I0+t)*1) rfl;have hz:a+o1<(D.setIfInBounds (I0+t) D[a+o1]!).size:=by rw[zlv];omega
    have s2:=vg (rest:=rest) D[I0+t]! hz (0+(a+o1)*1) rfl;have b2:=vh (rest:=rest) hz (0+(a+o1)*1) rfl;rw[gn] at s2;refine(Zh∘ZY∘Zz∘ZbY∘Zv∘Zcv∘ZE∘ZbF∘Z8) ?_;refine q0 (y6 L 901 (xa br [.int .u64 (xorNextN r.toNat:Nat)] tyX) (.int .u64 (xorNextN r.toNat:Nat)) (r:=xa br [.int .u64 r.toNat] tyX) Z Z Z Z Z (fun u H C hH _ hr hC=>Ov hrl hH hr hC)) ((Za∘Za6) ?_);refine z8 (Uh Z Z Z Z hand) Z (z8 (ku Z Z Z wm.1 wm.2 (yz I I)) Z ((Zi∘ZK∘Zb∘Za1∘ZZ∘Zbq∘Zff∘Zcs∘ZbP) ?_));refine qq (qb L (q:=900) Z Z Z qj) Z Z (ZJ (h:=?_));refine qq (qb L (q:=900) Z Z Z qi) Z Z (Zm (h:=?_));refine xl (yc L (q:=900) Z Z b1 Z s1) Z (Zm (h:=?_));refine xl (yc L (q:=900) Z Z b2 Z s2) Z ((ZbI∘ZaB∘ZH∘Zv∘ZaU) ?_);exact ym (x:=(t,(r,D))) (t+1,(xorNext r,swp D (I0+t) (a+o1))) ⟨by dsimp only;omega,by dsimp only;rw[wj];exact hD,by dsimp only;rw[<-hst,bp_step a Ln zpi I0 t r D (o1) ht ho]⟩ M ⟨Z,Z,Z,Z,Z,Z,Z,by dsimp only;rw[xorNext_toNat];rfl,trivial⟩
  ·obtain rfl:t=3:=by omega
   have hst':D=breakPatterns d a (a+Ln):=hst;rw[hst'];refine(Zh∘ZY∘Zz∘ZbY∘Zv∘Zcp∘Za9∘Za2) ?_;exact xp L 900 (r:=xa b _ tyU) Z (fun _ _ h=>h) nq Z Z
 ·have:breakPatterns d a (a+Ln)=d:=by unfold breakPatterns;simp only[Nat.add_sub_cancel_left];rw[if_neg I]
  rw[this];refine(ZL∘Zax∘ZaM∘Za1∘ZZ) ?_;exact xp L 900 (r:=xa b _ tyU) Z (fun _ _ h=>h) nq Z Z
def _root_.Ze7(t:Wr Y->A:=by intro h;refine zh (T8 L (qk Z E) Z Z Z E) Z ?_;exact h.1)(h:Y):A:=t ⟨h⟩
abbrev tyI:TypeId:=3
def zge(h:j<d.size):(uC d++rest)[0+j*1]?=some (.int .u64 d[j]!):=by
 rw[zlf,zmi,zml (by rw[Av];exact h)];exact zb7 h
def Fh{cap bs:Nat}(ha:a<m)(he:e<m)(hm:d.size=m)(hm1:m<=100000)(hk:k<=1000)(hB:zpk B w)(hb:B b=some (.cells (uC d++rest).toArray tyU))
  (hr:(xa bs [.int .i64 k] tyI).P B w C) (hC:ZCB C w B):
  RetX zpl 317 [.slice (some ⟨b,0,none⟩) m cap,.int .i64 a,.int .i64 e,.pointer (some ⟨bs,0,none⟩)] w B C (xa bs [.int .i64 (order2 lt d a e k).2.2] tyI) (.tuple #[.int .i64 (order2 lt d a e k).1,.int .i64 (order2 lt d a e k).2.1]):=by
 unfold RetX;refine yr 900 (xa bs [.int .i64 k] tyI) Tryz.func317 Z Tryz.ntmps317 (np Z) hB hr hC ?_;rw[xb];have g1:=zge (rest:=rest) (show a<d.size by omega);have g2:=zge (rest:=rest) (show e<d.size by omega);have hw:IntKind.i64.wrap ((k:Int)+1)=((k+1:Nat):Int):=yz I I;unfold order2
 cases hc:lt d[e]! d[a]! with
 | true=>
  refine(ZL∘Zbk∘Zcu∘ZJ∘Ze7∘ZJ∘Ze7) ?_;refine zh1 L Z (fun u H hH _=>jr hc hH) ?_;refine(Zc4∘Ze∘Zq∘Zeo∘ZeN∘Zv∘Zeo) ?_;refine xf (yc L (q:=900) Z Z Z Z Z) ((Zf∘Zcq∘ZB) ?_);exact xq L 900 (r:=xa bs _ tyI) (rs:=[.tmp 8,.tmp 9]) Z (fun _ _ h=>h) nq Z Z (fun _=>rfl)
 | false=>
  refine(ZL∘Zbk∘Zcu∘ZJ∘Ze7∘ZJ∘Ze7) ?_;refine zh1 L Z (fun u H hH _=>jr hc hH) ?_;refine(ZaY∘Zae∘Z9∘Zb∘ZB) ?_;exact xq L 900 (r:=xa bs _ tyI) (rs:=[.tmp 8,.tmp 9]) Z (fun _ _ h=>h) nq Z Z (fun _=>rfl)
def Bp(d:Array Int)(ha:a<m)(he:e<m):(order2 lt d a e k).1<m/\(order2 lt d a e k).2.1<m/\(order2 lt d a e k).2.2<=k+1:=by
 unfold order2;split
 ·exact⟨he,ha,ns _⟩
 ·exact⟨ha,he,zmn _⟩
def e7{cap x y z bs:Nat}(hx:x<m)(hy:y<m)(hz:z<m)(hm:d.size=m)(hm1:m<=100000)(hk:k<=900)(hB:zpk B w)(hb:B b=some (.cells (uC d++rest).toArray tyU))
  (hr:(xa bs [.int .i64 k] tyI).P B w C) (hC:ZCB C w B):
  RetX zpl 309 [.slice (some ⟨b,0,none⟩) m cap,.int .i64 x,.int .i64 y,.int .i64 z,.pointer (some ⟨bs,0,none⟩)] w B C (xa bs [.int .i64 (median lt d x y z k).2] tyI) (.int .i64 (median lt d x y z k).1):=by
 unfold RetX;refine yr 900 (xa bs [.int .i64 k] tyI) Tryz.func309 Z Tryz.ntmps309 (np Z) hB hr hC ?_;rw[xb];unfold median;dsimp only;obtain⟨r1,hr1⟩:∃ r,r=order2 lt d x y k:=⟨_,rfl⟩
 rw[<-hr1];obtain⟨r2,hr2⟩:∃ r,r=order2 lt d r1.2.1 z r1.2.2:=⟨_,rfl⟩
 rw[<-hr2];obtain⟨r3,hr3⟩:∃ r,r=order2 lt d r1.1 r2.1 r2.2.2:=⟨_,rfl⟩
 rw[<-hr3];obtain⟨a1,a2,a3⟩:=hr1 ▸ Bp d (k:=k) hx hy;obtain⟨b1,b2,b3⟩:=hr2 ▸ Bp d (k:=r1.2.2) a2 hz;refine(Z5∘Zbc) ?_;refine q0 (y6 L 900 (xa bs [.int .i64 r1.2.2] tyI) (.tuple #[.int .i64 r1.1,.int .i64 r1.2.1]) (r:=xa bs [.int .i64 k] tyI) Z Z Z Z Z (fun u H C hH hle hr hC=>by have h:=Fh (rest:=rest) (cap:=cap) hx hy hm hm1 (k:=k) I hH (hle _ _ hb) hr hC;rw[<-hr1] at h;exact h)) ?_;refine(ZaX∘ZM∘Zbc) ?_;refine q0 (y6 L 900 (xa bs [.int .i64 r2.2.2] tyI) (.tuple #[.int .i64 r2.1,.int .i64 r2.2.1]) (r:=xa bs [.int .i64 r1.2.2] tyI) Z Z Z Z Z (fun u H C hH hle hr hC=>by have h:=Fh (rest:=rest) (cap:=cap) a2 hz hm hm1 (k:=r1.2.2) I hH (hle _ _ hb) hr hC;rw[<-hr2] at h;exact h)) ?_;refine(ZaX∘Zcq∘Zb) ?_;refine q0 (y6 L 900 (xa bs [.int .i64 r3.2.2] tyI) (.tuple #[.int .i64 r3.1,.int .i64 r3.2.1]) (r:=xa bs [.int .i64 r2.2.2] tyI) Z Z Z Z Z (fun u H C hH hle hr hC=>by have h:=Fh (rest:=rest) (cap:=cap) a1 b1 hm hm1 (k:=r2.2.2) I hH (hle _ _ hb) hr hC;rw[<-hr3] at h;exact h)) ?_;refine(ZaX∘Z2∘Zd) ?_;exact xq L 900 (r:=xa bs _ tyI) (rs:=[.tmp 10]) Z (fun _ _ h=>h) nq Z Z (fun _=>rfl)
def Uy(d:Array Int){x y z:Nat}(hx:x<m)(hy:y<m)(hz:z<m):(median lt d x y z k).1<m/\(median lt d x y z k).2<=k+3:=by
 unfold median;dsimp only;obtain⟨a1,a2,a3⟩:=Bp d (k:=k) hx hy;obtain⟨b1,b2,b3⟩:=Bp d (k:=(order2 lt d x y k).2.2) a2 hz;obtain⟨c1,c2,c3⟩:=Bp d (k:=(order2 lt d (order2 lt d x y k).2.1 z (order2 lt d x y k).2.2).2.2) a1 b1;exact⟨c2,by omega⟩
def p7{cap x bs:Nat}(h1:1<=x)(hx:x+1<m)(hm:d.size=m)(hm1:m<=100000)(hk:k<=900)(hB:zpk B w)(hb:B b=some (.cells (uC d++rest).toArray tyU))
  (hr:(xa bs [.int .i64 k] tyI).P B w C) (hC:ZCB C w B):
  RetX zpl 308 [.slice (some ⟨b,0,none⟩) m cap,.int .i64 x,.pointer (some ⟨bs,0,none⟩)] w B C (xa bs [.int .i64 (medianAdjacent lt d x k).2] tyI) (.int .i64 (medianAdjacent lt d x k).1):=by
 unfold RetX;refine yr 900 (xa bs [.int .i64 k] tyI) Tryz.func308 Z Tryz.ntmps308 (np Z) hB hr hC ?_;rw[xb];unfold medianAdjacent;have hw1:IntKind.i64.wrap ((x:Int)-1)=((x-1:Nat):Int):=yz I I |>.trans I;have hw2:IntKind.i64.wrap ((x:Int)+1)=((x+1:Nat):Int):=yz I I;refine(Z5∘Zax∘Zb∘Zv∘Za) ?_;refine q0 (y6 L 900 (xa bs [.int .i64 (median lt d (x-1) x (x+1) k).2] tyI) (.int .i64 (median lt d (x-1) x (x+1) k).1) (r:=xa bs [.int .i64 k] tyI) Z Z Z Z Z (fun u H C hH hle hr hC=>e7 (rest:=rest) (cap:=cap) I I I hm hm1 hk hH (hle _ _ hb) hr hC)) (Zd (h:=?_));exact xq L 900 (r:=xa bs _ tyI) (rs:=[.tmp 6]) Z (fun _ _ h=>h) nq Z Z (fun _=>rfl)
def _root_.Zd5(t:Wr Y->A:=by intro h;refine qz (qb L (q:=901) Z Z Z Z) ?_;exact h.1)(h:Y):A:=t ⟨h⟩
def Gf:Hint->Int
 | .unknown=>0
 | .increasing=>1
 | .decreasing=>2
def zd6{cap:Nat}(h12:12<e-a)(he:e<=m)(hm:d.size=m)(hm1:m<=100000)(hB:zpk B w)(hb:B b=some (.cells (uC d++rest).toArray tyU)):
  Ret zpl 272 [.slice (some ⟨b,0,none⟩) m cap,.int .i64 a,.int .i64 e] w B (fun v _=>v=.tuple #[.int .i64 (choosePivot lt d a e).1,.int .i64 (Gf (choosePivot lt d a e).2)]):=by
 obtain⟨Ln,rfl⟩:∃ Ln,e=a+Ln:=⟨e-a,by omega⟩
 rw[zpa] at h12;unfold choosePivot;rw[zpa];dsimp only;obtain⟨q,hq⟩:∃ q,q=Ln/4:=⟨_,rfl⟩
 rw[<-hq,na I];have hw0:IntKind.i64.wrap (((a+Ln:Nat):Int)-(a:Int))=(Ln:Int):=yz I I |>.trans I
 have et:((Ln:Nat):Int).tdiv 4=(q:Int):=by
  rw[zn9 I];omega
 have hq1:IntKind.i64.wrap (((Ln:Nat):Int).tdiv 4)=(q:Int):=by rw[et];exact yz I I
 have m1:IntKind.i64.wrap ((q:Int)*1)=((q*1:Nat):Int):=yz I I |>.trans I;have m2:IntKind.i64.wrap ((q:Int)*2)=((q*2:Nat):Int):=yz I I |>.trans I;have m3:IntKind.i64.wrap ((q:Int)*3)=((q*3:Nat):Int):=yz I I |>.trans I;have p1:IntKind.i64.wrap ((a:Int)+((q*1:Nat):Int))=((a+q*1:Nat):Int):=yz I I |>.trans I;have p2:IntKind.i64.wrap ((a:Int)+((q*2:Nat):Int))=((a+q*2:Nat):Int):=yz I I |>.trans I;have p3:IntKind.i64.wrap ((a:Int)+((q*3:Nat):Int))=((a+q*3:Nat):Int):=yz I I |>.trans I;refine yf Tryz.func272 Z Tryz.ntmps272 (np Z) hB ((ZaL∘Zas∘Zax∘Zc∘ZM∘Z7∘Zf) ?_);refine kq 9 901 rfl fun bs=>?_;by_cases h50:Ln>=50
 ·rw[na h50];obtain⟨r1,hr1⟩:∃ r,r=medianAdjacent lt d (a+q*1) 0:=⟨_,rfl⟩
  rw[<-hr1];obtain⟨r2,hr2⟩:∃ r,r=medianAdjacent lt d (a+q*2) r1.2:=⟨_,rfl⟩
  rw[<-hr2];obtain⟨r3,hr3⟩:∃ r,r=medianAdjacent lt d (a+q*3) r2.2:=⟨_,rfl⟩
  rw[<-hr3];obtain⟨r4,hr4⟩:∃ r,r=median lt d r1.1 r2.1 r3.1 r3.2:=⟨_,rfl⟩
  rw[<-hr4];obtain⟨l1,s1⟩:r1.1<m/\r1.2<=0+3:=hr1 ▸ Uy d I I I;obtain⟨l2,s2⟩:r2.1<m/\r2.2<=r1.2+3:=hr2 ▸ Uy d I I I;obtain⟨l3,s3⟩:r3.1<m/\r3.2<=r2.2+3:=hr3 ▸ Uy d I I I;by_cases z0:r4.2=0
  ·rw[na z0];refine(Zcq∘ZbY∘Zc∘Z9∘Zb∘ZbY∘Zc∘Zb7∘ZbY∘Zi∘ZH∘ZbL∘Zh∘Z3∘Zb8∘Zr∘ZK∘Zb) ?_;refine q0 (y6 L 901 (xa bs [.int .i64 r1.2] tyI) (.int .i64 r1.1) (r:=xa bs [.int .i64 0] tyI) Z Z Z Z Z (fun u H C hH hle hr hC=>by have h:=p7 (rest:=rest) (cap:=cap) (d:=d) (x:=a+q*1) (k:=0) I I hm hm1 I hH (hle _ _ hb) hr hC;rw[<-hr1] at h;exact h)) ?_;refine(Zc∘ZQ∘Zb) ?_;refine q0 (y6 L 901 (xa bs [.int .i64 r2.2] tyI) (.int .i64 r2.1) (r:=xa bs [.int .i64 r1.2] tyI) Z Z Z Z Z (fun u H C hH hle hr hC=>by have h:=p7 (rest:=rest) (cap:=cap) (d:=d) (x:=a+q*2) (k:=r1.2) I I hm hm1 I hH (hle _ _ hb) hr hC;rw[<-hr2] at h;exact h)) ?_;refine(Zd∘ZbO) ?_;refine q0 (y6 L 901 (xa bs [.int .i64 r3.2] tyI) (.int .i64 r3.1) (r:=xa bs [.int .i64 r2.2] tyI) Z Z Z Z Z (fun u H C hH hle hr hC=>by have h:=p7 (rest:=rest) (cap:=cap) (d:=d) (x:=a+q*3) (k:=r2.2) I I hm hm1 I hH (hle _ _ hb) hr hC;rw[<-hr3] at h;exact h)) ?_;refine(Zd∘ZO∘Zbc) ?_;refine q0 (y6 L 901 (xa bs [.int .i64 r4.2] tyI) (.int .i64 r4.1) (r:=xa bs [.int .i64 r3.2] tyI) Z Z Z Z Z (fun u H C hH hle hr hC=>by have h:=e7 (rest:=rest) (cap:=cap) (d:=d) (x:=r1.1) (y:=r2.1) (z:=r3.1) (k:=r3.2) I I I hm hm1 I hH (hle _ _ hb) hr hC;rw[<-hr4] at h;exact h)) ?_;refine(Zc∘ZT∘Zd5∘Z1∘ZF∘ZaV∘ZC∘Zd∘ZbE∘Ze∘Zaw∘Za∘ZB) ?_;exact ye2 L [.tmp 6,.tmp 7]
  ·rw[nc z0];by_cases z12:r4.2=12
   ·rw[na z12];refine(Zcq∘ZbY∘Zc∘Z9∘Zb∘ZbY∘Zc∘Zb7∘ZbY∘Zi∘ZH∘ZbL∘Zh∘Z3∘Zb8∘Zr∘ZK∘Zb) ?_;refine q0 (y6 L 901 (xa bs [.int .i64 r1.2] tyI) (.int .i64 r1.1) (r:=xa bs [.int .i64 0] tyI) Z Z Z Z Z (fun u H C hH hle hr hC=>by have h:=p7 (rest:=rest) (cap:=cap) (d:=d) (x:=a+q*1) (k:=0) I I hm hm1 I hH (hle _ _ hb) hr hC;rw[<-hr1] at h;exact h)) ?_;refine(Zc∘ZQ∘Zb) ?_;refine q0 (y6 L 901 (xa bs [.int .i64 r2.2] tyI) (.int .i64 r2.1) (r:=xa bs [.int .i64 r1.2] tyI) Z Z Z Z Z (fun u H C hH hle hr hC=>by have h:=p7 (rest:=rest) (cap:=cap) (d:=d) (x:=a+q*2) (k:=r1.2) I I hm hm1 I hH (hle _ _ hb) hr hC;rw[<-hr2] at h;exact h)) ?_;refine(Zd∘ZbO) ?_;refine q0 (y6 L 901 (xa bs [.int .i64 r3.2] tyI) (.int .i64 r3.1) (r:=xa bs [.int .i64 r2.2] tyI) Z Z Z Z Z (fun u H C hH hle hr hC=>by have h:=p7 (rest:=rest) (cap:=cap) (d:=d) (x:=a+q*3) (k:=r2.2) I I hm hm1 I hH (hle _ _ hb) hr hC;rw[<-hr3] at h;exact h)) ?_;refine(Zd∘ZO∘Zbc) ?_;refine q0 (y6 L 901 (xa bs [.int .i64 r4.2] tyI) (.int .i64 r4.1) (r:=xa bs [.int .i64 r3.2] tyI) Z Z Z Z Z (fun u H C hH hle hr hC=>by have h:=e7 (rest:=rest) (cap:=cap) (d:=d) (x:=r1.1) (y:=r2.1) (z:=r3.1) (k:=r3.2) I I I hm hm1 I hH (hle _ _ hb) hr hC;rw[<-hr4] at h;exact h)) ?_;refine(Zc∘ZT∘Zd5∘Z1∘ZF∘ZaV∘Zs∘ZaF∘Zad∘ZC∘Zd∘ZbE∘Ze∘Zbn∘Za∘ZB) ?_;exact ye2 L [.tmp 6,.tmp 7]
   ·rw[nc z12];refine(Zcq∘ZbY∘Zc∘Z9∘Zb∘ZbY∘Zc∘Zb7∘ZbY∘Zi∘ZH∘ZbL∘Zh∘Z3∘Zb8∘Zr∘ZK∘Zb) ?_;refine q0 (y6 L 901 (xa bs [.int .i64 r1.2] tyI) (.int .i64 r1.1) (r:=xa bs [.int .i64 0] tyI) Z Z Z Z Z (fun u H C hH hle hr hC=>by have h:=p7 (rest:=rest) (cap:=cap) (d:=d) (x:=a+q*1) (k:=0) I I hm hm1 I hH (hle _ _ hb) hr hC;rw[<-hr1] at h;exact h)) ?_;refine(Zc∘ZQ∘Zb) ?_;refine q0 (y6 L 901 (xa bs [.int .i64 r2.2] tyI) (.int .i64 r2.1) (r:=xa bs [.int .i64 r1.2] tyI) Z Z Z Z Z (fun u H C hH hle hr hC=>by have h:=p7 (rest:=rest) (cap:=cap) (d:=d) (x:=a+q*2) (k:=r1.2) I I hm hm1 I hH (hle _ _ hb) hr hC;rw[<-hr2] at h;exact h)) ?_;refine(Zd∘ZbO) ?_;refine q0 (y6 L 901 (xa bs [.int .i64 r3.2] tyI) (.int .i64 r3.1) (r:=xa bs [.int .i64 r2.2] tyI) Z Z Z Z Z (fun u H C hH hle hr hC=>by have h:=p7 (rest:=rest) (cap:=cap) (d:=d) (x:=a+q*3) (k:=r2.2) I I hm hm1 I hH (hle _ _ hb) hr hC;rw[<-hr3] at h;exact h)) ?_;refine(Zd∘ZO∘Zbc) ?_;refine q0 (y6 L 901 (xa bs [.int .i64 r4.2] tyI) (.int .i64 r4.1) (r:=xa bs [.int .i64 r3.2] tyI) Z Z Z Z Z (fun u H C hH hle hr hC=>by have h:=e7 (rest:=rest) (cap:=cap) (d:=d) (x:=r1.1) (y:=r2.1) (z:=r3.1) (k:=r3.2) I I I hm hm1 I hH (hle _ _ hb) hr hC;rw[<-hr4] at h;exact h)) ?_;refine(Zc∘ZT∘Zd5∘Z1∘ZF∘ZaV∘Zs∘ZaF∘Zad∘Zs∘ZaF∘ZV∘Za∘ZB) ?_;exact ye2 L [.tmp 6,.tmp 7]
 ·rw[nc h50];obtain⟨r4,hr4⟩:∃ r,r=median lt d (a+q*1) (a+q*2) (a+q*3) 0:=⟨_,rfl⟩
  rw[<-hr4];by_cases z0:r4.2=0
  ·rw[na z0];refine(Zcq∘ZbY∘Zc∘Z9∘Zb∘ZbY∘Zc∘Zb7∘ZbY∘Zi∘ZH∘ZbL∘Zh∘Z3∘Za1∘ZZ∘Zbq∘ZO∘Zbc) ?_;refine q0 (y6 L 901 (xa bs [.int .i64 r4.2] tyI) (.int .i64 r4.1) (r:=xa bs [.int .i64 0] tyI) Z Z Z Z Z (fun u H C hH hle hr hC=>by have h:=e7 (rest:=rest) (cap:=cap) (d:=d) (x:=a+q*1) (y:=a+q*2) (z:=a+q*3) (k:=0) I I I hm hm1 I hH (hle _ _ hb) hr hC;rw[<-hr4] at h;exact h)) ?_;refine(Zc∘ZT∘Zd5∘Z1∘ZF∘ZaV∘ZC∘Zd∘ZbE∘Ze∘Zaw∘Za∘ZB) ?_;exact ye2 L [.tmp 6,.tmp 7]
  ·rw[nc z0];by_cases z12:r4.2=12
   ·rw[na z12];refine(Zcq∘ZbY∘Zc∘Z9∘Zb∘ZbY∘Zc∘Zb7∘ZbY∘Zi∘ZH∘ZbL∘Zh∘Z3∘Za1∘ZZ∘Zbq∘ZO∘Zbc) ?_;refine q0 (y6 L 901 (xa bs [.int .i64 r4.2] tyI) (.int .i64 r4.1) (r:=xa bs [.int .i64 0] tyI) Z Z Z Z Z (fun u H C hH hle hr hC=>by have h:=e7 (rest:=rest) (cap:=cap) (d:=d) (x:=a+q*1) (y:=a+q*2) (z:=a+q*3) (k:=0) I I I hm hm1 I hH (hle _ _ hb) hr hC;rw[<-hr4] at h;exact h)) ?_;refine(Zc∘ZT∘Zd5∘Z1∘ZF∘ZaV∘Zs∘ZaF∘Zad∘ZC∘Zd∘ZbE∘Ze∘Zbn∘Za∘ZB) ?_;exact ye2 L [.tmp 6,.tmp 7]
   ·rw[nc z12];refine(Zcq∘ZbY∘Zc∘Z9∘Zb∘ZbY∘Zc∘Zb7∘ZbY∘Zi∘ZH∘ZbL∘Zh∘Z3∘Za1∘ZZ∘Zbq∘ZO∘Zbc) ?_;refine q0 (y6 L 901 (xa bs [.int .i64 r4.2] tyI) (.int .i64 r4.1) (r:=xa bs [.int .i64 0] tyI) Z Z Z Z Z (fun u H C hH hle hr hC=>by have h:=e7 (rest:=rest) (cap:=cap) (d:=d) (x:=a+q*1) (y:=a+q*2) (z:=a+q*3) (k:=0) I I I hm hm1 I hH (hle _ _ hb) hr hC;rw[<-hr4] at h;exact h)) ?_;refine(Zc∘ZT∘Zd5∘Z1∘ZF∘ZaV∘Zs∘ZaF∘Zad∘Zs∘ZaF∘ZV∘Za∘ZB) ?_;exact ye2 L [.tmp 6,.tmp 7]
def _root_.Zdr(t:Wr Y->A:=by intro h;refine qh (id:=17) [(200080,[900]),(200084,[900])] x8 T ?_;exact h.1)(h:Y):A:=t ⟨h⟩
def _root_.Zdl(t:Wr Y->A:=by intro h;refine zi (id:=23) ?_;exact h.1)(h:Y):A:=t ⟨h⟩
def Vo{h:Hint}:Gf h=2↔h=.decreasing:=by cases h<;>simp [Gf]
def zey:∀ v H u C,(xk b cs ty).P v H u C->joinH H u C b=some (.cells cs.toArray ty):=fun _ _ _ _ ⟨hb,hC⟩=>(c9 ((hC b).2 rfl)).trans hb
def zec:∀ (N:Nat) {d:Array Int} {rest:List Value} {b m cap a e lim:Nat} (_:e-a<N) (_:a<=e) (_:e<=m) (_:d.size=m) (_:m<=100000) (_:lim<=1000) (_:Below lt a e d) {w:World} {B:Heap} {C:Nat->Prop} (_:zpk B w)
  (_:(xa b (uC d++rest) tyU).P B w C) (_:ZCB C w B),
  kr zpl 223 [.slice (some ⟨b,0,none⟩) m cap,.int .i64 a,.int .i64 e,.int .i64 lim] w B C (xa b (uC (pdq lt d a e lim true true)++rest) tyU):=by
 intro N
 induction N with
 | zero=>intro d rest b m cap a e lim h;omega
 | succ N ih=>
 intro d rest b m cap a e lim hN hab he hm hm1 hlim hBel w B C hB hr hC;unfold kr;refine yr 900 (xa b (uC d++rest) tyU) Tryz.func223 Z Tryz.ntmps223 (np Z) hB hr hC ?_;rw[xb];obtain⟨X,hX⟩:∃ X,X=pdq lt d a e lim true true:=⟨_,rfl⟩
 rw[<-hX];refine(Z5∘Zbt) ?_
 refine xo (fun s:((Nat×Nat)×Nat)×((Bool×Bool)×Array Int)=>[(0,.is (.slice (some ⟨b,0,none⟩) m cap)),(1,.is (.int .i64 s.1.1.1)),(2,.is (.int .i64 s.1.1.2)),(3,.is (.int .i64 s.1.2)),(8,.is (.bool s.2.1.1)),(9,.is (.bool s.2.1.2)),(900,.own (xk b (uC s.2.2++rest) tyU))])
  (fun s=>s.1.1.1<=s.1.1.2/\s.1.1.2<=m/\s.1.1.2-s.1.1.1<=e-a/\s.1.2<=1000/\s.2.2.size=m/\Below lt s.1.1.1 s.1.1.2 s.2.2/\pdq lt s.2.2 s.1.1.1 s.1.1.2 s.1.2 s.2.1.1 s.2.1.2=X) (fun s=>s.1.1.2-s.1.1.1) (((a,e),lim),((true,true),d)) ⟨hab,he,ns _,hlim,hm,hBel,hX.symm⟩ ⟨rfl,rfl,rfl,rfl,rfl,rfl,rfl,nm⟩ ?_
 rintro⟨⟨⟨x,y⟩,l⟩,⟨⟨wb,wp⟩,D⟩⟩ ⟨hxy,hy,hL,hl,hD,hBl,hP⟩;dsimp only at hxy hy hL hl hD hBl hP |-;clear hX hBel hm;have hw0:IntKind.i64.wrap ((y:Int)-(x:Int))=((y-x:Nat):Int):=yz I I |>.trans I;by_cases h12:y-x<=12
 ·rw[pdq_small h12] at hP;rw[<-hP];refine(ZF∘ZM∘Zax∘Zi∘Zu∘Zcv∘Zr∘Z9∘Zz) ?_;refine q0 (yq L 900 (xa b (uC (insertionSort lt D x y)++rest) tyU) (r:=xa b (uC D++rest) tyU) Z Z Z Z Z (fun u H C hH _ hr hC=>ins_ret hxy I hD hm1 hH hr hC)) (Z1 (h:=?_));exact jf L 900 (r:=xa b _ tyU) Z (fun _ _ h=>h) nq Z Z
 ·by_cases hl0:l=0
  ·rw[pdq_heap h12 hl0] at hP;rw[<-hP];refine(ZF∘ZM∘Zax∘Zi∘Zu∘Zcp∘Z6∘Zar∘ZC∘Zr∘ZP∘Zz) ?_;refine q0 (yq L 900 (xa b (uC (heapSort lt D x y)++rest) tyU) (r:=xa b (uC D++rest) tyU) Z Z Z Z Z (fun u H C hH _ hr hC=>za5 I I hD hm1 hH hr hC)) (Z1 (h:=?_));exact jf L 900 (r:=xa b _ tyU) Z (fun _ _ h=>h) nq Z Z
  ·obtain⟨s1,B1,hc1,s2,B2,hpv,s3,B3⟩:=rd_facts (lt:=lt) (limit:=l) (wb:=wb) (wp:=wp) swo_ltInt partialInsertionSort_holds reverseRange_holds (show x<y by omega) (show y<=D.size by omega) hBl;have hlle:(rd lt D x y l wb wp).lim<=1000:=zld rd_lim_le hl;have hdone:=fun h=>pdq_done (lt:=lt) (d:=D) (wb:=wb) (wp:=wp) h12 hl0 h;have heq:=fun h1 h2 h3=>pdq_eq (lt:=lt) (d:=D) (wb:=wb) (wp:=wp) h12 hl0 h1 h2 h3;have hleft:=fun h1 h2 h3 h4=>pdq_left (lt:=lt) (d:=D) (wb:=wb) (wp:=wp) h12 hl0 h1 h2 h3 h4;have hright:=fun h1 h2 h3 h4=>pdq_right (lt:=lt) (d:=D) (wb:=wb) (wp:=wp) h12 hl0 h1 h2 h3 h4;have hrt:wb=true->(rd lt D x y l wb wp).d1=D/\(rd lt D x y l wb wp).lim=l:=fun e=>by subst e;exact rd_true
   have hrf:wb=false->(rd lt D x y l wb wp).d1=breakPatterns D x y/\(rd lt D x y l wb wp).lim=l-1:=fun e=>by subst e;exact rd_false
   have hrc:=rd_c (lt:=lt) (d:=D) (a:=x) (b:=y) (limit:=l) (wb:=wb) (wp:=wp);have hde:=fun h=>rd_dec (lt:=lt) (d:=D) (a:=x) (b:=y) (limit:=l) (wb:=wb) (wp:=wp) h;have hno:=fun h=>rd_not (lt:=lt) (d:=D) (a:=x) (b:=y) (limit:=l) (wb:=wb) (wp:=wp) h;have hpy:=fun h=>rd_pi_yes (lt:=lt) (d:=D) (a:=x) (b:=y) (limit:=l) (wb:=wb) (wp:=wp) h;have hpn:=fun h=>rd_pi_no (lt:=lt) (d:=D) (a:=x) (b:=y) (limit:=l) (wb:=wb) (wp:=wp) h;rw[hP] at hdone heq hleft hright;generalize (rd lt D x y l wb wp)=R at *;refine(ZF∘ZM∘Zax∘Zi∘Zu∘Zcp∘Z6∘Zar∘Zs∘Z6) ?_;refine ii (fun _:Unit=>[(0,.is (.slice (some ⟨b,0,none⟩) m cap)),(1,.is (.int .i64 x)),(2,.is (.int .i64 y)),(3,.is (.int .i64 R.lim)),(8,.is (.bool wb)),(9,.is (.bool wp)),(10,.is (.int .i64 (y-x:Nat))),(900,.own (xk b (uC R.d1++rest) tyU))]) (fun _=>True) (fun _=>[]) ?rest1 ?first1
   case first1=>
    cases wb with
    | true=>
     obtain⟨e1,e2⟩:=hrt rfl;rw[e1,e2];refine(Z3∘Zt∘ZZ) ?_;exact jz () nq trivial Z ⟨Z,Z,Z,Z,Z,Z,Z,Z,nm⟩
    | false=>
     obtain⟨e1,e2⟩:=hrf rfl;have hw1:IntKind.i64.wrap ((l:Int)-1)=((l-1:Nat):Int):=yz I I |>.trans I;rw[e1,e2];refine(Z3∘Zt∘Zr∘ZK∘Zz) ?_;refine q0 (yq L 900 (xa b (uC (breakPatterns D x y)++rest) tyU) (r:=xa b (uC D++rest) tyU) Z Z Z Z Z (fun u H C hH _ hr hC=>zfs I I hD hm1 hH hr hC)) ((Z1∘Zat∘Za6∘ZaU) ?_);exact jz () nq trivial Z ⟨Z,Z,Z,Z,Z,Z,Z,Z,nm⟩
   intro _ _;refine(Ze∘Zah∘Zz) ?_;refine qz (xz L 900 (Φ:=fun H=>H b=some (.cells (uC R.d1++rest).toArray tyU)) (c:=.tuple #[.int .i64 R.c.1,.int .i64 (Gf R.c.2)]) Z Z (zo Z) Z Z Z Z Z zey (fun u H hH hle h1=>by rw[hrc];exact zd6 I hy I hm1 hH h1)) ?_;refine(Zy∘Zbk) ?_;refine ii (fun _:Unit=>[(0,.is (.slice (some ⟨b,0,none⟩) m cap)),(1,.is (.int .i64 x)),(2,.is (.int .i64 y)),(3,.is (.int .i64 R.lim)),(8,.is (.bool wb)),(9,.is (.bool wp)),(10,.is (.int .i64 (y-x:Nat))),(11,.is (.int .i64 R.pivot)),(12,.is (.int .i64 (Gf R.hint))),(900,.own (xk b (uC R.d2++rest) tyU))]) (fun _=>True) (fun _=>[]) ?rest2 ?first2
   case first2=>
    by_cases hdec:R.c.2=.decreasing
    ·obtain⟨e1,e2,e3⟩:=hde hdec;have hz:Gf R.c.2=2:=by rw[hdec];rfl
     rw[e1,e2,e3];have w1:IntKind.i64.wrap ((y:Int)-1)=((y-1:Nat):Int):=yz I I |>.trans I;have w2:IntKind.i64.wrap ((R.c.1:Int)-(x:Int))=((R.c.1-x:Nat):Int):=yz I I |>.trans I;have w3:IntKind.i64.wrap (((y-1:Nat):Int)-((R.c.1-x:Nat):Int))=((y-1-(R.c.1-x):Nat):Int):=yz I I |>.trans I;refine(ZO∘Za∘ZC∘Zr∘ZT∘Zz) ?_;refine q0 (yq L 900 (xa b (uC (reverseRange R.d1 x y)++rest) tyU) (r:=xa b (uC R.d1++rest) tyU) Z Z Z Z Z (fun u H C hH _ hr hC=>rev_ret I I I hm1 hH hr hC)) ((Zf∘ZV∘Za∘Za6∘Zax∘Za6∘Zd∘ZaV∘ZaU) ?_);exact jz () nq trivial Z ⟨Z,Z,Z,Z,Z,Z,Z,Z,Z,Z,nm⟩
    ·obtain⟨e1,e2,e3⟩:=hno hdec;have hz:Gf R.c.2≠2:=fun h=>hdec (Vo.1 h);rw[e1,e2,e3];refine(ZO∘Za∘Zs∘ZZ) ?_;exact jz () nq trivial Z ⟨Z,Z,Z,Z,Z,Z,Z,Z,Z,Z,nm⟩
   intro _ _;refine zk (zk (ii (fun _:Unit=>[(0,.is (.slice (some ⟨b,0,none⟩) m cap)),(1,.is (.int .i64 x)),(2,.is (.int .i64 y)),(3,.is (.int .i64 R.lim)),(8,.is (.bool wb)),(9,.is (.bool wp)),(10,.is (.int .i64 (y-x:Nat))),(11,.is (.int .i64 R.pivot)),(900,.own (xk b (uC R.pi.1++rest) tyU))]) (fun _=>R.pi.2=false) (fun _=>[]) ?rest3 ?first3))
   case first3=>
    cases wb with
    | false=>
     have hpi:=hpn rfl;rw[hpi];refine(Zaw∘Zb∘Zc5∘Zc2∘Zg∘ZZ) ?_;exact jz () nq Z Z ⟨Z,Z,Z,Z,Z,Z,Z,Z,Z,nm⟩
    | true=>
     cases wp with
     | false=>
      have hpi:=hpn rfl;rw[hpi];refine(Zaw∘Zz∘Zg∘Zc2∘Zg∘ZZ) ?_;exact jz () nq Z Z ⟨Z,Z,Z,Z,Z,Z,Z,Z,Z,nm⟩
     | true=>
      by_cases hi:R.hint=.increasing
      ·have hz:Gf R.hint=1:=by rw[hi];rfl
       have hpi:=hpy (by rw[hi];rfl)
       cases hb:(partialInsertionSort lt R.d2 x y).2 with
       | true=>
        rw[hdone (by rw[hpi];exact hb)];refine(Zaw∘Zz∘ZbQ∘ZC∘Zg∘Zr∘Zad∘Zz) ?_;refine q0 (y6 L 900 (xa b (uC R.pi.1++rest) tyU) (.bool true) (r:=xa b (uC R.d2++rest) tyU) Z Z Z Z Z (fun u H C hH hle hr hC=>by have h:=pins_ret (rest:=rest) (cap:=cap) (d:=R.d2) (a:=x) (e:=y) (m:=m) I I I hm1 hH hr hC;rw[hb,<-hpi] at h;exact h)) ?_;refine ZE (h:=?_);exact jf L 900 (r:=xa b _ tyU) Z (fun _ _ h=>h) nq Z Z
       | false=>
        refine(Zaw∘Zz∘ZbQ∘ZC∘Zg∘Zr∘Zad∘Zz) ?_;refine q0 (y6 L 900 (xa b (uC R.pi.1++rest) tyU) (.bool false) (r:=xa b (uC R.d2++rest) tyU) Z Z Z Z Z (fun u H C hH hle hr hC=>by have h:=pins_ret (rest:=rest) (cap:=cap) (d:=R.d2) (a:=x) (e:=y) (m:=m) I I I hm1 hH hr hC;rw[hb,<-hpi] at h;exact h)) ?_;refine ZZ (h:=?_);exact jz () nq (by rw[hpi];exact hb) Z ⟨Z,Z,Z,Z,Z,Z,Z,Z,Z,nm⟩
      ·have hz:Gf R.hint≠1:=fun h=>by
        cases hh:R.hint with
        | unknown=>rw[hh] at h;cases h
        | increasing=>exact hi hh
        | decreasing=>rw[hh] at h;cases h
       have hpi:=hpn (by simp [hi]);rw[hpi];refine(Zaw∘Zz∘ZbQ∘Zs∘Zg∘ZZ) ?_;exact jz () nq Z Z ⟨Z,Z,Z,Z,Z,Z,Z,Z,Z,nm⟩
   intro _ h2;obtain⟨_,q2⟩:=ux (rest:=rest) (show R.pivot<R.pi.1.size by omega) (0+(R.pivot)*1) rfl;by_cases hx0:0<x
   ·obtain⟨_,q1⟩:=ux (rest:=rest) (show x-1<R.pi.1.size by omega) (0+(x-1)*1) rfl;have hw3:IntKind.i64.wrap ((x:Int)-1)=((x-1:Nat):Int):=yz I I |>.trans I
    cases hc:lt R.pi.1[x-1]! R.pi.1[R.pivot]! with
    | false=>
     obtain⟨mid,d4,hx⟩:∃ mid d4,partitionEqual lt R.pi.1 x y R.pivot=(mid,d4):=⟨_,_,rfl⟩
     obtain⟨g1,g2,g3,g4,_⟩:=round_eq swo_ltInt (partitionEqual_holds lt) hx0 hpv.1 hpv.2 I B3 hc hx;have hn:=heq h2 (by simp [hx0,hc]) (by rw[hx];exact⟨g1,g2⟩);rw[hx] at hn;refine(Zh∘Zdr∘Zj∘ZcV∘Zbo∘Zdd∘Zm) ?_;refine qq (qb L (q:=900) Z Z Z q1) Z Z (ZJ (h:=?_));refine qq (qb L (q:=900) Z Z Z q2) Z Z (zh1 L Z (fun u H hH _=>jr hc hH) ?_);refine(ZaA∘Zci∘Ze∘Zbg∘Zbc) ?_;refine q0 (y6 L 900 (xa b (uC d4++rest) tyU) (.int .i64 mid) (r:=xa b (uC R.pi.1++rest) tyU) Z Z Z Z Z (fun u H C hH hle hr hC=>by have h:=zeb (rest:=rest) (cap:=cap) (d:=R.pi.1) hpv.1 hpv.2 I (m:=m) I hm1 hH hr hC;rw[hx] at h;exact h)) ?_;refine(Zc∘Zcj∘Za∘Zd∘Zea∘ZcZ) ?_;exact ym (x:=(((x,y),l),((wb,wp),D))) (((mid,y),R.lim),((wb,wp),d4)) ⟨by dsimp only;omega,hy,by dsimp only;omega,hlle,by dsimp only;omega,g4,hn.symm⟩ M ⟨Z,Z,Z,Z,Z,Z,Z,trivial⟩
    | true=>
     have h2b:(decide (x>0) && !lt R.pi.1[x-1]! R.pi.1[R.pivot]!)=false:=by simp [hc]
     obtain⟨mid,ap,d4,hx⟩:∃ mid ap d4,Go.Sort.partition lt R.pi.1 x y R.pivot=(mid,ap,d4):=⟨_,_,_,rfl⟩
     obtain⟨g1,g2,g3,g4,g5,gL,gR⟩:=round_part swo_ltInt (partition_holds lt) hpv.1 hpv.2 I B3 hx;have w1:IntKind.i64.wrap ((mid:Int)-(x:Int))=((mid-x:Nat):Int):=yz I I |>.trans I;have w2:IntKind.i64.wrap ((y:Int)-(mid:Int))=((y-mid:Nat):Int):=yz I I |>.trans I;have w4:IntKind.i64.wrap ((mid:Int)+1)=((mid+1:Nat):Int):=yz I I
     have et:((y-x:Nat):Int).tdiv 8=(((y-x)/8:Nat):Int):=by
      rw[zn9 I];omega
     have w3:IntKind.i64.wrap (((y-x:Nat):Int).tdiv 8)=(((y-x)/8:Nat):Int):=by rw[et];exact yz I I
     by_cases hlr:mid-x<y-mid
     ·have hn:=hleft h2 h2b (by rw[hx];exact⟨g1,g2⟩) (by rw[hx];exact hlr);rw[hx] at hn;dsimp only at hn;obtain⟨pL,sL⟩:=pdq_sorts lt swo_ltInt d4 x mid R.lim true true g1 I g4;obtain⟨LL,hLL⟩:∃ LL,LL=pdq lt d4 x mid R.lim true true:=⟨_,rfl⟩
      rw[<-hLL] at hn pL sL;obtain⟨gB,_⟩:=gL LL pL sL;have hLs:LL.size=d4.size:=pL.1;by_cases h8:mid-x>=(y-x)/8
      ·rw[nf h8] at hn;refine(Zh∘Zdr∘Zj∘ZcV∘Zbo∘Zdd∘Zm) ?_;refine qq (qb L (q:=900) Z Z Z q1) Z Z (ZJ (h:=?_));refine qq (qb L (q:=900) Z Z Z q2) Z Z (zh1 L Z (fun u H hH _=>jr hc hH) ?_);refine(ZaA∘Za5∘Zae∘ZaP∘Zbc) ?_;refine q0 (y6 L 900 (xa b (uC d4++rest) tyU) (.tuple #[.int .i64 mid,.bool ap]) (r:=xa b (uC R.pi.1++rest) tyU) Z Z Z Z Z (fun u H C hH hle hr hC=>by have h:=dc (rest:=rest) (cap:=cap) (d:=R.pi.1) hpv.1 hpv.2 I (m:=m) I hm1 hH hr hC;rw[hx] at h;exact h)) ?_;refine(ZaX∘ZbD∘Za∘Zc∘Zc0∘Zax∘Zax∘Za7∘Zdl∘Za∘Zdk∘Zc∘ZcC∘Zb∘Zai∘Zr) ?_;refine zi (id:=25) ((Zb∘Zb8∘Zc) ?_);refine zi (id:=26) (Zbc (h:=?_));refine q0 (yq L 900 (xa b (uC LL++rest) tyU) (r:=xa b (uC d4++rest) tyU) Z Z Z Z Z (fun u H C hH _ hr hC=>by rw[hLL];exact ih I g1 I I hm1 hlle g4 hH hr hC)) ?_;refine Z1 (h:=?_);refine zi (id:=27) ((Za∘Zv∘Zal) ?_);exact ym (x:=(((x,y),l),((wb,wp),D))) (((mid+1,y),R.lim),((true,ap),LL)) ⟨by dsimp only;omega,hy,by dsimp only;omega,hlle,by dsimp only;omega,gB,hn.symm⟩ M ⟨Z,Z,Z,Z,Z,Z,Z,trivial⟩
      ·rw[ng h8] at hn;refine(Zh∘Zdr∘Zj∘ZcV∘Zbo∘Zdd∘Zm) ?_;refine qq (qb L (q:=900) Z Z Z q1) Z Z (ZJ (h:=?_));refine qq (qb L (q:=900) Z Z Z q2) Z Z (zh1 L Z (fun u H hH _=>jr hc hH) ?_);refine(ZaA∘Za5∘Zae∘ZaP∘Zbc) ?_;refine q0 (y6 L 900 (xa b (uC d4++rest) tyU) (.tuple #[.int .i64 mid,.bool ap]) (r:=xa b (uC R.pi.1++rest) tyU) Z Z Z Z Z (fun u H C hH hle hr hC=>by have h:=dc (rest:=rest) (cap:=cap) (d:=R.pi.1) hpv.1 hpv.2 I (m:=m) I hm1 hH hr hC;rw[hx] at h;exact h)) ?_;refine(ZaX∘ZbD∘Za∘Zc∘Zc0∘Zax∘Zax∘Za7∘Zdl∘Za∘Zdk∘Zc∘ZcC∘Zb∘Zai∘Zr) ?_;refine zi (id:=25) ((Zb∘Za1∘Zc) ?_);refine zi (id:=26) (Zbc (h:=?_));refine q0 (yq L 900 (xa b (uC LL++rest) tyU) (r:=xa b (uC d4++rest) tyU) Z Z Z Z Z (fun u H C hH _ hr hC=>by rw[hLL];exact ih I g1 I I hm1 hlle g4 hH hr hC)) ?_;refine Z1 (h:=?_);refine zi (id:=27) ((Za∘Zv∘Zal) ?_);exact ym (x:=(((x,y),l),((wb,wp),D))) (((mid+1,y),R.lim),((false,ap),LL)) ⟨by dsimp only;omega,hy,by dsimp only;omega,hlle,by dsimp only;omega,gB,hn.symm⟩ M ⟨Z,Z,Z,Z,Z,Z,Z,trivial⟩
     ·have hn:=hright h2 h2b (by rw[hx];exact⟨g1,g2⟩) (by rw[hx];exact hlr);rw[hx] at hn;dsimp only at hn;obtain⟨pL,sL⟩:=pdq_sorts lt swo_ltInt d4 (mid+1) y R.lim true true I I g5;obtain⟨LL,hLL⟩:∃ LL,LL=pdq lt d4 (mid+1) y R.lim true true:=⟨_,rfl⟩
      rw[<-hLL] at hn pL sL;obtain⟨gB,_⟩:=gR LL pL sL;have hLs:LL.size=d4.size:=pL.1;by_cases h8:y-mid>=(y-x)/8
      ·rw[nf h8] at hn;refine(Zh∘Zdr∘Zj∘ZcV∘Zbo∘Zdd∘Zm) ?_;refine qq (qb L (q:=900) Z Z Z q1) Z Z (ZJ (h:=?_));refine qq (qb L (q:=900) Z Z Z q2) Z Z (zh1 L Z (fun u H hH _=>jr hc hH) ?_);refine(ZaA∘Za5∘Zae∘ZaP∘Zbc) ?_;refine q0 (y6 L 900 (xa b (uC d4++rest) tyU) (.tuple #[.int .i64 mid,.bool ap]) (r:=xa b (uC R.pi.1++rest) tyU) Z Z Z Z Z (fun u H C hH hle hr hC=>by have h:=dc (rest:=rest) (cap:=cap) (d:=R.pi.1) hpv.1 hpv.2 I (m:=m) I hm1 hH hr hC;rw[hx] at h;exact h)) ?_;refine(ZaX∘ZbD∘Za∘Zc∘Zc0∘Zax∘Zax∘Za7∘Zdl∘Za∘Zdk∘Zc∘ZcC∘Zb∘Z0∘Zc7) ?_;refine zi (id:=28) ((Zb∘Zb8∘Zc) ?_);refine zi (id:=29) ((Zb∘Zv∘Zb) ?_);refine q0 (yq L 900 (xa b (uC LL++rest) tyU) (r:=xa b (uC d4++rest) tyU) Z Z Z Z Z (fun u H C hH _ hr hC=>by rw[hLL];exact ih I I hy I hm1 hlle g5 hH hr hC)) ?_;refine(Z1∘ZdU∘Zal) ?_;exact ym (x:=(((x,y),l),((wb,wp),D))) (((x,mid),R.lim),((true,ap),LL)) ⟨by dsimp only;omega,by dsimp only;omega,by dsimp only;omega,hlle,by dsimp only;omega,gB,hn.symm⟩ M ⟨Z,Z,Z,Z,Z,Z,Z,trivial⟩
      ·rw[ng h8] at hn;refine(Zh∘Zdr∘Zj∘ZcV∘Zbo∘Zdd∘Zm) ?_;refine qq (qb L (q:=900) Z Z Z q1) Z Z (ZJ (h:=?_));refine qq (qb L (q:=900) Z Z Z q2) Z Z (zh1 L Z (fun u H hH _=>jr hc hH) ?_);refine(ZaA∘Za5∘Zae∘ZaP∘Zbc) ?_;refine q0 (y6 L 900 (xa b (uC d4++rest) tyU) (.tuple #[.int .i64 mid,.bool ap]) (r:=xa b (uC R.pi.1++rest) tyU) Z Z Z Z Z (fun u H C hH hle hr hC=>by have h:=dc (rest:=rest) (cap:=cap) (d:=R.pi.1) hpv.1 hpv.2 I (m:=m) I hm1 hH hr hC;rw[hx] at h;exact h)) ?_;refine(ZaX∘ZbD∘Za∘Zc∘Zc0∘Zax∘Zax∘Za7∘Zdl∘Za∘Zdk∘Zc∘ZcC∘Zb∘Z0∘Zc7) ?_;refine zi (id:=28) ((Zb∘Za1∘Zc) ?_);refine zi (id:=29) ((Zb∘Zv∘Zb) ?_);refine q0 (yq L 900 (xa b (uC LL++rest) tyU) (r:=xa b (uC d4++rest) tyU) Z Z Z Z Z (fun u H C hH _ hr hC=>by rw[hLL];exact ih I I hy I hm1 hlle g5 hH hr hC)) ?_;refine(Z1∘ZdU∘Zal) ?_;exact ym (x:=(((x,y),l),((wb,wp),D))) (((x,mid),R.lim),((false,ap),LL)) ⟨by dsimp only;omega,by dsimp only;omega,by dsimp only;omega,hlle,by dsimp only;omega,gB,hn.symm⟩ M ⟨Z,Z,Z,Z,Z,Z,Z,trivial⟩
   ·have h2b:(decide (x>0) && !lt R.pi.1[x-1]! R.pi.1[R.pivot]!)=false:=by simp [hx0]
    obtain⟨mid,ap,d4,hx⟩:∃ mid ap d4,Go.Sort.partition lt R.pi.1 x y R.pivot=(mid,ap,d4):=⟨_,_,_,rfl⟩
    obtain⟨g1,g2,g3,g4,g5,gL,gR⟩:=round_part swo_ltInt (partition_holds lt) hpv.1 hpv.2 I B3 hx;have w1:IntKind.i64.wrap ((mid:Int)-(x:Int))=((mid-x:Nat):Int):=yz I I |>.trans I;have w2:IntKind.i64.wrap ((y:Int)-(mid:Int))=((y-mid:Nat):Int):=yz I I |>.trans I;have w4:IntKind.i64.wrap ((mid:Int)+1)=((mid+1:Nat):Int):=yz I I
    have et:((y-x:Nat):Int).tdiv 8=(((y-x)/8:Nat):Int):=by
     rw[zn9 I];omega
    have w3:IntKind.i64.wrap (((y-x:Nat):Int).tdiv 8)=(((y-x)/8:Nat):Int):=by rw[et];exact yz I I
    by_cases hlr:mid-x<y-mid
    ·have hn:=hleft h2 h2b (by rw[hx];exact⟨g1,g2⟩) (by rw[hx];exact hlr);rw[hx] at hn;dsimp only at hn;obtain⟨pL,sL⟩:=pdq_sorts lt swo_ltInt d4 x mid R.lim true true g1 I g4;obtain⟨LL,hLL⟩:∃ LL,LL=pdq lt d4 x mid R.lim true true:=⟨_,rfl⟩
     rw[<-hLL] at hn pL sL;obtain⟨gB,_⟩:=gL LL pL sL;have hLs:LL.size=d4.size:=pL.1;by_cases h8:mid-x>=(y-x)/8
     ·rw[nf h8] at hn;refine(Zh∘Zdr∘Zj∘Zdg∘ZbV∘Zb3∘Zch∘Za5∘Zae∘ZaP∘Zbc) ?_;refine q0 (y6 L 900 (xa b (uC d4++rest) tyU) (.tuple #[.int .i64 mid,.bool ap]) (r:=xa b (uC R.pi.1++rest) tyU) Z Z Z Z Z (fun u H C hH hle hr hC=>by have h:=dc (rest:=rest) (cap:=cap) (d:=R.pi.1) hpv.1 hpv.2 I (m:=m) I hm1 hH hr hC;rw[hx] at h;exact h)) ?_;refine(ZaX∘ZbD∘Za∘Zc∘Zc0∘Zax∘Zax∘Za7∘Zdl∘Za∘Zdk∘Zc∘ZcC∘Zb∘Zai∘Zr) ?_;refine zi (id:=25) ((Zb∘Zb8∘Zc) ?_);refine zi (id:=26) (Zbc (h:=?_));refine q0 (yq L 900 (xa b (uC LL++rest) tyU) (r:=xa b (uC d4++rest) tyU) Z Z Z Z Z (fun u H C hH _ hr hC=>by rw[hLL];exact ih I g1 I I hm1 hlle g4 hH hr hC)) ?_;refine Z1 (h:=?_);refine zi (id:=27) ((Za∘Zv∘Zal) ?_);exact ym (x:=(((x,y),l),((wb,wp),D))) (((mid+1,y),R.lim),((true,ap),LL)) ⟨by dsimp only;omega,hy,by dsimp only;omega,hlle,by dsimp only;omega,gB,hn.symm⟩ M ⟨Z,Z,Z,Z,Z,Z,Z,trivial⟩
     ·rw[ng h8] at hn;refine(Zh∘Zdr∘Zj∘Zdg∘ZbV∘Zb3∘Zch∘Za5∘Zae∘ZaP∘Zbc) ?_;refine q0 (y6 L 900 (xa b (uC d4++rest) tyU) (.tuple #[.int .i64 mid,.bool ap]) (r:=xa b (uC R.pi.1++rest) tyU) Z Z Z Z Z (fun u H C hH hle hr hC=>by have h:=dc (rest:=rest) (cap:=cap) (d:=R.pi.1) hpv.1 hpv.2 I (m:=m) I hm1 hH hr hC;rw[hx] at h;exact h)) ?_;refine(ZaX∘ZbD∘Za∘Zc∘Zc0∘Zax∘Zax∘Za7∘Zdl∘Za∘Zdk∘Zc∘ZcC∘Zb∘Zai∘Zr) ?_;refine zi (id:=25) ((Zb∘Za1∘Zc) ?_);refine zi (id:=26) (Zbc (h:=?_));refine q0 (yq L 900 (xa b (uC LL++rest) tyU) (r:=xa b (uC d4++rest) tyU) Z Z Z Z Z (fun u H C hH _ hr hC=>by rw[hLL];exact ih I g1 I I hm1 hlle g4 hH hr hC)) ?_;refine Z1 (h:=?_);refine zi (id:=27) ((Za∘Zv∘Zal) ?_);exact ym (x:=(((x,y),l),((wb,wp),D))) (((mid+1,y),R.lim),((false,ap),LL)) ⟨by dsimp only;omega,hy,by dsimp only;omega,hlle,by dsimp only;omega,gB,hn.symm⟩ M ⟨Z,Z,Z,Z,Z,Z,Z,trivial⟩
    ·have hn:=hright h2 h2b (by rw[hx];exact⟨g1,g2⟩) (by rw[hx];exact hlr);rw[hx] at hn;dsimp only at hn;obtain⟨pL,sL⟩:=pdq_sorts lt swo_ltInt d4 (mid+1) y R.lim true true I I g5;obtain⟨LL,hLL⟩:∃ LL,LL=pdq lt d4 (mid+1) y R.lim true true:=⟨_,rfl⟩
     rw[<-hLL] at hn pL sL;obtain⟨gB,_⟩:=gR LL pL sL;have hLs:LL.size=d4.size:=pL.1;by_cases h8:y-mid>=(y-x)/8
     ·rw[nf h8] at hn;refine(Zh∘Zdr∘Zj∘Zdg∘ZbV∘Zb3∘Zch∘Za5∘Zae∘ZaP∘Zbc) ?_;refine q0 (y6 L 900 (xa b (uC d4++rest) tyU) (.tuple #[.int .i64 mid,.bool ap]) (r:=xa b (uC R.pi.1++rest) tyU) Z Z Z Z Z (fun u H C hH hle hr hC=>by have h:=dc (rest:=rest) (cap:=cap) (d:=R.pi.1) hpv.1 hpv.2 I (m:=m) I hm1 hH hr hC;rw[hx] at h;exact h)) ?_;refine(ZaX∘ZbD∘Za∘Zc∘Zc0∘Zax∘Zax∘Za7∘Zdl∘Za∘Zdk∘Zc∘ZcC∘Zb∘Z0∘Zc7) ?_;refine zi (id:=28) ((Zb∘Zb8∘Zc) ?_);refine zi (id:=29) ((Zb∘Zv∘Zb) ?_);refine q0 (yq L 900 (xa b (uC LL++rest) tyU) (r:=xa b (uC d4++rest) tyU) Z Z Z Z Z (fun u H C hH _ hr hC=>by rw[hLL];exact ih I I hy I hm1 hlle g5 hH hr hC)) ?_;refine(Z1∘ZdU∘Zal) ?_;exact ym (x:=(((x,y),l),((wb,wp),D))) (((x,mid),R.lim),((true,ap),LL)) ⟨by dsimp only;omega,by dsimp only;omega,by dsimp only;omega,hlle,by dsimp only;omega,gB,hn.symm⟩ M ⟨Z,Z,Z,Z,Z,Z,Z,trivial⟩
     ·rw[ng h8] at hn;refine(Zh∘Zdr∘Zj∘Zdg∘ZbV∘Zb3∘Zch∘Za5∘Zae∘ZaP∘Zbc) ?_;refine q0 (y6 L 900 (xa b (uC d4++rest) tyU) (.tuple #[.int .i64 mid,.bool ap]) (r:=xa b (uC R.pi.1++rest) tyU) Z Z Z Z Z (fun u H C hH hle hr hC=>by have h:=dc (rest:=rest) (cap:=cap) (d:=R.pi.1) hpv.1 hpv.2 I (m:=m) I hm1 hH hr hC;rw[hx] at h;exact h)) ?_;refine(ZaX∘ZbD∘Za∘Zc∘Zc0∘Zax∘Zax∘Za7∘Zdl∘Za∘Zdk∘Zc∘ZcC∘Zb∘Z0∘Zc7) ?_;refine zi (id:=28) ((Zb∘Za1∘Zc) ?_);refine zi (id:=29) ((Zb∘Zv∘Zb) ?_);refine q0 (yq L 900 (xa b (uC LL++rest) tyU) (r:=xa b (uC d4++rest) tyU) Z Z Z Z Z (fun u H C hH _ hr hC=>by rw[hLL];exact ih I I hy I hm1 hlle g5 hH hr hC)) ?_;refine(Z1∘ZdU∘Zal) ?_;exact ym (x:=(((x,y),l),((wb,wp),D))) (((x,mid),R.lim),((false,ap),LL)) ⟨by dsimp only;omega,by dsimp only;omega,by dsimp only;omega,hlle,by dsimp only;omega,gB,hn.symm⟩ M ⟨Z,Z,Z,Z,Z,Z,Z,trivial⟩
def sortU_ret{cap:Nat}(hm:d.size=m)(hm1:m<=100000)(hB:zpk B w)
  (hr:(xa b (uC d++rest) tyU).P B w C) (hC:ZCB C w B):
  kr zpl 154 [.slice (some ⟨b,0,none⟩) m cap] w B C (xa b (uC (Go.Sort.sort lt d)++rest) tyU):=by
 unfold kr;refine yr 900 (xa b (uC d++rest) tyU) Tryz.func154 Z Tryz.ntmps154 (np Z) hB hr hC ?_;rw[xb];have hc:IntKind.u64.wrap (m:Int)=(m:Int):=wrap_u64 I I;have hb17:bitsLen m<=17:=(bitsLen_le_iff m 17).2 I;refine(ZL∘Za∘Zcl∘Zd∘Z4∘Zz) ?_;refine z8 (ku Z Z Z wl.1 wl.2 (wrap_u64 I I)) Z (z81 L Z (fun u H hH _=>Cs I hH) ?_);refine q0 (yq L 900 (xa b (uC (Go.Sort.sort lt d)++rest) tyU) (r:=xa b (uC d++rest) tyU) Z Z Z Z Z (fun u H C hH _ hr hC=>by have h:=zec (rest:=rest) (cap:=cap) (m:=m) (d:=d) (a:=0) (e:=m) (lim:=bitsLen m) (m+1) I I I hm hm1 I (Or.inl Z) hH hr hC;unfold Go.Sort.sort;rw[hm];exact h)) ?_;refine ZS (h:=?_);exact xp L 900 (r:=xa b _ tyU) Z (fun _ _ h=>h) nq Z Z
end Go.V.So
end
namespace Go.V.L10
def _root_.Zds(t:Wr Y->A:=by intro h;refine z8 (yv L (vs:=[_,_]) Z Z Z Z Z ⟨_,rfl⟩) Z ?_;exact h.1)(h:Y):A:=t ⟨h⟩
def _root_.ZdW(t:Wr Y->A:=by intro h;refine z81 L Z (fun u H hH _=>So.isnanU _ hH) ?_;exact h.1)(h:Y):A:=t ⟨h⟩
def _root_.ZeS(t:Wr Y->A:=by intro h;refine z8 (StepOK.seeV (qf L (ya Z) Z Z Z Z) E) Z ?_;exact h.1)(h:Y):A:=t ⟨h⟩
abbrev zb8:TypeId:=264
abbrev Mg:TypeId:=63
def pnc(p:Int×Int):List Value:=[.int .u64 p.1,.int .i64 p.2]
def Tq(p:Int×Int):(pnc p).length=2:=rfl
def Bg(l:List (Int×Int)):(l.flatMap pnc).all v9=true:=by
 rw[zlj];intro v hv;obtain⟨x,_,hx⟩:=znn.1 hv;simp only[pnc,nw,zmw,or_false] at hx;rcases hx with rfl | rfl<;>rfl
abbrev PsV(l:List (Int×Int)):Value->Heap->Prop:=SlV zb8 2 (l.flatMap pnc) l.length false
def Qu(h:l[i]?=some x):((l.flatMap pnc).drop (i*2)).take 2=[.int .u64 x.1,.int .i64 x.2]:=cn Tq l i x h
abbrev RsV(l:List Int)(fu:Bool):Value->Heap->Prop:=SlV Mg 1 (l.map (Value.int .u64)) l.length fu
def Qr{l:List Int}{x:Int}(h:l[i]?=some x):((l.map (Value.int .u64)).drop (i*1)).take 1=[.int .u64 x]:=by
 rw[zmi,List.take_one];simp [List.head?_drop,h]
attribute [local irreducible] V N X VO Par StepOK Has Ret RetL RetO kr RetX Src
def cmpU_ret(a b:Int)(hB:zpk B w):Ret zpl 213 [.int .u64 a,.int .u64 b] w B (fun v _=>v=.int .i64 (cP a b)):=by
 unfold cP;refine yf Tryz.func213 Z Tryz.ntmps213 (np Z) hB ?_;by_cases h:a<b
 ·rw[na h];refine(Z5∘Za∘ZdW∘Zb2∘ZdW∘Zi∘Zu∘Z6∘Z3∘Z6∘ZQ∘Zb∘Zai∘Zr∘Zah∘Zd) ?_;exact ye2 L [.tmp 4]
 ·rw[nc h];by_cases h2:b<a
  ·rw[na h2];refine(Z5∘Za∘ZdW∘Zb2∘ZdW∘Zi∘Zu∘Z6∘Z3∘Z6∘ZQ∘Zb∘Z0∘Z6∘ZO∘Zb∘ZN∘Zr∘ZT∘Zd) ?_;exact ye2 L [.tmp 4]
  ·rw[nc h2];refine(Z5∘Za∘ZdW∘Zb2∘ZdW∘Zi∘Zu∘Z6∘Z3∘Z6∘ZQ∘Zb∘Z0∘Z6∘ZO∘Zb∘ZD∘Zl∘ZV∘Zd) ?_;exact ye2 L [.tmp 4]
def ox(a n b:Int)(hB:zpk B w):Ret zpl 212 [.agg #[.int .u64 a,.int .i64 n],.int .u64 b] w B (fun v _=>v=.int .i64 (cP a b)):=by
 refine yf Tryz.func212 Z Tryz.ntmps212 (np Z) hB ((ZA∘Zas∘Zac∘Za) ?_);refine z81 L Z (fun u H hH _=>cmpU_ret _ _ hH) ?_;refine Zd (h:=?_);exact ye2 L [.tmp 4]
abbrev BSP:Nat:=211
abbrev fvP:Value:=.func (.func 212) #[] #[]
def zfr(hz:(xg L0).length<=100000){v:Value}(hB:zpk B w)(hv:PsV (xg L0) v B):
  Ret zpl BSP [v,.int .u64 r,fvP] w B (fun v _=>v=.tuple #[.int .i64 (tu cP r (kz L0):Nat),.bool (decide (r∈kz L0))]):=by
 have hs:=w9 L0;obtain⟨l,hl⟩:∃ l,l=kz L0:=⟨_,rfl⟩
 obtain⟨ps,hps⟩:∃ ps,ps=xg L0:=⟨_,rfl⟩
 have hat:∀ (i:Nat) (x:Int),l[i]?=some x->ps[i]?=some (x,(L0.count x:Int)):=fun i x h=>by subst hl hps;exact Bj h
 have hlen:ps.length=l.length:=by subst hl hps;exact ws L0
 rw[<-hl] at hs |-;rw[<-hps] at hv hz;clear hl hps;refine yf Tryz.func211 Z Tryz.ntmps211 (np Z) hB (ju 0 (PsV ps) Z ma hv ((ZaL∘Zas∘Zo∘Zb2∘Za7∘Zam) ?_))
 refine xo (fun s:Nat×Nat=>[(0,.sat (PsV ps)),(2,.is fvP),(1,.is (.int .u64 r)),(8,.is (.int .i64 ps.length)),(9,.is (.int .i64 s.1)),(10,.is (.int .i64 s.2))])
  (fun s=>s.1<=s.2/\s.2<=l.length/\(∀ (k:Nat) (x:Int),k<s.1->l[k]?=some x->cP x r<0)/\∀ (k:Nat) (x:Int),s.2<=k->l[k]?=some x->¬ cP x r<0) (fun s=>s.2-s.1) (0,ps.length) ⟨Nat.zero_le _,Nat.le_of_eq hlen,fun k x h=>(by cases h),fun k x h hx=>(by rw[List.getElem?_eq_none (by dsimp only at h;omega)] at hx;cases hx)⟩ ⟨rfl,rfl,rfl,rfl,rfl,rfl,trivial⟩ ?_
 rintro⟨i,j⟩ ⟨hij,hjl,hlo,hhi⟩;dsimp only at hij hjl hlo hhi |-;by_cases hlt:i<j
 ·obtain⟨h,hh⟩:∃ h,h=(i+j)/2:=⟨_,rfl⟩
  have hsh:((i:Int)+(j:Int)).fdiv (2^min (1:Int).toNat IntKind.u64.bits)=(h:Int):=by
   show((i:Int)+(j:Int)).fdiv 2=(h:Int);rw[zop _ J];omega
  obtain⟨y,hy⟩:=xw (show h<l.length by omega);have hc:=Qu (hat h y hy);by_cases hcm:cP y r<0
  ·refine(Zbm∘ZaH∘ZcR∘Z9∘Zb∘ZbZ) ?_;refine z8 (ku Z Z Z wl.1 wl.2 (wrap_u64 I I)) Z (Zde (h:=?_));refine z8 (ku Z Z Z wm.1 wm.2 (yz I I)) Z ((Zby∘Zk∘Za∘Zab∘Zds∘Za) ?_);refine z81 L Z (fun u H hH _=>ox _ _ _ hH) ?_;refine(ZaH∘ZH∘ZbZ∘Zal) ?_;exact ym (x:=(i,j)) (h+1,j) ⟨by dsimp only;omega,hjl,fun k x hk hx=>Dm gt hs hy hx (by dsimp only at hk;omega) hcm,hhi⟩ M ⟨Z,Z,Z,Z,Z,Z,trivial⟩
  ·refine(Zbm∘ZaH∘ZcR∘Z9∘Zb∘ZbZ) ?_;refine z8 (ku Z Z Z wl.1 wl.2 (wrap_u64 I I)) Z (Zde (h:=?_));refine z8 (ku Z Z Z wm.1 wm.2 (yz I I)) Z ((Zby∘Zk∘Za∘Zab∘Zds∘Za) ?_);refine z81 L Z (fun u H hH _=>ox _ _ _ hH) ?_;refine(Z0∘Za9∘Z3∘Zal) ?_;exact ym (x:=(i,j)) (i,h) ⟨by dsimp only;omega,by dsimp only;omega,hlo,fun k x hk hx hcx=>hcm (Dm gt hs hx hy hk hcx)⟩ M ⟨Z,Z,Z,Z,Z,Z,trivial⟩
 ·obtain rfl:i=j:=by omega
  rw[Tp gt hs hlo hhi hjl];by_cases hin:i<l.length
  ·obtain⟨y,hy⟩:=xw hin;have hc:=Qu (hat i y hy);have hm:=zhk gt hs hlo hy hhi;by_cases hcm:cP y r=0
   ·rw[nf (hm.2 hcm)];refine(Zbm∘Z0∘ZaR∘ZK∘Zz∘Zai∘Zb∘Zk∘Za∘Zab∘Zds∘Za) ?_;refine z81 L Z (fun u H hH _=>ox _ _ _ hH) ?_;refine(ZC∘Zg∘ZB) ?_;exact ye2 L [.tmp 6,.tmp 7]
   ·rw[ng fun h=>hcm (hm.1 h)];refine(Zbm∘Z0∘ZaR∘ZK∘Zz∘Zai∘Zb∘Zk∘Za∘Zab∘Zds∘Za) ?_;refine z81 L Z (fun u H hH _=>ox _ _ _ hH) ?_;refine(Zs∘Zg∘ZB) ?_;exact ye2 L [.tmp 6,.tmp 7]
  ·obtain rfl:i=l.length:=by omega
   rw[ng (Nc gt hlo)];refine(Zbm∘Z0∘ZaR∘ZK∘Zz∘Z0∘Zb6∘Zc1∘Zc1∘Zg∘ZB) ?_;exact ye2 L [.tmp 6,.tmp 7]
abbrev pnv(s:Value)(t:Nat):Value:=.agg #[s,.int .i64 t]
def ow(hz2:(xg L0).length<=100000)(hB:zpk B w)(hv:PsV (xg L0) s B):
  Ret zpl 143 [pnv s t,.int .u64 r] w B (fun v _=>v=.tuple #[.int .i64 (tu cP r (kz L0):Nat),.bool (decide (r∈kz L0))]):=by
 obtain⟨p,c,rfl⟩:=jg hv;refine yf Tryz.func143 Z Tryz.ntmps143 (np Z) hB ((ZA∘Zp∘Zas∘Zac∘Za) ?_);refine z81 L Z (fun u H hH hle=>zfr hz2 hH (hv.le hle)) ?_;refine(Zbj∘ZB) ?_;exact ye2 L [.tmp 4,.tmp 5]
def Kd(hz:L0.length<=n):(xg L0).length<=n:=by rw[ws];exact zld (dk _) hz
def Pa(hz:L0.length<=100000)(hB:zpk B w)(hv:PsV (xg L0) s B):
  Ret zpl 143 [pnv s t,.int .u64 r] w B (fun v _=>v=.tuple #[.int .i64 (tu cP r (kz L0):Nat),.bool (decide (r∈kz L0))]):=ow (Kd hz) hB hv
def D8(h:r∈kz L0):(xg L0)[tu cP r (kz L0)]?=some (r,(L0.count r:Int)):=Bj (M2 gt (w9 L0) h)
def si(hz:(xg L0).length<=100000)(hB:zpk B w)(hv:PsV (xg L0) s B):
  Ret zpl 88 [pnv s t,.int .u64 r] w B (fun v _=>v=.int .i64 (L0.count r:Nat)):=by
 obtain⟨p,c,rfl⟩:=jg hv;refine yf Tryz.func88 Z Tryz.ntmps88 (np Z) hB ?_;by_cases h:r∈kz L0
 ·have hf:decide (r∈kz L0)=true:=nf h;have hp:=D8 h;have hlt:=get_lt hp;have hc:=Qu hp;refine(ZA∘Zaa∘ZbJ∘Za) ?_;refine z81 L Z (fun u H hH hle=>hf ▸ ow (t:=t) hz hH (hv.le hle)) ?_;refine(ZaX∘Zq∘Zr∘ZR∘Zav∘ZeS∘Za∘Zab∘Zez∘ZcN∘Zd) ?_;exact ye2 L [.tmp 4]
 ·have hf:decide (r∈kz L0)=false:=ng h;have hc0:L0.count r=0:=zn6.2 fun hm=>h (je.2 hm);rw[hc0];refine(ZA∘Zaa∘ZbJ∘Za) ?_;refine z81 L Z (fun u H hH hle=>hf ▸ ow (t:=t) hz hH (hv.le hle)) ?_;refine(ZaX∘Zq∘Zl∘Z9∘Zd) ?_;exact ye2 L [.tmp 4]
def count_ret(hz:L0.length<=100000)(hB:zpk B w)(hv:PsV (xg L0) s B):
  Ret zpl 88 [pnv s t,.int .u64 r] w B (fun v _=>v=.int .i64 (L0.count r:Nat)):=si (Kd hz) hB hv
def zk6{a b:Int×Int}{f:Bool}(h:decide (a=b)=f):ik [1,1] (pnc a) (pnc b)=some f:=by
 obtain⟨a1,a2⟩:=a;obtain⟨b1,b2⟩:=b;subst h;simp only[pnc,ik,eqC,if_true,Bool.and_true,Prod.mk.injEq];congr 1;rw[Bool.eq_iff_iff];simp
def Hy{a b:Int×Int}{f:Bool}(h:decide (a=b)=f)(hB:zpk B w):Ret zpl 181 [.agg #[.int .u64 a.1,.int .i64 a.2],.agg #[.int .u64 b.1,.int .i64 b.2]] w B (fun v _=>v=.bool f):=by
 have hq:ik [1,1] [.int .u64 a.1,.int .i64 a.2] [.int .u64 b.1,.int .i64 b.2]=some f:=zk6 h;refine yf Tryz.func181 Z Tryz.ntmps181 (np Z) hB ((ZaQ∘Zas∘ZbJ∘ZbJ) ?_);refine z8 (zel Z Z Z Z zjq E Z) Z (Zd (h:=?_));exact ye2 L [.tmp 4]
def zcp{a b:List α}(h:a.length≠b.length):a≠b:=fun e=>h (nh List.length e)
def zib{a b:List α}{x y:α}(hx:a[i]?=some x)(hy:b[i]?=some y)(h:x≠y):a≠b:=fun e=>h (by subst e;rw[hx] at hy;exact Option.some.inj hy)
def zfd{a b:List (Int×Int)}{f:Bool}(hf:decide (a=b)=f)(ha:a.length<=100000)(hb:b.length<=100000){v1:Value}(hB:zpk B w)(h1:PsV a v1 B)(h2:PsV b v2 B):
  Ret zpl 180 [v1,v2,.func (.func 181) #[] #[]] w B (fun v _=>v=.bool f):=by
 subst hf;refine yf Tryz.func180 Z Tryz.ntmps180 (np Z) hB (ju 0 (PsV a) Z ma h1 (ju 1 (PsV b) Z ma h2 ?_));by_cases hl:a.length=b.length
 ·refine(ZL∘Zaa∘Zo∘Zo∘ZG∘Z6∘ZR∘Zcb) ?_;refine xo (fun i:Nat=>[(0,.sat (PsV a)),(15,.sat (PsV a)),(1,.sat (PsV b)),(2,.is (.func (.func 181) #[] #[])),(16,.is (.int .i64 a.length)),(17,.is (.int .i64 i))]) (fun i=>i<=a.length/\a.take i=b.take i) (fun i=>a.length-i) 0 ⟨mf _,rfl⟩ ⟨Z,Z,Z,Z,Z,Z,nm⟩ ?_;rintro i ⟨hi,ht⟩;by_cases hlt:i<a.length
  ·obtain⟨x,hx⟩:=xw hlt;obtain⟨y,hy⟩:=xw (show i<b.length by omega);have hc1:=Qu hx;have hc2:=Qu hy;have hwk:IntKind.i64.wrap ((i:Int)+1)=((i+1:Nat):Int):=yz I I;by_cases hxy:x=y
   ·refine(Zbx∘Zx∘Zar∘Zab∘Zds∘Z7∘Zp∘ZaD∘Zf∘ZP∘Zk∘Za∘Zab∘Zds∘Zbu∘Z3∘Zck∘Zck) ?_;refine z81 L Z (fun u H hH _=>Hy (nf hxy) hH) ?_;refine(Zt∘Zca∘ZQ∘Zv∘Zct) ?_;exact ym (x:=i) (i+1) ⟨hlt,by rw[v8 hx,v8 hy,ht,hxy]⟩ I ⟨Z,Z,Z,Z,Z,Z,nm⟩
   ·rw[ng (zib hx hy hxy)];refine(Zbx∘Zx∘Zar∘Zab∘Zds∘Z7∘Zp∘ZaD∘Zf∘ZP∘Zk∘Za∘Zab∘Zds∘Zbu∘Z3∘Zck∘Zck) ?_;refine z81 L Z (fun u H hH _=>Hy (ng hxy) hH) ?_;refine(Zt∘Zr∘ZK∘Zd) ?_;exact ye2 L [.tmp 6]
  ·obtain rfl:i=a.length:=by omega
   have hab:a=b:=by rw[zlm,hl,zlm] at ht;exact ht
   rw[nf hab];refine(Zbx∘ZaK∘Zah∘Zd) ?_;exact ye2 L [.tmp 6]
 ·rw[ng (zcp hl)];refine(ZL∘Zaa∘Zo∘Zo∘Zao∘ZM∘Zd) ?_;exact ye2 L [.tmp 6]
def Kc{L1 L2:List Int}{t1 t2:Nat}{f:Bool}(hf:decide (xg L1=xg L2)=f)(hz1:L1.length<=100000)(hz2:L2.length<=100000){s1 s2:Value}(hB:zpk B w)(h1:PsV (xg L1) s1 B)(h2:PsV (xg L2) s2 B):
  Ret zpl 115 [pnv s1 t1,pnv s2 t2] w B (fun v _=>v=.bool f):=by
 have q1:(xg L1).length<=100000:=by rw[ws];exact zld (dk _) hz1
 have q2:(xg L2).length<=100000:=by rw[ws];exact zld (dk _) hz2
 obtain⟨p,c,rfl⟩:=jg h1;obtain⟨p',c',rfl⟩:=jg h2;refine yf Tryz.func115 Z Tryz.ntmps115 (np Z) hB ((ZaQ∘Zas∘Zac∘Zac) ?_);refine z81 L Z (fun u H hH hle=>zfd hf q1 q2 hH (h1.le hle) (h2.le hle)) ?_;refine Zd (h:=?_);exact ye2 L [.tmp 4]
end Go.V.L10
namespace Go.V.L10
open Go.V
def _root_.ZeT(t:Wr Y->A:=by intro h;refine z8 (u0 L (kh:=.i64) (ph:=0) _ _ Z Z Z Z Z ⟨rfl,rfl⟩ Z I I) Z ?_;exact h.1)(h:Y):A:=t ⟨h⟩
def _root_.Ze8(t:Wr Y->A:=by intro h;refine Zk (h:=?_);refine z8 (zag L Z Z Z Z) Z ?_;exact h.1)(h:Y):A:=t ⟨h⟩
def lu(l:List (Int×Int)):(l.flatMap pnc).length=l.length*2:=ig Tq l
section
variable {A Bq R X zpd:List Value} 
def zcy(hA:A.length=a)(zpf:List Value):(A++zpf).take a=A/\(A++zpf).drop a=zpf:=by subst hA;simp
def zjk(hA:A.length=a)(hB:Bq.length=b)(_hR:2<=R.length):
  ((A++(Bq++R)).drop a).take b=Bq/\
  ((A++(Bq++R)).take (a+2)++(Bq++(A++(Bq++R)).drop (a+2+b)))=A++((Bq++R).take 2++(Bq++R.drop 2))/\
  ∀ (W:List Value),W.length=2->((A++(W++(Bq++R.drop 2))).take a++(X++(A++(W++(Bq++R.drop 2))).drop (a+2)))=A++(X++(Bq++R.drop 2)):=by
 subst hA hB;refine⟨by simp,?_,fun W hW=>?_⟩
 ·have e1:(A++(Bq++R)).take (A.length+2)=A++(Bq++R).take 2:=by rw[zne,zle I];congr 2;omega
  have e2:(A++(Bq++R)).drop (A.length+2+Bq.length)=R.drop 2:=by
   rw[<-mj,zmh,zlk (by rw[nr];omega),mh];congr 1;rw[nr];omega
  rw[e1,e2,mj]
 ·rw[zne,zle (ns _),zmr,zl2,mo,zmh,zlk I,mh,show A.length+2-A.length=2 by omega,zmh,zlk I,mh,hW,zmr,zl5]
def zhh(hA:A.length=a)(hB:Bq.length=b)(hZ:zpd.length=b+2)(hX:X.length=2):
  ((A++zpd++R).take a++(X++(A++zpd++R).drop (a+2)))=A++(X++(zpd.drop 2++R))/\
  ((A++(X++(zpd.drop 2++R))).take (a+2)++(Bq++(A++(X++(zpd.drop 2++R))).drop (a+2+b)))=A++(X++(Bq++R)):=by
 subst hA hB;refine⟨?_,?_⟩
 ·rw[mj,zne,zle (ns _),zmr,zl2,mo,zmh,zlk I,mh,show A.length+2-A.length=2 by omega,zmh,show 2-zpd.length=0 by omega,zl5]
 ·have e1:(A++(X++(zpd.drop 2++R))).take (A.length+2)=A++X:=by
   rw[<-mj,zne,zle (by rw[nr];omega),nr,show A.length+2-(A.length+X.length)=0 by omega,zl2,mo]
  have e2:(A++(X++(zpd.drop 2++R))).drop (A.length+2+Bq.length)=R:=by
   rw[<-mj,<-mj,zmh,zlk (by rw[nr,nr,zlc];omega),mh,nr,nr,zlc,show A.length+2+Bq.length-(A.length+X.length+(zpd.length-2))=0 by omega,zl5]
  rw[e1,e2,mj]
end
attribute [local irreducible] V N X VO Par StepOK Has Ret RetL RetO RetT kr RetX Src
def Qv(hz:l.length<=100000)(hB:zpk B w)(hv:PsV l v B):
  RetO zpl 144 [v] w B (SlR zb8 2 l.length (l.flatMap pnc)):=by
 have hv0:=hv;have hlen:=lu l;have hpl:=Bg l;obtain⟨p,c,rfl⟩:=jg hv;rcases p with _ | b
 ·obtain⟨h0,rfl⟩:l.length=0/\c=0:=E3 hv;have hn:l=[]:=m6 h0;subst hn;refine vz Tryz.func144 Z Tryz.ntmps144 (np Z) hB (ZbG (h:=?_));refine z8 (v0 Z Z Z Z zhg Z) Z ((ZbH∘Zd) ?_);exact cr 2 zb8 2 rfl (o9 Z (fun _ _ h=>h) nq Z)
 ·refine vz Tryz.func144 Z Tryz.ntmps144 (np Z) hB (ZbG (h:=?_));refine z8 (v0 Z Z Z Z zhg Z) Z (Zl (h:=?_));refine ju 0 (PsV l) Z ma hv0 (ZR (h:=?_));refine z8 (dv L Z Z Z Z Z) Z (Zk (h:=?_));refine q0 (ub L Z Z Z (zbu Z) Z Ld E E I I) (q0 (yw (.inr Z) Z) (Z1 (h:=?_)));rw[zlf,mh];exact o9 Z (fun _ _ h=>h) nq Z
def K9(l:List (Int×Int))(i:Nat)(x:Int×Int):List (Int×Int):=l.take i++x::l.drop i
def ic(hi:i<=l.length):(K9 l i x).length=l.length+1:=by
 unfold K9;rw[List.length_append,List.length_cons,List.length_take,List.length_drop];omega
def D7:(K9 l i x).flatMap pnc=(l.take i).flatMap pnc++([.int .u64 x.1,.int .i64 x.2]++(l.drop i).flatMap pnc):=by
 unfold K9;rw[List.flatMap_append,List.flatMap_cons];rfl
def zed(args:Array Value)(u:World):(callFunc 214 args).run zpl u=((Extern.SlicesOverlaps.overlaps #[110,110] #[4] args).run zpl u).andThen fun v w'=>.ok (.value v) w':=
 run_callFunc_extern Tryz.func214 T T T T args u
abbrev zPn:Value:=.agg #[.int .u64 0,.int .i64 0]
def zPs(m:Nat):List Value:=(Builtin.zeroCells (Value.cells zPn) m).toList
def zc6(m:Nat):(zPs m).length=m*2:=by unfold zPs;rw[Array.length_toList,size_zeroCells];rfl
def D5{y:Int×Int}(hi:i<=l.length)(hz:l.length<=100000){x:Value}(hB:zpk B w)(h2:SlB [Value.int .u64 y.1,Value.int .i64 y.2] zb8 1 v2 B)(hx:(SlR zb8 2 l.length (l.flatMap pnc)).P x B w C)(hC:ZCB C w B):
  RetT zpl 145 [x,.int .i64 i,v2] w B C (SlR zb8 2 (l.length+1) ((K9 l i y).flatMap pnc)):=by
 have hpl:=Bg l;unfold RetT;refine P2 0 (x:=x) (SlR zb8 2 l.length (l.flatMap pnc)) Z Tryz.func145 Z Tryz.ntmps145 (np Z) hB hx hC (ju 2 (SlB [Value.int .u64 y.1,Value.int .i64 y.2] zb8 1) Z SlB.mono h2 ?_);have hw1:IntKind.i64.wrap ((l.length:Int)+((1:Nat):Int))=((l.length+1:Nat):Int):=yz I I;refine sq 0 900 rfl (fun hm hn=>?_) fun b cap rest hl hmc hcm hcl=>?_
 ·have h0:l=[]:=m6 hm;subst h0;obtain rfl:i=0:=by simpa using hi
  refine(Z5∘Zb) ?_;refine z8 (Q1 L Z Z Z Z Z Z Z) Z ((Zf∘ZM∘Ze8∘Zi∘Zu∘Zs∘Zl∘Zar∘Zcl∘Zi∘ZP∘Zb∘ZC∘Zr∘Z3∘Zk) ?_);refine z8 (Rf L Z Z Z (o6 Z) Z Ld Z Z I I) Z (q0 (yw (.inr Z) Z) (Z1 (h:=?_)));exact Lt Z (fun _ _ h=>h) nq Z
 ·by_cases hin:i=l.length
  ·subst hin;have e1:(K9 l l.length y).flatMap pnc=l.flatMap pnc++[Value.int .u64 y.1,Value.int .i64 y.2]:=by rw[D7,zlm,zno];simp
   rw[e1];refine(Z5∘Zb∘ZeT∘Zf∘ZM∘Ze8∘Zi∘Zu∘Zs∘Zl∘Zar∘Zcl∘Zi∘ZP∘Zb∘ZC∘Zr∘Z3∘Zk) ?_;refine q0 (Re L (q:=900) Z Z Z Z hl hmc hcm hcl (o6 Z) Z Ld Z Z I I) (q0 (yw (.inr Z) Z) (Z1 (h:=?_)));exact Lt Z (fun _ _ h=>h) nq Z
  ·have hil:i<l.length:=I;have hA:((l.take i).flatMap pnc).length=i*2:=by rw[lu,mw,zmg I]
   have hBq:((l.drop i).flatMap pnc).length=(l.length-i)*2:=by rw[lu,zlc]
   have hcur:l.flatMap pnc=(l.take i).flatMap pnc++(l.drop i).flatMap pnc:=by rw[<-zlz,zli]
   have hpB:=Bg (l.drop i);have hwi:IntKind.i64.wrap ((i:Int)+((1:Nat):Int))=((i+1:Nat):Int):=yz I I;rw[D7];generalize hAe:(l.take i).flatMap pnc=A at *;generalize hBe:(l.drop i).flatMap pnc=Bq at *;rw[hcur,mj] at hcl;rw[hcur,mj];rw[nr,nr,hA,hBq] at hcl;by_cases hg:l.length+1<=cap
   ·have hne1:¬ cap=i:=I;have hne2:¬ cap=i+1:=I;have hne3:¬ cap=0:=I;have hR:2<=rest.length:=I;obtain⟨m1,m2,m3⟩:=zjk (R:=rest) (X:=[Value.int .u64 y.1,Value.int .i64 y.2]) hA hBq hR;have m3':=m3 ((Bq++rest).take 2) (by rw[mw,nr];omega);have q1:((A++(Bq++rest)).drop (0+i*2)).take ((l.length-i)*2)=Bq:=by rw[zlf];exact m1
    have q2:(A++(Bq++rest)).take (0+(i+1)*2)++(Bq++(A++(Bq++rest)).drop (0+(i+1)*2+(l.length-i)*2))=A++((Bq++rest).take 2++(Bq++rest.drop 2)):=by rw[zlf,zl9 i 1 2];exact m2
    have q3:(A++((Bq++rest).take 2++(Bq++rest.drop 2))).take (0+i*2)++([Value.int .u64 y.1,Value.int .i64 y.2]++(A++((Bq++rest).take 2++(Bq++rest.drop 2))).drop (0+i*2+1*2))=A++([Value.int .u64 y.1,Value.int .i64 y.2]++(Bq++rest.drop 2)):=by rw[zlf];exact m3'
    have q4:0+(i+1)*2+(l.length-i)*2<=(A++(Bq++rest)).length:=by rw[nr,nr];omega
    have q5:0+i*2+1*2<=(A++((Bq++rest).take 2++(Bq++rest.drop 2))).length:=by rw[nr,nr,nr,mw,nr];omega
    have q8:0<(A++(Bq++rest)).length:=by rw[nr,nr];omega
    have q6:Nat.min (l.length+1-i) (l.length+1-(i+1))=l.length-i:=by show min _ _=_;omega
    have q7:Nat.min 1 (l.length+1-i)=1:=by show min _ _=_;omega
    refine(Z5∘Zb∘ZeT) ?_;rw[nc hne1];refine(Zf∘ZM∘Ze8∘Zi∘Zu∘Zs∘Zl∘Zar∘Zcl∘Zi∘ZP∘Zb∘Zs∘Z6∘ZK∘Zb∘Zv∘Za) ?_;refine z8 (Ud L Z Z Z Z) Z ((ZD∘Zl∘ZV∘Zz∘Zv) ?_);refine z8 (u0 L (kl:=.i64) (pl:=0) 0 (l.length+1) Z Z Z Z Z Z ⟨rfl,rfl⟩ I I) Z ?_;rw[nc hne3,show(0+0*2:Nat)=0 from Z,zm3,zm3];refine Zi (h:=?_);refine(ZaV∘Zk∘Zz∘Zv) ?_;refine z8 (u0 L (kh:=.i64) (ph:=0) (i+1) _ Z Z Z Z Z ⟨rfl,rfl⟩ Z I I) Z ?_;rw[nc hne2];refine qz (M5 L (q:=900) Z Z Z zed Z Z Z Z Z q8) ((Zt∘Zr) ?_);refine qh (id:=15) [(77,[900])] x8 T (Zcs (h:=?_));refine zh (u0 L (kh:=.i64) (ph:=0) (i+1) _ Z Z Z Z Z ⟨rfl,rfl⟩ Z I I) Z ?_;rw[nc hne2];refine Zn (h:=?_);refine zh (u0 L (kh:=.i64) (ph:=0) i _ Z Z Z Z Z ⟨rfl,rfl⟩ Z I I) Z ?_;rw[nc hne1];refine xu (Ub L (q:=900) (l.length-i) Z Z Z Z Z Z Ld q6 q1 hBq q4 hpB q2) Z Z ((ZU∘Zad∘Zb) ?_);refine z8 (u0 L (kh:=.i64) (ph:=0) i _ Z Z Z Z Z ⟨rfl,rfl⟩ Z I I) Z ?_;rw[nc hne1];refine Zk (h:=?_);refine q0 (Fu L (q:=900) 1 rfl Z Z Z (o6 Z) Z Ld J q7 (ns 2) Z q5 Z q3) ((Zf∘Zbn∘Za∘Zd) ?_);refine g9 (s:=2) (xs:=A++([Value.int .u64 y.1,Value.int .i64 y.2]++Bq)) (rest:=rest.drop 2) 6 900 (by simp [mj]) Z Z (by simp only[nr,nz,my];omega) hg hcm (by simp only[nr,nz,my,zlc];omega) ?_;exact Lt Z (fun _ _ h=>h) nq Z
   ·have hne1:¬ cap=i:=I;have hne3:¬ cap=0:=I;have hr0:rest=[]:=m6 I;subst hr0;have hcap:cap=l.length:=I;subst hcap;rw[mo];have hwk:IntKind.i64.wrap (((l.length+1:Nat):Int)-(i:Int))=((l.length+1-i:Nat):Int):=yz I I |>.trans I;have hxs:(A++Bq).take (i*2)=A:=(zcy hA Bq).1;have hxl:i*2<=(A++Bq).length:=by rw[nr];omega
    have hZ:=zc6 (l.length+1-i);have hgt:l.length<i+(l.length+1-i):=I;refine(Z5∘Zb∘ZeT) ?_;rw[nc hne1];refine(Zf∘ZM∘Ze8∘Zi∘Zu∘Zs∘Zl∘Zar∘Zcl∘Zi∘ZP∘Zb∘Zs∘Z6∘ZK∘Zb∘Zv∘Za) ?_;refine z8 (Ud L Z Z Z Z) Z ((ZN∘Zr∘ZQ∘Zb) ?_);refine z8 (u0 L (kl:=.i64) (pl:=0) 0 i Z Z Z Z Z Z ⟨rfl,rfl⟩ I I) Z ?_;rw[nc hne3,show(0+0*2:Nat)=0 from Z,zm3,zm3];refine(Zb∘Zv∘Za∘Za6) ?_;refine qz (Rc L (q:=900) (z:=zPn) (k:=l.length+1-i) (kn:=.i64) Z Z Z Z Z Z T Ld Z I hgt hxs hxl Z I I) (q0 (yw (.inr Z) Z) (Zf (h:=?_)));rw[show(Builtin.zeroCells (Value.cells zPn) (l.length+1-i)).toList=zPs (l.length+1-i) from rfl];have hlt:i+(l.length+1-i)=l.length+1:=I;rw[hlt];refine sq 9 901 rfl (fun hm _=>by omega) fun b2 cap2 rest2 hl2 hmc2 hcm2 hcl2=>?_;have hn1:¬ cap2=i:=I;have hn2:¬ cap2=i+1:=I;have hZ2:(zPs (l.length+1-i)).length=(l.length-i)*2+2:=I;obtain⟨m1,m2⟩:=zhh (R:=rest2) (X:=[Value.int .u64 y.1,Value.int .i64 y.2]) hA hBq hZ2 rfl;have q1:(A++zPs (l.length+1-i)++rest2).take (0+i*2)++([Value.int .u64 y.1,Value.int .i64 y.2]++(A++zPs (l.length+1-i)++rest2).drop (0+i*2+1*2))=A++([Value.int .u64 y.1,Value.int .i64 y.2]++((zPs (l.length+1-i)).drop 2++rest2)):=by rw[zlf];exact m1
    have q2:(A++([Value.int .u64 y.1,Value.int .i64 y.2]++((zPs (l.length+1-i)).drop 2++rest2))).take (0+(i+1)*2)++(Bq++(A++([Value.int .u64 y.1,Value.int .i64 y.2]++((zPs (l.length+1-i)).drop 2++rest2))).drop (0+(i+1)*2+(l.length-i)*2))=A++([Value.int .u64 y.1,Value.int .i64 y.2]++(Bq++rest2)):=by rw[zlf,zl9 i 1 2];exact m2
    have q3:0+i*2+1*2<=(A++zPs (l.length+1-i)++rest2).length:=by rw[nr,nr];omega
    have q4:0+(i+1)*2+(l.length-i)*2<=(A++([Value.int .u64 y.1,Value.int .i64 y.2]++((zPs (l.length+1-i)).drop 2++rest2))).length:=by simp only[nr,nz,my,zlc];omega
    have q5:Nat.min 1 (l.length+1-i)=1:=by show min _ _=_;omega
    have q6:Nat.min (l.length-i) (l.length+1-(i+1))=l.length-i:=by show min _ _=_;omega
    have q7:((A++Bq).drop (i*2)).take ((l.length-i)*2)=Bq:=by rw[(zcy hA Bq).2,zle I]
    have q8:Bq.take ((l.length-i)*2)=Bq:=zle I;have q9:(l.length-i)*2<=Bq.length:=I;refine ZbO (h:=?_);refine z8 (u0 L (kh:=.i64) (ph:=0) i _ Z Z Z Z Z ⟨rfl,rfl⟩ Z I I) Z ?_;rw[nc hn1];refine Zk (h:=?_);refine q0 (Fu L (q:=901) 1 rfl Z Z Z (o6 Z) Z Ld J q5 (ns 2) Z q3 Z q1) (Zf (h:=?_));refine g9 (s:=2) (xs:=A++Bq) (rest:=[]) 0 900 (mo _).symm Z Z (by rw[<-hcur];exact hl) (ns _) hcm (by rw[<-hcur];exact hl) ?_;refine ax 0 rfl (qh (id:=11) [(54,[901])] x8 T (Zcs (h:=?_)));refine zh (u0 L (kh:=.i64) (ph:=0) (i+1) _ Z Z Z Z Z ⟨rfl,rfl⟩ Z I I) Z ?_;rw[nc hn2];refine(Zak∘Zj) ?_;refine zh (jk L (kh:=.i64) (ph:=0) (km:=.i64) (pm:=0) i l.length false Z Z Z Z Z ⟨rfl,rfl⟩ ⟨rfl,rfl⟩ (fun h=>by cases h) I I q7) Z ?_;refine xu (Fu L (q:=901) (l.length-i) Z Z Z Z (zbu Z) Z Ld I q6 q9 q8 q4 hpB q2) Z Z (ZU (h:=?_));refine g9 (s:=2) (xs:=A++([Value.int .u64 y.1,Value.int .i64 y.2]++Bq)) (rest:=rest2) 9 901 (by simp [mj]) Z Z (by simp only[nr,nz,my];omega) hmc2 hcm2 (by simp only[nr,nz,my] at hcl2 |-;omega) ?_;refine ZT (h:=?_);refine q0 (yw (.inl Z) Z) (q0 (yw (.inr Z) Z) (Z1 (h:=?_)));exact Lt Z (fun _ _ h=>h) nq Z
end Go.V.L10
section
open Go.V
attribute [local irreducible] Has N Par Ret RetL RetO RetT RetX Src StepOK V VO X kr
namespace Go.V.L10
def _root_.ZeU(t:Wr Y->A:=by intro h;refine z8 (u5 L Z Z (zo Z) Z Z Z (fun u H hH hle _=>Qv I hH (hv.le hle))) Z ?_;exact h.1)(h:Y):A:=t ⟨h⟩
def _root_.ZeV(t:Wr Y->A:=by intro h;refine Zv (h:=?_);refine z8 (yl (cs:=[_,_]) Z Z zjg Z Z) Z ?_;exact h.1)(h:Y):A:=t ⟨h⟩
def PinP(L0:List Int)(e:Int):Value->Heap->Prop:=fun v H=>∃ s,v=.tuple #[pnv s L0.length,.int .i64 e]/\PsV (xg L0) s H
def PinP.mono{e:Int}:Kn.mono (.sat (PinP L0 e)):=fun _ _ _ ⟨s,h1,h2⟩ hle=>⟨s,h1,h2.le hle⟩
def Fc(h:l[i]?=some x)(rest:List Value):l.flatMap pnc++rest=(l.take i).flatMap pnc++(pnc x++((l.drop (i+1)).flatMap pnc++rest)):=by
 have hi:=get_lt h
 have e:l=l.take i++x::l.drop (i+1):=by
  rw[show x::l.drop (i+1)=l.drop i by rw[zl4 hi,f9 h],zli]
 conv=>lhs;rw[e,zlz,zly]
 simp only[mj]
def zd4{c:Int}(h:l[i]?=some (r,c))(rest:List Value):∃ t,(l.flatMap pnc++rest).drop (0+i*2+1)=.int .i64 c::t:=by
 rw[Fc h rest];have hl:((l.take i).flatMap pnc).length=i*2:=by rw[lu,mw,zmg (Nat.le_of_lt (get_lt h))]
 refine⟨(l.drop (i+1)).flatMap pnc++rest,?_⟩;rw[zmh,zlk I,mh,show 0+i*2+1-((l.take i).flatMap pnc).length=1 by omega];rfl
def Ts{c:Int}(h:l[i]?=some (r,c))(c':Int)(rest:List Value):(l.flatMap pnc++rest).take (0+i*2+1)++([Value.int .i64 c']++(l.flatMap pnc++rest).drop (0+i*2+1+1))=(l.set i (r,c')).flatMap pnc++rest:=by
 have hi:=get_lt h;have hl:((l.take i).flatMap pnc).length=i*2:=by rw[lu,mw,zmg (Nat.le_of_lt hi)]
 have hs:(l.set i (r,c'))[i]?=some (r,c'):=by rw[zo2 hi]
 rw[Fc h rest,Fc hs rest,zo1 (ns _),zo3 (zon i)];generalize (l.take i).flatMap pnc=A at hl |-;generalize (l.drop (i+1)).flatMap pnc++rest=zpf
 subst_vars
 have e1:(A++(pnc (r,c)++zpf)).take (0+i*2+1)=A++[Value.int .u64 r]:=by
  rw[zne,zle I,show 0+i*2+1-A.length=1 by omega];rfl
 have e2:(A++(pnc (r,c)++zpf)).drop (0+i*2+1+1)=zpf:=by
  rw[zmh,zlk I,mh,show 0+i*2+1+1-A.length=2 by omega];rfl
 rw[e1,e2];simp [pnc]
def Tt(h:i<l.length)(rest:List Value):Nat.ble (0+i*2+1+1) (l.flatMap pnc++rest).length=true:=zn3 (by rw[nr,lu];omega)
def Vm(hi:i<=l.length):(K9 l i x)[i]?=some x:=by
 unfold K9;rw[List.getElem?_append_right (by rw[List.length_take];omega),List.length_take,Nat.min_eq_left hi,Nat.sub_self];rfl
def O7{y:Int×Int}(hi:i<=l.length):(K9 l i x).set i y=K9 l i y:=by
 unfold K9;rw[List.set_append_right _ _ (by rw[List.length_take];omega),List.length_take,Nat.min_eq_left hi,Nat.sub_self];rfl
def Tn(r:Int):tu cP r (kz L0)<=(xg L0).length:=by rw[ws];exact To r _
def zas(hr:r≠0)(hz2:(xg L0).length<=1000)(hz:L0.length<=4095)(hB:zpk B w)(hv:PsV (xg L0) s B):
  Ret zpl 77 [pnv s L0.length,.int .u64 r,.int .i64 1] w B (PinP (L0++[r]) 0):=by
 have hcz:L0.count r<=4095:=zld List.count_le_length hz;have hws:IntKind.i64.wrap (4096-((L0.count r:Nat):Int))=4096-((L0.count r:Nat):Int):=yz I I;have hwt:IntKind.i64.wrap ((L0.length:Int)+1)=((L0++[r]).length:Nat):=by rw[nr];exact yz I I
 obtain⟨p,c,rfl⟩:=jg hv;have hpl:=Tn (L0:=L0) r;by_cases hm:r∈kz L0
 ·have hf:decide (r∈kz L0)=true:=nf hm;have hp:=D8 hm;have hpi:=get_lt hp;have e1:=Bh (je.1 hm);have hwc:IntKind.i64.wrap (((L0.count r:Nat):Int)+1)=((L0.count r:Nat):Int)+1:=yz I I;generalize hat:tu cP r (kz L0)=at_ at *;refine yf Tryz.func77 Z Tryz.ntmps77 (np Z) hB ((ZA∘Z7∘Zc∘ZF∘Zbf∘Z0∘ZaF∘Zu∘Zs∘ZaF∘Zar∘Zs∘Zp∘ZZ∘Zay∘Zb5∘Z8∘ZbJ∘Za) ?_);refine z81 L Z (fun u H hH hle=>hf ▸ hat ▸ Pa (L0:=L0) (t:=L0.length) I hH (hv.le hle)) ?_;refine(Zy∘Zbk∘Za4∘ZbJ∘Za) ?_;refine z81 L Z (fun u H hH hle=>count_ret I hH (hv.le hle)) ?_;refine(Za6∘ZD∘Zb∘Zt∘Zb6∘Zg∘Zbd∘Zah∘Zac∘ZeU) ?_;refine q0 (yw (.inr Z) Z) ((Zaz∘ZO∘Za∘Zt∘Zl) ?_);refine sq 10 900 rfl (fun h0 _=>by omega) fun b cap rest hl hmc hcm hcl=>?_;obtain⟨tl,hld⟩:=zd4 hp rest;have hst:=Ts hp (((L0.count r:Nat):Int)+1) rest;have hbl:=Tt hpi rest;refine(ZV∘Zb∘Zd4∘ZaN) ?_;refine qz (qb L (q:=900) Z Z Z hld) ((Za∘Zv∘Zd4∘ZaN) ?_);refine xf (yc L (q:=900) Z Z hbl Z hst) (Zf (h:=?_));have hln:(xg (L0++[r])).length=(xg L0).length:=by rw[e1,znd]
  rw[<-e1];refine g9 (s:=2) (xs:=(xg (L0++[r])).flatMap pnc) (rest:=rest) 10 900 rfl Z Z (by rw[lu,hln]) hmc hcm (by rw[nr,lu,hln,<-lu,<-nr];exact hcl) ?_;refine Xt 10 rfl fun x H hs _ hsw=>?_;have hsv:PsV (xg (L0++[r])) x H:=by unfold PsV;rw[hln];exact hsw.toV
  obtain⟨p2,c2,rfl⟩:=jg hsv;refine(Zb9∘Zac∘Za∘ZeV∘Za0) ?_;refine ye L (rs:=[.cell 6 112,.tmp 7]) Z (fun _ _ h=>h) hs fun u H hH hle=>?_;exact⟨_,qs Z,rfl,_,rfl,hsv.le hle⟩
 ·have hf:decide (r∈kz L0)=false:=ng hm;have e1:=M3 (L:=L0) fun h=>hm (je.2 h);generalize hat:tu cP r (kz L0)=at_ at *;have e2:xg (L0++[r])=(K9 (xg L0) at_ (r,0)).set at_ (r,1):=by rw[O7 hpl];exact e1
  have hp:=Vm (x:=(r,(0:Int))) hpl;have hpi:=get_lt hp;have hil:=ic (x:=(r,(0:Int))) hpl;refine yf Tryz.func77 Z Tryz.ntmps77 (np Z) hB ((ZA∘Z7∘Zc∘ZF∘Zbf∘Z0∘ZaF∘Zu∘Zs∘ZaF∘Zar∘Zs∘Zp∘ZZ∘Zay∘Zb5∘Z8∘ZbJ∘Za) ?_);refine z81 L Z (fun u H hH hle=>hf ▸ hat ▸ Pa (L0:=L0) (t:=L0.length) I hH (hv.le hle)) ?_;refine(Zy∘Zbk∘Za4∘ZbJ∘Za) ?_;refine z81 L Z (fun u H hH hle=>count_ret I hH (hv.le hle)) ?_;refine(Za6∘ZD∘Zb∘Zt∘Za∘Zac∘Zcl∘Zs∘Zg∘Zbd∘Zah∘Zac∘ZeU) ?_;refine q0 (yw (.inr Z) Z) ((Zaz∘ZO∘Za∘Zt∘ZE∘ZT) ?_);refine q0 (yw (.inl Z) Z) (Zb (h:=?_));refine z8 (yl (cs:=[_,_]) Z Z zg2 Z Z) Z (Zap (h:=?_));refine q0 (Kl L (q:=51) Z Z Z Z Z (fun u H C x hH hle hx hC v2 hv2=>D5 (y:=(r,0)) hpl I hH hv2 hx hC)) (q0 (yw (.inr Z) Z) (Zf (h:=?_)));rw[<-hil];refine sq 10 900 rfl (fun h0 _=>by omega) fun b cap rest hl hmc hcm hcl=>?_;obtain⟨tl,hld⟩:=zd4 hp rest;have hst:=Ts hp 1 rest;have hbl:=Tt hpi rest;refine(ZV∘Zb∘Zd4∘ZaN) ?_;refine qz (qb L (q:=900) Z Z Z hld) ((Za∘ZbZ∘Zd4∘ZaN) ?_);refine xf (yc L (q:=900) Z Z hbl Z hst) (Zf (h:=?_));have hln:(xg (L0++[r])).length=(K9 (xg L0) at_ (r,0)).length:=by rw[e2,znd]
  rw[<-e2];refine g9 (s:=2) (xs:=(xg (L0++[r])).flatMap pnc) (rest:=rest) 10 900 rfl Z Z (by rw[lu,hln]) hmc hcm (by rw[nr,lu,hln,<-lu,<-nr];exact hcl) ?_;refine Xt 10 rfl fun x H hs _ hsw=>?_;have hsv:PsV (xg (L0++[r])) x H:=by unfold PsV;rw[hln];exact hsw.toV
  obtain⟨p2,c2,rfl⟩:=jg hsv;refine(Zb9∘Zac∘Za∘ZeV∘Za0) ?_;refine ye L (rs:=[.cell 6 112,.tmp 7]) Z (fun _ _ h=>h) hs fun u H hH hle=>?_;exact⟨_,qs Z,rfl,_,rfl,hsv.le hle⟩
def zd7(hr:r≠0)(hz2:(xg L0).length<=1000)(hz:L0.length<=4095)(hB:zpk B w)(hv:PsV (xg L0) s B):
  Ret zpl 113 [pnv s L0.length,.int .u64 r] w B (PinP (L0++[r]) 0):=by
 obtain⟨p,c,rfl⟩:=jg hv;refine yf Tryz.func113 Z Tryz.ntmps113 (np Z) hB ((ZA∘Z7∘Zas∘ZbJ∘Za) ?_);refine z8 (xi L rfl rfl (zo rfl) rfl rfl rfl PinP.mono (fun u H hH hle _=>zas hr hz2 hz hH (hv.le hle))) rfl ?_;refine v6 8 rfl fun v1 H1 hs1 hp1=>?_;obtain⟨s1,rfl,hq1⟩:=hp1;obtain⟨p1,c1,rfl⟩:=jg hq1;refine(Zbj∘Za0) ?_;refine ye L (rs:=[.cell 4 112,.tmp 5]) Z (fun _ _ h=>h) hs1 fun u H hH hle=>?_;exact⟨_,qs Z,rfl,_,rfl,hq1.le hle⟩
open Go.V.L2 Go.V.L8 Go.V.L6
def _root_.Zdt(t:Wr Y->A:=by intro h;refine j9 900 901 rfl Z (xd _) ?_;exact h.1)(h:Y):A:=t ⟨h⟩
def _root_.ZdX(t:Wr Y->A:=by intro h;refine vt 900 901 rfl (xd _) ?_;exact h.1)(h:Y):A:=t ⟨h⟩
abbrev tyS:TypeId:=205
abbrev Ent:=List (Int×(List U×Value))
abbrev vcE(p:List U×Value):Value:=p.2
abbrev stc(n m:Nat)(s:Value)(t:Nat):List Value:=[.int .u64 n,.map (some m),s,.int .i64 t]
abbrev StO(b n m:Nat)(s:Value)(t:Nat)(es:Ent):GR:=uw (xa b (stc n m s t) tyS) (zi3 m .u64 vcE es)
def ev(b n m:Nat)(s:Value)(t:Nat)(es:Ent):(StO b n m s t es).res=ei (xk b (stc n m s t) tyS) (Ek m .u64 vcE es):=rfl
def EsV(es:Ent)(H:Heap):Prop:=∀ e∈es,SetV e.2.1 e.2.2 H
def EsV.le{es:Ent}{H H':Heap}(h:EsV es H)(hle:H.Le H'):EsV es H':=fun e he=>(h e he).le hle
def td:∀ v H u C,(xk b cs ty).P v H u C->joinH H u C b=some (.cells cs.toArray ty):=fun _ _ _ _ ⟨hb,hC⟩=>(c9 ((hC b).2 rfl)).trans hb
def zr_run(L:Tabs P){e:TypeId}{z:Value}(hz:L.zr e=some z)(w:World):(zeroValue e).run P w=.ok z w:=by
 have h:=Tabs.zr_spec hz;unfold zrI at h;split at h
 ·rename_i it hit;simp [zeroValue,typeInfo,hit,h]
 ·cases h
abbrev zkm:TypeId:=203
abbrev tySt:TypeId:=91
def mpS:zpl.underlying zkm=some (.map Mg tySt):=T
def kyS:zpl.underlying Mg=some (.int .u64):=T
def zrS(w:World):(zeroValue tySt).run zpl w=.ok nilSet w:=zr_run L rfl w
attribute [local irreducible] RetY
def none_ret(hn:n≠0)(hb:B b=some (.cells (Value.int .u64 n::rest).toArray tyS))(hB:zpk B w):
  Ret zpl 111 [.pointer (some ⟨b,0,none⟩)] w B (fun v _=>v=.bool false):=by
 refine yf Tryz.func111 Z Tryz.ntmps111 (np Z) hB ((Z5∘Za) ?_);refine z8 (v0 Z Z Z Z zit Z) Z ((Zb∘ZI∘ZaO∘Zs∘Zg∘Zd) ?_);exact ye2 L [.tmp 2]
def ut(hn:n≠0)(hb:B b=some (.cells (Value.int .u64 n::rest).toArray tyS))(hB:zpk B w):
  Ret zpl 93 [.pointer (some ⟨b,0,none⟩)] w B (fun v _=>v=.int .u64 n):=by
 refine yf Tryz.func93 Z Tryz.ntmps93 (np Z) hB (ZbG (h:=?_));refine z81 L Z (fun u H hH hle=>none_ret hn (hle _ _ hb) hH) ?_;refine(Zl∘Zu∘ZI∘ZaO∘Zd) ?_;exact ye2 L [.tmp 2]
def pins_ret(hs:∃ p k c,s=.slice p k c)(hn:n≠0)(hb:B b=some (.cells (stc n m s t).toArray tyS))(hB:zpk B w):
  Ret zpl 43 [.pointer (some ⟨b,0,none⟩)] w B (fun v _=>v=pnv s t):=by
 obtain⟨p,k,c,rfl⟩:=hs;refine yf Tryz.func43 Z Tryz.ntmps43 (np Z) hB ((Zaj∘Zaz∘Zbf) ?_);refine z81 L Z (fun u H hH hle=>none_ret hn (hle _ _ hb) hH) ?_;refine(Zl∘Zu∘ZI) ?_;refine z8 (zz L (vs:=[_,_]) (qk Z E) Z Z Z Z ⟨_,rfl⟩) Z (Zau (h:=?_));refine ye1 L [.cell 2 112] fun u H hH hle=>?_;exact⟨_,qs Z,rfl,rfl⟩
def S4{es:Ent}(hm:MapOK es S.R)(hn:S.R.length≠0)(hes:EsV es B)(hB:zpk B w)(hr:(StO b S.R.length m s t es).P B w C)(hC:ZCB C w B):
  RetY zpl 87 [.pointer (some ⟨b,0,none⟩),.int .u64 r] w B C (StO b S.R.length m s t es) (WithP (atS S r).1 (atS S r).2):=by
 unfold RetY;refine yr 900 (StO b S.R.length m s t es) Tryz.func87 Z Tryz.ntmps87 (np Z) hB hr hC ?_;rw[ev];refine ZdX (h:=?_);obtain⟨k,hk⟩:∃ k,k=if r=0 then (S.R.length:Int) else r:=⟨_,rfl⟩
 have hat:atS S r=match kpt S.R k with | some t=>(t,0) | none=>([],14):=by rw[hk];rfl
 have hg:=hm.get k;by_cases hr0:r=0
 ·rw[na hr0] at hk;subst hr0;subst hk
  cases hgk:ul (S.R.length:Int) es with
  | none=>
   rw[hgk] at hg;rw[hat,<-hg];have q1:(ul (S.R.length:Int) es).elim nilSet vcE=nilSet:=by rw[hgk];rfl
   have q2:(ul (S.R.length:Int) es).isSome=false:=by rw[hgk];rfl
   refine(Zaj∘ZaC) ?_;refine qz (xz L 900 (Φ:=fun H=>H b=some (.cells (stc S.R.length m s t).toArray tyS)) (c:=.bool false) Z Z (zo Z) Z Z Z Z Z td (fun u H hH hle hb=>none_ret hn hb hH)) ((Z6∘Zu∘ZC∘ZE∘Zce∘Zby∘ZW∘Za) ?_);refine qz (uo (q:=901) (vc:=vcE) (S.R.length:Int) mpS kyS zrS Z Z Z Z Z q1 q2) ((Zbv∘Zi∘ZH∘Zt∘Zr∘Z8∘ZcJ∘Za0) ?_);refine Zdt (h:=?_);exact pw L 900 (r:=StO b S.R.length m s t es) (rs:=[.cell 4 91,.tmp 5]) Z (fun _ _ h=>h) nq Z Z (fun H hle=>⟨_,qs Z,rfl,_,rfl,SetV.nil⟩)
  | some x=>
   obtain⟨l,sv⟩:=x;rw[hgk] at hg;rw[hat,<-hg];have hx:SetV l sv B:=hes _ (di hgk);obtain⟨f1,p1,f2,p2,rfl,hpl⟩:=hx.shape;have q1:(ul (S.R.length:Int) es).elim nilSet vcE=.agg #[f1,.pointer p1,f2,.pointer p2]:=by rw[hgk];rfl
   have q2:(ul (S.R.length:Int) es).isSome=true:=by rw[hgk];rfl
   refine(Zaj∘ZaC) ?_;refine qz (xz L 900 (Φ:=fun H=>H b=some (.cells (stc S.R.length m s t).toArray tyS)) (c:=.bool false) Z Z (zo Z) Z Z Z Z Z td (fun u H hH hle hb=>none_ret hn hb hH)) ((Z6∘Zu∘ZC∘ZE∘Zce∘Zby∘ZW∘Za) ?_);refine qz (uo (q:=901) (vc:=vcE) (S.R.length:Int) mpS kyS zrS Z Z Z Z Z q1 q2) ((Zy∘Z7∘ZbX∘Zi∘ZH∘Zt∘Zl∘ZK∘Zbp∘ZbX∘Zd) ?_);refine Zdt (h:=?_);exact pw L 900 (r:=StO b S.R.length m s t es) (rs:=[.cell 4 91,.tmp 5]) Z (fun _ _ h=>h) nq Z Z (fun H hle=>⟨_,qs Z,rfl,_,rfl,hx.le hle⟩)
 ·rw[nc hr0] at hk;subst hk
  cases hgk:ul k es with
  | none=>
   rw[hgk] at hg;rw[hat,<-hg];have q1:(ul k es).elim nilSet vcE=nilSet:=by rw[hgk];rfl
   have q2:(ul k es).isSome=false:=by rw[hgk];rfl
   refine(Zaj∘ZaC) ?_;refine qz (xz L 900 (Φ:=fun H=>H b=some (.cells (stc S.R.length m s t).toArray tyS)) (c:=.bool false) Z Z (zo Z) Z Z Z Z Z td (fun u H hH hle hb=>none_ret hn hb hH)) ((Z6∘Zu∘Zs∘Zl∘Zar∘ZW∘Za) ?_);refine qz (uo (q:=901) (vc:=vcE) k mpS kyS zrS Z Z Z Z Z q1 q2) ((Zbv∘Zi∘ZH∘Zt∘Zr∘Z8∘ZcJ∘Za0) ?_);refine Zdt (h:=?_);exact pw L 900 (r:=StO b S.R.length m s t es) (rs:=[.cell 4 91,.tmp 5]) Z (fun _ _ h=>h) nq Z Z (fun H hle=>⟨_,qs Z,rfl,_,rfl,SetV.nil⟩)
  | some x=>
   obtain⟨l,sv⟩:=x;rw[hgk] at hg;rw[hat,<-hg];have hx:SetV l sv B:=hes _ (di hgk);obtain⟨f1,p1,f2,p2,rfl,hpl⟩:=hx.shape;have q1:(ul k es).elim nilSet vcE=.agg #[f1,.pointer p1,f2,.pointer p2]:=by rw[hgk];rfl
   have q2:(ul k es).isSome=true:=by rw[hgk];rfl
   refine(Zaj∘ZaC) ?_;refine qz (xz L 900 (Φ:=fun H=>H b=some (.cells (stc S.R.length m s t).toArray tyS)) (c:=.bool false) Z Z (zo Z) Z Z Z Z Z td (fun u H hH hle hb=>none_ret hn hb hH)) ((Z6∘Zu∘Zs∘Zl∘Zar∘ZW∘Za) ?_);refine qz (uo (q:=901) (vc:=vcE) k mpS kyS zrS Z Z Z Z Z q1 q2) ((Zy∘Z7∘ZbX∘Zi∘ZH∘Zt∘Zl∘ZK∘Zbp∘ZbX∘Zd) ?_);refine Zdt (h:=?_);exact pw L 900 (r:=StO b S.R.length m s t es) (rs:=[.cell 4 91,.tmp 5]) Z (fun _ _ h=>h) nq Z Z (fun H hle=>⟨_,qs Z,rfl,_,rfl,hx.le hle⟩)
end Go.V.L10
namespace Go.V.L11
open Go.V.L4
def zwr(w:World):(zeroValue zj5).run zpl w=.ok (.agg #[.int .i64 0,.int .i64 0]) w:=L10.zr_run L rfl w
attribute [local irreducible] XP RetY Pan
def R5{a e:Int}(hB:zpk B w):Ret zpl 71 [wrV a e] w B (fun v _=>v=.tuple #[.int .i64 a,.int .i64 e]):=by
 refine yf Tryz.func71 Z Tryz.ntmps71 (np Z) hB ((ZaL∘ZaC) ?_);refine z8 (Ra Z Z Z T) Z ((Zbv∘Zc) ?_);refine Aa 4 rfl fun b4 _=>?_;refine(Zq∘Zr∘Zcy∘Zag∘ZdK∘Zag∘ZdK∘Zaf∘Za3) ?_;exact ye2 L [.tmp 2,.tmp 3]
def Nr(hB:zpk B w):Ret zpl 71 [.nilIface] w B (fun v _=>v=.tuple #[.int .i64 0,.int .i64 0]):=by
 refine yf Tryz.func71 Z Tryz.ntmps71 (np Z) hB ((ZaL∘ZaC) ?_);refine z8 (Rb Z Z Z T zwr) Z ((Zbv∘Zb2∘Zl∘Z9∘ZB) ?_);exact ye2 L [.tmp 2,.tmp 3]
abbrev Yg:TypeId:=3
abbrev Lx:TypeId:=43
abbrev tyPS:TypeId:=71
abbrev G3(ba be bs:Nat)(x y z:Value):GR:=uw (xa ba [x] Yg) (uw (xa be [y] Lx) (xa bs [z] tyPS))
attribute [local irreducible] bp
def Ku{ba be bs:Nat}{x y z:Value}{a e:Int}{m m':FrameMode}(hm:RecM m m' v)(hcv:∀ (u:World) (H:Heap),zpk H u->Ret zpl 71 [v] u H (fun r _=>r=.tuple #[.int .i64 a,.int .i64 e]))(hB:zpk B w)(hr:(G3 ba be bs x y z).P B w C)(hC:ZCB C w B):
  bp zpl 70 [xy ba,xy be,xy bs] w B C m m' (G3 ba be bs (.int .i64 a) (.int .i64 e) (if e=0 then z else .pointer none)):=by
 refine zb1 900 (G3 ba be bs x y z) _ hm Tryz.func70 Z Tryz.ntmps70 (np Z) Z Z Z Z hB hr hC ?_;refine Sk (r1:=xk ba [x] Yg) (r2:=(uw (xa be [y] Lx) (xa bs [z] tyPS)).res) 900 901 rfl (xd _) ?_;refine Sk (r1:=xk be [y] Lx) (r2:=xk bs [z] tyPS) 901 902 rfl (dj _ _ _) ?_;refine z81 L Z (fun u H hH _=>hcv u H hH) ?_;refine Zy (h:=?_);refine xf (yc L (q:=900) (cs':=[.int .i64 a]) Z Z Z Z Z) (xf (yc L (q:=901) (cs':=[.int .i64 e]) Z Z Z Z Z) (ZS (h:=?_)));refine Zbq (h:=?_);by_cases he:e=0
 ·rw[na he];refine(Ze∘Z4∘Zd5∘ZG∘ZZ) ?_;refine ij 901 902 rfl Z (dj _ _ _) ?_;refine ij 900 901 rfl Z (xd (uw (xa be [.int .i64 e] Lx) (xa bs [z] tyPS))) ?_;exact Xv L 900 (r:=G3 ba be bs (.int .i64 a) (.int .i64 e) z) Z Z Z nq
 ·rw[nc he];refine(Ze∘Z4∘Zd5∘Zco∘ZE∘ZM) ?_;refine xf (yc L (q:=902) (cs':=[.pointer none]) Z Z Z Z Z) (ZS (h:=?_));refine ij 901 902 rfl Z (dj _ _ _) ?_;refine ij 900 901 rfl Z (xd (uw (xa be [.int .i64 e] Lx) (xa bs [.pointer none] tyPS))) ?_;exact Xv L 900 (r:=G3 ba be bs (.int .i64 a) (.int .i64 e) (.pointer none)) Z Z Z nq
end Go.V.L11
namespace Go.V.L11
open Go.V.L4
def bq{F:Fr}{κ:Kap}(l:List (Nat×Kn))(hl:LiveOK l κ)(h:XP F B n O (ofL l) pv Q):XP F B n O κ pv Q:=fun a u hh=>h a u (hh.live hl)
def zew{F:Fr}{κ:Kap}{fn:Func}{R R':Ending->World->Prop}(h:LV P F B n O κ fn R)(hm:∀ e u,R e u->R' e u):LV P F B n O κ fn R':=fun a u hh=>let ⟨v,h1,h2⟩:=h a u hh;⟨v,h1,hm _ _ h2⟩
attribute [local irreducible] XP LV RetY Pan bp
abbrev FLd(w:World)(ba be bs:Nat):Fr:=⟨w,none,[.u (dfd 70 [xy ba,xy be,xy bs])],noL⟩
abbrev KLd(ba be bs:Nat)(x y z:Value):List (Nat×Kn):=[(2,.is (xy bs)),(3,.is (xy ba)),(4,.is (xy be)),(910,.own (xk bs [z] tyPS)),(911,.own (xk ba [x] Yg)),(912,.own (xk be [y] Lx))]
def U3{ba be bs:Nat}{x y z:Value}{a e:Int}(he:e≠0)(hs:Since (FLd w ba be bs) B0 B){R:Ending->World->Prop}(hR:∀ r u,pj w B0 noL (fun v _ _=>v=.tuple #[.pointer none,.int .i64 a,.int .i64 e]) r u->R r u):
  XP (FLd w ba be bs) B n O (ofL (KLd ba be bs x y z)) (wrV a e) (bodyPostM Fence.wide 0 zpl Tryz.f26 R):=by
 refine Nw 912 910 rfl Z (dj _ _ _) ?_;refine Nw 911 912 rfl Z (xd (uw (xa be [y] Lx) (xa bs [z] tyPS))) ?_;refine zc7 L 911 (r:=G3 ba be bs x y z) (r':=G3 ba be bs (.int .i64 a) (.int .i64 e) (if e=0 then z else .pointer none)) Z Z Z (fun u H C hH _ hr hC=>Ku (RecM.caught _) (fun u H hH=>R5 hH) hH hr hC) ?_ (fun _ _ h=>h);rw[nc he];refine Fy (r1:=xk ba [.int .i64 a] Yg) (r2:=(uw (xa be [.int .i64 e] Lx) (xa bs [.pointer none] tyPS)).res) 911 912 rfl (xd _) ?_;refine Fy (r1:=xk be [.int .i64 e] Lx) (r2:=xk bs [.pointer none] tyPS) 912 910 rfl (dj _ _ _) ?_;refine lh 3 911 rfl Z (lh 4 912 rfl Z (lh 2 910 rfl Z (zew (R:=pj w B0 noL (fun v _ _=>v=.tuple #[.pointer none,.int .i64 a,.int .i64 e])) ?_ hR)));exact zhl L (rs:=[.cell 2 tyPS,.cell 3 Yg,.cell 4 Lx]) Z hs (fun u H _ _=>jd (qs Z) Z (jd (qs Z) Z (jd (qs Z) Z Z)))
end Go.V.L11
end
variable{es:Go.V.L10.Ent}
namespace Go.V
def zc9(ops:Array Oper)(K:Nat):Bool:=
 let b:=Region.before ops
 (List.range ops.size).all fun i=>Nat.ble i K || (b.getD i 0).testBit K
section sound
variable  {St:Kap->Act->World->Prop}  {ex:Exs}
def P5(P:Program)(St:Kap->Act->World->Prop)(ops:Array Oper)(ex:Exs)(r:Option Nat)(Q:Exit->Act->World->Prop)(K:Nat)(o:Oper)(κ:Kap):Prop:=
 ∀ κ' a u,(∀ t∈lks ops ex o,κ' t=κ t)->St κ' a u->∀ Kk,wpOpIn (FW r) 0 P ops Q K Kk a u
def Dk{r:Option Nat}{Q:Exit->Act->World->Prop}{K:Nat}{o:Oper}:∀ (l:List Nat) {κ:Kap},(∀ j∈l,∀ x,ops[j]?=some x->Kr (tch ex x) (lks ops ex o)=true)->
  ParI P St ops ex (P5 P St ops ex r Q K o) l κ->P5 P St ops ex r Q K o κ
 | [],κ,_,h=>h
 | j::l,κ,hap,⟨x,us,hx,hd,sx,rest⟩=>fun κ' a u hl hh=>by
  have h2:=cz (hap j (mb ..) x hx);exact Dk l (fun m hm=>hap m (mc _ hm)) rest κ' a u (fun t ht=>(hl t ht).trans (wy us κ t fun p hp e=>h2 p.1 (hd p hp) (e ▸ ht)).symm) hh
def Sf{r:Option Nat}(hsep:Tg ops ex=true)(hw:zc9 ops K=true)(hoK:ops[K]?=some o)(hK:K<ops.size):∀ (fuel:Nat) (listed:Array Bool) (l:List Nat) (κ:Kap) (a:Act) (u:World),
  l.length<fuel->l.Pairwise (·<·)->listed.size=ops.size->(∀ i,(i∈l\/(K<=i/\i<ops.size))↔i<ops.size/\listed.getD i true=false)->C4 ops listed->(∀ i∈l,i<K)->
  ParI P St ops ex (P5 P St ops ex r Q K o) l κ->St κ a u->wpAnyIn (FW r) 0 P .any ops Q fuel listed a u:=by
 intro fuel
 induction fuel with
 | zero=>intro listed l κ a u hlen;omega
 | succ fuel ih=>
  intro listed l κ a u hlen hsort hsz hmem hcl hlK hp hh;have hsep':=hsep;simp only[Tg,zlj,zlw] at hsep'
  have hedge:∀ i (hi:i<ops.size),∀ e∈(ops[i]'hi).after,Region.binds .any e=true->e.on<i:=fun i hi e he hb=>by
   have h1:=(hsep' i (by simpa using hi)).1;rw[zlh,zln hi,zoc,Array.all_eq_true'] at h1;have:=h1 e he;simp [hb] at this;exact this
  have hlow:∀ j,j<ops.size->listed.getD j true=false->(∀ i∈l,j<=i)->j<=K->j∈Region.ready .any ops listed:=fun j hj hjl hmin hjK=>by
   refine mem_ready.2 ⟨hjl,ops[j],by simp [hj],fun e he hb=>?_⟩;have hlt:=hedge j hj e he hb;cases hle:listed.getD e.on true
   ·rcases(hmem e.on).2 ⟨by omega,hle⟩ with h | h
    ·have:=hmin _ h;omega
    ·omega
   ·rw[zlh,zln I] at hle |-;simpa using hle
  have hKl:=((hmem K).1 (.inr ⟨ns _,hK⟩)).2;constructor
  ·intro hr;exfalso
   have:∃ j,j∈Region.ready .any ops listed:=by
    cases l with
    | nil=>exact⟨K,hlow K hK hKl (fun i hi=>by cases hi) (ns _)⟩
    | cons j0 l0=>
     obtain⟨h1,h2⟩:=(hmem j0).1 (.inl (mb ..));refine⟨j0,hlow j0 h1 h2 (fun i hi=>?_) (Nat.le_of_lt (hlK j0 (mb ..)))⟩;rcases nw.1 hi with rfl | hi
     ·exact ns _
     ·exact Nat.le_of_lt (zox hsort hi)
   obtain⟨j,hj⟩:=this;rw[hr] at hj;cases hj
  ·intro i hi;obtain⟨hli,oi,ho,hall⟩:=mem_ready.1 hi
   have hisz:i<ops.size:=by
    rcases m8 i ops.size with h | h
    ·exact h
    ·rw[zms h] at ho;cases ho
   have hio:ops[i]=oi:=by rw[zln hisz] at ho;exact Option.some.inj ho
   have hwait:∀ j,j<ops.size->((Region.before ops).getD i 0).testBit j=true->listed.getD j true=false->False:=fun j hjs h2 hjl=>by
    have:=bh hsz hcl i hisz (fun e he hb=>by rw[hio] at he;exact hall e he hb) j h2;rw[zlh,zln I] at this hjl;simp at this hjl;rw[this] at hjl;cases hjl
   have hapart:∀ j∈l,j<i->∀ x y,ops[j]?=some x->ops[i]?=some y->o7 ops ex x y=true:=fun j hj hji x y hx hy=>by
    obtain⟨hjs,hjl⟩:=(hmem j).1 (.inl hj);have h2:=(hsep' i (by simpa using hisz)).2 j (by simpa using hji);rw[znf] at h2;rcases h2 with h2 | h2
    ·exact(hwait j hjs h2 hjl).elim
    ·rw[zlh,zlh,hx,hy] at h2;exact h2
   rcases(hmem i).2 ⟨hisz,hli⟩ with hil | ⟨hKi,_⟩
   ·obtain⟨l1,l3,rfl⟩:=zng hil
    have hap:∀ j∈l1,∀ x y,ops[j]?=some x->ops[i]?=some y->o7 ops ex x y=true:=fun j hj=>
     hapart j (zlr _ hj) ((zlt.1 hsort).2.2 j hj i (mb ..))
    obtain⟨o',us,ho',hd,sx,rest⟩:=ParI.front l1 hap hp;obtain rfl:oi=o':=by rw[ho] at ho';exact Option.some.inj ho'
    have hst:=sx κ a u (fun _ _=>rfl) hh;refine After.wpOpIn ho ?_;refine After.mono (fun a' u' hh'=>?_) hst;have hli':i<listed.size:=I;have hiK:=hlK i hil;refine ih (listed.setIfInBounds i true) (l1++l3) _ a' u' (by simp at hlen |-;omega) ?_ (by simpa using hsz) ?_ ?_ (fun j hj=>hlK j (by rcases mi.1 hj with h | h;exact zlr _ h;exact zl8 _ (mc _ h))) rest hh'
    ·rw[zlt] at hsort |-;exact⟨hsort.1,(mg.1 hsort.2.1).2,fun x hx y hy=>hsort.2.2 x hx y (mc _ hy)⟩
    ·intro j;rw[ec true hli']
     have hnd:i∉l1++l3:=by
      rw[zlt] at hsort;intro hm;rcases mi.1 hm with hm | hm
      ·have:=hsort.2.2 i hm i (mb ..);omega
      ·have:=(mg.1 hsort.2.1).1 i hm;omega
     by_cases hij:i=j
     ·subst hij;simp [hnd];omega
     ·rw[nc hij,<-hmem j];simp only[mi,nw];constructor
      ·rintro((h | h) | h);exact .inl (.inl h);exact .inl (.inr (.inr h));exact .inr h
      ·rintro((h | h | h) | h);exact .inl (.inl h);exact ni h.symm hij;exact .inl (.inr h);exact .inr h
    ·intro k hk hkl e he hb;rw[ec _ hli'] at hkl |-;by_cases hie:i=e.on
     ·rw[na hie]
     ·rw[nc hie];by_cases hik:i=k
      ·subst hik;rw[hio] at he;exact hall e he hb
      ·rw[nc hik] at hkl;exact hcl k hk hkl e he hb
   ·by_cases hKe:i=K
    ·subst hKe;obtain rfl:oi=o:=by rw[ho] at hoK;exact Option.some.inj hoK
     refine Dk l (fun j hj x hx=>?_) hp κ a u (fun _ _=>rfl) hh _;have:=hapart j hj (hlK j hj) x oi hx ho;simp only[o7,zlw] at this;exact this.1
    ·exfalso;simp only[zc9,zlj,znf] at hw;rcases hw i (by simpa using hisz) with h | h
     ·have:=np h;omega
     ·exact hwait K hK h hKl
end sound
section code
variable  {F:Fr}    {κ:Kap}   {ex:Exs} {os:List Oper}
def zi1(P:Program)(F:Fr)(B:Heap)(n:Nat)(O:Boxes)(ops:Array Oper)(ex:Exs)(K:Nat)(o:Oper)(κ:Kap)(os:List Oper)(Q:Exit->Act->World->Prop):Prop:=
 X6 P (Has F B O n) ops ex (P5 P (Has F B O n) ops ex F.r Q K o) os κ
def Ej{id:Nat}{l:List Oper}(K:Nat)(ex:Exs)(hm:P.follows .mixedOrders=true)(ho:l[K]?=some o)(hs:(Tg l.toArray ex && zc9 l.toArray K)=true)
  (h:zi1 P F B n O l.toArray ex K o κ (l.take K) Q):V P F B n O κ (.region id l.toArray true) Q:=fun a u hh=>by
 rw[zlw] at hs
 have hK:K<l.length:=by
  rcases m8 K l.length with h | h
  ·exact h
  ·rw[zlu h] at ho;cases ho
 refine wpIn_region_any hm (Sf (St:=Has F B O n) (ex:=ex) (o:=o) hs.1 hs.2 (by simpa using ho) (by simpa using hK) l.toArray.size _ (List.range' 0 K) κ a _ (by simpa using hK) List.pairwise_lt_range' (by simp) ?_ ?_ (fun i hi=>by have:=zn7.1 hi;omega) ?_ hh.drew)
 ·intro i;constructor
  ·rintro(h | h)
   ·have:=zn7.1 h;refine⟨by simp;omega,?_⟩;have:i<l.length:=I;simp [this]
   ·have:i<l.length:=by simpa using h.2
    refine⟨h.2,?_⟩;simp [this]
  ·rintro⟨h,_⟩;by_cases hi:i<K
   ·exact .inl (zn7.2 ⟨mf _,by omega⟩)
   ·exact .inr ⟨by omega,h⟩
 ·intro k hk hkl;simp at hk;simp [hk] at hkl
 ·refine r8 K 0 (by simp;omega) ?_;rw[zl5];exact h
def jw{ok:Oper}{d:Nat}{k:Kn}(hs:StepOK P F B n ops O κ o d k)(hd:vd o=some d)(h:zi1 P F B n O ops ex K ok (upd κ d k) os Q):zi1 P F B n O ops ex K ok κ (o::os) Q:=
 ⟨[(d,k)],fun p hp=>by simp at hp;subst hp;simp [tch,hd],hs.stepG,h⟩
def i6(ll:List (Nat×Kn))(hin:(ll.all fun p=>(lks ops ex o).contains p.1)=true)(hl:LiveOK ll κ)(h:N F B n O (ofL ll) (QX P F ops K Q)):zi1 P F B n O ops ex K o κ [] Q:=fun κ' a u hag hh Kk=>by
 have key:∀ l:List (Nat×Kn),(l.all fun p=>(lks ops ex o).contains p.1)=true->LiveOK l κ->LiveOK l κ':=by
  intro l
  induction l with
  | nil=>intro _ _;trivial
  | cons p l ih=>
   intro h1 h2;rw[List.all_cons,zlw] at h1;exact⟨(hag p.1 (by simpa using h1.1)).trans h2.1,ih h1.2 h2.2⟩
 exact h a u (hh.live (key ll hin hl)) Kk
end code
end Go.V
namespace Go.V.L11
open Go.V.L4
def Of{bs:List Nat}{fr:Int}{R:Rd}(hb:∀ b∈bs,b<=255)(hl:bs.length<=1099511627776)(hat:R.at_<=bs.length)(hB:zpk B w)(hs:BsV bs fu sv B)(hr:(xr sb rb sv fr R).P B w C)(hC:ZCB C w B):
  RetX zpl 76 [xy rb] w B C (xr sb rb sv fr (oc bs R).2) (.int .u64 ((oc bs R).1:Nat)):=
 RetL.mono (RetY.conv (RetY.frame (Gi hr) hC fun C1 h1 hC1=>(Mu hb hl hat hB hs h1 hC1).toY) fun _ _ _ h=>Gi h:RetY _ _ _ _ _ _ (xr sb rb sv fr (oc bs R).2) fun x _=>x=.int .u64 ((oc bs R).1:Nat)) fun _ _ _ _ h=>h
attribute [local irreducible] V N X VO Par XP LV StepOK Has Ret RetL RetO RetT kr RetX RetY Pan bp Src
open Go.V.L2 Go.V.L6 Go.V.L8
def jj{R R2:Rd}{x:CH}{fr:Nat}{fst:List Value}(hfn:L.fn fr=some ())(he:R2.err=0){C:Nat->Prop}(hB:zpk B w)(hr:(xr sb rb sv fr0 R).P B w C)(hC:ZCB C w B)(hf:∀ (u:World) (H:Heap) (C:Nat->Prop),zpk H u->B.Le H->(xr sb rb sv R.at_ R).P H u C->(ZCB C u H)->RetX zpl fr (fst++cap) u H C (xr sb rb sv R.at_ R2) (chv x.1 x.2)):
  RetX zpl 146 [xy sb,.func (.func fr) fst.toArray cap.toArray] w B C (xr sb rb sv R.at_ R2) (chv x.1 x.2):=by
 unfold RetX;obtain⟨⟨⟨⟨x1,x2⟩,x3⟩,⟨⟨x4,x5⟩,x6⟩⟩,x7⟩:=x;refine yr 900 (xr sb rb sv fr0 R) Tryz.func146 Z Tryz.ntmps146 (np Z) hB hr hC ?_;rw[w5,xb,xb];refine Zdj (h:=?_);refine(ZbW∘Z4∘Zbe) ?_;refine q0 (y6 L 901 (GRd rb sv R) (.int .i64 R.at_) (r:=GRd rb sv R) Z Z Z Z Z (fun u H C2 hH _ hr2 hC2=>L4.at_ret hH hr2 hC2)) (ZI (h:=?_));refine xf (yc L (q:=900) (cs':=[xy rb,.int .i64 R.at_]) Z Z Z Z Z) (Zf (h:=?_));refine j9 900 901 rfl Z (xd (GRd rb sv R)) ?_;refine Zq (h:=?_);refine q0 (ja L 900 (xr sb rb sv R.at_ R2) (chv (((x1,x2),x3),((x4,x5),x6)) x7) (r:=xr sb rb sv R.at_ R) Z Z Z hfn Z hf) (Zbs (h:=?_));refine vt (r1:=(xa sb [xy rb,.int .i64 R.at_] N4).res) (r2:=(GRd rb sv R2).res) 900 901 rfl (xd (GRd rb sv R2)) ?_;rw[xb];refine(Zu∘ZW) ?_;refine q0 (y6 L 901 (GRd rb sv R2) (.tuple #[.int .i64 R2.bad,.int .i64 R2.err]) (r:=GRd rb sv R2) Z Z Z Z Z (fun u H C2 hH _ hr2 hC2=>L4.fault_ret hH hr2 hC2)) ((ZaX∘Z2∘ZaE∘ZP∘ZcK∘Zau) ?_);refine j9 900 901 rfl Z (xd (GRd rb sv R2)) ?_;exact xq L 900 (r:=xr sb rb sv R.at_ R2) (rs:=[.cell 4 Ly]) Z (fun _ _ h=>h) nq Z Z (fun _=>⟨_,qs Z,rfl,rfl⟩)
def Mz{R R2:Rd}{x:CH}{fr:Nat}{fst:List Value}(hfn:L.fn fr=some ())(he:R2.err≠0){C:Nat->Prop}(hB:zpk B w)(hr:(xr sb rb sv fr0 R).P B w C)(hC:ZCB C w B)(hf:∀ (u:World) (H:Heap) (C:Nat->Prop),zpk H u->B.Le H->(xr sb rb sv R.at_ R).P H u C->(ZCB C u H)->RetX zpl fr (fst++cap) u H C (xr sb rb sv R.at_ R2) (chv x.1 x.2)):
  Pan zpl 146 [xy sb,.func (.func fr) fst.toArray cap.toArray] w B C (wrV R2.bad R2.err):=by
 obtain⟨⟨⟨⟨x1,x2⟩,x3⟩,⟨⟨x4,x5⟩,x6⟩⟩,x7⟩:=x;refine fe 900 (xr sb rb sv fr0 R) Tryz.func146 Z Tryz.ntmps146 (np Z) hB hr hC ?_;rw[w5,xb,xb];refine Zdj (h:=?_);refine(ZbW∘Z4∘Zbe) ?_;refine q0 (y6 L 901 (GRd rb sv R) (.int .i64 R.at_) (r:=GRd rb sv R) Z Z Z Z Z (fun u H C2 hH _ hr2 hC2=>L4.at_ret hH hr2 hC2)) (ZI (h:=?_));refine xf (yc L (q:=900) (cs':=[xy rb,.int .i64 R.at_]) Z Z Z Z Z) (Zf (h:=?_));refine j9 900 901 rfl Z (xd (GRd rb sv R)) ?_;refine Zq (h:=?_);refine q0 (ja L 900 (xr sb rb sv R.at_ R2) (chv (((x1,x2),x3),((x4,x5),x6)) x7) (r:=xr sb rb sv R.at_ R) Z Z Z hfn Z hf) (Zbs (h:=?_));refine vt (r1:=(xa sb [xy rb,.int .i64 R.at_] N4).res) (r2:=(GRd rb sv R2).res) 900 901 rfl (xd (GRd rb sv R2)) ?_;rw[xb];refine(Zu∘ZW) ?_;refine q0 (y6 L 901 (GRd rb sv R2) (.tuple #[.int .i64 R2.bad,.int .i64 R2.err]) (r:=GRd rb sv R2) Z Z Z Z Z (fun u H C2 hH _ hr2 hC2=>L4.fault_ret hH hr2 hC2)) ((ZaX∘Z2∘Zco∘ZE) ?_);refine jt (id:=5) 4 rfl ((Zb∘Zel∘Zek∘ZS) ?_);refine B5 (K:=4) Z Z Z ?_
 repeat (first | refine wg ?_ | refine ji ?_)
 exact lj nq
abbrev tySt:TypeId:=91
def Uv(hr:r≠0){p:Option Addr}{c:Nat}{t:Int}(hB:zpk B w):
  Ret zpl 77 [.agg #[.slice p k c,.int .i64 t],.int .u64 r,.int .i64 0] w B (fun v _=>v=.tuple #[.agg #[.slice p k c,.int .i64 t],.int .i64 0]):=by
 refine yf Tryz.func77 Z Tryz.ntmps77 (np Z) hB ((ZA∘Z7∘Zc∘ZF∘Zbf∘Z0∘ZaF∘Zu∘Zs∘ZaF∘Zar∘ZC∘Zd∘ZbE∘ZaZ∘ZbJ∘Za0) ?_);refine ye1 L [.cell 6 112,.tmp 7] fun u H hH hle=>?_;exact⟨_,qs Z,rfl,rfl⟩
def E6(hB:zpk B w):Ret zpl 32 [nilSet] w B (BsV [0] true):=by
 refine yf Tryz.func32 Z Tryz.ntmps32 (np Z) hB ((ZA∘Zas∘Z7∘Zf) ?_);refine kq 3 900 rfl fun wb=>?_;refine sn 901 N5 1 (Zee (h:=?_));refine bn (X:=Value) 900 (r:=fun sv=>(GWv wb [] sv).res) (φ:=fun sv _=>Mb sv) f5 (.slice none 0 0) ⟨_,_,_,rfl⟩ Z ((ZM∘ZcW) ?_);refine z81 L Z (fun u H hH _=>ff (l:=[]) (n:=0) Z hH SetV.nil) ?_;refine z8 (ku Z Z Z bm.1 bm.2 (wrap_u64 I I)) Z (q0 (yq L 900 (GWr wb [0]) (r:=GWr wb []) Z Z Z Z Z (fun u H C hH _ hr hC=>by have h:=vk (n:=0) J J hH hr hC;rw[cy J] at h;exact h)) ?_);refine(Zaz∘ZR∘ZcW) ?_;refine z8 (xi (φ:=US [] true) L Z Z (zo Z) Z Z Z ma (fun u H hH _ _=>aa (l:=[]) J hH SetV.nil)) Z ((Zdu∘ZdA) ?_);refine xo (fun _:Nat=>[(12,.is (.int .i64 0)),(13,.is (.int .i64 0)),(3,.is (xy wb)),(900,.own (GWr wb [0]).res)]) (fun _=>True) (fun i=>i) 0 trivial ⟨Z,Z,Z,Z,nm⟩ ?_;rintro _ _;refine(Zbx∘ZaK∘ZK) ?_;refine q0 (Bw L 900 GNo (BsV [0] true) (r:=GWr wb [0]) Z Z Z Z Z ma (fun u H C hH _ hr hC=>Ed (Dd J hH hr hC))) ((ZX∘Z1) ?_);exact ye L (rs:=[.tmp 2]) Z (fun _ _ h=>h) nq (fun _ H _ _ v hv=>hv)
def Bz:∀ (n:Nat),∀ b∈uq n,b<=255:=fun n=>by
 induction n using Nat.strongRecOn with
 | ind n ih=>
  intro b hb;by_cases h:n<128
  ·rw[cy h,mz] at hb;omega
  ·rw[Fw h] at hb;rcases nw.1 hb with rfl | hb
   ·omega
   ·exact ih (n/128) I b hb
end Go.V.L11
namespace Go.V.L8
open Go.V.L2 Go.V.L3 Go.V.L6
attribute [local irreducible] V N X VO Par StepOK Has Ret RetL RetO RetT Src
end Go.V.L8
namespace Go.V.L10
open Go.V.L2 Go.V.L8 Go.V.L6
structure OO where
 wh:Nat
 ms:List C3
 cs:List C3
 rv:Nat
 kp:Int
def OO.rev(o:OO):Int:=if o.rv=255 then 18446744073709551615 else (o.rv:Int)
structure JJ(n:Nat)(S:Sto):Prop where
 last:(kpt S.R S.R.length).isSome=true
 pin:∀ r∈S.P,(kpt S.R r).isSome=true
 so:∀ r t,kpt S.R r=some t->SOK t/\t.length<=30*S.R.length
 hR:S.R.length<=n+1
 hP:S.P.length<=n
def jj_new:JJ 0 newS:=⟨rfl,fun _ h=>(by cases h),fun r t h=>by
 have hr:=ol (R:=newS.R) (r:=r) (by rw[h];rfl);have h1:newS.R.length=1:=rfl;have:r=((0+1:Nat):Int):=I;subst this;have h2:kpt newS.R ((0+1:Nat):Int)=some []:=by rw[ib];rfl
 rw[h2] at h;cases h;exact⟨⟨Sst.nil,fun _ h=>(by cases h),fun _ h=>(by cases h)⟩,mf _⟩,ns _,ns _⟩
def Y3(hm:MapOK es R){out:List Int}(hp:out.Perm (es.map Prod.fst)):(Go.Sort.sort So.lt out.toArray).toList=js R:=by
 have h1:(Go.Sort.sort So.lt out.toArray).toList=out.mergeSort (fun x y=>decide (x<=y)):=Go.Sort.sortInt out;rw[h1];have hperm:=List.mergeSort_perm out (fun x y=>decide (x<=y));have hnd:(out.mergeSort (fun x y=>decide (x<=y))).Nodup:=(hperm.trans hp).nodup_iff.2 hm.nd;have hs:(out.mergeSort (fun x y=>decide (x<=y))).Pairwise fun a b=>decide (a<=b)=true:=List.pairwise_mergeSort (le:=fun x y:Int=>decide (x<=y)) (fun a b c h1 h2=>by simp at h1 h2 |-;omega) (fun a b=>by simp;omega) out;refine dq gt ?_ (iu R) fun z=>?_
 ·refine(List.Pairwise.and hs hnd).imp ?_;rintro a b ⟨h2,h3⟩;have h4:a<=b:=by simpa using h2
  have h5:a≠b:=h3;exact Xi.2 I
 ·rw[(hperm.trans hp).mem_iff,hm.mem]
def Eb{α:Type}:∀ {l:List α} {j:Nat} {x:α},l[j]?=some x->(x::l.eraseIdx j).Perm l
 | [],_,_,h=>by cases h
 | y::l,0,x,h=>by cases h;exact List.Perm.refl _
 | y::l,j+1,x,h=>by
  have:=Eb (l:=l) (j:=j) (x:=x) (by simpa using h);exact(List.Perm.swap y x _).trans (this.cons y)
def U9{left:Ent}{p:Int×(List U×Value)}(h:left[j]?=some p)(out:List Int):(out++[p.1]++(left.eraseIdx j).map Prod.fst).Perm (out++left.map Prod.fst):=by
 have h1:(p::left.eraseIdx j).Perm left:=Eb h;rw[mj];refine List.Perm.append_left out ?_;simpa using h1.map Prod.fst
attribute [local irreducible] V N X VO Par StepOK Has Ret RetL RetO RetT kr RetX RetY Src
abbrev zin(R:List (Option (List U))):Res:=SlE Mg 1 (js R).length ((js R).map (Value.int .u64))
set_option maxRecDepth 10000 in
def om(hm:MapOK es R)(hn:R.length≠0)(hz:es.length<=100000)(hB:zpk B w)(hr:(StO b R.length m s t es).P B w C)(hC:ZCB C w B):
  RetT zpl 85 [.pointer (some ⟨b,0,none⟩)] w B C (ei (zin R) (StO b R.length m s t es).res):=by
 have hlen:=hm.len;rw[show zin R=SlE Mg 1 es.length ((js R).map (Value.int .u64)) by rw[hlen]];unfold RetT;refine yr 900 (StO b R.length m s t es) Tryz.func85 Z Tryz.ntmps85 (np Z) hB hr hC ?_;rw[ev];refine ZdX (h:=?_);refine ZbG (h:=?_);refine qz (xz L 900 (Φ:=fun H=>H b=some (.cells (stc R.length m s t).toArray tyS)) (c:=.bool false) Z Z (zo Z) Z Z Z Z Z td (fun u H hH hle hb=>none_ret hn hb hH)) ((Zl∘Zu∘ZW) ?_);refine qz (zej (q:=901) (vc:=vcE) mpS Z Z Z Z Z) (z8 (T7 L es.length Z Z Z zhz Z Z Z I (by unfold maxLen;omega)) Z ?_);refine q0 (yw (.inr Z) Z) (Zaz (h:=?_));refine zb0 3 902 rfl fun b3 rest0 _ _ hcm hcl0=>?_;refine Zce (h:=?_);refine q0 (T4 (q:=901) (vc:=vcE) mpS Z Z Z Z) (ZcD (h:=?_))
 refine xo (fun zpf:(List Int×List Value)×Ent=>[(3,.is (.slice (some ⟨b3,0,none⟩) zpf.1.1.length es.length)),(17,.own (zb2 m .u64 vcE es zpf.2)),(900,.own (xk b (stc R.length m s t) tyS)),(902,.own (xk b3 (zpf.1.1.map (Value.int .u64)++zpf.1.2) Mg))])
  (fun zpf=>(zpf.1.1++zpf.2.map Prod.fst).Perm (es.map Prod.fst)/\(zpf.1.1.map (Value.int .u64)++zpf.1.2).length=es.length*1) (fun zpf=>zpf.2.length) (([],rest0),es) ⟨List.Perm.refl _,hcl0⟩ ⟨rfl,rfl,rfl,rfl,nm⟩ ?_
 rintro⟨⟨out,rest⟩,left⟩ ⟨hp,hcl⟩;dsimp only at hp hcl |-;have hpl:=hp.length_eq;rw[nr,mn,mn] at hpl;by_cases hl:left=[]
 ·subst hl;rw[zlo,mo] at hp;have hol:out.length=es.length:=by simpa using hpl
  have hr0:rest=[]:=m6 (by rw[nr,mn] at hcl;omega);subst hr0;rw[hol];have hsk:=Y3 hm hp;refine(Ze∘ZY) ?_;refine z8 (T5 Z Z Z Z Z) Z ((Zb1∘ZeY∘ZeM) ?_);refine zii 17 901 rfl ?_;refine Za4 (h:=?_);refine q0 (yq L 902 (xa b3 ((js R).map (Value.int .u64)++[]) So.tyU) (r:=xa b3 (out.map (Value.int .u64)++[]) So.tyU) Z Z Z Z Z (fun u H C hH _ hr hC=>by have h:=So.sortU_ret (d:=out.toArray) (rest:=[]) (b:=b3) (m:=es.length) (cap:=es.length) (by simpa using hol) hz hH hr hC;unfold uC at h;rw[hsk] at h;exact h)) ?_;refine Zf (h:=?_);rw[xb,show(js R).map (Value.int .u64)++[]=(js R).map (Value.int .u64) from mo _];refine zc1 (s:=1) 3 902 rfl Z (by rw[List.length_map,hlen,Nat.mul_one]) (by unfold maxLen;omega) ?_;refine ZQ (h:=?_);refine q0 (yw (.inl Z) Z) (q0 (yw (.inr Z) Z) (Z1 (h:=?_)));refine Zdt (h:=?_);refine j9 2 900 rfl Z (xd (StO b R.length m s t es)) ?_;exact Lt Z (fun _ _ h=>h) nq Z
 ·have hll:0<left.length:=znm.2 hl;have hroom:out.length+1<=es.length:=I;have hrl:0<rest.length:=by rw[nr,mn] at hcl;omega
  have hcl2:out.length*1+1*1<=(out.map (Value.int .u64)++rest).length:=by rw[hcl];omega
  have hrr:∀ k:Int,(out.map (Value.int .u64)++rest).take (out.length*1)++([Value.int .u64 k]++(out.map (Value.int .u64)++rest).drop (out.length*1+1*1))=(out++[k]).map (Value.int .u64)++rest.drop 1:=fun k=>by
   have e1:(out.map (Value.int .u64)).length=out.length*1:=by simp
   rw[<-e1,zne,zle (ns _),zmr,zl2,mo,zmh,zlk I,mh,show(out.map (Value.int .u64)).length+1*1-(out.map (Value.int .u64)).length=1 by omega];simp
  refine(Ze∘ZY) ?_;refine Yc Z Z hl Z Z Z (fun j p hjp=>?_);refine(Zb1∘ZeX∘ZcR∘ZP) ?_;refine z8 (Ua Z Z Z) Z ((Zb1∘Zd∘Z8∘Zb∘Zap) ?_);refine q0 (M9 L (q:=902) Z Z Z Z (o6 Z) Z zhz I Z hroom hcl2 Z (hrr _)) (Zal (h:=?_));refine zf2 17 (zb2 m .u64 vcE es (left.eraseIdx j)) Z zgw ?_
  exact ym (x:=((out,rest),left)) ((out++[p.1],rest.drop 1),left.eraseIdx j) ⟨(U9 hjp out).trans hp,by
   dsimp only;rw[nr,mn,nr,zlc];rw[nr,mn] at hcl;simp only[nz,my];omega⟩ (by dsimp only;rw[List.length_eraseIdx_of_lt (get_lt hjp)];omega) ⟨by rw[List.length_append];rfl,rfl,rfl,rfl,trivial⟩
end Go.V.L10
namespace Go.V.L10
open Go.V.L2 Go.V.L8 Go.V.L6
def Oc(S:Sto):eg fun(x:Nat×Value×Ent) (H:Heap)=>MapOK x.2.2 S.R/\EsV x.2.2 H/\PsV (xg S.P) x.2.1 H:=fun _ _ _ ⟨h1,h2,h3⟩ hle=>⟨h1,h2.le hle,h3.le hle⟩
abbrev StG(b:Nat)(S:Sto):GR:=GEx (fun x:Nat×Value×Ent=>StO b S.R.length x.1 x.2.1 S.P.length x.2.2) (fun x H=>MapOK x.2.2 S.R/\EsV x.2.2 H/\PsV (xg S.P) x.2.1 H) (Oc S)
def Mn(b:Nat)(S:Sto):(StG b S).res=ExR (fun x:Nat×Value×Ent=>(StO b S.R.length x.1 x.2.1 S.P.length x.2.2).res) (fun x H=>MapOK x.2.2 S.R/\EsV x.2.2 H/\PsV (xg S.P) x.2.1 H) (Oc S):=rfl
def bj(hm:MapOK es S.R)(hes:EsV es B)(hps:PsV (xg S.P) s B):∀ (v:Value) H u C,B.Le H->(StO b S.R.length m s S.P.length es).res.P v H u C->(StG b S).res.P v H u C:=fun _ _ _ _ hle h=>⟨(m,s,es),⟨hm,hes.le hle,hps.le hle⟩,h⟩
def zce{f:FuncId}{r:GR}(h:RetY P f args w B C r (fun x _=>x=v)):RetX P f args w B C r v:=RetL.mono h fun _ _ _ _ hp=>hp
attribute [local irreducible] V N X VO Par StepOK Has Ret RetL RetO RetT kr RetX RetY Src
def Mq{P':List Int}{e:Int}(hn:S.R.length≠0)(hk:(kpt S.R r).isSome=true)(hfn:L.fn f=some ())(hf:∀ {s:Value} {u:World} {H:Heap},zpk H u->PsV (xg S.P) s H->Ret zpl f [pnv s S.P.length,.int .u64 r] u H (PinP P' e))(hB:zpk B w)
  (hr:(StG b S).P B w C) (hC:ZCB C w B):
  RetY zpl 112 [.pointer (some ⟨b,0,none⟩),.int .u64 r,.func (.func f) #[] #[]] w B C (StG b (if e=0 then ⟨S.R,P'⟩ else S)) (fun v _=>v=.int .i64 e):=by
 unfold RetY;refine yr 900 (StG b S) Tryz.func112 Z Tryz.ntmps112 (np Z) hB hr hC ?_;rw[Mn];refine vu 900 rfl fun x H hs0 hφ=>?_;obtain⟨m,s,es⟩:=x;obtain⟨hm,hes,hps⟩:=hφ;dsimp only at hm hes hps |-;obtain⟨ps,pc,rfl⟩:=jg hps;rw[ev];refine ZdX (h:=?_);have hg:=hm.get r
 obtain⟨⟨t0,sv⟩,hgk⟩:∃ x,ul r es=some x:=by
  rw[<-hg,zn8] at hk;exact zmq.1 hk
 have hsv:SetV t0 sv H:=hes _ (di hgk);obtain⟨f1,p1,f2,p2,rfl,hpl⟩:=hsv.shape;have q1:(ul r es).elim nilSet vcE=.agg #[f1,.pointer p1,f2,.pointer p2]:=by rw[hgk];rfl
 have q2:(ul r es).isSome=true:=by rw[hgk];rfl
 refine ZbG (h:=?_);refine qz (xz L 900 (Φ:=fun H=>H b=some (.cells (stc S.R.length m _ S.P.length).toArray tyS)) (c:=.bool false) rfl rfl (zo rfl) rfl rfl rfl rfl rfl td (fun u H hH hle hb=>none_ret hn hb hH)) ((Z6∘Zu∘ZW∘Za) ?_);refine qz (uo (q:=901) (vc:=vcE) r mpS kyS zrS rfl rfl rfl rfl rfl q1 q2) ((Zy∘Z7∘ZbX∘Zc∘Z2∘Zt∘Zl∘ZP∘Zb∘ZI) ?_);refine qz (kj L (q:=900) (vs:=[_,_]) rfl rfl rfl rfl ⟨_,rfl⟩) (Za (h:=?_));refine z8 (xi (φ:=PinP P' e) L rfl rfl (zo rfl) rfl (cap:=[]) rfl hfn PinP.mono (fun u H2 hH hle _=>hf hH (hps.le hle))) rfl ?_;refine v6 31 rfl fun v1 H1 hs1 hp1=>?_;obtain⟨s2,rfl,hs2⟩:=hp1;obtain⟨p5,c5,rfl⟩:=jg hs2;refine(Zbv∘Zi) ?_;by_cases he:e=0
 ·subst he;rw[na rfl];refine(Z3∘ZC∘ZE∘Za4∘Zck∘ZI) ?_;refine xf (yc L (q:=900) (cs':=stc S.R.length m (.slice p5 (xg P').length c5) P'.length) Z Z Z Z Z) ((Zf∘Zat∘Zd) ?_);refine Zdt (h:=?_);exact pg 900 (StG b ⟨S.R,P'⟩).res Z (bj (S:=⟨S.R,P'⟩) hm (hes.le hs1.le) hs2) (pw L 900 (r:=StG b ⟨S.R,P'⟩) (rs:=[.tmp 6]) Z (fun _ _ h=>h) (hs0.trans hs1) Z Z (fun H hle=>rfl))
 ·rw[nc he];refine(Z3∘Zs∘Zl∘Zat∘Zd) ?_;refine Zdt (h:=?_);exact pg 900 (StG b S).res Z (bj hm (hes.le hs1.le) (hps.le hs1.le)) (pw L 900 (r:=StG b S) (rs:=[.tmp 6]) Z (fun _ _ h=>h) (hs0.trans hs1) Z Z (fun H hle=>rfl))
def Hx{fv:Value}(hn:S.R.length≠0)(hk:¬ (kpt S.R r).isSome=true)(hB:zpk B w)
  (hr:(StG b S).P B w C) (hC:ZCB C w B):
  RetY zpl 112 [.pointer (some ⟨b,0,none⟩),.int .u64 r,fv] w B C (StG b S) (fun v _=>v=.int .i64 14):=by
 refine RetY.ex hr fun x hφ hr=>?_;obtain⟨m,s,es⟩:=x;obtain⟨hm,hes,hps⟩:=hφ;dsimp only at hm hes hps hr |-;unfold RetY;refine yr 900 (StO b S.R.length m s S.P.length es) Tryz.func112 Z Tryz.ntmps112 (np Z) hB hr hC ?_;rw[ev];refine ZdX (h:=?_);have hg:=hm.get r
 have hgk:ul r es=none:=by
  rw[<-hg,zn8] at hk
  cases h:ul r es with
  | none=>rfl
  | some y=>rw[h] at hk;exact ni rfl hk
 have q1:(ul r es).elim nilSet vcE=nilSet:=by rw[hgk];rfl
 have q2:(ul r es).isSome=false:=by rw[hgk];rfl
 refine ZbG (h:=?_);refine qz (xz L 900 (Φ:=fun H=>H b=some (.cells (stc S.R.length m _ S.P.length).toArray tyS)) (c:=.bool false) Z Z (zo Z) Z Z Z Z Z td (fun u H hH hle hb=>none_ret hn hb hH)) ((Z6∘Zu∘ZW∘Za) ?_);refine qz (uo (q:=901) (vc:=vcE) r mpS kyS zrS Z Z Z Z Z q1 q2) ((Zbv∘Zc∘Z2∘Zt∘Zr∘ZY∘Zd) ?_);refine Zdt (h:=?_);exact pw L 900 (r:=StO b S.R.length m s S.P.length es) (rs:=[.tmp 6]) Z (fun _ _ h=>h) nq Z Z (fun H hle=>rfl)
def Tb{S':Sto}{e:Int}(hn:S.R.length≠0)(hz2:(xg S.P).length<=1000)(hz:S.P.length<=4095)(hpn:zis S r false=(S',e))(hB:zpk B w)(hr:(StG b S).P B w C)(hC:ZCB C w B):
  RetY zpl 44 [.pointer (some ⟨b,0,none⟩),.int .u64 r] w B C (StG b S') (fun v _=>v=.int .i64 e):=by
 unfold zis at hpn;unfold RetY;refine yr 900 (StG b S) Tryz.func44 Z Tryz.ntmps44 (np Z) hB hr hC ?_;by_cases hk:(kpt S.R r).isSome=true
 ·rw[na hk] at hpn;rw[nc J] at hpn;cases hpn;have hr0:r≠0:=by have:=ol hk;omega
  refine(Z5∘Zb) ?_;refine q0 (y6 L 900 (StG b ⟨S.R,S.P++[r]⟩) (.int .i64 0) (r:=StG b S) Z Z Z Z Z (fun u H2 C2 hH hle hr2 hC2=>by have h:=Mq (P':=S.P++[r]) (e:=0) hn hk Z (fun hH hv=>zd7 hr0 hz2 hz hH hv) hH hr2 hC2;rw[na Z] at h;exact zce h)) ?_;refine Zd (h:=?_);exact pw L 900 (r:=StG b ⟨S.R,S.P++[r]⟩) (rs:=[.tmp 4]) Z (fun _ _ h=>h) nq Z Z (fun H hle=>rfl)
 ·rw[nc hk] at hpn;cases hpn;refine(Z5∘Zb) ?_;refine qz (Kj L 900 (.int .i64 14) (r:=StG b S) Z Z Z Z Z (fun u H2 C2 hH hle hr2 hC2=>Hx hn hk hH hr2 hC2)) (Zd (h:=?_));exact pw L 900 (r:=StG b S) (rs:=[.tmp 4]) Z (fun _ _ h=>h) nq Z Z (fun H hle=>rfl)
def dx(h:List Int)(k:Nat):Int:=if k=0 then 0 else (h[k-1]?).getD 0
def cd{h:List Int}{x:Int}(hx:h[k]?=some x):dx h (k+1)=x:=by
 unfold dx;rw[nc I,zow,hx];rfl
def zgx{a tv:Value}(h:φ tv H):TupS [φ,fun v _=>v=a] (.tuple #[tv,a]) H:=by
 refine⟨[tv,a],rfl,rfl,fun i φ' x hi hx=>?_⟩;rcases i with _ | _ | i
 ·cases hi;cases hx;exact h
 ·cases hi;cases hx;rfl
 ·cases hi
def M0{a:Value}(h:Kn.mono (.sat φ)):Kn.mono (.sat (TupS [φ,fun v _=>v=a])):=TupS.mono fun ψ hψ=>by
 simp only[nw,zmw,or_false] at hψ;rcases hψ with rfl | rfl
 ·exact h
 ·exact fun _ _ _ h _=>h
def uh:∀ v H u C,(StO b n m s t es).res.P v H u C->joinH H u C b=some (.cells (stc n m s t).toArray tyS):=by rw[ev];exact U7
abbrev ct(b:Nat):Value:=.pointer (some ⟨b,0,none⟩)
abbrev zjy(S:Sto):Res:=Da ct fun b=>StG b S
def U0{Y:Type}:MapOK ([]:List (Int×(List U×Y))) []:=⟨zmo,fun r=>by
 cases h:kpt ([]:List (Option (List U))) r with
 | none=>rfl
 | some t=>have:=ol (R:=[]) (r:=r) (by rw[h];rfl);simp at this;omega⟩
def U1:MapOK [((1:Int),(([]:List U),nilSet))] newS.R:=by
 have h:=(U0 (Y:=Value)).add [] nilSet;have h2:=h.1;rw[h.2] at h2;exact h2
def zar{Y:Type}{k:Int}{y:Y}{l:List (Int×Y)}(h:k∉l.map Prod.fst):Nf k y l=l++[(k,y)]:=by
 refine oe (i:=0) ?_;have h1:¬ (ul k l).isSome=true:=fun hs=>h (fy.1 hs);unfold ul at h1
 cases hm:dw k l 0 with
 | none=>rfl
 | some q=>rw[hm] at h1;exact ni rfl h1
def Y5(hB:zpk B w):RetO zpl 42 [] w B (zjy newS):=by
 refine vz Tryz.func42 Z Tryz.ntmps42 (np Z) hB (Z5 (h:=?_));refine z8 (Br (hint:=none) .u64 vcE Z Z) Z ?_;refine He 1 901 rfl fun m=>?_;refine ZcJ (h:=?_);refine xf (Ds (q:=901) (vc:=vcE) 1 ([],nilSet) mpS kyS Z Z Z Z Z Z Z) (Za (h:=?_));refine z8 (yl (cs:=[_,_,_,_]) Z Z zd5 Z Z) Z (Zdn (h:=?_));refine q0 (yw (.inr Z) Z) (Z1 (h:=?_));refine kq 0 900 rfl fun b=>?_;refine j9 900 901 rfl Z (xd (zi3 m .u64 vcE [((1:Int),(([]:List U),nilSet))])) ?_;refine pg 900 (StG b newS).res Z (fun v H u C hle h=>bj (S:=newS) (s:=.slice none 0 0) (m:=m) (B:=B) U1 (fun e he=>by rw[mz.1 he];exact SetV.nil) SlV.nil v H u C hle h) ?_;exact zbz 0 900 ct (fun b=>StG b newS) b Z Z (o9 Z (fun _ _ h=>h) nq Z)
end Go.V.L10
namespace Go.V.L10
open Go.V Go.V.L2 Go.V.L8 Go.V.L6
abbrev SB:=List U×(Value×Option Addr×Value×Option Addr)
abbrev sbv(b:SB):Value:=.agg #[b.2.1,.pointer b.2.2.1,b.2.2.2.1,.pointer b.2.2.2.2]
def sbc(b:SB):List Value:=[b.2.1,.pointer b.2.2.1,b.2.2.2.1,.pointer b.2.2.2.2]
def zdv(b:SB):(sbc b).length=4:=rfl
abbrev zk7(z:Int×SB):Int×(List U×Value):=(z.1,(z.2.1,sbv z.2))
def zsE(zs:List (Int×SB)):Ent:=zs.map zk7
def SbOK(bs:List SB)(H:Heap):Prop:=∀ b∈bs,SetV b.1 (sbv b) H
def SbOK.le{bs:List SB}{H H':Heap}(h:SbOK bs H)(hle:H.Le H'):SbOK bs H':=fun b hb=>(h b hb).le hle
def SbOK.mem_plain{bs:List SB}(h:SbOK bs H)(b:SB)(hb:b∈bs):(sbc b).all v9=true:=by
 obtain⟨f1,p1,f2,p2,hv,hp⟩:=(h b hb).shape;unfold sbv at hv;cases hv;exact hp
abbrev SsV(bs:List SB)(fu:Bool):Value->Heap->Prop:=SlV tySt 4 (bs.flatMap sbc) bs.length fu
def zi9{bs:List SB}{b:SB}(h:bs[i]?=some b):((bs.flatMap sbc).drop (i*4)).take 4=[b.2.1,.pointer b.2.2.1,b.2.2.2.1,.pointer b.2.2.2.2]:=cn zdv bs i b h
def Xx(rs:List Int):Prop:=(0::rs).Pairwise (·<·)
instance (rs:List Int):Decidable (Xx rs):=inferInstanceAs (Decidable ((0::rs).Pairwise (·<·)))
def zbr{rs:List Int}(h:Xx rs){x:Int}(hx:rs[i]?=some x):dx rs i<x:=by
 have h2:=mg.1 h
 cases i with
 | zero=>exact h2.1 x (zlg hx)
 | succ i=>
  obtain⟨y,hy⟩:=xw (show i<rs.length by have:=get_lt hx;omega);rw[cd hy];have h3:=zmy.1 h2.2 i (i+1) (get_lt hy) (get_lt hx) (zon i)
  rwa [f9 hy,f9 hx] at h3
def zbq{rs:List Int}{i:Nat}{x:Int}(h:Xx (rs.take i))(hle:∀ a∈0::rs.take i,a<=dx rs i)(hx:rs[i]?=some x)(hlt:dx rs i<x):Xx (rs.take (i+1))/\∀ a∈0::rs.take (i+1),a<=dx rs (i+1):=by
 rw[v8 hx,cd hx];constructor
 ·unfold Xx at h |-;rw[<-zll,zlt];refine⟨h,zmc _ _,fun a ha b hb=>?_⟩;rw[mz.1 hb];have:=hle a ha;omega
 ·intro a ha;rw[<-zll,mi,mz] at ha;rcases ha with ha | rfl
  ·have:=hle a ha;omega
  ·omega
def mkE(rs L0:List Int):Int:=if rs.length=0 then 1 else if 1024<rs.length then 3 else if Xx rs then (if ∀ h∈kz L0,h∈rs then 0 else 14) else 18
def MkR(e:Int)(S:Sto):Res where
 P v H u C:=(e=0/\∃ b,v=.tuple #[ct b,.int .i64 0]/\(StG b S).P H u C)\/(e≠0/\v=.tuple #[.pointer none,.int .i64 e]/\∀ k,¬ C k)
 st:=fun h a b c d=>h.imp (fun⟨h1,x,h2,h3⟩=>⟨h1,x,h2,(StG x S).st h3 a b c d⟩) id
def zcn{f:FuncId}(h:RetO zpl f args w B (MkR 0 S)):RetO zpl f args w B (Da (fun b=>.tuple #[ct b,.int .i64 0]) fun b=>StG b S):=
 RetL.mono h fun _ _ _ _ ⟨C,h1,h2⟩=>⟨C,h1.elim (fun⟨_,b,hb,hs⟩=>⟨b,hb,hs⟩) fun h=>ni rfl h.1,h2⟩
attribute [local irreducible] V N X VO Par StepOK Has Ret RetL RetO RetT kr RetX RetY Src
end Go.V.L10
section
open Go.V
attribute [local irreducible] Has N Par Ret RetL RetO RetT RetX RetY Src StepOK V VO X kr
namespace Go.V.L10
open Go.V.L2 Go.V.L8 Go.V.L6
def _root_.Ze9(t:Wr Y->A:=by intro h;refine qh (id:=2) [(200009,[900]),(200011,[901]),(200016,[901]),(200022,[900]),(200024,[901])] x8 T ?_;exact h.1)(h:Y):A:=t ⟨h⟩
def zk4{p:α->Bool}{l:List α}{x:α}(h:l[i]?=some x)(hx:p x=true)(hb:∀ (j:Nat) y,j<i->l[j]?=some y->p y=false):l.findIdx? p=some i:=by
 rw[List.findIdx?_eq_some_iff_getElem];have hi:i<l.length:=get_lt h;rw[zlq hi] at h;cases h;exact⟨hi,hx,fun j hj=>by simp [hb j _ hj (zlq I)]⟩
def zk3{p:α->Bool}{l:List α}(hb:∀ (j:Nat) y,l[j]?=some y->p y=false):l.findIdx? p=none:=by
 rw[List.findIdx?_eq_none_iff];intro x hx;obtain⟨j,hj⟩:=zl0 hx;exact hb j x hj
def zjn:Option Nat->Int
 | some i=>i
 | none=> -1
def za4{p:α->Bool}{l:List α}:decide (0<=zjn (l.findIdx? p))=l.any p:=by
 cases hf:l.findIdx? p with
 | none=>
  rw[List.findIdx?_eq_none_iff] at hf;have:l.any p=false:=List.any_eq_false.2 fun x hx=>by simpa using hf x hx
  rw[this];rfl
 | some i=>
  rw[List.findIdx?_eq_some_iff_getElem] at hf;obtain⟨hi,hx,_⟩:=hf;rw[zn1.2 ⟨_,List.getElem_mem hi,hx⟩];exact nf (Int.natCast_nonneg _)
def StV(a n m:Nat)(s:Value)(t:Nat)(es:Ent)(H:Heap):Prop:=H a=some (.cells (stc n m s t).toArray tyS)/\MapVis m .u64 vcE es H
def StV.le{a n m t:Nat}{s:Value}{es:Ent}{H H':Heap}(h:StV a n m s t es H)(hle:H.Le H'):StV a n m s t es H':=⟨hle _ _ h.1,h.2.le hle⟩
def zcb{u:World}{D:Nat->Prop}(h:(StO b n m s t es).res.P v H u C)(hD:∀ k,C k->D k):StV b n m s t es (joinH H u D):=by
 rw[ev] at h;obtain⟨C1,C2,⟨hb,hC1⟩,⟨⟨ar,ck,hm,he,_⟩,hC2⟩,h3,_⟩:=h;exact⟨(c9 (hD _ ((h3 _).2 (.inl ((hC1 _).2 rfl))))).trans hb,ar,ck,(c9 (hD _ ((h3 _).2 (.inr ((hC2 _).2 rfl))))).trans hm,he⟩
def zdm{b' n' m' t':Nat}{s':Value}{es':Ent}:∀ v H u C,(ei (StO b n m s t es).res (StO b' n' m' s' t' es').res).P v H u C->StV b n m s t es (joinH H u C)/\StV b' n' m' s' t' es' (joinH H u C):=
 fun _ _ _ _ ⟨_,_,h1,h2,h3,_⟩=>⟨zcb h1 fun k hk=>(h3 k).2 (.inl hk),zcb h2 fun k hk=>(h3 k).2 (.inr hk)⟩
def Ba(A B:Sto):Bool:=decide (A.R=B.R) && decide (xg A.P=xg B.P)
def zdn{A B:List (Option (List U))}(hl:A.length=B.length)(h:∀ r∈js A,kpt A r=kpt B r)(hk:js A=js B):A=B:=by
 apply List.ext_getElem?;intro i;rcases m8 i A.length with hi | hi
 ·have h1:kpt A ((i+1:Nat):Int)=kpt B ((i+1:Nat):Int):=by
   by_cases hm:((i+1:Nat):Int)∈js A
   ·exact h _ hm
   ·have hm2:((i+1:Nat):Int)∉js B:=hk ▸ hm;rw[u9] at hm hm2
    cases ha:kpt A ((i+1:Nat):Int) with
    | some x=>rw[ha] at hm;exact ni rfl hm
    | none=>
     cases hb:kpt B ((i+1:Nat):Int) with
     | some x=>rw[hb] at hm2;exact ni rfl hm2
     | none=>rfl
  rw[ib,ib,zlq hi,zlq I] at h1;rw[zlq hi,zlq I];exact nh some h1
 ·rw[zlu hi,zlu I]
def sf{a b:List Int}{f:Bool}{fa fb:Bool}(hf:decide (a=b)=f)(ha:a.length<=100000){v1:Value}(hB:zpk B w)(h1:RsV a fa v1 B)(h2:RsV b fb v2 B):
  Ret zpl 114 [v1,v2] w B (fun v _=>v=.bool f):=by
 subst hf;refine yf Tryz.func114 Z Tryz.ntmps114 (np Z) hB (ju 0 (RsV a fa) Z ma h1 (ju 1 (RsV b fb) Z ma h2 ?_));by_cases hl:a.length=b.length
 ·refine(ZL∘Zaa∘Zo∘Zo∘ZG∘Z6∘ZR∘Zcb) ?_;refine xo (fun i:Nat=>[(0,.sat (RsV a fa)),(1,.sat (RsV b fb)),(12,.is (.int .i64 a.length)),(13,.is (.int .i64 i))]) (fun i=>i<=a.length/\a.take i=b.take i) (fun i=>a.length-i) 0 ⟨mf _,rfl⟩ ⟨Z,Z,Z,Z,nm⟩ ?_;rintro i ⟨hi,ht⟩;by_cases hlt:i<a.length
  ·obtain⟨x,hx⟩:=xw hlt;obtain⟨y,hy⟩:=xw (show i<b.length by omega);have hc1:=Qr hx;have hc2:=Qr hy;have hwk:IntKind.i64.wrap ((i:Int)+1)=((i+1:Nat):Int):=yz I I;by_cases hxy:x=y
   ·refine(Zbx∘Zx∘Zar∘Zc∘Zd1∘Zak∘Zj∘ZbS∘ZcT∘Zak∘Zj∘ZbS∘ZcT∘Zei∘ZaY∘ZcY∘ZaB∘ZK∘Zv∘Zct) ?_;exact ym (x:=i) (i+1) ⟨hlt,by rw[v8 hx,v8 hy,ht,hxy]⟩ I ⟨Z,Z,Z,Z,nm⟩
   ·rw[ng (zib hx hy hxy)];refine(Zbx∘Zx∘Zar∘Zc∘Zd1∘Zak∘Zj∘ZbS∘ZcT∘Zak∘Zj∘ZbS∘ZcT) ?_;refine zh (yg Z Z Z Z (nf I)) Z ((Zc4∘Ze∘Z8∘Zd) ?_);exact ye2 L [.tmp 4]
  ·obtain rfl:i=a.length:=by omega
   have hab:a=b:=by rw[zlm,hl,zlm] at ht;exact ht
   rw[nf hab];refine(Zbx∘ZaK∘ZQ∘Zd) ?_;exact ye2 L [.tmp 4]
 ·rw[ng (zcp hl)];refine(ZL∘Zaa∘Zo∘Zo∘Zao∘ZM∘Zd) ?_;exact ye2 L [.tmp 4]
def O8{l:List Int}(hfn:L.fn f=some ())(hlm:l.length<=100000)(hf:∀ r∈l,∀ (u:World) (H:Heap),B.Le H->zpk H u->Ret zpl f ([.int .u64 r]++cap) u H (fun x _=>x=.bool (p r)))(hv:RsV l fu v B)(hB:zpk B w):
  Ret zpl 182 [v,.func (.func f) #[] cap.toArray] w B (fun r _=>r=.int .i64 (zjn (l.findIdx? p))):=by
 refine yf Tryz.func182 Z Tryz.ntmps182 (np Z) hB (ju 0 (RsV l fu) Z ma hv ((ZL∘Zaa∘Zcb) ?_));refine xo (fun i:Nat=>[(0,.sat (RsV l fu)),(1,.is (.func (.func f) #[] cap.toArray)),(7,.is (.int .i64 l.length)),(8,.is (.int .i64 i))]) (fun i=>i<=l.length/\∀ (j:Nat) y,j<i->l[j]?=some y->p y=false) (fun i=>l.length-i) 0 ⟨mf _,fun j _ h=>ni h (Nat.not_lt_zero _)⟩ ⟨Z,Z,Z,Z,nm⟩ ?_;rintro i ⟨h1,h2⟩;by_cases hlt:i<l.length
 ·obtain⟨x,hx⟩:=xw hlt;have hc:=Qr hx;have hmx:=zlg hx;have hwk:IntKind.i64.wrap ((i:Int)+1)=((i+1:Nat):Int):=yz I I
  cases hb:p x with
  | true=>
   rw[zk4 hx hb h2];refine(Ze∘ZM∘Zx∘Zu∘Zc∘Z2∘Zk∘Za∘Zab∘ZcN) ?_;refine z8 (zy (cap:=cap) L Z Z (zo Z) Z Z hfn (fun u H hH hle _=>hb ▸ hf x hmx u H hle hH)) Z ((Zr∘Zar∘Zd) ?_);exact ye2 L [.tmp 4]
  | false=>
   refine(Ze∘ZM∘Zx∘Zu∘Zc∘Z2∘Zk∘Za∘Zab∘ZcN) ?_;refine z8 (zy (cap:=cap) L Z Z (zo Z) Z Z hfn (fun u H hH hle _=>hb ▸ hf x hmx u H hle hH)) Z ((Zca∘ZP∘Zv∘Zct) ?_)
   exact ym (x:=i) (i+1) ⟨hlt,fun j y hj hy=>by
    rcases m8 j i with h | h
    ·exact h2 j y h hy
    ·have:j=i:=I;subst this;rw[hx] at hy;cases hy;exact hb⟩ I ⟨rfl,rfl,rfl,rfl,nm⟩
 ·rw[zk3 (fun j y hy=>h2 j y (by have:=get_lt hy;omega) hy)];refine(Ze∘ZM∘ZaK∘Z8∘Zd) ?_;exact ye2 L [.tmp 4]
def V6{l:List Int}{b:Bool}(hb:l.any p=b)(hfn:L.fn f=some ())(hlm:l.length<=100000)(hf:∀ r∈l,∀ (u:World) (H:Heap),B.Le H->zpk H u->Ret zpl f ([.int .u64 r]++cap) u H (fun x _=>x=.bool (p r)))(hv:RsV l fu v B)(hB:zpk B w):
  Ret zpl 116 [v,.func (.func f) #[] cap.toArray] w B (fun r _=>r=.bool b):=by
 rw[<-za4] at hb;generalize hJ:zjn (l.findIdx? p)=zpg at *;subst hb;refine yf Tryz.func116 Z Tryz.ntmps116 (np Z) hB ?_;by_cases h0:0<=zpg
 ·rw[nf h0];refine(Z5∘Zb) ?_;refine z81 L Z (fun u H hH hle=>hJ ▸ O8 hfn hlm (fun r hr u2 H2 hle2 hH2=>hf r hr u2 H2 (hle.trans hle2) hH2) (hv.le hle) hH) ?_;refine(Zb8∘Zd) ?_;exact ye2 L [.tmp 4]
 ·rw[ng h0];refine(Z5∘Zb) ?_;refine z81 L Z (fun u H hH hle=>hJ ▸ O8 hfn hlm (fun r hr u2 H2 hle2 hH2=>hf r hr u2 H2 (hle.trans hle2) hH2) (hv.le hle) hH) ?_;refine(Za1∘Zd) ?_;exact ye2 L [.tmp 4]
abbrev tyPS:TypeId:=71
def Ql{n1 n2 m1 m2 t1 t2 c1 c2:Nat}{s1 s2:Value}{ea eb:Ent}{la lb:List U}{va vb:Value}(ga:ul r ea=some (la,va))(gb:ul r eb=some (lb,vb))(hla:la.length<=100000)(hlb:lb.length<=100000)(hB:zpk B w)
  (h1:B c1=some (.cells #[ct a] tyPS)) (h2:B c2=some (.cells #[ct b] tyPS)) (ha:StV a n1 m1 s1 t1 ea B) (hb:StV b n2 m2 s2 t2 eb B) (hsa:SetV la va B) (hsb:SetV lb vb B):
  Ret zpl 117 [.int .u64 r,ct c1,ct c2] w B (fun v _=>v=.bool (!decide (la=lb))):=by
 obtain⟨f1,p1,k1,x1,rfl,hp1⟩:=hsa.shape;obtain⟨f2,p2,k2,x2,rfl,hp2⟩:=hsb.shape;have hla1:=ha.1;have hlb1:=hb.1;have q1:(ul r ea).elim nilSet vcE=.agg #[f1,.pointer p1,k1,.pointer x1]:=nh (fun o=>Option.elim o nilSet vcE) ga;have q2:(ul r eb).elim nilSet vcE=.agg #[f2,.pointer p2,k2,.pointer x2]:=nh (fun o=>Option.elim o nilSet vcE) gb;refine yf Tryz.func117 Z Tryz.ntmps117 (np Z) hB ((ZL∘Zc∘Zcu∘Zw∘ZbM∘Zw∘Zj) ?_);refine zh (Bs r mpS kyS zrS ha.2 Z Z Z Z q1) Z ((Zw∘ZbM∘Zw∘Zj) ?_);refine zh (Bs r mpS kyS zrS hb.2 Z Z Z Z q2) Z (zh1 L Z (fun u H hH hle=>S9 hla hlb Z hH (hsa.le hle) (hsb.le hle)) ?_);refine(ZaA∘Za3) ?_;exact ye2 L [.tmp 4]
def Qk{A D:Sto}(hna:A.R.length≠0)(hnb:D.R.length≠0)(ka:(js A.R).length<=100000)(kb:(js D.R).length<=100000)(za:A.P.length<=100000)(zb:D.P.length<=100000)(ta:∀ r t,kpt A.R r=some t->t.length<=100000)(tb:∀ r t,kpt D.R r=some t->t.length<=100000)
     (hB:zpk B w) (hr:(uw (StG a A) (StG b D)).P B w C) (hC:ZCB C w B):
  RetY zpl 45 [ct a,ct b] w B C (uw (StG a A) (StG b D)) (fun v _=>v=.bool (Ba A D)):=by
 unfold RetY;refine yr 900 (uw (StG a A) (StG b D)) Tryz.func45 Z Tryz.ntmps45 (np Z) hB hr hC ?_;rw[w5];refine ZdX (h:=?_);rw[Mn,Mn];refine vu 900 rfl fun x H hs0 hφ=>?_;refine vu 901 rfl fun y H' hs1 hφ'=>?_;obtain⟨m1,s1,e1⟩:=x;obtain⟨hm1,he1,hp1⟩:=hφ;obtain⟨m2,s2,e2⟩:=y;obtain⟨hm2,he2,hp2⟩:=hφ';dsimp only at hm1 he1 hp1 hm2 he2 hp2 |-;have hs01:=hs0.trans hs1;replace he1:=he1.le hs1.le;replace hp1:=hp1.le hs1.le;obtain⟨q1,c1,rfl⟩:=jg hp1;obtain⟨q2,c2,rfl⟩:=jg hp2;have hl1:=hm1.len;have hl2:=hm2.len;refine ZA (h:=?_);refine v6 2 rfl fun v1 H1 hs2 hv1=>?_;obtain⟨d1,rfl,hd1⟩:=hv1;refine ZcE (h:=?_);refine v6 3 rfl fun v2 H2 hs3 hv2=>?_;obtain⟨d2,rfl,hd2⟩:=hv2;refine Zc (h:=?_);replace hd1:=hs3.le _ _ hd1;have hs23:=hs2.trans hs3;replace he1:=he1.le hs23.le;replace hp1:=hp1.le hs23.le;replace he2:=he2.le hs23.le;replace hp2:=hp2.le hs23.le;have hsf:=hs01.trans hs23;refine(Z4∘ZaO) ?_;refine qz (u4 L 900 (RsV (js A.R) true) (r:=StO a A.R.length m1 (.slice q1 (xg A.P).length c1) A.P.length e1) Z Z Z Z Z ma (fun u H2 C2 hH hle hr2 hC2=>(om hm1 hna I hH hr2 hC2).pubY a8)) ((ZX∘Zaz) ?_);by_cases hN:A.R.length=D.R.length
 ·by_cases hK:js A.R=js D.R
  ·by_cases hP:xg A.P=xg D.P
   ·have hS:Ba A D=decide (A.R=D.R):=by unfold Ba;rw[decide_eq_true hP,Bool.and_true]
    have hany:(js A.R).any (fun r=>!decide (kpt A.R r=kpt D.R r))=!decide (A.R=D.R):=by
     by_cases h:A.R=D.R
     ·rw[nf h,h];simp
     ·rw[ng h]
      cases hh:(js A.R).any (fun r=>!decide (kpt A.R r=kpt D.R r)) with
      | true=>rfl
      | false=>exact ni (zdn hN (fun r hr=>by have:=List.any_eq_false.1 hh r hr;simpa using this) hK) h
    have hent1:∀ r∈js A.R,∃ t v,kpt A.R r=some t/\ul r e1=some (t,v)/\SetV t v _:=fun r hr=>by
     have h1:=u9.1 hr;rw[<-hm1.get r,zn8] at h1;obtain⟨⟨t,v⟩,h2⟩:=zmq.1 h1;exact⟨t,v,by rw[<-hm1.get r,h2];rfl,h2,he1 _ (di h2)⟩
    have hent2:∀ r∈js A.R,∃ t v,kpt D.R r=some t/\ul r e2=some (t,v)/\SetV t v _:=fun r hr=>by
     have h1:=u9.1 (hK ▸ hr);rw[<-hm2.get r,zn8] at h1;obtain⟨⟨t,v⟩,h2⟩:=zmq.1 h1;exact⟨t,v,by rw[<-hm2.get r,h2];rfl,h2,he2 _ (di h2)⟩
    refine(Ze9∘Zw) ?_;refine qq (xz L 900 (Φ:=fun H=>H a=some (.cells (stc A.R.length m1 (.slice q1 (xg A.P).length c1) A.P.length).toArray tyS)) (c:=.int .u64 A.R.length) Z Z (zo Z) Z Z Z Z Z uh (fun u H hH hle hb=>ut hna hb hH)) Z Z (Zw (h:=?_));refine qq (xz L 901 (Φ:=fun H=>H b=some (.cells (stc D.R.length m2 (.slice q2 (xg D.P).length c2) D.P.length).toArray tyS)) (c:=.int .u64 D.R.length) Z Z (zo Z) Z Z Z Z Z uh (fun u H hH hle hb=>ut hnb hb hH)) Z Z ((Zei∘Zj∘Zak∘Zw) ?_);refine qq (u4 L 901 (RsV (js D.R) true) (r:=StO b D.R.length m2 (.slice q2 (xg D.P).length c2) D.P.length e2) Z Z Z Z Z ma (fun u H2 C2 hH hle hr2 hC2=>(om hm2 hnb I hH hr2 hC2).pubY a8)) Z Z (zh (zy L Z Z (zo Z) Z Z Z (fun u H hH _ _ v1 h1 v2 h2=>sf (nf hK) ka hH h1 h2)) Z ((ZaA∘ZbU∘Zj∘Zw) ?_));refine qq (xz L 900 (Φ:=fun H=>H a=some (.cells (stc A.R.length m1 (.slice q1 (xg A.P).length c1) A.P.length).toArray tyS)) (c:=pnv (.slice q1 (xg A.P).length c1) A.P.length) Z Z (zo Z) Z Z Z Z Z uh (fun u H hH hle hb=>pins_ret ⟨_,_,_,rfl⟩ hna hb hH)) Z Z (Zw (h:=?_));refine qq (xz L 901 (Φ:=fun H=>H b=some (.cells (stc D.R.length m2 (.slice q2 (xg D.P).length c2) D.P.length).toArray tyS)) (c:=pnv (.slice q2 (xg D.P).length c2) D.P.length) Z Z (zo Z) Z Z Z Z Z uh (fun u H hH hle hb=>pins_ret ⟨_,_,_,rfl⟩ hnb hb hH)) Z Z (zh1 L Z (fun u H hH hle=>Kc (nf hP) za zb hH (hp1.le hle) (hp2.le hle)) ?_);refine(ZaA∘Za5∘Zae) ?_;refine j9 900 901 rfl Z (xd (StO b D.R.length m2 (.slice q2 (xg D.P).length c2) D.P.length e2)) ?_
    have hcl:∀ (u:World) (H3:Heap),zpk H3 u->H2.Le H3->(StV a A.R.length m1 (.slice q1 (xg A.P).length c1) A.P.length e1 H3/\StV b D.R.length m2 (.slice q2 (xg D.P).length c2) D.P.length e2 H3)->∀ v1,RsV (js A.R) true v1 H3->Ret zpl 116 [v1,.func (.func 117) #[] #[ct d1,ct d2]] u H3 (fun r _=>r=.bool (!decide (A.R=D.R))):=fun u H3 hH hle hb v1 h1=>V6 (cap:=[ct d1,ct d2]) (p:=fun r=>!decide (kpt A.R r=kpt D.R r)) hany rfl ka (fun r hr u2 H4 hle2 hH2=>by
     obtain⟨x1,w1,g1,g2,g3⟩:=hent1 r hr;obtain⟨x2,w2,g4,g5,g6⟩:=hent2 r hr;have hle3:=hle.trans hle2;have h:=Ql g2 g5 (ta _ _ g1) (tb _ _ g4) hH2 (hle3 _ _ hd1) (hle3 _ _ hd2) (hb.1.le hle2) (hb.2.le hle2) (g3.le hle3) (g6.le hle3);rw[g1,g4,show decide (some x1=some x2)=decide (x1=x2) by simp];exact h) h1 hH
    refine(Z9∘Zk∘Za8) ?_;refine qz (xz L 900 (Φ:=fun H=>StV a A.R.length m1 (.slice q1 (xg A.P).length c1) A.P.length e1 H/\StV b D.R.length m2 (.slice q2 (xg D.P).length c2) D.P.length e2 H) (c:=.bool (!decide (A.R=D.R))) Z Z (zo Z) Z Z Z Z Z zdm (fun u H hH hle hb v1 h1=>hcl u H hH hle hb v1 h1)) ((Zt∘Zd) ?_);refine vt 900 901 rfl (xd (StO b D.R.length m2 (.slice q2 (xg D.P).length c2) D.P.length e2)) ?_;refine pg 900 (StG a A).res Z (bj hm1 he1 hp1) (pg 901 (StG b D).res Z (bj hm2 he2 hp2) (j9 900 901 rfl Z (xd (StG b D)) ?_));exact pw L 900 (r:=uw (StG a A) (StG b D)) (rs:=[.tmp 4]) Z (fun _ _ h=>h) hsf Z Z (fun H hle=>by rw[hS];generalize decide (A.R=D.R)=q;cases q<;>rfl)
   ·have hS:Ba A D=false:=by unfold Ba;rw[decide_eq_false hP,Bool.and_false]
    refine(Ze9∘Zw) ?_;refine qq (xz L 900 (Φ:=fun H=>H a=some (.cells (stc A.R.length m1 (.slice q1 (xg A.P).length c1) A.P.length).toArray tyS)) (c:=.int .u64 A.R.length) Z Z (zo Z) Z Z Z Z Z uh (fun u H hH hle hb=>ut hna hb hH)) Z Z (Zw (h:=?_));refine qq (xz L 901 (Φ:=fun H=>H b=some (.cells (stc D.R.length m2 (.slice q2 (xg D.P).length c2) D.P.length).toArray tyS)) (c:=.int .u64 D.R.length) Z Z (zo Z) Z Z Z Z Z uh (fun u H hH hle hb=>ut hnb hb hH)) Z Z ((Zei∘Zj∘Zak∘Zw) ?_);refine qq (u4 L 901 (RsV (js D.R) true) (r:=StO b D.R.length m2 (.slice q2 (xg D.P).length c2) D.P.length e2) Z Z Z Z Z ma (fun u H2 C2 hH hle hr2 hC2=>(om hm2 hnb I hH hr2 hC2).pubY a8)) Z Z (zh (zy L Z Z (zo Z) Z Z Z (fun u H hH _ _ v1 h1 v2 h2=>sf (nf hK) ka hH h1 h2)) Z ((ZaA∘ZbU∘Zj∘Zw) ?_));refine qq (xz L 900 (Φ:=fun H=>H a=some (.cells (stc A.R.length m1 (.slice q1 (xg A.P).length c1) A.P.length).toArray tyS)) (c:=pnv (.slice q1 (xg A.P).length c1) A.P.length) Z Z (zo Z) Z Z Z Z Z uh (fun u H hH hle hb=>pins_ret ⟨_,_,_,rfl⟩ hna hb hH)) Z Z (Zw (h:=?_));refine qq (xz L 901 (Φ:=fun H=>H b=some (.cells (stc D.R.length m2 (.slice q2 (xg D.P).length c2) D.P.length).toArray tyS)) (c:=pnv (.slice q2 (xg D.P).length c2) D.P.length) Z Z (zo Z) Z Z Z Z Z uh (fun u H hH hle hb=>pins_ret ⟨_,_,_,rfl⟩ hnb hb hH)) Z Z (zh1 L Z (fun u H hH hle=>Kc (ng hP) za zb hH (hp1.le hle) (hp2.le hle)) ?_);refine(ZaA∘Zci∘Zcc∘Zd) ?_;refine pg 900 (StG a A).res Z (bj hm1 he1 hp1) (pg 901 (StG b D).res Z (bj hm2 he2 hp2) (j9 900 901 rfl Z (xd (StG b D)) ?_));exact pw L 900 (r:=uw (StG a A) (StG b D)) (rs:=[.tmp 4]) Z (fun _ _ h=>h) hsf Z Z (fun H hle=>by rw[hS];rfl)
  ·have hS:Ba A D=false:=by unfold Ba;rw[decide_eq_false (fun h=>hK (by rw[h])),Bool.false_and]
   refine(Ze9∘Zw) ?_;refine qq (xz L 900 (Φ:=fun H=>H a=some (.cells (stc A.R.length m1 (.slice q1 (xg A.P).length c1) A.P.length).toArray tyS)) (c:=.int .u64 A.R.length) Z Z (zo Z) Z Z Z Z Z uh (fun u H hH hle hb=>ut hna hb hH)) Z Z (Zw (h:=?_));refine qq (xz L 901 (Φ:=fun H=>H b=some (.cells (stc D.R.length m2 (.slice q2 (xg D.P).length c2) D.P.length).toArray tyS)) (c:=.int .u64 D.R.length) Z Z (zo Z) Z Z Z Z Z uh (fun u H hH hle hb=>ut hnb hb hH)) Z Z ((Zei∘Zj∘Zak∘Zw) ?_);refine qq (u4 L 901 (RsV (js D.R) true) (r:=StO b D.R.length m2 (.slice q2 (xg D.P).length c2) D.P.length e2) Z Z Z Z Z ma (fun u H2 C2 hH hle hr2 hC2=>(om hm2 hnb I hH hr2 hC2).pubY a8)) Z Z (zh (zy L Z Z (zo Z) Z Z Z (fun u H hH _ _ v1 h1 v2 h2=>sf (ng hK) ka hH h1 h2)) Z ((ZaA∘ZbU∘ZdT∘Zb3∘Zci∘Zcc∘Zd) ?_));refine pg 900 (StG a A).res Z (bj hm1 he1 hp1) (pg 901 (StG b D).res Z (bj hm2 he2 hp2) (j9 900 901 rfl Z (xd (StG b D)) ?_));exact pw L 900 (r:=uw (StG a A) (StG b D)) (rs:=[.tmp 4]) Z (fun _ _ h=>h) hsf Z Z (fun H hle=>by rw[hS];rfl)
 ·have hS:Ba A D=false:=by unfold Ba;rw[decide_eq_false (fun h=>hN (by rw[h])),Bool.false_and]
  refine(Ze9∘Zw) ?_;refine qq (xz L 900 (Φ:=fun H=>H a=some (.cells (stc A.R.length m1 (.slice q1 (xg A.P).length c1) A.P.length).toArray tyS)) (c:=.int .u64 A.R.length) Z Z (zo Z) Z Z Z Z Z uh (fun u H hH hle hb=>ut hna hb hH)) Z Z (Zw (h:=?_));refine qq (xz L 901 (Φ:=fun H=>H b=some (.cells (stc D.R.length m2 (.slice q2 (xg D.P).length c2) D.P.length).toArray tyS)) (c:=.int .u64 D.R.length) Z Z (zo Z) Z Z Z Z Z uh (fun u H hH hle hb=>ut hnb hb hH)) Z Z (zh (yg Z Z Z Z (nf I)) Z ((ZdT∘Zch∘ZbU∘ZdT∘Zb3∘Zci∘Zcc∘Zd) ?_));refine pg 900 (StG a A).res Z (bj hm1 he1 hp1) (pg 901 (StG b D).res Z (bj hm2 he2 hp2) (j9 900 901 rfl Z (xd (StG b D)) ?_));exact pw L 900 (r:=uw (StG a A) (StG b D)) (rs:=[.tmp 4]) Z (fun _ _ h=>h) hsf Z Z (fun H hle=>by rw[hS];rfl)
def tup3{a b v:Value}(h:φ v H):TupS [φ,fun v _=>v=a,fun v _=>v=b] (.tuple #[v,a,b]) H:=by
 refine⟨[v,a,b],rfl,rfl,fun i ψ x hi hx=>?_⟩;rcases i with _ | _ | _ | i
 ·cases hi;cases hx;exact h
 ·cases hi;cases hx;rfl
 ·cases hi;cases hx;rfl
 ·cases hi
structure OOK(o:OO):Prop where
 wh:o.wh<=255
 rv:o.rv<=255
 ms:∀ c∈o.ms,c.1<=255/\c.2.1<=255/\c.2.2<=255
 cs:∀ c∈o.cs,c.1<=255/\c.2.1<=255/\c.2.2<=255
 lm:o.ms.length<=9223372036854775807
 lc:o.cs.length<=9223372036854775807
def rev_ret{o:OO}(ho:OOK o){mv cv:Value}(hp1:v9 mv=true)(hp2:v9 cv=true)(hB:zpk B w):
  Ret zpl 185 [.agg #[.int .u8 o.wh,mv,cv,.int .u8 o.rv,.int .i64 o.kp]] w B (fun v _=>v=.int .u64 o.rev):=by
 have hrv:=ho.rv;unfold OO.rev;refine yf Tryz.func185 Z Tryz.ntmps185 (np Z) hB ?_;by_cases h:o.rv=255
 ·rw[na h];refine(ZA∘Zaa∘Zac∘ZC∘ZbH∘Zd) ?_;exact ye2 L [.tmp 2]
 ·rw[nc h];have hwu:IntKind.u64.wrap (o.rv:Int)=(o.rv:Int):=wrap_u64 I I;refine(ZA∘Zaa∘Zac∘Zs∘Zl∘ZR∘Zac) ?_;refine z8 (ku Z Z Z bl.1 bl.2 (wrap_u64 I I)) Z (Zd (h:=?_));exact ye2 L [.tmp 2]
end Go.V.L10
end
namespace Go.V.L10
open Go.V.L2 Go.V.L8 Go.V.L6
def zdx(hn:S.R.length≠0)(hB:zpk B w)(hr:(StG b S).P B w C)(hC:ZCB C w B):
  RetY zpl 87 [ct b,.int .u64 r] w B C (StG b S) (WithP (atS S r).1 (atS S r).2):=
 RetY.ex hr fun _ ⟨hm,hes,_⟩ hr=>S4 hm hn hes hB hr hC
def Tf(hn:S.R.length≠0)(hz:(js S.R).length<=100000)(hB:zpk B w)(hr:(StG b S).P B w C)(hC:ZCB C w B):
  RetY zpl 85 [ct b] w B C (StG b S) (RsV (js S.R) true):=
 RetY.ex hr fun _ ⟨hm,_,_⟩ hr=>(om hm hn (by rw[hm.len];exact hz) hB hr hC).pubY a8
abbrev PinsP(P0:List Int):Value->Heap->Prop:=fun v H=>∃ s,v=pnv s P0.length/\PsV (xg P0) s H
def PinsP.mono{P0:List Int}:Kn.mono (.sat (PinsP P0)):=fun _ _ _ ⟨s,h1,h2⟩ hle=>⟨s,h1,h2.le hle⟩
attribute [local irreducible] V N X VO Par StepOK Has Ret RetL RetO RetT kr RetX RetY Src
def Ta(hn:S.R.length≠0)(hB:zpk B w)(hr:(StG b S).P B w C)(hC:ZCB C w B):
  RetY zpl 43 [ct b] w B C (StG b S) (PinsP S.P):=by
 refine RetY.ex hr fun x hφ hr=>?_;obtain⟨m,s,es⟩:=x;obtain⟨hm,hes,hps⟩:=hφ;dsimp only at hm hes hps hr |-;obtain⟨p,c,rfl⟩:=jg hps;unfold RetY;refine yr 900 (StO b S.R.length m _ S.P.length es) Tryz.func43 Z Tryz.ntmps43 (np Z) hB hr hC ?_;rw[ev];refine ZdX (h:=?_);refine(Zaj∘Zaz∘Zbf) ?_;refine qz (xz L 900 (Φ:=fun H=>H b=some (.cells (stc S.R.length m (.slice p (xg S.P).length c) S.P.length).toArray tyS)) (c:=.bool false) Z Z (zo Z) Z Z Z Z Z td (fun u H hH hle hb=>none_ret hn hb hH)) ((Zl∘Zu∘ZI) ?_);refine qz (kj L (q:=900) (vs:=[_,_]) Z Z Z Z ⟨_,rfl⟩) (Zau (h:=?_));refine Zdt (h:=?_);exact pw L 900 (r:=StO b S.R.length m (.slice p (xg S.P).length c) S.P.length es) (rs:=[.cell 2 112]) Z (fun _ _ h=>h) nq Z Z (fun H hle=>⟨_,qs Z,rfl,_,rfl,hps.le hle⟩)
abbrev s1:Sto:=⟨[some [],some [d0]],[]⟩
abbrev s2:Sto:=⟨[some [],some [d0],some [d2]],[]⟩
abbrev s3:Sto:=⟨[some [],some [d0],some [d2]],[2]⟩
end Go.V.L10
namespace Go.V.L10
open Go.V Go.V.L2 Go.V.L8 Go.V.L6
attribute [local irreducible] V N X VO Par StepOK Has Ret RetL RetO RetT kr RetX RetY Src
end Go.V.L10
namespace Go.V.L8
open Go.V Go.V.L2 Go.V.L3 Go.V.L6
attribute [local irreducible] V N X VO Par StepOK Has Ret RetL RetO RetT kr Src
end Go.V.L8
namespace Go.V.L11
open Go.V.L2 Go.V.L4 Go.V.L6 Go.V.L8 Go.V.L10
abbrev WithE(l:List U)(e:Int):Value->Heap->Prop:=TupS [SetV l,fun v _=>v=.int .i64 e]
def WithE.mono{l:List U}{e:Int}:Kn.mono (.sat (WithE l e)):=M0 SetV.mono
def G9{l:List U}{e:Int}(h:WithP l e v H):WithE l e v H:=by
 obtain⟨tv,rfl,h2⟩:=h;exact zgx h2
def zfv{t:List U}{e:Int}(he:atS S r=(t,e))(hn:S.R.length≠0)(hB:zpk B w)(hr:(StG b S).P B w C)(hC:ZCB C w B):
  RetY zpl 87 [ct b,.int .u64 r] w B C (StG b S) (WithE t e):=by
 have h:=zdx (r:=r) hn hB hr hC;rw[he] at h;exact RetY.mono h fun _ _ _=>G9
attribute [local irreducible] V N X VO Par XP LV StepOK Has Ret RetL RetO RetT kr RetX RetY Pan bp Src
end Go.V.L11
namespace Go.V.L11
open Go.V.L2 Go.V.L3 Go.V.L4 Go.V.L6 Go.V.L8 Go.V.L10
def _root_.Zfj(t:Wr Y->A:=by intro h;refine z8 (zz L (vs:=[_,_,_,_,_,_]) (qk Z E) Z Z Z Z ⟨_,rfl⟩) Z ?_;exact h.1)(h:Y):A:=t ⟨h⟩
def _root_.Zd6(t:Wr Y->A:=by intro h;refine z8 (zz L (vs:=[_,_,_,_,_,_,_]) (qk Z E) Z Z Z Z ⟨_,rfl⟩) Z ?_;exact h.1)(h:Y):A:=t ⟨h⟩
def _root_.Zd7(t:Wr Y->A:=by intro h;refine qh (id:=11) [(56,[900])] x8 T ?_;exact h.1)(h:Y):A:=t ⟨h⟩
def _root_.Zbb(t:Wr Y->A:=by exact fun h=>(ZaN∘Zfj) h.1)(h:Y):A:=t ⟨h⟩
def zcc{bs:List Nat}{fr:Int}{R:Rd}(hb:∀ b∈bs,b<=255)(hl:bs.length<=1099511627776)(hat:R.at_<=bs.length)(hB:zpk B w)(hs:BsV bs fu sv B)(hr:(xr sb rb sv fr R).P B w C)(hC:ZCB C w B):
  RetX zpl 147 [xy rb] w B C (xr sb rb sv fr (li bs R).2) (chv (li bs R).1.1 (li bs R).1.2):=
 RetL.mono (RetY.conv (RetY.frame (Gi hr) hC fun C1 h1 hC1=>(L4.chg_ret hb hl hat hB hs h1 hC1).toY) fun _ _ _ h=>Gi h:RetY _ _ _ _ _ _ (xr sb rb sv fr (li bs R).2) fun x _=>x=chv (li bs R).1.1 (li bs R).1.2) fun _ _ _ _ h=>h
def zhq:Option U->List Value
 | none=>[.string sZ,.string sZ,.string sZ,.string sZ,.string sZ,.string sZ]
 | some t=>[.string t.1.1.1,.string t.1.1.2,.string t.1.2,.string t.2.1.1,.string t.2.1.2,.string t.2.2]
structure ChJ(bs:List Nat)(l:List U)(n:Nat)(Y:((List CH×List CH)×Rd)×(Int×Int))(i:Nat)(la:Option U)(a d:List CH)(R:Rd):Prop where
 hi:i<=n
 hW:Ee bs l (n-i) la a d R=Y
 h0:R.err=0
 at_:R.at_<=bs.length
 first:la=none↔i=0
 len:a.length+d.length=i
 za:∀ c∈a,TZ c.1
 zd:∀ c∈d,TZ c.1
def ChJ.step{l:List U}{Y:((List CH×List CH)×Rd)×(Int×Int)}{la:Option U}{a d:List CH}{R:Rd}(h:ChJ bs l n Y i la a d R)(hi:i<n)(hY:Y.2.2=0):
  (li bs R).2.err=0/\tE (li bs R).1.1=0/\X4 la (li bs R).1.1=true/\decide ((li bs R).1.1∈l)=(li bs R).1.2/\
  ChJ bs l n Y (i+1) (some (li bs R).1.1) (if (li bs R).1.2=true then a else a++[(li bs R).1]) (if (li bs R).1.2=true then d++[(li bs R).1] else d) (li bs R).2:=by
 obtain⟨m,hm⟩:∃ m,n-i=m+1:=⟨n-i-1,by omega⟩
 have hW:=h.hW;rw[hm] at hW;unfold Ee at hW;have htz:=Nm (bs:=bs) (R:=R);have hta:=Nn (bs:=bs) (R:=R) h.at_;generalize li bs R=zpf at hW htz hta |-;obtain⟨⟨t,k⟩,R2⟩:=zpf;dsimp only at hW htz hta |-;by_cases h2:R2.err≠0
 ·rw[na h2] at hW;subst hW;exact ni hY h2
 ·rw[nc h2] at hW;by_cases he:tE t≠0
  ·rw[na he] at hW;subst hW;exact ni hY (show(6:Int)≠0 by decide)
  ·rw[nc he] at hW;by_cases hbh:X4 la t=false
   ·rw[na hbh] at hW;subst hW;exact ni hY (show(18:Int)≠0 by decide)
   ·rw[nc hbh] at hW;by_cases hm2:decide (t∈l)≠k
    ·rw[na hm2] at hW;subst hW;exact ni hY (show(5:Int)≠0 by decide)
    ·rw[nc hm2] at hW;refine⟨m5.1 h2,m5.1 he,by cases hq:X4 la t<;>simp_all,m5.1 hm2,⟨hi,by rw[show n-(i+1)=m by omega];exact hW,m5.1 h2,hta,⟨fun h=>by(cases h),fun h=>by(cases h)⟩,?_,?_,?_⟩⟩
     ·have:=h.len;cases k
      ·rw[nc J,nc J,nr,zmd];omega
      ·rw[na rfl,na rfl,nr,zmd];omega
     ·intro c hc;cases k
      ·rw[nc J] at hc;rcases mi.1 hc with h3 | h3
       ·exact h.za c h3
       ·rw[mz] at h3;subst h3;exact htz
      ·rw[na rfl] at hc;exact h.za c hc
     ·intro c hc;cases k
      ·rw[nc J] at hc;exact h.zd c hc
      ·rw[na rfl] at hc;rcases mi.1 hc with h3 | h3
       ·exact h.zd c h3
       ·rw[mz] at h3;subst h3;exact htz
attribute [local irreducible] V N X VO Par XP LV StepOK Has Ret RetL RetO RetT kr RetX RetY Pan bp Src
def No{R:Rd}{bs:List Nat}{l:List U}(hl0:l.length<=4096)(hb:∀ b∈bs,b<=255)(hl:bs.length<=1099511627776)(hat:R.at_<=bs.length)(he:(t9 bs l R).2.2=0)(hB:zpk B w)(hs:BsV bs fu sv B)(hv:SetV l v B)(hr:(xr sb rb sv fr0 R).P B w C)(hC:ZCB C w B):
  RetY zpl 78 [xy sb,v] w B C (xr sb rb sv R.at_ (t9 bs l R).1.2) (SetV (t9 bs l R).1.1):=by
 have ha1:=ia (bs:=bs) (lim:=8192) hat;have hlv:=fun h=>a9 (bs:=bs) (lim:=8192) (R:=R) J h;have hsz:=fun(h:(wk bs 8192 R).2.err=0) {w:World} {B:Heap} {C:Nat->Prop} (hB:zpk B w) (hs:BsV bs fu sv B) (hr:(xr sb rb sv fr0 R).P B w C) (hC:ZCB C w B)=>size_ret (lim:=8192) hb hl hat I h hB hs hr hC;unfold t9 at he |-;obtain⟨z,R1,hz1⟩:∃ z R1,wk bs 8192 R=(z,R1):=⟨_,_,rfl⟩
 rw[hz1] at he ha1 hlv hsz |-;dsimp only at he ha1 hlv hsz |-;by_cases h1:R1.err≠0
 ·rw[na h1] at he;exact ni he h1
 ·rw[nc h1] at he |-;have h10:=m5.1 h1;obtain⟨n,rfl,hn⟩:=hlv h10;rw[zl6] at he |-;obtain⟨Y,hY⟩:∃ Y,Ee bs l n none [] [] R1=Y:=⟨_,rfl⟩
  rw[hY] at he |-;by_cases h2:Y.2.2≠0
  ·rw[na h2] at he;exact ni he h2
  ·rw[nc h2] at he |-;have h20:=m5.1 h2;by_cases h3:l.length+Y.1.1.1.length>4096+Y.1.1.2.length
   ·rw[na h3] at he;exact ni he (show(3:Int)≠0 by decide)
   ·rw[nc h3];dsimp only;obtain⟨f1,p1,k1,q1,rfl,hp1⟩:=hv.shape;have hj0:ChJ bs l n Y 0 none [] [] R1:=⟨mf _,hY,h10,ha1,⟨fun _=>rfl,fun _=>rfl⟩,rfl,(fun _ h=>by cases h),(fun _ h=>by cases h)⟩
    unfold RetY;refine yr 900 (xr sb rb sv fr0 R) Tryz.func78 Z Tryz.ntmps78 (np Z) hB hr hC ((Zba∘Z7∘Zf∘Z4∘Za7∘ZM∘Z7∘Zf∘Zu) ?_);refine q0 (y6 L 900 (xr sb rb sv R.at_ R1) (.int .i64 n) (r:=xr sb rb sv fr0 R) Z Z Z Z Z (fun u H C2 hH hle hr2 hC2=>hsz h10 hH (hs.le hle) hr2 hC2)) (Zc (h:=?_));refine vt (r1:=xk sb [xy rb,.int .i64 R.at_] N4) (r2:=(GRd rb sv R1).res) 900 901 rfl (xd _) ?_;refine(Zce∘Zi∘Zb7∘ZcD) ?_;refine j9 900 901 rfl Z (xd (GRd rb sv R1)) ?_;refine cr 5 Ly 7 rfl (cr 6 Ly 7 rfl ?_)
    refine xo (fun x:Nat×Option U×List CH×List CH×Rd×Nat=>[(0,.is (xy sb)),(3,.own (gj [f1,.pointer p1,k1,.pointer q1] tySt)),(4,.own (gj [.nilFunc,.pointer none,.nilFunc,.pointer none] tySt)),(5,.own (SlR Ly 7 x.2.2.1.length (x.2.2.1.flatMap ccs))),(6,.own (SlR Ly 7 x.2.2.2.1.length (x.2.2.2.1.flatMap ccs))),(7,.own (gj (zhq x.2.1) tyU)),(9,.is (.int .i64 R.at_)),(20,.is (.int .i64 n)),(21,.is (.int .i64 x.1)),(900,.own (xr sb rb sv x.2.2.2.2.2 x.2.2.2.2.1).res)])
     (fun x=>ChJ bs l n Y x.1 x.2.1 x.2.2.1 x.2.2.2.1 x.2.2.2.2.1) (fun x=>n-x.1) (0,none,[],[],R1,R.at_) hj0 ⟨rfl,rfl,rfl,rfl,rfl,rfl,rfl,rfl,rfl,rfl,nm⟩ ?_
    rintro⟨i,la,a,d,R',fr⟩ hj;dsimp only at hj |-;by_cases hlt:i<n
    ·obtain⟨g1,g2,g3,g4,hj2⟩:=hj.step hlt h20;have htz:=Nm (bs:=bs) (R:=R');have hRa:=hj.at_;have hfst:=hj.first;have hlen:=hj.len;have hsrc:=fun {w:World} {B:Heap} {C:Nat->Prop} (hB:zpk B w) (hs:BsV bs fu sv B) (hr:(xr sb rb sv R'.at_ R').P B w C) (hC:ZCB C w B)=>zcc hb hl hRa hB hs hr hC;generalize li bs R'=zpf at g1 g2 g3 g4 hj2 htz hsrc;obtain⟨⟨t,k⟩,R2⟩:=zpf;dsimp only at g1 g2 g3 g4 hj2 htz hsrc;have hsn:∀ x:List CH,(x++[(t,k)]).length=x.length+1:=fun x=>by simp
     refine vt (r1:=xk sb [xy rb,.int .i64 fr] N4) (r2:=(GRd rb sv R').res) 900 901 rfl (xd _) ?_
     cases k with
     | true=>
      cases la with
      | none=>
       have hi0:i=0:=hfst.1 rfl;refine(ZaZ∘Zx∘Z3∘Zc∘ZK∘Zbe) ?_;refine jn 900 901 rfl Z (xd (GRd rb sv R')) ?_;refine Za8 (h:=?_);refine q0 (y6 L 900 (xr sb rb sv R'.at_ R2) (chv t true) (r:=xr sb rb sv fr R') Z Z Z Z Z (fun u H C hH hle hr hC=>jj (x:=(t,true)) (fst:=[xy rb]) (cap:=[]) Z g1 hH hr hC (fun u3 H3 C3 hH3 hle3 hr3 hC3=>hsrc hH3 ((hs.le hle).le hle3) hr3 hC3))) (Zbu (h:=?_));refine kq 11 913 rfl fun b11=>?_;refine wd 913 rfl fun H1 hs1 _ h11=>?_;have hv1:=hv.le hs1.le;refine(Zat∘Zbb) ?_;refine z81 L Z (fun u H hH _=>ki htz hH) ?_;refine ZC (h:=?_);refine q0 (yq L 900 (xr sb rb sv R'.at_ R2) (r:=xr sb rb sv R'.at_ R2) Z Z Z Z Z (fun u H C hH _ hr hC=>kf hH hr hC)) ((Zf∘ZbO∘ZC∘Zb6∘Zc5) ?_);refine q0 (yq L 900 (xr sb rb sv R'.at_ R2) (r:=xr sb rb sv R'.at_ R2) Z Z Z Z Z (fun u H C hH _ hr hC=>kf hH hr hC)) ((Zf∘Zd7∘Zj∘Zcn∘Zag∘ZaJ) ?_);refine zh1 L Z (fun u H hH hle=>jo g4 hH (hv1.le hle)) ?_;refine(Zag∘Zw∘ZcM) ?_;refine xu (yq L 900 (xr sb rb sv R'.at_ R2) (r:=xr sb rb sv R'.at_ R2) Z Z Z Z Z (fun u H C hH _ hr hC=>kf hH hr hC)) Z Z ((ZU∘ZT∘Zbb∘ZaD∘Zf∘ZV∘ZaN∘ZaO∘ZE∘ZaV) ?_);refine q0 (yw (.inl Z) Z) ((Zd6∘Zap∘ZcL) ?_);refine q0 (yw (.inr Z) Z) ((ZbN∘Zad∘Zbh) ?_);exact wx (x:=(i,none,a,d,R',fr)) (i+1,some t,a,d++[(t,true)],R2,R'.at_) hs1 hj2 M ⟨Z,Z,Z,Z,pf Z,Z,Z,Z,Z,Z,nm⟩
      | some y=>
       have hi0:i≠0:=fun h=>by have:=hfst.2 h;cases this
       refine(ZaZ∘Zx∘Z3∘Zc∘ZK∘Zbe) ?_;refine jn 900 901 rfl Z (xd (GRd rb sv R')) ?_;refine Za8 (h:=?_);refine q0 (y6 L 900 (xr sb rb sv R'.at_ R2) (chv t true) (r:=xr sb rb sv fr R') Z Z Z Z Z (fun u H C hH hle hr hC=>jj (x:=(t,true)) (fst:=[xy rb]) (cap:=[]) Z g1 hH hr hC (fun u3 H3 C3 hH3 hle3 hr3 hC3=>hsrc hH3 ((hs.le hle).le hle3) hr3 hC3))) (Zbu (h:=?_));refine kq 11 913 rfl fun b11=>?_;refine wd 913 rfl fun H1 hs1 _ h11=>?_;have hv1:=hv.le hs1.le;have g3:jm y t<0:=nj g3;refine(Zat∘Zbb) ?_;refine z81 L Z (fun u H hH _=>ki htz hH) ?_;refine ZC (h:=?_);refine q0 (yq L 900 (xr sb rb sv R'.at_ R2) (r:=xr sb rb sv R'.at_ R2) Z Z Z Z Z (fun u H C hH _ hr hC=>kf hH hr hC)) ((Zf∘ZbO∘Zs∘Za∘ZaI∘Zbb) ?_);refine z81 L Z (fun u H hH _=>wq (a:=y) (b:=t) hH) ?_;refine(Zai∘Zg) ?_;refine q0 (yq L 900 (xr sb rb sv R'.at_ R2) (r:=xr sb rb sv R'.at_ R2) Z Z Z Z Z (fun u H C hH _ hr hC=>kf hH hr hC)) ((Zf∘Zd7∘Zj∘Zcn∘Zag∘ZaJ) ?_);refine zh1 L Z (fun u H hH hle=>jo g4 hH (hv1.le hle)) ?_;refine(Zag∘Zw∘ZcM) ?_;refine xu (yq L 900 (xr sb rb sv R'.at_ R2) (r:=xr sb rb sv R'.at_ R2) Z Z Z Z Z (fun u H C hH _ hr hC=>kf hH hr hC)) Z Z ((ZU∘ZT∘Zbb∘ZaD∘Zf∘ZV∘ZaN∘ZaO∘ZE∘ZaV) ?_);refine q0 (yw (.inl Z) Z) ((Zd6∘Zap∘ZcL) ?_);refine q0 (yw (.inr Z) Z) ((ZbN∘Zad∘Zbh) ?_);exact wx (x:=(i,some y,a,d,R',fr)) (i+1,some t,a,d++[(t,true)],R2,R'.at_) hs1 hj2 M ⟨Z,Z,Z,Z,pf Z,Z,Z,Z,Z,Z,nm⟩
     | false=>
      cases la with
      | none=>
       have hi0:i=0:=hfst.1 rfl;refine(ZaZ∘Zx∘Z3∘Zc∘ZK∘Zbe) ?_;refine jn 900 901 rfl Z (xd (GRd rb sv R')) ?_;refine Za8 (h:=?_);refine q0 (y6 L 900 (xr sb rb sv R'.at_ R2) (chv t false) (r:=xr sb rb sv fr R') Z Z Z Z Z (fun u H C hH hle hr hC=>jj (x:=(t,false)) (fst:=[xy rb]) (cap:=[]) Z g1 hH hr hC (fun u3 H3 C3 hH3 hle3 hr3 hC3=>hsrc hH3 ((hs.le hle).le hle3) hr3 hC3))) (Zbu (h:=?_));refine kq 11 913 rfl fun b11=>?_;refine wd 913 rfl fun H1 hs1 _ h11=>?_;have hv1:=hv.le hs1.le;refine(Zat∘Zbb) ?_;refine z81 L Z (fun u H hH _=>ki htz hH) ?_;refine ZC (h:=?_);refine q0 (yq L 900 (xr sb rb sv R'.at_ R2) (r:=xr sb rb sv R'.at_ R2) Z Z Z Z Z (fun u H C hH _ hr hC=>kf hH hr hC)) ((Zf∘ZbO∘ZC∘Zb6∘Zc5) ?_);refine q0 (yq L 900 (xr sb rb sv R'.at_ R2) (r:=xr sb rb sv R'.at_ R2) Z Z Z Z Z (fun u H C hH _ hr hC=>kf hH hr hC)) ((Zf∘Zd7∘Zj∘Zcn∘Zag∘ZaJ) ?_);refine zh1 L Z (fun u H hH hle=>jo g4 hH (hv1.le hle)) ?_;refine(Zag∘Zw∘ZcM) ?_;refine xu (yq L 900 (xr sb rb sv R'.at_ R2) (r:=xr sb rb sv R'.at_ R2) Z Z Z Z Z (fun u H C hH _ hr hC=>kf hH hr hC)) Z Z ((ZU∘ZT∘Zbb∘ZaD∘Zf∘ZV∘ZaN∘ZaO∘Za9∘Zaw) ?_);refine q0 (yw (.inl Z) Z) ((Zd6∘Zap∘ZcL) ?_);refine q0 (yw (.inr Z) Z) ((ZbN∘Zad∘Zbh) ?_);exact wx (x:=(i,none,a,d,R',fr)) (i+1,some t,a++[(t,false)],d,R2,R'.at_) hs1 hj2 M ⟨Z,Z,Z,pf Z,Z,Z,Z,Z,Z,Z,nm⟩
      | some y=>
       have hi0:i≠0:=fun h=>by have:=hfst.2 h;cases this
       refine(ZaZ∘Zx∘Z3∘Zc∘ZK∘Zbe) ?_;refine jn 900 901 rfl Z (xd (GRd rb sv R')) ?_;refine Za8 (h:=?_);refine q0 (y6 L 900 (xr sb rb sv R'.at_ R2) (chv t false) (r:=xr sb rb sv fr R') Z Z Z Z Z (fun u H C hH hle hr hC=>jj (x:=(t,false)) (fst:=[xy rb]) (cap:=[]) Z g1 hH hr hC (fun u3 H3 C3 hH3 hle3 hr3 hC3=>hsrc hH3 ((hs.le hle).le hle3) hr3 hC3))) (Zbu (h:=?_));refine kq 11 913 rfl fun b11=>?_;refine wd 913 rfl fun H1 hs1 _ h11=>?_;have hv1:=hv.le hs1.le;have g3:jm y t<0:=nj g3;refine(Zat∘Zbb) ?_;refine z81 L Z (fun u H hH _=>ki htz hH) ?_;refine ZC (h:=?_);refine q0 (yq L 900 (xr sb rb sv R'.at_ R2) (r:=xr sb rb sv R'.at_ R2) Z Z Z Z Z (fun u H C hH _ hr hC=>kf hH hr hC)) ((Zf∘ZbO∘Zs∘Za∘ZaI∘Zbb) ?_);refine z81 L Z (fun u H hH _=>wq (a:=y) (b:=t) hH) ?_;refine(Zai∘Zg) ?_;refine q0 (yq L 900 (xr sb rb sv R'.at_ R2) (r:=xr sb rb sv R'.at_ R2) Z Z Z Z Z (fun u H C hH _ hr hC=>kf hH hr hC)) ((Zf∘Zd7∘Zj∘Zcn∘Zag∘ZaJ) ?_);refine zh1 L Z (fun u H hH hle=>jo g4 hH (hv1.le hle)) ?_;refine(Zag∘Zw∘ZcM) ?_;refine xu (yq L 900 (xr sb rb sv R'.at_ R2) (r:=xr sb rb sv R'.at_ R2) Z Z Z Z Z (fun u H C hH _ hr hC=>kf hH hr hC)) Z Z ((ZU∘ZT∘Zbb∘ZaD∘Zf∘ZV∘ZaN∘ZaO∘Za9∘Zaw) ?_);refine q0 (yw (.inl Z) Z) ((Zd6∘Zap∘ZcL) ?_);refine q0 (yw (.inr Z) Z) ((ZbN∘Zad∘Zbh) ?_);exact wx (x:=(i,some y,a,d,R',fr)) (i+1,some t,a++[(t,false)],d,R2,R'.at_) hs1 hj2 M ⟨Z,Z,Z,pf Z,Z,Z,Z,Z,Z,Z,nm⟩
    ·obtain rfl:i=n:=by have:=hj.hi;omega
     have hW:=hj.hW;rw[zmr] at hW;have hW2:(((a,d),R'),((0:Int),(0:Int)))=Y:=hW;subst hW2;dsimp only at h3 |-;have hlen:=hj.len;have hza:=hj.za;have hzd:=hj.zd;have hdl:(d++a).length<=8192:=by rw[nr];omega
     have hda:d.length+a.length<=8192:=I;have hpl:=Pn a;have hln:=Co a
     have hzda:∀ c∈d++a,TZ c.1:=fun c hc=>by
      rcases mi.1 hc with h | h
      ·exact hzd c h
      ·exact hza c h
     refine vt (r1:=xk sb [xy rb,.int .i64 fr] N4) (r2:=(GRd rb sv R').res) 900 901 rfl (xd _) ?_;refine ax 5 rfl ?_;refine G4 6 931 _ Z SlR.shape fun z6 hz6=>?_;obtain⟨p6,c6,rfl⟩:=hz6;refine(ZaZ∘ZaK∘Zbn∘Zb∘ZI) ?_;refine xf (yc L (q:=900) (cs':=[xy rb,.int .i64 R.at_]) Z Z Z Z Z) ((Zf∘Zbg∘Za∘Zbp) ?_);refine z81 L Z (fun u H hH hle=>ff (l:=l) Z hH (hv.le hle)) ?_;refine(Zo∘ZbZ∘Za∘Zcl∘Zcw∘Zcv) ?_;refine jn 900 901 rfl Z (xd (GRd rb sv R')) ?_;refine q0 (yq L 900 (xr sb rb sv R.at_ R') (r:=xr sb rb sv R.at_ R') Z Z Z Z Z (fun u H C2 hH _ hr2 hC2=>kf hH hr2 hC2)) (Zaz (h:=?_));refine P4 6 931 rfl Z (Zcj (h:=?_));refine q0 (yw (.inl Z) Z) (Zfe (h:=?_));refine rp 87 rfl ((Zdu∘ZdA) ?_);refine bn (X:=SXp) 3 (r:=fun x=>gj (scs x.1) tySt) (φ:=Ah l) (k7 l) ⟨(f1,p1,k1,q1),hp1⟩ hv Z (xo (fun j:Nat=>[(3,.own (ExR (fun x:SXp=>gj (scs x.1) tySt) (Ah (ri l ((d++a).take j))) (k7 _))),(4,.own (gj [.nilFunc,.pointer none,.nilFunc,.pointer none] tySt)),(87,.sat (KS Ly (d++a) false)),(88,.is (.int .i64 (d++a).length)),(89,.is (.int .i64 j)),(900,.own (xr sb rb sv R.at_ R').res)]) (fun j=>j<=(d++a).length) (fun j=>(d++a).length-j) 0 (mf _) ⟨Z,Z,by show _=some (Kn.sat (SlV Ly 7 ((d++a).flatMap ccs) (d++a).length false));rw[nr,zlz];rfl,by rw[nr];rfl,Z,Z,nm⟩ ?_);rintro j hjl;refine vu 3 rfl fun x H1 hs1 hset=>?_;obtain⟨⟨f,p,f',p'⟩,hpl⟩:=x;dsimp only[scs] at hset hpl |-;by_cases hjt:j<(d++a).length
     ·obtain⟨c,hc⟩:=xw hjt;have hcc:=C8 hc;have hzc:=hzda c (zlg hc);have hlen4:=Gy ((d++a).take j) hl0;have happ:=Xn l hc;obtain⟨m,e,hme⟩:∃ m e,wa (ri l ((d++a).take j)) c.1 c.2=(m,e):=⟨_,_,rfl⟩
      rw[hme] at happ;have hms:Kn.mono (.sat (SetV m)):=SetV.mono;have hme0:Kn.mono (.sat (fun(v:Value) (_:Heap)=>v=.int .i64 e)):=fun _ _ _ h _=>h;refine(Ze∘ZaP∘Zx∘ZbD∘Zab∘ZcB∘ZaT∘Z1∘Zc0∘Zbp∘ZcK) ?_;refine z8 (xi (φ:=WithE m e) L Z Z (zo Z) Z Z Z WithE.mono (fun u H hH hle _=>(s6 hme hlen4 hzc hH (hset.le hle)).mono fun _ _ _=>G9)) Z ((Zk∘Zcz∘ZbB) ?_);refine z8 (fq L (X:=SXp) (fun x=>scs x.1) (Ah m) (k7 _) A8 (fun x=>⟨rfl,x.2⟩) Z Z Z Z Z) Z ((ZbN∘Zdl∘Zbh) ?_);exact wx (x:=j) (j+1) hs1 hjt I ⟨by rw[happ];rfl,Z,Z,Z,Z,Z,nm⟩
     ·obtain rfl:j=(d++a).length:=by omega
      rw[zlm] at hset;refine(Ze∘ZaP∘ZaK∘ZcC∘Zbp∘ZbX∘Z1) ?_;exact pw L 900 (r:=xr sb rb sv R.at_ R') (rs:=[.cell 4 tySt]) Z (fun _ _ h=>h) hs1 Z Z (fun H hle=>az (qs Z) Z Z (hset.le hle))
end Go.V.L11
end
