/- Texts on the way to WiresLoad, part 5: one behind another. -/
import Derived.Test.YtefilnnomholbaaGreatWiresLoadM4
set_option linter.unusedVariables false
set_option linter.unusedSimpArgs false
set_option maxRecDepth 20000
set_option maxHeartbeats 8000000
set_option linter.defProp false
open Go.Proofs Go.RowKit
section
variable{P R l:List Go.V.L8.CH}{B H:Go.V.Heap}{a b cap e hi i j k lo m mid mm n sb:Nat}{c:Go.V.L8.CH}{s:ByteArray}{w:Go.World}{r:List Go.V.L2.U×Int}{stop:Go.V.wu->Bool}{rest x:List Go.Value}{pre:Go.V.wu}{bs:List Nat}{C:Nat->Prop}{t:Go.V.L2.U}{fu:Bool}{sv v:Go.Value}{α:Type}{S:Go.V.L10.Sto}{φ:Go.Value->Go.V.Heap->Prop}{A Y:Prop}
namespace Go.V
def zk5(P:Program)(f:FuncId)(caps:List Value)(gr:GR)(w:World)(B:Heap)(xs:wu):Prop:=
 ∀ (l:Nat) (zrt:wu->GR) (stop:wu->Bool) (C Cg:Nat->Prop),stop []=false->Ej P l zrt stop xs->(zrt []).P B w C->(ZCB C w B)->gr.P B w Cg->(ZCB Cg w B)->(∀ k,C k->¬ Cg k)->
  RetL P f (.func (.yield l) #[] #[]::caps) w B (fun k=>C k\/Cg k) fun _ H u=>∃ C',(zrt (jm stop [] xs)).P H u C'/\∀ k,C' k->((C k\/Cg k)\/w.heap.size<=k)/\k<u.heap.size/\H k=none
section
variable {P:Program} {F:Fr}  {O:Boxes}  {ops:Array Oper} {κ:Kap} {d:Nat} {ty:TypeId} {pos:String} {aft:Array Edge} {g:Option (Nat×Bool)} {a:Act} {u:World}  {fp:Nat->Nat->Prop} {os:List Oper} {Q:Exit->Act->World->Prop} {ex:Exs}
def JcX(Cg:Nat->Prop)(F:Fr)(B:Heap)(n:Nat)(a0:Act)(H0:Heap)(N1:Nat)(O':wu->Boxes)(K:wu->Kap)(pre:wu):GR where
 P Hit u C:=∃ Hc fp,HasH F B (O' pre) n (K pre) a0 u Hc fp/\H0.Le Hc/\H0.Le Hit/\(∀ y∈O' pre,y.1<N1)/\N1<=u.heap.size/\F.w0.heap.size<=N1/\
  (∀ k,Cg k->k<N1/\(F.w0.heap.size<=k\/F.L k)/\Hc k=none)/\(∀ y∈O' pre,¬ Cg y.1)/\(∀ t r k,K pre t=some (.own r)->fp t k->¬ Cg k)/\
  (∀ k,C k↔(k<N1/\H0 k=none/\¬ Cg k)\/(N1<=k/\((Hc k).isSome=true\/∃ t r,K pre t=some (.own r)/\fp t k)))
 st:=by
  rintro Hit u C Hit' u' ⟨Hc,fp,hh,h1,h2,h3,h4,h5,hx1,hx2,hx3,hC⟩ hle hsub hon hk
  have hCt:∀ t r k,K pre t=some (.own r)->fp t k->C k:=fun t r k ht hf=>by
   rw[hC];rcases zni k N1 with hlt | hge
   ·refine .inl ⟨hlt,?_,hx3 t r k ht hf⟩;have:=((hh.slot t _ ht).2 k hf).2.1
    cases hx:H0 k with
    | none=>rfl
    | some o=>rw[h1 k o hx] at this;cases this
   ·exact .inr ⟨hge,.inr ⟨t,r,ht,hf⟩⟩
  have hCb:∀ y∈O' pre,C y.1:=fun y hy=>by
   rw[hC];refine .inl ⟨h3 y hy,?_,hx2 y hy⟩;have:=(hh.boxes y hy).2.1
   cases hx:H0 y.1 with
   | none=>rfl
   | some o=>rw[h1 _ o hx] at this;cases this
  have hold:∀ k o,H0 k=some o->u'.heap[k]?=u.heap[k]?:=fun k o ho=>
   ((hsub k o (hle k o (h2 k o ho))):u'.heap[k]?=some o).trans ((hh.sub k o (h1 k o ho)):u.heap[k]?=some o).symm
  have hsub':Hc.Le (hp u'):=fun k o ho=>by
   show u'.heap[k]?=some o
   cases hx:H0 k with
   | some o'=>rw[hold k o' hx];exact hh.sub k o ho
   | none=>
    rw[hk k ((hC k).2 ?_)]
    ·exact hh.sub k o ho
    ·rcases zni k N1 with hlt | hge
     ·exact .inl ⟨hlt,hx,fun hg=>by rw[(hx1 k hg).2.2] at ho;cases ho⟩
     ·exact .inr ⟨hge,.inl (by rw[ho];rfl)⟩
  refine⟨Hc,fp,⟨hh.size,hh.defers,hh.nodup,hh.marks,hh.lent,?_,hsub',hh.base,hh.fresh,fun y hy=>?_,hh.apart,fun t k ht=>?_,hh.owns,hh.mono⟩,h1,h2.trans hle,h3,znj h4 hon.size,h5,hx1,hx2,hx3,hC⟩
  ·refine⟨hon.os.trans hh.keep.os,hon.tape.trans hh.keep.tape,hon.output.trans hh.keep.output,znj hh.keep.size hon.size,fun k hk' hl=>?_,znj hh.keep.dr hon.dr⟩;refine Eq.trans ?_ (hh.keep.block k hk' hl)
   cases hx:H0 k with
   | some o=>exact hold k o hx
   | none=>exact hk k ((hC k).2 (.inl ⟨by omega,hx,fun hg=>by
     rcases(hx1 k hg).2.1 with h | h
     ·omega
     ·exact hl h⟩))
  ·obtain⟨g1,g2,g3⟩:=hh.boxes y hy;exact⟨(hk _ (hCb y hy)).trans g1,g2,g3⟩
  ·have hs:=hh.slot t k ht
   cases k with
   | is _=>exact hs
   | sat _=>exact hs
   | own r=>exact⟨r.st hs.1 (my _) hsub' hon fun k hf=>hk k (hCt t r k ht hf),fun k hf=>by
     obtain⟨g1,g2,g3,g4⟩:=hs.2 k hf;exact⟨zol g1 hon.size,g2,g3,g4⟩⟩
def No(L:Tabs P)(gi:Nat){gr:GR}{f:Operand}{params:Array Tmp}{assign body:Code}{gf:Nat}{caps:List Value}
  (fx:List (Nat×Value)) (zrx:wu→List (Nat×Res)) (K1:wu→List Value→List (Nat×Kn)) (xs:wu) (stop:wu→Bool) (jc:wu→Code)
  (hr:F.r=none) (hf:evK κ f=some (.func (.func gf) #[] caps.toArray)) (hfn:L.fn gf=some ())
  (hgi:κ gi=some (.own gr.res)) (hGi:∀ pre,∀ p∈zrx pre,p.1≠gi) (h0:LiveOK (gK' (zrx [])++zff fx) κ) (hG:∀ pre,∀ p∈zrx pre,n≤p.1) (hst0:stop []=false)
  (hps:∀ x∈xs,x.length=params.size) (hpn:∀ t∈params.toList,t<n)
  (hit:∀ u H,H.Le (hp u)→B.Le H→zk5 P gf caps gr u H xs)
  (hassign:∀ (w1:World) (Ln:Nat→Prop) (B':Heap) (l D:Nat) (o:Obj) (pre:wu) (x:List Value),pre++[x]<+:xs→stop pre=false→B.Le B'→
   V P ⟨w1,some l,[],Ln⟩ B' n ((l,o)::(D,.deferred (some []))::O) (zk6 (KK fx (zrx pre)) (params.toList.zip x)) assign (Exit.then (fun a u=>Has ⟨w1,some l,[],Ln⟩ B' ((l,o)::(D,.deferred (some []))::O) n (ofL (K1 pre x)) a u) (fun _ _ _=>False)))
  (hbody:∀ (w1:World) (Ln:Nat→Prop) (B':Heap) (l D:Nat) (o:Obj) (pre:wu) (x:List Value),pre++[x]<+:xs→stop pre=false→B.Le B'→
   V P ⟨w1,some l,[],Ln⟩ B' n ((l,o)::(D,.deferred (some []))::O) (ofL (K1 pre x)) body (zer ⟨w1,some l,[],Ln⟩ B' n ((l,o)::(D,.deferred (some []))::O) zrx stop jc (pre++[x])))
  (hdone:∀ (l D:Nat) (o:Obj),stop (jm stop [] xs)=false→N ⟨F.w0,F.r,.m D::F.ds,F.L⟩ B n ((l,o)::(D,.deferred (some []))::O) (KK fx (zrx (jm stop [] xs))) Q)
  (hstop:∀ (l D:Nat) (o:Obj),stop (jm stop [] xs)=true→V P ⟨F.w0,F.r,.m D::F.ds,F.L⟩ B n ((l,o)::(D,.deferred (some []))::O) (KK fx (zrx (jm stop [] xs))) (jc (jm stop [] xs)) Q):
  V P F B n O κ (.rangeFunc f params assign body) Q:=by
 obtain⟨w0,r,ds,Lf⟩:=F;dsimp only at hr;subst hr;rintro a u ⟨H,fp,hh⟩
 have e := hh.env (ops := #[]) (o := ⟨none, .move f, 0, "", #[], none⟩) (κ := κ) (fun _ _ => rfl)
 have hfe:a.eval f=.func (.func gf) #[] caps.toArray:=e.is_ f _ (by simp [Op.operands]) hf;refine wpIn_rangeFunc fun fn _=>?_
 --the record
 have hD0:(.loop { state:=.ready,pending:=none,fn,tmps:=a.tmps,params,assign,body,defers:=u.heap.size }:Obj)=.loop { state:=.ready,pending:=none,fn,tmps:=a.tmps,params,assign,body,defers:=u.heap.size }:=rfl;generalize hrec:({ state:=.ready,pending:=none,fn,tmps:=a.tmps,params,assign,body,defers:=u.heap.size }:Loop)=rec0 at hD0;have hh1:=(hh.newBox (.deferred (some []))).newBox (.loop rec0);rw[World.size_alloc] at hh1;generalize hw1:(u.alloc (.deferred (some []))).alloc (.loop rec0)=w1 at hh1;have hN1:w1.heap.size=u.heap.size+2:=by subst hw1;simp
 let recS:wu→Loop:=fun pre=>if stop pre=true then { rec0 with state:=.done,pending:=some (jc pre) } else rec0
 let O':wu→Boxes:=fun pre=>(u.heap.size+1,.loop (recS pre))::(u.heap.size,.deferred (some []))::O
 let F1:Fr:=⟨w0,none,[],Lf⟩
 let a0:Act:={ tmps:=a.tmps,defers:=[] }
 have hCg:=fun k (hk:fp gi k)=>((hh1.slot gi _ hgi).2 k hk)
 have hCg0:=fun k (hk:fp gi k)=>((hh.slot gi _ hgi).2 k hk)
 have hCg1:∀ k,fp gi k→k<w1.heap.size:=fun k hk=>(hCg k hk).1
 let zrt:wu→GR:=JcX (fp gi) F1 B n a0 H w1.heap.size O' fun pre=>KK fx (zrx pre)
 have hrec0:rec0.state=.ready∧rec0.pending=none∧rec0.fn=fn∧rec0.tmps=a.tmps∧rec0.params=params∧rec0.assign=assign∧rec0.body=body:=by subst hrec;exact⟨rfl,rfl,rfl,rfl,rfl,rfl,rfl⟩
 have hO'mem:∀ pre pre' y,y∈O' pre'→∃ y'∈O' pre,y'.1=y.1:=fun pre pre' y hy=>by
  rcases nz.1 hy with rfl | hy
  ·exact⟨_,mc ..,rfl⟩
  ·exact⟨y,me _ hy,rfl⟩
 have hfix:∀ t k,ofL (zff fx) t=some k→∀ v,k=.is v→a0.eval (.tmp t)=v:=fun t k ht v hv=>by
  subst hv;exact hh.slot t _ ((LiveOK.right h0).get ht)
 have hrecS0:recS []=rec0:=nc (by rw[hst0];simp)
 --at the start
 have hstart:HasH F1 B (O' []) n (KK fx (zrx [])) a0 w1 H fp:=by
  have h2:=hh1.sub_kap (κ2:=KK fx (zrx [])) fun t k hk=>h0.get hk;have:O' []=(u.heap.size+1,.loop rec0)::(u.heap.size,.deferred (some []))::O:=by show(_,Obj.loop (recS []))::_=_;rw[hrecS0]
  rw[this];exact⟨h2.size,rfl,zoy,(fun _ h=>by cases h),h2.lent,h2.keep,h2.sub,h2.base,h2.fresh,h2.boxes,h2.apart,h2.slot,h2.owns,h2.mono⟩
 have hOg0:∀ pre,∀ y∈O' pre,¬ fp gi y.1:=fun pre y hy hg=>by
  rcases nz.1 hy with rfl | hy
  ·have:=(hCg0 _ hg).1;dsimp only at this;omega
  ·rcases nz.1 hy with rfl | hy
   ·have:=(hCg0 _ hg).1;dsimp only at this;omega
   ·exact(hCg0 _ hg).2.2.2 y hy Z
 have hyg:=hOg0 []
 have hKgi:∀ pre,ofL (gK' (zrx pre)) gi=none:=fun pre=>by
  have:∀ l:List (Nat×Res),(∀ p∈l,p.1≠gi)→ofL (gK' l) gi=none:=fun l=>by
   induction l with
   | nil=>exact fun _=>rfl
   | cons p l ih=>
    intro h;show upd (ofL (gK' l)) p.1 (.own p.2) gi=none;rw[xj _ _ (Ne.symm (h p (mc ..)))];exact ih fun q hq=>h q (me _ hq)
  exact this _ (hGi pre)
 have hKne:∀ pre t r,KK fx (zrx pre) t=some (.own r)→t≠gi:=fun pre t r ht he=>by
  subst he;have:=Be (hG pre) ht;rw[hKgi pre] at this;cases this
 have hog:∀ t r k,KK fx (zrx []) t=some (.own r)→fp t k→¬ fp gi k:=fun t r k ht hf hg=>
  hh.owns t gi r gr.res (hKne [] t r ht) (h0.get ht) hgi k hf hg
 let C0:Nat→Prop:=fun k=>(k<w1.heap.size∧H k=none∧¬ fp gi k)∨(w1.heap.size≤k∧((H k).isSome=true∨∃ t r,KK fx (zrx []) t=some (.own r)∧fp t k))
 have hJ0:(zrt []).P H w1 C0:=⟨H,fp,hstart,my _,my _,fun y hy=>xi (hstart.boxes y hy).1,nu _,hstart.keep.size,fun k hk=>⟨hCg1 k hk,(hCg k hk).2.2.1,(hCg k hk).2.1⟩,fun y hy hg=>hyg y hy hg,hog,fun _=>Iff.rfl⟩
 have hC0:∀ k,C0 k→k<w1.heap.size∧H k=none:=fun k hk=>by
  rcases hk with h | ⟨h1,h | ⟨t,r,ht,hf⟩⟩
  ·exact⟨h.1,h.2.1⟩
  ·rw[ja hstart.sub h1] at h;cases h
  ·have:=((hstart.slot t _ ht).2 k hf).1;omega
 --the rounds
 have hY:Ej P (u.heap.size+1) zrt stop xs:=by
  rintro pre x hpre hstp v Hit C hsubv ⟨Hc,fpc,hc,c1,c2,c3,c4,c5,x1,x2,x3,c6⟩ hCv;have hrp:recS pre=rec0:=nc (by rw[hstp];simp);have hOp:O' pre=(u.heap.size+1,.loop rec0)::(u.heap.size,.deferred (some []))::O:=by show(_,Obj.loop (recS pre))::_=_;rw[hrp]
  rw[hOp] at hc;have hl:v.heap[u.heap.size+1]?=some (.loop rec0):=(hc.boxes _ (mc ..)).1;have hxl:x.length=params.size:=hps x (hpre.subset (by simp));have hyr:=run_yield (P:=P) (args:=x.toArray) hl (by rw[hrec0.2.2.2.2.1];simpa using hxl);rw[hrec0.2.2.1,hrec0.2.2.2.1,hrec0.2.2.2.2.1,hrec0.2.2.2.2.2.1,hrec0.2.2.2.2.2.2] at hyr;refine⟨fn,_,assign,body,hyr,roundIn_of_wpIn trivial ?_⟩
  --the round's frame
  let Cr:Nat→Prop:=fun k=>(∃ y∈O' pre,y.1=k)∨∃ t r,KK fx (zrx pre) t=some (.own r)∧fpc t k
  have hCrC:∀ k,Cr k→C k∧k<v.heap.size∧(w0.heap.size≤k∨Lf k):=fun k hk=>by
   rcases hk with ⟨y,hy,rfl⟩ | ⟨t,r,ht,hf⟩
   ·rw[hOp] at hy;obtain⟨g1,g2,g3⟩:=hc.boxes y hy;refine⟨(c6 _).2 (.inl ⟨c3 y (by rw[hOp];exact hy),?_,x2 y (by rw[hOp];exact hy)⟩),xi g1,g3⟩
    cases hx:H y.1 with
    | none=>rfl
    | some o=>rw[c1 _ o hx] at g2;cases g2
   ·obtain⟨g1,g2,g3,g4⟩:=(hc.slot t _ ht).2 k hf;refine⟨(c6 k).2 ?_,g1,g3⟩;rcases zni k w1.heap.size with hlt | hge
    ·refine .inl ⟨hlt,?_,x3 t r k ht hf⟩
     cases hx:H k with
     | none=>rfl
     | some o=>rw[c1 _ o hx] at g2;cases g2
    ·exact .inr ⟨hge,.inr ⟨t,r,ht,hf⟩⟩
  have hCrg:∀ k,Cr k→¬ fp gi k:=fun k hk=>by
   rcases hk with ⟨y,hy,rfl⟩ | ⟨t,r,ht,hf⟩
   ·exact x2 y hy
   ·exact x3 t r k ht hf
  let Fr':Fr:=⟨v,some (u.heap.size+1),[],Cr⟩
  have hr0:HasH Fr' Hc ((u.heap.size+1,.loop rec0)::(u.heap.size,.deferred (some []))::O) n (KK fx (zrx pre)) a0 v Hc fpc:=
   ⟨hc.size,rfl,zoy,(fun _ h=>by cases h),fun k hk=>(hCrC k hk).2.1,Keep.refl _ _,hc.sub,my _,fun _ _ _=>rfl,fun y hy=>⟨(hc.boxes y hy).1,(hc.boxes y hy).2.1,.inr (.inl ⟨y,by rw[hOp];exact hy,rfl⟩)⟩,hc.apart,fun t k hk=>by
    have hs:=hc.slot t k hk
    cases k with
    | is _=>exact hs
    | sat _=>exact hs
    | own r=>exact⟨hs.1,fun k hf=>by
      obtain⟨g1,g2,g3,g4⟩:=hs.2 k hf;exact⟨g1,g2,.inr (.inr ⟨t,r,hk,hf⟩),g4⟩⟩,hc.owns,hc.mono⟩
  have hBc:B.Le Hc:=hc.base;have hr1:=hr0.putP (params.toList.zip x) (fun p hp=>hpn p.1 (List.of_mem_zip hp).1)
  have hfold:(params.zip x.toArray).foldl (fun tmps (t,a)=>tmps.setIfInBounds t a) a.tmps=(params.toList.zip x).foldl (fun t p=>t.setIfInBounds p.1 p.2) a.tmps:=by
   rw[←zp4,Array.toList_zip]
  rw[hfold]
  --how a round ends
  have fin:∀ (e:Option Code) (a1:Act) (u1:World),(match e with | none=>stop (pre++[x])=false | some c=>stop (pre++[x])=true∧jc (pre++[x])=c)→
    Has Fr' Hc ((u.heap.size+1,.loop { rec0 with state:=.busy })::(u.heap.size,.deferred (some []))::O) n (ofL (gK' (zrx (pre++[x])))) a1 u1→
    ∃ z w',(Instr.endRound (u.heap.size+1) e).run P u1=.ok z w'∧Ending.returned z=.returned (.bool (!stop (pre++[x])))∧∃ C',(zrt (pre++[x])).P Hit w' C'∧Keep C v w'∧∀ k,C' k→(C k∨v.heap.size≤k)∧k<w'.heap.size:=by
   rintro e a1 u1 he ⟨Hd,fpd,hd⟩;have hl1:=(hd.boxes _ (mc ..)).1;have hrun:=run_endRound (P:=P) e hl1
   have hrecE:({ ({ rec0 with state:=.busy }:Loop) with state:=if e.isNone then .ready else .done,pending:=e }:Loop)=recS (pre++[x]):=by
    cases e with
    | none=>
     have:recS (pre++[x])=rec0:=nc (by rw[he];simp);rw[this];obtain⟨g1,g2,_⟩:=hrec0;cases hq:rec0;rw[hq] at g1 g2;dsimp only at g1 g2 ⊢;rw[g1,g2];rfl
    | some c=>
     have:recS (pre++[x])={ rec0 with state:=.done,pending:=some (jc (pre++[x])) }:=na he.1;rw[this,he.2];rfl
   rw[hrecE] at hrun
   have hv:(e.isNone)=!stop (pre++[x]):=by
    cases e with
    | none=>rw[he];rfl
    | some c=>rw[he.1];rfl
   refine⟨_,_,hrun,by rw[hv],?_⟩;have hd2:=hd.boxSet (O1:=[]) (ds:=[]) (a':=a1) (Chg.putObj (o:=.loop (recS (pre++[x]))) (xi hl1)) (List.Sublist.refl _) (by simp) rfl hd.defers;generalize u1.putObj (u.heap.size+1) (.loop (recS (pre++[x])))=u2 at hd2 ⊢;have hd2':HasH Fr' Hc (O' (pre++[x])) n (ofL (gK' (zrx (pre++[x])))) a1 u2 Hd fpd:=hd2
   have hOg:∀ y∈O' (pre++[x]),(w0.heap.size≤y.1∨Lf y.1)∧y.1<w1.heap.size:=fun y hy=>by
    obtain⟨y',hy',hyy⟩:=hO'mem pre _ y hy;rw[←hyy];exact⟨(hc.boxes y' (by rw[←hOp];exact hy')).2.2,c3 y' hy'⟩
   have hfull:HasH F1 B (O' (pre++[x])) n (KK fx (zrx (pre++[x]))) a0 u2 Hd fpd:=by
    refine⟨hh.size,rfl,zoy,(fun _ h=>by cases h),hc.lent,hc.keep.trans hd2'.keep fun i hi hci=>?_,hd2'.sub,hBc.trans hd2'.base,fun k hk hlk=>?_,fun y hy=>⟨(hd2'.boxes y hy).1,(hd2'.boxes y hy).2.1,(hOg y hy).1⟩,hd2'.apart,fun t k hk=>?_,fun s t r r' hst h1 h2=>?_,fun t k hk=>?_⟩
    ·rcases(hCrC i hci).2.2 with h | h
     ·exact ni hi (by show ¬ (i<w0.heap.size);omega)
     ·exact h
    ·refine(hd2'.fresh k (zol hk hc.keep.size) fun hcr=>?_).trans (hc.fresh k hk hlk);rcases(hCrC k hcr).2.2 with h | h
     ·exact ni hk (by show ¬ (k<w0.heap.size);omega)
     ·exact hlk h
    ·rcases Ch (hG _) hk with ⟨hnt,hgk,r,rfl⟩ | ⟨hfk,_,z,rfl⟩
     ·have hs:=hd2'.slot t _ hgk;have e1:a0.eval (.tmp t)=a1.eval (.tmp t):=(H8 (a:=a0) (n:=n) hh.size hnt).trans (H8 hd2'.size hnt).symm;rw[e1];refine⟨hs.1,fun k hf=>?_⟩;obtain⟨g1,g2,g3,g4⟩:=hs.2 k hf;refine⟨g1,g2,?_,g4⟩;rcases g3 with g3 | g3
      ·exact .inl (znj hc.keep.size g3)
      ·exact(hCrC k g3).2.2
     ·exact hfix t _ hfk z Z
    ·exact hd2'.owns s t r r' hst (Be (hG _) h1) (Be (hG _) h2)
    ·rcases Ch (hG _) hk with ⟨_,_,r,rfl⟩ | ⟨_,_,z,rfl⟩<;>trivial
   have hHd:Hc.Le Hd:=hd2'.base
   refine⟨fun k=>(k<w1.heap.size∧H k=none∧¬ fp gi k)∨(w1.heap.size≤k∧((Hd k).isSome=true∨∃ t r,KK fx (zrx (pre++[x])) t=some (.own r)∧fpd t k)),
    ⟨Hd,fpd,hfull,c1.trans hHd,c2,fun y hy=>(hOg y hy).2,znj c4 hd2'.keep.size,c5,fun k hk=>⟨(x1 k hk).1,(x1 k hk).2.1,(hd2'.fresh k (zol (x1 k hk).1 c4) fun hcr=>hCrg k hcr hk).trans (x1 k hk).2.2⟩,hOg0 _,fun t r k ht hf hg=>by
     rcases((hd2'.slot t _ (Be (hG _) ht)).2 k hf).2.2.1 with g | g
     ·have h7:=hCg1 k hg;have h8:v.heap.size≤k:=g;omega
     ·exact hCrg k g hg,fun _=>Iff.rfl⟩,hd2'.keep.weak fun k _ hk=>(hCrC k hk).1,fun k hk=>?_⟩
   rcases hk with ⟨h1,h2,h2g⟩ | ⟨h1,h2 | ⟨t,r,ht,hf⟩⟩
   ·exact⟨.inl ((c6 k).2 (.inl ⟨h1,h2,h2g⟩)),zol h1 (znj c4 hd2'.keep.size)⟩
   ·obtain⟨o,ho⟩:=zpd.1 h2;refine⟨?_,hd2'.sub.size ho⟩;rcases zni k v.heap.size with hlt | hge
    ·by_cases hcr:Cr k
     ·exact .inl (hCrC k hcr).1
     ·refine .inl ((c6 k).2 (.inr ⟨h1,.inl ?_⟩));rw[←hd2'.fresh k hlt hcr,ho];rfl
    ·exact .inr hge
   ·have hs:=(hd2'.slot t _ (Be (hG _) ht)).2 k hf;refine⟨?_,hs.1⟩;rcases hs.2.2.1 with g | g
    ·exact .inr g
    ·exact .inl (hCrC k g).1
  refine Go.wpIn_mono (hassign v Cr Hc (u.heap.size+1) u.heap.size (.loop rec0) pre x hpre hstp hBc _ v ⟨Hc,fpc,hr1⟩) fun e1 a1 u1 he1=>?_
  cases e1 with
  | normal=>
   obtain⟨Ha,fpa,ha⟩:=he1;have hl1:=(ha.boxes _ (mc ..)).1;refine⟨_,run_beginRound (P:=P) hl1 hrec0.1,?_⟩;have ha2:=ha.boxSet (O1:=[]) (ds:=[]) (a':=a1) (Chg.putObj (o:=.loop { rec0 with state:=.busy }) (xi hl1)) (List.Sublist.refl _) (by simp) rfl ha.defers;refine Go.wpIn_mono (hbody v Cr Hc (u.heap.size+1) u.heap.size (.loop { rec0 with state:=.busy }) pre x hpre hstp hBc a1 _ ⟨Ha,fpa,ha2⟩) fun e2 a2 u2 he2=>?_
   cases e2 with
   | normal=>exact fin none a2 u2 he2.1 he2.2
   | ret=>exact fin (some .ret) a2 u2 ⟨he2.1,he2.2.1⟩ he2.2.2
   | exit id=>exact fin (some (.exit id)) a2 u2 ⟨he2.1,he2.2.1⟩ he2.2.2
   | goto l=>exact he2.elim
   | panic c=>exact he2.elim
   | outgrown=>exact he2.elim
  | exit id=>exact he1.elim
  | goto l=>exact he1.elim
  | ret=>exact he1.elim
  | panic c=>exact he1.elim
  | outgrown=>exact he1.elim
 --the call
 have hB1:B.Le H:=hh.base
 have hcall:=hit w1 H hstart.sub hB1 (u.heap.size+1) zrt stop C0 (fp gi) hst0 hY hJ0 hC0 (hh1.slot gi _ hgi).1 (fun k hk=>⟨hCg1 k hk,(hCg k hk).2.1⟩) (fun k hk hg=>by
  rcases hk with h | ⟨h1,_⟩
  ·exact h.2.2 hg
  ·have:=hCg1 k hg;omega)
 have hel:=run_enterLoop_outer (P:=P) (w:=u) fn a.tmps params assign body;rw[hrec,hw1] at hel;refine⟨u.heap.size+1,[zfc (.m u.heap.size)],w1,⟨.fn (.func gf) caps.toArray,#[]++#[.func (.yield (u.heap.size+1)) #[] #[]]⟩,w1,gf,(.func (.yield (u.heap.size+1)) #[] #[]::caps).toArray,w1,hel,?_,fun _ _=>trivial,?_,fun h=>(by cases h),?_⟩
 ·have hcv:a.eval (.const (.func (.yield (u.heap.size+1)) #[] #[]))=.func (.yield (u.heap.size+1)) #[] #[]:=rfl;simp [resolve,rangeCall,hfe,Deferred.ofValue,hcv]
 ·simp only[invoke];rw[pg L hfn];simp
 ·refine FW.call none _ (Calls.mono hcall fun e3 u3 hp=>?_);obtain⟨z,rfl,H3,g3,C3,⟨Hc,fpc,hc,c1,c2,c3,c4,c5,x1,x2,x3,c6⟩,_⟩:=hp;generalize htk:jm stop [] xs=tk at hc c3 hdone hstop c6;have hl3:u3.heap[u.heap.size+1]?=some (.loop (recS tk)):=(hc.boxes _ (mc ..)).1
  have hnb:(recS tk).state≠.busy:=by
   show(if stop tk=true then ({ rec0 with state:=.done,pending:=some (jc tk) }:Loop) else rec0).state≠.busy;split
   ·simp
   ·rw[hrec0.1];simp
  have hpend:(recS tk).pending=if stop tk=true then some (jc tk) else none:=by
   show(if stop tk=true then ({ rec0 with state:=.done,pending:=some (jc tk) }:Loop) else rec0).pending=_;split
   ·rfl
   ·exact hrec0.2.1
  refine⟨_,_,run_endLoop hl3 hnb,?_⟩;have hc2:=hc.boxSet (O1:=[]) (ds:=[]) (a':=a0) (Chg.putObj (o:=.loop { recS tk with state:=.exhausted }) (xi hl3)) (List.Sublist.refl _) (by simp) rfl rfl
  have hDn:DM.m u.heap.size∉ds:=fun hm=>by
   have:=xi (hh.boxes _ (hh.marks _ hm)).1;exact ni this (Nat.lt_irrefl _)
  have hfin:HasH ⟨w0,none,.m u.heap.size::ds,Lf⟩ B ((u.heap.size+1,.loop { recS tk with state:=.exhausted })::(u.heap.size,.deferred (some []))::O) n (KK fx (zrx tk)) { a with defers:=[zfc (.m u.heap.size)]++a.defers } (u3.putObj (u.heap.size+1) (.loop { recS tk with state:=.exhausted })) Hc fpc:=
   ⟨hc2.size,by have:=hh.defers;dsimp only at this ⊢;rw[this];rfl,List.nodup_cons.2 ⟨hDn,hh.nodup⟩,fun D hD=>by
    rcases nz.1 hD with e | hD
    ·cases e;exact me _ (mc ..)
    ·exact me _ (me _ (hh.marks D hD)),hc2.lent,hc2.keep,hc2.sub,hc2.base,hc2.fresh,hc2.boxes,hc2.apart,hc2.slot,hc2.owns,hc2.mono⟩
  generalize (Obj.loop { recS tk with state:=.exhausted })=rx at hfin ⊢;rw[hpend]
  cases hs:stop tk with
  | false=>
   simp only[zom,if_false];exact hdone _ _ _ hs _ _ ⟨Hc,fpc,hfin⟩
  | true=>
   simp only[if_true];exact hstop _ _ _ hs _ _ ⟨Hc,fpc,hfin⟩
end
end Go.V
section
open Go.V
attribute [local irreducible] Has N Par Ret RetL RetO RetT RetX RetY Src StepOK V VO X ky
namespace Go.V.L11
open Go.V.L2 Go.V.L4
def _root_.Zd2(t:Wr Y->A:=by intro h;refine y9 (qk L (q:=78) Z Z Z Z) ?_;exact h.1)(h:Y):A:=t ⟨h⟩
def _root_.Zfc(t:Wr Y->A:=by intro h;refine qz (qk L (q:=78) Z Z Z Z) Z Z ?_;exact h.1)(h:Y):A:=t ⟨h⟩
abbrev K5:Nat:=9
abbrev ub(l:List ByteArray):wu:=l.map fun x=>[Value.string x]
def zj9{c:UInt8}:∀ {l:List UInt8},c∉l->Lib.indexByte l c= -1
 | [],_=>rfl
 | x::l,h=>by
  rw[nz,not_or] at h;unfold Lib.indexByte;rw[nc (by simpa using Ne.symm h.1),zj9 h.2];rfl
def zfe{c:UInt8}{q:List UInt8}:∀ {p:List UInt8},c∉p->Lib.indexByte (p++c::q) c=(p.length:Int)
 | [],_=>by
  show Lib.indexByte (c::q) c=0;unfold Lib.indexByte;rw[na (by simp)]
 | x::p,h=>by
  rw[nz,not_or] at h;show Lib.indexByte (x::(p++c::q)) c=_;unfold Lib.indexByte;rw[nc (by simpa using Ne.symm h.1),zfe h.2,nc (by simp)];rfl
def si{k:Int}(hk:Lib.indexByte s.data.toList 10=k)(hB:zry B w):
  Ret zrz 258 [.string s,.int .u8 10] w B (fun v _=>v=.int .i64 k):=by
 subst hk;exact Ret.of_same hB (Tryz.strings_IndexByte s 10 w)
def Rn{r:ByteArray}{f:Bool}(hs:s.size<=9223372036854775807)(h:Lib.hasSuffix s.data.toList [10]=f)(hr:(⟨(Lib.trimSuffix s.data.toList [10]).toArray⟩:ByteArray)=r)(hB:zry B w):
  Ret zrz 130 [.string s,.string ⟨#[10]⟩] w B (fun v _=>v=.tuple #[.string r,.bool f]):=by
 subst h hr;exact Ret.of_same hB (Tryz.strings_CutSuffix s ⟨#[10]⟩ w hs)
def E4{xs:wu}(h:stop (pre++[x])=false):jm stop pre (x::xs)=jm stop (pre++[x]) xs:=by
 simp only[jm];rw[nc (by rw[h];decide)]
def Lc{xs:wu}(h:stop (pre++[x])=true):jm stop pre (x::xs)=pre++[x]:=by
 simp only[jm];rw[na h]
def zcj{r:ByteArray}(h:r≠⟨#[]⟩):0<r.size:=by
 rcases Nat.eq_zero_or_pos r.size with h0 | h0
 ·exfalso;apply h;apply vq;have:=jj r;rw[h0] at this;exact m8 this
 ·exact h0
def zci(hs:s.size<=1099511627776)(hB:zry B w):zk5 zrz 257 [kg b] (xe b [.string s] K5) w B (ub (d6 s)):=by
 intro ly zrt stop C Cg hst hY hJ hC hg hCg hd;refine xh 77 (bw (zrt []) (xe b [.string s] K5)) Tryz.func257 Z Tryz.ntmps257 (np Z) hB ⟨C,Cg,hJ,hg,fun _=>Iff.rfl,hd⟩ (fun k hk=>hk.elim (hC k) (hCg k)) ?_;rw[vu];refine v8 77 78 rfl (fun _ _ _ _ _ h=>h) ?_;rw[xf];refine Zaz (h:=?_)
 refine xq (fun x:List ByteArray×ByteArray=>[(0,.is (.func (.yield ly) #[] #[])),(1,.is (kg b)),(77,.own (zrt (ub x.1)).res),(78,.own (xn b [.string x.2] K5))])
  (fun x=>ub x.1++ub (d6 x.2)=ub (d6 s)/\jm stop [] (ub (d6 s))=jm stop (ub x.1) (ub (d6 x.2))/\stop (ub x.1)=false/\x.2.size<=s.size) (fun x=>x.2.size) ([],s) ⟨rfl,rfl,hst,nu _⟩ ⟨rfl,rfl,rfl,rfl,nm⟩ ?_
 rintro⟨pre,r⟩ ⟨h1,h2,h3,h4⟩;dsimp only at h1 h2 h3 h4 |-;by_cases hr:r=⟨#[]⟩
 ·subst hr;have h0:(⟨#[]⟩:ByteArray).size=0:=rfl;rw[Hm] at h2;refine(Zf∘Zad∘Zd2∘ZK∘Zan∘Za5∘ZaG) ?_;refine xz (r:=zrt (ub pre)) (r':=zrt (jm stop [] (ub (d6 s)))) L 77 rfl (fun _ _ h=>h) nq Z (by rw[h2];rfl)
 ·have hp0:=zcj hr;rcases Ac r 10 with hn | ⟨a,c,hac,hn⟩
  ·have e1:=zhd hn hr;rw[e1] at h1 h2;have hi:=zj9 hn;have hpre:ub pre++[[Value.string r]]<+:ub (d6 s):=by rw[<-h1];exact List.prefix_rfl
   cases hb':stop (ub pre++[[Value.string r]])
   ·refine(Zf∘Zad∘Zd2∘ZK∘ZJ∘Z3∘Zbm∘Z9∘Zj∘ZS∘Zd2) ?_;refine z71 L Z (fun u H hH _=>si hi hH) ?_;refine(Zc∘Zx∘Zaj∘Za5∘ZT∘Zd2∘Zh) ?_;refine xg (yj L (q:=78) (cs':=[.string ⟨#[]⟩]) Z Z Z Z Z) ((Zg∘ZD∘Zb) ?_);refine qh (uz (gs:=77) hY hpre h3 (nh Bool.not hb') Z Z Z Z Z) ((Zw∘Zas∘Zau) ?_);refine yv (x:=(pre,r)) (pre++[r],⟨#[]⟩) ⟨?_,?_,?_,mf _⟩ hp0 ⟨Z,Z,?_,Z,nm⟩
    ·rw[Hm,<-h1];simp [ub]
    ·rw[h2,Hm];show jm stop (ub pre) [[Value.string r]]=jm stop (ub (pre++[r])) [];rw[E4 hb'];simp [ub]
    ·have:ub (pre++[r])=ub pre++[[Value.string r]]:=by simp [ub]
     rw[this];exact hb'
    ·have:ub (pre++[r])=ub pre++[[Value.string r]]:=by simp [ub]
     dsimp only;rw[this];rfl
   ·refine(Zf∘Zad∘Zd2∘ZK∘ZJ∘Z3∘Zbm∘Z9∘Zj∘ZS∘Zd2) ?_;refine z71 L Z (fun u H hH _=>si hi hH) ?_;refine(Zc∘Zx∘Zaj∘Za5∘ZT∘Zd2∘Zh) ?_;refine xg (yj L (q:=78) (cs':=[.string ⟨#[]⟩]) Z Z Z Z Z) ((Zg∘ZD∘Zb) ?_);refine qh (uz (gs:=77) hY hpre h3 (nh Bool.not hb') Z Z Z Z Z) ((Zw∘Z3) ?_);exact jk L 77 rfl (fun _ _ h=>h) nq Z (by rw[h2];show _=zrt (jm stop (ub pre) [[Value.string r]]);rw[Lc hb'])
  ·have e1:d6 r=(a++sNl)::d6 c:=by rw[hac];exact zdf hn
   have hra:r.size=a.size+1+c.size:=by rw[hac,zno,zno];rfl
   have hi:Lib.indexByte r.data.toList 10=(a.size:Int):=by
    rw[hac,k8,k8,mo];show Lib.indexByte (a.data.toList++10::c.data.toList) 10=_;rw[zfe hn,jj]
   have x1:r.extract 0 (a.size+1)=a++sNl:=by
    have:=ar ⟨#[]⟩ (a++sNl) c 0 (a.size+1) rfl (by rw[zno];show _=0+(a.size+1);omega);rw[hac];rw[show(a++⟨#[10]⟩++c:ByteArray)=⟨#[]⟩++(a++sNl)++c from vq (by simp [k8])];exact this
   have x2:r.extract (a.size+1) r.size=c:=by
    have:=ar (a++sNl) c ⟨#[]⟩ (a.size+1) r.size (by rw[zno];rfl) (by rw[zno];exact hra);rw[show(a++sNl++c++⟨#[]⟩:ByteArray)=r from vq (by rw[hac];simp [k8])] at this;exact this
   rw[e1] at h1 h2
   have hpre:ub pre++[[Value.string (a++sNl)]]<+:ub (d6 s):=by
    rw[<-h1];exact⟨ub (d6 c),by simp [ub]⟩
   cases hb':stop (ub pre++[[Value.string (a++sNl)]])
   ·refine(Zf∘Zad∘Zd2∘ZK∘ZJ∘Z3∘Zbm∘Z9∘Zj∘ZS∘Zd2) ?_;refine z71 L Z (fun u H hH _=>si hi hH) ?_;refine(Zc∘Zx∘ZbE) ?_;refine qp (id:=4) [(200012,[78]),(200016,[78]),(100001,[78])] kj J ((Zfc∘Zm∘Zdt) ?_);refine z9 (jb L (kl:=.i64) (pl:=0) 0 (a.size+1) Z Z Z Z Z ⟨rfl,by omega⟩ I I x1) Z ?_;refine(Zfc∘Zm∘Zdt) ?_;refine z9 (jb L (kh:=.i64) (ph:=0) (a.size+1) _ Z Z Z Z ⟨rfl,by omega⟩ Z I I x2) Z ?_;refine Zah (h:=?_);refine xp (yj L (q:=78) (cs':=[.string c]) Z Z Z Z Z) Z ((Zbh∘ZD∘Zb) ?_);refine qh (uz (gs:=77) hY hpre h3 (nh Bool.not hb') Z Z Z Z Z) ((Zw∘Zas∘Zau) ?_);have e3:ub (pre++[a++sNl])=ub pre++[[Value.string (a++sNl)]]:=by simp [ub]
    refine yv (x:=(pre,r)) (pre++[a++sNl],c) ⟨?_,?_,?_,?_⟩ ?_ ⟨Z,Z,?_,Z,nm⟩
    ·rw[<-h1];simp [ub]
    ·rw[h2];show jm stop (ub pre) ([Value.string (a++sNl)]::ub (d6 c))=_;rw[E4 hb',e3]
    ·rw[e3];exact hb'
    ·dsimp only;omega
    ·dsimp only;omega
    ·dsimp only;rw[e3];rfl
   ·refine(Zf∘Zad∘Zd2∘ZK∘ZJ∘Z3∘Zbm∘Z9∘Zj∘ZS∘Zd2) ?_;refine z71 L Z (fun u H hH _=>si hi hH) ?_;refine(Zc∘Zx∘ZbE) ?_;refine qp (id:=4) [(200012,[78]),(200016,[78]),(100001,[78])] kj J ((Zfc∘Zm∘Zdt) ?_);refine z9 (jb L (kl:=.i64) (pl:=0) 0 (a.size+1) Z Z Z Z Z ⟨rfl,by omega⟩ I I x1) Z ?_;refine(Zfc∘Zm∘Zdt) ?_;refine z9 (jb L (kh:=.i64) (ph:=0) (a.size+1) _ Z Z Z Z ⟨rfl,by omega⟩ Z I I x2) Z ?_;refine Zah (h:=?_);refine xp (yj L (q:=78) (cs':=[.string c]) Z Z Z Z Z) Z ((Zbh∘ZD∘Zb) ?_);refine qh (uz (gs:=77) hY hpre h3 (nh Bool.not hb') Z Z Z Z Z) ((Zw∘Z3) ?_);exact jk L 77 rfl (fun _ _ h=>h) nq Z (by rw[h2];show _=zrt (jm stop (ub pre) ([Value.string (a++sNl)]::ub (d6 c)));rw[Lc hb'])
def pd:Nat->wu->wu
 | _,[]=>[]
 | n,x::xs=>(Value.int .i64 (n:Int)::x)::pd (n+1) xs
def By:∀ {a b:wu} {n:Nat},pd n (a++b)=pd n a++pd (n+a.length) b
 | [],b,n=>rfl
 | x::a,b,n=>by
  show _::pd (n+1) (a++b)=_;rw[By,ma,show n+1+a.length=n+(a.length+1) by omega];rfl
def Dl(a:wu)(x:List Value):pd 1 (a++[x])=pd 1 a++[Value.int .i64 ((a.length+1:Nat):Int)::x]:=by
 rw[By,zo9 1];rfl
def Cs(stop:wu->Bool):∀ (xs pre:wu),pd 1 (jm (fun p=>stop (pd 1 p)) pre xs)=jm stop (pd 1 pre) (pd (1+pre.length) xs)
 | [],pre=>rfl
 | x::xs,pre=>by
  have e:pd 1 (pre++[x])=pd 1 pre++[Value.int .i64 ((1+pre.length:Nat):Int)::x]:=by rw[By];rfl
  show pd 1 (if stop (pd 1 (pre++[x]))=true then _ else _)=(if stop (pd 1 pre++[Value.int .i64 ((1+pre.length:Nat):Int)::x])=true then _ else _);rw[<-e];split
  ·rfl
  ·rw[Cs stop xs (pre++[x]),nr];rfl
def zam{l:List ByteArray}(h:pre++[x]<+:ub l):∃ y,x=[Value.string y]:=by
 have:x∈ub l:=h.subset (by simp);obtain⟨y,_,e⟩:=m7.1 this;exact⟨y,e.symm⟩
def Hl:∀ {l acc:List UInt8},(Uu acc l).length<=l.length+(if acc=[] then 0 else 1)
 | [],acc=>by
  show(if acc=[] then ([]:List (List UInt8)) else [acc]).length<=_;split<;>simp
 | c::l,acc=>by
  show(if c=10 then (acc++[c])::Uu [] l else Uu (acc++[c]) l).length<=_;split
  ·have:=Hl (l:=l) (acc:=[]);rw[na rfl] at this;simp only[ma];split<;>omega
  ·have:=Hl (l:=l) (acc:=acc++[c]);rw[nc (by simp)] at this;simp only[ma];split<;>omega
def sd(s:ByteArray):(d6 s).length<=s.size:=by
 unfold d6;rw[mj];have:=Hl (l:=s.data.toList) (acc:=[]);rw[na rfl,jj] at this;exact this
def cnS(stop:wu->Bool)(pre:wu):Int:=if stop (pd 1 pre)=true then (pre.length:Int) else ((pre.length+1:Nat):Int)
def zas(h:stop (pd 1 pre)=false):cnS stop pre=((pre.length+1:Nat):Int):=nc (by rw[h];decide)
def zdz(h:stop (pd 1 pre)=true):cnS stop pre=(pre.length:Int):=na h
def S4(hB:zry B w):
  RetO zrz 199 [.string s] w B (Ko (fun b:Nat=>.func (.func 257) #[] #[kg b]) fun b=>xe b [.string s] K5):=by
 refine wj Tryz.func199 Z Tryz.ntmps199 (np Z) hB ((ZaU∘Zc) ?_);refine ku 1 900 rfl fun b=>?_;refine(Z9∘ZaQ∘Ze) ?_;exact P3 L 900 (r0:=xe b [.string s] K5) (v:=.func (.func 257) #[] #[kg b]) (rs:=[.tmp 2]) Z (fun _ _ h=>h) nq Z (fun _=>rfl) (fun H u C hle _ hr=>⟨b,rfl,hr⟩)
def Ds(hs:s.size<=1099511627776)(hB:zry B w)(hb:B sb=some (.cells #[.string s] K5)):zli zrz 198 [kg sb] w B (pd 1 (ub (d6 s))):=by
 intro ly zrt stop C hst hY hJ hC;refine xh 77 (zrt []) Tryz.func198 Z Tryz.ntmps198 (np Z) hB hJ hC ((ZaU∘Zg) ?_);refine ku 2 81 rfl fun yb=>?_;refine wn 81 rfl fun H1 hs1 _ hyb=>?_;refine(Z9∘ZbW) ?_;refine ku 3 79 rfl fun nb=>?_;have hb1:=hs1.le _ _ hb;refine ZS (h:=?_);refine z7 (ql L (qw Z hb1) Z Z Z Z) Z (z7 (uk L Z Z (zp Z) Z Z Z (fun u H hH _ _=>S4 hH)) Z (Zdg (h:=?_)));refine R9 6 80 rfl fun b=>?_
 refine No L 80 (gr:=xe b [.string s] K5) (gf:=257) (caps:=[kg b]) [(2,kg yb),(3,kg nb)]
  (fun pre=>[(77,(zrt (pd 1 pre)).res),(79,xn nb [.int .i64 (cnS stop pre)] 3)])
  (fun pre x=>[(77,.own (zrt (pd 1 pre)).res),(79,.own (xn nb [.int .i64 ((pre.length+1:Nat):Int)] 3)),(2,.is (kg yb)),(3,.is (kg nb)),(4,.is (x.headD undef))])
  (ub (d6 s)) (fun p=>stop (pd 1 p)) (fun _=>.ret) rfl rfl rfl rfl
  (fun pre p hp=>by simp only[nz,mz,zok,or_false] at hp;rcases hp with rfl | rfl<;>exact Nat.ne_of_beq_eq_false rfl) ⟨rfl,by rw[zas hst];rfl,rfl,rfl,nm⟩
  (fun pre p hp=>by simp only[nz,mz,zok,or_false] at hp;rcases hp with rfl | rfl<;>exact np rfl) hst (fun x hx=>by obtain⟨y,_,rfl⟩:=m7.1 hx;rfl) T
  (fun u H hH hle=>zci hs hH) ?asg ?bd ?dn ?st
 case asg=>
  intro w1 Ln B' l' D' o pre x' hpre hstp hBB;obtain⟨y,rfl⟩:=zam hpre;refine(Zy∘Zao) ?_;exact Uq nq ⟨Z,by rw[<-zas hstp];rfl,Z,Z,Z,nm⟩
 case bd=>
  intro w1 Ln B' l' D' o pre x' hpre hstp hBB;have hlen:=hpre.length_le;obtain⟨y,rfl⟩:=zam hpre;have hll:=sd s;simp only[nr,mj,ma,m5] at hlen;have hyb2:=hBB _ _ hyb
  have hpre':pd 1 pre++[[Value.int .i64 ((pre.length+1:Nat):Int),Value.string y]]<+:pd 1 (ub (d6 s)):=by
   obtain⟨t,ht⟩:=hpre;rw[<-ht,By,Dl];exact List.prefix_append _ _
  have hwk:IntKind.i64.wrap (((pre.length+1:Nat):Int)+1)=((pre.length+1+1:Nat):Int):=xd I I;have e3:pd 1 (pre++[[Value.string y]])=pd 1 pre++[[Value.int .i64 ((pre.length+1:Nat):Int),Value.string y]]:=Dl _ _;have hpl:(pre++[[Value.string y]]).length=pre.length+1:=by simp
  cases hb':stop (pd 1 pre++[[Value.int .i64 ((pre.length+1:Nat):Int),Value.string y]])
  ·refine(Zaz∘Zd∘Zs) ?_;refine z7 (ql L (qw Z hyb2) Z Z Z Z) Z (y9 (qk L (q:=79) Z Z Z Z) (Za (h:=?_)));refine qh (uz (gs:=77) hY hpre' hstp (nh Bool.not hb') Z Z Z Z Z) ((Zw∘Zas∘ZbA∘ZT) ?_);refine y9 (qk L (q:=79) Z Z Z Z) (ZF (h:=?_));refine xg (yj L (q:=79) (cs':=[.int .i64 ((pre.length+1+1:Nat):Int)]) Z Z Z Z Z) ((Zac∘Zau) ?_);exact Ur nq (by rw[e3];exact hb') ⟨by rw[e3];rfl,by rw[zas (by rw[e3];exact hb'),hpl];rfl,nm⟩
  ·refine(Zaz∘Zd∘Zs) ?_;refine z7 (ql L (qw Z hyb2) Z Z Z Z) Z (y9 (qk L (q:=79) Z Z Z Z) (Za (h:=?_)));refine qh (uz (gs:=77) hY hpre' hstp (nh Bool.not hb') Z Z Z Z Z) ((Zw∘Z3) ?_);exact tu (Eo (aw (Kq nq (by rw[e3];exact hb') Z ⟨by rw[e3];rfl,by rw[zdz (by rw[e3];exact hb'),hpl];rfl,nm⟩)))
 case st=>
  intro l' D' o hstop;exact jk L 77 rfl (fun _ _ h=>h) hs1 Z (by rw[Cs];rfl)
 case dn=>
  intro l' D' o hgo;exact xz L 77 rfl (fun _ _ h=>h) hs1 Z (by rw[Cs];rfl)
def LinAt(s:ByteArray)(v:Value)(H:Heap):Prop:=∃ b,v=.func (.func 198) #[] #[kg b]/\H b=some (.cells #[.string s] K5)
def LinAt.mono:Kn.mono (.sat (LinAt s)):=fun _ _ _ ⟨b,h1,h2⟩ hle=>⟨b,h1,hle _ _ h2⟩
def Mr(hB:zry B w):Ret zrz 129 [.string s] w B (LinAt s):=by
 refine yo Tryz.func129 Z Tryz.ntmps129 (np Z) hB ((ZaU∘Zc) ?_);refine ku 1 900 rfl fun b=>?_;refine wn 900 rfl fun H1 hs1 _ hyb=>?_;refine(Z9∘ZaQ∘Ze) ?_;refine yl L (rs:=[.tmp 2]) Z (fun _ _ h=>h) hs1 fun u H hH hle=>?_;exact⟨b,rfl,hle _ _ hyb⟩
end Go.V.L11
end
namespace Go.V.L11
open Go.V.L2 Go.V.L4
def t5(p:wu):List ByteArray:=p.map fun x=>match x with
 | [_,.string y]=>y
 | _=>⟨#[]⟩
def k7:∀ {ls:List ByteArray} {n:Nat},t5 (pd n (ub ls))=ls
 | [],_=>rfl
 | x::ls,n=>by
  show x::t5 (pd (n+1) (ub ls))=_;rw[k7]
def zdw(a b:List ByteArray):ub (a++b)=ub a++ub b:=znp ..
def rz(ls:List ByteArray)(y:ByteArray):pd 1 (ub (ls++[y]))=pd 1 (ub ls)++[[Value.int .i64 ((ls.length+1:Nat):Int),Value.string y]]:=by
 rw[zdw];have:=Dl (ub ls) [Value.string y];rw[mj] at this;exact this
def X8:∀ {L:List ByteArray} {n:Nat} {p:wu},p<+:pd n (ub L)->∃ ls,p=pd n (ub ls)/\ls<+:L
 | [],n,p,h=>⟨[],List.prefix_nil.1 h,List.prefix_rfl⟩
 | x::L,n,[],h=>⟨[],rfl,List.nil_prefix⟩
 | x::L,n,q::p,h=>by
  have h':q::p<+:[Value.int .i64 (n:Int),Value.string x]::pd (n+1) (ub L):=h;rw[List.cons_prefix_cons] at h';obtain⟨rfl,h2⟩:=h';obtain⟨ls,rfl,h3⟩:=X8 h2;exact⟨x::ls,rfl,List.cons_prefix_cons.2 ⟨rfl,h3⟩⟩
def Fl{L:List ByteArray}(h:pre++[x]<+:pd 1 (ub L)):∃ ls y,pre=pd 1 (ub ls)/\x=[Value.int .i64 ((ls.length+1:Nat):Int),Value.string y]/\ls++[y]<+:L:=by
 obtain⟨ls,e,hp⟩:=X8 h;rcases zrm ls with rfl | ⟨ls',y,rfl⟩
 ·exact ni e (by simp [ub,pd])
 ·rw[zra] at e hp;rw[rz] at e;obtain⟨h1,h2⟩:=List.append_inj' e rfl;exact⟨ls',y,h1,by simpa using h2,hp⟩
def ed{X:Type}(rd:ByteArray->X×Int):∀ (xs ls:List ByteArray),w7 rd 1 ls=true->
  ∃ ks,jm (fun p=>!w7 rd 1 (t5 p)) (pd 1 (ub ls)) (pd (1+ls.length) (ub xs))=pd 1 (ub ks)/\a7 rd [] 1 ks=a7 rd [] 1 (ls++xs)/\(w7 rd 1 ks=true->ks=ls++xs)
 | [],ls,h=>⟨ls,rfl,by rw[mp],fun _=>(mp _).symm⟩
 | x::xs,ls,h=>by
  have e1:pd 1 (ub ls)++[[Value.int .i64 ((1+ls.length:Nat):Int),Value.string x]]=pd 1 (ub (ls++[x])):=by rw[rz,zo9 1]
  show ∃ ks,(if (!w7 rd 1 (t5 (pd 1 (ub ls)++[[Value.int .i64 ((1+ls.length:Nat):Int),Value.string x]])))=true then _ else _)=_/\_;rw[e1,k7];cases hg:w7 rd 1 (ls++[x])
  ·refine⟨ls++[x],na Z,?_,fun h'=>by rw[hg] at h';cases h'⟩;rw[v6,h] at hg;exact(zcv h (by simpa using hg)).symm
  ·obtain⟨ks,h1,h2,h3⟩:=ed rd xs (ls++[x]) hg;refine⟨ks,?_,by rw[h2,mo];rfl,fun h'=>by rw[h3 h',mo];rfl⟩;rw[nc T,<-h1,nr];rfl
def tup3{φ1 φ2 φ3:Value->Heap->Prop}{a b c:Value}(h1:φ1 a H)(h2:φ2 b H)(h3:φ3 c H):TupS [φ1,φ2,φ3] (.tuple #[a,b,c]) H:=⟨[a,b,c],rfl,rfl,fun i φ x hi hx=>by
 match i with
 | 0=>cases hi;cases hx;exact h1
 | 1=>cases hi;cases hx;exact h2
 | 2=>cases hi;cases hx;exact h3⟩
open Go.V.L6
attribute [local irreducible] V N X VO Par XP LV StepOK Has Ret RetL RetO RetT ky RetX RetY Pan ay Src
end Go.V.L11
namespace Go.V.Bd
open Go.V.L4
def zgf(h0:bs≠[]){p:Option Addr}{c:Nat}:∀ v H u C,(AtV (.slice p k c) (SlR o3 1 bs.length (byV bs))).P v H u C->∃ b cap,Value.slice p k c=.slice (some ⟨b,0,none⟩) bs.length cap/\bs.length<=cap:=fun v H u C ⟨_,h⟩=>by
 rcases h with ⟨h,_⟩ | ⟨b,cap,rest,hv,_,hnc,_⟩
 ·exact ni (m8 h) h0
 ·exact⟨b,cap,hv,hnc⟩
attribute [local irreducible] V N X VO Par StepOK Has Ret RetL RetO RetT ky RetX RetY Src
def E7{bb:Nat}{bs:List Nat}(hb:∀ b∈bs,b<=255)(h0:bs≠[])(hl:bs.length<=1099511627776)(hB:zry B w)(hr:(GBd bb bs).P B w C)(hC:ZCB C w B):
  RetX zrz 124 [kg bb] w B C GNo (.string (dh bs)):=by
 unfold RetX;refine xh 900 (GBd bb bs) Tryz.func124 Z Tryz.ntmps124 (np Z) hB hr hC ?_;refine uu (X:=Value×Value) 900 (r:=fun x=>(GBv bb bs x).res) (φ:=fun x _=>zid bb x) (hφ:=bo bb) Z fun x H0 hs0 hx=>?_;obtain⟨p,sv⟩:=x;obtain⟨hpp,hsl⟩:=hx;dsimp only at hpp hsl |-;obtain⟨p1,k1,c1,rfl⟩:=hsl;refine v8 (r1:=xn bb [p,.slice p1 k1 c1] Cm) (r2:=(GSl (.slice p1 k1 c1) bs).res) 900 901 rfl (xm _) ?_;rw[Dx];refine zkx 901 _ Z (zgf h0) fun hk=>?_;obtain⟨b,cap,hv,hcap⟩:=hk;cases hv;have hlp:0<bs.length:=zp1.2 h0;refine(Zad∘Zc) ?_;refine qp (id:=1) [(200006,[900]),(200011,[900]),(13,[901])] kj J (Zbr (h:=?_));refine z9 (Me Z Z Z I) Z ((Zbr∘ZcE) ?_);refine xx (Md (q:=901) hb h0 hl Z Z Z Z Z J J) Z Z (Zav (h:=?_));exact ka L 901 (r:=GNo) (rs:=[.tmp 2]) Z (fun _ _ h=>h) hs0 Z Z (fun _=>rfl)
def Ct{bb:Nat}{p:Value}(hB:zry B w)(hr:(xe bb [p,.slice none 0 0] Cm).P B w C)(hC:ZCB C w B):
  RetX zrz 124 [kg bb] w B C (xe bb [p,.slice none 0 0] Cm) (.string .empty):=by
 unfold RetX;refine xh 900 (xe bb [p,.slice none 0 0] Cm) Tryz.func124 Z Tryz.ntmps124 (np Z) hB hr hC ?_;rw[xf];refine(Zad∘Zc) ?_;refine qp (id:=1) [(200006,[900]),(200011,[900])] kj J (Zbr (h:=?_));refine z9 (G6 Z Z Z) Z ((Zbr∘ZcE) ?_);refine z9 (G5 Z Z Z Z) Z (Zav (h:=?_));exact ka L 900 (r:=xe bb _ Cm) (rs:=[.tmp 2]) Z (fun _ _ h=>h) nq Z Z (fun _=>rfl)
end Go.V.Bd
namespace Go.V.L11
open Go.V.L2 Go.V.L4 Go.V.Bd
def Bj(t:U):ByteArray:=(⟨#[]⟩++tT t)++⟨#[10]⟩
def o7(l:List U):List Nat:=l.flatMap fun t=>g9 (Bj t)
def zbx:List U->Int
 | []=>0
 | t::l=>if tE t≠0 then tE t else zbx l
def Ve{l:List U}(hi:l[i]?=some t):zbx (l.drop i)=if tE t≠0 then tE t else zbx (l.drop (i+1)):=by
 rw[zn0 (get_lt hi),gk hi];rfl
def E2{l:List U}(hi:l[i]?=some t):o7 (l.take (i+1))=o7 (l.take i)++g9 (Bj t):=by
 unfold o7;rw[cp hi,znw,znz,zqi,mp]
def o6{l:List U}(hs:∀ t∈l,(Bj t).size<=1000):∀ i,(o7 (l.take i)).length<=i*1000
 | 0=>by rw[zn6];exact nu _
 | i+1=>by
  cases h:l[i]? with
  | none=>
   have:=zqy.1 h;rw[znl I];have h2:=o6 hs i;rw[znl I] at h2;omega
  | some t=>
   rw[E2 h,nr,vw];have h2:=o6 hs i;have:=hs t (m9 h);omega
def Kg(s:ByteArray):∀ b∈g9 s,b<=255:=fun b hb=>by
 obtain⟨c,_,rfl⟩:=m7.1 hb;have:=c.toNat_lt;omega
def zb4(l:List U):∀ b∈o7 l,b<=255:=fun b hb=>by
 obtain⟨t,_,h⟩:=zp0.1 hb;exact Kg _ b h
attribute [local irreducible] V N X VO Par StepOK Has Ret RetL RetO RetT ky RetX RetY Src
def id_ret(hB:zry B w):Ret zrz 53 [uv t] w B (fun v _=>v=uv t):=by
 refine yo Tryz.func53 Z Tryz.ntmps53 (np Z) hB ((Z0∘ZC∘Zby∘ZdA∘Zab) ?_);refine yl1 L [.cell 2 34] fun u H hH hle=>?_;exact⟨_,qy Z,rfl,rfl⟩
def none_ret(hB:zry B w):Ret zrz 54 [uv t] w B (fun v _=>v=.string ⟨#[]⟩):=by
 refine yo Tryz.func54 Z Tryz.ntmps54 (np Z) hB ((Z0∘ZaH∘Ze) ?_);exact yl2 L [.tmp 2]
def Ms(t:U):(Bj t).size=(tT t).size+1:=by
 unfold Bj;rw[zno,zno];have h1:(⟨#[]⟩:ByteArray).size=0:=rfl;have h2:(⟨#[10]⟩:ByteArray).size=1:=rfl;omega
def zb3{l:List U}(h:l≠[]):o7 l≠[]:=fun e=>by
 cases l with
 | nil=>exact h rfl
 | cons t l=>
  unfold o7 at e;rw[znz] at e;have h1:=(List.append_eq_nil_iff.1 e).1;have h2:=vw (Bj t);rw[h1,Ms] at h2;cases h2
def text_ret{l:List U}(hln:l.length<=4096)(hz:∀ t∈l,TZ t)(hs:∀ t∈l,(Bj t).size<=1000)(hB:zry B w)(hv:US l fu v B):
  Ret zrz 52 [v,.func (.func 53) #[] #[],.func (.func 54) #[] #[]] w B (fun r _=>r=.tuple #[.string (if zbx l≠0 then ⟨#[]⟩ else dh (o7 l)),.int .i64 (zbx l)]):=by
 refine yo Tryz.func52 Z Tryz.ntmps52 (np Z) hB (jf 0 (US l fu) Z nw hv ((Zbj∘ZM∘Zl∘Zca∘Zy∘Zbz) ?_));refine ku 8 900 rfl fun bb=>?_;by_cases hl0:l=[]
 ·subst hl0;refine(Zs∘Zl∘Zcm) ?_;refine xq (fun _:Nat=>[(8,.is (kg bb)),(16,.is (.int .i64 0)),(17,.is (.int .i64 0)),(900,.own (xn bb [.pointer none,.slice none 0 0] Cm))]) (fun _=>True) (fun i=>i) 0 trivial ⟨Z,Z,Z,Z,nm⟩ ?_;rintro _ _;refine(Zf∘ZT∘ZbB∘ZW) ?_;refine qh (yi L 900 (xe bb [.pointer none,.slice none 0 0] Cm) (.string .empty) (r:=xe bb [.pointer none,.slice none 0 0] Cm) Z Z Z Z Z (fun u H C hH _ hr hC=>Ct hH hr hC)) (ZA (h:=?_));exact yl2 L [.tmp 6,.tmp 7]
 ·refine Au 901 o3 1 (Ze7 (h:=?_));refine bq (X:=Value×Value) 900 (r:=fun x=>(GBv bb [] x).res) (φ:=fun x _=>zid bb x) (bo bb) (.pointer none,.slice none 0 0) ⟨.inl Z,_,_,_,rfl⟩ Z ((Zs∘Zl∘Zcm) ?_);refine xq (fun i:Nat=>[(1,.is (.func (.func 53) #[] #[])),(2,.is (.func (.func 54) #[] #[])),(8,.is (kg bb)),(15,.sat (US l fu)),(16,.is (.int .i64 l.length)),(17,.is (.int .i64 i)),(900,.own (GBd bb (o7 (l.take i))).res)]) (fun i=>i<=l.length/\zbx (l.drop i)=zbx l) (fun i=>l.length-i) 0 ⟨mf _,rfl⟩ ⟨Z,Z,Z,Z,Z,Z,Z,nm⟩ ?_;rintro i ⟨hi,hte⟩;dsimp only at hi hte |-;by_cases hlt:i<l.length
  ·obtain⟨t,ht⟩:=xu hlt;have hcr:=ix ht;have hzt:=hz t (m9 ht);have hst:=hs t (m9 ht);have hsl:=Ms t;rw[Ve ht] at hte;have hsn:=E2 ht;have hbl:=o6 hs i;have hwk:IntKind.i64.wrap ((i:Int)+1)=((i+1:Nat):Int):=xd I I;by_cases he:tE t=0
   ·rw[nc (fun h=>h he)] at hte;have hs1:(⟨#[]⟩:ByteArray).size+(tT t).size<=9223372036854775807:=by have h1:(⟨#[]⟩:ByteArray).size=0:=rfl;omega
    have hs2:((⟨#[]⟩:ByteArray)++tT t).size+(⟨#[10]⟩:ByteArray).size<=9223372036854775807:=by rw[zno];have h1:(⟨#[]⟩:ByteArray).size=0:=rfl;have h2:(⟨#[10]⟩:ByteArray).size=1:=rfl;omega
    refine(Zf∘ZT∘ZN∘ZD∘Zbn∘Zb9∘ZbF∘Z5∘Zaq) ?_;refine z71 L Z (fun u H hH _=>id_ret hH) ?_;refine z71 L Z (fun u H hH _=>kx hzt hH) ?_;refine(Zc∘ZaM∘Za7∘Zas∘ZbA) ?_;refine qp (id:=10) [(37,[900])] kj J ((Zm∘ZdR) ?_);refine z91 L Z (fun u H hH _=>none_ret hH) ?_;refine(Zm∘ZdR) ?_;refine z91 L Z (fun u H hH _=>id_ret hH) ?_;refine z91 L Z (fun u H hH _=>K7 hzt hH) ?_;refine(ZdF∘ZdF) ?_;refine xx (yi L 900 (GBd bb (o7 (l.take (i+1)))) (.tuple #[.int .i64 (Bj t).size,.nilIface]) (r:=GBd bb (o7 (l.take i))) Z Z Z Z Z (fun u H C hH _ hr hC=>by rw[hsn];exact write_ret (str:=Bj t) I hH hr hC)) Z Z ?_;refine(Zco∘Zax∘ZG∘ZF∘ZcZ) ?_;exact yv (x:=i) (i+1) ⟨hlt,hte⟩ I ⟨Z,Z,Z,Z,Z,Z,Z,nm⟩
   ·rw[na he] at hte;refine(Zf∘ZT∘ZN∘ZD∘Zbn∘Zb9∘ZbF∘Z5∘Zaq) ?_;refine z71 L Z (fun u H hH _=>id_ret hH) ?_;refine z71 L Z (fun u H hH _=>kx hzt hH) ?_;refine(Zc∘ZaM∘ZY∘Za3∘ZA) ?_;refine yl1 L [.tmp 6,.tmp 7] fun u H hH hle=>?_;rw[<-hte,na he];rfl
  ·obtain rfl:i=l.length:=by omega
   rw[zpi] at hte;rw[znq];have hbl:=o6 hs l.length;rw[znq] at hbl;refine(Zf∘ZT∘ZbB∘ZW) ?_;refine qh (yi L 900 GNo (.string (dh (o7 l))) (r:=GBd bb (o7 l)) Z Z Z Z Z (fun u H C hH _ hr hC=>E7 (zb4 l) (zb3 hl0) I hH hr hC)) (ZA (h:=?_));refine yl1 L [.tmp 6,.tmp 7] fun u H hH hle=>?_;rw[<-hte];rfl
def Vk(l:List U):ByteArray×Int:=if 4096<l.length then (⟨#[]⟩,3) else (if zbx l≠0 then ⟨#[]⟩ else dh (o7 l),zbx l)
def N7{l:List U}{f g:Value}(hln:4096<l.length)(hB:zry B w)(hv:US l fu v B):
  Ret zrz 52 [v,f,g] w B (fun r _=>r=.tuple #[.string ⟨#[]⟩,.int .i64 3]):=by
 refine yo Tryz.func52 Z Tryz.ntmps52 (np Z) hB (jf 0 (US l fu) Z nw hv ((Zbj∘ZM∘Zl∘ZJ∘Zbd∘ZA) ?_));exact yl2 L [.tmp 6,.tmp 7]
def Uw{l:List U}(hz:∀ t∈l,TZ t)(hs:∀ t∈l,(Bj t).size<=1000)(hB:zry B w)(hv:US l fu v B):
  Ret zrz 12 [v] w B (fun r _=>r=.tuple #[.string (Vk l).1,.int .i64 (Vk l).2]):=by
 unfold Vk;refine yo Tryz.func12 Z Tryz.ntmps12 (np Z) hB (jf 0 (US l fu) Z nw hv ?_);by_cases hln:4096<l.length
 ·rw[na hln];refine(Zbj∘ZaH∘Zk) ?_;refine z7 (qe L Z Z (zp Z) Z Z Z (fun u H hH hle _ v1 h1=>N7 hln hH h1)) Z ((ZbM∘ZA) ?_);exact yl2 L [.tmp 2,.tmp 3]
 ·rw[nc hln];refine(Zbj∘ZaH∘Zk) ?_;refine z7 (qe L Z Z (zp Z) Z Z Z (fun u H hH hle _ v1 h1=>text_ret I hz hs hH h1)) Z ((ZbM∘ZA) ?_);exact yl2 L [.tmp 2,.tmp 3]
open Go.V.L8
def _root_.Zdf(t:Wr Y->A:=by intro h;refine z7 (yw L (vs:=[_,_,_,_,_,_,_]) Z Z Z Z Z ⟨_,rfl⟩) Z ?_;exact h.1)(h:Y):A:=t ⟨h⟩
def _root_.Zfd(t:Wr Y->A:=by intro h;refine z9 (qg L (vs:=[_,_,_,_,_,_,_]) (qy Z) Z Z Z Z ⟨_,rfl⟩) Z ?_;exact h.1)(h:Y):A:=t ⟨h⟩
abbrev cvC(t:CH):Value:=.agg #[.string t.1.1.1.1,.string t.1.1.1.2,.string t.1.1.2,.string t.1.2.1.1,.string t.1.2.1.2,.string t.1.2.2,.bool t.2]
def zif(t:CH):ByteArray:=if t.2=true then ⟨#[45]⟩ else ⟨#[43]⟩
def Gs(t:CH):(zif t).size=1:=by unfold zif;split<;>rfl
def Bl(t:CH):ByteArray:=(zif t++tT t.1)++⟨#[10]⟩
def o5(l:List CH):List Nat:=l.flatMap fun t=>g9 (Bl t)
def zbw:List CH->Int
 | []=>0
 | t::l=>if tE t.1≠0 then tE t.1 else zbw l
def Vd{t:CH}(hi:l[i]?=some t):zbw (l.drop i)=if tE t.1≠0 then tE t.1 else zbw (l.drop (i+1)):=by
 rw[zn0 (get_lt hi),gk hi];rfl
def E1{t:CH}(hi:l[i]?=some t):o5 (l.take (i+1))=o5 (l.take i)++g9 (Bl t):=by
 unfold o5;rw[cp hi,znw,znz,zqi,mp]
def o4{l:List CH}(hs:∀ t∈l,(Bl t).size<=1000):∀ i,(o5 (l.take i)).length<=i*1000
 | 0=>by rw[zn6];exact nu _
 | i+1=>by
  cases h:l[i]? with
  | none=>
   have:=zqy.1 h;rw[znl I];have h2:=o4 hs i;rw[znl I] at h2;omega
  | some t=>
   rw[E1 h,nr,vw];have h2:=o4 hs i;have:=hs t (m9 h);omega
def zb2(l:List CH):∀ b∈o5 l,b<=255:=fun b hb=>by
 obtain⟨t,_,h⟩:=zp0.1 hb;exact Kg _ b h
def tup_ret{t:CH}(hB:zry B w):Ret zrz 56 [cvC t] w B (fun v _=>v=uv t.1):=by
 refine yo Tryz.func56 Z Tryz.ntmps56 (np Z) hB ((Z0∘ZC∘Zby∘Zcj∘Zab) ?_);refine yl1 L [.cell 2 34] fun u H hH hle=>?_;exact⟨_,qy Z,rfl,rfl⟩
def zgg{t:CH}(hB:zry B w):Ret zrz 57 [cvC t] w B (fun v _=>v=.string (zif t)):=by
 obtain⟨t,d⟩:=t;refine yo Tryz.func57 Z Tryz.ntmps57 (np Z) hB ?_;dsimp only[cvC];refine(Z0∘Zj) ?_
 cases d with
 | true=>
  refine(Z9∘Z8∘Zbd∘Ze) ?_;exact yl2 L [.tmp 2]
 | false=>
  refine(Z9∘Z8∘Zo∘Zy∘Ze) ?_;exact yl2 L [.tmp 2]
def Ft(t:CH):(Bl t).size=(tT t.1).size+2:=by
 unfold Bl;rw[zno,zno];have h1:=Gs t;have h2:(⟨#[10]⟩:ByteArray).size=1:=rfl;omega
def zb1(h:l≠[]):o5 l≠[]:=fun e=>by
 cases l with
 | nil=>exact h rfl
 | cons t l=>
  unfold o5 at e;rw[znz] at e;have h1:=(List.append_eq_nil_iff.1 e).1;have h2:=vw (Bl t);rw[h1,Ft] at h2;cases h2
def Vl{l:List CH}(hln:l.length<=4096)(hz:∀ t∈l,TZ t.1)(hs:∀ t∈l,(Bl t).size<=1000)(hB:zry B w)(hv:KS tyC l fu v B):
  Ret zrz 55 [v,.func (.func 56) #[] #[],.func (.func 57) #[] #[]] w B (fun r _=>r=.tuple #[.string (if zbw l≠0 then ⟨#[]⟩ else dh (o5 l)),.int .i64 (zbw l)]):=by
 refine yo Tryz.func55 Z Tryz.ntmps55 (np Z) hB (jf 0 (KS tyC l fu) Z nw hv ((Zbj∘ZM∘Zl∘Zca∘Zy∘Zbz) ?_));refine ku 8 900 rfl fun bb=>?_;by_cases hl0:l=[]
 ·subst hl0;refine(Zs∘Zl∘Zcm) ?_;refine xq (fun _:Nat=>[(8,.is (kg bb)),(16,.is (.int .i64 0)),(17,.is (.int .i64 0)),(900,.own (xn bb [.pointer none,.slice none 0 0] Cm))]) (fun _=>True) (fun i=>i) 0 trivial ⟨Z,Z,Z,Z,nm⟩ ?_;rintro _ _;refine(Zf∘ZT∘ZbB∘ZW) ?_;refine qh (yi L 900 (xe bb [.pointer none,.slice none 0 0] Cm) (.string .empty) (r:=xe bb [.pointer none,.slice none 0 0] Cm) Z Z Z Z Z (fun u H C hH _ hr hC=>Ct hH hr hC)) (ZA (h:=?_));exact yl2 L [.tmp 6,.tmp 7]
 ·refine Au 901 o3 1 (Ze7 (h:=?_));refine bq (X:=Value×Value) 900 (r:=fun x=>(GBv bb [] x).res) (φ:=fun x _=>zid bb x) (bo bb) (.pointer none,.slice none 0 0) ⟨.inl Z,_,_,_,rfl⟩ Z ((Zs∘Zl∘Zcm) ?_);refine xq (fun i:Nat=>[(1,.is (.func (.func 56) #[] #[])),(2,.is (.func (.func 57) #[] #[])),(8,.is (kg bb)),(15,.sat (KS tyC l fu)),(16,.is (.int .i64 l.length)),(17,.is (.int .i64 i)),(900,.own (GBd bb (o5 (l.take i))).res)]) (fun i=>i<=l.length/\zbw (l.drop i)=zbw l) (fun i=>l.length-i) 0 ⟨mf _,rfl⟩ ⟨Z,Z,Z,Z,Z,Z,Z,nm⟩ ?_;rintro i ⟨hi,hte⟩;dsimp only at hi hte |-;by_cases hlt:i<l.length
  ·obtain⟨t,ht⟩:=xu hlt;have hcr:=Eu ht;have hzt:=hz t (m9 ht);have hst:=hs t (m9 ht);have hsl:=Ft t;rw[Vd ht] at hte;have hsn:=E1 ht;have hbl:=o4 hs i;have hwk:IntKind.i64.wrap ((i:Int)+1)=((i+1:Nat):Int):=xd I I;by_cases he:tE t.1=0
   ·rw[nc (fun h=>h he)] at hte;have hs1:(zif t).size+(tT t.1).size<=9223372036854775807:=by have h1:=Gs t;omega
    have hs2:(zif t++tT t.1).size+(⟨#[10]⟩:ByteArray).size<=9223372036854775807:=by rw[zno];have h1:=Gs t;have h2:(⟨#[10]⟩:ByteArray).size=1:=rfl;omega
    refine(Zf∘ZT∘ZN∘ZD∘Zbn∘Zdf∘ZbF∘Z5∘Zdj) ?_;refine z71 L Z (fun u H hH _=>tup_ret hH) ?_;refine z71 L Z (fun u H hH _=>kx hzt hH) ?_;refine(Zc∘ZaM∘Za7∘Zas∘ZbA) ?_;refine qp (id:=10) [(37,[900])] kj J ((Zm∘Zfd) ?_);refine z91 L Z (fun u H hH _=>zgg hH) ?_;refine(Zm∘Zfd) ?_;refine z91 L Z (fun u H hH _=>tup_ret hH) ?_;refine z91 L Z (fun u H hH _=>K7 hzt hH) ?_;refine(ZdF∘ZdF) ?_;refine xx (yi L 900 (GBd bb (o5 (l.take (i+1)))) (.tuple #[.int .i64 (Bl t).size,.nilIface]) (r:=GBd bb (o5 (l.take i))) Z Z Z Z Z (fun u H C hH _ hr hC=>by rw[hsn];exact write_ret (str:=Bl t) I hH hr hC)) Z Z ?_;refine(Zco∘Zax∘ZG∘ZF∘ZcZ) ?_;exact yv (x:=i) (i+1) ⟨hlt,hte⟩ I ⟨Z,Z,Z,Z,Z,Z,Z,nm⟩
   ·rw[na he] at hte;refine(Zf∘ZT∘ZN∘ZD∘Zbn∘Zdf∘ZbF∘Z5∘Zdj) ?_;refine z71 L Z (fun u H hH _=>tup_ret hH) ?_;refine z71 L Z (fun u H hH _=>kx hzt hH) ?_;refine(Zc∘ZaM∘ZY∘Za3∘ZA) ?_;refine yl1 L [.tmp 6,.tmp 7] fun u H hH hle=>?_;rw[<-hte,na he];rfl
  ·obtain rfl:i=l.length:=by omega
   rw[zpi] at hte;rw[znq];have hbl:=o4 hs l.length;rw[znq] at hbl;refine(Zf∘ZT∘ZbB∘ZW) ?_;refine qh (yi L 900 GNo (.string (dh (o5 l))) (r:=GBd bb (o5 l)) Z Z Z Z Z (fun u H C hH _ hr hC=>E7 (zb2 l) (zb1 hl0) I hH hr hC)) (ZA (h:=?_));refine yl1 L [.tmp 6,.tmp 7] fun u H hH hle=>?_;rw[<-hte];rfl
def Vj(l:List CH):ByteArray×Int:=if 4096<l.length then (⟨#[]⟩,3) else (if zbw l≠0 then ⟨#[]⟩ else dh (o5 l),zbw l)
def La{f g:Value}(hln:4096<l.length)(hB:zry B w)(hv:KS tyC l fu v B):
  Ret zrz 55 [v,f,g] w B (fun r _=>r=.tuple #[.string ⟨#[]⟩,.int .i64 3]):=by
 refine yo Tryz.func55 Z Tryz.ntmps55 (np Z) hB (jf 0 (KS tyC l fu) Z nw hv ((Zbj∘ZM∘Zl∘ZJ∘Zbd∘ZA) ?_));exact yl2 L [.tmp 6,.tmp 7]
def Si{l:List CH}(hz:∀ t∈l,TZ t.1)(hs:∀ t∈l,(Bl t).size<=1000)(hB:zry B w)(hv:KS tyC l fu v B):
  Ret zrz 13 [v] w B (fun r _=>r=.tuple #[.string (Vj l).1,.int .i64 (Vj l).2]):=by
 unfold Vj;refine yo Tryz.func13 Z Tryz.ntmps13 (np Z) hB (jf 0 (KS tyC l fu) Z nw hv ?_);by_cases hln:4096<l.length
 ·rw[na hln];refine(Zbj∘ZaH∘Zk) ?_;refine z7 (qe L Z Z (zp Z) Z Z Z (fun u H hH hle _ v1 h1=>La hln hH h1)) Z ((ZbM∘ZA) ?_);exact yl2 L [.tmp 2,.tmp 3]
 ·rw[nc hln];refine(Zbj∘ZaH∘Zk) ?_;refine z7 (qe L Z Z (zp Z) Z Z Z (fun u H hH hle _ v1 h1=>Vl I hz hs hH h1)) Z ((ZbM∘ZA) ?_);exact yl2 L [.tmp 2,.tmp 3]
end Go.V.L11
namespace Go.V.L8
open Go.V.L2 Go.V.L3 Go.V.L6
def zai{s:List U}(h0:cE 32 l=0)(h:∀ (j:Nat) x,j<i->l[j]?=some x->Bn s x=true)(hc:l[i]?=some c)(hh:Bn s c=false):sq s l=(i,13):=by
 unfold sq;rw[if_pos h0];exact Uc h hc hh
def Ub{s:List U}(h0:cE 32 l=0)(h:∀ (j:Nat) x,l[j]?=some x->Bn s x=true):sq s l=(l.length,0):=by
 unfold sq;rw[if_pos h0];exact Ud fun x hx=>let ⟨j,hj⟩:=List.getElem?_of_mem hx;h j x hj
attribute [local irreducible] V N X VO Par StepOK Has Ret RetL RetO RetT Src
def Kf{l:List CH}(hz:∀ c∈l,TM c.1)(hl:l.length<=9223372036854775807){e:Int}(he:cE 32 l=e)(hB:zry B w)(hv:KS tyC l fu v B):
  Ret zrz 192 [v] w B (fun r _=>r=.int .i64 e):=by
 obtain⟨p,m,c,rfl⟩:=Lm hv;refine yo Tryz.func192 Z Tryz.ntmps192 (np Z) hB ((Z0∘Zc) ?_);refine Ek 1 rfl fun q H1 hs1 ⟨b,hpb,hb1⟩=>?_;subst hpb;refine(Z9∘Zbt) ?_;refine vo 3 (KS tyC l fu) Z nw (hv.le hs1.le) ((ZdE∘ZaQ) ?_);refine z71 L Z (fun u H hH hle=>Fq (caps:=[.pointer (some ⟨b,0,none⟩)]) hz hl Z he hH (fun i c hc u' H' hH' hle'=>zh1 hc hH' (hle' _ _ (hle _ _ hb1)) ((hv.le hs1.le).le (Heap.Le.trans hle hle')))) ?_;refine Ze (h:=?_);refine yl L (rs:=[.tmp 2]) Z (fun _ _ h=>h) hs1 fun u H hH hle=>?_;rfl
def M1{s:List U}{b:Bool}(hb:Bn s c=b)(hB:zry B w)(hv:SetV s v B):Ret zrz 254 [v,chv c.1 c.2] w B (fun r _=>r=.bool b):=by
 subst hb;obtain⟨x,d⟩:=c;obtain⟨f1,p1,f2,q1,rfl,hpl⟩:=hv.shape;obtain⟨h,hh⟩:∃ h,decide (x∈s)=h:=⟨_,rfl⟩
 unfold Bn;dsimp only;rw[hh];refine yo Tryz.func254 Z Tryz.ntmps254 (np Z) hB ((ZaI∘Zc∘Zc7∘ZdT∘Zbo∘ZbO) ?_);refine z91 L Z (fun u H hH hle=>js hh hH (hv.le hle)) ?_;refine(Zbp∘ZeW∘Zav) ?_;refine yl1 L [.tmp 4] fun u H hH hle=>?_;cases h<;>cases d<;>rfl
def first_ret{s:List U}{l:List CH}(hz:∀ c∈l,TM c.1)(hl:l.length<=9223372036854775807){r:Nat}{e:Int}(hr:sq s l=(r,e))(hB:zry B w)(hs:SetV s sv B)(hv:KS tyM l fu v B):
  Ret zrz 193 [sv,v] w B (fun x _=>x=.tuple #[.int .i64 r,.int .i64 e]):=by
 obtain⟨f1,p1,f2,q1,rfl,hpl⟩:=hs.shape;refine yo Tryz.func193 Z Tryz.ntmps193 (np Z) hB (jf 1 (KS tyM l fu) Z nw hv ?_);by_cases h0:cE 32 l=0
 ·refine(Z0∘Zh∘ZM∘Zk) ?_;refine z7 (qe L Z Z (zp Z) Z Z Z (fun u H hH _ _ v1 h1=>io hz hl h0 hH h1)) Z ((ZbT∘Zch∘Zs∘Zl∘Zcm) ?_);refine xq (fun i:Nat=>[(1,.sat (KS tyM l fu)),(2,.sat (At [f1,.pointer p1,f2,.pointer q1] K6 0)),(14,.sat (KS tyM l fu)),(15,.is (.int .i64 l.length)),(16,.is (.int .i64 i))]) (fun i=>i<=l.length/\∀ (j:Nat) x,j<i->l[j]?=some x->Bn s x=true) (fun i=>l.length-i) 0 ⟨mf _,fun j c h=>ni h (zq5 _)⟩ ⟨Z,Z,Z,Z,Z,nm⟩ ?_;rintro i ⟨hi,hok⟩;by_cases hlt:i<l.length
  ·obtain⟨c,hc0⟩:=xu hlt;have hc:=Eu hc0;cases hh:Bn s c
   ·rw[zai h0 hok hc0 hh] at hr;cases hr;refine(Zf∘ZT∘ZN∘ZL∘Zbn∘Zdf∘ZC∘Zh∘ZaF∘Zg∘ZU∘Zde∘Zdj) ?_;refine z71 L Z (fun u H hH hle=>M1 hh hH (hs.le hle)) ?_;refine(Zw∘Zr∘ZaM∘ZA) ?_;exact yl2 L [.tmp 4,.tmp 5]
   ·refine(Zf∘ZT∘ZN∘ZL∘Zbn∘Zdf∘ZC∘Zh∘ZaF∘Zg∘ZU∘Zde∘Zdj) ?_;refine z71 L Z (fun u H hH hle=>M1 hh hH (hs.le hle)) ?_;refine(Zw∘Zcn∘ZE∘ZbR) ?_
    exact yv (x:=i) (i+1) ⟨hlt,fun j c' hj hc'=>by
     rcases zni j i with h | h
     ·exact hok j c' h hc'
     ·have:j=i:=I;subst this;rw[hc0] at hc';cases hc';exact hh⟩ I ⟨rfl,rfl,rfl,rfl,rfl,nm⟩
  ·rw[Ub h0 (fun j x hj=>hok j x (by have:=get_lt hj;omega) hj)] at hr;cases hr;refine(Zf∘ZT∘ZbB∘Zbf∘Zl∘ZA) ?_;exact yl2 L [.tmp 4,.tmp 5]
 ·have:sq s l=(0,cE 32 l):=nc h0;rw[this] at hr;cases hr;refine(Z0∘Zh∘ZM∘Zk) ?_;refine z7 (qe L Z Z (zp Z) Z Z Z (fun u H hH _ _ v1 h1=>io hz hl Z hH h1)) Z ((ZbT∘ZY∘Zx∘ZA) ?_);exact yl2 L [.tmp 4,.tmp 5]
def _root_.ZcP(t:Wr Y->A:=by intro h;refine z9 (qg L (vs:=[_,_,_,_]) (qy Z) Z Z Z Z ⟨_,rfl⟩) Z ?_;exact h.1)(h:Y):A:=t ⟨h⟩
def _root_.Zdk(t:Wr Y->A:=by intro h;refine qh (vj L Z Z Z (oq Z) Z zla Z Z I I) ?_;exact h.1)(h:Y):A:=t ⟨h⟩
def _root_.Zen(t:Wr Y->A:=by intro h;refine z7 (qg L (vs:=[_,_,_,_,_,_,_]) (yu Z (List.Mem.head _)) Z Z Z Z ⟨_,rfl⟩) Z ?_;exact h.1)(h:Y):A:=t ⟨h⟩
def _root_.Zdl(t:Wr Y->A:=by intro h;refine z9 (X0 Z Z Z Z bt4 Z) Z ?_;exact h.1)(h:Y):A:=t ⟨h⟩
def _root_.ZeF(t:Wr Y->A:=by intro h;refine z9 (qg L (vs:=[_,_,_,_,_,_]) (yu Z (List.Mem.head _)) Z Z Z Z ⟨_,rfl⟩) Z ?_;exact h.1)(h:Y):A:=t ⟨h⟩
def zkp{l:List CH}(h:cE n l=0):l.length<=n/\∀ c∈l,tE c.1=0:=by
 unfold cE at h;split at h
 ·exact ni h T
 ·split at h
  ·exact ni h T
  ·rename_i h1 h2;refine⟨by omega,fun c hc=>?_⟩;by_cases h0:tE c.1=0
   ·exact h0
   ·exact ni (zqu.2 ⟨c,hc,by simp [h0]⟩) h2
def Ez(h:chk s=0):s.size<=1099511627776:=by
 unfold chk at h;split at h
 ·rename_i h1;omega
 ·exact ni h T
def zbu(h:tE t=0):TZ t:=by
 unfold tE at h;split at h
 ·rename_i h1;obtain⟨c1,c2,c3⟩:=Up h1;obtain⟨d1,d2,d3⟩:=Ab h;refine⟨⟨Ez c1,Ez c2,Ez c3⟩,Ez d1,Ez d2,?_⟩;rcases d3 with d3 | d3
  ·rw[d3];exact mf _
  ·exact Ez d3
 ·rename_i h1;exact ni h h1
def zks(t:List U)(made:List CH)(e:Int)(r:Value)(H:Heap):Prop:=∃ tv mv,r=.tuple #[tv,mv,.int .i64 e]/\SetV t tv H/\KS tyC made true mv H
def zat(hB:zry B w)(hv:KS tyC l fu v B):Ret zrz 194 [v] w B (KS tyC l true):=by
 refine yo Tryz.func194 Z Tryz.ntmps194 (np Z) hB (jf 0 (KS tyC l fu) Z nw hv ((Z4∘Zk∘Zl∘Zl∘ZdJ∘ZP∘Zp) ?_));refine yl1 L [.tmp 2] fun u H hH hle=>?_;exact fun v hv=>hv
set_option maxRecDepth 10000 in
def write_ret{s t:List U}{l cs made:List CH}{fl fc:Bool}{e:Int}(zl:∀ c∈l,TM c.1)(zc:∀ c∈cs,TM c.1)(ll:l.length<=9223372036854775807)(lc:cs.length<=9223372036854775807)(hsl:s.length<=4096)(hr:zet s l cs=(t,made,e)){lv cv:Value}(hB:zry B w)
  (hs:SetV s sv B) (hl:KS tyM l fl lv B) (hc:KS tyC cs fc cv B):Ret zrz 121 [sv,lv,cv] w B (zks t made e):=by
 obtain⟨f1,p1,f2,q1,rfl,hpl⟩:=hs.shape;refine yo Tryz.func121 Z Tryz.ntmps121 (np Z) hB (jf 1 (KS tyM l fl) Z nw hl (jf 2 (KS tyC cs fc) Z nw hc ?_));unfold zet at hr;by_cases h1:cE 32 l=0
 ·rw[na h1] at hr;by_cases h2:cE 32 cs=0
  ·rw[na h2] at hr;obtain⟨r,e1,hf⟩:∃ r e1,sq s l=(r,e1):=⟨_,_,rfl⟩
   rw[hf] at hr;dsimp only at hr;by_cases h3:e1=0
   ·subst h3;rw[na rfl] at hr;obtain⟨l32,hval⟩:=zkp h2;refine(ZaU∘ZC∘Zh∘ZM∘Zk) ?_;refine z7 (qe L Z Z (zp Z) Z Z Z (fun u H hH _ _ v1 g1=>io zl ll h1 hH g1)) Z ((ZbT∘Zch∘Zs∘Zk) ?_);refine z7 (qe L Z Z (zp Z) Z Z Z (fun u H hH _ _ v1 g1=>Kf zc lc h2 hH g1)) Z ((ZbS∘Zch∘ZU∘Zcf∘Zk) ?_);refine z7 (qe L Z Z (zp Z) Z Z Z (fun u H hH hle _ v1 g1=>first_ret zl ll hf hH (hs.le hle) g1)) Z ((ZbH∘ZaM∘Zch∘Zbf∘Zl∘Zcm) ?_);refine bq (X:=SXp) 3 (r:=fun x=>gm (scs x.1) K6) (φ:=Gp s) (jp s) ⟨(f1,p1,f2,q1),hpl⟩ hs Z (g7 7 tyC 7 rfl ?_)
    refine xq (fun y:Nat×List U×List CH=>[(3,.own (ExR (fun x:SXp=>gm (scs x.1) K6) (Gp y.2.1) (jp y.2.1))),(6,.own (gm [.nilFunc,.pointer none,.nilFunc,.pointer none] K6)),(7,.own (SlR tyC 7 y.2.2.length (y.2.2.flatMap ccs))),(40,.sat (KS tyC cs fc)),(41,.is (.int .i64 cs.length)),(42,.is (.int .i64 y.1))])
     (fun y=>y.1<=cs.length/\Kv y.2.1 y.2.2 (cs.drop y.1)=(t,made,e)/\y.2.1.length<=4096/\y.2.2.length<=y.1) (fun y=>cs.length-y.1) (0,s,[]) ⟨mf _,hr,hsl,nu _⟩ ⟨rfl,rfl,rfl,rfl,rfl,rfl,nm⟩ ?_
    clear hr hs hsl;rintro⟨k,s,md⟩ ⟨hk,he,hsl,hmd⟩;dsimp only at hk he hsl hmd |-;refine uu 3 rfl fun⟨⟨f1,p1,f2,q1⟩,hpl⟩ H3 hs3 hT=>?_;have hT:SetV s (.agg #[f1,.pointer p1,f2,.pointer q1]) H3:=hT;by_cases hlt:k<cs.length
    ·obtain⟨c,hc0⟩:=xu hlt;have hc:=Eu hc0;have hv:=hval c (m9 hc0);have hzt:=zbu hv;rw[ez hc0,Kv] at he;obtain⟨x,d⟩:=c;dsimp only at hc hv hzt he;rcases hw:vg s x d with ⟨s',e'⟩
     rw[hw] at he;dsimp only at he;have hsl':=Ky hsl x d;rw[hw] at hsl';obtain⟨i,hin⟩:∃ i,decide (x∈s)=i:=⟨_,rfl⟩
     rw[hin] at he;by_cases h0:e'=0
     ·rw[na h0] at he;subst h0;cases i<;>cases d
      ·rw[na rfl] at he;refine(Zf∘ZG∘ZN∘ZW∘Zbn∘Zdf∘ZbW) ?_;refine bu 14 rfl fun b14 hb14=>?_;refine(Zek∘ZcP∘Zal∘ZeF) ?_;refine z91 L rfl (fun u H hH hle=>js hin hH (hT.le hle)) ?_;refine(Zal∘Zem∘Zdl∘ZbC∘Za2∘Zcf∘Zen) ?_;refine z7 (xl (φ:=WithP s' 0) L rfl rfl (zp rfl) rfl rfl rfl WithP.mono (fun u H hH hle _=>Ex hw hsl hzt hH (hT.le hle))) rfl (ff 56 rfl ?_);rintro _ H19 hs19 ⟨tv,rfl,hT19⟩;obtain⟨g1,r1,g2,r2,rfl,hpl2⟩:=hT19.shape;refine(ZH∘ZC∘ZcO∘Zj∘Zap∘Za∘Zaw∘ZaW∘Zcf∘ZcO∘Zg∘Zbb∘Za∘Z3∘Zbu) ?_;refine qh (yt (.inl rfl) rfl) ((Zen∘ZR∘Zdk) ?_);refine qh (yt (.inr rfl) rfl) (ZaJ (h:=?_));refine Sb (O':=[]) (zrb _) ?_;refine(ZaK∘ZbR) ?_;exact ic (X:=SXp) 3 (r:=fun x=>gm (scs x.1) K6) (φ:=Gp s') (jp _) ⟨(g1,r1,g2,r2),hpl2⟩ hT19 Z (w5 (x:=(k,s,md)) (k+1,s',md++[(x,false)]) (hs3.trans hs19) ⟨hlt,he,hsl',by dsimp only;rw[List.length_append];show md.length+1<=k+1;omega⟩ M ⟨Z,Z,lg Z,Z,Z,Z,trivial⟩)
      ·rw[nc T] at he;refine(Zf∘ZG∘ZN∘ZW∘Zbn∘Zdf∘ZbW) ?_;refine bu 14 rfl fun b14 hb14=>?_;refine(Zek∘ZcP∘Zal∘ZeF) ?_;refine z91 L rfl (fun u H hH hle=>js hin hH (hT.le hle)) ?_;refine(Zal∘Zem∘Zdl∘ZbC∘Za2∘Zcf∘Zen) ?_;refine z7 (xl (φ:=WithP s' 0) L rfl rfl (zp rfl) rfl rfl rfl WithP.mono (fun u H hH hle _=>Ex hw hsl hzt hH (hT.le hle))) rfl (ff 56 rfl ?_);rintro _ H19 hs19 ⟨tv,rfl,hT19⟩;obtain⟨g1,r1,g2,r2,rfl,hpl2⟩:=hT19.shape;refine(ZH∘ZC∘ZcO∘Zj∘Zap∘Za∘Zaw∘ZaW∘Zcf∘ZcO∘Zg∘Zbb∘Za∘Zcn) ?_;refine Sb (O':=[]) (zrb _) ?_;refine(ZaK∘ZbR) ?_;exact ic (X:=SXp) 3 (r:=fun x=>gm (scs x.1) K6) (φ:=Gp s') (jp _) ⟨(g1,r1,g2,r2),hpl2⟩ hT19 Z (w5 (x:=(k,s,md)) (k+1,s',md) (hs3.trans hs19) ⟨hlt,he,hsl',by dsimp only;omega⟩ M ⟨Z,Z,Z,Z,Z,Z,trivial⟩)
      ·rw[nc T] at he;refine(Zf∘ZG∘ZN∘ZW∘Zbn∘Zdf∘ZbW) ?_;refine bu 14 rfl fun b14 hb14=>?_;refine(Zek∘ZcP∘Zal∘ZeF) ?_;refine z91 L rfl (fun u H hH hle=>js hin hH (hT.le hle)) ?_;refine(Zal∘Zem∘Zdl∘ZbC∘Za2∘Zcf∘Zen) ?_;refine z7 (xl (φ:=WithP s' 0) L rfl rfl (zp rfl) rfl rfl rfl WithP.mono (fun u H hH hle _=>Ex hw hsl hzt hH (hT.le hle))) rfl (ff 56 rfl ?_);rintro _ H19 hs19 ⟨tv,rfl,hT19⟩;obtain⟨g1,r1,g2,r2,rfl,hpl2⟩:=hT19.shape;refine(ZH∘ZC∘ZcO∘Zj∘Zap∘Za∘Zaw∘ZaW∘Zcf∘ZcO∘Zg∘Zbb∘Za∘Zcn) ?_;refine Sb (O':=[]) (zrb _) ?_;refine(ZaK∘ZbR) ?_;exact ic (X:=SXp) 3 (r:=fun x=>gm (scs x.1) K6) (φ:=Gp s') (jp _) ⟨(g1,r1,g2,r2),hpl2⟩ hT19 Z (w5 (x:=(k,s,md)) (k+1,s',md) (hs3.trans hs19) ⟨hlt,he,hsl',by dsimp only;omega⟩ M ⟨Z,Z,Z,Z,Z,Z,trivial⟩)
      ·rw[na rfl] at he;refine(Zf∘ZG∘ZN∘ZW∘Zbn∘Zdf∘ZbW) ?_;refine bu 14 rfl fun b14 hb14=>?_;refine(Zek∘ZcP∘Zal∘ZeF) ?_;refine z91 L rfl (fun u H hH hle=>js hin hH (hT.le hle)) ?_;refine(Zal∘Zem∘Zdl∘ZbC∘Za2∘Zcf∘Zen) ?_;refine z7 (xl (φ:=WithP s' 0) L rfl rfl (zp rfl) rfl rfl rfl WithP.mono (fun u H hH hle _=>Ex hw hsl hzt hH (hT.le hle))) rfl (ff 56 rfl ?_);rintro _ H19 hs19 ⟨tv,rfl,hT19⟩;obtain⟨g1,r1,g2,r2,rfl,hpl2⟩:=hT19.shape;refine(ZH∘ZC∘ZcO∘Zj∘Zap∘Za∘Zaw∘ZaW∘Zcf∘ZcO∘Zg∘Zbb∘Za∘Z3∘Zbu) ?_;refine qh (yt (.inl rfl) rfl) ((Zen∘ZR∘Zdk) ?_);refine qh (yt (.inr rfl) rfl) (ZaJ (h:=?_));refine Sb (O':=[]) (zrb _) ?_;refine(ZaK∘ZbR) ?_;exact ic (X:=SXp) 3 (r:=fun x=>gm (scs x.1) K6) (φ:=Gp s') (jp _) ⟨(g1,r1,g2,r2),hpl2⟩ hT19 Z (w5 (x:=(k,s,md)) (k+1,s',md++[(x,true)]) (hs3.trans hs19) ⟨hlt,he,hsl',by dsimp only;rw[List.length_append];show md.length+1<=k+1;omega⟩ M ⟨Z,Z,lg Z,Z,Z,Z,trivial⟩)
     ·rw[nc h0] at he;cases he;refine(Zf∘ZG∘ZN∘ZW∘Zbn∘Zdf∘ZbW) ?_;refine bu 14 rfl fun b14 hb14=>?_;refine(Zek∘ZcP∘Zal∘ZeF) ?_;refine z91 L rfl (fun u H hH hle=>js hin hH (hT.le hle)) ?_;refine(Zal∘Zem∘Zdl∘ZbC∘Za2∘Zcf∘Zen) ?_;refine z7 (xl (φ:=WithP s' e) L rfl rfl (zp rfl) rfl rfl rfl WithP.mono (fun u H hH hle _=>Ex hw hsl hzt hH (hT.le hle))) rfl (ff 56 rfl ?_);rintro _ H19 hs19 ⟨tv,rfl,hT19⟩;obtain⟨g1,r1,g2,r2,rfl,hpl2⟩:=hT19.shape;refine(ZH∘ZC∘ZcO∘Zj∘Zap∘Za∘ZY∘Zaf∘Zd1∘Za∘ZaF∘ZA) ?_;refine yl L (rs:=[.cell 6 91,.tmp 7,.tmp 8]) Z (fun _ _ h=>h) (hs3.trans hs19) fun u H hH hle=>?_;exact⟨_,qy Z,rfl,_,_,rfl,SetV.nil,SlV.nil⟩
    ·obtain rfl:k=cs.length:=by omega
     rw[zpi,Kv] at he;cases he;refine(Zf∘ZG∘ZbB) ?_;refine fj 7 rfl (qp (id:=21) [] kj J ((ZcP∘Zag) ?_));refine z9 (xl (φ:=KS tyC made true) L Z Z (zp Z) Z Z Z nw (fun u H hH _ _ v1 g1=>zat hH g1)) Z (z9 (qt L Z Z E Z) Z ((Zc2∘Zav) ?_));refine yl L (rs:=[.cell 6 91,.tmp 7,.tmp 8]) Z (fun _ _ h=>h) hs3 fun u H hH hle=>?_;exact⟨_,qy Z,rfl,fun mv hmv=>⟨_,mv,rfl,hT.le hle,hmv⟩⟩
   ·rw[nc h3] at hr;cases hr;refine(ZaU∘ZC∘Zh∘ZM∘Zk) ?_;refine z7 (qe L Z Z (zp Z) Z Z Z (fun u H hH _ _ v1 g1=>io zl ll h1 hH g1)) Z ((ZbT∘Zch∘Zs∘Zk) ?_);refine z7 (qe L Z Z (zp Z) Z Z Z (fun u H hH _ _ v1 g1=>Kf zc lc h2 hH g1)) Z ((ZbS∘Zch∘ZU∘Zcf∘Zk) ?_);refine z7 (qe L Z Z (zp Z) Z Z Z (fun u H hH hle _ v1 g1=>first_ret zl ll hf hH (hs.le hle) g1)) Z ((ZbH∘ZaM∘ZY∘ZE∘Zd1∘Za∘ZaF∘ZA) ?_);refine yl1 L [.cell 6 91,.tmp 7,.tmp 8] fun u H hH hle=>?_;exact⟨_,qy Z,rfl,_,_,rfl,SetV.nil,SlV.nil⟩
  ·rw[nc h2] at hr;cases hr;refine(ZaU∘ZC∘Zh∘ZM∘Zk) ?_;refine z7 (qe L Z Z (zp Z) Z Z Z (fun u H hH _ _ v1 g1=>io zl ll h1 hH g1)) Z ((ZbT∘Zch∘Zs∘Zk) ?_);refine z7 (qe L Z Z (zp Z) Z Z Z (fun u H hH _ _ v1 g1=>Kf zc lc Z hH g1)) Z ((ZbS∘ZY∘ZD∘Zd1∘Za∘ZaF∘ZA) ?_);refine yl1 L [.cell 6 91,.tmp 7,.tmp 8] fun u H hH hle=>?_;exact⟨_,qy Z,rfl,_,_,rfl,SetV.nil,SlV.nil⟩
 ·rw[nc h1] at hr;cases hr;refine(ZaU∘ZC∘Zh∘ZM∘Zk) ?_;refine z7 (qe L Z Z (zp Z) Z Z Z (fun u H hH _ _ v1 g1=>io zl ll Z hH g1)) Z ((ZbT∘ZY∘Zy∘Zd1∘Za∘ZaF∘ZA) ?_);refine yl1 L [.cell 6 91,.tmp 7,.tmp 8] fun u H hH hle=>?_;exact⟨_,qy Z,rfl,_,_,rfl,SetV.nil,SlV.nil⟩
def Sg{l:List U}{x:U}{d:Bool}(h0:(vg l x d).2=0)(z:U):z∈(vg l x d).1↔if z=x then d=false else z∈l:=by
 unfold vg at h0 |-;by_cases ht:tE x=0
 ·rw[na ht] at h0 |-
  cases d with
  | true=>
   rw[na rfl];dsimp only;rw[zn7,decide_eq_true_eq];by_cases hz:z=x
   ·rw[na hz];simp [hz]
   ·rw[nc hz];simp [hz]
  | false=>
   rw[nc T] at h0 |-;by_cases hx:x∈l
   ·rw[na hx];by_cases hz:z=x
    ·rw[na hz,hz];simp [hx]
    ·rw[nc hz]
   ·rw[nc hx] at h0 |-;by_cases hl:l.length>=4096
    ·rw[na hl] at h0;exact ni h0 T
    ·rw[nc hl];dsimp only;rw[v7];by_cases hz:z=x
     ·rw[na hz,hz];simp
     ·rw[nc hz];simp [hz]
 ·rw[nc ht] at h0;exact ni h0 ht
end Go.V.L8
namespace Go.V.L10
open Go.V.L2 Go.V.L8 Go.V.L6
structure OO where
 wh:Nat
 ms:List C3
 cs:List C3
 rv:Nat
 kp:Int
def OO.rev(o:OO):Int:=if o.rv=255 then 18446744073709551615 else (o.rv:Int)
structure JJ(n:Nat)(S:Sto):Prop where
 last:(kpt S.R S.R.length).isSome=true
 pin:∀ r∈S.P,(kpt S.R r).isSome=true
 so:∀ r t,kpt S.R r=some t->SOK t/\t.length<=30*S.R.length
 hR:S.R.length<=n+1
 hP:S.P.length<=n
def jj_new:JJ 0 newS:=⟨rfl,fun _ h=>(by cases h),fun r t h=>by
 have hr:=i8 (R:=newS.R) (r:=r) (by rw[h];rfl);have h1:newS.R.length=1:=rfl;have:r=((0+1:Nat):Int):=I;subst this;have h2:kpt newS.R ((0+1:Nat):Int)=some []:=by rw[Du];rfl
 rw[h2] at h;cases h;exact⟨⟨Sst.nil,fun _ h=>(by cases h),fun _ h=>(by cases h)⟩,mf _⟩,nu _,nu _⟩
def zcf{R:List (Option (List U))}{es:Ent}(hm:MapOK es R){out:List Int}(hp:out.Perm (es.map Prod.fst)):(Go.Sort.sort So.lt out.toArray).toList=j7 R:=by
 have h1:(Go.Sort.sort So.lt out.toArray).toList=out.mergeSort (fun x y=>decide (x<=y)):=Go.Sort.sortInt out;rw[h1];have hperm:=List.mergeSort_perm out (fun x y=>decide (x<=y));have hnd:(out.mergeSort (fun x y=>decide (x<=y))).Nodup:=(hperm.trans hp).nodup_iff.2 hm.nd;have hs:(out.mergeSort (fun x y=>decide (x<=y))).Pairwise fun a b=>decide (a<=b)=true:=List.pairwise_mergeSort (le:=fun x y:Int=>decide (x<=y)) (fun a b c h1 h2=>by simp at h1 h2 |-;omega) (fun a b=>by simp;omega) out;refine dj lj ?_ (cr R) fun z=>?_
 ·refine(List.Pairwise.and hs hnd).imp ?_;rintro a b ⟨h2,h3⟩;have h4:a<=b:=by simpa using h2
  have h5:a≠b:=h3;exact Uk.2 I
 ·rw[(hperm.trans hp).mem_iff,hm.mem]
def Fz{α:Type}:∀ {l:List α} {j:Nat} {x:α},l[j]?=some x->(x::l.eraseIdx j).Perm l
 | [],_,_,h=>by cases h
 | y::l,0,x,h=>by cases h;exact List.Perm.refl _
 | y::l,j+1,x,h=>by
  have:=Fz (l:=l) (j:=j) (x:=x) (by simpa using h);exact(List.Perm.swap y x _).trans (this.cons y)
def Yx{left:Ent}{p:Int×(List U×Value)}(h:left[j]?=some p)(out:List Int):(out++[p.1]++(left.eraseIdx j).map Prod.fst).Perm (out++left.map Prod.fst):=by
 have h1:(p::left.eraseIdx j).Perm left:=Fz h;rw[mo];refine List.Perm.append_left out ?_;simpa using h1.map Prod.fst
attribute [local irreducible] V N X VO Par StepOK Has Ret RetL RetO RetT ky RetX RetY Src
abbrev zk4(R:List (Option (List U))):Res:=SlE N3 1 (j7 R).length ((j7 R).map (Value.int .u64))
set_option maxRecDepth 10000 in
def Rb{R:List (Option (List U))}{t:Nat}{s:Value}{es:Ent}(hm:MapOK es R)(hn:R.length≠0)(hz:es.length<=100000)(hB:zry B w)(hr:(StO b R.length m s t es).P B w C)(hC:ZCB C w B):
  RetT zrz 85 [.pointer (some ⟨b,0,none⟩)] w B C (ov (zk4 R) (StO b R.length m s t es).res):=by
 have hlen:=hm.len;rw[show zk4 R=SlE N3 1 es.length ((j7 R).map (Value.int .u64)) by rw[hlen]];unfold RetT;refine xh 900 (StO b R.length m s t es) Tryz.func85 Z Tryz.ntmps85 (np Z) hB hr hC ?_;rw[Gl];refine v8 900 901 rfl (xm _) ?_;refine ZbX (h:=?_);refine y9 (wk L 900 (Φ:=fun H=>H b=some (.cells (stc R.length m s t).toArray tyS)) (c:=.bool false) Z Z (zp Z) Z Z Z Z Z Fu (fun u H hH hle hb=>none_ret hn hb hH)) ((Zo∘Zx∘Zai) ?_);refine y9 (zg0 (q:=901) (vc:=vcE) mpS Z Z Z Z Z) (z7 (Xq L es.length Z Z Z zke Z Z Z I (by unfold maxLen;omega)) Z ?_);refine qh (yt (.inr Z) Z) (Zam (h:=?_));refine zeo 3 902 rfl fun b3 rest0 _ _ hcm hcl0=>?_;refine Zcy (h:=?_);refine qh (Xo (q:=901) (vc:=vcE) mpS Z Z Z Z) (Zdg (h:=?_))
 refine xq (fun zru:(List Int×List Value)×Ent=>[(3,.is (.slice (some ⟨b3,0,none⟩) zru.1.1.length es.length)),(17,.own (zeq m .u64 vcE es zru.2)),(900,.own (xn b (stc R.length m s t) tyS)),(902,.own (xn b3 (zru.1.1.map (Value.int .u64)++zru.1.2) N3))])
  (fun zru=>(zru.1.1++zru.2.map Prod.fst).Perm (es.map Prod.fst)/\(zru.1.1.map (Value.int .u64)++zru.1.2).length=es.length*1) (fun zru=>zru.2.length) (([],rest0),es) ⟨List.Perm.refl _,hcl0⟩ ⟨rfl,rfl,rfl,rfl,nm⟩ ?_
 rintro⟨⟨out,rest⟩,left⟩ ⟨hp,hcl⟩;dsimp only at hp hcl |-;have hpl:=hp.length_eq;rw[nr,mj,mj] at hpl;by_cases hl:left=[]
 ·subst hl;rw[znv,mp] at hp;have hol:out.length=es.length:=by simpa using hpl
  have hr0:rest=[]:=m8 (by rw[nr,mj] at hcl;omega);subst hr0;rw[hol];have hsk:=zcf hm hp;refine(Zf∘ZT) ?_;refine z7 (Xp Z Z Z Z Z) Z ((Zeu∘Zf6∘Zfq) ?_);refine zky 17 901 rfl ?_;refine ZaM (h:=?_);refine qh (xc L 902 (xe b3 ((j7 R).map (Value.int .u64)++[]) So.tyU) (r:=xe b3 (out.map (Value.int .u64)++[]) So.tyU) Z Z Z Z Z (fun u H C hH _ hr hC=>by have h:=So.sortU_ret (d:=out.toArray) (rest:=[]) (b:=b3) (m:=es.length) (cap:=es.length) (by simpa using hol) hz hH hr hC;unfold uC at h;rw[hsk] at h;exact h)) ?_;refine Zg (h:=?_);rw[xf,show(j7 R).map (Value.int .u64)++[]=(j7 R).map (Value.int .u64) from mp _];refine zbd (s:=1) 3 902 rfl Z (by rw[List.length_map,hlen,Nat.mul_one]) (by unfold maxLen;omega) ?_;refine ZE (h:=?_);refine qh (yt (.inl Z) Z) (qh (yt (.inr Z) Z) (Zp (h:=?_)));refine Ze0 (h:=?_);refine vk 2 900 rfl Z (xm (StO b R.length m s t es)) ?_;exact Nm Z (fun _ _ h=>h) nq Z
 ·have hll:0<left.length:=zp1.2 hl;have hroom:out.length+1<=es.length:=I;have hrl:0<rest.length:=by rw[nr,mj] at hcl;omega
  have hcl2:out.length*1+1*1<=(out.map (Value.int .u64)++rest).length:=by rw[hcl];omega
  have hrr:∀ k:Int,(out.map (Value.int .u64)++rest).take (out.length*1)++([Value.int .u64 k]++(out.map (Value.int .u64)++rest).drop (out.length*1+1*1))=(out++[k]).map (Value.int .u64)++rest.drop 1:=fun k=>by
   have e1:(out.map (Value.int .u64)).length=out.length*1:=by simp
   rw[<-e1,zpj,znl (nu _),zoq,zn6,mp,zoo,znm I,mn,show(out.map (Value.int .u64)).length+1*1-(out.map (Value.int .u64)).length=1 by omega];simp
  refine(Zf∘ZT) ?_;refine zbt Z Z hl Z Z Z (fun j p hjp=>?_);refine(Zeu∘Zf5∘Zbm∘ZD) ?_;refine z7 (Xt Z Z Z) Z ((Zeu∘Ze∘Zbi∘ZR) ?_);refine qh (O6 L (q:=902) Z Z Z Z (oq Z) Z zke I Z hroom hcl2 Z (hrr _)) (ZaB (h:=?_));refine zib 17 (zeq m .u64 vcE es (left.eraseIdx j)) Z zi6 ?_
  exact yv (x:=((out,rest),left)) ((out++[p.1],rest.drop 1),left.eraseIdx j) ⟨(Yx hjp out).trans hp,by
   dsimp only;rw[nr,mj,nr,m6];rw[nr,mj] at hcl;simp only[ma,m5];omega⟩ (by dsimp only;rw[List.length_eraseIdx_of_lt (get_lt hjp)];omega) ⟨by rw[List.length_append];rfl,rfl,rfl,rfl,trivial⟩
end Go.V.L10
namespace Go.V
section
variable {β:Type} [DecidableEq α] [DecidableEq β] {k:α->β} {c:β->β->Int}
def Eqv(k:α->β)(S S':List α):Prop:=∀ t,S'.filter (fun x=>decide (k x=t))=S.filter (fun x=>decide (k x=t))
def Srt(k:α->β)(c:β->β->Int)(l:List α):Prop:=l.Pairwise fun x y=>¬ c (k y) (k x)<0
def Stb(k:α->β)(c:β->β->Int)(S S':List α):Prop:=Srt k c S'/\Eqv k S S'
omit [DecidableEq α] in
theorem Eqv.refl(S:List α):Eqv k S S:=fun _=>rfl
omit [DecidableEq α] in
theorem Eqv.trans{A B C:List α}(h1:Eqv k A B)(h2:Eqv k B C):Eqv k A C:=fun t=>(h2 t).trans (h1 t)
omit [DecidableEq α] in
theorem Eqv.app{A A' B B':List α}(h1:Eqv k A A')(h2:Eqv k B B'):Eqv k (A++B) (A'++B'):=fun t=>by rw[zpq,zpq,h1 t,h2 t]
omit [DecidableEq α] in
theorem Eqv.swap{A B:List α}(h:∀ a∈A,∀ b∈B,k a≠k b):Eqv k (A++B) (B++A):=fun t=>by
 rw[zpq,zpq];by_cases ha:∃ a∈A,k a=t
 ·obtain⟨a,ha,rfl⟩:=ha;have:B.filter (fun x=>decide (k x=k a))=[]:=zqo.2 fun b hb e=>h a ha b hb (by simpa using e:k b=k a).symm;rw[this,mp,mn]
 ·have:A.filter (fun x=>decide (k x=t))=[]:=zqo.2 fun a h1 e=>ha ⟨a,h1,by simpa using e⟩;rw[this,mp,mn]
theorem Eqv.count{S S':List α}(h:Eqv k S S')(x:α):S'.count x=S.count x:=by
 have e:∀ l:List α,(l.filter fun y=>decide (k y=k x)).count x=l.count x:=fun l=>List.count_filter (by simp);rw[<-e S',<-e S,h (k x)]
theorem Eqv.perm{S S':List α}(h:Eqv k S S'):S'.Perm S:=List.perm_iff_count.2 fun x=>h.count x
theorem Eqv.length{S S':List α}(h:Eqv k S S'):S'.length=S.length:=h.perm.length_eq
theorem Eqv.mem{S S':List α}(h:Eqv k S S'){x:α}:x∈S'↔x∈S:=h.perm.mem_iff
omit [DecidableEq α] [DecidableEq β] in
theorem dk{A B:List α}:Srt k c (A++B)↔Srt k c A/\Srt k c B/\∀ a∈A,∀ b∈B,¬ c (k b) (k a)<0:=zoa
omit [DecidableEq α] [DecidableEq β] in
theorem Ys(ho:Ord3 c){a b:β}(h:c a b<0):b≠a:=fun e=>by subst e;exact ho.irr _ h
omit [DecidableEq α] in
theorem Oe(ho:Ord3 c){A B:List α}{x:α}(hs:Srt k c (A++B))(ha:∀ a∈A,¬ c (k x) (k a)<0)(hb:∀ b∈B,c (k x) (k b)<0):Stb k c (A++B++[x]) (A++x::B):=by
 obtain⟨s1,s2,s3⟩:=dk.1 hs;refine⟨dk.2 ⟨s1,mi.2 ⟨fun b h=>ho.asym (hb b h),s2⟩,fun a h b hm=>?_⟩,?_⟩
 ·rcases nz.1 hm with rfl | hm
  ·exact ha a h
  ·exact s3 a h b hm
 ·rw[mo]
  exact(Eqv.refl A).app (Eqv.swap (A:=B) (B:=[x]) fun b h y hy=>by
   simp at hy;subst hy;exact Ys ho (hb b h))
omit [DecidableEq α] in
theorem zga(ho:Ord3 c){A B:List α}{x:α}(hs:Srt k c (A++B))(ha:∀ a∈A,c (k a) (k x)<0)(hb:∀ b∈B,¬ c (k b) (k x)<0):Stb k c (x::(A++B)) (A++x::B):=by
 obtain⟨s1,s2,s3⟩:=dk.1 hs;refine⟨dk.2 ⟨s1,mi.2 ⟨hb,s2⟩,fun a h b hm=>?_⟩,?_⟩
 ·rcases nz.1 hm with rfl | hm
  ·exact ho.asym (ha a h)
  ·exact s3 a h b hm
 ·have e:A++x::B=A++[x]++B:=by simp
  have e2:x::(A++B)=[x]++A++B:=by simp
  rw[e,e2]
  exact(Eqv.swap (A:=[x]) (B:=A) fun y hy a h=>by
   simp at hy;subst hy;exact Ys ho (ha a h)).app (Eqv.refl B)
theorem zca(ho:Ord3 c){A1 A2 B1 B2 S1 S2:List α}(hA:Srt k c (A1++A2))(hB:Srt k c (B1++B2))(h12:∀ a∈A2,∀ b∈B1,c (k b) (k a)<0)(h21:∀ a∈A1,∀ b∈B2,¬ c (k b) (k a)<0)
  (h1:Stb k c (A1++B1) S1) (h2:Stb k c (A2++B2) S2):Stb k c (A1++A2++(B1++B2)) (S1++S2):=by
 obtain⟨a1,a2,a3⟩:=dk.1 hA;obtain⟨b1,b2,b3⟩:=dk.1 hB;refine⟨dk.2 ⟨h1.1,h2.1,fun x hx y hy=>?_⟩,?_⟩
 ·rcases mt.1 (h1.2.mem.1 hx) with hx | hx<;>rcases mt.1 (h2.2.mem.1 hy) with hy | hy
  ·exact a3 x hx y hy
  ·exact h21 x hx y hy
  ·exact ho.asym (h12 y hy x hx)
  ·exact b3 x hx y hy
 ·refine Eqv.trans ?_ (h1.2.app h2.2);have e1:A1++A2++(B1++B2)=A1++(A2++B1)++B2:=by simp
  have e2:A1++B1++(A2++B2)=A1++(B1++A2)++B2:=by simp
  rw[e1,e2];exact((Eqv.refl A1).app (Eqv.swap fun a ha b hb=>Ys ho (h12 a ha b hb))).app (Eqv.refl B2)
omit [DecidableEq α] [DecidableEq β] in
theorem ax(ho:Ord3 c){l:List α}(h:Srt k c l){x y:α}(hi:l[i]?=some x)(hj:l[j]?=some y)(hij:i<=j):¬ c (k y) (k x)<0:=by
 rcases zni i j with h1 | h1
 ·obtain⟨hi',rfl⟩:=zoj.1 hi;obtain⟨hj',rfl⟩:=zoj.1 hj;exact zpa.1 h i j hi' hj' h1
 ·have:i=j:=I;subst this;rw[hi] at hj;cases hj;exact ho.irr _
end
end Go.V
namespace Go.V
section
variable {β:Type} [DecidableEq α] [DecidableEq β] {k:α->β} {c:β->β->Int}
theorem Ql(ho:Ord3 c):∀ {S S':List α},Srt k c S->Srt k c S'->Eqv k S S'->S'=S
 | [],S',_,_,h=>m8 (by rw[h.length];rfl)
 | x::r,[],_,_,h=>by have:=h.length;simp at this
 | x::r,y::r',h1,h2,h=>by
  have hxy:k x=k y:=by
   have hx:x∈y::r':=h.mem.2 (mc ..);have hy:y∈x::r:=h.mem.1 (mc ..)
   have e1:¬ c (k x) (k y)<0:=by
    rcases nz.1 hx with e | hx
    ·rw[e];exact ho.irr _
    ·exact(mi.1 h2).1 x hx
   have e2:¬ c (k y) (k x)<0:=by
    rcases nz.1 hy with e | hy
    ·rw[e];exact ho.irr _
    ·exact(mi.1 h1).1 y hy
   have:=ho.anti (k x) (k y);exact ho.eq _ _ I
  have hf:=h (k x);rw[zov (by simp [hxy]),zov (by simp)] at hf;have hxe:y=x:=(List.cons.inj hf).1;subst hxe
  have ht:Eqv k r r':=fun t=>by
   have:=h t;by_cases e:k y=t
   ·rw[zov (by simpa using e),zov (by simpa using e)] at this;exact(List.cons.inj this).2
   ·rwa [zpk (by simpa using e),zpk (by simpa using e)] at this
  rw[Ql ho (mi.1 h1).2 (mi.1 h2).2 ht]
omit [DecidableEq α] in
theorem Eqv.symm{A B:List α}(h:Eqv k A B):Eqv k B A:=fun t=>(h t).symm
theorem zb8(ho:Ord3 c){l S S':List α}(h:Stb k c l S)(h':Stb k c l S'):S'=S:=Ql ho h.1 h'.1 (h.2.symm.trans h'.2)
def zhn(k:α->β)(c:β->β->Int)(x:α):List α->List α
 | []=>[x]
 | y::l=>if c (k x) (k y)<0 then x::y::l else y::zhn k c x l
omit [DecidableEq α] [DecidableEq β] in
theorem Fw(ho:Ord3 c){x:α}:∀ {S:List α},Srt k c S->∃ A B,S=A++B/\zhn k c x S=A++x::B/\(∀ a∈A,¬ c (k x) (k a)<0)/\∀ b∈B,c (k x) (k b)<0
 | [],_=>⟨[],[],rfl,rfl,fun a h=>(by cases h),fun a h=>(by cases h)⟩
 | y::l,h=>by
  obtain⟨h1,h2⟩:=mi.1 h;by_cases hxy:c (k x) (k y)<0
  ·refine⟨[],y::l,rfl,na hxy,fun a h=>(by cases h),fun b hb=>?_⟩;rcases nz.1 hb with rfl | hb
   ·exact hxy
   ·have h3:=h1 b hb;have:=ho.anti (k b) (k y);by_cases h4:c (k y) (k b)<0
    ·exact ho.tr hxy h4
    ·rw[<-ho.eq (k y) (k b) I];exact hxy
  ·obtain⟨A,B,e1,e2,e3,e4⟩:=Fw ho (x:=x) h2;refine⟨y::A,B,by rw[e1];rfl,?_,fun a ha=>?_,e4⟩
   ·rw[zhn,nc hxy,e2];rfl
   ·rcases nz.1 ha with rfl | ha
    ·exact hxy
    ·exact e3 a ha
def Es(k:α->β)(c:β->β->Int)(l:List α):List α:=l.foldl (fun S x=>zhn k c x S) []
omit [DecidableEq α] [DecidableEq β] in
theorem zgd:Srt k c []:=List.Pairwise.nil
omit [DecidableEq α] in
theorem zb9(ho:Ord3 c){l S:List α}{x:α}(h:Stb k c l S):Stb k c (l++[x]) (zhn k c x S):=by
 obtain⟨A,B,e1,e2,e3,e4⟩:=Fw ho (x:=x) h.1;have h1:=h.1;rw[e1] at h1;have h2:=Oe ho h1 e3 e4;rw[e2];rw[<-e1] at h2;exact⟨h2.1,(h.2.app (Eqv.refl [x])).trans h2.2⟩
omit [DecidableEq α] in
theorem ux(ho:Ord3 c)(l:List α):Stb k c l (Es k c l):=by
 suffices ∀ (r l S:List α),Stb k c l S->Stb k c (l++r) (r.foldl (fun S x=>zhn k c x S) S) by
  have:=this l [] [] ⟨zgd,Eqv.refl _⟩;exact this
 intro r
 induction r with
 | nil=>intro l S h;rw[mp];exact h
 | cons x r ih=>
  intro l S h;have:=ih (l++[x]) (zhn k c x S) (zb9 ho h);rw[mo] at this;exact this
theorem E9(ho:Ord3 c){l S:List α}(h:Stb k c l S):S=Es k c l:=zb8 ho (ux ho l) h
theorem Qk(ho:Ord3 c)(l:List α):(Es k c l).length=l.length:=(ux (k:=k) ho l).2.length
omit [DecidableEq α] [DecidableEq β] in
theorem zcc:Es k c []=[]:=rfl
theorem zcb(ho:Ord3 c){l:List α}(h:Srt k c l):Es k c l=l:=(E9 ho ⟨h,Eqv.refl l⟩).symm
theorem zcd(ho:Ord3 c)(X Y:List α):Es k c (Es k c X++Es k c Y)=Es k c (X++Y):=
 E9 ho ⟨(ux ho _).1,(((ux ho X).2.app (ux ho Y).2)).trans (ux ho _).2⟩
theorem zhm(ho:Ord3 c){X A B:List α}{x:α}(h:A++B=Es k c X)(hb:∀ b∈B,c (k x) (k b)<0)(ha:∀ y,A.getLast?=some y->¬ c (k x) (k y)<0):A++x::B=Es k c (X++[x]):=by
 have hs:=(ux (k:=k) ho X).1;rw[<-h] at hs
 have hA:∀ a∈A,¬ c (k x) (k a)<0:=fun a ham=>by
  rcases zrm A with e | ⟨A',y,rfl⟩
  ·subst e;cases ham
  ·have h1:=ha y (by simp);simp only[zra,mt,mz] at ham;rcases ham with ham | rfl
   ·have h2:=(dk.1 hs).1;simp only[zra] at h2;have h3:=(dk.1 h2).2.2 a ham y (by simp);have e1:=ho.anti (k y) (k a);intro h4;refine h1 ?_;by_cases h5:c (k a) (k y)<0
    ·exact ho.tr h4 h5
    ·rw[<-ho.eq (k a) (k y) I];exact h4
   ·exact h1
 have h1:=Oe ho hs hA hb;rw[h] at h1;exact E9 ho ⟨h1.1,((ux (k:=k) ho X).2.app (Eqv.refl [x])).trans h1.2⟩
def chS(k:α->β)(c:β->β->Int)(n:Nat):Nat->List α->List α
 | 0,_=>[]
 | f+1,l=>if l=[] then [] else Es k c (l.take n)++chS k c n f (l.drop n)
omit [DecidableEq α] [DecidableEq β] in
theorem ia(n f:Nat):chS k c n f []=[]:=by cases f<;>simp [chS]
omit [DecidableEq α] [DecidableEq β] in
theorem Rs{n:Nat}(hn:0<n):∀ {f g:Nat} {l:List α},l.length<=f->l.length<=g->chS k c n f l=chS k c n g l
 | 0,g,l,hf,_=>by obtain rfl:l=[]:=m8 I;rw[ia,ia]
 | f+1,0,l,_,hg=>by obtain rfl:l=[]:=m8 I;rw[ia,ia]
 | f+1,g+1,l,hf,hg=>by
  by_cases h:l=[]
  ·subst h;rw[ia,ia]
  ·rw[chS,chS,nc h,nc h];have:0<l.length:=zp1.2 h;rw[Rs hn (f:=f) (g:=g) (by rw[m6];omega) (by rw[m6];omega)]
def chL(k:α->β)(c:β->β->Int)(n:Nat)(l:List α):List α:=chS k c n l.length l
omit [DecidableEq α] [DecidableEq β] in
theorem Ke(hn:0<n)(l:List α):chL k c n l=Es k c (l.take n)++chL k c n (l.drop n):=by
 unfold chL;by_cases h:l=[]
 ·subst h;simp [ia,zcc]
 ·have:0<l.length:=zp1.2 h;obtain⟨m,hm⟩:∃ m,l.length=m+1:=⟨l.length-1,by omega⟩
  rw[hm,chS,nc h,Rs hn (f:=m) (g:=(l.drop n).length) (by rw[m6];omega) (nu _)]
omit [DecidableEq α] [DecidableEq β] in
theorem Pv(n:Nat):chL k c n []=[]:=ia _ _
omit [DecidableEq α] [DecidableEq β] in
theorem zhz(hn:0<n){l:List α}(h:l.length<=n):chL k c n l=Es k c l:=by
 rw[Ke hn,znl h,znm h,Pv,mp]
theorem za2(ho:Ord3 c){n:Nat}(hn:0<n):∀ (m:Nat) {l:List α},l.length<=m->(chL k c n l).length=l.length
 | 0,l,h=>by obtain rfl:l=[]:=m8 I;rw[Pv]
 | m+1,l,h=>by
  by_cases h0:l=[]
  ·subst h0;rw[Pv]
  ·have:0<l.length:=zp1.2 h0;rw[Ke hn,nr,Qk ho,za2 ho hn m (by rw[m6];omega),<-nr,znn]
end
end Go.V
namespace Go.V.L8
open Go.V Go.V.L2 Go.V.L3 Go.V.L6
def Ed(l:List CH):(l.flatMap ccs).length=l.length*7:=oo za3 l
def Ro(l:List CH):(l.flatMap ccs).all ue=true:=by
 induction l with
 | nil=>rfl
 | cons x l ih=>rw[znz,List.all_append,ih];rfl
abbrev ch7(c:CH):List Value:=[.string c.1.1.1.1,.string c.1.1.1.2,.string c.1.1.2,.string c.1.2.1.1,.string c.1.2.1.2,.string c.1.2.2,.bool c.2]
def w9{t:CH}(h:l[i]?=some t)(off:Nat)(ho:off=i*7):∃ r,(l.flatMap ccs++rest).drop off=ch7 t++r:=by
 subst ho;have h1:((l.flatMap ccs).drop (i*7)).take 7=ch7 t:=Eu h;have h2:=get_lt h;refine⟨((l.flatMap ccs).drop (i*7)).drop 7++rest,?_⟩;rw[List.drop_append_of_le_length (by rw[Ed];exact zot _ I),<-mo];congr 1;rw[<-h1,znn]
def pz{ls:List CH}{z:CH}(h:k<ls.length)(off:Nat)(ho:off=k*7):(ls.flatMap ccs++rest).take off++(ch7 z++(ls.flatMap ccs++rest).drop (off+7))=(ls.set k z).flatMap ccs++rest:=by
 subst ho;have e1:ls=ls.take k++(ls[k]::ls.drop (k+1)):=by rw[List.getElem_cons_drop,znn]
 have hk:(ls.take k).length=k:=by rw[mw];omega
 have e2:ls.set k z=ls.take k++(z::ls.drop (k+1)):=by
  conv=>lhs;rw[e1]
  rw[List.set_append_right _ _ I,hk,zoq];rfl
 rw[e2];generalize ls.take k=A at e1 hk;generalize ls.drop (k+1)=D at e1;generalize ls[k]=y at e1;subst e1;have hA:(A.flatMap ccs).length=k*7:=by rw[Ed,hk]
 simp only[znw,znz,mo];rw[List.take_left' hA,show k*7+7=(A.flatMap ccs).length+7 by omega,<-zon,zqa,show(ccs y++(D.flatMap ccs++rest)).drop 7=D.flatMap ccs++rest from List.drop_left' rfl];rfl
def p7{ls:List CH}(h:k<ls.length)(off:Nat)(ho:off=k*7):Nat.ble (off+7) (ls.flatMap ccs++rest).length=true:=zpw (by rw[nr,Ed];omega)
section
variable  {A zrw D:List α} {x y:α}
def Bs(h:A.length=i):(A++x::(zrw++y::D))[i]?=some x:=by subst h;simp
def Br(h:A.length+1+zrw.length=j):(A++x::(zrw++y::D))[j]?=some y:=by
 subst h;have e:A++x::(zrw++y::D)=(A++x::zrw)++y::D:=by simp
 rw[e,zq2 (by simp;omega)];simp;rw[show A.length+1+zrw.length-(A.length+(zrw.length+1))=0 by omega];rfl
def N5(hi:A.length=i)(hj:A.length+1+zrw.length=j):((A++x::(zrw++y::D)).set i y).set j x=A++y::(zrw++x::D):=by
 subst hi hj;have e:(A++x::(zrw++y::D)).set A.length y=(A++y::zrw)++y::D:=by simp
 rw[e,List.set_append_right _ _ (by simp;omega)];simp;rw[show A.length+1+zrw.length-(A.length+(zrw.length+1))=0 by omega];rfl
def Qh(hi:A.length=i)(hj:A.length+1+zrw.length=j):((A++x::(zrw++y::D)).set j x).set i y=A++y::(zrw++x::D):=by
 rw[List.set_comm _ _ I];exact N5 hi hj
end
attribute [local irreducible] V N X VO Par StepOK Has Ret RetL RetO RetT Src
def N9{X Q Y:List CH}(ha:P.length=a)(he:a+X.length+Q.length=e)(hx:X.length=n)(hy:Y.length=n)(hm:(P++(X++(Q++(Y++R)))).length=m)(hm1:m<=100000)(fv:Value)(hB:zry B w)
  (hr:(xe b ((P++(X++(Q++(Y++R)))).flatMap ccs++rest) tyC).P B w C) (hC:ZCB C w B):
  ky zrz 319 [.slice (some ⟨b,0,none⟩) m cap,.int .i64 a,.int .i64 e,.int .i64 n,fv] w B C (xe b ((P++(Y++(Q++(X++R)))).flatMap ccs++rest) tyC):=by
 unfold ky;refine xh 900 (xe b ((P++(X++(Q++(Y++R)))).flatMap ccs++rest) tyC) Tryz.func319 Z Tryz.ntmps319 (np Z) hB hr hC ?_;rw[xf];simp only[nr] at hm;refine(Zad∘Za0) ?_;refine xq (fun i:Nat=>[(0,.is (.slice (some ⟨b,0,none⟩) m cap)),(1,.is (.int .i64 a)),(2,.is (.int .i64 e)),(3,.is (.int .i64 n)),(10,.is (.int .i64 i)),(900,.own (xn b ((P++(Y.take i++(X.drop i++(Q++(X.take i++(Y.drop i++R)))))).flatMap ccs++rest) tyC))]) (fun i=>i<=n) (fun i=>n-i) 0 (mf _) ⟨Z,Z,Z,Z,Z,by simp only[zn6,zn5,mn];rfl,nm⟩ ?_;rintro i hi;by_cases hlt:i<n
 ·obtain⟨x,hxi⟩:=xu (l:=X) (show i<X.length by omega);obtain⟨y,hyi⟩:=xu (l:=Y) (show i<Y.length by omega)
  have e0:P++(Y.take i++(X.drop i++(Q++(X.take i++(Y.drop i++R)))))=(P++Y.take i)++x::((X.drop (i+1)++(Q++X.take i))++y::(Y.drop (i+1)++R)):=by
   rw[ez hxi,ez hyi];simp
  have e1:P++(Y.take (i+1)++(X.drop (i+1)++(Q++(X.take (i+1)++(Y.drop (i+1)++R)))))=(P++Y.take i)++y::((X.drop (i+1)++(Q++X.take i))++x::(Y.drop (i+1)++R)):=by
   rw[zns,zns,hxi,hyi];simp
  have l1:(P++Y.take i).length=a+i:=by rw[nr,mw];omega
  have l2:(P++Y.take i).length+1+(X.drop (i+1)++(Q++X.take i)).length=e+i:=by rw[l1,nr,nr,m6,mw];omega
  have g1:=Bs (x:=x) (y:=y) (zrw:=X.drop (i+1)++(Q++X.take i)) (D:=Y.drop (i+1)++R) l1;have g2:=Br (x:=x) (y:=y) (D:=Y.drop (i+1)++R) l2;have g3:=N5 (x:=x) (y:=y) (D:=Y.drop (i+1)++R) l1 l2;rw[e0];have hlen:((P++Y.take i)++x::((X.drop (i+1)++(Q++X.take i))++y::(Y.drop (i+1)++R))).length=m:=by rw[<-e0];simp only[nr,mw,m6];omega
  generalize (P++Y.take i)++x::((X.drop (i+1)++(Q++X.take i))++y::(Y.drop (i+1)++R))=K at *;have h1:=get_lt g1;have h2:=get_lt g2;have q1:=w9 (rest:=rest) g1 (0+(a+i)*7) I;have q2:=w9 (rest:=rest) g2 (0+(e+i)*7) I;have s1:=pz (rest:=rest) (z:=y) h1 (0+(a+i)*7) I;have b1:=p7 (rest:=rest) h1 (0+(a+i)*7) I;have h3:e+i<(K.set (a+i) y).length:=by rw[zqj];exact h2
  have s2:=pz (rest:=rest) (z:=x) h3 (0+(e+i)*7) I;have b2:=p7 (rest:=rest) h3 (0+(e+i)*7) I;rw[g3,<-e1] at s2;have a1:IntKind.i64.wrap ((a:Int)+(i:Int))=((a+i:Nat):Int):=xd I I;have a2:IntKind.i64.wrap ((e:Int)+(i:Int))=((e+i:Nat):Int):=xd I I;refine(Zd∘Z9∘Zb∘Zbq∘ZaZ) ?_;refine qp (id:=3) [(200029,[900]),(200035,[900]),(100036,[900]),(100037,[900])] kj J ((ZcJ∘ZcJ∘Zck) ?_);refine qz (kf L (q:=900) (vs:=[_,_,_,_,_,_,_]) Z Z Z Z q2) Z Z (Zck (h:=?_));refine qz (kf L (q:=900) (vs:=[_,_,_,_,_,_,_]) Z Z Z Z q1) Z Z (Z2 (h:=?_));refine xp (yj L (q:=900) Z Z b1 Z s1) Z (Z2 (h:=?_));refine xp (yj L (q:=900) Z Z b2 Z s2) Z ((Zco∘Zax∘Zq∘Zay) ?_);exact yv (x:=i) (i+1) I I ⟨Z,Z,Z,Z,Z,Z,nm⟩
 ·obtain rfl:i=n:=by omega
  have t1:X.take i=X:=znl I;have t2:Y.take i=Y:=znl I;have t3:X.drop i=[]:=znm I;have t4:Y.drop i=[]:=znm I;rw[t1,t2,t3,t4];simp only[mn];refine(Zd∘Z9∘Zb∘Z6∘Za5∘ZaG) ?_;exact xz L 900 (r:=xe b _ tyC) Z (fun _ _ h=>h) nq Z Z
end Go.V.L8
namespace Go.V.L8
open Go.V.L2 Go.V.L3 Go.V.L6
def _root_.Zf3(t:Wr Y->A:=by intro h;refine qp (id:=4) [(200026,[900]),(200031,[900])] kj J ?_;exact h.1)(h:Y):A:=t ⟨h⟩
def stC(l:List CH):List CH:=Es (fun c=>c.1) jh l
def ae(l:List CH):(stC l).length=l.length:=Qk cmpT_ord l
attribute [local irreducible] V N X VO Par StepOK Has Ret RetL RetO RetT ky Src
def zgl{X Y:List CH}(ha:P.length=a)(hmm:a+X.length=mm)(he:mm+Y.length=e)(hx:0<X.length)(hy:0<Y.length)(hm:(P++(X++(Y++R))).length=m)(hm1:m<=100000)(fv:Value)(hB:zry B w)
  (hr:(xe b ((P++(X++(Y++R))).flatMap ccs++rest) tyC).P B w C) (hC:ZCB C w B):
  ky zrz 318 [.slice (some ⟨b,0,none⟩) m cap,.int .i64 a,.int .i64 mm,.int .i64 e,fv] w B C (xe b ((P++(Y++(X++R))).flatMap ccs++rest) tyC):=by
 unfold ky;refine xh 900 (xe b ((P++(X++(Y++R))).flatMap ccs++rest) tyC) Tryz.func318 Z Tryz.ntmps318 (np Z) hB hr hC ?_;rw[xf];simp only[nr] at hm;have s1:IntKind.i64.wrap ((mm:Int)-(a:Int))=(X.length:Int):=xd I I |>.trans I;have s2:IntKind.i64.wrap ((e:Int)-(mm:Int))=(Y.length:Int):=xd I I |>.trans I;refine(Zad∘ZaC∘ZaH∘ZaC∘Zc∘Zaz) ?_
 refine xq (fun s:(List CH×List CH)×(List CH×List CH)=>[(0,.is (.slice (some ⟨b,0,none⟩) m cap)),(2,.is (.int .i64 mm)),(4,.is fv),(10,.is (.int .i64 s.1.2.length)),(11,.is (.int .i64 s.2.1.length)),(900,.own (xn b ((P++(s.1.1++(s.1.2++(s.2.1++(s.2.2++R))))).flatMap ccs++rest) tyC))])
  (fun s=>a+s.1.1.length+s.1.2.length=mm/\mm+s.2.1.length+s.2.2.length=e/\0<s.1.2.length/\0<s.2.1.length/\s.1.1++(s.2.1++(s.1.2++s.2.2))=Y++X) (fun s=>s.1.2.length+s.2.1.length) (([],X),(Y,[])) ⟨hmm,he,hx,hy,by simp⟩ ⟨rfl,rfl,rfl,rfl,rfl,rfl,nm⟩ ?_
 rintro⟨⟨D1,X1⟩,⟨Y1,D2⟩⟩ ⟨h1,h2,h3,h4,h5⟩;dsimp only at h1 h2 h3 h4 h5 |-;have hs1:IntKind.i64.wrap ((mm:Int)-(X1.length:Int))=((mm-X1.length:Nat):Int):=xd I I |>.trans I;by_cases heq:X1.length=Y1.length
 ·have e0:P++(D1++(X1++(Y1++(D2++R))))=(P++D1)++(X1++([]++(Y1++(D2++R)))):=by simp
  have e1:(P++D1)++(Y1++([]++(X1++(D2++R))))=P++(Y++(X++R)):=by
   have:Y++(X++R)=D1++(Y1++(X1++D2))++R:=by rw[h5];simp
   rw[this];simp
  have hlen:((P++D1)++(X1++([]++(Y1++(D2++R))))).length=m:=by simp only[nr,m5];omega
  rw[e0];refine(Zd∘ZaY∘Za7∘Za5∘ZaG∘ZbA∘Z7∘Zu∘Zat∘Zu) ?_;refine qh (xc L 900 (xe b (((P++D1)++(Y1++([]++(X1++(D2++R))))).flatMap ccs++rest) tyC) (r:=xe b (((P++D1)++(X1++([]++(Y1++(D2++R))))).flatMap ccs++rest) tyC) Z Z Z Z Z (fun u H C hH _ hr hC=>(by have h:=N9 (cap:=cap) (a:=mm-X1.length) (e:=mm) (n:=X1.length) (by rw[nr];omega) (by simp only[m5];omega) Z heq.symm hlen hm1 fv hH hr hC;exact h))) ?_;refine Zac (h:=?_);rw[e1];exact xz L 900 (r:=xe b _ tyC) Z (fun _ _ h=>h) nq Z Z
 ·by_cases hgt:Y1.length<X1.length
  ·have hs2:IntKind.i64.wrap ((X1.length:Int)-(Y1.length:Int))=((X1.drop Y1.length).length:Int):=xd I I |>.trans (by rw[m6];omega);have lt:(X1.take Y1.length).length=Y1.length:=by rw[mw];omega
   have e0:P++(D1++(X1++(Y1++(D2++R))))=(P++D1)++(X1.take Y1.length++(X1.drop Y1.length++(Y1++(D2++R)))):=by
    conv=>lhs;rw[<-znn Y1.length X1]
    simp only[mo]
   have e1:(P++D1)++(Y1++(X1.drop Y1.length++(X1.take Y1.length++(D2++R))))=P++((D1++Y1)++(X1.drop Y1.length++(X1.take Y1.length++(D2++R)))):=by simp
   have hlen:((P++D1)++(X1.take Y1.length++(X1.drop Y1.length++(Y1++(D2++R))))).length=m:=by rw[<-e0];simp only[nr];omega
   have hld:(X1.drop Y1.length).length=X1.length-Y1.length:=m6;rw[e0];refine(Zd∘ZaY∘Zc8∘Z3∘Zbm∘ZcF∘ZJ∘Zr∘Zs∘Zu∘Zat∘Zu) ?_;refine qh (xc L 900 (xe b (((P++D1)++(Y1++(X1.drop Y1.length++(X1.take Y1.length++(D2++R))))).flatMap ccs++rest) tyC) (r:=xe b (((P++D1)++(X1.take Y1.length++(X1.drop Y1.length++(Y1++(D2++R))))).flatMap ccs++rest) tyC) Z Z Z Z Z (fun u H C hH _ hr hC=>(by have h:=N9 (cap:=cap) (a:=mm-X1.length) (e:=mm) (n:=Y1.length) (by rw[nr];omega) I lt Z hlen hm1 fv hH hr hC;exact h))) ?_;refine(Zp∘ZT∘ZaC∘ZaB) ?_;rw[e1]
   exact yv (x:=((D1,X1),(Y1,D2))) ((D1++Y1,X1.drop Y1.length),(X1.take Y1.length,D2)) ⟨by dsimp only;rw[List.length_append];omega,by dsimp only;omega,by dsimp only;omega,by dsimp only;omega,by
    dsimp only;rw[<-h5]
    conv=>rhs;rw[<-znn Y1.length X1]
    simp only[List.append_assoc]⟩ M ⟨rfl,rfl,rfl,rfl,by dsimp only;rw[lt];rfl,rfl,trivial⟩
  ·have hs2:IntKind.i64.wrap ((Y1.length:Int)-(X1.length:Int))=((Y1.take (Y1.length-X1.length)).length:Int):=xd I I |>.trans (by rw[mw];omega);have hs3:IntKind.i64.wrap ((mm:Int)+(Y1.length:Int))=((mm+Y1.length:Nat):Int):=xd I I;have hs4:IntKind.i64.wrap (((mm+Y1.length:Nat):Int)-(X1.length:Int))=((mm+Y1.length-X1.length:Nat):Int):=xd I I |>.trans I;have lt:(Y1.take (Y1.length-X1.length)).length=Y1.length-X1.length:=by rw[mw];omega
   have ld:(Y1.drop (Y1.length-X1.length)).length=X1.length:=by rw[m6];omega
   have e0:P++(D1++(X1++(Y1++(D2++R))))=(P++D1)++(X1++(Y1.take (Y1.length-X1.length)++(Y1.drop (Y1.length-X1.length)++(D2++R)))):=by
    conv=>lhs;rw[<-znn (Y1.length-X1.length) Y1]
    simp only[mo]
   have e1:(P++D1)++(Y1.drop (Y1.length-X1.length)++(Y1.take (Y1.length-X1.length)++(X1++(D2++R))))=P++(D1++(Y1.drop (Y1.length-X1.length)++(Y1.take (Y1.length-X1.length)++((X1++D2)++R)))):=by simp
   have hlen:((P++D1)++(X1++(Y1.take (Y1.length-X1.length)++(Y1.drop (Y1.length-X1.length)++(D2++R))))).length=m:=by rw[<-e0];simp only[nr];omega
   rw[e0];refine(Zd∘ZaY∘Zc8∘Z3∘Zbm∘ZcF∘Zan∘Zdc∘ZD∘Zu∘Zat∘Zb∘ZF∘Za∘Zat∘Zb) ?_;refine qh (xc L 900 (xe b (((P++D1)++(Y1.drop (Y1.length-X1.length)++(Y1.take (Y1.length-X1.length)++(X1++(D2++R))))).flatMap ccs++rest) tyC) (r:=xe b (((P++D1)++(X1++(Y1.take (Y1.length-X1.length)++(Y1.drop (Y1.length-X1.length)++(D2++R))))).flatMap ccs++rest) tyC) Z Z Z Z Z (fun u H C hH _ hr hC=>(by have h:=N9 (cap:=cap) (a:=mm-X1.length) (e:=mm+Y1.length-X1.length) (n:=X1.length) (by rw[nr];omega) I Z ld hlen hm1 fv hH hr hC;exact h))) ?_;refine(Zp∘ZU∘ZaC∘ZaB) ?_;rw[e1]
   exact yv (x:=((D1,X1),(Y1,D2))) ((D1,Y1.drop (Y1.length-X1.length)),(Y1.take (Y1.length-X1.length),X1++D2)) ⟨by dsimp only;omega,by dsimp only;rw[List.length_append];omega,by dsimp only;omega,by dsimp only;omega,by
    dsimp only;rw[<-h5]
    conv=>rhs;rw[<-znn (Y1.length-X1.length) Y1]
    simp only[List.append_assoc]⟩ M ⟨rfl,rfl,rfl,by dsimp only;rw[ld];rfl,rfl,rfl,trivial⟩
abbrev ORD:Nat:=228
abbrev De:Value:=.func (.func ORD) #[] #[]
def f9{x y:CH}(hB:zry B w):Ret zrz ORD ([chv x.1 x.2,chv y.1 y.2]++[]) w B (fun r _=>r=.int .i64 (jh x.1 y.1)):=by
 refine yo Tryz.func228 Z Tryz.ntmps228 (np Z) hB ((ZaI∘ZaH∘Zcj∘Zcj) ?_);refine z71 L Z (fun u H hH _=>wv (a:=x.1) (b:=y.1) hH) ?_;refine Ze (h:=?_);exact yl2 L [.tmp 4]
def ins_ret{X:List CH}(ha:P.length=a)(he:a+X.length=e)(hm:(P++(X++R)).length=m)(hm1:m<=100000)(hB:zry B w)
  (hr:(xe b ((P++(X++R)).flatMap ccs++rest) tyC).P B w C) (hC:ZCB C w B):
  ky zrz 310 [.slice (some ⟨b,0,none⟩) m cap,.int .i64 a,.int .i64 e,De] w B C (xe b ((P++(stC X++R)).flatMap ccs++rest) tyC):=by
 unfold ky;refine xh 900 (xe b ((P++(X++R)).flatMap ccs++rest) tyC) Tryz.func310 Z Tryz.ntmps310 (np Z) hB hr hC ?_;rw[xf];simp only[nr] at hm;have hst1:stC (X.take 1)=X.take 1:=by rcases X with _ | ⟨x,X⟩<;>rfl
 refine(Zad∘Za∘ZcQ∘Za0) ?_;refine xq (fun s:Nat=>[(0,.is (.slice (some ⟨b,0,none⟩) m cap)),(1,.is (.int .i64 a)),(2,.is (.int .i64 e)),(3,.is De),(8,.is (.int .i64 (a+s:Nat))),(900,.own (xn b ((P++(stC (X.take s)++(X.drop s++R))).flatMap ccs++rest) tyC))]) (fun s=>1<=s/\s<=max X.length 1) (fun s=>X.length-s) 1 ⟨nu _,by omega⟩ ⟨Z,Z,Z,Z,Z,by rw[hst1,<-mo (X.take 1),znn];rfl,nm⟩ ?_;rintro s ⟨hs1,hs2⟩;by_cases hlt:s<X.length
 ·obtain⟨x,hx⟩:=xu hlt;have hsl:(stC (X.take s)).length=s:=by rw[ae,mw];omega
  refine(Zd∘Z9∘Zb∘Zbq∘ZaX∘Zx∘Za0) ?_
  refine xq (fun t:List CH×List CH=>[(0,.is (.slice (some ⟨b,0,none⟩) m cap)),(1,.is (.int .i64 a)),(2,.is (.int .i64 e)),(3,.is De),(8,.is (.int .i64 (a+s:Nat))),(9,.is (.int .i64 (a+t.1.length:Nat))),(900,.own (xn b ((P++(t.1++(x::(t.2++(X.drop (s+1)++R))))).flatMap ccs++rest) tyC))])
   (fun t=>t.1++t.2=stC (X.take s)/\∀ z∈t.2,jh x.1 z.1<0) (fun t=>t.1.length) (stC (X.take s),[]) ⟨List.append_nil _,fun z hz=>(by cases hz)⟩ ⟨rfl,rfl,rfl,rfl,rfl,by dsimp only;rw[hsl];rfl,by dsimp only;rw[ez hx];rfl,trivial⟩ ?_
  rintro⟨A,D⟩ ⟨hAD,hD⟩;dsimp only at hAD hD |-;have hAl:A.length+D.length=s:=by rw[<-nr,hAD,hsl]
  have hfin:(∀ y,A.getLast?=some y->¬ jh x.1 y.1<0)->P++(A++(x::(D++(X.drop (s+1)++R))))=P++(stC (X.take (s+1))++(X.drop (s+1)++R)):=fun h=>by
   have:=zhm (k:=fun c:CH=>c.1) cmpT_ord (x:=x) hAD hD h;rw[zns,hx];unfold stC;show _=P++(Es (fun c:CH=>c.1) jh (X.take s++[x])++_);rw[<-this];simp
  rcases zrm A with hA | ⟨A',y,hA⟩
  ·subst hA;rw[hfin (fun y hy=>by simp at hy),m5,zpt];refine(Zd∘Zf3∘Zt∘Zdo∘Zcd∘ZeA∘Za4∘ZaG∘Zax∘Zq∘Zay) ?_;exact yv (x:=s) (s+1) ⟨by omega,by omega⟩ I ⟨Z,Z,Z,Z,Z,Z,nm⟩
  ·rw[zra] at hA;subst hA;have hl9:(A'++[y]).length=A'.length+1:=by rw[nr,zn1]
   rw[hl9] at hAl;have e0:P++((A'++[y])++(x::(D++(X.drop (s+1)++R))))=(P++A')++y::([]++x::(D++(X.drop (s+1)++R))):=by simp
   have l1:(P++A').length=a+A'.length:=by rw[nr,ha]
   have l2:(P++A').length+1+([]:List CH).length=a+(A'++[y]).length:=by rw[l1,hl9];rfl
   have g1:=Bs (x:=y) (y:=x) (zrw:=[]) (D:=D++(X.drop (s+1)++R)) l1;have g2:=Br (x:=y) (y:=x) (D:=D++(X.drop (s+1)++R)) l2;have g3:=Qh (x:=y) (y:=x) (D:=D++(X.drop (s+1)++R)) l1 l2;have e1:(P++A')++x::([]++y::(D++(X.drop (s+1)++R)))=P++(A'++(x::((y::D)++(X.drop (s+1)++R)))):=by simp
   have hlen:((P++A')++y::([]++x::(D++(X.drop (s+1)++R)))).length=m:=by rw[<-e0];simp only[nr,ma,m5,m6];omega
   have hw1:IntKind.i64.wrap (((a+(A'++[y]).length:Nat):Int)-1)=((a+A'.length:Nat):Int):=xd I I |>.trans I;by_cases hc:jh x.1 y.1<0
   ·rw[e0];rw[e1] at g3;generalize (P++A')++y::([]++x::(D++(X.drop (s+1)++R)))=K at *;have h1:=get_lt g1;have h2:=get_lt g2;have q1:=w9 (rest:=rest) g1 (0+(a+A'.length)*7) I;have q2:=w9 (rest:=rest) g2 (0+(a+(A'++[y]).length)*7) I;have s1:=pz (rest:=rest) (z:=y) h2 (0+(a+(A'++[y]).length)*7) I;have b1:=p7 (rest:=rest) h2 (0+(a+(A'++[y]).length)*7) I;have h3:a+A'.length<(K.set (a+(A'++[y]).length) y).length:=by rw[zqj];exact h1
    have s2:=pz (rest:=rest) (z:=x) h3 (0+(a+A'.length)*7) I;have b2:=p7 (rest:=rest) h3 (0+(a+A'.length)*7) I;rw[g3] at s2;refine(Zd∘Zf3∘Zt∘Zda∘Zt∘ZX) ?_;refine qz (kf L (q:=900) (vs:=[_,_,_,_,_,_,_]) Z Z Z Z q2) Z Z ((Zt∘ZbV) ?_);refine qz (kf L (q:=900) (vs:=[_,_,_,_,_,_,_]) Z Z Z Z q1) Z Z (z91 L Z (fun u H hH _=>f9 hH) ?_);refine(ZcR∘ZaA∘ZaN∘ZaZ) ?_;refine qp (id:=6) [(200046,[900]),(200050,[900]),(100051,[900]),(100052,[900])] kj J ((Zc4∘Zdr∘Zt∘ZbV) ?_);refine qz (kf L (q:=900) (vs:=[_,_,_,_,_,_,_]) Z Z Z Z q1) Z Z (ZX (h:=?_));refine qz (kf L (q:=900) (vs:=[_,_,_,_,_,_,_]) Z Z Z Z q2) Z Z (Z2 (h:=?_));refine xp (yj L (q:=900) Z Z b1 Z s1) Z (Z2 (h:=?_));refine xp (yj L (q:=900) Z Z b2 Z s2) Z ((Zco∘Zax∘Zak∘Zat∘Zao) ?_)
    exact yv (x:=(A'++[y],D)) (A',y::D) ⟨by rw[<-hAD];simp,fun z hz=>by
     rcases nz.1 hz with rfl | hz
     ·exact hc
     ·exact hD z hz⟩ M ⟨Z,Z,Z,Z,Z,Z,Z,nm⟩
   ·have hf:=hfin (fun z hz=>by rw[List.getLast?_append] at hz;simp at hz;subst hz;exact hc);rw[e0];rw[e0] at hf;have q1:=w9 (rest:=rest) g1 (0+(a+A'.length)*7) I;have q2:=w9 (rest:=rest) g2 (0+(a+(A'++[y]).length)*7) I;rw[hf] at q1 q2 |-;refine(Zd∘Zf3∘Zt∘Zda∘Zt∘ZX) ?_;refine qz (kf L (q:=900) (vs:=[_,_,_,_,_,_,_]) Z Z Z Z q2) Z Z ((Zt∘ZbV) ?_);refine qz (kf L (q:=900) (vs:=[_,_,_,_,_,_,_]) Z Z Z Z q1) Z Z (z91 L Z (fun u H hH _=>f9 hH) ?_);refine(Zdn∘Za4∘ZaG∘Zax∘Zq∘Zay) ?_;exact yv (x:=s) (s+1) ⟨by omega,by omega⟩ I ⟨Z,Z,Z,Z,Z,Z,nm⟩
 ·have hX:P++(stC (X.take s)++(X.drop s++R))=P++(stC X++R):=by
   rw[znl I,znm I,mn]
  rw[hX];refine(Zd∘Z9∘Zb∘Z6∘Za5∘ZaG) ?_;exact xz L 900 (r:=xe b _ tyC) Z (fun _ _ h=>h) nq Z Z
end Go.V.L8
namespace Go.V
section
variable {β:Type} [DecidableEq α] [DecidableEq β] {k:α->β} {c:β->β->Int}
omit [DecidableEq β] in
theorem T2(ho:Ord3 c){z y x:β}(h1:¬ c y z<0)(h2:c y x<0):c z x<0:=by
 by_cases h3:c z y<0
 ·exact ho.tr h3 h2
 ·have:=ho.anti y z;rw[ho.eq z y I];exact h2
omit [DecidableEq β] in
theorem Ty(ho:Ord3 c){x y z:β}(h1:c y x<0)(h2:¬ c z x<0):c y z<0:=by
 by_cases h3:c x z<0
 ·exact ho.tr h1 h3
 ·have:=ho.anti x z;rw[ho.eq z x I];exact h1
structure SymI(k:α->β)(c:β->β->Int)(X Y:List α)(a mid lo hi s r:Nat):Prop where
 ls:lo<=s
 sr:s<=r
 rh:r<=hi
 bef:∀ i x y,lo<=i->i<s->X[i-a]?=some x->Y[mid-1-i]?=some y->¬ c (k y) (k x)<0
 aft:∀ i x y,r<=i->i<hi->X[i-a]?=some x->Y[mid-1-i]?=some y->c (k y) (k x)<0
structure zld(X Y:List α)(a mm e mid lo hi:Nat):Prop where
 lx:a+X.length=mm
 ly:mm+Y.length=e
 al:a<=lo
 nl:mid+mm<=lo+e
 hm:hi<=mid
 hx:hi<=mm
 lo_:lo=a\/mid+mm=lo+e
 hi_:hi=mm\/hi=mid
omit [DecidableEq α] [DecidableEq β] in
theorem SymI.start{X Y:List α}(h:lo<=hi):SymI k c X Y a mid lo hi lo hi:=⟨nu _,h,nu _,fun i x y h1 h2=>by omega,fun i x y h1 h2=>by omega⟩
omit [DecidableEq α] [DecidableEq β] in
theorem SymI.up(ho:Ord3 c){X Y:List α}(hX:Srt k c X)(hY:Srt k c Y){s r:Nat}{x y:α}(hb:zld X Y a mm e mid lo hi)(h:SymI k c X Y a mid lo hi s r)(h1:s<=i)(h2:i<r)(hx:X[i-a]?=some x)(hy:Y[mid-1-i]?=some y)(hc:¬ c (k y) (k x)<0):SymI k c X Y a mid lo hi (i+1) r:=by
 obtain⟨b1,b2,b3,b4,b5,b6,_,_⟩:=hb;obtain⟨i1,i2,i3,i4,i5⟩:=h;refine⟨by omega,by omega,i3,fun j x' y' hj hji hx' hy' hlt=>hc ?_,i5⟩;have e1:=ax ho hX hx' hx I;have e2:=ax ho hY hy hy' I;exact T2 ho e2 (Ty ho hlt e1)
omit [DecidableEq α] [DecidableEq β] in
theorem SymI.down(ho:Ord3 c){X Y:List α}(hX:Srt k c X)(hY:Srt k c Y){s r:Nat}{x y:α}(hb:zld X Y a mm e mid lo hi)(h:SymI k c X Y a mid lo hi s r)(h1:s<=i)(h2:i<r)(hx:X[i-a]?=some x)(hy:Y[mid-1-i]?=some y)(hc:c (k y) (k x)<0):SymI k c X Y a mid lo hi s i:=by
 obtain⟨b1,b2,b3,b4,b5,b6,_,_⟩:=hb;obtain⟨i1,i2,i3,i4,i5⟩:=h;refine⟨by omega,by omega,by omega,i4,fun j x' y' hj hji hx' hy'=>?_⟩;have e1:=ax ho hX hx hx' I;have e2:=ax ho hY hy' hy I;exact T2 ho e2 (Ty ho hc e1)
theorem zb5(ho:Ord3 c){X Y:List α}(hX:Srt k c X)(hY:Srt k c Y){s:Nat}(hb:zld X Y a mm e mid lo hi)(h:SymI k c X Y a mid lo hi s s):
  Es k c (X.take (s-a)++Y.take (mid-s))++Es k c (X.drop (s-a)++Y.drop (mid-s))=Es k c (X++Y):=by
 obtain⟨b1,b2,b3,b4,b5,b6,b7,b8⟩:=hb;obtain⟨i1,i2,i3,i4,i5⟩:=h;have hXt:X.take (s-a)++X.drop (s-a)=X:=znn _ _;have hYt:Y.take (mid-s)++Y.drop (mid-s)=Y:=znn _ _
 have h12:∀ x∈X.drop (s-a),∀ y∈Y.take (mid-s),c (k y) (k x)<0:=fun x hx y hy=>by
  obtain⟨i,hi⟩:=zoc hx;obtain⟨j,hj⟩:=zoc hy;have hjl:=get_lt hj;rw[mw] at hjl;rw[zoi] at hi;rw[zo7 I] at hj;have hil:=get_lt hi;obtain⟨x0,hx0⟩:=xu (l:=X) (i:=s-a) I;obtain⟨y0,hy0⟩:=xu (l:=Y) (i:=mid-1-s) I;have h0:=i5 s x0 y0 (nu _) I hx0 hy0;exact T2 ho (ax ho hY hj hy0 I) (Ty ho h0 (ax ho hX hx0 hi I))
 have h21:∀ x∈X.take (s-a),∀ y∈Y.drop (mid-s),¬ c (k y) (k x)<0:=fun x hx y hy hlt=>by
  obtain⟨i,hi⟩:=zoc hx;obtain⟨j,hj⟩:=zoc hy;have hil:=get_lt hi;rw[mw] at hil;rw[zoi] at hj;rw[zo7 I] at hi;have hjl:=get_lt hj;obtain⟨x1,hx1⟩:=xu (l:=X) (i:=s-1-a) I;obtain⟨y1,hy1⟩:=xu (l:=Y) (i:=mid-s) I;have h0:=i4 (s-1) x1 y1 I I hx1 (by rw[show mid-1-(s-1)=mid-s by omega];exact hy1);exact h0 (T2 ho (ax ho hY hy1 hj I) (Ty ho hlt (ax ho hX hi hx1 I)))
 have:=zca ho (by rw[hXt];exact hX) (by rw[hYt];exact hY) h12 h21 (ux ho _) (ux ho _);rw[hXt,hYt] at this;exact E9 ho this
theorem zgy(ho:Ord3 c){x:α}{Y:List α}(hY:Srt k c Y)(h1:∀ j z,j<i->Y[j]?=some z->c (k z) (k x)<0)(h2:∀ j z,i<=j->Y[j]?=some z->¬ c (k z) (k x)<0):
  Y.take i++x::Y.drop i=Es k c ([x]++Y):=by
 have hY':Srt k c (Y.take i++Y.drop i):=by rw[znn];exact hY
 have:=zga ho (x:=x) hY' (fun z hz=>by
  obtain⟨j,hj⟩:=zoc hz;have hjl:=get_lt hj;rw[mw] at hjl;rw[zo7 I] at hj;exact h1 j z I hj) (fun z hz=>by
  obtain⟨j,hj⟩:=zoc hz;rw[zoi] at hj;exact h2 _ z I hj)
 rw[znn] at this;exact E9 ho this
theorem zgx(ho:Ord3 c){x:α}{X:List α}(hX:Srt k c X)(h1:∀ j z,j<i->X[j]?=some z->¬ c (k x) (k z)<0)(h2:∀ j z,i<=j->X[j]?=some z->c (k x) (k z)<0):
  X.take i++x::X.drop i=Es k c (X++[x]):=by
 have hX':Srt k c (X.take i++X.drop i):=by rw[znn];exact hX
 have:=Oe ho (x:=x) hX' (fun z hz=>by
  obtain⟨j,hj⟩:=zoc hz;have hjl:=get_lt hj;rw[mw] at hjl;rw[zo7 I] at hj;exact h1 j z I hj) (fun z hz=>by
  obtain⟨j,hj⟩:=zoc hz;rw[zoi] at hj;exact h2 _ z I hj)
 rw[znn] at this;exact E9 ho this
end
end Go.V
namespace Go.V.L8
open Go.V.L2 Go.V.L3 Go.V.L6
def zdt{X D:List CH}(ha:P.length=a){x:CH}(h:X[j]?=some x)(i:Nat)(hi:i=a+j):(P++(X++D))[i]?=some x:=by
 subst hi ha;have:=get_lt h;rw[zq2 I,show P.length+j-P.length=j by omega,zor this];exact h
def zhq{X Y D:List CH}(ha:P.length=a)(hx:a+X.length=mm){y:CH}(h:Y[j]?=some y)(i:Nat)(hi:i=mm+j):(P++(X++(Y++D)))[i]?=some y:=by
 have e:P++(X++(Y++D))=(P++X)++(Y++D):=by simp
 rw[e];exact zdt (by rw[nr];omega) h i hi
abbrev zii(l:List CH):Prop:=Srt (fun c:CH=>c.1) jh l
def B7(i j:Nat):((i:Int)+(j:Int)).fdiv (2^min (1:Int).toNat IntKind.u64.bits)=((i+j)/2:Nat):=by
 show((i:Int)+(j:Int)).fdiv 2=_;rw[zq0 _ T];omega
attribute [local irreducible] V N X VO Par StepOK Has Ret RetL RetO RetT ky Src
abbrev SYM:Nat:=311
def zf6{Y:List CH}{x:CH}(ha:P.length=a)(hmm:a+1=mm)(he:mm+Y.length=e)(hY:zii Y)(hm:(P++([x]++(Y++R))).length=m)(hm1:m<=100000)(hB:zry B w)
  (hr:(xe b ((P++([x]++(Y++R))).flatMap ccs++rest) tyC).P B w C) (hC:ZCB C w B):
  ky zrz SYM [.slice (some ⟨b,0,none⟩) m cap,.int .i64 a,.int .i64 mm,.int .i64 e,De] w B C (xe b ((P++(stC ([x]++Y)++R)).flatMap ccs++rest) tyC):=by
 unfold ky;refine xh 900 (xe b ((P++([x]++(Y++R))).flatMap ccs++rest) tyC) Tryz.func311 Z Tryz.ntmps311 (np Z) hB hr hC ?_;rw[xf];have hm':=hm;simp only[nr,zn1] at hm';refine(Zf∘Zad∘Zb∘ZcM∘Zv∘Zr∘Z9∘Za∘ZbT∘Zc∘Zaz) ?_
 refine xq (fun s:Nat×Nat=>[(0,.is (.slice (some ⟨b,0,none⟩) m cap)),(1,.is (.int .i64 a)),(4,.is De),(10,.is (.int .i64 s.1)),(11,.is (.int .i64 s.2)),(900,.own (xn b ((P++([x]++(Y++R))).flatMap ccs++rest) tyC))])
  (fun s=>mm<=s.1/\s.1<=s.2/\s.2<=e/\(∀ (j:Nat) (z:CH),j<s.1-mm->Y[j]?=some z->jh z.1 x.1<0)/\∀ (j:Nat) (z:CH),s.2-mm<=j->Y[j]?=some z->¬ jh z.1 x.1<0) (fun s=>s.2-s.1) (mm,e)
  ⟨Nat.le_refl _,by dsimp only;omega,Nat.le_refl _,fun j z h=>(by dsimp only at h;omega),fun j z h hz=>(by have:=get_lt hz;dsimp only at h;omega)⟩ ⟨rfl,rfl,rfl,rfl,rfl,rfl,trivial⟩ ?_
 rintro⟨i,j⟩ ⟨h1,h2,h3,h4,h5⟩;dsimp only at h1 h2 h3 h4 h5 |-;by_cases hlt:i<j
 ·have hsh:=B7 i j;obtain⟨h,hh⟩:∃ h,(i+j)/2=h:=⟨_,rfl⟩
  rw[hh] at hsh;obtain⟨y,hy⟩:=xu (l:=Y) (show h-mm<Y.length by omega);have q1:=w9 (rest:=rest) (zhq (X:=[x]) (D:=R) (mm:=mm) ha hmm hy h I) (0+h*7) I;have q2:=w9 (rest:=rest) (zdt (X:=[x]) (D:=Y++R) ha (j:=0) rfl a I) (0+a*7) I;by_cases hc:jh y.1 x.1<0
  ·refine(ZbG∘Zbq∘Zbm∘Zs∘Zb∘ZcQ) ?_;refine z7 (xw Z Z Z ws.1 ws.2 (wrap_u64 I I)) Z (Zd4 (h:=?_));refine z7 (xw Z Z Z wt.1 wt.2 (xd I I)) Z (Zc (h:=?_));refine qp (id:=5) [(200044,[900]),(200048,[900])] kj J ((Zb2∘Z2) ?_);refine qz (kf L (q:=900) (vs:=[_,_,_,_,_,_,_]) Z Z Z Z q1) Z Z (ZX (h:=?_));refine qz (kf L (q:=900) (vs:=[_,_,_,_,_,_,_]) Z Z Z Z q2) Z Z (z91 L Z (fun u H hH _=>f9 hH) ?_);refine(ZcR∘ZaN∘ZL∘Zay∘Zau) ?_
   exact yv (x:=(i,j)) (h+1,j) ⟨by dsimp only;omega,by dsimp only;omega,h3,fun k z hk hz=>by
    dsimp only at hk;exact T2 cmpT_ord (ax cmpT_ord hY hz hy I) hc,h5⟩ M ⟨Z,Z,Z,Z,Z,Z,nm⟩
  ·refine(ZbG∘Zbq∘Zbm∘Zs∘Zb∘ZcQ) ?_;refine z7 (xw Z Z Z ws.1 ws.2 (wrap_u64 I I)) Z (Zd4 (h:=?_));refine z7 (xw Z Z Z wt.1 wt.2 (xd I I)) Z (Zc (h:=?_));refine qp (id:=5) [(200044,[900]),(200048,[900])] kj J ((Zb2∘Z2) ?_);refine qz (kf L (q:=900) (vs:=[_,_,_,_,_,_,_]) Z Z Z Z q1) Z Z (ZX (h:=?_));refine qz (kf L (q:=900) (vs:=[_,_,_,_,_,_,_]) Z Z Z Z q2) Z Z (z91 L Z (fun u H hH _=>f9 hH) ?_);refine(Zdn∘Zbg∘Z5∘ZaB) ?_
   exact yv (x:=(i,j)) (i,h) ⟨h1,by dsimp only;omega,by dsimp only;omega,h4,fun k z hk hz hcx=>by
    dsimp only at hk;exact hc (T2 cmpT_ord (ax cmpT_ord hY hy hz I) hcx)⟩ M ⟨Z,Z,Z,Z,Z,Z,nm⟩
 ·obtain rfl:i=j:=by omega
  have hfin:=zgy (k:=fun c:CH=>c.1) cmpT_ord hY h4 h5;have hal:(Y.take (i-mm)).length=i-mm:=by rw[mw];omega
  have hYl:(Y.take (i-mm)).length+(Y.drop (i-mm)).length=Y.length:=by rw[<-nr,znn]
  have e0:P++([x]++(Y++R))=P++([]++(x::(Y.take (i-mm)++(Y.drop (i-mm)++R)))):=by
   rw[<-mo (Y.take _),znn];rfl
  rw[e0]
  have e9:P++(Y.take (i-mm)++(x::(Y.drop (i-mm)++R)))=P++(stC ([x]++Y)++R):=by
   unfold stC;rw[<-hfin];simp
  generalize Y.take (i-mm)=A at *;generalize Y.drop (i-mm)=D at *;clear hfin h4 h5 e0;refine(ZbG∘Zb8∘Zf∘ZaM∘Za0) ?_;refine xq (fun t:Nat=>[(0,.is (.slice (some ⟨b,0,none⟩) m cap)),(10,.is (.int .i64 i)),(13,.is (.int .i64 (a+t:Nat))),(900,.own (xn b ((P++(A.take t++(x::(A.drop t++(D++R))))).flatMap ccs++rest) tyC))]) (fun t=>t<=A.length) (fun t=>A.length-t) 0 (mf _) ⟨Z,Z,Z,Z,nm⟩ ?_;rintro t ht;by_cases htl:t<A.length
  ·obtain⟨z,hz⟩:=xu htl;have e0:P++(A.take t++(x::(A.drop t++(D++R))))=(P++A.take t)++x::([]++z::(A.drop (t+1)++(D++R))):=by rw[ez hz];simp
   have e1:(P++A.take t)++z::([]++x::(A.drop (t+1)++(D++R)))=P++(A.take (t+1)++(x::(A.drop (t+1)++(D++R)))):=by rw[zns,hz];simp
   have l1:(P++A.take t).length=a+t:=by rw[nr,mw];omega
   have l2:(P++A.take t).length+1+([]:List CH).length=a+t+1:=by rw[l1];rfl
   have g1:=Bs (x:=x) (y:=z) (zrw:=[]) (D:=A.drop (t+1)++(D++R)) l1;have g2:=Br (x:=x) (y:=z) (D:=A.drop (t+1)++(D++R)) l2;have g3:=N5 (x:=x) (y:=z) (D:=A.drop (t+1)++(D++R)) l1 l2;rw[e0];rw[e1] at g3;generalize (P++A.take t)++x::([]++z::(A.drop (t+1)++(D++R)))=K at *;have k1:=get_lt g1;have k2:=get_lt g2
   have hKl:a+t+1<m:=by
    have:a+1+A.length+D.length<=m:=I;omega
   have q1:=w9 (rest:=rest) g1 (0+(a+t)*7) I;have q2:=w9 (rest:=rest) g2 (0+(a+t+1)*7) I;have s1:=pz (rest:=rest) (z:=z) k1 (0+(a+t)*7) I;have b1:=p7 (rest:=rest) k1 (0+(a+t)*7) I;have k3:a+t+1<(K.set (a+t) z).length:=by rw[zqj];exact k2
   have s2:=pz (rest:=rest) (z:=x) k3 (0+(a+t+1)*7) I;have b2:=p7 (rest:=rest) k3 (0+(a+t+1)*7) I;rw[g3] at s2;have a1:IntKind.i64.wrap (((a+t:Nat):Int)+1)=((a+t+1:Nat):Int):=xd I I;refine(Zd∘ZE∘Zb∘ZcM∘Zbq∘ZaZ) ?_;refine qp (id:=11) [(200070,[900]),(200074,[900]),(100075,[900]),(100076,[900])] kj J ((Zc4∘ZbP∘Zt∘ZbP∘Z2) ?_);refine qz (kf L (q:=900) (vs:=[_,_,_,_,_,_,_]) Z Z Z Z q2) Z Z (ZX (h:=?_));refine qz (kf L (q:=900) (vs:=[_,_,_,_,_,_,_]) Z Z Z Z q1) Z Z (Z2 (h:=?_));refine xp (yj L (q:=900) Z Z b1 Z s1) Z (Z2 (h:=?_));refine xp (yj L (q:=900) Z Z b2 Z s2) Z ((Zco∘Zax∘Zbf∘Zar∘Zao) ?_);exact yv (x:=t) (t+1) I I ⟨Z,Z,Z,Z,nm⟩
  ·have hA:P++(A.take t++(x::(A.drop t++(D++R))))=P++(stC ([x]++Y)++R):=by
    rw[znl I,znm I,mn,e9]
   rw[hA];refine(Zd∘ZE∘Zb∘ZcM∘Z6∘Za5∘ZaG∘ZbA) ?_;exact jk L 900 (r:=xe b _ tyC) Z (fun _ _ h=>h) nq Z Z
def zf7{X:List CH}{y:CH}(ha:P.length=a)(hmm:a+X.length=mm)(hx1:¬ X.length=1)(he:mm+1=e)(hX:zii X)(hm:(P++(X++([y]++R))).length=m)(hm1:m<=100000)(hB:zry B w)
  (hr:(xe b ((P++(X++([y]++R))).flatMap ccs++rest) tyC).P B w C) (hC:ZCB C w B):
  ky zrz SYM [.slice (some ⟨b,0,none⟩) m cap,.int .i64 a,.int .i64 mm,.int .i64 e,De] w B C (xe b ((P++(stC (X++[y])++R)).flatMap ccs++rest) tyC):=by
 unfold ky;refine xh 900 (xe b ((P++(X++([y]++R))).flatMap ccs++rest) tyC) Tryz.func311 Z Tryz.ntmps311 (np Z) hB hr hC ?_;rw[xf];have hm':=hm;simp only[nr,zn1] at hm';refine(Zf∘Zad∘Zb∘ZcM∘Zn∘ZV∘ZW∘Zb∘ZcM∘Zv∘Zr∘ZO∘Za∘Zc∘ZbL∘Zc∘Zaz) ?_
 refine xq (fun s:Nat×Nat=>[(0,.is (.slice (some ⟨b,0,none⟩) m cap)),(2,.is (.int .i64 mm)),(4,.is De),(14,.is (.int .i64 s.1)),(15,.is (.int .i64 s.2)),(900,.own (xn b ((P++(X++([y]++R))).flatMap ccs++rest) tyC))])
  (fun s=>a<=s.1/\s.1<=s.2/\s.2<=mm/\(∀ (j:Nat) (z:CH),j<s.1-a->X[j]?=some z->¬ jh y.1 z.1<0)/\∀ (j:Nat) (z:CH),s.2-a<=j->X[j]?=some z->jh y.1 z.1<0) (fun s=>s.2-s.1) (a,mm)
  ⟨Nat.le_refl _,by dsimp only;omega,Nat.le_refl _,fun j z h=>(by dsimp only at h;omega),fun j z h hz=>(by have:=get_lt hz;dsimp only at h;omega)⟩ ⟨rfl,rfl,rfl,rfl,rfl,rfl,trivial⟩ ?_
 rintro⟨i,j⟩ ⟨h1,h2,h3,h4,h5⟩;dsimp only at h1 h2 h3 h4 h5 |-;by_cases hlt:i<j
 ·have hsh:=B7 i j;obtain⟨h,hh⟩:∃ h,(i+j)/2=h:=⟨_,rfl⟩
  rw[hh] at hsh;obtain⟨x,hx⟩:=xu (l:=X) (show h-a<X.length by omega);have q1:=w9 (rest:=rest) (zhq (Y:=[y]) (D:=R) ha hmm (j:=0) rfl mm I) (0+mm*7) I;have q2:=w9 (rest:=rest) (zdt (D:=[y]++R) ha hx h I) (0+h*7) I;by_cases hc:jh y.1 x.1<0
  ·refine(Zd∘Zap∘Zb∘Zbq∘Zbm∘Zaf∘Zb∘ZcQ) ?_;refine z7 (xw Z Z Z ws.1 ws.2 (wrap_u64 I I)) Z (Zd4 (h:=?_));refine z7 (xw Z Z Z wt.1 wt.2 (xd I I)) Z (Zc (h:=?_));refine qp (id:=17) [(200096,[900]),(200100,[900])] kj J ((Zb2∘Z2) ?_);refine qz (kf L (q:=900) (vs:=[_,_,_,_,_,_,_]) Z Z Z Z q1) Z Z (ZX (h:=?_));refine qz (kf L (q:=900) (vs:=[_,_,_,_,_,_,_]) Z Z Z Z q2) Z Z (z91 L Z (fun u H hH _=>f9 hH) ?_);refine(ZcR∘Zbl∘Zbg∘Zbu∘Za∘ZaB) ?_
   exact yv (x:=(i,j)) (i,h) ⟨h1,by dsimp only;omega,by dsimp only;omega,h4,fun k z hk hz=>by
    dsimp only at hk;exact Ty cmpT_ord hc (ax cmpT_ord hX hx hz I)⟩ M ⟨Z,Z,Z,Z,Z,Z,nm⟩
  ·refine(Zd∘Zap∘Zb∘Zbq∘Zbm∘Zaf∘Zb∘ZcQ) ?_;refine z7 (xw Z Z Z ws.1 ws.2 (wrap_u64 I I)) Z (Zd4 (h:=?_));refine z7 (xw Z Z Z wt.1 wt.2 (xd I I)) Z (Zc (h:=?_));refine qp (id:=17) [(200096,[900]),(200100,[900])] kj J ((Zb2∘Z2) ?_);refine qz (kf L (q:=900) (vs:=[_,_,_,_,_,_,_]) Z Z Z Z q1) Z Z (ZX (h:=?_));refine qz (kf L (q:=900) (vs:=[_,_,_,_,_,_,_]) Z Z Z Z q2) Z Z (z91 L Z (fun u H hH _=>f9 hH) ?_);refine(Zdn∘Zbl∘ZaN∘Zbb∘Za∘Zay∘Zau) ?_
   exact yv (x:=(i,j)) (h+1,j) ⟨by dsimp only;omega,by dsimp only;omega,h3,fun k z hk hz hcx=>by
    dsimp only at hk;exact hc (Ty cmpT_ord hcx (ax cmpT_ord hX hz hx I)),h5⟩ M ⟨Z,Z,Z,Z,Z,Z,nm⟩
 ·obtain rfl:i=j:=by omega
  have hfin:=zgx (k:=fun c:CH=>c.1) cmpT_ord hX h4 h5;have hal:(X.take (i-a)).length=i-a:=by rw[mw];omega
  have hXl:(X.take (i-a)).length+(X.drop (i-a)).length=X.length:=by rw[<-nr,znn]
  have e0:P++(X++([y]++R))=P++(X.take (i-a)++(X.drop (i-a)++(y::([]++R)))):=by
   rw[<-mo (X.take _),znn];rfl
  rw[e0]
  have e9:P++(X.take (i-a)++(y::(X.drop (i-a)++R)))=P++(stC (X++[y])++R):=by
   unfold stC;rw[<-hfin];simp
  generalize X.take (i-a)=A at *;generalize X.drop (i-a)=D at *;clear hfin h4 h5 e0;have hk0:mm=i+D.length:=I;refine(Zd∘Zap∘Zb∘Zb8∘Zf∘ZaK∘Za∘Za0) ?_;refine xq (fun t:Nat=>[(0,.is (.slice (some ⟨b,0,none⟩) m cap)),(14,.is (.int .i64 i)),(17,.is (.int .i64 (i+t:Nat))),(900,.own (xn b ((P++(A++(D.take t++(y::(D.drop t++R))))).flatMap ccs++rest) tyC))]) (fun t=>t<=D.length) (fun t=>t) D.length (nu _) ⟨Z,Z,by rw[<-hk0];rfl,by rw[znq,zpi];rfl,nm⟩ ?_;rintro t ht;rcases t with _ | t
  ·rw[zn6,zn5,mn,e9,zpt];refine(Zd∘Zb0∘Zb∘Zan∘Za5∘ZaG∘ZbA) ?_;exact jk L 900 (r:=xe b _ tyC) Z (fun _ _ h=>h) nq Z Z
  ·obtain⟨z,hz⟩:=xu (l:=D) (show t<D.length by omega);have e0:P++(A++(D.take (t+1)++(y::(D.drop (t+1)++R))))=(P++(A++D.take t))++z::([]++y::(D.drop (t+1)++R)):=by rw[zns,hz];simp
   have e1:(P++(A++D.take t))++y::([]++z::(D.drop (t+1)++R))=P++(A++(D.take t++(y::(D.drop t++R)))):=by rw[ez hz];simp
   have l1:(P++(A++D.take t)).length=i+t:=by rw[nr,nr,mw];omega
   have l2:(P++(A++D.take t)).length+1+([]:List CH).length=i+(t+1):=by rw[l1];rfl
   have g1:=Bs (x:=z) (y:=y) (zrw:=[]) (D:=D.drop (t+1)++R) l1;have g2:=Br (x:=z) (y:=y) (D:=D.drop (t+1)++R) l2;have g3:=Qh (x:=z) (y:=y) (D:=D.drop (t+1)++R) l1 l2;rw[e0];rw[e1] at g3;generalize (P++(A++D.take t))++z::([]++y::(D.drop (t+1)++R))=K at *;have k1:=get_lt g1;have k2:=get_lt g2;have hKl:i+(t+1)<m:=I;have q1:=w9 (rest:=rest) g1 (0+(i+t)*7) I;have q2:=w9 (rest:=rest) g2 (0+(i+(t+1))*7) I;have s1:=pz (rest:=rest) (z:=z) k2 (0+(i+(t+1))*7) I;have b1:=p7 (rest:=rest) k2 (0+(i+(t+1))*7) I;have k3:i+t<(K.set (i+(t+1)) z).length:=by rw[zqj];exact k1
   have s2:=pz (rest:=rest) (z:=y) k3 (0+(i+t)*7) I;have b2:=p7 (rest:=rest) k3 (0+(i+t)*7) I;rw[g3] at s2;have a1:IntKind.i64.wrap (((i+(t+1):Nat):Int)-1)=((i+t:Nat):Int):=xd I I |>.trans I;refine(Zd∘Zb0∘Zb∘ZJ∘Z3∘ZaZ) ?_;refine qp (id:=23) [(200122,[900]),(200126,[900]),(100127,[900]),(100128,[900])] kj J ((Zc4∘Zdr∘Zt∘ZbV) ?_);refine qz (kf L (q:=900) (vs:=[_,_,_,_,_,_,_]) Z Z Z Z q1) Z Z (ZX (h:=?_));refine qz (kf L (q:=900) (vs:=[_,_,_,_,_,_,_]) Z Z Z Z q2) Z Z (Z2 (h:=?_));refine xp (yj L (q:=900) Z Z b1 Z s1) Z (Z2 (h:=?_));refine xp (yj L (q:=900) Z Z b2 Z s2) Z ((Zco∘Zax∘ZbI∘Za∘Zat∘Zao) ?_);exact yv (x:=t+1) t I I ⟨Z,Z,Z,Z,nm⟩
def Yw(h:l.length=1):∃ x,l=[x]:=by
 rcases l with _ | ⟨x,_ | ⟨y,l⟩⟩
 ·simp at h
 ·exact⟨x,rfl⟩
 ·simp at h
def Gm(h:zii l):stC l=l:=zcb cmpT_ord h
def Vo(N0:Nat):∀ {P X Y R:List CH} {rest:List Value} {b m cap a mm e:Nat},X.length+Y.length<=N0->P.length=a->a+X.length=mm->mm+Y.length=e->0<X.length->0<Y.length->zii X->zii Y->(P++(X++(Y++R))).length=m->m<=100000->∀ {w:World} {B:Heap} {C:Nat->Prop},zry B w->
  (xe b ((P++(X++(Y++R))).flatMap ccs++rest) tyC).P B w C->(ZCB C w B)->
  ky zrz SYM [.slice (some ⟨b,0,none⟩) m cap,.int .i64 a,.int .i64 mm,.int .i64 e,De] w B C (xe b ((P++(stC (X++Y)++R)).flatMap ccs++rest) tyC):=by
 induction N0 with
 | zero=>intro P X Y R rest b m cap a mm e h1 h2 h3 h4 h5;omega
 | succ N0 ih=>
 intro P X Y R rest b m cap a mm e hN ha hmm he hx hy hX hY hm hm1 w B C hB hr hC;by_cases hx1:X.length=1
 ·obtain⟨x,rfl⟩:=Yw hx1;exact zf6 ha (by simpa using hmm) he hY hm hm1 hB hr hC
 by_cases hy1:Y.length=1
 ·obtain⟨y,rfl⟩:=Yw hy1;exact zf7 ha hmm hx1 (by simpa using he) hX hm hm1 hB hr hC
 unfold ky;refine xh 900 (xe b ((P++(X++(Y++R))).flatMap ccs++rest) tyC) Tryz.func311 Z Tryz.ntmps311 (np Z) hB hr hC ?_;rw[xf];have hm':=hm;simp only[nr] at hm';have hsh:=B7 a e;obtain⟨mid,hmid⟩:∃ mid,(a+e)/2=mid:=⟨_,rfl⟩
 rw[hmid] at hsh;have hnn:IntKind.i64.wrap ((mid:Int)+(mm:Int))=((mid+mm:Nat):Int):=xd I I;refine(Zf∘Zad∘Zb∘ZcM∘Zn∘ZV∘ZW∘Zb∘ZcM∘Zn∘Zo∘Zc5∘Zb∘ZcQ) ?_;refine z7 (xw Z Z Z ws.1 ws.2 (wrap_u64 I I)) Z (Zd4 (h:=?_));refine z7 (xw Z Z Z wt.1 wt.2 (xd I I)) Z ((Zc∘ZdV∘Zb∘ZF∘Zc) ?_);refine zh (id:=26) (Zb1 (h:=?_));refine ot (fun s:Nat×Nat=>[(0,.is (.slice (some ⟨b,0,none⟩) m cap)),(1,.is (.int .i64 a)),(2,.is (.int .i64 mm)),(3,.is (.int .i64 e)),(4,.is De),(18,.is (.int .i64 mid)),(19,.is (.int .i64 (mid+mm:Nat))),(20,.is (.int .i64 s.1)),(21,.is (.int .i64 s.2)),(900,.own (xn b ((P++(X++(Y++R))).flatMap ccs++rest) tyC))]) (fun s=>zld X Y a mm e mid s.1 s.2/\s.1<=s.2) (fun _=>[]) ?rest ?first
 case first=>
  by_cases hgt:mid<mm
  ·have hs:IntKind.i64.wrap (((mid+mm:Nat):Int)-(e:Int))=((mid+mm-e:Nat):Int):=xd I I |>.trans I;refine zh (id:=27) ((Zb∘ZJ∘Zr) ?_);refine zh (id:=28) ((ZaC∘Ze) ?_);refine zh (id:=29) ((Za∘Zao) ?_);exact wd (mid+mm-e,mid) Since.refl ⟨⟨hmm,he,by dsimp only;omega,by dsimp only;omega,Nat.le_refl _,by dsimp only;omega,.inr M,.inr Z⟩,by dsimp only;omega⟩ Z ⟨Z,Z,Z,Z,Z,Z,Z,Z,Z,Z,trivial⟩
  ·refine zh (id:=27) ((Zb∘Zan∘Zdc) ?_);refine zh (id:=30) ((Za∘Ze) ?_);refine zh (id:=31) ((Za∘Zao) ?_);exact wd (a,mm) Since.refl ⟨⟨hmm,he,Nat.le_refl _,by dsimp only;omega,by dsimp only;omega,Nat.le_refl _,.inl Z,.inl Z⟩,by dsimp only;omega⟩ Z ⟨Z,Z,Z,Z,Z,Z,Z,Z,Z,Z,trivial⟩
 case rest=>
 rintro⟨lo,hi⟩ ⟨hb,hlh⟩;dsimp only at hb hlh |-;have hp:IntKind.i64.wrap (((mid+mm:Nat):Int)-1)=((mid+mm-1:Nat):Int):=xd I I |>.trans I;refine Zf (h:=?_);refine zh (id:=32) ((Za∘Zat∘Zc∘Zaz) ?_)
 refine xq (fun s:Nat×Nat=>[(0,.is (.slice (some ⟨b,0,none⟩) m cap)),(1,.is (.int .i64 a)),(2,.is (.int .i64 mm)),(3,.is (.int .i64 e)),(4,.is De),(18,.is (.int .i64 mid)),(19,.is (.int .i64 (mid+mm:Nat))),(20,.is (.int .i64 s.1)),(21,.is (.int .i64 s.2)),(22,.is (.int .i64 (mid+mm-1:Nat))),(900,.own (xn b ((P++(X++(Y++R))).flatMap ccs++rest) tyC))])
  (fun s=>SymI (fun c:CH=>c.1) jh X Y a mid lo hi s.1 s.2) (fun s=>s.2-s.1) (lo,hi) (SymI.start hlh) ⟨rfl,rfl,rfl,rfl,rfl,rfl,rfl,rfl,rfl,rfl,rfl,nm⟩ ?_
 rintro⟨i,j⟩ hI;dsimp only at hI |-;have hI':=hI;have hb':=hb;obtain⟨b1,b2,b3,b4,b5,b6,_,_⟩:=hb';obtain⟨i1,i2,i3,_,_⟩:=hI';by_cases hlt:i<j
 ·have hsc:=B7 i j;obtain⟨c,hc⟩:∃ c,(i+j)/2=c:=⟨_,rfl⟩
  rw[hc] at hsc;obtain⟨x,hxc⟩:=xu (l:=X) (show c-a<X.length by omega);obtain⟨y,hyc⟩:=xu (l:=Y) (show mid-1-c<Y.length by omega);have q1:=w9 (rest:=rest) (zhq (D:=R) ha hmm hyc (mid+mm-1-c) I) (0+(mid+mm-1-c)*7) I;have q2:=w9 (rest:=rest) (zdt (D:=Y++R) ha hxc c I) (0+c*7) I;have hpc:IntKind.i64.wrap (((mid+mm-1:Nat):Int)-(c:Int))=((mid+mm-1-c:Nat):Int):=xd I I |>.trans I;by_cases hcm:jh y.1 x.1<0
  ·refine Zd (h:=?_);refine zh (id:=33) ((Zb∘Zbq∘Zbm) ?_);refine zh (id:=34) ((Zb∘ZcQ) ?_);refine z7 (xw Z Z Z ws.1 ws.2 (wrap_u64 I I)) Z (Zd4 (h:=?_));refine z7 (xw Z Z Z wt.1 wt.2 (xd I I)) Z (Zc (h:=?_));refine qp (id:=35) [(200164,[900]),(200168,[900])] kj J ((Zc4∘ZbV) ?_);refine qz (kf L (q:=900) (vs:=[_,_,_,_,_,_,_]) Z Z Z Z q1) Z Z (ZX (h:=?_));refine qz (kf L (q:=900) (vs:=[_,_,_,_,_,_,_]) Z Z Z Z q2) Z Z (z91 L Z (fun u H hH _=>f9 hH) ?_);refine(ZcR∘Zbl∘Zbg) ?_;refine zh (id:=37) ((Za∘ZaB) ?_);exact yv (x:=(i,j)) (i,c) (hI.down cmpT_ord hX hY hb I I hxc hyc hcm) M ⟨Z,Z,Z,Z,Z,Z,Z,Z,Z,Z,Z,nm⟩
  ·refine Zd (h:=?_);refine zh (id:=33) ((Zb∘Zbq∘Zbm) ?_);refine zh (id:=34) ((Zb∘ZcQ) ?_);refine z7 (xw Z Z Z ws.1 ws.2 (wrap_u64 I I)) Z (Zd4 (h:=?_));refine z7 (xw Z Z Z wt.1 wt.2 (xd I I)) Z (Zc (h:=?_));refine qp (id:=35) [(200164,[900]),(200168,[900])] kj J ((Zc4∘ZbV) ?_);refine qz (kf L (q:=900) (vs:=[_,_,_,_,_,_,_]) Z Z Z Z q1) Z Z (ZX (h:=?_));refine qz (kf L (q:=900) (vs:=[_,_,_,_,_,_,_]) Z Z Z Z q2) Z Z (z91 L Z (fun u H hH _=>f9 hH) ?_);refine(Zdn∘Zbl∘ZaN) ?_;refine zh (id:=36) ((Za∘Zay∘Zau) ?_);exact yv (x:=(i,j)) (c+1,j) (hI.up cmpT_ord hX hY hb I I hxc hyc hcm) M ⟨Z,Z,Z,Z,Z,Z,Z,Z,Z,Z,Z,nm⟩
 ·obtain rfl:i=j:=by omega
  have hj:=zb5 cmpT_ord hX hY hb hI;have hen:IntKind.i64.wrap (((mid+mm:Nat):Int)-(i:Int))=((mid+mm-i:Nat):Int):=xd I I |>.trans I;refine Zd (h:=?_);refine zh (id:=33) ((Zb∘Zb8) ?_);refine zh (id:=38) ((ZaC∘Zj) ?_);have eX:X.take (i-a)++X.drop (i-a)=X:=znn _ _;have eY:Y.take (mid-i)++Y.drop (mid-i)=Y:=znn _ _;have lA1:(X.take (i-a)).length=i-a:=by rw[mw];omega
  have lA2:(X.drop (i-a)).length=mm-i:=by rw[m6];omega
  have lB1:(Y.take (mid-i)).length=mid-i:=by rw[mw];omega
  have lB2:(Y.drop (mid-i)).length=e-(mid+mm-i):=by rw[m6];omega
  generalize X.take (i-a)=A1 at *;generalize X.drop (i-a)=A2 at *;generalize Y.take (mid-i)=B1 at *;generalize Y.drop (mid-i)=B2 at *
  change stC (A1++B1)++stC (A2++B2)=stC (X++Y) at hj
  rw[<-hj];subst eX eY;obtain⟨sA1,sA2,_⟩:=dk.1 hX;obtain⟨sB1,sB2,_⟩:=dk.1 hY;clear hI hb hj hX hY;obtain⟨en,hend⟩:∃ en,mid+mm-i=en:=⟨_,rfl⟩
  rw[hend] at lB2 |-;have e0:P++((A1++A2)++((B1++B2)++R))=(P++A1)++(A2++(B1++(B2++R))):=by simp
  have e1:(P++A1)++(B1++(A2++(B2++R)))=P++(A1++(B1++(A2++(B2++R)))):=by simp
  have hlen1:((P++A1)++(A2++(B1++(B2++R)))).length=m:=by rw[<-e0];exact hm
  have hlen2:(P++(A1++(B1++(A2++(B2++R))))).length=m:=by simp only[nr] at hm' |-;omega
  have hl3:=ae (A1++B1);rw[nr] at hl3;have e3:P++(stC (A1++B1)++(A2++(B2++R)))=(P++stC (A1++B1))++(A2++(B2++R)):=by simp
  have hlen3:((P++stC (A1++B1))++(A2++(B2++R))).length=m:=by simp only[nr] at hm' |-;omega
  have e4:(P++stC (A1++B1))++(stC (A2++B2)++R)=P++((stC (A1++B1)++stC (A2++B2))++R):=by simp
  simp only[nr] at hm' hmm he hN;refine ot (fun _:Unit=>[(0,.is (.slice (some ⟨b,0,none⟩) m cap)),(1,.is (.int .i64 a)),(3,.is (.int .i64 e)),(4,.is De),(18,.is (.int .i64 mid)),(20,.is (.int .i64 i)),(24,.is (.int .i64 en)),(900,.own (xn b ((P++(A1++(B1++(A2++(B2++R))))).flatMap ccs++rest) tyC))]) (fun _=>True) (fun _=>[]) ?rest1 ?first1
  case first1=>
   rw[e0];by_cases h1:i<mm
   ·by_cases h2:mm<en
    ·refine zh (id:=39) ((Zb∘ZI∘Zu∘ZI∘ZbJ) ?_);refine zh (id:=40) ((Zb∘Zu) ?_);refine qh (xc L 900 (xe b (((P++A1)++(B1++(A2++(B2++R)))).flatMap ccs++rest) tyC) (r:=xe b (((P++A1)++(A2++(B1++(B2++R)))).flatMap ccs++rest) tyC) Z Z Z Z Z (fun u H C hH _ hr hC=>(by have h:=zgl (cap:=cap) (a:=i) (mm:=mm) (e:=en) (by rw[nr];omega) I I I I hlen1 hm1 De hH hr hC;exact h))) ?_;refine Zac (h:=?_);rw[e1];exact wd () nq trivial Z ⟨Z,Z,Z,Z,Z,Z,Z,Z,nm⟩
    ·have hB1:B1=[]:=m8 I;subst hB1;have e9:(P++A1)++(A2++([]++(B2++R)))=P++(A1++([]++(A2++(B2++R)))):=by simp
     rw[e9];refine zh (id:=39) ((Zb∘ZI∘Zu∘Z6∘Zi∘Zas) ?_);exact wd () nq trivial Z ⟨Z,Z,Z,Z,Z,Z,Z,Z,nm⟩
   ·have hA2:A2=[]:=m8 I;subst hA2;have e9:(P++A1)++([]++(B1++(B2++R)))=P++(A1++(B1++([]++(B2++R)))):=by simp
    rw[e9];refine zh (id:=39) ((Zb∘Z6∘Zbe∘Zas) ?_);exact wd () nq trivial Z ⟨Z,Z,Z,Z,Z,Z,Z,Z,nm⟩
  case rest1=>
  rintro _ _;refine Zd (h:=?_);refine ot (fun _:Unit=>[(0,.is (.slice (some ⟨b,0,none⟩) m cap)),(3,.is (.int .i64 e)),(4,.is De),(18,.is (.int .i64 mid)),(24,.is (.int .i64 en)),(900,.own (xn b (((P++stC (A1++B1))++(A2++(B2++R))).flatMap ccs++rest) tyC))]) (fun _=>True) (fun _=>[]) ?rest2 ?first2
  case first2=>
   rw[<-e3];by_cases h1:a<i
   ·by_cases h2:i<mid
    ·refine zh (id:=41) ((Zb∘ZI∘Zu∘ZI∘ZbJ) ?_);refine zh (id:=42) ((Zb∘Zu) ?_);refine qh (xc L 900 (xe b ((P++(stC (A1++B1)++(A2++(B2++R)))).flatMap ccs++rest) tyC) (r:=xe b ((P++(A1++(B1++(A2++(B2++R))))).flatMap ccs++rest) tyC) Z Z Z Z Z (fun u H C hH _ hr hC=>(by have h:=ih (cap:=cap) (a:=a) (mm:=i) (e:=mid) I ha I I I I sA1 sB1 hlen2 hm1 hH hr hC;exact h))) ?_;refine Zac (h:=?_);exact wd () nq trivial Z ⟨Z,Z,Z,Z,Z,Z,nm⟩
    ·have hB1:B1=[]:=m8 I;subst hB1;have e9:P++(A1++([]++(A2++(B2++R))))=P++(stC (A1++[])++(A2++(B2++R))):=by rw[mp,Gm sA1];rfl
     rw[e9];refine zh (id:=41) ((Zb∘ZI∘Zu∘Z6∘Zi∘Zas) ?_);exact wd () nq trivial Z ⟨Z,Z,Z,Z,Z,Z,nm⟩
   ·have hA1:A1=[]:=m8 I;subst hA1;have e9:P++([]++(B1++(A2++(B2++R))))=P++(stC ([]++B1)++(A2++(B2++R))):=by rw[mn,mn,Gm sB1]
    rw[e9];refine zh (id:=41) ((Zb∘Z6∘Zbe∘Zas) ?_);exact wd () nq trivial Z ⟨Z,Z,Z,Z,Z,Z,nm⟩
  case rest2=>
  rintro _ _;by_cases h1:mid<en
  ·by_cases h2:en<e
   ·refine Zf (h:=?_);refine zh (id:=43) ((Zb∘ZI∘Zu∘ZI∘ZbJ) ?_);refine zh (id:=44) ((Zb∘Zu) ?_);refine qh (xc L 900 (xe b (((P++stC (A1++B1))++(stC (A2++B2)++R)).flatMap ccs++rest) tyC) (r:=xe b (((P++stC (A1++B1))++(A2++(B2++R))).flatMap ccs++rest) tyC) Z Z Z Z Z (fun u H C hH _ hr hC=>(by have h:=ih (cap:=cap) (a:=mid) (mm:=en) (e:=e) I (by rw[nr];omega) I I I I sA2 sB2 hlen3 hm1 hH hr hC;exact h))) ?_;refine Zac (h:=?_);rw[e4];exact xz L 900 (r:=xe b _ tyC) Z (fun _ _ h=>h) nq Z Z
   ·have hB2:B2=[]:=m8 I;subst hB2;have e9:(P++stC (A1++B1))++(A2++([]++R))=P++((stC (A1++B1)++stC (A2++[]))++R):=by rw[mp,Gm sA2];simp
    rw[e9];refine Zf (h:=?_);refine zh (id:=43) ((Zb∘ZI∘Zu∘Z6∘Zi∘Zas) ?_);exact xz L 900 (r:=xe b _ tyC) Z (fun _ _ h=>h) nq Z Z
  ·have hA2:A2=[]:=m8 I;subst hA2;have e9:(P++stC (A1++B1))++([]++(B2++R))=P++((stC (A1++B1)++stC ([]++B2))++R):=by rw[mn,mn,Gm sB2];simp
   rw[e9];refine Zf (h:=?_);refine zh (id:=43) ((Zb∘Z6∘Zbe∘Zas) ?_);exact xz L 900 (r:=xe b _ tyC) Z (fun _ _ h=>h) nq Z Z
end Go.V.L8
namespace Go.V.L8
open Go.V.L2 Go.V.L3 Go.V.L6
abbrev chC(n:Nat)(l:List CH):List CH:=chL (fun c:CH=>c.1) jh n l
def Cc(hn:0<n)(l:List CH):chC n l=stC (l.take n)++chC n (l.drop n):=Ke hn l
def Ar(hn:0<n)(h:l.length<=n):chC n l=stC l:=zhz hn h
def zh0(hn:0<n)(l:List CH):(chC n l).length=l.length:=za2 cmpT_ord hn l.length (nu _)
def Vw(X Y:List CH):stC (stC X++stC Y)=stC (X++Y):=zcd cmpT_ord X Y
def Bu(X:List CH):zii (stC X):=(ux cmpT_ord X).1
attribute [local irreducible] V N X VO Par StepOK Has Ret RetL RetO RetT ky Src
def zce(hm:l.length=m)(hm1:m<=100000)(hB:zry B w)
  (hr:(xe b (l.flatMap ccs++rest) tyC).P B w C) (hC:ZCB C w B):
  ky zrz 281 [.slice (some ⟨b,0,none⟩) m cap,.int .i64 m,De] w B C (xe b ((stC l).flatMap ccs++rest) tyC):=by
 unfold ky;refine xh 900 (xe b (l.flatMap ccs++rest) tyC) Tryz.func281 Z Tryz.ntmps281 (np Z) hB hr hC ?_;rw[xf];refine(Z4∘Za∘ZaR∘Zaz) ?_
 refine xq (fun s:Nat×List CH=>[(0,.is (.slice (some ⟨b,0,none⟩) m cap)),(1,.is (.int .i64 m)),(2,.is De),(6,.is (.int .i64 20)),(7,.is (.int .i64 s.1)),(8,.is (.int .i64 (s.1+20:Nat))),(900,.own (xn b ((s.2++l.drop s.1).flatMap ccs++rest) tyC))])
  (fun s=>s.2.length=s.1/\s.1<=m/\s.2++chC 20 (l.drop s.1)=chC 20 l) (fun s=>m-s.1) (0,[]) ⟨rfl,mf _,rfl⟩ ⟨rfl,rfl,rfl,rfl,rfl,rfl,rfl,nm⟩ ?_
 rintro⟨a,S1⟩ ⟨h1,h2,h3⟩;dsimp only at h1 h2 h3 |-;have hdl:(l.drop a).length=m-a:=by rw[m6,hm]
 by_cases hlt:a+20<=m
 ·have e0:S1++l.drop a=S1++((l.drop a).take 20++(l.drop a).drop 20):=by rw[znn]
  have e1:S1++(stC ((l.drop a).take 20)++(l.drop a).drop 20)=(S1++stC ((l.drop a).take 20))++l.drop (a+20):=by rw[zon,mo]
  have hlen:(S1++((l.drop a).take 20++(l.drop a).drop 20)).length=m:=by rw[<-e0,nr];omega
  have ltk:((l.drop a).take 20).length=20:=by rw[mw];omega
  have a1:IntKind.i64.wrap (((a+20:Nat):Int)+20)=((a+20+20:Nat):Int):=xd I I;rw[e0];refine(Zd∘ZaY∘ZcL∘Z3∘Zbm∘ZcF∘Zb) ?_;refine qh (xc L 900 (xe b ((S1++(stC ((l.drop a).take 20)++(l.drop a).drop 20)).flatMap ccs++rest) tyC) (r:=xe b ((S1++((l.drop a).take 20++(l.drop a).drop 20)).flatMap ccs++rest) tyC) Z Z Z Z Z (fun u H C hH _ hr hC=>(by have h:=ins_ret (cap:=cap) (a:=a) (e:=a+20) h1 I hlen hm1 hH hr hC;exact h))) ?_;refine(Zg∘ZB∘Ze∘ZbZ∘ZF∘ZaB) ?_;rw[e1]
  exact yv (x:=(a,S1)) (a+20,S1++stC ((l.drop a).take 20)) ⟨by dsimp only;rw[List.length_append,ae];omega,hlt,by
   dsimp only;rw[<-h3,Cc I (l.drop a),List.drop_drop,List.append_assoc]⟩ M ⟨rfl,rfl,rfl,rfl,rfl,rfl,rfl,nm⟩
 ·have e0:S1++l.drop a=S1++(l.drop a++[]):=by rw[mp]
  have e1:S1++(stC (l.drop a)++[])=chC 20 l:=by rw[mp,<-h3,Ar I I]
  have hlen:(S1++(l.drop a++[])).length=m:=by rw[<-e0,nr];omega
  rw[e0];refine(Zd∘ZaY∘ZcG∘ZaP∘ZD∘Zb4) ?_;refine qh (xc L 900 (xe b ((S1++(stC (l.drop a)++[])).flatMap ccs++rest) tyC) (r:=xe b ((S1++(l.drop a++[])).flatMap ccs++rest) tyC) Z Z Z Z Z (fun u H C hH _ hr hC=>(by have h:=ins_ret (cap:=cap) (a:=a) (e:=m) h1 I hlen hm1 hH hr hC;exact h))) ?_;refine Zdg (h:=?_);rw[e1];clear e0 e1 hlen hlt hdl h1 h2 h3;refine xq (fun s:Nat=>[(0,.is (.slice (some ⟨b,0,none⟩) m cap)),(1,.is (.int .i64 m)),(2,.is De),(6,.is (.int .i64 s)),(900,.own (xn b ((chC s l).flatMap ccs++rest) tyC))]) (fun s=>0<s/\s<=20+2*m) (fun s=>m-s) 20 ⟨by omega,by omega⟩ ⟨Z,Z,Z,Z,Z,nm⟩ ?_;rintro s ⟨hs0,hs1⟩;by_cases hsm:s<m
  ·refine(Zd∘Zbi∘Zbq∘Zbm∘ZaM∘Zdy∘ZaR∘Zaz) ?_
   refine xq (fun t:Nat×List CH=>[(0,.is (.slice (some ⟨b,0,none⟩) m cap)),(1,.is (.int .i64 m)),(2,.is De),(6,.is (.int .i64 s)),(7,.is (.int .i64 t.1)),(8,.is (.int .i64 (t.1+2*s:Nat))),(900,.own (xn b ((t.2++chC s (l.drop t.1)).flatMap ccs++rest) tyC))])
    (fun t=>t.2.length=t.1/\t.1<=m/\t.2++chC (2*s) (l.drop t.1)=chC (2*s) l) (fun t=>m-t.1) (0,[]) ⟨rfl,Nat.zero_le _,rfl⟩ ⟨rfl,rfl,rfl,rfl,rfl,by dsimp only;rw[Nat.zero_add];rfl,rfl,trivial⟩ ?_
   rintro⟨a,S1⟩ ⟨h1,h2,h3⟩;dsimp only at h1 h2 h3 |-;have hdl:(l.drop a).length=m-a:=by rw[m6,hm]
   have hcs:=Cc hs0 (l.drop a);by_cases hlt:a+2*s<=m
   ·have hcs2:=Cc hs0 ((l.drop a).drop s)
    have e0:S1++chC s (l.drop a)=S1++(stC ((l.drop a).take s)++(stC (((l.drop a).drop s).take s)++chC s (l.drop (a+2*s)))):=by
     rw[hcs,hcs2,zon,zon,show a+s+s=a+2*s by omega]
    have ht2:(l.drop a).take (2*s)=(l.drop a).take s++((l.drop a).drop s).take s:=by rw[show 2*s=s+s by omega,List.take_add]
    have e1:S1++(stC (stC ((l.drop a).take s)++stC (((l.drop a).drop s).take s))++chC s (l.drop (a+2*s)))=(S1++stC ((l.drop a).take (2*s)))++chC s (l.drop (a+2*s)):=by rw[Vw,<-ht2,mo]
    have l1:(stC ((l.drop a).take s)).length=s:=by rw[ae,mw];omega
    have l2:(stC (((l.drop a).drop s).take s)).length=s:=by rw[ae,mw,m6];omega
    have l3:(chC s (l.drop (a+2*s))).length=m-(a+2*s):=by rw[zh0 hs0,m6,hm]
    have hlen:(S1++(stC ((l.drop a).take s)++(stC (((l.drop a).drop s).take s)++chC s (l.drop (a+2*s))))).length=m:=by simp only[nr];omega
    have a1:IntKind.i64.wrap ((a:Int)+(s:Int))=((a+s:Nat):Int):=xd I I;have a2:IntKind.i64.wrap (((a+2*s:Nat):Int)+2*(s:Int))=((a+2*s+2*s:Nat):Int):=xd I I;rw[e0];refine(Zd∘ZE∘Zb∘ZcL∘Z3∘Zbm∘Zbf∘Zb4∘ZF∘Zb) ?_;refine qh (xc L 900 (xe b ((S1++(stC (stC ((l.drop a).take s)++stC (((l.drop a).drop s).take s))++chC s (l.drop (a+2*s)))).flatMap ccs++rest) tyC) (r:=xe b ((S1++(stC ((l.drop a).take s)++(stC (((l.drop a).drop s).take s)++chC s (l.drop (a+2*s))))).flatMap ccs++rest) tyC) Z Z Z Z Z (fun u H C hH _ hr hC=>(by have h:=Vo _ (cap:=cap) (a:=a) (mm:=a+s) (e:=a+2*s) (nu _) h1 I I I I (Bu _) (Bu _) hlen hm1 hH hr hC;exact h))) ?_;refine(Zg∘ZG∘Za∘Ze∘ZW∘Zb∘ZdB∘ZaB) ?_;rw[e1]
    exact yv (x:=(a,S1)) (a+2*s,S1++stC ((l.drop a).take (2*s))) ⟨by dsimp only;rw[List.length_append,ae,List.length_take];omega,hlt,by
     dsimp only;rw[<-h3,Cc I (l.drop a),List.drop_drop,List.append_assoc]⟩ M ⟨rfl,rfl,rfl,rfl,rfl,rfl,rfl,nm⟩
   ·have a1:IntKind.i64.wrap ((a:Int)+(s:Int))=((a+s:Nat):Int):=xd I I;have a2:IntKind.i64.wrap ((s:Int)*2)=((2*s:Nat):Int):=xd I I |>.trans I;by_cases hlm:a+s<m
    ·have e0:S1++chC s (l.drop a)=S1++(stC ((l.drop a).take s)++(stC ((l.drop a).drop s)++[])):=by
      rw[hcs,Ar hs0 (l:=(l.drop a).drop s) (by rw[m6];omega),mp]
     have e1:S1++(stC (stC ((l.drop a).take s)++stC ((l.drop a).drop s))++[])=chC (2*s) l:=by
      rw[Vw,znn,mp,<-h3,Ar (n:=2*s) I I]
     have l1:(stC ((l.drop a).take s)).length=s:=by rw[ae,mw];omega
     have l2:(stC ((l.drop a).drop s)).length=m-a-s:=by rw[ae,m6];omega
     have hlen:(S1++(stC ((l.drop a).take s)++(stC ((l.drop a).drop s)++[]))).length=m:=by simp only[nr,m5];omega
     rw[e0];refine(Zd∘ZE∘Zb∘ZcG∘ZaP∘Zf∘ZO∘Zb∘ZF∘Zc∘Za2∘Zb∘Zbq∘Zap∘Zb∘Zu) ?_;refine qh (xc L 900 (xe b ((S1++(stC (stC ((l.drop a).take s)++stC ((l.drop a).drop s))++[])).flatMap ccs++rest) tyC) (r:=xe b ((S1++(stC ((l.drop a).take s)++(stC ((l.drop a).drop s)++[]))).flatMap ccs++rest) tyC) Z Z Z Z Z (fun u H C hH _ hr hC=>(by have h:=Vo _ (cap:=cap) (a:=a) (mm:=a+s) (e:=m) (nu _) h1 I I I I (Bu _) (Bu _) hlen hm1 hH hr hC;exact h))) ?_;refine(Zp∘Zaf∘Za) ?_;refine z7 (Fg Z Z Z Z a2) Z (ZaB (h:=?_));rw[e1];exact yv (x:=s) (2*s) ⟨by omega,by omega⟩ I ⟨Z,Z,Z,Z,Z,nm⟩
    ·have e1:S1++chC s (l.drop a)=chC (2*s) l:=by
      rw[<-h3,Ar hs0 I,Ar (n:=2*s) I I]
     rw[e1];refine(Zd∘ZE∘Zb∘ZcG∘ZaP∘Zf∘ZO∘Zb∘ZF∘Zc∘Za2∘Zb∘Z6∘Zas∘ZbA∘Zaf∘Za) ?_;refine z7 (Fg Z Z Z Z a2) Z (ZaB (h:=?_));exact yv (x:=s) (2*s) ⟨by omega,by omega⟩ I ⟨Z,Z,Z,Z,Z,nm⟩
  ·rw[Ar hs0 I];refine(Zd∘Zbi∘Z6∘Za5∘ZaG) ?_;exact xz L 900 (r:=xe b _ tyC) Z (fun _ _ h=>h) nq Z Z
abbrev SSF:Nat:=229
def Vy(hm:l.length=m)(hm1:m<=100000)(hB:zry B w)
  (hr:(xe b (l.flatMap ccs++rest) tyC).P B w C) (hC:ZCB C w B):
  ky zrz SSF [.slice (some ⟨b,0,none⟩) m cap,De] w B C (xe b ((stC l).flatMap ccs++rest) tyC):=by
 unfold ky;refine xh 900 (xe b (l.flatMap ccs++rest) tyC) Tryz.func229 Z Tryz.ntmps229 (np Z) hB hr hC ?_;rw[xf];refine(Zfp∘Zb∘Za1∘Za) ?_;refine qh (xc L 900 (xe b ((stC l).flatMap ccs++rest) tyC) (r:=xe b (l.flatMap ccs++rest) tyC) Z Z Z Z Z (fun u H C hH _ hr hC=>(by have h:=zce (cap:=cap) hm hm1 hH hr hC;exact h))) ?_;refine Zac (h:=?_);exact xz L 900 (r:=xe b _ tyC) Z (fun _ _ h=>h) nq Z Z
def zdq(hB:zry B w):Ret zrz 310 [.slice none 0 0,.int .i64 0,.int .i64 0,De] w B (fun _ _=>True):=by
 refine yo Tryz.func310 Z Tryz.ntmps310 (np Z) hB ((Zad∘Za∘ZcQ∘Za0) ?_);refine xq (fun _:Nat=>[(2,.is (.int .i64 0)),(8,.is (.int .i64 1))]) (fun _=>True) (fun s=>s) 0 trivial ⟨Z,Z,nm⟩ ?_;rintro s _;refine(Zd∘Z9∘Zb∘Z6∘Za5∘ZaG) ?_;exact zbi L Z (fun _ _ h=>h) nq
def Vv(hB:zry B w):Ret zrz 281 [.slice none 0 0,.int .i64 0,De] w B (fun _ _=>True):=by
 refine yo Tryz.func281 Z Tryz.ntmps281 (np Z) hB ((Z4∘Za∘ZaR∘Zaz) ?_);refine xq (fun _:Nat=>[(0,.is (.slice none 0 0)),(1,.is (.int .i64 0)),(2,.is De),(6,.is (.int .i64 20)),(7,.is (.int .i64 0)),(8,.is (.int .i64 20))]) (fun _=>True) (fun s=>s) 0 trivial ⟨Z,Z,Z,Z,Z,Z,nm⟩ ?_;rintro s _;refine(Zd∘ZaY∘ZcG∘ZaP∘ZD∘Zb4) ?_;refine z7 (xl (φ:=fun _ _=>True) L Z Z (zp Z) Z Z Z (fun _ _ _ _ _=>trivial) (fun u H hH _ _=>zdq hH)) Z (Zdg (h:=?_));refine xq (fun _:Nat=>[(1,.is (.int .i64 0)),(6,.is (.int .i64 20))]) (fun _=>True) (fun s=>s) 0 trivial ⟨Z,Z,nm⟩ ?_;rintro s _;refine(Zd∘Zbi∘Z6∘Za5∘ZaG) ?_;exact zbi L Z (fun _ _ h=>h) nq
def S0(hB:zry B w):Ret zrz SSF [.slice none 0 0,De] w B (fun _ _=>True):=by
 refine yo Tryz.func229 Z Tryz.ntmps229 (np Z) hB ((Zfp∘Zb∘Za1∘Za) ?_);refine z7 (xl (φ:=fun _ _=>True) L Z Z (zp Z) Z Z Z (fun _ _ _ _ _=>trivial) (fun u H hH _ _=>Vv hH)) Z (Zac (h:=?_));exact zbi L Z (fun _ _ h=>h) nq
abbrev zC:CH:=((n3,n3),false)
def Y7(l:List CH)(t:U)(z:CH):CH:=l.foldl (fun a c=>if c.1=t then c else a) z
def fz(l:List CH)(t:U):Option CH:=(l.filter fun c=>decide (c.1=t)).getLast?
def Y5(t:U):fz [] t=none:=rfl
def fw(c:CH)(l:List CH)(t:U):fz (c::l) t=(fz l t).or (if c.1=t then some c else none):=by
 unfold fz;by_cases h:c.1=t
 ·rw[na h,zov (by simpa using h),List.getLast?_cons];cases (l.filter fun c=>decide (c.1=t)).getLast?<;>rfl
 ·rw[nc h,zpk (by simpa using h)];cases (l.filter fun c=>decide (c.1=t)).getLast?<;>rfl
def pu(h:fz l t=some c):c.1=t/\c∈l:=by
 have:=List.mem_of_getLast? h;rw[zn7] at this;exact⟨by simpa using this.2,this.1⟩
def bh{l:List CH}:fz l t=none↔∀ c∈l,c.1≠t:=by
 unfold fz;rw[zrn,zqo];simp
def Ra(l:List CH)(t:U)(z:CH):Y7 l t z=(fz l t).getD z:=by
 induction l generalizing z with
 | nil=>rfl
 | cons c r ih=>
  have:Y7 (c::r) t z=Y7 r t (if c.1=t then c else z):=rfl;rw[this,ih,fw]
  cases fz r t with
  | some d=>rfl
  | none=>by_cases h:c.1=t<;>simp [h]
def Mx{l:List CH}{z:CH}(h:∃ c∈l,c.1=t):fz l t=some (Y7 l t z):=by
 rw[Ra]
 cases hk:fz l t with
 | some d=>rfl
 | none=>obtain⟨c,hc,he⟩:=h;exact ni he (bh.1 hk c hc)
def Dn(l:List CH):List CH:=(Bg (l.map (·.1))).map fun t=>Y7 l t zC
def ra{l:List U}:t∈Bg l↔t∈l:=by unfold Bg;rw[eo];simp
def Lk(l:List U):Sst jh (Bg l):=ee cmpT_ord Sst.nil
def Ml:c∈Dn l↔fz l c.1=some c:=by
 unfold Dn;rw[m7];constructor
 ·rintro⟨t,ht,rfl⟩;rw[ra,m7] at ht;have:=Mx (z:=zC) ht;rw[(pu this).1];exact this
 ·intro h;have hm:=pu h;exact⟨c.1,ra.2 (m7.2 ⟨c,hm.2,rfl⟩),by rw[Ra,h];rfl⟩
def Tv(l:List CH):(Dn l).map (·.1)=Bg (l.map (·.1)):=by
 unfold Dn;rw[zoz]
 conv=>rhs;rw[<-zp2 (Bg (l.map (·.1)))]
 refine zpr fun t ht=>?_;rw[ra,m7] at ht;exact(pu (Mx (z:=zC) ht)).1
def Ku(l:List CH):Prop:=Sst jh (l.map (·.1))
def Mk(l:List CH):Ku (Dn l):=by unfold Ku;rw[Tv];exact Lk _
def aj(h:Ku l):l.Pairwise fun a b=>a.1≠b.1:=by
 unfold Ku Sst at h;rw[List.pairwise_map] at h;exact h.imp fun h1=>cmpT_ord.ne h1
def O9{m:List CH}(hl:Ku l)(hm:Ku m)(h:∀ c,c∈l↔c∈m):l=m:=by
 have hk:l.map (·.1)=m.map (·.1):=dj cmpT_ord hl hm fun t=>by
  rw[m7,m7];exact⟨fun⟨c,hc,e⟩=>⟨c,(h c).1 hc,e⟩,fun⟨c,hc,e⟩=>⟨c,(h c).2 hc,e⟩⟩
 have uni:∀ {l:List CH},Ku l->∀ a∈l,∀ b∈l,a.1=b.1->a=b:=fun {l} hn a ha b hb e=>by
  by_cases hab:a=b
  ·exact hab
  ·exfalso;obtain⟨i,hi⟩:=zoc ha;obtain⟨j,hj⟩:=zoc hb;obtain⟨hi',rfl⟩:=zoj.1 hi;obtain⟨hj',rfl⟩:=zoj.1 hj;have hp:=zpa.1 (aj hn);rcases zqx i j with h | h | h
   ·exact hp i j hi' hj' h e
   ·subst h;exact hab rfl
   ·exact hp j i hj' hi' h e.symm
 have hlen:l.length=m.length:=by rw[<-mj (f:=(·.1)),hk,mj]
 refine List.ext_getElem hlen fun i h1 h2=>?_
 have e:l[i].1=m[i].1:=by
  have:=nh (·[i]?) hk;simp only[zn4,zob h1,zob h2,zpn,Option.some.injEq] at this;exact this
 exact uni hm _ ((h _).1 (List.getElem_mem h1)) _ (List.getElem_mem h2) e
def am:List CH->List CH
 | []=>[]
 | [c]=>[c]
 | c::d::r=>if jh c.1 d.1=0 then am (d::r) else c::am (d::r)
def T3(h:l[i]?=some c):am (l.drop i)=(match l[i+1]? with | none=>[c] | some d=>if jh c.1 d.1=0 then [] else [c])++am (l.drop (i+1)):=by
 have h1:l.drop i=c::l.drop (i+1):=ez h;rw[h1]
 cases h2:l[i+1]? with
 | none=>
  have:l.drop (i+1)=[]:=znm (by simpa using h2);rw[this];rfl
 | some d=>
  have h3:l.drop (i+1)=d::l.drop (i+1+1):=ez h2;rw[h3];show(if jh c.1 d.1=0 then _ else _)=(if jh c.1 d.1=0 then _ else _)++_;split<;>rfl
def Fv:∀ {S:List CH},Srt (·.1) jh S->(∀ c∈am S,fz S c.1=some c)/\(∀ x∈S,∃ c∈am S,c.1=x.1)/\Ku (am S)
 | [],_=>⟨fun c hc=>(by cases hc),fun c hc=>(by cases hc),Sst.nil⟩
 | [c],_=>by
  have e:am [c]=[c]:=rfl;rw[e];refine⟨fun d hd=>?_,fun x hx=>⟨x,hx,rfl⟩,zop _ _⟩;rw[mz] at hd;subst hd;rw[fw,na rfl];rfl
 | c::d::r,h=>by
  obtain⟨h1,h2⟩:=mi.1 h;obtain⟨g1,g2,g3⟩:=Fv (S:=d::r) h2;have e:am (c::d::r)=if jh c.1 d.1=0 then am (d::r) else c::am (d::r):=rfl
  by_cases h0:jh c.1 d.1=0
  ·rw[e,na h0];have hcd:=cmpT_ord.eq _ _ h0;refine⟨fun x hx=>by rw[fw,g1 x hx];rfl,fun x hx=>?_,g3⟩;rcases nz.1 hx with rfl | hx
   ·obtain⟨y,hy,e⟩:=g2 d (mc ..);exact⟨y,hy,e.trans hcd.symm⟩
   ·exact g2 x hx
  ·rw[e,nc h0]
   have hlt:∀ y∈d::r,jh c.1 y.1<0:=fun y hy=>by
    have hcd:jh c.1 d.1<0:=by
     have h3:=h1 d (mc ..);have:=cmpT_ord.anti c.1 d.1;dsimp only at h3;omega
    rcases nz.1 hy with rfl | hy
    ·exact hcd
    ·have h3:=(mi.1 h2).1 y hy;dsimp only at h3;by_cases h5:jh d.1 y.1<0
     ·exact cmpT_ord.tr hcd h5
     ·have h6:jh d.1 y.1=0:=by have:=cmpT_ord.anti d.1 y.1;omega
      rw[<-cmpT_ord.eq _ _ h6];exact hcd
   refine⟨fun x hx=>?_,fun x hx=>?_,?_⟩
   ·rcases nz.1 hx with rfl | hx
    ·rw[fw,na rfl,bh.2 fun y hy e=>cmpT_ord.irr x.1 (by rw[<-e];exact ni (hlt y hy) (by rw[e];exact cmpT_ord.irr _))];rfl
    ·rw[fw,g1 x hx];rfl
   ·rcases nz.1 hx with rfl | hx
    ·exact⟨x,mc ..,rfl⟩
    ·obtain⟨y,hy,e⟩:=g2 x hx;exact⟨y,me _ hy,e⟩
   ·unfold Ku;rw[mq];refine mi.2 ⟨fun t ht=>?_,g3⟩;obtain⟨y,hy,rfl⟩:=m7.1 ht;exact hlt y (pu (g1 y hy)).2
def zab{S:List CH}(h:Stb (·.1) jh l S):am S=Dn l:=by
 obtain⟨g1,g2,g3⟩:=Fv h.1;have hK:∀ t,fz S t=fz l t:=fun t=>by unfold fz;rw[h.2 t]
 refine O9 g3 (Mk l) fun c=>?_;rw[Ml];constructor
 ·exact fun hc=>by rw[<-hK];exact g1 c hc
 ·intro hc;rw[<-hK] at hc;obtain⟨d,hd,e⟩:=g2 c (pu hc).2;have:=g1 d hd;rw[e,hc] at this;cases this;exact hd
def _root_.Ze1(t:Wr Y->A:=by intro h;refine z9 (yn Z Z Z Z (ng I)) Z ?_;exact h.1)(h:Y):A:=t ⟨h⟩
def _root_.ZeG(t:Wr Y->A:=by intro h;refine z9 (yp L Z Z Z Z) Z ?_;exact h.1)(h:Y):A:=t ⟨h⟩
def _root_.ZfC(t:Wr Y->A:=by intro h;refine Zk (h:=?_);refine qh (vj L Z Z Z (Nj Z) Z zla E E I I) ?_;exact h.1)(h:Y):A:=t ⟨h⟩
def zdn(l:List CH):am (stC l)=Dn l:=zab (ux cmpT_ord l)
def Mz:∀ (l:List CH),(am l).length<=l.length
 | []=>nu _
 | [c]=>nu _
 | c::d::r=>by
  show(if jh c.1 d.1=0 then am (d::r) else c::am (d::r)).length<=_;have:=Mz (d::r);split
  ·simp only[ma] at this |-;omega
  ·simp only[ma] at this |-;omega
def Ug(hz:l.length<=100000)(hB:zry B w)(hv:KS tyC l fu v B):
  RetO zrz 227 [v] w B (SlR tyC 7 l.length (l.flatMap ccs)):=by
 have hv0:=hv;have hlen:=Ed l;have hpl:=Ro l;obtain⟨p,c,rfl⟩:=jx hv;rcases p with _ | b
 ·obtain⟨h0,rfl⟩:l.length=0/\c=0:=Gq hv;have hn:l=[]:=m8 h0;subst hn;refine wj Tryz.func227 Z Tryz.ntmps227 (np Z) hB (ZbX (h:=?_));refine z7 (u9 Z Z Z Z zmt Z) Z ((Zbd∘Ze) ?_);exact g7 2 tyC 7 rfl (dw Z (fun _ _ h=>h) nq Z)
 ·refine wj Tryz.func227 Z Tryz.ntmps227 (np Z) hB (ZbX (h:=?_));refine z7 (u9 Z Z Z Z zmt Z) Z (Zo (h:=?_));refine jf 0 (KS tyC l fu) Z nw hv0 (Zy (h:=?_));refine z7 (cm L Z Z Z Z Z) Z (ZfC (h:=?_));refine qh (yt (.inr Z) Z) (Zp (h:=?_));rw[znk,mn];exact dw Z (fun _ _ h=>h) nq Z
def Po{m:List CH}(hm:Dn l=m)(hz:l.length<=50000)(hB:zry B w)(hv:KS tyC l fu v B):
  Ret zrz 156 [v] w B (KS tyC m true):=by
 subst hm;have hsl:=ae l;refine yo Tryz.func156 Z Tryz.ntmps156 (np Z) hB (jf 0 (KS tyC l fu) Z nw hv ((Z4∘Zk) ?_));refine z7 (uk L Z Z (zp Z) Z Z Z (fun u H hH _ _ v1 hv1=>Ug I hH hv1)) Z (qh (yt (.inr Z) Z) ((Zg∘ZS∘Zc) ?_));refine El 3 900 rfl (fun h0 hn=>?_) fun b cap rest hl hmc hcm hcl=>?_
 ·have hl0:l=[]:=m8 h0;subst hl0;refine ZcF (h:=?_);refine z7 (xl (φ:=fun _ _=>True) L Z Z (zp Z) Z Z Z (fun _ _ _ _ _=>trivial) (fun u H hH _ _=>S0 hH)) Z (Zg (h:=?_));refine jf 3 (KS tyC [] false) Z nw SlV.nil ((Zs∘Zk) ?_);refine z7 (wa L (kl:=.i64) (pl:=0) 0 0 true Z Z Z Z Z Z ⟨rfl,rfl⟩ ⟨rfl,rfl⟩ T T Z) Z ((ZP∘Zam∘ZT∘Zl∘Zcm) ?_);refine xq (fun _:Nat=>[(5,.sat (KS tyC [] true)),(15,.sat (KS tyC [] false)),(16,.is (.int .i64 0)),(17,.is (.int .i64 0))]) (fun _=>True) (fun s=>s) 0 trivial ⟨Z,Z,Z,Z,nm⟩ ?_;rintro s _;refine(Zb5∘ZbB∘ZG∘Zk∘Zl∘Zl∘ZdJ∘ZP∘Zp) ?_;refine yl1 L [.tmp 2] fun u H hH hle=>?_;exact fun v hv=>hv
 ·refine ZcF (h:=?_);refine qh (xc L 900 (xe b ((stC l).flatMap ccs++rest) tyC) (r:=xe b (l.flatMap ccs++rest) tyC) Z Z Z Z Z (fun u H C hH _ hr hC=>(by have h:=Vy (cap:=cap) Z I hH hr hC;exact h))) ?_;refine Zg (h:=?_)
  refine da (xs:=(stC l).flatMap ccs) (rest:=rest) (s:=7) 3 900 rfl Z Z (by rw[Ed,hsl]) hmc hcm (by
   rw[nr] at hcl |-;rw[Ed] at hcl |-;rw[hsl];exact hcl) ?_
  rw[<-hsl];have hkn:=zdn l;have hkl:=Mz (stC l);rw[<-hkn];generalize stC l=S at *;refine fj 3 rfl ((Zs∘Zk) ?_);refine z7 (wa L (kl:=.i64) (pl:=0) 0 0 true Z Z Z Z Z Z ⟨rfl,rfl⟩ ⟨rfl,rfl⟩ I I Z) Z ((ZP∘Zam∘ZT∘Zl∘Zcm) ?_);refine zbf 5 (SlV tyC 7 [] 0 true) Z nw (fun v H h=>h) (zmi 5 rfl (xq (fun i:Nat×List CH=>[(3,.sat (KS tyC S false)),(4,.is De),(5,.own (SlG tyC 7 i.2.length (i.2.flatMap ccs))),(15,.sat (KS tyC S false)),(16,.is (.int .i64 S.length)),(17,.is (.int .i64 i.1))]) (fun i=>i.1<=S.length/\i.2.length<=i.1/\i.2++am (S.drop i.1)=am S) (fun i=>S.length-i.1) (0,[]) ⟨mf _,nu _,rfl⟩ ⟨Z,Z,Z,Z,Z,Z,nm⟩ ?_));rintro⟨i,kp⟩ ⟨h1,h2,h3⟩;dsimp only at h1 h2 h3 |-;by_cases hlt:i<S.length
  ·obtain⟨c,hc0⟩:=xu hlt;have hc:=Eu hc0;have hst:=T3 hc0;have a1:IntKind.i64.wrap ((i:Int)+1)=((i+1:Nat):Int):=xd I I;by_cases hlast:i+1<S.length
   ·obtain⟨d,hd0⟩:=xu hlast;have hd:=Eu hd0;rw[hd0] at hst;dsimp only at hst;by_cases heq:jh c.1 d.1=0
    ·rw[na heq,mn] at hst;refine(Zb5∘ZN∘Z5∘Zbn∘Zdf∘ZC∘Zh∘ZaF∘Zg∘ZcV∘Zm∘ZbP∘Zag∘ZeG∘ZcD∘Zt∘Zfd∘Zew∘ZbP∘Zdh) ?_;refine z9 (yw L (vs:=[_,_,_,_,_,_,_]) Z Z Z Z Z ⟨_,rfl⟩) Z (z91 L Z (fun u H hH _=>f9 hH) ?_);refine(Ze1∘Za4∘Zdw∘Zax∘Zbf∘ZF∘ZcZ) ?_;exact yv (x:=(i,kp)) (i+1,kp) ⟨hlt,by dsimp only;omega,by dsimp only;rw[<-hst];exact h3⟩ M ⟨Z,Z,Z,Z,Z,Z,trivial⟩
    ·rw[nc heq] at hst;refine(Zb5∘ZN∘Z5∘Zbn∘Zdf∘ZC∘Zh∘ZaF∘Zg∘ZcV∘Zm∘ZbP∘Zag∘ZeG∘ZcD∘Zt∘Zfd∘Zew∘ZbP∘Zdh) ?_;refine z9 (yw L (vs:=[_,_,_,_,_,_,_]) Z Z Z Z Z ⟨_,rfl⟩) Z (z91 L Z (fun u H hH _=>f9 hH) ?_);refine z9 (yn Z Z Z Z (nf I)) Z ((ZaA∘ZaN∘ZE) ?_);refine qh (yt (.inl Z) Z) ((Zdj∘ZR) ?_);refine qh (Fi L T Z Z Z (oq Z) Z zla Z Z I I) (qh (yt (.inr Z) Z) ((ZaJ∘Zbf∘ZF∘ZcZ) ?_));exact yv (x:=(i,kp)) (i+1,kp++[c]) ⟨hlt,by dsimp only;rw[List.length_append,List.length_singleton];omega,by dsimp only;rw[List.append_assoc,<-hst];exact h3⟩ M ⟨Z,Z,by dsimp only;rw[List.flatMap_append,List.length_append];rfl,Z,Z,Z,trivial⟩
   ·have hend:i+1=S.length:=I;rw[zn3 I] at hst;dsimp only at hst;refine(Zb5∘ZN∘Z5∘Zbn∘Zdf∘ZC∘Zh∘ZaF∘Zg∘ZcV∘Zm∘ZbP∘Zag∘ZeG∘Zd3∘Zcd∘Zc1∘ZaA∘ZaN∘ZE) ?_;refine qh (yt (.inl Z) Z) ((Zdj∘ZR) ?_);refine qh (Fi L T Z Z Z (oq Z) Z zla Z Z I I) (qh (yt (.inr Z) Z) ((ZaJ∘Zbf∘ZF∘ZcZ) ?_));exact yv (x:=(i,kp)) (i+1,kp++[c]) ⟨hlt,by dsimp only;rw[List.length_append,List.length_singleton];omega,by dsimp only;rw[List.append_assoc,<-hst];exact h3⟩ M ⟨Z,Z,by dsimp only;rw[List.flatMap_append,List.length_append];rfl,Z,Z,Z,trivial⟩
  ·rw[znm I,show am []=[] from rfl,mp] at h3;subst h3;refine zkw 5 rfl ((Zb5∘ZbB∘ZG∘Zk∘Zl∘Zl∘ZdJ∘ZP∘Zp) ?_);refine yl1 L [.tmp 2] fun u H hH hle=>?_;exact fun v hv=>hv
end Go.V.L8
namespace Go.V.L2
def _root_.Zdu(t:Wr Y->A:=by intro h;refine z9 (yh L 0 rfl Z Z Z (by first | omega | decide) E) Z ?_;exact h.1)(h:Y):A:=t ⟨h⟩
def _root_.Zd6(t:Wr Y->A:=by intro h;refine z7 (yh L 0 rfl Z Z Z (by first | omega | decide) E) Z ?_;exact h.1)(h:Y):A:=t ⟨h⟩
def Sv{a tv:Value}(h:φ tv H):TupS [φ,fun v _=>v=a] (.tuple #[tv,a]) H:=
 ⟨[tv,a],rfl,rfl,fun i ψ x hi hx=>by
  rcases i with _ | _ | i
  ·simp at hi hx;subst hi hx;exact h
  ·simp at hi hx;subst hi hx;rfl
  ·simp at hi⟩
def Su{a:Value}(h:Kn.mono (.sat φ)):Kn.mono (.sat (TupS [φ,fun v _=>v=a])):=TupS.mono fun ψ hψ=>by
 rcases nz.1 hψ with rfl | hψ
 ·exact h
 ·rw[mz] at hψ;subst hψ;exact fun _ _ _ h _=>h
def ft{α:Type}{c:α->α->Int}{f:Bool->Bool->Bool}:∀ (n:Nat) (l m:List α),l.length+m.length<=n->(g8 c f n l m).length<=l.length+m.length
 | 0,_,_,_=>by simp [g8]
 | n+1,[],[],_=>by simp [g8]
 | n+1,a::l,[],h=>by
  have:=ft (c:=c) (f:=f) n l [] (by simp only[ma,m5] at h |-;omega);simp only[g8,nr,ma,m5] at this |-;split<;>simp only[ma,m5]<;>omega
 | n+1,[],b::m,h=>by
  have:=ft (c:=c) (f:=f) n [] m (by simp only[ma,m5] at h |-;omega);simp only[g8,nr,ma,m5] at this |-;split<;>simp only[ma,m5]<;>omega
 | n+1,a::l,b::m,h=>by
  simp only[ma] at h;have h1:=ft (c:=c) (f:=f) n l (b::m) (by simp only[ma];omega);have h2:=ft (c:=c) (f:=f) n (a::l) m (by simp only[ma];omega);have h3:=ft (c:=c) (f:=f) n l m I;simp only[ma] at h1 h2;simp only[g8];split
  ·rw[nr];split<;>simp only[ma,m5]<;>omega
  ·split
   ·rw[nr];split<;>simp only[ma,m5]<;>omega
   ·rw[nr];split<;>simp only[ma,m5]<;>omega
def zju(f:Bool->Bool->Bool)(l m:List U):List U×Int:=
 if 4096<l.length\/4096<m.length then ([],3) else if (isB l && isB m)=true then (g8 jh f (l.length+m.length) l m,0) else ([],18)
abbrev LE(r:List U×Int):Value->Heap->Prop:=TupS [US r.1 true,fun v _=>v=.int .i64 r.2]
def LE.mono:Kn.mono (.sat (LE r)):=Su nw
def Gi(a:U)(l:List U):(((a::l).flatMap ucs).drop (1*6)).take (((a::l).length-1)*6)=l.flatMap ucs:=by
 rw[znz,List.drop_left' (by rfl),ma,zq7,znl (zps (oo Ck l))]
def Cj{κ:Kap}{s:Nat}{out:List U}(h:κ s=some (.own (SlR tyU 6 (out.length+1) (out.flatMap ucs++[.string t.1.1.1,.string t.1.1.2,.string t.1.2,.string t.2.1.1,.string t.2.1.2,.string t.2.2])))):κ s=some (.own (SlR tyU 6 (out++[t]).length ((out++[t]).flatMap ucs))):=by
 rw[h,znw,nr];simp [ucs]
attribute [local irreducible] V N X VO Par StepOK Has Ret RetL Src
def Yn{f:Bool->Bool->Bool}{tf:Nat}(hfn:L.fn tf=some ())(hf:∀ (p q:Bool) (u:World) (H:Heap),zry H u->Ret zrz tf [.bool p,.bool q] u H (fun v _=>v=.bool (f p q))){l m:List U}{fa fb:Bool}
   (hr:zju f l m=r) {v2:Value}   (hB:zry B w) (hv:US l fa v B) (hv2:US m fb v2 B):
  Ret zrz 225 [v,v2,.func (.func tf) #[] #[]] w B (LE r):=by
 subst hr;unfold zju;refine yo Tryz.func225 Z Tryz.ntmps225 (np Z) hB (jf 0 (US l fa) Z nw hv (jf 1 (US m fb) Z nw hv2 ?_));by_cases z1:4096<l.length
 ·rw[na (.inl z1)];refine(Zbj∘ZM∘Zl∘ZJ∘Zbe∘Zbd∘ZA) ?_;refine yl1 L [.tmp 6,.tmp 7] fun u H hH hle=>?_;exact Sv SlV.nil
 ·by_cases z2:4096<m.length
  ·rw[na (.inr z2)];refine(Zbj∘ZM∘Zl∘Zan∘Za∘Zl∘ZJ∘Zi∘Zbd∘ZA) ?_;refine yl1 L [.tmp 6,.tmp 7] fun u H hH hle=>?_;exact Sv SlV.nil
  ·rw[nc I];cases h1:isB l
   ·rw[nc (by simp)];refine(Zbj∘ZM∘Zl∘Zan∘Za∘Zl∘Zan∘Zi∘ZV∘Zy∘Zk) ?_;refine z7 (qe L Z Z (zp Z) Z Z Z (fun u H hH _ _ v1 hv1=>Cp I h1 hH hv1)) Z ((Zw∘Zbe∘Zr∘Zs∘ZA) ?_);refine yl1 L [.tmp 6,.tmp 7] fun u H hH hle=>?_;exact Sv SlV.nil
   ·cases h2:isB m
    ·rw[nc (by simp)];refine(Zbj∘ZM∘Zl∘Zan∘Za∘Zl∘Zan∘Zi∘ZV∘Zy∘Zk) ?_;refine z7 (qe L Z Z (zp Z) Z Z Z (fun u H hH _ _ v1 hv1=>Cp I h1 hH hv1)) Z ((Zw∘Za∘Zk) ?_);refine z7 (qe L Z Z (zp Z) Z Z Z (fun u H hH _ _ v1 hv1=>Cp I h2 hH hv1)) Z ((Zw∘Zcs∘Zs∘ZA) ?_);refine yl1 L [.tmp 6,.tmp 7] fun u H hH hle=>?_;exact Sv SlV.nil
    ·rw[na (by rfl)];refine(Zbj∘ZM∘Zl∘Zan∘Za∘Zl∘Zan∘Zi∘ZV∘Zy∘Zk) ?_;refine z7 (qe L Z Z (zp Z) Z Z Z (fun u H hH _ _ v1 hv1=>Cp I h1 hH hv1)) Z ((Zw∘Za∘Zk) ?_);refine z7 (qe L Z Z (zp Z) Z Z Z (fun u H hH _ _ v1 hv1=>Cp I h2 hH hv1)) Z ((Zw∘ZaT∘ZT∘Zc∘Zaz) ?_);refine zbf 0 (US l false) Z nw (fun _ _ h=>h.nofu) (zbf 1 (US m false) Z nw (fun _ _ h=>h.nofu) (g7 8 tyU 6 rfl ?_))
     refine xq (fun s:Nat×List U×List U×List U=>[(0,.sat (US s.2.1 false)),(1,.sat (US s.2.2.1 false)),(2,.is (.func (.func tf) #[] #[])),(8,.own (SlR tyU 6 s.2.2.2.length (s.2.2.2.flatMap ucs)))])
      (fun s=>s.2.1.length+s.2.2.1.length<=s.1/\s.2.2.2++g8 jh f s.1 s.2.1 s.2.2.1=g8 jh f (l.length+m.length) l m/\s.2.2.2.length+s.2.1.length+s.2.2.1.length<=8192) (fun s=>s.1) (l.length+m.length,l,m,[]) ⟨nu _,rfl,by simp only[m5];omega⟩ ⟨rfl,rfl,rfl,rfl,nm⟩ ?_
     generalize g8 jh f (l.length+m.length) l m=R;clear h1 h2 z1 z2 hv hv2;rintro⟨n,x,y,out⟩ ⟨hn,hR,hz⟩;dsimp only at hn hR hz |-;rcases x with _ | ⟨a,x⟩
     ·rcases y with _ | ⟨b,y⟩
      ·have hR:out=R:=by rw[<-hR];cases n<;>simp [g8]
       subst hR;have l0:([]:List U).length=0:=rfl;refine(Zd∘ZD∘Zl∘Zan∘Za∘Zl∘Zan∘Zi∘ZaP) ?_;refine fj 8 rfl ((ZbI∘Zk∘Zl∘Zl∘ZdJ∘ZP∘Ze) ?_);refine yl1 L [.tmp 6,.tmp 7] fun u H hH hle=>?_;exact fun v hv=>Sv hv
      ·have l0:([]:List U).length=0:=rfl;have lb:(b::y).length=y.length+1:=rfl;have hb:=ix (l:=b::y) (i:=0) (t:=b) rfl;have tb:=Gi b y;rcases n with _ | n
       ·simp only[ma,m5] at hn;omega
       cases hft:f false true
       ·have hR:out++g8 jh f n [] y=R:=by rw[<-hR];simp [g8,hft]
        have hfv:∀ (u:World) (H:Heap),zry H u->Ret zrz tf [.bool false,.bool true] u H (fun v _=>v=.bool false):=fun u H h=>by have:=hf false true u H h;rwa [hft] at this
        refine(Zd∘ZD∘Zl∘Zan∘Za∘Zl∘ZJ∘ZbJ∘Zbm∘ZU∘Zc∘Zae∘ZE∘Zl∘Zv∘Zh∘Z3∘Zbf∘ZaB∘Zcl∘ZO∘Zcg∘ZbF∘ZbL∘ZJ∘Z3∘Zap∘Zk∘Zd6∘Zb9∘ZaF∘Zam∘Zbb∘Za∘ZbE∘Zbu∘Zk) ?_;refine z7 (wa L (kh:=.i64) (ph:=0) (km:=.i64) (pm:=0) 1 _ false Z Z Z Z Z ⟨rfl,rfl⟩ ⟨rfl,rfl⟩ (fun h=>by cases h) I I E) Z ?_;refine(ZP∘Zg∘ZaK∘Zb∘ZcG∘Za∘ZbD) ?_;refine z7 (qe L Z Z (zp Z) Z Z hfn (fun u H hH _ _=>hfv u H hH)) Z ((Zas∘Zau) ?_);exact yv (x:=(n+1,[],b::y,out)) (n,[],y,out) ⟨by simp only[List.length_cons,List.length_nil] at hn |-;omega,hR,by simp only[List.length_cons,List.length_nil,List.length_append] at hz |-;omega⟩ M ⟨Z,Z,Z,Z,nm⟩
       ·have hR:out++[b]++g8 jh f n [] y=R:=by rw[<-hR];simp [g8,hft]
        have hfv:∀ (u:World) (H:Heap),zry H u->Ret zrz tf [.bool false,.bool true] u H (fun v _=>v=.bool true):=fun u H h=>by have:=hf false true u H h;rwa [hft] at this
        refine(Zd∘ZD∘Zl∘Zan∘Za∘Zl∘ZJ∘ZbJ∘Zbm∘ZU∘Zc∘Zae∘ZE∘Zl∘Zv∘Zh∘Z3∘Zbf∘ZaB∘Zcl∘ZO∘Zcg∘ZbF∘ZbL∘ZJ∘Z3∘Zap∘Zk∘Zd6∘Zb9∘ZaF∘Zam∘Zbb∘Za∘ZbE∘Zbu∘Zk) ?_;refine z7 (wa L (kh:=.i64) (ph:=0) (km:=.i64) (pm:=0) 1 _ false Z Z Z Z Z ⟨rfl,rfl⟩ ⟨rfl,rfl⟩ (fun h=>by cases h) I I E) Z ?_;refine(ZP∘Zg∘ZaK∘Zb∘ZcG∘Za∘ZbD) ?_;refine z7 (qe L Z Z (zp Z) Z Z hfn (fun u H hH _ _=>hfv u H hH)) Z ((Z3∘Zb0) ?_);refine qh (yt (.inl Z) Z) ((Zaq∘ZR∘ZcA) ?_);refine qh (yt (.inr Z) Z) ((Zac∘Zau) ?_);exact yv (x:=(n+1,[],b::y,out)) (n,[],y,out++[b]) ⟨by simp only[List.length_cons,List.length_nil] at hn |-;omega,hR,by simp only[List.length_cons,List.length_nil,List.length_append] at hz |-;omega⟩ M ⟨Z,Z,Z,Cj Z,nm⟩
     ·have la:(a::x).length=x.length+1:=rfl;have ha:=ix (l:=a::x) (i:=0) (t:=a) rfl;have ta:=Gi a x;rcases y with _ | ⟨b,y⟩
      ·have l0:([]:List U).length=0:=rfl;rcases n with _ | n
       ·simp only[ma,m5] at hn;omega
       cases hft:f true false
       ·have hR:out++g8 jh f n x []=R:=by rw[<-hR];simp [g8,hft]
        have hfv:∀ (u:World) (H:Heap),zry H u->Ret zrz tf [.bool true,.bool false] u H (fun v _=>v=.bool false):=fun u H h=>by have:=hf true false u H h;rwa [hft] at this
        refine(Zd∘ZD∘Zl∘ZJ∘Zbe∘Z3∘Zbm∘ZU∘Zc∘Zae∘ZE∘Zl∘Zn∘Zbx∘ZG∘Zl∘Zv∘Zh∘Z3∘ZW∘ZaB∘Zcl∘ZO∘Zcg∘ZbF∘ZbL∘Zan∘Zdc∘Zaf∘Zk∘Zd6∘Zb9∘Zab∘ZaW∘Zk) ?_;refine z7 (wa L (kh:=.i64) (ph:=0) (km:=.i64) (pm:=0) 1 _ false Z Z Z Z Z ⟨rfl,rfl⟩ ⟨rfl,rfl⟩ (fun h=>by cases h) I I E) Z ?_;refine(ZP∘Zam∘Zbb∘Za∘Zaj∘Zo∘ZaK∘Zb∘ZcL∘Za∘Zaj) ?_;refine z7 (qe L Z Z (zp Z) Z Z hfn (fun u H hH _ _=>hfv u H hH)) Z ((Zas∘Zau) ?_);exact yv (x:=(n+1,a::x,[],out)) (n,x,[],out) ⟨by simp only[List.length_cons,List.length_nil] at hn |-;omega,hR,by simp only[List.length_cons,List.length_nil,List.length_append] at hz |-;omega⟩ M ⟨Z,Z,Z,Z,nm⟩
       ·have hR:out++[a]++g8 jh f n x []=R:=by rw[<-hR];simp [g8,hft]
        have hfv:∀ (u:World) (H:Heap),zry H u->Ret zrz tf [.bool true,.bool false] u H (fun v _=>v=.bool true):=fun u H h=>by have:=hf true false u H h;rwa [hft] at this
        refine(Zd∘ZD∘Zl∘ZJ∘Zbe∘Z3∘Zbm∘ZU∘Zc∘Zae∘ZE∘Zl∘Zn∘Zbx∘ZG∘Zl∘Zv∘Zh∘Z3∘ZW∘ZaB∘Zcl∘ZO∘Zcg∘ZbF∘ZbL∘Zan∘Zdc∘Zaf∘Zk∘Zd6∘Zb9∘Zab∘ZaW∘Zk) ?_;refine z7 (wa L (kh:=.i64) (ph:=0) (km:=.i64) (pm:=0) 1 _ false Z Z Z Z Z ⟨rfl,rfl⟩ ⟨rfl,rfl⟩ (fun h=>by cases h) I I E) Z ?_;refine(ZP∘Zam∘Zbb∘Za∘Zaj∘Zo∘ZaK∘Zb∘ZcL∘Za∘Zaj) ?_;refine z7 (qe L Z Z (zp Z) Z Z hfn (fun u H hH _ _=>hfv u H hH)) Z ((Z3∘Zb0) ?_);refine qh (yt (.inl Z) Z) ((Zaq∘ZR∘ZcA) ?_);refine qh (yt (.inr Z) Z) ((Zac∘Zau) ?_);exact yv (x:=(n+1,a::x,[],out)) (n,x,[],out++[a]) ⟨by simp only[List.length_cons,List.length_nil] at hn |-;omega,hR,by simp only[List.length_cons,List.length_nil,List.length_append] at hz |-;omega⟩ M ⟨Z,Z,Z,Cj Z,nm⟩
      ·have lb:(b::y).length=y.length+1:=rfl;have hb:=ix (l:=b::y) (i:=0) (t:=b) rfl;have tb:=Gi b y;by_cases c1:jh a b<0
       ·rcases n with _ | n
        ·simp only[ma,m5] at hn;omega
        cases hft:f true false
        ·have hR:out++g8 jh f n x (b::y)=R:=by rw[<-hR];simp [g8,c1,hft]
         have hfv:∀ (u:World) (H:Heap),zry H u->Ret zrz tf [.bool true,.bool false] u H (fun v _=>v=.bool false):=fun u H h=>by have:=hf true false u H h;rwa [hft] at this
         refine(Zd∘ZD∘Zl∘ZJ∘Zbe∘Z3∘Zbm∘ZU∘Zc∘Zae∘ZE∘Zl∘Zn∘Zbx∘ZG∘Zl∘Zn∘Zh∘Za5∘ZcV∘Zag∘Zdu∘ZcU∘Zag∘Zdu∘ZcU) ?_;refine z91 L Z (fun u H hH _=>wv hH) ?_;refine(Zah∘Zco∘Zau∘Zcl∘ZO∘Zcg∘ZbF∘ZbL∘Zan∘Zdc∘Zaf∘Zk∘Zd6∘Zb9∘Zab∘ZaW∘Zk) ?_;refine z7 (wa L (kh:=.i64) (ph:=0) (km:=.i64) (pm:=0) 1 _ false Z Z Z Z Z ⟨rfl,rfl⟩ ⟨rfl,rfl⟩ (fun h=>by cases h) I I E) Z ?_;refine(ZP∘Zam∘Zbb∘Za∘Zaj∘Zo∘ZaK∘Zb∘ZcL∘Za∘Zaj) ?_;refine z7 (qe L Z Z (zp Z) Z Z hfn (fun u H hH _ _=>hfv u H hH)) Z ((Zas∘Zau) ?_);exact yv (x:=(n+1,a::x,b::y,out)) (n,x,(b::y),out) ⟨by simp only[List.length_cons,List.length_nil] at hn |-;omega,hR,by simp only[List.length_cons,List.length_nil,List.length_append] at hz |-;omega⟩ M ⟨Z,Z,Z,Z,nm⟩
        ·have hR:out++[a]++g8 jh f n x (b::y)=R:=by rw[<-hR];simp [g8,c1,hft]
         have hfv:∀ (u:World) (H:Heap),zry H u->Ret zrz tf [.bool true,.bool false] u H (fun v _=>v=.bool true):=fun u H h=>by have:=hf true false u H h;rwa [hft] at this
         refine(Zd∘ZD∘Zl∘ZJ∘Zbe∘Z3∘Zbm∘ZU∘Zc∘Zae∘ZE∘Zl∘Zn∘Zbx∘ZG∘Zl∘Zn∘Zh∘Za5∘ZcV∘Zag∘Zdu∘ZcU∘Zag∘Zdu∘ZcU) ?_;refine z91 L Z (fun u H hH _=>wv hH) ?_;refine(Zah∘Zco∘Zau∘Zcl∘ZO∘Zcg∘ZbF∘ZbL∘Zan∘Zdc∘Zaf∘Zk∘Zd6∘Zb9∘Zab∘ZaW∘Zk) ?_;refine z7 (wa L (kh:=.i64) (ph:=0) (km:=.i64) (pm:=0) 1 _ false Z Z Z Z Z ⟨rfl,rfl⟩ ⟨rfl,rfl⟩ (fun h=>by cases h) I I E) Z ?_;refine(ZP∘Zam∘Zbb∘Za∘Zaj∘Zo∘ZaK∘Zb∘ZcL∘Za∘Zaj) ?_;refine z7 (qe L Z Z (zp Z) Z Z hfn (fun u H hH _ _=>hfv u H hH)) Z ((Z3∘Zb0) ?_);refine qh (yt (.inl Z) Z) ((Zaq∘ZR∘ZcA) ?_);refine qh (yt (.inr Z) Z) ((Zac∘Zau) ?_);exact yv (x:=(n+1,a::x,b::y,out)) (n,x,(b::y),out++[a]) ⟨by simp only[List.length_cons,List.length_nil] at hn |-;omega,hR,by simp only[List.length_cons,List.length_nil,List.length_append] at hz |-;omega⟩ M ⟨Z,Z,Z,Cj Z,nm⟩
       ·by_cases c2:0<jh a b
        ·rcases n with _ | n
         ·simp only[ma,m5] at hn;omega
         cases hft:f false true
         ·have hR:out++g8 jh f n (a::x) y=R:=by rw[<-hR];simp [g8,c1,c2,hft]
          have hfv:∀ (u:World) (H:Heap),zry H u->Ret zrz tf [.bool false,.bool true] u H (fun v _=>v=.bool false):=fun u H h=>by have:=hf false true u H h;rwa [hft] at this
          refine(Zd∘ZD∘Zl∘ZJ∘Zbe∘Z3∘Zbm∘ZU∘Zc∘Zae∘ZE∘Zl∘Zn∘Zbx∘ZG∘Zl∘Zn∘Zh∘Za5∘ZcV∘Zag∘Zdu∘ZcU∘Zag∘Zdu∘ZcU) ?_;refine z91 L Z (fun u H hH _=>wv hH) ?_;refine(Zah∘Zco∘Zau∘Zcl∘ZO∘Zcg∘ZbF∘ZbL∘ZJ∘Z3∘Zap∘Zk∘Zd6∘Zb9∘ZaF∘Zam∘Zbb∘Za∘ZbE∘Zbu∘Zk) ?_;refine z7 (wa L (kh:=.i64) (ph:=0) (km:=.i64) (pm:=0) 1 _ false Z Z Z Z Z ⟨rfl,rfl⟩ ⟨rfl,rfl⟩ (fun h=>by cases h) I I E) Z ?_;refine(ZP∘Zg∘ZaK∘Zb∘ZcG∘Za∘ZbD) ?_;refine z7 (qe L Z Z (zp Z) Z Z hfn (fun u H hH _ _=>hfv u H hH)) Z ((Zas∘Zau) ?_);exact yv (x:=(n+1,a::x,b::y,out)) (n,(a::x),y,out) ⟨by simp only[List.length_cons,List.length_nil] at hn |-;omega,hR,by simp only[List.length_cons,List.length_nil,List.length_append] at hz |-;omega⟩ M ⟨Z,Z,Z,Z,nm⟩
         ·have hR:out++[b]++g8 jh f n (a::x) y=R:=by rw[<-hR];simp [g8,c1,c2,hft]
          have hfv:∀ (u:World) (H:Heap),zry H u->Ret zrz tf [.bool false,.bool true] u H (fun v _=>v=.bool true):=fun u H h=>by have:=hf false true u H h;rwa [hft] at this
          refine(Zd∘ZD∘Zl∘ZJ∘Zbe∘Z3∘Zbm∘ZU∘Zc∘Zae∘ZE∘Zl∘Zn∘Zbx∘ZG∘Zl∘Zn∘Zh∘Za5∘ZcV∘Zag∘Zdu∘ZcU∘Zag∘Zdu∘ZcU) ?_;refine z91 L Z (fun u H hH _=>wv hH) ?_;refine(Zah∘Zco∘Zau∘Zcl∘ZO∘Zcg∘ZbF∘ZbL∘ZJ∘Z3∘Zap∘Zk∘Zd6∘Zb9∘ZaF∘Zam∘Zbb∘Za∘ZbE∘Zbu∘Zk) ?_;refine z7 (wa L (kh:=.i64) (ph:=0) (km:=.i64) (pm:=0) 1 _ false Z Z Z Z Z ⟨rfl,rfl⟩ ⟨rfl,rfl⟩ (fun h=>by cases h) I I E) Z ?_;refine(ZP∘Zg∘ZaK∘Zb∘ZcG∘Za∘ZbD) ?_;refine z7 (qe L Z Z (zp Z) Z Z hfn (fun u H hH _ _=>hfv u H hH)) Z ((Z3∘Zb0) ?_);refine qh (yt (.inl Z) Z) ((Zaq∘ZR∘ZcA) ?_);refine qh (yt (.inr Z) Z) ((Zac∘Zau) ?_);exact yv (x:=(n+1,a::x,b::y,out)) (n,(a::x),y,out++[b]) ⟨by simp only[List.length_cons,List.length_nil] at hn |-;omega,hR,by simp only[List.length_cons,List.length_nil,List.length_append] at hz |-;omega⟩ M ⟨Z,Z,Z,Cj Z,nm⟩
        ·rcases n with _ | n
         ·simp only[ma,m5] at hn;omega
         cases hft:f true true
         ·have hR:out++g8 jh f n x y=R:=by rw[<-hR];simp [g8,c1,c2,hft]
          have hfv:∀ (u:World) (H:Heap),zry H u->Ret zrz tf [.bool true,.bool true] u H (fun v _=>v=.bool false):=fun u H h=>by have:=hf true true u H h;rwa [hft] at this
          refine(Zd∘ZD∘Zl∘ZJ∘Zbe∘Z3∘Zbm∘ZU∘Zc∘Zae∘ZE∘Zl∘Zn∘Zbx∘ZG∘Zl∘Zn∘Zh∘Za5∘ZcV∘Zag∘Zdu∘ZcU∘Zag∘Zdu∘ZcU) ?_;refine z91 L Z (fun u H hH _=>wv hH) ?_;refine(Zah∘Zco∘Zau∘Zcl∘ZO∘Zcg∘ZbF∘ZbL∘Zan∘Zdc∘Zaf∘Zk∘Zd6∘Zb9∘Zab∘ZaW∘Zk) ?_;refine z7 (wa L (kh:=.i64) (ph:=0) (km:=.i64) (pm:=0) 1 _ false Z Z Z Z Z ⟨rfl,rfl⟩ ⟨rfl,rfl⟩ (fun h=>by cases h) I I E) Z ?_;refine(ZP∘Zam∘Zbb∘Za∘ZbE∘Zbu∘Zk) ?_;refine z7 (wa L (kh:=.i64) (ph:=0) (km:=.i64) (pm:=0) 1 _ false Z Z Z Z Z ⟨rfl,rfl⟩ ⟨rfl,rfl⟩ (fun h=>by cases h) I I E) Z ?_;refine(ZP∘Zg∘ZaK∘Zb∘ZcL∘Za∘ZbD) ?_;refine z7 (qe L Z Z (zp Z) Z Z hfn (fun u H hH _ _=>hfv u H hH)) Z ((Zas∘Zau) ?_);exact yv (x:=(n+1,a::x,b::y,out)) (n,x,y,out) ⟨by simp only[List.length_cons,List.length_nil] at hn |-;omega,hR,by simp only[List.length_cons,List.length_nil,List.length_append] at hz |-;omega⟩ M ⟨Z,Z,Z,Z,nm⟩
         ·have hR:out++[a]++g8 jh f n x y=R:=by rw[<-hR];simp [g8,c1,c2,hft]
          have hfv:∀ (u:World) (H:Heap),zry H u->Ret zrz tf [.bool true,.bool true] u H (fun v _=>v=.bool true):=fun u H h=>by have:=hf true true u H h;rwa [hft] at this
          refine(Zd∘ZD∘Zl∘ZJ∘Zbe∘Z3∘Zbm∘ZU∘Zc∘Zae∘ZE∘Zl∘Zn∘Zbx∘ZG∘Zl∘Zn∘Zh∘Za5∘ZcV∘Zag∘Zdu∘ZcU∘Zag∘Zdu∘ZcU) ?_;refine z91 L Z (fun u H hH _=>wv hH) ?_;refine(Zah∘Zco∘Zau∘Zcl∘ZO∘Zcg∘ZbF∘ZbL∘Zan∘Zdc∘Zaf∘Zk∘Zd6∘Zb9∘Zab∘ZaW∘Zk) ?_;refine z7 (wa L (kh:=.i64) (ph:=0) (km:=.i64) (pm:=0) 1 _ false Z Z Z Z Z ⟨rfl,rfl⟩ ⟨rfl,rfl⟩ (fun h=>by cases h) I I E) Z ?_;refine(ZP∘Zam∘Zbb∘Za∘ZbE∘Zbu∘Zk) ?_;refine z7 (wa L (kh:=.i64) (ph:=0) (km:=.i64) (pm:=0) 1 _ false Z Z Z Z Z ⟨rfl,rfl⟩ ⟨rfl,rfl⟩ (fun h=>by cases h) I I E) Z ?_;refine(ZP∘Zg∘ZaK∘Zb∘ZcL∘Za∘ZbD) ?_;refine z7 (qe L Z Z (zp Z) Z Z hfn (fun u H hH _ _=>hfv u H hH)) Z ((Z3∘Zb0) ?_);refine qh (yt (.inl Z) Z) ((Zaq∘ZR∘ZcA) ?_);refine qh (yt (.inr Z) Z) ((Zac∘Zau) ?_);exact yv (x:=(n+1,a::x,b::y,out)) (n,x,y,out++[a]) ⟨by simp only[List.length_cons,List.length_nil] at hn |-;omega,hR,by simp only[List.length_cons,List.length_nil,List.length_append] at hz |-;omega⟩ M ⟨Z,Z,Z,Cj Z,nm⟩
abbrev fWo:Bool->Bool->Bool:=fun _ b=>!b
attribute [local irreducible] RetO
def zhr(p q:Bool)(w:World)(B:Heap)(hB:zry B w):Ret zrz 226 [.bool p,.bool q] w B (fun v _=>v=.bool (fWo p q)):=by
 refine yo Tryz.func226 Z Tryz.ntmps226 (np Z) hB ((Z4∘Za∘Zw∘Ze) ?_);exact yl2 L [.tmp 4]
def Az{l m:List U}{fa fb:Bool}{v2:Value}(hr:zju fWo l m=r)(hB:zry B w)(hv:US l fa v B)(hv2:US m fb v2 B):Ret zrz 155 [v,v2] w B (LE r):=by
 refine yo Tryz.func155 Z Tryz.ntmps155 (np Z) hB (jf 0 (US l fa) Z nw hv (jf 1 (US m fb) Z nw hv2 ((Zbj∘ZaH∘Zk∘Zk) ?_)));refine z7 (xl (φ:=LE r) L Z Z (zp Z) Z Z Z LE.mono (fun u H hH _ _ v1 h1 v2 h2=>Yn Z zhr hr hH h1 h2)) Z (z7 (oj Z Z Z Z nw) Z ((Zce∘ZP∘Ze) ?_));refine yl1 L [.tmp 4,.tmp 5] fun u H hH hle=>?_;exact fun v hv=>Sv hv
end Go.V.L2
namespace Go.V.L8
open Go.V.L2 Go.V.L3 Go.V.L6
def Ev(a b:List U):List CH:=(oe a b true false true).map fun t=>(t,decide (t∈a))
def zlb(a b:List U):List CH:=Dn ((g8 jh fWo (a.length+b.length) a b).map (fun t=>(t,true))++(g8 jh fWo (b.length+a.length) b a).map (fun t=>(t,false)))
def Y6(a b:List CH)(t:U):fz (a++b) t=(fz b t).or (fz a t):=by
 induction a with
 | nil=>rw[mn,Y5];cases fz b t<;>rfl
 | cons c r ih=>
  rw[znt,fw,fw,ih];cases fz b t<;>cases fz r t<;>rfl
def Mw(h:Ku l):fz l t=some c↔c∈l/\c.1=t:=by
 constructor
 ·exact fun h1=>⟨(pu h1).2,(pu h1).1⟩
 ·rintro⟨hc,rfl⟩
  obtain⟨d,hd⟩:∃ d,fz l c.1=some d:=by
   cases hk:fz l c.1 with
   | some d=>exact⟨d,rfl⟩
   | none=>exact ni rfl (bh.1 hk c hc)
  obtain⟨h1,h2⟩:=pu hd;rw[hd];have hp:=aj h;obtain⟨i,hi⟩:=zoc hc;obtain⟨j,hj⟩:=zoc h2;obtain⟨hi',rfl⟩:=zoj.1 hi;obtain⟨hj',rfl⟩:=zoj.1 hj;have hp':=zpa.1 hp;rcases zqx i j with g | g | g
  ·exact ni h1.symm (hp' i j hi' hj' g)
  ·subst g;rfl
  ·exact ni h1 (hp' j i hj' hi' g)
def Qn{a b:List U}:t∈oe a b true false true↔((t∈a/\t∉b)\/(t∉a/\t∈b)):=by
 unfold oe;rw[ra,zn7,mt];unfold dz;by_cases h1:t∈a<;>by_cases h2:t∈b<;>simp [h1,h2]
def Cd(a b:List U):Ku (Ev a b):=by
 unfold Ku Ev;rw[zoz];have:((fun x:CH=>x.1)∘fun t:U=>(t,decide (t∈a)))=id:=rfl;rw[this,zp2];exact Lk _
def u4{a b:List U}:c∈Ev a b↔((c.1∈a/\c.1∉b)\/(c.1∉a/\c.1∈b))/\c.2=decide (c.1∈a):=by
 unfold Ev;rw[m7];constructor
 ·rintro⟨t,ht,rfl⟩;exact⟨Qn.1 ht,rfl⟩
 ·rintro⟨h1,h2⟩;exact⟨c.1,Qn.2 h1,Prod.ext rfl h2.symm⟩
def P8{a b:List U}(ha:Sst jh a)(hb:Sst jh b):t∈g8 jh fWo (a.length+b.length) a b↔t∈a/\t∉b:=by
 rw[gz cmpT_ord fWo (nu _) ha hb];unfold Tk;by_cases h1:t∈a<;>by_cases h2:t∈b<;>simp [h1,h2]
def zh5{a b:List U}(ha:Sst jh a)(hb:Sst jh b):zlb a b=Ev a b:=O9 (Mk _) (Cd a b) fun c=>by
 unfold zlb;rw[Ml,u4,Y6]
 have h1:fz ((g8 jh fWo (b.length+a.length) b a).map fun t=>(t,false)) c.1=if c.1∈b/\c.1∉a then some (c.1,false) else none:=by
  by_cases h:c.1∈b/\c.1∉a
  ·rw[na h]
   have hn:Ku ((g8 jh fWo (b.length+a.length) b a).map fun t=>(t,false)):=by
    unfold Ku;rw[zoz];have:((fun x:CH=>x.1)∘fun t:U=>(t,false))=id:=rfl;rw[this,zp2];exact af cmpT_ord fWo (nu _) hb ha
   exact(Mw hn).2 ⟨m7.2 ⟨c.1,(P8 hb ha).2 h,rfl⟩,rfl⟩
  ·rw[nc h,bh];intro d hd e;obtain⟨t,ht,rfl⟩:=m7.1 hd;exact h (e ▸ (P8 hb ha).1 ht)
 have h2:fz ((g8 jh fWo (a.length+b.length) a b).map fun t=>(t,true)) c.1=if c.1∈a/\c.1∉b then some (c.1,true) else none:=by
  by_cases h:c.1∈a/\c.1∉b
  ·rw[na h]
   have hn:Ku ((g8 jh fWo (a.length+b.length) a b).map fun t=>(t,true)):=by
    unfold Ku;rw[zoz];have:((fun x:CH=>x.1)∘fun t:U=>(t,true))=id:=rfl;rw[this,zp2];exact af cmpT_ord fWo (nu _) ha hb
   exact(Mw hn).2 ⟨m7.2 ⟨c.1,(P8 ha hb).2 h,rfl⟩,rfl⟩
  ·rw[nc h,bh];intro d hd e;obtain⟨t,ht,rfl⟩:=m7.1 hd;exact h (e ▸ (P8 ha hb).1 ht)
 rw[h1,h2];obtain⟨x,d⟩:=c;dsimp only;by_cases ha':x∈a<;>by_cases hb':x∈b<;>cases d<;>simp [ha',hb']
def Rv(a b:List U):(Ev a b).length<=a.length+b.length:=by
 unfold Ev oe;rw[mj];refine znj (Ll _) (znj (zq3 _ _) ?_);rw[nr];exact nu _
attribute [local irreducible] V N X VO Par StepOK Has Ret RetL RetO RetT ky Src
def _root_.Zdv(t:Wr Y->A:=by intro h;refine z7 (yz (cs:=[_,_,_,_,_,_,_]) Z Z zmp Z Z) Z ?_;exact h.1)(h:Y):A:=t ⟨h⟩
def zeu(a b:List U):(g8 jh fWo (a.length+b.length) a b).length<=a.length+b.length:=ft _ _ _ (nu _)
def Yi{a b:List U}(la:a.length<=4096)(lb:b.length<=4096)(sa:Sst jh a)(sb:Sst jh b):zju fWo a b=(g8 jh fWo (a.length+b.length) a b,0):=by
 unfold zju;have h1:isB a=true:=nf sa;have h2:isB b=true:=nf sb;rw[nc I,h1,h2,na T]
def M7{a b:List U}{m:List CH}(la:a.length<=4096)(lb:b.length<=4096)(sa:Sst jh a)(sb:Sst jh b)(hr:zlb a b=m){av bv:Value}(hB:zry B w)(ha:SetV a av B)(hb:SetV b bv B):
  Ret zrz 89 [av,bv] w B (KS tyC m true):=by
 subst hr;obtain⟨f1,p1,k1,q1,rfl,hp1⟩:=ha.shape;obtain⟨f2,p2,k2,q2,rfl,hp2⟩:=hb.shape;have w1:=Yi la lb sa sb;have w2:=Yi lb la sb sa;have l1:=zeu a b;have l2:=zeu b a;have hbp:zlb a b=Dn ((g8 jh fWo (a.length+b.length) a b).map (fun t=>(t,true))++(g8 jh fWo (b.length+a.length) b a).map (fun t=>(t,false))):=rfl;rw[hbp];generalize g8 jh fWo (a.length+b.length) a b=zrx at *;generalize g8 jh fWo (b.length+a.length) b a=K at *;have mG:Kn.mono (.sat (US zrx true)):=nw;have mK:Kn.mono (.sat (US K true)):=nw;refine yo Tryz.func89 Z Tryz.ntmps89 (np Z) hB ((ZaI∘Zc∘Zc7∘ZdT) ?_);refine z9 (xl (φ:=US a true) L Z Z (zp Z) Z Z Z nw (fun u H hH hle _=>rc I hH (ha.le hle))) Z (ZdT (h:=?_));refine z9 (xl (φ:=US b true) L Z Z (zp Z) Z Z Z nw (fun u H hH hle _=>rc I hH (hb.le hle))) Z ((Zc2∘Zc2∘Zbh∘ZS∘Zk∘Zk) ?_);refine z7 (xl (φ:=LE (zrx,0)) L Z Z (zp Z) Z Z Z LE.mono (fun u H hH _ _ v1 h1 v2 h2=>Az w1 hH h1 h2)) Z ((Zk∘ZcB∘Zce∘ZP∘Zc∘Zy∘Zk∘Zk) ?_);refine z7 (xl (φ:=LE (K,0)) L Z Z (zp Z) Z Z Z LE.mono (fun u H hH _ _ v1 h1 v2 h2=>Az w2 hH h1 h2)) Z ((Zk∘ZcB∘Zce∘ZP∘Zc∘Zs∘Zj) ?_);refine g7 11 tyC 7 rfl ((ZT∘Zl∘Zcm) ?_);refine xq (fun i:Nat=>[(9,.sat (US K true)),(11,.own (SlR tyC 7 ((zrx.take i).map fun t=>((t,true):CH)).length (((zrx.take i).map fun t=>((t,true):CH)).flatMap ccs))),(32,.sat (US zrx true)),(33,.is (.int .i64 zrx.length)),(34,.is (.int .i64 i))]) (fun i=>i<=zrx.length) (fun i=>zrx.length-i) 0 (mf _) ⟨Z,Z,Z,Z,Z,nm⟩ ?_;rintro i hi;have hli:((zrx.take i).map fun t=>((t,true):CH)).length<=8192:=by rw[mj,mw];omega
 by_cases hlt:i<zrx.length
 ·obtain⟨t,ht⟩:=xu hlt;have hct:=ix ht;have e1:((zrx.take (i+1)).map fun t=>((t,true):CH))=((zrx.take i).map fun t=>((t,true):CH))++[(t,true)]:=by rw[zns,ht,znp];rfl
  refine(Zb5∘ZN∘ZU∘Zbn∘Zb9∘Zbw∘Zp∘Z7) ?_;refine qh (yt (.inl Z) Z) ((Zaq∘Zdv∘ZR∘Zdk) ?_);refine qh (yt (.inr Z) Z) ((ZaJ∘ZE∘ZbR) ?_);exact yv (x:=i) (i+1) hlt I ⟨Z,by rw[e1];exact lg Z,Z,Z,Z,nm⟩
 ·obtain rfl:i=zrx.length:=by omega
  rw[znq];have lG:(zrx.map fun t=>((t,true):CH)).length<=8192:=by rw[mj];omega
  refine(Zb5∘ZbB∘Zf∘Zbf∘Zl∘Zcm) ?_;refine xq (fun j:Nat=>[(11,.own (SlR tyC 7 ((zrx.map fun t=>((t,true):CH))++((K.take j).map fun t=>((t,false):CH))).length (((zrx.map fun t=>((t,true):CH))++((K.take j).map fun t=>((t,false):CH))).flatMap ccs))),(44,.sat (US K true)),(45,.is (.int .i64 K.length)),(46,.is (.int .i64 j))]) (fun j=>j<=K.length) (fun j=>K.length-j) 0 (mf _) ⟨by rw[zn6,znv,mp];rfl,Z,Z,Z,nm⟩ ?_;rintro j hj;have hlj:((zrx.map fun t=>((t,true):CH))++((K.take j).map fun t=>((t,false):CH))).length<=16384:=by rw[nr,mj,mj,mw];omega
  by_cases hjl:j<K.length
  ·obtain⟨t,ht⟩:=xu hjl;have hct:=ix ht;have e1:((zrx.map fun t=>((t,true):CH))++((K.take (j+1)).map fun t=>((t,false):CH)))=((zrx.map fun t=>((t,true):CH))++((K.take j).map fun t=>((t,false):CH)))++[(t,false)]:=by rw[zns,ht,znp,mo];rfl
   refine(Zf∘ZG∘ZN∘ZW∘Zbn∘Zb9∘Zbw∘Zp∘ZO) ?_;refine qh (yt (.inl Z) Z) ((Zaq∘Zdv∘ZR∘Zdk) ?_);refine qh (yt (.inr Z) Z) ((ZaJ∘Za2∘ZbR) ?_);exact yv (x:=j) (j+1) hjl I ⟨by rw[e1];exact lg Z,Z,Z,Z,nm⟩
  ·obtain rfl:j=K.length:=by omega
   rw[znq];rw[znq] at hlj;refine fj 11 rfl ((Zf∘ZG∘ZbB∘Zap∘Zk) ?_);refine z7 (xl (φ:=KS tyC (Dn ((zrx.map fun t=>((t,true):CH))++(K.map fun t=>((t,false):CH)))) true) L Z Z (zp Z) Z Z Z nw (fun u H hH _ _ v1 h1=>Po Z I hH h1)) Z ((ZP∘Zp) ?_);refine yl1 L [.tmp 4] fun u H hH hle=>?_;exact fun v hv=>hv
end Go.V.L8
namespace Go.V.L10
open Go.V.L2 Go.V.L8 Go.V.L6
def Qj(S:Sto):az fun(x:Nat×Value×Ent) (H:Heap)=>MapOK x.2.2 S.R/\EsV x.2.2 H/\PsV (ko S.P) x.2.1 H:=fun _ _ _ ⟨h1,h2,h3⟩ hle=>⟨h1,h2.le hle,h3.le hle⟩
abbrev StG(b:Nat)(S:Sto):GR:=GEx (fun x:Nat×Value×Ent=>StO b S.R.length x.1 x.2.1 S.P.length x.2.2) (fun x H=>MapOK x.2.2 S.R/\EsV x.2.2 H/\PsV (ko S.P) x.2.1 H) (Qj S)
def zf9(b:Nat)(S:Sto):(StG b S).res=ExR (fun x:Nat×Value×Ent=>(StO b S.R.length x.1 x.2.1 S.P.length x.2.2).res) (fun x H=>MapOK x.2.2 S.R/\EsV x.2.2 H/\PsV (ko S.P) x.2.1 H) (Qj S):=rfl
def Vu{s:Value}{es:Ent}(hm:MapOK es S.R)(hes:EsV es B)(hps:PsV (ko S.P) s B):∀ (v:Value) H u C,B.Le H->(StO b S.R.length m s S.P.length es).res.P v H u C->(StG b S).res.P v H u C:=fun _ _ _ _ hle h=>⟨(m,s,es),⟨hm,hes.le hle,hps.le hle⟩,h⟩
attribute [local irreducible] V N X VO Par StepOK Has Ret RetL RetO RetT ky RetX RetY Src
def bj(h:List Int)(k:Nat):Int:=if k=0 then 0 else (h[k-1]?).getD 0
def bi{h:List Int}{x:Int}(hx:h[k]?=some x):bj h (k+1)=x:=by
 unfold bj;rw[nc I,zq7,hx];rfl
def zi7{a tv:Value}(h:φ tv H):TupS [φ,fun v _=>v=a] (.tuple #[tv,a]) H:=by
 refine⟨[tv,a],rfl,rfl,fun i φ' x hi hx=>?_⟩;rcases i with _ | _ | i
 ·cases hi;cases hx;exact h
 ·cases hi;cases hx;rfl
 ·cases hi
def Oq{a:Value}(h:Kn.mono (.sat φ)):Kn.mono (.sat (TupS [φ,fun v _=>v=a])):=TupS.mono fun ψ hψ=>by
 simp only[nz,zou,or_false] at hψ;rcases hψ with rfl | rfl
 ·exact h
 ·exact fun _ _ _ h _=>h
def Hn{t:Nat}{s:Value}{es:Ent}:∀ v H u C,(StO b n m s t es).res.P v H u C->joinH H u C b=some (.cells (stc n m s t).toArray tyS):=by rw[Gl];exact Yv
abbrev A5(b:Nat):Value:=.pointer (some ⟨b,0,none⟩)
abbrev zmj(S:Sto):Res:=Ko A5 fun b=>StG b S
def Yq{Y:Type}:MapOK ([]:List (Int×(List U×Y))) []:=⟨zoy,fun r=>by
 cases h:kpt ([]:List (Option (List U))) r with
 | none=>rfl
 | some t=>have:=i8 (R:=[]) (r:=r) (by rw[h];rfl);simp at this;omega⟩
def Yr:MapOK [((1:Int),(([]:List U),nilSet))] newS.R:=by
 have h:=(Yq (Y:=Value)).add [] nilSet;have h2:=h.1;rw[h.2] at h2;exact h2
def zc9{Y:Type}{k:Int}{y:Y}{l:List (Int×Y)}(h:k∉l.map Prod.fst):Pd k y l=l++[(k,y)]:=by
 refine r7 (i:=0) ?_;have h1:¬ (dy k l).isSome=true:=fun hs=>h (po.1 hs);unfold dy at h1
 cases hm:c9 k l 0 with
 | none=>rfl
 | some q=>rw[hm] at h1;exact ni rfl h1
def zch(hB:zry B w):RetO zrz 42 [] w B (zmj newS):=by
 refine wj Tryz.func42 Z Tryz.ntmps42 (np Z) hB (Z4 (h:=?_));refine z7 (O3 (hint:=none) .u64 vcE Z Z) Z ?_;refine U3 1 901 rfl fun m=>?_;refine Zd1 (h:=?_);refine xg (Tm (q:=901) (vc:=vcE) 1 ([],nilSet) mpS kyS Z Z Z Z Z Z Z) (Za (h:=?_));refine z7 (yz (cs:=[_,_,_,_]) Z Z zje Z Z) Z (ZdI (h:=?_));refine qh (yt (.inr Z) Z) (Zp (h:=?_));refine ku 0 900 rfl fun b=>?_;refine vk 900 901 rfl Z (xm (zlj m .u64 vcE [((1:Int),(([]:List U),nilSet))])) ?_;refine Kj 900 (StG b newS).res Z (fun v H u C hle h=>Vu (S:=newS) (s:=.slice none 0 0) (m:=m) (B:=B) Yr (fun e he=>by rw[mz.1 he];exact SetV.nil) SlV.nil v H u C hle h) ?_;exact zen 0 900 A5 (fun b=>StG b newS) b Z Z (dw Z (fun _ _ h=>h) nq Z)
end Go.V.L10
namespace Go.V.L10
open Go.V Go.V.L2 Go.V.L8 Go.V.L6
abbrev SB:=List U×(Value×Option Addr×Value×Option Addr)
abbrev sbv(b:SB):Value:=.agg #[b.2.1,.pointer b.2.2.1,b.2.2.2.1,.pointer b.2.2.2.2]
def sbc(b:SB):List Value:=[b.2.1,.pointer b.2.2.1,b.2.2.2.1,.pointer b.2.2.2.2]
def zgi(b:SB):(sbc b).length=4:=rfl
abbrev znd(z:Int×SB):Int×(List U×Value):=(z.1,(z.2.1,sbv z.2))
def zsE(zs:List (Int×SB)):Ent:=zs.map znd
def SbOK(bs:List SB)(H:Heap):Prop:=∀ b∈bs,SetV b.1 (sbv b) H
def SbOK.le{bs:List SB}{H H':Heap}(h:SbOK bs H)(hle:H.Le H'):SbOK bs H':=fun b hb=>(h b hb).le hle
def SbOK.mem_plain{bs:List SB}(h:SbOK bs H)(b:SB)(hb:b∈bs):(sbc b).all ue=true:=by
 obtain⟨f1,p1,f2,p2,hv,hp⟩:=(h b hb).shape;unfold sbv at hv;cases hv;exact hp
abbrev SsV(bs:List SB)(fu:Bool):Value->Heap->Prop:=SlV tySt 4 (bs.flatMap sbc) bs.length fu
def zlr{bs:List SB}{b:SB}(h:bs[i]?=some b):((bs.flatMap sbc).drop (i*4)).take 4=[b.2.1,.pointer b.2.2.1,b.2.2.2.1,.pointer b.2.2.2.2]:=f0 zgi bs i b h
def zbj(rs:List Int):Prop:=(0::rs).Pairwise (·<·)
instance (rs:List Int):Decidable (zbj rs):=inferInstanceAs (Decidable ((0::rs).Pairwise (·<·)))
def zeh{rs:List Int}(h:zbj rs){x:Int}(hx:rs[i]?=some x):bj rs i<x:=by
 have h2:=mi.1 h
 cases i with
 | zero=>exact h2.1 x (m9 hx)
 | succ i=>
  obtain⟨y,hy⟩:=xu (show i<rs.length by have:=get_lt hx;omega);rw[bi hy];have h3:=zpa.1 h2.2 i (i+1) (get_lt hy) (get_lt hx) (zqz i)
  rwa [gk hy,gk hx] at h3
def zeg{rs:List Int}{i:Nat}{x:Int}(h:zbj (rs.take i))(hle:∀ a∈0::rs.take i,a<=bj rs i)(hx:rs[i]?=some x)(hlt:bj rs i<x):zbj (rs.take (i+1))/\∀ a∈0::rs.take (i+1),a<=bj rs (i+1):=by
 rw[cp hx,bi hx];constructor
 ·unfold zbj at h |-;rw[<-znt,zoa];refine⟨h,zop _ _,fun a ha b hb=>?_⟩;rw[mz.1 hb];have:=hle a ha;omega
 ·intro a ha;rw[<-znt,mt,mz] at ha;rcases ha with ha | rfl
  ·have:=hle a ha;omega
  ·omega
def mkE(rs L0:List Int):Int:=if rs.length=0 then 1 else if 1024<rs.length then 3 else if zbj rs then (if ∀ h∈jl L0,h∈rs then 0 else 14) else 18
def MkR(e:Int)(S:Sto):Res where
 P v H u C:=(e=0/\∃ b,v=.tuple #[A5 b,.int .i64 0]/\(StG b S).P H u C)\/(e≠0/\v=.tuple #[.pointer none,.int .i64 e]/\∀ k,¬ C k)
 st:=fun h a b c d=>h.imp (fun⟨h1,x,h2,h3⟩=>⟨h1,x,h2,(StG x S).st h3 a b c d⟩) id
def zjv{f:FuncId}{args:List Value}(h:RetO zrz f args w B (MkR 0 S)):RetO zrz f args w B (Ko (fun b=>.tuple #[A5 b,.int .i64 0]) fun b=>StG b S):=
 RetL.mono h fun _ _ _ _ ⟨C,h1,h2⟩=>⟨C,h1.elim (fun⟨_,b,hb,hs⟩=>⟨b,hb,hs⟩) fun h=>ni rfl h.1,h2⟩
attribute [local irreducible] V N X VO Par StepOK Has Ret RetL RetO RetT ky RetX RetY Src
end Go.V.L10
section
open Go.V
attribute [local irreducible] Has N Par Ret RetL RetO RetT RetX RetY Src StepOK V VO X ky
namespace Go.V.L10
open Go.V.L2 Go.V.L8 Go.V.L6
abbrev tyPS:TypeId:=71
abbrev tyRr:TypeId:=221
def tup3{a b v:Value}(h:φ v H):TupS [φ,fun v _=>v=a,fun v _=>v=b] (.tuple #[v,a,b]) H:=by
 refine⟨[v,a,b],rfl,rfl,fun i ψ x hi hx=>?_⟩;rcases i with _ | _ | _ | i
 ·cases hi;cases hx;exact h
 ·cases hi;cases hx;rfl
 ·cases hi;cases hx;rfl
 ·cases hi
structure OOK(o:OO):Prop where
 wh:o.wh<=255
 rv:o.rv<=255
 ms:∀ c∈o.ms,c.1<=255/\c.2.1<=255/\c.2.2<=255
 cs:∀ c∈o.cs,c.1<=255/\c.2.1<=255/\c.2.2<=255
 lm:o.ms.length<=9223372036854775807
 lc:o.cs.length<=9223372036854775807
def rev_ret{o:OO}(ho:OOK o){mv cv:Value}(hp1:ue mv=true)(hp2:ue cv=true)(hB:zry B w):
  Ret zrz 185 [.agg #[.int .u8 o.wh,mv,cv,.int .u8 o.rv,.int .i64 o.kp]] w B (fun v _=>v=.int .u64 o.rev):=by
 have hrv:=ho.rv;unfold OO.rev;refine yo Tryz.func185 Z Tryz.ntmps185 (np Z) hB ?_;by_cases h:o.rv=255
 ·rw[na h];refine(Z0∘ZM∘Z8∘Zv∘Zbd∘Ze) ?_;exact yl2 L [.tmp 2]
 ·rw[nc h];have hwu:IntKind.u64.wrap (o.rv:Int)=(o.rv:Int):=wrap_u64 I I;refine(Z0∘ZM∘Z8∘Zn∘Zo∘Zy∘Z8) ?_;refine z7 (xw Z Z Z fh.1 fh.2 (wrap_u64 I I)) Z (Ze (h:=?_));exact yl2 L [.tmp 2]
end Go.V.L10
end
namespace Go.V.L10
open Go.V.L2 Go.V.L8 Go.V.L6
def zgk{r:Int}(hn:S.R.length≠0)(hB:zry B w)(hr:(StG b S).P B w C)(hC:ZCB C w B):
  RetY zrz 87 [A5 b,.int .u64 r] w B C (StG b S) (WithP (atS S r).1 (atS S r).2):=
 RetY.ex hr fun _ ⟨hm,hes,_⟩ hr=>Li hm hn hes hB hr hC
def Vz(hn:S.R.length≠0)(hz:(j7 S.R).length<=100000)(hB:zry B w)(hr:(StG b S).P B w C)(hC:ZCB C w B):
  RetY zrz 85 [A5 b] w B C (StG b S) (RsV (j7 S.R) true):=
 RetY.ex hr fun _ ⟨hm,_,_⟩ hr=>(Rb hm hn (by rw[hm.len];exact hz) hB hr hC).pubY Hp
abbrev PinsP(P0:List Int):Value->Heap->Prop:=fun v H=>∃ s,v=pnv s P0.length/\PsV (ko P0) s H
def PinsP.mono{P0:List Int}:Kn.mono (.sat (PinsP P0)):=fun _ _ _ ⟨s,h1,h2⟩ hle=>⟨s,h1,h2.le hle⟩
attribute [local irreducible] V N X VO Par StepOK Has Ret RetL RetO RetT ky RetX RetY Src
def Vx(hn:S.R.length≠0)(hB:zry B w)(hr:(StG b S).P B w C)(hC:ZCB C w B):
  RetY zrz 43 [A5 b] w B C (StG b S) (PinsP S.P):=by
 refine RetY.ex hr fun x hφ hr=>?_;obtain⟨m,s,es⟩:=x;obtain⟨hm,hes,hps⟩:=hφ;dsimp only at hm hes hps hr |-;obtain⟨p,c,rfl⟩:=jx hps;unfold RetY;refine xh 900 (StO b S.R.length m _ S.P.length es) Tryz.func43 Z Tryz.ntmps43 (np Z) hB hr hC ?_;rw[Gl];refine v8 900 901 rfl (xm _) ?_;refine(ZQ∘Zam∘Z9∘Za) ?_;refine y9 (wk L 900 (Φ:=fun H=>H b=some (.cells (stc S.R.length m (.slice p (ko S.P).length c) S.P.length).toArray tyS)) (c:=.bool false) Z Z (zp Z) Z Z Z Z Z Fu (fun u H hH hle hb=>none_ret hn hb hH)) ((Zo∘Zx∘Zaa) ?_);refine y9 (kf L (q:=900) (vs:=[_,_]) Z Z Z Z ⟨_,rfl⟩) (Zab (h:=?_));refine Ze0 (h:=?_);exact Bc L 900 (r:=StO b S.R.length m (.slice p (ko S.P).length c) S.P.length es) (rs:=[.cell 2 112]) Z (fun _ _ h=>h) nq Z Z (fun H hle=>⟨_,qy Z,rfl,_,rfl,hps.le hle⟩)
abbrev s1:Sto:=⟨[some [],some [d0]],[]⟩
abbrev s2:Sto:=⟨[some [],some [d0],some [d2]],[]⟩
abbrev s3:Sto:=⟨[some [],some [d0],some [d2]],[2]⟩
abbrev s4:Sto:=⟨[none,some [d0],some [d2]],[2]⟩
abbrev s5:Sto:=⟨[none,some [d0],some [d2],some [d2]],[2]⟩
abbrev s6:Sto:=⟨[none,some [d0],some [d2],some [d2]],[]⟩
end Go.V.L10
namespace Go.V.L10
open Go.V Go.V.L2 Go.V.L8 Go.V.L6
attribute [local irreducible] V N X VO Par StepOK Has Ret RetL RetO RetT ky RetX RetY Src
end Go.V.L10
namespace Go.V.L8
open Go.V Go.V.L2 Go.V.L3 Go.V.L6
attribute [local irreducible] V N X VO Par StepOK Has Ret RetL RetO RetT ky Src
end Go.V.L8
namespace Go.V.L11
open Go.V.L2 Go.V.L4 Go.V.L6 Go.V.L8 Go.V.L10
abbrev WithE(l:List U)(e:Int):Value->Heap->Prop:=TupS [SetV l,fun v _=>v=.int .i64 e]
def WithE.mono{l:List U}{e:Int}:Kn.mono (.sat (WithE l e)):=Oq SetV.mono
def Kz{l:List U}{e:Int}(h:WithP l e v H):WithE l e v H:=by
 obtain⟨tv,rfl,h2⟩:=h;exact zi7 h2
def zh6{r:Int}{t:List U}{e:Int}(he:atS S r=(t,e))(hn:S.R.length≠0)(hB:zry B w)(hr:(StG b S).P B w C)(hC:ZCB C w B):
  RetY zrz 87 [A5 b,.int .u64 r] w B C (StG b S) (WithE t e):=by
 have h:=zgk (r:=r) hn hB hr hC;rw[he] at h;exact RetY.mono h fun _ _ _=>Kz
attribute [local irreducible] V N X VO Par XP LV StepOK Has Ret RetL RetO RetT ky RetX RetY Pan ay Src
end Go.V.L11
namespace Go.V.L11
open Go.V.L2 Go.V.L3 Go.V.L4 Go.V.L6 Go.V.L8 Go.V.L10
def _root_.ZfF(t:Wr Y->A:=by intro h;refine z7 (qg L (vs:=[_,_,_,_,_,_]) (qw Z E) Z Z Z Z ⟨_,rfl⟩) Z ?_;exact h.1)(h:Y):A:=t ⟨h⟩
def _root_.ZdW(t:Wr Y->A:=by intro h;refine z7 (qg L (vs:=[_,_,_,_,_,_,_]) (qw Z E) Z Z Z Z ⟨_,rfl⟩) Z ?_;exact h.1)(h:Y):A:=t ⟨h⟩
def _root_.ZdX(t:Wr Y->A:=by intro h;refine qp (id:=11) [(56,[900])] kj J ?_;exact h.1)(h:Y):A:=t ⟨h⟩
def _root_.Zb3(t:Wr Y->A:=by exact fun h=>(Zz∘ZfF) h.1)(h:Y):A:=t ⟨h⟩
def ze2{rb:Nat}{bs:List Nat}{fr:Int}{R:Rd}(hb:∀ b∈bs,b<=255)(hl:bs.length<=1099511627776)(hat:R.at_<=bs.length)(hB:zry B w)(hs:BsV bs fu sv B)(hr:(ke sb rb sv fr R).P B w C)(hC:ZCB C w B):
  RetX zrz 147 [kg rb] w B C (ke sb rb sv fr (ge bs R).2) (chv (ge bs R).1.1 (ge bs R).1.2):=
 RetL.mono (RetY.conv (RetY.frame (H6 hr) hC fun C1 h1 hC1=>(L4.chg_ret hb hl hat hB hs h1 hC1).toY) fun _ _ _ h=>H6 h:RetY _ _ _ _ _ _ (ke sb rb sv fr (ge bs R).2) fun x _=>x=chv (ge bs R).1.1 (ge bs R).1.2) fun _ _ _ _ h=>h
def zj3:Option U->List Value
 | none=>[.string sZ,.string sZ,.string sZ,.string sZ,.string sZ,.string sZ]
 | some t=>[.string t.1.1.1,.string t.1.1.2,.string t.1.2,.string t.2.1.1,.string t.2.1.2,.string t.2.2]
structure ChJ(bs:List Nat)(l:List U)(n:Nat)(Y:((List CH×List CH)×Rd)×(Int×Int))(i:Nat)(la:Option U)(a d:List CH)(R:Rd):Prop where
 hi:i<=n
 hW:t6 bs l (n-i) la a d R=Y
 h0:R.err=0
 at_:R.at_<=bs.length
 first:la=none↔i=0
 len:a.length+d.length=i
 za:∀ c∈a,TZ c.1
 zd:∀ c∈d,TZ c.1
def ChJ.step{l:List U}{Y:((List CH×List CH)×Rd)×(Int×Int)}{la:Option U}{a d:List CH}{R:Rd}(h:ChJ bs l n Y i la a d R)(hi:i<n)(hY:Y.2.2=0):
  (ge bs R).2.err=0/\tE (ge bs R).1.1=0/\Ng la (ge bs R).1.1=true/\decide ((ge bs R).1.1∈l)=(ge bs R).1.2/\
  ChJ bs l n Y (i+1) (some (ge bs R).1.1) (if (ge bs R).1.2=true then a else a++[(ge bs R).1]) (if (ge bs R).1.2=true then d++[(ge bs R).1] else d) (ge bs R).2:=by
 obtain⟨m,hm⟩:∃ m,n-i=m+1:=⟨n-i-1,by omega⟩
 have hW:=h.hW;rw[hm] at hW;unfold t6 at hW;have htz:=Ps (bs:=bs) (R:=R);have hta:=Aq (bs:=bs) (R:=R) h.at_;generalize ge bs R=zru at hW htz hta |-;obtain⟨⟨t,k⟩,R2⟩:=zru;dsimp only at hW htz hta |-;by_cases h2:R2.err≠0
 ·rw[na h2] at hW;subst hW;exact ni hY h2
 ·rw[nc h2] at hW;by_cases he:tE t≠0
  ·rw[na he] at hW;subst hW;exact ni hY (show(6:Int)≠0 by decide)
  ·rw[nc he] at hW;by_cases hbh:Ng la t=false
   ·rw[na hbh] at hW;subst hW;exact ni hY (show(18:Int)≠0 by decide)
   ·rw[nc hbh] at hW;by_cases hm2:decide (t∈l)≠k
    ·rw[na hm2] at hW;subst hW;exact ni hY (show(5:Int)≠0 by decide)
    ·rw[nc hm2] at hW;refine⟨mh.1 h2,mh.1 he,by cases hq:Ng la t<;>simp_all,mh.1 hm2,⟨hi,by rw[show n-(i+1)=m by omega];exact hW,mh.1 h2,hta,⟨fun h=>by(cases h),fun h=>by(cases h)⟩,?_,?_,?_⟩⟩
     ·have:=h.len;cases k
      ·rw[nc T,nc T,nr,zn1];omega
      ·rw[na rfl,na rfl,nr,zn1];omega
     ·intro c hc;cases k
      ·rw[nc T] at hc;rcases mt.1 hc with h3 | h3
       ·exact h.za c h3
       ·rw[mz] at h3;subst h3;exact htz
      ·rw[na rfl] at hc;exact h.za c hc
     ·intro c hc;cases k
      ·rw[nc T] at hc;exact h.zd c hc
      ·rw[na rfl] at hc;rcases mt.1 hc with h3 | h3
       ·exact h.zd c h3
       ·rw[mz] at h3;subst h3;exact htz
attribute [local irreducible] V N X VO Par XP LV StepOK Has Ret RetL RetO RetT ky RetX RetY Pan ay Src
def Pt{rb:Nat}{R:Rd}{fr0:Int}{bs:List Nat}{l:List U}(hl0:l.length<=4096)(hb:∀ b∈bs,b<=255)(hl:bs.length<=1099511627776)(hat:R.at_<=bs.length)(he:(au bs l R).2.2=0)(hB:zry B w)(hs:BsV bs fu sv B)(hv:SetV l v B)(hr:(ke sb rb sv fr0 R).P B w C)(hC:ZCB C w B):
  RetY zrz 78 [kg sb,v] w B C (ke sb rb sv R.at_ (au bs l R).1.2) (SetV (au bs l R).1.1):=by
 have ha1:=dt (bs:=bs) (lim:=8192) hat;have hlv:=fun h=>ip (bs:=bs) (lim:=8192) (R:=R) T h;have hsz:=fun(h:(jy bs 8192 R).2.err=0) {w:World} {B:Heap} {C:Nat->Prop} (hB:zry B w) (hs:BsV bs fu sv B) (hr:(ke sb rb sv fr0 R).P B w C) (hC:ZCB C w B)=>size_ret (lim:=8192) hb hl hat I h hB hs hr hC;unfold au at he |-;obtain⟨z,R1,hz1⟩:∃ z R1,jy bs 8192 R=(z,R1):=⟨_,_,rfl⟩
 rw[hz1] at he ha1 hlv hsz |-;dsimp only at he ha1 hlv hsz |-;by_cases h1:R1.err≠0
 ·rw[na h1] at he;exact ni he h1
 ·rw[nc h1] at he |-;have h10:=mh.1 h1;obtain⟨n,rfl,hn⟩:=hlv h10;rw[znu] at he |-;obtain⟨Y,hY⟩:∃ Y,t6 bs l n none [] [] R1=Y:=⟨_,rfl⟩
  rw[hY] at he |-;by_cases h2:Y.2.2≠0
  ·rw[na h2] at he;exact ni he h2
  ·rw[nc h2] at he |-;have h20:=mh.1 h2;by_cases h3:l.length+Y.1.1.1.length>4096+Y.1.1.2.length
   ·rw[na h3] at he;exact ni he (show(3:Int)≠0 by decide)
   ·rw[nc h3];dsimp only;obtain⟨f1,p1,k1,q1,rfl,hp1⟩:=hv.shape;have hj0:ChJ bs l n Y 0 none [] [] R1:=⟨mf _,hY,h10,ha1,⟨fun _=>rfl,fun _=>rfl⟩,rfl,(fun _ h=>by cases h),(fun _ h=>by cases h)⟩
    unfold RetY;refine xh 900 (ke sb rb sv fr0 R) Tryz.func78 Z Tryz.ntmps78 (np Z) hB hr hC ((ZaU∘ZC∘Zby∘ZaR∘ZS∘ZC∘Zg∘Zx) ?_);refine qh (yi L 900 (ke sb rb sv R.at_ R1) (.int .i64 n) (r:=ke sb rb sv fr0 R) Z Z Z Z Z (fun u H C2 hH hle hr2 hC2=>hsz h10 hH (hs.le hle) hr2 hC2)) (Zc (h:=?_));refine v8 (r1:=xn sb [kg rb,.int .i64 R.at_] Qe) (r2:=(GRd rb sv R1).res) 900 901 rfl (xm _) ?_;refine(Zcy∘Zj∘ZbZ∘Zdg) ?_;refine vk 900 901 rfl Z (xm (GRd rb sv R1)) ?_;refine g7 5 Nr 7 rfl (g7 6 Nr 7 rfl ?_)
    refine xq (fun x:Nat×Option U×List CH×List CH×Rd×Nat=>[(0,.is (kg sb)),(3,.own (gm [f1,.pointer p1,k1,.pointer q1] tySt)),(4,.own (gm [.nilFunc,.pointer none,.nilFunc,.pointer none] tySt)),(5,.own (SlR Nr 7 x.2.2.1.length (x.2.2.1.flatMap ccs))),(6,.own (SlR Nr 7 x.2.2.2.1.length (x.2.2.2.1.flatMap ccs))),(7,.own (gm (zj3 x.2.1) tyU)),(9,.is (.int .i64 R.at_)),(20,.is (.int .i64 n)),(21,.is (.int .i64 x.1)),(900,.own (ke sb rb sv x.2.2.2.2.2 x.2.2.2.2.1).res)])
     (fun x=>ChJ bs l n Y x.1 x.2.1 x.2.2.1 x.2.2.2.1 x.2.2.2.2.1) (fun x=>n-x.1) (0,none,[],[],R1,R.at_) hj0 ⟨rfl,rfl,rfl,rfl,rfl,rfl,rfl,rfl,rfl,rfl,nm⟩ ?_
    rintro⟨i,la,a,d,R',fr⟩ hj;dsimp only at hj |-;by_cases hlt:i<n
    ·obtain⟨g1,g2,g3,g4,hj2⟩:=hj.step hlt h20;have htz:=Ps (bs:=bs) (R:=R');have hRa:=hj.at_;have hfst:=hj.first;have hlen:=hj.len;have hsrc:=fun {w:World} {B:Heap} {C:Nat->Prop} (hB:zry B w) (hs:BsV bs fu sv B) (hr:(ke sb rb sv R'.at_ R').P B w C) (hC:ZCB C w B)=>ze2 hb hl hRa hB hs hr hC;generalize ge bs R'=zru at g1 g2 g3 g4 hj2 htz hsrc;obtain⟨⟨t,k⟩,R2⟩:=zru;dsimp only at g1 g2 g3 g4 hj2 htz hsrc;have hsn:∀ x:List CH,(x++[(t,k)]).length=x.length+1:=fun x=>by simp
     refine v8 (r1:=xn sb [kg rb,.int .i64 fr] Qe) (r2:=(GRd rb sv R').res) 900 901 rfl (xm _) ?_
     cases k with
     | true=>
      cases la with
      | none=>
       have hi0:i=0:=hfst.1 rfl;refine(Zb5∘ZN∘Z5∘Zc∘Z7∘ZbK) ?_;refine jz 900 901 rfl Z (xm (GRd rb sv R')) ?_;refine ZaQ (h:=?_);refine qh (yi L 900 (ke sb rb sv R'.at_ R2) (chv t true) (r:=ke sb rb sv fr R') Z Z Z Z Z (fun u H C hH hle hr hC=>jr (x:=(t,true)) (fst:=[kg rb]) (cap:=[]) Z g1 hH hr hC (fun u3 H3 C3 hH3 hle3 hr3 hC3=>hsrc hH3 ((hs.le hle).le hle3) hr3 hC3))) (ZbW (h:=?_));refine ku 11 913 rfl fun b11=>?_;refine wn 913 rfl fun H1 hs1 _ h11=>?_;have hv1:=hv.le hs1.le;refine(Za3∘Zb3) ?_;refine z71 L Z (fun u H hH _=>kx htz hH) ?_;refine Zv (h:=?_);refine qh (xc L 900 (ke sb rb sv R'.at_ R2) (r:=ke sb rb sv R'.at_ R2) Z Z Z Z Z (fun u H C hH _ hr hC=>kr hH hr hC)) ((Zg∘Zci∘Zv∘Zcr∘Za6) ?_);refine qh (xc L 900 (ke sb rb sv R'.at_ R2) (r:=ke sb rb sv R'.at_ R2) Z Z Z Z Z (fun u H C hH _ hr hC=>kr hH hr hC)) ((Zg∘ZdX∘Zm∘ZcP∘Zal∘Zbc) ?_);refine z91 L Z (fun u H hH hle=>js g4 hH (hv1.le hle)) ?_;refine(Zal∘ZZ∘Zdl) ?_;refine xx (xc L 900 (ke sb rb sv R'.at_ R2) (r:=ke sb rb sv R'.at_ R2) Z Z Z Z Z (fun u H C hH _ hr hC=>kr hH hr hC)) Z Z ((Zbh∘ZW∘Zb3∘ZaF∘Zg∘ZO∘Zz∘Zbt∘Z3∘Za2) ?_);refine qh (yt (.inl Z) Z) ((ZdW∘ZR∘Zdk) ?_);refine qh (yt (.inr Z) Z) ((ZaJ∘Zaf∘ZbR) ?_);exact w5 (x:=(i,none,a,d,R',fr)) (i+1,some t,a,d++[(t,true)],R2,R'.at_) hs1 hj2 M ⟨Z,Z,Z,Z,lg Z,Z,Z,Z,Z,Z,nm⟩
      | some y=>
       have hi0:i≠0:=fun h=>by have:=hfst.2 h;cases this
       refine(Zb5∘ZN∘Z5∘Zc∘Z7∘ZbK) ?_;refine jz 900 901 rfl Z (xm (GRd rb sv R')) ?_;refine ZaQ (h:=?_);refine qh (yi L 900 (ke sb rb sv R'.at_ R2) (chv t true) (r:=ke sb rb sv fr R') Z Z Z Z Z (fun u H C hH hle hr hC=>jr (x:=(t,true)) (fst:=[kg rb]) (cap:=[]) Z g1 hH hr hC (fun u3 H3 C3 hH3 hle3 hr3 hC3=>hsrc hH3 ((hs.le hle).le hle3) hr3 hC3))) (ZbW (h:=?_));refine ku 11 913 rfl fun b11=>?_;refine wn 913 rfl fun H1 hs1 _ h11=>?_;have hv1:=hv.le hs1.le;have g3:jh y t<0:=nj g3;refine(Za3∘Zb3) ?_;refine z71 L Z (fun u H hH _=>kx htz hH) ?_;refine Zv (h:=?_);refine qh (xc L 900 (ke sb rb sv R'.at_ R2) (r:=ke sb rb sv R'.at_ R2) Z Z Z Z Z (fun u H C hH _ hr hC=>kr hH hr hC)) ((Zg∘Zci∘Zn∘Za∘Zaq∘Zb3) ?_);refine z71 L Z (fun u H hH _=>wv (a:=y) (b:=t) hH) ?_;refine(ZI∘Zi) ?_;refine qh (xc L 900 (ke sb rb sv R'.at_ R2) (r:=ke sb rb sv R'.at_ R2) Z Z Z Z Z (fun u H C hH _ hr hC=>kr hH hr hC)) ((Zg∘ZdX∘Zm∘ZcP∘Zal∘Zbc) ?_);refine z91 L Z (fun u H hH hle=>js g4 hH (hv1.le hle)) ?_;refine(Zal∘ZZ∘Zdl) ?_;refine xx (xc L 900 (ke sb rb sv R'.at_ R2) (r:=ke sb rb sv R'.at_ R2) Z Z Z Z Z (fun u H C hH _ hr hC=>kr hH hr hC)) Z Z ((Zbh∘ZW∘Zb3∘ZaF∘Zg∘ZO∘Zz∘Zbt∘Z3∘Za2) ?_);refine qh (yt (.inl Z) Z) ((ZdW∘ZR∘Zdk) ?_);refine qh (yt (.inr Z) Z) ((ZaJ∘Zaf∘ZbR) ?_);exact w5 (x:=(i,some y,a,d,R',fr)) (i+1,some t,a,d++[(t,true)],R2,R'.at_) hs1 hj2 M ⟨Z,Z,Z,Z,lg Z,Z,Z,Z,Z,Z,nm⟩
     | false=>
      cases la with
      | none=>
       have hi0:i=0:=hfst.1 rfl;refine(Zb5∘ZN∘Z5∘Zc∘Z7∘ZbK) ?_;refine jz 900 901 rfl Z (xm (GRd rb sv R')) ?_;refine ZaQ (h:=?_);refine qh (yi L 900 (ke sb rb sv R'.at_ R2) (chv t false) (r:=ke sb rb sv fr R') Z Z Z Z Z (fun u H C hH hle hr hC=>jr (x:=(t,false)) (fst:=[kg rb]) (cap:=[]) Z g1 hH hr hC (fun u3 H3 C3 hH3 hle3 hr3 hC3=>hsrc hH3 ((hs.le hle).le hle3) hr3 hC3))) (ZbW (h:=?_));refine ku 11 913 rfl fun b11=>?_;refine wn 913 rfl fun H1 hs1 _ h11=>?_;have hv1:=hv.le hs1.le;refine(Za3∘Zb3) ?_;refine z71 L Z (fun u H hH _=>kx htz hH) ?_;refine Zv (h:=?_);refine qh (xc L 900 (ke sb rb sv R'.at_ R2) (r:=ke sb rb sv R'.at_ R2) Z Z Z Z Z (fun u H C hH _ hr hC=>kr hH hr hC)) ((Zg∘Zci∘Zv∘Zcr∘Za6) ?_);refine qh (xc L 900 (ke sb rb sv R'.at_ R2) (r:=ke sb rb sv R'.at_ R2) Z Z Z Z Z (fun u H C hH _ hr hC=>kr hH hr hC)) ((Zg∘ZdX∘Zm∘ZcP∘Zal∘Zbc) ?_);refine z91 L Z (fun u H hH hle=>js g4 hH (hv1.le hle)) ?_;refine(Zal∘ZZ∘Zdl) ?_;refine xx (xc L 900 (ke sb rb sv R'.at_ R2) (r:=ke sb rb sv R'.at_ R2) Z Z Z Z Z (fun u H C hH _ hr hC=>kr hH hr hC)) Z Z ((Zbh∘ZW∘Zb3∘ZaF∘Zg∘ZO∘Zz∘Zbt∘Za5∘Zap) ?_);refine qh (yt (.inl Z) Z) ((ZdW∘ZR∘Zdk) ?_);refine qh (yt (.inr Z) Z) ((ZaJ∘Zaf∘ZbR) ?_);exact w5 (x:=(i,none,a,d,R',fr)) (i+1,some t,a++[(t,false)],d,R2,R'.at_) hs1 hj2 M ⟨Z,Z,Z,lg Z,Z,Z,Z,Z,Z,Z,nm⟩
      | some y=>
       have hi0:i≠0:=fun h=>by have:=hfst.2 h;cases this
       refine(Zb5∘ZN∘Z5∘Zc∘Z7∘ZbK) ?_;refine jz 900 901 rfl Z (xm (GRd rb sv R')) ?_;refine ZaQ (h:=?_);refine qh (yi L 900 (ke sb rb sv R'.at_ R2) (chv t false) (r:=ke sb rb sv fr R') Z Z Z Z Z (fun u H C hH hle hr hC=>jr (x:=(t,false)) (fst:=[kg rb]) (cap:=[]) Z g1 hH hr hC (fun u3 H3 C3 hH3 hle3 hr3 hC3=>hsrc hH3 ((hs.le hle).le hle3) hr3 hC3))) (ZbW (h:=?_));refine ku 11 913 rfl fun b11=>?_;refine wn 913 rfl fun H1 hs1 _ h11=>?_;have hv1:=hv.le hs1.le;have g3:jh y t<0:=nj g3;refine(Za3∘Zb3) ?_;refine z71 L Z (fun u H hH _=>kx htz hH) ?_;refine Zv (h:=?_);refine qh (xc L 900 (ke sb rb sv R'.at_ R2) (r:=ke sb rb sv R'.at_ R2) Z Z Z Z Z (fun u H C hH _ hr hC=>kr hH hr hC)) ((Zg∘Zci∘Zn∘Za∘Zaq∘Zb3) ?_);refine z71 L Z (fun u H hH _=>wv (a:=y) (b:=t) hH) ?_;refine(ZI∘Zi) ?_;refine qh (xc L 900 (ke sb rb sv R'.at_ R2) (r:=ke sb rb sv R'.at_ R2) Z Z Z Z Z (fun u H C hH _ hr hC=>kr hH hr hC)) ((Zg∘ZdX∘Zm∘ZcP∘Zal∘Zbc) ?_);refine z91 L Z (fun u H hH hle=>js g4 hH (hv1.le hle)) ?_;refine(Zal∘ZZ∘Zdl) ?_;refine xx (xc L 900 (ke sb rb sv R'.at_ R2) (r:=ke sb rb sv R'.at_ R2) Z Z Z Z Z (fun u H C hH _ hr hC=>kr hH hr hC)) Z Z ((Zbh∘ZW∘Zb3∘ZaF∘Zg∘ZO∘Zz∘Zbt∘Za5∘Zap) ?_);refine qh (yt (.inl Z) Z) ((ZdW∘ZR∘Zdk) ?_);refine qh (yt (.inr Z) Z) ((ZaJ∘Zaf∘ZbR) ?_);exact w5 (x:=(i,some y,a,d,R',fr)) (i+1,some t,a++[(t,false)],d,R2,R'.at_) hs1 hj2 M ⟨Z,Z,Z,lg Z,Z,Z,Z,Z,Z,Z,nm⟩
    ·obtain rfl:i=n:=by have:=hj.hi;omega
     have hW:=hj.hW;rw[zoq] at hW;have hW2:(((a,d),R'),((0:Int),(0:Int)))=Y:=hW;subst hW2;dsimp only at h3 |-;have hlen:=hj.len;have hza:=hj.za;have hzd:=hj.zd;have hdl:(d++a).length<=8192:=by rw[nr];omega
     have hda:d.length+a.length<=8192:=I;have hpl:=Ro a;have hln:=Ed a
     have hzda:∀ c∈d++a,TZ c.1:=fun c hc=>by
      rcases mt.1 hc with h | h
      ·exact hzd c h
      ·exact hza c h
     refine v8 (r1:=xn sb [kg rb,.int .i64 fr] Qe) (r2:=(GRd rb sv R').res) 900 901 rfl (xm _) ?_;refine fj 5 rfl ?_;refine Cf 6 931 _ Z SlR.shape fun z6 hz6=>?_;obtain⟨p6,c6,rfl⟩:=hz6;refine(Zb5∘ZbB∘ZaW∘Zb∘Zaa) ?_;refine xg (yj L (q:=900) (cs':=[kg rb,.int .i64 R.at_]) Z Z Z Z Z) ((Zg∘Zbb∘Za∘Zcf) ?_);refine z71 L Z (fun u H hH hle=>f8 (l:=l) Z hH (hv.le hle)) ?_;refine(Zl∘ZcQ∘Za∘Za1∘ZcM∘ZcL) ?_;refine jz 900 901 rfl Z (xm (GRd rb sv R')) ?_;refine qh (xc L 900 (ke sb rb sv R.at_ R') (r:=ke sb rb sv R.at_ R') Z Z Z Z Z (fun u H C2 hH _ hr2 hC2=>kr hH hr2 hC2)) (Zam (h:=?_));refine Km 6 931 rfl Z (Zbu (h:=?_));refine qh (yt (.inl Z) Z) (ZfC (h:=?_));refine ea 87 rfl ((ZdE∘Zcm) ?_);refine bq (X:=SXp) 3 (r:=fun x=>gm (scs x.1) tySt) (φ:=Gp l) (jp l) ⟨(f1,p1,k1,q1),hp1⟩ hv Z (xq (fun j:Nat=>[(3,.own (ExR (fun x:SXp=>gm (scs x.1) tySt) (Gp (fe l ((d++a).take j))) (jp _))),(4,.own (gm [.nilFunc,.pointer none,.nilFunc,.pointer none] tySt)),(87,.sat (KS Nr (d++a) false)),(88,.is (.int .i64 (d++a).length)),(89,.is (.int .i64 j)),(900,.own (ke sb rb sv R.at_ R').res)]) (fun j=>j<=(d++a).length) (fun j=>(d++a).length-j) 0 (mf _) ⟨Z,Z,by show _=some (Kn.sat (SlV Nr 7 ((d++a).flatMap ccs) (d++a).length false));rw[nr,znw];rfl,by rw[nr];rfl,Z,Z,nm⟩ ?_);rintro j hjl;refine uu 3 rfl fun x H1 hs1 hset=>?_;obtain⟨⟨f,p,f',p'⟩,hpl⟩:=x;dsimp only[scs] at hset hpl |-;by_cases hjt:j<(d++a).length
     ·obtain⟨c,hc⟩:=xu hjt;have hcc:=Eu hc;have hzc:=hzda c (m9 hc);have hlen4:=Ki ((d++a).take j) hl0;have happ:=zba l hc;obtain⟨m,e,hme⟩:∃ m e,vg (fe l ((d++a).take j)) c.1 c.2=(m,e):=⟨_,_,rfl⟩
      rw[hme] at happ;have hms:Kn.mono (.sat (SetV m)):=SetV.mono;have hme0:Kn.mono (.sat (fun(v:Value) (_:Heap)=>v=.int .i64 e)):=fun _ _ _ h _=>h;refine(Zf∘ZaK∘ZN∘Zb0∘Zbn∘Zdf∘Zbw∘Zp∘ZbI∘Zcf∘Zdj) ?_;refine z7 (xl (φ:=WithE m e) L Z Z (zp Z) Z Z Z WithE.mono (fun u H hH hle _=>(Ex hme hlen4 hzc hH (hset.le hle)).mono fun _ _ _=>Kz)) Z ((Zk∘ZcB∘Zce) ?_);refine z7 (cw L (X:=SXp) (fun x=>scs x.1) (Gp m) (jp _) Lq (fun x=>⟨rfl,x.2⟩) Z Z Z Z Z) Z ((ZaJ∘ZcC∘ZbR) ?_);exact w5 (x:=j) (j+1) hs1 hjt I ⟨by rw[happ];rfl,Z,Z,Z,Z,Z,nm⟩
     ·obtain rfl:j=(d++a).length:=by omega
      rw[znq] at hset;refine(Zf∘ZaK∘ZbB∘Zc5∘Zcf∘ZcO∘Zp) ?_;exact Bc L 900 (r:=ke sb rb sv R.at_ R') (rs:=[.cell 4 tySt]) Z (fun _ _ h=>h) hs1 Z Z (fun H hle=>l5 (qy Z) Z Z (hset.le hle))
def _root_.ZdY(t:Wr Y->A:=by intro h;refine j9 (zz L Z Z Z Z) Z ?_;exact h.1)(h:Y):A:=t ⟨h⟩
def _root_.Zfe(t:Wr Y->A:=by intro h;refine j9 (qg L (vs:=[_,_,_,_]) (qy Z) Z Z Z Z ⟨_,rfl⟩) Z ?_;exact h.1)(h:Y):A:=t ⟨h⟩
def _root_.Zff(t:Wr Y->A:=by intro h;refine F7 (id:=11) 8 [(56,[900])] kj Z J ?_;exact h.1)(h:Y):A:=t ⟨h⟩
def _root_.Ze2(t:Wr Y->A:=by intro h;refine j9 (z8 Z Z Z) Z ?_;exact h.1)(h:Y):A:=t ⟨h⟩
def _root_.Zfg(t:Wr Y->A:=by intro h;refine j9 (X0 Z Z Z Z bt4 Z) Z ?_;exact h.1)(h:Y):A:=t ⟨h⟩
def Pu{rb:Nat}{R:Rd}{fr0:Int}{bs:List Nat}{l:List U}(hl0:l.length<=4096)(hb:∀ b∈bs,b<=255)(hl:bs.length<=1099511627776)(hat:R.at_<=bs.length)(he:(au bs l R).2.2≠0)(hB:zry B w)(hs:BsV bs fu sv B)(hv:SetV l v B)(hr:(ke sb rb sv fr0 R).P B w C)(hC:ZCB C w B):
  Pan zrz 78 [kg sb,v] w B C (wrV (au bs l R).2.1 (au bs l R).2.2):=by
 have ha1:=dt (bs:=bs) (lim:=8192) hat;have hlv:=fun h=>ip (bs:=bs) (lim:=8192) (R:=R) T h;have hsz:=fun(h:(jy bs 8192 R).2.err=0) {w:World} {B:Heap} {C:Nat->Prop} (hB:zry B w) (hs:BsV bs fu sv B) (hr:(ke sb rb sv fr0 R).P B w C) (hC:ZCB C w B)=>size_ret (lim:=8192) hb hl hat I h hB hs hr hC;have hszp:=fun(h:(jy bs 8192 R).2.err≠0) {w:World} {B:Heap} {C:Nat->Prop} (hB:zry B w) (hs:BsV bs fu sv B) (hr:(ke sb rb sv fr0 R).P B w C) (hC:ZCB C w B)=>Gr (lim:=8192) hb hl hat I h hB hs hr hC;obtain⟨f1,p1,k1,q1,rfl,hp1⟩:=hv.shape;refine f7 900 (ke sb rb sv fr0 R) Tryz.func78 Z Tryz.ntmps78 (np Z) hB hr hC ?_;unfold au at he |-;obtain⟨z,R1,hz1⟩:∃ z R1,jy bs 8192 R=(z,R1):=⟨_,_,rfl⟩
 rw[hz1] at he ha1 hlv hsz hszp |-;dsimp only at he ha1 hlv hsz hszp |-;by_cases h1:R1.err≠0
 ·rw[na h1];refine(ZaU∘ZC∘Zby∘ZaR∘ZS∘ZC∘Zg) ?_;refine jw (id:=3) 1 rfl (ZcZ (h:=?_));refine ju (r:=(ke sb rb sv fr0 R).res) (K:=1) L 900 rfl Z Z Z Z (fun u H C hH hle hr hC=>hszp h1 hH (hs.le hle) hr hC) (fun _ _ _ _ h=>h) ?_
  repeat (first | refine wl ?_ | refine jo ?_)
  exact db nq
 ·rw[nc h1] at he |-;have h10:=mh.1 h1;obtain⟨n,rfl,hn⟩:=hlv h10;rw[znu] at he |-;obtain⟨Y,hY⟩:∃ Y,t6 bs l n none [] [] R1=Y:=⟨_,rfl⟩
  rw[hY] at he |-;obtain⟨pa,pe,hW0⟩:∃ pa pe:Int,(if Y.2.2≠0 then ((l,R),Y.2) else if l.length+Y.1.1.1.length>4096+Y.1.1.2.length then ((l,R),((R.at_:Int),(3:Int))) else ((fe l (Y.1.1.2++Y.1.1.1),Y.1.2),((0:Int),(0:Int)))).2=(pa,pe):=⟨_,_,rfl⟩
  rw[hW0] at he |-;dsimp only at he |-;have hj0:ChJ bs l n Y 0 none [] [] R1:=⟨mf _,hY,h10,ha1,⟨fun _=>rfl,fun _=>rfl⟩,rfl,(fun _ h=>by cases h),(fun _ h=>by cases h)⟩
  refine(ZaU∘ZC∘Zby∘ZaR∘ZS∘ZC∘Zg∘Zx) ?_;refine qh (yi L 900 (ke sb rb sv R.at_ R1) (.int .i64 n) (r:=ke sb rb sv fr0 R) Z Z Z Z Z (fun u H C2 hH hle hr2 hC2=>hsz h10 hH (hs.le hle) hr2 hC2)) (Zc (h:=?_));refine v8 (r1:=xn sb [kg rb,.int .i64 R.at_] Qe) (r2:=(GRd rb sv R1).res) 900 901 rfl (xm _) ?_;refine(Zcy∘Zj∘ZbZ∘Zdg) ?_;refine vk 900 901 rfl Z (xm (GRd rb sv R1)) ?_;refine g7 5 Nr 7 rfl (g7 6 Nr 7 rfl ?_)
  refine xq (fun x:Nat×Option U×List CH×List CH×Rd×Nat=>[(0,.is (kg sb)),(3,.own (gm [f1,.pointer p1,k1,.pointer q1] tySt)),(4,.own (gm [.nilFunc,.pointer none,.nilFunc,.pointer none] tySt)),(5,.own (SlR Nr 7 x.2.2.1.length (x.2.2.1.flatMap ccs))),(6,.own (SlR Nr 7 x.2.2.2.1.length (x.2.2.2.1.flatMap ccs))),(7,.own (gm (zj3 x.2.1) tyU)),(9,.is (.int .i64 R.at_)),(20,.is (.int .i64 n)),(21,.is (.int .i64 x.1)),(900,.own (ke sb rb sv x.2.2.2.2.2 x.2.2.2.2.1).res)])
   (fun x=>ChJ bs l n Y x.1 x.2.1 x.2.2.1 x.2.2.2.1 x.2.2.2.2.1) (fun x=>n-x.1) (0,none,[],[],R1,R.at_) hj0 ⟨rfl,rfl,rfl,rfl,rfl,rfl,rfl,rfl,rfl,rfl,nm⟩ ?_
  rintro⟨i,la,a,d,R',fr⟩ hj;dsimp only at hj |-;by_cases hlt:i<n
  ·have hstep:=fun(h:Y.2.2=0)=>hj.step hlt h;obtain⟨m,hm⟩:∃ m,n-i=m+1:=⟨n-i-1,by omega⟩
   have hW:=hj.hW;rw[hm] at hW;unfold t6 at hW;have htz:=Ps (bs:=bs) (R:=R');have hta:=Aq (bs:=bs) (R:=R') hj.at_;have hRa:=hj.at_;have hfst:=hj.first;have hlen:=hj.len;have hza:=hj.za;have hzd:=hj.zd;have hsrc:=fun {w:World} {B:Heap} {C:Nat->Prop} (hB:zry B w) (hs:BsV bs fu sv B) (hr:(ke sb rb sv R'.at_ R').P B w C) (hC:ZCB C w B)=>ze2 hb hl hRa hB hs hr hC;clear hstep;generalize ge bs R'=zru at hW htz hta hsrc;obtain⟨⟨t,k⟩,R2⟩:=zru;dsimp only at hW htz hta hsrc;refine v8 (r1:=xn sb [kg rb,.int .i64 fr] Qe) (r2:=(GRd rb sv R').res) 900 901 rfl (xm _) ?_;by_cases h2:R2.err≠0
   ·rw[na h2] at hW;subst hW;rw[na h2] at hW0;cases hW0;refine(Zb5∘ZN∘Z5∘Zc) ?_;refine jw (id:=8) 6 rfl (ZbK (h:=?_));refine jz 900 901 rfl Z (xm (GRd rb sv R')) ?_;refine(ZaQ∘Zac) ?_;refine ju (r:=(ke sb rb sv fr R').res) (K:=6) L 900 rfl Z Z Z Z (fun u H C hH hle hr hC=>Oo (x:=(t,k)) (fst:=[kg rb]) (cap:=[]) Z h2 hH hr hC (fun u3 H3 C3 hH3 hle3 hr3 hC3=>hsrc hH3 ((hs.le hle).le hle3) hr3 hC3)) (fun _ _ _ _ h=>h) ?_
    repeat (first | refine wl ?_ | refine jo ?_)
    exact db nq
   ·rw[nc h2] at hW;have g1:=mh.1 h2;by_cases hte:tE t≠0
    ·rw[na hte] at hW;subst hW;rw[na (show(6:Int)≠0 by decide)] at hW0;cases hW0;refine(Zb5∘ZN∘Z5∘Zc∘Z7∘ZbK) ?_;refine jz 900 901 rfl Z (xm (GRd rb sv R')) ?_;refine ZaQ (h:=?_);refine qh (yi L 900 (ke sb rb sv R'.at_ R2) (chv t k) (r:=ke sb rb sv fr R') Z Z Z Z Z (fun u H C hH hle hr hC=>jr (x:=(t,k)) (fst:=[kg rb]) (cap:=[]) Z g1 hH hr hC (fun u3 H3 C3 hH3 hle3 hr3 hC3=>hsrc hH3 ((hs.le hle).le hle3) hr3 hC3))) (ZbW (h:=?_));refine ku 11 913 rfl fun b11=>?_;refine wn 913 rfl fun H1 hs1 _ h11=>?_;have hv1:=hv.le hs1.le;refine jw (id:=9) 5 rfl ((Za∘Zb3) ?_);refine z71 L Z (fun u H hH _=>kx htz hH) ?_;refine(Zn∘Zac) ?_;refine ju (r:=(ke sb rb sv R'.at_ R2).res) (K:=5) L 900 rfl Z Z Z Z (fun u H C hH hle hr hC=>pf hH hr hC) (fun _ _ _ _ h=>h) ?_
     repeat (first | refine wl ?_ | refine jo ?_)
     exact db hs1
    ·rw[nc hte] at hW;have g2:=mh.1 hte
     cases la with
     | none=>
      have hi0:i=0:=hfst.1 rfl;have hbt:Ng none t=true:=rfl;rw[hbt,nc T] at hW
      cases k with
      | true=>
       by_cases hm2:decide (t∈l)≠true
       ·rw[na hm2] at hW;subst hW;rw[na (show(5:Int)≠0 by decide)] at hW0;cases hW0;have g4:decide (t∈l)=false:=by cases hq:decide (t∈l)<;>simp_all
        refine(Zb5∘ZN∘Z5∘Zc∘Z7∘ZbK) ?_;refine jz 900 901 rfl Z (xm (GRd rb sv R')) ?_;refine ZaQ (h:=?_);refine qh (yi L 900 (ke sb rb sv R'.at_ R2) (chv t true) (r:=ke sb rb sv fr R') Z Z Z Z Z (fun u H C hH hle hr hC=>jr (x:=(t,true)) (fst:=[kg rb]) (cap:=[]) Z g1 hH hr hC (fun u3 H3 C3 hH3 hle3 hr3 hC3=>hsrc hH3 ((hs.le hle).le hle3) hr3 hC3))) (ZbW (h:=?_));refine ku 11 913 rfl fun b11=>?_;refine wn 913 rfl fun H1 hs1 _ h11=>?_;have hv1:=hv.le hs1.le;refine(Za3∘Zb3) ?_;refine z71 L Z (fun u H hH _=>kx htz hH) ?_;refine Zv (h:=?_);refine qh (xc L 900 (ke sb rb sv R'.at_ R2) (r:=ke sb rb sv R'.at_ R2) Z Z Z Z Z (fun u H C hH _ hr hC=>kr hH hr hC)) ((Zg∘Zci∘Zv∘Zcr∘Za6) ?_);refine qh (xc L 900 (ke sb rb sv R'.at_ R2) (r:=ke sb rb sv R'.at_ R2) Z Z Z Z Z (fun u H C hH _ hr hC=>kr hH hr hC)) (Zg (h:=?_));refine Zff (h:=?_);refine Ze2 (h:=?_);refine Zfe (h:=?_);refine ZdY (h:=?_);refine j9 (qg L (vs:=[_,_,_,_,_,_]) (qw Z h11) Z Z Z Z ⟨_,rfl⟩) Z (j9 (qe L Z Z (zp Z) Z Z Z (fun u H hH hle _=>js g4 hH (hv1.le hle))) Z (ZdY (h:=?_)));refine j9 (ql L (qw Z h11) Z Z Z Z) Z (Zfg (h:=?_));refine rq [(48,.is (kg sb)),(55,.is (.bool false)),(900,.own (ke sb rb sv R'.at_ R2).res)] J ⟨Z,Z,Z,nm⟩ (ju (r:=(ke sb rb sv R'.at_ R2).res) (K:=8) L 900 rfl Z Z Z Z (fun u H C hH hle hr hC=>pf hH hr hC) (fun _ _ _ _ h=>h) ?_)
        repeat (first | refine wl ?_ | refine jo ?_)
        exact db hs1
       ·rw[nc hm2] at hW;have g4:=mh.1 hm2;have hj2:ChJ bs l n Y (i+1) (some t) (a) (d++[(t,true)]) R2:=⟨hlt,by rw[show n-(i+1)=m by omega];exact hW,g1,hta,⟨fun h=>by(cases h),fun h=>by(cases h)⟩,by simp only[nr,zn1];omega,hza,fun c hc=>by(rcases mt.1 hc with h3 | h3;exact hzd c h3;rw[mz] at h3;subst h3;exact htz)⟩
        refine(Zb5∘ZN∘Z5∘Zc∘Z7∘ZbK) ?_;refine jz 900 901 rfl Z (xm (GRd rb sv R')) ?_;refine ZaQ (h:=?_);refine qh (yi L 900 (ke sb rb sv R'.at_ R2) (chv t true) (r:=ke sb rb sv fr R') Z Z Z Z Z (fun u H C hH hle hr hC=>jr (x:=(t,true)) (fst:=[kg rb]) (cap:=[]) Z g1 hH hr hC (fun u3 H3 C3 hH3 hle3 hr3 hC3=>hsrc hH3 ((hs.le hle).le hle3) hr3 hC3))) (ZbW (h:=?_));refine ku 11 913 rfl fun b11=>?_;refine wn 913 rfl fun H1 hs1 _ h11=>?_;have hv1:=hv.le hs1.le;refine(Za3∘Zb3) ?_;refine z71 L Z (fun u H hH _=>kx htz hH) ?_;refine Zv (h:=?_);refine qh (xc L 900 (ke sb rb sv R'.at_ R2) (r:=ke sb rb sv R'.at_ R2) Z Z Z Z Z (fun u H C hH _ hr hC=>kr hH hr hC)) ((Zg∘Zci∘Zv∘Zcr∘Za6) ?_);refine qh (xc L 900 (ke sb rb sv R'.at_ R2) (r:=ke sb rb sv R'.at_ R2) Z Z Z Z Z (fun u H C hH _ hr hC=>kr hH hr hC)) ((Zg∘ZdX∘Zm∘ZcP∘Zal∘Zbc) ?_);refine z91 L Z (fun u H hH hle=>js g4 hH (hv1.le hle)) ?_;refine(Zal∘ZZ∘Zdl) ?_;refine xx (xc L 900 (ke sb rb sv R'.at_ R2) (r:=ke sb rb sv R'.at_ R2) Z Z Z Z Z (fun u H C hH _ hr hC=>kr hH hr hC)) Z Z ((Zbh∘ZW∘Zb3∘ZaF∘Zg∘ZO∘Zz∘Zbt∘Z3∘Za2) ?_);refine qh (yt (.inl Z) Z) ((ZdW∘ZR∘Zdk) ?_);refine qh (yt (.inr Z) Z) ((ZaJ∘Zaf∘ZbR) ?_);exact w5 (x:=(i,none,a,d,R',fr)) (i+1,some t,a,d++[(t,true)],R2,R'.at_) hs1 hj2 M ⟨Z,Z,Z,Z,lg Z,Z,Z,Z,Z,Z,nm⟩
      | false=>
       by_cases hm2:decide (t∈l)≠false
       ·rw[na hm2] at hW;subst hW;rw[na (show(5:Int)≠0 by decide)] at hW0;cases hW0;have g4:decide (t∈l)=true:=by cases hq:decide (t∈l)<;>simp_all
        refine(Zb5∘ZN∘Z5∘Zc∘Z7∘ZbK) ?_;refine jz 900 901 rfl Z (xm (GRd rb sv R')) ?_;refine ZaQ (h:=?_);refine qh (yi L 900 (ke sb rb sv R'.at_ R2) (chv t false) (r:=ke sb rb sv fr R') Z Z Z Z Z (fun u H C hH hle hr hC=>jr (x:=(t,false)) (fst:=[kg rb]) (cap:=[]) Z g1 hH hr hC (fun u3 H3 C3 hH3 hle3 hr3 hC3=>hsrc hH3 ((hs.le hle).le hle3) hr3 hC3))) (ZbW (h:=?_));refine ku 11 913 rfl fun b11=>?_;refine wn 913 rfl fun H1 hs1 _ h11=>?_;have hv1:=hv.le hs1.le;refine(Za3∘Zb3) ?_;refine z71 L Z (fun u H hH _=>kx htz hH) ?_;refine Zv (h:=?_);refine qh (xc L 900 (ke sb rb sv R'.at_ R2) (r:=ke sb rb sv R'.at_ R2) Z Z Z Z Z (fun u H C hH _ hr hC=>kr hH hr hC)) ((Zg∘Zci∘Zv∘Zcr∘Za6) ?_);refine qh (xc L 900 (ke sb rb sv R'.at_ R2) (r:=ke sb rb sv R'.at_ R2) Z Z Z Z Z (fun u H C hH _ hr hC=>kr hH hr hC)) (Zg (h:=?_));refine Zff (h:=?_);refine Ze2 (h:=?_);refine Zfe (h:=?_);refine ZdY (h:=?_);refine j9 (qg L (vs:=[_,_,_,_,_,_]) (qw Z h11) Z Z Z Z ⟨_,rfl⟩) Z (j9 (qe L Z Z (zp Z) Z Z Z (fun u H hH hle _=>js g4 hH (hv1.le hle))) Z (ZdY (h:=?_)));refine j9 (ql L (qw Z h11) Z Z Z Z) Z (Zfg (h:=?_));refine rq [(48,.is (kg sb)),(55,.is (.bool false)),(900,.own (ke sb rb sv R'.at_ R2).res)] J ⟨Z,Z,Z,nm⟩ (ju (r:=(ke sb rb sv R'.at_ R2).res) (K:=8) L 900 rfl Z Z Z Z (fun u H C hH hle hr hC=>pf hH hr hC) (fun _ _ _ _ h=>h) ?_)
        repeat (first | refine wl ?_ | refine jo ?_)
        exact db hs1
       ·rw[nc hm2] at hW;have g4:=mh.1 hm2;have hj2:ChJ bs l n Y (i+1) (some t) (a++[(t,false)]) (d) R2:=⟨hlt,by rw[show n-(i+1)=m by omega];exact hW,g1,hta,⟨fun h=>by(cases h),fun h=>by(cases h)⟩,by simp only[nr,zn1];omega,fun c hc=>by(rcases mt.1 hc with h3 | h3;exact hza c h3;rw[mz] at h3;subst h3;exact htz),hzd⟩
        refine(Zb5∘ZN∘Z5∘Zc∘Z7∘ZbK) ?_;refine jz 900 901 rfl Z (xm (GRd rb sv R')) ?_;refine ZaQ (h:=?_);refine qh (yi L 900 (ke sb rb sv R'.at_ R2) (chv t false) (r:=ke sb rb sv fr R') Z Z Z Z Z (fun u H C hH hle hr hC=>jr (x:=(t,false)) (fst:=[kg rb]) (cap:=[]) Z g1 hH hr hC (fun u3 H3 C3 hH3 hle3 hr3 hC3=>hsrc hH3 ((hs.le hle).le hle3) hr3 hC3))) (ZbW (h:=?_));refine ku 11 913 rfl fun b11=>?_;refine wn 913 rfl fun H1 hs1 _ h11=>?_;have hv1:=hv.le hs1.le;refine(Za3∘Zb3) ?_;refine z71 L Z (fun u H hH _=>kx htz hH) ?_;refine Zv (h:=?_);refine qh (xc L 900 (ke sb rb sv R'.at_ R2) (r:=ke sb rb sv R'.at_ R2) Z Z Z Z Z (fun u H C hH _ hr hC=>kr hH hr hC)) ((Zg∘Zci∘Zv∘Zcr∘Za6) ?_);refine qh (xc L 900 (ke sb rb sv R'.at_ R2) (r:=ke sb rb sv R'.at_ R2) Z Z Z Z Z (fun u H C hH _ hr hC=>kr hH hr hC)) ((Zg∘ZdX∘Zm∘ZcP∘Zal∘Zbc) ?_);refine z91 L Z (fun u H hH hle=>js g4 hH (hv1.le hle)) ?_;refine(Zal∘ZZ∘Zdl) ?_;refine xx (xc L 900 (ke sb rb sv R'.at_ R2) (r:=ke sb rb sv R'.at_ R2) Z Z Z Z Z (fun u H C hH _ hr hC=>kr hH hr hC)) Z Z ((Zbh∘ZW∘Zb3∘ZaF∘Zg∘ZO∘Zz∘Zbt∘Za5∘Zap) ?_);refine qh (yt (.inl Z) Z) ((ZdW∘ZR∘Zdk) ?_);refine qh (yt (.inr Z) Z) ((ZaJ∘Zaf∘ZbR) ?_);exact w5 (x:=(i,none,a,d,R',fr)) (i+1,some t,a++[(t,false)],d,R2,R'.at_) hs1 hj2 M ⟨Z,Z,Z,lg Z,Z,Z,Z,Z,Z,Z,nm⟩
     | some y=>
      have hi0:i≠0:=fun h=>by have:=hfst.2 h;cases this
      by_cases hbh:Ng (some y) t=false
      ·rw[na hbh] at hW;subst hW;rw[na (show(18:Int)≠0 by decide)] at hW0;cases hW0;have g3:¬ jh y t<0:=of_decide_eq_false hbh;refine(Zb5∘ZN∘Z5∘Zc∘Z7∘ZbK) ?_;refine jz 900 901 rfl Z (xm (GRd rb sv R')) ?_;refine ZaQ (h:=?_);refine qh (yi L 900 (ke sb rb sv R'.at_ R2) (chv t k) (r:=ke sb rb sv fr R') Z Z Z Z Z (fun u H C hH hle hr hC=>jr (x:=(t,k)) (fst:=[kg rb]) (cap:=[]) Z g1 hH hr hC (fun u3 H3 C3 hH3 hle3 hr3 hC3=>hsrc hH3 ((hs.le hle).le hle3) hr3 hC3))) (ZbW (h:=?_));refine ku 11 913 rfl fun b11=>?_;refine wn 913 rfl fun H1 hs1 _ h11=>?_;have hv1:=hv.le hs1.le;refine(Za3∘Zb3) ?_;refine z71 L Z (fun u H hH _=>kx htz hH) ?_;refine Zv (h:=?_);refine qh (xc L 900 (ke sb rb sv R'.at_ R2) (r:=ke sb rb sv R'.at_ R2) Z Z Z Z Z (fun u H C hH _ hr hC=>kr hH hr hC)) (Zg (h:=?_));refine jw (id:=10) 10 rfl ((Zb∘Zn∘Za∘Zaq∘Zb3) ?_);refine z71 L Z (fun u H hH _=>wv (a:=y) (b:=t) hH) ?_;refine(Z6∘Zi∘Zac) ?_;refine ju (r:=(ke sb rb sv R'.at_ R2).res) (K:=10) L 900 rfl Z Z Z Z (fun u H C hH hle hr hC=>pf hH hr hC) (fun _ _ _ _ h=>h) ?_
       repeat (first | refine wl ?_ | refine jo ?_)
       exact db hs1
      ·rw[nc hbh] at hW;have g3:jh y t<0:=by unfold Ng at hbh;exact Decidable.not_not.1 fun h=>hbh (decide_eq_false h)
       cases k with
       | true=>
        by_cases hm2:decide (t∈l)≠true
        ·rw[na hm2] at hW;subst hW;rw[na (show(5:Int)≠0 by decide)] at hW0;cases hW0;have g4:decide (t∈l)=false:=by cases hq:decide (t∈l)<;>simp_all
         refine(Zb5∘ZN∘Z5∘Zc∘Z7∘ZbK) ?_;refine jz 900 901 rfl Z (xm (GRd rb sv R')) ?_;refine ZaQ (h:=?_);refine qh (yi L 900 (ke sb rb sv R'.at_ R2) (chv t true) (r:=ke sb rb sv fr R') Z Z Z Z Z (fun u H C hH hle hr hC=>jr (x:=(t,true)) (fst:=[kg rb]) (cap:=[]) Z g1 hH hr hC (fun u3 H3 C3 hH3 hle3 hr3 hC3=>hsrc hH3 ((hs.le hle).le hle3) hr3 hC3))) (ZbW (h:=?_));refine ku 11 913 rfl fun b11=>?_;refine wn 913 rfl fun H1 hs1 _ h11=>?_;have hv1:=hv.le hs1.le;refine(Za3∘Zb3) ?_;refine z71 L Z (fun u H hH _=>kx htz hH) ?_;refine Zv (h:=?_);refine qh (xc L 900 (ke sb rb sv R'.at_ R2) (r:=ke sb rb sv R'.at_ R2) Z Z Z Z Z (fun u H C hH _ hr hC=>kr hH hr hC)) ((Zg∘Zci∘Zn∘Za∘Zaq∘Zb3) ?_);refine z71 L Z (fun u H hH _=>wv (a:=y) (b:=t) hH) ?_;refine(ZI∘Zi) ?_;refine qh (xc L 900 (ke sb rb sv R'.at_ R2) (r:=ke sb rb sv R'.at_ R2) Z Z Z Z Z (fun u H C hH _ hr hC=>kr hH hr hC)) (Zg (h:=?_));refine Zff (h:=?_);refine Ze2 (h:=?_);refine Zfe (h:=?_);refine ZdY (h:=?_);refine j9 (qg L (vs:=[_,_,_,_,_,_]) (qw Z h11) Z Z Z Z ⟨_,rfl⟩) Z (j9 (qe L Z Z (zp Z) Z Z Z (fun u H hH hle _=>js g4 hH (hv1.le hle))) Z (ZdY (h:=?_)));refine j9 (ql L (qw Z h11) Z Z Z Z) Z (Zfg (h:=?_));refine rq [(48,.is (kg sb)),(55,.is (.bool false)),(900,.own (ke sb rb sv R'.at_ R2).res)] J ⟨Z,Z,Z,nm⟩ (ju (r:=(ke sb rb sv R'.at_ R2).res) (K:=8) L 900 rfl Z Z Z Z (fun u H C hH hle hr hC=>pf hH hr hC) (fun _ _ _ _ h=>h) ?_)
         repeat (first | refine wl ?_ | refine jo ?_)
         exact db hs1
        ·rw[nc hm2] at hW;have g4:=mh.1 hm2;have hj2:ChJ bs l n Y (i+1) (some t) (a) (d++[(t,true)]) R2:=⟨hlt,by rw[show n-(i+1)=m by omega];exact hW,g1,hta,⟨fun h=>by(cases h),fun h=>by(cases h)⟩,by simp only[nr,zn1];omega,hza,fun c hc=>by(rcases mt.1 hc with h3 | h3;exact hzd c h3;rw[mz] at h3;subst h3;exact htz)⟩
         refine(Zb5∘ZN∘Z5∘Zc∘Z7∘ZbK) ?_;refine jz 900 901 rfl Z (xm (GRd rb sv R')) ?_;refine ZaQ (h:=?_);refine qh (yi L 900 (ke sb rb sv R'.at_ R2) (chv t true) (r:=ke sb rb sv fr R') Z Z Z Z Z (fun u H C hH hle hr hC=>jr (x:=(t,true)) (fst:=[kg rb]) (cap:=[]) Z g1 hH hr hC (fun u3 H3 C3 hH3 hle3 hr3 hC3=>hsrc hH3 ((hs.le hle).le hle3) hr3 hC3))) (ZbW (h:=?_));refine ku 11 913 rfl fun b11=>?_;refine wn 913 rfl fun H1 hs1 _ h11=>?_;have hv1:=hv.le hs1.le;refine(Za3∘Zb3) ?_;refine z71 L Z (fun u H hH _=>kx htz hH) ?_;refine Zv (h:=?_);refine qh (xc L 900 (ke sb rb sv R'.at_ R2) (r:=ke sb rb sv R'.at_ R2) Z Z Z Z Z (fun u H C hH _ hr hC=>kr hH hr hC)) ((Zg∘Zci∘Zn∘Za∘Zaq∘Zb3) ?_);refine z71 L Z (fun u H hH _=>wv (a:=y) (b:=t) hH) ?_;refine(ZI∘Zi) ?_;refine qh (xc L 900 (ke sb rb sv R'.at_ R2) (r:=ke sb rb sv R'.at_ R2) Z Z Z Z Z (fun u H C hH _ hr hC=>kr hH hr hC)) ((Zg∘ZdX∘Zm∘ZcP∘Zal∘Zbc) ?_);refine z91 L Z (fun u H hH hle=>js g4 hH (hv1.le hle)) ?_;refine(Zal∘ZZ∘Zdl) ?_;refine xx (xc L 900 (ke sb rb sv R'.at_ R2) (r:=ke sb rb sv R'.at_ R2) Z Z Z Z Z (fun u H C hH _ hr hC=>kr hH hr hC)) Z Z ((Zbh∘ZW∘Zb3∘ZaF∘Zg∘ZO∘Zz∘Zbt∘Z3∘Za2) ?_);refine qh (yt (.inl Z) Z) ((ZdW∘ZR∘Zdk) ?_);refine qh (yt (.inr Z) Z) ((ZaJ∘Zaf∘ZbR) ?_);exact w5 (x:=(i,some y,a,d,R',fr)) (i+1,some t,a,d++[(t,true)],R2,R'.at_) hs1 hj2 M ⟨Z,Z,Z,Z,lg Z,Z,Z,Z,Z,Z,nm⟩
       | false=>
        by_cases hm2:decide (t∈l)≠false
        ·rw[na hm2] at hW;subst hW;rw[na (show(5:Int)≠0 by decide)] at hW0;cases hW0;have g4:decide (t∈l)=true:=by cases hq:decide (t∈l)<;>simp_all
         refine(Zb5∘ZN∘Z5∘Zc∘Z7∘ZbK) ?_;refine jz 900 901 rfl Z (xm (GRd rb sv R')) ?_;refine ZaQ (h:=?_);refine qh (yi L 900 (ke sb rb sv R'.at_ R2) (chv t false) (r:=ke sb rb sv fr R') Z Z Z Z Z (fun u H C hH hle hr hC=>jr (x:=(t,false)) (fst:=[kg rb]) (cap:=[]) Z g1 hH hr hC (fun u3 H3 C3 hH3 hle3 hr3 hC3=>hsrc hH3 ((hs.le hle).le hle3) hr3 hC3))) (ZbW (h:=?_));refine ku 11 913 rfl fun b11=>?_;refine wn 913 rfl fun H1 hs1 _ h11=>?_;have hv1:=hv.le hs1.le;refine(Za3∘Zb3) ?_;refine z71 L Z (fun u H hH _=>kx htz hH) ?_;refine Zv (h:=?_);refine qh (xc L 900 (ke sb rb sv R'.at_ R2) (r:=ke sb rb sv R'.at_ R2) Z Z Z Z Z (fun u H C hH _ hr hC=>kr hH hr hC)) ((Zg∘Zci∘Zn∘Za∘Zaq∘Zb3) ?_);refine z71 L Z (fun u H hH _=>wv (a:=y) (b:=t) hH) ?_;refine(ZI∘Zi) ?_;refine qh (xc L 900 (ke sb rb sv R'.at_ R2) (r:=ke sb rb sv R'.at_ R2) Z Z Z Z Z (fun u H C hH _ hr hC=>kr hH hr hC)) (Zg (h:=?_));refine Zff (h:=?_);refine Ze2 (h:=?_);refine Zfe (h:=?_);refine ZdY (h:=?_);refine j9 (qg L (vs:=[_,_,_,_,_,_]) (qw Z h11) Z Z Z Z ⟨_,rfl⟩) Z (j9 (qe L Z Z (zp Z) Z Z Z (fun u H hH hle _=>js g4 hH (hv1.le hle))) Z (ZdY (h:=?_)));refine j9 (ql L (qw Z h11) Z Z Z Z) Z (Zfg (h:=?_));refine rq [(48,.is (kg sb)),(55,.is (.bool false)),(900,.own (ke sb rb sv R'.at_ R2).res)] J ⟨Z,Z,Z,nm⟩ (ju (r:=(ke sb rb sv R'.at_ R2).res) (K:=8) L 900 rfl Z Z Z Z (fun u H C hH hle hr hC=>pf hH hr hC) (fun _ _ _ _ h=>h) ?_)
         repeat (first | refine wl ?_ | refine jo ?_)
         exact db hs1
        ·rw[nc hm2] at hW;have g4:=mh.1 hm2;have hj2:ChJ bs l n Y (i+1) (some t) (a++[(t,false)]) (d) R2:=⟨hlt,by rw[show n-(i+1)=m by omega];exact hW,g1,hta,⟨fun h=>by(cases h),fun h=>by(cases h)⟩,by simp only[nr,zn1];omega,fun c hc=>by(rcases mt.1 hc with h3 | h3;exact hza c h3;rw[mz] at h3;subst h3;exact htz),hzd⟩
         refine(Zb5∘ZN∘Z5∘Zc∘Z7∘ZbK) ?_;refine jz 900 901 rfl Z (xm (GRd rb sv R')) ?_;refine ZaQ (h:=?_);refine qh (yi L 900 (ke sb rb sv R'.at_ R2) (chv t false) (r:=ke sb rb sv fr R') Z Z Z Z Z (fun u H C hH hle hr hC=>jr (x:=(t,false)) (fst:=[kg rb]) (cap:=[]) Z g1 hH hr hC (fun u3 H3 C3 hH3 hle3 hr3 hC3=>hsrc hH3 ((hs.le hle).le hle3) hr3 hC3))) (ZbW (h:=?_));refine ku 11 913 rfl fun b11=>?_;refine wn 913 rfl fun H1 hs1 _ h11=>?_;have hv1:=hv.le hs1.le;refine(Za3∘Zb3) ?_;refine z71 L Z (fun u H hH _=>kx htz hH) ?_;refine Zv (h:=?_);refine qh (xc L 900 (ke sb rb sv R'.at_ R2) (r:=ke sb rb sv R'.at_ R2) Z Z Z Z Z (fun u H C hH _ hr hC=>kr hH hr hC)) ((Zg∘Zci∘Zn∘Za∘Zaq∘Zb3) ?_);refine z71 L Z (fun u H hH _=>wv (a:=y) (b:=t) hH) ?_;refine(ZI∘Zi) ?_;refine qh (xc L 900 (ke sb rb sv R'.at_ R2) (r:=ke sb rb sv R'.at_ R2) Z Z Z Z Z (fun u H C hH _ hr hC=>kr hH hr hC)) ((Zg∘ZdX∘Zm∘ZcP∘Zal∘Zbc) ?_);refine z91 L Z (fun u H hH hle=>js g4 hH (hv1.le hle)) ?_;refine(Zal∘ZZ∘Zdl) ?_;refine xx (xc L 900 (ke sb rb sv R'.at_ R2) (r:=ke sb rb sv R'.at_ R2) Z Z Z Z Z (fun u H C hH _ hr hC=>kr hH hr hC)) Z Z ((Zbh∘ZW∘Zb3∘ZaF∘Zg∘ZO∘Zz∘Zbt∘Za5∘Zap) ?_);refine qh (yt (.inl Z) Z) ((ZdW∘ZR∘Zdk) ?_);refine qh (yt (.inr Z) Z) ((ZaJ∘Zaf∘ZbR) ?_);exact w5 (x:=(i,some y,a,d,R',fr)) (i+1,some t,a++[(t,false)],d,R2,R'.at_) hs1 hj2 M ⟨Z,Z,Z,lg Z,Z,Z,Z,Z,Z,Z,nm⟩
  ·obtain rfl:i=n:=by have:=hj.hi;omega
   have hW:=hj.hW;rw[zoq] at hW;have hW2:(((a,d),R'),((0:Int),(0:Int)))=Y:=hW;subst hW2;rw[nc (fun h=>h rfl)] at hW0;dsimp only at hW0;by_cases h3:l.length+a.length>4096+d.length
   ·rw[na h3] at hW0;cases hW0;have hlen:=hj.len;refine v8 (r1:=xn sb [kg rb,.int .i64 fr] Qe) (r2:=(GRd rb sv R').res) 900 901 rfl (xm _) ?_;refine fj 5 rfl ?_;refine Cf 6 931 _ Z SlR.shape fun z6 hz6=>?_;obtain⟨p6,c6,rfl⟩:=hz6;refine(Zb5∘ZbB∘ZaW∘Zb∘Zaa) ?_;refine xg (yj L (q:=900) (cs':=[kg rb,.int .i64 R.at_]) Z Z Z Z Z) (Zg (h:=?_));refine jw (id:=18) 10 rfl ((Za∘Zcf) ?_);refine z71 L Z (fun u H hH hle=>f8 (l:=l) Z hH (hv.le hle)) ?_;refine(Zl∘ZcQ∘Za∘Za1∘ZcM∘ZcG) ?_;refine jz 900 901 rfl Z (xm (GRd rb sv R')) ?_;refine Zac (h:=?_);refine ju (r:=(ke sb rb sv R.at_ R').res) (K:=10) L 900 rfl Z Z Z Z (fun u H C hH hle hr hC=>pf hH hr hC) (fun _ _ _ _ h=>h) ?_
    repeat (first | refine wl ?_ | refine jo ?_)
    exact db nq
   ·rw[nc h3] at hW0;cases hW0;exact ni Z he
def zaw{l:List U}:∀ {k:Nat} {la:Option U} {a d:List CH} {R:Rd},R.at_<=bs.length->(t6 bs l k la a d R).1.2.at_<=bs.length
 | 0,_,_,_,_,h=>h
 | k+1,la,a,d,R,h=>by
  unfold t6;split
  ·exact h
  ·split
   ·exact h
   ·split
    ·exact h
    ·split
     ·exact h
     ·exact zaw (Aq h)
def Kc{l:List U}{R:Rd}(h:R.at_<=bs.length):(au bs l R).1.2.at_<=bs.length:=by
 have h1:=dt (bs:=bs) (lim:=8192) h;unfold au;split
 ·exact h
 ·split
  ·exact h
  ·split
   ·exact h
   ·exact zaw h1
def zd3{l:List U}{R:Rd}(h:l.length<=4096):(au bs l R).1.1.length<=4096:=by
 unfold au;split
 ·exact h
 ·split
  ·exact h
  ·split
   ·exact h
   ·exact Ki _ h
def Rp{l:List U}:∀ {k:Nat} {la:Option U} {a d:List CH} {R:Rd},R.err=0->(t6 bs l k la a d R).2.2=0->(t6 bs l k la a d R).1.2.err=0
 | 0,_,_,_,_,h,_=>h
 | k+1,la,a,d,R,h,he=>by
  unfold t6 at he |-;by_cases h1:(ge bs R).2.err≠0
  ·rw[na h1] at he;exact ni he h1
  ·rw[nc h1] at he |-;by_cases h2:tE (ge bs R).1.1≠0
   ·rw[na h2] at he;exact ni he (show(6:Int)≠0 by decide)
   ·rw[nc h2] at he |-;by_cases h3:Ng la (ge bs R).1.1=false
    ·rw[na h3] at he;exact ni he (show(18:Int)≠0 by decide)
    ·rw[nc h3] at he |-;by_cases h4:decide ((ge bs R).1.1∈l)≠(ge bs R).1.2
     ·rw[na h4] at he;exact ni he (show(5:Int)≠0 by decide)
     ·rw[nc h4] at he |-;exact Rp (mh.1 h1) he
def Kb{l:List U}{R:Rd}(he:(au bs l R).2.2=0):(au bs l R).1.2.err=0:=by
 unfold au at he |-;by_cases h1:(jy bs 8192 R).2.err≠0
 ·rw[na h1] at he;exact ni he h1
 ·rw[nc h1] at he |-;split at he
  ·rename_i h2;exact ni he h2
  ·rename_i h2;rw[nc h2];split at he
   ·exact ni he (show(3:Int)≠0 by decide)
   ·rename_i h3;rw[nc h3];exact Rp (mh.1 h1) (mh.1 h2)
def ldW(bs:List Nat):Nat->Nat->List U->List (Int×List U)->List Int->Rd->((List (Int×List U)×List Int)×Rd)×(Int×Int)
 | 0,_,_,zs,P,R=>(((zs,P),R),(0,0))
 | k+1,last,s,zs,P,R=>
  if (p9 bs R).2.err≠0 then (((zs,P),R),(((p9 bs R).2.bad:Int),(p9 bs R).2.err))
  else if ¬ (0<(p9 bs R).1/\(p9 bs R).1<=18446744073709551615-last) then (((zs,P),R),((R.at_:Int),5))
  else if (jy bs 4096 (p9 bs R).2).2.err≠0 then (((zs,P),R),(((jy bs 4096 (p9 bs R).2).2.bad:Int),(jy bs 4096 (p9 bs R).2).2.err))
  else if (au bs s (jy bs 4096 (p9 bs R).2).2).2.2≠0 then (((zs,P),R),(au bs s (jy bs 4096 (p9 bs R).2).2).2)
  else ldW bs k (last+(p9 bs R).1) (au bs s (jy bs 4096 (p9 bs R).2).2).1.1 (zs++[(((last+(p9 bs R).1:Nat):Int),(au bs s (jy bs 4096 (p9 bs R).2).2).1.1)]) (P++List.replicate (jy bs 4096 (p9 bs R).2).1.toNat ((last+(p9 bs R).1:Nat):Int)) (au bs s (jy bs 4096 (p9 bs R).2).2).1.2
def ldF(bs:List Nat):(List (Int×List U)×List Int)×(Int×Int):=
 if (jy bs 1024 ⟨0,0,0⟩).2.err≠0 then (([],[]),(((jy bs 1024 ⟨0,0,0⟩).2.bad:Int),(jy bs 1024 ⟨0,0,0⟩).2.err))
 else if (jy bs 1024 ⟨0,0,0⟩).1=0 then (([],[]),(0,5))
 else if (ldW bs (jy bs 1024 ⟨0,0,0⟩).1.toNat 0 [] [] [] (jy bs 1024 ⟨0,0,0⟩).2).2.2≠0 then (([],[]),(ldW bs (jy bs 1024 ⟨0,0,0⟩).1.toNat 0 [] [] [] (jy bs 1024 ⟨0,0,0⟩).2).2)
 else if (ew bs (ldW bs (jy bs 1024 ⟨0,0,0⟩).1.toNat 0 [] [] [] (jy bs 1024 ⟨0,0,0⟩).2).1.2).2≠0 then (([],[]),(((ew bs (ldW bs (jy bs 1024 ⟨0,0,0⟩).1.toNat 0 [] [] [] (jy bs 1024 ⟨0,0,0⟩).2).1.2).1:Int),(ew bs (ldW bs (jy bs 1024 ⟨0,0,0⟩).1.toNat 0 [] [] [] (jy bs 1024 ⟨0,0,0⟩).2).1.2).2))
 else ((ldW bs (jy bs 1024 ⟨0,0,0⟩).1.toNat 0 [] [] [] (jy bs 1024 ⟨0,0,0⟩).2).1.1,(0,0))
end Go.V.L11
namespace Go.V.L10
def T8{L:List Int}{r:Int}(hn:0<n):jl (L++List.replicate n r)=jl (L++[r]):=dj lj (di _) (di _) fun z=>by
 rw[vt,vt,mt,mt,zrc,mz];constructor
 ·rintro(h | h)
  ·exact .inl h
  ·exact .inr h.2
 ·rintro(h | h)
  ·exact .inl h
  ·exact .inr ⟨by omega,h⟩
def Da{L:List Int}{r:Int}(hn:0<n)(h:r∉L):ko (L++List.replicate n r)=Pi (ko L) (Kr cP r (jl L)) (r,(n:Int)):=by
 have key:∀ l:List Int,(∀ x∈l,x∈L)->l.map (fun x=>(x,((L++List.replicate n r).count x:Int)))=l.map fun x=>(x,(L.count x:Int)):=fun l hl=>zpr fun x hx=>by
  have hxr:x≠r:=fun e=>h (e ▸ hl x hx);simp [zo0,List.count_replicate,hxr.symm]
 unfold ko Pi;rw[T8 hn,T7 h,znp,mq,zpe,zpv,<-zpe,<-zpv,key _ fun x hx=>vt.1 (zqf hx),key _ fun x hx=>vt.1 (zq6 hx),zpe,zpv];congr 2;simp [zo0,zq9.2 h]
attribute [local irreducible] V N X VO Par StepOK Has Ret RetL RetO RetT ky RetX Src
def Uf{L0:List Int}{r:Int}{t:Nat}(h:¬ r∈jl L0)(hz2:(ko L0).length<=100000){s:Value}(hB:zry B w)(hv:PsV (ko L0) s B):
  Ret zrz 88 [pnv s t,.int .u64 r] w B (fun v _=>v=.int .i64 0):=by
 have h1:=iw (r:=r) (t:=t) hz2 hB hv
 rwa [zq9.2 fun hm=>h (vt.2 hm)] at h1
def Yk{L0:List Int}{r:Int}(hr:r≠0)(hn0:0<n)(hn:n<=4096)(hnew:r∉L0)(hz2:(ko L0).length<1024)(hz:L0.length<=1000000000000){s:Value}(hB:zry B w)(hv:PsV (ko L0) s B):
  Ret zrz 77 [pnv s L0.length,.int .u64 r,.int .i64 n] w B (zng (L0++List.replicate n r) 0):=by
 have hm:¬ r∈jl L0:=fun h=>hnew (vt.1 h);have hws:IntKind.i64.wrap (4096-0)=4096:=T;have hwt:IntKind.i64.wrap ((L0.length:Int)+(n:Int))=((L0++List.replicate n r).length:Nat):=by rw[nr,zro];exact(xd I I).trans I
 have hwc:IntKind.i64.wrap (0+(n:Int))=(n:Int):=(xd I I).trans I;have e1:=Da (L:=L0) hn0 hnew;obtain⟨p,c,rfl⟩:=jx hv;have hpl:=ze4 (L0:=L0) r;have hf:decide (r∈jl L0)=false:=ng hm;generalize hat:Kr cP r (jl L0)=at_ at *;have e2:ko (L0++List.replicate n r)=(Pi (ko L0) at_ (r,0)).set at_ (r,(n:Int)):=by rw[zdp hpl];exact e1
 have hp:=zho (x:=(r,(0:Int))) hpl;have hpi:=get_lt hp;have hil:=Dv (x:=(r,(0:Int))) hpl;refine yo Tryz.func77 Z Tryz.ntmps77 (np Z) hB ((Z0∘ZC∘Zc∘Zae∘Z9∘Za∘Z6∘Zbx∘Zx∘Zn∘Zbx∘Zak∘Zn∘Zh∘Zas∘Zau∘Zcl∘ZU∘Zd8∘Za) ?_);refine z71 L Z (fun u H hH hle=>hf ▸ hat ▸ D6 (L0:=L0) (t:=L0.length) I hH (hv.le hle)) ?_;refine(ZH∘Zb1∘ZaM∘Zd8∘Za) ?_;refine z71 L Z (fun u H hH hle=>Uf (L0:=L0) (t:=L0.length) hm I hH (hv.le hle)) ?_;refine(Zat∘Zan∘Zb∘Zw∘Za∘Z8∘Za1∘Zn∘Zi∘ZaT∘Zbf∘Z8) ?_;refine z7 (uk L Z Z (zp Z) Z Z Z (fun u H hH hle _=>Tc I hH (hv.le hle))) Z (qh (yt (.inr Z) Z) ((Zam∘ZG∘Za∘Zw∘Z3∘ZW) ?_));refine qh (yt (.inl Z) Z) (Zb (h:=?_));refine z7 (yz (cs:=[_,_]) Z Z zlx Z Z) Z (ZR (h:=?_));refine qh (Xy L (q:=51) Z Z Z Z Z (fun u H C x hH hle hx hC v2 hv2=>T4 (y:=(r,0)) hpl I hH hv2 hx hC)) (qh (yt (.inr Z) Z) (Zg (h:=?_)));rw[<-hil];refine El 10 900 rfl (fun h0 _=>by omega) fun b cap rest hl hmc hcm hcl=>?_;obtain⟨tl,hld⟩:=zls hp rest;have hst:=zjb hp (n:Int) rest;have hbl:=zjc hpi rest;refine(ZO∘Zb∘ZeB∘Zz) ?_;refine y9 (qk L (q:=900) Z Z Z hld) ((Zar∘ZeB∘Zz) ?_);refine xg (yj L (q:=900) Z Z hbl Z hst) (Zg (h:=?_));have hln:(ko (L0++List.replicate n r)).length=(Pi (ko L0) at_ (r,0)).length:=by rw[e2,zqj]
 rw[<-e2];refine da (s:=2) (xs:=(ko (L0++List.replicate n r)).flatMap pnc) (rest:=rest) 10 900 rfl Z Z (by rw[rp,hln]) hmc hcm (by rw[nr,rp,hln,<-rp,<-nr];exact hcl) ?_;refine zkv 10 rfl fun x H hs _ hsw=>?_;have hsv:PsV (ko (L0++List.replicate n r)) x H:=by unfold PsV;rw[hln];exact hsw.toV
 obtain⟨p2,c2,rfl⟩:=jx hsv;refine(ZbL∘Z8∘Zar) ?_;refine z7 (yz (cs:=[_,_]) Z Z zl2 Z Z) Z (ZaV (h:=?_));refine yl L (rs:=[.cell 6 112,.tmp 7]) Z (fun _ _ h=>h) hs fun u H hH hle=>?_;exact⟨_,qy Z,rfl,_,rfl,hsv.le hle⟩
end Go.V.L10
end
