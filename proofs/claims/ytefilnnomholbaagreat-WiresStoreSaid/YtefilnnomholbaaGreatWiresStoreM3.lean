/- Texts, part 3. -/
import Derived.Test.YtefilnnomholbaaGreatWiresStoreM2
import Derived.Lib.Builder
import Derived.Lib.AppendStr
import Derived.Lib.IndexMore
set_option linter.unusedVariables false
set_option linter.unusedSimpArgs false
set_option maxRecDepth 20000
set_option maxHeartbeats 8000000
set_option linter.defProp false
open Go.Proofs Go.RowKit
section
variable{a b c s str:ByteArray}{kd:Go.IntKind}{B H:Go.V.Heap}{P:Go.Program}{O:Go.V.Boxes}{cf i k n off q wb:Nat}{ops:Array Go.Oper}{κ:Go.V.Kap}{d fu:Bool}{t' ty:Go.TypeId}{pos:String}{aft:Array Go.Edge}{g:Option (Nat×Bool)}{u w:Go.World}{parts:Array (Nat×Go.Operand)}{places:List (Nat×Nat)}{caps cs xs z:List Go.Value}{vs:List (Nat×Go.Value)}{r:ByteArray×ByteArray×ByteArray×Int}{root v va vb:Go.Value}{e f:Int}{x y:Go.Operand}{bs:List Nat}{C:Nat->Prop}{φ ψ:Go.Value->Go.V.Heap->Prop}{fr:Nat×Nat}{p:Option Go.Addr}{zwd α:Type}{A Y:Prop}
namespace Go.V
def F5{X:Type}(vf:X->Value)(g:X->GR):Res where
 P v H u C:=∃ x,v=vf x/\(g x).P H u C
 st:=fun⟨x,h1,h2⟩ a b c d=>⟨x,h1,(g x).st h2 a b c d⟩
abbrev zeo{X:Type}(vf:X->Value)(g:X->GR)(ty:TypeId):Res:=F5 (fun p:Nat×X=>.pointer (some ⟨p.1,0,none⟩)) fun p=>gz (xd p.1 (ja (vf p.2)) ty) (g p.2)
abbrev zo0{V:Type}(kd:IntKind)(vc:V->Value)(l:List (Int×V)):Res:=F5 (fun m:Nat=>.map (some m)) fun m=>zph m kd vc l
def MapVis{V:Type}(b:Nat)(kd:IntKind)(vc:V->Value)(l:List (Int×V))(H:Heap):Prop:=∃ es ck,H b=some (.map es ck)/\MiE kd vc l es.toList
def MapVis.le{V:Type}{b:Nat}{vc:V->Value}{l:List (Int×V)}{H':Heap}(h:MapVis b kd vc l H)(hle:H.Le H'):MapVis b kd vc l H':=let ⟨es,ck,h1,h2⟩:=h;⟨es,ck,hle _ _ h1,h2⟩
section
variable  {F:Fr}      {d:Nat}     {Q:Exit->Act->World->Prop} {a:Act}  {os:List Oper}
def N8{t:TypeId}{a:Act}{fp:Nat->Nat->Prop}(e:Env F B O κ ⟨some d,.build t parts,ty,pos,aft,g⟩ a u H fp)
  (hp:PL P t places z) (hv:evP κ parts.toList=some vs) (hc:An places z vs=some cs):(execOp a.eval ⟨some d,.build t parts,ty,pos,aft,g⟩).run P u=.ok (.value (.agg cs.toArray)) u:=by
 have hm:=Fl e parts.toList vs (fun p hp'=>by simp [Op.operands];exact⟨p.1,by simpa using hp'⟩) hv;obtain⟨zv,hz1,hz2⟩:=hp.zr
 have hbt:P.built t vs=some cs.toArray:=by
  have hpl:=hp.pl;unfold plI at hpl;unfold zrI at hz1;split at hz1
  ·rename_i it hit;unfold Program.built;split at hpl
   ·rename_i fs hu;simp only[hit,hu,hz1,hpl];rw[vg,hz2];exact f0 (fun i p h=>by simpa using h) vs z cs hc
   ·rename_i m el hu;split at hpl
    ·rename_i ie hie;simp only[hit,hu,hz1,hie];cases hpl;rw[vg,hz2]
     exact f0 (fun i p h=>by
      rw[zr8] at h
      cases hr:(List.range m)[i]? with
      | none=>rw[hr] at h;cases h
      | some j=>
       rw[hr] at h
       have:j=i:=by
        have:=zs2.1 hr;obtain⟨h1,h2⟩:=this;simpa using h2.symm
       subst this;simpa using h) vs z cs hc
    ·cases hpl
   ·cases hpl
  ·cases hz1
 have hr:=run_build (P:=P) u t vs.toArray cs.toArray (by simpa using hbt)
 have harr:(parts.map fun(p:Nat×Operand)=>(p.1,a.eval p.2))=vs.toArray:=by
  rw[<-hm,<-zr9,ztp]
 simp only[execOp,nw];show Result.andThen ((Instr.build t (parts.map fun(p:Nat×Operand)=>(p.1,a.eval p.2))).run P u) _=_;rw[harr,hr];rfl
def Bm{X:Type}{vf:X->Value}{gg:X->GR}{t:TypeId}(vs:X->List (Nat×Value))(cs:X->List Value)(hq:κ q=some (.own (F5 vf gg)))(hn:Nat.blt d n=true)(hg:gK ops κ ⟨some d,.build t parts,ty,pos,aft,g⟩=some true)
  (hne:Nat.beq q d=false) (hp:PL P t places z) (hv:∀ x,evP (upd κ q (.is (vf x))) parts.toList=some (vs x)) (hc:∀ x,An places z (vs x)=some (cs x)):StepOK2 P F B n ops O κ ⟨some d,.build t parts,ty,pos,aft,g⟩ q lh d (.own (F5 (fun x=>.agg (cs x).toArray) gg)):=by
 rintro κ' a u hlk hks ⟨H,fp,hh⟩;unfold After;rw[na (xn hh hlk hg)];have hk':κ' q=some (.own (F5 vf gg)):=hks.trans hq;obtain⟨⟨x,hx,hown⟩,hM⟩:=hh.slot q _ hk'
 have e:=(hh.name q).env (κ:=upd κ q (.is (vf x))) (ops:=ops) (o:=⟨some d,.build t parts,ty,pos,aft,g⟩) fun s hs=>by
  by_cases h:s=q
  ·subst h;rw[xq,xq,hx]
  ·rw[xk _ _ h,xk _ _ h];exact hlk s hs
 rw[N8 e hp (hv x) (hc x)];simp only[Upon];exact⟨H,_,hh.usePut (C:=fp q) hk' ⟨Keep.refl _ _,hh.sub,mw _,fun _ _ _=>rfl⟩ (by simp [Act.put]) Z (fun t ht=>xy ht) (by rw[kg (by rw[hh.size];exact zn hn)];exact⟨x,rfl,hown⟩) fun k hk=>⟨.inl hk,(hM k hk).1,(hM k hk).2.1⟩⟩
def zf8{X:Type}{vf:X->Value}{gg:X->GR}{t:TypeId}(hq:κ q=some (.own (F5 vf gg)))(hn:Nat.blt d n=true)(hg:gK ops κ ⟨some d,.box t (.tmp q),ty,pos,aft,g⟩=some true)
  (hne:Nat.beq q d=false):StepOK2 P F B n ops O κ ⟨some d,.box t (.tmp q),ty,pos,aft,g⟩ q lh d (.own (zeo vf gg t)):=by
 rintro κ' a u hlk hks ⟨H,fp,hh⟩;unfold After;rw[na (xn hh hlk hg)];have hk':κ' q=some (.own (F5 vf gg)):=hks.trans hq;obtain⟨⟨x,hx,hown⟩,hM⟩:=hh.slot q _ hk'
 have hrun:(execOp a.eval ⟨some d,.box t (.tmp q),ty,pos,aft,g⟩).run P u=.ok (.value (.pointer (some ⟨u.heap.size,0,none⟩))) (u.alloc (.cells (ja (vf x)).toArray t)):=by
  simp [execOp,hx,Instr.box,newVar,newRow,vg]
 rw[hrun];simp only[Upon]
 have hgr:Grow (fp q) u H (u.alloc (.cells (ja (vf x)).toArray t)) H:=by
  have h1:=Grow.hid hh.sub (.cells (ja (vf x)).toArray t);exact⟨⟨h1.keep.os,h1.keep.tape,h1.keep.output,h1.keep.size,fun k hk _=>h1.keep.block k hk (fun h=>h),h1.keep.dr⟩,h1.sub,h1.le,fun k hk _=>h1.fresh k hk (fun h=>h)⟩
 have hsz:u.heap.size<(u.alloc (.cells (ja (vf x)).toArray t)).heap.size:=xl (xx u _);refine⟨H,_,hh.usePut (C:=fun k=>k=u.heap.size\/fp q k) hk' hgr (by simp [Act.put]) Z (fun t ht=>xy ht) ?_ fun k hk=>?_⟩
 ·rw[kg (by rw[hh.size];exact zn hn)];refine⟨(u.heap.size,x),rfl,fun k=>k=u.heap.size,fp q,⟨xx _ _,fun _=>Iff.rfl⟩,(gg x).st hown (mw _) hgr.sub ⟨hgr.keep.os,hgr.keep.tape,hgr.keep.output,hgr.keep.size,hgr.keep.dr⟩ (fun k hk=>?_),fun k=>Iff.rfl,fun k h1 h2=>?_⟩
  ·exact ws u _ (hM k hk).1
  ·have:=(hM k h2).1;omega
 ·rcases hk with rfl | hk
  ·exact⟨.inr (nu _),by omega,jm hh.sub (nu _)⟩
  ·exact⟨.inl hk,by have:=(hM k hk).1;omega,(hM k hk).2.1⟩
def Has.holdRf{X:Type}{t:Nat}{vf:X->Value}{gg:X->GR}(hk:κ t=some (.own (F5 vf gg)))(h:Has F B O n κ a u):∃ x,Has F B O n (upd (upd (upd κ t lh) q (.own (gg x).res)) t (.is (vf x))) a u:=by
 obtain⟨H,fp,h⟩:=h;obtain⟨⟨x,hv,hx⟩,hM⟩:=h.slot t _ hk;have h2:=h.usePut (d:=q) (a':=a) (r':=(gg x).res) (C:=fp t) hk ⟨Keep.refl _ _,h.sub,mw _,fun _ _ _=>rfl⟩ rfl rfl (fun _ _=>rfl) hx fun k hk=>⟨.inl hk,(hM k hk).1,(hM k hk).2.1⟩
 have h3:=h2.name t;rw[hv] at h3;exact⟨x,H,_,h3⟩
def Aq(t q:Nat){X:Type}{vf:X->Value}{gg:X->GR}{c:Code}(hk:κ t=some (.own (F5 vf gg)))(h:∀ x,V P F B n O (upd (upd (upd κ t lh) q (.own (gg x).res)) t (.is (vf x))) c Q):V P F B n O κ c Q:=fun a u hh=>let ⟨x,h'⟩:=hh.holdRf (q:=q) hk;h x a u h'
def ix(t q:Nat){X:Type}{vf:X->Value}{gg:X->GR}(hk:κ t=some (.own (F5 vf gg)))(h:∀ x,VO P F B n O ops (upd (upd (upd κ t lh) q (.own (gg x).res)) t (.is (vf x))) os Q):VO P F B n O ops κ os Q:=fun a u hh=>let ⟨x,h'⟩:=hh.holdRf (q:=q) hk;h x a u h'
def Has.packRf{X:Type}{t:Nat}{vf:X->Value}{gg:X->GR}(x:X)(hk:κ q=some (.own (gg x).res))(ht:κ t=some (.is (vf x)))(h:Has F B O n κ a u):Has F B O n (upd (upd κ q lh) t (.own (F5 vf gg))) a u:=by
 obtain⟨H,fp,h⟩:=h;obtain⟨hx,hM⟩:=h.slot q _ hk;have hv:a.eval (.tmp t)=vf x:=h.slot t _ ht;exact⟨H,_,h.usePut (d:=t) (a':=a) (r':=F5 vf gg) (C:=fp q) hk ⟨Keep.refl _ _,h.sub,mw _,fun _ _ _=>rfl⟩ Z Z (fun _ _=>rfl) ⟨x,hv,hx⟩ fun k hk=>⟨.inl hk,(hM k hk).1,(hM k hk).2.1⟩⟩
def U2(t q:Nat){X:Type}(vf:X->Value)(gg:X->GR){c:Code}(x:X)(hk:κ q=some (.own (gg x).res))(ht:κ t=some (.is (vf x)))(h:V P F B n O (upd (upd κ q lh) t (.own (F5 vf gg))) c Q):V P F B n O κ c Q:=fun a u hh=>h a u (hh.packRf x hk ht)
def Se(L:Tabs P){fn:Func}{B0:Heap}(gs:Nat){r0:GR}{r:Res}{rs:List ResultVar}(hrs:fn.results=rs.toArray)
  (hQ:∀ a u,bodyPostM Fence.wide 0 P fn (dm F.w0 B0 F.L (zme F.w0 r)) .ret a u->Q .ret a u) (hs:Since F B0 B) (hk:κ gs=some (.own r0.res))
  (h:∀ H,F4 L F B O κ H rs [] (fun vs=>tup vs=v)) (hr:∀ H u C,B.Le H->zwe H u->r0.P H u C->r.P v H u C) (hL:F.L=noL:=by rfl) (hd:F.ds=[]:=by rfl):V P F B n O κ .ret Q:=fun a u hh=>by
 obtain⟨H,fp,hH⟩:=hh;refine wpIn_ret (hQ a u ?_);have h0:=hH.defers;rw[hd] at h0;show LeavesInM _ _ _ _ _ _ a.defers _ _;rw[h0];obtain⟨vs,h1,h2⟩:=wu L hH hrs (h H);obtain⟨hown,hM⟩:=hH.slot gs _ hk;refine⟨_,h1,_,rfl,H,⟨hH.keep,hH.sub,hs.le.trans hH.base,fun k hk hl=>(hH.fresh k hk hl).trans (hs.fresh k hk hl)⟩,fp gs,?_,fun k hk=>?_⟩
 ·rw[h2];exact hr H u (fp gs) hH.base hH.sub hown
 ·obtain⟨g1,g2,g3,_⟩:=hM k hk;refine⟨?_,g1,g2⟩;rcases g3 with g3 | g3
  ·exact g3
  ·have g3':F.L k:=g3;rw[hL] at g3';exact g3'.elim
def StepOK.turn{o:Oper}{r r':Res}(h:StepOK P F B n ops O κ o d (.own r))(hr:∀ v H u C,B.Le H->r.P v H u C->r'.P v H u C):StepOK P F B n ops O κ o d (.own r'):=
 fun κ' a u hl hh=>After.mono (fun a' u' h2=>by have:=h2.turnO (t:=d) (r':=r') (xq ..) hr;rwa [jt] at this) (h κ' a u hl hh)
def zgm{V:Type}{vc:V->Value}{l:List (Int×V)}:∀ v H u C,B.Le H->(Yk kd vc l).P v H u C->(zo0 kd vc l).P v H u C:=fun _ _ _ _ _ ⟨b,h1,h2,h3⟩=>⟨b,h1,h2,h3⟩
def StepOK2.turn{o:Oper}{k1:Kn}{r r':Res}(h:StepOK2 P F B n ops O κ o q k1 d (.own r))(hr:∀ v H u C,B.Le H->r.P v H u C->r'.P v H u C):StepOK2 P F B n ops O κ o q k1 d (.own r'):=
 fun κ' a u hl hq hh=>After.mono (fun a' u' h2=>by have:=h2.turnO (t:=d) (r':=r') (xq ..) hr;rwa [jt] at this) (h κ' a u hl hq hh)
abbrev zqn(s m:Nat)(xs:List Value):Type:={p:Nat×Nat×List Value//m<=p.2.1/\p.2.1<=maxLen/\(xs++p.2.2).length=p.2.1*s}
abbrev zrq(e:TypeId)(s m:Nat)(xs:List Value):Res:=F5 (fun p:zqn s m xs=>.slice (some ⟨p.1.1,0,none⟩) m p.1.2.1) fun p=>xd p.1.1 (xs++p.1.2.2) e
def zik{e:TypeId}{s m:Nat}(hm:m≠0):∀ v H u C,B.Le H->(SlR e s m xs).P v H u C->(zrq e s m xs).P v H u C:=fun _ _ _ _ _ ⟨_,h⟩=>by
 rcases h with ⟨h0,_⟩ | ⟨b,cap,rest,h1,h2,h3,h4,h5,h6⟩
 ·exact ni h0 hm
 ·exact⟨⟨(b,cap,rest),h3,h4,h5⟩,h1,h2,h6⟩
def G5(L:Tabs P){X:Type}{t t':TypeId}{s:Nat}{ag:Bool}{z:Nat}{vf:X->Value}{gg:X->GR}(hq:κ q=some (.own (F5 vf gg)))(hf:∀ x,(ja (vf x)).length=z/\(ja (vf x)).all wz=true)
  (hg:gK ops κ ⟨none,.store t (.tmp s) (.tmp q),ty,pos,aft,g⟩=some true) (hk:κ s=some (.own (Cell cs t'))) (hl:L.ld t=some (ag,z)) (hcs:cs.length=z) (hne:Nat.beq q s=false):
  StepOK2 P F B n ops O κ ⟨none,.store t (.tmp s) (.tmp q),ty,pos,aft,g⟩ q lh s (.own (zeo vf gg t')):=by
 have hne':q≠s:=Nat.ne_of_beq_eq_false hne;rintro κ' a u hlk hks ⟨H,fp,hh⟩;unfold After;rw[na (xn hh hlk hg)];have hkq:κ' q=some (.own (F5 vf gg)):=hks.trans hq;have hkss:κ' s=some (.own (Cell cs t')):=(hlk s (l7 (by simp [Op.operands]))).trans hk;obtain⟨⟨x,hx,hown⟩,hMq⟩:=hh.slot q _ hkq;have h0:=hh.usePut (d:=q) (a':=a) (r':=(gg x).res) (C:=fp q) hkq ⟨Keep.refl _ _,hh.sub,mw _,fun _ _ _=>rfl⟩ rfl rfl (fun _ _=>rfl) hown fun k hk=>⟨.inl hk,(hMq k hk).1,(hMq k hk).2.1⟩
 rw[jt] at h0;have hks0:upd κ' q (.own (gg x).res) s=some (.own (Cell cs t')):=by rw[xk _ _ (Ne.symm hne')];exact hkss
 obtain⟨⟨b,hes,hb,hC⟩,hM⟩:=h0.slot s _ hks0
 have hrun:(execOp a.eval ⟨none,.store t (.tmp s) (.tmp q),ty,pos,aft,g⟩).run P u=.ok .skip (u.setRow b (ja (vf x)).toArray):=by
  simp only[execOp,hes,hx,Instr.storeAt,Instr.sureAddr,nw,me,ny];have:=ub (P:=P) (off:=0) (v:=vf x) (Tabs.ld_spec hl) hb (hf x).1 J (hf x).2;rw[this,List.drop_of_length_le J];simp
 rw[hrun];simp only[Upon,Act.put];have hset:=setRow_heap u b cs.toArray (ja (vf x)).toArray t' (0,0) hb;have hbm:=hM b ((hC b).2 rfl)
 have h1:=h0.usePut (d:=s) (a':=a) (r':=Cell (ja (vf x)) t') (C:=fun k=>k=b) hks0 (wv h0.sub hb ((hC b).2 rfl) hbm.2.1 _) rfl rfl (fun _ _=>rfl) ⟨b,hes,hset,fun _=>Iff.rfl⟩ (fun k hk=>by
  subst hk;exact⟨.inl ((hC k).2 rfl),by rw[setRow_size];exact hbm.1,hbm.2.1⟩)
 rw[jt] at h1;have h2:Has F B O n _ a _:=⟨H,_,h1⟩
 have h3:=h2.join2 (q:=s) (g1:=q) (r1:=Cell (ja (vf x)) t') (r2:=(gg x).res) (Ne.symm hne') (xi _) (xq ..) (by rw[xk _ _ hne',xq]);have h4:=h3.turnO (t:=s) (r:=ej (Cell (ja (vf x)) t') (gg x).res) (r':=zeo vf gg t') (xq ..) fun v H u C _ ⟨C1,C2,⟨b,g1,g2,g3⟩,g4,g5,g6⟩=>⟨(b,x),g1,C1,C2,⟨g2,g3⟩,g4,g5,g6⟩
 have he:upd (upd (upd (upd (upd κ' q (.own (gg x).res)) s (.own (Cell (ja (vf x)) t'))) q lh) s (.own (ej (Cell (ja (vf x)) t') (gg x).res))) s (.own (zeo vf gg t'))=upd (upd κ' q lh) s (.own (zeo vf gg t')):=by
  funext k;by_cases h5:k=s
  ·subst h5;rw[xq,xq]
  ·rw[xk _ _ h5,xk _ _ h5,xk _ _ h5];by_cases h6:k=q
   ·subst h6;rw[xq,xq]
   ·rw[xk _ _ h6,xk _ _ h5,xk _ _ h6,xk _ _ h6]
 rw[he] at h4;exact h4
variable {Y:Type}  {vc:Y->Value} {l:List (Int×Y)}
def Rb(kd:IntKind)(vc:Y->Value){t kt et:TypeId}{k:IntKind}{c:Int}(hn:Nat.blt d n=true)(ht:P.underlying t=some (.map kt et))(hx:evK κ x=some (.int k c))(hg:gK ops κ ⟨some d,.makeMap t (some x),ty,pos,aft,g⟩=some true):
  StepOK P F B n ops O κ ⟨some d,.makeMap t (some x),ty,pos,aft,g⟩ d (.own (zo0 kd vc [])):=by
 refine StepOK.turn (r:=Yk kd vc []) ?_ zgm;rintro κ' a u hl ⟨H,fp,hh⟩;have hn:d<n:=by simpa using hn
 unfold After;rw[na (xn hh hl hg)];have e:=hh.env hl;have h1:=e.is_ x _ (by simp [Op.operands]) hx
 have hrun:(execOp a.eval ⟨some d,.makeMap t (some x),ty,pos,aft,g⟩).run P u=.ok (.value (.map (some u.heap.size))) (u.alloc (.map #[] 0)):=by
  simp [execOp,Instr.makeMap,h1,asInt,asIntOf,run_underlying ht,nw]
 rw[hrun];simp only[Upon];have hg2:=hh.grow (Grow.hid hh.sub (.map #[] 0));refine⟨H,_,hg2.putR (C:=fun k=>k=u.heap.size) (by simp [Act.put]) Z (fun t ht=>xy ht) ⟨u.heap.size,kg (by rw[hh.size];exact hn),⟨_,_,xx _ _,rfl,zee⟩,fun _=>Iff.rfl⟩ (fun k hk=>?_) fun t r' _ ht k hf hk=>?_⟩
 ·subst hk;exact⟨xl (xx u _),jm hh.sub (nu _),.inl hh.keep.size,fun y hy e=>by have:=xl (hh.boxes y hy).1;omega⟩
 ·have:=((hh.slot t _ ht).2 k hf).1;omega
def Ew{b:Nat}{t kt et:TypeId}(k:Int){r z:Value}(ht:P.underlying t=some (.map kt et))(hkt:P.underlying kt=some (.int kd))(hz:∀ w,(zeroValue et).run P w=.ok z w)
  (hv:MapVis b kd vc l B) (hx:evK κ x=some (.map (some b))) (hy:evK κ y=some (.int kd k)) (hn:Nat.blt d n=true) (hg:gK ops κ ⟨some d,.lookup t x y false,ty,pos,aft,g⟩=some true)
  (hr:(g7 k l).elim z vc=r):
  StepOK P F B n ops O κ ⟨some d,.lookup t x y false,ty,pos,aft,g⟩ d (.is r):=
 k9 rfl (zn hn) hg trivial fun a u H fp e=>by
  have h1:=e.is_ x _ (by simp [Op.operands]) hx;have h2:=e.is_ y _ (by simp [Op.operands]) hy;obtain⟨es,ck,hb,he⟩:=hv;refine⟨(g7 k l).elim z vc,?_,hr⟩;simp only[execOp,h1,h2,nw,Qu ht hkt (e.sub _ _ (e.base _ _ hb)) he k (hz u),ny];rfl
end
end Go.V
namespace Go.V.L4
def _root_.Ze4(t:Wr Y->A:=by intro h;refine qf (jx L Z Z Z (oy Z) Z el5 M M J J) ?_;exact h.1)(h:Y):A:=t ⟨h⟩
def _root_.Zbq(t:Wr Y->A:=by exact fun h=>(ZI∘Za) h.1)(h:Y):A:=t ⟨h⟩
def d6(bs:List Nat):(bs.map fun b:Nat=>Value.int .u8 (b:Int)).all wz=true:=by
 rw[zr3];intro v hv;obtain⟨b,_,rfl⟩:=m6.1 hv;rfl
abbrev zrr(bs:List Nat)(R:Rd)(rb:Nat):GR:=GEx (X:=Value) (fun sv=>GRd rb sv R) (fun sv H=>BsV bs false sv H) (fun _ _ _ h hle=>h.le hle)
attribute [local irreducible] V N X VO Par StepOK Has Ret RetL RetO RetT jh RetX RetY Src
def H6(hz:bs.length<=1099511627776)(hB:zwe B w)(hv:BsV bs fu v B):
  RetO zwf 135 [v] w B (SlR A3 1 bs.length (bs.map fun b:Nat=>Value.int .u8 (b:Int))):=by
 have hv0:=hv;have hlen:(bs.map fun b:Nat=>Value.int .u8 (b:Int)).length=bs.length*1:=by rw[mg,zse]
 have hpl:=d6 bs;obtain⟨p,c,rfl⟩:=ke hv;rcases p with _ | b
 ·obtain⟨h0,rfl⟩:bs.length=0/\c=0:=Kq hv;have hn:bs=[]:=zrv h0;subst hn;refine wt Tryz.func135 Z Tryz.ntmps135 (np Z) hB (ZbD (h:=?_));refine z7 (fz Z Z Z Z zqw Z) Z ((ZaM∘Zc) ?_);exact um 2 A3 1 rfl (dt Z (fun _ _ h=>h) nq Z)
 ·refine wt Tryz.func135 Z Tryz.ntmps135 (np Z) hB (ZbD (h:=?_));refine z7 (fz Z Z Z Z zqw Z) Z (Zs (h:=?_));refine ku 0 (BsV bs fu) Z ns hv0 (Z2 (h:=?_));refine z7 (b9 L Z Z Z Z Z) Z ((Zg∘Ze4) ?_);refine qf (yo (.inr Z) Z) (ZB (h:=?_));rw[zrw,mo];exact dt Z (fun _ _ h=>h) nq Z
def znq(hz:bs.length<=1099511627776)(hB:zwe B w)(hv:BsV bs fu v B):
  RetO zwf 72 [v] w B (F5 k8 (zrr bs ⟨0,0,0⟩)):=by
 obtain⟨p,c,rfl⟩:=ke hv;refine wt Tryz.func72 Z Tryz.ntmps72 (np Z) hB ((ZT∘Ze) ?_);refine Zbq (h:=?_);refine z7 (v6 L rfl rfl (zn rfl) rfl rfl rfl (fun u H hH hle _=>H6 hz hH (hv.le hle))) rfl (iw 4 rfl ?_);refine ui 4 rfl fun sv H1 hs1 hsv=>?_;obtain⟨p1,c1,rfl⟩:=ke hsv;refine z7 (yv (cs:=[_,_,_,_]) rfl rfl zpt rfl rfl) rfl (ZdW (h:=?_));refine qf (yo (.inr rfl) rfl) (ZB (h:=?_));refine jg 2 900 rfl fun rb=>?_;exact Se L 900 (r0:=GRd rb _ ⟨0,0,0⟩) (v:=k8 rb) (rs:=[.tmp 2]) Z (fun _ _ h=>h) hs1 Z (fun _=>rfl) (fun H u C hle _ hr=>⟨rb,rfl,_,hsv.le hle,hr⟩)
end Go.V.L4
namespace Go.V.L4
def _root_.ZbJ(t:Wr Y->A:=by intro h;refine z7 (Tp Z Z Z Z (nf J)) Z ?_;exact h.1)(h:Y):A:=t ⟨h⟩
def _root_.Zav(t:Wr Y->A:=by intro h;refine z7 (Tp Z Z Z Z (ng J)) Z ?_;exact h.1)(h:Y):A:=t ⟨h⟩
def _root_.Zaf(t:Wr Y->A:=by intro h;refine z7 (ym Z Z Z) Z ?_;exact h.1)(h:Y):A:=t ⟨h⟩
def _root_.ZdO(t:Wr Y->A:=by intro h;refine z7 (ziq Z Z Z Z J M) Z ?_;exact h.1)(h:Y):A:=t ⟨h⟩
def _root_.ZdX(t:Wr Y->A:=by intro h;refine z7 (zf6 L Z Z Z Z Z Z Z) Z ?_;exact h.1)(h:Y):A:=t ⟨h⟩
def _root_.Zaz(t:Wr Y->A:=by exact fun h=>(Zah∘Za0) h.1)(h:Y):A:=t ⟨h⟩
def _root_.Zb9(t:Wr Y->A:=by exact fun h=>(Zaf∘ZB) h.1)(h:Y):A:=t ⟨h⟩
def _root_.Zci(t:Wr Y->A:=by exact fun h=>(ZbJ∘Z1) h.1)(h:Y):A:=t ⟨h⟩
def j7(n:Nat):List Nat:=if n<128 then [n] else (n%128+128)::j7 (n/128)
termination_by n
decreasing_by omega
def ct(h:n<128):j7 n=[n]:=by unfold j7;rw[if_pos h]
def Bp(h:¬ n<128):j7 n=(n%128+128)::j7 (n/128):=by rw[j7,nc h]
abbrev zmu:TypeId:=179
abbrev byV(bs:List Nat):List Value:=bs.map fun b:Nat=>Value.int .u8 (b:Int)
def GSl(sv:Value)(bs:List Nat):GR:=⟨fun H u C=>(SlR A3 1 bs.length (byV bs)).P sv H u C,(SlR A3 1 bs.length (byV bs)).st⟩
def Fe(sv:Value)(bs:List Nat):(GSl sv bs).res=AtV sv (SlR A3 1 bs.length (byV bs)):=rfl
abbrev GWv(wb:Nat)(bs:List Nat)(sv:Value):GR:=gz (xd wb [sv] zmu) (GSl sv bs)
def Qb(v:Value):Prop:=∃ p k c,v=.slice p k c
def di:ij fun(sv:Value) (_:Heap)=>Qb sv:=fun _ _ _ h _=>h
abbrev GWr(wb:Nat)(bs:List Nat):GR:=GEx (X:=Value) (GWv wb bs) (fun sv _=>Qb sv) di
def Ta{e:TypeId}{s:Nat}:∀ v H u C,(SlR e s n xs).P v H u C->Qb v:=fun v H u C ⟨_,h⟩=>by
 rcases h with ⟨_,rfl,_⟩ | ⟨b,c,r,rfl,_⟩<;>exact⟨_,_,_,rfl⟩
def Uu(acc:List Nat)(m:Nat):byV acc++[Value.int .u8 (m:Int)]=byV (acc++[m]):=by unfold byV;rw[List.map_append];rfl
def eu:∀ (k n:Nat),n<128^(k+1)->(j7 n).length<=k+1
 | 0,n,h=>by rw[ct J];exact nu _
 | k+1,n,h=>by
  by_cases h2:n<128
  ·rw[ct h2];exact Nat.le_add_left _ _
  ·rw[Bp h2,ma];have:=eu k (n/128) (by rw[Nat.pow_succ] at h;exact Nat.div_lt_of_lt_mul (by rw[Nat.mul_comm];exact h));omega
def zhz(h:n<18446744073709551616):bits .and .u64 (n:Int) 127=((n%128:Nat):Int):=by
 have h2:=bits_and_u64_nat n 127 h E;rw[show n &&& 127=n%128 from Nat.and_two_pow_sub_one_eq_mod n 7] at h2;exact h2
def zkq(n:Nat):bits .or .u64 ((n%128:Nat):Int) 128=((n%128+128:Nat):Int):=by
 have h2:=bits_or_u64_nat (n%128) 128 J E;have h3:=zin (a:=n%128) (b:=1) (i:=7) J;rw[show 1*2^7=128 from rfl] at h3;rw[h3] at h2;exact h2
def GNo:GR:=⟨fun _ _ C=>∀ k,¬ C k,fun h _ _ _ _=>h⟩
def Hu{f:FuncId}{args:List Value}(h:RetL P f args w B C (fun v H _=>φ v H)):RetY P f args w B C GNo φ:=RetL.mono h fun _ _ _ _ hp=>⟨hp,fun _=>False,fun _ h=>h,fun _ h=>h.elim⟩
attribute [local irreducible] V N X VO Par StepOK Has Ret RetL RetO RetT jh RetX RetY Src
def ge(hn:n<18446744073709551616)(hz:bs.length+10<=1099511627776)(hB:zwe B w)(hr:(GWr wb bs).P B w C)(hC:ZCB C w B):
  jh zwf 86 [k8 wb,.int .u64 n] w B C (GWr wb (bs++j7 n)):=by
 unfold jh;refine yz 900 (GWr wb bs) Tryz.func86 Z Tryz.ntmps86 (np Z) hB hr hC ?_;refine vh (X:=Value) 900 (r:=fun sv=>(GWv wb bs sv).res) (φ:=fun sv _=>Qb sv) (hφ:=di) Z fun sv H0 hs0 hsp=>?_;refine ug (r1:=xr wb [sv] zmu) (r2:=(GSl sv bs).res) 900 901 rfl (xi _) ?_;rw[Fe];refine(Zd∘Zd7∘Za) ?_;refine z7 (fz Z Z Z Z zk1 Z) Z ((Zs∘Za7) ?_);refine xu (fun x:Value×Nat×List Nat=>[(0,.is (k8 wb)),(1,.is (.int .u64 x.2.1)),(900,.own (xr wb [x.1] zmu)),(901,.own (AtV x.1 (SlR A3 1 x.2.2.length (byV x.2.2))))]) (fun x=>x.2.1<18446744073709551616/\Qb x.1/\x.2.2.length+(j7 x.2.1).length=bs.length+(j7 n).length/\x.2.2++j7 x.2.1=bs++j7 n) (fun x=>x.2.1) (sv,n,bs) ⟨hn,hsp,rfl,rfl⟩ ⟨Z,Z,Z,Z,nm⟩ ?_;rintro⟨s1,m,acc⟩ ⟨hm,hp1,hl,he⟩;dsimp only at hm hp1 hl he |-;have hlen:(byV acc).length=acc.length*1:=by rw[mg,zse]
 have hpl:=d6 acc;have h128:(128:Nat)^10=1180591620717411303424:=E;have hnl:=eu 9 n J;have haz:acc.length<=1099511627776:=J;by_cases h:m<128
 ·rw[ct h] at he;have hcv:IntKind.u8.wrap (m:Int)=(m:Int):=ek J J;refine(Zd∘Zbq∘Zav∘Zao∘ZdU∘ZE∘ZbI) ?_;refine g8 27 901 rfl rfl (Za (h:=?_));refine z7 (kw rfl rfl rfl Cl.1 Cl.2 (ek J J)) rfl (ZJ (h:=?_));refine qf (jx L rfl rfl rfl (eg rfl) rfl el5 rfl rfl J J) ?_;refine cj 31 901 Qb rfl Ta fun s2 hp2=>?_;obtain⟨p2,k2,c2,rfl⟩:=hp2;refine Zam (h:=?_);refine xm (yq L (q:=900) (cs':=[.slice p2 k2 c2]) rfl rfl rfl rfl rfl) (Zah (h:=?_));have e1:byV acc++Af [(0,Value.int .u8 (m:Int))]=byV (bs++j7 n):=by rw[<-he];exact Uu acc m
  have e2:acc.length+1=(bs++j7 n).length:=by rw[<-he,nr];rfl
  rw[e1,e2];refine s4 900 901 rfl Z (Sd _ _) ?_;exact As (X:=Value) 900 (r:=fun sv=>(GWv wb (bs++j7 n) sv).res) (φ:=fun sv _=>Qb sv) di (.slice p2 k2 c2) ⟨_,_,_,rfl⟩ Z (ki L 900 (r:=GWr wb (bs++j7 n)) Z (fun _ _ h=>h) hs0 Z Z)
 ·rw[Bp h] at he hl;have hand:=zhz hm;have hor:=zkq m;have hcv:IntKind.u8.wrap ((m%128+128:Nat):Int)=((m%128+128:Nat):Int):=ek J J
  have hsr:(m:Int).fdiv (2^min (7:Int).toNat IntKind.u64.bits)=((m/128:Nat):Int):=by
   show(m:Int).fdiv 128=_;rw[zvn _ E];omega
  refine(Zd∘Zbq∘Zci∘Zbw∘ZcU∘ZR) ?_;refine g8 14 901 rfl rfl ((Za∘ZeE∘ZeF) ?_);refine z7 (kw rfl rfl rfl Cl.1 Cl.2 (ek J J)) rfl (ZJ (h:=?_));refine qf (jx L rfl rfl rfl (eg rfl) rfl el5 rfl rfl J J) ?_;refine cj 20 901 Qb rfl Ta fun s2 hp2=>?_;obtain⟨p2,k2,c2,rfl⟩:=hp2;refine Zam (h:=?_);refine xm (yq L (q:=900) (cs':=[.slice p2 k2 c2]) rfl rfl rfl rfl rfl) ((Zaz∘Zn∘ZdO∘ZaT) ?_);have e1:byV acc++Af [(0,Value.int .u8 ((m%128+128:Nat):Int))]=byV (acc++[m%128+128]):=Uu _ _;have e2:acc.length+1=(acc++[m%128+128]).length:=by rw[nr];rfl
  rw[e1,e2];exact yr (x:=(s1,m,acc)) (.slice p2 k2 c2,m/128,acc++[m%128+128]) ⟨by dsimp only;omega,⟨_,_,_,rfl⟩,by dsimp only;rw[List.length_append];rw[List.length_cons] at hl;simp only[List.length_cons,List.length_nil];omega,by dsimp only;rw[List.append_assoc];exact he⟩ G ⟨Z,Z,Z,Z,trivial⟩
def zd3(hB:zwe B w)(hv:BsV bs fu v B):Ret zwf 158 [v] w B (BsV bs true):=by
 refine yl Tryz.func158 Z Tryz.ntmps158 (np Z) hB (ku 0 (BsV bs fu) Z ns hv ((Zw∘Zg∘Zj∘Zj∘ZdX∘Zb9) ?_));refine yk1 L [.tmp 2] fun u H hH hle=>?_;exact fun v hv=>hv
def Gj(hz:bs.length<=1099511627776)(hB:zwe B w)(hr:(GWr wb bs).P B w C)(hC:ZCB C w B):
  RetL zwf 91 [k8 wb] w B C (fun v H _=>BsV bs true v H):=by
 refine yz 900 (GWr wb bs) Tryz.func91 Z Tryz.ntmps91 (np Z) hB hr hC ?_;refine vh (X:=Value) 900 (r:=fun sv=>(GWv wb bs sv).res) (φ:=fun sv _=>Qb sv) (hφ:=di) Z fun sv H0 hs0 hsp=>?_;refine ug (r1:=xr wb [sv] zmu) (r2:=(GSl sv bs).res) 900 901 rfl (xi _) ?_;rw[Fe];obtain⟨p,k,c,rfl⟩:=hsp;refine ZbD (h:=?_);refine z7 (fz Z Z Z Z zk1 Z) Z ((Zs∘Zz∘ZR) ?_);refine g8 8 901 rfl Z (iw 8 rfl (z7 (v6 L Z Z (zn Z) Z Z Z (fun u H hH hle _ v1 h1=>H6 hz hH h1)) Z (iw 9 rfl (z7 (xh (φ:=BsV bs true) L Z Z (zn Z) Z Z Z ns (fun u H hH hle _ v1 h1=>zd3 hH h1)) Z (Zb9 (h:=?_))))));exact yk L (rs:=[.tmp 2]) Z (fun _ _ h=>h) hs0 (fun _ H _ _ v hv=>hv)
end Go.V.L4
namespace Go.V
section
variable  {F:Fr}      {d b:Nat}     {src dst t:TypeId}  
def tj{vs:Array Value}(h:u.heap[b]?=some (.cells vs t' fr)):u.shape? b=some (t',vs.size):=by simp [World.shape?,h]
def Q8(hx:evK κ x=some (.pointer (some ⟨b,0,none⟩)))(hq:κ q=some (.own (xr b cs t')))(hn:Nat.blt d n=true)(hg:gK ops κ ⟨some d,.convert src dst x,ty,pos,aft,g⟩=some true)(hs:P.underlying src=some (.pointer t))(hd:P.underlying dst=some .unsafePointer)(hj:(P.info? t).map (fun j=>decide (j.size≠0))=some true)(hc:Nat.ble 1 cs.length=true):
  StepOKR P F B n ops O κ ⟨some d,.convert src dst x,ty,pos,aft,g⟩ q d (.is (.pointer (some ⟨b,0,none⟩))):=by
 obtain⟨j,ht,hj⟩:∃ j,P.info? t=some j/\j.size≠0:=by
  cases h:P.info? t with
  | none=>rw[h] at hj;cases hj
  | some j=>rw[h] at hj;exact⟨j,rfl,by simpa using hj⟩
 rintro κ' a u hlk hqk ⟨H,fp,hh⟩;unfold After;rw[na (xn hh hlk hg)];have e:=hh.env hlk;have h1:=e.is_ x _ (by simp [Op.operands]) hx;obtain⟨⟨h2,hC⟩,hM⟩:=hh.slot q _ (hqk.trans hq);have hr:=Lib.run_to_unsafe (P:=P) u (src:=src) (dst:=dst) ⟨b,0,none⟩ hs hd ht hj (tj h2) (by have:=np hc;simp only[zux];omega)
 have hrun:(execOp a.eval ⟨some d,.convert src dst x,ty,pos,aft,g⟩).run P u=.ok (.value (.pointer (some ⟨b,0,none⟩))) u:=by
  simp only[execOp,h1,nw,me,hr,ny]
 rw[hrun];simp only[Upon];exact⟨H,fp,hh.put (k:=.is _) (zn hn) trivial Z⟩
def Ll(hx:evK κ x=some (.pointer (some ⟨b,0,none⟩)))(hq:κ q=some (.own (xr b cs t')))(hn:Nat.blt d n=true)(hg:gK ops κ ⟨some d,.convert src dst x,ty,pos,aft,g⟩=some true)(hs:P.underlying src=some .unsafePointer)(hd:P.underlying dst=some (.pointer t))(ht:(P.info? t).isSome=true){m:Nat}(hm:cs.length=m)(hl:liesAt P P.depth t' (m/P.cellsOf t') 0 t 1=true):
  StepOKR P F B n ops O κ ⟨some d,.convert src dst x,ty,pos,aft,g⟩ q d (.is (.pointer (some ⟨b,0,none⟩))):=by
 obtain⟨j,ht⟩:=zso.1 ht;rintro κ' a u hlk hqk ⟨H,fp,hh⟩;subst hm;unfold After;rw[na (xn hh hlk hg)];have e:=hh.env hlk;have h1:=e.is_ x _ (by simp [Op.operands]) hx;obtain⟨⟨h2,hC⟩,hM⟩:=hh.slot q _ (hqk.trans hq);have hr:=Lib.run_from_unsafe (P:=P) u (src:=src) (dst:=dst) ⟨b,0,none⟩ hs hd ht (tj h2) (by simpa using hl)
 have hrun:(execOp a.eval ⟨some d,.convert src dst x,ty,pos,aft,g⟩).run P u=.ok (.value (.pointer (some ⟨b,0,none⟩))) u:=by
  simp only[execOp,h1,nw,me,hr,ny]
 rw[hrun];simp only[Upon];exact⟨H,fp,hh.put (k:=.is _) (zn hn) trivial Z⟩
def Xb{te:TypeId}{a0:Addr}(hn:Nat.blt d n=true)(hg:gK ops κ ⟨some d,.binOp .neq t x y t',ty,pos,aft,g⟩=some true)(hx:evK κ x=some (.pointer (some a0)))(hy:evK κ y=some (.pointer (some a0)))(hp:P.underlying t=some (.pointer te))(hte:(P.info? te).isSome=true):
  StepOK P F B n ops O κ ⟨some d,.binOp .neq t x y t',ty,pos,aft,g⟩ d (.is (.bool false)):=by
 obtain⟨j,hte⟩:=zso.1 hte;exact uk hn hg hx hy fun u=>Lib.run_neq_ptr_same u a0 hp hte
def Rh{f:Nat}{at_:Array TypeId}{fo:Operand}{r:Value}(hn:Nat.blt d n=true)(hg:gK ops κ ⟨some d,.call { callee:=.value fo,args:=#[x],argTypes:=at_ },ty,pos,aft,g⟩=some true)(hfo:evK κ fo=some (.func (.func f) #[] #[]))(hx:evK κ x=some v)(hext:∀ u,(callFunc f #[v]).run P u=.ok (.value r) u):
  StepOK P F B n ops O κ ⟨some d,.call { callee:=.value fo,args:=#[x],argTypes:=at_ },ty,pos,aft,g⟩ d (.is r):=by
 rintro κ' a u hlk ⟨H,fp,hh⟩;unfold After;rw[na (xn hh hlk hg)];have e:=hh.env hlk;have h1:a.eval x=v:=e.is_ x _ (by simp [Op.operands,Call.operands]) hx;have h2:a.eval fo=.func (.func f) #[] #[]:=e.is_ fo _ (by simp [Op.operands,Call.operands]) hfo
 have hrun:(execOp a.eval ⟨some d,.call { callee:=.value fo,args:=#[x],argTypes:=at_ },ty,pos,aft,g⟩).run P u=.ok (.value r) u:=by
  simp only[execOp,resolve,h2,Deferred.ofValue,nw,me,ny,invoke];simp [h1,hext]
 rw[hrun];simp only[Upon];exact⟨H,fp,hh.put (k:=.is r) (zn hn) trivial Z⟩
end
end Go.V
namespace Go.V
def zhx(u:World){t ty2 e:TypeId}{aty:TypeId}{i:TypeInfo}{z:Value}(ht:P.underlying t=some (.slice e))(hu:P.underlying ty2=some .string)(hi:P.info? e=some i)(hz:i.zero=some z)(hs1:i.size=1)(hs2:i.bytes=1)(hs3:z.cells.size=1)
  {x:Value}    {nn:Nat}  (hsub:zwe H u) (hown:(SlR e 1 nn xs).P x H u C) (hlt:ZCB C u H) (h63:nn+str.size<=9223372036854775807) (hb:nn+str.size<=140737488355328):
  ∃ x' u' C',(Builtin.append_ #[t,ty2] aty #[x,.string str]).run P u=.ok x' u'/\(SlR e 1 (nn+str.size) (xs++Lib.strCells str)).P x' H u' C'/\Grow C u H u' H/\∀ k,C' k->(C k\/u.heap.size<=k)/\k<u'.heap.size/\H k=none:=by
 have hl:=Lib.strCells_length str;generalize hnews:Lib.strCells str=news at hl |-;obtain⟨m,hm0⟩:∃ m,str.size=m:=⟨_,rfl⟩
 have hmx:nn+m<=maxLen:=by simp only[maxLen];omega
 obtain⟨hxl,hown⟩:=hown;have hlen:(xs++news).length=(nn+m)*1:=by rw[nr,hxl,hl,hm0];omega
 have hdrew:∀ o:Obj,Grow C u H (u.drew.alloc o) H:=fun o=>⟨⟨rfl,rfl,rfl,by simp,fun k hk _=>ws u.drew _ hk,zss _⟩,fun k v hv=>by
  have:=hsub.size hv;show(u.drew.alloc o).heap[k]?=some v;rw[ws u.drew _ this];exact hsub k v hv,mw _,fun _ _ _=>rfl⟩
 have hnew:∀ (o:Obj) (k:Nat),k=u.heap.size->(C k\/u.heap.size<=k)/\k<(u.drew.alloc o).heap.size/\H k=none:=fun o k hk=>by
  subst hk;exact⟨.inr (nu _),by simp,jm hsub (nu _)⟩
 have grown:∀ (old:Nat),old<nn+m->∀ vs:List Value,vs=xs->
   (SlR e 1 (nn+m) (xs++news)).P (.slice (some ⟨u.heap.size,0,none⟩) (nn+m) (grownCap u (nn+m) old e)) H (u.drew.alloc (.cells (vs.toArray++news.toArray++Builtin.zeroCells z.cells (grownCap u (nn+m) old e-(nn+m))) e)) (fun k=>k=u.heap.size):=by
  rintro old ho vs rfl;have hge:=grownCap_ge u (nn+m) old e;refine⟨hlen,.inr ⟨u.heap.size,_,(Builtin.zeroCells z.cells (grownCap u (nn+m) old e-(nn+m))).toList,rfl,?_,hge,grownCap_le_maxLen u (nn+m) old e hmx,?_,fun _=>Iff.rfl⟩⟩
  ·have h2:(u.drew.alloc (.cells (vs.toArray++news.toArray++Builtin.zeroCells z.cells (grownCap u (nn+m) old e-(nn+m))) e)).heap[u.heap.size]?=some (.cells (vs.toArray++news.toArray++Builtin.zeroCells z.cells (grownCap u (nn+m) old e-(nn+m))) e):=heap_alloc_new u.drew _;rw[h2];congr 2;apply Array.ext';simp
  ·rw[nr,hlen,zti,size_zeroCells,hs3];omega
 rcases hown with ⟨rfl,rfl,hC⟩ | ⟨b,cap,rest,rfl,hbk,hnc,hcm,hcl,hC⟩
 ·have hx:xs=[]:=zrv (by simpa using hxl);subst hx;by_cases h0:m=0
  ·subst h0;have hn:news=[]:=zrv J;subst hn;refine⟨.slice none 0 0,u,noL,?_,⟨by simp [hm0],.inl ⟨by omega,rfl,fun _ h=>h⟩⟩,⟨Keep.refl _ _,hsub,mw _,fun _ _ _=>rfl⟩,fun _ h=>h.elim⟩;have hf:=Lib.run_firstCells_string (P:=P) u i.size str;rw[hm0] at hf;simp [Builtin.append_,run_underlying ht,run_underlying hu,sizeOf,typeInfo,hi,Builtin.lenOf,hm0,hf]
  ·have hr:=run_append_nil_string (P:=P) u t ty2 aty e i z ht hu hi hz str J J (by rw[hs2];omega);have hgr:=grown 0 J [] rfl;rw[hm0] at hr |-;simp only[zrw,mo,Array.empty_append] at hgr |-;refine⟨_,_,_,hr,?_,hdrew _,fun k hk=>hnew _ k hk⟩;have e1:str.data.map (fun b=>Value.int .u8 b.toNat)=news.toArray:=by rw[<-hnews];apply Array.ext';simp [Lib.strCells]
   rw[e1];exact hgr
 ·have hbl:=hlt b ((hC b).2 rfl)
  have holds:∀ j v,xs[j]?=some v->u.cell? ((⟨b,0,none⟩:Addr).add j)=some v:=fun j v hj=>by
   rw[ut,zrw,je hbk]
   have hlt:j<xs.length:=by
    rcases m5 j xs.length with h | h
    ·exact h
    ·rw[zr6 h] at hj;cases hj
   simp only[zt3];rw[zs7 hlt];exact hj
  rw[hm0];by_cases hroom:nn+m<=cap
  ·have hfit:nn+str.size<=(xs++rest).toArray.size:=by simp only[zux,hcl];omega
   have hr:=Lib.run_append_room_string (P:=P) u t ty2 aty e i ht hu hi hs1 b nn cap _ hbk str J hfit;rw[hnews,hm0] at hr;refine⟨_,_,C,hr,⟨hlen,.inr ⟨b,cap,rest.drop news.length,rfl,?_,hroom,hcm,?_,hC⟩⟩,wv hsub hbk ((hC b).2 rfl) hbl.2 _,fun k hk=>⟨.inl hk,by rw[setRow_size];exact(hlt k hk).1,(hlt k hk).2⟩⟩
   ·rw[setRow_heap u b _ _ e (0,0) hbk];congr 2;have hx1:xs.length=nn:=J;rw[<-hx1,hl,hm0];simp [zsp,zrx]
   ·have h5:rest.length=cap*1-nn*1:=by rw[<-hcl,nr,hxl];omega
    rw[nr,hlen,m9,h5,hl,hm0];omega
  ·have hr:=Lib.run_append_grow_string (P:=P) u t ty2 aty e i z ht hu hi hz ⟨b,0,none⟩ nn cap xs (by rw[hs1];exact hxl) holds str J J (by rw[hs2];exact growslice_fits J J);rw[hnews,hm0] at hr;exact⟨_,_,_,hr,grown cap J xs Z,hdrew _,fun k hk=>hnew _ k hk⟩
section
variable  {F:Fr}      {d:Nat}    
def oj(L:Tabs P){t ty2 e:TypeId}{nn:Nat}(hn:Nat.blt d n=true)(hg:gK ops κ ⟨some d,.call ⟨.builtin .append,#[.tmp q,y],#[t,ty2]⟩,ty,pos,aft,g⟩=some true)
  (hq:κ q=some (.own (SlR e 1 nn xs))) (hy:evK κ y=some (.string str)) (ht:L.sl t=some e) (hu:P.underlying ty2=some .string) (he:elI P e=some (1,1)) (hb:nn+str.size<=140737488355328):
  StepOK2 P F B n ops O κ ⟨some d,.call ⟨.builtin .append,#[.tmp q,y],#[t,ty2]⟩,ty,pos,aft,g⟩ q lh d (.own (SlR e 1 (nn+str.size) (xs++Lib.strCells str))):=by
 rintro κ' a u hlk hks ⟨H,fp,hh⟩;unfold After;rw[na (xn hh hlk hg)];have en:=hh.env hlk;obtain⟨i,z,hi,hz,hs1,hs2,hs3,hs4⟩:=uo he;have hk':κ' q=some (.own (SlR e 1 nn xs)):=hks.trans hq;obtain⟨hown,hM⟩:=hh.slot q _ hk';have h1:a.eval y=.string str:=en.is_ y _ (by simp [Op.operands,Call.operands]) hy;obtain⟨x',u',C',hr,hown',hgr,hC'⟩:=zhx u (aty:=ty) (Tabs.sl_spec ht) hu hi hz hs1 hs2 hs3 hh.sub hown (fun k hk=>⟨(hM k hk).1,(hM k hk).2.1⟩) J hb
 have hrun:(execOp a.eval ⟨some d,.call ⟨.builtin .append,#[.tmp q,y],#[t,ty2]⟩,ty,pos,aft,g⟩).run P u=.ok (.value x') u':=by
  simp only[execOp,resolve,invoke,builtin,nw,me,ny,zr9,mt,zr7,h1,hr]
 rw[hrun];simp only[Upon];exact⟨H,_,hh.usePut hk' hgr (by simp [Act.put]) Z (fun t ht=>xy ht) (by rw[kg (by rw[hh.size];exact zn hn)];exact hown') hC'⟩
end
end Go.V
section
open Go.V
attribute [local irreducible] Has N Par Ret RetL Src StepOK V VO X
namespace Go.V.Bd
open Go.V.L4
def _root_.ZeU(t:Wr Y->A:=by intro h;refine jy 900 901 rfl Z (Sd _ _) ?_;exact h.1)(h:Y):A:=t ⟨h⟩
def _root_.Zbb(t:Wr Y->A:=by exact fun h=>(Zad∘Za) h.1)(h:Y):A:=t ⟨h⟩
abbrev Dx:TypeId:=228
def zln(v:Value)(u:World):(callFunc 255 #[v]).run zwf u=.ok (.value v) u:=
 (run_callFunc_extern Tryz.func255 T T T (e:=Extern.AbiNoEscape.same) T #[v] u).trans rfl
attribute [local irreducible] RetO RetT jh RetX RetY
def check_ret{bb:Nat}{sv p:Value}(hpp:p=.pointer none\/p=k8 bb)(hB:zwe B w)(hr:(xd bb [p,sv] Dx).P B w C)(hC:ZCB C w B):
  jh zwf 195 [k8 bb] w B C (xd bb [k8 bb,sv] Dx):=by
 unfold jh;refine yz 900 (xd bb [p,sv] Dx) Tryz.func195 Z Tryz.ntmps195 (np Z) hB hr hC ?_;rw[xe];rcases hpp with rfl | rfl
 ·refine(ZT∘Za∘ZR) ?_;refine z7 (fz Z Z Z Z zns Z) Z ((Z1∘ZI∘Zb) ?_);refine ye (Q8 (q:=900) (t:=Dx) Z Z Z Z T T T Z) (z7 (Rh Z Z Z Z (zln _)) Z (ye (Ll (q:=900) (t:=Dx) Z Z Z Z T T T Z T) (Zam (h:=?_))));refine xm (yq L (q:=900) (cs':=[k8 bb,sv]) Z Z Z Z Z) (Zah (h:=?_));exact ki L 900 (r:=xd bb _ Dx) Z (fun _ _ h=>h) nq Z Z
 ·refine(ZT∘Za∘ZR) ?_;refine z7 (fz Z Z Z Z zns Z) Z ((Zao∘Zi∘Zn∘ZR∘Za) ?_);refine z7 (Xb (te:=Dx) Z Z Z Z T T) Z (Zbu (h:=?_));exact ki L 900 (r:=xd bb _ Dx) Z (fun _ _ h=>h) nq Z Z
abbrev GBv(bb:Nat)(bs:List Nat)(x:Value×Value):GR:=gz (xd bb [x.1,x.2] Dx) (GSl x.2 bs)
def zmh(bb:Nat)(x:Value×Value):Prop:=(x.1=.pointer none\/x.1=k8 bb)/\Qb x.2
def ef(bb:Nat):ij fun(x:Value×Value) (_:Heap)=>zmh bb x:=fun _ _ _ h _=>h
abbrev GBd(bb:Nat)(bs:List Nat):GR:=GEx (X:=Value×Value) (GBv bb bs) (fun x _=>zmh bb x) (ef bb)
def dz(s:ByteArray):List Nat:=s.data.toList.map fun c=>c.toNat
def ux(s:ByteArray):(dz s).length=s.size:=by unfold dz;rw[List.length_map,Array.length_toList];rfl
def Sa(bs:List Nat)(s:ByteArray):byV bs++Lib.strCells s=byV (bs++dz s):=by
 unfold byV dz Lib.strCells;rw[zr1,ztl];rfl
def write_ret{bb:Nat}(hz:bs.length+str.size<=140737488355328)(hB:zwe B w)(hr:(GBd bb bs).P B w C)(hC:ZCB C w B):
  RetX zwf 122 [k8 bb,.string str] w B C (GBd bb (bs++dz str)) (.tuple #[.int .i64 str.size,.nilIface]):=by
 unfold RetX;refine yz 900 (GBd bb bs) Tryz.func122 Z Tryz.ntmps122 (np Z) hB hr hC ?_;refine vh (X:=Value×Value) 900 (r:=fun x=>(GBv bb bs x).res) (φ:=fun x _=>zmh bb x) (hφ:=ef bb) Z fun x H0 hs0 hx=>?_;obtain⟨p,sv⟩:=x;obtain⟨hpp,hsl⟩:=hx;dsimp only at hpp hsl |-;obtain⟨p1,k1,c1,rfl⟩:=hsl;refine ug (r1:=xr bb [p,.slice p1 k1 c1] Dx) (r2:=(GSl (.slice p1 k1 c1) bs).res) 900 901 rfl (xi _) ?_;rw[Fe];refine(Za6∘Zbb) ?_;refine qf (xg L 900 (xd bb [k8 bb,.slice p1 k1 c1] Dx) (r:=xd bb [p,.slice p1 k1 c1] Dx) rfl rfl rfl rfl rfl (fun u H C hH _ hr hC=>check_ret hpp hH hr hC)) ((Zk∘ZaE∘ZR) ?_);refine g8 12 901 rfl rfl (Za (h:=?_));refine qf (oj L rfl rfl rfl rfl rfl T el5 hz) ?_;refine cj 14 901 Qb rfl Ta fun s2 hp2=>?_;obtain⟨p2,k2,c2,rfl⟩:=hp2;refine Zam (h:=?_);refine xm (yq L (q:=900) (cs':=[k8 bb,.slice p2 k2 c2]) rfl rfl rfl rfl rfl) ((Zk∘Zz∘ZP∘Z4) ?_);have e2:bs.length+str.size=(bs++dz str).length:=by rw[nr,ux]
 rw[Sa,e2];refine ZeU (h:=?_);exact o3 (X:=Value×Value) 900 (r:=fun x=>(GBv bb (bs++dz str) x).res) (φ:=fun x _=>zmh bb x) (ef bb) (k8 bb,.slice p2 k2 c2) ⟨.inr Z,_,_,_,rfl⟩ Z (kj L 900 (r:=GBd bb (bs++dz str)) (rs:=[.tmp 4,.tmp 5]) Z (fun _ _ h=>h) hs0 Z Z (fun _=>rfl))
end Go.V.Bd
namespace Go.V
def _root_.ZX(t:Wr Y->A:=by intro h;refine z7 (qs L Z Z Z Z) Z ?_;exact h.1)(h:Y):A:=t ⟨h⟩
def _root_.ZaF(t:Wr Y->A:=by intro h;refine z7 (qu L Z Z Z Z) Z ?_;exact h.1)(h:Y):A:=t ⟨h⟩
def _root_.Zem(t:Wr Y->A:=by intro h;refine z7 (yv (cs:=[_,_]) Z Z zo8 Z Z) Z ?_;exact h.1)(h:Y):A:=t ⟨h⟩
def _root_.ZW(t:Wr Y->A:=by exact fun h=>(Za∘Zb8) h.1)(h:Y):A:=t ⟨h⟩
def _root_.ZaI(t:Wr Y->A:=by exact fun h=>(Zv∘Ze) h.1)(h:Y):A:=t ⟨h⟩
def _root_.ZaB(t:Wr Y->A:=by exact fun h=>(ZT∘ZX) h.1)(h:Y):A:=t ⟨h⟩
def _root_.Zbl(t:Wr Y->A:=by exact fun h=>(Zv∘Zh) h.1)(h:Y):A:=t ⟨h⟩
def _root_.Zbz(t:Wr Y->A:=by exact fun h=>(Zv∘Zbl) h.1)(h:Y):A:=t ⟨h⟩
def _root_.ZcB(t:Wr Y->A:=by exact fun h=>(ZW∘ZeG) h.1)(h:Y):A:=t ⟨h⟩
def GlobM(B:Heap):Prop:=∃ m cs t fr,B 0=some (.cells cs t fr)/\cs[0]?=some (.int .i64 m)
def GlobM.of_cell{m:Int}(h:w.cell? ⟨0,0,none⟩=some (.int .i64 m)):GlobM (hp w):=by
 unfold World.cell? at h;split at h
 ·rename_i cs t fr hb;exact⟨m,cs,t,fr,hb,by simpa using h⟩
 ·cases h
def GlobM.mono(h:GlobM B)(hl:B.Le H):GlobM H:=let ⟨m,cs,t,fr,hb,hc⟩:=h;⟨m,cs,t,fr,hl _ _ hb,hc⟩
def lq(s:ByteArray)(c:UInt8):ByteArray×ByteArray×Bool:=
 (⟨(Lib.cut s.data.toList [c]).1.toArray⟩,⟨(Lib.cut s.data.toList [c]).2.1.toArray⟩,(Lib.cut s.data.toList [c]).2.2)
def P8(s:ByteArray)(c:UInt8):Bool:=decide (0<=Lib.indexByte s.data.toList c)
def zi3(s:ByteArray)(c:UInt8):Nat:=Lib.countByte s.data.toList c
def aa{c:UInt8}{f:Bool}(hs:s.size<=1000000)(hB:zwe B w)(hM:GlobM B)(hf:(lq s c).2.2=f):
  Ret zwf 131 [.string s,.string ⟨#[c]⟩] w B (fun v _=>v=.tuple #[.string (lq s c).1,.string (lq s c).2.1,.bool f]):=by
 obtain⟨m,cs,t,fr,hb,hc⟩:=hM;subst hf;refine Ret.of_drawn hB (Tryz.strings_Cut s ⟨#[c]⟩ m w J ?_);rw[je (hB _ _ hb)];exact hc
def vr{c:UInt8}{f:Bool}(hB:zwe B w)(hf:P8 s c=f):
  Ret zwf 132 [.string s,.string ⟨#[c]⟩] w B (fun v _=>v=.bool f):=by
 subst hf;exact Ret.of_same hB (Tryz.strings_Contains_one s c w)
def count_ret{c:UInt8}(hB:zwe B w):
  Ret zwf 262 [.string s,.string ⟨#[c]⟩] w B (fun v _=>v=.int .i64 (zi3 s c)):=Ret.of_same hB (Tryz.strings_Count_one s c w)
def Aj(s:ByteArray)(c:UInt8):(lq s c).1.size<=s.size/\(lq s c).2.1.size<=s.size:=by
 unfold lq Lib.cut;have hl:=j8 s;have e:∀ l:List UInt8,(ByteArray.mk l.toArray).size=l.length:=fun l=>by show l.toArray.size=_;simp
 generalize s.data.toList=l at hl |-;rw[<-hl];split
 ·simp only[e,mh,m9];omega
 ·simp only[e,m7];omega
def gh(s:ByteArray):Option (ByteArray×ByteArray×ByteArray×Bool):=
 if ((lq s 58).2.2 && !P8 (lq s 58).1 35 && !P8 (lq s 58).2.1 58)=true/\zi3 (lq s 58).2.1 35<=1 then
  some ((lq s 58).1,(lq (lq s 58).2.1 35).1,(lq (lq s 58).2.1 35).2.1,(lq (lq s 58).2.1 35).2.2)
 else none
def Es(h:gh s=some (a,b,c,d)):a.size<=s.size/\b.size<=s.size/\c.size<=s.size:=by
 unfold gh at h;split at h
 ·cases h;have h1:=Aj s 58;have h2:=Aj (lq s 58).2.1 35;omega
 ·cases h
def Mo{f:Bool}(hs:s.size<=1000000)(hB:zwe B w)(hM:GlobM B)(hf:((lq s 58).2.2 && !P8 (lq s 58).1 35 && !P8 (lq s 58).2.1 58)=f):
  Ret zwf 261 [.string s,.string ⟨#[58]⟩] w B (fun v _=>v=.tuple #[.string (lq s 58).1,.string (lq s 58).2.1,.bool f]):=by
 subst hf;refine yl Tryz.func261 Z Tryz.ntmps261 (np Z) hB ?_;cases h1:(lq s 58).2.2
 ·refine(Za6∘Zv∘Zad∘Zb) ?_;refine z71 L Z (fun u H hH hle=>aa M hH (GlobM.mono M hle) M) ?_;refine(ZcB∘Zv∘ZaI∘ZaE∘Zb∘Zaw∘ZcG∘ZbF∘Zv∘Z4) ?_;exact yk2 L [.tmp 4,.tmp 5,.tmp 6]
 ·cases h2:P8 (lq s 58).1 35
  ·cases h3:P8 (lq s 58).2.1 58
   ·refine(Za6∘Zv∘Zad∘Zb) ?_;refine z71 L Z (fun u H hH hle=>aa M hH (GlobM.mono M hle) M) ?_;refine(ZcB∘Zv∘ZaI∘ZaE∘Zu) ?_;refine z71 L Z (fun u H hH _=>vr hH M) ?_;refine(Zo∘ZaV) ?_;refine z71 L Z (fun u H hH _=>vr hH M) ?_;refine(Zo∘Zf∘Zv∘Z4) ?_;exact yk2 L [.tmp 4,.tmp 5,.tmp 6]
   ·refine(Za6∘Zv∘Zad∘Zb) ?_;refine z71 L Z (fun u H hH hle=>aa M hH (GlobM.mono M hle) M) ?_;refine(ZcB∘Zv∘ZaI∘ZaE∘Zu) ?_;refine z71 L Z (fun u H hH _=>vr hH M) ?_;refine(Zo∘ZaV) ?_;refine z71 L Z (fun u H hH _=>vr hH M) ?_;refine(Zo∘Zf∘Zv∘Z4) ?_;exact yk2 L [.tmp 4,.tmp 5,.tmp 6]
  ·refine(Za6∘Zv∘Zad∘Zb) ?_;refine z71 L Z (fun u H hH hle=>aa M hH (GlobM.mono M hle) M) ?_;refine(ZcB∘Zv∘ZaI∘ZaE∘Zu) ?_;refine z71 L Z (fun u H hH _=>vr hH M) ?_;refine(Zo∘Zf∘ZbF∘Zv∘Z4) ?_;exact yk2 L [.tmp 4,.tmp 5,.tmp 6]
def V6(hs:s.size<=1000000)(hB:zwe B w)(hM:GlobM B)(h:gh s=none):
  Ret zwf 203 [.string s] w B (fun v _=>v=.tuple #[.agg #[.string ⟨#[]⟩,.string ⟨#[]⟩],.string ⟨#[]⟩,.bool false,.bool false]):=by
 refine yl Tryz.func203 Z Tryz.ntmps203 (np Z) hB ?_;unfold gh at h;cases h1:((lq s 58).2.2 && !P8 (lq s 58).1 35 && !P8 (lq s 58).2.1 58)
 ·refine(ZaB∘Zv∘Zv∘Zad∘Ze∘ZaE) ?_;refine z71 L Z (fun u H hH hle=>Mo M hH (GlobM.mono M hle) M) ?_;refine(ZcB∘Zbz∘Zz∘Zo∘ZbF∘Zr∘ZE∘Zem∘ZaF∘Zv∘Z4) ?_;refine yk1 L [.cell 2 29,.tmp 3,.tmp 4,.tmp 5] fun u H hH hle=>?_;exact⟨_,ya Z,rfl,rfl⟩
 ·have h2:¬ zi3 (lq s 58).2.1 35<=1:=fun h2=>by rw[na ⟨h1,h2⟩] at h;cases h
  clear h;refine(ZaB∘Zv∘Zv∘Zad∘Ze∘ZaE) ?_;refine z71 L Z (fun u H hH hle=>Mo M hH (GlobM.mono M hle) M) ?_;refine(ZcB∘Zbz∘Zz∘Zo∘Zb) ?_;refine z71 L Z (fun u H hH _=>count_ret hH) ?_;refine(ZN∘Zf∘Zr∘ZE∘Zem∘ZaF∘Zv∘Z4) ?_;refine yk1 L [.cell 2 29,.tmp 3,.tmp 4,.tmp 5] fun u H hH hle=>?_;exact⟨_,ya Z,rfl,rfl⟩
def V5(hs:s.size<=1000000)(hB:zwe B w)(hM:GlobM B)(h:gh s=some (a,b,c,d)):
  Ret zwf 203 [.string s] w B (fun v _=>v=.tuple #[.agg #[.string a,.string b],.string c,.bool d,.bool true]):=by
 refine yl Tryz.func203 Z Tryz.ntmps203 (np Z) hB ?_;unfold gh at h;split at h
 ·rename_i hc;obtain⟨h1,h2⟩:=hc;cases h;have hz:=Aj s 58;have hz2:(lq s 58).2.1.size<=1000000:=J;refine(ZaB∘Zv∘Zv∘Zad∘Ze∘ZaE) ?_;refine z71 L Z (fun u H hH hle=>Mo M hH (GlobM.mono M hle) M) ?_;refine(ZcB∘Zbz∘Zz∘Zo∘Zb) ?_;refine z71 L Z (fun u H hH _=>count_ret hH) ?_;refine(ZG∘Zba∘ZC) ?_;refine z71 L Z (fun u H hH hle=>aa M hH (GlobM.mono M hle) Z) ?_;refine(ZcB∘Zv∘ZaI∘Z5∘Zb∘Zem∘Zb∘ZaF∘Zv∘Z4) ?_;refine yk1 L [.cell 2 29,.tmp 3,.tmp 4,.tmp 5] fun u H hH hle=>?_;exact⟨_,ya Z,rfl,rfl⟩
 ·cases h
def _root_.ZcJ(t:Wr Y->A:=by intro h;refine z7 (qg L (vs:=[_,_]) (ya Z) Z Z Z Z ⟨_,rfl⟩) Z ?_;exact h.1)(h:Y):A:=t ⟨h⟩
def _root_.Zen(t:Wr Y->A:=by intro h;refine z71 L Z (fun u H hH hle=>V5 M hH (GlobM.mono M hle) M) ?_;exact h.1)(h:Y):A:=t ⟨h⟩
def _root_.Zeo(t:Wr Y->A:=by intro h;refine z7 (qg L (vs:=[_,_,_]) (ya Z) Z Z Z Z ⟨_,rfl⟩) Z ?_;exact h.1)(h:Y):A:=t ⟨h⟩
def _root_.Zep(t:Wr Y->A:=by intro h;refine z7 (yv (cs:=[_,_,_]) Z Z zra Z Z) Z ?_;exact h.1)(h:Y):A:=t ⟨h⟩
def _root_.Ze5(t:Wr Y->A:=by intro h;refine z7 (yv (cs:=[_,_,_]) Z Z zqv Z Z) Z ?_;exact h.1)(h:Y):A:=t ⟨h⟩
def _root_.Zbr(t:Wr Y->A:=by exact fun h=>(ZX∘ZaF) h.1)(h:Y):A:=t ⟨h⟩
def _root_.Zan(t:Wr Y->A:=by exact fun h=>(ZB∘Zd) h.1)(h:Y):A:=t ⟨h⟩
def _root_.Z6(t:Wr Y->A:=by exact fun h=>(Z7∘Za) h.1)(h:Y):A:=t ⟨h⟩
def _root_.Zaq(t:Wr Y->A:=by exact fun h=>(ZaF∘Zc) h.1)(h:Y):A:=t ⟨h⟩
def _root_.ZbA(t:Wr Y->A:=by exact fun h=>(Zbr∘Zan) h.1)(h:Y):A:=t ⟨h⟩
def _root_.ZfP(t:Wr Y->A:=by intro h;refine Zbb (h:=?_);refine z71 L Z (fun u H hH hle=>V6 M hH (GlobM.mono M hle) M) ?_;exact h.1)(h:Y):A:=t ⟨h⟩
abbrev dp:ByteArray:=⟨#[]⟩
def poA(s:ByteArray):ByteArray×ByteArray×Int:=
 match gh s with
 | none=>(dp,dp,5)
 | some (a,b,_,d)=>if d=true then (dp,dp,5) else if f5 [a,b]=0 then (a,b,0) else (dp,dp,f5 [a,b])
def pgA(s:ByteArray):ByteArray×ByteArray×ByteArray×Int:=
 match gh s with
 | none=>(dp,dp,dp,5)
 | some (a,b,c,d)=>if d=false then (dp,dp,dp,5) else if f5 [a,b,c]=0 then (a,b,c,0) else (dp,dp,dp,f5 [a,b,c])
def psA(s:ByteArray):ByteArray×ByteArray×ByteArray×Int:=
 match gh s with
 | none=>(dp,dp,dp,5)
 | some (a,b,c,d)=>if f5 [a,b]=0 then (if d=true then (if chk c=0 then (a,b,c,0) else (dp,dp,dp,chk c)) else (a,b,c,0)) else (dp,dp,dp,f5 [a,b])
def zni(hr:pgA s=r)(hs:s.size<=1000000)(hB:zwe B w)(hM:GlobM B):
  Ret zwf 133 [.string s] w B (fun v _=>v=.tuple #[.agg #[.string r.1,.string r.2.1,.string r.2.2.1],.int .i64 r.2.2.2]):=by
 refine yl Tryz.func133 Z Tryz.ntmps133 (np Z) hB ?_;unfold pgA at hr
 cases hp:gh s with
 | none=>
  rw[hp] at hr;simp only at hr;subst hr;refine(ZaB∘ZfP∘ZW∘Zb8∘Zbr∘Zbz∘Zn∘Zo∘ZcF∘Zf∘Zr∘Z2∘Ze5∘Zaq) ?_;refine yk1 L [.cell 2 31,.tmp 3] fun u H hH hle=>?_;exact⟨_,ya Z,rfl,rfl⟩
 | some p=>
  obtain⟨a,b,c,d⟩:=p;rw[hp] at hr;simp only at hr;have hz:=Es hp;have ha:a.size<=1099511627776:=J;have hb:b.size<=1099511627776:=J;have hc:c.size<=1099511627776:=J
  cases d with
  | false=>
   rw[na rfl] at hr;subst hr;refine(ZaB∘Zbb∘Zen∘ZW∘Zb8∘Zbr∘Zbz∘Zn∘Zo∘Zb∘Zo∘Zf∘Zr∘Z2∘Ze5∘Zaq) ?_;refine yk1 L [.cell 2 31,.tmp 3] fun u H hH hle=>?_;exact⟨_,ya Z,rfl,rfl⟩
  | true=>
   rw[nc E] at hr;by_cases h0:f5 [a,b,c]=0
   ·rw[na h0] at hr;subst hr;refine(ZaB∘Zbb∘Zen∘ZW∘Zb8∘Zbr∘Zbz∘Zn∘Zo∘Zb∘Zo∘Zba∘ZE∘ZcJ∘Za∘Ze5∘ZbA∘ZF∘Zeo) ?_;refine z71 L Z (fun u H hH _=>goal_ret K K K hH) ?_;refine(Ze∘ZD∘Zau∘Z0∘Zeo∘Zaq) ?_;refine yk1 L [.cell 2 31,.tmp 3] fun u H hH hle=>?_;exact⟨_,ya Z,rfl,rfl⟩
   ·rw[nc h0] at hr;subst hr;refine(ZaB∘Zbb∘Zen∘ZW∘Zb8∘Zbr∘Zbz∘Zn∘Zo∘Zb∘Zo∘Zba∘ZE∘ZcJ∘Za∘Ze5∘ZbA∘ZF∘Zeo) ?_;refine z71 L Z (fun u H hH _=>goal_ret K K K hH) ?_;refine(Ze∘ZD∘Zac∘Z7∘Ze5∘Za∘Zaq) ?_;refine yk1 L [.cell 2 31,.tmp 3] fun u H hH hle=>?_;exact⟨_,ya Z,rfl,rfl⟩
def znb(hr:psA s=r)(hs:s.size<=1000000)(hB:zwe B w)(hM:GlobM B):
  Ret zwf 134 [.string s] w B (fun v _=>v=.tuple #[.agg #[.string r.1,.string r.2.1,.string r.2.2.1],.int .i64 r.2.2.2]):=by
 refine yl Tryz.func134 Z Tryz.ntmps134 (np Z) hB ?_;unfold psA at hr
 cases hp:gh s with
 | none=>
  rw[hp] at hr;simp only at hr;subst hr;refine(ZaB∘ZfP∘ZW∘Zb8∘Zbr∘Zbz∘Zn∘Zo∘Zr∘Z2∘Zep∘Zaq) ?_;refine yk1 L [.cell 2 32,.tmp 3] fun u H hH hle=>?_;exact⟨_,ya Z,rfl,rfl⟩
 | some p=>
  obtain⟨a,b,c,d⟩:=p;rw[hp] at hr;simp only at hr;have hz:=Es hp;have ha:a.size<=1099511627776:=J;have hb:b.size<=1099511627776:=J;have hc:c.size<=1099511627776:=J;by_cases h0:f5 [a,b]=0
  ·rw[na h0] at hr
   cases d with
   | false=>
    rw[nc E] at hr;subst hr;refine(ZaB∘Zbb∘Zen∘ZW∘Zb8∘Zbr∘Zbz∘Zn∘Zo∘Zs∘ZE∘ZcJ) ?_;refine z71 L Z (fun u H hH _=>d7 K K hH) ?_;refine(Zh∘ZbG∘Zaw∘Zf∘ZK∘Z6∘Zau∘ZM∘ZcJ∘Za∘Zep∘Zaq) ?_;refine yk1 L [.cell 2 32,.tmp 3] fun u H hH hle=>?_;exact⟨_,ya Z,rfl,rfl⟩
   | true=>
    rw[na rfl] at hr;by_cases h1:chk c=0
    ·rw[na h1] at hr;subst hr;refine(ZaB∘Zbb∘Zen∘ZW∘Zb8∘Zbr∘Zbz∘Zn∘Zo∘Zs∘ZE∘ZcJ) ?_;refine z71 L Z (fun u H hH _=>d7 K K hH) ?_;refine(Zh∘ZF∘Zu∘Zx∘Zb4∘ZD∘Zfe∘Zh∘Z6∘Zau∘ZM∘ZcJ∘Za∘Zep∘Zaq) ?_;refine yk1 L [.cell 2 32,.tmp 3] fun u H hH hle=>?_;exact⟨_,ya Z,rfl,rfl⟩
    ·rw[nc h1] at hr;subst hr;refine(ZaB∘Zbb∘Zen∘ZW∘Zb8∘Zbr∘Zbz∘Zn∘Zo∘Zs∘ZE∘ZcJ) ?_;refine z71 L Z (fun u H hH _=>d7 K K hH) ?_;refine(Zh∘ZF∘Zu∘Zx∘Zb4∘ZD∘Zfe∘Zh∘Z6∘Zac∘Z0∘Zep∘Za∘Zaq) ?_;refine yk1 L [.cell 2 32,.tmp 3] fun u H hH hle=>?_;exact⟨_,ya Z,rfl,rfl⟩
  ·rw[nc h0] at hr;subst hr;cases d
   ·refine(ZaB∘Zbb∘Zen∘ZW∘Zb8∘Zbr∘Zbz∘Zn∘Zo∘Zs∘ZE∘ZcJ) ?_;refine z71 L Z (fun u H hH _=>d7 K K hH) ?_;refine(Zh∘ZbG∘Zaw∘Zf∘ZK∘Z6∘Zac∘Z0∘Zep∘Za∘Zaq) ?_;refine yk1 L [.cell 2 32,.tmp 3] fun u H hH hle=>?_;exact⟨_,ya Z,rfl,rfl⟩
   ·refine(ZaB∘Zbb∘Zen∘ZW∘Zb8∘Zbr∘Zbz∘Zn∘Zo∘Zs∘ZE∘ZcJ) ?_;refine z71 L Z (fun u H hH _=>d7 K K hH) ?_;refine(Zh∘ZF∘Zu∘Z8∘Zf∘ZK∘Z6∘Zac∘Z0∘Zep∘Za∘Zaq) ?_;refine yk1 L [.cell 2 32,.tmp 3] fun u H hH hle=>?_;exact⟨_,ya Z,rfl,rfl⟩
def zkm(hr:pgA s=(a,b,c,e))(hs:s.size<=1000000)(hB:zwe B w)(hM:GlobM B):
  Ret zwf 133 [.string s] w B (fun v _=>v=.tuple #[.agg #[.string a,.string b,.string c],.int .i64 e]):=zni hr hs hB hM
def zkg(hr:psA s=(a,b,c,e))(hs:s.size<=1000000)(hB:zwe B w)(hM:GlobM B):
  Ret zwf 134 [.string s] w B (fun v _=>v=.tuple #[.agg #[.string a,.string b,.string c],.int .i64 e]):=znb hr hs hB hM
end Go.V
end
namespace Go.V.L2
open Go.V
abbrev U:=Sf×Sf
def ucs(t:U):List Value:=[.string t.1.1.1,.string t.1.1.2,.string t.1.2,.string t.2.1.1,.string t.2.1.2,.string t.2.2]
def Kd(t:U):(ucs t).length=6:=rfl
def js:U->U->Int:=zep zoo zoo
def cmpT_ord:Ord3 js:=cmp3_ord.lex cmp3_ord
def zq3{t v:U}:(t.1.1.1=v.1.1.1/\t.1.1.2=v.1.1.2/\t.1.2=v.1.2/\t.2.1.1=v.2.1.1/\t.2.1.2=v.2.1.2/\t.2.2=v.2.2)↔t=v:=
 ⟨fun⟨a,b,c,d,e,f⟩=>Prod.ext (Prod.ext (Prod.ext a b) c) (Prod.ext (Prod.ext d e) f),fun e=>by subst e;exact⟨rfl,rfl,rfl,rfl,rfl,rfl⟩⟩
instance memU(t:U)(l:List U):Decidable (t∈l):=decidable_of_iff (l.any (fun x=>decide (x=t))=true) (by simp)
def tE(t:U):Int:=if f5 [t.1.1.1,t.1.1.2,t.1.2]=0 then r6 t.2.1.1 t.2.1.2 t.2.2 else f5 [t.1.1.1,t.1.1.2,t.1.2]
abbrev sAt:ByteArray:=⟨#[64]⟩
def tT(t:U):ByteArray:=Pk t.1.1.1 t.1.1.2 t.1.2++sAt++Kl t.2.1.1 t.2.1.2 t.2.2
def TZ(t:U):Prop:=(t.1.1.1.size<=1099511627776/\t.1.1.2.size<=1099511627776/\t.1.2.size<=1099511627776)/\t.2.1.1.size<=1099511627776/\t.2.1.2.size<=1099511627776/\t.2.2.size<=1099511627776
instance (t:U):Decidable (TZ t):=inferInstanceAs (Decidable (_/\_))
def Ko{α:Type}{c:α->α->Int}(h:Ord3 c):∀ {l:List α},Sst c l↔∀ (j:Nat) (a b:α),l[j]?=some a->l[j+1]?=some b->c a b<0
 | []=>⟨fun _ j a b h1 _=>by simp at h1,fun _=>Sst.nil⟩
 | [x]=>⟨fun _ j a b _ h2=>by simp at h2,fun _=>ztc ..⟩
 | x::y::l=>by
  constructor
  ·intro hs j a b h1 h2;have hp:=mn.1 hs
   cases j with
   | zero=>simp at h1 h2;subst h1 h2;exact hp.1 _ (mc ..)
   | succ j=>exact(Ko h).1 hp.2 j a b (by simpa using h1) (by simpa using h2)
  ·intro hj;have hl:Sst c (y::l):=(Ko h).2 fun j a b h1 h2=>hj (j+1) a b (by simpa using h1) (by simpa using h2);have hxy:c x y<0:=hj 0 x y rfl rfl;refine mn.2 ⟨fun z hz=>?_,hl⟩;rcases nz.1 hz with rfl | hz
   ·exact hxy
   ·exact h.tr hxy ((mn.1 hl).1 z hz)
instance {α:Type}(c:α->α->Int)(l:List α):Decidable (Sst c l):=inferInstanceAs (Decidable (l.Pairwise _))
def isB(l:List U):Bool:=decide (Sst js l)
def zn9{l:List U}{j:Nat}{a b:U}(h1:l[j]?=some a)(h2:l[j+1]?=some b)(h:¬ js a b<0):isB l=false:=ng fun hs=>h ((Ko cmpT_ord).1 hs j a b h1 h2)
def zlh{l:List U}(h:∀ j a b,l[j]?=some a->l[j+1]?=some b->js a b<0):isB l=true:=nf ((Ko cmpT_ord).2 h)
def ptA(s:ByteArray):U×Int:=
 if (lq s 64).2.2=true/\P8 (lq s 64).2.1 64=false then
  (if (pgA (lq s 64).1).2.2.2=0 then
   (if (psA (lq s 64).2.1).2.2.2=0 then
    (((((pgA (lq s 64).1).1,(pgA (lq s 64).1).2.1),(pgA (lq s 64).1).2.2.1),(((psA (lq s 64).2.1).1,(psA (lq s 64).2.1).2.1),(psA (lq s 64).2.1).2.2.1)),0)
   else ((((⟨#[]⟩,⟨#[]⟩),⟨#[]⟩),((⟨#[]⟩,⟨#[]⟩),⟨#[]⟩)),(psA (lq s 64).2.1).2.2.2))
  else ((((⟨#[]⟩,⟨#[]⟩),⟨#[]⟩),((⟨#[]⟩,⟨#[]⟩),⟨#[]⟩)),(pgA (lq s 64).1).2.2.2))
 else ((((⟨#[]⟩,⟨#[]⟩),⟨#[]⟩),((⟨#[]⟩,⟨#[]⟩),⟨#[]⟩)),5)
end Go.V.L2
variable{l:List Go.V.L2.U}
section
open Go.V
attribute [local irreducible] Has N Par Ret RetL Src StepOK V VO X
namespace Go.V.L2
def _root_.Zdh(t:Wr Y->A:=by intro h;refine z9 (yn L (vs:=[_,_,_,_,_,_]) Z Z Z Z Z ⟨_,rfl⟩) Z ?_;exact h.1)(h:Y):A:=t ⟨h⟩
def _root_.ZaG(t:Wr Y->A:=by intro h;refine z9 (zo Z Z Z) Z ?_;exact h.1)(h:Y):A:=t ⟨h⟩
def _root_.Zcn(t:Wr Y->A:=by intro h;refine z7 (yv (cs:=[_,_,_,_,_,_]) Z Z zqu Z Z) Z ?_;exact h.1)(h:Y):A:=t ⟨h⟩
def _root_.Zdu(t:Wr Y->A:=by intro h;refine z9 (qg L (vs:=[_,_,_]) (qz Z) Z Z Z Z ⟨_,rfl⟩) Z ?_;exact h.1)(h:Y):A:=t ⟨h⟩
def _root_.Ze6(t:Wr Y->A:=by intro h;refine z9 (Tp Z Z Z Z (nf J)) Z ?_;exact h.1)(h:Y):A:=t ⟨h⟩
def _root_.ZfE(t:Wr Y->A:=by intro h;refine z71 L Z (fun u H hH hle=>zkm (by first | assumption | rfl) K hH (GlobM.mono M hle)) ?_;exact h.1)(h:Y):A:=t ⟨h⟩
def _root_.ZeV(t:Wr Y->A:=by intro h;refine z9 (Tp Z Z Z Z (ng J)) Z ?_;exact h.1)(h:Y):A:=t ⟨h⟩
def _root_.ZfQ(t:Wr Y->A:=by intro h;refine z71 L Z (fun u H hH _=>Qp K K K hH) ?_;exact h.1)(h:Y):A:=t ⟨h⟩
def _root_.ZfR(t:Wr Y->A:=by intro h;refine z71 L Z (fun u H hH hle=>zkg (by first | assumption | rfl) K hH (GlobM.mono M hle)) ?_;exact h.1)(h:Y):A:=t ⟨h⟩
def _root_.Zeq(t:Wr Y->A:=by exact fun h=>(ZaG∘Zl) h.1)(h:Y):A:=t ⟨h⟩
def _root_.ZcK(t:Wr Y->A:=by exact fun h=>(Zeq∘Zd1) h.1)(h:Y):A:=t ⟨h⟩
def _root_.Zdi(t:Wr Y->A:=by exact fun h=>(Zbp∘Zeh) h.1)(h:Y):A:=t ⟨h⟩
def _root_.Zbc(t:Wr Y->A:=by exact fun h=>(Zab∘Zao) h.1)(h:Y):A:=t ⟨h⟩
def _root_.Zc1(t:Wr Y->A:=by exact fun h=>(Zj∘Zdi) h.1)(h:Y):A:=t ⟨h⟩
def _root_.ZcP(t:Wr Y->A:=by exact fun h=>(ZcK∘Zdh) h.1)(h:Y):A:=t ⟨h⟩
def _root_.Zb5(t:Wr Y->A:=by exact fun h=>(Zbc∘Zdz) h.1)(h:Y):A:=t ⟨h⟩
def _root_.Zcj(t:Wr Y->A:=by exact fun h=>(ZW∘Zbr) h.1)(h:Y):A:=t ⟨h⟩
abbrev uv(t:U):Value:=.agg #[.string t.1.1.1,.string t.1.1.2,.string t.1.2,.string t.2.1.1,.string t.2.1.2,.string t.2.2]
abbrev tyU:TypeId:=34
abbrev US(l:List U)(fu:Bool):Value->Heap->Prop:=SlV tyU 6 (l.flatMap ucs) l.length fu
def af{t:U}(h:l[i]?=some t):((l.flatMap ucs).drop (i*6)).take 6=[.string t.1.1.1,.string t.1.1.2,.string t.1.2,.string t.2.1.1,.string t.2.1.2,.string t.2.2]:=gy Kd l i t h
def jf{t:U}(hz:TZ t)(hB:zwe B w):Ret zwf 100 [uv t] w B (fun v _=>v=.int .i64 (tE t)):=by
 obtain⟨⟨z1,z2,z3⟩,z4,z5,z6⟩:=hz;unfold tE;refine yl Tryz.func100 Z Tryz.ntmps100 (np Z) hB ?_;by_cases h:f5 [t.1.1.1,t.1.1.2,t.1.2]=0
 ·rw[na h];refine(Zq∘Zag∘ZaK∘Zc8) ?_;refine z71 L Z (fun u H hH _=>goal_ret K K K hH) ?_;refine(ZbY∘Zau∘ZE∘ZaK∘Zc8∘ZfQ∘Zc) ?_;exact yk2 L [.tmp 2]
 ·rw[nc h];refine(Zq∘Zag∘ZaK∘Zc8) ?_;refine z71 L Z (fun u H hH _=>goal_ret K K K hH) ?_;refine(ZbY∘Zac∘Zz∘Zc) ?_;exact yk2 L [.tmp 2]
def vo{a b:U}(hB:zwe B w):Ret zwf 101 [uv a,uv b] w B (fun v _=>v=.int .i64 (js a b)):=by
 refine yl Tryz.func101 Z Tryz.ntmps101 (np Z) hB ((ZaD∘Ze∘Zcl∘ZaA∘Zdu∘ZaA∘Zdu) ?_);refine z91 L Z (fun u H hH _=>Mp hH) ?_;refine(ZaA∘Zdu∘ZaA∘Zdu) ?_;refine z91 L Z (fun u H hH _=>cmpU_ret hH) ?_;refine ZdN (h:=?_);refine z9 (qd L Z Z (zn Z) Z Z Z (fun u H hH _ _ v hv=>Lc hH hv)) Z (Zy (h:=?_));exact yk2 L [.tmp 4]
def subjT_size(a b c:ByteArray):(Kl a b c).size<=a.size+b.size+c.size+2:=by
 unfold Kl;split
 ·rw[ol];omega
 ·rw[Bt];omega
def Nh{t:U}(hz:TZ t)(hB:zwe B w):Ret zwf 123 [uv t] w B (fun v _=>v=.string (tT t)):=by
 obtain⟨⟨z1,z2,z3⟩,z4,z5,z6⟩:=hz;have h0:sAt.size=1:=rfl;have h1:=Bt t.1.1.1 t.1.1.2 t.1.2;have h2:=subjT_size t.2.1.1 t.2.1.2 t.2.2;have h3:(Pk t.1.1.1 t.1.1.2 t.1.2).size+sAt.size<=9223372036854775807:=J;have h4:(Pk t.1.1.1 t.1.1.2 t.1.2++sAt).size+(Kl t.2.1.1 t.2.1.2 t.2.2).size<=9223372036854775807:=by rw[zr2];omega
 refine yl Tryz.func123 Z Tryz.ntmps123 (np Z) hB ((Zq∘Ze∘Zcl∘ZaA∘Zdu) ?_);refine z91 L Z (fun u H hH _=>Ch K K K hH) ?_;refine(Zei∘ZaA∘Zdu) ?_;refine z91 L Z (fun u H hH _=>No K K K hH) ?_;refine(Zei∘Zy) ?_;exact yk2 L [.tmp 2]
def ah{r:U×Int}(hr:ptA s=r)(hs:s.size<=1000000)(hB:zwe B w)(hM:GlobM B):
  Ret zwf 63 [.string s] w B (fun v _=>v=.tuple #[uv r.1,.int .i64 r.2]):=by
 subst hr;have hz:=Aj s 64;have hz1:(lq s 64).1.size<=1000000:=J;have hz2:(lq s 64).2.1.size<=1000000:=J;unfold ptA;refine yl Tryz.func63 Z Tryz.ntmps63 (np Z) hB ?_;cases h1:(lq s 64).2.2
 ·rw[nc (fun h=>by cases h.1)];refine(ZaB∘Zbb) ?_;refine z71 L Z (fun u H hH hle=>aa M hH (GlobM.mono M hle) M) ?_;refine(ZcB∘Zbz∘Zn∘Zo∘ZcF∘Zf∘Zr∘Z2∘Zcn∘Zaq) ?_;refine yk1 L [.cell 2 34,.tmp 3] fun u H hH hle=>?_;exact⟨_,ya Z,rfl,rfl⟩
 ·cases h2:P8 (lq s 64).2.1 64
  ·rw[na ⟨rfl,rfl⟩];rcases hp:pgA (lq s 64).1 with ⟨a,b,c,e⟩
   dsimp only;by_cases he:e=0
   ·rw[na he];rcases hq:psA (lq s 64).2.1 with ⟨a',b',c',e'⟩
    dsimp only;by_cases he':e'=0
    ·rw[na he'];refine(ZaB∘Zbb) ?_;refine z71 L Z (fun u H hH hle=>aa M hH (GlobM.mono M hle) M) ?_;refine(ZcB∘Zbz∘Zn∘Zo∘Zb) ?_;refine z71 L Z (fun u H hH _=>vr hH M) ?_;refine(Zba∘Zt∘ZfE∘Zcj∘Zh∘ZC∘Zau∘Z6∘ZfR∘Zcj∘Zh∘Za5∘Zau∘ZaH∘Zeo∘Zeo∘Zcn∘Zaq) ?_;refine yk1 L [.cell 2 34,.tmp 3] fun u H hH hle=>?_;exact⟨_,ya Z,rfl,rfl⟩
    ·rw[nc he'];refine(ZaB∘Zbb) ?_;refine z71 L Z (fun u H hH hle=>aa M hH (GlobM.mono M hle) M) ?_;refine(ZcB∘Zbz∘Zn∘Zo∘Zb) ?_;refine z71 L Z (fun u H hH _=>vr hH M) ?_;refine(Zba∘Zt∘ZfE∘Zcj∘Zh∘ZC∘Zau∘Z6∘ZfR∘Zcj∘Zh∘Za5∘Zac∘ZM∘Zcn∘Za∘Zaq) ?_;refine yk1 L [.cell 2 34,.tmp 3] fun u H hH hle=>?_;exact⟨_,ya Z,rfl,rfl⟩
   ·rw[nc he];refine(ZaB∘Zbb) ?_;refine z71 L Z (fun u H hH hle=>aa M hH (GlobM.mono M hle) M) ?_;refine(ZcB∘Zbz∘Zn∘Zo∘Zb) ?_;refine z71 L Z (fun u H hH _=>vr hH M) ?_;refine(Zba∘Zt∘ZfE∘Zcj∘Zh∘ZC∘Zac∘Z5∘Zcn∘Za∘Zaq) ?_;refine yk1 L [.cell 2 34,.tmp 3] fun u H hH hle=>?_;exact⟨_,ya Z,rfl,rfl⟩
  ·rw[nc (fun h=>by cases h.2)];refine(ZaB∘Zbb) ?_;refine z71 L Z (fun u H hH hle=>aa M hH (GlobM.mono M hle) M) ?_;refine(ZcB∘Zbz∘Zn∘Zo∘Zb) ?_;refine z71 L Z (fun u H hH _=>vr hH M) ?_;refine(Zf∘Zr∘Z2∘Zcn∘Zaq) ?_;refine yk1 L [.cell 2 34,.tmp 3] fun u H hH hle=>?_;exact⟨_,ya Z,rfl,rfl⟩
def Dz(hl:l.length<=1000000){r:Bool}(hr:isB l=r){v:Value}(hB:zwe B w)(hv:US l fu v B):
  Ret zwf 280 [v] w B (fun v _=>v=.bool r):=by
 subst hr;refine yl Tryz.func280 Z Tryz.ntmps280 (np Z) hB (ku 0 (US l fu) Z ns hv ((ZT∘Zag∘Zae) ?_))
 refine xu (fun i:Nat=>[(0,.sat (US l fu)),(3,.is (.int .i64 (i+1:Nat)))])
  (fun i=>∀ j a b,j<i->l[j]?=some a->l[j+1]?=some b->js a b<0) (fun i=>l.length-i) 0 (fun j a b h=>by omega) ⟨rfl,rfl,nm⟩ ?_
 rintro i hall;by_cases hlt:i+1<l.length
 ·obtain⟨a,ha⟩:=xj (show i<l.length by omega);obtain⟨b,hb⟩:=xj hlt;have hca:=af ha;have hcb:=af hb;have hsub:IntKind.i64.wrap (((i+1:Nat):Int)-1)=(i:Int):=xb J J |>.trans J;by_cases hc:js a b<0
  ·refine(Zd∘Zn∘Zc1∘Zdr∘Zeq∘Zd2∘Zd1∘Zdh∘ZcP) ?_;refine z91 L Z (fun u H hH _=>vo hH) ?_;refine(ZeV∘Zbv∘ZbR∘Za0∘Zz∘Zaa) ?_
   exact yr (x:=i) (i+1) (fun j a' b' hj h1 h2=>by
    by_cases hji:j=i
    ·subst hji;rw[ha] at h1;rw[hb] at h2;cases h1;cases h2;exact hc
    ·exact hall j a' b' J h1 h2) J ⟨Z,Z,nm⟩
  ·rw[zn9 ha hb hc];refine(Zd∘Zn∘Zc1∘Zdr∘Zeq∘Zd2∘Zd1∘Zdh∘ZcP) ?_;refine z91 L Z (fun u H hH _=>vo hH) ?_;refine(Ze6∘ZcI∘Zi∘ZF∘Zc) ?_;exact yk2 L [.tmp 2]
 ·rw[zlh fun j a b h1 h2=>hall j a b (by
   have:j+1<l.length:=by
    rcases m5 (j+1) l.length with h | h
    ·exact h
    ·rw[zr6 h] at h2;cases h2
   omega) h1 h2]
  refine(Zd∘Zn∘Zj∘Zb5∘Z5∘Zc) ?_;exact yk2 L [.tmp 2]
end Go.V.L2
namespace Go.V
def _root_.ZcV(t:Wr Y->A:=by intro h;refine z7 (To Z Z Z Z (ng J)) Z ?_;exact h.1)(h:Y):A:=t ⟨h⟩
def _root_.Zda(t:Wr Y->A:=by intro h;refine z7 (To Z Z Z Z (nf J)) Z ?_;exact h.1)(h:Y):A:=t ⟨h⟩
def _root_.Zbs(t:Wr Y->A:=by exact fun h=>(Zd∘ZcU) h.1)(h:Y):A:=t ⟨h⟩
def _root_.ZbZ(t:Wr Y->A:=by exact fun h=>(Za∘ZcG) h.1)(h:Y):A:=t ⟨h⟩
def an(hs:s.size<=9223372036854775807)(hB:zwe B w):
  Ret zwf 175 [.string s] w B (fun v _=>v=.int .i64 (chk s)):=by
 refine yl Tryz.func175 Z Tryz.ntmps175 (np Z) hB ?_;by_cases h0:1<=s.size/\s.size<=16
 ·obtain⟨h1,h2⟩:=h0;refine(Zw∘Za∘ZP∘ZN∘Zb∘ZP∘Zda∘Zf∘Zh∘ZL∘Zae) ?_
  refine xu (fun p:Nat×Bool=>[(0,.is (.string s)),(3,.is (.bool p.2)),(4,.is (.int .i64 p.1))])
   (fun p=>p.1<=s.size/\(p.2=true->(s.data.toList.take p.1).all okB=true)/\(p.2=false->chk s=6)) (fun p=>s.size-p.1) (0,true) ⟨mb _,fun _=>by simp,fun h=>by cases h⟩ ⟨rfl,rfl,rfl,nm⟩ ?_
  rintro⟨k,b⟩ ⟨hk,hall,hbad⟩;dsimp only at hk hall hbad |-;by_cases hlt:k<s.size
  ·cases b with
   | false=>
    refine(Zbs∘ZP∘ZS∘Zb∘Zf∘Zao∘ZbH∘ZD∘Zs∘Z0∘Zc) ?_;refine yk1 L [.tmp 2] fun u H hH hle=>?_;exact nh _ (hbad Z).symm
   | true=>
    obtain⟨c,hc⟩:=getElem?_lt hlt;have hu:=zjn c;by_cases a1:97<=(c.toNat:Int)
    ·by_cases a4:(c.toNat:Int)<=122
     ·refine(Zbs∘ZP∘ZS∘Zb∘Zb4∘Zbw∘ZbG∘Za8∘ZbJ∘Zu∘Za8∘Zda∘Zf∘Za9∘Zaw∘Zaw∘Zaw∘Zf∘ZaT∘Za0∘Zt∘Zaa) ?_;exact yr (x:=(k,true)) (k+1,true) ⟨hlt,fun _=>C8 hc (znm J J) (hall Z),fun h=>(by cases h)⟩ G ⟨Z,Z,Z,nm⟩
     ·refine(Zbs∘ZP∘ZS∘Zb∘Zb4∘Zbw∘ZbG∘Za8∘ZbJ∘Zu∘Za8∘ZcV∘Zf∘Zu∘Za8∘ZbJ∘Zu∘Za8∘ZcV∘Zf∘Zf∘ZaT∘Za0∘Zt∘Zaa) ?_;exact yr (x:=(k,true)) (k+1,false) ⟨hlt,fun h=>(by cases h),fun _=>Hw hc (znn J)⟩ G ⟨Z,Z,Z,nm⟩
    ·by_cases a2:48<=(c.toNat:Int)
     ·by_cases a3:(c.toNat:Int)<=57
      ·refine(Zbs∘ZP∘ZS∘Zb∘Zb4∘Zbw∘ZbG∘Za8∘Zav∘Za9∘Zf∘Zu∘Za8∘ZbJ∘Zu∘Za8∘Zda∘Zf∘Zf∘ZaT∘Za0∘Zt∘Zaa) ?_;exact yr (x:=(k,true)) (k+1,true) ⟨hlt,fun _=>C8 hc (znl J J) (hall Z),fun h=>(by cases h)⟩ G ⟨Z,Z,Z,nm⟩
      ·refine(Zbs∘ZP∘ZS∘Zb∘Zb4∘Zbw∘ZbG∘Za8∘Zav∘Za9∘Zf∘Zu∘Za8∘ZbJ∘Zu∘Za8∘ZcV∘Zf∘Zf∘ZaT∘Za0∘Zt∘Zaa) ?_;exact yr (x:=(k,true)) (k+1,false) ⟨hlt,fun h=>(by cases h),fun _=>Hw hc (zno J J)⟩ G ⟨Z,Z,Z,nm⟩
     ·refine(Zbs∘ZP∘ZS∘Zb∘Zb4∘Zbw∘ZbG∘Za8∘Zav∘Za9∘Zf∘Zu∘Za8∘Zav∘Za9∘Zf∘Zf∘ZaT∘Za0∘Zt∘Zaa) ?_;exact yr (x:=(k,true)) (k+1,false) ⟨hlt,fun h=>(by cases h),fun _=>Hw hc (znp J J)⟩ G ⟨Z,Z,Z,nm⟩
  ·cases b with
   | false=>
    refine(Zbs∘ZP∘Zab∘ZbZ∘Zao∘ZbH∘ZD∘Zs∘Z0∘Zc) ?_;refine yk1 L [.tmp 2] fun u H hH hle=>?_;exact nh _ (hbad Z).symm
   | true=>
    refine(Zbs∘ZP∘Zab∘ZbZ∘Zao∘ZbH∘ZD∘Zr∘Z7∘Zc) ?_;refine yk1 L [.tmp 2] fun u H hH hle=>?_;exact nh _ (zd7 h1 h2 (Uy J (hall Z))).symm
 ·have hbad:=Ry h0;by_cases h1:1<=s.size
  ·have h2:16<s.size:=J;refine(Zw∘Za∘ZP∘ZN∘Zb∘ZP∘ZcV∘Zf∘Zh∘ZL∘Zae) ?_;refine xu (fun _:Unit=>[(0,.is (.string s)),(3,.is (.bool false)),(4,.is (.int .i64 0))]) (fun _=>True) (fun _=>0) () trivial ⟨Z,Z,Z,nm⟩ ?_;rintro _ _;refine(Zbs∘ZP∘ZS∘Zb∘Zf∘Zao∘ZbH∘ZD∘Zs∘Z0∘Zc) ?_;refine yk1 L [.tmp 2] fun u H hH hle=>?_;exact nh _ hbad.symm
  ·refine(Zw∘Za∘ZP∘ZG∘ZbF∘Zh∘ZL∘Zae) ?_;refine xu (fun _:Unit=>[(0,.is (.string s)),(3,.is (.bool false)),(4,.is (.int .i64 0))]) (fun _=>True) (fun _=>0) () trivial ⟨Z,Z,Z,nm⟩ ?_;rintro _ _;refine(Zbs∘ZP∘Zab∘ZbZ∘Zao∘ZbH∘ZD∘Zs∘Z0∘Zc) ?_;refine yk1 L [.tmp 2] fun u H hH hle=>?_;exact nh _ hbad.symm
def max2(a b:ByteArray):(if chk b>chk a then chk b else chk a)=f5 [a,b]:=by
 simp only[f5];rcases vt a with h | h<;>rcases vt b with h' | h'<;>simp [h,h']
def zp6(a b c:ByteArray):(if chk c>f5 [a,b] then chk c else f5 [a,b])=f5 [a,b,c]:=by
 simp only[f5];rcases vt a with h | h<;>rcases vt b with h' | h'<;>rcases vt c with h'' | h''<;>simp [h,h',h'']
def cr(ha:a.size<=9223372036854775807)(hb:b.size<=9223372036854775807)(hB:zwe B w):
  Ret zwf 174 [.agg #[.string a,.string b]] w B (fun v _=>v=.int .i64 (f5 [a,b])):=by
 refine yl Tryz.func174 Z Tryz.ntmps174 (np Z) hB ((Zq∘Ze∘Zcl∘Zbi) ?_);refine z91 L Z (fun u H hH _=>an (by first | omega | decide) hH) ?_;refine Zbi (h:=?_);refine z91 L Z (fun u H hH _=>an (by first | omega | decide) hH) ?_;refine z9 (oe Z Z Z Z Z) Z (Zy (h:=?_));refine yk1 L [.tmp 2] fun u H hH hle=>?_;exact nh _ (max2 a b)
def za3(ha:a.size<=9223372036854775807)(hb:b.size<=9223372036854775807)(hc:c.size<=9223372036854775807)(hB:zwe B w):
  Ret zwf 125 [.agg #[.string a,.string b,.string c]] w B (fun v _=>v=.int .i64 (f5 [a,b,c])):=by
 refine yl Tryz.func125 Z Tryz.ntmps125 (np Z) hB ((Zq∘Ze∘Zcl∘ZaA∘Zde) ?_);refine z91 L Z (fun u H hH _=>cr K K hH) ?_;refine Zbi (h:=?_);refine z91 L Z (fun u H hH _=>an (by first | omega | decide) hH) ?_;refine z9 (oe Z Z Z Z Z) Z (Zy (h:=?_));refine yk1 L [.tmp 2] fun u H hH hle=>?_;exact nh _ (zp6 a b c)
def _root_.ZcQ(t:Wr Y->A:=by intro h;refine qp (id:=3) [] kr T ?_;exact h.1)(h:Y):A:=t ⟨h⟩
def _root_.Zb6(t:Wr Y->A:=by exact fun h=>(Z8∘Zs) h.1)(h:Y):A:=t ⟨h⟩
def zfs(h:c.size=0):c=⟨#[]⟩:=by
 obtain⟨⟨l⟩⟩:=c;have h':l.length=0:=h;rw[zrv h']
def Oa(ha:a.size<=9223372036854775807)(hb:b.size<=9223372036854775807)(hc:c.size<=9223372036854775807)(hB:zwe B w):
  Ret zwf 126 [.agg #[.string a,.string b,.string c]] w B (fun v _=>v=.int .i64 (r6 a b c)):=by
 refine yl Tryz.func126 Z Tryz.ntmps126 (np Z) hB ?_;by_cases h:c.size=0
 ·refine(Zq∘Zag∘Z3∘ZP∘Zx∘ZaM∘Zc9) ?_;refine z71 L Z (fun u H hH _=>cr K K hH) ?_;refine Zc (h:=?_);refine yk1 L [.tmp 2] fun u H hH hle=>?_;exact nh (Value.int .i64) (show f5 [a,b]=r6 a b c from(na (zfs h)).symm)
 ·refine(Zq∘Zag∘Z3∘ZP∘Zb6∘ZcQ∘ZaA∘Zde) ?_;refine z91 L Z (fun u H hH _=>cr K K hH) ?_;refine Zbi (h:=?_);refine z91 L Z (fun u H hH _=>an (by first | omega | decide) hH) ?_;refine z9 (oe Z Z Z Z Z) Z (Zy (h:=?_));refine yk1 L [.tmp 2] fun u H hH hle=>?_;exact nh (Value.int .i64) ((zp6 a b c).trans (show f5 [a,b,c]=r6 a b c from(nc (fun e=>h (by subst e;rfl))).symm))
end Go.V
namespace Go.V.L2
def _root_.ZbK(t:Wr Y->A:=by intro h;refine z9 (qg L (vs:=[_,_,_,_,_,_]) (qz Z) Z Z Z Z ⟨_,rfl⟩) Z ?_;exact h.1)(h:Y):A:=t ⟨h⟩
def _root_.ZfS(t:Wr Y->A:=by intro h;refine z91 L Z (fun u H hH _=>Oa K K K hH) ?_;exact h.1)(h:Y):A:=t ⟨h⟩
def _root_.ZfT(t:Wr Y->A:=by intro h;refine z91 L Z (fun u H hH _=>za3 K K K hH) ?_;exact h.1)(h:Y):A:=t ⟨h⟩
def _root_.Zfi(t:Wr Y->A:=by intro h;refine z9 (Lo Z Z Z Z zqb M Z) Z ?_;exact h.1)(h:Y):A:=t ⟨h⟩
def _root_.ZcL(t:Wr Y->A:=by exact fun h=>(Zd∘Zt) h.1)(h:Y):A:=t ⟨h⟩
def _root_.Zca(t:Wr Y->A:=by exact fun h=>(Zar∘ZK) h.1)(h:Y):A:=t ⟨h⟩
def _root_.Zco(t:Wr Y->A:=by exact fun h=>(ZcL∘Zc1) h.1)(h:Y):A:=t ⟨h⟩
def Dr:∀ (l:List ByteArray),f5 l=0\/f5 l=6
 | []=>.inl rfl
 | s::l=>by
  simp only[f5];split
  ·exact Dr l
  ·rename_i h;exact .inr ((vt s).resolve_left h)
def Np(a b c:ByteArray):r6 a b c=0\/r6 a b c=6:=by
 unfold r6;split<;>exact Dr _
def zig(t:U):(if r6 t.2.1.1 t.2.1.2 t.2.2>f5 [t.1.1.1,t.1.1.2,t.1.2] then r6 t.2.1.1 t.2.1.2 t.2.2 else f5 [t.1.1.1,t.1.1.2,t.1.2])=tE t:=by
 unfold tE;rcases Dr [t.1.1.1,t.1.1.2,t.1.2] with h | h<;>rcases Np t.2.1.1 t.2.1.2 t.2.2 with h' | h'<;>rw[h,h']<;>decide
def eqU{t v:U}{r:Bool}(e:decide (t=v)=r):ou [0,0,0,0,0,0] [.string t.1.1.1,.string t.1.1.2,.string t.1.2,.string t.2.1.1,.string t.2.1.2,.string t.2.2] [.string v.1.1.1,.string v.1.1.2,.string v.1.2,.string v.2.1.1,.string v.2.1.2,.string v.2.2]=some r:=by
 subst e;simp only[ou,eqC];have h:=@zq3 t v;by_cases hh:t=v
 ·subst hh;simp
 ·rw[ng hh];have h':=fun x=>hh (h.1 x);by_cases a1:t.1.1.1=v.1.1.1
  ·by_cases a2:t.1.1.2=v.1.1.2
   ·by_cases a3:t.1.2=v.1.2
    ·by_cases a4:t.2.1.1=v.2.1.1
     ·by_cases a5:t.2.1.2=v.2.1.2
      ·by_cases a6:t.2.2=v.2.2
       ·exact ni ⟨a1,a2,a3,a4,a5,a6⟩ h'
       ·simp [a6]
      ·simp [a5]
     ·simp [a4]
    ·simp [a3]
   ·simp [a2]
  ·simp [a1]
def eq3{g h:Sf}{r:Bool}(e:decide (g=h)=r):ou [0,0,0] [.string g.1.1,.string g.1.2,.string g.2] [.string h.1.1,.string h.1.2,.string h.2]=some r:=
 zqa (by rw[<-e];exact decide_eq_decide.2 ⟨fun⟨a,b,c⟩=>Prod.ext (Prod.ext a b) c,fun e=>by subst e;exact⟨rfl,rfl,rfl⟩⟩)
def zol{a b:U}(h:a.1≠b.1):js a b=zoo a.1 b.1:=by
 unfold js zep;rw[zbk,if_neg fun e=>h (cmp3_ord.eq _ _ e)]
def zok{a b:U}(h:a.1=b.1):js a b=zoo a.2 b.2:=by
 unfold js zep;rw[zbk,if_pos (by rw[h];exact cmp3_ord.refl _)]
def Nn{l:List α}{g:α}(h:l[k]?=some g):l.take (k+1)=l.take k++[g]:=by rw[zr4,h];rfl
def im{l:List α}{g:α}(h:l[k]?=some g):l.drop k=g::l.drop (k+1):=by
 obtain⟨hl,he⟩:=zs2.1 h;rw[zsc hl,he]
def du{s:Nat}{r:List U}{t:U}(h:κ s=some (.own (SlR tyU 6 (r.length+1) (r.flatMap ucs++[.string t.1.1.1,.string t.1.1.2,.string t.1.2,.string t.2.1.1,.string t.2.1.2,.string t.2.2])))):κ s=some (.own (SlR tyU 6 (r++[t]).length ((r++[t]).flatMap ucs))):=by
 rw[h,zr5,nr];rfl
def cq{t:U}(hz:TZ t)(hB:zwe B w):Ret zwf 58 [uv t] w B (fun v _=>v=.int .i64 (tE t)):=by
 obtain⟨⟨z1,z2,z3⟩,z4,z5,z6⟩:=hz;have hm:=zig t;refine yl Tryz.func58 Z Tryz.ntmps58 (np Z) hB ((Zq∘Ze∘Zcl∘ZaA∘Zdu∘ZfT∘ZaA∘Zdu∘ZfS) ?_);refine z9 (oe Z Z Z Z M) Z (Zy (h:=?_));exact yk2 L [.tmp 2]
def N9{a b:U}(ha:TZ a)(hb:TZ b)(hB:zwe B w):Ret zwf 152 [uv a,uv b] w B (fun v _=>v=.int .i64 (js a b)):=by
 obtain⟨⟨z1,z2,z3⟩,z4,z5,z6⟩:=ha;obtain⟨⟨y1,y2,y3⟩,y4,y5,y6⟩:=hb;refine yl Tryz.func152 Z Tryz.ntmps152 (np Z) hB ?_;by_cases h:a.1=b.1
 ·have hq:=eq3 (nf h);rw[zok h];refine(ZaD∘Zag∘ZaK∘Zc8∘ZaK∘Zc8) ?_;refine z7 (Lo Z Z Z Z zqz M Z) Z ((Zs∘Z2∘ZaK∘Zc8∘ZaK∘Zc8) ?_);refine z71 L Z (fun u H hH _=>za7 K K K K K K hH) ?_;refine Zc (h:=?_);exact yk2 L [.tmp 4]
 ·have hq:=eq3 (ng h);rw[zol h];refine(ZaD∘Zag∘ZaK∘Zc8∘ZaK∘Zc8) ?_;refine z7 (Lo Z Z Z Z zqz M Z) Z ((ZaM∘ZaK∘Zc8∘ZaK∘Zc8) ?_);refine z71 L Z (fun u H hH _=>za8 K K K K K K hH) ?_;refine Zc (h:=?_);exact yk2 L [.tmp 4]
def jp{t:U}(hl:l.length<=1000000)(he:(if t∈l then 1 else 0:Int)=e){v:Value}(hB:zwe B w)(hv:US l fu v B):
  Ret zwf 153 [v,uv t] w B (fun v _=>v=.int .i64 e):=by
 subst he;refine yl Tryz.func153 Z Tryz.ntmps153 (np Z) hB (ku 0 (US l fu) Z ns hv ((Zq∘Zag∘Zae) ?_))
 refine xu (fun i:Nat=>[(0,.sat (US l fu)),(3,.sat (At [.string t.1.1.1,.string t.1.1.2,.string t.1.2,.string t.2.1.1,.string t.2.1.2,.string t.2.2] tyU 0)),(5,.is (.int .i64 i))])
  (fun i=>i<=l.length/\(t∈l↔t∈l.drop i)) (fun i=>l.length-i) 0 ⟨mb _,Iff.rfl⟩ ⟨rfl,rfl,rfl,nm⟩ ?_
 rintro i ⟨hi,he⟩;by_cases hlt:i<l.length
 ·obtain⟨y,hy⟩:=xj hlt;have hc:=af hy;rw[im hy] at he;by_cases hyt:y=t
  ·have hq:=eqU (nf hyt);rw[na (he.2 (by rw[hyt];exact mc ..))];refine(Zd∘Zn∘Zc1∘Zdr∘ZcP∘ZbK) ?_;refine z9 (Rj Z Z Z Z zqb M Z) Z ((ZcI∘Zi∘ZF∘Zc) ?_);exact yk2 L [.tmp 4]
  ·have hq:=eqU (ng hyt);refine(Zd∘Zn∘Zc1∘Zdr∘ZcP∘ZbK) ?_;refine z9 (Rj Z Z Z Z zqb M Z) Z ((Zbv∘ZbR∘Za0∘Zz∘Zaa) ?_);exact yr (x:=i) (i+1) ⟨hlt,he.trans ⟨fun h=>(nz.1 h).resolve_left fun e=>hyt e.symm,fun h=>mf _ h⟩⟩ J ⟨Z,Z,Z,nm⟩
 ·obtain rfl:i=l.length:=by omega
  rw[ztz] at he;rw[nc fun h=>by cases he.1 h];refine(Zd∘Zn∘Zj∘Zb5∘Z5∘Zc) ?_;exact yk2 L [.tmp 4]
def Bc{a b:List U}{fa fb:Bool}(hla:a.length<=1000000)(hlb:b.length<=1000000)(he:(if a=b then 1 else 0:Int)=e)(hB:zwe B w)(ha:US a fa va B)(hb:US b fb vb B):
  Ret zwf 18 [va,vb] w B (fun v _=>v=.int .i64 e):=by
 subst he;refine yl Tryz.func18 Z Tryz.ntmps18 (np Z) hB (ku 0 (US a fa) Z ns ha (ku 1 (US b fb) Z ns hb ?_));by_cases hlen:a.length=b.length
 ·refine(ZT∘ZbU∘Zj∘Zca∘Z2∘Zae) ?_
  refine xu (fun i:Nat=>[(0,.sat (US a fa)),(1,.sat (US b fb)),(5,.is (.int .i64 i))])
   (fun i=>i<=a.length/\a.take i=b.take i) (fun i=>a.length-i) 0 ⟨mb _,rfl⟩ ⟨rfl,rfl,rfl,nm⟩ ?_
  rintro i ⟨hi,he⟩;by_cases hlt:i<a.length
  ·obtain⟨x,hx⟩:=xj hlt;obtain⟨y,hy⟩:=xj (show i<b.length by omega);have hcx:=af hx;have hcy:=af hy;by_cases hxy:x=y
   ·have hq:=eqU (nf hxy);refine(Zco∘Zb7∘ZcP∘ZcP∘Zfi∘Zbv∘ZbR∘Za0∘ZC∘Zaa) ?_;exact yr (x:=i) (i+1) ⟨hlt,by rw[Nn hx,Nn hy,he,hxy]⟩ J ⟨Z,Z,Z,nm⟩
   ·have hq:=eqU (ng hxy);have h1:a≠b:=fun e=>by subst e;rw[hx] at hy;exact hxy (Option.some.inj hy)
    rw[nc h1];refine(Zco∘Zb7∘ZcP∘ZcP∘Zfi∘ZcI∘ZbW∘Zc) ?_;exact yk2 L [.tmp 4]
  ·obtain rfl:i=a.length:=by omega
   have h1:a=b:=by rw[m4,hlen,m4] at he;exact he
   rw[na h1];refine(ZcL∘Zj∘Zb5∘Z0∘Zc) ?_;exact yk2 L [.tmp 4]
 ·have h1:a≠b:=fun e=>hlen (by rw[e]);rw[nc h1];refine(ZT∘ZbU∘Zj∘Zac∘ZL∘Zc) ?_;exact yk2 L [.tmp 4]
end Go.V.L2
namespace Go.V
def noB(s:ByteArray)(c:UInt8):Prop:=c∉s.data.toList
def e7(r:List UInt8)(c:UInt8):∀ (l:List UInt8),c∉l->Lib.indexByte (l++c::r) c=l.length
 | [],_=>by simp [Lib.indexByte]
 | b::l,h=>by
  have h1:¬ (b == c)=true:=fun e=>h (by rw[beq_iff_eq] at e;rw[e];exact mc ..);have ih:=e7 r c l (fun e=>h (mf _ e));rw[zsa,Lib.indexByte,nc h1,ih,nc (by rw[beq_iff_eq];omega)];simp
def ot(c:UInt8):∀ (l:List UInt8),c∉l->Lib.indexByte l c= -1
 | [],_=>rfl
 | b::l,h=>by
  have h1:¬ (b == c)=true:=fun e=>h (by rw[beq_iff_eq] at e;rw[e];exact mc ..);rw[Lib.indexByte,nc h1,ot c l (fun e=>h (mf _ e))];rfl
def zlr{l r:List UInt8}{c:UInt8}(h:c∉l):Lib.cut (l++c::r) [c]=(l,r,true):=by
 unfold Lib.cut;rw[Lib.index_one,e7 r c l h,na J];simp
def zoi{l:List UInt8}{c:UInt8}(h:c∉l):Lib.cut l [c]=(l,[],false):=by
 unfold Lib.cut;rw[Lib.index_one,ot c l h,nc J]
def jl(a b:ByteArray):(a++b).data.toList=a.data.toList++b.data.toList:=by
 rw[ByteArray.data_append,Array.toList_append]
def uq(h:a.data.toList=b.data.toList):a=b:=by
 obtain⟨⟨x⟩⟩:=a;obtain⟨⟨y⟩⟩:=b;simp at h;subst h;rfl
def ba_of(a:ByteArray):(⟨a.data.toList.toArray⟩:ByteArray)=a:=by obtain⟨⟨l⟩⟩:=a;rfl
def Dn{c:UInt8}(h:noB a c):lq (a++⟨#[c]⟩++b) c=(a,b,true):=by
 have e:(a++⟨#[c]⟩++b).data.toList=a.data.toList++c::b.data.toList:=by rw[jl,jl];simp
 unfold lq;rw[e,zlr h]
def Rx{c:UInt8}(h:noB a c):lq a c=(a,⟨#[]⟩,false):=by
 unfold lq;rw[zoi h]
def Rr{c:UInt8}(h:noB a c):P8 a c=false:=by
 unfold P8;rw[ot c _ h];rfl
def zls{c:UInt8}(h:noB a c):zi3 a c=0:=by
 unfold zi3 Lib.countByte;exact ztd h
def zor(h:f5 [a,b]=0):chk a=0/\chk b=0:=by
 simp only[f5] at h;rcases vt a with h1 | h1<;>rcases vt b with h2 | h2<;>simp [h1,h2] at h |-
def Yg(h:f5 [a,b,c]=0):chk a=0/\chk b=0/\chk c=0:=by
 simp only[f5] at h;rcases vt a with h1 | h1<;>rcases vt b with h2 | h2<;>rcases vt c with h3 | h3<;>simp [h1,h2,h3] at h |-
def A7(h:r6 a b c=0):chk a=0/\chk b=0/\(c=⟨#[]⟩\/chk c=0):=by
 unfold r6 at h;split at h
 ·rename_i hc;exact⟨(zor h).1,(zor h).2,.inl hc⟩
 ·exact⟨(Yg h).1,(Yg h).2.1,.inr (Yg h).2.2⟩
def subjT_size(a b c:ByteArray):(Kl a b c).size<=a.size+b.size+c.size+2:=by
 unfold Kl;split
 ·rw[ol];omega
 ·rw[Bt];omega
def _root_.ZbB(t:Wr Y->A:=by intro h;refine z9 (yd Z Z Z Z M) Z ?_;exact h.1)(h:Y):A:=t ⟨h⟩
def _root_.ZcW(t:Wr Y->A:=by intro h;refine z7 (x8 Z Z Z Z (xb J J)) Z ?_;exact h.1)(h:Y):A:=t ⟨h⟩
def _root_.Zdk(t:Wr Y->A:=by intro h;refine qp (id:=8) [] kr T ?_;exact h.1)(h:Y):A:=t ⟨h⟩
def _root_.Zdl(t:Wr Y->A:=by intro h;refine z9 (qu L Z Z Z Z) Z ?_;exact h.1)(h:Y):A:=t ⟨h⟩
def _root_.ZeW(t:Wr Y->A:=by intro h;refine z9 (qg L (vs:=[_,_]) (ya Z) Z Z Z Z ⟨_,rfl⟩) Z ?_;exact h.1)(h:Y):A:=t ⟨h⟩
def _root_.Ze7(t:Wr Y->A:=by intro h;refine qp (id:=5) [] kr T ?_;exact h.1)(h:Y):A:=t ⟨h⟩
def _root_.ZeH(t:Wr Y->A:=by intro h;refine qp (id:=7) [] kr T ?_;exact h.1)(h:Y):A:=t ⟨h⟩
def _root_.Zb0(t:Wr Y->A:=by exact fun h=>(ZW∘ZaI) h.1)(h:Y):A:=t ⟨h⟩
def _root_.Zcp(t:Wr Y->A:=by exact fun h=>(Zd∘Zz) h.1)(h:Y):A:=t ⟨h⟩
def fi(c:UInt8):List UInt8->Nat
 | []=>0
 | x::l=>if x=c then 0 else fi c l+1
def zoe{c:UInt8}:∀ {l:List UInt8},c∉l->fi c l=l.length
 | [],_=>rfl
 | x::l,h=>by
  rw[fi,nc fun e=>h (by rw[e];exact mc ..),zoe fun e=>h (mf _ e),ma]
def Ud{c:UInt8}{q:List UInt8}:∀ {p:List UInt8},c∉p->fi c (p++q)=p.length+fi c q
 | [],_=>by simp
 | x::p,h=>by
  rw[zsa,fi,nc fun e=>h (by rw[e];exact mc ..),Ud fun e=>h (mf _ e),ma];omega
def zof{c:UInt8}{q:List UInt8}:∀ {p:List UInt8},c∈p->fi c (p++q)<p.length
 | x::p,h=>by
  rw[zsa,fi];split
  ·simp
  ·rename_i hx;have:=zof (q:=q) ((nz.1 h).resolve_left fun e=>hx e.symm);simp only[ma];omega
def Ba(s:ByteArray)(c:UInt8):noB s c\/∃ a b,s=a++⟨#[c]⟩++b/\noB a c:=by
 by_cases h:c∈s.data.toList
 ·obtain⟨p,q,e,hp⟩:=List.eq_append_cons_of_mem h;refine .inr ⟨⟨p.toArray⟩,⟨q.toArray⟩,uq ?_,by unfold noB;simpa using hp⟩;rw[jl,jl,e];simp
 ·exact .inl h
def ib(p q r:ByteArray)(i j:Nat)(hi:i=p.size)(hj:j=p.size+q.size):(p++q++r).extract i j=q:=by
 subst hi hj;apply uq;rw[ByteArray.data_extract,Array.toList_extract,List.extract,jl,jl];have h1:p.data.toList.length=p.size:=j8 p;have h2:q.data.toList.length=q.size:=j8 q;rw[mp,<-h1,zvi,List.take_left' J]
def Mh{c:UInt8}(h:¬ noB a c):P8 a c=true:=by
 rcases Ba a c with h1 | ⟨p,q,rfl,hp⟩
 ·exact ni h1 h
 ·unfold P8;have e:(p++⟨#[c]⟩++q).data.toList=p.data.toList++c::q.data.toList:=by rw[jl,jl];simp
  rw[e,e7 _ _ _ hp];simp
def rp1(s:ByteArray):ByteArray×ByteArray×ByteArray×Bool×Int:=
 match gh s with
 | none=>(dp,dp,dp,false,5)
 | some (x,y,z,d)=>(x,y,z,d,if d=true then f5 [x,y,z] else f5 [x,y])
def De(a b:ByteArray)(c:UInt8):(a++⟨#[c]⟩++b).data.toList=a.data.toList++c::b.data.toList:=by rw[jl,jl];simp
def Lq(a b:ByteArray)(c:UInt8):(a++⟨#[c]⟩++b).size=a.size+1+b.size:=by rw[zr2,zr2];rfl
def Ps{c:UInt8}(h:¬ noB s c):0<s.data.toList.count c:=zs4.2 (Classical.not_not.1 h)
def fe{c:UInt8}{a:Nat}(ha:fi c s.data.toList=a)(hn:s.data.toList.count c=n)(hs:s.size<=1000000)(hB:zwe B w):
  Ret zwf 173 [.string s,.int .u8 c.toNat] w B (fun v _=>v=.tuple #[.int .i64 a,.int .i64 n]):=by
 subst ha hn;have hlen:=j8 s;refine yl Tryz.func173 Z Tryz.ntmps173 (np Z) hB ((Za6∘Zbb∘ZP∘Zbl∘Zn∘ZP∘ZcW∘Zae) ?_)
 refine xu (fun x:Nat×Nat×Nat×Int=>[(0,.is (.string s)),(1,.is (.int .u8 c.toNat)),(6,.is (.int .i64 x.2.1)),(7,.is (.int .i64 x.2.2.1)),(8,.is (.int .i64 x.2.2.2))])
  (fun x=>x.1<=s.size/\x.2.1=x.1+fi c (s.data.toList.drop x.1)/\x.2.2.1=(s.data.toList.drop x.1).count c/\x.2.2.2=(x.1:Int)-1/\x.2.2.1<=s.size-x.1) (fun x=>x.1) (s.size,s.size,0,(s.size:Int)-1)
  ⟨nu _,by rw[zrx J];rfl,by rw[zrx J];rfl,rfl,mb _⟩ ⟨rfl,rfl,rfl,rfl,rfl,nm⟩ ?_
 rintro⟨i,a,n,z⟩ ⟨hi,ha,hn,hz,hb⟩;dsimp only at hi ha hn hz hb |-
 cases i with
 | zero=>
  rw[zsj] at ha hn;have hz0:z<0:=J;obtain rfl:a=fi c s.data.toList:=by omega
  subst hn;refine(Zcp∘Zav∘Zao∘Zdz∘Z0∘Zb∘Z4) ?_;exact yk2 L [.tmp 4,.tmp 5]
 | succ k=>
  obtain rfl:z=(k:Int):=by omega
  obtain⟨x,hc⟩:=getElem?_lt (show k<s.size by omega)
  have hd:s.data.toList[k]?=some x:=by
   have:s.data[k]?=some x:=hc;simpa using this
  have hdr:s.data.toList.drop k=x::s.data.toList.drop (k+1):=by
   have h1:k<s.data.toList.length:=J;rw[zsc h1];rw[zrz h1] at hd;rw[Option.some.inj hd]
  by_cases hx:x=c
  ·subst hx;refine(Zcp∘Zci∘Zeh∘ZbG∘Za8∘Za∘Zx∘Zr∘ZD∘Zc∘Z6∘Zaa∘Za0∘Zt∘ZcW∘ZaT) ?_;exact yr (x:=(k+1,a,n,(k:Int))) (k,k,n+1,(k:Int)-1) ⟨by dsimp only;omega,by dsimp only;rw[hdr,fi,if_pos Z];rfl,by dsimp only;rw[hdr,List.count_cons_self,hn],rfl,by dsimp only;omega⟩ G ⟨Z,Z,Z,Z,Z,trivial⟩
  ·have hxc:(x.toNat:Int)≠(c.toNat:Int):=fun e=>hx (zvo.1 J);refine(Zcp∘Zci∘Zeh∘ZbG∘Za8∘Za∘Z8∘Za1∘Zt∘ZcW∘ZaT) ?_;exact yr (x:=(k+1,a,n,(k:Int))) (k,a,n,(k:Int)-1) ⟨by dsimp only;omega,by dsimp only;rw[hdr,fi,if_neg hx,ha];omega,by dsimp only;rw[hdr,List.count_cons_of_ne hx,hn],rfl,by dsimp only;omega⟩ G ⟨Z,Z,Z,Z,Z,trivial⟩
def Qw{r:ByteArray×ByteArray×ByteArray×Bool×Int}(hr:rp1 s=r)(hs:s.size<=1000000)(hB:zwe B w):
  Ret zwf 106 [.string s] w B (fun v _=>v=.tuple #[.agg #[.string r.1,.string r.2.1],.string r.2.2.1,.bool r.2.2.2.1,.int .i64 r.2.2.2.2]):=by
 subst hr
 have bad:gh s=none->∀ {m k m2 k2:Nat},fi 58 s.data.toList=m->s.data.toList.count 58=k->fi 35 s.data.toList=m2->s.data.toList.count 35=k2->(k≠1\/1<k2\/m2<m)->
   Ret zwf 106 [.string s] w B (fun v _=>v=.tuple #[.agg #[.string (rp1 s).1,.string (rp1 s).2.1],.string (rp1 s).2.2.1,.bool (rp1 s).2.2.2.1,.int .i64 (rp1 s).2.2.2.2]):=by
  intro hp m k m2 k2 e1 e2 e3 e4 hor;have hr1:rp1 s=(dp,dp,dp,false,5):=by unfold rp1;rw[hp]
  rw[hr1];refine yl Tryz.func106 Z Tryz.ntmps106 (np Z) hB ?_;by_cases c1:k=1
  ·by_cases c2:1<k2
   ·refine(ZaB∘Zv∘Zv∘Zbb) ?_;refine z71 L Z (fun u H hH _=>fe (c:=58) e1 e2 hs hH) ?_;refine(Zb0∘Zn) ?_;refine z71 L Z (fun u H hH _=>fe (c:=35) e3 e4 hs hH) ?_;refine(ZW∘Zbl∘Zz∘Zar∘Zb∘ZN∘Zf∘ZbF∘Zr∘ZE∘Zem∘ZaF∘Zv∘Z4) ?_;refine yk1 L [.cell 2 29,.tmp 3,.tmp 4,.tmp 5] fun u H hH hle=>?_;exact⟨_,ya Z,rfl,rfl⟩
   ·have c3:m2<m:=J;refine(ZaB∘Zv∘Zv∘Zbb) ?_;refine z71 L Z (fun u H hH _=>fe (c:=58) e1 e2 hs hH) ?_;refine(Zb0∘Zn) ?_;refine z71 L Z (fun u H hH _=>fe (c:=35) e3 e4 hs hH) ?_;refine(ZW∘Zbl∘Zz∘Zar∘Zb∘ZG∘Zf∘Zu∘ZS∘Zf∘Zr∘ZE∘Zem∘ZaF∘Zv∘Z4) ?_;refine yk1 L [.cell 2 29,.tmp 3,.tmp 4,.tmp 5] fun u H hH hle=>?_;exact⟨_,ya Z,rfl,rfl⟩
  ·refine(ZaB∘Zv∘Zv∘Zbb) ?_;refine z71 L Z (fun u H hH _=>fe (c:=58) e1 e2 hs hH) ?_;refine(Zb0∘Zn) ?_;refine z71 L Z (fun u H hH _=>fe (c:=35) e3 e4 hs hH) ?_;refine(ZW∘Zbl∘Zz∘ZcT∘ZcF∘Zf∘ZbF∘Zr∘ZE∘Zem∘ZaF∘Zv∘Z4) ?_;refine yk1 L [.cell 2 29,.tmp 3,.tmp 4,.tmp 5] fun u H hH hle=>?_;exact⟨_,ya Z,rfl,rfl⟩
 rcases Ba s 58 with h58 | ⟨a,b,rfl,ha⟩
 ·refine bad ?_ rfl Z Z Z (.inl ?_)
  ·unfold gh;rw[Rx h58];simp
  ·rw[ztd h58];decide
 ·have hcut:lq (a++⟨#[58]⟩++b) 58=(a,b,true):=Dn ha;have hls:=De a b 58;have hsz:=Lq a b 58;by_cases hb:noB b 58
  ·have hf1:fi 58 (a++⟨#[58]⟩++b).data.toList=a.size:=by rw[hls,Ud ha,j8];simp [fi]
   have hc1:(a++⟨#[58]⟩++b).data.toList.count 58=1:=by rw[hls,zsq,zum,ztd ha,ztd hb]
   by_cases ha3:noB a 35
   ·have hf2:fi 35 (a++⟨#[58]⟩++b).data.toList=a.size+1+fi 35 b.data.toList:=by rw[hls,Ud ha3,j8,fi,nc E];omega
    have hc2:(a++⟨#[58]⟩++b).data.toList.count 35=b.data.toList.count 35:=by rw[hls,zsq,ztd ha3,List.count_cons_of_ne E];omega
    have hn1:=Rr ha3;have hn2:=Rr hb;have za:a.size<=1099511627776:=J;have zb:b.size<=1099511627776:=J;have hadd1:IntKind.i64.wrap ((a.size:Int)+1)=((a.size+1:Nat):Int):=xb J J |>.trans J
    have x1:(a++⟨#[58]⟩++b).extract 0 a.size=a:=by
     have:=ib ⟨#[]⟩ a (⟨#[58]⟩++b) 0 a.size rfl (by show _=0+_;omega)
     conv=>rhs;rw[<-this]
     congr 1;apply uq;simp [jl]
    rcases Ba b 35 with hb3 | ⟨c,e,rfl,hc3⟩
    ·have hp:gh (a++⟨#[58]⟩++b)=some (a,b,dp,false):=by
      unfold gh;rw[hcut];simp only[hn1,hn2,zls hb3,Rx hb3];simp
     have hr1:rp1 (a++⟨#[58]⟩++b)=(a,b,dp,false,f5 [a,b]):=by unfold rp1;rw[hp];rfl
     rw[hr1];have hf3:fi 35 (a++⟨#[58]⟩++b).data.toList=a.size+1+b.size:=by rw[hf2,zoe hb3,j8]
     have hc3:(a++⟨#[58]⟩++b).data.toList.count 35=0:=by rw[hc2,ztd hb3]
     have x2:(a++⟨#[58]⟩++b).extract (a.size+1) (a.size+1+b.size)=b:=by
      have:=ib (a++⟨#[58]⟩) b ⟨#[]⟩ (a.size+1) (a.size+1+b.size) (by rw[zr2];rfl) (by rw[zr2];rfl)
      conv=>rhs;rw[<-this]
      congr 1;apply uq;simp [jl]
     generalize a++⟨#[58]⟩++b=s at *;refine yl Tryz.func106 Z Tryz.ntmps106 (np Z) hB ((ZaB∘Zv∘Zv∘Zbb) ?_);refine z71 L Z (fun u H hH _=>fe (c:=58) hf1 hc1 hs hH) ?_;refine(Zb0∘Zn) ?_;refine z71 L Z (fun u H hH _=>fe (c:=35) hf3 hc3 hs hH) ?_;refine(ZW∘Zbl∘Zz∘Zar∘Zb∘ZG∘Zf∘Zu∘Zab∘Zba∘Ze7∘Zm) ?_;refine z9 (jn L (kl:=.i64) (pl:=0) 0 a.size Z Z Z Z Z ⟨rfl,rfl⟩ J J x1) Z ((Zm∘ZbB∘Zl) ?_);refine z9 (jn L (a.size+1) (a.size+1+b.size) Z Z Z Z ⟨rfl,rfl⟩ ⟨rfl,rfl⟩ J J x2) Z (z9 (yv (cs:=[_,_]) Z Z zo8 Z Z) Z (z9 (qs L Z Z Z Z) Z ((Zdl∘ZaW∘Zd∘ZD∘Zx∘Zr∘ZeH∘ZeW∘ZeW) ?_)));refine z91 L Z (fun u H hH _=>cr K K hH) ?_;refine(Zdl∘ZaS∘ZaS∘Zy) ?_;refine yk1 L [.cell 2 29,.tmp 3,.tmp 4,.tmp 5] fun u H hH hle=>?_;exact⟨_,ya Z,rfl,rfl⟩
    ·have hls2:=De c e 35;have hsz2:=Lq c e 35;by_cases he3:noB e 35
     ·have hcn:(c++⟨#[35]⟩++e).data.toList.count 35=1:=by rw[hls2,zsq,zum,ztd hc3,ztd he3]
      have hp:gh (a++⟨#[58]⟩++(c++⟨#[35]⟩++e))=some (a,c,e,true):=by
       unfold gh;rw[hcut];have h4:zi3 (c++⟨#[35]⟩++e) 35=1:=hcn;simp only[hn1,hn2,h4,Dn hc3];simp
      have hr1:rp1 (a++⟨#[58]⟩++(c++⟨#[35]⟩++e))=(a,c,e,true,f5 [a,c,e]):=by unfold rp1;rw[hp];rfl
      rw[hr1];have hf3:fi 35 (a++⟨#[58]⟩++(c++⟨#[35]⟩++e)).data.toList=a.size+1+c.size:=by rw[hf2,hls2,Ud hc3,j8];simp [fi]
      have hc4:(a++⟨#[58]⟩++(c++⟨#[35]⟩++e)).data.toList.count 35=1:=by rw[hc2,hcn]
      have x2:(a++⟨#[58]⟩++(c++⟨#[35]⟩++e)).extract (a.size+1) (a.size+1+c.size)=c:=by
       have:=ib (a++⟨#[58]⟩) c (⟨#[35]⟩++e) (a.size+1) (a.size+1+c.size) (by rw[zr2];rfl) (by rw[zr2];rfl)
       conv=>rhs;rw[<-this]
       congr 1;apply uq;simp [jl]
      have x3:(a++⟨#[58]⟩++(c++⟨#[35]⟩++e)).extract (a.size+1+c.size+1) (a++⟨#[58]⟩++(c++⟨#[35]⟩++e)).size=e:=by
       have:=ib (a++⟨#[58]⟩++c++⟨#[35]⟩) e ⟨#[]⟩ (a.size+1+c.size+1) (a++⟨#[58]⟩++(c++⟨#[35]⟩++e)).size (by simp only[zr2];rfl) (by simp only[zr2];rw[show(⟨#[58]⟩:ByteArray).size=1 from rfl,show(⟨#[35]⟩:ByteArray).size=1 from rfl];omega)
       conv=>rhs;rw[<-this]
       congr 1;apply uq;simp [jl]
      have hsz3:(a++⟨#[58]⟩++(c++⟨#[35]⟩++e)).size=a.size+1+(c.size+1+e.size):=by rw[hsz,hsz2]
      have zc:c.size<=1099511627776:=J;have ze:e.size<=1099511627776:=J;have hadd2:IntKind.i64.wrap (((a.size+1+c.size:Nat):Int)+1)=((a.size+1+c.size+1:Nat):Int):=xb J J |>.trans J;have hmx:=zp6 a c e;generalize a++⟨#[58]⟩++(c++⟨#[35]⟩++e)=s at *;refine yl Tryz.func106 Z Tryz.ntmps106 (np Z) hB ((ZaB∘Zv∘Zv∘Zbb) ?_);refine z71 L Z (fun u H hH _=>fe (c:=58) hf1 hc1 hs hH) ?_;refine(Zb0∘Zn) ?_;refine z71 L Z (fun u H hH _=>fe (c:=35) hf3 hc4 hs hH) ?_;refine(ZW∘Zbl∘Zz∘Zar∘Zb∘ZG∘Zf∘Zu∘Zab∘Zba∘Ze7∘Zm) ?_;refine z9 (jn L (kl:=.i64) (pl:=0) 0 a.size Z Z Z Z Z ⟨rfl,rfl⟩ J J x1) Z ((Zm∘ZbB∘Zl) ?_);refine z9 (jn L (a.size+1) (a.size+1+c.size) Z Z Z Z ⟨rfl,rfl⟩ ⟨rfl,rfl⟩ J J x2) Z (z9 (yv (cs:=[_,_]) Z Z zo8 Z Z) Z (z9 (qs L Z Z Z Z) Z ((Zdl∘ZaW∘Zd∘ZD∘Zb6∘Zdk∘ZeW∘Zm∘ZbB) ?_)));refine z9 (jn L (kh:=.i64) (ph:=0) (a.size+1+c.size+1) _ Z Z Z Z ⟨rfl,rfl⟩ Z J J x3) Z (ZeW (h:=?_));refine z91 L Z (fun u H hH _=>cr K K hH) ?_;refine(Zm∘ZbB) ?_;refine z9 (jn L (kh:=.i64) (ph:=0) (a.size+1+c.size+1) _ Z Z Z Z ⟨rfl,rfl⟩ Z J J x3) Z (z91 L Z (fun u H hH _=>an (by first | omega | decide) hH) ?_);refine z9 (oe Z Z Z Z M) Z ((Zdl∘ZaS∘ZaS∘Zy) ?_);refine yk1 L [.cell 2 29,.tmp 3,.tmp 4,.tmp 5] fun u H hH hle=>?_;exact⟨_,ya Z,rfl,rfl⟩
     ·have hcn:1<(c++⟨#[35]⟩++e).data.toList.count 35:=by have:=Ps he3;rw[hls2,zsq,zum];omega
      refine bad ?_ rfl Z Z Z (.inr (.inl (by rw[hc2];exact hcn)));unfold gh;rw[hcut];have h4:¬ zi3 (c++⟨#[35]⟩++e) 35<=1:=by unfold zi3 Lib.countByte;omega
      simp only[h4,and_false,if_false]
   ·refine bad ?_ rfl Z Z Z (.inr (.inr ?_))
    ·unfold gh;rw[hcut];simp only[Mh ha3];simp
    ·rw[hf1,hls,<-j8];exact zof (Classical.not_not.1 ha3)
  ·refine bad ?_ rfl Z Z Z (.inl ?_)
   ·unfold gh;rw[hcut];simp only[Mh hb];simp
   ·have:=Ps hb;rw[hls,zsq,zum];omega
def uj{x y z:ByteArray}(hr:rp1 s=(x,y,z,d,e))(hs:s.size<=1000000)(hB:zwe B w):
  Ret zwf 106 [.string s] w B (fun v _=>v=.tuple #[.agg #[.string x,.string y],.string z,.bool d,.int .i64 e]):=Qw hr hs hB
end Go.V
namespace Go.V.L2
def _root_.ZaX(t:Wr Y->A:=by intro h;refine zh (id:=18) ?_;exact h.1)(h:Y):A:=t ⟨h⟩
def _root_.Zbm(t:Wr Y->A:=by intro h;refine zh (id:=17) ?_;exact h.1)(h:Y):A:=t ⟨h⟩
def _root_.ZbL(t:Wr Y->A:=by exact fun h=>(Zay∘Za) h.1)(h:Y):A:=t ⟨h⟩
def _root_.Zcq(t:Wr Y->A:=by exact fun h=>(ZaH∘Zb) h.1)(h:Y):A:=t ⟨h⟩
def zkl(a:ByteArray):pgA a=if (rp1 a).2.2.2.1=false then (dp,dp,dp,5) else if (rp1 a).2.2.2.2=0 then ((rp1 a).1,(rp1 a).2.1,(rp1 a).2.2.1,0) else (dp,dp,dp,(rp1 a).2.2.2.2):=by
 unfold pgA rp1;rcases gh a with _ | ⟨x,y,z,d⟩
 ·rfl
 ·cases d
  ·rfl
  ·simp only[if_true]
def zna(a:ByteArray):psA a=if (rp1 a).2.2.2.2=0 then ((rp1 a).1,(rp1 a).2.1,(rp1 a).2.2.1,0) else (dp,dp,dp,(rp1 a).2.2.2.2):=by
 unfold psA rp1;rcases gh a with _ | ⟨x,y,z,d⟩
 ·rfl
 ·dsimp only;cases d
  ·simp
  ·simp only[if_true,f5];rcases vt x with h1 | h1<;>rcases vt y with h2 | h2<;>rcases vt z with h3 | h3<;>simp [h1,h2,h3]
def zqi{l a b:List UInt8}{c:UInt8}(e:l=a++c::b)(ha:c∉a)(hb:c∉b)(hk:l[k]?=some c):k=a.length:=by
 subst e;rcases zu2 k a.length with h | h | h
 ·rw[zs7 h] at hk;exact ni (mz hk) ha
 ·exact h
 ·rw[zvp J,show k-a.length=(k-a.length-1)+1 by omega,ztf] at hk;exact ni (mz hk) hb
def Eh{r:U×Int}(hr:ptA s=r)(hs:s.size<=1000000)(hB:zwe B w):
  Ret zwf 39 [.string s] w B (fun v _=>v=.tuple #[uv r.1,.int .i64 r.2]):=by
 subst hr;have hlen:=j8 s;refine yl Tryz.func39 Z Tryz.ntmps39 (np Z) hB ((ZaB∘Zad∘Zbl∘ZL∘Zae) ?_)
 refine xu (fun x:Nat×Nat×Nat=>[(0,.is (.string s)),(2,.own (Cell [.string ⟨#[]⟩,.string ⟨#[]⟩,.string ⟨#[]⟩,.string ⟨#[]⟩,.string ⟨#[]⟩,.string ⟨#[]⟩] tyU)),(4,.is (.int .i64 x.2.1)),(5,.is (.int .i64 x.2.2)),(6,.is (.int .i64 x.1))])
  (fun x=>x.1<=s.size/\x.2.2=(s.data.toList.take x.1).count 64/\x.2.2<=x.1/\(x.2.2=1->x.2.1<s.size/\s.data.toList[x.2.1]?=some 64)) (fun x=>s.size-x.1) (0,0,0)
  ⟨mb _,by simp,nu _,fun h=>by cases h⟩ ⟨rfl,rfl,rfl,rfl,rfl,nm⟩ ?_
 rintro⟨i,k,n⟩ ⟨hi,hn,hni,hk⟩;dsimp only at hi hn hni hk |-;by_cases hlt:i<s.size
 ·obtain⟨x,hc⟩:=getElem?_lt hlt
  have hd:s.data.toList[i]?=some x:=by
   have:s.data[i]?=some x:=hc;simpa using this
  have htk:s.data.toList.take (i+1)=s.data.toList.take i++[x]:=by rw[zr4,hd];rfl
  by_cases hx:x=64
  ·subst hx;refine(Zbs∘ZP∘Zdi∘ZbG∘Za8) ?_;refine z7 (yh Z Z Z Z Z) Z ((Zr∘ZD∘Zc∘Z6∘Zaa∘Za0∘Zt∘Zaa) ?_);exact yr (x:=(i,k,n)) (i+1,i,n+1) ⟨hlt,by dsimp only;rw[htk,List.count_append,<-hn];rfl,by dsimp only;omega,fun _=>⟨hlt,hd⟩⟩ G ⟨Z,Z,Z,Z,Z,trivial⟩
  ·have hxc:(x.toNat:Int)≠64:=fun e=>hx (zvo.1 (by show x.toNat=64;omega));refine(Zbs∘ZP∘Zdi∘ZbG∘Za8∘Z8∘Za1∘Zt∘Zaa) ?_;exact yr (x:=(i,k,n)) (i+1,k,n) ⟨hlt,by dsimp only;rw[htk,List.count_append,<-hn,List.count_cons_of_ne hx];rfl,by dsimp only;omega,hk⟩ G ⟨Z,Z,Z,Z,Z,trivial⟩
 ·obtain rfl:i=s.size:=by omega
  rw[m8 J] at hn;by_cases h1:n=1
  ·obtain⟨hk1,hk2⟩:=hk h1;rcases Ba s 64 with h64 | ⟨a,b,rfl,ha⟩
   ·rw[ztd h64] at hn;omega
   ·have hls:=De a b 64;have hsz:=Lq a b 64
    have hb:noB b 64:=fun hm=>by
     have:=zs4.2 hm;rw[hls,zsq,zum] at hn;omega
    obtain rfl:k=a.size:=(zqi hls ha hb hk2).trans (j8 a);have hcut:lq (a++⟨#[64]⟩++b) 64=(a,b,true):=Dn ha
    have x1:(a++⟨#[64]⟩++b).extract 0 a.size=a:=by
     have:=ib ⟨#[]⟩ a (⟨#[64]⟩++b) 0 a.size rfl (by show _=0+_;omega)
     conv=>rhs;rw[<-this]
     congr 1;apply uq;simp [jl]
    have x2:(a++⟨#[64]⟩++b).extract (a.size+1) (a++⟨#[64]⟩++b).size=b:=by
     have:=ib (a++⟨#[64]⟩) b ⟨#[]⟩ (a.size+1) (a++⟨#[64]⟩++b).size (by rw[zr2];rfl) (by rw[zr2])
     conv=>rhs;rw[<-this]
     congr 1;apply uq;simp [jl]
    have za:a.size<=1000000:=J;have zb:b.size<=1000000:=J;have hadd:IntKind.i64.wrap ((a.size:Int)+1)=((a.size+1:Nat):Int):=xb J J |>.trans J
    have hpt:ptA (a++⟨#[64]⟩++b)=if (pgA a).2.2.2=0 then (if (psA b).2.2.2=0 then (((((pgA a).1,(pgA a).2.1),(pgA a).2.2.1),(((psA b).1,(psA b).2.1),(psA b).2.2.1)),0) else ((((⟨#[]⟩,⟨#[]⟩),⟨#[]⟩),((⟨#[]⟩,⟨#[]⟩),⟨#[]⟩)),(psA b).2.2.2)) else ((((⟨#[]⟩,⟨#[]⟩),⟨#[]⟩),((⟨#[]⟩,⟨#[]⟩),⟨#[]⟩)),(pgA a).2.2.2):=by
     unfold ptA;rw[hcut];dsimp only;rw[na ⟨rfl,Rr hb⟩]
    clear hk hk2 hn hcut;generalize a++⟨#[64]⟩++b=s at *;rcases hra:rp1 a with ⟨o1,o2,rel,has,e⟩
    rcases hrb:rp1 b with ⟨p1,p2,rel2,has2,e2⟩
    cases has
    ·have g1:pgA a=(dp,dp,dp,5):=by rw[zkl,hra];rfl
     rw[hpt,g1,nc E];by_cases h5:e=5
     ·skip
      refine(Zbs∘ZP∘Zbc∘ZbH∘Za5∘Zau∘Zcq) ?_;refine z7 (jn L (kl:=.i64) (pl:=0) 0 a.size Z Z Z Z Z ⟨rfl,rfl⟩ J J x1) Z (z71 L Z (fun u H hH _=>uj hra za hH) ?_);refine(ZW∘Zb8∘Zbr∘Zbz∘ZbL∘Zar∘ZcF∘Zf∘ZK∘ZU∘Za∘Zac∘ZaP∘Zcn∘Za∘Zaq) ?_;refine yk1 L [.cell 2 34,.tmp 3] fun u H hH hle=>?_;refine⟨_,ya Z,rfl,?_⟩;rw[h5];rfl
     ·refine(Zbs∘ZP∘Zbc∘ZbH∘Za5∘Zau∘Zcq) ?_;refine z7 (jn L (kl:=.i64) (pl:=0) 0 a.size Z Z Z Z Z ⟨rfl,rfl⟩ J J x1) Z (z71 L Z (fun u H hH _=>uj hra za hH) ?_);refine(ZW∘Zb8∘Zbr∘Zbz∘ZbL∘ZcT∘Zb∘Zo∘Zb4∘ZQ∘Zh∘ZU∘Za∘Zac∘ZaP∘Zcn∘Za∘Zaq) ?_;refine yk1 L [.cell 2 34,.tmp 3] fun u H hH hle=>?_;exact⟨_,ya Z,rfl,rfl⟩
    ·by_cases h0:e=0
     ·have g1:pgA a=(o1,o2,rel,0):=by rw[zkl,hra];dsimp only;rw[if_neg E,if_pos h0]
      by_cases h02:e2=0
      ·have g2:psA b=(p1,p2,rel2,0):=by rw[zna,hrb];dsimp only;rw[if_pos h02]
       rw[hpt,g1,g2,na rfl,na rfl];refine(Zbs∘ZP∘Zbc∘ZbH∘Za5∘Zau∘Zcq) ?_;refine z7 (jn L (kl:=.i64) (pl:=0) 0 a.size Z Z Z Z Z ⟨rfl,rfl⟩ J J x1) Z (z71 L Z (fun u H hH _=>uj hra za hH) ?_);refine(ZW∘Zb8∘Zbr∘Zbz∘ZbL∘ZcT∘Zb∘Zo∘Zf∘ZK∘ZU∘Za∘Zau∘Zat∘Zb∘ZH) ?_;refine z7 (jn L (kh:=.i64) (ph:=0) (a.size+1) _ Z Z Z Z ⟨rfl,rfl⟩ Z J J x2) Z (z71 L Z (fun u H hH _=>uj hrb zb hH) ?_);refine(ZW∘Zb8∘Zbr∘Zbz∘Zal∘Za∘Zau∘ZaX∘ZcJ∘Za∘Ze5∘ZcJ∘Za∘Zep∘Zcn∘Zaq) ?_;refine yk1 L [.cell 2 34,.tmp 3] fun u H hH hle=>?_;exact⟨_,ya Z,rfl,rfl⟩
      ·have g2:psA b=(dp,dp,dp,e2):=by rw[zna,hrb];dsimp only;rw[if_neg h02]
       rw[hpt,g1,g2,na rfl,nc h02];refine(Zbs∘ZP∘Zbc∘ZbH∘Za5∘Zau∘Zcq) ?_;refine z7 (jn L (kl:=.i64) (pl:=0) 0 a.size Z Z Z Z Z ⟨rfl,rfl⟩ J J x1) Z (z71 L Z (fun u H hH _=>uj hra za hH) ?_);refine(ZW∘Zb8∘Zbr∘Zbz∘ZbL∘ZcT∘Zb∘Zo∘Zf∘ZK∘ZU∘Za∘Zau∘Zat∘Zb∘ZH) ?_;refine z7 (jn L (kh:=.i64) (ph:=0) (a.size+1) _ Z Z Z Z ⟨rfl,rfl⟩ Z J J x2) Z (z71 L Z (fun u H hH _=>uj hrb zb hH) ?_);refine(ZW∘Zb8∘Zbr∘Zbz∘Zal∘Za∘Zac∘Zbm∘Zcn∘Za∘Zaq) ?_;refine yk1 L [.cell 2 34,.tmp 3] fun u H hH hle=>?_;exact⟨_,ya Z,rfl,rfl⟩
     ·have g1:pgA a=(dp,dp,dp,e):=by rw[zkl,hra];dsimp only;rw[if_neg E,if_neg h0]
      rw[hpt,g1,nc h0];by_cases h5:e=5
      ·refine(Zbs∘ZP∘Zbc∘ZbH∘Za5∘Zau∘Zcq) ?_;refine z7 (jn L (kl:=.i64) (pl:=0) 0 a.size Z Z Z Z Z ⟨rfl,rfl⟩ J J x1) Z (z71 L Z (fun u H hH _=>uj hra za hH) ?_);refine(ZW∘Zb8∘Zbr∘Zbz∘ZbL∘Zar∘ZcF∘Zf∘ZK∘ZU∘Za∘Zac∘ZaP∘Zcn∘Za∘Zaq) ?_;refine yk1 L [.cell 2 34,.tmp 3] fun u H hH hle=>?_;exact⟨_,ya Z,rfl,rfl⟩
      ·refine(Zbs∘ZP∘Zbc∘ZbH∘Za5∘Zau∘Zcq) ?_;refine z7 (jn L (kl:=.i64) (pl:=0) 0 a.size Z Z Z Z Z ⟨rfl,rfl⟩ J J x1) Z (z71 L Z (fun u H hH _=>uj hra za hH) ?_);refine(ZW∘Zb8∘Zbr∘Zbz∘ZbL∘ZcT∘Zb∘Zo∘Zf∘ZK∘ZU∘Za∘Zac∘ZaP∘Zcn∘Za∘Zaq) ?_;refine yk1 L [.cell 2 34,.tmp 3] fun u H hH hle=>?_;exact⟨_,ya Z,rfl,rfl⟩
  ·have hpt:ptA s=((((⟨#[]⟩,⟨#[]⟩),⟨#[]⟩),((⟨#[]⟩,⟨#[]⟩),⟨#[]⟩)),5):=by
    unfold ptA;rw[nc];rintro⟨hc1,hc2⟩;rcases Ba s 64 with h64 | ⟨a,b,rfl,ha⟩
    ·rw[Rx h64] at hc1;cases hc1
    ·rw[Dn ha] at hc2;by_cases hb:noB b 64
     ·apply h1;rw[hn,De,zsq,zum,ztd ha,ztd hb]
     ·rw[show P8 b 64=true from Mh hb] at hc2;cases hc2
   rw[hpt];refine(Zbs∘ZP∘Zbc∘ZbH∘Za5∘Zac∘ZM∘Zcn∘Zaq) ?_;refine yk1 L [.cell 2 34,.tmp 3] fun u H hH hle=>?_;exact⟨_,ya Z,rfl,rfl⟩
def fm(h:chk s=0):s.size<=16:=by
 unfold chk at h;split at h
 ·rename_i hc;exact hc.2.1
 ·exact ni h E
def tz_of{t:U}(h:tE t=0):TZ t:=by
 unfold tE at h;split at h
 ·rename_i h1;obtain⟨c1,c2,c3⟩:=Yg h1;obtain⟨d1,d2,d3⟩:=A7 h;have a1:=fm c1;have a2:=fm c2;have a3:=fm c3;have b1:=fm d1;have b2:=fm d2
  have b3:t.2.2.size<=16:=by
   rcases d3 with d3 | d3
   ·rw[d3];decide
   ·exact fm d3
  unfold TZ;refine⟨⟨?_,?_,?_⟩,?_,?_,?_⟩<;>omega
 ·rename_i h1;exact ni h h1
end Go.V.L2
namespace Go.V.L3
open Go.V.L2
abbrev FT:=Sf×Sf×Bool
abbrev n3:Sf:=((⟨#[]⟩,⟨#[]⟩),⟨#[]⟩)
end Go.V.L3
namespace Go.V.L2
def _root_.ZcC(t:Wr Y->A:=by intro h;refine z9 (zw Z (zn Z) Z) Z ?_;exact h.1)(h:Y):A:=t ⟨h⟩
def _root_.Zcb(t:Wr Y->A:=by intro h;refine z9 (qn Z Z Z Z) Z ?_;exact h.1)(h:Y):A:=t ⟨h⟩
def _root_.ZaQ(t:Wr Y->A:=by intro h;refine z7 (yn L (vs:=[_,_,_,_,_,_]) Z Z Z Z Z ⟨_,rfl⟩) Z ?_;exact h.1)(h:Y):A:=t ⟨h⟩
def _root_.Zdb(t:Wr Y->A:=by intro h;refine qf (jx L Z Z Z (eg Z) Z zg8 Z Z J J) ?_;exact h.1)(h:Y):A:=t ⟨h⟩
def _root_.ZaJ(t:Wr Y->A:=by intro h;refine z9 (xa Z Z Z Z) Z ?_;exact h.1)(h:Y):A:=t ⟨h⟩
def _root_.Zfj(t:Wr Y->A:=by intro h;refine qp (id:=11) [] kr T ?_;exact h.1)(h:Y):A:=t ⟨h⟩
def _root_.ZbM(t:Wr Y->A:=by exact fun h=>(ZcC∘ZcC) h.1)(h:Y):A:=t ⟨h⟩
def _root_.Zdm(t:Wr Y->A:=by exact fun h=>(Za∘ZaO) h.1)(h:Y):A:=t ⟨h⟩
def _root_.ZY(t:Wr Y->A:=by exact fun h=>(Zg∘Zdm) h.1)(h:Y):A:=t ⟨h⟩
def _root_.ZeX(t:Wr Y->A:=by exact fun h=>(ZbM∘ZbM) h.1)(h:Y):A:=t ⟨h⟩
def _root_.Za2(t:Wr Y->A:=by exact fun h=>(Zcb∘Zbv) h.1)(h:Y):A:=t ⟨h⟩
def _root_.ZeI(t:Wr Y->A:=by exact fun h=>(Zl∘ZeX) h.1)(h:Y):A:=t ⟨h⟩
def _root_.Zcr(t:Wr Y->A:=by exact fun h=>(ZeI∘ZeX) h.1)(h:Y):A:=t ⟨h⟩
def _root_.Zc2(t:Wr Y->A:=by exact fun h=>(Zcb∘ZcI) h.1)(h:Y):A:=t ⟨h⟩
def Cp(l:List U):List U:=r7 js [] l
def fw(x y:List U)(a c b:Bool)(t:U):Bool:=(decide (t∈x) && !decide (t∈y) && a) || (decide (t∈x) && decide (t∈y) && c) || (!decide (t∈x) && decide (t∈y) && b)
def aj(x y:List U)(a c b:Bool):List U:=Cp ((x++y).filter (fw x y a c b))
def Nt(l:List U):(Cp l).length<=l.length:=by
 have:=oa (c:=js) l [];rw[m7,zrw] at this;exact this
def Yu{s:Nat}{r:List U}{t y:U}(h:κ s=some (.own (SlR tyU 6 (r.length+1+1) ((r.flatMap ucs++ucs t)++ucs y)))):κ s=some (.own (SlR tyU 6 (r++[t]++[y]).length ((r++[t]++[y]).flatMap ucs))):=by
 rw[h,zr5,zr5,nr,nr];simp
def Vq(c:U->U->Int)(o:List U)(t:U)(r:List U):r7 c o (t::r)=r7 c (if t∈o then o else s5 c t o) r:=by
 simp only[r7];congr 1;by_cases h:t∈o
 ·rw[na h,na h]
 ·rw[nc h,nc h]
def r9{l:List U}(hl:l.length<=1000000)(hz:∀ t∈l,TZ t)(hB:zwe B w)(hv:US l fu v B):
  Ret zwf 94 [v] w B (US (Cp l) false):=by
 refine yl Tryz.func94 Z Tryz.ntmps94 (np Z) hB (ku 0 (US l fu) Z ns hv ((Zw∘Zh) ?_));refine ku 3 (US [] false) Z ns SlV.nil ((ZL∘Zae) ?_)
 refine xu (fun s:Nat×List U=>[(0,.sat (US l fu)),(3,.sat (US s.2 false)),(4,.is (.int .i64 s.1))])
  (fun s=>s.1<=l.length/\s.2.length<=s.1/\(∀ t∈s.2,TZ t)/\Cp l=r7 js s.2 (l.drop s.1)) (fun s=>l.length-s.1) (0,[]) ⟨mb _,nu _,fun t h=>(by cases h),rfl⟩ ⟨rfl,rfl,rfl,nm⟩ ?_
 rintro⟨i,o⟩ ⟨hi,ho,hoz,he⟩;dsimp only at hi ho hoz he |-;by_cases hlt:i<l.length
 ·obtain⟨t,ht⟩:=xj hlt;have hct:=af ht;have zt:=hz t (mz ht);have hol:o.length<=1000000:=J;rw[im ht,Vq] at he;by_cases hin:t∈o
  ·rw[na hin] at he;have h1:(if t∈o then 1 else 0:Int)=1:=na hin;refine(Zcp∘Zj∘Zbp∘Zbw∘Zd∘ZF∘Zg∘ZY∘ZaQ) ?_;refine z7 (qd L Z Z (zn Z) Z Z Z (fun u H hH _ _ v1 h2=>jp hol h1 hH h2)) Z ((Zx∘Z1∘ZeC∘ZdH∘Zdj∘Zt∘Zaa) ?_);exact yr (x:=(i,o)) (i+1,o) ⟨hlt,by dsimp only;omega,hoz,he⟩ G ⟨Z,Z,Z,trivial⟩
  ·rw[nc hin] at he;have h1:(if t∈o then 1 else 0:Int)=0:=nc hin;refine(Zcp∘Zj∘Zbp∘Zbw∘Zd∘ZF∘Zg∘ZY∘ZaQ) ?_;refine z7 (qd L Z Z (zn Z) Z Z Z (fun u H hH _ _ v1 h2=>jp hol h1 hH h2)) Z ((Zb6∘Z5∘Ze) ?_);refine um 5 tyU 6 rfl ((Z7∘Zh∘Z0∘Zae) ?_)
   refine xu (fun s:Nat×List U×Bool=>[(0,.sat (US l fu)),(3,.sat (US o false)),(4,.is (.int .i64 i)),(5,.own (SlR tyU 6 s.2.1.length (s.2.1.flatMap ucs))),(6,.is (.bool s.2.2)),(7,.is (.int .i64 s.1))])
    (fun s=>s.1<=o.length/\s.2.1.length<=s.1+(if s.2.2=true then 1 else 0)/\s5 js t o=s.2.1++(if s.2.2=true then o.drop s.1 else s5 js t (o.drop s.1))) (fun s=>o.length-s.1) (0,[],false) ⟨mb _,mb _,rfl⟩ ⟨rfl,rfl,rfl,rfl,rfl,rfl,nm⟩ ?_
   rintro⟨k,nx,put⟩ ⟨hk,hnx,hins⟩;dsimp only at hk hnx hins |-;by_cases hko:k<o.length
   ·obtain⟨y,hy⟩:=xj hko;have hcy:=af hy;have zy:=hoz y (mz hy);rw[im hy] at hins;cases put
    ·rw[nc E] at hnx;rw[nc E,s5] at hins;by_cases hc:js t y<0
     ·rw[na hc] at hins;refine(Zd∘Zai∘Zj∘Zbp∘Zbw∘Zd∘Zfj∘Zl∘ZaJ∘Zl∘ZcP∘ZcP) ?_;refine z91 L Z (fun u H hH _=>N9 zt zy hH) ?_;refine(Zdf∘Zc2∘Zi∘ZQ) ?_;refine qf (yo (.inl Z) Z) ((ZY∘ZaQ∘ZJ∘Zdb) ?_);refine qf (yo (.inr Z) Z) ((ZB∘ZU∘Zc∘ZaP) ?_);refine qf (yo (.inl Z) Z) ((ZY∘ZaQ∘ZJ∘Zdb) ?_);refine qf (yo (.inr Z) Z) ((Zaz∘Zcz∘Zaa) ?_);exact yr (x:=(k,nx,false)) (k+1,nx++[t]++[y],true) ⟨hko,by dsimp only;rw[if_pos Z];simp only[List.length_append,List.length_cons,List.length_nil];omega,by dsimp only;rw[hins,if_pos Z];simp⟩ G ⟨Z,Z,Z,Yu Z,Z,Z,trivial⟩
     ·rw[nc hc] at hins;refine(Zd∘Zai∘Zj∘Zbp∘Zbw∘Zd∘Zfj∘Zl∘ZaJ∘Zl∘ZcP∘ZcP) ?_;refine z91 L Z (fun u H hH _=>N9 zt zy hH) ?_;refine(Zd8∘Za2∘Zcy∘ZaP) ?_;refine qf (yo (.inl Z) Z) ((ZY∘ZaQ∘ZJ∘Zdb) ?_);refine qf (yo (.inr Z) Z) ((Zaz∘Zcz∘Zaa) ?_);exact yr (x:=(k,nx,false)) (k+1,nx++[y],false) ⟨hko,by dsimp only;rw[if_neg E,List.length_append,List.length_singleton];omega,by dsimp only;rw[hins,if_neg E];simp⟩ G ⟨Z,Z,Z,du Z,Z,Z,trivial⟩
    ·rw[na rfl] at hnx hins;refine(Zd∘Zai∘Zj∘Zbp∘Zbw∘Zd∘Zfj∘Zl∘ZaJ∘Zcr∘ZbM∘Za2∘Zcy∘ZaP) ?_;refine qf (yo (.inl Z) Z) ((ZY∘ZaQ∘ZJ∘Zdb) ?_);refine qf (yo (.inr Z) Z) ((Zaz∘Zcz∘Zaa) ?_);exact yr (x:=(k,nx,true)) (k+1,nx++[y],true) ⟨hko,by dsimp only;rw[if_pos Z,List.length_append,List.length_singleton];omega,by dsimp only;rw[hins,if_pos Z];simp⟩ G ⟨Z,Z,Z,du Z,Z,Z,trivial⟩
   ·obtain rfl:k=o.length:=by omega
    rw[ztz] at hins;have hil:=vu (c:=js) t o
    have hiz:∀ x∈s5 js t o,TZ x:=fun x hx=>by
     rcases gx.1 hx with rfl | hx
     ·exact zt
     ·exact hoz x hx
    cases put
    ·rw[nc E] at hnx;rw[nc E,s5] at hins;refine(Zd∘Zai∘Zj∘Zbc∘ZbH∘Zat∘Za∘Zo∘Z1∘Zal) ?_;refine qf (yo (.inl Z) Z) ((ZY∘ZaQ∘ZJ∘Zdb) ?_);refine qf (yo (.inr Z) Z) (ZB (h:=?_));refine uz 5 (du Z) ?_;rw[<-hins];refine(Zbm∘Zg∘Zaf∘Zaz∘Zt∘Zaa) ?_;exact yr (x:=(i,o)) (i+1,s5 js t o) ⟨hlt,by dsimp only;omega,hiz,he⟩ G ⟨Z,Z,Z,trivial⟩
    ·rw[na rfl] at hnx;rw[na rfl,mi] at hins;refine(Zd∘Zai∘Zj∘Zbc∘ZbH∘Zat∘Za∘Zo∘Zdy) ?_;refine uz 5 rfl ?_;rw[<-hins];refine(Zbm∘Zg∘Zaf∘Zaz∘Zt∘Zaa) ?_;exact yr (x:=(i,o)) (i+1,s5 js t o) ⟨hlt,by dsimp only;omega,hiz,he⟩ G ⟨Z,Z,Z,trivial⟩
 ·obtain rfl:i=l.length:=by omega
  rw[ztz,r7] at he;rw[he];refine(Zcp∘Zj∘Zb5∘ZaX∘Zg∘Zb9) ?_;refine yk1 L [.tmp 2] fun u H hH hle=>?_;exact fun v hv=>hv
end Go.V.L2
end
namespace Go.V
inductive Tr (zwd V:Type) where
 | nil
 | node (k:zwd) (v:V) (l r:Tr zwd V)
namespace Tr
variable {V:Type}
def size:Tr zwd V->Nat
 | nil=>0
 | node _ _ l r=>size l+1+size r
def deep:Tr zwd V->Nat
 | nil=>0
 | node _ _ l r=>1+max (deep l) (deep r)
def deep_le:∀ t:Tr zwd V,deep t<=size t
 | nil=>nu _
 | node _ _ l r=>by have:=deep_le l;have:=deep_le r;simp only[deep,size];omega
def bal(k:zwd)(v:V)(l r:Tr zwd V):Tr zwd V:=
 if deep l>deep r+1 then
  match l with
  | nil=>nil
  | node lk lv ll lr=>
   if deep ll>=deep lr then node lk lv ll (node k v lr r)
   else match lr with
    | nil=>nil
    | node mk mv ml mr=>node mk mv (node lk lv ll ml) (node k v mr r)
 else if deep r>deep l+1 then
  match r with
  | nil=>nil
  | node rk rv rl rr=>
   if deep rr>=deep rl then node rk rv (node k v l rl) rr
   else match rl with
    | nil=>nil
    | node mk mv ml mr=>node mk mv (node k v l ml) (node rk rv mr rr)
 else node k v l r
def put(c:zwd->zwd->Int)(k:zwd)(v:V):Tr zwd V->Tr zwd V
 | nil=>node k v nil nil
 | node nk nv l r=>if c k nk<0 then bal nk nv (put c k v l) r else if c k nk>0 then bal nk nv l (put c k v r) else node nk v l r
def first:zwd->V->Tr zwd V->Tr zwd V->(zwd×V)×Tr zwd V
 | k,v,nil,r=>((k,v),r)
 | k,v,node lk lv ll lr,r=>((first lk lv ll lr).1,bal k v (first lk lv ll lr).2 r)
def drop(c:zwd->zwd->Int)(k:zwd):Tr zwd V->Tr zwd V×Bool
 | nil=>(nil,false)
 | node nk nv l r=>if c k nk<0 then (bal nk nv (drop c k l).1 r,(drop c k l).2) else if c k nk>0 then (bal nk nv l (drop c k r).1,(drop c k r).2)
  else match r with
   | nil=>(l,true)
   | node rk rv rl rr=>(bal (first rk rv rl rr).1.1 (first rk rv rl rr).1.2 l (first rk rv rl rr).2,true)
def get(c:zwd->zwd->Int)(k:zwd):Tr zwd V->Option V
 | nil=>none
 | node nk nv l r=>if c k nk=0 then some nv else if c k nk<0 then get c k l else get c k r
def list:Tr zwd V->List (zwd×V)
 | nil=>[]
 | node k v l r=>list l++(k,v)::list r
def prs:Tr zwd V->Int->Int->Int->List (zwd×V)
 | nil,_,_,_=>[]
 | node k v l r,a,f,t=>if a+(size (node k v l r):Int)<=f\/a>=t then [] else
   prs l a f t++((if a+(size l:Int)>=f/\a+(size l:Int)<t then [(k,v)] else [])++prs r (a+size l+1) f t)
def get_eq{c:zwd->zwd->Int}{k nk:zwd}{nv:V}{l r:Tr zwd V}(h:c k nk=0):get c k (node nk nv l r)=some nv:=na h
def get_lt{c:zwd->zwd->Int}{k nk:zwd}{nv:V}{l r:Tr zwd V}(h:c k nk<0):get c k (node nk nv l r)=get c k l:=(nc J).trans (na h)
def get_gt{c:zwd->zwd->Int}{k nk:zwd}{nv:V}{l r:Tr zwd V}(h0:¬ c k nk=0)(h:¬ c k nk<0):get c k (node nk nv l r)=get c k r:=(nc h0).trans (nc h)
def size_list:∀ t:Tr zwd V,(list t).length=size t
 | nil=>rfl
 | node _ _ l r=>by simp only[list,nr,ma,size_list l,size_list r,size];omega
def size_node(k:zwd)(v:V)(l r:Tr zwd V):size (node k v l r)=size l+1+size r:=rfl
def deep_node(k:zwd)(v:V)(l r:Tr zwd V):deep (node k v l r)=1+max (deep l) (deep r):=rfl
def dy(k:zwd)(v:V)(l r:Tr zwd V):list (bal k v l r)=list l++(k,v)::list r:=by
 unfold bal;split
 ·rename_i h
  cases l with
  | nil=>simp [deep] at h
  | node lk lv ll lr=>
   dsimp only;split
   ·simp [list]
   ·rename_i h2
    cases lr with
    | nil=>simp [deep] at h2
    | node mk mv ml mr=>simp [list]
 ·split
  ·rename_i h
   cases r with
   | nil=>simp [deep] at h
   | node rk rv rl rr=>
    dsimp only;split
    ·simp [list]
    ·rename_i h2
     cases rl with
     | nil=>simp [deep] at h2
     | node mk mv ml mr=>simp [list]
  ·simp [list]
def tg(k:zwd)(v:V)(l r:Tr zwd V):size (bal k v l r)=size l+1+size r:=by
 rw[<-size_list,dy,nr,ma,size_list,size_list];omega
def Br:∀ (k:zwd) (v:V) (l r:Tr zwd V),(first k v l r).1::list (first k v l r).2=list l++(k,v)::list r
 | k,v,nil,r=>rfl
 | k,v,node lk lv ll lr,r=>by
  simp only[first,dy,list];rw[<-zsa,Br lk lv ll lr]
def size_first(k:zwd)(v:V)(l r:Tr zwd V):size (first k v l r).2=size l+size r:=by
 have:=nh List.length (Br k v l r);simp only[ma,nr,size_list] at this;omega
def size_put(c:zwd->zwd->Int)(k:zwd)(v:V):∀ t:Tr zwd V,size (put c k v t)<=size t+1
 | nil=>by simp [put,size]
 | node nk nv l r=>by
  have:=size_put c k v l;have:=size_put c k v r;simp only[put];split
  ·rw[tg,size_node];omega
  ·split
   ·rw[tg,size_node];omega
   ·rw[size_node,size_node];omega
def size_drop(c:zwd->zwd->Int)(k:zwd):∀ t:Tr zwd V,size (drop c k t).1<=size t
 | nil=>nu _
 | node nk nv l r=>by
  have:=size_drop c k l;have:=size_drop c k r;simp only[drop];split
  ·rw[tg,size_node];omega
  ·split
   ·rw[tg,size_node];omega
   ·cases r with
    | nil=>simp only[size];omega
    | node rk rv rl rr=>rw[tg,size_first,size_node,size_node];omega
def prs_length_le:∀ (t:Tr zwd V) (a f e:Int),(prs t a f e).length<=size t
 | nil,_,_,_=>nu _
 | node k v l r,a,f,e=>by
  have:=prs_length_le l a f e;have:=prs_length_le r (a+size l+1) f e;simp only[prs];split
  ·exact mb _
  ·simp only[nr,size_node];split
   ·simp only[ma,m7];omega
   ·simp only[m7];omega
def TreeAt(nl:zwd->V->Value->Value->Int->Int->List Value)(ty:TypeId):Tr zwd V->Value->Heap->Prop
 | nil,v,_=>v=.pointer none
 | node k x l r,v,H=>∃ b lv rv,v=.pointer (some ⟨b,0,none⟩)/\H b=some (.cells (nl k x lv rv (size (node k x l r)) (deep (node k x l r))).toArray ty)/\TreeAt nl ty l lv H/\TreeAt nl ty r rv H
def TreeAt.mono{nl:zwd->V->Value->Value->Int->Int->List Value}:∀ {t:Tr zwd V},Kn.mono (.sat (TreeAt nl ty t))
 | nil,_,_,_,h,_=>h
 | node k x l r,_,_,_,⟨b,lv,rv,h1,h2,h3,h4⟩,hle=>⟨b,lv,rv,h1,hle _ _ h2,TreeAt.mono _ _ _ h3 hle,TreeAt.mono _ _ _ h4 hle⟩
def TreeAt.le{nl:zwd->V->Value->Value->Int->Int->List Value}{t:Tr zwd V}{H':Heap}(h:TreeAt nl ty t v H)(hle:H.Le H'):TreeAt nl ty t v H':=TreeAt.mono _ _ _ h hle
end Tr
end Go.V
namespace Go.V
structure zjg{zwd:Type}(c:zwd->zwd->Int):Prop where
 anti:∀ a b,c a b<0↔0<c b a
 trans:∀ {a b d},c a b<0->c b d<0->c a d<0
 eql:∀ {a b} (d),c a b=0->(c a d<0↔c b d<0)
namespace zjg
variable  {c:zwd->zwd->Int}
def refl(h:zjg c)(a:zwd):c a a=0:=by
 have:=h.anti a a;omega
def symm(h:zjg c){a b:zwd}(e:c a b=0):c b a=0:=by
 have:=h.anti a b;have:=h.anti b a;omega
end zjg
namespace Tr
variable {V:Type} (c:zwd->zwd->Int)
def Srt(l:List (zwd×V)):Prop:=l.Pairwise fun x y=>c x.1 y.1<0
def putS(k:zwd)(v:V):List (zwd×V)->List (zwd×V)
 | []=>[(k,v)]
 | y::l=>if c k y.1<0 then (k,v)::y::l else if c k y.1>0 then y::putS k v l else (y.1,v)::l
def dropS(k:zwd):List (zwd×V)->List (zwd×V)
 | []=>[]
 | y::l=>if c k y.1<0 then y::l else if c k y.1>0 then y::dropS k l else l
def getS(k:zwd):List (zwd×V)->Option V
 | []=>none
 | y::l=>if c k y.1=0 then some y.2 else getS k l
def cutI(f e:Int):List (zwd×V)->Int->List (zwd×V)
 | [],_=>[]
 | y::l,i=>if f<=i/\i<e then y::cutI f e l (i+1) else cutI f e l (i+1)
variable {c} (h:zjg c)
include h
theorem Em{k:zwd}{v:V}:∀ {l1 l2:List (zwd×V)} {y:zwd×V},(∀ x∈l1,c x.1 y.1<0)->
  putS c k v (l1++y::l2)=if c k y.1<0 then putS c k v l1++y::l2 else if c k y.1>0 then l1++y::putS c k v l2 else l1++(y.1,v)::l2
 | [],l2,y,_=>by simp only[mo,putS];split<;>simp
 | x::l1,l2,y,hl=>by
  have ih:=Em (k:=k) (v:=v) (l1:=l1) (l2:=l2) (y:=y) fun z hz=>hl z (mf _ hz);have hx:=hl x (mc ..);simp only[zsa,putS];by_cases h1:c k x.1<0
  ·have:c k y.1<0:=h.trans h1 hx;rw[na h1,na this,na h1];rfl
  ·rw[nc h1];by_cases h2:c k x.1>0
   ·rw[na h2,ih,nc h1,na h2];split
    ·rfl
    ·split<;>rfl
   ·have h0:c k x.1=0:=J;have:c k y.1<0:=(h.eql _ h0).2 hx;rw[nc h2,na this,nc h1,nc h2];rfl
theorem Cj{k:zwd}:∀ {l1 l2:List (zwd×V)} {y:zwd×V},(∀ x∈l1,c x.1 y.1<0)->
  dropS c k (l1++y::l2)=if c k y.1<0 then dropS c k l1++y::l2 else if c k y.1>0 then l1++y::dropS c k l2 else l1++l2
 | [],l2,y,_=>by simp only[mo,dropS]
 | x::l1,l2,y,hl=>by
  have ih:=Cj (k:=k) (l1:=l1) (l2:=l2) (y:=y) fun z hz=>hl z (mf _ hz);have hx:=hl x (mc ..);simp only[zsa,dropS];by_cases h1:c k x.1<0
  ·have:c k y.1<0:=h.trans h1 hx;rw[na h1,na this,na h1];rfl
  ·rw[nc h1];by_cases h2:c k x.1>0
   ·rw[na h2,ih,nc h1,na h2];split
    ·rfl
    ·split<;>rfl
   ·have h0:c k x.1=0:=J;have:c k y.1<0:=(h.eql _ h0).2 hx;rw[nc h2,na this,nc h1,nc h2]
omit h in
theorem D8{l1 l2:List (zwd×V)}{y:zwd×V}(hs:Srt c (l1++y::l2)):Srt c l1/\Srt c l2/\(∀ x∈l1,c x.1 y.1<0)/\(∀ x∈l2,c y.1 x.1<0):=by
 have h1:=zsr.1 hs;have h2:=mn.1 h1.2.1;exact⟨h1.1,h2.2,fun x hx=>h1.2.2 x hx y (mc ..),h2.1⟩
theorem list_put(k:zwd)(v:V):∀ {t:Tr zwd V},Srt c (list t)->list (put c k v t)=putS c k v (list t)
 | nil,_=>rfl
 | node nk nv l r,hs=>by
  obtain⟨hl,hr,hx,_⟩:=D8 (y:=(nk,nv)) hs;simp only[list,put];rw[Em h hx];split
  ·rw[dy,list_put k v hl]
  ·split
   ·rw[dy,list_put k v hr]
   ·rfl
theorem list_drop(k:zwd):∀ {t:Tr zwd V},Srt c (list t)->list (if (drop c k t).2=true then (drop c k t).1 else t)=dropS c k (list t)/\((drop c k t).2=false->(drop c k t).1=t\/list (drop c k t).1=list t)/\((drop c k t).2=true->list (drop c k t).1=dropS c k (list t))/\((drop c k t).2=false->dropS c k (list t)=list t)
 | nil,_=>⟨rfl,fun _=>.inl rfl,fun h=>(by cases h),fun _=>rfl⟩
 | node nk nv l r,hs=>by
  obtain⟨hl,hr,hx,_⟩:=D8 (y:=(nk,nv)) hs;have il:=list_drop k hl;have ir:=list_drop k hr
  have key:((drop c k (node nk nv l r)).2=true->list (drop c k (node nk nv l r)).1=dropS c k (list (node nk nv l r)))/\((drop c k (node nk nv l r)).2=false->dropS c k (list (node nk nv l r))=list (node nk nv l r)/\list (drop c k (node nk nv l r)).1=list (node nk nv l r)):=by
   simp only[list,drop];rw[Cj h hx];split
   ·refine⟨fun ht=>?_,fun hf=>?_⟩
    ·dsimp only at ht |-;rw[dy,il.2.2.1 ht]
    ·dsimp only at hf |-;have e:=il.2.2.2 hf;refine⟨by rw[e],?_⟩;rw[dy];rcases il.2.1 hf with e1 | e1<;>rw[e1]
   ·split
    ·refine⟨fun ht=>?_,fun hf=>?_⟩
     ·dsimp only at ht |-;rw[dy,ir.2.2.1 ht]
     ·dsimp only at hf |-;have e:=ir.2.2.2 hf;refine⟨by rw[e],?_⟩;rw[dy];rcases ir.2.1 hf with e1 | e1<;>rw[e1]
    ·cases r with
     | nil=>exact⟨fun _=>by simp [list],fun hf=>by cases hf⟩
     | node rk rv rl rr=>
      refine⟨fun _=>?_,fun hf=>by cases hf⟩;dsimp only;rw[dy];have:=Br rk rv rl rr;rw[show((first rk rv rl rr).1.1,(first rk rv rl rr).1.2)=(first rk rv rl rr).1 from rfl,this];rfl
  refine⟨?_,fun hf=>.inr (key.2 hf).2,key.1,fun hf=>(key.2 hf).1⟩;split
  ·rename_i ht;exact key.1 ht
  ·rename_i ht;have hf:(drop c k (node nk nv l r)).2=false:=by simpa using ht
   exact(key.2 hf).1.symm
theorem Fg{k:zwd}:∀ {l1 l2:List (zwd×V)} {y:zwd×V},(∀ x∈l1,c x.1 y.1<0)->(∀ x∈l2,c y.1 x.1<0)->
  getS c k (l1++y::l2)=if c k y.1=0 then some y.2 else if c k y.1<0 then getS c k l1 else getS c k l2
 | [],l2,y,_,h2=>by
  simp only[mo,getS];split
  ·rfl
  ·split
   ·rename_i h1
    have:∀ (l:List (zwd×V)),(∀ x∈l,c y.1 x.1<0)->getS c k l=none:=by
     intro l
     induction l with
     | nil=>intro _;rfl
     | cons z l ih=>
      intro hz;have:=h.trans h1 (hz z (mc ..));simp only[getS];rw[nc J];exact ih fun x hx=>hz x (mf _ hx)
    exact this l2 h2
   ·rfl
 | x::l1,l2,y,hl,h2=>by
  have ih:=Fg (k:=k) (l1:=l1) (l2:=l2) (y:=y) (fun z hz=>hl z (mf _ hz)) h2;have hx:=hl x (mc ..);simp only[zsa,getS];by_cases h0:c k x.1=0
  ·have:c k y.1<0:=(h.eql _ h0).2 hx;rw[na h0,nc J,na this,na h0]
  ·rw[nc h0,ih,nc h0]
theorem get_list(k:zwd):∀ {t:Tr zwd V},Srt c (list t)->get c k t=getS c k (list t)
 | nil,_=>rfl
 | node nk nv l r,hs=>by
  obtain⟨hl,hr,hx,hy⟩:=D8 (y:=(nk,nv)) hs;simp only[list,get];rw[Fg h hx hy,get_list k hl,get_list k hr]
omit h
theorem Fq(f e:Int):∀ (l1 l2:List (zwd×V)) (i:Int),cutI f e (l1++l2) i=cutI f e l1 i++cutI f e l2 (i+l1.length)
 | [],l2,i=>by simp [cutI]
 | y::l1,l2,i=>by
  simp only[zsa,cutI,Fq f e l1 l2 (i+1),ma];rw[show i+1+(l1.length:Int)=i+((l1.length+1:Nat):Int) by omega];split<;>rfl
theorem Uk(f e:Int):∀ (l:List (zwd×V)) (i:Int),i+l.length<=f\/i>=e->cutI f e l i=[]
 | [],_,_=>rfl
 | y::l,i,h=>by
  simp only[ma] at h;simp only[cutI];rw[nc J,Uk f e l (i+1) J]
theorem prs_list:∀ (t:Tr zwd V) (a f e:Int),prs t a f e=cutI f e (list t) a
 | nil,_,_,_=>rfl
 | node nk nv l r,a,f,e=>by
  simp only[prs];split
  ·rename_i h1;rw[Uk];rw[size_list];exact h1
  ·simp only[list];rw[Fq,prs_list l,prs_list r,size_list];simp only[cutI];split
   ·rename_i h2;rfl
   ·rename_i h2;rfl
def lst:Nat->Nat
 | 0=>0
 | 1=>1
 | n+2=>lst (n+1)+lst n+1
end Tr
end Go.V
namespace Go.V.L6
open Go.V Go.V.L2 Go.V.L3
def zbi{c:α->α->Int}(h:Ord3 c):zjg c:=by
 refine⟨fun a b=>?_,fun {a b d} h1 h2=>?_,fun {a b} d e=>?_⟩
 ·have:=h.anti a b;omega
 ·exact h.tr h1 h2
 ·rw[h.eq _ _ e]
def P9(a b:U):Int:=js (a.2,a.1) (b.2,b.1)
def Ak:Ord3 P9 where
 refl a:=cmpT_ord.refl _
 eq a b h:=by
  have:=cmpT_ord.eq _ _ h;exact Prod.ext (nh Prod.snd this) (nh Prod.fst this)
 anti a b:=cmpT_ord.anti _ _
 trans a b d:=cmpT_ord.trans _ _ _
set_option linter.unusedSectionVars false
section keys
variable  [DecidableEq α] {c:α->α->Int}
abbrev kS(L:List (α×Unit)):List α:=L.map (·.1)
def zn7{L:List (α×Unit)}:Tr.Srt c L↔Sst c (kS L):=by unfold Tr.Srt Sst kS;rw[List.pairwise_map]
def zle(h:Ord3 c){k:α}:∀ {L:List (α×Unit)},k∉kS L->kS (Tr.putS c k () L)=s5 c k (kS L)
 | [],_=>rfl
 | y::L,hk=>by
  simp only[kS,mt,nz,not_or] at hk;simp only[Tr.putS];by_cases h1:c k y.1<0
  ·rw[na h1];simp [kS,s5,h1]
  ·have h2:=h.tri h1 hk.1;have h3:=h.anti k y.1;rw[nc h1,na J];have ih:=zle h (L:=L) hk.2;simp only[kS,mt,s5] at ih |-;rw[nc h1,ih]
def zdc(h:Ord3 c){k:α}:∀ {L:List (α×Unit)},Sst c (kS L)->kS (Tr.dropS c k L)=(kS L).filter fun z=>decide (z≠k)
 | [],_=>rfl
 | y::L,hs=>by
  simp only[kS,mt] at hs;obtain⟨hy,hs'⟩:=mn.1 hs;simp only[Tr.dropS]
  have all:∀ {d:α},(c k d<0\/k=d)->(∀ z∈kS L,c d z<0)->(kS L).filter (fun z=>decide (z≠k))=kS L:=fun {d} hd hz=>zul.2 fun z hm=>by
   have h4:=hz z hm;simp only[decide_eq_true_eq];intro e;subst e;rcases hd with hd | hd
   ·exact h.asym hd h4
   ·subst hd;exact h.irr _ h4
  by_cases h1:c k y.1<0
  ·rw[na h1];simp only[kS,mt,zu5];rw[na (by simpa using (h.ne h1).symm)];have:=all (.inl h1) hy;unfold kS at this;rw[this]
  ·rw[nc h1];by_cases h2:c k y.1>0
   ·rw[na h2];have ih:=zdc h (k:=k) (L:=L) hs';simp only[kS,mt,zu5] at ih |-;have hne:y.1≠k:=fun e=>by rw[e,h.refl] at h2;omega
    rw[na (by simpa using hne),ih]
   ·rw[nc h2];have e:=h.eq _ _ (show c k y.1=0 by omega);simp only[kS,mt,zu5];rw[nc (by simpa using e.symm)];have:=all (.inr e) hy;unfold kS at this;rw[this]
def zn8(h:Ord3 c){k:α}:∀ {L:List (α×Unit)},(k∈kS L->Tr.getS c k L=some ())/\(k∉kS L->Tr.getS c k L=none)
 | []=>⟨fun h=>(by cases h),fun _=>rfl⟩
 | y::L=>by
  have ih:=zn8 h (k:=k) (L:=L);simp only[Tr.getS,kS,mt,nz];by_cases e:k=y.1
  ·subst e;rw[na (h.refl _)];exact⟨fun _=>rfl,fun hn=>ni (.inl rfl) hn⟩
  ·have:¬ c k y.1=0:=fun h0=>e (h.eq _ _ h0);rw[nc this];exact⟨fun hm=>ih.1 (hm.resolve_left e),fun hn=>ih.2 fun hm=>hn (.inr hm)⟩
def Lz:∀ {l:List α} {x:α},l.Nodup->x∈l->(l.filter fun z=>decide (z≠x)).length+1=l.length
 | [],_,_,h=>by cases h
 | y::l,x,hn,h=>by
  obtain⟨h1,h2⟩:=zto.1 hn;rw[zu5];by_cases e:y=x
  ·subst e;rw[nc (by simp)]
   have:(l.filter fun z=>decide (z≠y))=l:=zul.2 fun z hz=>by
    simp only[decide_eq_true_eq];exact fun e=>h1 (e ▸ hz)
   rw[this,ma]
  ·rw[na (by simpa using e),ma,ma,Lz h2 (by
    rcases nz.1 h with h | h
    ·exact ni h.symm e
    ·exact h)]
def X5{l:List α}{x:α}(h:x∉l):(l.filter fun z=>decide (z≠x))=l:=zul.2 fun z hz=>by
 simp only[decide_eq_true_eq];exact fun e=>h (e ▸ hz)
def Ul{V:Type}(f e:Nat):∀ (l:List (α×V)) (i:Nat),Tr.cutI (f:Int) (e:Int) l (i:Int)=(l.take (e-i)).drop (f-i)
 | [],i=>by simp [Tr.cutI]
 | y::l,i=>by
  have ih:=Ul f e l (i+1);simp only[Tr.cutI];rw[show((i:Int)+1)=((i+1:Nat):Int) by omega,ih];by_cases h:f<=i/\i<e
  ·rw[na J,show e-i=(e-(i+1))+1 by omega,show f-i=0 by omega,show f-(i+1)=0 by omega];rfl
  ·rw[nc J];by_cases h2:i<e
   ·rw[show e-i=(e-(i+1))+1 by omega,show f-i=(f-(i+1))+1 by omega];rfl
   ·rw[show e-i=0 by omega,show e-(i+1)=0 by omega];simp
end keys
structure TS(l:List U)(t u:Tr U Unit):Prop where
 kt:kS t.list=l
 st:Sst js l
 su:Sst P9 (kS u.list)
 mu:∀ z,z∈kS u.list↔z∈l
 zu:u.size=l.length
def Fu:zjg js:=zbi cmpT_ord
def Pt:zjg P9:=zbi Ak
def zm2:TS [] .nil .nil:=⟨rfl,Sst.nil,Sst.nil,fun _=>Iff.rfl,rfl⟩
section ts
variable  {t u:Tr U Unit}
def TS.size(h:TS l t u):t.size=l.length:=by rw[<-Tr.size_list,<-h.kt];simp
def TS.srt(h:TS l t u):Tr.Srt js t.list:=zn7.2 (h.kt ▸ h.st)
def TS.srtu(h:TS l t u):Tr.Srt P9 u.list:=zn7.2 h.su
def TS.put(h:TS l t u){x:U}(hx:x∉l):TS (s5 js x l) (Tr.put js x () t) (Tr.put P9 x () u):=by
 have hxt:x∉kS t.list:=by rw[h.kt];exact hx
 have hxu:x∉kS u.list:=fun hm=>hx ((h.mu x).1 hm)
 have e1:kS (Tr.put js x () t).list=s5 js x l:=by
  rw[Tr.list_put Fu x () h.srt,zle cmpT_ord hxt,h.kt]
 have e2:kS (Tr.put P9 x () u).list=s5 P9 x (kS u.list):=by
  rw[Tr.list_put Pt x () h.srtu,zle Ak hxu]
 refine⟨e1,bh cmpT_ord h.st hx,?_,fun z=>?_,?_⟩
 ·rw[e2];exact bh Ak h.su hxu
 ·rw[e2,gx,gx,h.mu]
 ·have:=nh List.length e2;simp only[kS,mg,vu,Tr.size_list] at this;rw[this,vu,h.zu]
def TS.drop(h:TS l t u){x:U}(hx:x∈l):TS (l.filter fun z=>decide (z≠x)) (if (Tr.drop js x t).2=true then (Tr.drop js x t).1 else t) (if (Tr.drop P9 x u).2=true then (Tr.drop P9 x u).1 else u):=by
 have e1:kS (if (Tr.drop js x t).2=true then (Tr.drop js x t).1 else t).list=l.filter fun z=>decide (z≠x):=by
  rw[(Tr.list_drop Fu x h.srt).1,zdc cmpT_ord (by rw[h.kt];exact h.st),h.kt]
 have e2:kS (if (Tr.drop P9 x u).2=true then (Tr.drop P9 x u).1 else u).list=(kS u.list).filter fun z=>decide (z≠x):=by
  rw[(Tr.list_drop Pt x h.srtu).1,zdc Ak h.su]
 refine⟨e1,h.st.sublist zun,?_,fun z=>?_,?_⟩
 ·rw[e2];exact h.su.sublist zun
 ·rw[e2,zsb,zsb,h.mu]
 ·have h1:=nh List.length e2;have h2:=Lz (h.su.nodup Ak) ((h.mu x).2 hx);have h3:=Lz (h.st.nodup cmpT_ord) hx;have h4:=h.zu;simp only[kS,mg,Tr.size_list] at h1 h2;omega
def TS.get(h:TS l t u)(x:U):Tr.get js x t=if x∈l then some () else none:=by
 have hk:=zn8 cmpT_ord (k:=x) (L:=t.list);rw[h.kt] at hk;rw[Tr.get_list Fu x h.srt];by_cases hx:x∈l
 ·rw[na hx];exact hk.1 hx
 ·rw[nc hx];exact hk.2 hx
end ts
def uh(l:List U)(x:U)(d:Bool):List U×Int:=
 if tE x=0 then (if d=true then (l.filter fun z=>decide (z≠x),0) else if x∈l then (l,0) else if l.length>=4096 then ([],3) else (s5 js x l,0)) else ([],tE x)
def M7(hs:Sst js l)(x:U)(d:Bool):Sst js (uh l x d).1:=by
 unfold uh;split
 ·split
  ·exact hs.sublist zun
  ·split
   ·exact hs
   ·split
    ·exact Sst.nil
    ·rename_i h _;exact bh cmpT_ord hs h
 ·exact Sst.nil
def Du(hl:l.length<=4096)(x:U)(d:Bool):(uh l x d).1.length<=4096:=by
 unfold uh;split
 ·split
  ·exact mq (zte _ _) hl
  ·split
   ·exact hl
   ·split
    ·exact mb _
    ·rw[vu];omega
 ·exact mb _
end Go.V.L6
namespace Go.V.L8
open Go.V.L2 Go.V.L3 Go.V.L6
abbrev CH:=U×Bool
def cE(n:Nat)(l:List CH):Int:=if n<l.length then 3 else if (l.any fun c=>!decide (tE c.1=0))=true then 6 else 0
def ia(s:List U)(m:CH):Bool:=decide (m.1∈s) != m.2
def fg(s:List U):List CH->Nat->Nat×Int
 | [],i=>(i,0)
 | m::r,i=>if ia s m=true then fg s r (i+1) else (i,13)
def a9(s:List U)(l:List CH):Nat×Int:=if cE 32 l=0 then fg s l 0 else (0,cE 32 l)
def ri(s:List U):∀ (l:List CH) (i:Nat),fg s l i=((fg s l 0).1+i,(fg s l 0).2)
 | [],i=>by simp [fg]
 | m::r,i=>by
  by_cases h:ia s m=true
  ·have e1:fg s (m::r) i=fg s r (i+1):=by rw[fg,na h]
   have e2:fg s (m::r) 0=fg s r (0+1):=by rw[fg,na h]
   rw[e1,e2,ri s r (i+1),ri s r (0+1)];exact Prod.ext (by show(fg s r 0).1+(i+1)=(fg s r 0).1+(0+1)+i;omega) Z
  ·rw[fg,fg,nc h,nc h];simp
def X0{s:List U}{l:List CH}{m:CH}(h:∀ (j:Nat) x,j<i->l[j]?=some x->ia s x=true)(hm:l[i]?=some m)(hh:ia s m=false):fg s l 0=(i,13):=by
 induction l generalizing i with
 | nil=>simp at hm
 | cons y r ih=>
  cases i with
  | zero=>
   simp at hm;subst hm;unfold fg;rw[nc (by rw[hh];decide)]
  | succ i=>
   have hy:=h 0 y (Nat.succ_pos _) rfl;unfold fg;rw[na hy,ri,ih (i:=i) (fun j x hj hx=>h (j+1) x J hx) (by simpa using hm)]
def X4{s:List U}{l:List CH}(h:∀ x∈l,ia s x=true):fg s l 0=(l.length,0):=by
 induction l with
 | nil=>rfl
 | cons y r ih=>
  unfold fg;rw[na (h y (by simp)),ri,ih (fun x hx=>h x (by simp [hx]))];rfl
def iu:List U->List CH->List CH->List U×List CH×Int
 | s,made,[]=>(s,made,0)
 | s,made,c::r=>if (uh s c.1 c.2).2=0 then iu (uh s c.1 c.2).1 (if decide (c.1∈s)=c.2 then made++[c] else made) r else ([],[],(uh s c.1 c.2).2)
def ci(s:List U)(l cs:List CH):List U×List CH×Int:=
 if cE 32 l=0 then (if cE 32 cs=0 then (if (a9 s l).2=0 then iu s [] cs else ([],[],(a9 s l).2)) else ([],[],cE 32 cs)) else ([],[],cE 32 l)
def U9(x:U)(d:Bool)(h0:(uh l x d).2=0):((uh l x d).1=l)↔¬ decide (x∈l)=d:=by
 unfold uh at h0 |-;by_cases ht:tE x=0
 ·rw[na ht] at h0 |-
  cases d with
  | true=>
   rw[na rfl];dsimp only;rw[zul];simp only[decide_eq_true_eq];exact⟨fun h hx=>h x hx Z,fun h z hz e=>h (e ▸ hz)⟩
  | false=>
   rw[nc E] at h0 |-;by_cases hx:x∈l
   ·rw[na hx,nf hx];simp
   ·rw[nc hx] at h0 |-;rw[ng hx];by_cases hl:l.length>=4096
    ·rw[na hl] at h0;exact ni h0 E
    ·rw[nc hl];have:=vu (c:=js) x l;constructor
     ·intro h;dsimp only at h;rw[h] at this;omega
     ·intro h;exact ni rfl h
 ·rw[nc ht] at h0;exact ni h0 ht
end Go.V.L8
namespace Go.V
def fzI(P:Program)(t' st:TypeId)(off i:Nat):Bool:=
 match P.underlying st with
 | some (.struct fs)=>match fs[i]? with
  | some f=>(match P.info? f.type with | some j=>j.size == 0 | none=>false) && (!(P.cellsOf t' == 0) && ((byteOfCell P P.depth t' (off%P.cellsOf t')).isSome && (byteOfCell P P.depth t' ((off+f.offset)%P.cellsOf t')).isSome))
  | none=>false
 | _=>false
def PtrS:Value->Heap->Prop:=fun v _=>∃ a,v=.pointer (some a)
def PtrS.mono:Kn.mono (.sat PtrS):=fun _ _ _ h _=>h
section
variable  {F:Fr}      {d:Nat}    
def Gy{b:Nat}{cs:Array Value}{e:TypeId}(h:u.heap[b]?=some (.cells cs e fr))(hs:P.cellsOf e≠0)(hb:byteOfCell P P.depth e (off%P.cellsOf e)=some k):
  (byteOf ⟨b,off,none⟩).run P u=.ok (off/P.cellsOf e*P.bytesOf e+k) u:=by
 have hsh:u.shape? b=some (e,cs.size):=by unfold World.shape?;rw[h]
 simp only[byteOf,nw,run_program,ny,noView,viewAt,shape,Sem.run,hsh,Option.isSome_some,if_true,me,Option.isSome_none,ztj,if_false,Option.isSome];simp [hs,hb,hsh]
def Gx{st:TypeId}{b:Nat}{cs:Array Value}(hz:fzI P t' st off i=true)(hb:u.heap[b]?=some (.cells cs t' fr)):
  ∃ a,(Instr.fieldAt st (.pointer (some ⟨b,off,none⟩)) i).run P u=.ok (.pointer (some a)) u:=by
 unfold fzI at hz;split at hz
 ·rename_i fs hu;split at hz
  ·rename_i f hf;split at hz
   ·rename_i j hj;simp only[zsn,beq_iff_eq,zvq,beq_eq_false_iff_ne,ne_eq,zso] at hz;obtain⟨hj0,hc,⟨k1,h1⟩,k2,h2⟩:=hz;have r1:=Gy (P:=P) hb hc h1;have r2:=Gy (P:=P) hb hc h2;have hsz:(sizeOf f.type).run P u=.ok 0 u:=by simp [sizeOf,typeInfo,hj,hj0]
    have hun:=run_underlying (P:=P) (w:=u) hu
    have hfp:∃ a,(fieldPlace ⟨b,off,none⟩ f).run P u=.ok a u:=by
     simp only[fieldPlace,nw,hsz,ny,if_true,partAt,r1,r2,me];exact⟨_,rfl⟩
    obtain⟨a,ha⟩:=hfp;refine⟨a,?_⟩;simp only[Instr.fieldAt,nw,hun,ny,hf,Instr.sureAddr,me,ha]
   ·simp at hz
  ·cases hz
 ·cases hz
def zho{t:TypeId}(hp:PL P t places z)(hc:An places z vs=some cs):P.built t vs=some cs.toArray:=by
 obtain⟨zv,hz1,hz2⟩:=hp.zr;have hpl:=hp.pl;unfold plI at hpl;unfold zrI at hz1;split at hz1
 ·rename_i it hit;unfold Program.built;split at hpl
  ·rename_i fs hu;simp only[hit,hu,hz1,hpl];rw[vg,hz2];exact f0 (fun i p h=>by simpa using h) vs z cs hc
  ·rename_i m el hu;split at hpl
   ·rename_i ie hie;simp only[hit,hu,hz1,hie];cases hpl;rw[vg,hz2]
    exact f0 (fun i p h=>by
     rw[zr8] at h
     cases hr:(List.range m)[i]? with
     | none=>rw[hr] at h;cases h
     | some j=>
      rw[hr] at h
      have:j=i:=by
       have:=zs2.1 hr;obtain⟨h1,h2⟩:=this;simpa using h2.symm
      subst this;simpa using h) vs z cs hc
   ·cases hpl
  ·cases hpl
 ·cases hz1
def Xe{t:Nat}{st:TypeId}(hx:κ t=some (.sat (At cs t' off)))(hn:Nat.blt d n=true)(hg:gK ops κ ⟨some d,.fieldAddr st (.tmp t) i,ty,pos,aft,g⟩=some true)
  (hz:fzI P t' st off i=true):StepOK P F B n ops O κ ⟨some d,.fieldAddr st (.tmp t) i,ty,pos,aft,g⟩ d (.sat PtrS):=
 k9 rfl (zn hn) hg PtrS.mono fun a u H fp e=>by
  obtain⟨b,hv,hb⟩:=e.sat_ t _ (by simp [Op.operands]) hx;obtain⟨ad,hr⟩:=Gx hz (e.sub _ _ hb);refine⟨_,?_,ad,rfl⟩;simp only[execOp,hv,nw,hr,ny];rfl
def Xd{st:TypeId}{b:Nat}{cs:Array Value}(hb:B b=some (.cells cs t' fr))(hx:evK κ x=some (.pointer (some ⟨b,off,none⟩)))(hn:Nat.blt d n=true)(hg:gK ops κ ⟨some d,.fieldAddr st x i,ty,pos,aft,g⟩=some true)
  (hz:fzI P t' st off i=true):StepOK P F B n ops O κ ⟨some d,.fieldAddr st x i,ty,pos,aft,g⟩ d (.sat PtrS):=
 k9 rfl (zn hn) hg PtrS.mono fun a u H fp e=>by
  have hv:=e.is_ x _ (by simp [Op.operands]) hx;obtain⟨ad,hr⟩:=Gx hz (e.sub _ _ (e.base _ _ hb));refine⟨_,?_,ad,rfl⟩;simp only[execOp,hv,nw,hr,ny];rfl
def Tn(L:Tabs P){t:TypeId}(hx:κ q=some (.sat PtrS))(hn:Nat.blt d n=true)(hg:gK ops κ ⟨some d,.load t (.tmp q),ty,pos,aft,g⟩=some true)(ht:L.ld t=some (true,0)):
  StepOK P F B n ops O κ ⟨some d,.load t (.tmp q),ty,pos,aft,g⟩ d (.is (.agg #[])):=
 k9 rfl (zn hn) hg trivial fun a u H fp e=>by
  obtain⟨ad,hv⟩:=e.sat_ q _ (by simp [Op.operands]) hx;refine⟨.agg #[],?_,rfl⟩;simp only[execOp,hv,Instr.loadAt,Instr.sureAddr,nw,me,ny];rw[uc (Tabs.ld_spec ht) u ad [] rfl (fun j v hj=>by simp at hj)];rfl
def Ou{t:TypeId}(hn:Nat.blt d n=true)(hg:gK ops κ ⟨some d,.build t parts,ty,pos,aft,g⟩=some true)
  (hp:PL P t places z) (hm:Kn.mono (.sat ψ)) (h:∀ H,B.Le H->Args κ H (parts.toList.map (·.2)) [] (fun vs=>∃ cs,An places z ((parts.toList.map (·.1)).zip vs)=some cs/\ψ (.agg cs.toArray) H)):
  StepOK P F B n ops O κ ⟨some d,.build t parts,ty,pos,aft,g⟩ d (.sat ψ):=by
 rintro κ' a u hl ⟨H,fp,hh⟩;unfold After;rw[na (xn hh hl hg)];have e:=hh.env (o:=⟨some d,.build t parts,ty,pos,aft,g⟩) hl
 have hc:=Args.use e (parts.toList.map (·.2)) [] (fun x hx=>by
  simp only[Op.operands];obtain⟨q,hq,rfl⟩:=m6.1 hx;simp;exact⟨q.1,by simpa using hq⟩) (h H e.base)
 obtain⟨cs,hb,hψ⟩:=hc;simp only[zsz,mo,ztl] at hb
 have hz:(parts.toList.map (·.1)).zip (parts.toList.map (a.eval∘(·.2)))=parts.toList.map fun p=>(p.1,a.eval p.2):=by
  generalize parts.toList=l
  induction l with
  | nil=>rfl
  | cons x l ih=>simp only[mt,List.zip_cons_cons,ih];rfl
 rw[hz] at hb;have hbt:=zho hp hb;have hr:=run_build (P:=P) u t (parts.toList.map fun p=>(p.1,a.eval p.2)).toArray cs.toArray (by simpa using hbt)
 have harr:(parts.map fun(p:Nat×Operand)=>(p.1,a.eval p.2))=(parts.toList.map fun p=>(p.1,a.eval p.2)).toArray:=by
  rw[<-zr9,ztp]
 have hrun:(execOp a.eval ⟨some d,.build t parts,ty,pos,aft,g⟩).run P u=.ok (.value (.agg cs.toArray)) u:=by
  simp only[execOp,nw];show Result.andThen ((Instr.build t (parts.map fun(p:Nat×Operand)=>(p.1,a.eval p.2))).run P u) _=_;rw[harr,hr];rfl
 rw[hrun];simp only[Upon];exact⟨H,fp,hh.put (zn hn) hm hψ⟩
end
end Go.V
namespace Go.V.UT
def _root_.Z9(t:Wr Y->A:=by intro h;refine z9 (ql L (qt Z M) Z Z Z Z) Z ?_;exact h.1)(h:Y):A:=t ⟨h⟩
def _root_.ZaY(t:Wr Y->A:=by intro h;refine z9 (qg L (vs:=[_,_,_,_,_,_]) (qt Z M) Z Z Z Z ⟨_,rfl⟩) Z ?_;exact h.1)(h:Y):A:=t ⟨h⟩
def _root_.ZdY(t:Wr Y->A:=by intro h;refine z7 (qg L (vs:=[_,_,_,_,_,_]) (qz Z) Z Z Z Z ⟨_,rfl⟩) Z ?_;exact h.1)(h:Y):A:=t ⟨h⟩
def _root_.Zbd(t:Wr Y->A:=by intro h;refine z7 (ql L (qt Z M) Z Z Z Z) Z ?_;exact h.1)(h:Y):A:=t ⟨h⟩
def _root_.Zdc(t:Wr Y->A:=by intro h;refine z7 (fz Z Z Z Z zp2 Z) Z ?_;exact h.1)(h:Y):A:=t ⟨h⟩
def _root_.ZdC(t:Wr Y->A:=by intro h;refine z9 (yd Z Z Z Z (xb J J)) Z ?_;exact h.1)(h:Y):A:=t ⟨h⟩
def _root_.Zcs(t:Wr Y->A:=by intro h;refine z9 (ym Z Z Z) Z ?_;exact h.1)(h:Y):A:=t ⟨h⟩
def _root_.Zer(t:Wr Y->A:=by intro h;refine qp (id:=2) [] kr T ?_;exact h.1)(h:Y):A:=t ⟨h⟩
def _root_.ZbC(t:Wr Y->A:=by exact fun h=>(Zm∘Zl) h.1)(h:Y):A:=t ⟨h⟩
def _root_.ZcR(t:Wr Y->A:=by exact fun h=>(Zc∘Zdp) h.1)(h:Y):A:=t ⟨h⟩
def _root_.ZcM(t:Wr Y->A:=by exact fun h=>(ZcR∘Zi) h.1)(h:Y):A:=t ⟨h⟩
def _root_.Zcc(t:Wr Y->A:=by exact fun h=>(ZaU∘Z9) h.1)(h:Y):A:=t ⟨h⟩
def _root_.Zcd(t:Wr Y->A:=by exact fun h=>(Zc∘Zeg) h.1)(h:Y):A:=t ⟨h⟩
abbrev KT:=((ByteArray×ByteArray)×ByteArray)×((ByteArray×ByteArray)×ByteArray)
abbrev VT:=Unit
abbrev kv(k:KT):Value:=.agg #[.string k.1.1.1,.string k.1.1.2,.string k.1.2,.string k.2.1.1,.string k.2.1.2,.string k.2.2]
abbrev vv(x:VT):Value:=.agg #[]
abbrev pl(k:KT)(x:VT):List Value:=[.string k.1.1.1,.string k.1.1.2,.string k.1.2,.string k.2.1.1,.string k.2.1.2,.string k.2.2]
abbrev nl(k:KT)(x:VT)(l r:Value)(s d:Int):List Value:=[.string k.1.1.1,.string k.1.1.2,.string k.1.2,.string k.2.1.1,.string k.2.1.2,.string k.2.2]++[l,r,.int .i64 s,.int .i64 d]
abbrev TA(t:Tr KT VT):Value->Heap->Prop:=Tr.TreeAt nl 352 t
def TA.mono{t:Tr KT VT}:Kn.mono (.sat (TA t)):=Tr.TreeAt.mono
def TA.le{t:Tr KT VT}{v:Value}{H H':Heap}(h:TA t v H)(hle:H.Le H'):TA t v H':=Tr.TreeAt.le h hle
def TA.ptr{t:Tr KT VT}(h:TA t v H):∃ p,v=.pointer p:=by
 cases t with
 | nil=>exact⟨_,h⟩
 | node k x l r=>obtain⟨b,lv,rv,h,_⟩:=h;exact⟨_,h⟩
attribute [local irreducible] V N X VO Par StepOK Has Ret RetL Src
def size_ret(t:Tr KT VT){v:Value}(hB:zwe B w)(hv:TA t v B):Ret zwf 171 [v] w B (fun v _=>v=.int .i64 t.size):=by
 cases t with
 | nil=>
  obtain rfl:v=.pointer none:=hv;refine yl Tryz.func171 Z Tryz.ntmps171 (np Z) hB ((ZbD∘Zdc∘ZaM∘Zc) ?_);exact yk2 L [.tmp 2]
 | node k x l r=>
  obtain⟨b,lv,rv,rfl,hb,_,_⟩:=hv;refine yl Tryz.func171 Z Tryz.ntmps171 (np Z) hB ((ZbD∘Zdc∘Zs∘Zz∘Zam∘Zbd∘Zc) ?_);exact yk2 L [.tmp 2]
def deep_ret(t:Tr KT VT){v:Value}(hB:zwe B w)(hv:TA t v B):Ret zwf 313 [v] w B (fun v _=>v=.int .i64 t.deep):=by
 cases t with
 | nil=>
  obtain rfl:v=.pointer none:=hv;refine yl Tryz.func313 Z Tryz.ntmps313 (np Z) hB ((ZbD∘Zdc∘ZaM∘Zc) ?_);exact yk2 L [.tmp 2]
 | node k x l r=>
  obtain⟨b,lv,rv,rfl,hb,_,_⟩:=hv;refine yl Tryz.func313 Z Tryz.ntmps313 (np Z) hB ((ZbD∘Zdc∘Zs∘Zz∘Zam∘Zbd∘Zc) ?_);exact yk2 L [.tmp 2]
def zk4(a b:Nat):(if ((b:Nat):Int)>(a:Int) then ((b:Nat):Int) else (a:Int))=((max a b:Nat):Int):=by
 split<;>omega
def join_ret(k:KT)(x:VT)(l r:Tr KT VT){lv rv:Value}(hB:zwe B w)(hl:TA l lv B)(hr:TA r rv B)(hs:l.size+r.size<1099511627776):
  Ret zwf 290 [.agg (pl k x).toArray,lv,rv] w B (TA (.node k x l r)):=by
 obtain⟨pl',rfl⟩:=hl.ptr;obtain⟨pr,rfl⟩:=hr.ptr;have hdl:=l.deep_le;have hdr:=r.deep_le;refine yl Tryz.func290 Z Tryz.ntmps290 (np Z) hB ((Zq∘Ze∘Zcl∘ZbK∘ZbC) ?_);refine z91 L Z (fun u H hH hle=>UT.size_ret _ hH (UT.TA.le M hle)) ?_;refine(ZdC∘Zl) ?_;refine z91 L Z (fun u H hH hle=>UT.size_ret _ hH (UT.TA.le M hle)) ?_;refine(ZdC∘Zl) ?_;refine z91 L Z (fun u H hH hle=>UT.deep_ret _ hH (UT.TA.le M hle)) ?_;refine Zl (h:=?_);refine z91 L Z (fun u H hH hle=>UT.deep_ret _ hH (UT.TA.le M hle)) ?_;refine z9 (oe Z Z Z Z Z) Z (ZdC (h:=?_));refine z9 (yv (cs:=[_,_,_,_,_,_,_,_,_,_]) Z Z zps Z Z) Z (z9 (yu Z Z Z Z) Z ((Zcs∘ZaW) ?_));refine yk1 L [.tmp 6] fun u H hH hle=>?_;rintro _ ⟨b,rfl,hb⟩;refine⟨b,_,_,rfl,?_,TA.le hl hle,TA.le hr hle⟩;rw[zk4] at hb;simpa [Tr.size_node,Tr.deep_node] using hb
def bal_ret(k:KT)(x:VT)(l r:Tr KT VT){lv rv:Value}(hB:zwe B w)(hl:TA l lv B)(hr:TA r rv B)(hs:l.size+r.size<1099511627776):
  Ret zwf 288 [.agg (pl k x).toArray,lv,rv] w B (TA (Tr.bal k x l r)):=by
 have hdl:=l.deep_le;have hdr:=r.deep_le;refine yl Tryz.func288 Z Tryz.ntmps288 (np Z) hB ?_;unfold Tr.bal;by_cases h1:l.deep>r.deep+1
 ·rw[na h1]
  cases l with
  | nil=>simp [Tr.deep] at h1
  | node lk lx ll lr=>
   have hl0:=hl;obtain⟨b1,v1,v2,rfl,hb1,hll,hlr⟩:=hl;have hd1:=ll.deep_le;have hd2:=lr.deep_le;simp only[Tr.size_node] at hs hdl;dsimp only;by_cases h2:ll.deep>=lr.deep
   ·rw[na h2];refine(Zq∘Zax) ?_;refine z71 L Z (fun u H hH hle=>UT.deep_ret _ hH (UT.TA.le M hle)) ?_;refine Za (h:=?_);refine z71 L Z (fun u H hH hle=>UT.deep_ret _ hH (UT.TA.le M hle)) ?_;refine(ZcW∘Zc∘ZZ∘Zer∘Zl∘Zd9∘Zm∘Zbj∘Z9) ?_;refine z91 L Z (fun u H hH hle=>UT.deep_ret _ hH (UT.TA.le M hle)) ?_;refine Zcc (h:=?_);refine z91 L Z (fun u H hH hle=>UT.deep_ret _ hH (UT.TA.le M hle)) ?_;refine(Ze6∘Zcb∘Zy∘Zeg∘Zi∘ZcQ∘ZaU∘ZaY∘Zcc∘ZbK∘Zcc∘Zl) ?_;refine z9 (xh L Z Z (zn Z) Z Z Z UT.TA.mono (fun u H hH hle _=>UT.join_ret _ () _ _ hH (UT.TA.le M hle) (UT.TA.le M hle) (by first | omega | (simp only[Tr.size_node];omega)))) Z ?_;refine z9 (xh L Z Z (zn Z) Z Z Z UT.TA.mono (fun u H hH hle _ v1 hv1=>UT.join_ret _ () _ _ hH (UT.TA.le M hle) hv1 (by first | omega | (simp only[Tr.size_node];omega)))) Z ?_;refine(Zcs∘ZaW) ?_;refine yk1 L [.tmp 6] fun u H hH hle=>?_;exact fun v hv=>hv
   ·rw[nc h2]
    cases lr with
    | nil=>simp [Tr.deep] at h2
    | node mk mx ml mr=>
     have hlr0:=hlr;obtain⟨b2,v3,v4,rfl,hb2,hml,hmr⟩:=hlr;simp only[Tr.size_node] at hs hdl hd2;refine(Zq∘Zax) ?_;refine z71 L Z (fun u H hH hle=>UT.deep_ret _ hH (UT.TA.le M hle)) ?_;refine Za (h:=?_);refine z71 L Z (fun u H hH hle=>UT.deep_ret _ hH (UT.TA.le M hle)) ?_;refine(ZcW∘Zc∘ZZ∘Zer∘Zl∘Zd9∘Zm∘Zbj∘Z9) ?_;refine z91 L Z (fun u H hH hle=>UT.deep_ret _ hH (UT.TA.le M hle)) ?_;refine Zcc (h:=?_);refine z91 L Z (fun u H hH hle=>UT.deep_ret _ hH (UT.TA.le M hle)) ?_;refine(ZeV∘Zcb∘Zy∘Zdp∘Zi∘Zt∘ZN∘Zcd∘Zi∘ZC∘Zam∘Zbd∘Ze∘Zb7∘ZaU∘ZaY∘ZaU∘ZaY∘Zcc∘Zcc) ?_;refine z9 (xh L Z Z (zn Z) Z Z Z UT.TA.mono (fun u H hH hle _=>UT.join_ret _ () _ _ hH (UT.TA.le M hle) (UT.TA.le M hle) (by first | omega | (simp only[Tr.size_node];omega)))) Z ?_;refine(ZbK∘Zcc∘Zl) ?_;refine z9 (xh L Z Z (zn Z) Z Z Z UT.TA.mono (fun u H hH hle _=>UT.join_ret _ () _ _ hH (UT.TA.le M hle) (UT.TA.le M hle) (by first | omega | (simp only[Tr.size_node];omega)))) Z ?_;refine z9 (xh L Z Z (zn Z) Z Z Z UT.TA.mono (fun u H hH hle _ v1 hv1 v2 hv2=>UT.join_ret _ () _ _ hH hv1 hv2 (by first | omega | (simp only[Tr.size_node];omega)))) Z ?_;refine(Zcs∘ZaW) ?_;refine yk1 L [.tmp 6] fun u H hH hle=>?_;exact fun v hv=>hv
 ·rw[nc h1];by_cases h3:r.deep>l.deep+1
  ·rw[na h3]
   cases r with
   | nil=>simp [Tr.deep] at h3
   | node rk rx rl rr=>
    have hr0:=hr;obtain⟨b1,v1,v2,rfl,hb1,hrl,hrr⟩:=hr;have hd1:=rl.deep_le;have hd2:=rr.deep_le;simp only[Tr.size_node] at hs hdr;dsimp only;by_cases h2:rr.deep>=rl.deep
    ·rw[na h2];refine(Zq∘Zax) ?_;refine z71 L Z (fun u H hH hle=>UT.deep_ret _ hH (UT.TA.le M hle)) ?_;refine Za (h:=?_);refine z71 L Z (fun u H hH hle=>UT.deep_ret _ hH (UT.TA.le M hle)) ?_;refine(ZcW∘Zc∘ZZ∘Zer∘Zl∘ZdI∘Zcr∘ZbM∘ZcC∘Zcb∘Zy∘Zdp∘Zi∘Zt∘ZG∘ZcM∘ZeH∘Zl∘Zdf∘Zm∘Zbj∘Z9) ?_;refine z91 L Z (fun u H hH hle=>UT.deep_ret _ hH (UT.TA.le M hle)) ?_;refine Zcc (h:=?_);refine z91 L Z (fun u H hH hle=>UT.deep_ret _ hH (UT.TA.le M hle)) ?_;refine(Ze6∘Zcb∘Zy∘Zeg∘Zi∘Zdk∘ZaU∘ZaY∘ZbK∘Zm∘Zbj∘Z9) ?_;refine z9 (xh L Z Z (zn Z) Z Z Z UT.TA.mono (fun u H hH hle _=>UT.join_ret _ () _ _ hH (UT.TA.le M hle) (UT.TA.le M hle) (by first | omega | (simp only[Tr.size_node];omega)))) Z ?_;refine Zcc (h:=?_);refine z9 (xh L Z Z (zn Z) Z Z Z UT.TA.mono (fun u H hH hle _ v1 hv1=>UT.join_ret _ () _ _ hH hv1 (UT.TA.le M hle) (by first | omega | (simp only[Tr.size_node];omega)))) Z ?_;refine(Zcs∘ZaW) ?_;refine yk1 L [.tmp 6] fun u H hH hle=>?_;exact fun v hv=>hv
    ·rw[nc h2]
     cases rl with
     | nil=>simp [Tr.deep] at h2
     | node mk mx ml mr=>
      have hrl0:=hrl;obtain⟨b2,v3,v4,rfl,hb2,hml,hmr⟩:=hrl;simp only[Tr.size_node] at hs hdr hd1;refine(Zq∘Zax) ?_;refine z71 L Z (fun u H hH hle=>UT.deep_ret _ hH (UT.TA.le M hle)) ?_;refine Za (h:=?_);refine z71 L Z (fun u H hH hle=>UT.deep_ret _ hH (UT.TA.le M hle)) ?_;refine(ZcW∘Zc∘ZZ∘Zer∘Zl∘ZdI∘Zcr∘ZbM∘ZcC∘Zcb∘Zy∘Zdp∘Zi∘Zt∘ZG∘ZcM∘ZeH∘Zl∘Zdf∘Zm∘Zbj∘Z9) ?_;refine z91 L Z (fun u H hH hle=>UT.deep_ret _ hH (UT.TA.le M hle)) ?_;refine Zcc (h:=?_);refine z91 L Z (fun u H hH hle=>UT.deep_ret _ hH (UT.TA.le M hle)) ?_;refine(ZeV∘Zcb∘Zy∘Zdp∘Zi∘Zai∘ZS∘Zcd∘Zi∘Zcz∘Zam∘Zbd∘Ze∘Zfj∘ZaU∘ZaY∘ZbK∘Zm∘Zbj∘Z9) ?_;refine z9 (xh L Z Z (zn Z) Z Z Z UT.TA.mono (fun u H hH hle _=>UT.join_ret _ () _ _ hH (UT.TA.le M hle) (UT.TA.le M hle) (by first | omega | (simp only[Tr.size_node];omega)))) Z ?_;refine(ZaU∘ZaY∘Zcc∘Zcc) ?_;refine z9 (xh L Z Z (zn Z) Z Z Z UT.TA.mono (fun u H hH hle _=>UT.join_ret _ () _ _ hH (UT.TA.le M hle) (UT.TA.le M hle) (by first | omega | (simp only[Tr.size_node];omega)))) Z ?_;refine z9 (xh L Z Z (zn Z) Z Z Z UT.TA.mono (fun u H hH hle _ v1 hv1 v2 hv2=>UT.join_ret _ () _ _ hH hv1 hv2 (by first | omega | (simp only[Tr.size_node];omega)))) Z ?_;refine(Zcs∘ZaW) ?_;refine yk1 L [.tmp 6] fun u H hH hle=>?_;exact fun v hv=>hv
  ·rw[nc h3];refine(Zq∘Zax) ?_;refine z71 L Z (fun u H hH hle=>UT.deep_ret _ hH (UT.TA.le M hle)) ?_;refine Za (h:=?_);refine z71 L Z (fun u H hH hle=>UT.deep_ret _ hH (UT.TA.le M hle)) ?_;refine(ZcW∘Zc∘ZZ∘Zer∘Zl∘ZdI∘Zcr∘ZbM∘ZcC∘Zcb∘Zy∘Zdp∘Zi∘Zt∘ZG∘ZcM∘ZeH∘Zl∘Zd8∘Zcr∘ZbM∘ZcC∘Zcb∘Zy∘Zdp∘Zi∘Zai∘Zab∘ZcR∘ZbR∘Za0∘Zi∘ZQ∘ZdY∘Zb) ?_;refine z7 (xh L Z Z (zn Z) Z Z Z UT.TA.mono (fun u H hH hle _=>UT.join_ret _ () _ _ hH (UT.TA.le M hle) (UT.TA.le M hle) (by first | omega | (simp only[Tr.size_node];omega)))) Z ?_;refine Zb9 (h:=?_);refine yk1 L [.tmp 6] fun u H hH hle=>?_;exact fun v hv=>hv
end Go.V.UT
variable{t:Go.V.Tr Go.V.UT.KT Go.V.UT.VT}
namespace Go.V.UT
def _root_.Zdd(t:Wr Y->A:=by intro h;refine z7 (sg Z Z Z Z M) Z ?_;exact h.1)(h:Y):A:=t ⟨h⟩
def _root_.Zc3(t:Wr Y->A:=by intro h;refine z7 (Ex Z Z Z Z) Z ?_;exact h.1)(h:Y):A:=t ⟨h⟩
def _root_.ZdZ(t:Wr Y->A:=by intro h;refine z9 (sg Z Z Z Z M) Z ?_;exact h.1)(h:Y):A:=t ⟨h⟩
def _root_.ZeJ(t:Wr Y->A:=by intro h;refine z9 (qg L (vs:=[_,_,_,_,_,_]) (ya Z) Z Z Z Z ⟨_,rfl⟩) Z ?_;exact h.1)(h:Y):A:=t ⟨h⟩
def _root_.ZdD(t:Wr Y->A:=by intro h;refine o8 (ya Z) Z Z ?_;exact h.1)(h:Y):A:=t ⟨h⟩
def _root_.Zea(t:Wr Y->A:=by intro h;refine z9 (Ex Z Z Z Z) Z ?_;exact h.1)(h:Y):A:=t ⟨h⟩
def _root_.Ze8(t:Wr Y->A:=by intro h;refine qp (id:=13) [] kr T ?_;exact h.1)(h:Y):A:=t ⟨h⟩
structure Cmp(cf:Nat)(c:KT->KT->Int):Prop where
 fn:L.fn cf=some ()
 ret:∀ (a b:KT) (u:World) (H:Heap),zwe H u->Ret zwf cf [kv a,kv b] u H (fun v _=>v=.int .i64 (c a b))
abbrev mv(cf:Nat)(root:Value):Value:=.agg #[.func (.func cf) #[] #[],root]
attribute [local irreducible] V N X VO Par StepOK Has Ret RetL Src
def zkf{c:KT->KT->Int}(hc:Cmp cf c)(root:Value)(k:KT)(x:VT):∀ (t:Tr KT VT) {rv:Value} {w:World} {B:Heap},zwe B w->TA t rv B->t.size+1<1099511627776->
  Ret zwf 243 [mv cf root,rv,.agg (pl k x).toArray] w B (TA (Tr.put c k x t)):=by
 intro t
 induction t with
 | nil=>
  intro rv w B hB hv hs;obtain rfl:rv=.pointer none:=hv;have hn:TA .nil (.pointer none) B:=rfl;have hz:(Tr.nil:Tr KT VT).size=0:=rfl;refine yl Tryz.func243 Z Tryz.ntmps243 (np Z) hB ((ZaD∘Zax∘Zdc∘ZaM∘ZdY) ?_);refine z7 (xh L Z Z (zn Z) Z Z Z UT.TA.mono (fun u H hH hle _=>UT.join_ret _ () _ _ hH (UT.TA.le M hle) (UT.TA.le M hle) (by first | omega | (simp only[Tr.size_node];omega)))) Z ?_;refine Zb9 (h:=?_);refine yk1 L [.tmp 6] fun u H hH hle=>?_;exact fun v hv=>hv
 | node nk nx l r ihl ihr=>
  intro rv w B hB hv hs;obtain⟨b,lv,rv',rfl,hb,hl,hr⟩:=hv;have hpl:=Tr.size_put c k x l;have hpr:=Tr.size_put c k x r;simp only[Tr.size_node] at hs;refine yl Tryz.func243 Z Tryz.ntmps243 (np Z) hB ?_;unfold Tr.put;by_cases h1:c k nk<0
  ·rw[na h1];refine(ZaD∘Zax∘Zdc∘ZK∘ZcQ∘Zbi∘ZaA∘ZbK∘ZaU∘Zas∘ZaY) ?_;refine z9 (qd L Z Z (zn Z) Z Z hc.fn (fun u H hH _ _=>hc.ret _ _ u H hH)) Z ((Zy∘ZZ∘Zt∘ZS∘Zcd∘Zi∘Ze7∘ZaU∘ZaY∘Zde∘Zcc∘ZbK) ?_);refine z9 (xh L Z Z (zn Z) Z Z Z TA.mono (fun u H hH hle _=>ihl hH (hl.le hle) J)) Z (Zcc (h:=?_));refine z9 (xh L Z Z (zn Z) Z Z Z UT.TA.mono (fun u H hH hle _ v1 hv1=>UT.bal_ret _ () _ _ hH hv1 (UT.TA.le M hle) (by first | omega | (simp only[Tr.size_node];omega)))) Z ?_;refine(Zcs∘ZaW) ?_;refine yk1 L [.tmp 6] fun u H hH hle=>?_;exact fun v hv=>hv
  ·rw[nc h1];by_cases h2:c k nk>0
   ·rw[na h2];refine(ZaD∘Zax∘Zdc∘ZK∘ZcQ∘Zbi∘ZaA∘ZbK∘ZaU∘Zas∘ZaY) ?_;refine z9 (qd L Z Z (zn Z) Z Z hc.fn (fun u H hH _ _=>hc.ret _ _ u H hH)) Z ((Zy∘ZZ∘Zt∘Zab∘ZcM∘ZD∘ZN∘Zcd∘Zi∘ZeH∘ZaU∘ZaY∘Zcc∘Zde∘Zcc∘ZbK) ?_);refine z9 (xh L Z Z (zn Z) Z Z Z TA.mono (fun u H hH hle _=>ihr hH (hr.le hle) J)) Z (z9 (xh L Z Z (zn Z) Z Z Z UT.TA.mono (fun u H hH hle _ v1 hv1=>UT.bal_ret _ () _ _ hH (UT.TA.le M hle) hv1 (by first | omega | (simp only[Tr.size_node];omega)))) Z ?_);refine(Zcs∘ZaW) ?_;refine yk1 L [.tmp 6] fun u H hH hle=>?_;exact fun v hv=>hv
   ·rw[nc h2];refine(ZaD∘Zax∘Zdc∘ZK∘ZcQ∘Zbi∘ZaA∘ZbK∘ZaU∘Zas∘ZaY) ?_;refine z9 (qd L Z Z (zn Z) Z Z hc.fn (fun u H hH _ _=>hc.ret _ _ u H hH)) Z ((Zy∘ZZ∘Zt∘Zab∘ZcM∘ZD∘ZG∘ZcR∘ZbR∘Za0∘Zi∘Zdk∘ZaU∘Zas∘ZaY) ?_);refine z9 (Xe Z Z Z T) Z (z9 (Tn L Z Z Z Z) Z (z9 (yv (cs:=[_,_,_,_,_,_]) Z Z zne Z Z) Z ((Zcc∘Zcc) ?_)));refine z9 (xh L Z Z (zn Z) Z Z Z UT.TA.mono (fun u H hH hle _=>UT.join_ret _ () _ _ hH (UT.TA.le M hle) (UT.TA.le M hle) (by first | omega | (simp only[Tr.size_node];omega)))) Z ?_;refine(Zcs∘ZaW) ?_;refine yk1 L [.tmp 6] fun u H hH hle=>?_;exact fun v hv=>hv
abbrev FirstS(y:(KT×VT)×Tr KT VT):Value->Heap->Prop:=TupS [fun v _=>v=.agg (pl y.1.1 y.1.2).toArray,TA y.2]
def FirstS.mono{y:(KT×VT)×Tr KT VT}:Kn.mono (.sat (FirstS y)):=TupS.mono fun φ hφ=>by
 simp only[nz,zs8,or_false] at hφ;rcases hφ with rfl | rfl
 ·exact fun _ _ _ h _=>h
 ·exact TA.mono
def tupS2{w:Value}(h1:φ v H)(h2:ψ w H):TupS [φ,ψ] (tup [v,w]) H:=⟨[v,w],rfl,rfl,fun i χ x hi hx=>by
 match i with
 | 0=>cases hi;cases hx;exact h1
 | 1=>cases hi;cases hx;exact h2
 | _+2=>cases hi⟩
def first_ret:∀ (k:KT) (x:VT) (l r:Tr KT VT) {v:Value} {w:World} {B:Heap},zwe B w->TA (.node k x l r) v B->l.size+r.size<1099511627776->
  Ret zwf 289 [v] w B (FirstS (Tr.first k x l r)):=by
 intro k x l
 induction l generalizing k x with
 | nil=>
  intro r v w B hB hv hs;obtain⟨b,lv,rv,rfl,hb,hl,hr⟩:=hv;obtain rfl:lv=.pointer none:=hl;refine yl Tryz.func289 Z Tryz.ntmps289 (np Z) hB ((ZaB∘Zax∘Zam∘Zbd∘Zdc∘Zr∘Zer∘ZaU∘ZaY∘Zcc∘Zdl∘Zy) ?_);refine yk1 L [.cell 2 293,.tmp 3] fun u H hH hle=>?_;refine ZdD (h:=?_);exact tupS2 Z (TA.le hr hle)
 | node lk lx ll lr ih _=>
  intro r v w B hB hv hs;obtain⟨b,lv,rv,rfl,hb,hl,hr⟩:=hv;have hl0:=hl;obtain⟨b2,v3,v4,rfl,hb2,_,_⟩:=hl;have hz:=Tr.size_first lk lx ll lr;simp only[Tr.size_node] at hs;have hm:=TA.mono (t:=(Tr.first lk lx ll lr).2);refine yl Tryz.func289 Z Tryz.ntmps289 (np Z) hB ((ZaB∘Zax∘Zam∘Zbd∘Zdc∘Zs∘Zz∘Zam∘Zbd) ?_);refine z7 (xh L Z Z (zn Z) Z Z Z FirstS.mono (fun u H hH hle _=>ih lk lx lr hH (TA.le hl0 hle) J)) Z ((Zg∘Zc3∘Zdd∘Zbr∘Zaf∘Zk∘Zdr∘ZeJ∘ZaU∘ZaY∘ZaG∘Zcc) ?_);refine z9 (xh L Z Z (zn Z) Z Z Z UT.TA.mono (fun u H hH hle _ v1 hv1=>UT.bal_ret _ () _ _ hH hv1 (UT.TA.le M hle) (by first | omega | (simp only[Tr.size_node];omega)))) Z ?_;refine(Zdl∘Zcs∘ZaW) ?_;refine yk1 L [.cell 2 293,.tmp 3] fun u H hH hle=>?_;refine ZdD (h:=?_);exact fun v hv=>tupS2 Z hv
abbrev DropS(y:Tr KT VT×Bool):Value->Heap->Prop:=TupS [TA y.1,fun v _=>v=.bool y.2]
def DropS.mono{y:Tr KT VT×Bool}:Kn.mono (.sat (DropS y)):=TupS.mono fun φ hφ=>by
 simp only[nz,zs8,or_false] at hφ;rcases hφ with rfl | rfl
 ·exact TA.mono
 ·exact fun _ _ _ h _=>h
def zg9{c:KT->KT->Int}(hc:Cmp cf c)(root:Value)(k:KT):∀ (t:Tr KT VT) {rv:Value} {w:World} {B:Heap},zwe B w->TA t rv B->t.size<1099511627776->
  Ret zwf 242 [mv cf root,rv,kv k] w B (DropS (Tr.drop c k t)):=by
 intro t
 induction t with
 | nil=>
  intro rv w B hB hv hs;obtain rfl:rv=.pointer none:=hv;have hn:TA .nil (.pointer none) B:=rfl;refine yl Tryz.func242 Z Tryz.ntmps242 (np Z) hB ((ZaD∘Zv∘Zax∘Zdc∘ZaM∘Z4) ?_);refine yk1 L [.tmp 6,.tmp 7] fun u H hH hle=>?_;exact tupS2 Z Z
 | node nk nx l r ihl ihr=>
  intro rv w B hB hv hs;obtain⟨b,lv,rv',rfl,hb,hl,hr⟩:=hv;have hpl:=Tr.size_drop c k l;have hpr:=Tr.size_drop c k r;simp only[Tr.size_node] at hs;refine yl Tryz.func242 Z Tryz.ntmps242 (np Z) hB ?_;unfold Tr.drop;by_cases h1:c k nk<0
  ·rw[na h1];have hm:=TA.mono (t:=(Tr.drop c k l).1);refine(ZaD∘Zv∘Zax∘Zdc∘ZK∘ZcQ∘Zbi∘ZbK∘ZaU∘Zas∘ZaY) ?_;refine z9 (qd L Z Z (zn Z) Z Z hc.fn (fun u H hH _ _=>hc.ret _ _ u H hH)) Z ((Zy∘ZZ∘Zt∘ZS∘Zcd∘Zi∘Ze7∘Zde∘Zcc∘ZbK) ?_);refine z9 (xh L Z Z (zn Z) Z Z Z DropS.mono (fun u H hH hle _=>ihl hH (hl.le hle) J)) Z ((ZaG∘ZdZ∘Zea∘Zcs∘Zy∘Zi∘Zb7∘ZaU∘ZaY∘ZaG∘Zcc) ?_);refine z9 (xh L Z Z (zn Z) Z Z Z UT.TA.mono (fun u H hH hle _ v1 hv1=>UT.bal_ret _ () _ _ hH hv1 (UT.TA.le M hle) (by first | omega | (simp only[Tr.size_node];omega)))) Z ?_;refine(Zl∘Zcs∘Zy) ?_;refine yk1 L [.tmp 6,.tmp 7] fun u H hH hle=>?_;exact fun v hv=>tupS2 hv Z
  ·rw[nc h1];by_cases h2:c k nk>0
   ·rw[na h2];have hm:=TA.mono (t:=(Tr.drop c k r).1);refine(ZaD∘Zv∘Zax∘Zdc∘ZK∘ZcQ∘Zbi∘ZbK∘ZaU∘Zas∘ZaY) ?_;refine z9 (qd L Z Z (zn Z) Z Z hc.fn (fun u H hH _ _=>hc.ret _ _ u H hH)) Z ((Zy∘ZZ∘Zt∘Zab∘ZcM∘Z6∘ZN∘Zcd∘Zi∘Zdk∘Zde∘Zcc∘ZbK) ?_);refine z9 (xh L Z Z (zn Z) Z Z Z DropS.mono (fun u H hH hle _=>ihr hH (hr.le hle) J)) Z ((ZaG∘ZdZ∘Zea∘Zcs∘Zy∘Zi) ?_);refine qp (id:=9) [] kr T ((ZaU∘ZaY∘Zcc∘ZaG) ?_);refine z9 (xh L Z Z (zn Z) Z Z Z UT.TA.mono (fun u H hH hle _ v1 hv1=>UT.bal_ret _ () _ _ hH (UT.TA.le M hle) hv1 (by first | omega | (simp only[Tr.size_node];omega)))) Z ?_;refine(Zl∘Zcs∘Zy) ?_;refine yk1 L [.tmp 6,.tmp 7] fun u H hH hle=>?_;exact fun v hv=>tupS2 hv Z
   ·rw[nc h2]
    cases r with
    | nil=>
     obtain rfl:rv'=.pointer none:=hr;refine(ZaD∘Zv∘Zax∘Zdc∘ZK∘ZcQ∘Zbi∘ZbK∘ZaU∘Zas∘ZaY) ?_;refine z9 (qd L Z Z (zn Z) Z Z hc.fn (fun u H hH _ _=>hc.ret _ _ u H hH)) Z ((Zy∘ZZ∘Zt∘Zab∘ZcM∘Z6∘ZG∘ZcM∘Zcz∘Zam∘Zbd∘Zdc∘Zcd∘Zi∘ZbL∘Zam∘Zbd∘Z4) ?_);refine yk1 L [.tmp 6,.tmp 7] fun u H hH hle=>?_;exact tupS2 (TA.le hl hle) Z
    | node rk rx rl rr=>
     have hr0:=hr;obtain⟨b2,v3,v4,rfl,hb2,_,_⟩:=hr;have hz:=Tr.size_first rk rx rl rr;simp only[Tr.size_node] at hs;have hm:=TA.mono (t:=(Tr.first rk rx rl rr).2);refine(ZaD∘Zv∘Zax∘Zdc∘ZK∘ZcQ∘Zbi∘ZbK∘ZaU∘Zas∘ZaY) ?_;refine z9 (qd L Z Z (zn Z) Z Z hc.fn (fun u H hH _ _=>hc.ret _ _ u H hH)) Z ((Zy∘ZZ∘Zt∘Zab∘ZcM∘Z6∘ZG∘ZcM∘Zcz∘Zam∘Zbd∘Zdc∘ZcR∘ZbR∘Za0∘Zi∘ZQ∘Za∘Zam∘Zbd) ?_);refine z7 (xh L Z Z (zn Z) Z Z Z FirstS.mono (fun u H hH hle _=>first_ret rk rx rl rr hH (TA.le hr0 hle) J)) Z ((Zg∘Zc3∘Zdd∘Zbr∘Zaf∘Zk∘Ze8∘ZeJ∘Zcc∘ZaG) ?_);refine z9 (xh L Z Z (zn Z) Z Z Z UT.TA.mono (fun u H hH hle _ v1 hv1=>UT.bal_ret _ () _ _ hH (UT.TA.le M hle) hv1 (by first | omega | (simp only[Tr.size_node];omega)))) Z ?_;refine(Zcs∘Zy) ?_;refine yk1 L [.tmp 6,.tmp 7] fun u H hH hle=>?_;exact fun v hv=>tupS2 hv Z
def _root_.Zdv(t:Wr Y->A:=by intro h;refine z7 (qg L (vs:=[_,_]) (A9 Z (List.Mem.head _)) Z Z Z Z ⟨_,rfl⟩) Z ?_;exact h.1)(h:Y):A:=t ⟨h⟩
def _root_.Zdw(t:Wr Y->A:=by intro h;refine z7 (ql L (A9 Z (List.Mem.head _)) Z Z Z Z) Z ?_;exact h.1)(h:Y):A:=t ⟨h⟩
def _root_.Zes(t:Wr Y->A:=by intro h;refine Pv L (O1:=[]) Z Z Z Z Z Z Z Z Z ?_;exact h.1)(h:Y):A:=t ⟨h⟩
def _root_.Zfk(t:Wr Y->A:=by intro h;refine z7 (Lj Z Z Z Z zp2 Z Z) Z ?_;exact h.1)(h:Y):A:=t ⟨h⟩
def _root_.Za3(t:Wr Y->A:=by exact fun h=>(ZaF∘ZB) h.1)(h:Y):A:=t ⟨h⟩
def _root_.Zbe(t:Wr Y->A:=by exact fun h=>(Zcy∘ZZ) h.1)(h:Y):A:=t ⟨h⟩
def _root_.ZbN(t:Wr Y->A:=by exact fun h=>(ZX∘Zan) h.1)(h:Y):A:=t ⟨h⟩
def _root_.Zce(t:Wr Y->A:=by exact fun h=>(ZaT∘ZaC) h.1)(h:Y):A:=t ⟨h⟩
def _root_.Zct(t:Wr Y->A:=by exact fun h=>(ZaB∘Zk) h.1)(h:Y):A:=t ⟨h⟩
def _root_.Zc4(t:Wr Y->A:=by exact fun h=>(ZX∘Zk) h.1)(h:Y):A:=t ⟨h⟩
def MA(fv:Value)(t:Tr KT VT):Value->Heap->Prop:=fun v H=>∃ p,v=.agg #[fv,.pointer p]/\TA t (.pointer p) H
def MA.mono{fv:Value}:Kn.mono (.sat (MA fv t)):=fun _ _ _ ⟨p,hv,h⟩ hle=>⟨p,hv,h.le hle⟩
def new_ret(cf:Nat)(hB:zwe B w):Ret zwf 177 [.func (.func cf) #[] #[]] w B (fun v _=>v=.agg #[.func (.func cf) #[] #[],.pointer none]):=by
 refine yl Tryz.func177 Z Tryz.ntmps177 (np Z) hB ((Zct∘Zbq) ?_);refine z7 (yv (cs:=[_,_]) Z Z zq9 Z Z) Z (Za3 (h:=?_));refine yk1 L [.cell 2 87] fun u H hH hle=>?_;refine ZdD (h:=?_);rfl
def len_ret{fv:Value}(hB:zwe B w)(hv:TA t root B):Ret zwf 103 [.agg #[fv,root]] w B (fun v _=>v=.int .i64 t.size):=by
 refine yl Tryz.func103 Z Tryz.ntmps103 (np Z) hB ((Zq∘Zad∘Z3) ?_);refine z71 L Z (fun u H hH hle=>UT.size_ret _ hH (UT.TA.le M hle)) ?_;refine Zc (h:=?_);exact yk2 L [.tmp 2]
def zgj{c:KT->KT->Int}(hc:Cmp cf c)(k:KT)(x:VT)(hB:zwe B w)(hv:TA t (.pointer p) B)(hs:t.size+1<1099511627776):
  Ret zwf 179 [mv cf (.pointer p),kv k,vv x] w B (MA (.func (.func cf) #[] #[]) (Tr.put c k x t)):=by
 refine yl Tryz.func179 Z Tryz.ntmps179 (np Z) hB ((Zby∘Zd0∘Zd0∘ZbN) ?_);(refine B8 3 rfl ?_;intro b3 hb3);refine(ZI∘Zak∘Zdw) ?_;refine z7 (Lj rfl rfl rfl rfl zrb rfl rfl) rfl ((Z1∘ZL∘Zdv∘Zak∘Zdw∘ZdY) ?_);refine z7 (qg L (vs:=[]) (qz rfl) rfl rfl rfl rfl ⟨_,rfl⟩) rfl (z7 (yv (cs:=[_,_,_,_,_,_]) rfl rfl zne rfl rfl) rfl (z7 (xh L rfl rfl (zn rfl) rfl rfl rfl TA.mono (fun u H hH hle _=>zkf hc _ k x t hH (hv.le hle) hs)) rfl (ui 16 rfl ?_)));intro p16 H16 hs16 hp16;obtain⟨q16,rfl⟩:=TA.ptr hp16;refine(Zak∘Zes∘Zk∘Z2∘Zdv∘Za3) ?_;refine yk L (rs:=[.cell 6 87]) Z (fun _ _ h=>h) hs16 fun u H hH hle=>?_;refine ZdD (h:=?_);exact⟨q16,rfl,hp16.le hle⟩
def zco{c:KT->KT->Int}(hc:Cmp cf c)(k:KT)(hB:zwe B w)(hv:TA t (.pointer p) B)(hs:t.size<1099511627776):
  Ret zwf 178 [mv cf (.pointer p),kv k] w B (MA (.func (.func cf) #[] #[]) (if (Tr.drop c k t).2=true then (Tr.drop c k t).1 else t)):=by
 have hD:=fun(u:World) (H:Heap) (hH:zwe H u) (hle:B.Le H)=>zg9 hc (.pointer p) k t hH (hv.le hle) hs;rcases hq:Tr.drop c k t with ⟨t',was⟩
 rw[hq] at hD;have hm:=TA.mono (t:=t');cases was
 ·rw[nc (by simp)];refine yl Tryz.func178 Z Tryz.ntmps178 (np Z) hB ((Zby∘Zd0∘ZbN) ?_);(refine B8 2 rfl ?_;intro b2 hb2);refine(ZI∘Zdv∘Zak∘Zdw∘ZdY) ?_;refine z7 (xh L Z Z (zn Z) Z Z Z DropS.mono (fun u H hH hle _=>hD u H hH hle)) Z ((Zg∘Zdd∘Zc3∘Zaf∘ZbY∘Zs∘ZE∘Zdv∘Za3) ?_);refine yk1 L [.cell 4 87] fun u H hH hle=>?_;refine ZdD (h:=?_);exact⟨p,rfl,hv.le hle⟩
 ·rw[na rfl];refine yl Tryz.func178 Z Tryz.ntmps178 (np Z) hB ((Zby∘Zd0∘ZbN) ?_);(refine B8 2 rfl ?_;intro b2 hb2);refine(ZI∘Zdv∘Zak∘Zdw∘ZdY) ?_;refine z7 (xh L rfl rfl (zn rfl) rfl rfl rfl DropS.mono (fun u H hH hle _=>hD u H hH hle)) rfl ((Zg∘Zdd∘Zc3∘Zaf∘ZbY∘Z1∘Z2∘Zg) ?_);refine ui 16 rfl ?_;intro p16 H16 hs16 hp16;obtain⟨q16,rfl⟩:=TA.ptr hp16;refine(Zak∘Zes∘Zk∘ZE∘Zdv∘Za3) ?_;refine yk L (rs:=[.cell 4 87]) Z (fun _ _ h=>h) hs16 fun u H hH hle=>?_;refine ZdD (h:=?_);exact⟨q16,rfl,hp16.le hle⟩
def zqy:Option VT->List Value
 | some x=>[vv x,.bool true]
 | none=>[.agg #[],.bool false]
def zlk{c:KT->KT->Int}(hc:Cmp cf c)(k:KT)(hB:zwe B w)(hv:TA t root B):
  Ret zwf 176 [mv cf root,kv k] w B (fun v _=>v=tup (zqy (Tr.get c k t))):=by
 refine yl Tryz.func176 Z Tryz.ntmps176 (np Z) hB ((ZaD∘ZX∘Zad∘Z3∘Ze∘Za7) ?_)
 refine xu (fun s:Tr KT VT×Value=>[(3,.sat (At [.string k.1.1.1,.string k.1.1.2,.string k.1.2,.string k.2.1.1,.string k.2.1.2,.string k.2.2] 34 0)),(4,.own (Cell [] 195)),(2,.sat (At [.func (.func cf) #[] #[],root] 87 0)),(6,.is s.2)])
  (fun s=>TA s.1 s.2 B/\Tr.get c k s.1=Tr.get c k t) (fun s=>s.1.size) (t,root) ⟨hv,rfl⟩ (by repeat (first | exact trivial | refine⟨rfl,?_⟩)) ?_
 rintro⟨s,v⟩ ⟨hs,hg⟩;dsimp only at hs hg |-
 cases s with
 | nil=>
  obtain rfl:v=.pointer none:=hs;refine(Zd∘Zn∘Zfk∘Zao∘Zdz∘ZM∘Zc4∘ZaH) ?_;refine z7 (qg L (vs:=[]) (ya Z) Z Z Z Z ⟨_,rfl⟩) Z (Zaq (h:=?_));refine yk1 L [.cell 4 195,.tmp 5] fun u H hH hle=>?_
  first | (rw[<-hg];rfl) | (refine o8 (ya rfl) rfl rfl ?_;rw[<-hg];rfl)
 | node nk nx l r=>
  obtain⟨b,lv,rv,rfl,hb,hl,hr⟩:=hs;by_cases h0:c k nk=0
  ·rw[Tr.get_eq h0] at hg;refine(Zd∘Zn∘Zfk∘Z1∘Zbe∘ZcQ∘Zbi∘ZbK∘ZaU∘Zas∘ZaY) ?_;refine z9 (qd L Z Z (zn Z) Z Z hc.fn (fun u H hH _ _=>hc.ret _ _ u H hH)) Z ((Zy∘ZcL∘Zx∘Zr∘ZC∘Zam) ?_);refine z7 (Xd M Z Z Z T) Z (z7 (Tn L Z Z Z Z) Z (Zaq (h:=?_)));refine yk1 L [.cell 4 195,.tmp 5] fun u H hH hle=>?_
   first | (rw[<-hg];rfl) | (refine o8 (ya rfl) rfl rfl ?_;rw[<-hg];rfl)
  ·by_cases h1:c k nk<0
   ·rw[Tr.get_lt h1] at hg;refine(Zd∘Zn∘Zfk∘Z1∘Zbe∘ZcQ∘Zbi∘ZbK∘ZaU∘Zas∘ZaY) ?_;refine z9 (qd L Z Z (zn Z) Z Z hc.fn (fun u H hH _ _=>hc.ret _ _ u H hH)) Z ((Zy∘ZcL∘Zb6∘ZD∘Zbp∘Z6∘Zam∘Zbd∘Zce) ?_);exact yr (x:=(Tr.node nk nx l r,Value.pointer (some ⟨b,0,none⟩))) (l,lv) ⟨hl,hg⟩ (by simp only[Tr.size_node];omega) (by repeat (first | exact trivial | refine⟨rfl,?_⟩))
   ·rw[Tr.get_gt h0 h1] at hg;refine(Zd∘Zn∘Zfk∘Z1∘Zbe∘ZcQ∘Zbi∘ZbK∘ZaU∘Zas∘ZaY) ?_;refine z9 (qd L Z Z (zn Z) Z Z hc.fn (fun u H hH _ _=>hc.ret _ _ u H hH)) Z ((Zy∘ZcL∘Zb6∘ZD∘Zbc∘Za5∘Zam∘Zbd∘Zce) ?_);exact yr (x:=(Tr.node nk nx l r,Value.pointer (some ⟨b,0,none⟩))) (r,rv) ⟨hr,hg⟩ (by simp only[Tr.size_node];omega) (by repeat (first | exact trivial | refine⟨rfl,?_⟩))
def _root_.Zb1(t:Wr Y->A:=by intro h;refine z7 (qg L (vs:=[_,_,_,_,_,_]) (ya Z) Z Z Z Z ⟨_,rfl⟩) Z ?_;exact h.1)(h:Y):A:=t ⟨h⟩
def _root_.Zd3(t:Wr Y->A:=by intro h;refine z9 (To Z Z Z Z (nf J)) Z ?_;exact h.1)(h:Y):A:=t ⟨h⟩
def _root_.Zet(t:Wr Y->A:=by intro h;refine z9 (To Z Z Z Z (ng J)) Z ?_;exact h.1)(h:Y):A:=t ⟨h⟩
def _root_.Zfl(t:Wr Y->A:=by intro h;refine qp (id:=6) [(60,[77])] kr T ?_;exact h.1)(h:Y):A:=t ⟨h⟩
def _root_.Zfm(t:Wr Y->A:=by intro h;refine z9 (fz Z Z Z Z zp2 Z) Z ?_;exact h.1)(h:Y):A:=t ⟨h⟩
def encP(y:KT×VT):List Value:=[.agg (pl y.1 y.2).toArray]
def PairsAt(t:Tr KT VT)(a f e:Int):Value->Heap->Prop:=fun v H=>∃ b1 b2 b3 b4 root,v=.func (.func 287) #[] #[.pointer (some ⟨b1,0,none⟩),.pointer (some ⟨b2,0,none⟩),.pointer (some ⟨b3,0,none⟩),.pointer (some ⟨b4,0,none⟩)]/\
 H b1=some (.cells [root].toArray 85)/\H b2=some (.cells [.int .i64 a].toArray 3)/\H b3=some (.cells [.int .i64 f].toArray 3)/\H b4=some (.cells [.int .i64 e].toArray 3)/\TA t root H
def PairsAt.mono{a:Int}:Kn.mono (.sat (PairsAt t a f e)):=fun _ _ _ ⟨b1,b2,b3,b4,root,h0,h1,h2,h3,h4,h5⟩ hle=>⟨b1,b2,b3,b4,root,h0,hle _ _ h1,hle _ _ h2,hle _ _ h3,hle _ _ h4,h5.le hle⟩
def Et(t:Tr KT VT)(a f e:Int)(hB:zwe B w)(hv:TA t root B):
  Ret zwf 241 [root,.int .i64 a,.int .i64 f,.int .i64 e] w B (PairsAt t a f e):=by
 obtain⟨p,rfl⟩:=hv.ptr;refine yl Tryz.func241 Z Tryz.ntmps241 (np Z) hB ((ZaD∘Zd0∘Zd0∘Ze) ?_);refine Cz 4 rfl fun v1 H1 hs1 ⟨b1,e1,h1⟩=>?_;subst e1;refine Cz 5 rfl fun v2 H2 hs2 ⟨b2,e2,h2⟩=>?_;subst e2;refine Cz 6 rfl fun v3 H3 hs3 ⟨b3,e3,h3⟩=>?_;subst e3;refine Cz 7 rfl fun v4 H4 hs4 ⟨b4,e4,h4⟩=>?_;subst e4;refine(ZI∘ZaN∘Zc) ?_;refine yk L (rs:=[.tmp 8]) Z (fun _ _ h=>h) (hs1.trans (hs2.trans (hs3.trans hs4))) fun u H hH hle=>?_;exact⟨b1,b2,b3,b4,_,rfl,hle _ _ (hs4.le _ _ (hs3.le _ _ (hs2.le _ _ h1))),hle _ _ (hs4.le _ _ (hs3.le _ _ h2)),hle _ _ (hs4.le _ _ h3),hle _ _ h4,(((hv.le hs1.le).le hs2.le).le (hs3.le.trans hs4.le)).le hle⟩
def Bv{l:List (KT×VT)}{x:List Value}{pre:vn}(h:pre++[x]<+:l.map encP):∃ y,x=encP y:=by
 have:x∈l.map encP:=h.subset (by simp);obtain⟨y,_,rfl⟩:=m6.1 this;exact⟨y,rfl⟩
abbrev Hz:List Value->List Value
 | [.agg cs]=>cs.toList
 | _=>[]
set_option maxRecDepth 10000 in
def zgw:∀ (t:Tr KT VT) (a f e:Int) {b1 b2 b3 b4:Nat} {root:Value} {w:World} {B:Heap},0<=a->a+t.size<1099511627776->zwe B w->
  B b1=some (.cells [root].toArray 85)->B b2=some (.cells [.int .i64 a].toArray 3)->B b3=some (.cells [.int .i64 f].toArray 3)->B b4=some (.cells [.int .i64 e].toArray 3)->TA t root B->
  zpg zwf 287 [.pointer (some ⟨b1,0,none⟩),.pointer (some ⟨b2,0,none⟩),.pointer (some ⟨b3,0,none⟩),.pointer (some ⟨b4,0,none⟩)] w B ((Tr.prs t a f e).map encP):=by
 intro t
 induction t with
 | nil=>
  intro a f e b1 b2 b3 b4 root w B ha hsz hB g1 g2 g3 g4 hv ly zv8 stop C hst hY hJ hC;obtain rfl:root=.pointer none:=hv;refine yz 77 (zv8 []) Tryz.func287 Z Tryz.ntmps287 (np Z) hB hJ hC ((Zq∘Zan∘Zcl∘Z9∘Zfm∘Zcr∘Zcb∘Zl∘ZbM∘ZcC∘Zc2) ?_);exact j9 L 77 rfl (fun _ _ h=>h) nq Z Z
 | node k x l r ihl ihr=>
  intro a f e b1 b2 b3 b4 root w B ha hsz hB g1 g2 g3 g4 hv ly zv8 stop C hst hY hJ hC;obtain⟨b,lv,rv,rfl,hb,hl,hr⟩:=hv;have hsn:(Tr.node k x l r).size=l.size+1+r.size:=rfl;rw[hsn] at hsz;refine yz 77 (zv8 []) Tryz.func287 Z Tryz.ntmps287 (np Z) hB hJ hC ?_;by_cases h1:a+((Tr.node k x l r).size:Int)<=f
  ·have hx:Tr.prs (.node k x l r) a f e=[]:=na (.inl h1);refine(Zq∘Zan∘Zcl∘Z9∘Zfm∘Zl∘Z9∘Z9∘Zbj∘Z9∘ZdC∘Z9∘Zd3∘Zcb∘Zl∘ZbM∘ZcC∘Zc2) ?_;exact j9 L 77 rfl (fun _ _ h=>h) nq Z (by rw[hx];rfl)
  ·by_cases h2:a>=e
   ·have hx:Tr.prs (.node k x l r) a f e=[]:=na (.inr h2);refine(Zq∘Zan∘Zcl∘Z9∘Zfm∘Zl∘Z9∘Z9∘Zbj∘Z9∘ZdC∘Z9∘Zet∘Zcb∘Zl∘Z9∘Z9∘Ze6∘Zc2) ?_;exact j9 L 77 rfl (fun _ _ h=>h) nq Z (by rw[hx];rfl)
   ·have hx:Tr.prs (.node k x l r) a f e=Tr.prs l a f e++((if a+(l.size:Int)>=f/\a+(l.size:Int)<e then [(k,x)] else [])++Tr.prs r (a+l.size+1) f e):=
     nc (by rintro(h | h);exact h1 h;exact h2 h)
    rw[hx] at hY |-;simp only[zr1] at hY |-;refine(Zq∘Zan∘Zcl∘Z9∘Zfm∘Zl∘Z9∘Z9∘Zbj∘Z9∘ZdC∘Z9∘Zet∘Zcb∘Zl∘Z9∘Z9∘ZeV∘Za2∘Zbt∘Zer∘Z9∘Z9∘Zbj∘Z9) ?_;refine z91 L Z (fun u H hH hle=>UT.size_ret _ hH (UT.TA.le M hle)) ?_;refine(ZdC∘Zy∘Zd∘ZcQ∘Z9∘Zbj∘Z9∘Z9∘Z9∘Z9) ?_;refine z9 (xh L Z Z (zn Z) Z Z Z PairsAt.mono (fun u H hH hle _=>Et l a f e hH (TA.le hl hle))) Z ((ZaW∘Za7) ?_);refine Cz 5 rfl fun v5 H5 hs5 ⟨b5,e5,g5⟩=>?_;subst e5;refine Cz 40 rfl fun v40 H40 hs40 ⟨c1,c2,c3,c4,r1,e40,d1,d2,d3,d4,d5⟩=>?_;subst e40;have hsB:=hs5.trans hs40;have gg5:=hs40.le _ _ g5
    refine c7 L (gf:=287) (caps:=[.pointer (some ⟨c1,0,none⟩),.pointer (some ⟨c2,0,none⟩),.pointer (some ⟨c3,0,none⟩),.pointer (some ⟨c4,0,none⟩)])
     [(1,.pointer (some ⟨b1,0,none⟩)),(2,.pointer (some ⟨b2,0,none⟩)),(3,.pointer (some ⟨b3,0,none⟩)),(4,.pointer (some ⟨b4,0,none⟩)),(5,.pointer (some ⟨b5,0,none⟩)),(6,.int .i64 (a+l.size))]
     (fun pre=>[(77,(zv8 pre).res)]) (fun pre x=>[(77,.own (zv8 pre).res),(7,.own (Cell (Hz x) 293)),(5,.is (.pointer (some ⟨b5,0,none⟩)))])
     ((Tr.prs l a f e).map encP) stop (fun _=>.ret) rfl rfl rfl ⟨rfl,rfl,rfl,rfl,rfl,rfl,rfl,nm⟩
     (fun pre p hp=>by simp only[my] at hp;subst hp;exact nu _) hst (fun x hx=>by obtain⟨y,_,rfl⟩:=m6.1 hx;rfl) E
     (fun u H hH hle=>ihl a f e ha J hH (hle _ _ d1) (hle _ _ d2) (hle _ _ d3) (hle _ _ d4) (d5.le hle)) ?asg ?bd ?dn ?st
    case asg=>
     intro w1 Ln B' l' D' o pre x' hpre hstp hBB;obtain⟨y,rfl⟩:=Bv hpre;refine(ZE∘Zbr∘Zah) ?_;exact Yi nq ⟨Z,Z,Z,nm⟩
    case bd=>
     intro w1 Ln B' l' D' o pre x' hpre hstp hBB;obtain⟨y,rfl⟩:=Bv hpre;have q5:=hBB _ _ gg5;have hpre':=hpre.trans (List.prefix_append ((Tr.prs l a f e).map encP) (((if a+(l.size:Int)>=f/\a+(l.size:Int)<e then [(k,x)] else [])).map encP++(Tr.prs r (a+l.size+1) f e).map encP));cases hb':stop (pre++[encP y])
     ·refine(ZZ∘ZF∘Zbd∘Zb1) ?_;refine qf (fk (gs:=77) hY hpre' hstp (nh Bool.not hb') Z Z Z Z Z) ((Zo∘Zbu∘ZaC) ?_);exact Yj nq hb' ⟨Z,nm⟩
     ·refine(ZZ∘ZF∘Zbd∘Zb1) ?_;refine qf (fk (gs:=77) hY hpre' hstp (nh Bool.not hb') Z Z Z Z Z) ((Zo∘Z1) ?_);exact Ao (ii (M1 nq hb' Z ⟨Z,nm⟩))
    case st=>
     intro l' D' o hstop;exact j9 L 77 rfl (fun _ _ h=>h) hsB Z (by rw[Gn _ _ _ hstop hst])
    case dn=>
     intro l' D' o hgo;have htk:=Kh (stop:=stop) ((Tr.prs l a f e).map encP) [] hgo;simp only[mo] at htk;rw[htk] at hgo |-;have gg1:=hsB.le _ _ g1;have gg2:=hsB.le _ _ g2;have gg3:=hsB.le _ _ g3;have gg4:=hsB.le _ _ g4;have ggb:=hsB.le _ _ hb;have ggr:=TA.le hr hsB.le;refine ZaC (h:=?_);refine Zdj (h:=?_)
     refine zek (fun zwb:vn=>[(77,.own (zv8 zwb).res),(1,.is (.pointer (some ⟨b1,0,none⟩))),(2,.is (.pointer (some ⟨b2,0,none⟩))),(3,.is (.pointer (some ⟨b3,0,none⟩))),(4,.is (.pointer (some ⟨b4,0,none⟩))),(5,.is (.pointer (some ⟨b5,0,none⟩))),(6,.is (.int .i64 (a+l.size)))])
      (fun zwb=>stop zwb=false/\wa stop [] zwb=zwb/\zwb++(Tr.prs r (a+l.size+1) f e).map encP=(Tr.prs l a f e).map encP++(((if a+(l.size:Int)>=f/\a+(l.size:Int)<e then [(k,x)] else [])).map encP++(Tr.prs r (a+l.size+1) f e).map encP)) ?one ?two
     case one=>
      by_cases hy1:a+(l.size:Int)>=f
      ·by_cases hy2:a+(l.size:Int)<e
       ·rw[na ⟨hy1,hy2⟩] at hY |-;have hpre:(Tr.prs l a f e).map encP++[encP (k,x)]<+:(Tr.prs l a f e).map encP++([(k,x)].map encP++(Tr.prs r (a+l.size+1) f e).map encP):=⟨(Tr.prs r (a+l.size+1) f e).map encP,by simp⟩
        cases hb':stop ((Tr.prs l a f e).map encP++[encP (k,x)])
        ·refine(Zi∘Zfl∘Zl∘Z9∘Ze6∘Zm∘Z9∘Zdf∘Zcb∘Zl∘Z9∘Z9∘Zbj∘ZaY) ?_;refine xo (fk (gs:=77) hY hpre hgo (nh Bool.not hb') Z Z Z Z Z) Z Z ((ZaJ∘Za2∘ZbR) ?_);refine zmg ((Tr.prs l a f e).map encP++[encP (k,x)]) nq ⟨hb',?_,by simp⟩ ⟨Z,Z,Z,Z,Z,Z,Z,nm⟩;rw[o6 _ _ _ (by rw[htk];exact hgo),mo];simp only[wa];split<;>rfl
        ·refine(Zi∘Zfl∘Zl∘Z9∘Ze6∘Zm∘Z9∘Zdf∘Zcb∘Zl∘Z9∘Z9∘Zbj∘ZaY) ?_;refine xo (fk (gs:=77) hY hpre hgo (nh Bool.not hb') Z Z Z Z Z) Z Z ((ZaJ∘Zc2) ?_);refine j9 L 77 rfl (fun _ _ h=>h) hsB Z ?_;rw[o6 _ _ _ (by rw[htk];exact hgo),mo];simp only[mt,zr7,zsa,wa];rw[na hb']
       ·rw[nc (by rintro⟨_,h⟩;exact hy2 h)];refine(Zi∘Zfl∘Zl∘Z9∘Ze6∘Zm∘Z9∘Zd8∘Zcb∘ZeI∘ZbM∘ZcC∘Za2∘ZbR) ?_;exact zmg ((Tr.prs l a f e).map encP) nq ⟨hgo,htk,by simp⟩ ⟨Z,Z,Z,Z,Z,Z,Z,nm⟩
      ·rw[nc (by rintro⟨h,_⟩;exact hy1 h)];refine(Zi∘Zfl∘Zl∘Z9∘ZeV∘Zl∘ZbM∘ZcC∘Zcb∘ZeI∘ZbM∘ZcC∘Za2∘ZbR) ?_;exact zmg ((Tr.prs l a f e).map encP) nq ⟨hgo,htk,by simp⟩ ⟨Z,Z,Z,Z,Z,Z,Z,nm⟩
     case two=>
      rintro zwb ⟨hM1,hM2,hM3⟩;rw[<-hM3] at hY |-;refine(Zi∘ZeH∘Z9∘Zbj∘Z9∘Zl∘ZdC∘Z9∘Z9) ?_;refine z9 (xh L Z Z (zn Z) Z Z Z PairsAt.mono (fun u H hH hle _=>Et r (a+l.size+1) f e hH (TA.le ggr hle))) Z ((ZaW∘Za7) ?_);refine Cz 71 rfl fun v71 H71 hs71 ⟨c1,c2,c3,c4,r1,e71,d1,d2,d3,d4,d5⟩=>?_;subst e71;have qq5:=hs71.le _ _ gg5
      have htot:wa stop [] (zwb++(Tr.prs r (a+l.size+1) f e).map encP)=zwb++wa (fun p=>stop (zwb++p)) [] ((Tr.prs r (a+l.size+1) f e).map encP):=by
       rw[o6 _ _ _ (by rw[hM2];exact hM1),D4,mo,mi]
      refine c7 L (gf:=287) (caps:=[.pointer (some ⟨c1,0,none⟩),.pointer (some ⟨c2,0,none⟩),.pointer (some ⟨c3,0,none⟩),.pointer (some ⟨c4,0,none⟩)])
       [(5,.pointer (some ⟨b5,0,none⟩))]
       (fun pre=>[(77,(zv8 (zwb++pre)).res)]) (fun pre x=>[(77,.own (zv8 (zwb++pre)).res),(8,.own (Cell (Hz x) 293)),(5,.is (.pointer (some ⟨b5,0,none⟩)))])
       ((Tr.prs r (a+l.size+1) f e).map encP) (fun p=>stop (zwb++p)) (fun _=>.ret) rfl rfl rfl ⟨by rw[mi];rfl,rfl,nm⟩
       (fun pre p hp=>by simp only[my] at hp;subst hp;exact nu _) (by show stop (zwb++[])=false;rw[mi];exact hM1) (fun x hx=>by obtain⟨y,_,rfl⟩:=m6.1 hx;rfl) E
       (fun u H hH hle=>ihr (a+l.size+1) f e J J hH (hle _ _ d1) (hle _ _ d2) (hle _ _ d3) (hle _ _ d4) (d5.le hle)) ?asg2 ?bd2 ?dn2 ?st2
      case asg2=>
       intro w1 Ln B' l' D' o pre x' hpre hstp hBB;obtain⟨y,rfl⟩:=Bv hpre;refine(Z0∘Zbr∘Zah) ?_;exact Yi nq ⟨Z,Z,Z,nm⟩
      case bd2=>
       intro w1 Ln B' l' D' o pre x' hpre hstp hBB;obtain⟨y,rfl⟩:=Bv hpre;have q5:=hBB _ _ qq5;have hpre':(zwb++pre)++[encP y]<+:zwb++(Tr.prs r (a+l.size+1) f e).map encP:=by rw[mp];exact(List.prefix_append_right_inj zwb).2 hpre
       cases hb':stop ((zwb++pre)++[encP y])
       ·refine(ZZ∘ZM∘Zbd∘Zb1) ?_;refine qf (fk (gs:=77) hY hpre' hstp (nh Bool.not hb') Z Z Z Z Z) ((Zo∘Zbu∘ZaC) ?_);exact Yj nq (by rw[<-mp];exact hb') ⟨by rw[<-mp];rfl,nm⟩
       ·refine(ZZ∘ZM∘Zbd∘Zb1) ?_;refine qf (fk (gs:=77) hY hpre' hstp (nh Bool.not hb') Z Z Z Z Z) ((Zo∘Z1) ?_);exact Ao (ii (M1 nq (by rw[<-mp];exact hb') Z ⟨by rw[<-mp];rfl,nm⟩))
      case st2=>
       intro l' D' o hstop;exact j9 L 77 rfl (fun _ _ h=>h) (hsB.trans hs71) Z (by rw[htot])
      case dn2=>
       intro l' D' o hgo2;refine ZaC (h:=?_);exact ki L 77 rfl (fun _ _ h=>h) (hsB.trans hs71) Z (by rw[htot])
abbrev tyP:TypeId:=293
abbrev tyS:TypeId:=290
def flat(l:List (KT×VT)):List Value:=l.flatMap fun y=>pl y.1 y.2
abbrev PS(l:List (KT×VT))(fu:Bool):Value->Heap->Prop:=SlV tyP 6 (flat l) l.length fu
def Yd:∀ (pre:vn) (l:List (KT×VT)),pre<+:l.map encP->∃ m:List (KT×VT),pre=m.map encP/\m.length=pre.length/\pre.flatMap Hz=flat m:=by
 intro pre l h;refine⟨l.take pre.length,?_,?_,?_⟩
 ·rw[zta];exact(List.prefix_iff_eq_take.1 h)
 ·rw[mh];have:=h.length_le;simp only[mg] at this;omega
 ·conv=>lhs;rw[List.prefix_iff_eq_take.1 h,<-zta]
  generalize l.take pre.length=m
  induction m with
  | nil=>rfl
  | cons y m ih=>simp only[mt,zsi,flat] at ih |-;rw[ih];rfl
def Qn(xs:vn):wa (fun _=>false) [] xs=xs:=by
 have:=Kh (stop:=fun _=>false) xs [] rfl;simpa using this
def zhf(l:List (KT×VT))(fu:Bool)(hB:zwe B w)(hv:PS l fu v B):Ret zwf 239 [v] w B (PS l true):=by
 refine yl Tryz.func239 Z Tryz.ntmps239 (np Z) hB (ku 0 (PS l fu) Z ns hv ((Zw∘Zg∘Zj∘Zj∘ZdX∘Zb9) ?_));refine yk1 L [.tmp 2] fun u H hH hle=>?_;exact fun v hv=>hv
def zhu(l:List (KT×VT))(hl:l.length<1099511627776){x:Value}{gf:Nat}(hB:zwe B w)(hx:(SlR tyP 6 0 []).P x B w C)(hC:ZCB C w B)
  (hfn:L.fn gf=some ()) (hit:∀ u H,zwe H u->B.Le H->zpg zwf gf caps u H (l.map encP)):
  RetL zwf 240 [x,.func (.func gf) #[] caps.toArray] w B C (fun v H _=>PS l false v H):=by
 refine Mz 0 (x:=x) (SlR tyP 6 0 []) Z Tryz.func240 Z Tryz.ntmps240 (np Z) hB hx hC ?_;refine M0 0 13 _ Z SlR.shape fun y hy=>?_;obtain⟨p,c,rfl⟩:=hy;refine(Zby∘Zax∘Zdq) ?_;refine B8 2 rfl fun b2 hb2=>?_;refine B7 13 [] Z Z ?_
 refine c7 L (gf:=gf) (caps:=caps) [(2,.pointer (some ⟨b2,0,none⟩))] (fun pre=>[(13,Ym b2 tyS (SlR tyP 6 pre.length (pre.flatMap Hz)))])
  (fun pre x=>[(13,.own (Ym b2 tyS (SlR tyP 6 pre.length (pre.flatMap Hz)))),(2,.is (.pointer (some ⟨b2,0,none⟩))),(5,.own (Cell (Hz x) tyP))])
  (l.map encP) (fun _=>false) (fun _=>.ret) rfl rfl hfn ⟨rfl,rfl,nm⟩
  (fun pre p hp=>by simp only[my] at hp;subst hp;exact nu _) rfl (fun x hx=>by obtain⟨y,_,rfl⟩:=m6.1 hx;rfl) E hit ?asg ?bd ?dn ?st
 case asg=>
  intro w1 Ln B' l' D' o pre x' hpre hstp hBB;obtain⟨y,rfl⟩:=Bv hpre;refine(ZL∘Zbr∘Zah) ?_;exact Yi nq ⟨Z,Z,Z,nm⟩
 case bd=>
  intro w1 Ln B' l' D' o pre x' hpre hstp hBB;obtain⟨y,rfl⟩:=Bv hpre;have hlen:=hpre.length_le;simp only[nr,mg,ma,m7] at hlen;refine Za7 (h:=?_);refine ei 13 _ Z SlR.shape fun z hz=>?_;obtain⟨p,c,rfl⟩:=hz;refine(Z2∘Zdw) ?_;refine g8 8 13 rfl rfl ((Zb1∘ZJ) ?_);refine qf (jx L rfl rfl rfl (eg rfl) rfl zog rfl rfl J J) ?_;refine cj 11 13 _ rfl SlR.shape fun z hz=>?_;obtain⟨p',c',rfl⟩:=hz;refine(Zes∘Zah∘ZaC) ?_;refine B9 13 [] Z Z (Yj nq Z ⟨?_,nm⟩);rw[zr5,nr];rfl
 case st=>
  intro l' D' o h;cases h
 case dn=>
  intro l' D' o _;rw[Qn];refine ZaC (h:=?_);refine Zdj (h:=?_);refine ei 13 _ Z SlR.shape fun z hz=>?_;obtain⟨p,c,rfl⟩:=hz;refine(ZbS∘Zdw∘Zc) ?_;refine U4 4 13 rfl Z (uz 4 rfl ?_);refine P2 L (rs:=[.tmp 4]) Z (fun _ _ h=>h) nq fun O' u H hH hle=>?_;obtain⟨m,h1,h2,h3⟩:=Yd _ l (List.prefix_refl _)
  have hm:m=l:=by
   have:=List.map_inj_right (f:=encP) (fun a b h=>by
    simp only[encP,List.cons.injEq,Value.agg.injEq,and_true] at h;have h:=nh Array.toList h;simp at h
    first | exact Prod.ext h.1 h.2 | exact Prod.ext h.1 (Prod.ext (Prod.ext h.2.1 h.2.2.1) h.2.2.2) | exact Prod.ext (Prod.ext (Prod.ext h.1 h.2.1) h.2.2.1) h.2.2.2 | exact Prod.ext (Prod.ext (Prod.ext (Prod.ext h.1 h.2.1) h.2.2.1) (Prod.ext (Prod.ext h.2.2.2.1 h.2.2.2.2.1) h.2.2.2.2.2)) rfl) |>.1 h1
   exact this.symm
  subst hm;rw[h3];simp only[mg];exact fun v hv=>hv
def PS.mono{l:List (KT×VT)}:Kn.mono (.sat (PS l fu)):=ns
def Yf{x v:Value}(hB:zwe B w)(hx:(SlR tyP 6 0 []).P x B w C)(hC:ZCB C w B)(hv:PairsAt t 0 f e v B)(hs:t.size<1099511627776):
  RetL zwf 240 [x,v] w B C (fun v H _=>PS (Tr.prs t 0 f e) false v H):=by
 obtain⟨b1,b2,b3,b4,root,rfl,h1,h2,h3,h4,h5⟩:=hv;have hlen:=Tr.prs_length_le t 0 f e;exact zhu (Tr.prs t 0 f e) J hB hx hC Z fun u H hH hle=>zgw t 0 f e (zsw _) J hH (hle _ _ h1) (hle _ _ h2) (hle _ _ h3) (hle _ _ h4) (h5.le hle)
def zba(t:Tr KT VT){a:Int}:(Tr.prs t a f e).length<=t.size:=Tr.prs_length_le t a f e
def rangeL(t:Tr KT VT)(f e:Int):List (KT×VT):=if max f 0>=min e t.size then [] else Tr.prs t 0 (max f 0) (min e t.size)
set_option maxRecDepth 10000 in
def za9{fv:Value}(f e:Int)(hB:zwe B w)(hv:TA t root B)(hs:t.size<1099511627776):
  Ret zwf 172 [.agg #[fv,root],.int .i64 f,.int .i64 e] w B (PS (rangeL t f e) true):=by
 refine yl Tryz.func172 Z Tryz.ntmps172 (np Z) hB ?_;unfold rangeL;by_cases h:max f 0>=min e t.size
 ·rw[na h];refine(Zq∘Zbb) ?_;refine z7 (oe Z Z Z Z Z) Z ((Za∘Zbn) ?_);refine z71 L Z (fun u H hH hle=>len_ret hH (hv.le hle)) ?_;refine z7 (zbv Z Z Z Z Z) Z ((Zbl∘ZaE∘ZbJ∘Zr∘Z2∘Zc) ?_);refine yk1 L [.tmp 6] fun u H hH hle=>?_;exact(SlV.nil (e:=tyP))
 ·rw[nc h];have hlen:=zba t (a:=0) (f:=max f 0) (e:=min e t.size);have e1:(if (0:Int)>f then 0 else f)=max f 0:=J;have e2:(if (t.size:Int)<e then (t.size:Int) else e)=min e t.size:=J;refine(Zq∘Zbb) ?_;refine z7 (oe Z Z Z Z M) Z ((Za∘Zbn) ?_);refine z71 L Z (fun u H hH hle=>len_ret hH (hv.le hle)) ?_;refine z7 (zbv Z Z Z Z M) Z ((Zbl∘ZaE∘Zav∘Zs) ?_);obtain⟨m,hm⟩:∃ m:Nat,min e (t.size:Int)-max f 0=m:=⟨(min e (t.size:Int)-max f 0).toNat,by omega⟩
  refine qp (id:=4) [(25,[19])] kr T (Zm (h:=?_));refine z9 (x8 Z Z Z Z (xb J J)) Z (z9 (zf4 L _ Z Z Z zog Z Z M J (by simp only[maxLen];omega)) Z ?_);refine(Zbi∘Zm) ?_;refine z9 (xh L Z Z (zn Z) Z Z Z PairsAt.mono (fun u H hH hle _=>Et t 0 (max f 0) (min e t.size) hH (TA.le hv hle))) Z (xo (zf7 (q:=19) (cap:=[]) L Z Z Z Z Z PS.mono (fun u H C x hH hle hx hC v hv=>Yf hH hx hC hv hs)) Z Z (z9 (xh L Z Z (zn Z) Z Z Z PS.mono (fun u H hH hle _ v hv=>zhf _ _ hH hv)) Z ((Zcs∘ZaW) ?_)));refine yk1 L [.tmp 6] fun u H hH hle=>?_;exact fun v hv=>hv
end Go.V.UT
namespace Go.V.UT
abbrev MF(cf:Nat)(t:Tr KT VT):Value->Heap->Prop:=MA (.func (.func cf) #[] #[]) t
def mput_m{c:KT->KT->Int}(hc:Cmp cf c)(k:KT)(x:VT)(hB:zwe B w)(hv:MF cf t v B)(hs:t.size+1<1099511627776):
  Ret zwf 179 [v,kv k,vv x] w B (MF cf (Tr.put c k x t)):=by
 obtain⟨p,rfl,h⟩:=hv;exact zgj hc k x hB h hs
def mdrop_m{c:KT->KT->Int}(hc:Cmp cf c)(k:KT)(hB:zwe B w)(hv:MF cf t v B)(hs:t.size<1099511627776):
  Ret zwf 178 [v,kv k] w B (MF cf (if (Tr.drop c k t).2=true then (Tr.drop c k t).1 else t)):=by
 obtain⟨p,rfl,h⟩:=hv;exact zco hc k hB h hs
def len_m{fv:Value}{v:Value}(hB:zwe B w)(hv:MA fv t v B)(hn:t.size=n):Ret zwf 103 [v] w B (fun v _=>v=.int .i64 n):=by
 obtain⟨p,rfl,h⟩:=hv;subst hn;exact len_ret hB h
def get_m{c:KT->KT->Int}(hc:Cmp cf c)(k:KT){v:Value}(hB:zwe B w)(hv:MF cf t v B){o:Option VT}(ho:Tr.get c k t=o):
  Ret zwf 176 [v,kv k] w B (fun v _=>v=tup (zqy o)):=by
 obtain⟨p,rfl,h⟩:=hv;subst ho;exact zlk hc k hB h
def range_m{fv:Value}(f e:Int)(hB:zwe B w)(hv:MA fv t v B)(hs:t.size<1099511627776){l:List (KT×VT)}(hl:rangeL t f e=l):
  Ret zwf 172 [v,.int .i64 f,.int .i64 e] w B (PS l true):=by
 obtain⟨p,rfl,h⟩:=hv;subst hl;exact za9 f e hB h hs
end Go.V.UT
namespace Go.V.L6
open Go.V.L2 Go.V.L3
def _root_.Zfn(t:Wr Y->A:=by intro h;refine z7 (yv (cs:=[_,_]) Z Z zq8 Z Z) Z ?_;exact h.1)(h:Y):A:=t ⟨h⟩
def _root_.Zcf(t:Wr Y->A:=by exact fun h=>(ZaK∘ZdY) h.1)(h:Y):A:=t ⟨h⟩
abbrev fvC:Value:=.func (.func 101) #[] #[]
abbrev fvS:Value:=.func (.func 109) #[] #[]
abbrev Ng:TypeId:=91
abbrev chv(x:U)(d:Bool):Value:=.agg #[.string x.1.1.1,.string x.1.1.2,.string x.1.2,.string x.2.1.1,.string x.2.1.2,.string x.2.2,.bool d]
attribute [local irreducible] V N X VO Par StepOK Has Ret RetL RetO Src
def zfe{a b:U}(hB:zwe B w):Ret zwf 109 [uv a,uv b] w B (fun v _=>v=.int .i64 (P9 a b)):=by
 refine yl Tryz.func109 Z Tryz.ntmps109 (np Z) hB ((ZaD∘Ze∘Zcl∘ZaA∘Zdu∘ZaA∘Zdu) ?_);refine z91 L Z (fun u H hH _=>cmpU_ret hH) ?_;refine(ZaA∘Zdu∘ZaA∘Zdu) ?_;refine z91 L Z (fun u H hH _=>Mp hH) ?_;refine ZdN (h:=?_);refine z9 (qd L Z Z (zn Z) Z Z Z (fun u H hH _ _ v hv=>Lc hH hv)) Z (Zy (h:=?_));exact yk2 L [.tmp 4]
def zlt:UT.Cmp 101 js:=⟨rfl,fun _ _ _ _ hH=>vo hH⟩
def zqf:UT.Cmp 109 P9:=⟨rfl,fun _ _ _ _ hH=>zfe hH⟩
def chT(c:U->U->Int)(x:U)(d:Bool)(t:Tr U Unit):Tr U Unit:=if d=true then (if (Tr.drop c x t).2=true then (Tr.drop c x t).1 else t) else Tr.put c x () t
def Hy{c:U->U->Int}(hc:UT.Cmp cf c){f:Value}{t:Tr U Unit}(hf:f=.func (.func cf) #[] #[]\/(f=.nilFunc/\t=.nil))(x:U)(d:Bool)(hB:zwe B w)(ht:UT.TA t (.pointer p) B)(hs:t.size+1<1099511627776):
  Ret zwf 108 [.agg #[f,.pointer p],chv x d,.func (.func cf) #[] #[]] w B (UT.MF cf (chT c x d t)):=by
 by_cases h0:t.size=0
 ·have hn:t=.nil:=by
   cases t with
   | nil=>rfl
   | node k y l r=>simp only[Tr.size] at h0;omega
  subst hn;have hz:UT.TA .nil (.pointer none) B:=rfl;refine yl Tryz.func108 Z Tryz.ntmps108 (np Z) hB ?_;unfold chT;cases d
  ·refine Zby (h:=?_);refine Sm 3 rfl fun b hb=>?_;refine(Zd0∘ZbN∘ZI∘Zak∘Zdv) ?_;refine z71 L rfl (fun u H hH hle=>UT.len_m hH (⟨_,rfl,ht.le hle⟩) h0) ?_;refine(Zx∘Z1∘Zn) ?_;refine z71 L rfl (fun u H hH _=>UT.new_ret _ hH) ?_;refine(Zak∘Zes∘Zan∘Z2∘Z3∘Zs∘ZF∘Zak∘Zdv∘Zcf) ?_;refine z7 (yv (cs:=[]) rfl rfl znh rfl rfl) rfl (z7 (xh (φ:=UT.MF cf (Tr.put c x () .nil)) L rfl rfl (zn rfl) rfl rfl rfl UT.MA.mono (fun u H hH hle _=>UT.mput_m hc x () hH (⟨_,rfl,hz.le hle⟩) hs)) rfl (ui 27 rfl ?_));rintro _ H27 hs27 ⟨q27,rfl,hp27⟩;refine(Zfn∘Za3) ?_;refine yk L (rs:=[.cell 6 89]) Z (fun _ _ h=>h) hs27 fun u H hH hle=>?_;exact⟨_,ya Z,rfl,q27,rfl,hp27.le hle⟩
  ·refine Zby (h:=?_);refine Sm 3 rfl fun b hb=>?_;refine(Zd0∘ZbN∘ZI∘Zak∘Zdv) ?_;refine z71 L rfl (fun u H hH hle=>UT.len_m hH (⟨_,rfl,ht.le hle⟩) h0) ?_;refine(Zx∘Z1∘Zn) ?_;refine z71 L rfl (fun u H hH _=>UT.new_ret _ hH) ?_;refine(Zak∘Zes∘Zan∘Z2∘Z3∘Zr∘ZE∘Zak∘Zdv∘Zcf) ?_;refine z7 (xh (φ:=UT.MF cf (if (Tr.drop c x .nil).2=true then (Tr.drop c x .nil).1 else .nil)) L rfl rfl (zn rfl) rfl rfl rfl UT.MA.mono (fun u H hH hle _=>UT.mdrop_m hc x hH (⟨_,rfl,hz.le hle⟩) J)) rfl (ui 20 rfl ?_);rintro _ H20 hs20 ⟨q20,rfl,hp20⟩;refine(Zfn∘Za3) ?_;refine yk L (rs:=[.cell 6 89]) Z (fun _ _ h=>h) hs20 fun u H hH hle=>?_;exact⟨_,ya Z,rfl,q20,rfl,hp20.le hle⟩
 ·obtain rfl:f=.func (.func cf) #[] #[]:=by
   rcases hf with h | ⟨_,h⟩
   ·exact h
   ·subst h;exact ni rfl h0
  refine yl Tryz.func108 Z Tryz.ntmps108 (np Z) hB ?_;unfold chT;cases d
  ·refine Zby (h:=?_);refine Sm 3 rfl fun b hb=>?_;refine(Zd0∘ZbN∘ZI∘Zak∘Zdv) ?_;refine z71 L rfl (fun u H hH hle=>UT.len_m hH (⟨_,rfl,ht.le hle⟩) rfl) ?_;refine(Z8∘ZK∘Z2∘Z3∘Zs∘ZF∘Zak∘Zdv∘Zcf) ?_;refine z7 (yv (cs:=[]) rfl rfl znh rfl rfl) rfl (z7 (xh (φ:=UT.MF cf (Tr.put c x () t)) L rfl rfl (zn rfl) rfl rfl rfl UT.MA.mono (fun u H hH hle _=>UT.mput_m hc x () hH (⟨_,rfl,ht.le hle⟩) hs)) rfl (ui 27 rfl ?_));rintro _ H27 hs27 ⟨q27,rfl,hp27⟩;refine(Zfn∘Za3) ?_;refine yk L (rs:=[.cell 6 89]) Z (fun _ _ h=>h) hs27 fun u H hH hle=>?_;exact⟨_,ya Z,rfl,q27,rfl,hp27.le hle⟩
  ·refine Zby (h:=?_);refine Sm 3 rfl fun b hb=>?_;refine(Zd0∘ZbN∘ZI∘Zak∘Zdv) ?_;refine z71 L rfl (fun u H hH hle=>UT.len_m hH (⟨_,rfl,ht.le hle⟩) rfl) ?_;refine(Z8∘ZK∘Z2∘Z3∘Zr∘ZE∘Zak∘Zdv∘Zcf) ?_;refine z7 (xh (φ:=UT.MF cf (if (Tr.drop c x t).2=true then (Tr.drop c x t).1 else t)) L rfl rfl (zn rfl) rfl rfl rfl UT.MA.mono (fun u H hH hle _=>UT.mdrop_m hc x hH (⟨_,rfl,ht.le hle⟩) J)) rfl (ui 20 rfl ?_);rintro _ H20 hs20 ⟨q20,rfl,hp20⟩;refine(Zfn∘Za3) ?_;refine yk L (rs:=[.cell 6 89]) Z (fun _ _ h=>h) hs20 fun u H hH hle=>?_;exact⟨_,ya Z,rfl,q20,rfl,hp20.le hle⟩
end Go.V.L6
namespace Go.V.L3
open Go.V Go.V.L2
abbrev fv(f:FT):Value:=.agg #[.string f.1.1.1,.string f.1.1.2,.string f.1.2,.string f.2.1.1.1,.string f.2.1.1.2,.string f.2.1.2,.bool f.2.2]
def FZ(f:FT):Prop:=(f.1.1.1.size<=1099511627776/\f.1.1.2.size<=1099511627776/\f.1.2.size<=1099511627776)/\f.2.1.1.1.size<=1099511627776/\f.2.1.1.2.size<=1099511627776/\f.2.1.2.size<=1099511627776
instance (f:FT):Decidable (FZ f):=inferInstanceAs (Decidable (_/\_))
attribute [local irreducible] V N X VO Par StepOK Has Ret RetL RetO RetT Src
end Go.V.L3
section
open Go.V
attribute [local irreducible] Has N Par Ret RetL Src StepOK V VO X
namespace Go.V.L3
open Go.V.L2
attribute [local irreducible] RetO RetT
def LE2.mk{a tv:Value}(h:φ tv H):TupS [φ,fun v _=>v=a] (.tuple #[tv,a]) H:=
 ⟨[tv,a],rfl,rfl,fun i ψ x hi hx=>by
  rcases i with _ | _ | i
  ·simp at hi hx;subst hi hx;exact h
  ·simp at hi hx;subst hi hx;rfl
  ·simp at hi⟩
def LE2.mono{φ:Value->Heap->Prop}{a:Value}(h:Kn.mono (.sat φ)):Kn.mono (.sat (TupS [φ,fun v _=>v=a])):=TupS.mono fun ψ hψ=>by
 rcases nz.1 hψ with rfl | hψ
 ·exact h
 ·rw[my] at hψ;subst hψ;exact fun _ _ _ h _=>h
end Go.V.L3
namespace Go.V.L6
open Go.V.L2 Go.V.L3
def _root_.ZcN(t:Wr Y->A:=by intro h;refine z7 (qu L Z Z M Z) Z ?_;exact h.1)(h:Y):A:=t ⟨h⟩
def _root_.ZdJ(t:Wr Y->A:=by intro h;refine z7 (qg L (vs:=[_,_,_,_]) (qz Z) Z Z Z Z ⟨_,rfl⟩) Z ?_;exact h.1)(h:Y):A:=t ⟨h⟩
def _root_.ZdP(t:Wr Y->A:=by intro h;refine z9 (qg L (vs:=[_,_,_,_]) (qz Z) Z Z Z Z ⟨_,rfl⟩) Z ?_;exact h.1)(h:Y):A:=t ⟨h⟩
def _root_.ZdK(t:Wr Y->A:=by intro h;refine z7 (yv (cs:=[_,_,_,_]) Z Z zpq Z Z) Z ?_;exact h.1)(h:Y):A:=t ⟨h⟩
def _root_.Zfo(t:Wr Y->A:=by intro h;refine z9 (qg L (vs:=[_,_,_,_,_,_,_]) (qz Z) Z Z Z Z ⟨_,rfl⟩) Z ?_;exact h.1)(h:Y):A:=t ⟨h⟩
def _root_.Zfp(t:Wr Y->A:=by intro h;refine z9 (zb5 Z Z Z Z bt4 Z) Z ?_;exact h.1)(h:Y):A:=t ⟨h⟩
def SetV(l:List U):Value->Heap->Prop:=fun v H=>∃ p q t u,TS l t u/\UT.TA t (.pointer p) H/\UT.TA u (.pointer q) H/\
 (v=.agg #[fvC,.pointer p,fvS,.pointer q]\/(l=[]/\p=none/\q=none/\v=.agg #[.nilFunc,.pointer p,.nilFunc,.pointer q]))
def SetV.mono:Kn.mono (.sat (SetV l)):=fun _ _ _ ⟨p,q,t,u,h1,h2,h3,h4⟩ hle=>⟨p,q,t,u,h1,h2.le hle,h3.le hle,h4⟩
def SetV.le{H':Heap}(h:SetV l v H)(hle:H.Le H'):SetV l v H':=SetV.mono _ _ _ h hle
def SetV.shape(h:SetV l v H):∃ f p k q,v=.agg #[f,.pointer p,k,.pointer q]/\(ja (.agg #[f,.pointer p,k,.pointer q])).all wz=true:=by
 obtain⟨p,q,_,_,_,_,_,h | ⟨_,_,_,h⟩⟩:=h
 ·exact⟨_,_,_,_,h,rfl⟩
 ·exact⟨_,_,_,_,h,rfl⟩
abbrev nilSet:Value:=.agg #[.nilFunc,.pointer none,.nilFunc,.pointer none]
def SetV.nil{H:Heap}:SetV [] nilSet H:=⟨none,none,.nil,.nil,zm2,rfl,rfl,.inr ⟨rfl,rfl,rfl,rfl⟩⟩
attribute [local irreducible] RetO
def lw(hn:l.length=n){v:Value}(hB:zwe B w)(hv:SetV l v B):Ret zwf 36 [v] w B (fun v _=>v=.int .i64 n):=by
 subst hn;obtain⟨p,q,t,u,hT,ht,hu,rfl | ⟨rfl,rfl,rfl,rfl⟩⟩:=hv
 ·refine yl Tryz.func36 Z Tryz.ntmps36 (np Z) hB ((Zq∘Zad∘ZaK∘Zc9) ?_);refine z71 L Z (fun u H hH hle=>UT.len_m hH (⟨_,rfl,ht.le hle⟩) hT.size) ?_;refine Zc (h:=?_);exact yk2 L [.tmp 2]
 ·refine yl Tryz.func36 Z Tryz.ntmps36 (np Z) hB ((Zq∘Zad∘ZaK∘Zc9) ?_);refine z71 L Z (fun u H hH hle=>UT.len_m hH (⟨_,rfl,ht.le hle⟩) hT.size) ?_;refine Zc (h:=?_);exact yk2 L [.tmp 2]
def wi{x:U}{b:Bool}(hb:decide (x∈l)=b){v:Value}(hB:zwe B w)(hv:SetV l v B):Ret zwf 107 [v,uv x] w B (fun v _=>v=.bool b):=by
 have hv0:=hv;obtain⟨p,q,t,u,hT,ht,hu,rfl | ⟨rfl,rfl,rfl,rfl⟩⟩:=hv
 ·have hg:=hT.get x;refine yl Tryz.func107 Z Tryz.ntmps107 (np Z) hB ?_;by_cases h0:l.length=0
  ·have hn:l=[]:=zrv h0;subst hn;have hb':b=false:=by rw[<-hb];simp
   subst hb';refine(ZaD∘Zag∘ZdJ) ?_;refine z71 L Z (fun u H hH hle=>lw Z hH (hv0.le hle)) ?_;refine(Zx∘ZaM∘Zc) ?_;exact yk2 L [.tmp 4]
  ·cases b
   ·have hx:x∉l:=by simpa using hb
    rw[nc hx] at hg;refine(ZaD∘Zag∘ZdJ) ?_;refine z71 L Z (fun u H hH hle=>lw Z hH (hv0.le hle)) ?_;refine(Zb6∘Z2∘ZaK∘Zc9∘ZdY) ?_;refine z71 L Z (fun u H hH hle=>UT.get_m zlt x hH (⟨_,rfl,ht.le hle⟩) hg) ?_;refine(Zcj∘Ze∘Zt∘Zc) ?_;exact yk2 L [.tmp 4]
   ·have hx:x∈l:=by simpa using hb
    rw[na hx] at hg;refine(ZaD∘Zag∘ZdJ) ?_;refine z71 L Z (fun u H hH hle=>lw Z hH (hv0.le hle)) ?_;refine(Zb6∘Z2∘ZaK∘Zc9∘ZdY) ?_;refine z71 L Z (fun u H hH hle=>UT.get_m zlt x hH (⟨_,rfl,ht.le hle⟩) hg) ?_;refine(Zcj∘Ze∘Zt∘Zc) ?_;exact yk2 L [.tmp 4]
 ·have hb':b=false:=by rw[<-hb];simp
  subst hb';refine yl Tryz.func107 Z Tryz.ntmps107 (np Z) hB ((ZaD∘Zag∘ZdJ) ?_);refine z71 L Z (fun u H hH hle=>lw Z hH (hv0.le hle)) ?_;refine z7 (yh Z Z Z Z Z) Z ((ZaM∘Zc) ?_);exact yk2 L [.tmp 4]
def scs(x:Value×Option Addr×Value×Option Addr):List Value:=[x.1,.pointer x.2.1,x.2.2.1,.pointer x.2.2.2]
abbrev SXp:={ x:Value×Option Addr×Value×Option Addr//(scs x).all wz=true }
abbrev Kp(l:List U)(x:SXp)(H:Heap):Prop:=SetV l (.agg (scs x.1).toArray) H
def we(l:List U):ij (Kp l):=fun _ _ _ h hle=>SetV.le h hle
def Nx(v:Value)(H:Heap)(h:SetV l v H):∃ x:SXp,Kp l x H/\ja v=scs x.1:=by
 obtain⟨f,p,k,q,rfl,hp⟩:=h.shape;exact⟨⟨(f,p,k,q),hp⟩,h,rfl⟩
abbrev zqk(l:List U)(e:Int):Value->Heap->Prop:=TupS [SetV l,fun v _=>v=.int .i64 e]
def mf4{cg:Nat}{t u:Tr U Unit}{v1 v2:Value}(h1:UT.MF cf t v1 H)(h2:UT.MF cg u v2 H):∃ p q,v1=.agg #[.func (.func cf) #[] #[],.pointer p]/\v2=.agg #[.func (.func cg) #[] #[],.pointer q]/\UT.TA t (.pointer p) H/\UT.TA u (.pointer q) H:=by
 obtain⟨p,e1,h1⟩:=h1;obtain⟨q,e2,h2⟩:=h2;exact⟨p,q,e1,e2,h1,h2⟩
def zpn{t u:Tr U Unit}(h:TS l t u){x:U}(hx:decide (x∈l)=d)(hc:d=false->l.length<4096)(he:tE x=0):TS (uh l x d).1 (chT js x d t) (chT P9 x d u)/\(uh l x d).2=0:=by
 unfold uh chT;rw[na he];cases d
 ·have hx':x∉l:=by simpa using hx
  rw[nc E,nc hx',nc (by have:=hc rfl;omega),nc E,nc E];exact⟨h.put hx',rfl⟩
 ·have hx':x∈l:=by simpa using hx
  rw[na rfl,na rfl,na rfl];exact⟨h.drop hx',rfl⟩
def zey{m:List U}{x:U}(hr:uh l x d=(m,e))(hl:l.length<=4096)(hz:TZ x)(hB:zwe B w)(hv:SetV l v B):
  Ret zwf 40 [v,chv x d] w B (zqk m e):=by
 obtain⟨f1,p1,f2,q1,hsh,hpl⟩:=hv.shape;by_cases he:tE x=0
 ·obtain⟨hin,hin0⟩:∃ b,decide (x∈l)=b:=⟨_,rfl⟩
  by_cases hd:hin=d
  ·subst hd;by_cases hfull:hin=false/\l.length=4096
   ·obtain⟨rfl,hlen⟩:=hfull
    have hw:uh l x false=([],3):=by
     unfold uh;rw[na he,nc E,nc (by simpa using hin0),na J]
    rw[hw] at hr;cases hr;subst hsh;refine yl Tryz.func40 Z Tryz.ntmps40 (np Z) hB ((ZaD∘ZX∘Zag∘Zcf) ?_);refine z71 L Z (fun u H hH _=>he ▸ jf hz hH) ?_;refine(ZbY∘Zca∘Zdr∘ZdP∘ZaA∘ZbK) ?_;refine z91 L Z (fun u H hH hle=>wi hin0 hH (hv.le hle)) ?_;refine(Zbi∘Zfp∘Zbv∘Zcy∘Zd∘Z5∘Z3∘Zo∘Za∘ZdJ) ?_;refine z71 L Z (fun u H hH hle=>lw hlen hH (hv.le hle)) ?_;refine(Zx∘Zf∘Zr∘Z7∘ZdK∘Zaq) ?_;refine yk1 L [.cell 4 91,.tmp 5] fun u H hH hle=>?_;exact⟨_,ya Z,rfl,LE2.mk SetV.nil⟩
   ·have hc:hin=false->l.length<4096:=fun h=>by
     rcases m5 l.length 4096 with h' | h'
     ·exact h'
     ·exact ni ⟨h,by omega⟩ hfull
    obtain⟨p,q,t,u,hT,ht,hu,hv1⟩:=id hv;have hch:=zpn hT hin0 hc he;rw[hr] at hch;obtain⟨hT',rfl⟩:=hch;have hts:=hT.size;have hus:=hT.zu
    have hf1:p1=p/\q1=q/\(f1=fvC\/(f1=.nilFunc/\t=.nil))/\(f2=fvS\/(f2=.nilFunc/\u=.nil)):=by
     rcases hv1 with h | ⟨h0,rfl,rfl,h⟩
     ·rw[hsh] at h;cases h;exact⟨rfl,rfl,.inl rfl,.inl rfl⟩
     ·rw[hsh] at h;cases h;subst h0
      have key:∀ {s:Tr U Unit},s.size=0->s=.nil:=fun {s} hs=>by
       cases s with
       | nil=>rfl
       | node k y l r=>simp only[Tr.size] at hs;omega
      exact⟨rfl,rfl,.inr ⟨rfl,key hts⟩,.inr ⟨rfl,key hus⟩⟩
    obtain⟨rfl,rfl,hf1,hf2⟩:=hf1;subst hsh;have hchg1:=fun(u1:World) (H:Heap) (hH:zwe H u1) (hle:B.Le H)=>Hy zlt hf1 x hin hH (ht.le hle) J;have hchg2:=fun(u1:World) (H:Heap) (hH:zwe H u1) (hle:B.Le H)=>Hy zqf hf2 x hin hH (hu.le hle) J;cases hin
    ·have hlen:=hc rfl;refine yl Tryz.func40 Z Tryz.ntmps40 (np Z) hB ((ZaD∘ZX∘Zag∘Zcf) ?_);refine z71 L rfl (fun u H hH _=>he ▸ jf hz hH) ?_;refine(ZbY∘Zca∘Zdr∘ZdP∘ZaA∘ZbK) ?_;refine z91 L rfl (fun u H hH hle=>wi hin0 hH (hv.le hle)) ?_;refine(Zbi∘Zfp∘Zbv∘Zcy∘Zd∘Z5∘Z3∘Zo∘Za∘ZdJ) ?_;refine z71 L rfl (fun u H hH hle=>lw rfl hH (hv.le hle)) ?_;refine(Z8∘Zba∘Zdk∘ZaA∘Zde∘Zfo) ?_;refine z9 (xh (φ:=UT.MF 101 (chT js x false t)) L rfl rfl (zn rfl) rfl rfl rfl UT.MA.mono (fun u H hH hle _=>hchg1 u H hH hle)) rfl ((ZaA∘Zde∘Zfo) ?_);refine z9 (xh (φ:=UT.MF 109 (chT P9 x false u)) L rfl rfl (zn rfl) rfl rfl rfl UT.MA.mono (fun u H hH hle _=>hchg2 u H hH hle)) rfl (z9 (Ou (ψ:=SetV m) rfl rfl zpq SetV.mono (fun H _ v1 h1 v2 h2=>by obtain⟨p,q,rfl,rfl,k1,k2⟩:=mf4 h1 h2;exact⟨_,rfl,p,q,_,_,hT',k1,k2,.inl rfl⟩)) rfl ?_);refine z9 (au L (X:=SXp) (fun x=>scs x.1) (Kp m) (we m) Nx (fun x=>⟨rfl,x.2⟩) rfl rfl rfl rfl rfl) rfl (Zy (h:=?_));refine vh 4 rfl fun x4 H4 hs4 hx4=>?_;refine yk L (rs:=[.cell 4 91,.tmp 5]) Z (fun _ _ h=>h) hs4 fun u H hH hle=>?_;exact⟨_,ya Z,rfl,LE2.mk (hx4.le hle)⟩
    ·refine yl Tryz.func40 Z Tryz.ntmps40 (np Z) hB ((ZaD∘ZX∘Zag∘Zcf) ?_);refine z71 L rfl (fun u H hH _=>he ▸ jf hz hH) ?_;refine(ZbY∘Zca∘Zdr∘ZdP∘ZaA∘ZbK) ?_;refine z91 L rfl (fun u H hH hle=>wi hin0 hH (hv.le hle)) ?_;refine(Zbi∘Zfp∘Zbv∘Zcy∘Zd∘Z5∘Z3∘Zo∘ZbF∘Zs∘Zdk∘ZaA∘Zde∘Zfo) ?_;refine z9 (xh (φ:=UT.MF 101 (chT js x true t)) L rfl rfl (zn rfl) rfl rfl rfl UT.MA.mono (fun u H hH hle _=>hchg1 u H hH hle)) rfl ((ZaA∘Zde∘Zfo) ?_);refine z9 (xh (φ:=UT.MF 109 (chT P9 x true u)) L rfl rfl (zn rfl) rfl rfl rfl UT.MA.mono (fun u H hH hle _=>hchg2 u H hH hle)) rfl (z9 (Ou (ψ:=SetV m) rfl rfl zpq SetV.mono (fun H _ v1 h1 v2 h2=>by obtain⟨p,q,rfl,rfl,k1,k2⟩:=mf4 h1 h2;exact⟨_,rfl,p,q,_,_,hT',k1,k2,.inl rfl⟩)) rfl ?_);refine z9 (au L (X:=SXp) (fun x=>scs x.1) (Kp m) (we m) Nx (fun x=>⟨rfl,x.2⟩) rfl rfl rfl rfl rfl) rfl (Zy (h:=?_));refine vh 4 rfl fun x4 H4 hs4 hx4=>?_;refine yk L (rs:=[.cell 4 91,.tmp 5]) Z (fun _ _ h=>h) hs4 fun u H hH hle=>?_;exact⟨_,ya Z,rfl,LE2.mk (hx4.le hle)⟩
  ·have hw:uh l x d=(l,0):=by
    unfold uh;rw[na he];cases d
    ·have:hin=true:=by cases hin;exact ni rfl hd;rfl
     subst this;rw[nc E,na (by simpa using hin0)]
    ·have:hin=false:=by cases hin;rfl;exact ni rfl hd
     subst this;rw[na rfl,X5 (by simpa using hin0)]
   rw[hw] at hr;cases hr;have hb:(hin == d)=false:=by cases hin<;>cases d<;>first | rfl | exact ni rfl hd
   subst hsh;refine yl Tryz.func40 Z Tryz.ntmps40 (np Z) hB ?_;have hb2:(!(hin == d))=true:=by rw[hb];rfl
   refine(ZaD∘ZX∘Zag∘Zcf) ?_;refine z71 L Z (fun u H hH _=>he ▸ jf hz hH) ?_;refine(ZbY∘Zca∘Zdr∘ZdP∘ZaA∘ZbK) ?_;refine z91 L Z (fun u H hH hle=>wi hin0 hH (hv.le hle)) ?_;refine Zbi (h:=?_);refine z9 (zb5 Z Z Z Z bt4 hb2) Z ((ZcI∘Zi∘ZF∘ZdJ∘ZcN∘Zc) ?_);refine yk1 L [.cell 4 91,.tmp 5] fun u H hH hle=>?_;exact⟨_,ya Z,rfl,LE2.mk (hv.le hle)⟩
 ·have hw:uh l x d=([],tE x):=nc he;rw[hw] at hr;cases hr;subst hsh;refine yl Tryz.func40 Z Tryz.ntmps40 (np Z) hB ((ZaD∘ZX∘Zag∘Zcf) ?_);refine z71 L Z (fun u H hH _=>jf hz hH) ?_;refine(ZbY∘Zac∘Z2∘ZdK∘Za∘Zaq) ?_;refine yk1 L [.cell 4 91,.tmp 5] fun u H hH hle=>?_;exact⟨_,ya Z,rfl,LE2.mk SetV.nil⟩
end Go.V.L6
namespace Go.V.L2
def _root_.ZbO(t:Wr Y->A:=by exact fun h=>(ZaG∘ZcP) h.1)(h:Y):A:=t ⟨h⟩
def iz:∀ (l:List U),(l.flatMap ucs).length=l.length*6
 | []=>rfl
 | y::l=>by rw[zsi,nr,iz l,Kd,ma];omega
def cm:∀ (l:List U),(l.flatMap ucs).all wz=true
 | []=>rfl
 | g::l=>by rw[zsi,List.all_append,cm l];rfl
def Qh{s:Nat}{x y:List U}(h:κ s=some (.own (SlR tyU 6 (x.length+y.length) (x.flatMap ucs++y.flatMap ucs)))):κ s=some (.own (SlR tyU 6 (x++y).length ((x++y).flatMap ucs))):=by
 rw[h,zr5,nr]
def sq{p:U->Bool}{r:List U}{t:U}(h:l[k]?=some t)(hr:r=(l.take k).filter p):(l.take (k+1)).filter p=if p t=true then r++[t] else r:=by
 rw[Nn h,zt0,hr,zu5,List.filter_nil];split<;>simp
def zaw{x y:List U}{fx fy:Bool}(hx:x.length<=100000)(hy:y.length<=100000)(zx:∀ t∈x,TZ t)(zy:∀ t∈y,TZ t){vx vy:Value}(hB:zwe B w)(hvx:US x fx vx B)(hvy:US y fy vy B):
  Ret zwf 159 [vx,vy,.bool true,.bool true,.bool true] w B (US (aj x y true true true) false):=by
 have lx:=iz x;have ly:=iz y;have px:=cm x;have py:=cm y;refine yl Tryz.func159 Z Tryz.ntmps159 (np Z) hB (ku 0 (US x fx) Z ns hvx (ku 1 (US y fy) Z ns hvy ((Zw∘Ze) ?_)));refine um 11 tyU 6 rfl ((ZL∘Zg) ?_);refine z7 (gt L Z Z Z (oy Z) Z zg8 lx px J J) Z (Zg (h:=?_));refine qf (jx L Z Z Z (oy Z) Z zg8 ly py J J) (qf (yo (.inr Z) Z) (Zan (h:=?_)));refine uz 12 (Qh Z) ?_;have hal:(x++y).length<=200000:=by rw[nr];omega
 have hza:∀ t∈x++y,TZ t:=fun t ht=>(mj.1 ht).elim (zx t) (zy t);unfold aj;generalize hall:x++y=l at hal hza;refine(Z2∘Zae) ?_
 refine xu (fun s:Nat×List U=>[(0,.sat (US x fx)),(1,.sat (US y fy)),(2,.is (.bool true)),(3,.is (.bool true)),(4,.is (.bool true)),(11,.own (SlR tyU 6 s.2.length (s.2.flatMap ucs))),(12,.sat (US l false)),(13,.is (.int .i64 s.1))])
  (fun s=>s.1<=l.length/\s.2.length<=s.1/\s.2=(l.take s.1).filter (fw x y true true true)) (fun s=>l.length-s.1) (0,[]) ⟨mb _,nu _,rfl⟩ ⟨rfl,rfl,rfl,rfl,rfl,rfl,rfl,rfl,nm⟩ ?_
 rintro⟨i,r⟩ ⟨hi,hrl,hr⟩;dsimp only at hi hrl hr |-;by_cases hlt:i<l.length
 ·obtain⟨t,ht⟩:=xj hlt;have hc:=af ht;have hf:=sq ht hr;by_cases h1:t∈x
  ·have e1:(if t∈x then 1 else 0:Int)=1:=na h1;by_cases h2:t∈y
   ·have e2:(if t∈y then 1 else 0:Int)=1:=na h2;have hp:(fw x y true true true) t=true:=by simp [fw,h1,h2]
    rw[hp,na rfl] at hf;refine(Zco∘Zb7∘ZbO) ?_;refine z9 (qd L Z Z (zn Z) Z Z Z (fun u H hH _ _ v1 h3=>jp (l:=x) J e1 hH h3)) Z ((Zdg∘ZbO) ?_);refine z9 (qd L Z Z (zn Z) Z Z Z (fun u H hH _ _ v1 h3=>jp (l:=y) J e2 hH h3)) Z ((Zdg∘ZaS∘Zy∘ZbW∘Zu∘Zo∘Zf∘ZbZ∘Zbk∘ZaV∘Zf∘Zf∘Za9∘Zaw∘Zaw∘Zb4∘Z0) ?_);refine qf (yo (.inl Z) Z) ((ZY∘ZaQ∘ZJ∘Zdb) ?_);refine qf (yo (.inr Z) Z) ((Zaz∘ZC∘Zaa) ?_);exact yr (x:=(i,r)) (i+1,r++[t]) ⟨hlt,by dsimp only;rw[List.length_append,List.length_singleton];omega,hf.symm⟩ G ⟨Z,Z,Z,Z,Z,du Z,Z,Z,trivial⟩
   ·have e2:(if t∈y then 1 else 0:Int)=0:=nc h2;have hp:(fw x y true true true) t=true:=by simp [fw,h1,h2]
    rw[hp,na rfl] at hf;refine(Zco∘Zb7∘ZbO) ?_;refine z9 (qd L Z Z (zn Z) Z Z Z (fun u H hH _ _ v1 h3=>jp (l:=x) J e1 hH h3)) Z ((Zdg∘ZbO) ?_);refine z9 (qd L Z Z (zn Z) Z Z Z (fun u H hH _ _ v1 h3=>jp (l:=y) J e2 hH h3)) Z ((Zcg∘ZaS∘Zy∘ZbW∘Zu∘Zo∘ZaV∘Zf∘Za9∘Zaw∘ZcG∘Za9∘Zaw∘Zaw∘Zb4∘Z0) ?_);refine qf (yo (.inl Z) Z) ((ZY∘ZaQ∘ZJ∘Zdb) ?_);refine qf (yo (.inr Z) Z) ((Zaz∘ZC∘Zaa) ?_);exact yr (x:=(i,r)) (i+1,r++[t]) ⟨hlt,by dsimp only;rw[List.length_append,List.length_singleton];omega,hf.symm⟩ G ⟨Z,Z,Z,Z,Z,du Z,Z,Z,trivial⟩
  ·have e1:(if t∈x then 1 else 0:Int)=0:=nc h1;by_cases h2:t∈y
   ·have e2:(if t∈y then 1 else 0:Int)=1:=na h2;have hp:(fw x y true true true) t=true:=by simp [fw,h1,h2]
    rw[hp,na rfl] at hf;refine(Zco∘Zb7∘ZbO) ?_;refine z9 (qd L Z Z (zn Z) Z Z Z (fun u H hH _ _ v1 h3=>jp (l:=x) J e1 hH h3)) Z ((Zcg∘ZbO) ?_);refine z9 (qd L Z Z (zn Z) Z Z Z (fun u H hH _ _ v1 h3=>jp (l:=y) J e2 hH h3)) Z ((Zdg∘ZaS∘Zy∘ZbW∘Zb∘Zaw∘Zf∘ZbZ∘Zu∘ZcG∘ZbZ∘ZaV∘Zo∘Zb∘ZaV∘Zf∘Zb4∘Z0) ?_);refine qf (yo (.inl Z) Z) ((ZY∘ZaQ∘ZJ∘Zdb) ?_);refine qf (yo (.inr Z) Z) ((Zaz∘ZC∘Zaa) ?_);exact yr (x:=(i,r)) (i+1,r++[t]) ⟨hlt,by dsimp only;rw[List.length_append,List.length_singleton];omega,hf.symm⟩ G ⟨Z,Z,Z,Z,Z,du Z,Z,Z,trivial⟩
   ·have e2:(if t∈y then 1 else 0:Int)=0:=nc h2;have hp:(fw x y true true true) t=false:=by simp [fw,h1,h2]
    rw[hp,nc E] at hf;refine(Zco∘Zb7∘ZbO) ?_;refine z9 (qd L Z Z (zn Z) Z Z Z (fun u H hH _ _ v1 h3=>jp (l:=x) J e1 hH h3)) Z ((Zcg∘ZbO) ?_);refine z9 (qd L Z Z (zn Z) Z Z Z (fun u H hH _ _ v1 h3=>jp (l:=y) J e2 hH h3)) Z ((Zcg∘ZaS∘Zy∘ZbW∘Zb∘Zaw∘Zf∘ZbZ∘Zu∘ZcG∘ZbZ∘ZaV∘Zo∘Zb∘Zf∘ZbZ∘Zf∘Za1∘ZC∘Zaa) ?_);exact yr (x:=(i,r)) (i+1,r) ⟨hlt,by dsimp only;omega,hf.symm⟩ G ⟨Z,Z,Z,Z,Z,Z,Z,Z,trivial⟩
 ·obtain rfl:i=l.length:=by omega
  rw[m4] at hr;have hzr:∀ t∈r,TZ t:=fun t h=>hza t (zsb.1 (by rw[<-hr];exact h)).1;rw[<-hr];refine uz 11 rfl ((ZcL∘Zj∘Zb5∘ZM∘Zg) ?_);refine z7 (xh L Z Z (zn Z) Z Z Z ns (fun u H hH _ _ v1 h3=>r9 J hzr hH h3)) Z (Zb9 (h:=?_));refine yk1 L [.tmp 10] fun u H hH hle=>?_;exact fun v hv=>hv
def zay{x y:List U}{fx fy:Bool}(hx:x.length<=100000)(hy:y.length<=100000)(zx:∀ t∈x,TZ t)(zy:∀ t∈y,TZ t){vx vy:Value}(hB:zwe B w)(hvx:US x fx vx B)(hvy:US y fy vy B):
  Ret zwf 159 [vx,vy,.bool true,.bool false,.bool false] w B (US (aj x y true false false) false):=by
 have lx:=iz x;have ly:=iz y;have px:=cm x;have py:=cm y;refine yl Tryz.func159 Z Tryz.ntmps159 (np Z) hB (ku 0 (US x fx) Z ns hvx (ku 1 (US y fy) Z ns hvy ((Zw∘Ze) ?_)));refine um 11 tyU 6 rfl ((ZL∘Zg) ?_);refine z7 (gt L Z Z Z (oy Z) Z zg8 lx px J J) Z (Zg (h:=?_));refine qf (jx L Z Z Z (oy Z) Z zg8 ly py J J) (qf (yo (.inr Z) Z) (Zan (h:=?_)));refine uz 12 (Qh Z) ?_;have hal:(x++y).length<=200000:=by rw[nr];omega
 have hza:∀ t∈x++y,TZ t:=fun t ht=>(mj.1 ht).elim (zx t) (zy t);unfold aj;generalize hall:x++y=l at hal hza;refine(Z2∘Zae) ?_
 refine xu (fun s:Nat×List U=>[(0,.sat (US x fx)),(1,.sat (US y fy)),(2,.is (.bool true)),(3,.is (.bool false)),(4,.is (.bool false)),(11,.own (SlR tyU 6 s.2.length (s.2.flatMap ucs))),(12,.sat (US l false)),(13,.is (.int .i64 s.1))])
  (fun s=>s.1<=l.length/\s.2.length<=s.1/\s.2=(l.take s.1).filter (fw x y true false false)) (fun s=>l.length-s.1) (0,[]) ⟨mb _,nu _,rfl⟩ ⟨rfl,rfl,rfl,rfl,rfl,rfl,rfl,rfl,nm⟩ ?_
 rintro⟨i,r⟩ ⟨hi,hrl,hr⟩;dsimp only at hi hrl hr |-;by_cases hlt:i<l.length
 ·obtain⟨t,ht⟩:=xj hlt;have hc:=af ht;have hf:=sq ht hr;by_cases h1:t∈x
  ·have e1:(if t∈x then 1 else 0:Int)=1:=na h1;by_cases h2:t∈y
   ·have e2:(if t∈y then 1 else 0:Int)=1:=na h2;have hp:(fw x y true false false) t=false:=by simp [fw,h1,h2]
    rw[hp,nc E] at hf;refine(Zco∘Zb7∘ZbO) ?_;refine z9 (qd L Z Z (zn Z) Z Z Z (fun u H hH _ _ v1 h3=>jp (l:=x) J e1 hH h3)) Z ((Zdg∘ZbO) ?_);refine z9 (qd L Z Z (zn Z) Z Z Z (fun u H hH _ _ v1 h3=>jp (l:=y) J e2 hH h3)) Z ((Zdg∘ZaS∘Zy∘ZbW∘Zu∘Zo∘Zf∘ZbZ∘Zbk∘ZaV∘Zf∘ZaV∘Zo∘ZbZ∘ZbZ∘Zf∘Za1∘ZC∘Zaa) ?_);exact yr (x:=(i,r)) (i+1,r) ⟨hlt,by dsimp only;omega,hf.symm⟩ G ⟨Z,Z,Z,Z,Z,Z,Z,Z,trivial⟩
   ·have e2:(if t∈y then 1 else 0:Int)=0:=nc h2;have hp:(fw x y true false false) t=true:=by simp [fw,h1,h2]
    rw[hp,na rfl] at hf;refine(Zco∘Zb7∘ZbO) ?_;refine z9 (qd L Z Z (zn Z) Z Z Z (fun u H hH _ _ v1 h3=>jp (l:=x) J e1 hH h3)) Z ((Zdg∘ZbO) ?_);refine z9 (qd L Z Z (zn Z) Z Z Z (fun u H hH _ _ v1 h3=>jp (l:=y) J e2 hH h3)) Z ((Zcg∘ZaS∘Zy∘ZbW∘Zu∘Zo∘ZaV∘Zf∘Za9∘Zaw∘ZcG∘Za9∘Zaw∘Zaw∘Zb4∘Z0) ?_);refine qf (yo (.inl Z) Z) ((ZY∘ZaQ∘ZJ∘Zdb) ?_);refine qf (yo (.inr Z) Z) ((Zaz∘ZC∘Zaa) ?_);exact yr (x:=(i,r)) (i+1,r++[t]) ⟨hlt,by dsimp only;rw[List.length_append,List.length_singleton];omega,hf.symm⟩ G ⟨Z,Z,Z,Z,Z,du Z,Z,Z,trivial⟩
  ·have e1:(if t∈x then 1 else 0:Int)=0:=nc h1;by_cases h2:t∈y
   ·have e2:(if t∈y then 1 else 0:Int)=1:=na h2;have hp:(fw x y true false false) t=false:=by simp [fw,h1,h2]
    rw[hp,nc E] at hf;refine(Zco∘Zb7∘ZbO) ?_;refine z9 (qd L Z Z (zn Z) Z Z Z (fun u H hH _ _ v1 h3=>jp (l:=x) J e1 hH h3)) Z ((Zcg∘ZbO) ?_);refine z9 (qd L Z Z (zn Z) Z Z Z (fun u H hH _ _ v1 h3=>jp (l:=y) J e2 hH h3)) Z ((Zdg∘ZaS∘Zy∘ZbW∘Zb∘Zaw∘Zf∘ZbZ∘Zu∘ZcG∘ZbZ∘ZaV∘Zo∘Zb∘ZaV∘Zf∘Zf∘Za1∘ZC∘Zaa) ?_);exact yr (x:=(i,r)) (i+1,r) ⟨hlt,by dsimp only;omega,hf.symm⟩ G ⟨Z,Z,Z,Z,Z,Z,Z,Z,trivial⟩
   ·have e2:(if t∈y then 1 else 0:Int)=0:=nc h2;have hp:(fw x y true false false) t=false:=by simp [fw,h1,h2]
    rw[hp,nc E] at hf;refine(Zco∘Zb7∘ZbO) ?_;refine z9 (qd L Z Z (zn Z) Z Z Z (fun u H hH _ _ v1 h3=>jp (l:=x) J e1 hH h3)) Z ((Zcg∘ZbO) ?_);refine z9 (qd L Z Z (zn Z) Z Z Z (fun u H hH _ _ v1 h3=>jp (l:=y) J e2 hH h3)) Z ((Zcg∘ZaS∘Zy∘ZbW∘Zb∘Zaw∘Zf∘ZbZ∘Zu∘ZcG∘ZbZ∘ZaV∘Zo∘Zb∘Zf∘ZbZ∘Zf∘Za1∘ZC∘Zaa) ?_);exact yr (x:=(i,r)) (i+1,r) ⟨hlt,by dsimp only;omega,hf.symm⟩ G ⟨Z,Z,Z,Z,Z,Z,Z,Z,trivial⟩
 ·obtain rfl:i=l.length:=by omega
  rw[m4] at hr;have hzr:∀ t∈r,TZ t:=fun t h=>hza t (zsb.1 (by rw[<-hr];exact h)).1;rw[<-hr];refine uz 11 rfl ((ZcL∘Zj∘Zb5∘ZM∘Zg) ?_);refine z7 (xh L Z Z (zn Z) Z Z Z ns (fun u H hH _ _ v1 h3=>r9 J hzr hH h3)) Z (Zb9 (h:=?_));refine yk1 L [.tmp 10] fun u H hH hle=>?_;exact fun v hv=>hv
end Go.V.L2
end
namespace Go.V.L6
open Go.V.L2 Go.V.L3
def _root_.ZcD(t:Wr Y->A:=by intro h;refine z7 (G7 L Z Z Z Z) Z ?_;exact h.1)(h:Y):A:=t ⟨h⟩
def _root_.Zdx(t:Wr Y->A:=by intro h;refine z7 (qw L _ Z Z Z Z J) Z ?_;exact h.1)(h:Y):A:=t ⟨h⟩
def zdl(N:List (U×Unit)):UT.flat N=(kS N).flatMap ucs:=by
 unfold UT.flat kS;rw[List.flatMap_map];rfl
def V0{t:Tr U Unit}{r:Nat}(hk:k<=t.size):kS (UT.rangeL t (r:Int) (k:Int))=((kS t.list).take k).drop r:=by
 unfold UT.rangeL;have h0:max (r:Int) 0=(r:Int):=J;have h1:min (k:Int) (t.size:Int)=(k:Int):=J;rw[h0,h1];by_cases h:(r:Int)>=k
 ·rw[na h,zrx (by rw[mh];omega)];rfl
 ·rw[nc h,Tr.prs_list];have:=Ul r k t.list 0;rw[show((0:Nat):Int)=0 from rfl] at this;rw[this,zs1,zs1];unfold kS;rw[ztk,zta]
attribute [local irreducible] V N X VO Par StepOK Has Ret RetL RetO Src
def Xv{fv:Value}{t:Tr U Unit}{zwb:List U}(hM:kS (UT.rangeL t f e)=zwb)(hs:t.size<=100000)(hB:zwe B w)(ht:UT.TA t (.pointer p) B):
  RetO zwf 105 [.agg #[fv,.pointer p],.int .i64 f,.int .i64 e] w B (SlE tyU 6 zwb.length (zwb.flatMap ucs)):=by
 obtain⟨N,hN⟩:∃ N,UT.rangeL t f e=N:=⟨_,rfl⟩
 rw[hN] at hM;have hfl:=zdl N;have hNM:N.length=zwb.length:=by rw[<-hM];simp
 have hlen:zwb.length<=100000:=by
  rw[<-hNM,<-hN];unfold UT.rangeL;split
  ·exact mb _
  ·exact mq (Tr.prs_length_le _ _ _ _) hs
 have hat:∀ {k:Nat} {g:U},zwb[k]?=some g->((UT.flat N).drop (k*6)).take 6=[.string g.1.1.1,.string g.1.1.2,.string g.1.2,.string g.2.1.1,.string g.2.1.2,.string g.2.2]:=fun {k g} h=>by
  rw[hfl,hM];exact af h
 clear hM hfl;refine wt Tryz.func105 Z Tryz.ntmps105 (np Z) hB ((Zq∘Zad∘Zc9∘Zb) ?_);refine z7 (xh (φ:=UT.PS N true) L Z Z (zn Z) Z Z Z UT.PS.mono (fun u H hH hle _=>UT.range_m _ _ hH (⟨_,rfl,ht.le hle⟩) J hN)) Z ((Zaf∘Zk∘ZL∘Zj) ?_);refine z7 (Lk L _ Z Z Z zg8 Z Z Z Z J (by simp only[maxLen];omega)) Z ?_;refine qf (yo (.inr Z) Z) ((Zan∘Z2∘Zj∘Zb3) ?_);have hzl:=Gh (P:=zwf) (k:=N.length*6) zg8;generalize zsL zwf tyU (N.length*6)=zs0 at hzl;rw[hNM] at hzl |-
 refine xu (fun s:Nat×List Value=>[(7,.sat (UT.PS N true)),(8,.own (SlE tyU 6 zwb.length ((zwb.take s.1).flatMap ucs++s.2))),(19,.is (.int .i64 zwb.length)),(20,.is (.int .i64 s.1))])
  (fun s=>s.1<=zwb.length/\s.2.length=(zwb.length-s.1)*6) (fun s=>zwb.length-s.1) (0,zs0) ⟨mb _,hzl⟩ ⟨rfl,rfl,rfl,rfl,nm⟩ ?_
 rintro⟨k,zs⟩ ⟨hk,hz⟩;dsimp only at hk hz |-;by_cases hlt:k<zwb.length
 ·obtain⟨g,hg⟩:=xj hlt;have hc:=hat hg;have hlN:k<N.length:=J;have ht1:zwb.take (k+1)=zwb.take k++[g]:=by rw[zr4,hg];rfl
  have hr:List.take (0+k*6) ((zwb.take k).flatMap ucs++zs)++(ucs g++List.drop (0+k*6+6) ((zwb.take k).flatMap ucs++zs))=(zwb.take (k+1)).flatMap ucs++zs.drop 6:=by
   rw[ht1,zrw];exact zm6 Kd (zwb.take k) k zwb.length zs g (by rw[mh];omega) hz hlt
  have hlen':((zwb.take (k+1)).flatMap ucs++zs.drop 6).length=zwb.length*6:=by
   rw[nr,iz,mh,m9,hz];omega
  refine zow 8 J Z fun b hb=>?_;have hle1:0+k*6+6<=((zwb.take k).flatMap ucs++zs).length:=by rw[hb.1];omega
  refine(ZbS∘ZA∘ZC∘Zc∘Z5∘Zb∘ZY∘ZcD∘ZaQ∘Zdx) ?_;refine Pv L (O1:=[]) (cs':=(zwb.take (k+1)).flatMap ucs++zs.drop 6) Z Z Z Z Z Z (zuj hle1) Z hr (Zaz (h:=?_));refine zh2 (s:=6) 8 [] Z Z hlen' hb.2 ?_;refine(Z7∘ZbE) ?_;exact yr (x:=(k,zs)) (k+1,zs.drop 6) ⟨hlt,by dsimp only;rw[List.length_drop,hz];omega⟩ G ⟨Z,Z,Z,Z,trivial⟩
 ·obtain rfl:k=zwb.length:=by omega
  have hzn:zs=[]:=zrv (by rw[hz];omega);rw[hzn,mi,m4];refine(ZbS∘Zbh∘Z0) ?_;refine qf (yo (.inl Z) Z) (qf (yo (.inr Z) Z) (ZB (h:=?_)));exact dt Z (fun _ _ h=>h) nq Z
def SetV.trees(hv:SetV l v B):∃ f p k q t u,v=.agg #[f,.pointer p,k,.pointer q]/\TS l t u/\UT.TA t (.pointer p) B/\UT.TA u (.pointer q) B:=by
 obtain⟨p,q,t,u,hT,ht,hu,rfl | ⟨rfl,rfl,rfl,rfl⟩⟩:=hv
 ·exact⟨_,_,_,_,t,u,rfl,hT,ht,hu⟩
 ·exact⟨_,_,_,_,t,u,rfl,hT,ht,hu⟩
def zm4(hl:l.length<=100000)(hB:zwe B w)(hv:SetV l v B):RetO zwf 38 [v] w B (SlE tyU 6 l.length (l.flatMap ucs)):=by
 obtain⟨f,p,k,q,t,u,rfl,hT,ht,hu⟩:=hv.trees;have hts:=hT.size
 have hr:kS (UT.rangeL t 0 (l.length:Int))=l:=by
  have:=V0 (t:=t) (r:=0) (k:=l.length) J;rw[show((0:Nat):Int)=0 from rfl] at this;rw[this,hT.kt,zsj,m4]
 refine wt Tryz.func38 Z Tryz.ntmps38 (np Z) hB ((Zq∘Ze) ?_);refine qp (id:=1) [(2,[7])] kr T ((ZaA∘Zde∘ZdP) ?_);refine z91 L Z (fun u H hH hle=>lw Z hH (hv.le hle)) ?_;refine z9 (v6 L Z Z (zn Z) Z Z Z (fun u H hH hle _=>Xv hr J hH (ht.le hle))) Z (xo (yo (.inr Z) Z) Z Z (ZaW (h:=?_)));exact dt Z (fun _ _ h=>h) nq Z
attribute [local irreducible] RetT
end Go.V.L6
namespace Go.V.L6
open Go.V.L2 Go.V.L3
def LE2.out{a v:Value}(h:TupS [φ,fun v _=>v=a] v H):∃ tv,v=.tuple #[tv,a]/\φ tv H:=by
 obtain⟨vs,rfl,hl,h⟩:=h
 match vs,hl with
 | [x,y],_=>
  have h1:=h 0 _ x rfl rfl;have h2:=h 1 _ y rfl rfl;subst h2;exact⟨x,rfl,h1⟩
def WithP(l:List U)(e:Int)(r:Value)(H:Heap):Prop:=∃ tv,r=.tuple #[tv,.int .i64 e]/\SetV l tv H
def WithP.mono:Kn.mono (.sat (WithP l e)):=fun _ _ _ ⟨tv,h1,h2⟩ hle=>⟨tv,h1,h2.le hle⟩
def ak(hl:l.length<=100000)(hB:zwe B w)(hv:SetV l v B):Ret zwf 38 [v] w B (US l true):=(zm4 hl hB hv).toRet bn
def Gi{m:List U}{x:U}(hr:uh l x d=(m,e))(hl:l.length<=4096)(hz:TZ x)(hB:zwe B w)(hv:SetV l v B):
  Ret zwf 40 [v,chv x d] w B (WithP m e):=(zey hr hl hz hB hv).mono fun _ _ _ h=>LE2.out h
attribute [local irreducible] V N X VO Par StepOK Has Ret RetL RetO RetT Src
abbrev zrk:Nat:=102
def zdn{a b:List U}{fa fb:Bool}(hla:a.length<=1000000)(hlb:b.length<=1000000){r:Bool}(hr:decide (a=b)=r)(hB:zwe B w)(ha:US a fa va B)(hb:US b fb vb B):
  Ret zwf zrk [va,vb] w B (fun v _=>v=.bool r):=by
 subst hr;refine yl Tryz.func102 Z Tryz.ntmps102 (np Z) hB (ku 0 (US a fa) Z ns ha (ku 1 (US b fb) Z ns hb ?_));by_cases hl:a.length=b.length
 ·refine(ZT∘ZbU∘Zj∘Zca∘Z2∘Zj∘Zb3) ?_;refine xu (fun k:Nat=>[(0,.sat (US a fa)),(1,.sat (US b fb)),(12,.is (.int .i64 a.length)),(13,.is (.int .i64 k))]) (fun k=>k<=a.length/\a.take k=b.take k) (fun k=>a.length-k) 0 ⟨mb _,rfl⟩ ⟨Z,Z,Z,Z,nm⟩ ?_;rintro k ⟨hk,he⟩;by_cases hlt:k<a.length
  ·obtain⟨x,hx⟩:=xj hlt;obtain⟨y,hy⟩:=xj (show k<b.length by omega);have hcx:=af hx;have hcy:=af hy;by_cases hxy:x=y
   ·have hq:=eqU (nf hxy);refine(ZbS∘ZA∘ZC∘Ze∘Zb7∘ZcP∘ZcP∘Zfi∘Zbv∘ZbR∘Za0∘Z0∘ZbE) ?_;exact yr (x:=k) (k+1) ⟨hlt,by rw[Nn hx,Nn hy,he,hxy]⟩ J ⟨Z,Z,Z,Z,nm⟩
   ·have hq:=eqU (ng hxy);have hab:a≠b:=fun e=>hxy (by rw[e,hy] at hx;exact(Option.some.inj hx).symm);rw[ng hab];refine(ZbS∘ZA∘ZC∘Ze∘Zb7∘ZcP∘ZcP∘Zfi∘ZcI∘ZbW∘Zc) ?_;exact yk2 L [.tmp 4]
  ·obtain rfl:k=a.length:=by omega
   have hab:a=b:=by rw[m4,hl,m4] at he;exact he
   rw[nf hab];refine(ZbS∘Zbh∘ZM∘Zc) ?_;exact yk2 L [.tmp 4]
 ·have hab:a≠b:=fun e=>hl (by rw[e]);rw[ng hab];refine(ZT∘ZbU∘Zj∘Zac∘ZL∘Zc) ?_;exact yk2 L [.tmp 4]
def zan{a b:List U}(hla:a.length<=100000)(hlb:b.length<=100000){r:Bool}(hr:decide (a=b)=r)(hB:zwe B w)(ha:SetV a va B)(hb:SetV b vb B):
  Ret zwf 35 [va,vb] w B (fun v _=>v=.bool r):=by
 obtain⟨f1,p1,f2,q1,hsh,hpl⟩:=ha.shape;subst hsh;obtain⟨f3,p3,f4,q3,hsh,hpl3⟩:=hb.shape;subst hsh;refine yl Tryz.func35 Z Tryz.ntmps35 (np Z) hB ((ZaD∘Zad∘Ze∘Zer∘Zl∘ZdP) ?_);refine z9 (xh (φ:=US a true) L Z Z (zn Z) Z Z Z ns (fun u H hH hle _=>ak hla hH (ha.le hle))) Z ((Zl∘ZdP) ?_);refine z9 (xh (φ:=US b true) L Z Z (zn Z) Z Z Z ns (fun u H hH hle _=>ak hlb hH (hb.le hle))) Z (z9 (qd L Z Z (zn Z) Z Z Z (fun u H hH _ _ v1 h1 v2 h2=>zdn J J hr hH h1 h2)) Z (Zy (h:=?_)));exact yk2 L [.tmp 4]
end Go.V.L6
namespace Go.V.L3
open Go.V.L2
attribute [local irreducible] V N X VO Par StepOK Has Ret RetL RetO RetT Src
end Go.V.L3
namespace Go.V.L6
open Go.V.L2 Go.V.L3
abbrev R6(l:List U)(e:Int):Value->Heap->Prop:=TupS [US l false,fun v _=>v=.int .i64 e]
def zfp(hs:Sst js l)(x:U):aj l [x] true false false=l.filter fun z=>decide (z≠x):=by
 refine pg cmpT_ord (i9 cmpT_ord Sst.nil) (hs.sublist zun) fun z=>?_;unfold aj Cp;rw[oo,zsb,zsb];unfold fw;simp only[mj,my,zs3,false_or,Bool.and_true,Bool.and_false,Bool.or_false,zsn,decide_eq_true_eq,zvq,decide_eq_false_iff_not,ne_eq];constructor
 ·rintro⟨_,h1,h2⟩;exact⟨h1,h2⟩
 ·rintro⟨h1,h2⟩;exact⟨.inl h1,h1,h2⟩
def zj5(hs:Sst js l){x:U}(hx:x∉l):aj l [x] true true true=s5 js x l:=by
 refine pg cmpT_ord (i9 cmpT_ord Sst.nil) (bh cmpT_ord hs hx) fun z=>?_;unfold aj Cp;rw[oo,zsb,gx];unfold fw;simp only[mj,my,zs3,false_or,Bool.and_true,zur,zsn,decide_eq_true_eq,zvq,decide_eq_false_iff_not];constructor
 ·rintro⟨h,_⟩;exact h.symm
 ·rintro(rfl | h)
  ·exact⟨.inr Z,.inr ⟨hx,rfl⟩⟩
  ·refine⟨.inl h,.inl (.inl ⟨h,fun e=>?_⟩)⟩;subst e;exact hx h
def S0(t:U):tE t=0\/tE t=6:=by
 unfold tE;split
 ·exact Np _ _ _
 ·rename_i h;exact .inr ((Dr _).resolve_left h)
def Dt{x z:U}(h:z∈(uh l x d).1):z∈l\/z=x:=by
 unfold uh at h;split at h
 ·split at h
  ·exact .inl (zsb.1 h).1
  ·split at h
   ·exact .inl h
   ·split at h
    ·cases h
    ·exact(gx.1 h).symm
 ·cases h
attribute [local irreducible] V N X VO Par StepOK Has Ret RetL RetO RetT Src
def Ee{l m:List U}{x:U}(hr:uh l x d=(m,e))(hs:Sst js l)(hl:l.length<=90000)(hz:TZ x)(zl:∀ t∈l,TZ t)(hB:zwe B w)(hv:US l fu v B):
  Ret zwf 95 [v,chv x d] w B (R6 m e):=by
 have z1:∀ t∈[x],TZ t:=fun t ht=>by rw[my] at ht;subst ht;exact hz
 have zx1:([x]:List U).length<=100000:=show 1<=100000 by decide
 have key:∀ {a b c:Bool} (u:World) (H:Heap) (v1 v2:Value),zwe H u->US l fu v1 H->SlB (ucs x) tyU 1 v2 H->(a=true/\b=false/\c=false\/a=true/\b=true/\c=true)->Ret zwf 159 [v1,v2,.bool a,.bool b,.bool c] u H (US (aj l [x] a b c) false):=by
  rintro a b c u H v1 v2 hH h1 h2 (⟨rfl,rfl,rfl⟩ | ⟨rfl,rfl,rfl⟩)
  ·exact zay (y:=[x]) J zx1 zl z1 hH h1 (h2.toV Z)
  ·exact zaw (y:=[x]) J zx1 zl z1 hH h1 (h2.toV Z)
 refine yl Tryz.func95 Z Tryz.ntmps95 (np Z) hB (ku 0 (US l fu) Z ns hv ?_);unfold uh at hr;by_cases he:tE x=0
 ·rw[na he] at hr;cases d
  ·rw[nc E] at hr;by_cases hx:x∈l
   ·rw[na hx] at hr;cases hr;have hin:(if x∈l then 1 else 0:Int)=1:=na hx;refine(Zq∘Zv∘Zag∘Zcf) ?_;refine z71 L Z (fun u H hH _=>he ▸ cq hz hH) ?_;refine(Zca∘Z2∘Z3∘ZK∘ZF∘Zg∘Zcf) ?_;refine z7 (qd L Z Z (zn Z) Z Z Z (fun u H hH _ _ v1 h1=>jp J hin hH h1)) Z ((Zx∘Zr∘Z5∘Zg∘Zaf∘Zc) ?_);refine yk1 L [.tmp 4,.tmp 5] fun u H hH hle=>?_;exact fun v hv=>LE2.mk hv.nofu
   ·rw[nc hx] at hr;have hin:(if x∈l then 1 else 0:Int)=0:=nc hx;by_cases hf:l.length>=4096
    ·rw[na hf] at hr;cases hr;refine(Zq∘Zv∘Zag∘Zcf) ?_;refine z71 L Z (fun u H hH _=>he ▸ cq hz hH) ?_;refine(Zca∘Z2∘Z3∘ZK∘ZF∘Zg∘Zcf) ?_;refine z7 (qd L Z Z (zn Z) Z Z Z (fun u H hH _ _ v1 h1=>jp J hin hH h1)) Z ((Z8∘ZK∘Z7∘Zj∘ZbJ∘Zr∘Z0∘Z4) ?_);refine yk1 L [.tmp 4,.tmp 5] fun u H hH hle=>?_;exact LE2.mk SlV.nil
    ·rw[nc hf] at hr;cases hr;rw[<-zj5 hs hx];refine(Zq∘Zv∘Zag∘Zcf) ?_;refine z71 L Z (fun u H hH _=>he ▸ cq hz hH) ?_;refine(Zca∘Z2∘Z3∘ZK∘ZF∘Zg∘Zcf) ?_;refine z7 (qd L Z Z (zn Z) Z Z Z (fun u H hH _ _ v1 h1=>jp J hin hH h1)) Z ((Z8∘ZK∘Z7∘Zj∘Zav∘Zs∘ZM∘Zg∘Zcf∘ZJ) ?_);refine z7 (xh (φ:=US (aj l [x] true true true) false) L Z Z (zn Z) Z Z Z ns (fun u H hH _ _ v1 h1 v2 h2=>key u H v1 v2 hH h1 h2 (.inr ⟨rfl,rfl,rfl⟩))) Z ((Zaf∘Zc) ?_);refine yk1 L [.tmp 4,.tmp 5] fun u H hH hle=>?_;exact fun v hv=>LE2.mk hv
  ·rw[na rfl] at hr;cases hr;rw[<-zfp hs x];refine(Zq∘Zv∘Zag∘Zcf) ?_;refine z71 L Z (fun u H hH _=>he ▸ cq hz hH) ?_;refine(Zca∘Z2∘Z3∘Zr∘ZE∘Zg∘Zcf∘ZJ) ?_;refine z7 (xh (φ:=US (aj l [x] true false false) false) L Z Z (zn Z) Z Z Z ns (fun u H hH _ _ v1 h1 v2 h2=>key u H v1 v2 hH h1 h2 (.inl ⟨rfl,rfl,rfl⟩))) Z ((Zaf∘Zc) ?_);refine yk1 L [.tmp 4,.tmp 5] fun u H hH hle=>?_;exact fun v hv=>LE2.mk hv
 ·have h6:=(S0 x).resolve_left he;rw[nc he,h6] at hr;cases hr;refine(Zq∘Zv∘Zag∘Zcf) ?_;refine z71 L Z (fun u H hH _=>h6 ▸ cq hz hH) ?_;refine(Zac∘ZL∘Z4) ?_;refine yk1 L [.tmp 4,.tmp 5] fun u H hH hle=>?_;exact LE2.mk SlV.nil
end Go.V.L6
namespace Go.V.L2
def TM(t:U):Prop:=(t.1.1.1.size<=9223372036854775807/\t.1.1.2.size<=9223372036854775807/\t.1.2.size<=9223372036854775807)/\t.2.1.1.size<=9223372036854775807/\t.2.1.2.size<=9223372036854775807/\t.2.2.size<=9223372036854775807
attribute [local irreducible] V N X VO Par StepOK Has Ret RetL Src
end Go.V.L2
namespace Go.V.L8
open Go.V.L2 Go.V.L3 Go.V.L6
abbrev tyM:TypeId:=362
abbrev tyC:TypeId:=42
abbrev zq5:TypeId:=223
abbrev zjp:TypeId:=39
def ccs(c:CH):List Value:=[.string c.1.1.1.1,.string c.1.1.1.2,.string c.1.1.2,.string c.1.2.1.1,.string c.1.2.1.2,.string c.1.2.2,.bool c.2]
def zd9(c:CH):(ccs c).length=7:=rfl
abbrev KS(ty:TypeId)(l:List CH)(fu:Bool):Value->Heap->Prop:=SlV ty 7 (l.flatMap ccs) l.length fu
def rq{l:List CH}{c:CH}(h:l[i]?=some c):((l.flatMap ccs).drop (i*7)).take 7=[.string c.1.1.1.1,.string c.1.1.1.2,.string c.1.1.2,.string c.1.2.1.1,.string c.1.2.1.2,.string c.1.2.2,.bool c.2]:=gy zd9 l i c h
def gj{s:Nat}{r:List CH}{c:CH}(h:κ s=some (.own (SlR ty 7 (r.length+1) (r.flatMap ccs++[.string c.1.1.1.1,.string c.1.1.1.2,.string c.1.1.2,.string c.1.2.1.1,.string c.1.2.1.2,.string c.1.2.2,.bool c.2])))):κ s=some (.own (SlR ty 7 (r++[c]).length ((r++[c]).flatMap ccs))):=by
 rw[h,zr5,nr];rfl
def zl2{l:List CH}(hl:¬ n<l.length){c:CH}(hc:l[i]?=some c)(h:¬ tE c.1=0):cE n l=6:=by
 unfold cE;rw[nc hl,na];rw[zu0];exact⟨c,mz hc,by simp [h]⟩
def zec{l:List CH}(hl:¬ n<l.length)(h:∀ (j:Nat) c,l[j]?=some c->tE c.1=0):cE n l=0:=by
 unfold cE;rw[nc hl,nc];rw[zu0];rintro⟨c,hc,h1⟩;obtain⟨j,hj⟩:=zsf hc;rw[nf (h j c hj)] at h1;cases h1
attribute [local irreducible] V N X VO Par StepOK Has Ret RetL RetO RetT Src
def zab{t:U}(hz:TM t)(hB:zwe B w):Ret zwf 100 [uv t] w B (fun v _=>v=.int .i64 (tE t)):=by
 obtain⟨⟨z1,z2,z3⟩,z4,z5,z6⟩:=hz;unfold tE;refine yl Tryz.func100 Z Tryz.ntmps100 (np Z) hB ?_;by_cases h:f5 [t.1.1.1,t.1.1.2,t.1.2]=0
 ·rw[na h];refine(Zq∘Zag∘ZaK∘Zc8) ?_;refine z71 L Z (fun u H hH _=>goal_ret K K K hH) ?_;refine(ZbY∘Zau∘ZE∘ZaK∘Zc8∘ZfQ∘Zc) ?_;exact yk2 L [.tmp 2]
 ·rw[nc h];refine(Zq∘Zag∘ZaK∘Zc8) ?_;refine z71 L Z (fun u H hH _=>goal_ret K K K hH) ?_;refine(ZbY∘Zac∘Zz∘Zc) ?_;exact yk2 L [.tmp 2]
def Da{t:U}(hz:TM t)(hB:zwe B w):Ret zwf 58 [uv t] w B (fun v _=>v=.int .i64 (tE t)):=by
 obtain⟨⟨z1,z2,z3⟩,z4,z5,z6⟩:=hz;have hm:=zig t;refine yl Tryz.func58 Z Tryz.ntmps58 (np Z) hB ((Zq∘Ze∘Zcl∘ZaA∘Zdu∘ZfT∘ZaA∘Zdu∘ZfS) ?_);refine z9 (oe Z Z Z Z M) Z (Zy (h:=?_));exact yk2 L [.tmp 2]
def zk3{l:List CH}{b:Nat}{c:CH}(hc0:l[i]?=some c)(hB:zwe B w)(hb:B b=some (.cells #[v] zq5))(hv:KS tyM l fu v B):
  Ret zwf 252 ([.int .i64 i]++[.pointer (some ⟨b,0,none⟩)]) w B (fun r _=>r=uv c.1):=by
 have hc:=rq hc0;have hil:=get_lt hc0;refine yl Tryz.func252 Z Tryz.ntmps252 (np Z) hB ((Zct∘ZI∘Zbd) ?_);refine p9 4 (KS tyM l fu) Z ns hv ((Zdm∘ZcD∘ZaQ∘Za3) ?_);refine yk1 L [.cell 3 34] fun u H hH hle=>?_;refine ZdD (h:=?_);rfl
def zl1{l:List CH}{b:Nat}{c:CH}(hc0:l[i]?=some c)(hB:zwe B w)(hb:B b=some (.cells #[v] zjp))(hv:KS tyC l fu v B):
  Ret zwf 253 ([.int .i64 i]++[.pointer (some ⟨b,0,none⟩)]) w B (fun r _=>r=uv c.1):=by
 have hc:=rq hc0;have hil:=get_lt hc0;refine yl Tryz.func253 Z Tryz.ntmps253 (np Z) hB ((Zct∘ZI∘Zbd) ?_);refine p9 4 (KS tyC l fu) Z ns hv ((Zdm∘ZcD∘ZaQ∘Za3) ?_);refine yk1 L [.cell 3 34] fun u H hH hle=>?_;refine ZdD (h:=?_);rfl
def Hf{l:List CH}(hz:∀ c∈l,TM c.1)(hl:l.length<=9223372036854775807)(hfn:L.fn cf=some ())(he:cE 32 l=e)(hB:zwe B w)
  (hcl:∀ (i:Nat) (c:CH),l[i]?=some c->∀ (u:World) (H:Heap),zwe H u->B.Le H->Ret zwf cf ([.int .i64 i]++caps) u H (fun r _=>r=uv c.1)):
  Ret zwf 251 [.int .i64 l.length,.func (.func cf) #[] caps.toArray] w B (fun v _=>v=.int .i64 e):=by
 subst he;refine yl Tryz.func251 Z Tryz.ntmps251 (np Z) hB ?_;by_cases h32:32<l.length
 ·have:cE 32 l=3:=na h32;rw[this];refine(ZbD∘ZN∘ZaM∘Zc) ?_;exact yk2 L [.tmp 4]
 ·refine(ZbD∘ZG∘ZK∘ZcU∘Zdq) ?_;refine xu (fun i:Nat=>[(1,.is (.func (.func cf) #[] caps.toArray)),(9,.is (.int .i64 l.length)),(10,.is (.int .i64 i))]) (fun i=>i<=l.length/\∀ (j:Nat) c,j<i->l[j]?=some c->tE c.1=0) (fun i=>l.length-i) 0 ⟨mb _,fun j c h=>ni h (zt1 _)⟩ ⟨Z,Z,Z,nm⟩ ?_;rintro i ⟨hi,hok⟩;by_cases hlt:i<l.length
  ·obtain⟨c,hc⟩:=xj hlt;have hzc:=hz c (mz hc);by_cases h0:tE c.1=0
   ·refine(ZbS∘ZA∘ZC∘Ze∘Z5∘Zb) ?_;refine z7 (qd L Z Z (zn Z) Z Z hfn (fun u H hH hle _=>hcl i c hc u H hH hle)) Z (z71 L Z (fun u H hH _=>h0 ▸ zab hzc hH) ?_);refine(Ze∘Z6∘Zar∘Za1∘ZM∘ZbE) ?_
    exact yr (x:=i) (i+1) ⟨hlt,fun j c' hj hc'=>by
     rcases m5 j i with h | h
     ·exact hok j c' h hc'
     ·have:j=i:=J;subst this;rw[hc] at hc';cases hc';exact h0⟩ J ⟨rfl,rfl,rfl,nm⟩
   ·have h6:=(S0 c.1).resolve_left h0;rw[zl2 h32 hc h0];refine(ZbS∘ZA∘ZC∘Ze∘Z5∘Zb) ?_;refine z7 (qd L Z Z (zn Z) Z Z hfn (fun u H hH hle _=>hcl i c hc u H hH hle)) Z (z71 L Z (fun u H hH _=>h6 ▸ zab hzc hH) ?_);refine(Ze∘Z6∘Zac∘Za5∘Zc) ?_;exact yk2 L [.tmp 4]
  ·rw[zec h32 (fun j c hj=>hok j c (by have:=get_lt hj;omega) hj)];refine(ZbS∘Zbh∘ZaH∘Zc) ?_;exact yk2 L [.tmp 4]
def Nu{e:TypeId}{s:Nat}(h:SlV e s xs n fu v H):∃ p m c,v=.slice p m c:=by
 rcases h.2 with ⟨_,_,h⟩ | ⟨b,off,cap,cs,ty0,fr,h,_⟩
 ·exact⟨_,_,_,h⟩
 ·exact⟨_,_,_,h⟩
def rc{l:List CH}(hz:∀ c∈l,TM c.1)(hl:l.length<=9223372036854775807)(he:cE 32 l=e)(hB:zwe B w)(hv:KS tyM l fu v B):
  Ret zwf 191 [v] w B (fun r _=>r=.int .i64 e):=by
 obtain⟨p,m,c,rfl⟩:=Nu hv;refine yl Tryz.func191 Z Tryz.ntmps191 (np Z) hB ((Zq∘Ze) ?_);refine Cz 1 rfl fun q H1 hs1 ⟨b,hpb,hb1⟩=>?_;subst hpb;refine(ZI∘Zbd) ?_;refine p9 3 (KS tyM l fu) Z ns (hv.le hs1.le) ((ZbT∘ZaN) ?_);refine z71 L Z (fun u H hH hle=>Hf (caps:=[.pointer (some ⟨b,0,none⟩)]) hz hl Z he hH (fun i c hc u' H' hH' hle'=>zk3 hc hH' (hle' _ _ (hle _ _ hb1)) ((hv.le hs1.le).le (Heap.Le.trans hle hle')))) ?_;refine Zc (h:=?_);refine yk L (rs:=[.tmp 2]) Z (fun _ _ h=>h) hs1 fun u H hH hle=>?_;rfl
end Go.V.L8
namespace Go.V.L4
open Go.V.L2 Go.V.L8 Go.V.Bd
def rt(s:ByteArray):List Nat:=j7 s.size++dz s
def ww(l:List ByteArray):List Nat:=l.flatMap rt
def u6(t:U):List ByteArray:=[t.1.1.1,t.1.1.2,t.1.2,t.2.1.1,t.2.1.2,t.2.2]
def Aw(t:U):List Nat:=ww (u6 t)
def chgB(c:CH):List Nat:=Aw c.1++[if c.2=true then 1 else 0]
def Sv(h:s.size<=1099511627776):(rt s).length<=s.size+10:=by
 unfold rt;rw[nr,ux];have h128:(128:Nat)^10=1180591620717411303424:=E;have:=eu 9 s.size J;omega
def zag(bs:List Nat)(a b:ByteArray):(bs++rt a)++rt b=bs++ww [a,b]:=by simp [ww]
def zah(bs:List Nat)(a b:List ByteArray):(bs++ww a)++ww b=bs++ww (a++b):=by simp [ww]
def co:∀ {l:List ByteArray},(∀ s∈l,s.size<=1000)->(ww l).length<=l.length*1010
 | [],_=>nu _
 | s::l,h=>by
  have h1:=h s (mc ..);have h2:=Sv (s:=s) J;have h3:=co fun x hx=>h x (mf _ hx);show(rt s++ww l).length<=_;rw[nr,ma];omega
attribute [local irreducible] V N X VO Par StepOK Has Ret RetL RetO RetT jh RetX RetY Src
def Ka(hs:s.size<=1000)(hz:bs.length+2000<=1099511627776)(hB:zwe B w)(hr:(GWr wb bs).P B w C)(hC:ZCB C w B):
  jh zwf 231 [k8 wb,.string s] w B C (GWr wb (bs++rt s)):=by
 unfold jh;have h128:(128:Nat)^10=1180591620717411303424:=E;have hnl:=eu 9 s.size J;have hcv:IntKind.u64.wrap (s.size:Int)=(s.size:Int):=wrap_u64 J J;refine yz 900 (GWr wb bs) Tryz.func231 Z Tryz.ntmps231 (np Z) hB hr hC ((ZT∘Za) ?_);refine z7 (Lj Z Z Z Z zk1 Z Z) Z ((Zr∘ZI∘Zb∘ZP) ?_);refine z7 (kw Z Z Z wo.1 wo.2 (wrap_u64 J J)) Z (qf (xg L 900 (GWr wb (bs++j7 s.size)) (r:=GWr wb bs) Z Z Z Z Z (fun u H C hH _ hr hC=>ge J J hH hr hC)) (ZB (h:=?_)));have hz2:(bs++j7 s.size).length+s.size<=140737488355328:=by rw[nr];omega
 have e0:bs++rt s=(bs++j7 s.size)++dz s:=by unfold rt;rw[List.append_assoc]
 rw[e0];generalize bs++j7 s.size=bs1 at hz2;refine vh (X:=Value) 900 (r:=fun sv=>(GWv wb bs1 sv).res) (φ:=fun sv _=>Qb sv) (hφ:=di) Z fun sv H0 hs0 hsp=>?_;obtain⟨p,k,c,rfl⟩:=hsp;refine ug (r1:=xr wb [.slice p k c] zmu) (r2:=(GSl (.slice p k c) bs1).res) 900 901 rfl (xi _) ?_;rw[Fe];refine(ZaE∘ZR) ?_;refine g8 15 901 rfl rfl (Za (h:=?_));refine qf (oj L rfl rfl rfl rfl rfl T el5 hz2) ?_;refine cj 17 901 Qb rfl Ta fun s2 hp2=>?_;obtain⟨p2,k2,c2,rfl⟩:=hp2;refine Zam (h:=?_);refine xm (yq L (q:=900) (cs':=[.slice p2 k2 c2]) rfl rfl rfl rfl rfl) (Zah (h:=?_));have e2:bs1.length+s.size=(bs1++dz s).length:=by rw[nr,ux]
 rw[Sa,e2];refine s4 900 901 rfl Z (Sd _ _) ?_;exact As (X:=Value) 900 (r:=fun sv=>(GWv wb (bs1++dz s) sv).res) (φ:=fun sv _=>Qb sv) di (.slice p2 k2 c2) ⟨_,_,_,rfl⟩ Z (ki L 900 (r:=GWr wb (bs1++dz s)) Z (fun _ _ h=>h) hs0 Z Z)
def zex(ha:a.size<=1000)(hb:b.size<=1000)(hz:bs.length+4000<=1099511627776)(hB:zwe B w)(hr:(GWr wb bs).P B w C)(hC:ZCB C w B):
  jh zwf 230 [k8 wb,.agg #[.string a,.string b]] w B C (GWr wb (bs++ww [a,b])):=by
 unfold jh;have h1:=Sv (s:=a) J;rw[<-zag];refine yz 900 (GWr wb bs) Tryz.func230 Z Tryz.ntmps230 (np Z) hB hr hC ((Zq∘Zk∘Zbq∘Z3) ?_);refine qf (xg L 900 (GWr wb (bs++rt a)) (r:=GWr wb bs) Z Z Z Z Z (fun u H C hH _ hr hC=>Ka ha J hH hr hC)) ((ZB∘Zn∘Z3) ?_);refine qf (xg L 900 (GWr wb (bs++rt a++rt b)) (r:=GWr wb (bs++rt a)) Z Z Z Z Z (fun u H C hH _ hr hC=>Ka hb (by rw[nr];omega) hH hr hC)) ?_;refine Zah (h:=?_);exact ki L 900 (r:=GWr wb (bs++rt a++rt b)) Z (fun _ _ h=>h) nq Z Z
def M9(ha:a.size<=1000)(hb:b.size<=1000)(hc:c.size<=1000)(hz:bs.length+8000<=1099511627776)(hB:zwe B w)(hr:(GWr wb bs).P B w C)(hC:ZCB C w B):
  jh zwf 160 [k8 wb,.agg #[.string a,.string b,.string c]] w B C (GWr wb (bs++ww [a,b,c])):=by
 unfold jh;have h1:=co (l:=[a,b]) (fun s hs=>by simp only[nz,zs3,or_false] at hs;rcases hs with rfl | rfl<;>assumption);simp only[ma,m7] at h1;have e0:bs++ww [a,b,c]=(bs++ww [a,b])++rt c:=by simp [ww]
 rw[e0];refine yz 900 (GWr wb bs) Tryz.func160 Z Tryz.ntmps160 (np Z) hB hr hC ((Zq∘Zk∘Zbq∘Zc9) ?_);refine qf (xg L 900 (GWr wb (bs++ww [a,b])) (r:=GWr wb bs) Z Z Z Z Z (fun u H C hH _ hr hC=>zex ha hb J hH hr hC)) ((ZB∘Zn∘Z3) ?_);refine qf (xg L 900 (GWr wb (bs++ww [a,b]++rt c)) (r:=GWr wb (bs++ww [a,b])) Z Z Z Z Z (fun u H C hH _ hr hC=>Ka hc (by rw[nr];omega) hH hr hC)) ?_;refine Zah (h:=?_);exact ki L 900 (r:=GWr wb (bs++ww [a,b]++rt c)) Z (fun _ _ h=>h) nq Z Z
def zew(ha:a.size<=1000)(hb:b.size<=1000)(hc:c.size<=1000)(hz:bs.length+8000<=1099511627776)(hB:zwe B w)(hr:(GWr wb bs).P B w C)(hC:ZCB C w B):
  jh zwf 161 [k8 wb,.agg #[.string a,.string b,.string c]] w B C (GWr wb (bs++ww [a,b,c])):=by
 unfold jh;refine yz 900 (GWr wb bs) Tryz.func161 Z Tryz.ntmps161 (np Z) hB hr hC ((Zq∘ZB∘Zbq∘Zc8) ?_);refine qf (xg L 900 (GWr wb (bs++ww [a,b,c])) (r:=GWr wb bs) Z Z Z Z Z (fun u H C hH _ hr hC=>M9 ha hb hc hz hH hr hC)) (Zah (h:=?_));exact ki L 900 (r:=GWr wb (bs++ww [a,b,c])) Z (fun _ _ h=>h) nq Z Z
def zev{t:U}(ht:∀ s∈u6 t,s.size<=1000)(hz:bs.length+16000<=1099511627776)(hB:zwe B w)(hr:(GWr wb bs).P B w C)(hC:ZCB C w B):
  jh zwf 96 [k8 wb,uv t] w B C (GWr wb (bs++Aw t)):=by
 unfold jh;obtain⟨⟨⟨a,b⟩,c⟩,⟨⟨d,e⟩,f⟩⟩:=t;have ha:=ht a (by simp [u6]);have hb:=ht b (by simp [u6]);have hc:=ht c (by simp [u6]);have hd:=ht d (by simp [u6]);have he:=ht e (by simp [u6]);have hf:=ht f (by simp [u6]);have h1:=co (l:=[a,b,c]) (fun s hs=>by simp only[nz,zs3,or_false] at hs;rcases hs with rfl | rfl | rfl<;>assumption);simp only[ma,m7] at h1;have e0:bs++Aw (((a,b),c),((d,e),f))=(bs++ww [a,b,c])++ww [d,e,f]:=by rw[zah];rfl
 rw[e0];refine yz 900 (GWr wb bs) Tryz.func96 Z Tryz.ntmps96 (np Z) hB hr hC ((Zq∘Zk∘Zbq∘ZaK∘Zc8) ?_);refine qf (xg L 900 (GWr wb (bs++ww [a,b,c])) (r:=GWr wb bs) Z Z Z Z Z (fun u H C hH _ hr hC=>M9 ha hb hc J hH hr hC)) ((ZB∘Zn∘ZaK∘Zc8) ?_);refine qf (xg L 900 (GWr wb (bs++ww [a,b,c]++ww [d,e,f])) (r:=GWr wb (bs++ww [a,b,c])) Z Z Z Z Z (fun u H C hH _ hr hC=>zew hd he hf (by rw[nr];omega) hH hr hC)) ?_;refine Zah (h:=?_);exact ki L 900 (r:=GWr wb (bs++ww [a,b,c]++ww [d,e,f])) Z (fun _ _ h=>h) nq Z Z
end Go.V.L4
end
