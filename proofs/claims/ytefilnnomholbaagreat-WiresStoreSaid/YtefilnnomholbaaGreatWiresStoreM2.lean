/- Texts, part 2. -/
import Derived.Test.YtefilnnomholbaaGreatWiresStoreM1
import Derived.Shelf.SlSortCmp.NoneTotal
import Derived.Test.YtefilnnomholbaaGreatProg
import Derived.Shelf.Small.Strs
import Derived.Shelf.Small.Wraps
import Derived.Shelf.Utf8.RuneCount
import Derived.Shelf.Strings.Shaped
import Derived.Shelf.Strings.Split
import Derived.Shelf.Strings.RuneCount
import Derived.Lib.AppendZerosOnto
import Derived.Lib.Overlaps
set_option linter.unusedVariables false
set_option linter.unusedSimpArgs false
set_option maxRecDepth 20000
set_option maxHeartbeats 8000000
set_option linter.defProp false
open Go.Proofs Go.RowKit
noncomputable abbrev _root_.zwf:=Go.Proofs.Tryz.prog
section
variable{P:Go.Program}{F:Go.V.Fr}{B B0 H:Go.V.Heap}{O:Go.V.Boxes}{by_ ck d f i j k lim m m' n nn off q rb s:Nat}{ops:Array Go.Oper}{κ:Go.V.Kap}{e et kt t t' ti tt ty:Go.TypeId}{pos:String}{aft:Array Go.Edge}{g:Option (Nat×Bool)}{a b c:ByteArray}{u w:Go.World}{fp:Nat->Nat->Prop}{os:List Go.Oper}{Q:Go.Exit->Go.Act->Go.World->Prop}{cap cs cur cur' fst news rest vs xs:List Go.Value}{o:Go.Oper}{p r:Int}{args:Array Go.Operand}{at_:Array Go.TypeId}{x y:Go.Operand}{sv v z:Go.Value}{ag fu:Bool}{φ:Go.Value->Go.V.Heap->Prop}{zwd α:Type}{k2 kd:Go.IntKind}{r1 r2:Go.V.Res}{C:Nat->Prop}{bs:List Nat}{A Y:Prop}
namespace Go.V
def xr(b:Nat)(cs:List Value)(ty:TypeId):Res where
 P _ _ u C:=u.heap[b]?=some (.cells cs.toArray ty)/\∀ k,C k↔k=b
 st:=fun⟨h1,h2⟩ _ _ _ hk=>⟨(hk b ((h2 b).2 rfl)).trans h1,h2⟩
section
variable             {a:Act}      {ex:Exs}
def Has.hold{t:Nat}(hk:κ t=some (.own (Cell cs ty)))(h:Has F B O n κ a u):∃ b,Has F B O n (upd (upd (upd κ t lh) q (.own (xr b cs ty))) t (.is (.pointer (some ⟨b,0,none⟩)))) a u:=by
 obtain⟨H,fp,h⟩:=h;obtain⟨⟨b,hv,hb,hC⟩,hM⟩:=h.slot t _ hk;have h2:=h.usePut (d:=q) (a':=a) (r':=xr b cs ty) (C:=fp t) hk ⟨Keep.refl _ _,h.sub,mw _,fun _ _ _=>rfl⟩ rfl rfl (fun _ _=>rfl) ⟨hb,hC⟩ fun k hk=>⟨.inl hk,(hM k hk).1,(hM k hk).2.1⟩
 have h3:=h2.name t;rw[hv] at h3;exact⟨b,H,_,h3⟩
def Has.release{t b:Nat}(hk:κ q=some (.own (xr b cs ty)))(ht:κ t=some (.is (.pointer (some ⟨b,0,none⟩))))(h:Has F B O n κ a u):Has F B O n (upd (upd κ q lh) t (.own (Cell cs ty))) a u:=by
 obtain⟨H,fp,h⟩:=h;obtain⟨⟨hb,hC⟩,hM⟩:=h.slot q _ hk;have hx:a.eval (.tmp t)=.pointer (some ⟨b,0,none⟩):=h.slot t _ ht;exact⟨H,_,h.usePut (d:=t) (a':=a) (r':=Cell cs ty) (C:=fp q) hk ⟨Keep.refl _ _,h.sub,mw _,fun _ _ _=>rfl⟩ Z Z (fun _ _=>rfl) ⟨b,hx,hb,hC⟩ fun k hk=>⟨.inl hk,(hM k hk).1,(hM k hk).2.1⟩⟩
def jg(t q:Nat){c:Code}(hk:κ t=some (.own (Cell cs ty)))(h:∀ b,V P F B n O (upd (upd (upd κ t lh) q (.own (xr b cs ty))) t (.is (.pointer (some ⟨b,0,none⟩)))) c Q):V P F B n O κ c Q:=fun a u hh=>let ⟨b,h'⟩:=hh.hold (q:=q) hk;h b a u h'
def uy(t q:Nat){b:Nat}{c:Code}(hk:κ q=some (.own (xr b cs ty)))(ht:κ t=some (.is (.pointer (some ⟨b,0,none⟩))))(h:V P F B n O (upd (upd κ q lh) t (.own (Cell cs ty))) c Q):V P F B n O κ c Q:=fun a u hh=>h a u (hh.release hk ht)
def StepOKR(P:Program)(F:Fr)(B:Heap)(n:Nat)(ops:Array Oper)(O:Boxes)(κ:Kap)(o:Oper)(q d:Nat)(k:Kn):Prop:=
 ∀ κ' a u,(∀ t∈o.looksAt ops,κ' t=κ t)->κ' q=κ q->Has F B O n κ' a u->After P ops o (fun a' u'=>Has F B O n (upd κ' d k) a' u') a u
def ye{k:Kn}(hs:StepOKR P F B n ops O κ o q d k)(h:VO P F B n O ops (upd κ d k) os Q):VO P F B n O ops κ (o::os) Q:=
 fun a u hh=>After.mono (fun a' u' hh'=>h a' u' hh') (hs κ a u (fun _ _=>rfl) rfl hh)
def qy{k:Kn}(hs:StepOKR P F B n ops O κ o q d k)(hd:vd o=some d)(he:(exR ex o).contains q=true)(h:Par P F B n O ops ex (upd κ d k) os Q):Par P F B n O ops ex κ (o::os) Q:=by
 have hm:q∈exR ex o:=by simpa using he
 refine⟨[(d,k)],fun p hp=>?_,fun κ' a u hl hh=>hs κ' a u (fun t ht=>hl t (zsg _ ht)) (hl q (zsy _ (zsy _ hm))) hh,h⟩;simp only[nz,zs8,or_false] at hp;subst hp;exact zsg _ (by simp [hd])
def o4(P:Program)(F:Fr)(B:Heap)(n:Nat)(ops:Array Oper)(O:Boxes)(κ:Kap)(o:Oper)(q:Nat)(k:Kn):Prop:=
 ∀ κ' a u,(∀ t∈o.looksAt ops,κ' t=κ t)->κ' q=κ q->Has F B O n κ' a u->After P ops o (fun a' u'=>Has F B O n (upd κ' q k) a' u') a u
def xm{k:Kn}(hs:o4 P F B n ops O κ o q k)(h:VO P F B n O ops (upd κ q k) os Q):VO P F B n O ops κ (o::os) Q:=
 fun a u hh=>After.mono (fun a' u' hh'=>h a' u' hh') (hs κ a u (fun _ _=>rfl) rfl hh)
def xw{k:Kn}(hs:o4 P F B n ops O κ o q k)(he:(exO ex o).contains q=true)(h:Par P F B n O ops ex (upd κ q k) os Q):Par P F B n O ops ex κ (o::os) Q:=by
 have hm:q∈exO ex o:=by simpa using he
 refine⟨[(q,k)],fun p hp=>?_,fun κ' a u hl hh=>hs κ' a u (fun t ht=>hl t (zsg _ ht)) (hl q (zsy _ (zsg _ hm))) hh,h⟩;simp only[nz,zs8,or_false] at hp;subst hp;exact zsy _ hm
def xz(L:Tabs P)(q:Nat){r:Res}{Φ:Heap->Prop}{c:Value}{fo:Operand}
  (hop:o.op=.call { callee:=.value fo,args:=args,argTypes:=at_ }) (hd:o.dst=some d) (hn:d<n) (hg:gK ops κ o=some true)
  (hf:evK κ fo=some (.func (.func f) #[] cap.toArray)) (hfn:L.fn f=some ()) (hq:κ q=some (.own r)) (hm:zio q o.op.operands.toList=false) (hl:∀ v H u C,r.P v H u C->Φ (joinH H u C))
  (h:∀ u H,zwe H u->B.Le H->Φ H->Args κ H args.toList [] (fun vs=>Ret P f (vs++cap) u H (fun v _=>v=c))):
  StepOKR P F B n ops O κ o q d (.is c):=by
 rintro κ' a u hlk hqk ⟨H,fp,hh⟩;unfold After;rw[na (xn hh hlk hg)];have e:=hh.env hlk;have hfe:a.eval fo=.func (.func f) #[] cap.toArray:=e.is_ fo _ (by simp [hop,Op.operands,Call.operands]) hf;obtain⟨hown,hM⟩:=hh.slot q _ (hqk.trans hq);have hle:H.Le (joinH H u (fp q)):=Me fun k hk=>(hM k hk).2.1
 have hqo:∀ t,Operand.tmp t∈o.op.operands->t≠q:=fun t ht e=>by
  subst e;have:zio t o.op.operands.toList=true:=zu0.2 ⟨Operand.tmp t,by simpa using ht,Nat.beq_refl t⟩;rw[this] at hm;cases hm
 have e1:Env F B O κ o a u (joinH H u (fp q)) fp:=by
  refine⟨e.is_,fun t ψ ht hk=>?_,fun t r' ht hk=>?_,Ab hh.sub,fun k v hv=>hle _ _ (hh.base _ _ hv),fun y hy=>?_,hh.keep⟩
  ·have hk':κ' t=some (.sat ψ):=(hlk t (l7 ht)).trans hk;exact hh.mono t _ hk' _ _ _ (e.sat_ t ψ ht hk) hle
  ·obtain⟨h1,h2⟩:=e.own_ t r' ht hk;have hk':κ' t=some (.own r'):=(hlk t (l7 ht)).trans hk;refine⟨r'.st h1 hle (Ab hh.sub) ⟨rfl,rfl,rfl,nu _,nu _⟩ fun _ _=>rfl,fun k hk2=>?_⟩;obtain⟨g1,g2,g3,g4⟩:=h2 k hk2;exact⟨g1,(cw (hh.owns t q r' _ (hqo t ht) hk' (hqk.trans hq) k hk2)).trans g2,g3,g4⟩
  ·obtain⟨h1,h2,h3⟩:=e.boxes y hy;exact⟨h1,(cw fun hc=>(hM _ hc).2.2.2 y hy Z).trans h2,h3⟩
 have hc:=Args.use e1 args.toList [] (fun x hx=>by simp [hop,Op.operands,Call.operands] at hx |-;exact .inr hx) (h u (joinH H u (fp q)) e1.sub e1.base (hl _ _ _ _ hown));simp only[zsz,mo] at hc;rw[fj L hop hfe hfn];simp only[Upon];refine Calls.mono hc fun e' u' hp=>?_;obtain⟨v,rfl,H',g',hv⟩:=hp;refine⟨v,rfl,?_⟩;simp only[hd]
 have g2:Grow noL u H u' H:=⟨g'.keep,fun k x hx=>by
  have h1:=hh.sub _ _ hx;exact(g'.keep.block k (xl h1) fun h=>h).trans h1,mw _,fun _ _ _=>rfl⟩
 exact⟨H,fp,(hh.grow g2).put (k:=.is c) hn trivial hv⟩
def jd(L:Tabs P){b:Nat}{t t':TypeId}(eqs:(evK κ x,κ q,Nat.blt d n)=(some (.pointer (some ⟨b,off,none⟩)),some (.own (xr b cs t')),true))(hg:gK ops κ ⟨some d,.load t x,ty,pos,aft,g⟩=some true)
  (hl:L.ld t=some (true,s)) (hlen:vs.length=s) (hc:∃ r,cs.drop off=vs++r):StepOKR P F B n ops O κ ⟨some d,.load t x,ty,pos,aft,g⟩ q d (.is (.agg vs.toArray)):=by
 obtain⟨hx,hq,hn⟩:=EQ3 eqs;rintro κ' a u hlk hqk ⟨H,fp,hh⟩;unfold After;rw[na (xn hh hlk hg)];have e:=hh.env hlk;have h1:=e.is_ x _ (by simp [Op.operands]) hx;obtain⟨⟨h2,hC⟩,hM⟩:=hh.slot q _ (hqk.trans hq);obtain⟨r,hc⟩:=hc
 have hrun:(execOp a.eval ⟨some d,.load t x,ty,pos,aft,g⟩).run P u=.ok (.value (.agg vs.toArray)) u:=by
  simp only[execOp,h1,Instr.loadAt,Instr.sureAddr,nw,me,ny]
  rw[uc (Tabs.ld_spec hl) u _ vs hlen (fun j v hj=>by
   have h3:cs[off+j]?=some v:=by
    have:=nh (·[j]?) hc;simp only[ztg] at this
    rw[this,zs7 (by
     rcases m5 j vs.length with h | h
     ·exact h
     ·rw[zr6 h] at hj;cases hj)]
    exact hj
   show u.cell? (Addr.add ⟨b,off,none⟩ j)=some v;have:Addr.add ⟨b,off,none⟩ j=⟨b,off+j,none⟩:=by simp [Addr.add]
   rw[this,je h2];simpa using h3)]
  rfl
 rw[hrun];simp only[Upon];exact⟨H,fp,hh.put (k:=.is (.agg vs.toArray)) (zn hn) trivial Z⟩
def qk(L:Tabs P){b:Nat}{r:List Value}(eqs:(evK κ x,κ q,Nat.blt d n)=(some (.pointer (some ⟨b,off,none⟩)),some (.own (xr b cs t')),true))(hg:gK ops κ ⟨some d,.load t x,ty,pos,aft,g⟩=some true)
  (hl:L.ld t=some (false,s)) (hc:cs.drop off=v::r):StepOKR P F B n ops O κ ⟨some d,.load t x,ty,pos,aft,g⟩ q d (.is v):=by
 obtain⟨hx,hq,hn⟩:=EQ3 eqs;rintro κ' a u hlk hqk ⟨H,fp,hh⟩;unfold After;rw[na (xn hh hlk hg)];have e:=hh.env hlk;have h1:=e.is_ x _ (by simp [Op.operands]) hx;obtain⟨⟨h2,hC⟩,hM⟩:=hh.slot q _ (hqk.trans hq)
 have h3:cs[off]?=some v:=by
  have:=nh (·[0]?) hc;simpa using this
 have hrun:(execOp a.eval ⟨some d,.load t x,ty,pos,aft,g⟩).run P u=.ok (.value v) u:=by
  simp only[execOp,h1,Instr.loadAt,Instr.sureAddr,nw,me,ny];rw[pj (Tabs.ld_spec hl) u _ v (by rw[je h2];simpa using h3)];rfl
 rw[hrun];simp only[Upon];exact⟨H,fp,hh.put (k:=.is v) (zn hn) trivial Z⟩
def yq(L:Tabs P){z b:Nat}{p:Operand}{cs':List Value}(hg:gK ops κ ⟨none,.store t p x,ty,pos,aft,g⟩=some true)
  (eqs:(evK κ p,κ q,evK κ x,L.ld t,(ja v).length)=(some (.pointer (some ⟨b,off,none⟩)),some (.own (xr b cs t')),some v,some (ag,z),z)) (hcs:Nat.ble (off+z) cs.length=true) (hpl:(ja v).all wz=true) (hr:cs.take off++(ja v++cs.drop (off+z))=cs'):
  o4 P F B n ops O κ ⟨none,.store t p x,ty,pos,aft,g⟩ q (.own (xr b cs' t')):=by
 obtain⟨hp,hq,hx,hl,hlen⟩:=EQ5 eqs;rintro κ' a u hlk hqk ⟨H,fp,hh⟩;subst hr;unfold After;rw[na (xn hh hlk hg)];have e:=hh.env hlk;have hev:=e.is_ x v (by simp [Op.operands]) hx;have hes:=e.is_ p _ (by simp [Op.operands]) hp;have hqs:=hqk.trans hq;obtain⟨⟨hb,hC⟩,hM⟩:=hh.slot q _ hqs
 have hrun:(execOp a.eval ⟨none,.store t p x,ty,pos,aft,g⟩).run P u=.ok .skip (u.setRow b (cs.take off++(ja v++cs.drop (off+z))).toArray):=by
  simp only[execOp,hes,hev,Instr.storeAt,Instr.sureAddr,nw,me,ny];have:=ub (P:=P) (off:=off) (Tabs.ld_spec hl) hb hlen (np hcs) hpl;rw[this];simp
 rw[hrun];simp only[Upon,Act.put];have hset:=setRow_heap u b cs.toArray (cs.take off++(ja v++cs.drop (off+z))).toArray t' (0,0) hb;have hbm:=hM b ((hC b).2 rfl)
 have:=hh.usePut (d:=q) (a':=a) (r':=xr b (cs.take off++(ja v++cs.drop (off+z))) t') (C:=fun k=>k=b) hqs (wv hh.sub hb ((hC b).2 rfl) hbm.2.1 _) rfl rfl (fun _ _=>rfl) ⟨hset,fun _=>Iff.rfl⟩ (fun k hk=>by
  subst hk;exact⟨.inl ((hC k).2 rfl),by rw[setRow_size];exact hbm.1,hbm.2.1⟩)
 rw[jt] at this;exact⟨H,_,this⟩
def zmc(t q:Nat){c:Code}(hm:0<m)(hk:κ t=some (.own (SlE e s m xs)))
  (h:∀ b,xs.length=m*s->V P F B n O (upd (upd (upd κ t lh) q (.own (xr b xs e))) t (.is (.slice (some ⟨b,0,none⟩) m m))) c Q):V P F B n O κ c Q:=fun a u hh=>by
 obtain⟨H,fp,hh⟩:=hh;obtain⟨⟨hl,hv⟩,hM⟩:=hh.slot t _ hk;rcases hv with ⟨h0,_,_⟩ | ⟨b,hv,hb,h4,hC⟩
 ·omega
 ·have h2:=hh.usePut (d:=q) (a':=a) (r':=xr b xs e) (C:=fp t) hk ⟨Keep.refl _ _,hh.sub,mw _,fun _ _ _=>rfl⟩ rfl rfl (fun _ _=>rfl) ⟨hb,hC⟩ fun k hk=>⟨.inl hk,(hM k hk).1,(hM k hk).2.1⟩
  have h3:=h2.name t;rw[hv] at h3;exact h b hl a u ⟨H,_,h3⟩
def zo4(b:Nat)(ty:TypeId)(Φ:List Value->Heap->Prop)(hΦ:ij Φ):Res:=ExR (fun cs=>xr b cs ty) Φ hΦ
def StP(Φ:List Value->Heap->Prop)(φ:Value->Heap->Prop)(off z:Nat):List Value->Heap->Prop:=fun cs' H=>∃ cs v,Φ cs H/\φ v H/\cs'=cs.take off++(ja v++cs.drop (off+z))
def StP.mono{Φ:List Value->Heap->Prop}{z:Nat}(h1:ij Φ)(h2:Kn.mono (.sat φ)):ij (StP Φ φ off z):=fun _ _ _ ⟨cs,v,a1,a2,a3⟩ hle=>⟨cs,v,h1 _ _ _ a1 hle,h2 _ _ _ a2 hle,a3⟩
def gt(L:Tabs P)(hn:Nat.blt d n=true)(hg:gK ops κ ⟨some d,.call ⟨.builtin .append,#[x,y],#[t,t]⟩,ty,pos,aft,g⟩=some true)
  (hx:evK κ x=some (.slice none 0 0)) (hy:Apd F B O κ y m news) (ht:L.sl t=some e) (he:elI P e=some (s,by_)) (hl:news.length=m*s) (h1:news.all wz=true) (hb:m*by_<=140737488355328) (h63:m<=9223372036854775807):
  StepOK P F B n ops O κ ⟨some d,.call ⟨.builtin .append,#[x,y],#[t,t]⟩,ty,pos,aft,g⟩ d (.own (SlR e s m news)):=by
 rintro κ' a u hlk ⟨H,fp,hh⟩;unfold After;rw[na (xn hh hlk hg)];have en:=hh.env hlk;obtain⟨i,z,hi,hz,hs1,hs2,hs3,hs4⟩:=uo he;have hxe:=en.is_ x _ (by simp [Op.operands,Call.operands]) hx;obtain⟨x',u',C',hr,hown',hgr,hC'⟩:=Fz (C:=noL) (xs:=[]) (nn:=0) (x:=.slice none 0 0) u (aty:=ty) (Tabs.sl_spec ht) hi hz hs1 hs2 hs3 hs4 hh.sub ⟨by simp,.inl ⟨rfl,rfl,fun _ h=>h⟩⟩ (fun k hk=>hk.elim) (hy _ a u H fp (by simp [Op.operands,Call.operands]) en) hl (fun v hv=>pq (zr3.1 h1 v hv)) J (by rw[zrw];exact hb);rw[zrw,mo] at hown'
 have hrun:(execOp a.eval ⟨some d,.call ⟨.builtin .append,#[x,y],#[t,t]⟩,ty,pos,aft,g⟩).run P u=.ok (.value x') u':=by
  simp only[execOp,resolve,invoke,builtin,nw,me,ny,zr9,mt,zr7,hxe,hr]
 rw[hrun];simp only[Upon];have h2:=hh.grow hgr;refine⟨H,_,h2.putR (C:=C') (by simp [Act.put]) Z (fun t ht=>xy ht) (by rw[kg (by rw[hh.size];exact zn hn)];exact hown') (fun k hk=>?_) fun t r' _ ht k hf hk=>?_⟩
 ·obtain⟨h3,h4,h5⟩:=hC' k hk;have h3':u.heap.size<=k:=h3.resolve_left fun h=>h;exact⟨h4,h5,.inl (mq hh.keep.size h3'),fun y hy e=>by have:=xl (hh.boxes y hy).1;omega⟩
 ·have h3':u.heap.size<=k:=(hC' k hk).1.resolve_left fun h=>h;have:=((hh.slot t _ ht).2 k hf).1;omega
end
end Go.V
namespace Go.V
section
variable  [Inhabited α] {enc:α->List Value} 
end
section
end
end Go.V
namespace Go.V
def zq2(w:World)(C:Nat->Prop)(r:Res)(v:Value)(H:Heap)(u:World):Prop:=∃ C':Nat->Prop,r.P v H u C'/\∀ k,C' k->(C k\/w.heap.size<=k)/\k<u.heap.size/\H k=none
def RetT(P:Program)(f:FuncId)(args:List Value)(w:World)(B:Heap)(C:Nat->Prop)(r:Res):Prop:=RetL P f args w B C (zq2 w C r)
def H9{zs:Array Value}{m:Nat}(h:zs.all wz=true):∀ v∈Builtin.zeroCells zs m,wz v=true:=by
 intro v hv;unfold Builtin.zeroCells at hv;obtain⟨i,hi,rfl⟩:=Array.mem_map.1 hv;have hi':i<m*zs.size:=by simpa using hi
 have hpos:0<zs.size:=by
  rcases Nat.eq_zero_or_pos zs.size with e | e
  ·rw[e] at hi';simp at hi'
  ·exact e
 have hlt:=ztt i hpos;rw[getElem!_pos zs _ hlt];exact Array.all_eq_true.1 h _ hlt
section
variable             {a:Act}    
def Ey(L:Tabs P){r r':Res}{fo:Operand}
  (hn:Nat.blt d n=true) (hg:gK ops κ ⟨some d,.call { callee:=.value fo,args:=args,argTypes:=at_ },ty,pos,aft,g⟩=some true)
  (hf:evK (upd κ q (.is undef)) fo=some (.func (.func f) #[] cap.toArray)) (hfn:L.fn f=some ()) (hq:κ q=some (.own r))
  (h:∀ u H C x,zwe H u->B.Le H->r.P x H u C->(ZCB C u H)->Args (upd κ q (.is x)) H args.toList [] (fun vs=>RetT P f (vs++cap) u H C r')):
  StepOK2 P F B n ops O κ ⟨some d,.call { callee:=.value fo,args:=args,argTypes:=at_ },ty,pos,aft,g⟩ q lh d (.own r'):=by
 rintro κ' a u hlk hks ⟨H,fp,hh⟩;unfold After;rw[na (xn hh hlk hg)];have hk':κ' q=some (.own r):=hks.trans hq;obtain⟨hown,hM⟩:=hh.slot q _ hk';have hh2:=hh.name q
 have e2:Env F B O (upd κ q (.is (a.eval (.tmp q)))) ⟨some d,.call { callee:=.value fo,args:=args,argTypes:=at_ },ty,pos,aft,g⟩ a u H fp:=hh2.env (ops:=ops) fun t ht=>by
  by_cases htq:t=q
  ·subst htq;rw[xq,xq]
  ·rw[xk _ _ htq,xk _ _ htq];exact hlk t ht
 have hfe:a.eval fo=.func (.func f) #[] cap.toArray:=by
  refine e2.is_ fo _ (by simp [Op.operands,Call.operands]) ?_
  cases fo with
  | tmp t=>
   simp only[evK] at hf |-;by_cases htq:t=q
   ·subst htq;rw[xq] at hf;cases hf
   ·rw[xk _ _ htq] at hf |-;exact hf
  | _=>exact hf
 have hc:=Args.use e2 args.toList [] (fun x hx=>by simp [Op.operands,Call.operands] at hx |-;exact .inr hx) (h u H (fp q) _ hh.sub hh.base hown fun k hk=>⟨(hM k hk).1,(hM k hk).2.1⟩);simp only[zsz,mo] at hc;rw[fj L rfl hfe hfn];simp only[Upon];refine Calls.mono hc fun e' u' hp=>?_;obtain⟨v,rfl,H',g',C',hv,hC'⟩:=hp;exact⟨v,rfl,H',_,hh.usePut (d:=d) (a':=a.put (some d) v) hk' g' (by simp [Act.put]) Z (fun t ht=>xy ht) (by rw[kg (by rw[hh.size];exact zn hn)];exact hv) hC'⟩
def F2{fn:Func}{t:Nat}{r:Res}(hrs:fn.results=#[.tmp t])(hQ:∀ a u,bodyPostM Fence.wide 0 P fn (dm F.w0 B0 F.L (zq2 F.w0 F.L r)) .ret a u->Q .ret a u)(hs:Since F B0 B)(hk:κ t=some (.own r))(hm:zeu F.ds=true:=by rfl):V P F B n O κ .ret Q:=
 U1 hQ hs (hm:=hm) fun O' a u H fp _ hh=>by
  obtain⟨hown,hM⟩:=hh.slot t _ hk;refine⟨a.eval (.tmp t),?_,fp t,hown,fun k hk=>?_⟩
  ·simp [results,hrs,Act.eval]
  ·obtain⟨h1,h2,h3,_⟩:=hM k hk;exact⟨h3.symm,h1,h2⟩
def o0(t q:Nat){c:Code}(hk:κ t=some (.own (SlR e s m xs)))
  (h0:m=0->xs=[]->V P F B n O (upd κ t (.is (.slice none 0 0))) c Q)
  (h:∀ b cap rest,xs.length=m*s->m<=cap->cap<=maxLen->(xs++rest).length=cap*s->V P F B n O (upd (upd (upd κ t lh) q (.own (xr b (xs++rest) e))) t (.is (.slice (some ⟨b,0,none⟩) m cap))) c Q):V P F B n O κ c Q:=fun a u hh=>by
 obtain⟨H,fp,hh⟩:=hh;obtain⟨⟨hl,hv⟩,hM⟩:=hh.slot t _ hk;rcases hv with ⟨hm,hv,_⟩ | ⟨b,cap,rest,hv,hb,h3,h4,h5,hC⟩
 ·have h3:=hh.name t;rw[hv] at h3;subst hm;exact h0 Z (zrv (by simpa using hl)) a u ⟨H,_,h3⟩
 ·have h2:=hh.usePut (d:=q) (a':=a) (r':=xr b (xs++rest) e) (C:=fp t) hk ⟨Keep.refl _ _,hh.sub,mw _,fun _ _ _=>rfl⟩ rfl rfl (fun _ _=>rfl) ⟨hb,hC⟩ fun k hk=>⟨.inl hk,(hM k hk).1,(hM k hk).2.1⟩
  have h3':=h2.name t;rw[hv] at h3';exact h b cap rest hl h3 h4 h5 a u ⟨H,_,h3'⟩
def uf(t q:Nat){b cap:Nat}{c:Code}(hcs:cs=xs++rest)(hk:κ q=some (.own (xr b cs e)))(ht:κ t=some (.is (.slice (some ⟨b,0,none⟩) m cap)))(hl:xs.length=m*s)(hm:m<=cap)(hc:cap<=maxLen)(hcl:cs.length=cap*s)
  (h:V P F B n O (upd (upd κ q lh) t (.own (SlR e s m xs))) c Q):V P F B n O κ c Q:=fun a u hh=>by
 subst hcs;obtain⟨H,fp,hh⟩:=hh;obtain⟨⟨hb,hC⟩,hM⟩:=hh.slot q _ hk;have hx:a.eval (.tmp t)=.slice (some ⟨b,0,none⟩) m cap:=hh.slot t _ ht;exact h a u ⟨H,_,hh.usePut (d:=t) (a':=a) (r':=SlR e s m xs) (C:=fp q) hk ⟨Keep.refl _ _,hh.sub,mw _,fun _ _ _=>rfl⟩ Z Z (fun _ _=>rfl) ⟨hl,.inr ⟨b,cap,rest,hx,hb,hm,hc,hcl,hC⟩⟩ fun k hk=>⟨.inl hk,(hM k hk).1,(hM k hk).2.1⟩⟩
def ziq{k:IntKind}{q:Int}(hn:Nat.blt d n=true)(hg:gK ops κ ⟨some d,.binOp .shr t x y t',ty,pos,aft,g⟩=some true)(hx:evK κ x=some (.int k p))(hy:evK κ y=some (.int k2 q))(h0:0<=q)(hb:p.fdiv (2^min q.toNat k.bits)=r):
  StepOK P F B n ops O κ ⟨some d,.binOp .shr t x y t',ty,pos,aft,g⟩ d (.is (.int k r)):=uk hn hg hx hy fun u=>by subst hb;simp [eqGuard_shr,binOp_shr,Op.shift,Int.not_lt.2 h0]
def w8(L:Tabs P){b cap:Nat}{lo hi:Option Operand}{kl kh:IntKind}(i j:Nat){pl ph:Int}(hn:Nat.blt d n=true)(hg:gK ops κ ⟨some d,.slice tt x lo hi none,ty,pos,aft,g⟩=some true)
  (hx:evK κ x=some (.slice (some ⟨b,off,none⟩) m cap)) (ht:L.sl tt=some e) (hl:L.ld e=some (ag,s))
  (hlo:match lo with | some y=>evK κ y=some (.int kl pl)/\pl=i | none=>i=0) (hhi:match hi with | some y=>evK κ y=some (.int kh ph)/\ph=j | none=>j=m)
  (hij:i<=j) (hjc:j<=cap):
  StepOK P F B n ops O κ ⟨some d,.slice tt x lo hi none,ty,pos,aft,g⟩ d (.is (.slice (some (if cap=i then ⟨b,off,none⟩ else ⟨b,off+i*s,none⟩)) (j-i) (cap-i))):=
 k9 rfl (zn hn) hg trivial fun a u H fp en=>⟨_,by
  have hu:=Tabs.sl_spec ht;have h1:=en.is_ x _ (by simp [Op.operands]) hx
  have hrun:(Instr.sliceBounds true m cap (lo.map a.eval) (hi.map a.eval) none).run P u=.ok (i,j,cap) u:=by
   cases hi with
   | none=>
    simp only at hhi;subst hhi
    cases lo with
    | none=>simp only at hlo;subst hlo;simp [Instr.sliceBounds]
    | some z=>
     obtain⟨hz,rfl⟩:=hlo;have h3:=en.is_ z _ (by simp [Op.operands]) hz;simp [h3,Instr.sliceBounds,jv i kl _ _ hij]
   | some y=>
    obtain⟨hy,rfl⟩:=hhi;have h2:=en.is_ y _ (by simp [Op.operands]) hy
    cases lo with
    | none=>simp only at hlo;subst hlo;simp [h2,Instr.sliceBounds,jv j kh cap _ hjc]
    | some z=>
     obtain⟨hz,rfl⟩:=hlo;have h3:=en.is_ z _ (by simp [Op.operands]) hz;simp [h2,h3,Instr.sliceBounds,jv j kh cap _ hjc,jv i kl _ _ hij]
  simp only[execOp,h1,Instr.sliceAt,Instr.slice,nw,run_underlying hu,ny,zvj,hrun,jq (Tabs.ld_spec hl),me];congr 3;split<;>simp [Addr.add],rfl⟩
def Ot(L:Tabs P){b cap:Nat}{cs cs':List Value}(hg:gK ops κ ⟨none,.call ⟨.builtin .clear,#[y],#[tt]⟩,ty,pos,aft,g⟩=some true)
  (hy:evK κ y=some (.slice (some ⟨b,off,none⟩) m cap)) (hq:κ q=some (.own (xr b cs t'))) (ht:L.sl tt=some e) (he:elI P e=some (s,by_)) (hz:L.zr e=some z) (hz1:z.cells.toList.all wz=true)
  (hcs:m=0\/off+m*s<=cs.length) (hr:m≠0->cs.take off++((Builtin.zeroCells z.cells m).toList++cs.drop (off+m*s))=cs') (hr0:m=0->cs=cs'):
  o4 P F B n ops O κ ⟨none,.call ⟨.builtin .clear,#[y],#[tt]⟩,ty,pos,aft,g⟩ q (.own (xr b cs' t')):=by
 rintro κ' a u hlk hqk ⟨H,fp,hh⟩;unfold After;rw[na (xn hh hlk hg)];have en:=hh.env hlk;have hye:=en.is_ y _ (by simp [Op.operands,Call.operands]) hy;have hqs:=hqk.trans hq;obtain⟨⟨hb,hC⟩,hM⟩:=hh.slot q _ hqs;by_cases hm:m=0
 ·subst hm;obtain rfl:=hr0 rfl
  have hrun:(execOp a.eval ⟨none,.call ⟨.builtin .clear,#[y],#[tt]⟩,ty,pos,aft,g⟩).run P u=.ok (.value (.tuple #[])) u:=by
   simp [execOp,resolve,invoke,builtin,hye,Builtin.clear_,run_underlying (Tabs.sl_spec ht)]
  rw[hrun];simp only[Upon,Act.put]
  exact⟨H,fp,by
   have:upd κ' q (.own (xr b cs t'))=κ':=by
    funext t;by_cases h:t=q
    ·subst h;rw[xq];exact hqs.symm
    ·rw[xk _ _ h]
   rw[this];exact hh⟩
 ·have hr:=hr hm;subst hr;have hcs':=hcs.resolve_left hm;obtain⟨i,z',hi,hz',hs1,hs2,hs3,hs4⟩:=uo he;have hzz:=Tabs.zr_spec hz
  have hzr:(zeroValue e).run P u=.ok z u:=by
   unfold zrI at hzz;split at hzz
   ·rename_i it hit;simp [zeroValue,typeInfo,hit,hzz]
   ·cases hzz
  have hze:z'=z:=by
   have h1:(zeroValue e).run P u=.ok z' u:=by simp [zeroValue,typeInfo,hi,hz']
   rw[hzr] at h1;cases h1;rfl
  subst hze;have hzl:(Builtin.zeroCells z'.cells m).toList.length=m*s:=by rw[zti,size_zeroCells,hs3]
  have hst:=gm (P:=P) b t' off (Builtin.zeroCells z'.cells m).toList 0 cs.toArray u hb (by rw[hzl];simpa using hcs') (fun v hv=>by
   have h1:v∈Builtin.zeroCells z'.cells m:=by simpa using hv
   exact pq (H9 (by rw[<-Array.all_toList];exact hz1) v h1))
  have hrun:(execOp a.eval ⟨none,.call ⟨.builtin .clear,#[y],#[tt]⟩,ty,pos,aft,g⟩).run P u=.ok (.value (.tuple #[])) (u.setRow b (cs.take off++((Builtin.zeroCells z'.cells m).toList++cs.drop (off+m*s))).toArray):=by
   rw[hzl] at hst
   cases m with
   | zero=>exact ni rfl hm
   | succ m=>
    simp only[execOp,resolve,invoke,builtin,nw,me,ny,zr9,mt,zr7,hye,Builtin.clear_,zt3,zvh,run_underlying (Tabs.sl_spec ht),hzr];rw[hst];simp
  rw[hrun];simp only[Upon,Act.put];have hset:=setRow_heap u b cs.toArray (cs.take off++((Builtin.zeroCells z'.cells m).toList++cs.drop (off+m*s))).toArray t' (0,0) hb;have hbm:=hM b ((hC b).2 rfl)
  have:=hh.usePut (d:=q) (a':=a) (r':=xr b (cs.take off++((Builtin.zeroCells z'.cells m).toList++cs.drop (off+m*s))) t') (C:=fun k=>k=b) hqs (wv hh.sub hb ((hC b).2 rfl) hbm.2.1 _) rfl rfl (fun _ _=>rfl) ⟨hset,fun _=>Iff.rfl⟩ (fun k hk=>by
   subst hk;exact⟨.inl ((hC k).2 rfl),by rw[setRow_size];exact hbm.1,hbm.2.1⟩)
  rw[jt] at this;exact⟨H,_,this⟩
def b9(L:Tabs P)(hn:Nat.blt d n=true)(hg:gK ops κ ⟨some d,.buildSlice t 0 #[],ty,pos,aft,g⟩=some true)(ht:L.sl t=some e)(hl:L.ld e=some (ag,s))(hz:L.zr e=some z):
  StepOK P F B n ops O κ ⟨some d,.buildSlice t 0 #[],ty,pos,aft,g⟩ d (.own (SlR e s 0 [])):=by
 rintro κ' a u hlk ⟨H,fp,hh⟩;unfold After;rw[na (xn hh hlk hg)]
 have hrun:(execOp a.eval ⟨some d,.buildSlice t 0 #[],ty,pos,aft,g⟩).run P u=.ok (.value (.slice (some ⟨u.heap.size,0,none⟩) 0 0)) (u.alloc (.cells #[] e)):=by
  have hzz:=Tabs.zr_spec hz;unfold zrI at hzz;split at hzz
  ·rename_i it hit;have hzr:(zeroValue e).run P u=.ok z u:=by simp [zeroValue,typeInfo,hit,hzz]
   simp only[execOp,nw];have e0:(Array.map (fun x:Nat×Operand=>(x.1,a.eval x.2)) #[])=(#[]:Array (Nat×Value)):=by simp
   rw[e0];have hfill:Instr.fill (fun i=>some (i*s,s)) #[] []=some #[]:=by simp [Instr.fill]
   simp only[Instr.buildSlice,nw,run_underlying (Tabs.sl_spec ht),ny,jq (Tabs.ld_spec hl)];simp only[zuz,if_true,me,ny];have e1:(Array.range 0).map (fun _:Nat=>(default:Value))=#[]:=by simp
   simp [newRow,hfill,e1]
  ·cases hzz
 rw[hrun];simp only[Upon];have hg2:=hh.grow (Grow.hid hh.sub (.cells #[] e));refine⟨H,_,hg2.putR (C:=fun k=>k=u.heap.size) (by simp [Act.put]) Z (fun t ht=>xy ht) ⟨by simp,.inr ⟨u.heap.size,0,[],kg (by rw[hh.size];exact zn hn),xx _ _,nu _,by simp [maxLen],by simp,fun _=>Iff.rfl⟩⟩ (fun k hk=>?_) fun t r' _ ht k hf hk=>?_⟩
 ·subst hk;exact⟨xl (xx u _),jm hh.sub (nu _),.inl hh.keep.size,fun y hy e=>by have:=xl (hh.boxes y hy).1;omega⟩
 ·have:=((hh.slot t _ ht).2 k hf).1;omega
end
end Go.V
namespace Go.V
section
variable             {a:Act}    
end
end Go.V
namespace Go.V
section
def zb7{k:IntKind}{q:Int}(hn:Nat.blt d n=true)(hg:gK ops κ ⟨some d,.binOp .and t x y t',ty,pos,aft,g⟩=some true)(hx:evK κ x=some (.int k p))(hy:evK κ y=some (.int k q))(hb:bits .and k p q=r):
  StepOK P F B n ops O κ ⟨some d,.binOp .and t x y t',ty,pos,aft,g⟩ d (.is (.int k r)):=uk hn hg hx hy fun u=>by subst hb;simp [eqGuard_and,binOp_and,intBits_and]
end
end Go.V
namespace Go.V
section
def zp1{k:IntKind}{q:Int}(hn:Nat.blt d n=true)(hg:gK ops κ ⟨some d,.binOp .or t x y t',ty,pos,aft,g⟩=some true)(hx:evK κ x=some (.int k p))(hy:evK κ y=some (.int k q))(hb:bits .or k p q=r):
  StepOK P F B n ops O κ ⟨some d,.binOp .or t x y t',ty,pos,aft,g⟩ d (.is (.int k r)):=uk hn hg hx hy fun u=>by subst hb;simp [eqGuard_or,binOp_or,intBits_or]
end
def zma(h:m<=255):bits .and .u8 m 127=((m%128:Nat):Int):=by
 have:∀ x:Fin 256,bits .and .u8 (x.val:Int) 127=((x.val%128:Nat):Int):=by decide+kernel
 exact this ⟨m,by omega⟩
def zin{a b:Nat}(ha:a<2^i):a ||| (b*2^i)=a+b*2^i:=by
 rw[Nat.or_comm,<-zvk,<-Nat.shiftLeft_add_eq_or_of_lt ha];omega
end Go.V
namespace Go.V
def okB(c:UInt8):Bool:=(97<=c && c<=122) || (48<=c && c<=57)
def chk(s:ByteArray):Int:=if 1<=s.size/\s.size<=16/\s.data.toList.all okB=true then 0 else 6
def vt(s:ByteArray):chk s=0\/chk s=6:=by unfold chk;split<;>simp
def Ry{s:ByteArray}(h:¬ (1<=s.size/\s.size<=16)):chk s=6:=by
 unfold chk;rw[if_neg];intro h';exact h ⟨h'.1,h'.2.1⟩
def zd7{s:ByteArray}(h1:1<=s.size)(h2:s.size<=16)(h:s.data.toList.all okB=true):chk s=0:=by
 unfold chk;rw[if_pos ⟨h1,h2,h⟩]
def Hw{s:ByteArray}{c:UInt8}(hc:s[k]?=some c)(h:okB c=false):chk s=6:=by
 unfold chk;rw[if_neg];rintro⟨_,_,hall⟩
 have hm:c∈s.data.toList:=by
  have:s.data[k]?=some c:=hc;exact Array.mem_toList_iff.2 (Array.mem_of_getElem? this)
 rw[zr3] at hall;rw[hall c hm] at h;cases h
def getElem?_lt{s:ByteArray}(h:k<s.size):∃ c,s[k]?=some c:=⟨s[k],by rw[getElem?_pos]⟩
def C8{s:ByteArray}{c:UInt8}(hc:s[k]?=some c)(h:okB c=true)(ha:(s.data.toList.take k).all okB=true):(s.data.toList.take (k+1)).all okB=true:=by
 have hd:s.data.toList[k]?=some c:=by
  have:s.data[k]?=some c:=hc;simpa using this
 rw[zr4,hd];simp [List.all_append,ha,h]
def j8(s:ByteArray):s.data.toList.length=s.size:=by rw[zti];rfl
def Uy{s:ByteArray}(h:s.size<=k)(ha:(s.data.toList.take k).all okB=true):s.data.toList.all okB=true:=by
 rwa [m8 (by rw[j8];exact h)] at ha
def zjn(c:UInt8):(c.toNat:Int)<256:=by have:=c.toNat_lt;omega
def znp{c:UInt8}(h1:(c.toNat:Int)<97)(h2:(c.toNat:Int)<48):okB c=false:=by
 simp [okB,zu1];omega
def zno{c:UInt8}(h1:(c.toNat:Int)<97)(h2:57<(c.toNat:Int)):okB c=false:=by
 simp [okB,zu1];omega
def znn{c:UInt8}(h1:122<(c.toNat:Int)):okB c=false:=by
 simp [okB,zu1];omega
def znm{c:UInt8}(h1:¬ (c.toNat:Int)<97)(h2:¬ 122<(c.toNat:Int)):okB c=true:=by
 simp [okB,zu1];omega
def znl{c:UInt8}(h1:¬ (c.toNat:Int)<48)(h2:¬ 57<(c.toNat:Int)):okB c=true:=by
 simp [okB,zu1];omega
def zif(h:vs[j]?=some v):(vs.drop (j*1)).take 1=[v]:=by
 obtain⟨hl,he⟩:=zs2.1 h;rw[zse,zsc hl,he];rfl
def zii{l:List ByteArray}{s:ByteArray}(h:l[j]?=some s):((l.map Value.string).drop (j*1)).take 1=[.string s]:=zif (by simp [h])
end Go.V
namespace Go.V
set_option maxRecDepth 100000
def gp{X:Type}(v:X):List Nat->List (Nat×X)->List (Nat×X)
 | [],r=>r
 | t::l,r=>(t,v)::gp v l r
def gq(k o:Nat):List Nat->List ((Nat×Nat)×Nat)->List ((Nat×Nat)×Nat)
 | [],r=>r
 | t::l,r=>((t,k),o)::gq k o l r
def kr:zwf.follows .mixedOrders=true:=T
def ldL:List (Nat×(Bool×Nat)):=gp (false,1) [1,2,3,4,5,6,9,10,11,12,15,16,17,20,21,22,25,35,36,37,38,39,40,43,45,46,48,49,51,53,54,55,56,58,59,60,61,62,63,67,68,69,70,71,73,74,76,78,79,80,83,84,85,93,94,96,97,98,99,101,102,104,105,107,108,109,110,113,114,115,116,117,120,121,122,123,128,129,131,132,133,134,136,137,138,139,140,141,142,143,144,145,146,148,149,150,152,153,154,155,158,159,160,161,163,164,168,169,172,174,176,177,180,181,182,183,184,185,186,188,189,190,191,192,193,194,197,198,200,201,202,203,207,208,209,210,211,212,213,214,215,222,223,225,226,229,230,232,233,234,235,236,237,238,239,240,242,244,245,247,249,254,257,258,259,261,262,265,266,267,269,270,271,272,273,274,276,277,278,279,280,281,282,283,284,285,286,287,288,289,290,291,294,295,296,298,299,300,301,302,303,304,305,307,309,311,313,314,315,316,317,318,319,320,321,322,323,325,326,327,328,329,330,331,332,333,334,335,336,338,339,340,341,342,343,344,345,346,347,348,349,350,353,354,355,356,357,359,360,364,365,367,368,369,370,371,372,373,374,375,376,377,378,379,381,382,383,384,385,386,387,388,389,390,391,392,393,395,396,397,398,399,400,401,402,403,404,405,406,407,408,409,411,412,413,419,420,421,422,423] (gp (true,2) [13,14,28,29,64,81,82,86,87,88,89,111,112,124,125,156,157,220,221,227,228,251,252,263,264] (gp (true,4) [7,8,90,91,165,166,204,205,255,256,414,415] (gp (true,1) [18,19,23,24,26,27,118,119,178,179,216,217] (gp (true,3) [30,31,32,126,127,135,170,171] (gp (true,6) [33,34,292,293] (gp (true,7) [41,42,361,362] (gp (true,5) [65,66,218,219] (gp (true,0) [195,416,417,418] (gp (true,10) [351,352] (gp (true,11) [424,425] []))))))))))
def slL:List (Nat×Nat):=gp 64 [22] (gp 135 [25] (gp 9 [35] (gp 34 [37] (gp 42 [39] (gp 66 [61] (gp 5 [62] (gp 171 [74] (gp 63 [108] (gp 91 [109] (gp 264 [110] (gp 219 [117] (gp 221 [123] (gp 3 [133] (gp 362 [223] (gp 293 [290] [])))))))))))))))
def stL:List (Nat×Unit):=gp () [9,10,11] []
def foL:List ((Nat×Nat)×Nat):=gq 0 0 [7,8,13,14,18,19,23,24,26,27,28,29,30,31,32,33,34,41,42,65,66,81,82,86,87,88,89,90,91,111,112,118,119,124,125,126,127,156,157,165,166,170,171,178,179,204,205,216,217,218,219,220,221,227,228,251,252,255,256,263,264,292,293,351,352,361,362,414,415,424,425] (gq 1 1 [7,8,13,14,28,29,65,66,81,82,86,87,111,112,124,125,126,127,156,157,165,166,170,171,204,205,218,219,220,221,227,228,251,252,255,256,263,264,414,415,424,425] (gq 2 2 [7,8,65,66,165,166,170,171,204,205,218,219,255,256,414,415,424,425] (gq 3 3 [7,8,165,166,218,219,255,256,414,415,424,425] (gq 1 6 [41,42,351,352,361,362] (gq 1 2 [30,31,32,90,91] (gq 4 4 [218,219,424,425] (gq 1 3 [33,34] (gq 3 4 [65,66] (gq 2 7 [351,352] (gq 3 8 [351,352] (gq 4 9 [351,352] (gq 5 5 [424,425] (gq 6 6 [424,425] (gq 7 7 [424,425] (gq 8 8 [424,425] (gq 9 9 [424,425] (gq 10 10 [424,425] [])))))))))))))))))
def zrL:List (Nat×Value):=gp (.nilFunc) [1,36,38,40,45,46,48,49,51,53,54,55,56,58,59,60,67,68,69,70,73,76,78,79,80,84,93,94,96,97,98,99,101,102,104,105,107,113,114,115,116,121,122,128,129,131,132,134,136,137,138,139,140,141,142,143,144,145,146,148,149,150,152,155,158,159,160,161,163,164,168,169,172,174,176,177,180,181,182,183,184,185,186,188,189,190,191,192,193,194,197,198,200,201,202,207,208,209,210,211,212,213,214,215,222,225,232,233,234,235,236,237,238,239,240,242,244,245,247,249,254,257,258,259,261,262,265,266,267,269,270,271,272,276,277,278,279,280,281,282,283,284,285,286,287,288,289,291,294,295,296,298,299,300,301,302,303,304,305,307,309,311,313,314,315,316,317,319,320,321,322,323,325,326,327,328,329,330,331,332,333,334,335,336,338,339,340,341,342,343,344,345,346,347,348,349,350,353,354,355,356,357,359,360,364,365,367,368,369,370,371,372,374,375,376,377,378,381,382,383,384,385,386,388,389,390,391,392,393,395,396,397,398,399,400,401,403,404,406,407,408,409,411,413,421] (gp (.slice none 0 0) [22,25,35,37,39,61,62,74,108,109,110,117,123,133,223,290] (gp (.pointer none) [15,16,17,71,85,120,153,154,226,273,318,405,412] (gp (.agg #[.slice none 0 0]) [23,24,26,27,118,119,178,179,216,217] (gp (.int .i64 0) [2,3,43,379] (gp (.int .u8 0) [5,6,419,420] (gp (.int .u64 0) [12,63,274,402] (gp (.agg #[.string ⟨#[]⟩,.string ⟨#[]⟩,.string ⟨#[]⟩,.string ⟨#[]⟩,.string ⟨#[]⟩,.string ⟨#[]⟩]) [33,34,292,293] (gp (.agg #[.string ⟨#[]⟩,.string ⟨#[]⟩,.string ⟨#[]⟩,.string ⟨#[]⟩,.string ⟨#[]⟩,.string ⟨#[]⟩,.bool false]) [41,42,361,362] (gp (.agg #[.slice none 0 0,.slice none 0 0]) [81,82,124,125] (gp (.agg #[.nilFunc,.pointer none]) [86,87,88,89] (gp (.agg #[.slice none 0 0,.int .i64 0,.int .i64 0,.int .i64 0]) [165,166,255,256] (gp (.agg #[]) [195,416,417,418] (gp (.string ⟨#[]⟩) [9,10,11] (gp (.nilIface) [20,229,230] (gp (.int .i32 0) [21,422,423] (gp (.agg #[.string ⟨#[]⟩,.string ⟨#[]⟩,.string ⟨#[]⟩]) [30,31,32] (gp (.agg #[.int .i64 0,.int .i64 0,.bool false,.int .u8 0]) [7,8] (gp (.agg #[.string ⟨#[]⟩,.int .u64 0]) [13,14] (gp (.agg #[.pointer none]) [18,19] (gp (.agg #[.string ⟨#[]⟩,.string ⟨#[]⟩]) [28,29] (gp (.agg #[.int .u8 0,.int .u64 0,.int .u8 0,.int .u8 0,.slice none 0 0]) [65,66] (gp (.agg #[.nilFunc,.pointer none,.nilFunc,.pointer none]) [90,91] (gp (.agg #[.slice none 0 0,.int .i64 0]) [111,112] (gp (.agg #[.pointer none,.slice none 0 0,.slice none 0 0]) [126,127] (gp (.agg #[.pointer none,.int .i64 0]) [156,157] (gp (.agg #[.int .u64 0,.int .i64 0,.slice none 0 0]) [170,171] (gp (.agg #[.int .u64 0,.map none,.slice none 0 0,.int .i64 0]) [204,205] (gp (.agg #[.int .u8 0,.slice none 0 0,.slice none 0 0,.int .u8 0,.int .i64 0]) [218,219] (gp (.agg #[.bool false,.slice none 0 0]) [220,221] (gp (.agg #[.pointer none,.slice none 0 0]) [227,228] (gp (.agg #[.int .i64 0,.int .i64 0]) [251,252] (gp (.agg #[.int .u64 0,.int .i64 0]) [263,264] (gp (.agg #[.string ⟨#[]⟩,.string ⟨#[]⟩,.string ⟨#[]⟩,.string ⟨#[]⟩,.string ⟨#[]⟩,.string ⟨#[]⟩,.pointer none,.pointer none,.int .i64 0,.int .i64 0]) [351,352] (gp (.agg #[.pointer none,.pointer none,.pointer none,.string ⟨#[]⟩]) [414,415] (gp (.agg #[.int .u64 0,.int .u64 0,.int .u32 0,.int .u8 0,.int .u8 0,.int .u8 0,.int .u8 0,.nilFunc,.pointer none,.int .i32 0,.int .i32 0]) [424,425] (gp (.bool false) [4] (gp (.agg #[.int .u8 0,.int .u8 0]) [64] (gp (.int .u16 0) [83] (gp (.agg #[.int .u8 0,.int .u8 0,.int .u8 0]) [135] (gp (.map none) [203] (gp (.int .u32 0) [387] [])))))))))))))))))))))))))))))))))))))))))
def fnL:List (Nat×Unit):=gp () [3,4,5,6,7,8,9,10,11,12,13,14,15,16,17,18,19,20,21,22,23,24,25,26,27,28,29,30,31,32,33,34,35,36,37,38,39,40,41,42,43,44,45,46,47,48,49,50,51,52,53,54,55,56,57,58,59,60,61,62,63,64,65,66,67,68,69,70,71,72,73,74,75,76,77,78,79,80,81,82,83,84,85,86,87,88,89,90,91,92,93,94,95,96,97,98,99,100,101,102,103,104,105,106,107,108,109,110,111,112,113,114,115,116,117,118,119,120,121,122,123,124,125,126,127,128,129,130,131,132,133,134,135,136,137,138,139,140,141,142,143,144,145,146,147,148,149,150,151,152,153,154,155,156,157,158,159,160,161,162,163,164,165,166,167,168,169,170,171,172,173,174,175,176,177,178,179,180,181,182,183,184,185,186,187,188,189,190,191,192,193,194,195,196,197,198,199,202,203,204,205,206,207,208,209,210,211,212,213,215,216,217,218,219,220,221,222,223,224,225,226,227,228,229,230,231,232,233,234,235,236,237,238,239,240,241,242,243,244,245,246,247,248,249,250,251,252,253,254,256,257,258,261,262,263,264,265,266,267,268,269,270,271,272,273,274,275,276,277,278,279,280,281,282,283,284,285,287,288,289,290,291,292,293,294,295,296,297,302,304,305,306,307,308,309,310,311,313,314,317,318,319] []
def zn4:ldL.all (fun p=>ldI zwf p.1 == some p.2)=true:=T
def zm5:slL.all (fun p=>slI zwf p.1 == some p.2)=true:=T
def zm3:stL.all (fun p=>stI zwf p.1 == some p.2)=true:=T
def zob:foL.all (fun p=>foI zwf p.1 == some p.2)=true:=T
def zmr:zrL.map (fun p=>zrI zwf p.1)=zrL.map (fun p=>some p.2):=T
def zoc: fnL.all (fun p => match Tryz.prog.funcs[p.1]? with | some fn => fn.body.isSome && fn.name != "runtime.NumGoroutine" | none => false) = true := by kernel_rfl
def L:Tabs zwf:=⟨ldL,slL,stL,foL,zrL,fnL,zn4,zm5,zm3,zob,zmr,zoc⟩
def el5:elI zwf 5=some (1,1):=T
def zg8:elI zwf 34=some (6,96):=T
def zmn:elI zwf 42=some (7,104):=T
def zes:elI zwf 63=some (1,8):=T
def zro:elI zwf 91=some (4,32):=T
def zqe:elI zwf 171=some (3,40):=T
def zlp:elI zwf 221=some (2,32):=T
def Cy:elI zwf 264=some (2,16):=T
def zog:elI zwf 293=some (6,104):=T
def zqd:elI zwf 362=some (7,104):=T
def zo8:PL zwf 29 [(0,1),(1,1)] [.string ⟨#[]⟩,.string ⟨#[]⟩]:=⟨by kernel_rfl,.agg #[.string ⟨#[]⟩,.string ⟨#[]⟩],by kernel_rfl,rfl⟩
def zqv:PL zwf 31 [(0,2),(2,1)] [.string ⟨#[]⟩,.string ⟨#[]⟩,.string ⟨#[]⟩]:=⟨by kernel_rfl,.agg #[.string ⟨#[]⟩,.string ⟨#[]⟩,.string ⟨#[]⟩],by kernel_rfl,rfl⟩
def zra:PL zwf 32 [(0,2),(2,1)] [.string ⟨#[]⟩,.string ⟨#[]⟩,.string ⟨#[]⟩]:=⟨by kernel_rfl,.agg #[.string ⟨#[]⟩,.string ⟨#[]⟩,.string ⟨#[]⟩],by kernel_rfl,rfl⟩
def zqu:PL zwf 34 [(0,3),(3,3)] [.string ⟨#[]⟩,.string ⟨#[]⟩,.string ⟨#[]⟩,.string ⟨#[]⟩,.string ⟨#[]⟩,.string ⟨#[]⟩]:=⟨by kernel_rfl,.agg #[.string ⟨#[]⟩,.string ⟨#[]⟩,.string ⟨#[]⟩,.string ⟨#[]⟩,.string ⟨#[]⟩,.string ⟨#[]⟩],by kernel_rfl,rfl⟩
def zqt:PL zwf 42 [(0,6),(6,1)] [.string ⟨#[]⟩,.string ⟨#[]⟩,.string ⟨#[]⟩,.string ⟨#[]⟩,.string ⟨#[]⟩,.string ⟨#[]⟩,.bool false]:=⟨by kernel_rfl,.agg #[.string ⟨#[]⟩,.string ⟨#[]⟩,.string ⟨#[]⟩,.string ⟨#[]⟩,.string ⟨#[]⟩,.string ⟨#[]⟩,.bool false],by kernel_rfl,rfl⟩
def zqs:PL zwf 64 [(0,1),(1,1)] [.int .u8 0,.int .u8 0]:=⟨by kernel_rfl,.agg #[.int .u8 0,.int .u8 0],by kernel_rfl,rfl⟩
def zq9:PL zwf 87 [(0,1),(1,1)] [.nilFunc,.pointer none]:=⟨by kernel_rfl,.agg #[.nilFunc,.pointer none],by kernel_rfl,rfl⟩
def zq8:PL zwf 89 [(0,2)] [.nilFunc,.pointer none]:=⟨by kernel_rfl,.agg #[.nilFunc,.pointer none],by kernel_rfl,rfl⟩
def zpq:PL zwf 91 [(0,2),(2,2)] [.nilFunc,.pointer none,.nilFunc,.pointer none]:=⟨by kernel_rfl,.agg #[.nilFunc,.pointer none,.nilFunc,.pointer none],by kernel_rfl,rfl⟩
def zpy:PL zwf 112 [(0,1),(1,1)] [.slice none 0 0,.int .i64 0]:=⟨by kernel_rfl,.agg #[.slice none 0 0,.int .i64 0],by kernel_rfl,rfl⟩
def zbh:PL zwf 125 [(0,1),(1,1)] [.slice none 0 0,.slice none 0 0]:=⟨by kernel_rfl,.agg #[.slice none 0 0,.slice none 0 0],by kernel_rfl,rfl⟩
def zpx:PL zwf 127 [(0,1),(1,2)] [.pointer none,.slice none 0 0,.slice none 0 0]:=⟨by kernel_rfl,.agg #[.pointer none,.slice none 0 0,.slice none 0 0],by kernel_rfl,rfl⟩
def zpw:PL zwf 157 [(0,1),(1,1)] [.pointer none,.int .i64 0]:=⟨by kernel_rfl,.agg #[.pointer none,.int .i64 0],by kernel_rfl,rfl⟩
def zpv:PL zwf 171 [(0,1),(1,1),(2,1)] [.int .u64 0,.int .i64 0,.slice none 0 0]:=⟨by kernel_rfl,.agg #[.int .u64 0,.int .i64 0,.slice none 0 0],by kernel_rfl,rfl⟩
def znh:PL zwf 195 [] []:=⟨by kernel_rfl,.agg #[],by kernel_rfl,rfl⟩
def zng:PL zwf 205 [(0,1),(1,1),(2,2)] [.int .u64 0,.map none,.slice none 0 0,.int .i64 0]:=⟨by kernel_rfl,.agg #[.int .u64 0,.map none,.slice none 0 0,.int .i64 0],by kernel_rfl,rfl⟩
def zki:PL zwf 221 [(0,1),(1,1)] [.bool false,.slice none 0 0]:=⟨by kernel_rfl,.agg #[.bool false,.slice none 0 0],by kernel_rfl,rfl⟩
def zpu:PL zwf 252 [(0,1),(1,1)] [.int .i64 0,.int .i64 0]:=⟨by kernel_rfl,.agg #[.int .i64 0,.int .i64 0],by kernel_rfl,rfl⟩
def zpt:PL zwf 256 [(0,1),(1,1),(2,1),(3,1)] [.slice none 0 0,.int .i64 0,.int .i64 0,.int .i64 0]:=⟨by kernel_rfl,.agg #[.slice none 0 0,.int .i64 0,.int .i64 0,.int .i64 0],by kernel_rfl,rfl⟩
def znf:PL zwf 264 [(0,1),(1,1)] [.int .u64 0,.int .i64 0]:=⟨by kernel_rfl,.agg #[.int .u64 0,.int .i64 0],by kernel_rfl,rfl⟩
def zne:PL zwf 293 [(0,6),(6,0)] [.string ⟨#[]⟩,.string ⟨#[]⟩,.string ⟨#[]⟩,.string ⟨#[]⟩,.string ⟨#[]⟩,.string ⟨#[]⟩]:=⟨by kernel_rfl,.agg #[.string ⟨#[]⟩,.string ⟨#[]⟩,.string ⟨#[]⟩,.string ⟨#[]⟩,.string ⟨#[]⟩,.string ⟨#[]⟩],by kernel_rfl,rfl⟩
def zps:PL zwf 352 [(0,6),(6,1),(7,1),(8,1),(9,1)] [.string ⟨#[]⟩,.string ⟨#[]⟩,.string ⟨#[]⟩,.string ⟨#[]⟩,.string ⟨#[]⟩,.string ⟨#[]⟩,.pointer none,.pointer none,.int .i64 0,.int .i64 0]:=⟨by kernel_rfl,.agg #[.string ⟨#[]⟩,.string ⟨#[]⟩,.string ⟨#[]⟩,.string ⟨#[]⟩,.string ⟨#[]⟩,.string ⟨#[]⟩,.pointer none,.pointer none,.int .i64 0,.int .i64 0],by kernel_rfl,rfl⟩
def zpr:PL zwf 362 [(0,6),(6,1)] [.string ⟨#[]⟩,.string ⟨#[]⟩,.string ⟨#[]⟩,.string ⟨#[]⟩,.string ⟨#[]⟩,.string ⟨#[]⟩,.bool false]:=⟨by kernel_rfl,.agg #[.string ⟨#[]⟩,.string ⟨#[]⟩,.string ⟨#[]⟩,.string ⟨#[]⟩,.string ⟨#[]⟩,.string ⟨#[]⟩,.bool false],by kernel_rfl,rfl⟩
def bt4:zwf.underlying 4=some .bool:=T
def zrm:EqT zwf 29 [0,0]:=⟨by kernel_rfl,by kernel_rfl,by kernel_rfl⟩
def zqz:EqT zwf 31 [0,0,0]:=⟨by kernel_rfl,by kernel_rfl,by kernel_rfl⟩
def zqb:EqT zwf 34 [0,0,0,0,0,0]:=⟨by kernel_rfl,by kernel_rfl,by kernel_rfl⟩
def zqx:nkI zwf 39=some 1:=T
def zqw:nkI zwf 62=some 1:=T
def zp3:nkI zwf 71=some 0:=T
def zrb:nkI zwf 84=some 3:=T
def zp2:nkI zwf 85=some 0:=T
def znt:nkI zwf 110=some 1:=T
def zp4:nkI zwf 154=some 0:=T
def zns:nkI zwf 226=some 0:=T
def zqc:EqT zwf 264 [1,1]:=⟨by kernel_rfl,by kernel_rfl,by kernel_rfl⟩
def zk1:nkI zwf 273=some 0:=T
def wo:(zwf.underlying 3).isSome=true/\ikI zwf 63=some .u64:=⟨by kernel_rfl,by kernel_rfl⟩
def vl:(zwf.underlying 3).isSome=true/\ikI zwf 274=some .u64:=⟨by kernel_rfl,by kernel_rfl⟩
def zdw:(zwf.underlying 3).isSome=true/\ikI zwf 402=some .u64:=⟨by kernel_rfl,by kernel_rfl⟩
def zha:(zwf.underlying 5).isSome=true/\ikI zwf 3=some .i64:=⟨by kernel_rfl,by kernel_rfl⟩
def io:(zwf.underlying 5).isSome=true/\ikI zwf 63=some .u64:=⟨by kernel_rfl,by kernel_rfl⟩
def Cl:(zwf.underlying 63).isSome=true/\ikI zwf 5=some .u8:=⟨by kernel_rfl,by kernel_rfl⟩
def zi1:(zwf.underlying 83).isSome=true/\ikI zwf 3=some .i64:=⟨by kernel_rfl,by kernel_rfl⟩
def vm:(zwf.underlying 274).isSome=true/\ikI zwf 3=some .i64:=⟨by kernel_rfl,by kernel_rfl⟩
def zq0:arI zwf 64=some (2,5):=T
def zqj:arI zwf 135=some (3,5):=T
end Go.V
section
open Go.V
attribute [local irreducible] Has N Par Ret RetL Src StepOK V VO X
namespace Go.V
structure _root_.Wr(B:Prop):Prop where
 h:B
def _root_.Za(t:Wr Y->A:=by intro h;refine z7 (z8 Z Z Z) Z ?_;exact h.1)(h:Y):A:=t ⟨h⟩
def _root_.Zv(t:Wr Y->A:=by intro h;refine z7 (zi Z Z Z) Z ?_;exact h.1)(h:Y):A:=t ⟨h⟩
def _root_.Zi(t:Wr Y->A:=by intro h;refine zj ?_;exact h.1)(h:Y):A:=t ⟨h⟩
def _root_.Zdj(t:Wr Y->A:=by intro h;refine zm ?_;exact h.1)(h:Y):A:=t ⟨h⟩
def _root_.Zah(t:Wr Y->A:=by intro h;refine zk ?_;exact h.1)(h:Y):A:=t ⟨h⟩
def _root_.ZfD(t:Wr Y->A:=by intro h;refine z7 (zw Z (zn Z) Z) Z ?_;exact h.1)(h:Y):A:=t ⟨h⟩
def _root_.ZS(t:Wr Y->A:=by intro h;refine z7 (qv Z Z Z Z (nf J)) Z ?_;exact h.1)(h:Y):A:=t ⟨h⟩
def _root_.Zf(t:Wr Y->A:=by intro h;refine z7 (qn Z Z Z Z) Z ?_;exact h.1)(h:Y):A:=t ⟨h⟩
def _root_.Zdp(t:Wr Y->A:=by intro h;refine zz Z ?_;exact h.1)(h:Y):A:=t ⟨h⟩
def _root_.Zd7(t:Wr Y->A:=by intro h;refine zh (id:=0) ?_;exact h.1)(h:Y):A:=t ⟨h⟩
def _root_.ZI(t:Wr Y->A:=by intro h;refine zh (id:=1) ?_;exact h.1)(h:Y):A:=t ⟨h⟩
def _root_.Zeg(t:Wr Y->A:=by intro h;refine qm Z ?_;exact h.1)(h:Y):A:=t ⟨h⟩
def _root_.Zab(t:Wr Y->A:=by intro h;refine z7 (qv Z Z Z Z (ng J)) Z ?_;exact h.1)(h:Y):A:=t ⟨h⟩
def _root_.ZbR(t:Wr Y->A:=by intro h;refine qh ?_;exact h.1)(h:Y):A:=t ⟨h⟩
def _root_.ZcZ(t:Wr Y->A:=by intro h;refine z7 (yd Z Z Z Z (xb J J)) Z ?_;exact h.1)(h:Y):A:=t ⟨h⟩
def _root_.ZL(t:Wr Y->A:=by intro h;refine zh (id:=2) ?_;exact h.1)(h:Y):A:=t ⟨h⟩
def _root_.Z2(t:Wr Y->A:=by intro h;refine zh (id:=3) ?_;exact h.1)(h:Y):A:=t ⟨h⟩
def _root_.ZE(t:Wr Y->A:=by intro h;refine zh (id:=4) ?_;exact h.1)(h:Y):A:=t ⟨h⟩
def _root_.Za7(t:Wr Y->A:=by intro h;refine qq ?_;exact h.1)(h:Y):A:=t ⟨h⟩
def _root_.ZG(t:Wr Y->A:=by intro h;refine z7 (yw Z Z Z Z (ng J)) Z ?_;exact h.1)(h:Y):A:=t ⟨h⟩
def _root_.ZF(t:Wr Y->A:=by intro h;refine zh (id:=5) ?_;exact h.1)(h:Y):A:=t ⟨h⟩
def _root_.ZN(t:Wr Y->A:=by intro h;refine z7 (yw Z Z Z Z (nf J)) Z ?_;exact h.1)(h:Y):A:=t ⟨h⟩
def _root_.Z5(t:Wr Y->A:=by intro h;refine zh (id:=6) ?_;exact h.1)(h:Y):A:=t ⟨h⟩
def _root_.Z7(t:Wr Y->A:=by intro h;refine zh (id:=7) ?_;exact h.1)(h:Y):A:=t ⟨h⟩
def _root_.Ze1(t:Wr Y->A:=by intro h;refine yg ?_;exact h.1)(h:Y):A:=t ⟨h⟩
def _root_.ZaC(t:Wr Y->A:=by intro h;refine yi ?_;exact h.1)(h:Y):A:=t ⟨h⟩
def _root_.Z0(t:Wr Y->A:=by intro h;refine zh (id:=8) ?_;exact h.1)(h:Y):A:=t ⟨h⟩
def _root_.ZP(t:Wr Y->A:=by intro h;refine z7 (zkv L Z Z Z Z) Z ?_;exact h.1)(h:Y):A:=t ⟨h⟩
def _root_.ZM(t:Wr Y->A:=by intro h;refine zh (id:=9) ?_;exact h.1)(h:Y):A:=t ⟨h⟩
def _root_.Za8(t:Wr Y->A:=by intro h;refine z7 (Oq L Z Z Z M) Z ?_;exact h.1)(h:Y):A:=t ⟨h⟩
def _root_.ZeC(t:Wr Y->A:=by intro h;refine yy ?_;exact h.1)(h:Y):A:=t ⟨h⟩
def _root_.ZfW(t:Wr Y->A:=by intro h;refine yx ?_;exact h.1)(h:Y):A:=t ⟨h⟩
def _root_.ZB(t:Wr Y->A:=by exact fun h=>(Zah∘Zdj) h.1)(h:Y):A:=t ⟨h⟩
def _root_.Zc(t:Wr Y->A:=by exact fun h=>(Zv∘ZB) h.1)(h:Y):A:=t ⟨h⟩
def _root_.Zd(t:Wr Y->A:=by exact fun h=>(Zi∘Zi) h.1)(h:Y):A:=t ⟨h⟩
def _root_.Zb(t:Wr Y->A:=by exact fun h=>(Za∘Za) h.1)(h:Y):A:=t ⟨h⟩
def _root_.Zcy(t:Wr Y->A:=by exact fun h=>(ZbR∘Zdj) h.1)(h:Y):A:=t ⟨h⟩
def _root_.Ze(t:Wr Y->A:=by exact fun h=>(Zc∘Zi) h.1)(h:Y):A:=t ⟨h⟩
def _root_.Zao(t:Wr Y->A:=by exact fun h=>(ZB∘Zdp) h.1)(h:Y):A:=t ⟨h⟩
def _root_.ZT(t:Wr Y->A:=by exact fun h=>(Zi∘Zd7) h.1)(h:Y):A:=t ⟨h⟩
def _root_.Z1(t:Wr Y->A:=by exact fun h=>(ZB∘Zeg) h.1)(h:Y):A:=t ⟨h⟩
def _root_.Zbt(t:Wr Y->A:=by exact fun h=>(Zcy∘Zi) h.1)(h:Y):A:=t ⟨h⟩
def _root_.Zh(t:Wr Y->A:=by exact fun h=>(Zc∘Zd) h.1)(h:Y):A:=t ⟨h⟩
def _root_.Zk(t:Wr Y->A:=by exact fun h=>(ZB∘Zi) h.1)(h:Y):A:=t ⟨h⟩
def _root_.ZZ(t:Wr Y->A:=by exact fun h=>(Za7∘Zi) h.1)(h:Y):A:=t ⟨h⟩
def _root_.Zr(t:Wr Y->A:=by exact fun h=>(Z1∘Zi) h.1)(h:Y):A:=t ⟨h⟩
def _root_.Zaw(t:Wr Y->A:=by exact fun h=>(ZfD∘ZfD) h.1)(h:Y):A:=t ⟨h⟩
def _root_.Za0(t:Wr Y->A:=by exact fun h=>(ZaC∘Zdj) h.1)(h:Y):A:=t ⟨h⟩
def _root_.Zag(t:Wr Y->A:=by exact fun h=>(Zh∘ZI) h.1)(h:Y):A:=t ⟨h⟩
def _root_.ZdH(t:Wr Y->A:=by exact fun h=>(Ze1∘ZfW) h.1)(h:Y):A:=t ⟨h⟩
def _root_.Zeh(t:Wr Y->A:=by exact fun h=>(Zbt∘ZZ) h.1)(h:Y):A:=t ⟨h⟩
def _root_.ZeD(t:Wr Y->A:=by exact fun h=>(ZeC∘Ze1) h.1)(h:Y):A:=t ⟨h⟩
def _root_.ZaZ(t:Wr Y->A:=by exact fun h=>(ZeD∘ZdH) h.1)(h:Y):A:=t ⟨h⟩
def _root_.Zz(t:Wr Y->A:=by exact fun h=>(Z2∘Za) h.1)(h:Y):A:=t ⟨h⟩
def _root_.Zdy(t:Wr Y->A:=by exact fun h=>(Zao∘Zcy) h.1)(h:Y):A:=t ⟨h⟩
def _root_.ZdU(t:Wr Y->A:=by exact fun h=>(ZaZ∘Zdj) h.1)(h:Y):A:=t ⟨h⟩
def _root_.ZC(t:Wr Y->A:=by exact fun h=>(ZF∘Za) h.1)(h:Y):A:=t ⟨h⟩
def _root_.ZK(t:Wr Y->A:=by exact fun h=>(Zdy∘Zd) h.1)(h:Y):A:=t ⟨h⟩
def _root_.Zu(t:Wr Y->A:=by exact fun h=>(Zb∘Za) h.1)(h:Y):A:=t ⟨h⟩
def _root_.ZcF(t:Wr Y->A:=by exact fun h=>(Za∘Zaw) h.1)(h:Y):A:=t ⟨h⟩
def _root_.ZfM(t:Wr Y->A:=by exact fun h=>(Zk∘Zeg) h.1)(h:Y):A:=t ⟨h⟩
def _root_.ZfX(t:Wr Y->A:=by exact fun h=>(ZS∘ZfM) h.1)(h:Y):A:=t ⟨h⟩
def _root_.ZA(t:Wr Y->A:=by exact fun h=>(ZfX∘Zeh) h.1)(h:Y):A:=t ⟨h⟩
def _root_.Zbu(t:Wr Y->A:=by exact fun h=>(Zao∘ZbR) h.1)(h:Y):A:=t ⟨h⟩
def _root_.Zdz(t:Wr Y->A:=by exact fun h=>(ZdU∘Zi) h.1)(h:Y):A:=t ⟨h⟩
def _root_.ZcG(t:Wr Y->A:=by exact fun h=>(ZfD∘Zf) h.1)(h:Y):A:=t ⟨h⟩
def _root_.Zax(t:Wr Y->A:=by exact fun h=>(Zag∘Za) h.1)(h:Y):A:=t ⟨h⟩
def _root_.ZcH(t:Wr Y->A:=by exact fun h=>(Za∘Zah) h.1)(h:Y):A:=t ⟨h⟩
def _root_.Za1(t:Wr Y->A:=by exact fun h=>(Zbu∘Za0) h.1)(h:Y):A:=t ⟨h⟩
def _root_.Zdq(t:Wr Y->A:=by exact fun h=>(ZB∘Za7) h.1)(h:Y):A:=t ⟨h⟩
def _root_.Za9(t:Wr Y->A:=by exact fun h=>(ZcF∘Zaw) h.1)(h:Y):A:=t ⟨h⟩
def _root_.ZaM(t:Wr Y->A:=by exact fun h=>(Zr∘ZL) h.1)(h:Y):A:=t ⟨h⟩
def _root_.ZfN(t:Wr Y->A:=by exact fun h=>(Zk∘Zdp) h.1)(h:Y):A:=t ⟨h⟩
def _root_.Zfd(t:Wr Y->A:=by exact fun h=>(Zab∘ZfN) h.1)(h:Y):A:=t ⟨h⟩
def _root_.Zbh(t:Wr Y->A:=by exact fun h=>(Zfd∘Zdz) h.1)(h:Y):A:=t ⟨h⟩
def _root_.Zb3(t:Wr Y->A:=by exact fun h=>(Za∘Zdq) h.1)(h:Y):A:=t ⟨h⟩
def _root_.ZbD(t:Wr Y->A:=by exact fun h=>(ZT∘Zax) h.1)(h:Y):A:=t ⟨h⟩
def _root_.ZbE(t:Wr Y->A:=by exact fun h=>(ZcZ∘ZcH) h.1)(h:Y):A:=t ⟨h⟩
def _root_.ZbF(t:Wr Y->A:=by exact fun h=>(ZcF∘ZcG) h.1)(h:Y):A:=t ⟨h⟩
def _root_.ZbS(t:Wr Y->A:=by exact fun h=>(Zi∘ZE) h.1)(h:Y):A:=t ⟨h⟩
def check_ret(s:ByteArray)(hs:s.size<=9223372036854775807)(hB:zwe B w):
  Ret zwf 205 [.string s] w B (fun v _=>v=.int .i64 (chk s)):=by
 refine yl Tryz.func205 Z Tryz.ntmps205 (np Z) hB ?_;by_cases h1:1<=s.size
 ·by_cases h2:s.size<=16
  ·refine(ZbD∘ZP∘Zab∘Zb∘ZP∘ZG∘Zf∘ZK∘Zz∘ZP∘Zb3) ?_
   refine xu (fun k:Nat=>[(0,.is (.string s)),(13,.is (.int .i64 s.size)),(14,.is (.int .i64 k))])
    (fun k=>k<=s.size/\(s.data.toList.take k).all okB=true) (fun k=>s.size-k) 0 ⟨mb _,by simp⟩ ⟨rfl,rfl,rfl,nm⟩ ?_
   rintro k ⟨hk,hall⟩;by_cases hlt:k<s.size
   ·obtain⟨c,hc⟩:=getElem?_lt hlt;have hu:=zjn c;by_cases a1:(c.toNat:Int)<97
    ·by_cases a2:(c.toNat:Int)<48
     ·refine(ZbS∘ZA∘ZC∘Ze∘Z5∘Zb∘Za8∘ZS∘Za9∘Zf∘Zu∘Za8∘ZS∘Za9∘Zf∘Zf∘Zr∘Z7∘Zc) ?_;refine yk1 L [.tmp 2] fun u H hH hle=>?_;exact nh _ (Hw hc (znp a1 a2)).symm
     ·by_cases a3:57<(c.toNat:Int)
      ·refine(ZbS∘ZA∘ZC∘Ze∘Z5∘Zb∘Za8∘ZS∘Za9∘Zf∘Zu∘Za8∘Zab∘Zu∘Za8∘ZN∘Zf∘Zf∘Zr∘Z7∘Zc) ?_;refine yk1 L [.tmp 2] fun u H hH hle=>?_;exact nh _ (Hw hc (zno a1 a3)).symm
      ·refine(ZbS∘ZA∘ZC∘Ze∘Z5∘Zb∘Za8∘ZS∘Za9∘Zf∘Zu∘Za8∘Zab∘Zu∘Za8∘ZG∘Zf∘Zf∘Za1∘Z0∘ZbE) ?_;refine yr (k+1) ⟨hlt,C8 hc (znl a2 a3) hall⟩ J ⟨Z,Z,Z,nm⟩
    ·by_cases a4:122<(c.toNat:Int)
     ·have a5:57<(c.toNat:Int):=J;refine(ZbS∘ZA∘ZC∘Ze∘Z5∘Zb∘Za8∘Zab∘Zu∘Za8∘ZN∘Zf∘Zu∘Za8∘Zab∘Zu∘Za8∘ZN∘Zf∘Zf∘Zr∘Z7∘Zc) ?_;refine yk1 L [.tmp 2] fun u H hH hle=>?_;exact nh _ (Hw hc (znn a4)).symm
     ·refine(ZbS∘ZA∘ZC∘Ze∘Z5∘Zb∘Za8∘Zab∘Zu∘Za8∘ZG∘Zf∘Za9∘Zaw∘Zaw∘Zaw∘Zf∘Za1∘Z0∘ZbE) ?_;refine yr (k+1) ⟨hlt,C8 hc (znm a1 a4) hall⟩ J ⟨Z,Z,Z,nm⟩
   ·refine(ZbS∘Zbh∘ZM∘Zc) ?_;refine yk1 L [.tmp 2] fun u H hH hle=>?_;exact nh _ (zd7 h1 h2 (Uy J hall)).symm
  ·refine(ZbD∘ZP∘Zab∘Zb∘ZP∘ZN∘Zf∘ZaM∘Zc) ?_;refine yk1 L [.tmp 2] fun u H hH hle=>?_;exact nh _ (Ry J).symm
 ·refine(ZbD∘ZP∘ZS∘ZbF∘ZaM∘Zc) ?_;refine yk1 L [.tmp 2] fun u H hH hle=>?_;exact nh _ (Ry J).symm
def _root_.Zg(t:Wr Y->A:=by intro h;refine z7 (zo Z Z Z) Z ?_;exact h.1)(h:Y):A:=t ⟨h⟩
def _root_.ZbT(t:Wr Y->A:=by intro h;refine z7 (yf L Z Z Z Z) Z ?_;exact h.1)(h:Y):A:=t ⟨h⟩
def _root_.ZaO(t:Wr Y->A:=by intro h;refine z7 (y9 L _ Z Z Z Z (by first | omega | decide) M) Z ?_;exact h.1)(h:Y):A:=t ⟨h⟩
def _root_.Zar(t:Wr Y->A:=by intro h;refine z7 (yt Z Z Z Z (ng J)) Z ?_;exact h.1)(h:Y):A:=t ⟨h⟩
def _root_.ZcT(t:Wr Y->A:=by intro h;refine z7 (yt Z Z Z Z (nf J)) Z ?_;exact h.1)(h:Y):A:=t ⟨h⟩
def _root_.Zap(t:Wr Y->A:=by intro h;refine z7 (Oo L Z Z Z Z Z) Z ?_;exact h.1)(h:Y):A:=t ⟨h⟩
def _root_.Zfe(t:Wr Y->A:=by intro h;refine z71 L Z (fun u H hH _=>check_ret _ (by first | omega | decide) hH) ?_;exact h.1)(h:Y):A:=t ⟨h⟩
def _root_.Zj(t:Wr Y->A:=by exact fun h=>(Zg∘ZbT) h.1)(h:Y):A:=t ⟨h⟩
def _root_.Zt(t:Wr Y->A:=by exact fun h=>(ZE∘Za) h.1)(h:Y):A:=t ⟨h⟩
def _root_.ZD(t:Wr Y->A:=by exact fun h=>(Z5∘Za) h.1)(h:Y):A:=t ⟨h⟩
def _root_.Zac(t:Wr Y->A:=by exact fun h=>(ZcT∘Zr) h.1)(h:Y):A:=t ⟨h⟩
def _root_.ZbU(t:Wr Y->A:=by exact fun h=>(Zag∘Zj) h.1)(h:Y):A:=t ⟨h⟩
def _root_.ZbV(t:Wr Y->A:=by exact fun h=>(Ze∘ZC) h.1)(h:Y):A:=t ⟨h⟩
def f5:List ByteArray->Int
 | []=>0
 | s::l=>if chk s=0 then f5 l else chk s
def Pz:∀ (l:List ByteArray) (s:ByteArray),f5 l=0->f5 (l++[s])=chk s
 | [],s,_=>by simp only[mo,f5];split<;>simp_all
 | x::l,s,h=>by
  simp only[zsa,f5] at h |-;by_cases hx:chk x=0
  ·rw[na hx] at h |-;exact Pz l s h
  ·rw[nc hx] at h;exact ni h hx
def Uz:∀ (l:List ByteArray) (k:Nat) (s:ByteArray),f5 (l.take k)=0->l[k]?=some s->chk s≠0->f5 l=chk s
 | [],k,s,_,h,_=>by simp at h
 | x::l,0,s,_,h,hc=>by simp at h;subst h;simp [f5,hc]
 | x::l,k+1,s,ha,h,hc=>by
  simp only[ztu,f5] at ha;simp only[ztf] at h;by_cases hx:chk x=0
  ·rw[na hx] at ha;simp only[f5,na hx];exact Uz l k s ha h hc
  ·rw[nc hx] at ha;exact ni ha hx
def zei(l:List ByteArray)(hl:∀ s∈l,s.size<=9223372036854775807)(hlen:l.length<=1000){v:Value}(hB:zwe B w)(hv:SlV e 1 (l.map Value.string) l.length fu v B):
  Ret zwf 236 [v] w B (fun v _=>v=.int .i64 (f5 l)):=by
 refine yl Tryz.func236 Z Tryz.ntmps236 (np Z) hB (ku 0 (SlV e 1 (l.map Value.string) l.length fu) Z ns hv ((ZT∘ZbU∘Zb3) ?_))
 refine xu (fun k:Nat=>[(6,.sat (SlV e 1 (l.map Value.string) l.length fu)),(7,.is (.int .i64 l.length)),(8,.is (.int .i64 k))])
  (fun k=>k<=l.length/\f5 (l.take k)=0) (fun k=>l.length-k) 0 ⟨mb _,by simp [f5]⟩ ⟨rfl,rfl,rfl,nm⟩ ?_
 rintro k ⟨hk,hall⟩;by_cases hlt:k<l.length
 ·have hs:l[k]?=some l[k]:=zrz hlt;generalize l[k]=s at hs;have hsz:s.size<=9223372036854775807:=hl s (mz hs);have hc:=zii hs;by_cases h0:chk s=0
  ·refine(Zi∘ZL∘ZA∘Z2∘ZaO∘Zap∘Ze∘Zt∘Zfe∘ZbV∘Zar∘Za1∘Z7∘ZbE) ?_;refine yr (k+1) ⟨hlt,?_⟩ J ⟨Z,Z,Z,nm⟩;rw[zr4,hs];show f5 (l.take k++[s])=0;rw[Pz _ _ hall,h0]
  ·refine(Zi∘ZL∘ZA∘Z2∘ZaO∘Zap∘Ze∘Zt∘Zfe∘ZbV∘Zac∘ZD∘Zc) ?_;refine yk1 L [.tmp 2] fun u H hH hle=>?_;exact nh _ (Uz l k s hall hs h0).symm
 ·refine(Zi∘ZL∘Zbh∘Z0∘Zc) ?_;refine yk1 L [.tmp 2] fun u H hH hle=>?_;have:l.take k=l:=m8 J;exact nh _ (this ▸ hall).symm
end Go.V
end
namespace Go.Proofs
open Go.Shelf
def Tryz.ren:Go.Shelf.Ren:=⟨fun | 104=>130 | 106=>238 | 125=>224 | 128=>278 | 129=>279 | 137=>258 | 138=>262 | 143=>202 | 144=>132 | 145=>131 | 195=>302 | 207=>259 | 211=>200 | 213=>286 | 217=>298 | 218=>303 | 219=>260 | 220=>201 | 224=>300 | 225=>299 | 265=>312 | 266=>315 | 267=>301 | 314=>316 | n=>n,fun | 24=>241 | 46=>274 | 51=>387 | 53=>63 | 59=>243 | 146=>410 | n=>n,fun | 1=>0 | n=>n⟩
def Tryz.s1_3(w:World)(h:w.ShapedOpen zwf):∃ m,w.cell? ⟨Tryz.ren.g 1,0,none⟩=some (.int .i64 m):=Go.Proofs.cell_of_shapedOpen_int (zero:=#[.int .i64 0]) (t:=3) h (of_decide_eq_true (by kernel_rfl)) (by kernel_rfl) rfl (by kernel_rfl) (by kernel_rfl) Tryz.underlying3
def Tryz.lays213:Go.Proofs.Lays.n213 zwf Tryz.ren:=by constructor<;>intros<;>kernel_rfl
def Tryz.bytealg_CompareString(a b:ByteArray)(w:World):
  Calls zwf 286 #[.string a,.string b] w fun e w'=>e=.returned (.int .i64 (Lib.compareBytes a.data.toList b.data.toList))/\w'=w:=Any.bytealg_CompareString Tryz.lays213 a b w
def Tryz.lays106:Go.Proofs.Lays.n106 zwf Tryz.ren:=by constructor<;>intros<;>kernel_rfl
def Tryz.strings_Compare(a b:ByteArray)(w:World):
  Calls zwf 238 #[.string a,.string b] w fun e w'=>e=.returned (.int .i64 (Lib.compareBytes a.data.toList b.data.toList))/\w'=w:=Any.strings_Compare Tryz.lays106 a b w
def Tryz.lays137:Go.Proofs.Lays.n137 zwf Tryz.ren:=by constructor<;>intros<;>kernel_rfl
def Tryz.strings_IndexByte(s:ByteArray)(c:Int)(w:World):
  Calls zwf 258 #[.string s,.int .u8 c] w fun e w'=>e=.returned (.int .i64 (Lib.indexByte s.data.toList c.toNat.toUInt8))/\w'=w:=Any.strings_IndexByte Tryz.lays137 s c w
def Tryz.lays211:Go.Proofs.Lays.n211 zwf Tryz.ren:=by constructor<;>intros<;>kernel_rfl
def Tryz.stringslite_CutSuffix(s p:ByteArray)(w:World)(hs:s.size<=9223372036854775807):
  Calls zwf 200 #[.string s,.string p] w fun e w'=>e=.returned (.tuple #[.string ⟨(Lib.trimSuffix s.data.toList p.data.toList).toArray⟩,.bool (Lib.hasSuffix s.data.toList p.data.toList)])/\w'=w:=Any.stringslite_CutSuffix Tryz.lays211 s p w hs
def Tryz.lays104:Go.Proofs.Lays.n104 zwf Tryz.ren:=by constructor<;>intros<;>kernel_rfl
def Tryz.strings_CutSuffix(s p:ByteArray)(w:World)(hs:s.size<=9223372036854775807):
  Calls zwf 130 #[.string s,.string p] w fun e w'=>e=.returned (.tuple #[.string ⟨(Lib.trimSuffix s.data.toList p.data.toList).toArray⟩,.bool (Lib.hasSuffix s.data.toList p.data.toList)])/\w'=w:=Any.strings_CutSuffix Tryz.lays104 s p w hs
def Tryz.lays195:Go.Proofs.Lays.n195 zwf Tryz.ren:=by constructor<;>intros<;>kernel_rfl
def Tryz.utf8_RuneCountInString(s:ByteArray)(w:World)(hs:s.size<9223372036854775807):
  Calls zwf 302 #[.string s] w fun e w'=>e=.returned (.int .i64 (Lib.runeCount s))/\∃ pos,w'=w.iter s pos:=Any.utf8_RuneCountInString Tryz.lays195 s w hs
def Tryz.lays129:Go.Proofs.Lays.n129 zwf Tryz.ren:=by constructor<;>intros<;>kernel_rfl
def Tryz.bits_Len64(x:Int)(w:World)(h0:0<=x)(h1:x<=18446744073709551615):
  Calls zwf 279 #[.int .u64 x] w fun e w'=>e=.returned (.int .i64 (Lib.bitLen x.toNat))/\w'=w:=Any.bits_Len64 Tryz.lays129 x w h0 h1
def Tryz.lays217:Go.Proofs.Lays.n217 zwf Tryz.ren:=by constructor<;>intros<;>kernel_rfl
open Go.RowKit Go.Lib in
def Tryz.stringslite_IndexByte(s:ByteArray)(c:Int)(w:World):
  Calls zwf 298 #[.string s,.int .u8 c] w fun e w'=>e=.returned (.int .i64 (Lib.indexByte s.data.toList c.toNat.toUInt8))/\w'=w:=Any.stringslite_IndexByte Tryz.lays217 s c w
def Tryz.lays224:Go.Proofs.Lays.n224 zwf Tryz.ren:=by constructor<;>intros<;>kernel_rfl
open Go.RowKit Go.Lib in
def Tryz.bytealg_Cutover(n:Int)(h0:0<=n)(h1:n<4611686018427387904)(w:World):
  Calls zwf 300 #[.int .i64 n] w fun e w'=>e=.returned (.int .i64 ((n+16)/8))/\w'=w:=Any.bytealg_Cutover Tryz.lays224 n h0 h1 w
def Tryz.lays314:Go.Proofs.Lays.n314 zwf Tryz.ren:=by constructor<;>intros<;>kernel_rfl
open Go.RowKit Go.Lib in
def Tryz.bytealg_hashStr(sep:ByteArray)(hs:sep.size<4294967281)(w:World):
  Calls zwf 316 #[.string sep] w fun e w'=>e=.returned (.tuple #[.int .u32 (RK.H sep.data.toList%4294967296),.int .u32 (16777619^sep.size%4294967296)])/\w'=w:=Any.bytealg_hashStr Tryz.lays314 sep hs w
def Tryz.lays267:Go.Proofs.Lays.n267 zwf Tryz.ren:=by constructor<;>intros<;>kernel_rfl
open Go.RowKit Go.Lib in
def Tryz.bytealg_IndexRabinKarp(s sep:ByteArray)(h1:1<=sep.size)(h2:sep.size<=s.size)(hs:s.size<4294967281)(w:World):
  Calls zwf 301 #[.string s,.string sep] w fun e w'=>e=.returned (.int .i64 (Lib.index s.data.toList sep.data.toList))/\w'=w:=Any.bytealg_IndexRabinKarp Tryz.lays267 s sep h1 h2 hs w
def Tryz.lays219:Go.Proofs.Lays.n219 zwf Tryz.ren:=by constructor<;>intros<;>kernel_rfl
open Go.RowKit Go.Lib in
def Tryz.stringslite_Index_one(s:ByteArray)(c:UInt8)(w:World):
  Calls zwf 260 #[.string s,.string ⟨#[c]⟩] w fun e w'=>e=.returned (.int .i64 (Lib.indexByte s.data.toList c))/\w'=w:=Any.stringslite_Index_one Tryz.lays219 s c w
open Go.RowKit Go.Lib in
def Tryz.stringslite_Index(s sub:ByteArray)(m:Int)(w:World)(hs:s.size<4294967281)(hm:w.cell? ⟨0,0,none⟩=some (.int .i64 m)):
  Calls zwf 260 #[.string s,.string sub] w fun e w'=>e=.returned (.int .i64 (Lib.index s.data.toList sub.data.toList))/\w'=w:=Any.stringslite_Index Tryz.lays219 s sub m w hs hm
def Tryz.lays143:Go.Proofs.Lays.n143 zwf Tryz.ren:=by constructor<;>intros<;>kernel_rfl
open Go.RowKit Go.Lib in
def Tryz.strings_Index_one(s:ByteArray)(c:UInt8)(w:World):
  Calls zwf 202 #[.string s,.string ⟨#[c]⟩] w fun e w'=>e=.returned (.int .i64 (Lib.indexByte s.data.toList c))/\w'=w:=Any.strings_Index_one Tryz.lays143 s c w
open Go.RowKit Go.Lib in
def Tryz.strings_Index(s sub:ByteArray)(m:Int)(w:World)(hs:s.size<4294967281)(hm:w.cell? ⟨0,0,none⟩=some (.int .i64 m)):
  Calls zwf 202 #[.string s,.string sub] w fun e w'=>e=.returned (.int .i64 (Lib.index s.data.toList sub.data.toList))/\w'=w:=Any.strings_Index Tryz.lays143 s sub m w hs hm
def Tryz.lays144:Go.Proofs.Lays.n144 zwf Tryz.ren:=by constructor<;>intros<;>kernel_rfl
open Go.RowKit Go.Lib in
def Tryz.strings_Contains_one(s:ByteArray)(c:UInt8)(w:World):
  Calls zwf 132 #[.string s,.string ⟨#[c]⟩] w fun e w'=>e=.returned (.bool (decide (0<=Lib.indexByte s.data.toList c)))/\w'=w:=Any.strings_Contains_one Tryz.lays144 s c w
open Go.RowKit Go.Lib in
def Tryz.strings_Contains(s sub:ByteArray)(m:Int)(w:World)(hs:s.size<4294967281)(hm:w.cell? ⟨0,0,none⟩=some (.int .i64 m)):
  Calls zwf 132 #[.string s,.string sub] w fun e w'=>e=.returned (.bool (Lib.contains s.data.toList sub.data.toList))/\w'=w:=Any.strings_Contains Tryz.lays144 s sub m w hs hm
def Tryz.lays220:Go.Proofs.Lays.n220 zwf Tryz.ren:=by constructor<;>intros<;>kernel_rfl
open Go.RowKit Go.Lib in
def Tryz.stringslite_Cut(s sep:ByteArray)(m:Int)(w:World)(hs:s.size<4294967281)(hm:w.cell? ⟨0,0,none⟩=some (.int .i64 m)):
  Calls zwf 201 #[.string s,.string sep] w fun e w'=>e=.returned (.tuple #[.string ⟨(Lib.cut s.data.toList sep.data.toList).1.toArray⟩,.string ⟨(Lib.cut s.data.toList sep.data.toList).2.1.toArray⟩,.bool (Lib.cut s.data.toList sep.data.toList).2.2])/\∃ n,w'=w.drewN n:=Any.stringslite_Cut Tryz.lays220 s sep m w hs hm
def Tryz.lays145:Go.Proofs.Lays.n145 zwf Tryz.ren:=by constructor<;>intros<;>kernel_rfl
open Go.RowKit Go.Lib in
def Tryz.strings_Cut(s sep:ByteArray)(m:Int)(w:World)(hs:s.size<4294967281)(hm:w.cell? ⟨0,0,none⟩=some (.int .i64 m)):
  Calls zwf 131 #[.string s,.string sep] w fun e w'=>e=.returned (.tuple #[.string ⟨(Lib.cut s.data.toList sep.data.toList).1.toArray⟩,.string ⟨(Lib.cut s.data.toList sep.data.toList).2.1.toArray⟩,.bool (Lib.cut s.data.toList sep.data.toList).2.2])/\∃ n,w'=w.drewN n:=Any.strings_Cut Tryz.lays145 s sep m w hs hm
def Tryz.lays138:Go.Proofs.Lays.n138 zwf Tryz.ren:=by constructor<;>intros<;>kernel_rfl
open Go.RowKit Go.Lib in
def Tryz.strings_Count_one(s:ByteArray)(c:UInt8)(w:World):
  Calls zwf 262 #[.string s,.string ⟨#[c]⟩] w fun e w'=>e=.returned (.int .i64 (Lib.countByte s.data.toList c))/\w'=w:=Any.strings_Count_one Tryz.lays138 s c w
open Go.RowKit Go.Lib in
def Tryz.strings_Count(s sub:ByteArray)(m:Int)(w:World)(hs:s.size<4294967281)(hm:w.cell? ⟨0,0,none⟩=some (.int .i64 m))(h2:2<=sub.size):
  Calls zwf 262 #[.string s,.string sub] w fun e w'=>e=.returned (.int .i64 (Lib.countB s sub))/\w'=w:=Any.strings_Count Tryz.lays138 s sub m w hs hm h2
def Tryz.laysM219:Go.Proofs.LaysM.n219 zwf Tryz.ren:=by constructor<;>first | exact Tryz.lays219 | exact Tryz.s1_3 | (intros;kernel_rfl)
open Go.RowKit Go.Lib in
def Tryz.stringslite_Index_shaped(s sub:ByteArray)(w:World)(h:w.ShapedOpen zwf)(hs:s.size<4294967281):
  Calls zwf 260 #[.string s,.string sub] w fun e w'=>e=.returned (.int .i64 (Lib.index s.data.toList sub.data.toList))/\w'=w:=Any.stringslite_Index_shaped Tryz.laysM219 s sub w h hs
def Tryz.laysM143:Go.Proofs.LaysM.n143 zwf Tryz.ren:=by constructor<;>first | exact Tryz.lays143 | exact Tryz.s1_3 | (intros;kernel_rfl)
open Go.RowKit Go.Lib in
def Tryz.strings_Index_shaped(s sub:ByteArray)(w:World)(h:w.ShapedOpen zwf)(hs:s.size<4294967281):
  Calls zwf 202 #[.string s,.string sub] w fun e w'=>e=.returned (.int .i64 (Lib.index s.data.toList sub.data.toList))/\w'=w:=Any.strings_Index_shaped Tryz.laysM143 s sub w h hs
def Tryz.laysM144:Go.Proofs.LaysM.n144 zwf Tryz.ren:=by constructor<;>first | exact Tryz.lays144 | exact Tryz.s1_3 | (intros;kernel_rfl)
open Go.RowKit Go.Lib in
def Tryz.strings_Contains_shaped(s sub:ByteArray)(w:World)(h:w.ShapedOpen zwf)(hs:s.size<4294967281):
  Calls zwf 132 #[.string s,.string sub] w fun e w'=>e=.returned (.bool (Lib.contains s.data.toList sub.data.toList))/\w'=w:=Any.strings_Contains_shaped Tryz.laysM144 s sub w h hs
def Tryz.laysM220:Go.Proofs.LaysM.n220 zwf Tryz.ren:=by constructor<;>first | exact Tryz.lays220 | exact Tryz.s1_3 | (intros;kernel_rfl)
open Go.RowKit Go.Lib in
def Tryz.stringslite_Cut_shaped(s sep:ByteArray)(w:World)(h:w.ShapedOpen zwf)(hs:s.size<4294967281):
  Calls zwf 201 #[.string s,.string sep] w fun e w'=>e=.returned (.tuple #[.string ⟨(Lib.cut s.data.toList sep.data.toList).1.toArray⟩,.string ⟨(Lib.cut s.data.toList sep.data.toList).2.1.toArray⟩,.bool (Lib.cut s.data.toList sep.data.toList).2.2])/\∃ n,w'=w.drewN n:=Any.stringslite_Cut_shaped Tryz.laysM220 s sep w h hs
def Tryz.laysM145:Go.Proofs.LaysM.n145 zwf Tryz.ren:=by constructor<;>first | exact Tryz.lays145 | exact Tryz.s1_3 | (intros;kernel_rfl)
open Go.RowKit Go.Lib in
def Tryz.strings_Cut_shaped(s sep:ByteArray)(w:World)(h:w.ShapedOpen zwf)(hs:s.size<4294967281):
  Calls zwf 131 #[.string s,.string sep] w fun e w'=>e=.returned (.tuple #[.string ⟨(Lib.cut s.data.toList sep.data.toList).1.toArray⟩,.string ⟨(Lib.cut s.data.toList sep.data.toList).2.1.toArray⟩,.bool (Lib.cut s.data.toList sep.data.toList).2.2])/\∃ n,w'=w.drewN n:=Any.strings_Cut_shaped Tryz.laysM145 s sep w h hs
def Tryz.laysM138:Go.Proofs.LaysM.n138 zwf Tryz.ren:=by constructor<;>first | exact Tryz.lays138 | exact Tryz.s1_3 | (intros;kernel_rfl)
open Go.RowKit Go.Lib in
def Tryz.strings_Count_shaped(s sub:ByteArray)(w:World)(h:w.ShapedOpen zwf)(hs:s.size<4294967281)(h2:2<=sub.size):
  Calls zwf 262 #[.string s,.string sub] w fun e w'=>e=.returned (.int .i64 (Lib.countB s sub))/\w'=w:=Any.strings_Count_shaped Tryz.laysM138 s sub w h hs h2
def Tryz.lays207:Go.Proofs.Lays.n207 zwf Tryz.ren:=by constructor<;>intros<;>kernel_rfl
open Go.RowKit Go.Lib in
def Tryz.stringslite_HasSuffix(s p:ByteArray)(w:World)(hs:s.size<=9223372036854775807):
  Calls zwf 259 #[.string s,.string p] w fun e w'=>e=.returned (.bool (Lib.hasSuffix s.data.toList p.data.toList))/\w'=w:=Any.stringslite_HasSuffix Tryz.lays207 s p w hs
open Go.RowKit Go.Lib in
def Tryz.strings_Count_any(s sep:ByteArray)(m:Int)(w:World)(hs:s.size<4294967281)(hm:w.cell? ⟨0,0,none⟩=some (.int .i64 m))(h1:1<=sep.size):
  Calls zwf 262 #[.string s,.string sep] w fun e w'=>e=.returned (.int .i64 (Lib.countB s sep))/\w'=w:=Any.strings_Count_any Tryz.lays138 s sep m w hs hm h1
open Go.RowKit Go.Lib in
def Tryz.utf8_RuneCountInString_ascii(s:ByteArray)(w:World)(hs:s.size<4294967281)(hascii:∀ (j:Nat) b,s.data.toList[j]?=some b->b.toNat<128):
  Calls zwf 302 #[.string s] w fun e w'=>e=.returned (.int .i64 s.size)/\w'=w.iter s s.size:=Any.utf8_RuneCountInString_ascii Tryz.lays195 s w hs hascii
end Go.Proofs
section
open Go.V
attribute [local irreducible] Has N Par Ret RetL Src StepOK V VO X
namespace Go.V
def _root_.ZaK(t:Wr Y->A:=by intro h;refine z7 (qo L Z Z Z Z) Z ?_;exact h.1)(h:Y):A:=t ⟨h⟩
def _root_.Zd0(t:Wr Y->A:=by intro h;refine z7 (yu Z Z Z Z) Z ?_;exact h.1)(h:Y):A:=t ⟨h⟩
def _root_.Zc7(t:Wr Y->A:=by intro h;refine z7 (ql L (qz Z) Z Z Z Z) Z ?_;exact h.1)(h:Y):A:=t ⟨h⟩
def _root_.ZaS(t:Wr Y->A:=by intro h;refine z9 (zi Z Z Z) Z ?_;exact h.1)(h:Y):A:=t ⟨h⟩
def _root_.ZfO(t:Wr Y->A:=by intro h;refine y7 ?_;exact h.1)(h:Y):A:=t ⟨h⟩
def _root_.Zbn(t:Wr Y->A:=by intro h;refine z7 (qg L (vs:=[_,_]) (qz Z) Z Z Z Z ⟨_,rfl⟩) Z ?_;exact h.1)(h:Y):A:=t ⟨h⟩
def _root_.ZJ(t:Wr Y->A:=by intro h;refine z7 (yp L Z Z Z Z Z Z) Z ?_;exact h.1)(h:Y):A:=t ⟨h⟩
def _root_.ZaA(t:Wr Y->A:=by intro h;refine z9 (qo L Z Z Z Z) Z ?_;exact h.1)(h:Y):A:=t ⟨h⟩
def _root_.ZdV(t:Wr Y->A:=by intro h;refine z9 (ql L (qz Z) Z Z Z Z) Z ?_;exact h.1)(h:Y):A:=t ⟨h⟩
def _root_.Zc8(t:Wr Y->A:=by intro h;refine z7 (qg L (vs:=[_,_,_]) (qz Z) Z Z Z Z ⟨_,rfl⟩) Z ?_;exact h.1)(h:Y):A:=t ⟨h⟩
def _root_.Zde(t:Wr Y->A:=by intro h;refine z9 (qg L (vs:=[_,_]) (qz Z) Z Z Z Z ⟨_,rfl⟩) Z ?_;exact h.1)(h:Y):A:=t ⟨h⟩
def _root_.Zcl(t:Wr Y->A:=by intro h;refine qp (id:=1) [] kr T ?_;exact h.1)(h:Y):A:=t ⟨h⟩
def _root_.Ze2(t:Wr Y->A:=by intro h;refine z7 (Li Z Z Z Z (ng M)) Z ?_;exact h.1)(h:Y):A:=t ⟨h⟩
def _root_.Zei(t:Wr Y->A:=by intro h;refine z9 (Q9 Z Z Z Z M Z) Z ?_;exact h.1)(h:Y):A:=t ⟨h⟩
def _root_.ZdN(t:Wr Y->A:=by intro h;refine z9 (yp L Z Z Z Z Z Z) Z ?_;exact h.1)(h:Y):A:=t ⟨h⟩
def _root_.ZaW(t:Wr Y->A:=by exact fun h=>(ZfO∘Zdj) h.1)(h:Y):A:=t ⟨h⟩
def _root_.Zs(t:Wr Y->A:=by exact fun h=>(Zao∘Zbt) h.1)(h:Y):A:=t ⟨h⟩
def _root_.Zad(t:Wr Y->A:=by exact fun h=>(Ze∘ZI) h.1)(h:Y):A:=t ⟨h⟩
def _root_.Zq(t:Wr Y->A:=by exact fun h=>(ZT∘Zd0) h.1)(h:Y):A:=t ⟨h⟩
def _root_.Zw(t:Wr Y->A:=by exact fun h=>(ZT∘Zad) h.1)(h:Y):A:=t ⟨h⟩
def _root_.Zy(t:Wr Y->A:=by exact fun h=>(ZaS∘ZaW) h.1)(h:Y):A:=t ⟨h⟩
def _root_.Z3(t:Wr Y->A:=by exact fun h=>(ZaK∘Zc7) h.1)(h:Y):A:=t ⟨h⟩
def _root_.Za5(t:Wr Y->A:=by exact fun h=>(Z0∘Za) h.1)(h:Y):A:=t ⟨h⟩
def _root_.ZaD(t:Wr Y->A:=by exact fun h=>(Zq∘Zd0) h.1)(h:Y):A:=t ⟨h⟩
def _root_.Zbi(t:Wr Y->A:=by exact fun h=>(ZaA∘ZdV) h.1)(h:Y):A:=t ⟨h⟩
def _root_.ZbG(t:Wr Y->A:=by exact fun h=>(ZF∘Zb) h.1)(h:Y):A:=t ⟨h⟩
def _root_.Zc9(t:Wr Y->A:=by exact fun h=>(ZaK∘Zbn) h.1)(h:Y):A:=t ⟨h⟩
def _root_.ZcA(t:Wr Y->A:=by exact fun h=>(Zi∘Z2) h.1)(h:Y):A:=t ⟨h⟩
def zh1(ha:a.size<=9223372036854775807)(hb:b.size<=9223372036854775807)(hB:zwe B w){t:Nat}{v:Value}(hv:SlB [.string a,.string b] t 2 v B):
  Ret zwf 236 [v] w B (fun v _=>v=.int .i64 (f5 [a,b])):=by
 exact zei [a,b] (by intro s hs;simp at hs;rcases hs with rfl | rfl<;>assumption) (by simp) hB (hv.toV rfl)
def zh0(ha:a.size<=9223372036854775807)(hb:b.size<=9223372036854775807)(hc:c.size<=9223372036854775807)(hB:zwe B w){t:Nat}{v:Value}(hv:SlB [.string a,.string b,.string c] t 3 v B):
  Ret zwf 236 [v] w B (fun v _=>v=.int .i64 (f5 [a,b,c])):=by
 exact zei [a,b,c] (by intro s hs;simp at hs;rcases hs with rfl | rfl | rfl<;>assumption) (by simp) hB (hv.toV rfl)
def d7(ha:a.size<=9223372036854775807)(hb:b.size<=9223372036854775807)(hB:zwe B w):
  Ret zwf 204 [.agg #[.string a,.string b]] w B (fun v _=>v=.int .i64 (f5 [a,b])):=by
 refine yl Tryz.func204 Z Tryz.ntmps204 (np Z) hB ((Zq∘Zad∘Z3∘Z3∘ZJ) ?_);refine z7 (qd L Z Z (zn Z) Z Z Z (fun u H hH _ _ v hv=>zh1 K K hH hv)) Z (Zc (h:=?_));exact yk2 L [.tmp 2]
def goal_ret(ha:a.size<=9223372036854775807)(hb:b.size<=9223372036854775807)(hc:c.size<=9223372036854775807)(hB:zwe B w):
  Ret zwf 166 [.agg #[.string a,.string b,.string c]] w B (fun v _=>v=.int .i64 (f5 [a,b,c])):=by
 refine yl Tryz.func166 Z Tryz.ntmps166 (np Z) hB ((Zq∘Zad∘ZaK∘Z3∘ZaK∘Z3∘Z3∘ZJ) ?_);refine z7 (qd L Z Z (zn Z) Z Z Z (fun u H hH _ _ v hv=>zh0 K K K hH hv)) Z (Zc (h:=?_));exact yk2 L [.tmp 2]
def r6(a b c:ByteArray):Int:=if c=⟨#[]⟩ then f5 [a,b] else f5 [a,b,c]
def Qp(ha:a.size<=9223372036854775807)(hb:b.size<=9223372036854775807)(hc:c.size<=9223372036854775807)(hB:zwe B w):
  Ret zwf 167 [.agg #[.string a,.string b,.string c]] w B (fun v _=>v=.int .i64 (r6 a b c)):=by
 refine yl Tryz.func167 Z Tryz.ntmps167 (np Z) hB ?_;by_cases h:c=⟨#[]⟩
 ·refine(Zq∘Zag∘Z3) ?_;refine z7 (Li Z Z Z Z (nf M)) Z ((ZaM∘Zc9) ?_);refine z71 L Z (fun u H hH _=>d7 K K hH) ?_;refine Zc (h:=?_);refine yk1 L [.tmp 2] fun u H hH hle=>?_;exact nh (Value.int .i64) (show f5 [a,b]=r6 a b c from(na h).symm)
 ·refine(Zq∘Zag∘Z3∘Ze2∘Zs∘Z2∘Zc8) ?_;refine z71 L Z (fun u H hH _=>goal_ret K K K hH) ?_;refine Zc (h:=?_);refine yk1 L [.tmp 2] fun u H hH hle=>?_;exact nh (Value.int .i64) (show f5 [a,b,c]=r6 a b c from(nc h).symm)
abbrev sCol:ByteArray:=⟨#[58]⟩
abbrev sHash:ByteArray:=⟨#[35]⟩
def zis(a b:ByteArray):ByteArray:=a++sCol++b
def Pk(a b c:ByteArray):ByteArray:=zis a b++sHash++c
def Kl(a b c:ByteArray):ByteArray:=if c=⟨#[]⟩ then zis a b else Pk a b c
def Ea:sCol.size=1:=rfl
def Bb:sHash.size=1:=rfl
def ol(a b:ByteArray):(zis a b).size=a.size+b.size+1:=by
 unfold zis;rw[ByteArray.size_append,ByteArray.size_append,Ea];omega
def Bt(a b c:ByteArray):(Pk a b c).size=a.size+b.size+c.size+2:=by
 unfold Pk;rw[ByteArray.size_append,ByteArray.size_append,ol,Bb];omega
def text_ret(ha:a.size<=1099511627776)(hb:b.size<=1099511627776)(hB:zwe B w):
  Ret zwf 256 [.agg #[.string a,.string b]] w B (fun v _=>v=.string (zis a b)):=by
 have hz:a.size+sCol.size<=9223372036854775807:=by rw[Ea];omega
 have hz2:(a++sCol).size+b.size<=9223372036854775807:=by rw[zr2,Ea];omega
 refine yl Tryz.func256 Z Tryz.ntmps256 (np Z) hB ((Zq∘Zad∘Z3) ?_);refine z7 (Q9 Z Z Z Z M Z) Z (Z3 (h:=?_));refine z7 (Q9 Z Z Z Z M Z) Z (Zc (h:=?_));exact yk2 L [.tmp 2]
def Ch(ha:a.size<=1099511627776)(hb:b.size<=1099511627776)(hc:c.size<=1099511627776)(hB:zwe B w):
  Ret zwf 196 [.agg #[.string a,.string b,.string c]] w B (fun v _=>v=.string (Pk a b c)):=by
 have hz:(zis a b).size+sHash.size<=9223372036854775807:=by rw[Bb,ol];omega
 have hz2:(zis a b++sHash).size+c.size<=9223372036854775807:=by rw[zr2,Bb,ol];omega
 refine yl Tryz.func196 Z Tryz.ntmps196 (np Z) hB ((Zq∘Ze∘Zcl∘ZaA∘Zde) ?_);refine z91 L Z (fun u H hH _=>text_ret K K hH) ?_;refine(Zei∘Zbi∘Zei∘Zy) ?_;exact yk2 L [.tmp 2]
def No(ha:a.size<=1099511627776)(hb:b.size<=1099511627776)(hc:c.size<=1099511627776)(hB:zwe B w):
  Ret zwf 197 [.agg #[.string a,.string b,.string c]] w B (fun v _=>v=.string (Kl a b c)):=by
 refine yl Tryz.func197 Z Tryz.ntmps197 (np Z) hB ?_;by_cases h:c=⟨#[]⟩
 ·refine(Zq∘Zag∘Z3) ?_;refine z7 (Li Z Z Z Z (nf M)) Z ((ZaM∘Zc9) ?_);refine z71 L Z (fun u H hH _=>text_ret K K hH) ?_;refine Zc (h:=?_);refine yk1 L [.tmp 2] fun u H hH hle=>?_;exact nh Value.string (show zis a b=Kl a b c from(na h).symm)
 ·refine(Zq∘Zag∘Z3∘Ze2∘Zs∘Z2∘Zc8) ?_;refine z71 L Z (fun u H hH _=>Ch K K K hH) ?_;refine Zc (h:=?_);refine yk1 L [.tmp 2] fun u H hH hle=>?_;exact nh Value.string (show Pk a b c=Kl a b c from(nc h).symm)
def M3(a b:ByteArray):Int:=Lib.compareBytes a.data.toList b.data.toList
def Ku(hB:zwe B w):Ret zwf 238 [.string a,.string b] w B (fun v _=>v=.int .i64 (M3 a b)):=Ret.of_same hB (Tryz.strings_Compare a b w)
def orL:List Int->Int
 | []=>0
 | x::l=>if x=0 then orL l else x
def zbj:∀ (l:List Int) (k:Nat) (s:Int),(∀ x∈l.take k,x=0)->l[k]?=some s->s≠0->orL l=s
 | [],k,s,_,h,_=>by simp at h
 | x::l,0,s,_,h,hc=>by simp at h;subst h;simp [orL,hc]
 | x::l,k+1,s,ha,h,hc=>by
  simp only[ztu] at ha;simp only[ztf] at h;have hx:=ha x (mc ..);simp only[orL,na hx];exact zbj l k s (fun y hy=>ha y (mf _ hy)) h hc
def Tl:∀ (l:List Int),(∀ x∈l,x=0)->orL l=0
 | [],_=>rfl
 | x::l,h=>by simp only[orL,na (h x (mc ..))];exact Tl l fun y hy=>h y (mf _ hy)
def znj(l:List Int)(hlen:l.length<=1000){v:Value}(hB:zwe B w)(hv:SlV e 1 (l.map (Value.int .i64)) l.length fu v B):
  Ret zwf 168 [v] w B (fun v _=>v=.int .i64 (orL l)):=by
 refine yl Tryz.func168 Z Tryz.ntmps168 (np Z) hB (ku 0 (SlV e 1 (l.map (Value.int .i64)) l.length fu) Z ns hv ((Zw∘Zh∘ZL∘Zj∘Zb3) ?_))
 refine xu (fun k:Nat=>[(3,.is (.int .i64 0)),(6,.sat (SlV e 1 (l.map (Value.int .i64)) l.length fu)),(7,.is (.int .i64 l.length)),(8,.is (.int .i64 k))])
  (fun k=>k<=l.length/\∀ x∈l.take k,x=0) (fun k=>l.length-k) 0 ⟨mb _,by simp⟩ ⟨rfl,rfl,rfl,rfl,nm⟩ ?_
 rintro k ⟨hk,hall⟩;by_cases hlt:k<l.length
 ·have hs:l[k]?=some l[k]:=zrz hlt;generalize l[k]=s at hs;have hc:((l.map (Value.int .i64)).drop (k*1)).take 1=[.int .i64 s]:=zif (by simp [hs]);by_cases h0:s=0
  ·refine(ZcA∘ZA∘ZE∘ZaO∘Zap∘Ze∘ZbG∘Zar∘Za1∘Z7∘ZbE) ?_;refine yr (k+1) ⟨hlt,?_⟩ J ⟨Z,Z,Z,Z,nm⟩;rw[zr4,hs];intro x hx;rcases mj.1 hx with hx | hx
   ·exact hall x hx
   ·simp at hx;rw[hx,h0]
  ·refine(ZcA∘ZA∘ZE∘ZaO∘Zap∘Ze∘ZbG∘Zac∘ZD∘Zc) ?_;refine yk1 L [.tmp 2] fun u H hH hle=>?_;exact nh _ (zbj l k s hall hs h0).symm
 ·refine(ZcA∘Zbh∘Za5∘Zc) ?_;refine yk1 L [.tmp 2] fun u H hH hle=>?_;have:l.take k=l:=m8 J;exact nh _ (Tl l (this ▸ hall)).symm
def Lc{x y:Int}(hB:zwe B w){t:Nat}{v:Value}(hv:SlB [.int .i64 x,.int .i64 y] t 2 v B):
  Ret zwf 168 [v] w B (fun v _=>v=.int .i64 (orL [x,y])):=by
 exact znj [x,y] (by simp) hB (hv.toV Z)
def zhd(a b c d:ByteArray):Int:=orL [M3 a c,M3 b d]
def zi6(a b r c d s:ByteArray):Int:=orL [zhd a b c d,M3 r s]
def zhc{d:ByteArray}(hB:zwe B w):
  Ret zwf 237 [.agg #[.string a,.string b],.agg #[.string c,.string d]] w B (fun v _=>v=.int .i64 (zhd a b c d)):=by
 refine yl Tryz.func237 Z Tryz.ntmps237 (np Z) hB ((ZaD∘Ze∘Zcl∘Zbi∘Zbi) ?_);refine z91 L Z (fun u H hH _=>Ku hH) ?_;refine(Zbi∘Zbi) ?_;refine z91 L Z (fun u H hH _=>Ku hH) ?_;refine ZdN (h:=?_);refine z9 (qd L Z Z (zn Z) Z Z Z (fun u H hH _ _ v hv=>Lc hH hv)) Z (Zy (h:=?_));exact yk2 L [.tmp 4]
def Mp{r d s:ByteArray}(hB:zwe B w):
  Ret zwf 169 [.agg #[.string a,.string b,.string r],.agg #[.string c,.string d,.string s]] w B (fun v _=>v=.int .i64 (zi6 a b r c d s)):=by
 refine yl Tryz.func169 Z Tryz.ntmps169 (np Z) hB ((ZaD∘Ze∘Zcl∘ZaA∘Zde∘ZaA∘Zde) ?_);refine z91 L Z (fun u H hH _=>zhc hH) ?_;refine(Zbi∘Zbi) ?_;refine z91 L Z (fun u H hH _=>Ku hH) ?_;refine ZdN (h:=?_);refine z9 (qd L Z Z (zn Z) Z Z Z (fun u H hH _ _ v hv=>Lc hH hv)) Z (Zy (h:=?_));exact yk2 L [.tmp 4]
def cmpU_ret{r d s:ByteArray}(hB:zwe B w):
  Ret zwf 170 [.agg #[.string a,.string b,.string r],.agg #[.string c,.string d,.string s]] w B (fun v _=>v=.int .i64 (zi6 a b r c d s)):=by
 refine yl Tryz.func170 Z Tryz.ntmps170 (np Z) hB ((ZaD∘Zad∘Zc8∘Zc8) ?_);refine z71 L Z (fun u H hH _=>Mp hH) ?_;refine Zc (h:=?_);exact yk2 L [.tmp 4]
def _root_.Zl(t:Wr Y->A:=by intro h;refine z9 (z8 Z Z Z) Z ?_;exact h.1)(h:Y):A:=t ⟨h⟩
def _root_.ZaH(t:Wr Y->A:=by intro h;refine zh (id:=10) ?_;exact h.1)(h:Y):A:=t ⟨h⟩
def _root_.Zay(t:Wr Y->A:=by intro h;refine zh (id:=11) ?_;exact h.1)(h:Y):A:=t ⟨h⟩
def _root_.ZQ(t:Wr Y->A:=by intro h;refine zh (id:=12) ?_;exact h.1)(h:Y):A:=t ⟨h⟩
def _root_.Zb7(t:Wr Y->A:=by intro h;refine qp (id:=6) [] kr T ?_;exact h.1)(h:Y):A:=t ⟨h⟩
def _root_.Zdf(t:Wr Y->A:=by intro h;refine z9 (qv Z Z Z Z (nf J)) Z ?_;exact h.1)(h:Y):A:=t ⟨h⟩
def _root_.Zd8(t:Wr Y->A:=by intro h;refine z9 (qv Z Z Z Z (ng J)) Z ?_;exact h.1)(h:Y):A:=t ⟨h⟩
def _root_.Zd9(t:Wr Y->A:=by intro h;refine z9 (yw Z Z Z Z (nf J)) Z ?_;exact h.1)(h:Y):A:=t ⟨h⟩
def _root_.ZdI(t:Wr Y->A:=by intro h;refine z9 (yw Z Z Z Z (ng J)) Z ?_;exact h.1)(h:Y):A:=t ⟨h⟩
def _root_.ZdA(t:Wr Y->A:=by intro h;refine z9 (Oq L Z Z Z M) Z ?_;exact h.1)(h:Y):A:=t ⟨h⟩
def _root_.Zdr(t:Wr Y->A:=by intro h;refine qp (id:=4) [] kr T ?_;exact h.1)(h:Y):A:=t ⟨h⟩
def _root_.Zff(t:Wr Y->A:=by intro h;refine z7 (Lo Z Z Z Z zrm M Z) Z ?_;exact h.1)(h:Y):A:=t ⟨h⟩
def _root_.Zm(t:Wr Y->A:=by exact fun h=>(Zl∘Zl) h.1)(h:Y):A:=t ⟨h⟩
def _root_.ZaT(t:Wr Y->A:=by exact fun h=>(Zv∘Zah) h.1)(h:Y):A:=t ⟨h⟩
def _root_.Zbv(t:Wr Y->A:=by exact fun h=>(ZaW∘Zdp) h.1)(h:Y):A:=t ⟨h⟩
def _root_.Zaa(t:Wr Y->A:=by exact fun h=>(ZcZ∘ZaT) h.1)(h:Y):A:=t ⟨h⟩
def _root_.Zae(t:Wr Y->A:=by exact fun h=>(Zc∘Za7) h.1)(h:Y):A:=t ⟨h⟩
def _root_.ZcI(t:Wr Y->A:=by exact fun h=>(ZaW∘Zeg) h.1)(h:Y):A:=t ⟨h⟩
def _root_.ZaE(t:Wr Y->A:=by exact fun h=>(ZL∘Zb) h.1)(h:Y):A:=t ⟨h⟩
def _root_.Zbw(t:Wr Y->A:=by exact fun h=>(Zbt∘Za7) h.1)(h:Y):A:=t ⟨h⟩
def _root_.Zb4(t:Wr Y->A:=by exact fun h=>(Zf∘Z1) h.1)(h:Y):A:=t ⟨h⟩
def _root_.ZbH(t:Wr Y->A:=by exact fun h=>(ZdU∘Zd) h.1)(h:Y):A:=t ⟨h⟩
def _root_.ZbW(t:Wr Y->A:=by exact fun h=>(Zi∘Z7) h.1)(h:Y):A:=t ⟨h⟩
def _root_.Zcz(t:Wr Y->A:=by exact fun h=>(ZaH∘Za) h.1)(h:Y):A:=t ⟨h⟩
def zhn:∀ (a b:List UInt8),Lib.compareBytes a b= -1\/Lib.compareBytes a b=0\/Lib.compareBytes a b=1
 | [],[]=>.inr (.inl rfl)
 | [],_::_=>.inl rfl
 | _::_,[]=>.inr (.inr rfl)
 | a::xs,b::bs=>by
  unfold Lib.compareBytes;split
  ·exact .inl Z
  ·split
   ·exact .inr (.inr Z)
   ·exact zhn xs bs
def zea:∀ (a:List UInt8),Lib.compareBytes a a=0
 | []=>rfl
 | a::xs=>by
  unfold Lib.compareBytes;rw[nc (UInt8.lt_irrefl a),nc (UInt8.lt_irrefl a)];exact zea xs
def zop:∀ (a b:List UInt8),Lib.compareBytes a b=0->a=b
 | [],[],_=>rfl
 | [],_::_,h=>by cases h
 | _::_,[],h=>by cases h
 | a::xs,b::bs,h=>by
  unfold Lib.compareBytes at h;split at h
  ·cases h
  ·split at h
   ·cases h
   ·rename_i h1 h2;have:a=b:=UInt8.le_antisymm (zuh.1 h2) (zuh.1 h1);rw[this,zop xs bs h]
def zeb:∀ (a b:List UInt8),Lib.compareBytes b a= -Lib.compareBytes a b
 | [],[]=>rfl
 | [],_::_=>rfl
 | _::_,[]=>rfl
 | a::xs,b::bs=>by
  unfold Lib.compareBytes;by_cases h1:a<b
  ·simp [h1,UInt8.lt_asymm h1]
  ·by_cases h2:b<a
   ·simp [h1,h2]
   ·simp [h1,h2];exact zeb xs bs
def Ut:∀ (a b c:List UInt8),Lib.compareBytes a b<=0->Lib.compareBytes b c<=0->Lib.compareBytes a c<=0
 | [],_,[],_,_=>zsw _
 | [],_,_::_,_,_=>by unfold Lib.compareBytes;decide
 | _::_,[],_,h,_=>by unfold Lib.compareBytes at h;exact absurd h E
 | _::_,_::_,[],_,h=>by unfold Lib.compareBytes at h;exact absurd h E
 | a::xs,b::bs,c::cs,h1,h2=>by
  unfold Lib.compareBytes at h1 h2 |-;by_cases ab:a<b
  ·by_cases bc:b<c
   ·rw[na (UInt8.lt_trans ab bc)];decide
   ·rw[nc bc] at h2;by_cases cb:c<b
    ·rw[na cb] at h2;exact ni h2 E
    ·have:b=c:=UInt8.le_antisymm (zuh.1 cb) (zuh.1 bc);subst this;rw[na ab];decide
  ·rw[nc ab] at h1;by_cases ba:b<a
   ·rw[na ba] at h1;exact ni h1 E
   ·have:a=b:=UInt8.le_antisymm (zuh.1 ba) (zuh.1 ab);subst this;rw[nc ab] at h1;by_cases ac:a<c
    ·rw[na ac];decide
    ·rw[nc ac] at h2 |-;by_cases ca:c<a
     ·rw[na ca] at h2;exact ni h2 E
     ·rw[nc ca] at h2 |-;exact Ut xs bs cs h1 h2
structure Ord3{α:Type}(c:α->α->Int):Prop where
 refl:∀ a,c a a=0
 eq:∀ a b,c a b=0->a=b
 anti:∀ a b,c b a= -c a b
 trans:∀ a b d,c a b<=0->c b d<=0->c a d<=0
def zoq(h:a.data.toList=b.data.toList):a=b:=by
 obtain⟨⟨x⟩⟩:=a;obtain⟨⟨y⟩⟩:=b;simp at h;subst h;rfl
def cmpB_ord:Ord3 M3:=⟨fun a=>zea _,fun a b h=>zoq (zop _ _ h),fun a b=>zeb _ _,fun a b d h1 h2=>Ut _ _ _ h1 h2⟩
def zep{α β:Type}(c:α->α->Int)(e:β->β->Int)(x y:α×β):Int:=orL [c x.1 y.1,e x.2 y.2]
def zbk(x y:Int):orL [x,y]=if x=0 then y else x:=by
 simp only[orL];by_cases hx:x=0
 ·rw[na hx,na hx];split<;>simp_all
 ·rw[nc hx,nc hx]
def Ord3.lt_of{c:α->α->Int}(h:Ord3 c){a b d:α}(h1:c a b<=0)(h2:c b d<=0)(h3:c a d=0):c a b=0/\c b d=0:=by
 obtain rfl:=h.eq _ _ h3;have:=h.anti a b;constructor<;>omega
def Ord3.lex{β:Type}{c:α->α->Int}{e:β->β->Int}(hc:Ord3 c)(he:Ord3 e):Ord3 (zep c e):=by
 refine⟨fun a=>?_,fun a b h=>?_,fun a b=>?_,fun a b d h1 h2=>?_⟩
 ·unfold zep;rw[zbk,hc.refl,if_pos rfl,he.refl]
 ·unfold zep at h;rw[zbk] at h;by_cases h0:c a.1 b.1=0
  ·rw[na h0] at h;exact Prod.ext (hc.eq _ _ h0) (he.eq _ _ h)
  ·rw[nc h0] at h;exact ni h h0
 ·unfold zep;rw[zbk,zbk,hc.anti a.1 b.1,he.anti a.2 b.2];by_cases h0:c a.1 b.1=0
  ·rw[na h0,na J]
  ·rw[nc h0,nc J]
 ·unfold zep at h1 h2 |-;rw[zbk] at h1 h2 |-;have l1:c a.1 b.1<=0:=by split at h1<;>omega
  have l2:c b.1 d.1<=0:=by split at h2<;>omega
  have l3:=hc.trans _ _ _ l1 l2;by_cases h0:c a.1 d.1=0
  ·obtain⟨e1,e2⟩:=hc.lt_of l1 l2 h0;rw[na e1] at h1;rw[na e2] at h2;rw[na h0];exact he.trans _ _ _ h1 h2
  ·rw[nc h0];exact l3
abbrev Sf:=(ByteArray×ByteArray)×ByteArray
def zoo:Sf->Sf->Int:=zep (zep M3 M3) M3
def cmp3_ord:Ord3 zoo:=(cmpB_ord.lex cmpB_ord).lex cmpB_ord
def Pu{d:ByteArray}:zhd a b c d=0↔a=c/\b=d:=by
 have h:=cmpB_ord.lex cmpB_ord;constructor
 ·intro e;have:=h.eq (a,b) (c,d) e;cases this;exact⟨rfl,rfl⟩
 ·rintro⟨rfl,rfl⟩;exact h.refl (a,b)
def zon{d:ByteArray}(h:a≠c):zhd a b c d=M3 a c:=by
 unfold zhd;rw[zbk,if_neg fun e=>h (cmpB_ord.eq _ _ e)]
def zom{d:ByteArray}(h:a=c):zhd a b c d=M3 b d:=by
 unfold zhd;rw[zbk,if_pos (by rw[h];exact cmpB_ord.refl _)]
def zi5{r d s:ByteArray}(h:¬ (a=c/\b=d)):zi6 a b r c d s=zhd a b c d:=by
 unfold zi6;rw[zbk,if_neg fun e=>h (Pu.1 e)]
def zi4{r d s:ByteArray}(h:a=c/\b=d):zi6 a b r c d s=M3 r s:=by
 unfold zi6;rw[zbk,if_pos (Pu.2 h)]
def ow{s:ByteArray}{c:UInt8}(h:s[k]?=some c):s.data.toList.drop k=c::s.data.toList.drop (k+1):=by
 have h':s.data.toList[k]?=some c:=by
  have:s.data[k]?=some c:=h;simpa using this
 obtain⟨hl,he⟩:=zs2.1 h';rw[zsc hl,he]
def Dm{s:ByteArray}(h:s.size<=k):s.data.toList.drop k=[]:=zrx (by rw[j8];exact h)
def Sq(a b:ByteArray)(k:Nat):Prop:=M3 a b=Lib.compareBytes (a.data.toList.drop k) (b.data.toList.drop k)
def zjl{x y:UInt8}(h:Sq a b k)(hx:a[k]?=some x)(hy:b[k]?=some y)(hl:(x.toNat:Int)<y.toNat):M3 a b= -1:=by
 unfold Sq at h;rw[h,ow hx,ow hy,Lib.compareBytes,na (zvl.2 J)]
def zjm{x y:UInt8}(h:Sq a b k)(hx:a[k]?=some x)(hy:b[k]?=some y)(hl:(y.toNat:Int)<x.toNat):M3 a b=1:=by
 unfold Sq at h;have hl':y<x:=zvl.2 J;rw[h,ow hx,ow hy,Lib.compareBytes,nc (UInt8.lt_asymm hl'),na hl']
def Yw{x y:UInt8}(h:Sq a b k)(hx:a[k]?=some x)(hy:b[k]?=some y)(h1:¬ (x.toNat:Int)<y.toNat)(h2:¬ (y.toNat:Int)<x.toNat):Sq a b (k+1):=by
 unfold Sq at h |-;rw[h,ow hx,ow hy,Lib.compareBytes,nc (fun e=>h1 (by have:=zvl.1 e;omega)),nc (fun e=>h2 (by have:=zvl.1 e;omega))]
def Vi(h:Sq a b k)(h1:a.size<=k)(h2:k<b.size):M3 a b= -1:=by
 unfold Sq at h;obtain⟨y,hy⟩:=getElem?_lt h2;rw[h,Dm h1,ow hy,Lib.compareBytes]
def Yx(h:Sq a b k)(h1:b.size<=k)(h2:k<a.size):M3 a b=1:=by
 unfold Sq at h;obtain⟨y,hy⟩:=getElem?_lt h2;rw[h,Dm h1,ow hy,Lib.compareBytes]
def Yy(h:Sq a b k)(h1:a.size<=k)(h2:b.size<=k):M3 a b=0:=by
 unfold Sq at h;rw[h,Dm h1,Dm h2,Lib.compareBytes]
def o7(ha:a.size<=9223372036854775807)(hb:b.size<=9223372036854775807)(hB:zwe B w):
  Ret zwf 268 [.string a,.string b] w B (fun v _=>v=.int .i64 (M3 a b)):=by
 refine yl Tryz.func268 Z Tryz.ntmps268 (np Z) hB ((ZT∘Zag∘Zae) ?_)
 refine xu (fun k:Nat=>[(0,.is (.string a)),(1,.is (.string b)),(5,.is (.int .i64 k))])
  (fun k=>k<=a.size/\k<=b.size/\Sq a b k) (fun k=>a.size-k) 0 ⟨mb _,mb _,rfl⟩ ⟨rfl,rfl,rfl,nm⟩ ?_
 rintro k ⟨hk1,hk2,hall⟩;by_cases h1:k<a.size
 ·by_cases h2:k<b.size
  ·obtain⟨x,hx⟩:=getElem?_lt h1;obtain⟨y,hy⟩:=getElem?_lt h2;by_cases hxy:(x.toNat:Int)<y.toNat
   ·refine(Zd∘ZaE∘ZP∘ZS∘Zu∘ZP∘ZS∘Zb4∘Zbw∘Zd∘Zdr∘Zm∘ZdA∘Zm∘ZdA∘Zdf∘ZcI∘Zi∘ZF∘Zc) ?_;refine yk1 L [.tmp 4] fun u H hH hle=>?_;exact nh _ (zjl hall hx hy hxy).symm
   ·by_cases hyx:(y.toNat:Int)<x.toNat
    ·refine(Zd∘ZaE∘ZP∘ZS∘Zu∘ZP∘ZS∘Zb4∘Zbw∘Zd∘Zdr∘Zm∘ZdA∘Zm∘ZdA∘Zd8∘Zbv∘Zbt∘Zb7∘Zm∘ZdA∘Zm∘ZdA∘Zd9∘ZcI∘ZbW∘Zc) ?_;refine yk1 L [.tmp 4] fun u H hH hle=>?_;exact nh _ (zjm hall hx hy hyx).symm
    ·refine(Zd∘ZaE∘ZP∘ZS∘Zu∘ZP∘ZS∘Zb4∘Zbw∘Zd∘Zdr∘Zm∘ZdA∘Zm∘ZdA∘Zd8∘Zbv∘Zbt∘Zb7∘Zm∘ZdA∘Zm∘ZdA∘ZdI∘Zbv∘ZbR∘Za0∘Zz∘Zaa) ?_;exact yr (k+1) ⟨h1,h2,Yw hall hx hy hxy hyx⟩ J ⟨Z,Z,Z,nm⟩
  ·refine(Zd∘ZaE∘ZP∘ZS∘Zu∘ZP∘Zab∘Zf∘Zao∘ZbH∘Za5∘ZP∘Za∘ZP∘Zab∘ZK∘Zcz∘ZP∘Za∘ZP∘ZN∘Zr∘Zay∘Zc) ?_;refine yk1 L [.tmp 4] fun u H hH hle=>?_;exact nh _ (Yx hall J h1).symm
 ·by_cases h2:k<b.size
  ·refine(Zd∘ZaE∘ZP∘Zab∘Za9∘Zf∘Zao∘ZbH∘Za5∘ZP∘Za∘ZP∘ZS∘Zr∘ZM∘Zc) ?_;refine yk1 L [.tmp 4] fun u H hH hle=>?_;exact nh _ (Vi hall J h2).symm
  ·refine(Zd∘ZaE∘ZP∘Zab∘Za9∘Zf∘Zao∘ZbH∘Za5∘ZP∘Za∘ZP∘Zab∘ZK∘Zcz∘ZP∘Za∘ZP∘ZG∘Zs∘ZQ∘Zc) ?_;refine yk1 L [.tmp 4] fun u H hH hle=>?_;exact nh _ (Yy hall J J).symm
def Oe{d:ByteArray}(ha:a.size<=9223372036854775807)(hb:b.size<=9223372036854775807)(hc:c.size<=9223372036854775807)(hd:d.size<=9223372036854775807)(hB:zwe B w):
  Ret zwf 267 [.agg #[.string a,.string b],.agg #[.string c,.string d]] w B (fun v _=>v=.int .i64 (zhd a b c d)):=by
 refine yl Tryz.func267 Z Tryz.ntmps267 (np Z) hB ?_;by_cases h:a=c
 ·have h':¬ a≠c:=fun e=>e h;refine(ZaD∘Zag∘Z3∘Z3) ?_;refine z7 (Lg Z Z Z Z (ng M)) Z ((Zs∘Z2∘Z3∘Z3) ?_);refine z71 L Z (fun u H hH _=>o7 K K hH) ?_;refine Zc (h:=?_);refine yk1 L [.tmp 4] fun u H hH hle=>?_;exact nh _ (zom h).symm
 ·have h':a≠c:=h;refine(ZaD∘Zag∘Z3∘Z3) ?_;refine z7 (Lg Z Z Z Z (nf M)) Z ((ZaM∘Z3∘Z3) ?_);refine z71 L Z (fun u H hH _=>o7 K K hH) ?_;refine Zc (h:=?_);refine yk1 L [.tmp 4] fun u H hH hle=>?_;exact nh _ (zon h).symm
def za8{r d s:ByteArray}(ha:a.size<=9223372036854775807)(hb:b.size<=9223372036854775807)(hr:r.size<=9223372036854775807)(hc:c.size<=9223372036854775807)(hd:d.size<=9223372036854775807)(hs:s.size<=9223372036854775807)(hB:zwe B w):
  Ret zwf 221 [.agg #[.string a,.string b,.string r],.agg #[.string c,.string d,.string s]] w B (fun v _=>v=.int .i64 (zi6 a b r c d s)):=by
 refine yl Tryz.func221 Z Tryz.ntmps221 (np Z) hB ?_;by_cases h:a=c/\b=d
 ·have h':=zg5 (nf h);refine(ZaD∘Zag∘Zc9∘Zc9∘Zff∘Zs∘Z2∘Z3∘Z3) ?_;refine z71 L Z (fun u H hH _=>o7 K K hH) ?_;refine Zc (h:=?_);refine yk1 L [.tmp 4] fun u H hH hle=>?_;exact nh _ (zi4 h).symm
 ·have h':=zg5 (ng h);refine(ZaD∘Zag∘Zc9∘Zc9∘Zff∘ZaM∘Zc9∘Zc9) ?_;refine z71 L Z (fun u H hH _=>Oe K K K K hH) ?_;refine Zc (h:=?_);refine yk1 L [.tmp 4] fun u H hH hle=>?_;exact nh _ (zi5 h).symm
def za7{r d s:ByteArray}(ha:a.size<=9223372036854775807)(hb:b.size<=9223372036854775807)(hr:r.size<=9223372036854775807)(hc:c.size<=9223372036854775807)(hd:d.size<=9223372036854775807)(hs:s.size<=9223372036854775807)(hB:zwe B w):
  Ret zwf 222 [.agg #[.string a,.string b,.string r],.agg #[.string c,.string d,.string s]] w B (fun v _=>v=.int .i64 (zi6 a b r c d s)):=by
 refine yl Tryz.func222 Z Tryz.ntmps222 (np Z) hB ?_;by_cases h:a=c/\b=d
 ·have h':=zg5 (nf h);refine(ZaD∘Zag∘Zc9∘Zc9∘Zff∘Zs∘Z2∘Z3∘Z3) ?_;refine z71 L Z (fun u H hH _=>o7 K K hH) ?_;refine Zc (h:=?_);refine yk1 L [.tmp 4] fun u H hH hle=>?_;exact nh _ (zi4 h).symm
 ·have h':=zg5 (ng h);refine(ZaD∘Zag∘Zc9∘Zc9∘Zff∘ZaM∘Zc9∘Zc9) ?_;refine z71 L Z (fun u H hH _=>Oe K K K K hH) ?_;refine Zc (h:=?_);refine yk1 L [.tmp 4] fun u H hH hle=>?_;exact nh _ (zi5 h).symm
end Go.V
end
namespace Go.V
section
variable  {c:α->α->Int}
def Ord3.irr(h:Ord3 c)(a:α):¬ c a a<0:=by rw[h.refl];decide
def Ord3.asym(h:Ord3 c){a b:α}(h1:c a b<0):¬ c b a<0:=by have:=h.anti a b;omega
def Ord3.tr(h:Ord3 c){a b d:α}(h1:c a b<0)(h2:c b d<0):c a d<0:=by
 have h3:=h.trans a b d J J;by_cases h4:c a d=0
 ·have:=h.lt_of (a:=a) (b:=b) (d:=d) J J h4;omega
 ·omega
def Ord3.ne(h:Ord3 c){a b:α}(h1:c a b<0):a≠b:=fun e=>by subst e;exact h.irr a h1
def Ord3.tri(h:Ord3 c){a b:α}(h1:¬ c a b<0)(h2:a≠b):c b a<0:=by
 have:=h.anti a b;have h3:c a b≠0:=fun e=>h2 (h.eq _ _ e);omega
def Sst(c:α->α->Int)(l:List α):Prop:=l.Pairwise fun x y=>c x y<0
def Sst.nil:Sst c []:=List.Pairwise.nil
def Sst.nodup(h:Ord3 c){l:List α}(hs:Sst c l):l.Nodup:=hs.imp fun h1=>h.ne h1
def pg(h:Ord3 c):∀ {l m:List α},Sst c l->Sst c m->(∀ z,z∈l↔z∈m)->l=m
 | [],[],_,_,_=>rfl
 | [],y::m,_,_,e=>by have:=(e y).2 (mc ..);cases this
 | y::l,[],_,_,e=>by have:=(e y).1 (mc ..);cases this
 | y::l,x::m,hl,hm,e=>by
  have h1:=mn.1 hl;have h2:=mn.1 hm
  have exy:y=x:=by
   rcases nz.1 ((e y).1 (mc ..)) with e1 | e1
   ·exact e1
   ·rcases nz.1 ((e x).2 (mc ..)) with e2 | e2
    ·exact e2.symm
    ·exact ni (h1.1 x e2) (h.asym (h2.1 y e1))
  subst exy;congr 1;refine pg h h1.2 h2.2 fun z=>?_;constructor
  ·intro hz;rcases nz.1 ((e z).1 (mf _ hz)) with e1 | e1
   ·subst e1;exact ni (h1.1 _ hz) (h.irr _)
   ·exact e1
  ·intro hz;rcases nz.1 ((e z).2 (mf _ hz)) with e1 | e1
   ·subst e1;exact ni (h2.1 _ hz) (h.irr _)
   ·exact e1
def s5(c:α->α->Int)(t:α):List α->List α
 | []=>[t]
 | y::l=>if c t y<0 then t::y::l else y::s5 c t l
def gx{t z:α}:∀ {l:List α},z∈s5 c t l↔z=t\/z∈l
 | []=>by simp [s5]
 | y::l=>by
  simp only[s5];split
  ·simp
  ·rw[nz,gx,nz];constructor
   ·rintro(e | e | e)
    ·exact .inr (.inl e)
    ·exact .inl e
    ·exact .inr (.inr e)
   ·rintro(e | e | e)
    ·exact .inr (.inl e)
    ·exact .inl e
    ·exact .inr (.inr e)
def vu(t:α):∀ (l:List α),(s5 c t l).length=l.length+1
 | []=>rfl
 | y::l=>by
  simp only[s5];split
  ·rfl
  ·simp only[ma,vu t l]
def bh(h:Ord3 c){t:α}:∀ {l:List α},Sst c l->t∉l->Sst c (s5 c t l)
 | [],_,_=>ztc ..
 | y::l,hs,ht=>by
  have h1:=mn.1 hs;simp only[s5];split
  ·rename_i hlt;refine mn.2 ⟨fun z hz=>?_,hs⟩;rcases nz.1 hz with rfl | hz
   ·exact hlt
   ·exact h.tr hlt (h1.1 z hz)
  ·rename_i hlt;refine mn.2 ⟨fun z hz=>?_,bh h h1.2 fun e=>ht (mf _ e)⟩;rcases gx.1 hz with rfl | hz
   ·exact h.tri hlt fun e=>ht (by rw[e];exact mc ..)
   ·exact h1.1 z hz
def pz(c:α->α->Int)(f:Bool->Bool->Bool):Nat->List α->List α->List α
 | 0,_,_=>[]
 | n+1,[],[]=>[]
 | n+1,a::l,[]=>(if f true false=true then [a] else [])++pz c f n l []
 | n+1,[],b::m=>(if f false true=true then [b] else [])++pz c f n [] m
 | n+1,a::l,b::m=>
  if c a b<0 then (if f true false=true then [a] else [])++pz c f n l (b::m)
  else if c a b>0 then (if f false true=true then [b] else [])++pz c f n (a::l) m
  else (if f true true=true then [a] else [])++pz c f n l m
def Tk(f:Bool->Bool->Bool)(l m:List α)(z:α):Prop:=(z∈l/\z∉m/\f true false=true)\/(z∉l/\z∈m/\f false true=true)\/(z∈l/\z∈m/\f true true=true)
def pw(h:Ord3 c)(f:Bool->Bool->Bool){z:α}:∀ {n:Nat} {l m:List α},l.length+m.length<=n->Sst c l->Sst c m->(z∈pz c f n l m↔Tk f l m z)
 | 0,l,m,hn,_,_=>by
  have h1:l=[]:=zrv J;have h2:m=[]:=zrv J;subst h1 h2;simp [pz,Tk]
 | n+1,[],[],_,_,_=>by simp [pz,Tk]
 | n+1,a::l,[],hn,hl,hm=>by
  have h1:=mn.1 hl;have ih:=pw h f (z:=z) (n:=n) (l:=l) (m:=[]) (by simp only[ma,m7] at hn |-;omega) h1.2 hm;simp only[pz,mj,ih,Tk,nz,zs3,not_false_eq_true,true_and,false_and,and_false,or_false];by_cases hf:f true false=true
  ·simp [hf]
  ·simp [hf]
 | n+1,[],b::m,hn,hl,hm=>by
  have h1:=mn.1 hm;have ih:=pw h f (z:=z) (n:=n) (l:=[]) (m:=m) (by simp only[ma,m7] at hn |-;omega) hl h1.2;simp only[pz,mj,ih,Tk,nz,zs3,not_false_eq_true,true_and,false_and,and_false,or_false,false_or];by_cases hf:f false true=true
  ·simp [hf]
  ·simp [hf]
 | n+1,a::l,b::m,hn,hl,hm=>by
  have h1:=mn.1 hl;have h2:=mn.1 hm;have ha:a∉l:=fun e=>h.irr a (h1.1 a e);have hb:b∉m:=fun e=>h.irr b (h2.1 b e);simp only[ma] at hn;simp only[pz];by_cases h3:c a b<0
  ·have ih:=pw h f (z:=z) (n:=n) (l:=l) (m:=b::m) (by simp only[ma];omega) h1.2 hm
   have hab:a∉b::m:=fun e=>by
    rcases nz.1 e with e | e
    ·exact h.ne h3 e
    ·exact h.irr a (h.tr h3 (h2.1 a e))
   rw[na h3,mj,ih];unfold Tk;by_cases hz:z=a
   ·subst hz;by_cases hf:f true false=true<;>simp [hf,ha,hab]
   ·have e1:z∈a::l↔z∈l:=by rw[nz];exact or_iff_right hz
    rw[e1];by_cases hf:f true false=true<;>simp [hf,hz]
  ·rw[nc h3];by_cases h4:c a b>0
   ·have h5:c b a<0:=by have:=h.anti a b;omega
    have ih:=pw h f (z:=z) (n:=n) (l:=a::l) (m:=m) (by simp only[ma];omega) hl h2.2
    have hba:b∉a::l:=fun e=>by
     rcases nz.1 e with e | e
     ·exact h.ne h5 e
     ·exact h.irr b (h.tr h5 (h1.1 b e))
    rw[na h4,mj,ih];unfold Tk;by_cases hz:z=b
    ·subst hz;by_cases hf:f false true=true<;>simp [hf,hb,hba]
    ·have e1:z∈b::m↔z∈m:=by rw[nz];exact or_iff_right hz
     rw[e1];by_cases hf:f false true=true<;>simp [hf,hz]
   ·have e:a=b:=h.eq _ _ J;subst e;have ih:=pw h f (z:=z) (n:=n) (l:=l) (m:=m) J h1.2 h2.2;rw[nc h4,mj,ih];unfold Tk;by_cases hz:z=a
    ·subst hz;by_cases hf:f true true=true<;>simp [hf,ha,hb]
    ·have e1:z∈a::l↔z∈l:=by rw[nz];exact or_iff_right hz
     have e2:z∈a::m↔z∈m:=by rw[nz];exact or_iff_right hz
     rw[e1,e2];by_cases hf:f true true=true<;>simp [hf,hz]
def Tk.or{f:Bool->Bool->Bool}{l m:List α}{z:α}(h:Tk f l m z):z∈l\/z∈m:=by
 rcases h with ⟨h,_⟩ | ⟨_,h,_⟩ | ⟨h,_⟩
 ·exact .inl h
 ·exact .inr h
 ·exact .inl h
def zj3(p:Bool)(a:α):Sst c (if p=true then [a] else []):=by
 split
 ·exact ztc ..
 ·exact Sst.nil
def tc{p:Bool}{a:α}{r:List α}(hr:Sst c r)(hlt:∀ z∈r,c a z<0):Sst c ((if p=true then [a] else [])++r):=by
 refine zsr.2 ⟨zj3 p a,hr,fun x hx z hz=>?_⟩;split at hx
 ·rw[my] at hx;subst hx;exact hlt z hz
 ·cases hx
def ep(h:Ord3 c)(f:Bool->Bool->Bool):∀ {n:Nat} {l m:List α},l.length+m.length<=n->Sst c l->Sst c m->Sst c (pz c f n l m)
 | 0,_,_,_,_,_=>Sst.nil
 | n+1,[],[],_,_,_=>Sst.nil
 | n+1,a::l,[],hn,hl,hm=>by
  have h1:=mn.1 hl;have hn':l.length+([]:List α).length<=n:=by simp only[ma,m7] at hn |-;omega
  refine tc (ep h f hn' h1.2 hm) fun z hz=>?_;rcases((pw h f hn' h1.2 hm).1 hz).or with e | e
  ·exact h1.1 z e
  ·cases e
 | n+1,[],b::m,hn,hl,hm=>by
  have h1:=mn.1 hm;have hn':([]:List α).length+m.length<=n:=by simp only[ma,m7] at hn |-;omega
  refine tc (ep h f hn' hl h1.2) fun z hz=>?_;rcases((pw h f hn' hl h1.2).1 hz).or with e | e
  ·cases e
  ·exact h1.1 z e
 | n+1,a::l,b::m,hn,hl,hm=>by
  have h1:=mn.1 hl;have h2:=mn.1 hm;simp only[ma] at hn;simp only[pz];split
  ·rename_i h3;have hn':l.length+(b::m).length<=n:=by simp only[ma];omega
   refine tc (ep h f hn' h1.2 hm) fun z hz=>?_;rcases((pw h f hn' h1.2 hm).1 hz).or with e | e
   ·exact h1.1 z e
   ·rcases nz.1 e with e | e
    ·rw[e];exact h3
    ·exact h.tr h3 (h2.1 z e)
  ·split
   ·rename_i h4;have h5:c b a<0:=by have:=h.anti a b;omega
    have hn':(a::l).length+m.length<=n:=by simp only[ma];omega
    refine tc (ep h f hn' hl h2.2) fun z hz=>?_;rcases((pw h f hn' hl h2.2).1 hz).or with e | e
    ·rcases nz.1 e with e | e
     ·rw[e];exact h5
     ·exact h.tr h5 (h1.1 z e)
    ·exact h2.1 z e
   ·have e0:a=b:=h.eq _ _ J;have hn':l.length+m.length<=n:=J;refine tc (ep h f hn' h1.2 h2.2) fun z hz=>?_;rcases((pw h f hn' h1.2 h2.2).1 hz).or with e | e
    ·exact h1.1 z e
    ·rw[e0];exact h2.1 z e
variable [DecidableEq α]
def r7(c:α->α->Int):List α->List α->List α
 | out,[]=>out
 | out,t::r=>r7 c (if t∈out then out else s5 c t out) r
def i9(h:Ord3 c):∀ {l out:List α},Sst c out->Sst c (r7 c out l)
 | [],_,hs=>hs
 | t::r,out,hs=>by
  simp only[r7];refine i9 h ?_;split
  ·exact hs
  ·rename_i ht;exact bh h hs ht
def oo{z:α}:∀ {l out:List α},z∈r7 c out l↔z∈out\/z∈l
 | [],_=>by simp [r7]
 | t::r,out=>by
  simp only[r7];rw[oo];split
  ·rename_i ht;constructor
   ·rintro(e | e)
    ·exact .inl e
    ·exact .inr (mf _ e)
   ·rintro(e | e)
    ·exact .inl e
    ·rcases nz.1 e with rfl | e
     ·exact .inl ht
     ·exact .inr e
  ·rw[gx,nz];constructor
   ·rintro((e | e) | e)
    ·exact .inr (.inl e)
    ·exact .inl e
    ·exact .inr (.inr e)
   ·rintro(e | e | e)
    ·exact .inl (.inr e)
    ·exact .inl (.inl e)
    ·exact .inr e
def oa:∀ (l out:List α),(r7 c out l).length<=out.length+l.length
 | [],_=>nu _
 | t::r,out=>by
  have:=oa r (if t∈out then out else s5 c t out);simp only[r7];refine mq this ?_;split
  ·simp only[ma];omega
  ·rw[vu];simp only[ma];omega
end
end Go.V
namespace Go.V
section
variable  [DecidableEq α]
def dd:List α->List α
 | []=>[]
 | [x]=>[x]
 | x::y::l=>if x=y then dd (y::l) else x::dd (y::l)
variable {c:α->α->Int}
end
def ue{l:List α}{a:α}(h:l[i]?=some a):l[i]'(get_lt h)=a:=by
 have h1:=h;rw[zrz (get_lt h)] at h1;exact Option.some.inj h1
section
variable  {c:α->α->Int}
def o9(c:α->α->Int)(t:α)(l:List α):Nat:=(l.takeWhile fun x=>decide (c x t<0)).length
def zbc(t:α):∀ (l:List α),o9 c t l<=l.length
 | []=>nu _
 | x::l=>by
  have:=zbc t l;unfold o9 at this |-;rw[zui];split
  ·simp only[ma];omega
  ·simp
def zbd(h:Ord3 c){t:α}:∀ {l:List α} {i:Nat},Sst c l->(∀ (j:Nat) (x:α),j<i->l[j]?=some x->c x t<0)->(∀ (j:Nat) (x:α),i<=j->l[j]?=some x->¬ c x t<0)->i<=l.length->o9 c t l=i
 | [],i,_,_,_,hi=>by simp at hi;subst hi;rfl
 | x::l,0,_,_,h2,_=>by
  unfold o9;rw[zui,nc (by simpa using h2 0 x (nu _) rfl)];rfl
 | x::l,i+1,hs,h1,h2,hi=>by
  have ih:=zbd h (t:=t) (l:=l) (i:=i) (mn.1 hs).2 (fun j y hj hy=>h1 (j+1) y J (by simpa using hy)) (fun j y hj hy=>h2 (j+1) y J (by simpa using hy)) (by simpa using hi);unfold o9 at ih |-;rw[zui,na (by simpa using h1 0 x (Nat.succ_pos _) rfl),ma,ih]
def Gv(h:Ord3 c){l:List α}(hs:Sst c l){x y t:α}(hi:l[i]?=some x)(hj:l[j]?=some y)(hij:j<=i)(hx:c x t<0):c y t<0:=by
 rcases m5 j i with hlt | hge
 ·have h1:=zs9.1 hs j i (get_lt hj) (get_lt hi) hlt;rw[ue hj,ue hi] at h1;exact h.tr h1 hx
 ·have:i=j:=J;subst this;rw[hi] at hj;cases hj;exact hx
def zn0(h:Ord3 c){t:α}{l:List α}(hs:Sst c l)(h1:∀ (j:Nat) (x:α),j<i->l[j]?=some x->c x t<0){x:α}(hx:l[i]?=some x)(h2:∀ (j:Nat) (y:α),i<=j->l[j]?=some y->¬ c y t<0):t∈l↔c x t=0:=by
 constructor
 ·intro ht;obtain⟨j,hj⟩:=zsf ht;rcases zu2 j i with hlt | he | hgt
  ·exact ni (h1 j t hlt hj) (h.irr t)
  ·subst he;rw[hx] at hj;cases hj;exact h.refl t
  ·have h3:=zs9.1 hs i j (get_lt hx) (get_lt hj) hgt;rw[ue hj,ue hx] at h3;exact ni h3 (h2 i x (nu _) hx)
 ·intro e;have:=h.eq _ _ e;subst this;exact mz hx
def Rn(h:Ord3 c){t:α}{l:List α}(h1:∀ (j:Nat) (x:α),j<l.length->l[j]?=some x->c x t<0):t∉l:=fun ht=>by
 obtain⟨j,hj⟩:=zsf ht;exact ni (h1 j t (get_lt hj) hj) (h.irr t)
end
end Go.V
namespace Go.V.L10
open Go.V
def cP(a b:Int):Int:=if a<b then -1 else if b<a then 1 else 0
def vz:Ord3 cP:=⟨fun a=>by unfold cP;simp,fun a b h=>by unfold cP at h;split at h<;>(try split at h)<;>omega,fun a b=>by unfold cP;split<;>(try split)<;>(try split)<;>omega,fun a b d h1 h2=>by
 unfold cP at h1 h2 |-;split at h1<;>(try split at h1)<;>split at h2<;>(try split at h2)<;>split<;>(try split)<;>omega⟩
def Ms{a b:Int}:cP a b<0↔a<b:=by unfold cP;split<;>(try split)<;>omega
def kf(L:List Int):List Int:=r7 cP [] L
def k7{L:List Int}{z:Int}:z∈kf L↔z∈L:=by unfold kf;rw[oo];simp
def jj(L:List Int):Sst cP (kf L):=i9 vz Sst.nil
def ul(L:List Int):(kf L).length<=L.length:=by have:=oa (c:=cP) L [];simpa [kf] using this
def xf(L:List Int):List (Int×Int):=(kf L).map fun r=>(r,(L.count r:Int))
def wy(L:List Int):(xf L).length=(kf L).length:=by unfold xf;simp
def Er{L:List Int}(h:(kf L)[i]?=some r):(xf L)[i]?=some (r,(L.count r:Int)):=by unfold xf;rw[List.getElem?_map,h];rfl
section
variable  {c:α->α->Int}
def Pg(h:Ord3 c){t:α}:∀ {l:List α},t∉l->s5 c t l=l.take (o9 c t l)++t::l.drop (o9 c t l)
 | [],_=>rfl
 | y::l,hn=>by
  have hne:y≠t:=fun e=>hn (e ▸ mc ..);have ih:=Pg h (l:=l) (t:=t) fun hm=>hn (mf _ hm);unfold s5 o9;rw[zui];by_cases hc:c y t<0
  ·rw[nc (h.asym hc),na (by simpa using hc),ma,ztu,List.drop_succ_cons,ih];rfl
  ·rw[na (h.tri hc hne),nc (by simpa using hc)];rfl
def K7(h:Ord3 c){t:α}:∀ {l:List α},Sst c l->t∈l->l[o9 c t l]?=some t
 | [],_,hm=>(by cases hm)
 | y::l,hs,hm=>by
  unfold o9;rw[zui];have h1:=mn.1 hs;by_cases hc:c y t<0
  ·rcases nz.1 hm with e | hm
   ·subst e;exact ni hc (h.irr _)
   ·rw[na (by simpa using hc),ma,ztf];exact K7 h h1.2 hm
  ·rw[nc (by simpa using hc)];rcases nz.1 hm with e | hm
   ·subst e;rfl
   ·exact ni (h1.1 t hm) hc
def zam(h:Ord3 c){l:List α}(hs:Sst c l){x:α}(hi:l[i]?=some x)(hj:l[j]?=some x):i=j:=by
 have key:∀ {i j:Nat},i<j->l[i]?=some x->l[j]?=some x->False:=fun {i j} hlt hi hj=>by
  have h1:=zs9.1 hs i j (get_lt hi) (get_lt hj) hlt;rw[ue hi,ue hj] at h1;exact h.irr _ h1
 rcases zu2 i j with hlt | he | hlt
 ·exact(key hlt hi hj).elim
 ·exact he
 ·exact(key hlt hj hi).elim
def map_erase{β:Type}(f:α->β)(l:List α)(i:Nat):(l.map f).eraseIdx i=(l.eraseIdx i).map f:=by
 rw[zv0,zv0,zr1,zta,ztk]
def Po(h:Ord3 c)[BEq α][LawfulBEq α]{t:α}{l:List α}(hs:Sst c l)(hm:t∈l):l.erase t=l.eraseIdx (o9 c t l):=by
 induction l with
 | nil=>cases hm
 | cons y l ih=>
  have h1:=mn.1 hs;unfold o9;rw[zui];by_cases hc:c y t<0
  ·have hne:y≠t:=h.ne hc;rcases nz.1 hm with e | hm
   ·exact ni e.symm hne
   ·rw[na (by simpa using hc),List.erase_cons_tail (by simpa using hne),ma,List.eraseIdx_cons_succ,ih h1.2 hm];rfl
  ·rw[nc (by simpa using hc)];rcases nz.1 hm with e | hm
   ·subst e;simp
   ·exact ni (h1.1 t hm) hc
end
def Gf{L:List Int}(h:r∈L):kf (L++[r])=kf L:=pg vz (jj _) (jj _) fun z=>by
 rw[k7,k7,mj,my];exact⟨fun h1=>h1.elim id fun e=>e ▸ h,.inl⟩
def Hq{L:List Int}(h:r∉L):kf (L++[r])=(kf L).take (o9 cP r (kf L))++r::(kf L).drop (o9 cP r (kf L)):=by
 have hn:r∉kf L:=fun hm=>h (k7.1 hm);rw[<-Pg vz hn]
 exact pg vz (jj _) (bh vz (jj _) hn) fun z=>by
  rw[k7,gx,k7,mj,my,or_comm]
def Cx{L:List Int}(h:1<L.count r):kf (L.erase r)=kf L:=pg vz (jj _) (jj _) fun z=>by
 rw[k7,k7];by_cases e:z=r
 ·subst e;have h1:0<(L.erase z).count z:=by rw[zv1];omega
  have h2:0<L.count z:=J;exact⟨fun _=>zs4.1 h2,fun _=>zs4.1 h1⟩
 ·exact List.mem_erase_of_ne e
def Fb{L:List Int}(h:L.count r=1):kf (L.erase r)=(kf L).eraseIdx (o9 cP r (kf L)):=by
 have hm:r∈L:=zs4.1 J;rw[<-Po vz (jj L) (k7.2 hm)];refine pg vz (jj _) ((jj L).sublist List.erase_sublist) fun z=>?_;rw[k7,(Sst.nodup vz (jj L)).mem_erase_iff,k7];by_cases e:z=r
 ·subst e;have h1:(L.erase z).count z=0:=by rw[zv1];omega
  exact⟨fun hz=>ni (zs4.2 hz) J,fun hz=>ni Z hz.1⟩
 ·rw[List.mem_erase_of_ne e];exact⟨fun hz=>⟨e,hz⟩,fun hz=>hz.2⟩
def En{L:List Int}(h:r∈L):xf (L++[r])=(xf L).set (o9 cP r (kf L)) (r,(L.count r:Int)+1):=by
 have hp:=K7 vz (jj L) (k7.2 h);apply zu3;intro i;unfold xf;rw[Gf h,List.getElem?_set,zr8,zr8,mg];by_cases e:o9 cP r (kf L)=i
 ·subst e;rw[na rfl,na (get_lt hp),hp];simp [zsq]
 ·rw[nc e]
  cases hi:(kf L)[i]? with
  | none=>rfl
  | some x=>
   have hxr:x≠r:=fun hx=>e (by subst hx;exact zam vz (jj L) hp hi);simp [zsq,List.count_cons,hxr.symm]
def Q7{L:List Int}(h:r∉L):xf (L++[r])=(xf L).take (o9 cP r (kf L))++(r,1)::(xf L).drop (o9 cP r (kf L)):=by
 have key:∀ l:List Int,(∀ x∈l,x∈L)->l.map (fun x=>(x,((L++[r]).count x:Int)))=l.map fun x=>(x,(L.count x:Int)):=fun l hl=>ztv fun x hx=>by
  have hxr:x≠r:=fun e=>h (e ▸ hl x hx);simp [zsq,List.count_cons,hxr.symm]
 unfold xf;rw[Hq h,zr1,mt,zta,ztk,<-zta,<-ztk,key _ fun x hx=>k7.1 (zt4 hx),key _ fun x hx=>k7.1 (zv2 hx),zta,ztk];congr 2;simp [zsq,ztw.2 h]
def Bi{L:List Int}(h:1<L.count r):xf (L.erase r)=(xf L).set (o9 cP r (kf L)) (r,(L.count r:Int)-1):=by
 have hm:r∈L:=zs4.1 J;have hp:=K7 vz (jj L) (k7.2 hm);apply zu3;intro i;unfold xf;rw[Cx h,List.getElem?_set,zr8,zr8,mg];by_cases e:o9 cP r (kf L)=i
 ·subst e;rw[na rfl,na (get_lt hp),hp];simp [zv1];omega
 ·rw[nc e]
  cases hi:(kf L)[i]? with
  | none=>rfl
  | some x=>
   have hxr:x≠r:=fun hx=>e (by subst hx;exact zam vz (jj L) hp hi);simp [List.count_erase_of_ne hxr]
def Cq{L:List Int}(h:L.count r=1):xf (L.erase r)=(xf L).eraseIdx (o9 cP r (kf L)):=by
 unfold xf;rw[Fb h,map_erase];refine ztv fun x hx=>?_
 have hxr:x≠r:=fun e=>by
  subst e;rw[<-Po vz (jj L) (k7.2 (zs4.1 J))] at hx;exact((Sst.nodup vz (jj L)).mem_erase_iff.1 hx).1 rfl
 rw[List.count_erase_of_ne hxr]
def i6(L:List Int)(r:Int):List Int×Nat:=if L.count r=0 then ([],8) else (L.erase r,0)
def lp(L revs:List Int)(keep:Nat):List Int:=(revs.take (revs.length-keep)).filter fun r=>decide (L.count r=0)
end Go.V.L10
namespace Go.V.L4
structure Rd where
 at_:Nat
 bad:Nat
 err:Int
def Rd.fail(R:Rd)(a:Nat)(e:Int):Rd:=if R.err=0 then ⟨R.at_,a,e⟩ else R
def M2(bs:List Nat):Nat->Nat->Nat->Rd->Nat×Rd
 | 0,_,acc,R=>(acc,R)
 | f+1,i,acc,R=>match bs[R.at_]? with
  | none=>(0,R.fail bs.length 17)
  | some b=>if i=9/\b≠1\/0<i/\b=0 then (0,R.fail R.at_ 5) else
   if b<128 then (acc+b%128*128^i,⟨R.at_+1,R.bad,R.err⟩) else M2 bs f (i+1) (acc+b%128*128^i) ⟨R.at_+1,R.bad,R.err⟩
def Bo(bs:List Nat)(R:Rd):Nat×Rd:=M2 bs 10 0 0 R
def ae(bs:List Nat)(lim:Nat)(e:Int)(R:Rd):Nat×Rd:=if lim<(Bo bs R).1 then ((Bo bs R).1,(Bo bs R).2.fail R.at_ e) else Bo bs R
def dl{α:Type}(f:Rd->α×Rd)(z:α)(R:Rd):α×Rd:=if R.err≠0 then (z,R) else if (f R).2.err≠0 then (z,⟨R.at_,(f R).2.bad,(f R).2.err⟩) else f R
def ry(bs:List Nat):Rd->Nat×Rd:=dl (Bo bs) 0
def zeq(bs:List Nat)(lim:Nat)(R:Rd):Int×Rd:=(IntKind.i64.wrap ((ae bs lim 3 R).1:Nat),(ae bs lim 3 R).2)
def vk(bs:List Nat)(lim:Nat):Rd->Int×Rd:=dl (zeq bs lim) 0
def ic(bs:List Nat):Rd->Bool×Rd:=dl (fun R=>(decide ((ae bs 1 5 R).1=1),(ae bs 1 5 R).2)) false
def Ml(R:Rd)(a:Nat)(e:Int):(R.fail a e).at_=R.at_:=by unfold Rd.fail;split<;>rfl
def zcb{bs:List Nat}:∀ (f i acc:Nat) (R:Rd),R.at_<=bs.length->(M2 bs f i acc R).2.at_<=bs.length/\R.at_<=(M2 bs f i acc R).2.at_
 | 0,_,_,R,h=>⟨h,nu _⟩
 | f+1,i,acc,R,h=>by
  unfold M2
  cases hb:bs[R.at_]? with
  | none=>dsimp only;rw[Ml];exact⟨h,Nat.le_refl _⟩
  | some b=>
   have hlt:=get_lt hb;dsimp only;split
   ·dsimp only;rw[Ml];exact⟨h,Nat.le_refl _⟩
   ·split
    ·exact⟨hlt,zss _⟩
    ·have:=zcb f (i+1) (acc+b%128*128^i) ⟨R.at_+1,R.bad,R.err⟩ hlt;exact⟨this.1,mq (zss _) this.2⟩
def Q5(i:Nat):128^i=2^(7*i):=by rw[Nat.pow_mul]
def U0{acc b:Nat}(h:acc<128^i):acc+b%128*128^i<128^(i+1):=by
 rw[Nat.pow_succ];have h1:b%128<=127:=J;have h2:b%128*128^i<=127*128^i:=ztr _ h1;omega
end Go.V.L4
variable{R:Go.V.L4.Rd}
namespace Go.V
def xd(b:Nat)(cs:List Value)(ty:TypeId):GR where
 P _ u C:=u.heap[b]?=some (.cells cs.toArray ty)/\∀ k,C k↔k=b
 st:=fun⟨h1,h2⟩ _ _ _ hk=>⟨(hk b ((h2 b).2 rfl)).trans h1,h2⟩
def xe(b:Nat)(cs:List Value)(ty:TypeId):(xd b cs ty).res=xr b cs ty:=rfl
def jh(P:Program)(f:FuncId)(args:List Value)(w:World)(B:Heap)(C:Nat->Prop)(r:GR):Prop:=
 RetL P f args w B C fun _ H u=>∃ C',r.P H u C'/\∀ k,C' k->(C k\/w.heap.size<=k)/\k<u.heap.size/\H k=none
section
def xg(L:Tabs P)(q:Nat)(r':GR){r:GR}{fo:Operand}
  (hn:Nat.blt d n=true) (hg:gK ops κ ⟨some d,.call { callee:=.value fo,args:=args,argTypes:=at_ },ty,pos,aft,g⟩=some true)
  (hf:evK κ fo=some (.func (.func f) #[] cap.toArray)) (hfn:L.fn f=some ()) (hq:κ q=some (.own r.res))
  (h:∀ u H C,zwe H u->B.Le H->r.P H u C->(ZCB C u H)->Args κ H args.toList [] (fun vs=>jh P f (vs++cap) u H C r')):
  StepOK2 P F B n ops O κ ⟨some d,.call { callee:=.value fo,args:=args,argTypes:=at_ },ty,pos,aft,g⟩ q (.own r'.res) d lh:=by
 rintro κ' a u hlk hks ⟨H,fp,hh⟩;unfold After;rw[na (xn hh hlk hg)];have hk':κ' q=some (.own r.res):=hks.trans hq;obtain⟨hown,hM⟩:=hh.slot q _ hk';have e2:=hh.env hlk;have hfe:a.eval fo=.func (.func f) #[] cap.toArray:=e2.is_ fo _ (by simp [Op.operands,Call.operands]) hf;have hc:=Args.use e2 args.toList [] (fun x hx=>by simp [Op.operands,Call.operands] at hx |-;exact .inr hx) (h u H (fp q) hh.sub hh.base hown fun k hk=>⟨(hM k hk).1,(hM k hk).2.1⟩);simp only[zsz,mo] at hc;rw[fj L rfl hfe hfn];simp only[Upon];refine Calls.mono hc fun e' u' hp=>?_;obtain⟨v,rfl,H',g',C',hv,hC'⟩:=hp;have h2:=hh.usePut (d:=q) (a':=a) (r':=r'.res) hk' g' rfl rfl (fun _ _=>rfl) hv hC';rw[jt] at h2;exact⟨v,Z,H',_,h2.put (k:=lh) (zn hn) (fun _ _ _ h _=>h) trivial⟩
def zen(L:Tabs P){fn:Func}(hrs:fn.results=#[])(hQ:∀ a u,bodyPostM Fence.wide 0 P fn (dm F.w0 B0 F.L fun _ _ _=>True) .normal a u->Q .normal a u)(hs:Since F B0 B)(hm:zeu F.ds=true:=by rfl):N F B n O κ Q:=
 zjh hQ hs (hm:=hm) fun O' a u H fp _ hh=>by
  obtain⟨vs,h1,_⟩:=wu L hh (rs:=[]) hrs (zwd:=fun _=>True) trivial;exact⟨_,h1,nm⟩
def ig{x c y:Code}{zv9:Type}(Fk:zv9->List (Nat×Kn))(I:zv9->Prop)(Ob:zv9->Boxes)(hy:∀ t,I t->V P F B n (Ob t) (ofL (Fk t)) y Q)
  (h:V P F B n O κ x (Exit.then (fun a u=>c.wpIn (FW F.r) 0 P (Exit.then (fun a u=>∃ t,I t/\Has F B (Ob t) n (ofL (Fk t)) a u) Q) a u) (Exit.then (fun a u=>∃ t,I t/\Has F B (Ob t) n (ofL (Fk t)) a u) Q))):
  V P F B n O κ x (Exit.then (fun a u=>c.wpIn (FW F.r) 0 P (Exit.then (fun a u=>y.wpIn (FW F.r) 0 P Q a u) Q) a u) (Exit.then (fun a u=>y.wpIn (FW F.r) 0 P Q a u) Q)):=fun a u hh=>by
 have key:∀ e a u,Exit.then (fun a u=>∃ t,I t/\Has F B (Ob t) n (ofL (Fk t)) a u) Q e a u->Exit.then (fun a u=>y.wpIn (FW F.r) 0 P Q a u) Q e a u:=fun e a u he=>by
  cases e<;>first | exact he | (obtain⟨t,hI,hh⟩:=he;exact hy t hI a u hh)
 refine Go.wpIn_mono (h a u hh) fun e a u he=>?_;cases e<;>first | exact Go.wpIn_mono he key | exact he
def HasH.setSat{t:Nat}{a:Act}(hm:Kn.mono (.sat φ))(h:HasH F B O n κ a u H fp)(hφ:φ (a.eval (.tmp t)) H):HasH F B O n (upd κ t (.sat φ)) a u H fp:=
 ⟨h.size,h.defers,h.nodup,h.marks,h.lent,h.keep,h.sub,h.base,h.fresh,h.boxes,h.apart,fun s k hs=>by
  by_cases hst:s=t
  ·subst hst;rw[xq] at hs;cases hs;exact hφ
  ·rw[xk _ _ hst] at hs;exact h.slot s k hs,fun s r r1 r2 hsr h1 h2=>by
  have key:∀ x r,upd κ t (.sat φ) x=some (.own r)->κ x=some (.own r):=fun x r hx=>by
   by_cases hxd:x=t
   ·subst hxd;rw[xq] at hx;cases hx
   ·rw[xk _ _ hxd] at hx;exact hx
  exact h.owns s r r1 r2 hsr (key _ _ h1) (key _ _ h2),fun s k hs=>by
  by_cases hst:s=t
  ·subst hst;rw[xq] at hs;cases hs;exact hm
  ·rw[xk _ _ hst] at hs;exact h.mono s k hs⟩
def SlG(e:TypeId)(s n:Nat)(xs:List Value):Res where
 P x H u C:=(n=0/\xs=[]/\SlV e s [] 0 true x H/\∀ k,¬ C k)\/(SlR e s n xs).P x H u C
 st:=fun h hle hs ho hk=>by
  rcases h with ⟨h1,h2,h3,h4⟩ | h
  ·exact .inl ⟨h1,h2,h3.le hle,h4⟩
  ·exact .inr ((SlR e s n xs).st h hle hs ho hk)
def Has.toG{t:Nat}{a:Act}(hk:κ t=some (.sat (SlV e s [] 0 true)))(h:Has F B O n κ a u):Has F B O n (upd κ t (.own (SlG e s 0 []))) a u:=by
 obtain⟨H,fp,h⟩:=h;exact⟨H,_,h.putR (C:=noL) (a':=a) Z Z (fun _ _=>rfl) (.inl ⟨rfl,rfl,h.slot t _ hk,fun _ h=>h⟩) (fun k hk=>hk.elim) (fun _ _ _ _ _ _ hk=>hk.elim)⟩
def zql(t:Nat){c:Code}(hk:κ t=some (.sat (SlV e s [] 0 true)))(h:V P F B n O (upd κ t (.own (SlG e s 0 []))) c Q):V P F B n O κ c Q:=fun a u hh=>h a u (hh.toG hk)
def Has.pubG{t:Nat}{a:Act}(hk:κ t=some (.own (SlG e s m xs)))(h:Has F B O n κ a u):Has F B O n (upd κ t (.sat (SlV e s xs m false))) a u:=by
 obtain⟨H,fp,h⟩:=h;obtain⟨hv,hM⟩:=h.slot t _ hk;rcases hv with ⟨rfl,rfl,h3,_⟩ | hv
 ·exact⟨H,fp,h.setSat ns h3.nofu⟩
 ·have h2:=h.putR (d:=t) (r:=SlR e s m xs) (C:=fp t) (a':=a) rfl rfl (fun _ _=>rfl) hv hM (fun t' r' hne hk' k hf hc=>h.owns t' t _ _ hne hk' hk k hf hc);have h3:=Has.pubR (t:=t) (xq _ _ _) ⟨H,_,h2⟩
  rwa [jt] at h3
def zot(t:Nat){c:Code}(hk:κ t=some (.own (SlG e s m xs)))(h:V P F B n O (upd κ t (.sat (SlV e s xs m false))) c Q):V P F B n O κ c Q:=fun a u hh=>h a u (hh.pubG hk)
def G8(L:Tabs P)(hm:0<m)(hn:Nat.blt d n=true)(hg:gK ops κ ⟨some d,.call ⟨.builtin .append,#[.tmp q,y],#[t,t]⟩,ty,pos,aft,g⟩=some true)
  (hq:κ q=some (.own (SlG e s nn xs))) (hy:Apd F B O κ y m news) (ht:L.sl t=some e) (he:elI P e=some (s,by_)) (hl:news.length=m*s) (h1:news.all wz=true) (hb:(nn+m)*by_<=140737488355328) (h63:nn+m<=9223372036854775807):
  StepOK2 P F B n ops O κ ⟨some d,.call ⟨.builtin .append,#[.tmp q,y],#[t,t]⟩,ty,pos,aft,g⟩ q lh d (.own (SlG e s (nn+m) (xs++news))):=by
 rintro κ' a u hlk hks ⟨H,fp,hh⟩;unfold After;rw[na (xn hh hlk hg)];have en:=hh.env hlk;obtain⟨i,z,hi,hz,hs1,hs2,hs3,hs4⟩:=uo he;have hk':κ' q=some (.own (SlG e s nn xs)):=hks.trans hq;obtain⟨hown,hM⟩:=hh.slot q _ hk';have hyv:=hy _ a u H fp (by simp [Op.operands,Call.operands]) en;have h1':∀ v∈news,v.oneCell'=true:=fun v hv=>pq (zr3.1 h1 v hv)
 have hap:∃ x' u' C',(Builtin.append_ #[t,t] ty #[a.eval (.tmp q),a.eval y]).run P u=.ok x' u'/\(SlR e s (nn+m) (xs++news)).P x' H u' C'/\Grow (fp q) u H u' H/\∀ k,C' k->(fp q k\/u.heap.size<=k)/\k<u'.heap.size/\H k=none:=by
  rcases hown with ⟨rfl,rfl,h3,hC⟩ | hown
  ·have hxx:a.eval (.tmp q)=.slice none 0 0\/∃ a0,a.eval (.tmp q)=.slice (some a0) 0 0:=by
    obtain⟨hl3,⟨_,p0,hx⟩ | ⟨b,off,cap,cs,ty0,fr,hx,hb1,_,hcp,hfu⟩⟩:=h3
    ·cases p0 with
     | none=>exact .inl hx
     | some a0=>exact .inr ⟨a0,hx⟩
    ·obtain rfl:=hfu rfl;exact .inr ⟨_,hx⟩
   rcases hxx with hx | ⟨a0,hx⟩
   ·refine Fz u (Tabs.sl_spec ht) hi hz hs1 hs2 hs3 hs4 hh.sub ⟨by simp,.inl ⟨rfl,hx,hC⟩⟩ (fun k hk=>⟨(hM k hk).1,(hM k hk).2.1⟩) hyv hl h1' h63 hb
   ·rcases hyv with ⟨rfl,_⟩ | ⟨ad,c,hye,hnews⟩
    ·omega
    ·subst hs1 hs2;have hr:=run_append_grow (P:=P) u t ty e i z (Tabs.sl_spec ht) hi hz a0 0 0 [] (by simp) (fun j v hj=>by simp at hj) ad m c news hl hnews J J (growslice_fits J hb);rw[hx,hye];have hmx:0+m<=maxLen:=by simp only[maxLen];omega
     have hge:=grownCap_ge u (0+m) 0 e
     refine⟨_,_,fun k=>k=u.heap.size,hr,⟨by simpa using hl,.inr ⟨u.heap.size,_,(Builtin.zeroCells z.cells (grownCap u (0+m) 0 e-(0+m))).toList,rfl,?_,hge,grownCap_le_maxLen u (0+m) 0 e hmx,?_,fun _=>Iff.rfl⟩⟩,⟨⟨rfl,rfl,rfl,by simp,fun k hk _=>ws u.drew _ hk,zss _⟩,fun k v hv=>by
      have:=hh.sub.size hv;show(u.drew.alloc _).heap[k]?=some v;rw[ws u.drew _ this];exact hh.sub k v hv,mw _,fun _ _ _=>rfl⟩,fun k hk=>by
      subst hk;exact⟨.inr (nu _),by simp,jm hh.sub (nu _)⟩⟩
     ·rw[show u.heap.size=u.drew.heap.size from rfl,heap_alloc_new];congr 2;apply Array.ext';simp
     ·rw[mo,nr,hl,zti,size_zeroCells,hs3,<-zst];congr 1;omega
  ·exact Fz u (Tabs.sl_spec ht) hi hz hs1 hs2 hs3 hs4 hh.sub hown (fun k hk=>⟨(hM k hk).1,(hM k hk).2.1⟩) hyv hl h1' h63 hb
 obtain⟨x',u',C',hr,hown',hgr,hC'⟩:=hap
 have hrun:(execOp a.eval ⟨some d,.call ⟨.builtin .append,#[.tmp q,y],#[t,t]⟩,ty,pos,aft,g⟩).run P u=.ok (.value x') u':=by
  simp only[execOp,resolve,invoke,builtin,nw,me,ny,zr9,mt,zr7,hr]
 rw[hrun];simp only[Upon];exact⟨H,_,hh.usePut hk' hgr (by simp [Act.put]) Z (fun t ht=>xy ht) (by rw[kg (by rw[hh.size];exact zn hn)];exact .inr hown') hC'⟩
end
end Go.V
namespace Go.V
def RetX(P:Program)(f:FuncId)(args:List Value)(w:World)(B:Heap)(C:Nat->Prop)(r:GR)(v:Value):Prop:=
 RetL P f args w B C fun x H u=>x=v/\∃ C',r.P H u C'/\∀ k,C' k->(C k\/w.heap.size<=k)/\k<u.heap.size/\H k=none
section
def yj(L:Tabs P)(q:Nat)(r':GR)(v:Value){r:GR}{fo:Operand}
  (hn:Nat.blt d n=true) (hg:gK ops κ ⟨some d,.call { callee:=.value fo,args:=args,argTypes:=at_ },ty,pos,aft,g⟩=some true)
  (hf:evK κ fo=some (.func (.func f) #[] cap.toArray)) (hfn:L.fn f=some ()) (hq:κ q=some (.own r.res))
  (h:∀ u H C,zwe H u->B.Le H->r.P H u C->(ZCB C u H)->Args κ H args.toList [] (fun vs=>RetX P f (vs++cap) u H C r' v)):
  StepOK2 P F B n ops O κ ⟨some d,.call { callee:=.value fo,args:=args,argTypes:=at_ },ty,pos,aft,g⟩ q (.own r'.res) d (.is v):=by
 rintro κ' a u hlk hks ⟨H,fp,hh⟩;unfold After;rw[na (xn hh hlk hg)];have hk':κ' q=some (.own r.res):=hks.trans hq;obtain⟨hown,hM⟩:=hh.slot q _ hk';have e2:=hh.env hlk;have hfe:a.eval fo=.func (.func f) #[] cap.toArray:=e2.is_ fo _ (by simp [Op.operands,Call.operands]) hf;have hc:=Args.use e2 args.toList [] (fun x hx=>by simp [Op.operands,Call.operands] at hx |-;exact .inr hx) (h u H (fp q) hh.sub hh.base hown fun k hk=>⟨(hM k hk).1,(hM k hk).2.1⟩);simp only[zsz,mo] at hc;rw[fj L rfl hfe hfn];simp only[Upon];refine Calls.mono hc fun e' u' hp=>?_;obtain⟨x,rfl,H',g',hx,C',hv,hC'⟩:=hp;have h2:=hh.usePut (d:=q) (a':=a) (r':=r'.res) hk' g' rfl rfl (fun _ _=>rfl) hv hC';rw[jt] at h2;exact⟨x,Z,H',_,h2.put (k:=.is v) (zn hn) trivial hx⟩
def kj(L:Tabs P){fn:Func}(gs:Nat){r r':GR}{rs:List ResultVar}(hrs:fn.results=rs.toArray)
  (hQ:∀ a u,bodyPostM Fence.wide 0 P fn (dm F.w0 B0 F.L fun x H u=>x=v/\∃ C',r'.P H u C'/\∀ k,C' k->(F.L k\/F.w0.heap.size<=k)/\k<u.heap.size/\H k=none) .ret a u->Q .ret a u) (hs:Since F B0 B) (hk:κ gs=some (.own r.res)) (e:r=r')
  (h:∀ H,F4 L F B O κ H rs [] (fun vs=>tup vs=v)) (hd:F.ds=[]:=by rfl):V P F B n O κ .ret Q:=fun a u hh=>by
 obtain⟨H,fp,hH⟩:=hh;refine wpIn_ret (hQ a u ?_);have h0:=hH.defers;rw[hd] at h0;show LeavesInM _ _ _ _ _ _ a.defers _ _;rw[h0];subst e;obtain⟨vs,h1,h2⟩:=wu L hH hrs (h H);obtain⟨C',h3,h4⟩:=HasH.ghost hk hH;exact⟨_,h1,_,rfl,H,⟨hH.keep,hH.sub,hs.le.trans hH.base,fun k hk hl=>(hH.fresh k hk hl).trans (hs.fresh k hk hl)⟩,h2,C',h3,h4⟩
def Tm{k:IntKind}{q:Int}(hn:Nat.blt d n=true)(hg:gK ops κ ⟨some d,.binOp .shl t x y t',ty,pos,aft,g⟩=some true)(hx:evK κ x=some (.int k p))(hy:evK κ y=some (.int k2 q))(h0:0<=q)(hb:k.wrap (p*2^min q.toNat k.bits)=r):
  StepOK P F B n ops O κ ⟨some d,.binOp .shl t x y t',ty,pos,aft,g⟩ d (.is (.int k r)):=uk hn hg hx hy fun u=>by subst hb;simp [eqGuard_shl,binOp_shl,Op.shift,Int.not_lt.2 h0]
def zbn{k:IntKind}{q:Int}(hn:Nat.blt d n=true)(hg:gK ops κ ⟨some d,.binOp .xor t x y t',ty,pos,aft,g⟩=some true)(hx:evK κ x=some (.int k p))(hy:evK κ y=some (.int k q))(hb:bits .xor k p q=r):
  StepOK P F B n ops O κ ⟨some d,.binOp .xor t x y t',ty,pos,aft,g⟩ d (.is (.int k r)):=uk hn hg hx hy fun u=>by subst hb;simp [eqGuard_xor,binOp_xor,intBits_xor]
def Ap{id:Nat}{x y:Code}{R:Exit->Act->World->Prop}(hm:zoz P F B n R y Q)(h:V P F B n O κ x (Exit.inBlock id R)):V P F B n O κ x (Exit.inBlock id (Exit.then (fun a u=>y.wpIn (FW F.r) 0 P Q a u) Q)):=fun a u hh=>by
 have key:∀ e a u,R e a u->Exit.then (fun a u=>y.wpIn (FW F.r) 0 P Q a u) Q e a u:=fun e a u he=>by
  cases e<;>first | exact hm.1 a u he | exact hm.2 _ a u (by intro h;cases h) he
 refine Go.wpIn_mono (h a u hh) fun e a u he=>?_
 cases e with
 | exit j=>
  simp only[Exit.inBlock] at he |-;split at he
  ·rename_i h;rw[na h];exact key _ _ _ he
  ·rename_i h;rw[nc h];exact key _ _ _ he
 | _=>exact key _ _ _ he
end
def uC(d:Array Int):List Value:=d.toList.map (Value.int .u64)
def Dw(d:Array Int):(uC d).length=d.size:=by simp [uC]
def zia{d:Array Int}(h:j<d.size):(uC d)[j]?=some (.int .u64 d[j]!):=by
 unfold uC;rw[zr8,zt5,zsl h,getElem!_pos d j h];rfl
def pd{d:Array Int}(h:j<d.size)(off:Nat)(ho:off=0+j*1):∃ r,(uC d++rest).drop off=.int .u64 d[j]! ::r:=by
 subst ho;rw[zrw,zse];have hl:j<(uC d++rest).length:=by rw[nr,Dw];omega
 refine⟨(uC d++rest).drop (j+1),?_⟩;rw[zsc hl];congr 1;have:=zia h;rw[<-zs7 (l₂:=rest) (by rw[Dw];exact h),zrz hl] at this;exact Option.some.inj this
def u5{d:Array Int}(z:Int)(h:j<d.size)(off:Nat)(ho:off=0+j*1):(uC d++rest).take off++([.int .u64 z]++(uC d++rest).drop (off+1))=uC (d.setIfInBounds j z)++rest:=by
 subst ho;rw[zrw,zse]
 have h1:uC (d.setIfInBounds j z)=(uC d).set j (.int .u64 z):=by
  unfold uC;rw[zvz,List.map_set]
 rw[h1,zvf (by rw[Dw];omega),List.drop_append_of_le_length (by rw[Dw];omega),List.set_eq_take_append_cons_drop,na (by rw[Dw];exact h)];simp
def u7{d:Array Int}(h:j<d.size)(off:Nat)(ho:off=0+j*1):Nat.ble (off+1) (uC d++rest).length=true:=zuj (by rw[nr,Dw];omega)
def p7(d:Array Int)(i j:Nat):(d.setIfInBounds i d[j]!).setIfInBounds j d[i]! =Go.Sort.swp d i j:=rfl
def vi(d:Array Int)(i j:Nat):(Go.Sort.swp d i j).size=d.size:=by unfold Go.Sort.swp;rw[Array.size_setIfInBounds,Array.size_setIfInBounds]
end Go.V
namespace Go.V
section
variable             {a:Act}  
end
end Go.V
namespace Go.V
section
end
end Go.V
namespace Go.V
section
def zoy(B:Heap)(v:Value):Prop:=∀ b o k m c,v=.slice (some ⟨b,o,k⟩) m c->B b=none
end
end Go.V
namespace Go.V
section
def Ff{b:Nat}{L:Nat->Prop}{o:Obj}(hs:zwe H u)(hL:L b)(hH:H b=none):Grow L u H (u.putObj b o) H:=
 ⟨⟨rfl,rfl,rfl,zuf World.putObj_size.symm,fun k _ hk=>zvb (fun e=>hk (e ▸ hL)),nu _⟩,fun k x hx=>by
  have:k≠b:=fun e=>by subst e;rw[hH] at hx;cases hx
  show(u.putObj b o).heap[k]?=some x;rw[zvb this];exact hs k x hx,mw _,fun _ _ _=>rfl⟩
end
section
variable  {b:Frame} {a:Act} {k:List Item} {cs:List Frame} 
end
section
end
end Go.V
namespace Go.V
section
end
section
variable {V:Type} [DecidableEq zwd]
def dc(k:zwd):List (zwd×V)->Nat->Option (Nat×V)
 | [],_=>none
 | p::l,i=>if k=p.1 then some (i,p.2) else dc k l (i+1)
def g7(k:zwd)(l:List (zwd×V)):Option V:=(dc k l 0).map (·.2)
def Ro(k:zwd)(v:V):List (zwd×V)->List (zwd×V)
 | []=>[(k,v)]
 | p::l=>if k=p.1 then (p.1,v)::l else p::Ro k v l
def si(k:zwd):∀ (l:List (zwd×V)) (i:Nat),dc k l (i+1)=(dc k l i).map fun p=>(p.1+1,p.2)
 | [],_=>rfl
 | p::l,i=>by
  unfold dc;split
  ·rfl
  ·exact si k l (i+1)
def ud(k:zwd)(p:zwd×V)(l:List (zwd×V)):g7 k (p::l)=if k=p.1 then some p.2 else g7 k l:=by
 unfold g7;rw[dc];split
 ·rfl
 ·rw[si,Option.map_map];rfl
def Ty(k k':zwd)(v:V):∀ l:List (zwd×V),g7 k (Ro k' v l)=if k=k' then some v else g7 k l
 | []=>by rw[Ro,ud]
 | p::l=>by
  rw[Ro];split
  ·rename_i h;rw[ud,ud];by_cases h1:k=p.1
   ·rw[na h1,na (h1.trans h.symm)]
   ·rw[nc h1,nc (fun e=>h1 (e.trans h))];rw[nc h1]
  ·rename_i h;rw[ud,ud,Ty k k' v l];by_cases h1:k=p.1
   ·rw[na h1,nc (fun e=>h (e.symm.trans h1)),na h1]
   ·rw[nc h1,nc h1]
def E6{k:zwd}:∀ {l:List (zwd×V)} {i j:Nat} {x:V},dc k l i=some (j,x)->∃ n,j=i+n/\l[n]?=some (k,x)
 | [],_,_,_,h=>by cases h
 | p::l,i,j,x,h=>by
  unfold dc at h;split at h
  ·rename_i hk;cases h;exact⟨0,rfl,by subst hk;rfl⟩
  ·obtain⟨n,hn,hx⟩:=E6 h;exact⟨n+1,by omega,hx⟩
def t8{k:zwd}{v:V}:∀ {l:List (zwd×V)} {i:Nat},dc k l i=none->Ro k v l=l++[(k,v)]
 | [],_,_=>rfl
 | p::l,i,h=>by
  unfold dc at h;split at h
  ·cases h
  ·rename_i hk;rw[Ro,nc hk,t8 h];rfl
end
section
variable  {V:Type} [DecidableEq zwd] {kc:zwd->List Value} {vc:V->Value} {l:List (zwd×V)}  {ls:List Nat}
end
section
variable             {a:Act}     {ex:Exs}
variable {Y:Type} [DecidableEq zwd] {kc:zwd->List Value} {vc:Y->Value} {l:List (zwd×Y)}
end
end Go.V
namespace Go.V
def ju{l:List α}{x:α}(h:l[i]?=some x):l.take (i+1)=l.take i++[x]:=by
 rw[zr4,h];rfl
section
def Has.relE{t:Nat}{b:Nat}{a:Act}(hk:κ q=some (.own (xr b xs e)))(ht:κ t=some (.is (.slice (some ⟨b,0,none⟩) m m)))(hl:xs.length=m*s)(hm:m<=maxLen)(hh:Has F B O n κ a u):Has F B O n (upd (upd κ q lh) t (.own (SlE e s m xs))) a u:=by
 obtain⟨H,fp,hh⟩:=hh;obtain⟨⟨hb,hC⟩,hM⟩:=hh.slot q _ hk;have hx:a.eval (.tmp t)=.slice (some ⟨b,0,none⟩) m m:=hh.slot t _ ht;exact⟨H,_,hh.usePut (d:=t) (a':=a) (r':=SlE e s m xs) (C:=fp q) hk ⟨Keep.refl _ _,hh.sub,mw _,fun _ _ _=>rfl⟩ Z Z (fun _ _=>rfl) ⟨hl,.inr ⟨b,hx,hb,hm,hC⟩⟩ fun k hk=>⟨.inl hk,(hM k hk).1,(hM k hk).2.1⟩⟩
def zjd(t q:Nat){b:Nat}{c:Code}(hk:κ q=some (.own (xr b xs e)))(ht:κ t=some (.is (.slice (some ⟨b,0,none⟩) m m)))(hl:xs.length=m*s)(hm:m<=maxLen)
  (h:V P F B n O (upd (upd κ q lh) t (.own (SlE e s m xs))) c Q):V P F B n O κ c Q:=fun a u hh=>h a u (hh.relE hk ht hl hm)
def StepOK.seeV(h:StepOK P F B n ops O κ o d (.is v))(hv:SlV e s xs m fu v B):StepOK P F B n ops O κ o d (.sat (SlV e s xs m fu)):=fun κ' a u hl hh=>
 After.mono (fun a' u' hh'=>by
  have h2:=hh'.seen (t:=d) (SlV e s xs m fu) (xq _ _ _) ns hv
  rwa [jt] at h2) (h κ' a u hl hh)
def Has.pubH{b:Nat}{a:Act}(hk:κ q=some (.own (xr b cs t')))(hh:Has F B O n κ a u):∃ H,Since F B H/\B b=none/\H b=some (.cells cs.toArray t')/\Has F H O n (upd κ q lh) a u:=by
 obtain⟨H,fp,hh⟩:=hh;obtain⟨⟨hb,hC⟩,hM⟩:=hh.slot q _ hk;have hbm:=hM b ((hC b).2 rfl);obtain⟨H',h'⟩:=hh.pub (φ:=fun _ H=>H b=some (.cells cs.toArray t')) hk hb ((hC b).2 rfl) (fun _ _ _ h hle=>hle _ _ h) fun H' _ hb'=>hb';have hx:H' b=some (.cells cs.toArray t'):=h'.slot q _ (xq _ _ _);refine⟨H',h'.isSince,?_,hx,H',fp,?_⟩
 ·cases hB:B b with
  | none=>rfl
  | some z=>have:=hh.base _ _ hB;rw[hbm.2.1] at this;cases this
 ·have h2:=(h'.rebase).setSat (t:=q) (φ:=fun _ _=>True) (fun _ _ _ _ _=>trivial) trivial
  rwa [jt] at h2
def wx(q:Nat){b:Nat}{c:Code}(hk:κ q=some (.own (xr b cs t')))(h:∀ H,Since F B H->B b=none->H b=some (.cells cs.toArray t')->V P F H n O (upd κ q lh) c Q):V P F B n O κ c Q:=fun a u hh=>
 let ⟨H,h1,h2,h3,h4⟩:=hh.pubH hk;h H h1 h2 h3 a u h4
def My(L:Tabs P){fn:Func}{r:Res}{rs:List ResultVar}(hrs:fn.results=rs.toArray)
  (hQ:∀ a u,bodyPostM Fence.wide 0 P fn (dm F.w0 B0 F.L (zme F.w0 r)) .ret a u->Q .ret a u) (hs:Since F B0 B)
  (h:∀ H,F4 L F B O κ H rs [] (fun vs=>tup vs=v)) (hr:∀ H u,B.Le H->r.P v H u noL) (hd:F.ds=[]:=by rfl):V P F B n O κ .ret Q:=fun a u hh=>by
 obtain⟨H,fp,hH⟩:=hh;refine wpIn_ret (hQ a u ?_);have h0:=hH.defers;rw[hd] at h0;show LeavesInM _ _ _ _ _ _ a.defers _ _;rw[h0];obtain⟨vs,h1,h2⟩:=wu L hH hrs (h H);exact⟨_,h1,_,rfl,H,⟨hH.keep,hH.sub,hs.le.trans hH.base,fun k hk hl=>(hH.fresh k hk hl).trans (hs.fresh k hk hl)⟩,noL,by rw[h2];exact hr H u hH.base,fun _ h=>h.elim⟩
def V9(L:Tabs P){z b w:Nat}{p:Operand}(hm:Kn.mono (.sat φ))(hg:gK ops κ ⟨none,.store t p (.tmp w),ty,pos,aft,g⟩=some true)(hp:evK κ p=some (.pointer (some ⟨b,off,none⟩)))
  (hq:κ q=some (.own (xr b cs t'))) (hx:κ w=some (.sat φ)) (hl:L.ld t=some (ag,z)) (hv:∀ v H,φ v H->(ja v).length=z/\(ja v).all wz=true) (hcs:off+z<=cs.length):
  o4 P F B n ops O κ ⟨none,.store t p (.tmp w),ty,pos,aft,g⟩ q (.own (zo4 b t' (StP (fun c _=>c=cs) φ off z) (StP.mono (fun _ _ _ h _=>h) hm))):=by
 rintro κ' a u hlk hqk ⟨H,fp,hh⟩;unfold After;rw[na (xn hh hlk hg)];have e:=hh.env hlk;have hev:=e.sat_ w φ (by simp [Op.operands]) hx;have hes:=e.is_ p _ (by simp [Op.operands]) hp;have hqs:=hqk.trans hq;obtain⟨⟨hb,hC⟩,hM⟩:=hh.slot q _ hqs;generalize hv':a.eval (.tmp w)=v at hev;obtain⟨hlen,hpl⟩:=hv v H hev
 have hrun:(execOp a.eval ⟨none,.store t p (.tmp w),ty,pos,aft,g⟩).run P u=.ok .skip (u.setRow b (cs.take off++(ja v++cs.drop (off+z))).toArray):=by
  simp only[execOp,hes,hv',Instr.storeAt,Instr.sureAddr,nw,me,ny];have:=ub (P:=P) (off:=off) (Tabs.ld_spec hl) hb hlen hcs hpl;rw[this];simp
 rw[hrun];simp only[Upon,Act.put];have hset:=setRow_heap u b cs.toArray (cs.take off++(ja v++cs.drop (off+z))).toArray t' (0,0) hb;have hbm:=hM b ((hC b).2 rfl)
 have:=hh.usePut (d:=q) (a':=a) (r':=zo4 b t' (StP (fun c _=>c=cs) φ off z) (StP.mono (fun _ _ _ h _=>h) hm)) (C:=fun k=>k=b) hqs (wv hh.sub hb ((hC b).2 rfl) hbm.2.1 _) rfl rfl (fun _ _=>rfl) ⟨_,⟨cs,v,rfl,hev,rfl⟩,hset,fun _=>Iff.rfl⟩ (fun k hk=>by
  subst hk;exact⟨.inl ((hC k).2 rfl),by rw[setRow_size];exact hbm.1,hbm.2.1⟩)
 rw[jt] at this;exact⟨H,_,this⟩
end
section
variable             {Y:Type} [DecidableEq zwd] {kc:zwd->List Value} {vc:Y->Value} {l:List (zwd×Y)}
end
end Go.V
namespace Go.V
section
end
end Go.V
namespace Go.V
def SlW(e:TypeId)(s n:Nat)(xs:List Value):Value->Heap->Prop:=fun v H=>xs.length=n*s/\((n=0/\v=.slice none 0 0)\/∃ b cap rest,v=.slice (some ⟨b,0,none⟩) n cap/\H b=some (.cells (xs++rest).toArray e)/\n<=cap/\cap<=maxLen/\(xs++rest).length=cap*s)
def SlW.toV(h:SlW e s n xs v H):SlV e s xs n false v H:=⟨h.1,by
 rcases h.2 with ⟨h1,h2⟩ | ⟨b,cap,rest,h1,h2,h3,_,_⟩
 ·exact .inl ⟨h1,_,h2⟩
 ·exact .inr ⟨b,0,cap,_,_,(0,0),h1,h2,by show((xs++rest).drop 0).take xs.length=_;rw[zsj,zu4],h3,fun h=>by cases h⟩⟩
section
def Has.pubW{t:Nat}{a:Act}(hk:κ t=some (.own (SlR e s m xs)))(hh:Has F B O n κ a u):∃ x H,Since F B H/\zoy B x/\SlW e s m xs x H/\Has F H O n (upd κ t (.is x)) a u:=by
 obtain⟨H,fp,hh⟩:=hh;obtain⟨⟨hl,hv⟩,hM⟩:=hh.slot t _ hk;rcases hv with ⟨h0,hv,hC⟩ | ⟨b,cap,rest,hv,hb,h3,h4,h5,hC⟩
 ·exact⟨_,H,hh.isSince,(fun b o k m c e=>by rw[hv] at e;cases e),⟨hl,.inl ⟨h0,hv⟩⟩,H,fp,(hh.name t).rebase⟩
 ·have hbm:=hM b ((hC b).2 rfl);obtain⟨H',h'⟩:=hh.pub (φ:=fun v H=>v=.slice (some ⟨b,0,none⟩) m cap/\H b=some (.cells (xs++rest).toArray e)) hk hb ((hC b).2 rfl) (fun _ _ _ h hle=>⟨h.1,hle _ _ h.2⟩) fun H' _ hb'=>⟨hv,hb'⟩
  have hx:=h'.slot t _ (xq _ _ _)
  have hB:B b=none:=by
   cases hB:B b with
   | none=>rfl
   | some z=>have:=hh.base _ _ hB;rw[hbm.2.1] at this;cases this
  have h2:=(h'.name t).rebase;rw[jt] at h2;exact⟨_,H',h'.isSince,(fun b' o k m c e=>by rw[hv] at e;cases e;exact hB),⟨hl,.inr ⟨b,cap,rest,hv,hx.2,h3,h4,h5⟩⟩,H',fp,h2⟩
def P4(t:Nat){c:Code}(hk:κ t=some (.own (SlR e s m xs)))(h:∀ x H,Since F B H->zoy B x->SlW e s m xs x H->V P F H n O (upd κ t (.is x)) c Q):V P F B n O κ c Q:=fun a u hh=>
 let ⟨x,H,h1,h2,h3,h4⟩:=hh.pubW hk;h x H h1 h2 h3 a u h4
def Xj(L:Tabs P){b cap:Nat}(hn:Nat.blt d n=true)(hg:gK ops κ ⟨some d,.call ⟨.builtin .append,#[x,y],#[t,t]⟩,ty,pos,aft,g⟩=some true)
  (hx:evK κ x=some (.slice (some ⟨b,0,none⟩) nn cap)) (hq:κ q=some (.own (xr b (xs++rest) e))) (hxl:xs.length=nn*s) (hnc:nn<=cap) (hcm:cap<=maxLen) (hcl:(xs++rest).length=cap*s) (hy:Apd F B O κ y m news) (ht:L.sl t=some e) (he:elI P e=some (s,by_)) (hl:news.length=m*s) (h1:news.all wz=true) (hb:(nn+m)*by_<=140737488355328) (h63:nn+m<=9223372036854775807):
  StepOK2 P F B n ops O κ ⟨some d,.call ⟨.builtin .append,#[x,y],#[t,t]⟩,ty,pos,aft,g⟩ q lh d (.own (SlR e s (nn+m) (xs++news))):=by
 rintro κ' a u hlk hks ⟨H,fp,hh⟩;unfold After;rw[na (xn hh hlk hg)];have en:=hh.env hlk;obtain⟨i,z,hi,hz,hs1,hs2,hs3,hs4⟩:=uo he;have hxe:=en.is_ x _ (by simp [Op.operands,Call.operands]) hx;have hk':κ' q=some (.own (xr b (xs++rest) e)):=hks.trans hq;obtain⟨⟨hb',hC⟩,hM⟩:=hh.slot q _ hk';have hown:(SlR e s nn xs).P (.slice (some ⟨b,0,none⟩) nn cap) H u (fp q):=⟨hxl,.inr ⟨b,cap,rest,rfl,hb',hnc,hcm,hcl,hC⟩⟩
 obtain⟨x',u',C',hr,hown',hgr,hC'⟩:=Fz u (aty:=ty) (Tabs.sl_spec ht) hi hz hs1 hs2 hs3 hs4 hh.sub hown (fun k hk=>⟨(hM k hk).1,(hM k hk).2.1⟩) (hy _ a u H fp (by simp [Op.operands,Call.operands]) en) hl (fun v hv=>pq (zr3.1 h1 v hv)) h63 hb
 have hrun:(execOp a.eval ⟨some d,.call ⟨.builtin .append,#[x,y],#[t,t]⟩,ty,pos,aft,g⟩).run P u=.ok (.value x') u':=by
  simp only[execOp,resolve,invoke,builtin,nw,me,ny,zr9,mt,zr7,hxe,hr]
 rw[hrun];simp only[Upon];exact⟨H,_,hh.usePut hk' hgr (by simp [Act.put]) Z (fun t ht=>xy ht) (by rw[kg (by rw[hh.size];exact zn hn)];exact hown') hC'⟩
end
def Has.nilAt(g:Nat)(e:TypeId)(s:Nat){a:Act}(hh:Has F B O n κ a u):Has F B O n (upd κ g (.own (AtV (.slice none 0 0) (SlR e s 0 [])))) a u:=by
 obtain⟨H,fp,hh⟩:=hh;exact⟨H,_,hh.putR (C:=noL) (a':=a) Z Z (fun _ _=>rfl) ⟨by simp,.inl ⟨rfl,rfl,fun _ h=>h⟩⟩ (fun _ h=>h.elim) fun _ _ _ _ _ _ h=>h⟩
def B6(g:Nat)(e:TypeId)(s:Nat){c:Code}(h:V P F B n O (upd κ g (.own (AtV (.slice none 0 0) (SlR e s 0 [])))) c Q):V P F B n O κ c Q:=fun a u hh=>h a u (hh.nilAt g e s)
end Go.V
namespace Go.V
def ej(r1 r2:Res):Res where
 P v H u C:=∃ C1 C2:Nat->Prop,r1.P v H u C1/\r2.P v H u C2/\(∀ k,C k↔C1 k\/C2 k)/\∀ k,C1 k->¬ C2 k
 st:=fun⟨C1,C2,h1,h2,h3,h4⟩ hle hs ho hk=>⟨C1,C2,r1.st h1 hle hs ho fun k hc=>hk k ((h3 k).2 (.inl hc)),r2.st h2 hle hs ho fun k hc=>hk k ((h3 k).2 (.inr hc)),h3,h4⟩
def gz(r1 r2:GR):GR where
 P H u C:=∃ C1 C2:Nat->Prop,r1.P H u C1/\r2.P H u C2/\(∀ k,C k↔C1 k\/C2 k)/\∀ k,C1 k->¬ C2 k
 st:=fun⟨C1,C2,h1,h2,h3,h4⟩ hle hs ho hk=>⟨C1,C2,r1.st h1 hle hs ho fun k hc=>hk k ((h3 k).2 (.inl hc)),r2.st h2 hle hs ho fun k hc=>hk k ((h3 k).2 (.inr hc)),h3,h4⟩
def w9(r1 r2:GR):(gz r1 r2).res=ej r1.res r2.res:=rfl
def GEx{X:Type}(r:X->GR)(φ:X->Heap->Prop)(hφ:ij φ):GR where
 P H u C:=∃ x,φ x H/\(r x).P H u C
 st:=fun⟨x,h1,h2⟩ hle hs hon hk=>⟨x,hφ _ _ _ h1 hle,(r x).st h2 hle hs hon hk⟩
section
variable              {a:Act}  
def Has.part{g1:Nat}(hne:q≠g1)(hg1:∀ v v' H u C,r2.P v H u C->r2.P v' H u C)(hk:κ q=some (.own (ej r1 r2)))(h:Has F B O n κ a u):Has F B O n (upd (upd κ q (.own r1)) g1 (.own r2)) a u:=by
 obtain⟨H,fp,hh⟩:=h;obtain⟨⟨C1,C2,h1,h2,h3,h4⟩,hM⟩:=hh.slot q _ hk;have e2:=hh.putR (d:=q) (r:=r1) (C:=C1) (a':=a) rfl rfl (fun _ _=>rfl) h1 (fun k hk'=>hM k ((h3 k).2 (.inl hk'))) (fun t r' hne' hk' k hf hc=>hh.owns t q _ _ hne' hk' hk k hf ((h3 k).2 (.inl hc)))
 have e3:=e2.putR (d:=g1) (r:=r2) (C:=C2) (a':=a) rfl rfl (fun _ _=>rfl) (hg1 _ _ _ _ _ h2) (fun k hk'=>hM k ((h3 k).2 (.inr hk'))) (fun t r' hne' hk' k hf hc=>by
  by_cases e:t=q
  ·subst e;rw[Ae] at hf;exact h4 k hf hc
  ·rw[a8 _ _ e] at hf;rw[xk _ _ e] at hk';exact hh.owns t q _ _ e hk' hk k hf ((h3 k).2 (.inr hc)))
 exact⟨H,_,e3⟩
def Has.join2{g1:Nat}(hne:q≠g1)(hg1:∀ v v' H u C,r2.P v H u C->r2.P v' H u C)(hk:κ q=some (.own r1))(hk1:κ g1=some (.own r2))(h:Has F B O n κ a u):Has F B O n (upd (upd κ g1 lh) q (.own (ej r1 r2))) a u:=by
 obtain⟨H,fp,hh⟩:=h;obtain⟨h1,hM⟩:=hh.slot q _ hk;obtain⟨h2,hM1⟩:=hh.slot g1 _ hk1;have e1:=hh.drop1 g1;have hkq:upd κ g1 lh q=some (.own r1):=by rw[xk _ _ hne];exact hk
 have e2:=e1.putR (d:=q) (r:=ej r1 r2) (C:=fun k=>fp q k\/fp g1 k) (a':=a) rfl rfl (fun _ _=>rfl) ⟨fp q,fp g1,h1,hg1 _ _ _ _ _ h2,fun _=>Iff.rfl,hh.owns q g1 _ _ hne hk hk1⟩
  (fun k hk'=>hk'.elim (hM k) (hM1 k)) (fun t r' hne' hk' k hf hc=>by
   by_cases e:t=g1
   ·subst e;rw[xq] at hk';cases hk'
   ·rw[xk _ _ e] at hk';rcases hc with hc | hc
    ·exact hh.owns t q _ _ hne' hk' hk k hf hc
    ·exact hh.owns t g1 _ _ e hk' hk1 k hf hc)
 exact⟨H,_,e2⟩
def ug(q g1:Nat){c:Code}(hk:κ q=some (.own (ej r1 r2)))(hg1:∀ v v' H u C,r2.P v H u C->r2.P v' H u C)(h:V P F B n O (upd (upd κ q (.own r1)) g1 (.own r2)) c Q)(hne:q≠g1:=by decide):V P F B n O κ c Q:=fun a u hh=>h a u (hh.part hne hg1 hk)
def jy(q g1:Nat){c:Code}(hk:κ q=some (.own r1))(hk1:κ g1=some (.own r2))(hg1:∀ v v' H u C,r2.P v H u C->r2.P v' H u C)(h:V P F B n O (upd (upd κ g1 lh) q (.own (ej r1 r2))) c Q)(hne:q≠g1:=by decide):V P F B n O κ c Q:=fun a u hh=>h a u (hh.join2 hne hg1 hk hk1)
def s4(q g1:Nat)(hk:κ q=some (.own r1))(hk1:κ g1=some (.own r2))(hg1:∀ v v' H u C,r2.P v H u C->r2.P v' H u C)(h:N F B n O (upd (upd κ g1 lh) q (.own (ej r1 r2))) Q)(hne:q≠g1:=by decide):N F B n O κ Q:=fun a u hh=>h a u (hh.join2 hne hg1 hk hk1)
def Qe(q g1:Nat)(hk:κ q=some (.own (ej r1 r2)))(hg1:∀ v v' H u C,r2.P v H u C->r2.P v' H u C)(h:VO P F B n O ops (upd (upd κ q (.own r1)) g1 (.own r2)) os Q)(hne:q≠g1:=by decide):VO P F B n O ops κ os Q:=fun a u hh=>h a u (hh.part hne hg1 hk)
def wd(q g1:Nat)(hk:κ q=some (.own r1))(hk1:κ g1=some (.own r2))(hg1:∀ v v' H u C,r2.P v H u C->r2.P v' H u C)(h:VO P F B n O ops (upd (upd κ g1 lh) q (.own (ej r1 r2))) os Q)(hne:q≠g1:=by decide):VO P F B n O ops κ os Q:=fun a u hh=>h a u (hh.join2 hne hg1 hk hk1)
def xi(r:GR):∀ (v v':Value) H u C,r.res.P v H u C->r.res.P v' H u C:=fun _ _ _ _ _ h=>h
def bq(b:Nat)(cs:List Value)(ty:TypeId):∀ (v v':Value) H u C,(xr b cs ty).P v H u C->(xr b cs ty).P v' H u C:=fun _ _ _ _ _ h=>h
def Sd(x:Value)(r:Res):∀ (v v':Value) H u C,(AtV x r).P v H u C->(AtV x r).P v' H u C:=fun _ _ _ _ _ h=>h
def Has.turnO{t:Nat}{r r':Res}(hk:κ t=some (.own r))(hr:∀ v H u C,B.Le H->r.P v H u C->r'.P v H u C)(h:Has F B O n κ a u):Has F B O n (upd κ t (.own r')) a u:=by
 obtain⟨H,fp,h⟩:=h;exact⟨H,fp,h.turnR hk (hr _ _ _ _ h.base (h.slot t _ hk).1)⟩
def wn(t:Nat){r:Res}(r':Res){c:Code}(hk:κ t=some (.own r))(hr:∀ v H u C,B.Le H->r.P v H u C->r'.P v H u C)(h:V P F B n O (upd κ t (.own r')) c Q):V P F B n O κ c Q:=fun a u hh=>h a u (hh.turnO hk hr)
def zmf(t:Nat){r:Res}(r':Res)(hk:κ t=some (.own r))(hr:∀ v H u C,B.Le H->r.P v H u C->r'.P v H u C)(h:N F B n O (upd κ t (.own r')) Q):N F B n O κ Q:=fun a u hh=>h a u (hh.turnO hk hr)
def RetY(P:Program)(f:FuncId)(args:List Value)(w:World)(B:Heap)(C:Nat->Prop)(r:GR)(φ:Value->Heap->Prop):Prop:=
 RetL P f args w B C fun x H u=>φ x H/\∃ C',r.P H u C'/\∀ k,C' k->(C k\/w.heap.size<=k)/\k<u.heap.size/\H k=none
def RetY.mono{f:FuncId}{args:List Value}{w:World}{C:Nat->Prop}{r:GR}{φ ψ:Value->Heap->Prop}(h:RetY P f args w B C r φ)(hi:∀ v H,B.Le H->φ v H->ψ v H):RetY P f args w B C r ψ:=RetL.mono h fun v H u hg hp=>⟨hi v H hg.le hp.1,hp.2⟩
def RetX.toY{f:FuncId}{args:List Value}{r:GR}(h:RetX P f args w B C r v):RetY P f args w B C r (fun x _=>x=v):=RetL.mono h fun _ _ _ _ hp=>hp
def t5(L:Tabs P)(q:Nat)(r':GR)(φ:Value->Heap->Prop){r:GR}{fo:Operand}
  (hn:Nat.blt d n=true) (hg:gK ops κ ⟨some d,.call { callee:=.value fo,args:=args,argTypes:=at_ },ty,pos,aft,g⟩=some true)
  (hf:evK κ fo=some (.func (.func f) #[] cap.toArray)) (hfn:L.fn f=some ()) (hq:κ q=some (.own r.res)) (hm:Kn.mono (.sat φ))
  (h:∀ u H C,zwe H u->B.Le H->r.P H u C->(ZCB C u H)->Args κ H args.toList [] (fun vs=>RetY P f (vs++cap) u H C r' φ)):
  StepOK2 P F B n ops O κ ⟨some d,.call { callee:=.value fo,args:=args,argTypes:=at_ },ty,pos,aft,g⟩ q (.own r'.res) d (.sat φ):=by
 rintro κ' a u hlk hks ⟨H,fp,hh⟩;unfold After;rw[na (xn hh hlk hg)];have hk':κ' q=some (.own r.res):=hks.trans hq;obtain⟨hown,hM⟩:=hh.slot q _ hk';have e2:=hh.env hlk;have hfe:a.eval fo=.func (.func f) #[] cap.toArray:=e2.is_ fo _ (by simp [Op.operands,Call.operands]) hf;have hc:=Args.use e2 args.toList [] (fun x hx=>by simp [Op.operands,Call.operands] at hx |-;exact .inr hx) (h u H (fp q) hh.sub hh.base hown fun k hk=>⟨(hM k hk).1,(hM k hk).2.1⟩);simp only[zsz,mo] at hc;rw[fj L rfl hfe hfn];simp only[Upon];refine Calls.mono hc fun e' u' hp=>?_;obtain⟨x,rfl,H',g',hx,C',hv,hC'⟩:=hp;have h2:=hh.usePut (d:=q) (a':=a) (r':=r'.res) hk' g' rfl rfl (fun _ _=>rfl) hv hC';rw[jt] at h2;exact⟨x,rfl,H',_,h2.put (k:=.sat φ) (zn hn) hm hx⟩
def w6(L:Tabs P){fn:Func}(gs:Nat){r r':GR}{rs:List ResultVar}(hrs:fn.results=rs.toArray)
  (hQ:∀ a u,bodyPostM Fence.wide 0 P fn (dm F.w0 B0 F.L fun x H u=>φ x H/\∃ C',r'.P H u C'/\∀ k,C' k->(F.L k\/F.w0.heap.size<=k)/\k<u.heap.size/\H k=none) .ret a u->Q .ret a u) (hs:Since F B0 B) (hk:κ gs=some (.own r.res)) (e:r=r')
  (h:∀ H,B.Le H->F4 L F B O κ H rs [] (fun vs=>φ (tup vs) H)) (hd:F.ds=[]:=by rfl):V P F B n O κ .ret Q:=fun a u hh=>by
 obtain⟨H,fp,hH⟩:=hh;refine wpIn_ret (hQ a u ?_);have h0:=hH.defers;rw[hd] at h0;show LeavesInM _ _ _ _ _ _ a.defers _ _;rw[h0];subst e;obtain⟨vs,h1,h2⟩:=wu L hH hrs (h H hH.base);obtain⟨C',h3,h4⟩:=HasH.ghost hk hH;exact⟨_,h1,_,rfl,H,⟨hH.keep,hH.sub,hs.le.trans hH.base,fun k hk hl=>(hH.fresh k hk hl).trans (hs.fresh k hk hl)⟩,h2,C',h3,h4⟩
end
end Go.V
namespace Go.V
section
variable             {a:Act}      {ex:Exs}
def Fw{b:Nat}(hb:u.heap[b]?=some (.cells cs.toArray t))(off j:Nat):u.cell? ((⟨b,off,none⟩:Addr).add j)=cs[off+j]?:=by
 rw[ut,je hb];simp
def Ci(hn:news=(cs.drop off).take k)(hj:news[j]?=some v):cs[off+j]?=some v:=by
 subst hn;rw[zvg] at hj;split at hj
 ·rwa [ztg] at hj
 ·cases hj
def Ef{i:TypeInfo}{b c:Nat}{ty0:TypeId}{ad:Addr}{c':Nat}{news:List Value}(ht:P.underlying t=some (.slice e))(hi:P.info? e=some i)(hb:u.heap[b]?=some (.cells cur.toArray ty0))(hl:news.length=k*i.size)(hk:Nat.min m' m=k)(hcl:off+news.length<=cur.length)
  (h1:∀ v∈news,v.oneCell'=true) (hy:∀ j v,news[j]?=some v->u.cell? (ad.add j)=some v):
  (Builtin.copy_ #[t,ti] ty #[.slice (some ⟨b,off,none⟩) m c,.slice (some ad) m' c']).run P u=.ok (goInt k) (u.setRow b (cur.take off++(news++cur.drop (off+news.length))).toArray):=by
 have hf:=run_firstCells_some (P:=P) u i.size k ad m' c' news hl hy;have hst:=gm (P:=P) b ty0 off news 0 cur.toArray u hb (by simpa using hcl) h1;simp only[zug,mp] at hst;simp [Builtin.copy_,run_underlying ht,Builtin.lenOf,sizeOf,typeInfo,hi,hk,hf,hst]
def Lm(L:Tabs P){b m c m':Nat}{t t':TypeId}{cur all cur':List Value}(k:Nat)(hn:Nat.blt d n=true)(hg:gK ops κ ⟨some d,.call ⟨.builtin .copy,#[x,y],#[t,ti]⟩,ty,pos,aft,g⟩=some true)
  (hx:evK κ x=some (.slice (some ⟨b,off,none⟩) m c)) (hq:κ q=some (.own (xr b cur t'))) (hy:Apd F B O κ y m' all) (ht:L.sl t=some e) (he:elI P e=some (s,by_)) (hm:0<m') (hk:Nat.min m' m=k) (hal:k*s<=all.length) (hnews:all.take (k*s)=news) (hcl:off+k*s<=cur.length) (h1:news.all wz=true)
  (hr:cur.take off++(news++cur.drop (off+k*s))=cur'):
  StepOK2 P F B n ops O κ ⟨some d,.call ⟨.builtin .copy,#[x,y],#[t,ti]⟩,ty,pos,aft,g⟩ q (.own (xr b cur' t')) d (.is (.int .i64 k)):=by
 rintro κ' a u hlk hks ⟨H,fp,hh⟩;unfold After;rw[na (xn hh hlk hg)];have en:=hh.env hlk;have hk':κ' q=some (.own (xr b cur t')):=hks.trans hq;have hxe:=en.is_ x _ (by simp [Op.operands,Call.operands]) hx;obtain⟨⟨hb,hC⟩,hM⟩:=hh.slot q _ hk';obtain⟨i,z,hi,hz,hs1,hs2,hs3,hs4⟩:=uo he;subst hs1;have hnl:news.length=k*i.size:=by rw[<-hnews,mh,zsv hal]
 rcases hy _ a u H fp (by simp [Op.operands,Call.operands]) en with ⟨h0,_⟩ | ⟨ad,c',hye,hcy⟩
 ·omega
 have hrun0:=Ef (P:=P) (ty:=ty) (ti:=ti) (c:=c) (c':=c') (Tabs.sl_spec ht) hi hb hnl hk (by rw[hnl];exact hcl) (fun v hv=>pq (zr3.1 h1 v hv)) (ad:=ad) (fun j v hj=>hcy j v (by
  rw[<-hnews,zvg] at hj;split at hj
  ·exact hj
  ·cases hj))
 rw[hnl,hr] at hrun0
 have hrun:(execOp a.eval ⟨some d,.call ⟨.builtin .copy,#[x,y],#[t,ti]⟩,ty,pos,aft,g⟩).run P u=.ok (.value (goInt k)) (u.setRow b cur'.toArray):=by
  simp only[execOp,resolve,invoke,builtin,nw,me,ny,zr9,mt,zr7,hxe,hye,hrun0]
 rw[hrun];simp only[Upon];have hbm:=hM b ((hC b).2 rfl)
 have h2:=hh.usePut (d:=q) (a':=a) (r':=xr b cur' t') (C:=fun k=>k=b) hk' (wv hh.sub hb ((hC b).2 rfl) hbm.2.1 _) rfl rfl (fun _ _=>rfl) ⟨setRow_heap u b cur.toArray cur'.toArray t' (0,0) hb,fun _=>Iff.rfl⟩ (fun k hk=>by
  subst hk;exact⟨.inl ((hC k).2 rfl),by rw[setRow_size];exact hbm.1,hbm.2.1⟩)
 rw[jt] at h2;exact⟨H,_,h2.put (k:=.is (.int .i64 k)) (zn hn) trivial Z⟩
def zb1(L:Tabs P){b c off2 c':Nat}(k:Nat)(hn:Nat.blt d n=true)(hg:gK ops κ ⟨some d,.call ⟨.builtin .copy,#[x,y],#[t,ti]⟩,ty,pos,aft,g⟩=some true)
  (hx:evK κ x=some (.slice (some ⟨b,off,none⟩) m c)) (hq:κ q=some (.own (xr b cur t'))) (hy:evK κ y=some (.slice (some ⟨b,off2,none⟩) m' c')) (ht:L.sl t=some e) (he:elI P e=some (s,by_)) (hk:Nat.min m' m=k) (hnews:(cur.drop off2).take (k*s)=news) (hnl:news.length=k*s) (hcl:off+k*s<=cur.length) (h1:news.all wz=true)
  (hr:cur.take off++(news++cur.drop (off+k*s))=cur'):
  StepOK2 P F B n ops O κ ⟨some d,.call ⟨.builtin .copy,#[x,y],#[t,ti]⟩,ty,pos,aft,g⟩ q (.own (xr b cur' t')) d (.is (.int .i64 k)):=by
 rintro κ' a u hlk hks ⟨H,fp,hh⟩;unfold After;rw[na (xn hh hlk hg)];have en:=hh.env hlk;have hk':κ' q=some (.own (xr b cur t')):=hks.trans hq;have hxe:=en.is_ x _ (by simp [Op.operands,Call.operands]) hx;have hye:=en.is_ y _ (by simp [Op.operands,Call.operands]) hy;obtain⟨⟨hb,hC⟩,hM⟩:=hh.slot q _ hk';obtain⟨i,z,hi,hz,hs1,hs2,hs3,hs4⟩:=uo he;subst hs1;have hrun0:=Ef (P:=P) (ty:=ty) (ti:=ti) (c:=c) (c':=c') (Tabs.sl_spec ht) hi hb hnl hk (by rw[hnl];exact hcl) (fun v hv=>pq (zr3.1 h1 v hv)) (ad:=⟨b,off2,none⟩) (fun j v hj=>(Fw hb off2 j).trans (Ci hnews.symm hj));rw[hnl,hr] at hrun0
 have hrun:(execOp a.eval ⟨some d,.call ⟨.builtin .copy,#[x,y],#[t,ti]⟩,ty,pos,aft,g⟩).run P u=.ok (.value (goInt k)) (u.setRow b cur'.toArray):=by
  simp only[execOp,resolve,invoke,builtin,nw,me,ny,zr9,mt,zr7,hxe,hye,hrun0]
 rw[hrun];simp only[Upon];have hbm:=hM b ((hC b).2 rfl)
 have h2:=hh.usePut (d:=q) (a':=a) (r':=xr b cur' t') (C:=fun k=>k=b) hk' (wv hh.sub hb ((hC b).2 rfl) hbm.2.1 _) rfl rfl (fun _ _=>rfl) ⟨setRow_heap u b cur.toArray cur'.toArray t' (0,0) hb,fun _=>Iff.rfl⟩ (fun k hk=>by
  subst hk;exact⟨.inl ((hC k).2 rfl),by rw[setRow_size];exact hbm.1,hbm.2.1⟩)
 rw[jt] at h2;exact⟨H,_,h2.put (k:=.is (.int .i64 k)) (zn hn) trivial Z⟩
def Ez(L:Tabs P){b cap off2 c':Nat}(hn:Nat.blt d n=true)(hg:gK ops κ ⟨some d,.call ⟨.builtin .append,#[x,y],#[t,t]⟩,ty,pos,aft,g⟩=some true)
  (hx:evK κ x=some (.slice (some ⟨b,0,none⟩) nn cap)) (hq:κ q=some (.own (xr b cur e))) (hy:evK κ y=some (.slice (some ⟨b,off2,none⟩) m' c')) (ht:L.sl t=some e) (he:elI P e=some (s,by_)) (hnews:(cur.drop off2).take (m'*s)=news) (hnl:news.length=m'*s) (hroom:nn+m'<=cap) (hcl:nn*s+m'*s<=cur.length) (h1:news.all wz=true)
  (hr:cur.take (nn*s)++(news++cur.drop (nn*s+m'*s))=cur'):
  StepOK2 P F B n ops O κ ⟨some d,.call ⟨.builtin .append,#[x,y],#[t,t]⟩,ty,pos,aft,g⟩ q (.own (xr b cur' e)) d (.is (.slice (some ⟨b,0,none⟩) (nn+m') cap)):=by
 rintro κ' a u hlk hks ⟨H,fp,hh⟩;unfold After;rw[na (xn hh hlk hg)];have en:=hh.env hlk;have hk':κ' q=some (.own (xr b cur e)):=hks.trans hq;have hxe:=en.is_ x _ (by simp [Op.operands,Call.operands]) hx;have hye:=en.is_ y _ (by simp [Op.operands,Call.operands]) hy;obtain⟨⟨hb,hC⟩,hM⟩:=hh.slot q _ hk';obtain⟨i,z,hi,hz,hs1,hs2,hs3,hs4⟩:=uo he;subst hs1;have hrun0:=run_append_room (P:=P) u t ty e i (Tabs.sl_spec ht) hi b nn cap cur.toArray hb ⟨b,off2,none⟩ m' c' news hnl (fun j v hj=>(Fw hb off2 j).trans (Ci hnews.symm hj)) (fun v hv=>pq (zr3.1 h1 v hv)) hroom (by rw[hnl];simpa using hcl);rw[hnl] at hrun0;simp only[mp] at hrun0;rw[hr] at hrun0
 have hrun:(execOp a.eval ⟨some d,.call ⟨.builtin .append,#[x,y],#[t,t]⟩,ty,pos,aft,g⟩).run P u=.ok (.value (.slice (some ⟨b,0,none⟩) (nn+m') cap)) (u.setRow b cur'.toArray):=by
  simp only[execOp,resolve,invoke,builtin,nw,me,ny,zr9,mt,zr7,hxe,hye,hrun0]
 rw[hrun];simp only[Upon];have hbm:=hM b ((hC b).2 rfl)
 have h2:=hh.usePut (d:=q) (a':=a) (r':=xr b cur' e) (C:=fun k=>k=b) hk' (wv hh.sub hb ((hC b).2 rfl) hbm.2.1 _) rfl rfl (fun _ _=>rfl) ⟨setRow_heap u b cur.toArray cur'.toArray e (0,0) hb,fun _=>Iff.rfl⟩ (fun k hk=>by
  subst hk;exact⟨.inl ((hC k).2 rfl),by rw[setRow_size];exact hbm.1,hbm.2.1⟩)
 rw[jt] at h2;exact⟨H,_,h2.put (k:=.is _) (zn hn) trivial Z⟩
def Xi(L:Tabs P){b cap:Nat}{t t':TypeId}{kn:IntKind}{zs:List Value}(hn:Nat.blt d n=true)(hg:gK ops κ ⟨some d,.call ⟨.builtin .append,#[x,y],#[t,ti]⟩,ty,pos,aft,g⟩=some true)
  (hx:evK κ x=some (.slice (some ⟨b,0,none⟩) nn cap)) (hq:κ q=some (.own (xr b cur t'))) (hy:evK κ y=some (.int .i64 k)) (ht:L.sl t=some e) (hti:P.underlying ti=some (.int kn)) (he:elI P e=some (s,by_)) (hz:L.zr e=some z) (h0:0<k) (hg2:cap<nn+k) (hxs:cur.take (nn*s)=xs) (hxl:nn*s<=cur.length) (hzs:(Builtin.zeroCells z.cells k).toList=zs)
  (hb:(nn+k)*by_<=140737488355328) (h63:nn+k<=4611686018427387904):
  StepOKR P F B n ops O κ ⟨some d,.call ⟨.builtin .append,#[x,y],#[t,ti]⟩,ty,pos,aft,g⟩ q d (.own (SlR e s (nn+k) (xs++zs))):=by
 rintro κ' a u hlk hks ⟨H,fp,hh⟩;unfold After;rw[na (xn hh hlk hg)];have en:=hh.env hlk;have hk':κ' q=some (.own (xr b cur t')):=hks.trans hq;have hxe:=en.is_ x _ (by simp [Op.operands,Call.operands]) hx;have hye:=en.is_ y _ (by simp [Op.operands,Call.operands]) hy;obtain⟨⟨hbb,hC⟩,hM⟩:=hh.slot q _ hk';obtain⟨i,z',hi,hz',hs1,hs2,hs3,hs4⟩:=uo he
 have hzz:i.zero=some z:=by
  have:=Tabs.zr_spec hz;unfold zrI at this;rw[hi] at this;exact this
 rw[hz'] at hzz;obtain rfl:=Option.some.inj hzz;subst hs1;subst hs2
 have hold:(Builtin.firstCells i.size nn (.slice (some ⟨b,0,none⟩) nn cap)).run P u.drew=.ok xs.toArray u.drew:=run_firstCells_some (P:=P) u.drew i.size nn ⟨b,0,none⟩ nn cap xs (by rw[<-hxs,mh,zsv hxl]) fun j v hj=>by
  have hb2:u.drew.heap[b]?=some (.cells cur.toArray t'):=hbb;rw[Fw hb2 0 j,zrw];rw[<-hxs,zvg] at hj;split at hj
  ·exact hj
  ·cases hj
 have hkb:k*i.bytes<=(nn+k)*i.bytes:=ztr _ J;have hns:=growslice_fits hg2 hb;have hr:=Lib.run_append_grow_zeros (P:=P) u t ti ty e i z' .i64 kn (Tabs.sl_spec ht) hti hi hz' (some ⟨b,0,none⟩) nn cap xs hold k h0 hs4 hg2 J J hns
 have hrun:(execOp a.eval ⟨some d,.call ⟨.builtin .append,#[x,y],#[t,ti]⟩,ty,pos,aft,g⟩).run P u=.ok (.value (.slice (some ⟨u.heap.size,0,none⟩) (nn+k) (grownCap u (nn+k) cap e))) (u.drew.alloc (.cells (xs.toArray++Builtin.zeroCells z'.cells k++Builtin.zeroCells z'.cells (grownCap u (nn+k) cap e-(nn+k))) e)):=by
  simp only[execOp,resolve,invoke,builtin,nw,me,ny,zr9,mt,zr7,hxe,hye,hr]
 rw[hrun];simp only[Upon];have hge:=grownCap_ge u (nn+k) cap e;have hmx:nn+k<=maxLen:=by simp only[maxLen];omega
 have hxl2:xs.length=nn*i.size:=by rw[<-hxs,mh,zsv hxl]
 have hzl:zs.length=k*i.size:=by rw[<-hzs,zti,size_zeroCells,hs3]
 have hg3:=hh.grow (u':=u.drew.alloc (.cells (xs.toArray++Builtin.zeroCells z'.cells k++Builtin.zeroCells z'.cells (grownCap u (nn+k) cap e-(nn+k))) e)) (H':=H) ⟨⟨rfl,rfl,rfl,by simp,fun k hk _=>ws u.drew _ hk,zss _⟩,fun k v hv=>by
  have:=hh.sub.size hv;show(u.drew.alloc _).heap[k]?=some v;rw[ws u.drew _ this];exact hh.sub k v hv,mw _,fun _ _ _=>rfl⟩
 refine⟨H,_,hg3.putR (C:=fun k=>k=u.heap.size) (by simp [Act.put]) Z (fun t ht=>xy ht) ⟨by rw[nr,hxl2,hzl,zst],.inr ⟨u.heap.size,_,(Builtin.zeroCells z'.cells (grownCap u (nn+k) cap e-(nn+k))).toList,kg (by rw[hh.size];exact zn hn),?_,hge,grownCap_le_maxLen u (nn+k) cap e hmx,?_,fun _=>Iff.rfl⟩⟩ (fun k hk=>?_) fun t r' htd ht k hf hk=>?_⟩
 ·rw[show u.heap.size=u.drew.heap.size from rfl,heap_alloc_new];congr 2;apply Array.ext';simp [<-hzs]
 ·have hz2:(Builtin.zeroCells z'.cells (grownCap u (nn+k) cap e-(nn+k))).toList.length=(grownCap u (nn+k) cap e-(nn+k))*i.size:=(zti).trans (by rw[size_zeroCells,hs3]);rw[nr,nr,hz2,hxl2,hzl,<-zst,<-zst];congr 1;omega
 ·subst hk;exact⟨by simp,jm hh.sub (nu _),.inl hh.keep.size,fun y hy e=>by have:=xl (hh.boxes y hy).1;omega⟩
 ·have:=((hh.slot t _ ht).2 k hf).1;omega
def Ra(L:Tabs P){w b len cap:Nat}{t t':TypeId}{te:TypeId}{fo:Operand}{tR:TypeId}(hn:Nat.blt d n=true)(hg:gK ops κ ⟨some d,.call { callee:=.value fo,args:=#[.tmp w,y],argTypes:=at_ },ty,pos,aft,g⟩=some true)
  (hfo:evK κ fo=some (.func (.func f) #[] #[])) (hext:∀ args u,(callFunc f args).run P u=((Extern.SlicesOverlaps.overlaps #[t,t] #[tR] args).run P u).andThen fun v w'=>.ok (.value v) w')
  (hx:κ w=some (.sat (SlB cs te len))) (hy:evK κ y=some (.slice (some ⟨b,off,none⟩) m cap)) (hq:κ q=some (.own (xr b cur t'))) (ht:L.sl t=some e) (hl:L.ld e=some (ag,s)) (hc:0<cur.length):
  StepOKR P F B n ops O κ ⟨some d,.call { callee:=.value fo,args:=#[.tmp w,y],argTypes:=at_ },ty,pos,aft,g⟩ q d (.is (.bool false)):=by
 rintro κ' a u hlk hks ⟨H,fp,hh⟩;unfold After;rw[na (xn hh hlk hg)];have en:=hh.env hlk;have hk':κ' q=some (.own (xr b cur t')):=hks.trans hq;have hfe:a.eval fo=.func (.func f) #[] #[]:=en.is_ fo _ (by simp [Op.operands,Call.operands]) hfo;have hye:=en.is_ y _ (by simp [Op.operands,Call.operands]) hy;obtain⟨b2,hxe,hb2⟩:=en.sat_ w _ (by simp [Op.operands,Call.operands]) hx;obtain⟨⟨hbb,hC⟩,hM⟩:=hh.slot q _ hk';have hbm:=hM b ((hC b).2 rfl);have hne:b2≠b:=fun e=>by subst e;rw[hbm.2.1] at hb2;cases hb2
 have hb2':=en.sub _ _ hb2;have hsz:∀ w,(Go.sizeOf e).run P w=.ok s w:=jq (Tabs.ld_spec hl)
 have hr:=Lib.run_overlaps_apart (P:=P) u t tR e (Tabs.sl_spec ht) s hsz ⟨b2,0,none⟩ ⟨b,off,none⟩ len len m cap hne te t' cs.length cur.length
  (by simp [World.shape?,hp] at hb2' |-;simp [hb2']) (by simp [World.shape?,hbb]) J (by simp [World.frozen?,hp] at hb2' |-;simp [hb2']) (by simp [World.frozen?,hp] at hb2' |-;simp [hb2'])
 have hrun:(execOp a.eval ⟨some d,.call { callee:=.value fo,args:=#[.tmp w,y],argTypes:=at_ },ty,pos,aft,g⟩).run P u=.ok (.value (.bool false)) u:=by
  simp only[execOp,resolve,hfe,Deferred.ofValue,nw,me,ny,invoke];simp [hext,hxe,hye,hr]
 rw[hrun];simp only[Upon];exact⟨H,fp,hh.put (k:=.is (.bool false)) (zn hn) trivial Z⟩
def Xa(L:Tabs P){k:IntKind}(hn:Nat.blt d n=true)(hg:gK ops κ ⟨some d,.slice tt x (some y) none none,ty,pos,aft,g⟩=some true)
  (hx:evK κ x=some (.slice none 0 0)) (ht:L.sl tt=some e) (hl:L.ld e=some (ag,s))  (hy:evK κ y=some (.int k p)) (hp:p=(0:Nat)):
  StepOK P F B n ops O κ ⟨some d,.slice tt x (some y) none none,ty,pos,aft,g⟩ d (.is (.slice none 0 0)):=
 k9 rfl (zn hn) hg trivial fun a u H fp en=>⟨_,by
  have hu:=Tabs.sl_spec ht;have h1:=en.is_ x _ (by simp [Op.operands]) hx;have h2:=en.is_ y _ (by simp [Op.operands]) hy;subst hp
  have hrun:(Instr.sliceBounds true 0 0 (some (a.eval y)) none none).run P u=.ok (0,0,0) u:=by
   have h4:=fun c w=>jv (P:=P) 0 k 0 c (nu _) w;simp only[h2,Instr.sliceBounds,nw,h4,ny,me]
  simp only[execOp,h1,Instr.sliceAt,Instr.slice,nw,run_underlying hu,ny,zvj,ztx,hrun,jq (Tabs.ld_spec hl)];rfl,rfl⟩
def Ol(L:Tabs P){y1 y2 y3:Operand}{b cap:Nat}{k1 k3:IntKind}(i j l:Nat){p1 p2 p3:Int}(hn:Nat.blt d n=true)(hg:gK ops κ ⟨some d,.slice tt x (some y1) (some y2) (some y3),ty,pos,aft,g⟩=some true)
  (hx:evK κ x=some (.slice (some ⟨b,off,none⟩) m cap)) (ht:L.sl tt=some e) (hl:L.ld e=some (ag,s)) (h1:evK κ y1=some (.int k1 p1)) (h2:evK κ y2=some (.int k2 p2)) (h3:evK κ y3=some (.int k3 p3)) (e1:p1=i) (e2:p2=j) (e3:p3=l)
  (hij:i<=j) (hjl:j<=l) (hlc:l<=cap):
  StepOK P F B n ops O κ ⟨some d,.slice tt x (some y1) (some y2) (some y3),ty,pos,aft,g⟩ d (.is (.slice (some (if l=i then ⟨b,off,none⟩ else ⟨b,off+i*s,none⟩)) (j-i) (l-i))):=
 k9 rfl (zn hn) hg trivial fun a u H fp en=>⟨_,by
  have hu:=Tabs.sl_spec ht;subst e1 e2 e3;have q0:=en.is_ x _ (by simp [Op.operands]) hx;have q1:=en.is_ y1 _ (by simp [Op.operands]) h1;have q2:=en.is_ y2 _ (by simp [Op.operands]) h2;have q3:=en.is_ y3 _ (by simp [Op.operands]) h3
  have hrun:(Instr.sliceBounds true m cap (some (a.eval y1)) (some (a.eval y2)) (some (a.eval y3))).run P u=.ok (i,j,l) u:=by
   simp [q1,q2,q3,Instr.sliceBounds,jv i k1 _ _ hij,jv j k2 _ _ hjl,jv l k3 _ _ hlc]
  simp only[execOp,q0,Instr.sliceAt,Instr.slice,nw,run_underlying hu,ny,ztx,hrun,jq (Tabs.ld_spec hl),me];congr 3;split<;>simp [Addr.add],rfl⟩
end
end Go.V
namespace Go.V.L4
def _root_.Zak(t:Wr Y->A:=by intro h;refine z7 (qb L Z Z Z Z) Z ?_;exact h.1)(h:Y):A:=t ⟨h⟩
def _root_.Z8(t:Wr Y->A:=by intro h;refine z7 (yh Z Z Z Z (ng J)) Z ?_;exact h.1)(h:Y):A:=t ⟨h⟩
def _root_.ZH(t:Wr Y->A:=by intro h;refine z7 (yd Z Z Z Z M) Z ?_;exact h.1)(h:Y):A:=t ⟨h⟩
def _root_.Zas(t:Wr Y->A:=by intro h;refine z9 (qb L Z Z Z Z) Z ?_;exact h.1)(h:Y):A:=t ⟨h⟩
def _root_.Zd1(t:Wr Y->A:=by intro h;refine z9 (y9 L _ Z Z Z Z (by first | omega | decide) M) Z ?_;exact h.1)(h:Y):A:=t ⟨h⟩
def _root_.Zfg(t:Wr Y->A:=by intro h;refine z7 (yc Z Z Z) Z ?_;exact h.1)(h:Y):A:=t ⟨h⟩
def _root_.Zx(t:Wr Y->A:=by intro h;refine z7 (yh Z Z Z Z (nf J)) Z ?_;exact h.1)(h:Y):A:=t ⟨h⟩
def _root_.Zds(t:Wr Y->A:=by intro h;refine ye (qk L (q:=900) Z Z Z Z) ?_;exact h.1)(h:Y):A:=t ⟨h⟩
def _root_.Zej(t:Wr Y->A:=by intro h;refine z9 (yc Z Z Z) Z ?_;exact h.1)(h:Y):A:=t ⟨h⟩
def _root_.Zek(t:Wr Y->A:=by intro h;refine z7 (zbu Z Z Z Z (xb J J)) Z ?_;exact h.1)(h:Y):A:=t ⟨h⟩
def _root_.ZdB(t:Wr Y->A:=by intro h;refine qy (qk L (q:=900) Z Z Z Z) Z Z ?_;exact h.1)(h:Y):A:=t ⟨h⟩
def _root_.Zcg(t:Wr Y->A:=by intro h;refine z9 (yh Z Z Z Z (ng J)) Z ?_;exact h.1)(h:Y):A:=t ⟨h⟩
def _root_.ZU(t:Wr Y->A:=by intro h;refine zh (id:=13) ?_;exact h.1)(h:Y):A:=t ⟨h⟩
def _root_.ZaP(t:Wr Y->A:=by intro h;refine zh (id:=14) ?_;exact h.1)(h:Y):A:=t ⟨h⟩
def _root_.Zbo(t:Wr Y->A:=by intro h;refine z7 (zbz L Z Z Z Z) Z ?_;exact h.1)(h:Y):A:=t ⟨h⟩
def _root_.ZbX(t:Wr Y->A:=by intro h;refine z9 (Oo L Z Z Z Z Z) Z ?_;exact h.1)(h:Y):A:=t ⟨h⟩
def _root_.Zal(t:Wr Y->A:=by intro h;refine zh (id:=16) ?_;exact h.1)(h:Y):A:=t ⟨h⟩
def _root_.Zat(t:Wr Y->A:=by intro h;refine zh (id:=15) ?_;exact h.1)(h:Y):A:=t ⟨h⟩
def _root_.Zdg(t:Wr Y->A:=by intro h;refine z9 (yh Z Z Z Z (nf J)) Z ?_;exact h.1)(h:Y):A:=t ⟨h⟩
def _root_.Zel(t:Wr Y->A:=by intro h;refine qp (id:=5) [(200012,[900]),(200016,[900])] kr T ?_;exact h.1)(h:Y):A:=t ⟨h⟩
def _root_.Zdt(t:Wr Y->A:=by intro h;refine z9 (zbz L Z Z Z Z) Z ?_;exact h.1)(h:Y):A:=t ⟨h⟩
def _root_.Ze3(t:Wr Y->A:=by intro h;refine qp (id:=8) [(200029,[900]),(200033,[900])] kr T ?_;exact h.1)(h:Y):A:=t ⟨h⟩
def _root_.ZeE(t:Wr Y->A:=by intro h;refine z7 (zb7 Z Z Z Z M) Z ?_;exact h.1)(h:Y):A:=t ⟨h⟩
def _root_.ZeS(t:Wr Y->A:=by intro h;refine z7 (Tm Z Z Z Z J M) Z ?_;exact h.1)(h:Y):A:=t ⟨h⟩
def _root_.ZeF(t:Wr Y->A:=by intro h;refine z7 (zp1 Z Z Z Z M) Z ?_;exact h.1)(h:Y):A:=t ⟨h⟩
def _root_.Zfh(t:Wr Y->A:=by intro h;refine z7 (fz Z Z Z Z zp4 Z) Z ?_;exact h.1)(h:Y):A:=t ⟨h⟩
def _root_.ZeT(t:Wr Y->A:=by intro h;refine z7 (yt Z Z Z Z Z) Z ?_;exact h.1)(h:Y):A:=t ⟨h⟩
def _root_.Zam(t:Wr Y->A:=by exact fun h=>(Zfg∘Zak) h.1)(h:Y):A:=t ⟨h⟩
def _root_.Zn(t:Wr Y->A:=by exact fun h=>(ZL∘Za) h.1)(h:Y):A:=t ⟨h⟩
def _root_.Zbj(t:Wr Y->A:=by exact fun h=>(Zej∘Zas) h.1)(h:Y):A:=t ⟨h⟩
def _root_.ZR(t:Wr Y->A:=by exact fun h=>(Zam∘Zds) h.1)(h:Y):A:=t ⟨h⟩
def _root_.ZaU(t:Wr Y->A:=by exact fun h=>(Zl∘Zbj) h.1)(h:Y):A:=t ⟨h⟩
def _root_.Zbp(t:Wr Y->A:=by exact fun h=>(ZS∘Z1) h.1)(h:Y):A:=t ⟨h⟩
def _root_.Zai(t:Wr Y->A:=by exact fun h=>(ZM∘Za) h.1)(h:Y):A:=t ⟨h⟩
def _root_.ZaL(t:Wr Y->A:=by exact fun h=>(ZaU∘ZdB) h.1)(h:Y):A:=t ⟨h⟩
def _root_.ZaV(t:Wr Y->A:=by exact fun h=>(Zf∘Zb) h.1)(h:Y):A:=t ⟨h⟩
def _root_.Zba(t:Wr Y->A:=by exact fun h=>(Zf∘Zs) h.1)(h:Y):A:=t ⟨h⟩
def _root_.Zbk(t:Wr Y->A:=by exact fun h=>(Zb∘Zb) h.1)(h:Y):A:=t ⟨h⟩
def _root_.Zbx(t:Wr Y->A:=by exact fun h=>(Zi∘Z5) h.1)(h:Y):A:=t ⟨h⟩
def _root_.ZbI(t:Wr Y->A:=by exact fun h=>(Zb∘ZR) h.1)(h:Y):A:=t ⟨h⟩
def _root_.Zch(t:Wr Y->A:=by exact fun h=>(ZaP∘Za) h.1)(h:Y):A:=t ⟨h⟩
abbrev ft:TypeId:=256
abbrev k8(b:Nat):Value:=.pointer (some ⟨b,0,none⟩)
abbrev A3:TypeId:=5
abbrev BsV(bs:List Nat)(fu:Bool):Value->Heap->Prop:=SlV A3 1 (bs.map fun b:Nat=>Value.int .u8 (b:Int)) bs.length fu
abbrev rdC(sv:Value)(R:Rd):List Value:=[sv,.int .i64 R.at_,.int .i64 R.bad,.int .i64 R.err]
abbrev GRd(rb:Nat)(sv:Value)(R:Rd):GR:=xd rb (rdC sv R) ft
def zqh{b:Nat}(h:bs[i]?=some b):((bs.map fun b:Nat=>Value.int .u8 (b:Int)).drop (i*1)).take 1=[.int .u8 (b:Int)]:=by
 rw[zse,zsc (by rw[mg];exact get_lt h),ztu,zr0,List.getElem_map];congr 2;rw[ue h]
def _root_.Go.V.StepOKR.seeV(h:StepOKR P F B n ops O κ o q d (.is v))(hv:SlV e s xs m fu v B):StepOKR P F B n ops O κ o q d (.sat (SlV e s xs m fu)):=fun κ' a u hl hq hh=>
 After.mono (fun a' u' hh'=>by
  have h2:=hh'.seen (t:=d) (SlV e s xs m fu) (xq _ _ _) ns hv
  rwa [jt] at h2) (h κ' a u hl hq hh)
attribute [local irreducible] V N X VO Par StepOK Has Ret RetL RetO RetT jh RetX RetY Src
def rj{a:Nat}{e:Int}(hB:zwe B w)(hr:(GRd rb sv R).P B w C)(hC:ZCB C w B):
  jh zwf 210 [k8 rb,.int .i64 a,.int .i64 e] w B C (GRd rb sv (R.fail a e)):=by
 unfold jh;refine yz 900 (GRd rb sv R) Tryz.func210 Z Tryz.ntmps210 (np Z) hB hr hC ?_;rw[xe];obtain⟨at_,bad,err⟩:=R;by_cases h0:err=0
 ·subst h0;refine(ZT∘Za∘ZR) ?_;refine z7 (yh Z Z Z Z Z) Z ((Z1∘ZI∘Zbk∘Zam) ?_);refine xm (yq L (q:=900) (cs':=[sv,.int .i64 at_,.int .i64 a,.int .i64 0]) Z Z Z Z Z) (Zam (h:=?_));refine xm (yq L (q:=900) (cs':=[sv,.int .i64 at_,.int .i64 a,.int .i64 e]) Z Z Z Z Z) (Zah (h:=?_));exact ki L 900 (r:=xd rb _ ft) Z (fun _ _ h=>h) nq Z Z
 ·have hf:(⟨at_,bad,err⟩:Rd).fail a e=⟨at_,bad,err⟩:=nc h0;refine(ZT∘Za∘ZR∘Z8∘Zbu) ?_;exact ki L 900 (r:=xd rb _ ft) Z (fun _ _ h=>h) nq Z (by rw[hf])
def ky{f:Bool}(hf:decide (R.err≠0)=f)(hB:zwe B w)(hr:(GRd rb sv R).P B w C)(hC:ZCB C w B):
  RetX zwf 209 [k8 rb] w B C (GRd rb sv R) (.bool f):=by
 subst hf;unfold RetX;refine yz 900 (GRd rb sv R) Tryz.func209 Z Tryz.ntmps209 (np Z) hB hr hC ?_;rw[xe];obtain⟨at_,bad,err⟩:=R;refine(Zw∘Za∘Zfh∘ZbI∘ZeT∘Zf∘Zc) ?_;exact kj L 900 (r:=xd rb _ ft) (rs:=[.tmp 2]) Z (fun _ _ h=>h) nq Z Z (fun _=>rfl)
def G9{bs:List Nat}(hb:∀ b∈bs,b<=255)(hl:bs.length<=1099511627776)(hat:R.at_<=bs.length)(hB:zwe B w)(hs:BsV bs fu sv B)(hr:(GRd rb sv R).P B w C)(hC:ZCB C w B):
  RetX zwf 142 [k8 rb] w B C (GRd rb sv (Bo bs R).2) (.int .u64 ((Bo bs R).1:Nat)):=by
 obtain⟨p,c,rfl⟩:=ke hs;unfold RetX;refine yz 900 (GRd rb _ R) Tryz.func142 Z Tryz.ntmps142 (np Z) hB hr hC ?_;rw[xe];obtain⟨z,hz⟩:∃ z,Bo bs R=z:=⟨_,rfl⟩
 rw[hz];refine(Zw∘Zh∘Zn∘Zdq) ?_;refine xu (fun x:Nat×Nat×Rd=>[(0,.is (k8 rb)),(3,.is (.int .u64 x.2.1)),(6,.is (.int .i64 x.1)),(900,.own (xr rb (rdC (.slice p bs.length c) x.2.2) ft))]) (fun x=>x.1<=10/\x.2.1<128^x.1/\x.2.2.at_<=bs.length/\M2 bs (10-x.1) x.1 x.2.1 x.2.2=z) (fun x=>10-x.1) (0,0,R) ⟨mb _,by show(0:Nat)<128^0;decide,hat,hz⟩ ⟨Z,Z,Z,Z,nm⟩ ?_;rintro⟨i,acc,⟨at_,bad,err⟩⟩ ⟨hi,hacc,ha,hn⟩;dsimp only[rdC] at hi hacc ha hn |-;by_cases hlt:i<10
 ·obtain⟨f,hf⟩:∃ f,10-i=f+1:=⟨9-i,by omega⟩
  rw[hf] at hn;unfold M2 at hn
  cases hg:bs[at_]? with
  | none=>
   have hal:at_=bs.length:=by have:=zv3.1 hg;omega
   subst hal;dsimp only at hn;rw[hg] at hn;subst hn;refine(ZcA∘ZA∘Zt∘Zh∘Zel∘ZaL∘ZaL∘Zdt∘Zdg∘ZcI∘Zbx∘ZbI∘Zbo) ?_;refine qf (xg L 900 (GRd rb (.slice p bs.length c) ((⟨bs.length,bad,err⟩:Rd).fail bs.length 17)) (r:=GRd rb (.slice p bs.length c) ⟨bs.length,bad,err⟩) Z Z Z Z Z (fun u H C2 hH _ hr2 hC2=>rj hH hr2 hC2)) ((Zk∘Z7∘Zc) ?_);exact kj L 900 (r:=xd rb _ ft) (rs:=[.tmp 2]) Z (fun _ _ h=>h) nq Z Z (fun _=>rfl)
  | some b=>
   have hb255:b<=255:=hb b (mz hg);have hcr:=zqh hg;have hlt2:=get_lt hg;dsimp only at hn;rw[hg] at hn;dsimp only at hn;by_cases hbad:i=9/\b≠1\/0<i/\b=0
   ·rw[na hbad] at hn;subst hn;by_cases h9:i=9/\b≠1
    ·obtain⟨h9,h91⟩:=h9;refine(ZcA∘ZA∘Zt∘Zh∘Zel∘ZaL∘ZaL∘Zdt∘Zcg∘Zbv∘Zbt∘Ze3∘ZaU) ?_;refine qy (StepOKR.seeV (qk L (q:=900) Z Z Z Z) hs) Z Z ((ZaL∘Zd1∘ZbX∘Zy∘Zd∘Zai∘Zx∘Zb∘ZcT∘Zf∘Za9∘Zaw∘Zf∘Zr∘ZaH∘ZbI) ?_);refine qf (xg L 900 (GRd rb (.slice p bs.length c) ((⟨at_,bad,err⟩:Rd).fail at_ 5)) (r:=GRd rb (.slice p bs.length c) ⟨at_,bad,err⟩) Z Z Z Z Z (fun u H C2 hH _ hr2 hC2=>rj hH hr2 hC2)) ((Zk∘Zay∘Zc) ?_);exact kj L 900 (r:=xd rb _ ft) (rs:=[.tmp 2]) Z (fun _ _ h=>h) nq Z Z (fun _=>rfl)
    ·have h10:0<i/\b=0:=J;obtain⟨h10,h0b⟩:=h10;by_cases h9:i=9
     ·exfalso;omega
     ·refine(ZcA∘ZA∘Zt∘Zh∘Zel∘ZaL∘ZaL∘Zdt∘Zcg∘Zbv∘Zbt∘Ze3∘ZaU) ?_;refine qy (StepOKR.seeV (qk L (q:=900) Z Z Z Z) hs) Z Z ((ZaL∘Zd1∘ZbX∘Zy∘Zd∘Zai∘Z8∘ZcF∘ZaV∘ZN∘Zb∘Zx∘Zf∘Zf∘Zr∘ZaH∘ZbI) ?_);refine qf (xg L 900 (GRd rb (.slice p bs.length c) ((⟨at_,bad,err⟩:Rd).fail at_ 5)) (r:=GRd rb (.slice p bs.length c) ⟨at_,bad,err⟩) Z Z Z Z Z (fun u H C2 hH _ hr2 hC2=>rj hH hr2 hC2)) ((Zk∘Zay∘Zc) ?_);exact kj L 900 (r:=xd rb _ ft) (rs:=[.tmp 2]) Z (fun _ _ h=>h) nq Z Z (fun _=>rfl)
   ·rw[nc hbad] at hn;have hw1:IntKind.i64.wrap ((at_:Int)+1)=((at_+1:Nat):Int):=xb J J;have hand:=zma hb255;have hcv:IntKind.u64.wrap ((b%128:Nat):Int)=((b%128:Nat):Int):=wrap_u64 J J;have hpw:128^i<=128^9:=zvm E J
    have hnx:acc+b%128*128^i<2^64:=by
     by_cases h9:i=9
     ·have hb1:b=1:=J;subst h9;subst hb1;have:(128:Nat)^9=9223372036854775808:=E;omega
     ·have h1:=U0 (b:=b) hacc;have h2:128^(i+1)<=128^9:=zvm E J;have:(128:Nat)^9=9223372036854775808:=E;omega
    have hsh:IntKind.u64.wrap (((b%128:Nat):Int)*2^min (7*(i:Int)).toNat IntKind.u64.bits)=((b%128*128^i:Nat):Int):=by
     have e1:min (7*(i:Int)).toNat IntKind.u64.bits=7*i:=by
      show min (7*(i:Int)).toNat 64=7*i;omega
     rw[e1,show((b%128:Nat):Int)*2^(7*i)=((b%128*128^i:Nat):Int) by rw[Q5];push_cast;rfl];exact wrap_u64 J J
    have hor:bits .or .u64 (acc:Int) ((b%128*128^i:Nat):Int)=((acc+b%128*128^i:Nat):Int):=by
     rw[bits_or_u64_nat _ _ J J];congr 1;have:=zin (a:=acc) (b:=b%128) (i:=7*i) (by rw[<-Q5];exact hacc)
     rwa [<-Q5] at this
    have hwk:IntKind.i64.wrap ((i:Int)+1)=((i+1:Nat):Int):=xb J J;have hnl:=U0 (b:=b) hacc;generalize b%128*128^i=sh at hn hsh hor hnx hnl;by_cases hlast:b<128
    ·rw[na hlast] at hn;subst hn;by_cases h9:i=9
     ·have hb1:b=1:=J;subst hb1;refine(ZcA∘ZA∘Zt∘Zh∘Zel∘ZaL∘ZaL∘Zdt∘Zcg∘Zbv∘Zbt∘Ze3∘ZaU) ?_;refine qy (StepOKR.seeV (qk L (q:=900) Z Z Z Z) hs) Z Z ((ZaL∘Zd1∘ZbX∘Zy∘Zd∘Zai∘Zx∘Zb∘Zar∘ZaV∘ZN∘Zb∘Z8∘Zf∘Zba∘ZQ∘Za∘ZR∘ZH∘Zam) ?_);refine xm (yq L (q:=900) (cs':=[.slice p bs.length c,.int .i64 (at_+1:Nat),.int .i64 bad,.int .i64 err]) Z Z Z Z Z) ((Zk∘ZU∘Zb∘ZeE) ?_);refine z7 (kw Z Z Z io.1 io.2 (wrap_u64 J J)) Z ((Za∘Zek∘ZeS∘ZeF∘Ze∘Zch∘Zbp∘ZeC) ?_);refine oz Z ((Ze1∘ZdH∘Zdj∘Zi∘Zal∘Za∘Zc) ?_);exact kj L 900 (r:=xd rb _ ft) (rs:=[.tmp 2]) Z (fun _ _ h=>h) nq Z Z (fun _=>rfl)
     ·by_cases h0:0<i
      ·have hb0:b≠0:=J;refine(ZcA∘ZA∘Zt∘Zh∘Zel∘ZaL∘ZaL∘Zdt∘Zcg∘Zbv∘Zbt∘Ze3∘ZaU) ?_;refine qy (StepOKR.seeV (qk L (q:=900) Z Z Z Z) hs) Z Z ((ZaL∘Zd1∘ZbX∘Zy∘Zd∘Zai∘Z8∘ZcF∘ZaV∘ZN∘Zb∘Z8∘Zf∘Zba∘ZQ∘Za∘ZR∘ZH∘Zam) ?_);refine xm (yq L (q:=900) (cs':=[.slice p bs.length c,.int .i64 (at_+1:Nat),.int .i64 bad,.int .i64 err]) Z Z Z Z Z) ((Zk∘ZU∘Zb∘ZeE) ?_);refine z7 (kw Z Z Z io.1 io.2 (wrap_u64 J J)) Z ((Za∘Zek∘ZeS∘ZeF∘Ze∘Zch∘Zbp∘ZeC) ?_);refine oz Z ((Ze1∘ZdH∘Zdj∘Zi∘Zal∘Za∘Zc) ?_);exact kj L 900 (r:=xd rb _ ft) (rs:=[.tmp 2]) Z (fun _ _ h=>h) nq Z Z (fun _=>rfl)
      ·refine(ZcA∘ZA∘Zt∘Zh∘Zel∘ZaL∘ZaL∘Zdt∘Zcg∘Zbv∘Zbt∘Ze3∘ZaU) ?_;refine qy (StepOKR.seeV (qk L (q:=900) Z Z Z Z) hs) Z Z ((ZaL∘Zd1∘ZbX∘Zy∘Zd∘Zai∘Z8∘ZcF∘ZaV∘ZG∘ZcF∘Zf∘Zba∘ZQ∘Za∘ZR∘ZH∘Zam) ?_);refine xm (yq L (q:=900) (cs':=[.slice p bs.length c,.int .i64 (at_+1:Nat),.int .i64 bad,.int .i64 err]) Z Z Z Z Z) ((Zk∘ZU∘Zb∘ZeE) ?_);refine z7 (kw Z Z Z io.1 io.2 (wrap_u64 J J)) Z ((Za∘Zek∘ZeS∘ZeF∘Ze∘Zch∘Zbp∘ZeC) ?_);refine oz Z ((Ze1∘ZdH∘Zdj∘Zi∘Zal∘Za∘Zc) ?_);exact kj L 900 (r:=xd rb _ ft) (rs:=[.tmp 2]) Z (fun _ _ h=>h) nq Z Z (fun _=>rfl)
    ·rw[nc hlast] at hn;have h9:i≠9:=J;have hf9:f=10-(i+1):=J;rw[hf9] at hn;by_cases h0:0<i
     ·have hb0:b≠0:=J;refine(ZcA∘ZA∘Zt∘Zh∘Zel∘ZaL∘ZaL∘Zdt∘Zcg∘Zbv∘Zbt∘Ze3∘ZaU) ?_;refine qy (StepOKR.seeV (qk L (q:=900) Z Z Z Z) hs) Z Z ((ZaL∘Zd1∘ZbX∘Zy∘Zd∘Zai∘Z8∘ZcF∘ZaV∘ZN∘Zb∘Z8∘Zf∘Zba∘ZQ∘Za∘ZR∘ZH∘Zam) ?_);refine xm (yq L (q:=900) (cs':=[.slice p bs.length c,.int .i64 (at_+1:Nat),.int .i64 bad,.int .i64 err]) Z Z Z Z Z) ((Zk∘ZU∘Zb∘ZeE) ?_);refine z7 (kw Z Z Z io.1 io.2 (wrap_u64 J J)) Z ((Za∘Zek∘ZeS∘ZeF∘Ze∘Zch∘Zab∘Za1∘Zat∘ZH∘ZcH) ?_);exact yr (x:=(i,acc,⟨at_,bad,err⟩)) (i+1,acc+sh,⟨at_+1,bad,err⟩) ⟨hlt,hnl,hlt2,hn⟩ G ⟨Z,Z,Z,Z,nm⟩
     ·refine(ZcA∘ZA∘Zt∘Zh∘Zel∘ZaL∘ZaL∘Zdt∘Zcg∘Zbv∘Zbt∘Ze3∘ZaU) ?_;refine qy (StepOKR.seeV (qk L (q:=900) Z Z Z Z) hs) Z Z ((ZaL∘Zd1∘ZbX∘Zy∘Zd∘Zai∘Z8∘ZcF∘ZaV∘ZG∘ZcF∘Zf∘Zba∘ZQ∘Za∘ZR∘ZH∘Zam) ?_);refine xm (yq L (q:=900) (cs':=[.slice p bs.length c,.int .i64 (at_+1:Nat),.int .i64 bad,.int .i64 err]) Z Z Z Z Z) ((Zk∘ZU∘Zb∘ZeE) ?_);refine z7 (kw Z Z Z io.1 io.2 (wrap_u64 J J)) Z ((Za∘Zek∘ZeS∘ZeF∘Ze∘Zch∘Zab∘Za1∘Zat∘ZH∘ZcH) ?_);exact yr (x:=(i,acc,⟨at_,bad,err⟩)) (i+1,acc+sh,⟨at_+1,bad,err⟩) ⟨hlt,hnl,hlt2,hn⟩ G ⟨Z,Z,Z,Z,nm⟩
 ·have hf:10-i=0:=J;rw[hf] at hn;unfold M2 at hn;subst hn;refine(ZcA∘Zbh∘Zal∘Za∘Zc) ?_;exact kj L 900 (r:=xd rb _ ft) (rs:=[.tmp 2]) Z (fun _ _ h=>h) nq Z Z (fun _=>rfl)
end Go.V.L4
namespace Go.V
section
variable              {a:Act}  
def zas(L:Tabs P){fo:Operand}(hop:o.op=.call { callee:=.value fo,args:=#[],argTypes:=#[] })(hfe:a.eval fo=.func (.func f) fst.toArray cap.toArray)(hfn:L.fn f=some ()):
  (execOp a.eval o).run P u=.ok (.enter f ((fst++cap).toArray)) u:=by
 simp only[execOp,hop,resolve,hfe,Deferred.ofValue,nw,me,ny,invoke];rw[da L hfn];simp
def jo(L:Tabs P)(q:Nat)(r':GR)(v:Value){r:GR}{fo:Operand}
  (hn:Nat.blt d n=true) (hg:gK ops κ ⟨some d,.call { callee:=.value fo,args:=#[],argTypes:=#[] },ty,pos,aft,g⟩=some true)
  (hf:evK κ fo=some (.func (.func f) fst.toArray cap.toArray)) (hfn:L.fn f=some ()) (hq:κ q=some (.own r.res))
  (h:∀ u H C,zwe H u->B.Le H->r.P H u C->(ZCB C u H)->RetX P f (fst++cap) u H C r' v):
  StepOK2 P F B n ops O κ ⟨some d,.call { callee:=.value fo,args:=#[],argTypes:=#[] },ty,pos,aft,g⟩ q (.own r'.res) d (.is v):=by
 rintro κ' a u hlk hks ⟨H,fp,hh⟩;unfold After;rw[na (xn hh hlk hg)];have hk':κ' q=some (.own r.res):=hks.trans hq;obtain⟨hown,hM⟩:=hh.slot q _ hk';have e2:=hh.env hlk;have hfe:a.eval fo=.func (.func f) fst.toArray cap.toArray:=e2.is_ fo _ (by simp [Op.operands,Call.operands]) hf;have hc:=h u H (fp q) hh.sub hh.base hown fun k hk=>⟨(hM k hk).1,(hM k hk).2.1⟩
 rw[zas L rfl hfe hfn];simp only[Upon];refine Calls.mono hc fun e' u' hp=>?_;obtain⟨x,rfl,H',g',hx,C',hv,hC'⟩:=hp;have h2:=hh.usePut (d:=q) (a':=a) (r':=r'.res) hk' g' rfl rfl (fun _ _=>rfl) hv hC';rw[jt] at h2;exact⟨x,Z,H',_,h2.put (k:=.is v) (zn hn) trivial hx⟩
end
end Go.V
section
open Go.V
attribute [local irreducible] Has N Par Ret RetL RetO RetT RetX RetY Src StepOK V VO X jh
namespace Go.V.L4
def _root_.ZaN(t:Wr Y->A:=by intro h;refine z7 (Re Z Z Z Z) Z ?_;exact h.1)(h:Y):A:=t ⟨h⟩
def _root_.ZdW(t:Wr Y->A:=by intro h;refine z7 (zkw Z Z Z Z) Z ?_;exact h.1)(h:Y):A:=t ⟨h⟩
def _root_.ZcU(t:Wr Y->A:=by exact fun h=>(Z2∘Zb) h.1)(h:Y):A:=t ⟨h⟩
def _root_.Zau(t:Wr Y->A:=by exact fun h=>(Zar∘Zs) h.1)(h:Y):A:=t ⟨h⟩
def _root_.Zby(t:Wr Y->A:=by exact fun h=>(ZT∘ZdW) h.1)(h:Y):A:=t ⟨h⟩
def _root_.ZbY(t:Wr Y->A:=by exact fun h=>(Ze∘Zn) h.1)(h:Y):A:=t ⟨h⟩
def _root_.Zcm(t:Wr Y->A:=by exact fun h=>(Zb∘Zam) h.1)(h:Y):A:=t ⟨h⟩
def _root_.Zc0(t:Wr Y->A:=by exact fun h=>(Zt∘ZR) h.1)(h:Y):A:=t ⟨h⟩
def Az{bs:List Nat}{e:Int}(hb:∀ b∈bs,b<=255)(hl:bs.length<=1099511627776)(hat:R.at_<=bs.length)(hB:zwe B w)(hs:BsV bs fu sv B)(hr:(GRd rb sv R).P B w C)(hC:ZCB C w B):
  RetX zwf 208 [k8 rb,.int .u64 lim,.int .i64 e] w B C (GRd rb sv (ae bs lim e R).2) (.int .u64 ((ae bs lim e R).1:Nat)):=by
 unfold RetX;refine yz 900 (GRd rb sv R) Tryz.func208 Z Tryz.ntmps208 (np Z) hB hr hC ?_;rw[xe];obtain⟨⟨n,⟨at1,bad1,err1⟩⟩,hz⟩:∃ z,Bo bs R=z:=⟨_,rfl⟩
 obtain⟨at_,bad,err⟩:=R;unfold ae;rw[hz];dsimp only;have hnum:=fun(u:World) (H:Heap) (C2:Nat->Prop) (hH:zwe H u) (hle:B.Le H) hr2 hC2=>hz ▸ G9 (R:=⟨at_,bad,err⟩) (rb:=rb) (C:=C2) hb hl hat hH (hs.le hle) hr2 hC2;by_cases hlt:lim<n
 ·rw[na hlt];refine(Zw∘Za∘ZR∘ZbY) ?_;refine qf (yj L 900 (GRd rb sv ⟨at1,bad1,err1⟩) (.int .u64 n) (r:=GRd rb sv ⟨at_,bad,err⟩) Z Z Z Z Z hnum) ((Zh∘ZcU∘ZN∘Z1∘ZE∘Zu) ?_);refine qf (xg L 900 (GRd rb sv ((⟨at1,bad1,err1⟩:Rd).fail at_ e)) (r:=GRd rb sv ⟨at1,bad1,err1⟩) Z Z Z Z Z (fun u H C2 hH _ hr2 hC2=>rj hH hr2 hC2)) ((Zk∘ZC∘Zc) ?_);exact kj L 900 (r:=xd rb _ ft) (rs:=[.tmp 6]) Z (fun _ _ h=>h) nq Z Z (fun _=>rfl)
 ·rw[nc hlt];refine(Zw∘Za∘ZR∘ZbY) ?_;refine qf (yj L 900 (GRd rb sv ⟨at1,bad1,err1⟩) (.int .u64 n) (r:=GRd rb sv ⟨at_,bad,err⟩) Z Z Z Z Z hnum) ((Zh∘ZcU∘ZG∘Zs∘ZC∘Zc) ?_);exact kj L 900 (r:=xd rb _ ft) (rs:=[.tmp 6]) Z (fun _ _ h=>h) nq Z Z (fun _=>rfl)
def Vg{gf:Rd->Int×Rd}{fr:Nat}(hfn:L.fn fr=some ()){C:Nat->Prop}(hB:zwe B w)(hr:(GRd rb sv R).P B w C)(hC:ZCB C w B)
  (hf:R.err=0->∀ (u:World) (H:Heap) (C:Nat->Prop),zwe H u->B.Le H->(GRd rb sv R).P H u C->(ZCB C u H)->RetX zwf fr (fst++cap) u H C (GRd rb sv (gf R).2) (.int .i64 ((gf R).1:Int))):
  RetX zwf 206 [k8 rb,.func (.func fr) fst.toArray cap.toArray] w B C (GRd rb sv (dl gf 0 R).2) (.int .i64 ((dl gf 0 R).1:Int)):=by
 unfold RetX;refine yz 900 (GRd rb sv R) Tryz.func206 Z Tryz.ntmps206 (np Z) hB hr hC ?_;rw[xe];obtain⟨⟨n,⟨at1,bad1,err1⟩⟩,hz⟩:∃ z,gf R=z:=⟨_,rfl⟩
 obtain⟨at_,bad,err⟩:=R;unfold dl;rw[hz] at hf |-;dsimp only at hf |-;by_cases h0:err≠0
 ·rw[na h0];refine(Zw∘Zh∘Zn) ?_;refine qf (yj L 900 (GRd rb sv ⟨at_,bad,err⟩) (.bool true) (r:=GRd rb sv ⟨at_,bad,err⟩) Z Z Z Z Z (fun u H C2 hH _ hr2 hC2=>ky (nf h0) hH hr2 hC2)) ((Zr∘Zz∘Zc) ?_);exact kj L 900 (r:=xd rb _ ft) (rs:=[.tmp 4]) Z (fun _ _ h=>h) nq Z Z (fun _=>rfl)
 ·have he:err=0:=zru.1 h0;subst he;rw[nc h0];have hf:=hf rfl;by_cases h1:err1≠0
  ·rw[na h1];refine(Zw∘Zh∘Zn) ?_;refine qf (yj L 900 (GRd rb sv ⟨at_,bad,0⟩) (.bool false) (r:=GRd rb sv ⟨at_,bad,0⟩) Z Z Z Z Z (fun u H C2 hH _ hr2 hC2=>ky (ng h0) hH hr2 hC2)) ((Zs∘Zc0∘ZbV) ?_);refine qf (jo L 900 (GRd rb sv ⟨at1,bad1,err1⟩) (.int .i64 n) (r:=GRd rb sv ⟨at_,bad,0⟩) Z Z Z hfn Z hf) ((Zh∘ZD∘ZR∘Zac∘Z7∘Zcm) ?_);refine xm (yq L (q:=900) (cs':=[sv,.int .i64 at_,.int .i64 bad1,.int .i64 err1]) Z Z Z Z Z) ((Zk∘Za5∘Zc) ?_);exact kj L 900 (r:=xd rb _ ft) (rs:=[.tmp 4]) Z (fun _ _ h=>h) nq Z Z (fun _=>rfl)
  ·have he:err1=0:=zru.1 h1;subst he;rw[nc h1];refine(Zw∘Zh∘Zn) ?_;refine qf (yj L 900 (GRd rb sv ⟨at_,bad,0⟩) (.bool false) (r:=GRd rb sv ⟨at_,bad,0⟩) Z Z Z Z Z (fun u H C2 hH _ hr2 hC2=>ky (ng h0) hH hr2 hC2)) ((Zs∘Zc0∘ZbV) ?_);refine qf (jo L 900 (GRd rb sv ⟨at1,bad1,0⟩) (.int .i64 n) (r:=GRd rb sv ⟨at_,bad,0⟩) Z Z Z hfn Z hf) ((Zh∘ZD∘ZR∘Zau∘Zai∘Zc) ?_);exact kj L 900 (r:=xd rb _ ft) (rs:=[.tmp 4]) Z (fun _ _ h=>h) nq Z Z (fun _=>rfl)
def Vb{gf:Rd->Nat×Rd}{fr:Nat}(hfn:L.fn fr=some ()){C:Nat->Prop}(hB:zwe B w)(hr:(GRd rb sv R).P B w C)(hC:ZCB C w B)
  (hf:R.err=0->∀ (u:World) (H:Heap) (C:Nat->Prop),zwe H u->B.Le H->(GRd rb sv R).P H u C->(ZCB C u H)->RetX zwf fr (fst++cap) u H C (GRd rb sv (gf R).2) (.int .u64 ((gf R).1:Nat))):
  RetX zwf 141 [k8 rb,.func (.func fr) fst.toArray cap.toArray] w B C (GRd rb sv (dl gf 0 R).2) (.int .u64 ((dl gf 0 R).1:Nat)):=by
 unfold RetX;refine yz 900 (GRd rb sv R) Tryz.func141 Z Tryz.ntmps141 (np Z) hB hr hC ?_;rw[xe];obtain⟨⟨n,⟨at1,bad1,err1⟩⟩,hz⟩:∃ z,gf R=z:=⟨_,rfl⟩
 obtain⟨at_,bad,err⟩:=R;unfold dl;rw[hz] at hf |-;dsimp only at hf |-;by_cases h0:err≠0
 ·rw[na h0];refine(Zw∘Zh∘Zn) ?_;refine qf (yj L 900 (GRd rb sv ⟨at_,bad,err⟩) (.bool true) (r:=GRd rb sv ⟨at_,bad,err⟩) Z Z Z Z Z (fun u H C2 hH _ hr2 hC2=>ky (nf h0) hH hr2 hC2)) ((Zr∘Zz∘Zc) ?_);exact kj L 900 (r:=xd rb _ ft) (rs:=[.tmp 4]) Z (fun _ _ h=>h) nq Z Z (fun _=>rfl)
 ·have he:err=0:=zru.1 h0;subst he;rw[nc h0];have hf:=hf rfl;by_cases h1:err1≠0
  ·rw[na h1];refine(Zw∘Zh∘Zn) ?_;refine qf (yj L 900 (GRd rb sv ⟨at_,bad,0⟩) (.bool false) (r:=GRd rb sv ⟨at_,bad,0⟩) Z Z Z Z Z (fun u H C2 hH _ hr2 hC2=>ky (ng h0) hH hr2 hC2)) ((Zs∘Zc0∘ZbV) ?_);refine qf (jo L 900 (GRd rb sv ⟨at1,bad1,err1⟩) (.int .u64 n) (r:=GRd rb sv ⟨at_,bad,0⟩) Z Z Z hfn Z hf) ((Zh∘ZD∘ZR∘Zac∘Z7∘Zcm) ?_);refine xm (yq L (q:=900) (cs':=[sv,.int .i64 at_,.int .i64 bad1,.int .i64 err1]) Z Z Z Z Z) ((Zk∘Za5∘Zc) ?_);exact kj L 900 (r:=xd rb _ ft) (rs:=[.tmp 4]) Z (fun _ _ h=>h) nq Z Z (fun _=>rfl)
  ·have he:err1=0:=zru.1 h1;subst he;rw[nc h1];refine(Zw∘Zh∘Zn) ?_;refine qf (yj L 900 (GRd rb sv ⟨at_,bad,0⟩) (.bool false) (r:=GRd rb sv ⟨at_,bad,0⟩) Z Z Z Z Z (fun u H C2 hH _ hr2 hC2=>ky (ng h0) hH hr2 hC2)) ((Zs∘Zc0∘ZbV) ?_);refine qf (jo L 900 (GRd rb sv ⟨at1,bad1,0⟩) (.int .u64 n) (r:=GRd rb sv ⟨at_,bad,0⟩) Z Z Z hfn Z hf) ((Zh∘ZD∘ZR∘Zau∘Zai∘Zc) ?_);exact kj L 900 (r:=xd rb _ ft) (rs:=[.tmp 4]) Z (fun _ _ h=>h) nq Z Z (fun _=>rfl)
def Qx{bs:List Nat}(hb:∀ b∈bs,b<=255)(hl:bs.length<=1099511627776)(hat:R.at_<=bs.length)(hB:zwe B w)(hs:BsV bs fu sv B)(hr:(GRd rb sv R).P B w C)(hC:ZCB C w B):
  RetX zwf 76 [k8 rb] w B C (GRd rb sv (ry bs R).2) (.int .u64 ((ry bs R).1:Nat)):=by
 unfold RetX;refine yz 900 (GRd rb sv R) Tryz.func76 Z Tryz.ntmps76 (np Z) hB hr hC ?_;rw[xe];refine(Zw∘Zb∘ZaN) ?_;refine qf (yj L 900 (GRd rb sv (ry bs R).2) (.int .u64 ((ry bs R).1:Nat)) (r:=GRd rb sv R) Z Z Z Z Z (fun u H C2 hH hle hr2 hC2=>Vb (gf:=Bo bs) (fst:=[k8 rb]) (cap:=[]) Z hH hr2 hC2 (fun _ u3 H3 C3 hH3 hle3 hr3 hC3=>G9 hb hl hat hH3 ((hs.le hle).le hle3) hr3 hC3))) (Zc (h:=?_));exact kj L 900 (r:=xd rb _ ft) (rs:=[.tmp 2]) Z (fun _ _ h=>h) nq Z Z (fun _=>rfl)
def zgp{b2 b3:Nat}{bs:List Nat}(hlim:lim<=1099511627776)(hb:∀ b∈bs,b<=255)(hl:bs.length<=1099511627776)(hat:R.at_<=bs.length)(hB:zwe B w)(hs:BsV bs fu sv B)(h2:B b2=some (.cells #[k8 rb] 154))(h3:B b3=some (.cells #[.int .i64 lim] 3))(hr:(GRd rb sv R).P B w C)(hC:ZCB C w B):
  RetX zwf 207 [k8 b2,k8 b3] w B C (GRd rb sv (zeq bs lim R).2) (.int .i64 (zeq bs lim R).1):=by
 unfold RetX;refine yz 900 (GRd rb sv R) Tryz.func207 Z Tryz.ntmps207 (np Z) hB hr hC ?_;rw[xe];have hmx:max (lim:Int) 0=lim:=J;have hcu:IntKind.u64.wrap (lim:Int)=(lim:Int):=wrap_u64 J J;obtain⟨⟨n,⟨at1,bad1,err1⟩⟩,hz⟩:∃ z,ae bs lim 3 R=z:=⟨_,rfl⟩
 unfold zeq;rw[hz];dsimp only;have hci:IntKind.i64.wrap ((n:Nat):Int)=IntKind.i64.wrap ((n:Nat):Int):=rfl;refine Zw (h:=?_);refine z7 (ql L (qt Z h2) Z Z Z Z) Z (z7 (ql L (qt Z h3) Z Z Z Z) Z (z7 (oe Z Z Z Z Z) Z (z7 (kw Z Z Z wo.1 wo.2 (wrap_u64 J J)) Z (qf (yj L 900 (GRd rb sv ⟨at1,bad1,err1⟩) (.int .u64 n) (r:=GRd rb sv R) Z Z Z Z Z (fun u H C2 hH hle hr2 hC2=>by have h:=Az (lim:=lim) (e:=3) hb hl hat hH (hs.le hle) hr2 hC2;rw[hz] at h;exact h)) ?_))));refine z7 (kw Z Z Z Z Z hci) Z (Zc (h:=?_));exact kj L 900 (r:=xd rb _ ft) (rs:=[.tmp 2]) Z (fun _ _ h=>h) nq Z Z (fun _=>rfl)
def len_ret{bs:List Nat}(hlim:lim<=1099511627776)(hb:∀ b∈bs,b<=255)(hl:bs.length<=1099511627776)(hat:R.at_<=bs.length)(hB:zwe B w)(hs:BsV bs fu sv B)(hr:(GRd rb sv R).P B w C)(hC:ZCB C w B):
  RetX zwf 138 [k8 rb,.int .i64 lim] w B C (GRd rb sv (vk bs lim R).2) (.int .i64 (vk bs lim R).1):=by
 unfold RetX;refine yz 900 (GRd rb sv R) Tryz.func138 Z Tryz.ntmps138 (np Z) hB hr hC ?_;rw[xe];refine(Zby∘ZdW∘Ze) ?_;refine jg 2 901 rfl fun b2=>?_;refine jg 3 902 rfl fun b3=>?_;refine wx 901 rfl fun H1 hs1 _ h2=>?_;refine wx 902 rfl fun H2 hs2 _ h3=>?_;have h2:=hs2.le _ _ h2;have hs12:=hs1.trans hs2;have hs':=hs.le hs12.le;refine ZI (h:=?_);refine z7 (ql L (qt Z h2) Z Z Z Z) Z (ZaN (h:=?_));refine qf (yj L 900 (GRd rb sv (vk bs lim R).2) (.int .i64 (vk bs lim R).1) (r:=GRd rb sv R) Z Z Z Z Z (fun u H C2 hH hle hr2 hC2=>Vg (gf:=zeq bs lim) (fst:=[]) (cap:=[k8 b2,k8 b3]) Z hH hr2 hC2 (fun _ u3 H3 C3 hH3 hle3 hr3 hC3=>zgp hlim hb hl hat hH3 ((hs'.le hle).le hle3) ((hle.trans hle3) _ _ h2) ((hle.trans hle3) _ _ h3) hr3 hC3))) (Zc (h:=?_));exact kj L 900 (r:=xd rb _ ft) (rs:=[.tmp 4]) Z (fun _ _ h=>h) hs12 Z Z (fun _=>rfl)
def _root_.ZeG(t:Wr Y->A:=by intro h;refine z7 (qe Z Z Z Z) Z ?_;exact h.1)(h:Y):A:=t ⟨h⟩
def _root_.Zo(t:Wr Y->A:=by intro h;refine z7 (xa Z Z Z Z) Z ?_;exact h.1)(h:Y):A:=t ⟨h⟩
def _root_.Zd2(t:Wr Y->A:=by intro h;refine z9 (x8 Z Z Z Z M) Z ?_;exact h.1)(h:Y):A:=t ⟨h⟩
def _root_.Zb8(t:Wr Y->A:=by exact fun h=>(ZeG∘ZeG) h.1)(h:Y):A:=t ⟨h⟩
def _root_.Z4(t:Wr Y->A:=by exact fun h=>(Zv∘Zc) h.1)(h:Y):A:=t ⟨h⟩
def _root_.Za6(t:Wr Y->A:=by exact fun h=>(ZT∘Zv) h.1)(h:Y):A:=t ⟨h⟩
def Mn(bs:List Nat)(R:Rd):Nat×Int:=if R.err=0/\R.at_<bs.length then (R.at_,5) else (R.bad,R.err)
def at_ret(hB:zwe B w)(hr:(GRd rb sv R).P B w C)(hC:ZCB C w B):RetX zwf 139 [k8 rb] w B C (GRd rb sv R) (.int .i64 R.at_):=by
 unfold RetX;refine yz 900 (GRd rb sv R) Tryz.func139 Z Tryz.ntmps139 (np Z) hB hr hC ?_;rw[xe];refine(ZbD∘Zfh∘Zs∘Zz∘ZR∘Zc) ?_;exact kj L 900 (r:=xd rb _ ft) (rs:=[.tmp 2]) Z (fun _ _ h=>h) nq Z Z (fun _=>rfl)
def Df(hl:bs.length<=1099511627776)(hat:R.at_<=bs.length)(hB:zwe B w)(hs:BsV bs fu sv B)(hr:(GRd rb sv R).P B w C)(hC:ZCB C w B):RetX zwf 219 [k8 rb] w B C (GRd rb sv R) (.int .i64 (bs.length-R.at_:Nat)):=by
 obtain⟨p,c,rfl⟩:=ke hs;unfold RetX;refine yz 900 (GRd rb _ R) Tryz.func219 Z Tryz.ntmps219 (np Z) hB hr hC ?_;rw[xe];obtain⟨at_,bad,err⟩:=R;dsimp only[rdC] at hat |-;have hw:IntKind.i64.wrap ((bs.length:Int)-(at_:Int))=((bs.length-at_:Nat):Int):=(xb J J).trans J;refine(ZbD∘Zfh∘Zs) ?_;refine qp (id:=3) [(200008,[900]),(200013,[900])] kr T ((ZaL∘Zdt∘ZaL∘Zd2∘Zy) ?_);exact kj L 900 (r:=xd rb _ ft) (rs:=[.tmp 2]) Z (fun _ _ h=>h) nq Z Z (fun _=>rfl)
def fault_ret(hB:zwe B w)(hr:(GRd rb sv R).P B w C)(hC:ZCB C w B):RetX zwf 140 [k8 rb] w B C (GRd rb sv R) (.tuple #[.int .i64 R.bad,.int .i64 R.err]):=by
 unfold RetX;refine yz 900 (GRd rb sv R) Tryz.func140 Z Tryz.ntmps140 (np Z) hB hr hC ?_;rw[xe];refine(Za6∘Zax∘Zfh∘Zs) ?_;refine qp (id:=3) [(200009,[900]),(200013,[900])] kr T ((ZaL∘ZaL∘ZaS∘Zy) ?_);exact kj L 900 (r:=xd rb _ ft) (rs:=[.tmp 2,.tmp 3]) Z (fun _ _ h=>h) nq Z Z (fun _=>rfl)
def zdp(hl:bs.length<=1099511627776)(hat:R.at_<=bs.length)(hB:zwe B w)(hs:BsV bs fu sv B)(hr:(GRd rb sv R).P B w C)(hC:ZCB C w B):RetX zwf 148 [k8 rb] w B C (GRd rb sv R) (.tuple #[.int .i64 (Mn bs R).1,.int .i64 (Mn bs R).2]):=by
 unfold RetX;refine yz 900 (GRd rb sv R) Tryz.func148 Z Tryz.ntmps148 (np Z) hB hr hC ?_;rw[xe];obtain⟨at_,bad,err⟩:=R;unfold Mn;dsimp only[rdC] at hat |-;by_cases h0:err=0
 ·subst h0;by_cases h1:at_<bs.length
  ·rw[na ⟨rfl,h1⟩];refine(Za6∘Zax) ?_;refine qf (yj L 900 (GRd rb sv ⟨at_,bad,0⟩) (.bool false) (r:=GRd rb sv ⟨at_,bad,0⟩) Z Z Z Z Z (fun u H C2 hH _ hr2 hC2=>ky (ng fun h=>h Z) hH hr2 hC2)) ((Zo∘Zb) ?_);refine qf (yj L 900 (GRd rb sv ⟨at_,bad,0⟩) (.int .i64 (bs.length-at_:Nat)) (r:=GRd rb sv ⟨at_,bad,0⟩) Z Z Z Z Z (fun u H C2 hH hle hr2 hC2=>Df hl hat hH (hs.le hle) hr2 hC2)) ((ZN∘Zf∘Zr∘Zn∘ZR∘Z4) ?_);exact kj L 900 (r:=xd rb _ ft) (rs:=[.tmp 2,.tmp 3]) Z (fun _ _ h=>h) nq Z Z (fun _=>rfl)
  ·rw[nc (fun h=>h1 h.2)];refine(Za6∘Zax) ?_;refine qf (yj L 900 (GRd rb sv ⟨at_,bad,0⟩) (.bool false) (r:=GRd rb sv ⟨at_,bad,0⟩) Z Z Z Z Z (fun u H C2 hH _ hr2 hC2=>ky (ng fun h=>h Z) hH hr2 hC2)) ((Zo∘Zb) ?_);refine qf (yj L 900 (GRd rb sv ⟨at_,bad,0⟩) (.int .i64 (bs.length-at_:Nat)) (r:=GRd rb sv ⟨at_,bad,0⟩) Z Z Z Z Z (fun u H C2 hH hle hr2 hC2=>Df hl hat hH (hs.le hle) hr2 hC2)) ((ZG∘Zba∘Zz) ?_);refine qf (yj L 900 (GRd rb sv ⟨at_,bad,0⟩) (.tuple #[.int .i64 bad,.int .i64 0]) (r:=GRd rb sv ⟨at_,bad,0⟩) Z Z Z Z Z (fun u H C2 hH hle hr2 hC2=>fault_ret hH hr2 hC2)) ((Zb8∘Z4) ?_);exact kj L 900 (r:=xd rb _ ft) (rs:=[.tmp 2,.tmp 3]) Z (fun _ _ h=>h) nq Z Z (fun _=>rfl)
 ·rw[nc (fun h=>h0 h.1)];refine(Za6∘Zax) ?_;refine qf (yj L 900 (GRd rb sv ⟨at_,bad,err⟩) (.bool true) (r:=GRd rb sv ⟨at_,bad,err⟩) Z Z Z Z Z (fun u H C2 hH _ hr2 hC2=>ky (nf h0) hH hr2 hC2)) ((Zo∘ZbF∘Zs∘Zz) ?_);refine qf (yj L 900 (GRd rb sv ⟨at_,bad,err⟩) (.tuple #[.int .i64 bad,.int .i64 err]) (r:=GRd rb sv ⟨at_,bad,err⟩) Z Z Z Z Z (fun u H C2 hH hle hr2 hC2=>fault_ret hH hr2 hC2)) ((Zb8∘Z4) ?_);exact kj L 900 (r:=xd rb _ ft) (rs:=[.tmp 2,.tmp 3]) Z (fun _ _ h=>h) nq Z Z (fun _=>rfl)
end Go.V.L4
end
namespace Go.V
def SlX(e:TypeId)(s cap n:Nat)(xs:List Value):Res where
 P x _ u C:=xs.length=n*s/\∃ b rest,x=.slice (some ⟨b,0,none⟩) n cap/\u.heap[b]?=some (.cells (xs++rest).toArray e)/\n<=cap/\cap<=maxLen/\(xs++rest).length=cap*s/\∀ k,C k↔k=b
 st:=fun⟨hl,b,rest,h1,h2,h3,h4,h5,h6⟩ _ _ _ hk=>⟨hl,b,rest,h1,(hk b ((h6 b).2 rfl)).trans h2,h3,h4,h5,h6⟩
section
def zbw(L:Tabs P){kl kc:IntKind}(c:Nat)(hn:Nat.blt d n=true)(hg:gK ops κ ⟨some d,.makeSlice t x y,ty,pos,aft,g⟩=some true)(ht:L.sl t=some e)(he:elI P e=some (s,by_))
  (hx:evK κ x=some (.int kl 0)) (hy:evK κ y=some (.int kc p)) (hp:p=c) (hb:by_*c<=281474976710656) (hc:c<=maxLen):StepOK P F B n ops O κ ⟨some d,.makeSlice t x y,ty,pos,aft,g⟩ d (.own (SlX e s c 0 [])):=by
 rintro κ' a u hl ⟨H,fp,hh⟩;unfold After;rw[na (xn hh hl hg)];have en:=hh.env hl;obtain⟨i,z,hi,hz,hs1,hs2,hs3,hs4⟩:=uo he;have h1:=en.is_ x _ (by simp [Op.operands]) hx;have h2:=en.is_ y _ (by simp [Op.operands]) hy;subst hp
 have hb':(i.bytes:Int)*(c:Int)<=281474976710656:=by
  have h:((by_*c:Nat):Int)<=281474976710656:=J;rw[hs2];rwa [Int.natCast_mul] at h
 have h63:(c:Int)<=9223372036854775807:=by simp [maxLen] at hc;omega
 have hr:=run_make (P:=P) u t e i z (Tabs.sl_spec ht) hi hz kl kc 0 c (zsw _) J hb' h63;simp only[Int.toNat_zero,zsh] at hr
 have hrun:(execOp a.eval ⟨some d,.makeSlice t x y,ty,pos,aft,g⟩).run P u=.ok (.value (.slice (some ⟨u.heap.size,0,none⟩) 0 c)) (u.alloc (.cells (madeCells z.cells (c*i.size)) e)):=by
  simp only[execOp,h1,h2,nw,hr,ny];rfl
 rw[hrun];simp only[Upon];have hg2:=hh.grow (Grow.hid hh.sub (.cells (madeCells z.cells (c*i.size)) e));refine⟨H,_,hg2.putR (C:=fun k=>k=u.heap.size) (by simp [Act.put]) Z (fun t ht=>xy ht) ⟨by simp,u.heap.size,(madeCells z.cells (c*i.size)).toList,kg (by rw[hh.size];exact zn hn),by rw[xx];simp,mb _,hc,by simp [size_madeCells,hs1],fun _=>Iff.rfl⟩ (fun k hk=>?_) fun t r' _ ht k hf hk=>?_⟩
 ·subst hk;exact⟨xl (xx u _),jm hh.sub (nu _),.inl hh.keep.size,fun y hy e=>by have:=xl (hh.boxes y hy).1;omega⟩
 ·have:=((hh.slot t _ ht).2 k hf).1;omega
def zh3(t q:Nat){cap:Nat}{c:Code}(hk:κ t=some (.own (SlX e s cap m xs)))
  (h:∀ b rest,xs.length=m*s->m<=cap->cap<=maxLen->(xs++rest).length=cap*s->V P F B n O (upd (upd (upd κ t lh) q (.own (xr b (xs++rest) e))) t (.is (.slice (some ⟨b,0,none⟩) m cap))) c Q):V P F B n O κ c Q:=fun a u hh=>by
 obtain⟨H,fp,hh⟩:=hh;obtain⟨⟨hl,b,rest,hv,hb,h3,h4,h5,hC⟩,hM⟩:=hh.slot t _ hk;have h2:=hh.usePut (d:=q) (a':=a) (r':=xr b (xs++rest) e) (C:=fp t) hk ⟨Keep.refl _ _,hh.sub,mw _,fun _ _ _=>rfl⟩ rfl rfl (fun _ _=>rfl) ⟨hb,hC⟩ fun k hk=>⟨.inl hk,(hM k hk).1,(hM k hk).2.1⟩
 have h3':=h2.name t;rw[hv] at h3';exact h b rest hl h3 h4 h5 a u ⟨H,_,h3'⟩
def Ri(L:Tabs P){b cap:Nat}{cur cur':List Value}(hn:Nat.blt d n=true)(hg:gK ops κ ⟨some d,.call ⟨.builtin .append,#[x,y],#[t,t]⟩,ty,pos,aft,g⟩=some true)
  (hx:evK κ x=some (.slice (some ⟨b,0,none⟩) nn cap)) (hq:κ q=some (.own (xr b cur e))) (hy:Apd F B O κ y m news) (ht:L.sl t=some e) (he:elI P e=some (s,by_)) (hm:0<m) (hnl:news.length=m*s) (hroom:nn+m<=cap) (hcl:nn*s+m*s<=cur.length) (h1:news.all wz=true)
  (hr:cur.take (nn*s)++(news++cur.drop (nn*s+m*s))=cur'):
  StepOK2 P F B n ops O κ ⟨some d,.call ⟨.builtin .append,#[x,y],#[t,t]⟩,ty,pos,aft,g⟩ q (.own (xr b cur' e)) d (.is (.slice (some ⟨b,0,none⟩) (nn+m) cap)):=by
 rintro κ' a u hlk hks ⟨H,fp,hh⟩;unfold After;rw[na (xn hh hlk hg)];have en:=hh.env hlk;have hk':κ' q=some (.own (xr b cur e)):=hks.trans hq;have hxe:=en.is_ x _ (by simp [Op.operands,Call.operands]) hx;obtain⟨⟨hb,hC⟩,hM⟩:=hh.slot q _ hk';obtain⟨i,z,hi,hz,hs1,hs2,hs3,hs4⟩:=uo he;subst hs1;rcases hy _ a u H fp (by simp [Op.operands,Call.operands]) en with ⟨h0,_⟩ | ⟨ad,c',hye,hcy⟩
 ·omega
 have hrun0:=run_append_room (P:=P) u t ty e i (Tabs.sl_spec ht) hi b nn cap cur.toArray hb ad m c' news hnl hcy (fun v hv=>pq (zr3.1 h1 v hv)) hroom (by rw[hnl];simpa using hcl);rw[hnl] at hrun0;simp only[mp] at hrun0;rw[hr] at hrun0
 have hrun:(execOp a.eval ⟨some d,.call ⟨.builtin .append,#[x,y],#[t,t]⟩,ty,pos,aft,g⟩).run P u=.ok (.value (.slice (some ⟨b,0,none⟩) (nn+m) cap)) (u.setRow b cur'.toArray):=by
  simp only[execOp,resolve,invoke,builtin,nw,me,ny,zr9,mt,zr7,hxe,hye,hrun0]
 rw[hrun];simp only[Upon];have hbm:=hM b ((hC b).2 rfl)
 have h2:=hh.usePut (d:=q) (a':=a) (r':=xr b cur' e) (C:=fun k=>k=b) hk' (wv hh.sub hb ((hC b).2 rfl) hbm.2.1 _) rfl rfl (fun _ _=>rfl) ⟨setRow_heap u b cur.toArray cur'.toArray e (0,0) hb,fun _=>Iff.rfl⟩ (fun k hk=>by
  subst hk;exact⟨.inl ((hC k).2 rfl),by rw[setRow_size];exact hbm.1,hbm.2.1⟩)
 rw[jt] at h2;exact⟨H,_,h2.put (k:=.is _) (zn hn) trivial Z⟩
end
end Go.V
namespace Go.V
section
def Sp{k:Kn}(h:κ q=some k):upd κ q k=κ:=by
 funext t;by_cases e:t=q
 ·subst e;rw[xq];exact h.symm
 ·rw[xk _ _ e]
def vp(L:Tabs P)(q:Nat)(φ:Value->Heap->Prop){r:GR}{fo:Operand}
  (hn:Nat.blt d n=true) (hg:gK ops κ ⟨some d,.call { callee:=.value fo,args:=args,argTypes:=at_ },ty,pos,aft,g⟩=some true)
  (hf:evK κ fo=some (.func (.func f) #[] cap.toArray)) (hfn:L.fn f=some ()) (hq:κ q=some (.own r.res)) (hm:Kn.mono (.sat φ))
  (h:∀ u H C,zwe H u->B.Le H->r.P H u C->(ZCB C u H)->Args κ H args.toList [] (fun vs=>RetY P f (vs++cap) u H C r φ)):
  StepOKR P F B n ops O κ ⟨some d,.call { callee:=.value fo,args:=args,argTypes:=at_ },ty,pos,aft,g⟩ q d (.sat φ):=by
 rintro κ' a u hlk hks ⟨H,fp,hh⟩;unfold After;rw[na (xn hh hlk hg)];have hk':κ' q=some (.own r.res):=hks.trans hq;obtain⟨hown,hM⟩:=hh.slot q _ hk';have e2:=hh.env hlk;have hfe:a.eval fo=.func (.func f) #[] cap.toArray:=e2.is_ fo _ (by simp [Op.operands,Call.operands]) hf;have hc:=Args.use e2 args.toList [] (fun x hx=>by simp [Op.operands,Call.operands] at hx |-;exact .inr hx) (h u H (fp q) hh.sub hh.base hown fun k hk=>⟨(hM k hk).1,(hM k hk).2.1⟩);simp only[zsz,mo] at hc;rw[fj L rfl hfe hfn];simp only[Upon];refine Calls.mono hc fun e' u' hp=>?_;obtain⟨x,rfl,H',g',hx,C',hv,hC'⟩:=hp;have h2:=hh.usePut (d:=q) (a':=a) (r':=r.res) hk' g' rfl rfl (fun _ _=>rfl) hv hC';rw[jt,Sp hk'] at h2;exact⟨x,rfl,H',_,h2.put (k:=.sat φ) (zn hn) hm hx⟩
def oh(L:Tabs P)(q:Nat)(v:Value){r:GR}{fo:Operand}
  (hn:Nat.blt d n=true) (hg:gK ops κ ⟨some d,.call { callee:=.value fo,args:=args,argTypes:=at_ },ty,pos,aft,g⟩=some true)
  (hf:evK κ fo=some (.func (.func f) #[] cap.toArray)) (hfn:L.fn f=some ()) (hq:κ q=some (.own r.res))
  (h:∀ u H C,zwe H u->B.Le H->r.P H u C->(ZCB C u H)->Args κ H args.toList [] (fun vs=>RetY P f (vs++cap) u H C r (fun x _=>x=v))):
  StepOKR P F B n ops O κ ⟨some d,.call { callee:=.value fo,args:=args,argTypes:=at_ },ty,pos,aft,g⟩ q d (.is v):=by
 rintro κ' a u hlk hks ⟨H,fp,hh⟩;unfold After;rw[na (xn hh hlk hg)];have hk':κ' q=some (.own r.res):=hks.trans hq;obtain⟨hown,hM⟩:=hh.slot q _ hk';have e2:=hh.env hlk;have hfe:a.eval fo=.func (.func f) #[] cap.toArray:=e2.is_ fo _ (by simp [Op.operands,Call.operands]) hf;have hc:=Args.use e2 args.toList [] (fun x hx=>by simp [Op.operands,Call.operands] at hx |-;exact .inr hx) (h u H (fp q) hh.sub hh.base hown fun k hk=>⟨(hM k hk).1,(hM k hk).2.1⟩);simp only[zsz,mo] at hc;rw[fj L rfl hfe hfn];simp only[Upon];refine Calls.mono hc fun e' u' hp=>?_;obtain⟨x,rfl,H',g',hx,C',hv,hC'⟩:=hp;have h2:=hh.usePut (d:=q) (a':=a) (r':=r.res) hk' g' rfl rfl (fun _ _=>rfl) hv hC';rw[jt,Sp hk'] at h2;exact⟨x,Z,H',_,h2.put (k:=.is v) (zn hn) trivial hx⟩
def zbx(L:Tabs P){b:Nat}{t t':TypeId}{r:Res}(hx:evK κ x=some (.pointer (some ⟨b,off,none⟩)))(hq:κ q=some (.own r))(hcell:∀ v H u C,r.P v H u C->u.heap[b]?=some (.cells cs.toArray t'))(hn:Nat.blt d n=true)(hg:gK ops κ ⟨some d,.load t x,ty,pos,aft,g⟩=some true)
  (hl:L.ld t=some (true,s)) (hlen:vs.length=s) (hc:∃ r,cs.drop off=vs++r):StepOKR P F B n ops O κ ⟨some d,.load t x,ty,pos,aft,g⟩ q d (.is (.agg vs.toArray)):=by
 rintro κ' a u hlk hqk ⟨H,fp,hh⟩;unfold After;rw[na (xn hh hlk hg)];have e:=hh.env hlk;have h1:=e.is_ x _ (by simp [Op.operands]) hx;obtain⟨hown,hM⟩:=hh.slot q _ (hqk.trans hq);have h2:=hcell _ _ _ _ hown;obtain⟨r,hc⟩:=hc
 have hrun:(execOp a.eval ⟨some d,.load t x,ty,pos,aft,g⟩).run P u=.ok (.value (.agg vs.toArray)) u:=by
  simp only[execOp,h1,Instr.loadAt,Instr.sureAddr,nw,me,ny]
  rw[uc (Tabs.ld_spec hl) u _ vs hlen (fun j v hj=>by
   have h3:cs[off+j]?=some v:=by
    have:=nh (·[j]?) hc;simp only[ztg] at this
    rw[this,zs7 (by
     rcases m5 j vs.length with h | h
     ·exact h
     ·rw[zr6 h] at hj;cases hj)]
    exact hj
   show u.cell? (Addr.add ⟨b,off,none⟩ j)=some v;have:Addr.add ⟨b,off,none⟩ j=⟨b,off+j,none⟩:=by simp [Addr.add]
   rw[this,je h2];simpa using h3)]
  rfl
 rw[hrun];simp only[Upon];exact⟨H,fp,hh.put (k:=.is (.agg vs.toArray)) (zn hn) trivial Z⟩
def zef{b:Nat}:∀ v H u C,(ej (xr b cs ty) r2).P v H u C->u.heap[b]?=some (.cells cs.toArray ty):=fun _ _ _ _ ⟨_,_,h,_⟩=>h.1
def zcu{b:Nat}:∀ v H u C,(ej (xr b cs ty) r2).P v H u C->joinH H u C b=some (.cells cs.toArray ty):=fun _ _ _ _ ⟨_,_,⟨hb,hC⟩,_,h3,_⟩=>(bp ((h3 b).2 (.inl ((hC b).2 rfl)))).trans hb
end
def RetT.pubY{f:FuncId}{args:List Value}{r:GR}(h:RetT P f args w B C (ej r1 r.res))(hl:zpf r1 φ):RetY P f args w B C r φ:=
 Calls.mono h fun _ u ⟨v,he,H,g,C',⟨C1,C2,h1,h2,h3,h4⟩,h5⟩=>by
  have hs:=Ab (u:=u) (C:=C1) g.sub;have hle:=Me (u:=u) fun k hk=>(h5 k ((h3 k).2 (.inl hk))).2.2;refine⟨v,he,joinH H u C1,⟨g.keep,hs,fun k x hx=>hle _ _ (g.le _ _ hx),fun k hk hn=>(cw fun hc=>?_).trans (g.fresh k hk hn)⟩,hl _ _ _ _ h1,C2,r.st h2 hle hs (On.refl u) (fun _ _=>rfl),fun k hk=>⟨(h5 k ((h3 k).2 (.inr hk))).1,(h5 k ((h3 k).2 (.inr hk))).2.1,(cw fun hc=>h4 k hc hk).trans (h5 k ((h3 k).2 (.inr hk))).2.2⟩⟩;rcases(h5 k ((h3 k).2 (.inl hc))).1 with h6 | h6
  ·exact hn h6
  ·omega
def RetY.ex{f:FuncId}{args:List Value}{X:Type}{r:X->GR}{φ:X->Heap->Prop}{hφ:ij φ}{ψ:Value->Heap->Prop}(hr:(GEx r φ hφ).P B w C)(h:∀ x,φ x B->(r x).P B w C->RetY P f args w B C (r x) ψ):RetY P f args w B C (GEx r φ hφ) ψ:=by
 obtain⟨x,h1,h2⟩:=hr;exact RetL.mono (h x h1 h2) fun v H u hg ⟨h3,C',h4,h5⟩=>⟨h3,C',⟨x,hφ _ _ _ h1 hg.le,h4⟩,h5⟩
end Go.V
namespace Go.V
def MiE{V:Type}(kd:IntKind)(vc:V->Value)(l:List (Int×V))(es:List MapEntry):Prop:=es.map (fun e=>(e.key,e.val))=l.map fun p=>(Value.int kd p.1,vc p.2)
section
variable  {V:Type}  {vc:V->Value} {l:List (Int×V)} 
def Tw{p:Int×V}{l:List (Int×V)}{es:List MapEntry}(h:MiE kd vc (p::l) es):∃ e r,es=e::r/\e.key=.int kd p.1/\e.val=vc p.2/\MiE kd vc l r:=by
 unfold MiE at h
 cases es with
 | nil=>simp at h
 | cons e r=>
  simp at h;exact⟨e,r,rfl,h.1.1,h.1.2,h.2⟩
def Pn(k:Int):∀ (l:List (Int×V)) (es:List MapEntry) (i:Nat),MiE kd vc l es->Instr.findNow (.int kd) (.int kd k) es i=some ((dc k l i).map fun p=>(p.1,vc p.2))
 | [],es,i,h=>by
  have:es=[]:=by simpa [MiE] using h
  subst this;rfl
 | p::l,es,i,h=>by
  obtain⟨e,r,rfl,h1,h2,h3⟩:=Tw h;rw[Instr.findNow,dc,h1];simp only[Instr.sameNow,if_true];by_cases hkp:k=p.1
  ·rw[na hkp,beq_iff_eq.2 hkp,h2];rfl
  ·rw[nc hkp,beq_false_of_ne hkp];exact Pn k l r (i+1) h3
def bi(hk:P.underlying kt=some (.int kd))(k:Int)(w:World)(l:List (Int×V))(es:List MapEntry)(h:MiE kd vc l es):
  (Instr.findKey kt (.int kd k) es).run P w=.ok ((dc k l 0).map fun p=>(p.1,vc p.2)) w:=by
 unfold Instr.findKey;simp only[nw,run_underlying hk,ny,Pn k l es 0 h,me]
def gn(hk:P.underlying kt=some (.int kd))(k:Int)(em:Bool)(w:World):(Instr.checkKey em 10000 kt (.int kd k)).run P w=.ok () w:=by
 rw[Instr.checkKey];simp only[nw,run_underlying hk,ny];rfl
def Qu(ht:P.underlying t=some (.map kt et))(hk:P.underlying kt=some (.int kd)){b:Nat}{es:Array MapEntry}(hb:u.heap[b]?=some (.map es ck))(he:MiE kd vc l es.toList)(k:Int)
  (hz:(zeroValue et).run P u=.ok z u):(Instr.lookup t (.map (some b)) (.int kd k) false).run P u=.ok ((g7 k l).elim z vc) u:=by
 unfold Instr.lookup;have hf:=bi hk k u l es.toList he;simp only[nw,run_underlying ht,ny,MapKept.run_getObj_map hb,me,gn hk k,hf];unfold g7
 cases dc k l 0 with
 | none=>simp [hz]
 | some p=>simp
def Oz(k:Int)(v:V):∀ (l:List (Int×V)) (es:List MapEntry) (i j:Nat) (x:V),MiE kd vc l es->dc k l i=some (j,x)->
  MiE kd vc (Ro k v l) (es.modify (j-i) fun e=>{ e with key:=.int kd k,val:=vc v })
 | [],_,_,_,_,_,h=>by cases h
 | p::l,es,i,j,x,he,h=>by
  obtain⟨e,r,rfl,h1,h2,h3⟩:=Tw he;unfold dc at h;rw[Ro];split at h
  ·rename_i hk;cases h;rw[na hk,zsx];unfold MiE at h3 |-;subst hk;simpa using h3
  ·rename_i hk;rw[nc hk];obtain⟨n,hn,_⟩:=E6 h;have ih:=Oz k v l r (i+1) j x h3 h;have e1:j-i=(j-(i+1))+1:=J;rw[e1];unfold MiE at ih |-;simp [h1,h2];exact ih
end
section
variable             {a:Act}     {ex:Exs}
variable {Y:Type}  {vc:Y->Value} {l:List (Int×Y)}
end
end Go.V
namespace Go.V
section
variable {V:Type}
def Xn(k:Int)(l:List (Int×V)):List (Int×V):=match dc k l 0 with
 | some (j,_)=>l.eraseIdx j
 | none=>l
end
structure Brn(es:List MapEntry)(ck:Nat):Prop where
 lt:∀ e∈es,e.born<ck
 nd:(es.map (·.born)).Nodup
def zee:Brn [] 0:=⟨fun _ h=>(by cases h),zth⟩
def Brn.push{es:List MapEntry}(h:Brn es ck)(e:MapEntry)(he:e.born=ck):Brn (es++[e]) (ck+1):=⟨fun x hx=>by
 rcases mj.1 hx with hx | hx
 ·exact Nat.lt_succ_of_lt (h.lt x hx)
 ·rw[my.1 hx,he];exact zuk _,by
 rw[zr1,List.nodup_append];refine⟨h.nd,ztc _ _,fun a ha b hb=>?_⟩;obtain⟨x,hx,rfl⟩:=m6.1 ha;have:=h.lt x hx;simp only[mt,zr7,my] at hb;omega⟩
def Brn.modify{es:List MapEntry}{ck:Nat}(h:Brn es ck)(j:Nat)(f:MapEntry->MapEntry)(hf:∀ e,(f e).born=e.born):Brn (es.modify j f) ck:=by
 have e1:(es.modify j f).map (·.born)=es.map (·.born):=by
  apply zu3;intro i;rw[zr8,zr8,List.getElem?_modify]
  cases es[i]? with
  | none=>rfl
  | some e=>
   simp only[ztx];split<;>simp [hf]
 refine⟨fun e he=>?_,by rw[e1];exact h.nd⟩;have h2:e.born∈es.map (·.born):=by rw[<-e1];exact zt6 he
 obtain⟨x,hx,hb⟩:=m6.1 h2;rw[<-hb];exact h.lt x hx
def Brn.sub{es es':List MapEntry}(h:Brn es ck)(hs:es'.Sublist es):Brn es' ck:=⟨fun e he=>h.lt e (hs.subset he),h.nd.sublist (hs.map _)⟩
section
variable  {V:Type}  {vc:V->Value} {l:List (Int×V)} 
def N7(ht:P.underlying t=some (.map kt et))(hk:P.underlying kt=some (.int kd)){b:Nat}{es:Array MapEntry}(hb:u.heap[b]?=some (.map es ck))(he:MiE kd vc l es.toList)(k:Int)
  (hz:(zeroValue et).run P u=.ok z u):(Instr.lookup t (.map (some b)) (.int kd k) true).run P u=.ok (.tuple #[(g7 k l).elim z vc,.bool (g7 k l).isSome]) u:=by
 unfold Instr.lookup;have hf:=bi hk k u l es.toList he;simp only[nw,run_underlying ht,ny,MapKept.run_getObj_map hb,me,gn hk k,hf];unfold g7
 cases dc k l 0 with
 | none=>simp [hz]
 | some p=>simp
def ru(ht:P.underlying t=some (.map kt et))(hk:P.underlying kt=some (.int kd)){b:Nat}{es:Array MapEntry}(hb:u.heap[b]?=some (.map es ck))(he:MiE kd vc l es.toList)(hn:Brn es.toList ck)(k:Int)(v:V):
  ∃ es' ck',(Instr.mapUpdate t (.map (some b)) (.int kd k) (vc v)).run P u=.ok () (u.putObj b (.map es' ck'))/\MiE kd vc (Ro k v l) es'.toList/\Brn es'.toList ck':=by
 have hf:=bi hk k u l es.toList he
 cases hm:dc k l 0 with
 | none=>
  refine⟨es.push { key:=.int kd k,val:=vc v,born:=ck },ck+1,?_,?_,by simpa using hn.push _ Z⟩
  ·unfold Instr.mapUpdate;rw[hm] at hf;simp only[nw,run_underlying ht,ny,MapKept.run_getObj_map hb,me,gn hk k,hf,zvj];simp [setObj,Sem.run,hb,World.putObj,Result.andThen]
  ·rw[t8 hm];unfold MiE at he |-;simp [he]
 | some q=>
  obtain⟨j,x⟩:=q;refine⟨es.modify j fun e=>{ e with key:=.int kd k,val:=vc v },ck,?_,?_,by rw[Array.toList_modify];exact hn.modify j _ fun _=>rfl⟩
  ·obtain⟨n,hn2,hx⟩:=E6 hm;have hn':j=n:=J;subst hn'
   have hkey:((es[j]?).map (·.key)).getD (.int kd k)=.int kd k:=by
    have h2:=nh (·[j]?) he;simp only[zr8,hx,ztx] at h2;rw[<-zt5]
    cases hz:es.toList[j]? with
    | none=>rfl
    | some e=>
     rw[hz] at h2;simp at h2;simpa using h2.1
   unfold Instr.mapUpdate;rw[hm] at hf;simp only[nw,run_underlying ht,ny,MapKept.run_getObj_map hb,me,gn hk k,hf,ztx,hkey];unfold Instr.keyThatStays;rw[na (by simp [Instr.sameBits])];simp [setObj,Sem.run,hb,World.putObj,Result.andThen]
  ·have:=Oz k v l es.toList 0 j x he hm;simpa using this
def map_erase{α β:Type}(f:α->β):∀ (l:List α) (j:Nat),(l.eraseIdx j).map f=(l.map f).eraseIdx j
 | [],_=>rfl
 | _::_,0=>rfl
 | x::l,j+1=>by simp [map_erase f l j]
def Oy{es:List MapEntry}(h:MiE kd vc l es)(j:Nat):MiE kd vc (l.eraseIdx j) (es.eraseIdx j):=by
 unfold MiE at *;rw[map_erase,map_erase,h]
def Qv(ht:P.underlying t=some (.map kt et))(hk:P.underlying kt=some (.int kd)){b:Nat}{es:Array MapEntry}(hb:u.heap[b]?=some (.map es ck))(he:MiE kd vc l es.toList)(hn:Brn es.toList ck)(k:Int)(ty:TypeId){ts:Array TypeId}(hts:ts[0]?=some t):
  ∃ es',(Builtin.delete_ ts ty #[.map (some b),.int kd k]).run P u=.ok (.tuple #[]) (u.putObj b (.map es' ck))/\MiE kd vc (Xn k l) es'.toList/\Brn es'.toList ck:=by
 have hf:=bi hk k u l es.toList he;unfold Xn
 cases hm:dc k l 0 with
 | none=>
  refine⟨es,?_,he,hn⟩;rw[hm] at hf;simp only[Builtin.delete_,hts,zt3,zvh,ztf,nw,run_underlying ht,ny,MapKept.run_getObj_map hb,gn hk k,hf,zvj];simp [setObj,Sem.run,hb,World.putObj,Result.andThen]
 | some q=>
  obtain⟨j,x⟩:=q;refine⟨es.eraseIdxIfInBounds j,?_,by simpa using Oy he j,by simpa using hn.sub (List.eraseIdx_sublist ..)⟩;rw[hm] at hf;simp only[Builtin.delete_,hts,zt3,zvh,ztf,nw,run_underlying ht,ny,MapKept.run_getObj_map hb,gn hk k,hf,ztx];simp [setObj,Sem.run,hb,World.putObj,Result.andThen]
def N6{es:Array MapEntry}{since last:Nat}{seen:Array Nat}(hm:u.heap[m]?=some (.map es ck))(hi:u.heap[i]?=some (.mapIter (some m) since seen last))(hold:∀ x∈es.toList,x.born<since)(hsc:since<=last):
  ((leftOf es seen).size=0/\(Instr.next (.pointer (some ⟨i,0,none⟩)) false ty).run P u=.ok (.tuple #[.bool false]) u)\/
  ∃ (j:Nat) (e:MapEntry),(leftOf es seen)[j]?=some e/\∃ u1:World,(u1=u\/u1=u.drew)/\(Instr.next (.pointer (some ⟨i,0,none⟩)) false ty).run P u=.ok (.tuple #[.bool true,e.key,e.val]) (u1.putObj i (.mapIter (some m) since (seen.push e.born) ck)):=by
 simp only[Instr.next,getObj,nw,Sem.run,hi,hm,Result.andThen,next_test_false seen es since last hold hsc,ztj,if_false];unfold leftOf;have hmem:∀ x∈(Array.filter (fun e=>!seen.contains e.born) es).toList,x.born<since:=fun x hx=>hold x (by simp at hx |-;exact hx.1);generalize Array.filter (fun e=>!seen.contains e.born) es=L at hmem |-;have e1:L.filter (fun x=>decide (x.born<since))=L:=Array.filter_eq_self.2 (fun x hx=>by simpa using hmem x (by simpa using hx))
 have e2:L.filter (fun x=>decide (x.born>=since))=#[]:=by
  rw[Array.filter_eq_empty_iff];intro x hx;have:=hmem x (by simpa using hx);simp;omega
 simp only[e1,e2,Array.append_empty];by_cases h0:L.size=0
 ·left;have:L=#[]:=Array.eq_empty_of_size_eq_zero h0;subst this;refine⟨rfl,?_⟩;simp [choose,Sem.run,Question.forced]
 ·right;have hne:L.isEmpty=false:=by simp [Array.isEmpty,h0]
  simp only[hne,ztj,if_false,Array.empty_append,Array.size_map]
  have hch:∃ (j:Nat) (w1:World),j<L.size/\(w1=u\/w1=u.drew)/\(choose (Question.mapNext L.size)).run P u=.ok j w1:=by
   by_cases hf:L.size<=1
   ·exact⟨0,u,by omega,.inl Z,by simp [choose,Sem.run,Question.forced,hf]⟩
   ·exact⟨_,u.drew,ztt _ J,.inr Z,by
     simp only[choose,Sem.run,Question.forced,decide_eq_true_eq,hf,if_false,Question.cut];rfl⟩
  obtain⟨j,w1,hj,hal,hrun⟩:=hch;refine⟨j,L[j],by simp [hj],w1,hal,?_⟩;have hi1:w1.heap[i]?=some (.mapIter (some m) since seen last):=by rcases hal with rfl | rfl<;>exact hi
  simp only[hrun,Array.getElem?_map,zsl hj,ztx,nw,Result.andThen];simp [setObj,Sem.run,hi1,World.putObj]
end
def zph{V:Type}(b:Nat)(kd:IntKind)(vc:V->Value)(l:List (Int×V)):GR where
 P _ u C:=(∃ es ck,u.heap[b]?=some (.map es ck)/\MiE kd vc l es.toList/\Brn es.toList ck)/\∀ k,C k↔k=b
 st:=fun⟨⟨es,ck,hb,he⟩,hC⟩ _ _ _ hk=>⟨⟨es,ck,(hk b ((hC b).2 rfl)).trans hb,he⟩,hC⟩
abbrev F7{V:Type}(b:Nat)(kd:IntKind)(vc:V->Value)(l:List (Int×V)):Res:=(zph b kd vc l).res
def Yk{V:Type}(kd:IntKind)(vc:V->Value)(l:List (Int×V)):Res where
 P x _ u C:=∃ b,x=.map (some b)/\(∃ es ck,u.heap[b]?=some (.map es ck)/\MiE kd vc l es.toList/\Brn es.toList ck)/\∀ k,C k↔k=b
 st:=fun⟨b,hx,⟨es,ck,hb,he⟩,hC⟩ _ _ _ hk=>⟨b,hx,⟨es,ck,(hk b ((hC b).2 rfl)).trans hb,he⟩,hC⟩
def zh5{V:Type}(m:Nat)(kd:IntKind)(vc:V->Value)(l left:List (Int×V)):Res where
 P x _ u C:=∃ i es ck since seen last,x=.pointer (some ⟨i,0,none⟩)/\i≠m/\u.heap[m]?=some (.map es ck)/\MiE kd vc l es.toList/\Brn es.toList ck/\u.heap[i]?=some (.mapIter (some m) since seen last)/\
  (∀ e∈es.toList,e.born<since)/\since<=last/\since<=ck/\MiE kd vc left (leftOf es seen).toList/\∀ k,C k↔k=m\/k=i
 st:=fun⟨i,es,ck,since,seen,last,h1,h2,h3,h4,h5,h6,h7,h8,h9,h10,hC⟩ _ _ _ hk=>⟨i,es,ck,since,seen,last,h1,h2,(hk m ((hC m).2 (.inl rfl))).trans h3,h4,h5,(hk i ((hC i).2 (.inr rfl))).trans h6,h7,h8,h9,h10,hC⟩
section
variable             {a:Act}    
variable {Y:Type}  {vc:Y->Value} {l left:List (Int×Y)}
def Has.holdMb{t:Nat}(hk:κ t=some (.own (Yk kd vc l)))(h:Has F B O n κ a u):∃ b,Has F B O n (upd (upd (upd κ t lh) q (.own (F7 b kd vc l))) t (.is (.map (some b)))) a u:=by
 obtain⟨H,fp,h⟩:=h;obtain⟨⟨b,hv,hb,hC⟩,hM⟩:=h.slot t _ hk;have h2:=h.usePut (d:=q) (a':=a) (r':=F7 b kd vc l) (C:=fp t) hk ⟨Keep.refl _ _,h.sub,mw _,fun _ _ _=>rfl⟩ rfl rfl (fun _ _=>rfl) ⟨hb,hC⟩ fun k hk=>⟨.inl hk,(hM k hk).1,(hM k hk).2.1⟩
 have h3:=h2.name t;rw[hv] at h3;exact⟨b,H,_,h3⟩
def zpa(t q:Nat){c:Code}(hk:κ t=some (.own (Yk kd vc l)))(h:∀ b,V P F B n O (upd (upd (upd κ t lh) q (.own (F7 b kd vc l))) t (.is (.map (some b)))) c Q):V P F B n O κ c Q:=fun a u hh=>let ⟨b,h'⟩:=hh.holdMb (q:=q) hk;h b a u h'
def Yt(t q:Nat)(hk:κ t=some (.own (Yk kd vc l)))(h:∀ b,VO P F B n O ops (upd (upd (upd κ t lh) q (.own (F7 b kd vc l))) t (.is (.map (some b)))) os Q):VO P F B n O ops κ os Q:=fun a u hh=>let ⟨b,h'⟩:=hh.holdMb (q:=q) hk;h b a u h'
def Rc(kd:IntKind)(vc:Y->Value){hint:Option Operand}(hn:Nat.blt d n=true)(hg:gK ops κ ⟨some d,.makeMap t none,ty,pos,aft,g⟩=some true):
  StepOK P F B n ops O κ ⟨some d,.makeMap t none,ty,pos,aft,g⟩ d (.own (Yk kd vc [])):=by
 rintro κ' a u hl ⟨H,fp,hh⟩;have hn:d<n:=by simpa using hn
 unfold After;rw[na (xn hh hl hg)]
 have hrun:(execOp a.eval ⟨some d,.makeMap t none,ty,pos,aft,g⟩).run P u=.ok (.value (.map (some u.heap.size))) (u.alloc (.map #[] 0)):=by
  simp [execOp,Instr.makeMap]
 rw[hrun];simp only[Upon];have hg2:=hh.grow (Grow.hid hh.sub (.map #[] 0));refine⟨H,_,hg2.putR (C:=fun k=>k=u.heap.size) (by simp [Act.put]) Z (fun t ht=>xy ht) ⟨u.heap.size,kg (by rw[hh.size];exact hn),⟨_,_,xx _ _,rfl,zee⟩,fun _=>Iff.rfl⟩ (fun k hk=>?_) fun t r' _ ht k hf hk=>?_⟩
 ·subst hk;exact⟨xl (xx u _),jm hh.sub (nu _),.inl hh.keep.size,fun y hy e=>by have:=xl (hh.boxes y hy).1;omega⟩
 ·have:=((hh.slot t _ ht).2 k hf).1;omega
def f6{b:Nat}(k:Int){r:Value}{f:Bool}(ht:P.underlying t=some (.map kt et))(hkt:P.underlying kt=some (.int kd))(hz:∀ w,(zeroValue et).run P w=.ok z w)
  (hx:evK κ x=some (.map (some b))) (hq:κ q=some (.own (F7 b kd vc l))) (hy:evK κ y=some (.int kd k)) (hn:Nat.blt d n=true) (hg:gK ops κ ⟨some d,.lookup t x y true,ty,pos,aft,g⟩=some true)
  (hr:(g7 k l).elim z vc=r) (hf:(g7 k l).isSome=f):
  StepOKR P F B n ops O κ ⟨some d,.lookup t x y true,ty,pos,aft,g⟩ q d (.is (.tuple #[r,.bool f])):=by
 rintro κ' a u hlk hqk ⟨H,fp,hh⟩;subst hr hf;unfold After;rw[na (xn hh hlk hg)];have e:=hh.env hlk;have h1:=e.is_ x _ (by simp [Op.operands]) hx;have h2:=e.is_ y _ (by simp [Op.operands]) hy;obtain⟨⟨⟨es,ck,hb,he,_⟩,hC⟩,hM⟩:=hh.slot q _ (hqk.trans hq)
 have hrun:(execOp a.eval ⟨some d,.lookup t x y true,ty,pos,aft,g⟩).run P u=.ok (.value (.tuple #[(g7 k l).elim z vc,.bool (g7 k l).isSome])) u:=by
  simp only[execOp,h1,h2,nw,N7 ht hkt hb he k (hz u),ny];rfl
 rw[hrun];simp only[Upon];exact⟨H,fp,hh.put (k:=.is _) (zn hn) trivial Z⟩
def HasH.turnMap{b:Nat}{es:Array MapEntry}{l':List (Int×Y)}(hh:HasH F B O n κ a u H fp)(hq:κ q=some (.own (F7 b kd vc l)))(he:MiE kd vc l' es.toList)(hb:Brn es.toList ck):
  HasH F B O n (upd κ q (.own (F7 b kd vc l'))) a (u.putObj b (.map es ck)) H (fpu fp q fun k=>k=b):=by
 obtain⟨⟨_,hC⟩,hM⟩:=hh.slot q _ hq;have hbm:=hM b ((hC b).2 rfl)
 have:=hh.usePut (d:=q) (a':=a) (r':=F7 b kd vc l') (C:=fun k=>k=b) hq (Ff hh.sub ((hC b).2 rfl) hbm.2.1) rfl rfl (fun _ _=>rfl) ⟨⟨es,ck,zvy hbm.1,he,hb⟩,fun _=>Iff.rfl⟩ (fun k hk=>by
  subst hk;exact⟨.inl ((hC k).2 rfl),by rw[World.putObj_size];exact hbm.1,hbm.2.1⟩)
 rw[jt] at this;exact this
def G6{z:Operand}{b:Nat}(k:Int)(v:Y){zv:Value}{l':List (Int×Y)}(ht:P.underlying t=some (.map kt et))(hkt:P.underlying kt=some (.int kd))
  (hx:evK κ x=some (.map (some b))) (hq:κ q=some (.own (F7 b kd vc l))) (hy:evK κ y=some (.int kd k)) (hz:evK κ z=some zv) (hzv:vc v=zv) (hg:gK ops κ ⟨none,.mapUpdate t x y z,ty,pos,aft,g⟩=some true)
  (hl':Ro k v l=l'):
  o4 P F B n ops O κ ⟨none,.mapUpdate t x y z,ty,pos,aft,g⟩ q (.own (F7 b kd vc l')):=by
 rintro κ' a u hlk hqk ⟨H,fp,hh⟩;subst hl' hzv;unfold After;rw[na (xn hh hlk hg)];have e:=hh.env hlk;have h1:=e.is_ x _ (by simp [Op.operands]) hx;have h2:=e.is_ y _ (by simp [Op.operands]) hy;have h3:=e.is_ z _ (by simp [Op.operands]) hz;have hqs:=hqk.trans hq;obtain⟨⟨⟨es,ck,hb,he,hbn⟩,hC⟩,hM⟩:=hh.slot q _ hqs;obtain⟨es',ck',hr,he',hb'⟩:=ru ht hkt hb he hbn k v
 have hrun:(execOp a.eval ⟨none,.mapUpdate t x y z,ty,pos,aft,g⟩).run P u=.ok .skip (u.putObj b (.map es' ck')):=by
  simp only[execOp,h1,h2,h3,nw,hr,ny];rfl
 rw[hrun];simp only[Upon,Act.put];exact⟨H,_,hh.turnMap hqs he' hb'⟩
def Xf{b:Nat}{t2:TypeId}(k:Int){l':List (Int×Y)}(ht:P.underlying t=some (.map kt et))(hkt:P.underlying kt=some (.int kd))
  (hx:evK κ x=some (.map (some b))) (hq:κ q=some (.own (F7 b kd vc l))) (hy:evK κ y=some (.int kd k)) (hg:gK ops κ ⟨none,.call ⟨.builtin .delete,#[x,y],#[t,t2]⟩,ty,pos,aft,g⟩=some true)
  (hl':Xn k l=l'):
  o4 P F B n ops O κ ⟨none,.call ⟨.builtin .delete,#[x,y],#[t,t2]⟩,ty,pos,aft,g⟩ q (.own (F7 b kd vc l')):=by
 rintro κ' a u hlk hqk ⟨H,fp,hh⟩;subst hl';unfold After;rw[na (xn hh hlk hg)];have e:=hh.env hlk;have h1:=e.is_ x _ (by simp [Op.operands,Call.operands]) hx;have h2:=e.is_ y _ (by simp [Op.operands,Call.operands]) hy;have hqs:=hqk.trans hq;obtain⟨⟨⟨es,ck,hb,he,hbn⟩,hC⟩,hM⟩:=hh.slot q _ hqs;obtain⟨es',hr,he',hb'⟩:=Qv ht hkt hb he hbn k ty (ts:=#[t,t2]) rfl
 have hrun:(execOp a.eval ⟨none,.call ⟨.builtin .delete,#[x,y],#[t,t2]⟩,ty,pos,aft,g⟩).run P u=.ok (.value (.tuple #[])) (u.putObj b (.map es' ck)):=by
  simp [execOp,resolve,h1,h2,invoke,builtin,hr]
 rw[hrun];simp only[Upon,Act.put];exact⟨H,_,hh.turnMap hqs he' hb'⟩
def Rf{b:Nat}(ht:P.underlying t=some (.map kt et))(hx:evK κ x=some (.map (some b)))(hq:κ q=some (.own (F7 b kd vc l)))(hn:Nat.blt d n=true)
  (hg:gK ops κ ⟨some d,.call ⟨.builtin .len,#[x],#[t]⟩,ty,pos,aft,g⟩=some true) (hm:l.length=m):
  StepOKR P F B n ops O κ ⟨some d,.call ⟨.builtin .len,#[x],#[t]⟩,ty,pos,aft,g⟩ q d (.is (.int .i64 m)):=by
 rintro κ' a u hlk hqk ⟨H,fp,hh⟩;subst hm;unfold After;rw[na (xn hh hlk hg)];have e:=hh.env hlk;have h1:=e.is_ x _ (by simp [Op.operands,Call.operands]) hx;obtain⟨⟨⟨es,ck,hb,he,_⟩,hC⟩,hM⟩:=hh.slot q _ (hqk.trans hq);have hsz:es.size=l.length:=by have:=nh List.length he;simpa using this
 have hrun:(execOp a.eval ⟨some d,.call ⟨.builtin .len,#[x],#[t]⟩,ty,pos,aft,g⟩).run P u=.ok (.value (.int .i64 l.length)) u:=by
  simp [execOp,resolve,h1,invoke,builtin,Builtin.len_,run_underlying ht,MapKept.run_getObj_map hb,goInt,hsz]
 rw[hrun];simp only[Upon];exact⟨H,fp,hh.put (k:=.is _) (zn hn) trivial Z⟩
def zbs{b:Nat}(ht:P.underlying t=some (.map kt et))(hx:evK κ x=some (.map (some b)))(hq:κ q=some (.own (F7 b kd vc l)))(hn:Nat.blt d n=true)
  (hg:gK ops κ ⟨some d,.range t x,ty,pos,aft,g⟩=some true):
  StepOK2 P F B n ops O κ ⟨some d,.range t x,ty,pos,aft,g⟩ q lh d (.own (zh5 b kd vc l l)):=by
 rintro κ' a u hlk hqk ⟨H,fp,hh⟩;have hn:d<n:=by simpa using hn
 unfold After;rw[na (xn hh hlk hg)];have e:=hh.env hlk;have h1:=e.is_ x _ (by simp [Op.operands]) hx;have hqs:=hqk.trans hq;obtain⟨⟨⟨es,ck,hb,he,hbn⟩,hC⟩,hM⟩:=hh.slot q _ hqs
 have hrun:(execOp a.eval ⟨some d,.range t x,ty,pos,aft,g⟩).run P u=.ok (.value (.pointer (some ⟨u.heap.size,0,none⟩))) (u.alloc (.mapIter (some b) ck #[] ck)):=by
  simp only[execOp,h1,nw,run_range_map u t kt et b es ck ht hb,ny];rfl
 rw[hrun];simp only[Upon];have hbm:=hM b ((hC b).2 rfl);have hg2:Grow (fp q) u H (u.alloc (.mapIter (some b) ck #[] ck)) H:=⟨(Grow.hid hh.sub (.mapIter (some b) ck #[] ck)).keep.weak (fun k _ h=>h.elim),(Grow.hid hh.sub _).sub,mw _,fun _ _ _=>rfl⟩
 have hlo:leftOf es #[]=es:=by unfold leftOf;simp
 have:=hh.usePut (d:=d) (a':=a.put (some d) (.pointer (some ⟨u.heap.size,0,none⟩))) (r':=zh5 b kd vc l l) (C:=fun k=>k=b\/k=u.heap.size) hqs hg2 (by simp [Act.put]) rfl (fun t ht=>xy ht)
  ⟨u.heap.size,es,ck,ck,#[],ck,kg (by rw[hh.size];exact hn),by omega,by rw[heap_alloc_old u _ hbm.1];exact hb,he,hbn,heap_alloc_new u _,hbn.lt,nu _,nu _,by rw[hlo];exact he,fun _=>Iff.rfl⟩
  (fun k hk=>by
   have hsz:(u.alloc (.mapIter (some b) ck #[] ck)).heap.size=u.heap.size+1:=by show(u.heap.push _).size=_;simp
   rcases hk with rfl | rfl
   ·exact⟨.inl ((hC _).2 rfl),by omega,hbm.2.1⟩
   ·exact⟨.inr (nu _),by omega,jm hh.sub (nu _)⟩)
 exact⟨H,_,this⟩
def zbt{w:Bool}(hw:w=false)(hq:κ q=some (.own (zh5 m kd vc l left)))(hl:left=[])(hn:Nat.blt d n=true)(hg:gK ops κ ⟨some d,.next (.tmp q) w,ty,pos,aft,g⟩=some true):
  StepOK P F B n ops O κ ⟨some d,.next (.tmp q) w,ty,pos,aft,g⟩ d (.is (.tuple #[.bool false])):=
 k9 rfl (zn hn) hg trivial fun a u H fp e=>by
  subst hw hl;obtain⟨⟨i,es,ck,since,seen,last,h1,h2,h3,h4,h5,h6,h7,h8,h9,h10,hC⟩,hM⟩:=e.own_ q _ (by simp [Op.operands]) hq;have hz:(leftOf es seen).size=0:=by have:=nh List.length h10;simpa using this
  refine⟨_,?_,rfl⟩;rcases N6 (P:=P) (ty:=ty) h3 h6 h7 h8 with ⟨_,hr⟩ | ⟨j,e2,he2,_⟩
  ·simp only[execOp,h1,nw,hr,ny];rfl
  ·rw[ztn J] at he2;cases he2
def Xq{es:Array MapEntry}{seen:Array Nat}{e:MapEntry}(hb:Brn es.toList ck)(he:(leftOf es seen)[j]?=some e):(leftOf es (seen.push e.born)).toList=(leftOf es seen).toList.eraseIdx j:=by
 have e1:(leftOf es (seen.push e.born)).toList=(leftOf es seen).toList.filter fun x=>!(x.born == e.born):=by
  unfold leftOf;rw[zv4,zv4,List.filter_filter];apply List.filter_congr;intro x _;rw[contains_push];cases seen.contains x.born<;>cases (x.born == e.born)<;>rfl
 have hnd:((leftOf es seen).toList.map (·.born)).Nodup:=by
  unfold leftOf;rw[zv4];exact hb.nd.sublist (List.filter_sublist.map _)
 rw[<-zt5] at he;rw[e1];generalize (leftOf es seen).toList=L at hnd he;clear e1
 induction L generalizing j with
 | nil=>cases he
 | cons x L ih=>
  rw[mt,zto] at hnd
  cases j with
  | zero=>
   cases he
   have h0:L.filter (fun x=>!(x.born == e.born))=L:=zul.2 fun y hy=>by
    have:y.born≠e.born:=fun h=>hnd.1 (h ▸ zt6 hy);simpa using this
   simp [h0]
  | succ j=>
   have he':L[j]?=some e:=by simpa using he
   have hne:x.born≠e.born:=fun h=>hnd.1 (h ▸ zt6 (mz he'));have:(!(x.born == e.born))=true:=by simpa using hne
   rw[zty (by simpa using hne),ih hnd.2 he'];rfl
def znz{es:List MapEntry}{e:MapEntry}(h:MiE kd vc left es)(he:es[j]?=some e):∃ p,left[j]?=some p/\e.key=.int kd p.1/\e.val=vc p.2:=by
 have h2:=nh (·[j]?) h;simp only[zr8,he,ztx] at h2
 cases hp:left[j]? with
 | none=>rw[hp] at h2;cases h2
 | some p=>
  rw[hp] at h2;simp at h2;exact⟨p,rfl,h2.1,h2.2⟩
def Has.endM{t:Nat}(hne:t≠q)(hk:κ t=some (.own (zh5 m kd vc l left)))(h:Has F B O n κ a u):Has F B O n (upd (upd κ t lh) q (.own (F7 m kd vc l))) a u:=by
 obtain⟨H,fp,hh⟩:=h;obtain⟨⟨i,es,ck,since,seen,last,h1,h2,h3,h4,h5,h6,h7,h8,h9,h10,hC⟩,hM⟩:=hh.slot t _ hk
 have:=hh.usePut (d:=q) (a':=a) (r':=F7 m kd vc l) (C:=fun k=>k=m) hk ⟨Keep.refl _ _,hh.sub,mw _,fun _ _ _=>rfl⟩ rfl rfl (fun _ _=>rfl) ⟨⟨es,ck,h3,h4,h5⟩,fun _=>Iff.rfl⟩
  (fun k hk'=>by subst hk';have:=(hC k).2 (.inl rfl);exact⟨.inl this,(hM k this).1,(hM k this).2.1⟩)
 exact⟨H,_,this⟩
def zov(t q:Nat){c:Code}(hk:κ t=some (.own (zh5 m kd vc l left)))(h:V P F B n O (upd (upd κ t lh) q (.own (F7 m kd vc l))) c Q)(hne:t≠q:=by decide):V P F B n O κ c Q:=fun a u hh=>h a u (hh.endM hne hk)
end
end Go.V
namespace Go.V
def zpd{V:Type}(m:Nat)(kd:IntKind)(vc:V->Value)(l left:List (Int×V))(p:Int×V):Res where
 P x _ u C:=∃ (i:Nat) (es:Array MapEntry) (ck since:Nat) (seen:Array Nat) (e:MapEntry),x=.pointer (some ⟨i,0,none⟩)/\i≠m/\u.heap[m]?=some (.map es ck)/\MiE kd vc l es.toList/\Brn es.toList ck/\u.heap[i]?=some (.mapIter (some m) since (seen.push e.born) ck)/\
  (∀ e∈es.toList,e.born<since)/\since<=ck/\MiE kd vc left (leftOf es (seen.push e.born)).toList/\e∈es.toList/\e.key=.int kd p.1/\e.val=vc p.2/\∀ k,C k↔k=m\/k=i
 st:=fun⟨i,es,ck,since,seen,e,h1,h2,h3,h4,h5,h6,h7,h8,h9,h10,h11,h12,hC⟩ _ _ _ hk=>⟨i,es,ck,since,seen,e,h1,h2,(hk m ((hC m).2 (.inl rfl))).trans h3,h4,h5,(hk i ((hC i).2 (.inr rfl))).trans h6,h7,h8,h9,h10,h11,h12,hC⟩
def zm7{V:Type}{vc:V->Value}{l left:List (Int×V)}{p:Int×V}:∀ v H u C,B.Le H->(zpd m kd vc l left p).P v H u C->(zh5 m kd vc l left).P v H u C:=
 fun _ _ _ _ _ ⟨i,es,ck,since,seen,e,h1,h2,h3,h4,h5,h6,h7,h8,h9,_,_,_,hC⟩=>⟨i,es,ck,since,seen.push e.born,ck,h1,h2,h3,h4,h5,h6,h7,h8,h8,h9,hC⟩
def zgq{es:Array MapEntry}{seen:Array Nat}{e:MapEntry}(h:(leftOf es seen)[j]?=some e):e∈es.toList:=by
 have h1:e∈leftOf es seen:=Array.mem_of_getElem? h;unfold leftOf at h1;rw[Array.mem_filter] at h1;exact Array.mem_toList_iff.2 h1.1
def zdm{es:List MapEntry}(hn:(es.map (·.born)).Nodup){e:MapEntry}(he:e∈es):es.find? (fun x=>x.born == e.born)=some e:=by
 induction es with
 | nil=>cases he
 | cons x es ih=>
  rw[mt,zto] at hn;rw[List.find?_cons];rcases nz.1 he with h | h
  ·subst h;simp
  ·have hne:x.born≠e.born:=fun h2=>hn.1 (h2 ▸ zt6 (f:=(·.born)) h);have:(x.born == e.born)=false:=by simpa using hne
   rw[this];exact ih hn.2 h
section
variable             {a:Act}    
variable {Y:Type}  {vc:Y->Value} {l left:List (Int×Y)}
def ze1(ho:o=⟨some d,.next (.tmp q) false,ty,pos,aft,g⟩)(hq:κ q=some (.own (zh5 m kd vc l left)))(hl:left≠[])(hn:Nat.blt d n=true)(hdq:Nat.beq q d=false)(hg:gK ops κ o=some true)
  (h:∀ (j:Nat) (p:Int×Y),left[j]?=some p->VO P F B n O ops (upd (upd κ q (.own (zpd m kd vc l (left.eraseIdx j) p))) d (.is (.tuple #[.bool true,.int kd p.1,vc p.2]))) os Q):VO P F B n O ops κ (o::os) Q:=fun a u hh=>by
 subst ho;obtain⟨H,fp,hh⟩:=hh;obtain⟨⟨i,es,ck,since,seen,last,h1,h2,h3,h4,h5,h6,h7,h8,h9,h10,hC⟩,hM⟩:=hh.slot q _ hq;show After P ops _ _ a u;unfold After;rw[na (xn hh (fun _ _=>rfl) hg)];rcases N6 (P:=P) (ty:=ty) h3 h6 h7 h8 with ⟨hz,_⟩ | ⟨j,e,he,u1,hu1,hr⟩
 ·exfalso;have:=nh List.length h10;simp [hz] at this;exact hl (zrv this.symm)
 ·have hrun:(execOp a.eval ⟨some d,.next (.tmp q) false,ty,pos,aft,g⟩).run P u=.ok (.value (.tuple #[.bool true,e.key,e.val])) (u1.putObj i (.mapIter (some m) since (seen.push e.born) ck)):=by
   simp only[execOp,h1,nw,hr,ny];rfl
  rw[hrun];simp only[Upon];obtain⟨p,hp,hk1,hv1⟩:=znz h10 (by rw[zt5];exact he);rw[hk1,hv1];have him:=hM i ((hC i).2 (.inr rfl));have hsub:H.Le (Go.V.hp u1):=by rcases hu1 with rfl | rfl<;>exact hh.sub
  have hgr:Grow (fp q) u H (u1.putObj i (.mapIter (some m) since (seen.push e.born) ck)) H:=by
   have g1:=Ff (u:=u1) (L:=fp q) (o:=.mapIter (some m) since (seen.push e.born) ck) hsub ((hC i).2 (.inr rfl)) him.2.1;rcases hu1 with rfl | rfl
   ·exact g1
   ·exact⟨⟨g1.keep.os,g1.keep.tape,g1.keep.output,g1.keep.size,g1.keep.block,mq (zss _) g1.keep.dr⟩,g1.sub,g1.le,g1.fresh⟩
  have hmm:u1.heap[m]?=some (.map es ck):=by rcases hu1 with rfl | rfl<;>exact h3
  have hsz:i<u1.heap.size:=by rcases hu1 with rfl | rfl<;>exact him.1
  have h5':=hh.usePut (d:=q) (a':=a) (r':=zpd m kd vc l (left.eraseIdx j) p) (C:=fun k=>k=m\/k=i) hq hgr rfl rfl (fun _ _=>rfl)
   ⟨i,es,ck,since,seen,e,h1,h2,by rw[zvb (Ne.symm h2)];exact hmm,h4,h5,zvy hsz,h7,h9,by rw[Xq h5 he];exact Oy h10 j,zgq he,hk1,hv1,fun _=>Iff.rfl⟩
   (fun k hk=>by
    have hkC:fp q k:=(hC k).2 hk;refine⟨.inl hkC,?_,(hM k hkC).2.1⟩;rw[World.putObj_size];rcases hu1 with rfl | rfl<;>exact(hM k hkC).1)
  rw[jt] at h5';exact h j p hp _ _ ⟨H,_,h5'.put (k:=.is _) (zn hn) trivial Z⟩
def zb0{p:Int×Y}(hq:κ q=some (.own (zpd m kd vc l left p)))(hn:Nat.blt d n=true)(hg:gK ops κ ⟨some d,.entry (.tmp q),ty,pos,aft,g⟩=some true):
  StepOK P F B n ops O κ ⟨some d,.entry (.tmp q),ty,pos,aft,g⟩ d (.is (.tuple #[.int kd p.1,vc p.2])):=
 k9 rfl (zn hn) hg trivial fun a u H fp e=>by
  obtain⟨⟨i,es,ck,since,seen,x,h1,h2,h3,h4,h5,h6,h7,h8,h9,h10,h11,h12,hC⟩,hM⟩:=e.own_ q _ (by simp [Op.operands]) hq;refine⟨_,?_,rfl⟩;have hf:=zdm h5.nd h10;have hf2:es.find? (fun y=>y.born == x.born)=some x:=by rw[<-Array.find?_toList];exact hf
  simp only[execOp,h1,Instr.entry,getObj,nw,Sem.run,h6,Result.andThen,Array.back?_push,h3,bne_self_eq_false,ztj,if_false,hf2,h11,h12];rfl
def Xc{z:Operand}{b:Nat}(k:Int)(v:Y){zv:Value}{l':List (Int×Y)}(ht:P.underlying t=some (.map kt et))(hkt:P.underlying kt=some (.int kd))
  (hx:evK κ x=some (.map (some b))) (hq:κ q=some (.own (F7 b kd vc l))) (hy:evK κ y=some (.int kd k)) (hz:evK κ z=some zv) (hzv:vc v=zv) (hg:gK ops κ ⟨none,.insert t x y z,ty,pos,aft,g⟩=some true)
  (hl':Ro k v l=l'):
  o4 P F B n ops O κ ⟨none,.insert t x y z,ty,pos,aft,g⟩ q (.own (F7 b kd vc l')):=by
 rintro κ' a u hlk hqk ⟨H,fp,hh⟩;subst hl' hzv;unfold After;rw[na (xn hh hlk hg)];have e:=hh.env hlk;have h1:=e.is_ x _ (by simp [Op.operands]) hx;have h2:=e.is_ y _ (by simp [Op.operands]) hy;have h3:=e.is_ z _ (by simp [Op.operands]) hz;have hqs:=hqk.trans hq;obtain⟨⟨⟨es,ck,hb,he,hbn⟩,hC⟩,hM⟩:=hh.slot q _ hqs;obtain⟨es',ck',hr,he',hb'⟩:=ru ht hkt hb he hbn k v
 have hrun:(execOp a.eval ⟨none,.insert t x y z,ty,pos,aft,g⟩).run P u=.ok .skip (u.putObj b (.map es' ck')):=by
  simp only[execOp,h1,h2,h3,nw,hr,ny];rfl
 rw[hrun];simp only[Upon,Act.put];exact⟨H,_,hh.turnMap hqs he' hb'⟩
end
end Go.V
end
