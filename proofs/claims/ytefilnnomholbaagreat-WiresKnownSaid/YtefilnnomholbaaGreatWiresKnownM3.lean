/- Texts on the way to WiresKnown, part 3: one behind another. -/
import Derived.Test.YtefilnnomholbaaGreatWiresKnownM2
import Derived.Laws.IdiomRangeMap
import Derived.Lib.Builder
import Derived.Lib.UnsafeStr
set_option linter.unusedVariables false
set_option linter.unusedSimpArgs false
set_option maxRecDepth 20000
set_option maxHeartbeats 8000000
set_option linter.defProp false
open Go.Proofs Go.RowKit
section
variable{P:Go.Program}{kd:Go.IntKind}{et kt t t' ty:Go.TypeId}{p:Option Go.Addr}{l:List Go.V.L2.U}{b bb cf ck d i k lim m n off q rb:Nat}{u w:Go.World}{cap caps cs fst xs z:List Go.Value}{F:Go.V.Fr}{B H:Go.V.Heap}{O:Go.V.Boxes}{ops:Array Go.Oper}{κ:Go.V.Kap}{pos:String}{aft:Array Go.Edge}{g:Option (Nat×Bool)}{a:Go.Act}{os:List Go.Oper}{Q:Go.Exit->Go.Act->Go.World->Prop}{α:Type}{x y:Go.Operand}{fu r:Bool}{e f:Int}{fp:Nat->Nat->Prop}{parts:Array (Nat×Go.Operand)}{places:List (Nat×Nat)}{vs:List (Nat×Go.Value)}{root sv v:Go.Value}{pre:Go.V.wo}{s str:ByteArray}{bs:List Nat}{R:Go.V.L4.Rd}{C:Nat->Prop}{fr:Nat×Nat}{φ ψ:Go.Value->Go.V.Heap->Prop}{tts:Array Go.TypeId}{A Y:Prop}
namespace Go.V
def MiE{V:Type}(kd:IntKind)(vc:V->Value)(l:List (Int×V))(es:List MapEntry):Prop:=es.map (fun e=>(e.key,e.val))=l.map fun p=>(Value.int kd p.1,vc p.2)
section
variable  {V:Type}  {vc:V->Value} {l:List (Int×V)} 
def Ox{p:Int×V}{l:List (Int×V)}{es:List MapEntry}(h:MiE kd vc (p::l) es):∃ e r,es=e::r/\e.key=.int kd p.1/\e.val=vc p.2/\MiE kd vc l r:=by
 unfold MiE at h
 cases es with
 | nil=>simp at h
 | cons e r=>
  simp at h;exact⟨e,r,rfl,h.1.1,h.1.2,h.2⟩
def Lb(k:Int):∀ (l:List (Int×V)) (es:List MapEntry) (i:Nat),MiE kd vc l es->Instr.findNow (.int kd) (.int kd k) es i=some ((dw k l i).map fun p=>(p.1,vc p.2))
 | [],es,i,h=>by
  have:es=[]:=by simpa [MiE] using h
  subst this;rfl
 | p::l,es,i,h=>by
  obtain⟨e,r,rfl,h1,h2,h3⟩:=Ox h;rw[Instr.findNow,dw,h1];simp only[Instr.sameNow,if_true];by_cases hkp:k=p.1
  ·rw[na hkp,beq_iff_eq.2 hkp,h2];rfl
  ·rw[nc hkp,beq_false_of_ne hkp];exact Lb k l r (i+1) h3
def af(hk:P.underlying kt=some (.int kd))(k:Int)(w:World)(l:List (Int×V))(es:List MapEntry)(h:MiE kd vc l es):
  (Instr.findKey kt (.int kd k) es).run P w=.ok ((dw k l 0).map fun p=>(p.1,vc p.2)) w:=by
 unfold Instr.findKey;simp only[nu,run_underlying hk,ny,Lb k l es 0 h,me]
def px(hk:P.underlying kt=some (.int kd))(k:Int)(em:Bool)(w:World):(Instr.checkKey em 10000 kt (.int kd k)).run P w=.ok () w:=by
 rw[Instr.checkKey];simp only[nu,run_underlying hk,ny];rfl
def Mr(ht:P.underlying t=some (.map kt et))(hk:P.underlying kt=some (.int kd)){es:Array MapEntry}(hb:u.heap[b]?=some (.map es ck))(he:MiE kd vc l es.toList)(k:Int){z:Value}
  (hz:(zeroValue et).run P u=.ok z u):(Instr.lookup t (.map (some b)) (.int kd k) false).run P u=.ok ((ul k l).elim z vc) u:=by
 unfold Instr.lookup;have hf:=af hk k u l es.toList he;simp only[nu,run_underlying ht,ny,MapKept.run_getObj_map hb,me,px hk k,hf];unfold ul
 cases dw k l 0 with
 | none=>simp [hz]
 | some p=>simp
def Ks(k:Int)(v:V):∀ (l:List (Int×V)) (es:List MapEntry) (i j:Nat) (x:V),MiE kd vc l es->dw k l i=some (j,x)->
  MiE kd vc (Nf k v l) (es.modify (j-i) fun e=>{ e with key:=.int kd k,val:=vc v })
 | [],_,_,_,_,_,h=>by cases h
 | p::l,es,i,j,x,he,h=>by
  obtain⟨e,r,rfl,h1,h2,h3⟩:=Ox he;unfold dw at h;rw[Nf];split at h
  ·rename_i hk;cases h;rw[na hk,zmr];unfold MiE at h3 |-;subst hk;simpa using h3
  ·rename_i hk;rw[nc hk];obtain⟨n,hn,_⟩:=B8 h;have ih:=Ks k v l r (i+1) j x h3 h;have e1:j-i=(j-(i+1))+1:=I;rw[e1];unfold MiE at ih |-;simp [h1,h2];exact ih
end
section
variable                  {ex:Exs}
variable {Y:Type}  {vc:Y->Value} {l:List (Int×Y)}
end
end Go.V
namespace Go.V
section
variable {V:Type}
end
structure Brn(es:List MapEntry)(ck:Nat):Prop where
 lt:∀ e∈es,e.born<ck
 nd:(es.map (·.born)).Nodup
def Xk:Brn [] 0:=⟨fun _ h=>(by cases h),zmo⟩
def Brn.push{es:List MapEntry}(h:Brn es ck)(e:MapEntry)(he:e.born=ck):Brn (es++[e]) (ck+1):=⟨fun x hx=>by
 rcases mi.1 hx with hx | hx
 ·exact Nat.lt_succ_of_lt (h.lt x hx)
 ·rw[mz.1 hx,he];exact zon _,by
 rw[zl1,List.nodup_append];refine⟨h.nd,zmc _ _,fun a ha b hb=>?_⟩;obtain⟨x,hx,rfl⟩:=zlb.1 ha;have:=h.lt x hx;simp only[mq,zlo,mz] at hb;omega⟩
def Brn.modify{es:List MapEntry}{ck:Nat}(h:Brn es ck)(j:Nat)(f:MapEntry->MapEntry)(hf:∀ e,(f e).born=e.born):Brn (es.modify j f) ck:=by
 have e1:(es.modify j f).map (·.born)=es.map (·.born):=by
  apply List.ext_getElem?;intro i;rw[zlx,zlx,List.getElem?_modify]
  cases es[i]? with
  | none=>rfl
  | some e=>
   simp only[znc];split<;>simp [hf]
 refine⟨fun e he=>?_,by rw[e1];exact h.nd⟩;have h2:e.born∈es.map (·.born):=by rw[<-e1];exact zm5 he
 obtain⟨x,hx,hb⟩:=zlb.1 h2;rw[<-hb];exact h.lt x hx
section
variable  {V:Type}  {vc:V->Value} {l:List (Int×V)} 
def H9(ht:P.underlying t=some (.map kt et))(hk:P.underlying kt=some (.int kd)){es:Array MapEntry}(hb:u.heap[b]?=some (.map es ck))(he:MiE kd vc l es.toList)(k:Int){z:Value}
  (hz:(zeroValue et).run P u=.ok z u):(Instr.lookup t (.map (some b)) (.int kd k) true).run P u=.ok (.tuple #[(ul k l).elim z vc,.bool (ul k l).isSome]) u:=by
 unfold Instr.lookup;have hf:=af hk k u l es.toList he;simp only[nu,run_underlying ht,ny,MapKept.run_getObj_map hb,me,px hk k,hf];unfold ul
 cases dw k l 0 with
 | none=>simp [hz]
 | some p=>simp
def ej(ht:P.underlying t=some (.map kt et))(hk:P.underlying kt=some (.int kd)){es:Array MapEntry}(hb:u.heap[b]?=some (.map es ck))(he:MiE kd vc l es.toList)(hn:Brn es.toList ck)(k:Int)(v:V):
  ∃ es' ck',(Instr.mapUpdate t (.map (some b)) (.int kd k) (vc v)).run P u=.ok () (u.putObj b (.map es' ck'))/\MiE kd vc (Nf k v l) es'.toList/\Brn es'.toList ck':=by
 have hf:=af hk k u l es.toList he
 cases hm:dw k l 0 with
 | none=>
  refine⟨es.push { key:=.int kd k,val:=vc v,born:=ck },ck+1,?_,?_,by simpa using hn.push _ Z⟩
  ·unfold Instr.mapUpdate;rw[hm] at hf;simp only[nu,run_underlying ht,ny,MapKept.run_getObj_map hb,me,px hk k,hf,Option.map_none];simp [setObj,Sem.run,hb,World.putObj,Result.andThen]
  ·rw[oe hm];unfold MiE at he |-;simp [he]
 | some q=>
  obtain⟨j,x⟩:=q;refine⟨es.modify j fun e=>{ e with key:=.int kd k,val:=vc v },ck,?_,?_,by rw[Array.toList_modify];exact hn.modify j _ fun _=>rfl⟩
  ·obtain⟨n,hn2,hx⟩:=B8 hm;have hn':j=n:=I;subst hn'
   have hkey:((es[j]?).map (·.key)).getD (.int kd k)=.int kd k:=by
    have h2:=nh (·[j]?) he;simp only[zlx,hx,znc] at h2;rw[<-zn2]
    cases hz:es.toList[j]? with
    | none=>rfl
    | some e=>
     rw[hz] at h2;simp at h2;simpa using h2.1
   unfold Instr.mapUpdate;rw[hm] at hf;simp only[nu,run_underlying ht,ny,MapKept.run_getObj_map hb,me,px hk k,hf,znc,hkey];unfold Instr.keyThatStays;rw[na (by simp [Instr.sameBits])];simp [setObj,Sem.run,hb,World.putObj,Result.andThen]
  ·have:=Ks k v l es.toList 0 j x he hm;simpa using this
def map_erase{α β:Type}(f:α->β):∀ (l:List α) (j:Nat),(l.eraseIdx j).map f=(l.map f).eraseIdx j
 | [],_=>rfl
 | _::_,0=>rfl
 | x::l,j+1=>by simp [map_erase f l j]
def Uw{es:List MapEntry}(h:MiE kd vc l es)(j:Nat):MiE kd vc (l.eraseIdx j) (es.eraseIdx j):=by
 unfold MiE at *;rw[map_erase,map_erase,h]
def H8{es:Array MapEntry}{since last:Nat}{seen:Array Nat}(hm:u.heap[m]?=some (.map es ck))(hi:u.heap[i]?=some (.mapIter (some m) since seen last))(hold:∀ x∈es.toList,x.born<since)(hsc:since<=last):
  ((leftOf es seen).size=0/\(Instr.next (.pointer (some ⟨i,0,none⟩)) false ty).run P u=.ok (.tuple #[.bool false]) u)\/
  ∃ (j:Nat) (e:MapEntry),(leftOf es seen)[j]?=some e/\∃ u1:World,(u1=u\/u1=u.drew)/\(Instr.next (.pointer (some ⟨i,0,none⟩)) false ty).run P u=.ok (.tuple #[.bool true,e.key,e.val]) (u1.putObj i (.mapIter (some m) since (seen.push e.born) ck)):=by
 simp only[Instr.next,getObj,nu,Sem.run,hi,hm,Result.andThen,next_test_false seen es since last hold hsc,zmp,if_false];unfold leftOf;have hmem:∀ x∈(Array.filter (fun e=>!seen.contains e.born) es).toList,x.born<since:=fun x hx=>hold x (by simp at hx |-;exact hx.1);generalize Array.filter (fun e=>!seen.contains e.born) es=L at hmem |-;have e1:L.filter (fun x=>decide (x.born<since))=L:=Array.filter_eq_self.2 (fun x hx=>by simpa using hmem x (by simpa using hx))
 have e2:L.filter (fun x=>decide (x.born>=since))=#[]:=by
  rw[Array.filter_eq_empty_iff];intro x hx;have:=hmem x (by simpa using hx);simp;omega
 simp only[e1,e2,Array.append_empty];by_cases h0:L.size=0
 ·left;have:L=#[]:=Array.eq_empty_of_size_eq_zero h0;subst this;refine⟨rfl,?_⟩;simp [choose,Sem.run,Question.forced]
 ·right;have hne:L.isEmpty=false:=by simp [Array.isEmpty,h0]
  simp only[hne,zmp,if_false,Array.empty_append,Array.size_map]
  have hch:∃ (j:Nat) (w1:World),j<L.size/\(w1=u\/w1=u.drew)/\(choose (Question.mapNext L.size)).run P u=.ok j w1:=by
   by_cases hf:L.size<=1
   ·exact⟨0,u,by omega,.inl Z,by simp [choose,Sem.run,Question.forced,hf]⟩
   ·exact⟨_,u.drew,Nat.mod_lt _ I,.inr Z,by
     simp only[choose,Sem.run,Question.forced,decide_eq_true_eq,hf,if_false,Question.cut];rfl⟩
  obtain⟨j,w1,hj,hal,hrun⟩:=hch;refine⟨j,L[j],by simp [hj],w1,hal,?_⟩;have hi1:w1.heap[i]?=some (.mapIter (some m) since seen last):=by rcases hal with rfl | rfl<;>exact hi
  simp only[hrun,Array.getElem?_map,zln hj,znc,nu,Result.andThen];simp [setObj,Sem.run,hi1,World.putObj]
end
def zi3{V:Type}(b:Nat)(kd:IntKind)(vc:V->Value)(l:List (Int×V)):GR where
 P _ u C:=(∃ es ck,u.heap[b]?=some (.map es ck)/\MiE kd vc l es.toList/\Brn es.toList ck)/\∀ k,C k↔k=b
 st:=fun⟨⟨es,ck,hb,he⟩,hC⟩ _ _ _ hk=>⟨⟨es,ck,(hk b ((hC b).2 rfl)).trans hb,he⟩,hC⟩
abbrev Ek{V:Type}(b:Nat)(kd:IntKind)(vc:V->Value)(l:List (Int×V)):Res:=(zi3 b kd vc l).res
def R9{V:Type}(kd:IntKind)(vc:V->Value)(l:List (Int×V)):Res where
 P x _ u C:=∃ b,x=.map (some b)/\(∃ es ck,u.heap[b]?=some (.map es ck)/\MiE kd vc l es.toList/\Brn es.toList ck)/\∀ k,C k↔k=b
 st:=fun⟨b,hx,⟨es,ck,hb,he⟩,hC⟩ _ _ _ hk=>⟨b,hx,⟨es,ck,(hk b ((hC b).2 rfl)).trans hb,he⟩,hC⟩
def zb2{V:Type}(m:Nat)(kd:IntKind)(vc:V->Value)(l left:List (Int×V)):Res where
 P x _ u C:=∃ i es ck since seen last,x=.pointer (some ⟨i,0,none⟩)/\i≠m/\u.heap[m]?=some (.map es ck)/\MiE kd vc l es.toList/\Brn es.toList ck/\u.heap[i]?=some (.mapIter (some m) since seen last)/\
  (∀ e∈es.toList,e.born<since)/\since<=last/\since<=ck/\MiE kd vc left (leftOf es seen).toList/\∀ k,C k↔k=m\/k=i
 st:=fun⟨i,es,ck,since,seen,last,h1,h2,h3,h4,h5,h6,h7,h8,h9,h10,hC⟩ _ _ _ hk=>⟨i,es,ck,since,seen,last,h1,h2,(hk m ((hC m).2 (.inl rfl))).trans h3,h4,h5,(hk i ((hC i).2 (.inr rfl))).trans h6,h7,h8,h9,h10,hC⟩
section
variable {Y:Type}  {vc:Y->Value} {l left:List (Int×Y)}
def Has.holdMb{t:Nat}(hk:κ t=some (.own (R9 kd vc l)))(h:Has F B O n κ a u):∃ b,Has F B O n (upd (upd (upd κ t fw) q (.own (Ek b kd vc l))) t (.is (.map (some b)))) a u:=by
 obtain⟨H,fp,h⟩:=h;obtain⟨⟨b,hv,hb,hC⟩,hM⟩:=h.slot t _ hk;have h2:=h.usePut (d:=q) (a':=a) (r':=Ek b kd vc l) (C:=fp t) hk ⟨Keep.refl _ _,h.sub,mt _,fun _ _ _=>rfl⟩ rfl rfl (fun _ _=>rfl) ⟨hb,hC⟩ fun k hk=>⟨.inl hk,(hM k hk).1,(hM k hk).2.1⟩
 have h3:=h2.name t;rw[hv] at h3;exact⟨b,H,_,h3⟩
def ziy(t q:Nat){c:Code}(hk:κ t=some (.own (R9 kd vc l)))(h:∀ b,V P F B n O (upd (upd (upd κ t fw) q (.own (Ek b kd vc l))) t (.is (.map (some b)))) c Q):V P F B n O κ c Q:=fun a u hh=>let ⟨b,h'⟩:=hh.holdMb (q:=q) hk;h b a u h'
def He(t q:Nat)(hk:κ t=some (.own (R9 kd vc l)))(h:∀ b,VO P F B n O ops (upd (upd (upd κ t fw) q (.own (Ek b kd vc l))) t (.is (.map (some b)))) os Q):VO P F B n O ops κ os Q:=fun a u hh=>let ⟨b,h'⟩:=hh.holdMb (q:=q) hk;h b a u h'
def Br(kd:IntKind)(vc:Y->Value){hint:Option Operand}(hn:Nat.blt d n=true)(hg:gK ops κ ⟨some d,.makeMap t none,ty,pos,aft,g⟩=some true):
  StepOK P F B n ops O κ ⟨some d,.makeMap t none,ty,pos,aft,g⟩ d (.own (R9 kd vc [])):=by
 rintro κ' a u hl ⟨H,fp,hh⟩;have hn:d<n:=by simpa using hn
 unfold After;rw[na (xh hh hl hg)]
 have hrun:(execOp a.eval ⟨some d,.makeMap t none,ty,pos,aft,g⟩).run P u=.ok (.value (.map (some u.heap.size))) (u.alloc (.map #[] 0)):=by
  simp [execOp,Instr.makeMap]
 rw[hrun];simp only[Upon];have hg2:=hh.grow (Grow.hid hh.sub (.map #[] 0));refine⟨H,_,hg2.putR (C:=fun k=>k=u.heap.size) (by simp [Act.put]) Z (fun t ht=>xn ht) ⟨u.heap.size,xv (by rw[hh.size];exact hn),⟨_,_,xm _ _,rfl,Xk⟩,fun _=>Iff.rfl⟩ (fun k hk=>?_) fun t r' _ ht k hf hk=>?_⟩
 ·subst hk;exact⟨xc (xm u _),k9 hh.sub (ns _),.inl hh.keep.size,fun y hy e=>by have:=xc (hh.boxes y hy).1;omega⟩
 ·have:=((hh.slot t _ ht).2 k hf).1;omega
def uo(k:Int){r z:Value}{f:Bool}(ht:P.underlying t=some (.map kt et))(hkt:P.underlying kt=some (.int kd))(hz:∀ w,(zeroValue et).run P w=.ok z w)
  (hx:evK κ x=some (.map (some b))) (hq:κ q=some (.own (Ek b kd vc l))) (hy:evK κ y=some (.int kd k)) (hn:Nat.blt d n=true) (hg:gK ops κ ⟨some d,.lookup t x y true,ty,pos,aft,g⟩=some true)
  (hr:(ul k l).elim z vc=r) (hf:(ul k l).isSome=f):
  StepOKR P F B n ops O κ ⟨some d,.lookup t x y true,ty,pos,aft,g⟩ q d (.is (.tuple #[r,.bool f])):=by
 rintro κ' a u hlk hqk ⟨H,fp,hh⟩;subst hr hf;unfold After;rw[na (xh hh hlk hg)];have e:=hh.env hlk;have h1:=e.is_ x _ (by simp [Op.operands]) hx;have h2:=e.is_ y _ (by simp [Op.operands]) hy;obtain⟨⟨⟨es,ck,hb,he,_⟩,hC⟩,hM⟩:=hh.slot q _ (hqk.trans hq)
 have hrun:(execOp a.eval ⟨some d,.lookup t x y true,ty,pos,aft,g⟩).run P u=.ok (.value (.tuple #[(ul k l).elim z vc,.bool (ul k l).isSome])) u:=by
  simp only[execOp,h1,h2,nu,H9 ht hkt hb he k (hz u),ny];rfl
 rw[hrun];simp only[Upon];exact⟨H,fp,hh.put (k:=.is _) (zo hn) trivial Z⟩
def HasH.turnMap{es:Array MapEntry}{l':List (Int×Y)}(hh:HasH F B O n κ a u H fp)(hq:κ q=some (.own (Ek b kd vc l)))(he:MiE kd vc l' es.toList)(hb:Brn es.toList ck):
  HasH F B O n (upd κ q (.own (Ek b kd vc l'))) a (u.putObj b (.map es ck)) H (fpu fp q fun k=>k=b):=by
 obtain⟨⟨_,hC⟩,hM⟩:=hh.slot q _ hq;have hbm:=hM b ((hC b).2 rfl)
 have:=hh.usePut (d:=q) (a':=a) (r':=Ek b kd vc l') (C:=fun k=>k=b) hq (Ch hh.sub ((hC b).2 rfl) hbm.2.1) rfl rfl (fun _ _=>rfl) ⟨⟨es,ck,zoy hbm.1,he,hb⟩,fun _=>Iff.rfl⟩ (fun k hk=>by
  subst hk;exact⟨.inl ((hC k).2 rfl),by rw[World.putObj_size];exact hbm.1,hbm.2.1⟩)
 rw[jv] at this;exact this
def Q4{z:Operand}(k:Int)(v:Y){zv:Value}{l':List (Int×Y)}(ht:P.underlying t=some (.map kt et))(hkt:P.underlying kt=some (.int kd))
  (hx:evK κ x=some (.map (some b))) (hq:κ q=some (.own (Ek b kd vc l))) (hy:evK κ y=some (.int kd k)) (hz:evK κ z=some zv) (hzv:vc v=zv) (hg:gK ops κ ⟨none,.mapUpdate t x y z,ty,pos,aft,g⟩=some true)
  (hl':Nf k v l=l'):
  Cx P F B n ops O κ ⟨none,.mapUpdate t x y z,ty,pos,aft,g⟩ q (.own (Ek b kd vc l')):=by
 rintro κ' a u hlk hqk ⟨H,fp,hh⟩;subst hl' hzv;unfold After;rw[na (xh hh hlk hg)];have e:=hh.env hlk;have h1:=e.is_ x _ (by simp [Op.operands]) hx;have h2:=e.is_ y _ (by simp [Op.operands]) hy;have h3:=e.is_ z _ (by simp [Op.operands]) hz;have hqs:=hqk.trans hq;obtain⟨⟨⟨es,ck,hb,he,hbn⟩,hC⟩,hM⟩:=hh.slot q _ hqs;obtain⟨es',ck',hr,he',hb'⟩:=ej ht hkt hb he hbn k v
 have hrun:(execOp a.eval ⟨none,.mapUpdate t x y z,ty,pos,aft,g⟩).run P u=.ok .skip (u.putObj b (.map es' ck')):=by
  simp only[execOp,h1,h2,h3,nu,hr,ny];rfl
 rw[hrun];simp only[Upon,Act.put];exact⟨H,_,hh.turnMap hqs he' hb'⟩
def zej(ht:P.underlying t=some (.map kt et))(hx:evK κ x=some (.map (some b)))(hq:κ q=some (.own (Ek b kd vc l)))(hn:Nat.blt d n=true)
  (hg:gK ops κ ⟨some d,.call ⟨.builtin .len,#[x],#[t]⟩,ty,pos,aft,g⟩=some true) (hm:l.length=m):
  StepOKR P F B n ops O κ ⟨some d,.call ⟨.builtin .len,#[x],#[t]⟩,ty,pos,aft,g⟩ q d (.is (.int .i64 m)):=by
 rintro κ' a u hlk hqk ⟨H,fp,hh⟩;subst hm;unfold After;rw[na (xh hh hlk hg)];have e:=hh.env hlk;have h1:=e.is_ x _ (by simp [Op.operands,Call.operands]) hx;obtain⟨⟨⟨es,ck,hb,he,_⟩,hC⟩,hM⟩:=hh.slot q _ (hqk.trans hq);have hsz:es.size=l.length:=by have:=nh List.length he;simpa using this
 have hrun:(execOp a.eval ⟨some d,.call ⟨.builtin .len,#[x],#[t]⟩,ty,pos,aft,g⟩).run P u=.ok (.value (.int .i64 l.length)) u:=by
  simp [execOp,resolve,h1,invoke,builtin,Builtin.len_,run_underlying ht,MapKept.run_getObj_map hb,goInt,hsz]
 rw[hrun];simp only[Upon];exact⟨H,fp,hh.put (k:=.is _) (zo hn) trivial Z⟩
def T4(ht:P.underlying t=some (.map kt et))(hx:evK κ x=some (.map (some b)))(hq:κ q=some (.own (Ek b kd vc l)))(hn:Nat.blt d n=true)
  (hg:gK ops κ ⟨some d,.range t x,ty,pos,aft,g⟩=some true):
  wv P F B n ops O κ ⟨some d,.range t x,ty,pos,aft,g⟩ q fw d (.own (zb2 b kd vc l l)):=by
 rintro κ' a u hlk hqk ⟨H,fp,hh⟩;have hn:d<n:=by simpa using hn
 unfold After;rw[na (xh hh hlk hg)];have e:=hh.env hlk;have h1:=e.is_ x _ (by simp [Op.operands]) hx;have hqs:=hqk.trans hq;obtain⟨⟨⟨es,ck,hb,he,hbn⟩,hC⟩,hM⟩:=hh.slot q _ hqs
 have hrun:(execOp a.eval ⟨some d,.range t x,ty,pos,aft,g⟩).run P u=.ok (.value (.pointer (some ⟨u.heap.size,0,none⟩))) (u.alloc (.mapIter (some b) ck #[] ck)):=by
  simp only[execOp,h1,nu,run_range_map u t kt et b es ck ht hb,ny];rfl
 rw[hrun];simp only[Upon];have hbm:=hM b ((hC b).2 rfl);have hg2:Grow (fp q) u H (u.alloc (.mapIter (some b) ck #[] ck)) H:=⟨(Grow.hid hh.sub (.mapIter (some b) ck #[] ck)).keep.weak (fun k _ h=>h.elim),(Grow.hid hh.sub _).sub,mt _,fun _ _ _=>rfl⟩
 have hlo:leftOf es #[]=es:=by unfold leftOf;simp
 have:=hh.usePut (d:=d) (a':=a.put (some d) (.pointer (some ⟨u.heap.size,0,none⟩))) (r':=zb2 b kd vc l l) (C:=fun k=>k=b\/k=u.heap.size) hqs hg2 (by simp [Act.put]) rfl (fun t ht=>xn ht)
  ⟨u.heap.size,es,ck,ck,#[],ck,xv (by rw[hh.size];exact hn),by omega,by rw[heap_alloc_old u _ hbm.1];exact hb,he,hbn,heap_alloc_new u _,hbn.lt,ns _,ns _,by rw[hlo];exact he,fun _=>Iff.rfl⟩
  (fun k hk=>by
   have hsz:(u.alloc (.mapIter (some b) ck #[] ck)).heap.size=u.heap.size+1:=by show(u.heap.push _).size=_;simp
   rcases hk with rfl | rfl
   ·exact⟨.inl ((hC _).2 rfl),by omega,hbm.2.1⟩
   ·exact⟨.inr (ns _),by omega,k9 hh.sub (ns _)⟩)
 exact⟨H,_,this⟩
def T5{w:Bool}(hw:w=false)(hq:κ q=some (.own (zb2 m kd vc l left)))(hl:left=[])(hn:Nat.blt d n=true)(hg:gK ops κ ⟨some d,.next (.tmp q) w,ty,pos,aft,g⟩=some true):
  StepOK P F B n ops O κ ⟨some d,.next (.tmp q) w,ty,pos,aft,g⟩ d (.is (.tuple #[.bool false])):=
 ke rfl (zo hn) hg trivial fun a u H fp e=>by
  subst hw hl;obtain⟨⟨i,es,ck,since,seen,last,h1,h2,h3,h4,h5,h6,h7,h8,h9,h10,hC⟩,hM⟩:=e.own_ q _ (by simp [Op.operands]) hq;have hz:(leftOf es seen).size=0:=by have:=nh List.length h10;simpa using this
  refine⟨_,?_,rfl⟩;rcases H8 (P:=P) (ty:=ty) h3 h6 h7 h8 with ⟨_,hr⟩ | ⟨j,e2,he2,_⟩
  ·simp only[execOp,h1,nu,hr,ny];rfl
  ·rw[zms I] at he2;cases he2
def Rl{es:Array MapEntry}{j:Nat}{seen:Array Nat}{e:MapEntry}(hb:Brn es.toList ck)(he:(leftOf es seen)[j]?=some e):(leftOf es (seen.push e.born)).toList=(leftOf es seen).toList.eraseIdx j:=by
 have e1:(leftOf es (seen.push e.born)).toList=(leftOf es seen).toList.filter fun x=>!(x.born == e.born):=by
  unfold leftOf;rw[zo7,zo7,List.filter_filter];apply List.filter_congr;intro x _;rw[contains_push];cases seen.contains x.born<;>cases (x.born == e.born)<;>rfl
 have hnd:((leftOf es seen).toList.map (·.born)).Nodup:=by
  unfold leftOf;rw[zo7];exact hb.nd.sublist (List.filter_sublist.map _)
 rw[<-zn2] at he;rw[e1];generalize (leftOf es seen).toList=L at hnd he;clear e1
 induction L generalizing j with
 | nil=>cases he
 | cons x L ih=>
  rw[mq,zm9] at hnd
  cases j with
  | zero=>
   cases he
   have h0:L.filter (fun x=>!(x.born == e.born))=L:=znl.2 fun y hy=>by
    have:y.born≠e.born:=fun h=>hnd.1 (h ▸ zm5 hy);simpa using this
   simp [h0]
  | succ j=>
   have he':L[j]?=some e:=by simpa using he
   have hne:x.born≠e.born:=fun h=>hnd.1 (h ▸ zm5 (zlg he'));have:(!(x.born == e.born))=true:=by simpa using hne
   rw[zm0 (by simpa using hne),ih hnd.2 he'];rfl
def zhj{es:List MapEntry}{j:Nat}{e:MapEntry}(h:MiE kd vc left es)(he:es[j]?=some e):∃ p,left[j]?=some p/\e.key=.int kd p.1/\e.val=vc p.2:=by
 have h2:=nh (·[j]?) h;simp only[zlx,he,znc] at h2
 cases hp:left[j]? with
 | none=>rw[hp] at h2;cases h2
 | some p=>
  rw[hp] at h2;simp at h2;exact⟨p,rfl,h2.1,h2.2⟩
def Has.endM{t:Nat}(hne:t≠q)(hk:κ t=some (.own (zb2 m kd vc l left)))(h:Has F B O n κ a u):Has F B O n (upd (upd κ t fw) q (.own (Ek m kd vc l))) a u:=by
 obtain⟨H,fp,hh⟩:=h;obtain⟨⟨i,es,ck,since,seen,last,h1,h2,h3,h4,h5,h6,h7,h8,h9,h10,hC⟩,hM⟩:=hh.slot t _ hk
 have:=hh.usePut (d:=q) (a':=a) (r':=Ek m kd vc l) (C:=fun k=>k=m) hk ⟨Keep.refl _ _,hh.sub,mt _,fun _ _ _=>rfl⟩ rfl rfl (fun _ _=>rfl) ⟨⟨es,ck,h3,h4,h5⟩,fun _=>Iff.rfl⟩
  (fun k hk'=>by subst hk';have:=(hC k).2 (.inl rfl);exact⟨.inl this,(hM k this).1,(hM k this).2.1⟩)
 exact⟨H,_,this⟩
def zii(t q:Nat){c:Code}(hk:κ t=some (.own (zb2 m kd vc l left)))(h:V P F B n O (upd (upd κ t fw) q (.own (Ek m kd vc l))) c Q)(hne:t≠q:=by decide):V P F B n O κ c Q:=fun a u hh=>h a u (hh.endM hne hk)
end
end Go.V
namespace Go.V
def zi0{V:Type}(m:Nat)(kd:IntKind)(vc:V->Value)(l left:List (Int×V))(p:Int×V):Res where
 P x _ u C:=∃ (i:Nat) (es:Array MapEntry) (ck since:Nat) (seen:Array Nat) (e:MapEntry),x=.pointer (some ⟨i,0,none⟩)/\i≠m/\u.heap[m]?=some (.map es ck)/\MiE kd vc l es.toList/\Brn es.toList ck/\u.heap[i]?=some (.mapIter (some m) since (seen.push e.born) ck)/\
  (∀ e∈es.toList,e.born<since)/\since<=ck/\MiE kd vc left (leftOf es (seen.push e.born)).toList/\e∈es.toList/\e.key=.int kd p.1/\e.val=vc p.2/\∀ k,C k↔k=m\/k=i
 st:=fun⟨i,es,ck,since,seen,e,h1,h2,h3,h4,h5,h6,h7,h8,h9,h10,h11,h12,hC⟩ _ _ _ hk=>⟨i,es,ck,since,seen,e,h1,h2,(hk m ((hC m).2 (.inl rfl))).trans h3,h4,h5,(hk i ((hC i).2 (.inr rfl))).trans h6,h7,h8,h9,h10,h11,h12,hC⟩
def zgw{V:Type}{vc:V->Value}{l left:List (Int×V)}{p:Int×V}:∀ v H u C,B.Le H->(zi0 m kd vc l left p).P v H u C->(zb2 m kd vc l left).P v H u C:=
 fun _ _ _ _ _ ⟨i,es,ck,since,seen,e,h1,h2,h3,h4,h5,h6,h7,h8,h9,_,_,_,hC⟩=>⟨i,es,ck,since,seen.push e.born,ck,h1,h2,h3,h4,h5,h6,h7,h8,h8,h9,hC⟩
def zaz{es:Array MapEntry}{seen:Array Nat}{j:Nat}{e:MapEntry}(h:(leftOf es seen)[j]?=some e):e∈es.toList:=by
 have h1:e∈leftOf es seen:=Array.mem_of_getElem? h;unfold leftOf at h1;rw[Array.mem_filter] at h1;exact Array.mem_toList_iff.2 h1.1
def Vt{es:List MapEntry}(hn:(es.map (·.born)).Nodup){e:MapEntry}(he:e∈es):es.find? (fun x=>x.born == e.born)=some e:=by
 induction es with
 | nil=>cases he
 | cons x es ih=>
  rw[mq,zm9] at hn;rw[List.find?_cons];rcases nw.1 he with h | h
  ·subst h;simp
  ·have hne:x.born≠e.born:=fun h2=>hn.1 (h2 ▸ zm5 (f:=(·.born)) h);have:(x.born == e.born)=false:=by simpa using hne
   rw[this];exact ih hn.2 h
section
variable {Y:Type}  {vc:Y->Value} {l left:List (Int×Y)}
def Yc{o:Oper}(ho:o=⟨some d,.next (.tmp q) false,ty,pos,aft,g⟩)(hq:κ q=some (.own (zb2 m kd vc l left)))(hl:left≠[])(hn:Nat.blt d n=true)(hdq:Nat.beq q d=false)(hg:gK ops κ o=some true)
  (h:∀ (j:Nat) (p:Int×Y),left[j]?=some p->VO P F B n O ops (upd (upd κ q (.own (zi0 m kd vc l (left.eraseIdx j) p))) d (.is (.tuple #[.bool true,.int kd p.1,vc p.2]))) os Q):VO P F B n O ops κ (o::os) Q:=fun a u hh=>by
 subst ho;obtain⟨H,fp,hh⟩:=hh;obtain⟨⟨i,es,ck,since,seen,last,h1,h2,h3,h4,h5,h6,h7,h8,h9,h10,hC⟩,hM⟩:=hh.slot q _ hq;show After P ops _ _ a u;unfold After;rw[na (xh hh (fun _ _=>rfl) hg)];rcases H8 (P:=P) (ty:=ty) h3 h6 h7 h8 with ⟨hz,_⟩ | ⟨j,e,he,u1,hu1,hr⟩
 ·exfalso;have:=nh List.length h10;simp [hz] at this;exact hl (m6 this.symm)
 ·have hrun:(execOp a.eval ⟨some d,.next (.tmp q) false,ty,pos,aft,g⟩).run P u=.ok (.value (.tuple #[.bool true,e.key,e.val])) (u1.putObj i (.mapIter (some m) since (seen.push e.born) ck)):=by
   simp only[execOp,h1,nu,hr,ny];rfl
  rw[hrun];simp only[Upon];obtain⟨p,hp,hk1,hv1⟩:=zhj h10 (by rw[zn2];exact he);rw[hk1,hv1];have him:=hM i ((hC i).2 (.inr rfl));have hsub:H.Le (Go.V.hp u1):=by rcases hu1 with rfl | rfl<;>exact hh.sub
  have hgr:Grow (fp q) u H (u1.putObj i (.mapIter (some m) since (seen.push e.born) ck)) H:=by
   have g1:=Ch (u:=u1) (L:=fp q) (o:=.mapIter (some m) since (seen.push e.born) ck) hsub ((hC i).2 (.inr rfl)) him.2.1;rcases hu1 with rfl | rfl
   ·exact g1
   ·exact⟨⟨g1.keep.os,g1.keep.tape,g1.keep.output,g1.keep.size,g1.keep.block,zld (zmn _) g1.keep.dr⟩,g1.sub,g1.le,g1.fresh⟩
  have hmm:u1.heap[m]?=some (.map es ck):=by rcases hu1 with rfl | rfl<;>exact h3
  have hsz:i<u1.heap.size:=by rcases hu1 with rfl | rfl<;>exact him.1
  have h5':=hh.usePut (d:=q) (a':=a) (r':=zi0 m kd vc l (left.eraseIdx j) p) (C:=fun k=>k=m\/k=i) hq hgr rfl rfl (fun _ _=>rfl)
   ⟨i,es,ck,since,seen,e,h1,h2,by rw[zof (Ne.symm h2)];exact hmm,h4,h5,zoy hsz,h7,h9,by rw[Rl h5 he];exact Uw h10 j,zaz he,hk1,hv1,fun _=>Iff.rfl⟩
   (fun k hk=>by
    have hkC:fp q k:=(hC k).2 hk;refine⟨.inl hkC,?_,(hM k hkC).2.1⟩;rw[World.putObj_size];rcases hu1 with rfl | rfl<;>exact(hM k hkC).1)
  rw[jv] at h5';exact h j p hp _ _ ⟨H,_,h5'.put (k:=.is _) (zo hn) trivial Z⟩
def Ua{p:Int×Y}(hq:κ q=some (.own (zi0 m kd vc l left p)))(hn:Nat.blt d n=true)(hg:gK ops κ ⟨some d,.entry (.tmp q),ty,pos,aft,g⟩=some true):
  StepOK P F B n ops O κ ⟨some d,.entry (.tmp q),ty,pos,aft,g⟩ d (.is (.tuple #[.int kd p.1,vc p.2])):=
 ke rfl (zo hn) hg trivial fun a u H fp e=>by
  obtain⟨⟨i,es,ck,since,seen,x,h1,h2,h3,h4,h5,h6,h7,h8,h9,h10,h11,h12,hC⟩,hM⟩:=e.own_ q _ (by simp [Op.operands]) hq;refine⟨_,?_,rfl⟩;have hf:=Vt h5.nd h10;have hf2:es.find? (fun y=>y.born == x.born)=some x:=by rw[<-Array.find?_toList];exact hf
  simp only[execOp,h1,Instr.entry,getObj,nu,Sem.run,h6,Result.andThen,Array.back?_push,h3,bne_self_eq_false,zmp,if_false,hf2,h11,h12];rfl
def Ds{z:Operand}(k:Int)(v:Y){zv:Value}{l':List (Int×Y)}(ht:P.underlying t=some (.map kt et))(hkt:P.underlying kt=some (.int kd))
  (hx:evK κ x=some (.map (some b))) (hq:κ q=some (.own (Ek b kd vc l))) (hy:evK κ y=some (.int kd k)) (hz:evK κ z=some zv) (hzv:vc v=zv) (hg:gK ops κ ⟨none,.insert t x y z,ty,pos,aft,g⟩=some true)
  (hl':Nf k v l=l'):
  Cx P F B n ops O κ ⟨none,.insert t x y z,ty,pos,aft,g⟩ q (.own (Ek b kd vc l')):=by
 rintro κ' a u hlk hqk ⟨H,fp,hh⟩;subst hl' hzv;unfold After;rw[na (xh hh hlk hg)];have e:=hh.env hlk;have h1:=e.is_ x _ (by simp [Op.operands]) hx;have h2:=e.is_ y _ (by simp [Op.operands]) hy;have h3:=e.is_ z _ (by simp [Op.operands]) hz;have hqs:=hqk.trans hq;obtain⟨⟨⟨es,ck,hb,he,hbn⟩,hC⟩,hM⟩:=hh.slot q _ hqs;obtain⟨es',ck',hr,he',hb'⟩:=ej ht hkt hb he hbn k v
 have hrun:(execOp a.eval ⟨none,.insert t x y z,ty,pos,aft,g⟩).run P u=.ok .skip (u.putObj b (.map es' ck')):=by
  simp only[execOp,h1,h2,h3,nu,hr,ny];rfl
 rw[hrun];simp only[Upon,Act.put];exact⟨H,_,hh.turnMap hqs he' hb'⟩
end
end Go.V
namespace Go.V
def Da{X:Type}(vf:X->Value)(g:X->GR):Res where
 P v H u C:=∃ x,v=vf x/\(g x).P H u C
 st:=fun⟨x,h1,h2⟩ a b c d=>⟨x,h1,(g x).st h2 a b c d⟩
abbrev zj4{X:Type}(vf:X->Value)(g:X->GR)(ty:TypeId):Res:=Da (fun p:Nat×X=>.pointer (some ⟨p.1,0,none⟩)) fun p=>uw (xa p.1 (jb (vf p.2)) ty) (g p.2)
abbrev zim{V:Type}(kd:IntKind)(vc:V->Value)(l:List (Int×V)):Res:=Da (fun m:Nat=>.map (some m)) fun m=>zi3 m kd vc l
def MapVis{V:Type}(b:Nat)(kd:IntKind)(vc:V->Value)(l:List (Int×V))(H:Heap):Prop:=∃ es ck,H b=some (.map es ck)/\MiE kd vc l es.toList
def MapVis.le{V:Type}{vc:V->Value}{l:List (Int×V)}{H':Heap}(h:MapVis b kd vc l H)(hle:H.Le H'):MapVis b kd vc l H':=let ⟨es,ck,h1,h2⟩:=h;⟨es,ck,hle _ _ h1,h2⟩
section
def Ka(e:Env F B O κ ⟨some d,.build t parts,ty,pos,aft,g⟩ a u H fp)
  (hp:PL P t places z) (hv:evP κ parts.toList=some vs) (hc:o5 places z vs=some cs):(execOp a.eval ⟨some d,.build t parts,ty,pos,aft,g⟩).run P u=.ok (.value (.agg cs.toArray)) u:=by
 have hm:=Gm e parts.toList vs (fun p hp'=>by simp [Op.operands];exact⟨p.1,by simpa using hp'⟩) hv;obtain⟨zv,hz1,hz2⟩:=hp.zr
 have hbt:P.built t vs=some cs.toArray:=by
  have hpl:=hp.pl;unfold plI at hpl;unfold zrI at hz1;split at hz1
  ·rename_i it hit;unfold Program.built;split at hpl
   ·rename_i fs hu;simp only[hit,hu,hz1,hpl];rw[wi,hz2];exact um (fun i p h=>by simpa using h) vs z cs hc
   ·rename_i m el hu;split at hpl
    ·rename_i ie hie;simp only[hit,hu,hz1,hie];cases hpl;rw[wi,hz2]
     exact um (fun i p h=>by
      rw[zlx] at h
      cases hr:(List.range m)[i]? with
      | none=>rw[hr] at h;cases h
      | some j=>
       rw[hr] at h
       have:j=i:=by
        have:=zmf.1 hr;obtain⟨h1,h2⟩:=this;simpa using h2.symm
       subst this;simpa using h) vs z cs hc
    ·cases hpl
   ·cases hpl
  ·cases hz1
 have hr:=run_build (P:=P) u t vs.toArray cs.toArray (by simpa using hbt)
 have harr:(parts.map fun(p:Nat×Operand)=>(p.1,a.eval p.2))=vs.toArray:=by
  rw[<-hm,<-zlp,zm4]
 simp only[execOp,nu];show Result.andThen ((Instr.build t (parts.map fun(p:Nat×Operand)=>(p.1,a.eval p.2))).run P u) _=_;rw[harr,hr];rfl
def Q9{X:Type}{vf:X->Value}{gg:X->GR}(vs:X->List (Nat×Value))(cs:X->List Value)(hq:κ q=some (.own (Da vf gg)))(hn:Nat.blt d n=true)(hg:gK ops κ ⟨some d,.build t parts,ty,pos,aft,g⟩=some true)
  (hne:Nat.beq q d=false) (hp:PL P t places z) (hv:∀ x,evP (upd κ q (.is (vf x))) parts.toList=some (vs x)) (hc:∀ x,o5 places z (vs x)=some (cs x)):wv P F B n ops O κ ⟨some d,.build t parts,ty,pos,aft,g⟩ q fw d (.own (Da (fun x=>.agg (cs x).toArray) gg)):=by
 rintro κ' a u hlk hks ⟨H,fp,hh⟩;unfold After;rw[na (xh hh hlk hg)];have hk':κ' q=some (.own (Da vf gg)):=hks.trans hq;obtain⟨⟨x,hx,hown⟩,hM⟩:=hh.slot q _ hk'
 have e:=(hh.name q).env (κ:=upd κ q (.is (vf x))) (ops:=ops) (o:=⟨some d,.build t parts,ty,pos,aft,g⟩) fun s hs=>by
  by_cases h:s=q
  ·subst h;rw[xj,xj,hx]
  ·rw[xe _ _ h,xe _ _ h];exact hlk s hs
 rw[Ka e hp (hv x) (hc x)];simp only[Upon];exact⟨H,_,hh.usePut (C:=fp q) hk' ⟨Keep.refl _ _,hh.sub,mt _,fun _ _ _=>rfl⟩ (by simp [Act.put]) Z (fun t ht=>xn ht) (by rw[xv (by rw[hh.size];exact zo hn)];exact⟨x,rfl,hown⟩) fun k hk=>⟨.inl hk,(hM k hk).1,(hM k hk).2.1⟩⟩
def zaj{X:Type}{vf:X->Value}{gg:X->GR}(hq:κ q=some (.own (Da vf gg)))(hn:Nat.blt d n=true)(hg:gK ops κ ⟨some d,.box t (.tmp q),ty,pos,aft,g⟩=some true)
  (hne:Nat.beq q d=false):wv P F B n ops O κ ⟨some d,.box t (.tmp q),ty,pos,aft,g⟩ q fw d (.own (zj4 vf gg t)):=by
 rintro κ' a u hlk hks ⟨H,fp,hh⟩;unfold After;rw[na (xh hh hlk hg)];have hk':κ' q=some (.own (Da vf gg)):=hks.trans hq;obtain⟨⟨x,hx,hown⟩,hM⟩:=hh.slot q _ hk'
 have hrun:(execOp a.eval ⟨some d,.box t (.tmp q),ty,pos,aft,g⟩).run P u=.ok (.value (.pointer (some ⟨u.heap.size,0,none⟩))) (u.alloc (.cells (jb (vf x)).toArray t)):=by
  simp [execOp,hx,Instr.box,newVar,newRow,wi]
 rw[hrun];simp only[Upon]
 have hgr:Grow (fp q) u H (u.alloc (.cells (jb (vf x)).toArray t)) H:=by
  have h1:=Grow.hid hh.sub (.cells (jb (vf x)).toArray t);exact⟨⟨h1.keep.os,h1.keep.tape,h1.keep.output,h1.keep.size,fun k hk _=>h1.keep.block k hk (fun h=>h),h1.keep.dr⟩,h1.sub,h1.le,fun k hk _=>h1.fresh k hk (fun h=>h)⟩
 have hsz:u.heap.size<(u.alloc (.cells (jb (vf x)).toArray t)).heap.size:=xc (xm u _);refine⟨H,_,hh.usePut (C:=fun k=>k=u.heap.size\/fp q k) hk' hgr (by simp [Act.put]) Z (fun t ht=>xn ht) ?_ fun k hk=>?_⟩
 ·rw[xv (by rw[hh.size];exact zo hn)];refine⟨(u.heap.size,x),rfl,fun k=>k=u.heap.size,fp q,⟨xm _ _,fun _=>Iff.rfl⟩,(gg x).st hown (mt _) hgr.sub ⟨hgr.keep.os,hgr.keep.tape,hgr.keep.output,hgr.keep.size,hgr.keep.dr⟩ (fun k hk=>?_),fun k=>Iff.rfl,fun k h1 h2=>?_⟩
  ·exact jx u _ (hM k hk).1
  ·have:=(hM k h2).1;omega
 ·rcases hk with rfl | hk
  ·exact⟨.inr (ns _),by omega,k9 hh.sub (ns _)⟩
  ·exact⟨.inl hk,by have:=(hM k hk).1;omega,(hM k hk).2.1⟩
def Has.holdRf{X:Type}{t:Nat}{vf:X->Value}{gg:X->GR}(hk:κ t=some (.own (Da vf gg)))(h:Has F B O n κ a u):∃ x,Has F B O n (upd (upd (upd κ t fw) q (.own (gg x).res)) t (.is (vf x))) a u:=by
 obtain⟨H,fp,h⟩:=h;obtain⟨⟨x,hv,hx⟩,hM⟩:=h.slot t _ hk;have h2:=h.usePut (d:=q) (a':=a) (r':=(gg x).res) (C:=fp t) hk ⟨Keep.refl _ _,h.sub,mt _,fun _ _ _=>rfl⟩ rfl rfl (fun _ _=>rfl) hx fun k hk=>⟨.inl hk,(hM k hk).1,(hM k hk).2.1⟩
 have h3:=h2.name t;rw[hv] at h3;exact⟨x,H,_,h3⟩
def P1(t q:Nat){X:Type}{vf:X->Value}{gg:X->GR}{c:Code}(hk:κ t=some (.own (Da vf gg)))(h:∀ x,V P F B n O (upd (upd (upd κ t fw) q (.own (gg x).res)) t (.is (vf x))) c Q):V P F B n O κ c Q:=fun a u hh=>let ⟨x,h'⟩:=hh.holdRf (q:=q) hk;h x a u h'
def im(t q:Nat){X:Type}{vf:X->Value}{gg:X->GR}(hk:κ t=some (.own (Da vf gg)))(h:∀ x,VO P F B n O ops (upd (upd (upd κ t fw) q (.own (gg x).res)) t (.is (vf x))) os Q):VO P F B n O ops κ os Q:=fun a u hh=>let ⟨x,h'⟩:=hh.holdRf (q:=q) hk;h x a u h'
def Has.packRf{X:Type}{t:Nat}{vf:X->Value}{gg:X->GR}(x:X)(hk:κ q=some (.own (gg x).res))(ht:κ t=some (.is (vf x)))(h:Has F B O n κ a u):Has F B O n (upd (upd κ q fw) t (.own (Da vf gg))) a u:=by
 obtain⟨H,fp,h⟩:=h;obtain⟨hx,hM⟩:=h.slot q _ hk;have hv:a.eval (.tmp t)=vf x:=h.slot t _ ht;exact⟨H,_,h.usePut (d:=t) (a':=a) (r':=Da vf gg) (C:=fp q) hk ⟨Keep.refl _ _,h.sub,mt _,fun _ _ _=>rfl⟩ Z Z (fun _ _=>rfl) ⟨x,hv,hx⟩ fun k hk=>⟨.inl hk,(hM k hk).1,(hM k hk).2.1⟩⟩
def zbz(t q:Nat){X:Type}(vf:X->Value)(gg:X->GR){c:Code}(x:X)(hk:κ q=some (.own (gg x).res))(ht:κ t=some (.is (vf x)))(h:V P F B n O (upd (upd κ q fw) t (.own (Da vf gg))) c Q):V P F B n O κ c Q:=fun a u hh=>h a u (hh.packRf x hk ht)
def Nu(L:Tabs P){fn:Func}{B0:Heap}(gs:Nat){r0:GR}{r:Res}{rs:List ResultVar}(hrs:fn.results=rs.toArray)
  (hQ:∀ a u,bodyPostM Fence.wide 0 P fn (pj F.w0 B0 F.L (zf1 F.w0 r)) .ret a u->Q .ret a u) (hs:Since F B0 B) (hk:κ gs=some (.own r0.res))
  (h:∀ H,Cy L F B O κ H rs [] (fun vs=>tup vs=v)) (hr:∀ H u C,B.Le H->zpk H u->r0.P H u C->r.P v H u C) (hL:F.L=noL:=by rfl) (hd:F.ds=[]:=by rfl):V P F B n O κ .ret Q:=fun a u hh=>by
 obtain⟨H,fp,hH⟩:=hh;refine wpIn_ret (hQ a u ?_);have h0:=hH.defers;rw[hd] at h0;show LeavesInM _ _ _ _ _ _ a.defers _ _;rw[h0];obtain⟨vs,h1,h2⟩:=j8 L hH hrs (h H);obtain⟨hown,hM⟩:=hH.slot gs _ hk;refine⟨_,h1,_,rfl,H,⟨hH.keep,hH.sub,hs.le.trans hH.base,fun k hk hl=>(hH.fresh k hk hl).trans (hs.fresh k hk hl)⟩,fp gs,?_,fun k hk=>?_⟩
 ·rw[h2];exact hr H u (fp gs) hH.base hH.sub hown
 ·obtain⟨g1,g2,g3,_⟩:=hM k hk;refine⟨?_,g1,g2⟩;rcases g3 with g3 | g3
  ·exact g3
  ·have g3':F.L k:=g3;rw[hL] at g3';exact g3'.elim
def StepOK.turn{o:Oper}{r r':Res}(h:StepOK P F B n ops O κ o d (.own r))(hr:∀ v H u C,B.Le H->r.P v H u C->r'.P v H u C):StepOK P F B n ops O κ o d (.own r'):=
 fun κ' a u hl hh=>After.mono (fun a' u' h2=>by have:=h2.turnO (t:=d) (r':=r') (xj ..) hr;rwa [jv] at this) (h κ' a u hl hh)
def zav{V:Type}{vc:V->Value}{l:List (Int×V)}:∀ v H u C,B.Le H->(R9 kd vc l).P v H u C->(zim kd vc l).P v H u C:=fun _ _ _ _ _ ⟨b,h1,h2,h3⟩=>⟨b,h1,h2,h3⟩
variable {Y:Type}  {vc:Y->Value} {l:List (Int×Y)}
def M6(kd:IntKind)(vc:Y->Value){k:IntKind}{c:Int}(hn:Nat.blt d n=true)(ht:P.underlying t=some (.map kt et))(hx:evK κ x=some (.int k c))(hg:gK ops κ ⟨some d,.makeMap t (some x),ty,pos,aft,g⟩=some true):
  StepOK P F B n ops O κ ⟨some d,.makeMap t (some x),ty,pos,aft,g⟩ d (.own (zim kd vc [])):=by
 refine StepOK.turn (r:=R9 kd vc []) ?_ zav;rintro κ' a u hl ⟨H,fp,hh⟩;have hn:d<n:=by simpa using hn
 unfold After;rw[na (xh hh hl hg)];have e:=hh.env hl;have h1:=e.is_ x _ (by simp [Op.operands]) hx
 have hrun:(execOp a.eval ⟨some d,.makeMap t (some x),ty,pos,aft,g⟩).run P u=.ok (.value (.map (some u.heap.size))) (u.alloc (.map #[] 0)):=by
  simp [execOp,Instr.makeMap,h1,asInt,asIntOf,run_underlying ht,nu]
 rw[hrun];simp only[Upon];have hg2:=hh.grow (Grow.hid hh.sub (.map #[] 0));refine⟨H,_,hg2.putR (C:=fun k=>k=u.heap.size) (by simp [Act.put]) Z (fun t ht=>xn ht) ⟨u.heap.size,xv (by rw[hh.size];exact hn),⟨_,_,xm _ _,rfl,Xk⟩,fun _=>Iff.rfl⟩ (fun k hk=>?_) fun t r' _ ht k hf hk=>?_⟩
 ·subst hk;exact⟨xc (xm u _),k9 hh.sub (ns _),.inl hh.keep.size,fun y hy e=>by have:=xc (hh.boxes y hy).1;omega⟩
 ·have:=((hh.slot t _ ht).2 k hf).1;omega
def Bs(k:Int){r z:Value}(ht:P.underlying t=some (.map kt et))(hkt:P.underlying kt=some (.int kd))(hz:∀ w,(zeroValue et).run P w=.ok z w)
  (hv:MapVis b kd vc l B) (hx:evK κ x=some (.map (some b))) (hy:evK κ y=some (.int kd k)) (hn:Nat.blt d n=true) (hg:gK ops κ ⟨some d,.lookup t x y false,ty,pos,aft,g⟩=some true)
  (hr:(ul k l).elim z vc=r):
  StepOK P F B n ops O κ ⟨some d,.lookup t x y false,ty,pos,aft,g⟩ d (.is r):=
 ke rfl (zo hn) hg trivial fun a u H fp e=>by
  have h1:=e.is_ x _ (by simp [Op.operands]) hx;have h2:=e.is_ y _ (by simp [Op.operands]) hy;obtain⟨es,ck,hb,he⟩:=hv;refine⟨(ul k l).elim z vc,?_,hr⟩;simp only[execOp,h1,h2,nu,Mr ht hkt (e.sub _ _ (e.base _ _ hb)) he k (hz u),ny];rfl
end
end Go.V
namespace Go.V.L11
open Go.V.L2 Go.V.L4
def _root_.Za8(t:Wr Y->A:=by intro h;refine z8 (M7 Z Z Z Z) Z ?_;exact h.1)(h:Y):A:=t ⟨h⟩
def _root_.Zdn(t:Wr Y->A:=by intro h;refine z8 (zek Z Z Z Z) Z ?_;exact h.1)(h:Y):A:=t ⟨h⟩
def _root_.Zba(t:Wr Y->A:=by exact fun h=>(ZL∘Zdn) h.1)(h:Y):A:=t ⟨h⟩
def _root_.Zbu(t:Wr Y->A:=by exact fun h=>(ZaT∘Zf) h.1)(h:Y):A:=t ⟨h⟩
def fh:Nat->wo->wo
 | _,[]=>[]
 | n,x::xs=>(Value.int .i64 (n:Int)::x)::fh (n+1) xs
def Aj:∀ {a b:wo} {n:Nat},fh n (a++b)=fh n a++fh (n+a.length) b
 | [],b,n=>rfl
 | x::a,b,n=>by
  show _::fh (n+1) (a++b)=_;rw[Aj,nz,show n+1+a.length=n+(a.length+1) by omega];rfl
def By(a:wo)(x:List Value):fh 1 (a++[x])=fh 1 a++[Value.int .i64 ((a.length+1:Nat):Int)::x]:=by
 rw[Aj,zmx 1];rfl
def A0(stop:wo->Bool):∀ (xs pre:wo),fh 1 (jh (fun p=>stop (fh 1 p)) pre xs)=jh stop (fh 1 pre) (fh (1+pre.length) xs)
 | [],pre=>rfl
 | x::xs,pre=>by
  have e:fh 1 (pre++[x])=fh 1 pre++[Value.int .i64 ((1+pre.length:Nat):Int)::x]:=by rw[Aj];rfl
  show fh 1 (if stop (fh 1 (pre++[x]))=true then _ else _)=(if stop (fh 1 pre++[Value.int .i64 ((1+pre.length:Nat):Int)::x])=true then _ else _);rw[<-e];split
  ·rfl
  ·rw[A0 stop xs (pre++[x]),nr];rfl
def Vw{l:List ByteArray}{x:List Value}(h:pre++[x]<+:vi l):∃ y,x=[Value.string y]:=by
 have:x∈vi l:=h.subset (by simp);obtain⟨y,_,e⟩:=zlb.1 this;exact⟨y,e.symm⟩
def F3:∀ {l acc:List UInt8},(Sb acc l).length<=l.length+(if acc=[] then 0 else 1)
 | [],acc=>by
  show(if acc=[] then ([]:List (List UInt8)) else [acc]).length<=_;split<;>simp
 | c::l,acc=>by
  show(if c=10 then (acc++[c])::Sb [] l else Sb (acc++[c]) l).length<=_;split
  ·have:=F3 (l:=l) (acc:=[]);rw[na rfl] at this;simp only[nz];split<;>omega
  ·have:=F3 (l:=l) (acc:=acc++[c]);rw[nc (by simp)] at this;simp only[nz];split<;>omega
def oh(s:ByteArray):(pu s).length<=s.size:=by
 unfold pu;rw[mn];have:=F3 (l:=s.data.toList) (acc:=[]);rw[na rfl,jl] at this;exact this
def cnS(stop:wo->Bool)(pre:wo):Int:=if stop (fh 1 pre)=true then (pre.length:Int) else ((pre.length+1:Nat):Int)
def V8{stop:wo->Bool}(h:stop (fh 1 pre)=false):cnS stop pre=((pre.length+1:Nat):Int):=nc (by rw[h];decide)
def zbb{stop:wo->Bool}(h:stop (fh 1 pre)=true):cnS stop pre=(pre.length:Int):=na h
attribute [local irreducible] V N X VO Par StepOK Has Ret RetL RetO RetT kr RetX RetY Src
def Qq(hB:zpk B w):
  RetO zpl 199 [.string s] w B (Da (fun b:Nat=>.func (.func 257) #[] #[xy b]) fun b=>xa b [.string s] Hi):=by
 refine vz Tryz.func199 Z Tryz.ntmps199 (np Z) hB ((Zba∘Zc) ?_);refine kq 1 900 rfl fun b=>?_;refine(Z4∘Za8∘Zd) ?_;exact Nu L 900 (r0:=xa b [.string s] Hi) (v:=.func (.func 257) #[] #[xy b]) (rs:=[.tmp 2]) Z (fun _ _ h=>h) nq Z (fun _=>rfl) (fun H u C hle _ hr=>⟨b,rfl,hr⟩)
def Cb(hs:s.size<=1099511627776){sb:Nat}(hB:zpk B w)(hb:B sb=some (.cells #[.string s] Hi)):zi2 zpl 198 [xy sb] w B (fh 1 (vi (pu s))):=by
 intro ly zpg stop C hst hY hJ hC;refine yr 77 (zpg []) Tryz.func198 Z Tryz.ntmps198 (np Z) hB hJ hC ((Zba∘Zf) ?_);refine kq 2 81 rfl fun yb=>?_;refine wd 81 rfl fun H1 hs1 _ hyb=>?_;refine(Z4∘Zbu) ?_;refine kq 3 79 rfl fun nb=>?_;have hb1:=hs1.le _ _ hb;refine ZM (h:=?_);refine z8 (qf L (qk Z hb1) Z Z Z Z) Z (z8 (u5 L Z Z (zo Z) Z Z Z (fun u H hH _ _=>Qq hH)) Z (ZcD (h:=?_)));refine P1 6 80 rfl fun b=>?_
 refine Lv L 80 (gr:=xa b [.string s] Hi) (gf:=257) (caps:=[xy b]) [(2,xy yb),(3,xy nb)]
  (fun pre=>[(77,(zpg (fh 1 pre)).res),(79,xk nb [.int .i64 (cnS stop pre)] 3)])
  (fun pre x=>[(77,.own (zpg (fh 1 pre)).res),(79,.own (xk nb [.int .i64 ((pre.length+1:Nat):Int)] 3)),(2,.is (xy yb)),(3,.is (xy nb)),(4,.is (x.headD undef))])
  (vi (pu s)) (fun p=>stop (fh 1 p)) (fun _=>.ret) rfl rfl rfl rfl
  (fun pre p hp=>by simp only[nw,mz,zmj,or_false] at hp;rcases hp with rfl | rfl<;>exact Nat.ne_of_beq_eq_false rfl) ⟨rfl,by rw[V8 hst];rfl,rfl,rfl,nm⟩
  (fun pre p hp=>by simp only[nw,mz,zmj,or_false] at hp;rcases hp with rfl | rfl<;>exact np rfl) hst (fun x hx=>by obtain⟨y,_,rfl⟩:=zlb.1 hx;rfl) J
  (fun u H hH hle=>Y6 hs hH) ?asg ?bd ?dn ?st
 case asg=>
  intro w1 Ln B' l' D' o pre x' hpre hstp hBB;obtain⟨y,rfl⟩:=Vw hpre;refine(ZR∘ZaU) ?_;exact R7 nq ⟨Z,by rw[<-V8 hstp];rfl,Z,Z,Z,nm⟩
 case bd=>
  intro w1 Ln B' l' D' o pre x' hpre hstp hBB;have hlen:=hpre.length_le;obtain⟨y,rfl⟩:=Vw hpre;have hll:=oh s;simp only[nr,mn,nz,my] at hlen;have hyb2:=hBB _ _ hyb
  have hpre':fh 1 pre++[[Value.int .i64 ((pre.length+1:Nat):Int),Value.string y]]<+:fh 1 (vi (pu s)):=by
   obtain⟨t,ht⟩:=hpre;rw[<-ht,Aj,By];exact List.prefix_append _ _
  have hwk:IntKind.i64.wrap (((pre.length+1:Nat):Int)+1)=((pre.length+1+1:Nat):Int):=yz I I;have e3:fh 1 (pre++[[Value.string y]])=fh 1 pre++[[Value.int .i64 ((pre.length+1:Nat):Int),Value.string y]]:=By _ _;have hpl:(pre++[[Value.string y]]).length=pre.length+1:=by simp
  cases hb':stop (fh 1 pre++[[Value.int .i64 ((pre.length+1:Nat):Int),Value.string y]])
  ·refine(ZF∘Zbx) ?_;refine z8 (qf L (qk Z hyb2) Z Z Z Z) Z (qz (qb L (q:=79) Z Z Z Z) (Za (h:=?_)));refine q0 (ug (gs:=77) hY hpre' hstp (nh Bool.not hb') Z Z Z Z Z) ((Zt∘ZZ∘Zbq∘ZY) ?_);refine qz (qb L (q:=79) Z Z Z Z) (Zv (h:=?_));refine xf (yc L (q:=79) (cs':=[.int .i64 ((pre.length+1+1:Nat):Int)]) Z Z Z Z Z) ((ZS∘Zay) ?_);exact R8 nq (by rw[e3];exact hb') ⟨by rw[e3];rfl,by rw[V8 (by rw[e3];exact hb'),hpl];rfl,nm⟩
  ·refine(ZF∘Zbx) ?_;refine z8 (qf L (qk Z hyb2) Z Z Z Z) Z (qz (qb L (q:=79) Z Z Z Z) (Za (h:=?_)));refine q0 (ug (gs:=77) hY hpre' hstp (nh Bool.not hb') Z Z Z Z Z) ((Zt∘ZE) ?_);exact o8 (Cz (bi (G5 nq (by rw[e3];exact hb') Z ⟨by rw[e3];rfl,by rw[zbb (by rw[e3];exact hb'),hpl];rfl,nm⟩)))
 case st=>
  intro l' D' o hstop;exact jf L 77 rfl (fun _ _ h=>h) hs1 Z (by rw[A0];rfl)
 case dn=>
  intro l' D' o hgo;exact xp L 77 rfl (fun _ _ h=>h) hs1 Z (by rw[A0];rfl)
def LinAt(s:ByteArray)(v:Value)(H:Heap):Prop:=∃ b,v=.func (.func 198) #[] #[xy b]/\H b=some (.cells #[.string s] Hi)
def LinAt.mono:Kn.mono (.sat (LinAt s)):=fun _ _ _ ⟨b,h1,h2⟩ hle=>⟨b,h1,hle _ _ h2⟩
def Kw(hB:zpk B w):Ret zpl 129 [.string s] w B (LinAt s):=by
 refine yf Tryz.func129 Z Tryz.ntmps129 (np Z) hB ((Zba∘Zc) ?_);refine kq 1 900 rfl fun b=>?_;refine wd 900 rfl fun H1 hs1 _ hyb=>?_;refine(Z4∘Za8∘Zd) ?_;refine ye L (rs:=[.tmp 2]) Z (fun _ _ h=>h) hs1 fun u H hH hle=>?_;exact⟨b,rfl,hle _ _ hyb⟩
end Go.V.L11
namespace Go.V.L11
open Go.V.L2 Go.V.L4
def re(p:wo):List ByteArray:=p.map fun x=>match x with
 | [_,.string y]=>y
 | _=>⟨#[]⟩
def kx:∀ {ls:List ByteArray} {n:Nat},re (fh n (vi ls))=ls
 | [],_=>rfl
 | x::ls,n=>by
  show x::re (fh (n+1) (vi ls))=_;rw[kx]
def za9(a b:List ByteArray):vi (a++b)=vi a++vi b:=zl1 ..
def i9(ls:List ByteArray)(y:ByteArray):fh 1 (vi (ls++[y]))=fh 1 (vi ls)++[[Value.int .i64 ((ls.length+1:Nat):Int),Value.string y]]:=by
 rw[za9];have:=By (vi ls) [Value.string y];rw[mn] at this;exact this
def Uk:∀ {L:List ByteArray} {n:Nat} {p:wo},p<+:fh n (vi L)->∃ ls,p=fh n (vi ls)/\ls<+:L
 | [],n,p,h=>⟨[],List.prefix_nil.1 h,List.prefix_rfl⟩
 | x::L,n,[],h=>⟨[],rfl,List.nil_prefix⟩
 | x::L,n,q::p,h=>by
  have h':q::p<+:[Value.int .i64 (n:Int),Value.string x]::fh (n+1) (vi L):=h;rw[List.cons_prefix_cons] at h';obtain⟨rfl,h2⟩:=h';obtain⟨ls,rfl,h3⟩:=Uk h2;exact⟨x::ls,rfl,List.cons_prefix_cons.2 ⟨rfl,h3⟩⟩
def Dv{L:List ByteArray}{x:List Value}(h:pre++[x]<+:fh 1 (vi L)):∃ ls y,pre=fh 1 (vi ls)/\x=[Value.int .i64 ((ls.length+1:Nat):Int),Value.string y]/\ls++[y]<+:L:=by
 obtain⟨ls,e,hp⟩:=Uk h;rcases zo8 ls with rfl | ⟨ls',y,rfl⟩
 ·exact ni e (by simp [vi,fh])
 ·rw[zoo] at e hp;rw[i9] at e;obtain⟨h1,h2⟩:=List.append_inj' e rfl;exact⟨ls',y,h1,by simpa using h2,hp⟩
def bw{X:Type}(rd:ByteArray->X×Int):∀ (xs ls:List ByteArray),we rd 1 ls=true->
  ∃ ks,jh (fun p=>!we rd 1 (re p)) (fh 1 (vi ls)) (fh (1+ls.length) (vi xs))=fh 1 (vi ks)/\du rd [] 1 ks=du rd [] 1 (ls++xs)/\(we rd 1 ks=true->ks=ls++xs)
 | [],ls,h=>⟨ls,rfl,by rw[mo],fun _=>(mo _).symm⟩
 | x::xs,ls,h=>by
  have e1:fh 1 (vi ls)++[[Value.int .i64 ((1+ls.length:Nat):Int),Value.string x]]=fh 1 (vi (ls++[x])):=by rw[i9,zmx 1]
  show ∃ ks,(if (!we rd 1 (re (fh 1 (vi ls)++[[Value.int .i64 ((1+ls.length:Nat):Int),Value.string x]])))=true then _ else _)=_/\_;rw[e1,kx];cases hg:we rd 1 (ls++[x])
  ·refine⟨ls++[x],na Z,?_,fun h'=>by rw[hg] at h';cases h'⟩;rw[ve,h] at hg;exact(zae h (by simpa using hg)).symm
  ·obtain⟨ks,h1,h2,h3⟩:=bw rd xs (ls++[x]) hg;refine⟨ks,?_,by rw[h2,mj];rfl,fun h'=>by rw[h3 h',mj];rfl⟩;rw[nc J,<-h1,nr];rfl
def tup3{φ1 φ2 φ3:Value->Heap->Prop}{a b c:Value}(h1:φ1 a H)(h2:φ2 b H)(h3:φ3 c H):TupS [φ1,φ2,φ3] (.tuple #[a,b,c]) H:=⟨[a,b,c],rfl,rfl,fun i φ x hi hx=>by
 match i with
 | 0=>cases hi;cases hx;exact h1
 | 1=>cases hi;cases hx;exact h2
 | 2=>cases hi;cases hx;exact h3⟩
end Go.V.L11
namespace Go.V
section
def Ti{f:Nat}(L:Tabs P){o:Oper}{fo:Operand}(hop:o.op=.call { callee:=.value fo,args:=#[],argTypes:=#[] })(hfe:a.eval fo=.func (.func f) fst.toArray cap.toArray)(hfn:L.fn f=some ()):
  (execOp a.eval o).run P u=.ok (.enter f ((fst++cap).toArray)) u:=by
 simp only[execOp,hop,resolve,hfe,Deferred.ofValue,nu,me,ny,invoke];rw[fk L hfn];simp
def ja(L:Tabs P)(q:Nat)(r':GR)(v:Value){r:GR}{f:Nat}{fo:Operand}
  (hn:Nat.blt d n=true) (hg:gK ops κ ⟨some d,.call { callee:=.value fo,args:=#[],argTypes:=#[] },ty,pos,aft,g⟩=some true)
  (hf:evK κ fo=some (.func (.func f) fst.toArray cap.toArray)) (hfn:L.fn f=some ()) (hq:κ q=some (.own r.res))
  (h:∀ u H C,zpk H u->B.Le H->r.P H u C->(ZCB C u H)->RetX P f (fst++cap) u H C r' v):
  wv P F B n ops O κ ⟨some d,.call { callee:=.value fo,args:=#[],argTypes:=#[] },ty,pos,aft,g⟩ q (.own r'.res) d (.is v):=by
 rintro κ' a u hlk hks ⟨H,fp,hh⟩;unfold After;rw[na (xh hh hlk hg)];have hk':κ' q=some (.own r.res):=hks.trans hq;obtain⟨hown,hM⟩:=hh.slot q _ hk';have e2:=hh.env hlk;have hfe:a.eval fo=.func (.func f) fst.toArray cap.toArray:=e2.is_ fo _ (by simp [Op.operands,Call.operands]) hf;have hc:=h u H (fp q) hh.sub hh.base hown fun k hk=>⟨(hM k hk).1,(hM k hk).2.1⟩
 rw[Ti L rfl hfe hfn];simp only[Upon];refine Calls.mono hc fun e' u' hp=>?_;obtain⟨x,rfl,H',g',hx,C',hv,hC'⟩:=hp;have h2:=hh.usePut (d:=q) (a':=a) (r':=r'.res) hk' g' rfl rfl (fun _ _=>rfl) hv hC';rw[jv] at h2;exact⟨x,Z,H',_,h2.put (k:=.is v) (zo hn) trivial hx⟩
end
end Go.V
section
open Go.V
attribute [local irreducible] Has N Par Ret RetL RetO RetT RetX RetY Src StepOK V VO X kr
namespace Go.V.L4
def _root_.Zb2(t:Wr Y->A:=by exact fun h=>(Zc∘Zq) h.1)(h:Y):A:=t ⟨h⟩
def _root_.Zce(t:Wr Y->A:=by exact fun h=>(Z2∘ZW) h.1)(h:Y):A:=t ⟨h⟩
def rm{bs:List Nat}(hb:∀ b∈bs,b<=255)(hl:bs.length<=1099511627776)(hat:R.at_<=bs.length)(hB:zpk B w)(hs:BsV bs fu sv B)(hr:(GRd rb sv R).P B w C)(hC:ZCB C w B):
  RetX zpl 208 [xy rb,.int .u64 lim,.int .i64 e] w B C (GRd rb sv (bo bs lim e R).2) (.int .u64 ((bo bs lim e R).1:Nat)):=by
 unfold RetX;refine yr 900 (GRd rb sv R) Tryz.func208 Z Tryz.ntmps208 (np Z) hB hr hC ?_;rw[xb];obtain⟨⟨n,⟨at1,bad1,err1⟩⟩,hz⟩:∃ z,Ko bs R=z:=⟨_,rfl⟩
 obtain⟨at_,bad,err⟩:=R;unfold bo;rw[hz];dsimp only;have hnum:=fun(u:World) (H:Heap) (C2:Nat->Prop) (hH:zpk H u) (hle:B.Le H) hr2 hC2=>hz ▸ Du (R:=⟨at_,bad,err⟩) (rb:=rb) (C:=C2) hb hl hat hH (hs.le hle) hr2 hC2;by_cases hlt:lim<n
 ·rw[na hlt];refine(Z5∘Za∘ZW∘Zb2) ?_;refine q0 (y6 L 900 (GRd rb sv ⟨at1,bad1,err1⟩) (.int .u64 n) (r:=GRd rb sv ⟨at_,bad,err⟩) Z Z Z Z Z hnum) ((Zi∘Zcq∘ZN∘ZE∘Z9∘Zz) ?_);refine q0 (yq L 900 (GRd rb sv ((⟨at1,bad1,err1⟩:Rd).fail at_ e)) (r:=GRd rb sv ⟨at1,bad1,err1⟩) Z Z Z Z Z (fun u H C2 hH _ hr2 hC2=>ee hH hr2 hC2)) ((Zf∘Zar∘Zd) ?_);exact xq L 900 (r:=xa rb _ uk) (rs:=[.tmp 6]) Z (fun _ _ h=>h) nq Z Z (fun _=>rfl)
 ·rw[nc hlt];refine(Z5∘Za∘ZW∘Zb2) ?_;refine q0 (y6 L 900 (GRd rb sv ⟨at1,bad1,err1⟩) (.int .u64 n) (r:=GRd rb sv ⟨at_,bad,err⟩) Z Z Z Z Z hnum) ((Zi∘Zcq∘ZD∘Zl∘Zar∘Zd) ?_);exact xq L 900 (r:=xa rb _ uk) (rs:=[.tmp 6]) Z (fun _ _ h=>h) nq Z Z (fun _=>rfl)
def Qd{gf:Rd->Int×Rd}{fr:Nat}(hfn:L.fn fr=some ()){C:Nat->Prop}(hB:zpk B w)(hr:(GRd rb sv R).P B w C)(hC:ZCB C w B)
  (hf:R.err=0->∀ (u:World) (H:Heap) (C:Nat->Prop),zpk H u->B.Le H->(GRd rb sv R).P H u C->(ZCB C u H)->RetX zpl fr (fst++cap) u H C (GRd rb sv (gf R).2) (.int .i64 ((gf R).1:Int))):
  RetX zpl 206 [xy rb,.func (.func fr) fst.toArray cap.toArray] w B C (GRd rb sv (l8 gf 0 R).2) (.int .i64 ((l8 gf 0 R).1:Int)):=by
 unfold RetX;refine yr 900 (GRd rb sv R) Tryz.func206 Z Tryz.ntmps206 (np Z) hB hr hC ?_;rw[xb];obtain⟨⟨n,⟨at1,bad1,err1⟩⟩,hz⟩:∃ z,gf R=z:=⟨_,rfl⟩
 obtain⟨at_,bad,err⟩:=R;unfold l8;rw[hz] at hf |-;dsimp only at hf |-;by_cases h0:err≠0
 ·rw[na h0];refine(Z5∘Zi∘Zq) ?_;refine q0 (y6 L 900 (GRd rb sv ⟨at_,bad,err⟩) (.bool true) (r:=GRd rb sv ⟨at_,bad,err⟩) Z Z Z Z Z (fun u H C2 hH _ hr2 hC2=>xx (nf h0) hH hr2 hC2)) ((Zr∘Zu∘Zd) ?_);exact xq L 900 (r:=xa rb _ uk) (rs:=[.tmp 4]) Z (fun _ _ h=>h) nq Z Z (fun _=>rfl)
 ·have he:err=0:=m5.1 h0;subst he;rw[nc h0];have hf:=hf rfl;by_cases h1:err1≠0
  ·rw[na h1];refine(Z5∘Zi∘Zq) ?_;refine q0 (y6 L 900 (GRd rb sv ⟨at_,bad,0⟩) (.bool false) (r:=GRd rb sv ⟨at_,bad,0⟩) Z Z Z Z Z (fun u H C2 hH _ hr2 hC2=>xx (ng h0) hH hr2 hC2)) ((Zl∘Zce∘Zby) ?_);refine q0 (ja L 900 (GRd rb sv ⟨at1,bad1,err1⟩) (.int .i64 n) (r:=GRd rb sv ⟨at_,bad,0⟩) Z Z Z hfn Z hf) ((Zi∘ZH∘ZW∘Zao∘Z8∘Zb∘ZI) ?_);refine xf (yc L (q:=900) (cs':=[sv,.int .i64 at_,.int .i64 bad1,.int .i64 err1]) Z Z Z Z Z) ((Zf∘Za4∘Zd) ?_);exact xq L 900 (r:=xa rb _ uk) (rs:=[.tmp 4]) Z (fun _ _ h=>h) nq Z Z (fun _=>rfl)
  ·have he:err1=0:=m5.1 h1;subst he;rw[nc h1];refine(Z5∘Zi∘Zq) ?_;refine q0 (y6 L 900 (GRd rb sv ⟨at_,bad,0⟩) (.bool false) (r:=GRd rb sv ⟨at_,bad,0⟩) Z Z Z Z Z (fun u H C2 hH _ hr2 hC2=>xx (ng h0) hH hr2 hC2)) ((Zl∘Zce∘Zby) ?_);refine q0 (ja L 900 (GRd rb sv ⟨at1,bad1,0⟩) (.int .i64 n) (r:=GRd rb sv ⟨at_,bad,0⟩) Z Z Z hfn Z hf) ((Zi∘ZH∘ZW∘ZaE∘Zat∘Zd) ?_);exact xq L 900 (r:=xa rb _ uk) (rs:=[.tmp 4]) Z (fun _ _ h=>h) nq Z Z (fun _=>rfl)
def P9{gf:Rd->Nat×Rd}{fr:Nat}(hfn:L.fn fr=some ()){C:Nat->Prop}(hB:zpk B w)(hr:(GRd rb sv R).P B w C)(hC:ZCB C w B)
  (hf:R.err=0->∀ (u:World) (H:Heap) (C:Nat->Prop),zpk H u->B.Le H->(GRd rb sv R).P H u C->(ZCB C u H)->RetX zpl fr (fst++cap) u H C (GRd rb sv (gf R).2) (.int .u64 ((gf R).1:Nat))):
  RetX zpl 141 [xy rb,.func (.func fr) fst.toArray cap.toArray] w B C (GRd rb sv (l8 gf 0 R).2) (.int .u64 ((l8 gf 0 R).1:Nat)):=by
 unfold RetX;refine yr 900 (GRd rb sv R) Tryz.func141 Z Tryz.ntmps141 (np Z) hB hr hC ?_;rw[xb];obtain⟨⟨n,⟨at1,bad1,err1⟩⟩,hz⟩:∃ z,gf R=z:=⟨_,rfl⟩
 obtain⟨at_,bad,err⟩:=R;unfold l8;rw[hz] at hf |-;dsimp only at hf |-;by_cases h0:err≠0
 ·rw[na h0];refine(Z5∘Zi∘Zq) ?_;refine q0 (y6 L 900 (GRd rb sv ⟨at_,bad,err⟩) (.bool true) (r:=GRd rb sv ⟨at_,bad,err⟩) Z Z Z Z Z (fun u H C2 hH _ hr2 hC2=>xx (nf h0) hH hr2 hC2)) ((Zr∘Zu∘Zd) ?_);exact xq L 900 (r:=xa rb _ uk) (rs:=[.tmp 4]) Z (fun _ _ h=>h) nq Z Z (fun _=>rfl)
 ·have he:err=0:=m5.1 h0;subst he;rw[nc h0];have hf:=hf rfl;by_cases h1:err1≠0
  ·rw[na h1];refine(Z5∘Zi∘Zq) ?_;refine q0 (y6 L 900 (GRd rb sv ⟨at_,bad,0⟩) (.bool false) (r:=GRd rb sv ⟨at_,bad,0⟩) Z Z Z Z Z (fun u H C2 hH _ hr2 hC2=>xx (ng h0) hH hr2 hC2)) ((Zl∘Zce∘Zby) ?_);refine q0 (ja L 900 (GRd rb sv ⟨at1,bad1,err1⟩) (.int .u64 n) (r:=GRd rb sv ⟨at_,bad,0⟩) Z Z Z hfn Z hf) ((Zi∘ZH∘ZW∘Zao∘Z8∘Zb∘ZI) ?_);refine xf (yc L (q:=900) (cs':=[sv,.int .i64 at_,.int .i64 bad1,.int .i64 err1]) Z Z Z Z Z) ((Zf∘Za4∘Zd) ?_);exact xq L 900 (r:=xa rb _ uk) (rs:=[.tmp 4]) Z (fun _ _ h=>h) nq Z Z (fun _=>rfl)
  ·have he:err1=0:=m5.1 h1;subst he;rw[nc h1];refine(Z5∘Zi∘Zq) ?_;refine q0 (y6 L 900 (GRd rb sv ⟨at_,bad,0⟩) (.bool false) (r:=GRd rb sv ⟨at_,bad,0⟩) Z Z Z Z Z (fun u H C2 hH _ hr2 hC2=>xx (ng h0) hH hr2 hC2)) ((Zl∘Zce∘Zby) ?_);refine q0 (ja L 900 (GRd rb sv ⟨at1,bad1,0⟩) (.int .u64 n) (r:=GRd rb sv ⟨at_,bad,0⟩) Z Z Z hfn Z hf) ((Zi∘ZH∘ZW∘ZaE∘Zat∘Zd) ?_);exact xq L 900 (r:=xa rb _ uk) (rs:=[.tmp 4]) Z (fun _ _ h=>h) nq Z Z (fun _=>rfl)
def Mu{bs:List Nat}(hb:∀ b∈bs,b<=255)(hl:bs.length<=1099511627776)(hat:R.at_<=bs.length)(hB:zpk B w)(hs:BsV bs fu sv B)(hr:(GRd rb sv R).P B w C)(hC:ZCB C w B):
  RetX zpl 76 [xy rb] w B C (GRd rb sv (oc bs R).2) (.int .u64 ((oc bs R).1:Nat)):=by
 unfold RetX;refine yr 900 (GRd rb sv R) Tryz.func76 Z Tryz.ntmps76 (np Z) hB hr hC ?_;rw[xb];refine(Z5∘Zb∘Za8) ?_;refine q0 (y6 L 900 (GRd rb sv (oc bs R).2) (.int .u64 ((oc bs R).1:Nat)) (r:=GRd rb sv R) Z Z Z Z Z (fun u H C2 hH hle hr2 hC2=>P9 (gf:=Ko bs) (fst:=[xy rb]) (cap:=[]) Z hH hr2 hC2 (fun _ u3 H3 C3 hH3 hle3 hr3 hC3=>Du hb hl hat hH3 ((hs.le hle).le hle3) hr3 hC3))) (Zd (h:=?_));exact xq L 900 (r:=xa rb _ uk) (rs:=[.tmp 2]) Z (fun _ _ h=>h) nq Z Z (fun _=>rfl)
def zay{b2 b3:Nat}{bs:List Nat}(hlim:lim<=1099511627776)(hb:∀ b∈bs,b<=255)(hl:bs.length<=1099511627776)(hat:R.at_<=bs.length)(hB:zpk B w)(hs:BsV bs fu sv B)(h2:B b2=some (.cells #[xy rb] 154))(h3:B b3=some (.cells #[.int .i64 lim] 3))(hr:(GRd rb sv R).P B w C)(hC:ZCB C w B):
  RetX zpl 207 [xy b2,xy b3] w B C (GRd rb sv (zcq bs lim R).2) (.int .i64 (zcq bs lim R).1):=by
 unfold RetX;refine yr 900 (GRd rb sv R) Tryz.func207 Z Tryz.ntmps207 (np Z) hB hr hC ?_;rw[xb];have hmx:max (lim:Int) 0=lim:=I;have hcu:IntKind.u64.wrap (lim:Int)=(lim:Int):=wrap_u64 I I;obtain⟨⟨n,⟨at1,bad1,err1⟩⟩,hz⟩:∃ z,bo bs lim 3 R=z:=⟨_,rfl⟩
 unfold zcq;rw[hz];dsimp only;have hci:IntKind.i64.wrap ((n:Nat):Int)=IntKind.i64.wrap ((n:Nat):Int):=rfl;refine Z5 (h:=?_);refine z8 (qf L (qk Z h2) Z Z Z Z) Z (z8 (qf L (qk Z h3) Z Z Z Z) Z (z8 (Dr Z Z Z Z Z) Z (z8 (ku Z Z Z bm.1 bm.2 (wrap_u64 I I)) Z (q0 (y6 L 900 (GRd rb sv ⟨at1,bad1,err1⟩) (.int .u64 n) (r:=GRd rb sv R) Z Z Z Z Z (fun u H C2 hH hle hr2 hC2=>by have h:=rm (lim:=lim) (e:=3) hb hl hat hH (hs.le hle) hr2 hC2;rw[hz] at h;exact h)) ?_))));refine z8 (ku Z Z Z Z Z hci) Z (Zd (h:=?_));exact xq L 900 (r:=xa rb _ uk) (rs:=[.tmp 2]) Z (fun _ _ h=>h) nq Z Z (fun _=>rfl)
def len_ret{bs:List Nat}(hlim:lim<=1099511627776)(hb:∀ b∈bs,b<=255)(hl:bs.length<=1099511627776)(hat:R.at_<=bs.length)(hB:zpk B w)(hs:BsV bs fu sv B)(hr:(GRd rb sv R).P B w C)(hC:ZCB C w B):
  RetX zpl 138 [xy rb,.int .i64 lim] w B C (GRd rb sv (wk bs lim R).2) (.int .i64 (wk bs lim R).1):=by
 unfold RetX;refine yr 900 (GRd rb sv R) Tryz.func138 Z Tryz.ntmps138 (np Z) hB hr hC ?_;rw[xb];refine(Zba∘Zdn∘Zc) ?_;refine kq 2 901 rfl fun b2=>?_;refine kq 3 902 rfl fun b3=>?_;refine wd 901 rfl fun H1 hs1 _ h2=>?_;refine wd 902 rfl fun H2 hs2 _ h3=>?_;have h2:=hs2.le _ _ h2;have hs12:=hs1.trans hs2;have hs':=hs.le hs12.le;refine Z4 (h:=?_);refine z8 (qf L (qk Z h2) Z Z Z Z) Z (Za8 (h:=?_));refine q0 (y6 L 900 (GRd rb sv (wk bs lim R).2) (.int .i64 (wk bs lim R).1) (r:=GRd rb sv R) Z Z Z Z Z (fun u H C2 hH hle hr2 hC2=>Qd (gf:=zcq bs lim) (fst:=[]) (cap:=[xy b2,xy b3]) Z hH hr2 hC2 (fun _ u3 H3 C3 hH3 hle3 hr3 hC3=>zay hlim hb hl hat hH3 ((hs'.le hle).le hle3) ((hle.trans hle3) _ _ h2) ((hle.trans hle3) _ _ h3) hr3 hC3))) (Zd (h:=?_));exact xq L 900 (r:=xa rb _ uk) (rs:=[.tmp 4]) Z (fun _ _ h=>h) hs12 Z Z (fun _=>rfl)
def _root_.Zdd(t:Wr Y->A:=by intro h;refine zh (yt Z Z Z Z E) Z ?_;exact h.1)(h:Y):A:=t ⟨h⟩
def Gn(bs:List Nat)(R:Rd):Nat×Int:=if R.err=0/\R.at_<bs.length then (R.at_,5) else (R.bad,R.err)
def at_ret(hB:zpk B w)(hr:(GRd rb sv R).P B w C)(hC:ZCB C w B):RetX zpl 139 [xy rb] w B C (GRd rb sv R) (.int .i64 R.at_):=by
 unfold RetX;refine yr 900 (GRd rb sv R) Tryz.func139 Z Tryz.ntmps139 (np Z) hB hr hC ?_;rw[xb];refine(ZbG∘Zep∘Zl∘Zu∘ZW∘Zd) ?_;exact xq L 900 (r:=xa rb _ uk) (rs:=[.tmp 2]) Z (fun _ _ h=>h) nq Z Z (fun _=>rfl)
def Al(hl:bs.length<=1099511627776)(hat:R.at_<=bs.length)(hB:zpk B w)(hs:BsV bs fu sv B)(hr:(GRd rb sv R).P B w C)(hC:ZCB C w B):RetX zpl 219 [xy rb] w B C (GRd rb sv R) (.int .i64 (bs.length-R.at_:Nat)):=by
 obtain⟨p,c,rfl⟩:=jg hs;unfold RetX;refine yr 900 (GRd rb _ R) Tryz.func219 Z Tryz.ntmps219 (np Z) hB hr hC ?_;rw[xb];obtain⟨at_,bad,err⟩:=R;dsimp only[rdC] at hat |-;have hw:IntKind.i64.wrap ((bs.length:Int)-(at_:Int))=((bs.length-at_:Nat):Int):=(yz I I).trans I;refine(ZbG∘Zep∘Zl) ?_;refine qh (id:=3) [(200008,[900]),(200013,[900])] x8 T ((ZaS∘ZcH∘ZaS∘Zdd∘Za3) ?_);exact xq L 900 (r:=xa rb _ uk) (rs:=[.tmp 2]) Z (fun _ _ h=>h) nq Z Z (fun _=>rfl)
def fault_ret(hB:zpk B w)(hr:(GRd rb sv R).P B w C)(hC:ZCB C w B):RetX zpl 140 [xy rb] w B C (GRd rb sv R) (.tuple #[.int .i64 R.bad,.int .i64 R.err]):=by
 unfold RetX;refine yr 900 (GRd rb sv R) Tryz.func140 Z Tryz.ntmps140 (np Z) hB hr hC ?_;rw[xb];refine(ZaL∘ZaC∘Zep∘Zl) ?_;refine qh (id:=3) [(200009,[900]),(200013,[900])] x8 T ((ZaS∘ZaS∘Zaf∘Za3) ?_);exact xq L 900 (r:=xa rb _ uk) (rs:=[.tmp 2,.tmp 3]) Z (fun _ _ h=>h) nq Z Z (fun _=>rfl)
def Vv(hl:bs.length<=1099511627776)(hat:R.at_<=bs.length)(hB:zpk B w)(hs:BsV bs fu sv B)(hr:(GRd rb sv R).P B w C)(hC:ZCB C w B):RetX zpl 148 [xy rb] w B C (GRd rb sv R) (.tuple #[.int .i64 (Gn bs R).1,.int .i64 (Gn bs R).2]):=by
 unfold RetX;refine yr 900 (GRd rb sv R) Tryz.func148 Z Tryz.ntmps148 (np Z) hB hr hC ?_;rw[xb];obtain⟨at_,bad,err⟩:=R;unfold Gn;dsimp only[rdC] at hat |-;by_cases h0:err=0
 ·subst h0;by_cases h1:at_<bs.length
  ·rw[na ⟨rfl,h1⟩];refine(ZaL∘ZaC) ?_;refine q0 (y6 L 900 (GRd rb sv ⟨at_,bad,0⟩) (.bool false) (r:=GRd rb sv ⟨at_,bad,0⟩) Z Z Z Z Z (fun u H C2 hH _ hr2 hC2=>xx (ng fun h=>h Z) hH hr2 hC2)) ((Zt∘Zb) ?_);refine q0 (y6 L 900 (GRd rb sv ⟨at_,bad,0⟩) (.int .i64 (bs.length-at_:Nat)) (r:=GRd rb sv ⟨at_,bad,0⟩) Z Z Z Z Z (fun u H C2 hH hle hr2 hC2=>Al hl hat hH (hs.le hle) hr2 hC2)) ((ZN∘Zg∘Zr∘Zq∘ZW∘ZB) ?_);exact xq L 900 (r:=xa rb _ uk) (rs:=[.tmp 2,.tmp 3]) Z (fun _ _ h=>h) nq Z Z (fun _=>rfl)
  ·rw[nc (fun h=>h1 h.2)];refine(ZaL∘ZaC) ?_;refine q0 (y6 L 900 (GRd rb sv ⟨at_,bad,0⟩) (.bool false) (r:=GRd rb sv ⟨at_,bad,0⟩) Z Z Z Z Z (fun u H C2 hH _ hr2 hC2=>xx (ng fun h=>h Z) hH hr2 hC2)) ((Zt∘Zb) ?_);refine q0 (y6 L 900 (GRd rb sv ⟨at_,bad,0⟩) (.int .i64 (bs.length-at_:Nat)) (r:=GRd rb sv ⟨at_,bad,0⟩) Z Z Z Z Z (fun u H C2 hH hle hr2 hC2=>Al hl hat hH (hs.le hle) hr2 hC2)) ((ZD∘Zbd∘Zu) ?_);refine q0 (y6 L 900 (GRd rb sv ⟨at_,bad,0⟩) (.tuple #[.int .i64 bad,.int .i64 0]) (r:=GRd rb sv ⟨at_,bad,0⟩) Z Z Z Z Z (fun u H C2 hH hle hr2 hC2=>fault_ret hH hr2 hC2)) ((Zbj∘ZB) ?_);exact xq L 900 (r:=xa rb _ uk) (rs:=[.tmp 2,.tmp 3]) Z (fun _ _ h=>h) nq Z Z (fun _=>rfl)
 ·rw[nc (fun h=>h0 h.1)];refine(ZaL∘ZaC) ?_;refine q0 (y6 L 900 (GRd rb sv ⟨at_,bad,err⟩) (.bool true) (r:=GRd rb sv ⟨at_,bad,err⟩) Z Z Z Z Z (fun u H C2 hH _ hr2 hC2=>xx (nf h0) hH hr2 hC2)) ((Zt∘Zbr∘Zl∘Zu) ?_);refine q0 (y6 L 900 (GRd rb sv ⟨at_,bad,err⟩) (.tuple #[.int .i64 bad,.int .i64 err]) (r:=GRd rb sv ⟨at_,bad,err⟩) Z Z Z Z Z (fun u H C2 hH hle hr2 hC2=>fault_ret hH hr2 hC2)) ((Zbj∘ZB) ?_);exact xq L 900 (r:=xa rb _ uk) (rs:=[.tmp 2,.tmp 3]) Z (fun _ _ h=>h) nq Z Z (fun _=>rfl)
end Go.V.L4
end
namespace Go.V.L4
def _root_.Zbf(t:Wr Y->A:=by exact fun h=>(Z4∘Za) h.1)(h:Y):A:=t ⟨h⟩
def Pt(bs:List Nat):(bs.map fun b:Nat=>Value.int .u8 (b:Int)).all v9=true:=by
 rw[zlj];intro v hv;obtain⟨b,_,rfl⟩:=zlb.1 hv;rfl
abbrev zla(bs:List Nat)(R:Rd)(rb:Nat):GR:=GEx (X:=Value) (fun sv=>GRd rb sv R) (fun sv H=>BsV bs false sv H) (fun _ _ _ h hle=>h.le hle)
attribute [local irreducible] V N X VO Par StepOK Has Ret RetL RetO RetT kr RetX RetY Src
def Ei(hz:bs.length<=1099511627776)(hB:zpk B w)(hv:BsV bs fu v B):
  RetO zpl 135 [v] w B (SlR N5 1 bs.length (bs.map fun b:Nat=>Value.int .u8 (b:Int))):=by
 have hv0:=hv;have hlen:(bs.map fun b:Nat=>Value.int .u8 (b:Int)).length=bs.length*1:=by rw[mn,zmi]
 have hpl:=Pt bs;obtain⟨p,c,rfl⟩:=jg hv;rcases p with _ | b
 ·obtain⟨h0,rfl⟩:bs.length=0/\c=0:=E3 hv;have hn:bs=[]:=m6 h0;subst hn;refine vz Tryz.func135 Z Tryz.ntmps135 (np Z) hB (ZbG (h:=?_));refine z8 (v0 Z Z Z Z zkc Z) Z ((ZbH∘Zd) ?_);exact cr 2 N5 1 rfl (o9 Z (fun _ _ h=>h) nq Z)
 ·refine vz Tryz.func135 Z Tryz.ntmps135 (np Z) hB (ZbG (h:=?_));refine z8 (v0 Z Z Z Z zkc Z) Z (Zl (h:=?_));refine ju 0 (BsV bs fu) Z ma hv0 (ZR (h:=?_));refine z8 (dv L Z Z Z Z Z) Z (Zk (h:=?_));refine q0 (ub L Z Z Z (zbu Z) Z el5 E E I I) (q0 (yw (.inr Z) Z) (Z1 (h:=?_)));rw[zlf,mh];exact o9 Z (fun _ _ h=>h) nq Z
def zhc(hz:bs.length<=1099511627776)(hB:zpk B w)(hv:BsV bs fu v B):
  RetO zpl 72 [v] w B (Da xy (zla bs ⟨0,0,0⟩)):=by
 obtain⟨p,c,rfl⟩:=jg hv;refine vz Tryz.func72 Z Tryz.ntmps72 (np Z) hB ((ZL∘Zc) ?_);refine Zbf (h:=?_);refine z8 (u5 L rfl rfl (zo rfl) rfl rfl rfl (fun u H hH hle _=>Ei hz hH (hv.le hle))) rfl (rp 4 rfl ?_);refine v6 4 rfl fun sv H1 hs1 hsv=>?_;obtain⟨p1,c1,rfl⟩:=jg hsv;refine z8 (yl (cs:=[_,_,_,_]) rfl rfl zjd rfl rfl) rfl (Zdn (h:=?_));refine q0 (yw (.inr rfl) rfl) (Z1 (h:=?_));refine kq 2 900 rfl fun rb=>?_;exact Nu L 900 (r0:=GRd rb _ ⟨0,0,0⟩) (v:=xy rb) (rs:=[.tmp 2]) Z (fun _ _ h=>h) hs1 Z (fun _=>rfl) (fun H u C hle _ hr=>⟨rb,rfl,_,hsv.le hle,hr⟩)
end Go.V.L4
namespace Go.V.L4
def _root_.ZX(t:Wr Y->A:=by intro h;refine z8 (yk Z Z Z) Z ?_;exact h.1)(h:Y):A:=t ⟨h⟩
def _root_.Zde(t:Wr Y->A:=by intro h;refine z8 (zch Z Z Z Z I E) Z ?_;exact h.1)(h:Y):A:=t ⟨h⟩
def _root_.Zdz(t:Wr Y->A:=by intro h;refine z8 (zah L Z Z Z Z Z Z Z) Z ?_;exact h.1)(h:Y):A:=t ⟨h⟩
def _root_.ZbN(t:Wr Y->A:=by exact fun h=>(ZS∘ZaB) h.1)(h:Y):A:=t ⟨h⟩
def uq(n:Nat):List Nat:=if n<128 then [n] else (n%128+128)::uq (n/128)
termination_by n
decreasing_by omega
def cy(h:n<128):uq n=[n]:=by unfold uq;rw[if_pos h]
def Fw(h:¬ n<128):uq n=(n%128+128)::uq (n/128):=by rw[uq,nc h]
abbrev zgf:TypeId:=179
abbrev byV(bs:List Nat):List Value:=bs.map fun b:Nat=>Value.int .u8 (b:Int)
def GSl(sv:Value)(bs:List Nat):GR:=⟨fun H u C=>(SlR N5 1 bs.length (byV bs)).P sv H u C,(SlR N5 1 bs.length (byV bs)).st⟩
def Cf(sv:Value)(bs:List Nat):(GSl sv bs).res=AtV sv (SlR N5 1 bs.length (byV bs)):=rfl
abbrev GWv(wb:Nat)(bs:List Nat)(sv:Value):GR:=uw (xa wb [sv] zgf) (GSl sv bs)
def Mb(v:Value):Prop:=∃ p k c,v=.slice p k c
def f5:eg fun(sv:Value) (_:Heap)=>Mb sv:=fun _ _ _ h _=>h
abbrev GWr(wb:Nat)(bs:List Nat):GR:=GEx (X:=Value) (GWv wb bs) (fun sv _=>Mb sv) f5
def Oh{e:TypeId}{s:Nat}:∀ v H u C,(SlR e s n xs).P v H u C->Mb v:=fun v H u C ⟨_,h⟩=>by
 rcases h with ⟨_,rfl,_⟩ | ⟨b,c,r,rfl,_⟩<;>exact⟨_,_,_,rfl⟩
def Ps(acc:List Nat)(m:Nat):byV acc++[Value.int .u8 (m:Int)]=byV (acc++[m]):=by unfold byV;rw[List.map_append];rfl
def oa:∀ (k n:Nat),n<128^(k+1)->(uq n).length<=k+1
 | 0,n,h=>by rw[cy I];exact ns _
 | k+1,n,h=>by
  by_cases h2:n<128
  ·rw[cy h2];exact Nat.le_add_left _ _
  ·rw[Fw h2,nz];have:=oa k (n/128) (by rw[Nat.pow_succ] at h;exact Nat.div_lt_of_lt_mul (by rw[Nat.mul_comm];exact h));omega
def zbv(h:n<18446744073709551616):bits .and .u64 (n:Int) 127=((n%128:Nat):Int):=by
 have h2:=bits_and_u64_nat n 127 h J;rw[show n &&& 127=n%128 from Nat.and_two_pow_sub_one_eq_mod n 7] at h2;exact h2
def zee(n:Nat):bits .or .u64 ((n%128:Nat):Int) 128=((n%128+128:Nat):Int):=by
 have h2:=bits_or_u64_nat (n%128) 128 I J;have h3:=zcf (a:=n%128) (b:=1) (i:=7) I;rw[show 1*2^7=128 from rfl] at h3;rw[h3] at h2;exact h2
def GNo:GR:=⟨fun _ _ C=>∀ k,¬ C k,fun h _ _ _ _=>h⟩
def Ed{f:FuncId}{args:List Value}(h:RetL P f args w B C (fun v H _=>φ v H)):RetY P f args w B C GNo φ:=RetL.mono h fun _ _ _ _ hp=>⟨hp,fun _=>False,fun _ h=>h,fun _ h=>h.elim⟩
attribute [local irreducible] V N X VO Par StepOK Has Ret RetL RetO RetT kr RetX RetY Src
def vk{wb:Nat}(hn:n<18446744073709551616)(hz:bs.length+10<=1099511627776)(hB:zpk B w)(hr:(GWr wb bs).P B w C)(hC:ZCB C w B):
  kr zpl 86 [xy wb,.int .u64 n] w B C (GWr wb (bs++uq n)):=by
 unfold kr;refine yr 900 (GWr wb bs) Tryz.func86 Z Tryz.ntmps86 (np Z) hB hr hC ?_;refine vu (X:=Value) 900 (r:=fun sv=>(GWv wb bs sv).res) (φ:=fun sv _=>Mb sv) (hφ:=f5) Z fun sv H0 hs0 hsp=>?_;refine vt (r1:=xk wb [sv] zgf) (r2:=(GSl sv bs).res) 900 901 rfl (xd _) ?_;rw[Cf];refine(Ze∘ZL∘Za) ?_;refine z8 (v0 Z Z Z Z zeq Z) Z ((Zl∘Zam) ?_);refine xo (fun x:Value×Nat×List Nat=>[(0,.is (xy wb)),(1,.is (.int .u64 x.2.1)),(900,.own (xk wb [x.1] zgf)),(901,.own (AtV x.1 (SlR N5 1 x.2.2.length (byV x.2.2))))]) (fun x=>x.2.1<18446744073709551616/\Mb x.1/\x.2.2.length+(uq x.2.1).length=bs.length+(uq n).length/\x.2.2++uq x.2.1=bs++uq n) (fun x=>x.2.1) (sv,n,bs) ⟨hn,hsp,rfl,rfl⟩ ⟨Z,Z,Z,Z,nm⟩ ?_;rintro⟨s1,m,acc⟩ ⟨hm,hp1,hl,he⟩;dsimp only at hm hp1 hl he |-;have hlen:(byV acc).length=acc.length*1:=by rw[mn,zmi]
 have hpl:=Pt acc;have h128:(128:Nat)^10=1180591620717411303424:=J;have hnl:=oa 9 n I;have haz:acc.length<=1099511627776:=I;by_cases h:m<128
 ·rw[cy h] at he;have hcv:IntKind.u8.wrap (m:Int)=(m:Int):=En I I;refine(Zh∘Zbf∘Za1∘Za9∘Za2∘Zbq∘Z9∘Zbe) ?_;refine v7 27 901 rfl rfl (Za (h:=?_));refine z8 (ku rfl rfl rfl Pj.1 Pj.2 (En I I)) rfl (Zap (h:=?_));refine q0 (ub L rfl rfl rfl (o6 rfl) rfl el5 rfl rfl I I) ?_;refine ln 31 901 Mb rfl Oh fun s2 hp2=>?_;obtain⟨p2,k2,c2,rfl⟩:=hp2;refine ZI (h:=?_);refine xf (yc L (q:=900) (cs':=[.slice p2 k2 c2]) rfl rfl rfl rfl rfl) (ZS (h:=?_));have e1:byV acc++Gj [(0,Value.int .u8 (m:Int))]=byV (bs++uq n):=by rw[<-he];exact Ps acc m
  have e2:acc.length+1=(bs++uq n).length:=by rw[<-he,nr];rfl
  rw[e1,e2];refine ij 900 901 rfl Z (Nt _ _) ?_;exact ep (X:=Value) 900 (r:=fun sv=>(GWv wb (bs++uq n) sv).res) (φ:=fun sv _=>Mb sv) f5 (.slice p2 k2 c2) ⟨_,_,_,rfl⟩ Z (xp L 900 (r:=GWr wb (bs++uq n)) Z (fun _ _ h=>h) hs0 Z Z)
 ·rw[Fw h] at he hl;have hand:=zbv hm;have hor:=zee m;have hcv:IntKind.u8.wrap ((m%128+128:Nat):Int)=((m%128+128:Nat):Int):=En I I
  have hsr:(m:Int).fdiv (2^min (7:Int).toNat IntKind.u64.bits)=((m/128:Nat):Int):=by
   show(m:Int).fdiv 128=_;rw[zop _ J];omega
  refine(Zh∘Zbf∘ZbL∘Zae∘Zam∘Zcq∘ZW) ?_;refine v7 14 901 rfl rfl ((Za∘ZdQ∘ZdR) ?_);refine z8 (ku rfl rfl rfl Pj.1 Pj.2 (En I I)) rfl (Zap (h:=?_));refine q0 (ub L rfl rfl rfl (o6 rfl) rfl el5 rfl rfl I I) ?_;refine ln 20 901 Mb rfl Oh fun s2 hp2=>?_;obtain⟨p2,k2,c2,rfl⟩:=hp2;refine ZI (h:=?_);refine xf (yc L (q:=900) (cs':=[.slice p2 k2 c2]) rfl rfl rfl rfl rfl) ((ZbN∘Zq∘Zde∘ZaU) ?_);have e1:byV acc++Gj [(0,Value.int .u8 ((m%128+128:Nat):Int))]=byV (acc++[m%128+128]):=Ps _ _;have e2:acc.length+1=(acc++[m%128+128]).length:=by rw[nr];rfl
  rw[e1,e2];exact ym (x:=(s1,m,acc)) (.slice p2 k2 c2,m/128,acc++[m%128+128]) ⟨by dsimp only;omega,⟨_,_,_,rfl⟩,by dsimp only;rw[List.length_append];rw[List.length_cons] at hl;simp only[List.length_cons,List.length_nil];omega,by dsimp only;rw[List.append_assoc];exact he⟩ M ⟨Z,Z,Z,Z,trivial⟩
def Xb(hB:zpk B w)(hv:BsV bs fu v B):Ret zpl 158 [v] w B (BsV bs true):=by
 refine yf Tryz.func158 Z Tryz.ntmps158 (np Z) hB (ju 0 (BsV bs fu) Z ma hv ((Z5∘Zk∘Zo∘Zo∘Zdz∘ZX∘Z1) ?_));refine ye1 L [.tmp 2] fun u H hH hle=>?_;exact fun v hv=>hv
def Dd{wb:Nat}(hz:bs.length<=1099511627776)(hB:zpk B w)(hr:(GWr wb bs).P B w C)(hC:ZCB C w B):
  RetL zpl 91 [xy wb] w B C (fun v H _=>BsV bs true v H):=by
 refine yr 900 (GWr wb bs) Tryz.func91 Z Tryz.ntmps91 (np Z) hB hr hC ?_;refine vu (X:=Value) 900 (r:=fun sv=>(GWv wb bs sv).res) (φ:=fun sv _=>Mb sv) (hφ:=f5) Z fun sv H0 hs0 hsp=>?_;refine vt (r1:=xk wb [sv] zgf) (r2:=(GSl sv bs).res) 900 901 rfl (xd _) ?_;rw[Cf];obtain⟨p,k,c,rfl⟩:=hsp;refine ZbG (h:=?_);refine z8 (v0 Z Z Z Z zeq Z) Z ((Zl∘Zu∘ZW) ?_);refine v7 8 901 rfl Z (rp 8 rfl (z8 (u5 L Z Z (zo Z) Z Z Z (fun u H hH hle _ v1 h1=>Ei hz hH h1)) Z (rp 9 rfl (z8 (xi (φ:=BsV bs true) L Z Z (zo Z) Z Z Z ma (fun u H hH hle _ v1 h1=>Xb hH h1)) Z ((ZX∘Z1) ?_)))));exact ye L (rs:=[.tmp 2]) Z (fun _ _ h=>h) hs0 (fun _ H _ _ v hv=>hv)
end Go.V.L4
namespace Go.V
section
variable             {src dst:TypeId}  
def iy{vs:Array Value}(h:u.heap[b]?=some (.cells vs t' fr)):u.shape? b=some (t',vs.size):=by simp [World.shape?,h]
def M4(hx:evK κ x=some (.pointer (some ⟨b,0,none⟩)))(hq:κ q=some (.own (xk b cs t')))(hn:Nat.blt d n=true)(hg:gK ops κ ⟨some d,.convert src dst x,ty,pos,aft,g⟩=some true)(hs:P.underlying src=some (.pointer t))(hd:P.underlying dst=some .unsafePointer)(hj:(P.info? t).map (fun j=>decide (j.size≠0))=some true)(hc:Nat.ble 1 cs.length=true):
  StepOKR P F B n ops O κ ⟨some d,.convert src dst x,ty,pos,aft,g⟩ q d (.is (.pointer (some ⟨b,0,none⟩))):=by
 obtain⟨j,ht,hj⟩:∃ j,P.info? t=some j/\j.size≠0:=by
  cases h:P.info? t with
  | none=>rw[h] at hj;cases hj
  | some j=>rw[h] at hj;exact⟨j,rfl,by simpa using hj⟩
 rintro κ' a u hlk hqk ⟨H,fp,hh⟩;unfold After;rw[na (xh hh hlk hg)];have e:=hh.env hlk;have h1:=e.is_ x _ (by simp [Op.operands]) hx;obtain⟨⟨h2,hC⟩,hM⟩:=hh.slot q _ (hqk.trans hq);have hr:=Lib.run_to_unsafe (P:=P) u (src:=src) (dst:=dst) ⟨b,0,none⟩ hs hd ht hj (iy h2) (by have:=np hc;simp only[znx];omega)
 have hrun:(execOp a.eval ⟨some d,.convert src dst x,ty,pos,aft,g⟩).run P u=.ok (.value (.pointer (some ⟨b,0,none⟩))) u:=by
  simp only[execOp,h1,nu,me,hr,ny]
 rw[hrun];simp only[Upon];exact⟨H,fp,hh.put (k:=.is _) (zo hn) trivial Z⟩
def Ft(hx:evK κ x=some (.pointer (some ⟨b,0,none⟩)))(hq:κ q=some (.own (xk b cs t')))(hn:Nat.blt d n=true)(hg:gK ops κ ⟨some d,.convert src dst x,ty,pos,aft,g⟩=some true)(hs:P.underlying src=some .unsafePointer)(hd:P.underlying dst=some (.pointer t))(ht:(P.info? t).isSome=true)(hm:cs.length=m)(hl:liesAt P P.depth t' (m/P.cellsOf t') 0 t 1=true):
  StepOKR P F B n ops O κ ⟨some d,.convert src dst x,ty,pos,aft,g⟩ q d (.is (.pointer (some ⟨b,0,none⟩))):=by
 obtain⟨j,ht⟩:=zmq.1 ht;rintro κ' a u hlk hqk ⟨H,fp,hh⟩;subst hm;unfold After;rw[na (xh hh hlk hg)];have e:=hh.env hlk;have h1:=e.is_ x _ (by simp [Op.operands]) hx;obtain⟨⟨h2,hC⟩,hM⟩:=hh.slot q _ (hqk.trans hq);have hr:=Lib.run_from_unsafe (P:=P) u (src:=src) (dst:=dst) ⟨b,0,none⟩ hs hd ht (iy h2) (by simpa using hl)
 have hrun:(execOp a.eval ⟨some d,.convert src dst x,ty,pos,aft,g⟩).run P u=.ok (.value (.pointer (some ⟨b,0,none⟩))) u:=by
  simp only[execOp,h1,nu,me,hr,ny]
 rw[hrun];simp only[Upon];exact⟨H,fp,hh.put (k:=.is _) (zo hn) trivial Z⟩
def Q2{te:TypeId}{a0:Addr}(hn:Nat.blt d n=true)(hg:gK ops κ ⟨some d,.binOp .neq t x y t',ty,pos,aft,g⟩=some true)(hx:evK κ x=some (.pointer (some a0)))(hy:evK κ y=some (.pointer (some a0)))(hp:P.underlying t=some (.pointer te))(hte:(P.info? te).isSome=true):
  StepOK P F B n ops O κ ⟨some d,.binOp .neq t x y t',ty,pos,aft,g⟩ d (.is (.bool false)):=by
 obtain⟨j,hte⟩:=zmq.1 hte;exact w8 hn hg hx hy fun u=>Lib.run_neq_ptr_same u a0 hp hte
def M8{f:Nat}{at_:Array TypeId}{fo:Operand}{r:Value}(hn:Nat.blt d n=true)(hg:gK ops κ ⟨some d,.call { callee:=.value fo,args:=#[x],argTypes:=at_ },ty,pos,aft,g⟩=some true)(hfo:evK κ fo=some (.func (.func f) #[] #[]))(hx:evK κ x=some v)(hext:∀ u,(callFunc f #[v]).run P u=.ok (.value r) u):
  StepOK P F B n ops O κ ⟨some d,.call { callee:=.value fo,args:=#[x],argTypes:=at_ },ty,pos,aft,g⟩ d (.is r):=by
 rintro κ' a u hlk ⟨H,fp,hh⟩;unfold After;rw[na (xh hh hlk hg)];have e:=hh.env hlk;have h1:a.eval x=v:=e.is_ x _ (by simp [Op.operands,Call.operands]) hx;have h2:a.eval fo=.func (.func f) #[] #[]:=e.is_ fo _ (by simp [Op.operands,Call.operands]) hfo
 have hrun:(execOp a.eval ⟨some d,.call { callee:=.value fo,args:=#[x],argTypes:=at_ },ty,pos,aft,g⟩).run P u=.ok (.value r) u:=by
  simp only[execOp,resolve,h2,Deferred.ofValue,nu,me,ny,invoke];simp [h1,hext]
 rw[hrun];simp only[Upon];exact⟨H,fp,hh.put (k:=.is r) (zo hn) trivial Z⟩
end
end Go.V
namespace Go.V
def zbs(u:World){ty2 e:TypeId}{aty:TypeId}{i:TypeInfo}{z:Value}(ht:P.underlying t=some (.slice e))(hu:P.underlying ty2=some .string)(hi:P.info? e=some i)(hz:i.zero=some z)(hs1:i.size=1)(hs2:i.bytes=1)(hs3:z.cells.size=1)
  {x:Value}    {nn:Nat}  (hsub:zpk H u) (hown:(SlR e 1 nn xs).P x H u C) (hlt:ZCB C u H) (h63:nn+str.size<=9223372036854775807) (hb:nn+str.size<=140737488355328):
  ∃ x' u' C',(Builtin.append_ #[t,ty2] aty #[x,.string str]).run P u=.ok x' u'/\(SlR e 1 (nn+str.size) (xs++Lib.strCells str)).P x' H u' C'/\Grow C u H u' H/\∀ k,C' k->(C k\/u.heap.size<=k)/\k<u'.heap.size/\H k=none:=by
 have hl:=Lib.strCells_length str;generalize hnews:Lib.strCells str=news at hl |-;obtain⟨m,hm0⟩:∃ m,str.size=m:=⟨_,rfl⟩
 have hmx:nn+m<=maxLen:=by simp only[maxLen];omega
 obtain⟨hxl,hown⟩:=hown;have hlen:(xs++news).length=(nn+m)*1:=by rw[nr,hxl,hl,hm0];omega
 have hdrew:∀ o:Obj,Grow C u H (u.drew.alloc o) H:=fun o=>⟨⟨rfl,rfl,rfl,by simp,fun k hk _=>jx u.drew _ hk,zmn _⟩,fun k v hv=>by
  have:=hsub.size hv;show(u.drew.alloc o).heap[k]?=some v;rw[jx u.drew _ this];exact hsub k v hv,mt _,fun _ _ _=>rfl⟩
 have hnew:∀ (o:Obj) (k:Nat),k=u.heap.size->(C k\/u.heap.size<=k)/\k<(u.drew.alloc o).heap.size/\H k=none:=fun o k hk=>by
  subst hk;exact⟨.inr (ns _),by simp,k9 hsub (ns _)⟩
 have grown:∀ (old:Nat),old<nn+m->∀ vs:List Value,vs=xs->
   (SlR e 1 (nn+m) (xs++news)).P (.slice (some ⟨u.heap.size,0,none⟩) (nn+m) (grownCap u (nn+m) old e)) H (u.drew.alloc (.cells (vs.toArray++news.toArray++Builtin.zeroCells z.cells (grownCap u (nn+m) old e-(nn+m))) e)) (fun k=>k=u.heap.size):=by
  rintro old ho vs rfl;have hge:=grownCap_ge u (nn+m) old e;refine⟨hlen,.inr ⟨u.heap.size,_,(Builtin.zeroCells z.cells (grownCap u (nn+m) old e-(nn+m))).toList,rfl,?_,hge,grownCap_le_maxLen u (nn+m) old e hmx,?_,fun _=>Iff.rfl⟩⟩
  ·have h2:(u.drew.alloc (.cells (vs.toArray++news.toArray++Builtin.zeroCells z.cells (grownCap u (nn+m) old e-(nn+m))) e)).heap[u.heap.size]?=some (.cells (vs.toArray++news.toArray++Builtin.zeroCells z.cells (grownCap u (nn+m) old e-(nn+m))) e):=heap_alloc_new u.drew _;rw[h2];congr 2;apply Array.ext';simp
  ·rw[nr,hlen,zmt,size_zeroCells,hs3];omega
 rcases hown with ⟨rfl,rfl,hC⟩ | ⟨b,cap,rest,rfl,hbk,hnc,hcm,hcl,hC⟩
 ·have hx:xs=[]:=m6 (by simpa using hxl);subst hx;by_cases h0:m=0
  ·subst h0;have hn:news=[]:=m6 I;subst hn;refine⟨.slice none 0 0,u,noL,?_,⟨by simp [hm0],.inl ⟨by omega,rfl,fun _ h=>h⟩⟩,⟨Keep.refl _ _,hsub,mt _,fun _ _ _=>rfl⟩,fun _ h=>h.elim⟩;have hf:=Lib.run_firstCells_string (P:=P) u i.size str;rw[hm0] at hf;simp [Builtin.append_,run_underlying ht,run_underlying hu,sizeOf,typeInfo,hi,Builtin.lenOf,hm0,hf]
  ·have hr:=run_append_nil_string (P:=P) u t ty2 aty e i z ht hu hi hz str I I (by rw[hs2];omega);have hgr:=grown 0 I [] rfl;rw[hm0] at hr |-;simp only[zlf,mh,Array.empty_append] at hgr |-;refine⟨_,_,_,hr,?_,hdrew _,fun k hk=>hnew _ k hk⟩;have e1:str.data.map (fun b=>Value.int .u8 b.toNat)=news.toArray:=by rw[<-hnews];apply Array.ext';simp [Lib.strCells]
   rw[e1];exact hgr
 ·have hbl:=hlt b ((hC b).2 rfl)
  have holds:∀ j v,xs[j]?=some v->u.cell? ((⟨b,0,none⟩:Addr).add j)=some v:=fun j v hj=>by
   rw[gh,zlf,ko hbk]
   have hlt:j<xs.length:=by
    rcases m8 j xs.length with h | h
    ·exact h
    ·rw[zlu h] at hj;cases hj
   simp only[znz];rw[zml hlt];exact hj
  rw[hm0];by_cases hroom:nn+m<=cap
  ·have hfit:nn+str.size<=(xs++rest).toArray.size:=by simp only[znx,hcl];omega
   have hr:=Lib.run_append_room_string (P:=P) u t ty2 aty e i ht hu hi hs1 b nn cap _ hbk str I hfit;rw[hnews,hm0] at hr;refine⟨_,_,C,hr,⟨hlen,.inr ⟨b,cap,rest.drop news.length,rfl,?_,hroom,hcm,?_,hC⟩⟩,vp hsub hbk ((hC b).2 rfl) hbl.2 _,fun k hk=>⟨.inl hk,by rw[setRow_size];exact(hlt k hk).1,(hlt k hk).2⟩⟩
   ·rw[setRow_heap u b _ _ e (0,0) hbk];congr 2;have hx1:xs.length=nn:=I;rw[<-hx1,hl,hm0];simp [zmh,zlk]
   ·have h5:rest.length=cap*1-nn*1:=by rw[<-hcl,nr,hxl];omega
    rw[nr,hlen,zlc,h5,hl,hm0];omega
  ·have hr:=Lib.run_append_grow_string (P:=P) u t ty2 aty e i z ht hu hi hz ⟨b,0,none⟩ nn cap xs (by rw[hs1];exact hxl) holds str I I (by rw[hs2];exact growslice_fits I I);rw[hnews,hm0] at hr;exact⟨_,_,_,hr,grown cap I xs Z,hdrew _,fun k hk=>hnew _ k hk⟩
section
def tc(L:Tabs P){ty2 e:TypeId}{nn:Nat}(hn:Nat.blt d n=true)(hg:gK ops κ ⟨some d,.call ⟨.builtin .append,#[.tmp q,y],#[t,ty2]⟩,ty,pos,aft,g⟩=some true)
  (hq:κ q=some (.own (SlR e 1 nn xs))) (hy:evK κ y=some (.string str)) (ht:L.sl t=some e) (hu:P.underlying ty2=some .string) (he:elI P e=some (1,1)) (hb:nn+str.size<=140737488355328):
  wv P F B n ops O κ ⟨some d,.call ⟨.builtin .append,#[.tmp q,y],#[t,ty2]⟩,ty,pos,aft,g⟩ q fw d (.own (SlR e 1 (nn+str.size) (xs++Lib.strCells str))):=by
 rintro κ' a u hlk hks ⟨H,fp,hh⟩;unfold After;rw[na (xh hh hlk hg)];have en:=hh.env hlk;obtain⟨i,z,hi,hz,hs1,hs2,hs3,hs4⟩:=vy he;have hk':κ' q=some (.own (SlR e 1 nn xs)):=hks.trans hq;obtain⟨hown,hM⟩:=hh.slot q _ hk';have h1:a.eval y=.string str:=en.is_ y _ (by simp [Op.operands,Call.operands]) hy;obtain⟨x',u',C',hr,hown',hgr,hC'⟩:=zbs u (aty:=ty) (Tabs.sl_spec ht) hu hi hz hs1 hs2 hs3 hh.sub hown (fun k hk=>⟨(hM k hk).1,(hM k hk).2.1⟩) I hb
 have hrun:(execOp a.eval ⟨some d,.call ⟨.builtin .append,#[.tmp q,y],#[t,ty2]⟩,ty,pos,aft,g⟩).run P u=.ok (.value x') u':=by
  simp only[execOp,resolve,invoke,builtin,nu,me,ny,zlp,mq,zlo,h1,hr]
 rw[hrun];simp only[Upon];exact⟨H,_,hh.usePut hk' hgr (by simp [Act.put]) Z (fun t ht=>xn ht) (by rw[xv (by rw[hh.size];exact zo hn)];exact hown') hC'⟩
end
end Go.V
namespace Go.V.Bd
open Go.V.L4
def _root_.Zee(t:Wr Y->A:=by intro h;refine j9 900 901 rfl Z (Nt _ _) ?_;exact h.1)(h:Y):A:=t ⟨h⟩
def _root_.Zc7(t:Wr Y->A:=by exact fun h=>(Za9∘Ze) h.1)(h:Y):A:=t ⟨h⟩
abbrev Aw:TypeId:=228
def zfc(v:Value)(u:World):(callFunc 255 #[v]).run zpl u=.ok (.value v) u:=
 (run_callFunc_extern Tryz.func255 T T T (e:=Extern.AbiNoEscape.same) T #[v] u).trans rfl
attribute [local irreducible] V N X VO Par StepOK Has Ret RetL RetO RetT kr RetX RetY Src
def check_ret{p:Value}(hpp:p=.pointer none\/p=xy bb)(hB:zpk B w)(hr:(xa bb [p,sv] Aw).P B w C)(hC:ZCB C w B):
  kr zpl 195 [xy bb] w B C (xa bb [xy bb,sv] Aw):=by
 unfold kr;refine yr 900 (xa bb [p,sv] Aw) Tryz.func195 Z Tryz.ntmps195 (np Z) hB hr hC ?_;rw[xb];rcases hpp with rfl | rfl
 ·refine(ZL∘Za∘ZW) ?_;refine z8 (v0 Z Z Z Z zhf Z) Z ((ZE∘Z4∘Zb) ?_);refine qz (M4 (q:=900) (t:=Aw) Z Z Z Z T T T Z) (z8 (M8 Z Z Z Z (zfc _)) Z (qz (Ft (q:=900) (t:=Aw) Z Z Z Z T T T Z T) (ZI (h:=?_))));refine xf (yc L (q:=900) (cs':=[xy bb,sv]) Z Z Z Z Z) (ZS (h:=?_));exact xp L 900 (r:=xa bb _ Aw) Z (fun _ _ h=>h) nq Z Z
 ·refine(ZL∘Za∘ZW) ?_;refine z8 (v0 Z Z Z Z zhf Z) Z ((Zc7∘Zq∘ZW∘Za) ?_);refine z8 (Q2 (te:=Aw) Z Z Z Z T T) Z (ZZ (h:=?_));exact xp L 900 (r:=xa bb _ Aw) Z (fun _ _ h=>h) nq Z Z
abbrev GBv(bb:Nat)(bs:List Nat)(x:Value×Value):GR:=uw (xa bb [x.1,x.2] Aw) (GSl x.2 bs)
def zf5(bb:Nat)(x:Value×Value):Prop:=(x.1=.pointer none\/x.1=xy bb)/\Mb x.2
def cp(bb:Nat):eg fun(x:Value×Value) (_:Heap)=>zf5 bb x:=fun _ _ _ h _=>h
abbrev GBd(bb:Nat)(bs:List Nat):GR:=GEx (X:=Value×Value) (GBv bb bs) (fun x _=>zf5 bb x) (cp bb)
def g8(s:ByteArray):List Nat:=s.data.toList.map fun c=>c.toNat
def vr(s:ByteArray):(g8 s).length=s.size:=by unfold g8;rw[List.length_map,Array.length_toList];rfl
def Xj(bs:List Nat)(s:ByteArray):byV bs++Lib.strCells s=byV (bs++g8 s):=by
 unfold byV g8 Lib.strCells;rw[zl1,zm6];rfl
def write_ret(hz:bs.length+str.size<=140737488355328)(hB:zpk B w)(hr:(GBd bb bs).P B w C)(hC:ZCB C w B):
  RetX zpl 122 [xy bb,.string str] w B C (GBd bb (bs++g8 str)) (.tuple #[.int .i64 str.size,.nilIface]):=by
 unfold RetX;refine yr 900 (GBd bb bs) Tryz.func122 Z Tryz.ntmps122 (np Z) hB hr hC ?_;refine vu (X:=Value×Value) 900 (r:=fun x=>(GBv bb bs x).res) (φ:=fun x _=>zf5 bb x) (hφ:=cp bb) Z fun x H0 hs0 hx=>?_;obtain⟨p,sv⟩:=x;obtain⟨hpp,hsl⟩:=hx;dsimp only at hpp hsl |-;obtain⟨p1,k1,c1,rfl⟩:=hsl;refine vt (r1:=xk bb [p,.slice p1 k1 c1] Aw) (r2:=(GSl (.slice p1 k1 c1) bs).res) 900 901 rfl (xd _) ?_;rw[Cf];refine(ZaL∘ZaM) ?_;refine q0 (yq L 900 (xa bb [xy bb,.slice p1 k1 c1] Aw) (r:=xa bb [p,.slice p1 k1 c1] Aw) rfl rfl rfl rfl rfl (fun u H C hH _ hr hC=>check_ret hpp hH hr hC)) ((Zf∘ZM∘Zbe) ?_);refine v7 12 901 rfl rfl (Za (h:=?_));refine q0 (tc L rfl rfl rfl rfl rfl T el5 hz) ?_;refine ln 14 901 Mb rfl Oh fun s2 hp2=>?_;obtain⟨p2,k2,c2,rfl⟩:=hp2;refine ZI (h:=?_);refine xf (yc L (q:=900) (cs':=[xy bb,.slice p2 k2 c2]) rfl rfl rfl rfl rfl) ((Zf∘Zu∘Zan∘ZB) ?_);have e2:bs.length+str.size=(bs++g8 str).length:=by rw[nr,vr]
 rw[Xj,e2];refine Zee (h:=?_);exact bn (X:=Value×Value) 900 (r:=fun x=>(GBv bb (bs++g8 str) x).res) (φ:=fun x _=>zf5 bb x) (cp bb) (xy bb,.slice p2 k2 c2) ⟨.inr Z,_,_,_,rfl⟩ Z (xq L 900 (r:=GBd bb (bs++g8 str)) (rs:=[.tmp 4,.tmp 5]) Z (fun _ _ h=>h) hs0 Z Z (fun _=>rfl))
end Go.V.Bd
namespace Go.V
open Go.V.L4
def ci{a:Addr}(h:k≠a.block):(u.freeze a n).heap[k]?=u.heap[k]?:=by
 unfold World.freeze;split
 ·rfl
 ·simp [Array.getElem?_modify,Ne.symm h]
def Mp(u:World)(a:Addr)(n:Nat):(u.freeze a n).heap.size=u.heap.size:=by
 unfold World.freeze;split<;>simp
def Nh{L:Nat->Prop}(hs:zpk H u)(hL:L b)(hH:H b=none):Grow L u H (u.freeze ⟨b,0,none⟩ n) H:=
 have ho:(u.freeze ⟨b,0,none⟩ n).os=u.os/\(u.freeze ⟨b,0,none⟩ n).tape=u.tape/\(u.freeze ⟨b,0,none⟩ n).output=u.output/\(u.freeze ⟨b,0,none⟩ n).drawn=u.drawn:=by unfold World.freeze;split<;>exact⟨rfl,rfl,rfl,rfl⟩
 ⟨⟨ho.1,ho.2.1,ho.2.2.1,zni (Mp ..).symm,fun k _ hk=>ci (fun e=>hk (e ▸ hL)),zni ho.2.2.2.symm⟩,fun k x hx=>by
  have:k≠b:=fun e=>by subst e;rw[hH] at hx;cases hx
  show(u.freeze ⟨b,0,none⟩ n).heap[k]?=some x;rw[ci this];exact hs k x hx,mt _,fun _ _ _=>rfl⟩
def lp(bs:List Nat):ByteArray:=⟨(bs.map UInt8.ofNat).toArray⟩
section
def zig(q:Nat){r:Res}{c:Code}(S:Prop)(hk:κ q=some (.own r))(hS:∀ v H u C,r.P v H u C->S)(h:S->V P F B n O κ c Q):V P F B n O κ c Q:=fun a u hh=>by
 obtain⟨H,fp,hH⟩:=hh;exact h (hS _ _ _ _ (hH.slot q _ hk).1) a u ⟨H,fp,hH⟩
def Kg{a0:Addr}{c:Nat}(hn:Nat.blt d n=true)(hg:gK ops κ ⟨some d,.call ⟨.builtin .unsafeSliceData,#[x],tts⟩,ty,pos,aft,g⟩=some true)(hx:evK κ x=some (.slice (some a0) m c))(hc:c≠0):
  StepOK P F B n ops O κ ⟨some d,.call ⟨.builtin .unsafeSliceData,#[x],tts⟩,ty,pos,aft,g⟩ d (.is (.pointer (some a0))):=
 ke rfl (by simpa using hn) hg trivial fun a u H fp e=>⟨_,by
  have h1:a.eval x=.slice (some a0) m c:=e.is_ x _ (by simp [Op.operands,Call.operands]) hx;have h2:=Lib.run_unsafeSliceData_row (P:=P) u tts ty a0 m c hc;simp only[execOp,resolve,invoke,builtin,nu,me,ny,zlp,mq,zlo,h1,h2],rfl⟩
def Kf{pt it e:TypeId}{c:Nat}{bs:List Nat}(hb:∀ b∈bs,b<=255)(h0:bs≠[])(hl:bs.length<=1099511627776)(hn:Nat.blt d n=true)(hg:gK ops κ ⟨some d,.call ⟨.builtin .unsafeString,#[x,y],#[pt,it]⟩,ty,pos,aft,g⟩=some true)(hx:evK κ x=some (.pointer (some ⟨b,0,none⟩)))(hy:evK κ y=some (.int .i64 bs.length))
  (hq:κ q=some (.own (AtV (.slice (some ⟨b,0,none⟩) m c) (SlR e 1 bs.length (byV bs))))) (hp:P.underlying pt=some (.pointer e)) (hc:P.cellsOf e=1):
  wv P F B n ops O κ ⟨some d,.call ⟨.builtin .unsafeString,#[x,y],#[pt,it]⟩,ty,pos,aft,g⟩ q (.own GNo.res) d (.is (.string (lp bs))):=by
 rintro κ' a u hlk hks ⟨H,fp,hh⟩;unfold After;rw[na (xh hh hlk hg)];have en:=hh.env hlk;have hk':=hks.trans hq;obtain⟨hown,hM⟩:=hh.slot q _ hk';have h1:a.eval x=.pointer (some ⟨b,0,none⟩):=en.is_ x _ (by simp [Op.operands,Call.operands]) hx;have h2:a.eval y=.int .i64 bs.length:=en.is_ y _ (by simp [Op.operands,Call.operands]) hy;obtain⟨hxl,hown⟩:=hown;rcases hown with ⟨_,hv,_⟩ | ⟨b2,cap,rest,hv,hbk,hnc,hcm,hcl,hC⟩
 ·cases hv
 ·cases hv;have hbm:=hM b ((hC b).2 rfl);have hlen:(bs.map UInt8.ofNat).length=bs.length:=mn _
  have hr:=Lib.run_unsafeString_row (P:=P) u pt it ty e hp hc b (byV bs++rest).toArray.size (by simp [World.shape?,hbk]) (bs.map UInt8.ofNat) (fun h=>h0 (List.map_eq_nil_iff.1 h)) (by rw[hlen];simp) (by rw[hlen];omega) (fun j v hj=>by
   rw[gh,zlf,ko hbk];rw[zlx] at hj
   cases hbj:bs[j]? with
   | none=>rw[hbj] at hj;cases hj
   | some z=>
    rw[hbj] at hj;cases hj;have hz:=hb z (zlg hbj);have hjl:j<(byV bs).length:=by rw[mn];exact get_lt hbj
    simp only[znz];rw[zml hjl,zlx,hbj];have:(UInt8.ofNat z).toNat=z:=by simp;omega
    rw[this];rfl)
  rw[hlen] at hr
  have hrun:(execOp a.eval ⟨some d,.call ⟨.builtin .unsafeString,#[x,y],#[pt,it]⟩,ty,pos,aft,g⟩).run P u=.ok (.value (.string (lp bs))) (u.freeze ⟨b,0,none⟩ bs.length):=by
   simp only[execOp,resolve,invoke,builtin,nu,me,ny,zlp,mq,zlo,h1,h2,hr];rfl
  rw[hrun];simp only[Upon];have h3:=hh.usePut (d:=q) (a':=a) (r':=GNo.res) (C:=fun _=>False) hk' (Nh (n:=bs.length) hh.sub ((hC b).2 rfl) hbm.2.1) rfl rfl (fun _ _=>rfl) (fun k h=>h) (fun k h=>h.elim);rw[jv] at h3;exact⟨H,_,h3.put (k:=.is _) (zo hn) trivial Z⟩
def Fl{c:Nat}(hn:Nat.blt d n=true)(hg:gK ops κ ⟨some d,.call ⟨.builtin .unsafeSliceData,#[x],tts⟩,ty,pos,aft,g⟩=some true)(hx:evK κ x=some (.slice none m c)):
  StepOK P F B n ops O κ ⟨some d,.call ⟨.builtin .unsafeSliceData,#[x],tts⟩,ty,pos,aft,g⟩ d (.is (.pointer none)):=
 ke rfl (by simpa using hn) hg trivial fun a u H fp e=>⟨_,by
  have h1:a.eval x=.slice none m c:=e.is_ x _ (by simp [Op.operands,Call.operands]) hx;have h2:=Lib.run_unsafeSliceData_nil (P:=P) u tts ty m c;simp only[execOp,resolve,invoke,builtin,nu,me,ny,zlp,mq,zlo,h1,h2],rfl⟩
def Fj{pt it:TypeId}{p0:Option Addr}(hn:Nat.blt d n=true)(hg:gK ops κ ⟨some d,.call ⟨.builtin .unsafeString,#[x,y],#[pt,it]⟩,ty,pos,aft,g⟩=some true)(hx:evK κ x=some (.pointer p0))(hy:evK κ y=some (.int .i64 0)):
  StepOK P F B n ops O κ ⟨some d,.call ⟨.builtin .unsafeString,#[x,y],#[pt,it]⟩,ty,pos,aft,g⟩ d (.is (.string .empty)):=
 ke rfl (by simpa using hn) hg trivial fun a u H fp e=>⟨_,by
  have h1:a.eval x=.pointer p0:=e.is_ x _ (by simp [Op.operands,Call.operands]) hx;have h2:a.eval y=.int .i64 0:=e.is_ y _ (by simp [Op.operands,Call.operands]) hy;have h3:=Lib.run_unsafeString_none (P:=P) u pt it ty p0;simp only[execOp,resolve,invoke,builtin,nu,me,ny,zlp,mq,zlo,h1,h2,h3],rfl⟩
end
end Go.V
section
open Go.V
attribute [local irreducible] Has N Par Ret RetL Src StepOK V VO X
namespace Go.V.Bd
open Go.V.L4
def zdt(h0:bs≠[]){c:Nat}:∀ v H u C,(AtV (.slice p k c) (SlR N5 1 bs.length (byV bs))).P v H u C->∃ b cap,Value.slice p k c=.slice (some ⟨b,0,none⟩) bs.length cap/\bs.length<=cap:=fun v H u C ⟨_,h⟩=>by
 rcases h with ⟨h,_⟩ | ⟨b,cap,rest,hv,_,hnc,_⟩
 ·exact ni (m6 h) h0
 ·exact⟨b,cap,hv,hnc⟩
attribute [local irreducible] RetO RetT kr RetX RetY
def Dj{bs:List Nat}(hb:∀ b∈bs,b<=255)(h0:bs≠[])(hl:bs.length<=1099511627776)(hB:zpk B w)(hr:(GBd bb bs).P B w C)(hC:ZCB C w B):
  RetX zpl 124 [xy bb] w B C GNo (.string (lp bs)):=by
 unfold RetX;refine yr 900 (GBd bb bs) Tryz.func124 Z Tryz.ntmps124 (np Z) hB hr hC ?_;refine vu (X:=Value×Value) 900 (r:=fun x=>(GBv bb bs x).res) (φ:=fun x _=>zf5 bb x) (hφ:=cp bb) Z fun x H0 hs0 hx=>?_;obtain⟨p,sv⟩:=x;obtain⟨hpp,hsl⟩:=hx;dsimp only at hpp hsl |-;obtain⟨p1,k1,c1,rfl⟩:=hsl;refine vt (r1:=xk bb [p,.slice p1 k1 c1] Aw) (r2:=(GSl (.slice p1 k1 c1) bs).res) 900 901 rfl (xd _) ?_;rw[Cf];refine zig 901 _ Z (zdt h0) fun hk=>?_;obtain⟨b,cap,hv,hcap⟩:=hk;cases hv;have hlp:0<bs.length:=znm.2 h0;refine(ZL∘Zc) ?_;refine qh (id:=1) [(200006,[900]),(200011,[900]),(13,[901])] x8 T (ZaS (h:=?_));refine zh (Kg Z Z Z I) Z ((ZaS∘ZcH) ?_);refine xu (Kf (q:=901) hb h0 hl Z Z Z Z Z T T) Z Z (Za3 (h:=?_));exact xq L 901 (r:=GNo) (rs:=[.tmp 2]) Z (fun _ _ h=>h) hs0 Z Z (fun _=>rfl)
def A3{p:Value}(hB:zpk B w)(hr:(xa bb [p,.slice none 0 0] Aw).P B w C)(hC:ZCB C w B):
  RetX zpl 124 [xy bb] w B C (xa bb [p,.slice none 0 0] Aw) (.string .empty):=by
 unfold RetX;refine yr 900 (xa bb [p,.slice none 0 0] Aw) Tryz.func124 Z Tryz.ntmps124 (np Z) hB hr hC ?_;rw[xb];refine(ZL∘Zc) ?_;refine qh (id:=1) [(200006,[900]),(200011,[900])] x8 T (ZaS (h:=?_));refine zh (Fl Z Z Z) Z ((ZaS∘ZcH) ?_);refine zh (Fj Z Z Z Z) Z (Za3 (h:=?_));exact xq L 900 (r:=xa bb _ Aw) (rs:=[.tmp 2]) Z (fun _ _ h=>h) nq Z Z (fun _=>rfl)
end Go.V.Bd
namespace Go.V.L2
def _root_.Zcf(t:Wr Y->A:=by intro h;refine zh (yv L (vs:=[_,_,_,_,_,_]) Z Z Z Z Z ⟨_,rfl⟩) Z ?_;exact h.1)(h:Y):A:=t ⟨h⟩
def _root_.Zak(t:Wr Y->A:=by intro h;refine zh (qe Z Z Z) Z ?_;exact h.1)(h:Y):A:=t ⟨h⟩
def _root_.ZbT(t:Wr Y->A:=by intro h;refine z8 (yl (cs:=[_,_,_,_,_,_]) Z Z zka Z Z) Z ?_;exact h.1)(h:Y):A:=t ⟨h⟩
def _root_.Zdf(t:Wr Y->A:=by intro h;refine zh (zz L (vs:=[_,_,_]) (ya Z) Z Z Z Z ⟨_,rfl⟩) Z ?_;exact h.1)(h:Y):A:=t ⟨h⟩
def _root_.ZdG(t:Wr Y->A:=by intro h;refine zh (Oq Z Z Z Z (nf I)) Z ?_;exact h.1)(h:Y):A:=t ⟨h⟩
def _root_.ZeO(t:Wr Y->A:=by intro h;refine z81 L Z (fun u H hH hle=>zd9 (by first | assumption | rfl) G hH (GlobM.mono E hle)) ?_;exact h.1)(h:Y):A:=t ⟨h⟩
def _root_.Zdo(t:Wr Y->A:=by intro h;refine qh (id:=4) [] x8 T ?_;exact h.1)(h:Y):A:=t ⟨h⟩
def _root_.Zef(t:Wr Y->A:=by intro h;refine zh (Oq Z Z Z Z (ng I)) Z ?_;exact h.1)(h:Y):A:=t ⟨h⟩
def _root_.Zfc(t:Wr Y->A:=by intro h;refine z81 L Z (fun u H hH _=>Mm G G G hH) ?_;exact h.1)(h:Y):A:=t ⟨h⟩
def _root_.Zfd(t:Wr Y->A:=by intro h;refine z81 L Z (fun u H hH hle=>zd1 (by first | assumption | rfl) G hH (GlobM.mono E hle)) ?_;exact h.1)(h:Y):A:=t ⟨h⟩
def _root_.Zbv(t:Wr Y->A:=by exact fun h=>(Zy∘ZaT) h.1)(h:Y):A:=t ⟨h⟩
abbrev uv(t:U):Value:=.agg #[.string t.1.1.1,.string t.1.1.2,.string t.1.2,.string t.2.1.1,.string t.2.1.2,.string t.2.2]
abbrev tyU:TypeId:=34
abbrev US(l:List U)(fu:Bool):Value->Heap->Prop:=SlV tyU 6 (l.flatMap ucs) l.length fu
def rq{t:U}(h:l[i]?=some t):((l.flatMap ucs).drop (i*6)).take 6=[.string t.1.1.1,.string t.1.1.2,.string t.1.2,.string t.2.1.1,.string t.2.1.2,.string t.2.2]:=cn Ev l i t h
def ki{t:U}(hz:TZ t)(hB:zpk B w):Ret zpl 100 [uv t] w B (fun v _=>v=.int .i64 (tE t)):=by
 obtain⟨⟨z1,z2,z3⟩,z4,z5,z6⟩:=hz;unfold tE;refine yf Tryz.func100 Z Tryz.ntmps100 (np Z) hB ?_;by_cases h:gl [t.1.1.1,t.1.1.2,t.1.2]=0
 ·rw[na h];refine(ZA∘Zaa∘Zav∘ZcF) ?_;refine z81 L Z (fun u H hH _=>goal_ret G G G hH) ?_;refine(Zb2∘ZaE∘Z9∘Zav∘ZcF∘Zfc∘Zd) ?_;exact ye2 L [.tmp 2]
 ·rw[nc h];refine(ZA∘Zaa∘Zav∘ZcF) ?_;refine z81 L Z (fun u H hH _=>goal_ret G G G hH) ?_;refine(Zb2∘Zao∘Zu∘Zd) ?_;exact ye2 L [.tmp 2]
def wq{a b:U}(hB:zpk B w):Ret zpl 101 [uv a,uv b] w B (fun v _=>v=.int .i64 (jm a b)):=by
 refine yf Tryz.func101 Z Tryz.ntmps101 (np Z) hB ((ZaQ∘Zc∘Zcu∘Zbi∘Zdf∘Zbi∘Zdf) ?_);refine zh1 L Z (fun u H hH _=>Gs hH) ?_;refine(Zbi∘Zdf∘Zbi∘Zdf) ?_;refine zh1 L Z (fun u H hH _=>cmpU_ret hH) ?_;refine Zdv (h:=?_);refine zh (zy L Z Z (zo Z) Z Z Z (fun u H hH _ _ v hv=>Fi hH hv)) Z (Za3 (h:=?_));exact ye2 L [.tmp 4]
def subjT_size(a b c:ByteArray):(ef a b c).size<=a.size+b.size+c.size+2:=by
 unfold ef;split
 ·rw[objT_size];omega
 ·rw[goalT_size];omega
def Hk{t:U}(hz:TZ t)(hB:zpk B w):Ret zpl 123 [uv t] w B (fun v _=>v=.string (tT t)):=by
 obtain⟨⟨z1,z2,z3⟩,z4,z5,z6⟩:=hz;have h0:sAt.size=1:=rfl;have h1:=goalT_size t.1.1.1 t.1.1.2 t.1.2;have h2:=subjT_size t.2.1.1 t.2.1.2 t.2.2;have h3:(dy t.1.1.1 t.1.1.2 t.1.2).size+sAt.size<=9223372036854775807:=I;have h4:(dy t.1.1.1 t.1.1.2 t.1.2++sAt).size+(ef t.2.1.1 t.2.1.2 t.2.2).size<=9223372036854775807:=by rw[m9];omega
 refine yf Tryz.func123 Z Tryz.ntmps123 (np Z) hB ((ZA∘Zc∘Zcu∘Zbi∘Zdf) ?_);refine zh1 L Z (fun u H hH _=>tg G G G hH) ?_;refine(Zda∘Zbi∘Zdf) ?_;refine zh1 L Z (fun u H hH _=>Hp G G G hH) ?_;refine(Zda∘Za3) ?_;exact ye2 L [.tmp 2]
def d6{r:U×Int}(hr:ptA s=r)(hs:s.size<=1000000)(hB:zpk B w)(hM:GlobM B):
  Ret zpl 63 [.string s] w B (fun v _=>v=.tuple #[uv r.1,.int .i64 r.2]):=by
 subst hr;have hz:=o0 s 64;have hz1:(gk s 64).1.size<=1000000:=I;have hz2:(gk s 64).2.1.size<=1000000:=I;unfold ptA;refine yf Tryz.func63 Z Tryz.ntmps63 (np Z) hB ?_;cases h1:(gk s 64).2.2
 ·rw[nc (fun h=>by cases h.1)];refine(Zaj∘ZaM) ?_;refine z81 L Z (fun u H hH hle=>dz E hH (GlobM.mono E hle) E) ?_;refine(Zy∘Zb1∘Zbl∘Zq∘Zt∘Zc2∘Zg∘Zr∘ZR∘ZbT∘Za0) ?_;refine ye1 L [.cell 2 34,.tmp 3] fun u H hH hle=>?_;exact⟨_,qs Z,rfl,rfl⟩
 ·cases h2:Lz (gk s 64).2.1 64
  ·rw[na ⟨rfl,rfl⟩];rcases hp:pgA (gk s 64).1 with ⟨a,b,c,e⟩
   dsimp only;by_cases he:e=0
   ·rw[na he];rcases hq:psA (gk s 64).2.1 with ⟨a',b',c',e'⟩
    dsimp only;by_cases he':e'=0
    ·rw[na he'];refine(Zaj∘ZaM) ?_;refine z81 L Z (fun u H hH hle=>dz E hH (GlobM.mono E hle) E) ?_;refine(Zy∘Zb1∘Zbl∘Zq∘Zt∘Zb) ?_;refine z81 L Z (fun u H hH _=>wu hH E) ?_;refine(Zbd∘Z2∘ZeO∘Zbv∘Zi∘Zar∘ZaE∘Z3∘Zfd∘Zbv∘Zi∘Za4∘ZaE∘Zah∘Zdx∘Zdx∘ZbT∘Za0) ?_;refine ye1 L [.cell 2 34,.tmp 3] fun u H hH hle=>?_;exact⟨_,qs Z,rfl,rfl⟩
    ·rw[nc he'];refine(Zaj∘ZaM) ?_;refine z81 L Z (fun u H hH hle=>dz E hH (GlobM.mono E hle) E) ?_;refine(Zy∘Zb1∘Zbl∘Zq∘Zt∘Zb) ?_;refine z81 L Z (fun u H hH _=>wu hH E) ?_;refine(Zbd∘Z2∘ZeO∘Zbv∘Zi∘Zar∘ZaE∘Z3∘Zfd∘Zbv∘Zi∘Za4∘Zao∘ZQ∘ZbT∘Za∘Za0) ?_;refine ye1 L [.cell 2 34,.tmp 3] fun u H hH hle=>?_;exact⟨_,qs Z,rfl,rfl⟩
   ·rw[nc he];refine(Zaj∘ZaM) ?_;refine z81 L Z (fun u H hH hle=>dz E hH (GlobM.mono E hle) E) ?_;refine(Zy∘Zb1∘Zbl∘Zq∘Zt∘Zb) ?_;refine z81 L Z (fun u H hH _=>wu hH E) ?_;refine(Zbd∘Z2∘ZeO∘Zbv∘Zi∘Zar∘Zao∘ZP∘ZbT∘Za∘Za0) ?_;refine ye1 L [.cell 2 34,.tmp 3] fun u H hH hle=>?_;exact⟨_,qs Z,rfl,rfl⟩
  ·rw[nc (fun h=>by cases h.2)];refine(Zaj∘ZaM) ?_;refine z81 L Z (fun u H hH hle=>dz E hH (GlobM.mono E hle) E) ?_;refine(Zy∘Zb1∘Zbl∘Zq∘Zt∘Zb) ?_;refine z81 L Z (fun u H hH _=>wu hH E) ?_;refine(Zg∘Zr∘ZR∘ZbT∘Za0) ?_;refine ye1 L [.cell 2 34,.tmp 3] fun u H hH hle=>?_;exact⟨_,qs Z,rfl,rfl⟩
def Ay(hl:l.length<=1000000)(hr:isB l=r){v:Value}(hB:zpk B w)(hv:US l fu v B):
  Ret zpl 280 [v] w B (fun v _=>v=.bool r):=by
 subst hr;refine yf Tryz.func280 Z Tryz.ntmps280 (np Z) hB (ju 0 (US l fu) Z ma hv ((ZL∘Zaa∘Zbt) ?_))
 refine xo (fun i:Nat=>[(0,.sat (US l fu)),(3,.is (.int .i64 (i+1:Nat)))])
  (fun i=>∀ j a b,j<i->l[j]?=some a->l[j+1]?=some b->jm a b<0) (fun i=>l.length-i) 0 (fun j a b h=>by omega) ⟨rfl,rfl,nm⟩ ?_
 rintro i hall;by_cases hlt:i+1<l.length
 ·obtain⟨a,ha⟩:=xw (show i<l.length by omega);obtain⟨b,hb⟩:=xw hlt;have hca:=rq ha;have hcb:=rq hb;have hsub:IntKind.i64.wrap (((i+1:Nat):Int)-1)=(i:Int):=yz I I |>.trans I;by_cases hc:jm a b<0
  ·refine(Zh∘Zq∘Zo∘ZaH∘ZbF∘Zdo∘Zak∘Zj∘Zdd∘ZbS∘Zcf∘Zak∘Zj∘ZbS∘Zcf) ?_;refine zh1 L Z (fun u H hH _=>wq hH) ?_;refine(Zef∘ZaY∘ZcY∘ZaB∘Zu∘ZbR) ?_
   exact ym (x:=i) (i+1) (fun j a' b' hj h1 h2=>by
    by_cases hji:j=i
    ·subst hji;rw[ha] at h1;rw[hb] at h2;cases h1;cases h2;exact hc
    ·exact hall j a' b' I h1 h2) I ⟨Z,Z,nm⟩
  ·rw[zht ha hb hc];refine(Zh∘Zq∘Zo∘ZaH∘ZbF∘Zdo∘Zak∘Zj∘Zdd∘ZbS∘Zcf∘Zak∘Zj∘ZbS∘Zcf) ?_;refine zh1 L Z (fun u H hH _=>wq hH) ?_;refine(ZdG∘Zc4∘Ze∘ZY∘Zd) ?_;exact ye2 L [.tmp 2]
 ·rw[ze6 fun j a b h1 h2=>hall j a b (by
   have:j+1<l.length:=by
    rcases m8 (j+1) l.length with h | h
    ·exact h
    ·rw[zlu h] at h2;cases h2
   omega) h1 h2]
  refine(Zh∘Zq∘Zo∘Z0∘ZaR∘ZP∘Zd) ?_;exact ye2 L [.tmp 2]
end Go.V.L2
namespace Go.V.L11
open Go.V.L2 Go.V.L4 Go.V.Bd
def _root_.ZaI(t:Wr Y->A:=by intro h;refine z8 (zz L (vs:=[_,_,_,_,_,_]) (qs Z) Z Z Z Z ⟨_,rfl⟩) Z ?_;exact h.1)(h:Y):A:=t ⟨h⟩
def _root_.Zcg(t:Wr Y->A:=by intro h;refine z8 (zz L (vs:=[_,_,_,_,_,_]) (ya Z) Z Z Z Z ⟨_,rfl⟩) Z ?_;exact h.1)(h:Y):A:=t ⟨h⟩
def _root_.Zcm(t:Wr Y->A:=by intro h;refine z8 (yv L (vs:=[_,_,_,_,_,_]) Z Z Z Z Z ⟨_,rfl⟩) Z ?_;exact h.1)(h:Y):A:=t ⟨h⟩
def _root_.ZdS(t:Wr Y->A:=by intro h;refine zh (zz L (vs:=[_,_,_,_,_,_]) (qs Z) Z Z Z Z ⟨_,rfl⟩) Z ?_;exact h.1)(h:Y):A:=t ⟨h⟩
def _root_.Zau(t:Wr Y->A:=by exact fun h=>(ZaD∘Z1) h.1)(h:Y):A:=t ⟨h⟩
def _root_.Zbw(t:Wr Y->A:=by exact fun h=>(Z7∘Zaz) h.1)(h:Y):A:=t ⟨h⟩
def aj(t:U):ByteArray:=(⟨#[]⟩++tT t)++⟨#[10]⟩
def dp(l:List U):List Nat:=l.flatMap fun t=>g8 (aj t)
def Qg:List U->Int
 | []=>0
 | t::l=>if tE t≠0 then tE t else Qg l
def Sq{t:U}(hi:l[i]?=some t):Qg (l.drop i)=if tE t≠0 then tE t else Qg (l.drop (i+1)):=by
 rw[zl4 (get_lt hi),f9 hi];rfl
def Dg{t:U}(hi:l[i]?=some t):dp (l.take (i+1))=dp (l.take i)++g8 (aj t):=by
 unfold dp;rw[v8 hi,zlz,zly,List.flatMap_nil,mo]
def iq{l:List U}(hs:∀ t∈l,(aj t).size<=1000):∀ i,(dp (l.take i)).length<=i*1000
 | 0=>by rw[zl2];exact ns _
 | i+1=>by
  cases h:l[i]? with
  | none=>
   have:=zo6.1 h;rw[zle I];have h2:=iq hs i;rw[zle I] at h2;omega
  | some t=>
   rw[Dg h,nr,vr];have h2:=iq hs i;have:=hs t (zlg h);omega
def Gv(s:ByteArray):∀ b∈g8 s,b<=255:=fun b hb=>by
 obtain⟨c,_,rfl⟩:=zlb.1 hb;have:=c.toNat_lt;omega
def Yp(l:List U):∀ b∈dp l,b<=255:=fun b hb=>by
 obtain⟨t,_,h⟩:=znn.1 hb;exact Gv _ b h
attribute [local irreducible] RetO RetT kr RetX RetY
def id_ret{t:U}(hB:zpk B w):Ret zpl 53 [uv t] w B (fun v _=>v=uv t):=by
 refine yf Tryz.func53 Z Tryz.ntmps53 (np Z) hB ((ZA∘Z7∘Zf∘Z4∘Zcg∘Zau) ?_);refine ye1 L [.cell 2 34] fun u H hH hle=>?_;exact⟨_,qs Z,rfl,rfl⟩
def none_ret{t:U}(hB:zpk B w):Ret zpl 54 [uv t] w B (fun v _=>v=.string ⟨#[]⟩):=by
 refine yf Tryz.func54 Z Tryz.ntmps54 (np Z) hB ((ZA∘Zas∘Zd) ?_);exact ye2 L [.tmp 2]
def Cc(t:U):(aj t).size=(tT t).size+1:=by
 unfold aj;rw[m9,m9];have h1:(⟨#[]⟩:ByteArray).size=0:=rfl;have h2:(⟨#[10]⟩:ByteArray).size=1:=rfl;omega
def Yo(h:l≠[]):dp l≠[]:=fun e=>by
 cases l with
 | nil=>exact h rfl
 | cons t l=>
  unfold dp at e;rw[zly] at e;have h1:=(zo9.1 e).1;have h2:=vr (aj t);rw[h1,Cc] at h2;cases h2
def text_ret{l:List U}(hln:l.length<=4096)(hz:∀ t∈l,TZ t)(hs:∀ t∈l,(aj t).size<=1000)(hB:zpk B w)(hv:US l fu v B):
  Ret zpl 52 [v,.func (.func 53) #[] #[],.func (.func 54) #[] #[]] w B (fun r _=>r=.tuple #[.string (if Qg l≠0 then ⟨#[]⟩ else lp (dp l)),.int .i64 (Qg l)]):=by
 refine yf Tryz.func52 Z Tryz.ntmps52 (np Z) hB (ju 0 (US l fu) Z ma hv ((ZaL∘Zaa∘Zo∘ZD∘Zl∘ZR∘Zbw) ?_));refine kq 8 900 rfl fun bb=>?_;by_cases hl0:l=[]
 ·subst hl0;refine(Z9∘Zcb) ?_;refine xo (fun _:Nat=>[(8,.is (xy bb)),(16,.is (.int .i64 0)),(17,.is (.int .i64 0)),(900,.own (xk bb [.pointer none,.slice none 0 0] Aw))]) (fun _=>True) (fun i=>i) 0 trivial ⟨Z,Z,Z,Z,nm⟩ ?_;rintro _ _;refine(Ze∘ZY∘ZaK∘ZT) ?_;refine q0 (y6 L 900 (xa bb [.pointer none,.slice none 0 0] Aw) (.string .empty) (r:=xa bb [.pointer none,.slice none 0 0] Aw) Z Z Z Z Z (fun u H C hH _ hr hC=>A3 hH hr hC)) (ZB (h:=?_));exact ye2 L [.tmp 6,.tmp 7]
 ·refine sn 901 N5 1 (Zee (h:=?_));refine bn (X:=Value×Value) 900 (r:=fun x=>(GBv bb [] x).res) (φ:=fun x _=>zf5 bb x) (cp bb) (.pointer none,.slice none 0 0) ⟨.inl Z,_,_,_,rfl⟩ Z ((Z9∘Zcb) ?_);refine xo (fun i:Nat=>[(1,.is (.func (.func 53) #[] #[])),(2,.is (.func (.func 54) #[] #[])),(8,.is (xy bb)),(15,.sat (US l fu)),(16,.is (.int .i64 l.length)),(17,.is (.int .i64 i)),(900,.own (GBd bb (dp (l.take i))).res)]) (fun i=>i<=l.length/\Qg (l.drop i)=Qg l) (fun i=>l.length-i) 0 ⟨mf _,rfl⟩ ⟨Z,Z,Z,Z,Z,Z,Z,nm⟩ ?_;rintro i ⟨hi,hte⟩;dsimp only at hi hte |-;by_cases hlt:i<l.length
  ·obtain⟨t,ht⟩:=xw hlt;have hcr:=rq ht;have hzt:=hz t (zlg ht);have hst:=hs t (zlg ht);have hsl:=Cc t;rw[Sq ht] at hte;have hsn:=Dg ht;have hbl:=iq hs i;have hwk:IntKind.i64.wrap ((i:Int)+1)=((i+1:Nat):Int):=yz I I;by_cases he:tE t=0
   ·rw[nc (fun h=>h he)] at hte;have hs1:(⟨#[]⟩:ByteArray).size+(tT t).size<=9223372036854775807:=by have h1:(⟨#[]⟩:ByteArray).size=0:=rfl;omega
    have hs2:((⟨#[]⟩:ByteArray)++tT t).size+(⟨#[10]⟩:ByteArray).size<=9223372036854775807:=by rw[m9];have h1:(⟨#[]⟩:ByteArray).size=0:=rfl;have h2:(⟨#[10]⟩:ByteArray).size=1:=rfl;omega
    refine(Ze∘ZY∘Zx∘ZP∘Zab∘Zcm∘Zbs∘Z3∘ZaI) ?_;refine z81 L Z (fun u H hH _=>id_ret hH) ?_;refine z81 L Z (fun u H hH _=>ki hzt hH) ?_;refine(Zc∘Za4∘ZG∘ZZ∘Zbq) ?_;refine qh (id:=10) [(37,[900])] x8 T ((Zj∘ZdS) ?_);refine zh1 L Z (fun u H hH _=>none_ret hH) ?_;refine(Zj∘ZdS) ?_;refine zh1 L Z (fun u H hH _=>id_ret hH) ?_;refine zh1 L Z (fun u H hH _=>Hk hzt hH) ?_;refine(Zda∘Zda) ?_;refine xu (y6 L 900 (GBd bb (dp (l.take (i+1)))) (.tuple #[.int .i64 (aj t).size,.nilIface]) (r:=GBd bb (dp (l.take i))) Z Z Z Z Z (fun u H C hH _ hr hC=>by rw[hsn];exact write_ret (str:=aj t) I hH hr hC)) Z Z ?_;refine(ZbI∘ZaB∘ZO∘Zv∘Zct) ?_;exact ym (x:=i) (i+1) ⟨hlt,hte⟩ I ⟨Z,Z,Z,Z,Z,Z,Z,nm⟩
   ·rw[na he] at hte;refine(Ze∘ZY∘Zx∘ZP∘Zab∘Zcm∘Zbs∘Z3∘ZaI) ?_;refine z81 L Z (fun u H hH _=>id_ret hH) ?_;refine z81 L Z (fun u H hH _=>ki hzt hH) ?_;refine(Zc∘Za4∘Zao∘Zat∘ZB) ?_;refine ye1 L [.tmp 6,.tmp 7] fun u H hH hle=>?_;rw[<-hte,na he];rfl
  ·obtain rfl:i=l.length:=by omega
   rw[zno] at hte;rw[zlm];have hbl:=iq hs l.length;rw[zlm] at hbl;refine(Ze∘ZY∘ZaK∘ZT) ?_;refine q0 (y6 L 900 GNo (.string (lp (dp l))) (r:=GBd bb (dp l)) Z Z Z Z Z (fun u H C hH _ hr hC=>Dj (Yp l) (Yo hl0) I hH hr hC)) (ZB (h:=?_));refine ye1 L [.tmp 6,.tmp 7] fun u H hH hle=>?_;rw[<-hte];rfl
def ry(l:List U):ByteArray×Int:=if 4096<l.length then (⟨#[]⟩,3) else (if Qg l≠0 then ⟨#[]⟩ else lp (dp l),Qg l)
def Mj{f g:Value}(hln:4096<l.length)(hB:zpk B w)(hv:US l fu v B):
  Ret zpl 52 [v,f,g] w B (fun r _=>r=.tuple #[.string ⟨#[]⟩,.int .i64 3]):=by
 refine yf Tryz.func52 Z Tryz.ntmps52 (np Z) hB (ju 0 (US l fu) Z ma hv ((ZaL∘Zaa∘Zo∘ZN∘ZbH∘ZB) ?_));exact ye2 L [.tmp 6,.tmp 7]
def Se{l:List U}(hz:∀ t∈l,TZ t)(hs:∀ t∈l,(aj t).size<=1000)(hB:zpk B w)(hv:US l fu v B):
  Ret zpl 12 [v] w B (fun r _=>r=.tuple #[.string (ry l).1,.int .i64 (ry l).2]):=by
 unfold ry;refine yf Tryz.func12 Z Tryz.ntmps12 (np Z) hB (ju 0 (US l fu) Z ma hv ?_);by_cases hln:4096<l.length
 ·rw[na hln];refine(ZaL∘Zas∘Zk) ?_;refine z8 (zy L Z Z (zo Z) Z Z Z (fun u H hH hle _ v1 h1=>Mj hln hH h1)) Z ((Zbj∘ZB) ?_);exact ye2 L [.tmp 2,.tmp 3]
 ·rw[nc hln];refine(ZaL∘Zas∘Zk) ?_;refine z8 (zy L Z Z (zo Z) Z Z Z (fun u H hH hle _ v1 h1=>text_ret I hz hs hH h1)) Z ((Zbj∘ZB) ?_);exact ye2 L [.tmp 2,.tmp 3]
end Go.V.L11
namespace Go.V.L2
def Gz:∀ (l:List ByteArray),gl l=0\/gl l=6
 | []=>.inl rfl
 | s::l=>by
  simp only[gl];split
  ·exact Gz l
  ·rename_i h;exact .inr ((jy s).resolve_left h)
def Sy(a b c:ByteArray):tq a b c=0\/tq a b c=6:=by
 unfold tq;split<;>exact Gz _
def eqU{t v:U}(e:decide (t=v)=r):ik [0,0,0,0,0,0] [.string t.1.1.1,.string t.1.1.2,.string t.1.2,.string t.2.1.1,.string t.2.1.2,.string t.2.2] [.string v.1.1.1,.string v.1.1.2,.string v.1.2,.string v.2.1.1,.string v.2.1.2,.string v.2.2]=some r:=by
 subst e;simp only[ik,eqC];have h:=@zkl t v;by_cases hh:t=v
 ·subst hh;simp
 ·rw[ng hh];have h':=fun x=>hh (h.1 x);by_cases a1:t.1.1.1=v.1.1.1
  ·by_cases a2:t.1.1.2=v.1.1.2
   ·by_cases a3:t.1.2=v.1.2
    ·by_cases a4:t.2.1.1=v.2.1.1
     ·by_cases a5:t.2.1.2=v.2.1.2
      ·by_cases a6:t.2.2=v.2.2
       ·exact ni ⟨a1,a2,a3,a4,a5,a6⟩ h'
       ·simp [a6]
      ·simp [a5]
     ·simp [a4]
    ·simp [a3]
   ·simp [a2]
  ·simp [a1]
def zb9{l:List α}{g:α}(h:l[k]?=some g):l.take (k+1)=l.take k++[g]:=by rw[zls,h];rfl
def eo{l:List α}{g:α}(h:l[k]?=some g):l.drop k=g::l.drop (k+1):=by
 obtain⟨hl,he⟩:=zmf.1 h;rw[zl4 hl,he]
def Yd{s:Nat}{r:List U}{t:U}(h:κ s=some (.own (SlR tyU 6 (r.length+1) (r.flatMap ucs++[.string t.1.1.1,.string t.1.1.2,.string t.1.2,.string t.2.1.1,.string t.2.1.2,.string t.2.2])))):κ s=some (.own (SlR tyU 6 (r++[t]).length ((r++[t]).flatMap ucs))):=by
 rw[h,zlz,nr];rfl
def _root_.Zbg(t:Wr Y->A:=by intro h;refine zi (id:=18) ?_;exact h.1)(h:Y):A:=t ⟨h⟩
def _root_.Zbn(t:Wr Y->A:=by intro h;refine zi (id:=17) ?_;exact h.1)(h:Y):A:=t ⟨h⟩
def _root_.ZbO(t:Wr Y->A:=by exact fun h=>(Zah∘Zb) h.1)(h:Y):A:=t ⟨h⟩
def zd8(a:ByteArray):pgA a=if (rp1 a).2.2.2.1=false then (pq,pq,pq,5) else if (rp1 a).2.2.2.2=0 then ((rp1 a).1,(rp1 a).2.1,(rp1 a).2.2.1,0) else (pq,pq,pq,(rp1 a).2.2.2.2):=by
 unfold pgA rp1;rcases wz a with _ | ⟨x,y,z,d⟩
 ·rfl
 ·cases d
  ·rfl
  ·simp only[if_true]
def zgy(a:ByteArray):psA a=if (rp1 a).2.2.2.2=0 then ((rp1 a).1,(rp1 a).2.1,(rp1 a).2.2.1,0) else (pq,pq,pq,(rp1 a).2.2.2.2):=by
 unfold psA rp1;rcases wz a with _ | ⟨x,y,z,d⟩
 ·rfl
 ·dsimp only;cases d
  ·simp
  ·simp only[if_true,gl];rcases jy x with h1 | h1<;>rcases jy y with h2 | h2<;>rcases jy z with h3 | h3<;>simp [h1,h2,h3]
def zjw{l a b:List UInt8}{c:UInt8}(e:l=a++c::b)(ha:c∉a)(hb:c∉b)(hk:l[k]?=some c):k=a.length:=by
 subst e;rcases znb k a.length with h | h | h
 ·rw[zml h] at hk;exact ni (zlg hk) ha
 ·exact h
 ·rw[zoq I,show k-a.length=(k-a.length-1)+1 by omega,zm1] at hk;exact ni (zlg hk) hb
def cx{r:U×Int}(hr:ptA s=r)(hs:s.size<=1000000)(hB:zpk B w):
  Ret zpl 39 [.string s] w B (fun v _=>v=.tuple #[uv r.1,.int .i64 r.2]):=by
 subst hr;have hlen:=jl s;refine yf Tryz.func39 Z Tryz.ntmps39 (np Z) hB ((Zaj∘Zas∘Zbk∘ZM∘Zbt) ?_)
 refine xo (fun x:Nat×Nat×Nat=>[(0,.is (.string s)),(2,.own (gj [.string ⟨#[]⟩,.string ⟨#[]⟩,.string ⟨#[]⟩,.string ⟨#[]⟩,.string ⟨#[]⟩,.string ⟨#[]⟩] tyU)),(4,.is (.int .i64 x.2.1)),(5,.is (.int .i64 x.2.2)),(6,.is (.int .i64 x.1))])
  (fun x=>x.1<=s.size/\x.2.2=(s.data.toList.take x.1).count 64/\x.2.2<=x.1/\(x.2.2=1->x.2.1<s.size/\s.data.toList[x.2.1]?=some 64)) (fun x=>s.size-x.1) (0,0,0)
  ⟨mf _,by simp,ns _,fun h=>by cases h⟩ ⟨rfl,rfl,rfl,rfl,rfl,nm⟩ ?_
 rintro⟨i,k,n⟩ ⟨hi,hn,hni,hk⟩;dsimp only at hi hn hni hk |-;by_cases hlt:i<s.size
 ·obtain⟨x,hc⟩:=getElem?_lt hlt
  have hd:s.data.toList[i]?=some x:=by
   have:s.data[i]?=some x:=hc;simpa using this
  have htk:s.data.toList.take (i+1)=s.data.toList.take i++[x]:=by rw[zls,hd];rfl
  by_cases hx:x=64
  ·subst hx;refine(Zbm∘Zan∘ZaH∘ZbF∘Zb7∘Zaq) ?_;refine z8 (yh Z Z Z Z Z) Z ((Zr∘ZH∘Zd∘Z3∘ZbR∘ZaB∘Z2∘ZbR) ?_);exact ym (x:=(i,k,n)) (i+1,i,n+1) ⟨hlt,by dsimp only;rw[htk,List.count_append,<-hn];rfl,by dsimp only;omega,fun _=>⟨hlt,hd⟩⟩ M ⟨Z,Z,Z,Z,Z,trivial⟩
  ·have hxc:(x.toNat:Int)≠64:=fun e=>hx (zok.1 (by show x.toNat=64;omega));refine(Zbm∘Zan∘ZaH∘ZbF∘Zb7∘Zaq∘Zs∘Zca∘Z2∘ZbR) ?_;exact ym (x:=(i,k,n)) (i+1,k,n) ⟨hlt,by dsimp only;rw[htk,List.count_append,<-hn,List.count_cons_of_ne hx];rfl,by dsimp only;omega,hk⟩ M ⟨Z,Z,Z,Z,Z,trivial⟩
 ·obtain rfl:i=s.size:=by omega
  rw[zle I] at hn;by_cases h1:n=1
  ·obtain⟨hk1,hk2⟩:=hk h1;rcases rz s 64 with h64 | ⟨a,b,rfl,ha⟩
   ·rw[zmb h64] at hn;omega
   ·have hls:=Ak a b 64;have hsz:=Fx a b 64
    have hb:noB b 64:=fun hm=>by
     have:=List.count_pos_iff.2 hm;rw[hls,zl7,znj] at hn;omega
    obtain rfl:k=a.size:=(zjw hls ha hb hk2).trans (jl a);have hcut:gk (a++⟨#[64]⟩++b) 64=(a,b,true):=dm ha
    have x1:(a++⟨#[64]⟩++b).extract 0 a.size=a:=by
     have:=bg ⟨#[]⟩ a (⟨#[64]⟩++b) 0 a.size rfl (by show _=0+_;omega)
     conv=>rhs;rw[<-this]
     congr 1;apply wn;simp [kg]
    have x2:(a++⟨#[64]⟩++b).extract (a.size+1) (a++⟨#[64]⟩++b).size=b:=by
     have:=bg (a++⟨#[64]⟩) b ⟨#[]⟩ (a.size+1) (a++⟨#[64]⟩++b).size (by rw[m9];rfl) (by rw[m9])
     conv=>rhs;rw[<-this]
     congr 1;apply wn;simp [kg]
    have za:a.size<=1000000:=I;have zb:b.size<=1000000:=I;have hadd:IntKind.i64.wrap ((a.size:Int)+1)=((a.size+1:Nat):Int):=yz I I |>.trans I
    have hpt:ptA (a++⟨#[64]⟩++b)=if (pgA a).2.2.2=0 then (if (psA b).2.2.2=0 then (((((pgA a).1,(pgA a).2.1),(pgA a).2.2.1),(((psA b).1,(psA b).2.1),(psA b).2.2.1)),0) else ((((⟨#[]⟩,⟨#[]⟩),⟨#[]⟩),((⟨#[]⟩,⟨#[]⟩),⟨#[]⟩)),(psA b).2.2.2)) else ((((⟨#[]⟩,⟨#[]⟩),⟨#[]⟩),((⟨#[]⟩,⟨#[]⟩),⟨#[]⟩)),(pgA a).2.2.2):=by
     unfold ptA;rw[hcut];dsimp only;rw[na ⟨rfl,an hb⟩]
    clear hk hk2 hn hcut;generalize a++⟨#[64]⟩++b=s at *;rcases hra:rp1 a with ⟨o1,o2,rel,has,e⟩
    rcases hrb:rp1 b with ⟨p1,p2,rel2,has2,e2⟩
    cases has
    ·have g1:pgA a=(pq,pq,pq,5):=by rw[zd8,hra];rfl
     rw[hpt,g1,nc J];by_cases h5:e=5
     ·skip
      refine(Zbm∘Zan∘Z0∘ZaR∘Ze∘Za4∘ZaE∘ZbO) ?_;refine z8 (k8 L (kl:=.i64) (pl:=0) 0 a.size Z Z Z Z Z ⟨rfl,rfl⟩ I I x1) Z (z81 L Z (fun u H hH _=>w7 hra za hH) ?_);refine(Zy∘Zbj∘ZaT∘Zbl∘ZO∘Za∘ZG∘Zc2∘Zg∘Z6∘ZV∘Za∘Zao∘ZaV∘ZbT∘Za∘Za0) ?_;refine ye1 L [.cell 2 34,.tmp 3] fun u H hH hle=>?_;refine⟨_,qs Z,rfl,?_⟩;rw[h5];rfl
     ·refine(Zbm∘Zan∘Z0∘ZaR∘Ze∘Za4∘ZaE∘ZbO) ?_;refine z8 (k8 L (kl:=.i64) (pl:=0) 0 a.size Z Z Z Z Z ⟨rfl,rfl⟩ I I x1) Z (z81 L Z (fun u H hH _=>w7 hra za hH) ?_);refine(Zy∘Zbj∘ZaT∘Zbl∘ZO∘Za∘Zco∘Zb∘Zt∘Zg∘ZE∘ZT∘Zi∘ZV∘Za∘Zao∘ZaV∘ZbT∘Za∘Za0) ?_;refine ye1 L [.cell 2 34,.tmp 3] fun u H hH hle=>?_;exact⟨_,qs Z,rfl,rfl⟩
    ·by_cases h0:e=0
     ·have g1:pgA a=(o1,o2,rel,0):=by rw[zd8,hra];dsimp only;rw[if_neg J,if_pos h0]
      by_cases h02:e2=0
      ·have g2:psA b=(p1,p2,rel2,0):=by rw[zgy,hrb];dsimp only;rw[if_pos h02]
       rw[hpt,g1,g2,na rfl,na rfl];refine(Zbm∘Zan∘Z0∘ZaR∘Ze∘Za4∘ZaE∘ZbO) ?_;refine z8 (k8 L (kl:=.i64) (pl:=0) 0 a.size Z Z Z Z Z ⟨rfl,rfl⟩ I I x1) Z (z81 L Z (fun u H hH _=>w7 hra za hH) ?_);refine(Zy∘Zbj∘ZaT∘Zbl∘ZO∘Za∘Zco∘Zb∘Zt∘Zg∘Z6∘ZV∘Za∘ZaE∘Zaw∘Zb∘Zv) ?_;refine z8 (k8 L (kh:=.i64) (ph:=0) (a.size+1) _ Z Z Z Z ⟨rfl,rfl⟩ Z I I x2) Z (z81 L Z (fun u H hH _=>w7 hrb zb hH) ?_);refine(Zy∘Zbj∘ZaT∘Zbl∘Zad∘Za∘ZaE∘Zbg∘Zck∘Za∘ZdO∘Zck∘Za∘ZdC∘ZbT∘Za0) ?_;refine ye1 L [.cell 2 34,.tmp 3] fun u H hH hle=>?_;exact⟨_,qs Z,rfl,rfl⟩
      ·have g2:psA b=(pq,pq,pq,e2):=by rw[zgy,hrb];dsimp only;rw[if_neg h02]
       rw[hpt,g1,g2,na rfl,nc h02];refine(Zbm∘Zan∘Z0∘ZaR∘Ze∘Za4∘ZaE∘ZbO) ?_;refine z8 (k8 L (kl:=.i64) (pl:=0) 0 a.size Z Z Z Z Z ⟨rfl,rfl⟩ I I x1) Z (z81 L Z (fun u H hH _=>w7 hra za hH) ?_);refine(Zy∘Zbj∘ZaT∘Zbl∘ZO∘Za∘Zco∘Zb∘Zt∘Zg∘Z6∘ZV∘Za∘ZaE∘Zaw∘Zb∘Zv) ?_;refine z8 (k8 L (kh:=.i64) (ph:=0) (a.size+1) _ Z Z Z Z ⟨rfl,rfl⟩ Z I I x2) Z (z81 L Z (fun u H hH _=>w7 hrb zb hH) ?_);refine(Zy∘Zbj∘ZaT∘Zbl∘Zad∘Za∘Zao∘Zbn∘ZbT∘Za∘Za0) ?_;refine ye1 L [.cell 2 34,.tmp 3] fun u H hH hle=>?_;exact⟨_,qs Z,rfl,rfl⟩
     ·have g1:pgA a=(pq,pq,pq,e):=by rw[zd8,hra];dsimp only;rw[if_neg J,if_neg h0]
      rw[hpt,g1,nc h0];by_cases h5:e=5
      ·refine(Zbm∘Zan∘Z0∘ZaR∘Ze∘Za4∘ZaE∘ZbO) ?_;refine z8 (k8 L (kl:=.i64) (pl:=0) 0 a.size Z Z Z Z Z ⟨rfl,rfl⟩ I I x1) Z (z81 L Z (fun u H hH _=>w7 hra za hH) ?_);refine(Zy∘Zbj∘ZaT∘Zbl∘ZO∘Za∘ZG∘Zc2∘Zg∘Z6∘ZV∘Za∘Zao∘ZaV∘ZbT∘Za∘Za0) ?_;refine ye1 L [.cell 2 34,.tmp 3] fun u H hH hle=>?_;exact⟨_,qs Z,rfl,rfl⟩
      ·refine(Zbm∘Zan∘Z0∘ZaR∘Ze∘Za4∘ZaE∘ZbO) ?_;refine z8 (k8 L (kl:=.i64) (pl:=0) 0 a.size Z Z Z Z Z ⟨rfl,rfl⟩ I I x1) Z (z81 L Z (fun u H hH _=>w7 hra za hH) ?_);refine(Zy∘Zbj∘ZaT∘Zbl∘ZO∘Za∘Zco∘Zb∘Zt∘Zg∘Z6∘ZV∘Za∘Zao∘ZaV∘ZbT∘Za∘Za0) ?_;refine ye1 L [.cell 2 34,.tmp 3] fun u H hH hle=>?_;exact⟨_,qs Z,rfl,rfl⟩
  ·have hpt:ptA s=((((⟨#[]⟩,⟨#[]⟩),⟨#[]⟩),((⟨#[]⟩,⟨#[]⟩),⟨#[]⟩)),5):=by
    unfold ptA;rw[nc];rintro⟨hc1,hc2⟩;rcases rz s 64 with h64 | ⟨a,b,rfl,ha⟩
    ·rw[Gq h64] at hc1;cases hc1
    ·rw[dm ha] at hc2;by_cases hb:noB b 64
     ·apply h1;rw[hn,Ak,zl7,znj,zmb ha,zmb hb]
     ·rw[show Lz b 64=true from Gg hb] at hc2;cases hc2
   rw[hpt];refine(Zbm∘Zan∘Z0∘ZaR∘Ze∘Za4∘Zao∘ZQ∘ZbT∘Za0) ?_;refine ye1 L [.cell 2 34,.tmp 3] fun u H hH hle=>?_;exact⟨_,qs Z,rfl,rfl⟩
def dh(h:chk s=0):noB s 64:=by
 unfold chk at h;split at h
 ·rename_i hc;have:=zlj.1 hc.2.2;exact fun hm=>by have:=this _ hm;revert this;decide
 ·exact ni h J
def Tl{t:U}(h:tE t=0):ptA (tT t)=(t,0):=by
 obtain⟨⟨⟨x,y⟩,z⟩,⟨⟨x2,y2⟩,z2⟩⟩:=t;unfold tE at h;dsimp only at h;split at h
 ·rename_i h1;obtain⟨c1,c2,c3⟩:=Ls h1;obtain⟨d1,d2,d3⟩:=gu h
  have n1:noB (dy x y z) 64:=by
   unfold dy Fv;exact wc (wc (wc (wc (dh c1) (pd J)) (dh c2)) (pd J)) (dh c3)
  have n2:noB (ef x2 y2 z2) 64:=by
   unfold ef;split
   ·unfold Fv;exact wc (wc (dh d1) (pd J)) (dh d2)
   ·rename_i hz;unfold dy Fv;exact wc (wc (wc (wc (dh d1) (pd J)) (dh d2)) (pd J)) (dh (d3.resolve_left hz))
  unfold ptA tT;dsimp only;rw[dm n1];dsimp only;rw[na ⟨rfl,an n2⟩,zea c1 c2 c3,zd2 h];rfl
 ·rename_i h1;exact ni h h1
def ui(h:chk s=0):s.size<=16:=by
 unfold chk at h;split at h
 ·rename_i hc;exact hc.2.1
 ·exact ni h J
def tz_of{t:U}(h:tE t=0):TZ t:=by
 unfold tE at h;split at h
 ·rename_i h1;obtain⟨c1,c2,c3⟩:=Ls h1;obtain⟨d1,d2,d3⟩:=gu h;have a1:=ui c1;have a2:=ui c2;have a3:=ui c3;have b1:=ui d1;have b2:=ui d2
  have b3:t.2.2.size<=16:=by
   rcases d3 with d3 | d3
   ·rw[d3];decide
   ·exact ui d3
  unfold TZ;refine⟨⟨?_,?_,?_⟩,?_,?_,?_⟩<;>omega
 ·rename_i h1;exact ni h h1
end Go.V.L2
namespace Go.V.L3
open Go.V.L2
abbrev FT:=Ma×Ma×Bool
abbrev n3:Ma:=((⟨#[]⟩,⟨#[]⟩),⟨#[]⟩)
end Go.V.L3
namespace Go.V.L2
def Ht(l:List U):List U:=C7 jm [] l
def zg4(x y:List U)(a c b:Bool)(t:U):Bool:=(decide (t∈x) && !decide (t∈y) && a) || (decide (t∈x) && decide (t∈y) && c) || (!decide (t∈x) && decide (t∈y) && b)
def Y4(x y:List U)(a c b:Bool):List U:=Ht ((x++y).filter (zg4 x y a c b))
def Hs(l:List U):(Ht l).length<=l.length:=by
 have:=b9 (c:=jm) l [];rw[my,zlf] at this;exact this
end Go.V.L2
end
namespace Go.V
inductive Tr (K V:Type) where
 | nil
 | node (k:K) (v:V) (l r:Tr K V)
namespace Tr
variable {K V:Type}
def size:Tr K V->Nat
 | nil=>0
 | node _ _ l r=>size l+1+size r
def deep:Tr K V->Nat
 | nil=>0
 | node _ _ l r=>1+max (deep l) (deep r)
def deep_le:∀ t:Tr K V,deep t<=size t
 | nil=>ns _
 | node _ _ l r=>by have:=deep_le l;have:=deep_le r;simp only[deep,size];omega
def bal(k:K)(v:V)(l r:Tr K V):Tr K V:=
 if deep l>deep r+1 then
  match l with
  | nil=>nil
  | node lk lv ll lr=>
   if deep ll>=deep lr then node lk lv ll (node k v lr r)
   else match lr with
    | nil=>nil
    | node mk mv ml mr=>node mk mv (node lk lv ll ml) (node k v mr r)
 else if deep r>deep l+1 then
  match r with
  | nil=>nil
  | node rk rv rl rr=>
   if deep rr>=deep rl then node rk rv (node k v l rl) rr
   else match rl with
    | nil=>nil
    | node mk mv ml mr=>node mk mv (node k v l ml) (node rk rv mr rr)
 else node k v l r
def put(c:K->K->Int)(k:K)(v:V):Tr K V->Tr K V
 | nil=>node k v nil nil
 | node nk nv l r=>if c k nk<0 then bal nk nv (put c k v l) r else if c k nk>0 then bal nk nv l (put c k v r) else node nk v l r
def first:K->V->Tr K V->Tr K V->(K×V)×Tr K V
 | k,v,nil,r=>((k,v),r)
 | k,v,node lk lv ll lr,r=>((first lk lv ll lr).1,bal k v (first lk lv ll lr).2 r)
def drop(c:K->K->Int)(k:K):Tr K V->Tr K V×Bool
 | nil=>(nil,false)
 | node nk nv l r=>if c k nk<0 then (bal nk nv (drop c k l).1 r,(drop c k l).2) else if c k nk>0 then (bal nk nv l (drop c k r).1,(drop c k r).2)
  else match r with
   | nil=>(l,true)
   | node rk rv rl rr=>(bal (first rk rv rl rr).1.1 (first rk rv rl rr).1.2 l (first rk rv rl rr).2,true)
def get(c:K->K->Int)(k:K):Tr K V->Option V
 | nil=>none
 | node nk nv l r=>if c k nk=0 then some nv else if c k nk<0 then get c k l else get c k r
def list:Tr K V->List (K×V)
 | nil=>[]
 | node k v l r=>list l++(k,v)::list r
def prs:Tr K V->Int->Int->Int->List (K×V)
 | nil,_,_,_=>[]
 | node k v l r,a,f,t=>if a+(size (node k v l r):Int)<=f\/a>=t then [] else
   prs l a f t++((if a+(size l:Int)>=f/\a+(size l:Int)<t then [(k,v)] else [])++prs r (a+size l+1) f t)
def get_eq{c:K->K->Int}{k nk:K}{nv:V}{l r:Tr K V}(h:c k nk=0):get c k (node nk nv l r)=some nv:=na h
def get_lt{c:K->K->Int}{k nk:K}{nv:V}{l r:Tr K V}(h:c k nk<0):get c k (node nk nv l r)=get c k l:=(nc I).trans (na h)
def get_gt{c:K->K->Int}{k nk:K}{nv:V}{l r:Tr K V}(h0:¬ c k nk=0)(h:¬ c k nk<0):get c k (node nk nv l r)=get c k r:=(nc h0).trans (nc h)
def size_list:∀ t:Tr K V,(list t).length=size t
 | nil=>rfl
 | node _ _ l r=>by simp only[list,nr,nz,size_list l,size_list r,size];omega
def size_node(k:K)(v:V)(l r:Tr K V):size (node k v l r)=size l+1+size r:=rfl
def deep_node(k:K)(v:V)(l r:Tr K V):deep (node k v l r)=1+max (deep l) (deep r):=rfl
def p9(k:K)(v:V)(l r:Tr K V):list (bal k v l r)=list l++(k,v)::list r:=by
 unfold bal;split
 ·rename_i h
  cases l with
  | nil=>simp [deep] at h
  | node lk lv ll lr=>
   dsimp only;split
   ·simp [list]
   ·rename_i h2
    cases lr with
    | nil=>simp [deep] at h2
    | node mk mv ml mr=>simp [list]
 ·split
  ·rename_i h
   cases r with
   | nil=>simp [deep] at h
   | node rk rv rl rr=>
    dsimp only;split
    ·simp [list]
    ·rename_i h2
     cases rl with
     | nil=>simp [deep] at h2
     | node mk mv ml mr=>simp [list]
  ·simp [list]
def ix(k:K)(v:V)(l r:Tr K V):size (bal k v l r)=size l+1+size r:=by
 rw[<-size_list,p9,nr,nz,size_list,size_list];omega
def se:∀ (k:K) (v:V) (l r:Tr K V),(first k v l r).1::list (first k v l r).2=list l++(k,v)::list r
 | k,v,nil,r=>rfl
 | k,v,node lk lv ll lr,r=>by
  simp only[first,p9,list];rw[<-zll,se lk lv ll lr]
def size_first(k:K)(v:V)(l r:Tr K V):size (first k v l r).2=size l+size r:=by
 have:=nh List.length (se k v l r);simp only[nz,nr,size_list] at this;omega
def size_put(c:K->K->Int)(k:K)(v:V):∀ t:Tr K V,size (put c k v t)<=size t+1
 | nil=>by simp [put,size]
 | node nk nv l r=>by
  have:=size_put c k v l;have:=size_put c k v r;simp only[put];split
  ·rw[ix,size_node];omega
  ·split
   ·rw[ix,size_node];omega
   ·rw[size_node,size_node];omega
def size_drop(c:K->K->Int)(k:K):∀ t:Tr K V,size (drop c k t).1<=size t
 | nil=>ns _
 | node nk nv l r=>by
  have:=size_drop c k l;have:=size_drop c k r;simp only[drop];split
  ·rw[ix,size_node];omega
  ·split
   ·rw[ix,size_node];omega
   ·cases r with
    | nil=>simp only[size];omega
    | node rk rv rl rr=>rw[ix,size_first,size_node,size_node];omega
def prs_length_le:∀ (t:Tr K V) (a f e:Int),(prs t a f e).length<=size t
 | nil,_,_,_=>ns _
 | node k v l r,a,f,e=>by
  have:=prs_length_le l a f e;have:=prs_length_le r (a+size l+1) f e;simp only[prs];split
  ·exact mf _
  ·simp only[nr,size_node];split
   ·simp only[nz,my];omega
   ·simp only[my];omega
def TreeAt(nl:K->V->Value->Value->Int->Int->List Value)(ty:TypeId):Tr K V->Value->Heap->Prop
 | nil,v,_=>v=.pointer none
 | node k x l r,v,H=>∃ b lv rv,v=.pointer (some ⟨b,0,none⟩)/\H b=some (.cells (nl k x lv rv (size (node k x l r)) (deep (node k x l r))).toArray ty)/\TreeAt nl ty l lv H/\TreeAt nl ty r rv H
def TreeAt.mono{nl:K->V->Value->Value->Int->Int->List Value}:∀ {t:Tr K V},Kn.mono (.sat (TreeAt nl ty t))
 | nil,_,_,_,h,_=>h
 | node k x l r,_,_,_,⟨b,lv,rv,h1,h2,h3,h4⟩,hle=>⟨b,lv,rv,h1,hle _ _ h2,TreeAt.mono _ _ _ h3 hle,TreeAt.mono _ _ _ h4 hle⟩
def TreeAt.le{nl:K->V->Value->Value->Int->Int->List Value}{t:Tr K V}{H':Heap}(h:TreeAt nl ty t v H)(hle:H.Le H'):TreeAt nl ty t v H':=TreeAt.mono _ _ _ h hle
end Tr
end Go.V
namespace Go.V
structure zc4{K:Type}(c:K->K->Int):Prop where
 anti:∀ a b,c a b<0↔0<c b a
 trans:∀ {a b d},c a b<0->c b d<0->c a d<0
 eql:∀ {a b} (d),c a b=0->(c a d<0↔c b d<0)
namespace zc4
variable {K:Type} {c:K->K->Int}
def refl(h:zc4 c)(a:K):c a a=0:=by
 have:=h.anti a a;omega
def symm(h:zc4 c){a b:K}(e:c a b=0):c b a=0:=by
 have:=h.anti a b;have:=h.anti b a;omega
end zc4
namespace Tr
variable {K V:Type} (c:K->K->Int)
def Srt(l:List (K×V)):Prop:=l.Pairwise fun x y=>c x.1 y.1<0
def putS(k:K)(v:V):List (K×V)->List (K×V)
 | []=>[(k,v)]
 | y::l=>if c k y.1<0 then (k,v)::y::l else if c k y.1>0 then y::putS k v l else (y.1,v)::l
def dropS(k:K):List (K×V)->List (K×V)
 | []=>[]
 | y::l=>if c k y.1<0 then y::l else if c k y.1>0 then y::dropS k l else l
def getS(k:K):List (K×V)->Option V
 | []=>none
 | y::l=>if c k y.1=0 then some y.2 else getS k l
def cutI(f e:Int):List (K×V)->Int->List (K×V)
 | [],_=>[]
 | y::l,i=>if f<=i/\i<e then y::cutI f e l (i+1) else cutI f e l (i+1)
variable {c} (h:zc4 c)
include h
theorem Bf{k:K}{v:V}:∀ {l1 l2:List (K×V)} {y:K×V},(∀ x∈l1,c x.1 y.1<0)->
  putS c k v (l1++y::l2)=if c k y.1<0 then putS c k v l1++y::l2 else if c k y.1>0 then l1++y::putS c k v l2 else l1++(y.1,v)::l2
 | [],l2,y,_=>by simp only[mh,putS];split<;>simp
 | x::l1,l2,y,hl=>by
  have ih:=Bf (k:=k) (v:=v) (l1:=l1) (l2:=l2) (y:=y) fun z hz=>hl z (mc _ hz);have hx:=hl x (mb ..);simp only[zll,putS];by_cases h1:c k x.1<0
  ·have:c k y.1<0:=h.trans h1 hx;rw[na h1,na this,na h1];rfl
  ·rw[nc h1];by_cases h2:c k x.1>0
   ·rw[na h2,ih,nc h1,na h2];split
    ·rfl
    ·split<;>rfl
   ·have h0:c k x.1=0:=I;have:c k y.1<0:=(h.eql _ h0).2 hx;rw[nc h2,na this,nc h1,nc h2];rfl
theorem tj{k:K}:∀ {l1 l2:List (K×V)} {y:K×V},(∀ x∈l1,c x.1 y.1<0)->
  dropS c k (l1++y::l2)=if c k y.1<0 then dropS c k l1++y::l2 else if c k y.1>0 then l1++y::dropS c k l2 else l1++l2
 | [],l2,y,_=>by simp only[mh,dropS]
 | x::l1,l2,y,hl=>by
  have ih:=tj (k:=k) (l1:=l1) (l2:=l2) (y:=y) fun z hz=>hl z (mc _ hz);have hx:=hl x (mb ..);simp only[zll,dropS];by_cases h1:c k x.1<0
  ·have:c k y.1<0:=h.trans h1 hx;rw[na h1,na this,na h1];rfl
  ·rw[nc h1];by_cases h2:c k x.1>0
   ·rw[na h2,ih,nc h1,na h2];split
    ·rfl
    ·split<;>rfl
   ·have h0:c k x.1=0:=I;have:c k y.1<0:=(h.eql _ h0).2 hx;rw[nc h2,na this,nc h1,nc h2]
omit h in
theorem A5{l1 l2:List (K×V)}{y:K×V}(hs:Srt c (l1++y::l2)):Srt c l1/\Srt c l2/\(∀ x∈l1,c x.1 y.1<0)/\(∀ x∈l2,c y.1 x.1<0):=by
 have h1:=zlt.1 hs;have h2:=mg.1 h1.2.1;exact⟨h1.1,h2.2,fun x hx=>h1.2.2 x hx y (mb ..),h2.1⟩
theorem list_put(k:K)(v:V):∀ {t:Tr K V},Srt c (list t)->list (put c k v t)=putS c k v (list t)
 | nil,_=>rfl
 | node nk nv l r,hs=>by
  obtain⟨hl,hr,hx,_⟩:=A5 (y:=(nk,nv)) hs;simp only[list,put];rw[Bf h hx];split
  ·rw[p9,list_put k v hl]
  ·split
   ·rw[p9,list_put k v hr]
   ·rfl
theorem list_drop(k:K):∀ {t:Tr K V},Srt c (list t)->list (if (drop c k t).2=true then (drop c k t).1 else t)=dropS c k (list t)/\((drop c k t).2=false->(drop c k t).1=t\/list (drop c k t).1=list t)/\((drop c k t).2=true->list (drop c k t).1=dropS c k (list t))/\((drop c k t).2=false->dropS c k (list t)=list t)
 | nil,_=>⟨rfl,fun _=>.inl rfl,fun h=>(by cases h),fun _=>rfl⟩
 | node nk nv l r,hs=>by
  obtain⟨hl,hr,hx,_⟩:=A5 (y:=(nk,nv)) hs;have il:=list_drop k hl;have ir:=list_drop k hr
  have key:((drop c k (node nk nv l r)).2=true->list (drop c k (node nk nv l r)).1=dropS c k (list (node nk nv l r)))/\((drop c k (node nk nv l r)).2=false->dropS c k (list (node nk nv l r))=list (node nk nv l r)/\list (drop c k (node nk nv l r)).1=list (node nk nv l r)):=by
   simp only[list,drop];rw[tj h hx];split
   ·refine⟨fun ht=>?_,fun hf=>?_⟩
    ·dsimp only at ht |-;rw[p9,il.2.2.1 ht]
    ·dsimp only at hf |-;have e:=il.2.2.2 hf;refine⟨by rw[e],?_⟩;rw[p9];rcases il.2.1 hf with e1 | e1<;>rw[e1]
   ·split
    ·refine⟨fun ht=>?_,fun hf=>?_⟩
     ·dsimp only at ht |-;rw[p9,ir.2.2.1 ht]
     ·dsimp only at hf |-;have e:=ir.2.2.2 hf;refine⟨by rw[e],?_⟩;rw[p9];rcases ir.2.1 hf with e1 | e1<;>rw[e1]
    ·cases r with
     | nil=>exact⟨fun _=>by simp [list],fun hf=>by cases hf⟩
     | node rk rv rl rr=>
      refine⟨fun _=>?_,fun hf=>by cases hf⟩;dsimp only;rw[p9];have:=se rk rv rl rr;rw[show((first rk rv rl rr).1.1,(first rk rv rl rr).1.2)=(first rk rv rl rr).1 from rfl,this];rfl
  refine⟨?_,fun hf=>.inr (key.2 hf).2,key.1,fun hf=>(key.2 hf).1⟩;split
  ·rename_i ht;exact key.1 ht
  ·rename_i ht;have hf:(drop c k (node nk nv l r)).2=false:=by simpa using ht
   exact(key.2 hf).1.symm
theorem Ci{k:K}:∀ {l1 l2:List (K×V)} {y:K×V},(∀ x∈l1,c x.1 y.1<0)->(∀ x∈l2,c y.1 x.1<0)->
  getS c k (l1++y::l2)=if c k y.1=0 then some y.2 else if c k y.1<0 then getS c k l1 else getS c k l2
 | [],l2,y,_,h2=>by
  simp only[mh,getS];split
  ·rfl
  ·split
   ·rename_i h1
    have:∀ (l:List (K×V)),(∀ x∈l,c y.1 x.1<0)->getS c k l=none:=by
     intro l
     induction l with
     | nil=>intro _;rfl
     | cons z l ih=>
      intro hz;have:=h.trans h1 (hz z (mb ..));simp only[getS];rw[nc I];exact ih fun x hx=>hz x (mc _ hx)
    exact this l2 h2
   ·rfl
 | x::l1,l2,y,hl,h2=>by
  have ih:=Ci (k:=k) (l1:=l1) (l2:=l2) (y:=y) (fun z hz=>hl z (mc _ hz)) h2;have hx:=hl x (mb ..);simp only[zll,getS];by_cases h0:c k x.1=0
  ·have:c k y.1<0:=(h.eql _ h0).2 hx;rw[na h0,nc I,na this,na h0]
  ·rw[nc h0,ih,nc h0]
theorem get_list(k:K):∀ {t:Tr K V},Srt c (list t)->get c k t=getS c k (list t)
 | nil,_=>rfl
 | node nk nv l r,hs=>by
  obtain⟨hl,hr,hx,hy⟩:=A5 (y:=(nk,nv)) hs;simp only[list,get];rw[Ci h hx hy,get_list k hl,get_list k hr]
omit h
theorem Cn(f e:Int):∀ (l1 l2:List (K×V)) (i:Int),cutI f e (l1++l2) i=cutI f e l1 i++cutI f e l2 (i+l1.length)
 | [],l2,i=>by simp [cutI]
 | y::l1,l2,i=>by
  simp only[zll,cutI,Cn f e l1 l2 (i+1),nz];rw[show i+1+(l1.length:Int)=i+((l1.length+1:Nat):Int) by omega];split<;>rfl
theorem Pk(f e:Int):∀ (l:List (K×V)) (i:Int),i+l.length<=f\/i>=e->cutI f e l i=[]
 | [],_,_=>rfl
 | y::l,i,h=>by
  simp only[nz] at h;simp only[cutI];rw[nc I,Pk f e l (i+1) I]
theorem prs_list:∀ (t:Tr K V) (a f e:Int),prs t a f e=cutI f e (list t) a
 | nil,_,_,_=>rfl
 | node nk nv l r,a,f,e=>by
  simp only[prs];split
  ·rename_i h1;rw[Pk];rw[size_list];exact h1
  ·simp only[list];rw[Cn,prs_list l,prs_list r,size_list];simp only[cutI];split
   ·rename_i h2;rfl
   ·rename_i h2;rfl
def lst:Nat->Nat
 | 0=>0
 | 1=>1
 | n+2=>lst (n+1)+lst n+1
end Tr
end Go.V
namespace Go.V.L6
open Go.V Go.V.L2 Go.V.L3
def Tx{c:α->α->Int}(h:Ord3 c):zc4 c:=by
 refine⟨fun a b=>?_,fun {a b d} h1 h2=>?_,fun {a b} d e=>?_⟩
 ·have:=h.anti a b;omega
 ·exact h.tr h1 h2
 ·rw[h.eq _ _ e]
def L9(a b:U):Int:=jm (a.2,a.1) (b.2,b.1)
def o3:Ord3 L9 where
 refl a:=cmpT_ord.refl _
 eq a b h:=by
  have:=cmpT_ord.eq _ _ h;exact Prod.ext (nh Prod.snd this) (nh Prod.fst this)
 anti a b:=cmpT_ord.anti _ _
 trans a b d:=cmpT_ord.trans _ _ _
set_option linter.unusedSectionVars false
section keys
variable  [DecidableEq α] {c:α->α->Int}
abbrev kS(L:List (α×Unit)):List α:=L.map (·.1)
def zhr{L:List (α×Unit)}:Tr.Srt c L↔Sst c (kS L):=by unfold Tr.Srt Sst kS;rw[List.pairwise_map]
def ze5(h:Ord3 c){k:α}:∀ {L:List (α×Unit)},k∉kS L->kS (Tr.putS c k () L)=An c k (kS L)
 | [],_=>rfl
 | y::L,hk=>by
  simp only[kS,mq,nw,not_or] at hk;simp only[Tr.putS];by_cases h1:c k y.1<0
  ·rw[na h1];simp [kS,An,h1]
  ·have h2:=h.tri h1 hk.1;have h3:=h.anti k y.1;rw[nc h1,na I];have ih:=ze5 h (L:=L) hk.2;simp only[kS,mq,An] at ih |-;rw[nc h1,ih]
def Vl(h:Ord3 c){k:α}:∀ {L:List (α×Unit)},Sst c (kS L)->kS (Tr.dropS c k L)=(kS L).filter fun z=>decide (z≠k)
 | [],_=>rfl
 | y::L,hs=>by
  simp only[kS,mq] at hs;obtain⟨hy,hs'⟩:=mg.1 hs;simp only[Tr.dropS]
  have all:∀ {d:α},(c k d<0\/k=d)->(∀ z∈kS L,c d z<0)->(kS L).filter (fun z=>decide (z≠k))=kS L:=fun {d} hd hz=>znl.2 fun z hm=>by
   have h4:=hz z hm;simp only[decide_eq_true_eq];intro e;subst e;rcases hd with hd | hd
   ·exact h.asym hd h4
   ·subst hd;exact h.irr _ h4
  by_cases h1:c k y.1<0
  ·rw[na h1];simp only[kS,mq,zor];rw[na (by simpa using (h.ne h1).symm)];have:=all (.inl h1) hy;unfold kS at this;rw[this]
  ·rw[nc h1];by_cases h2:c k y.1>0
   ·rw[na h2];have ih:=Vl h (k:=k) (L:=L) hs';simp only[kS,mq,zor] at ih |-;have hne:y.1≠k:=fun e=>by rw[e,h.refl] at h2;omega
    rw[na (by simpa using hne),ih]
   ·rw[nc h2];have e:=h.eq _ _ (show c k y.1=0 by omega);simp only[kS,mq,zor];rw[nc (by simpa using e.symm)];have:=all (.inr e) hy;unfold kS at this;rw[this]
def zhs(h:Ord3 c){k:α}:∀ {L:List (α×Unit)},(k∈kS L->Tr.getS c k L=some ())/\(k∉kS L->Tr.getS c k L=none)
 | []=>⟨fun h=>(by cases h),fun _=>rfl⟩
 | y::L=>by
  have ih:=zhs h (k:=k) (L:=L);simp only[Tr.getS,kS,mq,nw];by_cases e:k=y.1
  ·subst e;rw[na (h.refl _)];exact⟨fun _=>rfl,fun hn=>ni (.inl rfl) hn⟩
  ·have:¬ c k y.1=0:=fun h0=>e (h.eq _ _ h0);rw[nc this];exact⟨fun hm=>ih.1 (hm.resolve_left e),fun hn=>ih.2 fun hm=>hn (.inr hm)⟩
def oj:∀ {l:List α} {x:α},l.Nodup->x∈l->(l.filter fun z=>decide (z≠x)).length+1=l.length
 | [],_,_,h=>by cases h
 | y::l,x,hn,h=>by
  obtain⟨h1,h2⟩:=zm9.1 hn;rw[zor];by_cases e:y=x
  ·subst e;rw[nc (by simp)]
   have:(l.filter fun z=>decide (z≠y))=l:=znl.2 fun z hz=>by
    simp only[decide_eq_true_eq];exact fun e=>h1 (e ▸ hz)
   rw[this,nz]
  ·rw[na (by simpa using e),nz,nz,oj h2 (by
    rcases nw.1 h with h | h
    ·exact ni h.symm e
    ·exact h)]
def Ru{l:List α}{x:α}(h:x∉l):(l.filter fun z=>decide (z≠x))=l:=znl.2 fun z hz=>by
 simp only[decide_eq_true_eq];exact fun e=>h (e ▸ hz)
def Pl{V:Type}(f e:Nat):∀ (l:List (α×V)) (i:Nat),Tr.cutI (f:Int) (e:Int) l (i:Int)=(l.take (e-i)).drop (f-i)
 | [],i=>by simp [Tr.cutI]
 | y::l,i=>by
  have ih:=Pl f e l (i+1);simp only[Tr.cutI];rw[show((i:Int)+1)=((i+1:Nat):Int) by omega,ih];by_cases h:f<=i/\i<e
  ·rw[na I,show e-i=(e-(i+1))+1 by omega,show f-i=0 by omega,show f-(i+1)=0 by omega];rfl
  ·rw[nc I];by_cases h2:i<e
   ·rw[show e-i=(e-(i+1))+1 by omega,show f-i=(f-(i+1))+1 by omega];rfl
   ·rw[show e-i=0 by omega,show e-(i+1)=0 by omega];simp
end keys
structure TS(l:List U)(t u:Tr U Unit):Prop where
 kt:kS t.list=l
 st:Sst jm l
 su:Sst L9 (kS u.list)
 mu:∀ z,z∈kS u.list↔z∈l
 zu:u.size=l.length
def Cp:zc4 jm:=Tx cmpT_ord
def Lk:zc4 L9:=Tx o3
def zgp:TS [] .nil .nil:=⟨rfl,Sst.nil,Sst.nil,fun _=>Iff.rfl,rfl⟩
section ts
variable  {t u:Tr U Unit}
def TS.size(h:TS l t u):t.size=l.length:=by rw[<-Tr.size_list,<-h.kt];simp
def TS.srt(h:TS l t u):Tr.Srt jm t.list:=zhr.2 (h.kt ▸ h.st)
def TS.srtu(h:TS l t u):Tr.Srt L9 u.list:=zhr.2 h.su
def TS.put(h:TS l t u){x:U}(hx:x∉l):TS (An jm x l) (Tr.put jm x () t) (Tr.put L9 x () u):=by
 have hxt:x∉kS t.list:=by rw[h.kt];exact hx
 have hxu:x∉kS u.list:=fun hm=>hx ((h.mu x).1 hm)
 have e1:kS (Tr.put jm x () t).list=An jm x l:=by
  rw[Tr.list_put Cp x () h.srt,ze5 cmpT_ord hxt,h.kt]
 have e2:kS (Tr.put L9 x () u).list=An L9 x (kS u.list):=by
  rw[Tr.list_put Lk x () h.srtu,ze5 o3 hxu]
 refine⟨e1,da cmpT_ord h.st hx,?_,fun z=>?_,?_⟩
 ·rw[e2];exact da o3 h.su hxu
 ·rw[e2,ge,ge,h.mu]
 ·have:=nh List.length e2;simp only[kS,mn,vo,Tr.size_list] at this;rw[this,vo,h.zu]
def TS.drop(h:TS l t u){x:U}(hx:x∈l):TS (l.filter fun z=>decide (z≠x)) (if (Tr.drop jm x t).2=true then (Tr.drop jm x t).1 else t) (if (Tr.drop L9 x u).2=true then (Tr.drop L9 x u).1 else u):=by
 have e1:kS (if (Tr.drop jm x t).2=true then (Tr.drop jm x t).1 else t).list=l.filter fun z=>decide (z≠x):=by
  rw[(Tr.list_drop Cp x h.srt).1,Vl cmpT_ord (by rw[h.kt];exact h.st),h.kt]
 have e2:kS (if (Tr.drop L9 x u).2=true then (Tr.drop L9 x u).1 else u).list=(kS u.list).filter fun z=>decide (z≠x):=by
  rw[(Tr.list_drop Lk x h.srtu).1,Vl o3 h.su]
 refine⟨e1,h.st.sublist zm7,?_,fun z=>?_,?_⟩
 ·rw[e2];exact h.su.sublist zm7
 ·rw[e2,zl3,zl3,h.mu]
 ·have h1:=nh List.length e2;have h2:=oj (h.su.nodup o3) ((h.mu x).2 hx);have h3:=oj (h.st.nodup cmpT_ord) hx;have h4:=h.zu;simp only[kS,mn,Tr.size_list] at h1 h2;omega
def TS.get(h:TS l t u)(x:U):Tr.get jm x t=if x∈l then some () else none:=by
 have hk:=zhs cmpT_ord (k:=x) (L:=t.list);rw[h.kt] at hk;rw[Tr.get_list Cp x h.srt];by_cases hx:x∈l
 ·rw[na hx];exact hk.1 hx
 ·rw[nc hx];exact hk.2 hx
end ts
def zjp(l:List U)(g:Ma):List U:=l.filter fun z=>decide (z.1=g)
def zi8(l:List U)(s:Ma):List U:=l.filter fun z=>decide (z.2=s)
def wa(l:List U)(x:U)(d:Bool):List U×Int:=
 if tE x=0 then (if d=true then (l.filter fun z=>decide (z≠x),0) else if x∈l then (l,0) else if l.length>=4096 then ([],3) else (An jm x l,0)) else ([],tE x)
def Sg(hs:Sst jm l)(x:U)(d:Bool):Sst jm (wa l x d).1:=by
 unfold wa;split
 ·split
  ·exact hs.sublist zm7
  ·split
   ·exact hs
   ·split
    ·exact Sst.nil
    ·rename_i h _;exact da cmpT_ord hs h
 ·exact Sst.nil
def As(hl:l.length<=4096)(x:U)(d:Bool):(wa l x d).1.length<=4096:=by
 unfold wa;split
 ·split
  ·exact zld (zos _ _) hl
  ·split
   ·exact hl
   ·split
    ·exact mf _
    ·rw[vo];omega
 ·exact mf _
def ofU:List U->List U->List U×Int
 | l,[]=>(l,0)
 | l,x::r=>if (wa l x false).2=0 then ofU (wa l x false).1 r else ([],(wa l x false).2)
end Go.V.L6
namespace Go.V.L8
open Go.V.L2 Go.V.L3 Go.V.L6
abbrev CH:=U×Bool
def cE(n:Nat)(l:List CH):Int:=if n<l.length then 3 else if (l.any fun c=>!decide (tE c.1=0))=true then 6 else 0
def t8(s:List U)(m:CH):Bool:=decide (m.1∈s) != m.2
def ud(s:List U):List CH->Nat->Nat×Int
 | [],i=>(i,0)
 | m::r,i=>if t8 s m=true then ud s r (i+1) else (i,13)
def ov(s:List U)(l:List CH):Nat×Int:=if cE 32 l=0 then ud s l 0 else (0,cE 32 l)
def ed(s:List U):∀ (l:List CH) (i:Nat),ud s l i=((ud s l 0).1+i,(ud s l 0).2)
 | [],i=>by simp [ud]
 | m::r,i=>by
  by_cases h:t8 s m=true
  ·have e1:ud s (m::r) i=ud s r (i+1):=by rw[ud,na h]
   have e2:ud s (m::r) 0=ud s r (0+1):=by rw[ud,na h]
   rw[e1,e2,ed s r (i+1),ed s r (0+1)];exact Prod.ext (by show(ud s r 0).1+(i+1)=(ud s r 0).1+(0+1)+i;omega) Z
  ·rw[ud,ud,nc h,nc h];simp
def Rs{s:List U}{l:List CH}{m:CH}(h:∀ (j:Nat) x,j<i->l[j]?=some x->t8 s x=true)(hm:l[i]?=some m)(hh:t8 s m=false):ud s l 0=(i,13):=by
 induction l generalizing i with
 | nil=>simp at hm
 | cons y r ih=>
  cases i with
  | zero=>
   simp at hm;subst hm;unfold ud;rw[nc (by rw[hh];decide)]
  | succ i=>
   have hy:=h 0 y (Nat.succ_pos _) rfl;unfold ud;rw[na hy,ed,ih (i:=i) (fun j x hj hx=>h (j+1) x I hx) (by simpa using hm)]
def Rt{s:List U}{l:List CH}(h:∀ x∈l,t8 s x=true):ud s l 0=(l.length,0):=by
 induction l with
 | nil=>rfl
 | cons y r ih=>
  unfold ud;rw[na (h y (by simp)),ed,ih (fun x hx=>h x (by simp [hx]))];rfl
def G7:List U->List CH->List CH->List U×List CH×Int
 | s,made,[]=>(s,made,0)
 | s,made,c::r=>if (wa s c.1 c.2).2=0 then G7 (wa s c.1 c.2).1 (if decide (c.1∈s)=c.2 then made++[c] else made) r else ([],[],(wa s c.1 c.2).2)
def zb5(s:List U)(l cs:List CH):List U×List CH×Int:=
 if cE 32 l=0 then (if cE 32 cs=0 then (if (ov s l).2=0 then G7 s [] cs else ([],[],(ov s l).2)) else ([],[],cE 32 cs)) else ([],[],cE 32 l)
end Go.V.L8
namespace Go.V
def fzI(P:Program)(t' st:TypeId)(off i:Nat):Bool:=
 match P.underlying st with
 | some (.struct fs)=>match fs[i]? with
  | some f=>(match P.info? f.type with | some j=>j.size == 0 | none=>false) && (!(P.cellsOf t' == 0) && ((byteOfCell P P.depth t' (off%P.cellsOf t')).isSome && (byteOfCell P P.depth t' ((off+f.offset)%P.cellsOf t')).isSome))
  | none=>false
 | _=>false
def PtrS:Value->Heap->Prop:=fun v _=>∃ a,v=.pointer (some a)
def PtrS.mono:Kn.mono (.sat PtrS):=fun _ _ _ h _=>h
section
def Dp{cs:Array Value}{e:TypeId}(h:u.heap[b]?=some (.cells cs e fr))(hs:P.cellsOf e≠0)(hb:byteOfCell P P.depth e (off%P.cellsOf e)=some k):
  (byteOf ⟨b,off,none⟩).run P u=.ok (off/P.cellsOf e*P.bytesOf e+k) u:=by
 have hsh:u.shape? b=some (e,cs.size):=by unfold World.shape?;rw[h]
 simp only[byteOf,nu,run_program,ny,noView,viewAt,shape,Sem.run,hsh,Option.isSome_some,if_true,me,Option.isSome_none,zmp,if_false,Option.isSome];simp [hs,hb,hsh]
def Do{st:TypeId}{cs:Array Value}(hz:fzI P t' st off i=true)(hb:u.heap[b]?=some (.cells cs t' fr)):
  ∃ a,(Instr.fieldAt st (.pointer (some ⟨b,off,none⟩)) i).run P u=.ok (.pointer (some a)) u:=by
 unfold fzI at hz;split at hz
 ·rename_i fs hu;split at hz
  ·rename_i f hf;split at hz
   ·rename_i j hj;simp only[zlw,beq_iff_eq,Bool.not_eq_true',beq_eq_false_iff_ne,ne_eq,zmq] at hz;obtain⟨hj0,hc,⟨k1,h1⟩,k2,h2⟩:=hz;have r1:=Dp (P:=P) hb hc h1;have r2:=Dp (P:=P) hb hc h2;have hsz:(sizeOf f.type).run P u=.ok 0 u:=by simp [sizeOf,typeInfo,hj,hj0]
    have hun:=run_underlying (P:=P) (w:=u) hu
    have hfp:∃ a,(fieldPlace ⟨b,off,none⟩ f).run P u=.ok a u:=by
     simp only[fieldPlace,nu,hsz,ny,if_true,partAt,r1,r2,me];exact⟨_,rfl⟩
    obtain⟨a,ha⟩:=hfp;refine⟨a,?_⟩;simp only[Instr.fieldAt,nu,hun,ny,hf,Instr.sureAddr,me,ha]
   ·simp at hz
  ·cases hz
 ·cases hz
def zbk(hp:PL P t places z)(hc:o5 places z vs=some cs):P.built t vs=some cs.toArray:=by
 obtain⟨zv,hz1,hz2⟩:=hp.zr;have hpl:=hp.pl;unfold plI at hpl;unfold zrI at hz1;split at hz1
 ·rename_i it hit;unfold Program.built;split at hpl
  ·rename_i fs hu;simp only[hit,hu,hz1,hpl];rw[wi,hz2];exact um (fun i p h=>by simpa using h) vs z cs hc
  ·rename_i m el hu;split at hpl
   ·rename_i ie hie;simp only[hit,hu,hz1,hie];cases hpl;rw[wi,hz2]
    exact um (fun i p h=>by
     rw[zlx] at h
     cases hr:(List.range m)[i]? with
     | none=>rw[hr] at h;cases h
     | some j=>
      rw[hr] at h
      have:j=i:=by
       have:=zmf.1 hr;obtain⟨h1,h2⟩:=this;simpa using h2.symm
      subst this;simpa using h) vs z cs hc
   ·cases hpl
  ·cases hpl
 ·cases hz1
def Q7{t:Nat}{st:TypeId}(hx:κ t=some (.sat (At cs t' off)))(hn:Nat.blt d n=true)(hg:gK ops κ ⟨some d,.fieldAddr st (.tmp t) i,ty,pos,aft,g⟩=some true)
  (hz:fzI P t' st off i=true):StepOK P F B n ops O κ ⟨some d,.fieldAddr st (.tmp t) i,ty,pos,aft,g⟩ d (.sat PtrS):=
 ke rfl (zo hn) hg PtrS.mono fun a u H fp e=>by
  obtain⟨b,hv,hb⟩:=e.sat_ t _ (by simp [Op.operands]) hx;obtain⟨ad,hr⟩:=Do hz (e.sub _ _ hb);refine⟨_,?_,ad,rfl⟩;simp only[execOp,hv,nu,hr,ny];rfl
def Q5{st:TypeId}{cs:Array Value}(hb:B b=some (.cells cs t' fr))(hx:evK κ x=some (.pointer (some ⟨b,off,none⟩)))(hn:Nat.blt d n=true)(hg:gK ops κ ⟨some d,.fieldAddr st x i,ty,pos,aft,g⟩=some true)
  (hz:fzI P t' st off i=true):StepOK P F B n ops O κ ⟨some d,.fieldAddr st x i,ty,pos,aft,g⟩ d (.sat PtrS):=
 ke rfl (zo hn) hg PtrS.mono fun a u H fp e=>by
  have hv:=e.is_ x _ (by simp [Op.operands]) hx;obtain⟨ad,hr⟩:=Do hz (e.sub _ _ (e.base _ _ hb));refine⟨_,?_,ad,rfl⟩;simp only[execOp,hv,nu,hr,ny];rfl
def Om(L:Tabs P)(hx:κ q=some (.sat PtrS))(hn:Nat.blt d n=true)(hg:gK ops κ ⟨some d,.load t (.tmp q),ty,pos,aft,g⟩=some true)(ht:L.ld t=some (true,0)):
  StepOK P F B n ops O κ ⟨some d,.load t (.tmp q),ty,pos,aft,g⟩ d (.is (.agg #[])):=
 ke rfl (zo hn) hg trivial fun a u H fp e=>by
  obtain⟨ad,hv⟩:=e.sat_ q _ (by simp [Op.operands]) hx;refine⟨.agg #[],?_,rfl⟩;simp only[execOp,hv,Instr.loadAt,Instr.sureAddr,nu,me,ny];rw[vm (Tabs.ld_spec ht) u ad [] rfl (fun j v hj=>by simp at hj)];rfl
def Km(hn:Nat.blt d n=true)(hg:gK ops κ ⟨some d,.build t parts,ty,pos,aft,g⟩=some true)
  (hp:PL P t places z) (hm:Kn.mono (.sat ψ)) (h:∀ H,B.Le H->Args κ H (parts.toList.map (·.2)) [] (fun vs=>∃ cs,o5 places z ((parts.toList.map (·.1)).zip vs)=some cs/\ψ (.agg cs.toArray) H)):
  StepOK P F B n ops O κ ⟨some d,.build t parts,ty,pos,aft,g⟩ d (.sat ψ):=by
 rintro κ' a u hl ⟨H,fp,hh⟩;unfold After;rw[na (xh hh hl hg)];have e:=hh.env (o:=⟨some d,.build t parts,ty,pos,aft,g⟩) hl
 have hc:=Args.use e (parts.toList.map (·.2)) [] (fun x hx=>by
  simp only[Op.operands];obtain⟨q,hq,rfl⟩:=zlb.1 hx;simp;exact⟨q.1,by simpa using hq⟩) (h H e.base)
 obtain⟨cs,hb,hψ⟩:=hc;simp only[zma,mh,zm6] at hb
 have hz:(parts.toList.map (·.1)).zip (parts.toList.map (a.eval∘(·.2)))=parts.toList.map fun p=>(p.1,a.eval p.2):=by
  generalize parts.toList=l
  induction l with
  | nil=>rfl
  | cons x l ih=>simp only[mq,List.zip_cons_cons,ih];rfl
 rw[hz] at hb;have hbt:=zbk hp hb;have hr:=run_build (P:=P) u t (parts.toList.map fun p=>(p.1,a.eval p.2)).toArray cs.toArray (by simpa using hbt)
 have harr:(parts.map fun(p:Nat×Operand)=>(p.1,a.eval p.2))=(parts.toList.map fun p=>(p.1,a.eval p.2)).toArray:=by
  rw[<-zlp,zm4]
 have hrun:(execOp a.eval ⟨some d,.build t parts,ty,pos,aft,g⟩).run P u=.ok (.value (.agg cs.toArray)) u:=by
  simp only[execOp,nu];show Result.andThen ((Instr.build t (parts.map fun(p:Nat×Operand)=>(p.1,a.eval p.2))).run P u) _=_;rw[harr,hr];rfl
 rw[hrun];simp only[Upon];exact⟨H,fp,hh.put (zo hn) hm hψ⟩
end
end Go.V
namespace Go.V.UT
def _root_.Zch(t:Wr Y->A:=by intro h;refine zh (zw Z (zo Z) Z) Z ?_;exact h.1)(h:Y):A:=t ⟨h⟩
def _root_.Zw(t:Wr Y->A:=by intro h;refine zh (qf L (qk Z E) Z Z Z Z) Z ?_;exact h.1)(h:Y):A:=t ⟨h⟩
def _root_.ZaJ(t:Wr Y->A:=by intro h;refine zh (zz L (vs:=[_,_,_,_,_,_]) (qk Z E) Z Z Z Z ⟨_,rfl⟩) Z ?_;exact h.1)(h:Y):A:=t ⟨h⟩
def _root_.ZbU(t:Wr Y->A:=by intro h;refine zh (qm Z Z Z Z) Z ?_;exact h.1)(h:Y):A:=t ⟨h⟩
def _root_.ZbA(t:Wr Y->A:=by intro h;refine zh (zz L (vs:=[_,_,_,_,_,_]) (ya Z) Z Z Z Z ⟨_,rfl⟩) Z ?_;exact h.1)(h:Y):A:=t ⟨h⟩
def _root_.ZaO(t:Wr Y->A:=by intro h;refine z8 (qf L (qk Z E) Z Z Z Z) Z ?_;exact h.1)(h:Y):A:=t ⟨h⟩
def _root_.Zc8(t:Wr Y->A:=by intro h;refine zh (qv Z Z Z Z (nf I)) Z ?_;exact h.1)(h:Y):A:=t ⟨h⟩
def _root_.Zcx(t:Wr Y->A:=by intro h;refine z8 (v0 Z Z Z Z zji Z) Z ?_;exact h.1)(h:Y):A:=t ⟨h⟩
def _root_.Zcy(t:Wr Y->A:=by intro h;refine qh (id:=3) [] x8 T ?_;exact h.1)(h:Y):A:=t ⟨h⟩
def _root_.ZcV(t:Wr Y->A:=by intro h;refine zh (yn Z Z Z Z (nf I)) Z ?_;exact h.1)(h:Y):A:=t ⟨h⟩
def _root_.Zdg(t:Wr Y->A:=by intro h;refine zh (yn Z Z Z Z (ng I)) Z ?_;exact h.1)(h:Y):A:=t ⟨h⟩
def _root_.Zcr(t:Wr Y->A:=by intro h;refine zh (yk Z Z Z) Z ?_;exact h.1)(h:Y):A:=t ⟨h⟩
def _root_.Zdp(t:Wr Y->A:=by intro h;refine zh (qv Z Z Z Z (ng I)) Z ?_;exact h.1)(h:Y):A:=t ⟨h⟩
def _root_.Zd0(t:Wr Y->A:=by intro h;refine qh (id:=2) [] x8 T ?_;exact h.1)(h:Y):A:=t ⟨h⟩
def _root_.Zd1(t:Wr Y->A:=by intro h;refine qh (id:=6) [] x8 T ?_;exact h.1)(h:Y):A:=t ⟨h⟩
def _root_.Zb3(t:Wr Y->A:=by exact fun h=>(Zch∘Zch) h.1)(h:Y):A:=t ⟨h⟩
def _root_.Zbo(t:Wr Y->A:=by exact fun h=>(Zn∘Zj) h.1)(h:Y):A:=t ⟨h⟩
def _root_.Zeg(t:Wr Y->A:=by exact fun h=>(Zb3∘Zb3) h.1)(h:Y):A:=t ⟨h⟩
def _root_.ZaF(t:Wr Y->A:=by exact fun h=>(Zp∘Zc7) h.1)(h:Y):A:=t ⟨h⟩
def _root_.ZdT(t:Wr Y->A:=by exact fun h=>(Zj∘Zeg) h.1)(h:Y):A:=t ⟨h⟩
def _root_.Zb4(t:Wr Y->A:=by exact fun h=>(ZaG∘Zw) h.1)(h:Y):A:=t ⟨h⟩
def _root_.ZbV(t:Wr Y->A:=by exact fun h=>(ZdT∘Zeg) h.1)(h:Y):A:=t ⟨h⟩
abbrev KT:=((ByteArray×ByteArray)×ByteArray)×((ByteArray×ByteArray)×ByteArray)
abbrev VT:=Unit
abbrev kv(k:KT):Value:=.agg #[.string k.1.1.1,.string k.1.1.2,.string k.1.2,.string k.2.1.1,.string k.2.1.2,.string k.2.2]
abbrev vv(x:VT):Value:=.agg #[]
abbrev pl(k:KT)(x:VT):List Value:=[.string k.1.1.1,.string k.1.1.2,.string k.1.2,.string k.2.1.1,.string k.2.1.2,.string k.2.2]
abbrev nl(k:KT)(x:VT)(l r:Value)(s d:Int):List Value:=[.string k.1.1.1,.string k.1.1.2,.string k.1.2,.string k.2.1.1,.string k.2.1.2,.string k.2.2]++[l,r,.int .i64 s,.int .i64 d]
abbrev TA(t:Tr KT VT):Value->Heap->Prop:=Tr.TreeAt nl 352 t
def TA.mono{t:Tr KT VT}:Kn.mono (.sat (TA t)):=Tr.TreeAt.mono
def TA.le{t:Tr KT VT}{v:Value}{H H':Heap}(h:TA t v H)(hle:H.Le H'):TA t v H':=Tr.TreeAt.le h hle
def TA.ptr{t:Tr KT VT}(h:TA t v H):∃ p,v=.pointer p:=by
 cases t with
 | nil=>exact⟨_,h⟩
 | node k x l r=>obtain⟨b,lv,rv,h,_⟩:=h;exact⟨_,h⟩
attribute [local irreducible] V N X VO Par StepOK Has Ret RetL Src
def size_ret(t:Tr KT VT){v:Value}(hB:zpk B w)(hv:TA t v B):Ret zpl 171 [v] w B (fun v _=>v=.int .i64 t.size):=by
 cases t with
 | nil=>
  obtain rfl:v=.pointer none:=hv;refine yf Tryz.func171 Z Tryz.ntmps171 (np Z) hB ((ZbG∘Zcx∘ZbH∘Zd) ?_);exact ye2 L [.tmp 2]
 | node k x l r=>
  obtain⟨b,lv,rv,rfl,hb,_,_⟩:=hv;refine yf Tryz.func171 Z Tryz.ntmps171 (np Z) hB ((ZbG∘Zcx∘Zl∘Zu∘ZI∘ZaO∘Zd) ?_);exact ye2 L [.tmp 2]
def deep_ret(t:Tr KT VT){v:Value}(hB:zpk B w)(hv:TA t v B):Ret zpl 313 [v] w B (fun v _=>v=.int .i64 t.deep):=by
 cases t with
 | nil=>
  obtain rfl:v=.pointer none:=hv;refine yf Tryz.func313 Z Tryz.ntmps313 (np Z) hB ((ZbG∘Zcx∘ZbH∘Zd) ?_);exact ye2 L [.tmp 2]
 | node k x l r=>
  obtain⟨b,lv,rv,rfl,hb,_,_⟩:=hv;refine yf Tryz.func313 Z Tryz.ntmps313 (np Z) hB ((ZbG∘Zcx∘Zl∘Zu∘ZI∘ZaO∘Zd) ?_);exact ye2 L [.tmp 2]
def zev(a b:Nat):(if ((b:Nat):Int)>(a:Int) then ((b:Nat):Int) else (a:Int))=((max a b:Nat):Int):=by
 split<;>omega
def join_ret(k:KT)(x:VT)(l r:Tr KT VT){lv rv:Value}(hB:zpk B w)(hl:TA l lv B)(hr:TA r rv B)(hs:l.size+r.size<1099511627776):
  Ret zpl 290 [.agg (pl k x).toArray,lv,rv] w B (TA (.node k x l r)):=by
 obtain⟨pl',rfl⟩:=hl.ptr;obtain⟨pr,rfl⟩:=hr.ptr;have hdl:=l.deep_le;have hdr:=r.deep_le;refine yf Tryz.func290 Z Tryz.ntmps290 (np Z) hB ((ZA∘Zc∘Zcu∘ZbA∘Zbo) ?_);refine zh1 L Z (fun u H hH hle=>UT.size_ret _ hH (UT.TA.le E hle)) ?_;refine(ZcQ∘Zj) ?_;refine zh1 L Z (fun u H hH hle=>UT.size_ret _ hH (UT.TA.le E hle)) ?_;refine(ZcQ∘Zj) ?_;refine zh1 L Z (fun u H hH hle=>UT.deep_ret _ hH (UT.TA.le E hle)) ?_;refine Zj (h:=?_);refine zh1 L Z (fun u H hH hle=>UT.deep_ret _ hH (UT.TA.le E hle)) ?_;refine zh (Dr Z Z Z Z Z) Z (ZcQ (h:=?_));refine zh (yl (cs:=[_,_,_,_,_,_,_,_,_,_]) Z Z zjc Z Z) Z (zh (yp Z Z Z Z) Z ((Zcr∘Zbz) ?_));refine ye1 L [.tmp 6] fun u H hH hle=>?_;rintro _ ⟨b,rfl,hb⟩;refine⟨b,_,_,rfl,?_,TA.le hl hle,TA.le hr hle⟩;rw[zev] at hb;simpa [Tr.size_node,Tr.deep_node] using hb
def bal_ret(k:KT)(x:VT)(l r:Tr KT VT){lv rv:Value}(hB:zpk B w)(hl:TA l lv B)(hr:TA r rv B)(hs:l.size+r.size<1099511627776):
  Ret zpl 288 [.agg (pl k x).toArray,lv,rv] w B (TA (Tr.bal k x l r)):=by
 have hdl:=l.deep_le;have hdr:=r.deep_le;refine yf Tryz.func288 Z Tryz.ntmps288 (np Z) hB ?_;unfold Tr.bal;by_cases h1:l.deep>r.deep+1
 ·rw[na h1]
  cases l with
  | nil=>simp [Tr.deep] at h1
  | node lk lx ll lr=>
   have hl0:=hl;obtain⟨b1,v1,v2,rfl,hb1,hll,hlr⟩:=hl;have hd1:=ll.deep_le;have hd2:=lr.deep_le;simp only[Tr.size_node] at hs hdl;dsimp only;by_cases h2:ll.deep>=lr.deep
   ·rw[na h2];refine(ZA∘ZaC) ?_;refine z81 L Z (fun u H hH hle=>UT.deep_ret _ hH (UT.TA.le E hle)) ?_;refine Za (h:=?_);refine z81 L Z (fun u H hH hle=>UT.deep_ret _ hH (UT.TA.le E hle)) ?_;refine(Zcw∘Zd∘ZF∘Zd0∘Zj∘ZcV∘Zn∘ZbM∘Zw) ?_;refine zh1 L Z (fun u H hH hle=>UT.deep_ret _ hH (UT.TA.le E hle)) ?_;refine Zb4 (h:=?_);refine zh1 L Z (fun u H hH hle=>UT.deep_ret _ hH (UT.TA.le E hle)) ?_;refine(ZdG∘ZbU∘Za3∘ZbE∘Ze∘Zcy∘ZaG∘ZaJ∘Zb4∘ZbA∘Zb4∘Zj) ?_;refine zh (xi L Z Z (zo Z) Z Z Z UT.TA.mono (fun u H hH hle _=>UT.join_ret _ () _ _ hH (UT.TA.le E hle) (UT.TA.le E hle) (by first | omega | (simp only[Tr.size_node];omega)))) Z ?_;refine zh (xi L Z Z (zo Z) Z Z Z UT.TA.mono (fun u H hH hle _ v1 hv1=>UT.join_ret _ () _ _ hH (UT.TA.le E hle) hv1 (by first | omega | (simp only[Tr.size_node];omega)))) Z ?_;refine(Zcr∘Zbz) ?_;refine ye1 L [.tmp 6] fun u H hH hle=>?_;exact fun v hv=>hv
   ·rw[nc h2]
    cases lr with
    | nil=>simp [Tr.deep] at h2
    | node mk mx ml mr=>
     have hlr0:=hlr;obtain⟨b2,v3,v4,rfl,hb2,hml,hmr⟩:=hlr;simp only[Tr.size_node] at hs hdl hd2;refine(ZA∘ZaC) ?_;refine z81 L Z (fun u H hH hle=>UT.deep_ret _ hH (UT.TA.le E hle)) ?_;refine Za (h:=?_);refine z81 L Z (fun u H hH hle=>UT.deep_ret _ hH (UT.TA.le E hle)) ?_;refine(Zcw∘Zd∘ZF∘Zd0∘Zj∘ZcV∘Zn∘ZbM∘Zw) ?_;refine zh1 L Z (fun u H hH hle=>UT.deep_ret _ hH (UT.TA.le E hle)) ?_;refine Zb4 (h:=?_);refine zh1 L Z (fun u H hH hle=>UT.deep_ret _ hH (UT.TA.le E hle)) ?_;refine(Zef∘ZbU∘Zaf∘ZaY∘Ze∘Z2∘ZN∘Zd∘ZbE∘Ze∘Zar∘ZI∘ZaO∘Zc∘Zd1∘ZaG∘ZaJ∘ZaG∘ZaJ∘Zb4∘Zb4) ?_;refine zh (xi L Z Z (zo Z) Z Z Z UT.TA.mono (fun u H hH hle _=>UT.join_ret _ () _ _ hH (UT.TA.le E hle) (UT.TA.le E hle) (by first | omega | (simp only[Tr.size_node];omega)))) Z ?_;refine(ZbA∘Zb4∘Zj) ?_;refine zh (xi L Z Z (zo Z) Z Z Z UT.TA.mono (fun u H hH hle _=>UT.join_ret _ () _ _ hH (UT.TA.le E hle) (UT.TA.le E hle) (by first | omega | (simp only[Tr.size_node];omega)))) Z ?_;refine zh (xi L Z Z (zo Z) Z Z Z UT.TA.mono (fun u H hH hle _ v1 hv1 v2 hv2=>UT.join_ret _ () _ _ hH hv1 hv2 (by first | omega | (simp only[Tr.size_node];omega)))) Z ?_;refine(Zcr∘Zbz) ?_;refine ye1 L [.tmp 6] fun u H hH hle=>?_;exact fun v hv=>hv
 ·rw[nc h1];by_cases h3:r.deep>l.deep+1
  ·rw[na h3]
   cases r with
   | nil=>simp [Tr.deep] at h3
   | node rk rx rl rr=>
    have hr0:=hr;obtain⟨b1,v1,v2,rfl,hb1,hrl,hrr⟩:=hr;have hd1:=rl.deep_le;have hd2:=rr.deep_le;simp only[Tr.size_node] at hs hdr;dsimp only;by_cases h2:rr.deep>=rl.deep
    ·rw[na h2];refine(ZA∘ZaC) ?_;refine z81 L Z (fun u H hH hle=>UT.deep_ret _ hH (UT.TA.le E hle)) ?_;refine Za (h:=?_);refine z81 L Z (fun u H hH hle=>UT.deep_ret _ hH (UT.TA.le E hle)) ?_;refine(Zcw∘Zd∘ZF∘Zd0∘Zj∘Zdg∘ZbV∘Zb3∘Zch∘ZbU∘Zaf∘ZaY∘Ze∘Z2∘ZD∘ZaF∘ZdP∘Zj∘Zc8∘Zn∘ZbM∘Zw) ?_;refine zh1 L Z (fun u H hH hle=>UT.deep_ret _ hH (UT.TA.le E hle)) ?_;refine Zb4 (h:=?_);refine zh1 L Z (fun u H hH hle=>UT.deep_ret _ hH (UT.TA.le E hle)) ?_;refine(ZdG∘ZbU∘Za3∘ZbE∘Ze∘Zc3∘ZaG∘ZaJ∘ZbA∘Zn∘ZbM∘Zw) ?_;refine zh (xi L Z Z (zo Z) Z Z Z UT.TA.mono (fun u H hH hle _=>UT.join_ret _ () _ _ hH (UT.TA.le E hle) (UT.TA.le E hle) (by first | omega | (simp only[Tr.size_node];omega)))) Z ?_;refine Zb4 (h:=?_);refine zh (xi L Z Z (zo Z) Z Z Z UT.TA.mono (fun u H hH hle _ v1 hv1=>UT.join_ret _ () _ _ hH hv1 (UT.TA.le E hle) (by first | omega | (simp only[Tr.size_node];omega)))) Z ?_;refine(Zcr∘Zbz) ?_;refine ye1 L [.tmp 6] fun u H hH hle=>?_;exact fun v hv=>hv
    ·rw[nc h2]
     cases rl with
     | nil=>simp [Tr.deep] at h2
     | node mk mx ml mr=>
      have hrl0:=hrl;obtain⟨b2,v3,v4,rfl,hb2,hml,hmr⟩:=hrl;simp only[Tr.size_node] at hs hdr hd1;refine(ZA∘ZaC) ?_;refine z81 L Z (fun u H hH hle=>UT.deep_ret _ hH (UT.TA.le E hle)) ?_;refine Za (h:=?_);refine z81 L Z (fun u H hH hle=>UT.deep_ret _ hH (UT.TA.le E hle)) ?_;refine(Zcw∘Zd∘ZF∘Zd0∘Zj∘Zdg∘ZbV∘Zb3∘Zch∘ZbU∘Zaf∘ZaY∘Ze∘Z2∘ZD∘ZaF∘ZdP∘Zj∘Zc8∘Zn∘ZbM∘Zw) ?_;refine zh1 L Z (fun u H hH hle=>UT.deep_ret _ hH (UT.TA.le E hle)) ?_;refine Zb4 (h:=?_);refine zh1 L Z (fun u H hH hle=>UT.deep_ret _ hH (UT.TA.le E hle)) ?_;refine(Zef∘ZbU∘Zaf∘ZaY∘Ze∘Zat∘Zai∘Zd∘ZbE∘Ze∘Zah∘Za∘ZI∘ZaO∘Zc) ?_;refine qh (id:=11) [] x8 T ((ZaG∘ZaJ∘ZbA∘Zn∘ZbM∘Zw) ?_);refine zh (xi L Z Z (zo Z) Z Z Z UT.TA.mono (fun u H hH hle _=>UT.join_ret _ () _ _ hH (UT.TA.le E hle) (UT.TA.le E hle) (by first | omega | (simp only[Tr.size_node];omega)))) Z ?_;refine(ZaG∘ZaJ∘Zb4∘Zb4) ?_;refine zh (xi L Z Z (zo Z) Z Z Z UT.TA.mono (fun u H hH hle _=>UT.join_ret _ () _ _ hH (UT.TA.le E hle) (UT.TA.le E hle) (by first | omega | (simp only[Tr.size_node];omega)))) Z ?_;refine zh (xi L Z Z (zo Z) Z Z Z UT.TA.mono (fun u H hH hle _ v1 hv1 v2 hv2=>UT.join_ret _ () _ _ hH hv1 hv2 (by first | omega | (simp only[Tr.size_node];omega)))) Z ?_;refine(Zcr∘Zbz) ?_;refine ye1 L [.tmp 6] fun u H hH hle=>?_;exact fun v hv=>hv
  ·rw[nc h3];refine(ZA∘ZaC) ?_;refine z81 L Z (fun u H hH hle=>UT.deep_ret _ hH (UT.TA.le E hle)) ?_;refine Za (h:=?_);refine z81 L Z (fun u H hH hle=>UT.deep_ret _ hH (UT.TA.le E hle)) ?_;refine(Zcw∘Zd∘ZF∘Zd0∘Zj∘Zdg∘ZbV∘Zb3∘Zch∘ZbU∘Zaf∘ZaY∘Ze∘Z2∘ZD∘ZaF∘ZdP∘Zj∘Zdp∘ZbV∘Zb3∘Zch∘ZbU∘Zaf∘ZaY∘Ze∘Zat∘Z0∘Zp∘ZZ∘Zay∘Zb5∘ZT∘Zcg∘Zb) ?_;refine z8 (xi L Z Z (zo Z) Z Z Z UT.TA.mono (fun u H hH hle _=>UT.join_ret _ () _ _ hH (UT.TA.le E hle) (UT.TA.le E hle) (by first | omega | (simp only[Tr.size_node];omega)))) Z ?_;refine(ZX∘Z1) ?_;refine ye1 L [.tmp 6] fun u H hH hle=>?_;exact fun v hv=>hv
end Go.V.UT
variable{c:Go.V.UT.KT->Go.V.UT.KT->Int}
namespace Go.V.UT
def _root_.ZbB(t:Wr Y->A:=by intro h;refine z8 (Bu Z Z Z Z) Z ?_;exact h.1)(h:Y):A:=t ⟨h⟩
def _root_.Zcz(t:Wr Y->A:=by intro h;refine z8 (ez Z Z Z Z E) Z ?_;exact h.1)(h:Y):A:=t ⟨h⟩
def _root_.ZdH(t:Wr Y->A:=by intro h;refine qh (id:=13) [] x8 T ?_;exact h.1)(h:Y):A:=t ⟨h⟩
def _root_.Zd2(t:Wr Y->A:=by intro h;refine az (qs Z) Z Z ?_;exact h.1)(h:Y):A:=t ⟨h⟩
def _root_.Zer(t:Wr Y->A:=by intro h;refine zh (ez Z Z Z Z E) Z ?_;exact h.1)(h:Y):A:=t ⟨h⟩
def _root_.Zes(t:Wr Y->A:=by intro h;refine zh (Bu Z Z Z Z) Z ?_;exact h.1)(h:Y):A:=t ⟨h⟩
structure Cmp(cf:Nat)(c:KT->KT->Int):Prop where
 fn:L.fn cf=some ()
 ret:∀ (a b:KT) (u:World) (H:Heap),zpk H u->Ret zpl cf [kv a,kv b] u H (fun v _=>v=.int .i64 (c a b))
abbrev mv(cf:Nat)(root:Value):Value:=.agg #[.func (.func cf) #[] #[],root]
attribute [local irreducible] V N X VO Par StepOK Has Ret RetL Src
def zd0(hc:Cmp cf c)(root:Value)(k:KT)(x:VT):∀ (t:Tr KT VT) {rv:Value} {w:World} {B:Heap},zpk B w->TA t rv B->t.size+1<1099511627776->
  Ret zpl 243 [mv cf root,rv,.agg (pl k x).toArray] w B (TA (Tr.put c k x t)):=by
 intro t
 induction t with
 | nil=>
  intro rv w B hB hv hs;obtain rfl:rv=.pointer none:=hv;have hn:TA .nil (.pointer none) B:=rfl;have hz:(Tr.nil:Tr KT VT).size=0:=rfl;refine yf Tryz.func243 Z Tryz.ntmps243 (np Z) hB ((ZaQ∘ZaC∘Zcx∘ZbH∘Zcg) ?_);refine z8 (xi L Z Z (zo Z) Z Z Z UT.TA.mono (fun u H hH hle _=>UT.join_ret _ () _ _ hH (UT.TA.le E hle) (UT.TA.le E hle) (by first | omega | (simp only[Tr.size_node];omega)))) Z ?_;refine(ZX∘Z1) ?_;refine ye1 L [.tmp 6] fun u H hH hle=>?_;exact fun v hv=>hv
 | node nk nx l r ihl ihr=>
  intro rv w B hB hv hs;obtain⟨b,lv,rv',rfl,hb,hl,hr⟩:=hv;have hpl:=Tr.size_put c k x l;have hpr:=Tr.size_put c k x r;simp only[Tr.size_node] at hs;refine yf Tryz.func243 Z Tryz.ntmps243 (np Z) hB ?_;unfold Tr.put;by_cases h1:c k nk<0
  ·rw[na h1];refine(ZaQ∘ZaC∘Zcx∘Z6∘Zcy∘Zb0∘Zbi∘ZbA∘ZaG∘Zag∘ZaJ) ?_;refine zh (zy L Z Z (zo Z) Z Z hc.fn (fun u H hH _ _=>hc.ret _ _ u H hH)) Z ((Za3∘ZF∘Z2∘Zai∘Zd∘ZbE∘Ze∘ZdD∘ZaG∘ZaJ∘ZcG∘Zb4∘ZbA) ?_);refine zh (xi L Z Z (zo Z) Z Z Z TA.mono (fun u H hH hle _=>ihl hH (hl.le hle) I)) Z (Zb4 (h:=?_));refine zh (xi L Z Z (zo Z) Z Z Z UT.TA.mono (fun u H hH hle _ v1 hv1=>UT.bal_ret _ () _ _ hH hv1 (UT.TA.le E hle) (by first | omega | (simp only[Tr.size_node];omega)))) Z ?_;refine(Zcr∘Zbz) ?_;refine ye1 L [.tmp 6] fun u H hH hle=>?_;exact fun v hv=>hv
  ·rw[nc h1];by_cases h2:c k nk>0
   ·rw[na h2];refine(ZaQ∘ZaC∘Zcx∘Z6∘Zcy∘Zb0∘Zbi∘ZbA∘ZaG∘Zag∘ZaJ) ?_;refine zh (zy L Z Z (zo Z) Z Z hc.fn (fun u H hH _ _=>hc.ret _ _ u H hH)) Z ((Za3∘ZF∘Z2∘Z0∘ZaF∘ZH∘ZN∘Zd∘ZbE∘Ze∘ZdP∘ZaG∘ZaJ∘Zb4∘ZcG∘Zb4∘ZbA) ?_);refine zh (xi L Z Z (zo Z) Z Z Z TA.mono (fun u H hH hle _=>ihr hH (hr.le hle) I)) Z (zh (xi L Z Z (zo Z) Z Z Z UT.TA.mono (fun u H hH hle _ v1 hv1=>UT.bal_ret _ () _ _ hH (UT.TA.le E hle) hv1 (by first | omega | (simp only[Tr.size_node];omega)))) Z ?_);refine(Zcr∘Zbz) ?_;refine ye1 L [.tmp 6] fun u H hH hle=>?_;exact fun v hv=>hv
   ·rw[nc h2];refine(ZaQ∘ZaC∘Zcx∘Z6∘Zcy∘Zb0∘Zbi∘ZbA∘ZaG∘Zag∘ZaJ) ?_;refine zh (zy L Z Z (zo Z) Z Z hc.fn (fun u H hH _ _=>hc.ret _ _ u H hH)) Z ((Za3∘ZF∘Z2∘Z0∘ZaF∘ZH∘ZD∘Zp∘ZZ∘Zay∘Zb5∘Zc3∘ZaG∘Zag∘ZaJ) ?_);refine zh (Q7 Z Z Z T) Z (zh (Om L Z Z Z Z) Z (zh (yl (cs:=[_,_,_,_,_,_]) Z Z zg1 Z Z) Z ((Zb4∘Zb4) ?_)));refine zh (xi L Z Z (zo Z) Z Z Z UT.TA.mono (fun u H hH hle _=>UT.join_ret _ () _ _ hH (UT.TA.le E hle) (UT.TA.le E hle) (by first | omega | (simp only[Tr.size_node];omega)))) Z ?_;refine(Zcr∘Zbz) ?_;refine ye1 L [.tmp 6] fun u H hH hle=>?_;exact fun v hv=>hv
abbrev FirstS(y:(KT×VT)×Tr KT VT):Value->Heap->Prop:=TupS [fun v _=>v=.agg (pl y.1.1 y.1.2).toArray,TA y.2]
def FirstS.mono{y:(KT×VT)×Tr KT VT}:Kn.mono (.sat (FirstS y)):=TupS.mono fun φ hφ=>by
 simp only[nw,zmw,or_false] at hφ;rcases hφ with rfl | rfl
 ·exact fun _ _ _ h _=>h
 ·exact TA.mono
def tupS2{w:Value}(h1:φ v H)(h2:ψ w H):TupS [φ,ψ] (tup [v,w]) H:=⟨[v,w],rfl,rfl,fun i χ x hi hx=>by
 match i with
 | 0=>cases hi;cases hx;exact h1
 | 1=>cases hi;cases hx;exact h2
 | _+2=>cases hi⟩
def first_ret:∀ (k:KT) (x:VT) (l r:Tr KT VT) {v:Value} {w:World} {B:Heap},zpk B w->TA (.node k x l r) v B->l.size+r.size<1099511627776->
  Ret zpl 289 [v] w B (FirstS (Tr.first k x l r)):=by
 intro k x l
 induction l generalizing k x with
 | nil=>
  intro r v w B hB hv hs;obtain⟨b,lv,rv,rfl,hb,hl,hr⟩:=hv;obtain rfl:lv=.pointer none:=hl;refine yf Tryz.func289 Z Tryz.ntmps289 (np Z) hB ((Zaj∘ZaC∘ZI∘ZaO∘Zcx∘Zr∘Zd0∘ZaG∘ZaJ∘Zb4∘ZcO∘Za3) ?_);refine ye1 L [.cell 2 293,.tmp 3] fun u H hH hle=>?_;refine Zd2 (h:=?_);exact tupS2 Z (TA.le hr hle)
 | node lk lx ll lr ih _=>
  intro r v w B hB hv hs;obtain⟨b,lv,rv,rfl,hb,hl,hr⟩:=hv;have hl0:=hl;obtain⟨b2,v3,v4,rfl,hb2,_,_⟩:=hl;have hz:=Tr.size_first lk lx ll lr;simp only[Tr.size_node] at hs;have hm:=TA.mono (t:=(Tr.first lk lx ll lr).2);refine yf Tryz.func289 Z Tryz.ntmps289 (np Z) hB ((Zaj∘ZaC∘ZI∘ZaO∘Zcx∘Zl∘Zu∘ZI∘ZaO) ?_);refine z8 (xi L Z Z (zo Z) Z Z Z FirstS.mono (fun u H hH hle _=>ih lk lx lr hH (TA.le hl0 hle) I)) Z ((Zk∘ZbB∘Zcz∘ZaT∘ZX∘Zf∘Zdo∘ZdS∘ZaG∘ZaJ∘Zak∘Zb4) ?_);refine zh (xi L Z Z (zo Z) Z Z Z UT.TA.mono (fun u H hH hle _ v1 hv1=>UT.bal_ret _ () _ _ hH hv1 (UT.TA.le E hle) (by first | omega | (simp only[Tr.size_node];omega)))) Z ?_;refine(ZcO∘Zcr∘Zbz) ?_;refine ye1 L [.cell 2 293,.tmp 3] fun u H hH hle=>?_;refine Zd2 (h:=?_);exact fun v hv=>tupS2 Z hv
abbrev DropS(y:Tr KT VT×Bool):Value->Heap->Prop:=TupS [TA y.1,fun v _=>v=.bool y.2]
def DropS.mono{y:Tr KT VT×Bool}:Kn.mono (.sat (DropS y)):=TupS.mono fun φ hφ=>by
 simp only[nw,zmw,or_false] at hφ;rcases hφ with rfl | rfl
 ·exact TA.mono
 ·exact fun _ _ _ h _=>h
def zba(hc:Cmp cf c)(root:Value)(k:KT):∀ (t:Tr KT VT) {rv:Value} {w:World} {B:Heap},zpk B w->TA t rv B->t.size<1099511627776->
  Ret zpl 242 [mv cf root,rv,kv k] w B (DropS (Tr.drop c k t)):=by
 intro t
 induction t with
 | nil=>
  intro rv w B hB hv hs;obtain rfl:rv=.pointer none:=hv;have hn:TA .nil (.pointer none) B:=rfl;refine yf Tryz.func242 Z Tryz.ntmps242 (np Z) hB ((ZaQ∘Zp∘ZaC∘Zcx∘ZbH∘ZB) ?_);refine ye1 L [.tmp 6,.tmp 7] fun u H hH hle=>?_;exact tupS2 Z Z
 | node nk nx l r ihl ihr=>
  intro rv w B hB hv hs;obtain⟨b,lv,rv',rfl,hb,hl,hr⟩:=hv;have hpl:=Tr.size_drop c k l;have hpr:=Tr.size_drop c k r;simp only[Tr.size_node] at hs;refine yf Tryz.func242 Z Tryz.ntmps242 (np Z) hB ?_;unfold Tr.drop;by_cases h1:c k nk<0
  ·rw[na h1];have hm:=TA.mono (t:=(Tr.drop c k l).1);refine(ZaQ∘Zp∘ZaC∘Zcx∘Z6∘Zcy∘Zb0∘ZbA∘ZaG∘Zag∘ZaJ) ?_;refine zh (zy L Z Z (zo Z) Z Z hc.fn (fun u H hH _ _=>hc.ret _ _ u H hH)) Z ((Za3∘ZF∘Z2∘Zai∘Zd∘ZbE∘Ze∘ZdD∘ZcG∘Zb4∘ZbA) ?_);refine zh (xi L Z Z (zo Z) Z Z Z DropS.mono (fun u H hH hle _=>ihl hH (hl.le hle) I)) Z ((Zak∘Zer∘Zes∘Zcr∘Zaf∘ZU∘Zd1∘ZaG∘ZaJ∘Zak∘Zb4) ?_);refine zh (xi L Z Z (zo Z) Z Z Z UT.TA.mono (fun u H hH hle _ v1 hv1=>UT.bal_ret _ () _ _ hH hv1 (UT.TA.le E hle) (by first | omega | (simp only[Tr.size_node];omega)))) Z ?_;refine(Zj∘Zcr∘Za3) ?_;refine ye1 L [.tmp 6,.tmp 7] fun u H hH hle=>?_;exact fun v hv=>tupS2 hv Z
  ·rw[nc h1];by_cases h2:c k nk>0
   ·rw[na h2];have hm:=TA.mono (t:=(Tr.drop c k r).1);refine(ZaQ∘Zp∘ZaC∘Zcx∘Z6∘Zcy∘Zb0∘ZbA∘ZaG∘Zag∘ZaJ) ?_;refine zh (zy L Z Z (zo Z) Z Z hc.fn (fun u H hH _ _=>hc.ret _ _ u H hH)) Z ((Za3∘ZF∘Z2∘Z0∘ZaF∘Z3∘ZN∘Zd∘ZbE∘Ze∘Zc3∘ZcG∘Zb4∘ZbA) ?_);refine zh (xi L Z Z (zo Z) Z Z Z DropS.mono (fun u H hH hle _=>ihr hH (hr.le hle) I)) Z ((Zak∘Zer∘Zes∘Zcr∘Zaf∘ZU) ?_);refine qh (id:=9) [] x8 T ((ZaG∘ZaJ∘Zb4∘Zak) ?_);refine zh (xi L Z Z (zo Z) Z Z Z UT.TA.mono (fun u H hH hle _ v1 hv1=>UT.bal_ret _ () _ _ hH (UT.TA.le E hle) hv1 (by first | omega | (simp only[Tr.size_node];omega)))) Z ?_;refine(Zj∘Zcr∘Za3) ?_;refine ye1 L [.tmp 6,.tmp 7] fun u H hH hle=>?_;exact fun v hv=>tupS2 hv Z
   ·rw[nc h2]
    cases r with
    | nil=>
     obtain rfl:rv'=.pointer none:=hr;refine(ZaQ∘Zp∘ZaC∘Zcx∘Z6∘Zcy∘Zb0∘ZbA∘ZaG∘Zag∘ZaJ) ?_;refine zh (zy L Z Z (zo Z) Z Z hc.fn (fun u H hH _ _=>hc.ret _ _ u H hH)) Z ((Za3∘ZF∘Z2∘Z0∘ZaF∘Z3∘ZD∘ZaF∘Zah∘Za∘ZI∘ZaO∘Zcx∘Zd∘ZbE∘Ze∘ZO∘Za∘ZI∘ZaO∘ZB) ?_);refine ye1 L [.tmp 6,.tmp 7] fun u H hH hle=>?_;exact tupS2 (TA.le hl hle) Z
    | node rk rx rl rr=>
     have hr0:=hr;obtain⟨b2,v3,v4,rfl,hb2,_,_⟩:=hr;have hz:=Tr.size_first rk rx rl rr;simp only[Tr.size_node] at hs;have hm:=TA.mono (t:=(Tr.first rk rx rl rr).2);refine(ZaQ∘Zp∘ZaC∘Zcx∘Z6∘Zcy∘Zb0∘ZbA∘ZaG∘Zag∘ZaJ) ?_;refine zh (zy L Z Z (zo Z) Z Z hc.fn (fun u H hH _ _=>hc.ret _ _ u H hH)) Z ((Za3∘ZF∘Z2∘Z0∘ZaF∘Z3∘ZD∘ZaF∘Zah∘Za∘ZI∘ZaO∘Zcx∘Zp∘ZZ∘Zay∘Zb5∘ZT∘Za∘ZI∘ZaO) ?_);refine z8 (xi L Z Z (zo Z) Z Z Z FirstS.mono (fun u H hH hle _=>first_ret rk rx rl rr hH (TA.le hr0 hle) I)) Z ((Zk∘ZbB∘Zcz∘ZaT∘ZX∘Zf∘ZdH∘ZdS∘Zb4∘Zak) ?_);refine zh (xi L Z Z (zo Z) Z Z Z UT.TA.mono (fun u H hH hle _ v1 hv1=>UT.bal_ret _ () _ _ hH (UT.TA.le E hle) hv1 (by first | omega | (simp only[Tr.size_node];omega)))) Z ?_;refine(Zcr∘Za3) ?_;refine ye1 L [.tmp 6,.tmp 7] fun u H hH hle=>?_;exact fun v hv=>tupS2 hv Z
def _root_.Zc9(t:Wr Y->A:=by intro h;refine z8 (zz L (vs:=[_,_]) (A6 Z (List.Mem.head _)) Z Z Z Z ⟨_,rfl⟩) Z ?_;exact h.1)(h:Y):A:=t ⟨h⟩
def _root_.ZcA(t:Wr Y->A:=by intro h;refine z8 (qf L (A6 Z (List.Mem.head _)) Z Z Z Z) Z ?_;exact h.1)(h:Y):A:=t ⟨h⟩
def _root_.ZdI(t:Wr Y->A:=by intro h;refine Lm L (O1:=[]) Z Z Z Z Z Z Z Z Z ?_;exact h.1)(h:Y):A:=t ⟨h⟩
def _root_.Zet(t:Wr Y->A:=by intro h;refine z8 (Fq Z Z Z Z zji Z Z) Z ?_;exact h.1)(h:Y):A:=t ⟨h⟩
def _root_.Zal(t:Wr Y->A:=by exact fun h=>(ZaU∘Zay) h.1)(h:Y):A:=t ⟨h⟩
def _root_.ZbW(t:Wr Y->A:=by exact fun h=>(Zaj∘Zf) h.1)(h:Y):A:=t ⟨h⟩
def MA(fv:Value)(t:Tr KT VT):Value->Heap->Prop:=fun v H=>∃ p,v=.agg #[fv,.pointer p]/\TA t (.pointer p) H
def MA.mono{fv:Value}{t:Tr KT VT}:Kn.mono (.sat (MA fv t)):=fun _ _ _ ⟨p,hv,h⟩ hle=>⟨p,hv,h.le hle⟩
def new_ret(cf:Nat)(hB:zpk B w):Ret zpl 177 [.func (.func cf) #[] #[]] w B (fun v _=>v=.agg #[.func (.func cf) #[] #[],.pointer none]):=by
 refine yf Tryz.func177 Z Tryz.ntmps177 (np Z) hB ((ZbW∘Zbf) ?_);refine z8 (yl (cs:=[_,_]) Z Z zks Z Z) Z (Zau (h:=?_));refine ye1 L [.cell 2 87] fun u H hH hle=>?_;refine Zd2 (h:=?_);rfl
def len_ret{fv:Value}{t:Tr KT VT}(hB:zpk B w)(hv:TA t root B):Ret zpl 103 [.agg #[fv,root]] w B (fun v _=>v=.int .i64 t.size):=by
 refine yf Tryz.func103 Z Tryz.ntmps103 (np Z) hB ((ZA∘Zas∘Zac) ?_);refine z81 L Z (fun u H hH hle=>UT.size_ret _ hH (UT.TA.le E hle)) ?_;refine Zd (h:=?_);exact ye2 L [.tmp 2]
def zaq(hc:Cmp cf c)(k:KT)(x:VT){t:Tr KT VT}(hB:zpk B w)(hv:TA t (.pointer p) B)(hs:t.size+1<1099511627776):
  Ret zpl 179 [mv cf (.pointer p),kv k,vv x] w B (MA (.func (.func cf) #[] #[]) (Tr.put c k x t)):=by
 refine yf Tryz.func179 Z Tryz.ntmps179 (np Z) hB ((Zba∘ZcE∘ZcE∘Zbw) ?_);(refine Aa 3 rfl ?_;intro b3 hb3);refine(Z4∘ZaN∘ZcA) ?_;refine z8 (Fq rfl rfl rfl rfl zkw rfl rfl) rfl ((ZE∘ZM∘Zc9∘ZaN∘ZcA∘Zcg) ?_);refine z8 (zz L (vs:=[]) (ya rfl) rfl rfl rfl rfl ⟨_,rfl⟩) rfl (z8 (yl (cs:=[_,_,_,_,_,_]) rfl rfl zg1 rfl rfl) rfl (z8 (xi L rfl rfl (zo rfl) rfl rfl rfl TA.mono (fun u H hH hle _=>zd0 hc _ k x t hH (hv.le hle) hs)) rfl (v6 16 rfl ?_)));intro p16 H16 hs16 hp16;obtain⟨q16,rfl⟩:=TA.ptr hp16;refine(ZaN∘ZdI∘Zf∘ZR∘Zc9∘Zau) ?_;refine ye L (rs:=[.cell 6 87]) Z (fun _ _ h=>h) hs16 fun u H hH hle=>?_;refine Zd2 (h:=?_);exact⟨q16,rfl,hp16.le hle⟩
def Uz(hc:Cmp cf c)(k:KT){t:Tr KT VT}(hB:zpk B w)(hv:TA t (.pointer p) B)(hs:t.size<1099511627776):
  Ret zpl 178 [mv cf (.pointer p),kv k] w B (MA (.func (.func cf) #[] #[]) (if (Tr.drop c k t).2=true then (Tr.drop c k t).1 else t)):=by
 have hD:=fun(u:World) (H:Heap) (hH:zpk H u) (hle:B.Le H)=>zba hc (.pointer p) k t hH (hv.le hle) hs;rcases hq:Tr.drop c k t with ⟨t',was⟩
 rw[hq] at hD;have hm:=TA.mono (t:=t');cases was
 ·rw[nc (by simp)];refine yf Tryz.func178 Z Tryz.ntmps178 (np Z) hB ((Zba∘ZcE∘Zbw) ?_);(refine Aa 2 rfl ?_;intro b2 hb2);refine(Z4∘Zc9∘ZaN∘ZcA∘Zcg) ?_;refine z8 (xi L Z Z (zo Z) Z Z Z DropS.mono (fun u H hH hle _=>hD u H hH hle)) Z ((Zk∘Zcz∘ZbB∘ZX∘Zb2∘Zl∘Z9∘Zc9∘Zau) ?_);refine ye1 L [.cell 4 87] fun u H hH hle=>?_;refine Zd2 (h:=?_);exact⟨p,rfl,hv.le hle⟩
 ·rw[na rfl];refine yf Tryz.func178 Z Tryz.ntmps178 (np Z) hB ((Zba∘ZcE∘Zbw) ?_);(refine Aa 2 rfl ?_;intro b2 hb2);refine(Z4∘Zc9∘ZaN∘ZcA∘Zcg) ?_;refine z8 (xi L rfl rfl (zo rfl) rfl rfl rfl DropS.mono (fun u H hH hle _=>hD u H hH hle)) rfl ((Zk∘Zcz∘ZbB∘ZX∘Zb2∘ZE∘ZR∘Zk) ?_);refine v6 16 rfl ?_;intro p16 H16 hs16 hp16;obtain⟨q16,rfl⟩:=TA.ptr hp16;refine(ZaN∘ZdI∘Zf∘Z9∘Zc9∘Zau) ?_;refine ye L (rs:=[.cell 4 87]) Z (fun _ _ h=>h) hs16 fun u H hH hle=>?_;refine Zd2 (h:=?_);exact⟨q16,rfl,hp16.le hle⟩
def zkf:Option VT->List Value
 | some x=>[vv x,.bool true]
 | none=>[.agg #[],.bool false]
def ze9(hc:Cmp cf c)(k:KT){t:Tr KT VT}(hB:zpk B w)(hv:TA t root B):
  Ret zpl 176 [mv cf root,kv k] w B (fun v _=>v=tup (zkf (Tr.get c k t))):=by
 refine yf Tryz.func176 Z Tryz.ntmps176 (np Z) hB ((ZaQ∘Z7∘Zas∘Zac∘Zc∘Zam) ?_)
 refine xo (fun s:Tr KT VT×Value=>[(3,.sat (At [.string k.1.1.1,.string k.1.1.2,.string k.1.2,.string k.2.1.1,.string k.2.1.2,.string k.2.2] 34 0)),(4,.own (gj [] 195)),(2,.sat (At [.func (.func cf) #[] #[],root] 87 0)),(6,.is s.2)])
  (fun s=>TA s.1 s.2 B/\Tr.get c k s.1=Tr.get c k t) (fun s=>s.1.size) (t,root) ⟨hv,rfl⟩ (by repeat (first | exact trivial | refine⟨rfl,?_⟩)) ?_
 rintro⟨s,v⟩ ⟨hs,hg⟩;dsimp only at hs hg |-
 cases s with
 | nil=>
  obtain rfl:v=.pointer none:=hs;refine(Zh∘Zq∘Zet∘ZaR∘ZQ∘Z7∘Zf∘Zah) ?_;refine z8 (zz L (vs:=[]) (qs Z) Z Z Z Z ⟨_,rfl⟩) Z (Za0 (h:=?_));refine ye1 L [.cell 4 195,.tmp 5] fun u H hH hle=>?_
  first | (rw[<-hg];rfl) | (refine az (qs rfl) rfl rfl ?_;rw[<-hg];rfl)
 | node nk nx l r=>
  obtain⟨b,lv,rv,rfl,hb,hl,hr⟩:=hs;by_cases h0:c k nk=0
  ·rw[Tr.get_eq h0] at hg;refine(Zh∘Zq∘Zet∘Zcd∘Zcy∘Zb0∘ZbA∘ZaG∘Zag∘ZaJ) ?_;refine zh (zy L Z Z (zo Z) Z Z hc.fn (fun u H hH _ _=>hc.ret _ _ u H hH)) Z ((Zaf∘ZU∘Ze∘Z2∘ZC∘Zr∘Zar∘ZI) ?_);refine z8 (Q5 E Z Z Z T) Z (z8 (Om L Z Z Z Z) Z (Za0 (h:=?_)));refine ye1 L [.cell 4 195,.tmp 5] fun u H hH hle=>?_
   first | (rw[<-hg];rfl) | (refine az (qs rfl) rfl rfl ?_;rw[<-hg];rfl)
  ·by_cases h1:c k nk<0
   ·rw[Tr.get_lt h1] at hg;refine(Zh∘Zq∘Zet∘Zcd∘Zcy∘Zb0∘ZbA∘ZaG∘Zag∘ZaJ) ?_;refine zh (zy L Z Z (zo Z) Z Z hc.fn (fun u H hH _ _=>hc.ret _ _ u H hH)) Z ((Zaf∘ZU∘Ze∘Z2∘Zs∘Zl∘ZH∘ZaH∘Z3∘ZI∘ZaO∘Zal) ?_);exact ym (x:=(Tr.node nk nx l r,Value.pointer (some ⟨b,0,none⟩))) (l,lv) ⟨hl,hg⟩ (by simp only[Tr.size_node];omega) (by repeat (first | exact trivial | refine⟨rfl,?_⟩))
   ·rw[Tr.get_gt h0 h1] at hg;refine(Zh∘Zq∘Zet∘Zcd∘Zcy∘Zb0∘ZbA∘ZaG∘Zag∘ZaJ) ?_;refine zh (zy L Z Z (zo Z) Z Z hc.fn (fun u H hH _ _=>hc.ret _ _ u H hH)) Z ((Zaf∘ZU∘Ze∘Z2∘Zs∘Zl∘ZH∘Z0∘Za9∘Za4∘ZI∘ZaO∘Zal) ?_);exact ym (x:=(Tr.node nk nx l r,Value.pointer (some ⟨b,0,none⟩))) (r,rv) ⟨hr,hg⟩ (by simp only[Tr.size_node];omega) (by repeat (first | exact trivial | refine⟨rfl,?_⟩))
def _root_.ZaA(t:Wr Y->A:=by intro h;refine zh (yu Z Z Z Z) Z ?_;exact h.1)(h:Y):A:=t ⟨h⟩
def _root_.ZcI(t:Wr Y->A:=by intro h;refine zh (Oo Z Z Z Z (nf I)) Z ?_;exact h.1)(h:Y):A:=t ⟨h⟩
def _root_.Zd3(t:Wr Y->A:=by intro h;refine zh (Oo Z Z Z Z (ng I)) Z ?_;exact h.1)(h:Y):A:=t ⟨h⟩
def _root_.Zeu(t:Wr Y->A:=by intro h;refine qh (id:=6) [(60,[77])] x8 T ?_;exact h.1)(h:Y):A:=t ⟨h⟩
def _root_.Zev(t:Wr Y->A:=by intro h;refine zh (v0 Z Z Z Z zji Z) Z ?_;exact h.1)(h:Y):A:=t ⟨h⟩
def _root_.Za5(t:Wr Y->A:=by exact fun h=>(ZbU∘ZaY) h.1)(h:Y):A:=t ⟨h⟩
def _root_.Zci(t:Wr Y->A:=by exact fun h=>(ZbU∘Zc4) h.1)(h:Y):A:=t ⟨h⟩
def encP(y:KT×VT):List Value:=[.agg (pl y.1 y.2).toArray]
def PairsAt(t:Tr KT VT)(a f e:Int):Value->Heap->Prop:=fun v H=>∃ b1 b2 b3 b4 root,v=.func (.func 287) #[] #[.pointer (some ⟨b1,0,none⟩),.pointer (some ⟨b2,0,none⟩),.pointer (some ⟨b3,0,none⟩),.pointer (some ⟨b4,0,none⟩)]/\
 H b1=some (.cells [root].toArray 85)/\H b2=some (.cells [.int .i64 a].toArray 3)/\H b3=some (.cells [.int .i64 f].toArray 3)/\H b4=some (.cells [.int .i64 e].toArray 3)/\TA t root H
def PairsAt.mono{t:Tr KT VT}{a:Int}:Kn.mono (.sat (PairsAt t a f e)):=fun _ _ _ ⟨b1,b2,b3,b4,root,h0,h1,h2,h3,h4,h5⟩ hle=>⟨b1,b2,b3,b4,root,h0,hle _ _ h1,hle _ _ h2,hle _ _ h3,hle _ _ h4,h5.le hle⟩
def Bn(t:Tr KT VT)(a f e:Int)(hB:zpk B w)(hv:TA t root B):
  Ret zpl 241 [root,.int .i64 a,.int .i64 f,.int .i64 e] w B (PairsAt t a f e):=by
 obtain⟨p,rfl⟩:=hv.ptr;refine yf Tryz.func241 Z Tryz.ntmps241 (np Z) hB ((ZaQ∘ZcE∘ZcE∘Zc) ?_);refine Cw 4 rfl fun v1 H1 hs1 ⟨b1,e1,h1⟩=>?_;subst e1;refine Cw 5 rfl fun v2 H2 hs2 ⟨b2,e2,h2⟩=>?_;subst e2;refine Cw 6 rfl fun v3 H3 hs3 ⟨b3,e3,h3⟩=>?_;subst e3;refine Cw 7 rfl fun v4 H4 hs4 ⟨b4,e4,h4⟩=>?_;subst e4;refine(Z4∘Za8∘Zd) ?_;refine ye L (rs:=[.tmp 8]) Z (fun _ _ h=>h) (hs1.trans (hs2.trans (hs3.trans hs4))) fun u H hH hle=>?_;exact⟨b1,b2,b3,b4,_,rfl,hle _ _ (hs4.le _ _ (hs3.le _ _ (hs2.le _ _ h1))),hle _ _ (hs4.le _ _ (hs3.le _ _ h2)),hle _ _ (hs4.le _ _ h3),hle _ _ h4,(((hv.le hs1.le).le hs2.le).le (hs3.le.trans hs4.le)).le hle⟩
def sg{l:List (KT×VT)}{x:List Value}(h:pre++[x]<+:l.map encP):∃ y,x=encP y:=by
 have:x∈l.map encP:=h.subset (by simp);obtain⟨y,_,rfl⟩:=zlb.1 this;exact⟨y,rfl⟩
abbrev Eh:List Value->List Value
 | [.agg cs]=>cs.toList
 | _=>[]
set_option maxRecDepth 10000 in
def za2:∀ (t:Tr KT VT) (a f e:Int) {b1 b2 b3 b4:Nat} {root:Value} {w:World} {B:Heap},0<=a->a+t.size<1099511627776->zpk B w->
  B b1=some (.cells [root].toArray 85)->B b2=some (.cells [.int .i64 a].toArray 3)->B b3=some (.cells [.int .i64 f].toArray 3)->B b4=some (.cells [.int .i64 e].toArray 3)->TA t root B->
  zi2 zpl 287 [.pointer (some ⟨b1,0,none⟩),.pointer (some ⟨b2,0,none⟩),.pointer (some ⟨b3,0,none⟩),.pointer (some ⟨b4,0,none⟩)] w B ((Tr.prs t a f e).map encP):=by
 intro t
 induction t with
 | nil=>
  intro a f e b1 b2 b3 b4 root w B ha hsz hB g1 g2 g3 g4 hv ly zpg stop C hst hY hJ hC;obtain rfl:root=.pointer none:=hv;refine yr 77 (zpg []) Tryz.func287 Z Tryz.ntmps287 (np Z) hB hJ hC ((ZA∘Zaz∘Zcu∘Zw∘Zev∘ZbV∘ZbU∘Zj∘Zb3∘Zch∘Zci) ?_);exact jf L 77 rfl (fun _ _ h=>h) nq Z Z
 | node k x l r ihl ihr=>
  intro a f e b1 b2 b3 b4 root w B ha hsz hB g1 g2 g3 g4 hv ly zpg stop C hst hY hJ hC;obtain⟨b,lv,rv,rfl,hb,hl,hr⟩:=hv;have hsn:(Tr.node k x l r).size=l.size+1+r.size:=rfl;rw[hsn] at hsz;refine yr 77 (zpg []) Tryz.func287 Z Tryz.ntmps287 (np Z) hB hJ hC ?_;by_cases h1:a+((Tr.node k x l r).size:Int)<=f
  ·have hx:Tr.prs (.node k x l r) a f e=[]:=na (.inl h1);refine(ZA∘Zaz∘Zcu∘Zw∘Zev∘Zj∘Zw∘Zw∘ZbM∘Zw∘ZcQ∘Zw∘ZcI∘ZbU∘Zj∘Zb3∘Zch∘Zci) ?_;exact jf L 77 rfl (fun _ _ h=>h) nq Z (by rw[hx];rfl)
  ·by_cases h2:a>=e
   ·have hx:Tr.prs (.node k x l r) a f e=[]:=na (.inr h2);refine(ZA∘Zaz∘Zcu∘Zw∘Zev∘Zj∘Zw∘Zw∘ZbM∘Zw∘ZcQ∘Zw∘Zd3∘ZbU∘Zj∘Zw∘Zw∘ZdG∘Zci) ?_;exact jf L 77 rfl (fun _ _ h=>h) nq Z (by rw[hx];rfl)
   ·have hx:Tr.prs (.node k x l r) a f e=Tr.prs l a f e++((if a+(l.size:Int)>=f/\a+(l.size:Int)<e then [(k,x)] else [])++Tr.prs r (a+l.size+1) f e):=
     nc (by rintro(h | h);exact h1 h;exact h2 h)
    rw[hx] at hY |-;simp only[zl1] at hY |-;refine(ZA∘Zaz∘Zcu∘Zw∘Zev∘Zj∘Zw∘Zw∘ZbM∘Zw∘ZcQ∘Zw∘Zd3∘ZbU∘Zj∘Zw∘Zw∘Zef∘Za5∘Zae∘Zd0∘Zw∘Zw∘ZbM∘Zw) ?_;refine zh1 L Z (fun u H hH hle=>UT.size_ret _ hH (UT.TA.le E hle)) ?_;refine(ZcQ∘Zaf∘ZU∘Ze∘Zcy∘Zw∘ZbM∘Zw∘Zw∘Zw∘Zw) ?_;refine zh (xi L Z Z (zo Z) Z Z Z PairsAt.mono (fun u H hH hle _=>Bn l a f e hH (TA.le hl hle))) Z ((Zbz∘Zam) ?_);refine Cw 5 rfl fun v5 H5 hs5 ⟨b5,e5,g5⟩=>?_;subst e5;refine Cw 40 rfl fun v40 H40 hs40 ⟨c1,c2,c3,c4,r1,e40,d1,d2,d3,d4,d5⟩=>?_;subst e40;have hsB:=hs5.trans hs40;have gg5:=hs40.le _ _ g5
    refine l7 L (gf:=287) (caps:=[.pointer (some ⟨c1,0,none⟩),.pointer (some ⟨c2,0,none⟩),.pointer (some ⟨c3,0,none⟩),.pointer (some ⟨c4,0,none⟩)])
     [(1,.pointer (some ⟨b1,0,none⟩)),(2,.pointer (some ⟨b2,0,none⟩)),(3,.pointer (some ⟨b3,0,none⟩)),(4,.pointer (some ⟨b4,0,none⟩)),(5,.pointer (some ⟨b5,0,none⟩)),(6,.int .i64 (a+l.size))]
     (fun pre=>[(77,(zpg pre).res)]) (fun pre x=>[(77,.own (zpg pre).res),(7,.own (gj (Eh x) 293)),(5,.is (.pointer (some ⟨b5,0,none⟩)))])
     ((Tr.prs l a f e).map encP) stop (fun _=>.ret) rfl rfl rfl ⟨rfl,rfl,rfl,rfl,rfl,rfl,rfl,nm⟩
     (fun pre p hp=>by simp only[mz] at hp;subst hp;exact ns _) hst (fun x hx=>by obtain⟨y,_,rfl⟩:=zlb.1 hx;rfl) J
     (fun u H hH hle=>ihl a f e ha I hH (hle _ _ d1) (hle _ _ d2) (hle _ _ d3) (hle _ _ d4) (d5.le hle)) ?asg ?bd ?dn ?st
    case asg=>
     intro w1 Ln B' l' D' o pre x' hpre hstp hBB;obtain⟨y,rfl⟩:=sg hpre;refine(Z9∘ZaT∘ZS) ?_;exact R7 nq ⟨Z,Z,Z,nm⟩
    case bd=>
     intro w1 Ln B' l' D' o pre x' hpre hstp hBB;obtain⟨y,rfl⟩:=sg hpre;have q5:=hBB _ _ gg5;have hpre':=hpre.trans (List.prefix_append ((Tr.prs l a f e).map encP) (((if a+(l.size:Int)>=f/\a+(l.size:Int)<e then [(k,x)] else [])).map encP++(Tr.prs r (a+l.size+1) f e).map encP));cases hb':stop (pre++[encP y])
     ·refine(ZF∘ZY∘ZaO∘ZaI) ?_;refine q0 (ug (gs:=77) hY hpre' hstp (nh Bool.not hb') Z Z Z Z Z) ((Zt∘ZZ∘Zay) ?_);exact R8 nq hb' ⟨Z,nm⟩
     ·refine(ZF∘ZY∘ZaO∘ZaI) ?_;refine q0 (ug (gs:=77) hY hpre' hstp (nh Bool.not hb') Z Z Z Z Z) ((Zt∘ZE) ?_);exact o8 (bi (G5 nq hb' Z ⟨Z,nm⟩))
    case st=>
     intro l' D' o hstop;exact jf L 77 rfl (fun _ _ h=>h) hsB Z (by rw[Dh _ _ _ hstop hst])
    case dn=>
     intro l' D' o hgo;have htk:=Ez (stop:=stop) ((Tr.prs l a f e).map encP) [] hgo;simp only[mh] at htk;rw[htk] at hgo |-;have gg1:=hsB.le _ _ g1;have gg2:=hsB.le _ _ g2;have gg3:=hsB.le _ _ g3;have gg4:=hsB.le _ _ g4;have ggb:=hsB.le _ _ hb;have ggr:=TA.le hr hsB.le;refine Zay (h:=?_);refine Zbq (h:=?_)
     refine Xq (fun zpi:wo=>[(77,.own (zpg zpi).res),(1,.is (.pointer (some ⟨b1,0,none⟩))),(2,.is (.pointer (some ⟨b2,0,none⟩))),(3,.is (.pointer (some ⟨b3,0,none⟩))),(4,.is (.pointer (some ⟨b4,0,none⟩))),(5,.is (.pointer (some ⟨b5,0,none⟩))),(6,.is (.int .i64 (a+l.size)))])
      (fun zpi=>stop zpi=false/\jh stop [] zpi=zpi/\zpi++(Tr.prs r (a+l.size+1) f e).map encP=(Tr.prs l a f e).map encP++(((if a+(l.size:Int)>=f/\a+(l.size:Int)<e then [(k,x)] else [])).map encP++(Tr.prs r (a+l.size+1) f e).map encP)) ?one ?two
     case one=>
      by_cases hy1:a+(l.size:Int)>=f
      ·by_cases hy2:a+(l.size:Int)<e
       ·rw[na ⟨hy1,hy2⟩] at hY |-;have hpre:(Tr.prs l a f e).map encP++[encP (k,x)]<+:(Tr.prs l a f e).map encP++([(k,x)].map encP++(Tr.prs r (a+l.size+1) f e).map encP):=⟨(Tr.prs r (a+l.size+1) f e).map encP,by simp⟩
        cases hb':stop ((Tr.prs l a f e).map encP++[encP (k,x)])
        ·refine(Ze∘Zeu∘Zj∘Zw∘ZdG∘Zn∘Zw∘Zc8∘ZbU∘Zj∘Zw∘Zw∘ZbM∘ZaJ) ?_;refine xu (ug (gs:=77) hY hpre hgo (nh Bool.not hb') Z Z Z Z Z) Z Z ((ZaA∘Za5∘ZcY) ?_);refine zf3 ((Tr.prs l a f e).map encP++[encP (k,x)]) nq ⟨hb',?_,by simp⟩ ⟨Z,Z,Z,Z,Z,Z,Z,nm⟩;rw[ay _ _ _ (by rw[htk];exact hgo),mh];simp only[jh];split<;>rfl
        ·refine(Ze∘Zeu∘Zj∘Zw∘ZdG∘Zn∘Zw∘Zc8∘ZbU∘Zj∘Zw∘Zw∘ZbM∘ZaJ) ?_;refine xu (ug (gs:=77) hY hpre hgo (nh Bool.not hb') Z Z Z Z Z) Z Z ((ZaA∘Zci) ?_);refine jf L 77 rfl (fun _ _ h=>h) hsB Z ?_;rw[ay _ _ _ (by rw[htk];exact hgo),mh];simp only[mq,zlo,zll,jh];rw[na hb']
       ·rw[nc (by rintro⟨_,h⟩;exact hy2 h)];refine(Ze∘Zeu∘Zj∘Zw∘ZdG∘Zn∘Zw∘Zdp∘ZbU∘ZdT∘Zb3∘Zch∘Za5∘ZcY) ?_;exact zf3 ((Tr.prs l a f e).map encP) nq ⟨hgo,htk,by simp⟩ ⟨Z,Z,Z,Z,Z,Z,Z,nm⟩
      ·rw[nc (by rintro⟨h,_⟩;exact hy1 h)];refine(Ze∘Zeu∘Zj∘Zw∘Zef∘Zj∘Zb3∘Zch∘ZbU∘ZdT∘Zb3∘Zch∘Za5∘ZcY) ?_;exact zf3 ((Tr.prs l a f e).map encP) nq ⟨hgo,htk,by simp⟩ ⟨Z,Z,Z,Z,Z,Z,Z,nm⟩
     case two=>
      rintro zpi ⟨hM1,hM2,hM3⟩;rw[<-hM3] at hY |-;refine(Ze∘ZdP∘Zw∘ZbM∘Zw∘Zj∘ZcQ∘Zw∘Zw) ?_;refine zh (xi L Z Z (zo Z) Z Z Z PairsAt.mono (fun u H hH hle _=>Bn r (a+l.size+1) f e hH (TA.le ggr hle))) Z ((Zbz∘Zam) ?_);refine Cw 71 rfl fun v71 H71 hs71 ⟨c1,c2,c3,c4,r1,e71,d1,d2,d3,d4,d5⟩=>?_;subst e71;have qq5:=hs71.le _ _ gg5
      have htot:jh stop [] (zpi++(Tr.prs r (a+l.size+1) f e).map encP)=zpi++jh (fun p=>stop (zpi++p)) [] ((Tr.prs r (a+l.size+1) f e).map encP):=by
       rw[ay _ _ _ (by rw[hM2];exact hM1),Az,mh,mo]
      refine l7 L (gf:=287) (caps:=[.pointer (some ⟨c1,0,none⟩),.pointer (some ⟨c2,0,none⟩),.pointer (some ⟨c3,0,none⟩),.pointer (some ⟨c4,0,none⟩)])
       [(5,.pointer (some ⟨b5,0,none⟩))]
       (fun pre=>[(77,(zpg (zpi++pre)).res)]) (fun pre x=>[(77,.own (zpg (zpi++pre)).res),(8,.own (gj (Eh x) 293)),(5,.is (.pointer (some ⟨b5,0,none⟩)))])
       ((Tr.prs r (a+l.size+1) f e).map encP) (fun p=>stop (zpi++p)) (fun _=>.ret) rfl rfl rfl ⟨by rw[mo];rfl,rfl,nm⟩
       (fun pre p hp=>by simp only[mz] at hp;subst hp;exact ns _) (by show stop (zpi++[])=false;rw[mo];exact hM1) (fun x hx=>by obtain⟨y,_,rfl⟩:=zlb.1 hx;rfl) J
       (fun u H hH hle=>ihr (a+l.size+1) f e I I hH (hle _ _ d1) (hle _ _ d2) (hle _ _ d3) (hle _ _ d4) (d5.le hle)) ?asg2 ?bd2 ?dn2 ?st2
      case asg2=>
       intro w1 Ln B' l' D' o pre x' hpre hstp hBB;obtain⟨y,rfl⟩:=sg hpre;refine(ZK∘ZaT∘ZS) ?_;exact R7 nq ⟨Z,Z,Z,nm⟩
      case bd2=>
       intro w1 Ln B' l' D' o pre x' hpre hstp hBB;obtain⟨y,rfl⟩:=sg hpre;have q5:=hBB _ _ qq5;have hpre':(zpi++pre)++[encP y]<+:zpi++(Tr.prs r (a+l.size+1) f e).map encP:=by rw[mj];exact(List.prefix_append_right_inj zpi).2 hpre
       cases hb':stop ((zpi++pre)++[encP y])
       ·refine(ZF∘ZQ∘ZaO∘ZaI) ?_;refine q0 (ug (gs:=77) hY hpre' hstp (nh Bool.not hb') Z Z Z Z Z) ((Zt∘ZZ∘Zay) ?_);exact R8 nq (by rw[<-mj];exact hb') ⟨by rw[<-mj];rfl,nm⟩
       ·refine(ZF∘ZQ∘ZaO∘ZaI) ?_;refine q0 (ug (gs:=77) hY hpre' hstp (nh Bool.not hb') Z Z Z Z Z) ((Zt∘ZE) ?_);exact o8 (bi (G5 nq (by rw[<-mj];exact hb') Z ⟨by rw[<-mj];rfl,nm⟩))
      case st2=>
       intro l' D' o hstop;exact jf L 77 rfl (fun _ _ h=>h) (hsB.trans hs71) Z (by rw[htot])
      case dn2=>
       intro l' D' o hgo2;refine Zay (h:=?_);exact xp L 77 rfl (fun _ _ h=>h) (hsB.trans hs71) Z (by rw[htot])
abbrev tyP:TypeId:=293
abbrev tyS:TypeId:=290
def flat(l:List (KT×VT)):List Value:=l.flatMap fun y=>pl y.1 y.2
abbrev PS(l:List (KT×VT))(fu:Bool):Value->Heap->Prop:=SlV tyP 6 (flat l) l.length fu
def R0:∀ (pre:wo) (l:List (KT×VT)),pre<+:l.map encP->∃ m:List (KT×VT),pre=m.map encP/\m.length=pre.length/\pre.flatMap Eh=flat m:=by
 intro pre l h;refine⟨l.take pre.length,?_,?_,?_⟩
 ·rw[zmk];exact(List.prefix_iff_eq_take.1 h)
 ·rw[mw];have:=h.length_le;simp only[mn] at this;omega
 ·conv=>lhs;rw[List.prefix_iff_eq_take.1 h,<-zmk]
  generalize l.take pre.length=m
  induction m with
  | nil=>rfl
  | cons y m ih=>simp only[mq,zly,flat] at ih |-;rw[ih];rfl
def Mk(xs:wo):jh (fun _=>false) [] xs=xs:=by
 have:=Ez (stop:=fun _=>false) xs [] rfl;simpa using this
def zbd(l:List (KT×VT))(fu:Bool)(hB:zpk B w)(hv:PS l fu v B):Ret zpl 239 [v] w B (PS l true):=by
 refine yf Tryz.func239 Z Tryz.ntmps239 (np Z) hB (ju 0 (PS l fu) Z ma hv ((Z5∘Zk∘Zo∘Zo∘Zdz∘ZX∘Z1) ?_));refine ye1 L [.tmp 2] fun u H hH hle=>?_;exact fun v hv=>hv
def zbp(l:List (KT×VT))(hl:l.length<1099511627776){x:Value}{gf:Nat}(hB:zpk B w)(hx:(SlR tyP 6 0 []).P x B w C)(hC:ZCB C w B)
  (hfn:L.fn gf=some ()) (hit:∀ u H,zpk H u->B.Le H->zi2 zpl gf caps u H (l.map encP)):
  RetL zpl 240 [x,.func (.func gf) #[] caps.toArray] w B C (fun v H _=>PS l false v H):=by
 refine P2 0 (x:=x) (SlR tyP 6 0 []) Z Tryz.func240 Z Tryz.ntmps240 (np Z) hB hx hC ?_;refine G4 0 13 _ Z SlR.shape fun y hy=>?_;obtain⟨p,c,rfl⟩:=hy;refine(Zba∘ZaC∘ZcD) ?_;refine Aa 2 rfl fun b2 hb2=>?_;refine sw 13 [] Z Z ?_
 refine l7 L (gf:=gf) (caps:=caps) [(2,.pointer (some ⟨b2,0,none⟩))] (fun pre=>[(13,Sd b2 tyS (SlR tyP 6 pre.length (pre.flatMap Eh)))])
  (fun pre x=>[(13,.own (Sd b2 tyS (SlR tyP 6 pre.length (pre.flatMap Eh)))),(2,.is (.pointer (some ⟨b2,0,none⟩))),(5,.own (gj (Eh x) tyP))])
  (l.map encP) (fun _=>false) (fun _=>.ret) rfl rfl hfn ⟨rfl,rfl,nm⟩
  (fun pre p hp=>by simp only[mz] at hp;subst hp;exact ns _) rfl (fun x hx=>by obtain⟨y,_,rfl⟩:=zlb.1 hx;rfl) J hit ?asg ?bd ?dn ?st
 case asg=>
  intro w1 Ln B' l' D' o pre x' hpre hstp hBB;obtain⟨y,rfl⟩:=sg hpre;refine(ZM∘ZaT∘ZS) ?_;exact R7 nq ⟨Z,Z,Z,nm⟩
 case bd=>
  intro w1 Ln B' l' D' o pre x' hpre hstp hBB;obtain⟨y,rfl⟩:=sg hpre;have hlen:=hpre.length_le;simp only[nr,mn,nz,my] at hlen;refine Zam (h:=?_);refine cq 13 _ Z SlR.shape fun z hz=>?_;obtain⟨p,c,rfl⟩:=hz;refine(ZR∘ZcA) ?_;refine v7 8 13 rfl rfl ((ZaI∘Zap) ?_);refine q0 (ub L rfl rfl rfl (o6 rfl) rfl zh0 rfl rfl I I) ?_;refine ln 11 13 _ rfl SlR.shape fun z hz=>?_;obtain⟨p',c',rfl⟩:=hz;refine(ZdI∘ZS∘Zay) ?_;refine s0 13 [] Z Z (R8 nq Z ⟨?_,nm⟩);rw[zlz,nr];rfl
 case st=>
  intro l' D' o h;cases h
 case dn=>
  intro l' D' o _;rw[Mk];refine Zay (h:=?_);refine Zbq (h:=?_);refine cq 13 _ Z SlR.shape fun z hz=>?_;obtain⟨p,c,rfl⟩:=hz;refine(Zbx∘ZcA∘Zd) ?_;refine P4 4 13 rfl Z (ax 4 rfl ?_);refine Lu L (rs:=[.tmp 4]) Z (fun _ _ h=>h) nq fun O' u H hH hle=>?_;obtain⟨m,h1,h2,h3⟩:=R0 _ l (List.prefix_refl _)
  have hm:m=l:=by
   have:=List.map_inj_right (f:=encP) (fun a b h=>by
    simp only[encP,List.cons.injEq,Value.agg.injEq,and_true] at h;have h:=nh Array.toList h;simp at h
    first | exact Prod.ext h.1 h.2 | exact Prod.ext h.1 (Prod.ext (Prod.ext h.2.1 h.2.2.1) h.2.2.2) | exact Prod.ext (Prod.ext (Prod.ext h.1 h.2.1) h.2.2.1) h.2.2.2 | exact Prod.ext (Prod.ext (Prod.ext (Prod.ext h.1 h.2.1) h.2.2.1) (Prod.ext (Prod.ext h.2.2.2.1 h.2.2.2.2.1) h.2.2.2.2.2)) rfl) |>.1 h1
   exact this.symm
  subst hm;rw[h3];simp only[mn];exact fun v hv=>hv
def PS.mono{l:List (KT×VT)}:Kn.mono (.sat (PS l fu)):=ma
def R6{t:Tr KT VT}{x v:Value}(hB:zpk B w)(hx:(SlR tyP 6 0 []).P x B w C)(hC:ZCB C w B)(hv:PairsAt t 0 f e v B)(hs:t.size<1099511627776):
  RetL zpl 240 [x,v] w B C (fun v H _=>PS (Tr.prs t 0 f e) false v H):=by
 obtain⟨b1,b2,b3,b4,root,rfl,h1,h2,h3,h4,h5⟩:=hv;have hlen:=Tr.prs_length_le t 0 f e;exact zbp (Tr.prs t 0 f e) I hB hx hC Z fun u H hH hle=>za2 t 0 f e (zmm _) I hH (hle _ _ h1) (hle _ _ h2) (hle _ _ h3) (hle _ _ h4) (h5.le hle)
def Tm(t:Tr KT VT){a:Int}:(Tr.prs t a f e).length<=t.size:=Tr.prs_length_le t a f e
def rangeL(t:Tr KT VT)(f e:Int):List (KT×VT):=if max f 0>=min e t.size then [] else Tr.prs t 0 (max f 0) (min e t.size)
set_option maxRecDepth 10000 in
def Tj{fv:Value}{t:Tr KT VT}(f e:Int)(hB:zpk B w)(hv:TA t root B)(hs:t.size<1099511627776):
  Ret zpl 172 [.agg #[fv,root],.int .i64 f,.int .i64 e] w B (PS (rangeL t f e) true):=by
 refine yf Tryz.func172 Z Tryz.ntmps172 (np Z) hB ?_;unfold rangeL;by_cases h:max f 0>=min e t.size
 ·rw[na h];refine(ZA∘ZaM) ?_;refine z8 (Dr Z Z Z Z Z) Z ((Za∘ZbJ) ?_);refine z81 L Z (fun u H hH hle=>len_ret hH (hv.le hle)) ?_;refine z8 (zck Z Z Z Z Z) Z ((Zbk∘ZbK∘Zb8∘Zr∘ZR∘Zd) ?_);refine ye1 L [.tmp 6] fun u H hH hle=>?_;exact(SlV.nil (e:=tyP))
 ·rw[nc h];have hlen:=Tm t (a:=0) (f:=max f 0) (e:=min e t.size);have e1:(if (0:Int)>f then 0 else f)=max f 0:=I;have e2:(if (t.size:Int)<e then (t.size:Int) else e)=min e t.size:=I;refine(ZA∘ZaM) ?_;refine z8 (Dr Z Z Z Z E) Z ((Za∘ZbJ) ?_);refine z81 L Z (fun u H hH hle=>len_ret hH (hv.le hle)) ?_;refine z8 (zck Z Z Z Z E) Z ((Zbk∘ZbK∘Za1∘Zl) ?_);obtain⟨m,hm⟩:∃ m:Nat,min e (t.size:Int)-max f 0=m:=⟨(min e (t.size:Int)-max f 0).toNat,by omega⟩
  refine qh (id:=4) [(25,[19])] x8 T (Zn (h:=?_));refine zh (yt Z Z Z Z (yz I I)) Z (zh (zaf L _ Z Z Z zh0 Z Z E I (by simp only[maxLen];omega)) Z ?_);refine(Zb0∘Zn) ?_;refine zh (xi L Z Z (zo Z) Z Z Z PairsAt.mono (fun u H hH hle _=>Bn t 0 (max f 0) (min e t.size) hH (TA.le hv hle))) Z (xu (zai (q:=19) (cap:=[]) L Z Z Z Z Z PS.mono (fun u H C x hH hle hx hC v hv=>R6 hH hx hC hv hs)) Z Z (zh (xi L Z Z (zo Z) Z Z Z PS.mono (fun u H hH hle _ v hv=>zbd _ _ hH hv)) Z ((Zcr∘Zbz) ?_)));refine ye1 L [.tmp 6] fun u H hH hle=>?_;exact fun v hv=>hv
end Go.V.UT
namespace Go.V.UT
abbrev MF(cf:Nat)(t:Tr KT VT):Value->Heap->Prop:=MA (.func (.func cf) #[] #[]) t
def mput_m(hc:Cmp cf c)(k:KT)(x:VT){t:Tr KT VT}(hB:zpk B w)(hv:MF cf t v B)(hs:t.size+1<1099511627776):
  Ret zpl 179 [v,kv k,vv x] w B (MF cf (Tr.put c k x t)):=by
 obtain⟨p,rfl,h⟩:=hv;exact zaq hc k x hB h hs
def mdrop_m(hc:Cmp cf c)(k:KT){t:Tr KT VT}(hB:zpk B w)(hv:MF cf t v B)(hs:t.size<1099511627776):
  Ret zpl 178 [v,kv k] w B (MF cf (if (Tr.drop c k t).2=true then (Tr.drop c k t).1 else t)):=by
 obtain⟨p,rfl,h⟩:=hv;exact Uz hc k hB h hs
def len_m{fv:Value}{t:Tr KT VT}{v:Value}(hB:zpk B w)(hv:MA fv t v B)(hn:t.size=n):Ret zpl 103 [v] w B (fun v _=>v=.int .i64 n):=by
 obtain⟨p,rfl,h⟩:=hv;subst hn;exact len_ret hB h
def get_m(hc:Cmp cf c)(k:KT){t:Tr KT VT}{v:Value}(hB:zpk B w)(hv:MF cf t v B){o:Option VT}(ho:Tr.get c k t=o):
  Ret zpl 176 [v,kv k] w B (fun v _=>v=tup (zkf o)):=by
 obtain⟨p,rfl,h⟩:=hv;subst ho;exact ze9 hc k hB h
def range_m{fv:Value}{t:Tr KT VT}(f e:Int)(hB:zpk B w)(hv:MA fv t v B)(hs:t.size<1099511627776){l:List (KT×VT)}(hl:rangeL t f e=l):
  Ret zpl 172 [v,.int .i64 f,.int .i64 e] w B (PS l true):=by
 obtain⟨p,rfl,h⟩:=hv;subst hl;exact Tj f e hB h hs
end Go.V.UT
namespace Go.V.L6
open Go.V.L2 Go.V.L3
def _root_.Zew(t:Wr Y->A:=by intro h;refine z8 (yl (cs:=[_,_]) Z Z zkr Z Z) Z ?_;exact h.1)(h:Y):A:=t ⟨h⟩
abbrev fvC:Value:=.func (.func 101) #[] #[]
abbrev fvS:Value:=.func (.func 109) #[] #[]
abbrev tp:TypeId:=91
abbrev chv(x:U)(d:Bool):Value:=.agg #[.string x.1.1.1,.string x.1.1.2,.string x.1.2,.string x.2.1.1,.string x.2.1.2,.string x.2.2,.bool d]
attribute [local irreducible] V N X VO Par StepOK Has Ret RetL RetO Src
def Ys{a b:U}(hB:zpk B w):Ret zpl 109 [uv a,uv b] w B (fun v _=>v=.int .i64 (L9 a b)):=by
 refine yf Tryz.func109 Z Tryz.ntmps109 (np Z) hB ((ZaQ∘Zc∘Zcu∘Zbi∘Zdf∘Zbi∘Zdf) ?_);refine zh1 L Z (fun u H hH _=>cmpU_ret hH) ?_;refine(Zbi∘Zdf∘Zbi∘Zdf) ?_;refine zh1 L Z (fun u H hH _=>Gs hH) ?_;refine Zdv (h:=?_);refine zh (zy L Z Z (zo Z) Z Z Z (fun u H hH _ _ v hv=>Fi hH hv)) Z (Za3 (h:=?_));exact ye2 L [.tmp 4]
def zfj:UT.Cmp 101 jm:=⟨rfl,fun _ _ _ _ hH=>wq hH⟩
def zjs:UT.Cmp 109 L9:=⟨rfl,fun _ _ _ _ hH=>Ys hH⟩
def chT(c:U->U->Int)(x:U)(d:Bool)(t:Tr U Unit):Tr U Unit:=if d=true then (if (Tr.drop c x t).2=true then (Tr.drop c x t).1 else t) else Tr.put c x () t
def Eg{c:U->U->Int}(hc:UT.Cmp cf c){f:Value}{t:Tr U Unit}(hf:f=.func (.func cf) #[] #[]\/(f=.nilFunc/\t=.nil))(x:U)(d:Bool)(hB:zpk B w)(ht:UT.TA t (.pointer p) B)(hs:t.size+1<1099511627776):
  Ret zpl 108 [.agg #[f,.pointer p],chv x d,.func (.func cf) #[] #[]] w B (UT.MF cf (chT c x d t)):=by
 by_cases h0:t.size=0
 ·have hn:t=.nil:=by
   cases t with
   | nil=>rfl
   | node k y l r=>simp only[Tr.size] at h0;omega
  subst hn;have hz:UT.TA .nil (.pointer none) B:=rfl;refine yf Tryz.func108 Z Tryz.ntmps108 (np Z) hB ?_;unfold chT;cases d
  ·refine Zba (h:=?_);refine Nz 3 rfl fun b hb=>?_;refine(ZcE∘Zbw∘Z4∘ZaN∘Zc9) ?_;refine z81 L rfl (fun u H hH hle=>UT.len_m hH (⟨_,rfl,ht.le hle⟩) h0) ?_;refine(ZC∘ZE∘Zq) ?_;refine z81 L rfl (fun u H hH _=>UT.new_ret _ hH) ?_;refine(ZaN∘ZdI∘Zaz∘ZR∘Zac∘Zl∘ZY∘ZaN∘Zc9∘Zav∘Zcg) ?_;refine z8 (yl (cs:=[]) rfl rfl zg3 rfl rfl) rfl (z8 (xi (φ:=UT.MF cf (Tr.put c x () .nil)) L rfl rfl (zo rfl) rfl rfl rfl UT.MA.mono (fun u H hH hle _=>UT.mput_m hc x () hH (⟨_,rfl,hz.le hle⟩) hs)) rfl (v6 27 rfl ?_));rintro _ H27 hs27 ⟨q27,rfl,hp27⟩;refine(Zew∘Zau) ?_;refine ye L (rs:=[.cell 6 89]) Z (fun _ _ h=>h) hs27 fun u H hH hle=>?_;exact⟨_,qs Z,rfl,q27,rfl,hp27.le hle⟩
  ·refine Zba (h:=?_);refine Nz 3 rfl fun b hb=>?_;refine(ZcE∘Zbw∘Z4∘ZaN∘Zc9) ?_;refine z81 L rfl (fun u H hH hle=>UT.len_m hH (⟨_,rfl,ht.le hle⟩) h0) ?_;refine(ZC∘ZE∘Zq) ?_;refine z81 L rfl (fun u H hH _=>UT.new_ret _ hH) ?_;refine(ZaN∘ZdI∘Zaz∘ZR∘Zac∘Zr∘Z9∘ZaN∘Zc9∘Zav∘Zcg) ?_;refine z8 (xi (φ:=UT.MF cf (if (Tr.drop c x .nil).2=true then (Tr.drop c x .nil).1 else .nil)) L rfl rfl (zo rfl) rfl rfl rfl UT.MA.mono (fun u H hH hle _=>UT.mdrop_m hc x hH (⟨_,rfl,hz.le hle⟩) I)) rfl (v6 20 rfl ?_);rintro _ H20 hs20 ⟨q20,rfl,hp20⟩;refine(Zew∘Zau) ?_;refine ye L (rs:=[.cell 6 89]) Z (fun _ _ h=>h) hs20 fun u H hH hle=>?_;exact⟨_,qs Z,rfl,q20,rfl,hp20.le hle⟩
 ·obtain rfl:f=.func (.func cf) #[] #[]:=by
   rcases hf with h | ⟨_,h⟩
   ·exact h
   ·subst h;exact ni rfl h0
  refine yf Tryz.func108 Z Tryz.ntmps108 (np Z) hB ?_;unfold chT;cases d
  ·refine Zba (h:=?_);refine Nz 3 rfl fun b hb=>?_;refine(ZcE∘Zbw∘Z4∘ZaN∘Zc9) ?_;refine z81 L rfl (fun u H hH hle=>UT.len_m hH (⟨_,rfl,ht.le hle⟩) rfl) ?_;refine(Zs∘Z6∘ZR∘Zac∘Zl∘ZY∘ZaN∘Zc9∘Zav∘Zcg) ?_;refine z8 (yl (cs:=[]) rfl rfl zg3 rfl rfl) rfl (z8 (xi (φ:=UT.MF cf (Tr.put c x () t)) L rfl rfl (zo rfl) rfl rfl rfl UT.MA.mono (fun u H hH hle _=>UT.mput_m hc x () hH (⟨_,rfl,ht.le hle⟩) hs)) rfl (v6 27 rfl ?_));rintro _ H27 hs27 ⟨q27,rfl,hp27⟩;refine(Zew∘Zau) ?_;refine ye L (rs:=[.cell 6 89]) Z (fun _ _ h=>h) hs27 fun u H hH hle=>?_;exact⟨_,qs Z,rfl,q27,rfl,hp27.le hle⟩
  ·refine Zba (h:=?_);refine Nz 3 rfl fun b hb=>?_;refine(ZcE∘Zbw∘Z4∘ZaN∘Zc9) ?_;refine z81 L rfl (fun u H hH hle=>UT.len_m hH (⟨_,rfl,ht.le hle⟩) rfl) ?_;refine(Zs∘Z6∘ZR∘Zac∘Zr∘Z9∘ZaN∘Zc9∘Zav∘Zcg) ?_;refine z8 (xi (φ:=UT.MF cf (if (Tr.drop c x t).2=true then (Tr.drop c x t).1 else t)) L rfl rfl (zo rfl) rfl rfl rfl UT.MA.mono (fun u H hH hle _=>UT.mdrop_m hc x hH (⟨_,rfl,ht.le hle⟩) I)) rfl (v6 20 rfl ?_);rintro _ H20 hs20 ⟨q20,rfl,hp20⟩;refine(Zew∘Zau) ?_;refine ye L (rs:=[.cell 6 89]) Z (fun _ _ h=>h) hs20 fun u H hH hle=>?_;exact⟨_,qs Z,rfl,q20,rfl,hp20.le hle⟩
end Go.V.L6
namespace Go.V.L3
open Go.V Go.V.L2
abbrev fv(f:FT):Value:=.agg #[.string f.1.1.1,.string f.1.1.2,.string f.1.2,.string f.2.1.1.1,.string f.2.1.1.2,.string f.2.1.2,.bool f.2.2]
def FZ(f:FT):Prop:=(f.1.1.1.size<=1099511627776/\f.1.1.2.size<=1099511627776/\f.1.2.size<=1099511627776)/\f.2.1.1.1.size<=1099511627776/\f.2.1.1.2.size<=1099511627776/\f.2.1.2.size<=1099511627776
instance (f:FT):Decidable (FZ f):=inferInstanceAs (Decidable (_/\_))
attribute [local irreducible] V N X VO Par StepOK Has Ret RetL RetO RetT Src
end Go.V.L3
section
open Go.V
attribute [local irreducible] Has N Par Ret RetL Src StepOK V VO X
namespace Go.V.L3
open Go.V.L2
attribute [local irreducible] RetO RetT
def LE2.mk{a tv:Value}(h:φ tv H):TupS [φ,fun v _=>v=a] (.tuple #[tv,a]) H:=
 ⟨[tv,a],rfl,rfl,fun i ψ x hi hx=>by
  rcases i with _ | _ | i
  ·simp at hi hx;subst hi hx;exact h
  ·simp at hi hx;subst hi hx;rfl
  ·simp at hi⟩
def LE2.mono{φ:Value->Heap->Prop}{a:Value}(h:Kn.mono (.sat φ)):Kn.mono (.sat (TupS [φ,fun v _=>v=a])):=TupS.mono fun ψ hψ=>by
 rcases nw.1 hψ with rfl | hψ
 ·exact h
 ·rw[mz] at hψ;subst hψ;exact fun _ _ _ h _=>h
end Go.V.L3
namespace Go.V.L6
open Go.V.L2 Go.V.L3
def _root_.ZbX(t:Wr Y->A:=by intro h;refine z8 (qn L Z Z E Z) Z ?_;exact h.1)(h:Y):A:=t ⟨h⟩
def _root_.ZcW(t:Wr Y->A:=by intro h;refine z8 (zz L (vs:=[_,_,_,_]) (ya Z) Z Z Z Z ⟨_,rfl⟩) Z ?_;exact h.1)(h:Y):A:=t ⟨h⟩
def _root_.ZcJ(t:Wr Y->A:=by intro h;refine z8 (yl (cs:=[_,_,_,_]) Z Z zjb Z Z) Z ?_;exact h.1)(h:Y):A:=t ⟨h⟩
def _root_.Zdh(t:Wr Y->A:=by intro h;refine zh (zz L (vs:=[_,_,_,_]) (ya Z) Z Z Z Z ⟨_,rfl⟩) Z ?_;exact h.1)(h:Y):A:=t ⟨h⟩
def _root_.Zex(t:Wr Y->A:=by intro h;refine zh (zz L (vs:=[_,_,_,_,_,_,_]) (ya Z) Z Z Z Z ⟨_,rfl⟩) Z ?_;exact h.1)(h:Y):A:=t ⟨h⟩
def _root_.Zey(t:Wr Y->A:=by intro h;refine zh (Ue Z Z Z Z bt4 Z) Z ?_;exact h.1)(h:Y):A:=t ⟨h⟩
def SetV(l:List U):Value->Heap->Prop:=fun v H=>∃ p q t u,TS l t u/\UT.TA t (.pointer p) H/\UT.TA u (.pointer q) H/\
 (v=.agg #[fvC,.pointer p,fvS,.pointer q]\/(l=[]/\p=none/\q=none/\v=.agg #[.nilFunc,.pointer p,.nilFunc,.pointer q]))
def SetV.mono:Kn.mono (.sat (SetV l)):=fun _ _ _ ⟨p,q,t,u,h1,h2,h3,h4⟩ hle=>⟨p,q,t,u,h1,h2.le hle,h3.le hle,h4⟩
def SetV.le{H':Heap}(h:SetV l v H)(hle:H.Le H'):SetV l v H':=SetV.mono _ _ _ h hle
def SetV.shape(h:SetV l v H):∃ f p k q,v=.agg #[f,.pointer p,k,.pointer q]/\(jb (.agg #[f,.pointer p,k,.pointer q])).all v9=true:=by
 obtain⟨p,q,_,_,_,_,_,h | ⟨_,_,_,h⟩⟩:=h
 ·exact⟨_,_,_,_,h,rfl⟩
 ·exact⟨_,_,_,_,h,rfl⟩
abbrev nilSet:Value:=.agg #[.nilFunc,.pointer none,.nilFunc,.pointer none]
def SetV.nil{H:Heap}:SetV [] nilSet H:=⟨none,none,.nil,.nil,zgp,rfl,rfl,.inr ⟨rfl,rfl,rfl,rfl⟩⟩
attribute [local irreducible] RetO
def ff(hn:l.length=n){v:Value}(hB:zpk B w)(hv:SetV l v B):Ret zpl 36 [v] w B (fun v _=>v=.int .i64 n):=by
 subst hn;obtain⟨p,q,t,u,hT,ht,hu,rfl | ⟨rfl,rfl,rfl,rfl⟩⟩:=hv
 ·refine yf Tryz.func36 Z Tryz.ntmps36 (np Z) hB ((ZA∘Zas∘Zav∘Zav∘ZbJ) ?_);refine z81 L Z (fun u H hH hle=>UT.len_m hH (⟨_,rfl,ht.le hle⟩) hT.size) ?_;refine Zd (h:=?_);exact ye2 L [.tmp 2]
 ·refine yf Tryz.func36 Z Tryz.ntmps36 (np Z) hB ((ZA∘Zas∘Zav∘Zav∘ZbJ) ?_);refine z81 L Z (fun u H hH hle=>UT.len_m hH (⟨_,rfl,ht.le hle⟩) hT.size) ?_;refine Zd (h:=?_);exact ye2 L [.tmp 2]
def jo{x:U}{b:Bool}(hb:decide (x∈l)=b){v:Value}(hB:zpk B w)(hv:SetV l v B):Ret zpl 107 [v,uv x] w B (fun v _=>v=.bool b):=by
 have hv0:=hv;obtain⟨p,q,t,u,hT,ht,hu,rfl | ⟨rfl,rfl,rfl,rfl⟩⟩:=hv
 ·have hg:=hT.get x;refine yf Tryz.func107 Z Tryz.ntmps107 (np Z) hB ?_;by_cases h0:l.length=0
  ·have hn:l=[]:=m6 h0;subst hn;have hb':b=false:=by rw[<-hb];simp
   subst hb';refine(ZaQ∘Zaa∘ZcW) ?_;refine z81 L Z (fun u H hH hle=>ff Z hH (hv0.le hle)) ?_;refine(ZC∘ZbH∘Zd) ?_;exact ye2 L [.tmp 4]
  ·cases b
   ·have hx:x∉l:=by simpa using hb
    rw[nc hx] at hg;refine(ZaQ∘Zaa∘ZcW) ?_;refine z81 L Z (fun u H hH hle=>ff Z hH (hv0.le hle)) ?_;refine(Zs∘Zl∘ZR∘Zav∘Zav∘ZbJ∘Zcg) ?_;refine z81 L Z (fun u H hH hle=>UT.get_m zfj x hH (⟨_,rfl,ht.le hle⟩) hg) ?_;refine(Zbv∘Zc∘Z2∘Zd) ?_;exact ye2 L [.tmp 4]
   ·have hx:x∈l:=by simpa using hb
    rw[na hx] at hg;refine(ZaQ∘Zaa∘ZcW) ?_;refine z81 L Z (fun u H hH hle=>ff Z hH (hv0.le hle)) ?_;refine(Zs∘Zl∘ZR∘Zav∘Zav∘ZbJ∘Zcg) ?_;refine z81 L Z (fun u H hH hle=>UT.get_m zfj x hH (⟨_,rfl,ht.le hle⟩) hg) ?_;refine(Zbv∘Zc∘Z2∘Zd) ?_;exact ye2 L [.tmp 4]
 ·have hb':b=false:=by rw[<-hb];simp
  subst hb';refine yf Tryz.func107 Z Tryz.ntmps107 (np Z) hB ((ZaQ∘Zaa∘ZcW) ?_);refine z81 L Z (fun u H hH hle=>ff Z hH (hv0.le hle)) ?_;refine z8 (yh Z Z Z Z Z) Z ((ZbH∘Zd) ?_);exact ye2 L [.tmp 4]
def scs(x:Value×Option Addr×Value×Option Addr):List Value:=[x.1,.pointer x.2.1,x.2.2.1,.pointer x.2.2.2]
abbrev SXp:={ x:Value×Option Addr×Value×Option Addr//(scs x).all v9=true }
abbrev Ah(l:List U)(x:SXp)(H:Heap):Prop:=SetV l (.agg (scs x.1).toArray) H
def k7(l:List U):eg (Ah l):=fun _ _ _ h hle=>SetV.le h hle
def A8(v:Value)(H:Heap)(h:SetV l v H):∃ x:SXp,Ah l x H/\jb v=scs x.1:=by
 obtain⟨f,p,k,q,rfl,hp⟩:=h.shape;exact⟨⟨(f,p,k,q),hp⟩,h,rfl⟩
abbrev WithS(l:List U)(e:Int):Value->Heap->Prop:=TupS [SetV l,fun v _=>v=.int .i64 e]
def WithS.mono{l:List U}{e:Int}:Kn.mono (.sat (WithS l e)):=LE2.mono SetV.mono
def mf4{cg:Nat}{t u:Tr U Unit}{v1 v2:Value}(h1:UT.MF cf t v1 H)(h2:UT.MF cg u v2 H):∃ p q,v1=.agg #[.func (.func cf) #[] #[],.pointer p]/\v2=.agg #[.func (.func cg) #[] #[],.pointer q]/\UT.TA t (.pointer p) H/\UT.TA u (.pointer q) H:=by
 obtain⟨p,e1,h1⟩:=h1;obtain⟨q,e2,h2⟩:=h2;exact⟨p,q,e1,e2,h1,h2⟩
def zi6{t u:Tr U Unit}(h:TS l t u){x:U}{d:Bool}(hx:decide (x∈l)=d)(hc:d=false->l.length<4096)(he:tE x=0):TS (wa l x d).1 (chT jm x d t) (chT L9 x d u)/\(wa l x d).2=0:=by
 unfold wa chT;rw[na he];cases d
 ·have hx':x∉l:=by simpa using hx
  rw[nc J,nc hx',nc (by have:=hc rfl;omega),nc J,nc J];exact⟨h.put hx',rfl⟩
 ·have hx':x∈l:=by simpa using hx
  rw[na rfl,na rfl,na rfl];exact⟨h.drop hx',rfl⟩
def Es{m:List U}{x:U}{d:Bool}(hr:wa l x d=(m,e))(hl:l.length<=4096)(hz:TZ x)(hB:zpk B w)(hv:SetV l v B):
  Ret zpl 40 [v,chv x d] w B (WithS m e):=by
 obtain⟨f1,p1,f2,q1,hsh,hpl⟩:=hv.shape;by_cases he:tE x=0
 ·obtain⟨hin,hin0⟩:∃ b,decide (x∈l)=b:=⟨_,rfl⟩
  by_cases hd:hin=d
  ·subst hd;by_cases hfull:hin=false/\l.length=4096
   ·obtain⟨rfl,hlen⟩:=hfull
    have hw:wa l x false=([],3):=by
     unfold wa;rw[na he,nc J,nc (by simpa using hin0),na I]
    rw[hw] at hr;cases hr;subst hsh;refine yf Tryz.func40 Z Tryz.ntmps40 (np Z) hB ((ZaQ∘Z7∘Zaa∘Zav∘Zcg) ?_);refine z81 L Z (fun u H hH _=>he ▸ ki hz hH) ?_;refine(Zb2∘ZG∘Z6∘Zdo∘Zdh∘Zbi∘ZbA) ?_;refine zh1 L Z (fun u H hH hle=>jo hin0 hH (hv.le hle)) ?_;refine(Zb0∘Zey∘ZaY∘Zae∘ZaZ∘Zac∘Zt∘Za∘ZcW) ?_;refine z81 L Z (fun u H hH hle=>ff hlen hH (hv.le hle)) ?_;refine(ZC∘Zg∘Zr∘Z8∘ZcJ∘Za0) ?_;refine ye1 L [.cell 4 91,.tmp 5] fun u H hH hle=>?_;exact⟨_,qs Z,rfl,LE2.mk SetV.nil⟩
   ·have hc:hin=false->l.length<4096:=fun h=>by
     rcases m8 l.length 4096 with h' | h'
     ·exact h'
     ·exact ni ⟨h,by omega⟩ hfull
    obtain⟨p,q,t,u,hT,ht,hu,hv1⟩:=id hv;have hch:=zi6 hT hin0 hc he;rw[hr] at hch;obtain⟨hT',rfl⟩:=hch;have hts:=hT.size;have hus:=hT.zu
    have hf1:p1=p/\q1=q/\(f1=fvC\/(f1=.nilFunc/\t=.nil))/\(f2=fvS\/(f2=.nilFunc/\u=.nil)):=by
     rcases hv1 with h | ⟨h0,rfl,rfl,h⟩
     ·rw[hsh] at h;cases h;exact⟨rfl,rfl,.inl rfl,.inl rfl⟩
     ·rw[hsh] at h;cases h;subst h0
      have key:∀ {s:Tr U Unit},s.size=0->s=.nil:=fun {s} hs=>by
       cases s with
       | nil=>rfl
       | node k y l r=>simp only[Tr.size] at hs;omega
      exact⟨rfl,rfl,.inr ⟨rfl,key hts⟩,.inr ⟨rfl,key hus⟩⟩
    obtain⟨rfl,rfl,hf1,hf2⟩:=hf1;subst hsh;have hchg1:=fun(u1:World) (H:Heap) (hH:zpk H u1) (hle:B.Le H)=>Eg zfj hf1 x hin hH (ht.le hle) I;have hchg2:=fun(u1:World) (H:Heap) (hH:zpk H u1) (hle:B.Le H)=>Eg zjs hf2 x hin hH (hu.le hle) I;cases hin
    ·have hlen:=hc rfl;refine yf Tryz.func40 Z Tryz.ntmps40 (np Z) hB ((ZaQ∘Z7∘Zaa∘Zav∘Zcg) ?_);refine z81 L rfl (fun u H hH _=>he ▸ ki hz hH) ?_;refine(Zb2∘ZG∘Z6∘Zdo∘Zdh∘Zbi∘ZbA) ?_;refine zh1 L rfl (fun u H hH hle=>jo hin0 hH (hv.le hle)) ?_;refine(Zb0∘Zey∘ZaY∘Zae∘ZaZ∘Zac∘Zt∘Za∘ZcW) ?_;refine z81 L rfl (fun u H hH hle=>ff rfl hH (hv.le hle)) ?_;refine(Zs∘Zbd∘Zc3∘Zbi∘ZcG∘Zex) ?_;refine zh (xi (φ:=UT.MF 101 (chT jm x false t)) L rfl rfl (zo rfl) rfl rfl rfl UT.MA.mono (fun u H hH hle _=>hchg1 u H hH hle)) rfl ((Zbi∘ZcG∘Zex) ?_);refine zh (xi (φ:=UT.MF 109 (chT L9 x false u)) L rfl rfl (zo rfl) rfl rfl rfl UT.MA.mono (fun u H hH hle _=>hchg2 u H hH hle)) rfl (zh (Km (ψ:=SetV m) rfl rfl zjb SetV.mono (fun H _ v1 h1 v2 h2=>by obtain⟨p,q,rfl,rfl,k1,k2⟩:=mf4 h1 h2;exact⟨_,rfl,p,q,_,_,hT',k1,k2,.inl rfl⟩)) rfl ?_);refine zh (fq L (X:=SXp) (fun x=>scs x.1) (Ah m) (k7 m) A8 (fun x=>⟨rfl,x.2⟩) rfl rfl rfl rfl rfl) rfl (Za3 (h:=?_));refine vu 4 rfl fun x4 H4 hs4 hx4=>?_;refine ye L (rs:=[.cell 4 91,.tmp 5]) Z (fun _ _ h=>h) hs4 fun u H hH hle=>?_;exact⟨_,qs Z,rfl,LE2.mk (hx4.le hle)⟩
    ·refine yf Tryz.func40 Z Tryz.ntmps40 (np Z) hB ((ZaQ∘Z7∘Zaa∘Zav∘Zcg) ?_);refine z81 L rfl (fun u H hH _=>he ▸ ki hz hH) ?_;refine(Zb2∘ZG∘Z6∘Zdo∘Zdh∘Zbi∘ZbA) ?_;refine zh1 L rfl (fun u H hH hle=>jo hin0 hH (hv.le hle)) ?_;refine(Zb0∘Zey∘ZaY∘Zae∘ZaZ∘Zac∘Zt∘Zbr∘Zl∘Zc3∘Zbi∘ZcG∘Zex) ?_;refine zh (xi (φ:=UT.MF 101 (chT jm x true t)) L rfl rfl (zo rfl) rfl rfl rfl UT.MA.mono (fun u H hH hle _=>hchg1 u H hH hle)) rfl ((Zbi∘ZcG∘Zex) ?_);refine zh (xi (φ:=UT.MF 109 (chT L9 x true u)) L rfl rfl (zo rfl) rfl rfl rfl UT.MA.mono (fun u H hH hle _=>hchg2 u H hH hle)) rfl (zh (Km (ψ:=SetV m) rfl rfl zjb SetV.mono (fun H _ v1 h1 v2 h2=>by obtain⟨p,q,rfl,rfl,k1,k2⟩:=mf4 h1 h2;exact⟨_,rfl,p,q,_,_,hT',k1,k2,.inl rfl⟩)) rfl ?_);refine zh (fq L (X:=SXp) (fun x=>scs x.1) (Ah m) (k7 m) A8 (fun x=>⟨rfl,x.2⟩) rfl rfl rfl rfl rfl) rfl (Za3 (h:=?_));refine vu 4 rfl fun x4 H4 hs4 hx4=>?_;refine ye L (rs:=[.cell 4 91,.tmp 5]) Z (fun _ _ h=>h) hs4 fun u H hH hle=>?_;exact⟨_,qs Z,rfl,LE2.mk (hx4.le hle)⟩
  ·have hw:wa l x d=(l,0):=by
    unfold wa;rw[na he];cases d
    ·have:hin=true:=by cases hin;exact ni rfl hd;rfl
     subst this;rw[nc J,na (by simpa using hin0)]
    ·have:hin=false:=by cases hin;rfl;exact ni rfl hd
     subst this;rw[na rfl,Ru (by simpa using hin0)]
   rw[hw] at hr;cases hr;have hb:(hin == d)=false:=by cases hin<;>cases d<;>first | rfl | exact ni rfl hd
   subst hsh;refine yf Tryz.func40 Z Tryz.ntmps40 (np Z) hB ?_;have hb2:(!(hin == d))=true:=by rw[hb];rfl
   refine(ZaQ∘Z7∘Zaa∘Zav∘Zcg) ?_;refine z81 L Z (fun u H hH _=>he ▸ ki hz hH) ?_;refine(Zb2∘ZG∘Z6∘Zdo∘Zdh∘Zbi∘ZbA) ?_;refine zh1 L Z (fun u H hH hle=>jo hin0 hH (hv.le hle)) ?_;refine Zb0 (h:=?_);refine zh (Ue Z Z Z Z bt4 hb2) Z ((Zc4∘Ze∘ZY∘ZcW∘ZbX∘Zd) ?_);refine ye1 L [.cell 4 91,.tmp 5] fun u H hH hle=>?_;exact⟨_,qs Z,rfl,LE2.mk (hv.le hle)⟩
 ·have hw:wa l x d=([],tE x):=nc he;rw[hw] at hr;cases hr;subst hsh;refine yf Tryz.func40 Z Tryz.ntmps40 (np Z) hB ((ZaQ∘Z7∘Zaa∘Zav∘Zcg) ?_);refine z81 L Z (fun u H hH _=>ki hz hH) ?_;refine(Zb2∘Zao∘ZR∘ZcJ∘Za∘Za0) ?_;refine ye1 L [.cell 4 91,.tmp 5] fun u H hH hle=>?_;exact⟨_,qs Z,rfl,LE2.mk SetV.nil⟩
end Go.V.L6
namespace Go.V.L2
def Eu:∀ (l:List U),(l.flatMap ucs).length=l.length*6
 | []=>rfl
 | y::l=>by rw[zly,nr,Eu l,Ev,nz];omega
end Go.V.L2
end
namespace Go.V.L6
open Go.V.L2 Go.V.L3
def _root_.Zd4(t:Wr Y->A:=by intro h;refine z8 (qo L _ Z Z Z Z I) Z ?_;exact h.1)(h:Y):A:=t ⟨h⟩
def _root_.Zez(t:Wr Y->A:=by intro h;refine z8 (Q8 L Z Z Z Z) Z ?_;exact h.1)(h:Y):A:=t ⟨h⟩
def Vr(N:List (U×Unit)):UT.flat N=(kS N).flatMap ucs:=by
 unfold UT.flat kS;rw[List.flatMap_map];rfl
def Qt{t:Tr U Unit}{r:Nat}(hk:k<=t.size):kS (UT.rangeL t (r:Int) (k:Int))=((kS t.list).take k).drop r:=by
 unfold UT.rangeL;have h0:max (r:Int) 0=(r:Int):=I;have h1:min (k:Int) (t.size:Int)=(k:Int):=I;rw[h0,h1];by_cases h:(r:Int)>=k
 ·rw[na h,zlk (by rw[mw];omega)];rfl
 ·rw[nc h,Tr.prs_list];have:=Pl r k t.list 0;rw[show((0:Nat):Int)=0 from rfl] at this;rw[this,zm3,zm3];unfold kS;rw[zmz,zmk]
attribute [local irreducible] V N X VO Par StepOK Has Ret RetL RetO Src
def Ro{fv:Value}{t:Tr U Unit}{zpi:List U}(hM:kS (UT.rangeL t f e)=zpi)(hs:t.size<=100000)(hB:zpk B w)(ht:UT.TA t (.pointer p) B):
  RetO zpl 105 [.agg #[fv,.pointer p],.int .i64 f,.int .i64 e] w B (SlE tyU 6 zpi.length (zpi.flatMap ucs)):=by
 obtain⟨N,hN⟩:∃ N,UT.rangeL t f e=N:=⟨_,rfl⟩
 rw[hN] at hM;have hfl:=Vr N;have hNM:N.length=zpi.length:=by rw[<-hM];simp
 have hlen:zpi.length<=100000:=by
  rw[<-hNM,<-hN];unfold UT.rangeL;split
  ·exact mf _
  ·exact zld (Tr.prs_length_le _ _ _ _) hs
 have hat:∀ {k:Nat} {g:U},zpi[k]?=some g->((UT.flat N).drop (k*6)).take 6=[.string g.1.1.1,.string g.1.1.2,.string g.1.2,.string g.2.1.1,.string g.2.1.2,.string g.2.2]:=fun {k g} h=>by
  rw[hfl,hM];exact rq h
 clear hM hfl;refine vz Tryz.func105 Z Tryz.ntmps105 (np Z) hB ((ZA∘Zas∘Zav∘ZbJ∘Zb) ?_);refine z8 (xi (φ:=UT.PS N true) L Z Z (zo Z) Z Z Z UT.PS.mono (fun u H hH hle _=>UT.range_m _ _ hH (⟨_,rfl,ht.le hle⟩) I hN)) Z ((ZX∘Zf∘ZM∘Zo) ?_);refine z8 (Fs L _ Z Z Z zjr Z Z Z Z I (by simp only[maxLen];omega)) Z ?_;refine q0 (yw (.inr Z) Z) ((Zaz∘ZR∘Zcb) ?_);have hzl:=Db (P:=zpl) (k:=N.length*6) zjr;generalize zsL zpl tyU (N.length*6)=zs0 at hzl;rw[hNM] at hzl |-
 refine xo (fun s:Nat×List Value=>[(7,.sat (UT.PS N true)),(8,.own (SlE tyU 6 zpi.length ((zpi.take s.1).flatMap ucs++s.2))),(19,.is (.int .i64 zpi.length)),(20,.is (.int .i64 s.1))])
  (fun s=>s.1<=zpi.length/\s.2.length=(zpi.length-s.1)*6) (fun s=>zpi.length-s.1) (0,zs0) ⟨mf _,hzl⟩ ⟨rfl,rfl,rfl,rfl,nm⟩ ?_
 rintro⟨k,zs⟩ ⟨hk,hz⟩;dsimp only at hk hz |-;by_cases hlt:k<zpi.length
 ·obtain⟨g,hg⟩:=xw hlt;have hc:=hat hg;have hlN:k<N.length:=I;have ht1:zpi.take (k+1)=zpi.take k++[g]:=by rw[zls,hg];rfl
  have hr:List.take (0+k*6) ((zpi.take k).flatMap ucs++zs)++(ucs g++List.drop (0+k*6+6) ((zpi.take k).flatMap ucs++zs))=(zpi.take (k+1)).flatMap ucs++zs.drop 6:=by
   rw[ht1,zlf];exact zgv Ev (zpi.take k) k zpi.length zs g (by rw[mw];omega) hz hlt
  have hlen':((zpi.take (k+1)).flatMap ucs++zs.drop 6).length=zpi.length*6:=by
   rw[nr,Eu,mw,zlc,hz];omega
  refine zij 8 I Z fun b hb=>?_;have hle1:0+k*6+6<=((zpi.take k).flatMap ucs++zs).length:=by rw[hb.1];omega
  refine(Zbx∘Zx∘Zar∘Zd∘ZP∘Zb∘Zk∘Za∘Zab∘Zez∘Zcm∘Zd4) ?_;refine Lm L (O1:=[]) (cs':=(zpi.take (k+1)).flatMap ucs++zs.drop 6) Z Z Z Z Z Z (zn3 hle1) Z hr (ZbN (h:=?_));refine zby (s:=6) 8 [] Z Z hlen' hb.2 ?_;refine(Z8∘Zbh) ?_;exact ym (x:=(k,zs)) (k+1,zs.drop 6) ⟨hlt,by dsimp only;rw[List.length_drop,hz];omega⟩ M ⟨Z,Z,Z,Z,trivial⟩
 ·obtain rfl:k=zpi.length:=by omega
  have hzn:zs=[]:=m6 (by rw[hz];omega);rw[hzn,mo,zlm];refine(Zbx∘ZaK∘ZK) ?_;refine q0 (yw (.inl Z) Z) (q0 (yw (.inr Z) Z) (Z1 (h:=?_)));exact o9 Z (fun _ _ h=>h) nq Z
def SetV.trees(hv:SetV l v B):∃ f p k q t u,v=.agg #[f,.pointer p,k,.pointer q]/\TS l t u/\UT.TA t (.pointer p) B/\UT.TA u (.pointer q) B:=by
 obtain⟨p,q,t,u,hT,ht,hu,rfl | ⟨rfl,rfl,rfl,rfl⟩⟩:=hv
 ·exact⟨_,_,_,_,t,u,rfl,hT,ht,hu⟩
 ·exact⟨_,_,_,_,t,u,rfl,hT,ht,hu⟩
def zgt(hl:l.length<=100000)(hB:zpk B w)(hv:SetV l v B):RetO zpl 38 [v] w B (SlE tyU 6 l.length (l.flatMap ucs)):=by
 obtain⟨f,p,k,q,t,u,rfl,hT,ht,hu⟩:=hv.trees;have hts:=hT.size
 have hr:kS (UT.rangeL t 0 (l.length:Int))=l:=by
  have:=Qt (t:=t) (r:=0) (k:=l.length) I;rw[show((0:Nat):Int)=0 from rfl] at this;rw[this,hT.kt,zl5,zlm]
 refine vz Tryz.func38 Z Tryz.ntmps38 (np Z) hB ((ZA∘Zc) ?_);refine qh (id:=1) [(2,[7])] x8 T ((Zbi∘ZcG∘Zdh) ?_);refine zh1 L Z (fun u H hH hle=>ff Z hH (hv.le hle)) ?_;refine zh (u5 L Z Z (zo Z) Z Z Z (fun u H hH hle _=>Ro hr I hH (ht.le hle))) Z (xu (yw (.inr Z) Z) Z Z (Zbz (h:=?_)));exact o9 Z (fun _ _ h=>h) nq Z
attribute [local irreducible] RetT
end Go.V.L6
namespace Go.V.L6
open Go.V.L2 Go.V.L3
def _root_.Zbp(t:Wr Y->A:=by intro h;refine z8 (zz L (vs:=[_,_,_,_]) (qs Z) Z Z Z Z ⟨_,rfl⟩) Z ?_;exact h.1)(h:Y):A:=t ⟨h⟩
def _root_.ZcX(t:Wr Y->A:=by intro h;refine z8 (yl (cs:=[_,_,_,_,_,_,_]) Z Z zj9 Z Z) Z ?_;exact h.1)(h:Y):A:=t ⟨h⟩
def LE2.out{a v:Value}(h:TupS [φ,fun v _=>v=a] v H):∃ tv,v=.tuple #[tv,a]/\φ tv H:=by
 obtain⟨vs,rfl,hl,h⟩:=h
 match vs,hl with
 | [x,y],_=>
  have h1:=h 0 _ x rfl rfl;have h2:=h 1 _ y rfl rfl;subst h2;exact⟨x,rfl,h1⟩
def WithP(l:List U)(e:Int)(r:Value)(H:Heap):Prop:=∃ tv,r=.tuple #[tv,.int .i64 e]/\SetV l tv H
def WithP.mono:Kn.mono (.sat (WithP l e)):=fun _ _ _ ⟨tv,h1,h2⟩ hle=>⟨tv,h1,h2.le hle⟩
def aa(hl:l.length<=100000)(hB:zpk B w)(hv:SetV l v B):Ret zpl 38 [v] w B (US l true):=(zgt hl hB hv).toRet a8
def s6{m:List U}{x:U}{d:Bool}(hr:wa l x d=(m,e))(hl:l.length<=4096)(hz:TZ x)(hB:zpk B w)(hv:SetV l v B):
  Ret zpl 40 [v,chv x d] w B (WithP m e):=(Es hr hl hz hB hv).mono fun _ _ _ h=>LE2.out h
attribute [local irreducible] V N X VO Par StepOK Has Ret RetL RetO RetT Src
abbrev zk5:Nat:=102
def Vu{a b:List U}{fa fb:Bool}(hla:a.length<=1000000)(hlb:b.length<=1000000)(hr:decide (a=b)=r){va vb:Value}(hB:zpk B w)(ha:US a fa va B)(hb:US b fb vb B):
  Ret zpl zk5 [va,vb] w B (fun v _=>v=.bool r):=by
 subst hr;refine yf Tryz.func102 Z Tryz.ntmps102 (np Z) hB (ju 0 (US a fa) Z ma ha (ju 1 (US b fb) Z ma hb ?_));by_cases hl:a.length=b.length
 ·refine(ZL∘Zaa∘Zo∘Zo∘ZG∘Z6∘ZR∘Zcb) ?_;refine xo (fun k:Nat=>[(0,.sat (US a fa)),(1,.sat (US b fb)),(12,.is (.int .i64 a.length)),(13,.is (.int .i64 k))]) (fun k=>k<=a.length/\a.take k=b.take k) (fun k=>a.length-k) 0 ⟨mf _,rfl⟩ ⟨Z,Z,Z,Z,nm⟩ ?_;rintro k ⟨hk,he⟩;by_cases hlt:k<a.length
  ·obtain⟨x,hx⟩:=xw hlt;obtain⟨y,hy⟩:=xw (show k<b.length by omega);have hcx:=rq hx;have hcy:=rq hy;by_cases hxy:x=y
   ·have hq:=eqU (nf hxy);refine(Zbx∘Zx∘Zar∘Zc∘Zd1∘Zak∘Zj∘ZbS∘Zcf∘Zak∘Zj∘ZbS∘Zcf) ?_;refine zh (Ug Z Z Z Z zkg E Z) Z ((ZaY∘ZcY∘ZaB∘ZK∘Zbh) ?_);exact ym (x:=k) (k+1) ⟨hlt,by rw[zb9 hx,zb9 hy,he,hxy]⟩ I ⟨Z,Z,Z,Z,nm⟩
   ·have hq:=eqU (ng hxy);have hab:a≠b:=fun e=>hxy (by rw[e,hy] at hx;exact(Option.some.inj hx).symm);rw[ng hab];refine(Zbx∘Zx∘Zar∘Zc∘Zd1∘Zak∘Zj∘ZbS∘Zcf∘Zak∘Zj∘ZbS∘Zcf) ?_;refine zh (Ug Z Z Z Z zkg E Z) Z ((Zc4∘Ze∘Z8∘Zd) ?_);exact ye2 L [.tmp 4]
  ·obtain rfl:k=a.length:=by omega
   have hab:a=b:=by rw[zlm,hl,zlm] at he;exact he
   rw[nf hab];refine(Zbx∘ZaK∘ZQ∘Zd) ?_;exact ye2 L [.tmp 4]
 ·have hab:a≠b:=fun e=>hl (by rw[e]);rw[ng hab];refine(ZL∘Zaa∘Zo∘Zo∘Zao∘ZM∘Zd) ?_;exact ye2 L [.tmp 4]
def S9{a b:List U}(hla:a.length<=100000)(hlb:b.length<=100000)(hr:decide (a=b)=r){va vb:Value}(hB:zpk B w)(ha:SetV a va B)(hb:SetV b vb B):
  Ret zpl 35 [va,vb] w B (fun v _=>v=.bool r):=by
 obtain⟨f1,p1,f2,q1,hsh,hpl⟩:=ha.shape;subst hsh;obtain⟨f3,p3,f4,q3,hsh,hpl3⟩:=hb.shape;subst hsh;refine yf Tryz.func35 Z Tryz.ntmps35 (np Z) hB ((ZaQ∘Zas∘Zc∘Zd0∘Zj∘Zdh) ?_);refine zh (xi (φ:=US a true) L Z Z (zo Z) Z Z Z ma (fun u H hH hle _=>aa hla hH (ha.le hle))) Z ((Zj∘Zdh) ?_);refine zh (xi (φ:=US b true) L Z Z (zo Z) Z Z Z ma (fun u H hH hle _=>aa hlb hH (hb.le hle))) Z (zh (zy L Z Z (zo Z) Z Z Z (fun u H hH _ _ v1 h1 v2 h2=>Vu I I hr hH h1 h2)) Z (Za3 (h:=?_)));exact ye2 L [.tmp 4]
def zds{l m:List U}(hr:ofU [] l=(m,e))(hl:l.length<=100000)(hz:∀ t∈l,TZ t)(hB:zpk B w)(hv:US l fu v B):
  Ret zpl 31 [v] w B (WithP m e):=by
 refine yf Tryz.func31 Z Tryz.ntmps31 (np Z) hB (ju 0 (US l fu) Z ma hv ((Zaj∘Zas∘Zbw∘ZM∘Zcb) ?_));refine bn (X:=SXp) 4 (r:=fun x=>gj (scs x.1) tp) (φ:=Ah []) (k7 []) ⟨(.nilFunc,none,.nilFunc,none),rfl⟩ SetV.nil Z ?_
 refine xo (fun y:Nat×List U=>[(2,.own (gj [.nilFunc,.pointer none,.nilFunc,.pointer none] tp)),(4,.own (ExR (fun x:SXp=>gj (scs x.1) tp) (Ah y.2) (k7 y.2))),(9,.sat (US l fu)),(10,.is (.int .i64 l.length)),(11,.is (.int .i64 y.1))])
  (fun y=>y.1<=l.length/\ofU y.2 (l.drop y.1)=(m,e)/\y.2.length<=4096) (fun y=>l.length-y.1) (0,[]) ⟨mf _,hr,mf _⟩ ⟨rfl,rfl,rfl,rfl,rfl,nm⟩ ?_
 rintro⟨k,s⟩ ⟨hk,he,hsl⟩;dsimp only at hk he hsl |-;refine vu 4 rfl fun⟨⟨f1,p1,f2,q1⟩,hpl⟩ H3 hs3 hT=>?_;have hT:SetV s (.agg #[f1,.pointer p1,f2,.pointer q1]) H3:=hT;by_cases hlt:k<l.length
 ·obtain⟨t,ht⟩:=xw hlt;have hc:=rq ht;have hzt:=hz t (zlg ht);rw[eo ht,ofU] at he;rcases hw:wa s t false with ⟨s',e'⟩
  rw[hw] at he;dsimp only at he;have hsl':=As hsl t false;rw[hw] at hsl';by_cases h0:e'=0
  ·rw[na h0] at he;subst h0;refine(Zcc∘Zx∘Z9∘Zab∘Zcm∘Zbu∘ZY∘Zbp∘ZaI∘ZcX) ?_;refine z8 (xi (φ:=WithP s' 0) L rfl rfl (zo rfl) rfl rfl rfl WithP.mono (fun u H hH hle _=>s6 hw hsl hzt hH (hT.le hle))) rfl (v6 19 rfl ?_);rintro _ H19 hs19 ⟨tv,rfl,hT19⟩;obtain⟨g1,r1,g2,r2,rfl,hpl2⟩:=hT19.shape;refine(Zy∘Z7∘ZbX∘Zi∘ZH∘ZG∘ZZ∘Zbq∘ZK∘Zbp∘ZbX∘ZbN∘ZQ∘Zbh) ?_;exact ep (X:=SXp) 4 (r:=fun x=>gj (scs x.1) tp) (φ:=Ah s') (k7 _) ⟨(g1,r1,g2,r2),hpl2⟩ hT19 Z (wx (x:=(k,s)) (k+1,s') (hs3.trans hs19) ⟨hlt,he,hsl'⟩ M ⟨Z,Z,Z,Z,Z,nm⟩)
  ·rw[nc h0] at he;cases he;refine(Zcc∘Zx∘Z9∘Zab∘Zcm∘Zbu∘ZY∘Zbp∘ZaI∘ZcX) ?_;refine z8 (xi (φ:=WithP s' e) L rfl rfl (zo rfl) rfl rfl rfl WithP.mono (fun u H hH hle _=>s6 hw hsl hzt hH (hT.le hle))) rfl (v6 19 rfl ?_);rintro _ H19 hs19 ⟨tv,rfl,hT19⟩;obtain⟨g1,r1,g2,r2,rfl,hpl2⟩:=hT19.shape;refine(Zy∘Z7∘ZbX∘Zi∘ZH∘Zao∘Z8∘ZcJ∘Za∘Za0) ?_;refine ye L (rs:=[.cell 2 91,.tmp 3]) Z (fun _ _ h=>h) (hs3.trans hs19) fun u H hH hle=>?_;exact⟨_,qs Z,rfl,_,rfl,SetV.nil⟩
 ·obtain rfl:k=l.length:=by omega
  rw[zno,ofU] at he;cases he;refine(Zcc∘ZaK∘Zah∘Zbp∘ZbX∘Zd) ?_;refine ye L (rs:=[.cell 2 91,.tmp 3]) Z (fun _ _ h=>h) hs3 fun u H hH hle=>?_;exact⟨_,qs Z,rfl,_,rfl,hT.le hle⟩
end Go.V.L6
namespace Go.V.L3
open Go.V.L2
attribute [local irreducible] V N X VO Par StepOK Has Ret RetL RetO RetT Src
end Go.V.L3
namespace Go.V.L6
open Go.V.L2 Go.V.L3
def zgq(t:U):tE t=0\/tE t=6:=by
 unfold tE;split
 ·exact Sy _ _ _
 ·rename_i h;exact .inr ((Gz _).resolve_left h)
def G8{x z:U}{d:Bool}(h:z∈(wa l x d).1):z∈l\/z=x:=by
 unfold wa at h;split at h
 ·split at h
  ·exact .inl (zl3.1 h).1
  ·split at h
   ·exact .inl h
   ·split at h
    ·cases h
    ·exact(ge.1 h).symm
 ·cases h
attribute [local irreducible] V N X VO Par StepOK Has Ret RetL RetO RetT Src
end Go.V.L6
namespace Go.V.L2
def TM(t:U):Prop:=(t.1.1.1.size<=9223372036854775807/\t.1.1.2.size<=9223372036854775807/\t.1.2.size<=9223372036854775807)/\t.2.1.1.size<=9223372036854775807/\t.2.1.2.size<=9223372036854775807/\t.2.2.size<=9223372036854775807
attribute [local irreducible] V N X VO Par StepOK Has Ret RetL Src
end Go.V.L2
namespace Go.V.L8
open Go.V.L2 Go.V.L3 Go.V.L6
abbrev tyM:TypeId:=362
abbrev tyC:TypeId:=42
abbrev zkn:TypeId:=223
abbrev zde:TypeId:=39
def ccs(c:CH):List Value:=[.string c.1.1.1.1,.string c.1.1.1.2,.string c.1.1.2,.string c.1.2.1.1,.string c.1.2.1.2,.string c.1.2.2,.bool c.2]
def Xf(c:CH):(ccs c).length=7:=rfl
abbrev KS(ty:TypeId)(l:List CH)(fu:Bool):Value->Heap->Prop:=SlV ty 7 (l.flatMap ccs) l.length fu
def C8{l:List CH}{c:CH}(h:l[i]?=some c):((l.flatMap ccs).drop (i*7)).take 7=[.string c.1.1.1.1,.string c.1.1.1.2,.string c.1.1.2,.string c.1.2.1.1,.string c.1.2.1.2,.string c.1.2.2,.bool c.2]:=cn Xf l i c h
def pf{s:Nat}{r:List CH}{c:CH}(h:κ s=some (.own (SlR ty 7 (r.length+1) (r.flatMap ccs++[.string c.1.1.1.1,.string c.1.1.1.2,.string c.1.1.2,.string c.1.2.1.1,.string c.1.2.1.2,.string c.1.2.2,.bool c.2])))):κ s=some (.own (SlR ty 7 (r++[c]).length ((r++[c]).flatMap ccs))):=by
 rw[h,zlz,nr];rfl
def zju{l:List CH}(hl:¬ n<l.length){c:CH}(hc:l[i]?=some c)(h:¬ tE c.1=0):cE n l=6:=by
 unfold cE;rw[nc hl,na];rw[zn1];exact⟨c,zlg hc,by simp [h]⟩
def zh7{l:List CH}(hl:¬ n<l.length)(h:∀ (j:Nat) c,l[j]?=some c->tE c.1=0):cE n l=0:=by
 unfold cE;rw[nc hl,nc];rw[zn1];rintro⟨c,hc,h1⟩;obtain⟨j,hj⟩:=zl0 hc;rw[nf (h j c hj)] at h1;cases h1
attribute [local irreducible] V N X VO Par StepOK Has Ret RetL RetO RetT Src
def Sw{t:U}(hz:TM t)(hB:zpk B w):Ret zpl 100 [uv t] w B (fun v _=>v=.int .i64 (tE t)):=by
 obtain⟨⟨z1,z2,z3⟩,z4,z5,z6⟩:=hz;unfold tE;refine yf Tryz.func100 Z Tryz.ntmps100 (np Z) hB ?_;by_cases h:gl [t.1.1.1,t.1.1.2,t.1.2]=0
 ·rw[na h];refine(ZA∘Zaa∘Zav∘ZcF) ?_;refine z81 L Z (fun u H hH _=>goal_ret G G G hH) ?_;refine(Zb2∘ZaE∘Z9∘Zav∘ZcF∘Zfc∘Zd) ?_;exact ye2 L [.tmp 2]
 ·rw[nc h];refine(ZA∘Zaa∘Zav∘ZcF) ?_;refine z81 L Z (fun u H hH _=>goal_ret G G G hH) ?_;refine(Zb2∘Zao∘Zu∘Zd) ?_;exact ye2 L [.tmp 2]
def zeu{l:List CH}{c:CH}(hc0:l[i]?=some c)(hB:zpk B w)(hb:B b=some (.cells #[v] zkn))(hv:KS tyM l fu v B):
  Ret zpl 252 ([.int .i64 i]++[.pointer (some ⟨b,0,none⟩)]) w B (fun r _=>r=uv c.1):=by
 have hc:=C8 hc0;have hil:=get_lt hc0;refine yf Tryz.func252 Z Tryz.ntmps252 (np Z) hB ((ZbW∘Z4∘ZaO) ?_);refine Et 4 (KS tyM l fu) Z ma hv ((Za∘Zab∘Zez∘Zcm∘Zau) ?_);refine ye1 L [.cell 3 34] fun u H hH hle=>?_;refine Zd2 (h:=?_);rfl
def zfq{l:List CH}{c:CH}(hc0:l[i]?=some c)(hB:zpk B w)(hb:B b=some (.cells #[v] zde))(hv:KS tyC l fu v B):
  Ret zpl 253 ([.int .i64 i]++[.pointer (some ⟨b,0,none⟩)]) w B (fun r _=>r=uv c.1):=by
 have hc:=C8 hc0;have hil:=get_lt hc0;refine yf Tryz.func253 Z Tryz.ntmps253 (np Z) hB ((ZbW∘Z4∘ZaO) ?_);refine Et 4 (KS tyC l fu) Z ma hv ((Za∘Zab∘Zez∘Zcm∘Zau) ?_);refine ye1 L [.cell 3 34] fun u H hH hle=>?_;refine Zd2 (h:=?_);rfl
def Dx{l:List CH}(hz:∀ c∈l,TM c.1)(hl:l.length<=9223372036854775807)(hfn:L.fn cf=some ())(he:cE 32 l=e)(hB:zpk B w)
  (hcl:∀ (i:Nat) (c:CH),l[i]?=some c->∀ (u:World) (H:Heap),zpk H u->B.Le H->Ret zpl cf ([.int .i64 i]++caps) u H (fun r _=>r=uv c.1)):
  Ret zpl 251 [.int .i64 l.length,.func (.func cf) #[] caps.toArray] w B (fun v _=>v=.int .i64 e):=by
 subst he;refine yf Tryz.func251 Z Tryz.ntmps251 (np Z) hB ?_;by_cases h32:32<l.length
 ·have:cE 32 l=3:=na h32;rw[this];refine(ZbG∘ZN∘ZbH∘Zd) ?_;exact ye2 L [.tmp 4]
 ·refine(ZbG∘ZD∘Z6∘Zcq∘ZcD) ?_;refine xo (fun i:Nat=>[(1,.is (.func (.func cf) #[] caps.toArray)),(9,.is (.int .i64 l.length)),(10,.is (.int .i64 i))]) (fun i=>i<=l.length/\∀ (j:Nat) c,j<i->l[j]?=some c->tE c.1=0) (fun i=>l.length-i) 0 ⟨mf _,fun j c h=>ni h (Nat.not_lt_zero _)⟩ ⟨Z,Z,Z,nm⟩ ?_;rintro i ⟨hi,hok⟩;by_cases hlt:i<l.length
  ·obtain⟨c,hc⟩:=xw hlt;have hzc:=hz c (zlg hc);by_cases h0:tE c.1=0
   ·refine(Zbx∘Zx∘Zar∘Zc∘ZP∘Zb) ?_;refine z8 (zy L Z Z (zo Z) Z Z hfn (fun u H hH hle _=>hcl i c hc u H hH hle)) Z (z81 L Z (fun u H hH _=>h0 ▸ Sw hzc hH) ?_);refine(Zc∘Z3∘ZG∘Zca∘ZQ∘Zbh) ?_
    exact ym (x:=i) (i+1) ⟨hlt,fun j c' hj hc'=>by
     rcases m8 j i with h | h
     ·exact hok j c' h hc'
     ·have:j=i:=I;subst this;rw[hc] at hc';cases hc';exact h0⟩ I ⟨rfl,rfl,rfl,nm⟩
   ·have h6:=(zgq c.1).resolve_left h0;rw[zju h32 hc h0];refine(Zbx∘Zx∘Zar∘Zc∘ZP∘Zb) ?_;refine z8 (zy L Z Z (zo Z) Z Z hfn (fun u H hH hle _=>hcl i c hc u H hH hle)) Z (z81 L Z (fun u H hH _=>h6 ▸ Sw hzc hH) ?_);refine(Zc∘Z3∘Zao∘Za4∘Zd) ?_;exact ye2 L [.tmp 4]
  ·rw[zh7 h32 (fun j c hj=>hok j c (by have:=get_lt hj;omega) hj)];refine(Zbx∘ZaK∘Zah∘Zd) ?_;exact ye2 L [.tmp 4]
def Hu{e:TypeId}{s:Nat}(h:SlV e s xs n fu v H):∃ p m c,v=.slice p m c:=by
 rcases h.2 with ⟨_,_,h⟩ | ⟨b,off,cap,cs,ty0,fr,h,_⟩
 ·exact⟨_,_,_,h⟩
 ·exact⟨_,_,_,h⟩
def a7{l:List CH}(hz:∀ c∈l,TM c.1)(hl:l.length<=9223372036854775807)(he:cE 32 l=e)(hB:zpk B w)(hv:KS tyM l fu v B):
  Ret zpl 191 [v] w B (fun r _=>r=.int .i64 e):=by
 obtain⟨p,m,c,rfl⟩:=Hu hv;refine yf Tryz.func191 Z Tryz.ntmps191 (np Z) hB ((ZA∘Zc) ?_);refine Cw 1 rfl fun q H1 hs1 ⟨b,hpb,hb1⟩=>?_;subst hpb;refine(Z4∘ZaO) ?_;refine Et 3 (KS tyM l fu) Z ma (hv.le hs1.le) ((Zdu∘Za8) ?_);refine z81 L Z (fun u H hH hle=>Dx (caps:=[.pointer (some ⟨b,0,none⟩)]) hz hl Z he hH (fun i c hc u' H' hH' hle'=>zeu hc hH' (hle' _ _ (hle _ _ hb1)) ((hv.le hs1.le).le (Heap.Le.trans hle hle')))) ?_;refine Zd (h:=?_);refine ye L (rs:=[.tmp 2]) Z (fun _ _ h=>h) hs1 fun u H hH hle=>?_;rfl
end Go.V.L8
namespace Go.V.L11
open Go.V.L2 Go.V.L4 Go.V.Bd Go.V.L8
def _root_.ZcB(t:Wr Y->A:=by intro h;refine z8 (yv L (vs:=[_,_,_,_,_,_,_]) Z Z Z Z Z ⟨_,rfl⟩) Z ?_;exact h.1)(h:Y):A:=t ⟨h⟩
def _root_.ZcK(t:Wr Y->A:=by intro h;refine z8 (zz L (vs:=[_,_,_,_,_,_,_]) (qs Z) Z Z Z Z ⟨_,rfl⟩) Z ?_;exact h.1)(h:Y):A:=t ⟨h⟩
def _root_.Ze0(t:Wr Y->A:=by intro h;refine zh (zz L (vs:=[_,_,_,_,_,_,_]) (qs Z) Z Z Z Z ⟨_,rfl⟩) Z ?_;exact h.1)(h:Y):A:=t ⟨h⟩
abbrev cvC(t:CH):Value:=.agg #[.string t.1.1.1.1,.string t.1.1.1.2,.string t.1.1.2,.string t.1.2.1.1,.string t.1.2.1.2,.string t.1.2.2,.bool t.2]
def zf8(t:CH):ByteArray:=if t.2=true then ⟨#[45]⟩ else ⟨#[43]⟩
def E5(t:CH):(zf8 t).size=1:=by unfold zf8;split<;>rfl
def t7(t:CH):ByteArray:=(zf8 t++tT t.1)++⟨#[10]⟩
def ip(l:List CH):List Nat:=l.flatMap fun t=>g8 (t7 t)
def Yh:List CH->Int
 | []=>0
 | t::l=>if tE t.1≠0 then tE t.1 else Yh l
def Sn{l:List CH}{t:CH}(hi:l[i]?=some t):Yh (l.drop i)=if tE t.1≠0 then tE t.1 else Yh (l.drop (i+1)):=by
 rw[zl4 (get_lt hi),f9 hi];rfl
def Df{l:List CH}{t:CH}(hi:l[i]?=some t):ip (l.take (i+1))=ip (l.take i)++g8 (t7 t):=by
 unfold ip;rw[v8 hi,zlz,zly,List.flatMap_nil,mo]
def io{l:List CH}(hs:∀ t∈l,(t7 t).size<=1000):∀ i,(ip (l.take i)).length<=i*1000
 | 0=>by rw[zl2];exact ns _
 | i+1=>by
  cases h:l[i]? with
  | none=>
   have:=zo6.1 h;rw[zle I];have h2:=io hs i;rw[zle I] at h2;omega
  | some t=>
   rw[Df h,nr,vr];have h2:=io hs i;have:=hs t (zlg h);omega
def Yn(l:List CH):∀ b∈ip l,b<=255:=fun b hb=>by
 obtain⟨t,_,h⟩:=znn.1 hb;exact Gv _ b h
attribute [local irreducible] V N X VO Par StepOK Has Ret RetL RetO RetT kr RetX RetY Src
def tup_ret{t:CH}(hB:zpk B w):Ret zpl 56 [cvC t] w B (fun v _=>v=uv t.1):=by
 refine yf Tryz.func56 Z Tryz.ntmps56 (np Z) hB ((ZA∘Z7∘Zf∘Z4∘Zav∘Zcg∘Zau) ?_);refine ye1 L [.cell 2 34] fun u H hH hle=>?_;exact⟨_,qs Z,rfl,rfl⟩
def zdu{t:CH}(hB:zpk B w):Ret zpl 57 [cvC t] w B (fun v _=>v=.string (zf8 t)):=by
 obtain⟨t,d⟩:=t;refine yf Tryz.func57 Z Tryz.ntmps57 (np Z) hB ?_;dsimp only[cvC];refine(ZA∘Zi) ?_
 cases d with
 | true=>
  refine(Z4∘Zac∘ZbH∘Zd) ?_;exact ye2 L [.tmp 2]
 | false=>
  refine(Z4∘Zac∘Zl∘ZR∘Zd) ?_;exact ye2 L [.tmp 2]
def Dz(t:CH):(t7 t).size=(tT t.1).size+2:=by
 unfold t7;rw[m9,m9];have h1:=E5 t;have h2:(⟨#[10]⟩:ByteArray).size=1:=rfl;omega
def Ym{l:List CH}(h:l≠[]):ip l≠[]:=fun e=>by
 cases l with
 | nil=>exact h rfl
 | cons t l=>
  unfold ip at e;rw[zly] at e;have h1:=(zo9.1 e).1;have h2:=vr (t7 t);rw[h1,Dz] at h2;cases h2
def Su{l:List CH}(hln:l.length<=4096)(hz:∀ t∈l,TZ t.1)(hs:∀ t∈l,(t7 t).size<=1000)(hB:zpk B w)(hv:KS tyC l fu v B):
  Ret zpl 55 [v,.func (.func 56) #[] #[],.func (.func 57) #[] #[]] w B (fun r _=>r=.tuple #[.string (if Yh l≠0 then ⟨#[]⟩ else lp (ip l)),.int .i64 (Yh l)]):=by
 refine yf Tryz.func55 Z Tryz.ntmps55 (np Z) hB (ju 0 (KS tyC l fu) Z ma hv ((ZaL∘Zaa∘Zo∘ZD∘Zl∘ZR∘Zbw) ?_));refine kq 8 900 rfl fun bb=>?_;by_cases hl0:l=[]
 ·subst hl0;refine(Z9∘Zcb) ?_;refine xo (fun _:Nat=>[(8,.is (xy bb)),(16,.is (.int .i64 0)),(17,.is (.int .i64 0)),(900,.own (xk bb [.pointer none,.slice none 0 0] Aw))]) (fun _=>True) (fun i=>i) 0 trivial ⟨Z,Z,Z,Z,nm⟩ ?_;rintro _ _;refine(Ze∘ZY∘ZaK∘ZT) ?_;refine q0 (y6 L 900 (xa bb [.pointer none,.slice none 0 0] Aw) (.string .empty) (r:=xa bb [.pointer none,.slice none 0 0] Aw) Z Z Z Z Z (fun u H C hH _ hr hC=>A3 hH hr hC)) (ZB (h:=?_));exact ye2 L [.tmp 6,.tmp 7]
 ·refine sn 901 N5 1 (Zee (h:=?_));refine bn (X:=Value×Value) 900 (r:=fun x=>(GBv bb [] x).res) (φ:=fun x _=>zf5 bb x) (cp bb) (.pointer none,.slice none 0 0) ⟨.inl Z,_,_,_,rfl⟩ Z ((Z9∘Zcb) ?_);refine xo (fun i:Nat=>[(1,.is (.func (.func 56) #[] #[])),(2,.is (.func (.func 57) #[] #[])),(8,.is (xy bb)),(15,.sat (KS tyC l fu)),(16,.is (.int .i64 l.length)),(17,.is (.int .i64 i)),(900,.own (GBd bb (ip (l.take i))).res)]) (fun i=>i<=l.length/\Yh (l.drop i)=Yh l) (fun i=>l.length-i) 0 ⟨mf _,rfl⟩ ⟨Z,Z,Z,Z,Z,Z,Z,nm⟩ ?_;rintro i ⟨hi,hte⟩;dsimp only at hi hte |-;by_cases hlt:i<l.length
  ·obtain⟨t,ht⟩:=xw hlt;have hcr:=C8 ht;have hzt:=hz t (zlg ht);have hst:=hs t (zlg ht);have hsl:=Dz t;rw[Sn ht] at hte;have hsn:=Df ht;have hbl:=io hs i;have hwk:IntKind.i64.wrap ((i:Int)+1)=((i+1:Nat):Int):=yz I I;by_cases he:tE t.1=0
   ·rw[nc (fun h=>h he)] at hte;have hs1:(zf8 t).size+(tT t.1).size<=9223372036854775807:=by have h1:=E5 t;omega
    have hs2:(zf8 t++tT t.1).size+(⟨#[10]⟩:ByteArray).size<=9223372036854775807:=by rw[m9];have h1:=E5 t;have h2:(⟨#[10]⟩:ByteArray).size=1:=rfl;omega
    refine(Ze∘ZY∘Zx∘ZP∘Zab∘ZcB∘Zbs∘Z3∘ZcK) ?_;refine z81 L Z (fun u H hH _=>tup_ret hH) ?_;refine z81 L Z (fun u H hH _=>ki hzt hH) ?_;refine(Zc∘Za4∘ZG∘ZZ∘Zbq) ?_;refine qh (id:=10) [(37,[900])] x8 T ((Zj∘Ze0) ?_);refine zh1 L Z (fun u H hH _=>zdu hH) ?_;refine(Zj∘Ze0) ?_;refine zh1 L Z (fun u H hH _=>tup_ret hH) ?_;refine zh1 L Z (fun u H hH _=>Hk hzt hH) ?_;refine(Zda∘Zda) ?_;refine xu (y6 L 900 (GBd bb (ip (l.take (i+1)))) (.tuple #[.int .i64 (t7 t).size,.nilIface]) (r:=GBd bb (ip (l.take i))) Z Z Z Z Z (fun u H C hH _ hr hC=>by rw[hsn];exact write_ret (str:=t7 t) I hH hr hC)) Z Z ?_;refine(ZbI∘ZaB∘ZO∘Zv∘Zct) ?_;exact ym (x:=i) (i+1) ⟨hlt,hte⟩ I ⟨Z,Z,Z,Z,Z,Z,Z,nm⟩
   ·rw[na he] at hte;refine(Ze∘ZY∘Zx∘ZP∘Zab∘ZcB∘Zbs∘Z3∘ZcK) ?_;refine z81 L Z (fun u H hH _=>tup_ret hH) ?_;refine z81 L Z (fun u H hH _=>ki hzt hH) ?_;refine(Zc∘Za4∘Zao∘Zat∘ZB) ?_;refine ye1 L [.tmp 6,.tmp 7] fun u H hH hle=>?_;rw[<-hte,na he];rfl
  ·obtain rfl:i=l.length:=by omega
   rw[zno] at hte;rw[zlm];have hbl:=io hs l.length;rw[zlm] at hbl;refine(Ze∘ZY∘ZaK∘ZT) ?_;refine q0 (y6 L 900 GNo (.string (lp (ip l))) (r:=GBd bb (ip l)) Z Z Z Z Z (fun u H C hH _ hr hC=>Dj (Yn l) (Ym hl0) I hH hr hC)) (ZB (h:=?_));refine ye1 L [.tmp 6,.tmp 7] fun u H hH hle=>?_;rw[<-hte];rfl
def Ss(l:List CH):ByteArray×Int:=if 4096<l.length then (⟨#[]⟩,3) else (if Yh l≠0 then ⟨#[]⟩ else lp (ip l),Yh l)
def Hm{l:List CH}{f g:Value}(hln:4096<l.length)(hB:zpk B w)(hv:KS tyC l fu v B):
  Ret zpl 55 [v,f,g] w B (fun r _=>r=.tuple #[.string ⟨#[]⟩,.int .i64 3]):=by
 refine yf Tryz.func55 Z Tryz.ntmps55 (np Z) hB (ju 0 (KS tyC l fu) Z ma hv ((ZaL∘Zaa∘Zo∘ZN∘ZbH∘ZB) ?_));exact ye2 L [.tmp 6,.tmp 7]
def P8{l:List CH}(hz:∀ t∈l,TZ t.1)(hs:∀ t∈l,(t7 t).size<=1000)(hB:zpk B w)(hv:KS tyC l fu v B):
  Ret zpl 13 [v] w B (fun r _=>r=.tuple #[.string (Ss l).1,.int .i64 (Ss l).2]):=by
 unfold Ss;refine yf Tryz.func13 Z Tryz.ntmps13 (np Z) hB (ju 0 (KS tyC l fu) Z ma hv ?_);by_cases hln:4096<l.length
 ·rw[na hln];refine(ZaL∘Zas∘Zk) ?_;refine z8 (zy L Z Z (zo Z) Z Z Z (fun u H hH hle _ v1 h1=>Hm hln hH h1)) Z ((Zbj∘ZB) ?_);exact ye2 L [.tmp 2,.tmp 3]
 ·rw[nc hln];refine(ZaL∘Zas∘Zk) ?_;refine z8 (zy L Z Z (zo Z) Z Z Z (fun u H hH hle _ v1 h1=>Su I hz hs hH h1)) Z ((Zbj∘ZB) ?_);exact ye2 L [.tmp 2,.tmp 3]
end Go.V.L11
end
