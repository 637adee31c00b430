/- Texts, part 1. -/
import Derived.Laws.Rows
import Derived.OrdersIn
import Derived.RangeFuncCalls
import Derived.Shelf.Small.Strs
import Derived.Shelf.Small.Wraps
import Derived.Shelf.Utf8.RuneCount
import Derived.Shelf.Strings.Shaped
import Derived.Shelf.Strings.Split
import Derived.Shelf.Strings.RuneCount
import Derived.Shelf.SlSortCmp.NoneTotal
import Derived.Lib.AppendZerosOnto
import Derived.Lib.Overlaps
import Derived.WalkSmall
import Derived.RecoverIn
import Derived.Lib.IndexAny
import Derived.ProofKit
import Derived.HandedShaped
import Derived.OpenShut
import Derived.Deep.Slices
set_option linter.unusedVariables false
set_option linter.unusedSimpArgs false
set_option maxRecDepth 20000
set_option maxHeartbeats 8000000
set_option linter.defProp false
open Go.Proofs Go.RowKit
section
variable{p:Int}{zpa α α0 α1 α2:Type}{by_ d i j len m n off q s:Nat}{e e' t t' tt ty:Go.TypeId}{C L:Nat->Prop}{u u' w:Go.World}{P:Go.Program}{f:Go.FuncId}{args:Array Go.Operand}{o:Go.Oper}{K:Go.Act->Go.World->Prop}{a:Go.Act}{zpf:Go.Exit->Go.Act->Go.World->Prop}{ops:Array Go.Oper}{k kh kl:Go.IntKind}{x y:Go.Operand}{fp:Nat->Nat->Prop}{v z:Go.Value}{ag b fu:Bool}{cap cs news vs xs ys:List Go.Value}{at_ tts:Array Go.TypeId}{pos:String}{aft:Array Go.Edge}{g:Option (Nat×Bool)}{c:Go.Code}{fr:Nat×Nat}{os:List Go.Oper}{parts:Array (Nat×Go.Operand)}{ls:List Nat}{hi lo:Option Go.Operand}{fx:List (Nat×Go.Value)}{A Y:Prop}
namespace Go.V
def _root_.Go.V.nm:True:=True.intro
abbrev _root_.Go.V.na:=@if_pos
abbrev _root_.Go.V.nc:=@if_neg
abbrev _root_.Go.V.nf:=@decide_eq_true
abbrev _root_.Go.V.ng:=@decide_eq_false
abbrev _root_.Go.V.nh:=@congrArg
abbrev _root_.Go.V.ni:=@absurd
abbrev _root_.Go.V.nj:=@of_decide_eq_true
def _root_.Go.V.Z.{u}{a:Sort u}{x:a}:x=x:=rfl
def _root_.Go.V.T{p:Prop}(h:p:=by omega):p:=h
def _root_.Go.V.J{p:Prop}(h:p:=by kernel_rfl):p:=h
def _root_.Go.V.E{p:Prop}(h:p:=by decide):p:=h
def _root_.Go.V.M{p:Prop}(h:p:=by assumption):p:=h
def _root_.Go.V.G{p:Prop}(h:p:=by dsimp only;omega):p:=h
def _root_.Go.V.Q{p:Prop}(h:p:=by first | assumption | omega | decide):p:=h
abbrev _root_.Go.V.np:=@Nat.le_of_ble_eq_true
abbrev _root_.Go.V.nr:=@List.length_append
abbrev _root_.Go.V.ns:=@Nat.le_refl
abbrev _root_.Go.V.nu:=@Sem.run_bind
abbrev _root_.Go.V.ny:=@List.length_cons
abbrev _root_.Go.V.nz:=@List.mem_cons
abbrev _root_.Go.V.ma:=@Result.andThen_ok
abbrev _root_.Go.V.mb:=@List.mem_cons_self
abbrev _root_.Go.V.mc:=@List.mem_cons_of_mem
abbrev _root_.Go.V.me:=@Sem.run_pure
abbrev _root_.Go.V.mf:=@Nat.zero_le
abbrev _root_.Go.V.mg:=@List.pairwise_cons
abbrev _root_.Go.V.mh:=@List.nil_append
abbrev _root_.Go.V.mi:=@List.length_take
abbrev _root_.Go.V.mj:=@List.append_assoc
abbrev _root_.Go.V.mn:=@List.mem_append
abbrev _root_.Go.V.mp:=@List.map_cons
abbrev _root_.Go.V.mq:=@List.append_nil
abbrev _root_.Go.V.mt:=@List.length_map
abbrev _root_.Go.V.mw:=@Nat.le_trans
abbrev _root_.Go.V.my:=@List.length_nil
abbrev _root_.Go.V.mz:=@List.eq_nil_of_length_eq_zero
abbrev _root_.Go.V.m4:=@Decidable.not_not
abbrev _root_.Go.V.m5:=@Nat.lt_or_ge
abbrev _root_.Go.V.m6:=@List.mem_singleton
abbrev _root_.Go.V.m7:=@List.length_drop
abbrev _root_.Go.V.m8:=@List.mem_map
abbrev _root_.Go.V.m9:=@List.take_append_drop
abbrev _root_.Go.V.zla:=@List.take_length
abbrev _root_.Go.V.zlb:=@Nat.zero_add
abbrev _root_.Go.V.zlc:=@List.take_add_one
abbrev _root_.Go.V.zld:=@List.getElem?_eq_none
abbrev _root_.Go.V.zle:=@List.take_of_length_le
abbrev _root_.Go.V.zlf:=@List.drop_eq_nil_of_le
abbrev _root_.Go.V.zlg:=@Array.getD_eq_getD_getElem?
abbrev _root_.Go.V.zlh:=@List.getElem?_eq_getElem
abbrev _root_.Go.V.zli:=@List.map_append
abbrev _root_.Go.V.zlj:=@List.all_eq_true
abbrev _root_.Go.V.zlk:=@Array.getElem?_eq_getElem
abbrev _root_.Go.V.zll:=@List.cons_append
abbrev _root_.Go.V.zlm:=@List.map_nil
abbrev _root_.Go.V.zln:=@List.mem_of_getElem?
abbrev _root_.Go.V.zlo:=@List.getElem?_drop
abbrev _root_.Go.V.zlp:=@Int.toNat_natCast
abbrev _root_.Go.V.zlq:=@List.flatMap_append
abbrev _root_.Go.V.zlr:=@List.mem_filter
abbrev _root_.Go.V.zls:=@Array.size_setIfInBounds
abbrev _root_.Go.V.zlt:=@List.mem_append_left
abbrev _root_.Go.V.zlu:=@List.getElem?_map
abbrev _root_.Go.V.zlv:=@List.map_toArray
abbrev _root_.Go.V.zlw:=@Array.length_toList
abbrev _root_.Go.V.zlx:=@List.getElem?_of_mem
abbrev _root_.Go.V.zly:=@Bool.and_eq_true
abbrev _root_.Go.V.zlz:=@List.drop_drop
abbrev _root_.Go.V.zl0:=@List.pairwise_append
abbrev _root_.Go.V.zl1:=@Nat.le_succ
abbrev _root_.Go.V.zl2:=@List.getElem?_append_left
abbrev _root_.Go.V.zl3:=@List.flatMap_cons
abbrev _root_.Go.V.zl4:=@List.take_zero
abbrev _root_.Go.V.zl5:=@List.getElem?_eq_some_iff
abbrev _root_.Go.V.zl6:=@Nat.add_mul
abbrev _root_.Go.V.zl7:=@List.drop_zero
abbrev _root_.Go.V.zl8:=@Nat.lt_of_lt_of_le
abbrev _root_.Go.V.zl9:=@List.drop_eq_getElem_cons
abbrev _root_.Go.V.zma:=@List.mem_append_right
abbrev _root_.Go.V.zmb:=@List.reverse_nil
abbrev _root_.Go.V.zmc:=@Option.isSome_iff_exists
abbrev _root_.Go.V.zmd:=@Nat.sub_self
abbrev _root_.Go.V.zme:=@List.length_singleton
abbrev _root_.Go.V.zmf:=@Nat.mul_le_mul_right
abbrev _root_.Go.V.zmg:=@List.drop_append
abbrev _root_.Go.V.zmh:=@Nat.mul_one
abbrev _root_.Go.V.zmi:=@List.pairwise_singleton
abbrev _root_.Go.V.zmj:=@List.not_mem_nil
abbrev _root_.Go.V.zmk:=@List.pairwise_iff_getElem
abbrev _root_.Go.V.zml:=@List.map_take
abbrev _root_.Go.V.zmm:=@List.getElem?_cons_succ
abbrev _root_.Go.V.zmn:=@List.nodup_nil
abbrev _root_.Go.V.zmo:=@Nat.succ_mul
abbrev _root_.Go.V.zmp:=@Bool.false_eq_true
abbrev _root_.Go.V.zmq:=@Nat.min_eq_left
abbrev _root_.Go.V.zmr:=@Option.map_some
abbrev _root_.Go.V.zms:=@List.takeWhile_cons
abbrev _root_.Go.V.zmt:=@Array.getElem?_eq_none
abbrev _root_.Go.V.zmu:=@Nat.sub_zero
abbrev _root_.Go.V.zmv:=@List.getElem?_take_of_lt
abbrev _root_.Go.V.zmw:=@List.mem_nil_iff
abbrev _root_.Go.V.zmx:=@List.getElem?_toArray
abbrev _root_.Go.V.zmy:=@Nat.mod_lt
abbrev _root_.Go.V.zmz:=@List.map_drop
abbrev _root_.Go.V.zm0:=@List.filter_cons_of_pos
abbrev _root_.Go.V.zm1:=@List.filter_cons
abbrev _root_.Go.V.zm2:=@Nat.eq_of_beq_eq_true
abbrev _root_.Go.V.zm3:=@List.nodup_cons
abbrev _root_.Go.V.zm4:=@Array.toArray_toList
abbrev _root_.Go.V.zm5:=@Int.le_refl
abbrev _root_.Go.V.zm6:=@List.drop_left
abbrev _root_.Go.V.zm7:=@List.take_succ_cons
abbrev _root_.Go.V.zm8:=@Array.getElem?_toList
abbrev _root_.Go.V.zm9:=@List.length_filter_le
abbrev _root_.Go.V.zna:=@List.length_set
abbrev _root_.Go.V.znb:=@List.filter_eq_nil_iff
abbrev _root_.Go.V.znc:=@Nat.le_succ_of_le
abbrev _root_.Go.V.znd:=@List.take_left'
abbrev _root_.Go.V.zne:=@List.getElem?_append_right
abbrev _root_.Go.V.znf:=@Nat.ble_eq_true_of_le
abbrev _root_.Go.V.zng:=@List.mem_map_of_mem
abbrev _root_.Go.V.znh:=@List.map_map
abbrev _root_.Go.V.zni:=@List.filter_append
abbrev _root_.Go.V.znj:=@List.take_append
abbrev _root_.Go.V.znk:=@List.foldl_cons
abbrev _root_.Go.V.znl:=@Nat.add_zero
abbrev _root_.Go.V.znm:=@List.getElem?_cons_zero
abbrev _root_.Go.V.znn:=@Nat.add_comm
abbrev _root_.Go.V.zno:=@UInt8.not_lt
abbrev _root_.Go.V.znp:=@List.count_append
abbrev _root_.Go.V.znq:=@ByteArray.size_append
abbrev _root_.Go.V.znr:=@Nat.lt_succ_self
abbrev _root_.Go.V.zns:=@List.filter_eq_self
abbrev _root_.Go.V.znt:=@List.filter_sublist
abbrev _root_.Go.V.znu:=@List.filter_cons_of_neg
abbrev _root_.Go.V.znv:=@Nat.add_assoc
abbrev _root_.Go.V.znw:=@Array.foldl_toList
abbrev _root_.Go.V.znx:=@List.range_eq_range'
abbrev _root_.Go.V.zny:=@List.range'_succ
abbrev _root_.Go.V.znz:=@List.take_set_of_le
abbrev _root_.Go.V.zn0:=@List.getElem?_set_self
abbrev _root_.Go.V.zn1:=@List.size_toArray
abbrev _root_.Go.V.zn2:=@List.take_append_of_le_length
abbrev _root_.Go.V.zn3:=@List.getElem?_take
abbrev _root_.Go.V.zn4:=@UInt8.le_iff_toNat_le
abbrev _root_.Go.V.zn5:=@List.any_eq_true
abbrev _root_.Go.V.zn6:=@List.ext_getElem?
abbrev _root_.Go.V.zn7:=@Nat.mul_comm
abbrev _root_.Go.V.zn8:=@List.mem_of_mem_take
abbrev _root_.Go.V.zn9:=@Int.fdiv_eq_ediv_of_nonneg
abbrev _root_.Go.V.zoa:=@List.map_id
abbrev _root_.Go.V.zob:=@Option.isSome_map
abbrev _root_.Go.V.zoc:=@Int.tdiv_eq_ediv_of_nonneg
abbrev _root_.Go.V.zod:=@Bool.or_eq_true
abbrev _root_.Go.V.zoe:=@List.append_of_mem
abbrev _root_.Go.V.zof:=@World.putObj_heap_other
abbrev _root_.Go.V.zog:=@List.sublist_cons_self
abbrev _root_.Go.V.zoh:=@List.all_append
abbrev _root_.Go.V.zoi:=@Option.map_none
abbrev _root_.Go.V.zoj:=@List.drop_append_of_le_length
abbrev _root_.Go.V.zok:=@Nat.shiftLeft_eq
abbrev _root_.Go.V.zol:=@Nat.lt_trichotomy
abbrev _root_.Go.V.zom:=@List.map_congr_left
abbrev _root_.Go.V.zon:=@List.count_eq_zero
abbrev _root_.Go.V.zoo:=@Nat.pow_le_pow_right
abbrev _root_.Go.V.zop:=@List.concat_eq_append
abbrev _root_.Go.V.zoq:=@List.set_append_right
abbrev _root_.Go.V.zor:=@List.drop_left'
abbrev _root_.Go.V.zos:=@List.drop_length
abbrev _root_.Go.V.zot:=@List.pairwise_map
abbrev _root_.Go.V.zou:=@Nat.add_sub_cancel
abbrev _root_.Go.V.zov:=@Nat.mod_eq_of_lt
abbrev _root_.Go.V.zow:=@List.nil_sublist
abbrev _root_.Go.V.zox:=@List.length_pos_iff
abbrev _root_.Go.V.zoy:=@Array.getElem?_append_left
abbrev _root_.Go.V.zoz:=@World.putObj_heap_same
abbrev _root_.Go.V.zo0:=@Array.toList_setIfInBounds
abbrev _root_.Go.V.zo1:=@List.drop_set_of_lt
abbrev _root_.Go.V.zo2:=@List.mem_of_mem_drop
abbrev _root_.Go.V.zo3:=@Array.toList_filter
abbrev _root_.Go.V.zo4:=@List.eq_nil_or_concat
abbrev _root_.Go.V.zo5:=@List.getElem_cons_drop
abbrev _root_.Go.V.zo6:=@Nat.add_sub_cancel_left
abbrev _root_.Go.V.zo7:=@List.count_le_length
abbrev _root_.Go.V.zo8:=@Option.map_eq_some_iff
abbrev Heap:=Nat->Option Obj
def EQ3{α0 α1 α2:Type}{a a2:α0}{b b2:α1}{c c2:α2}(h:(a,b,c)=(a2,b2,c2)):a=a2/\b=b2/\c=c2:=by cases h;exact⟨rfl,rfl,rfl⟩
def EQ4{α0 α1 α2 α3:Type}{a a2:α0}{b b2:α1}{c c2:α2}{d d2:α3}(h:(a,b,c,d)=(a2,b2,c2,d2)):a=a2/\b=b2/\c=c2/\d=d2:=by cases h;exact⟨rfl,rfl,rfl,rfl⟩
def EQ5{α0 α1 α2 α3 α4:Type}{a a2:α0}{b b2:α1}{c c2:α2}{d d2:α3}{e e2:α4}(h:(a,b,c,d,e)=(a2,b2,c2,d2,e2)):a=a2/\b=b2/\c=c2/\d=d2/\e=e2:=by cases h;exact⟨rfl,rfl,rfl,rfl,rfl⟩
abbrev ZCB(C:Nat->Prop)(w:World)(B:Heap):Prop:=∀ k,C k->k<w.heap.size/\B k=none
def hp(w:World):Heap:=fun k=>w.heap[k]?
def Heap.Le(H H':Heap):Prop:=∀ k o,H k=some o->H' k=some o
abbrev zpg(B:Heap)(w:World):Prop:=B.Le (hp w)
def Heap.Le.refl(H:Heap):H.Le H:=fun _ _ h=>h
abbrev _root_.Go.V.mo:=@Heap.Le.refl
def Heap.Le.trans{A B C:Heap}(h:A.Le B)(k:B.Le C):A.Le C:=fun i o e=>k i o (h i o e)
structure On(u u':World):Prop where
 os:u'.os=u.os
 tape:u'.tape=u.tape
 output:u'.output=u.output
 size:u.heap.size<=u'.heap.size
 dr:u.drawn<=u'.drawn
def On.refl(u:World):On u u:=⟨rfl,rfl,rfl,ns _,ns _⟩
structure Res where
 P:Value->Heap->World->(Nat->Prop)->Prop
 st:∀ {v H u C H' u'},P v H u C->H.Le H'->zpg H' u'->On u u'->(∀ k,C k->u'.heap[k]?=u.heap[k]?)->P v H' u' C
inductive Kn where
 | is (v:Value)
 | sat (φ:Value->Heap->Prop)
 | own (r:Res)
abbrev Kap:=Nat->Option Kn
def upd(κ:Kap)(t:Nat)(k:Kn):Kap:=fun s=>bif Nat.beq s t then some k else κ s
def xj(κ:Kap)(t:Nat)(k:Kn):upd κ t k t=some k:=by simp [upd,cond]
def xd(κ:Kap){s t:Nat}(k:Kn)(h:s≠t):upd κ t k s=κ s:=by
 have:Nat.beq s t=false:=by
  cases hb:Nat.beq s t with
  | true=>exact ni (zm2 hb) h
  | false=>rfl
 simp [upd,this]
def ofL:List (Nat×Kn)->Kap
 | []=>fun _=>none
 | (t,k)::l=>upd (ofL l) t k
def rm:Nat->List Value->Kap
 | _,[]=>fun _=>none
 | i,v::vs=>upd (rm (i+1) vs) i (.is v)
abbrev Boxes:=List (Nat×Obj)
abbrev bx(b:Nat)(cs:List Value)(ty:TypeId):Nat×Obj:=(b,.cells cs.toArray ty)
inductive DM where
 | m (D:Nat)
 | u (d:Deferred)
structure Fr where
 w0:World
 r:Option Nat
 ds:List DM
 L:Nat->Prop
abbrev noL:Nat->Prop:=fun _=>False
abbrev Fr.pure(w:World):Fr:=⟨w,none,[],noL⟩
structure Keep(C:Nat->Prop)(w u:World):Prop where
 os:u.os=w.os
 tape:u.tape=w.tape
 output:u.output=w.output
 size:w.heap.size<=u.heap.size
 block:∀ k,k<w.heap.size->¬ C k->u.heap[k]?=w.heap[k]?
 dr:w.drawn<=u.drawn
def Keep.on(h:Keep C w u):On w u:=⟨h.os,h.tape,h.output,h.size,h.dr⟩
def Keep.refl(C:Nat->Prop)(w:World):Keep C w w:=⟨rfl,rfl,rfl,ns _,fun _ _ _=>rfl,ns _⟩
def Keep.trans{C D:Nat->Prop}{a b c:World}(h:Keep C a b)(k:Keep D b c)(hD:∀ i,i<a.heap.size->D i->C i):Keep C a c:=
 ⟨k.os.trans h.os,k.tape.trans h.tape,k.output.trans h.output,mw h.size k.size,fun i hi hC=>(k.block i (zl8 hi h.size) fun hd=>hC (hD i hi hd)).trans (h.block i hi hC),mw h.dr k.dr⟩
def Keep.below(h:Keep noL w u):Below w.heap.size w u:=⟨h.os,h.tape,h.output,h.size,fun k hk=>h.block k hk (fun e=>e)⟩
def Keep.of_below(h:Below w.heap.size w u)(hd:w.drawn<=u.drawn):Keep C w u:=⟨h.os,h.tape,h.output,h.size,fun k hk _=>h.block k hk,hd⟩
def Keep.weak{D:Nat->Prop}(h:Keep C w u)(hi:∀ k,k<w.heap.size->C k->D k):Keep D w u:=⟨h.os,h.tape,h.output,h.size,fun k hk hd=>h.block k hk fun hc=>hd (hi k hk hc),h.dr⟩
structure Grow(L:Nat->Prop)(u:World)(H:Heap)(u':World)(H':Heap):Prop where
 keep:Keep L u u'
 sub:H'.Le (hp u')
 le:H.Le H'
 fresh:∀ k,k<u.heap.size->¬ L k->H' k=H k
def Grow.refl{u:World}{H:Heap}(h:zpg H u):Grow noL u H u H:=⟨Keep.refl _ _,h,mo _,fun _ _ _=>rfl⟩
def Grow.below{u u':World}{H H':Heap}(h:Grow noL u H u' H'):Below u.heap.size u u':=h.keep.below
def zca:DM->Deferred
 | .m D=>{ target:=.collected D,args:=#[] }
 | .u d=>d
def zjt(F:Fr)(O:Boxes)(u:World)(H:Heap)(C:Nat->Prop):Prop:=∀ k,C k->k<u.heap.size/\H k=none/\(F.w0.heap.size<=k\/F.L k)/\∀ y∈O,y.1≠k
def Kn.holds(F:Fr)(O:Boxes)(u:World)(H:Heap)(C:Nat->Prop):Kn->Value->Prop
 | .is v,x=>x=v
 | .sat φ,x=>φ x H
 | .own r,x=>r.P x H u C/\zjt F O u H C
def Kn.mono:Kn->Prop
 | .sat φ=>∀ v H H',φ v H->Heap.Le H H'->φ v H'
 | _=>True
structure HasH(F:Fr)(B:Heap)(O:Boxes)(n:Nat)(κ:Kap)(a:Act)(u:World)(H:Heap)(fp:Nat->Nat->Prop):Prop where
 size:a.tmps.size=n
 defers:a.defers=F.ds.map zca
 nodup:F.ds.Nodup
 marks:∀ D,DM.m D∈F.ds->(D,Obj.deferred (some []))∈O
 lent:∀ k,F.L k->k<F.w0.heap.size
 keep:Keep F.L F.w0 u
 sub:H.Le (hp u)
 base:B.Le H
 fresh:∀ k,k<F.w0.heap.size->¬ F.L k->H k=B k
 boxes:∀ y∈O,u.heap[y.1]?=some y.2/\H y.1=none/\(F.w0.heap.size<=y.1\/F.L y.1)
 apart:O.Pairwise fun x y=>x.1≠y.1
 slot:∀ t k,κ t=some k->k.holds F O u H (fp t) (a.eval (.tmp t))
 owns:∀ s t r r',s≠t->κ s=some (.own r)->κ t=some (.own r')->∀ k,fp s k->¬ fp t k
 mono:∀ t k,κ t=some k->k.mono
def Has(F:Fr)(B:Heap)(O:Boxes)(n:Nat)(κ:Kap)(a:Act)(u:World):Prop:=∃ H fp,HasH F B O n κ a u H fp
def vd(o:Oper):Option Nat:=
 match o.dst with
 | some d=>some d
 | none=>match o.op with
  | .store _ (.tmp s) _=>some s
  | _=>none
def Upon(P:Program)(o:Oper)(K:Act->World->Prop)(a:Act):Result Next->Prop
 | .ok (.value v) w'=>K (a.put o.dst v) w'
 | .ok .skip w'=>K (a.put o.dst undef) w'
 | .ok (.enter f args) w'=>Calls P f args w' fun e w''=>∃ v,e=.returned v/\K (a.put o.dst v) w''
 | .ok (.round l f tmps assign body) w'=>RoundIn Fence.wide 0 P l f tmps assign body w' fun e w''=>∃ v,e=.returned v/\K (a.put o.dst v) w''
 | _=>False
def Upon.mono{P:Program}{o:Oper}{K K':Act->World->Prop}{a:Act}(h:∀ a u,K a u->K' a u){r:Result Next}(hh:Upon P o K a r):Upon P o K' a r:=by
 cases r with
 | ok x w'=>
  cases x with
  | value v=>exact h _ _ hh
  | skip=>exact h _ _ hh
  | enter f args=>exact Calls.mono hh fun _ _ ⟨v,he,hk⟩=>⟨v,he,h _ _ hk⟩
  | round l f tmps assign body=>exact RoundIn.mono hh fun _ _ ⟨v,he,hk⟩=>⟨v,he,h _ _ hk⟩
  | _=>exact hh.elim
 | halt x w'=>exact hh.elim
def After(P:Program)(ops:Array Oper)(o:Oper)(K:Act->World->Prop)(a:Act)(u:World):Prop:=
 if Region.wanted o (yielded ops a.tmps)=true then Upon P o K a ((execOp a.eval o).run P u) else K (a.put o.dst undef) u
def After.mono{P:Program}{ops:Array Oper}{o:Oper}{K K':Act->World->Prop}{a:Act}{u:World}(h:∀ a u,K a u->K' a u)(hh:After P ops o K a u):After P ops o K' a u:=by
 unfold After at *;split
 ·rename_i hw;rw[na hw] at hh;exact Upon.mono h hh
 ·rename_i hw;rw[nc hw] at hh;exact h _ _ hh
def FW(r:Option Nat):Fence:={ Fence.wide with round:=r }
def FW.call{args:Array Value}{R:Ending->World->Prop}(r:Option Nat)(m:Nat)(h:Calls P f args w R):CallsIn (FW r) m P f args w R:=(callsIn_wide (n:=m)).2 h
def FW.round{l:Nat}{tmps:Array Value}{assign body:Code}{R:Ending->World->Prop}(r:Option Nat)(m:Nat)(h:RoundIn Fence.wide m P l f tmps assign body w R):RoundIn (FW r) m P l f tmps assign body w R:=h
def Tt(h:Upon P o K a ((execOp a.eval o).run P u)):∀ c,o.op≠.defer c:=fun c hc=>by
 obtain⟨dst,op,ty,pos,aft,g⟩:=o;dsimp only at hc;subst hc;have e:execOp a.eval ⟨dst,.defer c,ty,pos,aft,g⟩=(do pure (.defer (<-resolve a.eval c ty))):=rfl;rw[e,nu] at h
 cases hr:(resolve a.eval c ty).run P u with
 | ok d w'=>rw[hr] at h;exact h
 | halt x w'=>rw[hr] at h;exact h
def Upon.wpIn{r:Option Nat}(h:Upon P o K a ((execOp a.eval o).run P u)):o.wpIn (FW r) 0 P a u K zpf:=by
 refine⟨fun _ _=>trivial,?_⟩;rw[Oper.semAt_eq _ _ _ (Tt h)];generalize (execOp a.eval o).run P u=res at h
 cases res with
 | ok x w'=>
  cases x with
  | value v=>exact h
  | skip=>exact h
  | enter f args=>exact⟨fun e=>(by cases e),FW.call _ _ (Calls.mono h fun e w'' ⟨v,he,hk⟩=>by subst he;exact hk)⟩
  | round l f tmps assign body=>exact⟨fun e=>(by cases e),FW.round _ _ (RoundIn.mono h fun e w'' ⟨v,he,hk⟩=>by subst he;exact hk)⟩
  | defer d=>exact h.elim
  | row a b=>exact h.elim
  | _=>exact h.elim
 | halt x w'=>exact h.elim
def After.wpOpIn{P:Program}{ops:Array Oper}{i:Nat}{o:Oper}{K:Act->World->Prop}{zpf:Exit->Act->World->Prop}{a:Act}{u:World}{r:Option Nat}(ho:ops[i]?=some o)
  (h:After P ops o K a u):wpOpIn (FW r) 0 P ops zpf i K a u:=by
 unfold Go.wpOpIn;unfold After at h;simp only[ho];split
 ·rename_i hw;rw[na hw] at h;exact Upon.wpIn h
 ·rename_i hw;rw[nc hw] at h;exact⟨fun _ _=>trivial,h⟩
def Mx(κ:Kap):List (Nat×Kn)->Kap
 | []=>κ
 | p::us=>Mx (upd κ p.1 p.2) us
def wl:∀ (us:List (Nat×Kn)) (κ:Kap) (t:Nat),(∀ p∈us,p.1≠t)->Mx κ us t=κ t
 | [],_,_,_=>rfl
 | p::us,κ,t,h=>by
  rw[Mx,wl us _ t fun q hq=>h q (mc _ hq),xd _ _ (Ne.symm (h p (mb ..)))]
def Kp:∀ (us:List (Nat×Kn)) (κ κ':Kap) (t:Nat),(∃ p∈us,p.1=t)->Mx κ us t=Mx κ' us t
 | [],_,_,_,⟨_,hp,_⟩=>by cases hp
 | p::us,κ,κ',t,h=>by
  by_cases hh:∃ q∈us,q.1=t
  ·exact Kp us _ _ t hh
  ·have hn:∀ q∈us,q.1≠t:=fun q hq e=>hh ⟨q,hq,e⟩;obtain⟨q,hq,e⟩:=h;rcases nz.1 hq with rfl | hq
   ·rw[Mx,Mx,wl us _ t hn,wl us _ t hn,<-e,xj,xj]
   ·exact ni e (hn q hq)
def Ro{us vs:List (Nat×Kn)}(h:∀ p∈us,∀ q∈vs,p.1≠q.1)(κ:Kap):Mx (Mx κ us) vs=Mx (Mx κ vs) us:=by
 funext t;by_cases h1:∃ p∈us,p.1=t
 ·obtain⟨p,hp,rfl⟩:=h1;rw[wl vs _ _ fun q hq=>(h p hp q hq).symm];exact Kp us _ _ _ ⟨p,hp,rfl⟩
 ·have hn:∀ q∈us,q.1≠t:=fun q hq e=>h1 ⟨q,hq,e⟩;rw[wl us _ t hn];by_cases h2:∃ p∈vs,p.1=t
  ·exact Kp vs _ _ _ h2
  ·have hm:∀ q∈vs,q.1≠t:=fun q hq e=>h2 ⟨q,hq,e⟩;rw[wl vs _ t hm,wl vs _ t hm,wl us _ t hn]
abbrev Exs:=List (Nat×List Nat)
def exL(d:Nat):Exs->List Nat
 | []=>[]
 | p::ps=>bif Nat.beq p.1 d then p.2 else exL d ps
def exO(ex:Exs)(o:Oper):List Nat:=match o.dst with
 | some d=>exL d ex
 | none=>match o.op with
  | .store _ (.tmp s) _=>exL (s+100000) ex
  | .mapUpdate _ (.tmp s) _ _=>exL (s+100000) ex
  | .insert _ (.tmp s) _ _=>exL (s+100000) ex
  | _=>[]
def exR(ex:Exs)(o:Oper):List Nat:=match o.dst with | some d=>exL (d+200000) ex | none=>[]
def tch(ex:Exs)(o:Oper):List Nat:=(match vd o with | some d=>[d] | none=>[])++exO ex o
def lks(ops:Array Oper)(ex:Exs)(o:Oper):List Nat:=o.looksAt ops++(exO ex o++exR ex o)
section par
variable (P:Program) (St:Kap->Act->World->Prop) (ops:Array Oper) (ex:Exs) (Fin:Kap->Prop)
def StepG(κ:Kap)(o:Oper)(us:List (Nat×Kn)):Prop:=
 ∀ κ' a u,(∀ t∈lks ops ex o,κ' t=κ t)->St κ' a u->After P ops o (fun a' u'=>St (Mx κ' us) a' u') a u
def zfs:List Oper->Kap->Prop
 | [],κ=>Fin κ
 | o::os,κ=>∃ us,(∀ p∈us,p.1∈tch ex o)/\StepG P St ops ex κ o us/\zfs os (Mx κ us)
def ParI:List Nat->Kap->Prop
 | [],κ=>Fin κ
 | i::is,κ=>∃ o us,ops[i]?=some o/\(∀ p∈us,p.1∈tch ex o)/\StepG P St ops ex κ o us/\ParI is (Mx κ us)
end par
def StepG.local{St:Kap->Act->World->Prop}{ops:Array Oper}{ex:Exs}{κ κ2:Kap}{o:Oper}{us:List (Nat×Kn)}
  (h:StepG P St ops ex κ o us) (he:∀ t∈lks ops ex o,κ2 t=κ t):StepG P St ops ex κ2 o us:=
 fun κ' a u hl hh=>h κ' a u (fun t ht=>(hl t ht).trans (he t ht)) hh
def G5(l m:List Nat):Bool:=l.all fun x=>!m.contains x
def cc{l m:List Nat}(h:G5 l m=true):∀ x∈l,x∉m:=fun x hx hm=>by
 have:=zlj.1 h x hx;simp at this;exact this hm
def sd(ops:Array Oper)(ex:Exs)(x y:Oper):Bool:=
 G5 (tch ex x) (lks ops ex y) && (G5 (tch ex y) (lks ops ex x) && G5 (tch ex x) (tch ex y))
def zdh(ops:Array Oper)(ex:Exs):Bool:=
 let b:=Region.before ops
 (List.range ops.size).all fun i=>
  ((ops.getD i default).after.all fun e=>!Region.binds .any e || decide (e.on<i)) &&
  (List.range i).all fun j=>(b.getD i 0).testBit j || sd ops ex (ops.getD j default) (ops.getD i default)
section sound
variable  {St:Kap->Act->World->Prop}  {ex:Exs} {Fin:Kap->Prop}
def ParI.swap{l:List Nat}{κ:Kap}(hap:∀ x y,ops[j]?=some x->ops[i]?=some y->sd ops ex x y=true)
  (h:ParI P St ops ex Fin (j::i::l) κ):ParI P St ops ex Fin (i::j::l) κ:=by
 obtain⟨x,us,hx,hd,sx,y,vs,hy,he,sy,rest⟩:=h;have hap:=hap x y hx hy;simp only[sd,zly] at hap;have h1:=cc hap.1;have h2:=cc hap.2.1;have h3:=cc hap.2.2
 refine⟨y,vs,hy,he,sy.local fun t ht=>(wl us κ t fun p hp e=>h1 p.1 (hd p hp) (e ▸ ht)).symm,x,us,hx,hd,
  sx.local fun t ht=>wl vs κ t fun p hp e=>h2 p.1 (he p hp) (e ▸ ht),?_⟩
 rw[Ro (us:=vs) (vs:=us) (fun p hp q hq e=>h3 q.1 (hd q hq) (e ▸ he p hp))];exact rest
def ParI.front{i:Nat}:∀ (l1:List Nat) {l2:List Nat} {κ:Kap},(∀ j∈l1,∀ x y,ops[j]?=some x->ops[i]?=some y->sd ops ex x y=true)->
  ParI P St ops ex Fin (l1++i::l2) κ->ParI P St ops ex Fin (i::(l1++l2)) κ
 | [],_,_,_,h=>h
 | j::l1,l2,κ,hap,h=>by
  have h':ParI P St ops ex Fin (j::(l1++i::l2)) κ:=h;obtain⟨x,us,hx,hd,sx,rest⟩:=h';have r:=ParI.front l1 (fun m hm=>hap m (mc _ hm)) rest;exact ParI.swap (l:=l1++l2) (hap j (mb ..)) ⟨x,us,hx,hd,sx,r⟩
def Gt:∀ (m i:Nat) {κ:Kap},i+m=ops.size->zfs P St ops ex Fin (ops.toList.drop i) κ->ParI P St ops ex Fin (List.range' i m) κ
 | 0,i,κ,hm,h=>by
  rw[zlf (by simp;omega)] at h;exact h
 | m+1,i,κ,hm,h=>by
  have hi:i<ops.toList.length:=by simp;omega
  rw[zl9 hi] at h;obtain⟨us,hd,sx,rest⟩:=h;refine⟨ops.toList[i],us,?_,hd,sx,Gt m (i+1) T rest⟩;have hi':i<ops.size:=by simpa using hi
  rw[zlk hi'];simp
def H8(f:Array Nat->Oper->Nat):∀ (l:List Oper) (acc:Array Nat),
  (l.foldl (fun acc o=>acc.push (f acc o)) acc).size=acc.size+l.length/\
  ∀ k,k<(l.foldl (fun acc o=>acc.push (f acc o)) acc).size->acc.size<=k->
   ∃ (o:Oper) (pre:Array Nat),l[k-acc.size]?=some o/\pre.size=k/\(∀ j,j<k->(l.foldl (fun acc o=>acc.push (f acc o)) acc)[j]?=pre[j]?)/\
    (l.foldl (fun acc o=>acc.push (f acc o)) acc)[k]?=some (f pre o)
 | [],acc=>⟨by simp,fun k hk hle=>by simp at hk;omega⟩
 | o::l,acc=>by
  have ih:=H8 f l (acc.push (f acc o));simp only[znk];refine⟨by rw[ih.1];simp;omega,fun k hk hle=>?_⟩
  have stay:∀ (l:List Oper) (acc:Array Nat) (j:Nat),j<acc.size->(l.foldl (fun acc o=>acc.push (f acc o)) acc)[j]?=acc[j]?:=by
   intro l
   induction l with
   | nil=>intro acc j _;rfl
   | cons o l ih=>
    intro acc j hj;simp only[znk];rw[ih _ j (by simp;omega),Array.getElem?_push_lt hj,zlk hj]
  by_cases he:k=acc.size
  ·subst he;refine⟨o,acc,by simp,rfl,fun j hj=>?_,?_⟩
   ·rw[stay _ _ j (by simp;omega),Array.getElem?_push_lt hj,zlk hj]
   ·rw[stay _ _ _ (by simp)];simp
  ·obtain⟨o',pre,h1,h2,h3,h4⟩:=ih.2 k hk (by simp;omega);refine⟨o',pre,?_,h2,h3,h4⟩;rw[<-h1];have:k-acc.size=(k-(acc.push (f acc o)).size)+1:=by simp;omega
   rw[this,zmm]
def rz{acc:Array Nat}:∀ (es:List Edge) (s:Nat),
  (es.foldl (fun s e=>if Region.binds .any e then s ||| 2^e.on ||| acc.getD e.on 0 else s) s).testBit j=true->
   s.testBit j=true\/∃ e∈es,Region.binds .any e=true/\(e.on=j\/(acc.getD e.on 0).testBit j=true)
 | [],s,h=>.inl h
 | e::es,s,h=>by
  simp only[znk] at h;rcases rz es _ h with h | ⟨e',he',hb,hh⟩
  ·split at h
   ·rename_i hb;simp only[Nat.testBit_or,zod] at h;rcases h with (h | h) | h
    ·exact .inl h
    ·refine .inr ⟨e,mb ..,hb,.inl ?_⟩;rw[Nat.testBit_two_pow] at h;simpa using h
    ·exact .inr ⟨e,mb ..,hb,.inr h⟩
   ·exact .inl h
  ·exact .inr ⟨e',mc _ he',hb,hh⟩
def Mn{k:Nat}(hk:k<ops.size)(h:((Region.before ops).getD k 0).testBit j=true):
  ∃ e∈(ops[k]'hk).after,Region.binds .any e=true/\(e.on=j\/(e.on<k/\((Region.before ops).getD e.on 0).testBit j=true)):=by
 have hg:=H8 (fun acc o=>o.after.foldl (fun s e=>if Region.binds .any e then s ||| 2^e.on ||| acc.getD e.on 0 else s) 0) ops.toList #[]
 have hb:Region.before ops=ops.toList.foldl (fun acc o=>acc.push (o.after.foldl (fun s e=>if Region.binds .any e then s ||| 2^e.on ||| acc.getD e.on 0 else s) 0)) #[]:=by
  unfold Region.before;rw[<-Array.foldl_toList]
 rw[hb] at h |-;obtain⟨o,pre,h1,h2,h3,h4⟩:=hg.2 k (by rw[hg.1];simpa using hk) (by simp)
 have ho:ops[k]=o:=by
  have:ops[k]?=some o:=by simpa using h1
  rw[zlk hk] at this;exact Option.some.inj this
 rw[ho];generalize (ops.toList.foldl (fun acc o=>acc.push (o.after.foldl (fun s e=>if Region.binds .any e then s ||| 2^e.on ||| acc.getD e.on 0 else s) 0)) #[])=F at *;rw[zlg,h4,Option.getD_some,<-znw] at h;rcases rz _ _ h with h | ⟨e,he,hbd,hh⟩
 ·simp at h
 ·refine⟨e,by simpa using he,hbd,?_⟩;rcases hh with hh | hh
  ·exact .inl hh
  ·by_cases hlt:e.on<k
   ·exact .inr ⟨hlt,by rw[zlg,h3 _ hlt,<-zlg];exact hh⟩
   ·rw[zlg,zmt T] at hh;simp at hh
def Mr(ops:Array Oper)(listed:Array Bool):Prop:=
 ∀ k (hk:k<ops.size),listed.getD k true=true->∀ e∈(ops[k]'hk).after,Region.binds .any e=true->listed.getD e.on false=true
def oq{listed:Array Bool}(hsz:listed.size=ops.size)(hc:Mr ops listed):∀ (k:Nat) (hk:k<ops.size),
  (∀ e∈(ops[k]'hk).after,Region.binds .any e=true->listed.getD e.on false=true)->∀ j,((Region.before ops).getD k 0).testBit j=true->listed.getD j false=true:=by
 intro k
 induction k using Nat.strongRecOn with
 | _ k ih=>
  intro hk he j hj;obtain⟨e,hem,hb,hh⟩:=Mn hk hj;rcases hh with rfl | ⟨hlt,hh⟩
  ·exact he e hem hb
  ·have hl:=he e hem hb;have hlk:e.on<ops.size:=T;refine ih e.on hlt hlk (fun e' he' hb'=>hc e.on hlk ?_ e' he' hb') j hh;simp only[zlg] at hl |-;rw[zlk T] at hl |-;simpa using hl
def tp{l:Array Bool}{x:Bool}(d:Bool)(hi:i<l.size):(l.setIfInBounds i x).getD j d=if i=j then x else l.getD j d:=by
 simp only[zlg];by_cases h:i=j
 ·subst h;simp [hi]
 ·simp [h]
def Ft{r:Option Nat}(hsep:zdh ops ex=true):∀ (fuel:Nat) (listed:Array Bool) (l:List Nat) (κ:Kap) (a:Act) (u:World),
  l.length=fuel->l.Pairwise (·<·)->listed.size=ops.size->(∀ i,i∈l↔i<ops.size/\listed.getD i true=false)->Mr ops listed->
  ParI P St ops ex Fin l κ->St κ a u->
  wpAnyIn (FW r) 0 P .any ops (fun e a' u'=>e=.normal/\∃ κ',Fin κ'/\St κ' a' u') fuel listed a u:=by
 intro fuel
 induction fuel with
 | zero=>
  intro listed l κ a u hlen _ hsz hmem _ hp hh;obtain rfl:l=[]:=mz hlen;refine⟨?_,rfl,κ,hp,hh⟩;unfold Region.ready;rw[znb];intro i hi;have:=(hmem i).2;have hi':i<ops.size:=by simpa using hi
  cases hl:listed.getD i true
  ·exact ni (this ⟨hi',hl⟩) (by simp)
  ·simp
 | succ fuel ih=>
  intro listed l κ a u hlen hsort hsz hmem hcl hp hh;have hsep':=hsep;simp only[zdh,zlj,zly] at hsep'
  have hedge:∀ i (hi:i<ops.size),∀ e∈(ops[i]'hi).after,Region.binds .any e=true->e.on<i:=fun i hi e he hb=>by
   have h1:=(hsep' i (by simpa using hi)).1;rw[zlg,zlk hi,Option.getD_some,Array.all_eq_true'] at h1;have:=h1 e he;simp [hb] at this;exact this
  constructor
  ·intro hr;exfalso
   cases l with
   | nil=>simp at hlen
   | cons i l=>
    obtain⟨hi,hli⟩:=(hmem i).1 (mb ..)
    have:i∈Region.ready .any ops listed:=by
     refine mem_ready.2 ⟨hli,ops[i],by simp [hi],fun e he hb=>?_⟩;have hlt:=hedge i hi e he hb;cases hle:listed.getD e.on true
     ·have hin:=(hmem e.on).2 ⟨by omega,hle⟩;rcases nz.1 hin with h | h
      ·omega
      ·have:=List.rel_of_pairwise_cons hsort h;omega
     ·rw[zlg,zlk T] at hle |-;simpa using hle
    rw[hr] at this;cases this
  ·intro i hi;obtain⟨hli,o,ho,hall⟩:=mem_ready.1 hi
   have hisz:i<ops.size:=by
    rcases m5 i ops.size with h | h
    ·exact h
    ·rw[zmt h] at ho;cases ho
   have hio:ops[i]=o:=by rw[zlk hisz] at ho;exact Option.some.inj ho
   have hil:i∈l:=(hmem i).2 ⟨hisz,hli⟩;obtain⟨l1,l2,rfl⟩:=zoe hil
   have hap:∀ j∈l1,∀ x y,ops[j]?=some x->ops[i]?=some y->sd ops ex x y=true:=by
    intro j hj x y hx hy;have hji:j<i:=(zl0.1 hsort).2.2 j hj i (mb ..);obtain⟨hjs,hjl⟩:=(hmem j).1 (zlt _ hj);have h2:=(hsep' i (by simpa using hisz)).2 j (by simpa using hji);rw[zod] at h2;rcases h2 with h2 | h2
    ·exfalso;have:=oq hsz hcl i hisz (fun e he hb=>by rw[hio] at he;exact hall e he hb) j h2;rw[zlg,zlk T] at this hjl;simp at this hjl;rw[this] at hjl;cases hjl
    ·rw[zlg,zlg,hx,hy] at h2;exact h2
   obtain⟨o',us,ho',hd,sx,rest⟩:=ParI.front l1 hap hp;obtain rfl:o=o':=by rw[ho] at ho';exact Option.some.inj ho'
   have hst:=sx κ a u (fun _ _=>rfl) hh;refine After.wpOpIn ho ?_;refine After.mono (fun a' u' hh'=>?_) hst;have hli':i<listed.size:=T;refine ih (listed.setIfInBounds i true) (l1++l2) _ a' u' (by simp at hlen |-;omega) ?_ (by simpa using hsz) ?_ ?_ rest hh'
   ·rw[zl0] at hsort |-;exact⟨hsort.1,(mg.1 hsort.2.1).2,fun x hx y hy=>hsort.2.2 x hx y (mc _ hy)⟩
   ·intro j;rw[tp true hli']
    have hnd:i∉l1++l2:=by
     rw[zl0] at hsort;intro hm;rcases mn.1 hm with hm | hm
     ·have:=hsort.2.2 i hm i (mb ..);omega
     ·have:=(mg.1 hsort.2.1).1 i hm;omega
    by_cases hij:i=j
    ·subst hij;simp [hnd]
    ·rw[nc hij,<-hmem j];simp only[mn,nz];constructor
     ·rintro(h | h);exact .inl h;exact .inr (.inr h)
     ·rintro(h | h | h);exact .inl h;exact ni h.symm hij;exact .inr h
   ·intro k hk hkl e he hb;rw[tp _ hli'] at hkl |-;by_cases hie:i=e.on
    ·rw[na hie]
    ·rw[nc hie];by_cases hik:i=k
     ·subst hik;rw[hio] at he;exact hall e he hb
     ·rw[nc hik] at hkl;exact hcl k hk hkl e he hb
def Gr{id:Nat}{κ:Kap}{a:Act}{u:World}{r:Option Nat}(hm:P.follows .mixedOrders=true)(hs:zdh ops ex=true)
  (hdr:∀ κ a u,St κ a u->St κ a { u with drawn:=u.drawn+1 }) (hp:zfs P St ops ex Fin ops.toList κ) (hh:St κ a u)
  (hQ:∀ κ' a' u',Fin κ'->St κ' a' u'->zpf .normal a' u'):(Code.region id ops true).wpIn (FW r) 0 P zpf a u:=by
 refine Go.wpIn_mono (wpIn_region_any hm (Ft (St:=St) (ex:=ex) (Fin:=Fin) (r:=r) hs ops.size _ (List.range ops.size) κ a _ (by simp) List.pairwise_lt_range (by simp) ?_ ?_ ?_ (hdr _ _ _ hh))) fun e a' u' he=>?_
 ·intro i;simp;intro hi;simp [hi]
 ·intro k hk hkl;simp [hk] at hkl
 ·have:=Gt (P:=P) (St:=St) (ops:=ops) (ex:=ex) (Fin:=Fin) ops.size 0 (by simp) (κ:=κ) (by simpa using hp);simpa [znx] using this
 ·obtain⟨rfl,κ',hf,hh'⟩:=he;exact hQ κ' a' u' hf hh'
end sound
section usual
variable  {F:Fr} {B:Heap}   {O:Boxes}
def HasH.drew{κ:Kap}{H:Heap}(h:HasH F B O n κ a u H fp):HasH F B O n κ a { u with drawn:=u.drawn+1 } H fp:=
 ⟨h.size,h.defers,h.nodup,h.marks,h.lent,⟨h.keep.os,h.keep.tape,h.keep.output,h.keep.size,h.keep.block,znc h.keep.dr⟩,h.sub,h.base,h.fresh,h.boxes,h.apart,fun t k hk=>by
  have:=h.slot t k hk
  cases k with
  | is v=>exact this
  | sat φ=>exact this
  | own r=>exact⟨r.st this.1 (mo _) h.sub ⟨rfl,rfl,rfl,ns _,zl1 _⟩ (fun _ _=>rfl),this.2⟩,h.owns,h.mono⟩
def Has.drew{κ:Kap}{a:Act}{u:World}(h:Has F B O n κ a u):Has F B O n κ a { u with drawn:=u.drawn+1 }:=by
 obtain⟨H,fp,h⟩:=h;exact⟨H,fp,h.drew⟩
def StepOK(P:Program)(F:Fr)(B:Heap)(n:Nat)(ops:Array Oper)(O:Boxes)(κ:Kap)(o:Oper)(d:Nat)(k:Kn):Prop:=
 ∀ κ' a u,(∀ t∈o.looksAt ops,κ' t=κ t)->Has F B O n κ' a u->After P ops o (fun a' u'=>Has F B O n (upd κ' d k) a' u') a u
def StepOK.stepG{ex:Exs}{κ:Kap}{k:Kn}(h:StepOK P F B n ops O κ o d k):StepG P (Has F B O n) ops ex κ o [(d,k)]:=
 fun κ' a u hl hh=>h κ' a u (fun t ht=>hl t (zlt _ ht)) hh
def Ops(P:Program)(ops:Array Oper)(zpf:Act->World->Prop):List Oper->Act->World->Prop
 | [],a,u=>zpf a u
 | o::os,a,u=>After P ops o (Ops P ops zpf os) a u
def l4{r:Option Nat}{zpf:Act->World->Prop}{Q':Exit->Act->World->Prop}(hQ:∀ a u,zpf a u->Q' .normal a u):∀ (m i:Nat) {a:Act} {u:World},i+m=ops.size->Ops P ops zpf (ops.toList.drop i) a u->
  wpOpsIn (FW r) 0 P ops Q' (List.range' i m) a u
 | 0,i,a,u,hm,h=>by
  rw[zlf (by simp;omega)] at h;exact hQ _ _ h
 | m+1,i,a,u,hm,h=>by
  have hi:i<ops.toList.length:=by simp;omega
  have hi':i<ops.size:=by simpa using hi
  have ho:ops[i]?=some ops.toList[i]:=by rw[zlk hi'];simp
  rw[zl9 hi] at h;rw[zny,wpOpsIn_cons];exact After.wpOpIn ho (After.mono (fun a' u' hh'=>l4 hQ m (i+1) T hh') h)
def Ap{id:Nat}{a:Act}{u:World}{r:Option Nat}(h:Ops P ops (fun a u=>zpf .normal a u) ops.toList a u):(Code.region id ops false).wpIn (FW r) 0 P zpf a u:=
 wpIn_region (by rw[znx];exact l4 (fun _ _ h=>h) ops.size 0 (by simp) (by simpa using h))
end usual
end Go.V
variable{r:Go.V.Res}{F:Go.V.Fr}{B B0 H H':Go.V.Heap}{O O1 O2:Go.V.Boxes}{κ:Go.V.Kap}{φ ψ:Go.Value->Go.V.Heap->Prop}{ex:Go.V.Exs}{φs:List (Go.Value->Go.V.Heap->Prop)}{zpe:List (Nat×Go.V.Res)}
namespace Go.V
def ldI(P:Program)(t:TypeId):Option (Bool×Nat):=
 match P.underlying t,P.info? t with
 | some d,some i=>some (match d with | .struct _ | .array _ _=>true | _=>false,i.size)
 | _,_=>none
def slI(P:Program)(t:TypeId):Option Nat:=match P.underlying t with | some (.slice e)=>some e | _=>none
def stI(P:Program)(t:TypeId):Option Unit:=match P.underlying t with | some .string=>some () | _=>none
def foI(P:Program)(p:Nat×Nat):Option Nat:=
 match P.underlying p.1 with
 | some (.struct fs)=>match fs[p.2]? with
  | some f=>match P.info? f.type with
   | some i=>if i.size=0 then none else some f.offset
   | none=>none
  | none=>none
 | _=>none
def zrI(P:Program)(t:TypeId):Option Value:=match P.info? t with | some i=>i.zero | none=>none
def G9{β:Type}(t:Nat):List (Nat×β)->Option β
 | []=>none
 | (s,r)::l=>bif Nat.beq t s then some r else G9 t l
def Ny{β:Type}(t i:Nat):List ((Nat×Nat)×β)->Option β
 | []=>none
 | ((s,j),r)::l=>bif Nat.beq t s && Nat.beq i j then some r else Ny t i l
structure Tabs(P:Program) where
 ldT:List (Nat×(Bool×Nat))
 slT:List (Nat×Nat)
 stT:List (Nat×Unit)
 foT:List ((Nat×Nat)×Nat)
 zrT:List (Nat×Value)
 fnT:List (Nat×Unit)
 ld_ok:ldT.all (fun p=>ldI P p.1 == some p.2)=true
 sl_ok:slT.all (fun p=>slI P p.1 == some p.2)=true
 st_ok:stT.all (fun p=>stI P p.1 == some p.2)=true
 fo_ok:foT.all (fun p=>foI P p.1 == some p.2)=true
 zr_ok:zrT.map (fun p=>zrI P p.1)=zrT.map (fun p=>some p.2)
 fn_ok : fnT.all (fun p => match P.funcs[p.1]? with | some fn => fn.body.isSome && fn.name != "runtime.NumGoroutine" | none => false) = true
def dm{β:Type}{t:Nat}{r:β}:∀ {l:List (Nat×β)},G9 t l=some r->(t,r)∈l
 | [],h=>by cases h
 | (s,r')::l,h=>by
  unfold G9 at h
  cases hb:Nat.beq t s with
  | true=>rw[hb] at h;obtain rfl:=zm2 hb;simp at h;subst h;exact mb ..
  | false=>rw[hb] at h;exact mc _ (dm h)
def Cz{β:Type}{t i:Nat}{r:β}:∀ {l:List ((Nat×Nat)×β)},Ny t i l=some r->((t,i),r)∈l
 | [],h=>by cases h
 | ((s,j),r')::l,h=>by
  unfold Ny at h
  cases hb:Nat.beq t s && Nat.beq i j with
  | true=>
   rw[hb] at h;rw[zly] at hb;obtain rfl:=zm2 hb.1;obtain rfl:=zm2 hb.2;simp at h;subst h;exact mb ..
  | false=>rw[hb] at h;exact mc _ (Cz h)
section tabs
variable  (L:Tabs P)
def Tabs.ld(t:Nat):Option (Bool×Nat):=G9 t L.ldT
def Tabs.sl(t:Nat):Option Nat:=G9 t L.slT
def Tabs.st(t:Nat):Option Unit:=G9 t L.stT
def Tabs.fo(t i:Nat):Option Nat:=Ny t i L.foT
def Tabs.zr(t:Nat):Option Value:=G9 t L.zrT
def Tabs.fn(t:Nat):Option Unit:=G9 t L.fnT
variable {L}
def Tabs.ld_spec{t:Nat}{r:Bool×Nat}(h:L.ld t=some r):ldI P t=some r:=by
 simpa using zlj.1 L.ld_ok _ (dm h)
def Tabs.sl_spec{t e:Nat}(h:L.sl t=some e):P.underlying t=some (.slice e):=by
 have:=zlj.1 L.sl_ok _ (dm h);simp only[beq_iff_eq,slI] at this;split at this
 ·rename_i e' he;rw[he];cases this;rfl
 ·cases this
def Tabs.st_spec{t:Nat}{x:Unit}(h:L.st t=some x):P.underlying t=some .string:=by
 have:=zlj.1 L.st_ok _ (dm h);simp only[beq_iff_eq,stI] at this;split at this
 ·assumption
 ·cases this
def Tabs.fo_spec{t i off:Nat}(h:L.fo t i=some off):∃ fs f j,P.underlying t=some (.struct fs)/\fs[i]?=some f/\P.info? f.type=some j/\j.size≠0/\f.offset=off:=by
 have:=zlj.1 L.fo_ok _ (Cz h);simp only[beq_iff_eq,foI] at this;split at this
 ·rename_i fs hfs;split at this
  ·rename_i f hf;split at this
   ·rename_i j hj;split at this
    ·cases this
    ·rename_i hz;exact⟨fs,f,j,hfs,hf,hj,hz,by simpa using this⟩
   ·cases this
  ·cases this
 ·cases this
def Tabs.zr_spec{t:Nat}(h:L.zr t=some z):zrI P t=some z:=List.map_inj_left.1 L.zr_ok _ (dm h)
def Tabs.fn_spec{t : Nat}{x : Unit}(h : L.fn t = some x) : ∃ fn, P.funcs[t]? = some fn ∧ fn.body.isSome = true ∧ (fn.name == "runtime.NumGoroutine") = false := by
 have:=zlj.1 L.fn_ok _ (dm h);simp only at this;split at this
 ·rename_i fn hf;simp only[zly] at this;exact⟨fn,hf,this.1,by simpa using this.2⟩
 ·cases this
end tabs
def evK(κ:Kap):Operand->Option Value
 | .const v=>some v
 | .func f=>some (.func (.func f) #[] #[])
 | .global g=>some (.pointer (some ⟨g,0,none⟩))
 | .tmp t=>match κ t with
  | some (.is v)=>some v
  | _=>none
def Xg(κ:Kap):List Operand->Option (List Value)
 | []=>some []
 | x::xs=>match evK κ x,Xg κ xs with
  | some v,some vs=>some (v::vs)
  | _,_=>none
def gK(ops:Array Oper)(κ:Kap)(o:Oper):Option Bool:=
 match o.guard with
 | none=>some true
 | some (j,want)=>match (ops[j]?).bind (·.dst) with
  | none=>none
  | some t=>match κ t with
   | some (.is (.bool b))=>some (b == want)
   | some (.is (.tuple _))=>some false
   | _=>none
section
variable       {κ':Kap}     
structure Env(F:Fr)(B:Heap)(O:Boxes)(κ:Kap)(o:Oper)(a:Act)(u:World)(H:Heap)(fp:Nat->Nat->Prop):Prop where
 is_:∀ x v,x∈o.op.operands->evK κ x=some v->a.eval x=v
 sat_:∀ t φ,.tmp t∈o.op.operands->κ t=some (.sat φ)->φ (a.eval (.tmp t)) H
 own_:∀ t r,.tmp t∈o.op.operands->κ t=some (.own r)->r.P (a.eval (.tmp t)) H u (fp t)/\zjt F O u H (fp t)
 sub:H.Le (hp u)
 base:B.Le H
 boxes:∀ y∈O,u.heap[y.1]?=some y.2/\H y.1=none/\(F.w0.heap.size<=y.1\/F.L y.1)
 keep:Keep F.L F.w0 u
def pf{t:Nat}(h:Operand.tmp t∈o.op.operands):t∈o.looksAt ops:=
 zlt _ (List.mem_filterMap.2 ⟨.tmp t,by simpa using h,rfl⟩)
def HasH.env(h:HasH F B O n κ' a u H fp)(hl:∀ t∈o.looksAt ops,κ' t=κ t):Env F B O κ o a u H fp:={
 is_:=fun x v hx hv=>by
  cases x with
  | tmp t=>
   simp only[evK] at hv;split at hv
   ·rename_i v' hk;cases hv;exact h.slot t _ ((hl t (pf hx)).trans hk)
   ·cases hv
  | const c=>simp only[evK] at hv;cases hv;rfl
  | global g=>simp only[evK] at hv;cases hv;rfl
  | func f=>simp only[evK] at hv;cases hv;rfl
 sat_:=fun t φ hx hk=>h.slot t _ ((hl t (pf hx)).trans hk)
 own_:=fun t r hx hk=>h.slot t _ ((hl t (pf hx)).trans hk)
 sub:=h.sub
 base:=h.base
 boxes:=h.boxes
 keep:=h.keep }
def F3{t:Nat}(h:a.eval (.tmp t)=v)(hv:v≠undef):a.tmps[t]?=some v:=by
 simp only[Act.eval,zlg] at h
 cases hx:a.tmps[t]? with
 | none=>rw[hx] at h;exact ni h.symm hv
 | some y=>rw[hx] at h;exact nh some h
def xf(h:HasH F B O n κ' a u H fp)(hl:∀ t∈o.looksAt ops,κ' t=κ t)(hg:gK ops κ o=some b):
  Region.wanted o (yielded ops a.tmps)=b:=by
 unfold gK at hg;unfold Region.wanted
 cases hgd:o.guard with
 | none=>rw[hgd] at hg;simpa using hg
 | some gw=>
  obtain⟨j,want⟩:=gw;rw[hgd] at hg;simp only at hg |-
  cases ht:(ops[j]?).bind (·.dst) with
  | none=>rw[ht] at hg;cases hg
  | some t=>
   rw[ht] at hg;simp only at hg;have hlt:t∈o.looksAt ops:=zma _ (by rw[hgd];simp [ht]);split at hg
   ·rename_i b' hk;have hy:=F3 (h.slot t _ ((hl t hlt).trans hk)) (by simp [undef]);have:yielded ops a.tmps j=some b':=by simp [yielded,ht,hy]
    rw[this];cases hg;cases b'<;>cases want<;>rfl
   ·rename_i vs hk;have hy:a.eval (.tmp t)=.tuple vs:=h.slot t _ ((hl t hlt).trans hk)
    have:yielded ops a.tmps j=none:=by
     simp only[yielded,ht,Option.bind_some];simp only[Act.eval,zlg] at hy
     cases hx:a.tmps[t]? with
     | none=>simp
     | some y=>rw[hx] at hy;simp at hy;subst hy;simp
    rw[this];cases hg;rfl
   ·cases hg
def Kn.plain:Kn->Value->Heap->Prop
 | .is v,x,_=>x=v
 | .sat φ,x,H=>φ x H
 | .own _,_,_=>False
def Heap.Le.size{H:Heap}{u:World}{b:Nat}{x:Obj}(h:zpg H u)(hb:H b=some x):b<u.heap.size:=by
 have:=h b x hb;unfold hp at this;rcases m5 b u.heap.size with h | h
 ·exact h
 ·rw[zmt h] at this;cases this
def xb{b:Nat}{x:Obj}(h:u.heap[b]?=some x):b<u.heap.size:=by
 rcases m5 b u.heap.size with h' | h'
 ·exact h'
 ·rw[zmt h'] at h;cases h
def k7(h:zpg H u){k:Nat}(hk:u.heap.size<=k):H k=none:=by
 cases hx:H k with
 | none=>rfl
 | some x=>have:=h.size hx;omega
def HasH.growL(h:HasH F B O n κ a u H fp)(g:Grow L u H u' H')(hL:∀ k,L k->k<u.heap.size->(F.w0.heap.size<=k\/F.L k)/\∀ y∈O,y.1≠k)
  (hS:∀ t r,κ t=some (.own r)->∀ k,fp t k->¬ L k):HasH F B O n κ a u' H' fp:={
 size:=h.size
 defers:=h.defers
 nodup:=h.nodup
 marks:=h.marks
 lent:=h.lent
 keep:=h.keep.trans g.keep fun k hk hl=>by
  have hks:=zl8 hk h.keep.size;rcases(hL k hl hks).1 with h | h
  ·omega
  ·exact h
 sub:=g.sub
 base:=h.base.trans g.le
 fresh:=fun k hk hl=>by
  have hks:=zl8 hk h.keep.size;refine(g.fresh k hks fun hl'=>?_).trans (h.fresh k hk hl);rcases(hL k hl' hks).1 with h | h
  ·omega
  ·exact hl h
 boxes:=fun y hy=>by
  obtain⟨h1,h2,h3⟩:=h.boxes y hy;have hs:=xb h1;have hn:¬ L y.1:=fun hl=>(hL y.1 hl hs).2 y hy rfl;exact⟨(g.keep.block _ hs hn).trans h1,(g.fresh _ hs hn).trans h2,h3⟩
 apart:=h.apart
 slot:=fun t k hk=>by
  have hh:=h.slot t k hk
  cases k with
  | is x=>exact hh
  | sat φ=>exact h.mono t _ hk _ H H' hh g.le
  | own r=>
   obtain⟨h1,h2⟩:=hh;have hn:=hS t r hk;refine⟨r.st h1 g.le g.sub g.keep.on fun k hk=>g.keep.block _ (h2 k hk).1 (hn k hk),fun k hk=>?_⟩;obtain⟨g1,g2,g3,g4⟩:=h2 k hk;exact⟨zl8 g1 g.keep.size,(g.fresh _ g1 (hn k hk)).trans g2,g3,g4⟩
 owns:=h.owns
 mono:=h.mono }
def HasH.grow(h:HasH F B O n κ a u H fp)(g:Grow noL u H u' H'):HasH F B O n κ a u' H' fp:=
 h.growL g (fun _ hl=>hl.elim) (fun _ _ _ _ _ hl=>hl)
def HasH.sub_kap{κ2:Kap}(h:HasH F B O n κ a u H fp)(hs:∀ t k,κ2 t=some k->κ t=some k):HasH F B O n κ2 a u H fp:=
 ⟨h.size,h.defers,h.nodup,h.marks,h.lent,h.keep,h.sub,h.base,h.fresh,h.boxes,h.apart,fun t k hk=>h.slot t k (hs t k hk),fun s t r r' hst h1 h2=>h.owns s t r r' hst (hs _ _ h1) (hs _ _ h2),fun t k hk=>h.mono t k (hs t k hk)⟩
def xx(hd:d<a.tmps.size):(a.put (some d) v).eval (.tmp d)=v:=by
 simp [Act.eval,Act.put,hd]
def xn{t:Nat}(h:t≠d):(a.put (some d) v).eval (.tmp t)=a.eval (.tmp t):=by
 simp only[Act.eval,Act.put,zlg];rw[Array.getElem?_setIfInBounds_ne (Ne.symm h)]
def HasH.put{d:Nat}{k:Kn}{v:Value}(h:HasH F B O n κ a u H fp)(hd:d<n)(hm:k.mono)(hk:k.plain v H):
  HasH F B O n (upd κ d k) (a.put (some d) v) u H fp:={
 size:=by simp [Act.put,h.size]
 defers:=h.defers
 nodup:=h.nodup
 marks:=h.marks
 lent:=h.lent
 keep:=h.keep
 sub:=h.sub
 base:=h.base
 fresh:=h.fresh
 boxes:=h.boxes
 apart:=h.apart
 slot:=fun t k' hk'=>by
  by_cases ht:t=d
  ·subst ht;rw[xj] at hk';cases hk';rw[xx (by rw[h.size];exact hd)]
   cases k with
   | is x=>exact hk
   | sat φ=>exact hk
   | own r=>exact hk.elim
  ·rw[xd _ _ ht] at hk';rw[xn ht];exact h.slot t k' hk'
 owns:=fun s t r r' hst hs ht=>by
  have key:∀ x r,upd κ d k x=some (.own r)->κ x=some (.own r):=fun x r hx=>by
   by_cases hxd:x=d
   ·subst hxd;rw[xj] at hx;cases hx;exact hk.elim
   ·rw[xd _ _ hxd] at hx;exact hx
  exact h.owns s t r r' hst (key _ _ hs) (key _ _ ht)
 mono:=fun t φ hk'=>by
  by_cases ht:t=d
  ·subst ht;rw[xj] at hk';cases hk';exact hm
  ·rw[xd _ _ ht] at hk';exact h.mono t φ hk' }
def fpu(fp:Nat->Nat->Prop)(d:Nat)(C:Nat->Prop):Nat->Nat->Prop:=fun s=>if s=d then C else fp s
def od(fp:Nat->Nat->Prop)(d:Nat)(C:Nat->Prop):fpu fp d C d=C:=na rfl
def du(fp:Nat->Nat->Prop)(C:Nat->Prop)(h:s≠d):fpu fp d C s=fp s:=nc h
def HasH.putR{a':Act}(h:HasH F B O n κ a u H fp)(hsz:a'.tmps.size=a.tmps.size)(hdf:a'.defers=a.defers)(hev:∀ t,t≠d->a'.eval (.tmp t)=a.eval (.tmp t))
  (hr:r.P (a'.eval (.tmp d)) H u C) (hM:zjt F O u H C) (hap:∀ t r',t≠d->κ t=some (.own r')->∀ k,fp t k->¬ C k):HasH F B O n (upd κ d (.own r)) a' u H (fpu fp d C):={
 size:=hsz.trans h.size
 defers:=hdf.trans h.defers
 nodup:=h.nodup
 marks:=h.marks
 lent:=h.lent
 keep:=h.keep
 sub:=h.sub
 base:=h.base
 fresh:=h.fresh
 boxes:=h.boxes
 apart:=h.apart
 slot:=fun t k' hk'=>by
  by_cases ht:t=d
  ·subst ht;rw[xj] at hk';cases hk';rw[od];exact⟨hr,hM⟩
  ·rw[xd _ _ ht] at hk';rw[hev t ht,du _ _ ht];exact h.slot t k' hk'
 owns:=fun s t r1 r2 hst hs ht=>by
  by_cases hsd:s=d
  ·subst hsd;rw[od,du _ _ (Ne.symm hst)];rw[xd _ _ (Ne.symm hst)] at ht;exact fun k hc hf=>hap t r2 (Ne.symm hst) ht k hf hc
  ·rw[xd _ _ hsd] at hs;rw[du _ _ hsd];by_cases htd:t=d
   ·subst htd;rw[od];exact hap s r1 hsd hs
   ·rw[xd _ _ htd] at ht;rw[du _ _ htd];exact h.owns s t r1 r2 hst hs ht
 mono:=fun t φ hk'=>by
  by_cases ht:t=d
  ·subst ht;rw[xj] at hk';cases hk';trivial
  ·rw[xd _ _ ht] at hk';exact h.mono t φ hk' }
def Sz{k:Kn}(hd:o.dst=some d)(hn:d<n)(hg:gK ops κ o=some true)(hm:k.mono)
  (h:∀ a u H fp,Env F B O κ o a u H fp->∃ v u' H',(execOp a.eval o).run P u=.ok (.value v) u'/\Grow noL u H u' H'/\k.plain v H'):
  StepOK P F B n ops O κ o d k:=by
 rintro κ' a u hl ⟨H,fp,hh⟩;unfold After;rw[na (xf hh hl hg)];obtain⟨v,u',H',hr,g,hk⟩:=h a u H fp (hh.env hl);rw[hr];simp only[Upon];rw[hd];exact⟨H',fp,(hh.grow g).put hn hm hk⟩
def ke{k:Kn}(hd:o.dst=some d)(hn:d<n)(hg:gK ops κ o=some true)(hm:k.mono)
  (h:∀ a u H fp,Env F B O κ o a u H fp->∃ v,(execOp a.eval o).run P u=.ok (.value v) u/\k.plain v H):
  StepOK P F B n ops O κ o d k:=
 Sz hd hn hg hm fun a u H fp e=>let ⟨v,hr,hk⟩:=h a u H fp e;⟨v,u,H,hr,Grow.refl e.sub,hk⟩
def zt(hd:o.dst=some d)(hn:d<n)(hg:gK ops κ o=some false):StepOK P F B n ops O κ o d (.is undef):=by
 rintro κ' a u hl ⟨H,fp,hh⟩;unfold After;have:=xf hh hl hg;rw[nc (by rw[this];decide),hd];exact⟨H,fp,hh.put hn trivial Z⟩
def ft(w:World)(B:Heap)(L:Nat->Prop)(φ:Value->Heap->World->Prop)(e:Ending)(u:World):Prop:=
 ∃ v,e=.returned v/\∃ H,Grow L w B u H/\φ v H u
def RetL(P:Program)(f:FuncId)(args:List Value)(w:World)(B:Heap)(L:Nat->Prop)(φ:Value->Heap->World->Prop):Prop:=
 Calls P f args.toArray w (ft w B L φ)
abbrev zki(w:World)(B:Heap)(φ:Value->Heap->Prop):Ending->World->Prop:=ft w B noL fun v H _=>φ v H
def Ret(P:Program)(f:FuncId)(args:List Value)(w:World)(B:Heap)(φ:Value->Heap->Prop):Prop:=
 Calls P f args.toArray w (zki w B φ)
def RetL.mono{f:FuncId}{args:List Value}{w:World}{L:Nat->Prop}{φ ψ:Value->Heap->World->Prop}(h:RetL P f args w B L φ)(hi:∀ v H u,Grow L w B u H->φ v H u->ψ v H u):RetL P f args w B L ψ:=
 Calls.mono h fun _ _ ⟨v,he,H,g,hp⟩=>⟨v,he,H,g,hi v H _ g hp⟩
def Ret.mono{f:FuncId}{args:List Value}{w:World}{φ ψ:Value->Heap->Prop}(h:Ret P f args w B φ)(hi:∀ v H,B.Le H->φ v H->ψ v H):Ret P f args w B ψ:=
 Calls.mono h fun _ _ ⟨v,he,H,g,hp⟩=>⟨v,he,H,g,hi v H g.le hp⟩
def Args(κ:Kap)(H:Heap):List Operand->List Value->(List Value->Prop)->Prop
 | [],acc,K=>K acc.reverse
 | x::xs,acc,K=>match x with
  | .tmp t=>match κ t with
   | some (.is v)=>Args κ H xs (v::acc) K
   | some (.sat φ)=>∀ v,φ v H->Args κ H xs (v::acc) K
   | _=>False
  | .const v=>Args κ H xs (v::acc) K
  | .global g=>Args κ H xs (.pointer (some ⟨g,0,none⟩)::acc) K
  | .func f=>Args κ H xs (.func (.func f) #[] #[]::acc) K
def Args.use(e:Env F B O κ o a u H fp){K:List Value->Prop}:∀ (xs:List Operand) (acc:List Value),(∀ x∈xs,x∈o.op.operands)->Args κ H xs acc K->K (acc.reverse++xs.map a.eval)
 | [],acc,_,h=>by simpa [Args] using h
 | x::xs,acc,hx,h=>by
  have step:∀ v,a.eval x=v->Args κ H xs (v::acc) K->K (acc.reverse++(x::xs).map a.eval):=fun v hv hr=>by
   have:=Args.use e xs (v::acc) (fun y hy=>hx y (mc _ hy)) hr;simpa [hv] using this
  have hxo:=hx x (mb ..)
  cases x with
  | tmp t=>
   simp only[Args] at h;split at h
   ·rename_i v hk;exact step v (e.is_ (.tmp t) v hxo (by simp [evK,hk])) h
   ·rename_i φ hk;exact step _ rfl (h _ (e.sat_ t φ hxo hk))
   ·exact h.elim
  | const v=>exact step v rfl h
  | global g=>exact step _ rfl h
  | func f=>exact step _ rfl h
def uk(L:Tabs P){f:Nat}{xs:Array Value}(h:L.fn f=some ()):(callFunc f xs).run P w=.ok (.enter f xs) w:=by
 obtain⟨fn,hf,hb,hn⟩:=Tabs.fn_spec h;have hb':fn.body≠none:=by intro hx;simp [hx] at hb
 have hn' : fn.name ≠ "runtime.NumGoroutine" := by simpa using hn
 simp [callFunc,hf,hn',hb']
def vr{f:Nat}(L:Tabs P){fo:Operand}(hop:o.op=.call { callee:=.value fo,args:=args,argTypes:=at_ })(hfe:a.eval fo=.func (.func f) #[] cap.toArray)(hfn:L.fn f=some ()):
  (execOp a.eval o).run P u=.ok (.enter f ((args.toList.map a.eval++cap).toArray)) u:=by
 simp only[execOp,hop,resolve,hfe,Deferred.ofValue,nu,me,ma,invoke];rw[uk L hfn];simp
def xg(L:Tabs P){f:Nat}{fo:Operand}
  (hop:o.op=.call { callee:=.value fo,args:=args,argTypes:=at_ }) (hd:o.dst=some d) (hn:d<n) (hg:gK ops κ o=some true)
  (hf:evK κ fo=some (.func (.func f) #[] cap.toArray)) (hfn:L.fn f=some ()) (hm:Kn.mono (.sat φ))
  (h:∀ u H,zpg H u->B.Le H->Below F.w0.heap.size F.w0 F.w0->Args κ H args.toList [] (fun vs=>Ret P f (vs++cap) u H φ)):
  StepOK P F B n ops O κ o d (.sat φ):=by
 rintro κ' a u hl ⟨H,fp,hh⟩;unfold After;rw[na (xf hh hl hg)];have e:=hh.env hl;have hfe:a.eval fo=.func (.func f) #[] cap.toArray:=e.is_ fo _ (by simp [hop,Op.operands,Call.operands]) hf;have hc:=Args.use e args.toList [] (fun x hx=>by simp [hop,Op.operands,Call.operands] at hx |-;exact .inr hx) (h u H e.sub e.base (Below.refl _ _));simp only[zmb,mh] at hc;rw[vr L hop hfe hfn];simp only[Upon];refine Calls.mono hc fun e' u' hp=>?_;obtain⟨v,rfl,H',g,hv⟩:=hp;refine⟨v,rfl,?_⟩;simp only[hd];exact⟨H',fp,(hh.grow g).put hn hm hv⟩
def zz(L:Tabs P){f:Nat}{r:Value}{fo:Operand}
  (hop:o.op=.call { callee:=.value fo,args:=args,argTypes:=at_ }) (hd:o.dst=some d) (hn:d<n) (hg:gK ops κ o=some true)
  (hf:evK κ fo=some (.func (.func f) #[] cap.toArray)) (hfn:L.fn f=some ())
  (h:∀ u H,zpg H u->B.Le H->Below F.w0.heap.size F.w0 F.w0->Args κ H args.toList [] (fun vs=>Ret P f (vs++cap) u H (fun v _=>v=r))):
  StepOK P F B n ops O κ o d (.is r):=by
 rintro κ' a u hl ⟨H,fp,hh⟩;unfold After;rw[na (xf hh hl hg)];have e:=hh.env hl;have hfe:a.eval fo=.func (.func f) #[] cap.toArray:=e.is_ fo _ (by simp [hop,Op.operands,Call.operands]) hf;have hc:=Args.use e args.toList [] (fun x hx=>by simp [hop,Op.operands,Call.operands] at hx |-;exact .inr hx) (h u H e.sub e.base (Below.refl _ _));simp only[zmb,mh] at hc;rw[vr L hop hfe hfn];simp only[Upon];refine Calls.mono hc fun e' u' hp=>?_;obtain⟨v,rfl,H',g,hv⟩:=hp;refine⟨v,rfl,?_⟩;simp only[hd];exact⟨H',fp,(hh.grow g).put (k:=.is r) hn trivial hv⟩
end
end Go.V
namespace Go.V
def zn{a b:Nat}(h:Nat.blt a b=true):a<b:=by simpa using h
section ops
def ze(hn:Nat.blt d n=true)(hg:gK ops κ ⟨some d,.move x,ty,pos,aft,g⟩=some true)(hx:evK κ x=some v):
  StepOK P F B n ops O κ ⟨some d,.move x,ty,pos,aft,g⟩ d (.is v):=
 ke rfl (zn hn) hg trivial fun a u H fp e=>⟨v,by simp [execOp,e.is_ x v (by simp [Op.operands]) hx],rfl⟩
def zi(hn:Nat.blt d n=true)(hg:gK ops κ ⟨some d,.assign x,ty,pos,aft,g⟩=some true)(hx:evK κ x=some v):
  StepOK P F B n ops O κ ⟨some d,.assign x,ty,pos,aft,g⟩ d (.is v):=
 ke rfl (zn hn) hg trivial fun a u H fp e=>⟨v,by simp [execOp,e.is_ x v (by simp [Op.operands]) hx],rfl⟩
def qq{c:Operand}(hn:Nat.blt d n=true)(hg:gK ops κ ⟨some d,.pick c x y,ty,pos,aft,g⟩=some true)(hc:evK κ c=some (.bool b))
  (hx:evK κ (bif b then x else y)=some v):StepOK P F B n ops O κ ⟨some d,.pick c x y,ty,pos,aft,g⟩ d (.is v):=
 ke rfl (zn hn) hg trivial fun a u H fp e=>⟨v,by
  have h1:=e.is_ c _ (by simp [Op.operands]) hc
  cases b with
  | true=>have h2:=e.is_ x v (by simp [Op.operands]) hx;simp [execOp,h1,h2,asBool]
  | false=>have h2:=e.is_ y v (by simp [Op.operands]) hx;simp [execOp,h1,h2,asBool],rfl⟩
def w7{op:BinOp}{p q:Value}(hn:Nat.blt d n=true)(hg:gK ops κ ⟨some d,.binOp op t x y t',ty,pos,aft,g⟩=some true)
  (hx:evK κ x=some p) (hy:evK κ y=some q) (hr:∀ u,(do eqGuard op t x y p q;binOp op t p q:Sem Value).run P u=.ok v u):
  StepOK P F B n ops O κ ⟨some d,.binOp op t x y t',ty,pos,aft,g⟩ d (.is v):=
 ke rfl (zn hn) hg trivial fun a u H fp e=>⟨v,by
  have h1:=e.is_ x p (by simp [Op.operands]) hx;have h2:=e.is_ y q (by simp [Op.operands]) hy;have h3:=hr u;simp only[execOp,h1,h2,nu] at h3 |-;rw[h3];rfl,rfl⟩
section bins
variable    {q:Int}
def qt(hn:Nat.blt d n=true)(hg:gK ops κ ⟨some d,.binOp .lss t x y t',ty,pos,aft,g⟩=some true)(hx:evK κ x=some (.int k p))(hy:evK κ y=some (.int k q))(hb:decide (p<q)=b):
  StepOK P F B n ops O κ ⟨some d,.binOp .lss t x y t',ty,pos,aft,g⟩ d (.is (.bool b)):=w7 hn hg hx hy fun u=>by subst hb;simp [eqGuard_lss,binOp_lss]
def Nm(hn:Nat.blt d n=true)(hg:gK ops κ ⟨some d,.binOp .leq t x y t',ty,pos,aft,g⟩=some true)(hx:evK κ x=some (.int k p))(hy:evK κ y=some (.int k q))(hb:decide (p<=q)=b):
  StepOK P F B n ops O κ ⟨some d,.binOp .leq t x y t',ty,pos,aft,g⟩ d (.is (.bool b)):=w7 hn hg hx hy fun u=>by subst hb;simp [eqGuard_leq,binOp_leq]
def yu(hn:Nat.blt d n=true)(hg:gK ops κ ⟨some d,.binOp .gtr t x y t',ty,pos,aft,g⟩=some true)(hx:evK κ x=some (.int k p))(hy:evK κ y=some (.int k q))(hb:decide (p>q)=b):
  StepOK P F B n ops O κ ⟨some d,.binOp .gtr t x y t',ty,pos,aft,g⟩ d (.is (.bool b)):=w7 hn hg hx hy fun u=>by subst hb;simp [eqGuard_gtr,binOp_gtr]
def Nn(hn:Nat.blt d n=true)(hg:gK ops κ ⟨some d,.binOp .geq t x y t',ty,pos,aft,g⟩=some true)(hx:evK κ x=some (.int k p))(hy:evK κ y=some (.int k q))(hb:decide (p>=q)=b):
  StepOK P F B n ops O κ ⟨some d,.binOp .geq t x y t',ty,pos,aft,g⟩ d (.is (.bool b)):=w7 hn hg hx hy fun u=>by subst hb;simp [eqGuard_geq,binOp_geq]
def yi(hn:Nat.blt d n=true)(hg:gK ops κ ⟨some d,.binOp .eql t x y t',ty,pos,aft,g⟩=some true)(hx:evK κ x=some (.int k p))(hy:evK κ y=some (.int k q))(hb:decide (p=q)=b):
  StepOK P F B n ops O κ ⟨some d,.binOp .eql t x y t',ty,pos,aft,g⟩ d (.is (.bool b)):=w7 hn hg hx hy fun u=>by subst hb;simp [eqGuard_at_int,binOp_eql];rfl
def yw(hn:Nat.blt d n=true)(hg:gK ops κ ⟨some d,.binOp .neq t x y t',ty,pos,aft,g⟩=some true)(hx:evK κ x=some (.int k p))(hy:evK κ y=some (.int k q))(hb:decide (p≠q)=b):
  StepOK P F B n ops O κ ⟨some d,.binOp .neq t x y t',ty,pos,aft,g⟩ d (.is (.bool b)):=w7 hn hg hx hy fun u=>by subst hb;simp [eqGuard_at_int,binOp_neq,bne];rfl
def y6{r:Int}(hn:Nat.blt d n=true)(hg:gK ops κ ⟨some d,.binOp .add t x y t',ty,pos,aft,g⟩=some true)(hx:evK κ x=some (.int k p))(hy:evK κ y=some (.int k q))(hb:k.wrap (p+q)=r):
  StepOK P F B n ops O κ ⟨some d,.binOp .add t x y t',ty,pos,aft,g⟩ d (.is (.int k r)):=w7 hn hg hx hy fun u=>by subst hb;simp [eqGuard_add,binOp_add,Op.intArith]
def yp{r:Int}(hn:Nat.blt d n=true)(hg:gK ops κ ⟨some d,.binOp .sub t x y t',ty,pos,aft,g⟩=some true)(hx:evK κ x=some (.int k p))(hy:evK κ y=some (.int k q))(hb:k.wrap (p-q)=r):
  StepOK P F B n ops O κ ⟨some d,.binOp .sub t x y t',ty,pos,aft,g⟩ d (.is (.int k r)):=w7 hn hg hx hy fun u=>by subst hb;simp [eqGuard_sub,binOp_sub,Op.intArith]
def S5{r:Int}(hn:Nat.blt d n=true)(hg:gK ops κ ⟨some d,.binOp .mul t x y t',ty,pos,aft,g⟩=some true)(hx:evK κ x=some (.int k p))(hy:evK κ y=some (.int k q))(hb:k.wrap (p*q)=r):
  StepOK P F B n ops O κ ⟨some d,.binOp .mul t x y t',ty,pos,aft,g⟩ d (.is (.int k r)):=w7 hn hg hx hy fun u=>by subst hb;simp [eqGuard_mul,binOp_mul,Op.intArith]
def Cf(a c:ByteArray):(a.toList == c.toList)=decide (a=c):=by
 rw[<-beq_toListBytes];obtain⟨⟨x⟩⟩:=a;obtain⟨⟨y⟩⟩:=c;show((⟨x⟩:Array UInt8) == ⟨y⟩)=_;simp;rw[Bool.eq_iff_iff];simp
def Sx{s r:ByteArray}(hn:Nat.blt d n=true)(hg:gK ops κ ⟨some d,.binOp .eql t x y t',ty,pos,aft,g⟩=some true)(hx:evK κ x=some (.string s))(hy:evK κ y=some (.string r))(hb:decide (s=r)=b):
  StepOK P F B n ops O κ ⟨some d,.binOp .eql t x y t',ty,pos,aft,g⟩ d (.is (.bool b)):=w7 hn hg hx hy fun u=>by subst hb;simp only[eqGuard_at_string,binOp,Op.stringOp,nu,me,ma,Cf]
end bins
def yv{c:Bool}(hn:Nat.blt d n=true)(hg:gK ops κ ⟨some d,.unOp .not t x,ty,pos,aft,g⟩=some true)(hx:evK κ x=some (.bool b))(hc:(!b)=c):
  StepOK P F B n ops O κ ⟨some d,.unOp .not t x,ty,pos,aft,g⟩ d (.is (.bool c)):=
 ke rfl (zn hn) hg trivial fun a u H fp e=>⟨.bool c,by subst hc;simp [execOp,e.is_ x _ (by simp [Op.operands]) hx,Op.unary],rfl⟩
def zd4(L:Tabs P){s:ByteArray}(hn:Nat.blt d n=true)(hg:gK ops κ ⟨some d,.call ⟨.builtin .len,#[x],#[tt]⟩,ty,pos,aft,g⟩=some true)(hx:evK κ x=some (.string s))(ht:L.st tt=some ()):
  StepOK P F B n ops O κ ⟨some d,.call ⟨.builtin .len,#[x],#[tt]⟩,ty,pos,aft,g⟩ d (.is (.int .i64 s.size)):=
 ke rfl (zn hn) hg trivial fun a u H fp e=>⟨_,by
  have h1:=e.is_ x _ (by simp [Op.operands,Call.operands]) hx;simp [execOp,resolve,h1,invoke,builtin,Builtin.len_,run_underlying (Tabs.st_spec ht),goInt],rfl⟩
def Ta(L:Tabs P){b:Option Addr}{l c:Nat}(hn:Nat.blt d n=true)(hg:gK ops κ ⟨some d,.call ⟨.builtin .len,#[x],#[tt]⟩,ty,pos,aft,g⟩=some true)(hx:evK κ x=some (.slice b l c))(ht:L.sl tt=some e'):
  StepOK P F B n ops O κ ⟨some d,.call ⟨.builtin .len,#[x],#[tt]⟩,ty,pos,aft,g⟩ d (.is (.int .i64 l)):=
 ke rfl (zn hn) hg trivial fun a u H fp e=>⟨_,by
  have h1:=e.is_ x _ (by simp [Op.operands,Call.operands]) hx;simp [execOp,resolve,h1,invoke,builtin,Builtin.len_,run_underlying (Tabs.sl_spec ht),goInt],rfl⟩
def Gv{q r:Int}(hn:Nat.blt d n=true)(hg:gK ops κ ⟨some d,.call ⟨.builtin .max,#[x,y],tts⟩,ty,pos,aft,g⟩=some true)
  (hx:evK κ x=some (.int k p)) (hy:evK κ y=some (.int k q)) (hr:(if q>p then q else p)=r):
  StepOK P F B n ops O κ ⟨some d,.call ⟨.builtin .max,#[x,y],tts⟩,ty,pos,aft,g⟩ d (.is (.int k r)):=
 ke rfl (zn hn) hg trivial fun a u H fp e=>⟨_,by
  have h1:=e.is_ x _ (by simp [Op.operands,Call.operands]) hx;have h2:=e.is_ y _ (by simp [Op.operands,Call.operands]) hy;subst hr;simp [execOp,resolve,h1,h2,invoke,builtin,Builtin.max_,Builtin.max2],rfl⟩
def Tb(L:Tabs P){s:ByteArray}{c:UInt8}(hn:Nat.blt d n=true)(hg:gK ops κ ⟨some d,.index tt x y,ty,pos,aft,g⟩=some true)
  (hx:evK κ x=some (.string s)) (hy:evK κ y=some (.int k i)) (ht:L.st tt=some ()) (hi:s[i]?=some c):
  StepOK P F B n ops O κ ⟨some d,.index tt x y,ty,pos,aft,g⟩ d (.is (.int .u8 c.toNat)):=
 ke rfl (zn hn) hg trivial fun a u H fp e=>⟨_,by
  have h1:=e.is_ x _ (by simp [Op.operands]) hx;have h2:=e.is_ y _ (by simp [Op.operands]) hy;simp [execOp,h1,h2,Instr.index,asIntOf,run_underlying (Tabs.st_spec ht),hi],rfl⟩
def qd{vs:Array Value}(hn:Nat.blt d n=true)(hg:gK ops κ ⟨some d,.extract x i,ty,pos,aft,g⟩=some true)(hx:evK κ x=some (.tuple vs))(hi:vs.toList[i]?=some v):
  StepOK P F B n ops O κ ⟨some d,.extract x i,ty,pos,aft,g⟩ d (.is v):=
 ke rfl (zn hn) hg trivial fun a u H fp e=>⟨v,by
  have h1:=e.is_ x _ (by simp [Op.operands]) hx;have hi':vs[i]?=some v:=by simpa using hi
  simp [execOp,h1,Instr.extract,hi'],rfl⟩
def yy{z:Int}(h1:-9223372036854775808<=z)(h2:z<=9223372036854775807):IntKind.i64.wrap z=z:=by
 have:=IntWalk.i64_in z T;exact this
def At(cs:List Value)(t:TypeId)(off:Nat):Value->Heap->Prop:=fun v H=>∃ b,v=.pointer (some ⟨b,off,none⟩)/\H b=some (.cells cs.toArray t)
def At.mono:Kn.mono (.sat (At cs t off)):=fun _ _ _ ⟨b,hv,hb⟩ hl=>⟨b,hv,hl _ _ hb⟩
def xu(u:World)(x:Obj):(u.alloc x).heap[u.heap.size]?=some x:=by
 show(u.heap.push x)[u.heap.size]?=_;simp
def jq(u:World)(x:Obj){k:Nat}(h:k<u.heap.size):(u.alloc x).heap[k]?=u.heap[k]?:=by
 show(u.heap.push x)[k]?=_;rw[Array.getElem?_push,nc T]
def Grow.new(h:zpg H u)(x:Obj):Grow noL u H (u.alloc x) (fun k=>if k=u.heap.size then some x else H k):={
 keep:=Keep.of_below ((Below.refl _ _).alloc (ns _) _) (ns _)
 sub:=fun k o ho=>by
  simp only[hp];dsimp only at ho;split at ho
  ·rename_i hk;subst hk;cases ho;exact xu u x
  ·rw[jq u x (h.size ho)];exact h k o ho
 le:=fun k o ho=>by dsimp only;rw[if_neg (by have:=h.size ho;omega)];exact ho
 fresh:=fun k hk _=>nc T }
def Grow.hid(h:zpg H u)(x:Obj):Grow noL u H (u.alloc x) H:={
 keep:=Keep.of_below ((Below.refl _ _).alloc (ns _) _) (ns _)
 sub:=fun k o ho=>by simp only[hp];rw[jq u x (h.size ho)];exact h k o ho
 le:=mo _
 fresh:=fun _ _ _=>rfl }
def yl(hn:Nat.blt d n=true)(hg:gK ops κ ⟨some d,.box t x,ty,pos,aft,g⟩=some true)(hx:evK κ x=some v)(hc:v.cells=cs.toArray):
  StepOK P F B n ops O κ ⟨some d,.box t x,ty,pos,aft,g⟩ d (.sat (At cs t 0)):=
 Sz rfl (zn hn) hg At.mono fun a u H fp e=>⟨.pointer (some ⟨u.heap.size,0,none⟩),u.alloc (.cells cs.toArray t),_,by
  have h1:=e.is_ x _ (by simp [Op.operands]) hx;simp [execOp,h1,Instr.box,newVar,newRow,hc],Grow.new e.sub _,⟨_,rfl,by simp⟩⟩
def Et(h:ldI P t=some (ag,s)):∃ dsc i,P.underlying t=some dsc/\P.info? t=some i/\i.size=s/\(match dsc with | .struct _ | .array _ _=>true | _=>false)=ag:=by
 unfold ldI at h;split at h
 ·rename_i dsc i h1 h2;cases h;exact⟨dsc,i,h1,h2,rfl,rfl⟩
 ·cases h
def iq(h:ldI P t=some (ag,s))(u:World):(isAgg t).run P u=.ok ag u:=by
 obtain⟨dsc,i,h1,_,_,h4⟩:=Et h;simp only[isAgg,nu,run_underlying h1,ma];cases dsc<;>simp at h4 |-<;>exact h4
def je(h:ldI P t=some (ag,s))(u:World):(sizeOf t).run P u=.ok s u:=by
 obtain⟨dsc,i,_,h2,h3,_⟩:=Et h;simp [sizeOf,typeInfo,h2,h3]
def wm(h:ldI P t=some (true,s))(u:World)(a:Addr)(cs:List Value)(hs:cs.length=s)(hc:∀ j v,cs[j]?=some v->u.cell? (a.add j)=some v):
  (loadVar t a).run P u=.ok (.agg cs.toArray) u:=by
 subst hs;simp only[loadVar,nu,iq h,ma,if_true,je h];rw[run_loadCells_list (P:=P) (w:=u) a cs hc];rfl
def uz(h:ldI P t=some (false,s))(u:World)(a:Addr)(v:Value)(hc:u.cell? a=some v):
  (loadVar t a).run P u=.ok v u:=by
 simp [loadVar,iq h,hc]
def kf{b:Nat}{cs:Array Value}(h:u.heap[b]?=some (.cells cs t fr))(off:Nat):u.cell? ⟨b,off,none⟩=cs[off]?:=by
 simp [World.cell?,h]
def Cell(cs:List Value)(ty:TypeId):Res where
 P x _ u C:=∃ b,x=.pointer (some ⟨b,0,none⟩)/\u.heap[b]?=some (.cells cs.toArray ty)/\∀ k,C k↔k=b
 st:=fun⟨b,hx,hb,hC⟩ _ _ _ hk=>⟨b,hx,(hk b ((hC b).2 rfl)).trans hb,hC⟩
def Src(F:Fr)(B:Heap)(O:Boxes)(κ:Kap)(x:Operand)(cs:List Value)(off:Nat):Prop:=
 ∀ (o:Oper) (a:Act) (u:World) (H:Heap) (fp:Nat->Nat->Prop),x∈o.op.operands->Env F B O κ o a u H fp->∃ b t fr,a.eval x=.pointer (some ⟨b,off,none⟩)/\u.heap[b]?=some (.cells cs.toArray t fr)
def y9{t:Nat}(h:κ t=some (.sat (At cs t' off))):Src F B O κ (.tmp t) cs off:=fun _ _ _ _ _ hx e=>
 let ⟨b,hv,hb⟩:=e.sat_ t _ hx h;⟨b,t',(0,0),hv,e.sub _ _ hb⟩
def qw{t:Nat}(h:κ t=some (.own (Cell cs t'))):Src F B O κ (.tmp t) cs 0:=fun _ _ _ _ _ hx e=>
 let ⟨⟨b,hv,hb,_⟩,_⟩:=e.own_ t _ hx h;⟨b,t',(0,0),hv,hb⟩
def qh{b:Nat}(hx:evK κ x=some (.pointer (some ⟨b,off,none⟩)))(hb:B b=some (.cells cs.toArray t' fr)):Src F B O κ x cs off:=fun _ _ _ _ _ ho e=>
 ⟨b,t',fr,e.is_ x _ ho hx,e.sub _ _ (e.base _ _ hb)⟩
def o4{b:Nat}(hx:evK κ x=some (.pointer (some ⟨b,off,none⟩)))(hb:bx b cs t'∈O):Src F B O κ x cs off:=fun _ _ _ _ _ ho e=>
 ⟨b,t',(0,0),e.is_ x _ ho hx,(e.boxes _ hb).1⟩
def qf(L:Tabs P){r:List Value}(hs:Src F B O κ x cs off)(hn:Nat.blt d n=true)(hg:gK ops κ ⟨some d,.load t x,ty,pos,aft,g⟩=some true)
  (hl:L.ld t=some (false,s)) (hc:cs.drop off=v::r):StepOK P F B n ops O κ ⟨some d,.load t x,ty,pos,aft,g⟩ d (.is v):=
 ke rfl (zn hn) hg trivial fun a u H fp e=>⟨v,by
  obtain⟨b,t',fr,h1,h2⟩:=hs _ a u H fp (by simp [Op.operands]) e
  have h3:cs[off]?=some v:=by
   have:=nh (·[0]?) hc;simpa using this
  simp only[execOp,h1,Instr.loadAt,Instr.sureAddr,nu,me,ma];rw[uz (Tabs.ld_spec hl) u _ v (by rw[kf h2];simpa using h3)];rfl,rfl⟩
def zx(L:Tabs P){s off:Nat}{cs vs:List Value}(hs:Src F B O κ x cs off)(hn:Nat.blt d n=true)(hg:gK ops κ ⟨some d,.load t x,ty,pos,aft,g⟩=some true)
  (hl:L.ld t=some (true,s)) (hlen:vs.length=s) (hc:∃ r,cs.drop off=vs++r):StepOK P F B n ops O κ ⟨some d,.load t x,ty,pos,aft,g⟩ d (.is (.agg vs.toArray)):=
 ke rfl (zn hn) hg trivial fun a u H fp e=>⟨_,by
  obtain⟨b,t',fr,h1,h2⟩:=hs _ a u H fp (by simp [Op.operands]) e;obtain⟨r,hc⟩:=hc;simp only[execOp,h1,Instr.loadAt,Instr.sureAddr,nu,me,ma]
  rw[wm (Tabs.ld_spec hl) u _ vs hlen (fun j v hj=>by
   have h3:cs[off+j]?=some v:=by
    have:=nh (·[j]?) hc;simp only[zlo] at this
    rw[this,zl2 (by
     rcases m5 j vs.length with h | h
     ·exact h
     ·rw[zld h] at hj;cases hj)]
    exact hj
   show u.cell? (Addr.add ⟨b,off,none⟩ j)=some v;have:Addr.add ⟨b,off,none⟩ j=⟨b,off+j,none⟩:=by simp [Addr.add]
   rw[this,kf h2];simpa using h3)]
  rfl,rfl⟩
def l9{f:Field}{j:TypeInfo}(hj:P.info? f.type=some j)(hz:j.size≠0)(a:Addr)(u:World):(fieldPlace a f).run P u=.ok (a.add f.offset) u:=by
 simp [fieldPlace,sizeOf,typeInfo,hj,hz]
def qv(L:Tabs P){t:Nat}{st:TypeId}{fo:Nat}(hx:κ t=some (.sat (At cs t' off)))(hn:Nat.blt d n=true)(hg:gK ops κ ⟨some d,.fieldAddr st (.tmp t) i,ty,pos,aft,g⟩=some true)
  (hf:L.fo st i=some fo):StepOK P F B n ops O κ ⟨some d,.fieldAddr st (.tmp t) i,ty,pos,aft,g⟩ d (.sat (At cs t' (off+fo))):=
 ke rfl (zn hn) hg At.mono fun a u H fp e=>by
  obtain⟨fs,f,j,h1,h2,h3,h4,h5⟩:=Tabs.fo_spec hf;obtain⟨b,hv,hb⟩:=e.sat_ t _ (by simp [Op.operands]) hx;refine⟨.pointer (some ⟨b,off+fo,none⟩),?_,⟨b,rfl,hb⟩⟩;simp only[execOp,hv,Instr.fieldAt,nu,run_underlying h1,ma,h2,Instr.sureAddr,me,l9 h3 h4];simp [Addr.add,h5]
def zo(L:Tabs P){st:TypeId}{b fo:Nat}(hx:evK κ x=some (.pointer (some ⟨b,off,none⟩)))(hn:Nat.blt d n=true)(hg:gK ops κ ⟨some d,.fieldAddr st x i,ty,pos,aft,g⟩=some true)
  (hf:L.fo st i=some fo):StepOK P F B n ops O κ ⟨some d,.fieldAddr st x i,ty,pos,aft,g⟩ d (.is (.pointer (some ⟨b,off+fo,none⟩))):=
 ke rfl (zn hn) hg trivial fun a u H fp e=>by
  obtain⟨fs,f,j,h1,h2,h3,h4,h5⟩:=Tabs.fo_spec hf;have hv:=e.is_ x _ (by simp [Op.operands]) hx;refine⟨_,?_,rfl⟩;simp only[execOp,hv,Instr.fieldAt,nu,run_underlying h1,ma,h2,Instr.sureAddr,me,l9 h3 h4];simp [Addr.add,h5]
end ops
end Go.V
namespace Go.V
section code
def V(P:Program)(F:Fr)(B:Heap)(n:Nat)(O:Boxes)(κ:Kap)(c:Code)(zpf:Exit->Act->World->Prop):Prop:=
 ∀ a u,Has F B O n κ a u->c.wpIn (FW F.r) 0 P zpf a u
def N(F:Fr)(B:Heap)(n:Nat)(O:Boxes)(κ:Kap)(zpf:Exit->Act->World->Prop):Prop:=∀ a u,Has F B O n κ a u->zpf .normal a u
def X(F:Fr)(B:Heap)(n:Nat)(O:Boxes)(κ:Kap)(id:Nat)(zpf:Exit->Act->World->Prop):Prop:=∀ a u,Has F B O n κ a u->zpf (.exit id) a u
def VO(P:Program)(F:Fr)(B:Heap)(n:Nat)(O:Boxes)(ops:Array Oper)(κ:Kap)(os:List Oper)(zpf:Exit->Act->World->Prop):Prop:=
 ∀ a u,Has F B O n κ a u->Ops P ops (fun a u=>zpf .normal a u) os a u
def Par(P:Program)(F:Fr)(B:Heap)(n:Nat)(O:Boxes)(ops:Array Oper)(ex:Exs)(κ:Kap)(os:List Oper)(zpf:Exit->Act->World->Prop):Prop:=
 zfs P (Has F B O n) ops ex (fun κ=>N F B n O κ zpf) os κ
def zj{x y:Code}(h:V P F B n O κ x (Exit.then (fun a u=>y.wpIn (FW F.r) 0 P zpf a u) zpf)):V P F B n O κ (.seq x y) zpf:=fun a u hh=>wpIn_seq (h a u hh)
def qe(h:N F B n O κ zpf):V P F B n O κ .skip zpf:=fun a u hh=>wpIn_skip (h a u hh)
def qm{id:Nat}(h:V P F B n O κ c (Exit.inBlock id zpf)):V P F B n O κ (.block id c) zpf:=fun a u hh=>wpIn_block (h a u hh)
def zh3{id:Nat}(h:X F B n O κ id zpf):V P F B n O κ (.exit id) zpf:=fun a u hh=>wpIn_exit (h a u hh)
def zm{y:Code}(h:V P F B n O κ y zpf):N F B n O κ (Exit.then (fun a u=>y.wpIn (FW F.r) 0 P zpf a u) zpf):=h
def yc{id:Nat}(h:N F B n O κ zpf):N F B n O κ (Exit.inBlock id zpf):=h
def ya{id:Nat}(h:X F B n O κ id zpf):X F B n O κ id (Exit.then K zpf):=h
def yx{id:Nat}(h:N F B n O κ zpf):X F B n O κ id (Exit.inBlock id zpf):=fun a u hh=>by
 show(if id=id then zpf .normal a u else zpf (.exit id) a u);rw[na rfl];exact h a u hh
def zfc{id id':Nat}(hne:Nat.beq id id'=false)(h:X F B n O κ id zpf):X F B n O κ id (Exit.inBlock id' zpf):=fun a u hh=>by
 show(if id=id' then zpf .normal a u else zpf (.exit id) a u);rw[nc (fun e=>by subst e;simp at hne)];exact h a u hh
def zco{c:Operand}{x y:Code}(hc:evK κ c=some (.bool b))(h:V P F B n O κ (bif b then x else y) zpf):V P F B n O κ (.cond c x y) zpf:=fun a u hh=>by
 obtain⟨H,fp,hH⟩:=hh
 have e := hH.env (ops := #[]) (o := ⟨none, .move c, 0, "", #[], none⟩) (κ := κ) (fun _ _ => rfl)
 refine wpIn_cond (t:=b) (e.is_ c _ (by simp [Op.operands]) hc) ?_;have:=h a u ⟨H,fp,hH⟩;cases b<;>exact this
def ql{c:Operand}{x y:Code}(hc:evK κ c=some (.bool true))(h:V P F B n O κ x zpf):V P F B n O κ (.cond c x y) zpf:=zco hc h
def zw{c:Operand}{x y:Code}(hc:evK κ c=some (.bool false))(h:V P F B n O κ y zpf):V P F B n O κ (.cond c x y) zpf:=zco hc h
def zh{id:Nat}{l:List Oper}(h:VO P F B n O l.toArray κ l zpf):V P F B n O κ (.region id l.toArray false) zpf:=fun a u hh=>Ap (by simpa using h a u hh)
def qg{id:Nat}{l:List Oper}(ex:Exs)(hm:P.follows .mixedOrders=true)(hs:zdh l.toArray ex=true)(h:Par P F B n O l.toArray ex κ l zpf):V P F B n O κ (.region id l.toArray true) zpf:=fun a u hh=>
 Gr (St:=Has F B O n) (ex:=ex) (Fin:=fun κ=>N F B n O κ zpf) hm hs (fun _ _ _ h=>h.drew) (by simpa [Par] using h) hh fun κ' a' u' hf hh'=>hf a' u' hh'
def zk(h:N F B n O κ zpf):VO P F B n O ops κ [] zpf:=h
def qs(h:N F B n O κ zpf):Par P F B n O ops ex κ [] zpf:=h
def z7{k:Kn}(hs:StepOK P F B n ops O κ o d k)(_:vd o=some d)(h:VO P F B n O ops (upd κ d k) os zpf):VO P F B n O ops κ (o::os) zpf:=
 fun a u hh=>After.mono (fun a' u' hh'=>h a' u' hh') (hs κ a u (fun _ _=>rfl) hh)
def z8{k:Kn}(hs:StepOK P F B n ops O κ o d k)(hd:vd o=some d)(h:Par P F B n O ops ex (upd κ d k) os zpf):Par P F B n O ops ex κ (o::os) zpf:=
 ⟨[(d,k)],fun p hp=>by simp at hp;subst hp;simp [tch,hd],hs.stepG,h⟩
def z71{fo:Operand}{f:Nat}{r:Value}(L:Tabs P)
  (e:(Nat.blt d n,gK ops κ ⟨some d,.call { callee:=.value fo,args:=args,argTypes:=at_ },ty,pos,aft,g⟩,evK κ fo,L.fn f)=(true,some true,some (.func (.func f) #[] #[]),some ()))
  (h:∀ u H,zpg H u->B.Le H->Args κ H args.toList [] (fun vs=>Ret P f vs u H (fun v _=>v=r))) (k:VO P F B n O ops (upd κ d (.is r)) os zpf):VO P F B n O ops κ (⟨some d,.call { callee:=.value fo,args:=args,argTypes:=at_ },ty,pos,aft,g⟩::os) zpf:=by
 obtain⟨hn,hg,hf,hfn⟩:=EQ4 e;exact z7 (zz L Z Z (zn hn) hg hf hfn (cap:=[]) (fun u H a b _=>by simpa only[mq] using h u H a b)) Z k
def z81{fo:Operand}{f:Nat}{r:Value}(L:Tabs P)
  (e:(Nat.blt d n,gK ops κ ⟨some d,.call { callee:=.value fo,args:=args,argTypes:=at_ },ty,pos,aft,g⟩,evK κ fo,L.fn f)=(true,some true,some (.func (.func f) #[] #[]),some ()))
  (h:∀ u H,zpg H u->B.Le H->Args κ H args.toList [] (fun vs=>Ret P f vs u H (fun v _=>v=r))) (k:Par P F B n O ops ex (upd κ d (.is r)) os zpf):Par P F B n O ops ex κ (⟨some d,.call { callee:=.value fo,args:=args,argTypes:=at_ },ty,pos,aft,g⟩::os) zpf:=by
 obtain⟨hn,hg,hf,hfn⟩:=EQ4 e;exact z8 (zz L Z Z (zn hn) hg hf hfn (cap:=[]) (fun u H a b _=>by simpa only[mq] using h u H a b)) Z k
def LiveOK:List (Nat×Kn)->Kap->Prop
 | [],_=>True
 | (t,k)::l,κ=>κ t=some k/\LiveOK l κ
def LiveOK.get{t:Nat}{k:Kn}:∀ {l:List (Nat×Kn)},LiveOK l κ->ofL l t=some k->κ t=some k
 | [],_,h=>by cases h
 | (s,k')::l,hl,h=>by
  unfold ofL at h;by_cases hst:t=s
  ·subst hst;rw[xj] at h;cases h;exact hl.1
  ·rw[xd _ _ hst] at h;exact LiveOK.get hl.2 h
def Has.sub_kap{κ2:Kap}{a:Act}{u:World}(hs:∀ t k,κ2 t=some k->κ t=some k)(h:Has F B O n κ a u):Has F B O n κ2 a u:=let ⟨H,fp,h⟩:=h;⟨H,fp,h.sub_kap hs⟩
def Has.live{l:List (Nat×Kn)}(hl:LiveOK l κ)(h:Has F B O n κ a u):Has F B O n (ofL l) a u:=h.sub_kap fun _ _ hk=>hl.get hk
structure SinceW(N:Nat)(L:Nat->Prop)(B H:Heap):Prop where
 le:B.Le H
 fresh:∀ k,k<N->¬ L k->H k=B k
abbrev Since(F:Fr)(B H:Heap):Prop:=SinceW F.w0.heap.size F.L B H
def SinceW.refl{N:Nat}:SinceW N L B B:=⟨mo _,fun _ _ _=>rfl⟩
def SinceW.trans{N:Nat}{L:Nat->Prop}{C D:Heap}(h:SinceW N L B C)(k:SinceW N L C D):SinceW N L B D:=⟨h.le.trans k.le,fun i hi hl=>(k.fresh i hi hl).trans (h.fresh i hi hl)⟩
def Since.refl:Since F B B:=SinceW.refl
abbrev _root_.Go.V.nq:=@Since.refl
def HasH.since(hs:Since F B0 B)(h:HasH F B O n κ a u H fp):HasH F B0 O n κ a u H fp:=
 ⟨h.size,h.defers,h.nodup,h.marks,h.lent,h.keep,h.sub,hs.le.trans h.base,fun k hk hl=>(h.fresh k hk hl).trans (hs.fresh k hk hl),h.boxes,h.apart,h.slot,h.owns,h.mono⟩
def Has.since{B0:Heap}{a:Act}{u:World}(hs:Since F B0 B)(h:Has F B O n κ a u):Has F B0 O n κ a u:=let ⟨H,fp,h⟩:=h;⟨H,fp,h.since hs⟩
def HasH.rebase(h:HasH F B O n κ a u H fp):HasH F H O n κ a u H fp:=
 ⟨h.size,h.defers,h.nodup,h.marks,h.lent,h.keep,h.sub,mo _,fun _ _ _=>rfl,h.boxes,h.apart,h.slot,h.owns,h.mono⟩
def HasH.isSince(h:HasH F B O n κ a u H fp):Since F B H:=⟨h.base,h.fresh⟩
def HasH.name(t:Nat)(h:HasH F B O n κ a u H fp):HasH F B O n (upd κ t (.is (a.eval (.tmp t)))) a u H fp:=
 ⟨h.size,h.defers,h.nodup,h.marks,h.lent,h.keep,h.sub,h.base,h.fresh,h.boxes,h.apart,fun s k hs=>by
  by_cases hst:s=t
  ·subst hst;rw[xj] at hs;cases hs;exact rfl
  ·rw[xd _ _ hst] at hs;exact h.slot s k hs,fun s r r1 r2 hsr h1 h2=>by
  have key:∀ x r,upd κ t (.is (a.eval (.tmp t))) x=some (.own r)->κ x=some (.own r):=fun x r hx=>by
   by_cases hxd:x=t
   ·subst hxd;rw[xj] at hx;cases hx
   ·rw[xd _ _ hxd] at hx;exact hx
  exact h.owns s r r1 r2 hsr (key _ _ h1) (key _ _ h2),fun s k hs=>by
  by_cases hst:s=t
  ·subst hst;rw[xj] at hs;cases hs;trivial
  ·rw[xd _ _ hst] at hs;exact h.mono s k hs⟩
def Has.opn{t:Nat}(hk:κ t=some (.sat φ))(h:Has F B O n κ a u):
  ∃ v H,Since F B H/\φ v H/\Has F H O n (upd κ t (.is v)) a u:=by
 obtain⟨H,fp,h⟩:=h;exact⟨_,H,h.isSince,h.slot t _ hk,H,fp,(h.name t).rebase⟩
def sk(t:Nat)(hk:κ t=some (.sat φ))(h:∀ v H,Since F B H->φ v H->V P F H n O (upd κ t (.is v)) c zpf):V P F B n O κ c zpf:=fun a u hh=>by
 obtain⟨v,H,hs,hp,hh'⟩:=hh.opn hk;exact h v H hs hp a u hh'
def w6(t:Nat)(hk:κ t=some (.sat φ))(h:∀ v H,Since F B H->φ v H->VO P F H n O ops (upd κ t (.is v)) os zpf):VO P F B n O ops κ os zpf:=fun a u hh=>by
 obtain⟨v,H,hs,hp,hh'⟩:=hh.opn hk;exact h v H hs hp a u hh'
def zfe(Ob:zpa->Boxes)(Fk:zpa->List (Nat×Kn))(I:zpa->Prop)(μ:zpa->Nat)(x0:zpa)(hI:I x0)(hO:O=Ob x0)(h0:LiveOK (Fk x0) κ)
  (round:∀ x,I x->V P F B n (Ob x) (ofL (Fk x)) c (Exit.then (fun a u=>∃ x',(I x'/\μ x'<μ x)/\Has F B (Ob x') n (ofL (Fk x')) a u) zpf)):
  V P F B n O κ (.loop c) zpf:=fun a u hh=>by
 intro b k cs hro hb hr
 have key:∀ m x a u,μ x=m->I x->Has F B (Ob x) n (ofL (Fk x)) a u->
   ∃ e a' w',zpf e a' w'/\ArrivesIn (Machine.fenced P (FW F.r)) P (lone (b.atR a (.code c:: .inLoop c::k)) cs u) b k cs e a' w':=by
  intro m
  induction m using Nat.strongRecOn with
  | _ m ih=>
   intro x a u hm hI hh;obtain⟨e,a₁,w₁,hq,harr⟩:=round x hI a u hh b (.inLoop c::k) cs hro hb hr
   cases e with
   | normal=>
    obtain⟨x',⟨hI',hlt⟩,hh'⟩:=hq;obtain⟨e₂,a₂,w₂,hq₂,harr₂⟩:=ih (μ x') (hm ▸ hlt) x' a₁ w₁ rfl hI' hh';exact⟨e₂,a₂,w₂,hq₂,.of_steps (StepsIn.trans harr (.one (fenced_calm hb hr Z) stepR_inLoop)) harr₂⟩
   | exit id=>exact⟨_,a₁,w₁,hq,.pass (x:=.inLoop c) rfl (fun _ _=>.inl (by simp)) harr⟩
   | goto l=>exact⟨_,a₁,w₁,hq,.pass (x:=.inLoop c) rfl (fun _ _=>.inl (by simp)) harr⟩
   | ret=>exact⟨_,a₁,w₁,hq,.pass (x:=.inLoop c) rfl (fun _ _=>.inl (by simp)) harr⟩
   | panic ch=>exact⟨_,a₁,w₁,hq,.pass (x:=.inLoop c) rfl (fun _ _=>.inl (by simp)) harr⟩
   | outgrown=>exact⟨_,a₁,w₁,hq,.pass (x:=.inLoop c) rfl (fun _ _=>.inl (by simp)) harr⟩
 subst hO;obtain⟨e,a',w',hq,harr⟩:=key _ x0 a u rfl hI (hh.live h0);exact⟨e,a',w',hq,.of_steps (.one (fenced_calm hb hr Z) stepR_loop) harr⟩
def xm(Fk:zpa->List (Nat×Kn))(I:zpa->Prop)(μ:zpa->Nat)(x0:zpa)(hI:I x0)(h0:LiveOK (Fk x0) κ)
  (round:∀ x,I x->V P F B n O (ofL (Fk x)) c (Exit.then (fun a u=>∃ x',(I x'/\μ x'<μ x)/\Has F B O n (ofL (Fk x')) a u) zpf)):
  V P F B n O κ (.loop c) zpf:=zfe (fun _=>O) Fk I μ x0 hI rfl h0 round
def yn{Fk:zpa->List (Nat×Kn)}{I:zpa->Prop}{μ:zpa->Nat}{x:zpa}(x':zpa)(hI:I x')(hμ:μ x'<μ x)(hl:LiveOK (Fk x') κ):
  N F B n O κ (Exit.then (fun a u=>∃ x',(I x'/\μ x'<μ x)/\Has F B O n (ofL (Fk x')) a u) zpf):=fun _ _ hh=>⟨x',⟨hI,hμ⟩,hh.live hl⟩
def wk{Fk:zpa->List (Nat×Kn)}{I:zpa->Prop}{μ:zpa->Nat}{x:zpa}(x':zpa)(hs:Since F B0 B)(hI:I x')(hμ:μ x'<μ x)(hl:LiveOK (Fk x') κ):
  N F B n O κ (Exit.then (fun a u=>∃ x',(I x'/\μ x'<μ x)/\Has F B0 O n (ofL (Fk x')) a u) zpf):=fun _ _ hh=>⟨x',⟨hI,hμ⟩,(hh.live hl).since hs⟩
def V5(Fk:zpa->List (Nat×Kn))(I:zpa->Prop){x y:Code}(h:V P F B n O κ x (Exit.then (fun a u=>∃ t,I t/\Has F B O n (ofL (Fk t)) a u) zpf))
  (hy:∀ t,I t->V P F B n O (ofL (Fk t)) y zpf):V P F B n O κ (.seq x y) zpf:=fun a u hh=>by
 refine wpIn_seq (Go.wpIn_mono (h a u hh) fun e a u he=>?_)
 cases e with
 | normal=>obtain⟨t,hI,hh'⟩:=he;exact hy t hI a u hh'
 | _=>exact he
def zfj{Fk:zpa->List (Nat×Kn)}{I:zpa->Prop}(t:zpa)(hs:Since F B0 B)(hI:I t)(hl:LiveOK (Fk t) κ):
  N F B n O κ (Exit.then (fun a u=>∃ t,I t/\Has F B0 O n (ofL (Fk t)) a u) zpf):=fun _ _ hh=>⟨t,hI,(hh.live hl).since hs⟩
def uu:∀ (vs:List Value) (i t:Nat) (k:Kn),rm i vs t=some k->∃ v,k=.is v/\i<=t/\vs[t-i]?=some v
 | [],_,_,_,h=>by cases h
 | v::vs,i,t,k,h=>by
  unfold rm at h;by_cases hti:t=i
  ·subst hti;rw[xj] at h;cases h;exact⟨v,rfl,ns _,by simp⟩
  ·rw[xd _ _ hti] at h;obtain⟨x,hx,hle,hg⟩:=uu vs (i+1) t k h;exact⟨x,hx,by omega,by rw[show t-i=(t-(i+1))+1 by omega,zmm];exact hg⟩
def dt{args:List Value}{nt:Nat}(L:Nat->Prop)(hL:∀ k,L k->k<w.heap.size)(hs:args.length<=nt)(hB:zpg B w)(fp:Nat->Nat->Prop):
  HasH ⟨w,none,[],L⟩ B [] nt (rm 0 args) { tmps:=args.toArray++Array.replicate (nt-args.toArray.size) undef,defers:=[] } w B fp:=by
 refine⟨by simp;omega,rfl,zmn,(fun _ h=>by cases h),hL,Keep.refl _ _,hB,mo _,fun _ _ _=>rfl,(fun y hy=>by cases hy),List.Pairwise.nil,fun t k hk=>?_,fun s t r r' _ hs' _=>?_,fun t k hk=>?_⟩
 ·obtain⟨v,rfl,_,hv⟩:=uu _ _ _ _ hk;rw[zmu] at hv
  have hlt:t<args.length:=by
   rcases m5 t args.length with h | h
   ·exact h
   ·rw[zld h] at hv;cases hv
  show Act.eval _ (.tmp t)=v;simp only[Act.eval,zlg];rw[zoy (by simpa using hlt)];simp [hv]
 ·obtain⟨v,hv,_⟩:=uu _ _ _ _ hs';cases hv
 ·obtain⟨v,rfl,_⟩:=uu _ _ _ _ hk;trivial
def dv{fn:Func}{args:List Value}{R:Ending->World->Prop}(hf:P.funcs[f]?=some fn)(hb:fn.body=some c)
  (h:c.wpIn (FW none) 0 P (bodyPostM Fence.wide 0 P fn R) { tmps:=args.toArray++Array.replicate (fn.ntmps-args.toArray.size) undef,defers:=[] } w):Calls P f args.toArray w R:=
 callsIn_wide.1 (callsIn_of_wp_marks hf hb trivial h)
def yh{fn:Func}{args:List Value}(hf:P.funcs[f]?=some fn)(hb:fn.body=some c)(hn:fn.ntmps=n)
  (hs:args.length<=n) (hB:zpg B w) (h:V P (Fr.pure w) B n [] (rm 0 args) c (bodyPostM Fence.wide 0 P fn (zki w B φ))):Ret P f args w B φ:=
 dv hf hb (h _ w ⟨B,fun _=>noL,by subst hn;exact dt noL (fun _ h=>h.elim) hs hB _⟩)
def tup:List Value->Value
 | [v]=>v
 | vs=>.tuple vs.toArray
def B4(L:Tabs P)(F:Fr)(B:Heap)(O:Boxes)(κ:Kap)(H:Heap):List ResultVar->List Value->(List Value->Prop)->Prop
 | [],acc,K=>K acc.reverse
 | .tmp t::rs,acc,K=>match κ t with
  | some (.is v)=>B4 L F B O κ H rs (v::acc) K
  | some (.sat φ)=>∀ v,φ v H->B4 L F B O κ H rs (v::acc) K
  | _=>False
 | .cell t ty::rs,acc,K=>∃ cs,Src F B O κ (.tmp t) cs 0/\(match L.ld ty with
  | some (true,s)=>cs.length=s/\B4 L F B O κ H rs (.agg cs.toArray::acc) K
  | some (false,_)=>∃ v r,cs=v::r/\B4 L F B O κ H rs (v::acc) K
  | none=>False)
def aj{L:Tabs P}{t:Nat}{ty:Nat}{rs:List ResultVar}{acc:List Value}{K:List Value->Prop}(hs:Src F B O κ (.tmp t) cs 0)(hl:L.ld ty=some (true,s))(hc:cs.length=s)(h:B4 L F B O κ H rs (.agg cs.toArray::acc) K):B4 L F B O κ H (.cell t ty::rs) acc K:=
 ⟨cs,hs,by rw[hl];exact⟨hc,h⟩⟩
def wc{L:Tabs P}{t:Nat}{ty:Nat}{rs:List ResultVar}{acc r:List Value}{K:List Value->Prop}(hs:Src F B O κ (.tmp t) (v::r) 0)(hl:L.ld ty=some (false,s))(h:B4 L F B O κ H rs (v::acc) K):B4 L F B O κ H (.cell t ty::rs) acc K:=
 ⟨v::r,hs,by rw[hl];exact⟨v,r,rfl,h⟩⟩
def rdR(tmps:Array Value):ResultVar->Sem Value
 | .tmp t=>pure (tmps.getD t undef)
 | .cell b t=>do loadVar t (<-asAddr (tmps.getD b undef))
def K6(fn:Func)(tmps:Array Value):results fn tmps=(do
  let vs<-fn.results.mapM (rdR tmps)
  pure (if h:vs.size=1 then vs[0] else .tuple vs)):=by
 unfold results;congr 1
def Ym(L:Tabs P){fp:Nat→Nat→Prop}(hH:HasH F B O n κ a u H fp):∀ (rs:List ResultVar) (acc:List Value) (K:List Value→Prop),B4 L F B O κ H rs acc K→
  ∃ vs,(rs.mapM (rdR a.tmps)).run P u=.ok vs u∧K (acc.reverse++vs):=by
 intro rs
 induction rs with
 | nil=>intro acc K hk;exact⟨[],rfl,by simpa [B4] using hk⟩
 | cons r rs ih=>
  intro acc K hk
  have fin:∀ v,(rdR a.tmps r).run P u=.ok v u→B4 L F B O κ H rs (v::acc) K→
    ∃ vs,((r::rs).mapM (rdR a.tmps)).run P u=.ok vs u∧K (acc.reverse++vs):=fun v hv hk=>by
   obtain⟨vs,h1,h2⟩:=ih (v::acc) K hk;refine⟨v::vs,?_,by simpa using h2⟩;simp only[List.mapM_cons,nu];rw[hv];simp only[ma];rw[h1];rfl
  cases r with
  | tmp t=>
   simp only[B4] at hk;split at hk
   ·rename_i v hkt;obtain rfl:a.eval (.tmp t)=v:=hH.slot t _ hkt;exact fin _ (by simp [rdR,Act.eval]) hk
   ·rename_i φ' hkt;exact fin (a.eval (.tmp t)) (by simp [rdR,Act.eval]) (hk _ (hH.slot t _ hkt))
   ·exact hk.elim
  | cell b t=>
   obtain⟨cs,hsrc,hk⟩:=hk
   have e := hH.env (ops := #[]) (o := ⟨none, .move (.tmp b), 0, "", #[], none⟩) (κ := κ) (fun _ _ => rfl)
   obtain⟨b',t',fr,h1,h2⟩:=hsrc _ a u H fp (by simp [Op.operands]) e;have h1':a.tmps.getD b undef=.pointer (some ⟨b',0,none⟩):=h1;split at hk
   ·rename_i s hld;obtain⟨hl,hk⟩:=hk;refine fin (.agg cs.toArray) ?_ hk;simp only[rdR,nu,h1',asAddr,me,ma];refine wm (Tabs.ld_spec hld) u _ cs hl fun j v hj=>?_;have:Addr.add ⟨b',0,none⟩ j=⟨b',j,none⟩:=by simp [Addr.add];intro h;exact h.symm
    rw[this,kf h2];simpa using hj
   ·rename_i s hld;obtain⟨v,r,rfl,hk⟩:=hk;refine fin v ?_ hk;simp only[rdR,nu,h1',asAddr,me,ma];exact uz (Tabs.ld_spec hld) u _ v (by rw[kf h2];simp)
   ·exact hk.elim
def jv(L:Tabs P){fn:Func}(hH:HasH F B O n κ a u H fp){rs:List ResultVar}(hrs:fn.results=rs.toArray){K:List Value->Prop}(h:B4 L F B O κ H rs [] K):
  ∃ vs,(results fn a.tmps).run P u=.ok (tup vs) u/\K vs:=by
 obtain⟨vs,h1,h2⟩:=Ym L hH rs [] _ h;refine⟨vs,?_,by simpa using h2⟩;rw[K6,hrs];simp only[nu]
 have:(rs.toArray.mapM (rdR a.tmps)).run P u=.ok vs.toArray u:=by
  rw[List.mapM_toArray,Sem.run_map,h1];rfl
 rw[this];simp only[ma,me];congr 1
 match vs with
 | []=>rfl
 | [v]=>rfl
 | _::_::_=>rfl
structure Chg(b:Nat)(o:Obj)(u u':World):Prop where
 os:u'.os=u.os
 tape:u'.tape=u.tape
 output:u'.output=u.output
 size:u'.heap.size=u.heap.size
 dr:u.drawn<=u'.drawn
 here:u'.heap[b]?=some o
 other:∀ k,k≠b->u'.heap[k]?=u.heap[k]?
def Chg.putObj{b:Nat}{o:Obj}(h:b<u.heap.size):Chg b o u (u.putObj b o):=⟨rfl,rfl,rfl,World.putObj_size,ns _,zoz h,fun _ hk=>zof hk⟩
def HasH.boxSet{ds:List DM}{O1 O2:Boxes}{b:Nat}{o o':Obj}{a a':Act}{u u':World}(h:HasH F B (O1++(b,o)::O2) n κ a u H fp)(c:Chg b o' u u')
  (hds:ds.Sublist F.ds) (hb:DM.m b∉ds) (hat:a'.tmps=a.tmps) (had:a'.defers=ds.map zca):HasH { F with ds:=ds } B (O1++(b,o')::O2) n κ a' u' H fp:=by
 have hmem:(b,o)∈O1++(b,o)::O2:=by simp
 obtain⟨hb1,hb2,hb3⟩:=h.boxes _ hmem;have hap:=zl0.1 h.apart
 have hne:∀ y,(y∈O1\/y∈O2)->y.1≠b:=fun y hy=>by
  rcases hy with hy | hy
  ·exact hap.2.2 y hy _ (mb ..)
  ·exact Ne.symm ((mg.1 hap.2.1).1 y hy)
 have hsub:H.Le (hp u'):=fun k x hx=>by
  have:k≠b:=fun e=>by subst e;rw[hb2] at hx;cases hx
  exact(c.other k this).trans (h.sub k x hx)
 have split:∀ y,y∈O1++(b,o')::O2->y=(b,o')\/((y∈O1\/y∈O2)/\y∈O1++(b,o)::O2):=fun y hy=>by
  rcases mn.1 hy with hy | hy
  ·exact .inr ⟨.inl hy,zlt _ hy⟩
  ·rcases nz.1 hy with rfl | hy
   ·exact .inl Z
   ·exact .inr ⟨.inr hy,zma _ (mc _ hy)⟩
 refine⟨by rw[hat];exact h.size,had,h.nodup.sublist hds,fun D hD=>?_,h.lent,?_,hsub,h.base,h.fresh,fun y hy=>?_,?_,fun t k hk=>?_,h.owns,h.mono⟩
 ·have hm:=h.marks D (hds.subset hD);rcases mn.1 hm with hm | hm
  ·exact zlt _ hm
  ·rcases nz.1 hm with e | hm
   ·cases e;exact ni hD hb
   ·exact zma _ (mc _ hm)
 ·refine⟨c.os.trans h.keep.os,c.tape.trans h.keep.tape,c.output.trans h.keep.output,c.size ▸ h.keep.size,fun k hk hl=>?_,mw h.keep.dr c.dr⟩
  have:k≠b:=fun e=>by
   subst e;rcases hb3 with g | g
   ·exact ni hk (by simp at g |-;omega)
   ·exact hl g
  exact(c.other k this).trans (h.keep.block k hk hl)
 ·rcases split y hy with rfl | ⟨h1,h2⟩
  ·exact⟨c.here,hb2,hb3⟩
  ·obtain⟨g1,g2,g3⟩:=h.boxes y h2;exact⟨(c.other _ (hne y h1)).trans g1,g2,g3⟩
 ·refine zl0.2 ⟨hap.1,mg.2 ⟨fun y hy=>(mg.1 hap.2.1).1 y hy,(mg.1 hap.2.1).2⟩,fun y hy z hz=>?_⟩;rcases nz.1 hz with rfl | hz
  ·exact hne y (.inl hy)
  ·exact hap.2.2 y hy z (mc _ hz)
 ·have hev:a'.eval (.tmp t)=a.eval (.tmp t):=by simp [Act.eval,hat]
  rw[hev];have hh:=h.slot t k hk
  cases k with
  | is _=>exact hh
  | sat _=>exact hh
  | own r=>
   obtain⟨h1,h2⟩:=hh;refine⟨r.st h1 (mo _) hsub ⟨c.os,c.tape,c.output,Nat.le_of_eq c.size.symm,c.dr⟩ fun k hk=>c.other k fun e=>by subst e;exact(h2 k hk).2.2.2 _ hmem rfl,fun k hk=>?_⟩;obtain⟨g1,g2,g3,g4⟩:=h2 k hk;refine⟨c.size ▸ g1,g2,g3,fun y hy=>?_⟩;rcases split y hy with rfl | ⟨_,g5⟩
   ·exact g4 (b,o) hmem
   ·exact g4 y g5
def Xk:List DM->Bool
 | []=>true
 | .m _::l=>Xk l
 | .u _::_=>false
def Bh{fn:Func}{R:Ending->World->Prop}:∀ (ds:List DM) {F:Fr} {O:Boxes} {a:Act} {u:World} {H:Heap} {fp:Nat->Nat->Prop},F.ds=ds->Xk ds=true->HasH F B O n κ a u H fp->
  (∀ (O':Boxes) (u':World),(∀ y∈O,DM.m y.1∉F.ds->y∈O')->HasH { F with ds:=[] } B O' n κ { a with defers:=[] } u' H fp->LeavesInM Fence.wide 0 P fn a.tmps R [] .returning u')->
  LeavesInM Fence.wide 0 P fn a.tmps R a.defers .returning u
 | [],F,O,a,u,H,fp,hd,_,h,hk=>by
  have h0:=h.defers;rw[hd] at h0;rw[h0];refine hk O u (fun y hy _=>hy) ?_;obtain⟨w0,r,ds,L⟩:=F;obtain⟨tm,df⟩:=a;dsimp only at hd h0 |-;subst hd;have h0':df=[]:=h0;subst h0';exact h
 | .u _::ds,F,O,a,u,H,fp,hd,hm,h,hk=>by cases hm
 | .m D::ds,F,O,a,u,H,fp,hd,hm,h,hk=>by
  have h0:=h.defers;rw[hd] at h0;have hDm:(D,Obj.deferred (some []))∈O:=h.marks D (by rw[hd];exact mb ..);obtain⟨O1,O2,rfl⟩:=zoe hDm;have hb:=(h.boxes _ hDm).1;have hnd:=h.nodup;rw[hd] at hnd;have h2:=h.boxSet (ds:=ds) (a':={ a with defers:=ds.map zca }) (Chg.putObj (o:=.deferred none) (xb hb)) (by rw[hd];exact zog ..) (zm3.1 hnd).1 rfl rfl
  have ih:=Bh (fn:=fn) (R:=R) ds (F:={ F with ds:=ds }) (a:={ a with defers:=ds.map zca }) rfl hm h2 fun O' u' hO hh=>hk O' u' (fun y hy hyd=>by
   rw[hd] at hyd;refine hO y ?_ fun hm=>hyd (mc _ hm);rcases mn.1 hy with hy | hy
   ·exact zlt _ hy
   ·rcases nz.1 hy with rfl | hy
    ·exact ni (mb ..) hyd
    ·exact zma _ (mc _ hy)) hh
  rw[h0,mp];exact⟨by simp,.inl ⟨D,_,rfl,run_takeDeferred hb,ih⟩⟩
def O3{fn:Func}{φ:Value->Heap->World->Prop}(hQ:∀ a u,bodyPostM Fence.wide 0 P fn (ft F.w0 B0 F.L φ) .ret a u->zpf .ret a u)(hs:Since F B0 B)
  (h:∀ (O':Boxes) (a:Act) (u:World) (H:Heap) (fp:Nat->Nat->Prop),(∀ y∈O,DM.m y.1∉F.ds->y∈O')->HasH { F with ds:=[] } B O' n κ a u H fp->∃ v,(results fn a.tmps).run P u=.ok v u/\φ v H u) (hm:Xk F.ds=true:=by rfl):V P F B n O κ .ret zpf:=fun a u hh=>by
 obtain⟨H,fp,hH⟩:=hh;refine wpIn_ret (hQ a u ?_);refine Bh F.ds Z hm hH fun O' u' hO hh=>?_;obtain⟨v,hr,hv⟩:=h O' _ u' H fp hO hh;exact⟨v,hr,v,rfl,H,⟨hh.keep,hh.sub,hs.le.trans hh.base,fun k hk hl=>(hh.fresh k hk hl).trans (hs.fresh k hk hl)⟩,hv⟩
def zcq{fn:Func}{φ:Value->Heap->World->Prop}(hQ:∀ a u,bodyPostM Fence.wide 0 P fn (ft F.w0 B0 F.L φ) .normal a u->zpf .normal a u)(hs:Since F B0 B)
  (h:∀ (O':Boxes) (a:Act) (u:World) (H:Heap) (fp:Nat->Nat->Prop),(∀ y∈O,DM.m y.1∉F.ds->y∈O')->HasH { F with ds:=[] } B O' n κ a u H fp->∃ v,(results fn a.tmps).run P u=.ok v u/\φ v H u) (hm:Xk F.ds=true:=by rfl):N F B n O κ zpf:=fun a u hh=>by
 obtain⟨H,fp,hH⟩:=hh;refine hQ a u ?_;refine Bh F.ds Z hm hH fun O' u' hO hh=>?_;obtain⟨v,hr,hv⟩:=h O' _ u' H fp hO hh;exact⟨v,hr,v,rfl,H,⟨hh.keep,hh.sub,hs.le.trans hh.base,fun k hk hl=>(hh.fresh k hk hl).trans (hs.fresh k hk hl)⟩,hv⟩
def yg(L:Tabs P){fn:Func}{rs:List ResultVar}(hrs:fn.results=rs.toArray)(hQ:∀ a u,bodyPostM Fence.wide 0 P fn (ft F.w0 B0 F.L fun v H _=>φ v H) .ret a u->zpf .ret a u)(hs:Since F B0 B)
  (h:∀ u H,zpg H u->B.Le H->B4 L F B O κ H rs [] (fun vs=>φ (tup vs) H)) (hd:F.ds=[]:=by rfl):V P F B n O κ .ret zpf:=fun a u hh=>by
 obtain⟨H,fp,hH⟩:=hh;refine wpIn_ret (hQ a u ?_);have h0:=hH.defers;rw[hd] at h0;show LeavesInM _ _ _ _ _ _ a.defers _ _;rw[h0];obtain⟨vs,h1,h2⟩:=jv L hH hrs (h u H hH.sub hH.base);exact⟨_,h1,_,rfl,H,⟨hH.keep,hH.sub,hs.le.trans hH.base,fun k hk hl=>(hH.fresh k hk hl).trans (hs.fresh k hk hl)⟩,h2⟩
def yg1(L:Tabs P){fn:Func}(rs:List ResultVar)(h:∀ u H,zpg H u->B.Le H->B4 L F B O κ H rs [] (fun vs=>φ (tup vs) H))(hQ:∀ a u,bodyPostM Fence.wide 0 P fn (ft F.w0 B0 F.L fun v H _=>φ v H) .ret a u->zpf .ret a u:=by exact fun _ _ h=>h)(hrs:fn.results=rs.toArray:=by rfl)(hs:Since F B0 B:=by exact nq)(hd:F.ds=[]:=by rfl):V P F B n O κ .ret zpf:=yg L hrs hQ hs h hd
def yg2(L:Tabs P){fn:Func}(rs:List ResultVar)(hQ:∀ a u,bodyPostM Fence.wide 0 P fn (ft F.w0 B0 F.L fun v H _=>φ v H) .ret a u->zpf .ret a u:=by exact fun _ _ h=>h)(hrs:fn.results=rs.toArray:=by rfl)(hs:Since F B0 B:=by exact nq)(hd:F.ds=[]:=by rfl)(h:∀ u H,zpg H u->B.Le H->B4 L F B O κ H rs [] (fun vs=>φ (tup vs) H):=by intros;rfl):V P F B n O κ .ret zpf:=yg L hrs hQ hs h hd
end code
end Go.V
namespace Go.V
section mem
def vp(b:Nat)(t:TypeId)(off:Nat):∀ (vs:List Value) (i:Nat) (cur:Array Value) (w:World),w.heap[b]?=some (.cells cur t (0,0))->off+i+vs.length<=cur.size->(∀ v∈vs,v.oneCell'=true)->
  (storeCells ⟨b,off,none⟩ vs i).run P w=.ok () (w.setRow b (cur.toList.take (off+i)++vs++cur.toList.drop (off+i+vs.length)).toArray)
 | [],i,cur,w,hg,hl,_=>by
  have hlt:=xb hg;have hv:w.heap[b]=.cells cur t (0,0):=(Array.getElem?_eq_some_iff.1 hg).2;simp only[storeCells,my,znl,mq,m9,zm4];show Result.ok () w=_;congr 1;unfold World.setRow
  cases w with
  | mk heap tape drawn os output=>
   congr 1;apply Array.ext
   ·simp
   ·intro k h1 h2;simp only[Array.getElem_modify];split
    ·rename_i hk;subst hk;simp at hv;simp [hv]
    ·rfl
 | v::rest,i,cur,w,hg,hl,h1=>by
  have hi:off+i<cur.size:=by simp at hl;omega
  have hadd:Addr.add ⟨b,off,none⟩ i=⟨b,off+i,none⟩:=by simp [Addr.add]
  have hc:w.cell? ⟨b,off+i,none⟩=some cur[off+i]:=by rw[kf hg];simp [hi]
  have hf:w.frozen? ⟨b,off+i,none⟩=false:=by simp [World.frozen?,hg]
  have hst:(store (Addr.add ⟨b,off,none⟩ i) v).run P w=.ok () (w.setCell ⟨b,off+i,none⟩ v):=by
   rw[hadd,run_store P w _ v _ (h1 v (mb ..))];simp [hc,hf]
  simp only[storeCells,nu,hst,ma];rw[setCell_eq_setRow w b (off+i) cur t (0,0) v hg];have hg':=setRow_heap w b cur (cur.setIfInBounds (off+i) v) t (0,0) hg;have ih:=vp b t off rest (i+1) (cur.setIfInBounds (off+i) v) _ hg' (by simp at hl |-;omega) (fun x hx=>h1 x (mc _ hx));rw[ih,setRow_setRow];congr 2;apply nh List.toArray;simp only[zo0,ny]
  have e1:(cur.toList.set (off+i) v).take (off+(i+1))=cur.toList.take (off+i)++[v]:=by
   rw[show off+(i+1)=(off+i)+1 by omega,zlc,znz (ns _),zn0 (by simpa using hi)];rfl
  have e2:(cur.toList.set (off+i) v).drop (off+(i+1)+rest.length)=cur.toList.drop (off+i+(rest.length+1)):=by
   rw[zo1 T];congr 1;omega
  rw[e1,e2];simp
def kx:Value->List Value
 | .agg cs=>cs.toList
 | v=>[v]
def jy(v:Value):v.cells=(kx v).toArray:=by cases v<;>simp [Value.cells,kx]
def vj:Value->Bool
 | .agg _ | .tuple _=>false
 | _=>true
def uy{t t':TypeId}{s b off:Nat}{cur:List Value}(hl:ldI P t=some (ag,s))(hg:w.heap[b]?=some (.cells cur.toArray t' (0,0)))(hs:(kx v).length=s)
  (ho:off+s<=cur.length) (h1:(kx v).all vj=true):(storeVar t ⟨b,off,none⟩ v).run P w=.ok () (w.setRow b (cur.take off++kx v++cur.drop (off+s)).toArray):=by
 have hsz:v.cells.size=s:=by rw[jy];simpa using hs
 simp only[storeVar,nu,je hl,ma,hsz,ne_eq,not_true_eq_false,if_false]
 have:=vp (P:=P) b t' off (kx v) 0 cur.toArray w hg (by simp;omega) (fun x hx=>by
  have:=zlj.1 h1 x hx;cases x<;>first | rfl | cases this)
 rw[jy];simpa [hs] using this
abbrev fm:Kn:=.sat fun _ _=>True
def HasH.drop1(s:Nat)(h:HasH F B O n κ a u H fp):HasH F B O n (upd κ s fm) a u H fp:=
 ⟨h.size,h.defers,h.nodup,h.marks,h.lent,h.keep,h.sub,h.base,h.fresh,h.boxes,h.apart,fun t k hk=>by
  by_cases hts:t=s
  ·subst hts;rw[xj] at hk;cases hk;exact trivial
  ·rw[xd _ _ hts] at hk;exact h.slot t k hk,fun t q r1 r2 htq h1 h2=>by
  have key:∀ x r,upd κ s fm x=some (.own r)->κ x=some (.own r):=fun x r hx=>by
   by_cases hxd:x=s
   ·subst hxd;rw[xj] at hx;cases hx
   ·rw[xd _ _ hxd] at hx;exact hx
  exact h.owns t q r1 r2 htq (key _ _ h1) (key _ _ h2),fun t k hk=>by
  by_cases hts:t=s
  ·subst hts;rw[xj] at hk;cases hk;exact fun _ _ _ h _=>h
  ·rw[xd _ _ hts] at hk;exact h.mono t k hk⟩
def HasH.use(h:HasH F B O n κ a u H fp)(hk:κ s=some (.own r))(g:Grow (fp s) u H u' H'):HasH F B O n (upd κ s fm) a u' H' fp:=by
 have hm:=(h.slot s _ hk).2;refine(h.drop1 s).growL g (fun k hl hs=>⟨(hm k hl).2.2.1,(hm k hl).2.2.2⟩) fun t r' ht k hf hl=>?_;by_cases hts:t=s
 ·subst hts;rw[xj] at ht;cases ht
 ·rw[xd _ _ hts] at ht;exact h.owns t s r' r hts ht hk k hf hl
def HasH.usePut{s d:Nat}{r r':Res}{a':Act}(h:HasH F B O n κ a u H fp)(hk:κ s=some (.own r))(g:Grow (fp s) u H u' H')
  (hsz:a'.tmps.size=a.tmps.size) (hdf:a'.defers=a.defers) (hev:∀ t,t≠d->a'.eval (.tmp t)=a.eval (.tmp t))
  (hr:r'.P (a'.eval (.tmp d)) H' u' C) (hC:∀ k,C k->(fp s k\/u.heap.size<=k)/\k<u'.heap.size/\H' k=none):HasH F B O n (upd (upd κ s fm) d (.own r')) a' u' H' (fpu fp d C):=by
 have hm:=(h.slot s _ hk).2;refine(h.use hk g).putR hsz hdf hev hr (fun k hc=>?_) fun t r1 htd ht k hf hc=>?_
 ·obtain⟨h1,h2,h3⟩:=hC k hc;refine⟨h2,h3,?_,fun y hy e=>?_⟩
  ·rcases h1 with h1 | h1
   ·exact(hm k h1).2.2.1
   ·exact .inl (mw h.keep.size h1)
  ·rcases h1 with h1 | h1
   ·exact(hm k h1).2.2.2 y hy e
   ·have:=xb (h.boxes y hy).1;omega
 ·by_cases hts:t=s
  ·subst hts;rw[xj] at ht;cases ht
  ·rw[xd _ _ hts] at ht;rcases(hC k hc).1 with h1 | h1
   ·exact h.owns t s r1 r hts ht hk k hf h1
   ·have:=((h.slot t _ ht).2 k hf).1;omega
def jo(κ:Kap)(s:Nat)(k k':Kn):upd (upd κ s k) s k'=upd κ s k':=by
 funext t;by_cases h:t=s
 ·subst h;rw[xj,xj]
 ·rw[xd _ _ h,xd _ _ h,xd _ _ h]
def qo(L:Tabs P)(hn:Nat.blt d n=true)(hg:gK ops κ ⟨some d,.alloc t,ty,pos,aft,g⟩=some true)(hz:L.zr t=some z)(hc:kx z=cs):
  StepOK P F B n ops O κ ⟨some d,.alloc t,ty,pos,aft,g⟩ d (.own (Cell cs t)):=by
 rintro κ' a u hl ⟨H,fp,hh⟩;have hn:d<n:=by simpa using hn
 unfold After;rw[na (xf hh hl hg)]
 have hrun:(execOp a.eval ⟨some d,.alloc t,ty,pos,aft,g⟩).run P u=.ok (.value (.pointer (some ⟨u.heap.size,0,none⟩))) (u.alloc (.cells cs.toArray t)):=by
  have hzz:=Tabs.zr_spec hz;unfold zrI at hzz;split at hzz
  ·rename_i i hi;subst hc;simp [execOp,Instr.alloc,zeroValue,typeInfo,hi,hzz,newVar,newRow,jy]
  ·cases hzz
 rw[hrun];simp only[Upon];have hg2:=hh.grow (Grow.hid hh.sub (.cells cs.toArray t));refine⟨H,_,hg2.putR (C:=fun k=>k=u.heap.size) (by simp [Act.put]) Z (fun t ht=>xn ht) ⟨u.heap.size,xx (by rw[hh.size];exact hn),xu _ _,fun _=>Iff.rfl⟩ (fun k hk=>?_) fun t r' _ ht k hf hk=>?_⟩
 ·subst hk;exact⟨xb (xu u _),k7 hh.sub (ns _),.inl hh.keep.size,fun y hy e=>by have:=xb (hh.boxes y hy).1;omega⟩
 ·have:=((hh.slot t _ ht).2 k hf).1;omega
def zd5(hn:Nat.blt d n=true)(hg:gK ops κ ⟨some d,.box t x,ty,pos,aft,g⟩=some true)(hx:evK κ x=some v)(hc:kx v=cs):
  StepOK P F B n ops O κ ⟨some d,.box t x,ty,pos,aft,g⟩ d (.own (Cell cs t)):=by
 rintro κ' a u hl ⟨H,fp,hh⟩;have hn:d<n:=by simpa using hn
 unfold After;rw[na (xf hh hl hg)];have e:=hh.env hl
 have hrun:(execOp a.eval ⟨some d,.box t x,ty,pos,aft,g⟩).run P u=.ok (.value (.pointer (some ⟨u.heap.size,0,none⟩))) (u.alloc (.cells cs.toArray t)):=by
  have h1:=e.is_ x _ (by simp [Op.operands]) hx;subst hc;simp [execOp,h1,Instr.box,newVar,newRow,jy]
 rw[hrun];simp only[Upon];have hg2:=hh.grow (Grow.hid hh.sub (.cells cs.toArray t));refine⟨H,_,hg2.putR (C:=fun k=>k=u.heap.size) (by simp [Act.put]) Z (fun t ht=>xn ht) ⟨u.heap.size,xx (by rw[hh.size];exact hn),xu _ _,fun _=>Iff.rfl⟩ (fun k hk=>?_) fun t r' _ ht k hf hk=>?_⟩
 ·subst hk;exact⟨xb (xu u _),k7 hh.sub (ns _),.inl hh.keep.size,fun y hy e=>by have:=xb (hh.boxes y hy).1;omega⟩
 ·have:=((hh.slot t _ ht).2 k hf).1;omega
def ww{b:Nat}{cur:Array Value}(hs:zpg H u)(hb:u.heap[b]?=some (.cells cur t fr))(hL:L b)(hH:H b=none)(cs:Array Value):Grow L u H (u.setRow b cs) H:=
 ⟨⟨rfl,rfl,rfl,Nat.le_of_eq (setRow_size ..).symm,fun k _ hk=>setRow_other _ _ _ _ (fun e=>hk (e ▸ hL)),ns _⟩,fun k x hx=>by
  have:k≠b:=fun e=>by subst e;rw[hH] at hx;cases hx
  show(u.setRow b cs).heap[k]?=some x;rw[setRow_other _ _ _ _ this];exact hs k x hx,mo _,fun _ _ _=>rfl⟩
def qp(L:Tabs P){z:Nat}{cs':List Value}(hg:gK ops κ ⟨none,.store t (.tmp s) x,ty,pos,aft,g⟩=some true)
   (eqs:(κ s,evK κ x,L.ld t,(kx v).length,Nat.ble z cs.length)=(some (.own (Cell cs t')),some v,some (ag,z),z,true)) (hp:(kx v).all vj=true) (hr:kx v++cs.drop z=cs'):
  StepOK P F B n ops O κ ⟨none,.store t (.tmp s) x,ty,pos,aft,g⟩ s (.own (Cell cs' t')):=by
 obtain⟨hk,hx,hl,hlen,hcs⟩:=EQ5 eqs;rintro κ' a u hlk ⟨H,fp,hh⟩;subst hr;unfold After;rw[na (xf hh hlk hg)];have e:=hh.env hlk;have hev:=e.is_ x v (by simp [Op.operands]) hx;have hks:κ' s=some (.own (Cell cs t')):=(hlk s (pf (by simp [Op.operands]))).trans hk;obtain⟨⟨b,hes,hb,hC⟩,hM⟩:=hh.slot s _ hks
 have hrun:(execOp a.eval ⟨none,.store t (.tmp s) x,ty,pos,aft,g⟩).run P u=.ok .skip (u.setRow b (kx v++cs.drop z).toArray):=by
  simp only[execOp,hes,hev,Instr.storeAt,Instr.sureAddr,nu,me,ma];have:=uy (P:=P) (off:=0) (Tabs.ld_spec hl) hb hlen (by have:=np hcs;omega) hp;rw[this];simp
 rw[hrun];simp only[Upon,Act.put];have hset:=setRow_heap u b cs.toArray (kx v++cs.drop z).toArray t' (0,0) hb;have hbm:=hM b ((hC b).2 rfl)
 have:=hh.usePut (d:=s) (a':=a) (r':=Cell (kx v++cs.drop z) t') (C:=fun k=>k=b) hks (ww hh.sub hb ((hC b).2 rfl) hbm.2.1 _) rfl rfl (fun _ _=>rfl) ⟨b,hes,hset,fun _=>Iff.rfl⟩ (fun k hk=>by
  subst hk;exact⟨.inl ((hC k).2 rfl),by rw[setRow_size];exact hbm.1,hbm.2.1⟩)
 rw[jo] at this;exact⟨H,_,this⟩
def HasH.toBox{t b:Nat}{o:Obj}(h:HasH F B O n κ a u H fp)(hk:κ t=some (.own r))(hb:u.heap[b]?=some o)(hC:fp t b):HasH F B ((b,o)::O) n (upd κ t (.is (a.eval (.tmp t)))) a u H fp:=by
 have hm:=(h.slot t _ hk).2 b hC;have h':=h.name t;refine⟨h'.size,h'.defers,h'.nodup,fun D hD=>mc _ (h'.marks D hD),h'.lent,h'.keep,h'.sub,h'.base,h'.fresh,fun y hy=>?_,mg.2 ⟨fun y hy=>Ne.symm (hm.2.2.2 y hy),h'.apart⟩,fun s k hs=>?_,h'.owns,h'.mono⟩
 ·rcases nz.1 hy with rfl | hy
  ·exact⟨hb,hm.2.1,hm.2.2.1⟩
  ·exact h'.boxes y hy
 ·have hh:=h'.slot s k hs
  cases k with
  | is _=>exact hh
  | sat _=>exact hh
  | own r'=>
   refine⟨hh.1,fun k hk'=>?_⟩;obtain⟨g1,g2,g3,g4⟩:=hh.2 k hk';refine⟨g1,g2,g3,fun y hy=>?_⟩;rcases nz.1 hy with rfl | hy
   ·intro e;have hst:s≠t:=fun e=>by subst e;rw[xj] at hs;cases hs
    rw[xd _ _ hst] at hs;exact h.owns s t r' r hst hs hk k hk' (e ▸ hC)
   ·exact g4 y hy
def Has.box{t:Nat}(hk:κ t=some (.own (Cell cs ty)))(h:Has F B O n κ a u):
  ∃ b,(∀ y∈O,y.1≠b)/\Has F B (bx b cs ty::O) n (upd κ t (.is (.pointer (some ⟨b,0,none⟩)))) a u:=by
 obtain⟨H,fp,h⟩:=h;obtain⟨⟨b,hv,hb,hC⟩,hM⟩:=h.slot t _ hk;have:=h.toBox hk hb ((hC b).2 rfl);rw[hv] at this;exact⟨b,(hM b ((hC b).2 rfl)).2.2.2,H,fp,this⟩
section
def sn(t:Nat)(hk:κ t=some (.own (Cell cs ty)))(h:∀ b,(∀ y∈O,y.1≠b)->V P F B n (bx b cs ty::O) (upd κ t (.is (.pointer (some ⟨b,0,none⟩)))) c zpf):V P F B n O κ c zpf:=fun a u hh=>by
 obtain⟨b,hb,hh'⟩:=hh.box hk;exact h b hb a u hh'
def Mv(t:Nat)(hk:κ t=some (.own (Cell cs ty)))(h:∀ b,(∀ y∈O,y.1≠b)->VO P F B n (bx b cs ty::O) ops (upd κ t (.is (.pointer (some ⟨b,0,none⟩)))) os zpf):VO P F B n O ops κ os zpf:=fun a u hh=>by
 obtain⟨b,hb,hh'⟩:=hh.box hk;exact h b hb a u hh'
def HasH.ofBox{t b:Nat}{o:Obj}{O1 O2:Boxes}(h:HasH F B (O1++(b,o)::O2) n κ a u H fp)(hd:DM.m b∉F.ds)(hr:r.P (a.eval (.tmp t)) H u (fun k=>k=b)):HasH F B (O1++O2) n (upd κ t (.own r)) a u H (fpu fp t fun k=>k=b):=by
 have hsl:(O1++O2).Sublist (O1++(b,o)::O2):=List.Sublist.append (List.Sublist.refl _) (zog ..);have hmem:(b,o)∈O1++(b,o)::O2:=by simp
 obtain⟨hb1,hb2,hb3⟩:=h.boxes _ hmem;have hap:=zl0.1 h.apart
 have hne:∀ y,y∈O1++O2->y.1≠b:=fun y hy=>by
  rcases mn.1 hy with hy | hy
  ·exact hap.2.2 y hy _ (mb ..)
  ·exact Ne.symm ((mg.1 hap.2.1).1 y hy)
 have h1:HasH F B (O1++O2) n κ a u H fp:=⟨h.size,h.defers,h.nodup,fun D hD=>by
  have hm:=h.marks D hD;rcases mn.1 hm with hm | hm
  ·exact zlt _ hm
  ·rcases nz.1 hm with e | hm
   ·cases e;exact ni hD hd
   ·exact zma _ hm,h.lent,h.keep,h.sub,h.base,h.fresh,fun y hy=>h.boxes y (hsl.subset hy),h.apart.sublist hsl,fun s k hs=>by
  have hh:=h.slot s k hs
  cases k with
  | is _=>exact hh
  | sat _=>exact hh
  | own r'=>exact⟨hh.1,fun k hk'=>by obtain⟨g1,g2,g3,g4⟩:=hh.2 k hk';exact⟨g1,g2,g3,fun y hy=>g4 y (hsl.subset hy)⟩⟩,h.owns,h.mono⟩
 refine h1.putR Z Z (fun _ _=>rfl) hr (fun k hk=>?_) fun s r' hst hs k hf hk=>?_
 ·subst hk;exact⟨xb hb1,hb2,hb3,fun y hy=>hne y hy⟩
 ·subst hk;exact((h.slot s _ hs).2 k hf).2.2.2 _ hmem Z
def H7(L:Tabs P){t t':TypeId}{z b off:Nat}{p x:Operand}{O1 O2:Boxes}{cs cs':List Value}
  (hO:O=O1++bx b cs t'::O2) (hg:gK ops κ ⟨none,.store t p x,ty,pos,aft,g⟩=some true) (hp:evK κ p=some (.pointer (some ⟨b,off,none⟩))) (hx:evK κ x=some v)
  (hl:L.ld t=some (ag,z)) (hlen:(kx v).length=z) (hcs:Nat.ble (off+z) cs.length=true) (hpl:(kx v).all vj=true) (hr:cs.take off++(kx v++cs.drop (off+z))=cs')
  (h:VO P F B n (O1++bx b cs' t'::O2) ops κ os zpf):VO P F B n O ops κ (⟨none,.store t p x,ty,pos,aft,g⟩::os) zpf:=by
 rintro a u ⟨H,fp,hh⟩;subst hO;subst hr;show After _ _ _ _ _ _;unfold After;rw[na (xf hh (fun _ _=>rfl) hg)];have e:=hh.env (ops:=ops) (o:=⟨none,.store t p x,ty,pos,aft,g⟩) (fun _ _=>rfl);have hev:=e.is_ x v (by simp [Op.operands]) hx;have hes:=e.is_ p _ (by simp [Op.operands]) hp;have hmem:bx b cs t'∈O1++bx b cs t'::O2:=by simp
 obtain⟨hb,hH,hw⟩:=hh.boxes _ hmem
 have hrun:(execOp a.eval ⟨none,.store t p x,ty,pos,aft,g⟩).run P u=.ok .skip (u.setRow b (cs.take off++(kx v++cs.drop (off+z))).toArray):=by
  simp only[execOp,hes,hev,Instr.storeAt,Instr.sureAddr,nu,me,ma];have:=uy (P:=P) (off:=off) (Tabs.ld_spec hl) hb hlen (np hcs) hpl;rw[this];simp
 rw[hrun];simp only[Upon,Act.put];have hset:=setRow_heap u b cs.toArray (cs.take off++(kx v++cs.drop (off+z))).toArray t' (0,0) hb
 have hbd:DM.m b∉F.ds:=fun hd=>by
  have hm:=hh.marks b hd;have:=(hh.boxes _ hm).1;rw[hb] at this;cases this
 have h2:=hh.boxSet (u':=u.setRow b (cs.take off++(kx v++cs.drop (off+z))).toArray) (ds:=F.ds) (a':=a) (o':=.cells (cs.take off++(kx v++cs.drop (off+z))).toArray t') ⟨rfl,rfl,rfl,setRow_size ..,ns _,hset,fun k hk=>setRow_other _ _ _ _ hk⟩ (List.Sublist.refl _) hbd rfl hh.defers;exact h a _ ⟨H,fp,h2⟩
def HasH.pub{t b:Nat}{o:Obj}(h:HasH F B O n κ a u H fp)(hk:κ t=some (.own r))(hb:u.heap[b]?=some o)(hC:fp t b)(hm:Kn.mono (.sat φ))(hp:∀ H',H.Le H'->H' b=some o->φ (a.eval (.tmp t)) H'):
  ∃ H',HasH F B O n (upd κ t (.sat φ)) a u H' fp:=by
 have hM:=(h.slot t _ hk).2 b hC
 have hle:H.Le (fun k=>if k=b then some o else H k):=fun k x hx=>by
  show(if k=b then some o else H k)=some x;rw[nc fun e=>by subst e;rw[hM.2.1] at hx;cases hx];exact hx
 have hne:∀ k,k≠b->(fun k=>if k=b then some o else H k) k=H k:=fun k hk=>nc hk;refine⟨fun k=>if k=b then some o else H k,h.size,h.defers,h.nodup,h.marks,h.lent,h.keep,fun k x hx=>?_,h.base.trans hle,fun k hk hl=>?_,fun y hy=>?_,h.apart,fun s k hs=>?_,fun s r1 r2 r3 hsr h1 h2=>?_,fun s k hs=>?_⟩
 ·split at hx
  ·rename_i e;subst e;cases hx;exact hb
  ·exact h.sub k x hx
 ·refine(hne k fun e=>?_).trans (h.fresh k hk hl);subst e;rcases hM.2.2.1 with h1 | h1
  ·omega
  ·exact hl h1
 ·obtain⟨g1,g2,g3⟩:=h.boxes y hy;exact⟨g1,(hne _ (hM.2.2.2 y hy)).trans g2,g3⟩
 ·by_cases hst:s=t
  ·subst hst;rw[xj] at hs;cases hs;exact hp _ hle (na Z)
  ·rw[xd _ _ hst] at hs;have hh:=h.slot s k hs
   cases k with
   | is _=>exact hh
   | sat ψ=>exact h.mono s _ hs _ H _ hh hle
   | own r'=>
    refine⟨r'.st hh.1 hle (fun k x hx=>?_) (On.refl _) (fun _ _=>rfl),fun k hk'=>?_⟩
    ·split at hx
     ·rename_i e;subst e;cases hx;exact hb
     ·exact h.sub k x hx
    ·obtain⟨g1,g2,g3,g4⟩:=hh.2 k hk';exact⟨g1,(hne _ fun e=>by subst e;exact h.owns s t r' r hst hs hk k hk' hC).trans g2,g3,g4⟩
 ·have key:∀ x r,upd κ t (.sat φ) x=some (.own r)->κ x=some (.own r):=fun x r hx=>by
   by_cases hxd:x=t
   ·subst hxd;rw[xj] at hx;cases hx
   ·rw[xd _ _ hxd] at hx;exact hx
  exact h.owns s r1 r2 r3 hsr (key _ _ h1) (key _ _ h2)
 ·by_cases hst:s=t
  ·subst hst;rw[xj] at hs;cases hs;exact hm
  ·rw[xd _ _ hst] at hs;exact h.mono s k hs
def Has.pub{t:Nat}{cs:List Value}{ty:TypeId}(hk:κ t=some (.own (Cell cs ty)))(h:Has F B O n κ a u):Has F B O n (upd κ t (.sat (At cs ty 0))) a u:=by
 obtain⟨H,fp,h⟩:=h;obtain⟨⟨b,hv,hb,hC⟩,hM⟩:=h.slot t _ hk;obtain⟨H',h'⟩:=h.pub (φ:=At cs ty 0) hk hb ((hC b).2 rfl) At.mono fun H' _ hb'=>⟨b,hv,hb'⟩
 exact⟨H',fp,h'⟩
def zfd(t:Nat)(hk:κ t=some (.own (Cell cs ty)))(h:V P F B n O (upd κ t (.sat (At cs ty 0))) c zpf):V P F B n O κ c zpf:=fun a u hh=>h a u (hh.pub hk)
def zfu(t:Nat)(hk:κ t=some (.own (Cell cs ty)))(h:VO P F B n O ops (upd κ t (.sat (At cs ty 0))) os zpf):VO P F B n O ops κ os zpf:=fun a u hh=>h a u (hh.pub hk)
def Has.drop{O':Boxes}(hO:O'.Sublist O)(hd:F.ds=[])(h:Has F B O n κ a u):Has F B O' n κ a u:=by
 obtain⟨H,fp,h⟩:=h;refine⟨H,fp,h.size,h.defers,h.nodup,(fun D hD=>by rw[hd] at hD;cases hD),h.lent,h.keep,h.sub,h.base,h.fresh,fun y hy=>h.boxes y (hO.subset hy),h.apart.sublist hO,fun s k hs=>?_,h.owns,h.mono⟩;have hh:=h.slot s k hs
 cases k with
 | is _=>exact hh
 | sat φ=>exact hh
 | own r=>exact⟨hh.1,fun k hk=>by obtain⟨g1,g2,g3,g4⟩:=hh.2 k hk;exact⟨g1,g2,g3,fun y hy=>g4 y (hO.subset hy)⟩⟩
def O4{O':Boxes}(hO:O'.Sublist O)(h:V P F B n O' κ c zpf)(hd:F.ds=[]:=by rfl):V P F B n O κ c zpf:=fun a u hh=>h a u (hh.drop hO hd)
end
end mem
end Go.V
namespace Go.V
def ot(places:List (Nat×Nat)):List Value->List (Nat×Value)->Option (List Value)
 | cells,[]=>some cells
 | cells,(i,v)::rest=>match places[i]? with
  | none=>none
  | some (off,size)=>bif Nat.beq (kx v).length size && Nat.ble (off+size) cells.length then ot places (cells.take off++(kx v++cells.drop (off+size))) rest else none
def plI(P:Program)(t:TypeId):Option (List (Nat×Nat)):=
 match P.underlying t with
 | some (.struct fs)=>fs.toList.mapM fun f=>(P.info? f.type).map fun i=>(f.offset,i.size)
 | some (.array n e)=>match P.info? e with
  | some ie=>some ((List.range n).map fun i=>(i*ie.size,ie.size))
  | none=>none
 | _=>none
def Bm:∀ (vs:List Value) (k off:Nat) (cells:Array Value),off+k+vs.length<=cells.size->
  ((vs.zipIdx k).foldl (fun cs (p:Value×Nat)=>cs.setIfInBounds (off+p.2) p.1) cells)=(cells.toList.take (off+k)++vs++cells.toList.drop (off+k+vs.length)).toArray
 | [],k,off,cells,_=>by simp
 | v::vs,k,off,cells,h=>by
  simp only[List.zipIdx_cons,znk];rw[Bm vs (k+1) off _ (by simp at h |-;omega)];apply nh List.toArray;simp only[zo0,ny];simp only[ny] at h
  have e1:(cells.toList.set (off+k) v).take (off+(k+1))=cells.toList.take (off+k)++[v]:=by
   rw[show off+(k+1)=(off+k)+1 by omega,zlc,znz (ns _),zn0 (by simp;omega)];rfl
  have e2:(cells.toList.set (off+k) v).drop (off+(k+1)+vs.length)=cells.toList.drop (off+k+(vs.length+1)):=by
   rw[zo1 T];congr 1;omega
  rw[e1,e2];simp
def uj{place:Nat->Option (Nat×Nat)}{places:List (Nat×Nat)}(hp:∀ i p,places[i]?=some p->place i=some p):∀ (parts:List (Nat×Value)) (cells r:List Value),ot places cells parts=some r->
  Instr.fill place cells.toArray parts=some r.toArray
 | [],cells,r,h=>by simp only[ot] at h;cases h;rfl
 | (i,v)::rest,cells,r,h=>by
  simp only[ot] at h;split at h
  ·cases h
  ·rename_i off size hpl
   cases hb:Nat.beq (kx v).length size && Nat.ble (off+size) cells.length with
   | false=>rw[hb] at h;cases h
   | true=>
    rw[hb] at h;simp only[zly] at hb;have h1:=zm2 hb.1;have h2:=np hb.2;have hsz:v.cells.size=size:=by rw[jy];simpa using h1
    simp only[Instr.fill,hp i _ hpl,hsz];rw[nc (by simp;omega)];rw[jy,<-znw];simp only[Array.toList_zipIdx];rw[Bm (kx v) 0 off cells.toArray (by simp;omega)];have:=uj hp rest _ r h;simpa [h1] using this
def evP(κ:Kap):List (Nat×Operand)->Option (List (Nat×Value))
 | []=>some []
 | (i,x)::xs=>match evK κ x,evP κ xs with
  | some v,some vs=>some ((i,v)::vs)
  | _,_=>none
section
def E7(e:Env F B O κ o a u H fp):∀ (xs:List (Nat×Operand)) (vs:List (Nat×Value)),(∀ p∈xs,p.2∈o.op.operands)->evP κ xs=some vs->xs.map (fun p=>(p.1,a.eval p.2))=vs
 | [],vs,_,h=>by simp only[evP] at h;cases h;rfl
 | (i,x)::xs,vs,hx,h=>by
  simp only[evP] at h;split at h
  ·rename_i v vs' h1 h2;cases h;rw[mp,E7 e xs vs' (fun p hp=>hx p (mc _ hp)) h2,e.is_ x v (hx (i,x) (mb ..)) h1]
  ·cases h
structure PL(P:Program)(t:TypeId)(places:List (Nat×Nat))(z:List Value):Prop where
 pl:plI P t=some places
 zr:∃ zv,zrI P t=some zv/\kx zv=z
def yt{places:List (Nat×Nat)}{z cs:List Value}{vs:List (Nat×Value)}(hn:Nat.blt d n=true)(hg:gK ops κ ⟨some d,.build t parts,ty,pos,aft,g⟩=some true)
  (hp:PL P t places z) (hv:evP κ parts.toList=some vs) (hc:ot places z vs=some cs):StepOK P F B n ops O κ ⟨some d,.build t parts,ty,pos,aft,g⟩ d (.is (.agg cs.toArray)):=
 ke rfl (by simpa using hn) hg trivial fun a u H fp e=>⟨_,by
  have hm:=E7 e parts.toList vs (fun p hp'=>by simp [Op.operands];exact⟨p.1,by simpa using hp'⟩) hv;obtain⟨zv,hz1,hz2⟩:=hp.zr
  have hbt:P.built t vs=some cs.toArray:=by
   have hpl:=hp.pl;unfold plI at hpl;unfold zrI at hz1;split at hz1
   ·rename_i it hit;unfold Program.built;split at hpl
    ·rename_i fs hu;simp only[hit,hu,hz1,hpl];rw[jy,hz2];exact uj (fun i p h=>by simpa using h) vs z cs hc
    ·rename_i m el hu;split at hpl
     ·rename_i ie hie;simp only[hit,hu,hz1,hie];cases hpl;rw[jy,hz2]
      exact uj (fun i p h=>by
       rw[zlu] at h
       cases hr:(List.range m)[i]? with
       | none=>rw[hr] at h;cases h
       | some j=>
        rw[hr] at h
        have:j=i:=by
         have:=zl5.1 hr;obtain⟨h1,h2⟩:=this;simpa using h2.symm
        subst this;simpa using h) vs z cs hc
     ·cases hpl
    ·cases hpl
   ·cases hz1
  have hr:=run_build (P:=P) u t vs.toArray cs.toArray (by simpa using hbt)
  have harr:(parts.map fun(p:Nat×Operand)=>(p.1,a.eval p.2))=vs.toArray:=by
   rw[<-hm,<-zlv,zm4]
  simp only[execOp,nu];show Result.andThen ((Instr.build t (parts.map fun(p:Nat×Operand)=>(p.1,a.eval p.2))).run P u) _=_;rw[harr,hr];rfl,rfl⟩
def SlB(cs:List Value)(e:TypeId)(len:Nat):Value->Heap->Prop:=fun v H=>∃ b,v=.slice (some ⟨b,0,none⟩) len len/\H b=some (.cells cs.toArray e)
def SlB.mono:Kn.mono (.sat (SlB cs e len)):=fun _ _ _ ⟨b,hv,hb⟩ hl=>⟨b,hv,hl _ _ hb⟩
def E4:List (Nat×Value)->List Value
 | []=>[]
 | p::ps=>kx p.2++E4 ps
def zat(s:Nat):Nat->List (Nat×Value)->Bool
 | _,[]=>true
 | i,p::ps=>Nat.beq p.1 i && (Nat.beq (kx p.2).length s && zat s (i+1) ps)
def Hr{s:Nat}:∀ (ps:List (Nat×Value)) (i:Nat) (cells:Array Value),zat s i ps=true->cells.size=(i+ps.length)*s->
  Instr.fill (fun i=>some (i*s,s)) cells ps=some (cells.toList.take (i*s)++E4 ps).toArray
 | [],i,cells,_,hs=>by
  simp only[Instr.fill,E4,mq];rw[zle (by simp at hs |-;omega)]
 | (j,v)::ps,i,cells,h,hs=>by
  simp only[zat,zly] at h;obtain rfl:=zm2 h.1;have h1:=zm2 h.2.1;have hsz:v.cells.size=s:=by rw[jy];simpa using h1
  have hle:j*s+s<=cells.size:=by
   rw[hs];have:(j+(ps.length+1))*s=j*s+s+ps.length*s:=by rw[zl6,zmo];omega
   simp only[ny];omega
  simp only[Instr.fill,hsz];rw[nc (by simp;omega)];rw[jy,<-znw];simp only[Array.toList_zipIdx];rw[Bm (kx v) 0 (j*s) cells (by rw[h1];omega)];have hs2:cells.size=(j+1+ps.length)*s:=by rw[hs];congr 1;simp only[ny];omega
  rw[Hr ps (j+1) _ h.2.2 (by
   simp only[zn1,nr,mi,m7,zlw,h1];rw[<-hs2];omega)]
  congr 2;have h2:(j+1)*s=j*s+s:=zmo j s
  have h3:(cells.toList.take (j*s+0)++kx v).length=(j+1)*s:=by
   simp only[nr,mi,zlw,h1];omega
  rw[zn2 (by simp only[h3];omega),zle (by simp only[h3];omega)];simp [E4]
def ym(L:Tabs P){t e:TypeId}{s len:Nat}{vs:List (Nat×Value)}(hn:Nat.blt d n=true)(hg:gK ops κ ⟨some d,.buildSlice t len parts,ty,pos,aft,g⟩=some true)
   (eqs:(L.sl t,L.ld e,L.zr e,evP κ parts.toList)=(some e,some (ag,s),some z,some vs)) (hlen:vs.length=len) (hen:zat s 0 vs=true) (hb:Nat.ble (len*s) 16777216=true):
  StepOK P F B n ops O κ ⟨some d,.buildSlice t len parts,ty,pos,aft,g⟩ d (.sat (SlB (E4 vs) e len)):=have⟨ht,hl,hz,hv⟩:=EQ4 eqs;Sz rfl (by simpa using hn) hg SlB.mono fun a u H fp en=>by
  refine⟨.slice (some ⟨u.heap.size,0,none⟩) len len,u.alloc (.cells (E4 vs).toArray e),_,?_,Grow.new en.sub _,⟨_,rfl,by simp⟩⟩;have hm:=E7 en parts.toList vs (fun p hp'=>by simp [Op.operands];exact⟨p.1,by simpa using hp'⟩) hv
  have harr:(parts.map fun(p:Nat×Operand)=>(p.1,a.eval p.2))=vs.toArray:=by
   rw[<-hm,<-zlv,zm4]
  have hb':=np hb;have hzz:=Tabs.zr_spec hz;unfold zrI at hzz;split at hzz
  ·rename_i it hit;have hzr:(zeroValue e).run P u=.ok z u:=by simp [zeroValue,typeInfo,hit,hzz]
   simp only[execOp,nu];show Result.andThen ((Instr.buildSlice t len (parts.map fun(p:Nat×Operand)=>(p.1,a.eval p.2))).run P u) _=_;rw[harr];simp only[Instr.buildSlice,nu,run_underlying (Tabs.sl_spec ht),ma,je (Tabs.ld_spec hl)];rw[nc T]
   have hfill:∀ cells:Array Value,cells.size=len*s->Instr.fill (fun i=>some (i*s,s)) cells vs=some (E4 vs).toArray:=fun cells hc=>by
    have:=Hr vs 0 cells hen (by rw[hc,hlen];simp);simpa using this
   by_cases h0:len*s=0
   ·simp only[h0,if_true,nu,me,ma];rw[hfill _ (by simp [h0])];simp [newRow]
   ·simp only[h0,if_false,nu,me,ma,hzr];rw[hfill _ (by simp)];simp [newRow]
  ·cases hzz
end
end Go.V
namespace Go.V
def lvF(P:Program)(rec:TypeId→Option (List Nat)):List Field→Nat→Option (List Nat)
 | [],_=>some []
 | f::fs,off=>match rec f.type,ldI P f.type with
  | some ls, some (ag, s) => if f.name ≠ "_" ∧ f.offset = off ∧ s = ls.length ∧ (ag = true ∨ s = 1) then
    match lvF P rec fs (off+s) with
    | some r=>some (ls++r)
    | none=>none
   else none
  | _,_=>none
def lvI(P:Program):Nat->TypeId->Option (List Nat)
 | 0,_=>none
 | d+1,t=>match P.underlying t with
  | some .string=>some [0]
  | some (.int _)=>some [1]
  | some .bool=>some [2]
  | some (.struct fs)=>if P.stoodInHeld t then none else lvF P (lvI P d) fs.toList 0
  | _=>none
def eqC:Nat->Value->Value->Option Bool
 | 0,.string a,.string b=>some (decide (a=b))
 | 1,.int k a,.int k' b=>if k=k' then some (decide (a=b)) else none
 | 2,.bool a,.bool b=>some (a == b)
 | _,_,_=>none
def ay:List Nat->List Value->List Value->Option Bool
 | [],[],[]=>some true
 | l::ls,x::xs,y::ys=>match eqC l x y,ay ls xs ys with
  | some a,some b=>some (a && b)
  | _,_=>none
 | _,_,_=>none
def Bo:∀ (ls ms:List Nat) (xs ys:List Value) (b:Bool),ay (ls++ms) xs ys=some b->
  ∃ b1 b2,ay ls (xs.take ls.length) (ys.take ls.length)=some b1/\ay ms (xs.drop ls.length) (ys.drop ls.length)=some b2/\b=(b1 && b2)
 | [],ms,xs,ys,b,h=>⟨true,b,by simp [ay],by simpa using h,by simp⟩
 | l::ls,ms,xs,ys,b,h=>by
  cases xs with
  | nil=>cases ys<;>simp [ay] at h
  | cons x xs=>
   cases ys with
   | nil=>simp [ay] at h
   | cons y ys=>
    simp only[zll,ay] at h;split at h
    ·rename_i a c h1 h2;cases h;obtain⟨b1,b2,g1,g2,g3⟩:=Bo ls ms xs ys c h2;exact⟨a && b1,b2,by simp [ay,h1,g1],by simpa using g2,by rw[g3,Bool.and_assoc]⟩
    ·cases h
section
def Gk(h:ldI P t=some (true,s))(cs:List Value)(off:Nat)(w:World):(part t cs.toArray off).run P w=.ok (.agg ((cs.drop off).take s).toArray) w:=by
 simp only[part,nu,iq h,ma,if_true,je h,me];congr 3;simp
def Gj(h:ldI P t=some (false,s))(cs:List Value)(off:Nat)(v:Value)(hv:cs[off]?=some v)(w:World):(part t cs.toArray off).run P w=.ok v w:=by
 simp [part,iq h,hv]
def Oa:∀ (ls:List Nat) (xs ys:List Value) (b:Bool),ay ls xs ys=some b->xs.length=ls.length/\ys.length=ls.length
 | [],xs,ys,b,h=>by cases xs<;>cases ys<;>simp [ay] at h |-
 | l::ls,xs,ys,b,h=>by
  cases xs with
  | nil=>cases ys<;>simp [ay] at h
  | cons x xs=>
   cases ys with
   | nil=>simp [ay] at h
   | cons y ys=>
    simp only[ay] at h;split at h
    ·rename_i a c h1 h2;have:=Oa ls xs ys c h2;simp [this.1,this.2]
    ·cases h
def asV(ag:Bool)(xs:List Value):Value:=match ag,xs with
 | false,[v]=>v
 | _,xs=>.agg xs.toArray
def D8:∀ (d:Nat) (t:TypeId) (ls:List Nat) (ag:Bool) (s:Nat),lvI P d t=some ls->ldI P t=some (ag,s)->∀ (xs ys:List Value) (b:Bool) (w:World),ay ls xs ys=some b->
  (Op.equalIn d t (asV ag xs) (asV ag ys)).run P w=.ok b w:=by
 intro d
 induction d with
 | zero=>intro t ls ag s h;cases h
 | succ d ih=>
  intro t ls ag s h hld xs ys b w he;obtain⟨dsc,i,hu,hi,hsz,hag⟩:=Et hld;simp only[lvI,hu] at h
  have one:∀ l,ay [l] xs ys=some b->∃ x y,xs=[x]/\ys=[y]/\eqC l x y=some b:=fun l he=>by
   cases xs with
   | nil=>cases ys<;>simp [ay] at he
   | cons x xs=>
    cases ys with
    | nil=>simp [ay] at he
    | cons y ys=>
     simp only[ay] at he;split at he
     ·rename_i a c h1 h2;cases he;cases xs<;>cases ys<;>simp [ay] at h2;subst h2;exact⟨x,y,rfl,rfl,by simpa using h1⟩
     ·cases he
  cases dsc with
  | string=>
   cases h;simp at hag;subst hag;obtain⟨x,y,rfl,rfl,hc⟩:=one 0 he;cases x<;>cases y<;>simp [eqC] at hc;subst hc;simp only[asV,Op.equalIn,nu,run_underlying hu,ma,me];rw[beq_toListBytes,Cf]
  | int k=>
   cases h;simp at hag;subst hag;obtain⟨x,y,rfl,rfl,hc⟩:=one 1 he;cases x<;>cases y<;>simp [eqC] at hc;obtain⟨rfl,rfl⟩:=hc;simp [asV,Op.equalIn,run_underlying hu];rfl
  | bool=>
   cases h;simp at hag;subst hag;obtain⟨x,y,rfl,rfl,hc⟩:=one 2 he;cases x<;>cases y<;>simp [eqC] at hc;subst hc;simp [asV,Op.equalIn,run_underlying hu]
  | struct fs=>
   simp at hag;subst hag;have h:(if P.stoodInHeld t=true then none else lvF P (lvI P d) fs.toList 0)=some ls:=h;split at h
   ·cases h
   ·rename_i hst;have hst':P.stoodInHeld t=false:=by simpa using hst
    have hf:P.fieldsOf t=fs:=by simp [Program.fieldsOf,hu]
    have asT:∀ zs:List Value,asV true zs=.agg zs.toArray:=fun zs=>by cases zs<;>rfl
    rw[asT,asT,run_equalIn_struct w d t _ _ (by rw[hf];exact hu) hst',hf]
    have gen:∀ (fl:List Field) (off:Nat) (ls:List Nat) (b:Bool),lvF P (lvI P d) fl off=some ls->ay ls (xs.drop off) (ys.drop off)=some b->
      (Op.eqFields d xs.toArray ys.toArray fl).run P w=.ok b w:=by
     intro fl
     induction fl with
     | nil=>
      intro off ls b h he;simp only[lvF] at h;cases h;cases hx:xs.drop off<;>cases hy:ys.drop off<;>rw[hx,hy] at he<;>simp [ay] at he;subst he;simp [Op.eqFields]
     | cons f fl ihf=>
      intro off ls b h he;simp only[lvF] at h;split at h
      ·rename_i l1 ag1 s1 hl1 hld1;split at h
       ·rename_i hc;obtain⟨hnm',rfl,rfl,hag1⟩:=hc;split at h
        ·rename_i r hr;cases h;obtain⟨b1,b2,g1,g2,rfl⟩:=Bo l1 r _ _ b he;have hlen:=Oa l1 _ _ _ g1
         have hp:∀ zs:List Value,((zs.drop f.offset).take l1.length).length=l1.length->(part f.type zs.toArray f.offset).run P w=.ok (asV ag1 ((zs.drop f.offset).take l1.length)) w:=fun zs hz=>by
          cases ag1 with
          | true=>rw[Gk hld1,asT]
          | false=>
           have h1:l1.length=1:=by simpa using hag1
           rw[h1] at hz |-
           match hm:(zs.drop f.offset).take 1,hz with
           | [v],_=>
            refine Gj hld1 zs f.offset v ?_ w;have:=nh (·[0]?) hm;simpa [zn3] using this
         simp only[Op.eqFields,ne_eq,hnm',not_false_eq_true,if_true,nu];rw[hp xs hlen.1];simp only[ma];rw[hp ys hlen.2];simp only[ma];rw[ih f.type l1 ag1 l1.length hl1 hld1 _ _ b1 w g1];simp only[ma,Sem.run_ite]
         cases b1 with
         | false=>simp
         | true=>
          simp only[Bool.not_true,zmp,if_false,Bool.true_and];refine ihf (f.offset+l1.length) r b2 hr ?_;rw[zlz,zlz] at g2;exact g2
        ·cases h
       ·cases h
      ·cases h
    exact gen fs.toList 0 ls b h (by simpa using he)
  | _=>cases h
structure EqT(P:Program)(t:TypeId)(ls:List Nat):Prop where
 lv:lvI P 20 t=some ls
 ag:(ldI P t).map (·.1)=some true
 gd:P.eqGuardType P.depth t=false
def zg8:∀ (d:Nat) (t:TypeId) (ls:List Nat),lvI P d t=some ls->lvI P (d+1) t=some ls:=by
 intro d
 induction d with
 | zero=>intro t ls h;cases h
 | succ d ih=>
  intro t ls h
  have gen:∀ (fl:List Field) (off:Nat) (ls:List Nat),lvF P (lvI P d) fl off=some ls->lvF P (lvI P (d+1)) fl off=some ls:=by
   intro fl
   induction fl with
   | nil=>intro off ls h;exact h
   | cons f fl ihf=>
    intro off ls h;simp only[lvF] at h |-;split at h
    ·rename_i l1 ag1 s1 h1 h2;rw[ih _ _ h1,h2];simp only;split at h
     ·rename_i hc;rw[na hc];split at h
      ·rename_i r hr;rw[ihf _ _ hr];exact h
      ·cases h
     ·cases h
    ·cases h
  rw[lvI] at h |-
  cases hu:P.underlying t with
  | none=>rw[hu] at h;cases h
  | some dsc=>
   rw[hu] at h;cases dsc<;>first | exact h | skip
   simp only at h |-;split at h
   ·cases h
   ·rename_i hs;rw[nc hs];exact gen _ _ _ h
def Nx(h:lvI P d t=some ls):∀ k,lvI P (d+k) t=some ls
 | 0=>h
 | k+1=>zg8 _ _ _ (Nx h k)
def r6(h:EqT P t ls){xs ys:List Value}(he:ay ls xs ys=some b)(op:BinOp)(x y:Operand)(w:World):
  (do eqGuard op t x y (.agg xs.toArray) (.agg ys.toArray);binOp .eql t (.agg xs.toArray) (.agg ys.toArray):Sem Value).run P w=.ok (.bool b) w/\
  (do eqGuard op t x y (.agg xs.toArray) (.agg ys.toArray);binOp .neq t (.agg xs.toArray) (.agg ys.toArray):Sem Value).run P w=.ok (.bool (!b)) w:=by
 have h2:=h.ag
 cases hl:ldI P t with
 | none=>rw[hl] at h2;cases h2
 | some p=>
  obtain⟨ag,s⟩:=p;rw[hl] at h2;simp at h2;subst h2;have asT:∀ zs:List Value,asV true zs=.agg zs.toArray:=fun zs=>by cases zs<;>rfl
  have hr:=D8 10000 t ls true s (Nx h.lv 9980) hl xs ys b w he;rw[asT,asT] at hr;constructor
  ·rw[nu,run_eqGuard_agg w op t x y _ _ h.gd];simp only[ma];rw[run_eql_struct,hr];rfl
  ·rw[nu,run_eqGuard_agg w op t x y _ _ h.gd];simp only[ma];rw[run_neq_struct,hr];rfl
end
section
def ev{xs ys:Array Value}{c:Bool}(hn:Nat.blt d n=true)(hg:gK ops κ ⟨some d,.binOp .eql t x y t',ty,pos,aft,g⟩=some true)(hx:evK κ x=some (.agg xs))(hy:evK κ y=some (.agg ys))
  (ht:EqT P t ls) (he:ay ls xs.toList ys.toList=some b) (hb:b=c):StepOK P F B n ops O κ ⟨some d,.binOp .eql t x y t',ty,pos,aft,g⟩ d (.is (.bool c)):=
 w7 hn hg hx hy fun u=>by subst hb;simpa using (r6 ht he .eql x y u).1
def Lv{xs ys:Array Value}{c:Bool}(hn:Nat.blt d n=true)(hg:gK ops κ ⟨some d,.binOp .neq t x y t',ty,pos,aft,g⟩=some true)(hx:evK κ x=some (.agg xs))(hy:evK κ y=some (.agg ys))
  (ht:EqT P t ls) (he:ay ls xs.toList ys.toList=some b) (hb:(!b)=c):StepOK P F B n ops O κ ⟨some d,.binOp .neq t x y t',ty,pos,aft,g⟩ d (.is (.bool c)):=
 w7 hn hg hx hy fun u=>by subst hb;simpa using (r6 ht he .neq x y u).2
def w9(b off k:Nat):Addr.add ⟨b,off,none⟩ k=⟨b,off+k,none⟩:=by simp [Addr.add]
def qk(L:Tabs P){b cap:Nat}(j:Nat)(hn:Nat.blt d n=true)(hg:gK ops κ ⟨some d,.indexAddr t x y,ty,pos,aft,g⟩=some true)
   (eqs:(evK κ x,evK κ y,L.sl t,L.ld e)=(some (.slice (some ⟨b,off,none⟩) len cap),some (.int k p),some e,some (ag,s))) (hj:p=j) (hi:j<len):
  StepOK P F B n ops O κ ⟨some d,.indexAddr t x y,ty,pos,aft,g⟩ d (.is (.pointer (some ⟨b,off+j*s,none⟩))):=have⟨hx,hy,ht,hl⟩:=EQ4 eqs;ke rfl (by simpa using hn) hg trivial fun a u H fp en=>⟨_,by
  have h1:=en.is_ x _ (by simp [Op.operands]) hx;have h2:=en.is_ y _ (by simp [Op.operands]) hy;subst hj;have hu:=Tabs.sl_spec ht;simp only[execOp,h1,h2,Instr.indexAt,nu,asIntOf,me,ma,run_underlying hu];rw[na T];simp [je (Tabs.ld_spec hl),w9],rfl⟩
def pq(L:Tabs P)(j:Nat)(hn:Nat.blt d n=true)(hg:gK ops κ ⟨some d,.indexAddr t (.tmp q) y,ty,pos,aft,g⟩=some true)
  (hx:κ q=some (.sat (SlB cs e' len))) (hy:evK κ y=some (.int k p)) (ht:L.sl t=some e) (hl:L.ld e=some (ag,s)) (hj:p=j) (hi:j<len):
  StepOK P F B n ops O κ ⟨some d,.indexAddr t (.tmp q) y,ty,pos,aft,g⟩ d (.sat (At cs e' (j*s))):=
 ke rfl (by simpa using hn) hg At.mono fun a u H fp en=>by
  obtain⟨b,h1,hb⟩:=en.sat_ q _ (by simp [Op.operands]) hx;have h2:=en.is_ y _ (by simp [Op.operands]) hy;subst hj;have hu:=Tabs.sl_spec ht;refine⟨.pointer (some ⟨b,j*s,none⟩),?_,b,rfl,hb⟩;simp only[execOp,h1,h2,Instr.indexAt,nu,asIntOf,me,ma,run_underlying hu];rw[na T];simp [je (Tabs.ld_spec hl),w9]
def Yv(L:Tabs P)(hn:Nat.blt d n=true)(hg:gK ops κ ⟨some d,.call ⟨.builtin .len,#[.tmp q],#[tt]⟩,ty,pos,aft,g⟩=some true)(hx:κ q=some (.sat (SlB cs e' len)))(ht:L.sl tt=some e):
  StepOK P F B n ops O κ ⟨some d,.call ⟨.builtin .len,#[.tmp q],#[tt]⟩,ty,pos,aft,g⟩ d (.is (.int .i64 len)):=
 ke rfl (by simpa using hn) hg trivial fun a u H fp en=>⟨_,by
  obtain⟨b,h1,hb⟩:=en.sat_ q _ (by simp [Op.operands,Call.operands]) hx;simp [execOp,resolve,h1,invoke,builtin,Builtin.len_,run_underlying (Tabs.sl_spec ht),goInt],rfl⟩
def qu{ad:Addr}(hn:Nat.blt d n=true)(hg:gK ops κ ⟨some d,.nilCheck x,ty,pos,aft,g⟩=some true)(hx:evK κ x=some (.pointer (some ad))):
  StepOK P F B n ops O κ ⟨some d,.nilCheck x,ty,pos,aft,g⟩ d (.is (.pointer (some ad))):=
 ke rfl (by simpa using hn) hg trivial fun a u H fp en=>⟨_,by simp [execOp,en.is_ x _ (by simp [Op.operands]) hx],rfl⟩
def ji(x:Nat)(k:IntKind)(y:Nat)(c:BoundsCode)(h:x<=y)(w:World):(Instr.sliceBound (.int k x) y c).run P w=.ok x w:=by
 simp only[Instr.sliceBound,nu,asIntOf,me,ma];rw[na T];simp
def iv(L:Tabs P){s r:ByteArray}(i j:Nat){pl ph:Int}(hn:Nat.blt d n=true)(hg:gK ops κ ⟨some d,.slice tt x lo hi none,ty,pos,aft,g⟩=some true)(hx:evK κ x=some (.string s))(ht:L.st tt=some ())
  (hlo:match lo with | some y=>evK κ y=some (.int kl pl)/\pl=i | none=>i=0) (hhi:match hi with | some y=>evK κ y=some (.int kh ph)/\ph=j | none=>j=s.size) (hij:i<=j) (hjs:j<=s.size) (hr:s.extract i j=r):
  StepOK P F B n ops O κ ⟨some d,.slice tt x lo hi none,ty,pos,aft,g⟩ d (.is (.string r)):=
 ke rfl (by simpa using hn) hg trivial fun a u H fp en=>⟨_,by
  have h1:=en.is_ x _ (by simp [Op.operands]) hx;subst hr;have hu:=Tabs.st_spec ht
  cases lo with
  | none=>
   simp only at hlo;subst hlo
   cases hi with
   | none=>
    simp only at hhi;subst hhi;simp [execOp,h1,Instr.sliceAt,run_underlying hu,Instr.slice,Instr.sliceBounds]
   | some y=>
    obtain⟨hy,rfl⟩:=hhi;have h2:=en.is_ y _ (by simp [Op.operands]) hy;simp [execOp,h1,h2,Instr.sliceAt,run_underlying hu,Instr.slice,Instr.sliceBounds,ji j kh s.size _ hjs]
  | some z=>
   obtain⟨hz,rfl⟩:=hlo;have h3:=en.is_ z _ (by simp [Op.operands]) hz
   cases hi with
   | none=>
    simp only at hhi;subst hhi;simp [execOp,h1,h3,Instr.sliceAt,run_underlying hu,Instr.slice,Instr.sliceBounds,ji i kl _ _ hij]
   | some y=>
    obtain⟨hy,rfl⟩:=hhi;have h2:=en.is_ y _ (by simp [Op.operands]) hy;simp [execOp,h1,h2,h3,Instr.sliceAt,run_underlying hu,Instr.slice,Instr.sliceBounds,ji j kh s.size _ hjs,ji i kl j _ hij],rfl⟩
def zgw{q r:Int}(hn:Nat.blt d n=true)(hg:gK ops κ ⟨some d,.binOp .quo t x y t',ty,pos,aft,g⟩=some true)(hx:evK κ x=some (.int k p))(hy:evK κ y=some (.int k q))(h0:q≠0)(hb:k.wrap (p.tdiv q)=r):
  StepOK P F B n ops O κ ⟨some d,.binOp .quo t x y t',ty,pos,aft,g⟩ d (.is (.int k r)):=w7 hn hg hx hy fun u=>by subst hb;simp [eqGuard_quo,binOp_quo,Op.intDiv,h0]
def S0{q r:Int}(hn:Nat.blt d n=true)(hg:gK ops κ ⟨some d,.binOp .rem t x y t',ty,pos,aft,g⟩=some true)(hx:evK κ x=some (.int k p))(hy:evK κ y=some (.int k q))(h0:q≠0)(hb:p.tmod q=r):
  StepOK P F B n ops O κ ⟨some d,.binOp .rem t x y t',ty,pos,aft,g⟩ d (.is (.int k r)):=w7 hn hg hx hy fun u=>by subst hb;simp [eqGuard_rem,binOp_rem,Op.intDiv,h0]
def S6{q r:Int}(hn:Nat.blt d n=true)(hg:gK ops κ ⟨some d,.call ⟨.builtin .min,#[x,y],tts⟩,ty,pos,aft,g⟩=some true)
  (hx:evK κ x=some (.int k p)) (hy:evK κ y=some (.int k q)) (hr:(if q<p then q else p)=r):
  StepOK P F B n ops O κ ⟨some d,.call ⟨.builtin .min,#[x,y],tts⟩,ty,pos,aft,g⟩ d (.is (.int k r)):=
 ke rfl (by simpa using hn) hg trivial fun a u H fp e=>⟨_,by
  have h1:=e.is_ x _ (by simp [Op.operands,Call.operands]) hx;have h2:=e.is_ y _ (by simp [Op.operands,Call.operands]) hy;subst hr;simp [execOp,resolve,h1,h2,invoke,builtin,Builtin.min_,Builtin.min2],rfl⟩
def ikI(P:Program)(t:TypeId):Option IntKind:=match P.underlying t with | some (.int k)=>some k | _=>none
def kg{t t':TypeId}{k k':IntKind}{p r:Int}(hn:Nat.blt d n=true)(hg:gK ops κ ⟨some d,.convert t t' x,ty,pos,aft,g⟩=some true)(hx:evK κ x=some (.int k p))(h1:(P.underlying t).isSome=true)(h2:ikI P t'=some k')(hb:k'.wrap p=r):
  StepOK P F B n ops O κ ⟨some d,.convert t t' x,ty,pos,aft,g⟩ d (.is (.int k' r)):=
 ke rfl (by simpa using hn) hg trivial fun a u H fp e=>⟨_,by
  subst hb;have hv:=e.is_ x _ (by simp [Op.operands]) hx;obtain⟨ds,hds⟩:=zmc.1 h1
  have h3:P.underlying t'=some (.int k'):=by
   unfold ikI at h2;split at h2
   ·rename_i kk hk;cases h2;exact hk
   ·cases h2
  simp only[execOp,hv,convert,nu,run_underlying hds,run_underlying h3,ma,Conv.intToInt,me],rfl⟩
def Lr{f:Nat}{first cap:Array Operand}{fs cs:List Value}(hn:Nat.blt d n=true)(hg:gK ops κ ⟨some d,.makeFunc (.func f) first cap,ty,pos,aft,g⟩=some true)(h1:Xg κ first.toList=some fs)(h2:Xg κ cap.toList=some cs):
  StepOK P F B n ops O κ ⟨some d,.makeFunc (.func f) first cap,ty,pos,aft,g⟩ d (.is (.func (.func f) fs.toArray cs.toArray)):=
 ke rfl (by simpa using hn) hg trivial fun a u H fp e=>⟨_,by
  have key:∀ (xs:List Operand) (vs:List Value),(∀ x∈xs,x∈(Op.makeFunc (.func f) first cap).operands)->Xg κ xs=some vs->xs.map a.eval=vs:=by
   intro xs
   induction xs with
   | nil=>intro vs _ h;simp only[Xg] at h;cases h;rfl
   | cons x xs ih=>
    intro vs hx h;simp only[Xg] at h;split at h
    ·rename_i v vs' g1 g2;cases h;rw[mp,e.is_ x v (hx x (mb ..)) g1,ih vs' (fun y hy=>hx y (mc _ hy)) g2]
    ·cases h
  have k1:=key first.toList fs (fun x hx=>by simp [Op.operands];exact .inl (by simpa using hx)) h1;have k2:=key cap.toList cs (fun x hx=>by simp [Op.operands];exact .inr (by simpa using hx)) h2;have r1:first.map a.eval=fs.toArray:=by rw[<-k1,<-zlv,zm4]
  have r2:cap.map a.eval=cs.toArray:=by rw[<-k2,<-zlv,zm4]
  simp only[execOp,Instr.makeFunc,nu,me,ma];rw[r1,r2],rfl⟩
end
end Go.V
namespace Go.V
section
def Sy{t:Nat}(hd:o.dst=some d)(hn:Nat.blt d n=true)(hg:gK ops κ o=some true)(ht:Operand.tmp t∈o.op.operands)(hx:κ t=some (.sat φ))
  (hm:(∀ v H H',φ v H->Heap.Le H H'->φ v H')->Kn.mono (.sat ψ))
  (h:∀ a u H fp,Env F B O κ o a u H fp->φ (a.eval (.tmp t)) H->∃ v,(execOp a.eval o).run P u=.ok (.value v) u/\ψ v H):StepOK P F B n ops O κ o d (.sat ψ):=by
 rintro κ' a u hl ⟨H,fp,hh⟩;unfold After;rw[na (xf hh hl hg)];have hk':κ' t=some (.sat φ):=(hl t (pf ht)).trans hx;have e:=hh.env hl;obtain⟨v,hr,hv⟩:=h a u H fp e (e.sat_ t φ ht hx);rw[hr];simp only[Upon];rw[hd];exact⟨H,fp,hh.put (zn hn) (hm (hh.mono t _ hk')) hv⟩
def q0{t:Nat}(hn:Nat.blt d n=true)(hg:gK ops κ ⟨some d,.move (.tmp t),ty,pos,aft,g⟩=some true)(hx:κ t=some (.sat φ)):
  StepOK P F B n ops O κ ⟨some d,.move (.tmp t),ty,pos,aft,g⟩ d (.sat φ):=
 Sy rfl hn hg (by simp [Op.operands]) hx (fun h=>h) fun a u H fp e hp=>⟨_,by simp [execOp],hp⟩
def yj{t:Nat}(hn:Nat.blt d n=true)(hg:gK ops κ ⟨some d,.assign (.tmp t),ty,pos,aft,g⟩=some true)(hx:κ t=some (.sat φ)):
  StepOK P F B n ops O κ ⟨some d,.assign (.tmp t),ty,pos,aft,g⟩ d (.sat φ):=
 Sy rfl hn hg (by simp [Op.operands]) hx (fun h=>h) fun a u H fp e hp=>⟨_,by simp [execOp],hp⟩
def TupS(φs:List (Value->Heap->Prop)):Value->Heap->Prop:=fun v H=>∃ vs:List Value,v=.tuple vs.toArray/\vs.length=φs.length/\∀ (i:Nat) (φ:Value->Heap->Prop) (x:Value),φs[i]?=some φ->vs[i]?=some x->φ x H
def TupS.mono{φs:List (Value->Heap->Prop)}(h:∀ φ∈φs,Kn.mono (.sat φ)):Kn.mono (.sat (TupS φs)):=fun _ _ _ ⟨vs,hv,hl,hp⟩ hle=>
 ⟨vs,hv,hl,fun i φ x hi hx=>h φ (zln hi) x _ _ (hp i φ x hi hx) hle⟩
def eu{t i:Nat}(hn:Nat.blt d n=true)(hg:gK ops κ ⟨some d,.extract (.tmp t) i,ty,pos,aft,g⟩=some true)(hx:κ t=some (.sat (TupS φs)))(hi:φs[i]?=some φ)(hm:Kn.mono (.sat φ)):
  StepOK P F B n ops O κ ⟨some d,.extract (.tmp t) i,ty,pos,aft,g⟩ d (.sat φ):=
 Sy rfl hn hg (by simp [Op.operands]) hx (fun _=>hm) fun a u H fp e ⟨vs,hv,hl,hp⟩=>by
  have hlt:i<vs.length:=by
   rw[hl];rcases m5 i φs.length with h | h
   ·exact h
   ·rw[zld h] at hi;cases hi
  refine⟨vs[i],?_,hp i φ _ hi (zlh hlt)⟩;simp [execOp,hv,Instr.extract,hlt]
def A6{t i:Nat}{c:Value}(hn:Nat.blt d n=true)(hg:gK ops κ ⟨some d,.extract (.tmp t) i,ty,pos,aft,g⟩=some true)(hx:κ t=some (.sat (TupS φs)))(hi:φs[i]?=some (fun v _=>v=c)):
  StepOK P F B n ops O κ ⟨some d,.extract (.tmp t) i,ty,pos,aft,g⟩ d (.is c):=
 ke rfl (zn hn) hg trivial fun a u H fp e=>by
  obtain⟨vs,hv,hl,hp⟩:=e.sat_ t _ (by simp [Op.operands]) hx
  have hlt:i<vs.length:=by
   rw[hl];rcases m5 i φs.length with h | h
   ·exact h
   ·rw[zld h] at hi;cases hi
  refine⟨vs[i],?_,hp i _ _ hi (zlh hlt)⟩;simp [execOp,hv,Instr.extract,hlt]
def S9(L:Tabs P){s off:Nat}(hs:Src F B O κ x cs off)(hn:Nat.blt d n=true)(hg:gK ops κ ⟨some d,.load t x,ty,pos,aft,g⟩=some true)
  (hl:L.ld t=some (false,s)) (hc:cs[off]?=some v):StepOK P F B n ops O κ ⟨some d,.load t x,ty,pos,aft,g⟩ d (.is v):=by
 have hlt:off<cs.length:=by
  rcases m5 off cs.length with h | h
  ·exact h
  ·rw[zld h] at hc;cases hc
 refine qf L hs hn hg hl (r:=cs.drop (off+1)) ?_;rw[zl9 hlt];congr 1;rw[zlh hlt] at hc;exact Option.some.inj hc
def Tf(L:Tabs P){b:Option Addr}{l c:Nat}(hn:Nat.blt d n=true)(hg:gK ops κ ⟨some d,.call ⟨.builtin .cap,#[x],#[tt]⟩,ty,pos,aft,g⟩=some true)(hx:evK κ x=some (.slice b l c))(ht:L.sl tt=some e'):
  StepOK P F B n ops O κ ⟨some d,.call ⟨.builtin .cap,#[x],#[tt]⟩,ty,pos,aft,g⟩ d (.is (.int .i64 c)):=
 ke rfl (zn hn) hg trivial fun a u H fp e=>⟨_,by
  have h1:=e.is_ x _ (by simp [Op.operands,Call.operands]) hx;simp [execOp,resolve,h1,invoke,builtin,Builtin.cap_,run_underlying (Tabs.sl_spec ht),goInt],rfl⟩
def Ao{p q:Bool}(op:BinOp)(hu:P.underlying t=some .bool)(u:World):
  (do eqGuard op t x y (.bool p) (.bool q);binOp .eql t (.bool p) (.bool q):Sem Value).run P u=.ok (.bool (p == q)) u/\
  (do eqGuard op t x y (.bool p) (.bool q);binOp .neq t (.bool p) (.bool q):Sem Value).run P u=.ok (.bool (!(p == q))) u:=by
 have h:(Op.equal t (.bool p) (.bool q)).run P u=.ok (p == q) u:=run_equalIn_bool' u 9999 t p q hu;constructor
 ·rw[nu,eqGuard_at_bool];show Sem.run P (do pure (Value.bool (<-Op.equal t (.bool p) (.bool q))):Sem Value) u=_;rw[nu,h];rfl
 ·rw[nu,eqGuard_at_bool];show Sem.run P (do pure (Value.bool (!(<-Op.equal t (.bool p) (.bool q)))):Sem Value) u=_;rw[nu,h];rfl
def Ti{p q:Bool}(hn:Nat.blt d n=true)(hg:gK ops κ ⟨some d,.binOp .eql t x y t',ty,pos,aft,g⟩=some true)(hx:evK κ x=some (.bool p))(hy:evK κ y=some (.bool q))(hu:P.underlying t=some .bool)(hb:(p == q)=b):
  StepOK P F B n ops O κ ⟨some d,.binOp .eql t x y t',ty,pos,aft,g⟩ d (.is (.bool b)):=w7 hn hg hx hy fun u=>by subst hb;exact(Ao .eql hu u).1
def Tg{p q:Bool}(hn:Nat.blt d n=true)(hg:gK ops κ ⟨some d,.binOp .neq t x y t',ty,pos,aft,g⟩=some true)(hx:evK κ x=some (.bool p))(hy:evK κ y=some (.bool q))(hu:P.underlying t=some .bool)(hb:(!(p == q))=b):
  StepOK P F B n ops O κ ⟨some d,.binOp .neq t x y t',ty,pos,aft,g⟩ d (.is (.bool b)):=w7 hn hg hx hy fun u=>by subst hb;exact(Ao .neq hu u).2
def Ret.of_same{args:List Value}(hB:zpg B w)(h:Calls P f args.toArray w fun e w'=>e=.returned v/\w'=w):Ret P f args w B (fun x _=>x=v):=
 Calls.mono h fun _ _ ⟨he,hw⟩=>⟨v,he,B,by subst hw;exact Grow.refl hB,rfl⟩
def Ret.of_drawn{args:List Value}(hB:zpg B w)(h:Calls P f args.toArray w fun e w'=>e=.returned v/\∃ k,w'=w.drewN k):Ret P f args w B (fun x _=>x=v):=
 Calls.mono h fun _ _ ⟨he,k,hw⟩=>⟨v,he,B,by
  subst hw;have hd:∀ (k:Nat) (w:World),Below w.heap.size w (w.drewN k)/\(w.drewN k).heap=w.heap:=fun k w=>⟨⟨rfl,rfl,rfl,ns _,fun _ _=>rfl⟩,rfl⟩
  exact⟨Keep.of_below (hd k w).1 (Nat.le_add_right _ _),fun i o ho=>by show(w.drewN k).heap[i]?=some o;rw[(hd k w).2];exact hB i o ho,mo _,fun _ _ _=>rfl⟩,rfl⟩
end
end Go.V
namespace Go.V
def arI(P:Program)(t:TypeId):Option (Nat×Nat):=match P.underlying t with | some (.array n e)=>some (n,e) | _=>none
section
def Ox{m e:Nat}(h:arI P t=some (m,e)):P.underlying t=some (.array m e):=by
 unfold arI at h;split at h
 ·rename_i m' e' hu;cases h;exact hu
 ·cases h
def zfo(L:Tabs P){b:Nat}(j:Nat)(hn:Nat.blt d n=true)(hg:gK ops κ ⟨some d,.indexAddr t x y,ty,pos,aft,g⟩=some true)
  (hx:evK κ x=some (.pointer (some ⟨b,off,none⟩))) (hy:evK κ y=some (.int k p)) (ht:arI P t=some (len,e)) (hl:L.ld e=some (ag,s)) (hj:p=j) (hi:j<len):
  StepOK P F B n ops O κ ⟨some d,.indexAddr t x y,ty,pos,aft,g⟩ d (.is (.pointer (some ⟨b,off+j*s,none⟩))):=
 ke rfl (zn hn) hg trivial fun a u H fp en=>⟨_,by
  have h1:=en.is_ x _ (by simp [Op.operands]) hx;have h2:=en.is_ y _ (by simp [Op.operands]) hy;subst hj;have hu:=Ox ht;simp only[execOp,h1,h2,Instr.indexAt,Instr.sureAddr,nu,asIntOf,me,ma,run_underlying hu];rw[na T];simp [je (Tabs.ld_spec hl),w9],rfl⟩
def A5(L:Tabs P)(j:Nat)(hn:Nat.blt d n=true)(hg:gK ops κ ⟨some d,.indexAddr t (.tmp q) y,ty,pos,aft,g⟩=some true)
  (hx:κ q=some (.sat (At cs t' off))) (hy:evK κ y=some (.int k p)) (ht:arI P t=some (len,e)) (hl:L.ld e=some (ag,s)) (hj:p=j) (hi:j<len):
  StepOK P F B n ops O κ ⟨some d,.indexAddr t (.tmp q) y,ty,pos,aft,g⟩ d (.sat (At cs t' (off+j*s))):=
 ke rfl (zn hn) hg At.mono fun a u H fp en=>by
  obtain⟨b,h1,hb⟩:=en.sat_ q _ (by simp [Op.operands]) hx;have h2:=en.is_ y _ (by simp [Op.operands]) hy;subst hj;have hu:=Ox ht;refine⟨.pointer (some ⟨b,off+j*s,none⟩),?_,b,rfl,hb⟩;simp only[execOp,h1,h2,Instr.indexAt,Instr.sureAddr,nu,asIntOf,me,ma,run_underlying hu];rw[na T];simp [je (Tabs.ld_spec hl),w9]
end
def zjk{a b c a' b' c':ByteArray}{v:Bool}(h:decide (a=a'/\b=b'/\c=c')=v):ay [0,0,0] [.string a,.string b,.string c] [.string a',.string b',.string c']=some v:=by
 subst h;simp [ay,eqC]
end Go.V
namespace Go.V
def Dp{z:Int}(h1:0<=z)(h2:z<=255):IntKind.u8.wrap z=z:=IntWalk.u8_in z ⟨h1,h2⟩
def wrap_u64{z:Int}(h1:0<=z)(h2:z<=18446744073709551615):IntKind.u64.wrap z=z:=IntWalk.u64_in z ⟨h1,h2⟩
def elI(P:Program)(e:TypeId):Option (Nat×Nat):=match P.info? e with
 | some i=>match i.zero with
  | some z=>if z.cells.size=i.size/\0<i.size then some (i.size,i.bytes) else none
  | none=>none
 | none=>none
def w8{s by_:Nat}(h:elI P e=some (s,by_)):∃ i z,P.info? e=some i/\i.zero=some z/\i.size=s/\i.bytes=by_/\z.cells.size=s/\0<s:=by
 unfold elI at h;split at h
 ·rename_i i hi;split at h
  ·rename_i z hz;split at h
   ·rename_i hc;cases h;exact⟨i,z,hi,hz,rfl,rfl,hc.1,hc.2⟩
   ·cases h
  ·cases h
 ·cases h
def g7(h:vj v=true):v.oneCell'=true:=by cases v<;>first | rfl | cases h
def SlV(_:TypeId)(s:Nat)(xs:List Value)(n:Nat)(fu:Bool):Value->Heap->Prop:=fun v H=>xs.length=n*s/\
 ((n=0/\∃ p,v=.slice p 0 0)\/∃ b off cap cs ty0 fr,v=.slice (some ⟨b,off,none⟩) n cap/\H b=some (.cells cs ty0 fr)/\(cs.toList.drop off).take xs.length=xs/\n<=cap/\(fu=true->cap=n))
def SlV.mono:Kn.mono (.sat (SlV e s xs n fu)):=fun _ _ _ ⟨hl,h⟩ hle=>⟨hl,by
 rcases h with h | ⟨b,off,cap,cs,ty0,fr,h1,h2,h3⟩
 ·exact .inl h
 ·exact .inr ⟨b,off,cap,cs,ty0,fr,h1,hle _ _ h2,h3⟩⟩
abbrev _root_.Go.V.nw:=@SlV.mono
def SlV.le(h:SlV e s xs n fu v H)(hle:H.Le H'):SlV e s xs n fu v H':=nw _ _ _ h hle
def SlV.nofu{s n:Nat}(h:SlV e s xs n fu v H):SlV e s xs n false v H:=⟨h.1,by
 rcases h.2 with h | ⟨b,off,cap,cs,ty0,fr,h1,h2,h3,h4,_⟩
 ·exact .inl h
 ·exact .inr ⟨b,off,cap,cs,ty0,fr,h1,h2,h3,h4,fun h=>by cases h⟩⟩
def SlB.toV(h:SlB xs e n v H)(hl:xs.length=n*s):SlV e s xs n true v H:=
 let ⟨b,h1,h2⟩:=h;⟨hl,.inr ⟨b,0,n,_,_,(0,0),h1,h2,by simp,ns _,fun _=>rfl⟩⟩
def SlV.nil:SlV e s [] 0 fu (.slice none 0 0) H:=⟨by simp,.inl ⟨rfl,_,rfl⟩⟩
def AtP(ys:List Value):Value->Heap->Prop:=fun v H=>∃ b off cs t fr,v=.pointer (some ⟨b,off,none⟩)/\H b=some (.cells cs t fr)/\(cs.toList.drop off).take ys.length=ys
def AtP.mono:Kn.mono (.sat (AtP ys)):=fun _ _ _ ⟨b,off,cs,t,fr,h1,h2,h3⟩ hle=>⟨b,off,cs,t,fr,h1,hle _ _ h2,h3⟩
def AtP.drop{ys:List Value}{off:Nat}{cs:Array Value}(k:Nat)(h:(cs.toList.drop off).take ys.length=ys):(cs.toList.drop (off+k)).take (ys.drop k).length=ys.drop k:=by
 have:=nh (List.drop k) h;rw[List.drop_take,zlz] at this;rw[m7];exact this
def AtP.get{ys:List Value}{off j:Nat}{cs:List Value}(h:(cs.drop off).take ys.length=ys)(hj:ys[j]?=some v):cs[off+j]?=some v:=by
 have hlt:j<ys.length:=by
  rcases m5 j ys.length with h | h
  ·exact h
  ·rw[zld h] at hj;cases hj
 have:=nh (·[j]?) h;simp only[zmv hlt,zlo] at this;rw[this];exact hj
section
def yf(L:Tabs P)(hn:Nat.blt d n=true)(hg:gK ops κ ⟨some d,.call ⟨.builtin .len,#[.tmp q],#[tt]⟩,ty,pos,aft,g⟩=some true)(hx:κ q=some (.sat (SlV e' s xs m fu)))(ht:L.sl tt=some e):
  StepOK P F B n ops O κ ⟨some d,.call ⟨.builtin .len,#[.tmp q],#[tt]⟩,ty,pos,aft,g⟩ d (.is (.int .i64 m)):=
 ke rfl (zn hn) hg trivial fun a u H fp en=>⟨_,by
  obtain⟨_,⟨rfl,p0,h1⟩ | ⟨b,off,cap,cs,ty0,fr,h1,_⟩⟩:=en.sat_ q _ (by simp [Op.operands,Call.operands]) hx
  ·simp [execOp,resolve,h1,invoke,builtin,Builtin.len_,run_underlying (Tabs.sl_spec ht),goInt]
  ·simp [execOp,resolve,h1,invoke,builtin,Builtin.len_,run_underlying (Tabs.sl_spec ht),goInt],rfl⟩
def yd(L:Tabs P)(j:Nat)(hn:Nat.blt d n=true)(hg:gK ops κ ⟨some d,.indexAddr t (.tmp q) y,ty,pos,aft,g⟩=some true)
   (eqs:(κ q,evK κ y,L.sl t,L.ld e)=(some (.sat (SlV e' s xs m fu)),some (.int k p),some e,some (ag,s))) (hj:p=j) (hi:j<m) (hys:(xs.drop (j*s)).take s=ys):
  StepOK P F B n ops O κ ⟨some d,.indexAddr t (.tmp q) y,ty,pos,aft,g⟩ d (.sat (AtP ys)):=have⟨hx,hy,ht,hl⟩:=EQ4 eqs;ke rfl (zn hn) hg AtP.mono fun a u H fp en=>by
  have h2:=en.is_ y _ (by simp [Op.operands]) hy;subst hj;have hu:=Tabs.sl_spec ht;obtain⟨hlen,⟨rfl,p0,h1⟩ | ⟨b,off,cap,cs,ty0,fr,h1,hb,hr,_,_⟩⟩:=en.sat_ q _ (by simp [Op.operands]) hx
  ·omega
  ·refine⟨.pointer (some ⟨b,off+j*s,none⟩),?_,b,off+j*s,cs,_,fr,rfl,hb,?_⟩
   ·simp only[execOp,h1,h2,Instr.indexAt,nu,asIntOf,me,ma,run_underlying hu];rw[na T];simp [je (Tabs.ld_spec hl),w9]
   ·have h3:=AtP.drop (j*s) hr
    have hsz:(xs.drop (j*s)).length>=s:=by
     rw[m7,hlen,<-Nat.sub_mul];exact Nat.le_mul_of_pos_left _ T
    have h4:=nh (List.take s) h3;rw[List.take_take,zmq hsz,hys] at h4;have hyl:ys.length=s:=by rw[<-hys,mi];omega
    rw[hyl];exact h4
def Cu(L:Tabs P){t:Nat}{st:TypeId}{fo:Nat}(hx:κ t=some (.sat (AtP ys)))(hn:Nat.blt d n=true)(hg:gK ops κ ⟨some d,.fieldAddr st (.tmp t) i,ty,pos,aft,g⟩=some true)
  (hf:L.fo st i=some fo):StepOK P F B n ops O κ ⟨some d,.fieldAddr st (.tmp t) i,ty,pos,aft,g⟩ d (.sat (AtP (ys.drop fo))):=
 ke rfl (zn hn) hg AtP.mono fun a u H fp e=>by
  obtain⟨fs,f,j,h1,h2,h3,h4,h5⟩:=Tabs.fo_spec hf;obtain⟨b,off,cs,t',fr,hv,hb,hr⟩:=e.sat_ t _ (by simp [Op.operands]) hx;refine⟨.pointer (some ⟨b,off+fo,none⟩),?_,b,off+fo,cs,t',fr,rfl,hb,AtP.drop fo hr⟩;simp only[execOp,hv,Instr.fieldAt,nu,run_underlying h1,ma,h2,Instr.sureAddr,me,l9 h3 h4];simp [Addr.add,h5]
def Gx(L:Tabs P){r:List Value}(hx:κ q=some (.sat (AtP ys)))(hn:Nat.blt d n=true)(hg:gK ops κ ⟨some d,.load t (.tmp q),ty,pos,aft,g⟩=some true)
  (hl:L.ld t=some (false,s)) (hc:ys=v::r):StepOK P F B n ops O κ ⟨some d,.load t (.tmp q),ty,pos,aft,g⟩ d (.is v):=
 ke rfl (zn hn) hg trivial fun a u H fp e=>⟨v,by
  obtain⟨b,off,cs,t',fr,hv,hb,hr⟩:=e.sat_ q _ (by simp [Op.operands]) hx;have h2:=e.sub _ _ hb;have h3:=AtP.get (j:=0) hr (by rw[hc];rfl);simp only[execOp,hv,Instr.loadAt,Instr.sureAddr,nu,me,ma];rw[uz (Tabs.ld_spec hl) u _ v (by rw[kf h2];simpa using h3)];rfl,rfl⟩
def yk(L:Tabs P){q:Nat}{s:Nat}{ys vs:List Value}(hx:κ q=some (.sat (AtP ys)))(hn:Nat.blt d n=true)(hg:gK ops κ ⟨some d,.load t (.tmp q),ty,pos,aft,g⟩=some true)
  (hl:L.ld t=some (true,s)) (hlen:vs.length=s) (hc:∃ r,ys=vs++r):StepOK P F B n ops O κ ⟨some d,.load t (.tmp q),ty,pos,aft,g⟩ d (.is (.agg vs.toArray)):=
 ke rfl (zn hn) hg trivial fun a u H fp e=>⟨_,by
  obtain⟨b,off,cs,t',fr,hv,hb,hr⟩:=e.sat_ q _ (by simp [Op.operands]) hx;obtain⟨r,hc⟩:=hc;have h2:=e.sub _ _ hb;simp only[execOp,hv,Instr.loadAt,Instr.sureAddr,nu,me,ma]
  rw[wm (Tabs.ld_spec hl) u _ vs hlen (fun j v hj=>by
   have h3:=AtP.get (j:=j) hr (by
    rw[hc,zl2 (by
     rcases m5 j vs.length with h | h
     ·exact h
     ·rw[zld h] at hj;cases hj)]
    exact hj)
   rw[w9,kf h2];simpa using h3)]
  rfl,rfl⟩
def jj(L:Tabs P){q:Nat}{tt e:TypeId}{s m:Nat}{xs ys:List Value}{fu:Bool}{lo hi mx:Option Operand}{kl kh km:IntKind}{ag:Bool}(i j:Nat){pl ph pm:Int}(fu':Bool)(hn:Nat.blt d n=true)(hg:gK ops κ ⟨some d,.slice tt (.tmp q) lo hi mx,ty,pos,aft,g⟩=some true)
  (hx:κ q=some (.sat (SlV e s xs m fu))) (ht:L.sl tt=some e) (hl:L.ld e=some (ag,s))
  (hlo:match lo with | some y=>evK κ y=some (.int kl pl)/\pl=i | none=>i=0) (hhi:match hi with | some y=>evK κ y=some (.int kh ph)/\ph=j | none=>j=m/\mx=none) (hmx:match mx with | some y=>evK κ y=some (.int km pm)/\pm=j | none=>fu'=true->fu=true/\j=m)
  (hij:i<=j) (hjs:j<=m) (hys:(xs.drop (i*s)).take ((j-i)*s)=ys):
  StepOK P F B n ops O κ ⟨some d,.slice tt (.tmp q) lo hi mx,ty,pos,aft,g⟩ d (.sat (SlV e s ys (j-i) fu')):=
 ke rfl (zn hn) hg nw fun a u H fp en=>by
  have hu:=Tabs.sl_spec ht;obtain⟨hlen,hv⟩:=en.sat_ q _ (by simp [Op.operands]) hx
  have hyl:ys.length=(j-i)*s:=by
   rw[<-hys,mi,m7,hlen,<-Nat.sub_mul];exact zmq (zmf _ T)
  have hb:∀ cap:Nat,m<=cap->∃ cap',j<=cap'/\cap'<=cap/\(mx=none->cap'=cap)/\(mx≠none->cap'=j)/\
    (Instr.sliceBounds true m cap (lo.map a.eval) (hi.map a.eval) (mx.map a.eval)).run P u=.ok (i,j,cap') u:=fun cap hcap=>by
   cases mx with
   | none=>
    refine⟨cap,by omega,ns _,fun _=>rfl,fun h=>ni Z h,?_⟩
    cases hi with
    | none=>
     obtain⟨rfl,_⟩:=hhi
     cases lo with
     | none=>simp only at hlo;subst hlo;simp [Instr.sliceBounds]
     | some z=>
      obtain⟨hz,rfl⟩:=hlo;have h3:=en.is_ z _ (by simp [Op.operands]) hz;simp [h3,Instr.sliceBounds,ji i kl _ _ hij]
    | some y=>
     obtain⟨hy,rfl⟩:=hhi;have h2:=en.is_ y _ (by simp [Op.operands]) hy
     cases lo with
     | none=>simp only at hlo;subst hlo;simp [h2,Instr.sliceBounds,ji j kh cap _ T]
     | some z=>
      obtain⟨hz,rfl⟩:=hlo;have h3:=en.is_ z _ (by simp [Op.operands]) hz;simp [h2,h3,Instr.sliceBounds,ji j kh cap _ T,ji i kl _ _ hij]
   | some x=>
    refine⟨j,ns _,by omega,fun h=>(by cases h),fun _=>rfl,?_⟩;obtain⟨hx',rfl⟩:=hmx;have h1:=en.is_ x _ (by simp [Op.operands]) hx'
    cases hi with
    | none=>cases hhi.2
    | some y=>
     obtain⟨hy,rfl⟩:=hhi;have h2:=en.is_ y _ (by simp [Op.operands]) hy
     cases lo with
     | none=>simp only at hlo;subst hlo;simp [h1,h2,Instr.sliceBounds,ji j km cap _ T,ji j kh j _ (ns _)]
     | some z=>
      obtain⟨hz,rfl⟩:=hlo;have h3:=en.is_ z _ (by simp [Op.operands]) hz;simp [h1,h2,h3,Instr.sliceBounds,ji j km cap _ T,ji j kh j _ (ns _),ji i kl _ _ hij]
  rcases hv with ⟨rfl,p0,h1⟩ | ⟨b,off,cap,cs,ty0,fr,h1,hbk,hr,hc,hfu⟩
  ·obtain rfl:j=0:=by omega
   obtain rfl:i=0:=by omega
   obtain⟨cap',_,h3,_,_,hrun⟩:=hb 0 (ns _);obtain rfl:cap'=0:=by omega
   refine⟨.slice p0 0 0,?_,hyl,.inl ⟨rfl,_,rfl⟩⟩
   cases p0 with
   | none=>
    simp only[execOp,h1,Instr.sliceAt,Instr.slice,nu,run_underlying hu,ma,hrun,je (Tabs.ld_spec hl)];rfl
   | some p0=>
    simp only[execOp,h1,Instr.sliceAt,Instr.slice,nu,run_underlying hu,ma,hrun,je (Tabs.ld_spec hl),me];rfl
  ·obtain⟨cap',h2,h3,h4,h5,hrun⟩:=hb cap hc
   have hfull:fu'=true->cap'-i=j-i:=fun hf=>by
    cases mx with
    | none=>
     obtain⟨g1,g2⟩:=hmx hf;rw[h4 rfl,hfu g1,g2]
    | some x=>rw[h5 (by simp)]
   have hrd:∀ o2,(o2=off+i*s\/j-i=0)->(cs.toList.drop o2).take ys.length=ys:=fun o2 ho=>by
    rcases ho with rfl | h0
    ·have h6:=AtP.drop (i*s) hr;have h7:=nh (List.take ys.length) h6;rw[List.take_take,zmq (by rw[hyl,m7,hlen,<-Nat.sub_mul];exact zmf _ T)] at h7;rw[h7,hyl,hys]
    ·have:ys=[]:=mz (by rw[hyl,h0];simp);subst this;simp
   refine⟨.slice (some (if cap'=i then ⟨b,off,none⟩ else ⟨b,off+i*s,none⟩)) (j-i) (cap'-i),?_,hyl,.inr ?_⟩
   ·simp only[execOp,h1,Instr.sliceAt,Instr.slice,nu,run_underlying hu,ma,hrun,je (Tabs.ld_spec hl),me];congr 3;split<;>simp [Addr.add]
   ·split
    ·exact⟨b,off,cap'-i,cs,_,fr,rfl,hbk,hrd _ (.inr T),by omega,fun hf=>hfull hf⟩
    ·exact⟨b,off+i*s,cap'-i,cs,_,fr,rfl,hbk,hrd _ (.inl Z),by omega,fun hf=>hfull hf⟩
def Yw(L:Tabs P){z:Operand}{km:IntKind}(hn:Nat.blt d n=true)(hg:gK ops κ ⟨some d,.slice tt (.tmp q) none (some y) (some z),ty,pos,aft,g⟩=some true)
  (hx:κ q=some (.sat (SlV e s xs m fu))) (ht:L.sl tt=some e) (hl:L.ld e=some (ag,s)) (hy:evK κ y=some (.int kh m)) (hz:evK κ z=some (.int km m)):
  StepOK P F B n ops O κ ⟨some d,.slice tt (.tmp q) none (some y) (some z),ty,pos,aft,g⟩ d (.sat (SlV e s xs m true)):=by
 intro κ' a u hlk hh
 have hlen:xs.length=m*s:=by
  obtain⟨H,fp,h⟩:=hh;exact(h.slot q _ ((hlk q (pf (by simp [Op.operands]))).trans hx)).1
 exact jj L (kl:=.i64) (pl:=0) 0 m true hn hg hx ht hl Z ⟨hy,rfl⟩ ⟨hz,rfl⟩ (mf _) (ns _) (by rw[Nat.zero_mul,zl7,zmu,zle T]) κ' a u hlk hh
def Has.imp{t:Nat}{φ ψ:Value->Heap->Prop}(hk:κ t=some (.sat φ))(hm:Kn.mono (.sat ψ))(hi:∀ v H,φ v H->ψ v H)(h:Has F B O n κ a u):Has F B O n (upd κ t (.sat ψ)) a u:=by
 obtain⟨H,fp,h⟩:=h;refine⟨H,fp,h.size,h.defers,h.nodup,h.marks,h.lent,h.keep,h.sub,h.base,h.fresh,h.boxes,h.apart,fun s k hs=>?_,fun s q r1 r2 hsq h1 h2=>?_,fun s k hs=>?_⟩
 ·by_cases hst:s=t
  ·subst hst;rw[xj] at hs;cases hs;exact hi _ _ (h.slot s _ hk)
  ·rw[xd _ _ hst] at hs;exact h.slot s k hs
 ·have key:∀ x r,upd κ t (.sat ψ) x=some (.own r)->κ x=some (.own r):=fun x r hx=>by
   by_cases hxd:x=t
   ·subst hxd;rw[xj] at hx;cases hx
   ·rw[xd _ _ hxd] at hx;exact hx
  exact h.owns s q r1 r2 hsq (key _ _ h1) (key _ _ h2)
 ·by_cases hst:s=t
  ·subst hst;rw[xj] at hs;cases hs;exact hm
  ·rw[xd _ _ hst] at hs;exact h.mono s k hs
def zbs(t:Nat)(ψ:Value->Heap->Prop)(hk:κ t=some (.sat φ))(hm:Kn.mono (.sat ψ))(hi:∀ v H,φ v H->ψ v H)(h:V P F B n O (upd κ t (.sat ψ)) c zpf):V P F B n O κ c zpf:=fun a u hh=>h a u (hh.imp hk hm hi)
end
end Go.V
namespace Go.V
def SlR(e:TypeId)(s n:Nat)(xs:List Value):Res where
 P x _ u C:=xs.length=n*s/\((n=0/\x=.slice none 0 0/\∀ k,¬ C k)\/
  ∃ b cap rest,x=.slice (some ⟨b,0,none⟩) n cap/\u.heap[b]?=some (.cells (xs++rest).toArray e)/\n<=cap/\cap<=maxLen/\(xs++rest).length=cap*s/\∀ k,C k↔k=b)
 st:=fun⟨hl,h⟩ _ _ _ hk=>⟨hl,by
  rcases h with h | ⟨b,cap,rest,h1,h2,h3,h4,h5,h6⟩
  ·exact .inl h
  ·exact .inr ⟨b,cap,rest,h1,(hk b ((h6 b).2 rfl)).trans h2,h3,h4,h5,h6⟩⟩
section
def wh(P:Program)(F:Fr)(B:Heap)(n:Nat)(ops:Array Oper)(O:Boxes)(κ:Kap)(o:Oper)(s:Nat)(k1:Kn)(d:Nat)(k2:Kn):Prop:=
 ∀ κ' a u,(∀ t∈o.looksAt ops,κ' t=κ t)->κ' s=κ s->Has F B O n κ' a u->After P ops o (fun a' u'=>Has F B O n (upd (upd κ' s k1) d k2) a' u') a u
def zy{k1 k2:Kn}(hs:wh P F B n ops O κ o s k1 d k2)(h:VO P F B n O ops (upd (upd κ s k1) d k2) os zpf):VO P F B n O ops κ (o::os) zpf:=
 fun a u hh=>After.mono (fun a' u' hh'=>h a' u' hh') (hs κ a u (fun _ _=>rfl) rfl hh)
def xw{k1 k2:Kn}(hs:wh P F B n ops O κ o s k1 d k2)(hd:vd o=some d)(he:(exO ex o).contains s=true)(h:Par P F B n O ops ex (upd (upd κ s k1) d k2) os zpf):Par P F B n O ops ex κ (o::os) zpf:=by
 have hm:s∈exO ex o:=by simpa using he
 refine⟨[(s,k1),(d,k2)],fun p hp=>?_,fun κ' a u hl hh=>hs κ' a u (fun t ht=>hl t (zlt _ ht)) (hl s (zma _ (zlt _ hm))) hh,h⟩;simp only[nz,zmw,or_false] at hp;rcases hp with rfl | rfl
 ·exact zma _ hm
 ·exact zlt _ (by simp [hd])
def Has.nilR{t:Nat}(e:TypeId)(s:Nat)(hk:κ t=some (.is (.slice none 0 0)))(h:Has F B O n κ a u):Has F B O n (upd κ t (.own (SlR e s 0 []))) a u:=by
 obtain⟨H,fp,h⟩:=h;exact⟨H,_,h.putR (C:=noL) Z Z (fun _ _=>rfl) ⟨by simp,.inl ⟨rfl,h.slot t _ hk,fun _ h=>h⟩⟩ (fun _ h=>h.elim) fun _ _ _ _ _ _ h=>h⟩
def gh(t:Nat)(e:TypeId)(s:Nat)(hk:κ t=some (.is (.slice none 0 0)))(h:V P F B n O (upd κ t (.own (SlR e s 0 []))) c zpf):V P F B n O κ c zpf:=fun a u hh=>h a u (hh.nilR e s hk)
def Yu(L:Tabs P){kc:IntKind}(c:Nat)(hn:Nat.blt d n=true)(hg:gK ops κ ⟨some d,.makeSlice t x y,ty,pos,aft,g⟩=some true)(ht:L.sl t=some e)(he:elI P e=some (s,by_))
  (hx:evK κ x=some (.int kl 0)) (hy:evK κ y=some (.int kc p)) (hp:p=c) (hb:by_*c<=281474976710656) (hc:c<=maxLen):StepOK P F B n ops O κ ⟨some d,.makeSlice t x y,ty,pos,aft,g⟩ d (.own (SlR e s 0 [])):=by
 rintro κ' a u hl ⟨H,fp,hh⟩;unfold After;rw[na (xf hh hl hg)];have en:=hh.env hl;obtain⟨i,z,hi,hz,hs1,hs2,hs3,hs4⟩:=w8 he;have h1:=en.is_ x _ (by simp [Op.operands]) hx;have h2:=en.is_ y _ (by simp [Op.operands]) hy;subst hp
 have hb':(i.bytes:Int)*(c:Int)<=281474976710656:=by
  have h:((by_*c:Nat):Int)<=281474976710656:=T;rw[hs2];rwa [Int.natCast_mul] at h
 have h63:(c:Int)<=9223372036854775807:=by simp [maxLen] at hc;omega
 have hr:=run_make (P:=P) u t e i z (Tabs.sl_spec ht) hi hz kl kc 0 c (zm5 _) T hb' h63;simp only[Int.toNat_zero,zlp] at hr
 have hrun:(execOp a.eval ⟨some d,.makeSlice t x y,ty,pos,aft,g⟩).run P u=.ok (.value (.slice (some ⟨u.heap.size,0,none⟩) 0 c)) (u.alloc (.cells (madeCells z.cells (c*i.size)) e)):=by
  simp only[execOp,h1,h2,nu,hr,ma];rfl
 rw[hrun];simp only[Upon];have hg2:=hh.grow (Grow.hid hh.sub (.cells (madeCells z.cells (c*i.size)) e));refine⟨H,_,hg2.putR (C:=fun k=>k=u.heap.size) (by simp [Act.put]) Z (fun t ht=>xn ht) ⟨by simp,.inr ⟨u.heap.size,c,(madeCells z.cells (c*i.size)).toList,xx (by rw[hh.size];exact zn hn),by rw[xu];simp,mf _,hc,by simp [size_madeCells,hs1],fun _=>Iff.rfl⟩⟩ (fun k hk=>?_) fun t r' _ ht k hf hk=>?_⟩
 ·subst hk;exact⟨xb (xu u _),k7 hh.sub (ns _),.inl hh.keep.size,fun y hy e=>by have:=xb (hh.boxes y hy).1;omega⟩
 ·have:=((hh.slot t _ ht).2 k hf).1;omega
def Apd(F:Fr)(B:Heap)(O:Boxes)(κ:Kap)(y:Operand)(m:Nat)(news:List Value):Prop:=
 ∀ (o:Oper) (a:Act) (u:World) (H:Heap) (fp:Nat->Nat->Prop),y∈o.op.operands->Env F B O κ o a u H fp->
  (m=0/\news=[]/\∃ l c,a.eval y=.slice none l c/\l=0)\/∃ ad c,a.eval y=.slice (some ad) m c/\∀ j v,news[j]?=some v->u.cell? (ad.add j)=some v
def az(h:κ q=some (.sat (SlB xs e m))):Apd F B O κ (.tmp q) m xs:=fun _ _ u _ _ hy en=>by
 obtain⟨b,h1,h2⟩:=en.sat_ q _ hy h;exact .inr ⟨_,_,h1,fun j v hj=>by rw[w9,kf (en.sub _ _ h2)];simpa using hj⟩
def V2{q:Nat}{s m:Nat}(h:κ q=some (.sat (SlV e s xs m fu))):Apd F B O κ (.tmp q) m xs:=fun _ _ u _ _ hy en=>by
 obtain⟨hl,⟨rfl,p0,h1⟩ | ⟨b,off,cap,cs,ty0,fr,h1,h2,h3,_⟩⟩:=en.sat_ q _ hy h
 ·have hx:xs=[]:=mz (by simpa using hl)
  cases p0 with
  | none=>exact .inl ⟨rfl,hx,0,0,h1,rfl⟩
  | some ad=>exact .inr ⟨ad,0,h1,fun j v hj=>by subst hx;cases hj⟩
 ·exact .inr ⟨_,_,h1,fun j v hj=>by rw[w9,kf (en.sub _ _ h2)];simpa using AtP.get h3 hj⟩
def By(u:World){t e:TypeId}{aty:TypeId}{i:TypeInfo}{z:Value}{s by_:Nat}(ht:P.underlying t=some (.slice e))(hi:P.info? e=some i)(hz:i.zero=some z)(hs1:i.size=s)(hs2:i.bytes=by_)(hs3:z.cells.size=s)(hs4:0<s)
  {x y:Value}   {nn m:Nat} {xs news:List Value} (hsub:zpg H u) (hown:(SlR e s nn xs).P x H u C) (hlt:ZCB C u H) (hy:(m=0/\news=[]/\∃ l c,y=.slice none l c/\l=0)\/∃ ad c,y=.slice (some ad) m c/\∀ j v,news[j]?=some v->u.cell? (ad.add j)=some v)
  (hl:news.length=m*s) (h1:∀ v∈news,v.oneCell'=true) (h63:nn+m<=9223372036854775807) (hb:(nn+m)*by_<=140737488355328):
  ∃ x' u' C',(Builtin.append_ #[t,t] aty #[x,y]).run P u=.ok x' u'/\(SlR e s (nn+m) (xs++news)).P x' H u' C'/\Grow C u H u' H/\∀ k,C' k->(C k\/u.heap.size<=k)/\k<u'.heap.size/\H k=none:=by
 have hmx:nn+m<=maxLen:=by simp only[maxLen];omega
 obtain⟨hxl,hown⟩:=hown;have hlen:(xs++news).length=(nn+m)*s:=by rw[nr,hxl,hl,zl6]
 have hdrew:∀ o:Obj,Grow C u H (u.drew.alloc o) H:=fun o=>⟨⟨rfl,rfl,rfl,by simp,fun k hk _=>jq u.drew _ hk,zl1 _⟩,fun k v hv=>by
  have:=hsub.size hv;show(u.drew.alloc o).heap[k]?=some v;rw[jq u.drew _ this];exact hsub k v hv,mo _,fun _ _ _=>rfl⟩
 have hnew:∀ (o:Obj) (k:Nat),k=u.heap.size->(C k\/u.heap.size<=k)/\k<(u.drew.alloc o).heap.size/\H k=none:=fun o k hk=>by
  subst hk;exact⟨.inr (ns _),by simp,k7 hsub (ns _)⟩
 have grown:∀ (old:Nat),old<nn+m->∀ vs:List Value,vs.length=nn*s->vs=xs->
   (SlR e s (nn+m) (xs++news)).P (.slice (some ⟨u.heap.size,0,none⟩) (nn+m) (grownCap u (nn+m) old e)) H (u.drew.alloc (.cells (vs.toArray++news.toArray++Builtin.zeroCells z.cells (grownCap u (nn+m) old e-(nn+m))) e)) (fun k=>k=u.heap.size):=by
  rintro old ho vs hvs rfl;have hge:=grownCap_ge u (nn+m) old e;refine⟨hlen,.inr ⟨u.heap.size,_,(Builtin.zeroCells z.cells (grownCap u (nn+m) old e-(nn+m))).toList,rfl,?_,hge,grownCap_le_maxLen u (nn+m) old e hmx,?_,fun _=>Iff.rfl⟩⟩
  ·have:=heap_alloc_new u.drew (.cells (vs.toArray++news.toArray++Builtin.zeroCells z.cells (grownCap u (nn+m) old e-(nn+m))) e);have h2:(u.drew.alloc (.cells (vs.toArray++news.toArray++Builtin.zeroCells z.cells (grownCap u (nn+m) old e-(nn+m))) e)).heap[u.heap.size]?=some (.cells (vs.toArray++news.toArray++Builtin.zeroCells z.cells (grownCap u (nn+m) old e-(nn+m))) e):=this;rw[h2];congr 2;apply Array.ext';simp
  ·rw[nr,hlen,zlw,size_zeroCells,hs3,<-zl6];congr 1;omega
 subst hs1;subst hs2;rcases hown with ⟨rfl,rfl,hC⟩ | ⟨b,cap,rest,rfl,hbk,hnc,hcm,hcl,hC⟩
 ·have hx:xs=[]:=mz (by simpa using hxl);subst hx;rcases hy with ⟨rfl,rfl,l,c,rfl,rfl⟩ | ⟨ad,c,rfl,hnews⟩
  ·refine⟨.slice none 0 0,u,noL,?_,⟨by simp,.inl ⟨rfl,rfl,fun _ h=>h⟩⟩,⟨Keep.refl _ _,hsub,mo _,fun _ _ _=>rfl⟩,fun _ h=>h.elim⟩;simp [Builtin.append_,run_underlying ht,sizeOf,typeInfo,hi,Builtin.lenOf,Builtin.firstCells]
  ·by_cases hm:m=0
   ·subst hm;have hn:news=[]:=mz (by simpa using hl);subst hn;refine⟨.slice none 0 0,u,noL,?_,⟨by simp,.inl ⟨rfl,rfl,fun _ h=>h⟩⟩,⟨Keep.refl _ _,hsub,mo _,fun _ _ _=>rfl⟩,fun _ h=>h.elim⟩;simp [Builtin.append_,run_underlying ht,sizeOf,typeInfo,hi,Builtin.lenOf,Builtin.firstCells,loadCells,loadCellsFrom]
   ·have hr:=run_append_nil (P:=P) u t aty e i z ht hi hz ad m c news hl hnews T T (by simp only[zlb] at hb;omega);have hgr:=grown 0 T [] (by simp) rfl;simp only[zlb,mh,Array.empty_append] at hgr |-;exact⟨_,_,_,hr,hgr,hdrew _,fun k hk=>hnew _ k hk⟩
 ·have hbl:=hlt b ((hC b).2 rfl)
  have holds:∀ j v,xs[j]?=some v->u.cell? ((⟨b,0,none⟩:Addr).add j)=some v:=fun j v hj=>by
   rw[w9,zlb,kf hbk]
   have hlt:j<xs.length:=by
    rcases m5 j xs.length with h | h
    ·exact h
    ·rw[zld h] at hj;cases hj
   simp only[zmx];rw[zl2 hlt];exact hj
  rcases hy with ⟨rfl,rfl,l,c,rfl,rfl⟩ | ⟨ad,c,rfl,hnews⟩
  ·refine⟨.slice (some ⟨b,0,none⟩) nn cap,u,C,?_,⟨by simpa using hxl,.inr ⟨b,cap,rest,rfl,by simpa using hbk,hnc,hcm,by simpa using hcl,hC⟩⟩,⟨Keep.refl _ _,hsub,mo _,fun _ _ _=>rfl⟩,fun k hk=>⟨.inl hk,hlt k hk⟩⟩;simp [Builtin.append_,run_underlying ht,sizeOf,typeInfo,hi,Builtin.lenOf,Builtin.firstCells,hnc,storeCells]
  ·by_cases hroom:nn+m<=cap
   ·have hfit:nn*i.size+news.length<=(xs++rest).toArray.size:=by rw[hl,<-zl6];simp only[zn1,hcl];exact zmf _ hroom
    have hr:=run_append_room (P:=P) u t aty e i ht hi b nn cap _ hbk ad m c news hl hnews h1 hroom hfit;refine⟨_,_,C,hr,⟨hlen,.inr ⟨b,cap,rest.drop news.length,rfl,?_,hroom,hcm,?_,hC⟩⟩,ww hsub hbk ((hC b).2 rfl) hbl.2 _,fun k hk=>⟨.inl hk,by rw[setRow_size];exact(hlt k hk).1,(hlt k hk).2⟩⟩
    ·rw[setRow_heap u b _ _ e (0,0) hbk];congr 3;rw[<-hxl];simp [zmg,zlf]
    ·have h5:rest.length=cap*i.size-nn*i.size:=by rw[<-hcl,nr,hxl];omega
     rw[nr,hlen,m7,h5,hl,zl6];have:nn*i.size+m*i.size<=cap*i.size:=by rw[<-zl6];exact zmf _ hroom
     omega
   ·have hr:=run_append_grow (P:=P) u t aty e i z ht hi hz ⟨b,0,none⟩ nn cap xs hxl holds ad m c news hl hnews T T (growslice_fits T hb);exact⟨_,_,_,hr,grown cap T xs hxl Z,hdrew _,fun k hk=>hnew _ k hk⟩
def wn(L:Tabs P){nn:Nat}(hn:Nat.blt d n=true)(hg:gK ops κ ⟨some d,.call ⟨.builtin .append,#[.tmp q,y],#[t,t]⟩,ty,pos,aft,g⟩=some true)
  (hq:κ q=some (.own (SlR e s nn xs))) (hy:Apd F B O κ y m news) (ht:L.sl t=some e) (he:elI P e=some (s,by_)) (hl:news.length=m*s) (h1:news.all vj=true) (hb:(nn+m)*by_<=140737488355328) (h63:nn+m<=9223372036854775807):
  wh P F B n ops O κ ⟨some d,.call ⟨.builtin .append,#[.tmp q,y],#[t,t]⟩,ty,pos,aft,g⟩ q fm d (.own (SlR e s (nn+m) (xs++news))):=by
 rintro κ' a u hlk hks ⟨H,fp,hh⟩;unfold After;rw[na (xf hh hlk hg)];have en:=hh.env hlk;obtain⟨i,z,hi,hz,hs1,hs2,hs3,hs4⟩:=w8 he;have hk':κ' q=some (.own (SlR e s nn xs)):=hks.trans hq;obtain⟨hown,hM⟩:=hh.slot q _ hk';obtain⟨x',u',C',hr,hown',hgr,hC'⟩:=By u (aty:=ty) (Tabs.sl_spec ht) hi hz hs1 hs2 hs3 hs4 hh.sub hown (fun k hk=>⟨(hM k hk).1,(hM k hk).2.1⟩) (hy _ a u H fp (by simp [Op.operands,Call.operands]) en) hl (fun v hv=>g7 (zlj.1 h1 v hv)) h63 hb
 have hrun:(execOp a.eval ⟨some d,.call ⟨.builtin .append,#[.tmp q,y],#[t,t]⟩,ty,pos,aft,g⟩).run P u=.ok (.value x') u':=by
  simp only[execOp,resolve,invoke,builtin,nu,me,ma,zlv,mp,zlm,hr]
 rw[hrun];simp only[Upon];exact⟨H,_,hh.usePut hk' hgr (by simp [Act.put]) Z (fun t ht=>xn ht) (by rw[xx (by rw[hh.size];exact zn hn)];exact hown') hC'⟩
def yo{op:Op}(hop:op=.move (.tmp q)\/op=.assign (.tmp q))(eqs:(Nat.blt d n,gK ops κ ⟨some d,op,ty,pos,aft,g⟩,κ q,Nat.beq q d)=(true,some true,some (.own r),false)):
  wh P F B n ops O κ ⟨some d,op,ty,pos,aft,g⟩ q fm d (.own r):=by
 obtain⟨hn,hg,hq,hne⟩:=EQ4 eqs;rintro κ' a u hlk hks ⟨H,fp,hh⟩;unfold After;rw[na (xf hh hlk hg)];have hk':κ' q=some (.own r):=hks.trans hq;obtain⟨hown,hM⟩:=hh.slot q _ hk'
 have hrun:(execOp a.eval ⟨some d,op,ty,pos,aft,g⟩).run P u=.ok (.value (a.eval (.tmp q))) u:=by
  rcases hop with rfl | rfl<;>simp [execOp]
 rw[hrun];simp only[Upon];exact⟨H,_,hh.usePut (C:=fp q) hk' ⟨Keep.refl _ _,hh.sub,mo _,fun _ _ _=>rfl⟩ (by simp [Act.put]) Z (fun t ht=>xn ht) (by rw[xx (by rw[hh.size];exact zn hn)];exact hown) fun k hk=>⟨.inl hk,(hM k hk).1,(hM k hk).2.1⟩⟩
def Has.pubR{t:Nat}{s m:Nat}(hk:κ t=some (.own (SlR e s m xs)))(h:Has F B O n κ a u):Has F B O n (upd κ t (.sat (SlV e s xs m false))) a u:=by
 obtain⟨H,fp,h⟩:=h;obtain⟨⟨hl,hv⟩,hM⟩:=h.slot t _ hk;rcases hv with ⟨rfl,hv,hC⟩ | ⟨b,cap,rest,hv,hb,h3,h4,h5,hC⟩
 ·have hx:xs=[]:=mz (by simpa using hl);subst hx
  suffices h3:Has F B O n (upd κ t (.sat fun v _=>v=.slice none 0 0)) a u by
   have:=h3.imp (t:=t) (ψ:=SlV e s [] 0 false) (xj _ _ _) nw fun v H hv=>⟨by simp,.inl ⟨rfl,_,hv⟩⟩
   rw[jo] at this;exact this
  have h2:=h.drop1 t;refine⟨H,fp,h2.size,h2.defers,h2.nodup,h2.marks,h2.lent,h2.keep,h2.sub,h2.base,h2.fresh,h2.boxes,h2.apart,fun s k hs=>?_,fun s q r1 r2 hsq h1 h2'=>?_,fun s k hs=>?_⟩
  ·by_cases hst:s=t
   ·subst hst;rw[xj] at hs;cases hs;exact hv
   ·rw[xd _ _ hst] at hs;exact h.slot s k hs
  ·have key:∀ x r,upd κ t (.sat fun v _=>v=.slice none 0 0) x=some (.own r)->κ x=some (.own r):=fun x r hx=>by
    by_cases hxd:x=t
    ·subst hxd;rw[xj] at hx;cases hx
    ·rw[xd _ _ hxd] at hx;exact hx
   exact h.owns s q r1 r2 hsq (key _ _ h1) (key _ _ h2')
  ·by_cases hst:s=t
   ·subst hst;rw[xj] at hs;cases hs;exact fun _ _ _ h _=>h
   ·rw[xd _ _ hst] at hs;exact h.mono s k hs
 ·obtain⟨H',h'⟩:=h.pub (φ:=SlV e s xs m false) hk hb ((hC b).2 rfl) nw fun H' _ hb'=>⟨hl,.inr ⟨b,0,cap,_,_,(0,0),hv,hb',by simp,h3,fun h=>by cases h⟩⟩
  exact⟨H',fp,h'⟩
def l6(t:Nat)(hk:κ t=some (.own (SlR e s m xs)))(h:V P F B n O (upd κ t (.sat (SlV e s xs m false))) c zpf):V P F B n O κ c zpf:=fun a u hh=>h a u (hh.pubR hk)
def oz(t:Nat)(hk:κ t=some (.own (SlR e s m xs)))(h:VO P F B n O ops (upd κ t (.sat (SlV e s xs m false))) os zpf):VO P F B n O ops κ os zpf:=fun a u hh=>h a u (hh.pubR hk)
def Yx(L:Tabs P){q f:Nat}{fo:Operand}
  (hn:Nat.blt d n=true) (hg:gK ops κ ⟨some d,.call { callee:=.value fo,args:=args,argTypes:=at_ },ty,pos,aft,g⟩=some true)
  (hf:evK (upd κ q (.is undef)) fo=some (.func (.func f) #[] cap.toArray)) (hfn:L.fn f=some ()) (hq:κ q=some (.own r)) (hm:Kn.mono (.sat φ))
  (h:∀ u H C x,zpg H u->B.Le H->r.P x H u C->(ZCB C u H)->Args (upd κ q (.is x)) H args.toList [] (fun vs=>RetL P f (vs++cap) u H C (fun v H' _=>φ v H'))):
  wh P F B n ops O κ ⟨some d,.call { callee:=.value fo,args:=args,argTypes:=at_ },ty,pos,aft,g⟩ q fm d (.sat φ):=by
 rintro κ' a u hlk hks ⟨H,fp,hh⟩;unfold After;rw[na (xf hh hlk hg)];have hk':κ' q=some (.own r):=hks.trans hq;obtain⟨hown,hM⟩:=hh.slot q _ hk';have hh2:=hh.name q
 have e2:Env F B O (upd κ q (.is (a.eval (.tmp q)))) ⟨some d,.call { callee:=.value fo,args:=args,argTypes:=at_ },ty,pos,aft,g⟩ a u H fp:=hh2.env (ops:=ops) fun t ht=>by
  by_cases htq:t=q
  ·subst htq;rw[xj,xj]
  ·rw[xd _ _ htq,xd _ _ htq];exact hlk t ht
 have hfe:a.eval fo=.func (.func f) #[] cap.toArray:=by
  refine e2.is_ fo _ (by simp [Op.operands,Call.operands]) ?_
  cases fo with
  | tmp t=>
   simp only[evK] at hf |-;by_cases htq:t=q
   ·subst htq;rw[xj] at hf;cases hf
   ·rw[xd _ _ htq] at hf |-;exact hf
  | _=>exact hf
 have hc:=Args.use e2 args.toList [] (fun x hx=>by simp [Op.operands,Call.operands] at hx |-;exact .inr hx) (h u H (fp q) _ hh.sub hh.base hown fun k hk=>⟨(hM k hk).1,(hM k hk).2.1⟩);simp only[zmb,mh] at hc;rw[vr L rfl hfe hfn];simp only[Upon];refine Calls.mono hc fun e' u' hp=>?_;obtain⟨v,rfl,H',g',hv⟩:=hp;exact⟨v,rfl,H',fp,(hh.use hk' g').put (zn hn) hm hv⟩
end
end Go.V
namespace Go.V
structure GR where
 P:Heap->World->(Nat->Prop)->Prop
 st:∀ {H u C H' u'},P H u C->H.Le H'->zpg H' u'->On u u'->(∀ k,C k->u'.heap[k]?=u.heap[k]?)->P H' u' C
def GR.res(r:GR):Res:=⟨fun _ H u C=>r.P H u C,r.st⟩
abbrev wa:=List (List Value)
def Bz(P:Program)(l:Nat)(zpb:wa->GR)(stop:wa->Bool)(xs:wa):Prop:=
 ∀ (pre:wa) (x:List Value),pre++[x]<+:xs->stop pre=false->∀ (u:World) (H:Heap) (C:Nat->Prop),zpg H u->(zpb pre).P H u C->(ZCB C u H)->
  ∃ fn tmps assign body,(Instr.yield l x.toArray).run P u=.ok (.round l fn tmps assign body) u/\
   RoundIn Fence.wide 0 P l fn tmps assign body u fun e u'=>e=.returned (.bool (!stop (pre++[x])))/\∃ C',(zpb (pre++[x])).P H u' C'/\Keep C u u'/\∀ k,C' k->(C k\/u.heap.size<=k)/\k<u'.heap.size
def jf(stop:wa->Bool):wa->wa->wa
 | pre,[]=>pre
 | pre,x::xs=>if stop (pre++[x])=true then pre++[x] else jf stop (pre++[x]) xs
def zim(P:Program)(f:FuncId)(caps:List Value)(w:World)(B:Heap)(xs:wa):Prop:=
 ∀ (l:Nat) (zpb:wa->GR) (stop:wa->Bool) (C:Nat->Prop),stop []=false->Bz P l zpb stop xs->(zpb []).P B w C->(ZCB C w B)->
  RetL P f (.func (.yield l) #[] #[]::caps) w B C fun _ H u=>∃ C',(zpb (jf stop [] xs)).P H u C'/\∀ k,C' k->(C k\/w.heap.size<=k)/\k<u.heap.size/\H k=none
section
def N9(e:Env F B O κ o a u H fp):∀ (xs:List Operand) (vs:List Value),(∀ x∈xs,x∈o.op.operands)->Xg κ xs=some vs->xs.map a.eval=vs
 | [],vs,_,h=>by simp only[Xg] at h;cases h;rfl
 | x::xs,vs,hx,h=>by
  simp only[Xg] at h;split at h
  ·rename_i v vs' h1 h2;cases h;rw[mp,N9 e xs vs' (fun p hp=>hx p (mc _ hp)) h2,e.is_ x v (hx x (mb ..)) h1]
  ·cases h
def ue{l gs:Nat}{zpb:wa->GR}{stop:wa->Bool}{xs pre:wa}{x:List Value}{fo:Operand}(hY:Bz P l zpb stop xs)(hpre:pre++[x]<+:xs)(hst:stop pre=false)(hb:(!stop (pre++[x]))=b)
  (hn:Nat.blt d n=true) (hg:gK ops κ ⟨some d,.call { callee:=.value fo,args:=args,argTypes:=at_ },ty,pos,aft,g⟩=some true) (hf:evK κ fo=some (.func (.yield l) #[] #[])) (ha:Xg κ args.toList=some x) (hk:κ gs=some (.own (zpb pre).res)):
  wh P F B n ops O κ ⟨some d,.call { callee:=.value fo,args:=args,argTypes:=at_ },ty,pos,aft,g⟩ gs (.own (zpb (pre++[x])).res) d (.is (.bool b)):=by
 rintro κ' a u hl hks ⟨H,fp,hh⟩;unfold After;rw[na (xf hh hl hg)];have e:=hh.env hl;have hfe:a.eval fo=.func (.yield l) #[] #[]:=e.is_ fo _ (by simp [Op.operands,Call.operands]) hf;have hae:=N9 e args.toList x (fun y hy=>by simp [Op.operands,Call.operands] at hy |-;exact .inr hy) ha;have hk':κ' gs=some (.own (zpb pre).res):=hks.trans hk;obtain⟨hown,hM⟩:=hh.slot gs _ hk';obtain⟨fn,tmps,assign,body,hrun,hround⟩:=hY pre x hpre hst u H (fp gs) hh.sub hown fun k hk=>⟨(hM k hk).1,(hM k hk).2.1⟩
 have hae':args.map a.eval=x.toArray:=by rw[<-hae,<-zlv,zm4]
 have hrun':(execOp a.eval ⟨some d,.call { callee:=.value fo,args:=args,argTypes:=at_ },ty,pos,aft,g⟩).run P u=.ok (.round l fn tmps assign body) u:=by
  simp only[execOp,resolve,hfe,Deferred.ofValue,nu,me,ma,invoke,hae'];simpa using hrun
 rw[hrun'];simp only[Upon];refine RoundIn.mono hround fun e' u' hp=>?_;obtain⟨rfl,C',hJ,hkeep,hC'⟩:=hp;refine⟨_,rfl,?_⟩;rw[hb]
 have hsub':H.Le (hp u'):=fun k o ho=>by
  have hlt:=hh.sub.size ho;refine(hkeep.block k hlt fun hc=>?_).trans (hh.sub k o ho);rw[(hM k hc).2.1] at ho;cases ho
 have hg':Grow (fp gs) u H u' H:=⟨hkeep,hsub',mo _,fun _ _ _=>rfl⟩
 have h2:=hh.usePut (d:=gs) (a':=a) (r':=(zpb (pre++[x])).res) (C:=C') hk' hg' rfl rfl (fun _ _=>rfl) hJ fun k hk=>⟨(hC' k hk).1,(hC' k hk).2,by
  rcases(hC' k hk).1 with h | h
  ·exact(hM k h).2.1
  ·exact k7 hh.sub h⟩
 rw[jo] at h2;exact⟨H,_,h2.put (k:=.is (.bool b)) (zn hn) trivial Z⟩
def yr{fn:Func}{args:List Value}{φ:Value->Heap->World->Prop}(gs:Nat)(r:GR)(hf:P.funcs[f]?=some fn)(hb:fn.body=some c)(hn:fn.ntmps=n)
  (hs:args.length<=n) (hB:zpg B w) (hr:r.P B w C) (hC:ZCB C w B) (h:V P ⟨w,none,[],C⟩ B n [] (upd (rm 0 args) gs (.own r.res)) c (bodyPostM Fence.wide 0 P fn (ft w B C φ))):RetL P f args w B C φ:=by
 refine dv hf hb (h _ w ?_);subst hn;have h0:=dt (B:=B) C (fun k hk=>(hC k hk).1) hs hB (fun _=>noL)
 exact⟨B,_,h0.putR (d:=gs) (r:=r.res) Z Z (fun _ _=>rfl) hr (fun k hk=>⟨(hC k hk).1,(hC k hk).2,.inr hk,fun y hy=>by cases hy⟩) fun t r' _ ht=>by
  obtain⟨v,hv,_⟩:=uu _ _ _ _ ht;cases hv⟩
def o7:∀ (l1 l2:List (Nat×Kn)) (t:Nat),ofL (l1++l2) t=match ofL l1 t with | some k=>some k | none=>ofL l2 t
 | [],l2,t=>rfl
 | (s,k)::l1,l2,t=>by
  show upd (ofL (l1++l2)) s k t=_;by_cases h:t=s
  ·subst h;rw[xj];show _=match upd (ofL l1) t k t with | some k=>some k | none=>_;rw[xj]
  ·rw[xd _ _ h,o7 l1 l2 t];show _=match upd (ofL l1) s k t with | some k=>some k | none=>_;rw[xd _ _ h]
def zcj(fx:List (Nat×Value)):List (Nat×Kn):=fx.map fun p=>(p.1,.is p.2)
def gK'(zpe:List (Nat×Res)):List (Nat×Kn):=zpe.map fun p=>(p.1,.own p.2)
def Bn:∀ (fx:List (Nat×Value)) {t:Nat} {k:Kn},ofL (zcj fx) t=some k->∃ v,k=.is v
 | [],_,_,h=>by cases h
 | (s,v)::fx,t,k,h=>by
  replace h:upd (ofL (zcj fx)) s (.is v) t=some k:=h;by_cases hts:t=s
  ·subst hts;rw[xj] at h;cases h;exact⟨v,rfl⟩
  ·rw[xd _ _ hts] at h;exact Bn fx h
def N8{n:Nat}:∀ (zpe:List (Nat×Res)) {t:Nat} {k:Kn},(∀ p∈zpe,n<=p.1)->ofL (gK' zpe) t=some k->n<=t/\∃ r,k=.own r
 | [],_,_,_,h=>by cases h
 | (s,r)::zpe,t,k,hn,h=>by
  replace h:upd (ofL (gK' zpe)) s (.own r) t=some k:=h;by_cases hts:t=s
  ·subst hts;rw[xj] at h;cases h;exact⟨hn _ (mb ..),r,rfl⟩
  ·rw[xd _ _ hts] at h;exact N8 zpe (fun p hp=>hn p (mc _ hp)) h
abbrev KK(fx:List (Nat×Value))(zpe:List (Nat×Res)):Kap:=ofL (gK' zpe++zcj fx)
def se{n:Nat}{zpe:List (Nat×Res)}(hG:∀ p∈zpe,n<=p.1){t:Nat}(h:KK fx zpe t=some (.own r)):ofL (gK' zpe) t=some (.own r):=by
 rw[KK,o7] at h
 cases hg:ofL (gK' zpe) t with
 | some k=>rw[hg] at h;exact h
 | none=>rw[hg] at h;obtain⟨v,hv⟩:=Bn fx h;cases hv
def t6{n:Nat}{zpe:List (Nat×Res)}(hG:∀ p∈zpe,n<=p.1){t:Nat}{k:Kn}(h:KK fx zpe t=some k):(n<=t/\ofL (gK' zpe) t=some k/\∃ r,k=.own r)\/(ofL (zcj fx) t=some k/\ofL (gK' zpe) t=none/\∃ v,k=.is v):=by
 rw[KK,o7] at h
 cases hg:ofL (gK' zpe) t with
 | some k'=>rw[hg] at h;cases h;obtain⟨h1,h2⟩:=N8 zpe hG hg;exact .inl ⟨h1,rfl,h2⟩
 | none=>rw[hg] at h;exact .inr ⟨h,rfl,Bn fx h⟩
def E6(hs:a.tmps.size=n){t:Nat}(ht:n<=t):a.eval (.tmp t)=undef:=by
 simp only[Act.eval,zlg];rw[zmt T];rfl
def HasH.newBox(o:Obj)(h:HasH F B O n κ a u H fp):HasH F B ((u.heap.size,o)::O) n κ a (u.alloc o) H fp:=by
 have h2:=h.grow (Grow.hid h.sub o);refine⟨h2.size,h2.defers,h2.nodup,fun D hD=>mc _ (h2.marks D hD),h2.lent,h2.keep,h2.sub,h2.base,h2.fresh,fun y hy=>?_,mg.2 ⟨fun y hy=>?_,h2.apart⟩,fun t k hk=>?_,h2.owns,h2.mono⟩
 ·rcases nz.1 hy with rfl | hy
  ·exact⟨xu _ _,k7 h.sub (ns _),.inl h.keep.size⟩
  ·exact h2.boxes y hy
 ·have:=xb (h.boxes y hy).1;dsimp only;omega
 ·have hh:=h2.slot t k hk
  cases k with
  | is _=>exact hh
  | sat _=>exact hh
  | own r=>
   refine⟨hh.1,fun k hk'=>?_⟩;obtain⟨g1,g2,g3,g4⟩:=hh.2 k hk';refine⟨g1,g2,g3,fun y hy=>?_⟩;rcases nz.1 hy with rfl | hy
   ·have:=((h.slot t _ hk).2 k hk').1;dsimp only;omega
   ·exact g4 y hy
def Jc(F:Fr)(B:Heap)(n:Nat)(a0:Act)(H0:Heap)(N1:Nat)(O':wa->Boxes)(K:wa->Kap)(pre:wa):GR where
 P Hit u C:=∃ Hc fp,HasH F B (O' pre) n (K pre) a0 u Hc fp/\H0.Le Hc/\H0.Le Hit/\(∀ y∈O' pre,y.1<N1)/\N1<=u.heap.size/\F.w0.heap.size<=N1/\
  (∀ k,C k↔(k<N1/\H0 k=none)\/(N1<=k/\((Hc k).isSome=true\/∃ t r,K pre t=some (.own r)/\fp t k)))
 st:=by
  rintro Hit u C Hit' u' ⟨Hc,fp,hh,h1,h2,h3,h4,h5,hC⟩ hle hsub hon hk
  have hCt:∀ t r k,K pre t=some (.own r)->fp t k->C k:=fun t r k ht hf=>by
   rw[hC];rcases m5 k N1 with hlt | hge
   ·refine .inl ⟨hlt,?_⟩;have:=((hh.slot t _ ht).2 k hf).2.1
    cases hx:H0 k with
    | none=>rfl
    | some o=>rw[h1 k o hx] at this;cases this
   ·exact .inr ⟨hge,.inr ⟨t,r,ht,hf⟩⟩
  have hCb:∀ y∈O' pre,C y.1:=fun y hy=>by
   rw[hC];refine .inl ⟨h3 y hy,?_⟩;have:=(hh.boxes y hy).2.1
   cases hx:H0 y.1 with
   | none=>rfl
   | some o=>rw[h1 _ o hx] at this;cases this
  have hold:∀ k o,H0 k=some o->u'.heap[k]?=u.heap[k]?:=fun k o ho=>
   ((hsub k o (hle k o (h2 k o ho))):u'.heap[k]?=some o).trans ((hh.sub k o (h1 k o ho)):u.heap[k]?=some o).symm
  have hsub':Hc.Le (hp u'):=fun k o ho=>by
   show u'.heap[k]?=some o
   cases hx:H0 k with
   | some o'=>rw[hold k o' hx];exact hh.sub k o ho
   | none=>
    rw[hk k ((hC k).2 ?_)]
    ·exact hh.sub k o ho
    ·rcases m5 k N1 with hlt | hge
     ·exact .inl ⟨hlt,hx⟩
     ·exact .inr ⟨hge,.inl (by rw[ho];rfl)⟩
  refine⟨Hc,fp,⟨hh.size,hh.defers,hh.nodup,hh.marks,hh.lent,?_,hsub',hh.base,hh.fresh,fun y hy=>?_,hh.apart,fun t k ht=>?_,hh.owns,hh.mono⟩,h1,h2.trans hle,h3,mw h4 hon.size,h5,hC⟩
  ·refine⟨hon.os.trans hh.keep.os,hon.tape.trans hh.keep.tape,hon.output.trans hh.keep.output,mw hh.keep.size hon.size,fun k hk' hl=>?_,mw hh.keep.dr hon.dr⟩;refine Eq.trans ?_ (hh.keep.block k hk' hl)
   cases hx:H0 k with
   | some o=>exact hold k o hx
   | none=>exact hk k ((hC k).2 (.inl ⟨by omega,hx⟩))
  ·obtain⟨g1,g2,g3⟩:=hh.boxes y hy;exact⟨(hk _ (hCb y hy)).trans g1,g2,g3⟩
  ·have hs:=hh.slot t k ht
   cases k with
   | is _=>exact hs
   | sat _=>exact hs
   | own r=>exact⟨r.st hs.1 (mo _) hsub' hon fun k hf=>hk k (hCt t r k ht hf),fun k hf=>by
     obtain⟨g1,g2,g3,g4⟩:=hs.2 k hf;exact⟨zl8 g1 hon.size,g2,g3,g4⟩⟩
def zie(κ:Kap):List (Nat×Value)->Kap
 | []=>κ
 | p::ps=>zie (upd κ p.1 (.is p.2)) ps
def HasH.putP:∀ (ps:List (Nat×Value)) {κ:Kap} {tm:Array Value},(∀ p∈ps,p.1<n)->HasH F B O n κ { tmps:=tm,defers:=[] } u H fp->
  HasH F B O n (zie κ ps) { tmps:=ps.foldl (fun t p=>t.setIfInBounds p.1 p.2) tm,defers:=[] } u H fp
 | [],_,_,_,h=>h
 | p::ps,κ,tm,hn,h=>HasH.putP ps (fun q hq=>hn q (mc _ hq)) (h.put (k:=.is p.2) (hn p (mb ..)) trivial rfl)
def zbw(F:Fr)(B:Heap)(n:Nat)(O:Boxes)(zpe:wa->List (Nat×Res))(stop:wa->Bool)(jc:wa->Code)(pre:wa):Exit->Act->World->Prop
 | .normal,a,u=>stop pre=false/\Has F B O n (ofL (gK' (zpe pre))) a u
 | .ret,a,u=>stop pre=true/\jc pre=.ret/\Has F B O n (ofL (gK' (zpe pre))) a u
 | .exit id,a,u=>stop pre=true/\jc pre=.exit id/\Has F B O n (ofL (gK' (zpe pre))) a u
 | _,_,_=>False
def Xd{zpe:wa->List (Nat×Res)}{stop:wa->Bool}{jc:wa->Code}{pre:wa}(hs:Since F B0 B)(h1:stop pre=false)(h2:LiveOK (gK' (zpe pre)) κ):N F B n O κ (zbw F B0 n O zpe stop jc pre):=fun _ _ hh=>⟨h1,(hh.live h2).since hs⟩
def RR(F:Fr)(B:Heap)(n:Nat)(O:Boxes)(κ:Kap)(zpf:Exit->Act->World->Prop):Prop:=∀ a u,Has F B O n κ a u->zpf .ret a u
def Di(h:RR F B n O κ zpf):V P F B n O κ .ret zpf:=fun a u hh=>wpIn_ret (h a u hh)
def rp{id:Nat}(h:RR F B n O κ zpf):RR F B n O κ (Exit.inBlock id zpf):=h
def O6(h:RR F B n O κ zpf):RR F B n O κ (Exit.then K zpf):=h
def Ra{zpe:wa->List (Nat×Res)}{stop:wa->Bool}{jc:wa->Code}{pre:wa}(hs:Since F B0 B)(h1:stop pre=true)(h3:jc pre=.ret)(h2:LiveOK (gK' (zpe pre)) κ):RR F B n O κ (zbw F B0 n O zpe stop jc pre):=
 fun _ _ hh=>⟨h1,h3,(hh.live h2).since hs⟩
def Xc{l:List (Nat×Kn)}(hs:Since F B0 B)(hl:LiveOK l κ):N F B n O κ (Exit.then (fun a u=>Has F B0 O n (ofL l) a u) zpf):=fun _ _ hh=>(hh.live hl).since hs
def HasH.ghost{gs:Nat}{r:GR}(hk:κ gs=some (.own r.res))(h:HasH F B O n κ a u H fp):∃ C',r.P H u C'/\∀ k,C' k->(F.L k\/F.w0.heap.size<=k)/\k<u.heap.size/\H k=none:=
 ⟨fp gs,(h.slot gs _ hk).1,fun k hk'=>by obtain⟨g1,g2,g3,_⟩:=(h.slot gs _ hk).2 k hk';exact⟨g3.symm,g1,g2⟩⟩
def k9(L:Tabs P){fn:Func}(gs:Nat){r r':GR}(hrs:fn.results=#[])(hQ:∀ a u,bodyPostM Fence.wide 0 P fn (ft F.w0 B0 F.L fun _ H u=>∃ C',r'.P H u C'/\∀ k,C' k->(F.L k\/F.w0.heap.size<=k)/\k<u.heap.size/\H k=none) .ret a u->zpf .ret a u)(hs:Since F B0 B)(hk:κ gs=some (.own r.res))(e:r=r')(hm:Xk F.ds=true:=by rfl):V P F B n O κ .ret zpf:=
 O3 hQ hs (hm:=hm) fun O' a u H fp _ hh=>by
  subst e;obtain⟨vs,h1,_⟩:=jv L hh (rs:=[]) hrs (K:=fun _=>True) trivial;obtain⟨C',h2,h3⟩:=HasH.ghost hk hh;exact⟨_,h1,C',h2,h3⟩
def xo(L:Tabs P){fn:Func}(gs:Nat){r r':GR}(hrs:fn.results=#[])(hQ:∀ a u,bodyPostM Fence.wide 0 P fn (ft F.w0 B0 F.L fun _ H u=>∃ C',r'.P H u C'/\∀ k,C' k->(F.L k\/F.w0.heap.size<=k)/\k<u.heap.size/\H k=none) .normal a u->zpf .normal a u)(hs:Since F B0 B)(hk:κ gs=some (.own r.res))(e:r=r')(hm:Xk F.ds=true:=by rfl):N F B n O κ zpf:=
 zcq hQ hs (hm:=hm) fun O' a u H fp _ hh=>by
  subst e;obtain⟨vs,h1,_⟩:=jv L hh (rs:=[]) hrs (K:=fun _=>True) trivial;obtain⟨C',h2,h3⟩:=HasH.ghost hk hh;exact⟨_,h1,C',h2,h3⟩
def F5(stop:wa->Bool):∀ (xs pre:wa),jf stop pre xs<+:pre++xs
 | [],pre=>by simp [jf]
 | x::xs,pre=>by
  simp only[jf];split
  ·exact⟨xs,by simp⟩
  ·have:=F5 stop xs (pre++[x]);simpa using this
def LiveOK.right:∀ {l1 l2:List (Nat×Kn)},LiveOK (l1++l2) κ->LiveOK l2 κ
 | [],_,h=>h
 | _::l1,_,h=>LiveOK.right (l1:=l1) h.2
def cp(L:Tabs P){f:Operand}{params:Array Tmp}{assign body:Code}{gf:Nat}{caps:List Value}
  (fx:List (Nat×Value)) (zpe:wa→List (Nat×Res)) (K1:wa→List Value→List (Nat×Kn)) (xs:wa) (stop:wa→Bool) (jc:wa→Code)
  (hr:F.r=none) (hf:evK κ f=some (.func (.func gf) #[] caps.toArray)) (hfn:L.fn gf=some ())
  (h0:LiveOK (gK' (zpe [])++zcj fx) κ) (hG:∀ pre,∀ p∈zpe pre,n≤p.1) (hst0:stop []=false)
  (hps:∀ x∈xs,x.length=params.size) (hpn:∀ t∈params.toList,t<n)
  (hit:∀ u H,H.Le (hp u)→B.Le H→zim P gf caps u H xs)
  (hassign:∀ (w1:World) (Ln:Nat→Prop) (B':Heap) (l D:Nat) (o:Obj) (pre:wa) (x:List Value),pre++[x]<+:xs→stop pre=false→B.Le B'→
   V P ⟨w1,some l,[],Ln⟩ B' n ((l,o)::(D,.deferred (some []))::O) (zie (KK fx (zpe pre)) (params.toList.zip x)) assign (Exit.then (fun a u=>Has ⟨w1,some l,[],Ln⟩ B' ((l,o)::(D,.deferred (some []))::O) n (ofL (K1 pre x)) a u) (fun _ _ _=>False)))
  (hbody:∀ (w1:World) (Ln:Nat→Prop) (B':Heap) (l D:Nat) (o:Obj) (pre:wa) (x:List Value),pre++[x]<+:xs→stop pre=false→B.Le B'→
   V P ⟨w1,some l,[],Ln⟩ B' n ((l,o)::(D,.deferred (some []))::O) (ofL (K1 pre x)) body (zbw ⟨w1,some l,[],Ln⟩ B' n ((l,o)::(D,.deferred (some []))::O) zpe stop jc (pre++[x])))
  (hdone:∀ (l D:Nat) (o:Obj),stop (jf stop [] xs)=false→N ⟨F.w0,F.r,.m D::F.ds,F.L⟩ B n ((l,o)::(D,.deferred (some []))::O) (KK fx (zpe (jf stop [] xs))) zpf)
  (hstop:∀ (l D:Nat) (o:Obj),stop (jf stop [] xs)=true→V P ⟨F.w0,F.r,.m D::F.ds,F.L⟩ B n ((l,o)::(D,.deferred (some []))::O) (KK fx (zpe (jf stop [] xs))) (jc (jf stop [] xs)) zpf):
  V P F B n O κ (.rangeFunc f params assign body) zpf:=by
 obtain⟨w0,r,ds,Lf⟩:=F;dsimp only at hr;subst hr;rintro a u ⟨H,fp,hh⟩
 have e := hh.env (ops := #[]) (o := ⟨none, .move f, 0, "", #[], none⟩) (κ := κ) (fun _ _ => rfl)
 have hfe:a.eval f=.func (.func gf) #[] caps.toArray:=e.is_ f _ (by simp [Op.operands]) hf;refine wpIn_rangeFunc fun fn _=>?_
 --the record
 have hD0:(.loop { state:=.ready,pending:=none,fn,tmps:=a.tmps,params,assign,body,defers:=u.heap.size }:Obj)=.loop { state:=.ready,pending:=none,fn,tmps:=a.tmps,params,assign,body,defers:=u.heap.size }:=rfl;generalize hrec:({ state:=.ready,pending:=none,fn,tmps:=a.tmps,params,assign,body,defers:=u.heap.size }:Loop)=rec0 at hD0;have hh1:=(hh.newBox (.deferred (some []))).newBox (.loop rec0);rw[World.size_alloc] at hh1;generalize hw1:(u.alloc (.deferred (some []))).alloc (.loop rec0)=w1 at hh1;have hN1:w1.heap.size=u.heap.size+2:=by subst hw1;simp
 let recS:wa→Loop:=fun pre=>if stop pre=true then { rec0 with state:=.done,pending:=some (jc pre) } else rec0
 let O':wa→Boxes:=fun pre=>(u.heap.size+1,.loop (recS pre))::(u.heap.size,.deferred (some []))::O
 let F1:Fr:=⟨w0,none,[],Lf⟩
 let a0:Act:={ tmps:=a.tmps,defers:=[] }
 let zpb:wa→GR:=Jc F1 B n a0 H w1.heap.size O' fun pre=>KK fx (zpe pre)
 have hrec0:rec0.state=.ready∧rec0.pending=none∧rec0.fn=fn∧rec0.tmps=a.tmps∧rec0.params=params∧rec0.assign=assign∧rec0.body=body:=by subst hrec;exact⟨rfl,rfl,rfl,rfl,rfl,rfl,rfl⟩
 have hO'mem:∀ pre pre' y,y∈O' pre'→∃ y'∈O' pre,y'.1=y.1:=fun pre pre' y hy=>by
  rcases nz.1 hy with rfl | hy
  ·exact⟨_,mb ..,rfl⟩
  ·exact⟨y,mc _ hy,rfl⟩
 have hfix:∀ t k,ofL (zcj fx) t=some k→∀ v,k=.is v→a0.eval (.tmp t)=v:=fun t k ht v hv=>by
  subst hv;exact hh.slot t _ ((LiveOK.right h0).get ht)
 have hrecS0:recS []=rec0:=nc (by rw[hst0];simp)
 --at the start
 have hstart:HasH F1 B (O' []) n (KK fx (zpe [])) a0 w1 H fp:=by
  have h2:=hh1.sub_kap (κ2:=KK fx (zpe [])) fun t k hk=>h0.get hk;have:O' []=(u.heap.size+1,.loop rec0)::(u.heap.size,.deferred (some []))::O:=by show(_,Obj.loop (recS []))::_=_;rw[hrecS0]
  rw[this];exact⟨h2.size,rfl,zmn,(fun _ h=>by cases h),h2.lent,h2.keep,h2.sub,h2.base,h2.fresh,h2.boxes,h2.apart,h2.slot,h2.owns,h2.mono⟩
 let C0:Nat→Prop:=fun k=>(k<w1.heap.size∧H k=none)∨(w1.heap.size≤k∧((H k).isSome=true∨∃ t r,KK fx (zpe []) t=some (.own r)∧fp t k))
 have hJ0:(zpb []).P H w1 C0:=⟨H,fp,hstart,mo _,mo _,fun y hy=>xb (hstart.boxes y hy).1,ns _,hstart.keep.size,fun _=>Iff.rfl⟩
 have hC0:∀ k,C0 k→k<w1.heap.size∧H k=none:=fun k hk=>by
  rcases hk with h | ⟨h1,h | ⟨t,r,ht,hf⟩⟩
  ·exact h
  ·rw[k7 hstart.sub h1] at h;cases h
  ·have:=((hstart.slot t _ ht).2 k hf).1;omega
 --the rounds
 have hY:Bz P (u.heap.size+1) zpb stop xs:=by
  rintro pre x hpre hstp v Hit C hsubv ⟨Hc,fpc,hc,c1,c2,c3,c4,c5,c6⟩ hCv;have hrp:recS pre=rec0:=nc (by rw[hstp];simp);have hOp:O' pre=(u.heap.size+1,.loop rec0)::(u.heap.size,.deferred (some []))::O:=by show(_,Obj.loop (recS pre))::_=_;rw[hrp]
  rw[hOp] at hc;have hl:v.heap[u.heap.size+1]?=some (.loop rec0):=(hc.boxes _ (mb ..)).1;have hxl:x.length=params.size:=hps x (hpre.subset (by simp));have hyr:=run_yield (P:=P) (args:=x.toArray) hl (by rw[hrec0.2.2.2.2.1];simpa using hxl);rw[hrec0.2.2.1,hrec0.2.2.2.1,hrec0.2.2.2.2.1,hrec0.2.2.2.2.2.1,hrec0.2.2.2.2.2.2] at hyr;refine⟨fn,_,assign,body,hyr,roundIn_of_wpIn trivial ?_⟩
  --the round's frame
  let Cr:Nat→Prop:=fun k=>(∃ y∈O' pre,y.1=k)∨∃ t r,KK fx (zpe pre) t=some (.own r)∧fpc t k
  have hCrC:∀ k,Cr k→C k∧k<v.heap.size∧(w0.heap.size≤k∨Lf k):=fun k hk=>by
   rcases hk with ⟨y,hy,rfl⟩ | ⟨t,r,ht,hf⟩
   ·rw[hOp] at hy;obtain⟨g1,g2,g3⟩:=hc.boxes y hy;refine⟨(c6 _).2 (.inl ⟨c3 y (by rw[hOp];exact hy),?_⟩),xb g1,g3⟩
    cases hx:H y.1 with
    | none=>rfl
    | some o=>rw[c1 _ o hx] at g2;cases g2
   ·obtain⟨g1,g2,g3,g4⟩:=(hc.slot t _ ht).2 k hf;refine⟨(c6 k).2 ?_,g1,g3⟩;rcases m5 k w1.heap.size with hlt | hge
    ·refine .inl ⟨hlt,?_⟩
     cases hx:H k with
     | none=>rfl
     | some o=>rw[c1 _ o hx] at g2;cases g2
    ·exact .inr ⟨hge,.inr ⟨t,r,ht,hf⟩⟩
  let Fr':Fr:=⟨v,some (u.heap.size+1),[],Cr⟩
  have hr0:HasH Fr' Hc ((u.heap.size+1,.loop rec0)::(u.heap.size,.deferred (some []))::O) n (KK fx (zpe pre)) a0 v Hc fpc:=
   ⟨hc.size,rfl,zmn,(fun _ h=>by cases h),fun k hk=>(hCrC k hk).2.1,Keep.refl _ _,hc.sub,mo _,fun _ _ _=>rfl,fun y hy=>⟨(hc.boxes y hy).1,(hc.boxes y hy).2.1,.inr (.inl ⟨y,by rw[hOp];exact hy,rfl⟩)⟩,hc.apart,fun t k hk=>by
    have hs:=hc.slot t k hk
    cases k with
    | is _=>exact hs
    | sat _=>exact hs
    | own r=>exact⟨hs.1,fun k hf=>by
      obtain⟨g1,g2,g3,g4⟩:=hs.2 k hf;exact⟨g1,g2,.inr (.inr ⟨t,r,hk,hf⟩),g4⟩⟩,hc.owns,hc.mono⟩
  have hBc:B.Le Hc:=hc.base;have hr1:=hr0.putP (params.toList.zip x) (fun p hp=>hpn p.1 (List.of_mem_zip hp).1)
  have hfold:(params.zip x.toArray).foldl (fun tmps (t,a)=>tmps.setIfInBounds t a) a.tmps=(params.toList.zip x).foldl (fun t p=>t.setIfInBounds p.1 p.2) a.tmps:=by
   rw[←znw,Array.toList_zip]
  rw[hfold]
  --how a round ends
  have fin:∀ (e:Option Code) (a1:Act) (u1:World),(match e with | none=>stop (pre++[x])=false | some c=>stop (pre++[x])=true∧jc (pre++[x])=c)→
    Has Fr' Hc ((u.heap.size+1,.loop { rec0 with state:=.busy })::(u.heap.size,.deferred (some []))::O) n (ofL (gK' (zpe (pre++[x])))) a1 u1→
    ∃ z w',(Instr.endRound (u.heap.size+1) e).run P u1=.ok z w'∧Ending.returned z=.returned (.bool (!stop (pre++[x])))∧∃ C',(zpb (pre++[x])).P Hit w' C'∧Keep C v w'∧∀ k,C' k→(C k∨v.heap.size≤k)∧k<w'.heap.size:=by
   rintro e a1 u1 he ⟨Hd,fpd,hd⟩;have hl1:=(hd.boxes _ (mb ..)).1;have hrun:=run_endRound (P:=P) e hl1
   have hrecE:({ ({ rec0 with state:=.busy }:Loop) with state:=if e.isNone then .ready else .done,pending:=e }:Loop)=recS (pre++[x]):=by
    cases e with
    | none=>
     have:recS (pre++[x])=rec0:=nc (by rw[he];simp);rw[this];obtain⟨g1,g2,_⟩:=hrec0;cases hq:rec0;rw[hq] at g1 g2;dsimp only at g1 g2 ⊢;rw[g1,g2];rfl
    | some c=>
     have:recS (pre++[x])={ rec0 with state:=.done,pending:=some (jc (pre++[x])) }:=na he.1;rw[this,he.2];rfl
   rw[hrecE] at hrun
   have hv:(e.isNone)=!stop (pre++[x]):=by
    cases e with
    | none=>rw[he];rfl
    | some c=>rw[he.1];rfl
   refine⟨_,_,hrun,by rw[hv],?_⟩;have hd2:=hd.boxSet (O1:=[]) (ds:=[]) (a':=a1) (Chg.putObj (o:=.loop (recS (pre++[x]))) (xb hl1)) (List.Sublist.refl _) (by simp) rfl hd.defers;generalize u1.putObj (u.heap.size+1) (.loop (recS (pre++[x])))=u2 at hd2 ⊢;have hd2':HasH Fr' Hc (O' (pre++[x])) n (ofL (gK' (zpe (pre++[x])))) a1 u2 Hd fpd:=hd2
   have hOg:∀ y∈O' (pre++[x]),(w0.heap.size≤y.1∨Lf y.1)∧y.1<w1.heap.size:=fun y hy=>by
    obtain⟨y',hy',hyy⟩:=hO'mem pre _ y hy;rw[←hyy];exact⟨(hc.boxes y' (by rw[←hOp];exact hy')).2.2,c3 y' hy'⟩
   have hfull:HasH F1 B (O' (pre++[x])) n (KK fx (zpe (pre++[x]))) a0 u2 Hd fpd:=by
    refine⟨hh.size,rfl,zmn,(fun _ h=>by cases h),hc.lent,hc.keep.trans hd2'.keep fun i hi hci=>?_,hd2'.sub,hBc.trans hd2'.base,fun k hk hlk=>?_,fun y hy=>⟨(hd2'.boxes y hy).1,(hd2'.boxes y hy).2.1,(hOg y hy).1⟩,hd2'.apart,fun t k hk=>?_,fun s t r r' hst h1 h2=>?_,fun t k hk=>?_⟩
    ·rcases(hCrC i hci).2.2 with h | h
     ·exact ni hi (by show ¬ (i<w0.heap.size);omega)
     ·exact h
    ·refine(hd2'.fresh k (zl8 hk hc.keep.size) fun hcr=>?_).trans (hc.fresh k hk hlk);rcases(hCrC k hcr).2.2 with h | h
     ·exact ni hk (by show ¬ (k<w0.heap.size);omega)
     ·exact hlk h
    ·rcases t6 (hG _) hk with ⟨hnt,hgk,r,rfl⟩ | ⟨hfk,_,z,rfl⟩
     ·have hs:=hd2'.slot t _ hgk;have e1:a0.eval (.tmp t)=a1.eval (.tmp t):=(E6 (a:=a0) (n:=n) hh.size hnt).trans (E6 hd2'.size hnt).symm;rw[e1];refine⟨hs.1,fun k hf=>?_⟩;obtain⟨g1,g2,g3,g4⟩:=hs.2 k hf;refine⟨g1,g2,?_,g4⟩;rcases g3 with g3 | g3
      ·exact .inl (mw hc.keep.size g3)
      ·exact(hCrC k g3).2.2
     ·exact hfix t _ hfk z Z
    ·exact hd2'.owns s t r r' hst (se (hG _) h1) (se (hG _) h2)
    ·rcases t6 (hG _) hk with ⟨_,_,r,rfl⟩ | ⟨_,_,z,rfl⟩<;>trivial
   have hHd:Hc.Le Hd:=hd2'.base
   refine⟨fun k=>(k<w1.heap.size∧H k=none)∨(w1.heap.size≤k∧((Hd k).isSome=true∨∃ t r,KK fx (zpe (pre++[x])) t=some (.own r)∧fpd t k)),
    ⟨Hd,fpd,hfull,c1.trans hHd,c2,fun y hy=>(hOg y hy).2,mw c4 hd2'.keep.size,c5,fun _=>Iff.rfl⟩,hd2'.keep.weak fun k _ hk=>(hCrC k hk).1,fun k hk=>?_⟩
   rcases hk with ⟨h1,h2⟩ | ⟨h1,h2 | ⟨t,r,ht,hf⟩⟩
   ·exact⟨.inl ((c6 k).2 (.inl ⟨h1,h2⟩)),zl8 h1 (mw c4 hd2'.keep.size)⟩
   ·obtain⟨o,ho⟩:=zmc.1 h2;refine⟨?_,hd2'.sub.size ho⟩;rcases m5 k v.heap.size with hlt | hge
    ·by_cases hcr:Cr k
     ·exact .inl (hCrC k hcr).1
     ·refine .inl ((c6 k).2 (.inr ⟨h1,.inl ?_⟩));rw[←hd2'.fresh k hlt hcr,ho];rfl
    ·exact .inr hge
   ·have hs:=(hd2'.slot t _ (se (hG _) ht)).2 k hf;refine⟨?_,hs.1⟩;rcases hs.2.2.1 with g | g
    ·exact .inr g
    ·exact .inl (hCrC k g).1
  refine Go.wpIn_mono (hassign v Cr Hc (u.heap.size+1) u.heap.size (.loop rec0) pre x hpre hstp hBc _ v ⟨Hc,fpc,hr1⟩) fun e1 a1 u1 he1=>?_
  cases e1 with
  | normal=>
   obtain⟨Ha,fpa,ha⟩:=he1;have hl1:=(ha.boxes _ (mb ..)).1;refine⟨_,run_beginRound (P:=P) hl1 hrec0.1,?_⟩;have ha2:=ha.boxSet (O1:=[]) (ds:=[]) (a':=a1) (Chg.putObj (o:=.loop { rec0 with state:=.busy }) (xb hl1)) (List.Sublist.refl _) (by simp) rfl ha.defers;refine Go.wpIn_mono (hbody v Cr Hc (u.heap.size+1) u.heap.size (.loop { rec0 with state:=.busy }) pre x hpre hstp hBc a1 _ ⟨Ha,fpa,ha2⟩) fun e2 a2 u2 he2=>?_
   cases e2 with
   | normal=>exact fin none a2 u2 he2.1 he2.2
   | ret=>exact fin (some .ret) a2 u2 ⟨he2.1,he2.2.1⟩ he2.2.2
   | exit id=>exact fin (some (.exit id)) a2 u2 ⟨he2.1,he2.2.1⟩ he2.2.2
   | goto l=>exact he2.elim
   | panic c=>exact he2.elim
   | outgrown=>exact he2.elim
  | exit id=>exact he1.elim
  | goto l=>exact he1.elim
  | ret=>exact he1.elim
  | panic c=>exact he1.elim
  | outgrown=>exact he1.elim
 --the call
 have hB1:B.Le H:=hh.base;have hcall:=hit w1 H hstart.sub hB1 (u.heap.size+1) zpb stop C0 hst0 hY hJ0 hC0;have hel:=run_enterLoop_outer (P:=P) (w:=u) fn a.tmps params assign body;rw[hrec,hw1] at hel;refine⟨u.heap.size+1,[zca (.m u.heap.size)],w1,⟨.fn (.func gf) caps.toArray,#[]++#[.func (.yield (u.heap.size+1)) #[] #[]]⟩,w1,gf,(.func (.yield (u.heap.size+1)) #[] #[]::caps).toArray,w1,hel,?_,fun _ _=>trivial,?_,fun h=>(by cases h),?_⟩
 ·have hcv:a.eval (.const (.func (.yield (u.heap.size+1)) #[] #[]))=.func (.yield (u.heap.size+1)) #[] #[]:=rfl;simp [resolve,rangeCall,hfe,Deferred.ofValue,hcv]
 ·simp only[invoke];rw[uk L hfn];simp
 ·refine FW.call none _ (Calls.mono hcall fun e3 u3 hp=>?_);obtain⟨z,rfl,H3,g3,C3,⟨Hc,fpc,hc,c1,c2,c3,c4,c5,c6⟩,_⟩:=hp;generalize htk:jf stop [] xs=tk at hc c3 hdone hstop c6;have hl3:u3.heap[u.heap.size+1]?=some (.loop (recS tk)):=(hc.boxes _ (mb ..)).1
  have hnb:(recS tk).state≠.busy:=by
   show(if stop tk=true then ({ rec0 with state:=.done,pending:=some (jc tk) }:Loop) else rec0).state≠.busy;split
   ·simp
   ·rw[hrec0.1];simp
  have hpend:(recS tk).pending=if stop tk=true then some (jc tk) else none:=by
   show(if stop tk=true then ({ rec0 with state:=.done,pending:=some (jc tk) }:Loop) else rec0).pending=_;split
   ·rfl
   ·exact hrec0.2.1
  refine⟨_,_,run_endLoop hl3 hnb,?_⟩;have hc2:=hc.boxSet (O1:=[]) (ds:=[]) (a':=a0) (Chg.putObj (o:=.loop { recS tk with state:=.exhausted }) (xb hl3)) (List.Sublist.refl _) (by simp) rfl rfl
  have hDn:DM.m u.heap.size∉ds:=fun hm=>by
   have:=xb (hh.boxes _ (hh.marks _ hm)).1;exact ni this (Nat.lt_irrefl _)
  have hfin:HasH ⟨w0,none,.m u.heap.size::ds,Lf⟩ B ((u.heap.size+1,.loop { recS tk with state:=.exhausted })::(u.heap.size,.deferred (some []))::O) n (KK fx (zpe tk)) { a with defers:=[zca (.m u.heap.size)]++a.defers } (u3.putObj (u.heap.size+1) (.loop { recS tk with state:=.exhausted })) Hc fpc:=
   ⟨hc2.size,by have:=hh.defers;dsimp only at this ⊢;rw[this];rfl,List.nodup_cons.2 ⟨hDn,hh.nodup⟩,fun D hD=>by
    rcases nz.1 hD with e | hD
    ·cases e;exact mc _ (mb ..)
    ·exact mc _ (mc _ (hh.marks D hD)),hc2.lent,hc2.keep,hc2.sub,hc2.base,hc2.fresh,hc2.boxes,hc2.apart,hc2.slot,hc2.owns,hc2.mono⟩
  generalize (Obj.loop { recS tk with state:=.exhausted })=rx at hfin ⊢;rw[hpend]
  cases hs:stop tk with
  | false=>
   simp only[zmp,if_false];exact hdone _ _ _ hs _ _ ⟨Hc,fpc,hfin⟩
  | true=>
   simp only[if_true];exact hstop _ _ _ hs _ _ ⟨Hc,fpc,hfin⟩
end
def Dv{stop:wa->Bool}:∀ (xs pre:wa),stop (jf stop pre xs)=false->jf stop pre xs=pre++xs
 | [],pre,_=>by simp [jf]
 | x::xs,pre,h=>by
  simp only[jf] at h |-;split
  ·rename_i hs;rw[na hs,hs] at h;cases h
  ·rename_i hs;rw[nc hs] at h;rw[Dv xs _ h];simp
def Ch{stop:wa->Bool}:∀ (xs ys pre:wa),stop (jf stop pre xs)=true->stop pre=false->jf stop pre (xs++ys)=jf stop pre xs
 | [],ys,pre,h,h0=>by simp only[jf] at h;rw[h0] at h;cases h
 | x::xs,ys,pre,h,h0=>by
  simp only[zll,jf] at h |-;split
  ·rfl
  ·rename_i hs;rw[nc hs] at h;exact Ch xs ys _ h (by simpa using hs)
def af{stop:wa->Bool}:∀ (xs ys pre:wa),stop (jf stop pre xs)=false->jf stop pre (xs++ys)=jf stop (pre++xs) ys
 | [],ys,pre,_=>by simp
 | x::xs,ys,pre,h=>by
  simp only[zll,jf] at h |-;split
  ·rename_i hs;rw[na hs,hs] at h;cases h
  ·rename_i hs;rw[nc hs] at h;rw[af xs ys _ h];simp
def Ae(stop:wa->Bool)(zpd:wa):∀ (xs pre:wa),zpd++jf (fun p=>stop (zpd++p)) pre xs=jf stop (zpd++pre) xs
 | [],pre=>rfl
 | x::xs,pre=>by
  simp only[jf];rw[mj];split
  ·rfl
  ·rw[Ae stop zpd xs (pre++[x])]
end Go.V
namespace Go.V
def nkI(P:Program)(t:TypeId):Option Nat:=match P.underlying t with
 | some (.pointer _)=>some 0
 | some (.slice _)=>some 1
 | some (.map _ _)=>some 2
 | some (.func _ _ _)=>some 3
 | _=>none
def sg:Nat->Value->Value->Option Bool
 | 0,.pointer a,.pointer none=>some a.isNone
 | 1,.slice a _ _,.slice none _ _=>some a.isNone
 | 2,.map a,.map none=>some a.isNone
 | 3,.nilFunc,.nilFunc=>some true
 | 3,.func _ _ _,.nilFunc=>some false
 | _,_,_=>none
section
def D7{k:Nat}{p q:Value}(hk:nkI P t=some k)(h:sg k p q=some b)(u:World)(dd:Nat):(Op.equalIn (dd+1) t p q).run P u=.ok b u:=by
 unfold nkI at hk;split at hk<;>cases hk<;>rename_i hu
 ·cases p<;>cases q<;>simp only[sg] at h<;>try cases h
  rename_i a c;cases c<;>simp only[sg] at h<;>cases h;cases a<;>(unfold Op.equalIn;rw[Sem.run_bind,run_underlying hu];rfl)
 ·cases p<;>cases q<;>simp only[sg] at h<;>try cases h
  rename_i a _ _ c _ _;cases c<;>simp only[sg] at h<;>cases h;cases a<;>(unfold Op.equalIn;rw[Sem.run_bind,run_underlying hu];rfl)
 ·cases p<;>cases q<;>simp only[sg] at h<;>try cases h
  rename_i a c;cases c<;>simp only[sg] at h<;>cases h;cases a<;>(unfold Op.equalIn;rw[Sem.run_bind,run_underlying hu];rfl)
 ·cases p<;>cases q<;>simp only[sg] at h<;>try cases h
  ·unfold Op.equalIn;rw[Sem.run_bind,run_underlying hu];rfl
  ·unfold Op.equalIn;rw[Sem.run_bind,run_underlying hu];rfl
def Gl{k:Nat}{p q:Value}(hk:nkI P t=some k)(h:sg k p q=some b)(op:BinOp)(x y:Operand)(u:World):
  (do eqGuard op t x y p q;binOp .eql t p q:Sem Value).run P u=.ok (.bool b) u/\(do eqGuard op t x y p q;binOp .neq t p q:Sem Value).run P u=.ok (.bool (!b)) u:=by
 have hr:(Op.equal t p q).run P u=.ok b u:=D7 hk h u 9999
 have hg:eqGuard op t x y p q=pure ()/\binOp .eql t p q=(do pure (Value.bool (<-Op.equal t p q)))/\binOp .neq t p q=(do pure (Value.bool (!(<-Op.equal t p q)))):=by
  unfold sg at h;split at h<;>first | cases h;done | skip
  ·exact⟨eqGuard_at_pointer ..,rfl,rfl⟩
  ·exact⟨eqGuard_at_slice ..,rfl,rfl⟩
  ·exact⟨eqGuard_at_map ..,rfl,rfl⟩
  ·exact⟨eqGuard_at_nilFunc ..,rfl,rfl⟩
  ·exact⟨eqGuard_at_func ..,rfl,rfl⟩
 constructor
 ·rw[hg.1,hg.2.1,nu,me,ma,nu,hr];rfl
 ·rw[hg.1,hg.2.2,nu,me,ma,nu,hr];rfl
def vk{p q:Value}{k:Nat}(hn:Nat.blt d n=true)(hg:gK ops κ ⟨some d,.binOp .eql t x y t',ty,pos,aft,g⟩=some true)(hx:evK κ x=some p)(hy:evK κ y=some q)(hk:nkI P t=some k)(hb:sg k p q=some b):
  StepOK P F B n ops O κ ⟨some d,.binOp .eql t x y t',ty,pos,aft,g⟩ d (.is (.bool b)):=w7 hn hg hx hy fun u=>(Gl hk hb .eql x y u).1
def Lo{p q:Value}{k:Nat}{c:Bool}(hn:Nat.blt d n=true)(hg:gK ops κ ⟨some d,.binOp .neq t x y t',ty,pos,aft,g⟩=some true)(hx:evK κ x=some p)(hy:evK κ y=some q)(hk:nkI P t=some k)(hb:sg k p q=some b)(hc:(!b)=c):
  StepOK P F B n ops O κ ⟨some d,.binOp .neq t x y t',ty,pos,aft,g⟩ d (.is (.bool c)):=w7 hn hg hx hy fun u=>by subst hc;exact(Gl hk hb .neq x y u).2
end
end Go.V
namespace Go.V
def AtV(x:Value)(r:Res):Res:=⟨fun _ H u C=>r.P x H u C,r.st⟩
def Xl(b:Nat)(ty:TypeId)(r:Res):Res where
 P _ H u C:=∃ x C',u.heap[b]?=some (.cells #[x] ty)/\r.P x H u C'/\¬ C' b/\∀ k,C k↔k=b\/C' k
 st:=fun⟨x,C',h1,h2,h3,h4⟩ hle hs hon hk=>⟨x,C',(hk b ((h4 b).2 (.inl rfl))).trans h1,r.st h2 hle hs hon fun k hc=>hk k ((h4 k).2 (.inr hc)),h3,h4⟩
section
def Has.detach{t g:Nat}{S:Value->Prop}(hk:κ t=some (.own r))(hS:∀ v H u C,r.P v H u C->S v)(h:Has F B O n κ a u):∃ x,S x/\Has F B O n (upd (upd (upd κ t fm) g (.own (AtV x r))) t (.is x)) a u:=by
 obtain⟨H,fp,h⟩:=h;obtain⟨h1,hM⟩:=h.slot t _ hk;have h2:=h.usePut (d:=g) (a':=a) (r':=AtV (a.eval (.tmp t)) r) (C:=fp t) hk ⟨Keep.refl _ _,h.sub,mo _,fun _ _ _=>rfl⟩ rfl rfl (fun _ _=>rfl) h1 fun k hk=>⟨.inl hk,(hM k hk).1,(hM k hk).2.1⟩
 exact⟨_,hS _ _ _ _ h1,H,_,h2.name t⟩
def Has.attach{t g:Nat}{x:Value}(hk:κ g=some (.own (AtV x r)))(ht:κ t=some (.is x))(h:Has F B O n κ a u):Has F B O n (upd (upd κ g fm) t (.own r)) a u:=by
 obtain⟨H,fp,h⟩:=h;obtain⟨h1,hM⟩:=h.slot g _ hk;have h1':r.P x H u (fp g):=h1;have hx:a.eval (.tmp t)=x:=h.slot t _ ht;exact⟨H,_,h.usePut (d:=t) (a':=a) (r':=r) (C:=fp g) hk ⟨Keep.refl _ _,h.sub,mo _,fun _ _ _=>rfl⟩ Z Z (fun _ _=>rfl) (by rw[hx];exact h1') fun k hk=>⟨.inl hk,(hM k hk).1,(hM k hk).2.1⟩⟩
def HasH.lessBox{b:Nat}{o:Obj}{O1 O2:Boxes}(h:HasH F B (O1++(b,o)::O2) n κ a u H fp)(hd:DM.m b∉F.ds):HasH F B (O1++O2) n κ a u H fp/\u.heap[b]?=some o/\H b=none/\(F.w0.heap.size<=b\/F.L b)/\(∀ y∈O1++O2,y.1≠b)/\∀ t r,κ t=some (.own r)->¬ fp t b:=by
 have hsl:(O1++O2).Sublist (O1++(b,o)::O2):=List.Sublist.append (List.Sublist.refl _) (zog ..);have hmem:(b,o)∈O1++(b,o)::O2:=by simp
 obtain⟨hb1,hb2,hb3⟩:=h.boxes _ hmem;have hap:=zl0.1 h.apart
 have hne:∀ y,y∈O1++O2->y.1≠b:=fun y hy=>by
  rcases mn.1 hy with hy | hy
  ·exact hap.2.2 y hy _ (mb ..)
  ·exact Ne.symm ((mg.1 hap.2.1).1 y hy)
 refine⟨⟨h.size,h.defers,h.nodup,fun D hD=>?_,h.lent,h.keep,h.sub,h.base,h.fresh,fun y hy=>h.boxes y (hsl.subset hy),h.apart.sublist hsl,fun s k hs=>?_,h.owns,h.mono⟩,hb1,hb2,hb3,hne,fun t r ht hf=>((h.slot t _ ht).2 b hf).2.2.2 _ hmem Z⟩
 ·have hm:=h.marks D hD;rcases mn.1 hm with hm | hm
  ·exact zlt _ hm
  ·rcases nz.1 hm with e | hm
   ·cases e;exact ni hD hd
   ·exact zma _ hm
 ·have hh:=h.slot s k hs
  cases k with
  | is _=>exact hh
  | sat _=>exact hh
  | own r'=>exact⟨hh.1,fun k hk'=>by obtain⟨g1,g2,g3,g4⟩:=hh.2 k hk';exact⟨g1,g2,g3,fun y hy=>g4 y (hsl.subset hy)⟩⟩
def zgy{b:Nat}{cs:Array Value}(h:HasH F B O n κ a u H fp)(hb:u.heap[b]?=some (.cells cs ty fr)):DM.m b∉F.ds:=fun hd=>by
 have:=(h.boxes _ (h.marks b hd)).1;rw[hb] at this;cases this
def Has.closeBox{g b:Nat}{x:Value}(O1 O2:Boxes)(hO:O=O1++bx b [x] ty::O2)(hk:κ g=some (.own (AtV x r)))(h:Has F B O n κ a u):Has F B (O1++O2) n (upd κ g (.own (Xl b ty r))) a u:=by
 subst hO;obtain⟨H,fp,h⟩:=h;obtain⟨h0,hb1,hb2,hb3,hne,hfp⟩:=h.lessBox (zgy h (h.boxes (bx b [x] ty) (by simp)).1);obtain⟨h1,hM⟩:=h0.slot g _ hk;refine⟨H,_,h0.putR (d:=g) (r:=Xl b ty r) (C:=fun k=>k=b\/fp g k) Z Z (fun _ _=>rfl) ⟨x,fp g,hb1,h1,hfp g _ hk,fun _=>Iff.rfl⟩ (fun k hk'=>?_) fun t r' htg ht k hf hc=>?_⟩
 ·rcases hk' with rfl | hk'
  ·exact⟨xb hb1,hb2,hb3,fun y hy=>hne y hy⟩
  ·exact hM k hk'
 ·rcases hc with rfl | hc
  ·exact hfp t _ ht hf
  ·exact h0.owns t g _ _ htg ht hk k hf hc
def Has.openBox{g b:Nat}{S:Value->Prop}(hk:κ g=some (.own (Xl b ty r)))(hS:∀ v H u C,r.P v H u C->S v)(h:Has F B O n κ a u):∃ x,S x/\Has F B (bx b [x] ty::O) n (upd κ g (.own (AtV x r))) a u:=by
 obtain⟨H,fp,h⟩:=h;obtain⟨⟨x,C',h1,h2,h3,h4⟩,hM⟩:=h.slot g _ hk;have hMb:=hM b ((h4 b).2 (.inl rfl));have h5:=h.putR (d:=g) (a':=a) (r:=AtV x r) (C:=C') rfl rfl (fun _ _=>rfl) h2 (fun k hk'=>hM k ((h4 k).2 (.inr hk'))) fun t r' htg ht k hf hc=>h.owns t g _ _ htg ht hk k hf ((h4 k).2 (.inr hc));refine⟨x,hS _ _ _ _ h2,H,_,h5.size,h5.defers,h5.nodup,fun D hD=>mc _ (h5.marks D hD),h5.lent,h5.keep,h5.sub,h5.base,h5.fresh,fun y hy=>?_,mg.2 ⟨fun y hy=>Ne.symm (hMb.2.2.2 y hy),h5.apart⟩,fun s k hs=>?_,h5.owns,h5.mono⟩
 ·rcases nz.1 hy with rfl | hy
  ·exact⟨h1,hMb.2.1,hMb.2.2.1⟩
  ·exact h5.boxes y hy
 ·have hh:=h5.slot s k hs
  cases k with
  | is _=>exact hh
  | sat _=>exact hh
  | own r'=>
   refine⟨hh.1,fun k hk'=>?_⟩;obtain⟨g1,g2,g3,g4⟩:=hh.2 k hk';refine⟨g1,g2,g3,fun y hy=>?_⟩;rcases nz.1 hy with rfl | hy
   ·rintro rfl;by_cases hsg:s=g
    ·subst hsg;rw[od] at hk';exact h3 hk'
    ·rw[du _ _ hsg] at hk';rw[xd _ _ hsg] at hs;exact h.owns s g _ _ hsg hs hk _ hk' ((h4 _).2 (.inl Z))
   ·exact g4 y hy
def tx(t g:Nat)(S:Value->Prop)(hk:κ t=some (.own r))(hS:∀ v H u C,r.P v H u C->S v)(h:∀ x,S x->V P F B n O (upd (upd (upd κ t fm) g (.own (AtV x r))) t (.is x)) c zpf):V P F B n O κ c zpf:=fun a u hh=>let ⟨x,hx,h'⟩:=hh.detach (g:=g) hk hS;h x hx a u h'
def dc(t g:Nat)(S:Value->Prop)(hk:κ t=some (.own r))(hS:∀ v H u C,r.P v H u C->S v)(h:∀ x,S x->VO P F B n O ops (upd (upd (upd κ t fm) g (.own (AtV x r))) t (.is x)) os zpf):VO P F B n O ops κ os zpf:=fun a u hh=>let ⟨x,hx,h'⟩:=hh.detach (g:=g) hk hS;h x hx a u h'
def Fo(t g:Nat){x:Value}(hk:κ g=some (.own (AtV x r)))(ht:κ t=some (.is x))(h:V P F B n O (upd (upd κ g fm) t (.own r)) c zpf):V P F B n O κ c zpf:=fun a u hh=>h a u (hh.attach hk ht)
def g0(t g:Nat){x:Value}(hk:κ g=some (.own (AtV x r)))(ht:κ t=some (.is x))(h:VO P F B n O ops (upd (upd κ g fm) t (.own r)) os zpf):VO P F B n O ops κ os zpf:=fun a u hh=>h a u (hh.attach hk ht)
def Dk(g:Nat){b:Nat}{x:Value}(O1:Boxes)(hO:O=O1++bx b [x] ty::O2)(hk:κ g=some (.own (AtV x r)))(h:V P F B n (O1++O2) (upd κ g (.own (Xl b ty r))) c zpf):V P F B n O κ c zpf:=fun a u hh=>h a u (hh.closeBox O1 O2 hO hk)
def Dl(g:Nat){b:Nat}{x:Value}(O1:Boxes)(hO:O=O1++bx b [x] ty::O2)(hk:κ g=some (.own (AtV x r)))(h:N F B n (O1++O2) (upd κ g (.own (Xl b ty r))) zpf):N F B n O κ zpf:=fun a u hh=>h a u (hh.closeBox O1 O2 hO hk)
def ou(g:Nat){b:Nat}(S:Value->Prop)(hk:κ g=some (.own (Xl b ty r)))(hS:∀ v H u C,r.P v H u C->S v)(h:∀ x,S x->V P F B n (bx b [x] ty::O) (upd κ g (.own (AtV x r))) c zpf):V P F B n O κ c zpf:=fun a u hh=>let ⟨x,hx,h'⟩:=hh.openBox hk hS;h x hx a u h'
def Has.seen{t:Nat}{x:Value}(φ:Value->Heap->Prop)(hk:κ t=some (.is x))(hm:Kn.mono (.sat φ))(hx:φ x B)(h:Has F B O n κ a u):Has F B O n (upd κ t (.sat φ)) a u:=by
 obtain⟨H,fp,h⟩:=h;refine⟨H,fp,h.size,h.defers,h.nodup,h.marks,h.lent,h.keep,h.sub,h.base,h.fresh,h.boxes,h.apart,fun s k hs=>?_,fun s q r1 r2 hsq h1 h2=>?_,fun s k hs=>?_⟩
 ·by_cases hst:s=t
  ·subst hst;rw[xj] at hs;cases hs;have:a.eval (.tmp s)=x:=h.slot s _ hk;rw[this];exact hm _ _ _ hx h.base
  ·rw[xd _ _ hst] at hs;exact h.slot s k hs
 ·have key:∀ x r,upd κ t (.sat φ) x=some (.own r)->κ x=some (.own r):=fun x r hx=>by
   by_cases hxd:x=t
   ·subst hxd;rw[xj] at hx;cases hx
   ·rw[xd _ _ hxd] at hx;exact hx
  exact h.owns s q r1 r2 hsq (key _ _ h1) (key _ _ h2)
 ·by_cases hst:s=t
  ·subst hst;rw[xj] at hs;cases hs;exact hm
  ·rw[xd _ _ hst] at hs;exact h.mono s k hs
def k8(t:Nat){x:Value}(φ:Value->Heap->Prop)(hk:κ t=some (.is x))(hm:Kn.mono (.sat φ))(hx:φ x B)(h:V P F B n O (upd κ t (.sat φ)) c zpf):V P F B n O κ c zpf:=fun a u hh=>h a u (hh.seen φ hk hm hx)
def c7(t:Nat){x:Value}(φ:Value->Heap->Prop)(hk:κ t=some (.is x))(hm:Kn.mono (.sat φ))(hx:φ x B)(h:VO P F B n O ops (upd κ t (.sat φ)) os zpf):VO P F B n O ops κ os zpf:=fun a u hh=>h a u (hh.seen φ hk hm hx)
def SlR.shape:∀ v H u C,(SlR e s m xs).P v H u C->∃ p c,v=.slice p m c:=fun v _ _ _ ⟨_,h⟩=>by
 rcases h with ⟨rfl,rfl,_⟩ | ⟨b,cap,rest,rfl,_⟩
 ·exact⟨_,_,rfl⟩
 ·exact⟨_,_,rfl⟩
def tw{fn:Func}{args:List Value}{φ:Value->Heap->World->Prop}(i:Nat){x:Value}(r:Res)(hi:args[i]?=some x)(hf:P.funcs[f]?=some fn)(hb:fn.body=some c)(hn:fn.ntmps=n)
  (hs:args.length<=n) (hB:zpg B w) (hr:r.P x B w C) (hC:ZCB C w B) (h:V P ⟨w,none,[],C⟩ B n [] (upd (rm 0 args) i (.own r)) c (bodyPostM Fence.wide 0 P fn (ft w B C φ))):RetL P f args w B C φ:=by
 refine dv hf hb (h _ w ?_);subst hn;have h0:=dt (B:=B) C (fun k hk=>(hC k hk).1) hs hB (fun _=>noL)
 have hk:∀ (vs:List Value) (j t:Nat) (v:Value),vs[t]?=some v->rm j vs (j+t)=some (.is v):=by
  intro vs
  induction vs with
  | nil=>intro j t v hv;cases hv
  | cons y vs ih=>
   intro j t v hv
   cases t with
   | zero=>simp only[znm,Option.some.injEq] at hv;subst hv;exact xj _ _ _
   | succ t=>
    simp only[zmm] at hv;show upd (rm (j+1) vs) j (.is y) (j+(t+1))=_;rw[xd _ _ T,show j+(t+1)=(j+1)+t by omega];exact ih (j+1) t v hv
 have hx:=h0.slot i _ (by have:=hk args 0 i x hi;rwa [zlb] at this)
 exact⟨B,_,h0.putR (d:=i) (r:=r) Z Z (fun _ _=>rfl) (by rw[show _=x from hx];exact hr) (fun k hk=>⟨(hC k hk).1,(hC k hk).2,.inr hk,fun y hy=>by cases hy⟩) fun t r' _ ht=>by
  obtain⟨v,hv,_⟩:=uu _ _ _ _ ht;cases hv⟩
def V6(L:Tabs P){fn:Func}{rs:List ResultVar}(hrs:fn.results=rs.toArray)(hQ:∀ a u,bodyPostM Fence.wide 0 P fn (ft F.w0 B0 F.L fun v H _=>φ v H) .ret a u->zpf .ret a u)(hs:Since F B0 B)
  (h:∀ O' u H,zpg H u->B.Le H->B4 L { F with ds:=[] } B O' κ H rs [] (fun vs=>φ (tup vs) H)) (hm:Xk F.ds=true:=by rfl):V P F B n O κ .ret zpf:=
 O3 hQ hs (hm:=hm) fun O' a u H fp _ hh=>by
  obtain⟨vs,h1,h2⟩:=jv L hh hrs (h O' u H hh.sub hh.base);exact⟨_,h1,h2⟩
end
end Go.V
namespace Go.V
def a7{X:Type}(φ:X->Heap->Prop):Prop:=∀ x H H',φ x H->Heap.Le H H'->φ x H'
def ExR{X:Type}(r:X->Res)(φ:X->Heap->Prop)(hφ:a7 φ):Res where
 P v H u C:=∃ x,φ x H/\(r x).P v H u C
 st:=fun⟨x,h1,h2⟩ hle hs hon hk=>⟨x,hφ _ _ _ h1 hle,(r x).st h2 hle hs hon hk⟩
section
def HasH.turnR{t:Nat}{r r':Res}(h:HasH F B O n κ a u H fp)(hk:κ t=some (.own r))(hr:r'.P (a.eval (.tmp t)) H u (fp t)):HasH F B O n (upd κ t (.own r')) a u H fp:=by
 refine⟨h.size,h.defers,h.nodup,h.marks,h.lent,h.keep,h.sub,h.base,h.fresh,h.boxes,h.apart,fun s k hs=>?_,fun s q r1 r2 hsq h1 h2=>?_,fun s k hs=>?_⟩
 ·by_cases hst:s=t
  ·subst hst;rw[xj] at hs;cases hs;exact⟨hr,(h.slot s _ hk).2⟩
  ·rw[xd _ _ hst] at hs;exact h.slot s k hs
 ·have key:∀ x r,upd κ t (.own r') x=some (.own r)->∃ r2,κ x=some (.own r2):=fun x r hx=>by
   by_cases hxd:x=t
   ·subst hxd;exact⟨_,hk⟩
   ·rw[xd _ _ hxd] at hx;exact⟨_,hx⟩
  obtain⟨_,k1⟩:=key _ _ h1;obtain⟨_,k2⟩:=key _ _ h2;exact h.owns s q _ _ hsq k1 k2
 ·by_cases hst:s=t
  ·subst hst;rw[xj] at hs;cases hs;trivial
  ·rw[xd _ _ hst] at hs;exact h.mono s k hs
def Has.opnX{X:Type}{t:Nat}{r:X->Res}{φ:X->Heap->Prop}{hφ:a7 φ}(hk:κ t=some (.own (ExR r φ hφ)))(h:Has F B O n κ a u):∃ x H,Since F B H/\φ x H/\Has F H O n (upd κ t (.own (r x))) a u:=by
 obtain⟨H,fp,h⟩:=h;obtain⟨⟨x,h1,h2⟩,_⟩:=h.slot t _ hk;exact⟨x,H,h.isSince,h1,H,fp,(h.turnR hk h2).rebase⟩
def Has.clsX{X:Type}{t:Nat}{r:X->Res}{φ:X->Heap->Prop}(hφ:a7 φ)(x:X)(hx:φ x B)(hk:κ t=some (.own (r x)))(h:Has F B O n κ a u):Has F B O n (upd κ t (.own (ExR r φ hφ))) a u:=by
 obtain⟨H,fp,h⟩:=h;exact⟨H,fp,h.turnR hk ⟨x,hφ _ _ _ hx h.base,(h.slot t _ hk).1⟩⟩
def vm{X:Type}(t:Nat){r:X->Res}{φ:X->Heap->Prop}{hφ:a7 φ}(hk:κ t=some (.own (ExR r φ hφ)))(h:∀ x H,Since F B H->φ x H->V P F H n O (upd κ t (.own (r x))) c zpf):V P F B n O κ c zpf:=fun a u hh=>by
 obtain⟨x,H,hs,hx,hh'⟩:=hh.opnX hk;exact h x H hs hx a u hh'
def zcw{X:Type}(t:Nat){r:X->Res}{φ:X->Heap->Prop}{hφ:a7 φ}(hk:κ t=some (.own (ExR r φ hφ)))(h:∀ x H,Since F B H->φ x H->VO P F H n O ops (upd κ t (.own (r x))) os zpf):VO P F B n O ops κ os zpf:=fun a u hh=>by
 obtain⟨x,H,hs,hx,hh'⟩:=hh.opnX hk;exact h x H hs hx a u hh'
def ow{X:Type}(t:Nat){r:X->Res}{φ:X->Heap->Prop}(hφ:a7 φ)(x:X)(hx:φ x B)(hk:κ t=some (.own (r x)))(h:V P F B n O (upd κ t (.own (ExR r φ hφ))) c zpf):V P F B n O κ c zpf:=fun a u hh=>h a u (hh.clsX hφ x hx hk)
def ei{X:Type}(t:Nat){r:X->Res}{φ:X->Heap->Prop}(hφ:a7 φ)(x:X)(hx:φ x B)(hk:κ t=some (.own (r x)))(h:N F B n O (upd κ t (.own (ExR r φ hφ))) zpf):N F B n O κ zpf:=fun a u hh=>h a u (hh.clsX hφ x hx hk)
end
def ut{α:Type}{f:α->List Value}(hf:∀ a,(f a).length=s):∀ (l:List α) (i:Nat) (a:α),l[i]?=some a->((l.flatMap f).drop (i*s)).take s=f a
 | [],_,_,h=>by simp at h
 | z::l,0,a,h=>by simp at h;subst h;rw[Nat.zero_mul,zl7,zl3,zn2 (by rw[hf];exact ns _),zle (by rw[hf];exact ns _)]
 | z::l,i+1,a,h=>by
  simp only[zmm] at h;rw[<-ut hf l i a h,zl3];congr 1;have e:(i+1)*s=(f z).length+i*s:=by rw[hf,zmo];omega
  rw[e,<-zlz,zm6]
def wg{f:α->List Value}(hf:∀ a,(f a).length=s)(l:List α):(l.flatMap f).length=l.length*s:=by
 induction l with
 | nil=>simp
 | cons a l ih=>rw[zl3,nr,ih,hf,ny,zmo,znn]
def xi{l:List α}(h:i<l.length):∃ a,l[i]?=some a:=⟨l[i],zlh h⟩
def get_lt{l:List α}{a:α}(h:l[i]?=some a):i<l.length:=by
 rcases m5 i l.length with h' | h'
 ·exact h'
 ·rw[zld h'] at h;cases h
def ky(h:SlV e s xs n fu v H):∃ p c,v=.slice p n c:=by
 obtain⟨_,⟨h0,p,rfl⟩ | ⟨b,off,cap,cs,ty0,fr,rfl,_⟩⟩:=h
 ·exact⟨p,0,by rw[h0]⟩
 ·exact⟨_,_,rfl⟩
def s5{s n c:Nat}(h:SlV e s xs n fu (.slice none n c) H):n=0/\c=0:=by
 obtain⟨_,⟨h0,p,e⟩ | ⟨b,off,cap,cs,ty0,fr,e,_⟩⟩:=h
 ·cases e;exact⟨h0,rfl⟩
 ·cases e
end Go.V
namespace Go.V
variable       {R:Exit->Act->World->Prop}
def zh8(P:Program)(F:Fr)(_:Heap)(_:Nat)(R:Exit->Act->World->Prop)(y:Code)(zpf:Exit->Act->World->Prop):Prop:=
 (∀ a u,R .normal a u->y.wpIn (FW F.r) 0 P zpf a u)/\∀ e a u,e≠.normal->R e a u->zpf e a u
def f8(Fk:zpa->List (Nat×Kn))(I:zpa->Prop)(Ob:zpa->Boxes){y:Code}(hy:∀ t,I t->V P F B n (Ob t) (ofL (Fk t)) y zpf):
  zh8 P F B n (Exit.then (fun a u=>∃ t,I t/\Has F B (Ob t) n (ofL (Fk t)) a u) zpf) y zpf:=
 ⟨fun a u ⟨t,hI,hh⟩=>hy t hI a u hh,fun e a u he h=>by cases e<;>first | exact ni rfl he | exact h⟩
def ju{Fk:zpa->List (Nat×Kn)}{I:zpa->Prop}{Ob:zpa->Boxes}(t:zpa)(hs:Since F B0 B)(hI:I t)(hO:O=Ob t)(hl:LiveOK (Fk t) κ):
  N F B n O κ (Exit.then (fun a u=>∃ t,I t/\Has F B0 (Ob t) n (ofL (Fk t)) a u) zpf):=fun _ _ hh=>⟨t,hI,hO ▸ (hh.live hl).since hs⟩
section
def di(L:Tabs P){z:Nat}{X:Type}(f:X->List Value)(ψ:X->Heap->Prop)(hψ:a7 ψ)
  (hφ:∀ v H,φ v H->∃ x,ψ x H/\kx v=f x) (hf:∀ x,(f x).length=z/\(f x).all vj=true)
  (hg:gK ops κ ⟨none,.store t (.tmp s) (.tmp q),ty,pos,aft,g⟩=some true) (hk:κ s=some (.own (Cell cs t'))) (hx:κ q=some (.sat φ))
  (hl:L.ld t=some (ag,z)) (hcs:cs.length=z):
  StepOK P F B n ops O κ ⟨none,.store t (.tmp s) (.tmp q),ty,pos,aft,g⟩ s (.own (ExR (fun x=>Cell (f x) t') ψ hψ)):=by
 rintro κ' a u hlk ⟨H,fp,hh⟩;unfold After;rw[na (xf hh hlk hg)];have e:=hh.env hlk;obtain⟨x,hx1,hx2⟩:=hφ _ _ (e.sat_ q _ (by simp [Op.operands]) hx);have hks:κ' s=some (.own (Cell cs t')):=(hlk s (pf (by simp [Op.operands]))).trans hk;obtain⟨⟨b,hes,hb,hC⟩,hM⟩:=hh.slot s _ hks
 have hrun:(execOp a.eval ⟨none,.store t (.tmp s) (.tmp q),ty,pos,aft,g⟩).run P u=.ok .skip (u.setRow b (f x).toArray):=by
  simp only[execOp,hes,Instr.storeAt,Instr.sureAddr,nu,me,ma];have:=uy (P:=P) (off:=0) (v:=a.eval (.tmp q)) (Tabs.ld_spec hl) hb (by rw[hx2];exact(hf x).1) T (by rw[hx2];exact(hf x).2);rw[this,hx2,List.drop_of_length_le T];simp
 rw[hrun];simp only[Upon,Act.put];have hset:=setRow_heap u b cs.toArray (f x).toArray t' (0,0) hb;have hbm:=hM b ((hC b).2 rfl)
 have:=hh.usePut (d:=s) (a':=a) (r':=ExR (fun x=>Cell (f x) t') ψ hψ) (C:=fun k=>k=b) hks (ww hh.sub hb ((hC b).2 rfl) hbm.2.1 _) rfl rfl (fun _ _=>rfl) ⟨x,hx1,b,hes,hset,fun _=>Iff.rfl⟩ (fun k hk=>by
  subst hk;exact⟨.inl ((hC k).2 rfl),by rw[setRow_size];exact hbm.1,hbm.2.1⟩)
 rw[jo] at this;exact⟨H,_,this⟩
end
end Go.V
namespace Go.V
def okB(c:UInt8):Bool:=(97<=c && c<=122) || (48<=c && c<=57)
def chk(s:ByteArray):Int:=if 1<=s.size/\s.size<=16/\s.data.toList.all okB=true then 0 else 6
def fk(s:ByteArray):chk s=0\/chk s=6:=by unfold chk;split<;>simp
def Vo{s:ByteArray}(h:¬ (1<=s.size/\s.size<=16)):chk s=6:=by
 unfold chk;rw[if_neg];intro h';exact h ⟨h'.1,h'.2.1⟩
def ze0{s:ByteArray}(h1:1<=s.size)(h2:s.size<=16)(h:s.data.toList.all okB=true):chk s=0:=by
 unfold chk;rw[if_pos ⟨h1,h2,h⟩]
def Vp{s:ByteArray}{k:Nat}{c:UInt8}(hc:s[k]?=some c)(h:okB c=false):chk s=6:=by
 unfold chk;rw[if_neg];rintro⟨_,_,hall⟩
 have hm:c∈s.data.toList:=by
  have:s.data[k]?=some c:=hc;exact Array.mem_toList_iff.2 (Array.mem_of_getElem? this)
 rw[zlj] at hall;rw[hall c hm] at h;cases h
def getElem?_lt{s:ByteArray}{k:Nat}(h:k<s.size):∃ c,s[k]?=some c:=⟨s[k],by rw[getElem?_pos]⟩
def M4{s:ByteArray}{k:Nat}{c:UInt8}(hc:s[k]?=some c)(h:okB c=true)(ha:(s.data.toList.take k).all okB=true):(s.data.toList.take (k+1)).all okB=true:=by
 have hd:s.data.toList[k]?=some c:=by
  have:s.data[k]?=some c:=hc;simpa using this
 rw[zlc,hd];simp [zoh,ha,h]
def uq(s:ByteArray):s.data.toList.length=s.size:=by rw[zlw];rfl
def zbn{s:ByteArray}{k:Nat}(h:s.size<=k)(ha:(s.data.toList.take k).all okB=true):s.data.toList.all okB=true:=by
 rwa [zle (by rw[uq];exact h)] at ha
def ziq(c:UInt8):(c.toNat:Int)<256:=by have:=c.toNat_lt;omega
def zje{c:UInt8}(h1:(c.toNat:Int)<97)(h2:(c.toNat:Int)<48):okB c=false:=by
 simp [okB,zn4];omega
def zjd{c:UInt8}(h1:(c.toNat:Int)<97)(h2:57<(c.toNat:Int)):okB c=false:=by
 simp [okB,zn4];omega
def zjc{c:UInt8}(h1:122<(c.toNat:Int)):okB c=false:=by
 simp [okB,zn4];omega
def zjb{c:UInt8}(h1:¬ (c.toNat:Int)<97)(h2:¬ 122<(c.toNat:Int)):okB c=true:=by
 simp [okB,zn4];omega
def zja{c:UInt8}(h1:¬ (c.toNat:Int)<48)(h2:¬ 57<(c.toNat:Int)):okB c=true:=by
 simp [okB,zn4];omega
def zb1(h:vs[j]?=some v):(vs.drop (j*1)).take 1=[v]:=by
 obtain⟨hl,he⟩:=zl5.1 h;rw[zmh,zl9 hl,he];rfl
def zge{l:List ByteArray}{s:ByteArray}(h:l[j]?=some s):((l.map Value.string).drop (j*1)).take 1=[.string s]:=zb1 (by simp [h])
end Go.V
end
