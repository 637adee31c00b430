/- TopRead returns true for every input, and leaves it as it was: no condition. -/
import Derived.Test.YtooecmiihjampaaGreatTopReadM6
import Derived.ProofKit
import Derived.HandedShaped
import Derived.OpenShut
import Derived.Deep.Slices
import Derived.Test.YtooecmiihjampaaGreatRows
set_option linter.unusedVariables false
set_option linter.unusedSimpArgs false
set_option maxRecDepth 20000
set_option maxHeartbeats 8000000
set_option linter.defProp false
open Go.Proofs Go.RowKit
section
variable{l s t:List Go.V.L2.U}{cs:List (List Go.Value)}{ks:List Go.V.L11.K3}{vs:List Go.Value}{P:Go.Program}{v:Go.Value}{B:Go.V.Heap}{fu:Bool}{w:Go.World}{A Y:Prop}
section
open Go.V
attribute [local irreducible] Has N Par Ret RetL Src StepOK V VO X
namespace Go.V.L11
open Go.V.L2 Go.V.L3 Go.V.L4 Go.V.L6 Go.V.L8 Go.V.L10
def zff{la:Option U}{t:U}:za1 la t=true↔∀ y,la=some y->kw y t<0:=by
 cases la with
 | none=>exact⟨fun _ y h=>(by cases h),fun _=>rfl⟩
 | some y=>exact⟨fun h z hz=>(by cases hz;exact nj h),fun h=>nf (h y rfl)⟩
def Q0{l:List U}:∀ {cs:List CH} {la:Option U},zin l la cs↔((∀ c∈cs,tE c.1=0/\decide (c.1∈l)=c.2/\∀ y,la=some y->kw y c.1<0)/\Mq cs)
 | [],_=>⟨fun _=>⟨(fun _ h=>by cases h),Sst.nil⟩,fun _=>trivial⟩
 | c::cs,la=>by
  have ih:=Q0 (l:=l) (cs:=cs) (la:=some c.1);constructor
  ·rintro⟨h1,h2,h3,h4⟩;obtain⟨h4,h5⟩:=ih.1 h4;have hb:=zff.1 h2;refine⟨fun d hd=>?_,mo.2 ⟨fun a ha=>?_,h5⟩⟩
   ·rcases ma.1 hd with rfl | hd
    ·exact⟨h1,h3,hb⟩
    ·obtain⟨g1,g2,g3⟩:=h4 d hd;exact⟨g1,g2,fun y hy=>cmpT_ord.tr (hb y hy) (g3 _ Z)⟩
   ·obtain⟨d,hd,rfl⟩:=zoz.1 ha;exact(h4 d hd).2.2 _ Z
  ·rintro⟨h1,h2⟩;have h3:=mo.1 h2;obtain⟨g1,g2,g3⟩:=h1 c (mc ..);exact⟨g1,zff.2 g3,g2,ih.2 ⟨fun d hd=>⟨(h1 d (mh _ hd)).1,(h1 d (mh _ hd)).2.1,fun y hy=>by cases hy;exact h3.1 _ (zq7 (f:=(·.1)) hd)⟩,h3.2⟩⟩
def sk{x:U}:∀ {l:List U},l.Nodup->x∈l->(l.filter fun z=>decide (z≠x)).length+1=l.length
 | [],_,h=>by cases h
 | y::l,hn,h=>by
  obtain⟨h1,h2⟩:=zra.1 hn;by_cases e:y=x
  ·subst e;have he:(l.filter fun z=>decide (z≠y))=l:=zrh.2 fun a ha=>nf (fun e:a=y=>h1 (e ▸ ha));rw[zrk (by simp),nz,he]
  ·rw[zqt (by simp [e]),nz,nz,sk h2 ((ma.1 h).resolve_left fun h=>e h.symm)]
def Mm(l:List U)(c:CH)(cs:List CH):s8 l (c::cs)=s8 (wo l c.1 c.2).1 cs:=rfl
def zd6(l:List U)(a b:List CH):s8 l (a++b)=s8 (s8 l a) b:=List.foldl_append ..
def Ml:∀ {cs:List CH} {l:List U},SOK l->(∀ c∈cs,c.2=true/\tE c.1=0/\c.1∈l)->cs.Pairwise (fun a b=>a.1≠b.1)->SOK (s8 l cs)/\(∀ z,z∈s8 l cs↔z∈l/\∀ c∈cs,c.1≠z)/\(s8 l cs).length+cs.length=l.length
 | [],l,h,_,_=>⟨h,fun z=>⟨fun h=>⟨h,(fun _ h=>by cases h)⟩,fun h=>h.1⟩,rfl⟩
 | c::cs,l,h,hc,hp=>by
  obtain⟨g1,g2,g3⟩:=hc c (mc ..);have hw:wo l c.1 c.2=(l.filter fun z=>decide (z≠c.1),0):=by unfold wo;rw[if_pos g2,if_pos g1]
  have hp2:=mo.1 hp;have hS:SOK (l.filter fun z=>decide (z≠c.1)):=⟨h.sst.sublist zqd,fun t ht=>h.tz t (zo3.1 ht).1,fun t ht=>h.ok t (zo3.1 ht).1⟩
  obtain⟨i1,i2,i3⟩:=Ml (cs:=cs) hS (fun d hd=>⟨(hc d (mh _ hd)).1,(hc d (mh _ hd)).2.1,zo3.2 ⟨(hc d (mh _ hd)).2.2,nf (hp2.1 d hd).symm⟩⟩) hp2.2;rw[Mm,hw];refine⟨i1,fun z=>?_,?_⟩
  ·rw[i2,zo3];constructor
   ·rintro⟨⟨h1,h2⟩,h3⟩;exact⟨h1,fun d hd=>(ma.1 hd).elim (fun e=>by subst e;exact fun e=>nj h2 e.symm) (h3 d)⟩
   ·rintro⟨h1,h2⟩;exact⟨⟨h1,nf fun e=>h2 c (mc ..) e.symm⟩,fun d hd=>h2 d (mh _ hd)⟩
  ·have:=sk (h.sst.nodup cmpT_ord) g3;rw[nz];dsimp only at i3 |-;omega
def tz_of{t:U}(h:tE t=0):TZ t:=by
 have h6:=zfs h;obtain⟨⟨⟨a,b⟩,c⟩,⟨d,e⟩,f⟩:=t;simp only[u6,ma,zqp,or_false,forall_eq_or_imp,forall_eq] at h6;unfold TZ;dsimp only;omega
def Re:∀ {cs:List CH} {l:List U},SOK l->(∀ c∈cs,c.2=false/\tE c.1=0/\c.1∉l)->cs.Pairwise (fun a b=>a.1≠b.1)->l.length+cs.length<=4096->SOK (s8 l cs)/\(∀ z,z∈s8 l cs↔z∈l\/∃ c∈cs,c.1=z)/\(s8 l cs).length=l.length+cs.length
 | [],l,h,_,_,_=>⟨h,fun z=>⟨.inl,fun h=>h.elim id (fun⟨_,h,_⟩=>by cases h)⟩,rfl⟩
 | c::cs,l,h,hc,hp,hn=>by
  obtain⟨g1,g2,g3⟩:=hc c (mc ..);rw[nz] at hn;have hw:wo l c.1 c.2=(oe kw c.1 l,0):=by unfold wo;rw[if_pos g2,g1,if_neg E,if_neg g3,if_neg T]
  have hp2:=mo.1 hp;have hS:SOK (oe kw c.1 l):=⟨d7 cmpT_ord h.sst g3,fun t ht=>(ub.1 ht).elim (fun e=>e ▸ tz_of g2) (h.tz t),fun t ht=>(ub.1 ht).elim (fun e=>e ▸ g2) (h.ok t)⟩
  obtain⟨i1,i2,i3⟩:=Re (cs:=cs) hS (fun d hd=>⟨(hc d (mh _ hd)).1,(hc d (mh _ hd)).2.1,fun hm=>(ub.1 hm).elim (fun e=>hp2.1 d hd e.symm) (hc d (mh _ hd)).2.2⟩) hp2.2 (by rw[ww];omega);rw[Mm,hw];rw[ww] at i3;refine⟨i1,fun z=>?_,by rw[List.length_cons];dsimp only at i3 |-;omega⟩;rw[i2,ub];constructor
  ·rintro((e | h) | ⟨d,hd,e⟩)
   ·exact .inr ⟨c,mc ..,e.symm⟩
   ·exact .inl h
   ·exact .inr ⟨d,mh _ hd,e⟩
  ·rintro(h | ⟨d,hd,e⟩)
   ·exact .inl (.inr h)
   ·rcases ma.1 hd with rfl | hd
    ·exact .inl (.inl e.symm)
    ·exact .inr ⟨d,hd,e⟩
def l4{cs:List CH}{c:CH}:c∈Hu cs↔c∈cs/\c.2=false:=by unfold Hu;rw[List.mem_filter];simp
def bi{cs:List CH}{c:CH}:c∈dz cs↔c∈cs/\c.2=true:=by unfold dz;rw[List.mem_filter]
def Qs{cs:List CH}(hs:SOK s)(hk:zin s none cs):SOK (s8 s (dz cs))/\(∀ z,z∈s8 s (dz cs)↔z∈s/\∀ c∈cs,c.1≠z)/\(s8 s (dz cs)).length+(dz cs).length=s.length:=by
 obtain⟨h1,h2⟩:=Q0.1 hk;obtain⟨i1,i2,i3⟩:=Ml (cs:=dz cs) hs (fun c hc=>⟨(bi.1 hc).2,(h1 c (bi.1 hc).1).1,nj ((h1 c (bi.1 hc).1).2.1.trans (bi.1 hc).2)⟩) ((r5 h2).filter _);refine⟨i1,fun z=>(i2 z).trans ⟨fun⟨h3,h4⟩=>⟨h3,fun c hc e=>?_⟩,fun⟨h3,h4⟩=>⟨h3,fun c hc=>h4 c (bi.1 hc).1⟩⟩,i3⟩
 cases hk:c.2 with
 | true=>exact h4 c (bi.2 ⟨hc,hk⟩) e
 | false=>exact of_decide_eq_false ((h1 c hc).2.1.trans hk) (e ▸ h3)
def zid{cs:List CH}(hs:SOK s)(hk:zin s none cs)(hl:s.length+(Hu cs).length<=4096+(dz cs).length):SOK (s8 s (dz cs++Hu cs))/\(∀ z,z∈s8 s (dz cs++Hu cs)↔(z∈s/\∀ c∈cs,c.1≠z)\/∃ c∈cs,c.2=false/\c.1=z)/\(s8 s (dz cs++Hu cs)).length+(dz cs).length=s.length+(Hu cs).length:=by
 obtain⟨h1,h2⟩:=Q0.1 hk;obtain⟨i1,i2,i3⟩:=Qs hs hk;obtain⟨j1,j2,j3⟩:=Re (cs:=Hu cs) i1 (fun c hc=>⟨(l4.1 hc).2,(h1 c (l4.1 hc).1).1,fun hm=>((i2 _).1 hm).2 c (l4.1 hc).1 rfl⟩) ((r5 h2).filter _) T;rw[zd6];refine⟨j1,fun z=>?_,by omega⟩;rw[j2,i2];exact or_congr Iff.rfl ⟨fun⟨c,hc,e⟩=>⟨c,(l4.1 hc).1,(l4.1 hc).2,e⟩,fun⟨c,hc,h,e⟩=>⟨c,l4.2 ⟨hc,h⟩,e⟩⟩
def Ys{s t:List U}(hs:SOK s)(ht:SOK t):zin s none (Dt s t):=Q0.2 ⟨fun c hc=>by
 rw[u4] at hc;exact⟨hc.1.elim (fun h=>hs.ok _ h.1) fun h=>ht.ok _ h.2,hc.2.symm,fun _ h=>by cases h⟩,Hj s t⟩
def zdy(hs:SOK s)(ht:SOK t):t.length+(dz (Dt s t)).length=s.length+(Hu (Dt s t)).length:=by
 obtain⟨i1,i2,i3⟩:=Qs hs (Ys hs ht)
 have hp:(s8 s (dz (Dt s t))++(Hu (Dt s t)).map (·.1)).Perm t:=by
  refine(List.perm_ext_iff_of_nodup (List.nodup_append.2 ⟨i1.sst.nodup cmpT_ord,?_,?_⟩) (ht.sst.nodup cmpT_ord)).2 fun z=>?_
  ·exact List.pairwise_map.2 ((r5 (Hj s t)).filter _)
  ·intro a ha b hb e;obtain⟨c,hc,rfl⟩:=zoz.1 hb;exact((i2 a).1 ha).2 c (l4.1 hc).1 e.symm
  ·rw[mn,i2,zoz];constructor
   ·rintro(⟨h1,h2⟩ | ⟨c,hc,rfl⟩)
    ·exact Decidable.byContradiction fun h=>h2 (z,true) (u4.2 ⟨.inl ⟨h1,h⟩,(nf h1).symm⟩) Z
    ·have h1:=l4.1 hc;have h2:=u4.1 h1.1;rcases h2.1 with h | h
     ·exact ni h.1 (of_decide_eq_false (h2.2.symm.trans h1.2))
     ·exact h.2
   ·intro hz;by_cases h1:z∈s
    ·refine .inl ⟨h1,fun c hc e=>?_⟩;subst e;rcases(u4.1 hc).1 with h | h
     ·exact h.2 hz
     ·exact h.1 h1
    ·exact .inr ⟨(z,false),l4.2 ⟨u4.2 ⟨.inr ⟨h1,hz⟩,(ng h1).symm⟩,rfl⟩,rfl⟩
 have:=hp.length_eq;rw[nr,m4] at this;omega
def zdz(hs:SOK s)(ht:SOK t)(lt:t.length<=4096):s.length+(Hu (Dt s t)).length<=4096+(dz (Dt s t)).length/\s8 s (dz (Dt s t)++Hu (Dt s t))=t:=by
 have h0:=zdy hs ht;obtain⟨i1,i2,i3⟩:=zid hs (Ys hs ht) T;refine⟨by omega,fm cmpT_ord i1.sst ht.sst fun z=>?_⟩;rw[i2];constructor
 ·rintro(⟨h1,h2⟩ | ⟨c,hc,h1,rfl⟩)
  ·exact Decidable.byContradiction fun h=>h2 (z,true) (u4.2 ⟨.inl ⟨h1,h⟩,(nf h1).symm⟩) Z
  ·have h2:=u4.1 hc;rcases h2.1 with h | h
   ·exact ni h.1 (of_decide_eq_false (h2.2.symm.trans h1))
   ·exact h.2
 ·intro hz;by_cases h1:z∈s
  ·refine .inl ⟨h1,fun c hc e=>?_⟩;subst e;rcases(u4.1 hc).1 with h | h
   ·exact h.2 hz
   ·exact h.1 h1
  ·exact .inr ⟨(z,false),u4.2 ⟨.inr ⟨h1,hz⟩,(ng h1).symm⟩,rfl,rfl⟩
def kzs(ks:List K3):List (Int×List U):=ks.map fun k=>(k.1,k.2.2)
def kpi(ks:List K3):List Int:=ks.flatMap fun k=>List.replicate k.2.1 k.1
def KOK:List K3->Int->Prop
 | [],_=>True
 | k::ks,last=>last<k.1/\k.1<=18446744073709551615/\k.2.1<=4096/\SOK k.2.2/\k.2.2.length<=4096/\KOK ks k.1
def zni:SOK []:=⟨Sst.nil,(fun _ h=>by cases h),(fun _ h=>by cases h)⟩
def zka{bs rest:List Nat}{R:Rd}{n:Nat}(h0:R.err=0)(hn:n<18446744073709551616)(hd:bs.drop R.at_=gl n++rest):r7 bs R=(n,⟨R.at_+(gl n).length,R.bad,0⟩):=by
 unfold r7 dx;rw[Qa hn hd,h0,nc (fun h=>h rfl)];dsimp only;rw[nc (fun h=>h rfl)]
def ze2{bs rest:List Nat}:∀ {ks:List K3} {last:Nat} {s:List U} {acc:List (Int×List U)} {zs3:List Int} {R:Rd},R.err=0->SOK s->s.length<=4096->KOK ks last->bs.drop R.at_=Tm ks last s++rest->
  ldW bs ks.length last s acc zs3 R=(((acc++kzs ks,zs3++kpi ks),⟨R.at_+(Tm ks last s).length,R.bad,0⟩),(0,0))
 | [],last,s,acc,zs3,⟨a,b,e⟩,h0,_,_,_,_=>by
  dsimp only at h0;subst h0;show(((acc,zs3),(⟨a,b,0⟩:Rd)),((0:Int),(0:Int)))=(((acc++[],zs3++[]),⟨a+0,b,0⟩),(0,0));rw[mq,mq];rfl
 | (r,n,t)::ks,last,s,acc,zs3,R,h0,hs,hl,hk,hd=>by
  obtain⟨k1,k2,k3,k4,k5,k6⟩:=hk;dsimp only at k1 k2 k3 k4 k5 k6;obtain⟨st,rfl,hst⟩:∃ st:Nat,r=((last+st:Nat):Int)/\0<st:=⟨(r-last).toNat,by omega,by omega⟩
  unfold Tm at hd |-;dsimp only at hd |-;rw[show(((last+st:Nat):Int)-(last:Int)).toNat=st by omega] at hd |-;rw[mw,mw,mw] at hd;have h1:=zka h0 T hd;have h2:=Ql (lim:=4096) (R:=⟨R.at_+(gl st).length,R.bad,0⟩) rfl (Qa (n:=n) T (v6 hd)) rfl k3 E;have hb:=zdz hs k4 k5;have hbl:=Hk s t;have h3:=zhz (R:=⟨R.at_+(gl st).length+(gl n).length,R.bad,0⟩) rfl T (Ys hs k4) hb.1 (v6 (v6 hd));rw[hb.2] at h3;have ih:=ze2 (ks:=ks) (last:=last+st) (s:=t) (acc:=acc++[(((last+st:Nat):Int),t)]) (zs3:=zs3++List.replicate n ((last+st:Nat):Int)) (R:=⟨R.at_+(gl st).length+(gl n).length+(za0 (Dt s t)).length,R.bad,0⟩) rfl k4 k5 k6 (v6 (v6 (v6 hd)));rw[nz];unfold ldW;rw[h1];dsimp only;rw[nc (fun h=>h rfl),nc (fun h=>h ⟨hst,by omega⟩),h2];dsimp only;rw[nc (fun h=>h rfl),h3];dsimp only;rw[nc (fun h=>h rfl),zpf,ih];unfold kzs kpi;simp only[mz,zpm,mw,nr,zpd,mj,zrl]
def zkq(hk:KOK ks 0)(h0:0<ks.length)(h1:ks.length<=1024):ldF (Oi ks)=((kzs ks,kpi ks),(0,0)):=by
 have hd:(Oi ks).drop (⟨0,0,0⟩:Rd).at_=gl ks.length++(Tm ks (0:Nat) []++[]):=by rw[mq];rfl
 have h2:=Ql (lim:=1024) (R:=⟨0,0,0⟩) rfl (Qa (n:=ks.length) T hd) rfl h1 E;have h3:=ze2 (bs:=Oi ks) (acc:=[]) (zs3:=[]) (R:=⟨0+(gl ks.length).length,0,0⟩) rfl zni (mb _) hk (v6 hd);unfold ldF;rw[h2];dsimp only;rw[nc (fun h=>h rfl),nc T,zpf,h3];dsimp only;have he:Hb (Oi ks) ⟨0+(gl ks.length).length+(Tm ks (0:Nat) []).length,0,0⟩=(0,0):=zdc rfl (by unfold Oi;rw[List.length_append];dsimp only;exact(by simp));rw[nc (fun h=>h rfl),he,nc (fun h=>h rfl)];rfl
end Go.V.L11
namespace Go.V.L10
open Go.V.L2 Go.V.L8 Go.V.L6
attribute [local irreducible] RetO RetT kz RetX RetY
end Go.V.L10
namespace Go.V.L11
open Go.V.L2 Go.V.L3 Go.V.L4 Go.V.L6 Go.V.L8 Go.V.L10
attribute [local irreducible] XP LV RetO RetT kz RetX RetY Pan ik
def ze3(S:Sto):(Oe S).length=(jb S.R).length:=m4 ..
open Go.V.Bd
end Go.V.L11
namespace Go.V.L2
end Go.V.L2
namespace Go.V.L8
open Go.V.L2 Go.V.L3 Go.V.L6
attribute [local irreducible] RetO RetT kz
end Go.V.L8
namespace Go.V.L11
open Go.V.L2 Go.V.L3 Go.V.L4 Go.V.L6 Go.V.L8 Go.V.L10
def Uy{t:List U}(h:SOK t):∀ x∈t,∀ s∈u6 x,s.size<=1000:=fun x hx s hs=>mp (zfs (h.ok x hx) s hs) E
def zlc{s t:List U}(hs:SOK s)(ht:SOK t):∀ c∈Dt s t,∀ q∈u6 c.1,q.size<=1000:=fun c hc=>by
 rw[u4] at hc;rcases hc.1 with h | h
 ·exact Uy hs _ h.1
 ·exact Uy ht _ h.2
attribute [local irreducible] XP LV RetO RetT kz RetX RetY Pan ik
end Go.V.L11
end
namespace Go.V
inductive cz where
 | s
 | b
 | i (k:IntKind)
def zlp:cz->Value->Prop
 | .s,v=>∃ a:ByteArray,v=.string a/\a.size<=maxLen
 | .b,v=>∃ c,v=.bool c
 | .i k,v=>∃ n,v=.int k n/\(Lit.int k n).wf=true
def LeafsOK:List cz->List Value->Prop
 | [],[]=>True
 | l::ls,v::vs=>zlp l v/\LeafsOK ls vs
 | _,_=>False
def LeafsOK.append:∀ {a b:List cz} {x y:List Value},LeafsOK a x->LeafsOK b y->LeafsOK (a++b) (x++y)
 | [],_,[],_,_,h=>h
 | [],_,_::_,_,h,_=>h.elim
 | _::_,_,[],_,h,_=>h.elim
 | _::_,_,_::_,_,h,k=>⟨h.1,LeafsOK.append h.2 k⟩
def LeafsOK.length:∀ {a:List cz} {x:List Value},LeafsOK a x->x.length=a.length
 | [],[],_=>rfl
 | [],_::_,h=>h.elim
 | _::_,[],h=>h.elim
 | _::_,_::_,h=>by simp [LeafsOK.length h.2]
def zkk{ls:List cz}(h:LeafsOK (.s::ls) vs):∃ a r,vs=.string a::r/\a.size<=maxLen/\LeafsOK ls r:=by
 cases vs with
 | nil=>exact h.elim
 | cons v vs=>obtain⟨⟨a,rfl,ha⟩,h⟩:=h;exact⟨a,vs,rfl,ha,h⟩
def leaf_i{k:IntKind}{ls:List cz}(h:LeafsOK (.i k::ls) vs):∃ n r,vs=.int k n::r/\(Lit.int k n).wf=true/\LeafsOK ls r:=by
 cases vs with
 | nil=>exact h.elim
 | cons v vs=>obtain⟨⟨a,rfl,ha⟩,h⟩:=h;exact⟨a,vs,rfl,ha,h⟩
def zkl{ls:List cz}(h:LeafsOK (.b::ls) vs):∃ c r,vs=.bool c::r/\LeafsOK ls r:=by
 cases vs with
 | nil=>exact h.elim
 | cons v vs=>obtain⟨⟨a,rfl⟩,h⟩:=h;exact⟨a,vs,rfl,h⟩
def leaf_nil(h:LeafsOK [] vs):vs=[]:=by
 cases vs with
 | nil=>rfl
 | cons _ _=>exact h.elim
def zcw(P:Program)(rec:TypeId->Option (List cz)):List Field->Nat->Option (List cz)
 | [],_=>some []
 | f::fs,off=>match rec f.type with
  | some ls=>if f.offset=off/\P.cellsOf f.type=ls.length then
    match zcw P rec fs (off+ls.length) with
    | some r=>some (ls++r)
    | none=>none
   else none
  | none=>none
def zeq(ls:List cz):Nat->List cz
 | 0=>[]
 | n+1=>ls++zeq ls n
def leafI(P:Program):Nat->TypeId->Option (List cz)
 | 0,_=>none
 | d+1,t=>match P.underlying t with
  | some .string=>some [.s]
  | some (.int k)=>some [.i k]
  | some .bool=>some [.b]
  | some (.struct fs)=>match zcw P (leafI P d) fs.toList 0 with
   | some ls=>if P.cellsOf t=ls.length then some ls else none
   | none=>none
  | some (.array n e)=>match leafI P d e with
   | some ls=>if P.cellsOf e=ls.length/\P.cellsOf t=(zeq ls n).length then some (zeq ls n) else none
   | none=>none
  | _=>none
def Be{α β:Type}{f:α->Option β}:∀ {l:List α} {ys:List β},l.mapM f=some ys->∃ g:List β,g=ys/\(∀ x∈l,∃ y,f x=some y/\y∈ys)/\(∀ y∈ys,∃ x∈l,f x=some y)
 | [],ys,h=>by
  simp at h;subst h;exact⟨_,rfl,by simp,by simp⟩
 | x::l,ys,h=>by
  rw[List.mapM_cons] at h
  cases hx:f x with
  | none=>rw[hx] at h;cases h
  | some y=>
   rw[hx] at h
   cases hl:l.mapM f with
   | none=>rw[hl] at h;cases h
   | some zs=>
    rw[hl] at h;cases h;obtain⟨_,_,h1,h2⟩:=Be hl;refine⟨_,rfl,fun z hz=>?_,fun z hz=>?_⟩
    ·rcases ma.1 hz with rfl | hz
     ·exact⟨y,hx,mc ..⟩
     ·obtain⟨w,hw,hm⟩:=h1 z hz;exact⟨w,hw,mh _ hm⟩
    ·rcases ma.1 hz with rfl | hz
     ·exact⟨x,mc ..,hx⟩
     ·obtain⟨w,hw,hm⟩:=h2 z hz;exact⟨w,mh _ hw,hm⟩
def iu(cs:List Value)(off m r:Nat):(cs.drop off).take (m+r)=(cs.drop off).take m++(cs.drop (off+m)).take r:=by
 rw[List.take_add,zp6]
section
variable  {H:Type} {enc:TypeId×Value->H} {W:World} {sp:Nat->Bool} {held:Bool} {base:Nat}
def cj:∀ (d:Nat) {t:TypeId} {ls:List cz},leafI P d t=some ls->∀ {fuel:Nat} {cs:List Value} {x:DataW H×List MemPlace},
  DataW.trod enc P W base sp held fuel t cs=some x->LeafsOK ls cs/\x.2=[]
 | 0,_,_,h,_,_,_,_=>by cases h
 | d+1,t,ls,h,fuel,cs,x,hx=>by
  have ih:=@cj d
  cases fuel with
  | zero=>simp [DataW.trod] at hx
  | succ fuel=>
   rw[leafI] at h;unfold DataW.trod at hx
   cases hu:P.underlying t with
   | none=>rw[hu] at h;cases h
   | some ds=>
    rw[hu] at h hx;cases ds<;>first | (cases h;done) | skip
    ·cases h
     match cs,hx with
     | [.bool b],hx=>cases hx;exact⟨⟨⟨b,rfl⟩,nm⟩,rfl⟩
    ·rename_i k;cases h
     match cs,hx with
     | [.int k' m],hx=>
      simp only at hx;split at hx
      ·rename_i hk;obtain⟨rfl,hw⟩:=hk;cases hx;exact⟨⟨⟨m,rfl,hw⟩,nm⟩,rfl⟩
      ·cases hx
    ·cases h
     match cs,hx with
     | [.string s],hx=>
      simp only at hx;split at hx
      ·rename_i hs;cases hx;exact⟨⟨⟨s,rfl,hs⟩,nm⟩,rfl⟩
      ·cases hx
    ·rename_i n e;simp only at h hx;split at h
     ·rename_i l1 hl1;split at h
      ·rename_i hc;cases h;split at hx
       ·rename_i hlen;obtain⟨xs,hxs,rfl⟩:=zsv.1 hx;obtain⟨_,_,hall,hback⟩:=Be hxs
        have each:∀ i,i<n->LeafsOK l1 ((cs.drop (i*P.cellsOf e)).take (P.cellsOf e)):=fun i hi=>by
         obtain⟨y,hy,_⟩:=hall i (List.mem_range.2 hi);exact(ih hl1 hy).1
        have gen:∀ m k,k+m=n->LeafsOK (zeq l1 m) ((cs.drop (k*P.cellsOf e)).take (m*P.cellsOf e)):=by
         intro m
         induction m with
         | zero=>intro k _;simp [zeq,LeafsOK]
         | succ m ihm=>
          intro k hk;rw[show(m+1)*P.cellsOf e=P.cellsOf e+m*P.cellsOf e by rw[zp9];omega,iu];refine LeafsOK.append (each k T) ?_;rw[show k*P.cellsOf e+P.cellsOf e=(k+1)*P.cellsOf e by rw[zp9]];exact ihm (k+1) T
        refine⟨?_,?_⟩
        ·have:=gen n 0 T
         have hrl:∀ m,(zeq l1 m).length=m*P.cellsOf e:=by
          intro m
          induction m with
          | zero=>simp [zeq]
          | succ m ihm=>simp only[zeq,nr,ihm,hc.1];rw[zp9];omega
         rw[<-hrl n,<-hc.2,<-hlen] at this;simpa using this
        ·refine List.flatMap_eq_nil_iff.2 fun y hy=>?_;obtain⟨i,_,hi⟩:=hback y hy;exact(ih hl1 hi).2
       ·cases hx
      ·cases h
     ·cases h
    ·rename_i fs;simp only at h hx;split at h
     ·rename_i l1 hl1;split at h
      ·rename_i hc;cases h;split at hx
       ·rename_i hlen;obtain⟨xs,hxs,rfl⟩:=zsv.1 hx;obtain⟨_,_,hall,hback⟩:=Be hxs
        have gen:∀ (fl:List Field) (off:Nat) (ls:List cz),(∀ f∈fl,f∈fs.toList)->zcw P (leafI P d) fl off=some ls->
          LeafsOK ls ((cs.drop off).take ls.length)/\∀ f∈fl,∃ l,leafI P d f.type=some l:=by
         intro fl
         induction fl with
         | nil=>intro off ls _ h;cases h;simp [LeafsOK]
         | cons f fl ihf=>
          intro off ls hm h;simp only[zcw] at h;split at h
          ·rename_i l2 hl2;split at h
           ·rename_i hc2;obtain⟨rfl,hc3⟩:=hc2;split at h
            ·rename_i r hr;cases h;obtain⟨g1,g2⟩:=ihf _ _ (fun g hg=>hm g (mh _ hg)) hr;refine⟨?_,fun g hg=>?_⟩
             ·rw[nr,iu];refine LeafsOK.append ?_ g1;obtain⟨y,hy,_⟩:=hall f (hm f (mc ..));rw[<-hc3];exact(ih hl2 hy).1
             ·rcases ma.1 hg with rfl | hg
              ·exact⟨l2,hl2⟩
              ·exact g2 g hg
            ·cases h
           ·cases h
          ·cases h
        obtain⟨g1,g2⟩:=gen fs.toList 0 _ (fun _ h=>h) hl1;refine⟨?_,?_⟩
        ·rw[<-hc,<-hlen] at g1;simpa using g1
        ·refine List.flatMap_eq_nil_iff.2 fun y hy=>?_;obtain⟨f,hf,hi⟩:=hback y hy;obtain⟨l,hl⟩:=g2 f hf;exact(ih hl hi).2
       ·cases hx
      ·cases h
     ·cases h
def open_agg{t:TypeId}{ls:List cz}{b0:Nat}{dd:DataW H}{ps:List MemPlace}(h:leafI P 20 t=some ls)(ha:(match P.underlying t with | some (.struct _) | some (.array _ _)=>true | _=>false)=true)
  (hval:Value.okWide P W .any b0 t v) (hd:DataW.Trod enc P W base sp held t v dd ps):∃ cs:List Value,v=.agg cs.toArray/\LeafsOK ls cs/\ps=[]:=by
 obtain⟨fuel,hf⟩:=hd
 have key:∃ cs,v=.agg cs:=by
  unfold Value.okWide at hval;split at hval
  ·obtain⟨cs,hv,_⟩:=hval;exact⟨cs,hv⟩
  ·obtain⟨cs,hv,_⟩:=hval;exact⟨cs,hv⟩
  ·rename_i h1 h2;split at ha
   ·rename_i fs hu;exact ni hu (h1 fs)
   ·rename_i m e hu;exact ni hu (h2 m e)
   ·cases ha
 obtain⟨cs,rfl⟩:=key;obtain⟨h1,h2⟩:=cj 20 h hf;exact⟨cs.toList,by simp,h1,h2⟩
def zg3{t e:TypeId}{ls:List cz}{b0:Nat}{dd:DataW H}{ps:List MemPlace}(ht:P.underlying t=some (.slice e))(hlf:leafI P 20 e=some ls)(hce:P.cellsOf e=ls.length)
  (hval:Value.okWide P W .any b0 t v) (hd:DataW.Trod enc P W 0 (fun _=>true) held t v dd ps):
  ∃ cs:List (List Value),(∀ c∈cs,LeafsOK ls c)/\cs.length<=maxLen/\SlV e ls.length cs.flatten cs.length false v (hp W):=by
 obtain⟨fuel,hf⟩:=hd
 have hv:v=.slice none 0 0\/∃ a len cap,v=.slice (some a) len cap/\len<=cap/\cap<=maxLen/\a.spot=none/\∃ cs fr ty,W.heap[a.block]?=some (.cells cs ty fr):=by
  have h0:Cell.ok P W .any b0 t v:=by
   unfold Value.okWide at hval;rw[ht] at hval;unfold Cell.okWide at hval;rw[ht] at hval;exact hval
  unfold Cell.ok at h0;rw[ht] at h0
  match v,h0 with
  | .slice none 0 0,_=>exact .inl rfl
  | .slice (some a) len cap,h0=>
   obtain⟨h1,h2,_,h3,row,cells,h4,_⟩:=h0;have hm:IntKind.i64.max=9223372036854775807:=E;refine .inr ⟨a,len,cap,rfl,h1,by rw[hm] at h2;unfold maxLen;omega,h3,?_⟩;unfold World.shape? at h4;split at h4
   ·rename_i cs ty fr hh;exact⟨_,_,_,hh⟩
   ·cases h4
 rcases hv with rfl | ⟨a,len,cap,rfl,h1,h2,h3,cs,fr,ty,h4⟩
 ·exact⟨[],fun c h=>(nomatch h),mb _,SlV.nil⟩
 ·rcases Deep.open_slice ht (by simpa [Value.cells] using hf) with ⟨h,_⟩ | ⟨a',len',cap',m,nn,D,Pl,h5,_,_,_,hm,_,hx⟩
  ·cases h
  ·cases h5;simp only[if_true] at hm;rw[hm] at hx;clear hm
   obtain⟨C,hC⟩:=Deep.choose_lt (α:=List Value) (n:=cap) (p:=fun i c=>W.cells? 0 (a.add (i*P.cellsOf e)) (P.cellsOf e)=some c/\LeafsOK ls c) (fun i hi=>by
    obtain⟨c,g1,g2⟩:=hx i hi;exact⟨c,g1,(cj 20 hlf g2).1⟩)
   have hln:∀ i,i<cap->(C i).length=ls.length:=fun i hi=>(hC i hi).2.length;refine⟨(List.range len).map C,fun c hc=>?_,by simp;omega,?_⟩
   ·obtain⟨i,hi,rfl⟩:=zoz.1 hc;exact(hC i (by have:=List.mem_range.1 hi;omega)).2
   ·have hfl:∀ k,k<=cap->((List.range k).map C).flatten.length=k*ls.length:=by
     intro k
     induction k with
     | zero=>simp
     | succ k ih=>
      intro hk;rw[List.range_succ,zpb,List.flatten_append,nr,ih T,zp9];simp [hln k T]
    refine⟨by rw[hfl len h1,m4,List.length_range],.inr ⟨a.block,a.off,cap,cs,ty,fr,?_,h4,?_,by simpa using h1,fun h=>by cases h⟩⟩
    ·obtain⟨ab,ao,asp⟩:=a;simp only at h3;subst h3;simp
    ·rw[hfl len h1]
     have key:∀ k,k<=cap->(cs.toList.drop a.off).take (k*ls.length)=((List.range k).map C).flatten:=by
      intro k
      induction k with
      | zero=>simp
      | succ k ih=>
       intro hk;rw[zp9,iu,ih T,List.range_succ,zpb,List.flatten_append];congr 1;obtain⟨_,g2,g3⟩:=World.cells?_some (hC k T).1;simp only[mz,zph,List.flatten_cons,List.flatten_nil,mq];apply zsa;intro j;rcases m5 j ls.length with hj | hj
       ·have:=g3 j T;rw[<-this,zqi hj,zpw];obtain⟨ab,ao,asp⟩:=a;simp only at h3;subst h3;rw[vp,vp,kx h4];simp only[hce];rw[zrt]
       ·rw[zo1 (by rw[mi];omega),zo1 (by rw[hln k T];exact hj)]
     exact key len h1
end
end Go.V
namespace Go.V.L3
open Go.V.L2
def B4{n:Int}(h:Lit.wf (.int .u8 n)=true):∃ k:Nat,n=k/\k<=255:=by
 have hb:IntKind.u8.min<=n/\n<=IntKind.u8.max:=by simpa [Lit.wf] using h
 have hmin:IntKind.u8.min=0:=E;have hmax:IntKind.u8.max=255:=E;rw[hmin,hmax] at hb;exact⟨n.toNat,by omega,by omega⟩
def P1:∀ (cs:List (List Value)),(∀ c∈cs,LeafsOK [.i .u8,.i .u8] c)->∃ ps:List (Nat×Nat),cs.flatten=ps.flatMap pcs/\cs.length=ps.length/\∀ p∈ps,p.1<=255/\p.2<=255
 | [],_=>⟨[],rfl,rfl,fun n h=>by cases h⟩
 | c::cs,h=>by
  obtain⟨ps,h1,h2,h3⟩:=P1 cs fun x hx=>h x (mh _ hx);have hc:=h c (mc ..);obtain⟨n,r1,rfl,hw,hc⟩:=leaf_i hc;obtain⟨m,r2,rfl,hw2,hc⟩:=leaf_i hc;obtain rfl:=leaf_nil hc;obtain⟨n,rfl,hn⟩:=B4 hw;obtain⟨m,rfl,hm⟩:=B4 hw2;refine⟨(n,m)::ps,by rw[List.flatten_cons,zpm,h1];rfl,by rw[nz,nz,h2],fun p hp=>?_⟩;rcases ma.1 hp with rfl | hp
  ·exact⟨hn,hm⟩
  ·exact h3 p hp
def zme{cs:List (List Value)}(lcs:∀ c∈cs,LeafsOK [.i .u8,.i .u8] c)(zcs:cs.length<=maxLen){H:Heap}(hcs:SlV ty2 2 cs.flatten cs.length false v H):
  ∃ ps:List (Nat×Nat),(∀ p∈ps,p.1<=255/\p.2<=255)/\ps.length<=9223372036854775807/\PS2 ps false v H:=by
 obtain⟨ps,h1,h2,h3⟩:=P1 cs lcs;rw[h1,h2] at hcs;exact⟨ps,h3,by unfold maxLen at zcs;omega,hcs⟩
end Go.V.L3
namespace Go.V.L8
open Go.V.L2 Go.V.L3 Go.V.L6
def B6:∀ (cs:List (List Value)),(∀ c∈cs,LeafsOK [.i .u8,.i .u8,.i .u8] c)->∃ qs:List C3,cs.flatten=qs.flatMap qcs/\cs.length=qs.length/\∀ c∈qs,c.1<=255/\c.2.1<=255/\c.2.2<=255
 | [],_=>⟨[],rfl,rfl,fun n h=>by cases h⟩
 | c::cs,h=>by
  obtain⟨qs,h1,h2,h3⟩:=B6 cs fun x hx=>h x (mh _ hx);have hc:=h c (mc ..);obtain⟨n,r1,rfl,hw,hc⟩:=leaf_i hc;obtain⟨m,r2,rfl,hw2,hc⟩:=leaf_i hc;obtain⟨k,r3,rfl,hw3,hc⟩:=leaf_i hc;obtain rfl:=leaf_nil hc;obtain⟨n,rfl,hn⟩:=B4 hw;obtain⟨m,rfl,hm⟩:=B4 hw2;obtain⟨k,rfl,hk⟩:=B4 hw3;refine⟨(n,m,k)::qs,by rw[List.flatten_cons,zpm,h1];rfl,by rw[nz,nz,h2],fun p hp=>?_⟩;rcases ma.1 hp with rfl | hp
  ·exact⟨hn,hm,hk⟩
  ·exact h3 p hp
def zk4{cs:List (List Value)}(lcs:∀ c∈cs,LeafsOK [.i .u8,.i .u8,.i .u8] c)(zcs:cs.length<=maxLen){H:Heap}(hcs:SlV ty3 3 cs.flatten cs.length false v H):
  ∃ qs:List C3,(∀ c∈qs,c.1<=255/\c.2.1<=255/\c.2.2<=255)/\qs.length<=9223372036854775807/\PS3 qs false v H:=by
 obtain⟨qs,h1,h2,h3⟩:=B6 cs lcs;rw[h1,h2] at hcs;exact⟨qs,h3,by unfold maxLen at zcs;omega,hcs⟩
end Go.V.L8
namespace Go.V.L11
open Go.V Go.V.L2 Go.V.L3 Go.V.L4 Go.V.L6 Go.V.L8 Go.V.Bd Go.V.L10
def zfu(s:ByteArray):∀ b∈Ao s,b<=255:=fun b hb=>by
 unfold Ao at hb;rcases mn.1 hb with h | h
 ·exact Da _ b h
 ·exact zdu s b h
section
variable  {F:Fr}  {O:Boxes} {n:Nat} {ops:Array Oper} {κ:Kap} {d q:Nat} {ty:TypeId} {pos:String} {aft:Array Edge} {g:Option (Nat×Bool)}
end
attribute [local irreducible] V N X VO Par XP LV StepOK Has Ret RetL RetO RetT kz RetX RetY Pan ik Src
end Go.V.L11
namespace Go.V.L11
open Go.V.L2 Go.V.L3 Go.V.L4 Go.V.L6 Go.V.L8 Go.V.L10
structure LoOK(ks:List K3):Prop where
 k:KOK ks 0
 l0:0<ks.length
 l1:ks.length<=1024
def X4{f:Int->Nat×List U}:∀ {L:List Int} {last:Int},(∀ r∈L,last<r/\r<=18446744073709551615/\(f r).1<=4096/\SOK (f r).2/\(f r).2.length<=4096)->Sst cP L->KOK (L.map fun r=>(r,f r)) last
 | [],_,_,_=>trivial
 | r::L,last,h,hs=>by
  have h1:=mo.1 hs;obtain⟨a,b,c,d,e⟩:=h r (mc ..);exact⟨a,b,c,d,e,X4 (fun x hx=>⟨zab.1 (h1.1 x hx),(h x (mh _ hx)).2⟩) h1.2⟩
structure StoL(S:Sto):Prop where
 D:znx S
 last:(kpt S.R S.R.length).isSome=true
 pin:∀ r∈S.P,(kpt S.R r).isSome=true
 so:∀ r t,kpt S.R r=some t->SOK t
 cn:∀ r,List.count r S.P<=4096
def StoL.lo{S:Sto}(h:StoL S):LoOK (Oe S):=by
 have hk:=h.D.k0;have hl:=h.D.kl;have hr:=h.D.rl;refine⟨X4 (f:=fun r=>(List.count r S.P,tZ S r)) (fun r hm=>?_) (ek S.R),by rw[ze3];exact hk,by rw[ze3];exact hl⟩;have h1:=vl.1 hm;have h2:=bl h1;obtain⟨t,ht⟩:=zp1.1 h1;have h3:tZ S r=t:=by unfold tZ;rw[ht];rfl
 rw[h3];exact⟨h2.1,by omega,h.cn r,h.so r t ht,(h.D.tl r t ht).1⟩
def zh2(c:CH):∀ b∈chgB c,b<=255:=fun b hb=>by
 unfold chgB Pn v8 at hb;rcases mn.1 hb with h | h
 ·obtain⟨s,_,h⟩:=List.mem_flatMap.1 h;exact zfu s b h
 ·rw[m7] at h;subst h;split<;>decide
def zh1(cs:List CH):∀ b∈za0 cs,b<=255:=fun b hb=>by
 unfold za0 at hb;rcases mn.1 hb with h | h
 ·exact Da _ b h
 ·obtain⟨c,_,h⟩:=List.mem_flatMap.1 h;exact zh2 c b h
def Yp:∀ {ks:List K3} {last:Int} {s:List U},∀ b∈Tm ks last s,b<=255
 | [],_,_,_,h=>by cases h
 | k::ks,last,s,b,hb=>by
  unfold Tm at hb;rcases mn.1 hb with h | h
  ·rcases mn.1 h with h | h
   ·exact Da _ b h
   ·rcases mn.1 h with h | h
    ·exact Da _ b h
    ·exact zh1 _ b h
  ·exact Yp b h
def zhx{ks:List K3}:∀ b∈Oi ks,b<=255:=fun b hb=>by
 unfold Oi at hb;rcases mn.1 hb with h | h
 ·exact Da _ b h
 ·exact Yp b h
def Qt:∀ {ks:List K3} {last:Int} {s:List U},KOK ks last->0<=last->SOK s->s.length<=4096->(Tm ks last s).length<=ks.length*50000000
 | [],_,_,_,_,_,_=>nu _
 | (r,n,t)::ks,last,s,h,h0,hs,hl=>by
  obtain⟨k1,k2,k3,k4,k5,k6⟩:=h;dsimp only at k1 k2 k3 k4 k5 k6;have ih:=Qt k6 T k4 k5;have hb:=Hk s t;have hz:=zlc hs k4;have h1:=pj (n:=(r-last).toNat) T;have h2:=pj (n:=n) T;have h3:=pj (n:=(Dt s t).length) T;have h4:=Dq hz (Dt s t).length;rw[zoy] at h4;unfold Tm za0;simp only[nr,nz];omega
def LoOK.bytes(h:LoOK ks):(Oi ks).length<=52000000000/\0<(Oi ks).length:=by
 have h1:=Qt h.k (zqq 0) zni (mb _);have h2:=pj (n:=ks.length) (by have:=h.l1;omega);have h3:=h.l1;have h4:0<(gl ks.length).length:=by unfold gl;split<;>simp
 unfold Oi;rw[nr];omega
end Go.V.L11
namespace Go.V.Top
open Go.V.L2 Go.V.L4 Go.V.L6 Go.V.L8 Go.V.L10 Go.V.L11
abbrev zoe:ByteArray:=⟨#[100,111,99,58,97,35,118,105,101,119,101,114,64,117,115,101,114,58,120,10,100,111,99,58,98,35,118,105,101,119,101,114,64,117,115,101,114,58,120,10]⟩
def zoa:zax ptA zoe=([d0,d2],0,0):=by decide+kernel
abbrev q1:Sto:=⟨[some [],some [d0,d2]],[]⟩
abbrev q2:Sto:=⟨[some [],some [d0,d2]],[2]⟩
abbrev q3:Sto:=⟨[some [],some [d0,d2],some [d2]],[2]⟩
abbrev q4:Sto:=⟨[none,some [d0,d2],some [d2]],[2]⟩
def zjj:Bt newS [(d0,true)] [(d0,false),(d2,false)]=(q1,2,0):=J
def zng:zgs q1 2 false=(q2,0):=J
def zji:Bt q2 [(d0,false)] [(d0,true)]=(q3,3,0):=J
def znh:Ac q3 1=(q4,[1],0):=J
def zma:atS q4 2=([d0,d2],0):=J
def zmb:atS q4 0=([d2],0):=J
def zl8:zir [d0,d2] d0.2=[d0,d2]:=by decide+kernel
def zl9:zir [d2] d0.2=[d2]:=by decide+kernel
def zob:loS (kzs (Oe q4),kpi (Oe q4))=q4:=J
def zod:Ci q4 q4=true:=by unfold Ci;rw[Bool.and_eq_true];exact⟨decide_eq_true rfl,decide_eq_true rfl⟩
def zoc:JJ 1 q1/\JJ 2 q2/\JJ 3 q3/\JJ 4 q4:=by
 have z0:TZ d0:=Pi E;have z2:TZ d2:=Pi E;have e0:tE d0=0:=by decide+kernel
 have e2:tE d2=0:=by decide+kernel
 have j1:=zns ze5 E (fun c hc=>by
  simp only[ma,zp8,or_false] at hc;rcases hc with rfl | rfl
  ·exact⟨z0,e0⟩
  ·exact⟨z2,e2⟩) E zjj
 have j2:=zom j1 zng
 have j3:=zns j2 E (fun c hc=>by
  rw[m7] at hc;subst hc;exact⟨z0,e0⟩) E zji
 exact⟨j1,j2,j3,zon j3 znh⟩
open Go.V.L3
def _root_.ZfA(t:Wr Y->A:=by intro h;refine z8 (yh L 0 rfl Z Z Z E Z) Z ?_;exact h.1)(h:Y):A:=t ⟨h⟩
def zhl{n:Nat}{S:Sto}(hj:JJ n S)(hn:n<=100):StoL S:=by
 have hR:=hj.hR;have hP:=hj.hP;have hI:=hj.I hn;have hm:=vl.2 hj.last;refine⟨⟨hj.ne,by omega,List.length_pos_of_mem hm,hI.kl,mp (Cq (nu _)) T,by omega,fun r t ht=>⟨hI.tl r t ht,(hj.so r t ht).1.sst,Uy (hj.so r t ht).1⟩⟩,hj.last,hj.pin,fun r t ht=>(hj.so r t ht).1,fun r=>mp zsu T⟩
def zn9:psA ⟨#[117,115,101,114,58,120]⟩=(⟨#[117,115,101,114]⟩,⟨#[120]⟩,⟨#[]⟩,0):=by decide+kernel
attribute [local irreducible] V N X VO Par XP LV StepOK Has Ret RetL RetO RetT kz RetX RetY Pan ik Src
abbrev DmP(D:List Nat):Value->Heap->Prop:=TupS [BsV D true,fun v _=>v=.int .i64 0]
def DmP.mono{D:List Nat}:Kn.mono (.sat (DmP D)):=Np ns
def S6{bs:List Nat}{y:List (Int×List U)×List Int}{S:Sto}(h:ldF bs=(y,(0,0)))(hS:loS y=S)(hb:∀ b∈bs,b<=255)(hz:bs.length<=1099511627776)(hB:zs4 B w)(hv:BsV bs fu v B):
  RetO zs5 86 [v] w B (Ht (fun b=>.tuple #[eu b,.int .i64 0,.int .i64 0]) fun b=>StG b S):=by
 have h1:=zcq hb hz hB hv;rw[h] at h1;subst hS;exact zko Z h1
def Ew(hB:zs4 B w)(hM:GlobM B):Ret zs5 28 [] w B (fun v _=>v=.bool true):=by
 have z0:TZ d0:=Pi E;have z2:TZ d2:=Pi E;have m0:=zi2 z0;have m2:=zi2 z2
 have all:∀ l:List CH,(∀ c∈l,c.1=d0\/c.1=d2)->∀ c∈l,TM c.1:=fun l h c hc=>by
  rcases h c hc with e | e
  ·rw[e];exact m0
  ·rw[e];exact m2
 have j0:=ze5;obtain⟨j1,j2,j3,j4⟩:=zoc;have hL:=zhl j4 E;have hne:=j4.ne;have hlo:=hL.lo;have hDb:=zhx (ks:=Oe q4);obtain⟨hDl,hD0⟩:=hlo.bytes;have hld:=zkq hlo.k hlo.l0 hlo.l1;have hdmp:=fun {b:Nat} {u:World} {H:Heap} {C:Nat->Prop} (hH:zs4 H u) (hr:(StG b q4).P H u C) (hC:ZCB C u H)=>zde hL.D hH hr hC;generalize Oi (Oe q4)=D at hDl hD0 hDb hld hdmp
 have hs1:∀ {b b2:Nat} {u:World} {H:Heap} {C:Nat->Prop},zs4 H u->(gu (StG b q4) (StG b2 q4)).P H u C->(ZCB C u H)->RetY zs5 87 [eu b,eu b2] u H C (gu (StG b q4) (StG b2 q4)) (fun v _=>v=.bool true):=fun hH hr hC=>by
  have hts:∀ r t,kpt q4.R r=some t->t.length<=100000:=fun r t ht=>by have:=(hL.D.tl r t ht).1;omega
  have h:=R5 (A:=q4) (D:=q4) hne hne E E E E hts hts hH hr hC
  rwa [zod] at h
 have k1:Kn.mono (.sat (US [d0,d2] true)):=ns;have k2:Kn.mono (.sat (RsV [1] true)):=ns;have k3:Kn.mono (.sat (BsV D true)):=ns;refine yr Tryz.func28 Z Tryz.ntmps28 (np Z) hB (ZK (h:=?_));refine z7 (xg (φ:=TupS [US [d0,d2] true,fun v _=>v=.int .i64 0,fun v _=>v=.int .i64 0]) L Z Z (zm Z) Z Z Z (Lb ns) (fun u H hH hle _=>Mw zoa (np Z) hH (hM.mono hle))) Z ((Zh∘Zdp∘ZcR∘ZcR∘ZR∘ZaY∘Zv) ?_);refine z7 (wq L Z Z (zm Z) Z Z Z (fun u H hH hle _=>zby hH)) Z ?_;refine qg (yu (.inr Z) Z) (ZaC (h:=?_));refine Hr 4 900 rfl fun b=>?_;refine(Zr∘Zbf∘Za∘Zj) ?_;refine z7 (yx Z Z Z Z Z) Z (ZbI (h:=?_));refine z7 (u9 Z Z Z Z zkd Z) Z (Zcz (h:=?_));refine qn (id:=5) [(56,[900])] ko J ((Zl∘Zad∘ZfA∘Zc0) ?_);refine z8 (yv (cs:=[_,_,_,_,_,_,_]) Z Z znk Z Z) Z ((ZcF∘Zad∘ZfA∘Zc0∘ZeJ∘Zad) ?_);refine z8 (yh L 1 rfl Z Z Z E Z) Z ((Zc0∘ZeJ∘ZcF) ?_);refine kf (yk L 900 (StG b q1) (.tuple #[.int .u64 2,.int .i64 0]) (r:=StG b newS) Z Z Z Z Z (fun u H2 C2 hH hle hr2 hC2 v1 h1 v2 h2=>Py (Ed (l:=[(d0,true)]) (cs:=[(d0,false),(d2,false)]) (j0.I E) E j0.ne (all _ (by simp)) (all _ (by simp)) E E zjj hH (h1.toV (n:=1) Z) (h2.toV (n:=2) Z) hr2 hC2))) Z Z ?_;refine Zl (h:=?_);refine z8 (qm Z Z Z Z) Z (z8 (qm Z Z Z Z) Z ((ZaK∘Zbc) ?_));refine ZbF (h:=?_);refine qg (yk L 900 (StG b q2) (.int .i64 0) (r:=StG b q1) Z Z Z Z Z (fun u H2 C2 hH hle hr2 hC2=>Py (zbu j1.ne E zng hH hr2 hC2))) (Zd (h:=?_));refine qn (id:=7) [(74,[900])] ko J ((Zl∘Zad∘ZfA∘Zc0) ?_);refine z8 (yv (cs:=[_,_,_,_,_,_,_]) Z Z znk Z Z) Z ((ZcF∘Zad∘ZfA∘Zc0∘ZeJ∘ZcF) ?_);refine kf (yk L 900 (StG b q3) (.tuple #[.int .u64 3,.int .i64 0]) (r:=StG b q2) Z Z Z Z Z (fun u H2 C2 hH hle hr2 hC2 v1 h1 v2 h2=>Py (Ed (l:=[(d0,false)]) (cs:=[(d0,true)]) (j2.I E) E j2.ne (all _ (by simp)) (all _ (by simp)) E E zji hH (h1.toV (n:=1) Z) (h2.toV (n:=1) Z) hr2 hC2))) Z Z ?_;refine Zl (h:=?_);refine z8 (qm Z Z Z Z) Z (z8 (qm Z Z Z Z) Z ((ZaK∘Zbc) ?_));refine ZaI (h:=?_);refine qg (C5 L 900 (StG b q4) (zls [1] 0) (r:=StG b q3) Z Z Z Z Z (Np ns) (fun u H2 C2 hH hle hr2 hC2=>by have h:=Kr (keep:=1) j3.ne E E hH hr2 hC2;rw[znh] at h;exact h)) ?_;refine(Zh∘Zdp∘ZcR∘ZR∘Zd) ?_;refine Zaq (h:=?_);refine ye (vj L 900 (DmP D) (r:=StG b q4) Z Z Z Z Z DmP.mono (fun u H2 C2 hH hle hr2 hC2=>hdmp hH hr2 hC2)) ((Zh∘Zdp∘ZcR∘ZR∘Zd∘Z4∘Zh) ?_);refine z7 (wq L Z Z (zm Z) Z Z Z (fun u H hH hle _ v1 h1=>S6 hld zob hDb T hH h1)) Z ?_;refine Bw 89 902 rfl fun b2=>?_;refine(ZA∘Zb9∘Zcn) ?_;refine(ZG∘Zb∘Zay∘Za∘Zay∘Za∘Zay∘Za∘Zay∘Za∘Zay∘Zbf∘Zb∘Zbf∘ZbI∘Zbf∘Zi∘Za∘Zj) ?_;refine z7 (yx Z Z Z Z Z) Z ((Zi∘Z8) ?_);refine jv 900 902 rfl Z (xi (StG b2 q4)) ?_;refine ye (Lh L 900 (.bool true) (r:=gu (StG b q4) (StG b2 q4)) Z Z Z Z Z (fun u H2 C2 hH hle hr2 hC2=>hs1 hH hr2 hC2)) (Mx 900 902 rfl (xi (StG b2 q4)) ?_);refine(Zm∘Zcz) ?_;refine(Zae∘Za) ?_;refine ye (vj L 902 (WithP [d0,d2] 0) (r:=StG b2 q4) rfl rfl rfl rfl rfl WithP.mono (fun u H2 C2 hH hle hr2 hC2=>by have h:=Ng (r:=2) hne hH hr2 hC2;rw[zma] at h;exact h)) ?_;refine vo 126 rfl fun vx Kx hx hpx=>?_;obtain⟨svx,rfl,hsvx⟩:=hpx;obtain⟨fx,px,gx,qx,rfl,hplx⟩:=hsvx.shape;refine(ZA∘ZE∘Zb7∘Zd∘ZbL) ?_;refine ye (vj L 902 (WithP [d2] 0) (r:=StG b2 q4) rfl rfl rfl rfl rfl WithP.mono (fun u H2 C2 hH hle hr2 hC2=>by have h:=Ng (r:=0) hne hH hr2 hC2;rw[zmb] at h;exact h)) ?_;refine vo 131 rfl fun vy Ky hy hpy=>?_;obtain⟨svy,rfl,hsvy⟩:=hpy;obtain⟨fy,py,gy,qy,rfl,hply⟩:=hsvy.shape;refine(ZA∘ZE∘Zb7∘Zd∘Zaa) ?_;refine z71 L rfl (fun u H hH hle=>Ve zn9 (np rfl) hH (hM.mono (hx.le.trans (hy.le.trans hle)))) ?_;refine(ZA∘Za1∘Zd) ?_;have hsvx2:=hsvx.le hy.le;refine qn (id:=16) [] ko J ((Zp∘Zdm∘Zl∘Zdm∘Zdv∘Zl∘Zcj) ?_);refine z8 (zz L (vs:=[_,_,_]) (y7 Z) Z Z Z Z ⟨_,rfl⟩) Z (z8 (xg (φ:=US [d0,d2] true) L Z Z (zm Z) Z Z Z ns (fun u H hH hle _=>Pr zl8 E hH (hsvx2.le hle))) Z (ZeK (h:=?_)));refine z8 (yi Z Z Z Z Z) Z ((ZaB∘Zl∘Zcj) ?_);refine z8 (zz L (vs:=[_,_,_]) (y7 Z) Z Z Z Z ⟨_,rfl⟩) Z (z8 (xg (φ:=US [d2] true) L Z Z (zm Z) Z Z Z ns (fun u H hH hle _=>Pr zl9 E hH (hsvy.le hle))) Z (ZeK (h:=?_)));refine z8 (yi Z Z Z Z Z) Z ((ZaB∘Zl∘Zcj∘Zad) ?_);refine z8 (yh L 1 rfl Z Z Z E Z) Z (Zc0 (h:=?_));refine z81 L Z (fun u H hH hle=>jr (b:=true) E hH (hsvy.le hle)) ?_;refine(ZaB∘ZaS) ?_;refine yj L (rs:=[.tmp 0]) Z (fun _ _ h=>h) (hx.trans hy) fun u H hH hle=>?_;rfl
def tx{f:FT}(hs:Sst kw l)(h:fE f=0):zey l f=l.filter (xn f):=by
 unfold zey;rw[na h];rfl
def Uh{f g:FT}(h:am f g=true):(l.filter (xn f)).filter (xn g)=[]:=by
 rw[zse,zqf];intro t _;have h1:=M7 (t:=t) h;rw[Bool.and_comm,h1];decide
def zfv{f g:FT}(h:am f g=false):(l.filter (xn f)).filter (xn g)=l.filter (xn (T3 f g)):=by
 rw[zse];refine List.filter_congr fun t _=>?_;rw[Ul h,Bool.and_comm]
def Rx{f g:FT}(hs:Sst kw l)(hl:l.length<=4096):
  zew (fun a b=>a && b) (l.filter (xn f)) (l.filter (xn g))=((l.filter (xn f)).filter (xn g),0):=by
 have sa:Sst kw (l.filter (xn f)):=hs.sublist zqd;have sb:Sst kw (l.filter (xn g)):=hs.sublist zqd;have la:=zpp (xn f) l;have lb:=zpp (xn g) l;have ba:isB (l.filter (xn f))=true:=nf sa;have bb:isB (l.filter (xn g))=true:=nf sb;unfold zew;rw[nc T,ba,bb,na E];refine Prod.ext ?_ rfl;refine fm cmpT_ord (d6 cmpT_ord _ (nu _) sa sb) (sa.sublist zqd) fun z=>?_;rw[uz cmpT_ord _ (nu _) sa sb];simp only[zo3,Tk];by_cases h1:z∈l<;>cases h2:xn f z<;>cases h3:xn g z<;>simp [h1,h2,h3]
end Go.V.Top
namespace Go.Proofs
open Go.Shelf
end Go.Proofs
namespace Go.V.L2
open Go.V
end Go.V.L2
section
open Go.V
attribute [local irreducible] Has N Par Ret RetL RetO Src StepOK V VO X
namespace Go.V.L2
abbrev tcs(t:U):List Value:=[.string t.1.1.1,.string t.1.1.2,.string t.1.2,.string t.2.1.1,.string t.2.1.2,.string t.2.2]
attribute [local irreducible] RetT
abbrev BSF:Nat:=73
def Oy{t:U}(hz:l.length<=100000)(hs:Sst kw l){v:Value}(hB:zs4 B w)(hv:US l fu v B):
  Ret zs5 BSF [v,uv t,.func (.func 74) #[] #[]] w B (fun v _=>v=.tuple #[.int .i64 (ct kw t l:Nat),.bool (decide (t∈l))]):=by
 refine yr Tryz.func73 Z Tryz.ntmps73 (np Z) hB (k7 0 (US l fu) Z ns hv ((ZD∘Zs∘ZaW∘Zj∘ZaZ∘ZaY∘Zar) ?_))
 refine xp (fun s:Nat×Nat=>[(0,.sat (US l fu)),(2,.is (.func (.func 74) #[] #[])),(4,.sat (At (tcs t) tyU 0)),(8,.is (.int .i64 l.length)),(9,.is (.int .i64 s.1)),(10,.is (.int .i64 s.2))])
  (fun s=>s.1<=s.2/\s.2<=l.length/\(∀ (k:Nat) (x:U),k<s.1->l[k]?=some x->kw x t<0)/\∀ (k:Nat) (x:U),s.2<=k->l[k]?=some x->¬ kw x t<0) (fun s=>s.2-s.1) (0,l.length) ⟨mb _,nu _,fun k x h=>(by cases h),fun k x h hx=>(by rw[zo1 h] at hx;cases hx)⟩ ⟨rfl,rfl,rfl,rfl,rfl,rfl,nm⟩ ?_
 rintro⟨i,j⟩ ⟨hij,hjl,hlo,hhi⟩;dsimp only at hij hjl hlo hhi |-;by_cases hlt:i<j
 ·obtain⟨h,hh⟩:∃ h,h=(i+j)/2:=⟨_,rfl⟩
  have hsh:((i:Int)+(j:Int)).fdiv (2^min (1:Int).toNat IntKind.u64.bits)=(h:Int):=by
   show((i:Int)+(j:Int)).fdiv 2=(h:Int);rw[zri _ E];omega
  obtain⟨y,hy⟩:=xm (show h<l.length by omega);have hc:=pg hy;by_cases hcm:kw y t<0
  ·refine(ZbY∘ZbB∘ZcQ∘Zt∘Zb∘Zay) ?_;refine z7 (kr Z Z Z jo.1 jo.2 (wrap_u64 T T)) Z (Zdn (h:=?_));refine z7 (kr Z Z Z jp.1 jp.2 (xb T T)) Z ((Zd∘Ze8∘Zl∘ZaM∘Zbb) ?_);refine z81 L Z (fun u H hH _=>j8 hH) ?_;refine(ZcD∘ZbW∘ZL∘Zay∘Zag) ?_;exact yo (x:=(i,j)) (h+1,j) ⟨by dsimp only;omega,hjl,fun k x hk hx=>iv cmpT_ord hs hy hx (by dsimp only at hk;omega) hcm,hhi⟩ G ⟨Z,Z,Z,Z,Z,Z,trivial⟩
  ·refine(ZbY∘ZbB∘ZcQ∘Zt∘Zb∘Zay) ?_;refine z7 (kr Z Z Z jo.1 jo.2 (wrap_u64 T T)) Z (Zdn (h:=?_));refine z7 (kr Z Z Z jp.1 jp.2 (xb T T)) Z ((Zd∘Ze8∘Zl∘ZaM∘Zbb) ?_);refine z81 L Z (fun u H hH _=>j8 hH) ?_;refine(Zdg∘ZaL∘Z7∘Zag) ?_;exact yo (x:=(i,j)) (i,h) ⟨by dsimp only;omega,by dsimp only;omega,hlo,fun k x hk hx hcx=>hcm (iv cmpT_ord hs hx hy hk hcx)⟩ G ⟨Z,Z,Z,Z,Z,Z,trivial⟩
 ·obtain rfl:i=j:=by omega
  rw[Nt cmpT_ord hs hlo hhi hjl];by_cases hin:i<l.length
  ·obtain⟨y,hy⟩:=xm hin;have hc:=pg hy;have hm:=zex cmpT_ord hs hlo hy hhi;by_cases hcm:kw y t=0
   ·rw[nf (hm.2 hcm)];refine(ZbY∘Z0∘Za5∘ZcY∘Zbk∘ZcD∘Zp∘ZaM∘Zbb) ?_;refine z81 L Z (fun u H hH _=>j8 hH) ?_;refine(Zdv∘ZaB∘ZaK∘ZaS) ?_;exact yj2 L [.tmp 6,.tmp 7]
   ·rw[ng fun h=>hcm (hm.1 h)];refine(ZbY∘Z0∘Za5∘ZcY∘Zbk∘ZcD∘Zp∘ZaM∘Zbb) ?_;refine z81 L Z (fun u H hH _=>j8 hH) ?_;refine(ZcI∘ZaB∘ZaK∘ZaS) ?_;exact yj2 L [.tmp 6,.tmp 7]
  ·obtain rfl:i=l.length:=by omega
   rw[ng (Db cmpT_ord hlo)];refine(ZbY∘Z0∘Za5∘ZcY∘Zbk∘Zdg∘ZbM∘ZaB∘ZaK∘ZaS) ?_;exact yj2 L [.tmp 6,.tmp 7]
def zk1(l:List U)(t:U):Nat×Bool:=if isB l=true then (ct kw t l,decide (t∈l)) else (0,false)
def find_ret{t:U}{r:Nat×Bool}(hr:zk1 l t=r)(hz:l.length<=100000){v:Value}(hB:zs4 B w)(hv:US l fu v B):
  Ret zs5 25 [v,uv t] w B (fun v _=>v=.tuple #[.int .i64 r.1,.bool r.2]):=by
 subst hr;unfold zk1;refine yr Tryz.func25 Z Tryz.ntmps25 (np Z) hB (k7 0 (US l fu) Z ns hv ?_);cases h1:isB l
 ·rw[nc E];refine(ZD∘Zs∘ZH∘Zh) ?_;refine z7 (qb L Z Z (zm Z) Z Z Z (fun u H hH _ _ v1 hv1=>di T h1 hH hv1)) Z ((Zm∘Zn∘Zv∘ZI) ?_);exact yj2 L [.tmp 4,.tmp 5]
 ·rw[na rfl];have hs:Sst kw l:=nj h1;refine(ZD∘Zs∘ZH∘Zh) ?_;refine z7 (qb L Z Z (zm Z) Z Z Z (fun u H hH _ _ v1 hv1=>di T h1 hH hv1)) Z ((Zm∘Zx∘Z6∘Zh∘Zdw) ?_);refine z7 (qb L Z Z (zm Z) Z Z Z (fun u H hH _ _ v1 hv1=>Oy hz hs hH hv1)) Z ((Zdb∘ZI) ?_);exact yj2 L [.tmp 4,.tmp 5]
end Go.V.L2
end
namespace Go.V.L2
open Go.V
abbrev fC:Bool->Bool->Bool:=fun a b=>a && b
attribute [local irreducible] V N X VO Par StepOK Has Ret RetL RetO RetT Src
def zk2(p q:Bool)(w:World)(B:Heap)(hB:zs4 B w):Ret zs5 94 [.bool p,.bool q] w B (fun v _=>v=.bool (fC p q)):=by
 refine yr Tryz.func94 Z Tryz.ntmps94 (np Z) hB ?_;cases p
 ·refine(ZK∘Zb∘Za4∘Zc) ?_;exact yj2 L [.tmp 4]
 ·refine(ZK∘Z8∘Zi∘Zc) ?_;exact yj2 L [.tmp 4]
section
variable {m:List U} {fa fb:Bool} {r:List U×Int} {v2:Value}  
def To(hr:zew fC l m=r)(hB:zs4 B w)(hv:US l fa v B)(hv2:US m fb v2 B):Ret zs5 34 [v,v2] w B (LE r):=by
 refine yr Tryz.func34 Z Tryz.ntmps34 (np Z) hB (k7 0 (US l fa) Z ns hv (k7 1 (US m fb) Z ns hv2 ((ZbX∘ZaW∘Zh∘Zh) ?_)));refine z7 (xg (φ:=LE r) L Z Z (zm Z) Z Z Z LE.mono (fun u H hH _ _ v1 h1 v2 h2=>Lr Z zk2 hr hH h1 h2)) Z (z7 (af Z Z Z Z ns) Z ((ZcR∘ZR∘Zc) ?_));refine yj1 L [.tmp 4,.tmp 5] fun u H hH hle=>?_;exact fun v hv=>M3 hv
end
end Go.V.L2
namespace Go.V.Top
open Go.V.L2 Go.V.L3 Go.V.L6
def zhs{a b:ByteArray}(ha:a.size<=9223372036854775807)(hb:b.size<=9223372036854775807):(orB a b).size<=9223372036854775807:=by
 unfold orB;split
 ·exact hb
 ·exact ha
def zk0{f g:FT}(hf:FM f)(hg:FM g):FM (T3 f g):=by
 obtain⟨⟨a1,a2,a3⟩,a4,a5,a6⟩:=hf;obtain⟨⟨b1,b2,b3⟩,b4,b5,b6⟩:=hg;refine⟨⟨zhs a1 b1,zhs a2 b2,zhs a3 b3⟩,?_⟩;unfold T3;dsimp only;split
 ·exact⟨b4,b5,b6⟩
 ·exact⟨a4,a5,a6⟩
attribute [local irreducible] V N X VO Par StepOK Has Ret RetL RetO RetT Src
def M4{ps:List (Nat×Nat)}{cs:List C3}{fx fc:Bool}(hps:∀ p∈ps,p.1<=255/\p.2<=255)(lps:ps.length<=9223372036854775807)(hcs:∀ c∈cs,c.1<=255/\c.2.1<=255/\c.2.2<=255)(lcs:cs.length<=9223372036854775807)
  {y0 y1 y2:Nat} (hy0:y0<=255) (hy1:y1<=255) (hy2:y2<=255) {z0 z1 z2:Nat} (hz0:z0<=255) (hz1:z1<=255) (hz2:z2<=255)
  {sx cx:Value}   (hB:zs4 B w) (hM:GlobM B) (hx:PS2 ps fx sx B) (hc:PS3 cs fc cx B):Ret zs5 4 [.agg #[sx,cx],.agg #[.int .u8 y0,.int .u8 y1,.int .u8 y2],.agg #[.int .u8 z0,.int .u8 z1,.int .u8 z2]] w B (fun v _=>v=.bool true):=by
 obtain⟨okl,ll⟩:=zjq ps cs;have hsx:=fun(w:World) (B:Heap) (hB:zs4 B w) (h1:PS2 ps fx sx B) (h2:PS3 cs fc cx B)=>zbx rfl hps lps hcs lcs hB h1 h2;generalize sOf ps cs=l at *;have hof:=zce okl T;have ef:=Yg y0 y1 y2;have eg:=Yg z0 z1 z2;have mf:=zkx (ze7 y0 y1 y2);have mg:=zkx (ze7 z0 z1 z2);obtain⟨f,hf⟩:∃ f,ze8 y0 y1 y2=f:=⟨_,rfl⟩
 obtain⟨g,hg⟩:∃ g,ze8 z0 z1 z2=g:=⟨_,rfl⟩
 rw[hf] at mf ef;rw[hg] at mg eg;have ss:=okl.sst;have hbl:isB l=true:=nf ss;have sa:Sst kw (l.filter (xn f)):=ss.sublist zqd;have hba:isB (l.filter (xn f))=true:=nf sa;have hm1:zey l f=l.filter (xn f):=tx ss ef;have hm2:zey l g=l.filter (xn g):=tx ss eg;have hs1':zis f l=(l.filter (xn f),0):=by unfold zis;rw[if_pos ef,if_pos hbl]
 have hs2':zis g (l.filter (xn f))=((l.filter (xn f)).filter (xn g),0):=by unfold zis;rw[if_pos eg,if_pos hba]
 have hco:=Rx (f:=f) (g:=g) ss T;have la:=zpp (xn f) l;have lc:=zpp (xn g) l;have lb:=zpp (xn g) (l.filter (xn f));have hcl:=fun h:am f g=true=>Uh (l:=l) h;have hmx:=fun h:am f g=false=>zfv (l:=l) h;have hm3:zey l (T3 f g)=l.filter (xn (T3 f g)):=tx ss (zkg ef eg);have hbo:Oz f g=if am f g=true then (nF,false,0) else (T3 f g,true,0):=by unfold Oz;rw[if_pos ef,if_pos eg]
 have mm:=zk0 mf mg;generalize T3 f g=m at *;generalize l.filter (xn m)=d at *;generalize (l.filter (xn f)).filter (xn g)=b at *;generalize l.filter (xn f)=a at *;generalize l.filter (xn g)=c at *;have ka:Kn.mono (.sat (US a true)):=ns;have kb:Kn.mono (.sat (US b true)):=ns;refine yr Tryz.func4 Z Tryz.ntmps4 (np Z) hB ((Zal∘Zdk∘ZaW∘ZbV) ?_);refine z7 (xg (φ:=US l false) L rfl rfl (zm rfl) rfl rfl rfl ns (fun u H hH hle _=>hsx u H hH (hx.le hle) (hc.le hle))) rfl (z7 (xg (φ:=WithP l 0) L rfl rfl (zm rfl) rfl rfl rfl WithP.mono (fun u H hH _ _ v1 h1=>zgd hof T okl.tz hH h1)) rfl (vo 23 rfl ?_));rintro _ H1 hs1 ⟨tv1,rfl,hT1⟩;obtain⟨f1,p1,k1,q1,rfl,hp1⟩:=hT1.shape;refine(ZA∘ZE∘Zb7∘Zd∘Zed∘Zd6) ?_;refine z81 L rfl (fun u H hH _=>Yf hf hy0 hy1 hy2 hH) ?_;refine Zd6 (h:=?_);refine z81 L rfl (fun u H hH _=>Yf hg hz0 hz1 hz2 hH) ?_;refine z8 (qu L rfl rfl rfl rfl) rfl (z8 (qu L rfl rfl rfl rfl) rfl ((ZdN∘ZdN∘ZaV∘ZcH∘Zcj) ?_));refine z8 (xg (φ:=US l true) L rfl rfl (zm rfl) rfl rfl rfl ns (fun u H hH hle _=>dl T hH (hT1.le hle))) rfl (Zfa (h:=?_));refine z8 (xg (φ:=TupS [US a true,fun v _=>v=.int .i64 0]) L rfl rfl (zm rfl) rfl rfl rfl (LE2.mono ns) (fun u H hH _ _ v1 h1=>Ei mf T hs1' hH h1)) rfl ((Zad∘ZeR∘ZeS∘Zc6∘Zbc∘Zt∘Zh∘Zcv) ?_);refine z7 (xg (φ:=TupS [US b true,fun v _=>v=.int .i64 0]) L rfl rfl (zm rfl) rfl rfl rfl (LE2.mono ns) (fun u H hH _ _ v1 h1=>Ei mg T hs2' hH h1)) rfl ((Zh∘Zdp∘ZcR∘ZR∘Zd) ?_);cases hcb:am f g
 ·rw[hcb,nc E] at hbo;have hdb:=hmx hcb;subst hdb;refine(Z1∘Zcv∘Zcv) ?_;refine z71 L Z (fun u H hH _=>Rb mf mg hbo hH) ?_;refine(ZA∘Zb9∘Za1∘ZcM∘ZbF∘Zay∘Za∘Zay∘Za∘Zay∘Zbf∘Za∘Zbg) ?_;refine z7 (xg (φ:=US l true) L Z Z (zm Z) Z Z Z ns (fun u H hH hle _=>dl T hH (hT1.le hle))) Z (z7 (qb L Z Z (zm Z) Z Z Z (fun u H hH _ _ v1 h1=>di T hbl hH h1)) Z ((Zm∘Zi∘Za∘Zbg∘Zcv) ?_));refine z7 (xg (φ:=US a true) L Z Z (zm Z) Z Z Z ns (fun u H hH hle _=>c9 hm1 T mf hH (hT1.le hle))) Z (Zh (h:=?_));refine z7 (qb L Z Z (zm Z) Z Z Z (fun u H hH _ _ v1 h1 v2 h2=>ip (e:=1) T T (na Z) hH h1 h2)) Z ((ZT∘Zi∘ZV∘ZaI∘Zm∘Zx) ?_);refine qn (id:=10) [] ko J ((Zcj∘Zfa) ?_);refine z8 (xg (φ:=US a true) L Z Z (zm Z) Z Z Z ns (fun u H hH hle _=>c9 hm1 T mf hH (hT1.le hle))) Z ((Zcj∘Zfa) ?_);refine z8 (xg (φ:=US c true) L Z Z (zm Z) Z Z Z ns (fun u H hH hle _=>c9 hm2 T mg hH (hT1.le hle))) Z (z8 (xg (φ:=LE (b,0)) L Z Z (zm Z) Z Z Z (LE2.mono ns) (fun u H hH _ _ v1 h1 v2 h2=>To hco hH h1 h2)) Z ((Zad∘ZeR∘ZeS∘Zc6∘Zbc∘ZG∘Za∘ZN∘Za∘Zbg∘Zcv) ?_));refine z7 (xg (φ:=US b true) L Z Z (zm Z) Z Z Z ns (fun u H hH hle _=>c9 hm3 T mm hH (hT1.le hle))) Z (Zh (h:=?_));refine z7 (qb L Z Z (zm Z) Z Z Z (fun u H hH _ _ v1 h1 v2 h2=>ip (e:=1) T T (na Z) hH h1 h2)) Z ((ZN∘Zi∘Za∘Zh∘Zh) ?_);refine z7 (qb L Z Z (zm Z) Z Z Z (fun u H hH _ _ v1 h1 v2 h2=>ip (a:=b) (b:=b) (e:=1) T T (na Z) hH h1 h2)) Z ((ZN∘Zi∘Za) ?_);refine z71 L Z (fun u H hH hle=>Ew hH (hM.mono (hs1.le.trans hle))) ?_;refine(Zi∘Zc) ?_;refine yj L (rs:=[.tmp 6]) Z (fun _ _ h=>h) hs1 fun u H hH hle=>?_;rfl
 ·rw[hcb,na rfl] at hbo;have hb0:=hcl hcb;subst hb0;refine(Z1∘Zcv∘Zcv) ?_;refine z71 L Z (fun u H hH _=>Rb mf mg hbo hH) ?_;refine(ZA∘Zb9∘Za1∘ZcM∘ZbF∘Zay∘Za∘Zay∘Za∘Zay∘Zbf∘Za∘Zbg) ?_;refine z7 (xg (φ:=US l true) L Z Z (zm Z) Z Z Z ns (fun u H hH hle _=>dl T hH (hT1.le hle))) Z (z7 (qb L Z Z (zm Z) Z Z Z (fun u H hH _ _ v1 h1=>di T hbl hH h1)) Z ((Zm∘Zi∘Za∘Zbg∘Zcv) ?_));refine z7 (xg (φ:=US a true) L Z Z (zm Z) Z Z Z ns (fun u H hH hle _=>c9 hm1 T mf hH (hT1.le hle))) Z (Zh (h:=?_));refine z7 (qb L Z Z (zm Z) Z Z Z (fun u H hH _ _ v1 h1 v2 h2=>ip (e:=1) T T (na Z) hH h1 h2)) Z ((ZT∘Zi∘ZV∘ZaI∘Zm∘Zn∘Z2∘Zj) ?_);refine z7 (yi Z Z Z Z Z) Z (Za (h:=?_));refine z71 L Z (fun u H hH hle=>Ew hH (hM.mono (hs1.le.trans hle))) ?_;refine(Zi∘Zc) ?_;refine yj L (rs:=[.tmp 6]) Z (fun _ _ h=>h) hs1 fun u H hH hle=>?_;rfl
end Go.V.Top
namespace Go.V.Top
open Go.V.L2 Go.V.L3 Go.V.L6 Go.V.L8
def topRead_in{ps cs:List (List Value)}(lps:∀ c∈ps,LeafsOK [.i .u8,.i .u8] c)(zps:ps.length<=maxLen){W:World}{v1 v2:Value}(hps:SlV ty2 2 ps.flatten ps.length false v1 (hp W))(lcs:∀ c∈cs,LeafsOK [.i .u8,.i .u8,.i .u8] c)(zcs:cs.length<=maxLen)(hcs:SlV ty3 3 cs.flatten cs.length false v2 (hp W))(hM:GlobM (hp W))
  {y0 y1 y2 n0 n1 n2:Int} (h0:Lit.wf (.int .u8 y0)=true) (h1:Lit.wf (.int .u8 y1)=true) (h2:Lit.wf (.int .u8 y2)=true) (g0:Lit.wf (.int .u8 n0)=true) (g1:Lit.wf (.int .u8 n1)=true) (g2:Lit.wf (.int .u8 n2)=true):
  Ret zs5 4 [.agg #[v1,v2],.agg #[.int .u8 y0,.int .u8 y1,.int .u8 y2],.agg #[.int .u8 n0,.int .u8 n1,.int .u8 n2]] W (hp W) (fun v _=>v=.bool true):=by
 obtain⟨p,a1,a2,a3⟩:=zme lps zps hps;obtain⟨c,b1,b2,b3⟩:=zk4 lcs zcs hcs;obtain⟨y0,rfl,k0⟩:=B4 h0;obtain⟨y1,rfl,k1⟩:=B4 h1;obtain⟨y2,rfl,k2⟩:=B4 h2;obtain⟨n0,rfl,j0⟩:=B4 g0;obtain⟨n1,rfl,j1⟩:=B4 g1;obtain⟨n2,rfl,j2⟩:=B4 g2;exact M4 a1 a2 b1 b2 k0 k1 k2 j0 j1 j2 (my _) hM a3 b3
end Go.V.Top
namespace Go.V
open Go.ChangeShapes Go.WideShapes Go.ChangeAt Go.ChangeMaps
inductive Sh where
 | l (k:cz)
 | s (t e:TypeId) (ls:List cz)
def zny(H:Heap)(e:TypeId)(ls:List cz)(v:Value):Prop:=∃ cs:List (List Value),(∀ c∈cs,LeafsOK ls c)/\cs.length<=maxLen/\SlV e ls.length cs.flatten cs.length false v H
def ShOK(H:Heap):List Sh->List Value->Prop
 | [],vs=>vs=[]
 | .l k::r,vs=>∃ v w,vs=v::w/\LeafsOK [k] [v]/\ShOK H r w
 | .s _ e ls::r,vs=>∃ v w,vs=v::w/\zny H e ls v/\ShOK H r w
def ShOK.append{H:Heap}:∀ {a b:List Sh} {x y:List Value},ShOK H a x->ShOK H b y->ShOK H (a++b) (x++y)
 | [],_,_,_,hx,hy=>by cases hx;exact hy
 | .l k::a,_,_,_,⟨v,w,e,h1,h2⟩,hy=>by subst e;exact⟨v,_,rfl,h1,ShOK.append h2 hy⟩
 | .s t e ls::a,_,_,_,⟨v,w,e',h1,h2⟩,hy=>by subst e';exact⟨v,_,rfl,h1,ShOK.append h2 hy⟩
def ShOK.leafs{H:Heap}:∀ {ls:List cz} {vs:List Value},LeafsOK ls vs->ShOK H (ls.map .l) vs
 | [],vs,h=>leaf_nil h
 | k::ls,[],h=>by have:=LeafsOK.length h;cases this
 | k::ls,v::vs,h=>by
  cases k with
  | s=>obtain⟨a,r,e,h1,h2⟩:=zkk h;cases e;exact⟨_,_,rfl,⟨⟨a,rfl,h1⟩,nm⟩,ShOK.leafs h2⟩
  | i k=>obtain⟨a,r,e,h1,h2⟩:=leaf_i h;cases e;exact⟨_,_,rfl,⟨⟨a,rfl,h1⟩,nm⟩,ShOK.leafs h2⟩
  | b=>obtain⟨a,r,e,h2⟩:=zkl h;cases e;exact⟨_,_,rfl,⟨⟨a,rfl⟩,nm⟩,ShOK.leafs h2⟩
def shF(P:Program)(rec:TypeId->Option (List Sh)):List Field->Nat->Option (List Sh)
 | [],_=>some []
 | f::fs,off=>match rec f.type with
  | some ls=>if f.offset=off/\P.cellsOf f.type=ls.length then
    match shF P rec fs (off+ls.length) with
    | some r=>some (ls++r)
    | none=>none
   else none
  | none=>none
def shI(P:Program):Nat->TypeId->Option (List Sh)
 | 0,_=>none
 | d+1,t=>match leafI P 20 t with
  | some ls=>some (ls.map .l)
  | none=>match P.underlying t with
   | some (.slice e)=>match leafI P 20 e with
    | some ls=>if P.cellsOf e=ls.length then some [.s t e ls] else none
    | none=>none
   | some (.struct fs)=>match shF P (shI P d) fs.toList 0 with
    | some ls=>if P.cellsOf t=ls.length then some ls else none
    | none=>none
   | _=>none
section
variable  {H:Type} {enc:TypeId×Value->H} {W:World} {held:Bool}
def zio(P:Program)(W:World)(b0:Nat)(shs:List Sh)(cs:List Value):Prop:=∀ (i:Nat) t e ls v,shs[i]?=some (.s t e ls)->cs[i]?=some v->Cell.okWide P W .any b0 t v
def Eh{b0:Nat}:∀ (d:Nat) {t:TypeId} {ls:List Sh},shI P d t=some ls->∀ {fuel:Nat} {cs:List Value} {x:DataW H×List MemPlace},
  DataW.trod enc P W 0 (fun _=>true) held fuel t cs=some x->zio P W b0 ls cs->ShOK (hp W) ls cs/\cs.length=ls.length
 | 0,_,_,h,_,_,_,_,_=>by cases h
 | d+1,t,ls,h,fuel,cs,x,hx,hok=>by
  have ih:=@Eh b0 d;rw[shI] at h
  cases hlf:leafI P 20 t with
  | some l0=>
   rw[hlf] at h;cases h;have h1:=(cj 20 hlf hx).1;exact⟨ShOK.leafs h1,by rw[h1.length,m4]⟩
  | none=>
   rw[hlf] at h;simp only at h
   cases hu:P.underlying t with
   | none=>rw[hu] at h;cases h
   | some ds=>
    rw[hu] at h;cases ds<;>first | (cases h;done) | skip
    ·rename_i e;simp only at h;split at h
     ·rename_i l1 hl1;split at h
      ·rename_i hc;cases h
       have hone:∃ v,cs=[v]:=by
        rcases Deep.open_slice hu hx with ⟨h1,_⟩ | ⟨a,len,cap,_,_,_,_,h1,_⟩
        ·exact⟨_,h1⟩
        ·exact⟨_,h1⟩
       obtain⟨v,rfl⟩:=hone;have h0:Cell.okWide P W .any b0 t v:=hok 0 t e l1 v rfl rfl;have hval:Value.okWide P W .any b0 t v:=by unfold Value.okWide;rw[hu];exact h0
       have hcl:v.cells=#[v]:=by
        rcases Deep.open_slice hu hx with ⟨h1,_⟩ | ⟨a,len,cap,_,_,_,_,h1,_⟩
        ·cases h1;rfl
        ·cases h1;rfl
       have hd:DataW.Trod enc P W 0 (fun _=>true) held t v x.1 x.2:=⟨fuel,by rw[hcl];exact hx⟩
       exact⟨⟨v,[],rfl,zg3 hu hl1 hc hval hd,rfl⟩,rfl⟩
      ·cases h
     ·cases h
    ·rename_i fs;simp only at h
     cases fuel with
     | zero=>simp [DataW.trod] at hx
     | succ fuel=>
     unfold DataW.trod at hx;rw[hu] at hx;simp only at hx;split at h
     ·rename_i l1 hl1;split at h
      ·rename_i hc;cases h;split at hx
       ·rename_i hlen;obtain⟨xs,hxs,rfl⟩:=zsv.1 hx;obtain⟨_,_,hall,hback⟩:=Be hxs
        have gen:∀ (fl:List Field) (off:Nat) (ls:List Sh),(∀ f∈fl,f∈fs.toList)->shF P (shI P d) fl off=some ls->(∀ (i:Nat) t e l v,ls[i]?=some (.s t e l)->cs[off+i]?=some v->Cell.okWide P W .any b0 t v)->
          ShOK (hp W) ls ((cs.drop off).take ls.length):=by
         intro fl
         induction fl with
         | nil=>intro off ls _ h _;cases h;simp [ShOK]
         | cons f fl ihf=>
          intro off ls hm h hk;simp only[shF] at h;split at h
          ·rename_i l2 hl2;split at h
           ·rename_i hc2;obtain⟨rfl,hc3⟩:=hc2;split at h
            ·rename_i r hr;cases h;have g1:=ihf _ _ (fun g hg=>hm g (mh _ hg)) hr fun i t e l v h1 h2=>hk (l2.length+i) t e l v (by rw[zrx T];simpa using h1) (by rw[<-h2];congr 1;omega);rw[nr,iu];refine ShOK.append ?_ g1;obtain⟨y,hy,_⟩:=hall f (hm f (mc ..));rw[<-hc3];refine(ih hl2 hy fun i t e l v h1 h2=>?_).1
             have hlt:i<l2.length:=by
              rcases m5 i l2.length with h | h
              ·exact h
              ·rw[zo1 h] at h1;cases h1
             refine hk i t e l v (by rw[zp5 hlt];exact h1) ?_;rw[zqi T,zpw] at h2;exact h2
            ·cases h
           ·cases h
          ·cases h
        have g1:=gen fs.toList 0 _ (fun _ h=>h) hl1 fun i t e l v h1 h2=>hok i t e l v h1 (by rw[<-h2];congr 1;omega);have hcl:cs.length=ls.length:=by rw[<-hc,<-hlen]
        rw[zpy,<-hcl,zoy] at g1;exact⟨g1,hcl⟩
       ·cases hx
      ·cases h
     ·cases h
def zjo:List Sh->List TypeId->Bool
 | [],[]=>true
 | .l _::r,_::ts=>zjo r ts
 | .s t _ _::r,u::ts=>Nat.beq t u && zjo r ts
 | _,_=>false
def Cf:∀ {shs:List Sh} {ts:List TypeId},zjo shs ts=true->shs.length=ts.length/\∀ (i:Nat) t e ls,shs[i]?=some (.s t e ls)->ts[i]?=some t
 | [],[],_=>⟨rfl,fun i t e ls h=>by simp at h⟩
 | [],_::_,h=>by cases h
 | .l _::_,[],h=>by cases h
 | .s .. ::_,[],h=>by cases h
 | .l k::r,u::ts,h=>by
  obtain⟨h1,h2⟩:=Cf (shs:=r) (ts:=ts) h;refine⟨by simp [h1],fun i t e ls hi=>?_⟩
  cases i with
  | zero=>simp at hi
  | succ i=>simpa using h2 i t e ls (by simpa using hi)
 | .s t0 e0 l0::r,u::ts,h=>by
  simp only[zjo,zo5] at h;obtain⟨h1,h2⟩:=Cf (shs:=r) (ts:=ts) h.2;refine⟨by simp [h1],fun i t e ls hi=>?_⟩
  cases i with
  | zero=>
   simp only[zrq,Option.some.injEq,Sh.s.injEq] at hi;have:=zqu h.1;simp only[zrq,Option.some.injEq];rw[<-hi.1,this]
  | succ i=>simpa using h2 i t e ls (by simpa using hi)
def open_st{t:TypeId}{fs:Array Field}{ls:List Sh}{tys:List TypeId}{b0:Nat}{dd:DataW H}{ps:List MemPlace}(h:shI P 20 t=some ls)(hu:P.underlying t=some (.struct fs))(hct:P.cellTypes P.depth t=some tys)(hst:zjo ls tys=true)
  (hval:Value.okWide P W .any b0 t v) (hd:DataW.Trod enc P W 0 (fun _=>true) held t v dd ps):∃ cs:List Value,v=.agg cs.toArray/\ShOK (hp W) ls cs:=by
 obtain⟨fuel,hf⟩:=hd;unfold Value.okWide at hval;rw[hu] at hval;obtain⟨cs,rfl,_,ts,hts,_,hcell⟩:=hval;rw[hct] at hts;cases hts;obtain⟨h1,h2⟩:=Cf hst;refine⟨cs.toList,by simp,(Eh (b0:=b0) 20 h hf fun i t' e l v hi hv=>?_).1⟩
 have hlt:i<ls.length:=by
  rcases m5 i ls.length with h | h
  ·exact h
  ·rw[zo1 h] at hi;cases hi
 obtain⟨u,hu1,hu2⟩:=hcell i v (by simpa [Value.cells] using hv);rw[zsh T,h2 i t' e l hi] at hu1;cases hu1;exact hu2
def sh_s{Hh:Heap}{t e:TypeId}{ls:List cz}{r:List Sh}(h:ShOK Hh (.s t e ls::r) vs):∃ v w,vs=v::w/\zny Hh e ls v/\ShOK Hh r w:=h
end
end Go.V
end
set_option maxRecDepth 20000
namespace Go.Proofs.YtooecmiihjampaaGreat.topRead
open Go.ChangeShapes Go.WideShapes Go.ChangeAt Go.ChangeMaps Go.RowKit Go.V Go.V.Top
theorem own : ownKnob Tryz.prog.godebug = none := by kernel_rfl
theorem laidOut : laidOutB Tryz.prog = true := by kernel_rfl
theorem lf0 : shI Tryz.prog 20 27 = some [.s 22 88 [.i .u8, .i .u8], .s 25 111 [.i .u8, .i .u8, .i .u8]] := by kernel_rfl
theorem lq0 : Tryz.prog.cellTypes Tryz.prog.depth 27 = some [22, 25] := by kernel_rfl
theorem lr1 : Tryz.prog.readableRec 27 = true := by kernel_rfl
theorem lt1 : 27 < Tryz.prog.types.size := of_decide_eq_true (by kernel_rfl)
theorem lf2 : leafI Tryz.prog 20 90 = some [.i .u8, .i .u8, .i .u8] := by kernel_rfl
theorem la2 : (match Tryz.prog.underlying 90 with | some (.struct _) | some (.array _ _) => true | _ => false) = true := by kernel_rfl
theorem lr3 : Tryz.prog.readableRec 90 = true := by kernel_rfl
theorem lt3 : 90 < Tryz.prog.types.size := of_decide_eq_true (by kernel_rfl)
set_option maxRecDepth 100000 in
theorem lifted (os : Os) (started : os.Started) (H : Type) (enc : TypeId × Value → H) :
    ReturnsInHanded {} Tryz.checked os 4 .any (Rows.topReadSpec.pre6 enc Tryz.prog Tryz.f4 Rows.topReadRow.domain false) (Rows.topReadSpec.post enc Tryz.prog Tryz.f4 false true false false) := by
  refine returnsInHanded_of_change_shaped (C := Tryz.checked) own started (by kernel_rfl) Tryz.func4
    (ChangeSpec.witness6 (enc := enc) (C := Tryz.checked) false ⟨#[], #[.agg #[.slice none 0 0, .slice none 0 0], .agg #[.int .u8 0, .int .u8 0, .int .u8 0], .agg #[.int .u8 0, .int .u8 0, .int .u8 0]], []⟩ 8 (by kernel_rfl) (by kernel_rfl) (by kernel_rfl) (by kernel_rfl)) ?_
  intro W base args ds gs before hval0 hW hcnd _ hsh _
  have hval : ∀ (j : Nat) t v, Tryz.f4.params[j]? = some t → args[j]? = some v → Value.okWide Tryz.prog W .any base t v := hval0
  have hW' := hW
  obtain ⟨p, q, hA0, hV, rfl, hfz, hnd⟩ := hW
  have hA : DataW.TrodAll enc Tryz.prog W 0 (fun _ => true) true Tryz.f4.params.toList args.toList ds p := hA0
  rw [Tryz.params4] at hA hval
  obtain ⟨v0, v1, v2, d0, d1, d2, p0, p1, p2, rfl, rfl, rfl, h0, h1, h2⟩ := trodAll_three hA
  obtain ⟨rfl, rfl⟩ := trodVars_none hV
  clear hA0 hval0
  obtain ⟨c0, rfl, l0⟩ := open_st lf0 Tryz.underlying27 lq0 rfl (hval 0 27 v0 rfl rfl) h0
  obtain ⟨wps, r0, rfl, ⟨ps, lps, zps, hps⟩, l0⟩ := sh_s l0
  obtain ⟨wcs, r0, rfl, ⟨cs, lcs, zcs, hcs⟩, l0⟩ := sh_s l0
  obtain rfl := l0
  obtain ⟨c1, rfl, l1, rfl⟩ := open_agg lf2 la2 (hval 1 90 v1 rfl rfl) h1
  obtain ⟨y0, r1, rfl, zy0, l1⟩ := leaf_i l1
  obtain ⟨y1, r1, rfl, zy1, l1⟩ := leaf_i l1
  obtain ⟨y2, r1, rfl, zy2, l1⟩ := leaf_i l1
  obtain rfl := leaf_nil l1
  obtain ⟨c2, rfl, l2, rfl⟩ := open_agg lf2 la2 (hval 2 90 v2 rfl rfl) h2
  obtain ⟨n0, r2, rfl, zn0, l2⟩ := leaf_i l2
  obtain ⟨n1, r2, rfl, zn1, l2⟩ := leaf_i l2
  obtain ⟨n2, r2, rfl, zn2, l2⟩ := leaf_i l2
  obtain rfl := leaf_nil l2
  obtain ⟨m0, hm0⟩ := Tryz.laysM145.s1_3 W hsh
  have hglob := GlobM.of_cell hm0
  have hplc := hW'.lt
  simp only [List.append_nil] at hW'
  have hlaw := Go.V.Top.topRead_in lps zps hps lcs zcs hcs hglob zy0 zy1 zy2 zn0 zn1 zn2
  unfold Ret at hlaw
  refine hlaw.mono fun e W' hp => ?_
  obtain ⟨v, rfl, H', g, rfl⟩ := hp
  refine ⟨_, rfl, _, _, _, [], p0 ++ ([] ++ ([] ++ ([]))), [], hW', trodAll_cons_mk (shut_bool Tryz.underlying4 _) trodAll_mk0, ?_, rfl, g.below.frame _, fun h => by cases h⟩
  exact trodAll_cons_mk (Below.trod laidOut lr1 lt1 h0 g.below (fun x hx => hplc x (by simp [hx]))) (trodAll_cons_mk (Below.trod laidOut lr3 lt3 h1 g.below (fun x hx => by cases hx)) (trodAll_cons_mk (Below.trod laidOut lr3 lt3 h2 g.below (fun x hx => by cases hx)) trodAll_mk0))
theorem j1 : (Rows.topReadRow.inPlace == Tryz.prog.inPlace 4) = true := by kernel_rfl
theorem j2 : (Rows.topReadRow.unfollowed == Tryz.prog.unfollowed 4) = true := by kernel_rfl
theorem j3 : (Rows.topReadRow.recurses == Tryz.prog.recurses 4) = true := by kernel_rfl
theorem j4 : (Rows.topReadRow.named == Tryz.prog.varsNamed 4) = true := by kernel_rfl
theorem j5 : Tryz.prog.stopsHeard = true := by kernel_rfl
theorem j6 : laidOutB Tryz.prog = true := by kernel_rfl
theorem joined : joinedFacts Tryz.prog 4 Tryz.f4 Rows.topReadSpec Rows.topReadRow = true := by
  unfold joinedFacts
  rw [j1, j2, j3, j4, j5, j6]
  kernel_rfl
theorem proved : Rows.TopReadSaid :=
  OpenClaim.holds_of_wide 4 Tryz.f4 rfl rfl rfl rfl rfl rfl rfl ⟨rfl, rfl, rfl, rfl, rfl⟩ rfl rfl rfl rfl rfl (by kernel_rfl) Tryz.func4 joined
    (of_decide_eq_true (by kernel_rfl)) (by unfold Func.isWrapper; first | (rw [if_pos (by decide +kernel)]; kernel_rfl) | (rw [if_neg (by decide +kernel)]; exact ⟨rfl, rfl⟩))
    (fun os started H enc _ => lifted os started H enc)
#print axioms proved
end Go.Proofs.YtooecmiihjampaaGreat.topRead
