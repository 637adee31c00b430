/- WiresStore returns true for every input, and leaves it as it was: no condition. -/
import Derived.Test.YtefilnnomholbaaGreatWiresStoreM6
import Derived.Laws.IdiomStrings
import Derived.ProofKit
import Derived.HandedShaped
import Derived.OpenShut
import Derived.Deep.Slices
import Derived.Test.YtefilnnomholbaaGreatRows
set_option linter.unusedVariables false
set_option linter.unusedSimpArgs false
set_option maxRecDepth 20000
set_option maxHeartbeats 8000000
set_option linter.defProp false
open Go.Proofs Go.RowKit
section
variable{b i n:Nat}{bs rest:List Nat}{k:Go.IntKind}{cs l:List Go.V.L8.CH}{S:Go.V.L10.Sto}{W w:Go.World}{B:Go.V.Heap}{C:Nat->Prop}{t:List Go.V.L2.U}{s:ByteArray}{e r:Int}{v:Go.Value}{y:List (Int×List Go.V.L2.U)×List Int}{P:Go.Program}{g:Option (Nat×Bool)}{fu held:Bool}{H:Type}{Φ:List Go.Value->Prop}{A Y:Prop}
section
open Go.V
attribute [local irreducible] Has N Par Ret RetL Src StepOK V VO X
namespace Go.V.L11
open Go.V.L2 Go.V.L3 Go.V.L4 Go.V.L6 Go.V.L8 Go.V.Bd
def Tq(h:¬ n<128)(hi:i<=9)(hn:n*128^i<18446744073709551616):i≠9/\n/128*128^(i+1)<18446744073709551616:=by
 have h1:n/128*128^(i+1)<=n*128^i:=by
  rw[Nat.pow_succ,Nat.mul_comm (128^i) 128,<-Nat.mul_assoc];exact ztr _ (Nat.div_mul_le_self n 128)
 refine⟨fun e=>?_,by omega⟩;subst e;have h9:(128:Nat)^9=9223372036854775808:=E;rw[h9] at hn;omega
def zgd(hp:0<i->0<n)(hn:n*128^i<18446744073709551616):¬ (i=9/\n≠1\/0<i/\n=0):=by
 rintro(⟨rfl,h⟩ | ⟨h1,h2⟩)
 ·have h9:(128:Nat)^9=9223372036854775808:=E;rw[h9] at hn;have:=hp E;omega
 ·have:=hp h1;omega
def zkz:∀ (f i acc n:Nat) (R:Rd),f+i=10->i<=9->n*128^i<18446744073709551616->(0<i->0<n)->bs.drop R.at_=j7 n++rest->
  M2 bs f i acc R=(acc+n*128^i,⟨R.at_+(j7 n).length,R.bad,R.err⟩):=by
 intro f
 induction f with
 | zero=>intro i acc n R h1 h2;omega
 | succ f ih=>
  intro i acc n R hf hi hn hp hd;unfold M2;by_cases h:n<128
  ·rw[ct h] at hd |-;obtain⟨h1,_⟩:=ed (r:=rest) hd;rw[h1];dsimp only;rw[nc (zgd hp hn),na h,Nat.mod_eq_of_lt h];rfl
  ·rw[Bp h] at hd |-;obtain⟨h1,h2⟩:=ed (r:=j7 (n/128)++rest) hd;obtain⟨hi8,hq⟩:=Tq h hi hn;have hr:=ih (i+1) (acc+(n%128+128)%128*128^i) (n/128) ⟨R.at_+1,R.bad,R.err⟩ J J hq (fun _=>by omega) h2;rw[h1];dsimp only;rw[nc J,nc J,hr];have e1:(n%128+128)%128=n%128:=J;have e2:n=n%128+128*(n/128):=J;refine Prod.ext ?_ ?_
   ·dsimp only;rw[e1,zud,Nat.pow_succ];congr 1
    conv=>rhs;rw[e2]
    rw[zst,Nat.mul_comm 128 (n/128),Nat.mul_assoc (n/128) 128,Nat.mul_comm 128 (128^i)]
   ·dsimp only;rw[ma,show R.at_+1+(j7 (n/128)).length=R.at_+((j7 (n/128)).length+1) by omega]
def E0{R:Rd}(hn:n<18446744073709551616)(hd:bs.drop R.at_=j7 n++rest):Bo bs R=(n,⟨R.at_+(j7 n).length,R.bad,R.err⟩):=by
 unfold Bo;rw[zkz 10 0 0 n R rfl E J (fun h=>ni h (Nat.lt_irrefl 0)) hd];simp
def zge:∀ (f i acc n k:Nat) (R:Rd),f+i=10->i<=9->n*128^i<18446744073709551616->R.err=0->bs.drop R.at_=(j7 n).take k->k<(j7 n).length->R.at_+k=bs.length->
  (M2 bs f i acc R).1=0/\(M2 bs f i acc R).2.bad=bs.length/\(M2 bs f i acc R).2.err=17:=by
 intro f
 induction f with
 | zero=>intro i acc n k R h1 h2;omega
 | succ f ih=>
  intro i acc n k R hf hi hn h0 hd hk ha;unfold M2
  cases k with
  | zero=>
   have h1:bs[R.at_]?=none:=zr6 J;rw[h1];dsimp only;unfold Rd.fail;rw[na h0];exact⟨rfl,rfl,rfl⟩
  | succ k=>
   by_cases h:n<128
   ·rw[ct h] at hk;simp at hk
   ·rw[Bp h] at hd hk;rw[ztu] at hd;obtain⟨h1,h2⟩:=ed hd;obtain⟨hi8,hq⟩:=Tq h hi hn;rw[ma] at hk;rw[h1];dsimp only;rw[nc J,nc J];exact ih (i+1) _ (n/128) k ⟨R.at_+1,R.bad,R.err⟩ J J hq h0 h2 J G
def Lp{R:Rd}{k:Nat}(hn:n<18446744073709551616)(h0:R.err=0)(hd:bs.drop R.at_=(j7 n).take k)(hk:k<(j7 n).length)(ha:R.at_+k=bs.length):(Bo bs R).1=0/\(Bo bs R).2.bad=bs.length/\(Bo bs R).2.err=17:=by
 unfold Bo;exact zge 10 0 0 n k R Z E J h0 hd hk ha
def Qa(cs:List CH):List Nat:=j7 cs.length++cs.flatMap chgB
def zd6{l:List U}{R:Rd}(h0:R.err=0)(hn:cs.length<=8192)(hk:zh7 l none cs)(hs:l.length+(M4 cs).length<=4096+(bf cs).length)(hd:bs.drop R.at_=Qa cs++rest):
  Bz bs l R=((Ay l (bf cs++M4 cs),⟨R.at_+(Qa cs).length,R.bad,0⟩),(0,0)):=by
 unfold Qa at hd;rw[mp] at hd;have h1:=E0 (n:=cs.length) J hd;rw[h0] at h1;have h2:=Cf (lim:=8192) h0 h1 rfl hn E;have h3:=zd4 (bs:=bs) (rest:=rest) (l:=l) (cs:=cs) (la:=none) (a:=[]) (d:=[]) (R:=⟨R.at_+(j7 cs.length).length,R.bad,0⟩) rfl hk (wl hd);unfold Bz;rw[h2];dsimp only;rw[nc (fun h=>h rfl),zsh,h3];dsimp only;rw[nc (fun h=>h rfl),mo,mo,nc J];unfold Qa;rw[nr,zud]
def zhi{l:List U}{R:Rd}{k:Nat}(h0:R.err=0)(hn:cs.length<=8192)(hok:zh7 l none cs)(hd:bs.drop R.at_=(Qa cs).take k)(hk:k<(Qa cs).length)(ha:R.at_+k=bs.length):
  (Bz bs l R).2=((bs.length:Int),17):=by
 have h17:(17:Int)≠0:=E;unfold Qa at hd hk;rw[zsm] at hd;rw[nr] at hk;unfold Bz;by_cases hc:k<(j7 cs.length).length
 ·rw[zt7 (zs5 hc),zr0,mi] at hd;obtain⟨z1,z2,z3⟩:=Lp (n:=cs.length) J h0 hd hc ha;have h2:=Ly (lim:=8192) (R2:=(Bo bs R).2) h0 (Prod.ext z1 rfl) (by rw[z3];exact h17);rw[h2];dsimp only;rw[na (by rw[z3];exact h17),z2,z3]
 ·rw[m8 J] at hd;have h1:=E0 (n:=cs.length) J hd;rw[h0] at h1;have h2:=Cf (lim:=8192) h0 h1 rfl hn E;have h3:=Uq (bs:=bs) (l:=l) (cs:=cs) (la:=none) (a:=[]) (d:=[]) (R:=⟨R.at_+(j7 cs.length).length,R.bad,0⟩) rfl hok (wl hd) J G;rw[h2];dsimp only;rw[nc (fun h=>h rfl),zsh,h3];dsimp only;rw[na h17]
open Go.V.L10
abbrev K3:=Int×Nat×List U
def Hv:List K3->Int->List U->List Nat
 | [],_,_=>[]
 | k::ks,last,s=>(j7 (k.1-last).toNat++(j7 k.2.1++Qa (sw s k.2.2)))++Hv ks k.1 k.2.2
def Ck(ks:List K3):List Nat:=j7 ks.length++Hv ks 0 []
def tZ(S:Sto)(r:Int):List U:=(kpt S.R r).getD []
def cc(S:Sto):List K3:=(kx S.R).map fun r=>(r,List.count r S.P,tZ S r)
structure zox(S:Sto):Prop where
 n0:S.R.length≠0
 rl:S.R.length<18446744073709551616
 k0:0<(kx S.R).length
 kl:(kx S.R).length<=1024
 pl:(xf S.P).length<=100000
 pb:S.P.length<=1000000000000
 tl:∀ r t,kpt S.R r=some t->t.length<=4096/\Sst js t/\∀ x∈t,∀ s∈u6 x,s.size<=1000
def uw(h:n<18446744073709551616):(j7 n).length<=10:=by
 have h128:(128:Nat)^10=1180591620717411303424:=E;exact eu 9 n J
def Am{l:List CH}(h:∀ c∈l,∀ s∈u6 c.1,s.size<=1000):∀ i,((l.take i).flatMap chgB).length<=i*6061
 | 0=>by rw[zr0];exact nu _
 | i+1=>by
  have h1:=Am h i;rw[zr4,zr5,nr]
  cases ht:l[i]? with
  | none=>
   have e:(none.toList:List CH).flatMap chgB=[]:=rfl;rw[e,m7];omega
  | some c=>
   have h2:=zhj (h c (mz ht));have e:((some c).toList:List CH).flatMap chgB=chgB c:=by simp
   rw[e];omega
def Hx{c:CH}(h:l[i]?=some c):(l.take (i+1)).flatMap chgB=(l.take i).flatMap chgB++chgB c:=by
 rw[zr4,h,zr5];simp
structure DmJ(S:Sto)(T0:List Nat)(i last:Nat)(s:List U)(acc:List Nat):Prop where
 hi:i<=(kx S.R).length
 he:acc++Hv ((cc S).drop i) last s=T0
 bz:acc.length<=10+i*50000000
 sl:s.length<=4096
 ss:Sst js s
 sz:∀ x∈s,∀ q∈u6 x,q.size<=1000
 lb:∀ (j:Nat) (r:Int),i<=j->(kx S.R)[j]?=some r->(last:Int)<r
attribute [local irreducible] XP LV RetO RetT jh RetX RetY Pan o5
def Ug(hD:zox S)(hB:zwe B w)(hr:(StG b S).P B w C)(hC:ZCB C w B):
  RetY zwf 28 [po b] w B C (StG b S) (TupS [BsV (Ck (cc S)) true,fun v _=>v=.int .i64 0]):=by
 have hkl:=hD.kl;have hpb:=hD.pb;have hk0:=hD.k0;have hzl:(cc S).length=(kx S.R).length:=mg ..;have hn0:=uw (n:=(kx S.R).length) J;unfold RetY;refine yz 910 (StG b S) Tryz.func28 Z Tryz.ntmps28 (np Z) hB hr hC ((Za6∘Zbb) ?_);refine ye (vp L 910 (RsV (kx S.R) true) (r:=StG b S) Z Z Z Z Z ns (fun u H2 C2 hH hle hr2 hC2=>zar hD.n0 J hH hr2 hC2)) ((Zaf∘Zan∘ZL∘Zj∘Zb6∘ZE∘Zc4) ?_);refine jg 5 900 rfl fun wb=>?_;refine B6 901 A3 1 (ZeU (h:=?_));refine o3 (X:=Value) 900 (r:=fun sv=>(GWv wb [] sv).res) (φ:=fun sv _=>Qb sv) di (.slice none 0 0) ⟨_,_,_,rfl⟩ Z ((ZF∘Zj) ?_);refine z7 (kw Z Z Z wo.1 wo.2 (wrap_u64 J J)) Z (qf (xg L 900 (GWr wb (j7 (kx S.R).length)) (r:=GWr wb []) Z Z Z Z Z (fun u H C hH _ hr hC=>ge (bs:=[]) J E hH hr hC)) ((Zk∘Z5∘ZdK∘ZX∘Zv∘ZaF∘Zan∘Z7∘Zj∘Zb3) ?_));have hj0:DmJ S (Ck (cc S)) 0 0 [] (j7 (kx S.R).length):=⟨Nat.zero_le _,by unfold Ck;rw[hzl];rfl,by omega,Nat.zero_le _,Sst.nil,(fun _ h=>by cases h),fun j r _ hr=>(f7 (jk.1 (List.mem_of_getElem? hr))).1⟩
 generalize Ck (cc S)=T0 at hj0 |-;refine o3 (X:=SXp) 7 (r:=fun x=>Cell (scs x.1) tySt) (φ:=Kp []) (we []) ⟨(.nilFunc,none,.nilFunc,none),rfl⟩ SetV.nil Z ?_
 refine xu (fun x:Nat×Nat×List U×List Nat=>[(0,.is (po b)),(5,.is (k8 wb)),(6,.is (.int .u64 x.2.1)),(7,.own (ExR (fun y:SXp=>Cell (scs y.1) tySt) (Kp x.2.2.1) (we _))),(25,.sat (RsV (kx S.R) true)),(26,.is (.int .i64 (kx S.R).length)),(27,.is (.int .i64 x.1)),(900,.own (GWr wb x.2.2.2).res),(910,.own (StG b S).res)])
  (fun x=>DmJ S T0 x.1 x.2.1 x.2.2.1 x.2.2.2) (fun x=>(kx S.R).length-x.1) (0,0,[],j7 (kx S.R).length) hj0 ⟨rfl,rfl,rfl,rfl,rfl,rfl,rfl,rfl,rfl,nm⟩ ?_
 rintro⟨i,last,s,acc⟩ hj;dsimp only at hj |-;have hbz:=hj.bz;have hsl:=hj.sl;have hss:=hj.ss;by_cases hlt:i<(kx S.R).length
 ·obtain⟨r,hr1⟩:=xj hlt;have hk:=jk.1 (mz hr1);obtain⟨t,ht⟩:=zso.1 hk;have hb1:=f7 hk;obtain⟨rn,rfl⟩:∃ rn:Nat,r=(rn:Int):=⟨r.toNat,by omega⟩
  have hcr:=oc hr1;have hrl:=hD.rl;have hA:atS S rn=(t,0):=by unfold atS;rw[if_neg J,ht]
  obtain⟨tl,ts,tz⟩:=hD.tl _ _ ht;have hlb:=hj.lb i _ (nu _) hr1;have hws:IntKind.u64.wrap ((rn:Int)-(last:Int))=((rn-last:Nat):Int):=(wrap_u64 J J).trans J;have hcn:List.count (rn:Int) S.P<=S.P.length:=ztm;have hcw:IntKind.u64.wrap ((List.count (rn:Int) S.P:Nat):Int)=((List.count (rn:Int) S.P:Nat):Int):=wrap_u64 J J;have hzi:(cc S)[i]?=some ((rn:Int),List.count (rn:Int) S.P,t):=by unfold cc tZ;rw[List.getElem?_map,hr1];show some ((rn:Int),List.count (rn:Int) S.P,(kpt S.R rn).getD [])=_;rw[ht];rfl
  have he:=hj.he
  have hdr:(cc S).drop i=((rn:Int),List.count (rn:Int) S.P,t)::(cc S).drop (i+1):=by
   rw[zsc J];rw[zrz J] at hzi;rw[Option.some.inj hzi]
  rw[hdr] at he;unfold Hv at he;dsimp only at he;rw[show((rn:Int)-(last:Int)).toNat=rn-last by omega] at he;have hbl:=rp s t
  have hmz:∀ c∈sw s t,∀ q∈u6 c.1,q.size<=1000:=fun c hc=>by
   rw[fq] at hc;rcases hc.1 with h | h
   ·exact hj.sz _ h.1
   ·exact tz _ h.2
  have hbt:=zl6 hss ts;have hn1:=uw (n:=rn-last) J;have hn2:=uw (n:=List.count (rn:Int) S.P) J
  have hlb2:∀ (j:Nat) (r:Int),i+1<=j->(kx S.R)[j]?=some r->(rn:Int)<r:=fun j r hij hr=>by
   have h3:=zs9.1 (l9 S.R) i j hlt (get_lt hr) J;rw[ue hr1,ue hr] at h3;exact Ms.1 h3
  generalize sw s t=m at he hbl hmz hbt;have hn3:=uw (n:=m.length) J;have hmw:IntKind.u64.wrap ((m.length:Nat):Int)=((m.length:Nat):Int):=wrap_u64 J J
  have hcnt:∀ {v:Value} {u:World} {H:Heap},zwe H u->PinsP S.P v H->Ret zwf 88 [v,.int .u64 rn] u H (fun v _=>v=.int .i64 (List.count (rn:Int) S.P:Nat)):=fun hH h1=>by
   obtain⟨sv,rfl,hsv⟩:=h1;exact rm hD.pl hH hsv
  generalize List.count (rn:Int) S.P=cnt at he hcn hcw hn2 hcnt;have hms:Kn.mono (.sat (SetV t)):=SetV.mono;have hmi:Kn.mono (.sat (fun v _=>v=Value.int .i64 0)):=fun _ _ _ h _=>h;refine(Zi∘Z0∘ZA∘ZM∘ZaO∘Zap∘Ze∘Zcq) ?_;refine ye (vp L 910 (WithE t 0) (r:=StG b S) Z Z Z Z Z WithE.mono (fun u H2 C2 hH hle hr2 hC2=>zl8 hA hD.n0 hH hr2 hC2)) ((Zg∘Zdd∘Zc3∘ZX) ?_);refine z7 (au L (X:=SXp) (fun x=>scs x.1) (Kp t) (we _) Nx (fun x=>⟨rfl,x.2⟩) Z Z Z Z Z) Z (Ze (h:=?_));refine vh 10 rfl fun x H1 hs1 hset=>?_;obtain⟨⟨f1,p1,f2,p2⟩,hpl⟩:=x;dsimp only[scs] at hset hpl |-;refine vh 7 rfl fun x7 H2 hs2 hset7=>?_;obtain⟨⟨f3,p3,f4,p4⟩,hpl7⟩:=x7;dsimp only[scs] at hset7 hpl7 |-;have hset2:=hset.le hs2.le;refine(Zay∘ZaR) ?_;refine qf (xg L 900 (GWr wb (acc++j7 (rn-last))) (r:=GWr wb acc) Z Z Z Z Z (fun u H C hH _ hr hC=>ge J J hH hr hC)) ((Zk∘ZQ∘Za) ?_);refine ye (vp L 910 (PinsP S.P) (r:=StG b S) Z Z Z Z Z PinsP.mono (fun u H2 C2 hH hle hr2 hC2=>zao hD.n0 hH hr2 hC2)) (Za (h:=?_));refine z7 (qd (r:=.int .i64 cnt) L Z Z (zn Z) Z Z Z (fun u H hH hle _ v1 h1=>hcnt hH h1)) Z (z7 (kw Z Z Z wo.1 wo.2 (wrap_u64 J J)) Z (qf (xg L 900 (GWr wb (acc++j7 (rn-last)++j7 cnt)) (r:=GWr wb (acc++j7 (rn-last))) Z Z Z Z Z (fun u H C hH _ hr hC=>ge J (by rw[nr];omega) hH hr hC)) ?_));refine Zk (h:=?_);refine(ZU∘Zcx∘Zcx) ?_;refine z7 (xh (φ:=KS tyC m true) L Z Z (zn Z) Z Z Z ns (fun u H hH hle _=>Pq hsl tl hss ts hbt hH (hset7.le hle) (hset2.le hle))) Z ((Zaf∘Zk∘ZaP∘Zj) ?_);refine z7 (kw Z Z Z wo.1 wo.2 (wrap_u64 J J)) Z (qf (xg L 900 (GWr wb (acc++j7 (rn-last)++j7 cnt++j7 m.length)) (r:=GWr wb (acc++j7 (rn-last)++j7 cnt)) Z Z Z Z Z (fun u H C hH _ hr hC=>ge J (by simp only[nr];omega) hH hr hC)) ?_);refine(Zan∘Zat∘Zj∘Zb3) ?_;obtain⟨A,hA2,hAl⟩:∃ A,acc++j7 (rn-last)++j7 cnt++j7 m.length=A/\A.length<=40+i*50000000:=⟨_,rfl,by simp only[nr];omega⟩
  rw[hA2];refine xu (fun j:Nat=>[(0,.is (po b)),(5,.is (k8 wb)),(6,.is (.int .u64 last)),(7,.own (Cell [f3,.pointer p3,f4,.pointer p4] tySt)),(9,.is (.int .u64 rn)),(10,.own (Cell [f1,.pointer p1,f2,.pointer p2] tySt)),(25,.sat (RsV (kx S.R) true)),(26,.is (.int .i64 (kx S.R).length)),(27,.is (.int .i64 i)),(54,.sat (KS tyC m true)),(55,.is (.int .i64 m.length)),(56,.is (.int .i64 j)),(900,.own (GWr wb (A++(m.take j).flatMap chgB)).res),(910,.own (StG b S).res)]) (fun j=>j<=m.length) (fun j=>m.length-j) 0 (mb _) ⟨Z,Z,Z,Z,Z,Z,Z,Z,Z,Z,Z,Z,by rw[zr0,zvt,mi];rfl,Z,nm⟩ ?_;rintro j hjl;have hcl:=Am hmz j;by_cases hlt2:j<m.length
  ·obtain⟨c,hc⟩:=xj hlt2;have hck:=rq hc;have hcz:=hmz c (mz hc);have hsn:=Hx hc;refine(Zi∘Zal∘ZA∘Zbm∘ZaO∘ZcO∘Zbr∘ZB∘ZaX∘Zd4) ?_;refine qf (xg L 900 (GWr wb (A++(m.take j).flatMap chgB++chgB c)) (r:=GWr wb (A++(m.take j).flatMap chgB)) Z Z Z Z Z (fun u H C hH _ hr hC=>ze0 hcz (by rw[nr];omega) hH hr hC)) ?_;refine(Zaz∘Zc5∘ZbE) ?_;exact yr (x:=j) (j+1) hlt2 J ⟨Z,Z,Z,Z,Z,Z,Z,Z,Z,Z,Z,Z,by rw[hsn,<-mp];rfl,Z,nm⟩
  ·obtain rfl:j=m.length:=by omega
   rw[m4] at hcl |-;refine(Zi∘Zal∘Zfd∘ZdU) ?_;refine qp (id:=20) [] kr T ((Zl∘ZcY∘ZaS) ?_);refine z9 (qu L Z Z M Z) Z ((ZbP∘Zcv∘ZbE) ?_);exact As (X:=SXp) 7 (r:=fun x=>Cell (scs x.1) tySt) (we t) ⟨(f1,p1,f2,p2),hpl⟩ hset2 Z (v9 (x:=(i,last,s,acc)) (i+1,rn,t,A++m.flatMap chgB) (hs1.trans hs2) ⟨hlt,by rw[<-he,<-hA2];unfold Qa;simp only[List.append_assoc],by rw[List.length_append];omega,tl,ts,tz,hlb2⟩ G ⟨Z,Z,Z,Z,Z,Z,Z,Z,Z,trivial⟩)
 ·obtain rfl:i=(kx S.R).length:=by have:=hj.hi;omega
  have he:=hj.he;rw[zrx J] at he;have he2:acc=T0:=by rw[<-he];exact(mi _).symm
  subst he2;refine(Zi∘Z0∘Zbh∘ZcS) ?_;refine qf (t5 L 900 GNo (BsV acc true) (r:=GWr wb acc) Z Z Z Z Z ns (fun u H C hH _ hr hC=>Hu (Gj J hH hr hC))) ((Zaf∘Zc) ?_);exact w6 L 910 (r:=StG b S) (rs:=[.tmp 2,.tmp 3]) Z (fun _ _ h=>h) nq Z Z (fun H _ v hv=>se hv)
def zjc{la:Option U}{t:U}:zet la t=true↔∀ y,la=some y->js y t<0:=by
 cases la with
 | none=>exact⟨fun _ y h=>(by cases h),fun _=>rfl⟩
 | some y=>exact⟨fun h z hz=>(by cases hz;exact nj h),fun h=>nf (h y rfl)⟩
def Uo{l:List U}:∀ {cs:List CH} {la:Option U},zh7 l la cs↔((∀ c∈cs,tE c.1=0/\decide (c.1∈l)=c.2/\∀ y,la=some y->js y c.1<0)/\P5 cs)
 | [],_=>⟨fun _=>⟨(fun _ h=>by cases h),Sst.nil⟩,fun _=>trivial⟩
 | c::cs,la=>by
  have ih:=Uo (l:=l) (cs:=cs) (la:=some c.1);constructor
  ·rintro⟨h1,h2,h3,h4⟩;obtain⟨h4,h5⟩:=ih.1 h4;have hb:=zjc.1 h2;refine⟨fun d hd=>?_,mn.2 ⟨fun a ha=>?_,h5⟩⟩
   ·rcases nz.1 hd with rfl | hd
    ·exact⟨h1,h3,hb⟩
    ·obtain⟨g1,g2,g3⟩:=h4 d hd;exact⟨g1,g2,fun y hy=>cmpT_ord.tr (hb y hy) (g3 _ Z)⟩
   ·obtain⟨d,hd,rfl⟩:=m6.1 ha;exact(h4 d hd).2.2 _ Z
  ·rintro⟨h1,h2⟩;have h3:=mn.1 h2;obtain⟨g1,g2,g3⟩:=h1 c (mc ..);exact⟨g1,zjc.2 g3,g2,ih.2 ⟨fun d hd=>⟨(h1 d (mf _ hd)).1,(h1 d (mf _ hd)).2.1,fun y hy=>by cases hy;exact h3.1 _ (zt6 (f:=(·.1)) hd)⟩,h3.2⟩⟩
def Ai{x:U}:∀ {l:List U},l.Nodup->x∈l->(l.filter fun z=>decide (z≠x)).length+1=l.length
 | [],_,h=>by cases h
 | y::l,hn,h=>by
  obtain⟨h1,h2⟩:=zto.1 hn;by_cases e:y=x
  ·subst e;have he:(l.filter fun z=>decide (z≠y))=l:=zul.2 fun a ha=>nf (fun e:a=y=>h1 (e ▸ ha));rw[zup (by simp),ma,he]
  ·rw[zty (by simp [e]),ma,ma,Ai h2 ((nz.1 h).resolve_left fun h=>e h.symm)]
def Py(l:List U)(c:CH)(cs:List CH):Ay l (c::cs)=Ay (uh l c.1 c.2).1 cs:=rfl
def zhy(l:List U)(a b:List CH):Ay l (a++b)=Ay (Ay l a) b:=List.foldl_append ..
def Px:∀ {cs:List CH} {l:List U},SOK l->(∀ c∈cs,c.2=true/\tE c.1=0/\c.1∈l)->cs.Pairwise (fun a b=>a.1≠b.1)->SOK (Ay l cs)/\(∀ z,z∈Ay l cs↔z∈l/\∀ c∈cs,c.1≠z)/\(Ay l cs).length+cs.length=l.length
 | [],l,h,_,_=>⟨h,fun z=>⟨fun h=>⟨h,(fun _ h=>by cases h)⟩,fun h=>h.1⟩,rfl⟩
 | c::cs,l,h,hc,hp=>by
  obtain⟨g1,g2,g3⟩:=hc c (mc ..);have hw:uh l c.1 c.2=(l.filter fun z=>decide (z≠c.1),0):=by unfold uh;rw[if_pos g2,if_pos g1]
  have hp2:=mn.1 hp;have hS:SOK (l.filter fun z=>decide (z≠c.1)):=⟨h.sst.sublist zun,fun t ht=>h.tz t (zsb.1 ht).1,fun t ht=>h.ok t (zsb.1 ht).1⟩
  obtain⟨i1,i2,i3⟩:=Px (cs:=cs) hS (fun d hd=>⟨(hc d (mf _ hd)).1,(hc d (mf _ hd)).2.1,zsb.2 ⟨(hc d (mf _ hd)).2.2,nf (hp2.1 d hd).symm⟩⟩) hp2.2;rw[Py,hw];refine⟨i1,fun z=>?_,?_⟩
  ·rw[i2,zsb];constructor
   ·rintro⟨⟨h1,h2⟩,h3⟩;exact⟨h1,fun d hd=>(nz.1 hd).elim (fun e=>by subst e;exact fun e=>nj h2 e.symm) (h3 d)⟩
   ·rintro⟨h1,h2⟩;exact⟨⟨h1,nf fun e=>h2 c (mc ..) e.symm⟩,fun d hd=>h2 d (mf _ hd)⟩
  ·have:=Ai (h.sst.nodup cmpT_ord) g3;rw[ma];dsimp only at i3 |-;omega
def tz_of{t:U}(h:tE t=0):TZ t:=by
 have h6:=ze2 h;obtain⟨⟨⟨a,b⟩,c⟩,⟨d,e⟩,f⟩:=t;simp only[u6,nz,zs8,or_false,forall_eq_or_imp,forall_eq] at h6;unfold TZ;dsimp only;omega
def Ux:∀ {cs:List CH} {l:List U},SOK l->(∀ c∈cs,c.2=false/\tE c.1=0/\c.1∉l)->cs.Pairwise (fun a b=>a.1≠b.1)->l.length+cs.length<=4096->SOK (Ay l cs)/\(∀ z,z∈Ay l cs↔z∈l\/∃ c∈cs,c.1=z)/\(Ay l cs).length=l.length+cs.length
 | [],l,h,_,_,_=>⟨h,fun z=>⟨.inl,fun h=>h.elim id (fun⟨_,h,_⟩=>by cases h)⟩,rfl⟩
 | c::cs,l,h,hc,hp,hn=>by
  obtain⟨g1,g2,g3⟩:=hc c (mc ..);rw[ma] at hn;have hw:uh l c.1 c.2=(s5 js c.1 l,0):=by unfold uh;rw[if_pos g2,g1,if_neg E,if_neg g3,if_neg J]
  have hp2:=mn.1 hp;have hS:SOK (s5 js c.1 l):=⟨bh cmpT_ord h.sst g3,fun t ht=>(gx.1 ht).elim (fun e=>e ▸ tz_of g2) (h.tz t),fun t ht=>(gx.1 ht).elim (fun e=>e ▸ g2) (h.ok t)⟩
  obtain⟨i1,i2,i3⟩:=Ux (cs:=cs) hS (fun d hd=>⟨(hc d (mf _ hd)).1,(hc d (mf _ hd)).2.1,fun hm=>(gx.1 hm).elim (fun e=>hp2.1 d hd e.symm) (hc d (mf _ hd)).2.2⟩) hp2.2 (by rw[vu];omega);rw[Py,hw];rw[vu] at i3;refine⟨i1,fun z=>?_,by rw[List.length_cons];dsimp only at i3 |-;omega⟩;rw[i2,gx];constructor
  ·rintro((e | h) | ⟨d,hd,e⟩)
   ·exact .inr ⟨c,mc ..,e.symm⟩
   ·exact .inl h
   ·exact .inr ⟨d,mf _ hd,e⟩
  ·rintro(h | ⟨d,hd,e⟩)
   ·exact .inl (.inr h)
   ·rcases nz.1 hd with rfl | hd
    ·exact .inl (.inl e.symm)
    ·exact .inr ⟨d,hd,e⟩
def dw{c:CH}:c∈M4 cs↔c∈cs/\c.2=false:=by unfold M4;rw[List.mem_filter];simp
def aw{c:CH}:c∈bf cs↔c∈cs/\c.2=true:=by unfold bf;rw[List.mem_filter]
def Uh{s:List U}{cs:List CH}(hs:SOK s)(hk:zh7 s none cs):SOK (Ay s (bf cs))/\(∀ z,z∈Ay s (bf cs)↔z∈s/\∀ c∈cs,c.1≠z)/\(Ay s (bf cs)).length+(bf cs).length=s.length:=by
 obtain⟨h1,h2⟩:=Uo.1 hk;obtain⟨i1,i2,i3⟩:=Px (cs:=bf cs) hs (fun c hc=>⟨(aw.1 hc).2,(h1 c (aw.1 hc).1).1,nj ((h1 c (aw.1 hc).1).2.1.trans (aw.1 hc).2)⟩) ((t7 h2).filter _);refine⟨i1,fun z=>(i2 z).trans ⟨fun⟨h3,h4⟩=>⟨h3,fun c hc e=>?_⟩,fun⟨h3,h4⟩=>⟨h3,fun c hc=>h4 c (aw.1 hc).1⟩⟩,i3⟩
 cases hk:c.2 with
 | true=>exact h4 c (aw.2 ⟨hc,hk⟩) e
 | false=>exact of_decide_eq_false ((h1 c hc).2.1.trans hk) (e ▸ h3)
def zl9{s:List U}{cs:List CH}(hs:SOK s)(hk:zh7 s none cs)(hl:s.length+(M4 cs).length<=4096+(bf cs).length):SOK (Ay s (bf cs++M4 cs))/\(∀ z,z∈Ay s (bf cs++M4 cs)↔(z∈s/\∀ c∈cs,c.1≠z)\/∃ c∈cs,c.2=false/\c.1=z)/\(Ay s (bf cs++M4 cs)).length+(bf cs).length=s.length+(M4 cs).length:=by
 obtain⟨h1,h2⟩:=Uo.1 hk;obtain⟨i1,i2,i3⟩:=Uh hs hk;obtain⟨j1,j2,j3⟩:=Ux (cs:=M4 cs) i1 (fun c hc=>⟨(dw.1 hc).2,(h1 c (dw.1 hc).1).1,fun hm=>((i2 _).1 hm).2 c (dw.1 hc).1 rfl⟩) ((t7 h2).filter _) J;rw[zhy];refine⟨j1,fun z=>?_,by omega⟩;rw[j2,i2];exact or_congr Iff.rfl ⟨fun⟨c,hc,e⟩=>⟨c,(dw.1 hc).1,(dw.1 hc).2,e⟩,fun⟨c,hc,h,e⟩=>⟨c,dw.2 ⟨hc,h⟩,e⟩⟩
def Pr{s:List U}(hs:SOK s)(ht:SOK t):zh7 s none (sw s t):=Uo.2 ⟨fun c hc=>by
 rw[fq] at hc;exact⟨hc.1.elim (fun h=>hs.ok _ h.1) fun h=>ht.ok _ h.2,hc.2.symm,fun _ h=>by cases h⟩,Mw s t⟩
def zhs{s:List U}(hs:SOK s)(ht:SOK t):t.length+(bf (sw s t)).length=s.length+(M4 (sw s t)).length:=by
 obtain⟨i1,i2,i3⟩:=Uh hs (Pr hs ht)
 have hp:(Ay s (bf (sw s t))++(M4 (sw s t)).map (·.1)).Perm t:=by
  refine(List.perm_ext_iff_of_nodup (List.nodup_append.2 ⟨i1.sst.nodup cmpT_ord,?_,?_⟩) (ht.sst.nodup cmpT_ord)).2 fun z=>?_
  ·exact List.pairwise_map.2 ((t7 (Mw s t)).filter _)
  ·intro a ha b hb e;obtain⟨c,hc,rfl⟩:=m6.1 hb;exact((i2 a).1 ha).2 c (dw.1 hc).1 e.symm
  ·rw[mj,i2,m6];constructor
   ·rintro(⟨h1,h2⟩ | ⟨c,hc,rfl⟩)
    ·exact Decidable.byContradiction fun h=>h2 (z,true) (fq.2 ⟨.inl ⟨h1,h⟩,(nf h1).symm⟩) Z
    ·have h1:=dw.1 hc;have h2:=fq.1 h1.1;rcases h2.1 with h | h
     ·exact ni h.1 (of_decide_eq_false (h2.2.symm.trans h1.2))
     ·exact h.2
   ·intro hz;by_cases h1:z∈s
    ·refine .inl ⟨h1,fun c hc e=>?_⟩;subst e;rcases(fq.1 hc).1 with h | h
     ·exact h.2 hz
     ·exact h.1 h1
    ·exact .inr ⟨(z,false),dw.2 ⟨fq.2 ⟨.inr ⟨h1,hz⟩,(ng h1).symm⟩,rfl⟩,rfl⟩
 have:=hp.length_eq;rw[nr,mg] at this;omega
def Uv{s:List U}(hs:SOK s)(ht:SOK t)(lt:t.length<=4096):s.length+(M4 (sw s t)).length<=4096+(bf (sw s t)).length/\Ay s (bf (sw s t)++M4 (sw s t))=t:=by
 have h0:=zhs hs ht;obtain⟨i1,i2,i3⟩:=zl9 hs (Pr hs ht) J;refine⟨by omega,pg cmpT_ord i1.sst ht.sst fun z=>?_⟩;rw[i2];constructor
 ·rintro(⟨h1,h2⟩ | ⟨c,hc,h1,rfl⟩)
  ·exact Decidable.byContradiction fun h=>h2 (z,true) (fq.2 ⟨.inl ⟨h1,h⟩,(nf h1).symm⟩) Z
  ·have h2:=fq.1 hc;rcases h2.1 with h | h
   ·exact ni h.1 (of_decide_eq_false (h2.2.symm.trans h1))
   ·exact h.2
 ·intro hz;by_cases h1:z∈s
  ·refine .inl ⟨h1,fun c hc e=>?_⟩;subst e;rcases(fq.1 hc).1 with h | h
   ·exact h.2 hz
   ·exact h.1 h1
  ·exact .inr ⟨(z,false),fq.2 ⟨.inr ⟨h1,hz⟩,(ng h1).symm⟩,rfl,rfl⟩
def kzs(ks:List K3):List (Int×List U):=ks.map fun k=>(k.1,k.2.2)
def kpi(ks:List K3):List Int:=ks.flatMap fun k=>List.replicate k.2.1 k.1
def KOK:List K3->Int->Prop
 | [],_=>True
 | k::ks,last=>last<k.1/\k.1<=18446744073709551615/\k.2.1<=4096/\SOK k.2.2/\k.2.2.length<=4096/\KOK ks k.1
def zo7:SOK []:=⟨Sst.nil,(fun _ h=>by cases h),(fun _ h=>by cases h)⟩
def zit{R:Rd}(h0:R.err=0)(hn:n<18446744073709551616)(hd:bs.drop R.at_=j7 n++rest):ry bs R=(n,⟨R.at_+(j7 n).length,R.bad,0⟩):=by
 unfold ry dl;rw[E0 hn hd,h0,nc (fun h=>h rfl)];dsimp only;rw[nc (fun h=>h rfl)]
def zk0{R:Rd}{k:Nat}(h0:R.err=0)(hn:n<18446744073709551616)(hd:bs.drop R.at_=(j7 n).take k)(hk:k<(j7 n).length)(ha:R.at_+k=bs.length):(ry bs R).2.bad=bs.length/\(ry bs R).2.err=17:=by
 obtain⟨_,z2,z3⟩:=Lp hn h0 hd hk ha;unfold ry dl;rw[h0,nc (fun h=>h rfl),na (by rw[z3];decide)];exact⟨z2,z3⟩
def ziw{bs rest:List Nat}:∀ {ks:List K3} {last:Nat} {s:List U} {acc:List (Int×List U)} {Q:List Int} {R:Rd},R.err=0->SOK s->s.length<=4096->KOK ks last->bs.drop R.at_=Hv ks last s++rest->
  ldW bs ks.length last s acc Q R=(((acc++kzs ks,Q++kpi ks),⟨R.at_+(Hv ks last s).length,R.bad,0⟩),(0,0))
 | [],last,s,acc,Q,⟨a,b,e⟩,h0,_,_,_,_=>by
  dsimp only at h0;subst h0;show(((acc,Q),(⟨a,b,0⟩:Rd)),((0:Int),(0:Int)))=(((acc++[],Q++[]),⟨a+0,b,0⟩),(0,0));rw[mi,mi];rfl
 | (r,n,t)::ks,last,s,acc,Q,R,h0,hs,hl,hk,hd=>by
  obtain⟨k1,k2,k3,k4,k5,k6⟩:=hk;dsimp only at k1 k2 k3 k4 k5 k6;obtain⟨st,rfl,hst⟩:∃ st:Nat,r=((last+st:Nat):Int)/\0<st:=⟨(r-last).toNat,by omega,by omega⟩
  unfold Hv at hd |-;dsimp only at hd |-;rw[show(((last+st:Nat):Int)-(last:Int)).toNat=st by omega] at hd |-;rw[mp,mp,mp] at hd;have h1:=zit h0 J hd;have h2:=Cf (lim:=4096) (R:=⟨R.at_+(j7 st).length,R.bad,0⟩) rfl (E0 (n:=n) J (wl hd)) rfl k3 E;have hb:=Uv hs k4 k5;have hbl:=rp s t;have h3:=zd6 (R:=⟨R.at_+(j7 st).length+(j7 n).length,R.bad,0⟩) rfl J (Pr hs k4) hb.1 (wl (wl hd));rw[hb.2] at h3;have ih:=ziw (ks:=ks) (last:=last+st) (s:=t) (acc:=acc++[(((last+st:Nat):Int),t)]) (Q:=Q++List.replicate n ((last+st:Nat):Int)) (R:=⟨R.at_+(j7 st).length+(j7 n).length+(Qa (sw s t)).length,R.bad,0⟩) rfl k4 k5 k6 (wl (wl (wl hd)));rw[ma];unfold ldW;rw[h1];dsimp only;rw[nc (fun h=>h rfl),nc (fun h=>h ⟨hst,by omega⟩),h2];dsimp only;rw[nc (fun h=>h rfl),h3];dsimp only;rw[nc (fun h=>h rfl),zsh,ih];unfold kzs kpi;simp only[mt,zsi,mp,nr,zsa,mo,zud]
def zcz{bs:List Nat}:∀ {ks:List K3} {last:Nat} {s:List U} {acc:List (Int×List U)} {Q:List Int} {R:Rd} {j:Nat},R.err=0->SOK s->s.length<=4096->KOK ks last->bs.drop R.at_=(Hv ks last s).take j->j<(Hv ks last s).length->R.at_+j=bs.length->
  (ldW bs ks.length last s acc Q R).2=((bs.length:Int),17)
 | [],_,_,_,_,_,j,_,_,_,_,_,h,_=>ni h (zt1 j)
 | (r,n,t)::ks,last,s,acc,Q,R,j,h0,hs,hl,hk,hd,hj,ha=>by
  have h17:(17:Int)≠0:=E;obtain⟨k1,k2,k3,k4,k5,k6⟩:=hk;dsimp only at k1 k2 k3 k4 k5 k6;obtain⟨st,rfl,hst⟩:∃ st:Nat,r=((last+st:Nat):Int)/\0<st:=⟨(r-last).toNat,by omega,by omega⟩
  unfold Hv at hd hj;dsimp only at hd hj;rw[show(((last+st:Nat):Int)-(last:Int)).toNat=st by omega] at hd hj;rw[mp,mp] at hd hj;rw[zsm] at hd;rw[ma];unfold ldW;by_cases c1:j<(j7 st).length
  ·rw[zt7 (zs5 c1),zr0,mi] at hd;obtain⟨z2,z3⟩:=zk0 h0 J hd c1 ha;rw[na (by rw[z3];exact h17),z2,z3]
  ·rw[m8 J] at hd;have h1:=zit h0 J hd;have hd1:=wl hd;rw[h1];dsimp only;rw[nc (fun h=>h rfl),nc (fun h=>h ⟨hst,by omega⟩)];rw[zsm] at hd1;rw[nr] at hj;by_cases c2:j-(j7 st).length<(j7 n).length
   ·rw[zt7 (zs5 c2),zr0,mi] at hd1;obtain⟨z1,z2,z3⟩:=Lp (R:=⟨R.at_+(j7 st).length,R.bad,0⟩) (n:=n) J rfl hd1 c2 G;have h2:=Ly (lim:=4096) (R:=⟨R.at_+(j7 st).length,R.bad,0⟩) (R2:=(Bo bs ⟨R.at_+(j7 st).length,R.bad,0⟩).2) rfl (Prod.ext z1 rfl) (by rw[z3];exact h17);rw[h2];dsimp only;rw[na (by rw[z3];exact h17),z2,z3]
   ·rw[m8 J] at hd1;have h2:=Cf (lim:=4096) (R:=⟨R.at_+(j7 st).length,R.bad,0⟩) rfl (E0 (n:=n) J hd1) rfl k3 E;have hd2:=wl hd1;rw[h2];dsimp only;rw[nc (fun h=>h rfl)];rw[nr] at hj;have hb:=Uv hs k4 k5;have hbl:=rp s t;rw[zsm] at hd2;by_cases c3:j-(j7 st).length-(j7 n).length<(Qa (sw s t)).length
    ·rw[zt7 (zs5 c3),zr0,mi] at hd2;have h3:=zhi (l:=s) (R:=⟨R.at_+(j7 st).length+(j7 n).length,R.bad,0⟩) rfl J (Pr hs k4) hd2 c3 G;rw[h3];dsimp only;rw[na h17]
    ·rw[m8 J] at hd2;have h3:=zd6 (R:=⟨R.at_+(j7 st).length+(j7 n).length,R.bad,0⟩) rfl J (Pr hs k4) hb.1 hd2;rw[hb.2] at h3;have ih:=zcz (ks:=ks) (last:=last+st) (s:=t) (acc:=acc++[(((last+st:Nat):Int),t)]) (Q:=Q++List.replicate n ((last+st:Nat):Int)) (R:=⟨R.at_+(j7 st).length+(j7 n).length+(Qa (sw s t)).length,R.bad,0⟩) rfl k4 k5 k6 (wl hd2) (by rw[List.length_append] at hj;omega) G;rw[h3];dsimp only;rw[nc (fun h=>h rfl),zsh];exact ih
def zn5{ks:List K3}(hk:KOK ks 0)(h0:0<ks.length)(h1:ks.length<=1024):ldF (Ck ks)=((kzs ks,kpi ks),(0,0)):=by
 have hd:(Ck ks).drop (⟨0,0,0⟩:Rd).at_=j7 ks.length++(Hv ks (0:Nat) []++[]):=by rw[mi];rfl
 have h2:=Cf (lim:=1024) (R:=⟨0,0,0⟩) rfl (E0 (n:=ks.length) J hd) rfl h1 E;have h3:=ziw (bs:=Ck ks) (acc:=[]) (Q:=[]) (R:=⟨0+(j7 ks.length).length,0,0⟩) rfl zo7 (mb _) hk (wl hd);unfold ldF;rw[h2];dsimp only;rw[nc (fun h=>h rfl),nc J,zsh,h3];dsimp only;have he:Mn (Ck ks) ⟨0+(j7 ks.length).length+(Hv ks (0:Nat) []).length,0,0⟩=(0,0):=zg6 rfl (by unfold Ck;rw[List.length_append];dsimp only;exact(by simp));rw[nc (fun h=>h rfl),he,nc (fun h=>h rfl)];rfl
def zk8{ks:List K3}(hk:KOK ks 0)(h0:0<ks.length)(h1:ks.length<=1024){j:Nat}(hj:j<(Ck ks).length):ldF ((Ck ks).take j)=(([],[]),((j:Int),17)):=by
 have h17:(17:Int)≠0:=E;have hlen:((Ck ks).take j).length=j:=by rw[mh];omega
 have hd:((Ck ks).take j).drop (⟨0,0,0⟩:Rd).at_=(j7 ks.length).take j++(Hv ks (0:Nat) []).take (j-(j7 ks.length).length):=by
  rw[<-zsm];rfl
 have hjl:j<(j7 ks.length).length+(Hv ks (0:Nat) []).length:=by unfold Ck at hj;rw[List.length_append] at hj;exact hj
 obtain⟨b,hb⟩:∃ b,(Ck ks).take j=b:=⟨_,rfl⟩
 rw[hb] at hd hlen |-;unfold ldF;by_cases c1:j<(j7 ks.length).length
 ·rw[zt7 (zs5 c1),zr0,mi] at hd;obtain⟨z1,z2,z3⟩:=Lp (R:=⟨0,0,0⟩) (n:=ks.length) J rfl hd c1 G;have h2:=Ly (lim:=1024) (R:=⟨0,0,0⟩) (R2:=(Bo b ⟨0,0,0⟩).2) rfl (Prod.ext z1 rfl) (by rw[z3];exact h17);rw[h2];dsimp only;rw[na (by rw[z3];exact h17),z2,z3,hlen]
 ·rw[m8 J] at hd;have h2:=Cf (lim:=1024) (R:=⟨0,0,0⟩) rfl (E0 (n:=ks.length) J hd) rfl h1 E;have h3:=zcz (bs:=b) (last:=0) (s:=[]) (acc:=[]) (Q:=[]) (R:=⟨0+(j7 ks.length).length,0,0⟩) rfl zo7 (Nat.zero_le _) hk (wl hd) J G;rw[h2];dsimp only;rw[nc (fun h=>h rfl),nc J,zsh,h3];dsimp only;rw[na h17,hlen]
end Go.V.L11
namespace Go.V.L10
open Go.V.L2 Go.V.L8 Go.V.L6
abbrev ZO:=OO×Value×Value
def ooc(z:ZO):List Value:=[.int .u8 z.1.wh,z.2.1,z.2.2,.int .u8 z.1.rv,.int .i64 z.1.kp]
def zkr(z:ZO):(ooc z).length=5:=rfl
def OzOK(zs:List ZO)(H:Heap):Prop:=∀ z∈zs,OOK z.1/\PS3 z.1.ms false z.2.1 H/\PS3 z.1.cs false z.2.2 H
def OzOK.le{zs:List ZO}{H H':Heap}(h:OzOK zs H)(hle:H.Le H'):OzOK zs H':=fun z hz=>⟨(h z hz).1,(h z hz).2.1.le hle,(h z hz).2.2.le hle⟩
abbrev WsV(zs:List ZO):Value->Heap->Prop:=SlV zmi 5 (zs.flatMap ooc) zs.length false
def zp0{zs:List ZO}{z:ZO}(h:zs[i]?=some z):((zs.flatMap ooc).drop (i*5)).take 5=[.int .u8 z.1.wh,z.2.1,z.2.2,.int .u8 z.1.rv,.int .i64 z.1.kp]:=gy zkr zs i z h
def Bh(S:Sto)(zs:List ZO)(i:Nat):Sto:=(zs.take i).foldl (fun S z=>doS S z.1) S
def G1{zs:List ZO}{z:ZO}(h:zs[i]?=some z):Bh S zs (i+1)=doS (Bh S zs i) z.1:=by
 unfold Bh;rw[ju h,List.foldl_append];rfl
def Mf{n:Nat}{S:Sto}{zs:List ZO}(h:JJ n S):∀ {i:Nat},n+i<=101->JJ (n+i) (Bh S zs i)
 | 0,_=>h
 | i+1,hi=>by
  have ih:=Mf h (zs:=zs) (i:=i) J;rcases m5 i zs.length with hl | hl
  ·obtain⟨z,hz⟩:=xj hl;rw[G1 hz];exact zp8 ih J _
  ·have:Bh S zs (i+1)=Bh S zs i:=by unfold Bh;rw[List.take_of_length_le hl,List.take_of_length_le J]
   rw[this];exact ih.mono J
def zbg(S:Sto)(zs:List ZO):Sto:=Bh S zs (min zs.length 25)
def zlf{zs:List ZO}(h:JJ n S)(hn:n<=75):JJ (n+25) (zbg S zs):=(Mf h J).mono J
attribute [local irreducible] RetO RetT jh RetX RetY
def zf1{pb:Nat}{zs:List ZO}(hj:JJ n S)(hn:n<=75){xv:Value}(hB:zwe B w)(hx:WsV zs xv B)(ho:OzOK zs B)(hr:(BoG pb b S).P B w C)(hC:ZCB C w B):
  RetY zwf 47 [po pb,.agg #[xv]] w B C (BoG pb b (zbg S zs)) (fun v _=>v=.int .i64 1):=by
 obtain⟨p,c,rfl⟩:=ke hx;unfold RetY;refine yz 900 (BoG pb b S) Tryz.func47 Z Tryz.ntmps47 (np Z) hB hr hC ((Zq∘Zag∘Zae) ?_);refine xu (fun i:Nat=>[(0,.is (po pb)),(3,.sat (At [.slice p zs.length c] 119 0)),(5,.is (.int .i64 i)),(900,.own (BoG pb b (Bh S zs i)).res)]) (fun i=>i<=zs.length/\i<=25) (fun i=>25-i) 0 ⟨mb _,mb _⟩ ⟨Z,Z,Z,Z,nm⟩ ?_;rintro i ⟨h1,h2⟩;dsimp only at h1 h2 |-;have hji:=Mf hj (zs:=zs) (i:=i) J;by_cases hl:i<zs.length
 ·by_cases h25:i<25
  ·obtain⟨z,hz⟩:=xj hl;obtain⟨o,mv,cv⟩:=z;have hoz:=ho _ (mz hz);have hc:=zp0 hz;have hps:=G1 (S:=S) hz;have hwk:IntKind.i64.wrap ((i:Int)+1)=((i+1:Nat):Int):=xb J J;refine(Zd∘Zn∘ZcE∘ZbT∘ZS∘Zb∘ZS∘Zb4∘Zeh∘Zt∘ZcE∘Zdm) ?_;refine z7 (yn L (vs:=[_,_,_,_,_]) Z Z Z Z Z ⟨_,rfl⟩) Z (qf (yj L 900 (BoG pb b (doS (Bh S zs i) o)) (.int .i64 1) (r:=BoG pb b (Bh S zs i)) Z Z Z Z Z (fun u H2 C2 hH hle hr2 hC2=>tp (zoh hji J hoz.1 hH ⟨mv,cv,rfl,hoz.2.1.le hle,hoz.2.2.le hle⟩ hr2 hC2))) ((Z8∘Za1∘Zz∘Za4) ?_));exact yr (x:=i) (i+1) ⟨hl,h25⟩ J ⟨Z,Z,Z,by rw[hps];rfl,nm⟩
  ·obtain rfl:i=25:=by omega
   refine(Zd∘Zn∘ZcE∘ZbT∘ZS∘Zb∘Zab∘Zf∘Zao∘Zdz∘Z5∘Zc) ?_;exact w6 L 900 (r:=BoG pb b (Bh S zs 25)) (rs:=[.tmp 4]) Z (fun _ _ h=>h) Since.refl Z (by unfold zbg;rw[Nat.min_eq_right J]) (fun H hle=>rfl)
 ·obtain rfl:i=zs.length:=by omega
  refine(Zd∘Zn∘ZcE∘ZbT∘Zab∘ZcF∘Zf∘Zao∘Zdz∘Z5∘Zc) ?_;exact w6 L 900 (r:=BoG pb b (Bh S zs zs.length)) (rs:=[.tmp 4]) Z (fun _ _ h=>h) Since.refl Z (by unfold zbg;rw[Nat.min_eq_left J]) (fun H hle=>rfl)
end Go.V.L10
namespace Go.V.L11
open Go.V.L2 Go.V.L3 Go.V.L4 Go.V.L6 Go.V.L8 Go.V.L10
abbrev zic:TypeId:=171
abbrev KZ:=K3×Value
def kzc(z:KZ):List Value:=[.int .u64 z.1.1,.int .i64 z.1.2.1,z.2]
def zk9(z:KZ):(kzc z).length=3:=rfl
def KzOK(zs:List KZ)(H:Heap):Prop:=∀ z∈zs,US z.1.2.2 false z.2 H
def KzOK.le{zs:List KZ}{H H':Heap}(h:KzOK zs H)(hle:H.Le H'):KzOK zs H':=fun z hz=>(h z hz).le hle
abbrev KzV(zs:List KZ):Value->Heap->Prop:=SlV zic 3 (zs.flatMap kzc) zs.length false
def KlV(ks:List K3):Value->Heap->Prop:=fun v H=>∃ zs:List KZ,zs.map (·.1)=ks/\KzOK zs H/\KzV zs v H
def KlV.le{ks:List K3}{v:Value}{H H':Heap}(h:KlV ks v H)(hle:H.Le H'):KlV ks v H':=let ⟨zs,h1,h2,h3⟩:=h;⟨zs,h1,h2.le hle,h3.le hle⟩
def KlV.mono{ks:List K3}:Kn.mono (.sat (KlV ks)):=fun _ _ _ h hle=>h.le hle
def zlb{zs:List KZ}{z:KZ}(h:zs[i]?=some z):((zs.flatMap kzc).drop (i*3)).take 3=[.int .u64 z.1.1,.int .i64 z.1.2.1,z.2]:=gy zk9 zs i z h
def zla{κ:Kap}{s:Nat}{zs:List KZ}(h:κ s=some (.own (SlR zic 3 (zs.length+1) (zs.flatMap kzc++[.int .u64 r,.int .i64 n,v])))):κ s=some (.own (SlR zic 3 (zs++[((r,n,t),v)]).length ((zs++[((r,n,t),v)]).flatMap kzc))):=by
 rw[h,zr5,nr];rfl
def zc4{zs:List KZ}{ks:List K3}(h:zs.map (·.1)=ks){k:K3}(hk:ks[i]?=some k):∃ v,zs[i]?=some (k,v):=by
 rw[<-h,zr8] at hk
 cases hz:zs[i]? with
 | none=>rw[hz] at hk;cases hk
 | some z=>rw[hz] at hk;cases hk;exact⟨z.2,rfl⟩
def ksT(S:Sto)(i:Nat):List K3:=(Cw S.R i).map fun r=>(r,List.count r S.P,tZ S r)
def zgt{o:Option (List U)}(h:S.R[i]?=some o):ksT S (i+1)=ksT S i++o.elim [] (fun t=>[(((i+1:Nat):Int),List.count ((i+1:Nat):Int) S.P,t)]):=by
 unfold ksT;rw[Hk,h,zr1];congr 1
 cases o with
 | none=>rfl
 | some t=>
  have hk:kpt S.R ((i+1:Nat):Int)=some t:=by rw[cu,h];rfl
  rw[na (show(some (some t)).join.isSome=true from rfl)];show [(((i+1:Nat):Int),List.count ((i+1:Nat):Int) S.P,tZ S ((i+1:Nat):Int))]=_;unfold tZ;rw[hk];rfl
def X8{L:List Int}{j:Nat}{x:Int}(h:L[j]?=some x):(L.take (j+1)).count r=(L.take j).count r+(if x=r then 1 else 0):=by
 rw[zr4,h,zsq];congr 1;show List.count r [x]=_;rw[List.count_singleton];by_cases e:x=r
 ·simp [e]
 ·simp [e]
attribute [local irreducible] XP LV RetO RetT jh RetX RetY Pan o5
def Xt{pb:Nat}(hj:JJ n S)(hn:n<=100)(hB:zwe B w)(hr:(BoG pb b S).P B w C)(hC:ZCB C w B):
  RetY zwf 48 [po pb] w B C (BoG pb b S) (KlV (cc S)):=by
 have hR:=hj.hR;have hP:=hj.hP;unfold RetY;refine yz 900 (BoG pb b S) Tryz.func48 Z Tryz.ntmps48 (np Z) hB hr hC ?_;rw[Sb];refine ZdS (h:=?_);rw[Mv];refine vh 900 rfl fun x H0 hs0 hφ=>?_;obtain⟨lv,pv⟩:=x;obtain⟨hl,hpv⟩:=hφ;dsimp only at hl hpv |-;obtain⟨rz,hzs,hrow,hrv⟩:=hl;have hzl:rz.length=S.R.length:=by rw[<-hzs,mg]
 obtain⟨p1,c1,rfl⟩:=ke hrv;obtain⟨p2,c2,rfl⟩:=ke hpv;refine(Zw∘Zh) ?_;refine um 3 zic 3 rfl ((ZL∘Zae) ?_)
 refine xu (fun x:Nat×List KZ=>[(0,.is (po pb)),(3,.own (SlR zic 3 x.2.length (x.2.flatMap kzc))),(4,.is (.int .i64 x.1)),(900,.own (xr pb [po b,.slice p1 rz.length c1,.slice p2 S.P.length c2] zjq)),(901,.own (StG b S).res)])
  (fun x=>x.1<=S.R.length/\x.2.map (·.1)=ksT S x.1/\KzOK x.2 H0/\x.2.length<=x.1) (fun x=>S.R.length-x.1) (0,[]) ⟨mb _,rfl,(fun _ h=>by cases h),mb _⟩ ⟨rfl,rfl,rfl,rfl,rfl,nm⟩ ?_
 rintro⟨i,zs⟩ ⟨hi,hks,hok,hzz⟩;dsimp only at hi hks hok hzz |-;by_cases hlt:i<S.R.length
 ·obtain⟨o,ho⟩:=xj hlt;obtain⟨v,hv⟩:=Oc hzs ho;have hc:=za0 hv;have hus:US (o.getD []) false v H0:=hrow _ (mz hv);dsimp only at hc;obtain⟨p3,c3,rfl⟩:=ke hus;have hsu:=zgt ho;have hwk:IntKind.i64.wrap ((i:Int)+1)=((i+1:Nat):Int):=xb J J;have hwu:IntKind.u64.wrap ((i+1:Nat):Int)=((i+1:Nat):Int):=wrap_u64 J J
  cases o with
  | none=>
   refine(Zbs∘Zam∘Zak∘Zds∘Zbo∘Zdi∘ZC∘Zam∘Zak∘Zds) ?_;refine p9 21 (RwV rz) Z ns hrv ((Zdm∘ZcD∘Zap∘Za1∘Zt∘Za4) ?_);exact yr (x:=(i,zs)) (i+1,zs) ⟨hlt,by dsimp only;rw[hks,hsu];exact(List.append_nil _).symm,hok,by dsimp only;omega⟩ G ⟨Z,Z,Z,Z,Z,trivial⟩
  | some t=>
   refine(Zbs∘Zam∘Zak∘Zds∘Zbo∘Zdi∘ZC∘Zam∘Zak∘Zds) ?_;refine p9 21 (RwV rz) Z ns hrv ((Zdm∘ZcD∘Zap∘Zr∘Z5∘Zh∘Z7∘Zae) ?_);refine xu (fun j:Nat=>[(0,.is (po pb)),(3,.own (SlR zic 3 zs.length (zs.flatMap kzc))),(4,.is (.int .i64 i)),(5,.is (.int .i64 ((S.P.take j).count ((i+1:Nat):Int):Nat))),(6,.is (.int .i64 j)),(900,.own (xr pb [po b,.slice p1 rz.length c1,.slice p2 S.P.length c2] zjq)),(901,.own (StG b S).res)]) (fun j=>j<=S.P.length) (fun j=>S.P.length-j) 0 (mb _) ⟨Z,Z,Z,Z,Z,Z,Z,nm⟩ ?_;rintro j hjl;by_cases hlt2:j<S.P.length
   ·obtain⟨q,hq⟩:=xj hlt2;have hcq:=oc hq;have hct:=X8 (r:=((i+1:Nat):Int)) hq;have hcl:(S.P.take j).count ((i+1:Nat):Int)<=j:=mq ztm (by rw[mh];omega);have hwj:IntKind.i64.wrap ((j:Int)+1)=((j+1:Nat):Int):=xb J J;by_cases hqr:q=((i+1:Nat):Int)
    ·rw[na hqr] at hct;have hwc:IntKind.i64.wrap (((S.P.take j).count ((i+1:Nat):Int):Nat)+1:Int)=(((S.P.take j).count ((i+1:Nat):Int)+1:Nat):Int):=xb J J;refine(Zd∘Z0∘Zcm∘Zak∘Zds∘Zbo∘Zdi∘Zcz∘Zam∘Zak∘Zds) ?_;refine p9 40 (RsV S.P false) Z ns hpv ((Zdm∘Zap∘Za∘ZH) ?_);refine z7 (kw Z Z Z wo.1 wo.2 (wrap_u64 J J)) Z ((Zx∘Z1∘ZbL∘Za4∘Za0∘Zai∘Za4) ?_);exact yr (x:=j) (j+1) hlt2 J ⟨Z,Z,Z,by rw[hct];rfl,Z,Z,Z,nm⟩
    ·rw[nc hqr] at hct;refine(Zd∘Z0∘Zcm∘Zak∘Zds∘Zbo∘Zdi∘Zcz∘Zam∘Zak∘Zds) ?_;refine p9 40 (RsV S.P false) Z ns hpv ((Zdm∘Zap∘Za∘ZH) ?_);refine z7 (kw Z Z Z wo.1 wo.2 (wrap_u64 J J)) Z ((Z8∘Za1∘Zai∘Za4) ?_);exact yr (x:=j) (j+1) hlt2 J ⟨Z,Z,Z,by rw[hct];rfl,Z,Z,Z,nm⟩
   ·obtain rfl:j=S.P.length:=by omega
    rw[m4];refine(Zd∘Z0∘Zcm∘Zak∘Zds∘Zbo∘Zbc∘ZdU∘ZQ) ?_;refine qf (yo (.inl Z) Z) ((Za∘ZH) ?_);refine z7 (kw Z Z Z wo.1 wo.2 (wrap_u64 J J)) Z ((Zcm∘Zak∘Zds) ?_);refine p9 59 (RwV rz) Z ns hrv ((Zdm∘ZcD∘Zap) ?_);refine z7 (yv (cs:=[_,_,_]) Z Z zpv Z Z) Z (ZJ (h:=?_));refine qf (jx L Z Z Z (eg Z) Z zqe Z Z J J) (qf (yo (.inr Z) Z) ((Zaz∘Zt∘Za4) ?_))
    exact yr (x:=(i,zs)) (i+1,zs++[((((i+1:Nat):Int),S.P.count ((i+1:Nat):Int),t),.slice p3 t.length c3)]) ⟨hlt,by dsimp only;rw[List.map_append,hks,hsu];rfl,fun z hz=>by
     rcases mj.1 hz with h1 | h1
     ·exact hok z h1
     ·rw[List.mem_singleton.1 h1];exact hus,by dsimp only;rw[List.length_append,List.length_singleton];omega⟩ G ⟨rfl,zla rfl,rfl,rfl,rfl,trivial⟩
 ·obtain rfl:i=S.R.length:=by omega
  refine(Zbs∘Zam∘Zak∘Zds∘Zbo∘Zb5) ?_;refine Zew (h:=?_);refine(ZU∘Zg∘Zb9) ?_;refine wn 900 (BhG pb b S).res Z (Fy ⟨rz,hzs,hrow,hrv⟩ hpv) (jy 900 901 rfl Z (xi (StG b S)) ?_);exact w6 L 900 (r:=BoG pb b S) (rs:=[.tmp 2]) Z (fun _ _ h=>h) hs0 Z Z (fun H hle v hv=>⟨zs,hks,hok.le hle,hv⟩)
def zc5(S:Sto):(cc S).length=(kx S.R).length:=mg ..
def zc6(h:(kx S.R)[i]?=some r):(cc S)[i]?=some (r,List.count r S.P,tZ S r):=by unfold cc;rw[List.getElem?_map,h];rfl
def Sz(ks:List K3)(i:Nat):Nat:=((ks.take i).map fun k=>k.2.1).sum
def Ni{ks:List K3}{k:K3}(h:ks[i]?=some k):Sz ks (i+1)=Sz ks i+k.2.1:=by
 unfold Sz;rw[zr4,h,zr1,List.sum_append];simp
def Y7{S:Sto}(hz:S.P.length<=1000000000000):∀ i,Sz (cc S) i<=i*1000000000000
 | 0=>by unfold Sz;rw[List.take_zero];exact Nat.le_refl _
 | i+1=>by
  have ih:=Y7 hz i
  cases hk:(cc S)[i]? with
  | none=>
   have:Sz (cc S) (i+1)=Sz (cc S) i:=by unfold Sz;rw[List.take_add_one,hk];simp
   omega
  | some k=>
   rw[Ni hk];have hm:=mz hk;unfold cc at hm;obtain⟨r,_,rfl⟩:=m6.1 hm;have:List.count r S.P<=S.P.length:=ztm;dsimp only;omega
def zae{α:Type}(f g:α->Nat):∀ l:List α,(l.map fun x=>f x+g x).sum=(l.map f).sum+(l.map g).sum
 | []=>rfl
 | x::l=>by rw[mt,mt,mt,zuq,zuq,zuq,zae f g l];omega
def Kj{α:Type}:∀ l:List α,(l.map fun _=>0).sum=0
 | []=>rfl
 | x::l=>by rw[mt,zuq,Kj l]
def zad{x:Int}:∀ {l:List Int},l.Nodup->x∈l->(l.map fun r=>if x=r then 1 else 0).sum=1
 | [],_,h=>by cases h
 | y::l,hn,h=>by
  obtain⟨h1,h2⟩:=zto.1 hn;rw[mt,zuq];by_cases e:x=y
  ·subst e;have hz:(l.map fun r=>if x=r then 1 else 0)=l.map fun _=>0:=ztv fun r hr=>nc fun(e:x=r)=>h1 (e ▸ hr);rw[na rfl,hz,Kj]
  ·rw[nc e,zad h2 ((nz.1 h).resolve_left e)]
def Gq{L:List Int}(hn:L.Nodup):∀ {P:List Int},(∀ r∈P,r∈L)->(L.map fun r=>List.count r P).sum=P.length
 | [],_=>Kj L
 | x::P,h=>by
  have hc:(L.map fun r=>List.count r (x::P))=L.map fun r=>List.count r P+(if x=r then 1 else 0):=ztv fun r _=>by
   rw[List.count_cons];by_cases e:x=r<;>simp [e]
  rw[hc,zae,Gq hn fun r hr=>h r (mf _ hr),zad hn (h x (mc ..)),ma]
def Sy{S:Sto}(hp:∀ r∈S.P,(kpt S.R r).isSome=true):Sz (cc S) (cc S).length=S.P.length:=by
 unfold Sz;rw[m4];unfold cc;rw[ztl];exact Gq ((l9 S.R).nodup vz) fun r hr=>jk.2 (hp r hr)
def zgu(h:(kpt S.R S.R.length).isSome=true):∃ n,(kx S.R).length=n+1/\(kx S.R)[n]?=some (S.R.length:Int):=by
 have hm:=jk.2 h;obtain⟨j,hj⟩:=zsf hm;have hjl:=get_lt hj;refine⟨(kx S.R).length-1,by omega,?_⟩;by_cases e:j=(kx S.R).length-1
 ·rw[<-e];exact hj
 ·obtain⟨x,hx⟩:=xj (show(kx S.R).length-1<(kx S.R).length by omega);have h3:=zs9.1 (l9 S.R) j ((kx S.R).length-1) hjl J J;rw[ue hj,ue hx] at h3;have h4:=Ms.1 h3;have h5:=f7 (jk.1 (mz hx));omega
def Vu{S:Sto}{zs:List KZ}(hD:zox S)(hpin:∀ r∈S.P,(kpt S.R r).isSome=true)(hend:(kpt S.R S.R.length).isSome=true)(hzs:zs.map (·.1)=cc S){v:Value}(hB:zwe B w)(hok:KzOK zs B)(hv:KzV zs v B)(hr:(StG b S).P B w C)(hC:ZCB C w B):
  RetY zwf 29 [po b,v] w B C (StG b S) (fun v _=>v=.int .i64 1):=by
 have hne:=hD.n0;have hkl:=hD.kl;have hk0:=hD.k0;have hpb:=hD.pb;have hrl:=hD.rl;have hkn:=zc5 S;have hzl:zs.length=(kx S.R).length:=by rw[<-hkn,<-hzs,mg]
 have htt:=Sy hpin;rw[hkn] at htt;obtain⟨en,hen1,hen2⟩:=zgu hend;obtain⟨ve,hze⟩:=zc4 hzs (zc6 hen2);have hce:=zlb hze;dsimp only at hce;unfold RetY;refine yz 900 (StG b S) Tryz.func29 Z Tryz.ntmps29 (np Z) hB hr hC (ku 1 (KzV zs) Z ns hv ?_);rw[A8];refine vh 900 rfl fun y H hs0 hψ=>?_;obtain⟨m,s,es⟩:=y;obtain⟨hm,hes,hps⟩:=hψ;dsimp only at hm hes hps |-;obtain⟨ps,pc,rfl⟩:=ke hps;have hlen:=hm.len;have hokH:=hok.le hs0.le;refine(Zw∘Za) ?_;refine ye (vp L 900 (RsV (kx S.R) true) (r:=StO b S.R.length m (.slice ps (xf S.P).length pc) S.P.length es) Z Z Z Z Z ns (fun u H2 C2 hH hle hr2 hC2=>(ey hm hne J hH hr2 hC2).pubY bn)) ((Zaf∘Zan∘ZL∘Zj∘Zj∘Zau∘ZE∘Zh∘ZF∘Zae) ?_);refine xu (fun i:Nat=>[(0,.is (po b)),(1,.sat (KzV zs)),(5,.sat (RsV (kx S.R) true)),(6,.is (.int .i64 (Sz (cc S) i))),(7,.is (.int .i64 i)),(900,.own (StO b S.R.length m (.slice ps (xf S.P).length pc) S.P.length es).res)]) (fun i=>i<=(kx S.R).length) (fun i=>(kx S.R).length-i) 0 (mb _) ⟨Z,Z,Z,Z,Z,Z,nm⟩ ?_;rintro i hi;have htl:=Y7 (S:=S) hpb i;by_cases hlt:i<(kx S.R).length
 ·obtain⟨r,hr1⟩:=xj hlt;have hcr:=oc hr1;obtain⟨v1,hz1⟩:=zc4 hzs (zc6 hr1);have hc:=zlb hz1;dsimp only at hc;have hk:=jk.1 (mz hr1);obtain⟨t,ht⟩:=zso.1 hk;have hb1:=f7 hk;have htz:tZ S r=t:=by unfold tZ;rw[ht];rfl
  have hus:US t false v1 H:=by have h:=hokH _ (List.mem_of_getElem? hz1);dsimp only at h;rwa [htz] at h
  obtain⟨p3,c3,rfl⟩:=ke hus;have hA:atS S r=(t,0):=by unfold atS;rw[if_neg J,ht]
  have htl4:=(hD.tl _ _ ht).1;have hct:List.count r S.P<=S.P.length:=ztm;have hsu:=Ni (zc6 hr1);dsimp only at hsu;have hwk:IntKind.i64.wrap ((i:Int)+1)=((i+1:Nat):Int):=xb J J;have hwt:IntKind.i64.wrap ((Sz (cc S) i:Int)+(List.count r S.P:Int))=((Sz (cc S) i+List.count r S.P:Nat):Int):=xb J J;have hum:Kn.mono (.sat (US t true)):=ns;refine(Zd∘ZD∘Zc1∘Za5∘ZY∘ZcD∘Zap) ?_;refine ye (vp L 900 (WithP t 0) (r:=(StO b S.R.length m (.slice ps (xf S.P).length pc) S.P.length es)) rfl rfl rfl rfl rfl WithP.mono (fun u H2 C2 hH hle hr2 hC2=>by have h:=D7 (S:=S) (r:=r) hm hne (hes.le hle) hH hr2 hC2;rw[hA] at h;exact h)) ?_;refine ui 30 rfl fun v1 H1 hs2 hp1=>?_;obtain⟨sv,rfl,hsv⟩:=hp1;obtain⟨f1,p4,f2,p5,rfl,hpl⟩:=hsv.shape;refine(ZW∘ZX∘ZcN∘Zh) ?_;refine qp (id:=9) [(200060,[900])] kr T ((ZcK∘ZbX∘ZcK∘Zef∘ZbX∘Zd6∘Zm∘Zd6∘Zcb∘Zl∘ZcY) ?_);refine z9 (xh (φ:=US t true) L Z Z (zn Z) Z Z Z ns (fun u H hH hle _=>ak J hH (hsv.le hle))) Z ((ZcK∘Zef∘ZbX) ?_);refine z9 (qd L Z Z (zn Z) Z Z Z (fun u H hH hle _ v1 h1=>Bc J J (na Z) hH h1 (hus.le (hs2.le.trans hle)))) Z ((Zcg∘Zcb∘Zm) ?_);refine qy (xz L 900 (Φ:=fun H=>H b=some (.cells (stc S.R.length m (.slice ps (xf S.P).length pc) S.P.length).toArray tyS)) (c:=pnv (.slice ps (xf S.P).length pc) S.P.length) Z Z (zn Z) Z Z Z Z Z vj (fun u H hH hle hb=>pins_ret ⟨_,_,_,rfl⟩ hne hb hH)) Z Z ((ZcK∘Zef∘ZbX) ?_);refine z91 L Z (fun u H hH hle=>rm hD.pl hH (hps.le (hs2.le.trans hle))) ?_;refine(ZcK∘Zef∘ZbX∘Zd6∘Za2∘Zcy) ?_;refine(ZbL∘ZY∘ZcD∘Zap∘Za4∘Za0∘Z6∘Za4) ?_;exact v9 (x:=i) (i+1) hs2 hlt J ⟨Z,Z,Z,by rw[hsu];rfl,Z,Z,nm⟩
 ·obtain rfl:i=(kx S.R).length:=by omega
  rw[htt];have hwe:IntKind.i64.wrap ((zs.length:Int)-1)=((en:Nat):Int):=(xb J J).trans J;refine(Zd∘ZD∘Zj∘Zbc∘ZbH) ?_;refine qp (id:=12) [(200082,[900]),(200088,[900])] kr T (Zl (h:=?_));refine qy (xz L 900 (Φ:=fun H=>H b=some (.cells (stc S.R.length m (.slice ps (xf S.P).length pc) S.P.length).toArray tyS)) (c:=pnv (.slice ps (xf S.P).length pc) S.P.length) Z Z (zn Z) Z Z Z Z Z vj (fun u H hH hle hb=>pins_ret ⟨_,_,_,rfl⟩ hne hb hH)) Z Z (z91 L Z (fun u H hH hle=>Y6 ⟨rfl,rfl⟩ hH) ?_);refine(Zl∘Zd6∘Zm) ?_;refine qy (xz L 900 (Φ:=fun H=>H b=some (.cells (stc S.R.length m (.slice ps (xf S.P).length pc) S.P.length).toArray tyS)) (c:=.int .u64 S.R.length) Z Z (zn Z) Z Z Z Z Z vj (fun u H hH hle hb=>gu hne hb hH)) Z Z ((ZaG∘ZaG∘ZeP∘Zd2∘Zd1∘Zef∘ZbX∘Zd6∘Za2∘Zbt) ?_);refine(ZaP∘Zc) ?_;exact wn 900 (StG b S).res Z (pf hm hes hps) (w6 L 900 (r:=StG b S) (rs:=[.tmp 4]) Z (fun _ _ h=>h) hs0 Z Z (fun H hle=>rfl))
open Go.V.Bd
def Vz{b:Bool}(hB:zwe B w):RetO zwf 25 [.bool b] w B (SlR A3 1 1 (byV [if b=true then 1 else 0])):=by
 cases b with
 | true=>
  refine wt Tryz.func25 Z Tryz.ntmps25 (np Z) hB ((ZbD∘ZaM∘ZfA) ?_);refine qf (yo (.inr Z) Z) (ZB (h:=?_));exact dt Z (fun _ _ h=>h) nq Z
 | false=>
  refine wt Tryz.func25 Z Tryz.ntmps25 (np Z) hB ((ZbD∘Zs∘Z2∘ZfA) ?_);refine qf (yo (.inr Z) Z) (ZB (h:=?_));exact dt Z (fun _ _ h=>h) nq Z
end Go.V.L11
namespace Go.V.L2
def zax{x y:List U}{fx fy:Bool}(hx:x.length<=100000)(hy:y.length<=100000)(zx:∀ t∈x,TZ t)(zy:∀ t∈y,TZ t){vx vy:Value}(hB:zwe B w)(hvx:US x fx vx B)(hvy:US y fy vy B):
  Ret zwf 159 [vx,vy,.bool true,.bool false,.bool true] w B (US (aj x y true false true) false):=by
 have lx:=iz x;have ly:=iz y;have px:=cm x;have py:=cm y;refine yl Tryz.func159 Z Tryz.ntmps159 (np Z) hB (ku 0 (US x fx) Z ns hvx (ku 1 (US y fy) Z ns hvy ((Zw∘Ze) ?_)));refine um 11 tyU 6 rfl ((ZL∘Zg) ?_);refine z7 (gt L Z Z Z (oy Z) Z zg8 lx px J J) Z (Zg (h:=?_));refine qf (jx L Z Z Z (oy Z) Z zg8 ly py J J) (qf (yo (.inr Z) Z) (Zan (h:=?_)));refine uz 12 (Qh Z) ?_;have hal:(x++y).length<=200000:=by rw[nr];omega
 have hza:∀ t∈x++y,TZ t:=fun t ht=>(mj.1 ht).elim (zx t) (zy t);unfold aj;generalize hall:x++y=l at hal hza;refine(Z2∘Zae) ?_
 refine xu (fun s:Nat×List U=>[(0,.sat (US x fx)),(1,.sat (US y fy)),(2,.is (.bool true)),(3,.is (.bool false)),(4,.is (.bool true)),(11,.own (SlR tyU 6 s.2.length (s.2.flatMap ucs))),(12,.sat (US l false)),(13,.is (.int .i64 s.1))])
  (fun s=>s.1<=l.length/\s.2.length<=s.1/\s.2=(l.take s.1).filter (fw x y true false true)) (fun s=>l.length-s.1) (0,[]) ⟨mb _,nu _,rfl⟩ ⟨rfl,rfl,rfl,rfl,rfl,rfl,rfl,rfl,nm⟩ ?_
 rintro⟨i,r⟩ ⟨hi,hrl,hr⟩;dsimp only at hi hrl hr |-;by_cases hlt:i<l.length
 ·obtain⟨t,ht⟩:=xj hlt;have hc:=af ht;have hf:=sq ht hr;by_cases h1:t∈x
  ·have e1:(if t∈x then 1 else 0:Int)=1:=na h1;by_cases h2:t∈y
   ·have e2:(if t∈y then 1 else 0:Int)=1:=na h2;have hp:(fw x y true false true) t=false:=by simp [fw,h1,h2]
    rw[hp,nc E] at hf;refine(Zco∘Zb7∘ZbO) ?_;refine z9 (qd L Z Z (zn Z) Z Z Z (fun u H hH _ _ v1 h3=>jp (l:=x) J e1 hH h3)) Z ((Zdg∘ZbO) ?_);refine z9 (qd L Z Z (zn Z) Z Z Z (fun u H hH _ _ v1 h3=>jp (l:=y) J e2 hH h3)) Z ((Zdg∘ZaS∘Zy∘ZbW∘Zu∘Zo∘Zf∘ZbZ∘Zbk∘ZaV∘Zf∘ZaV∘Zo∘ZbZ∘ZbZ∘Zf∘Za1∘ZC∘Zaa) ?_);exact yr (x:=(i,r)) (i+1,r) ⟨hlt,by dsimp only;omega,hf.symm⟩ G ⟨Z,Z,Z,Z,Z,Z,Z,Z,trivial⟩
   ·have e2:(if t∈y then 1 else 0:Int)=0:=nc h2;have hp:(fw x y true false true) t=true:=by simp [fw,h1,h2]
    rw[hp,na rfl] at hf;refine(Zco∘Zb7∘ZbO) ?_;refine z9 (qd L Z Z (zn Z) Z Z Z (fun u H hH _ _ v1 h3=>jp (l:=x) J e1 hH h3)) Z ((Zdg∘ZbO) ?_);refine z9 (qd L Z Z (zn Z) Z Z Z (fun u H hH _ _ v1 h3=>jp (l:=y) J e2 hH h3)) Z ((Zcg∘ZaS∘Zy∘ZbW∘Zu∘Zo∘ZaV∘Zf∘Za9∘Zaw∘ZcG∘Za9∘Zaw∘Zaw∘Zb4∘Z0) ?_);refine qf (yo (.inl Z) Z) ((ZY∘ZaQ∘ZJ∘Zdb) ?_);refine qf (yo (.inr Z) Z) ((Zaz∘ZC∘Zaa) ?_);exact yr (x:=(i,r)) (i+1,r++[t]) ⟨hlt,by dsimp only;rw[List.length_append,List.length_singleton];omega,hf.symm⟩ G ⟨Z,Z,Z,Z,Z,du Z,Z,Z,trivial⟩
  ·have e1:(if t∈x then 1 else 0:Int)=0:=nc h1;by_cases h2:t∈y
   ·have e2:(if t∈y then 1 else 0:Int)=1:=na h2;have hp:(fw x y true false true) t=true:=by simp [fw,h1,h2]
    rw[hp,na rfl] at hf;refine(Zco∘Zb7∘ZbO) ?_;refine z9 (qd L Z Z (zn Z) Z Z Z (fun u H hH _ _ v1 h3=>jp (l:=x) J e1 hH h3)) Z ((Zcg∘ZbO) ?_);refine z9 (qd L Z Z (zn Z) Z Z Z (fun u H hH _ _ v1 h3=>jp (l:=y) J e2 hH h3)) Z ((Zdg∘ZaS∘Zy∘ZbW∘Zb∘Zaw∘Zf∘ZbZ∘Zu∘ZcG∘ZbZ∘ZaV∘Zo∘Zb∘ZaV∘Zf∘Zb4∘Z0) ?_);refine qf (yo (.inl Z) Z) ((ZY∘ZaQ∘ZJ∘Zdb) ?_);refine qf (yo (.inr Z) Z) ((Zaz∘ZC∘Zaa) ?_);exact yr (x:=(i,r)) (i+1,r++[t]) ⟨hlt,by dsimp only;rw[List.length_append,List.length_singleton];omega,hf.symm⟩ G ⟨Z,Z,Z,Z,Z,du Z,Z,Z,trivial⟩
   ·have e2:(if t∈y then 1 else 0:Int)=0:=nc h2;have hp:(fw x y true false true) t=false:=by simp [fw,h1,h2]
    rw[hp,nc E] at hf;refine(Zco∘Zb7∘ZbO) ?_;refine z9 (qd L Z Z (zn Z) Z Z Z (fun u H hH _ _ v1 h3=>jp (l:=x) J e1 hH h3)) Z ((Zcg∘ZbO) ?_);refine z9 (qd L Z Z (zn Z) Z Z Z (fun u H hH _ _ v1 h3=>jp (l:=y) J e2 hH h3)) Z ((Zcg∘ZaS∘Zy∘ZbW∘Zb∘Zaw∘Zf∘ZbZ∘Zu∘ZcG∘ZbZ∘ZaV∘Zo∘Zb∘Zf∘ZbZ∘Zf∘Za1∘ZC∘Zaa) ?_);exact yr (x:=(i,r)) (i+1,r) ⟨hlt,by dsimp only;omega,hf.symm⟩ G ⟨Z,Z,Z,Z,Z,Z,Z,Z,trivial⟩
 ·obtain rfl:i=l.length:=by omega
  rw[m4] at hr;have hzr:∀ t∈r,TZ t:=fun t h=>hza t (zsb.1 (by rw[<-hr];exact h)).1;rw[<-hr];refine uz 11 rfl ((ZcL∘Zj∘Zb5∘ZM∘Zg) ?_);refine z7 (xh L Z Z (zn Z) Z Z Z ns (fun u H hH _ _ v1 h3=>r9 J hzr hH h3)) Z (Zb9 (h:=?_));refine yk1 L [.tmp 10] fun u H hH hle=>?_;exact fun v hv=>hv
end Go.V.L2
namespace Go.V.L8
open Go.V.L2 Go.V.L3 Go.V.L6
attribute [local irreducible] RetO RetT jh
def K6{a b:List U}{m:List CH}{fa fb:Bool}(la:a.length<=4096)(lb:b.length<=4096)(za:∀ t∈a,TZ t)(zb:∀ t∈b,TZ t)(hr:sw a b=m){av bv:Value}(hB:zwe B w)(ha:US a fa av B)(hb:US b fb bv B):
  Ret zwf 120 [av,bv] w B (KS tyC m false):=by
 subst hr;have hbr:sw a b=(aj a b true false true).map fun t=>(t,decide (t∈a)):=rfl
 have lsm:(aj a b true false true).length<=8192:=by
  have:=rp a b;rw[hbr,mg] at this;omega
 rw[hbr];refine yl Tryz.func120 Z Tryz.ntmps120 (np Z) hB (ku 0 (US a fa) Z ns ha (ku 1 (US b fb) Z ns hb ?_));have hso:=fun(u:World) (H:Heap) (hH:zwe H u) (v1 v2:Value) (h1:US a fa v1 H) (h2:US b fb v2 H)=>zax J J za zb hH h1 h2;generalize aj a b true false true=zwb at *;refine(Zw∘Zg∘Zg) ?_;refine z7 (xh (φ:=US zwb false) L Z Z (zn Z) Z Z Z ns (fun u H hH _ _ v1 h1 v2 h2=>hso u H hH v1 v2 h1 h2)) Z ((Zaf∘Zk∘ZL∘Zh) ?_);refine um 6 tyC 7 rfl ((Z2∘Zae) ?_);refine xu (fun i:Nat=>[(0,.sat (US a fa)),(5,.sat (US zwb false)),(6,.own (SlR tyC 7 ((zwb.take i).map fun t=>((t,decide (t∈a)):CH)).length (((zwb.take i).map fun t=>((t,decide (t∈a)):CH)).flatMap ccs))),(7,.is (.int .i64 i))]) (fun i=>i<=zwb.length) (fun i=>zwb.length-i) 0 (mb _) ⟨Z,Z,Z,Z,nm⟩ ?_;rintro i hi;have hli:((zwb.take i).map fun t=>((t,decide (t∈a)):CH)).length<=8192:=by rw[mg,mh];omega
 by_cases hlt:i<zwb.length
 ·obtain⟨t,ht⟩:=xj hlt;have hct:=af ht;have e1:((zwb.take (i+1)).map fun t=>((t,decide (t∈a)):CH))=((zwb.take i).map fun t=>((t,decide (t∈a)):CH))++[(t,decide (t∈a))]:=by rw[zr4,ht,zr1];rfl
  by_cases hin:t∈a
  ·rw[nf hin] at e1;have hr:(if t∈a then 1 else 0:Int)=1:=na hin;refine(ZcL∘Zj∘Zbp∘Zbw) ?_;refine qp (id:=6) [(17,[6]),(31,[17]),(6,[31])] kr T (xo (yo (.inl Z) Z) Z Z ((ZcP∘ZbO) ?_));refine z9 (qd L Z Z (zn Z) Z Z Z (fun u H hH _ _ v1 h1=>jp J hr hH h1)) Z ((Zdg∘Ze9∘ZdN) ?_);refine xo (jx L Z Z Z (eg Z) Z zmn Z Z J J) Z Z (xo (yo (.inr Z) Z) Z Z ((ZbP∘ZC∘Zaa) ?_));exact yr (x:=i) (i+1) hlt J ⟨Z,Z,by rw[e1];exact gj Z,Z,nm⟩
  ·rw[ng hin] at e1;have hr:(if t∈a then 1 else 0:Int)=0:=nc hin;refine(ZcL∘Zj∘Zbp∘Zbw) ?_;refine qp (id:=6) [(17,[6]),(31,[17]),(6,[31])] kr T (xo (yo (.inl Z) Z) Z Z ((ZcP∘ZbO) ?_));refine z9 (qd L Z Z (zn Z) Z Z Z (fun u H hH _ _ v1 h1=>jp J hr hH h1)) Z ((Zcg∘Ze9∘ZdN) ?_);refine xo (jx L Z Z Z (eg Z) Z zmn Z Z J J) Z Z (xo (yo (.inr Z) Z) Z Z ((ZbP∘ZC∘Zaa) ?_));exact yr (x:=i) (i+1) hlt J ⟨Z,Z,by rw[e1];exact gj Z,Z,nm⟩
 ·obtain rfl:i=zwb.length:=by omega
  rw[m4];refine uz 6 rfl ((ZcL∘Zj∘Zb5∘Z7∘Zg∘Zb9) ?_);refine yk1 L [.tmp 4] fun u H hH hle=>?_;exact fun v hv=>hv
end Go.V.L8
namespace Go.V.L11
open Go.V.L2 Go.V.L3 Go.V.L4 Go.V.L6 Go.V.L8 Go.V.L10
structure RdJ(ks:List K3)(T0:List Nat)(B:Heap)(i:Nat)(k:K3)(p:Option Addr)(c:Nat)(acc:List Nat):Prop where
 hi:i<=ks.length
 he:acc++Hv (ks.drop i) k.1 k.2.2=T0
 bz:acc.length<=10+i*50000000
 ko:KOK (ks.drop i) k.1
 k0:0<=k.1
 so:SOK k.2.2
 sl:k.2.2.length<=4096
 us:US k.2.2 false (.slice p k.2.2.length c) B
def S8{t:List U}(h:SOK t):∀ x∈t,∀ s∈u6 x,s.size<=1000:=fun x hx s hs=>mq (ze2 (h.ok x hx) s hs) E
def zjb{s t:List U}(hs:SOK s)(ht:SOK t):∀ c∈sw s t,∀ q∈u6 c.1,q.size<=1000:=fun c hc=>by
 rw[fq] at hc;rcases hc.1 with h | h
 ·exact S8 hs _ h.1
 ·exact S8 ht _ h.2
attribute [local irreducible] XP LV RetO RetT jh RetX RetY Pan o5
def Ei(h:n<18446744073709551616)(hB:zwe B w):Ret zwf 22 [.int .u64 n] w B (BsV (j7 n) false):=(K2 n h hB).toRet Lx
def zat{t:U}(ht:∀ s∈u6 t,s.size<=1000)(hB:zwe B w):Ret zwf 23 [uv t] w B (BsV (Aw t) false):=(zau ht hB).toRet Lx
def Vy{b:Bool}(hB:zwe B w):Ret zwf 25 [.bool b] w B (BsV [if b=true then 1 else 0] false):=(Vz hB).toRet Lx
def F3(t:Nat){F:Fr}{O:Boxes}{κ:Kap}{c:Code}{Q:Exit->Act->World->Prop}{a b:List Nat}(hk:κ t=some (.own (SlR A3 1 (a.length+b.length) (byV a++byV b))))(h:V P F B n O (upd κ t (.own (SlR A3 1 (a++b).length (byV (a++b))))) c Q):V P F B n O κ c Q:=
 wn t (SlR A3 1 (a++b).length (byV (a++b))) hk (fun v H u C _ h=>by rw[zed,nr];exact h) h
def Q4{ks:List K3}{zs:List KZ}(hzs:zs.map (·.1)=ks)(hk:KOK ks 0)(hl:ks.length<=1024)(hB:zwe B w)(hok:KzOK zs B)(hv:KzV zs v B):
  Ret zwf 49 [v] w B (BsV (Ck ks) false):=by
 have hzl:zs.length=ks.length:=by rw[<-hzs,mg]
 have hn0:=uw (n:=zs.length) J;have hwl:IntKind.u64.wrap ((zs.length:Nat):Int)=((zs.length:Nat):Int):=wrap_u64 J J;refine yl Tryz.func49 Z Tryz.ntmps49 (np Z) hB (ku 0 (KzV zs) Z ns hv ((Zw∘Zj) ?_));refine z7 (kw Z Z Z wo.1 wo.2 (wrap_u64 J J)) Z (z7 (v6 L Z Z (zn Z) Z Z Z (fun u H hH _ _=>K2 zs.length J hH)) Z (qf (yo (.inr Z) Z) ((Zk∘ZL∘ZbN∘Z2∘Zae) ?_)));have hj0:RdJ ks (Ck ks) B 0 (0,0,[]) none 0 (j7 zs.length):=⟨mb _,by rw[hzl];rfl,by omega,hk,zsw _,zo7,mb _,SlV.nil⟩
 generalize Ck ks=T0 at hj0 |-;refine jg 4 912 rfl fun b4=>?_
 refine xu (fun x:Nat×K3×Option Addr×Nat×List Nat=>[(0,.sat (KzV zs)),(3,.own (SlR A3 1 x.2.2.2.2.length (byV x.2.2.2.2))),(4,.is (k8 b4)),(5,.is (.int .i64 x.1)),(912,.own (xr b4 [.int .u64 x.2.1.1,.int .i64 x.2.1.2.1,.slice x.2.2.1 x.2.1.2.2.length x.2.2.2.1] zic))])
  (fun x=>RdJ ks T0 B x.1 x.2.1 x.2.2.1 x.2.2.2.1 x.2.2.2.2) (fun x=>ks.length-x.1) (0,(0,0,[]),none,0,j7 zs.length) hj0 ⟨rfl,rfl,rfl,rfl,rfl,nm⟩ ?_
 rintro⟨i,⟨last,cl,s⟩,p,c,acc⟩ hj;dsimp only at hj |-;have hbz:=hj.bz;have hi:=hj.hi;by_cases hlt:i<ks.length
 ·obtain⟨⟨r,cn,t⟩,hk1⟩:=xj hlt;obtain⟨v1,hz1⟩:=zc4 hzs hk1;have hc:=zlb hz1;have hus:US t false v1 B:=hok _ (mz hz1);obtain⟨p3,c3,rfl⟩:=ke hus;dsimp only at hc
  have hdr:ks.drop i=(r,cn,t)::ks.drop (i+1):=by
   rw[zsc hlt];rw[zrz hlt] at hk1;rw[Option.some.inj hk1]
  have hko:=hj.ko;have he:=hj.he;rw[hdr] at hko he;obtain⟨k1,k2,k3,k4,k5,k6⟩:=hko;dsimp only at k1 k2 k3 k4 k5 k6;unfold Hv at he;dsimp only at he;have hk0:=hj.k0;have hso:=hj.so;have hsl:=hj.sl;have hus0:=hj.us;dsimp only at hk0 hso hsl hus0;obtain⟨d,hd⟩:∃ d:Nat,r-last=(d:Int):=⟨(r-last).toNat,by omega⟩
  have hws:IntKind.u64.wrap (r-last)=(d:Int):=(wrap_u64 J J).trans hd;have hwc:IntKind.u64.wrap (cn:Int)=(cn:Int):=wrap_u64 J J;have hwk:IntKind.i64.wrap ((i:Int)+1)=((i+1:Nat):Int):=xb J J;rw[show(r-last).toNat=d by omega] at he;have hbl:=rp s t;have hmz:=zjb hso k4;have hbt:sw s t=sw s t:=rfl;have hsT:=hso.tz;have htT:=k4.tz;have hn1:=uw (n:=d) J;have hn2:=uw (n:=cn) J;have hL:∀ n:Nat,(byV (j7 n)).length=(j7 n).length*1:=fun n=>by rw[mg,zse]
  have hpl1:=d6 (j7 d);have hpl2:=d6 (j7 cn);have hL1:=hL d;have hL2:=hL cn;have hbr:=fun(u:World) (H:Heap) (hH:zwe H u) (hle:B.Le H)=>K6 (m:=sw s t) hsl k5 hsT htT rfl hH (hus0.le hle) (hus.le hle);generalize sw s t=m at he hbl hmz hbr;have hn3:=uw (n:=m.length) J;have hmw:IntKind.u64.wrap ((m.length:Nat):Int)=((m.length:Nat):Int):=wrap_u64 J J;have hpl3:=d6 (j7 m.length);have hL3:=hL m.length;refine Zco (h:=?_);refine qp (id:=6) [(18,[3]),(28,[18]),(3,[28]),(200025,[912])] kr T (xo (yo (.inl Z) Z) Z Z ((ZcK∘Zef∘ZbX∘Zas) ?_));refine qy (qk L (q:=912) Z Z Z Z) Z Z (Zd2 (h:=?_));refine z9 (xh (φ:=BsV (j7 d) false) L Z Z (zn Z) Z Z Z ns (fun u H hH _ _=>Ei J hH)) Z (xo (jx L Z Z Z (oy Z) Z el5 M M J J) Z Z (xo (yo (.inr Z) Z) Z Z (Zbf (h:=?_))));refine F3 3 rfl ?_;have hA1:(acc++j7 d).length<=100+i*50000000:=by rw[nr];omega
  refine Z7 (h:=?_);refine qf (yo (.inl Z) Z) ((ZY∘ZcD∘Zap) ?_);refine z7 (kw Z Z Z wo.1 wo.2 (wrap_u64 J J)) Z (z7 (xh (φ:=BsV (j7 cn) false) L Z Z (zn Z) Z Z Z ns (fun u H hH _ _=>Ei J hH)) Z (Ze4 (h:=?_)));refine qf (yo (.inr Z) Z) (Zk (h:=?_));refine qp (id:=8) [(200039,[912])] kr T (Zas (h:=?_));refine qy (qk L (q:=912) Z Z Z Z) Z Z ((ZcK∘Zef∘ZbX) ?_);refine z9 (xh (φ:=KS tyC m false) L Z Z (zn Z) Z Z Z ns (fun u H hH hle _=>hbr u H hH hle)) Z ((Zcs∘Zbf) ?_);refine F3 3 rfl ?_;have hA2:(acc++j7 d++j7 cn).length<=100+i*50000000:=by rw[nr,nr];omega
  refine ZM (h:=?_);refine qf (yo (.inl Z) Z) (Zj (h:=?_));refine z7 (kw Z Z Z wo.1 wo.2 (wrap_u64 J J)) Z (z7 (xh (φ:=BsV (j7 m.length) false) L Z Z (zn Z) Z Z Z ns (fun u H hH _ _=>Ei J hH)) Z (Ze4 (h:=?_)));refine qf (yo (.inr Z) Z) (Zan (h:=?_));refine F3 3 rfl ?_;obtain⟨A,hA3,hAl⟩:∃ A,acc++j7 d++j7 cn++j7 m.length=A/\A.length<=100+i*50000000:=⟨_,rfl,by simp only[nr];omega⟩
  obtain⟨A',hA4,hAl2⟩:∃ A',acc++j7 d++j7 cn++j7 m.length=A'/\A'.length<=40+i*50000000:=⟨_,rfl,by simp only[nr];omega⟩
  have hAA:A'=A:=hA4.symm.trans hA3;subst hAA;rw[hA3];refine(ZaH∘Zae) ?_;refine xu (fun j:Nat=>[(0,.sat (KzV zs)),(3,.own (SlR A3 1 (A'++(m.take j).flatMap chgB).length (byV (A'++(m.take j).flatMap chgB)))),(4,.is (k8 b4)),(5,.is (.int .i64 i)),(6,.sat (KS tyC m false)),(7,.is (.int .i64 j)),(912,.own (xr b4 [.int .u64 last,.int .i64 cl,.slice p s.length c] zic))]) (fun j=>j<=m.length) (fun j=>m.length-j) 0 (mb _) ⟨Z,by rw[zr0,zvt,mi];rfl,Z,Z,Z,Z,Z,nm⟩ ?_;rintro j hjl;have hcl:=Am hmz j;by_cases hlt2:j<m.length
  ·obtain⟨e,he2⟩:=xj hlt2;have hck:=rq he2;have hcz:=hmz e (mz he2);have hsn:=Hx he2;have htl:=ze7 hcz;have hpl4:=d6 (Aw e.1);have hL4:(byV (Aw e.1)).length=(Aw e.1).length*1:=by rw[mg,zse]
   have hAj:(A'++(m.take j).flatMap chgB).length<=1000000000000:=by rw[nr];omega
   have hAj2:(A'++(m.take j).flatMap chgB++Aw e.1).length<=1000000000000:=by rw[nr,nr];omega
   have hwj:IntKind.i64.wrap ((j:Int)+1)=((j+1:Nat):Int):=xb J J;refine(Zd∘ZbL∘Zc1∘ZU) ?_;refine qf (yo (.inl Z) Z) ((ZY∘ZcD∘ZaQ) ?_);refine z7 (xh (φ:=BsV (Aw e.1) false) L Z Z (zn Z) Z Z Z ns (fun u H hH _ _=>zat hcz hH)) Z (Ze4 (h:=?_));refine qf (yo (.inr Z) Z) (ZB (h:=?_));refine F3 3 rfl ?_;obtain⟨kb,hkb,hkl⟩:∃ kb:List Nat,[if e.2=true then 1 else 0]=kb/\kb.length=1:=⟨_,rfl,rfl⟩
   have hpl5:=d6 kb;have hL5:(byV kb).length=kb.length*1:=by rw[mg,zse]
   refine ZaP (h:=?_);refine qf (yo (.inl Z) Z) ((ZY∘ZcD∘Zap) ?_);refine z7 (xh (φ:=BsV kb false) L Z Z (zn Z) Z Z Z ns (fun u H hH _ _=>hkb ▸ Vy (b:=e.2) hH)) Z (Ze4 (h:=?_));refine qf (yo (.inr Z) Z) (Zaz (h:=?_));refine F3 3 rfl ((ZQ∘Za∘Za4) ?_);exact yr (x:=j) (j+1) hlt2 J ⟨Z,by rw[hsn,<-List.append_assoc];unfold chgB;rw[hkb,<-List.append_assoc];rfl,Z,Z,Z,Z,Z,trivial⟩
  ·obtain rfl:j=m.length:=by omega
   rw[m4] at hcl |-;refine(Zd∘ZbL∘Zj∘Zbc∘ZdU∘Zat∘ZY) ?_;refine z7 (yn L (vs:=[_,_,_]) Z Z Z Z Z ⟨_,rfl⟩) Z (xm (yq L (q:=912) (cs':=[.int .u64 r,.int .i64 cn,.slice p3 t.length c3]) Z Z Z Z Z) ((Zaz∘ZC∘Za4) ?_));exact yr (x:=(i,(last,cl,s),p,c,acc)) (i+1,(r,cn,t),p3,c3,A'++m.flatMap chgB) ⟨hlt,by rw[<-he,<-hA3];unfold Qa;simp only[List.append_assoc],by rw[List.length_append];omega,k6,by dsimp only;omega,k4,k5,hus⟩ G ⟨Z,Z,Z,Z,Z,trivial⟩
 ·obtain rfl:i=ks.length:=by omega
  have he:=hj.he;rw[zrx (nu _)] at he;have he2:acc=T0:=by rw[<-he];exact(mi _).symm
  subst he2;refine(ZcL∘Zj∘Zb5) ?_;refine Zew (h:=?_);refine(Zal∘Zg∘Zb9) ?_;refine yk1 L [.tmp 2] fun u H hH hle=>?_;exact fun v hv=>hv
abbrev zmj:Nat:=37
abbrev tyI:Nat:=3
abbrev tyE:Nat:=43
def Do{y r:ByteArray}(h:Pp y=some r)(hs:y.size<=9223372036854775807)(hB:zwe B w):
  Ret zwf 130 [.string y,.string ⟨#[10]⟩] w B (fun v _=>v=.tuple #[.string r,.bool true]):=by
 have e1:=Fp h;have e:y.data.toList=r.data.toList++[10]:=by rw[e1,jl]
 have h1:Lib.hasSuffix y.data.toList [10]=true:=by
  rw[e];exact List.isSuffixOf_iff_suffix.2 (List.suffix_append _ _)
 refine Um hs h1 ?_ hB;unfold Lib.trimSuffix;rw[na h1,e];apply uq;simp
def zdx{y:ByteArray}(h:Pp y=none)(hs:y.size<=9223372036854775807)(hB:zwe B w):
  Ret zwf 130 [.string y,.string ⟨#[10]⟩] w B (fun v _=>v=.tuple #[.string y,.bool false]):=by
 have h1:Lib.hasSuffix y.data.toList [10]=false:=by
  cases hh:Lib.hasSuffix y.data.toList [10]
  ·rfl
  ·obtain⟨t,ht⟩:=List.isSuffixOf_iff_suffix.1 hh;unfold Pp at h;rw[na (by rw[<-ht];simp)] at h;cases h
 refine Um hs h1 ?_ hB;unfold Lib.trimSuffix;rw[nc (by rw[h1];decide)]
def V7{rd:ByteArray->U×Int}{rdf:Nat}(hfn:L.fn rdf=some ())(hs:s.size<=1000000)(hB:zwe B w)
  (hrd:∀ (r:ByteArray),r.size<=1000000->∀ (u:World) (H:Heap),zwe H u->B.Le H->Ret zwf rdf [.string r] u H (fun v _=>v=.tuple #[uv (rd r).1,.int .i64 (rd r).2])):
  Ret zwf 62 [.string s,.func (.func rdf) #[] #[]] w B (TupS [US (G4 rd s).1 true,fun v _=>v=.int .i64 (G4 rd s).2.1,fun v _=>v=.int .i64 (G4 rd s).2.2]):=by
 have hF:G4 rd s=ip rd [] 1 (c9 s):=nc J;rw[hF];refine yl Tryz.func62 Z Tryz.ntmps62 (np Z) hB ((Zby∘ZX∘ZX∘ZbN∘Zbq∘ZP∘ZG∘Zs∘Z2∘ZbN∘Zt) ?_);refine z7 (xh L Z Z (zn Z) Z Z Z LinAt.mono (fun u H hH _ _=>O6 hH)) Z (Zdq (h:=?_));refine jg 3 83 rfl fun b3=>?_;refine wx 83 rfl fun H1 hs1 _ hb3=>?_;refine jg 4 84 rfl fun b4=>?_;refine jg 5 85 rfl fun b5=>?_;refine jg 6 86 rfl fun b6=>?_;refine B8 7 rfl fun b7 hb7=>?_;refine B6 87 tyU 6 (B7 87 [] Z Z ?_);refine Cz 18 rfl fun v18 H2 hs2 ⟨lb,e18,hlb⟩=>?_;subst e18;have hsB:=hs1.trans hs2;have hnil:ip rd [] 1 (Ax [])=([],0,0):=rfl
 refine c7 L (gf:=198) (caps:=[k8 lb]) [(3,k8 b3),(4,k8 b4),(5,k8 b5),(6,k8 b6),(7,k8 b7)]
  (fun pre=>[(84,xr b4 [.slice none 0 0] zmj),(85,xr b5 [.int .i64 (ip rd [] 1 (Ax pre)).2.1] tyI),(86,xr b6 [.int .i64 (ip rd [] 1 (Ax pre)).2.2] tyE),(87,Ym b7 zmj (SlR tyU 6 (Cs rd 1 (Ax pre)).length ((Cs rd 1 (Ax pre)).flatMap ucs)))])
  (fun pre x=>[(84,.own (xr b4 [.slice none 0 0] zmj)),(85,.own (xr b5 [.int .i64 (ip rd [] 1 (Ax pre)).2.1] tyI)),(86,.own (xr b6 [.int .i64 (ip rd [] 1 (Ax pre)).2.2] tyE)),(87,.own (Ym b7 zmj (SlR tyU 6 (Cs rd 1 (Ax pre)).length ((Cs rd 1 (Ax pre)).flatMap ucs)))),
   (3,.is (k8 b3)),(4,.is (k8 b4)),(5,.is (k8 b5)),(6,.is (k8 b6)),(7,.is (k8 b7)),(8,.is (x.headD undef)),(9,.is (x.tail.headD undef))])
  (l5 1 (u9 (c9 s))) (fun p=>!vw rd 1 (Ax p)) (fun _=>.ret) rfl rfl rfl ⟨rfl,rfl,rfl,rfl,rfl,rfl,rfl,rfl,rfl,nm⟩
  (fun pre p hp=>by simp only[nz,zs3,or_false] at hp;rcases hp with rfl | rfl | rfl | rfl<;>exact np rfl) rfl
  (fun x hx=>by obtain⟨p,q,e⟩:=zut hx;obtain⟨ls,y,_,rfl,_⟩:=Hb (pre:=p) (x:=x) ⟨q,by rw[e];simp⟩;rfl) E
  (fun u H hH hle=>E7 J hH (hle _ _ hlb)) ?asg ?bd ?dn ?st
 case asg=>
  intro w1 Ln B' l' D' o pre x' hpre hstp hBB;obtain⟨ls,y,rfl,rfl,hls⟩:=Hb hpre;refine(Zi∘ZF∘Zc∘Z5∘ZaT) ?_;exact Yi nq ⟨Z,Z,Z,Z,Z,Z,Z,Z,Z,Z,Z,nm⟩
 case bd=>
  intro w1 Ln B' l' D' o pre x' hpre hstp hBB;obtain⟨ls,y,rfl,rfl,hls⟩:=Hb hpre
  have hg:vw rd 1 ls=true:=by
   have:=hstp;rw[ji] at this;simpa using this
  have e3:=t6 ls y;rw[<-e3];have hb3':=hBB _ _ (hs2.le _ _ hb3)
  have hln:ls.length+1<=1000000:=by
   have h1:=hls.length_le;have h2:=Aa s;rw[nr] at h1;simp at h1;omega
  have hys:y.size<=1000000:=by
   have:=O8 (s:=s) (y:=y) (hls.subset (by simp));omega
  rw[ji,Bj hg,Bl hg];have hvl:(Av rd ls).length<=ls.length:=C4;by_cases hn:4096<ls.length+1
  ·have hp:=Db (rd:=rd) (ys:=[]) (y:=y) hg J;have hbad:vw rd 1 (ls++[y])=false:=by rw[u0,hg];unfold Cm;simp;omega
   have how:Cs rd 1 (ls++[y])=Av rd ls:=by rw[db hg];unfold Cs;rw[if_pos (by unfold Cm;simp;omega),List.append_nil]
   refine(Za7∘Zd∘Z6∘ZN∘Zr∘Za5) ?_;refine xm (yq L (q:=84) (cs':=[.slice none 0 0]) Z Z Z Z Z) (xm (yq L (q:=85) (cs':=[.int .i64 ((ls.length+1:Nat):Int)]) Z Z Z Z Z) (xm (yq L (q:=86) (cs':=[.int .i64 3]) Z Z Z Z Z) (ZB (h:=?_))));refine Ao (F6 (ii (M1 nq (by rw[ji,hbad];rfl) Z ?_)));rw[ji,hp,how,zts 1];exact⟨Z,Z,Z,Z,nm⟩
  ·cases he:Pp y with
   | none=>
    have hp:=tw (rd:=rd) (ys:=[]) (y:=y) hg J he;have hbad:vw rd 1 (ls++[y])=false:=by rw[u0,hg];unfold Cm;rw[he];simp
    have how:Cs rd 1 (ls++[y])=Av rd ls:=by rw[db hg];unfold Cs;rw[if_pos (by unfold Cm;rw[he];simp),List.append_nil]
    refine(Za7∘Zd∘Z6∘ZG∘Zs∘Zai) ?_;refine z71 L Z (fun u H hH _=>zdx he J hH) ?_;refine(ZW∘Zbl∘Zcz∘Zo∘Zr∘ZbL) ?_;refine xm (yq L (q:=84) (cs':=[.slice none 0 0]) Z Z Z Z Z) (xm (yq L (q:=85) (cs':=[.int .i64 ((ls.length+1:Nat):Int)]) Z Z Z Z Z) (xm (yq L (q:=86) (cs':=[.int .i64 5]) Z Z Z Z Z) (ZB (h:=?_))));refine Ao (F6 (ii (M1 nq (by rw[ji,hbad];rfl) Z ?_)));rw[ji,hp,how,zts 1];exact⟨Z,Z,Z,Z,nm⟩
   | some r=>
    have hrs:r.size<=1000000:=by
     have:=nh ByteArray.size (Fp he);rw[zr2] at this;omega
    obtain⟨t,e,hrt⟩:∃ t e,rd r=(t,e):=⟨_,_,rfl⟩
    have hrr:=hrd r hrs;rw[hrt] at hrr;by_cases h0:e=0
    ·subst h0;have hgood:vw rd 1 (ls++[y])=true:=by rw[u0,hg];unfold Cm;rw[he];simp [hrt];omega
     have hp:=Bj hgood;have how:=Bl hgood;have hvs:=Na (rd:=rd) (ls:=ls) he;rw[hrt] at hvs;refine(Za7∘Zd∘Z6∘ZG∘Zs∘Zai) ?_;refine z71 L Z (fun u H hH _=>Do he J hH) ?_;refine(ZW∘Zbl∘Zcz∘Zo∘Zs∘ZQ) ?_;refine z7 (ql L (qt Z hb3') Z Z Z Z) Z (Za (h:=?_));refine z7 (qd L Z Z (zn Z) Z Z hfn (fun u H hH hle _=>hrr u H hH (hsB.le.trans (hBB.trans hle)))) Z ((Zcj∘Zh∘ZU∘Za∘Zar∘Zdy) ?_);refine ei 87 _ Z SlR.shape fun z hz=>?_;obtain⟨p,c,rfl⟩:=hz;refine(Zat∘Zdw) ?_;refine g8 42 87 rfl rfl ((Zb1∘ZJ∘Zdb) ?_);refine cj 45 87 _ rfl SlR.shape fun z hz=>?_;obtain⟨p',c',rfl⟩:=hz;refine(Zes∘Zah∘ZaC) ?_;refine B9 87 [] Z Z (Yj nq (by rw[ji,hgood];rfl) ?_);rw[ji,hp,how,hvs,zr5,nr];exact⟨Z,Z,Z,Z,nm⟩
    ·have hp:=Dc (rd:=rd) (ys:=[]) (y:=y) hg J he (by rw[hrt];exact h0);rw[hrt] at hp;have hbad:vw rd 1 (ls++[y])=false:=by rw[u0,hg];unfold Cm;rw[he];simp [hrt,h0]
     have how:Cs rd 1 (ls++[y])=Av rd ls:=by rw[db hg];unfold Cs;rw[if_pos (by unfold Cm;rw[he];simp [hrt,h0]),List.append_nil]
     refine(Za7∘Zd∘Z6∘ZG∘Zs∘Zai) ?_;refine z71 L Z (fun u H hH _=>Do he J hH) ?_;refine(ZW∘Zbl∘Zcz∘Zo∘Zs∘ZQ) ?_;refine z7 (ql L (qt Z hb3') Z Z Z Z) Z (Za (h:=?_));refine z7 (qd L Z Z (zn Z) Z Z hfn (fun u H hH hle _=>hrr u H hH (hsB.le.trans (hBB.trans hle)))) Z ((Zcj∘Zh∘ZU∘Za∘Zac∘ZaP∘Zb) ?_);refine xm (yq L (q:=84) (cs':=[.slice none 0 0]) Z Z Z Z Z) (xm (yq L (q:=85) (cs':=[.int .i64 ((ls.length+1:Nat):Int)]) Z Z Z Z Z) (xm (yq L (q:=86) (cs':=[.int .i64 e]) Z Z Z Z Z) (ZB (h:=?_))));refine Ao (F6 (ii (M1 nq (by rw[ji,hbad];rfl) Z ?_)));rw[ji,hp,how,zts 1];exact⟨Z,Z,Z,Z,nm⟩
 case st=>
  intro l' D' o hstop;obtain⟨ks,h1,h2,h3⟩:=i7 rd (c9 s) [] rfl;have h1':wa (fun p=>!vw rd 1 (Ax p)) [] (l5 1 (u9 (c9 s)))=l5 1 (u9 ks):=h1;rw[h1',ji] at hstop;have hbad:vw rd 1 ks=false:=by simpa using hstop
  have hn1:=La (out:=[]) hbad;have h2':ip rd [] 1 ks=ip rd [] 1 (c9 s):=h2;rw[h1',ji,h2'];rw[h2'] at hn1;generalize ip rd [] 1 (c9 s)=R at hn1 |-;obtain⟨R1,R2,R3⟩:=R;dsimp only at hn1;subst hn1;refine uy 4 84 rfl Z (uy 5 85 rfl Z (uy 6 86 rfl Z ?_));refine P2 L (rs:=[.cell 4 zmj,.cell 5 tyI,.cell 6 tyE]) Z (fun _ _ h=>h) hsB fun O' u H hH hle=>?_;exact jr (ya Z) Z (jr (ya Z) Z (jr (ya Z) Z (tup3 SlV.nil Z Z)))
 case dn=>
  intro l' D' o hgo;obtain⟨ks,h1,h2,h3⟩:=i7 rd (c9 s) [] rfl;have h1':wa (fun p=>!vw rd 1 (Ax p)) [] (l5 1 (u9 (c9 s)))=l5 1 (u9 ks):=h1;rw[h1',ji] at hgo;have hg:vw rd 1 ks=true:=by simpa using hgo
  have hkl:ks=c9 s:=h3 hg;have hll:=Aa s;have hvl:(Av rd ks).length<=ks.length:=C4;rw[h1',ji,<-hkl,Bj hg,Bl hg];refine ZaC (h:=?_);refine Zdj (h:=?_);refine ei 87 _ Z SlR.shape fun z hz=>?_;obtain⟨p,c,rfl⟩:=hz;refine(Zi∘Zal∘Zdw) ?_;refine g8 46 87 rfl rfl (iw 46 rfl ((Zdw∘Zbo∘Zdw∘Zbo∘ZdX) ?_));refine ui 51 rfl fun sv H3 hs3 hsv=>?_;obtain⟨p1,c1,rfl⟩:=ke hsv;refine xm (yq L (q:=84) (cs':=[.slice p1 (Av rd ks).length c1]) rfl rfl rfl rfl rfl) (xm (yq L (q:=85) (cs':=[.int .i64 0]) rfl rfl rfl rfl rfl) (xm (yq L (q:=86) (cs':=[.int .i64 0]) rfl rfl rfl rfl rfl) (ZB (h:=?_))));refine uy 4 84 rfl Z (uy 5 85 rfl Z (uy 6 86 rfl Z ?_));refine P2 L (rs:=[.cell 4 zmj,.cell 5 tyI,.cell 6 tyE]) Z (fun _ _ h=>h) (hsB.trans hs3) fun O' u H hH hle=>?_;exact jr (ya Z) Z (jr (ya Z) Z (jr (ya Z) Z (tup3 (hsv.le hle) Z Z)))
def V8{rd:ByteArray->CH×Int}{rdf:Nat}(hfn:L.fn rdf=some ())(hs:s.size<=1000000)(hB:zwe B w)
  (hrd:∀ (r:ByteArray),r.size<=1000000->∀ (u:World) (H:Heap),zwe H u->B.Le H->Ret zwf rdf [.string r] u H (fun v _=>v=.tuple #[cvC (rd r).1,.int .i64 (rd r).2])):
  Ret zwf 64 [.string s,.func (.func rdf) #[] #[]] w B (TupS [KS tyC (G4 rd s).1 true,fun v _=>v=.int .i64 (G4 rd s).2.1,fun v _=>v=.int .i64 (G4 rd s).2.2]):=by
 have hF:G4 rd s=ip rd [] 1 (c9 s):=nc J;rw[hF];refine yl Tryz.func64 Z Tryz.ntmps64 (np Z) hB ((Zby∘ZX∘ZX∘ZbN∘Zbq∘ZP∘ZG∘Zs∘Z2∘ZbN∘Zt) ?_);refine z7 (xh L Z Z (zn Z) Z Z Z LinAt.mono (fun u H hH _ _=>O6 hH)) Z (Zdq (h:=?_));refine jg 3 83 rfl fun b3=>?_;refine wx 83 rfl fun H1 hs1 _ hb3=>?_;refine jg 4 84 rfl fun b4=>?_;refine jg 5 85 rfl fun b5=>?_;refine jg 6 86 rfl fun b6=>?_;refine B8 7 rfl fun b7 hb7=>?_;refine B6 87 tyC 7 (B7 87 [] Z Z ?_);refine Cz 18 rfl fun v18 H2 hs2 ⟨lb,e18,hlb⟩=>?_;subst e18;have hsB:=hs1.trans hs2;have hnil:ip rd [] 1 (Ax [])=([],0,0):=rfl
 refine c7 L (gf:=198) (caps:=[k8 lb]) [(3,k8 b3),(4,k8 b4),(5,k8 b5),(6,k8 b6),(7,k8 b7)]
  (fun pre=>[(84,xr b4 [.slice none 0 0] zjp),(85,xr b5 [.int .i64 (ip rd [] 1 (Ax pre)).2.1] tyI),(86,xr b6 [.int .i64 (ip rd [] 1 (Ax pre)).2.2] tyE),(87,Ym b7 zjp (SlR tyC 7 (Cs rd 1 (Ax pre)).length ((Cs rd 1 (Ax pre)).flatMap ccs)))])
  (fun pre x=>[(84,.own (xr b4 [.slice none 0 0] zjp)),(85,.own (xr b5 [.int .i64 (ip rd [] 1 (Ax pre)).2.1] tyI)),(86,.own (xr b6 [.int .i64 (ip rd [] 1 (Ax pre)).2.2] tyE)),(87,.own (Ym b7 zjp (SlR tyC 7 (Cs rd 1 (Ax pre)).length ((Cs rd 1 (Ax pre)).flatMap ccs)))),
   (3,.is (k8 b3)),(4,.is (k8 b4)),(5,.is (k8 b5)),(6,.is (k8 b6)),(7,.is (k8 b7)),(8,.is (x.headD undef)),(9,.is (x.tail.headD undef))])
  (l5 1 (u9 (c9 s))) (fun p=>!vw rd 1 (Ax p)) (fun _=>.ret) rfl rfl rfl ⟨rfl,rfl,rfl,rfl,rfl,rfl,rfl,rfl,rfl,nm⟩
  (fun pre p hp=>by simp only[nz,zs3,or_false] at hp;rcases hp with rfl | rfl | rfl | rfl<;>exact np rfl) rfl
  (fun x hx=>by obtain⟨p,q,e⟩:=zut hx;obtain⟨ls,y,_,rfl,_⟩:=Hb (pre:=p) (x:=x) ⟨q,by rw[e];simp⟩;rfl) E
  (fun u H hH hle=>E7 J hH (hle _ _ hlb)) ?asg ?bd ?dn ?st
 case asg=>
  intro w1 Ln B' l' D' o pre x' hpre hstp hBB;obtain⟨ls,y,rfl,rfl,hls⟩:=Hb hpre;refine(Zi∘ZF∘Zc∘Z5∘ZaT) ?_;exact Yi nq ⟨Z,Z,Z,Z,Z,Z,Z,Z,Z,Z,Z,nm⟩
 case bd=>
  intro w1 Ln B' l' D' o pre x' hpre hstp hBB;obtain⟨ls,y,rfl,rfl,hls⟩:=Hb hpre
  have hg:vw rd 1 ls=true:=by
   have:=hstp;rw[ji] at this;simpa using this
  have e3:=t6 ls y;rw[<-e3];have hb3':=hBB _ _ (hs2.le _ _ hb3)
  have hln:ls.length+1<=1000000:=by
   have h1:=hls.length_le;have h2:=Aa s;rw[nr] at h1;simp at h1;omega
  have hys:y.size<=1000000:=by
   have:=O8 (s:=s) (y:=y) (hls.subset (by simp));omega
  rw[ji,Bj hg,Bl hg];have hvl:(Av rd ls).length<=ls.length:=C4;by_cases hn:4096<ls.length+1
  ·have hp:=Db (rd:=rd) (ys:=[]) (y:=y) hg J;have hbad:vw rd 1 (ls++[y])=false:=by rw[u0,hg];unfold Cm;simp;omega
   have how:Cs rd 1 (ls++[y])=Av rd ls:=by rw[db hg];unfold Cs;rw[if_pos (by unfold Cm;simp;omega),List.append_nil]
   refine(Za7∘Zd∘Z6∘ZN∘Zr∘Za5) ?_;refine xm (yq L (q:=84) (cs':=[.slice none 0 0]) Z Z Z Z Z) (xm (yq L (q:=85) (cs':=[.int .i64 ((ls.length+1:Nat):Int)]) Z Z Z Z Z) (xm (yq L (q:=86) (cs':=[.int .i64 3]) Z Z Z Z Z) (ZB (h:=?_))));refine Ao (F6 (ii (M1 nq (by rw[ji,hbad];rfl) Z ?_)));rw[ji,hp,how,zts 1];exact⟨Z,Z,Z,Z,nm⟩
  ·cases he:Pp y with
   | none=>
    have hp:=tw (rd:=rd) (ys:=[]) (y:=y) hg J he;have hbad:vw rd 1 (ls++[y])=false:=by rw[u0,hg];unfold Cm;rw[he];simp
    have how:Cs rd 1 (ls++[y])=Av rd ls:=by rw[db hg];unfold Cs;rw[if_pos (by unfold Cm;rw[he];simp),List.append_nil]
    refine(Za7∘Zd∘Z6∘ZG∘Zs∘Zai) ?_;refine z71 L Z (fun u H hH _=>zdx he J hH) ?_;refine(ZW∘Zbl∘Zcz∘Zo∘Zr∘ZbL) ?_;refine xm (yq L (q:=84) (cs':=[.slice none 0 0]) Z Z Z Z Z) (xm (yq L (q:=85) (cs':=[.int .i64 ((ls.length+1:Nat):Int)]) Z Z Z Z Z) (xm (yq L (q:=86) (cs':=[.int .i64 5]) Z Z Z Z Z) (ZB (h:=?_))));refine Ao (F6 (ii (M1 nq (by rw[ji,hbad];rfl) Z ?_)));rw[ji,hp,how,zts 1];exact⟨Z,Z,Z,Z,nm⟩
   | some r=>
    have hrs:r.size<=1000000:=by
     have:=nh ByteArray.size (Fp he);rw[zr2] at this;omega
    obtain⟨t,e,hrt⟩:∃ t e,rd r=(t,e):=⟨_,_,rfl⟩
    have hrr:=hrd r hrs;rw[hrt] at hrr;by_cases h0:e=0
    ·subst h0;have hgood:vw rd 1 (ls++[y])=true:=by rw[u0,hg];unfold Cm;rw[he];simp [hrt];omega
     have hp:=Bj hgood;have how:=Bl hgood;have hvs:=Na (rd:=rd) (ls:=ls) he;rw[hrt] at hvs;refine(Za7∘Zd∘Z6∘ZG∘Zs∘Zai) ?_;refine z71 L Z (fun u H hH _=>Do he J hH) ?_;refine(ZW∘Zbl∘Zcz∘Zo∘Zs∘ZQ) ?_;refine z7 (ql L (qt Z hb3') Z Z Z Z) Z (Za (h:=?_));refine z7 (qd L Z Z (zn Z) Z Z hfn (fun u H hH hle _=>hrr u H hH (hsB.le.trans (hBB.trans hle)))) Z ((Zcj∘Zh∘ZU∘Za∘Zar∘Zdy) ?_);refine ei 87 _ Z SlR.shape fun z hz=>?_;obtain⟨p,c,rfl⟩:=hz;refine(Zat∘Zdw) ?_;refine g8 42 87 rfl rfl ((Zd4∘ZJ∘Zdo) ?_);refine cj 45 87 _ rfl SlR.shape fun z hz=>?_;obtain⟨p',c',rfl⟩:=hz;refine(Zes∘Zah∘ZaC) ?_;refine B9 87 [] Z Z (Yj nq (by rw[ji,hgood];rfl) ?_);rw[ji,hp,how,hvs,zr5,nr];exact⟨Z,Z,Z,Z,nm⟩
    ·have hp:=Dc (rd:=rd) (ys:=[]) (y:=y) hg J he (by rw[hrt];exact h0);rw[hrt] at hp;have hbad:vw rd 1 (ls++[y])=false:=by rw[u0,hg];unfold Cm;rw[he];simp [hrt,h0]
     have how:Cs rd 1 (ls++[y])=Av rd ls:=by rw[db hg];unfold Cs;rw[if_pos (by unfold Cm;rw[he];simp [hrt,h0]),List.append_nil]
     refine(Za7∘Zd∘Z6∘ZG∘Zs∘Zai) ?_;refine z71 L Z (fun u H hH _=>Do he J hH) ?_;refine(ZW∘Zbl∘Zcz∘Zo∘Zs∘ZQ) ?_;refine z7 (ql L (qt Z hb3') Z Z Z Z) Z (Za (h:=?_));refine z7 (qd L Z Z (zn Z) Z Z hfn (fun u H hH hle _=>hrr u H hH (hsB.le.trans (hBB.trans hle)))) Z ((Zcj∘Zh∘ZU∘Za∘Zac∘ZaP∘Zb) ?_);refine xm (yq L (q:=84) (cs':=[.slice none 0 0]) Z Z Z Z Z) (xm (yq L (q:=85) (cs':=[.int .i64 ((ls.length+1:Nat):Int)]) Z Z Z Z Z) (xm (yq L (q:=86) (cs':=[.int .i64 e]) Z Z Z Z Z) (ZB (h:=?_))));refine Ao (F6 (ii (M1 nq (by rw[ji,hbad];rfl) Z ?_)));rw[ji,hp,how,zts 1];exact⟨Z,Z,Z,Z,nm⟩
 case st=>
  intro l' D' o hstop;obtain⟨ks,h1,h2,h3⟩:=i7 rd (c9 s) [] rfl;have h1':wa (fun p=>!vw rd 1 (Ax p)) [] (l5 1 (u9 (c9 s)))=l5 1 (u9 ks):=h1;rw[h1',ji] at hstop;have hbad:vw rd 1 ks=false:=by simpa using hstop
  have hn1:=La (out:=[]) hbad;have h2':ip rd [] 1 ks=ip rd [] 1 (c9 s):=h2;rw[h1',ji,h2'];rw[h2'] at hn1;generalize ip rd [] 1 (c9 s)=R at hn1 |-;obtain⟨R1,R2,R3⟩:=R;dsimp only at hn1;subst hn1;refine uy 4 84 rfl Z (uy 5 85 rfl Z (uy 6 86 rfl Z ?_));refine P2 L (rs:=[.cell 4 zjp,.cell 5 tyI,.cell 6 tyE]) Z (fun _ _ h=>h) hsB fun O' u H hH hle=>?_;exact jr (ya Z) Z (jr (ya Z) Z (jr (ya Z) Z (tup3 SlV.nil Z Z)))
 case dn=>
  intro l' D' o hgo;obtain⟨ks,h1,h2,h3⟩:=i7 rd (c9 s) [] rfl;have h1':wa (fun p=>!vw rd 1 (Ax p)) [] (l5 1 (u9 (c9 s)))=l5 1 (u9 ks):=h1;rw[h1',ji] at hgo;have hg:vw rd 1 ks=true:=by simpa using hgo
  have hkl:ks=c9 s:=h3 hg;have hll:=Aa s;have hvl:(Av rd ks).length<=ks.length:=C4;rw[h1',ji,<-hkl,Bj hg,Bl hg];refine ZaC (h:=?_);refine Zdj (h:=?_);refine ei 87 _ Z SlR.shape fun z hz=>?_;obtain⟨p,c,rfl⟩:=hz;refine(Zi∘Zal∘Zdw) ?_;refine g8 46 87 rfl rfl (iw 46 rfl ((Zdw∘Zbo∘Zdw∘Zbo∘ZdX) ?_));refine ui 51 rfl fun sv H3 hs3 hsv=>?_;obtain⟨p1,c1,rfl⟩:=ke hsv;refine xm (yq L (q:=84) (cs':=[.slice p1 (Av rd ks).length c1]) rfl rfl rfl rfl rfl) (xm (yq L (q:=85) (cs':=[.int .i64 0]) rfl rfl rfl rfl rfl) (xm (yq L (q:=86) (cs':=[.int .i64 0]) rfl rfl rfl rfl rfl) (ZB (h:=?_))));refine uy 4 84 rfl Z (uy 5 85 rfl Z (uy 6 86 rfl Z ?_));refine P2 L (rs:=[.cell 4 zjp,.cell 5 tyI,.cell 6 tyE]) Z (fun _ _ h=>h) (hsB.trans hs3) fun O' u H hH hle=>?_;exact jr (ya Z) Z (jr (ya Z) Z (jr (ya Z) Z (tup3 (hsv.le hle) Z Z)))
def tx{φ:Value->Heap->Prop}{a b:Value}(h:Kn.mono (.sat φ)):Kn.mono (.sat (TupS [φ,fun v _=>v=a,fun v _=>v=b])):=TupS.mono fun ψ hψ=>by
 simp only[nz,zs3,or_false] at hψ;rcases hψ with rfl | rfl | rfl
 ·exact h
 ·exact fun _ _ _ h _=>h
 ·exact fun _ _ _ h _=>h
def U8(hs:s.size<=1000000)(hB:zwe B w)(hM:GlobM B):
  Ret zwf 16 [.string s] w B (TupS [US (G4 ptA s).1 true,fun v _=>v=.int .i64 (G4 ptA s).2.1,fun v _=>v=.int .i64 (G4 ptA s).2.2]):=by
 have hmo:Kn.mono (.sat (US (G4 ptA s).1 true)):=ns;refine yl Tryz.func16 Z Tryz.ntmps16 (np Z) hB ((Za6∘Zv∘Zbb) ?_);refine z7 (xh L Z Z (zn Z) Z Z Z (tx ns) (fun u H hH hle _=>V7 (rd:=ptA) Z hs hH (fun r hr u2 H2 hH2 hle2=>ah Z hr hH2 (hM.mono (hle.trans hle2))))) Z ((Zdd∘Zc3∘Zc3∘Zaf∘Z4) ?_);refine yk1 L [.tmp 2,.tmp 3,.tmp 4] fun u H hH hle=>?_;exact fun a h=>tup3 h Z Z
def Kb(hs:s.size<=1000000)(hB:zwe B w)(hM:GlobM B):
  Ret zwf 17 [.string s] w B (TupS [KS tyC (G4 prC s).1 true,fun v _=>v=.int .i64 (G4 prC s).2.1,fun v _=>v=.int .i64 (G4 prC s).2.2]):=by
 have hmo:Kn.mono (.sat (KS tyC (G4 prC s).1 true)):=ns;refine yl Tryz.func17 Z Tryz.ntmps17 (np Z) hB ((Za6∘Zv∘Zbb) ?_);refine z7 (xh L Z Z (zn Z) Z Z Z (tx ns) (fun u H hH hle _=>V8 (rd:=prC) Z hs hH (fun r hr u2 H2 hH2 hle2=>zkh hr hH2 (hM.mono (hle.trans hle2))))) Z ((Zdd∘Zc3∘Zc3∘Zaf∘Z4) ?_);refine yk1 L [.tmp 2,.tmp 3,.tmp 4] fun u H hH hle=>?_;exact fun a h=>tup3 h Z Z
end Go.V.L11
end
variable{ks:List Go.V.L11.K3}
namespace Go.V
abbrev zi8(s:ByteArray):List Value:=s.data.toList.map fun c:UInt8=>Value.int .u8 (c.toNat:Int)
section
variable  {F:Fr}  {O:Boxes}  {ops:Array Oper} {κ:Kap} {d:Nat} {ty:TypeId} {pos:String} {aft:Array Edge}  {x:Operand} 
def zb2{src dst e:TypeId}(hn:Nat.blt d n=true)(hg:gK ops κ ⟨some d,.convert src dst x,ty,pos,aft,g⟩=some true)(hx:evK κ x=some (.string s))(hs:P.underlying src=some .string)(hd:P.underlying dst=some (.slice e))(he:P.underlying e=some (.int .u8)):
  StepOK P F B n ops O κ ⟨some d,.convert src dst x,ty,pos,aft,g⟩ d (.sat (SlV e 1 (zi8 s) s.size false)):=by
 rintro κ' a u hl ⟨H,fp,hh⟩;unfold After;rw[na (xn hh hl hg)];have en:=hh.env hl;have h1:=en.is_ x _ (by simp [Op.operands]) hx;have hr:=run_bytes_of_string (P:=P) u src dst e s hs hd he;generalize hcap:grownCap u s.size 0 e=cap at hr;generalize hfr:((bytesRow s cap).size,(bytesRow s cap).size+1)=fr at hr
 have hrun:(execOp a.eval ⟨some d,.convert src dst x,ty,pos,aft,g⟩).run P u=.ok (.value (.slice (some ⟨u.heap.size,0,none⟩) s.size cap)) (u.drew.alloc (.cells (bytesRow s cap) e fr)):=by
  simp only[execOp,h1,nw,hr,ny];rfl
 rw[hrun];simp only[Upon];have hcl:s.size<=cap:=by subst hcap;exact grownCap_ge u s.size 0 e
 have hg2:=(hh.drew).grow (Grow.hid (hh.drew).sub (.cells (bytesRow s cap) e fr));have hval:(a.put (some d) (.slice (some ⟨u.heap.size,0,none⟩) s.size cap)).eval (.tmp d)=.slice (some ⟨u.heap.size,0,none⟩) s.size cap:=kg (by rw[hh.size];exact zn hn)
 have h2:=hg2.putR (d:=d) (r:=⟨fun v H u' C=>v=.slice (some ⟨u.heap.size,0,none⟩) s.size cap/\C u.heap.size,fun h _ _ _ _=>h⟩) (C:=fun k=>k=u.heap.size) (a':=a.put (some d) (.slice (some ⟨u.heap.size,0,none⟩) s.size cap)) (by simp [Act.put]) rfl (fun t ht=>xy ht) ⟨hval,rfl⟩ (fun k hk=>by
  subst hk;exact⟨xl (xx u.drew _),jm hh.sub (nu _),.inl hh.keep.size,fun y hy e=>by have:=xl (hh.boxes y hy).1;omega⟩) fun t r' _ ht k hf hk=>by
  have:=((hh.slot t _ ht).2 k hf).1;omega
 obtain⟨H',h3⟩:=h2.pub (t:=d) (b:=u.heap.size) (φ:=SlV e 1 (zi8 s) s.size false) (xq ..) (xx u.drew _) (by simp [fpu]) ns fun H' _ hb=>by
  rw[hval];refine⟨by rw[mg,zti,zse];rfl,.inr ⟨u.heap.size,0,cap,_,_,_,rfl,hb,?_,hcl,fun h=>by cases h⟩⟩;rw[zsj,mg];unfold bytesRow;rw[Array.toList_append,Array.toList_map,zvf (by simp)];rw[m8 (by simp)]
 rw[jt] at h3;exact⟨H',_,h3⟩
end
end Go.V
namespace Go.V.L11
open Go.V.L2 Go.V.L4 Go.V.L6 Go.V.L8 Go.V.L10
abbrev zqr:ByteArray:=⟨#[100,111,99,58,97,35,118,105,101,119,101,114,64,117,115,101,114,58,120]⟩
abbrev zq7:ByteArray:=⟨#[100,111,99,58,98,35,118,105,101,119,101,114,64,117,115,101,114,58,120]⟩
abbrev zqq:ByteArray:=⟨#[100,111,99,58,97,35,118,105,101,119,101,114,64,117,115,101,114,58,120,10]⟩
abbrev zq6:ByteArray:=⟨#[43,100,111,99,58,97,35,118,105,101,119,101,114,64,117,115,101,114,58,120,10,45,100,111,99,58,98,35,118,105,101,119,101,114,64,117,115,101,114,58,120,10]⟩
def wrS:List ByteArray:=[⟨#[0]⟩,⟨#[1,0]⟩,⟨#[1,1,0,0,7]⟩,⟨#[1,1]⟩]
def wrA:List Int:=[0,1,4,2]
def zrd:Y9 [d0]=(zqq,0):=by decide+kernel
def zrg:Y8 [(d0,false),(d2,true)]=(zq6,0):=by decide+kernel
def zrf:G4 ptA zqr=([],1,5):=by decide+kernel
def zre:G4 prC zqq=([],1,5):=T
def U6{l:List U}(h:Y9 l=(s,e))(hz:∀ t∈l,TZ t)(hs:∀ t∈l,(Cu t).size<=1000)(hB:zwe B w)(hv:US l fu v B):
  Ret zwf 12 [v] w B (fun r _=>r=.tuple #[.string s,.int .i64 e]):=by
 have:=Yp hz hs hB hv;rw[h] at this;exact this
def Qd{l:List CH}(h:Y8 l=(s,e))(hz:∀ t∈l,TZ t.1)(hs:∀ t∈l,(Cv t).size<=1000)(hB:zwe B w)(hv:KS tyC l fu v B):
  Ret zwf 13 [v] w B (fun r _=>r=.tuple #[.string s,.int .i64 e]):=by
 have:=Va hz hs hB hv;rw[h] at this;exact this
def Qc{l:List U}(h:G4 ptA s=(l,n,e))(hs:s.size<=1000000)(hB:zwe B w)(hM:GlobM B):
  Ret zwf 16 [.string s] w B (TupS [US l true,fun v _=>v=.int .i64 n,fun v _=>v=.int .i64 e]):=by
 have:=U8 hs hB hM;rw[h] at this;exact this
def Ga(h:G4 prC s=(l,n,e))(hs:s.size<=1000000)(hB:zwe B w)(hM:GlobM B):
  Ret zwf 17 [.string s] w B (TupS [KS tyC l true,fun v _=>v=.int .i64 n,fun v _=>v=.int .i64 e]):=by
 have:=Kb hs hB hM;rw[h] at this;exact this
abbrev LdE(a e:Int):Value->Heap->Prop:=fun r _=>r=.tuple #[.pointer none,.int .i64 a,.int .i64 e]
attribute [local irreducible] V N X VO Par XP LV StepOK Has Ret RetL RetO RetT jh RetX RetY Pan o5 Src
end Go.V.L11
namespace Go.V
inductive Au where
 | s
 | b
 | i (k:IntKind)
def zo1:Au->Value->Prop
 | .s,v=>∃ a:ByteArray,v=.string a/\a.size<=maxLen
 | .b,v=>∃ c,v=.bool c
 | .i k,v=>∃ n,v=.int k n/\(Lit.int k n).wf=true
def LeafsOK:List Au->List Value->Prop
 | [],[]=>True
 | l::ls,v::vs=>zo1 l v/\LeafsOK ls vs
 | _,_=>False
def LeafsOK.append:∀ {a b:List Au} {x y:List Value},LeafsOK a x->LeafsOK b y->LeafsOK (a++b) (x++y)
 | [],_,[],_,_,h=>h
 | [],_,_::_,_,h,_=>h.elim
 | _::_,_,[],_,h,_=>h.elim
 | _::_,_,_::_,_,h,k=>⟨h.1,LeafsOK.append h.2 k⟩
def LeafsOK.length:∀ {a:List Au} {x:List Value},LeafsOK a x->x.length=a.length
 | [],[],_=>rfl
 | [],_::_,h=>h.elim
 | _::_,[],h=>h.elim
 | _::_,_::_,h=>by simp [LeafsOK.length h.2]
def Pa{ls:List Au}{vs:List Value}(h:LeafsOK (.i k::ls) vs):∃ n r,vs=.int k n::r/\(Lit.int k n).wf=true/\LeafsOK ls r:=by
 cases vs with
 | nil=>exact h.elim
 | cons v vs=>obtain⟨⟨a,rfl,ha⟩,h⟩:=h;exact⟨a,vs,rfl,ha,h⟩
def T6{vs:List Value}(h:LeafsOK [] vs):vs=[]:=by
 cases vs with
 | nil=>rfl
 | cons _ _=>exact h.elim
def zgr(P:Program)(rec:TypeId->Option (List Au)):List Field->Nat->Option (List Au)
 | [],_=>some []
 | f::fs,off=>match rec f.type with
  | some ls=>if f.offset=off/\P.cellsOf f.type=ls.length then
    match zgr P rec fs (off+ls.length) with
    | some r=>some (ls++r)
    | none=>none
   else none
  | none=>none
def zil(ls:List Au):Nat->List Au
 | 0=>[]
 | n+1=>ls++zil ls n
def leafI(P:Program):Nat->TypeId->Option (List Au)
 | 0,_=>none
 | d+1,t=>match P.underlying t with
  | some .string=>some [.s]
  | some (.int k)=>some [.i k]
  | some .bool=>some [.b]
  | some (.struct fs)=>match zgr P (leafI P d) fs.toList 0 with
   | some ls=>if P.cellsOf t=ls.length then some ls else none
   | none=>none
  | some (.array n e)=>match leafI P d e with
   | some ls=>if P.cellsOf e=ls.length/\P.cellsOf t=(zil ls n).length then some (zil ls n) else none
   | none=>none
  | _=>none
def Ls{α β:Type}{f:α->Option β}:∀ {l:List α} {ys:List β},l.mapM f=some ys->∃ g:List β,g=ys/\(∀ x∈l,∃ y,f x=some y/\y∈ys)/\(∀ y∈ys,∃ x∈l,f x=some y)
 | [],ys,h=>by
  simp at h;subst h;exact⟨_,rfl,by simp,by simp⟩
 | x::l,ys,h=>by
  rw[List.mapM_cons] at h
  cases hx:f x with
  | none=>rw[hx] at h;cases h
  | some y=>
   rw[hx] at h
   cases hl:l.mapM f with
   | none=>rw[hl] at h;cases h
   | some zs=>
    rw[hl] at h;cases h;obtain⟨_,_,h1,h2⟩:=Ls hl;refine⟨_,rfl,fun z hz=>?_,fun z hz=>?_⟩
    ·rcases nz.1 hz with rfl | hz
     ·exact⟨y,hx,mc ..⟩
     ·obtain⟨w,hw,hm⟩:=h1 z hz;exact⟨w,hw,mf _ hm⟩
    ·rcases nz.1 hz with rfl | hz
     ·exact⟨x,mc ..,hx⟩
     ·obtain⟨w,hw,hm⟩:=h2 z hz;exact⟨w,mf _ hw,hm⟩
def A5(cs:List Value)(off m r:Nat):(cs.drop off).take (m+r)=(cs.drop off).take m++(cs.drop (off+m)).take r:=by
 rw[List.take_add,ztb]
section
variable   {enc:TypeId×Value->H}  {sp:Nat->Bool}  {base:Nat}
def bo:∀ (d:Nat) {t:TypeId} {ls:List Au},leafI P d t=some ls->∀ {fuel:Nat} {cs:List Value} {x:DataW H×List MemPlace},
  DataW.trod enc P W base sp held fuel t cs=some x->LeafsOK ls cs/\x.2=[]
 | 0,_,_,h,_,_,_,_=>by cases h
 | d+1,t,ls,h,fuel,cs,x,hx=>by
  have ih:=@bo d
  cases fuel with
  | zero=>simp [DataW.trod] at hx
  | succ fuel=>
   rw[leafI] at h;unfold DataW.trod at hx
   cases hu:P.underlying t with
   | none=>rw[hu] at h;cases h
   | some ds=>
    rw[hu] at h hx;cases ds<;>first | (cases h;done) | skip
    ·cases h
     match cs,hx with
     | [.bool b],hx=>cases hx;exact⟨⟨⟨b,rfl⟩,nm⟩,rfl⟩
    ·rename_i k;cases h
     match cs,hx with
     | [.int k' m],hx=>
      simp only at hx;split at hx
      ·rename_i hk;obtain⟨rfl,hw⟩:=hk;cases hx;exact⟨⟨⟨m,rfl,hw⟩,nm⟩,rfl⟩
      ·cases hx
    ·cases h
     match cs,hx with
     | [.string s],hx=>
      simp only at hx;split at hx
      ·rename_i hs;cases hx;exact⟨⟨⟨s,rfl,hs⟩,nm⟩,rfl⟩
      ·cases hx
    ·rename_i n e;simp only at h hx;split at h
     ·rename_i l1 hl1;split at h
      ·rename_i hc;cases h;split at hx
       ·rename_i hlen;obtain⟨xs,hxs,rfl⟩:=Option.map_eq_some_iff.1 hx;obtain⟨_,_,hall,hback⟩:=Ls hxs
        have each:∀ i,i<n->LeafsOK l1 ((cs.drop (i*P.cellsOf e)).take (P.cellsOf e)):=fun i hi=>by
         obtain⟨y,hy,_⟩:=hall i (zu6.2 hi);exact(ih hl1 hy).1
        have gen:∀ m k,k+m=n->LeafsOK (zil l1 m) ((cs.drop (k*P.cellsOf e)).take (m*P.cellsOf e)):=by
         intro m
         induction m with
         | zero=>intro k _;simp [zil,LeafsOK]
         | succ m ihm=>
          intro k hk;rw[show(m+1)*P.cellsOf e=P.cellsOf e+m*P.cellsOf e by rw[ztq];omega,A5];refine LeafsOK.append (each k J) ?_;rw[show k*P.cellsOf e+P.cellsOf e=(k+1)*P.cellsOf e by rw[ztq]];exact ihm (k+1) J
        refine⟨?_,?_⟩
        ·have:=gen n 0 J
         have hrl:∀ m,(zil l1 m).length=m*P.cellsOf e:=by
          intro m
          induction m with
          | zero=>simp [zil]
          | succ m ihm=>simp only[zil,nr,ihm,hc.1];rw[ztq];omega
         rw[<-hrl n,<-hc.2,<-hlen] at this;simpa using this
        ·refine List.flatMap_eq_nil_iff.2 fun y hy=>?_;obtain⟨i,_,hi⟩:=hback y hy;exact(ih hl1 hi).2
       ·cases hx
      ·cases h
     ·cases h
    ·rename_i fs;simp only at h hx;split at h
     ·rename_i l1 hl1;split at h
      ·rename_i hc;cases h;split at hx
       ·rename_i hlen;obtain⟨xs,hxs,rfl⟩:=Option.map_eq_some_iff.1 hx;obtain⟨_,_,hall,hback⟩:=Ls hxs
        have gen:∀ (fl:List Field) (off:Nat) (ls:List Au),(∀ f∈fl,f∈fs.toList)->zgr P (leafI P d) fl off=some ls->
          LeafsOK ls ((cs.drop off).take ls.length)/\∀ f∈fl,∃ l,leafI P d f.type=some l:=by
         intro fl
         induction fl with
         | nil=>intro off ls _ h;cases h;simp [LeafsOK]
         | cons f fl ihf=>
          intro off ls hm h;simp only[zgr] at h;split at h
          ·rename_i l2 hl2;split at h
           ·rename_i hc2;obtain⟨rfl,hc3⟩:=hc2;split at h
            ·rename_i r hr;cases h;obtain⟨g1,g2⟩:=ihf _ _ (fun g hg=>hm g (mf _ hg)) hr;refine⟨?_,fun g hg=>?_⟩
             ·rw[nr,A5];refine LeafsOK.append ?_ g1;obtain⟨y,hy,_⟩:=hall f (hm f (mc ..));rw[<-hc3];exact(ih hl2 hy).1
             ·rcases nz.1 hg with rfl | hg
              ·exact⟨l2,hl2⟩
              ·exact g2 g hg
            ·cases h
           ·cases h
          ·cases h
        obtain⟨g1,g2⟩:=gen fs.toList 0 _ (fun _ h=>h) hl1;refine⟨?_,?_⟩
        ·rw[<-hc,<-hlen] at g1;simpa using g1
        ·refine List.flatMap_eq_nil_iff.2 fun y hy=>?_;obtain⟨f,hf,hi⟩:=hback y hy;obtain⟨l,hl⟩:=g2 f hf;exact(ih hl hi).2
       ·cases hx
      ·cases h
     ·cases h
def open_one{t:TypeId}{b0:Nat}{dd:DataW H}{ps:List MemPlace}(h:leafI P 20 t=some [.i k])(hu:P.underlying t=some (.int k))
  (hval:Value.okWide P W .any b0 t v) (hd:DataW.Trod enc P W base sp held t v dd ps):∃ n,v=.int k n/\(Lit.int k n).wf=true/\ps=[]:=by
 obtain⟨fuel,hf⟩:=hd
 have h0:Cell.ok P W .any b0 t v:=by
  unfold Value.okWide at hval;rw[hu] at hval;unfold Cell.okWide at hval;rw[hu] at hval;exact hval
 unfold Cell.ok at h0;rw[hu] at h0
 match v,h0 with
 | .int k' n,h0=>
  obtain⟨h1,h2⟩:=bo 20 h (by simpa [Value.cells] using hf);obtain⟨n',r,g1,g2,g3⟩:=Pa h1;cases g1;exact⟨n,rfl,g2,h2⟩
end
end Go.V
namespace Go.V.L3
open Go.V.L2
end Go.V.L3
namespace Go.V.L8
open Go.V.L2 Go.V.L3 Go.V.L6
end Go.V.L8
namespace Go.V.L11
open Go.V Go.V.L2 Go.V.L3 Go.V.L4 Go.V.L6 Go.V.L8 Go.V.Bd Go.V.L10
def zjt(s:ByteArray):∀ b∈rt s,b<=255:=fun b hb=>by
 unfold rt at hb;rcases mj.1 hb with h | h
 ·exact E2 _ b h
 ·exact Mt s b h
section
variable  {F:Fr}  {O:Boxes}  {ops:Array Oper} {κ:Kap} {d q:Nat} {ty:TypeId} {pos:String} {aft:Array Edge} 
def zbo(L:Tabs P){tt:TypeId}{ag:Bool}{hi:Operand}{kh:IntKind}(k:Nat){ph:Int}(hn:Nat.blt d n=true)(hg:gK ops κ ⟨some d,.slice tt (.tmp q) none (some hi) none,ty,pos,aft,g⟩=some true)(hx:κ q=some (.sat (BsV bs fu)))(ht:L.sl tt=some A3)(hl:L.ld A3=some (ag,1))
  (hhi:evK κ hi=some (.int kh ph)) (eh:ph=k) (hjs:k<=bs.length):StepOK P F B n ops O κ ⟨some d,.slice tt (.tmp q) none (some hi) none,ty,pos,aft,g⟩ d (.sat (BsV (bs.take k) false)):=by
 have h:=jw (kl:=.i64) (pl:=0) (km:=.i64) (pm:=0) (P:=P) (F:=F) (B:=B) (O:=O) (ops:=ops) (aft:=aft) (ty:=ty) (pos:=pos) (ys:=(bs.take k).map fun b:Nat=>Value.int .u8 (b:Int)) L 0 k false hn hg hx ht hl rfl ⟨hhi,eh⟩ (fun h=>by cases h) J hjs (by rw[zuz,zsj,zse,zs1,zta]);have e:k-0=(bs.take k).length:=by rw[mh];omega
 rw[e] at h;exact h
end
attribute [local irreducible] V N X VO Par XP LV StepOK Has Ret RetL RetO RetT jh RetX RetY Pan o5 Src
end Go.V.L11
namespace Go.V.L11
open Go.V.L2 Go.V.L3 Go.V.L4 Go.V.L6 Go.V.L8 Go.V.L10
def Ma{rs:List Int}(h0:rs≠[])(h:Yn rs):ff rs rs.length∈rs/\∀ x∈rs,x<=ff rs rs.length:=by
 obtain⟨m,hm⟩:∃ m,rs.length=m+1:=⟨rs.length-1,by have:=zuo.2 h0;omega⟩
 obtain⟨y,hy⟩:=xj (show m<rs.length by omega);rw[hm,d9 hy];refine⟨mz hy,fun x hx=>?_⟩;obtain⟨i,hi⟩:=zsf hx;have hl:=get_lt hi;rcases m5 i m with hlt | hge
 ·have:=zs9.1 (mn.1 h).2 i m (get_lt hi) (get_lt hy) hlt;rw[ue hi,ue hy] at this;omega
 ·have:i=m:=J;subst this;rw[hi] at hy;cases hy;exact zsw _
abbrev Hj(ks:List K3):List Int:=ks.map fun k=>k.1
def ew:∀ {ks:List K3} {last:Int},KOK ks last->(last::Hj ks).Pairwise (·<·)
 | [],_,_=>ztc _ _
 | k::ks,last,h=>by
  have h1:=ew h.2.2.2.2.2;refine mn.2 ⟨fun a ha=>?_,h1⟩;rcases nz.1 ha with rfl | ha
  ·exact h.1
  ·have:=(mn.1 h1).1 a ha;have:=h.1;omega
def Mb:∀ {ks:List K3} {last:Int},KOK ks last->∀ k∈ks,last<k.1/\k.1<=18446744073709551615/\k.2.1<=4096/\SOK k.2.2/\k.2.2.length<=4096
 | [],_,_,_,h=>by cases h
 | k::ks,last,h,x,hx=>by
  rcases nz.1 hx with rfl | hx
  ·exact⟨h.1,h.2.1,h.2.2.1,h.2.2.2.1,h.2.2.2.2.1⟩
  ·obtain⟨h1,h2⟩:=Mb h.2.2.2.2.2 x hx;exact⟨by have:=h.1;omega,h2⟩
def Md(ks:List K3):(kzs ks).map (·.1)=Hj ks:=by unfold kzs;rw[List.map_map];rfl
def E9(h:r∈kpi ks):r∈Hj ks:=by
 unfold kpi at h;obtain⟨k,hk,hr⟩:=zub.1 h;rw[zvw] at hr;exact m6.2 ⟨k,hk,hr.2.symm⟩
def Mc(h:KOK ks 0):LdZ (kzs ks) (kpi ks) (ff (Hj ks) ks.length):=by
 have ha:=ew h;have hk:=Md ks;have hlen:(kzs ks).length=ks.length:=mg ..;have hkl:(Hj ks).length=ks.length:=mg ..;refine⟨by rw[hk];exact ha,fun a hm=>?_,by rw[hk,hlen],fun r hr=>by rw[hk];exact E9 hr,fun z hz=>?_⟩
 ·rw[hk] at hm;rw[<-hkl];by_cases h0:Hj ks=[]
  ·rw[h0,my] at hm;subst hm;rw[h0];exact zsw _
  ·rcases nz.1 hm with rfl | hm
   ·exact Int.le_of_lt ((mn.1 ha).1 _ (Ma h0 ha).1)
   ·exact(Ma h0 ha).2 a hm
 ·unfold kzs at hz;obtain⟨k,hk2,rfl⟩:=m6.1 hz;exact(Mb h k hk2).2.2.2.2
def T1(h:KOK ks 0){k:K3}(hk:k∈ks):g7 k.1 (kzs ks)=some k.2.2:=by
 refine E5 ?_ (m6.2 ⟨k,hk,rfl⟩);rw[Md];exact(mn.1 (ew h)).2.imp fun hlt e=>by omega
def rf(h:KOK ks 0):kx (loR (kzs ks))=Hj ks:=pg vz (l9 _) ((mn.1 (ew h)).2.imp fun hlt=>Ms.2 hlt) fun r=>by
 rw[jk,(Mc h).kpt,pu,Md]
def Ft:∀ {ks:List K3},(Hj ks).Nodup->∀ k∈ks,List.count k.1 (kpi ks)=k.2.1
 | [],_,_,h=>by cases h
 | x::ks,hn,k,hk=>by
  obtain⟨h1,h2⟩:=zto.1 hn;have e:kpi (x::ks)=List.replicate x.2.1 x.1++kpi ks:=rfl;rw[e,zsq];rcases nz.1 hk with rfl | hk
  ·rw[List.count_replicate_self,ztw.2 fun hm=>h1 (E9 hm),zug]
  ·have hne:x.1≠k.1:=fun e=>h1 (m6.2 ⟨k,hk,e.symm⟩);rw[Ft h2 k hk,List.count_replicate,nc (by simpa using hne),zrw]
def Pe(h:KOK ks 0):(Hj ks).Nodup:=(mn.1 (ew h)).2.imp fun hlt e=>by omega
def zpo(h:KOK ks 0){k:K3}(hk:k∈ks):tZ (loS (kzs ks,kpi ks)) k.1=k.2.2:=by
 unfold tZ;show(kpt (loR (kzs ks)) k.1).getD []=_;rw[(Mc h).kpt,T1 h hk];rfl
def zlc(h:KOK ks 0):cc (loS (kzs ks,kpi ks))=ks:=by
 unfold cc;show(kx (loR (kzs ks))).map _=ks;rw[rf h,ztl]
 conv=>rhs;rw[<-zuc ks]
 refine ztv fun k hk=>?_;show(k.1,List.count k.1 (kpi ks),tZ (loS (kzs ks,kpi ks)) k.1)=k;rw[Ft (Pe h) k hk,zpo h hk]
def zc9:∀ {ks:List K3},(∀ k∈ks,k.2.1<=4096)->(kpi ks).length<=4096*ks.length
 | [],_=>nu _
 | x::ks,h=>by
  have e:kpi (x::ks)=List.replicate x.2.1 x.1++kpi ks:=rfl;have h1:=h x (mc ..);have h2:=zc9 (ks:=ks) fun k hk=>h k (mf _ hk);rw[e,nr,zvx,ma];omega
def zj2{a b:List Int}(ha:Sst cP a)(hb:Sst cP b)(h:∀ x∈a,x∈b):a.length<=b.length:=by
 have e:a=b.filter fun x=>decide (x∈a):=pg vz ha (hb.sublist zun) fun z=>by
  rw[zsb];exact⟨fun hz=>⟨h z hz,nf hz⟩,fun hz=>nj hz.2⟩
 rw[e];exact zte _ _
def zld(h:KOK ks 0):Sst cP (Hj ks):=(mn.1 (ew h)).2.imp fun hlt=>Ms.2 hlt
structure LoOK(ks:List K3):Prop where
 k:KOK ks 0
 l0:0<ks.length
 l1:ks.length<=1024
def LoOK.ne(h:LoOK ks):Hj ks≠[]:=fun e=>by have h1:=nh List.length e;rw[mg,m7] at h1;have:=h.l0;omega
def LoOK.last(h:LoOK ks):ff (Hj ks) (Hj ks).length∈Hj ks:=(Ma h.ne (ew h.k)).1
def LoOK.len(h:LoOK ks):((loR (kzs ks)).length:Int)=ff (Hj ks) (Hj ks).length/\0<ff (Hj ks) (Hj ks).length:=by
 have h1:=(mn.1 (ew h.k)).1 _ h.last;have h2:(kzs ks).length=(Hj ks).length:=by unfold kzs;rw[List.length_map,List.length_map]
 refine⟨?_,h1⟩;unfold loR;rw[mg,zu9,Md,h2];omega
def LoOK.endL(h:LoOK ks):(kpt (loR (kzs ks)) (loR (kzs ks)).length).isSome=true:=by
 rw[h.len.1,<-jk,rf h.k];exact h.last
def LoOK.pin{ks:List K3}(h:LoOK ks):∀ r∈kpi ks,(kpt (loR (kzs ks)) r).isSome=true:=fun r hr=>by
 rw[<-jk,rf h.k];exact E9 hr
def LoOK.tl(h:LoOK ks)(ht:kpt (loR (kzs ks)) r=some t):SOK t/\t.length<=4096:=by
 rw[(Mc h.k).kpt] at ht;have hm:=bm ht;unfold kzs at hm;obtain⟨k,hk,e⟩:=m6.1 hm;cases e;exact(Mb h.k k hk).2.2.2
def LoOK.pl(h:LoOK ks):(xf (kpi ks)).length<=1024:=by
 rw[wy];have h1:=zj2 (jj (kpi ks)) (zld h.k) fun x hx=>E9 (k7.1 hx);rw[mg] at h1;have:=h.l1;omega
def LoOK.D(h:LoOK ks):zox (loS (kzs ks,kpi ks)):=by
 have h1:=h.len;have h2:=(Mb h.k)
 obtain⟨k,hk,e⟩:=m6.1 h.last;have h3:=(h2 k hk).2.1;have h4:=zc9 fun k hk=>(h2 k hk).2.2.1;have h5:=h.l0;have h6:=h.l1;have h7:=h.pl;refine⟨?_,?_,?_,?_,?_,?_,fun r t ht=>⟨(h.tl ht).2,(h.tl ht).1.sst,S8 (h.tl ht).1⟩⟩
 ·show(loR (kzs ks)).length≠0;omega
 ·show(loR (kzs ks)).length<_;omega
 ·show 0<(kx (loR (kzs ks))).length;rw[rf h.k,mg];exact h5
 ·show(kx (loR (kzs ks))).length<=_;rw[rf h.k,mg];exact h6
 ·show(xf (kpi ks)).length<=_;omega
 ·show(kpi ks).length<=_;omega
def zda{f:Int->Nat×List U}:∀ {L:List Int} {last:Int},(∀ r∈L,last<r/\r<=18446744073709551615/\(f r).1<=4096/\SOK (f r).2/\(f r).2.length<=4096)->Sst cP L->KOK (L.map fun r=>(r,f r)) last
 | [],_,_,_=>trivial
 | r::L,last,h,hs=>by
  have h1:=mn.1 hs;obtain⟨a,b,c,d,e⟩:=h r (mc ..);exact⟨a,b,c,d,e,zda (fun x hx=>⟨Ms.1 (h1.1 x hx),(h x (mf _ hx)).2⟩) h1.2⟩
structure StoL(S:Sto):Prop where
 D:zox S
 last:(kpt S.R S.R.length).isSome=true
 pin:∀ r∈S.P,(kpt S.R r).isSome=true
 so:∀ r t,kpt S.R r=some t->SOK t
 cn:∀ r,List.count r S.P<=4096
def StoL.lo(h:StoL S):LoOK (cc S):=by
 have hk:=h.D.k0;have hl:=h.D.kl;have hr:=h.D.rl;refine⟨zda (f:=fun r=>(List.count r S.P,tZ S r)) (fun r hm=>?_) (l9 S.R),by rw[zc5];exact hk,by rw[zc5];exact hl⟩;have h1:=jk.1 hm;have h2:=f7 h1;obtain⟨t,ht⟩:=zso.1 h1;have h3:tZ S r=t:=by unfold tZ;rw[ht];rfl
 rw[h3];exact⟨h2.1,by omega,h.cn r,h.so r t ht,(h.D.tl r t ht).1⟩
def Di(S:Sto):Hj (cc S)=kx S.R:=by
 show(cc S).map _=_;unfold cc;rw[ztl];exact zuc _
def StoL.R{S:Sto}(h:StoL S):loR (kzs (cc S))=S.R:=by
 have hk:=h.lo.k;have hkk:kx (loR (kzs (cc S)))=kx S.R:=(rf hk).trans (Di S);refine zaj ?_ (fun r hr=>?_) hkk
 ·have h1:=h.lo.len.1;rw[Di] at h1;have ha:Yn (kx S.R):=by have:=ew hk;rw[Di] at this;exact this
  have hm:=jk.2 h.last;have h0:kx S.R≠[]:=fun e=>by rw[e] at hm;cases hm
  have h2:=Ma h0 ha;have h3:=h2.2 _ hm;have h4:=f7 (jk.1 h2.1);omega
 ·rw[hkk] at hr;have hm:(r,List.count r S.P,tZ S r)∈cc S:=m6.2 ⟨r,hr,rfl⟩;rw[(Mc hk).kpt];obtain⟨t,ht⟩:=zso.1 (jk.1 hr);have h3:tZ S r=t:=by unfold tZ;rw[ht];rfl
  have:=T1 hk hm;dsimp only at this;rw[this,h3,ht]
def StoL.count{S:Sto}(h:StoL S)(r:Int):List.count r (kpi (cc S))=List.count r S.P:=by
 by_cases hr:r∈kx S.R
 ·exact Ft (Pe h.lo.k) (r,List.count r S.P,tZ S r) (m6.2 ⟨r,hr,rfl⟩)
 ·rw[ztw.2 fun hm=>hr (by have:=E9 hm;rwa [Di] at this),ztw.2 fun hm=>hr (jk.2 (h.pin r hm))]
def V2{a b:List Int}(h:∀ r,List.count r a=List.count r b):xf a=xf b:=by
 have hh:kf a=kf b:=pg vz (jj _) (jj _) fun z=>by
  rw[k7,k7,<-zs4,<-zs4,h]
 unfold xf;rw[hh];exact ztv fun r _=>by rw[h]
def zc8:∀ ks:List K3,(kpi ks).length=(ks.map fun k=>k.2.1).sum
 | []=>rfl
 | x::ks=>by
  have e:kpi (x::ks)=List.replicate x.2.1 x.1++kpi ks:=rfl;rw[e,nr,zvx,zc8 ks,mt,zuq]
def StoL.plen(h:StoL S):(kpi (cc S)).length=S.P.length:=by
 have h1:=Sy h.pin;unfold Sz at h1;rw[m4] at h1;rw[zc8,h1]
def StoL.I2(h:StoL S):zpc ⟨S.R,kpi (cc S)⟩:=⟨h.last,h.D.kl,fun r hr=>by have:=h.lo.pin r hr;rw[h.R] at this;exact this,fun r t ht=>(h.D.tl r t ht).1⟩
def U7{R:List (Option (List U))}{P Q:List Int}{S':Sto}(h:bg ⟨R,P⟩ l cs=(S',r,e)):∃ R',S'=⟨R',P⟩/\bg ⟨R,Q⟩ l cs=(⟨R',Q⟩,r,e):=by
 unfold bg at h |-;have ha:atS ⟨R,Q⟩ 0=atS ⟨R,P⟩ 0:=rfl;rw[ha];dsimp only at h |-;by_cases h1:(ci (atS ⟨R,P⟩ 0).1 l cs).2.2=0
 ·rw[na h1] at h |-;by_cases h2:1024<=(kx R).length
  ·rw[na h2] at h |-;cases h;exact⟨R,rfl,rfl⟩
  ·rw[nc h2] at h |-;cases h;exact⟨_,rfl,rfl⟩
 ·rw[nc h1] at h |-;cases h;exact⟨R,rfl,rfl⟩
def zly(c:CH):∀ b∈chgB c,b<=255:=fun b hb=>by
 unfold chgB Aw ww at hb;rcases mj.1 hb with h | h
 ·obtain⟨s,_,h⟩:=zub.1 h;exact zjt s b h
 ·rw[my] at h;subst h;split<;>decide
def zlw(cs:List CH):∀ b∈Qa cs,b<=255:=fun b hb=>by
 unfold Qa at hb;rcases mj.1 hb with h | h
 ·exact E2 _ b h
 ·obtain⟨c,_,h⟩:=zub.1 h;exact zly c b h
def zdt:∀ {ks:List K3} {last:Int} {s:List U},∀ b∈Hv ks last s,b<=255
 | [],_,_,_,h=>by cases h
 | k::ks,last,s,b,hb=>by
  unfold Hv at hb;rcases mj.1 hb with h | h
  ·rcases mj.1 h with h | h
   ·exact E2 _ b h
   ·rcases mj.1 h with h | h
    ·exact E2 _ b h
    ·exact zlw _ b h
  ·exact zdt b h
def zlq{ks:List K3}:∀ b∈Ck ks,b<=255:=fun b hb=>by
 unfold Ck at hb;rcases mj.1 hb with h | h
 ·exact E2 _ b h
 ·exact zdt b h
def Ui:∀ {ks:List K3} {last:Int} {s:List U},KOK ks last->0<=last->SOK s->s.length<=4096->(Hv ks last s).length<=ks.length*50000000
 | [],_,_,_,_,_,_=>nu _
 | (r,n,t)::ks,last,s,h,h0,hs,hl=>by
  obtain⟨k1,k2,k3,k4,k5,k6⟩:=h;dsimp only at k1 k2 k3 k4 k5 k6;have ih:=Ui k6 J k4 k5;have hb:=rp s t;have hz:=zjb hs k4;have h1:=uw (n:=(r-last).toNat) J;have h2:=uw (n:=n) J;have h3:=uw (n:=(sw s t).length) J;have h4:=Am hz (sw s t).length;rw[m4] at h4;unfold Hv Qa;simp only[nr,ma];omega
def LoOK.bytes(h:LoOK ks):(Ck ks).length<=52000000000/\0<(Ck ks).length:=by
 have h1:=Ui h.k (zsw 0) zo7 (mb _);have h2:=uw (n:=ks.length) (by have:=h.l1;omega);have h3:=h.l1;have h4:0<(j7 ks.length).length:=by unfold j7;split<;>simp
 unfold Ck;rw[nr];omega
def _root_.ZeR(t:Wr Y->A:=by intro h;refine z7 (lg L _ Z Z Z Z J) Z ?_;exact h.1)(h:Y):A:=t ⟨h⟩
def _root_.Zfc(t:Wr Y->A:=by intro h;refine z7 (Lj Z Z Z Z zp3 Z Z) Z ?_;exact h.1)(h:Y):A:=t ⟨h⟩
def _root_.ZfB(t:Wr Y->A:=by intro h;refine z7 (zb2 Z Z Z Z Z Z) Z ?_;exact h.1)(h:Y):A:=t ⟨h⟩
def _root_.ZfC(t:Wr Y->A:=by intro h;refine z7 (Lg Z Z Z Z Z) Z ?_;exact h.1)(h:Y):A:=t ⟨h⟩
def zrc:zox newS:=⟨by decide,by decide,by decide,by decide,by decide,by decide,fun r t h=>by
 have h1:=(jj_new.so r t h)
 have h2:newS.R.length=1:=rfl
 exact⟨by omega,h1.1.sst,fun x hx=>by
  have h3:=h1.2;have hr:=f7 (R:=newS.R) (r:=r) (by rw[h];rfl);obtain rfl:r=1:=by omega
  cases h;cases hx⟩⟩
def zrp:Ck (cc newS)=[1,1,0,0]:=T
def t9{bs:List Nat}{a:Int}(h:ldF bs=(y,(a,e)))(he:e≠0)(hb:∀ b∈bs,b<=255)(hz:bs.length<=1099511627776)(hB:zwe B w)(hv:BsV bs false v B):
  Ret zwf 26 [v] w B (LdE a e):=by
 have h1:=Lu hb hz hB hv;rw[h] at h1;exact zcy he h1
def wg0(hB:zwe B w)(hv:BsV [0] false v B):Ret zwf 26 [v] w B (LdE 0 5):=t9 (y:=([],[])) T E E E hB hv
def wg1(hB:zwe B w)(hv:BsV [1,0] false v B):Ret zwf 26 [v] w B (LdE 1 5):=t9 (y:=([],[])) T E E E hB hv
def wg2(hB:zwe B w)(hv:BsV [1,1,0,0,7] false v B):Ret zwf 26 [v] w B (LdE 4 5):=t9 (y:=([],[])) T E E E hB hv
def wg3(hB:zwe B w)(hv:BsV [1,1] false v B):Ret zwf 26 [v] w B (LdE 2 17):=t9 (y:=([],[])) T E E E hB hv
attribute [local irreducible] V N X VO Par XP LV StepOK Has Ret RetL RetO RetT jh RetX RetY Pan o5 Src
def zdr(hB:zwe B w)(hr:(StG b newS).P B w C)(hC:ZCB C w B):
  RetY zwf 28 [po b] w B C (StG b newS) (TupS [BsV [1,1,0,0] true,fun v _=>v=.int .i64 0]):=by
 have h:=Ug zrc hB hr hC
 rwa [zrp] at h
def O5(hB:zwe B w)(hM:GlobM B):Ret zwf 9 [] w B (fun v _=>v=.bool true):=by
 have p0:ptA zqr=(d0,0):=by decide+kernel
 have p2:ptA zq7=(d2,0):=by decide+kernel
 have z0:TZ d0:=zib E;have z2:TZ d2:=zib E;have hz1:∀ t∈[d0],TZ t:=fun t ht=>by rw[my] at ht;subst ht;exact z0
 have hz2:∀ t∈[((d0,false):CH),(d2,true)],TZ t.1:=fun t ht=>by
  simp only[nz,zs3,or_false] at ht;rcases ht with rfl | rfl
  ·exact z0
  ·exact z2
 have hs1:∀ t∈[d0],(Cu t).size<=1000:=by decide+kernel
 have hs2:∀ t∈[((d0,false):CH),(d2,true)],(Cv t).size<=1000:=by decide+kernel
 have k1:Kn.mono (.sat (US ([]:List U) true)):=ns;have k2:Kn.mono (.sat (KS tyC ([]:List CH) true)):=ns;have k3:Kn.mono (.sat (BsV [1,1,0,0] true)):=ns;refine yl Tryz.func9 Z Tryz.ntmps9 (np Z) hB (Zw (h:=?_));refine z71 L Z (fun u H hH _=>Eh p0 (np Z) hH) ?_;refine(Zcj∘Ze∘ZL) ?_;refine z71 L Z (fun u H hH _=>Eh p2 (np Z) hH) ?_;refine(Zcj∘Ze∘Z2∘Zb1∘ZJ) ?_;refine z7 (qd L Z Z (zn Z) Z Z Z (fun u H hH hle _ v1 h1=>U6 zrd hz1 hs1 hH (h1.toV (n:=1) Z))) Z ((Zb0∘ZE∘Zb1∘Zex∘Zb1∘Zex∘ZJ) ?_);refine z7 (qd L Z Z (zn Z) Z Z Z (fun u H hH hle _ v1 h1=>Qd zrg hz2 hs2 hH (h1.toV (n:=2) Z))) Z ((ZW∘Zbl∘ZbG∘ZcZ∘Zar∘Zb∘ZfC∘ZaV∘ZfC∘Zba) ?_);refine Z7 (h:=?_);refine z7 (xh (φ:=TupS [US ([]:List U) true,fun v _=>v=.int .i64 1,fun v _=>v=.int .i64 5]) L Z Z (zn Z) Z Z Z (tx ns) (fun u H hH hle _=>Qc zrf (np Z) hH (hM.mono hle))) Z ((Zg∘Zdd∘Zc3∘Zc3∘Zaf∘ZaI∘Za5) ?_);refine z7 (xh (φ:=TupS [KS tyC ([]:List CH) true,fun v _=>v=.int .i64 1,fun v _=>v=.int .i64 5]) L Z Z (zn Z) Z Z Z (tx ns) (fun u H hH hle _=>Ga zre (np Z) hH (hM.mono hle))) Z ((Zg∘Zdd∘Zc3∘Zc3∘Zaf∘ZaI∘ZM∘Zc4) ?_);refine ZaH (h:=?_);refine z7 (v6 L Z Z (zn Z) Z Z Z (fun u H hH hle _=>S9 hH)) Z ?_;refine ix 72 900 rfl fun b=>?_;refine ye (vp L 900 (TupS [BsV [1,1,0,0] true,fun v _=>v=.int .i64 0]) (r:=StG b newS) Z Z Z Z Z (Bg ns) (fun u H2 C2 hH hle hr2 hC2=>zdr hH hr2 hC2)) ((Zg∘Zdd∘Zc3∘Zaf∘Zh) ?_);refine(ZbL∘Zar∘Zb∘Zar∘ZaV∘Zar∘ZaV∘Zar∘Zf∘Za∘Zcx) ?_;refine z7 (xh (φ:=BsV [0] true) L Z Z (zn Z) Z Z Z ns (fun u H hH hle _=>Kt hH)) Z (z7 (og (bs:=[0]) (fu:=true) E Z Z Z Z Z Z) Z ((ZfC∘ZaV∘Zar∘Zf∘Za∘Zg) ?_));refine z7 (og (bs:=[1,1,0,0]) (fu:=true) E Z Z Z Z Z Z) Z ((ZfC∘Zba) ?_);refine(ZU∘ZJ∘Zaf∘Zk∘ZaP∘ZJ∘Zaf∘Zan∘Zat∘Zae) ?_;refine Yh 18 (SlB (wrS.map Value.string) 9 4) Z SlB.mono (fun _ _ h=>by unfold wrS;exact h) ?_;refine Yh 19 (SlB (wrA.map (Value.int .i64)) tyI 4) Z SlB.mono (fun _ _ h=>by unfold wrA;exact h) ?_;refine xu (fun i:Nat=>[(18,.sat (SlB (wrS.map Value.string) 9 4)),(19,.sat (SlB (wrA.map (Value.int .i64)) tyI 4)),(20,.is (.int .i64 i))]) (fun i=>i<=4) (fun i=>4-i) 0 (mb _) ⟨Z,Z,Z,nm⟩ ?_;rintro i hi;have hcases:i=0\/i=1\/i=2\/i=3\/i=4:=J;rcases hcases with rfl | rfl | rfl | rfl | rfl
 ·have hcs:(wrS.map Value.string)[0*1]?=some (.string ⟨#[0]⟩):=rfl;have hca:(wrA.map (Value.int .i64))[0*1]?=some (.int .i64 0):=rfl;refine(Zd∘Zal∘Za∘Zdi∘ZaX∘Zh∘Zc5∘Za∘Zb6∘Zcv∘Zg∘Za∘ZeY∘Zc7∘ZfB) ?_;refine z7 (qd L Z Z (zn Z) Z Z Z (fun u H hH hle _ v1 h1=>wg0 hH h1)) Z ((ZcB∘Zv∘ZaI∘ZcS∘Za∘Zfc∘Zb∘Zg∘Za∘ZeY∘Zc7∘Zar∘Zf∘Zu∘Zar∘Zf∘Za1∘Zbm∘Za∘Zaa) ?_);exact yr (x:=0) 1 E E ⟨Z,Z,Z,nm⟩
 ·have hcs:(wrS.map Value.string)[1*1]?=some (.string ⟨#[1,0]⟩):=rfl;have hca:(wrA.map (Value.int .i64))[1*1]?=some (.int .i64 1):=rfl;refine(Zd∘Zal∘Za∘Zdi∘ZaX∘Zh∘Zc5∘Za∘Zb6∘Zcv∘Zg∘Za∘ZeR∘Zc7∘ZfB) ?_;refine z7 (qd L Z Z (zn Z) Z Z Z (fun u H hH hle _ v1 h1=>wg1 hH h1)) Z ((ZcB∘Zv∘ZaI∘ZcS∘Za∘Zfc∘Zb∘Zg∘Za∘ZeR∘Zc7∘Zar∘Zf∘Zu∘Zar∘Zf∘Za1∘Zbm∘Za∘Zaa) ?_);exact yr (x:=1) 2 E E ⟨Z,Z,Z,nm⟩
 ·have hcs:(wrS.map Value.string)[2*1]?=some (.string ⟨#[1,1,0,0,7]⟩):=rfl;have hca:(wrA.map (Value.int .i64))[2*1]?=some (.int .i64 4):=rfl;refine(Zd∘Zal∘Za∘Zdi∘ZaX∘Zh∘Zc5∘Za∘Zb6∘Zcv∘Zg∘Za∘ZeR∘Zc7∘ZfB) ?_;refine z7 (qd L Z Z (zn Z) Z Z Z (fun u H hH hle _ v1 h1=>wg2 hH h1)) Z ((ZcB∘Zv∘ZaI∘ZcS∘Za∘Zfc∘Zb∘Zg∘Za∘ZeR∘Zc7∘Zar∘Zf∘Zu∘Zar∘Zf∘Za1∘Zbm∘Za∘Zaa) ?_);exact yr (x:=2) 3 E E ⟨Z,Z,Z,nm⟩
 ·have hcs:(wrS.map Value.string)[3*1]?=some (.string ⟨#[1,1]⟩):=rfl;have hca:(wrA.map (Value.int .i64))[3*1]?=some (.int .i64 2):=rfl;refine(Zd∘Zal∘Za∘Zdi∘ZaX∘Zh∘Zc5∘Za∘Zx∘Z1∘Zbg∘Ze∘Zcv∘Zg∘Za∘ZeR∘Zc7∘ZfB) ?_;refine z7 (qd L Z Z (zn Z) Z Z Z (fun u H hH hle _ v1 h1=>wg3 hH h1)) Z ((ZcB∘Zv∘ZaI∘ZcS∘Za∘Zfc∘Zb∘Zg∘Za∘ZeR∘Zc7∘Zar∘Zf∘Zu∘Zar∘Zf∘Za1∘Zbm∘Za∘Zaa) ?_);exact yr (x:=3) 4 E E ⟨Z,Z,Z,nm⟩
 ·refine(Zd∘Zal∘Za∘Zb5∘ZdE∘Zc) ?_;exact yk2 L [.tmp 0]
end Go.V.L11
namespace Go.V
open Go.ChangeShapes Go.WideShapes Go.ChangeAt Go.ChangeMaps
section
variable   {enc:TypeId×Value->H}  
end
end Go.V
namespace Go.V
open Go.ChangeShapes Go.WideShapes Go.ChangeAt Go.ChangeMaps
section
variable   {enc:TypeId×Value->H}  
def Ar(enc:TypeId×Value->H)(P:Program)(W:World)(held:Bool)(t:TypeId)(n:Nat)(Φ:List Value->Prop):Prop:=
 P.cellsOf t=n/\∀ (fuel:Nat) (cs:List Value) (x:DataW H×List MemPlace),DataW.trod enc P W 0 (fun _=>true) held fuel t cs=some x->(x.1.weights P t).all (·<=reachBytes)=true->cs.length=n/\Φ cs
def Bf{t:TypeId}{ls:List Au}(h:leafI P 20 t=some ls)(hc:P.cellsOf t=ls.length):Ar enc P W held t ls.length (LeafsOK ls):=
 ⟨hc,fun _ _ _ hx _=>⟨(bo 20 h hx).1.length,(bo 20 h hx).1⟩⟩
def SlD(e:TypeId)(n by_:Nat)(Φ:List Value->Prop)(Hh:Heap)(v:Value):Prop:=∃ cs:List (List Value),(∀ c∈cs,c.length=n/\Φ c)/\cs.length<=maxLen/\cs.length*by_<=reachBytes/\SlV e n cs.flatten cs.length false v Hh
def iv{e:TypeId}:∀ {l:List (DataW H)} {d:DataW H},d∈l->∀ n∈d.weights P e,n∈DataW.weightsAll P e l
 | d0::l,d,hd,n,hn=>by
  simp only[DataW.weightsAll,mj];rcases nz.1 hd with rfl | hd
  ·exact .inl hn
  ·exact .inr (iv hd n hn)
def zh8{l m:List Nat}(h:l.all (·<=reachBytes)=true)(hs:∀ n∈m,n∈l):m.all (·<=reachBytes)=true:=
 zr3.2 fun n hn=>zr3.1 h n (hs n hn)
def wt_at{ts:List TypeId}{ds:List (DataW H)}(h:(DataW.weightsEach P ts ds).all (·<=reachBytes)=true)(j:Nat){t:TypeId}{d:DataW H}(ht:ts[j]?=some t)(hd:ds[j]?=some d):(d.weights P t).all (·<=reachBytes)=true:=
 zh8 h (DataW.weights_mem_each ht hd)
def El{t e:TypeId}(ht:P.underlying t=some (.slice e))(hct:P.cellsOf t=1)(he:Ar enc P W held e n Φ)(hn:0<n):
  Ar enc P W held t 1 (fun vs=>∃ v,vs=[v]/\SlD e n (P.bytesOf e) Φ (hp W) v):=by
 refine⟨hct,fun fuel cs x hf hw=>?_⟩;rcases Deep.open_slice ht hf with ⟨rfl,_⟩ | ⟨a,len,cap,m,nn,D,Pl,rfl,_,h1,h2,hm,rfl,hx⟩
 ·exact⟨rfl,_,rfl,[],fun c h=>(nomatch h),mb _,by simp,SlV.nil⟩
 refine⟨rfl,_,rfl,?_⟩;simp only[if_true] at hm;subst hm
 have hwe:(DataW.weights P t (DataW.slice ((List.range len).map D) ((List.range (m-len)).map fun j=>D (len+j))))=(len+(m-len))*P.bytesOf e::(DataW.weightsAll P e ((List.range len).map D)++DataW.weightsAll P e ((List.range (m-len)).map fun j=>D (len+j))):=by
  rw[DataW.weights,ht];simp
 simp only at hw;rw[hwe] at hw
 have hb:(len+(m-len))*P.bytesOf e<=reachBytes:=by
  have:=zr3.1 hw _ (mc ..);simpa using this
 have hwD:∀ i,i<len->((D i).weights P e).all (·<=reachBytes)=true:=fun i hi=>zh8 hw fun k hk=>
  mf _ (zsg _ (iv (m6.2 ⟨i,zu6.2 hi,rfl⟩) k hk))
 rcases Nat.eq_zero_or_pos m with h0 | h0
 ·obtain rfl:len=0:=by omega
  subst h0;exact⟨[],fun c h=>(nomatch h),mb _,by simp,by simp,.inl ⟨rfl,_,rfl⟩⟩
 obtain⟨he1,he2⟩:=he
 have hsp:a.spot=none/\∃ c0 ty fr,W.heap[a.block]?=some (.cells c0 ty fr):=by
  obtain⟨c,g1,_⟩:=hx 0 h0;obtain⟨_,g2,g3⟩:=World.cells?_some g1;have g4:=g3 0 J;have hc0:∃ v,c[0]?=some v:=⟨_,zrz J⟩
  obtain⟨v,hv⟩:=hc0;rw[hv] at g4
  have hadd:((a.add (0*P.cellsOf e)).add 0)=a:=by
   rw[zuz];unfold Addr.add;simp
  rw[hadd] at g4;unfold World.cell? at g4;split at g4
  ·rename_i c1 ty fr hh;split at g4
   ·cases g4
   ·rename_i hs;exact⟨by simpa using hs,_,_,_,hh⟩
  ·cases g4
 obtain⟨h3,cs,ty,fr,h4⟩:=hsp
 obtain⟨C,hC⟩:=Deep.choose_lt (α:=List Value) (n:=m) (p:=fun i c=>W.cells? 0 (a.add (i*P.cellsOf e)) (P.cellsOf e)=some c/\(i<len->c.length=n/\Φ c)) (fun i hi=>by
  obtain⟨c,g1,g2⟩:=hx i hi;exact⟨c,g1,fun hl=>he2 _ _ _ g2 (hwD i hl)⟩)
 have hln:∀ i,i<len->(C i).length=n:=fun i hi=>((hC i J).2 hi).1;refine⟨(List.range len).map C,fun c hc=>?_,by simp;omega,?_,?_⟩
 ·obtain⟨i,hi,rfl⟩:=m6.1 hc;exact(hC i (by have:=zu6.1 hi;omega)).2 (zu6.1 hi)
 ·rw[mg,zu9];exact mq (ztr _ J) hb
 ·have hfl:∀ k,k<=len->((List.range k).map C).flatten.length=k*n:=by
   intro k
   induction k with
   | zero=>simp
   | succ k ih=>
    intro hk;rw[List.range_succ,zr1,List.flatten_append,nr,ih J,ztq];simp [hln k J]
  refine⟨by rw[hfl len (nu _),mg,zu9],.inr ⟨a.block,a.off,m,cs,ty,fr,?_,h4,?_,by simpa using h1,fun h=>by cases h⟩⟩
  ·obtain⟨ab,ao,asp⟩:=a;simp only at h3;subst h3;simp
  ·rw[hfl len (nu _)]
   have key:∀ k,k<=len->(cs.toList.drop a.off).take (k*n)=((List.range k).map C).flatten:=by
    intro k
    induction k with
    | zero=>simp
    | succ k ih=>
     intro hk;rw[ztq,A5,ih J,List.range_succ,zr1,List.flatten_append];congr 1;obtain⟨_,g2,g3⟩:=World.cells?_some (hC k J).1;simp only[mt,zr7,List.flatten_cons,List.flatten_nil,mi];apply zu3;intro j;rcases m5 j n with hj | hj
     ·have:=g3 j J;rw[<-this,zua hj,ztg];obtain⟨ab,ao,asp⟩:=a;simp only at h3;subst h3;rw[ut,ut,je h4];simp only[he1];rw[zt5]
     ·rw[zr6 (by rw[mh];omega),zr6 (by rw[hln k J];exact hj)]
   exact key len (nu _)
def s0:List (Nat×(List Value->Prop))->List Value->Prop
 | [],vs=>vs=[]
 | (n,Φ)::r,vs=>∃ a b,vs=a++b/\a.length=n/\Φ a/\s0 r b
inductive F8 (enc:TypeId×Value->H) (P:Program) (W:World) (held:Bool):List Field->Nat->List (Nat×(List Value->Prop))->Prop
 | nil {off:Nat}:F8 enc P W held [] off []
 | cons {f:Field} {fs:List Field} {off n:Nat} {Φ:List Value->Prop} {r:List (Nat×(List Value->Prop))} (ho:f.offset=off) (hr:Ar enc P W held f.type n Φ) (h:F8 enc P W held fs (off+n) r):F8 enc P W held (f::fs) off ((n,Φ)::r)
def zmm:List (Nat×(List Value->Prop))->Nat
 | []=>0
 | p::r=>p.1+zmm r
def bj{t:TypeId}{fs:Array Field}{ps:List (Nat×(List Value->Prop))}(hu:P.underlying t=some (.struct fs))(h:F8 enc P W held fs.toList 0 ps)(hc:P.cellsOf t=zmm ps):Ar enc P W held t (zmm ps) (s0 ps):=by
 refine⟨hc,fun fuel cs x hf hw=>?_⟩;obtain⟨xs,n,rfl,rfl,hl,hxl,hx⟩:=DataW.trod_struct hu hf
 have hwe:DataW.weights P t (DataW.agg (H:=H) (xs.map (·.1)))=DataW.weightsEach P (fs.toList.map (·.type)) (xs.map (·.1)):=by
  rw[DataW.weights,hu]
 simp only at hw;rw[hwe] at hw;refine⟨by rw[hl,hc],?_⟩
 have gen:∀ (fl:List Field) (i off:Nat) (ps:List (Nat×(List Value->Prop))),(∀ (j:Nat) f,fl[j]?=some f->fs[i+j]?=some f)->F8 enc P W held fl off ps->off+zmm ps=cs.length->s0 ps (cs.drop off):=by
  intro fl
  induction fl with
  | nil=>intro i off ps _ h ho;cases h;simp only[zmm] at ho;simp only[s0];rw[zrx J]
  | cons f fl ihf=>
   intro i off ps hm h ho
   cases h with
   | @cons _ _ _ n' Φ r h1 h2 h3=>
   simp only[zmm] at ho;have g0:=hm 0 f rfl;rw[zug] at g0;have g1:=hx i f g0
   have hi:i<xs.length:=by
    rw[hxl];rcases m5 i fs.size with h | h
    ·exact h
    ·rw[ztn h] at g0;cases g0
   rw[zrz hi,h1,h2.1] at g1;have hwi:(xs[i].1.weights P f.type).all (·<=reachBytes)=true:=wt_at hw i (by rw[zr8,zt5,g0];rfl) (by rw[zr8,zrz hi];rfl);obtain⟨g2,g3⟩:=h2.2 _ _ _ g1 hwi;refine⟨(cs.drop off).take n',cs.drop (off+n'),?_,g2,g3,ihf (i+1) (off+n') r (fun j f' hj=>?_) h3 J⟩
   ·rw[<-ztb,zry]
   ·have:=hm (j+1) f' (by simpa using hj);rw[<-this];congr 1;omega
 have g:=gen fs.toList 0 0 ps (fun j f hj=>by rw[zrw,<-zt5];exact hj) h (by rw[hl,hc];omega);simpa using g
def open_agD{t:TypeId}{b0:Nat}{dd:DataW H}{ps:List MemPlace}(h:Ar enc P W held t n Φ)(ha:(match P.underlying t with | some (.struct _) | some (.array _ _)=>true | _=>false)=true)
  (hval:Value.okWide P W .any b0 t v) (hd:DataW.Trod enc P W 0 (fun _=>true) held t v dd ps) (hw:(dd.weights P t).all (·<=reachBytes)=true):∃ cs:List Value,v=.agg cs.toArray/\Φ cs:=by
 obtain⟨fuel,hf⟩:=hd
 have key:∃ cs,v=.agg cs:=by
  unfold Value.okWide at hval;split at hval
  ·obtain⟨cs,h1,_⟩:=hval;exact⟨cs,h1⟩
  ·obtain⟨cs,h1,_⟩:=hval;exact⟨cs,h1⟩
  ·rename_i h1 h2;exfalso;split at ha
   ·rename_i x hx;exact h1 _ hx
   ·rename_i x y hx;exact h2 _ _ hx
   ·cases ha
 obtain⟨cs,rfl⟩:=key;exact⟨cs.toList,by simp,(h.2 _ _ _ hf hw).2⟩
end
end Go.V
namespace Go.V.L10
open Go.ChangeShapes Go.WideShapes Go.ChangeAt Go.ChangeMaps Go.V Go.V.L2 Go.V.L6
abbrev C3L:List Au:=[.i .u8,.i .u8,.i .u8]
abbrev C3P(H:Heap):List Value->Prop:=fun vs=>∃ v,vs=[v]/\SlD ty3 3 (zwf.bytesOf ty3) (LeafsOK C3L) H v
abbrev DdP(H:Heap):List (Nat×(List Value->Prop)):=[(1,C3P H)]
abbrev MmP(H:Heap):List (Nat×(List Value->Prop)):=[(1,s0 (DdP H))]
abbrev OoP(H:Heap):List (Nat×(List Value->Prop)):=[(1,LeafsOK [.i .u8]),(1,s0 (MmP H)),(1,s0 (DdP H)),(1,LeafsOK [.i .u8]),(1,LeafsOK [.i .i64])]
abbrev OsP(H:Heap):List Value->Prop:=fun vs=>∃ v,vs=[v]/\SlD zmi 5 (zwf.bytesOf zmi) (s0 (OoP H)) H v
abbrev WwP(H:Heap):List (Nat×(List Value->Prop)):=[(1,OsP H)]
section
variable  {enc:TypeId×Value->H}  
def za6:Ar enc zwf W held 25 1 (C3P (hp W)):=El Tryz.underlying25 T (Bf (ls:=C3L) T T) E
def Tg:Ar enc zwf W held 27 1 (s0 (DdP (hp W))):=bj Tryz.underlying27 (.cons rfl za6 .nil) T
def zfy:Ar enc zwf W held 217 1 (s0 (MmP (hp W))):=bj Tryz.underlying217 (.cons rfl Tg .nil) T
def Tf:Ar enc zwf W held 5 1 (LeafsOK [.i .u8]):=Bf (ls:=[.i .u8]) T T
def za5:Ar enc zwf W held 3 1 (LeafsOK [.i .i64]):=Bf (ls:=[.i .i64]) T T
def zfx:Ar enc zwf W held zmi 5 (s0 (OoP (hp W))):=bj Tryz.underlying219 (.cons rfl Tf (.cons rfl zfy (.cons rfl Tg (.cons rfl Tf (.cons rfl za5 .nil))))) T
def zfw:Ar enc zwf W held 117 1 (OsP (hp W)):=El Tryz.underlying117 T zfx E
def reads_ww:Ar enc zwf W held 119 1 (s0 (WwP (hp W))):=bj Tryz.underlying119 (.cons rfl zfw .nil) T
end
def L5{a:List Value}(h:LeafsOK [.i k] a):∃ z,a=[.int k z]/\(Lit.int k z).wf=true:=by
 obtain⟨z,r,rfl,h1,h2⟩:=Pa h;obtain rfl:=T6 h2;exact⟨z,rfl,h1⟩
def Ru{α:Type}{f:α->List Value}{Φ:List Value->Prop}{Ψ:α->Prop}(hf:∀ c,Φ c->∃ x,c=f x/\Ψ x):∀ (cs:List (List Value)),(∀ c∈cs,Φ c)->∃ l:List α,cs.flatten=l.flatMap f/\l.length=cs.length/\∀ x∈l,Ψ x
 | [],_=>⟨[],rfl,rfl,fun x h=>by cases h⟩
 | c::cs,h=>by
  obtain⟨x,rfl,hx⟩:=hf c (h c (mc ..));obtain⟨l,h1,h2,h3⟩:=Ru hf cs fun d hd=>h d (mf _ hd)
  exact⟨x::l,by rw[List.flatten_cons,zsi,h1],by rw[ma,ma,h2],fun y hy=>by
   rcases nz.1 hy with rfl | hy
   ·exact hx
   ·exact h3 y hy⟩
def Nc{z:Int}(h:(Lit.int .u8 z).wf=true):∃ n:Nat,z=(n:Int)/\n<=255:=by
 have:=Go.bounds_u8 h;exact⟨z.toNat,by omega,by omega⟩
def zqg{a:List Value}(h:LeafsOK C3L a):∃ x:C3,a=qcs x/\x.1<=255/\x.2.1<=255/\x.2.2<=255:=by
 obtain⟨z1,r,rfl,h1,h⟩:=Pa h;obtain⟨z2,r,rfl,h2,h⟩:=Pa h;obtain⟨z3,r,rfl,h3,h⟩:=Pa h;obtain rfl:=T6 h;obtain⟨n1,rfl,b1⟩:=Nc h1;obtain⟨n2,rfl,b2⟩:=Nc h2;obtain⟨n3,rfl,b3⟩:=Nc h3;exact⟨(n1,n2,n3),rfl,b1,b2,b3⟩
def zja{H:Heap}(h:SlD ty3 3 (zwf.bytesOf ty3) (LeafsOK C3L) H v):∃ l:List C3,PS3 l false v H/\l.length<=9223372036854775807/\∀ c∈l,c.1<=255/\c.2.1<=255/\c.2.2<=255:=by
 obtain⟨cs,h1,h2,h3,h4⟩:=h;obtain⟨l,g1,g2,g3⟩:=Ru (f:=qcs) (Ψ:=fun x:C3=>x.1<=255/\x.2.1<=255/\x.2.2<=255) (fun c hc=>zqg hc) cs fun c hc=>(h1 c hc).2;rw[g1,<-g2] at h4;exact⟨l,h4,by rw[g2];exact h2,g3⟩
def zpz{H:Heap}{c:List Value}(h:s0 (OoP H) c):∃ z:ZO,c=ooc z/\OOK z.1/\PS3 z.1.ms false z.2.1 H/\PS3 z.1.cs false z.2.2 H:=by
 obtain⟨a1,b,rfl, -,h1,h⟩:=h;obtain⟨a2,b,rfl, -,⟨_,_,rfl, -,⟨_,_,rfl, -,⟨mv,rfl,hm⟩,rfl⟩,rfl⟩,h⟩:=h;obtain⟨a3,b,rfl, -,⟨_,_,rfl, -,⟨cv,rfl,hc⟩,rfl⟩,h⟩:=h;obtain⟨a4,b,rfl, -,h4,h⟩:=h;obtain⟨a5,b,rfl, -,h5,rfl⟩:=h;obtain⟨z1,rfl,w1⟩:=L5 h1;obtain⟨z4,rfl,w4⟩:=L5 h4;obtain⟨z5,rfl,w5⟩:=L5 h5;obtain⟨n1,rfl,b1⟩:=Nc w1;obtain⟨n4,rfl,b4⟩:=Nc w4;obtain⟨ms,g1,g2,g3⟩:=zja hm;obtain⟨cs,k1,k2,k3⟩:=zja hc;exact⟨(⟨n1,ms,cs,n4,z5⟩,mv,cv),rfl,⟨b1,b4,g3,k3,g2,k2⟩,g1,k1⟩
def zpi{H:Heap}{c:List Value}(h:s0 (WwP H) c):∃ (xv:Value) (zs:List ZO),c=[xv]/\WsV zs xv H/\OzOK zs H:=by
 obtain⟨a1,b,rfl, -,⟨v,rfl,cs,g1,g2,g3,g4⟩,rfl⟩:=h;obtain⟨zs,e1,e2,e3⟩:=Ru (f:=ooc) (Ψ:=fun z:ZO=>OOK z.1/\PS3 z.1.ms false z.2.1 H/\PS3 z.1.cs false z.2.2 H) (fun c hc=>zpz hc) cs fun c hc=>(g1 c hc).2;rw[e1,<-e2] at g4;exact⟨v,zs,rfl,g4,e3⟩
end Go.V.L10
namespace Go.V.L11
open Go.ChangeShapes Go.V.L2 Go.V.L3 Go.V.L4 Go.V.L6 Go.V.L8 Go.V.Bd Go.V.L10
def zdd(hj:JJ n S)(hn:n<=100):StoL S:=by
 have hR:=hj.hR;have hP:=hj.hP;have hI:=hj.I hn;have hm:=jk.2 hj.last;refine⟨⟨hj.ne,by omega,List.length_pos_of_mem hm,hI.kl,mq (Ep (nu _)) J,by omega,fun r t ht=>⟨hI.tl r t ht,(hj.so r t ht).1.sst,S8 (hj.so r t ht).1⟩⟩,hj.last,hj.pin,fun r t ht=>(hj.so r t ht).1,fun r=>mq ztm J⟩
attribute [local irreducible] V N X VO Par XP LV StepOK Has Ret RetL RetO RetT jh RetX RetY Pan o5 Src
abbrev DmP(D:List Nat):Value->Heap->Prop:=TupS [BsV D true,fun v _=>v=.int .i64 0]
def DmP.mono{D:List Nat}:Kn.mono (.sat (DmP D)):=Bg ns
def Xp{bs:List Nat}(h:ldF bs=(y,(0,0)))(hS:loS y=S)(hb:∀ b∈bs,b<=255)(hz:bs.length<=1099511627776)(hB:zwe B w)(hv:BsV bs fu v B):
  RetO zwf 26 [v] w B (F5 (fun b=>.tuple #[po b,.int .i64 0,.int .i64 0]) fun b=>StG b S):=by
 have h1:=Lu hb hz hB hv;rw[h] at h1;subst hS;exact zn3 Z h1
def Rp{bs:List Nat}{a:Int}(h:ldF bs=(y,(a,e)))(he:e≠0)(hb:∀ b∈bs,b<=255)(hz:bs.length<=1099511627776){v:Value}(hB:zwe B w)(hv:BsV bs fu v B):
  Ret zwf 26 [v] w B fun v _=>v=.tuple #[.pointer none,.int .i64 a,.int .i64 e]:=by
 have h1:=Lu hb hz hB hv;rw[h] at h1;exact zcy he h1
def Gb{zs:List ZO}{cut:Nat}(hcut:cut<=65535){xv:Value}(hB:zwe B w)(hM:GlobM B)(hx:WsV zs xv B)(ho:OzOK zs B):
  Ret zwf 8 [.agg #[xv],.int .u16 cut] w B (fun v _=>v=.bool true):=by
 obtain⟨xp,xc,rfl⟩:=ke hx;refine yl Tryz.func8 Z Tryz.ntmps8 (np Z) hB ((Zq∘Zad) ?_);refine z7 (v6 L Z Z (zn Z) Z Z Z (fun u H hH hle _=>zgg hH)) Z (qf (yo (.inr Z) Z) (Zan (h:=?_)));refine Aq 5 900 rfl fun x=>?_;obtain⟨pb,b⟩:=x;have hj:=zlf jj_new (zs:=zs) (mb _);have hpl:=fun {u:World} {H:Heap} {C:Nat->Prop} (hH:zwe H u) (hle:B.Le H) (hr:(BoG pb b newS).P H u C) (hC:ZCB C u H)=>zf1 (zs:=zs) jj_new (mb _) hH (hx.le hle) (fun z hz=>ho.le hle z hz) hr hC;generalize zbg newS zs=S at hj hpl;have hL:=zdd hj J;refine Zn (h:=?_);refine z7 (qg L (vs:=[_]) (qz Z) Z Z Z Z ⟨_,rfl⟩) Z (qf (yj L 900 (BoG pb b S) (.int .i64 1) (r:=BoG pb b newS) Z Z Z Z Z (fun u H C hH hle hr hC=>tp (hpl hH hle hr hC))) (Zb6 (h:=?_)));have hlo:=hL.lo;have hks:=zlc hlo.k;have hR2:loS (kzs (cc S),kpi (cc S))=⟨S.R,kpi (cc S)⟩:=by unfold loS;rw[hL.R]
 have hsm:∀ R':List (Option (List U)),Ed ⟨R',kpi (cc S)⟩ ⟨R',S.P⟩=true:=fun R'=>by unfold Ed;rw[Bool.and_eq_true];exact⟨decide_eq_true rfl,decide_eq_true (V2 hL.count)⟩
 have hI2:=hL.I2;have hplen:=hL.plen;have hend2:=hlo.endL;have hpin2:=hlo.pin;have hD2:=hlo.D;rw[hR2] at hks hD2;rw[hL.R] at hend2 hpin2;have hR:=hj.hR;have hP:=hj.hP;have hne:=hj.ne;obtain⟨hDl,hD0⟩:=hlo.bytes;have hDb:=zlq (ks:=cc S);have hld:=zn5 hlo.k hlo.l0 hlo.l1;have hlc:=fun(j:Nat) (h:j<(Ck (cc S)).length)=>zk8 hlo.k hlo.l0 hlo.l1 h;have hdmp:=fun {u:World} {H:Heap} {C:Nat->Prop} (hH:zwe H u) (hr:(StG b S).P H u C) (hC:ZCB C u H)=>Ug hL.D hH hr hC;have hrd:=fun {kz:List KZ} (hk:kz.map (·.1)=cc S) {v:Value} {u:World} {H:Heap} (hH:zwe H u) (h1:KzOK kz H) (h2:KzV kz v H)=>Q4 hk hlo.k hlo.l1 hH h1 h2;generalize Ck (cc S)=D at hDl hD0 hDb hld hlc hdmp hrd;generalize hQ:kpi (cc S)=Q at hR2 hsm hI2 hplen hend2 hpin2 hD2 hld hks;have hkl0:=hL.D.kl;have hts:∀ r t,kpt S.R r=some t->t.length<=100000:=fun r t ht=>by have:=(hL.D.tl r t ht).1;omega
 have hs1:∀ {b2:Nat} {u:World} {H:Heap} {C:Nat->Prop},zwe H u->(gz (StG b2 ⟨S.R,Q⟩) (StG b S)).P H u C->(ZCB C u H)->RetY zwf 45 [po b2,po b] u H C (gz (StG b2 ⟨S.R,Q⟩) (StG b S)) (fun v _=>v=.bool true):=fun hH hr hC=>by
  have h:=Gw (A:=⟨S.R,Q⟩) (D:=S) hne hne G J G J hts hts hH hr hC
  rwa [hsm S.R] at h
 obtain⟨⟨S',rv,e⟩,hw⟩:∃ x,bg S [] []=x:=⟨_,rfl⟩
 obtain⟨R',rfl,hw2⟩:=U7 (Q:=Q) (show bg ⟨S.R,S.P⟩ [] []=(S',rv,e) from hw);have hj':=zrh hj J (fun _ h=>by cases h) E hw;have hL':=zdd hj' J;have hne':=hj'.ne;have hkl':=hL'.D.kl;have hts':∀ r t,kpt R' r=some t->t.length<=100000:=fun r t ht=>by have:=(hL'.D.tl r t ht).1;omega
 have hs2:∀ {b2:Nat} {u:World} {H:Heap} {C:Nat->Prop},zwe H u->(gz (StG b2 ⟨R',Q⟩) (StG b ⟨R',S.P⟩)).P H u C->(ZCB C u H)->RetY zwf 45 [po b2,po b] u H C (gz (StG b2 ⟨R',Q⟩) (StG b ⟨R',S.P⟩)) (fun v _=>v=.bool true):=fun hH hr hC=>by
  have h:=Gw (A:=⟨R',Q⟩) (D:=⟨R',S.P⟩) hne' hne' (by dsimp only at hkl' |-;omega) (by dsimp only at hkl' |-;omega) G G hts' hts' hH hr hC
  rwa [hsm R'] at h
 obtain⟨k,hk⟩:∃ k,cut%D.length=k:=⟨_,rfl⟩
 have hkl:k<D.length:=by rw[<-hk];exact ztt _ J
 have hrm:(cut:Int).tmod (D.length:Int)=(k:Int):=by rw[<-hk];rfl
 have hc82:IntKind.i64.wrap (cut:Int)=(cut:Int):=xb J J;have hkb:∀ b∈D.take k,b<=255:=fun b hb=>hDb b (zt4 hb);have hkt:(D.take k).length=k:=by rw[mh];omega
 rw[Sb pb b S];refine ug 900 901 rfl (xi (StG b S)) ?_;rw[Mv pb b S];refine vh 900 rfl fun x H0 hs0 hφ=>?_;obtain⟨lv,pv⟩:=x;obtain⟨h1,h2⟩:=hφ;dsimp only at h1 h2 |-;have hmb:Kn.mono (.sat (BsV D true)):=ns;have hmi:Kn.mono (.sat (fun v _=>v=Value.int .i64 0)):=fun _ _ _ h _=>h;refine Zc0 (h:=?_);refine ye (vp L 901 (DmP D) (r:=StG b S) Z Z Z Z Z DmP.mono (fun u H2 C2 hH hle hr2 hC2=>hdmp hH hr2 hC2)) ((Zg∘Zdd∘Zc3∘Zaf∘Ze) ?_);refine wn 900 (BhG pb b S).res Z (Fy h1 h2) (jy 900 901 rfl Z (xi (StG b S)) ?_);refine ZC (h:=?_);refine ye (vp L 900 (KlV (cc S)) (r:=BoG pb b S) Z Z Z Z Z KlV.mono (fun u H2 C2 hH hle hr2 hC2=>Xt hj J hH hr2 hC2)) ((Zaf∘Zan) ?_);refine Cz 8 rfl fun v8 H3 hs3 h8=>?_;obtain⟨kz,hk1,hk2,hk3⟩:=h8;obtain⟨p8,c8,rfl⟩:=ke hk3;refine(Zb7∘Zl∘Zd6∘Zl∘ZaG) ?_;refine z9 (og (bs:=D) (fu:=true) hDb Z Z Z Z Z Z) Z (Zl (h:=?_));refine z9 (xh (φ:=BsV D false) L Z Z (zn Z) Z Z Z ns (fun u H hH hle _=>hrd hk1 hH (hk2.le hle) (hk3.le hle))) Z (z9 (og (bs:=D) (fu:=false) hDb Z Z Z Z Z Z) Z (z9 (Lg Z Z Z Z (ng (fun h=>h Z))) Z ((Zcb∘Zl∘ZaG) ?_)));refine z9 (zb3 L Z Z Z Z) Z ((ZaG∘ZeP∘Zd6∘Za2∘Zbt∘Z0∘Zg) ?_);refine z7 (v6 L Z Z (zn Z) Z Z Z (fun u H hH hle _ v1 h1=>Xp hld hR2 hDb J hH h1)) Z ?_;refine ix 52 902 rfl fun b2=>?_;refine(ZcB∘Zbz) ?_;refine ug 900 901 rfl (xi (StG b S)) ?_;rw[Mv pb b S];refine vh 900 rfl fun x H4 hs4 hφ=>?_;obtain⟨lv2,pv2⟩:=x;dsimp only;have hk2':=hk2.le hs4.le;have hk3':=SlV.le hk3 hs4.le;refine(Zai∘Zar∘Zb∘Zar∘ZaV) ?_;refine z7 (fz Z Z Z Z zp3 Z) Z ((Zf∘Zu∘ZR) ?_);refine wd 902 901 rfl Z (xi (StG b S)) ?_;refine ye (oh L 902 (.bool true) (r:=gz (StG b2 ⟨S.R,Q⟩) (StG b S)) Z Z Z Z Z (fun u H2 C2 hH hle hr2 hC2=>hs1 hH hr2 hC2)) (Qe 902 901 rfl (xi (StG b S)) ?_);refine(Zo∘Zf∘Zu) ?_;refine ye (oh L 902 (.int .i64 1) (r:=StG b2 ⟨S.R,Q⟩) Z Z Z Z Z (fun u H2 C2 hH hle hr2 hC2=>Vu hD2 hpin2 hend2 (hk1.trans hks.symm) hH (hk2'.le hle) (hk3'.le hle) hr2 hC2)) ((Z8∘Zba) ?_);refine ZbL (h:=?_);refine z7 (kw Z Z Z zi1.1 zi1.2 (xb J J)) Z ((Zj∘ZdL∘Ze∘ZQ∘Zg∘Za) ?_);refine z7 (zbo L k Z Z Z Z Z Z Z J) Z (z7 (qd L Z Z (zn Z) Z Z Z (fun u H hH hle _ v1 h1=>Rp (hlc k hkl) E hkb J hH h1)) Z ((ZcB∘Zbz∘ZU∘Za∘Zfc∘Zu∘Zar∘ZaV∘Zar∘Zba) ?_));refine(Zat∘Za) ?_;refine qf (yj L 902 (StG b2 ⟨R',Q⟩) (.tuple #[.int .u64 rv,.int .i64 e]) (r:=StG b2 ⟨S.R,Q⟩) Z Z Z Z Z (fun u H C hH hle hr hC=>tp (A6 (l:=[]) (cs:=[]) (fl:=true) (fc:=true) hI2 G hne (fun _ h=>by cases h) (fun _ h=>by cases h) E E hw2 hH SlV.nil SlV.nil hr hC))) ?_;refine(Zb0∘Zal∘Za∘ZR) ?_;refine qf (yj L 901 (StG b ⟨R',S.P⟩) (.tuple #[.int .u64 rv,.int .i64 e]) (r:=StG b S) Z Z Z Z Z (fun u H C hH hle hr hC=>tp (A6 (l:=[]) (cs:=[]) (fl:=true) (fc:=true) (hj.I J) J hne (fun _ h=>by cases h) (fun _ h=>by cases h) E E hw hH SlV.nil SlV.nil hr hC))) ?_;refine Zb0 (h:=?_);refine(Zbm∘Zb∘Zx∘Zu∘Zx∘Zf∘Zu∘ZR) ?_;refine wd 902 901 rfl Z (xi (StG b ⟨R',S.P⟩)) ?_;refine ye (oh L 902 (.bool true) (r:=gz (StG b2 ⟨R',Q⟩) (StG b ⟨R',S.P⟩)) Z Z Z Z Z (fun u H2 C2 hH hle hr2 hC2=>hs2 hH hr2 hC2)) ((Zf∘Za) ?_);refine z71 L Z (fun u H hH hle=>O5 hH (hM.mono (hs0.le.trans (hs3.le.trans (hs4.le.trans hle))))) ?_;refine(Zf∘Zc) ?_;refine yk L (rs:=[.tmp 4]) Z (fun _ _ h=>h) (hs0.trans (hs3.trans hs4)) fun u H hH hle=>?_;rfl
def wiresStore_in{cs:List Value}(l0:s0 (WwP (hp W)) cs){p:Int}(zp:Lit.wf (.int .u16 p)=true)(hM:GlobM (hp W)):
  Ret zwf 8 [.agg cs.toArray,.int .u16 p] W (hp W) (fun v _=>v=.bool true):=by
 obtain⟨xv,zs,rfl,hx,ho⟩:=zpi l0
 obtain⟨q,rfl,hq⟩:∃ q:Nat,p=(q:Int)/\q<=65535:=by
  have hb:IntKind.u16.min<=p/\p<=IntKind.u16.max:=by simpa [Lit.wf] using zp
  have hmin:IntKind.u16.min=0:=E;have hmax:IntKind.u16.max=65535:=E;rw[hmin,hmax] at hb;exact⟨p.toNat,by omega,by omega⟩
 exact Gb hq (mw _) hM hx ho
end Go.V.L11
end
set_option maxRecDepth 20000
namespace Go.Proofs.YtefilnnomholbaaGreat.wiresStore
open Go.ChangeShapes Go.WideShapes Go.ChangeAt Go.ChangeMaps Go.RowKit Go.V Go.V.L11 Go.V.L10
theorem own : ownKnob Tryz.prog.godebug = none := by kernel_rfl
theorem laidOut : laidOutB Tryz.prog = true := by kernel_rfl
theorem la0 : (match Tryz.prog.underlying 119 with | some (.struct _) | some (.array _ _) => true | _ => false) = true := by kernel_rfl
theorem lr1 : Tryz.prog.readableRec 119 = true := by kernel_rfl
theorem lt1 : 119 < Tryz.prog.types.size := of_decide_eq_true (by kernel_rfl)
theorem lf2 : leafI Tryz.prog 20 83 = some [.i .u16] := by kernel_rfl
theorem lo2 : Tryz.prog.underlying 83 = some (.int .u16) := by kernel_rfl
theorem lr3 : Tryz.prog.readableRec 83 = true := by kernel_rfl
theorem lt3 : 83 < Tryz.prog.types.size := of_decide_eq_true (by kernel_rfl)
set_option maxRecDepth 100000 in
theorem lifted (os : Os) (started : os.Started) (H : Type) (enc : TypeId × Value → H) :
    ReturnsInHanded {} Tryz.checked os 8 .any (Rows.wiresStoreSpec.pre6 enc Tryz.prog Tryz.f8 Rows.wiresStoreRow.domain false) (Rows.wiresStoreSpec.post enc Tryz.prog Tryz.f8 false true false false) := by
  refine returnsInHanded_of_change_shaped (C := Tryz.checked) own started (by kernel_rfl) Tryz.func8
    (ChangeSpec.witness6 (enc := enc) (C := Tryz.checked) false ⟨#[], #[.agg #[.slice none 0 0], .int .u16 0], []⟩ 8 (by kernel_rfl) (by kernel_rfl) (by kernel_rfl) (by kernel_rfl)) ?_
  intro W base args ds gs before hval0 hW hcnd hsz hsh _
  have hval : ∀ (j : Nat) t v, Tryz.f8.params[j]? = some t → args[j]? = some v → Value.okWide Tryz.prog W .any base t v := hval0
  have hW' := hW
  obtain ⟨p, q, hA0, hV, rfl, hfz, hnd⟩ := hW
  have hA : DataW.TrodAll enc Tryz.prog W 0 (fun _ => true) true Tryz.f8.params.toList args.toList ds p := hA0
  rw [Tryz.params8] at hA hval hsz
  obtain ⟨v0, v1, d0, d1, p0, p1, rfl, rfl, rfl, h0, h1⟩ := trodAll_two hA
  obtain ⟨rfl, rfl⟩ := trodVars_none hV
  clear hA0 hval0
  obtain ⟨c0, rfl, l0⟩ := open_agD reads_ww la0 (hval 0 119 v0 rfl rfl) h0 (wt_at hsz 0 rfl rfl)
  obtain ⟨a, rfl, za, rfl⟩ := open_one lf2 lo2 (hval 1 83 v1 rfl rfl) h1
  obtain ⟨m0, hm0⟩ := Tryz.laysM145.s1_3 W hsh
  have hglob := GlobM.of_cell hm0
  have hplc := hW'.lt
  simp only [List.append_nil] at hW'
  have hlaw := Go.V.L11.wiresStore_in l0 za hglob
  unfold Ret at hlaw
  refine hlaw.mono fun e W' hp => ?_
  obtain ⟨v, rfl, H', g, rfl⟩ := hp
  refine ⟨_, rfl, _, _, _, [], p0 ++ ([] ++ ([])), [], hW', trodAll_cons_mk (shut_bool Tryz.underlying4 _) trodAll_mk0, ?_, rfl, g.below.frame _, fun h => by cases h⟩
  exact trodAll_cons_mk (Below.trod laidOut lr1 lt1 h0 g.below (fun x hx => hplc x (by simp [hx]))) (trodAll_cons_mk (Below.trod laidOut lr3 lt3 h1 g.below (fun x hx => by cases hx)) trodAll_mk0)
theorem j1 : (Rows.wiresStoreRow.inPlace == Tryz.prog.inPlace 8) = true := by kernel_rfl
theorem j2 : (Rows.wiresStoreRow.unfollowed == Tryz.prog.unfollowed 8) = true := by kernel_rfl
theorem j3 : (Rows.wiresStoreRow.recurses == Tryz.prog.recurses 8) = true := by kernel_rfl
theorem j4 : (Rows.wiresStoreRow.named == Tryz.prog.varsNamed 8) = true := by kernel_rfl
theorem j5 : Tryz.prog.stopsHeard = true := by kernel_rfl
theorem j6 : laidOutB Tryz.prog = true := by kernel_rfl
theorem joined : joinedFacts Tryz.prog 8 Tryz.f8 Rows.wiresStoreSpec Rows.wiresStoreRow = true := by
  unfold joinedFacts
  rw [j1, j2, j3, j4, j5, j6]
  kernel_rfl
theorem proved : Rows.WiresStoreSaid :=
  OpenClaim.holds_of_wide 8 Tryz.f8 rfl rfl rfl rfl rfl rfl rfl ⟨rfl, rfl, rfl, rfl, rfl⟩ rfl rfl rfl rfl rfl (by kernel_rfl) Tryz.func8 joined
    (of_decide_eq_true (by kernel_rfl)) (by unfold Func.isWrapper; first | (rw [if_pos (by decide +kernel)]; kernel_rfl) | (rw [if_neg (by decide +kernel)]; exact ⟨rfl, rfl⟩))
    (fun os started H enc _ => lifted os started H enc)
#print axioms proved
end Go.Proofs.YtefilnnomholbaaGreat.wiresStore
