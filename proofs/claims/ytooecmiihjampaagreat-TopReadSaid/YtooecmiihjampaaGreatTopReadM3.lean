/- Texts, part 3. -/
import Derived.Test.YtooecmiihjampaaGreatTopReadM2
import Derived.Laws.IdiomRangeMap
import Derived.Lib.Builder
import Derived.Lib.UnsafeStr
set_option linter.unusedVariables false
set_option linter.unusedSimpArgs false
set_option maxRecDepth 20000
set_option maxHeartbeats 8000000
set_option linter.defProp false
open Go.Proofs Go.RowKit
section
variable{bs:List Nat}{b cf ck d f i j lim m n off q rb:Nat}{P:Go.Program}{F:Go.V.Fr}{B H:Go.V.Heap}{ops:Array Go.Oper}{O:Go.V.Boxes}{κ:Go.V.Kap}{o:Go.Oper}{fv root sv v:Go.Value}{e et kt t t' ty:Go.TypeId}{s str:ByteArray}{args cap cs fst xs z:List Go.Value}{fu:Bool}{R:Go.V.L4.Rd}{a:Go.Act}{u w:Go.World}{C:Nat->Prop}{stop:Go.V.wm->Bool}{x y:Go.Operand}{pre:Go.V.wm}{pos:String}{aft:Array Go.Edge}{g:Option (Nat×Bool)}{zs3:Go.Exit->Go.Act->Go.World->Prop}{p:Option Go.Addr}{at_:Array Go.TypeId}{vs:List (Nat×Go.Value)}{φ ψ:Go.Value->Go.V.Heap->Prop}{kd:Go.IntKind}{os:List Go.Oper}{α:Type}{fp:Nat->Nat->Prop}{parts:Array (Nat×Go.Operand)}{places:List (Nat×Nat)}{l:List Go.V.L2.U}{fr:Nat×Nat}{A Y:Prop}
section
open Go.V
attribute [local irreducible] Has N Par Ret RetL RetO RetT RetX RetY Src StepOK V VO X kz
namespace Go.V.L4
def _root_.Zai(t:Wr Y->A:=by intro h;refine z7 (zn L Z Z Z Z) Z ?_;exact h.1)(h:Y):A:=t ⟨h⟩
def _root_.Zdc(t:Wr Y->A:=by intro h;refine z8 (zn L Z Z Z Z) Z ?_;exact h.1)(h:Y):A:=t ⟨h⟩
def _root_.Zfj(t:Wr Y->A:=by intro h;refine z7 (ya Z Z Z) Z ?_;exact h.1)(h:Y):A:=t ⟨h⟩
def _root_.ZC(t:Wr Y->A:=by intro h;refine z7 (yc Z Z Z Z M) Z ?_;exact h.1)(h:Y):A:=t ⟨h⟩
def _root_.ZcP(t:Wr Y->A:=by intro h;refine z8 (ya Z Z Z) Z ?_;exact h.1)(h:Y):A:=t ⟨h⟩
def _root_.ZfF(t:Wr Y->A:=by intro h;refine ye (qh L (q:=900) Z Z Z Z) ?_;exact h.1)(h:Y):A:=t ⟨h⟩
def _root_.Ze4(t:Wr Y->A:=by intro h;refine z7 (V6 Z Z Z Z M) Z ?_;exact h.1)(h:Y):A:=t ⟨h⟩
def _root_.Ze5(t:Wr Y->A:=by intro h;refine z7 (Vv Z Z Z Z (xb T T)) Z ?_;exact h.1)(h:Y):A:=t ⟨h⟩
def _root_.Zd7(t:Wr Y->A:=by intro h;refine qv (qh L (q:=900) Z Z Z Z) Z Z ?_;exact h.1)(h:Y):A:=t ⟨h⟩
def _root_.ZaD(t:Wr Y->A:=by intro h;refine ze (id:=14) ?_;exact h.1)(h:Y):A:=t ⟨h⟩
def _root_.Zaa(t:Wr Y->A:=by intro h;refine ze (id:=15) ?_;exact h.1)(h:Y):A:=t ⟨h⟩
def _root_.Zae(t:Wr Y->A:=by intro h;refine ze (id:=13) ?_;exact h.1)(h:Y):A:=t ⟨h⟩
def _root_.ZcI(t:Wr Y->A:=by intro h;refine z8 (yi Z Z Z Z (ng T)) Z ?_;exact h.1)(h:Y):A:=t ⟨h⟩
def _root_.Zaj(t:Wr Y->A:=by intro h;refine ze (id:=16) ?_;exact h.1)(h:Y):A:=t ⟨h⟩
def _root_.Zco(t:Wr Y->A:=by intro h;refine z7 (Vz L Z Z Z Z) Z ?_;exact h.1)(h:Y):A:=t ⟨h⟩
def _root_.Zdv(t:Wr Y->A:=by intro h;refine z8 (yi Z Z Z Z (nf T)) Z ?_;exact h.1)(h:Y):A:=t ⟨h⟩
def _root_.Zep(t:Wr Y->A:=by intro h;refine qn (id:=5) [(200012,[900]),(200016,[900])] ko J ?_;exact h.1)(h:Y):A:=t ⟨h⟩
def _root_.ZdK(t:Wr Y->A:=by intro h;refine z8 (Ld L Z Z Z Z Z) Z ?_;exact h.1)(h:Y):A:=t ⟨h⟩
def _root_.Ze6(t:Wr Y->A:=by intro h;refine qn (id:=8) [(200029,[900]),(200033,[900])] ko J ?_;exact h.1)(h:Y):A:=t ⟨h⟩
def _root_.ZdL(t:Wr Y->A:=by intro h;refine z8 (Vz L Z Z Z Z) Z ?_;exact h.1)(h:Y):A:=t ⟨h⟩
def _root_.ZeP(t:Wr Y->A:=by intro h;refine z7 (P4 Z Z Z Z T M) Z ?_;exact h.1)(h:Y):A:=t ⟨h⟩
def _root_.ZeD(t:Wr Y->A:=by intro h;refine z7 (zmu Z Z Z Z M) Z ?_;exact h.1)(h:Y):A:=t ⟨h⟩
def _root_.Zfk(t:Wr Y->A:=by intro h;refine z7 (u9 Z Z Z Z zoj Z) Z ?_;exact h.1)(h:Y):A:=t ⟨h⟩
def _root_.Zeb(t:Wr Y->A:=by intro h;refine zig Z ?_;exact h.1)(h:Y):A:=t ⟨h⟩
def _root_.Zap(t:Wr Y->A:=by exact fun h=>(Zfj∘Zai) h.1)(h:Y):A:=t ⟨h⟩
def _root_.Zca(t:Wr Y->A:=by exact fun h=>(ZcP∘Zdc) h.1)(h:Y):A:=t ⟨h⟩
def _root_.ZW(t:Wr Y->A:=by exact fun h=>(Zap∘ZfF) h.1)(h:Y):A:=t ⟨h⟩
def _root_.ZaN(t:Wr Y->A:=by exact fun h=>(Zl∘Zca) h.1)(h:Y):A:=t ⟨h⟩
def _root_.ZaV(t:Wr Y->A:=by exact fun h=>(ZdY∘Zbh) h.1)(h:Y):A:=t ⟨h⟩
def _root_.Zaq(t:Wr Y->A:=by exact fun h=>(Z2∘Za) h.1)(h:Y):A:=t ⟨h⟩
def _root_.Zd8(t:Wr Y->A:=by exact fun h=>(Ze∘ZO) h.1)(h:Y):A:=t ⟨h⟩
def _root_.Zbc(t:Wr Y->A:=by exact fun h=>(ZaK∘ZaV) h.1)(h:Y):A:=t ⟨h⟩
def _root_.Zbo(t:Wr Y->A:=by exact fun h=>(ZaN∘Zd7) h.1)(h:Y):A:=t ⟨h⟩
def _root_.Zbv(t:Wr Y->A:=by exact fun h=>(Zb∘Zb) h.1)(h:Y):A:=t ⟨h⟩
def _root_.Zb5(t:Wr Y->A:=by exact fun h=>(Zb∘ZW) h.1)(h:Y):A:=t ⟨h⟩
def _root_.ZbL(t:Wr Y->A:=by exact fun h=>(ZaD∘Za) h.1)(h:Y):A:=t ⟨h⟩
abbrev u7:TypeId:=120
abbrev kq(b:Nat):Value:=.pointer (some ⟨b,0,none⟩)
abbrev zaw:TypeId:=5
abbrev BsV(bs:List Nat)(fu:Bool):Value->Heap->Prop:=SlV zaw 1 (bs.map fun b:Nat=>Value.int .u8 (b:Int)) bs.length fu
abbrev rdC(sv:Value)(R:Rd):List Value:=[sv,.int .i64 R.at_,.int .i64 R.bad,.int .i64 R.err]
abbrev GRd(rb:Nat)(sv:Value)(R:Rd):GR:=xc rb (rdC sv R) u7
def zm6{b:Nat}(h:bs[i]?=some b):((bs.map fun b:Nat=>Value.int .u8 (b:Int)).drop (i*1)).take 1=[.int .u8 (b:Int)]:=by
 rw[zqa,zpu (by rw[m4];exact get_lt h),zqr,zpt,List.getElem_map];congr 2;rw[p9 h]
def _root_.Go.V.StepOKR.seeV{s:Nat}(h:StepOKR P F B n ops O κ o q d (.is v))(hv:SlV e s xs m fu v B):StepOKR P F B n ops O κ o q d (.sat (SlV e s xs m fu)):=fun κ' a u hl hq hh=>
 After.mono (fun a' u' hh'=>by
  have h2:=hh'.seen (t:=d) (SlV e s xs m fu) (xr _ _ _) ns hv
  rwa [wg] at h2) (h κ' a u hl hq hh)
def oa{a:Nat}{e:Int}(hB:zs4 B w)(hr:(GRd rb sv R).P B w C)(hC:ZCB C w B):
  kz zs5 116 [kq rb,.int .i64 a,.int .i64 e] w B C (GRd rb sv (R.fail a e)):=by
 unfold kz;refine xf 900 (GRd rb sv R) Tryz.func116 Z Tryz.ntmps116 (np Z) hB hr hC ?_;rw[xd];obtain⟨at_,bad,err⟩:=R;by_cases h0:err=0
 ·subst h0;refine(ZQ∘Za∘ZW) ?_;refine z7 (yi Z Z Z Z Z) Z ((Z3∘Zan∘Zbv∘Zap) ?_);refine xo (yl L (q:=900) (cs':=[sv,.int .i64 at_,.int .i64 a,.int .i64 0]) Z Z Z Z Z) (Zap (h:=?_));refine xo (yl L (q:=900) (cs':=[sv,.int .i64 at_,.int .i64 a,.int .i64 e]) Z Z Z Z Z) (Zab (h:=?_));exact xw L 900 (r:=xc rb _ u7) Z (fun _ _ h=>h) nq Z Z
 ·have hf:(⟨at_,bad,err⟩:Rd).fail a e=⟨at_,bad,err⟩:=nc h0;refine(ZQ∘Za∘ZW∘ZT∘Zac) ?_;exact xw L 900 (r:=xc rb _ u7) Z (fun _ _ h=>h) nq Z (by rw[hf])
def ki{f:Bool}(hf:decide (R.err≠0)=f)(hB:zs4 B w)(hr:(GRd rb sv R).P B w C)(hC:ZCB C w B):
  RetX zs5 65 [kq rb] w B C (GRd rb sv R) (.bool f):=by
 subst hf;unfold RetX;refine xf 900 (GRd rb sv R) Tryz.func65 Z Tryz.ntmps65 (np Z) hB hr hC ?_;rw[xd];obtain⟨at_,bad,err⟩:=R;refine(Zc2∘Zfk∘Zb5) ?_;refine z7 (yx Z Z Z Z Z) Z ((Zi∘Zc) ?_);exact ke L 900 (r:=xc rb _ u7) (rs:=[.tmp 2]) Z (fun _ _ h=>h) nq Z Z (fun _=>rfl)
def Es{bs:List Nat}(hb:∀ b∈bs,b<=255)(hl:bs.length<=1099511627776)(hat:R.at_<=bs.length)(hB:zs4 B w)(hs:BsV bs fu sv B)(hr:(GRd rb sv R).P B w C)(hC:ZCB C w B):
  RetX zs5 115 [kq rb] w B C (GRd rb sv (Lk bs R).2) (.int .u64 ((Lk bs R).1:Nat)):=by
 obtain⟨p,c,rfl⟩:=jk hs;unfold RetX;refine xf 900 (GRd rb _ R) Tryz.func115 Z Tryz.ntmps115 (np Z) hB hr hC ?_;rw[xd];obtain⟨z,hz⟩:∃ z,Lk bs R=z:=⟨_,rfl⟩
 rw[hz];refine(ZK∘Zk∘Zz∘Zd3) ?_;refine xp (fun x:Nat×Nat×Rd=>[(0,.is (kq rb)),(3,.is (.int .u64 x.2.1)),(6,.is (.int .i64 x.1)),(900,.own (xu rb (rdC (.slice p bs.length c) x.2.2) u7))]) (fun x=>x.1<=10/\x.2.1<128^x.1/\x.2.2.at_<=bs.length/\T2 bs (10-x.1) x.1 x.2.1 x.2.2=z) (fun x=>10-x.1) (0,0,R) ⟨mb _,by show(0:Nat)<128^0;decide,hat,hz⟩ ⟨Z,Z,Z,Z,nm⟩ ?_;rintro⟨i,acc,⟨at_,bad,err⟩⟩ ⟨hi,hacc,ha,hn⟩;dsimp only[rdC] at hi hacc ha hn |-;by_cases hlt:i<10
 ·obtain⟨f,hf⟩:∃ f,10-i=f+1:=⟨9-i,by omega⟩
  rw[hf] at hn;unfold T2 at hn
  cases hg:bs[at_]? with
  | none=>
   have hal:at_=bs.length:=by have:=List.getElem?_eq_none_iff.1 hg;omega
   subst hal;dsimp only at hn;rw[hg] at hn;subst hn;refine(Zcm∘Z5∘Zk∘Zep∘Zbo∘Zbo∘ZdL∘Zdv∘ZbW∘Zd8∘Zb5∘Zco) ?_;refine qg (xe L 900 (GRd rb (.slice p bs.length c) ((⟨bs.length,bad,err⟩:Rd).fail bs.length 17)) (r:=GRd rb (.slice p bs.length c) ⟨bs.length,bad,err⟩) Z Z Z Z Z (fun u H C2 hH _ hr2 hC2=>oa hH hr2 hC2)) ((Zg∘Zy∘Zc) ?_);exact ke L 900 (r:=xc rb _ u7) (rs:=[.tmp 2]) Z (fun _ _ h=>h) nq Z Z (fun _=>rfl)
  | some b=>
   have hb255:b<=255:=hb b (zo7 hg);have hcr:=zm6 hg;have hlt2:=get_lt hg;dsimp only at hn;rw[hg] at hn;dsimp only at hn;by_cases hbad:i=9/\b≠1\/0<i/\b=0
   ·rw[na hbad] at hn;subst hn;by_cases h9:i=9/\b≠1
    ·obtain⟨h9,h91⟩:=h9;refine(Zcm∘Z5∘Zk∘Zep∘Zbo∘Zbo∘ZdL∘ZcI∘ZaL∘Zao∘Ze6∘ZaN) ?_;refine qv (StepOKR.seeV (qh L (q:=900) Z Z Z Z) hs) Z Z ((Zbo∘Zd5∘ZdK∘Zbc∘Ze∘Zaq∘ZN∘Zb∘Zde∘Zi∘Zau∘Zb2∘Zbe∘Z4∘Zb5) ?_);refine qg (xe L 900 (GRd rb (.slice p bs.length c) ((⟨at_,bad,err⟩:Rd).fail at_ 5)) (r:=GRd rb (.slice p bs.length c) ⟨at_,bad,err⟩) Z Z Z Z Z (fun u H C2 hH _ hr2 hC2=>oa hH hr2 hC2)) ((Zg∘ZG∘Zc) ?_);exact ke L 900 (r:=xc rb _ u7) (rs:=[.tmp 2]) Z (fun _ _ h=>h) nq Z Z (fun _=>rfl)
    ·have h10:0<i/\b=0:=T;obtain⟨h10,h0b⟩:=h10;by_cases h9:i=9
     ·exfalso;omega
     ·refine(Zcm∘Z5∘Zk∘Zep∘Zbo∘Zbo∘ZdL∘ZcI∘ZaL∘Zao∘Ze6∘ZaN) ?_;refine qv (StepOKR.seeV (qh L (q:=900) Z Z Z Z) hs) Z Z ((Zbo∘Zd5∘ZdK∘Zbc∘Ze∘Zaq∘ZT∘ZcL∘ZbI∘ZP∘Zb∘ZN∘Zi∘Zbe∘Z4∘Zb5) ?_);refine qg (xe L 900 (GRd rb (.slice p bs.length c) ((⟨at_,bad,err⟩:Rd).fail at_ 5)) (r:=GRd rb (.slice p bs.length c) ⟨at_,bad,err⟩) Z Z Z Z Z (fun u H C2 hH _ hr2 hC2=>oa hH hr2 hC2)) ((Zg∘ZG∘Zc) ?_);exact ke L 900 (r:=xc rb _ u7) (rs:=[.tmp 2]) Z (fun _ _ h=>h) nq Z Z (fun _=>rfl)
   ·rw[nc hbad] at hn;have hw1:IntKind.i64.wrap ((at_:Int)+1)=((at_+1:Nat):Int):=xb T T;have hand:=zif hb255;have hcv:IntKind.u64.wrap ((b%128:Nat):Int)=((b%128:Nat):Int):=wrap_u64 T T;have hpw:128^i<=128^9:=zsd E T
    have hnx:acc+b%128*128^i<2^64:=by
     by_cases h9:i=9
     ·have hb1:b=1:=T;subst h9;subst hb1;have:(128:Nat)^9=9223372036854775808:=E;omega
     ·have h1:=Ri (b:=b) hacc;have h2:128^(i+1)<=128^9:=zsd E T;have:(128:Nat)^9=9223372036854775808:=E;omega
    have hsh:IntKind.u64.wrap (((b%128:Nat):Int)*2^min (7*(i:Int)).toNat IntKind.u64.bits)=((b%128*128^i:Nat):Int):=by
     have e1:min (7*(i:Int)).toNat IntKind.u64.bits=7*i:=by
      show min (7*(i:Int)).toNat 64=7*i;omega
     rw[e1,show((b%128:Nat):Int)*2^(7*i)=((b%128*128^i:Nat):Int) by rw[Nr];push_cast;rfl];exact wrap_u64 T T
    have hor:bits .or .u64 (acc:Int) ((b%128*128^i:Nat):Int)=((acc+b%128*128^i:Nat):Int):=by
     rw[bits_or_u64_nat _ _ T T];congr 1;have:=zer (a:=acc) (b:=b%128) (i:=7*i) (by rw[<-Nr];exact hacc)
     rwa [<-Nr] at this
    have hwk:IntKind.i64.wrap ((i:Int)+1)=((i+1:Nat):Int):=xb T T;have hnl:=Ri (b:=b) hacc;generalize b%128*128^i=sh at hn hsh hor hnx hnl;by_cases hlast:b<128
    ·rw[na hlast] at hn;subst hn;by_cases h9:i=9
     ·have hb1:b=1:=T;subst hb1;refine(Zcm∘Z5∘Zk∘Zep∘Zbo∘Zbo∘ZdL∘ZcI∘ZaL∘Zao∘Ze6∘ZaN) ?_;refine qv (StepOKR.seeV (qh L (q:=900) Z Z Z Z) hs) Z Z ((Zbo∘Zd5∘ZdK∘Zbc∘Ze∘Zaq∘ZN∘Zb∘Zbf∘ZbI∘ZP∘Zb∘ZT∘Zi∘Zcz∘ZJ∘Za∘ZW∘ZC∘Zap) ?_);refine xo (yl L (q:=900) (cs':=[.slice p bs.length c,.int .i64 (at_+1:Nat),.int .i64 bad,.int .i64 err]) Z Z Z Z Z) ((Zg∘Zae∘Zb∘Ze4) ?_);refine z7 (kr Z Z Z oh.1 oh.2 (wrap_u64 T T)) Z ((Za∘Ze5∘ZeP∘ZeD∘Zd∘ZbL∘ZbB∘Ze9∘Zeb∘Ze1∘Zd2∘Zbh∘Zaj∘Za∘Zc) ?_);exact ke L 900 (r:=xc rb _ u7) (rs:=[.tmp 2]) Z (fun _ _ h=>h) nq Z Z (fun _=>rfl)
     ·by_cases h0:0<i
      ·have hb0:b≠0:=T;refine(Zcm∘Z5∘Zk∘Zep∘Zbo∘Zbo∘ZdL∘ZcI∘ZaL∘Zao∘Ze6∘ZaN) ?_;refine qv (StepOKR.seeV (qh L (q:=900) Z Z Z Z) hs) Z Z ((Zbo∘Zd5∘ZdK∘Zbc∘Ze∘Zaq∘ZT∘ZcL∘ZbI∘ZP∘Zb∘ZT∘Zi∘Zcz∘ZJ∘Za∘ZW∘ZC∘Zap) ?_);refine xo (yl L (q:=900) (cs':=[.slice p bs.length c,.int .i64 (at_+1:Nat),.int .i64 bad,.int .i64 err]) Z Z Z Z Z) ((Zg∘Zae∘Zb∘Ze4) ?_);refine z7 (kr Z Z Z oh.1 oh.2 (wrap_u64 T T)) Z ((Za∘Ze5∘ZeP∘ZeD∘Zd∘ZbL∘ZbB∘Ze9∘Zeb∘Ze1∘Zd2∘Zbh∘Zaj∘Za∘Zc) ?_);exact ke L 900 (r:=xc rb _ u7) (rs:=[.tmp 2]) Z (fun _ _ h=>h) nq Z Z (fun _=>rfl)
      ·refine(Zcm∘Z5∘Zk∘Zep∘Zbo∘Zbo∘ZdL∘ZcI∘ZaL∘Zao∘Ze6∘ZaN) ?_;refine qv (StepOKR.seeV (qh L (q:=900) Z Z Z Z) hs) Z Z ((Zbo∘Zd5∘ZdK∘Zbc∘Ze∘Zaq∘ZT∘ZcL∘ZbI∘ZM∘ZcL∘Zi∘Zcz∘ZJ∘Za∘ZW∘ZC∘Zap) ?_);refine xo (yl L (q:=900) (cs':=[.slice p bs.length c,.int .i64 (at_+1:Nat),.int .i64 bad,.int .i64 err]) Z Z Z Z Z) ((Zg∘Zae∘Zb∘Ze4) ?_);refine z7 (kr Z Z Z oh.1 oh.2 (wrap_u64 T T)) Z ((Za∘Ze5∘ZeP∘ZeD∘Zd∘ZbL∘ZbB∘Ze9∘Zeb∘Ze1∘Zd2∘Zbh∘Zaj∘Za∘Zc) ?_);exact ke L 900 (r:=xc rb _ u7) (rs:=[.tmp 2]) Z (fun _ _ h=>h) nq Z Z (fun _=>rfl)
    ·rw[nc hlast] at hn;have h9:i≠9:=T;have hf9:f=10-(i+1):=T;rw[hf9] at hn;by_cases h0:0<i
     ·have hb0:b≠0:=T;refine(Zcm∘Z5∘Zk∘Zep∘Zbo∘Zbo∘ZdL∘ZcI∘ZaL∘Zao∘Ze6∘ZaN) ?_;refine qv (StepOKR.seeV (qh L (q:=900) Z Z Z Z) hs) Z Z ((Zbo∘Zd5∘ZdK∘Zbc∘Ze∘Zaq∘ZT∘ZcL∘ZbI∘ZP∘Zb∘ZT∘Zi∘Zcz∘ZJ∘Za∘ZW∘ZC∘Zap) ?_);refine xo (yl L (q:=900) (cs':=[.slice p bs.length c,.int .i64 (at_+1:Nat),.int .i64 bad,.int .i64 err]) Z Z Z Z Z) ((Zg∘Zae∘Zb∘Ze4) ?_);refine z7 (kr Z Z Z oh.1 oh.2 (wrap_u64 T T)) Z ((Za∘Ze5∘ZeP∘ZeD∘Zd∘ZbL∘Z0∘Zbl∘Zaa∘ZC∘ZcK) ?_);exact yo (x:=(i,acc,⟨at_,bad,err⟩)) (i+1,acc+sh,⟨at_+1,bad,err⟩) ⟨hlt,hnl,hlt2,hn⟩ G ⟨Z,Z,Z,Z,nm⟩
     ·refine(Zcm∘Z5∘Zk∘Zep∘Zbo∘Zbo∘ZdL∘ZcI∘ZaL∘Zao∘Ze6∘ZaN) ?_;refine qv (StepOKR.seeV (qh L (q:=900) Z Z Z Z) hs) Z Z ((Zbo∘Zd5∘ZdK∘Zbc∘Ze∘Zaq∘ZT∘ZcL∘ZbI∘ZM∘ZcL∘Zi∘Zcz∘ZJ∘Za∘ZW∘ZC∘Zap) ?_);refine xo (yl L (q:=900) (cs':=[.slice p bs.length c,.int .i64 (at_+1:Nat),.int .i64 bad,.int .i64 err]) Z Z Z Z Z) ((Zg∘Zae∘Zb∘Ze4) ?_);refine z7 (kr Z Z Z oh.1 oh.2 (wrap_u64 T T)) Z ((Za∘Ze5∘ZeP∘ZeD∘Zd∘ZbL∘Z0∘Zbl∘Zaa∘ZC∘ZcK) ?_);exact yo (x:=(i,acc,⟨at_,bad,err⟩)) (i+1,acc+sh,⟨at_+1,bad,err⟩) ⟨hlt,hnl,hlt2,hn⟩ G ⟨Z,Z,Z,Z,nm⟩
 ·have hf:10-i=0:=T;rw[hf] at hn;unfold T2 at hn;subst hn;refine(Zdu∘Zak∘Zaj∘Za∘Zc) ?_;exact ke L 900 (r:=xc rb _ u7) (rs:=[.tmp 2]) Z (fun _ _ h=>h) nq Z Z (fun _=>rfl)
end Go.V.L4
namespace Go.V.L11
open Go.V.L2 Go.V.L4
def _root_.Zdm(t:Wr Y->A:=by intro h;refine z8 (yc Z Z Z Z (xb T T)) Z ?_;exact h.1)(h:Y):A:=t ⟨h⟩
def _root_.ZdM(t:Wr Y->A:=by intro h;refine ye (qh L (q:=78) Z Z Z Z) ?_;exact h.1)(h:Y):A:=t ⟨h⟩
def _root_.Zfl(t:Wr Y->A:=by intro h;refine qv (qh L (q:=78) Z Z Z Z) Z Z ?_;exact h.1)(h:Y):A:=t ⟨h⟩
def _root_.Zc3(t:Wr Y->A:=by exact fun h=>(Zds∘Zbr) h.1)(h:Y):A:=t ⟨h⟩
def _root_.ZcQ(t:Wr Y->A:=by exact fun h=>(Zc3∘ZF) h.1)(h:Y):A:=t ⟨h⟩
def _root_.Zcb(t:Wr Y->A:=by exact fun h=>(Z3∘ZcQ) h.1)(h:Y):A:=t ⟨h⟩
def _root_.Zcp(t:Wr Y->A:=by exact fun h=>(Zbz∘Z3) h.1)(h:Y):A:=t ⟨h⟩
abbrev H9:Nat:=9
abbrev uh(l:List ByteArray):wm:=l.map fun x=>[Value.string x]
def zkw{c:UInt8}:∀ {l:List UInt8},c∉l->Lib.indexByte l c= -1
 | [],_=>rfl
 | x::l,h=>by
  rw[ma,not_or] at h;unfold Lib.indexByte;rw[nc (by simpa using Ne.symm h.1),zkw h.2];rfl
def ze6{c:UInt8}{q:List UInt8}:∀ {p:List UInt8},c∉p->Lib.indexByte (p++c::q) c=(p.length:Int)
 | [],_=>by
  show Lib.indexByte (c::q) c=0;unfold Lib.indexByte;rw[na (by simp)]
 | x::p,h=>by
  rw[ma,not_or] at h;show Lib.indexByte (x::(p++c::q)) c=_;unfold Lib.indexByte;rw[nc (by simpa using Ne.symm h.1),ze6 h.2,nc (by simp)];rfl
def se{k:Int}(hk:Lib.indexByte s.data.toList 10=k)(hB:zs4 B w):
  Ret zs5 242 [.string s,.int .u8 10] w B (fun v _=>v=.int .i64 k):=by
 subst hk;exact Ret.of_same hB (Tryz.strings_IndexByte s 10 w)
def Qy{r:ByteArray}{f:Bool}(hs:s.size<=9223372036854775807)(h:Lib.hasSuffix s.data.toList [10]=f)(hr:(⟨(Lib.trimSuffix s.data.toList [10]).toArray⟩:ByteArray)=r)(hB:zs4 B w):
  Ret zs5 131 [.string s,.string ⟨#[10]⟩] w B (fun v _=>v=.tuple #[.string r,.bool f]):=by
 subst h hr;exact Ret.of_same hB (Tryz.strings_CutSuffix s ⟨#[10]⟩ w hs)
def Ec{x:List Value}{xs:wm}(h:stop (pre++[x])=false):ju stop pre (x::xs)=ju stop (pre++[x]) xs:=by
 simp only[ju];rw[nc (by rw[h];decide)]
def Ke{x:List Value}{xs:wm}(h:stop (pre++[x])=true):ju stop pre (x::xs)=pre++[x]:=by
 simp only[ju];rw[na h]
def zb0{r:ByteArray}(h:r≠⟨#[]⟩):0<r.size:=by
 rcases Nat.eq_zero_or_pos r.size with h0 | h0
 ·exfalso;apply h;apply cy;have:=ud r;rw[h0] at this;exact zow this
 ·exact h0
def zbz(hs:s.size<=1099511627776)(hB:zs4 B w):zlr zs5 241 [kq b] (xc b [.string s] H9) w B (uh (a7 s)):=by
 intro ly zsy stop C Cg hst hY hJ hC hg hCg hd;refine xf 77 (gu (zsy []) (xc b [.string s] H9)) Tryz.func241 Z Tryz.ntmps241 (np Z) hB ⟨C,Cg,hJ,hg,fun _=>Iff.rfl,hd⟩ (fun k hk=>hk.elim (hC k) (hCg k)) ?_;rw[w9];refine uj 77 78 rfl (fun _ _ _ _ _ h=>h) ?_;rw[xd];refine Zar (h:=?_)
 refine xp (fun x:List ByteArray×ByteArray=>[(0,.is (.func (.yield ly) #[] #[])),(1,.is (kq b)),(77,.own (zsy (uh x.1)).res),(78,.own (xu b [.string x.2] H9))])
  (fun x=>uh x.1++uh (a7 x.2)=uh (a7 s)/\ju stop [] (uh (a7 s))=ju stop (uh x.1) (uh (a7 x.2))/\stop (uh x.1)=false/\x.2.size<=s.size) (fun x=>x.2.size) ([],s) ⟨rfl,rfl,hst,nu _⟩ ⟨rfl,rfl,rfl,rfl,nm⟩ ?_
 rintro⟨pre,r⟩ ⟨h1,h2,h3,h4⟩;dsimp only at h1 h2 h3 h4 |-;by_cases hr:r=⟨#[]⟩
 ·subst hr;have h0:(⟨#[]⟩:ByteArray).size=0:=rfl;rw[Gt] at h2;refine(Ze∘ZQ∘ZdM∘Zaf∘ZM∘ZaJ∘ZaH) ?_;refine xw (r:=zsy (uh pre)) (r':=zsy (ju stop [] (uh (a7 s)))) L 77 rfl (fun _ _ h=>h) nq Z (by rw[h2];rfl)
 ·have hp0:=zb0 hr;rcases zgb r 10 with hn | ⟨a,c,hac,hn⟩
  ·have e1:=zhi hn hr;rw[e1] at h1 h2;have hi:=zkw hn;have hpre:uh pre++[[Value.string r]]<+:uh (a7 s):=by rw[<-h1];exact List.prefix_rfl
   cases hb':stop (uh pre++[[Value.string r]])
   ·refine(Ze∘ZQ∘ZdM∘Zaf∘ZP∘Zcb∘Zan∘Zk∘Zv∘ZdM) ?_;refine z71 L Z (fun u H hH _=>se hi hH) ?_;refine(Zd∘Zr∘Za6∘ZaJ∘Z1∘ZdM∘Zs) ?_;refine xo (yl L (q:=78) (cs':=[.string ⟨#[]⟩]) Z Z Z Z Z) ((Zg∘ZbF) ?_);refine qg (uy (gs:=77) hY hpre h3 (nh Bool.not hb') Z Z Z Z Z) ((Zm∘Zac∘Zaw) ?_);refine yo (x:=(pre,r)) (pre++[r],⟨#[]⟩) ⟨?_,?_,?_,mb _⟩ hp0 ⟨Z,Z,?_,Z,nm⟩
    ·rw[Gt,<-h1];simp [uh]
    ·rw[h2,Gt];show ju stop (uh pre) [[Value.string r]]=ju stop (uh (pre++[r])) [];rw[Ec hb'];simp [uh]
    ·have:uh (pre++[r])=uh pre++[[Value.string r]]:=by simp [uh]
     rw[this];exact hb'
    ·have:uh (pre++[r])=uh pre++[[Value.string r]]:=by simp [uh]
     dsimp only;rw[this];rfl
   ·refine(Ze∘ZQ∘ZdM∘Zaf∘ZP∘Zcb∘Zan∘Zk∘Zv∘ZdM) ?_;refine z71 L Z (fun u H hH _=>se hi hH) ?_;refine(Zd∘Zr∘Za6∘ZaJ∘Z1∘ZdM∘Zs) ?_;refine xo (yl L (q:=78) (cs':=[.string ⟨#[]⟩]) Z Z Z Z Z) ((Zg∘ZbF) ?_);refine qg (uy (gs:=77) hY hpre h3 (nh Bool.not hb') Z Z Z Z Z) ((Zm∘Z3) ?_);exact jm L 77 rfl (fun _ _ h=>h) nq Z (by rw[h2];show _=zsy (ju stop (uh pre) [[Value.string r]]);rw[Ke hb'])
  ·have e1:a7 r=(a++sNl)::a7 c:=by rw[hac];exact zcr hn
   have hra:r.size=a.size+1+c.size:=by rw[hac,zrg,zrg];rfl
   have hi:Lib.indexByte r.data.toList 10=(a.size:Int):=by
    rw[hac,uc,uc,mw];show Lib.indexByte (a.data.toList++10::c.data.toList) 10=_;rw[ze6 hn,ud]
   have x1:r.extract 0 (a.size+1)=a++sNl:=by
    have:=Yk ⟨#[]⟩ (a++sNl) c 0 (a.size+1) rfl (by rw[zrg];show _=0+(a.size+1);omega);rw[hac];rw[show(a++⟨#[10]⟩++c:ByteArray)=⟨#[]⟩++(a++sNl)++c from cy (by simp [uc])];exact this
   have x2:r.extract (a.size+1) r.size=c:=by
    have:=Yk (a++sNl) c ⟨#[]⟩ (a.size+1) r.size (by rw[zrg];rfl) (by rw[zrg];exact hra);rw[show(a++sNl++c++⟨#[]⟩:ByteArray)=r from cy (by rw[hac];simp [uc])] at this;exact this
   rw[e1] at h1 h2
   have hpre:uh pre++[[Value.string (a++sNl)]]<+:uh (a7 s):=by
    rw[<-h1];exact⟨uh (a7 c),by simp [uh]⟩
   cases hb':stop (uh pre++[[Value.string (a++sNl)]])
   ·refine(Ze∘ZQ∘ZdM∘Zaf∘ZP∘Zcb∘Zan∘Zk∘Zv∘ZdM) ?_;refine z71 L Z (fun u H hH _=>se hi hH) ?_;refine(Zd∘Zr∘Zcp) ?_;refine qn (id:=4) [(200012,[78]),(200016,[78]),(100001,[78])] ko J ((Zfl∘Zl∘Zdm) ?_);refine z8 (ru L (kl:=.i64) (pl:=0) 0 (a.size+1) Z Z Z Z Z ⟨rfl,by omega⟩ T T x1) Z ?_;refine(Zfl∘Zl∘Zdm) ?_;refine z8 (ru L (kh:=.i64) (ph:=0) (a.size+1) _ Z Z Z Z ⟨rfl,by omega⟩ Z T T x2) Z ?_;refine ZaK (h:=?_);refine xq (yl L (q:=78) (cs':=[.string c]) Z Z Z Z Z) Z ((ZaV∘ZbF) ?_);refine qg (uy (gs:=77) hY hpre h3 (nh Bool.not hb') Z Z Z Z Z) ((Zm∘Zac∘Zaw) ?_);have e3:uh (pre++[a++sNl])=uh pre++[[Value.string (a++sNl)]]:=by simp [uh]
    refine yo (x:=(pre,r)) (pre++[a++sNl],c) ⟨?_,?_,?_,?_⟩ ?_ ⟨Z,Z,?_,Z,nm⟩
    ·rw[<-h1];simp [uh]
    ·rw[h2];show ju stop (uh pre) ([Value.string (a++sNl)]::uh (a7 c))=_;rw[Ec hb',e3]
    ·rw[e3];exact hb'
    ·dsimp only;omega
    ·dsimp only;omega
    ·dsimp only;rw[e3];rfl
   ·refine(Ze∘ZQ∘ZdM∘Zaf∘ZP∘Zcb∘Zan∘Zk∘Zv∘ZdM) ?_;refine z71 L Z (fun u H hH _=>se hi hH) ?_;refine(Zd∘Zr∘Zcp) ?_;refine qn (id:=4) [(200012,[78]),(200016,[78]),(100001,[78])] ko J ((Zfl∘Zl∘Zdm) ?_);refine z8 (ru L (kl:=.i64) (pl:=0) 0 (a.size+1) Z Z Z Z Z ⟨rfl,by omega⟩ T T x1) Z ?_;refine(Zfl∘Zl∘Zdm) ?_;refine z8 (ru L (kh:=.i64) (ph:=0) (a.size+1) _ Z Z Z Z ⟨rfl,by omega⟩ Z T T x2) Z ?_;refine ZaK (h:=?_);refine xq (yl L (q:=78) (cs':=[.string c]) Z Z Z Z Z) Z ((ZaV∘ZbF) ?_);refine qg (uy (gs:=77) hY hpre h3 (nh Bool.not hb') Z Z Z Z Z) ((Zm∘Z3) ?_);exact jm L 77 rfl (fun _ _ h=>h) nq Z (by rw[h2];show _=zsy (ju stop (uh pre) ([Value.string (a++sNl)]::uh (a7 c)));rw[Ke hb'])
end Go.V.L11
end
namespace Go.V
def SlX(e:TypeId)(s cap n:Nat)(xs:List Value):Res where
 P x _ u C:=xs.length=n*s/\∃ b rest,x=.slice (some ⟨b,0,none⟩) n cap/\u.heap[b]?=some (.cells (xs++rest).toArray e)/\n<=cap/\cap<=maxLen/\(xs++rest).length=cap*s/\∀ k,C k↔k=b
 st:=fun⟨hl,b,rest,h1,h2,h3,h4,h5,h6⟩ _ _ _ hk=>⟨hl,b,rest,h1,(hk b ((h6 b).2 rfl)).trans h2,h3,h4,h5,h6⟩
section
def Vw(L:Tabs P){kl kc:IntKind}{s by_:Nat}(c:Nat){p:Int}(hn:Nat.blt d n=true)(hg:gK ops κ ⟨some d,.makeSlice t x y,ty,pos,aft,g⟩=some true)(ht:L.sl t=some e)(he:elI P e=some (s,by_))
  (hx:evK κ x=some (.int kl 0)) (hy:evK κ y=some (.int kc p)) (hp:p=c) (hb:by_*c<=281474976710656) (hc:c<=maxLen):StepOK P F B n ops O κ ⟨some d,.makeSlice t x y,ty,pos,aft,g⟩ d (.own (SlX e s c 0 [])):=by
 rintro κ' a u hl ⟨H,fp,hh⟩;unfold After;rw[na (xl hh hl hg)];have en:=hh.env hl;obtain⟨i,z,hi,hz,hs1,hs2,hs3,hs4⟩:=uf he;have h1:=en.is_ x _ (by simp [Op.operands]) hx;have h2:=en.is_ y _ (by simp [Op.operands]) hy;subst hp
 have hb':(i.bytes:Int)*(c:Int)<=281474976710656:=by
  have h:((by_*c:Nat):Int)<=281474976710656:=T;rw[hs2];rwa [Int.natCast_mul] at h
 have h63:(c:Int)<=9223372036854775807:=by simp [maxLen] at hc;omega
 have hr:=run_make (P:=P) u t e i z (Tabs.sl_spec ht) hi hz kl kc 0 c (zqq _) T hb' h63;simp only[Int.toNat_zero,zpf] at hr
 have hrun:(execOp a.eval ⟨some d,.makeSlice t x y,ty,pos,aft,g⟩).run P u=.ok (.value (.slice (some ⟨u.heap.size,0,none⟩) 0 c)) (u.alloc (.cells (madeCells z.cells (c*i.size)) e)):=by
  simp only[execOp,h1,h2,nw,hr,ny];rfl
 rw[hrun];simp only[Upon];have hg2:=hh.grow (Grow.hid hh.sub (.cells (madeCells z.cells (c*i.size)) e));refine⟨H,_,hg2.putR (C:=fun k=>k=u.heap.size) (by simp [Act.put]) Z (fun t ht=>xv ht) ⟨by simp,u.heap.size,(madeCells z.cells (c*i.size)).toList,kg (by rw[hh.size];exact zm hn),by rw[xz];simp,mb _,hc,by simp [size_madeCells,hs1],fun _=>Iff.rfl⟩ (fun k hk=>?_) fun t r' _ ht k hf hk=>?_⟩
 ·subst hk;exact⟨xj (xz u _),jj hh.sub (nu _),.inl hh.keep.size,fun y hy e=>by have:=xj (hh.boxes y hy).1;omega⟩
 ·have:=((hh.slot t _ ht).2 k hf).1;omega
def zec(t q:Nat){s cap:Nat}{c:Code}(hk:κ t=some (.own (SlX e s cap m xs)))
  (h:∀ b rest,xs.length=m*s->m<=cap->cap<=maxLen->(xs++rest).length=cap*s->V P F B n O (upd (upd (upd κ t po) q (.own (xu b (xs++rest) e))) t (.is (.slice (some ⟨b,0,none⟩) m cap))) c zs3):V P F B n O κ c zs3:=fun a u hh=>by
 obtain⟨H,fp,hh⟩:=hh;obtain⟨⟨hl,b,rest,hv,hb,h3,h4,h5,hC⟩,hM⟩:=hh.slot t _ hk;have h2:=hh.usePut (d:=q) (a':=a) (r':=xu b (xs++rest) e) (C:=fp t) hk ⟨Keep.refl _ _,hh.sub,my _,fun _ _ _=>rfl⟩ rfl rfl (fun _ _=>rfl) ⟨hb,hC⟩ fun k hk=>⟨.inl hk,(hM k hk).1,(hM k hk).2.1⟩
 have h3':=h2.name t;rw[hv] at h3';exact h b rest hl h3 h4 h5 a u ⟨H,_,h3'⟩
def N8(L:Tabs P){nn cap:Nat}{s by_:Nat}{cur news cur':List Value}(hn:Nat.blt d n=true)(hg:gK ops κ ⟨some d,.call ⟨.builtin .append,#[x,y],#[t,t]⟩,ty,pos,aft,g⟩=some true)
  (hx:evK κ x=some (.slice (some ⟨b,0,none⟩) nn cap)) (hq:κ q=some (.own (xu b cur e))) (hy:Apd F B O κ y m news) (ht:L.sl t=some e) (he:elI P e=some (s,by_)) (hm:0<m) (hnl:news.length=m*s) (hroom:nn+m<=cap) (hcl:nn*s+m*s<=cur.length) (h1:news.all gj=true)
  (hr:cur.take (nn*s)++(news++cur.drop (nn*s+m*s))=cur'):
  ve P F B n ops O κ ⟨some d,.call ⟨.builtin .append,#[x,y],#[t,t]⟩,ty,pos,aft,g⟩ q (.own (xu b cur' e)) d (.is (.slice (some ⟨b,0,none⟩) (nn+m) cap)):=by
 rintro κ' a u hlk hks ⟨H,fp,hh⟩;unfold After;rw[na (xl hh hlk hg)];have en:=hh.env hlk;have hk':κ' q=some (.own (xu b cur e)):=hks.trans hq;have hxe:=en.is_ x _ (by simp [Op.operands,Call.operands]) hx;obtain⟨⟨hb,hC⟩,hM⟩:=hh.slot q _ hk';obtain⟨i,z,hi,hz,hs1,hs2,hs3,hs4⟩:=uf he;subst hs1;rcases hy _ a u H fp (by simp [Op.operands,Call.operands]) en with ⟨h0,_⟩ | ⟨ad,c',hye,hcy⟩
 ·omega
 have hrun0:=run_append_room (P:=P) u t ty e i (Tabs.sl_spec ht) hi b nn cap cur.toArray hb ad m c' news hnl hcy (fun v hv=>dt (zo9.1 h1 v hv)) hroom (by rw[hnl];simpa using hcl);rw[hnl] at hrun0;simp only[mw] at hrun0;rw[hr] at hrun0
 have hrun:(execOp a.eval ⟨some d,.call ⟨.builtin .append,#[x,y],#[t,t]⟩,ty,pos,aft,g⟩).run P u=.ok (.value (.slice (some ⟨b,0,none⟩) (nn+m) cap)) (u.setRow b cur'.toArray):=by
  simp only[execOp,resolve,invoke,builtin,nw,me,ny,zpn,mz,zph,hxe,hye,hrun0]
 rw[hrun];simp only[Upon];have hbm:=hM b ((hC b).2 rfl)
 have h2:=hh.usePut (d:=q) (a':=a) (r':=xu b cur' e) (C:=fun k=>k=b) hk' (vz hh.sub hb ((hC b).2 rfl) hbm.2.1 _) rfl rfl (fun _ _=>rfl) ⟨setRow_heap u b cur.toArray cur'.toArray e (0,0) hb,fun _=>Iff.rfl⟩ (fun k hk=>by
  subst hk;exact⟨.inl ((hC k).2 rfl),by rw[setRow_size];exact hbm.1,hbm.2.1⟩)
 rw[wg] at h2;exact⟨H,_,h2.put (k:=.is _) (zm hn) trivial Z⟩
end
end Go.V
namespace Go.V
section
def Pg{k:Kn}(h:κ q=some k):upd κ q k=κ:=by
 funext t;by_cases e:t=q
 ·subst e;rw[xr];exact h.symm
 ·rw[xk _ _ e]
def vj(L:Tabs P)(q:Nat)(φ:Value->Heap->Prop){r:GR}{args:Array Operand}{fo:Operand}
  (hn:Nat.blt d n=true) (hg:gK ops κ ⟨some d,.call { callee:=.value fo,args:=args,argTypes:=at_ },ty,pos,aft,g⟩=some true)
  (hf:evK κ fo=some (.func (.func f) #[] cap.toArray)) (hfn:L.fn f=some ()) (hq:κ q=some (.own r.res)) (hm:Kn.mono (.sat φ))
  (h:∀ u H C,zs4 H u->B.Le H->r.P H u C->(ZCB C u H)->Args κ H args.toList [] (fun vs=>RetY P f (vs++cap) u H C r φ)):
  StepOKR P F B n ops O κ ⟨some d,.call { callee:=.value fo,args:=args,argTypes:=at_ },ty,pos,aft,g⟩ q d (.sat φ):=by
 rintro κ' a u hlk hks ⟨H,fp,hh⟩;unfold After;rw[na (xl hh hlk hg)];have hk':κ' q=some (.own r.res):=hks.trans hq;obtain⟨hown,hM⟩:=hh.slot q _ hk';have e2:=hh.env hlk;have hfe:a.eval fo=.func (.func f) #[] cap.toArray:=e2.is_ fo _ (by simp [Op.operands,Call.operands]) hf;have hc:=Args.use e2 args.toList [] (fun x hx=>by simp [Op.operands,Call.operands] at hx |-;exact .inr hx) (h u H (fp q) hh.sub hh.base hown fun k hk=>⟨(hM k hk).1,(hM k hk).2.1⟩);simp only[zpv,mj] at hc;rw[ux L rfl hfe hfn];simp only[Upon];refine Calls.mono hc fun e' u' hp=>?_;obtain⟨x,rfl,H',g',hx,C',hv,hC'⟩:=hp;have h2:=hh.usePut (d:=q) (a':=a) (r':=r.res) hk' g' rfl rfl (fun _ _=>rfl) hv hC';rw[wg,Pg hk'] at h2;exact⟨x,rfl,H',_,h2.put (k:=.sat φ) (zm hn) hm hx⟩
def Lh(L:Tabs P)(q:Nat)(v:Value){r:GR}{args:Array Operand}{fo:Operand}
  (hn:Nat.blt d n=true) (hg:gK ops κ ⟨some d,.call { callee:=.value fo,args:=args,argTypes:=at_ },ty,pos,aft,g⟩=some true)
  (hf:evK κ fo=some (.func (.func f) #[] cap.toArray)) (hfn:L.fn f=some ()) (hq:κ q=some (.own r.res))
  (h:∀ u H C,zs4 H u->B.Le H->r.P H u C->(ZCB C u H)->Args κ H args.toList [] (fun vs=>RetY P f (vs++cap) u H C r (fun x _=>x=v))):
  StepOKR P F B n ops O κ ⟨some d,.call { callee:=.value fo,args:=args,argTypes:=at_ },ty,pos,aft,g⟩ q d (.is v):=by
 rintro κ' a u hlk hks ⟨H,fp,hh⟩;unfold After;rw[na (xl hh hlk hg)];have hk':κ' q=some (.own r.res):=hks.trans hq;obtain⟨hown,hM⟩:=hh.slot q _ hk';have e2:=hh.env hlk;have hfe:a.eval fo=.func (.func f) #[] cap.toArray:=e2.is_ fo _ (by simp [Op.operands,Call.operands]) hf;have hc:=Args.use e2 args.toList [] (fun x hx=>by simp [Op.operands,Call.operands] at hx |-;exact .inr hx) (h u H (fp q) hh.sub hh.base hown fun k hk=>⟨(hM k hk).1,(hM k hk).2.1⟩);simp only[zpv,mj] at hc;rw[ux L rfl hfe hfn];simp only[Upon];refine Calls.mono hc fun e' u' hp=>?_;obtain⟨x,rfl,H',g',hx,C',hv,hC'⟩:=hp;have h2:=hh.usePut (d:=q) (a':=a) (r':=r.res) hk' g' rfl rfl (fun _ _=>rfl) hv hC';rw[wg,Pg hk'] at h2;exact⟨x,Z,H',_,h2.put (k:=.is v) (zm hn) trivial hx⟩
def Vx(L:Tabs P){q b:Nat}{t t':TypeId}{s off:Nat}{cs vs:List Value}{r:Res}(hx:evK κ x=some (.pointer (some ⟨b,off,none⟩)))(hq:κ q=some (.own r))(hcell:∀ v H u C,r.P v H u C->u.heap[b]?=some (.cells cs.toArray t'))(hn:Nat.blt d n=true)(hg:gK ops κ ⟨some d,.load t x,ty,pos,aft,g⟩=some true)
  (hl:L.ld t=some (true,s)) (hlen:vs.length=s) (hc:∃ r,cs.drop off=vs++r):StepOKR P F B n ops O κ ⟨some d,.load t x,ty,pos,aft,g⟩ q d (.is (.agg vs.toArray)):=by
 rintro κ' a u hlk hqk ⟨H,fp,hh⟩;unfold After;rw[na (xl hh hlk hg)];have e:=hh.env hlk;have h1:=e.is_ x _ (by simp [Op.operands]) hx;obtain⟨hown,hM⟩:=hh.slot q _ (hqk.trans hq);have h2:=hcell _ _ _ _ hown;obtain⟨r,hc⟩:=hc
 have hrun:(execOp a.eval ⟨some d,.load t x,ty,pos,aft,g⟩).run P u=.ok (.value (.agg vs.toArray)) u:=by
  simp only[execOp,h1,Instr.loadAt,Instr.sureAddr,nw,me,ny]
  rw[w6 (Tabs.ld_spec hl) u _ vs hlen (fun j v hj=>by
   have h3:cs[off+j]?=some v:=by
    have:=nh (·[j]?) hc;simp only[zpw] at this
    rw[this,zp5 (by
     rcases m5 j vs.length with h | h
     ·exact h
     ·rw[zo1 h] at hj;cases hj)]
    exact hj
   show u.cell? (Addr.add ⟨b,off,none⟩ j)=some v;have:Addr.add ⟨b,off,none⟩ j=⟨b,off+j,none⟩:=by simp [Addr.add]
   rw[this,kx h2];simpa using h3)]
  rfl
 rw[hrun];simp only[Upon];exact⟨H,fp,hh.put (k:=.is (.agg vs.toArray)) (zm hn) trivial Z⟩
def zae{r2:Res}:∀ v H u C,(im (xu b cs ty) r2).P v H u C->u.heap[b]?=some (.cells cs.toArray ty):=fun _ _ _ _ ⟨_,_,h,_⟩=>h.1
def Xu{r2:Res}:∀ v H u C,(im (xu b cs ty) r2).P v H u C->joinH H u C b=some (.cells cs.toArray ty):=fun _ _ _ _ ⟨_,_,⟨hb,hC⟩,_,h3,_⟩=>(cm ((h3 b).2 (.inl ((hC b).2 rfl)))).trans hb
end
def RetT.pubY{f:FuncId}{r:GR}{r1:Res}(h:RetT P f args w B C (im r1 r.res))(hl:zl1 r1 φ):RetY P f args w B C r φ:=
 Calls.mono h fun _ u ⟨v,he,H,g,C',⟨C1,C2,h1,h2,h3,h4⟩,h5⟩=>by
  have hs:=sd (u:=u) (C:=C1) g.sub;have hle:=Gy (u:=u) fun k hk=>(h5 k ((h3 k).2 (.inl hk))).2.2;refine⟨v,he,joinH H u C1,⟨g.keep,hs,fun k x hx=>hle _ _ (g.le _ _ hx),fun k hk hn=>(du fun hc=>?_).trans (g.fresh k hk hn)⟩,hl _ _ _ _ h1,C2,r.st h2 hle hs (On.refl u) (fun _ _=>rfl),fun k hk=>⟨(h5 k ((h3 k).2 (.inr hk))).1,(h5 k ((h3 k).2 (.inr hk))).2.1,(du fun hc=>h4 k hc hk).trans (h5 k ((h3 k).2 (.inr hk))).2.2⟩⟩;rcases(h5 k ((h3 k).2 (.inl hc))).1 with h6 | h6
  ·exact hn h6
  ·omega
def RetY.ex{f:FuncId}{X:Type}{r:X->GR}{φ:X->Heap->Prop}{hφ:oc φ}(hr:(GEx r φ hφ).P B w C)(h:∀ x,φ x B->(r x).P B w C->RetY P f args w B C (r x) ψ):RetY P f args w B C (GEx r φ hφ) ψ:=by
 obtain⟨x,h1,h2⟩:=hr;exact RetL.mono (h x h1 h2) fun v H u hg ⟨h3,C',h4,h5⟩=>⟨h3,C',⟨x,hφ _ _ _ h1 hg.le,h4⟩,h5⟩
end Go.V
namespace Go.V
def MiE{V:Type}(kd:IntKind)(vc:V->Value)(l:List (Int×V))(es:List MapEntry):Prop:=es.map (fun e=>(e.key,e.val))=l.map fun p=>(Value.int kd p.1,vc p.2)
section
variable  {V:Type}  {vc:V->Value} {l:List (Int×V)} 
def Qd{p:Int×V}{l:List (Int×V)}{es:List MapEntry}(h:MiE kd vc (p::l) es):∃ e r,es=e::r/\e.key=.int kd p.1/\e.val=vc p.2/\MiE kd vc l r:=by
 unfold MiE at h
 cases es with
 | nil=>simp at h
 | cons e r=>
  simp at h;exact⟨e,r,rfl,h.1.1,h.1.2,h.2⟩
def Mb(k:Int):∀ (l:List (Int×V)) (es:List MapEntry) (i:Nat),MiE kd vc l es->Instr.findNow (.int kd) (.int kd k) es i=some ((pt k l i).map fun p=>(p.1,vc p.2))
 | [],es,i,h=>by
  have:es=[]:=by simpa [MiE] using h
  subst this;rfl
 | p::l,es,i,h=>by
  obtain⟨e,r,rfl,h1,h2,h3⟩:=Qd h;rw[Instr.findNow,pt,h1];simp only[Instr.sameNow,if_true];by_cases hkp:k=p.1
  ·rw[na hkp,beq_iff_eq.2 hkp,h2];rfl
  ·rw[nc hkp,beq_false_of_ne hkp];exact Mb k l r (i+1) h3
def d8(hk:P.underlying kt=some (.int kd))(k:Int)(w:World)(l:List (Int×V))(es:List MapEntry)(h:MiE kd vc l es):
  (Instr.findKey kt (.int kd k) es).run P w=.ok ((pt k l 0).map fun p=>(p.1,vc p.2)) w:=by
 unfold Instr.findKey;simp only[nw,run_underlying hk,ny,Mb k l es 0 h,me]
def ua(hk:P.underlying kt=some (.int kd))(k:Int)(em:Bool)(w:World):(Instr.checkKey em 10000 kt (.int kd k)).run P w=.ok () w:=by
 rw[Instr.checkKey];simp only[nw,run_underlying hk,ny];rfl
def Nh(ht:P.underlying t=some (.map kt et))(hk:P.underlying kt=some (.int kd)){b:Nat}{es:Array MapEntry}{ck:Nat}(hb:u.heap[b]?=some (.map es ck))(he:MiE kd vc l es.toList)(k:Int){z:Value}
  (hz:(zeroValue et).run P u=.ok z u):(Instr.lookup t (.map (some b)) (.int kd k) false).run P u=.ok ((ut k l).elim z vc) u:=by
 unfold Instr.lookup;have hf:=d8 hk k u l es.toList he;simp only[nw,run_underlying ht,ny,MapKept.run_getObj_map hb,me,ua hk k,hf];unfold ut
 cases pt k l 0 with
 | none=>simp [hz]
 | some p=>simp
def Lq(k:Int)(v:V):∀ (l:List (Int×V)) (es:List MapEntry) (i j:Nat) (x:V),MiE kd vc l es->pt k l i=some (j,x)->
  MiE kd vc (Oc k v l) (es.modify (j-i) fun e=>{ e with key:=.int kd k,val:=vc v })
 | [],_,_,_,_,_,h=>by cases h
 | p::l,es,i,j,x,he,h=>by
  obtain⟨e,r,rfl,h1,h2,h3⟩:=Qd he;unfold pt at h;rw[Oc];split at h
  ·rename_i hk;cases h;rw[na hk,zqc];unfold MiE at h3 |-;subst hk;simpa using h3
  ·rename_i hk;rw[nc hk];obtain⟨n,hn,_⟩:=De h;have ih:=Lq k v l r (i+1) j x h3 h;have e1:j-i=(j-(i+1))+1:=T;rw[e1];unfold MiE at ih |-;simp [h1,h2];exact ih
end
section
variable                  {ex:Exs}
variable {Y:Type}  {vc:Y->Value} {l:List (Int×Y)}
end
end Go.V
namespace Go.V
section
variable {V:Type}
def S4(k:Int)(l:List (Int×V)):List (Int×V):=match pt k l 0 with
 | some (j,_)=>l.eraseIdx j
 | none=>l
end
structure Brn(es:List MapEntry)(ck:Nat):Prop where
 lt:∀ e∈es,e.born<ck
 nd:(es.map (·.born)).Nodup
def zad:Brn [] 0:=⟨fun _ h=>(by cases h),zqg⟩
def Brn.push{es:List MapEntry}(h:Brn es ck)(e:MapEntry)(he:e.born=ck):Brn (es++[e]) (ck+1):=⟨fun x hx=>by
 rcases mn.1 hx with hx | hx
 ·exact Nat.lt_succ_of_lt (h.lt x hx)
 ·rw[m7.1 hx,he];exact zrw _,by
 rw[zpb,List.nodup_append];refine⟨h.nd,zqk _ _,fun a ha b hb=>?_⟩;obtain⟨x,hx,rfl⟩:=zoz.1 ha;have:=h.lt x hx;simp only[mz,zph,m7] at hb;omega⟩
def Brn.modify{es:List MapEntry}{ck:Nat}(h:Brn es ck)(j:Nat)(f:MapEntry->MapEntry)(hf:∀ e,(f e).born=e.born):Brn (es.modify j f) ck:=by
 have e1:(es.modify j f).map (·.born)=es.map (·.born):=by
  apply zsa;intro i;rw[zpl,zpl,List.getElem?_modify]
  cases es[i]? with
  | none=>rfl
  | some e=>
   simp only[zql];split<;>simp [hf]
 refine⟨fun e he=>?_,by rw[e1];exact h.nd⟩;have h2:e.born∈es.map (·.born):=by rw[<-e1];exact zq7 he
 obtain⟨x,hx,hb⟩:=zoz.1 h2;rw[<-hb];exact h.lt x hx
def Brn.sub{es es':List MapEntry}(h:Brn es ck)(hs:es'.Sublist es):Brn es' ck:=⟨fun e he=>h.lt e (hs.subset he),h.nd.sublist (hs.map _)⟩
section
variable  {V:Type}  {vc:V->Value} {l:List (Int×V)} 
def K0(ht:P.underlying t=some (.map kt et))(hk:P.underlying kt=some (.int kd)){b:Nat}{es:Array MapEntry}{ck:Nat}(hb:u.heap[b]?=some (.map es ck))(he:MiE kd vc l es.toList)(k:Int){z:Value}
  (hz:(zeroValue et).run P u=.ok z u):(Instr.lookup t (.map (some b)) (.int kd k) true).run P u=.ok (.tuple #[(ut k l).elim z vc,.bool (ut k l).isSome]) u:=by
 unfold Instr.lookup;have hf:=d8 hk k u l es.toList he;simp only[nw,run_underlying ht,ny,MapKept.run_getObj_map hb,me,ua hk k,hf];unfold ut
 cases pt k l 0 with
 | none=>simp [hz]
 | some p=>simp
def od(ht:P.underlying t=some (.map kt et))(hk:P.underlying kt=some (.int kd)){b:Nat}{es:Array MapEntry}{ck:Nat}(hb:u.heap[b]?=some (.map es ck))(he:MiE kd vc l es.toList)(hn:Brn es.toList ck)(k:Int)(v:V):
  ∃ es' ck',(Instr.mapUpdate t (.map (some b)) (.int kd k) (vc v)).run P u=.ok () (u.putObj b (.map es' ck'))/\MiE kd vc (Oc k v l) es'.toList/\Brn es'.toList ck':=by
 have hf:=d8 hk k u l es.toList he
 cases hm:pt k l 0 with
 | none=>
  refine⟨es.push { key:=.int kd k,val:=vc v,born:=ck },ck+1,?_,?_,by simpa using hn.push _ Z⟩
  ·unfold Instr.mapUpdate;rw[hm] at hf;simp only[nw,run_underlying ht,ny,MapKept.run_getObj_map hb,me,ua hk k,hf,zq6];simp [setObj,Sem.run,hb,World.putObj,Result.andThen]
  ·rw[r9 hm];unfold MiE at he |-;simp [he]
 | some q=>
  obtain⟨j,x⟩:=q;refine⟨es.modify j fun e=>{ e with key:=.int kd k,val:=vc v },ck,?_,?_,by rw[Array.toList_modify];exact hn.modify j _ fun _=>rfl⟩
  ·obtain⟨n,hn2,hx⟩:=De hm;have hn':j=n:=T;subst hn'
   have hkey:((es[j]?).map (·.key)).getD (.int kd k)=.int kd k:=by
    have h2:=nh (·[j]?) he;simp only[zpl,hx,zql] at h2;rw[<-zrt]
    cases hz:es.toList[j]? with
    | none=>rfl
    | some e=>
     rw[hz] at h2;simp at h2;simpa using h2.1
   unfold Instr.mapUpdate;rw[hm] at hf;simp only[nw,run_underlying ht,ny,MapKept.run_getObj_map hb,me,ua hk k,hf,zql,hkey];unfold Instr.keyThatStays;rw[na (by simp [Instr.sameBits])];simp [setObj,Sem.run,hb,World.putObj,Result.andThen]
  ·have:=Lq k v l es.toList 0 j x he hm;simpa using this
def map_erase{α β:Type}(f:α->β):∀ (l:List α) (j:Nat),(l.eraseIdx j).map f=(l.map f).eraseIdx j
 | [],_=>rfl
 | _::_,0=>rfl
 | x::l,j+1=>by simp [map_erase f l j]
def Lp{es:List MapEntry}(h:MiE kd vc l es)(j:Nat):MiE kd vc (l.eraseIdx j) (es.eraseIdx j):=by
 unfold MiE at *;rw[map_erase,map_erase,h]
def Ni(ht:P.underlying t=some (.map kt et))(hk:P.underlying kt=some (.int kd)){b:Nat}{es:Array MapEntry}{ck:Nat}(hb:u.heap[b]?=some (.map es ck))(he:MiE kd vc l es.toList)(hn:Brn es.toList ck)(k:Int)(ty:TypeId){ts:Array TypeId}(hts:ts[0]?=some t):
  ∃ es',(Builtin.delete_ ts ty #[.map (some b),.int kd k]).run P u=.ok (.tuple #[]) (u.putObj b (.map es' ck))/\MiE kd vc (S4 k l) es'.toList/\Brn es'.toList ck:=by
 have hf:=d8 hk k u l es.toList he;unfold S4
 cases hm:pt k l 0 with
 | none=>
  refine⟨es,?_,he,hn⟩;rw[hm] at hf;simp only[Builtin.delete_,hts,zrb,zrq,zqe,nw,run_underlying ht,ny,MapKept.run_getObj_map hb,ua hk k,hf,zq6];simp [setObj,Sem.run,hb,World.putObj,Result.andThen]
 | some q=>
  obtain⟨j,x⟩:=q;refine⟨es.eraseIdxIfInBounds j,?_,by simpa using Lp he j,by simpa using hn.sub (List.eraseIdx_sublist ..)⟩;rw[hm] at hf;simp only[Builtin.delete_,hts,zrb,zrq,zqe,nw,run_underlying ht,ny,MapKept.run_getObj_map hb,ua hk k,hf,zql];simp [setObj,Sem.run,hb,World.putObj,Result.andThen]
def Kz{es:Array MapEntry}{since last:Nat}{seen:Array Nat}(hm:u.heap[m]?=some (.map es ck))(hi:u.heap[i]?=some (.mapIter (some m) since seen last))(hold:∀ x∈es.toList,x.born<since)(hsc:since<=last):
  ((leftOf es seen).size=0/\(Instr.next (.pointer (some ⟨i,0,none⟩)) false ty).run P u=.ok (.tuple #[.bool false]) u)\/
  ∃ (j:Nat) (e:MapEntry),(leftOf es seen)[j]?=some e/\∃ u1:World,(u1=u\/u1=u.drew)/\(Instr.next (.pointer (some ⟨i,0,none⟩)) false ty).run P u=.ok (.tuple #[.bool true,e.key,e.val]) (u1.putObj i (.mapIter (some m) since (seen.push e.born) ck)):=by
 simp only[Instr.next,getObj,nw,Sem.run,hi,hm,Result.andThen,next_test_false seen es since last hold hsc,zqh,if_false];unfold leftOf;have hmem:∀ x∈(Array.filter (fun e=>!seen.contains e.born) es).toList,x.born<since:=fun x hx=>hold x (by simp at hx |-;exact hx.1);generalize Array.filter (fun e=>!seen.contains e.born) es=L at hmem |-;have e1:L.filter (fun x=>decide (x.born<since))=L:=Array.filter_eq_self.2 (fun x hx=>by simpa using hmem x (by simpa using hx))
 have e2:L.filter (fun x=>decide (x.born>=since))=#[]:=by
  rw[Array.filter_eq_empty_iff];intro x hx;have:=hmem x (by simpa using hx);simp;omega
 simp only[e1,e2,Array.append_empty];by_cases h0:L.size=0
 ·left;have:L=#[]:=Array.eq_empty_of_size_eq_zero h0;subst this;refine⟨rfl,?_⟩;simp [choose,Sem.run,Question.forced]
 ·right;have hne:L.isEmpty=false:=by simp [Array.isEmpty,h0]
  simp only[hne,zqh,if_false,Array.empty_append,Array.size_map]
  have hch:∃ (j:Nat) (w1:World),j<L.size/\(w1=u\/w1=u.drew)/\(choose (Question.mapNext L.size)).run P u=.ok j w1:=by
   by_cases hf:L.size<=1
   ·exact⟨0,u,by omega,.inl Z,by simp [choose,Sem.run,Question.forced,hf]⟩
   ·exact⟨_,u.drew,zqn _ T,.inr Z,by
     simp only[choose,Sem.run,Question.forced,decide_eq_true_eq,hf,if_false,Question.cut];rfl⟩
  obtain⟨j,w1,hj,hal,hrun⟩:=hch;refine⟨j,L[j],by simp [hj],w1,hal,?_⟩;have hi1:w1.heap[i]?=some (.mapIter (some m) since seen last):=by rcases hal with rfl | rfl<;>exact hi
  simp only[hrun,Array.getElem?_map,zpj hj,zql,nw,Result.andThen];simp [setObj,Sem.run,hi1,World.putObj]
end
def zl3{V:Type}(b:Nat)(kd:IntKind)(vc:V->Value)(l:List (Int×V)):GR where
 P _ u C:=(∃ es ck,u.heap[b]?=some (.map es ck)/\MiE kd vc l es.toList/\Brn es.toList ck)/\∀ k,C k↔k=b
 st:=fun⟨⟨es,ck,hb,he⟩,hC⟩ _ _ _ hk=>⟨⟨es,ck,(hk b ((hC b).2 rfl)).trans hb,he⟩,hC⟩
abbrev Dz{V:Type}(b:Nat)(kd:IntKind)(vc:V->Value)(l:List (Int×V)):Res:=(zl3 b kd vc l).res
def Tz{V:Type}(kd:IntKind)(vc:V->Value)(l:List (Int×V)):Res where
 P x _ u C:=∃ b,x=.map (some b)/\(∃ es ck,u.heap[b]?=some (.map es ck)/\MiE kd vc l es.toList/\Brn es.toList ck)/\∀ k,C k↔k=b
 st:=fun⟨b,hx,⟨es,ck,hb,he⟩,hC⟩ _ _ _ hk=>⟨b,hx,⟨es,ck,(hk b ((hC b).2 rfl)).trans hb,he⟩,hC⟩
def zee{V:Type}(m:Nat)(kd:IntKind)(vc:V->Value)(l left:List (Int×V)):Res where
 P x _ u C:=∃ i es ck since seen last,x=.pointer (some ⟨i,0,none⟩)/\i≠m/\u.heap[m]?=some (.map es ck)/\MiE kd vc l es.toList/\Brn es.toList ck/\u.heap[i]?=some (.mapIter (some m) since seen last)/\
  (∀ e∈es.toList,e.born<since)/\since<=last/\since<=ck/\MiE kd vc left (leftOf es seen).toList/\∀ k,C k↔k=m\/k=i
 st:=fun⟨i,es,ck,since,seen,last,h1,h2,h3,h4,h5,h6,h7,h8,h9,h10,hC⟩ _ _ _ hk=>⟨i,es,ck,since,seen,last,h1,h2,(hk m ((hC m).2 (.inl rfl))).trans h3,h4,h5,(hk i ((hC i).2 (.inr rfl))).trans h6,h7,h8,h9,h10,hC⟩
section
variable {Y:Type}  {vc:Y->Value} {l left:List (Int×Y)}
def Has.holdMb{t:Nat}(hk:κ t=some (.own (Tz kd vc l)))(h:Has F B O n κ a u):∃ b,Has F B O n (upd (upd (upd κ t po) q (.own (Dz b kd vc l))) t (.is (.map (some b)))) a u:=by
 obtain⟨H,fp,h⟩:=h;obtain⟨⟨b,hv,hb,hC⟩,hM⟩:=h.slot t _ hk;have h2:=h.usePut (d:=q) (a':=a) (r':=Dz b kd vc l) (C:=fp t) hk ⟨Keep.refl _ _,h.sub,my _,fun _ _ _=>rfl⟩ rfl rfl (fun _ _=>rfl) ⟨hb,hC⟩ fun k hk=>⟨.inl hk,(hM k hk).1,(hM k hk).2.1⟩
 have h3:=h2.name t;rw[hv] at h3;exact⟨b,H,_,h3⟩
def zlx(t q:Nat){c:Code}(hk:κ t=some (.own (Tz kd vc l)))(h:∀ b,V P F B n O (upd (upd (upd κ t po) q (.own (Dz b kd vc l))) t (.is (.map (some b)))) c zs3):V P F B n O κ c zs3:=fun a u hh=>let ⟨b,h'⟩:=hh.holdMb (q:=q) hk;h b a u h'
def T8(t q:Nat)(hk:κ t=some (.own (Tz kd vc l)))(h:∀ b,VO P F B n O ops (upd (upd (upd κ t po) q (.own (Dz b kd vc l))) t (.is (.map (some b)))) os zs3):VO P F B n O ops κ os zs3:=fun a u hh=>let ⟨b,h'⟩:=hh.holdMb (q:=q) hk;h b a u h'
def N5(kd:IntKind)(vc:Y->Value){hint:Option Operand}(hn:Nat.blt d n=true)(hg:gK ops κ ⟨some d,.makeMap t none,ty,pos,aft,g⟩=some true):
  StepOK P F B n ops O κ ⟨some d,.makeMap t none,ty,pos,aft,g⟩ d (.own (Tz kd vc [])):=by
 rintro κ' a u hl ⟨H,fp,hh⟩;have hn:d<n:=by simpa using hn
 unfold After;rw[na (xl hh hl hg)]
 have hrun:(execOp a.eval ⟨some d,.makeMap t none,ty,pos,aft,g⟩).run P u=.ok (.value (.map (some u.heap.size))) (u.alloc (.map #[] 0)):=by
  simp [execOp,Instr.makeMap]
 rw[hrun];simp only[Upon];have hg2:=hh.grow (Grow.hid hh.sub (.map #[] 0));refine⟨H,_,hg2.putR (C:=fun k=>k=u.heap.size) (by simp [Act.put]) Z (fun t ht=>xv ht) ⟨u.heap.size,kg (by rw[hh.size];exact hn),⟨_,_,xz _ _,rfl,zad⟩,fun _=>Iff.rfl⟩ (fun k hk=>?_) fun t r' _ ht k hf hk=>?_⟩
 ·subst hk;exact⟨xj (xz u _),jj hh.sub (nu _),.inl hh.keep.size,fun y hy e=>by have:=xj (hh.boxes y hy).1;omega⟩
 ·have:=((hh.slot t _ ht).2 k hf).1;omega
def gk(k:Int){r z:Value}{f:Bool}(ht:P.underlying t=some (.map kt et))(hkt:P.underlying kt=some (.int kd))(hz:∀ w,(zeroValue et).run P w=.ok z w)
  (hx:evK κ x=some (.map (some b))) (hq:κ q=some (.own (Dz b kd vc l))) (hy:evK κ y=some (.int kd k)) (hn:Nat.blt d n=true) (hg:gK ops κ ⟨some d,.lookup t x y true,ty,pos,aft,g⟩=some true)
  (hr:(ut k l).elim z vc=r) (hf:(ut k l).isSome=f):
  StepOKR P F B n ops O κ ⟨some d,.lookup t x y true,ty,pos,aft,g⟩ q d (.is (.tuple #[r,.bool f])):=by
 rintro κ' a u hlk hqk ⟨H,fp,hh⟩;subst hr hf;unfold After;rw[na (xl hh hlk hg)];have e:=hh.env hlk;have h1:=e.is_ x _ (by simp [Op.operands]) hx;have h2:=e.is_ y _ (by simp [Op.operands]) hy;obtain⟨⟨⟨es,ck,hb,he,_⟩,hC⟩,hM⟩:=hh.slot q _ (hqk.trans hq)
 have hrun:(execOp a.eval ⟨some d,.lookup t x y true,ty,pos,aft,g⟩).run P u=.ok (.value (.tuple #[(ut k l).elim z vc,.bool (ut k l).isSome])) u:=by
  simp only[execOp,h1,h2,nw,K0 ht hkt hb he k (hz u),ny];rfl
 rw[hrun];simp only[Upon];exact⟨H,fp,hh.put (k:=.is _) (zm hn) trivial Z⟩
def HasH.turnMap{es:Array MapEntry}{l':List (Int×Y)}(hh:HasH F B O n κ a u H fp)(hq:κ q=some (.own (Dz b kd vc l)))(he:MiE kd vc l' es.toList)(hb:Brn es.toList ck):
  HasH F B O n (upd κ q (.own (Dz b kd vc l'))) a (u.putObj b (.map es ck)) H (fpu fp q fun k=>k=b):=by
 obtain⟨⟨_,hC⟩,hM⟩:=hh.slot q _ hq;have hbm:=hM b ((hC b).2 rfl)
 have:=hh.usePut (d:=q) (a':=a) (r':=Dz b kd vc l') (C:=fun k=>k=b) hq (Dh hh.sub ((hC b).2 rfl) hbm.2.1) rfl rfl (fun _ _=>rfl) ⟨⟨es,ck,zsj hbm.1,he,hb⟩,fun _=>Iff.rfl⟩ (fun k hk=>by
  subst hk;exact⟨.inl ((hC k).2 rfl),by rw[World.putObj_size];exact hbm.1,hbm.2.1⟩)
 rw[wg] at this;exact this
def Ep{z:Operand}(k:Int)(v:Y){zv:Value}{l':List (Int×Y)}(ht:P.underlying t=some (.map kt et))(hkt:P.underlying kt=some (.int kd))
  (hx:evK κ x=some (.map (some b))) (hq:κ q=some (.own (Dz b kd vc l))) (hy:evK κ y=some (.int kd k)) (hz:evK κ z=some zv) (hzv:vc v=zv) (hg:gK ops κ ⟨none,.mapUpdate t x y z,ty,pos,aft,g⟩=some true)
  (hl':Oc k v l=l'):
  Aj P F B n ops O κ ⟨none,.mapUpdate t x y z,ty,pos,aft,g⟩ q (.own (Dz b kd vc l')):=by
 rintro κ' a u hlk hqk ⟨H,fp,hh⟩;subst hl' hzv;unfold After;rw[na (xl hh hlk hg)];have e:=hh.env hlk;have h1:=e.is_ x _ (by simp [Op.operands]) hx;have h2:=e.is_ y _ (by simp [Op.operands]) hy;have h3:=e.is_ z _ (by simp [Op.operands]) hz;have hqs:=hqk.trans hq;obtain⟨⟨⟨es,ck,hb,he,hbn⟩,hC⟩,hM⟩:=hh.slot q _ hqs;obtain⟨es',ck',hr,he',hb'⟩:=od ht hkt hb he hbn k v
 have hrun:(execOp a.eval ⟨none,.mapUpdate t x y z,ty,pos,aft,g⟩).run P u=.ok .skip (u.putObj b (.map es' ck')):=by
  simp only[execOp,h1,h2,h3,nw,hr,ny];rfl
 rw[hrun];simp only[Upon,Act.put];exact⟨H,_,hh.turnMap hqs he' hb'⟩
def Ss{t2:TypeId}(k:Int){l':List (Int×Y)}(ht:P.underlying t=some (.map kt et))(hkt:P.underlying kt=some (.int kd))
  (hx:evK κ x=some (.map (some b))) (hq:κ q=some (.own (Dz b kd vc l))) (hy:evK κ y=some (.int kd k)) (hg:gK ops κ ⟨none,.call ⟨.builtin .delete,#[x,y],#[t,t2]⟩,ty,pos,aft,g⟩=some true)
  (hl':S4 k l=l'):
  Aj P F B n ops O κ ⟨none,.call ⟨.builtin .delete,#[x,y],#[t,t2]⟩,ty,pos,aft,g⟩ q (.own (Dz b kd vc l')):=by
 rintro κ' a u hlk hqk ⟨H,fp,hh⟩;subst hl';unfold After;rw[na (xl hh hlk hg)];have e:=hh.env hlk;have h1:=e.is_ x _ (by simp [Op.operands,Call.operands]) hx;have h2:=e.is_ y _ (by simp [Op.operands,Call.operands]) hy;have hqs:=hqk.trans hq;obtain⟨⟨⟨es,ck,hb,he,hbn⟩,hC⟩,hM⟩:=hh.slot q _ hqs;obtain⟨es',hr,he',hb'⟩:=Ni ht hkt hb he hbn k ty (ts:=#[t,t2]) rfl
 have hrun:(execOp a.eval ⟨none,.call ⟨.builtin .delete,#[x,y],#[t,t2]⟩,ty,pos,aft,g⟩).run P u=.ok (.value (.tuple #[])) (u.putObj b (.map es' ck)):=by
  simp [execOp,resolve,h1,h2,invoke,builtin,hr]
 rw[hrun];simp only[Upon,Act.put];exact⟨H,_,hh.turnMap hqs he' hb'⟩
def N6(ht:P.underlying t=some (.map kt et))(hx:evK κ x=some (.map (some b)))(hq:κ q=some (.own (Dz b kd vc l)))(hn:Nat.blt d n=true)
  (hg:gK ops κ ⟨some d,.call ⟨.builtin .len,#[x],#[t]⟩,ty,pos,aft,g⟩=some true) (hm:l.length=m):
  StepOKR P F B n ops O κ ⟨some d,.call ⟨.builtin .len,#[x],#[t]⟩,ty,pos,aft,g⟩ q d (.is (.int .i64 m)):=by
 rintro κ' a u hlk hqk ⟨H,fp,hh⟩;subst hm;unfold After;rw[na (xl hh hlk hg)];have e:=hh.env hlk;have h1:=e.is_ x _ (by simp [Op.operands,Call.operands]) hx;obtain⟨⟨⟨es,ck,hb,he,_⟩,hC⟩,hM⟩:=hh.slot q _ (hqk.trans hq);have hsz:es.size=l.length:=by have:=nh List.length he;simpa using this
 have hrun:(execOp a.eval ⟨some d,.call ⟨.builtin .len,#[x],#[t]⟩,ty,pos,aft,g⟩).run P u=.ok (.value (.int .i64 l.length)) u:=by
  simp [execOp,resolve,h1,invoke,builtin,Builtin.len_,run_underlying ht,MapKept.run_getObj_map hb,goInt,hsz]
 rw[hrun];simp only[Upon];exact⟨H,fp,hh.put (k:=.is _) (zm hn) trivial Z⟩
def Vt(ht:P.underlying t=some (.map kt et))(hx:evK κ x=some (.map (some b)))(hq:κ q=some (.own (Dz b kd vc l)))(hn:Nat.blt d n=true)
  (hg:gK ops κ ⟨some d,.range t x,ty,pos,aft,g⟩=some true):
  ve P F B n ops O κ ⟨some d,.range t x,ty,pos,aft,g⟩ q po d (.own (zee b kd vc l l)):=by
 rintro κ' a u hlk hqk ⟨H,fp,hh⟩;have hn:d<n:=by simpa using hn
 unfold After;rw[na (xl hh hlk hg)];have e:=hh.env hlk;have h1:=e.is_ x _ (by simp [Op.operands]) hx;have hqs:=hqk.trans hq;obtain⟨⟨⟨es,ck,hb,he,hbn⟩,hC⟩,hM⟩:=hh.slot q _ hqs
 have hrun:(execOp a.eval ⟨some d,.range t x,ty,pos,aft,g⟩).run P u=.ok (.value (.pointer (some ⟨u.heap.size,0,none⟩))) (u.alloc (.mapIter (some b) ck #[] ck)):=by
  simp only[execOp,h1,nw,run_range_map u t kt et b es ck ht hb,ny];rfl
 rw[hrun];simp only[Upon];have hbm:=hM b ((hC b).2 rfl);have hg2:Grow (fp q) u H (u.alloc (.mapIter (some b) ck #[] ck)) H:=⟨(Grow.hid hh.sub (.mapIter (some b) ck #[] ck)).keep.weak (fun k _ h=>h.elim),(Grow.hid hh.sub _).sub,my _,fun _ _ _=>rfl⟩
 have hlo:leftOf es #[]=es:=by unfold leftOf;simp
 have:=hh.usePut (d:=d) (a':=a.put (some d) (.pointer (some ⟨u.heap.size,0,none⟩))) (r':=zee b kd vc l l) (C:=fun k=>k=b\/k=u.heap.size) hqs hg2 (by simp [Act.put]) rfl (fun t ht=>xv ht)
  ⟨u.heap.size,es,ck,ck,#[],ck,kg (by rw[hh.size];exact hn),by omega,by rw[heap_alloc_old u _ hbm.1];exact hb,he,hbn,heap_alloc_new u _,hbn.lt,nu _,nu _,by rw[hlo];exact he,fun _=>Iff.rfl⟩
  (fun k hk=>by
   have hsz:(u.alloc (.mapIter (some b) ck #[] ck)).heap.size=u.heap.size+1:=by show(u.heap.push _).size=_;simp
   rcases hk with rfl | rfl
   ·exact⟨.inl ((hC _).2 rfl),by omega,hbm.2.1⟩
   ·exact⟨.inr (nu _),by omega,jj hh.sub (nu _)⟩)
 exact⟨H,_,this⟩
def Vu{q m:Nat}{w:Bool}(hw:w=false)(hq:κ q=some (.own (zee m kd vc l left)))(hl:left=[])(hn:Nat.blt d n=true)(hg:gK ops κ ⟨some d,.next (.tmp q) w,ty,pos,aft,g⟩=some true):
  StepOK P F B n ops O κ ⟨some d,.next (.tmp q) w,ty,pos,aft,g⟩ d (.is (.tuple #[.bool false])):=
 kj rfl (zm hn) hg trivial fun a u H fp e=>by
  subst hw hl;obtain⟨⟨i,es,ck,since,seen,last,h1,h2,h3,h4,h5,h6,h7,h8,h9,h10,hC⟩,hM⟩:=e.own_ q _ (by simp [Op.operands]) hq;have hz:(leftOf es seen).size=0:=by have:=nh List.length h10;simpa using this
  refine⟨_,?_,rfl⟩;rcases Kz (P:=P) (ty:=ty) h3 h6 h7 h8 with ⟨_,hr⟩ | ⟨j,e2,he2,_⟩
  ·simp only[execOp,h1,nw,hr,ny];rfl
  ·rw[zqv T] at he2;cases he2
def S7{es:Array MapEntry}{ck j:Nat}{seen:Array Nat}{e:MapEntry}(hb:Brn es.toList ck)(he:(leftOf es seen)[j]?=some e):(leftOf es (seen.push e.born)).toList=(leftOf es seen).toList.eraseIdx j:=by
 have e1:(leftOf es (seen.push e.born)).toList=(leftOf es seen).toList.filter fun x=>!(x.born == e.born):=by
  unfold leftOf;rw[zsr,zsr,zse];apply List.filter_congr;intro x _;rw[contains_push];cases seen.contains x.born<;>cases (x.born == e.born)<;>rfl
 have hnd:((leftOf es seen).toList.map (·.born)).Nodup:=by
  unfold leftOf;rw[zsr];exact hb.nd.sublist (List.filter_sublist.map _)
 rw[<-zrt] at he;rw[e1];generalize (leftOf es seen).toList=L at hnd he;clear e1
 induction L generalizing j with
 | nil=>cases he
 | cons x L ih=>
  rw[mz,zra] at hnd
  cases j with
  | zero=>
   cases he
   have h0:L.filter (fun x=>!(x.born == e.born))=L:=zrh.2 fun y hy=>by
    have:y.born≠e.born:=fun h=>hnd.1 (h ▸ zq7 hy);simpa using this
   simp [h0]
  | succ j=>
   have he':L[j]?=some e:=by simpa using he
   have hne:x.born≠e.born:=fun h=>hnd.1 (h ▸ zq7 (zo7 he'));have:(!(x.born == e.born))=true:=by simpa using hne
   rw[zqt (by simpa using hne),ih hnd.2 he'];rfl
def zkh{es:List MapEntry}{e:MapEntry}(h:MiE kd vc left es)(he:es[j]?=some e):∃ p,left[j]?=some p/\e.key=.int kd p.1/\e.val=vc p.2:=by
 have h2:=nh (·[j]?) h;simp only[zpl,he,zql] at h2
 cases hp:left[j]? with
 | none=>rw[hp] at h2;cases h2
 | some p=>
  rw[hp] at h2;simp at h2;exact⟨p,rfl,h2.1,h2.2⟩
def Has.endM{t:Nat}(hne:t≠q)(hk:κ t=some (.own (zee m kd vc l left)))(h:Has F B O n κ a u):Has F B O n (upd (upd κ t po) q (.own (Dz m kd vc l))) a u:=by
 obtain⟨H,fp,hh⟩:=h;obtain⟨⟨i,es,ck,since,seen,last,h1,h2,h3,h4,h5,h6,h7,h8,h9,h10,hC⟩,hM⟩:=hh.slot t _ hk
 have:=hh.usePut (d:=q) (a':=a) (r':=Dz m kd vc l) (C:=fun k=>k=m) hk ⟨Keep.refl _ _,hh.sub,my _,fun _ _ _=>rfl⟩ rfl rfl (fun _ _=>rfl) ⟨⟨es,ck,h3,h4,h5⟩,fun _=>Iff.rfl⟩
  (fun k hk'=>by subst hk';have:=(hC k).2 (.inl rfl);exact⟨.inl this,(hM k this).1,(hM k this).2.1⟩)
 exact⟨H,_,this⟩
def zlk(t q:Nat){c:Code}(hk:κ t=some (.own (zee m kd vc l left)))(h:V P F B n O (upd (upd κ t po) q (.own (Dz m kd vc l))) c zs3)(hne:t≠q:=by decide):V P F B n O κ c zs3:=fun a u hh=>h a u (hh.endM hne hk)
end
end Go.V
namespace Go.V
def zlz{V:Type}(m:Nat)(kd:IntKind)(vc:V->Value)(l left:List (Int×V))(p:Int×V):Res where
 P x _ u C:=∃ (i:Nat) (es:Array MapEntry) (ck since:Nat) (seen:Array Nat) (e:MapEntry),x=.pointer (some ⟨i,0,none⟩)/\i≠m/\u.heap[m]?=some (.map es ck)/\MiE kd vc l es.toList/\Brn es.toList ck/\u.heap[i]?=some (.mapIter (some m) since (seen.push e.born) ck)/\
  (∀ e∈es.toList,e.born<since)/\since<=ck/\MiE kd vc left (leftOf es (seen.push e.born)).toList/\e∈es.toList/\e.key=.int kd p.1/\e.val=vc p.2/\∀ k,C k↔k=m\/k=i
 st:=fun⟨i,es,ck,since,seen,e,h1,h2,h3,h4,h5,h6,h7,h8,h9,h10,h11,h12,hC⟩ _ _ _ hk=>⟨i,es,ck,since,seen,e,h1,h2,(hk m ((hC m).2 (.inl rfl))).trans h3,h4,h5,(hk i ((hC i).2 (.inr rfl))).trans h6,h7,h8,h9,h10,h11,h12,hC⟩
def zjr{V:Type}{vc:V->Value}{l left:List (Int×V)}{p:Int×V}:∀ v H u C,B.Le H->(zlz m kd vc l left p).P v H u C->(zee m kd vc l left).P v H u C:=
 fun _ _ _ _ _ ⟨i,es,ck,since,seen,e,h1,h2,h3,h4,h5,h6,h7,h8,h9,_,_,_,hC⟩=>⟨i,es,ck,since,seen.push e.born,ck,h1,h2,h3,h4,h5,h6,h7,h8,h8,h9,hC⟩
def zcv{es:Array MapEntry}{seen:Array Nat}{e:MapEntry}(h:(leftOf es seen)[j]?=some e):e∈es.toList:=by
 have h1:e∈leftOf es seen:=Array.mem_of_getElem? h;unfold leftOf at h1;rw[Array.mem_filter] at h1;exact Array.mem_toList_iff.2 h1.1
def Yj{es:List MapEntry}(hn:(es.map (·.born)).Nodup){e:MapEntry}(he:e∈es):es.find? (fun x=>x.born == e.born)=some e:=by
 induction es with
 | nil=>cases he
 | cons x es ih=>
  rw[mz,zra] at hn;rw[List.find?_cons];rcases ma.1 he with h | h
  ·subst h;simp
  ·have hne:x.born≠e.born:=fun h2=>hn.1 (h2 ▸ zq7 (f:=(·.born)) h);have:(x.born == e.born)=false:=by simpa using hne
   rw[this];exact ih hn.2 h
section
variable {Y:Type}  {vc:Y->Value} {l left:List (Int×Y)}
def zba(ho:o=⟨some d,.next (.tmp q) false,ty,pos,aft,g⟩)(hq:κ q=some (.own (zee m kd vc l left)))(hl:left≠[])(hn:Nat.blt d n=true)(hdq:Nat.beq q d=false)(hg:gK ops κ o=some true)
  (h:∀ (j:Nat) (p:Int×Y),left[j]?=some p->VO P F B n O ops (upd (upd κ q (.own (zlz m kd vc l (left.eraseIdx j) p))) d (.is (.tuple #[.bool true,.int kd p.1,vc p.2]))) os zs3):VO P F B n O ops κ (o::os) zs3:=fun a u hh=>by
 subst ho;obtain⟨H,fp,hh⟩:=hh;obtain⟨⟨i,es,ck,since,seen,last,h1,h2,h3,h4,h5,h6,h7,h8,h9,h10,hC⟩,hM⟩:=hh.slot q _ hq;show After P ops _ _ a u;unfold After;rw[na (xl hh (fun _ _=>rfl) hg)];rcases Kz (P:=P) (ty:=ty) h3 h6 h7 h8 with ⟨hz,_⟩ | ⟨j,e,he,u1,hu1,hr⟩
 ·exfalso;have:=nh List.length h10;simp [hz] at this;exact hl (zow this.symm)
 ·have hrun:(execOp a.eval ⟨some d,.next (.tmp q) false,ty,pos,aft,g⟩).run P u=.ok (.value (.tuple #[.bool true,e.key,e.val])) (u1.putObj i (.mapIter (some m) since (seen.push e.born) ck)):=by
   simp only[execOp,h1,nw,hr,ny];rfl
  rw[hrun];simp only[Upon];obtain⟨p,hp,hk1,hv1⟩:=zkh h10 (by rw[zrt];exact he);rw[hk1,hv1];have him:=hM i ((hC i).2 (.inr rfl));have hsub:H.Le (Go.V.hp u1):=by rcases hu1 with rfl | rfl<;>exact hh.sub
  have hgr:Grow (fp q) u H (u1.putObj i (.mapIter (some m) since (seen.push e.born) ck)) H:=by
   have g1:=Dh (u:=u1) (L:=fp q) (o:=.mapIter (some m) since (seen.push e.born) ck) hsub ((hC i).2 (.inr rfl)) him.2.1;rcases hu1 with rfl | rfl
   ·exact g1
   ·exact⟨⟨g1.keep.os,g1.keep.tape,g1.keep.output,g1.keep.size,g1.keep.block,mp (zpr _) g1.keep.dr⟩,g1.sub,g1.le,g1.fresh⟩
  have hmm:u1.heap[m]?=some (.map es ck):=by rcases hu1 with rfl | rfl<;>exact h3
  have hsz:i<u1.heap.size:=by rcases hu1 with rfl | rfl<;>exact him.1
  have h5':=hh.usePut (d:=q) (a':=a) (r':=zlz m kd vc l (left.eraseIdx j) p) (C:=fun k=>k=m\/k=i) hq hgr rfl rfl (fun _ _=>rfl)
   ⟨i,es,ck,since,seen,e,h1,h2,by rw[zr2 (Ne.symm h2)];exact hmm,h4,h5,zsj hsz,h7,h9,by rw[S7 h5 he];exact Lp h10 j,zcv he,hk1,hv1,fun _=>Iff.rfl⟩
   (fun k hk=>by
    have hkC:fp q k:=(hC k).2 hk;refine⟨.inl hkC,?_,(hM k hkC).2.1⟩;rw[World.putObj_size];rcases hu1 with rfl | rfl<;>exact(hM k hkC).1)
  rw[wg] at h5';exact h j p hp _ _ ⟨H,_,h5'.put (k:=.is _) (zm hn) trivial Z⟩
def V0{p:Int×Y}(hq:κ q=some (.own (zlz m kd vc l left p)))(hn:Nat.blt d n=true)(hg:gK ops κ ⟨some d,.entry (.tmp q),ty,pos,aft,g⟩=some true):
  StepOK P F B n ops O κ ⟨some d,.entry (.tmp q),ty,pos,aft,g⟩ d (.is (.tuple #[.int kd p.1,vc p.2])):=
 kj rfl (zm hn) hg trivial fun a u H fp e=>by
  obtain⟨⟨i,es,ck,since,seen,x,h1,h2,h3,h4,h5,h6,h7,h8,h9,h10,h11,h12,hC⟩,hM⟩:=e.own_ q _ (by simp [Op.operands]) hq;refine⟨_,?_,rfl⟩;have hf:=Yj h5.nd h10;have hf2:es.find? (fun y=>y.born == x.born)=some x:=by rw[<-Array.find?_toList];exact hf
  simp only[execOp,h1,Instr.entry,getObj,nw,Sem.run,h6,Result.andThen,Array.back?_push,h3,bne_self_eq_false,zqh,if_false,hf2,h11,h12];rfl
def Sn{z:Operand}(k:Int)(v:Y){zv:Value}{l':List (Int×Y)}(ht:P.underlying t=some (.map kt et))(hkt:P.underlying kt=some (.int kd))
  (hx:evK κ x=some (.map (some b))) (hq:κ q=some (.own (Dz b kd vc l))) (hy:evK κ y=some (.int kd k)) (hz:evK κ z=some zv) (hzv:vc v=zv) (hg:gK ops κ ⟨none,.insert t x y z,ty,pos,aft,g⟩=some true)
  (hl':Oc k v l=l'):
  Aj P F B n ops O κ ⟨none,.insert t x y z,ty,pos,aft,g⟩ q (.own (Dz b kd vc l')):=by
 rintro κ' a u hlk hqk ⟨H,fp,hh⟩;subst hl' hzv;unfold After;rw[na (xl hh hlk hg)];have e:=hh.env hlk;have h1:=e.is_ x _ (by simp [Op.operands]) hx;have h2:=e.is_ y _ (by simp [Op.operands]) hy;have h3:=e.is_ z _ (by simp [Op.operands]) hz;have hqs:=hqk.trans hq;obtain⟨⟨⟨es,ck,hb,he,hbn⟩,hC⟩,hM⟩:=hh.slot q _ hqs;obtain⟨es',ck',hr,he',hb'⟩:=od ht hkt hb he hbn k v
 have hrun:(execOp a.eval ⟨none,.insert t x y z,ty,pos,aft,g⟩).run P u=.ok .skip (u.putObj b (.map es' ck')):=by
  simp only[execOp,h1,h2,h3,nw,hr,ny];rfl
 rw[hrun];simp only[Upon,Act.put];exact⟨H,_,hh.turnMap hqs he' hb'⟩
end
end Go.V
namespace Go.V
def Ht{X:Type}(vf:X->Value)(g:X->GR):Res where
 P v H u C:=∃ x,v=vf x/\(g x).P H u C
 st:=fun⟨x,h1,h2⟩ a b c d=>⟨x,h1,(g x).st h2 a b c d⟩
abbrev zne{X:Type}(vf:X->Value)(g:X->GR)(ty:TypeId):Res:=Ht (fun p:Nat×X=>.pointer (some ⟨p.1,0,none⟩)) fun p=>gu (xc p.1 (ji (vf p.2)) ty) (g p.2)
abbrev zlo{V:Type}(kd:IntKind)(vc:V->Value)(l:List (Int×V)):Res:=Ht (fun m:Nat=>.map (some m)) fun m=>zl3 m kd vc l
def MapVis{V:Type}(b:Nat)(kd:IntKind)(vc:V->Value)(l:List (Int×V))(H:Heap):Prop:=∃ es ck,H b=some (.map es ck)/\MiE kd vc l es.toList
def MapVis.le{V:Type}{vc:V->Value}{l:List (Int×V)}{H':Heap}(h:MapVis b kd vc l H)(hle:H.Le H'):MapVis b kd vc l H':=let ⟨es,ck,h1,h2⟩:=h;⟨es,ck,hle _ _ h1,h2⟩
section
def K2{z cs:List Value}(e:Env F B O κ ⟨some d,.build t parts,ty,pos,aft,g⟩ a u H fp)
  (hp:PL P t places z) (hv:evP κ parts.toList=some vs) (hc:s4 places z vs=some cs):(execOp a.eval ⟨some d,.build t parts,ty,pos,aft,g⟩).run P u=.ok (.value (.agg cs.toArray)) u:=by
 have hm:=G9 e parts.toList vs (fun p hp'=>by simp [Op.operands];exact⟨p.1,by simpa using hp'⟩) hv;obtain⟨zv,hz1,hz2⟩:=hp.zr
 have hbt:P.built t vs=some cs.toArray:=by
  have hpl:=hp.pl;unfold plI at hpl;unfold zrI at hz1;split at hz1
  ·rename_i it hit;unfold Program.built;split at hpl
   ·rename_i fs hu;simp only[hit,hu,hz1,hpl];rw[wi,hz2];exact ge (fun i p h=>by simpa using h) vs z cs hc
   ·rename_i m el hu;split at hpl
    ·rename_i ie hie;simp only[hit,hu,hz1,hie];cases hpl;rw[wi,hz2]
     exact ge (fun i p h=>by
      rw[zpl] at h
      cases hr:(List.range m)[i]? with
      | none=>rw[hr] at h;cases h
      | some j=>
       rw[hr] at h
       have:j=i:=by
        have:=zp0.1 hr;obtain⟨h1,h2⟩:=this;simpa using h2.symm
       subst this;simpa using h) vs z cs hc
    ·cases hpl
   ·cases hpl
  ·cases hz1
 have hr:=run_build (P:=P) u t vs.toArray cs.toArray (by simpa using hbt)
 have harr:(parts.map fun(p:Nat×Operand)=>(p.1,a.eval p.2))=vs.toArray:=by
  rw[<-hm,<-zpn,zqx]
 simp only[execOp,nw];show Result.andThen ((Instr.build t (parts.map fun(p:Nat×Operand)=>(p.1,a.eval p.2))).run P u) _=_;rw[harr,hr];rfl
def Su{X:Type}{vf:X->Value}{gg:X->GR}(vs:X->List (Nat×Value))(cs:X->List Value)(hq:κ q=some (.own (Ht vf gg)))(hn:Nat.blt d n=true)(hg:gK ops κ ⟨some d,.build t parts,ty,pos,aft,g⟩=some true)
  (hne:Nat.beq q d=false) (hp:PL P t places z) (hv:∀ x,evP (upd κ q (.is (vf x))) parts.toList=some (vs x)) (hc:∀ x,s4 places z (vs x)=some (cs x)):ve P F B n ops O κ ⟨some d,.build t parts,ty,pos,aft,g⟩ q po d (.own (Ht (fun x=>.agg (cs x).toArray) gg)):=by
 rintro κ' a u hlk hks ⟨H,fp,hh⟩;unfold After;rw[na (xl hh hlk hg)];have hk':κ' q=some (.own (Ht vf gg)):=hks.trans hq;obtain⟨⟨x,hx,hown⟩,hM⟩:=hh.slot q _ hk'
 have e:=(hh.name q).env (κ:=upd κ q (.is (vf x))) (ops:=ops) (o:=⟨some d,.build t parts,ty,pos,aft,g⟩) fun s hs=>by
  by_cases h:s=q
  ·subst h;rw[xr,xr,hx]
  ·rw[xk _ _ h,xk _ _ h];exact hlk s hs
 rw[K2 e hp (hv x) (hc x)];simp only[Upon];exact⟨H,_,hh.usePut (C:=fp q) hk' ⟨Keep.refl _ _,hh.sub,my _,fun _ _ _=>rfl⟩ (by simp [Act.put]) Z (fun t ht=>xv ht) (by rw[kg (by rw[hh.size];exact zm hn)];exact⟨x,rfl,hown⟩) fun k hk=>⟨.inl hk,(hM k hk).1,(hM k hk).2.1⟩⟩
def zcd{X:Type}{vf:X->Value}{gg:X->GR}(hq:κ q=some (.own (Ht vf gg)))(hn:Nat.blt d n=true)(hg:gK ops κ ⟨some d,.box t (.tmp q),ty,pos,aft,g⟩=some true)
  (hne:Nat.beq q d=false):ve P F B n ops O κ ⟨some d,.box t (.tmp q),ty,pos,aft,g⟩ q po d (.own (zne vf gg t)):=by
 rintro κ' a u hlk hks ⟨H,fp,hh⟩;unfold After;rw[na (xl hh hlk hg)];have hk':κ' q=some (.own (Ht vf gg)):=hks.trans hq;obtain⟨⟨x,hx,hown⟩,hM⟩:=hh.slot q _ hk'
 have hrun:(execOp a.eval ⟨some d,.box t (.tmp q),ty,pos,aft,g⟩).run P u=.ok (.value (.pointer (some ⟨u.heap.size,0,none⟩))) (u.alloc (.cells (ji (vf x)).toArray t)):=by
  simp [execOp,hx,Instr.box,newVar,newRow,wi]
 rw[hrun];simp only[Upon]
 have hgr:Grow (fp q) u H (u.alloc (.cells (ji (vf x)).toArray t)) H:=by
  have h1:=Grow.hid hh.sub (.cells (ji (vf x)).toArray t);exact⟨⟨h1.keep.os,h1.keep.tape,h1.keep.output,h1.keep.size,fun k hk _=>h1.keep.block k hk (fun h=>h),h1.keep.dr⟩,h1.sub,h1.le,fun k hk _=>h1.fresh k hk (fun h=>h)⟩
 have hsz:u.heap.size<(u.alloc (.cells (ji (vf x)).toArray t)).heap.size:=xj (xz u _);refine⟨H,_,hh.usePut (C:=fun k=>k=u.heap.size\/fp q k) hk' hgr (by simp [Act.put]) Z (fun t ht=>xv ht) ?_ fun k hk=>?_⟩
 ·rw[kg (by rw[hh.size];exact zm hn)];refine⟨(u.heap.size,x),rfl,fun k=>k=u.heap.size,fp q,⟨xz _ _,fun _=>Iff.rfl⟩,(gg x).st hown (my _) hgr.sub ⟨hgr.keep.os,hgr.keep.tape,hgr.keep.output,hgr.keep.size,hgr.keep.dr⟩ (fun k hk=>?_),fun k=>Iff.rfl,fun k h1 h2=>?_⟩
  ·exact wa u _ (hM k hk).1
  ·have:=(hM k h2).1;omega
 ·rcases hk with rfl | hk
  ·exact⟨.inr (nu _),by omega,jj hh.sub (nu _)⟩
  ·exact⟨.inl hk,by have:=(hM k hk).1;omega,(hM k hk).2.1⟩
def Has.holdRf{X:Type}{t:Nat}{vf:X->Value}{gg:X->GR}(hk:κ t=some (.own (Ht vf gg)))(h:Has F B O n κ a u):∃ x,Has F B O n (upd (upd (upd κ t po) q (.own (gg x).res)) t (.is (vf x))) a u:=by
 obtain⟨H,fp,h⟩:=h;obtain⟨⟨x,hv,hx⟩,hM⟩:=h.slot t _ hk;have h2:=h.usePut (d:=q) (a':=a) (r':=(gg x).res) (C:=fp t) hk ⟨Keep.refl _ _,h.sub,my _,fun _ _ _=>rfl⟩ rfl rfl (fun _ _=>rfl) hx fun k hk=>⟨.inl hk,(hM k hk).1,(hM k hk).2.1⟩
 have h3:=h2.name t;rw[hv] at h3;exact⟨x,H,_,h3⟩
def Hr(t q:Nat){X:Type}{vf:X->Value}{gg:X->GR}{c:Code}(hk:κ t=some (.own (Ht vf gg)))(h:∀ x,V P F B n O (upd (upd (upd κ t po) q (.own (gg x).res)) t (.is (vf x))) c zs3):V P F B n O κ c zs3:=fun a u hh=>let ⟨x,h'⟩:=hh.holdRf (q:=q) hk;h x a u h'
def Bw(t q:Nat){X:Type}{vf:X->Value}{gg:X->GR}(hk:κ t=some (.own (Ht vf gg)))(h:∀ x,VO P F B n O ops (upd (upd (upd κ t po) q (.own (gg x).res)) t (.is (vf x))) os zs3):VO P F B n O ops κ os zs3:=fun a u hh=>let ⟨x,h'⟩:=hh.holdRf (q:=q) hk;h x a u h'
def Has.packRf{X:Type}{t:Nat}{vf:X->Value}{gg:X->GR}(x:X)(hk:κ q=some (.own (gg x).res))(ht:κ t=some (.is (vf x)))(h:Has F B O n κ a u):Has F B O n (upd (upd κ q po) t (.own (Ht vf gg))) a u:=by
 obtain⟨H,fp,h⟩:=h;obtain⟨hx,hM⟩:=h.slot q _ hk;have hv:a.eval (.tmp t)=vf x:=h.slot t _ ht;exact⟨H,_,h.usePut (d:=t) (a':=a) (r':=Ht vf gg) (C:=fp q) hk ⟨Keep.refl _ _,h.sub,my _,fun _ _ _=>rfl⟩ Z Z (fun _ _=>rfl) ⟨x,hv,hx⟩ fun k hk=>⟨.inl hk,(hM k hk).1,(hM k hk).2.1⟩⟩
def zeb(t q:Nat){X:Type}(vf:X->Value)(gg:X->GR){c:Code}(x:X)(hk:κ q=some (.own (gg x).res))(ht:κ t=some (.is (vf x)))(h:V P F B n O (upd (upd κ q po) t (.own (Ht vf gg))) c zs3):V P F B n O κ c zs3:=fun a u hh=>h a u (hh.packRf x hk ht)
def O4(L:Tabs P){fn:Func}{B0:Heap}(gs:Nat){r0:GR}{r:Res}{rs:List ResultVar}(hrs:fn.results=rs.toArray)
  (hQ:∀ a u,bodyPostM Fence.wide 0 P fn (li F.w0 B0 F.L (zik F.w0 r)) .ret a u->zs3 .ret a u) (hs:Since F B0 B) (hk:κ gs=some (.own r0.res))
  (h:∀ H,Dy L F B O κ H rs [] (fun vs=>tup vs=v)) (hr:∀ H u C,B.Le H->zs4 H u->r0.P H u C->r.P v H u C) (hL:F.L=noL:=by rfl) (hd:F.ds=[]:=by rfl):V P F B n O κ .ret zs3:=fun a u hh=>by
 obtain⟨H,fp,hH⟩:=hh;refine wpIn_ret (hQ a u ?_);have h0:=hH.defers;rw[hd] at h0;show LeavesInM _ _ _ _ _ _ a.defers _ _;rw[h0];obtain⟨vs,h1,h2⟩:=we L hH hrs (h H);obtain⟨hown,hM⟩:=hH.slot gs _ hk;refine⟨_,h1,_,rfl,H,⟨hH.keep,hH.sub,hs.le.trans hH.base,fun k hk hl=>(hH.fresh k hk hl).trans (hs.fresh k hk hl)⟩,fp gs,?_,fun k hk=>?_⟩
 ·rw[h2];exact hr H u (fp gs) hH.base hH.sub hown
 ·obtain⟨g1,g2,g3,_⟩:=hM k hk;refine⟨?_,g1,g2⟩;rcases g3 with g3 | g3
  ·exact g3
  ·have g3':F.L k:=g3;rw[hL] at g3';exact g3'.elim
def StepOK.turn{r r':Res}(h:StepOK P F B n ops O κ o d (.own r))(hr:∀ v H u C,B.Le H->r.P v H u C->r'.P v H u C):StepOK P F B n ops O κ o d (.own r'):=
 fun κ' a u hl hh=>After.mono (fun a' u' h2=>by have:=h2.turnO (t:=d) (r':=r') (xr ..) hr;rwa [wg] at this) (h κ' a u hl hh)
def zco{V:Type}{vc:V->Value}{l:List (Int×V)}:∀ v H u C,B.Le H->(Tz kd vc l).P v H u C->(zlo kd vc l).P v H u C:=fun _ _ _ _ _ ⟨b,h1,h2,h3⟩=>⟨b,h1,h2,h3⟩
variable {Y:Type}  {vc:Y->Value} {l:List (Int×Y)}
def N4(kd:IntKind)(vc:Y->Value){k:IntKind}{c:Int}(hn:Nat.blt d n=true)(ht:P.underlying t=some (.map kt et))(hx:evK κ x=some (.int k c))(hg:gK ops κ ⟨some d,.makeMap t (some x),ty,pos,aft,g⟩=some true):
  StepOK P F B n ops O κ ⟨some d,.makeMap t (some x),ty,pos,aft,g⟩ d (.own (zlo kd vc [])):=by
 refine StepOK.turn (r:=Tz kd vc []) ?_ zco;rintro κ' a u hl ⟨H,fp,hh⟩;have hn:d<n:=by simpa using hn
 unfold After;rw[na (xl hh hl hg)];have e:=hh.env hl;have h1:=e.is_ x _ (by simp [Op.operands]) hx
 have hrun:(execOp a.eval ⟨some d,.makeMap t (some x),ty,pos,aft,g⟩).run P u=.ok (.value (.map (some u.heap.size))) (u.alloc (.map #[] 0)):=by
  simp [execOp,Instr.makeMap,h1,asInt,asIntOf,run_underlying ht,nw]
 rw[hrun];simp only[Upon];have hg2:=hh.grow (Grow.hid hh.sub (.map #[] 0));refine⟨H,_,hg2.putR (C:=fun k=>k=u.heap.size) (by simp [Act.put]) Z (fun t ht=>xv ht) ⟨u.heap.size,kg (by rw[hh.size];exact hn),⟨_,_,xz _ _,rfl,zad⟩,fun _=>Iff.rfl⟩ (fun k hk=>?_) fun t r' _ ht k hf hk=>?_⟩
 ·subst hk;exact⟨xj (xz u _),jj hh.sub (nu _),.inl hh.keep.size,fun y hy e=>by have:=xj (hh.boxes y hy).1;omega⟩
 ·have:=((hh.slot t _ ht).2 k hf).1;omega
def Cz(k:Int){r z:Value}(ht:P.underlying t=some (.map kt et))(hkt:P.underlying kt=some (.int kd))(hz:∀ w,(zeroValue et).run P w=.ok z w)
  (hv:MapVis b kd vc l B) (hx:evK κ x=some (.map (some b))) (hy:evK κ y=some (.int kd k)) (hn:Nat.blt d n=true) (hg:gK ops κ ⟨some d,.lookup t x y false,ty,pos,aft,g⟩=some true)
  (hr:(ut k l).elim z vc=r):
  StepOK P F B n ops O κ ⟨some d,.lookup t x y false,ty,pos,aft,g⟩ d (.is r):=
 kj rfl (zm hn) hg trivial fun a u H fp e=>by
  have h1:=e.is_ x _ (by simp [Op.operands]) hx;have h2:=e.is_ y _ (by simp [Op.operands]) hy;obtain⟨es,ck,hb,he⟩:=hv;refine⟨(ut k l).elim z vc,?_,hr⟩;simp only[execOp,h1,h2,nw,Nh ht hkt (e.sub _ _ (e.base _ _ hb)) he k (hz u),ny];rfl
end
end Go.V
namespace Go.V.L11
open Go.V.L2 Go.V.L4
def _root_.Za7(t:Wr Y->A:=by intro h;refine z7 (Cy Z Z Z Z) Z ?_;exact h.1)(h:Y):A:=t ⟨h⟩
def _root_.Zeq(t:Wr Y->A:=by intro h;refine z7 (zg9 Z Z Z Z) Z ?_;exact h.1)(h:Y):A:=t ⟨h⟩
def _root_.ZY(t:Wr Y->A:=by exact fun h=>(Za1∘Zg) h.1)(h:Y):A:=t ⟨h⟩
def _root_.Zbw(t:Wr Y->A:=by exact fun h=>(ZQ∘Zeq) h.1)(h:Y):A:=t ⟨h⟩
def lu:Nat->wm->wm
 | _,[]=>[]
 | n,x::xs=>(Value.int .i64 (n:Int)::x)::lu (n+1) xs
def Bc:∀ {a b:wm} {n:Nat},lu n (a++b)=lu n a++lu (n+a.length) b
 | [],b,n=>rfl
 | x::a,b,n=>by
  show _::lu (n+1) (a++b)=_;rw[Bc,nz,show n+1+a.length=n+(a.length+1) by omega];rfl
def C8(a:wm)(x:List Value):lu 1 (a++[x])=lu 1 a++[Value.int .i64 ((a.length+1:Nat):Int)::x]:=by
 rw[Bc,zq0 1];rfl
def Ca(stop:wm->Bool):∀ (xs pre:wm),lu 1 (ju (fun p=>stop (lu 1 p)) pre xs)=ju stop (lu 1 pre) (lu (1+pre.length) xs)
 | [],pre=>rfl
 | x::xs,pre=>by
  have e:lu 1 (pre++[x])=lu 1 pre++[Value.int .i64 ((1+pre.length:Nat):Int)::x]:=by rw[Bc];rfl
  show lu 1 (if stop (lu 1 (pre++[x]))=true then _ else _)=(if stop (lu 1 pre++[Value.int .i64 ((1+pre.length:Nat):Int)::x])=true then _ else _);rw[<-e];split
  ·rfl
  ·rw[Ca stop xs (pre++[x]),nr];rfl
def Yn{l:List ByteArray}{x:List Value}(h:pre++[x]<+:uh l):∃ y,x=[Value.string y]:=by
 have:x∈uh l:=h.subset (by simp);obtain⟨y,_,e⟩:=zoz.1 this;exact⟨y,e.symm⟩
def Gs:∀ {l acc:List UInt8},(T4 acc l).length<=l.length+(if acc=[] then 0 else 1)
 | [],acc=>by
  show(if acc=[] then ([]:List (List UInt8)) else [acc]).length<=_;split<;>simp
 | c::l,acc=>by
  show(if c=10 then (acc++[c])::T4 [] l else T4 (acc++[c]) l).length<=_;split
  ·have:=Gs (l:=l) (acc:=[]);rw[na rfl] at this;simp only[nz];split<;>omega
  ·have:=Gs (l:=l) (acc:=acc++[c]);rw[nc (by simp)] at this;simp only[nz];split<;>omega
def Gu(s:ByteArray):(a7 s).length<=s.size:=by
 unfold a7;rw[m4];have:=Gs (l:=s.data.toList) (acc:=[]);rw[na rfl,ud] at this;exact this
def cnS(stop:wm->Bool)(pre:wm):Int:=if stop (lu 1 pre)=true then (pre.length:Int) else ((pre.length+1:Nat):Int)
def Yu(h:stop (lu 1 pre)=false):cnS stop pre=((pre.length+1:Nat):Int):=nc (by rw[h];decide)
def zdh(h:stop (lu 1 pre)=true):cnS stop pre=(pre.length:Int):=na h
attribute [local irreducible] V N X VO Par StepOK Has Ret RetL RetO RetT kz RetX RetY Src
def Sd(hB:zs4 B w):
  RetO zs5 191 [.string s] w B (Ht (fun b:Nat=>.func (.func 241) #[] #[kq b]) fun b=>xc b [.string s] H9):=by
 refine wz Tryz.func191 Z Tryz.ntmps191 (np Z) hB ((Zbw∘Zd) ?_);refine jd 1 900 rfl fun b=>?_;refine(Zan∘Za7∘Zc) ?_;exact O4 L 900 (r0:=xc b [.string s] H9) (v:=.func (.func 241) #[] #[kq b]) (rs:=[.tmp 2]) Z (fun _ _ h=>h) nq Z (fun _=>rfl) (fun H u C hle _ hr=>⟨b,rfl,hr⟩)
def Od(hs:s.size<=1099511627776){sb:Nat}(hB:zs4 B w)(hb:B sb=some (.cells #[.string s] H9)):zl2 zs5 190 [kq sb] w B (lu 1 (uh (a7 s))):=by
 intro ly zsy stop C hst hY hJ hC;refine xf 77 (zsy []) Tryz.func190 Z Tryz.ntmps190 (np Z) hB hJ hC ((Zbw∘Zg) ?_);refine jd 2 81 rfl fun yb=>?_;refine wk 81 rfl fun H1 hs1 _ hyb=>?_;refine(Zan∘ZY) ?_;refine jd 3 79 rfl fun nb=>?_;have hb1:=hs1.le _ _ hb;refine Zv (h:=?_);refine z7 (zo L (qt Z hb1) Z Z Z Z) Z (z7 (wq L Z Z (zm Z) Z Z Z (fun u H hH _ _=>Sd hH)) Z (Zd3 (h:=?_)));refine Hr 6 80 rfl fun b=>?_
 refine Mp L 80 (gr:=xc b [.string s] H9) (gf:=241) (caps:=[kq b]) [(2,kq yb),(3,kq nb)]
  (fun pre=>[(77,(zsy (lu 1 pre)).res),(79,xu nb [.int .i64 (cnS stop pre)] 3)])
  (fun pre x=>[(77,.own (zsy (lu 1 pre)).res),(79,.own (xu nb [.int .i64 ((pre.length+1:Nat):Int)] 3)),(2,.is (kq yb)),(3,.is (kq nb)),(4,.is (x.headD undef))])
  (uh (a7 s)) (fun p=>stop (lu 1 p)) (fun _=>.ret) rfl rfl rfl rfl
  (fun pre p hp=>by simp only[ma,m7,zp8,or_false] at hp;rcases hp with rfl | rfl<;>exact Nat.ne_of_beq_eq_false rfl) ⟨rfl,by rw[Yu hst];rfl,rfl,rfl,nm⟩
  (fun pre p hp=>by simp only[ma,m7,zp8,or_false] at hp;rcases hp with rfl | rfl<;>exact np rfl) hst (fun x hx=>by obtain⟨y,_,rfl⟩:=zoz.1 hx;rfl) E
  (fun u H hH hle=>zbz hs hH) ?asg ?bd ?dn ?st
 case asg=>
  intro w1 Ln B' l' D' o pre x' hpre hstp hBB;obtain⟨y,rfl⟩:=Yn hpre;refine(Z6∘Zby) ?_;exact zau nq ⟨Z,by rw[<-Yu hstp];rfl,Z,Z,Z,nm⟩
 case bd=>
  intro w1 Ln B' l' D' o pre x' hpre hstp hBB;have hlen:=hpre.length_le;obtain⟨y,rfl⟩:=Yn hpre;have hll:=Gu s;simp only[nr,m4,nz,m6] at hlen;have hyb2:=hBB _ _ hyb
  have hpre':lu 1 pre++[[Value.int .i64 ((pre.length+1:Nat):Int),Value.string y]]<+:lu 1 (uh (a7 s)):=by
   obtain⟨t,ht⟩:=hpre;rw[<-ht,Bc,C8];exact List.prefix_append _ _
  have hwk:IntKind.i64.wrap (((pre.length+1:Nat):Int)+1)=((pre.length+1+1:Nat):Int):=xb T T;have e3:lu 1 (pre++[[Value.string y]])=lu 1 pre++[[Value.int .i64 ((pre.length+1:Nat):Int),Value.string y]]:=C8 _ _;have hpl:(pre++[[Value.string y]]).length=pre.length+1:=by simp
  cases hb':stop (lu 1 pre++[[Value.int .i64 ((pre.length+1:Nat):Int),Value.string y]])
  ·refine(ZF∘ZcV) ?_;refine z7 (zo L (qt Z hyb2) Z Z Z Z) Z (ye (qh L (q:=79) Z Z Z Z) (Za (h:=?_)));refine qg (uy (gs:=77) hY hpre' hstp (nh Bool.not hb') Z Z Z Z Z) ((Zm∘Zac∘Zbr∘Z1) ?_);refine ye (qh L (q:=79) Z Z Z Z) (ZC (h:=?_));refine xo (yl L (q:=79) (cs':=[.int .i64 ((pre.length+1+1:Nat):Int)]) Z Z Z Z Z) ((Zab∘Zaw) ?_);exact zav nq (by rw[e3];exact hb') ⟨by rw[e3];rfl,by rw[Yu (by rw[e3];exact hb'),hpl];rfl,nm⟩
  ·refine(ZF∘ZcV) ?_;refine z7 (zo L (qt Z hyb2) Z Z Z Z) Z (ye (qh L (q:=79) Z Z Z Z) (Za (h:=?_)));refine qg (uy (gs:=77) hY hpre' hstp (nh Bool.not hb') Z Z Z Z Z) ((Zm∘Z3) ?_);exact Ff (Rm (Ak (Ty nq (by rw[e3];exact hb') Z ⟨by rw[e3];rfl,by rw[zdh (by rw[e3];exact hb'),hpl];rfl,nm⟩)))
 case st=>
  intro l' D' o hstop;exact jm L 77 rfl (fun _ _ h=>h) hs1 Z (by rw[Ca];rfl)
 case dn=>
  intro l' D' o hgo;exact xw L 77 rfl (fun _ _ h=>h) hs1 Z (by rw[Ca];rfl)
def LinAt(s:ByteArray)(v:Value)(H:Heap):Prop:=∃ b,v=.func (.func 190) #[] #[kq b]/\H b=some (.cells #[.string s] H9)
def LinAt.mono:Kn.mono (.sat (LinAt s)):=fun _ _ _ ⟨b,h1,h2⟩ hle=>⟨b,h1,hle _ _ h2⟩
def Xr(hB:zs4 B w):Ret zs5 130 [.string s] w B (LinAt s):=by
 refine yr Tryz.func130 Z Tryz.ntmps130 (np Z) hB ((Zbw∘Zd) ?_);refine jd 1 900 rfl fun b=>?_;refine wk 900 rfl fun H1 hs1 _ hyb=>?_;refine(Zan∘Za7∘Zc) ?_;refine yj L (rs:=[.tmp 2]) Z (fun _ _ h=>h) hs1 fun u H hH hle=>?_;exact⟨b,rfl,hle _ _ hyb⟩
end Go.V.L11
namespace Go.V.L11
open Go.V.L2 Go.V.L4
def Mu(p:wm):List ByteArray:=p.map fun x=>match x with
 | [_,.string y]=>y
 | _=>⟨#[]⟩
def wy:∀ {ls:List ByteArray} {n:Nat},Mu (lu n (uh ls))=ls
 | [],_=>rfl
 | x::ls,n=>by
  show x::Mu (lu (n+1) (uh ls))=_;rw[wy]
def zdd(a b:List ByteArray):uh (a++b)=uh a++uh b:=zpb ..
def C9(ls:List ByteArray)(y:ByteArray):lu 1 (uh (ls++[y]))=lu 1 (uh ls)++[[Value.int .i64 ((ls.length+1:Nat):Int),Value.string y]]:=by
 rw[zdd];have:=C8 (uh ls) [Value.string y];rw[m4] at this;exact this
def V9:∀ {L:List ByteArray} {n:Nat} {p:wm},p<+:lu n (uh L)->∃ ls,p=lu n (uh ls)/\ls<+:L
 | [],n,p,h=>⟨[],List.prefix_nil.1 h,List.prefix_rfl⟩
 | x::L,n,[],h=>⟨[],rfl,List.nil_prefix⟩
 | x::L,n,q::p,h=>by
  have h':q::p<+:[Value.int .i64 (n:Int),Value.string x]::lu (n+1) (uh L):=h;rw[List.cons_prefix_cons] at h';obtain⟨rfl,h2⟩:=h';obtain⟨ls,rfl,h3⟩:=V9 h2;exact⟨x::ls,rfl,List.cons_prefix_cons.2 ⟨rfl,h3⟩⟩
def Xb{L:List ByteArray}{x:List Value}(h:pre++[x]<+:lu 1 (uh L)):∃ ls y,pre=lu 1 (uh ls)/\x=[Value.int .i64 ((ls.length+1:Nat):Int),Value.string y]/\ls++[y]<+:L:=by
 obtain⟨ls,e,hp⟩:=V9 h;rcases zss ls with rfl | ⟨ls',y,rfl⟩
 ·exact ni e (by simp [uh,lu])
 ·rw[zsf] at e hp;rw[C9] at e;obtain⟨h1,h2⟩:=List.append_inj' e rfl;exact⟨ls',y,h1,by simpa using h2,hp⟩
def B9{X:Type}(rd:ByteArray->X×Int):∀ (xs ls:List ByteArray),um rd 1 ls=true->
  ∃ ks,ju (fun p=>!um rd 1 (Mu p)) (lu 1 (uh ls)) (lu (1+ls.length) (uh xs))=lu 1 (uh ks)/\tn rd [] 1 ks=tn rd [] 1 (ls++xs)/\(um rd 1 ks=true->ks=ls++xs)
 | [],ls,h=>⟨ls,rfl,by rw[mq],fun _=>(mq _).symm⟩
 | x::xs,ls,h=>by
  have e1:lu 1 (uh ls)++[[Value.int .i64 ((1+ls.length:Nat):Int),Value.string x]]=lu 1 (uh (ls++[x])):=by rw[C9,zq0 1]
  show ∃ ks,(if (!um rd 1 (Mu (lu 1 (uh ls)++[[Value.int .i64 ((1+ls.length:Nat):Int),Value.string x]])))=true then _ else _)=_/\_;rw[e1,wy];cases hg:um rd 1 (ls++[x])
  ·refine⟨ls++[x],na Z,?_,fun h'=>by rw[hg] at h';cases h'⟩;rw[dc,h] at hg;exact(zb7 h (by simpa using hg)).symm
  ·obtain⟨ks,h1,h2,h3⟩:=B9 rd xs (ls++[x]) hg;refine⟨ks,?_,by rw[h2,mw];rfl,fun h'=>by rw[h3 h',mw];rfl⟩;rw[nc E,<-h1,nr];rfl
def tup3{φ1 φ2 φ3:Value->Heap->Prop}{a b c:Value}(h1:φ1 a H)(h2:φ2 b H)(h3:φ3 c H):TupS [φ1,φ2,φ3] (.tuple #[a,b,c]) H:=⟨[a,b,c],rfl,rfl,fun i φ x hi hx=>by
 match i with
 | 0=>cases hi;cases hx;exact h1
 | 1=>cases hi;cases hx;exact h2
 | 2=>cases hi;cases hx;exact h3⟩
end Go.V.L11
namespace Go.V
section
def U4(L:Tabs P){fo:Operand}(hop:o.op=.call { callee:=.value fo,args:=#[],argTypes:=#[] })(hfe:a.eval fo=.func (.func f) fst.toArray cap.toArray)(hfn:L.fn f=some ()):
  (execOp a.eval o).run P u=.ok (.enter f ((fst++cap).toArray)) u:=by
 simp only[execOp,hop,resolve,hfe,Deferred.ofValue,nw,me,ny,invoke];rw[gh L hfn];simp
def jh(L:Tabs P)(q:Nat)(r':GR)(v:Value){r:GR}{fo:Operand}
  (hn:Nat.blt d n=true) (hg:gK ops κ ⟨some d,.call { callee:=.value fo,args:=#[],argTypes:=#[] },ty,pos,aft,g⟩=some true)
  (hf:evK κ fo=some (.func (.func f) fst.toArray cap.toArray)) (hfn:L.fn f=some ()) (hq:κ q=some (.own r.res))
  (h:∀ u H C,zs4 H u->B.Le H->r.P H u C->(ZCB C u H)->RetX P f (fst++cap) u H C r' v):
  ve P F B n ops O κ ⟨some d,.call { callee:=.value fo,args:=#[],argTypes:=#[] },ty,pos,aft,g⟩ q (.own r'.res) d (.is v):=by
 rintro κ' a u hlk hks ⟨H,fp,hh⟩;unfold After;rw[na (xl hh hlk hg)];have hk':κ' q=some (.own r.res):=hks.trans hq;obtain⟨hown,hM⟩:=hh.slot q _ hk';have e2:=hh.env hlk;have hfe:a.eval fo=.func (.func f) fst.toArray cap.toArray:=e2.is_ fo _ (by simp [Op.operands,Call.operands]) hf;have hc:=h u H (fp q) hh.sub hh.base hown fun k hk=>⟨(hM k hk).1,(hM k hk).2.1⟩
 rw[U4 L rfl hfe hfn];simp only[Upon];refine Calls.mono hc fun e' u' hp=>?_;obtain⟨x,rfl,H',g',hx,C',hv,hC'⟩:=hp;have h2:=hh.usePut (d:=q) (a':=a) (r':=r'.res) hk' g' rfl rfl (fun _ _=>rfl) hv hC';rw[wg] at h2;exact⟨x,Z,H',_,h2.put (k:=.is v) (zm hn) trivial hx⟩
end
end Go.V
section
open Go.V
attribute [local irreducible] Has N Par Ret RetL RetO RetT RetX RetY Src StepOK V VO X kz
namespace Go.V.L4
def _root_.Zcc(t:Wr Y->A:=by exact fun h=>(Zy∘Zb) h.1)(h:Y):A:=t ⟨h⟩
def _root_.Zc4(t:Wr Y->A:=by exact fun h=>(Z5∘ZW) h.1)(h:Y):A:=t ⟨h⟩
def s9{bs:List Nat}{e:Int}(hb:∀ b∈bs,b<=255)(hl:bs.length<=1099511627776)(hat:R.at_<=bs.length)(hB:zs4 B w)(hs:BsV bs fu sv B)(hr:(GRd rb sv R).P B w C)(hC:ZCB C w B):
  RetX zs5 52 [kq rb,.int .u64 lim,.int .i64 e] w B C (GRd rb sv (ay bs lim e R).2) (.int .u64 ((ay bs lim e R).1:Nat)):=by
 unfold RetX;refine xf 900 (GRd rb sv R) Tryz.func52 Z Tryz.ntmps52 (np Z) hB hr hC ?_;rw[xd];obtain⟨⟨n,⟨at1,bad1,err1⟩⟩,hz⟩:∃ z,Lk bs R=z:=⟨_,rfl⟩
 obtain⟨at_,bad,err⟩:=R;unfold ay;rw[hz];dsimp only;have hnum:=fun(u:World) (H:Heap) (C2:Nat->Prop) (hH:zs4 H u) (hle:B.Le H) hr2 hC2=>hz ▸ Es (R:=⟨at_,bad,err⟩) (rb:=rb) (C:=C2) hb hl hat hH (hs.le hle) hr2 hC2;by_cases hlt:lim<n
 ·rw[na hlt];refine(Zc2∘ZW∘ZaZ) ?_;refine qg (yk L 900 (GRd rb sv ⟨at1,bad1,err1⟩) (.int .u64 n) (r:=GRd rb sv ⟨at_,bad,err⟩) Z Z Z Z Z hnum) ((Zk∘ZcE∘ZP∘Z3∘Zt∘Z8) ?_);refine qg (xe L 900 (GRd rb sv ((⟨at1,bad1,err1⟩:Rd).fail at_ e)) (r:=GRd rb sv ⟨at1,bad1,err1⟩) Z Z Z Z Z (fun u H C2 hH _ hr2 hC2=>oa hH hr2 hC2)) ((Zg∘ZS∘Zc) ?_);exact ke L 900 (r:=xc rb _ u7) (rs:=[.tmp 6]) Z (fun _ _ h=>h) nq Z Z (fun _=>rfl)
 ·rw[nc hlt];refine(Zc2∘ZW∘ZaZ) ?_;refine qg (yk L 900 (GRd rb sv ⟨at1,bad1,err1⟩) (.int .u64 n) (r:=GRd rb sv ⟨at_,bad,err⟩) Z Z Z Z Z hnum) ((Zk∘ZcE∘ZM∘Zx∘ZS∘Zc) ?_);exact ke L 900 (r:=xc rb _ u7) (rs:=[.tmp 6]) Z (fun _ _ h=>h) nq Z Z (fun _=>rfl)
def Rt{gf:Rd->Int×Rd}{fr:Nat}(hfn:L.fn fr=some ()){C:Nat->Prop}(hB:zs4 B w)(hr:(GRd rb sv R).P B w C)(hC:ZCB C w B)
  (hf:R.err=0->∀ (u:World) (H:Heap) (C:Nat->Prop),zs4 H u->B.Le H->(GRd rb sv R).P H u C->(ZCB C u H)->RetX zs5 fr (fst++cap) u H C (GRd rb sv (gf R).2) (.int .i64 ((gf R).1:Int))):
  RetX zs5 50 [kq rb,.func (.func fr) fst.toArray cap.toArray] w B C (GRd rb sv (dx gf 0 R).2) (.int .i64 ((dx gf 0 R).1:Int)):=by
 unfold RetX;refine xf 900 (GRd rb sv R) Tryz.func50 Z Tryz.ntmps50 (np Z) hB hr hC ?_;rw[xd];obtain⟨⟨n,⟨at1,bad1,err1⟩⟩,hz⟩:∃ z,gf R=z:=⟨_,rfl⟩
 obtain⟨at_,bad,err⟩:=R;unfold dx;rw[hz] at hf |-;dsimp only at hf |-;by_cases h0:err≠0
 ·rw[na h0];refine(ZK∘Zk∘Zz) ?_;refine qg (yk L 900 (GRd rb sv ⟨at_,bad,err⟩) (.bool true) (r:=GRd rb sv ⟨at_,bad,err⟩) Z Z Z Z Z (fun u H C2 hH _ hr2 hC2=>ki (nf h0) hH hr2 hC2)) ((Zn∘Zr∘Zc) ?_);exact ke L 900 (r:=xc rb _ u7) (rs:=[.tmp 4]) Z (fun _ _ h=>h) nq Z Z (fun _=>rfl)
 ·have he:err=0:=m9.1 h0;subst he;rw[nc h0];have hf:=hf rfl;by_cases h1:err1≠0
  ·rw[na h1];refine(ZK∘Zk∘Zz) ?_;refine qg (yk L 900 (GRd rb sv ⟨at_,bad,0⟩) (.bool false) (r:=GRd rb sv ⟨at_,bad,0⟩) Z Z Z Z Z (fun u H C2 hH _ hr2 hC2=>ki (ng h0) hH hr2 hC2)) ((Zx∘Zc4∘Zbm) ?_);refine qg (jh L 900 (GRd rb sv ⟨at1,bad1,err1⟩) (.int .i64 n) (r:=GRd rb sv ⟨at_,bad,0⟩) Z Z Z hfn Z hf) ((Zk∘ZL∘ZW∘Za0∘Zcc∘Zap) ?_);refine xo (yl L (q:=900) (cs':=[sv,.int .i64 at_,.int .i64 bad1,.int .i64 err1]) Z Z Z Z Z) ((Zg∘ZaI∘Zc) ?_);exact ke L 900 (r:=xc rb _ u7) (rs:=[.tmp 4]) Z (fun _ _ h=>h) nq Z Z (fun _=>rfl)
  ·have he:err1=0:=m9.1 h1;subst he;rw[nc h1];refine(ZK∘Zk∘Zz) ?_;refine qg (yk L 900 (GRd rb sv ⟨at_,bad,0⟩) (.bool false) (r:=GRd rb sv ⟨at_,bad,0⟩) Z Z Z Z Z (fun u H C2 hH _ hr2 hC2=>ki (ng h0) hH hr2 hC2)) ((Zx∘Zc4∘Zbm) ?_);refine qg (jh L 900 (GRd rb sv ⟨at1,bad1,0⟩) (.int .i64 n) (r:=GRd rb sv ⟨at_,bad,0⟩) Z Z Z hfn Z hf) ((Zk∘ZL∘ZW∘Zb4∘Zaq∘Zc) ?_);exact ke L 900 (r:=xc rb _ u7) (rs:=[.tmp 4]) Z (fun _ _ h=>h) nq Z Z (fun _=>rfl)
def Rp{gf:Rd->Nat×Rd}{fr:Nat}(hfn:L.fn fr=some ()){C:Nat->Prop}(hB:zs4 B w)(hr:(GRd rb sv R).P B w C)(hC:ZCB C w B)
  (hf:R.err=0->∀ (u:World) (H:Heap) (C:Nat->Prop),zs4 H u->B.Le H->(GRd rb sv R).P H u C->(ZCB C u H)->RetX zs5 fr (fst++cap) u H C (GRd rb sv (gf R).2) (.int .u64 ((gf R).1:Nat))):
  RetX zs5 206 [kq rb,.func (.func fr) fst.toArray cap.toArray] w B C (GRd rb sv (dx gf 0 R).2) (.int .u64 ((dx gf 0 R).1:Nat)):=by
 unfold RetX;refine xf 900 (GRd rb sv R) Tryz.func206 Z Tryz.ntmps206 (np Z) hB hr hC ?_;rw[xd];obtain⟨⟨n,⟨at1,bad1,err1⟩⟩,hz⟩:∃ z,gf R=z:=⟨_,rfl⟩
 obtain⟨at_,bad,err⟩:=R;unfold dx;rw[hz] at hf |-;dsimp only at hf |-;by_cases h0:err≠0
 ·rw[na h0];refine(ZK∘Zk∘Zz) ?_;refine qg (yk L 900 (GRd rb sv ⟨at_,bad,err⟩) (.bool true) (r:=GRd rb sv ⟨at_,bad,err⟩) Z Z Z Z Z (fun u H C2 hH _ hr2 hC2=>ki (nf h0) hH hr2 hC2)) ((Zn∘Zr∘Zc) ?_);exact ke L 900 (r:=xc rb _ u7) (rs:=[.tmp 4]) Z (fun _ _ h=>h) nq Z Z (fun _=>rfl)
 ·have he:err=0:=m9.1 h0;subst he;rw[nc h0];have hf:=hf rfl;by_cases h1:err1≠0
  ·rw[na h1];refine(ZK∘Zk∘Zz) ?_;refine qg (yk L 900 (GRd rb sv ⟨at_,bad,0⟩) (.bool false) (r:=GRd rb sv ⟨at_,bad,0⟩) Z Z Z Z Z (fun u H C2 hH _ hr2 hC2=>ki (ng h0) hH hr2 hC2)) ((Zx∘Zc4∘Zbm) ?_);refine qg (jh L 900 (GRd rb sv ⟨at1,bad1,err1⟩) (.int .u64 n) (r:=GRd rb sv ⟨at_,bad,0⟩) Z Z Z hfn Z hf) ((Zk∘ZL∘ZW∘Za0∘Zcc∘Zap) ?_);refine xo (yl L (q:=900) (cs':=[sv,.int .i64 at_,.int .i64 bad1,.int .i64 err1]) Z Z Z Z Z) ((Zg∘ZaI∘Zc) ?_);exact ke L 900 (r:=xc rb _ u7) (rs:=[.tmp 4]) Z (fun _ _ h=>h) nq Z Z (fun _=>rfl)
  ·have he:err1=0:=m9.1 h1;subst he;rw[nc h1];refine(ZK∘Zk∘Zz) ?_;refine qg (yk L 900 (GRd rb sv ⟨at_,bad,0⟩) (.bool false) (r:=GRd rb sv ⟨at_,bad,0⟩) Z Z Z Z Z (fun u H C2 hH _ hr2 hC2=>ki (ng h0) hH hr2 hC2)) ((Zx∘Zc4∘Zbm) ?_);refine qg (jh L 900 (GRd rb sv ⟨at1,bad1,0⟩) (.int .u64 n) (r:=GRd rb sv ⟨at_,bad,0⟩) Z Z Z hfn Z hf) ((Zk∘ZL∘ZW∘Zb4∘Zaq∘Zc) ?_);exact ke L 900 (r:=xc rb _ u7) (rs:=[.tmp 4]) Z (fun _ _ h=>h) nq Z Z (fun _=>rfl)
def Nj{bs:List Nat}(hb:∀ b∈bs,b<=255)(hl:bs.length<=1099511627776)(hat:R.at_<=bs.length)(hB:zs4 B w)(hs:BsV bs fu sv B)(hr:(GRd rb sv R).P B w C)(hC:ZCB C w B):
  RetX zs5 151 [kq rb] w B C (GRd rb sv (r7 bs R).2) (.int .u64 ((r7 bs R).1:Nat)):=by
 unfold RetX;refine xf 900 (GRd rb sv R) Tryz.func151 Z Tryz.ntmps151 (np Z) hB hr hC ?_;rw[xd];refine(ZK∘Zb∘Za7) ?_;refine qg (yk L 900 (GRd rb sv (r7 bs R).2) (.int .u64 ((r7 bs R).1:Nat)) (r:=GRd rb sv R) Z Z Z Z Z (fun u H C2 hH hle hr2 hC2=>Rp (gf:=Lk bs) (fst:=[kq rb]) (cap:=[]) Z hH hr2 hC2 (fun _ u3 H3 C3 hH3 hle3 hr3 hC3=>Es hb hl hat hH3 ((hs.le hle).le hle3) hr3 hC3))) (Zc (h:=?_));exact ke L 900 (r:=xc rb _ u7) (rs:=[.tmp 2]) Z (fun _ _ h=>h) nq Z Z (fun _=>rfl)
def zcu{b2 b3:Nat}{bs:List Nat}(hlim:lim<=1099511627776)(hb:∀ b∈bs,b<=255)(hl:bs.length<=1099511627776)(hat:R.at_<=bs.length)(hB:zs4 B w)(hs:BsV bs fu sv B)(h2:B b2=some (.cells #[kq rb] 58))(h3:B b3=some (.cells #[.int .i64 lim] 3))(hr:(GRd rb sv R).P B w C)(hC:ZCB C w B):
  RetX zs5 51 [kq b2,kq b3] w B C (GRd rb sv (ze1 bs lim R).2) (.int .i64 (ze1 bs lim R).1):=by
 unfold RetX;refine xf 900 (GRd rb sv R) Tryz.func51 Z Tryz.ntmps51 (np Z) hB hr hC ?_;rw[xd];have hmx:max (lim:Int) 0=lim:=T;have hcu:IntKind.u64.wrap (lim:Int)=(lim:Int):=wrap_u64 T T;obtain⟨⟨n,⟨at1,bad1,err1⟩⟩,hz⟩:∃ z,ay bs lim 3 R=z:=⟨_,rfl⟩
 unfold ze1;rw[hz];dsimp only;have hci:IntKind.i64.wrap ((n:Nat):Int)=IntKind.i64.wrap ((n:Nat):Int):=rfl;refine ZK (h:=?_);refine z7 (zo L (qt Z h2) Z Z Z Z) Z (z7 (zo L (qt Z h3) Z Z Z Z) Z (z7 (ry Z Z Z Z Z) Z (z7 (kr Z Z Z oj.1 oj.2 (wrap_u64 T T)) Z (qg (yk L 900 (GRd rb sv ⟨at1,bad1,err1⟩) (.int .u64 n) (r:=GRd rb sv R) Z Z Z Z Z (fun u H C2 hH hle hr2 hC2=>by have h:=s9 (lim:=lim) (e:=3) hb hl hat hH (hs.le hle) hr2 hC2;rw[hz] at h;exact h)) ?_))));refine z7 (kr Z Z Z Z Z hci) Z (Zc (h:=?_));exact ke L 900 (r:=xc rb _ u7) (rs:=[.tmp 2]) Z (fun _ _ h=>h) nq Z Z (fun _=>rfl)
def len_ret{bs:List Nat}(hlim:lim<=1099511627776)(hb:∀ b∈bs,b<=255)(hl:bs.length<=1099511627776)(hat:R.at_<=bs.length)(hB:zs4 B w)(hs:BsV bs fu sv B)(hr:(GRd rb sv R).P B w C)(hC:ZCB C w B):
  RetX zs5 14 [kq rb,.int .i64 lim] w B C (GRd rb sv (wl bs lim R).2) (.int .i64 (wl bs lim R).1):=by
 unfold RetX;refine xf 900 (GRd rb sv R) Tryz.func14 Z Tryz.ntmps14 (np Z) hB hr hC ?_;rw[xd];refine(Zbw∘Zeq∘Zd) ?_;refine jd 2 901 rfl fun b2=>?_;refine jd 3 902 rfl fun b3=>?_;refine wk 901 rfl fun H1 hs1 _ h2=>?_;refine wk 902 rfl fun H2 hs2 _ h3=>?_;have h2:=hs2.le _ _ h2;have hs12:=hs1.trans hs2;have hs':=hs.le hs12.le;refine Zan (h:=?_);refine z7 (zo L (qt Z h2) Z Z Z Z) Z (Za7 (h:=?_));refine qg (yk L 900 (GRd rb sv (wl bs lim R).2) (.int .i64 (wl bs lim R).1) (r:=GRd rb sv R) Z Z Z Z Z (fun u H C2 hH hle hr2 hC2=>Rt (gf:=ze1 bs lim) (fst:=[]) (cap:=[kq b2,kq b3]) Z hH hr2 hC2 (fun _ u3 H3 C3 hH3 hle3 hr3 hC3=>zcu hlim hb hl hat hH3 ((hs'.le hle).le hle3) ((hle.trans hle3) _ _ h2) ((hle.trans hle3) _ _ h3) hr3 hC3))) (Zc (h:=?_));exact ke L 900 (r:=xc rb _ u7) (rs:=[.tmp 4]) Z (fun _ _ h=>h) hs12 Z Z (fun _=>rfl)
def Hb(bs:List Nat)(R:Rd):Nat×Int:=if R.err=0/\R.at_<bs.length then (R.at_,5) else (R.bad,R.err)
def at_ret(hB:zs4 B w)(hr:(GRd rb sv R).P B w C)(hC:ZCB C w B):RetX zs5 205 [kq rb] w B C (GRd rb sv R) (.int .i64 R.at_):=by
 unfold RetX;refine xf 900 (GRd rb sv R) Tryz.func205 Z Tryz.ntmps205 (np Z) hB hr hC ?_;rw[xd];refine(Zck∘Zfk∘Zx∘Zr∘ZW∘Zc) ?_;exact ke L 900 (r:=xc rb _ u7) (rs:=[.tmp 2]) Z (fun _ _ h=>h) nq Z Z (fun _=>rfl)
def Bf(hl:bs.length<=1099511627776)(hat:R.at_<=bs.length)(hB:zs4 B w)(hs:BsV bs fu sv B)(hr:(GRd rb sv R).P B w C)(hC:ZCB C w B):RetX zs5 66 [kq rb] w B C (GRd rb sv R) (.int .i64 (bs.length-R.at_:Nat)):=by
 obtain⟨p,c,rfl⟩:=jk hs;unfold RetX;refine xf 900 (GRd rb _ R) Tryz.func66 Z Tryz.ntmps66 (np Z) hB hr hC ?_;rw[xd];obtain⟨at_,bad,err⟩:=R;dsimp only[rdC] at hat |-;have hw:IntKind.i64.wrap ((bs.length:Int)-(at_:Int))=((bs.length-at_:Nat):Int):=(xb T T).trans T;refine(Zck∘Zfk∘Zx) ?_;refine qn (id:=3) [(200008,[900]),(200013,[900])] ko J ((Zbo∘ZdL∘Zbo∘ZdR∘ZaS) ?_);exact ke L 900 (r:=xc rb _ u7) (rs:=[.tmp 2]) Z (fun _ _ h=>h) nq Z Z (fun _=>rfl)
def fault_ret(hB:zs4 B w)(hr:(GRd rb sv R).P B w C)(hC:ZCB C w B):RetX zs5 67 [kq rb] w B C (GRd rb sv R) (.tuple #[.int .i64 R.bad,.int .i64 R.err]):=by
 unfold RetX;refine xf 900 (GRd rb sv R) Tryz.func67 Z Tryz.ntmps67 (np Z) hB hr hC ?_;rw[xd];refine(ZbX∘Zbd∘Zfk∘Zx) ?_;refine qn (id:=3) [(200009,[900]),(200013,[900])] ko J ((Zbo∘Zbo∘ZaK∘ZaS) ?_);exact ke L 900 (r:=xc rb _ u7) (rs:=[.tmp 2,.tmp 3]) Z (fun _ _ h=>h) nq Z Z (fun _=>rfl)
def Ym(hl:bs.length<=1099511627776)(hat:R.at_<=bs.length)(hB:zs4 B w)(hs:BsV bs fu sv B)(hr:(GRd rb sv R).P B w C)(hC:ZCB C w B):RetX zs5 20 [kq rb] w B C (GRd rb sv R) (.tuple #[.int .i64 (Hb bs R).1,.int .i64 (Hb bs R).2]):=by
 unfold RetX;refine xf 900 (GRd rb sv R) Tryz.func20 Z Tryz.ntmps20 (np Z) hB hr hC ?_;rw[xd];obtain⟨at_,bad,err⟩:=R;unfold Hb;dsimp only[rdC] at hat |-;by_cases h0:err=0
 ·subst h0;by_cases h1:at_<bs.length
  ·rw[na ⟨rfl,h1⟩];refine(ZbX∘Zbd) ?_;refine qg (yk L 900 (GRd rb sv ⟨at_,bad,0⟩) (.bool false) (r:=GRd rb sv ⟨at_,bad,0⟩) Z Z Z Z Z (fun u H C2 hH _ hr2 hC2=>ki (ng fun h=>h Z) hH hr2 hC2)) ((Zm∘Zb) ?_);refine qg (yk L 900 (GRd rb sv ⟨at_,bad,0⟩) (.int .i64 (bs.length-at_:Nat)) (r:=GRd rb sv ⟨at_,bad,0⟩) Z Z Z Z Z (fun u H C2 hH hle hr2 hC2=>Bf hl hat hH (hs.le hle) hr2 hC2)) ((ZP∘Zbe∘Zz∘ZW∘ZI) ?_);exact ke L 900 (r:=xc rb _ u7) (rs:=[.tmp 2,.tmp 3]) Z (fun _ _ h=>h) nq Z Z (fun _=>rfl)
  ·rw[nc (fun h=>h1 h.2)];refine(ZbX∘Zbd) ?_;refine qg (yk L 900 (GRd rb sv ⟨at_,bad,0⟩) (.bool false) (r:=GRd rb sv ⟨at_,bad,0⟩) Z Z Z Z Z (fun u H C2 hH _ hr2 hC2=>ki (ng fun h=>h Z) hH hr2 hC2)) ((Zm∘Zb) ?_);refine qg (yk L 900 (GRd rb sv ⟨at_,bad,0⟩) (.int .i64 (bs.length-at_:Nat)) (r:=GRd rb sv ⟨at_,bad,0⟩) Z Z Z Z Z (fun u H C2 hH hle hr2 hC2=>Bf hl hat hH (hs.le hle) hr2 hC2)) ((ZM∘Zcz∘Zr) ?_);refine qg (yk L 900 (GRd rb sv ⟨at_,bad,0⟩) (.tuple #[.int .i64 bad,.int .i64 0]) (r:=GRd rb sv ⟨at_,bad,0⟩) Z Z Z Z Z (fun u H C2 hH hle hr2 hC2=>fault_ret hH hr2 hC2)) ((Zdb∘ZI) ?_);exact ke L 900 (r:=xc rb _ u7) (rs:=[.tmp 2,.tmp 3]) Z (fun _ _ h=>h) nq Z Z (fun _=>rfl)
 ·rw[nc (fun h=>h0 h.1)];refine(ZbX∘Zbd) ?_;refine qg (yk L 900 (GRd rb sv ⟨at_,bad,err⟩) (.bool true) (r:=GRd rb sv ⟨at_,bad,err⟩) Z Z Z Z Z (fun u H C2 hH _ hr2 hC2=>ki (nf h0) hH hr2 hC2)) ((Zm∘Zcl∘Zx∘Zr) ?_);refine qg (yk L 900 (GRd rb sv ⟨at_,bad,err⟩) (.tuple #[.int .i64 bad,.int .i64 err]) (r:=GRd rb sv ⟨at_,bad,err⟩) Z Z Z Z Z (fun u H C2 hH hle hr2 hC2=>fault_ret hH hr2 hC2)) ((Zdb∘ZI) ?_);exact ke L 900 (r:=xc rb _ u7) (rs:=[.tmp 2,.tmp 3]) Z (fun _ _ h=>h) nq Z Z (fun _=>rfl)
end Go.V.L4
end
namespace Go.V.L4
def _root_.Zbp(t:Wr Y->A:=by exact fun h=>(Zan∘Za) h.1)(h:Y):A:=t ⟨h⟩
def Ra(bs:List Nat):(bs.map fun b:Nat=>Value.int .u8 (b:Int)).all gj=true:=by
 rw[zo9];intro v hv;obtain⟨b,_,rfl⟩:=zoz.1 hv;rfl
abbrev zov(bs:List Nat)(R:Rd)(rb:Nat):GR:=GEx (X:=Value) (fun sv=>GRd rb sv R) (fun sv H=>BsV bs false sv H) (fun _ _ _ h hle=>h.le hle)
attribute [local irreducible] V N X VO Par StepOK Has Ret RetL RetO RetT kz RetX RetY Src
def Fc(hz:bs.length<=1099511627776)(hB:zs4 B w)(hv:BsV bs fu v B):
  RetO zs5 49 [v] w B (SlR zaw 1 bs.length (bs.map fun b:Nat=>Value.int .u8 (b:Int))):=by
 have hv0:=hv;have hlen:(bs.map fun b:Nat=>Value.int .u8 (b:Int)).length=bs.length*1:=by rw[m4,zqa]
 have hpl:=Ra bs;obtain⟨p,c,rfl⟩:=jk hv;rcases p with _ | b
 ·obtain⟨h0,rfl⟩:bs.length=0/\c=0:=F6 hv;have hn:bs=[]:=zow h0;subst hn;refine wz Tryz.func49 Z Tryz.ntmps49 (np Z) hB (Zck (h:=?_));refine z7 (u9 Z Z Z Z znq Z) Z ((Zn∘Zv∘Zc) ?_);exact ul 2 zaw 1 rfl (lf Z (fun _ _ h=>h) nq Z)
 ·refine wz Tryz.func49 Z Tryz.ntmps49 (np Z) hB (Zck (h:=?_));refine z7 (u9 Z Z Z Z znq Z) Z (Zx (h:=?_));refine k7 0 (BsV bs fu) Z ns hv0 (Z6 (h:=?_));refine z7 (cu L Z Z Z Z Z) Z (Zh (h:=?_));refine qg (w8 L Z Z Z (Mn Z) Z el5 M M T T) (qg (yu (.inr Z) Z) (Zw (h:=?_)));rw[zo2,mj];exact lf Z (fun _ _ h=>h) nq Z
def zj8(hz:bs.length<=1099511627776)(hB:zs4 B w)(hv:BsV bs fu v B):
  RetO zs5 13 [v] w B (Ht kq (zov bs ⟨0,0,0⟩)):=by
 obtain⟨p,c,rfl⟩:=jk hv;refine wz Tryz.func13 Z Tryz.ntmps13 (np Z) hB ((ZQ∘Zd) ?_);refine Zbp (h:=?_);refine z7 (wq L rfl rfl (zm rfl) rfl rfl rfl (fun u H hH hle _=>Fc hz hH (hv.le hle))) rfl (Bv 4 rfl ?_);refine vo 4 rfl fun sv H1 hs1 hsv=>?_;obtain⟨p1,c1,rfl⟩:=jk hsv;refine z7 (yv (cs:=[_,_,_,_]) rfl rfl zmr rfl rfl) rfl (Zeq (h:=?_));refine qg (yu (.inr rfl) rfl) (Zw (h:=?_));refine jd 2 900 rfl fun rb=>?_;exact O4 L 900 (r0:=GRd rb _ ⟨0,0,0⟩) (v:=kq rb) (rs:=[.tmp 2]) Z (fun _ _ h=>h) hs1 Z (fun _=>rfl) (fun H u C hle _ hr=>⟨rb,rfl,_,hsv.le hle,hr⟩)
end Go.V.L4
namespace Go.V.L4
def _root_.ZR(t:Wr Y->A:=by intro h;refine z7 (yt Z Z Z) Z ?_;exact h.1)(h:Y):A:=t ⟨h⟩
def _root_.Zdn(t:Wr Y->A:=by intro h;refine z7 (zet Z Z Z Z T M) Z ?_;exact h.1)(h:Y):A:=t ⟨h⟩
def _root_.Zec(t:Wr Y->A:=by intro h;refine z7 (zca L Z Z Z Z Z Z Z) Z ?_;exact h.1)(h:Y):A:=t ⟨h⟩
def _root_.ZaA(t:Wr Y->A:=by exact fun h=>(Zab∘Zb8) h.1)(h:Y):A:=t ⟨h⟩
def gl(n:Nat):List Nat:=if n<128 then [n] else (n%128+128)::gl (n/128)
termination_by n
decreasing_by omega
def ez(h:n<128):gl n=[n]:=by unfold gl;rw[if_pos h]
def Gp(h:¬ n<128):gl n=(n%128+128)::gl (n/128):=by rw[gl,nc h]
abbrev zi3:TypeId:=46
abbrev byV(bs:List Nat):List Value:=bs.map fun b:Nat=>Value.int .u8 (b:Int)
def GSl(sv:Value)(bs:List Nat):GR:=⟨fun H u C=>(SlR zaw 1 bs.length (byV bs)).P sv H u C,(SlR zaw 1 bs.length (byV bs)).st⟩
def G0(sv:Value)(bs:List Nat):(GSl sv bs).res=AtV sv (SlR zaw 1 bs.length (byV bs)):=rfl
abbrev GWv(wb:Nat)(bs:List Nat)(sv:Value):GR:=gu (xc wb [sv] zi3) (GSl sv bs)
def O6(v:Value):Prop:=∃ p k c,v=.slice p k c
def dv:oc fun(sv:Value) (_:Heap)=>O6 sv:=fun _ _ _ h _=>h
abbrev GWr(wb:Nat)(bs:List Nat):GR:=GEx (X:=Value) (GWv wb bs) (fun sv _=>O6 sv) dv
def Pw{s:Nat}:∀ v H u C,(SlR e s n xs).P v H u C->O6 v:=fun v H u C ⟨_,h⟩=>by
 rcases h with ⟨_,rfl,_⟩ | ⟨b,c,r,rfl,_⟩<;>exact⟨_,_,_,rfl⟩
def Q9(acc:List Nat)(m:Nat):byV acc++[Value.int .u8 (m:Int)]=byV (acc++[m]):=by unfold byV;rw[List.map_append];rfl
def rz:∀ (k n:Nat),n<128^(k+1)->(gl n).length<=k+1
 | 0,n,h=>by rw[ez T];exact nu _
 | k+1,n,h=>by
  by_cases h2:n<128
  ·rw[ez h2];exact Nat.le_add_left _ _
  ·rw[Gp h2,nz];have:=rz k (n/128) (by rw[Nat.pow_succ] at h;exact Nat.div_lt_of_lt_mul (by rw[Nat.mul_comm];exact h));omega
def zd7(h:n<18446744073709551616):bits .and .u64 (n:Int) 127=((n%128:Nat):Int):=by
 have h2:=bits_and_u64_nat n 127 h E;rw[show n &&& 127=n%128 from Nat.and_two_pow_sub_one_eq_mod n 7] at h2;exact h2
def zg2(n:Nat):bits .or .u64 ((n%128:Nat):Int) 128=((n%128+128:Nat):Int):=by
 have h2:=bits_or_u64_nat (n%128) 128 T E;have h3:=zer (a:=n%128) (b:=1) (i:=7) T;rw[show 1*2^7=128 from rfl] at h3;rw[h3] at h2;exact h2
def GNo:GR:=⟨fun _ _ C=>∀ k,¬ C k,fun h _ _ _ _=>h⟩
def Tj{f:FuncId}(h:RetL P f args w B C (fun v H _=>φ v H)):RetY P f args w B C GNo φ:=RetL.mono h fun _ _ _ _ hp=>⟨hp,fun _=>False,fun _ h=>h,fun _ h=>h.elim⟩
attribute [local irreducible] V N X VO Par StepOK Has Ret RetL RetO RetT kz RetX RetY Src
def u5{wb:Nat}(hn:n<18446744073709551616)(hz:bs.length+10<=1099511627776)(hB:zs4 B w)(hr:(GWr wb bs).P B w C)(hC:ZCB C w B):
  kz zs5 9 [kq wb,.int .u64 n] w B C (GWr wb (bs++gl n)):=by
 unfold kz;refine xf 900 (GWr wb bs) Tryz.func9 Z Tryz.ntmps9 (np Z) hB hr hC ?_;refine uk (X:=Value) 900 (r:=fun sv=>(GWv wb bs sv).res) (φ:=fun sv _=>O6 sv) (hφ:=dv) Z fun sv H0 hs0 hsp=>?_;refine uj (r1:=xu wb [sv] zi3) (r2:=(GSl sv bs).res) 900 901 rfl (xi _) ?_;rw[G0];refine(Ze∘ZQ∘Za) ?_;refine z7 (u9 Z Z Z Z zhd Z) Z ((Zx∘Zar) ?_);refine xp (fun x:Value×Nat×List Nat=>[(0,.is (kq wb)),(1,.is (.int .u64 x.2.1)),(900,.own (xu wb [x.1] zi3)),(901,.own (AtV x.1 (SlR zaw 1 x.2.2.length (byV x.2.2))))]) (fun x=>x.2.1<18446744073709551616/\O6 x.1/\x.2.2.length+(gl x.2.1).length=bs.length+(gl n).length/\x.2.2++gl x.2.1=bs++gl n) (fun x=>x.2.1) (sv,n,bs) ⟨hn,hsp,rfl,rfl⟩ ⟨Z,Z,Z,Z,nm⟩ ?_;rintro⟨s1,m,acc⟩ ⟨hm,hp1,hl,he⟩;dsimp only at hm hp1 hl he |-;have hlen:(byV acc).length=acc.length*1:=by rw[m4,zqa]
 have hpl:=Ra acc;have h128:(128:Nat)^10=1180591620717411303424:=E;have hnl:=rz 9 n T;have haz:acc.length<=1099511627776:=T;by_cases h:m<128
 ·rw[ez h] at he;have hcv:IntKind.u8.wrap (m:Int)=(m:Int):=Fq T T;refine(Zf∘Zbp∘Za6∘ZaJ∘ZaH∘Zbr∘Zt∘Zb5) ?_;refine pf 27 901 rfl rfl (Za (h:=?_));refine z7 (kr rfl rfl rfl Qu.1 Qu.2 (Fq T T)) rfl (ZaF (h:=?_));refine qg (w8 L rfl rfl rfl (o6 rfl) rfl el5 rfl rfl T T) ?_;refine c7 31 901 O6 rfl Pw fun s2 hp2=>?_;obtain⟨p2,k2,c2,rfl⟩:=hp2;refine Zap (h:=?_);refine xo (yl L (q:=900) (cs':=[.slice p2 k2 c2]) rfl rfl rfl rfl rfl) (Zab (h:=?_));have e1:byV acc++G5 [(0,Value.int .u8 (m:Int))]=byV (bs++gl n):=by rw[<-he];exact Q9 acc m
  have e2:acc.length+1=(bs++gl n).length:=by rw[<-he,nr];rfl
  rw[e1,e2];refine o9 900 901 rfl Z (Hn _ _) ?_;exact ol (X:=Value) 900 (r:=fun sv=>(GWv wb (bs++gl n) sv).res) (φ:=fun sv _=>O6 sv) dv (.slice p2 k2 c2) ⟨_,_,_,rfl⟩ Z (xw L 900 (r:=GWr wb (bs++gl n)) Z (fun _ _ h=>h) hs0 Z Z)
 ·rw[Gp h] at he hl;have hand:=zd7 hm;have hor:=zg2 m;have hcv:IntKind.u8.wrap ((m%128+128:Nat):Int)=((m%128+128:Nat):Int):=Fq T T
  have hsr:(m:Int).fdiv (2^min (7:Int).toNat IntKind.u64.bits)=((m/128:Nat):Int):=by
   show(m:Int).fdiv 128=_;rw[zri _ E];omega
  refine(Zf∘Zbp∘Zcp∘Zao∘Zar∘ZcE∘ZW) ?_;refine pf 14 901 rfl rfl ((Za∘Ze4∘ZeD) ?_);refine z7 (kr rfl rfl rfl Qu.1 Qu.2 (Fq T T)) rfl (ZaF (h:=?_));refine qg (w8 L rfl rfl rfl (o6 rfl) rfl el5 rfl rfl T T) ?_;refine c7 20 901 O6 rfl Pw fun s2 hp2=>?_;obtain⟨p2,k2,c2,rfl⟩:=hp2;refine Zap (h:=?_);refine xo (yl L (q:=900) (cs':=[.slice p2 k2 c2]) rfl rfl rfl rfl rfl) ((ZaA∘Zz∘Zdn∘Zby) ?_);have e1:byV acc++G5 [(0,Value.int .u8 ((m%128+128:Nat):Int))]=byV (acc++[m%128+128]):=Q9 _ _;have e2:acc.length+1=(acc++[m%128+128]).length:=by rw[nr];rfl
  rw[e1,e2];exact yo (x:=(s1,m,acc)) (.slice p2 k2 c2,m/128,acc++[m%128+128]) ⟨by dsimp only;omega,⟨_,_,_,rfl⟩,by dsimp only;rw[List.length_append];rw[List.length_cons] at hl;simp only[List.length_cons,List.length_nil];omega,by dsimp only;rw[List.append_assoc];exact he⟩ G ⟨Z,Z,Z,Z,trivial⟩
def Y2(hB:zs4 B w)(hv:BsV bs fu v B):Ret zs5 53 [v] w B (BsV bs true):=by
 refine yr Tryz.func53 Z Tryz.ntmps53 (np Z) hB (k7 0 (BsV bs fu) Z ns hv ((ZK∘Zh∘Zj∘Zj∘Zec∘ZR∘Zw) ?_));refine yj1 L [.tmp 2] fun u H hH hle=>?_;exact fun v hv=>hv
def Ro{wb:Nat}(hz:bs.length<=1099511627776)(hB:zs4 B w)(hr:(GWr wb bs).P B w C)(hC:ZCB C w B):
  RetL zs5 15 [kq wb] w B C (fun v H _=>BsV bs true v H):=by
 refine xf 900 (GWr wb bs) Tryz.func15 Z Tryz.ntmps15 (np Z) hB hr hC ?_;refine uk (X:=Value) 900 (r:=fun sv=>(GWv wb bs sv).res) (φ:=fun sv _=>O6 sv) (hφ:=dv) Z fun sv H0 hs0 hsp=>?_;refine uj (r1:=xu wb [sv] zi3) (r2:=(GSl sv bs).res) 900 901 rfl (xi _) ?_;rw[G0];obtain⟨p,k,c,rfl⟩:=hsp;refine Zck (h:=?_);refine z7 (u9 Z Z Z Z zhd Z) Z ((Zx∘Zr∘ZW) ?_);refine pf 8 901 rfl Z (Bv 8 rfl (z7 (wq L Z Z (zm Z) Z Z Z (fun u H hH hle _ v1 h1=>Fc hz hH h1)) Z (Bv 9 rfl (z7 (xg (φ:=BsV bs true) L Z Z (zm Z) Z Z Z ns (fun u H hH hle _ v1 h1=>Y2 hH h1)) Z ((ZR∘Zw) ?_)))));exact yj L (rs:=[.tmp 2]) Z (fun _ _ h=>h) hs0 (fun _ H _ _ v hv=>hv)
end Go.V.L4
namespace Go.V
section
variable             {src dst:TypeId}  
def rj{vs:Array Value}(h:u.heap[b]?=some (.cells vs t' fr)):u.shape? b=some (t',vs.size):=by simp [World.shape?,h]
def Nz(hx:evK κ x=some (.pointer (some ⟨b,0,none⟩)))(hq:κ q=some (.own (xu b cs t')))(hn:Nat.blt d n=true)(hg:gK ops κ ⟨some d,.convert src dst x,ty,pos,aft,g⟩=some true)(hs:P.underlying src=some (.pointer t))(hd:P.underlying dst=some .unsafePointer)(hj:(P.info? t).map (fun j=>decide (j.size≠0))=some true)(hc:Nat.ble 1 cs.length=true):
  StepOKR P F B n ops O κ ⟨some d,.convert src dst x,ty,pos,aft,g⟩ q d (.is (.pointer (some ⟨b,0,none⟩))):=by
 obtain⟨j,ht,hj⟩:∃ j,P.info? t=some j/\j.size≠0:=by
  cases h:P.info? t with
  | none=>rw[h] at hj;cases hj
  | some j=>rw[h] at hj;exact⟨j,rfl,by simpa using hj⟩
 rintro κ' a u hlk hqk ⟨H,fp,hh⟩;unfold After;rw[na (xl hh hlk hg)];have e:=hh.env hlk;have h1:=e.is_ x _ (by simp [Op.operands]) hx;obtain⟨⟨h2,hC⟩,hM⟩:=hh.slot q _ (hqk.trans hq);have hr:=Lib.run_to_unsafe (P:=P) u (src:=src) (dst:=dst) ⟨b,0,none⟩ hs hd ht hj (rj h2) (by have:=np hc;simp only[zrp];omega)
 have hrun:(execOp a.eval ⟨some d,.convert src dst x,ty,pos,aft,g⟩).run P u=.ok (.value (.pointer (some ⟨b,0,none⟩))) u:=by
  simp only[execOp,h1,nw,me,hr,ny]
 rw[hrun];simp only[Upon];exact⟨H,fp,hh.put (k:=.is _) (zm hn) trivial Z⟩
def Gm(hx:evK κ x=some (.pointer (some ⟨b,0,none⟩)))(hq:κ q=some (.own (xu b cs t')))(hn:Nat.blt d n=true)(hg:gK ops κ ⟨some d,.convert src dst x,ty,pos,aft,g⟩=some true)(hs:P.underlying src=some .unsafePointer)(hd:P.underlying dst=some (.pointer t))(ht:(P.info? t).isSome=true)(hm:cs.length=m)(hl:liesAt P P.depth t' (m/P.cellsOf t') 0 t 1=true):
  StepOKR P F B n ops O κ ⟨some d,.convert src dst x,ty,pos,aft,g⟩ q d (.is (.pointer (some ⟨b,0,none⟩))):=by
 obtain⟨j,ht⟩:=zp1.1 ht;rintro κ' a u hlk hqk ⟨H,fp,hh⟩;subst hm;unfold After;rw[na (xl hh hlk hg)];have e:=hh.env hlk;have h1:=e.is_ x _ (by simp [Op.operands]) hx;obtain⟨⟨h2,hC⟩,hM⟩:=hh.slot q _ (hqk.trans hq);have hr:=Lib.run_from_unsafe (P:=P) u (src:=src) (dst:=dst) ⟨b,0,none⟩ hs hd ht (rj h2) (by simpa using hl)
 have hrun:(execOp a.eval ⟨some d,.convert src dst x,ty,pos,aft,g⟩).run P u=.ok (.value (.pointer (some ⟨b,0,none⟩))) u:=by
  simp only[execOp,h1,nw,me,hr,ny]
 rw[hrun];simp only[Upon];exact⟨H,fp,hh.put (k:=.is _) (zm hn) trivial Z⟩
def Sm{te:TypeId}{a0:Addr}(hn:Nat.blt d n=true)(hg:gK ops κ ⟨some d,.binOp .neq t x y t',ty,pos,aft,g⟩=some true)(hx:evK κ x=some (.pointer (some a0)))(hy:evK κ y=some (.pointer (some a0)))(hp:P.underlying t=some (.pointer te))(hte:(P.info? te).isSome=true):
  StepOK P F B n ops O κ ⟨some d,.binOp .neq t x y t',ty,pos,aft,g⟩ d (.is (.bool false)):=by
 obtain⟨j,hte⟩:=zp1.1 hte;exact w7 hn hg hx hy fun u=>Lib.run_neq_ptr_same u a0 hp hte
def N7{fo:Operand}{r:Value}(hn:Nat.blt d n=true)(hg:gK ops κ ⟨some d,.call { callee:=.value fo,args:=#[x],argTypes:=at_ },ty,pos,aft,g⟩=some true)(hfo:evK κ fo=some (.func (.func f) #[] #[]))(hx:evK κ x=some v)(hext:∀ u,(callFunc f #[v]).run P u=.ok (.value r) u):
  StepOK P F B n ops O κ ⟨some d,.call { callee:=.value fo,args:=#[x],argTypes:=at_ },ty,pos,aft,g⟩ d (.is r):=by
 rintro κ' a u hlk ⟨H,fp,hh⟩;unfold After;rw[na (xl hh hlk hg)];have e:=hh.env hlk;have h1:a.eval x=v:=e.is_ x _ (by simp [Op.operands,Call.operands]) hx;have h2:a.eval fo=.func (.func f) #[] #[]:=e.is_ fo _ (by simp [Op.operands,Call.operands]) hfo
 have hrun:(execOp a.eval ⟨some d,.call { callee:=.value fo,args:=#[x],argTypes:=at_ },ty,pos,aft,g⟩).run P u=.ok (.value r) u:=by
  simp only[execOp,resolve,h2,Deferred.ofValue,nw,me,ny,invoke];simp [h1,hext]
 rw[hrun];simp only[Upon];exact⟨H,fp,hh.put (k:=.is r) (zm hn) trivial Z⟩
end
end Go.V
namespace Go.V
def zd5(u:World){t ty2 e:TypeId}{aty:TypeId}{i:TypeInfo}{z:Value}(ht:P.underlying t=some (.slice e))(hu:P.underlying ty2=some .string)(hi:P.info? e=some i)(hz:i.zero=some z)(hs1:i.size=1)(hs2:i.bytes=1)(hs3:z.cells.size=1)
  {x:Value}    {nn:Nat}  (hsub:zs4 H u) (hown:(SlR e 1 nn xs).P x H u C) (hlt:ZCB C u H) (h63:nn+str.size<=9223372036854775807) (hb:nn+str.size<=140737488355328):
  ∃ x' u' C',(Builtin.append_ #[t,ty2] aty #[x,.string str]).run P u=.ok x' u'/\(SlR e 1 (nn+str.size) (xs++Lib.strCells str)).P x' H u' C'/\Grow C u H u' H/\∀ k,C' k->(C k\/u.heap.size<=k)/\k<u'.heap.size/\H k=none:=by
 have hl:=Lib.strCells_length str;generalize hnews:Lib.strCells str=news at hl |-;obtain⟨m,hm0⟩:∃ m,str.size=m:=⟨_,rfl⟩
 have hmx:nn+m<=maxLen:=by simp only[maxLen];omega
 obtain⟨hxl,hown⟩:=hown;have hlen:(xs++news).length=(nn+m)*1:=by rw[nr,hxl,hl,hm0];omega
 have hdrew:∀ o:Obj,Grow C u H (u.drew.alloc o) H:=fun o=>⟨⟨rfl,rfl,rfl,by simp,fun k hk _=>wa u.drew _ hk,zpr _⟩,fun k v hv=>by
  have:=hsub.size hv;show(u.drew.alloc o).heap[k]?=some v;rw[wa u.drew _ this];exact hsub k v hv,my _,fun _ _ _=>rfl⟩
 have hnew:∀ (o:Obj) (k:Nat),k=u.heap.size->(C k\/u.heap.size<=k)/\k<(u.drew.alloc o).heap.size/\H k=none:=fun o k hk=>by
  subst hk;exact⟨.inr (nu _),by simp,jj hsub (nu _)⟩
 have grown:∀ (old:Nat),old<nn+m->∀ vs:List Value,vs=xs->
   (SlR e 1 (nn+m) (xs++news)).P (.slice (some ⟨u.heap.size,0,none⟩) (nn+m) (grownCap u (nn+m) old e)) H (u.drew.alloc (.cells (vs.toArray++news.toArray++Builtin.zeroCells z.cells (grownCap u (nn+m) old e-(nn+m))) e)) (fun k=>k=u.heap.size):=by
  rintro old ho vs rfl;have hge:=grownCap_ge u (nn+m) old e;refine⟨hlen,.inr ⟨u.heap.size,_,(Builtin.zeroCells z.cells (grownCap u (nn+m) old e-(nn+m))).toList,rfl,?_,hge,grownCap_le_maxLen u (nn+m) old e hmx,?_,fun _=>Iff.rfl⟩⟩
  ·have h2:(u.drew.alloc (.cells (vs.toArray++news.toArray++Builtin.zeroCells z.cells (grownCap u (nn+m) old e-(nn+m))) e)).heap[u.heap.size]?=some (.cells (vs.toArray++news.toArray++Builtin.zeroCells z.cells (grownCap u (nn+m) old e-(nn+m))) e):=heap_alloc_new u.drew _;rw[h2];congr 2;apply Array.ext';simp
  ·rw[nr,hlen,zqy,size_zeroCells,hs3];omega
 rcases hown with ⟨rfl,rfl,hC⟩ | ⟨b,cap,rest,rfl,hbk,hnc,hcm,hcl,hC⟩
 ·have hx:xs=[]:=zow (by simpa using hxl);subst hx;by_cases h0:m=0
  ·subst h0;have hn:news=[]:=zow T;subst hn;refine⟨.slice none 0 0,u,noL,?_,⟨by simp [hm0],.inl ⟨by omega,rfl,fun _ h=>h⟩⟩,⟨Keep.refl _ _,hsub,my _,fun _ _ _=>rfl⟩,fun _ h=>h.elim⟩;have hf:=Lib.run_firstCells_string (P:=P) u i.size str;rw[hm0] at hf;simp [Builtin.append_,run_underlying ht,run_underlying hu,sizeOf,typeInfo,hi,Builtin.lenOf,hm0,hf]
  ·have hr:=run_append_nil_string (P:=P) u t ty2 aty e i z ht hu hi hz str T T (by rw[hs2];omega);have hgr:=grown 0 T [] rfl;rw[hm0] at hr |-;simp only[zo2,mj,Array.empty_append] at hgr |-;refine⟨_,_,_,hr,?_,hdrew _,fun k hk=>hnew _ k hk⟩;have e1:str.data.map (fun b=>Value.int .u8 b.toNat)=news.toArray:=by rw[<-hnews];apply Array.ext';simp [Lib.strCells]
   rw[e1];exact hgr
 ·have hbl:=hlt b ((hC b).2 rfl)
  have holds:∀ j v,xs[j]?=some v->u.cell? ((⟨b,0,none⟩:Addr).add j)=some v:=fun j v hj=>by
   rw[vp,zo2,kx hbk]
   have hlt:j<xs.length:=by
    rcases m5 j xs.length with h | h
    ·exact h
    ·rw[zo1 h] at hj;cases hj
   simp only[zrb];rw[zp5 hlt];exact hj
  rw[hm0];by_cases hroom:nn+m<=cap
  ·have hfit:nn+str.size<=(xs++rest).toArray.size:=by simp only[zrp,hcl];omega
   have hr:=Lib.run_append_room_string (P:=P) u t ty2 aty e i ht hu hi hs1 b nn cap _ hbk str T hfit;rw[hnews,hm0] at hr;refine⟨_,_,C,hr,⟨hlen,.inr ⟨b,cap,rest.drop news.length,rfl,?_,hroom,hcm,?_,hC⟩⟩,vz hsub hbk ((hC b).2 rfl) hbl.2 _,fun k hk=>⟨.inl hk,by rw[setRow_size];exact(hlt k hk).1,(hlt k hk).2⟩⟩
   ·rw[setRow_heap u b _ _ e (0,0) hbk];congr 2;have hx1:xs.length=nn:=T;rw[<-hx1,hl,hm0];simp [zp7,zo4]
   ·have h5:rest.length=cap*1-nn*1:=by rw[<-hcl,nr,hxl];omega
    rw[nr,hlen,m8,h5,hl,hm0];omega
  ·have hr:=Lib.run_append_grow_string (P:=P) u t ty2 aty e i z ht hu hi hz ⟨b,0,none⟩ nn cap xs (by rw[hs1];exact hxl) holds str T T (by rw[hs2];exact growslice_fits T T);rw[hnews,hm0] at hr;exact⟨_,_,_,hr,grown cap T xs Z,hdrew _,fun k hk=>hnew _ k hk⟩
section
def As(L:Tabs P){ty2:TypeId}{nn:Nat}(hn:Nat.blt d n=true)(hg:gK ops κ ⟨some d,.call ⟨.builtin .append,#[.tmp q,y],#[t,ty2]⟩,ty,pos,aft,g⟩=some true)
  (hq:κ q=some (.own (SlR e 1 nn xs))) (hy:evK κ y=some (.string str)) (ht:L.sl t=some e) (hu:P.underlying ty2=some .string) (he:elI P e=some (1,1)) (hb:nn+str.size<=140737488355328):
  ve P F B n ops O κ ⟨some d,.call ⟨.builtin .append,#[.tmp q,y],#[t,ty2]⟩,ty,pos,aft,g⟩ q po d (.own (SlR e 1 (nn+str.size) (xs++Lib.strCells str))):=by
 rintro κ' a u hlk hks ⟨H,fp,hh⟩;unfold After;rw[na (xl hh hlk hg)];have en:=hh.env hlk;obtain⟨i,z,hi,hz,hs1,hs2,hs3,hs4⟩:=uf he;have hk':κ' q=some (.own (SlR e 1 nn xs)):=hks.trans hq;obtain⟨hown,hM⟩:=hh.slot q _ hk';have h1:a.eval y=.string str:=en.is_ y _ (by simp [Op.operands,Call.operands]) hy;obtain⟨x',u',C',hr,hown',hgr,hC'⟩:=zd5 u (aty:=ty) (Tabs.sl_spec ht) hu hi hz hs1 hs2 hs3 hh.sub hown (fun k hk=>⟨(hM k hk).1,(hM k hk).2.1⟩) T hb
 have hrun:(execOp a.eval ⟨some d,.call ⟨.builtin .append,#[.tmp q,y],#[t,ty2]⟩,ty,pos,aft,g⟩).run P u=.ok (.value x') u':=by
  simp only[execOp,resolve,invoke,builtin,nw,me,ny,zpn,mz,zph,h1,hr]
 rw[hrun];simp only[Upon];exact⟨H,_,hh.usePut hk' hgr (by simp [Act.put]) Z (fun t ht=>xv ht) (by rw[kg (by rw[hh.size];exact zm hn)];exact hown') hC'⟩
end
end Go.V
namespace Go.V.Bd
open Go.V.L4
def _root_.Zdo(t:Wr Y->A:=by exact fun h=>(ZaJ∘Ze) h.1)(h:Y):A:=t ⟨h⟩
abbrev T1:TypeId:=204
def zhu(v:Value)(u:World):(callFunc 240 #[v]).run zs5 u=.ok (.value v) u:=
 (run_callFunc_extern Tryz.func240 J J J (e:=Extern.AbiNoEscape.same) J #[v] u).trans rfl
attribute [local irreducible] V N X VO Par StepOK Has Ret RetL RetO RetT kz RetX RetY Src
def check_ret{bb:Nat}{p:Value}(hpp:p=.pointer none\/p=kq bb)(hB:zs4 B w)(hr:(xc bb [p,sv] T1).P B w C)(hC:ZCB C w B):
  kz zs5 189 [kq bb] w B C (xc bb [kq bb,sv] T1):=by
 unfold kz;refine xf 900 (xc bb [p,sv] T1) Tryz.func189 Z Tryz.ntmps189 (np Z) hB hr hC ?_;rw[xd];rcases hpp with rfl | rfl
 ·refine(ZQ∘Za∘ZW) ?_;refine z7 (u9 Z Z Z Z zkc Z) Z ((Z3∘Zan∘Zb) ?_);refine ye (Nz (q:=900) (t:=T1) Z Z Z Z J J J Z) (z7 (N7 Z Z Z Z (zhu _)) Z (ye (Gm (q:=900) (t:=T1) Z Z Z Z J J J Z J) (Zap (h:=?_))));refine xo (yl L (q:=900) (cs':=[kq bb,sv]) Z Z Z Z Z) (Zab (h:=?_));exact xw L 900 (r:=xc bb _ T1) Z (fun _ _ h=>h) nq Z Z
 ·refine(ZQ∘Za∘ZW) ?_;refine z7 (u9 Z Z Z Z zkc Z) Z ((Zdo∘Zz∘ZW∘Za) ?_);refine z7 (Sm (te:=T1) Z Z Z Z J J) Z (Zac (h:=?_));exact xw L 900 (r:=xc bb _ T1) Z (fun _ _ h=>h) nq Z Z
abbrev GBv(bb:Nat)(bs:List Nat)(x:Value×Value):GR:=gu (xc bb [x.1,x.2] T1) (GSl x.2 bs)
def zl4(bb:Nat)(x:Value×Value):Prop:=(x.1=.pointer none\/x.1=kq bb)/\O6 x.2
def Du(bb:Nat):oc fun(x:Value×Value) (_:Heap)=>zl4 bb x:=fun _ _ _ h _=>h
abbrev GBd(bb:Nat)(bs:List Nat):GR:=GEx (X:=Value×Value) (GBv bb bs) (fun x _=>zl4 bb x) (Du bb)
def an(s:ByteArray):List Nat:=s.data.toList.map fun c=>c.toNat
def bq(s:ByteArray):(an s).length=s.size:=by unfold an;rw[List.length_map,Array.length_toList];rfl
def zac(bs:List Nat)(s:ByteArray):byV bs++Lib.strCells s=byV (bs++an s):=by
 unfold byV an Lib.strCells;rw[zpb,zq8];rfl
def write_ret{bb:Nat}(hz:bs.length+str.size<=140737488355328)(hB:zs4 B w)(hr:(GBd bb bs).P B w C)(hC:ZCB C w B):
  RetX zs5 128 [kq bb,.string str] w B C (GBd bb (bs++an str)) (.tuple #[.int .i64 str.size,.nilIface]):=by
 unfold RetX;refine xf 900 (GBd bb bs) Tryz.func128 Z Tryz.ntmps128 (np Z) hB hr hC ?_;refine uk (X:=Value×Value) 900 (r:=fun x=>(GBv bb bs x).res) (φ:=fun x _=>zl4 bb x) (hφ:=Du bb) Z fun x H0 hs0 hx=>?_;obtain⟨p,sv⟩:=x;obtain⟨hpp,hsl⟩:=hx;dsimp only at hpp hsl |-;obtain⟨p1,k1,c1,rfl⟩:=hsl;refine uj (r1:=xu bb [p,.slice p1 k1 c1] T1) (r2:=(GSl (.slice p1 k1 c1) bs).res) 900 901 rfl (xi _) ?_;rw[G0];refine(ZbX∘ZbA) ?_;refine qg (xe L 900 (xc bb [kq bb,.slice p1 k1 c1] T1) (r:=xc bb [p,.slice p1 k1 c1] T1) rfl rfl rfl rfl rfl (fun u H C hH _ hr hC=>check_ret hpp hH hr hC)) ((Zg∘Za9∘ZW) ?_);refine pf 12 901 rfl rfl (Za (h:=?_));refine qg (As L rfl rfl rfl rfl rfl J el5 hz) ?_;refine c7 14 901 O6 rfl Pw fun s2 hp2=>?_;obtain⟨p2,k2,c2,rfl⟩:=hp2;refine Zap (h:=?_);refine xo (yl L (q:=900) (cs':=[kq bb,.slice p2 k2 c2]) rfl rfl rfl rfl rfl) ((Zg∘Zr∘Zaf∘ZI) ?_);have e2:bs.length+str.size=(bs++an str).length:=by rw[nr,bq]
 rw[zac,e2];refine wc 900 901 rfl Z (Hn _ _) ?_;exact s7 (X:=Value×Value) 900 (r:=fun x=>(GBv bb (bs++an str) x).res) (φ:=fun x _=>zl4 bb x) (Du bb) (kq bb,.slice p2 k2 c2) ⟨.inr Z,_,_,_,rfl⟩ Z (ke L 900 (r:=GBd bb (bs++an str)) (rs:=[.tmp 4,.tmp 5]) Z (fun _ _ h=>h) hs0 Z Z (fun _=>rfl))
end Go.V.Bd
namespace Go.V
open Go.V.L4
def Kh(bs:List Nat):ByteArray:=⟨(bs.map UInt8.ofNat).toArray⟩
section
end
end Go.V
section
open Go.V
attribute [local irreducible] Has N Par Ret RetL Src StepOK V VO X
namespace Go.V.Bd
open Go.V.L4
attribute [local irreducible] RetO RetT kz RetX RetY
end Go.V.Bd
namespace Go.V.L11
open Go.V.L2 Go.V.L4 Go.V.Bd
def _root_.Zdw(t:Wr Y->A:=by intro h;refine z7 (zz L (vs:=[_,_,_,_,_,_]) (qp Z) Z Z Z Z ⟨_,rfl⟩) Z ?_;exact h.1)(h:Y):A:=t ⟨h⟩
def _root_.ZZ(t:Wr Y->A:=by exact fun h=>(ZaU∘Zw) h.1)(h:Y):A:=t ⟨h⟩
def _root_.Zcq(t:Wr Y->A:=by exact fun h=>(Zg∘Zan) h.1)(h:Y):A:=t ⟨h⟩
def zdu(s:ByteArray):∀ b∈an s,b<=255:=fun b hb=>by
 obtain⟨c,_,rfl⟩:=zoz.1 hb;have:=c.toNat_lt;omega
attribute [local irreducible] RetO RetT kz RetX RetY
def id_ret{t:U}(hB:zs4 B w):Ret zs5 69 [uv t] w B (fun v _=>v=uv t):=by
 refine yr Tryz.func69 Z Tryz.ntmps69 (np Z) hB ((ZD∘ZE∘Zcq∘Zdw∘ZZ) ?_);refine yj1 L [.cell 2 57] fun u H hH hle=>?_;exact⟨_,y7 Z,rfl,rfl⟩
def none_ret{t:U}(hB:zs4 B w):Ret zs5 70 [uv t] w B (fun v _=>v=.string ⟨#[]⟩):=by
 refine yr Tryz.func70 Z Tryz.ntmps70 (np Z) hB ((Zcy∘Zc) ?_);exact yj2 L [.tmp 2]
end Go.V.L11
namespace Go.V.L2
def u0(h:chk s=0):s.size<=16:=by
 unfold chk at h;split at h
 ·rename_i hc;exact hc.2.1
 ·exact ni h E
def tz_of{t:U}(h:tE t=0):TZ t:=by
 unfold tE at h;split at h
 ·rename_i h1;obtain⟨c1,c2,c3⟩:=Tw h1;obtain⟨d1,d2,d3⟩:=tg h;have a1:=u0 c1;have a2:=u0 c2;have a3:=u0 c3;have b1:=u0 d1;have b2:=u0 d2
  have b3:t.2.2.size<=16:=by
   rcases d3 with d3 | d3
   ·rw[d3];decide
   ·exact u0 d3
  unfold TZ;refine⟨⟨?_,?_,?_⟩,?_,?_,?_⟩<;>omega
 ·rename_i h1;exact ni h h1
end Go.V.L2
namespace Go.V.L3
open Go.V.L2
abbrev FT:=Dx×Dx×Bool
def fcs(f:FT):List Value:=[.string f.1.1.1,.string f.1.1.2,.string f.1.2,.string f.2.1.1.1,.string f.2.1.1.2,.string f.2.1.2,.bool f.2.2]
abbrev n3:Dx:=((⟨#[]⟩,⟨#[]⟩),⟨#[]⟩)
abbrev nF:FT:=(n3,n3,false)
def tkF(x y:ByteArray):Bool:=decide (x=⟨#[]⟩) || decide (x=y)
def xn(f:FT)(t:U):Bool:=tkF f.1.1.1 t.1.1.1 && tkF f.1.1.2 t.1.1.2 && tkF f.1.2 t.1.2 && (!f.2.2 || decide (f.2.1=t.2))
def jl(f:FT):Nat:=if f.1.1.1=⟨#[]⟩ then 0 else if f.1.1.2=⟨#[]⟩ then 1 else if f.1.2=⟨#[]⟩ then 2 else if f.2.2=true then 4 else 3
def ln(x:ByteArray):Bool:=!decide (x=⟨#[]⟩) && !decide (chk x=0)
def fE(f:FT):Int:=if f.2.2=false/\¬ f.2.1=n3 then 5 else if (ln f.1.1.1 || ln f.1.1.2 || ln f.1.2)=true then 6 else if f.2.2=true then bu f.2.1.1.1 f.2.1.1.2 f.2.1.2 else 0
structure WOrd{α:Type}(c:α->α->Int):Prop where
 refl:∀ a,c a a=0
 anti:∀ a b,c b a= -c a b
 trans:∀ a b d,c a b<=0->c b d<=0->c a d<=0
def wOf{c:α->α->Int}(h:Ord3 c):WOrd c:=⟨h.refl,h.anti,h.trans⟩
def WOrd.zero{α:Type}:WOrd (fun _ _:α=>(0:Int)):=⟨fun _=>rfl,fun _ _=>rfl,fun _ _ _ _ _=>zqq _⟩
def WOrd.lex{β:Type}{c:α->α->Int}{e:β->β->Int}(h:WOrd c)(k:WOrd e):WOrd (t7 c e) where
 refl a:=by unfold t7;rw[A0,h.refl,if_pos rfl,k.refl]
 anti a b:=by
  unfold t7;rw[A0,A0];have h1:=h.anti a.1 b.1;have h2:=k.anti a.2 b.2;by_cases e1:c a.1 b.1=0
  ·rw[na e1,na T];exact h2
  ·rw[nc e1,nc T];exact h1
 trans a b d h1 h2:=by
  unfold t7 at *;rw[A0] at *;have a1:=h.anti a.1 b.1;have a2:=h.anti b.1 d.1;have a3:=h.anti a.1 d.1;have t1:=h.trans a.1 b.1 d.1;have t2:=h.trans d.1 b.1 a.1;have t3:=h.trans b.1 d.1 a.1;have t4:=h.trans d.1 a.1 b.1;have t5:=k.trans a.2 b.2 d.2;by_cases e1:c a.1 b.1=0
  ·rw[na e1] at h1;by_cases e2:c b.1 d.1=0
   ·rw[na e2] at h2;rw[na (by have:=t1 T T;have:=t2 T T;omega)];exact t5 h1 h2
   ·rw[nc e2] at h2;have e3:c a.1 d.1≠0:=fun e=>by have:=t4 T T;omega
    rw[nc e3];exact t1 T h2
  ·rw[nc e1] at h1;by_cases e2:c b.1 d.1=0
   ·rw[na e2] at h2;have e3:c a.1 d.1≠0:=fun e=>by have:=t3 T T;omega
    rw[nc e3];exact t1 h1 T
   ·rw[nc e2] at h2;have e3:c a.1 d.1≠0:=fun e=>by have:=t4 T T;omega
    rw[nc e3];exact t1 h1 h2
def upN{α:Type}(p:Prop)[Decidable p](c:α->α->Int):α->α->Int:=fun a b=>if p then c a b else 0
def zbc{p:Prop}[Decidable p]{c:α->α->Int}(h:WOrd c):WOrd (upN p c):=by
 by_cases hp:p
 ·have:upN p c=c:=by funext a b;exact na hp
  rw[this];exact h
 ·have:upN p c=fun _ _=>0:=by funext a b;exact nc hp
  rw[this];exact WOrd.zero
def zaz(n:Nat):U->U->Int:=t7 (t7 (t7 (upN (1<=n) vm) (upN (2<=n) vm)) (upN (3<=n) vm)) (upN (4<=n) Mv)
def Q2(n:Nat):WOrd (zaz n):=(((zbc (wOf cmpB_ord)).lex (zbc (wOf cmpB_ord))).lex (zbc (wOf cmpB_ord))).lex (zbc (wOf cmp3_ord))
def Oj{t u:U}(h:kw t u<0):zaz n t u<=0:=by
 unfold kw Mv at h;unfold zaz;unfold t7 at *;simp only[A0] at *;unfold upN;generalize vm t.1.1.1 u.1.1.1=a at *;generalize vm t.1.1.2 u.1.1.2=b at *;generalize vm t.1.2 u.1.2=c at *
 have hd:Mv t.2 u.2=if (if vm t.2.1.1 u.2.1.1=0 then vm t.2.1.2 u.2.1.2 else vm t.2.1.1 u.2.1.1)=0 then vm t.2.2 u.2.2 else if vm t.2.1.1 u.2.1.1=0 then vm t.2.1.2 u.2.1.2 else vm t.2.1.1 u.2.1.1:=by
  unfold Mv t7;simp only[A0]
 rw[<-hd] at h;generalize Mv t.2 u.2=d at *;by_cases ha:a=0<;>by_cases hb:b=0<;>by_cases hc:c=0<;>by_cases n1:1<=n<;>by_cases n2:2<=n<;>by_cases n3':3<=n<;>by_cases n4:4<=n<;>simp_all<;>omega
def Bg(f:FT):U:=((((if 1<=jl f then f.1.1.1 else ⟨#[]⟩),(if 2<=jl f then f.1.1.2 else ⟨#[]⟩)),(if 3<=jl f then f.1.2 else ⟨#[]⟩)),if 4<=jl f then f.2.1 else n3)
def lg(f:FT)(t:U):Int:=zaz (jl f) t (Bg f)
def ia(f:FT):FT:=(((if 1<=jl f then f.1.1.1 else ⟨#[]⟩,if 2<=jl f then f.1.1.2 else ⟨#[]⟩),if 3<=jl f then f.1.2 else ⟨#[]⟩),(if 4<=jl f then f.2.1 else n3),decide (4<=jl f))
def dq(f:FT):(jl f=0/\f.1.1.1=⟨#[]⟩)\/(jl f=1/\¬ f.1.1.1=⟨#[]⟩/\f.1.1.2=⟨#[]⟩)\/(jl f=2/\¬ f.1.1.1=⟨#[]⟩/\¬ f.1.1.2=⟨#[]⟩/\f.1.2=⟨#[]⟩)\/(jl f=3/\¬ f.1.1.1=⟨#[]⟩/\¬ f.1.1.2=⟨#[]⟩/\¬ f.1.2=⟨#[]⟩/\f.2.2=false)\/(jl f=4/\¬ f.1.1.1=⟨#[]⟩/\¬ f.1.1.2=⟨#[]⟩/\¬ f.1.2=⟨#[]⟩/\f.2.2=true):=by
 unfold jl;by_cases h1:f.1.1.1=⟨#[]⟩
 ·rw[na h1];exact .inl ⟨rfl,h1⟩
 ·rw[nc h1];by_cases h2:f.1.1.2=⟨#[]⟩
  ·rw[na h2];exact .inr (.inl ⟨rfl,h1,h2⟩)
  ·rw[nc h2];by_cases h3:f.1.2=⟨#[]⟩
   ·rw[na h3];exact .inr (.inr (.inl ⟨rfl,h1,h2,h3⟩))
   ·rw[nc h3];cases h4:f.2.2
    ·exact .inr (.inr (.inr (.inl ⟨rfl,h1,h2,h3,rfl⟩)))
    ·exact .inr (.inr (.inr (.inr ⟨rfl,h1,h2,h3,rfl⟩)))
def cB0{x y:ByteArray}:vm y x=0↔x=y:=⟨fun h=>(cmpB_ord.eq _ _ h).symm,fun h=>by subst h;exact cmpB_ord.refl _⟩
def c30{x y:Dx}:Mv y x=0↔x=y:=⟨fun h=>(cmp3_ord.eq _ _ h).symm,fun h=>by subst h;exact cmp3_ord.refl _⟩
def dj(f:FT)(t:U):xn (ia f) t=true↔lg f t=0:=by
 unfold lg zaz t7 xn ia Bg upN tkF;simp only[A0];rcases dq f with ⟨h,h1⟩ | ⟨h,h1,h2⟩ | ⟨h,h1,h2,h3⟩ | ⟨h,h1,h2,h3,h4⟩ | ⟨h,h1,h2,h3,h4⟩
 ·rw[h];simp
 ·rw[h];simp [h1,<-cB0];exact(Decidable.em _).symm
 ·rw[h];simp [h1,h2,<-cB0];by_cases e:vm t.1.1.1 f.1.1.1=0<;>simp [e];exact(Decidable.em _).symm
 ·rw[h];simp [h1,h2,h3,<-cB0];by_cases e:vm t.1.1.1 f.1.1.1=0<;>by_cases e2:vm t.1.1.2 f.1.1.2=0<;>simp [e,e2];exact(Decidable.em _).symm
 ·rw[h];simp [h1,h2,h3,<-cB0,<-c30];by_cases e:vm t.1.1.1 f.1.1.1=0<;>by_cases e2:vm t.1.1.2 f.1.1.2=0<;>by_cases e3:vm t.1.2 f.1.2=0<;>simp [e,e2,e3]
def zg1{f:FT}{a b:U}(h:kw a b<0)(hb:lg f b<0):lg f a<0:=by
 unfold lg at *;have h1:=Oj (n:=jl f) h;have w:=Q2 (jl f);have h2:=w.trans a b (Bg f) h1 T;have h3:=w.anti a (Bg f);have h4:=w.anti b (Bg f);have h5:=w.trans (Bg f) a b;omega
def Vl{f:FT}{a b:U}(h:kw a b<0)(hb:lg f b<=0):lg f a<=0:=by
 unfold lg at *;exact(Q2 (jl f)).trans a b (Bg f) (Oj h) hb
def vi(f:FT)(l:List U):Nat×Nat:=((l.takeWhile fun x=>decide (lg f x<0)).length,(l.takeWhile fun x=>decide (lg f x<=0)).length)
def Ry(q:α->Bool)(l:List α):(l.takeWhile q).length<=l.length:=by
 induction l with
 | nil=>simp
 | cons x l ih=>rw[zp2];split<;>simp only[nz,m6]<;>omega
def zi8{α:Type}(q:α->Bool):∀ {l:List α} {j:Nat} {x:α},j<(l.takeWhile q).length->l[j]?=some x->q x=true
 | [],j,x,hj,_=>by simp at hj
 | y::l,j,x,hj,hx=>by
  rw[zp2] at hj;split at hj
  ·rename_i hy
   cases j with
   | zero=>simp at hx;subst hx;exact hy
   | succ j=>exact zi8 q (l:=l) (by simpa using hj) (by simpa using hx)
  ·simp at hj
def zi9{α:Type}(q:α->Bool):∀ {l:List α} {x:α},l[(l.takeWhile q).length]?=some x->q x=false
 | [],x,hx=>by simp at hx
 | y::l,x,hx=>by
  rw[zp2] at hx;split at hx
  ·exact zi9 q (l:=l) (by simpa using hx)
  ·rename_i hy;simp at hx;subst hx;simpa using hy
def zej{q:U->Bool}(hs:Sst kw l)(hq:∀ a b,kw a b<0->q b=true->q a=true){x:U}(hx:l[j]?=some x):j<(l.takeWhile q).length↔q x=true:=by
 constructor
 ·exact fun h=>zi8 q h hx
 ·intro h;rcases m5 j (l.takeWhile q).length with h1 | h1
  ·exact h1
  ·have hj:=get_lt hx;obtain⟨y,hy⟩:=xm (show(l.takeWhile q).length<l.length by omega);have h2:=zi9 q hy;rcases m5 (l.takeWhile q).length j with h3 | h3
   ·have h4:=zqm.1 hs _ j (get_lt hy) hj h3;rw[p9 hy,p9 hx] at h4;rw[hq _ _ h4 h] at h2;cases h2
   ·have:j=(l.takeWhile q).length:=T;subst this;rw[hy] at hx;cases hx;rw[h] at h2;cases h2
def re{f:FT}(hs:Sst kw l){x:U}(hx:l[j]?=some x):j<(vi f l).1↔lg f x<0:=by
 have:=zej (q:=fun x=>decide (lg f x<0)) hs (fun a b h hb=>by simp only[decide_eq_true_eq] at *;exact zg1 h hb) hx;simpa [vi] using this
def F3{f:FT}(hs:Sst kw l){x:U}(hx:l[j]?=some x):j<(vi f l).2↔lg f x<=0:=by
 have:=zej (q:=fun x=>decide (lg f x<=0)) hs (fun a b h hb=>by simp only[decide_eq_true_eq] at *;exact Vl h hb) hx;simpa [vi] using this
def F4{f:FT}(hs:Sst kw l):(vi f l).1<=(vi f l).2/\(vi f l).2<=l.length:=by
 have h2:(vi f l).2<=l.length:=Ry _ _;refine⟨?_,h2⟩;rcases m5 (vi f l).2 (vi f l).1 with h | h
 ·have h1:(vi f l).1<=l.length:=Ry _ _;obtain⟨x,hx⟩:=xm (show(vi f l).2<l.length by omega);have a1:=(re hs hx).1 h;have a2:=(F3 (f:=f) hs hx).2 T;omega
 ·exact h
def M5(y:ByteArray):tkF ⟨#[]⟩ y=true:=by simp [tkF]
def Kc{f:FT}{t:U}(h:xn f t=true):xn (ia f) t=true:=by
 unfold xn at h;simp only[zo5] at h;obtain⟨⟨⟨h1,h2⟩,h3⟩,h4⟩:=h;unfold xn ia;rcases dq f with ⟨e,_⟩ | ⟨e,_⟩ | ⟨e,_⟩ | ⟨e,_⟩ | ⟨e,_,_,_,e4⟩
 ·rw[e];simp [M5]
 ·rw[e];simp [M5,h1]
 ·rw[e];simp [M5,h1,h2]
 ·rw[e];simp [h1,h2,h3]
 ·rw[e];rw[e4] at h4;simp [h1,h2,h3];simpa using h4
def Nc{f:FT}(hs:Sst kw l):((l.drop (vi f l).1).take ((vi f l).2-(vi f l).1)).filter (xn f)=l.filter (xn f):=by
 obtain⟨h1,h2⟩:=F4 (f:=f) hs
 have no:∀ (j:Nat) (x:U),l[j]?=some x->(j<(vi f l).1\/(vi f l).2<=j)->¬ xn f x=true:=fun j x hx ho ht=>by
  have e:=(dj f x).1 (Kc ht);rcases ho with ho | ho
  ·have:=(re hs hx).1 ho;omega
  ·have:=(F3 (f:=f) hs hx).2 T;omega
 have e1:(l.take (vi f l).1).filter (xn f)=[]:=zqf.2 fun x hx=>by
  obtain⟨j,hj⟩:=zpg hx;have hlt:=get_lt hj;rw[mi] at hlt;rw[zqi T] at hj;exact no j x hj (.inl T)
 have e2:(l.drop (vi f l).2).filter (xn f)=[]:=zqf.2 fun x hx=>by
  obtain⟨j,hj⟩:=zpg hx;rw[zpw] at hj;exact no _ x hj (.inr T)
 have e3:l=l.take (vi f l).1++((l.drop (vi f l).1).take ((vi f l).2-(vi f l).1)++l.drop (vi f l).2):=by
  have:l.drop (vi f l).2=(l.drop (vi f l).1).drop ((vi f l).2-(vi f l).1):=by rw[zp6];congr 1;omega
  rw[this,zo0,zo0]
 conv=>rhs;rw[e3]
 rw[zpc,zpc,e1,e2,mj,mq]
def orB(x y:ByteArray):ByteArray:=if x=⟨#[]⟩ then y else x
def cfB(x y:ByteArray):Bool:=!decide (x=⟨#[]⟩) && !decide (y=⟨#[]⟩) && !decide (x=y)
def am(f g:FT):Bool:=cfB f.1.1.1 g.1.1.1 || cfB f.1.1.2 g.1.1.2 || cfB f.1.2 g.1.2 || (f.2.2 && g.2.2 && !decide (f.2.1=g.2.1))
def T3(f g:FT):FT:=(((orB f.1.1.1 g.1.1.1,orB f.1.1.2 g.1.1.2),orB f.1.2 g.1.2),(if g.2.2=true then g.2.1 else f.2.1),f.2.2 || g.2.2)
def Oz(f g:FT):FT×Bool×Int:=if fE f=0 then (if fE g=0 then (if am f g=true then (nF,false,0) else (T3 f g,true,0)) else (nF,false,fE g)) else (nF,false,fE f)
def zfz{x y z:ByteArray}(h:cfB x y=false):tkF (orB x y) z=(tkF x z && tkF y z):=by
 unfold cfB at h;unfold tkF orB;by_cases hx:x=⟨#[]⟩
 ·simp [hx]
 ·by_cases hy:y=⟨#[]⟩
  ·simp [hx,hy]
  ·have e:x=y:=by simpa [hx,hy] using h
   subst e;simp [hx]
def zf0{x y z:ByteArray}(h:cfB x y=true):(tkF x z && tkF y z)=false:=by
 unfold cfB at h;simp only[zo5,zre,decide_eq_false_iff_not] at h;obtain⟨⟨h1,h2⟩,h3⟩:=h;unfold tkF;by_cases e:x=z
 ·subst e;have h3':¬ y=x:=fun e=>h3 e.symm;simp [h1,h2,h3']
 ·simp [h1,e]
def Ul{f g:FT}{t:U}(h:am f g=false):xn (T3 f g) t=(xn f t && xn g t):=by
 unfold am at h;simp only[Bool.or_eq_false_iff] at h;obtain⟨⟨⟨h1,h2⟩,h3⟩,h4⟩:=h;unfold xn T3;dsimp only;rw[zfz h1,zfz h2,zfz h3]
 have e:(!(f.2.2 || g.2.2) || decide ((if g.2.2=true then g.2.1 else f.2.1)=t.2))=((!f.2.2 || decide (f.2.1=t.2)) && (!g.2.2 || decide (g.2.1=t.2))):=by
  cases hf:f.2.2<;>cases hg:g.2.2
  ·simp
  ·simp
  ·simp
  ·rw[hf,hg] at h4;have e:f.2.1=g.2.1:=by simpa using h4
   simp [e]
 rw[e];generalize tkF f.1.1.1 t.1.1.1=a1;generalize tkF f.1.1.2 t.1.1.2=a2;generalize tkF f.1.2 t.1.2=a3;generalize (!f.2.2 || decide (f.2.1=t.2))=a4;generalize tkF g.1.1.1 t.1.1.1=b1;generalize tkF g.1.1.2 t.1.1.2=b2;generalize tkF g.1.2 t.1.2=b3;generalize (!g.2.2 || decide (g.2.1=t.2))=b4
 revert a1 a2 a3 a4 b1 b2 b3 b4
 decide
def M7{f g:FT}{t:U}(h:am f g=true):(xn f t && xn g t)=false:=by
 unfold am at h;simp only[zq3] at h;have hor:∀ (a b c d e f' g' h':Bool),((a && e)=false\/(b && f')=false\/(c && g')=false\/(d && h')=false)->((a && b && c && d) && (e && f' && g' && h'))=false:=E;unfold xn;refine hor _ _ _ _ _ _ _ _ ?_;rcases h with ((h | h) | h) | h
 ·exact .inl (zf0 h)
 ·exact .inr (.inl (zf0 h))
 ·exact .inr (.inr (.inl (zf0 h)))
 ·refine .inr (.inr (.inr ?_));simp only[zo5,zre,decide_eq_false_iff_not] at h;obtain⟨⟨h1,h2⟩,h3⟩:=h;rw[h1,h2];by_cases e:f.2.1=t.2
  ·have e2:¬ g.2.1=t.2:=fun e'=>h3 (e.trans e'.symm);simp [e2]
  ·simp [e]
def zag{x y:ByteArray}(h1:ln x=false)(h2:ln y=false):ln (orB x y)=false:=by
 unfold orB;split
 ·exact h2
 ·exact h1
def zkg{f g:FT}(hf:fE f=0)(hg:fE g=0):fE (T3 f g)=0:=by
 have key:∀ f:FT,fE f=0->¬ (f.2.2=false/\¬ f.2.1=n3)/\ln f.1.1.1=false/\ln f.1.1.2=false/\ln f.1.2=false/\(f.2.2=true->bu f.2.1.1.1 f.2.1.1.2 f.2.1.2=0):=fun f h=>by
  unfold fE at h;split at h
  ·exact ni h E
  ·rename_i h1;split at h
   ·exact ni h E
   ·rename_i h2;simp only[zq3,not_or,Bool.not_eq_true] at h2;refine⟨h1,h2.1.1,h2.1.2,h2.2,fun he=>?_⟩;rw[na he] at h;exact h
 obtain⟨a1,a2,a3,a4,a5⟩:=key f hf;obtain⟨b1,b2,b3,b4,b5⟩:=key g hg;unfold fE T3;dsimp only;rw[zag a2 b2,zag a3 b3,zag a4 b4];cases e1:f.2.2<;>cases e2:g.2.2
 ·have h1:f.2.1=n3:=Classical.not_not.1 fun h=>a1 ⟨e1,h⟩;simp [h1]
 ·simp [b5 e2]
 ·simp [a5 e1]
 ·simp [b5 e2]
end Go.V.L3
namespace Go.V.L2
def _root_.Zer(t:Wr Y->A:=by intro h;refine z8 (zw Z (zm Z) Z) Z ?_;exact h.1)(h:Y):A:=t ⟨h⟩
def _root_.ZaB(t:Wr Y->A:=by intro h;refine z8 (ql Z Z Z Z) Z ?_;exact h.1)(h:Y):A:=t ⟨h⟩
def _root_.ZaE(t:Wr Y->A:=by intro h;refine z7 (yn L (vs:=[_,_,_,_,_,_]) Z Z Z Z Z ⟨_,rfl⟩) Z ?_;exact h.1)(h:Y):A:=t ⟨h⟩
def _root_.Zgh(t:Wr Y->A:=by intro h;refine qg (w8 L Z Z Z (o6 Z) Z zhw Z Z T T) ?_;exact h.1)(h:Y):A:=t ⟨h⟩
def _root_.ZaG(t:Wr Y->A:=by intro h;refine z8 (yy Z Z Z Z) Z ?_;exact h.1)(h:Y):A:=t ⟨h⟩
def _root_.ZaO(t:Wr Y->A:=by intro h;refine ze (id:=18) ?_;exact h.1)(h:Y):A:=t ⟨h⟩
def _root_.Zbx(t:Wr Y->A:=by intro h;refine ze (id:=17) ?_;exact h.1)(h:Y):A:=t ⟨h⟩
def _root_.Zfm(t:Wr Y->A:=by intro h;refine qn (id:=11) [] ko J ?_;exact h.1)(h:Y):A:=t ⟨h⟩
def _root_.Zdx(t:Wr Y->A:=by exact fun h=>(Zer∘Zer) h.1)(h:Y):A:=t ⟨h⟩
def _root_.ZeQ(t:Wr Y->A:=by exact fun h=>(Zdx∘Zdx) h.1)(h:Y):A:=t ⟨h⟩
def _root_.Zam(t:Wr Y->A:=by exact fun h=>(ZaB∘ZaL) h.1)(h:Y):A:=t ⟨h⟩
def _root_.Zd9(t:Wr Y->A:=by exact fun h=>(Zl∘ZeQ) h.1)(h:Y):A:=t ⟨h⟩
def _root_.Zb6(t:Wr Y->A:=by exact fun h=>(Za∘Zaz) h.1)(h:Y):A:=t ⟨h⟩
def _root_.ZbC(t:Wr Y->A:=by exact fun h=>(ZaB∘ZbW) h.1)(h:Y):A:=t ⟨h⟩
def _root_.ZbM(t:Wr Y->A:=by exact fun h=>(Zd9∘ZeQ) h.1)(h:Y):A:=t ⟨h⟩
def _root_.Zc5(t:Wr Y->A:=by exact fun h=>(ZaF∘Zgh) h.1)(h:Y):A:=t ⟨h⟩
def b9(l:List U):List U:=fg kw [] l
def dy(x y:List U)(a c b:Bool)(t:U):Bool:=(decide (t∈x) && !decide (t∈y) && a) || (decide (t∈x) && decide (t∈y) && c) || (!decide (t∈x) && decide (t∈y) && b)
def oo(x y:List U)(a c b:Bool):List U:=b9 ((x++y).filter (dy x y a c b))
def Aq(l:List U):(b9 l).length<=l.length:=by
 have:=eo (c:=kw) l [];rw[m6,zo2] at this;exact this
def Ua{s:Nat}{r:List U}{t y:U}(h:κ s=some (.own (SlR tyU 6 (r.length+1+1) ((r.flatMap ucs++ucs t)++ucs y)))):κ s=some (.own (SlR tyU 6 (r++[t]++[y]).length ((r++[t]++[y]).flatMap ucs))):=by
 rw[h,zpo,zpo,nr,nr];simp
def Eg(c:U->U->Int)(o:List U)(t:U)(r:List U):fg c o (t::r)=fg c (if t∈o then o else oe c t o) r:=by
 simp only[fg];congr 1;by_cases h:t∈o
 ·rw[na h,na h]
 ·rw[nc h,nc h]
def ot{l:List U}(hl:l.length<=1000000)(hz:∀ t∈l,TZ t)(hB:zs4 B w)(hv:US l fu v B):
  Ret zs5 42 [v] w B (US (b9 l) false):=by
 refine yr Tryz.func42 Z Tryz.ntmps42 (np Z) hB (k7 0 (US l fu) Z ns hv ((ZK∘Zk) ?_));refine k7 3 (US [] false) Z ns SlV.nil ((Zv∘ZaX) ?_)
 refine xp (fun s:Nat×List U=>[(0,.sat (US l fu)),(3,.sat (US s.2 false)),(4,.is (.int .i64 s.1))])
  (fun s=>s.1<=l.length/\s.2.length<=s.1/\(∀ t∈s.2,TZ t)/\b9 l=fg kw s.2 (l.drop s.1)) (fun s=>l.length-s.1) (0,[]) ⟨mb _,nu _,fun t h=>(by cases h),rfl⟩ ⟨rfl,rfl,rfl,nm⟩ ?_
 rintro⟨i,o⟩ ⟨hi,ho,hoz,he⟩;dsimp only at hi ho hoz he |-;by_cases hlt:i<l.length
 ·obtain⟨t,ht⟩:=xm hlt;have hct:=pg ht;have zt:=hz t (zo7 ht);have hol:o.length<=1000000:=T;rw[ax ht,Eg] at he;by_cases hin:t∈o
  ·rw[na hin] at he;have h1:(if t∈o then 1 else 0:Int)=1:=na hin;refine(Zf∘Zr∘Zj∘ZbJ∘Ze∘Z1∘Zh∘Zh∘Zb6∘ZaE) ?_;refine z7 (qb L Z Z (zm Z) Z Z Z (fun u H hH _ _ v1 h2=>wv hol h1 hH h2)) Z ((ZN∘Z3∘Ze9∘Zd2∘Zbr∘Z5∘ZaT) ?_);exact yo (x:=(i,o)) (i+1,o) ⟨hlt,by dsimp only;omega,hoz,he⟩ G ⟨Z,Z,Z,trivial⟩
  ·rw[nc hin] at he;have h1:(if t∈o then 1 else 0:Int)=0:=nc hin;refine(Zf∘Zr∘Zj∘ZbJ∘Ze∘Z1∘Zh∘Zh∘Zb6∘ZaE) ?_;refine z7 (qb L Z Z (zm Z) Z Z Z (fun u H hH _ _ v1 h2=>wv hol h1 hH h2)) Z ((ZbK∘ZO∘Zd) ?_);refine ul 5 tyU 6 rfl ((Zy∘Zk∘Zu∘ZaX) ?_)
   refine xp (fun s:Nat×List U×Bool=>[(0,.sat (US l fu)),(3,.sat (US o false)),(4,.is (.int .i64 i)),(5,.own (SlR tyU 6 s.2.1.length (s.2.1.flatMap ucs))),(6,.is (.bool s.2.2)),(7,.is (.int .i64 s.1))])
    (fun s=>s.1<=o.length/\s.2.1.length<=s.1+(if s.2.2=true then 1 else 0)/\oe kw t o=s.2.1++(if s.2.2=true then o.drop s.1 else oe kw t (o.drop s.1))) (fun s=>o.length-s.1) (0,[],false) ⟨mb _,mb _,rfl⟩ ⟨rfl,rfl,rfl,rfl,rfl,rfl,nm⟩ ?_
   rintro⟨k,nx,put⟩ ⟨hk,hnx,hins⟩;dsimp only at hk hnx hins |-;by_cases hko:k<o.length
   ·obtain⟨y,hy⟩:=xm hko;have hcy:=pg hy;have zy:=hoz y (zo7 hy);rw[ax hy] at hins;cases put
    ·rw[nc E] at hnx;rw[nc E,oe] at hins;by_cases hc:kw t y<0
     ·rw[na hc] at hins;refine(Zf∘Zaq∘Zj∘ZbJ∘Ze∘Zfm∘Zl∘ZaG∘Zl∘ZaM∘ZaM) ?_;refine z81 L Z (fun u H hH _=>K4 zt zy hH) ?_;refine(ZcD∘ZbC∘Ze∘ZJ) ?_;refine qg (yu (.inl Z) Z) ((Zh∘Zb6∘ZaE∘Zc5) ?_);refine qg (yu (.inr Z) Z) ((Zw∘Zae∘Zc∘ZaD) ?_);refine qg (yu (.inl Z) Z) ((Zh∘Zb6∘ZaE∘Zc5) ?_);refine qg (yu (.inr Z) Z) ((ZaA∘Z4∘Za∘ZaT) ?_);exact yo (x:=(k,nx,false)) (k+1,nx++[t]++[y],true) ⟨hko,by dsimp only;rw[if_pos Z];simp only[List.length_append,List.length_cons,List.length_nil];omega,by dsimp only;rw[hins,if_pos Z];simp⟩ G ⟨Z,Z,Z,Ua Z,Z,Z,trivial⟩
     ·rw[nc hc] at hins;refine(Zf∘Zaq∘Zj∘ZbJ∘Ze∘Zfm∘Zl∘ZaG∘Zl∘ZaM∘ZaM) ?_;refine z81 L Z (fun u H hH _=>K4 zt zy hH) ?_;refine(Zdg∘Zam∘Zc3∘ZaD) ?_;refine qg (yu (.inl Z) Z) ((Zh∘Zb6∘ZaE∘Zc5) ?_);refine qg (yu (.inr Z) Z) ((ZaA∘Z4∘Za∘ZaT) ?_);exact yo (x:=(k,nx,false)) (k+1,nx++[y],false) ⟨hko,by dsimp only;rw[if_neg E,List.length_append,List.length_singleton];omega,by dsimp only;rw[hins,if_neg E];simp⟩ G ⟨Z,Z,Z,v7 Z,Z,Z,trivial⟩
    ·rw[na rfl] at hnx hins;refine(Zf∘Zaq∘Zj∘ZbJ∘Ze∘Zfm∘Zl∘ZaG∘ZbM∘Zdx∘Zam∘Zc3∘ZaD) ?_;refine qg (yu (.inl Z) Z) ((Zh∘Zb6∘ZaE∘Zc5) ?_);refine qg (yu (.inr Z) Z) ((ZaA∘Z4∘Za∘ZaT) ?_);exact yo (x:=(k,nx,true)) (k+1,nx++[y],true) ⟨hko,by dsimp only;rw[if_pos Z,List.length_append,List.length_singleton];omega,by dsimp only;rw[hins,if_pos Z];simp⟩ G ⟨Z,Z,Z,v7 Z,Z,Z,trivial⟩
   ·obtain rfl:k=o.length:=by omega
    rw[zq5] at hins;have hil:=ww (c:=kw) t o
    have hiz:∀ x∈oe kw t o,TZ x:=fun x hx=>by
     rcases ub.1 hx with rfl | hx
     ·exact zt
     ·exact hoz x hx
    cases put
    ·rw[nc E] at hnx;rw[nc E,oe] at hins;refine(Zf∘Zaq∘Zj∘Z0∘Za5∘Ze∘Zaa∘Za∘Zm∘Z3∘Zaj) ?_;refine qg (yu (.inl Z) Z) ((Zh∘Zb6∘ZaE∘Zc5) ?_);refine qg (yu (.inr Z) Z) (Zw (h:=?_));refine gt 5 (v7 Z) ?_;rw[<-hins];refine(Zbx∘Zh∘ZR∘ZaA∘Z5∘ZaT) ?_;exact yo (x:=(i,o)) (i+1,oe kw t o) ⟨hlt,by dsimp only;omega,hiz,he⟩ G ⟨Z,Z,Z,trivial⟩
    ·rw[na rfl] at hnx;rw[na rfl,mq] at hins;refine(Zf∘Zaq∘Zj∘Z0∘Za5∘Ze∘Zaa∘Za∘Zm∘Zac∘Zbr) ?_;refine gt 5 rfl ?_;rw[<-hins];refine(Zbx∘Zh∘ZR∘ZaA∘Z5∘ZaT) ?_;exact yo (x:=(i,o)) (i+1,oe kw t o) ⟨hlt,by dsimp only;omega,hiz,he⟩ G ⟨Z,Z,Z,trivial⟩
 ·obtain rfl:i=l.length:=by omega
  rw[zq5,fg] at he;rw[he];refine(Zf∘Zr∘Zj∘Z0∘Za5∘ZaO∘Zh∘ZR∘Zw) ?_;refine yj1 L [.tmp 2] fun u H hH hle=>?_;exact fun v hv=>hv
end Go.V.L2
end
namespace Go.V
inductive Tr (K V:Type) where
 | nil
 | node (k:K) (v:V) (l r:Tr K V)
namespace Tr
variable {K V:Type}
def size:Tr K V->Nat
 | nil=>0
 | node _ _ l r=>size l+1+size r
def deep:Tr K V->Nat
 | nil=>0
 | node _ _ l r=>1+max (deep l) (deep r)
def deep_le:∀ t:Tr K V,deep t<=size t
 | nil=>nu _
 | node _ _ l r=>by have:=deep_le l;have:=deep_le r;simp only[deep,size];omega
def bal(k:K)(v:V)(l r:Tr K V):Tr K V:=
 if deep l>deep r+1 then
  match l with
  | nil=>nil
  | node lk lv ll lr=>
   if deep ll>=deep lr then node lk lv ll (node k v lr r)
   else match lr with
    | nil=>nil
    | node mk mv ml mr=>node mk mv (node lk lv ll ml) (node k v mr r)
 else if deep r>deep l+1 then
  match r with
  | nil=>nil
  | node rk rv rl rr=>
   if deep rr>=deep rl then node rk rv (node k v l rl) rr
   else match rl with
    | nil=>nil
    | node mk mv ml mr=>node mk mv (node k v l ml) (node rk rv mr rr)
 else node k v l r
def put(c:K->K->Int)(k:K)(v:V):Tr K V->Tr K V
 | nil=>node k v nil nil
 | node nk nv l r=>if c k nk<0 then bal nk nv (put c k v l) r else if c k nk>0 then bal nk nv l (put c k v r) else node nk v l r
def first:K->V->Tr K V->Tr K V->(K×V)×Tr K V
 | k,v,nil,r=>((k,v),r)
 | k,v,node lk lv ll lr,r=>((first lk lv ll lr).1,bal k v (first lk lv ll lr).2 r)
def drop(c:K->K->Int)(k:K):Tr K V->Tr K V×Bool
 | nil=>(nil,false)
 | node nk nv l r=>if c k nk<0 then (bal nk nv (drop c k l).1 r,(drop c k l).2) else if c k nk>0 then (bal nk nv l (drop c k r).1,(drop c k r).2)
  else match r with
   | nil=>(l,true)
   | node rk rv rl rr=>(bal (first rk rv rl rr).1.1 (first rk rv rl rr).1.2 l (first rk rv rl rr).2,true)
def get(c:K->K->Int)(k:K):Tr K V->Option V
 | nil=>none
 | node nk nv l r=>if c k nk=0 then some nv else if c k nk<0 then get c k l else get c k r
def rank(c:K->K->Int)(k:K):Tr K V->Nat
 | nil=>0
 | node nk _ l r=>if c nk k<0 then size l+1+rank c k r else rank c k l
def at':Tr K V->Nat->Option (K×V)
 | nil,_=>none
 | node k v l r,i=>if i<size l then at' l i else if i>size l then at' r (i-(size l+1)) else some (k,v)
def list:Tr K V->List (K×V)
 | nil=>[]
 | node k v l r=>list l++(k,v)::list r
def prs:Tr K V->Int->Int->Int->List (K×V)
 | nil,_,_,_=>[]
 | node k v l r,a,f,t=>if a+(size (node k v l r):Int)<=f\/a>=t then [] else
   prs l a f t++((if a+(size l:Int)>=f/\a+(size l:Int)<t then [(k,v)] else [])++prs r (a+size l+1) f t)
def get_eq{c:K->K->Int}{k nk:K}{nv:V}{l r:Tr K V}(h:c k nk=0):get c k (node nk nv l r)=some nv:=na h
def get_lt{c:K->K->Int}{k nk:K}{nv:V}{l r:Tr K V}(h:c k nk<0):get c k (node nk nv l r)=get c k l:=(nc T).trans (na h)
def get_gt{c:K->K->Int}{k nk:K}{nv:V}{l r:Tr K V}(h0:¬ c k nk=0)(h:¬ c k nk<0):get c k (node nk nv l r)=get c k r:=(nc h0).trans (nc h)
def rank_lt{c:K->K->Int}{k nk:K}{nv:V}{l r:Tr K V}(h:c nk k<0):rank c k (node nk nv l r)=size l+1+rank c k r:=na h
def rank_ge{c:K->K->Int}{k nk:K}{nv:V}{l r:Tr K V}(h:¬ c nk k<0):rank c k (node nk nv l r)=rank c k l:=nc h
def at_lt{k:K}{v:V}{l r:Tr K V}(h:i<size l):at' (node k v l r) i=at' l i:=na h
def at_gt{k:K}{v:V}{l r:Tr K V}(h:i>size l):at' (node k v l r) i=at' r (i-(size l+1)):=(nc T).trans (na h)
def at_eq{k:K}{v:V}{l r:Tr K V}(h:i=size l):at' (node k v l r) i=some (k,v):=(nc T).trans (nc T)
def size_list:∀ t:Tr K V,(list t).length=size t
 | nil=>rfl
 | node _ _ l r=>by simp only[list,nr,nz,size_list l,size_list r,size];omega
def size_node(k:K)(v:V)(l r:Tr K V):size (node k v l r)=size l+1+size r:=rfl
def deep_node(k:K)(v:V)(l r:Tr K V):deep (node k v l r)=1+max (deep l) (deep r):=rfl
def l7(k:K)(v:V)(l r:Tr K V):list (bal k v l r)=list l++(k,v)::list r:=by
 unfold bal;split
 ·rename_i h
  cases l with
  | nil=>simp [deep] at h
  | node lk lv ll lr=>
   dsimp only;split
   ·simp [list]
   ·rename_i h2
    cases lr with
    | nil=>simp [deep] at h2
    | node mk mv ml mr=>simp [list]
 ·split
  ·rename_i h
   cases r with
   | nil=>simp [deep] at h
   | node rk rv rl rr=>
    dsimp only;split
    ·simp [list]
    ·rename_i h2
     cases rl with
     | nil=>simp [deep] at h2
     | node mk mv ml mr=>simp [list]
  ·simp [list]
def ri(k:K)(v:V)(l r:Tr K V):size (bal k v l r)=size l+1+size r:=by
 rw[<-size_list,l7,nr,nz,size_list,size_list];omega
def t6:∀ (k:K) (v:V) (l r:Tr K V),(first k v l r).1::list (first k v l r).2=list l++(k,v)::list r
 | k,v,nil,r=>rfl
 | k,v,node lk lv ll lr,r=>by
  simp only[first,l7,list];rw[<-zpd,t6 lk lv ll lr]
def size_first(k:K)(v:V)(l r:Tr K V):size (first k v l r).2=size l+size r:=by
 have:=nh List.length (t6 k v l r);simp only[nz,nr,size_list] at this;omega
def size_put(c:K->K->Int)(k:K)(v:V):∀ t:Tr K V,size (put c k v t)<=size t+1
 | nil=>by simp [put,size]
 | node nk nv l r=>by
  have:=size_put c k v l;have:=size_put c k v r;simp only[put];split
  ·rw[ri,size_node];omega
  ·split
   ·rw[ri,size_node];omega
   ·rw[size_node,size_node];omega
def size_drop(c:K->K->Int)(k:K):∀ t:Tr K V,size (drop c k t).1<=size t
 | nil=>nu _
 | node nk nv l r=>by
  have:=size_drop c k l;have:=size_drop c k r;simp only[drop];split
  ·rw[ri,size_node];omega
  ·split
   ·rw[ri,size_node];omega
   ·cases r with
    | nil=>simp only[size];omega
    | node rk rv rl rr=>rw[ri,size_first,size_node,size_node];omega
def prs_length_le:∀ (t:Tr K V) (a f e:Int),(prs t a f e).length<=size t
 | nil,_,_,_=>nu _
 | node k v l r,a,f,e=>by
  have:=prs_length_le l a f e;have:=prs_length_le r (a+size l+1) f e;simp only[prs];split
  ·exact mb _
  ·simp only[nr,size_node];split
   ·simp only[nz,m6];omega
   ·simp only[m6];omega
def TreeAt(nl:K->V->Value->Value->Int->Int->List Value)(ty:TypeId):Tr K V->Value->Heap->Prop
 | nil,v,_=>v=.pointer none
 | node k x l r,v,H=>∃ b lv rv,v=.pointer (some ⟨b,0,none⟩)/\H b=some (.cells (nl k x lv rv (size (node k x l r)) (deep (node k x l r))).toArray ty)/\TreeAt nl ty l lv H/\TreeAt nl ty r rv H
def TreeAt.mono{nl:K->V->Value->Value->Int->Int->List Value}:∀ {t:Tr K V},Kn.mono (.sat (TreeAt nl ty t))
 | nil,_,_,_,h,_=>h
 | node k x l r,_,_,_,⟨b,lv,rv,h1,h2,h3,h4⟩,hle=>⟨b,lv,rv,h1,hle _ _ h2,TreeAt.mono _ _ _ h3 hle,TreeAt.mono _ _ _ h4 hle⟩
def TreeAt.le{nl:K->V->Value->Value->Int->Int->List Value}{t:Tr K V}{H':Heap}(h:TreeAt nl ty t v H)(hle:H.Le H'):TreeAt nl ty t v H':=TreeAt.mono _ _ _ h hle
end Tr
end Go.V
namespace Go.V
structure zfi{K:Type}(c:K->K->Int):Prop where
 anti:∀ a b,c a b<0↔0<c b a
 trans:∀ {a b d},c a b<0->c b d<0->c a d<0
 eql:∀ {a b} (d),c a b=0->(c a d<0↔c b d<0)
namespace zfi
variable {K:Type} {c:K->K->Int}
def refl(h:zfi c)(a:K):c a a=0:=by
 have:=h.anti a a;omega
def symm(h:zfi c){a b:K}(e:c a b=0):c b a=0:=by
 have:=h.anti a b;have:=h.anti b a;omega
end zfi
namespace Tr
variable {K V:Type} (c:K->K->Int)
def Srt(l:List (K×V)):Prop:=l.Pairwise fun x y=>c x.1 y.1<0
def putS(k:K)(v:V):List (K×V)->List (K×V)
 | []=>[(k,v)]
 | y::l=>if c k y.1<0 then (k,v)::y::l else if c k y.1>0 then y::putS k v l else (y.1,v)::l
def dropS(k:K):List (K×V)->List (K×V)
 | []=>[]
 | y::l=>if c k y.1<0 then y::l else if c k y.1>0 then y::dropS k l else l
def getS(k:K):List (K×V)->Option V
 | []=>none
 | y::l=>if c k y.1=0 then some y.2 else getS k l
def rankS(k:K)(l:List (K×V)):Nat:=(l.filter fun y=>c y.1 k<0).length
def cutI(f e:Int):List (K×V)->Int->List (K×V)
 | [],_=>[]
 | y::l,i=>if f<=i/\i<e then y::cutI f e l (i+1) else cutI f e l (i+1)
variable {c} (h:zfi c)
include h
theorem Cm{k:K}{v:V}:∀ {l1 l2:List (K×V)} {y:K×V},(∀ x∈l1,c x.1 y.1<0)->
  putS c k v (l1++y::l2)=if c k y.1<0 then putS c k v l1++y::l2 else if c k y.1>0 then l1++y::putS c k v l2 else l1++(y.1,v)::l2
 | [],l2,y,_=>by simp only[mj,putS];split<;>simp
 | x::l1,l2,y,hl=>by
  have ih:=Cm (k:=k) (v:=v) (l1:=l1) (l2:=l2) (y:=y) fun z hz=>hl z (mh _ hz);have hx:=hl x (mc ..);simp only[zpd,putS];by_cases h1:c k x.1<0
  ·have:c k y.1<0:=h.trans h1 hx;rw[na h1,na this,na h1];rfl
  ·rw[nc h1];by_cases h2:c k x.1>0
   ·rw[na h2,ih,nc h1,na h2];split
    ·rfl
    ·split<;>rfl
   ·have h0:c k x.1=0:=T;have:c k y.1<0:=(h.eql _ h0).2 hx;rw[nc h2,na this,nc h1,nc h2];rfl
theorem Aw{k:K}:∀ {l1 l2:List (K×V)} {y:K×V},(∀ x∈l1,c x.1 y.1<0)->
  dropS c k (l1++y::l2)=if c k y.1<0 then dropS c k l1++y::l2 else if c k y.1>0 then l1++y::dropS c k l2 else l1++l2
 | [],l2,y,_=>by simp only[mj,dropS]
 | x::l1,l2,y,hl=>by
  have ih:=Aw (k:=k) (l1:=l1) (l2:=l2) (y:=y) fun z hz=>hl z (mh _ hz);have hx:=hl x (mc ..);simp only[zpd,dropS];by_cases h1:c k x.1<0
  ·have:c k y.1<0:=h.trans h1 hx;rw[na h1,na this,na h1];rfl
  ·rw[nc h1];by_cases h2:c k x.1>0
   ·rw[na h2,ih,nc h1,na h2];split
    ·rfl
    ·split<;>rfl
   ·have h0:c k x.1=0:=T;have:c k y.1<0:=(h.eql _ h0).2 hx;rw[nc h2,na this,nc h1,nc h2]
omit h in
theorem rc{l1 l2:List (K×V)}{y:K×V}(hs:Srt c (l1++y::l2)):Srt c l1/\Srt c l2/\(∀ x∈l1,c x.1 y.1<0)/\(∀ x∈l2,c y.1 x.1<0):=by
 have h1:=zpq.1 hs;have h2:=mo.1 h1.2.1;exact⟨h1.1,h2.2,fun x hx=>h1.2.2 x hx y (mc ..),h2.1⟩
theorem list_put(k:K)(v:V):∀ {t:Tr K V},Srt c (list t)->list (put c k v t)=putS c k v (list t)
 | nil,_=>rfl
 | node nk nv l r,hs=>by
  obtain⟨hl,hr,hx,_⟩:=rc (y:=(nk,nv)) hs;simp only[list,put];rw[Cm h hx];split
  ·rw[l7,list_put k v hl]
  ·split
   ·rw[l7,list_put k v hr]
   ·rfl
theorem list_drop(k:K):∀ {t:Tr K V},Srt c (list t)->list (if (drop c k t).2=true then (drop c k t).1 else t)=dropS c k (list t)/\((drop c k t).2=false->(drop c k t).1=t\/list (drop c k t).1=list t)/\((drop c k t).2=true->list (drop c k t).1=dropS c k (list t))/\((drop c k t).2=false->dropS c k (list t)=list t)
 | nil,_=>⟨rfl,fun _=>.inl rfl,fun h=>(by cases h),fun _=>rfl⟩
 | node nk nv l r,hs=>by
  obtain⟨hl,hr,hx,_⟩:=rc (y:=(nk,nv)) hs;have il:=list_drop k hl;have ir:=list_drop k hr
  have key:((drop c k (node nk nv l r)).2=true->list (drop c k (node nk nv l r)).1=dropS c k (list (node nk nv l r)))/\((drop c k (node nk nv l r)).2=false->dropS c k (list (node nk nv l r))=list (node nk nv l r)/\list (drop c k (node nk nv l r)).1=list (node nk nv l r)):=by
   simp only[list,drop];rw[Aw h hx];split
   ·refine⟨fun ht=>?_,fun hf=>?_⟩
    ·dsimp only at ht |-;rw[l7,il.2.2.1 ht]
    ·dsimp only at hf |-;have e:=il.2.2.2 hf;refine⟨by rw[e],?_⟩;rw[l7];rcases il.2.1 hf with e1 | e1<;>rw[e1]
   ·split
    ·refine⟨fun ht=>?_,fun hf=>?_⟩
     ·dsimp only at ht |-;rw[l7,ir.2.2.1 ht]
     ·dsimp only at hf |-;have e:=ir.2.2.2 hf;refine⟨by rw[e],?_⟩;rw[l7];rcases ir.2.1 hf with e1 | e1<;>rw[e1]
    ·cases r with
     | nil=>exact⟨fun _=>by simp [list],fun hf=>by cases hf⟩
     | node rk rv rl rr=>
      refine⟨fun _=>?_,fun hf=>by cases hf⟩;dsimp only;rw[l7];have:=t6 rk rv rl rr;rw[show((first rk rv rl rr).1.1,(first rk rv rl rr).1.2)=(first rk rv rl rr).1 from rfl,this];rfl
  refine⟨?_,fun hf=>.inr (key.2 hf).2,key.1,fun hf=>(key.2 hf).1⟩;split
  ·rename_i ht;exact key.1 ht
  ·rename_i ht;have hf:(drop c k (node nk nv l r)).2=false:=by simpa using ht
   exact(key.2 hf).1.symm
theorem Di{k:K}:∀ {l1 l2:List (K×V)} {y:K×V},(∀ x∈l1,c x.1 y.1<0)->(∀ x∈l2,c y.1 x.1<0)->
  getS c k (l1++y::l2)=if c k y.1=0 then some y.2 else if c k y.1<0 then getS c k l1 else getS c k l2
 | [],l2,y,_,h2=>by
  simp only[mj,getS];split
  ·rfl
  ·split
   ·rename_i h1
    have:∀ (l:List (K×V)),(∀ x∈l,c y.1 x.1<0)->getS c k l=none:=by
     intro l
     induction l with
     | nil=>intro _;rfl
     | cons z l ih=>
      intro hz;have:=h.trans h1 (hz z (mc ..));simp only[getS];rw[nc T];exact ih fun x hx=>hz x (mh _ hx)
    exact this l2 h2
   ·rfl
 | x::l1,l2,y,hl,h2=>by
  have ih:=Di (k:=k) (l1:=l1) (l2:=l2) (y:=y) (fun z hz=>hl z (mh _ hz)) h2;have hx:=hl x (mc ..);simp only[zpd,getS];by_cases h0:c k x.1=0
  ·have:c k y.1<0:=(h.eql _ h0).2 hx;rw[na h0,nc T,na this,na h0]
  ·rw[nc h0,ih,nc h0]
theorem get_list(k:K):∀ {t:Tr K V},Srt c (list t)->get c k t=getS c k (list t)
 | nil,_=>rfl
 | node nk nv l r,hs=>by
  obtain⟨hl,hr,hx,hy⟩:=rc (y:=(nk,nv)) hs;simp only[list,get];rw[Di h hx hy,get_list k hl,get_list k hr]
theorem rank_list(k:K):∀ {t:Tr K V},Srt c (list t)->rank c k t=rankS c k (list t)
 | nil,_=>rfl
 | node nk nv l r,hs=>by
  obtain⟨hl,hr,hx,hy⟩:=rc (y:=(nk,nv)) hs;simp only[list,rank,rankS,zpc,nr,zqo];split
  ·rename_i h1;have:(list l).filter (fun y=>decide (c y.1 k<0))=list l:=zrh.2 fun x hx'=>by simpa using h.trans (hx x hx') h1
   rw[this,size_list,na (by simpa using h1),rank_list k hr];simp only[rankS,nz];omega
  ·rename_i h1
   have:(list r).filter (fun y=>decide (c y.1 k<0))=[]:=zqf.2 fun x hx'=>by
    have h2:=hy x hx';simp only[decide_eq_true_eq];intro h3;exact h1 (h.trans h2 h3)
   rw[this,nc (by simpa using h1),rank_list k hl];simp [rankS]
omit h
theorem at_list:∀ (t:Tr K V) (i:Nat),at' t i=(list t)[i]?
 | nil,i=>by simp [at',list]
 | node nk nv l r,i=>by
  simp only[at',list];split
  ·rename_i h1;rw[at_list l,zp5 (by rw[size_list];exact h1)]
  ·rw[zrx (by rw[size_list];omega),size_list];split
   ·rename_i h1 h2;rw[at_list r];rw[show i-size l=(i-(size l+1))+1 by omega,zqe]
   ·rename_i h1 h2;rw[show i-size l=0 by omega];rfl
theorem Dn(f e:Int):∀ (l1 l2:List (K×V)) (i:Int),cutI f e (l1++l2) i=cutI f e l1 i++cutI f e l2 (i+l1.length)
 | [],l2,i=>by simp [cutI]
 | y::l1,l2,i=>by
  simp only[zpd,cutI,Dn f e l1 l2 (i+1),nz];rw[show i+1+(l1.length:Int)=i+((l1.length+1:Nat):Int) by omega];split<;>rfl
theorem Qv(f e:Int):∀ (l:List (K×V)) (i:Int),i+l.length<=f\/i>=e->cutI f e l i=[]
 | [],_,_=>rfl
 | y::l,i,h=>by
  simp only[nz] at h;simp only[cutI];rw[nc T,Qv f e l (i+1) T]
theorem prs_list:∀ (t:Tr K V) (a f e:Int),prs t a f e=cutI f e (list t) a
 | nil,_,_,_=>rfl
 | node nk nv l r,a,f,e=>by
  simp only[prs];split
  ·rename_i h1;rw[Qv];rw[size_list];exact h1
  ·simp only[list];rw[Dn,prs_list l,prs_list r,size_list];simp only[cutI];split
   ·rename_i h2;rfl
   ·rename_i h2;rfl
def lst:Nat->Nat
 | 0=>0
 | 1=>1
 | n+2=>lst (n+1)+lst n+1
end Tr
end Go.V
namespace Go.V.L6
open Go.V Go.V.L2 Go.V.L3
def Vk{c:α->α->Int}(h:Ord3 c):zfi c:=by
 refine⟨fun a b=>?_,fun {a b d} h1 h2=>?_,fun {a b} d e=>?_⟩
 ·have:=h.anti a b;omega
 ·exact h.tr h1 h2
 ·rw[h.eq _ _ e]
def ig(a b:U):Int:=kw (a.2,a.1) (b.2,b.1)
def pd:Ord3 ig where
 refl a:=cmpT_ord.refl _
 eq a b h:=by
  have:=cmpT_ord.eq _ _ h;exact Prod.ext (nh Prod.snd this) (nh Prod.fst this)
 anti a b:=cmpT_ord.anti _ _
 trans a b d:=cmpT_ord.trans _ _ _
set_option linter.unusedSectionVars false
section keys
variable  [DecidableEq α] {c:α->α->Int}
abbrev kS(L:List (α×Unit)):List α:=L.map (·.1)
def zks{L:List (α×Unit)}:Tr.Srt c L↔Sst c (kS L):=by unfold Tr.Srt Sst kS;rw[List.pairwise_map]
def zhk(h:Ord3 c){k:α}:∀ {L:List (α×Unit)},k∉kS L->kS (Tr.putS c k () L)=oe c k (kS L)
 | [],_=>rfl
 | y::L,hk=>by
  simp only[kS,mz,ma,not_or] at hk;simp only[Tr.putS];by_cases h1:c k y.1<0
  ·rw[na h1];simp [kS,oe,h1]
  ·have h2:=h.tri h1 hk.1;have h3:=h.anti k y.1;rw[nc h1,na T];have ih:=zhk h (L:=L) hk.2;simp only[kS,mz,oe] at ih |-;rw[nc h1,ih]
def X6(h:Ord3 c){k:α}:∀ {L:List (α×Unit)},Sst c (kS L)->kS (Tr.dropS c k L)=(kS L).filter fun z=>decide (z≠k)
 | [],_=>rfl
 | y::L,hs=>by
  simp only[kS,mz] at hs;obtain⟨hy,hs'⟩:=mo.1 hs;simp only[Tr.dropS]
  have all:∀ {d:α},(c k d<0\/k=d)->(∀ z∈kS L,c d z<0)->(kS L).filter (fun z=>decide (z≠k))=kS L:=fun {d} hd hz=>zrh.2 fun z hm=>by
   have h4:=hz z hm;simp only[decide_eq_true_eq];intro e;subst e;rcases hd with hd | hd
   ·exact h.asym hd h4
   ·subst hd;exact h.irr _ h4
  by_cases h1:c k y.1<0
  ·rw[na h1];simp only[kS,mz,zqo];rw[na (by simpa using (h.ne h1).symm)];have:=all (.inl h1) hy;unfold kS at this;rw[this]
  ·rw[nc h1];by_cases h2:c k y.1>0
   ·rw[na h2];have ih:=X6 h (k:=k) (L:=L) hs';simp only[kS,mz,zqo] at ih |-;have hne:y.1≠k:=fun e=>by rw[e,h.refl] at h2;omega
    rw[na (by simpa using hne),ih]
   ·rw[nc h2];have e:=h.eq _ _ (show c k y.1=0 by omega);simp only[kS,mz,zqo];rw[nc (by simpa using e.symm)];have:=all (.inr e) hy;unfold kS at this;rw[this]
def zkt(h:Ord3 c){k:α}:∀ {L:List (α×Unit)},(k∈kS L->Tr.getS c k L=some ())/\(k∉kS L->Tr.getS c k L=none)
 | []=>⟨fun h=>(by cases h),fun _=>rfl⟩
 | y::L=>by
  have ih:=zkt h (k:=k) (L:=L);simp only[Tr.getS,kS,mz,ma];by_cases e:k=y.1
  ·subst e;rw[na (h.refl _)];exact⟨fun _=>rfl,fun hn=>ni (.inl rfl) hn⟩
  ·have:¬ c k y.1=0:=fun h0=>e (h.eq _ _ h0);rw[nc this];exact⟨fun hm=>ih.1 (hm.resolve_left e),fun hn=>ih.2 fun hm=>hn (.inr hm)⟩
def Ey{p:Prop}[Decidable p]{a b:Int}(ha:0<=a)(hb:0<=b):0<=if p then a else b:=by split<;>assumption
def Ka(h:Ord3 c){x:α}:∀ {l:List α},Sst c l->(l.filter fun z=>decide (c z x<0))=l.takeWhile fun z=>decide (c z x<0)
 | [],_=>rfl
 | y::l,hs=>by
  obtain⟨hy,hs'⟩:=mo.1 hs;rw[zqo,zp2];by_cases h1:c y x<0
  ·rw[na (by simpa using h1),na (by simpa using h1),Ka h hs']
  ·rw[nc (by simpa using h1),nc (by simpa using h1)]
   exact zqf.2 fun z hz=>by
    simp only[decide_eq_true_eq];exact fun h2=>h1 (h.tr (hy z hz) h2)
def ze4(h:Ord3 c){k:α}{L:List (α×Unit)}(hs:Sst c (kS L)):Tr.rankS c k L=ct c k (kS L):=by
 unfold Tr.rankS ct;rw[<-Ka h hs];unfold kS;rw[List.filter_map,m4];rfl
def Gv:∀ {l:List α} {x:α},l.Nodup->x∈l->(l.filter fun z=>decide (z≠x)).length+1=l.length
 | [],_,_,h=>by cases h
 | y::l,x,hn,h=>by
  obtain⟨h1,h2⟩:=zra.1 hn;rw[zqo];by_cases e:y=x
  ·subst e;rw[nc (by simp)]
   have:(l.filter fun z=>decide (z≠y))=l:=zrh.2 fun z hz=>by
    simp only[decide_eq_true_eq];exact fun e=>h1 (e ▸ hz)
   rw[this,nz]
  ·rw[na (by simpa using e),nz,nz,Gv h2 (by
    rcases ma.1 h with h | h
    ·exact ni h.symm e
    ·exact h)]
def Ti{l:List α}{x:α}(h:x∉l):(l.filter fun z=>decide (z≠x))=l:=zrh.2 fun z hz=>by
 simp only[decide_eq_true_eq];exact fun e=>h (e ▸ hz)
def Qw{V:Type}(f e:Nat):∀ (l:List (α×V)) (i:Nat),Tr.cutI (f:Int) (e:Int) l (i:Int)=(l.take (e-i)).drop (f-i)
 | [],i=>by simp [Tr.cutI]
 | y::l,i=>by
  have ih:=Qw f e l (i+1);simp only[Tr.cutI];rw[show((i:Int)+1)=((i+1:Nat):Int) by omega,ih];by_cases h:f<=i/\i<e
  ·rw[na T,show e-i=(e-(i+1))+1 by omega,show f-i=0 by omega,show f-(i+1)=0 by omega];rfl
  ·rw[nc T];by_cases h2:i<e
   ·rw[show e-i=(e-(i+1))+1 by omega,show f-i=(f-(i+1))+1 by omega];rfl
   ·rw[show e-i=0 by omega,show e-(i+1)=0 by omega];simp
def tj(h:Ord3 c){x:α}{p:α->Bool}:∀ {l:List α},Sst c l->(∀ z,c z x<0->p z=false)->(∀ a b,c a b<0->¬ c a x<0->p b=true->p a=true)->(l.drop (ct c x l)).takeWhile p=l.filter p
 | [],_,_,_=>rfl
 | y::l,hs,h1,h2=>by
  obtain⟨hy,hs'⟩:=mo.1 hs;have ih:=tj h hs' h1 h2;unfold ct at ih |-;rw[zp2,zqo];by_cases hyx:c y x<0
  ·rw[na (by simpa using hyx),h1 y hyx,nc E,nz,zsp];exact ih
  ·rw[nc (by simpa using hyx),m6,zpy]
   have key:∀ {m:List α},Sst c m->(∀ z∈m,¬ c z x<0)->m.takeWhile p=m.filter p:=by
    intro m
    induction m with
    | nil=>intro _ _;rfl
    | cons z m ihm=>
     intro hm hz;obtain⟨g1,g2⟩:=mo.1 hm;rw[zp2,zqo];cases hp:p z
     ·rw[nc E,nc E]
      exact(zqf.2 fun b hb hpb=>by
       have:=h2 z b (g1 b hb) (hz z (mc ..)) hpb;rw[hp] at this;cases this).symm
     ·rw[na rfl,na rfl,ihm g2 fun b hb=>hz b (mh _ hb)]
   have:=key hs fun z hz=>by
    rcases ma.1 hz with rfl | hz
    ·exact hyx
    ·exact fun h3=>hyx (h.tr (hy z hz) h3)
   rw[this,zqo]
end keys
structure TS(l:List U)(t u:Tr U Unit):Prop where
 kt:kS t.list=l
 st:Sst kw l
 su:Sst ig (kS u.list)
 mu:∀ z,z∈kS u.list↔z∈l
 zu:u.size=l.length
def sw:zfi kw:=Vk cmpT_ord
def Dp:zfi ig:=Vk pd
def zjf:TS [] .nil .nil:=⟨rfl,Sst.nil,Sst.nil,fun _=>Iff.rfl,rfl⟩
section ts
variable  {t u:Tr U Unit}
def TS.size(h:TS l t u):t.size=l.length:=by rw[<-Tr.size_list,<-h.kt];simp
def TS.srt(h:TS l t u):Tr.Srt kw t.list:=zks.2 (h.kt ▸ h.st)
def TS.srtu(h:TS l t u):Tr.Srt ig u.list:=zks.2 h.su
def TS.bySub(h:TS l t u):kS u.list=fg ig [] l:=fm pd h.su (gz pd Sst.nil) fun z=>by rw[h.mu,fe];simp
def TS.put(h:TS l t u){x:U}(hx:x∉l):TS (oe kw x l) (Tr.put kw x () t) (Tr.put ig x () u):=by
 have hxt:x∉kS t.list:=by rw[h.kt];exact hx
 have hxu:x∉kS u.list:=fun hm=>hx ((h.mu x).1 hm)
 have e1:kS (Tr.put kw x () t).list=oe kw x l:=by
  rw[Tr.list_put sw x () h.srt,zhk cmpT_ord hxt,h.kt]
 have e2:kS (Tr.put ig x () u).list=oe ig x (kS u.list):=by
  rw[Tr.list_put Dp x () h.srtu,zhk pd hxu]
 refine⟨e1,d7 cmpT_ord h.st hx,?_,fun z=>?_,?_⟩
 ·rw[e2];exact d7 pd h.su hxu
 ·rw[e2,ub,ub,h.mu]
 ·have:=nh List.length e2;simp only[kS,m4,ww,Tr.size_list] at this;rw[this,ww,h.zu]
def TS.drop(h:TS l t u){x:U}(hx:x∈l):TS (l.filter fun z=>decide (z≠x)) (if (Tr.drop kw x t).2=true then (Tr.drop kw x t).1 else t) (if (Tr.drop ig x u).2=true then (Tr.drop ig x u).1 else u):=by
 have e1:kS (if (Tr.drop kw x t).2=true then (Tr.drop kw x t).1 else t).list=l.filter fun z=>decide (z≠x):=by
  rw[(Tr.list_drop sw x h.srt).1,X6 cmpT_ord (by rw[h.kt];exact h.st),h.kt]
 have e2:kS (if (Tr.drop ig x u).2=true then (Tr.drop ig x u).1 else u).list=(kS u.list).filter fun z=>decide (z≠x):=by
  rw[(Tr.list_drop Dp x h.srtu).1,X6 pd h.su]
 refine⟨e1,h.st.sublist zqd,?_,fun z=>?_,?_⟩
 ·rw[e2];exact h.su.sublist zqd
 ·rw[e2,zo3,zo3,h.mu]
 ·have h1:=nh List.length e2;have h2:=Gv (h.su.nodup pd) ((h.mu x).2 hx);have h3:=Gv (h.st.nodup cmpT_ord) hx;have h4:=h.zu;simp only[kS,m4,Tr.size_list] at h1 h2;omega
def TS.get(h:TS l t u)(x:U):Tr.get kw x t=if x∈l then some () else none:=by
 have hk:=zkt cmpT_ord (k:=x) (L:=t.list);rw[h.kt] at hk;rw[Tr.get_list sw x h.srt];by_cases hx:x∈l
 ·rw[na hx];exact hk.1 hx
 ·rw[nc hx];exact hk.2 hx
def TS.rank(h:TS l t u)(x:U):Tr.rank kw x t=ct kw x l:=by
 rw[Tr.rank_list sw x h.srt,ze4 cmpT_ord (by rw[h.kt];exact h.st),h.kt]
def TS.ranku(h:TS l t u)(x:U):Tr.rank ig x u=ct ig x (fg ig [] l):=by
 rw[Tr.rank_list Dp x h.srtu,ze4 pd h.su,h.bySub]
end ts
def Dr(x:ByteArray):0<=vm x ⟨#[]⟩:=by
 unfold vm
 cases x.data.toList with
 | nil=>decide
 | cons a r=>exact Int.le_of_lt (show(0:Int)<1 by decide)
def zol(x:Dx):0<=Mv x n3:=by
 unfold Mv t7;simp only[A0];exact Ey (Dr _) (Ey (Dr _) (Dr _))
def zir(l:List U)(s:Dx):List U:=l.filter fun z=>decide (z.2=s)
def zgi(hs:Sst kw l)(s:Dx):((fg ig [] l).drop (ct ig (n3,s) (fg ig [] l))).takeWhile (fun z=>decide (z.2=s))=zir l s:=by
 have hS:Sst ig (fg ig [] l):=gz pd Sst.nil
 have e:((fg ig [] l).drop (ct ig (n3,s) (fg ig [] l))).takeWhile (fun z=>decide (z.2=s))=(fg ig [] l).filter fun z=>decide (z.2=s):=by
  refine tj pd hS (fun z hz=>?_) fun a b hab hax hb=>?_
  ·refine ng fun e=>?_;unfold ig at hz;have hz':kw (z.2,z.1) (s,n3)<0:=hz;rw[Yv (a:=(z.2,z.1)) (b:=(s,n3)) e] at hz';have:=zol z.1;dsimp only at hz';omega
  ·have hb':b.2=s:=by simpa using hb
   refine nf ?_;by_cases e:a.2=s
   ·exact e
   ·unfold ig at hab hax;rw[Q1 (a:=(a.2,a.1)) (b:=(b.2,b.1)) (by dsimp only;rw[hb'];exact e)] at hab;have hax':¬ kw (a.2,a.1) (s,n3)<0:=hax;rw[Q1 (a:=(a.2,a.1)) (b:=(s,n3)) e] at hax';dsimp only at hab hax';rw[hb'] at hab;exact ni hab hax'
 rw[e];refine fm cmpT_ord ?_ (hs.sublist zqd) fun z=>?_
 ·refine List.Pairwise.imp_of_mem ?_ (hS.sublist zqd);intro a b ha hb hab;have ha':a.2=s:=by simpa using (zo3.1 ha).2
  have hb':b.2=s:=by simpa using (zo3.1 hb).2
  unfold ig at hab;rw[Yv (a:=(a.2,a.1)) (b:=(b.2,b.1)) (ha'.trans hb'.symm)] at hab;have hne:a.1≠b.1:=fun e=>by dsimp only at hab;rw[e,cmp3_ord.refl] at hab;omega
  rw[Q1 hne];exact hab
 ·rw[zo3];unfold zir;rw[zo3,fe];simp
def zkm{f:FT}{z:U}(h:lg f z<0):kw z (Bg f)<0:=by
 by_cases h3:kw z (Bg f)<0
 ·exact h3
 ·exfalso;have anti:=cmpT_ord.anti z (Bg f);by_cases h4:kw z (Bg f)=0
  ·have h5:=cmpT_ord.eq _ _ h4;unfold lg at h;rw[<-h5,(Q2 _).refl] at h;omega
  ·have h5:=Oj (n:=jl f) (show kw (Bg f) z<0 by omega);have h6:=(Q2 (jl f)).anti z (Bg f);unfold lg at h;omega
def zkn{f:FT}{z:U}(h:lg f z=0):¬ kw z (Bg f)<0:=by
 have ht:=(dj f z).2 h;unfold xn ia tkF at ht;unfold Bg kw Mv t7;have hr:∀ x,vm x x=0:=cmpB_ord.refl;simp only[A0];refine Int.not_lt.2 ?_;rcases dq f with ⟨h0,h1⟩ | ⟨h0,h1,h2⟩ | ⟨h0,h1,h2,h3⟩ | ⟨h0,h1,h2,h3,h4⟩ | ⟨h0,h1,h2,h3,h4⟩
 ·rw[h0] at ht |-;simp only[Nat.reduceLeDiff,if_false]
  repeat (first | exact Dr _ | refine Ey ?_ ?_)
 ·rw[h0] at ht |-;simp [h1] at ht;simp only[Nat.reduceLeDiff,if_false,if_true,<-ht,hr]
  repeat (first | exact Dr _ | refine Ey ?_ ?_)
 ·rw[h0] at ht |-;simp [h1,h2] at ht;simp only[Nat.reduceLeDiff,if_false,if_true,<-ht.1,<-ht.2,hr]
  repeat (first | exact Dr _ | refine Ey ?_ ?_)
 ·rw[h0] at ht |-;simp [h1,h2,h3] at ht;simp only[Nat.reduceLeDiff,if_false,if_true,<-ht.1.1,<-ht.1.2,<-ht.2,hr]
  repeat (first | exact Dr _ | refine Ey ?_ ?_)
 ·rw[h0] at ht |-;simp [h1,h2,h3,h4] at ht;simp only[Nat.reduceLeDiff,if_true,<-ht.1.1.1,<-ht.1.1.2,<-ht.1.2,ht.2,hr];decide
def U2(hs:Sst kw l)(f:FT):(l.drop (ct kw (Bg f) l)).takeWhile (fun z=>xn (ia f) z)=l.filter fun z=>xn (ia f) z:=by
 refine tj cmpT_ord hs (fun z hz=>?_) fun a b hab hax hb=>?_
 ·cases ht:xn (ia f) z
  ·rfl
  ·exact ni hz (zkn ((dj f z).1 ht))
 ·have h0:=(dj f b).1 hb;have h1:=Vl hab (f:=f) T;have h2:¬ lg f a<0:=fun h=>hax (zkm h);exact(dj f a).2 T
def r6(f:FT):FT:=(f.1,n3,false)
def M6{f:FT}{z:U}(h:xn f z=true):xn (r6 f) z=true:=by
 unfold xn r6 at *;simp only[zo5] at h |-;exact⟨h.1,by simp⟩
def zmx(l:List U)(f:FT):List U:=l.filter (xn f)
def U1(hs:Sst kw l)(f:FT):((l.drop (ct kw (Bg (r6 f)) l)).takeWhile (fun z=>xn (ia (r6 f)) z)).filter (xn f)=zmx l f:=by
 rw[U2 hs];unfold zmx;rw[zse];refine List.filter_congr fun z _=>?_;cases h:xn f z
 ·rfl
 ·have:=Kc (M6 h);simp [this]
def wo(l:List U)(x:U)(d:Bool):List U×Int:=
 if tE x=0 then (if d=true then (l.filter fun z=>decide (z≠x),0) else if x∈l then (l,0) else if l.length>=4096 then ([],3) else (oe kw x l,0)) else ([],tE x)
def T6(hs:Sst kw l)(x:U)(d:Bool):Sst kw (wo l x d).1:=by
 unfold wo;split
 ·split
  ·exact hs.sublist zqd
  ·split
   ·exact hs
   ·split
    ·exact Sst.nil
    ·rename_i h _;exact d7 cmpT_ord hs h
 ·exact Sst.nil
def Bu(hl:l.length<=4096)(x:U)(d:Bool):(wo l x d).1.length<=4096:=by
 unfold wo;split
 ·split
  ·exact mp (zpp _ _) hl
  ·split
   ·exact hl
   ·split
    ·exact mb _
    ·rw[ww];omega
 ·exact mb _
def ofU:List U->List U->List U×Int
 | l,[]=>(l,0)
 | l,x::r=>if (wo l x false).2=0 then ofU (wo l x false).1 r else ([],(wo l x false).2)
end Go.V.L6
namespace Go.V.L8
open Go.V.L2 Go.V.L3 Go.V.L6
abbrev CH:=U×Bool
def cE(n:Nat)(l:List CH):Int:=if n<l.length then 3 else if (l.any fun c=>!decide (tE c.1=0))=true then 6 else 0
def A4(s:List U)(m:CH):Bool:=decide (m.1∈s) != m.2
def uu(s:List U):List CH->Nat->Nat×Int
 | [],i=>(i,0)
 | m::r,i=>if A4 s m=true then uu s r (i+1) else (i,13)
def og(s:List U)(l:List CH):Nat×Int:=if cE 32 l=0 then uu s l 0 else (0,cE 32 l)
def i9(s:List U):∀ (l:List CH) (i:Nat),uu s l i=((uu s l 0).1+i,(uu s l 0).2)
 | [],i=>by simp [uu]
 | m::r,i=>by
  by_cases h:A4 s m=true
  ·have e1:uu s (m::r) i=uu s r (i+1):=by rw[uu,na h]
   have e2:uu s (m::r) 0=uu s r (0+1):=by rw[uu,na h]
   rw[e1,e2,i9 s r (i+1),i9 s r (0+1)];exact Prod.ext (by show(uu s r 0).1+(i+1)=(uu s r 0).1+(0+1)+i;omega) Z
  ·rw[uu,uu,nc h,nc h];simp
def Tf{s:List U}{l:List CH}{m:CH}(h:∀ (j:Nat) x,j<i->l[j]?=some x->A4 s x=true)(hm:l[i]?=some m)(hh:A4 s m=false):uu s l 0=(i,13):=by
 induction l generalizing i with
 | nil=>simp at hm
 | cons y r ih=>
  cases i with
  | zero=>
   simp at hm;subst hm;unfold uu;rw[nc (by rw[hh];decide)]
  | succ i=>
   have hy:=h 0 y (Nat.succ_pos _) rfl;unfold uu;rw[na hy,i9,ih (i:=i) (fun j x hj hx=>h (j+1) x T hx) (by simpa using hm)]
def Tg{s:List U}{l:List CH}(h:∀ x∈l,A4 s x=true):uu s l 0=(l.length,0):=by
 induction l with
 | nil=>rfl
 | cons y r ih=>
  unfold uu;rw[na (h y (by simp)),i9,ih (fun x hx=>h x (by simp [hx]))];rfl
def Al:List U->List CH->List CH->List U×List CH×Int
 | s,made,[]=>(s,made,0)
 | s,made,c::r=>if (wo s c.1 c.2).2=0 then Al (wo s c.1 c.2).1 (if decide (c.1∈s)=c.2 then made++[c] else made) r else ([],[],(wo s c.1 c.2).2)
def a9(s:List U)(l cs:List CH):List U×List CH×Int:=
 if cE 32 l=0 then (if cE 32 cs=0 then (if (og s l).2=0 then Al s [] cs else ([],[],(og s l).2)) else ([],[],cE 32 cs)) else ([],[],cE 32 l)
end Go.V.L8
namespace Go.V
def fzI(P:Program)(t' st:TypeId)(off i:Nat):Bool:=
 match P.underlying st with
 | some (.struct fs)=>match fs[i]? with
  | some f=>(match P.info? f.type with | some j=>j.size == 0 | none=>false) && (!(P.cellsOf t' == 0) && ((byteOfCell P P.depth t' (off%P.cellsOf t')).isSome && (byteOfCell P P.depth t' ((off+f.offset)%P.cellsOf t')).isSome))
  | none=>false
 | _=>false
def PtrS:Value->Heap->Prop:=fun v _=>∃ a,v=.pointer (some a)
def PtrS.mono:Kn.mono (.sat PtrS):=fun _ _ _ h _=>h
section
def El{k:Nat}{cs:Array Value}(h:u.heap[b]?=some (.cells cs e fr))(hs:P.cellsOf e≠0)(hb:byteOfCell P P.depth e (off%P.cellsOf e)=some k):
  (byteOf ⟨b,off,none⟩).run P u=.ok (off/P.cellsOf e*P.bytesOf e+k) u:=by
 have hsh:u.shape? b=some (e,cs.size):=by unfold World.shape?;rw[h]
 simp only[byteOf,nw,run_program,ny,noView,viewAt,shape,Sem.run,hsh,Option.isSome_some,if_true,me,Option.isSome_none,zqh,if_false,Option.isSome];simp [hs,hb,hsh]
def Ek{st t':TypeId}{b off i:Nat}{cs:Array Value}(hz:fzI P t' st off i=true)(hb:u.heap[b]?=some (.cells cs t' fr)):
  ∃ a,(Instr.fieldAt st (.pointer (some ⟨b,off,none⟩)) i).run P u=.ok (.pointer (some a)) u:=by
 unfold fzI at hz;split at hz
 ·rename_i fs hu;split at hz
  ·rename_i f hf;split at hz
   ·rename_i j hj;simp only[zo5,beq_iff_eq,zre,beq_eq_false_iff_ne,ne_eq,zp1] at hz;obtain⟨hj0,hc,⟨k1,h1⟩,k2,h2⟩:=hz;have r1:=El (P:=P) hb hc h1;have r2:=El (P:=P) hb hc h2;have hsz:(sizeOf f.type).run P u=.ok 0 u:=by simp [sizeOf,typeInfo,hj,hj0]
    have hun:=run_underlying (P:=P) (w:=u) hu
    have hfp:∃ a,(fieldPlace ⟨b,off,none⟩ f).run P u=.ok a u:=by
     simp only[fieldPlace,nw,hsz,ny,if_true,partAt,r1,r2,me];exact⟨_,rfl⟩
    obtain⟨a,ha⟩:=hfp;refine⟨a,?_⟩;simp only[Instr.fieldAt,nw,hun,ny,hf,Instr.sureAddr,me,ha]
   ·simp at hz
  ·cases hz
 ·cases hz
def zdv{z cs:List Value}(hp:PL P t places z)(hc:s4 places z vs=some cs):P.built t vs=some cs.toArray:=by
 obtain⟨zv,hz1,hz2⟩:=hp.zr;have hpl:=hp.pl;unfold plI at hpl;unfold zrI at hz1;split at hz1
 ·rename_i it hit;unfold Program.built;split at hpl
  ·rename_i fs hu;simp only[hit,hu,hz1,hpl];rw[wi,hz2];exact ge (fun i p h=>by simpa using h) vs z cs hc
  ·rename_i m el hu;split at hpl
   ·rename_i ie hie;simp only[hit,hu,hz1,hie];cases hpl;rw[wi,hz2]
    exact ge (fun i p h=>by
     rw[zpl] at h
     cases hr:(List.range m)[i]? with
     | none=>rw[hr] at h;cases h
     | some j=>
      rw[hr] at h
      have:j=i:=by
       have:=zp0.1 hr;obtain⟨h1,h2⟩:=this;simpa using h2.symm
      subst this;simpa using h) vs z cs hc
   ·cases hpl
  ·cases hpl
 ·cases hz1
def Sq{t:Nat}{st:TypeId}(hx:κ t=some (.sat (At cs t' off)))(hn:Nat.blt d n=true)(hg:gK ops κ ⟨some d,.fieldAddr st (.tmp t) i,ty,pos,aft,g⟩=some true)
  (hz:fzI P t' st off i=true):StepOK P F B n ops O κ ⟨some d,.fieldAddr st (.tmp t) i,ty,pos,aft,g⟩ d (.sat PtrS):=
 kj rfl (zm hn) hg PtrS.mono fun a u H fp e=>by
  obtain⟨b,hv,hb⟩:=e.sat_ t _ (by simp [Op.operands]) hx;obtain⟨ad,hr⟩:=Ek hz (e.sub _ _ hb);refine⟨_,?_,ad,rfl⟩;simp only[execOp,hv,nw,hr,ny];rfl
def Sp{st:TypeId}{cs:Array Value}(hb:B b=some (.cells cs t' fr))(hx:evK κ x=some (.pointer (some ⟨b,off,none⟩)))(hn:Nat.blt d n=true)(hg:gK ops κ ⟨some d,.fieldAddr st x i,ty,pos,aft,g⟩=some true)
  (hz:fzI P t' st off i=true):StepOK P F B n ops O κ ⟨some d,.fieldAddr st x i,ty,pos,aft,g⟩ d (.sat PtrS):=
 kj rfl (zm hn) hg PtrS.mono fun a u H fp e=>by
  have hv:=e.is_ x _ (by simp [Op.operands]) hx;obtain⟨ad,hr⟩:=Ek hz (e.sub _ _ (e.base _ _ hb));refine⟨_,?_,ad,rfl⟩;simp only[execOp,hv,nw,hr,ny];rfl
def P6(L:Tabs P)(hx:κ q=some (.sat PtrS))(hn:Nat.blt d n=true)(hg:gK ops κ ⟨some d,.load t (.tmp q),ty,pos,aft,g⟩=some true)(ht:L.ld t=some (true,0)):
  StepOK P F B n ops O κ ⟨some d,.load t (.tmp q),ty,pos,aft,g⟩ d (.is (.agg #[])):=
 kj rfl (zm hn) hg trivial fun a u H fp e=>by
  obtain⟨ad,hv⟩:=e.sat_ q _ (by simp [Op.operands]) hx;refine⟨.agg #[],?_,rfl⟩;simp only[execOp,hv,Instr.loadAt,Instr.sureAddr,nw,me,ny];rw[w6 (Tabs.ld_spec ht) u ad [] rfl (fun j v hj=>by simp at hj)];rfl
def Lj(hn:Nat.blt d n=true)(hg:gK ops κ ⟨some d,.build t parts,ty,pos,aft,g⟩=some true)
  (hp:PL P t places z) (hm:Kn.mono (.sat ψ)) (h:∀ H,B.Le H->Args κ H (parts.toList.map (·.2)) [] (fun vs=>∃ cs,s4 places z ((parts.toList.map (·.1)).zip vs)=some cs/\ψ (.agg cs.toArray) H)):
  StepOK P F B n ops O κ ⟨some d,.build t parts,ty,pos,aft,g⟩ d (.sat ψ):=by
 rintro κ' a u hl ⟨H,fp,hh⟩;unfold After;rw[na (xl hh hl hg)];have e:=hh.env (o:=⟨some d,.build t parts,ty,pos,aft,g⟩) hl
 have hc:=Args.use e (parts.toList.map (·.2)) [] (fun x hx=>by
  simp only[Op.operands];obtain⟨q,hq,rfl⟩:=zoz.1 hx;simp;exact⟨q.1,by simpa using hq⟩) (h H e.base)
 obtain⟨cs,hb,hψ⟩:=hc;simp only[zpv,mj,zq8] at hb
 have hz:(parts.toList.map (·.1)).zip (parts.toList.map (a.eval∘(·.2)))=parts.toList.map fun p=>(p.1,a.eval p.2):=by
  generalize parts.toList=l
  induction l with
  | nil=>rfl
  | cons x l ih=>simp only[mz,List.zip_cons_cons,ih];rfl
 rw[hz] at hb;have hbt:=zdv hp hb;have hr:=run_build (P:=P) u t (parts.toList.map fun p=>(p.1,a.eval p.2)).toArray cs.toArray (by simpa using hbt)
 have harr:(parts.map fun(p:Nat×Operand)=>(p.1,a.eval p.2))=(parts.toList.map fun p=>(p.1,a.eval p.2)).toArray:=by
  rw[<-zpn,zqx]
 have hrun:(execOp a.eval ⟨some d,.build t parts,ty,pos,aft,g⟩).run P u=.ok (.value (.agg cs.toArray)) u:=by
  simp only[execOp,nw];show Result.andThen ((Instr.build t (parts.map fun(p:Nat×Operand)=>(p.1,a.eval p.2))).run P u) _=_;rw[harr,hr];rfl
 rw[hrun];simp only[Upon];exact⟨H,fp,hh.put (zm hn) hm hψ⟩
end
end Go.V
namespace Go.V.UT
def _root_.Z9(t:Wr Y->A:=by intro h;refine z8 (zo L (qt Z M) Z Z Z Z) Z ?_;exact h.1)(h:Y):A:=t ⟨h⟩
def _root_.Zdh(t:Wr Y->A:=by intro h;refine z8 (zz L (vs:=[_,_,_,_,_,_]) (qt Z M) Z Z Z Z ⟨_,rfl⟩) Z ?_;exact h.1)(h:Y):A:=t ⟨h⟩
def _root_.Zcr(t:Wr Y->A:=by intro h;refine z7 (zo L (qt Z M) Z Z Z Z) Z ?_;exact h.1)(h:Y):A:=t ⟨h⟩
def _root_.Zdi(t:Wr Y->A:=by intro h;refine z7 (P3 Z Z Z Z (xb T T)) Z ?_;exact h.1)(h:Y):A:=t ⟨h⟩
def _root_.ZcX(t:Wr Y->A:=by intro h;refine z7 (u9 Z Z Z Z zmv Z) Z ?_;exact h.1)(h:Y):A:=t ⟨h⟩
def _root_.ZcY(t:Wr Y->A:=by intro h;refine qn (id:=8) [] ko J ?_;exact h.1)(h:Y):A:=t ⟨h⟩
def _root_.Zc6(t:Wr Y->A:=by intro h;refine z8 (yt Z Z Z) Z ?_;exact h.1)(h:Y):A:=t ⟨h⟩
def _root_.Zed(t:Wr Y->A:=by intro h;refine qn (id:=2) [] ko J ?_;exact h.1)(h:Y):A:=t ⟨h⟩
def _root_.ZeE(t:Wr Y->A:=by intro h;refine qn (id:=7) [] ko J ?_;exact h.1)(h:Y):A:=t ⟨h⟩
def _root_.Zbk(t:Wr Y->A:=by exact fun h=>(Zp∘Zl) h.1)(h:Y):A:=t ⟨h⟩
def _root_.Zav(t:Wr Y->A:=by exact fun h=>(Zs∘Zdo) h.1)(h:Y):A:=t ⟨h⟩
def _root_.ZbD(t:Wr Y->A:=by exact fun h=>(ZaN∘Z9) h.1)(h:Y):A:=t ⟨h⟩
def _root_.ZbE(t:Wr Y->A:=by exact fun h=>(Zc∘Zfd) h.1)(h:Y):A:=t ⟨h⟩
def _root_.Zcd(t:Wr Y->A:=by exact fun h=>(Zap∘Zcr) h.1)(h:Y):A:=t ⟨h⟩
def _root_.Zce(t:Wr Y->A:=by exact fun h=>(Zdx∘Zer) h.1)(h:Y):A:=t ⟨h⟩
abbrev KT:=((ByteArray×ByteArray)×ByteArray)×((ByteArray×ByteArray)×ByteArray)
abbrev VT:=Unit
abbrev kv(k:KT):Value:=.agg #[.string k.1.1.1,.string k.1.1.2,.string k.1.2,.string k.2.1.1,.string k.2.1.2,.string k.2.2]
abbrev vv(x:VT):Value:=.agg #[]
abbrev pl(k:KT)(x:VT):List Value:=[.string k.1.1.1,.string k.1.1.2,.string k.1.2,.string k.2.1.1,.string k.2.1.2,.string k.2.2]
abbrev nl(k:KT)(x:VT)(l r:Value)(s d:Int):List Value:=[.string k.1.1.1,.string k.1.1.2,.string k.1.2,.string k.2.1.1,.string k.2.1.2,.string k.2.2]++[l,r,.int .i64 s,.int .i64 d]
abbrev TA(t:Tr KT VT):Value->Heap->Prop:=Tr.TreeAt nl 201 t
def TA.mono{t:Tr KT VT}:Kn.mono (.sat (TA t)):=Tr.TreeAt.mono
def TA.le{t:Tr KT VT}{v:Value}{H H':Heap}(h:TA t v H)(hle:H.Le H'):TA t v H':=Tr.TreeAt.le h hle
def TA.ptr{t:Tr KT VT}(h:TA t v H):∃ p,v=.pointer p:=by
 cases t with
 | nil=>exact⟨_,h⟩
 | node k x l r=>obtain⟨b,lv,rv,h,_⟩:=h;exact⟨_,h⟩
attribute [local irreducible] V N X VO Par StepOK Has Ret RetL Src
def size_ret(t:Tr KT VT){v:Value}(hB:zs4 B w)(hv:TA t v B):Ret zs5 111 [v] w B (fun v _=>v=.int .i64 t.size):=by
 cases t with
 | nil=>
  obtain rfl:v=.pointer none:=hv;refine yr Tryz.func111 Z Tryz.ntmps111 (np Z) hB ((Zck∘ZcX∘Zn∘Zv∘Zc) ?_);exact yj2 L [.tmp 2]
 | node k x l r=>
  obtain⟨b,lv,rv,rfl,hb,_,_⟩:=hv;refine yr Tryz.func111 Z Tryz.ntmps111 (np Z) hB ((Zck∘ZcX∘Zx∘Zr∘Zcd∘Zc) ?_);exact yj2 L [.tmp 2]
def deep_ret(t:Tr KT VT){v:Value}(hB:zs4 B w)(hv:TA t v B):Ret zs5 287 [v] w B (fun v _=>v=.int .i64 t.deep):=by
 cases t with
 | nil=>
  obtain rfl:v=.pointer none:=hv;refine yr Tryz.func287 Z Tryz.ntmps287 (np Z) hB ((Zck∘ZcX∘Zn∘Zv∘Zc) ?_);exact yj2 L [.tmp 2]
 | node k x l r=>
  obtain⟨b,lv,rv,rfl,hb,_,_⟩:=hv;refine yr Tryz.func287 Z Tryz.ntmps287 (np Z) hB ((Zck∘ZcX∘Zx∘Zr∘Zcd∘Zc) ?_);exact yj2 L [.tmp 2]
def zhg(a b:Nat):(if ((b:Nat):Int)>(a:Int) then ((b:Nat):Int) else (a:Int))=((max a b:Nat):Int):=by
 split<;>omega
def join_ret(k:KT)(x:VT)(l r:Tr KT VT){lv rv:Value}(hB:zs4 B w)(hl:TA l lv B)(hr:TA r rv B)(hs:l.size+r.size<1099511627776):
  Ret zs5 268 [.agg (pl k x).toArray,lv,rv] w B (TA (.node k x l r)):=by
 obtain⟨pl',rfl⟩:=hl.ptr;obtain⟨pr,rfl⟩:=hr.ptr;have hdl:=l.deep_le;have hdr:=r.deep_le;refine yr Tryz.func268 Z Tryz.ntmps268 (np Z) hB ((ZD∘Zd∘ZcC∘Zbb∘Zbk) ?_);refine z81 L Z (fun u H hH hle=>UT.size_ret _ hH (UT.TA.le M hle)) ?_;refine(Zdm∘Zl) ?_;refine z81 L Z (fun u H hH hle=>UT.size_ret _ hH (UT.TA.le M hle)) ?_;refine(Zdm∘Zl) ?_;refine z81 L Z (fun u H hH hle=>UT.deep_ret _ hH (UT.TA.le M hle)) ?_;refine Zl (h:=?_);refine z81 L Z (fun u H hH hle=>UT.deep_ret _ hH (UT.TA.le M hle)) ?_;refine z8 (ry Z Z Z Z Z) Z (Zdm (h:=?_));refine z8 (yv (cs:=[_,_,_,_,_,_,_,_,_,_]) Z Z zmn Z Z) Z (z8 (yq Z Z Z Z) Z ((Zc6∘Zb3) ?_));refine yj1 L [.tmp 6] fun u H hH hle=>?_;rintro _ ⟨b,rfl,hb⟩;refine⟨b,_,_,rfl,?_,TA.le hl hle,TA.le hr hle⟩;rw[zhg] at hb;simpa [Tr.size_node,Tr.deep_node] using hb
def bal_ret(k:KT)(x:VT)(l r:Tr KT VT){lv rv:Value}(hB:zs4 B w)(hl:TA l lv B)(hr:TA r rv B)(hs:l.size+r.size<1099511627776):
  Ret zs5 266 [.agg (pl k x).toArray,lv,rv] w B (TA (Tr.bal k x l r)):=by
 have hdl:=l.deep_le;have hdr:=r.deep_le;refine yr Tryz.func266 Z Tryz.ntmps266 (np Z) hB ?_;unfold Tr.bal;by_cases h1:l.deep>r.deep+1
 ·rw[na h1]
  cases l with
  | nil=>simp [Tr.deep] at h1
  | node lk lx ll lr=>
   have hl0:=hl;obtain⟨b1,v1,v2,rfl,hb1,hll,hlr⟩:=hl;have hd1:=ll.deep_le;have hd2:=lr.deep_le;simp only[Tr.size_node] at hs hdl;dsimp only;by_cases h2:ll.deep>=lr.deep
   ·rw[na h2];refine(ZD∘Zbd) ?_;refine z71 L Z (fun u H hH hle=>UT.deep_ret _ hH (UT.TA.le M hle)) ?_;refine Za (h:=?_);refine z71 L Z (fun u H hH hle=>UT.deep_ret _ hH (UT.TA.le M hle)) ?_;refine(Zdi∘Zc∘ZF∘Zed∘Zl∘Zd4∘Zp∘Zca∘Z9) ?_;refine z81 L Z (fun u H hH hle=>UT.deep_ret _ hH (UT.TA.le M hle)) ?_;refine ZbD (h:=?_);refine z81 L Z (fun u H hH hle=>UT.deep_ret _ hH (UT.TA.le M hle)) ?_;refine(Ze3∘ZaB∘ZaK∘ZbW∘Ze∘ZcH∘ZaN∘Zdh∘ZbD∘Zbb∘ZbD∘Zl) ?_;refine z8 (xg L Z Z (zm Z) Z Z Z UT.TA.mono (fun u H hH hle _=>UT.join_ret _ () _ _ hH (UT.TA.le M hle) (UT.TA.le M hle) (by first | omega | (simp only[Tr.size_node];omega)))) Z ?_;refine z8 (xg L Z Z (zm Z) Z Z Z UT.TA.mono (fun u H hH hle _ v1 hv1=>UT.join_ret _ () _ _ hH (UT.TA.le M hle) hv1 (by first | omega | (simp only[Tr.size_node];omega)))) Z ?_;refine(Zc6∘Zb3) ?_;refine yj1 L [.tmp 6] fun u H hH hle=>?_;exact fun v hv=>hv
   ·rw[nc h2]
    cases lr with
    | nil=>simp [Tr.deep] at h2
    | node mk mx ml mr=>
     have hlr0:=hlr;obtain⟨b2,v3,v4,rfl,hb2,hml,hmr⟩:=hlr;simp only[Tr.size_node] at hs hdl hd2;refine(ZD∘Zbd) ?_;refine z71 L Z (fun u H hH hle=>UT.deep_ret _ hH (UT.TA.le M hle)) ?_;refine Za (h:=?_);refine z71 L Z (fun u H hH hle=>UT.deep_ret _ hH (UT.TA.le M hle)) ?_;refine(Zdi∘Zc∘ZF∘Zed∘Zl∘Zd4∘Zp∘Zca∘Z9) ?_;refine z81 L Z (fun u H hH hle=>UT.deep_ret _ hH (UT.TA.le M hle)) ?_;refine ZbD (h:=?_);refine z81 L Z (fun u H hH hle=>UT.deep_ret _ hH (UT.TA.le M hle)) ?_;refine(ZeO∘ZaB∘ZaK∘ZaL∘Ze∘Z5∘ZP∘ZbE∘Ze∘ZS∘Zcd∘Zd∘ZcG∘ZaN∘Zdh∘ZaN∘Zdh∘ZbD∘ZbD) ?_;refine z8 (xg L Z Z (zm Z) Z Z Z UT.TA.mono (fun u H hH hle _=>UT.join_ret _ () _ _ hH (UT.TA.le M hle) (UT.TA.le M hle) (by first | omega | (simp only[Tr.size_node];omega)))) Z ?_;refine(Zbb∘ZbD∘Zl) ?_;refine z8 (xg L Z Z (zm Z) Z Z Z UT.TA.mono (fun u H hH hle _=>UT.join_ret _ () _ _ hH (UT.TA.le M hle) (UT.TA.le M hle) (by first | omega | (simp only[Tr.size_node];omega)))) Z ?_;refine z8 (xg L Z Z (zm Z) Z Z Z UT.TA.mono (fun u H hH hle _ v1 hv1 v2 hv2=>UT.join_ret _ () _ _ hH hv1 hv2 (by first | omega | (simp only[Tr.size_node];omega)))) Z ?_;refine(Zc6∘Zb3) ?_;refine yj1 L [.tmp 6] fun u H hH hle=>?_;exact fun v hv=>hv
 ·rw[nc h1];by_cases h3:r.deep>l.deep+1
  ·rw[na h3]
   cases r with
   | nil=>simp [Tr.deep] at h3
   | node rk rx rl rr=>
    have hr0:=hr;obtain⟨b1,v1,v2,rfl,hb1,hrl,hrr⟩:=hr;have hd1:=rl.deep_le;have hd2:=rr.deep_le;simp only[Tr.size_node] at hs hdr;dsimp only;by_cases h2:rr.deep>=rl.deep
    ·rw[na h2];refine(ZD∘Zbd) ?_;refine z71 L Z (fun u H hH hle=>UT.deep_ret _ hH (UT.TA.le M hle)) ?_;refine Za (h:=?_);refine z71 L Z (fun u H hH hle=>UT.deep_ret _ hH (UT.TA.le M hle)) ?_;refine(Zdi∘Zc∘ZF∘Zed∘Zl∘ZdJ∘ZbM∘Zce∘ZaB∘ZaK∘ZaL∘Ze∘Z5∘ZM∘Zav∘ZeE∘Zl∘ZcD∘Zp∘Zca∘Z9) ?_;refine z81 L Z (fun u H hH hle=>UT.deep_ret _ hH (UT.TA.le M hle)) ?_;refine ZbD (h:=?_);refine z81 L Z (fun u H hH hle=>UT.deep_ret _ hH (UT.TA.le M hle)) ?_;refine(Ze3∘ZaB∘ZaK∘ZbW∘Ze∘ZcY∘ZaN∘Zdh∘Zbb∘Zp∘Zca∘Z9) ?_;refine z8 (xg L Z Z (zm Z) Z Z Z UT.TA.mono (fun u H hH hle _=>UT.join_ret _ () _ _ hH (UT.TA.le M hle) (UT.TA.le M hle) (by first | omega | (simp only[Tr.size_node];omega)))) Z ?_;refine ZbD (h:=?_);refine z8 (xg L Z Z (zm Z) Z Z Z UT.TA.mono (fun u H hH hle _ v1 hv1=>UT.join_ret _ () _ _ hH hv1 (UT.TA.le M hle) (by first | omega | (simp only[Tr.size_node];omega)))) Z ?_;refine(Zc6∘Zb3) ?_;refine yj1 L [.tmp 6] fun u H hH hle=>?_;exact fun v hv=>hv
    ·rw[nc h2]
     cases rl with
     | nil=>simp [Tr.deep] at h2
     | node mk mx ml mr=>
      have hrl0:=hrl;obtain⟨b2,v3,v4,rfl,hb2,hml,hmr⟩:=hrl;simp only[Tr.size_node] at hs hdr hd1;refine(ZD∘Zbd) ?_;refine z71 L Z (fun u H hH hle=>UT.deep_ret _ hH (UT.TA.le M hle)) ?_;refine Za (h:=?_);refine z71 L Z (fun u H hH hle=>UT.deep_ret _ hH (UT.TA.le M hle)) ?_;refine(Zdi∘Zc∘ZF∘Zed∘Zl∘ZdJ∘ZbM∘Zce∘ZaB∘ZaK∘ZaL∘Ze∘Z5∘ZM∘Zav∘ZeE∘Zl∘ZcD∘Zp∘Zca∘Z9) ?_;refine z81 L Z (fun u H hH hle=>UT.deep_ret _ hH (UT.TA.le M hle)) ?_;refine ZbD (h:=?_);refine z81 L Z (fun u H hH hle=>UT.deep_ret _ hH (UT.TA.le M hle)) ?_;refine(ZeO∘ZaB∘ZaK∘ZaL∘Ze∘Zaq∘ZU∘ZbE∘Ze∘Z4∘Za∘Zcd∘Zd∘Zfm∘ZaN∘Zdh∘Zbb∘Zp∘Zca∘Z9) ?_;refine z8 (xg L Z Z (zm Z) Z Z Z UT.TA.mono (fun u H hH hle _=>UT.join_ret _ () _ _ hH (UT.TA.le M hle) (UT.TA.le M hle) (by first | omega | (simp only[Tr.size_node];omega)))) Z ?_;refine(ZaN∘Zdh∘ZbD∘ZbD) ?_;refine z8 (xg L Z Z (zm Z) Z Z Z UT.TA.mono (fun u H hH hle _=>UT.join_ret _ () _ _ hH (UT.TA.le M hle) (UT.TA.le M hle) (by first | omega | (simp only[Tr.size_node];omega)))) Z ?_;refine z8 (xg L Z Z (zm Z) Z Z Z UT.TA.mono (fun u H hH hle _ v1 hv1 v2 hv2=>UT.join_ret _ () _ _ hH hv1 hv2 (by first | omega | (simp only[Tr.size_node];omega)))) Z ?_;refine(Zc6∘Zb3) ?_;refine yj1 L [.tmp 6] fun u H hH hle=>?_;exact fun v hv=>hv
  ·rw[nc h3];refine(ZD∘Zbd) ?_;refine z71 L Z (fun u H hH hle=>UT.deep_ret _ hH (UT.TA.le M hle)) ?_;refine Za (h:=?_);refine z71 L Z (fun u H hH hle=>UT.deep_ret _ hH (UT.TA.le M hle)) ?_;refine(Zdi∘Zc∘ZF∘Zed∘Zl∘ZdJ∘ZbM∘Zce∘ZaB∘ZaK∘ZaL∘Ze∘Z5∘ZM∘Zav∘ZeE∘Zl∘Zdg∘ZbM∘Zce∘ZaB∘ZaK∘ZaL∘Ze∘Zaq∘Z0∘Zs∘Zac∘Zaw∘Zbh∘ZJ∘Zdw∘Zb) ?_;refine z7 (xg L Z Z (zm Z) Z Z Z UT.TA.mono (fun u H hH hle _=>UT.join_ret _ () _ _ hH (UT.TA.le M hle) (UT.TA.le M hle) (by first | omega | (simp only[Tr.size_node];omega)))) Z ?_;refine(ZR∘Zw) ?_;refine yj1 L [.tmp 6] fun u H hH hle=>?_;exact fun v hv=>hv
end Go.V.UT
variable{c:Go.V.UT.KT->Go.V.UT.KT->Int}
namespace Go.V.UT
def _root_.Za2(t:Wr Y->A:=by intro h;refine ix (y7 Z) Z Z ?_;exact h.1)(h:Y):A:=t ⟨h⟩
def _root_.Zdp(t:Wr Y->A:=by intro h;refine z7 (af Z Z Z Z M) Z ?_;exact h.1)(h:Y):A:=t ⟨h⟩
def _root_.ZcR(t:Wr Y->A:=by intro h;refine z7 (C4 Z Z Z Z) Z ?_;exact h.1)(h:Y):A:=t ⟨h⟩
def _root_.ZdN(t:Wr Y->A:=by intro h;refine z8 (qq L Z Z Z Z) Z ?_;exact h.1)(h:Y):A:=t ⟨h⟩
def _root_.Ze7(t:Wr Y->A:=by intro h;refine qn (id:=13) [] ko J ?_;exact h.1)(h:Y):A:=t ⟨h⟩
def _root_.Ze8(t:Wr Y->A:=by intro h;refine qn (id:=5) [] ko J ?_;exact h.1)(h:Y):A:=t ⟨h⟩
def _root_.ZeR(t:Wr Y->A:=by intro h;refine z8 (af Z Z Z Z M) Z ?_;exact h.1)(h:Y):A:=t ⟨h⟩
def _root_.ZeS(t:Wr Y->A:=by intro h;refine z8 (C4 Z Z Z Z) Z ?_;exact h.1)(h:Y):A:=t ⟨h⟩
def _root_.Zc7(t:Wr Y->A:=by exact fun h=>(Zdc∘Zdh) h.1)(h:Y):A:=t ⟨h⟩
structure Cmp(cf:Nat)(c:KT->KT->Int):Prop where
 fn:L.fn cf=some ()
 ret:∀ (a b:KT) (u:World) (H:Heap),zs4 H u->Ret zs5 cf [kv a,kv b] u H (fun v _=>v=.int .i64 (c a b))
abbrev mv(cf:Nat)(root:Value):Value:=.agg #[.func (.func cf) #[] #[],root]
attribute [local irreducible] V N X VO Par StepOK Has Ret RetL Src
def zgo(hc:Cmp cf c)(root:Value)(k:KT)(x:VT):∀ (t:Tr KT VT) {rv:Value} {w:World} {B:Heap},zs4 B w->TA t rv B->t.size+1<1099511627776->
  Ret zs5 228 [mv cf root,rv,.agg (pl k x).toArray] w B (TA (Tr.put c k x t)):=by
 intro t
 induction t with
 | nil=>
  intro rv w B hB hv hs;obtain rfl:rv=.pointer none:=hv;have hn:TA .nil (.pointer none) B:=rfl;have hz:(Tr.nil:Tr KT VT).size=0:=rfl;refine yr Tryz.func228 Z Tryz.ntmps228 (np Z) hB ((Zal∘Zbd∘ZcX∘Zn∘Zv∘Zdw) ?_);refine z7 (xg L Z Z (zm Z) Z Z Z UT.TA.mono (fun u H hH hle _=>UT.join_ret _ () _ _ hH (UT.TA.le M hle) (UT.TA.le M hle) (by first | omega | (simp only[Tr.size_node];omega)))) Z ?_;refine(ZR∘Zw) ?_;refine yj1 L [.tmp 6] fun u H hH hle=>?_;exact fun v hv=>hv
 | node nk nx l r ihl ihr=>
  intro rv w B hB hv hs;obtain⟨b,lv,rv',rfl,hb,hl,hr⟩:=hv;have hpl:=Tr.size_put c k x l;have hpr:=Tr.size_put c k x r;simp only[Tr.size_node] at hs;refine yr Tryz.func228 Z Tryz.ntmps228 (np Z) hB ?_;unfold Tr.put;by_cases h1:c k nk<0
  ·rw[na h1];refine(Zal∘Zbd∘ZcX∘ZV∘ZcH∘Zbu∘Zbt∘Zbb∘ZaN∘Zc7) ?_;refine z8 (qb L Z Z (zm Z) Z Z hc.fn (fun u H hH _ _=>hc.ret _ _ u H hH)) Z ((ZaS∘ZF∘Z5∘ZU∘ZbE∘Ze∘Ze8∘ZaN∘Zdh∘Zdl∘ZbD∘Zbb) ?_);refine z8 (xg L Z Z (zm Z) Z Z Z TA.mono (fun u H hH hle _=>ihl hH (hl.le hle) T)) Z (ZbD (h:=?_));refine z8 (xg L Z Z (zm Z) Z Z Z UT.TA.mono (fun u H hH hle _ v1 hv1=>UT.bal_ret _ () _ _ hH hv1 (UT.TA.le M hle) (by first | omega | (simp only[Tr.size_node];omega)))) Z ?_;refine(Zc6∘Zb3) ?_;refine yj1 L [.tmp 6] fun u H hH hle=>?_;exact fun v hv=>hv
  ·rw[nc h1];by_cases h2:c k nk>0
   ·rw[na h2];refine(Zal∘Zbd∘ZcX∘ZV∘ZcH∘Zbu∘Zbt∘Zbb∘ZaN∘Zc7) ?_;refine z8 (qb L Z Z (zm Z) Z Z hc.fn (fun u H hH _ _=>hc.ret _ _ u H hH)) Z ((ZaS∘ZF∘Z5∘Z0∘Zav∘ZL∘ZP∘ZbE∘Ze∘ZeE∘ZaN∘Zdh∘ZbD∘Zdl∘ZbD∘Zbb) ?_);refine z8 (xg L Z Z (zm Z) Z Z Z TA.mono (fun u H hH hle _=>ihr hH (hr.le hle) T)) Z (z8 (xg L Z Z (zm Z) Z Z Z UT.TA.mono (fun u H hH hle _ v1 hv1=>UT.bal_ret _ () _ _ hH (UT.TA.le M hle) hv1 (by first | omega | (simp only[Tr.size_node];omega)))) Z ?_);refine(Zc6∘Zb3) ?_;refine yj1 L [.tmp 6] fun u H hH hle=>?_;exact fun v hv=>hv
   ·rw[nc h2];refine(Zal∘Zbd∘ZcX∘ZV∘ZcH∘Zbu∘Zbt∘Zbb∘ZaN∘Zc7) ?_;refine z8 (qb L Z Z (zm Z) Z Z hc.fn (fun u H hH _ _=>hc.ret _ _ u H hH)) Z ((ZaS∘ZF∘Z5∘Z0∘Zav∘ZL∘ZM∘Zs∘Zac∘Zaw∘Zbh∘ZcY∘ZaN∘Zc7) ?_);refine z8 (Sq Z Z Z J) Z (z8 (P6 L Z Z Z Z) Z (z8 (yv (cs:=[_,_,_,_,_,_]) Z Z zjy Z Z) Z ((ZbD∘ZbD) ?_)));refine z8 (xg L Z Z (zm Z) Z Z Z UT.TA.mono (fun u H hH hle _=>UT.join_ret _ () _ _ hH (UT.TA.le M hle) (UT.TA.le M hle) (by first | omega | (simp only[Tr.size_node];omega)))) Z ?_;refine(Zc6∘Zb3) ?_;refine yj1 L [.tmp 6] fun u H hH hle=>?_;exact fun v hv=>hv
abbrev FirstS(y:(KT×VT)×Tr KT VT):Value->Heap->Prop:=TupS [fun v _=>v=.agg (pl y.1.1 y.1.2).toArray,TA y.2]
def FirstS.mono{y:(KT×VT)×Tr KT VT}:Kn.mono (.sat (FirstS y)):=TupS.mono fun φ hφ=>by
 simp only[ma,zqp,or_false] at hφ;rcases hφ with rfl | rfl
 ·exact fun _ _ _ h _=>h
 ·exact TA.mono
def tupS2{φ ψ:Value->Heap->Prop}{v w:Value}(h1:φ v H)(h2:ψ w H):TupS [φ,ψ] (tup [v,w]) H:=⟨[v,w],rfl,rfl,fun i χ x hi hx=>by
 match i with
 | 0=>cases hi;cases hx;exact h1
 | 1=>cases hi;cases hx;exact h2
 | _+2=>cases hi⟩
def first_ret:∀ (k:KT) (x:VT) (l r:Tr KT VT) {v:Value} {w:World} {B:Heap},zs4 B w->TA (.node k x l r) v B->l.size+r.size<1099511627776->
  Ret zs5 267 [v] w B (FirstS (Tr.first k x l r)):=by
 intro k x l
 induction l generalizing k x with
 | nil=>
  intro r v w B hB hv hs;obtain⟨b,lv,rv,rfl,hb,hl,hr⟩:=hv;obtain rfl:lv=.pointer none:=hl;refine yr Tryz.func267 Z Tryz.ntmps267 (np Z) hB ((Zah∘Zbd∘Zcd∘ZcX∘Zn∘Zed∘ZaN∘Zdh∘ZbD∘ZdN∘ZaS) ?_);refine yj1 L [.cell 2 186,.tmp 3] fun u H hH hle=>?_;refine Za2 (h:=?_);exact tupS2 Z (TA.le hr hle)
 | node lk lx ll lr ih _=>
  intro r v w B hB hv hs;obtain⟨b,lv,rv,rfl,hb,hl,hr⟩:=hv;have hl0:=hl;obtain⟨b2,v3,v4,rfl,hb2,_,_⟩:=hl;have hz:=Tr.size_first lk lx ll lr;simp only[Tr.size_node] at hs;have hm:=TA.mono (t:=(Tr.first lk lx ll lr).2);refine yr Tryz.func267 Z Tryz.ntmps267 (np Z) hB ((Zah∘Zbd∘Zcd∘ZcX∘Zx∘Zr∘Zcd) ?_);refine z7 (xg L Z Z (zm Z) Z Z Z FirstS.mono (fun u H hH hle _=>ih lk lx lr hH (TA.le hl0 hle) T)) Z ((Zh∘ZcR∘Zdp∘Za1∘ZR∘Zg∘Zda) ?_);refine z8 (zz L (vs:=[_,_,_,_,_,_]) (y7 Z) Z Z Z Z ⟨_,rfl⟩) Z ((ZaN∘Zdh∘Zad∘ZbD) ?_);refine z8 (xg L Z Z (zm Z) Z Z Z UT.TA.mono (fun u H hH hle _ v1 hv1=>UT.bal_ret _ () _ _ hH hv1 (UT.TA.le M hle) (by first | omega | (simp only[Tr.size_node];omega)))) Z ?_;refine(ZdN∘Zc6∘Zb3) ?_;refine yj1 L [.cell 2 186,.tmp 3] fun u H hH hle=>?_;refine Za2 (h:=?_);exact fun v hv=>tupS2 Z hv
abbrev DropS(y:Tr KT VT×Bool):Value->Heap->Prop:=TupS [TA y.1,fun v _=>v=.bool y.2]
def DropS.mono{y:Tr KT VT×Bool}:Kn.mono (.sat (DropS y)):=TupS.mono fun φ hφ=>by
 simp only[ma,zqp,or_false] at hφ;rcases hφ with rfl | rfl
 ·exact TA.mono
 ·exact fun _ _ _ h _=>h
def zdf(hc:Cmp cf c)(root:Value)(k:KT):∀ (t:Tr KT VT) {rv:Value} {w:World} {B:Heap},zs4 B w->TA t rv B->t.size<1099511627776->
  Ret zs5 227 [mv cf root,rv,kv k] w B (DropS (Tr.drop c k t)):=by
 intro t
 induction t with
 | nil=>
  intro rv w B hB hv hs;obtain rfl:rv=.pointer none:=hv;have hn:TA .nil (.pointer none) B:=rfl;refine yr Tryz.func227 Z Tryz.ntmps227 (np Z) hB ((Zal∘Zs∘Zbd∘ZcX∘Zn∘Zv∘ZI) ?_);refine yj1 L [.tmp 6,.tmp 7] fun u H hH hle=>?_;exact tupS2 Z Z
 | node nk nx l r ihl ihr=>
  intro rv w B hB hv hs;obtain⟨b,lv,rv',rfl,hb,hl,hr⟩:=hv;have hpl:=Tr.size_drop c k l;have hpr:=Tr.size_drop c k r;simp only[Tr.size_node] at hs;refine yr Tryz.func227 Z Tryz.ntmps227 (np Z) hB ?_;unfold Tr.drop;by_cases h1:c k nk<0
  ·rw[na h1];have hm:=TA.mono (t:=(Tr.drop c k l).1);refine(Zal∘Zs∘Zbd∘ZcX∘ZV∘ZcH∘Zbu∘Zbb∘ZaN∘Zc7) ?_;refine z8 (qb L Z Z (zm Z) Z Z hc.fn (fun u H hH _ _=>hc.ret _ _ u H hH)) Z ((ZaS∘ZF∘Z5∘ZU∘ZbE∘Ze∘Ze8∘Zdl∘ZbD∘Zbb) ?_);refine z8 (xg L Z Z (zm Z) Z Z Z DropS.mono (fun u H hH hle _=>ihl hH (hl.le hle) T)) Z ((Zad∘ZeR∘ZeS∘Zc6∘Zbc∘ZcG∘ZaN∘Zdh∘Zad∘ZbD) ?_);refine z8 (xg L Z Z (zm Z) Z Z Z UT.TA.mono (fun u H hH hle _ v1 hv1=>UT.bal_ret _ () _ _ hH hv1 (UT.TA.le M hle) (by first | omega | (simp only[Tr.size_node];omega)))) Z ?_;refine(Zl∘Zc6∘ZaS) ?_;refine yj1 L [.tmp 6,.tmp 7] fun u H hH hle=>?_;exact fun v hv=>tupS2 hv Z
  ·rw[nc h1];by_cases h2:c k nk>0
   ·rw[na h2];have hm:=TA.mono (t:=(Tr.drop c k r).1);refine(Zal∘Zs∘Zbd∘ZcX∘ZV∘ZcH∘Zbu∘Zbb∘ZaN∘Zc7) ?_;refine z8 (qb L Z Z (zm Z) Z Z hc.fn (fun u H hH _ _=>hc.ret _ _ u H hH)) Z ((ZaS∘ZF∘Z5∘Z0∘Zav∘Z7∘ZP∘ZbE∘Ze∘ZcY∘Zdl∘ZbD∘Zbb) ?_);refine z8 (xg L Z Z (zm Z) Z Z Z DropS.mono (fun u H hH hle _=>ihr hH (hr.le hle) T)) Z ((Zad∘ZeR∘ZeS∘Zc6∘Zbc) ?_);refine qn (id:=9) [] ko J ((ZaN∘Zdh∘ZbD∘Zad) ?_);refine z8 (xg L Z Z (zm Z) Z Z Z UT.TA.mono (fun u H hH hle _ v1 hv1=>UT.bal_ret _ () _ _ hH (UT.TA.le M hle) hv1 (by first | omega | (simp only[Tr.size_node];omega)))) Z ?_;refine(Zl∘Zc6∘ZaS) ?_;refine yj1 L [.tmp 6,.tmp 7] fun u H hH hle=>?_;exact fun v hv=>tupS2 hv Z
   ·rw[nc h2]
    cases r with
    | nil=>
     obtain rfl:rv'=.pointer none:=hr;refine(Zal∘Zs∘Zbd∘ZcX∘ZV∘ZcH∘Zbu∘Zbb∘ZaN∘Zc7) ?_;refine z8 (qb L Z Z (zm Z) Z Z hc.fn (fun u H hH _ _=>hc.ret _ _ u H hH)) Z ((ZaS∘ZF∘Z5∘Z0∘Zav∘Z7∘ZM∘Zav∘Z4∘Za∘Zcd∘ZcX∘ZbE∘Ze∘ZG∘Za∘Zcd∘ZI) ?_);refine yj1 L [.tmp 6,.tmp 7] fun u H hH hle=>?_;exact tupS2 (TA.le hl hle) Z
    | node rk rx rl rr=>
     have hr0:=hr;obtain⟨b2,v3,v4,rfl,hb2,_,_⟩:=hr;have hz:=Tr.size_first rk rx rl rr;simp only[Tr.size_node] at hs;have hm:=TA.mono (t:=(Tr.first rk rx rl rr).2);refine(Zal∘Zs∘Zbd∘ZcX∘ZV∘ZcH∘Zbu∘Zbb∘ZaN∘Zc7) ?_;refine z8 (qb L Z Z (zm Z) Z Z hc.fn (fun u H hH _ _=>hc.ret _ _ u H hH)) Z ((ZaS∘ZF∘Z5∘Z0∘Zav∘Z7∘ZM∘Zav∘Z4∘Za∘Zcd∘ZcX∘Zs∘Zac∘Zaw∘Zbh∘ZJ∘Za∘Zcd) ?_);refine z7 (xg L Z Z (zm Z) Z Z Z FirstS.mono (fun u H hH hle _=>first_ret rk rx rl rr hH (TA.le hr0 hle) T)) Z ((Zh∘ZcR∘Zdp∘Za1∘ZR∘Zg∘Ze7) ?_);refine z8 (zz L (vs:=[_,_,_,_,_,_]) (y7 Z) Z Z Z Z ⟨_,rfl⟩) Z ((ZbD∘Zad) ?_);refine z8 (xg L Z Z (zm Z) Z Z Z UT.TA.mono (fun u H hH hle _ v1 hv1=>UT.bal_ret _ () _ _ hH (UT.TA.le M hle) hv1 (by first | omega | (simp only[Tr.size_node];omega)))) Z ?_;refine(Zc6∘ZaS) ?_;refine yj1 L [.tmp 6,.tmp 7] fun u H hH hle=>?_;exact fun v hv=>tupS2 hv Z
def _root_.Zcf(t:Wr Y->A:=by intro h;refine z7 (zo L (yd Z (List.Mem.head _)) Z Z Z Z) Z ?_;exact h.1)(h:Y):A:=t ⟨h⟩
def _root_.Zgb(t:Wr Y->A:=by intro h;refine z7 (zz L (vs:=[_,_,_,_,_,_]) (qt Z M) Z Z Z Z ⟨_,rfl⟩) Z ?_;exact h.1)(h:Y):A:=t ⟨h⟩
def _root_.ZfG(t:Wr Y->A:=by intro h;refine Mj L (O1:=[]) Z Z Z Z Z Z ?_;exact h.1)(h:Y):A:=t ⟨h⟩
def _root_.Zdq(t:Wr Y->A:=by intro h;refine z7 (zz L (vs:=[_,_]) (yd Z (List.Mem.head _)) Z Z Z Z ⟨_,rfl⟩) Z ?_;exact h.1)(h:Y):A:=t ⟨h⟩
def _root_.Zes(t:Wr Y->A:=by intro h;refine z7 (N3 Z Z Z Z zmv Z Z) Z ?_;exact h.1)(h:Y):A:=t ⟨h⟩
def _root_.ZeT(t:Wr Y->A:=by intro h;refine z71 L Z (fun u H hH hle=>UT.size_ret _ hH (UT.TA.le M hle)) ?_;exact h.1)(h:Y):A:=t ⟨h⟩
def _root_.Zfn(t:Wr Y->A:=by intro h;refine z71 L Z (fun u H hH hle=>len_ret hH (hv.le hle)) ?_;exact h.1)(h:Y):A:=t ⟨h⟩
def _root_.ZfH(t:Wr Y->A:=by intro h;refine z7 (yv (cs:=[_,_,_,_,_,_]) Z Z zjy Z Z) Z ?_;exact h.1)(h:Y):A:=t ⟨h⟩
def _root_.Zc8(t:Wr Y->A:=by exact fun h=>(Zai∘ZfG) h.1)(h:Y):A:=t ⟨h⟩
def _root_.Zag(t:Wr Y->A:=by exact fun h=>(Zby∘Zaw) h.1)(h:Y):A:=t ⟨h⟩
def _root_.Zcg(t:Wr Y->A:=by exact fun h=>(ZE∘ZaC) h.1)(h:Y):A:=t ⟨h⟩
def MA(fv:Value)(t:Tr KT VT):Value->Heap->Prop:=fun v H=>∃ p,v=.agg #[fv,.pointer p]/\TA t (.pointer p) H
def MA.mono{t:Tr KT VT}:Kn.mono (.sat (MA fv t)):=fun _ _ _ ⟨p,hv,h⟩ hle=>⟨p,hv,h.le hle⟩
def new_ret(cf:Nat)(hB:zs4 B w):Ret zs5 171 [.func (.func cf) #[] #[]] w B (fun v _=>v=.agg #[.func (.func cf) #[] #[],.pointer none]):=by
 refine yr Tryz.func171 Z Tryz.ntmps171 (np Z) hB ((Zah∘Zg∘Zbp) ?_);refine z7 (yv (cs:=[_,_]) Z Z zoi Z Z) Z (ZZ (h:=?_));refine yj1 L [.cell 2 33] fun u H hH hle=>?_;refine Za2 (h:=?_);rfl
def len_ret{t:Tr KT VT}(hB:zs4 B w)(hv:TA t root B):Ret zs5 45 [.agg #[fv,root]] w B (fun v _=>v=.int .i64 t.size):=by
 refine yr Tryz.func45 Z Tryz.ntmps45 (np Z) hB ((Zcy∘Zo∘ZeT∘Zc) ?_);exact yj2 L [.tmp 2]
def zcl(hc:Cmp cf c)(k:KT)(x:VT){t:Tr KT VT}(hB:zs4 B w)(hv:TA t (.pointer p) B)(hs:t.size+1<1099511627776):
  Ret zs5 173 [mv cf (.pointer p),kv k,vv x] w B (MA (.func (.func cf) #[] #[]) (Tr.put c k x t)):=by
 refine yr Tryz.func173 Z Tryz.ntmps173 (np Z) hB ((Zbw∘Zdk∘Zdk∘Zcg) ?_);(refine ug 3 rfl ?_;intro b3 hb3);refine(Zan∘Zai∘Zcf) ?_;refine z7 (N3 rfl rfl rfl rfl zok rfl rfl) rfl ((Z3∘Zv∘Zdq∘Zai∘Zcf∘Zdw) ?_);refine z7 (zz L (vs:=[]) (qp rfl) rfl rfl rfl rfl ⟨_,rfl⟩) rfl (ZfH (h:=?_));refine z7 (xg L rfl rfl (zm rfl) rfl rfl rfl TA.mono (fun u H hH hle _=>zgo hc _ k x t hH (hv.le hle) hs)) rfl (vo 16 rfl ?_);intro p16 H16 hs16 hp16;obtain⟨q16,rfl⟩:=TA.ptr hp16;refine(Zc8∘Zg∘Z6∘Zdq∘ZZ) ?_;refine yj L (rs:=[.cell 6 33]) Z (fun _ _ h=>h) hs16 fun u H hH hle=>?_;refine Za2 (h:=?_);exact⟨q16,rfl,hp16.le hle⟩
def Xm(hc:Cmp cf c)(k:KT){t:Tr KT VT}(hB:zs4 B w)(hv:TA t (.pointer p) B)(hs:t.size<1099511627776):
  Ret zs5 172 [mv cf (.pointer p),kv k] w B (MA (.func (.func cf) #[] #[]) (if (Tr.drop c k t).2=true then (Tr.drop c k t).1 else t)):=by
 have hD:=fun(u:World) (H:Heap) (hH:zs4 H u) (hle:B.Le H)=>zdf hc (.pointer p) k t hH (hv.le hle) hs;rcases hq:Tr.drop c k t with ⟨t',was⟩
 rw[hq] at hD;have hm:=TA.mono (t:=t');cases was
 ·rw[nc (by simp)];refine yr Tryz.func172 Z Tryz.ntmps172 (np Z) hB ((Zbw∘Zdk∘Zcg) ?_);(refine ug 2 rfl ?_;intro b2 hb2);refine(Zan∘Zdq∘Zai∘Zcf∘Zdw) ?_;refine z7 (xg L Z Z (zm Z) Z Z Z DropS.mono (fun u H hH hle _=>hD u H hH hle)) Z ((Zh∘Zdp∘ZcR∘ZR∘ZaZ∘Zx∘Zt∘Zdq∘ZZ) ?_);refine yj1 L [.cell 4 33] fun u H hH hle=>?_;refine Za2 (h:=?_);exact⟨p,rfl,hv.le hle⟩
 ·rw[na rfl];refine yr Tryz.func172 Z Tryz.ntmps172 (np Z) hB ((Zbw∘Zdk∘Zcg) ?_);(refine ug 2 rfl ?_;intro b2 hb2);refine(Zan∘Zdq∘Zai∘Zcf∘Zdw) ?_;refine z7 (xg L rfl rfl (zm rfl) rfl rfl rfl DropS.mono (fun u H hH hle _=>hD u H hH hle)) rfl ((Zh∘Zdp∘ZcR∘ZR∘ZaZ∘Z3∘Z6∘Zh) ?_);refine vo 16 rfl ?_;intro p16 H16 hs16 hp16;obtain⟨q16,rfl⟩:=TA.ptr hp16;refine(Zc8∘Zg∘Zt∘Zdq∘ZZ) ?_;refine yj L (rs:=[.cell 4 33]) Z (fun _ _ h=>h) hs16 fun u H hH hle=>?_;refine Za2 (h:=?_);exact⟨q16,rfl,hp16.le hle⟩
def znt:Option VT->List Value
 | some x=>[vv x,.bool true]
 | none=>[.agg #[],.bool false]
def zhq(hc:Cmp cf c)(k:KT){t:Tr KT VT}(hB:zs4 B w)(hv:TA t root B):
  Ret zs5 64 [mv cf root,kv k] w B (fun v _=>v=tup (znt (Tr.get c k t))):=by
 refine yr Tryz.func64 Z Tryz.ntmps64 (np Z) hB ((Zal∘ZE∘ZaW∘Zo∘Zd∘Zar) ?_)
 refine xp (fun s:Tr KT VT×Value=>[(3,.sat (At [.string k.1.1.1,.string k.1.1.2,.string k.1.2,.string k.2.1.1,.string k.2.1.2,.string k.2.2] 57 0)),(4,.own (Cell [] 114)),(2,.sat (At [.func (.func cf) #[] #[],root] 33 0)),(6,.is s.2)])
  (fun s=>TA s.1 s.2 B/\Tr.get c k s.1=Tr.get c k t) (fun s=>s.1.size) (t,root) ⟨hv,rfl⟩ (by repeat (first | exact trivial | refine⟨rfl,?_⟩)) ?_
 rintro⟨s,v⟩ ⟨hs,hg⟩;dsimp only at hs hg |-
 cases s with
 | nil=>
  obtain rfl:v=.pointer none:=hs;refine(Zf∘Zz∘Zes∘Za5∘Z2∘ZE∘Zg∘Z4) ?_;refine z7 (zz L (vs:=[]) (y7 Z) Z Z Z Z ⟨_,rfl⟩) Z (Zbi (h:=?_));refine yj1 L [.cell 4 114,.tmp 5] fun u H hH hle=>?_
  first | (rw[<-hg];rfl) | (refine ix (y7 rfl) rfl rfl ?_;rw[<-hg];rfl)
 | node nk nx l r=>
  obtain⟨b,lv,rv,rfl,hb,hl,hr⟩:=hs;by_cases h0:c k nk=0
  ·rw[Tr.get_eq h0] at hg;refine(Zf∘Zz∘Zes∘Zcb∘ZcH∘Zbu∘Zbb∘ZaN∘Zc7) ?_;refine z8 (qb L Z Z (zm Z) Z Z hc.fn (fun u H hH _ _=>hc.ret _ _ u H hH)) Z ((Zbc∘Ze∘Z5∘ZN∘Zn∘ZS∘Zap) ?_);refine z7 (Sp M Z Z Z J) Z (z7 (P6 L Z Z Z Z) Z (Zbi (h:=?_)));refine yj1 L [.cell 4 114,.tmp 5] fun u H hH hle=>?_
   first | (rw[<-hg];rfl) | (refine ix (y7 rfl) rfl rfl ?_;rw[<-hg];rfl)
  ·by_cases h1:c k nk<0
   ·rw[Tr.get_lt h1] at hg;refine(Zf∘Zz∘Zes∘Zcb∘ZcH∘Zbu∘Zbb∘ZaN∘Zc7) ?_;refine z8 (qb L Z Z (zm Z) Z Z hc.fn (fun u H hH _ _=>hc.ret _ _ u H hH)) Z ((Zbc∘Ze∘Z5∘ZbK∘ZL∘ZbB∘Z7∘Zcd∘Zag) ?_);exact yo (x:=(Tr.node nk nx l r,Value.pointer (some ⟨b,0,none⟩))) (l,lv) ⟨hl,hg⟩ (by simp only[Tr.size_node];omega) (by repeat (first | exact trivial | refine⟨rfl,?_⟩))
   ·rw[Tr.get_gt h0 h1] at hg;refine(Zf∘Zz∘Zes∘Zcb∘ZcH∘Zbu∘Zbb∘ZaN∘Zc7) ?_;refine z8 (qb L Z Z (zm Z) Z Z hc.fn (fun u H hH _ _=>hc.ret _ _ u H hH)) Z ((Zbc∘Ze∘Z5∘ZbK∘ZL∘Z0∘ZaJ∘ZaI∘Zcd∘Zag) ?_);exact yo (x:=(Tr.node nk nx l r,Value.pointer (some ⟨b,0,none⟩))) (r,rv) ⟨hr,hg⟩ (by simp only[Tr.size_node];omega) (by repeat (first | exact trivial | refine⟨rfl,?_⟩))
def zb4(hc:Cmp cf c)(k:KT){t:Tr KT VT}(hB:zs4 B w)(hv:TA t root B)(hs:t.size<1099511627776):
  Ret zs5 134 [mv cf root,kv k] w B (fun v _=>v=.int .i64 (Tr.rank c k t)):=by
 refine yr Tryz.func134 Z Tryz.ntmps134 (np Z) hB ((Zal∘ZaW∘Zk∘Zv∘Zo∘ZaX) ?_)
 refine xp (fun s:Tr KT VT×Value×Nat=>[(3,.sat (At [.string k.1.1.1,.string k.1.1.2,.string k.1.2,.string k.2.1.1,.string k.2.1.2,.string k.2.2] 57 0)),(2,.sat (At [.func (.func cf) #[] #[],root] 33 0)),(5,.is (.int .i64 s.2.2)),(6,.is s.2.1)])
  (fun s=>TA s.1 s.2.1 B/\Tr.rank c k t=s.2.2+Tr.rank c k s.1/\s.2.2+s.1.size<=t.size) (fun s=>s.1.size) (t,root,0) ⟨hv,by simp,by simp⟩ (by repeat (first | exact trivial | refine⟨rfl,?_⟩)) ?_
 rintro⟨s,v,m⟩ ⟨hs',hg,hz⟩;dsimp only at hs' hg hz |-
 cases s with
 | nil=>
  obtain rfl:v=.pointer none:=hs';refine(Zf∘Zr∘Zes∘Za5∘ZaI∘Zc) ?_;refine yj1 L [.tmp 4] fun u H hH hle=>?_;rw[hg];rfl
 | node nk nx l r=>
  obtain⟨b,lv,rv,rfl,hb,hl,hr⟩:=hs';simp only[Tr.size_node] at hz;by_cases h1:c nk k<0
  ·rw[Tr.rank_lt h1] at hg;refine(Zf∘Zr∘Zes∘Zcb∘Zda∘Zbu∘ZaN∘Zc7∘Zbb) ?_;refine z8 (qb L Z Z (zm Z) Z Z hc.fn (fun u H hH _ _=>hc.ret _ _ u H hH)) Z ((ZcD∘ZbW∘Ze∘ZbG∘Zcd∘ZeT∘Zay∘Zay∘Zc∘ZL∘Zcd∘Zag) ?_);exact yo (x:=(Tr.node nk nx l r,Value.pointer (some ⟨b,0,none⟩),m)) (r,rv,m+(l.size+1)) ⟨hr,by dsimp only;omega,by dsimp only;omega⟩ (by simp only[Tr.size_node];omega) (by repeat (first | exact trivial | refine⟨rfl,?_⟩))
  ·rw[Tr.rank_ge h1] at hg;refine(Zf∘Zr∘Zes∘Zcb∘Zda∘Zbu∘ZaN∘Zc7∘Zbb) ?_;refine z8 (qb L Z Z (zm Z) Z Z hc.fn (fun u H hH _ _=>hc.ret _ _ u H hH)) Z ((Zdg∘ZaL∘Z7∘Zcd∘Zag) ?_);exact yo (x:=(Tr.node nk nx l r,Value.pointer (some ⟨b,0,none⟩),m)) (l,lv,m) ⟨hl,hg,by dsimp only;omega⟩ (by simp only[Tr.size_node];omega) (by repeat (first | exact trivial | refine⟨rfl,?_⟩))
def rank_nil(k:KT)(hB:zs4 B w):
  Ret zs5 134 [.agg #[fv,.pointer none],kv k] w B (fun v _=>v=.int .i64 0):=by
 refine yr Tryz.func134 Z Tryz.ntmps134 (np Z) hB ((Zal∘ZaW∘Zk∘Zv∘Zo∘ZaX) ?_);refine xp (fun _:Unit=>[(5,.is (.int .i64 0)),(6,.is (.pointer none))]) (fun _=>True) (fun _=>0) () trivial (by repeat (first | exact trivial | refine⟨rfl,?_⟩)) ?_;rintro _ _;refine(Zf∘Zr∘Zes∘Za5∘ZaI∘Zc) ?_;exact yj2 L [.tmp 4]
def atV:Option (KT×VT)->List Value
 | some y=>[.agg (pl y.1 y.2).toArray,.int .i64 0]
 | none=>[.agg #[.string ⟨#[]⟩,.string ⟨#[]⟩,.string ⟨#[]⟩,.string ⟨#[]⟩,.string ⟨#[]⟩,.string ⟨#[]⟩],.int .i64 4]
def atO(t:Tr KT VT)(i:Int):Option (KT×VT):=if i<0 then none else Tr.at' t i.toNat
def zai:∀ (t:Tr KT VT) (i:Nat),t.size<=i->Tr.at' t i=none
 | .nil,_,_=>rfl
 | .node k x l r,i,h=>by
  simp only[Tr.size_node] at h;rw[Tr.at_gt T];exact zai r _ T
def at_ret{fv root:Value}{t:Tr KT VT}(i:Int)(hB:zs4 B w)(hv:TA t root B)(hs:t.size<1099511627776):
  Ret zs5 135 [.agg #[fv,root],.int .i64 i] w B (fun v _=>v=tup (atV (atO t i))):=by
 refine yr Tryz.func135 Z Tryz.ntmps135 (np Z) hB ?_;by_cases h0:i<0
 ·refine(ZD∘ZE∘Zbd∘ZU∘Zau∘Zbe∘Zv∘ZfH∘Zbi) ?_;refine yj1 L [.cell 4 186,.tmp 5] fun u H hH hle=>?_;refine Za2 (h:=?_);rw[atO,na h0];rfl
 ·by_cases h1:i>=t.size
  ·refine(ZD∘ZE∘Zbd∘Z0∘Zb∘ZbV∘Zfn∘Zbz∘Zbe∘Zv∘ZfH∘Zbi) ?_;refine yj1 L [.cell 4 186,.tmp 5] fun u H hH hle=>?_;refine Za2 (h:=?_);rw[atO,nc h0,zai t _ T];rfl
  ·obtain⟨j,rfl⟩:=Int.eq_ofNat_of_zero_le (by omega:0<=i);refine(ZD∘ZE∘Zbd∘Z0∘Zb∘ZbV∘Zfn∘Za6∘Zcz∘Z6∘Zo∘ZaX) ?_
   refine xp (fun s:Tr KT VT×Value×Nat=>[(1,.is (.int .i64 s.2.2)),(4,.own (Cell [.string ⟨#[]⟩,.string ⟨#[]⟩,.string ⟨#[]⟩,.string ⟨#[]⟩,.string ⟨#[]⟩,.string ⟨#[]⟩] 186)),(6,.is s.2.1)])
    (fun s=>TA s.1 s.2.1 B/\Tr.at' t j=Tr.at' s.1 s.2.2/\s.2.2<s.1.size/\s.1.size<=t.size) (fun s=>s.1.size) (t,root,j) ⟨hv,rfl,by dsimp only;omega,Nat.le_refl _⟩ ⟨rfl,rfl,rfl,trivial⟩ ?_
   rintro⟨s,v,m⟩ ⟨hs',hg,hlt,hz⟩;dsimp only at hs' hg hlt hz |-
   cases s with
   | nil=>cases hlt
   | node nk nx l r=>
    obtain⟨b,lv,rv,rfl,hb,hl,hr⟩:=hs';simp only[Tr.size_node] at hlt hz;by_cases h2:m<l.size
    ·rw[Tr.at_lt h2] at hg;refine(ZF∘Z5∘Zcd∘ZeT∘Zc∘ZF∘ZbF∘ZU∘ZbE∘Z7∘Zcd∘Zag∘Zaw) ?_;exact yo (x:=(Tr.node nk nx l r,Value.pointer (some ⟨b,0,none⟩),m)) (l,lv,m) ⟨hl,hg,h2,by dsimp only;omega⟩ (by simp only[Tr.size_node];omega) ⟨Z,Z,Z,trivial⟩
    ·by_cases h3:m>l.size
     ·rw[Tr.at_gt h3] at hg;refine(ZF∘Z5∘Zcd∘ZeT∘Zc∘ZF∘ZbF∘Z0∘Zav∘Zu∘Zb∘ZP∘ZbE∘Ze∘Z2∘Zb∘Zay∘Zdi∘Zc∘Z4∘Za∘Zcd∘Zag∘Zaw) ?_;have e:((m:Int)-((l.size:Int)+1))=((m-(l.size+1):Nat):Int):=T;rw[e];exact yo (x:=(Tr.node nk nx l r,Value.pointer (some ⟨b,0,none⟩),m)) (r,rv,m-(l.size+1)) ⟨hr,hg,by dsimp only;omega,by dsimp only;omega⟩ (by simp only[Tr.size_node];omega) ⟨Z,Z,Z,trivial⟩
     ·rw[Tr.at_eq T] at hg;refine(ZF∘Z5∘Zcd∘ZeT∘Zc∘ZF∘ZbF∘Z0∘Zav∘Zu∘Zb∘ZM∘Zav∘ZS∘Zap∘Zgb∘Zbi) ?_;refine yj1 L [.cell 4 186,.tmp 5] fun u H hH hle=>?_;refine Za2 (h:=?_);rw[atO,nc h0,zpf,hg];rfl
def _root_.Za3(t:Wr Y->A:=by intro h;refine z7 (zz L (vs:=[_,_,_,_,_,_]) (y7 Z) Z Z Z Z ⟨_,rfl⟩) Z ?_;exact h.1)(h:Y):A:=t ⟨h⟩
def _root_.Zdy(t:Wr Y->A:=by intro h;refine z8 (P7 Z Z Z Z (nf T)) Z ?_;exact h.1)(h:Y):A:=t ⟨h⟩
def _root_.Zet(t:Wr Y->A:=by intro h;refine z8 (P7 Z Z Z Z (ng T)) Z ?_;exact h.1)(h:Y):A:=t ⟨h⟩
def _root_.Zfo(t:Wr Y->A:=by intro h;refine qn (id:=6) [(60,[77])] ko J ?_;exact h.1)(h:Y):A:=t ⟨h⟩
def _root_.Zfp(t:Wr Y->A:=by intro h;refine z8 (u9 Z Z Z Z zmv Z) Z ?_;exact h.1)(h:Y):A:=t ⟨h⟩
def encP(y:KT×VT):List Value:=[.agg (pl y.1 y.2).toArray]
def PairsAt(t:Tr KT VT)(a f e:Int):Value->Heap->Prop:=fun v H=>∃ b1 b2 b3 b4 root,v=.func (.func 233) #[] #[.pointer (some ⟨b1,0,none⟩),.pointer (some ⟨b2,0,none⟩),.pointer (some ⟨b3,0,none⟩),.pointer (some ⟨b4,0,none⟩)]/\
 H b1=some (.cells [root].toArray 31)/\H b2=some (.cells [.int .i64 a].toArray 3)/\H b3=some (.cells [.int .i64 f].toArray 3)/\H b4=some (.cells [.int .i64 e].toArray 3)/\TA t root H
def PairsAt.mono{t:Tr KT VT}{a f e:Int}:Kn.mono (.sat (PairsAt t a f e)):=fun _ _ _ ⟨b1,b2,b3,b4,root,h0,h1,h2,h3,h4,h5⟩ hle=>⟨b1,b2,b3,b4,root,h0,hle _ _ h1,hle _ _ h2,hle _ _ h3,hle _ _ h4,h5.le hle⟩
def Cv(t:Tr KT VT)(a f e:Int)(hB:zs4 B w)(hv:TA t root B):
  Ret zs5 180 [root,.int .i64 a,.int .i64 f,.int .i64 e] w B (PairsAt t a f e):=by
 obtain⟨p,rfl⟩:=hv.ptr;refine yr Tryz.func180 Z Tryz.ntmps180 (np Z) hB ((Zal∘Zdk∘Zdk∘Zd) ?_);refine o7 4 rfl fun v1 H1 hs1 ⟨b1,e1,h1⟩=>?_;subst e1;refine o7 5 rfl fun v2 H2 hs2 ⟨b2,e2,h2⟩=>?_;subst e2;refine o7 6 rfl fun v3 H3 hs3 ⟨b3,e3,h3⟩=>?_;subst e3;refine o7 7 rfl fun v4 H4 hs4 ⟨b4,e4,h4⟩=>?_;subst e4;refine(Zan∘Za7∘Zc) ?_;refine yj L (rs:=[.tmp 8]) Z (fun _ _ h=>h) (hs1.trans (hs2.trans (hs3.trans hs4))) fun u H hH hle=>?_;exact⟨b1,b2,b3,b4,_,rfl,hle _ _ (hs4.le _ _ (hs3.le _ _ (hs2.le _ _ h1))),hle _ _ (hs4.le _ _ (hs3.le _ _ h2)),hle _ _ (hs4.le _ _ h3),hle _ _ h4,(((hv.le hs1.le).le hs2.le).le (hs3.le.trans hs4.le)).le hle⟩
def Aa{l:List (KT×VT)}{x:List Value}(h:pre++[x]<+:l.map encP):∃ y,x=encP y:=by
 have:x∈l.map encP:=h.subset (by simp);obtain⟨y,_,rfl⟩:=zoz.1 this;exact⟨y,rfl⟩
abbrev Fb:List Value->List Value
 | [.agg cs]=>cs.toList
 | _=>[]
set_option maxRecDepth 10000 in
def zc0:∀ (t:Tr KT VT) (a f e:Int) {b1 b2 b3 b4:Nat} {root:Value} {w:World} {B:Heap},0<=a->a+t.size<1099511627776->zs4 B w->
  B b1=some (.cells [root].toArray 31)->B b2=some (.cells [.int .i64 a].toArray 3)->B b3=some (.cells [.int .i64 f].toArray 3)->B b4=some (.cells [.int .i64 e].toArray 3)->TA t root B->
  zl2 zs5 233 [.pointer (some ⟨b1,0,none⟩),.pointer (some ⟨b2,0,none⟩),.pointer (some ⟨b3,0,none⟩),.pointer (some ⟨b4,0,none⟩)] w B ((Tr.prs t a f e).map encP):=by
 intro t
 induction t with
 | nil=>
  intro a f e b1 b2 b3 b4 root w B ha hsz hB g1 g2 g3 g4 hv ly zsy stop C hst hY hJ hC;obtain rfl:root=.pointer none:=hv;refine xf 77 (zsy []) Tryz.func233 Z Tryz.ntmps233 (np Z) hB hJ hC ((ZD∘ZaC∘ZcC∘Z9∘Zfp∘ZbM∘ZaB∘Zl∘Zce∘ZbC) ?_);exact jm L 77 rfl (fun _ _ h=>h) nq Z Z
 | node k x l r ihl ihr=>
  intro a f e b1 b2 b3 b4 root w B ha hsz hB g1 g2 g3 g4 hv ly zsy stop C hst hY hJ hC;obtain⟨b,lv,rv,rfl,hb,hl,hr⟩:=hv;have hsn:(Tr.node k x l r).size=l.size+1+r.size:=rfl;rw[hsn] at hsz;refine xf 77 (zsy []) Tryz.func233 Z Tryz.ntmps233 (np Z) hB hJ hC ?_;by_cases h1:a+((Tr.node k x l r).size:Int)<=f
  ·have hx:Tr.prs (.node k x l r) a f e=[]:=na (.inl h1);refine(ZD∘ZaC∘ZcC∘Z9∘Zfp∘Zl∘Z9∘Z9∘Zca∘Z9∘Zdm∘Z9∘Zdy∘ZaB∘Zl∘Zce∘ZbC) ?_;exact jm L 77 rfl (fun _ _ h=>h) nq Z (by rw[hx];rfl)
  ·by_cases h2:a>=e
   ·have hx:Tr.prs (.node k x l r) a f e=[]:=na (.inr h2);refine(ZD∘ZaC∘ZcC∘Z9∘Zfp∘Zl∘Z9∘Z9∘Zca∘Z9∘Zdm∘Z9∘Zet∘ZaB∘Zl∘Z9∘Z9∘Ze3∘ZbC) ?_;exact jm L 77 rfl (fun _ _ h=>h) nq Z (by rw[hx];rfl)
   ·have hx:Tr.prs (.node k x l r) a f e=Tr.prs l a f e++((if a+(l.size:Int)>=f/\a+(l.size:Int)<e then [(k,x)] else [])++Tr.prs r (a+l.size+1) f e):=
     nc (by rintro(h | h);exact h1 h;exact h2 h)
    rw[hx] at hY |-;simp only[zpb] at hY |-;refine(ZD∘ZaC∘ZcC∘Z9∘Zfp∘Zl∘Z9∘Z9∘Zca∘Z9∘Zdm∘Z9∘Zet∘ZaB∘Zl∘Z9∘Z9∘ZeO∘Zam∘Zao∘Zed∘Z9∘Z9∘Zca∘Z9) ?_;refine z81 L Z (fun u H hH hle=>UT.size_ret _ hH (UT.TA.le M hle)) ?_;refine(Zdm∘Zbc∘Ze∘ZcH∘Z9∘Zca∘Z9∘Z9∘Z9∘Z9) ?_;refine z8 (xg L Z Z (zm Z) Z Z Z PairsAt.mono (fun u H hH hle _=>Cv l a f e hH (TA.le hl hle))) Z ((Zb3∘Zar) ?_);refine o7 5 rfl fun v5 H5 hs5 ⟨b5,e5,g5⟩=>?_;subst e5;refine o7 40 rfl fun v40 H40 hs40 ⟨c1,c2,c3,c4,r1,e40,d1,d2,d3,d4,d5⟩=>?_;subst e40;have hsB:=hs5.trans hs40;have gg5:=hs40.le _ _ g5
    refine au L (gf:=233) (caps:=[.pointer (some ⟨c1,0,none⟩),.pointer (some ⟨c2,0,none⟩),.pointer (some ⟨c3,0,none⟩),.pointer (some ⟨c4,0,none⟩)])
     [(1,.pointer (some ⟨b1,0,none⟩)),(2,.pointer (some ⟨b2,0,none⟩)),(3,.pointer (some ⟨b3,0,none⟩)),(4,.pointer (some ⟨b4,0,none⟩)),(5,.pointer (some ⟨b5,0,none⟩)),(6,.int .i64 (a+l.size))]
     (fun pre=>[(77,(zsy pre).res)]) (fun pre x=>[(77,.own (zsy pre).res),(7,.own (Cell (Fb x) 186)),(5,.is (.pointer (some ⟨b5,0,none⟩)))])
     ((Tr.prs l a f e).map encP) stop (fun _=>.ret) rfl rfl rfl ⟨rfl,rfl,rfl,rfl,rfl,rfl,rfl,nm⟩
     (fun pre p hp=>by simp only[m7] at hp;subst hp;exact nu _) hst (fun x hx=>by obtain⟨y,_,rfl⟩:=zoz.1 hx;rfl) E
     (fun u H hH hle=>ihl a f e ha T hH (hle _ _ d1) (hle _ _ d2) (hle _ _ d3) (hle _ _ d4) (d5.le hle)) ?asg ?bd ?dn ?st
    case asg=>
     intro w1 Ln B' l' D' o pre x' hpre hstp hBB;obtain⟨y,rfl⟩:=Aa hpre;refine(Zt∘Za1∘Zab) ?_;exact zau nq ⟨Z,Z,Z,nm⟩
    case bd=>
     intro w1 Ln B' l' D' o pre x' hpre hstp hBB;obtain⟨y,rfl⟩:=Aa hpre;have q5:=hBB _ _ gg5;have hpre':=hpre.trans (List.prefix_append ((Tr.prs l a f e).map encP) (((if a+(l.size:Int)>=f/\a+(l.size:Int)<e then [(k,x)] else [])).map encP++(Tr.prs r (a+l.size+1) f e).map encP));cases hb':stop (pre++[encP y])
     ·refine(ZF∘Z1∘Zcr∘Za3) ?_;refine qg (uy (gs:=77) hY hpre' hstp (nh Bool.not hb') Z Z Z Z Z) ((Zm∘Zac∘Zaw) ?_);exact zav nq hb' ⟨Z,nm⟩
     ·refine(ZF∘Z1∘Zcr∘Za3) ?_;refine qg (uy (gs:=77) hY hpre' hstp (nh Bool.not hb') Z Z Z Z Z) ((Zm∘Z3) ?_);exact Ff (Ak (Ty nq hb' Z ⟨Z,nm⟩))
    case st=>
     intro l' D' o hstop;exact jm L 77 rfl (fun _ _ h=>h) hsB Z (by rw[Eb _ _ _ hstop hst])
    case dn=>
     intro l' D' o hgo;have htk:=Fy (stop:=stop) ((Tr.prs l a f e).map encP) [] hgo;simp only[mj] at htk;rw[htk] at hgo |-;have gg1:=hsB.le _ _ g1;have gg2:=hsB.le _ _ g2;have gg3:=hsB.le _ _ g3;have gg4:=hsB.le _ _ g4;have ggb:=hsB.le _ _ hb;have ggr:=TA.le hr hsB.le;refine Zaw (h:=?_);refine Zbr (h:=?_)
     refine zam (fun zs1:wm=>[(77,.own (zsy zs1).res),(1,.is (.pointer (some ⟨b1,0,none⟩))),(2,.is (.pointer (some ⟨b2,0,none⟩))),(3,.is (.pointer (some ⟨b3,0,none⟩))),(4,.is (.pointer (some ⟨b4,0,none⟩))),(5,.is (.pointer (some ⟨b5,0,none⟩))),(6,.is (.int .i64 (a+l.size)))])
      (fun zs1=>stop zs1=false/\ju stop [] zs1=zs1/\zs1++(Tr.prs r (a+l.size+1) f e).map encP=(Tr.prs l a f e).map encP++(((if a+(l.size:Int)>=f/\a+(l.size:Int)<e then [(k,x)] else [])).map encP++(Tr.prs r (a+l.size+1) f e).map encP)) ?one ?two
     case one=>
      by_cases hy1:a+(l.size:Int)>=f
      ·by_cases hy2:a+(l.size:Int)<e
       ·rw[na ⟨hy1,hy2⟩] at hY |-;have hpre:(Tr.prs l a f e).map encP++[encP (k,x)]<+:(Tr.prs l a f e).map encP++([(k,x)].map encP++(Tr.prs r (a+l.size+1) f e).map encP):=⟨(Tr.prs r (a+l.size+1) f e).map encP,by simp⟩
        cases hb':stop ((Tr.prs l a f e).map encP++[encP (k,x)])
        ·refine(Ze∘Zfo∘Zl∘Z9∘Ze3∘Zp∘Z9∘ZcD∘ZaB∘Zl∘Z9∘Z9∘Zca∘Zdh) ?_;refine kf (uy (gs:=77) hY hpre hgo (nh Bool.not hb') Z Z Z Z Z) Z Z ((ZaG∘Zam∘Zds) ?_);refine zim ((Tr.prs l a f e).map encP++[encP (k,x)]) nq ⟨hb',?_,by simp⟩ ⟨Z,Z,Z,Z,Z,Z,Z,nm⟩;rw[iq _ _ _ (by rw[htk];exact hgo),mj];simp only[ju];split<;>rfl
        ·refine(Ze∘Zfo∘Zl∘Z9∘Ze3∘Zp∘Z9∘ZcD∘ZaB∘Zl∘Z9∘Z9∘Zca∘Zdh) ?_;refine kf (uy (gs:=77) hY hpre hgo (nh Bool.not hb') Z Z Z Z Z) Z Z ((ZaG∘ZbC) ?_);refine jm L 77 rfl (fun _ _ h=>h) hsB Z ?_;rw[iq _ _ _ (by rw[htk];exact hgo),mj];simp only[mz,zph,zpd,ju];rw[na hb']
       ·rw[nc (by rintro⟨_,h⟩;exact hy2 h)];refine(Ze∘Zfo∘Zl∘Z9∘Ze3∘Zp∘Z9∘Zdg∘ZaB∘Zd9∘Zce∘Zam∘Zds) ?_;exact zim ((Tr.prs l a f e).map encP) nq ⟨hgo,htk,by simp⟩ ⟨Z,Z,Z,Z,Z,Z,Z,nm⟩
      ·rw[nc (by rintro⟨h,_⟩;exact hy1 h)];refine(Ze∘Zfo∘Zl∘Z9∘ZeO∘Zl∘Zce∘ZaB∘Zd9∘Zce∘Zam∘Zds) ?_;exact zim ((Tr.prs l a f e).map encP) nq ⟨hgo,htk,by simp⟩ ⟨Z,Z,Z,Z,Z,Z,Z,nm⟩
     case two=>
      rintro zs1 ⟨hM1,hM2,hM3⟩;rw[<-hM3] at hY |-;refine(Ze∘ZeE∘Z9∘Zca∘Z9∘Zl∘Zdm∘Z9∘Z9) ?_;refine z8 (xg L Z Z (zm Z) Z Z Z PairsAt.mono (fun u H hH hle _=>Cv r (a+l.size+1) f e hH (TA.le ggr hle))) Z ((Zb3∘Zar) ?_);refine o7 71 rfl fun v71 H71 hs71 ⟨c1,c2,c3,c4,r1,e71,d1,d2,d3,d4,d5⟩=>?_;subst e71;have qq5:=hs71.le _ _ gg5
      have htot:ju stop [] (zs1++(Tr.prs r (a+l.size+1) f e).map encP)=zs1++ju (fun p=>stop (zs1++p)) [] ((Tr.prs r (a+l.size+1) f e).map encP):=by
       rw[iq _ _ _ (by rw[hM2];exact hM1),B8,mj,mq]
      refine au L (gf:=233) (caps:=[.pointer (some ⟨c1,0,none⟩),.pointer (some ⟨c2,0,none⟩),.pointer (some ⟨c3,0,none⟩),.pointer (some ⟨c4,0,none⟩)])
       [(5,.pointer (some ⟨b5,0,none⟩))]
       (fun pre=>[(77,(zsy (zs1++pre)).res)]) (fun pre x=>[(77,.own (zsy (zs1++pre)).res),(8,.own (Cell (Fb x) 186)),(5,.is (.pointer (some ⟨b5,0,none⟩)))])
       ((Tr.prs r (a+l.size+1) f e).map encP) (fun p=>stop (zs1++p)) (fun _=>.ret) rfl rfl rfl ⟨by rw[mq];rfl,rfl,nm⟩
       (fun pre p hp=>by simp only[m7] at hp;subst hp;exact nu _) (by show stop (zs1++[])=false;rw[mq];exact hM1) (fun x hx=>by obtain⟨y,_,rfl⟩:=zoz.1 hx;rfl) E
       (fun u H hH hle=>ihr (a+l.size+1) f e T T hH (hle _ _ d1) (hle _ _ d2) (hle _ _ d3) (hle _ _ d4) (d5.le hle)) ?asg2 ?bd2 ?dn2 ?st2
      case asg2=>
       intro w1 Ln B' l' D' o pre x' hpre hstp hBB;obtain⟨y,rfl⟩:=Aa hpre;refine(Zu∘Za1∘Zab) ?_;exact zau nq ⟨Z,Z,Z,nm⟩
      case bd2=>
       intro w1 Ln B' l' D' o pre x' hpre hstp hBB;obtain⟨y,rfl⟩:=Aa hpre;have q5:=hBB _ _ qq5;have hpre':(zs1++pre)++[encP y]<+:zs1++(Tr.prs r (a+l.size+1) f e).map encP:=by rw[mw];exact(List.prefix_append_right_inj zs1).2 hpre
       cases hb':stop ((zs1++pre)++[encP y])
       ·refine(ZF∘Z2∘Zcr∘Za3) ?_;refine qg (uy (gs:=77) hY hpre' hstp (nh Bool.not hb') Z Z Z Z Z) ((Zm∘Zac∘Zaw) ?_);exact zav nq (by rw[<-mw];exact hb') ⟨by rw[<-mw];rfl,nm⟩
       ·refine(ZF∘Z2∘Zcr∘Za3) ?_;refine qg (uy (gs:=77) hY hpre' hstp (nh Bool.not hb') Z Z Z Z Z) ((Zm∘Z3) ?_);exact Ff (Ak (Ty nq (by rw[<-mw];exact hb') Z ⟨by rw[<-mw];rfl,nm⟩))
      case st2=>
       intro l' D' o hstop;exact jm L 77 rfl (fun _ _ h=>h) (hsB.trans hs71) Z (by rw[htot])
      case dn2=>
       intro l' D' o hgo2;refine Zaw (h:=?_);exact xw L 77 rfl (fun _ _ h=>h) (hsB.trans hs71) Z (by rw[htot])
abbrev tyP:TypeId:=186
abbrev tyS:TypeId:=183
def flat(l:List (KT×VT)):List Value:=l.flatMap fun y=>pl y.1 y.2
abbrev PS(l:List (KT×VT))(fu:Bool):Value->Heap->Prop:=SlV tyP 6 (flat l) l.length fu
def Ts:∀ (pre:wm) (l:List (KT×VT)),pre<+:l.map encP->∃ m:List (KT×VT),pre=m.map encP/\m.length=pre.length/\pre.flatMap Fb=flat m:=by
 intro pre l h;refine⟨l.take pre.length,?_,?_,?_⟩
 ·rw[zqb];exact(List.prefix_iff_eq_take.1 h)
 ·rw[mi];have:=h.length_le;simp only[m4] at this;omega
 ·conv=>lhs;rw[List.prefix_iff_eq_take.1 h,<-zqb]
  generalize l.take pre.length=m
  induction m with
  | nil=>rfl
  | cons y m ih=>simp only[mz,zpm,flat] at ih |-;rw[ih];rfl
def M8(xs:wm):ju (fun _=>false) [] xs=xs:=by
 have:=Fy (stop:=fun _=>false) xs [] rfl;simpa using this
def zdl(l:List (KT×VT))(fu:Bool)(hB:zs4 B w)(hv:PS l fu v B):Ret zs5 178 [v] w B (PS l true):=by
 refine yr Tryz.func178 Z Tryz.ntmps178 (np Z) hB (k7 0 (PS l fu) Z ns hv ((ZK∘Zh∘Zj∘Zj∘Zec∘ZR∘Zw) ?_));refine yj1 L [.tmp 2] fun u H hH hle=>?_;exact fun v hv=>hv
def zd1(l:List (KT×VT))(hl:l.length<1099511627776){x:Value}{gf:Nat}{caps:List Value}(hB:zs4 B w)(hx:(SlR tyP 6 0 []).P x B w C)(hC:ZCB C w B)
  (hfn:L.fn gf=some ()) (hit:∀ u H,zs4 H u->B.Le H->zl2 zs5 gf caps u H (l.map encP)):
  RetL zs5 179 [x,.func (.func gf) #[] caps.toArray] w B C (fun v H _=>PS l false v H):=by
 refine Hs 0 (x:=x) (SlR tyP 6 0 []) Z Tryz.func179 Z Tryz.ntmps179 (np Z) hB hx hC ?_;refine Br 0 13 _ Z SlR.shape fun y hy=>?_;obtain⟨p,c,rfl⟩:=hy;refine(Zbw∘Zbd∘Zd3) ?_;refine ug 2 rfl fun b2 hb2=>?_;refine Fj 13 [] Z Z ?_
 refine au L (gf:=gf) (caps:=caps) [(2,.pointer (some ⟨b2,0,none⟩))] (fun pre=>[(13,za3 b2 tyS (SlR tyP 6 pre.length (pre.flatMap Fb)))])
  (fun pre x=>[(13,.own (za3 b2 tyS (SlR tyP 6 pre.length (pre.flatMap Fb)))),(2,.is (.pointer (some ⟨b2,0,none⟩))),(5,.own (Cell (Fb x) tyP))])
  (l.map encP) (fun _=>false) (fun _=>.ret) rfl rfl hfn ⟨rfl,rfl,nm⟩
  (fun pre p hp=>by simp only[m7] at hp;subst hp;exact nu _) rfl (fun x hx=>by obtain⟨y,_,rfl⟩:=zoz.1 hx;rfl) E hit ?asg ?bd ?dn ?st
 case asg=>
  intro w1 Ln B' l' D' o pre x' hpre hstp hBB;obtain⟨y,rfl⟩:=Aa hpre;refine(Zv∘Za1∘Zab) ?_;exact zau nq ⟨Z,Z,Z,nm⟩
 case bd=>
  intro w1 Ln B' l' D' o pre x' hpre hstp hBB;obtain⟨y,rfl⟩:=Aa hpre;have hlen:=hpre.length_le;simp only[nr,m4,nz,m6] at hlen;refine Zar (h:=?_);refine s5 13 _ Z SlR.shape fun z hz=>?_;obtain⟨p,c,rfl⟩:=hz;refine(Z6∘Zcf) ?_;refine pf 8 13 rfl rfl ((Za3∘ZaF) ?_);refine qg (w8 L rfl rfl rfl (o6 rfl) rfl zk3 rfl rfl T T) ?_;refine c7 11 13 _ rfl SlR.shape fun z hz=>?_;obtain⟨p',c',rfl⟩:=hz;refine(ZfG∘Zab∘Zaw) ?_;refine Fl 13 [] Z Z (zav nq Z ⟨?_,nm⟩);rw[zpo,nr];rfl
 case st=>
  intro l' D' o h;cases h
 case dn=>
  intro l' D' o _;rw[M8];refine Zaw (h:=?_);refine Zbr (h:=?_);refine s5 13 _ Z SlR.shape fun z hz=>?_;obtain⟨p,c,rfl⟩:=hz;refine(ZcV∘Zcf∘Zc) ?_;refine Rk 4 13 rfl Z (gt 4 rfl ?_);refine zan L (rs:=[.tmp 4]) Z (fun _ _ h=>h) nq fun O' u H hH hle=>?_;obtain⟨m,h1,h2,h3⟩:=Ts _ l (List.prefix_refl _)
  have hm:m=l:=by
   have:=List.map_inj_right (f:=encP) (fun a b h=>by
    simp only[encP,List.cons.injEq,Value.agg.injEq,and_true] at h;have h:=nh Array.toList h;simp at h
    first | exact Prod.ext h.1 h.2 | exact Prod.ext h.1 (Prod.ext (Prod.ext h.2.1 h.2.2.1) h.2.2.2) | exact Prod.ext (Prod.ext (Prod.ext h.1 h.2.1) h.2.2.1) h.2.2.2 | exact Prod.ext (Prod.ext (Prod.ext (Prod.ext h.1 h.2.1) h.2.2.1) (Prod.ext (Prod.ext h.2.2.2.1 h.2.2.2.2.1) h.2.2.2.2.2)) rfl) |>.1 h1
   exact this.symm
  subst hm;rw[h3];simp only[m4];exact fun v hv=>hv
def PS.mono{l:List (KT×VT)}:Kn.mono (.sat (PS l fu)):=ns
def Tv{t:Tr KT VT}{f e:Int}{x v:Value}(hB:zs4 B w)(hx:(SlR tyP 6 0 []).P x B w C)(hC:ZCB C w B)(hv:PairsAt t 0 f e v B)(hs:t.size<1099511627776):
  RetL zs5 179 [x,v] w B C (fun v H _=>PS (Tr.prs t 0 f e) false v H):=by
 obtain⟨b1,b2,b3,b4,root,rfl,h1,h2,h3,h4,h5⟩:=hv;have hlen:=Tr.prs_length_le t 0 f e;exact zd1 (Tr.prs t 0 f e) T hB hx hC Z fun u H hH hle=>zc0 t 0 f e (zqq _) T hH (hle _ _ h1) (hle _ _ h2) (hle _ _ h3) (hle _ _ h4) (h5.le hle)
def Vf(t:Tr KT VT){a f e:Int}:(Tr.prs t a f e).length<=t.size:=Tr.prs_length_le t a f e
def rangeL(t:Tr KT VT)(f e:Int):List (KT×VT):=if max f 0>=min e t.size then [] else Tr.prs t 0 (max f 0) (min e t.size)
set_option maxRecDepth 10000 in
def Vd{t:Tr KT VT}(f e:Int)(hB:zs4 B w)(hv:TA t root B)(hs:t.size<1099511627776):
  Ret zs5 112 [.agg #[fv,root],.int .i64 f,.int .i64 e] w B (PS (rangeL t f e) true):=by
 refine yr Tryz.func112 Z Tryz.ntmps112 (np Z) hB ?_;unfold rangeL;by_cases h:max f 0>=min e t.size
 ·rw[na h];refine(ZD∘ZbA) ?_;refine z7 (ry Z Z Z Z Z) Z ((Za∘ZbV∘Zfn) ?_);refine z7 (P5 Z Z Z Z Z) Z ((ZcM∘Za9∘Zbz∘Zn∘Z6∘Zc) ?_);refine yj1 L [.tmp 6] fun u H hH hle=>?_;exact(SlV.nil (e:=tyP))
 ·rw[nc h];have hlen:=Vf t (a:=0) (f:=max f 0) (e:=min e t.size);have e1:(if (0:Int)>f then 0 else f)=max f 0:=T;have e2:(if (t.size:Int)<e then (t.size:Int) else e)=min e t.size:=T;refine(ZD∘ZbA) ?_;refine z7 (ry Z Z Z Z M) Z ((Za∘ZbV∘Zfn) ?_);refine z7 (P5 Z Z Z Z M) Z ((ZcM∘Za9∘Za6∘Zx) ?_);obtain⟨m,hm⟩:∃ m:Nat,min e (t.size:Int)-max f 0=m:=⟨(min e (t.size:Int)-max f 0).toNat,by omega⟩
  refine qn (id:=4) [(25,[19])] ko J (Zp (h:=?_));refine z8 (P3 Z Z Z Z (xb T T)) Z (z8 (zb8 L _ Z Z Z zk3 Z Z M T (by simp only[maxLen];omega)) Z ?_);refine(Zbu∘Zp) ?_;refine z8 (xg L Z Z (zm Z) Z Z Z PairsAt.mono (fun u H hH hle _=>Cv t 0 (max f 0) (min e t.size) hH (TA.le hv hle))) Z (kf (zcc (q:=19) (cap:=[]) L Z Z Z Z Z PS.mono (fun u H C x hH hle hx hC v hv=>Tv hH hx hC hv hs)) Z Z (z8 (xg L Z Z (zm Z) Z Z Z PS.mono (fun u H hH hle _ v hv=>zdl _ _ hH hv)) Z ((Zc6∘Zb3) ?_)));refine yj1 L [.tmp 6] fun u H hH hle=>?_;exact fun v hv=>hv
end Go.V.UT
namespace Go.V.UT
abbrev MF(cf:Nat)(t:Tr KT VT):Value->Heap->Prop:=MA (.func (.func cf) #[] #[]) t
def mput_m(hc:Cmp cf c)(k:KT)(x:VT){t:Tr KT VT}(hB:zs4 B w)(hv:MF cf t v B)(hs:t.size+1<1099511627776):
  Ret zs5 173 [v,kv k,vv x] w B (MF cf (Tr.put c k x t)):=by
 obtain⟨p,rfl,h⟩:=hv;exact zcl hc k x hB h hs
def mdrop_m(hc:Cmp cf c)(k:KT){t:Tr KT VT}(hB:zs4 B w)(hv:MF cf t v B)(hs:t.size<1099511627776):
  Ret zs5 172 [v,kv k] w B (MF cf (if (Tr.drop c k t).2=true then (Tr.drop c k t).1 else t)):=by
 obtain⟨p,rfl,h⟩:=hv;exact Xm hc k hB h hs
def len_m{t:Tr KT VT}{v:Value}(hB:zs4 B w)(hv:MA fv t v B)(hn:t.size=n):Ret zs5 45 [v] w B (fun v _=>v=.int .i64 n):=by
 obtain⟨p,rfl,h⟩:=hv;subst hn;exact len_ret hB h
def get_m(hc:Cmp cf c)(k:KT){t:Tr KT VT}{v:Value}(hB:zs4 B w)(hv:MF cf t v B){o:Option VT}(ho:Tr.get c k t=o):
  Ret zs5 64 [v,kv k] w B (fun v _=>v=tup (znt o)):=by
 obtain⟨p,rfl,h⟩:=hv;subst ho;exact zhq hc k hB h
def rank_m(hc:Cmp cf c)(k:KT){t:Tr KT VT}{v:Value}(hB:zs4 B w)(hv:MF cf t v B)(hs:t.size<1099511627776)(hn:Tr.rank c k t=n):
  Ret zs5 134 [v,kv k] w B (fun v _=>v=.int .i64 n):=by
 obtain⟨p,rfl,h⟩:=hv;subst hn;exact zb4 hc k hB h hs
def at_m{t:Tr KT VT}(i:Int){v:Value}(hB:zs4 B w)(hv:MA fv t v B)(hs:t.size<1099511627776){o:Option (KT×VT)}(ho:atO t i=o):
  Ret zs5 135 [v,.int .i64 i] w B (fun v _=>v=tup (atV o)):=by
 obtain⟨p,rfl,h⟩:=hv;subst ho;exact at_ret i hB h hs
def range_m{t:Tr KT VT}(f e:Int)(hB:zs4 B w)(hv:MA fv t v B)(hs:t.size<1099511627776){l:List (KT×VT)}(hl:rangeL t f e=l):
  Ret zs5 112 [v,.int .i64 f,.int .i64 e] w B (PS l true):=by
 obtain⟨p,rfl,h⟩:=hv;subst hl;exact Vd f e hB h hs
end Go.V.UT
namespace Go.V.L6
open Go.V.L2 Go.V.L3
def _root_.ZeU(t:Wr Y->A:=by intro h;refine z71 L Z (fun u H hH hle=>UT.len_m hH (⟨_,rfl,ht.le hle⟩) Z) ?_;exact h.1)(h:Y):A:=t ⟨h⟩
def _root_.Zfq(t:Wr Y->A:=by intro h;refine z7 (yv (cs:=[_,_]) Z Z zoh Z Z) Z ?_;exact h.1)(h:Y):A:=t ⟨h⟩
def _root_.Zdz(t:Wr Y->A:=by exact fun h=>(ZT∘ZV) h.1)(h:Y):A:=t ⟨h⟩
def _root_.Zeu(t:Wr Y->A:=by exact fun h=>(Zc8∘ZaC) h.1)(h:Y):A:=t ⟨h⟩
def _root_.ZbN(t:Wr Y->A:=by exact fun h=>(Zcx∘Zdw) h.1)(h:Y):A:=t ⟨h⟩
abbrev fvC:Value:=.func (.func 74) #[] #[]
abbrev fvS:Value:=.func (.func 106) #[] #[]
abbrev Az:TypeId:=37
abbrev chv(x:U)(d:Bool):Value:=.agg #[.string x.1.1.1,.string x.1.1.2,.string x.1.2,.string x.2.1.1,.string x.2.1.2,.string x.2.2,.bool d]
attribute [local irreducible] V N X VO Par StepOK Has Ret RetL RetO Src
def zbl{a b:U}(hB:zs4 B w):Ret zs5 106 [uv a,uv b] w B (fun v _=>v=.int .i64 (ig a b)):=by
 refine yr Tryz.func106 Z Tryz.ntmps106 (np Z) hB ((Zal∘Zd∘ZcC∘Zbt∘Zd6∘Zbt∘Zd6) ?_);refine z81 L Z (fun u H hH _=>cmpU_ret hH) ?_;refine(Zbt∘Zd6∘Zbt∘Zd6) ?_;refine z81 L Z (fun u H hH _=>Hf hH) ?_;refine ZcF (h:=?_);refine z8 (qb L Z Z (zm Z) Z Z Z (fun u H hH _ _ v hv=>Gj hH hv)) Z (ZaS (h:=?_));exact yj2 L [.tmp 4]
def zdi:UT.Cmp 74 kw:=⟨rfl,fun _ _ _ _ hH=>j8 hH⟩
def zk5:UT.Cmp 106 ig:=⟨rfl,fun _ _ _ _ hH=>zbl hH⟩
def chT(c:U->U->Int)(x:U)(d:Bool)(t:Tr U Unit):Tr U Unit:=if d=true then (if (Tr.drop c x t).2=true then (Tr.drop c x t).1 else t) else Tr.put c x () t
def Fa{c:U->U->Int}(hc:UT.Cmp cf c){f:Value}{t:Tr U Unit}(hf:f=.func (.func cf) #[] #[]\/(f=.nilFunc/\t=.nil))(x:U)(d:Bool)(hB:zs4 B w)(ht:UT.TA t (.pointer p) B)(hs:t.size+1<1099511627776):
  Ret zs5 105 [.agg #[f,.pointer p],chv x d,.func (.func cf) #[] #[]] w B (UT.MF cf (chT c x d t)):=by
 by_cases h0:t.size=0
 ·have hn:t=.nil:=by
   cases t with
   | nil=>rfl
   | node k y l r=>simp only[Tr.size] at h0;omega
  subst hn;have hz:UT.TA .nil (.pointer none) B:=rfl;refine yr Tryz.func105 Z Tryz.ntmps105 (np Z) hB ?_;unfold chT;cases d
  ·refine Zbw (h:=?_);refine Pd 3 rfl fun b hb=>?_;refine(Zdk∘Zcg∘Zan∘Zai∘Zdq) ?_;refine z71 L rfl (fun u H hH hle=>UT.len_m hH (⟨_,rfl,ht.le hle⟩) h0) ?_;refine(ZN∘Z3∘Zz) ?_;refine z71 L rfl (fun u H hH _=>UT.new_ret _ hH) ?_;refine(Zeu∘Z6∘Zo∘Zx∘Z1∘Zai∘Zdq∘ZbN) ?_;refine z7 (yv (cs:=[]) rfl rfl zjz rfl rfl) rfl (z7 (xg (φ:=UT.MF cf (Tr.put c x () .nil)) L rfl rfl (zm rfl) rfl rfl rfl UT.MA.mono (fun u H hH hle _=>UT.mput_m hc x () hH (⟨_,rfl,hz.le hle⟩) hs)) rfl (vo 27 rfl ?_));rintro _ H27 hs27 ⟨q27,rfl,hp27⟩;refine(Zfq∘ZZ) ?_;refine yj L (rs:=[.cell 6 35]) Z (fun _ _ h=>h) hs27 fun u H hH hle=>?_;exact⟨_,y7 Z,rfl,q27,rfl,hp27.le hle⟩
  ·refine Zbw (h:=?_);refine Pd 3 rfl fun b hb=>?_;refine(Zdk∘Zcg∘Zan∘Zai∘Zdq) ?_;refine z71 L rfl (fun u H hH hle=>UT.len_m hH (⟨_,rfl,ht.le hle⟩) h0) ?_;refine(ZN∘Z3∘Zz) ?_;refine z71 L rfl (fun u H hH _=>UT.new_ret _ hH) ?_;refine(Zeu∘Z6∘Zo∘Zn∘Zt∘Zai∘Zdq∘ZbN) ?_;refine z7 (xg (φ:=UT.MF cf (if (Tr.drop c x .nil).2=true then (Tr.drop c x .nil).1 else .nil)) L rfl rfl (zm rfl) rfl rfl rfl UT.MA.mono (fun u H hH hle _=>UT.mdrop_m hc x hH (⟨_,rfl,hz.le hle⟩) T)) rfl (vo 20 rfl ?_);rintro _ H20 hs20 ⟨q20,rfl,hp20⟩;refine(Zfq∘ZZ) ?_;refine yj L (rs:=[.cell 6 35]) Z (fun _ _ h=>h) hs20 fun u H hH hle=>?_;exact⟨_,y7 Z,rfl,q20,rfl,hp20.le hle⟩
 ·obtain rfl:f=.func (.func cf) #[] #[]:=by
   rcases hf with h | ⟨_,h⟩
   ·exact h
   ·subst h;exact ni rfl h0
  refine yr Tryz.func105 Z Tryz.ntmps105 (np Z) hB ?_;unfold chT;cases d
  ·refine Zbw (h:=?_);refine Pd 3 rfl fun b hb=>?_;refine(Zdk∘Zcg∘Zan∘Zai∘Zdq∘ZeU∘Zdz∘Z6∘Zo∘Zx∘Z1∘Zai∘Zdq∘ZbN) ?_;refine z7 (yv (cs:=[]) rfl rfl zjz rfl rfl) rfl (z7 (xg (φ:=UT.MF cf (Tr.put c x () t)) L rfl rfl (zm rfl) rfl rfl rfl UT.MA.mono (fun u H hH hle _=>UT.mput_m hc x () hH (⟨_,rfl,ht.le hle⟩) hs)) rfl (vo 27 rfl ?_));rintro _ H27 hs27 ⟨q27,rfl,hp27⟩;refine(Zfq∘ZZ) ?_;refine yj L (rs:=[.cell 6 35]) Z (fun _ _ h=>h) hs27 fun u H hH hle=>?_;exact⟨_,y7 Z,rfl,q27,rfl,hp27.le hle⟩
  ·refine Zbw (h:=?_);refine Pd 3 rfl fun b hb=>?_;refine(Zdk∘Zcg∘Zan∘Zai∘Zdq∘ZeU∘Zdz∘Z6∘Zo∘Zn∘Zt∘Zai∘Zdq∘ZbN) ?_;refine z7 (xg (φ:=UT.MF cf (if (Tr.drop c x t).2=true then (Tr.drop c x t).1 else t)) L rfl rfl (zm rfl) rfl rfl rfl UT.MA.mono (fun u H hH hle _=>UT.mdrop_m hc x hH (⟨_,rfl,ht.le hle⟩) T)) rfl (vo 20 rfl ?_);rintro _ H20 hs20 ⟨q20,rfl,hp20⟩;refine(Zfq∘ZZ) ?_;refine yj L (rs:=[.cell 6 35]) Z (fun _ _ h=>h) hs20 fun u H hH hle=>?_;exact⟨_,y7 Z,rfl,q20,rfl,hp20.le hle⟩
end Go.V.L6
end
