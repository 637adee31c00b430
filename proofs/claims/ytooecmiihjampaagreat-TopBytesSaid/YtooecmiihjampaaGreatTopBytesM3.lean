/- Texts, part 3. -/
import Derived.Test.YtooecmiihjampaaGreatTopBytesM2
import Derived.Laws.IdiomRangeMap
import Derived.Lib.Builder
import Derived.Lib.UnsafeStr
set_option linter.unusedVariables false
set_option linter.unusedSimpArgs false
set_option maxRecDepth 20000
set_option maxHeartbeats 8000000
set_option linter.defProp false
open Go.Proofs Go.RowKit
section
variable{bs:List Nat}{b bb cf ck d f i lim m n off q rb:Nat}{P:Go.Program}{F:Go.V.Fr}{B H:Go.V.Heap}{ops:Array Go.Oper}{O:Go.V.Boxes}{κ:Go.V.Kap}{o:Go.Oper}{fv root sv v:Go.Value}{e et kt t t' ty:Go.TypeId}{s str:ByteArray}{args cap cs fst xs z:List Go.Value}{fu:Bool}{R:Go.V.L4.Rd}{a:Go.Act}{u w:Go.World}{C:Nat->Prop}{stop:Go.V.wl->Bool}{x y:Go.Operand}{pre:Go.V.wl}{pos:String}{aft:Array Go.Edge}{g:Option (Nat×Bool)}{ztg:Go.Exit->Go.Act->Go.World->Prop}{p:Option Go.Addr}{at_ tts:Array Go.TypeId}{vs:List (Nat×Go.Value)}{φ ψ:Go.Value->Go.V.Heap->Prop}{kd:Go.IntKind}{os:List Go.Oper}{α:Type}{fp:Nat->Nat->Prop}{parts:Array (Nat×Go.Operand)}{places:List (Nat×Nat)}{l:List Go.V.L2.U}{fr:Nat×Nat}{A Y:Prop}
section
open Go.V
attribute [local irreducible] Has N Par Ret RetL RetO RetT RetX RetY Src StepOK V VO X kx
namespace Go.V.L4
def _root_.Zz(t:Wr Y->A:=by intro h;refine z7 (zo L Z Z Z Z) Z ?_;exact h.1)(h:Y):A:=t ⟨h⟩
def _root_.ZbY(t:Wr Y->A:=by intro h;refine z8 (zo L Z Z Z Z) Z ?_;exact h.1)(h:Y):A:=t ⟨h⟩
def _root_.ZeK(t:Wr Y->A:=by intro h;refine z7 (yc Z Z Z) Z ?_;exact h.1)(h:Y):A:=t ⟨h⟩
def _root_.Z7(t:Wr Y->A:=by intro h;refine z7 (ya Z Z Z Z M) Z ?_;exact h.1)(h:Y):A:=t ⟨h⟩
def _root_.Zfo(t:Wr Y->A:=by intro h;refine yd (qg L (q:=900) Z Z Z Z) ?_;exact h.1)(h:Y):A:=t ⟨h⟩
def _root_.ZdL(t:Wr Y->A:=by intro h;refine z8 (yc Z Z Z) Z ?_;exact h.1)(h:Y):A:=t ⟨h⟩
def _root_.Zec(t:Wr Y->A:=by intro h;refine z7 (Xv Z Z Z Z (xb T T)) Z ?_;exact h.1)(h:Y):A:=t ⟨h⟩
def _root_.Zdp(t:Wr Y->A:=by intro h;refine qz (qg L (q:=900) Z Z Z Z) Z Z ?_;exact h.1)(h:Y):A:=t ⟨h⟩
def _root_.Za5(t:Wr Y->A:=by intro h;refine ze (id:=14) ?_;exact h.1)(h:Y):A:=t ⟨h⟩
def _root_.Zc2(t:Wr Y->A:=by intro h;refine z8 (yt Z Z Z Z (ng T)) Z ?_;exact h.1)(h:Y):A:=t ⟨h⟩
def _root_.Zak(t:Wr Y->A:=by intro h;refine ze (id:=13) ?_;exact h.1)(h:Y):A:=t ⟨h⟩
def _root_.Zao(t:Wr Y->A:=by intro h;refine ze (id:=15) ?_;exact h.1)(h:Y):A:=t ⟨h⟩
def _root_.Zar(t:Wr Y->A:=by intro h;refine ze (id:=16) ?_;exact h.1)(h:Y):A:=t ⟨h⟩
def _root_.Zde(t:Wr Y->A:=by intro h;refine z8 (yt Z Z Z Z (nf T)) Z ?_;exact h.1)(h:Y):A:=t ⟨h⟩
def _root_.ZcA(t:Wr Y->A:=by intro h;refine z7 (X0 L Z Z Z Z) Z ?_;exact h.1)(h:Y):A:=t ⟨h⟩
def _root_.ZdM(t:Wr Y->A:=by intro h;refine qo (id:=5) [(200012,[900]),(200016,[900])] ki J ?_;exact h.1)(h:Y):A:=t ⟨h⟩
def _root_.Zdf(t:Wr Y->A:=by intro h;refine z8 (X0 L Z Z Z Z) Z ?_;exact h.1)(h:Y):A:=t ⟨h⟩
def _root_.Zd0(t:Wr Y->A:=by intro h;refine z8 (Mc L Z Z Z Z Z) Z ?_;exact h.1)(h:Y):A:=t ⟨h⟩
def _root_.Zed(t:Wr Y->A:=by intro h;refine qo (id:=8) [(200029,[900]),(200033,[900])] ki J ?_;exact h.1)(h:Y):A:=t ⟨h⟩
def _root_.Zer(t:Wr Y->A:=by intro h;refine z7 (X8 Z Z Z Z M) Z ?_;exact h.1)(h:Y):A:=t ⟨h⟩
def _root_.Ze5(t:Wr Y->A:=by intro h;refine z7 (Qy Z Z Z Z T M) Z ?_;exact h.1)(h:Y):A:=t ⟨h⟩
def _root_.Zes(t:Wr Y->A:=by intro h;refine z7 (znd Z Z Z Z M) Z ?_;exact h.1)(h:Y):A:=t ⟨h⟩
def _root_.ZeL(t:Wr Y->A:=by intro h;refine z7 (u0 Z Z Z Z zow Z) Z ?_;exact h.1)(h:Y):A:=t ⟨h⟩
def _root_.ZdF(t:Wr Y->A:=by intro h;refine zja Z ?_;exact h.1)(h:Y):A:=t ⟨h⟩
def _root_.Zap(t:Wr Y->A:=by exact fun h=>(ZeK∘Zz) h.1)(h:Y):A:=t ⟨h⟩
def _root_.ZbN(t:Wr Y->A:=by exact fun h=>(ZdL∘ZbY) h.1)(h:Y):A:=t ⟨h⟩
def _root_.ZS(t:Wr Y->A:=by exact fun h=>(Zap∘Zfo) h.1)(h:Y):A:=t ⟨h⟩
def _root_.ZaK(t:Wr Y->A:=by exact fun h=>(Zl∘ZbN) h.1)(h:Y):A:=t ⟨h⟩
def _root_.ZaZ(t:Wr Y->A:=by exact fun h=>(Zck∘Zbz) h.1)(h:Y):A:=t ⟨h⟩
def _root_.Zal(t:Wr Y->A:=by exact fun h=>(ZM∘Za) h.1)(h:Y):A:=t ⟨h⟩
def _root_.ZaU(t:Wr Y->A:=by exact fun h=>(ZaK∘Zdp) h.1)(h:Y):A:=t ⟨h⟩
def _root_.Zbn(t:Wr Y->A:=by exact fun h=>(Ze∘Zs) h.1)(h:Y):A:=t ⟨h⟩
def _root_.Zbo(t:Wr Y->A:=by exact fun h=>(ZaM∘ZaZ) h.1)(h:Y):A:=t ⟨h⟩
def _root_.Zbt(t:Wr Y->A:=by exact fun h=>(Zb∘Zb) h.1)(h:Y):A:=t ⟨h⟩
def _root_.Zb4(t:Wr Y->A:=by exact fun h=>(Zb∘ZS) h.1)(h:Y):A:=t ⟨h⟩
def _root_.ZbG(t:Wr Y->A:=by exact fun h=>(Za5∘Za) h.1)(h:Y):A:=t ⟨h⟩
abbrev uz:TypeId:=120
abbrev kg(b:Nat):Value:=.pointer (some ⟨b,0,none⟩)
abbrev Qd:TypeId:=5
abbrev BsV(bs:List Nat)(fu:Bool):Value->Heap->Prop:=SlV Qd 1 (bs.map fun b:Nat=>Value.int .u8 (b:Int)) bs.length fu
abbrev rdC(sv:Value)(R:Rd):List Value:=[sv,.int .i64 R.at_,.int .i64 R.bad,.int .i64 R.err]
abbrev GRd(rb:Nat)(sv:Value)(R:Rd):GR:=xc rb (rdC sv R) uz
def znn{b:Nat}(h:bs[i]?=some b):((bs.map fun b:Nat=>Value.int .u8 (b:Int)).drop (i*1)).take 1=[.int .u8 (b:Int)]:=by
 rw[zqi,zp3 (by rw[my];exact get_lt h),zq8,zpv,List.getElem_map];congr 2;rw[ln h]
def _root_.Go.V.StepOKR.seeV{s:Nat}(h:StepOKR P F B n ops O κ o q d (.is v))(hv:SlV e s xs m fu v B):StepOKR P F B n ops O κ o q d (.sat (SlV e s xs m fu)):=fun κ' a u hl hq hh=>
 After.mono (fun a' u' hh'=>by
  have h2:=hh'.seen (t:=d) (SlV e s xs m fu) (xn _ _ _) ns hv
  rwa [j8] at h2) (h κ' a u hl hq hh)
def od{a:Nat}{e:Int}(hB:zth B w)(hr:(GRd rb sv R).P B w C)(hC:ZCB C w B):
  kx zti 116 [kg rb,.int .i64 a,.int .i64 e] w B C (GRd rb sv (R.fail a e)):=by
 unfold kx;refine xa 900 (GRd rb sv R) Tryz.func116 Z Tryz.ntmps116 (np Z) hB hr hC ?_;rw[xd];obtain⟨at_,bad,err⟩:=R;by_cases h0:err=0
 ·subst h0;refine(ZP∘Za∘ZS) ?_;refine z7 (yt Z Z Z Z Z) Z ((Zw∘ZE∘Zbt∘Zap) ?_);refine xl (yo L (q:=900) (cs':=[sv,.int .i64 at_,.int .i64 a,.int .i64 0]) Z Z Z Z Z) (Zap (h:=?_));refine xl (yo L (q:=900) (cs':=[sv,.int .i64 at_,.int .i64 a,.int .i64 e]) Z Z Z Z Z) (Zac (h:=?_));exact xu L 900 (r:=xc rb _ uz) Z (fun _ _ h=>h) nq Z Z
 ·have hf:(⟨at_,bad,err⟩:Rd).fail a e=⟨at_,bad,err⟩:=nc h0;refine(ZP∘Za∘ZS∘Zx∘Zae) ?_;exact xu L 900 (r:=xc rb _ uz) Z (fun _ _ h=>h) nq Z (by rw[hf])
def ke{f:Bool}(hf:decide (R.err≠0)=f)(hB:zth B w)(hr:(GRd rb sv R).P B w C)(hC:ZCB C w B):
  RetX zti 65 [kg rb] w B C (GRd rb sv R) (.bool f):=by
 subst hf;unfold RetX;refine xa 900 (GRd rb sv R) Tryz.func65 Z Tryz.ntmps65 (np Z) hB hr hC ?_;rw[xd];obtain⟨at_,bad,err⟩:=R;refine(Z4∘Za∘ZeL∘Zb4) ?_;refine z7 (Dc Z Z Z Z Z) Z ((Zh∘Zc) ?_);exact xv L 900 (r:=xc rb _ uz) (rs:=[.tmp 2]) Z (fun _ _ h=>h) nq Z Z (fun _=>rfl)
def Fa{bs:List Nat}(hb:∀ b∈bs,b<=255)(hl:bs.length<=1099511627776)(hat:R.at_<=bs.length)(hB:zth B w)(hs:BsV bs fu sv B)(hr:(GRd rb sv R).P B w C)(hC:ZCB C w B):
  RetX zti 115 [kg rb] w B C (GRd rb sv (Mg bs R).2) (.int .u64 ((Mg bs R).1:Nat)):=by
 obtain⟨p,c,rfl⟩:=jh hs;unfold RetX;refine xa 900 (GRd rb _ R) Tryz.func115 Z Tryz.ntmps115 (np Z) hB hr hC ?_;rw[xd];obtain⟨z,hz⟩:∃ z,Mg bs R=z:=⟨_,rfl⟩
 rw[hz];refine(Z4∘Zj∘Zy∘Zdl) ?_;refine xm (fun x:Nat×Nat×Rd=>[(0,.is (kg rb)),(3,.is (.int .u64 x.2.1)),(6,.is (.int .i64 x.1)),(900,.own (xp rb (rdC (.slice p bs.length c) x.2.2) uz))]) (fun x=>x.1<=10/\x.2.1<128^x.1/\x.2.2.at_<=bs.length/\Ux bs (10-x.1) x.1 x.2.1 x.2.2=z) (fun x=>10-x.1) (0,0,R) ⟨mc _,by show(0:Nat)<128^0;decide,hat,hz⟩ ⟨Z,Z,Z,Z,nm⟩ ?_;rintro⟨i,acc,⟨at_,bad,err⟩⟩ ⟨hi,hacc,ha,hn⟩;dsimp only[rdC] at hi hacc ha hn |-;by_cases hlt:i<10
 ·obtain⟨f,hf⟩:∃ f,10-i=f+1:=⟨9-i,by omega⟩
  rw[hf] at hn;unfold Ux at hn
  cases hg:bs[at_]? with
  | none=>
   have hal:at_=bs.length:=by have:=List.getElem?_eq_none_iff.1 hg;omega
   subst hal;dsimp only at hn;rw[hg] at hn;subst hn;refine(Zbl∘Z6∘Z0∘Zj∘ZdM∘ZaU∘ZaU∘Zdf∘Zde∘ZbW∘Zbn∘Zb4∘ZcA) ?_;refine qe (yx L 900 (GRd rb (.slice p bs.length c) ((⟨bs.length,bad,err⟩:Rd).fail bs.length 17)) (r:=GRd rb (.slice p bs.length c) ⟨bs.length,bad,err⟩) Z Z Z Z Z (fun u H C2 hH _ hr2 hC2=>od hH hr2 hC2)) ((Zi∘ZC∘Zc) ?_);exact xv L 900 (r:=xc rb _ uz) (rs:=[.tmp 2]) Z (fun _ _ h=>h) nq Z Z (fun _=>rfl)
  | some b=>
   have hb255:b<=255:=hb b (zpa hg);have hcr:=znn hg;have hlt2:=get_lt hg;dsimp only at hn;rw[hg] at hn;dsimp only at hn;by_cases hbad:i=9/\b≠1\/0<i/\b=0
   ·rw[na hbad] at hn;subst hn;by_cases h9:i=9/\b≠1
    ·obtain⟨h9,h91⟩:=h9;refine(Zbl∘Z6∘Z0∘Zj∘ZdM∘ZaU∘ZaU∘Zdf∘Zc2∘ZaN∘Zaf∘Zed∘ZaK) ?_;refine qz (StepOKR.seeV (qg L (q:=900) Z Z Z Z) hs) Z Z ((ZaU∘Zdn∘Zd0∘Zbo∘Ze∘Zal∘ZW∘Zb∘ZcN∘Zh∘Zaz∘Zb0∘Zbb∘ZI∘Zb4) ?_);refine qe (yx L 900 (GRd rb (.slice p bs.length c) ((⟨at_,bad,err⟩:Rd).fail at_ 5)) (r:=GRd rb (.slice p bs.length c) ⟨at_,bad,err⟩) Z Z Z Z Z (fun u H C2 hH _ hr2 hC2=>od hH hr2 hC2)) ((Zi∘ZY∘Zc) ?_);exact xv L 900 (r:=xc rb _ uz) (rs:=[.tmp 2]) Z (fun _ _ h=>h) nq Z Z (fun _=>rfl)
    ·have h10:0<i/\b=0:=T;obtain⟨h10,h0b⟩:=h10;by_cases h9:i=9
     ·exfalso;omega
     ·refine(Zbl∘Z6∘Z0∘Zj∘ZdM∘ZaU∘ZaU∘Zdf∘Zc2∘ZaN∘Zaf∘Zed∘ZaK) ?_;refine qz (StepOKR.seeV (qg L (q:=900) Z Z Z Z) hs) Z Z ((ZaU∘Zdn∘Zd0∘Zbo∘Ze∘Zal∘Zx∘ZcE∘ZbC∘ZO∘Zb∘ZW∘Zh∘Zbb∘ZI∘Zb4) ?_);refine qe (yx L 900 (GRd rb (.slice p bs.length c) ((⟨at_,bad,err⟩:Rd).fail at_ 5)) (r:=GRd rb (.slice p bs.length c) ⟨at_,bad,err⟩) Z Z Z Z Z (fun u H C2 hH _ hr2 hC2=>od hH hr2 hC2)) ((Zi∘ZY∘Zc) ?_);exact xv L 900 (r:=xc rb _ uz) (rs:=[.tmp 2]) Z (fun _ _ h=>h) nq Z Z (fun _=>rfl)
   ·rw[nc hbad] at hn;have hw1:IntKind.i64.wrap ((at_:Int)+1)=((at_+1:Nat):Int):=xb T T;have hand:=zi9 hb255;have hcv:IntKind.u64.wrap ((b%128:Nat):Int)=((b%128:Nat):Int):=wrap_u64 T T;have hpw:128^i<=128^9:=zsq E T
    have hnx:acc+b%128*128^i<2^64:=by
     by_cases h9:i=9
     ·have hb1:b=1:=T;subst h9;subst hb1;have:(128:Nat)^9=9223372036854775808:=E;omega
     ·have h1:=Sk (b:=b) hacc;have h2:128^(i+1)<=128^9:=zsq E T;have:(128:Nat)^9=9223372036854775808:=E;omega
    have hsh:IntKind.u64.wrap (((b%128:Nat):Int)*2^min (7*(i:Int)).toNat IntKind.u64.bits)=((b%128*128^i:Nat):Int):=by
     have e1:min (7*(i:Int)).toNat IntKind.u64.bits=7*i:=by
      show min (7*(i:Int)).toNat 64=7*i;omega
     rw[e1,show((b%128:Nat):Int)*2^(7*i)=((b%128*128^i:Nat):Int) by rw[Og];push_cast;rfl];exact wrap_u64 T T
    have hor:bits .or .u64 (acc:Int) ((b%128*128^i:Nat):Int)=((acc+b%128*128^i:Nat):Int):=by
     rw[bits_or_u64_nat _ _ T T];congr 1;have:=zfm (a:=acc) (b:=b%128) (i:=7*i) (by rw[<-Og];exact hacc)
     rwa [<-Og] at this
    have hwk:IntKind.i64.wrap ((i:Int)+1)=((i+1:Nat):Int):=xb T T;have hnl:=Sk (b:=b) hacc;generalize b%128*128^i=sh at hn hsh hor hnx hnl;by_cases hlast:b<128
    ·rw[na hlast] at hn;subst hn;by_cases h9:i=9
     ·have hb1:b=1:=T;subst hb1;refine(Zbl∘Z6∘Z0∘Zj∘ZdM∘ZaU∘ZaU∘Zdf∘Zc2∘ZaN∘Zaf∘Zed∘ZaK) ?_;refine qz (StepOKR.seeV (qg L (q:=900) Z Z Z Z) hs) Z Z ((ZaU∘Zdn∘Zd0∘Zbo∘Ze∘Zal∘ZW∘Zb∘Zaq∘ZbC∘ZO∘Zb∘Zx∘Zh∘ZbX∘Zaa∘Za∘ZS∘Z7∘Zap) ?_);refine xl (yo L (q:=900) (cs':=[.slice p bs.length c,.int .i64 (at_+1:Nat),.int .i64 bad,.int .i64 err]) Z Z Z Z Z) ((Zi∘Zak∘Zb∘Zer) ?_);refine z7 (ko Z Z Z oq.1 oq.2 (wrap_u64 T T)) Z ((Za∘Zec∘Ze5∘Zes∘Zd∘ZbG∘ZbD∘Zel∘ZdF∘ZdZ∘Zdk∘Zbz∘Zar∘Za∘Zc) ?_);exact xv L 900 (r:=xc rb _ uz) (rs:=[.tmp 2]) Z (fun _ _ h=>h) nq Z Z (fun _=>rfl)
     ·by_cases h0:0<i
      ·have hb0:b≠0:=T;refine(Zbl∘Z6∘Z0∘Zj∘ZdM∘ZaU∘ZaU∘Zdf∘Zc2∘ZaN∘Zaf∘Zed∘ZaK) ?_;refine qz (StepOKR.seeV (qg L (q:=900) Z Z Z Z) hs) Z Z ((ZaU∘Zdn∘Zd0∘Zbo∘Ze∘Zal∘Zx∘ZcE∘ZbC∘ZO∘Zb∘Zx∘Zh∘ZbX∘Zaa∘Za∘ZS∘Z7∘Zap) ?_);refine xl (yo L (q:=900) (cs':=[.slice p bs.length c,.int .i64 (at_+1:Nat),.int .i64 bad,.int .i64 err]) Z Z Z Z Z) ((Zi∘Zak∘Zb∘Zer) ?_);refine z7 (ko Z Z Z oq.1 oq.2 (wrap_u64 T T)) Z ((Za∘Zec∘Ze5∘Zes∘Zd∘ZbG∘ZbD∘Zel∘ZdF∘ZdZ∘Zdk∘Zbz∘Zar∘Za∘Zc) ?_);exact xv L 900 (r:=xc rb _ uz) (rs:=[.tmp 2]) Z (fun _ _ h=>h) nq Z Z (fun _=>rfl)
      ·refine(Zbl∘Z6∘Z0∘Zj∘ZdM∘ZaU∘ZaU∘Zdf∘Zc2∘ZaN∘Zaf∘Zed∘ZaK) ?_;refine qz (StepOKR.seeV (qg L (q:=900) Z Z Z Z) hs) Z Z ((ZaU∘Zdn∘Zd0∘Zbo∘Ze∘Zal∘Zx∘ZcE∘ZbC∘ZL∘ZcE∘Zh∘ZbX∘Zaa∘Za∘ZS∘Z7∘Zap) ?_);refine xl (yo L (q:=900) (cs':=[.slice p bs.length c,.int .i64 (at_+1:Nat),.int .i64 bad,.int .i64 err]) Z Z Z Z Z) ((Zi∘Zak∘Zb∘Zer) ?_);refine z7 (ko Z Z Z oq.1 oq.2 (wrap_u64 T T)) Z ((Za∘Zec∘Ze5∘Zes∘Zd∘ZbG∘ZbD∘Zel∘ZdF∘ZdZ∘Zdk∘Zbz∘Zar∘Za∘Zc) ?_);exact xv L 900 (r:=xc rb _ uz) (rs:=[.tmp 2]) Z (fun _ _ h=>h) nq Z Z (fun _=>rfl)
    ·rw[nc hlast] at hn;have h9:i≠9:=T;have hf9:f=10-(i+1):=T;rw[hf9] at hn;by_cases h0:0<i
     ·have hb0:b≠0:=T;refine(Zbl∘Z6∘Z0∘Zj∘ZdM∘ZaU∘ZaU∘Zdf∘Zc2∘ZaN∘Zaf∘Zed∘ZaK) ?_;refine qz (StepOKR.seeV (qg L (q:=900) Z Z Z Z) hs) Z Z ((ZaU∘Zdn∘Zd0∘Zbo∘Ze∘Zal∘Zx∘ZcE∘ZbC∘ZO∘Zb∘Zx∘Zh∘ZbX∘Zaa∘Za∘ZS∘Z7∘Zap) ?_);refine xl (yo L (q:=900) (cs':=[.slice p bs.length c,.int .i64 (at_+1:Nat),.int .i64 bad,.int .i64 err]) Z Z Z Z Z) ((Zi∘Zak∘Zb∘Zer) ?_);refine z7 (ko Z Z Z oq.1 oq.2 (wrap_u64 T T)) Z ((Za∘Zec∘Ze5∘Zes∘Zd∘ZbG∘ZJ∘Zch∘Zao∘Z7∘Zc1) ?_);exact ym (x:=(i,acc,⟨at_,bad,err⟩)) (i+1,acc+sh,⟨at_+1,bad,err⟩) ⟨hlt,hnl,hlt2,hn⟩ G ⟨Z,Z,Z,Z,nm⟩
     ·refine(Zbl∘Z6∘Z0∘Zj∘ZdM∘ZaU∘ZaU∘Zdf∘Zc2∘ZaN∘Zaf∘Zed∘ZaK) ?_;refine qz (StepOKR.seeV (qg L (q:=900) Z Z Z Z) hs) Z Z ((ZaU∘Zdn∘Zd0∘Zbo∘Ze∘Zal∘Zx∘ZcE∘ZbC∘ZL∘ZcE∘Zh∘ZbX∘Zaa∘Za∘ZS∘Z7∘Zap) ?_);refine xl (yo L (q:=900) (cs':=[.slice p bs.length c,.int .i64 (at_+1:Nat),.int .i64 bad,.int .i64 err]) Z Z Z Z Z) ((Zi∘Zak∘Zb∘Zer) ?_);refine z7 (ko Z Z Z oq.1 oq.2 (wrap_u64 T T)) Z ((Za∘Zec∘Ze5∘Zes∘Zd∘ZbG∘ZJ∘Zch∘Zao∘Z7∘Zc1) ?_);exact ym (x:=(i,acc,⟨at_,bad,err⟩)) (i+1,acc+sh,⟨at_+1,bad,err⟩) ⟨hlt,hnl,hlt2,hn⟩ G ⟨Z,Z,Z,Z,nm⟩
 ·have hf:10-i=0:=T;rw[hf] at hn;unfold Ux at hn;subst hn;refine(Zbl∘Zav∘Zar∘Za∘Zc) ?_;exact xv L 900 (r:=xc rb _ uz) (rs:=[.tmp 2]) Z (fun _ _ h=>h) nq Z Z (fun _=>rfl)
end Go.V.L4
namespace Go.V.L11
open Go.V.L2 Go.V.L4
def _root_.ZcU(t:Wr Y->A:=by intro h;refine z8 (ya Z Z Z Z (xb T T)) Z ?_;exact h.1)(h:Y):A:=t ⟨h⟩
def _root_.Zd1(t:Wr Y->A:=by intro h;refine yd (qg L (q:=78) Z Z Z Z) ?_;exact h.1)(h:Y):A:=t ⟨h⟩
def _root_.ZeM(t:Wr Y->A:=by intro h;refine qz (qg L (q:=78) Z Z Z Z) Z Z ?_;exact h.1)(h:Y):A:=t ⟨h⟩
def _root_.Zdq(t:Wr Y->A:=by exact fun h=>(Zda∘Zbi) h.1)(h:Y):A:=t ⟨h⟩
def _root_.ZcL(t:Wr Y->A:=by exact fun h=>(Zdq∘ZH) h.1)(h:Y):A:=t ⟨h⟩
def _root_.ZbO(t:Wr Y->A:=by exact fun h=>(Zw∘ZcL) h.1)(h:Y):A:=t ⟨h⟩
def _root_.ZbZ(t:Wr Y->A:=by exact fun h=>(Zb3∘Zw) h.1)(h:Y):A:=t ⟨h⟩
abbrev Kt:Nat:=9
abbrev ug(l:List ByteArray):wl:=l.map fun x=>[Value.string x]
def zll{c:UInt8}:∀ {l:List UInt8},c∉l->Lib.indexByte l c= -1
 | [],_=>rfl
 | x::l,h=>by
  rw[ma,not_or] at h;unfold Lib.indexByte;rw[nc (by simpa using Ne.symm h.1),zll h.2];rfl
def zf0{c:UInt8}{q:List UInt8}:∀ {p:List UInt8},c∉p->Lib.indexByte (p++c::q) c=(p.length:Int)
 | [],_=>by
  show Lib.indexByte (c::q) c=0;unfold Lib.indexByte;rw[na (by simp)]
 | x::p,h=>by
  rw[ma,not_or] at h;show Lib.indexByte (x::(p++c::q)) c=_;unfold Lib.indexByte;rw[nc (by simpa using Ne.symm h.1),zf0 h.2,nc (by simp)];rfl
def sw{k:Int}(hk:Lib.indexByte s.data.toList 10=k)(hB:zth B w):
  Ret zti 242 [.string s,.int .u8 10] w B (fun v _=>v=.int .i64 k):=by
 subst hk;exact Ret.of_same hB (Tryz.strings_IndexByte s 10 w)
def Rw{r:ByteArray}{f:Bool}(hs:s.size<=9223372036854775807)(h:Lib.hasSuffix s.data.toList [10]=f)(hr:(⟨(Lib.trimSuffix s.data.toList [10]).toArray⟩:ByteArray)=r)(hB:zth B w):
  Ret zti 131 [.string s,.string ⟨#[10]⟩] w B (fun v _=>v=.tuple #[.string r,.bool f]):=by
 subst h hr;exact Ret.of_same hB (Tryz.strings_CutSuffix s ⟨#[10]⟩ w hs)
def Ev{x:List Value}{xs:wl}(h:stop (pre++[x])=false):jn stop pre (x::xs)=jn stop (pre++[x]) xs:=by
 simp only[jn];rw[nc (by rw[h];decide)]
def K4{x:List Value}{xs:wl}(h:stop (pre++[x])=true):jn stop pre (x::xs)=pre++[x]:=by
 simp only[jn];rw[na h]
def zcw{r:ByteArray}(h:r≠⟨#[]⟩):0<r.size:=by
 rcases Nat.eq_zero_or_pos r.size with h0 | h0
 ·exfalso;apply h;apply dp;have:=ue r;rw[h0] at this;exact m7 this
 ·exact h0
def zcv(hs:s.size<=1099511627776)(hB:zth B w):zmf zti 241 [kg b] (xc b [.string s] Kt) w B (ug (a8 s)):=by
 intro ly ztc stop C Cg hst hY hJ hC hg hCg hd;refine xa 77 (gj (ztc []) (xc b [.string s] Kt)) Tryz.func241 Z Tryz.ntmps241 (np Z) hB ⟨C,Cg,hJ,hg,fun _=>Iff.rfl,hd⟩ (fun k hk=>hk.elim (hC k) (hCg k)) ?_;rw[w8];refine v8 77 78 rfl (fun _ _ _ _ _ h=>h) ?_;rw[xd];refine Zam (h:=?_)
 refine xm (fun x:List ByteArray×ByteArray=>[(0,.is (.func (.yield ly) #[] #[])),(1,.is (kg b)),(77,.own (ztc (ug x.1)).res),(78,.own (xp b [.string x.2] Kt))])
  (fun x=>ug x.1++ug (a8 x.2)=ug (a8 s)/\jn stop [] (ug (a8 s))=jn stop (ug x.1) (ug (a8 x.2))/\stop (ug x.1)=false/\x.2.size<=s.size) (fun x=>x.2.size) ([],s) ⟨rfl,rfl,hst,nu _⟩ ⟨rfl,rfl,rfl,rfl,nm⟩ ?_
 rintro⟨pre,r⟩ ⟨h1,h2,h3,h4⟩;dsimp only at h1 h2 h3 h4 |-;by_cases hr:r=⟨#[]⟩
 ·subst hr;have h0:(⟨#[]⟩:ByteArray).size=0:=rfl;rw[Hi] at h2;refine(Ze∘ZP∘Zd1∘Zad∘ZL∘ZaL∘ZaD) ?_;refine xu (r:=ztc (ug pre)) (r':=ztc (jn stop [] (ug (a8 s)))) L 77 rfl (fun _ _ h=>h) nq Z (by rw[h2];rfl)
 ·have hp0:=zcw hr;rcases zgy r 10 with hn | ⟨a,c,hac,hn⟩
  ·have e1:=zh4 hn hr;rw[e1] at h1 h2;have hi:=zll hn;have hpre:ug pre++[[Value.string r]]<+:ug (a8 s):=by rw[<-h1];exact List.prefix_rfl
   cases hb':stop (ug pre++[[Value.string r]])
   ·refine(Ze∘ZP∘Zd1∘Zad∘ZO∘ZbO∘ZE∘Zj∘Z9∘Zd1) ?_;refine z71 L Z (fun u H hH _=>sw hi hH) ?_;refine(Zd∘ZA∘Za4∘ZaL∘Zt∘Zd1∘Zo) ?_;refine xl (yo L (q:=78) (cs':=[.string ⟨#[]⟩]) Z Z Z Z Z) ((Zi∘Zs∘Zb) ?_);refine qe (ux (gs:=77) hY hpre h3 (nh Bool.not hb') Z Z Z Z Z) ((Zr∘Zae∘Za7) ?_);refine ym (x:=(pre,r)) (pre++[r],⟨#[]⟩) ⟨?_,?_,?_,mc _⟩ hp0 ⟨Z,Z,?_,Z,nm⟩
    ·rw[Hi,<-h1];simp [ug]
    ·rw[h2,Hi];show jn stop (ug pre) [[Value.string r]]=jn stop (ug (pre++[r])) [];rw[Ev hb'];simp [ug]
    ·have:ug (pre++[r])=ug pre++[[Value.string r]]:=by simp [ug]
     rw[this];exact hb'
    ·have:ug (pre++[r])=ug pre++[[Value.string r]]:=by simp [ug]
     dsimp only;rw[this];rfl
   ·refine(Ze∘ZP∘Zd1∘Zad∘ZO∘ZbO∘ZE∘Zj∘Z9∘Zd1) ?_;refine z71 L Z (fun u H hH _=>sw hi hH) ?_;refine(Zd∘ZA∘Za4∘ZaL∘Zt∘Zd1∘Zo) ?_;refine xl (yo L (q:=78) (cs':=[.string ⟨#[]⟩]) Z Z Z Z Z) ((Zi∘Zs∘Zb) ?_);refine qe (ux (gs:=77) hY hpre h3 (nh Bool.not hb') Z Z Z Z Z) ((Zr∘Zw) ?_);exact jj L 77 rfl (fun _ _ h=>h) nq Z (by rw[h2];show _=ztc (jn stop (ug pre) [[Value.string r]]);rw[K4 hb'])
  ·have e1:a8 r=(a++sNl)::a8 c:=by rw[hac];exact Ri hn
   have hra:r.size=a.size+1+c.size:=by rw[hac,zpw,zpw];rfl
   have hi:Lib.indexByte r.data.toList 10=(a.size:Int):=by
    rw[hac,j7,j7,mn];show Lib.indexByte (a.data.toList++10::c.data.toList) 10=_;rw[zf0 hn,ue]
   have x1:r.extract 0 (a.size+1)=a++sNl:=by
    have:=zaj ⟨#[]⟩ (a++sNl) c 0 (a.size+1) rfl (by rw[zpw];show _=0+(a.size+1);omega);rw[hac];rw[show(a++⟨#[10]⟩++c:ByteArray)=⟨#[]⟩++(a++sNl)++c from dp (by simp [j7])];exact this
   have x2:r.extract (a.size+1) r.size=c:=by
    have:=zaj (a++sNl) c ⟨#[]⟩ (a.size+1) r.size (by rw[zpw];rfl) (by rw[zpw];exact hra);rw[show(a++sNl++c++⟨#[]⟩:ByteArray)=r from dp (by rw[hac];simp [j7])] at this;exact this
   rw[e1] at h1 h2
   have hpre:ug pre++[[Value.string (a++sNl)]]<+:ug (a8 s):=by
    rw[<-h1];exact⟨ug (a8 c),by simp [ug]⟩
   cases hb':stop (ug pre++[[Value.string (a++sNl)]])
   ·refine(Ze∘ZP∘Zd1∘Zad∘ZO∘ZbO∘ZE∘Zj∘Z9∘Zd1) ?_;refine z71 L Z (fun u H hH _=>sw hi hH) ?_;refine(Zd∘ZA∘ZbZ) ?_;refine qo (id:=4) [(200012,[78]),(200016,[78]),(100001,[78])] ki J ((ZeM∘Zl∘ZcU) ?_);refine z8 (sc L (kl:=.i64) (pl:=0) 0 (a.size+1) Z Z Z Z Z ⟨rfl,by omega⟩ T T x1) Z ?_;refine(ZeM∘Zl∘ZcU) ?_;refine z8 (sc L (kh:=.i64) (ph:=0) (a.size+1) _ Z Z Z Z ⟨rfl,by omega⟩ Z T T x2) Z ?_;refine ZaM (h:=?_);refine xo (yo L (q:=78) (cs':=[.string c]) Z Z Z Z Z) Z ((ZaZ∘Zs∘Zb) ?_);refine qe (ux (gs:=77) hY hpre h3 (nh Bool.not hb') Z Z Z Z Z) ((Zr∘Zae∘Za7) ?_);have e3:ug (pre++[a++sNl])=ug pre++[[Value.string (a++sNl)]]:=by simp [ug]
    refine ym (x:=(pre,r)) (pre++[a++sNl],c) ⟨?_,?_,?_,?_⟩ ?_ ⟨Z,Z,?_,Z,nm⟩
    ·rw[<-h1];simp [ug]
    ·rw[h2];show jn stop (ug pre) ([Value.string (a++sNl)]::ug (a8 c))=_;rw[Ev hb',e3]
    ·rw[e3];exact hb'
    ·dsimp only;omega
    ·dsimp only;omega
    ·dsimp only;rw[e3];rfl
   ·refine(Ze∘ZP∘Zd1∘Zad∘ZO∘ZbO∘ZE∘Zj∘Z9∘Zd1) ?_;refine z71 L Z (fun u H hH _=>sw hi hH) ?_;refine(Zd∘ZA∘ZbZ) ?_;refine qo (id:=4) [(200012,[78]),(200016,[78]),(100001,[78])] ki J ((ZeM∘Zl∘ZcU) ?_);refine z8 (sc L (kl:=.i64) (pl:=0) 0 (a.size+1) Z Z Z Z Z ⟨rfl,by omega⟩ T T x1) Z ?_;refine(ZeM∘Zl∘ZcU) ?_;refine z8 (sc L (kh:=.i64) (ph:=0) (a.size+1) _ Z Z Z Z ⟨rfl,by omega⟩ Z T T x2) Z ?_;refine ZaM (h:=?_);refine xo (yo L (q:=78) (cs':=[.string c]) Z Z Z Z Z) Z ((ZaZ∘Zs∘Zb) ?_);refine qe (ux (gs:=77) hY hpre h3 (nh Bool.not hb') Z Z Z Z Z) ((Zr∘Zw) ?_);exact jj L 77 rfl (fun _ _ h=>h) nq Z (by rw[h2];show _=ztc (jn stop (ug pre) ([Value.string (a++sNl)]::ug (a8 c)));rw[K4 hb'])
end Go.V.L11
end
namespace Go.V
def SlX(e:TypeId)(s cap n:Nat)(xs:List Value):Res where
 P x _ u C:=xs.length=n*s/\∃ b rest,x=.slice (some ⟨b,0,none⟩) n cap/\u.heap[b]?=some (.cells (xs++rest).toArray e)/\n<=cap/\cap<=maxLen/\(xs++rest).length=cap*s/\∀ k,C k↔k=b
 st:=fun⟨hl,b,rest,h1,h2,h3,h4,h5,h6⟩ _ _ _ hk=>⟨hl,b,rest,h1,(hk b ((h6 b).2 rfl)).trans h2,h3,h4,h5,h6⟩
section
def Xx(L:Tabs P){kl kc:IntKind}{s by_:Nat}(c:Nat){p:Int}(hn:Nat.blt d n=true)(hg:gK ops κ ⟨some d,.makeSlice t x y,ty,pos,aft,g⟩=some true)(ht:L.sl t=some e)(he:elI P e=some (s,by_))
  (hx:evK κ x=some (.int kl 0)) (hy:evK κ y=some (.int kc p)) (hp:p=c) (hb:by_*c<=281474976710656) (hc:c<=maxLen):StepOK P F B n ops O κ ⟨some d,.makeSlice t x y,ty,pos,aft,g⟩ d (.own (SlX e s c 0 [])):=by
 rintro κ' a u hl ⟨H,fp,hh⟩;unfold After;rw[na (xj hh hl hg)];have en:=hh.env hl;obtain⟨i,z,hi,hz,hs1,hs2,hs3,hs4⟩:=uf he;have h1:=en.is_ x _ (by simp [Op.operands]) hx;have h2:=en.is_ y _ (by simp [Op.operands]) hy;subst hp
 have hb':(i.bytes:Int)*(c:Int)<=281474976710656:=by
  have h:((by_*c:Nat):Int)<=281474976710656:=T;rw[hs2];rwa [Int.natCast_mul] at h
 have h63:(c:Int)<=9223372036854775807:=by simp [maxLen] at hc;omega
 have hr:=run_make (P:=P) u t e i z (Tabs.sl_spec ht) hi hz kl kc 0 c (zqy _) T hb' h63;simp only[Int.toNat_zero,zpu] at hr
 have hrun:(execOp a.eval ⟨some d,.makeSlice t x y,ty,pos,aft,g⟩).run P u=.ok (.value (.slice (some ⟨u.heap.size,0,none⟩) 0 c)) (u.alloc (.cells (madeCells z.cells (c*i.size)) e)):=by
  simp only[execOp,h1,h2,nw,hr,ny];rfl
 rw[hrun];simp only[Upon];have hg2:=hh.grow (Grow.hid hh.sub (.cells (madeCells z.cells (c*i.size)) e));refine⟨H,_,hg2.putR (C:=fun k=>k=u.heap.size) (by simp [Act.put]) Z (fun t ht=>xr ht) ⟨by simp,u.heap.size,(madeCells z.cells (c*i.size)).toList,xz (by rw[hh.size];exact zm hn),by rw[xy];simp,mc _,hc,by simp [size_madeCells,hs1],fun _=>Iff.rfl⟩ (fun k hk=>?_) fun t r' _ ht k hf hk=>?_⟩
 ·subst hk;exact⟨xh (xy u _),jg hh.sub (nu _),.inl hh.keep.size,fun y hy e=>by have:=xh (hh.boxes y hy).1;omega⟩
 ·have:=((hh.slot t _ ht).2 k hf).1;omega
def ze7(t q:Nat){s cap:Nat}{c:Code}(hk:κ t=some (.own (SlX e s cap m xs)))
  (h:∀ b rest,xs.length=m*s->m<=cap->cap<=maxLen->(xs++rest).length=cap*s->V P F B n O (upd (upd (upd κ t pg) q (.own (xp b (xs++rest) e))) t (.is (.slice (some ⟨b,0,none⟩) m cap))) c ztg):V P F B n O κ c ztg:=fun a u hh=>by
 obtain⟨H,fp,hh⟩:=hh;obtain⟨⟨hl,b,rest,hv,hb,h3,h4,h5,hC⟩,hM⟩:=hh.slot t _ hk;have h2:=hh.usePut (d:=q) (a':=a) (r':=xp b (xs++rest) e) (C:=fp t) hk ⟨Keep.refl _ _,hh.sub,mq _,fun _ _ _=>rfl⟩ rfl rfl (fun _ _=>rfl) ⟨hb,hC⟩ fun k hk=>⟨.inl hk,(hM k hk).1,(hM k hk).2.1⟩
 have h3':=h2.name t;rw[hv] at h3';exact h b rest hl h3 h4 h5 a u ⟨H,_,h3'⟩
def O6(L:Tabs P){nn cap:Nat}{s by_:Nat}{cur news cur':List Value}(hn:Nat.blt d n=true)(hg:gK ops κ ⟨some d,.call ⟨.builtin .append,#[x,y],#[t,t]⟩,ty,pos,aft,g⟩=some true)
  (hx:evK κ x=some (.slice (some ⟨b,0,none⟩) nn cap)) (hq:κ q=some (.own (xp b cur e))) (hy:Apd F B O κ y m news) (ht:L.sl t=some e) (he:elI P e=some (s,by_)) (hm:0<m) (hnl:news.length=m*s) (hroom:nn+m<=cap) (hcl:nn*s+m*s<=cur.length) (h1:news.all u7=true)
  (hr:cur.take (nn*s)++(news++cur.drop (nn*s+m*s))=cur'):
  ww P F B n ops O κ ⟨some d,.call ⟨.builtin .append,#[x,y],#[t,t]⟩,ty,pos,aft,g⟩ q (.own (xp b cur' e)) d (.is (.slice (some ⟨b,0,none⟩) (nn+m) cap)):=by
 rintro κ' a u hlk hks ⟨H,fp,hh⟩;unfold After;rw[na (xj hh hlk hg)];have en:=hh.env hlk;have hk':κ' q=some (.own (xp b cur e)):=hks.trans hq;have hxe:=en.is_ x _ (by simp [Op.operands,Call.operands]) hx;obtain⟨⟨hb,hC⟩,hM⟩:=hh.slot q _ hk';obtain⟨i,z,hi,hz,hs1,hs2,hs3,hs4⟩:=uf he;subst hs1;rcases hy _ a u H fp (by simp [Op.operands,Call.operands]) en with ⟨h0,_⟩ | ⟨ad,c',hye,hcy⟩
 ·omega
 have hrun0:=run_append_room (P:=P) u t ty e i (Tabs.sl_spec ht) hi b nn cap cur.toArray hb ad m c' news hnl hcy (fun v hv=>dj (zph.1 h1 v hv)) hroom (by rw[hnl];simpa using hcl);rw[hnl] at hrun0;simp only[mn] at hrun0;rw[hr] at hrun0
 have hrun:(execOp a.eval ⟨some d,.call ⟨.builtin .append,#[x,y],#[t,t]⟩,ty,pos,aft,g⟩).run P u=.ok (.value (.slice (some ⟨b,0,none⟩) (nn+m) cap)) (u.setRow b cur'.toArray):=by
  simp only[execOp,resolve,invoke,builtin,nw,mf,ny,zpp,mw,zpk,hxe,hye,hrun0]
 rw[hrun];simp only[Upon];have hbm:=hM b ((hC b).2 rfl)
 have h2:=hh.usePut (d:=q) (a':=a) (r':=xp b cur' e) (C:=fun k=>k=b) hk' (v6 hh.sub hb ((hC b).2 rfl) hbm.2.1 _) rfl rfl (fun _ _=>rfl) ⟨setRow_heap u b cur.toArray cur'.toArray e (0,0) hb,fun _=>Iff.rfl⟩ (fun k hk=>by
  subst hk;exact⟨.inl ((hC k).2 rfl),by rw[setRow_size];exact hbm.1,hbm.2.1⟩)
 rw[j8] at h2;exact⟨H,_,h2.put (k:=.is _) (zm hn) trivial Z⟩
end
end Go.V
namespace Go.V
section
def P9{k:Kn}(h:κ q=some k):upd κ q k=κ:=by
 funext t;by_cases e:t=q
 ·subst e;rw[xn];exact h.symm
 ·rw[xi _ _ e]
def vm(L:Tabs P)(q:Nat)(φ:Value->Heap->Prop){r:GR}{args:Array Operand}{fo:Operand}
  (hn:Nat.blt d n=true) (hg:gK ops κ ⟨some d,.call { callee:=.value fo,args:=args,argTypes:=at_ },ty,pos,aft,g⟩=some true)
  (hf:evK κ fo=some (.func (.func f) #[] cap.toArray)) (hfn:L.fn f=some ()) (hq:κ q=some (.own r.res)) (hm:Kn.mono (.sat φ))
  (h:∀ u H C,zth H u->B.Le H->r.P H u C->(ZCB C u H)->Args κ H args.toList [] (fun vs=>RetY P f (vs++cap) u H C r φ)):
  StepOKR P F B n ops O κ ⟨some d,.call { callee:=.value fo,args:=args,argTypes:=at_ },ty,pos,aft,g⟩ q d (.sat φ):=by
 rintro κ' a u hlk hks ⟨H,fp,hh⟩;unfold After;rw[na (xj hh hlk hg)];have hk':κ' q=some (.own r.res):=hks.trans hq;obtain⟨hown,hM⟩:=hh.slot q _ hk';have e2:=hh.env hlk;have hfe:a.eval fo=.func (.func f) #[] cap.toArray:=e2.is_ fo _ (by simp [Op.operands,Call.operands]) hf;have hc:=Args.use e2 args.toList [] (fun x hx=>by simp [Op.operands,Call.operands] at hx |-;exact .inr hx) (h u H (fp q) hh.sub hh.base hown fun k hk=>⟨(hM k hk).1,(hM k hk).2.1⟩);simp only[zp9,mi] at hc;rw[uw L rfl hfe hfn];simp only[Upon];refine Calls.mono hc fun e' u' hp=>?_;obtain⟨x,rfl,H',g',hx,C',hv,hC'⟩:=hp;have h2:=hh.usePut (d:=q) (a':=a) (r':=r.res) hk' g' rfl rfl (fun _ _=>rfl) hv hC';rw[j8,P9 hk'] at h2;exact⟨x,rfl,H',_,h2.put (k:=.sat φ) (zm hn) hm hx⟩
def Me(L:Tabs P)(q:Nat)(v:Value){r:GR}{args:Array Operand}{fo:Operand}
  (hn:Nat.blt d n=true) (hg:gK ops κ ⟨some d,.call { callee:=.value fo,args:=args,argTypes:=at_ },ty,pos,aft,g⟩=some true)
  (hf:evK κ fo=some (.func (.func f) #[] cap.toArray)) (hfn:L.fn f=some ()) (hq:κ q=some (.own r.res))
  (h:∀ u H C,zth H u->B.Le H->r.P H u C->(ZCB C u H)->Args κ H args.toList [] (fun vs=>RetY P f (vs++cap) u H C r (fun x _=>x=v))):
  StepOKR P F B n ops O κ ⟨some d,.call { callee:=.value fo,args:=args,argTypes:=at_ },ty,pos,aft,g⟩ q d (.is v):=by
 rintro κ' a u hlk hks ⟨H,fp,hh⟩;unfold After;rw[na (xj hh hlk hg)];have hk':κ' q=some (.own r.res):=hks.trans hq;obtain⟨hown,hM⟩:=hh.slot q _ hk';have e2:=hh.env hlk;have hfe:a.eval fo=.func (.func f) #[] cap.toArray:=e2.is_ fo _ (by simp [Op.operands,Call.operands]) hf;have hc:=Args.use e2 args.toList [] (fun x hx=>by simp [Op.operands,Call.operands] at hx |-;exact .inr hx) (h u H (fp q) hh.sub hh.base hown fun k hk=>⟨(hM k hk).1,(hM k hk).2.1⟩);simp only[zp9,mi] at hc;rw[uw L rfl hfe hfn];simp only[Upon];refine Calls.mono hc fun e' u' hp=>?_;obtain⟨x,rfl,H',g',hx,C',hv,hC'⟩:=hp;have h2:=hh.usePut (d:=q) (a':=a) (r':=r.res) hk' g' rfl rfl (fun _ _=>rfl) hv hC';rw[j8,P9 hk'] at h2;exact⟨x,Z,H',_,h2.put (k:=.is v) (zm hn) trivial hx⟩
def Xy(L:Tabs P){q b:Nat}{t t':TypeId}{s off:Nat}{cs vs:List Value}{r:Res}(hx:evK κ x=some (.pointer (some ⟨b,off,none⟩)))(hq:κ q=some (.own r))(hcell:∀ v H u C,r.P v H u C->u.heap[b]?=some (.cells cs.toArray t'))(hn:Nat.blt d n=true)(hg:gK ops κ ⟨some d,.load t x,ty,pos,aft,g⟩=some true)
  (hl:L.ld t=some (true,s)) (hlen:vs.length=s) (hc:∃ r,cs.drop off=vs++r):StepOKR P F B n ops O κ ⟨some d,.load t x,ty,pos,aft,g⟩ q d (.is (.agg vs.toArray)):=by
 rintro κ' a u hlk hqk ⟨H,fp,hh⟩;unfold After;rw[na (xj hh hlk hg)];have e:=hh.env hlk;have h1:=e.is_ x _ (by simp [Op.operands]) hx;obtain⟨hown,hM⟩:=hh.slot q _ (hqk.trans hq);have h2:=hcell _ _ _ _ hown;obtain⟨r,hc⟩:=hc
 have hrun:(execOp a.eval ⟨some d,.load t x,ty,pos,aft,g⟩).run P u=.ok (.value (.agg vs.toArray)) u:=by
  simp only[execOp,h1,Instr.loadAt,Instr.sureAddr,nw,mf,ny]
  rw[w6 (Tabs.ld_spec hl) u _ vs hlen (fun j v hj=>by
   have h3:cs[off+j]?=some v:=by
    have:=nh (·[j]?) hc;simp only[zqa] at this
    rw[this,zqb (by
     rcases m8 j vs.length with h | h
     ·exact h
     ·rw[zpd h] at hj;cases hj)]
    exact hj
   show u.cell? (Addr.add ⟨b,off,none⟩ j)=some v;have:Addr.add ⟨b,off,none⟩ j=⟨b,off+j,none⟩:=by simp [Addr.add]
   rw[this,kq h2];simpa using h3)]
  rfl
 rw[hrun];simp only[Upon];exact⟨H,fp,hh.put (k:=.is (.agg vs.toArray)) (zm hn) trivial Z⟩
def zba{r2:Res}:∀ v H u C,(iq (xp b cs ty) r2).P v H u C->u.heap[b]?=some (.cells cs.toArray ty):=fun _ _ _ _ ⟨_,_,h,_⟩=>h.1
def Yx{r2:Res}:∀ v H u C,(iq (xp b cs ty) r2).P v H u C->joinH H u C b=some (.cells cs.toArray ty):=fun _ _ _ _ ⟨_,_,⟨hb,hC⟩,_,h3,_⟩=>(d9 ((h3 b).2 (.inl ((hC b).2 rfl)))).trans hb
end
def RetT.pubY{f:FuncId}{r:GR}{r1:Res}(h:RetT P f args w B C (iq r1 r.res))(hl:zmr r1 φ):RetY P f args w B C r φ:=
 Calls.mono h fun _ u ⟨v,he,H,g,C',⟨C1,C2,h1,h2,h3,h4⟩,h5⟩=>by
  have hs:=sn (u:=u) (C:=C1) g.sub;have hle:=Hn (u:=u) fun k hk=>(h5 k ((h3 k).2 (.inl hk))).2.2;refine⟨v,he,joinH H u C1,⟨g.keep,hs,fun k x hx=>hle _ _ (g.le _ _ hx),fun k hk hn=>(dl fun hc=>?_).trans (g.fresh k hk hn)⟩,hl _ _ _ _ h1,C2,r.st h2 hle hs (On.refl u) (fun _ _=>rfl),fun k hk=>⟨(h5 k ((h3 k).2 (.inr hk))).1,(h5 k ((h3 k).2 (.inr hk))).2.1,(dl fun hc=>h4 k hc hk).trans (h5 k ((h3 k).2 (.inr hk))).2.2⟩⟩;rcases(h5 k ((h3 k).2 (.inl hc))).1 with h6 | h6
  ·exact hn h6
  ·omega
def RetY.ex{f:FuncId}{X:Type}{r:X->GR}{φ:X->Heap->Prop}{hφ:oj φ}(hr:(GEx r φ hφ).P B w C)(h:∀ x,φ x B->(r x).P B w C->RetY P f args w B C (r x) ψ):RetY P f args w B C (GEx r φ hφ) ψ:=by
 obtain⟨x,h1,h2⟩:=hr;exact RetL.mono (h x h1 h2) fun v H u hg ⟨h3,C',h4,h5⟩=>⟨h3,C',⟨x,hφ _ _ _ h1 hg.le,h4⟩,h5⟩
end Go.V
namespace Go.V
def MiE{V:Type}(kd:IntKind)(vc:V->Value)(l:List (Int×V))(es:List MapEntry):Prop:=es.map (fun e=>(e.key,e.val))=l.map fun p=>(Value.int kd p.1,vc p.2)
section
variable  {V:Type}  {vc:V->Value} {l:List (Int×V)} 
def Q8{p:Int×V}{l:List (Int×V)}{es:List MapEntry}(h:MiE kd vc (p::l) es):∃ e r,es=e::r/\e.key=.int kd p.1/\e.val=vc p.2/\MiE kd vc l r:=by
 unfold MiE at h
 cases es with
 | nil=>simp at h
 | cons e r=>
  simp at h;exact⟨e,r,rfl,h.1.1,h.1.2,h.2⟩
def My(k:Int):∀ (l:List (Int×V)) (es:List MapEntry) (i:Nat),MiE kd vc l es->Instr.findNow (.int kd) (.int kd k) es i=some ((po k l i).map fun p=>(p.1,vc p.2))
 | [],es,i,h=>by
  have:es=[]:=by simpa [MiE] using h
  subst this;rfl
 | p::l,es,i,h=>by
  obtain⟨e,r,rfl,h1,h2,h3⟩:=Q8 h;rw[Instr.findNow,po,h1];simp only[Instr.sameNow,if_true];by_cases hkp:k=p.1
  ·rw[na hkp,beq_iff_eq.2 hkp,h2];rfl
  ·rw[nc hkp,beq_false_of_ne hkp];exact My k l r (i+1) h3
def dy(hk:P.underlying kt=some (.int kd))(k:Int)(w:World)(l:List (Int×V))(es:List MapEntry)(h:MiE kd vc l es):
  (Instr.findKey kt (.int kd k) es).run P w=.ok ((po k l 0).map fun p=>(p.1,vc p.2)) w:=by
 unfold Instr.findKey;simp only[nw,run_underlying hk,ny,My k l es 0 h,mf]
def uc(hk:P.underlying kt=some (.int kd))(k:Int)(em:Bool)(w:World):(Instr.checkKey em 10000 kt (.int kd k)).run P w=.ok () w:=by
 rw[Instr.checkKey];simp only[nw,run_underlying hk,ny];rfl
def N5(ht:P.underlying t=some (.map kt et))(hk:P.underlying kt=some (.int kd)){b:Nat}{es:Array MapEntry}{ck:Nat}(hb:u.heap[b]?=some (.map es ck))(he:MiE kd vc l es.toList)(k:Int){z:Value}
  (hz:(zeroValue et).run P u=.ok z u):(Instr.lookup t (.map (some b)) (.int kd k) false).run P u=.ok ((um k l).elim z vc) u:=by
 unfold Instr.lookup;have hf:=dy hk k u l es.toList he;simp only[nw,run_underlying ht,ny,MapKept.run_getObj_map hb,mf,uc hk k,hf];unfold um
 cases po k l 0 with
 | none=>simp [hz]
 | some p=>simp
def Ml(k:Int)(v:V):∀ (l:List (Int×V)) (es:List MapEntry) (i j:Nat) (x:V),MiE kd vc l es->po k l i=some (j,x)->
  MiE kd vc (Pa k v l) (es.modify (j-i) fun e=>{ e with key:=.int kd k,val:=vc v })
 | [],_,_,_,_,_,h=>by cases h
 | p::l,es,i,j,x,he,h=>by
  obtain⟨e,r,rfl,h1,h2,h3⟩:=Q8 he;unfold po at h;rw[Pa];split at h
  ·rename_i hk;cases h;rw[na hk,zql];unfold MiE at h3 |-;subst hk;simpa using h3
  ·rename_i hk;rw[nc hk];obtain⟨n,hn,_⟩:=Dm h;have ih:=Ml k v l r (i+1) j x h3 h;have e1:j-i=(j-(i+1))+1:=T;rw[e1];unfold MiE at ih |-;simp [h1,h2];exact ih
end
section
variable                  {ex:Exs}
variable {Y:Type}  {vc:Y->Value} {l:List (Int×Y)}
end
end Go.V
namespace Go.V
section
variable {V:Type}
def T6(k:Int)(l:List (Int×V)):List (Int×V):=match po k l 0 with
 | some (j,_)=>l.eraseIdx j
 | none=>l
end
structure Brn(es:List MapEntry)(ck:Nat):Prop where
 lt:∀ e∈es,e.born<ck
 nd:(es.map (·.born)).Nodup
def za9:Brn [] 0:=⟨fun _ h=>(by cases h),zqn⟩
def Brn.push{es:List MapEntry}(h:Brn es ck)(e:MapEntry)(he:e.born=ck):Brn (es++[e]) (ck+1):=⟨fun x hx=>by
 rcases mh.1 hx with hx | hx
 ·exact Nat.lt_succ_of_lt (h.lt x hx)
 ·rw[m4.1 hx,he];exact zr7 _,by
 rw[zpo,List.nodup_append];refine⟨h.nd,zqr _ _,fun a ha b hb=>?_⟩;obtain⟨x,hx,rfl⟩:=zo9.1 ha;have:=h.lt x hx;simp only[mw,zpk,m4] at hb;omega⟩
def Brn.modify{es:List MapEntry}{ck:Nat}(h:Brn es ck)(j:Nat)(f:MapEntry->MapEntry)(hf:∀ e,(f e).born=e.born):Brn (es.modify j f) ck:=by
 have e1:(es.modify j f).map (·.born)=es.map (·.born):=by
  apply zsn;intro i;rw[zpr,zpr,List.getElem?_modify]
  cases es[i]? with
  | none=>rfl
  | some e=>
   simp only[zqs];split<;>simp [hf]
 refine⟨fun e he=>?_,by rw[e1];exact h.nd⟩;have h2:e.born∈es.map (·.born):=by rw[<-e1];exact zrh he
 obtain⟨x,hx,hb⟩:=zo9.1 h2;rw[<-hb];exact h.lt x hx
def Brn.sub{es es':List MapEntry}(h:Brn es ck)(hs:es'.Sublist es):Brn es' ck:=⟨fun e he=>h.lt e (hs.subset he),h.nd.sublist (hs.map _)⟩
section
variable  {V:Type}  {vc:V->Value} {l:List (Int×V)} 
def Lr(ht:P.underlying t=some (.map kt et))(hk:P.underlying kt=some (.int kd)){b:Nat}{es:Array MapEntry}{ck:Nat}(hb:u.heap[b]?=some (.map es ck))(he:MiE kd vc l es.toList)(k:Int){z:Value}
  (hz:(zeroValue et).run P u=.ok z u):(Instr.lookup t (.map (some b)) (.int kd k) true).run P u=.ok (.tuple #[(um k l).elim z vc,.bool (um k l).isSome]) u:=by
 unfold Instr.lookup;have hf:=dy hk k u l es.toList he;simp only[nw,run_underlying ht,ny,MapKept.run_getObj_map hb,mf,uc hk k,hf];unfold um
 cases po k l 0 with
 | none=>simp [hz]
 | some p=>simp
def ol(ht:P.underlying t=some (.map kt et))(hk:P.underlying kt=some (.int kd)){b:Nat}{es:Array MapEntry}{ck:Nat}(hb:u.heap[b]?=some (.map es ck))(he:MiE kd vc l es.toList)(hn:Brn es.toList ck)(k:Int)(v:V):
  ∃ es' ck',(Instr.mapUpdate t (.map (some b)) (.int kd k) (vc v)).run P u=.ok () (u.putObj b (.map es' ck'))/\MiE kd vc (Pa k v l) es'.toList/\Brn es'.toList ck':=by
 have hf:=dy hk k u l es.toList he
 cases hm:po k l 0 with
 | none=>
  refine⟨es.push { key:=.int kd k,val:=vc v,born:=ck },ck+1,?_,?_,by simpa using hn.push _ Z⟩
  ·unfold Instr.mapUpdate;rw[hm] at hf;simp only[nw,run_underlying ht,ny,MapKept.run_getObj_map hb,mf,uc hk k,hf,zro];simp [setObj,Sem.run,hb,World.putObj,Result.andThen]
  ·rw[sj hm];unfold MiE at he |-;simp [he]
 | some q=>
  obtain⟨j,x⟩:=q;refine⟨es.modify j fun e=>{ e with key:=.int kd k,val:=vc v },ck,?_,?_,by rw[Array.toList_modify];exact hn.modify j _ fun _=>rfl⟩
  ·obtain⟨n,hn2,hx⟩:=Dm hm;have hn':j=n:=T;subst hn'
   have hkey:((es[j]?).map (·.key)).getD (.int kd k)=.int kd k:=by
    have h2:=nh (·[j]?) he;simp only[zpr,hx,zqs] at h2;rw[<-zr4]
    cases hz:es.toList[j]? with
    | none=>rfl
    | some e=>
     rw[hz] at h2;simp at h2;simpa using h2.1
   unfold Instr.mapUpdate;rw[hm] at hf;simp only[nw,run_underlying ht,ny,MapKept.run_getObj_map hb,mf,uc hk k,hf,zqs,hkey];unfold Instr.keyThatStays;rw[na (by simp [Instr.sameBits])];simp [setObj,Sem.run,hb,World.putObj,Result.andThen]
  ·have:=Ml k v l es.toList 0 j x he hm;simpa using this
def map_erase{α β:Type}(f:α->β):∀ (l:List α) (j:Nat),(l.eraseIdx j).map f=(l.map f).eraseIdx j
 | [],_=>rfl
 | _::_,0=>rfl
 | x::l,j+1=>by simp [map_erase f l j]
def Mk{es:List MapEntry}(h:MiE kd vc l es)(j:Nat):MiE kd vc (l.eraseIdx j) (es.eraseIdx j):=by
 unfold MiE at *;rw[map_erase,map_erase,h]
def N6(ht:P.underlying t=some (.map kt et))(hk:P.underlying kt=some (.int kd)){b:Nat}{es:Array MapEntry}{ck:Nat}(hb:u.heap[b]?=some (.map es ck))(he:MiE kd vc l es.toList)(hn:Brn es.toList ck)(k:Int)(ty:TypeId){ts:Array TypeId}(hts:ts[0]?=some t):
  ∃ es',(Builtin.delete_ ts ty #[.map (some b),.int kd k]).run P u=.ok (.tuple #[]) (u.putObj b (.map es' ck))/\MiE kd vc (T6 k l) es'.toList/\Brn es'.toList ck:=by
 have hf:=dy hk k u l es.toList he;unfold T6
 cases hm:po k l 0 with
 | none=>
  refine⟨es,?_,he,hn⟩;rw[hm] at hf;simp only[Builtin.delete_,hts,zrg,zr0,zqm,nw,run_underlying ht,ny,MapKept.run_getObj_map hb,uc hk k,hf,zro];simp [setObj,Sem.run,hb,World.putObj,Result.andThen]
 | some q=>
  obtain⟨j,x⟩:=q;refine⟨es.eraseIdxIfInBounds j,?_,by simpa using Mk he j,by simpa using hn.sub (List.eraseIdx_sublist ..)⟩;rw[hm] at hf;simp only[Builtin.delete_,hts,zrg,zr0,zqm,nw,run_underlying ht,ny,MapKept.run_getObj_map hb,uc hk k,hf,zqs];simp [setObj,Sem.run,hb,World.putObj,Result.andThen]
def Lq{es:Array MapEntry}{since last:Nat}{seen:Array Nat}(hm:u.heap[m]?=some (.map es ck))(hi:u.heap[i]?=some (.mapIter (some m) since seen last))(hold:∀ x∈es.toList,x.born<since)(hsc:since<=last):
  ((leftOf es seen).size=0/\(Instr.next (.pointer (some ⟨i,0,none⟩)) false ty).run P u=.ok (.tuple #[.bool false]) u)\/
  ∃ (j:Nat) (e:MapEntry),(leftOf es seen)[j]?=some e/\∃ u1:World,(u1=u\/u1=u.drew)/\(Instr.next (.pointer (some ⟨i,0,none⟩)) false ty).run P u=.ok (.tuple #[.bool true,e.key,e.val]) (u1.putObj i (.mapIter (some m) since (seen.push e.born) ck)):=by
 simp only[Instr.next,getObj,nw,Sem.run,hi,hm,Result.andThen,next_test_false seen es since last hold hsc,zqo,if_false];unfold leftOf;have hmem:∀ x∈(Array.filter (fun e=>!seen.contains e.born) es).toList,x.born<since:=fun x hx=>hold x (by simp at hx |-;exact hx.1);generalize Array.filter (fun e=>!seen.contains e.born) es=L at hmem |-;have e1:L.filter (fun x=>decide (x.born<since))=L:=Array.filter_eq_self.2 (fun x hx=>by simpa using hmem x (by simpa using hx))
 have e2:L.filter (fun x=>decide (x.born>=since))=#[]:=by
  rw[Array.filter_eq_empty_iff];intro x hx;have:=hmem x (by simpa using hx);simp;omega
 simp only[e1,e2,Array.append_empty];by_cases h0:L.size=0
 ·left;have:L=#[]:=Array.eq_empty_of_size_eq_zero h0;subst this;refine⟨rfl,?_⟩;simp [choose,Sem.run,Question.forced]
 ·right;have hne:L.isEmpty=false:=by simp [Array.isEmpty,h0]
  simp only[hne,zqo,if_false,Array.empty_append,Array.size_map]
  have hch:∃ (j:Nat) (w1:World),j<L.size/\(w1=u\/w1=u.drew)/\(choose (Question.mapNext L.size)).run P u=.ok j w1:=by
   by_cases hf:L.size<=1
   ·exact⟨0,u,by omega,.inl Z,by simp [choose,Sem.run,Question.forced,hf]⟩
   ·exact⟨_,u.drew,zrp _ T,.inr Z,by
     simp only[choose,Sem.run,Question.forced,decide_eq_true_eq,hf,if_false,Question.cut];rfl⟩
  obtain⟨j,w1,hj,hal,hrun⟩:=hch;refine⟨j,L[j],by simp [hj],w1,hal,?_⟩;have hi1:w1.heap[i]?=some (.mapIter (some m) since seen last):=by rcases hal with rfl | rfl<;>exact hi
  simp only[hrun,Array.getElem?_map,zpy hj,zqs,nw,Result.andThen];simp [setObj,Sem.run,hi1,World.putObj]
end
def zmt{V:Type}(b:Nat)(kd:IntKind)(vc:V->Value)(l:List (Int×V)):GR where
 P _ u C:=(∃ es ck,u.heap[b]?=some (.map es ck)/\MiE kd vc l es.toList/\Brn es.toList ck)/\∀ k,C k↔k=b
 st:=fun⟨⟨es,ck,hb,he⟩,hC⟩ _ _ _ hk=>⟨⟨es,ck,(hk b ((hC b).2 rfl)).trans hb,he⟩,hC⟩
abbrev Ef{V:Type}(b:Nat)(kd:IntKind)(vc:V->Value)(l:List (Int×V)):Res:=(zmt b kd vc l).res
def Uv{V:Type}(kd:IntKind)(vc:V->Value)(l:List (Int×V)):Res where
 P x _ u C:=∃ b,x=.map (some b)/\(∃ es ck,u.heap[b]?=some (.map es ck)/\MiE kd vc l es.toList/\Brn es.toList ck)/\∀ k,C k↔k=b
 st:=fun⟨b,hx,⟨es,ck,hb,he⟩,hC⟩ _ _ _ hk=>⟨b,hx,⟨es,ck,(hk b ((hC b).2 rfl)).trans hb,he⟩,hC⟩
def ze9{V:Type}(m:Nat)(kd:IntKind)(vc:V->Value)(l left:List (Int×V)):Res where
 P x _ u C:=∃ i es ck since seen last,x=.pointer (some ⟨i,0,none⟩)/\i≠m/\u.heap[m]?=some (.map es ck)/\MiE kd vc l es.toList/\Brn es.toList ck/\u.heap[i]?=some (.mapIter (some m) since seen last)/\
  (∀ e∈es.toList,e.born<since)/\since<=last/\since<=ck/\MiE kd vc left (leftOf es seen).toList/\∀ k,C k↔k=m\/k=i
 st:=fun⟨i,es,ck,since,seen,last,h1,h2,h3,h4,h5,h6,h7,h8,h9,h10,hC⟩ _ _ _ hk=>⟨i,es,ck,since,seen,last,h1,h2,(hk m ((hC m).2 (.inl rfl))).trans h3,h4,h5,(hk i ((hC i).2 (.inr rfl))).trans h6,h7,h8,h9,h10,hC⟩
section
variable {Y:Type}  {vc:Y->Value} {l left:List (Int×Y)}
def Has.holdMb{t:Nat}(hk:κ t=some (.own (Uv kd vc l)))(h:Has F B O n κ a u):∃ b,Has F B O n (upd (upd (upd κ t pg) q (.own (Ef b kd vc l))) t (.is (.map (some b)))) a u:=by
 obtain⟨H,fp,h⟩:=h;obtain⟨⟨b,hv,hb,hC⟩,hM⟩:=h.slot t _ hk;have h2:=h.usePut (d:=q) (a':=a) (r':=Ef b kd vc l) (C:=fp t) hk ⟨Keep.refl _ _,h.sub,mq _,fun _ _ _=>rfl⟩ rfl rfl (fun _ _=>rfl) ⟨hb,hC⟩ fun k hk=>⟨.inl hk,(hM k hk).1,(hM k hk).2.1⟩
 have h3:=h2.name t;rw[hv] at h3;exact⟨b,H,_,h3⟩
def zmn(t q:Nat){c:Code}(hk:κ t=some (.own (Uv kd vc l)))(h:∀ b,V P F B n O (upd (upd (upd κ t pg) q (.own (Ef b kd vc l))) t (.is (.map (some b)))) c ztg):V P F B n O κ c ztg:=fun a u hh=>let ⟨b,h'⟩:=hh.holdMb (q:=q) hk;h b a u h'
def U4(t q:Nat)(hk:κ t=some (.own (Uv kd vc l)))(h:∀ b,VO P F B n O ops (upd (upd (upd κ t pg) q (.own (Ef b kd vc l))) t (.is (.map (some b)))) os ztg):VO P F B n O ops κ os ztg:=fun a u hh=>let ⟨b,h'⟩:=hh.holdMb (q:=q) hk;h b a u h'
def Oz(kd:IntKind)(vc:Y->Value){hint:Option Operand}(hn:Nat.blt d n=true)(hg:gK ops κ ⟨some d,.makeMap t none,ty,pos,aft,g⟩=some true):
  StepOK P F B n ops O κ ⟨some d,.makeMap t none,ty,pos,aft,g⟩ d (.own (Uv kd vc [])):=by
 rintro κ' a u hl ⟨H,fp,hh⟩;have hn:d<n:=by simpa using hn
 unfold After;rw[na (xj hh hl hg)]
 have hrun:(execOp a.eval ⟨some d,.makeMap t none,ty,pos,aft,g⟩).run P u=.ok (.value (.map (some u.heap.size))) (u.alloc (.map #[] 0)):=by
  simp [execOp,Instr.makeMap]
 rw[hrun];simp only[Upon];have hg2:=hh.grow (Grow.hid hh.sub (.map #[] 0));refine⟨H,_,hg2.putR (C:=fun k=>k=u.heap.size) (by simp [Act.put]) Z (fun t ht=>xr ht) ⟨u.heap.size,xz (by rw[hh.size];exact hn),⟨_,_,xy _ _,rfl,za9⟩,fun _=>Iff.rfl⟩ (fun k hk=>?_) fun t r' _ ht k hf hk=>?_⟩
 ·subst hk;exact⟨xh (xy u _),jg hh.sub (nu _),.inl hh.keep.size,fun y hy e=>by have:=xh (hh.boxes y hy).1;omega⟩
 ·have:=((hh.slot t _ ht).2 k hf).1;omega
def u9(k:Int){r z:Value}{f:Bool}(ht:P.underlying t=some (.map kt et))(hkt:P.underlying kt=some (.int kd))(hz:∀ w,(zeroValue et).run P w=.ok z w)
  (hx:evK κ x=some (.map (some b))) (hq:κ q=some (.own (Ef b kd vc l))) (hy:evK κ y=some (.int kd k)) (hn:Nat.blt d n=true) (hg:gK ops κ ⟨some d,.lookup t x y true,ty,pos,aft,g⟩=some true)
  (hr:(um k l).elim z vc=r) (hf:(um k l).isSome=f):
  StepOKR P F B n ops O κ ⟨some d,.lookup t x y true,ty,pos,aft,g⟩ q d (.is (.tuple #[r,.bool f])):=by
 rintro κ' a u hlk hqk ⟨H,fp,hh⟩;subst hr hf;unfold After;rw[na (xj hh hlk hg)];have e:=hh.env hlk;have h1:=e.is_ x _ (by simp [Op.operands]) hx;have h2:=e.is_ y _ (by simp [Op.operands]) hy;obtain⟨⟨⟨es,ck,hb,he,_⟩,hC⟩,hM⟩:=hh.slot q _ (hqk.trans hq)
 have hrun:(execOp a.eval ⟨some d,.lookup t x y true,ty,pos,aft,g⟩).run P u=.ok (.value (.tuple #[(um k l).elim z vc,.bool (um k l).isSome])) u:=by
  simp only[execOp,h1,h2,nw,Lr ht hkt hb he k (hz u),ny];rfl
 rw[hrun];simp only[Upon];exact⟨H,fp,hh.put (k:=.is _) (zm hn) trivial Z⟩
def HasH.turnMap{es:Array MapEntry}{l':List (Int×Y)}(hh:HasH F B O n κ a u H fp)(hq:κ q=some (.own (Ef b kd vc l)))(he:MiE kd vc l' es.toList)(hb:Brn es.toList ck):
  HasH F B O n (upd κ q (.own (Ef b kd vc l'))) a (u.putObj b (.map es ck)) H (fpu fp q fun k=>k=b):=by
 obtain⟨⟨_,hC⟩,hM⟩:=hh.slot q _ hq;have hbm:=hM b ((hC b).2 rfl)
 have:=hh.usePut (d:=q) (a':=a) (r':=Ef b kd vc l') (C:=fun k=>k=b) hq (Dt hh.sub ((hC b).2 rfl) hbm.2.1) rfl rfl (fun _ _=>rfl) ⟨⟨es,ck,zsw hbm.1,he,hb⟩,fun _=>Iff.rfl⟩ (fun k hk=>by
  subst hk;exact⟨.inl ((hC k).2 rfl),by rw[World.putObj_size];exact hbm.1,hbm.2.1⟩)
 rw[j8] at this;exact this
def E8{z:Operand}(k:Int)(v:Y){zv:Value}{l':List (Int×Y)}(ht:P.underlying t=some (.map kt et))(hkt:P.underlying kt=some (.int kd))
  (hx:evK κ x=some (.map (some b))) (hq:κ q=some (.own (Ef b kd vc l))) (hy:evK κ y=some (.int kd k)) (hz:evK κ z=some zv) (hzv:vc v=zv) (hg:gK ops κ ⟨none,.mapUpdate t x y z,ty,pos,aft,g⟩=some true)
  (hl':Pa k v l=l'):
  As P F B n ops O κ ⟨none,.mapUpdate t x y z,ty,pos,aft,g⟩ q (.own (Ef b kd vc l')):=by
 rintro κ' a u hlk hqk ⟨H,fp,hh⟩;subst hl' hzv;unfold After;rw[na (xj hh hlk hg)];have e:=hh.env hlk;have h1:=e.is_ x _ (by simp [Op.operands]) hx;have h2:=e.is_ y _ (by simp [Op.operands]) hy;have h3:=e.is_ z _ (by simp [Op.operands]) hz;have hqs:=hqk.trans hq;obtain⟨⟨⟨es,ck,hb,he,hbn⟩,hC⟩,hM⟩:=hh.slot q _ hqs;obtain⟨es',ck',hr,he',hb'⟩:=ol ht hkt hb he hbn k v
 have hrun:(execOp a.eval ⟨none,.mapUpdate t x y z,ty,pos,aft,g⟩).run P u=.ok .skip (u.putObj b (.map es' ck')):=by
  simp only[execOp,h1,h2,h3,nw,hr,ny];rfl
 rw[hrun];simp only[Upon,Act.put];exact⟨H,_,hh.turnMap hqs he' hb'⟩
def Tw{t2:TypeId}(k:Int){l':List (Int×Y)}(ht:P.underlying t=some (.map kt et))(hkt:P.underlying kt=some (.int kd))
  (hx:evK κ x=some (.map (some b))) (hq:κ q=some (.own (Ef b kd vc l))) (hy:evK κ y=some (.int kd k)) (hg:gK ops κ ⟨none,.call ⟨.builtin .delete,#[x,y],#[t,t2]⟩,ty,pos,aft,g⟩=some true)
  (hl':T6 k l=l'):
  As P F B n ops O κ ⟨none,.call ⟨.builtin .delete,#[x,y],#[t,t2]⟩,ty,pos,aft,g⟩ q (.own (Ef b kd vc l')):=by
 rintro κ' a u hlk hqk ⟨H,fp,hh⟩;subst hl';unfold After;rw[na (xj hh hlk hg)];have e:=hh.env hlk;have h1:=e.is_ x _ (by simp [Op.operands,Call.operands]) hx;have h2:=e.is_ y _ (by simp [Op.operands,Call.operands]) hy;have hqs:=hqk.trans hq;obtain⟨⟨⟨es,ck,hb,he,hbn⟩,hC⟩,hM⟩:=hh.slot q _ hqs;obtain⟨es',hr,he',hb'⟩:=N6 ht hkt hb he hbn k ty (ts:=#[t,t2]) rfl
 have hrun:(execOp a.eval ⟨none,.call ⟨.builtin .delete,#[x,y],#[t,t2]⟩,ty,pos,aft,g⟩).run P u=.ok (.value (.tuple #[])) (u.putObj b (.map es' ck)):=by
  simp [execOp,resolve,h1,h2,invoke,builtin,hr]
 rw[hrun];simp only[Upon,Act.put];exact⟨H,_,hh.turnMap hqs he' hb'⟩
def O3(ht:P.underlying t=some (.map kt et))(hx:evK κ x=some (.map (some b)))(hq:κ q=some (.own (Ef b kd vc l)))(hn:Nat.blt d n=true)
  (hg:gK ops κ ⟨some d,.call ⟨.builtin .len,#[x],#[t]⟩,ty,pos,aft,g⟩=some true) (hm:l.length=m):
  StepOKR P F B n ops O κ ⟨some d,.call ⟨.builtin .len,#[x],#[t]⟩,ty,pos,aft,g⟩ q d (.is (.int .i64 m)):=by
 rintro κ' a u hlk hqk ⟨H,fp,hh⟩;subst hm;unfold After;rw[na (xj hh hlk hg)];have e:=hh.env hlk;have h1:=e.is_ x _ (by simp [Op.operands,Call.operands]) hx;obtain⟨⟨⟨es,ck,hb,he,_⟩,hC⟩,hM⟩:=hh.slot q _ (hqk.trans hq);have hsz:es.size=l.length:=by have:=nh List.length he;simpa using this
 have hrun:(execOp a.eval ⟨some d,.call ⟨.builtin .len,#[x],#[t]⟩,ty,pos,aft,g⟩).run P u=.ok (.value (.int .i64 l.length)) u:=by
  simp [execOp,resolve,h1,invoke,builtin,Builtin.len_,run_underlying ht,MapKept.run_getObj_map hb,goInt,hsz]
 rw[hrun];simp only[Upon];exact⟨H,fp,hh.put (k:=.is _) (zm hn) trivial Z⟩
def Xt(ht:P.underlying t=some (.map kt et))(hx:evK κ x=some (.map (some b)))(hq:κ q=some (.own (Ef b kd vc l)))(hn:Nat.blt d n=true)
  (hg:gK ops κ ⟨some d,.range t x,ty,pos,aft,g⟩=some true):
  ww P F B n ops O κ ⟨some d,.range t x,ty,pos,aft,g⟩ q pg d (.own (ze9 b kd vc l l)):=by
 rintro κ' a u hlk hqk ⟨H,fp,hh⟩;have hn:d<n:=by simpa using hn
 unfold After;rw[na (xj hh hlk hg)];have e:=hh.env hlk;have h1:=e.is_ x _ (by simp [Op.operands]) hx;have hqs:=hqk.trans hq;obtain⟨⟨⟨es,ck,hb,he,hbn⟩,hC⟩,hM⟩:=hh.slot q _ hqs
 have hrun:(execOp a.eval ⟨some d,.range t x,ty,pos,aft,g⟩).run P u=.ok (.value (.pointer (some ⟨u.heap.size,0,none⟩))) (u.alloc (.mapIter (some b) ck #[] ck)):=by
  simp only[execOp,h1,nw,run_range_map u t kt et b es ck ht hb,ny];rfl
 rw[hrun];simp only[Upon];have hbm:=hM b ((hC b).2 rfl);have hg2:Grow (fp q) u H (u.alloc (.mapIter (some b) ck #[] ck)) H:=⟨(Grow.hid hh.sub (.mapIter (some b) ck #[] ck)).keep.weak (fun k _ h=>h.elim),(Grow.hid hh.sub _).sub,mq _,fun _ _ _=>rfl⟩
 have hlo:leftOf es #[]=es:=by unfold leftOf;simp
 have:=hh.usePut (d:=d) (a':=a.put (some d) (.pointer (some ⟨u.heap.size,0,none⟩))) (r':=ze9 b kd vc l l) (C:=fun k=>k=b\/k=u.heap.size) hqs hg2 (by simp [Act.put]) rfl (fun t ht=>xr ht)
  ⟨u.heap.size,es,ck,ck,#[],ck,xz (by rw[hh.size];exact hn),by omega,by rw[heap_alloc_old u _ hbm.1];exact hb,he,hbn,heap_alloc_new u _,hbn.lt,nu _,nu _,by rw[hlo];exact he,fun _=>Iff.rfl⟩
  (fun k hk=>by
   have hsz:(u.alloc (.mapIter (some b) ck #[] ck)).heap.size=u.heap.size+1:=by show(u.heap.push _).size=_;simp
   rcases hk with rfl | rfl
   ·exact⟨.inl ((hC _).2 rfl),by omega,hbm.2.1⟩
   ·exact⟨.inr (nu _),by omega,jg hh.sub (nu _)⟩)
 exact⟨H,_,this⟩
def Xu{q m:Nat}{w:Bool}(hw:w=false)(hq:κ q=some (.own (ze9 m kd vc l left)))(hl:left=[])(hn:Nat.blt d n=true)(hg:gK ops κ ⟨some d,.next (.tmp q) w,ty,pos,aft,g⟩=some true):
  StepOK P F B n ops O κ ⟨some d,.next (.tmp q) w,ty,pos,aft,g⟩ d (.is (.tuple #[.bool false])):=
 kf rfl (zm hn) hg trivial fun a u H fp e=>by
  subst hw hl;obtain⟨⟨i,es,ck,since,seen,last,h1,h2,h3,h4,h5,h6,h7,h8,h9,h10,hC⟩,hM⟩:=e.own_ q _ (by simp [Op.operands]) hq;have hz:(leftOf es seen).size=0:=by have:=nh List.length h10;simpa using this
  refine⟨_,?_,rfl⟩;rcases Lq (P:=P) (ty:=ty) h3 h6 h7 h8 with ⟨_,hr⟩ | ⟨j,e2,he2,_⟩
  ·simp only[execOp,h1,nw,hr,ny];rfl
  ·rw[zq3 T] at he2;cases he2
def Ua{es:Array MapEntry}{ck j:Nat}{seen:Array Nat}{e:MapEntry}(hb:Brn es.toList ck)(he:(leftOf es seen)[j]?=some e):(leftOf es (seen.push e.born)).toList=(leftOf es seen).toList.eraseIdx j:=by
 have e1:(leftOf es (seen.push e.born)).toList=(leftOf es seen).toList.filter fun x=>!(x.born == e.born):=by
  unfold leftOf;rw[zs5,zs5,List.filter_filter];apply List.filter_congr;intro x _;rw[contains_push];cases seen.contains x.born<;>cases (x.born == e.born)<;>rfl
 have hnd:((leftOf es seen).toList.map (·.born)).Nodup:=by
  unfold leftOf;rw[zs5];exact hb.nd.sublist (List.filter_sublist.map _)
 rw[<-zr4] at he;rw[e1];generalize (leftOf es seen).toList=L at hnd he;clear e1
 induction L generalizing j with
 | nil=>cases he
 | cons x L ih=>
  rw[mw,zrl] at hnd
  cases j with
  | zero=>
   cases he
   have h0:L.filter (fun x=>!(x.born == e.born))=L:=zrq.2 fun y hy=>by
    have:y.born≠e.born:=fun h=>hnd.1 (h ▸ zrh hy);simpa using this
   simp [h0]
  | succ j=>
   have he':L[j]?=some e:=by simpa using he
   have hne:x.born≠e.born:=fun h=>hnd.1 (h ▸ zrh (zpa he'));have:(!(x.born == e.born))=true:=by simpa using hne
   rw[zq1 (by simpa using hne),ih hnd.2 he'];rfl
def zk6{es:List MapEntry}{j:Nat}{e:MapEntry}(h:MiE kd vc left es)(he:es[j]?=some e):∃ p,left[j]?=some p/\e.key=.int kd p.1/\e.val=vc p.2:=by
 have h2:=nh (·[j]?) h;simp only[zpr,he,zqs] at h2
 cases hp:left[j]? with
 | none=>rw[hp] at h2;cases h2
 | some p=>
  rw[hp] at h2;simp at h2;exact⟨p,rfl,h2.1,h2.2⟩
def Has.endM{t:Nat}(hne:t≠q)(hk:κ t=some (.own (ze9 m kd vc l left)))(h:Has F B O n κ a u):Has F B O n (upd (upd κ t pg) q (.own (Ef m kd vc l))) a u:=by
 obtain⟨H,fp,hh⟩:=h;obtain⟨⟨i,es,ck,since,seen,last,h1,h2,h3,h4,h5,h6,h7,h8,h9,h10,hC⟩,hM⟩:=hh.slot t _ hk
 have:=hh.usePut (d:=q) (a':=a) (r':=Ef m kd vc l) (C:=fun k=>k=m) hk ⟨Keep.refl _ _,hh.sub,mq _,fun _ _ _=>rfl⟩ rfl rfl (fun _ _=>rfl) ⟨⟨es,ck,h3,h4,h5⟩,fun _=>Iff.rfl⟩
  (fun k hk'=>by subst hk';have:=(hC k).2 (.inl rfl);exact⟨.inl this,(hM k this).1,(hM k this).2.1⟩)
 exact⟨H,_,this⟩
def zl8(t q:Nat){c:Code}(hk:κ t=some (.own (ze9 m kd vc l left)))(h:V P F B n O (upd (upd κ t pg) q (.own (Ef m kd vc l))) c ztg)(hne:t≠q:=by decide):V P F B n O κ c ztg:=fun a u hh=>h a u (hh.endM hne hk)
end
end Go.V
namespace Go.V
def zmp{V:Type}(m:Nat)(kd:IntKind)(vc:V->Value)(l left:List (Int×V))(p:Int×V):Res where
 P x _ u C:=∃ (i:Nat) (es:Array MapEntry) (ck since:Nat) (seen:Array Nat) (e:MapEntry),x=.pointer (some ⟨i,0,none⟩)/\i≠m/\u.heap[m]?=some (.map es ck)/\MiE kd vc l es.toList/\Brn es.toList ck/\u.heap[i]?=some (.mapIter (some m) since (seen.push e.born) ck)/\
  (∀ e∈es.toList,e.born<since)/\since<=ck/\MiE kd vc left (leftOf es (seen.push e.born)).toList/\e∈es.toList/\e.key=.int kd p.1/\e.val=vc p.2/\∀ k,C k↔k=m\/k=i
 st:=fun⟨i,es,ck,since,seen,e,h1,h2,h3,h4,h5,h6,h7,h8,h9,h10,h11,h12,hC⟩ _ _ _ hk=>⟨i,es,ck,since,seen,e,h1,h2,(hk m ((hC m).2 (.inl rfl))).trans h3,h4,h5,(hk i ((hC i).2 (.inr rfl))).trans h6,h7,h8,h9,h10,h11,h12,hC⟩
def zki{V:Type}{vc:V->Value}{l left:List (Int×V)}{p:Int×V}:∀ v H u C,B.Le H->(zmp m kd vc l left p).P v H u C->(ze9 m kd vc l left).P v H u C:=
 fun _ _ _ _ _ ⟨i,es,ck,since,seen,e,h1,h2,h3,h4,h5,h6,h7,h8,h9,_,_,_,hC⟩=>⟨i,es,ck,since,seen.push e.born,ck,h1,h2,h3,h4,h5,h6,h7,h8,h8,h9,hC⟩
def zdr{es:Array MapEntry}{seen:Array Nat}{j:Nat}{e:MapEntry}(h:(leftOf es seen)[j]?=some e):e∈es.toList:=by
 have h1:e∈leftOf es seen:=Array.mem_of_getElem? h;unfold leftOf at h1;rw[Array.mem_filter] at h1;exact Array.mem_toList_iff.2 h1.1
def zah{es:List MapEntry}(hn:(es.map (·.born)).Nodup){e:MapEntry}(he:e∈es):es.find? (fun x=>x.born == e.born)=some e:=by
 induction es with
 | nil=>cases he
 | cons x es ih=>
  rw[mw,zrl] at hn;rw[List.find?_cons];rcases ma.1 he with h | h
  ·subst h;simp
  ·have hne:x.born≠e.born:=fun h2=>hn.1 (h2 ▸ zrh (f:=(·.born)) h);have:(x.born == e.born)=false:=by simpa using hne
   rw[this];exact ih hn.2 h
section
variable {Y:Type}  {vc:Y->Value} {l left:List (Int×Y)}
def zb0(ho:o=⟨some d,.next (.tmp q) false,ty,pos,aft,g⟩)(hq:κ q=some (.own (ze9 m kd vc l left)))(hl:left≠[])(hn:Nat.blt d n=true)(hdq:Nat.beq q d=false)(hg:gK ops κ o=some true)
  (h:∀ (j:Nat) (p:Int×Y),left[j]?=some p->VO P F B n O ops (upd (upd κ q (.own (zmp m kd vc l (left.eraseIdx j) p))) d (.is (.tuple #[.bool true,.int kd p.1,vc p.2]))) os ztg):VO P F B n O ops κ (o::os) ztg:=fun a u hh=>by
 subst ho;obtain⟨H,fp,hh⟩:=hh;obtain⟨⟨i,es,ck,since,seen,last,h1,h2,h3,h4,h5,h6,h7,h8,h9,h10,hC⟩,hM⟩:=hh.slot q _ hq;show After P ops _ _ a u;unfold After;rw[na (xj hh (fun _ _=>rfl) hg)];rcases Lq (P:=P) (ty:=ty) h3 h6 h7 h8 with ⟨hz,_⟩ | ⟨j,e,he,u1,hu1,hr⟩
 ·exfalso;have:=nh List.length h10;simp [hz] at this;exact hl (m7 this.symm)
 ·have hrun:(execOp a.eval ⟨some d,.next (.tmp q) false,ty,pos,aft,g⟩).run P u=.ok (.value (.tuple #[.bool true,e.key,e.val])) (u1.putObj i (.mapIter (some m) since (seen.push e.born) ck)):=by
   simp only[execOp,h1,nw,hr,ny];rfl
  rw[hrun];simp only[Upon];obtain⟨p,hp,hk1,hv1⟩:=zk6 h10 (by rw[zr4];exact he);rw[hk1,hv1];have him:=hM i ((hC i).2 (.inr rfl));have hsub:H.Le (Go.V.hp u1):=by rcases hu1 with rfl | rfl<;>exact hh.sub
  have hgr:Grow (fp q) u H (u1.putObj i (.mapIter (some m) since (seen.push e.born) ck)) H:=by
   have g1:=Dt (u:=u1) (L:=fp q) (o:=.mapIter (some m) since (seen.push e.born) ck) hsub ((hC i).2 (.inr rfl)) him.2.1;rcases hu1 with rfl | rfl
   ·exact g1
   ·exact⟨⟨g1.keep.os,g1.keep.tape,g1.keep.output,g1.keep.size,g1.keep.block,mp (zp5 _) g1.keep.dr⟩,g1.sub,g1.le,g1.fresh⟩
  have hmm:u1.heap[m]?=some (.map es ck):=by rcases hu1 with rfl | rfl<;>exact h3
  have hsz:i<u1.heap.size:=by rcases hu1 with rfl | rfl<;>exact him.1
  have h5':=hh.usePut (d:=q) (a':=a) (r':=zmp m kd vc l (left.eraseIdx j) p) (C:=fun k=>k=m\/k=i) hq hgr rfl rfl (fun _ _=>rfl)
   ⟨i,es,ck,since,seen,e,h1,h2,by rw[zsf (Ne.symm h2)];exact hmm,h4,h5,zsw hsz,h7,h9,by rw[Ua h5 he];exact Mk h10 j,zdr he,hk1,hv1,fun _=>Iff.rfl⟩
   (fun k hk=>by
    have hkC:fp q k:=(hC k).2 hk;refine⟨.inl hkC,?_,(hM k hkC).2.1⟩;rw[World.putObj_size];rcases hu1 with rfl | rfl<;>exact(hM k hkC).1)
  rw[j8] at h5';exact h j p hp _ _ ⟨H,_,h5'.put (k:=.is _) (zm hn) trivial Z⟩
def X4{p:Int×Y}(hq:κ q=some (.own (zmp m kd vc l left p)))(hn:Nat.blt d n=true)(hg:gK ops κ ⟨some d,.entry (.tmp q),ty,pos,aft,g⟩=some true):
  StepOK P F B n ops O κ ⟨some d,.entry (.tmp q),ty,pos,aft,g⟩ d (.is (.tuple #[.int kd p.1,vc p.2])):=
 kf rfl (zm hn) hg trivial fun a u H fp e=>by
  obtain⟨⟨i,es,ck,since,seen,x,h1,h2,h3,h4,h5,h6,h7,h8,h9,h10,h11,h12,hC⟩,hM⟩:=e.own_ q _ (by simp [Op.operands]) hq;refine⟨_,?_,rfl⟩;have hf:=zah h5.nd h10;have hf2:es.find? (fun y=>y.born == x.born)=some x:=by rw[<-Array.find?_toList];exact hf
  simp only[execOp,h1,Instr.entry,getObj,nw,Sem.run,h6,Result.andThen,Array.back?_push,h3,bne_self_eq_false,zqo,if_false,hf2,h11,h12];rfl
def Tq{z:Operand}(k:Int)(v:Y){zv:Value}{l':List (Int×Y)}(ht:P.underlying t=some (.map kt et))(hkt:P.underlying kt=some (.int kd))
  (hx:evK κ x=some (.map (some b))) (hq:κ q=some (.own (Ef b kd vc l))) (hy:evK κ y=some (.int kd k)) (hz:evK κ z=some zv) (hzv:vc v=zv) (hg:gK ops κ ⟨none,.insert t x y z,ty,pos,aft,g⟩=some true)
  (hl':Pa k v l=l'):
  As P F B n ops O κ ⟨none,.insert t x y z,ty,pos,aft,g⟩ q (.own (Ef b kd vc l')):=by
 rintro κ' a u hlk hqk ⟨H,fp,hh⟩;subst hl' hzv;unfold After;rw[na (xj hh hlk hg)];have e:=hh.env hlk;have h1:=e.is_ x _ (by simp [Op.operands]) hx;have h2:=e.is_ y _ (by simp [Op.operands]) hy;have h3:=e.is_ z _ (by simp [Op.operands]) hz;have hqs:=hqk.trans hq;obtain⟨⟨⟨es,ck,hb,he,hbn⟩,hC⟩,hM⟩:=hh.slot q _ hqs;obtain⟨es',ck',hr,he',hb'⟩:=ol ht hkt hb he hbn k v
 have hrun:(execOp a.eval ⟨none,.insert t x y z,ty,pos,aft,g⟩).run P u=.ok .skip (u.putObj b (.map es' ck')):=by
  simp only[execOp,h1,h2,h3,nw,hr,ny];rfl
 rw[hrun];simp only[Upon,Act.put];exact⟨H,_,hh.turnMap hqs he' hb'⟩
end
end Go.V
namespace Go.V
def Kh{X:Type}(vf:X->Value)(g:X->GR):Res where
 P v H u C:=∃ x,v=vf x/\(g x).P H u C
 st:=fun⟨x,h1,h2⟩ a b c d=>⟨x,h1,(g x).st h2 a b c d⟩
abbrev znv{X:Type}(vf:X->Value)(g:X->GR)(ty:TypeId):Res:=Kh (fun p:Nat×X=>.pointer (some ⟨p.1,0,none⟩)) fun p=>gj (xc p.1 (je (vf p.2)) ty) (g p.2)
abbrev zmc{V:Type}(kd:IntKind)(vc:V->Value)(l:List (Int×V)):Res:=Kh (fun m:Nat=>.map (some m)) fun m=>zmt m kd vc l
def MapVis{V:Type}(b:Nat)(kd:IntKind)(vc:V->Value)(l:List (Int×V))(H:Heap):Prop:=∃ es ck,H b=some (.map es ck)/\MiE kd vc l es.toList
def MapVis.le{V:Type}{vc:V->Value}{l:List (Int×V)}{H':Heap}(h:MapVis b kd vc l H)(hle:H.Le H'):MapVis b kd vc l H':=let ⟨es,ck,h1,h2⟩:=h;⟨es,ck,hle _ _ h1,h2⟩
section
def Ls{z cs:List Value}(e:Env F B O κ ⟨some d,.build t parts,ty,pos,aft,g⟩ a u H fp)
  (hp:PL P t places z) (hv:evP κ parts.toList=some vs) (hc:tj places z vs=some cs):(execOp a.eval ⟨some d,.build t parts,ty,pos,aft,g⟩).run P u=.ok (.value (.agg cs.toArray)) u:=by
 have hm:=Hw e parts.toList vs (fun p hp'=>by simp [Op.operands];exact⟨p.1,by simpa using hp'⟩) hv;obtain⟨zv,hz1,hz2⟩:=hp.zr
 have hbt:P.built t vs=some cs.toArray:=by
  have hpl:=hp.pl;unfold plI at hpl;unfold zrI at hz1;split at hz1
  ·rename_i it hit;unfold Program.built;split at hpl
   ·rename_i fs hu;simp only[hit,hu,hz1,hpl];rw[we,hz2];exact u4 (fun i p h=>by simpa using h) vs z cs hc
   ·rename_i m el hu;split at hpl
    ·rename_i ie hie;simp only[hit,hu,hz1,hie];cases hpl;rw[we,hz2]
     exact u4 (fun i p h=>by
      rw[zpr] at h
      cases hr:(List.range m)[i]? with
      | none=>rw[hr] at h;cases h
      | some j=>
       rw[hr] at h
       have:j=i:=by
        have:=zqc.1 hr;obtain⟨h1,h2⟩:=this;simpa using h2.symm
       subst this;simpa using h) vs z cs hc
    ·cases hpl
   ·cases hpl
  ·cases hz1
 have hr:=run_build (P:=P) u t vs.toArray cs.toArray (by simpa using hbt)
 have harr:(parts.map fun(p:Nat×Operand)=>(p.1,a.eval p.2))=vs.toArray:=by
  rw[<-hm,<-zpp,zq5]
 simp only[execOp,nw];show Result.andThen ((Instr.build t (parts.map fun(p:Nat×Operand)=>(p.1,a.eval p.2))).run P u) _=_;rw[harr,hr];rfl
def Tx{X:Type}{vf:X->Value}{gg:X->GR}(vs:X->List (Nat×Value))(cs:X->List Value)(hq:κ q=some (.own (Kh vf gg)))(hn:Nat.blt d n=true)(hg:gK ops κ ⟨some d,.build t parts,ty,pos,aft,g⟩=some true)
  (hne:Nat.beq q d=false) (hp:PL P t places z) (hv:∀ x,evP (upd κ q (.is (vf x))) parts.toList=some (vs x)) (hc:∀ x,tj places z (vs x)=some (cs x)):ww P F B n ops O κ ⟨some d,.build t parts,ty,pos,aft,g⟩ q pg d (.own (Kh (fun x=>.agg (cs x).toArray) gg)):=by
 rintro κ' a u hlk hks ⟨H,fp,hh⟩;unfold After;rw[na (xj hh hlk hg)];have hk':κ' q=some (.own (Kh vf gg)):=hks.trans hq;obtain⟨⟨x,hx,hown⟩,hM⟩:=hh.slot q _ hk'
 have e:=(hh.name q).env (κ:=upd κ q (.is (vf x))) (ops:=ops) (o:=⟨some d,.build t parts,ty,pos,aft,g⟩) fun s hs=>by
  by_cases h:s=q
  ·subst h;rw[xn,xn,hx]
  ·rw[xi _ _ h,xi _ _ h];exact hlk s hs
 rw[Ls e hp (hv x) (hc x)];simp only[Upon];exact⟨H,_,hh.usePut (C:=fp q) hk' ⟨Keep.refl _ _,hh.sub,mq _,fun _ _ _=>rfl⟩ (by simp [Act.put]) Z (fun t ht=>xr ht) (by rw[xz (by rw[hh.size];exact zm hn)];exact⟨x,rfl,hown⟩) fun k hk=>⟨.inl hk,(hM k hk).1,(hM k hk).2.1⟩⟩
def zda{X:Type}{vf:X->Value}{gg:X->GR}(hq:κ q=some (.own (Kh vf gg)))(hn:Nat.blt d n=true)(hg:gK ops κ ⟨some d,.box t (.tmp q),ty,pos,aft,g⟩=some true)
  (hne:Nat.beq q d=false):ww P F B n ops O κ ⟨some d,.box t (.tmp q),ty,pos,aft,g⟩ q pg d (.own (znv vf gg t)):=by
 rintro κ' a u hlk hks ⟨H,fp,hh⟩;unfold After;rw[na (xj hh hlk hg)];have hk':κ' q=some (.own (Kh vf gg)):=hks.trans hq;obtain⟨⟨x,hx,hown⟩,hM⟩:=hh.slot q _ hk'
 have hrun:(execOp a.eval ⟨some d,.box t (.tmp q),ty,pos,aft,g⟩).run P u=.ok (.value (.pointer (some ⟨u.heap.size,0,none⟩))) (u.alloc (.cells (je (vf x)).toArray t)):=by
  simp [execOp,hx,Instr.box,newVar,newRow,we]
 rw[hrun];simp only[Upon]
 have hgr:Grow (fp q) u H (u.alloc (.cells (je (vf x)).toArray t)) H:=by
  have h1:=Grow.hid hh.sub (.cells (je (vf x)).toArray t);exact⟨⟨h1.keep.os,h1.keep.tape,h1.keep.output,h1.keep.size,fun k hk _=>h1.keep.block k hk (fun h=>h),h1.keep.dr⟩,h1.sub,h1.le,fun k hk _=>h1.fresh k hk (fun h=>h)⟩
 have hsz:u.heap.size<(u.alloc (.cells (je (vf x)).toArray t)).heap.size:=xh (xy u _);refine⟨H,_,hh.usePut (C:=fun k=>k=u.heap.size\/fp q k) hk' hgr (by simp [Act.put]) Z (fun t ht=>xr ht) ?_ fun k hk=>?_⟩
 ·rw[xz (by rw[hh.size];exact zm hn)];refine⟨(u.heap.size,x),rfl,fun k=>k=u.heap.size,fp q,⟨xy _ _,fun _=>Iff.rfl⟩,(gg x).st hown (mq _) hgr.sub ⟨hgr.keep.os,hgr.keep.tape,hgr.keep.output,hgr.keep.size,hgr.keep.dr⟩ (fun k hk=>?_),fun k=>Iff.rfl,fun k h1 h2=>?_⟩
  ·exact jw u _ (hM k hk).1
  ·have:=(hM k h2).1;omega
 ·rcases hk with rfl | hk
  ·exact⟨.inr (nu _),by omega,jg hh.sub (nu _)⟩
  ·exact⟨.inl hk,by have:=(hM k hk).1;omega,(hM k hk).2.1⟩
def Has.holdRf{X:Type}{t:Nat}{vf:X->Value}{gg:X->GR}(hk:κ t=some (.own (Kh vf gg)))(h:Has F B O n κ a u):∃ x,Has F B O n (upd (upd (upd κ t pg) q (.own (gg x).res)) t (.is (vf x))) a u:=by
 obtain⟨H,fp,h⟩:=h;obtain⟨⟨x,hv,hx⟩,hM⟩:=h.slot t _ hk;have h2:=h.usePut (d:=q) (a':=a) (r':=(gg x).res) (C:=fp t) hk ⟨Keep.refl _ _,h.sub,mq _,fun _ _ _=>rfl⟩ rfl rfl (fun _ _=>rfl) hx fun k hk=>⟨.inl hk,(hM k hk).1,(hM k hk).2.1⟩
 have h3:=h2.name t;rw[hv] at h3;exact⟨x,H,_,h3⟩
def Kf(t q:Nat){X:Type}{vf:X->Value}{gg:X->GR}{c:Code}(hk:κ t=some (.own (Kh vf gg)))(h:∀ x,V P F B n O (upd (upd (upd κ t pg) q (.own (gg x).res)) t (.is (vf x))) c ztg):V P F B n O κ c ztg:=fun a u hh=>let ⟨x,h'⟩:=hh.holdRf (q:=q) hk;h x a u h'
def rt(t q:Nat){X:Type}{vf:X->Value}{gg:X->GR}(hk:κ t=some (.own (Kh vf gg)))(h:∀ x,VO P F B n O ops (upd (upd (upd κ t pg) q (.own (gg x).res)) t (.is (vf x))) os ztg):VO P F B n O ops κ os ztg:=fun a u hh=>let ⟨x,h'⟩:=hh.holdRf (q:=q) hk;h x a u h'
def Has.packRf{X:Type}{t:Nat}{vf:X->Value}{gg:X->GR}(x:X)(hk:κ q=some (.own (gg x).res))(ht:κ t=some (.is (vf x)))(h:Has F B O n κ a u):Has F B O n (upd (upd κ q pg) t (.own (Kh vf gg))) a u:=by
 obtain⟨H,fp,h⟩:=h;obtain⟨hx,hM⟩:=h.slot q _ hk;have hv:a.eval (.tmp t)=vf x:=h.slot t _ ht;exact⟨H,_,h.usePut (d:=t) (a':=a) (r':=Kh vf gg) (C:=fp q) hk ⟨Keep.refl _ _,h.sub,mq _,fun _ _ _=>rfl⟩ Z Z (fun _ _=>rfl) ⟨x,hv,hx⟩ fun k hk=>⟨.inl hk,(hM k hk).1,(hM k hk).2.1⟩⟩
def ze6(t q:Nat){X:Type}(vf:X->Value)(gg:X->GR){c:Code}(x:X)(hk:κ q=some (.own (gg x).res))(ht:κ t=some (.is (vf x)))(h:V P F B n O (upd (upd κ q pg) t (.own (Kh vf gg))) c ztg):V P F B n O κ c ztg:=fun a u hh=>h a u (hh.packRf x hk ht)
def Px(L:Tabs P){fn:Func}{B0:Heap}(gs:Nat){r0:GR}{r:Res}{rs:List ResultVar}(hrs:fn.results=rs.toArray)
  (hQ:∀ a u,bodyPostM Fence.wide 0 P fn (li F.w0 B0 F.L (zje F.w0 r)) .ret a u->ztg .ret a u) (hs:Since F B0 B) (hk:κ gs=some (.own r0.res))
  (h:∀ H,Ee L F B O κ H rs [] (fun vs=>tup vs=v)) (hr:∀ H u C,B.Le H->zth H u->r0.P H u C->r.P v H u C) (hL:F.L=noL:=by rfl) (hd:F.ds=[]:=by rfl):V P F B n O κ .ret ztg:=fun a u hh=>by
 obtain⟨H,fp,hH⟩:=hh;refine wpIn_ret (hQ a u ?_);have h0:=hH.defers;rw[hd] at h0;show LeavesInM _ _ _ _ _ _ a.defers _ _;rw[h0];obtain⟨vs,h1,h2⟩:=j9 L hH hrs (h H);obtain⟨hown,hM⟩:=hH.slot gs _ hk;refine⟨_,h1,_,rfl,H,⟨hH.keep,hH.sub,hs.le.trans hH.base,fun k hk hl=>(hH.fresh k hk hl).trans (hs.fresh k hk hl)⟩,fp gs,?_,fun k hk=>?_⟩
 ·rw[h2];exact hr H u (fp gs) hH.base hH.sub hown
 ·obtain⟨g1,g2,g3,_⟩:=hM k hk;refine⟨?_,g1,g2⟩;rcases g3 with g3 | g3
  ·exact g3
  ·have g3':F.L k:=g3;rw[hL] at g3';exact g3'.elim
def StepOK.turn{r r':Res}(h:StepOK P F B n ops O κ o d (.own r))(hr:∀ v H u C,B.Le H->r.P v H u C->r'.P v H u C):StepOK P F B n ops O κ o d (.own r'):=
 fun κ' a u hl hh=>After.mono (fun a' u' h2=>by have:=h2.turnO (t:=d) (r':=r') (xn ..) hr;rwa [j8] at this) (h κ' a u hl hh)
def zdm{V:Type}{vc:V->Value}{l:List (Int×V)}:∀ v H u C,B.Le H->(Uv kd vc l).P v H u C->(zmc kd vc l).P v H u C:=fun _ _ _ _ _ ⟨b,h1,h2,h3⟩=>⟨b,h1,h2,h3⟩
variable {Y:Type}  {vc:Y->Value} {l:List (Int×Y)}
def Oy(kd:IntKind)(vc:Y->Value){k:IntKind}{c:Int}(hn:Nat.blt d n=true)(ht:P.underlying t=some (.map kt et))(hx:evK κ x=some (.int k c))(hg:gK ops κ ⟨some d,.makeMap t (some x),ty,pos,aft,g⟩=some true):
  StepOK P F B n ops O κ ⟨some d,.makeMap t (some x),ty,pos,aft,g⟩ d (.own (zmc kd vc [])):=by
 refine StepOK.turn (r:=Uv kd vc []) ?_ zdm;rintro κ' a u hl ⟨H,fp,hh⟩;have hn:d<n:=by simpa using hn
 unfold After;rw[na (xj hh hl hg)];have e:=hh.env hl;have h1:=e.is_ x _ (by simp [Op.operands]) hx
 have hrun:(execOp a.eval ⟨some d,.makeMap t (some x),ty,pos,aft,g⟩).run P u=.ok (.value (.map (some u.heap.size))) (u.alloc (.map #[] 0)):=by
  simp [execOp,Instr.makeMap,h1,asInt,asIntOf,run_underlying ht,nw]
 rw[hrun];simp only[Upon];have hg2:=hh.grow (Grow.hid hh.sub (.map #[] 0));refine⟨H,_,hg2.putR (C:=fun k=>k=u.heap.size) (by simp [Act.put]) Z (fun t ht=>xr ht) ⟨u.heap.size,xz (by rw[hh.size];exact hn),⟨_,_,xy _ _,rfl,za9⟩,fun _=>Iff.rfl⟩ (fun k hk=>?_) fun t r' _ ht k hf hk=>?_⟩
 ·subst hk;exact⟨xh (xy u _),jg hh.sub (nu _),.inl hh.keep.size,fun y hy e=>by have:=xh (hh.boxes y hy).1;omega⟩
 ·have:=((hh.slot t _ ht).2 k hf).1;omega
def Dd(k:Int){r z:Value}(ht:P.underlying t=some (.map kt et))(hkt:P.underlying kt=some (.int kd))(hz:∀ w,(zeroValue et).run P w=.ok z w)
  (hv:MapVis b kd vc l B) (hx:evK κ x=some (.map (some b))) (hy:evK κ y=some (.int kd k)) (hn:Nat.blt d n=true) (hg:gK ops κ ⟨some d,.lookup t x y false,ty,pos,aft,g⟩=some true)
  (hr:(um k l).elim z vc=r):
  StepOK P F B n ops O κ ⟨some d,.lookup t x y false,ty,pos,aft,g⟩ d (.is r):=
 kf rfl (zm hn) hg trivial fun a u H fp e=>by
  have h1:=e.is_ x _ (by simp [Op.operands]) hx;have h2:=e.is_ y _ (by simp [Op.operands]) hy;obtain⟨es,ck,hb,he⟩:=hv;refine⟨(um k l).elim z vc,?_,hr⟩;simp only[execOp,h1,h2,nw,N5 ht hkt (e.sub _ _ (e.base _ _ hb)) he k (hz u),ny];rfl
end
end Go.V
namespace Go.V.L11
open Go.V.L2 Go.V.L4
def _root_.Za0(t:Wr Y->A:=by intro h;refine z7 (O0 Z Z Z Z) Z ?_;exact h.1)(h:Y):A:=t ⟨h⟩
def _root_.ZdN(t:Wr Y->A:=by intro h;refine z7 (zhv Z Z Z Z) Z ?_;exact h.1)(h:Y):A:=t ⟨h⟩
def _root_.Zah(t:Wr Y->A:=by exact fun h=>(Zaw∘Zi) h.1)(h:Y):A:=t ⟨h⟩
def _root_.Zbu(t:Wr Y->A:=by exact fun h=>(ZP∘ZdN) h.1)(h:Y):A:=t ⟨h⟩
def lq:Nat->wl->wl
 | _,[]=>[]
 | n,x::xs=>(Value.int .i64 (n:Int)::x)::lq (n+1) xs
def Bm:∀ {a b:wl} {n:Nat},lq n (a++b)=lq n a++lq (n+a.length) b
 | [],b,n=>rfl
 | x::a,b,n=>by
  show _::lq (n+1) (a++b)=_;rw[Bm,nz,show n+1+a.length=n+(a.length+1) by omega];rfl
def Dh(a:wl)(x:List Value):lq 1 (a++[x])=lq 1 a++[Value.int .i64 ((a.length+1:Nat):Int)::x]:=by
 rw[Bm,zrm 1];rfl
def Ci(stop:wl->Bool):∀ (xs pre:wl),lq 1 (jn (fun p=>stop (lq 1 p)) pre xs)=jn stop (lq 1 pre) (lq (1+pre.length) xs)
 | [],pre=>rfl
 | x::xs,pre=>by
  have e:lq 1 (pre++[x])=lq 1 pre++[Value.int .i64 ((1+pre.length:Nat):Int)::x]:=by rw[Bm];rfl
  show lq 1 (if stop (lq 1 (pre++[x]))=true then _ else _)=(if stop (lq 1 pre++[Value.int .i64 ((1+pre.length:Nat):Int)::x])=true then _ else _);rw[<-e];split
  ·rfl
  ·rw[Ci stop xs (pre++[x]),nr];rfl
def zal{l:List ByteArray}{x:List Value}(h:pre++[x]<+:ug l):∃ y,x=[Value.string y]:=by
 have:x∈ug l:=h.subset (by simp);obtain⟨y,_,e⟩:=zo9.1 this;exact⟨y,e.symm⟩
def Hg:∀ {l acc:List UInt8},(Uy acc l).length<=l.length+(if acc=[] then 0 else 1)
 | [],acc=>by
  show(if acc=[] then ([]:List (List UInt8)) else [acc]).length<=_;split<;>simp
 | c::l,acc=>by
  show(if c=10 then (acc++[c])::Uy [] l else Uy (acc++[c]) l).length<=_;split
  ·have:=Hg (l:=l) (acc:=[]);rw[na rfl] at this;simp only[nz];split<;>omega
  ·have:=Hg (l:=l) (acc:=acc++[c]);rw[nc (by simp)] at this;simp only[nz];split<;>omega
def Hj(s:ByteArray):(a8 s).length<=s.size:=by
 unfold a8;rw[my];have:=Hg (l:=s.data.toList) (acc:=[]);rw[na rfl,ue] at this;exact this
def cnS(stop:wl->Bool)(pre:wl):Int:=if stop (lq 1 pre)=true then (pre.length:Int) else ((pre.length+1:Nat):Int)
def zas(h:stop (lq 1 pre)=false):cnS stop pre=((pre.length+1:Nat):Int):=nc (by rw[h];decide)
def zed(h:stop (lq 1 pre)=true):cnS stop pre=(pre.length:Int):=na h
attribute [local irreducible] V N X VO Par StepOK Has Ret RetL RetO RetT kx RetX RetY Src
def Tf(hB:zth B w):
  RetO zti 191 [.string s] w B (Kh (fun b:Nat=>.func (.func 241) #[] #[kg b]) fun b=>xc b [.string s] Kt):=by
 refine wz Tryz.func191 Z Tryz.ntmps191 (np Z) hB ((Zbu∘Zd) ?_);refine k9 1 900 rfl fun b=>?_;refine(ZE∘Za0∘Zc) ?_;exact Px L 900 (r0:=xc b [.string s] Kt) (v:=.func (.func 241) #[] #[kg b]) (rs:=[.tmp 2]) Z (fun _ _ h=>h) nq Z (fun _=>rfl) (fun H u C hle _ hr=>⟨b,rfl,hr⟩)
def Pd(hs:s.size<=1099511627776){sb:Nat}(hB:zth B w)(hb:B sb=some (.cells #[.string s] Kt)):zms zti 190 [kg sb] w B (lq 1 (ug (a8 s))):=by
 intro ly ztc stop C hst hY hJ hC;refine xa 77 (ztc []) Tryz.func190 Z Tryz.ntmps190 (np Z) hB hJ hC ((Zbu∘Zi) ?_);refine k9 2 81 rfl fun yb=>?_;refine wk 81 rfl fun H1 hs1 _ hyb=>?_;refine(ZE∘Zah) ?_;refine k9 3 79 rfl fun nb=>?_;have hb1:=hs1.le _ _ hb;refine Z9 (h:=?_);refine z7 (qd L (qp Z hb1) Z Z Z Z) Z (z7 (wh L Z Z (zm Z) Z Z Z (fun u H hH _ _=>Tf hH)) Z (Zdl (h:=?_)));refine Kf 6 80 rfl fun b=>?_
 refine Nc L 80 (gr:=xc b [.string s] Kt) (gf:=241) (caps:=[kg b]) [(2,kg yb),(3,kg nb)]
  (fun pre=>[(77,(ztc (lq 1 pre)).res),(79,xp nb [.int .i64 (cnS stop pre)] 3)])
  (fun pre x=>[(77,.own (ztc (lq 1 pre)).res),(79,.own (xp nb [.int .i64 ((pre.length+1:Nat):Int)] 3)),(2,.is (kg yb)),(3,.is (kg nb)),(4,.is (x.headD undef))])
  (ug (a8 s)) (fun p=>stop (lq 1 p)) (fun _=>.ret) rfl rfl rfl rfl
  (fun pre p hp=>by simp only[ma,m4,zqe,or_false] at hp;rcases hp with rfl | rfl<;>exact Nat.ne_of_beq_eq_false rfl) ⟨rfl,by rw[zas hst];rfl,rfl,rfl,nm⟩
  (fun pre p hp=>by simp only[ma,m4,zqe,or_false] at hp;rcases hp with rfl | rfl<;>exact np rfl) hst (fun x hx=>by obtain⟨y,_,rfl⟩:=zo9.1 hx;rfl) E
  (fun u H hH hle=>zcv hs hH) ?asg ?bd ?dn ?st
 case asg=>
  intro w1 Ln B' l' D' o pre x' hpre hstp hBB;obtain⟨y,rfl⟩:=zal hpre;refine(ZK∘Zbw) ?_;exact zbn nq ⟨Z,by rw[<-zas hstp];rfl,Z,Z,Z,nm⟩
 case bd=>
  intro w1 Ln B' l' D' o pre x' hpre hstp hBB;have hlen:=hpre.length_le;obtain⟨y,rfl⟩:=zal hpre;have hll:=Hj s;simp only[nr,my,nz,mz] at hlen;have hyb2:=hBB _ _ hyb
  have hpre':lq 1 pre++[[Value.int .i64 ((pre.length+1:Nat):Int),Value.string y]]<+:lq 1 (ug (a8 s)):=by
   obtain⟨t,ht⟩:=hpre;rw[<-ht,Bm,Dh];exact List.prefix_append _ _
  have hwk:IntKind.i64.wrap (((pre.length+1:Nat):Int)+1)=((pre.length+1+1:Nat):Int):=xb T T;have e3:lq 1 (pre++[[Value.string y]])=lq 1 pre++[[Value.int .i64 ((pre.length+1:Nat):Int),Value.string y]]:=Dh _ _;have hpl:(pre++[[Value.string y]]).length=pre.length+1:=by simp
  cases hb':stop (lq 1 pre++[[Value.int .i64 ((pre.length+1:Nat):Int),Value.string y]])
  ·refine(ZH∘ZcI) ?_;refine z7 (qd L (qp Z hyb2) Z Z Z Z) Z (yd (qg L (q:=79) Z Z Z Z) (Za (h:=?_)));refine qe (ux (gs:=77) hY hpre' hstp (nh Bool.not hb') Z Z Z Z Z) ((Zr∘Zae∘Zbi∘Zt) ?_);refine yd (qg L (q:=79) Z Z Z Z) (Z7 (h:=?_));refine xl (yo L (q:=79) (cs':=[.int .i64 ((pre.length+1+1:Nat):Int)]) Z Z Z Z Z) ((Zac∘Za7) ?_);exact zbo nq (by rw[e3];exact hb') ⟨by rw[e3];rfl,by rw[zas (by rw[e3];exact hb'),hpl];rfl,nm⟩
  ·refine(ZH∘ZcI) ?_;refine z7 (qd L (qp Z hyb2) Z Z Z Z) Z (yd (qg L (q:=79) Z Z Z Z) (Za (h:=?_)));refine qe (ux (gs:=77) hY hpre' hstp (nh Bool.not hb') Z Z Z Z Z) ((Zr∘Zw) ?_);exact F3 (Sp (Au (Uu nq (by rw[e3];exact hb') Z ⟨by rw[e3];rfl,by rw[zed (by rw[e3];exact hb'),hpl];rfl,nm⟩)))
 case st=>
  intro l' D' o hstop;exact jj L 77 rfl (fun _ _ h=>h) hs1 Z (by rw[Ci];rfl)
 case dn=>
  intro l' D' o hgo;exact xu L 77 rfl (fun _ _ h=>h) hs1 Z (by rw[Ci];rfl)
def LinAt(s:ByteArray)(v:Value)(H:Heap):Prop:=∃ b,v=.func (.func 190) #[] #[kg b]/\H b=some (.cells #[.string s] Kt)
def LinAt.mono:Kn.mono (.sat (LinAt s)):=fun _ _ _ ⟨b,h1,h2⟩ hle=>⟨b,h1,hle _ _ h2⟩
def Yt(hB:zth B w):Ret zti 130 [.string s] w B (LinAt s):=by
 refine yn Tryz.func130 Z Tryz.ntmps130 (np Z) hB ((Zbu∘Zd) ?_);refine k9 1 900 rfl fun b=>?_;refine wk 900 rfl fun H1 hs1 _ hyb=>?_;refine(ZE∘Za0∘Zc) ?_;refine yj L (rs:=[.tmp 2]) Z (fun _ _ h=>h) hs1 fun u H hH hle=>?_;exact⟨b,rfl,hle _ _ hyb⟩
end Go.V.L11
namespace Go.V.L11
open Go.V.L2 Go.V.L4
def Nk(p:wl):List ByteArray:=p.map fun x=>match x with
 | [_,.string y]=>y
 | _=>⟨#[]⟩
def wy:∀ {ls:List ByteArray} {n:Nat},Nk (lq n (ug ls))=ls
 | [],_=>rfl
 | x::ls,n=>by
  show x::Nk (lq (n+1) (ug ls))=_;rw[wy]
def zd8(a b:List ByteArray):ug (a++b)=ug a++ug b:=zpo ..
def Di(ls:List ByteArray)(y:ByteArray):lq 1 (ug (ls++[y]))=lq 1 (ug ls)++[[Value.int .i64 ((ls.length+1:Nat):Int),Value.string y]]:=by
 rw[zd8];have:=Dh (ug ls) [Value.string y];rw[my] at this;exact this
def Yb:∀ {L:List ByteArray} {n:Nat} {p:wl},p<+:lq n (ug L)->∃ ls,p=lq n (ug ls)/\ls<+:L
 | [],n,p,h=>⟨[],List.prefix_nil.1 h,List.prefix_rfl⟩
 | x::L,n,[],h=>⟨[],rfl,List.nil_prefix⟩
 | x::L,n,q::p,h=>by
  have h':q::p<+:[Value.int .i64 (n:Int),Value.string x]::lq (n+1) (ug L):=h;rw[List.cons_prefix_cons] at h';obtain⟨rfl,h2⟩:=h';obtain⟨ls,rfl,h3⟩:=Yb h2;exact⟨x::ls,rfl,List.cons_prefix_cons.2 ⟨rfl,h3⟩⟩
def Yc{L:List ByteArray}{x:List Value}(h:pre++[x]<+:lq 1 (ug L)):∃ ls y,pre=lq 1 (ug ls)/\x=[Value.int .i64 ((ls.length+1:Nat):Int),Value.string y]/\ls++[y]<+:L:=by
 obtain⟨ls,e,hp⟩:=Yb h;rcases zs6 ls with rfl | ⟨ls',y,rfl⟩
 ·exact ni e (by simp [ug,lq])
 ·rw[zsr] at e hp;rw[Di] at e;obtain⟨h1,h2⟩:=List.append_inj' e rfl;exact⟨ls',y,h1,by simpa using h2,hp⟩
def Ch{X:Type}(rd:ByteArray->X×Int):∀ (xs ls:List ByteArray),uk rd 1 ls=true->
  ∃ ks,jn (fun p=>!uk rd 1 (Nk p)) (lq 1 (ug ls)) (lq (1+ls.length) (ug xs))=lq 1 (ug ks)/\rq rd [] 1 ks=rq rd [] 1 (ls++xs)/\(uk rd 1 ks=true->ks=ls++xs)
 | [],ls,h=>⟨ls,rfl,by rw[mo],fun _=>(mo _).symm⟩
 | x::xs,ls,h=>by
  have e1:lq 1 (ug ls)++[[Value.int .i64 ((1+ls.length:Nat):Int),Value.string x]]=lq 1 (ug (ls++[x])):=by rw[Di,zrm 1]
  show ∃ ks,(if (!uk rd 1 (Nk (lq 1 (ug ls)++[[Value.int .i64 ((1+ls.length:Nat):Int),Value.string x]])))=true then _ else _)=_/\_;rw[e1,wy];cases hg:uk rd 1 (ls++[x])
  ·refine⟨ls++[x],na Z,?_,fun h'=>by rw[hg] at h';cases h'⟩;rw[da,h] at hg;exact(zc4 h (by simpa using hg)).symm
  ·obtain⟨ks,h1,h2,h3⟩:=Ch rd xs (ls++[x]) hg;refine⟨ks,?_,by rw[h2,mn];rfl,fun h'=>by rw[h3 h',mn];rfl⟩;rw[nc E,<-h1,nr];rfl
def tup3{φ1 φ2 φ3:Value->Heap->Prop}{a b c:Value}(h1:φ1 a H)(h2:φ2 b H)(h3:φ3 c H):TupS [φ1,φ2,φ3] (.tuple #[a,b,c]) H:=⟨[a,b,c],rfl,rfl,fun i φ x hi hx=>by
 match i with
 | 0=>cases hi;cases hx;exact h1
 | 1=>cases hi;cases hx;exact h2
 | 2=>cases hi;cases hx;exact h3⟩
end Go.V.L11
namespace Go.V
section
def V4(L:Tabs P){fo:Operand}(hop:o.op=.call { callee:=.value fo,args:=#[],argTypes:=#[] })(hfe:a.eval fo=.func (.func f) fst.toArray cap.toArray)(hfn:L.fn f=some ()):
  (execOp a.eval o).run P u=.ok (.enter f ((fst++cap).toArray)) u:=by
 simp only[execOp,hop,resolve,hfe,Deferred.ofValue,nw,mf,ny,invoke];rw[pd L hfn];simp
def jd(L:Tabs P)(q:Nat)(r':GR)(v:Value){r:GR}{fo:Operand}
  (hn:Nat.blt d n=true) (hg:gK ops κ ⟨some d,.call { callee:=.value fo,args:=#[],argTypes:=#[] },ty,pos,aft,g⟩=some true)
  (hf:evK κ fo=some (.func (.func f) fst.toArray cap.toArray)) (hfn:L.fn f=some ()) (hq:κ q=some (.own r.res))
  (h:∀ u H C,zth H u->B.Le H->r.P H u C->(ZCB C u H)->RetX P f (fst++cap) u H C r' v):
  ww P F B n ops O κ ⟨some d,.call { callee:=.value fo,args:=#[],argTypes:=#[] },ty,pos,aft,g⟩ q (.own r'.res) d (.is v):=by
 rintro κ' a u hlk hks ⟨H,fp,hh⟩;unfold After;rw[na (xj hh hlk hg)];have hk':κ' q=some (.own r.res):=hks.trans hq;obtain⟨hown,hM⟩:=hh.slot q _ hk';have e2:=hh.env hlk;have hfe:a.eval fo=.func (.func f) fst.toArray cap.toArray:=e2.is_ fo _ (by simp [Op.operands,Call.operands]) hf;have hc:=h u H (fp q) hh.sub hh.base hown fun k hk=>⟨(hM k hk).1,(hM k hk).2.1⟩
 rw[V4 L rfl hfe hfn];simp only[Upon];refine Calls.mono hc fun e' u' hp=>?_;obtain⟨x,rfl,H',g',hx,C',hv,hC'⟩:=hp;have h2:=hh.usePut (d:=q) (a':=a) (r':=r'.res) hk' g' rfl rfl (fun _ _=>rfl) hv hC';rw[j8] at h2;exact⟨x,Z,H',_,h2.put (k:=.is v) (zm hn) trivial hx⟩
end
end Go.V
section
open Go.V
attribute [local irreducible] Has N Par Ret RetL RetO RetT RetX RetY Src StepOK V VO X kx
namespace Go.V.L4
def _root_.Zcn(t:Wr Y->A:=by exact fun h=>(Z0∘ZS) h.1)(h:Y):A:=t ⟨h⟩
def _root_.Zco(t:Wr Y->A:=by exact fun h=>(ZC∘Zb) h.1)(h:Y):A:=t ⟨h⟩
def tw{bs:List Nat}{e:Int}(hb:∀ b∈bs,b<=255)(hl:bs.length<=1099511627776)(hat:R.at_<=bs.length)(hB:zth B w)(hs:BsV bs fu sv B)(hr:(GRd rb sv R).P B w C)(hC:ZCB C w B):
  RetX zti 52 [kg rb,.int .u64 lim,.int .i64 e] w B C (GRd rb sv (az bs lim e R).2) (.int .u64 ((az bs lim e R).1:Nat)):=by
 unfold RetX;refine xa 900 (GRd rb sv R) Tryz.func52 Z Tryz.ntmps52 (np Z) hB hr hC ?_;rw[xd];obtain⟨⟨n,⟨at1,bad1,err1⟩⟩,hz⟩:∃ z,Mg bs R=z:=⟨_,rfl⟩
 obtain⟨at_,bad,err⟩:=R;unfold az;rw[hz];dsimp only;have hnum:=fun(u:World) (H:Heap) (C2:Nat->Prop) (hH:zth H u) (hle:B.Le H) hr2 hC2=>hz ▸ Fa (R:=⟨at_,bad,err⟩) (rb:=rb) (C:=C2) hb hl hat hH (hs.le hle) hr2 hC2;by_cases hlt:lim<n
 ·rw[na hlt];refine(Z4∘Za∘ZS∘Zbx) ?_;refine qe (yh L 900 (GRd rb sv ⟨at1,bad1,err1⟩) (.int .u64 n) (r:=GRd rb sv ⟨at_,bad,err⟩) Z Z Z Z Z hnum) ((Zj∘Zc8∘ZO∘Zw∘Z2∘Z3) ?_);refine qe (yx L 900 (GRd rb sv ((⟨at1,bad1,err1⟩:Rd).fail at_ e)) (r:=GRd rb sv ⟨at1,bad1,err1⟩) Z Z Z Z Z (fun u H C2 hH _ hr2 hC2=>od hH hr2 hC2)) ((Zi∘ZU∘Zc) ?_);exact xv L 900 (r:=xc rb _ uz) (rs:=[.tmp 6]) Z (fun _ _ h=>h) nq Z Z (fun _=>rfl)
 ·rw[nc hlt];refine(Z4∘Za∘ZS∘Zbx) ?_;refine qe (yh L 900 (GRd rb sv ⟨at1,bad1,err1⟩) (.int .u64 n) (r:=GRd rb sv ⟨at_,bad,err⟩) Z Z Z Z Z hnum) ((Zj∘Zc8∘ZL∘Zm∘ZU∘Zc) ?_);exact xv L 900 (r:=xc rb _ uz) (rs:=[.tmp 6]) Z (fun _ _ h=>h) nq Z Z (fun _=>rfl)
def Sx{gf:Rd->Int×Rd}{fr:Nat}(hfn:L.fn fr=some ()){C:Nat->Prop}(hB:zth B w)(hr:(GRd rb sv R).P B w C)(hC:ZCB C w B)
  (hf:R.err=0->∀ (u:World) (H:Heap) (C:Nat->Prop),zth H u->B.Le H->(GRd rb sv R).P H u C->(ZCB C u H)->RetX zti fr (fst++cap) u H C (GRd rb sv (gf R).2) (.int .i64 ((gf R).1:Int))):
  RetX zti 50 [kg rb,.func (.func fr) fst.toArray cap.toArray] w B C (GRd rb sv (dq gf 0 R).2) (.int .i64 ((dq gf 0 R).1:Int)):=by
 unfold RetX;refine xa 900 (GRd rb sv R) Tryz.func50 Z Tryz.ntmps50 (np Z) hB hr hC ?_;rw[xd];obtain⟨⟨n,⟨at1,bad1,err1⟩⟩,hz⟩:∃ z,gf R=z:=⟨_,rfl⟩
 obtain⟨at_,bad,err⟩:=R;unfold dq;rw[hz] at hf |-;dsimp only at hf |-;by_cases h0:err≠0
 ·rw[na h0];refine(Z4∘Zj∘Zy) ?_;refine qe (yh L 900 (GRd rb sv ⟨at_,bad,err⟩) (.bool true) (r:=GRd rb sv ⟨at_,bad,err⟩) Z Z Z Z Z (fun u H C2 hH _ hr2 hC2=>ke (nf h0) hH hr2 hC2)) ((ZD∘ZA∘Zc) ?_);exact xv L 900 (r:=xc rb _ uz) (rs:=[.tmp 4]) Z (fun _ _ h=>h) nq Z Z (fun _=>rfl)
 ·have he:err=0:=m5.1 h0;subst he;rw[nc h0];have hf:=hf rfl;by_cases h1:err1≠0
  ·rw[na h1];refine(Z4∘Zj∘Zy) ?_;refine qe (yh L 900 (GRd rb sv ⟨at_,bad,0⟩) (.bool false) (r:=GRd rb sv ⟨at_,bad,0⟩) Z Z Z Z Z (fun u H C2 hH _ hr2 hC2=>ke (ng h0) hH hr2 hC2)) ((Zm∘Zcn∘Zb6) ?_);refine qe (jd L 900 (GRd rb sv ⟨at1,bad1,err1⟩) (.int .i64 n) (r:=GRd rb sv ⟨at_,bad,0⟩) Z Z Z hfn Z hf) ((Zj∘ZQ∘ZS∘ZaO∘Zco∘Zap) ?_);refine xl (yo L (q:=900) (cs':=[sv,.int .i64 at_,.int .i64 bad1,.int .i64 err1]) Z Z Z Z Z) ((Zi∘ZaQ∘Zc) ?_);exact xv L 900 (r:=xc rb _ uz) (rs:=[.tmp 4]) Z (fun _ _ h=>h) nq Z Z (fun _=>rfl)
  ·have he:err1=0:=m5.1 h1;subst he;rw[nc h1];refine(Z4∘Zj∘Zy) ?_;refine qe (yh L 900 (GRd rb sv ⟨at_,bad,0⟩) (.bool false) (r:=GRd rb sv ⟨at_,bad,0⟩) Z Z Z Z Z (fun u H C2 hH _ hr2 hC2=>ke (ng h0) hH hr2 hC2)) ((Zm∘Zcn∘Zb6) ?_);refine qe (jd L 900 (GRd rb sv ⟨at1,bad1,0⟩) (.int .i64 n) (r:=GRd rb sv ⟨at_,bad,0⟩) Z Z Z hfn Z hf) ((Zj∘ZQ∘ZS∘Zb8∘Zal∘Zc) ?_);exact xv L 900 (r:=xc rb _ uz) (rs:=[.tmp 4]) Z (fun _ _ h=>h) nq Z Z (fun _=>rfl)
def Ss{gf:Rd->Nat×Rd}{fr:Nat}(hfn:L.fn fr=some ()){C:Nat->Prop}(hB:zth B w)(hr:(GRd rb sv R).P B w C)(hC:ZCB C w B)
  (hf:R.err=0->∀ (u:World) (H:Heap) (C:Nat->Prop),zth H u->B.Le H->(GRd rb sv R).P H u C->(ZCB C u H)->RetX zti fr (fst++cap) u H C (GRd rb sv (gf R).2) (.int .u64 ((gf R).1:Nat))):
  RetX zti 206 [kg rb,.func (.func fr) fst.toArray cap.toArray] w B C (GRd rb sv (dq gf 0 R).2) (.int .u64 ((dq gf 0 R).1:Nat)):=by
 unfold RetX;refine xa 900 (GRd rb sv R) Tryz.func206 Z Tryz.ntmps206 (np Z) hB hr hC ?_;rw[xd];obtain⟨⟨n,⟨at1,bad1,err1⟩⟩,hz⟩:∃ z,gf R=z:=⟨_,rfl⟩
 obtain⟨at_,bad,err⟩:=R;unfold dq;rw[hz] at hf |-;dsimp only at hf |-;by_cases h0:err≠0
 ·rw[na h0];refine(Z4∘Zj∘Zy) ?_;refine qe (yh L 900 (GRd rb sv ⟨at_,bad,err⟩) (.bool true) (r:=GRd rb sv ⟨at_,bad,err⟩) Z Z Z Z Z (fun u H C2 hH _ hr2 hC2=>ke (nf h0) hH hr2 hC2)) ((ZD∘ZA∘Zc) ?_);exact xv L 900 (r:=xc rb _ uz) (rs:=[.tmp 4]) Z (fun _ _ h=>h) nq Z Z (fun _=>rfl)
 ·have he:err=0:=m5.1 h0;subst he;rw[nc h0];have hf:=hf rfl;by_cases h1:err1≠0
  ·rw[na h1];refine(Z4∘Zj∘Zy) ?_;refine qe (yh L 900 (GRd rb sv ⟨at_,bad,0⟩) (.bool false) (r:=GRd rb sv ⟨at_,bad,0⟩) Z Z Z Z Z (fun u H C2 hH _ hr2 hC2=>ke (ng h0) hH hr2 hC2)) ((Zm∘Zcn∘Zb6) ?_);refine qe (jd L 900 (GRd rb sv ⟨at1,bad1,err1⟩) (.int .u64 n) (r:=GRd rb sv ⟨at_,bad,0⟩) Z Z Z hfn Z hf) ((Zj∘ZQ∘ZS∘ZaO∘Zco∘Zap) ?_);refine xl (yo L (q:=900) (cs':=[sv,.int .i64 at_,.int .i64 bad1,.int .i64 err1]) Z Z Z Z Z) ((Zi∘ZaQ∘Zc) ?_);exact xv L 900 (r:=xc rb _ uz) (rs:=[.tmp 4]) Z (fun _ _ h=>h) nq Z Z (fun _=>rfl)
  ·have he:err1=0:=m5.1 h1;subst he;rw[nc h1];refine(Z4∘Zj∘Zy) ?_;refine qe (yh L 900 (GRd rb sv ⟨at_,bad,0⟩) (.bool false) (r:=GRd rb sv ⟨at_,bad,0⟩) Z Z Z Z Z (fun u H C2 hH _ hr2 hC2=>ke (ng h0) hH hr2 hC2)) ((Zm∘Zcn∘Zb6) ?_);refine qe (jd L 900 (GRd rb sv ⟨at1,bad1,0⟩) (.int .u64 n) (r:=GRd rb sv ⟨at_,bad,0⟩) Z Z Z hfn Z hf) ((Zj∘ZQ∘ZS∘Zb8∘Zal∘Zc) ?_);exact xv L 900 (r:=xc rb _ uz) (rs:=[.tmp 4]) Z (fun _ _ h=>h) nq Z Z (fun _=>rfl)
def N7{bs:List Nat}(hb:∀ b∈bs,b<=255)(hl:bs.length<=1099511627776)(hat:R.at_<=bs.length)(hB:zth B w)(hs:BsV bs fu sv B)(hr:(GRd rb sv R).P B w C)(hC:ZCB C w B):
  RetX zti 151 [kg rb] w B C (GRd rb sv (sg bs R).2) (.int .u64 ((sg bs R).1:Nat)):=by
 unfold RetX;refine xa 900 (GRd rb sv R) Tryz.func151 Z Tryz.ntmps151 (np Z) hB hr hC ?_;rw[xd];refine(Z4∘Zb∘Za0) ?_;refine qe (yh L 900 (GRd rb sv (sg bs R).2) (.int .u64 ((sg bs R).1:Nat)) (r:=GRd rb sv R) Z Z Z Z Z (fun u H C2 hH hle hr2 hC2=>Ss (gf:=Mg bs) (fst:=[kg rb]) (cap:=[]) Z hH hr2 hC2 (fun _ u3 H3 C3 hH3 hle3 hr3 hC3=>Fa hb hl hat hH3 ((hs.le hle).le hle3) hr3 hC3))) (Zc (h:=?_));exact xv L 900 (r:=xc rb _ uz) (rs:=[.tmp 2]) Z (fun _ _ h=>h) nq Z Z (fun _=>rfl)
def zdq{b2 b3:Nat}{bs:List Nat}(hlim:lim<=1099511627776)(hb:∀ b∈bs,b<=255)(hl:bs.length<=1099511627776)(hat:R.at_<=bs.length)(hB:zth B w)(hs:BsV bs fu sv B)(h2:B b2=some (.cells #[kg rb] 58))(h3:B b3=some (.cells #[.int .i64 lim] 3))(hr:(GRd rb sv R).P B w C)(hC:ZCB C w B):
  RetX zti 51 [kg b2,kg b3] w B C (GRd rb sv (zfv bs lim R).2) (.int .i64 (zfv bs lim R).1):=by
 unfold RetX;refine xa 900 (GRd rb sv R) Tryz.func51 Z Tryz.ntmps51 (np Z) hB hr hC ?_;rw[xd];have hmx:max (lim:Int) 0=lim:=T;have hcu:IntKind.u64.wrap (lim:Int)=(lim:Int):=wrap_u64 T T;obtain⟨⟨n,⟨at1,bad1,err1⟩⟩,hz⟩:∃ z,az bs lim 3 R=z:=⟨_,rfl⟩
 unfold zfv;rw[hz];dsimp only;have hci:IntKind.i64.wrap ((n:Nat):Int)=IntKind.i64.wrap ((n:Nat):Int):=rfl;refine Z4 (h:=?_);refine z7 (qd L (qp Z h2) Z Z Z Z) Z (z7 (qd L (qp Z h3) Z Z Z Z) Z (z7 (sd Z Z Z Z Z) Z (z7 (ko Z Z Z cj.1 cj.2 (wrap_u64 T T)) Z (qe (yh L 900 (GRd rb sv ⟨at1,bad1,err1⟩) (.int .u64 n) (r:=GRd rb sv R) Z Z Z Z Z (fun u H C2 hH hle hr2 hC2=>by have h:=tw (lim:=lim) (e:=3) hb hl hat hH (hs.le hle) hr2 hC2;rw[hz] at h;exact h)) ?_))));refine z7 (ko Z Z Z Z Z hci) Z (Zc (h:=?_));exact xv L 900 (r:=xc rb _ uz) (rs:=[.tmp 2]) Z (fun _ _ h=>h) nq Z Z (fun _=>rfl)
def len_ret{bs:List Nat}(hlim:lim<=1099511627776)(hb:∀ b∈bs,b<=255)(hl:bs.length<=1099511627776)(hat:R.at_<=bs.length)(hB:zth B w)(hs:BsV bs fu sv B)(hr:(GRd rb sv R).P B w C)(hC:ZCB C w B):
  RetX zti 14 [kg rb,.int .i64 lim] w B C (GRd rb sv (wj bs lim R).2) (.int .i64 (wj bs lim R).1):=by
 unfold RetX;refine xa 900 (GRd rb sv R) Tryz.func14 Z Tryz.ntmps14 (np Z) hB hr hC ?_;rw[xd];refine(Zbu∘ZdN∘Zd) ?_;refine k9 2 901 rfl fun b2=>?_;refine k9 3 902 rfl fun b3=>?_;refine wk 901 rfl fun H1 hs1 _ h2=>?_;refine wk 902 rfl fun H2 hs2 _ h3=>?_;have h2:=hs2.le _ _ h2;have hs12:=hs1.trans hs2;have hs':=hs.le hs12.le;refine ZE (h:=?_);refine z7 (qd L (qp Z h2) Z Z Z Z) Z (Za0 (h:=?_));refine qe (yh L 900 (GRd rb sv (wj bs lim R).2) (.int .i64 (wj bs lim R).1) (r:=GRd rb sv R) Z Z Z Z Z (fun u H C2 hH hle hr2 hC2=>Sx (gf:=zfv bs lim) (fst:=[]) (cap:=[kg b2,kg b3]) Z hH hr2 hC2 (fun _ u3 H3 C3 hH3 hle3 hr3 hC3=>zdq hlim hb hl hat hH3 ((hs'.le hle).le hle3) ((hle.trans hle3) _ _ h2) ((hle.trans hle3) _ _ h3) hr3 hC3))) (Zc (h:=?_));exact xv L 900 (r:=xc rb _ uz) (rs:=[.tmp 4]) Z (fun _ _ h=>h) hs12 Z Z (fun _=>rfl)
def Fv(bs:List Nat)(R:Rd):Nat×Int:=if R.err=0/\R.at_<bs.length then (R.at_,5) else (R.bad,R.err)
def at_ret(hB:zth B w)(hr:(GRd rb sv R).P B w C)(hC:ZCB C w B):RetX zti 205 [kg rb] w B C (GRd rb sv R) (.int .i64 R.at_):=by
 unfold RetX;refine xa 900 (GRd rb sv R) Tryz.func205 Z Tryz.ntmps205 (np Z) hB hr hC ?_;rw[xd];refine(ZbT∘ZeL∘Zm∘ZA∘ZS∘Zc) ?_;exact xv L 900 (r:=xc rb _ uz) (rs:=[.tmp 2]) Z (fun _ _ h=>h) nq Z Z (fun _=>rfl)
def Bo(hl:bs.length<=1099511627776)(hat:R.at_<=bs.length)(hB:zth B w)(hs:BsV bs fu sv B)(hr:(GRd rb sv R).P B w C)(hC:ZCB C w B):RetX zti 66 [kg rb] w B C (GRd rb sv R) (.int .i64 (bs.length-R.at_:Nat)):=by
 obtain⟨p,c,rfl⟩:=jh hs;unfold RetX;refine xa 900 (GRd rb _ R) Tryz.func66 Z Tryz.ntmps66 (np Z) hB hr hC ?_;rw[xd];obtain⟨at_,bad,err⟩:=R;dsimp only[rdC] at hat |-;have hw:IntKind.i64.wrap ((bs.length:Int)-(at_:Int))=((bs.length-at_:Nat):Int):=(xb T T).trans T;refine(ZbT∘ZeL∘Zm) ?_;refine qo (id:=3) [(200008,[900]),(200013,[900])] ki J ((ZaU∘Zdf∘ZaU∘Zd6∘ZaB) ?_);exact xv L 900 (r:=xc rb _ uz) (rs:=[.tmp 2]) Z (fun _ _ h=>h) nq Z Z (fun _=>rfl)
def fault_ret(hB:zth B w)(hr:(GRd rb sv R).P B w C)(hC:ZCB C w B):RetX zti 67 [kg rb] w B C (GRd rb sv R) (.tuple #[.int .i64 R.bad,.int .i64 R.err]):=by
 unfold RetX;refine xa 900 (GRd rb sv R) Tryz.func67 Z Tryz.ntmps67 (np Z) hB hr hC ?_;rw[xd];refine(Zb2∘Zba∘ZeL∘Zm) ?_;refine qo (id:=3) [(200009,[900]),(200013,[900])] ki J ((ZaU∘ZaU∘ZaM∘ZaB) ?_);exact xv L 900 (r:=xc rb _ uz) (rs:=[.tmp 2,.tmp 3]) Z (fun _ _ h=>h) nq Z Z (fun _=>rfl)
def Pj(hl:bs.length<=1099511627776)(hat:R.at_<=bs.length)(hB:zth B w)(hs:BsV bs fu sv B)(hr:(GRd rb sv R).P B w C)(hC:ZCB C w B):RetX zti 20 [kg rb] w B C (GRd rb sv R) (.tuple #[.int .i64 (Fv bs R).1,.int .i64 (Fv bs R).2]):=by
 unfold RetX;refine xa 900 (GRd rb sv R) Tryz.func20 Z Tryz.ntmps20 (np Z) hB hr hC ?_;rw[xd];obtain⟨at_,bad,err⟩:=R;unfold Fv;dsimp only[rdC] at hat |-;by_cases h0:err=0
 ·subst h0;by_cases h1:at_<bs.length
  ·rw[na ⟨rfl,h1⟩];refine(Zb2∘Zba) ?_;refine qe (yh L 900 (GRd rb sv ⟨at_,bad,0⟩) (.bool false) (r:=GRd rb sv ⟨at_,bad,0⟩) Z Z Z Z Z (fun u H C2 hH _ hr2 hC2=>ke (ng fun h=>h Z) hH hr2 hC2)) ((Zr∘Zb) ?_);refine qe (yh L 900 (GRd rb sv ⟨at_,bad,0⟩) (.int .i64 (bs.length-at_:Nat)) (r:=GRd rb sv ⟨at_,bad,0⟩) Z Z Z Z Z (fun u H C2 hH hle hr2 hC2=>Bo hl hat hH (hs.le hle) hr2 hC2)) ((ZO∘Zbb∘Zy∘ZS∘ZR) ?_);exact xv L 900 (r:=xc rb _ uz) (rs:=[.tmp 2,.tmp 3]) Z (fun _ _ h=>h) nq Z Z (fun _=>rfl)
  ·rw[nc (fun h=>h1 h.2)];refine(Zb2∘Zba) ?_;refine qe (yh L 900 (GRd rb sv ⟨at_,bad,0⟩) (.bool false) (r:=GRd rb sv ⟨at_,bad,0⟩) Z Z Z Z Z (fun u H C2 hH _ hr2 hC2=>ke (ng fun h=>h Z) hH hr2 hC2)) ((Zr∘Zb) ?_);refine qe (yh L 900 (GRd rb sv ⟨at_,bad,0⟩) (.int .i64 (bs.length-at_:Nat)) (r:=GRd rb sv ⟨at_,bad,0⟩) Z Z Z Z Z (fun u H C2 hH hle hr2 hC2=>Bo hl hat hH (hs.le hle) hr2 hC2)) ((ZL∘ZbX∘ZA) ?_);refine qe (yh L 900 (GRd rb sv ⟨at_,bad,0⟩) (.tuple #[.int .i64 bad,.int .i64 0]) (r:=GRd rb sv ⟨at_,bad,0⟩) Z Z Z Z Z (fun u H C2 hH hle hr2 hC2=>fault_ret hH hr2 hC2)) ((Zc5∘ZR) ?_);exact xv L 900 (r:=xc rb _ uz) (rs:=[.tmp 2,.tmp 3]) Z (fun _ _ h=>h) nq Z Z (fun _=>rfl)
 ·rw[nc (fun h=>h0 h.1)];refine(Zb2∘Zba) ?_;refine qe (yh L 900 (GRd rb sv ⟨at_,bad,err⟩) (.bool true) (r:=GRd rb sv ⟨at_,bad,err⟩) Z Z Z Z Z (fun u H C2 hH _ hr2 hC2=>ke (nf h0) hH hr2 hC2)) ((Zr∘ZbU∘Zm∘ZA) ?_);refine qe (yh L 900 (GRd rb sv ⟨at_,bad,err⟩) (.tuple #[.int .i64 bad,.int .i64 err]) (r:=GRd rb sv ⟨at_,bad,err⟩) Z Z Z Z Z (fun u H C2 hH hle hr2 hC2=>fault_ret hH hr2 hC2)) ((Zc5∘ZR) ?_);exact xv L 900 (r:=xc rb _ uz) (rs:=[.tmp 2,.tmp 3]) Z (fun _ _ h=>h) nq Z Z (fun _=>rfl)
end Go.V.L4
end
namespace Go.V.L4
def _root_.Zbp(t:Wr Y->A:=by exact fun h=>(ZE∘Za) h.1)(h:Y):A:=t ⟨h⟩
def Sd(bs:List Nat):(bs.map fun b:Nat=>Value.int .u8 (b:Int)).all u7=true:=by
 rw[zph];intro v hv;obtain⟨b,_,rfl⟩:=zo9.1 hv;rfl
abbrev zo8(bs:List Nat)(R:Rd)(rb:Nat):GR:=GEx (X:=Value) (fun sv=>GRd rb sv R) (fun sv H=>BsV bs false sv H) (fun _ _ _ h hle=>h.le hle)
attribute [local irreducible] V N X VO Par StepOK Has Ret RetL RetO RetT kx RetX RetY Src
def F0(hz:bs.length<=1099511627776)(hB:zth B w)(hv:BsV bs fu v B):
  RetO zti 49 [v] w B (SlR Qd 1 bs.length (bs.map fun b:Nat=>Value.int .u8 (b:Int))):=by
 have hv0:=hv;have hlen:(bs.map fun b:Nat=>Value.int .u8 (b:Int)).length=bs.length*1:=by rw[my,zqi]
 have hpl:=Sd bs;obtain⟨p,c,rfl⟩:=jh hv;rcases p with _ | b
 ·obtain⟨h0,rfl⟩:bs.length=0/\c=0:=Gn hv;have hn:bs=[]:=m7 h0;subst hn;refine wz Tryz.func49 Z Tryz.ntmps49 (np Z) hB (ZbT (h:=?_));refine z7 (u0 Z Z Z Z zn6 Z) Z ((Zcj∘Zc) ?_);exact ui 2 Qd 1 rfl (p9 Z (fun _ _ h=>h) nq Z)
 ·refine wz Tryz.func49 Z Tryz.ntmps49 (np Z) hB (ZbT (h:=?_));refine z7 (u0 Z Z Z Z zn6 Z) Z (Zm (h:=?_));refine k8 0 (BsV bs fu) Z ns hv0 (ZK (h:=?_));refine z7 (cp L Z Z Z Z Z) Z (Zk (h:=?_));refine qe (w7 L Z Z Z (Na Z) Z el5 M M T T) (qe (yr (.inr Z) Z) (ZF (h:=?_)));rw[zpc,mi];exact p9 Z (fun _ _ h=>h) nq Z
def zfq(hz:bs.length<=1099511627776)(hB:zth B w)(hv:BsV bs fu v B):
  RetO zti 13 [v] w B (Kh kg (zo8 bs ⟨0,0,0⟩)):=by
 obtain⟨p,c,rfl⟩:=jh hv;refine wz Tryz.func13 Z Tryz.ntmps13 (np Z) hB ((ZP∘Zd) ?_);refine Zbp (h:=?_);refine z7 (wh L rfl rfl (zm rfl) rfl rfl rfl (fun u H hH hle _=>F0 hz hH (hv.le hle))) rfl (B8 4 rfl ?_);refine vk 4 rfl fun sv H1 hs1 hsv=>?_;obtain⟨p1,c1,rfl⟩:=jh hsv;refine z7 (yu (cs:=[_,_,_,_]) rfl rfl znc rfl rfl) rfl (ZdN (h:=?_));refine qe (yr (.inr rfl) rfl) (ZF (h:=?_));refine k9 2 900 rfl fun rb=>?_;exact Px L 900 (r0:=GRd rb _ ⟨0,0,0⟩) (v:=kg rb) (rs:=[.tmp 2]) Z (fun _ _ h=>h) hs1 Z (fun _=>rfl) (fun H u C hle _ hr=>⟨rb,rfl,_,hsv.le hle,hr⟩)
end Go.V.L4
namespace Go.V.L4
def _root_.Zat(t:Wr Y->A:=by intro h;refine z7 (yq Z Z Z) Z ?_;exact h.1)(h:Y):A:=t ⟨h⟩
def _root_.Zdr(t:Wr Y->A:=by intro h;refine z7 (zfo Z Z Z Z T M) Z ?_;exact h.1)(h:Y):A:=t ⟨h⟩
def _root_.ZdO(t:Wr Y->A:=by intro h;refine z7 (zc7 L Z Z Z Z Z Z Z) Z ?_;exact h.1)(h:Y):A:=t ⟨h⟩
def _root_.Zax(t:Wr Y->A:=by exact fun h=>(Zac∘ZaE) h.1)(h:Y):A:=t ⟨h⟩
def _root_.Zcp(t:Wr Y->A:=by exact fun h=>(Zat∘ZF) h.1)(h:Y):A:=t ⟨h⟩
def vq(n:Nat):List Nat:=if n<128 then [n] else (n%128+128)::vq (n/128)
termination_by n
decreasing_by omega
def cq(h:n<128):vq n=[n]:=by unfold vq;rw[if_pos h]
def G9(h:¬ n<128):vq n=(n%128+128)::vq (n/128):=by rw[vq,nc h]
abbrev zjx:TypeId:=46
abbrev byV(bs:List Nat):List Value:=bs.map fun b:Nat=>Value.int .u8 (b:Int)
def GSl(sv:Value)(bs:List Nat):GR:=⟨fun H u C=>(SlR Qd 1 bs.length (byV bs)).P sv H u C,(SlR Qd 1 bs.length (byV bs)).st⟩
def Ds(sv:Value)(bs:List Nat):(GSl sv bs).res=AtV sv (SlR Qd 1 bs.length (byV bs)):=rfl
abbrev GWv(wb:Nat)(bs:List Nat)(sv:Value):GR:=gj (xc wb [sv] zjx) (GSl sv bs)
def Nh(v:Value):Prop:=∃ p k c,v=.slice p k c
def g7:oj fun(sv:Value) (_:Heap)=>Nh sv:=fun _ _ _ h _=>h
abbrev GWr(wb:Nat)(bs:List Nat):GR:=GEx (X:=Value) (GWv wb bs) (fun sv _=>Nh sv) g7
def Qp{s:Nat}:∀ v H u C,(SlR e s n xs).P v H u C->Nh v:=fun v H u C ⟨_,h⟩=>by
 rcases h with ⟨_,rfl,_⟩ | ⟨b,c,r,rfl,_⟩<;>exact⟨_,_,_,rfl⟩
def Sc(acc:List Nat)(m:Nat):byV acc++[Value.int .u8 (m:Int)]=byV (acc++[m]):=by unfold byV;rw[List.map_append];rfl
def aj:∀ (k n:Nat),n<128^(k+1)->(vq n).length<=k+1
 | 0,n,h=>by rw[cq T];exact nu _
 | k+1,n,h=>by
  by_cases h2:n<128
  ·rw[cq h2];exact Nat.le_add_left _ _
  ·rw[G9 h2,nz];have:=aj k (n/128) (by rw[Nat.pow_succ] at h;exact Nat.div_lt_of_lt_mul (by rw[Nat.mul_comm];exact h));omega
def ze1(h:n<18446744073709551616):bits .and .u64 (n:Int) 127=((n%128:Nat):Int):=by
 have h2:=bits_and_u64_nat n 127 h E;rw[show n &&& 127=n%128 from Nat.and_two_pow_sub_one_eq_mod n 7] at h2;exact h2
def zhp(n:Nat):bits .or .u64 ((n%128:Nat):Int) 128=((n%128+128:Nat):Int):=by
 have h2:=bits_or_u64_nat (n%128) 128 T E;have h3:=zfm (a:=n%128) (b:=1) (i:=7) T;rw[show 1*2^7=128 from rfl] at h3;rw[h3] at h2;exact h2
def GNo:GR:=⟨fun _ _ C=>∀ k,¬ C k,fun h _ _ _ _=>h⟩
def Ak{f:FuncId}(h:RetL P f args w B C (fun v H _=>φ v H)):RetY P f args w B C GNo φ:=RetL.mono h fun _ _ _ _ hp=>⟨hp,fun _=>False,fun _ h=>h,fun _ h=>h.elim⟩
attribute [local irreducible] V N X VO Par StepOK Has Ret RetL RetO RetT kx RetX RetY Src
def vg{wb:Nat}(hn:n<18446744073709551616)(hz:bs.length+10<=1099511627776)(hB:zth B w)(hr:(GWr wb bs).P B w C)(hC:ZCB C w B):
  kx zti 9 [kg wb,.int .u64 n] w B C (GWr wb (bs++vq n)):=by
 unfold kx;refine xa 900 (GWr wb bs) Tryz.func9 Z Tryz.ntmps9 (np Z) hB hr hC ?_;refine v9 (X:=Value) 900 (r:=fun sv=>(GWv wb bs sv).res) (φ:=fun sv _=>Nh sv) (hφ:=g7) Z fun sv H0 hs0 hsp=>?_;refine v8 (r1:=xp wb [sv] zjx) (r2:=(GSl sv bs).res) 900 901 rfl (xf _) ?_;rw[Ds];refine(Ze∘ZP∘Za) ?_;refine z7 (u0 Z Z Z Z zhz Z) Z ((Zm∘Zam) ?_);refine xm (fun x:Value×Nat×List Nat=>[(0,.is (kg wb)),(1,.is (.int .u64 x.2.1)),(900,.own (xp wb [x.1] zjx)),(901,.own (AtV x.1 (SlR Qd 1 x.2.2.length (byV x.2.2))))]) (fun x=>x.2.1<18446744073709551616/\Nh x.1/\x.2.2.length+(vq x.2.1).length=bs.length+(vq n).length/\x.2.2++vq x.2.1=bs++vq n) (fun x=>x.2.1) (sv,n,bs) ⟨hn,hsp,rfl,rfl⟩ ⟨Z,Z,Z,Z,nm⟩ ?_;rintro⟨s1,m,acc⟩ ⟨hm,hp1,hl,he⟩;dsimp only at hm hp1 hl he |-;have hlen:(byV acc).length=acc.length*1:=by rw[my,zqi]
 have hpl:=Sd acc;have h128:(128:Nat)^10=1180591620717411303424:=E;have hnl:=aj 9 n T;have haz:acc.length<=1099511627776:=T;by_cases h:m<128
 ·rw[cq h] at he;have hcv:IntKind.u8.wrap (m:Int)=(m:Int):=Gc T T;refine(Zf∘Zbp∘Za4∘ZaL∘ZaD∘Zbi∘Z2∘Zb4) ?_;refine f8 27 901 rfl rfl (Za (h:=?_));refine z7 (ko rfl rfl rfl Rs.1 Rs.2 (Gc T T)) rfl (ZV (h:=?_));refine qe (w7 L rfl rfl rfl (rf rfl) rfl el5 rfl rfl T T) ?_;refine cw 31 901 Nh rfl Qp fun s2 hp2=>?_;obtain⟨p2,k2,c2,rfl⟩:=hp2;refine Zap (h:=?_);refine xl (yo L (q:=900) (cs':=[.slice p2 k2 c2]) rfl rfl rfl rfl rfl) (Zac (h:=?_));have e1:byV acc++Hs [(0,Value.int .u8 (m:Int))]=byV (bs++vq n):=by rw[<-he];exact Sc acc m
  have e2:acc.length+1=(bs++vq n).length:=by rw[<-he,nr];rfl
  rw[e1,e2];refine rm 900 901 rfl Z (Pw _ _) ?_;exact ot (X:=Value) 900 (r:=fun sv=>(GWv wb (bs++vq n) sv).res) (φ:=fun sv _=>Nh sv) g7 (.slice p2 k2 c2) ⟨_,_,_,rfl⟩ Z (xu L 900 (r:=GWr wb (bs++vq n)) Z (fun _ _ h=>h) hs0 Z Z)
 ·rw[G9 h] at he hl;have hand:=ze1 hm;have hor:=zhp m;have hcv:IntKind.u8.wrap ((m%128+128:Nat):Int)=((m%128+128:Nat):Int):=Gc T T
  have hsr:(m:Int).fdiv (2^min (7:Int).toNat IntKind.u64.bits)=((m/128:Nat):Int):=by
   show(m:Int).fdiv 128=_;rw[zr8 _ E];omega
  refine(Zf∘Zbp∘ZbZ∘Zaf∘Zam∘Zc8∘ZS) ?_;refine f8 14 901 rfl rfl ((Za∘Zer∘Zes) ?_);refine z7 (ko rfl rfl rfl Rs.1 Rs.2 (Gc T T)) rfl (ZV (h:=?_));refine qe (w7 L rfl rfl rfl (rf rfl) rfl el5 rfl rfl T T) ?_;refine cw 20 901 Nh rfl Qp fun s2 hp2=>?_;obtain⟨p2,k2,c2,rfl⟩:=hp2;refine Zap (h:=?_);refine xl (yo L (q:=900) (cs':=[.slice p2 k2 c2]) rfl rfl rfl rfl rfl) ((Zax∘Zy∘Zdr∘Zbw) ?_);have e1:byV acc++Hs [(0,Value.int .u8 ((m%128+128:Nat):Int))]=byV (acc++[m%128+128]):=Sc _ _;have e2:acc.length+1=(acc++[m%128+128]).length:=by rw[nr];rfl
  rw[e1,e2];exact ym (x:=(s1,m,acc)) (.slice p2 k2 c2,m/128,acc++[m%128+128]) ⟨by dsimp only;omega,⟨_,_,_,rfl⟩,by dsimp only;rw[List.length_append];rw[List.length_cons] at hl;simp only[List.length_cons,List.length_nil];omega,by dsimp only;rw[List.append_assoc];exact he⟩ G ⟨Z,Z,Z,Z,trivial⟩
def zaz(hB:zth B w)(hv:BsV bs fu v B):Ret zti 53 [v] w B (BsV bs true):=by
 refine yn Tryz.func53 Z Tryz.ntmps53 (np Z) hB (k8 0 (BsV bs fu) Z ns hv ((Z4∘Zk∘Zg∘Zg∘ZdO∘Zcp) ?_));refine yj1 L [.tmp 2] fun u H hH hle=>?_;exact fun v hv=>hv
def tx{wb:Nat}(hz:bs.length<=1099511627776)(hB:zth B w)(hr:(GWr wb bs).P B w C)(hC:ZCB C w B):
  RetL zti 15 [kg wb] w B C (fun v H _=>BsV bs true v H):=by
 refine xa 900 (GWr wb bs) Tryz.func15 Z Tryz.ntmps15 (np Z) hB hr hC ?_;refine v9 (X:=Value) 900 (r:=fun sv=>(GWv wb bs sv).res) (φ:=fun sv _=>Nh sv) (hφ:=g7) Z fun sv H0 hs0 hsp=>?_;refine v8 (r1:=xp wb [sv] zjx) (r2:=(GSl sv bs).res) 900 901 rfl (xf _) ?_;rw[Ds];obtain⟨p,k,c,rfl⟩:=hsp;refine ZbT (h:=?_);refine z7 (u0 Z Z Z Z zhz Z) Z ((Zm∘ZA∘ZS) ?_);refine f8 8 901 rfl Z (B8 8 rfl (z7 (wh L Z Z (zm Z) Z Z Z (fun u H hH hle _ v1 h1=>F0 hz hH h1)) Z (B8 9 rfl (z7 (xg (φ:=BsV bs true) L Z Z (zm Z) Z Z Z ns (fun u H hH hle _ v1 h1=>zaz hH h1)) Z (Zcp (h:=?_))))));exact yj L (rs:=[.tmp 2]) Z (fun _ _ h=>h) hs0 (fun _ H _ _ v hv=>hv)
end Go.V.L4
namespace Go.V
section
variable             {src dst:TypeId}  
def r7{vs:Array Value}(h:u.heap[b]?=some (.cells vs t' fr)):u.shape? b=some (t',vs.size):=by simp [World.shape?,h]
def Ot(hx:evK κ x=some (.pointer (some ⟨b,0,none⟩)))(hq:κ q=some (.own (xp b cs t')))(hn:Nat.blt d n=true)(hg:gK ops κ ⟨some d,.convert src dst x,ty,pos,aft,g⟩=some true)(hs:P.underlying src=some (.pointer t))(hd:P.underlying dst=some .unsafePointer)(hj:(P.info? t).map (fun j=>decide (j.size≠0))=some true)(hc:Nat.ble 1 cs.length=true):
  StepOKR P F B n ops O κ ⟨some d,.convert src dst x,ty,pos,aft,g⟩ q d (.is (.pointer (some ⟨b,0,none⟩))):=by
 obtain⟨j,ht,hj⟩:∃ j,P.info? t=some j/\j.size≠0:=by
  cases h:P.info? t with
  | none=>rw[h] at hj;cases hj
  | some j=>rw[h] at hj;exact⟨j,rfl,by simpa using hj⟩
 rintro κ' a u hlk hqk ⟨H,fp,hh⟩;unfold After;rw[na (xj hh hlk hg)];have e:=hh.env hlk;have h1:=e.is_ x _ (by simp [Op.operands]) hx;obtain⟨⟨h2,hC⟩,hM⟩:=hh.slot q _ (hqk.trans hq);have hr:=Lib.run_to_unsafe (P:=P) u (src:=src) (dst:=dst) ⟨b,0,none⟩ hs hd ht hj (r7 h2) (by have:=np hc;simp only[zry];omega)
 have hrun:(execOp a.eval ⟨some d,.convert src dst x,ty,pos,aft,g⟩).run P u=.ok (.value (.pointer (some ⟨b,0,none⟩))) u:=by
  simp only[execOp,h1,nw,mf,hr,ny]
 rw[hrun];simp only[Upon];exact⟨H,fp,hh.put (k:=.is _) (zm hn) trivial Z⟩
def G6(hx:evK κ x=some (.pointer (some ⟨b,0,none⟩)))(hq:κ q=some (.own (xp b cs t')))(hn:Nat.blt d n=true)(hg:gK ops κ ⟨some d,.convert src dst x,ty,pos,aft,g⟩=some true)(hs:P.underlying src=some .unsafePointer)(hd:P.underlying dst=some (.pointer t))(ht:(P.info? t).isSome=true)(hm:cs.length=m)(hl:liesAt P P.depth t' (m/P.cellsOf t') 0 t 1=true):
  StepOKR P F B n ops O κ ⟨some d,.convert src dst x,ty,pos,aft,g⟩ q d (.is (.pointer (some ⟨b,0,none⟩))):=by
 obtain⟨j,ht⟩:=zqd.1 ht;rintro κ' a u hlk hqk ⟨H,fp,hh⟩;subst hm;unfold After;rw[na (xj hh hlk hg)];have e:=hh.env hlk;have h1:=e.is_ x _ (by simp [Op.operands]) hx;obtain⟨⟨h2,hC⟩,hM⟩:=hh.slot q _ (hqk.trans hq);have hr:=Lib.run_from_unsafe (P:=P) u (src:=src) (dst:=dst) ⟨b,0,none⟩ hs hd ht (r7 h2) (by simpa using hl)
 have hrun:(execOp a.eval ⟨some d,.convert src dst x,ty,pos,aft,g⟩).run P u=.ok (.value (.pointer (some ⟨b,0,none⟩))) u:=by
  simp only[execOp,h1,nw,mf,hr,ny]
 rw[hrun];simp only[Upon];exact⟨H,fp,hh.put (k:=.is _) (zm hn) trivial Z⟩
def Tp{te:TypeId}{a0:Addr}(hn:Nat.blt d n=true)(hg:gK ops κ ⟨some d,.binOp .neq t x y t',ty,pos,aft,g⟩=some true)(hx:evK κ x=some (.pointer (some a0)))(hy:evK κ y=some (.pointer (some a0)))(hp:P.underlying t=some (.pointer te))(hte:(P.info? te).isSome=true):
  StepOK P F B n ops O κ ⟨some d,.binOp .neq t x y t',ty,pos,aft,g⟩ d (.is (.bool false)):=by
 obtain⟨j,hte⟩:=zqd.1 hte;exact ve hn hg hx hy fun u=>Lib.run_neq_ptr_same u a0 hp hte
def O4{fo:Operand}{r:Value}(hn:Nat.blt d n=true)(hg:gK ops κ ⟨some d,.call { callee:=.value fo,args:=#[x],argTypes:=at_ },ty,pos,aft,g⟩=some true)(hfo:evK κ fo=some (.func (.func f) #[] #[]))(hx:evK κ x=some v)(hext:∀ u,(callFunc f #[v]).run P u=.ok (.value r) u):
  StepOK P F B n ops O κ ⟨some d,.call { callee:=.value fo,args:=#[x],argTypes:=at_ },ty,pos,aft,g⟩ d (.is r):=by
 rintro κ' a u hlk ⟨H,fp,hh⟩;unfold After;rw[na (xj hh hlk hg)];have e:=hh.env hlk;have h1:a.eval x=v:=e.is_ x _ (by simp [Op.operands,Call.operands]) hx;have h2:a.eval fo=.func (.func f) #[] #[]:=e.is_ fo _ (by simp [Op.operands,Call.operands]) hfo
 have hrun:(execOp a.eval ⟨some d,.call { callee:=.value fo,args:=#[x],argTypes:=at_ },ty,pos,aft,g⟩).run P u=.ok (.value r) u:=by
  simp only[execOp,resolve,h2,Deferred.ofValue,nw,mf,ny,invoke];simp [h1,hext]
 rw[hrun];simp only[Upon];exact⟨H,fp,hh.put (k:=.is r) (zm hn) trivial Z⟩
end
end Go.V
namespace Go.V
def zez(u:World){t ty2 e:TypeId}{aty:TypeId}{i:TypeInfo}{z:Value}(ht:P.underlying t=some (.slice e))(hu:P.underlying ty2=some .string)(hi:P.info? e=some i)(hz:i.zero=some z)(hs1:i.size=1)(hs2:i.bytes=1)(hs3:z.cells.size=1)
  {x:Value}    {nn:Nat}  (hsub:zth H u) (hown:(SlR e 1 nn xs).P x H u C) (hlt:ZCB C u H) (h63:nn+str.size<=9223372036854775807) (hb:nn+str.size<=140737488355328):
  ∃ x' u' C',(Builtin.append_ #[t,ty2] aty #[x,.string str]).run P u=.ok x' u'/\(SlR e 1 (nn+str.size) (xs++Lib.strCells str)).P x' H u' C'/\Grow C u H u' H/\∀ k,C' k->(C k\/u.heap.size<=k)/\k<u'.heap.size/\H k=none:=by
 have hl:=Lib.strCells_length str;generalize hnews:Lib.strCells str=news at hl |-;obtain⟨m,hm0⟩:∃ m,str.size=m:=⟨_,rfl⟩
 have hmx:nn+m<=maxLen:=by simp only[maxLen];omega
 obtain⟨hxl,hown⟩:=hown;have hlen:(xs++news).length=(nn+m)*1:=by rw[nr,hxl,hl,hm0];omega
 have hdrew:∀ o:Obj,Grow C u H (u.drew.alloc o) H:=fun o=>⟨⟨rfl,rfl,rfl,by simp,fun k hk _=>jw u.drew _ hk,zp5 _⟩,fun k v hv=>by
  have:=hsub.size hv;show(u.drew.alloc o).heap[k]?=some v;rw[jw u.drew _ this];exact hsub k v hv,mq _,fun _ _ _=>rfl⟩
 have hnew:∀ (o:Obj) (k:Nat),k=u.heap.size->(C k\/u.heap.size<=k)/\k<(u.drew.alloc o).heap.size/\H k=none:=fun o k hk=>by
  subst hk;exact⟨.inr (nu _),by simp,jg hsub (nu _)⟩
 have grown:∀ (old:Nat),old<nn+m->∀ vs:List Value,vs=xs->
   (SlR e 1 (nn+m) (xs++news)).P (.slice (some ⟨u.heap.size,0,none⟩) (nn+m) (grownCap u (nn+m) old e)) H (u.drew.alloc (.cells (vs.toArray++news.toArray++Builtin.zeroCells z.cells (grownCap u (nn+m) old e-(nn+m))) e)) (fun k=>k=u.heap.size):=by
  rintro old ho vs rfl;have hge:=grownCap_ge u (nn+m) old e;refine⟨hlen,.inr ⟨u.heap.size,_,(Builtin.zeroCells z.cells (grownCap u (nn+m) old e-(nn+m))).toList,rfl,?_,hge,grownCap_le_maxLen u (nn+m) old e hmx,?_,fun _=>Iff.rfl⟩⟩
  ·have h2:(u.drew.alloc (.cells (vs.toArray++news.toArray++Builtin.zeroCells z.cells (grownCap u (nn+m) old e-(nn+m))) e)).heap[u.heap.size]?=some (.cells (vs.toArray++news.toArray++Builtin.zeroCells z.cells (grownCap u (nn+m) old e-(nn+m))) e):=heap_alloc_new u.drew _;rw[h2];congr 2;apply Array.ext';simp
  ·rw[nr,hlen,zq6,size_zeroCells,hs3];omega
 rcases hown with ⟨rfl,rfl,hC⟩ | ⟨b,cap,rest,rfl,hbk,hnc,hcm,hcl,hC⟩
 ·have hx:xs=[]:=m7 (by simpa using hxl);subst hx;by_cases h0:m=0
  ·subst h0;have hn:news=[]:=m7 T;subst hn;refine⟨.slice none 0 0,u,noL,?_,⟨by simp [hm0],.inl ⟨by omega,rfl,fun _ h=>h⟩⟩,⟨Keep.refl _ _,hsub,mq _,fun _ _ _=>rfl⟩,fun _ h=>h.elim⟩;have hf:=Lib.run_firstCells_string (P:=P) u i.size str;rw[hm0] at hf;simp [Builtin.append_,run_underlying ht,run_underlying hu,sizeOf,typeInfo,hi,Builtin.lenOf,hm0,hf]
  ·have hr:=run_append_nil_string (P:=P) u t ty2 aty e i z ht hu hi hz str T T (by rw[hs2];omega);have hgr:=grown 0 T [] rfl;rw[hm0] at hr |-;simp only[zpc,mi,Array.empty_append] at hgr |-;refine⟨_,_,_,hr,?_,hdrew _,fun k hk=>hnew _ k hk⟩;have e1:str.data.map (fun b=>Value.int .u8 b.toNat)=news.toArray:=by rw[<-hnews];apply Array.ext';simp [Lib.strCells]
   rw[e1];exact hgr
 ·have hbl:=hlt b ((hC b).2 rfl)
  have holds:∀ j v,xs[j]?=some v->u.cell? ((⟨b,0,none⟩:Addr).add j)=some v:=fun j v hj=>by
   rw[vj,zpc,kq hbk]
   have hlt:j<xs.length:=by
    rcases m8 j xs.length with h | h
    ·exact h
    ·rw[zpd h] at hj;cases hj
   simp only[zrg];rw[zqb hlt];exact hj
  rw[hm0];by_cases hroom:nn+m<=cap
  ·have hfit:nn+str.size<=(xs++rest).toArray.size:=by simp only[zry,hcl];omega
   have hr:=Lib.run_append_room_string (P:=P) u t ty2 aty e i ht hu hi hs1 b nn cap _ hbk str T hfit;rw[hnews,hm0] at hr;refine⟨_,_,C,hr,⟨hlen,.inr ⟨b,cap,rest.drop news.length,rfl,?_,hroom,hcm,?_,hC⟩⟩,v6 hsub hbk ((hC b).2 rfl) hbl.2 _,fun k hk=>⟨.inl hk,by rw[setRow_size];exact(hlt k hk).1,(hlt k hk).2⟩⟩
   ·rw[setRow_heap u b _ _ e (0,0) hbk];congr 2;have hx1:xs.length=nn:=T;rw[<-hx1,hl,hm0];simp [zqh,zpi]
   ·have h5:rest.length=cap*1-nn*1:=by rw[<-hcl,nr,hxl];omega
    rw[nr,hlen,m6,h5,hl,hm0];omega
  ·have hr:=Lib.run_append_grow_string (P:=P) u t ty2 aty e i z ht hu hi hz ⟨b,0,none⟩ nn cap xs (by rw[hs1];exact hxl) holds str T T (by rw[hs2];exact growslice_fits T T);rw[hnews,hm0] at hr;exact⟨_,_,_,hr,grown cap T xs Z,hdrew _,fun k hk=>hnew _ k hk⟩
section
def A4(L:Tabs P){ty2:TypeId}{nn:Nat}(hn:Nat.blt d n=true)(hg:gK ops κ ⟨some d,.call ⟨.builtin .append,#[.tmp q,y],#[t,ty2]⟩,ty,pos,aft,g⟩=some true)
  (hq:κ q=some (.own (SlR e 1 nn xs))) (hy:evK κ y=some (.string str)) (ht:L.sl t=some e) (hu:P.underlying ty2=some .string) (he:elI P e=some (1,1)) (hb:nn+str.size<=140737488355328):
  ww P F B n ops O κ ⟨some d,.call ⟨.builtin .append,#[.tmp q,y],#[t,ty2]⟩,ty,pos,aft,g⟩ q pg d (.own (SlR e 1 (nn+str.size) (xs++Lib.strCells str))):=by
 rintro κ' a u hlk hks ⟨H,fp,hh⟩;unfold After;rw[na (xj hh hlk hg)];have en:=hh.env hlk;obtain⟨i,z,hi,hz,hs1,hs2,hs3,hs4⟩:=uf he;have hk':κ' q=some (.own (SlR e 1 nn xs)):=hks.trans hq;obtain⟨hown,hM⟩:=hh.slot q _ hk';have h1:a.eval y=.string str:=en.is_ y _ (by simp [Op.operands,Call.operands]) hy;obtain⟨x',u',C',hr,hown',hgr,hC'⟩:=zez u (aty:=ty) (Tabs.sl_spec ht) hu hi hz hs1 hs2 hs3 hh.sub hown (fun k hk=>⟨(hM k hk).1,(hM k hk).2.1⟩) T hb
 have hrun:(execOp a.eval ⟨some d,.call ⟨.builtin .append,#[.tmp q,y],#[t,ty2]⟩,ty,pos,aft,g⟩).run P u=.ok (.value x') u':=by
  simp only[execOp,resolve,invoke,builtin,nw,mf,ny,zpp,mw,zpk,h1,hr]
 rw[hrun];simp only[Upon];exact⟨H,_,hh.usePut hk' hgr (by simp [Act.put]) Z (fun t ht=>xr ht) (by rw[xz (by rw[hh.size];exact zm hn)];exact hown') hC'⟩
end
end Go.V
namespace Go.V.Bd
open Go.V.L4
def _root_.Ze6(t:Wr Y->A:=by intro h;refine wa 900 901 rfl Z (Pw _ _) ?_;exact h.1)(h:Y):A:=t ⟨h⟩
def _root_.ZcV(t:Wr Y->A:=by exact fun h=>(ZaL∘Ze) h.1)(h:Y):A:=t ⟨h⟩
abbrev Ep:TypeId:=204
def zig(v:Value)(u:World):(callFunc 240 #[v]).run zti u=.ok (.value v) u:=
 (run_callFunc_extern Tryz.func240 J J J (e:=Extern.AbiNoEscape.same) J #[v] u).trans rfl
attribute [local irreducible] V N X VO Par StepOK Has Ret RetL RetO RetT kx RetX RetY Src
def check_ret{p:Value}(hpp:p=.pointer none\/p=kg bb)(hB:zth B w)(hr:(xc bb [p,sv] Ep).P B w C)(hC:ZCB C w B):
  kx zti 189 [kg bb] w B C (xc bb [kg bb,sv] Ep):=by
 unfold kx;refine xa 900 (xc bb [p,sv] Ep) Tryz.func189 Z Tryz.ntmps189 (np Z) hB hr hC ?_;rw[xd];rcases hpp with rfl | rfl
 ·refine(ZP∘Za∘ZS) ?_;refine z7 (u0 Z Z Z Z zk1 Z) Z ((Zw∘ZE∘Zb) ?_);refine yd (Ot (q:=900) (t:=Ep) Z Z Z Z J J J Z) (z7 (O4 Z Z Z Z (zig _)) Z (yd (G6 (q:=900) (t:=Ep) Z Z Z Z J J J Z J) (Zap (h:=?_))));refine xl (yo L (q:=900) (cs':=[kg bb,sv]) Z Z Z Z Z) (Zac (h:=?_));exact xu L 900 (r:=xc bb _ Ep) Z (fun _ _ h=>h) nq Z Z
 ·refine(ZP∘Za∘ZS) ?_;refine z7 (u0 Z Z Z Z zk1 Z) Z ((ZcV∘Zy∘ZS∘Za) ?_);refine z7 (Tp (te:=Ep) Z Z Z Z J J) Z (Zae (h:=?_));exact xu L 900 (r:=xc bb _ Ep) Z (fun _ _ h=>h) nq Z Z
abbrev GBv(bb:Nat)(bs:List Nat)(x:Value×Value):GR:=gj (xc bb [x.1,x.2] Ep) (GSl x.2 bs)
def zjr(bb:Nat)(x:Value×Value):Prop:=(x.1=.pointer none\/x.1=kg bb)/\Nh x.2
def ip(bb:Nat):oj fun(x:Value×Value) (_:Heap)=>zjr bb x:=fun _ _ _ h _=>h
abbrev GBd(bb:Nat)(bs:List Nat):GR:=GEx (X:=Value×Value) (GBv bb bs) (fun x _=>zjr bb x) (ip bb)
def dm(s:ByteArray):List Nat:=s.data.toList.map fun c=>c.toNat
def p8(s:ByteArray):(dm s).length=s.size:=by unfold dm;rw[List.length_map,Array.length_toList];rfl
def za8(bs:List Nat)(s:ByteArray):byV bs++Lib.strCells s=byV (bs++dm s):=by
 unfold byV dm Lib.strCells;rw[zpo,zri];rfl
def write_ret(hz:bs.length+str.size<=140737488355328)(hB:zth B w)(hr:(GBd bb bs).P B w C)(hC:ZCB C w B):
  RetX zti 128 [kg bb,.string str] w B C (GBd bb (bs++dm str)) (.tuple #[.int .i64 str.size,.nilIface]):=by
 unfold RetX;refine xa 900 (GBd bb bs) Tryz.func128 Z Tryz.ntmps128 (np Z) hB hr hC ?_;refine v9 (X:=Value×Value) 900 (r:=fun x=>(GBv bb bs x).res) (φ:=fun x _=>zjr bb x) (hφ:=ip bb) Z fun x H0 hs0 hx=>?_;obtain⟨p,sv⟩:=x;obtain⟨hpp,hsl⟩:=hx;dsimp only at hpp hsl |-;obtain⟨p1,k1,c1,rfl⟩:=hsl;refine v8 (r1:=xp bb [p,.slice p1 k1 c1] Ep) (r2:=(GSl (.slice p1 k1 c1) bs).res) 900 901 rfl (xf _) ?_;rw[Ds];refine(Zb2∘Zb7) ?_;refine qe (yx L 900 (xc bb [kg bb,.slice p1 k1 c1] Ep) (r:=xc bb [p,.slice p1 k1 c1] Ep) rfl rfl rfl rfl rfl (fun u H C hH _ hr hC=>check_ret hpp hH hr hC)) ((Zi∘ZaR∘ZS) ?_);refine f8 12 901 rfl rfl (Za (h:=?_));refine qe (A4 L rfl rfl rfl rfl rfl J el5 hz) ?_;refine cw 14 901 Nh rfl Qp fun s2 hp2=>?_;obtain⟨p2,k2,c2,rfl⟩:=hp2;refine Zap (h:=?_);refine xl (yo L (q:=900) (cs':=[kg bb,.slice p2 k2 c2]) rfl rfl rfl rfl rfl) ((Zi∘ZA∘Zad∘ZR) ?_);have e2:bs.length+str.size=(bs++dm str).length:=by rw[nr,p8]
 rw[za8,e2];refine Ze6 (h:=?_);exact ay (X:=Value×Value) 900 (r:=fun x=>(GBv bb (bs++dm str) x).res) (φ:=fun x _=>zjr bb x) (ip bb) (kg bb,.slice p2 k2 c2) ⟨.inr Z,_,_,_,rfl⟩ Z (xv L 900 (r:=GBd bb (bs++dm str)) (rs:=[.tmp 4,.tmp 5]) Z (fun _ _ h=>h) hs0 Z Z (fun _=>rfl))
end Go.V.Bd
namespace Go.V
open Go.V.L4
def bk{a:Addr}{k:Nat}(h:k≠a.block):(u.freeze a n).heap[k]?=u.heap[k]?:=by
 unfold World.freeze;split
 ·rfl
 ·simp [Array.getElem?_modify,Ne.symm h]
def N2(u:World)(a:Addr)(n:Nat):(u.freeze a n).heap.size=u.heap.size:=by
 unfold World.freeze;split<;>simp
def Pg{b n:Nat}{L:Nat->Prop}(hs:zth H u)(hL:L b)(hH:H b=none):Grow L u H (u.freeze ⟨b,0,none⟩ n) H:=
 have ho:(u.freeze ⟨b,0,none⟩ n).os=u.os/\(u.freeze ⟨b,0,none⟩ n).tape=u.tape/\(u.freeze ⟨b,0,none⟩ n).output=u.output/\(u.freeze ⟨b,0,none⟩ n).drawn=u.drawn:=by unfold World.freeze;split<;>exact⟨rfl,rfl,rfl,rfl⟩
 ⟨⟨ho.1,ho.2.1,ho.2.2.1,zrk (N2 ..).symm,fun k _ hk=>bk (fun e=>hk (e ▸ hL)),zrk ho.2.2.2.symm⟩,fun k x hx=>by
  have:k≠b:=fun e=>by subst e;rw[hH] at hx;cases hx
  show(u.freeze ⟨b,0,none⟩ n).heap[k]?=some x;rw[bk this];exact hs k x hx,mq _,fun _ _ _=>rfl⟩
def og(bs:List Nat):ByteArray:=⟨(bs.map UInt8.ofNat).toArray⟩
section
def zl7(q:Nat){r:Res}{c:Code}(S:Prop)(hk:κ q=some (.own r))(hS:∀ v H u C,r.P v H u C->S)(h:S->V P F B n O κ c ztg):V P F B n O κ c ztg:=fun a u hh=>by
 obtain⟨H,fp,hH⟩:=hh;exact h (hS _ _ _ _ (hH.slot q _ hk).1) a u ⟨H,fp,hH⟩
def Ma{a0:Addr}{c:Nat}(hn:Nat.blt d n=true)(hg:gK ops κ ⟨some d,.call ⟨.builtin .unsafeSliceData,#[x],tts⟩,ty,pos,aft,g⟩=some true)(hx:evK κ x=some (.slice (some a0) m c))(hc:c≠0):
  StepOK P F B n ops O κ ⟨some d,.call ⟨.builtin .unsafeSliceData,#[x],tts⟩,ty,pos,aft,g⟩ d (.is (.pointer (some a0))):=
 kf rfl (by simpa using hn) hg trivial fun a u H fp e=>⟨_,by
  have h1:a.eval x=.slice (some a0) m c:=e.is_ x _ (by simp [Op.operands,Call.operands]) hx;have h2:=Lib.run_unsafeSliceData_row (P:=P) u tts ty a0 m c hc;simp only[execOp,resolve,invoke,builtin,nw,mf,ny,zpp,mw,zpk,h1,h2],rfl⟩
def L9{pt it e:TypeId}{m c:Nat}{bs:List Nat}(hb:∀ b∈bs,b<=255)(h0:bs≠[])(hl:bs.length<=1099511627776)(hn:Nat.blt d n=true)(hg:gK ops κ ⟨some d,.call ⟨.builtin .unsafeString,#[x,y],#[pt,it]⟩,ty,pos,aft,g⟩=some true)(hx:evK κ x=some (.pointer (some ⟨b,0,none⟩)))(hy:evK κ y=some (.int .i64 bs.length))
  (hq:κ q=some (.own (AtV (.slice (some ⟨b,0,none⟩) m c) (SlR e 1 bs.length (byV bs))))) (hp:P.underlying pt=some (.pointer e)) (hc:P.cellsOf e=1):
  ww P F B n ops O κ ⟨some d,.call ⟨.builtin .unsafeString,#[x,y],#[pt,it]⟩,ty,pos,aft,g⟩ q (.own GNo.res) d (.is (.string (og bs))):=by
 rintro κ' a u hlk hks ⟨H,fp,hh⟩;unfold After;rw[na (xj hh hlk hg)];have en:=hh.env hlk;have hk':=hks.trans hq;obtain⟨hown,hM⟩:=hh.slot q _ hk';have h1:a.eval x=.pointer (some ⟨b,0,none⟩):=en.is_ x _ (by simp [Op.operands,Call.operands]) hx;have h2:a.eval y=.int .i64 bs.length:=en.is_ y _ (by simp [Op.operands,Call.operands]) hy;obtain⟨hxl,hown⟩:=hown;rcases hown with ⟨_,hv,_⟩ | ⟨b2,cap,rest,hv,hbk,hnc,hcm,hcl,hC⟩
 ·cases hv
 ·cases hv;have hbm:=hM b ((hC b).2 rfl);have hlen:(bs.map UInt8.ofNat).length=bs.length:=my _
  have hr:=Lib.run_unsafeString_row (P:=P) u pt it ty e hp hc b (byV bs++rest).toArray.size (by simp [World.shape?,hbk]) (bs.map UInt8.ofNat) (fun h=>h0 (List.map_eq_nil_iff.1 h)) (by rw[hlen];simp) (by rw[hlen];omega) (fun j v hj=>by
   rw[vj,zpc,kq hbk];rw[zpr] at hj
   cases hbj:bs[j]? with
   | none=>rw[hbj] at hj;cases hj
   | some z=>
    rw[hbj] at hj;cases hj;have hz:=hb z (zpa hbj);have hjl:j<(byV bs).length:=by rw[my];exact get_lt hbj
    simp only[zrg];rw[zqb hjl,zpr,hbj];have:(UInt8.ofNat z).toNat=z:=by simp;omega
    rw[this];rfl)
  rw[hlen] at hr
  have hrun:(execOp a.eval ⟨some d,.call ⟨.builtin .unsafeString,#[x,y],#[pt,it]⟩,ty,pos,aft,g⟩).run P u=.ok (.value (.string (og bs))) (u.freeze ⟨b,0,none⟩ bs.length):=by
   simp only[execOp,resolve,invoke,builtin,nw,mf,ny,zpp,mw,zpk,h1,h2,hr];rfl
  rw[hrun];simp only[Upon];have h3:=hh.usePut (d:=q) (a':=a) (r':=GNo.res) (C:=fun _=>False) hk' (Pg (n:=bs.length) hh.sub ((hC b).2 rfl) hbm.2.1) rfl rfl (fun _ _=>rfl) (fun k h=>h) (fun k h=>h.elim);rw[j8] at h3;exact⟨H,_,h3.put (k:=.is _) (zm hn) trivial Z⟩
def G4{c:Nat}(hn:Nat.blt d n=true)(hg:gK ops κ ⟨some d,.call ⟨.builtin .unsafeSliceData,#[x],tts⟩,ty,pos,aft,g⟩=some true)(hx:evK κ x=some (.slice none m c)):
  StepOK P F B n ops O κ ⟨some d,.call ⟨.builtin .unsafeSliceData,#[x],tts⟩,ty,pos,aft,g⟩ d (.is (.pointer none)):=
 kf rfl (by simpa using hn) hg trivial fun a u H fp e=>⟨_,by
  have h1:a.eval x=.slice none m c:=e.is_ x _ (by simp [Op.operands,Call.operands]) hx;have h2:=Lib.run_unsafeSliceData_nil (P:=P) u tts ty m c;simp only[execOp,resolve,invoke,builtin,nw,mf,ny,zpp,mw,zpk,h1,h2],rfl⟩
def G2{pt it:TypeId}{p0:Option Addr}(hn:Nat.blt d n=true)(hg:gK ops κ ⟨some d,.call ⟨.builtin .unsafeString,#[x,y],#[pt,it]⟩,ty,pos,aft,g⟩=some true)(hx:evK κ x=some (.pointer p0))(hy:evK κ y=some (.int .i64 0)):
  StepOK P F B n ops O κ ⟨some d,.call ⟨.builtin .unsafeString,#[x,y],#[pt,it]⟩,ty,pos,aft,g⟩ d (.is (.string .empty)):=
 kf rfl (by simpa using hn) hg trivial fun a u H fp e=>⟨_,by
  have h1:a.eval x=.pointer p0:=e.is_ x _ (by simp [Op.operands,Call.operands]) hx;have h2:a.eval y=.int .i64 0:=e.is_ y _ (by simp [Op.operands,Call.operands]) hy;have h3:=Lib.run_unsafeString_none (P:=P) u pt it ty p0;simp only[execOp,resolve,invoke,builtin,nw,mf,ny,zpp,mw,zpk,h1,h2,h3],rfl⟩
end
end Go.V
section
open Go.V
attribute [local irreducible] Has N Par Ret RetL Src StepOK V VO X
namespace Go.V.Bd
open Go.V.L4
def zg1(h0:bs≠[]){k c:Nat}:∀ v H u C,(AtV (.slice p k c) (SlR Qd 1 bs.length (byV bs))).P v H u C->∃ b cap,Value.slice p k c=.slice (some ⟨b,0,none⟩) bs.length cap/\bs.length<=cap:=fun v H u C ⟨_,h⟩=>by
 rcases h with ⟨h,_⟩ | ⟨b,cap,rest,hv,_,hnc,_⟩
 ·exact ni (m7 h) h0
 ·exact⟨b,cap,hv,hnc⟩
attribute [local irreducible] RetO RetT kx RetX RetY
def S7{bs:List Nat}(hb:∀ b∈bs,b<=255)(h0:bs≠[])(hl:bs.length<=1099511627776)(hB:zth B w)(hr:(GBd bb bs).P B w C)(hC:ZCB C w B):
  RetX zti 129 [kg bb] w B C GNo (.string (og bs)):=by
 unfold RetX;refine xa 900 (GBd bb bs) Tryz.func129 Z Tryz.ntmps129 (np Z) hB hr hC ?_;refine v9 (X:=Value×Value) 900 (r:=fun x=>(GBv bb bs x).res) (φ:=fun x _=>zjr bb x) (hφ:=ip bb) Z fun x H0 hs0 hx=>?_;obtain⟨p,sv⟩:=x;obtain⟨hpp,hsl⟩:=hx;dsimp only at hpp hsl |-;obtain⟨p1,k1,c1,rfl⟩:=hsl;refine v8 (r1:=xp bb [p,.slice p1 k1 c1] Ep) (r2:=(GSl (.slice p1 k1 c1) bs).res) 900 901 rfl (xf _) ?_;rw[Ds];refine zl7 901 _ Z (zg1 h0) fun hk=>?_;obtain⟨b,cap,hv,hcap⟩:=hk;cases hv;have hlp:0<bs.length:=zr9.2 h0;refine(ZP∘Zd) ?_;refine qo (id:=1) [(200006,[900]),(200011,[900]),(13,[901])] ki J (ZaU (h:=?_));refine z8 (Ma Z Z Z T) Z ((ZaU∘Zdf) ?_);refine xq (L9 (q:=901) hb h0 hl Z Z Z Z Z J J) Z Z (ZaB (h:=?_));exact xv L 901 (r:=GNo) (rs:=[.tmp 2]) Z (fun _ _ h=>h) hs0 Z Z (fun _=>rfl)
def Ny{p:Value}(hB:zth B w)(hr:(xc bb [p,.slice none 0 0] Ep).P B w C)(hC:ZCB C w B):
  RetX zti 129 [kg bb] w B C (xc bb [p,.slice none 0 0] Ep) (.string .empty):=by
 unfold RetX;refine xa 900 (xc bb [p,.slice none 0 0] Ep) Tryz.func129 Z Tryz.ntmps129 (np Z) hB hr hC ?_;rw[xd];refine(ZP∘Zd) ?_;refine qo (id:=1) [(200006,[900]),(200011,[900])] ki J (ZaU (h:=?_));refine z8 (G4 Z Z Z) Z ((ZaU∘Zdf) ?_);refine z8 (G2 Z Z Z Z) Z (ZaB (h:=?_));exact xv L 900 (r:=xc bb _ Ep) (rs:=[.tmp 2]) Z (fun _ _ h=>h) nq Z Z (fun _=>rfl)
end Go.V.Bd
namespace Go.V.L11
open Go.V.L2 Go.V.L4 Go.V.Bd
def _root_.Zc3(t:Wr Y->A:=by intro h;refine z7 (zw L (vs:=[_,_,_,_,_,_]) (qu Z) Z Z Z Z ⟨_,rfl⟩) Z ?_;exact h.1)(h:Y):A:=t ⟨h⟩
def _root_.Zay(t:Wr Y->A:=by intro h;refine z7 (zw L (vs:=[_,_,_,_,_,_]) (y9 Z) Z Z Z Z ⟨_,rfl⟩) Z ?_;exact h.1)(h:Y):A:=t ⟨h⟩
def _root_.Za1(t:Wr Y->A:=by intro h;refine z7 (yi L (vs:=[_,_,_,_,_,_]) Z Z Z Z Z ⟨_,rfl⟩) Z ?_;exact h.1)(h:Y):A:=t ⟨h⟩
def _root_.Zet(t:Wr Y->A:=by intro h;refine z8 (zw L (vs:=[_,_,_,_,_,_]) (y9 Z) Z Z Z Z ⟨_,rfl⟩) Z ?_;exact h.1)(h:Y):A:=t ⟨h⟩
def _root_.Za2(t:Wr Y->A:=by exact fun h=>(Zbd∘ZF) h.1)(h:Y):A:=t ⟨h⟩
def _root_.ZbP(t:Wr Y->A:=by exact fun h=>(ZZ∘Zan) h.1)(h:Y):A:=t ⟨h⟩
def _root_.Zca(t:Wr Y->A:=by exact fun h=>(ZZ∘Zi) h.1)(h:Y):A:=t ⟨h⟩
def oh(t:U):ByteArray:=(⟨#[]⟩++tT t)++⟨#[10]⟩
def a7(l:List U):List Nat:=l.flatMap fun t=>dm (oh t)
def S3:List U->Int
 | []=>0
 | t::l=>if tE t≠0 then tE t else S3 l
def Vf{t:U}(hi:l[i]?=some t):S3 (l.drop i)=if tE t≠0 then tE t else S3 (l.drop (i+1)):=by
 rw[zp3 (get_lt hi),ln hi];rfl
def Et{t:U}(hi:l[i]?=some t):a7 (l.take (i+1))=a7 (l.take i)++dm (oh t):=by
 unfold a7;rw[vl hi,zpl,zp0,zss,mo]
def ej{l:List U}(hs:∀ t∈l,(oh t).size<=1000):∀ i,(a7 (l.take i)).length<=i*1000
 | 0=>by rw[zpv];exact nu _
 | i+1=>by
  cases h:l[i]? with
  | none=>
   have:=List.getElem?_eq_none_iff.1 h;rw[zpf T];have h2:=ej hs i;rw[zpf T] at h2;omega
  | some t=>
   rw[Et h,nr,p8];have h2:=ej hs i;have:=hs t (zpa h);omega
def Sb(s:ByteArray):∀ b∈dm s,b<=255:=fun b hb=>by
 obtain⟨c,_,rfl⟩:=zo9.1 hb;have:=c.toNat_lt;omega
def zcd(l:List U):∀ b∈a7 l,b<=255:=fun b hb=>by
 obtain⟨t,_,h⟩:=zrr.1 hb;exact Sb _ b h
attribute [local irreducible] RetO RetT kx RetX RetY
def id_ret{t:U}(hB:zth B w):Ret zti 69 [uv t] w B (fun v _=>v=uv t):=by
 refine yn Tryz.func69 Z Tryz.ntmps69 (np Z) hB ((Zu∘Zca∘ZE∘Zc3∘Za2) ?_);refine yj1 L [.cell 2 57] fun u H hH hle=>?_;exact⟨_,y9 Z,rfl,rfl⟩
def none_ret{t:U}(hB:zth B w):Ret zti 70 [uv t] w B (fun v _=>v=.string ⟨#[]⟩):=by
 refine yn Tryz.func70 Z Tryz.ntmps70 (np Z) hB ((Zu∘Zag∘Zc) ?_);exact yj2 L [.tmp 2]
def Dn(t:U):(oh t).size=(tT t).size+1:=by
 unfold oh;rw[zpw,zpw];have h1:(⟨#[]⟩:ByteArray).size=0:=rfl;have h2:(⟨#[10]⟩:ByteArray).size=1:=rfl;omega
def zcc(h:l≠[]):a7 l≠[]:=fun e=>by
 cases l with
 | nil=>exact h rfl
 | cons t l=>
  unfold a7 at e;rw[zp0] at e;have h1:=(List.append_eq_nil_iff.1 e).1;have h2:=p8 (oh t);rw[h1,Dn] at h2;cases h2
def text_ret{l:List U}(hln:l.length<=4096)(hz:∀ t∈l,TZ t)(hs:∀ t∈l,(oh t).size<=1000)(hB:zth B w)(hv:US l fu v B):
  Ret zti 68 [v,.func (.func 69) #[] #[],.func (.func 70) #[] #[]] w B (fun r _=>r=.tuple #[.string (if S3 l≠0 then ⟨#[]⟩ else og (a7 l)),.int .i64 (S3 l)]):=by
 refine yn Tryz.func68 Z Tryz.ntmps68 (np Z) hB (k8 0 (US l fu) Z ns hv ((Zb2∘ZG∘Zg∘ZL∘Zm∘ZK∘ZbP) ?_));refine k9 8 900 rfl fun bb=>?_;by_cases hl0:l=[]
 ·subst hl0;refine(Z2∘Zg∘ZaW) ?_;refine xm (fun _:Nat=>[(8,.is (kg bb)),(16,.is (.int .i64 0)),(17,.is (.int .i64 0)),(900,.own (xp bb [.pointer none,.slice none 0 0] Ep))]) (fun _=>True) (fun i=>i) 0 trivial ⟨Z,Z,Z,Z,nm⟩ ?_;rintro _ _;refine(Ze∘Zt∘Zav∘Zaa) ?_;refine qe (yh L 900 (xc bb [.pointer none,.slice none 0 0] Ep) (.string .empty) (r:=xc bb [.pointer none,.slice none 0 0] Ep) Z Z Z Z Z (fun u H C hH _ hr hC=>Ny hH hr hC)) (ZR (h:=?_));exact yj2 L [.tmp 6,.tmp 7]
 ·refine Ec 901 Qd 1 (Ze6 (h:=?_));refine ay (X:=Value×Value) 900 (r:=fun x=>(GBv bb [] x).res) (φ:=fun x _=>zjr bb x) (ip bb) (.pointer none,.slice none 0 0) ⟨.inl Z,_,_,_,rfl⟩ Z ((Z2∘Zg∘ZaW) ?_);refine xm (fun i:Nat=>[(1,.is (.func (.func 69) #[] #[])),(2,.is (.func (.func 70) #[] #[])),(8,.is (kg bb)),(15,.sat (US l fu)),(16,.is (.int .i64 l.length)),(17,.is (.int .i64 i)),(900,.own (GBd bb (a7 (l.take i))).res)]) (fun i=>i<=l.length/\S3 (l.drop i)=S3 l) (fun i=>l.length-i) 0 ⟨mc _,rfl⟩ ⟨Z,Z,Z,Z,Z,Z,Z,nm⟩ ?_;rintro i ⟨hi,hte⟩;dsimp only at hi hte |-;by_cases hlt:i<l.length
  ·obtain⟨t,ht⟩:=xk hlt;have hcr:=f9 ht;have hzt:=hz t (zpa ht);have hst:=hs t (zpa ht);have hsl:=Dn t;rw[Vf ht] at hte;have hsn:=Et ht;have hbl:=ej hs i;have hwk:IntKind.i64.wrap ((i:Int)+1)=((i+1:Nat):Int):=xb T T;by_cases he:tE t=0
   ·rw[nc (fun h=>h he)] at hte;have hs1:(⟨#[]⟩:ByteArray).size+(tT t).size<=9223372036854775807:=by have h1:(⟨#[]⟩:ByteArray).size=0:=rfl;omega
    have hs2:((⟨#[]⟩:ByteArray)++tT t).size+(⟨#[10]⟩:ByteArray).size<=9223372036854775807:=by rw[zpw];have h1:(⟨#[]⟩:ByteArray).size=0:=rfl;have h2:(⟨#[10]⟩:ByteArray).size=1:=rfl;omega
    refine(Ze∘Zt∘Z6∘Zs∘Zau∘Za1∘Zbs∘Z8∘Zay) ?_;refine z71 L Z (fun u H hH _=>id_ret hH) ?_;refine z71 L Z (fun u H hH _=>ky hzt hH) ?_;refine(Zd∘ZaQ∘Zaq∘Zae∘Zbi) ?_;refine qo (id:=10) [(37,[900])] ki J ((Zl∘Zet) ?_);refine z81 L Z (fun u H hH _=>none_ret hH) ?_;refine(Zl∘Zet) ?_;refine z81 L Z (fun u H hH _=>id_ret hH) ?_;refine z81 L Z (fun u H hH _=>Kw hzt hH) ?_;refine(Zen∘Zen) ?_;refine xq (yh L 900 (GBd bb (a7 (l.take (i+1)))) (.tuple #[.int .i64 (oh t).size,.nilIface]) (r:=GBd bb (a7 (l.take i))) Z Z Z Z Z (fun u H C hH _ hr hC=>by rw[hsn];exact write_ret (str:=oh t) T hH hr hC)) Z Z ?_;refine(Zck∘ZaE∘ZY∘Z7∘Zc1) ?_;exact ym (x:=i) (i+1) ⟨hlt,hte⟩ T ⟨Z,Z,Z,Z,Z,Z,Z,nm⟩
   ·rw[na he] at hte;refine(Ze∘Zt∘Z6∘Zs∘Zau∘Za1∘Zbs∘Z8∘Zay) ?_;refine z71 L Z (fun u H hH _=>id_ret hH) ?_;refine z71 L Z (fun u H hH _=>ky hzt hH) ?_;refine(Zd∘ZaQ∘ZaO∘Zal∘ZR) ?_;refine yj1 L [.tmp 6,.tmp 7] fun u H hH hle=>?_;rw[<-hte,na he];rfl
  ·obtain rfl:i=l.length:=by omega
   rw[zq9] at hte;rw[m9];have hbl:=ej hs l.length;rw[m9] at hbl;refine(Ze∘Zt∘Zav∘Zaa) ?_;refine qe (yh L 900 GNo (.string (og (a7 l))) (r:=GBd bb (a7 l)) Z Z Z Z Z (fun u H C hH _ hr hC=>S7 (zcd l) (zcc hl0) T hH hr hC)) (ZR (h:=?_));refine yj1 L [.tmp 6,.tmp 7] fun u H hH hle=>?_;rw[<-hte];rfl
def Ce(l:List U):ByteArray×Int:=if 4096<l.length then (⟨#[]⟩,3) else (if S3 l≠0 then ⟨#[]⟩ else og (a7 l),S3 l)
def Nt{f g:Value}(hln:4096<l.length)(hB:zth B w)(hv:US l fu v B):
  Ret zti 68 [v,f,g] w B (fun r _=>r=.tuple #[.string ⟨#[]⟩,.int .i64 3]):=by
 refine yn Tryz.func68 Z Tryz.ntmps68 (np Z) hB (k8 0 (US l fu) Z ns hv ((Zb2∘ZG∘Zg∘ZO∘Zcj∘ZR) ?_));exact yj2 L [.tmp 6,.tmp 7]
def Uz{l:List U}(hz:∀ t∈l,TZ t)(hs:∀ t∈l,(oh t).size<=1000)(hB:zth B w)(hv:US l fu v B):
  Ret zti 21 [v] w B (fun r _=>r=.tuple #[.string (Ce l).1,.int .i64 (Ce l).2]):=by
 unfold Ce;refine yn Tryz.func21 Z Tryz.ntmps21 (np Z) hB (k8 0 (US l fu) Z ns hv ?_);by_cases hln:4096<l.length
 ·rw[na hln];refine(Zb2∘Zag∘Zk) ?_;refine z7 (q0 L Z Z (zm Z) Z Z Z (fun u H hH hle _ v1 h1=>Nt hln hH h1)) Z ((Zc5∘ZR) ?_);exact yj2 L [.tmp 2,.tmp 3]
 ·rw[nc hln];refine(Zb2∘Zag∘Zk) ?_;refine z7 (q0 L Z Z (zm Z) Z Z Z (fun u H hH hle _ v1 h1=>text_ret T hz hs hH h1)) Z ((Zc5∘ZR) ?_);exact yj2 L [.tmp 2,.tmp 3]
end Go.V.L11
namespace Go.V.L2
def d7(h:chk s=0):noB s 64:=by
 unfold chk at h;split at h
 ·rename_i hc;have:=zph.1 hc.2.2;exact fun hm=>by have:=this _ hm;revert this;decide
 ·exact ni h E
def Xe{t:U}(h:tE t=0):ptA (tT t)=(t,0):=by
 obtain⟨⟨⟨x,y⟩,z⟩,⟨⟨x2,y2⟩,z2⟩⟩:=t;unfold tE at h;dsimp only at h;split at h
 ·rename_i h1;obtain⟨c1,c2,c3⟩:=Kd h1;obtain⟨d1,d2,d3⟩:=fh h
  have n1:noB (cr x y z) 64:=by
   unfold cr G8;exact wc (wc (wc (wc (d7 c1) (lg E)) (d7 c2)) (lg E)) (d7 c3)
  have n2:noB (oe x2 y2 z2) 64:=by
   unfold oe;split
   ·unfold G8;exact wc (wc (d7 d1) (lg E)) (d7 d2)
   ·rename_i hz;unfold cr G8;exact wc (wc (wc (wc (d7 d1) (lg E)) (d7 d2)) (lg E)) (d7 (d3.resolve_left hz))
  unfold ptA tT;dsimp only;rw[Bv n1];dsimp only;rw[na ⟨rfl,Dr n2⟩,zhj c1 c2 c3,zhd h];rfl
 ·rename_i h1;exact ni h h1
def wi(h:chk s=0):s.size<=16:=by
 unfold chk at h;split at h
 ·rename_i hc;exact hc.2.1
 ·exact ni h E
def tz_of{t:U}(h:tE t=0):TZ t:=by
 unfold tE at h;split at h
 ·rename_i h1;obtain⟨c1,c2,c3⟩:=Kd h1;obtain⟨d1,d2,d3⟩:=fh h;have a1:=wi c1;have a2:=wi c2;have a3:=wi c3;have b1:=wi d1;have b2:=wi d2
  have b3:t.2.2.size<=16:=by
   rcases d3 with d3 | d3
   ·rw[d3];decide
   ·exact wi d3
  unfold TZ;refine⟨⟨?_,?_,?_⟩,?_,?_,?_⟩<;>omega
 ·rename_i h1;exact ni h h1
end Go.V.L2
namespace Go.V.L3
open Go.V.L2
abbrev FT:=Ed×Ed×Bool
def fcs(f:FT):List Value:=[.string f.1.1.1,.string f.1.1.2,.string f.1.2,.string f.2.1.1.1,.string f.2.1.1.2,.string f.2.1.2,.bool f.2.2]
abbrev n3:Ed:=((⟨#[]⟩,⟨#[]⟩),⟨#[]⟩)
def tkF(x y:ByteArray):Bool:=decide (x=⟨#[]⟩) || decide (x=y)
def kr(f:FT)(t:U):Bool:=tkF f.1.1.1 t.1.1.1 && tkF f.1.1.2 t.1.1.2 && tkF f.1.2 t.1.2 && (!f.2.2 || decide (f.2.1=t.2))
def w9(f:FT):Nat:=if f.1.1.1=⟨#[]⟩ then 0 else if f.1.1.2=⟨#[]⟩ then 1 else if f.1.2=⟨#[]⟩ then 2 else if f.2.2=true then 4 else 3
def cu(x:ByteArray):Bool:=!decide (x=⟨#[]⟩) && !decide (chk x=0)
def fE(f:FT):Int:=if f.2.2=false/\¬ f.2.1=n3 then 5 else if (cu f.1.1.1 || cu f.1.1.2 || cu f.1.2)=true then 6 else if f.2.2=true then b9 f.2.1.1.1 f.2.1.1.2 f.2.1.2 else 0
structure WOrd{α:Type}(c:α->α->Int):Prop where
 refl:∀ a,c a a=0
 anti:∀ a b,c b a= -c a b
 trans:∀ a b d,c a b<=0->c b d<=0->c a d<=0
def wOf{c:α->α->Int}(h:Ord3 c):WOrd c:=⟨h.refl,h.anti,h.trans⟩
def WOrd.zero{α:Type}:WOrd (fun _ _:α=>(0:Int)):=⟨fun _=>rfl,fun _ _=>rfl,fun _ _ _ _ _=>zqy _⟩
def WOrd.lex{β:Type}{c:α->α->Int}{e:β->β->Int}(h:WOrd c)(k:WOrd e):WOrd (Ei c e) where
 refl a:=by unfold Ei;rw[E7,h.refl,if_pos rfl,k.refl]
 anti a b:=by
  unfold Ei;rw[E7,E7];have h1:=h.anti a.1 b.1;have h2:=k.anti a.2 b.2;by_cases e1:c a.1 b.1=0
  ·rw[na e1,na T];exact h2
  ·rw[nc e1,nc T];exact h1
 trans a b d h1 h2:=by
  unfold Ei at *;rw[E7] at *;have a1:=h.anti a.1 b.1;have a2:=h.anti b.1 d.1;have a3:=h.anti a.1 d.1;have t1:=h.trans a.1 b.1 d.1;have t2:=h.trans d.1 b.1 a.1;have t3:=h.trans b.1 d.1 a.1;have t4:=h.trans d.1 a.1 b.1;have t5:=k.trans a.2 b.2 d.2;by_cases e1:c a.1 b.1=0
  ·rw[na e1] at h1;by_cases e2:c b.1 d.1=0
   ·rw[na e2] at h2;rw[na (by have:=t1 T T;have:=t2 T T;omega)];exact t5 h1 h2
   ·rw[nc e2] at h2;have e3:c a.1 d.1≠0:=fun e=>by have:=t4 T T;omega
    rw[nc e3];exact t1 T h2
  ·rw[nc e1] at h1;by_cases e2:c b.1 d.1=0
   ·rw[na e2] at h2;have e3:c a.1 d.1≠0:=fun e=>by have:=t3 T T;omega
    rw[nc e3];exact t1 h1 T
   ·rw[nc e2] at h2;have e3:c a.1 d.1≠0:=fun e=>by have:=t4 T T;omega
    rw[nc e3];exact t1 h1 h2
def upN{α:Type}(p:Prop)[Decidable p](c:α->α->Int):α->α->Int:=fun a b=>if p then c a b else 0
def zb1{p:Prop}[Decidable p]{c:α->α->Int}(h:WOrd c):WOrd (upN p c):=by
 by_cases hp:p
 ·have:upN p c=c:=by funext a b;exact na hp
  rw[this];exact h
 ·have:upN p c=fun _ _=>0:=by funext a b;exact nc hp
  rw[this];exact WOrd.zero
def zlt(n:Nat):U->U->Int:=Ei (Ei (Ei (upN (1<=n) bo) (upN (2<=n) bo)) (upN (3<=n) bo)) (upN (4<=n) R0)
def zau(n:Nat):WOrd (zlt n):=(((zb1 (wOf cmpB_ord)).lex (zb1 (wOf cmpB_ord))).lex (zb1 (wOf cmpB_ord))).lex (zb1 (wOf cmp3_ord))
def zav{t u:U}(h:ku t u<0):zlt n t u<=0:=by
 unfold ku R0 at h;unfold zlt;unfold Ei at *;simp only[E7] at *;unfold upN;generalize bo t.1.1.1 u.1.1.1=a at *;generalize bo t.1.1.2 u.1.1.2=b at *;generalize bo t.1.2 u.1.2=c at *
 have hd:R0 t.2 u.2=if (if bo t.2.1.1 u.2.1.1=0 then bo t.2.1.2 u.2.1.2 else bo t.2.1.1 u.2.1.1)=0 then bo t.2.2 u.2.2 else if bo t.2.1.1 u.2.1.1=0 then bo t.2.1.2 u.2.1.2 else bo t.2.1.1 u.2.1.1:=by
  unfold R0 Ei;simp only[E7]
 rw[<-hd] at h;generalize R0 t.2 u.2=d at *;by_cases ha:a=0<;>by_cases hb:b=0<;>by_cases hc:c=0<;>by_cases n1:1<=n<;>by_cases n2:2<=n<;>by_cases n3':3<=n<;>by_cases n4:4<=n<;>simp_all<;>omega
def Pe(f:FT):U:=((((if 1<=w9 f then f.1.1.1 else ⟨#[]⟩),(if 2<=w9 f then f.1.1.2 else ⟨#[]⟩)),(if 3<=w9 f then f.1.2 else ⟨#[]⟩)),if 4<=w9 f then f.2.1 else n3)
def zbp(f:FT)(t:U):Int:=zlt (w9 f) t (Pe f)
def ic(f:FT):FT:=(((if 1<=w9 f then f.1.1.1 else ⟨#[]⟩,if 2<=w9 f then f.1.1.2 else ⟨#[]⟩),if 3<=w9 f then f.1.2 else ⟨#[]⟩),(if 4<=w9 f then f.2.1 else n3),decide (4<=w9 f))
def ai(f:FT):(w9 f=0/\f.1.1.1=⟨#[]⟩)\/(w9 f=1/\¬ f.1.1.1=⟨#[]⟩/\f.1.1.2=⟨#[]⟩)\/(w9 f=2/\¬ f.1.1.1=⟨#[]⟩/\¬ f.1.1.2=⟨#[]⟩/\f.1.2=⟨#[]⟩)\/(w9 f=3/\¬ f.1.1.1=⟨#[]⟩/\¬ f.1.1.2=⟨#[]⟩/\¬ f.1.2=⟨#[]⟩/\f.2.2=false)\/(w9 f=4/\¬ f.1.1.1=⟨#[]⟩/\¬ f.1.1.2=⟨#[]⟩/\¬ f.1.2=⟨#[]⟩/\f.2.2=true):=by
 unfold w9;by_cases h1:f.1.1.1=⟨#[]⟩
 ·rw[na h1];exact .inl ⟨rfl,h1⟩
 ·rw[nc h1];by_cases h2:f.1.1.2=⟨#[]⟩
  ·rw[na h2];exact .inr (.inl ⟨rfl,h1,h2⟩)
  ·rw[nc h2];by_cases h3:f.1.2=⟨#[]⟩
   ·rw[na h3];exact .inr (.inr (.inl ⟨rfl,h1,h2,h3⟩))
   ·rw[nc h3];cases h4:f.2.2
    ·exact .inr (.inr (.inr (.inl ⟨rfl,h1,h2,h3,rfl⟩)))
    ·exact .inr (.inr (.inr (.inr ⟨rfl,h1,h2,h3,rfl⟩)))
def cB0{x y:ByteArray}:bo y x=0↔x=y:=⟨fun h=>(cmpB_ord.eq _ _ h).symm,fun h=>by subst h;exact cmpB_ord.refl _⟩
def c30{x y:Ed}:R0 y x=0↔x=y:=⟨fun h=>(cmp3_ord.eq _ _ h).symm,fun h=>by subst h;exact cmp3_ord.refl _⟩
def bw(f:FT)(t:U):kr (ic f) t=true↔zbp f t=0:=by
 unfold zbp zlt Ei kr ic Pe upN tkF;simp only[E7];rcases ai f with ⟨h,h1⟩ | ⟨h,h1,h2⟩ | ⟨h,h1,h2,h3⟩ | ⟨h,h1,h2,h3,h4⟩ | ⟨h,h1,h2,h3,h4⟩
 ·rw[h];simp
 ·rw[h];simp [h1,<-cB0];exact(Decidable.em _).symm
 ·rw[h];simp [h1,h2,<-cB0];by_cases e:bo t.1.1.1 f.1.1.1=0<;>simp [e];exact(Decidable.em _).symm
 ·rw[h];simp [h1,h2,h3,<-cB0];by_cases e:bo t.1.1.1 f.1.1.1=0<;>by_cases e2:bo t.1.1.2 f.1.1.2=0<;>simp [e,e2];exact(Decidable.em _).symm
 ·rw[h];simp [h1,h2,h3,<-cB0,<-c30];by_cases e:bo t.1.1.1 f.1.1.1=0<;>by_cases e2:bo t.1.1.2 f.1.1.2=0<;>by_cases e3:bo t.1.2 f.1.2=0<;>simp [e,e2,e3]
def zho{f:FT}{a b:U}(h:ku a b<0)(hb:zbp f b<=0):zbp f a<=0:=by
 unfold zbp at *;exact(zau (w9 f)).trans a b (Pe f) (zav h) hb
def zb7(q:α->Bool)(l:List α):(l.takeWhile q).length<=l.length:=by
 induction l with
 | nil=>simp
 | cons x l ih=>rw[zqj];split<;>simp only[nz,mz]<;>omega
def Ns(y:ByteArray):tkF ⟨#[]⟩ y=true:=by simp [tkF]
def Vk{f:FT}{t:U}(h:kr f t=true):kr (ic f) t=true:=by
 unfold kr at h;simp only[zpm] at h;obtain⟨⟨⟨h1,h2⟩,h3⟩,h4⟩:=h;unfold kr ic;rcases ai f with ⟨e,_⟩ | ⟨e,_⟩ | ⟨e,_⟩ | ⟨e,_⟩ | ⟨e,_,_,_,e4⟩
 ·rw[e];simp [Ns]
 ·rw[e];simp [Ns,h1]
 ·rw[e];simp [Ns,h1,h2]
 ·rw[e];simp [h1,h2,h3]
 ·rw[e];rw[e4] at h4;simp [h1,h2,h3];simpa using h4
end Go.V.L3
namespace Go.V.L2
def _root_.Zcq(t:Wr Y->A:=by intro h;refine z8 (zn Z (zm Z) Z) Z ?_;exact h.1)(h:Y):A:=t ⟨h⟩
def _root_.Zbg(t:Wr Y->A:=by intro h;refine z8 (qm Z Z Z Z) Z ?_;exact h.1)(h:Y):A:=t ⟨h⟩
def _root_.Zcy(t:Wr Y->A:=by intro h;refine qe (w7 L Z Z Z (rf Z) Z zik Z Z T T) ?_;exact h.1)(h:Y):A:=t ⟨h⟩
def _root_.Za8(t:Wr Y->A:=by intro h;refine z8 (yy Z Z Z Z) Z ?_;exact h.1)(h:Y):A:=t ⟨h⟩
def _root_.ZaV(t:Wr Y->A:=by intro h;refine ze (id:=18) ?_;exact h.1)(h:Y):A:=t ⟨h⟩
def _root_.Zbv(t:Wr Y->A:=by intro h;refine ze (id:=17) ?_;exact h.1)(h:Y):A:=t ⟨h⟩
def _root_.ZeN(t:Wr Y->A:=by intro h;refine qo (id:=11) [] ki J ?_;exact h.1)(h:Y):A:=t ⟨h⟩
def _root_.Zb5(t:Wr Y->A:=by exact fun h=>(Zcq∘Zcq) h.1)(h:Y):A:=t ⟨h⟩
def _root_.Ze7(t:Wr Y->A:=by exact fun h=>(Zb5∘Zb5) h.1)(h:Y):A:=t ⟨h⟩
def _root_.Za3(t:Wr Y->A:=by exact fun h=>(Zbg∘ZaN) h.1)(h:Y):A:=t ⟨h⟩
def _root_.Zeu(t:Wr Y->A:=by exact fun h=>(Zl∘Ze7) h.1)(h:Y):A:=t ⟨h⟩
def _root_.Zee(t:Wr Y->A:=by exact fun h=>(Za∘Zau) h.1)(h:Y):A:=t ⟨h⟩
def _root_.ZbH(t:Wr Y->A:=by exact fun h=>(Zeu∘Ze7) h.1)(h:Y):A:=t ⟨h⟩
def _root_.Zcb(t:Wr Y->A:=by exact fun h=>(Zk∘Zee) h.1)(h:Y):A:=t ⟨h⟩
def _root_.Zcc(t:Wr Y->A:=by exact fun h=>(Zbg∘ZbW) h.1)(h:Y):A:=t ⟨h⟩
def _root_.Zcr(t:Wr Y->A:=by exact fun h=>(Zf∘ZA) h.1)(h:Y):A:=t ⟨h⟩
def af(l:List U):List U:=g8 ku [] l
def du(x y:List U)(a c b:Bool)(t:U):Bool:=(decide (t∈x) && !decide (t∈y) && a) || (decide (t∈x) && decide (t∈y) && c) || (!decide (t∈x) && decide (t∈y) && b)
def ox(x y:List U)(a c b:Bool):List U:=af ((x++y).filter (du x y a c b))
def A0(l:List U):(af l).length<=l.length:=by
 have:=eo (c:=ku) l [];rw[mz,zpc] at this;exact this
def U6{s:Nat}{r:List U}{t y:U}(h:κ s=some (.own (SlR tyU 6 (r.length+1+1) ((r.flatMap ucs++ucs t)++ucs y)))):κ s=some (.own (SlR tyU 6 (r++[t]++[y]).length ((r++[t]++[y]).flatMap ucs))):=by
 rw[h,zpl,zpl,nr,nr];simp
def Ez(c:U->U->Int)(o:List U)(t:U)(r:List U):g8 c o (t::r)=g8 c (if t∈o then o else om c t o) r:=by
 simp only[g8];congr 1;by_cases h:t∈o
 ·rw[na h,na h]
 ·rw[nc h,nc h]
def oz{l:List U}(hl:l.length<=1000000)(hz:∀ t∈l,TZ t)(hB:zth B w)(hv:US l fu v B):
  Ret zti 42 [v] w B (US (af l) false):=by
 refine yn Tryz.func42 Z Tryz.ntmps42 (np Z) hB (k8 0 (US l fu) Z ns hv ((Z4∘Zj) ?_));refine k8 3 (US [] false) Z ns SlV.nil ((Z9∘ZaJ) ?_)
 refine xm (fun s:Nat×List U=>[(0,.sat (US l fu)),(3,.sat (US s.2 false)),(4,.is (.int .i64 s.1))])
  (fun s=>s.1<=l.length/\s.2.length<=s.1/\(∀ t∈s.2,TZ t)/\af l=g8 ku s.2 (l.drop s.1)) (fun s=>l.length-s.1) (0,[]) ⟨mc _,nu _,fun t h=>(by cases h),rfl⟩ ⟨rfl,rfl,rfl,nm⟩ ?_
 rintro⟨i,o⟩ ⟨hi,ho,hoz,he⟩;dsimp only at hi ho hoz he |-;by_cases hlt:i<l.length
 ·obtain⟨t,ht⟩:=xk hlt;have hct:=f9 ht;have zt:=hz t (zpa ht);have hol:o.length<=1000000:=T;rw[bn ht,Ez] at he;by_cases hin:t∈o
  ·rw[na hin] at he;have h1:(if t∈o then 1 else 0:Int)=1:=na hin;refine(Zcr∘Zg∘ZbF∘Ze∘Zt∘Zk∘Zcb∘Za1) ?_;refine z7 (q0 L Z Z (zm Z) Z Z Z (fun u H hH _ _ v1 h2=>wu hol h1 hH h2)) Z ((ZW∘Zw∘Zel∘Zdk∘Zbi∘Z0∘ZaC) ?_);exact ym (x:=(i,o)) (i+1,o) ⟨hlt,by dsimp only;omega,hoz,he⟩ G ⟨Z,Z,Z,trivial⟩
  ·rw[nc hin] at he;have h1:(if t∈o then 1 else 0:Int)=0:=nc hin;refine(Zcr∘Zg∘ZbF∘Ze∘Zt∘Zk∘Zcb∘Za1) ?_;refine z7 (q0 L Z Z (zm Z) Z Z Z (fun u H hH _ _ v1 h2=>wu hol h1 hH h2)) Z ((Zx∘Zm∘Zs∘Zd) ?_);refine ui 5 tyU 6 rfl ((ZC∘Zj∘Zv∘ZaJ) ?_)
   refine xm (fun s:Nat×List U×Bool=>[(0,.sat (US l fu)),(3,.sat (US o false)),(4,.is (.int .i64 i)),(5,.own (SlR tyU 6 s.2.1.length (s.2.1.flatMap ucs))),(6,.is (.bool s.2.2)),(7,.is (.int .i64 s.1))])
    (fun s=>s.1<=o.length/\s.2.1.length<=s.1+(if s.2.2=true then 1 else 0)/\om ku t o=s.2.1++(if s.2.2=true then o.drop s.1 else om ku t (o.drop s.1))) (fun s=>o.length-s.1) (0,[],false) ⟨mc _,mc _,rfl⟩ ⟨rfl,rfl,rfl,rfl,rfl,rfl,nm⟩ ?_
   rintro⟨k,nx,put⟩ ⟨hk,hnx,hins⟩;dsimp only at hk hnx hins |-;by_cases hko:k<o.length
   ·obtain⟨y,hy⟩:=xk hko;have hcy:=f9 hy;have zy:=hoz y (zpa hy);rw[bn hy] at hins;cases put
    ·rw[nc E] at hnx;rw[nc E,om] at hins;by_cases hc:ku t y<0
     ·rw[na hc] at hins;refine(Zf∘Zal∘Zg∘ZbF∘Ze∘ZeN∘Zl∘Za8∘Zl∘ZaT∘ZaT) ?_;refine z81 L Z (fun u H hH _=>Lt zt zy hH) ?_;refine(Zcw∘Zcc∘Ze∘Zaa) ?_;refine qe (yr (.inl Z) Z) ((Zcb∘Za1∘ZV∘Zcy) ?_);refine qe (yr (.inr Z) Z) ((ZF∘Zak∘Zc∘Za5) ?_);refine qe (yr (.inl Z) Z) ((Zcb∘Za1∘ZV∘Zcy) ?_);refine qe (yr (.inr Z) Z) ((Zax∘ZI∘Za∘ZaC) ?_);exact ym (x:=(k,nx,false)) (k+1,nx++[t]++[y],true) ⟨hko,by dsimp only;rw[if_pos Z];simp only[List.length_append,List.length_cons,List.length_nil];omega,by dsimp only;rw[hins,if_pos Z];simp⟩ G ⟨Z,Z,Z,U6 Z,Z,Z,trivial⟩
     ·rw[nc hc] at hins;refine(Zf∘Zal∘Zg∘ZbF∘Ze∘ZeN∘Zl∘Za8∘Zl∘ZaT∘ZaT) ?_;refine z81 L Z (fun u H hH _=>Lt zt zy hH) ?_;refine(ZcQ∘Za3∘Zdq∘Za5) ?_;refine qe (yr (.inl Z) Z) ((Zcb∘Za1∘ZV∘Zcy) ?_);refine qe (yr (.inr Z) Z) ((Zax∘ZI∘Za∘ZaC) ?_);exact ym (x:=(k,nx,false)) (k+1,nx++[y],false) ⟨hko,by dsimp only;rw[if_neg E,List.length_append,List.length_singleton];omega,by dsimp only;rw[hins,if_neg E];simp⟩ G ⟨Z,Z,Z,ut Z,Z,Z,trivial⟩
    ·rw[na rfl] at hnx hins;refine(Zf∘Zal∘Zg∘ZbF∘Ze∘ZeN∘Zl∘Za8∘ZbH∘Zb5∘Za3∘Zdq∘Za5) ?_;refine qe (yr (.inl Z) Z) ((Zcb∘Za1∘ZV∘Zcy) ?_);refine qe (yr (.inr Z) Z) ((Zax∘ZI∘Za∘ZaC) ?_);exact ym (x:=(k,nx,true)) (k+1,nx++[y],true) ⟨hko,by dsimp only;rw[if_pos Z,List.length_append,List.length_singleton];omega,by dsimp only;rw[hins,if_pos Z];simp⟩ G ⟨Z,Z,Z,ut Z,Z,Z,trivial⟩
   ·obtain rfl:k=o.length:=by omega
    rw[zq9] at hins;have hil:=wv (c:=ku) t o
    have hiz:∀ x∈om ku t o,TZ x:=fun x hx=>by
     rcases ud.1 hx with rfl | hx
     ·exact zt
     ·exact hoz x hx
    cases put
    ·rw[nc E] at hnx;rw[nc E,om] at hins;refine(Zf∘Zal∘Zg∘ZJ∘Zas∘Ze∘Zao∘Za∘Zr∘Zw∘Zar) ?_;refine qe (yr (.inl Z) Z) ((Zcb∘Za1∘ZV∘Zcy) ?_);refine qe (yr (.inr Z) Z) (ZF (h:=?_));refine uq 5 (ut Z) ?_;rw[<-hins];refine(Zbv∘Zk∘Zat∘Zax∘Z0∘ZaC) ?_;exact ym (x:=(i,o)) (i+1,om ku t o) ⟨hlt,by dsimp only;omega,hiz,he⟩ G ⟨Z,Z,Z,trivial⟩
    ·rw[na rfl] at hnx;rw[na rfl,mo] at hins;refine(Zf∘Zal∘Zg∘ZJ∘Zas∘Ze∘Zao∘Za∘Zr∘Zae∘Zbi) ?_;refine uq 5 rfl ?_;rw[<-hins];refine(Zbv∘Zk∘Zat∘Zax∘Z0∘ZaC) ?_;exact ym (x:=(i,o)) (i+1,om ku t o) ⟨hlt,by dsimp only;omega,hiz,he⟩ G ⟨Z,Z,Z,trivial⟩
 ·obtain rfl:i=l.length:=by omega
  rw[zq9,g8] at he;rw[he];refine(Zcr∘Zg∘ZJ∘Zas∘ZaV∘Zk∘Zcp) ?_;refine yj1 L [.tmp 2] fun u H hH hle=>?_;exact fun v hv=>hv
end Go.V.L2
end
namespace Go.V
inductive Tr (K V:Type) where
 | nil
 | node (k:K) (v:V) (l r:Tr K V)
namespace Tr
variable {K V:Type}
def size:Tr K V->Nat
 | nil=>0
 | node _ _ l r=>size l+1+size r
def deep:Tr K V->Nat
 | nil=>0
 | node _ _ l r=>1+max (deep l) (deep r)
def deep_le:∀ t:Tr K V,deep t<=size t
 | nil=>nu _
 | node _ _ l r=>by have:=deep_le l;have:=deep_le r;simp only[deep,size];omega
def bal(k:K)(v:V)(l r:Tr K V):Tr K V:=
 if deep l>deep r+1 then
  match l with
  | nil=>nil
  | node lk lv ll lr=>
   if deep ll>=deep lr then node lk lv ll (node k v lr r)
   else match lr with
    | nil=>nil
    | node mk mv ml mr=>node mk mv (node lk lv ll ml) (node k v mr r)
 else if deep r>deep l+1 then
  match r with
  | nil=>nil
  | node rk rv rl rr=>
   if deep rr>=deep rl then node rk rv (node k v l rl) rr
   else match rl with
    | nil=>nil
    | node mk mv ml mr=>node mk mv (node k v l ml) (node rk rv mr rr)
 else node k v l r
def put(c:K->K->Int)(k:K)(v:V):Tr K V->Tr K V
 | nil=>node k v nil nil
 | node nk nv l r=>if c k nk<0 then bal nk nv (put c k v l) r else if c k nk>0 then bal nk nv l (put c k v r) else node nk v l r
def first:K->V->Tr K V->Tr K V->(K×V)×Tr K V
 | k,v,nil,r=>((k,v),r)
 | k,v,node lk lv ll lr,r=>((first lk lv ll lr).1,bal k v (first lk lv ll lr).2 r)
def drop(c:K->K->Int)(k:K):Tr K V->Tr K V×Bool
 | nil=>(nil,false)
 | node nk nv l r=>if c k nk<0 then (bal nk nv (drop c k l).1 r,(drop c k l).2) else if c k nk>0 then (bal nk nv l (drop c k r).1,(drop c k r).2)
  else match r with
   | nil=>(l,true)
   | node rk rv rl rr=>(bal (first rk rv rl rr).1.1 (first rk rv rl rr).1.2 l (first rk rv rl rr).2,true)
def get(c:K->K->Int)(k:K):Tr K V->Option V
 | nil=>none
 | node nk nv l r=>if c k nk=0 then some nv else if c k nk<0 then get c k l else get c k r
def rank(c:K->K->Int)(k:K):Tr K V->Nat
 | nil=>0
 | node nk _ l r=>if c nk k<0 then size l+1+rank c k r else rank c k l
def at':Tr K V->Nat->Option (K×V)
 | nil,_=>none
 | node k v l r,i=>if i<size l then at' l i else if i>size l then at' r (i-(size l+1)) else some (k,v)
def list:Tr K V->List (K×V)
 | nil=>[]
 | node k v l r=>list l++(k,v)::list r
def prs:Tr K V->Int->Int->Int->List (K×V)
 | nil,_,_,_=>[]
 | node k v l r,a,f,t=>if a+(size (node k v l r):Int)<=f\/a>=t then [] else
   prs l a f t++((if a+(size l:Int)>=f/\a+(size l:Int)<t then [(k,v)] else [])++prs r (a+size l+1) f t)
def get_eq{c:K->K->Int}{k nk:K}{nv:V}{l r:Tr K V}(h:c k nk=0):get c k (node nk nv l r)=some nv:=na h
def get_lt{c:K->K->Int}{k nk:K}{nv:V}{l r:Tr K V}(h:c k nk<0):get c k (node nk nv l r)=get c k l:=(nc T).trans (na h)
def get_gt{c:K->K->Int}{k nk:K}{nv:V}{l r:Tr K V}(h0:¬ c k nk=0)(h:¬ c k nk<0):get c k (node nk nv l r)=get c k r:=(nc h0).trans (nc h)
def rank_lt{c:K->K->Int}{k nk:K}{nv:V}{l r:Tr K V}(h:c nk k<0):rank c k (node nk nv l r)=size l+1+rank c k r:=na h
def rank_ge{c:K->K->Int}{k nk:K}{nv:V}{l r:Tr K V}(h:¬ c nk k<0):rank c k (node nk nv l r)=rank c k l:=nc h
def at_lt{k:K}{v:V}{l r:Tr K V}(h:i<size l):at' (node k v l r) i=at' l i:=na h
def at_gt{k:K}{v:V}{l r:Tr K V}(h:i>size l):at' (node k v l r) i=at' r (i-(size l+1)):=(nc T).trans (na h)
def at_eq{k:K}{v:V}{l r:Tr K V}(h:i=size l):at' (node k v l r) i=some (k,v):=(nc T).trans (nc T)
def size_list:∀ t:Tr K V,(list t).length=size t
 | nil=>rfl
 | node _ _ l r=>by simp only[list,nr,nz,size_list l,size_list r,size];omega
def size_node(k:K)(v:V)(l r:Tr K V):size (node k v l r)=size l+1+size r:=rfl
def deep_node(k:K)(v:V)(l r:Tr K V):deep (node k v l r)=1+max (deep l) (deep r):=rfl
def l6(k:K)(v:V)(l r:Tr K V):list (bal k v l r)=list l++(k,v)::list r:=by
 unfold bal;split
 ·rename_i h
  cases l with
  | nil=>simp [deep] at h
  | node lk lv ll lr=>
   dsimp only;split
   ·simp [list]
   ·rename_i h2
    cases lr with
    | nil=>simp [deep] at h2
    | node mk mv ml mr=>simp [list]
 ·split
  ·rename_i h
   cases r with
   | nil=>simp [deep] at h
   | node rk rv rl rr=>
    dsimp only;split
    ·simp [list]
    ·rename_i h2
     cases rl with
     | nil=>simp [deep] at h2
     | node mk mv ml mr=>simp [list]
  ·simp [list]
def r6(k:K)(v:V)(l r:Tr K V):size (bal k v l r)=size l+1+size r:=by
 rw[<-size_list,l6,nr,nz,size_list,size_list];omega
def Ag:∀ (k:K) (v:V) (l r:Tr K V),(first k v l r).1::list (first k v l r).2=list l++(k,v)::list r
 | k,v,nil,r=>rfl
 | k,v,node lk lv ll lr,r=>by
  simp only[first,l6,list];rw[<-zpq,Ag lk lv ll lr]
def size_first(k:K)(v:V)(l r:Tr K V):size (first k v l r).2=size l+size r:=by
 have:=nh List.length (Ag k v l r);simp only[nz,nr,size_list] at this;omega
def size_put(c:K->K->Int)(k:K)(v:V):∀ t:Tr K V,size (put c k v t)<=size t+1
 | nil=>by simp [put,size]
 | node nk nv l r=>by
  have:=size_put c k v l;have:=size_put c k v r;simp only[put];split
  ·rw[r6,size_node];omega
  ·split
   ·rw[r6,size_node];omega
   ·rw[size_node,size_node];omega
def size_drop(c:K->K->Int)(k:K):∀ t:Tr K V,size (drop c k t).1<=size t
 | nil=>nu _
 | node nk nv l r=>by
  have:=size_drop c k l;have:=size_drop c k r;simp only[drop];split
  ·rw[r6,size_node];omega
  ·split
   ·rw[r6,size_node];omega
   ·cases r with
    | nil=>simp only[size];omega
    | node rk rv rl rr=>rw[r6,size_first,size_node,size_node];omega
def prs_length_le:∀ (t:Tr K V) (a f e:Int),(prs t a f e).length<=size t
 | nil,_,_,_=>nu _
 | node k v l r,a,f,e=>by
  have:=prs_length_le l a f e;have:=prs_length_le r (a+size l+1) f e;simp only[prs];split
  ·exact mc _
  ·simp only[nr,size_node];split
   ·simp only[nz,mz];omega
   ·simp only[mz];omega
def TreeAt(nl:K->V->Value->Value->Int->Int->List Value)(ty:TypeId):Tr K V->Value->Heap->Prop
 | nil,v,_=>v=.pointer none
 | node k x l r,v,H=>∃ b lv rv,v=.pointer (some ⟨b,0,none⟩)/\H b=some (.cells (nl k x lv rv (size (node k x l r)) (deep (node k x l r))).toArray ty)/\TreeAt nl ty l lv H/\TreeAt nl ty r rv H
def TreeAt.mono{nl:K->V->Value->Value->Int->Int->List Value}:∀ {t:Tr K V},Kn.mono (.sat (TreeAt nl ty t))
 | nil,_,_,_,h,_=>h
 | node k x l r,_,_,_,⟨b,lv,rv,h1,h2,h3,h4⟩,hle=>⟨b,lv,rv,h1,hle _ _ h2,TreeAt.mono _ _ _ h3 hle,TreeAt.mono _ _ _ h4 hle⟩
def TreeAt.le{nl:K->V->Value->Value->Int->Int->List Value}{t:Tr K V}{H':Heap}(h:TreeAt nl ty t v H)(hle:H.Le H'):TreeAt nl ty t v H':=TreeAt.mono _ _ _ h hle
end Tr
end Go.V
namespace Go.V
structure zga{K:Type}(c:K->K->Int):Prop where
 anti:∀ a b,c a b<0↔0<c b a
 trans:∀ {a b d},c a b<0->c b d<0->c a d<0
 eql:∀ {a b} (d),c a b=0->(c a d<0↔c b d<0)
namespace zga
variable {K:Type} {c:K->K->Int}
def refl(h:zga c)(a:K):c a a=0:=by
 have:=h.anti a a;omega
def symm(h:zga c){a b:K}(e:c a b=0):c b a=0:=by
 have:=h.anti a b;have:=h.anti b a;omega
end zga
namespace Tr
variable {K V:Type} (c:K->K->Int)
def Srt(l:List (K×V)):Prop:=l.Pairwise fun x y=>c x.1 y.1<0
def putS(k:K)(v:V):List (K×V)->List (K×V)
 | []=>[(k,v)]
 | y::l=>if c k y.1<0 then (k,v)::y::l else if c k y.1>0 then y::putS k v l else (y.1,v)::l
def dropS(k:K):List (K×V)->List (K×V)
 | []=>[]
 | y::l=>if c k y.1<0 then y::l else if c k y.1>0 then y::dropS k l else l
def getS(k:K):List (K×V)->Option V
 | []=>none
 | y::l=>if c k y.1=0 then some y.2 else getS k l
def rankS(k:K)(l:List (K×V)):Nat:=(l.filter fun y=>c y.1 k<0).length
def cutI(f e:Int):List (K×V)->Int->List (K×V)
 | [],_=>[]
 | y::l,i=>if f<=i/\i<e then y::cutI f e l (i+1) else cutI f e l (i+1)
variable {c} (h:zga c)
include h
theorem Cv{k:K}{v:V}:∀ {l1 l2:List (K×V)} {y:K×V},(∀ x∈l1,c x.1 y.1<0)->
  putS c k v (l1++y::l2)=if c k y.1<0 then putS c k v l1++y::l2 else if c k y.1>0 then l1++y::putS c k v l2 else l1++(y.1,v)::l2
 | [],l2,y,_=>by simp only[mi,putS];split<;>simp
 | x::l1,l2,y,hl=>by
  have ih:=Cv (k:=k) (v:=v) (l1:=l1) (l2:=l2) (y:=y) fun z hz=>hl z (me _ hz);have hx:=hl x (mb ..);simp only[zpq,putS];by_cases h1:c k x.1<0
  ·have:c k y.1<0:=h.trans h1 hx;rw[na h1,na this,na h1];rfl
  ·rw[nc h1];by_cases h2:c k x.1>0
   ·rw[na h2,ih,nc h1,na h2];split
    ·rfl
    ·split<;>rfl
   ·have h0:c k x.1=0:=T;have:c k y.1<0:=(h.eql _ h0).2 hx;rw[nc h2,na this,nc h1,nc h2];rfl
theorem A8{k:K}:∀ {l1 l2:List (K×V)} {y:K×V},(∀ x∈l1,c x.1 y.1<0)->
  dropS c k (l1++y::l2)=if c k y.1<0 then dropS c k l1++y::l2 else if c k y.1>0 then l1++y::dropS c k l2 else l1++l2
 | [],l2,y,_=>by simp only[mi,dropS]
 | x::l1,l2,y,hl=>by
  have ih:=A8 (k:=k) (l1:=l1) (l2:=l2) (y:=y) fun z hz=>hl z (me _ hz);have hx:=hl x (mb ..);simp only[zpq,dropS];by_cases h1:c k x.1<0
  ·have:c k y.1<0:=h.trans h1 hx;rw[na h1,na this,na h1];rfl
  ·rw[nc h1];by_cases h2:c k x.1>0
   ·rw[na h2,ih,nc h1,na h2];split
    ·rfl
    ·split<;>rfl
   ·have h0:c k x.1=0:=T;have:c k y.1<0:=(h.eql _ h0).2 hx;rw[nc h2,na this,nc h1,nc h2]
omit h in
theorem rz{l1 l2:List (K×V)}{y:K×V}(hs:Srt c (l1++y::l2)):Srt c l1/\Srt c l2/\(∀ x∈l1,c x.1 y.1<0)/\(∀ x∈l2,c y.1 x.1<0):=by
 have h1:=zp4.1 hs;have h2:=mj.1 h1.2.1;exact⟨h1.1,h2.2,fun x hx=>h1.2.2 x hx y (mb ..),h2.1⟩
theorem list_put(k:K)(v:V):∀ {t:Tr K V},Srt c (list t)->list (put c k v t)=putS c k v (list t)
 | nil,_=>rfl
 | node nk nv l r,hs=>by
  obtain⟨hl,hr,hx,_⟩:=rz (y:=(nk,nv)) hs;simp only[list,put];rw[Cv h hx];split
  ·rw[l6,list_put k v hl]
  ·split
   ·rw[l6,list_put k v hr]
   ·rfl
theorem list_drop(k:K):∀ {t:Tr K V},Srt c (list t)->list (if (drop c k t).2=true then (drop c k t).1 else t)=dropS c k (list t)/\((drop c k t).2=false->(drop c k t).1=t\/list (drop c k t).1=list t)/\((drop c k t).2=true->list (drop c k t).1=dropS c k (list t))/\((drop c k t).2=false->dropS c k (list t)=list t)
 | nil,_=>⟨rfl,fun _=>.inl rfl,fun h=>(by cases h),fun _=>rfl⟩
 | node nk nv l r,hs=>by
  obtain⟨hl,hr,hx,_⟩:=rz (y:=(nk,nv)) hs;have il:=list_drop k hl;have ir:=list_drop k hr
  have key:((drop c k (node nk nv l r)).2=true->list (drop c k (node nk nv l r)).1=dropS c k (list (node nk nv l r)))/\((drop c k (node nk nv l r)).2=false->dropS c k (list (node nk nv l r))=list (node nk nv l r)/\list (drop c k (node nk nv l r)).1=list (node nk nv l r)):=by
   simp only[list,drop];rw[A8 h hx];split
   ·refine⟨fun ht=>?_,fun hf=>?_⟩
    ·dsimp only at ht |-;rw[l6,il.2.2.1 ht]
    ·dsimp only at hf |-;have e:=il.2.2.2 hf;refine⟨by rw[e],?_⟩;rw[l6];rcases il.2.1 hf with e1 | e1<;>rw[e1]
   ·split
    ·refine⟨fun ht=>?_,fun hf=>?_⟩
     ·dsimp only at ht |-;rw[l6,ir.2.2.1 ht]
     ·dsimp only at hf |-;have e:=ir.2.2.2 hf;refine⟨by rw[e],?_⟩;rw[l6];rcases ir.2.1 hf with e1 | e1<;>rw[e1]
    ·cases r with
     | nil=>exact⟨fun _=>by simp [list],fun hf=>by cases hf⟩
     | node rk rv rl rr=>
      refine⟨fun _=>?_,fun hf=>by cases hf⟩;dsimp only;rw[l6];have:=Ag rk rv rl rr;rw[show((first rk rv rl rr).1.1,(first rk rv rl rr).1.2)=(first rk rv rl rr).1 from rfl,this];rfl
  refine⟨?_,fun hf=>.inr (key.2 hf).2,key.1,fun hf=>(key.2 hf).1⟩;split
  ·rename_i ht;exact key.1 ht
  ·rename_i ht;have hf:(drop c k (node nk nv l r)).2=false:=by simpa using ht
   exact(key.2 hf).1.symm
theorem Du{k:K}:∀ {l1 l2:List (K×V)} {y:K×V},(∀ x∈l1,c x.1 y.1<0)->(∀ x∈l2,c y.1 x.1<0)->
  getS c k (l1++y::l2)=if c k y.1=0 then some y.2 else if c k y.1<0 then getS c k l1 else getS c k l2
 | [],l2,y,_,h2=>by
  simp only[mi,getS];split
  ·rfl
  ·split
   ·rename_i h1
    have:∀ (l:List (K×V)),(∀ x∈l,c y.1 x.1<0)->getS c k l=none:=by
     intro l
     induction l with
     | nil=>intro _;rfl
     | cons z l ih=>
      intro hz;have:=h.trans h1 (hz z (mb ..));simp only[getS];rw[nc T];exact ih fun x hx=>hz x (me _ hx)
    exact this l2 h2
   ·rfl
 | x::l1,l2,y,hl,h2=>by
  have ih:=Du (k:=k) (l1:=l1) (l2:=l2) (y:=y) (fun z hz=>hl z (me _ hz)) h2;have hx:=hl x (mb ..);simp only[zpq,getS];by_cases h0:c k x.1=0
  ·have:c k y.1<0:=(h.eql _ h0).2 hx;rw[na h0,nc T,na this,na h0]
  ·rw[nc h0,ih,nc h0]
theorem get_list(k:K):∀ {t:Tr K V},Srt c (list t)->get c k t=getS c k (list t)
 | nil,_=>rfl
 | node nk nv l r,hs=>by
  obtain⟨hl,hr,hx,hy⟩:=rz (y:=(nk,nv)) hs;simp only[list,get];rw[Du h hx hy,get_list k hl,get_list k hr]
theorem rank_list(k:K):∀ {t:Tr K V},Srt c (list t)->rank c k t=rankS c k (list t)
 | nil,_=>rfl
 | node nk nv l r,hs=>by
  obtain⟨hl,hr,hx,hy⟩:=rz (y:=(nk,nv)) hs;simp only[list,rank,rankS,zp2,nr,zqt];split
  ·rename_i h1;have:(list l).filter (fun y=>decide (c y.1 k<0))=list l:=zrq.2 fun x hx'=>by simpa using h.trans (hx x hx') h1
   rw[this,size_list,na (by simpa using h1),rank_list k hr];simp only[rankS,nz];omega
  ·rename_i h1
   have:(list r).filter (fun y=>decide (c y.1 k<0))=[]:=zre.2 fun x hx'=>by
    have h2:=hy x hx';simp only[decide_eq_true_eq];intro h3;exact h1 (h.trans h2 h3)
   rw[this,nc (by simpa using h1),rank_list k hl];simp [rankS]
omit h
theorem at_list:∀ (t:Tr K V) (i:Nat),at' t i=(list t)[i]?
 | nil,i=>by simp [at',list]
 | node nk nv l r,i=>by
  simp only[at',list];split
  ·rename_i h1;rw[at_list l,zqb (by rw[size_list];exact h1)]
  ·rw[zsa (by rw[size_list];omega),size_list];split
   ·rename_i h1 h2;rw[at_list r];rw[show i-size l=(i-(size l+1))+1 by omega,zqm]
   ·rename_i h1 h2;rw[show i-size l=0 by omega];rfl
theorem Dz(f e:Int):∀ (l1 l2:List (K×V)) (i:Int),cutI f e (l1++l2) i=cutI f e l1 i++cutI f e l2 (i+l1.length)
 | [],l2,i=>by simp [cutI]
 | y::l1,l2,i=>by
  simp only[zpq,cutI,Dz f e l1 l2 (i+1),nz];rw[show i+1+(l1.length:Int)=i+((l1.length+1:Nat):Int) by omega];split<;>rfl
theorem Rt(f e:Int):∀ (l:List (K×V)) (i:Int),i+l.length<=f\/i>=e->cutI f e l i=[]
 | [],_,_=>rfl
 | y::l,i,h=>by
  simp only[nz] at h;simp only[cutI];rw[nc T,Rt f e l (i+1) T]
theorem prs_list:∀ (t:Tr K V) (a f e:Int),prs t a f e=cutI f e (list t) a
 | nil,_,_,_=>rfl
 | node nk nv l r,a,f,e=>by
  simp only[prs];split
  ·rename_i h1;rw[Rt];rw[size_list];exact h1
  ·simp only[list];rw[Dz,prs_list l,prs_list r,size_list];simp only[cutI];split
   ·rename_i h2;rfl
   ·rename_i h2;rfl
def lst:Nat->Nat
 | 0=>0
 | 1=>1
 | n+2=>lst (n+1)+lst n+1
end Tr
end Go.V
namespace Go.V.L6
open Go.V Go.V.L2 Go.V.L3
def Xm{c:α->α->Int}(h:Ord3 c):zga c:=by
 refine⟨fun a b=>?_,fun {a b d} h1 h2=>?_,fun {a b} d e=>?_⟩
 ·have:=h.anti a b;omega
 ·exact h.tr h1 h2
 ·rw[h.eq _ _ e]
def ik(a b:U):Int:=ku (a.2,a.1) (b.2,b.1)
def f7:Ord3 ik where
 refl a:=cmpT_ord.refl _
 eq a b h:=by
  have:=cmpT_ord.eq _ _ h;exact Prod.ext (nh Prod.snd this) (nh Prod.fst this)
 anti a b:=cmpT_ord.anti _ _
 trans a b d:=cmpT_ord.trans _ _ _
set_option linter.unusedSectionVars false
section keys
variable  [DecidableEq α] {c:α->α->Int}
abbrev kS(L:List (α×Unit)):List α:=L.map (·.1)
def zlh{L:List (α×Unit)}:Tr.Srt c L↔Sst c (kS L):=by unfold Tr.Srt Sst kS;rw[List.pairwise_map]
def zh7(h:Ord3 c){k:α}:∀ {L:List (α×Unit)},k∉kS L->kS (Tr.putS c k () L)=om c k (kS L)
 | [],_=>rfl
 | y::L,hk=>by
  simp only[kS,mw,ma,not_or] at hk;simp only[Tr.putS];by_cases h1:c k y.1<0
  ·rw[na h1];simp [kS,om,h1]
  ·have h2:=h.tri h1 hk.1;have h3:=h.anti k y.1;rw[nc h1,na T];have ih:=zh7 h (L:=L) hk.2;simp only[kS,mw,om] at ih |-;rw[nc h1,ih]
def Y8(h:Ord3 c){k:α}:∀ {L:List (α×Unit)},Sst c (kS L)->kS (Tr.dropS c k L)=(kS L).filter fun z=>decide (z≠k)
 | [],_=>rfl
 | y::L,hs=>by
  simp only[kS,mw] at hs;obtain⟨hy,hs'⟩:=mj.1 hs;simp only[Tr.dropS]
  have all:∀ {d:α},(c k d<0\/k=d)->(∀ z∈kS L,c d z<0)->(kS L).filter (fun z=>decide (z≠k))=kS L:=fun {d} hd hz=>zrq.2 fun z hm=>by
   have h4:=hz z hm;simp only[decide_eq_true_eq];intro e;subst e;rcases hd with hd | hd
   ·exact h.asym hd h4
   ·subst hd;exact h.irr _ h4
  by_cases h1:c k y.1<0
  ·rw[na h1];simp only[kS,mw,zqt];rw[na (by simpa using (h.ne h1).symm)];have:=all (.inl h1) hy;unfold kS at this;rw[this]
  ·rw[nc h1];by_cases h2:c k y.1>0
   ·rw[na h2];have ih:=Y8 h (k:=k) (L:=L) hs';simp only[kS,mw,zqt] at ih |-;have hne:y.1≠k:=fun e=>by rw[e,h.refl] at h2;omega
    rw[na (by simpa using hne),ih]
   ·rw[nc h2];have e:=h.eq _ _ (show c k y.1=0 by omega);simp only[kS,mw,zqt];rw[nc (by simpa using e.symm)];have:=all (.inr e) hy;unfold kS at this;rw[this]
def zli(h:Ord3 c){k:α}:∀ {L:List (α×Unit)},(k∈kS L->Tr.getS c k L=some ())/\(k∉kS L->Tr.getS c k L=none)
 | []=>⟨fun h=>(by cases h),fun _=>rfl⟩
 | y::L=>by
  have ih:=zli h (k:=k) (L:=L);simp only[Tr.getS,kS,mw,ma];by_cases e:k=y.1
  ·subst e;rw[na (h.refl _)];exact⟨fun _=>rfl,fun hn=>ni (.inl rfl) hn⟩
  ·have:¬ c k y.1=0:=fun h0=>e (h.eq _ _ h0);rw[nc this];exact⟨fun hm=>ih.1 (hm.resolve_left e),fun hn=>ih.2 fun hm=>hn (.inr hm)⟩
def Fh{p:Prop}[Decidable p]{a b:Int}(ha:0<=a)(hb:0<=b):0<=if p then a else b:=by split<;>assumption
def Kv(h:Ord3 c){x:α}:∀ {l:List α},Sst c l->(l.filter fun z=>decide (c z x<0))=l.takeWhile fun z=>decide (c z x<0)
 | [],_=>rfl
 | y::l,hs=>by
  obtain⟨hy,hs'⟩:=mj.1 hs;rw[zqt,zqj];by_cases h1:c y x<0
  ·rw[na (by simpa using h1),na (by simpa using h1),Kv h hs']
  ·rw[nc (by simpa using h1),nc (by simpa using h1)]
   exact zre.2 fun z hz=>by
    simp only[decide_eq_true_eq];exact fun h2=>h1 (h.tr (hy z hz) h2)
def zfy(h:Ord3 c){k:α}{L:List (α×Unit)}(hs:Sst c (kS L)):Tr.rankS c k L=dt c k (kS L):=by
 unfold Tr.rankS dt;rw[<-Kv h hs];unfold kS;rw[List.filter_map,my];rfl
def Hk:∀ {l:List α} {x:α},l.Nodup->x∈l->(l.filter fun z=>decide (z≠x)).length+1=l.length
 | [],_,_,h=>by cases h
 | y::l,x,hn,h=>by
  obtain⟨h1,h2⟩:=zrl.1 hn;rw[zqt];by_cases e:y=x
  ·subst e;rw[nc (by simp)]
   have:(l.filter fun z=>decide (z≠y))=l:=zrq.2 fun z hz=>by
    simp only[decide_eq_true_eq];exact fun e=>h1 (e ▸ hz)
   rw[this,nz]
  ·rw[na (by simpa using e),nz,nz,Hk h2 (by
    rcases ma.1 h with h | h
    ·exact ni h.symm e
    ·exact h)]
def Ul{l:List α}{x:α}(h:x∉l):(l.filter fun z=>decide (z≠x))=l:=zrq.2 fun z hz=>by
 simp only[decide_eq_true_eq];exact fun e=>h (e ▸ hz)
def Ru{V:Type}(f e:Nat):∀ (l:List (α×V)) (i:Nat),Tr.cutI (f:Int) (e:Int) l (i:Int)=(l.take (e-i)).drop (f-i)
 | [],i=>by simp [Tr.cutI]
 | y::l,i=>by
  have ih:=Ru f e l (i+1);simp only[Tr.cutI];rw[show((i:Int)+1)=((i+1:Nat):Int) by omega,ih];by_cases h:f<=i/\i<e
  ·rw[na T,show e-i=(e-(i+1))+1 by omega,show f-i=0 by omega,show f-(i+1)=0 by omega];rfl
  ·rw[nc T];by_cases h2:i<e
   ·rw[show e-i=(e-(i+1))+1 by omega,show f-i=(f-(i+1))+1 by omega];rfl
   ·rw[show e-i=0 by omega,show e-(i+1)=0 by omega];simp
def Aa(h:Ord3 c){x:α}{p:α->Bool}:∀ {l:List α},Sst c l->(∀ z,c z x<0->p z=false)->(∀ a b,c a b<0->¬ c a x<0->p b=true->p a=true)->(l.drop (dt c x l)).takeWhile p=l.filter p
 | [],_,_,_=>rfl
 | y::l,hs,h1,h2=>by
  obtain⟨hy,hs'⟩:=mj.1 hs;have ih:=Aa h hs' h1 h2;unfold dt at ih |-;rw[zqj,zqt];by_cases hyx:c y x<0
  ·rw[na (by simpa using hyx),h1 y hyx,nc E,nz,List.drop_succ_cons];exact ih
  ·rw[nc (by simpa using hyx),mz,zp7]
   have key:∀ {m:List α},Sst c m->(∀ z∈m,¬ c z x<0)->m.takeWhile p=m.filter p:=by
    intro m
    induction m with
    | nil=>intro _ _;rfl
    | cons z m ihm=>
     intro hm hz;obtain⟨g1,g2⟩:=mj.1 hm;rw[zqj,zqt];cases hp:p z
     ·rw[nc E,nc E]
      exact(zre.2 fun b hb hpb=>by
       have:=h2 z b (g1 b hb) (hz z (mb ..)) hpb;rw[hp] at this;cases this).symm
     ·rw[na rfl,na rfl,ihm g2 fun b hb=>hz b (me _ hb)]
   have:=key hs fun z hz=>by
    rcases ma.1 hz with rfl | hz
    ·exact hyx
    ·exact fun h3=>hyx (h.tr (hy z hz) h3)
   rw[this,zqt]
end keys
structure TS(l:List U)(t u:Tr U Unit):Prop where
 kt:kS t.list=l
 st:Sst ku l
 su:Sst ik (kS u.list)
 mu:∀ z,z∈kS u.list↔z∈l
 zu:u.size=l.length
def td:zga ku:=Xm cmpT_ord
def D5:zga ik:=Xm f7
def zj6:TS [] .nil .nil:=⟨rfl,Sst.nil,Sst.nil,fun _=>Iff.rfl,rfl⟩
section ts
variable  {t u:Tr U Unit}
def TS.size(h:TS l t u):t.size=l.length:=by rw[<-Tr.size_list,<-h.kt];simp
def TS.srt(h:TS l t u):Tr.Srt ku t.list:=zlh.2 (h.kt ▸ h.st)
def TS.srtu(h:TS l t u):Tr.Srt ik u.list:=zlh.2 h.su
def TS.bySub(h:TS l t u):kS u.list=g8 ik [] l:=lf f7 h.su (gm f7 Sst.nil) fun z=>by rw[h.mu,gz];simp
def TS.put(h:TS l t u){x:U}(hx:x∉l):TS (om ku x l) (Tr.put ku x () t) (Tr.put ik x () u):=by
 have hxt:x∉kS t.list:=by rw[h.kt];exact hx
 have hxu:x∉kS u.list:=fun hm=>hx ((h.mu x).1 hm)
 have e1:kS (Tr.put ku x () t).list=om ku x l:=by
  rw[Tr.list_put td x () h.srt,zh7 cmpT_ord hxt,h.kt]
 have e2:kS (Tr.put ik x () u).list=om ik x (kS u.list):=by
  rw[Tr.list_put D5 x () h.srtu,zh7 f7 hxu]
 refine⟨e1,dw cmpT_ord h.st hx,?_,fun z=>?_,?_⟩
 ·rw[e2];exact dw f7 h.su hxu
 ·rw[e2,ud,ud,h.mu]
 ·have:=nh List.length e2;simp only[kS,my,wv,Tr.size_list] at this;rw[this,wv,h.zu]
def TS.drop(h:TS l t u){x:U}(hx:x∈l):TS (l.filter fun z=>decide (z≠x)) (if (Tr.drop ku x t).2=true then (Tr.drop ku x t).1 else t) (if (Tr.drop ik x u).2=true then (Tr.drop ik x u).1 else u):=by
 have e1:kS (if (Tr.drop ku x t).2=true then (Tr.drop ku x t).1 else t).list=l.filter fun z=>decide (z≠x):=by
  rw[(Tr.list_drop td x h.srt).1,Y8 cmpT_ord (by rw[h.kt];exact h.st),h.kt]
 have e2:kS (if (Tr.drop ik x u).2=true then (Tr.drop ik x u).1 else u).list=(kS u.list).filter fun z=>decide (z≠x):=by
  rw[(Tr.list_drop D5 x h.srtu).1,Y8 f7 h.su]
 refine⟨e1,h.st.sublist zrb,?_,fun z=>?_,?_⟩
 ·rw[e2];exact h.su.sublist zrb
 ·rw[e2,zpg,zpg,h.mu]
 ·have h1:=nh List.length e2;have h2:=Hk (h.su.nodup f7) ((h.mu x).2 hx);have h3:=Hk (h.st.nodup cmpT_ord) hx;have h4:=h.zu;simp only[kS,my,Tr.size_list] at h1 h2;omega
def TS.get(h:TS l t u)(x:U):Tr.get ku x t=if x∈l then some () else none:=by
 have hk:=zli cmpT_ord (k:=x) (L:=t.list);rw[h.kt] at hk;rw[Tr.get_list td x h.srt];by_cases hx:x∈l
 ·rw[na hx];exact hk.1 hx
 ·rw[nc hx];exact hk.2 hx
def TS.rank(h:TS l t u)(x:U):Tr.rank ku x t=dt ku x l:=by
 rw[Tr.rank_list td x h.srt,zfy cmpT_ord (by rw[h.kt];exact h.st),h.kt]
def TS.ranku(h:TS l t u)(x:U):Tr.rank ik x u=dt ik x (g8 ik [] l):=by
 rw[Tr.rank_list D5 x h.srtu,zfy f7 h.su,h.bySub]
end ts
def D7(x:ByteArray):0<=bo x ⟨#[]⟩:=by
 unfold bo
 cases x.data.toList with
 | nil=>decide
 | cons a r=>exact Int.le_of_lt (show(0:Int)<1 by decide)
def zoy(x:Ed):0<=R0 x n3:=by
 unfold R0 Ei;simp only[E7];exact Fh (D7 _) (Fh (D7 _) (D7 _))
def zjk(l:List U)(s:Ed):List U:=l.filter fun z=>decide (z.2=s)
def zg6(hs:Sst ku l)(s:Ed):((g8 ik [] l).drop (dt ik (n3,s) (g8 ik [] l))).takeWhile (fun z=>decide (z.2=s))=zjk l s:=by
 have hS:Sst ik (g8 ik [] l):=gm f7 Sst.nil
 have e:((g8 ik [] l).drop (dt ik (n3,s) (g8 ik [] l))).takeWhile (fun z=>decide (z.2=s))=(g8 ik [] l).filter fun z=>decide (z.2=s):=by
  refine Aa f7 hS (fun z hz=>?_) fun a b hab hax hb=>?_
  ·refine ng fun e=>?_;unfold ik at hz;have hz':ku (z.2,z.1) (s,n3)<0:=hz;rw[zat (a:=(z.2,z.1)) (b:=(s,n3)) e] at hz';have:=zoy z.1;dsimp only at hz';omega
  ·have hb':b.2=s:=by simpa using hb
   refine nf ?_;by_cases e:a.2=s
   ·exact e
   ·unfold ik at hab hax;rw[Rz (a:=(a.2,a.1)) (b:=(b.2,b.1)) (by dsimp only;rw[hb'];exact e)] at hab;have hax':¬ ku (a.2,a.1) (s,n3)<0:=hax;rw[Rz (a:=(a.2,a.1)) (b:=(s,n3)) e] at hax';dsimp only at hab hax';rw[hb'] at hab;exact ni hab hax'
 rw[e];refine lf cmpT_ord ?_ (hs.sublist zrb) fun z=>?_
 ·refine List.Pairwise.imp_of_mem ?_ (hS.sublist zrb);intro a b ha hb hab;have ha':a.2=s:=by simpa using (zpg.1 ha).2
  have hb':b.2=s:=by simpa using (zpg.1 hb).2
  unfold ik at hab;rw[zat (a:=(a.2,a.1)) (b:=(b.2,b.1)) (ha'.trans hb'.symm)] at hab;have hne:a.1≠b.1:=fun e=>by dsimp only at hab;rw[e,cmp3_ord.refl] at hab;omega
  rw[Rz hne];exact hab
 ·rw[zpg];unfold zjk;rw[zpg,gz];simp
def zlb{f:FT}{z:U}(h:zbp f z<0):ku z (Pe f)<0:=by
 by_cases h3:ku z (Pe f)<0
 ·exact h3
 ·exfalso;have anti:=cmpT_ord.anti z (Pe f);by_cases h4:ku z (Pe f)=0
  ·have h5:=cmpT_ord.eq _ _ h4;unfold zbp at h;rw[<-h5,(zau _).refl] at h;omega
  ·have h5:=zav (n:=w9 f) (show ku (Pe f) z<0 by omega);have h6:=(zau (w9 f)).anti z (Pe f);unfold zbp at h;omega
def zlc{f:FT}{z:U}(h:zbp f z=0):¬ ku z (Pe f)<0:=by
 have ht:=(bw f z).2 h;unfold kr ic tkF at ht;unfold Pe ku R0 Ei;have hr:∀ x,bo x x=0:=cmpB_ord.refl;simp only[E7];refine Int.not_lt.2 ?_;rcases ai f with ⟨h0,h1⟩ | ⟨h0,h1,h2⟩ | ⟨h0,h1,h2,h3⟩ | ⟨h0,h1,h2,h3,h4⟩ | ⟨h0,h1,h2,h3,h4⟩
 ·rw[h0] at ht |-;simp only[Nat.reduceLeDiff,if_false]
  repeat (first | exact D7 _ | refine Fh ?_ ?_)
 ·rw[h0] at ht |-;simp [h1] at ht;simp only[Nat.reduceLeDiff,if_false,if_true,<-ht,hr]
  repeat (first | exact D7 _ | refine Fh ?_ ?_)
 ·rw[h0] at ht |-;simp [h1,h2] at ht;simp only[Nat.reduceLeDiff,if_false,if_true,<-ht.1,<-ht.2,hr]
  repeat (first | exact D7 _ | refine Fh ?_ ?_)
 ·rw[h0] at ht |-;simp [h1,h2,h3] at ht;simp only[Nat.reduceLeDiff,if_false,if_true,<-ht.1.1,<-ht.1.2,<-ht.2,hr]
  repeat (first | exact D7 _ | refine Fh ?_ ?_)
 ·rw[h0] at ht |-;simp [h1,h2,h3,h4] at ht;simp only[Nat.reduceLeDiff,if_true,<-ht.1.1.1,<-ht.1.1.2,<-ht.1.2,ht.2,hr];decide
def V3(hs:Sst ku l)(f:FT):(l.drop (dt ku (Pe f) l)).takeWhile (fun z=>kr (ic f) z)=l.filter fun z=>kr (ic f) z:=by
 refine Aa cmpT_ord hs (fun z hz=>?_) fun a b hab hax hb=>?_
 ·cases ht:kr (ic f) z
  ·rfl
  ·exact ni hz (zlc ((bw f z).1 ht))
 ·have h0:=(bw f b).1 hb;have h1:=zho hab (f:=f) T;have h2:¬ zbp f a<0:=fun h=>hax (zlb h);exact(bw f a).2 T
def sf(f:FT):FT:=(f.1,n3,false)
def Nu{f:FT}{z:U}(h:kr f z=true):kr (sf f) z=true:=by
 unfold kr sf at *;simp only[zpm] at h |-;exact⟨h.1,by simp⟩
def zng(l:List U)(f:FT):List U:=l.filter (kr f)
def V2(hs:Sst ku l)(f:FT):((l.drop (dt ku (Pe (sf f)) l)).takeWhile (fun z=>kr (ic (sf f)) z)).filter (kr f)=zng l f:=by
 rw[V3 hs];unfold zng;rw[List.filter_filter];refine List.filter_congr fun z _=>?_;cases h:kr f z
 ·rfl
 ·have:=Vk (Nu h);simp [this]
def wo(l:List U)(x:U)(d:Bool):List U×Int:=
 if tE x=0 then (if d=true then (l.filter fun z=>decide (z≠x),0) else if x∈l then (l,0) else if l.length>=4096 then ([],3) else (om ku x l,0)) else ([],tE x)
def U1(hs:Sst ku l)(x:U)(d:Bool):Sst ku (wo l x d).1:=by
 unfold wo;split
 ·split
  ·exact hs.sublist zrb
  ·split
   ·exact hs
   ·split
    ·exact Sst.nil
    ·rename_i h _;exact dw cmpT_ord hs h
 ·exact Sst.nil
def B7(hl:l.length<=4096)(x:U)(d:Bool):(wo l x d).1.length<=4096:=by
 unfold wo;split
 ·split
  ·exact mp (zqu _ _) hl
  ·split
   ·exact hl
   ·split
    ·exact mc _
    ·rw[wv];omega
 ·exact mc _
def ofU:List U->List U->List U×Int
 | l,[]=>(l,0)
 | l,x::r=>if (wo l x false).2=0 then ofU (wo l x false).1 r else ([],(wo l x false).2)
end Go.V.L6
namespace Go.V.L8
open Go.V.L2 Go.V.L3 Go.V.L6
abbrev CH:=U×Bool
def cE(n:Nat)(l:List CH):Int:=if n<l.length then 3 else if (l.any fun c=>!decide (tE c.1=0))=true then 6 else 0
def s4(s:List U)(m:CH):Bool:=decide (m.1∈s) != m.2
def uo(s:List U):List CH->Nat->Nat×Int
 | [],i=>(i,0)
 | m::r,i=>if s4 s m=true then uo s r (i+1) else (i,13)
def oo(s:List U)(l:List CH):Nat×Int:=if cE 32 l=0 then uo s l 0 else (0,cE 32 l)
def ob(s:List U):∀ (l:List CH) (i:Nat),uo s l i=((uo s l 0).1+i,(uo s l 0).2)
 | [],i=>by simp [uo]
 | m::r,i=>by
  by_cases h:s4 s m=true
  ·have e1:uo s (m::r) i=uo s r (i+1):=by rw[uo,na h]
   have e2:uo s (m::r) 0=uo s r (0+1):=by rw[uo,na h]
   rw[e1,e2,ob s r (i+1),ob s r (0+1)];exact Prod.ext (by show(uo s r 0).1+(i+1)=(uo s r 0).1+(0+1)+i;omega) Z
  ·rw[uo,uo,nc h,nc h];simp
def Uj{s:List U}{l:List CH}{m:CH}(h:∀ (j:Nat) x,j<i->l[j]?=some x->s4 s x=true)(hm:l[i]?=some m)(hh:s4 s m=false):uo s l 0=(i,13):=by
 induction l generalizing i with
 | nil=>simp at hm
 | cons y r ih=>
  cases i with
  | zero=>
   simp at hm;subst hm;unfold uo;rw[nc (by rw[hh];decide)]
  | succ i=>
   have hy:=h 0 y (Nat.succ_pos _) rfl;unfold uo;rw[na hy,ob,ih (i:=i) (fun j x hj hx=>h (j+1) x T hx) (by simpa using hm)]
def Uk{s:List U}{l:List CH}(h:∀ x∈l,s4 s x=true):uo s l 0=(l.length,0):=by
 induction l with
 | nil=>rfl
 | cons y r ih=>
  unfold uo;rw[na (h y (by simp)),ob,ih (fun x hx=>h x (by simp [hx]))];rfl
def Av:List U->List CH->List CH->List U×List CH×Int
 | s,made,[]=>(s,made,0)
 | s,made,c::r=>if (wo s c.1 c.2).2=0 then Av (wo s c.1 c.2).1 (if decide (c.1∈s)=c.2 then made++[c] else made) r else ([],[],(wo s c.1 c.2).2)
def ef(s:List U)(l cs:List CH):List U×List CH×Int:=
 if cE 32 l=0 then (if cE 32 cs=0 then (if (oo s l).2=0 then Av s [] cs else ([],[],(oo s l).2)) else ([],[],cE 32 cs)) else ([],[],cE 32 l)
end Go.V.L8
namespace Go.V
def fzI(P:Program)(t' st:TypeId)(off i:Nat):Bool:=
 match P.underlying st with
 | some (.struct fs)=>match fs[i]? with
  | some f=>(match P.info? f.type with | some j=>j.size == 0 | none=>false) && (!(P.cellsOf t' == 0) && ((byteOfCell P P.depth t' (off%P.cellsOf t')).isSome && (byteOfCell P P.depth t' ((off+f.offset)%P.cellsOf t')).isSome))
  | none=>false
 | _=>false
def PtrS:Value->Heap->Prop:=fun v _=>∃ a,v=.pointer (some a)
def PtrS.mono:Kn.mono (.sat PtrS):=fun _ _ _ h _=>h
section
def E3{k:Nat}{cs:Array Value}(h:u.heap[b]?=some (.cells cs e fr))(hs:P.cellsOf e≠0)(hb:byteOfCell P P.depth e (off%P.cellsOf e)=some k):
  (byteOf ⟨b,off,none⟩).run P u=.ok (off/P.cellsOf e*P.bytesOf e+k) u:=by
 have hsh:u.shape? b=some (e,cs.size):=by unfold World.shape?;rw[h]
 simp only[byteOf,nw,run_program,ny,noView,viewAt,shape,Sem.run,hsh,Option.isSome_some,if_true,mf,Option.isSome_none,zqo,if_false,Option.isSome];simp [hs,hb,hsh]
def E2{st t':TypeId}{b off i:Nat}{cs:Array Value}(hz:fzI P t' st off i=true)(hb:u.heap[b]?=some (.cells cs t' fr)):
  ∃ a,(Instr.fieldAt st (.pointer (some ⟨b,off,none⟩)) i).run P u=.ok (.pointer (some a)) u:=by
 unfold fzI at hz;split at hz
 ·rename_i fs hu;split at hz
  ·rename_i f hf;split at hz
   ·rename_i j hj;simp only[zpm,beq_iff_eq,zsk,beq_eq_false_iff_ne,ne_eq,zqd] at hz;obtain⟨hj0,hc,⟨k1,h1⟩,k2,h2⟩:=hz;have r1:=E3 (P:=P) hb hc h1;have r2:=E3 (P:=P) hb hc h2;have hsz:(sizeOf f.type).run P u=.ok 0 u:=by simp [sizeOf,typeInfo,hj,hj0]
    have hun:=run_underlying (P:=P) (w:=u) hu
    have hfp:∃ a,(fieldPlace ⟨b,off,none⟩ f).run P u=.ok a u:=by
     simp only[fieldPlace,nw,hsz,ny,if_true,partAt,r1,r2,mf];exact⟨_,rfl⟩
    obtain⟨a,ha⟩:=hfp;refine⟨a,?_⟩;simp only[Instr.fieldAt,nw,hun,ny,hf,Instr.sureAddr,mf,ha]
   ·simp at hz
  ·cases hz
 ·cases hz
def zep{z cs:List Value}(hp:PL P t places z)(hc:tj places z vs=some cs):P.built t vs=some cs.toArray:=by
 obtain⟨zv,hz1,hz2⟩:=hp.zr;have hpl:=hp.pl;unfold plI at hpl;unfold zrI at hz1;split at hz1
 ·rename_i it hit;unfold Program.built;split at hpl
  ·rename_i fs hu;simp only[hit,hu,hz1,hpl];rw[we,hz2];exact u4 (fun i p h=>by simpa using h) vs z cs hc
  ·rename_i m el hu;split at hpl
   ·rename_i ie hie;simp only[hit,hu,hz1,hie];cases hpl;rw[we,hz2]
    exact u4 (fun i p h=>by
     rw[zpr] at h
     cases hr:(List.range m)[i]? with
     | none=>rw[hr] at h;cases h
     | some j=>
      rw[hr] at h
      have:j=i:=by
       have:=zqc.1 hr;obtain⟨h1,h2⟩:=this;simpa using h2.symm
      subst this;simpa using h) vs z cs hc
   ·cases hpl
  ·cases hpl
 ·cases hz1
def Tu{t:Nat}{st:TypeId}(hx:κ t=some (.sat (At cs t' off)))(hn:Nat.blt d n=true)(hg:gK ops κ ⟨some d,.fieldAddr st (.tmp t) i,ty,pos,aft,g⟩=some true)
  (hz:fzI P t' st off i=true):StepOK P F B n ops O κ ⟨some d,.fieldAddr st (.tmp t) i,ty,pos,aft,g⟩ d (.sat PtrS):=
 kf rfl (zm hn) hg PtrS.mono fun a u H fp e=>by
  obtain⟨b,hv,hb⟩:=e.sat_ t _ (by simp [Op.operands]) hx;obtain⟨ad,hr⟩:=E2 hz (e.sub _ _ hb);refine⟨_,?_,ad,rfl⟩;simp only[execOp,hv,nw,hr,ny];rfl
def Tt{st:TypeId}{cs:Array Value}(hb:B b=some (.cells cs t' fr))(hx:evK κ x=some (.pointer (some ⟨b,off,none⟩)))(hn:Nat.blt d n=true)(hg:gK ops κ ⟨some d,.fieldAddr st x i,ty,pos,aft,g⟩=some true)
  (hz:fzI P t' st off i=true):StepOK P F B n ops O κ ⟨some d,.fieldAddr st x i,ty,pos,aft,g⟩ d (.sat PtrS):=
 kf rfl (zm hn) hg PtrS.mono fun a u H fp e=>by
  have hv:=e.is_ x _ (by simp [Op.operands]) hx;obtain⟨ad,hr⟩:=E2 hz (e.sub _ _ (e.base _ _ hb));refine⟨_,?_,ad,rfl⟩;simp only[execOp,hv,nw,hr,ny];rfl
def Qz(L:Tabs P)(hx:κ q=some (.sat PtrS))(hn:Nat.blt d n=true)(hg:gK ops κ ⟨some d,.load t (.tmp q),ty,pos,aft,g⟩=some true)(ht:L.ld t=some (true,0)):
  StepOK P F B n ops O κ ⟨some d,.load t (.tmp q),ty,pos,aft,g⟩ d (.is (.agg #[])):=
 kf rfl (zm hn) hg trivial fun a u H fp e=>by
  obtain⟨ad,hv⟩:=e.sat_ q _ (by simp [Op.operands]) hx;refine⟨.agg #[],?_,rfl⟩;simp only[execOp,hv,Instr.loadAt,Instr.sureAddr,nw,mf,ny];rw[w6 (Tabs.ld_spec ht) u ad [] rfl (fun j v hj=>by simp at hj)];rfl
def Mf(hn:Nat.blt d n=true)(hg:gK ops κ ⟨some d,.build t parts,ty,pos,aft,g⟩=some true)
  (hp:PL P t places z) (hm:Kn.mono (.sat ψ)) (h:∀ H,B.Le H->Args κ H (parts.toList.map (·.2)) [] (fun vs=>∃ cs,tj places z ((parts.toList.map (·.1)).zip vs)=some cs/\ψ (.agg cs.toArray) H)):
  StepOK P F B n ops O κ ⟨some d,.build t parts,ty,pos,aft,g⟩ d (.sat ψ):=by
 rintro κ' a u hl ⟨H,fp,hh⟩;unfold After;rw[na (xj hh hl hg)];have e:=hh.env (o:=⟨some d,.build t parts,ty,pos,aft,g⟩) hl
 have hc:=Args.use e (parts.toList.map (·.2)) [] (fun x hx=>by
  simp only[Op.operands];obtain⟨q,hq,rfl⟩:=zo9.1 hx;simp;exact⟨q.1,by simpa using hq⟩) (h H e.base)
 obtain⟨cs,hb,hψ⟩:=hc;simp only[zp9,mi,zri] at hb
 have hz:(parts.toList.map (·.1)).zip (parts.toList.map (a.eval∘(·.2)))=parts.toList.map fun p=>(p.1,a.eval p.2):=by
  generalize parts.toList=l
  induction l with
  | nil=>rfl
  | cons x l ih=>simp only[mw,List.zip_cons_cons,ih];rfl
 rw[hz] at hb;have hbt:=zep hp hb;have hr:=run_build (P:=P) u t (parts.toList.map fun p=>(p.1,a.eval p.2)).toArray cs.toArray (by simpa using hbt)
 have harr:(parts.map fun(p:Nat×Operand)=>(p.1,a.eval p.2))=(parts.toList.map fun p=>(p.1,a.eval p.2)).toArray:=by
  rw[<-zpp,zq5]
 have hrun:(execOp a.eval ⟨some d,.build t parts,ty,pos,aft,g⟩).run P u=.ok (.value (.agg cs.toArray)) u:=by
  simp only[execOp,nw];show Result.andThen ((Instr.build t (parts.map fun(p:Nat×Operand)=>(p.1,a.eval p.2))).run P u) _=_;rw[harr,hr];rfl
 rw[hrun];simp only[Upon];exact⟨H,fp,hh.put (zm hn) hm hψ⟩
end
end Go.V
namespace Go.V.UT
def _root_.Z5(t:Wr Y->A:=by intro h;refine z8 (qd L (qp Z M) Z Z Z Z) Z ?_;exact h.1)(h:Y):A:=t ⟨h⟩
def _root_.ZcR(t:Wr Y->A:=by intro h;refine z8 (zw L (vs:=[_,_,_,_,_,_]) (qp Z M) Z Z Z Z ⟨_,rfl⟩) Z ?_;exact h.1)(h:Y):A:=t ⟨h⟩
def _root_.ZcB(t:Wr Y->A:=by intro h;refine z7 (qd L (qp Z M) Z Z Z Z) Z ?_;exact h.1)(h:Y):A:=t ⟨h⟩
def _root_.ZcS(t:Wr Y->A:=by intro h;refine z7 (Qx Z Z Z Z (xb T T)) Z ?_;exact h.1)(h:Y):A:=t ⟨h⟩
def _root_.ZcG(t:Wr Y->A:=by intro h;refine z7 (u0 Z Z Z Z zne Z) Z ?_;exact h.1)(h:Y):A:=t ⟨h⟩
def _root_.ZcH(t:Wr Y->A:=by intro h;refine qo (id:=8) [] ki J ?_;exact h.1)(h:Y):A:=t ⟨h⟩
def _root_.Zc4(t:Wr Y->A:=by intro h;refine z8 (yq Z Z Z) Z ?_;exact h.1)(h:Y):A:=t ⟨h⟩
def _root_.ZdP(t:Wr Y->A:=by intro h;refine qo (id:=2) [] ki J ?_;exact h.1)(h:Y):A:=t ⟨h⟩
def _root_.Ze8(t:Wr Y->A:=by intro h;refine qo (id:=7) [] ki J ?_;exact h.1)(h:Y):A:=t ⟨h⟩
def _root_.Zbh(t:Wr Y->A:=by exact fun h=>(Zn∘Zl) h.1)(h:Y):A:=t ⟨h⟩
def _root_.Za6(t:Wr Y->A:=by exact fun h=>(Zo∘ZcV) h.1)(h:Y):A:=t ⟨h⟩
def _root_.Zb9(t:Wr Y->A:=by exact fun h=>(ZaK∘Z5) h.1)(h:Y):A:=t ⟨h⟩
def _root_.ZbQ(t:Wr Y->A:=by exact fun h=>(Zap∘ZcB) h.1)(h:Y):A:=t ⟨h⟩
def _root_.Zcd(t:Wr Y->A:=by exact fun h=>(Zc∘ZeH) h.1)(h:Y):A:=t ⟨h⟩
abbrev KT:=((ByteArray×ByteArray)×ByteArray)×((ByteArray×ByteArray)×ByteArray)
abbrev VT:=Unit
abbrev kv(k:KT):Value:=.agg #[.string k.1.1.1,.string k.1.1.2,.string k.1.2,.string k.2.1.1,.string k.2.1.2,.string k.2.2]
abbrev vv(x:VT):Value:=.agg #[]
abbrev pl(k:KT)(x:VT):List Value:=[.string k.1.1.1,.string k.1.1.2,.string k.1.2,.string k.2.1.1,.string k.2.1.2,.string k.2.2]
abbrev nl(k:KT)(x:VT)(l r:Value)(s d:Int):List Value:=[.string k.1.1.1,.string k.1.1.2,.string k.1.2,.string k.2.1.1,.string k.2.1.2,.string k.2.2]++[l,r,.int .i64 s,.int .i64 d]
abbrev TA(t:Tr KT VT):Value->Heap->Prop:=Tr.TreeAt nl 201 t
def TA.mono{t:Tr KT VT}:Kn.mono (.sat (TA t)):=Tr.TreeAt.mono
def TA.le{t:Tr KT VT}{v:Value}{H H':Heap}(h:TA t v H)(hle:H.Le H'):TA t v H':=Tr.TreeAt.le h hle
def TA.ptr{t:Tr KT VT}(h:TA t v H):∃ p,v=.pointer p:=by
 cases t with
 | nil=>exact⟨_,h⟩
 | node k x l r=>obtain⟨b,lv,rv,h,_⟩:=h;exact⟨_,h⟩
attribute [local irreducible] V N X VO Par StepOK Has Ret RetL Src
def size_ret(t:Tr KT VT){v:Value}(hB:zth B w)(hv:TA t v B):Ret zti 111 [v] w B (fun v _=>v=.int .i64 t.size):=by
 cases t with
 | nil=>
  obtain rfl:v=.pointer none:=hv;refine yn Tryz.func111 Z Tryz.ntmps111 (np Z) hB ((ZbT∘ZcG∘Zcj∘Zc) ?_);exact yj2 L [.tmp 2]
 | node k x l r=>
  obtain⟨b,lv,rv,rfl,hb,_,_⟩:=hv;refine yn Tryz.func111 Z Tryz.ntmps111 (np Z) hB ((ZbT∘ZcG∘Zm∘ZA∘ZbQ∘Zc) ?_);exact yj2 L [.tmp 2]
def deep_ret(t:Tr KT VT){v:Value}(hB:zth B w)(hv:TA t v B):Ret zti 287 [v] w B (fun v _=>v=.int .i64 t.deep):=by
 cases t with
 | nil=>
  obtain rfl:v=.pointer none:=hv;refine yn Tryz.func287 Z Tryz.ntmps287 (np Z) hB ((ZbT∘ZcG∘Zcj∘Zc) ?_);exact yj2 L [.tmp 2]
 | node k x l r=>
  obtain⟨b,lv,rv,rfl,hb,_,_⟩:=hv;refine yn Tryz.func287 Z Tryz.ntmps287 (np Z) hB ((ZbT∘ZcG∘Zm∘ZA∘ZbQ∘Zc) ?_);exact yj2 L [.tmp 2]
def zh2(a b:Nat):(if ((b:Nat):Int)>(a:Int) then ((b:Nat):Int) else (a:Int))=((max a b:Nat):Int):=by
 split<;>omega
def join_ret(k:KT)(x:VT)(l r:Tr KT VT){lv rv:Value}(hB:zth B w)(hl:TA l lv B)(hr:TA r rv B)(hs:l.size+r.size<1099511627776):
  Ret zti 268 [.agg (pl k x).toArray,lv,rv] w B (TA (.node k x l r)):=by
 obtain⟨pl',rfl⟩:=hl.ptr;obtain⟨pr,rfl⟩:=hr.ptr;have hdl:=l.deep_le;have hdr:=r.deep_le;refine yn Tryz.func268 Z Tryz.ntmps268 (np Z) hB ((Zu∘Zd∘ZbV∘ZaY∘Zbh) ?_);refine z81 L Z (fun u H hH hle=>UT.size_ret _ hH (UT.TA.le M hle)) ?_;refine(ZcU∘Zl) ?_;refine z81 L Z (fun u H hH hle=>UT.size_ret _ hH (UT.TA.le M hle)) ?_;refine(ZcU∘Zl) ?_;refine z81 L Z (fun u H hH hle=>UT.deep_ret _ hH (UT.TA.le M hle)) ?_;refine Zl (h:=?_);refine z81 L Z (fun u H hH hle=>UT.deep_ret _ hH (UT.TA.le M hle)) ?_;refine z8 (sd Z Z Z Z Z) Z (ZcU (h:=?_));refine z8 (yu (cs:=[_,_,_,_,_,_,_,_,_,_]) Z Z znb Z Z) Z (z8 (yl Z Z Z Z) Z ((Zc4∘Zb1) ?_));refine yj1 L [.tmp 6] fun u H hH hle=>?_;rintro _ ⟨b,rfl,hb⟩;refine⟨b,_,_,rfl,?_,TA.le hl hle,TA.le hr hle⟩;rw[zh2] at hb;simpa [Tr.size_node,Tr.deep_node] using hb
def bal_ret(k:KT)(x:VT)(l r:Tr KT VT){lv rv:Value}(hB:zth B w)(hl:TA l lv B)(hr:TA r rv B)(hs:l.size+r.size<1099511627776):
  Ret zti 266 [.agg (pl k x).toArray,lv,rv] w B (TA (Tr.bal k x l r)):=by
 have hdl:=l.deep_le;have hdr:=r.deep_le;refine yn Tryz.func266 Z Tryz.ntmps266 (np Z) hB ?_;unfold Tr.bal;by_cases h1:l.deep>r.deep+1
 ·rw[na h1]
  cases l with
  | nil=>simp [Tr.deep] at h1
  | node lk lx ll lr=>
   have hl0:=hl;obtain⟨b1,v1,v2,rfl,hb1,hll,hlr⟩:=hl;have hd1:=ll.deep_le;have hd2:=lr.deep_le;simp only[Tr.size_node] at hs hdl;dsimp only;by_cases h2:ll.deep>=lr.deep
   ·rw[na h2];refine(Zu∘Zba) ?_;refine z71 L Z (fun u H hH hle=>UT.deep_ret _ hH (UT.TA.le M hle)) ?_;refine Za (h:=?_);refine z71 L Z (fun u H hH hle=>UT.deep_ret _ hH (UT.TA.le M hle)) ?_;refine(ZcS∘Zc∘ZH∘ZdP∘Zl∘Zdm∘Zn∘ZbN∘Z5) ?_;refine z81 L Z (fun u H hH hle=>UT.deep_ret _ hH (UT.TA.le M hle)) ?_;refine Zb9 (h:=?_);refine z81 L Z (fun u H hH hle=>UT.deep_ret _ hH (UT.TA.le M hle)) ?_;refine(Zeb∘Zbg∘ZaM∘ZbW∘Ze∘Zc9∘ZaK∘ZcR∘Zb9∘ZaY∘Zb9∘Zl) ?_;refine z8 (xg L Z Z (zm Z) Z Z Z UT.TA.mono (fun u H hH hle _=>UT.join_ret _ () _ _ hH (UT.TA.le M hle) (UT.TA.le M hle) (by first | omega | (simp only[Tr.size_node];omega)))) Z ?_;refine z8 (xg L Z Z (zm Z) Z Z Z UT.TA.mono (fun u H hH hle _ v1 hv1=>UT.join_ret _ () _ _ hH (UT.TA.le M hle) hv1 (by first | omega | (simp only[Tr.size_node];omega)))) Z ?_;refine(Zc4∘Zb1) ?_;refine yj1 L [.tmp 6] fun u H hH hle=>?_;exact fun v hv=>hv
   ·rw[nc h2]
    cases lr with
    | nil=>simp [Tr.deep] at h2
    | node mk mx ml mr=>
     have hlr0:=hlr;obtain⟨b2,v3,v4,rfl,hb2,hml,hmr⟩:=hlr;simp only[Tr.size_node] at hs hdl hd2;refine(Zu∘Zba) ?_;refine z71 L Z (fun u H hH hle=>UT.deep_ret _ hH (UT.TA.le M hle)) ?_;refine Za (h:=?_);refine z71 L Z (fun u H hH hle=>UT.deep_ret _ hH (UT.TA.le M hle)) ?_;refine(ZcS∘Zc∘ZH∘ZdP∘Zl∘Zdm∘Zn∘ZbN∘Z5) ?_;refine z81 L Z (fun u H hH hle=>UT.deep_ret _ hH (UT.TA.le M hle)) ?_;refine Zb9 (h:=?_);refine z81 L Z (fun u H hH hle=>UT.deep_ret _ hH (UT.TA.le M hle)) ?_;refine(Ze4∘Zbg∘ZaM∘ZaN∘Ze∘Z0∘ZO∘Zcd∘Ze∘ZU∘ZbQ∘Zd∘ZcK∘ZaK∘ZcR∘ZaK∘ZcR∘Zb9∘Zb9) ?_;refine z8 (xg L Z Z (zm Z) Z Z Z UT.TA.mono (fun u H hH hle _=>UT.join_ret _ () _ _ hH (UT.TA.le M hle) (UT.TA.le M hle) (by first | omega | (simp only[Tr.size_node];omega)))) Z ?_;refine(ZaY∘Zb9∘Zl) ?_;refine z8 (xg L Z Z (zm Z) Z Z Z UT.TA.mono (fun u H hH hle _=>UT.join_ret _ () _ _ hH (UT.TA.le M hle) (UT.TA.le M hle) (by first | omega | (simp only[Tr.size_node];omega)))) Z ?_;refine z8 (xg L Z Z (zm Z) Z Z Z UT.TA.mono (fun u H hH hle _ v1 hv1 v2 hv2=>UT.join_ret _ () _ _ hH hv1 hv2 (by first | omega | (simp only[Tr.size_node];omega)))) Z ?_;refine(Zc4∘Zb1) ?_;refine yj1 L [.tmp 6] fun u H hH hle=>?_;exact fun v hv=>hv
 ·rw[nc h1];by_cases h3:r.deep>l.deep+1
  ·rw[na h3]
   cases r with
   | nil=>simp [Tr.deep] at h3
   | node rk rx rl rr=>
    have hr0:=hr;obtain⟨b1,v1,v2,rfl,hb1,hrl,hrr⟩:=hr;have hd1:=rl.deep_le;have hd2:=rr.deep_le;simp only[Tr.size_node] at hs hdr;dsimp only;by_cases h2:rr.deep>=rl.deep
    ·rw[na h2];refine(Zu∘Zba) ?_;refine z71 L Z (fun u H hH hle=>UT.deep_ret _ hH (UT.TA.le M hle)) ?_;refine Za (h:=?_);refine z71 L Z (fun u H hH hle=>UT.deep_ret _ hH (UT.TA.le M hle)) ?_;refine(ZcS∘Zc∘ZH∘ZdP∘Zl∘Zdz∘ZbH∘Zb5∘Zcq∘Zbg∘ZaM∘ZaN∘Ze∘Z0∘ZL∘Za6∘Ze8∘Zl∘Zcw∘Zn∘ZbN∘Z5) ?_;refine z81 L Z (fun u H hH hle=>UT.deep_ret _ hH (UT.TA.le M hle)) ?_;refine Zb9 (h:=?_);refine z81 L Z (fun u H hH hle=>UT.deep_ret _ hH (UT.TA.le M hle)) ?_;refine(Zeb∘Zbg∘ZaM∘ZbW∘Ze∘ZcH∘ZaK∘ZcR∘ZaY∘Zn∘ZbN∘Z5) ?_;refine z8 (xg L Z Z (zm Z) Z Z Z UT.TA.mono (fun u H hH hle _=>UT.join_ret _ () _ _ hH (UT.TA.le M hle) (UT.TA.le M hle) (by first | omega | (simp only[Tr.size_node];omega)))) Z ?_;refine Zb9 (h:=?_);refine z8 (xg L Z Z (zm Z) Z Z Z UT.TA.mono (fun u H hH hle _ v1 hv1=>UT.join_ret _ () _ _ hH hv1 (UT.TA.le M hle) (by first | omega | (simp only[Tr.size_node];omega)))) Z ?_;refine(Zc4∘Zb1) ?_;refine yj1 L [.tmp 6] fun u H hH hle=>?_;exact fun v hv=>hv
    ·rw[nc h2]
     cases rl with
     | nil=>simp [Tr.deep] at h2
     | node mk mx ml mr=>
      have hrl0:=hrl;obtain⟨b2,v3,v4,rfl,hb2,hml,hmr⟩:=hrl;simp only[Tr.size_node] at hs hdr hd1;refine(Zu∘Zba) ?_;refine z71 L Z (fun u H hH hle=>UT.deep_ret _ hH (UT.TA.le M hle)) ?_;refine Za (h:=?_);refine z71 L Z (fun u H hH hle=>UT.deep_ret _ hH (UT.TA.le M hle)) ?_;refine(ZcS∘Zc∘ZH∘ZdP∘Zl∘Zdz∘ZbH∘Zb5∘Zcq∘Zbg∘ZaM∘ZaN∘Ze∘Z0∘ZL∘Za6∘Ze8∘Zl∘Zcw∘Zn∘ZbN∘Z5) ?_;refine z81 L Z (fun u H hH hle=>UT.deep_ret _ hH (UT.TA.le M hle)) ?_;refine Zb9 (h:=?_);refine z81 L Z (fun u H hH hle=>UT.deep_ret _ hH (UT.TA.le M hle)) ?_;refine(Ze4∘Zbg∘ZaM∘ZaN∘Ze∘Zal∘ZN∘Zcd∘Ze∘ZI∘Za∘ZbQ∘Zd∘ZeN∘ZaK∘ZcR∘ZaY∘Zn∘ZbN∘Z5) ?_;refine z8 (xg L Z Z (zm Z) Z Z Z UT.TA.mono (fun u H hH hle _=>UT.join_ret _ () _ _ hH (UT.TA.le M hle) (UT.TA.le M hle) (by first | omega | (simp only[Tr.size_node];omega)))) Z ?_;refine(ZaK∘ZcR∘Zb9∘Zb9) ?_;refine z8 (xg L Z Z (zm Z) Z Z Z UT.TA.mono (fun u H hH hle _=>UT.join_ret _ () _ _ hH (UT.TA.le M hle) (UT.TA.le M hle) (by first | omega | (simp only[Tr.size_node];omega)))) Z ?_;refine z8 (xg L Z Z (zm Z) Z Z Z UT.TA.mono (fun u H hH hle _ v1 hv1 v2 hv2=>UT.join_ret _ () _ _ hH hv1 hv2 (by first | omega | (simp only[Tr.size_node];omega)))) Z ?_;refine(Zc4∘Zb1) ?_;refine yj1 L [.tmp 6] fun u H hH hle=>?_;exact fun v hv=>hv
  ·rw[nc h3];refine(Zu∘Zba) ?_;refine z71 L Z (fun u H hH hle=>UT.deep_ret _ hH (UT.TA.le M hle)) ?_;refine Za (h:=?_);refine z71 L Z (fun u H hH hle=>UT.deep_ret _ hH (UT.TA.le M hle)) ?_;refine(ZcS∘Zc∘ZH∘ZdP∘Zl∘Zdz∘ZbH∘Zb5∘Zcq∘Zbg∘ZaM∘ZaN∘Ze∘Z0∘ZL∘Za6∘Ze8∘Zl∘ZcQ∘ZbH∘Zb5∘Zcq∘Zbg∘ZaM∘ZaN∘Ze∘Zal∘ZJ∘Zo∘Zae∘Za7∘Zbz∘Zaa∘Zc3∘Zb) ?_;refine z7 (xg L Z Z (zm Z) Z Z Z UT.TA.mono (fun u H hH hle _=>UT.join_ret _ () _ _ hH (UT.TA.le M hle) (UT.TA.le M hle) (by first | omega | (simp only[Tr.size_node];omega)))) Z ?_;refine Zcp (h:=?_);refine yj1 L [.tmp 6] fun u H hH hle=>?_;exact fun v hv=>hv
end Go.V.UT
variable{c:Go.V.UT.KT->Go.V.UT.KT->Int}
namespace Go.V.UT
def _root_.ZcW(t:Wr Y->A:=by intro h;refine z7 (o6 Z Z Z Z M) Z ?_;exact h.1)(h:Y):A:=t ⟨h⟩
def _root_.ZcC(t:Wr Y->A:=by intro h;refine z7 (De Z Z Z Z) Z ?_;exact h.1)(h:Y):A:=t ⟨h⟩
def _root_.ZcM(t:Wr Y->A:=by intro h;refine iz (y9 Z) Z Z ?_;exact h.1)(h:Y):A:=t ⟨h⟩
def _root_.Zef(t:Wr Y->A:=by intro h;refine qo (id:=13) [] ki J ?_;exact h.1)(h:Y):A:=t ⟨h⟩
def _root_.Zeg(t:Wr Y->A:=by intro h;refine qo (id:=5) [] ki J ?_;exact h.1)(h:Y):A:=t ⟨h⟩
def _root_.ZdQ(t:Wr Y->A:=by intro h;refine z8 (qt L Z Z Z Z) Z ?_;exact h.1)(h:Y):A:=t ⟨h⟩
def _root_.Zfp(t:Wr Y->A:=by intro h;refine z8 (o6 Z Z Z Z M) Z ?_;refine z8 (De Z Z Z Z) Z ?_;exact h.1)(h:Y):A:=t ⟨h⟩
def _root_.Zcs(t:Wr Y->A:=by exact fun h=>(ZbY∘ZcR) h.1)(h:Y):A:=t ⟨h⟩
structure Cmp(cf:Nat)(c:KT->KT->Int):Prop where
 fn:L.fn cf=some ()
 ret:∀ (a b:KT) (u:World) (H:Heap),zth H u->Ret zti cf [kv a,kv b] u H (fun v _=>v=.int .i64 (c a b))
abbrev mv(cf:Nat)(root:Value):Value:=.agg #[.func (.func cf) #[] #[],root]
attribute [local irreducible] V N X VO Par StepOK Has Ret RetL Src
def zhc(hc:Cmp cf c)(root:Value)(k:KT)(x:VT):∀ (t:Tr KT VT) {rv:Value} {w:World} {B:Heap},zth B w->TA t rv B->t.size+1<1099511627776->
  Ret zti 228 [mv cf root,rv,.agg (pl k x).toArray] w B (TA (Tr.put c k x t)):=by
 intro t
 induction t with
 | nil=>
  intro rv w B hB hv hs;obtain rfl:rv=.pointer none:=hv;have hn:TA .nil (.pointer none) B:=rfl;have hz:(Tr.nil:Tr KT VT).size=0:=rfl;refine yn Tryz.func228 Z Tryz.ntmps228 (np Z) hB ((Zaj∘Zba∘ZcG∘Zcj∘Zc3) ?_);refine z7 (xg L Z Z (zm Z) Z Z Z UT.TA.mono (fun u H hH hle _=>UT.join_ret _ () _ _ hH (UT.TA.le M hle) (UT.TA.le M hle) (by first | omega | (simp only[Tr.size_node];omega)))) Z ?_;refine Zcp (h:=?_);refine yj1 L [.tmp 6] fun u H hH hle=>?_;exact fun v hv=>hv
 | node nk nx l r ihl ihr=>
  intro rv w B hB hv hs;obtain⟨b,lv,rv',rfl,hb,hl,hr⟩:=hv;have hpl:=Tr.size_put c k x l;have hpr:=Tr.size_put c k x r;simp only[Tr.size_node] at hs;refine yn Tryz.func228 Z Tryz.ntmps228 (np Z) hB ?_;unfold Tr.put;by_cases h1:c k nk<0
  ·rw[na h1];refine(Zaj∘Zba∘ZcG∘Z1∘Zc9∘Zbk∘Zbc∘ZaY∘ZaK∘Zcs) ?_;refine z8 (q0 L Z Z (zm Z) Z Z hc.fn (fun u H hH _ _=>hc.ret _ _ u H hH)) Z ((ZaB∘ZH∘Z0∘ZN∘Zcd∘Ze∘Zeg∘ZaK∘ZcR∘ZcP∘Zb9∘ZaY) ?_);refine z8 (xg L Z Z (zm Z) Z Z Z TA.mono (fun u H hH hle _=>ihl hH (hl.le hle) T)) Z (Zb9 (h:=?_));refine z8 (xg L Z Z (zm Z) Z Z Z UT.TA.mono (fun u H hH hle _ v1 hv1=>UT.bal_ret _ () _ _ hH hv1 (UT.TA.le M hle) (by first | omega | (simp only[Tr.size_node];omega)))) Z ?_;refine(Zc4∘Zb1) ?_;refine yj1 L [.tmp 6] fun u H hH hle=>?_;exact fun v hv=>hv
  ·rw[nc h1];by_cases h2:c k nk>0
   ·rw[na h2];refine(Zaj∘Zba∘ZcG∘Z1∘Zc9∘Zbk∘Zbc∘ZaY∘ZaK∘Zcs) ?_;refine z8 (q0 L Z Z (zm Z) Z Z hc.fn (fun u H hH _ _=>hc.ret _ _ u H hH)) Z ((ZaB∘ZH∘Z0∘ZJ∘Za6∘ZQ∘ZO∘Zcd∘Ze∘Ze8∘ZaK∘ZcR∘Zb9∘ZcP∘Zb9∘ZaY) ?_);refine z8 (xg L Z Z (zm Z) Z Z Z TA.mono (fun u H hH hle _=>ihr hH (hr.le hle) T)) Z (z8 (xg L Z Z (zm Z) Z Z Z UT.TA.mono (fun u H hH hle _ v1 hv1=>UT.bal_ret _ () _ _ hH (UT.TA.le M hle) hv1 (by first | omega | (simp only[Tr.size_node];omega)))) Z ?_);refine(Zc4∘Zb1) ?_;refine yj1 L [.tmp 6] fun u H hH hle=>?_;exact fun v hv=>hv
   ·rw[nc h2];refine(Zaj∘Zba∘ZcG∘Z1∘Zc9∘Zbk∘Zbc∘ZaY∘ZaK∘Zcs) ?_;refine z8 (q0 L Z Z (zm Z) Z Z hc.fn (fun u H hH _ _=>hc.ret _ _ u H hH)) Z ((ZaB∘ZH∘Z0∘ZJ∘Za6∘ZQ∘ZL∘Zo∘Zae∘Za7∘Zbz∘ZcH∘ZaK∘Zcs) ?_);refine z8 (Tu Z Z Z J) Z (z8 (Qz L Z Z Z Z) Z (z8 (yu (cs:=[_,_,_,_,_,_]) Z Z zko Z Z) Z ((Zb9∘Zb9) ?_)));refine z8 (xg L Z Z (zm Z) Z Z Z UT.TA.mono (fun u H hH hle _=>UT.join_ret _ () _ _ hH (UT.TA.le M hle) (UT.TA.le M hle) (by first | omega | (simp only[Tr.size_node];omega)))) Z ?_;refine(Zc4∘Zb1) ?_;refine yj1 L [.tmp 6] fun u H hH hle=>?_;exact fun v hv=>hv
abbrev FirstS(y:(KT×VT)×Tr KT VT):Value->Heap->Prop:=TupS [fun v _=>v=.agg (pl y.1.1 y.1.2).toArray,TA y.2]
def FirstS.mono{y:(KT×VT)×Tr KT VT}:Kn.mono (.sat (FirstS y)):=TupS.mono fun φ hφ=>by
 simp only[ma,zqx,or_false] at hφ;rcases hφ with rfl | rfl
 ·exact fun _ _ _ h _=>h
 ·exact TA.mono
def tupS2{φ ψ:Value->Heap->Prop}{v w:Value}(h1:φ v H)(h2:ψ w H):TupS [φ,ψ] (tup [v,w]) H:=⟨[v,w],rfl,rfl,fun i χ x hi hx=>by
 match i with
 | 0=>cases hi;cases hx;exact h1
 | 1=>cases hi;cases hx;exact h2
 | _+2=>cases hi⟩
def first_ret:∀ (k:KT) (x:VT) (l r:Tr KT VT) {v:Value} {w:World} {B:Heap},zth B w->TA (.node k x l r) v B->l.size+r.size<1099511627776->
  Ret zti 267 [v] w B (FirstS (Tr.first k x l r)):=by
 intro k x l
 induction l generalizing k x with
 | nil=>
  intro r v w B hB hv hs;obtain⟨b,lv,rv,rfl,hb,hl,hr⟩:=hv;obtain rfl:lv=.pointer none:=hl;refine yn Tryz.func267 Z Tryz.ntmps267 (np Z) hB ((Zbm∘Zba∘ZbQ∘ZcG∘ZD∘ZdP∘ZaK∘ZcR∘Zb9∘ZdQ∘ZaB) ?_);refine yj1 L [.cell 2 186,.tmp 3] fun u H hH hle=>?_;refine ZcM (h:=?_);exact tupS2 Z (TA.le hr hle)
 | node lk lx ll lr ih _=>
  intro r v w B hB hv hs;obtain⟨b,lv,rv,rfl,hb,hl,hr⟩:=hv;have hl0:=hl;obtain⟨b2,v3,v4,rfl,hb2,_,_⟩:=hl;have hz:=Tr.size_first lk lx ll lr;simp only[Tr.size_node] at hs;have hm:=TA.mono (t:=(Tr.first lk lx ll lr).2);refine yn Tryz.func267 Z Tryz.ntmps267 (np Z) hB ((Zbm∘Zba∘ZbQ∘ZcG∘Zm∘ZA∘ZbQ) ?_);refine z7 (xg L Z Z (zm Z) Z Z Z FirstS.mono (fun u H hH hle _=>ih lk lx lr hH (TA.le hl0 hle) T)) Z ((Zk∘ZcC∘ZcW∘Zaw∘Zat∘Zi∘ZcJ∘Zet∘ZaK∘ZcR∘Zab∘Zb9) ?_);refine z8 (xg L Z Z (zm Z) Z Z Z UT.TA.mono (fun u H hH hle _ v1 hv1=>UT.bal_ret _ () _ _ hH hv1 (UT.TA.le M hle) (by first | omega | (simp only[Tr.size_node];omega)))) Z ?_;refine(ZdQ∘Zc4∘Zb1) ?_;refine yj1 L [.cell 2 186,.tmp 3] fun u H hH hle=>?_;refine ZcM (h:=?_);exact fun v hv=>tupS2 Z hv
abbrev DropS(y:Tr KT VT×Bool):Value->Heap->Prop:=TupS [TA y.1,fun v _=>v=.bool y.2]
def DropS.mono{y:Tr KT VT×Bool}:Kn.mono (.sat (DropS y)):=TupS.mono fun φ hφ=>by
 simp only[ma,zqx,or_false] at hφ;rcases hφ with rfl | rfl
 ·exact TA.mono
 ·exact fun _ _ _ h _=>h
def zea(hc:Cmp cf c)(root:Value)(k:KT):∀ (t:Tr KT VT) {rv:Value} {w:World} {B:Heap},zth B w->TA t rv B->t.size<1099511627776->
  Ret zti 227 [mv cf root,rv,kv k] w B (DropS (Tr.drop c k t)):=by
 intro t
 induction t with
 | nil=>
  intro rv w B hB hv hs;obtain rfl:rv=.pointer none:=hv;have hn:TA .nil (.pointer none) B:=rfl;refine yn Tryz.func227 Z Tryz.ntmps227 (np Z) hB ((Zaj∘Zo∘Zba∘ZcG∘Zcj∘ZR) ?_);refine yj1 L [.tmp 6,.tmp 7] fun u H hH hle=>?_;exact tupS2 Z Z
 | node nk nx l r ihl ihr=>
  intro rv w B hB hv hs;obtain⟨b,lv,rv',rfl,hb,hl,hr⟩:=hv;have hpl:=Tr.size_drop c k l;have hpr:=Tr.size_drop c k r;simp only[Tr.size_node] at hs;refine yn Tryz.func227 Z Tryz.ntmps227 (np Z) hB ?_;unfold Tr.drop;by_cases h1:c k nk<0
  ·rw[na h1];have hm:=TA.mono (t:=(Tr.drop c k l).1);refine(Zaj∘Zo∘Zba∘ZcG∘Z1∘Zc9∘Zbk∘ZaY∘ZaK∘Zcs) ?_;refine z8 (q0 L Z Z (zm Z) Z Z hc.fn (fun u H hH _ _=>hc.ret _ _ u H hH)) Z ((ZaB∘ZH∘Z0∘ZN∘Zcd∘Ze∘Zeg∘ZcP∘Zb9∘ZaY) ?_);refine z8 (xg L Z Z (zm Z) Z Z Z DropS.mono (fun u H hH hle _=>ihl hH (hl.le hle) T)) Z ((Zab∘Zfp∘Zc4∘Zbo∘ZcK∘ZaK∘ZcR∘Zab∘Zb9) ?_);refine z8 (xg L Z Z (zm Z) Z Z Z UT.TA.mono (fun u H hH hle _ v1 hv1=>UT.bal_ret _ () _ _ hH hv1 (UT.TA.le M hle) (by first | omega | (simp only[Tr.size_node];omega)))) Z ?_;refine(Zl∘Zc4∘ZaB) ?_;refine yj1 L [.tmp 6,.tmp 7] fun u H hH hle=>?_;exact fun v hv=>tupS2 hv Z
  ·rw[nc h1];by_cases h2:c k nk>0
   ·rw[na h2];have hm:=TA.mono (t:=(Tr.drop c k r).1);refine(Zaj∘Zo∘Zba∘ZcG∘Z1∘Zc9∘Zbk∘ZaY∘ZaK∘Zcs) ?_;refine z8 (q0 L Z Z (zm Z) Z Z hc.fn (fun u H hH _ _=>hc.ret _ _ u H hH)) Z ((ZaB∘ZH∘Z0∘ZJ∘Za6∘Z8∘ZO∘Zcd∘Ze∘ZcH∘ZcP∘Zb9∘ZaY) ?_);refine z8 (xg L Z Z (zm Z) Z Z Z DropS.mono (fun u H hH hle _=>ihr hH (hr.le hle) T)) Z ((Zab∘Zfp∘Zc4∘Zbo) ?_);refine qo (id:=9) [] ki J ((ZaK∘ZcR∘Zb9∘Zab) ?_);refine z8 (xg L Z Z (zm Z) Z Z Z UT.TA.mono (fun u H hH hle _ v1 hv1=>UT.bal_ret _ () _ _ hH (UT.TA.le M hle) hv1 (by first | omega | (simp only[Tr.size_node];omega)))) Z ?_;refine(Zl∘Zc4∘ZaB) ?_;refine yj1 L [.tmp 6,.tmp 7] fun u H hH hle=>?_;exact fun v hv=>tupS2 hv Z
   ·rw[nc h2]
    cases r with
    | nil=>
     obtain rfl:rv'=.pointer none:=hr;refine(Zaj∘Zo∘Zba∘ZcG∘Z1∘Zc9∘Zbk∘ZaY∘ZaK∘Zcs) ?_;refine z8 (q0 L Z Z (zm Z) Z Z hc.fn (fun u H hH _ _=>hc.ret _ _ u H hH)) Z ((ZaB∘ZH∘Z0∘ZJ∘Za6∘Z8∘ZL∘Za6∘ZI∘Za∘ZbQ∘ZcG∘Zcd∘Ze∘ZY∘Za∘ZbQ∘ZR) ?_);refine yj1 L [.tmp 6,.tmp 7] fun u H hH hle=>?_;exact tupS2 (TA.le hl hle) Z
    | node rk rx rl rr=>
     have hr0:=hr;obtain⟨b2,v3,v4,rfl,hb2,_,_⟩:=hr;have hz:=Tr.size_first rk rx rl rr;simp only[Tr.size_node] at hs;have hm:=TA.mono (t:=(Tr.first rk rx rl rr).2);refine(Zaj∘Zo∘Zba∘ZcG∘Z1∘Zc9∘Zbk∘ZaY∘ZaK∘Zcs) ?_;refine z8 (q0 L Z Z (zm Z) Z Z hc.fn (fun u H hH _ _=>hc.ret _ _ u H hH)) Z ((ZaB∘ZH∘Z0∘ZJ∘Za6∘Z8∘ZL∘Za6∘ZI∘Za∘ZbQ∘ZcG∘Zo∘Zae∘Za7∘Zbz∘Zaa∘Za∘ZbQ) ?_);refine z7 (xg L Z Z (zm Z) Z Z Z FirstS.mono (fun u H hH hle _=>first_ret rk rx rl rr hH (TA.le hr0 hle) T)) Z ((Zk∘ZcC∘ZcW∘Zaw∘Zat∘Zi∘Zef∘Zet∘Zb9∘Zab) ?_);refine z8 (xg L Z Z (zm Z) Z Z Z UT.TA.mono (fun u H hH hle _ v1 hv1=>UT.bal_ret _ () _ _ hH (UT.TA.le M hle) hv1 (by first | omega | (simp only[Tr.size_node];omega)))) Z ?_;refine(Zc4∘ZaB) ?_;refine yj1 L [.tmp 6,.tmp 7] fun u H hH hle=>?_;exact fun v hv=>tupS2 hv Z
def _root_.ZbR(t:Wr Y->A:=by intro h;refine z7 (qd L (yw Z (List.Mem.head _)) Z Z Z Z) Z ?_;exact h.1)(h:Y):A:=t ⟨h⟩
def _root_.ZfB(t:Wr Y->A:=by intro h;refine z7 (zw L (vs:=[_,_,_,_,_,_]) (qp Z M) Z Z Z Z ⟨_,rfl⟩) Z ?_;exact h.1)(h:Y):A:=t ⟨h⟩
def _root_.ZcX(t:Wr Y->A:=by intro h;refine z7 (zw L (vs:=[_,_]) (yw Z (List.Mem.head _)) Z Z Z Z ⟨_,rfl⟩) Z ?_;exact h.1)(h:Y):A:=t ⟨h⟩
def _root_.Zdg(t:Wr Y->A:=by intro h;refine M6 L (O1:=[]) Z Z Z Z Z Z Z Z Z ?_;exact h.1)(h:Y):A:=t ⟨h⟩
def _root_.ZdR(t:Wr Y->A:=by intro h;refine z7 (Ox Z Z Z Z zne Z Z) Z ?_;exact h.1)(h:Y):A:=t ⟨h⟩
def _root_.Ze9(t:Wr Y->A:=by intro h;refine z71 L Z (fun u H hH hle=>UT.size_ret _ hH (UT.TA.le M hle)) ?_;exact h.1)(h:Y):A:=t ⟨h⟩
def _root_.ZeO(t:Wr Y->A:=by intro h;refine z71 L Z (fun u H hH hle=>len_ret hH (hv.le hle)) ?_;exact h.1)(h:Y):A:=t ⟨h⟩
def _root_.Zfq(t:Wr Y->A:=by intro h;refine z7 (yu (cs:=[_,_,_,_,_,_]) Z Z zko Z Z) Z ?_;exact h.1)(h:Y):A:=t ⟨h⟩
def _root_.Zai(t:Wr Y->A:=by exact fun h=>(Zbw∘Za7) h.1)(h:Y):A:=t ⟨h⟩
def _root_.ZbA(t:Wr Y->A:=by exact fun h=>(Zb∘ZJ) h.1)(h:Y):A:=t ⟨h⟩
def _root_.Zce(t:Wr Y->A:=by exact fun h=>(Zbm∘Zi) h.1)(h:Y):A:=t ⟨h⟩
def MA(fv:Value)(t:Tr KT VT):Value->Heap->Prop:=fun v H=>∃ p,v=.agg #[fv,.pointer p]/\TA t (.pointer p) H
def MA.mono{t:Tr KT VT}:Kn.mono (.sat (MA fv t)):=fun _ _ _ ⟨p,hv,h⟩ hle=>⟨p,hv,h.le hle⟩
def new_ret(cf:Nat)(hB:zth B w):Ret zti 171 [.func (.func cf) #[] #[]] w B (fun v _=>v=.agg #[.func (.func cf) #[] #[],.pointer none]):=by
 refine yn Tryz.func171 Z Tryz.ntmps171 (np Z) hB ((Zce∘Zbp) ?_);refine z7 (yu (cs:=[_,_]) Z Z zov Z Z) Z (Za2 (h:=?_));refine yj1 L [.cell 2 33] fun u H hH hle=>?_;refine ZcM (h:=?_);rfl
def len_ret{t:Tr KT VT}(hB:zth B w)(hv:TA t root B):Ret zti 45 [.agg #[fv,root]] w B (fun v _=>v=.int .i64 t.size):=by
 refine yn Tryz.func45 Z Tryz.ntmps45 (np Z) hB ((Zu∘Zag∘Zq∘Ze9∘Zc) ?_);exact yj2 L [.tmp 2]
def zdj(hc:Cmp cf c)(k:KT)(x:VT){t:Tr KT VT}(hB:zth B w)(hv:TA t (.pointer p) B)(hs:t.size+1<1099511627776):
  Ret zti 173 [mv cf (.pointer p),kv k,vv x] w B (MA (.func (.func cf) #[] #[]) (Tr.put c k x t)):=by
 refine yn Tryz.func173 Z Tryz.ntmps173 (np Z) hB ((Zbu∘Zdb∘Zdb∘ZbP) ?_);(refine lh 3 rfl ?_;intro b3 hb3);refine(ZE∘Zz∘ZbR) ?_;refine z7 (Ox rfl rfl rfl rfl zox rfl rfl) rfl ((Zw∘Z9∘ZcX∘Zz∘ZbR∘Zc3) ?_);refine z7 (zw L (vs:=[]) (qu rfl) rfl rfl rfl rfl ⟨_,rfl⟩) rfl (Zfq (h:=?_));refine z7 (xg L rfl rfl (zm rfl) rfl rfl rfl TA.mono (fun u H hH hle _=>zhc hc _ k x t hH (hv.le hle) hs)) rfl (vk 16 rfl ?_);intro p16 H16 hs16 hp16;obtain⟨q16,rfl⟩:=TA.ptr hp16;refine(Zz∘Zdg∘Zi∘ZK∘ZcX∘Za2) ?_;refine yj L (rs:=[.cell 6 33]) Z (fun _ _ h=>h) hs16 fun u H hH hle=>?_;refine ZcM (h:=?_);exact⟨q16,rfl,hp16.le hle⟩
def Yo(hc:Cmp cf c)(k:KT){t:Tr KT VT}(hB:zth B w)(hv:TA t (.pointer p) B)(hs:t.size<1099511627776):
  Ret zti 172 [mv cf (.pointer p),kv k] w B (MA (.func (.func cf) #[] #[]) (if (Tr.drop c k t).2=true then (Tr.drop c k t).1 else t)):=by
 have hD:=fun(u:World) (H:Heap) (hH:zth H u) (hle:B.Le H)=>zea hc (.pointer p) k t hH (hv.le hle) hs;rcases hq:Tr.drop c k t with ⟨t',was⟩
 rw[hq] at hD;have hm:=TA.mono (t:=t');cases was
 ·rw[nc (by simp)];refine yn Tryz.func172 Z Tryz.ntmps172 (np Z) hB ((Zbu∘Zdb∘ZbP) ?_);(refine lh 2 rfl ?_;intro b2 hb2);refine(ZE∘ZcX∘Zz∘ZbR∘Zc3) ?_;refine z7 (xg L Z Z (zm Z) Z Z Z DropS.mono (fun u H hH hle _=>hD u H hH hle)) Z ((Zk∘ZcW∘ZcC∘Zat∘Zbx∘Zm∘Z2∘ZcX∘Za2) ?_);refine yj1 L [.cell 4 33] fun u H hH hle=>?_;refine ZcM (h:=?_);exact⟨p,rfl,hv.le hle⟩
 ·rw[na rfl];refine yn Tryz.func172 Z Tryz.ntmps172 (np Z) hB ((Zbu∘Zdb∘ZbP) ?_);(refine lh 2 rfl ?_;intro b2 hb2);refine(ZE∘ZcX∘Zz∘ZbR∘Zc3) ?_;refine z7 (xg L rfl rfl (zm rfl) rfl rfl rfl DropS.mono (fun u H hH hle _=>hD u H hH hle)) rfl ((Zk∘ZcW∘ZcC∘Zat∘Zbx∘Zw∘ZK∘Zk) ?_);refine vk 16 rfl ?_;intro p16 H16 hs16 hp16;obtain⟨q16,rfl⟩:=TA.ptr hp16;refine(Zz∘Zdg∘Zi∘Z2∘ZcX∘Za2) ?_;refine yj L (rs:=[.cell 4 33]) Z (fun _ _ h=>h) hs16 fun u H hH hle=>?_;refine ZcM (h:=?_);exact⟨q16,rfl,hp16.le hle⟩
def zn9:Option VT->List Value
 | some x=>[vv x,.bool true]
 | none=>[.agg #[],.bool false]
def zid(hc:Cmp cf c)(k:KT){t:Tr KT VT}(hB:zth B w)(hv:TA t root B):
  Ret zti 64 [mv cf root,kv k] w B (fun v _=>v=tup (zn9 (Tr.get c k t))):=by
 refine yn Tryz.func64 Z Tryz.ntmps64 (np Z) hB ((Zaj∘ZZ∘Zag∘Zq∘Zd∘Zam) ?_)
 refine xm (fun s:Tr KT VT×Value=>[(3,.sat (At [.string k.1.1.1,.string k.1.1.2,.string k.1.2,.string k.2.1.1,.string k.2.1.2,.string k.2.2] 57 0)),(4,.own (Cell [] 114)),(2,.sat (At [.func (.func cf) #[] #[],root] 33 0)),(6,.is s.2)])
  (fun s=>TA s.1 s.2 B/\Tr.get c k s.1=Tr.get c k t) (fun s=>s.1.size) (t,root) ⟨hv,rfl⟩ (by repeat (first | exact trivial | refine⟨rfl,?_⟩)) ?_
 rintro⟨s,v⟩ ⟨hs,hg⟩;dsimp only at hs hg |-
 cases s with
 | nil=>
  obtain rfl:v=.pointer none:=hs;refine(Zf∘Zy∘ZdR∘Zas∘ZM∘Zca∘ZI) ?_;refine z7 (zw L (vs:=[]) (y9 Z) Z Z Z Z ⟨_,rfl⟩) Z (Zbf (h:=?_));refine yj1 L [.cell 4 114,.tmp 5] fun u H hH hle=>?_
  first | (rw[<-hg];rfl) | (refine iz (y9 rfl) rfl rfl ?_;rw[<-hg];rfl)
 | node nk nx l r=>
  obtain⟨b,lv,rv,rfl,hb,hl,hr⟩:=hs;by_cases h0:c k nk=0
  ·rw[Tr.get_eq h0] at hg;refine(Zf∘Zy∘ZdR∘ZbO∘Zc9∘Zbk∘ZaY∘ZaK∘Zcs) ?_;refine z8 (q0 L Z Z (zm Z) Z Z hc.fn (fun u H hH _ _=>hc.ret _ _ u H hH)) Z ((Zbo∘Ze∘Z0∘ZW∘ZD∘ZU∘Zap) ?_);refine z7 (Tt M Z Z Z J) Z (z7 (Qz L Z Z Z Z) Z (Zbf (h:=?_)));refine yj1 L [.cell 4 114,.tmp 5] fun u H hH hle=>?_
   first | (rw[<-hg];rfl) | (refine iz (y9 rfl) rfl rfl ?_;rw[<-hg];rfl)
  ·by_cases h1:c k nk<0
   ·rw[Tr.get_lt h1] at hg;refine(Zf∘Zy∘ZdR∘ZbO∘Zc9∘Zbk∘ZaY∘ZaK∘Zcs) ?_;refine z8 (q0 L Z Z (zm Z) Z Z hc.fn (fun u H hH _ _=>hc.ret _ _ u H hH)) Z ((Zbo∘Ze∘Z0∘Zx∘Zm∘ZQ∘ZbD∘Z8∘ZbQ∘Zai) ?_);exact ym (x:=(Tr.node nk nx l r,Value.pointer (some ⟨b,0,none⟩))) (l,lv) ⟨hl,hg⟩ (by simp only[Tr.size_node];omega) (by repeat (first | exact trivial | refine⟨rfl,?_⟩))
   ·rw[Tr.get_gt h0 h1] at hg;refine(Zf∘Zy∘ZdR∘ZbO∘Zc9∘Zbk∘ZaY∘ZaK∘Zcs) ?_;refine z8 (q0 L Z Z (zm Z) Z Z hc.fn (fun u H hH _ _=>hc.ret _ _ u H hH)) Z ((Zbo∘Ze∘Z0∘Zx∘Zm∘ZQ∘ZJ∘ZaL∘ZaQ∘ZbQ∘Zai) ?_);exact ym (x:=(Tr.node nk nx l r,Value.pointer (some ⟨b,0,none⟩))) (r,rv) ⟨hr,hg⟩ (by simp only[Tr.size_node];omega) (by repeat (first | exact trivial | refine⟨rfl,?_⟩))
def zc0(hc:Cmp cf c)(k:KT){t:Tr KT VT}(hB:zth B w)(hv:TA t root B)(hs:t.size<1099511627776):
  Ret zti 134 [mv cf root,kv k] w B (fun v _=>v=.int .i64 (Tr.rank c k t)):=by
 refine yn Tryz.func134 Z Tryz.ntmps134 (np Z) hB ((Zaj∘Zag∘Zj∘Z9∘Zq∘ZaJ) ?_)
 refine xm (fun s:Tr KT VT×Value×Nat=>[(3,.sat (At [.string k.1.1.1,.string k.1.1.2,.string k.1.2,.string k.2.1.1,.string k.2.1.2,.string k.2.2] 57 0)),(2,.sat (At [.func (.func cf) #[] #[],root] 33 0)),(5,.is (.int .i64 s.2.2)),(6,.is s.2.1)])
  (fun s=>TA s.1 s.2.1 B/\Tr.rank c k t=s.2.2+Tr.rank c k s.1/\s.2.2+s.1.size<=t.size) (fun s=>s.1.size) (t,root,0) ⟨hv,by simp,by simp⟩ (by repeat (first | exact trivial | refine⟨rfl,?_⟩)) ?_
 rintro⟨s,v,m⟩ ⟨hs',hg,hz⟩;dsimp only at hs' hg hz |-
 cases s with
 | nil=>
  obtain rfl:v=.pointer none:=hs';refine(Zcr∘ZdR∘Zas∘ZaQ∘Zc) ?_;refine yj1 L [.tmp 4] fun u H hH hle=>?_;rw[hg];rfl
 | node nk nx l r=>
  obtain⟨b,lv,rv,rfl,hb,hl,hr⟩:=hs';simp only[Tr.size_node] at hz;by_cases h1:c nk k<0
  ·rw[Tr.rank_lt h1] at hg;refine(Zcr∘ZdR∘ZbO∘ZcJ∘Zbk∘ZaK∘Zcs∘ZaY) ?_;refine z8 (q0 L Z Z (zm Z) Z Z hc.fn (fun u H hH _ _=>hc.ret _ _ u H hH)) Z ((Zcw∘ZbW∘Ze∘Zt∘Zb∘ZbQ∘Ze9∘ZaI∘ZaI∘Zc∘ZQ∘ZbQ∘Zai) ?_);exact ym (x:=(Tr.node nk nx l r,Value.pointer (some ⟨b,0,none⟩),m)) (r,rv,m+(l.size+1)) ⟨hr,by dsimp only;omega,by dsimp only;omega⟩ (by simp only[Tr.size_node];omega) (by repeat (first | exact trivial | refine⟨rfl,?_⟩))
  ·rw[Tr.rank_ge h1] at hg;refine(Zcr∘ZdR∘ZbO∘ZcJ∘Zbk∘ZaK∘Zcs∘ZaY) ?_;refine z8 (q0 L Z Z (zm Z) Z Z hc.fn (fun u H hH _ _=>hc.ret _ _ u H hH)) Z ((ZcQ∘ZaN∘Z8∘ZbQ∘Zai) ?_);exact ym (x:=(Tr.node nk nx l r,Value.pointer (some ⟨b,0,none⟩),m)) (l,lv,m) ⟨hl,hg,by dsimp only;omega⟩ (by simp only[Tr.size_node];omega) (by repeat (first | exact trivial | refine⟨rfl,?_⟩))
def rank_nil(k:KT)(hB:zth B w):
  Ret zti 134 [.agg #[fv,.pointer none],kv k] w B (fun v _=>v=.int .i64 0):=by
 refine yn Tryz.func134 Z Tryz.ntmps134 (np Z) hB ((Zaj∘Zag∘Zj∘Z9∘Zq∘ZaJ) ?_);refine xm (fun _:Unit=>[(5,.is (.int .i64 0)),(6,.is (.pointer none))]) (fun _=>True) (fun _=>0) () trivial (by repeat (first | exact trivial | refine⟨rfl,?_⟩)) ?_;rintro _ _;refine(Zcr∘ZdR∘Zas∘ZaQ∘Zc) ?_;exact yj2 L [.tmp 4]
def atV:Option (KT×VT)->List Value
 | some y=>[.agg (pl y.1 y.2).toArray,.int .i64 0]
 | none=>[.agg #[.string ⟨#[]⟩,.string ⟨#[]⟩,.string ⟨#[]⟩,.string ⟨#[]⟩,.string ⟨#[]⟩,.string ⟨#[]⟩],.int .i64 4]
def atO(t:Tr KT VT)(i:Int):Option (KT×VT):=if i<0 then none else Tr.at' t i.toNat
def zbc:∀ (t:Tr KT VT) (i:Nat),t.size<=i->Tr.at' t i=none
 | .nil,_,_=>rfl
 | .node k x l r,i,h=>by
  simp only[Tr.size_node] at h;rw[Tr.at_gt T];exact zbc r _ T
def at_ret{fv root:Value}{t:Tr KT VT}(i:Int)(hB:zth B w)(hv:TA t root B)(hs:t.size<1099511627776):
  Ret zti 135 [.agg #[fv,root],.int .i64 i] w B (fun v _=>v=tup (atV (atO t i))):=by
 refine yn Tryz.func135 Z Tryz.ntmps135 (np Z) hB ?_;by_cases h0:i<0
 ·refine(Zu∘ZZ∘Zba∘ZN∘Zaz∘Zbb∘Z9∘Zfq∘Zbf) ?_;refine yj1 L [.cell 4 186,.tmp 5] fun u H hH hle=>?_;refine ZcM (h:=?_);rw[atO,na h0];rfl
 ·by_cases h1:i>=t.size
  ·refine(Zu∘ZZ∘Zba∘ZJ∘Zb∘ZbL∘ZeO∘Zb3∘Zbb∘Z9∘Zfq∘Zbf) ?_;refine yj1 L [.cell 4 186,.tmp 5] fun u H hH hle=>?_;refine ZcM (h:=?_);rw[atO,nc h0,zbc t _ T];rfl
  ·obtain⟨j,rfl⟩:=Int.eq_ofNat_of_zero_le (by omega:0<=i);refine(Zu∘ZZ∘Zba∘ZJ∘Zb∘ZbL∘ZeO∘Za4∘ZbX∘ZK∘Zq∘ZaJ) ?_
   refine xm (fun s:Tr KT VT×Value×Nat=>[(1,.is (.int .i64 s.2.2)),(4,.own (Cell [.string ⟨#[]⟩,.string ⟨#[]⟩,.string ⟨#[]⟩,.string ⟨#[]⟩,.string ⟨#[]⟩,.string ⟨#[]⟩] 186)),(6,.is s.2.1)])
    (fun s=>TA s.1 s.2.1 B/\Tr.at' t j=Tr.at' s.1 s.2.2/\s.2.2<s.1.size/\s.1.size<=t.size) (fun s=>s.1.size) (t,root,j) ⟨hv,rfl,by dsimp only;omega,Nat.le_refl _⟩ ⟨rfl,rfl,rfl,trivial⟩ ?_
   rintro⟨s,v,m⟩ ⟨hs',hg,hlt,hz⟩;dsimp only at hs' hg hlt hz |-
   cases s with
   | nil=>cases hlt
   | node nk nx l r=>
    obtain⟨b,lv,rv,rfl,hb,hl,hr⟩:=hs';simp only[Tr.size_node] at hlt hz;by_cases h2:m<l.size
    ·rw[Tr.at_lt h2] at hg;refine(ZH∘Z0∘ZbQ∘Ze9∘Zc∘ZH∘Zs∘Zb∘ZN∘Zcd∘Z8∘ZbQ∘Zai∘Za7) ?_;exact ym (x:=(Tr.node nk nx l r,Value.pointer (some ⟨b,0,none⟩),m)) (l,lv,m) ⟨hl,hg,h2,by dsimp only;omega⟩ (by simp only[Tr.size_node];omega) ⟨Z,Z,Z,trivial⟩
    ·by_cases h3:m>l.size
     ·rw[Tr.at_gt h3] at hg;refine(ZH∘Z0∘ZbQ∘Ze9∘Zc∘ZH∘Zs∘ZbA∘Za6∘Zv∘Zb∘ZO∘Zcd∘Ze∘ZM∘Zb∘ZaI∘ZcS∘Zc∘ZI∘Za∘ZbQ∘Zai∘Za7) ?_;have e:((m:Int)-((l.size:Int)+1))=((m-(l.size+1):Nat):Int):=T;rw[e];exact ym (x:=(Tr.node nk nx l r,Value.pointer (some ⟨b,0,none⟩),m)) (r,rv,m-(l.size+1)) ⟨hr,hg,by dsimp only;omega,by dsimp only;omega⟩ (by simp only[Tr.size_node];omega) ⟨Z,Z,Z,trivial⟩
     ·rw[Tr.at_eq T] at hg;refine(ZH∘Z0∘ZbQ∘Ze9∘Zc∘ZH∘Zs∘ZbA∘Za6∘Zv∘Zb∘ZL∘Za6∘ZU∘Zap∘ZfB∘Zbf) ?_;refine yj1 L [.cell 4 186,.tmp 5] fun u H hH hle=>?_;refine ZcM (h:=?_);rw[atO,nc h0,zpu,hg];rfl
def _root_.Zdh(t:Wr Y->A:=by intro h;refine z8 (Q0 Z Z Z Z (nf T)) Z ?_;exact h.1)(h:Y):A:=t ⟨h⟩
def _root_.ZdS(t:Wr Y->A:=by intro h;refine z8 (Q0 Z Z Z Z (ng T)) Z ?_;exact h.1)(h:Y):A:=t ⟨h⟩
def _root_.ZeP(t:Wr Y->A:=by intro h;refine qo (id:=6) [(60,[77])] ki J ?_;exact h.1)(h:Y):A:=t ⟨h⟩
def _root_.ZeQ(t:Wr Y->A:=by intro h;refine z8 (u0 Z Z Z Z zne Z) Z ?_;exact h.1)(h:Y):A:=t ⟨h⟩
def encP(y:KT×VT):List Value:=[.agg (pl y.1 y.2).toArray]
def PairsAt(t:Tr KT VT)(a f e:Int):Value->Heap->Prop:=fun v H=>∃ b1 b2 b3 b4 root,v=.func (.func 233) #[] #[.pointer (some ⟨b1,0,none⟩),.pointer (some ⟨b2,0,none⟩),.pointer (some ⟨b3,0,none⟩),.pointer (some ⟨b4,0,none⟩)]/\
 H b1=some (.cells [root].toArray 31)/\H b2=some (.cells [.int .i64 a].toArray 3)/\H b3=some (.cells [.int .i64 f].toArray 3)/\H b4=some (.cells [.int .i64 e].toArray 3)/\TA t root H
def PairsAt.mono{t:Tr KT VT}{a f e:Int}:Kn.mono (.sat (PairsAt t a f e)):=fun _ _ _ ⟨b1,b2,b3,b4,root,h0,h1,h2,h3,h4,h5⟩ hle=>⟨b1,b2,b3,b4,root,h0,hle _ _ h1,hle _ _ h2,hle _ _ h3,hle _ _ h4,h5.le hle⟩
def C8(t:Tr KT VT)(a f e:Int)(hB:zth B w)(hv:TA t root B):
  Ret zti 180 [root,.int .i64 a,.int .i64 f,.int .i64 e] w B (PairsAt t a f e):=by
 obtain⟨p,rfl⟩:=hv.ptr;refine yn Tryz.func180 Z Tryz.ntmps180 (np Z) hB ((Zaj∘Zdb∘Zdb∘Zd) ?_);refine ri 4 rfl fun v1 H1 hs1 ⟨b1,e1,h1⟩=>?_;subst e1;refine ri 5 rfl fun v2 H2 hs2 ⟨b2,e2,h2⟩=>?_;subst e2;refine ri 6 rfl fun v3 H3 hs3 ⟨b3,e3,h3⟩=>?_;subst e3;refine ri 7 rfl fun v4 H4 hs4 ⟨b4,e4,h4⟩=>?_;subst e4;refine(ZE∘Za0∘Zc) ?_;refine yj L (rs:=[.tmp 8]) Z (fun _ _ h=>h) (hs1.trans (hs2.trans (hs3.trans hs4))) fun u H hH hle=>?_;exact⟨b1,b2,b3,b4,_,rfl,hle _ _ (hs4.le _ _ (hs3.le _ _ (hs2.le _ _ h1))),hle _ _ (hs4.le _ _ (hs3.le _ _ h2)),hle _ _ (hs4.le _ _ h3),hle _ _ h4,(((hv.le hs1.le).le hs2.le).le (hs3.le.trans hs4.le)).le hle⟩
def Aj{l:List (KT×VT)}{x:List Value}(h:pre++[x]<+:l.map encP):∃ y,x=encP y:=by
 have:x∈l.map encP:=h.subset (by simp);obtain⟨y,_,rfl⟩:=zo9.1 this;exact⟨y,rfl⟩
abbrev Fz:List Value->List Value
 | [.agg cs]=>cs.toList
 | _=>[]
set_option maxRecDepth 10000 in
def zdx:∀ (t:Tr KT VT) (a f e:Int) {b1 b2 b3 b4:Nat} {root:Value} {w:World} {B:Heap},0<=a->a+t.size<1099511627776->zth B w->
  B b1=some (.cells [root].toArray 31)->B b2=some (.cells [.int .i64 a].toArray 3)->B b3=some (.cells [.int .i64 f].toArray 3)->B b4=some (.cells [.int .i64 e].toArray 3)->TA t root B->
  zms zti 233 [.pointer (some ⟨b1,0,none⟩),.pointer (some ⟨b2,0,none⟩),.pointer (some ⟨b3,0,none⟩),.pointer (some ⟨b4,0,none⟩)] w B ((Tr.prs t a f e).map encP):=by
 intro t
 induction t with
 | nil=>
  intro a f e b1 b2 b3 b4 root w B ha hsz hB g1 g2 g3 g4 hv ly ztc stop C hst hY hJ hC;obtain rfl:root=.pointer none:=hv;refine xa 77 (ztc []) Tryz.func233 Z Tryz.ntmps233 (np Z) hB hJ hC ((Zu∘Zan∘ZbV∘Z5∘ZeQ∘ZbH∘Zbg∘Zl∘Zb5∘Zcq∘Zcc) ?_);exact jj L 77 rfl (fun _ _ h=>h) nq Z Z
 | node k x l r ihl ihr=>
  intro a f e b1 b2 b3 b4 root w B ha hsz hB g1 g2 g3 g4 hv ly ztc stop C hst hY hJ hC;obtain⟨b,lv,rv,rfl,hb,hl,hr⟩:=hv;have hsn:(Tr.node k x l r).size=l.size+1+r.size:=rfl;rw[hsn] at hsz;refine xa 77 (ztc []) Tryz.func233 Z Tryz.ntmps233 (np Z) hB hJ hC ?_;by_cases h1:a+((Tr.node k x l r).size:Int)<=f
  ·have hx:Tr.prs (.node k x l r) a f e=[]:=na (.inl h1);refine(Zu∘Zan∘ZbV∘Z5∘ZeQ∘Zl∘Z5∘Z5∘ZbN∘Z5∘ZcU∘Z5∘Zdh∘Zbg∘Zl∘Zb5∘Zcq∘Zcc) ?_;exact jj L 77 rfl (fun _ _ h=>h) nq Z (by rw[hx];rfl)
  ·by_cases h2:a>=e
   ·have hx:Tr.prs (.node k x l r) a f e=[]:=na (.inr h2);refine(Zu∘Zan∘ZbV∘Z5∘ZeQ∘Zl∘Z5∘Z5∘ZbN∘Z5∘ZcU∘Z5∘ZdS∘Zbg∘Zl∘Z5∘Z5∘Zeb∘Zcc) ?_;exact jj L 77 rfl (fun _ _ h=>h) nq Z (by rw[hx];rfl)
   ·have hx:Tr.prs (.node k x l r) a f e=Tr.prs l a f e++((if a+(l.size:Int)>=f/\a+(l.size:Int)<e then [(k,x)] else [])++Tr.prs r (a+l.size+1) f e):=
     nc (by rintro(h | h);exact h1 h;exact h2 h)
    rw[hx] at hY |-;simp only[zpo] at hY |-;refine(Zu∘Zan∘ZbV∘Z5∘ZeQ∘Zl∘Z5∘Z5∘ZbN∘Z5∘ZcU∘Z5∘ZdS∘Zbg∘Zl∘Z5∘Z5∘Ze4∘Za3∘Zaf∘ZdP∘Z5∘Z5∘ZbN∘Z5) ?_;refine z81 L Z (fun u H hH hle=>UT.size_ret _ hH (UT.TA.le M hle)) ?_;refine(ZcU∘Zbo∘Ze∘Zc9∘Z5∘ZbN∘Z5∘Z5∘Z5∘Z5) ?_;refine z8 (xg L Z Z (zm Z) Z Z Z PairsAt.mono (fun u H hH hle _=>C8 l a f e hH (TA.le hl hle))) Z ((Zb1∘Zam) ?_);refine ri 5 rfl fun v5 H5 hs5 ⟨b5,e5,g5⟩=>?_;subst e5;refine ri 40 rfl fun v40 H40 hs40 ⟨c1,c2,c3,c4,r1,e40,d1,d2,d3,d4,d5⟩=>?_;subst e40;have hsB:=hs5.trans hs40;have gg5:=hs40.le _ _ g5
    refine aw L (gf:=233) (caps:=[.pointer (some ⟨c1,0,none⟩),.pointer (some ⟨c2,0,none⟩),.pointer (some ⟨c3,0,none⟩),.pointer (some ⟨c4,0,none⟩)])
     [(1,.pointer (some ⟨b1,0,none⟩)),(2,.pointer (some ⟨b2,0,none⟩)),(3,.pointer (some ⟨b3,0,none⟩)),(4,.pointer (some ⟨b4,0,none⟩)),(5,.pointer (some ⟨b5,0,none⟩)),(6,.int .i64 (a+l.size))]
     (fun pre=>[(77,(ztc pre).res)]) (fun pre x=>[(77,.own (ztc pre).res),(7,.own (Cell (Fz x) 186)),(5,.is (.pointer (some ⟨b5,0,none⟩)))])
     ((Tr.prs l a f e).map encP) stop (fun _=>.ret) rfl rfl rfl ⟨rfl,rfl,rfl,rfl,rfl,rfl,rfl,nm⟩
     (fun pre p hp=>by simp only[m4] at hp;subst hp;exact nu _) hst (fun x hx=>by obtain⟨y,_,rfl⟩:=zo9.1 hx;rfl) E
     (fun u H hH hle=>ihl a f e ha T hH (hle _ _ d1) (hle _ _ d2) (hle _ _ d3) (hle _ _ d4) (d5.le hle)) ?asg ?bd ?dn ?st
    case asg=>
     intro w1 Ln B' l' D' o pre x' hpre hstp hBB;obtain⟨y,rfl⟩:=Aj hpre;refine(Z2∘Zaw∘Zac) ?_;exact zbn nq ⟨Z,Z,Z,nm⟩
    case bd=>
     intro w1 Ln B' l' D' o pre x' hpre hstp hBB;obtain⟨y,rfl⟩:=Aj hpre;have q5:=hBB _ _ gg5;have hpre':=hpre.trans (List.prefix_append ((Tr.prs l a f e).map encP) (((if a+(l.size:Int)>=f/\a+(l.size:Int)<e then [(k,x)] else [])).map encP++(Tr.prs r (a+l.size+1) f e).map encP));cases hb':stop (pre++[encP y])
     ·refine(ZH∘Zt∘ZcB∘Zay) ?_;refine qe (ux (gs:=77) hY hpre' hstp (nh Bool.not hb') Z Z Z Z Z) ((Zr∘Zae∘Za7) ?_);exact zbo nq hb' ⟨Z,nm⟩
     ·refine(ZH∘Zt∘ZcB∘Zay) ?_;refine qe (ux (gs:=77) hY hpre' hstp (nh Bool.not hb') Z Z Z Z Z) ((Zr∘Zw) ?_);exact F3 (Au (Uu nq hb' Z ⟨Z,nm⟩))
    case st=>
     intro l' D' o hstop;exact jj L 77 rfl (fun _ _ h=>h) hsB Z (by rw[Eu _ _ _ hstop hst])
    case dn=>
     intro l' D' o hgo;have htk:=Gj (stop:=stop) ((Tr.prs l a f e).map encP) [] hgo;simp only[mi] at htk;rw[htk] at hgo |-;have gg1:=hsB.le _ _ g1;have gg2:=hsB.le _ _ g2;have gg3:=hsB.le _ _ g3;have gg4:=hsB.le _ _ g4;have ggb:=hsB.le _ _ hb;have ggr:=TA.le hr hsB.le;refine Za7 (h:=?_);refine Zbi (h:=?_)
     refine zbg (fun zte:wl=>[(77,.own (ztc zte).res),(1,.is (.pointer (some ⟨b1,0,none⟩))),(2,.is (.pointer (some ⟨b2,0,none⟩))),(3,.is (.pointer (some ⟨b3,0,none⟩))),(4,.is (.pointer (some ⟨b4,0,none⟩))),(5,.is (.pointer (some ⟨b5,0,none⟩))),(6,.is (.int .i64 (a+l.size)))])
      (fun zte=>stop zte=false/\jn stop [] zte=zte/\zte++(Tr.prs r (a+l.size+1) f e).map encP=(Tr.prs l a f e).map encP++(((if a+(l.size:Int)>=f/\a+(l.size:Int)<e then [(k,x)] else [])).map encP++(Tr.prs r (a+l.size+1) f e).map encP)) ?one ?two
     case one=>
      by_cases hy1:a+(l.size:Int)>=f
      ·by_cases hy2:a+(l.size:Int)<e
       ·rw[na ⟨hy1,hy2⟩] at hY |-;have hpre:(Tr.prs l a f e).map encP++[encP (k,x)]<+:(Tr.prs l a f e).map encP++([(k,x)].map encP++(Tr.prs r (a+l.size+1) f e).map encP):=⟨(Tr.prs r (a+l.size+1) f e).map encP,by simp⟩
        cases hb':stop ((Tr.prs l a f e).map encP++[encP (k,x)])
        ·refine(Ze∘ZeP∘Zl∘Z5∘Zeb∘Zn∘Z5∘Zcw∘Zbg∘Zl∘Z5∘Z5∘ZbN∘ZcR) ?_;refine xq (ux (gs:=77) hY hpre hgo (nh Bool.not hb') Z Z Z Z Z) Z Z ((Za8∘Za3∘Zda) ?_);refine zjg ((Tr.prs l a f e).map encP++[encP (k,x)]) nq ⟨hb',?_,by simp⟩ ⟨Z,Z,Z,Z,Z,Z,Z,nm⟩;rw[iu _ _ _ (by rw[htk];exact hgo),mi];simp only[jn];split<;>rfl
        ·refine(Ze∘ZeP∘Zl∘Z5∘Zeb∘Zn∘Z5∘Zcw∘Zbg∘Zl∘Z5∘Z5∘ZbN∘ZcR) ?_;refine xq (ux (gs:=77) hY hpre hgo (nh Bool.not hb') Z Z Z Z Z) Z Z ((Za8∘Zcc) ?_);refine jj L 77 rfl (fun _ _ h=>h) hsB Z ?_;rw[iu _ _ _ (by rw[htk];exact hgo),mi];simp only[mw,zpk,zpq,jn];rw[na hb']
       ·rw[nc (by rintro⟨_,h⟩;exact hy2 h)];refine(Ze∘ZeP∘Zl∘Z5∘Zeb∘Zn∘Z5∘ZcQ∘Zbg∘Zeu∘Zb5∘Zcq∘Za3∘Zda) ?_;exact zjg ((Tr.prs l a f e).map encP) nq ⟨hgo,htk,by simp⟩ ⟨Z,Z,Z,Z,Z,Z,Z,nm⟩
      ·rw[nc (by rintro⟨h,_⟩;exact hy1 h)];refine(Ze∘ZeP∘Zl∘Z5∘Ze4∘Zl∘Zb5∘Zcq∘Zbg∘Zeu∘Zb5∘Zcq∘Za3∘Zda) ?_;exact zjg ((Tr.prs l a f e).map encP) nq ⟨hgo,htk,by simp⟩ ⟨Z,Z,Z,Z,Z,Z,Z,nm⟩
     case two=>
      rintro zte ⟨hM1,hM2,hM3⟩;rw[<-hM3] at hY |-;refine(Ze∘Ze8∘Z5∘ZbN∘Z5∘Zl∘ZcU∘Z5∘Z5) ?_;refine z8 (xg L Z Z (zm Z) Z Z Z PairsAt.mono (fun u H hH hle _=>C8 r (a+l.size+1) f e hH (TA.le ggr hle))) Z ((Zb1∘Zam) ?_);refine ri 71 rfl fun v71 H71 hs71 ⟨c1,c2,c3,c4,r1,e71,d1,d2,d3,d4,d5⟩=>?_;subst e71;have qq5:=hs71.le _ _ gg5
      have htot:jn stop [] (zte++(Tr.prs r (a+l.size+1) f e).map encP)=zte++jn (fun p=>stop (zte++p)) [] ((Tr.prs r (a+l.size+1) f e).map encP):=by
       rw[iu _ _ _ (by rw[hM2];exact hM1),Cf,mi,mo]
      refine aw L (gf:=233) (caps:=[.pointer (some ⟨c1,0,none⟩),.pointer (some ⟨c2,0,none⟩),.pointer (some ⟨c3,0,none⟩),.pointer (some ⟨c4,0,none⟩)])
       [(5,.pointer (some ⟨b5,0,none⟩))]
       (fun pre=>[(77,(ztc (zte++pre)).res)]) (fun pre x=>[(77,.own (ztc (zte++pre)).res),(8,.own (Cell (Fz x) 186)),(5,.is (.pointer (some ⟨b5,0,none⟩)))])
       ((Tr.prs r (a+l.size+1) f e).map encP) (fun p=>stop (zte++p)) (fun _=>.ret) rfl rfl rfl ⟨by rw[mo];rfl,rfl,nm⟩
       (fun pre p hp=>by simp only[m4] at hp;subst hp;exact nu _) (by show stop (zte++[])=false;rw[mo];exact hM1) (fun x hx=>by obtain⟨y,_,rfl⟩:=zo9.1 hx;rfl) E
       (fun u H hH hle=>ihr (a+l.size+1) f e T T hH (hle _ _ d1) (hle _ _ d2) (hle _ _ d3) (hle _ _ d4) (d5.le hle)) ?asg2 ?bd2 ?dn2 ?st2
      case asg2=>
       intro w1 Ln B' l' D' o pre x' hpre hstp hBB;obtain⟨y,rfl⟩:=Aj hpre;refine(Zv∘Zaw∘Zac) ?_;exact zbn nq ⟨Z,Z,Z,nm⟩
      case bd2=>
       intro w1 Ln B' l' D' o pre x' hpre hstp hBB;obtain⟨y,rfl⟩:=Aj hpre;have q5:=hBB _ _ qq5;have hpre':(zte++pre)++[encP y]<+:zte++(Tr.prs r (a+l.size+1) f e).map encP:=by rw[mn];exact(List.prefix_append_right_inj zte).2 hpre
       cases hb':stop ((zte++pre)++[encP y])
       ·refine(ZH∘ZM∘ZcB∘Zay) ?_;refine qe (ux (gs:=77) hY hpre' hstp (nh Bool.not hb') Z Z Z Z Z) ((Zr∘Zae∘Za7) ?_);exact zbo nq (by rw[<-mn];exact hb') ⟨by rw[<-mn];rfl,nm⟩
       ·refine(ZH∘ZM∘ZcB∘Zay) ?_;refine qe (ux (gs:=77) hY hpre' hstp (nh Bool.not hb') Z Z Z Z Z) ((Zr∘Zw) ?_);exact F3 (Au (Uu nq (by rw[<-mn];exact hb') Z ⟨by rw[<-mn];rfl,nm⟩))
      case st2=>
       intro l' D' o hstop;exact jj L 77 rfl (fun _ _ h=>h) (hsB.trans hs71) Z (by rw[htot])
      case dn2=>
       intro l' D' o hgo2;refine Za7 (h:=?_);exact xu L 77 rfl (fun _ _ h=>h) (hsB.trans hs71) Z (by rw[htot])
abbrev tyP:TypeId:=186
abbrev tyS:TypeId:=183
def flat(l:List (KT×VT)):List Value:=l.flatMap fun y=>pl y.1 y.2
abbrev PS(l:List (KT×VT))(fu:Bool):Value->Heap->Prop:=SlV tyP 6 (flat l) l.length fu
def Ur:∀ (pre:wl) (l:List (KT×VT)),pre<+:l.map encP->∃ m:List (KT×VT),pre=m.map encP/\m.length=pre.length/\pre.flatMap Fz=flat m:=by
 intro pre l h;refine⟨l.take pre.length,?_,?_,?_⟩
 ·rw[zqk];exact(List.prefix_iff_eq_take.1 h)
 ·rw[mg];have:=h.length_le;simp only[my] at this;omega
 ·conv=>lhs;rw[List.prefix_iff_eq_take.1 h,<-zqk]
  generalize l.take pre.length=m
  induction m with
  | nil=>rfl
  | cons y m ih=>simp only[mw,zp0,flat] at ih |-;rw[ih];rfl
def Nw(xs:wl):jn (fun _=>false) [] xs=xs:=by
 have:=Gj (stop:=fun _=>false) xs [] rfl;simpa using this
def zeh(l:List (KT×VT))(fu:Bool)(hB:zth B w)(hv:PS l fu v B):Ret zti 178 [v] w B (PS l true):=by
 refine yn Tryz.func178 Z Tryz.ntmps178 (np Z) hB (k8 0 (PS l fu) Z ns hv ((Z4∘Zk∘Zg∘Zg∘ZdO∘Zcp) ?_));refine yj1 L [.tmp 2] fun u H hH hle=>?_;exact fun v hv=>hv
def zew(l:List (KT×VT))(hl:l.length<1099511627776){x:Value}{gf:Nat}{caps:List Value}(hB:zth B w)(hx:(SlR tyP 6 0 []).P x B w C)(hC:ZCB C w B)
  (hfn:L.fn gf=some ()) (hit:∀ u H,zth H u->B.Le H->zms zti gf caps u H (l.map encP)):
  RetL zti 179 [x,.func (.func gf) #[] caps.toArray] w B C (fun v H _=>PS l false v H):=by
 refine Kg 0 (x:=x) (SlR tyP 6 0 []) Z Tryz.func179 Z Tryz.ntmps179 (np Z) hB hx hC ?_;refine Bz 0 13 _ Z SlR.shape fun y hy=>?_;obtain⟨p,c,rfl⟩:=hy;refine(Zbu∘Zba∘Zdl) ?_;refine lh 2 rfl fun b2 hb2=>?_;refine F7 13 [] Z Z ?_
 refine aw L (gf:=gf) (caps:=caps) [(2,.pointer (some ⟨b2,0,none⟩))] (fun pre=>[(13,zbu b2 tyS (SlR tyP 6 pre.length (pre.flatMap Fz)))])
  (fun pre x=>[(13,.own (zbu b2 tyS (SlR tyP 6 pre.length (pre.flatMap Fz)))),(2,.is (.pointer (some ⟨b2,0,none⟩))),(5,.own (Cell (Fz x) tyP))])
  (l.map encP) (fun _=>false) (fun _=>.ret) rfl rfl hfn ⟨rfl,rfl,nm⟩
  (fun pre p hp=>by simp only[m4] at hp;subst hp;exact nu _) rfl (fun x hx=>by obtain⟨y,_,rfl⟩:=zo9.1 hx;rfl) E hit ?asg ?bd ?dn ?st
 case asg=>
  intro w1 Ln B' l' D' o pre x' hpre hstp hBB;obtain⟨y,rfl⟩:=Aj hpre;refine(Z9∘Zaw∘Zac) ?_;exact zbn nq ⟨Z,Z,Z,nm⟩
 case bd=>
  intro w1 Ln B' l' D' o pre x' hpre hstp hBB;obtain⟨y,rfl⟩:=Aj hpre;have hlen:=hpre.length_le;simp only[nr,my,nz,mz] at hlen;refine Zam (h:=?_);refine tn 13 _ Z SlR.shape fun z hz=>?_;obtain⟨p,c,rfl⟩:=hz;refine(ZK∘ZbR) ?_;refine f8 8 13 rfl rfl ((Zay∘ZV) ?_);refine qe (w7 L rfl rfl rfl (rf rfl) rfl zlo rfl rfl T T) ?_;refine cw 11 13 _ rfl SlR.shape fun z hz=>?_;obtain⟨p',c',rfl⟩:=hz;refine(Zdg∘Zac∘Za7) ?_;refine F8 13 [] Z Z (zbo nq Z ⟨?_,nm⟩);rw[zpl,nr];rfl
 case st=>
  intro l' D' o h;cases h
 case dn=>
  intro l' D' o _;rw[Nw];refine Za7 (h:=?_);refine Zbi (h:=?_);refine tn 13 _ Z SlR.shape fun z hz=>?_;obtain⟨p,c,rfl⟩:=hz;refine(ZcI∘ZbR∘Zc) ?_;refine Sm 4 13 rfl Z (uq 4 rfl ?_);refine zbh L (rs:=[.tmp 4]) Z (fun _ _ h=>h) nq fun O' u H hH hle=>?_;obtain⟨m,h1,h2,h3⟩:=Ur _ l (List.prefix_refl _)
  have hm:m=l:=by
   have:=List.map_inj_right (f:=encP) (fun a b h=>by
    simp only[encP,List.cons.injEq,Value.agg.injEq,and_true] at h;have h:=nh Array.toList h;simp at h
    first | exact Prod.ext h.1 h.2 | exact Prod.ext h.1 (Prod.ext (Prod.ext h.2.1 h.2.2.1) h.2.2.2) | exact Prod.ext (Prod.ext (Prod.ext h.1 h.2.1) h.2.2.1) h.2.2.2 | exact Prod.ext (Prod.ext (Prod.ext (Prod.ext h.1 h.2.1) h.2.2.1) (Prod.ext (Prod.ext h.2.2.2.1 h.2.2.2.2.1) h.2.2.2.2.2)) rfl) |>.1 h1
   exact this.symm
  subst hm;rw[h3];simp only[my];exact fun v hv=>hv
def PS.mono{l:List (KT×VT)}:Kn.mono (.sat (PS l fu)):=ns
def Ut{t:Tr KT VT}{f e:Int}{x v:Value}(hB:zth B w)(hx:(SlR tyP 6 0 []).P x B w C)(hC:ZCB C w B)(hv:PairsAt t 0 f e v B)(hs:t.size<1099511627776):
  RetL zti 179 [x,v] w B C (fun v H _=>PS (Tr.prs t 0 f e) false v H):=by
 obtain⟨b1,b2,b3,b4,root,rfl,h1,h2,h3,h4,h5⟩:=hv;have hlen:=Tr.prs_length_le t 0 f e;exact zew (Tr.prs t 0 f e) T hB hx hC Z fun u H hH hle=>zdx t 0 f e (zqy _) T hH (hle _ _ h1) (hle _ _ h2) (hle _ _ h3) (hle _ _ h4) (h5.le hle)
def Xg(t:Tr KT VT){a f e:Int}:(Tr.prs t a f e).length<=t.size:=Tr.prs_length_le t a f e
def rangeL(t:Tr KT VT)(f e:Int):List (KT×VT):=if max f 0>=min e t.size then [] else Tr.prs t 0 (max f 0) (min e t.size)
set_option maxRecDepth 10000 in
def Xd{t:Tr KT VT}(f e:Int)(hB:zth B w)(hv:TA t root B)(hs:t.size<1099511627776):
  Ret zti 112 [.agg #[fv,root],.int .i64 f,.int .i64 e] w B (PS (rangeL t f e) true):=by
 refine yn Tryz.func112 Z Tryz.ntmps112 (np Z) hB ?_;unfold rangeL;by_cases h:max f 0>=min e t.size
 ·rw[na h];refine(Zu∘Zb7) ?_;refine z7 (sd Z Z Z Z Z) Z ((Za∘ZbL∘ZeO) ?_);refine z7 (Xw Z Z Z Z Z) Z ((ZaP∘ZaR∘Zb3∘ZD∘ZK∘Zc) ?_);refine yj1 L [.tmp 6] fun u H hH hle=>?_;exact(SlV.nil (e:=tyP))
 ·rw[nc h];have hlen:=Xg t (a:=0) (f:=max f 0) (e:=min e t.size);have e1:(if (0:Int)>f then 0 else f)=max f 0:=T;have e2:(if (t.size:Int)<e then (t.size:Int) else e)=min e t.size:=T;refine(Zu∘Zb7) ?_;refine z7 (sd Z Z Z Z M) Z ((Za∘ZbL∘ZeO) ?_);refine z7 (Xw Z Z Z Z M) Z ((ZaP∘ZaR∘Za4∘Zm) ?_);obtain⟨m,hm⟩:∃ m:Nat,min e (t.size:Int)-max f 0=m:=⟨(min e (t.size:Int)-max f 0).toNat,by omega⟩
  refine qo (id:=4) [(25,[19])] ki J (Zn (h:=?_));refine z8 (Qx Z Z Z Z (xb T T)) Z (z8 (zc5 L _ Z Z Z zlo Z Z M T (by simp only[maxLen];omega)) Z ?_);refine(Zbk∘Zn) ?_;refine z8 (xg L Z Z (zm Z) Z Z Z PairsAt.mono (fun u H hH hle _=>C8 t 0 (max f 0) (min e t.size) hH (TA.le hv hle))) Z (xq (zc9 (q:=19) (cap:=[]) L Z Z Z Z Z PS.mono (fun u H C x hH hle hx hC v hv=>Ut hH hx hC hv hs)) Z Z (z8 (xg L Z Z (zm Z) Z Z Z PS.mono (fun u H hH hle _ v hv=>zeh _ _ hH hv)) Z ((Zc4∘Zb1) ?_)));refine yj1 L [.tmp 6] fun u H hH hle=>?_;exact fun v hv=>hv
end Go.V.UT
namespace Go.V.UT
abbrev MF(cf:Nat)(t:Tr KT VT):Value->Heap->Prop:=MA (.func (.func cf) #[] #[]) t
def mput_m(hc:Cmp cf c)(k:KT)(x:VT){t:Tr KT VT}(hB:zth B w)(hv:MF cf t v B)(hs:t.size+1<1099511627776):
  Ret zti 173 [v,kv k,vv x] w B (MF cf (Tr.put c k x t)):=by
 obtain⟨p,rfl,h⟩:=hv;exact zdj hc k x hB h hs
def mdrop_m(hc:Cmp cf c)(k:KT){t:Tr KT VT}(hB:zth B w)(hv:MF cf t v B)(hs:t.size<1099511627776):
  Ret zti 172 [v,kv k] w B (MF cf (if (Tr.drop c k t).2=true then (Tr.drop c k t).1 else t)):=by
 obtain⟨p,rfl,h⟩:=hv;exact Yo hc k hB h hs
def len_m{t:Tr KT VT}{v:Value}(hB:zth B w)(hv:MA fv t v B)(hn:t.size=n):Ret zti 45 [v] w B (fun v _=>v=.int .i64 n):=by
 obtain⟨p,rfl,h⟩:=hv;subst hn;exact len_ret hB h
def get_m(hc:Cmp cf c)(k:KT){t:Tr KT VT}{v:Value}(hB:zth B w)(hv:MF cf t v B){o:Option VT}(ho:Tr.get c k t=o):
  Ret zti 64 [v,kv k] w B (fun v _=>v=tup (zn9 o)):=by
 obtain⟨p,rfl,h⟩:=hv;subst ho;exact zid hc k hB h
def rank_m(hc:Cmp cf c)(k:KT){t:Tr KT VT}{v:Value}(hB:zth B w)(hv:MF cf t v B)(hs:t.size<1099511627776)(hn:Tr.rank c k t=n):
  Ret zti 134 [v,kv k] w B (fun v _=>v=.int .i64 n):=by
 obtain⟨p,rfl,h⟩:=hv;subst hn;exact zc0 hc k hB h hs
def at_m{t:Tr KT VT}(i:Int){v:Value}(hB:zth B w)(hv:MA fv t v B)(hs:t.size<1099511627776){o:Option (KT×VT)}(ho:atO t i=o):
  Ret zti 135 [v,.int .i64 i] w B (fun v _=>v=tup (atV o)):=by
 obtain⟨p,rfl,h⟩:=hv;subst ho;exact at_ret i hB h hs
def range_m{t:Tr KT VT}(f e:Int)(hB:zth B w)(hv:MA fv t v B)(hs:t.size<1099511627776){l:List (KT×VT)}(hl:rangeL t f e=l):
  Ret zti 112 [v,.int .i64 f,.int .i64 e] w B (PS l true):=by
 obtain⟨p,rfl,h⟩:=hv;subst hl;exact Xd f e hB h hs
end Go.V.UT
end
