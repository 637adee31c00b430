/- Texts on the way to WiresKnown, part 2: one behind another. -/
import Derived.Test.YtefilnnomholbaaGreatWiresKnownM1
import Derived.Shelf.Small.Strs
import Derived.Shelf.Small.Wraps
import Derived.Shelf.Utf8.RuneCount
import Derived.Shelf.Strings.Shaped
import Derived.Shelf.Strings.Split
import Derived.Shelf.Strings.RuneCount
import Derived.Test.YtefilnnomholbaaGreatProg
import Derived.Shelf.SlSortCmp.NoneTotal
import Derived.Lib.AppendZerosOnto
import Derived.Lib.Overlaps
set_option linter.unusedVariables false
set_option linter.unusedSimpArgs false
set_option maxRecDepth 20000
set_option maxHeartbeats 8000000
set_option linter.defProp false
open Go.Proofs Go.RowKit
section
variable{u w:Go.World}{B B0 H:Go.V.Heap}{e t t' ti ty:Go.TypeId}{ag fu:Bool}{sv v:Go.Value}{a b c r s:ByteArray}{x y:Go.Operand}{by_ d f i j m n nn off q:Nat}{ls ys:List ByteArray}{P:Go.Program}{F:Go.V.Fr}{O:Go.V.Boxes}{ops:Array Go.Oper}{κ:Go.V.Kap}{pos:String}{aft:Array Go.Edge}{g:Option (Nat×Bool)}{fp:Nat->Nat->Prop}{os:List Go.Oper}{Q:Go.Exit->Go.Act->Go.World->Prop}{k kl:Go.IntKind}{p:Int}{cap cs cur cur' news rest xs:List Go.Value}{K α:Type}{o:Go.Oper}{args:Array Go.Operand}{at_:Array Go.TypeId}{C:Nat->Prop}{φ:Go.Value->Go.V.Heap->Prop}{r1 r2:Go.V.Res}{A Y:Prop}
section
open Go.V
attribute [local irreducible] Has N Par Ret RetL Src StepOK V VO X
namespace Go.V
structure _root_.Wr(B:Prop):Prop where
 h:B
def _root_.Za(t:Wr Y->A:=by intro h;refine z8 (z9 Z Z Z) Z ?_;exact h.1)(h:Y):A:=t ⟨h⟩
def _root_.Zp(t:Wr Y->A:=by intro h;refine z8 (zj Z Z Z) Z ?_;exact h.1)(h:Y):A:=t ⟨h⟩
def _root_.Ze(t:Wr Y->A:=by intro h;refine zk ?_;exact h.1)(h:Y):A:=t ⟨h⟩
def _root_.Zbq(t:Wr Y->A:=by intro h;refine zn ?_;exact h.1)(h:Y):A:=t ⟨h⟩
def _root_.ZS(t:Wr Y->A:=by intro h;refine zm ?_;exact h.1)(h:Y):A:=t ⟨h⟩
def _root_.Zai(t:Wr Y->A:=by intro h;refine z8 (qv Z Z Z Z (nf I)) Z ?_;exact h.1)(h:Y):A:=t ⟨h⟩
def _root_.ZeK(t:Wr Y->A:=by intro h;refine z8 (zw Z (zo Z) Z) Z ?_;exact h.1)(h:Y):A:=t ⟨h⟩
def _root_.Zem(t:Wr Y->A:=by intro h;refine zx Z ?_;exact h.1)(h:Y):A:=t ⟨h⟩
def _root_.Zg(t:Wr Y->A:=by intro h;refine z8 (qm Z Z Z Z) Z ?_;exact h.1)(h:Y):A:=t ⟨h⟩
def _root_.ZeL(t:Wr Y->A:=by intro h;refine zi (id:=0) ?_;exact h.1)(h:Y):A:=t ⟨h⟩
def _root_.Z4(t:Wr Y->A:=by intro h;refine zi (id:=1) ?_;exact h.1)(h:Y):A:=t ⟨h⟩
def _root_.ZbE(t:Wr Y->A:=by intro h;refine qg Z ?_;exact h.1)(h:Y):A:=t ⟨h⟩
def _root_.Z0(t:Wr Y->A:=by intro h;refine z8 (qv Z Z Z Z (ng I)) Z ?_;exact h.1)(h:Y):A:=t ⟨h⟩
def _root_.ZcY(t:Wr Y->A:=by intro h;refine qd ?_;exact h.1)(h:Y):A:=t ⟨h⟩
def _root_.ZM(t:Wr Y->A:=by intro h;refine zi (id:=2) ?_;exact h.1)(h:Y):A:=t ⟨h⟩
def _root_.ZbZ(t:Wr Y->A:=by intro h;refine z8 (qy Z Z Z Z (yz I I)) Z ?_;exact h.1)(h:Y):A:=t ⟨h⟩
def _root_.ZR(t:Wr Y->A:=by intro h;refine zi (id:=3) ?_;exact h.1)(h:Y):A:=t ⟨h⟩
def _root_.ZD(t:Wr Y->A:=by intro h;refine z8 (yn Z Z Z Z (ng I)) Z ?_;exact h.1)(h:Y):A:=t ⟨h⟩
def _root_.Z9(t:Wr Y->A:=by intro h;refine zi (id:=4) ?_;exact h.1)(h:Y):A:=t ⟨h⟩
def _root_.Zam(t:Wr Y->A:=by intro h;refine qp ?_;exact h.1)(h:Y):A:=t ⟨h⟩
def _root_.ZN(t:Wr Y->A:=by intro h;refine z8 (yn Z Z Z Z (nf I)) Z ?_;exact h.1)(h:Y):A:=t ⟨h⟩
def _root_.ZP(t:Wr Y->A:=by intro h;refine zi (id:=6) ?_;exact h.1)(h:Y):A:=t ⟨h⟩
def _root_.ZY(t:Wr Y->A:=by intro h;refine zi (id:=5) ?_;exact h.1)(h:Y):A:=t ⟨h⟩
def _root_.Z8(t:Wr Y->A:=by intro h;refine zi (id:=7) ?_;exact h.1)(h:Y):A:=t ⟨h⟩
def _root_.Zd9(t:Wr Y->A:=by intro h;refine y9 ?_;exact h.1)(h:Y):A:=t ⟨h⟩
def _root_.Zaq(t:Wr Y->A:=by intro h;refine z8 (Bt L Z Z Z E) Z ?_;exact h.1)(h:Y):A:=t ⟨h⟩
def _root_.ZK(t:Wr Y->A:=by intro h;refine zi (id:=8) ?_;exact h.1)(h:Y):A:=t ⟨h⟩
def _root_.ZQ(t:Wr Y->A:=by intro h;refine zi (id:=9) ?_;exact h.1)(h:Y):A:=t ⟨h⟩
def _root_.Zay(t:Wr Y->A:=by intro h;refine yd ?_;exact h.1)(h:Y):A:=t ⟨h⟩
def _root_.Zea(t:Wr Y->A:=by intro h;refine zih ?_;exact h.1)(h:Y):A:=t ⟨h⟩
def _root_.Zan(t:Wr Y->A:=by intro h;refine z8 (zei L Z Z Z Z) Z ?_;exact h.1)(h:Y):A:=t ⟨h⟩
def _root_.Zfg(t:Wr Y->A:=by intro h;refine yx ?_;exact h.1)(h:Y):A:=t ⟨h⟩
def _root_.Z1(t:Wr Y->A:=by exact fun h=>(ZS∘Zbq) h.1)(h:Y):A:=t ⟨h⟩
def _root_.Zf(t:Wr Y->A:=by exact fun h=>(Z1∘Ze) h.1)(h:Y):A:=t ⟨h⟩
def _root_.Zc(t:Wr Y->A:=by exact fun h=>(Zp∘Zf) h.1)(h:Y):A:=t ⟨h⟩
def _root_.Zb(t:Wr Y->A:=by exact fun h=>(Za∘Za) h.1)(h:Y):A:=t ⟨h⟩
def _root_.Zb5(t:Wr Y->A:=by exact fun h=>(Zbq∘Ze) h.1)(h:Y):A:=t ⟨h⟩
def _root_.Za9(t:Wr Y->A:=by exact fun h=>(Z1∘Zem) h.1)(h:Y):A:=t ⟨h⟩
def _root_.Zae(t:Wr Y->A:=by exact fun h=>(ZcY∘Zb5) h.1)(h:Y):A:=t ⟨h⟩
def _root_.ZL(t:Wr Y->A:=by exact fun h=>(Ze∘ZeL) h.1)(h:Y):A:=t ⟨h⟩
def _root_.Zd(t:Wr Y->A:=by exact fun h=>(Zp∘Z1) h.1)(h:Y):A:=t ⟨h⟩
def _root_.ZE(t:Wr Y->A:=by exact fun h=>(Z1∘ZbE) h.1)(h:Y):A:=t ⟨h⟩
def _root_.Zi(t:Wr Y->A:=by exact fun h=>(Zc∘Ze) h.1)(h:Y):A:=t ⟨h⟩
def _root_.Zl(t:Wr Y->A:=by exact fun h=>(Za9∘Zae) h.1)(h:Y):A:=t ⟨h⟩
def _root_.ZF(t:Wr Y->A:=by exact fun h=>(Zam∘Ze) h.1)(h:Y):A:=t ⟨h⟩
def _root_.Zr(t:Wr Y->A:=by exact fun h=>(ZE∘Ze) h.1)(h:Y):A:=t ⟨h⟩
def _root_.ZcZ(t:Wr Y->A:=by exact fun h=>(Zd9∘Zfg) h.1)(h:Y):A:=t ⟨h⟩
def _root_.ZdM(t:Wr Y->A:=by exact fun h=>(Zea∘Zd9) h.1)(h:Y):A:=t ⟨h⟩
def _root_.Zc1(t:Wr Y->A:=by exact fun h=>(ZeK∘ZeK) h.1)(h:Y):A:=t ⟨h⟩
def _root_.Zaa(t:Wr Y->A:=by exact fun h=>(Zi∘Z4) h.1)(h:Y):A:=t ⟨h⟩
def _root_.Za2(t:Wr Y->A:=by exact fun h=>(ZdM∘ZcZ) h.1)(h:Y):A:=t ⟨h⟩
def _root_.ZbF(t:Wr Y->A:=by exact fun h=>(Zae∘ZF) h.1)(h:Y):A:=t ⟨h⟩
def _root_.Zu(t:Wr Y->A:=by exact fun h=>(ZR∘Za) h.1)(h:Y):A:=t ⟨h⟩
def _root_.ZaB(t:Wr Y->A:=by exact fun h=>(Zay∘Zbq) h.1)(h:Y):A:=t ⟨h⟩
def _root_.ZeX(t:Wr Y->A:=by exact fun h=>(Zf∘ZbE) h.1)(h:Y):A:=t ⟨h⟩
def _root_.Zfh(t:Wr Y->A:=by exact fun h=>(Zai∘ZeX) h.1)(h:Y):A:=t ⟨h⟩
def _root_.Zx(t:Wr Y->A:=by exact fun h=>(Zfh∘ZbF) h.1)(h:Y):A:=t ⟨h⟩
def _root_.Zz(t:Wr Y->A:=by exact fun h=>(Zb∘Za) h.1)(h:Y):A:=t ⟨h⟩
def _root_.ZZ(t:Wr Y->A:=by exact fun h=>(Za9∘ZcY) h.1)(h:Y):A:=t ⟨h⟩
def _root_.Z6(t:Wr Y->A:=by exact fun h=>(Zl∘Ze) h.1)(h:Y):A:=t ⟨h⟩
def _root_.Zar(t:Wr Y->A:=by exact fun h=>(ZY∘Za) h.1)(h:Y):A:=t ⟨h⟩
def _root_.Zc2(t:Wr Y->A:=by exact fun h=>(Za∘Zc1) h.1)(h:Y):A:=t ⟨h⟩
def _root_.ZeM(t:Wr Y->A:=by exact fun h=>(Za2∘Zb5) h.1)(h:Y):A:=t ⟨h⟩
def _root_.ZaC(t:Wr Y->A:=by exact fun h=>(Zaa∘Za) h.1)(h:Y):A:=t ⟨h⟩
def _root_.Zct(t:Wr Y->A:=by exact fun h=>(Za∘ZS) h.1)(h:Y):A:=t ⟨h⟩
def _root_.ZcD(t:Wr Y->A:=by exact fun h=>(Z1∘Zam) h.1)(h:Y):A:=t ⟨h⟩
def _root_.Zc5(t:Wr Y->A:=by exact fun h=>(ZeK∘Zg) h.1)(h:Y):A:=t ⟨h⟩
def _root_.ZeY(t:Wr Y->A:=by exact fun h=>(Zf∘Zem) h.1)(h:Y):A:=t ⟨h⟩
def _root_.ZeZ(t:Wr Y->A:=by exact fun h=>(Z0∘ZeY) h.1)(h:Y):A:=t ⟨h⟩
def _root_.ZaK(t:Wr Y->A:=by exact fun h=>(ZeZ∘ZeM) h.1)(h:Y):A:=t ⟨h⟩
def _root_.ZdA(t:Wr Y->A:=by exact fun h=>(Za∘ZcD) h.1)(h:Y):A:=t ⟨h⟩
def _root_.Zbh(t:Wr Y->A:=by exact fun h=>(ZbZ∘Zct) h.1)(h:Y):A:=t ⟨h⟩
def _root_.Zbr(t:Wr Y->A:=by exact fun h=>(Zc2∘Zc5) h.1)(h:Y):A:=t ⟨h⟩
def _root_.Zbx(t:Wr Y->A:=by exact fun h=>(Ze∘Z9) h.1)(h:Y):A:=t ⟨h⟩
def _root_.Zb6(t:Wr Y->A:=by exact fun h=>(Zc2∘Zc1) h.1)(h:Y):A:=t ⟨h⟩
def _root_.ZbG(t:Wr Y->A:=by exact fun h=>(ZL∘ZaC) h.1)(h:Y):A:=t ⟨h⟩
def _root_.ZbH(t:Wr Y->A:=by exact fun h=>(Zr∘ZM) h.1)(h:Y):A:=t ⟨h⟩
def _root_.Zca(t:Wr Y->A:=by exact fun h=>(ZZ∘ZaB) h.1)(h:Y):A:=t ⟨h⟩
def check_ret(s:ByteArray)(hs:s.size<=9223372036854775807)(hB:zpk B w):
  Ret zpl 205 [.string s] w B (fun v _=>v=.int .i64 (chk s)):=by
 refine yf Tryz.func205 Z Tryz.ntmps205 (np Z) hB ?_;by_cases h1:1<=s.size
 ·by_cases h2:s.size<=16
  ·refine(ZbG∘Zan∘Z0∘Zb∘Zan∘ZD∘Zg∘Z6∘Zu∘Zan∘ZdA) ?_
   refine xo (fun k:Nat=>[(0,.is (.string s)),(13,.is (.int .i64 s.size)),(14,.is (.int .i64 k))])
    (fun k=>k<=s.size/\(s.data.toList.take k).all okB=true) (fun k=>s.size-k) 0 ⟨mf _,by simp⟩ ⟨rfl,rfl,rfl,nm⟩ ?_
   rintro k ⟨hk,hall⟩;by_cases hlt:k<s.size
   ·obtain⟨c,hc⟩:=getElem?_lt hlt;have hu:=zdc c;by_cases a1:(c.toNat:Int)<97
    ·by_cases a2:(c.toNat:Int)<48
     ·refine(Zbx∘Zx∘Zar∘Zc∘ZP∘Zb∘Zaq∘Zai∘Zb6∘Zg∘Zz∘Zaq∘Zai∘Zb6∘Zg∘Zg∘Zr∘Z8∘Zd) ?_;refine ye1 L [.tmp 2] fun u H hH hle=>?_;exact nh _ (Ef hc (zhb a1 a2)).symm
     ·by_cases a3:57<(c.toNat:Int)
      ·refine(Zbx∘Zx∘Zar∘Zc∘ZP∘Zb∘Zaq∘Zai∘Zb6∘Zg∘Zz∘Zaq∘Z0∘Zz∘Zaq∘ZN∘Zg∘Zg∘Zr∘Z8∘Zd) ?_;refine ye1 L [.tmp 2] fun u H hH hle=>?_;exact nh _ (Ef hc (zha a1 a3)).symm
      ·refine(Zbx∘Zx∘Zar∘Zc∘ZP∘Zb∘Zaq∘Zai∘Zb6∘Zg∘Zz∘Zaq∘Z0∘Zz∘Zaq∘ZD∘Zg∘Zg∘Zca∘ZK∘Zbh) ?_;refine ym (k+1) ⟨hlt,Af hc (zg7 a2 a3) hall⟩ I ⟨Z,Z,Z,nm⟩
    ·by_cases a4:122<(c.toNat:Int)
     ·have a5:57<(c.toNat:Int):=I;refine(Zbx∘Zx∘Zar∘Zc∘ZP∘Zb∘Zaq∘Z0∘Zz∘Zaq∘ZN∘Zg∘Zz∘Zaq∘Z0∘Zz∘Zaq∘ZN∘Zg∘Zg∘Zr∘Z8∘Zd) ?_;refine ye1 L [.tmp 2] fun u H hH hle=>?_;exact nh _ (Ef hc (zg9 a4)).symm
     ·refine(Zbx∘Zx∘Zar∘Zc∘ZP∘Zb∘Zaq∘Z0∘Zz∘Zaq∘ZD∘Zg∘Zb6∘Zc1∘Zc1∘Zc1∘Zg∘Zca∘ZK∘Zbh) ?_;refine ym (k+1) ⟨hlt,Af hc (zg8 a1 a4) hall⟩ I ⟨Z,Z,Z,nm⟩
   ·refine(Zbx∘ZaK∘ZQ∘Zd) ?_;refine ye1 L [.tmp 2] fun u H hH hle=>?_;exact nh _ (Nl h1 h2 (Pw I hall)).symm
  ·refine(ZbG∘Zan∘Z0∘Zb∘Zan∘ZN∘Zg∘ZbH∘Zd) ?_;refine ye1 L [.tmp 2] fun u H hH hle=>?_;exact nh _ (Nk I).symm
 ·refine(ZbG∘Zan∘Zai∘Zbr∘ZbH∘Zd) ?_;refine ye1 L [.tmp 2] fun u H hH hle=>?_;exact nh _ (Nk I).symm
def _root_.Zk(t:Wr Y->A:=by intro h;refine z8 (qe Z Z Z) Z ?_;exact h.1)(h:Y):A:=t ⟨h⟩
def _root_.ZG(t:Wr Y->A:=by intro h;refine z8 (yg Z Z Z Z (ng I)) Z ?_;exact h.1)(h:Y):A:=t ⟨h⟩
def _root_.Zdu(t:Wr Y->A:=by intro h;refine z8 (yj L Z Z Z Z) Z ?_;exact h.1)(h:Y):A:=t ⟨h⟩
def _root_.Zco(t:Wr Y->A:=by intro h;refine z8 (yg Z Z Z Z (nf I)) Z ?_;exact h.1)(h:Y):A:=t ⟨h⟩
def _root_.Zab(t:Wr Y->A:=by intro h;refine z8 (yi L _ Z Z Z Z (by first | omega | decide) E) Z ?_;exact h.1)(h:Y):A:=t ⟨h⟩
def _root_.ZcN(t:Wr Y->A:=by intro h;refine z8 (Ki L Z Z Z Z Z) Z ?_;exact h.1)(h:Y):A:=t ⟨h⟩
def _root_.Zen(t:Wr Y->A:=by intro h;refine z81 L Z (fun u H hH _=>check_ret _ (by first | omega | decide) hH) ?_;exact h.1)(h:Y):A:=t ⟨h⟩
def _root_.Zo(t:Wr Y->A:=by exact fun h=>(Zk∘Zdu) h.1)(h:Y):A:=t ⟨h⟩
def _root_.Z2(t:Wr Y->A:=by exact fun h=>(Z9∘Za) h.1)(h:Y):A:=t ⟨h⟩
def _root_.ZH(t:Wr Y->A:=by exact fun h=>(ZP∘Za) h.1)(h:Y):A:=t ⟨h⟩
def _root_.Zao(t:Wr Y->A:=by exact fun h=>(Zco∘Zr) h.1)(h:Y):A:=t ⟨h⟩
def _root_.Zby(t:Wr Y->A:=by exact fun h=>(Zc∘Zar) h.1)(h:Y):A:=t ⟨h⟩
def _root_.Zcb(t:Wr Y->A:=by exact fun h=>(Zo∘ZdA) h.1)(h:Y):A:=t ⟨h⟩
def gl:List ByteArray->Int
 | []=>0
 | s::l=>if chk s=0 then gl l else chk s
def Lr:∀ (l:List ByteArray) (s:ByteArray),gl l=0->gl (l++[s])=chk s
 | [],s,_=>by simp only[mh,gl];split<;>simp_all
 | x::l,s,h=>by
  simp only[zll,gl] at h |-;by_cases hx:chk x=0
  ·rw[na hx] at h |-;exact Lr l s h
  ·rw[nc hx] at h;exact ni h hx
def Px:∀ (l:List ByteArray) (k:Nat) (s:ByteArray),gl (l.take k)=0->l[k]?=some s->chk s≠0->gl l=chk s
 | [],k,s,_,h,_=>by simp at h
 | x::l,0,s,_,h,hc=>by simp at h;subst h;simp [gl,hc]
 | x::l,k+1,s,ha,h,hc=>by
  simp only[zna,gl] at ha;simp only[zm1] at h;by_cases hx:chk x=0
  ·rw[na hx] at ha;simp only[gl,na hx];exact Px l k s ha h hc
  ·rw[nc hx] at ha;exact ni ha hx
def Xo(l:List ByteArray)(hl:∀ s∈l,s.size<=9223372036854775807)(hlen:l.length<=1000){v:Value}(hB:zpk B w)(hv:SlV e 1 (l.map Value.string) l.length fu v B):
  Ret zpl 236 [v] w B (fun v _=>v=.int .i64 (gl l)):=by
 refine yf Tryz.func236 Z Tryz.ntmps236 (np Z) hB (ju 0 (SlV e 1 (l.map Value.string) l.length fu) Z ma hv ((ZL∘Zaa∘Zcb) ?_))
 refine xo (fun k:Nat=>[(6,.sat (SlV e 1 (l.map Value.string) l.length fu)),(7,.is (.int .i64 l.length)),(8,.is (.int .i64 k))])
  (fun k=>k<=l.length/\gl (l.take k)=0) (fun k=>l.length-k) 0 ⟨mf _,by simp [gl]⟩ ⟨rfl,rfl,rfl,nm⟩ ?_
 rintro k ⟨hk,hall⟩;by_cases hlt:k<l.length
 ·have hs:l[k]?=some l[k]:=zlq hlt;generalize l[k]=s at hs;have hsz:s.size<=9223372036854775807:=hl s (zlg hs);have hc:=zgr hs;by_cases h0:chk s=0
  ·refine(Ze∘ZM∘Zx∘ZR∘Zab∘ZcN∘Zc∘Z2∘Zen∘Zby∘ZG∘Zca∘Z8∘Zbh) ?_;refine ym (k+1) ⟨hlt,?_⟩ I ⟨Z,Z,Z,nm⟩;rw[zls,hs];show gl (l.take k++[s])=0;rw[Lr _ _ hall,h0]
  ·refine(Ze∘ZM∘Zx∘ZR∘Zab∘ZcN∘Zc∘Z2∘Zen∘Zby∘Zao∘ZH∘Zd) ?_;refine ye1 L [.tmp 2] fun u H hH hle=>?_;exact nh _ (Px l k s hall hs h0).symm
 ·refine(Ze∘ZM∘ZaK∘ZK∘Zd) ?_;refine ye1 L [.tmp 2] fun u H hH hle=>?_;have:l.take k=l:=zle I;exact nh _ (this ▸ hall).symm
end Go.V
end
namespace Go.Proofs
open Go.Shelf
def Tryz.ren:Go.Shelf.Ren:=⟨fun | 104=>130 | 106=>238 | 125=>224 | 128=>278 | 129=>279 | 137=>258 | 138=>262 | 143=>202 | 144=>132 | 145=>131 | 195=>302 | 207=>259 | 211=>200 | 213=>286 | 217=>298 | 218=>303 | 219=>260 | 220=>201 | 224=>300 | 225=>299 | 265=>312 | 266=>315 | 267=>301 | 314=>316 | n=>n,fun | 24=>241 | 46=>274 | 51=>387 | 53=>63 | 59=>243 | 146=>410 | n=>n,fun | 1=>0 | n=>n⟩
def Tryz.s1_3(w:World)(h:w.ShapedOpen zpl):∃ m,w.cell? ⟨Tryz.ren.g 1,0,none⟩=some (.int .i64 m):=Go.Proofs.cell_of_shapedOpen_int (zero:=#[.int .i64 0]) (t:=3) h (of_decide_eq_true (by kernel_rfl)) (by kernel_rfl) rfl (by kernel_rfl) (by kernel_rfl) Tryz.underlying3
def Tryz.lays213:Go.Proofs.Lays.n213 zpl Tryz.ren:=by constructor<;>intros<;>kernel_rfl
def Tryz.bytealg_CompareString(a b:ByteArray)(w:World):
  Calls zpl 286 #[.string a,.string b] w fun e w'=>e=.returned (.int .i64 (Lib.compareBytes a.data.toList b.data.toList))/\w'=w:=Any.bytealg_CompareString Tryz.lays213 a b w
def Tryz.lays106:Go.Proofs.Lays.n106 zpl Tryz.ren:=by constructor<;>intros<;>kernel_rfl
def Tryz.strings_Compare(a b:ByteArray)(w:World):
  Calls zpl 238 #[.string a,.string b] w fun e w'=>e=.returned (.int .i64 (Lib.compareBytes a.data.toList b.data.toList))/\w'=w:=Any.strings_Compare Tryz.lays106 a b w
def Tryz.lays137:Go.Proofs.Lays.n137 zpl Tryz.ren:=by constructor<;>intros<;>kernel_rfl
def Tryz.strings_IndexByte(s:ByteArray)(c:Int)(w:World):
  Calls zpl 258 #[.string s,.int .u8 c] w fun e w'=>e=.returned (.int .i64 (Lib.indexByte s.data.toList c.toNat.toUInt8))/\w'=w:=Any.strings_IndexByte Tryz.lays137 s c w
def Tryz.lays211:Go.Proofs.Lays.n211 zpl Tryz.ren:=by constructor<;>intros<;>kernel_rfl
def Tryz.stringslite_CutSuffix(s p:ByteArray)(w:World)(hs:s.size<=9223372036854775807):
  Calls zpl 200 #[.string s,.string p] w fun e w'=>e=.returned (.tuple #[.string ⟨(Lib.trimSuffix s.data.toList p.data.toList).toArray⟩,.bool (Lib.hasSuffix s.data.toList p.data.toList)])/\w'=w:=Any.stringslite_CutSuffix Tryz.lays211 s p w hs
def Tryz.lays104:Go.Proofs.Lays.n104 zpl Tryz.ren:=by constructor<;>intros<;>kernel_rfl
def Tryz.strings_CutSuffix(s p:ByteArray)(w:World)(hs:s.size<=9223372036854775807):
  Calls zpl 130 #[.string s,.string p] w fun e w'=>e=.returned (.tuple #[.string ⟨(Lib.trimSuffix s.data.toList p.data.toList).toArray⟩,.bool (Lib.hasSuffix s.data.toList p.data.toList)])/\w'=w:=Any.strings_CutSuffix Tryz.lays104 s p w hs
def Tryz.lays195:Go.Proofs.Lays.n195 zpl Tryz.ren:=by constructor<;>intros<;>kernel_rfl
def Tryz.utf8_RuneCountInString(s:ByteArray)(w:World)(hs:s.size<9223372036854775807):
  Calls zpl 302 #[.string s] w fun e w'=>e=.returned (.int .i64 (Lib.runeCount s))/\∃ pos,w'=w.iter s pos:=Any.utf8_RuneCountInString Tryz.lays195 s w hs
def Tryz.lays129:Go.Proofs.Lays.n129 zpl Tryz.ren:=by constructor<;>intros<;>kernel_rfl
def Tryz.bits_Len64(x:Int)(w:World)(h0:0<=x)(h1:x<=18446744073709551615):
  Calls zpl 279 #[.int .u64 x] w fun e w'=>e=.returned (.int .i64 (Lib.bitLen x.toNat))/\w'=w:=Any.bits_Len64 Tryz.lays129 x w h0 h1
def Tryz.lays217:Go.Proofs.Lays.n217 zpl Tryz.ren:=by constructor<;>intros<;>kernel_rfl
open Go.RowKit Go.Lib in
def Tryz.stringslite_IndexByte(s:ByteArray)(c:Int)(w:World):
  Calls zpl 298 #[.string s,.int .u8 c] w fun e w'=>e=.returned (.int .i64 (Lib.indexByte s.data.toList c.toNat.toUInt8))/\w'=w:=Any.stringslite_IndexByte Tryz.lays217 s c w
def Tryz.lays224:Go.Proofs.Lays.n224 zpl Tryz.ren:=by constructor<;>intros<;>kernel_rfl
open Go.RowKit Go.Lib in
def Tryz.bytealg_Cutover(n:Int)(h0:0<=n)(h1:n<4611686018427387904)(w:World):
  Calls zpl 300 #[.int .i64 n] w fun e w'=>e=.returned (.int .i64 ((n+16)/8))/\w'=w:=Any.bytealg_Cutover Tryz.lays224 n h0 h1 w
def Tryz.lays314:Go.Proofs.Lays.n314 zpl Tryz.ren:=by constructor<;>intros<;>kernel_rfl
open Go.RowKit Go.Lib in
def Tryz.bytealg_hashStr(sep:ByteArray)(hs:sep.size<4294967281)(w:World):
  Calls zpl 316 #[.string sep] w fun e w'=>e=.returned (.tuple #[.int .u32 (RK.H sep.data.toList%4294967296),.int .u32 (16777619^sep.size%4294967296)])/\w'=w:=Any.bytealg_hashStr Tryz.lays314 sep hs w
def Tryz.lays267:Go.Proofs.Lays.n267 zpl Tryz.ren:=by constructor<;>intros<;>kernel_rfl
open Go.RowKit Go.Lib in
def Tryz.bytealg_IndexRabinKarp(s sep:ByteArray)(h1:1<=sep.size)(h2:sep.size<=s.size)(hs:s.size<4294967281)(w:World):
  Calls zpl 301 #[.string s,.string sep] w fun e w'=>e=.returned (.int .i64 (Lib.index s.data.toList sep.data.toList))/\w'=w:=Any.bytealg_IndexRabinKarp Tryz.lays267 s sep h1 h2 hs w
def Tryz.lays219:Go.Proofs.Lays.n219 zpl Tryz.ren:=by constructor<;>intros<;>kernel_rfl
open Go.RowKit Go.Lib in
def Tryz.stringslite_Index_one(s:ByteArray)(c:UInt8)(w:World):
  Calls zpl 260 #[.string s,.string ⟨#[c]⟩] w fun e w'=>e=.returned (.int .i64 (Lib.indexByte s.data.toList c))/\w'=w:=Any.stringslite_Index_one Tryz.lays219 s c w
open Go.RowKit Go.Lib in
def Tryz.stringslite_Index(s sub:ByteArray)(m:Int)(w:World)(hs:s.size<4294967281)(hm:w.cell? ⟨0,0,none⟩=some (.int .i64 m)):
  Calls zpl 260 #[.string s,.string sub] w fun e w'=>e=.returned (.int .i64 (Lib.index s.data.toList sub.data.toList))/\w'=w:=Any.stringslite_Index Tryz.lays219 s sub m w hs hm
def Tryz.lays143:Go.Proofs.Lays.n143 zpl Tryz.ren:=by constructor<;>intros<;>kernel_rfl
open Go.RowKit Go.Lib in
def Tryz.strings_Index_one(s:ByteArray)(c:UInt8)(w:World):
  Calls zpl 202 #[.string s,.string ⟨#[c]⟩] w fun e w'=>e=.returned (.int .i64 (Lib.indexByte s.data.toList c))/\w'=w:=Any.strings_Index_one Tryz.lays143 s c w
open Go.RowKit Go.Lib in
def Tryz.strings_Index(s sub:ByteArray)(m:Int)(w:World)(hs:s.size<4294967281)(hm:w.cell? ⟨0,0,none⟩=some (.int .i64 m)):
  Calls zpl 202 #[.string s,.string sub] w fun e w'=>e=.returned (.int .i64 (Lib.index s.data.toList sub.data.toList))/\w'=w:=Any.strings_Index Tryz.lays143 s sub m w hs hm
def Tryz.lays144:Go.Proofs.Lays.n144 zpl Tryz.ren:=by constructor<;>intros<;>kernel_rfl
open Go.RowKit Go.Lib in
def Tryz.strings_Contains_one(s:ByteArray)(c:UInt8)(w:World):
  Calls zpl 132 #[.string s,.string ⟨#[c]⟩] w fun e w'=>e=.returned (.bool (decide (0<=Lib.indexByte s.data.toList c)))/\w'=w:=Any.strings_Contains_one Tryz.lays144 s c w
open Go.RowKit Go.Lib in
def Tryz.strings_Contains(s sub:ByteArray)(m:Int)(w:World)(hs:s.size<4294967281)(hm:w.cell? ⟨0,0,none⟩=some (.int .i64 m)):
  Calls zpl 132 #[.string s,.string sub] w fun e w'=>e=.returned (.bool (Lib.contains s.data.toList sub.data.toList))/\w'=w:=Any.strings_Contains Tryz.lays144 s sub m w hs hm
def Tryz.lays220:Go.Proofs.Lays.n220 zpl Tryz.ren:=by constructor<;>intros<;>kernel_rfl
open Go.RowKit Go.Lib in
def Tryz.stringslite_Cut(s sep:ByteArray)(m:Int)(w:World)(hs:s.size<4294967281)(hm:w.cell? ⟨0,0,none⟩=some (.int .i64 m)):
  Calls zpl 201 #[.string s,.string sep] w fun e w'=>e=.returned (.tuple #[.string ⟨(Lib.cut s.data.toList sep.data.toList).1.toArray⟩,.string ⟨(Lib.cut s.data.toList sep.data.toList).2.1.toArray⟩,.bool (Lib.cut s.data.toList sep.data.toList).2.2])/\∃ n,w'=w.drewN n:=Any.stringslite_Cut Tryz.lays220 s sep m w hs hm
def Tryz.lays145:Go.Proofs.Lays.n145 zpl Tryz.ren:=by constructor<;>intros<;>kernel_rfl
open Go.RowKit Go.Lib in
def Tryz.strings_Cut(s sep:ByteArray)(m:Int)(w:World)(hs:s.size<4294967281)(hm:w.cell? ⟨0,0,none⟩=some (.int .i64 m)):
  Calls zpl 131 #[.string s,.string sep] w fun e w'=>e=.returned (.tuple #[.string ⟨(Lib.cut s.data.toList sep.data.toList).1.toArray⟩,.string ⟨(Lib.cut s.data.toList sep.data.toList).2.1.toArray⟩,.bool (Lib.cut s.data.toList sep.data.toList).2.2])/\∃ n,w'=w.drewN n:=Any.strings_Cut Tryz.lays145 s sep m w hs hm
def Tryz.lays138:Go.Proofs.Lays.n138 zpl Tryz.ren:=by constructor<;>intros<;>kernel_rfl
open Go.RowKit Go.Lib in
def Tryz.strings_Count_one(s:ByteArray)(c:UInt8)(w:World):
  Calls zpl 262 #[.string s,.string ⟨#[c]⟩] w fun e w'=>e=.returned (.int .i64 (Lib.countByte s.data.toList c))/\w'=w:=Any.strings_Count_one Tryz.lays138 s c w
open Go.RowKit Go.Lib in
def Tryz.strings_Count(s sub:ByteArray)(m:Int)(w:World)(hs:s.size<4294967281)(hm:w.cell? ⟨0,0,none⟩=some (.int .i64 m))(h2:2<=sub.size):
  Calls zpl 262 #[.string s,.string sub] w fun e w'=>e=.returned (.int .i64 (Lib.countB s sub))/\w'=w:=Any.strings_Count Tryz.lays138 s sub m w hs hm h2
def Tryz.laysM219:Go.Proofs.LaysM.n219 zpl Tryz.ren:=by constructor<;>first | exact Tryz.lays219 | exact Tryz.s1_3 | (intros;kernel_rfl)
open Go.RowKit Go.Lib in
def Tryz.stringslite_Index_shaped(s sub:ByteArray)(w:World)(h:w.ShapedOpen zpl)(hs:s.size<4294967281):
  Calls zpl 260 #[.string s,.string sub] w fun e w'=>e=.returned (.int .i64 (Lib.index s.data.toList sub.data.toList))/\w'=w:=Any.stringslite_Index_shaped Tryz.laysM219 s sub w h hs
def Tryz.laysM143:Go.Proofs.LaysM.n143 zpl Tryz.ren:=by constructor<;>first | exact Tryz.lays143 | exact Tryz.s1_3 | (intros;kernel_rfl)
open Go.RowKit Go.Lib in
def Tryz.strings_Index_shaped(s sub:ByteArray)(w:World)(h:w.ShapedOpen zpl)(hs:s.size<4294967281):
  Calls zpl 202 #[.string s,.string sub] w fun e w'=>e=.returned (.int .i64 (Lib.index s.data.toList sub.data.toList))/\w'=w:=Any.strings_Index_shaped Tryz.laysM143 s sub w h hs
def Tryz.laysM144:Go.Proofs.LaysM.n144 zpl Tryz.ren:=by constructor<;>first | exact Tryz.lays144 | exact Tryz.s1_3 | (intros;kernel_rfl)
open Go.RowKit Go.Lib in
def Tryz.strings_Contains_shaped(s sub:ByteArray)(w:World)(h:w.ShapedOpen zpl)(hs:s.size<4294967281):
  Calls zpl 132 #[.string s,.string sub] w fun e w'=>e=.returned (.bool (Lib.contains s.data.toList sub.data.toList))/\w'=w:=Any.strings_Contains_shaped Tryz.laysM144 s sub w h hs
def Tryz.laysM220:Go.Proofs.LaysM.n220 zpl Tryz.ren:=by constructor<;>first | exact Tryz.lays220 | exact Tryz.s1_3 | (intros;kernel_rfl)
open Go.RowKit Go.Lib in
def Tryz.stringslite_Cut_shaped(s sep:ByteArray)(w:World)(h:w.ShapedOpen zpl)(hs:s.size<4294967281):
  Calls zpl 201 #[.string s,.string sep] w fun e w'=>e=.returned (.tuple #[.string ⟨(Lib.cut s.data.toList sep.data.toList).1.toArray⟩,.string ⟨(Lib.cut s.data.toList sep.data.toList).2.1.toArray⟩,.bool (Lib.cut s.data.toList sep.data.toList).2.2])/\∃ n,w'=w.drewN n:=Any.stringslite_Cut_shaped Tryz.laysM220 s sep w h hs
def Tryz.laysM145:Go.Proofs.LaysM.n145 zpl Tryz.ren:=by constructor<;>first | exact Tryz.lays145 | exact Tryz.s1_3 | (intros;kernel_rfl)
open Go.RowKit Go.Lib in
def Tryz.strings_Cut_shaped(s sep:ByteArray)(w:World)(h:w.ShapedOpen zpl)(hs:s.size<4294967281):
  Calls zpl 131 #[.string s,.string sep] w fun e w'=>e=.returned (.tuple #[.string ⟨(Lib.cut s.data.toList sep.data.toList).1.toArray⟩,.string ⟨(Lib.cut s.data.toList sep.data.toList).2.1.toArray⟩,.bool (Lib.cut s.data.toList sep.data.toList).2.2])/\∃ n,w'=w.drewN n:=Any.strings_Cut_shaped Tryz.laysM145 s sep w h hs
def Tryz.laysM138:Go.Proofs.LaysM.n138 zpl Tryz.ren:=by constructor<;>first | exact Tryz.lays138 | exact Tryz.s1_3 | (intros;kernel_rfl)
open Go.RowKit Go.Lib in
def Tryz.strings_Count_shaped(s sub:ByteArray)(w:World)(h:w.ShapedOpen zpl)(hs:s.size<4294967281)(h2:2<=sub.size):
  Calls zpl 262 #[.string s,.string sub] w fun e w'=>e=.returned (.int .i64 (Lib.countB s sub))/\w'=w:=Any.strings_Count_shaped Tryz.laysM138 s sub w h hs h2
def Tryz.lays207:Go.Proofs.Lays.n207 zpl Tryz.ren:=by constructor<;>intros<;>kernel_rfl
open Go.RowKit Go.Lib in
def Tryz.stringslite_HasSuffix(s p:ByteArray)(w:World)(hs:s.size<=9223372036854775807):
  Calls zpl 259 #[.string s,.string p] w fun e w'=>e=.returned (.bool (Lib.hasSuffix s.data.toList p.data.toList))/\w'=w:=Any.stringslite_HasSuffix Tryz.lays207 s p w hs
open Go.RowKit Go.Lib in
def Tryz.strings_Count_any(s sep:ByteArray)(m:Int)(w:World)(hs:s.size<4294967281)(hm:w.cell? ⟨0,0,none⟩=some (.int .i64 m))(h1:1<=sep.size):
  Calls zpl 262 #[.string s,.string sep] w fun e w'=>e=.returned (.int .i64 (Lib.countB s sep))/\w'=w:=Any.strings_Count_any Tryz.lays138 s sep m w hs hm h1
open Go.RowKit Go.Lib in
def Tryz.utf8_RuneCountInString_ascii(s:ByteArray)(w:World)(hs:s.size<4294967281)(hascii:∀ (j:Nat) b,s.data.toList[j]?=some b->b.toNat<128):
  Calls zpl 302 #[.string s] w fun e w'=>e=.returned (.int .i64 s.size)/\w'=w.iter s s.size:=Any.utf8_RuneCountInString_ascii Tryz.lays195 s w hs hascii
end Go.Proofs
section
open Go.V
attribute [local irreducible] Has N Par Ret RetL Src StepOK V VO X
namespace Go.V
def _root_.ZcE(t:Wr Y->A:=by intro h;refine z8 (yp Z Z Z Z) Z ?_;exact h.1)(h:Y):A:=t ⟨h⟩
def _root_.Zav(t:Wr Y->A:=by intro h;refine z8 (qw L Z Z Z Z) Z ?_;exact h.1)(h:Y):A:=t ⟨h⟩
def _root_.ZbI(t:Wr Y->A:=by intro h;refine qt ?_;exact h.1)(h:Y):A:=t ⟨h⟩
def _root_.Zc6(t:Wr Y->A:=by intro h;refine z8 (qf L (ya Z) Z Z Z Z) Z ?_;exact h.1)(h:Y):A:=t ⟨h⟩
def _root_.Zaf(t:Wr Y->A:=by intro h;refine zh (zj Z Z Z) Z ?_;exact h.1)(h:Y):A:=t ⟨h⟩
def _root_.Zbi(t:Wr Y->A:=by intro h;refine zh (qw L Z Z Z Z) Z ?_;exact h.1)(h:Y):A:=t ⟨h⟩
def _root_.Zap(t:Wr Y->A:=by intro h;refine z8 (yo L Z Z Z Z Z Z) Z ?_;exact h.1)(h:Y):A:=t ⟨h⟩
def _root_.ZbJ(t:Wr Y->A:=by intro h;refine z8 (zz L (vs:=[_,_]) (ya Z) Z Z Z Z ⟨_,rfl⟩) Z ?_;exact h.1)(h:Y):A:=t ⟨h⟩
def _root_.Zfi(t:Wr Y->A:=by intro h;refine zh (qf L (ya Z) Z Z Z Z) Z ?_;exact h.1)(h:Y):A:=t ⟨h⟩
def _root_.ZcF(t:Wr Y->A:=by intro h;refine z8 (zz L (vs:=[_,_,_]) (ya Z) Z Z Z Z ⟨_,rfl⟩) Z ?_;exact h.1)(h:Y):A:=t ⟨h⟩
def _root_.ZcG(t:Wr Y->A:=by intro h;refine zh (zz L (vs:=[_,_]) (ya Z) Z Z Z Z ⟨_,rfl⟩) Z ?_;exact h.1)(h:Y):A:=t ⟨h⟩
def _root_.Zcu(t:Wr Y->A:=by intro h;refine qh (id:=1) [] x8 T ?_;exact h.1)(h:Y):A:=t ⟨h⟩
def _root_.Zda(t:Wr Y->A:=by intro h;refine zh (Fp Z Z Z Z E Z) Z ?_;exact h.1)(h:Y):A:=t ⟨h⟩
def _root_.ZdB(t:Wr Y->A:=by intro h;refine z8 (Fo Z Z Z Z (ng E)) Z ?_;exact h.1)(h:Y):A:=t ⟨h⟩
def _root_.Zdv(t:Wr Y->A:=by intro h;refine zh (yo L Z Z Z Z Z Z) Z ?_;exact h.1)(h:Y):A:=t ⟨h⟩
def _root_.Zbz(t:Wr Y->A:=by exact fun h=>(ZbI∘Zbq) h.1)(h:Y):A:=t ⟨h⟩
def _root_.Zas(t:Wr Y->A:=by exact fun h=>(Zc∘Z4) h.1)(h:Y):A:=t ⟨h⟩
def _root_.ZA(t:Wr Y->A:=by exact fun h=>(ZL∘ZcE) h.1)(h:Y):A:=t ⟨h⟩
def _root_.Z5(t:Wr Y->A:=by exact fun h=>(ZL∘Zas) h.1)(h:Y):A:=t ⟨h⟩
def _root_.Zac(t:Wr Y->A:=by exact fun h=>(Zav∘Zc6) h.1)(h:Y):A:=t ⟨h⟩
def _root_.Za3(t:Wr Y->A:=by exact fun h=>(Zaf∘Zbz) h.1)(h:Y):A:=t ⟨h⟩
def _root_.Za4(t:Wr Y->A:=by exact fun h=>(ZK∘Za) h.1)(h:Y):A:=t ⟨h⟩
def _root_.ZaQ(t:Wr Y->A:=by exact fun h=>(ZA∘ZcE) h.1)(h:Y):A:=t ⟨h⟩
def _root_.Zb0(t:Wr Y->A:=by exact fun h=>(Zbi∘Zfi) h.1)(h:Y):A:=t ⟨h⟩
def _root_.Zb7(t:Wr Y->A:=by exact fun h=>(ZY∘Zb) h.1)(h:Y):A:=t ⟨h⟩
def _root_.Zcc(t:Wr Y->A:=by exact fun h=>(Ze∘ZR) h.1)(h:Y):A:=t ⟨h⟩
def zbx(ha:a.size<=9223372036854775807)(hb:b.size<=9223372036854775807)(hB:zpk B w){t:Nat}{v:Value}(hv:SlB [.string a,.string b] t 2 v B):
  Ret zpl 236 [v] w B (fun v _=>v=.int .i64 (gl [a,b])):=by
 exact Xo [a,b] (by intro s hs;simp at hs;rcases hs with rfl | rfl<;>assumption) (by simp) hB (hv.toV rfl)
def zbw(ha:a.size<=9223372036854775807)(hb:b.size<=9223372036854775807)(hc:c.size<=9223372036854775807)(hB:zpk B w){t:Nat}{v:Value}(hv:SlB [.string a,.string b,.string c] t 3 v B):
  Ret zpl 236 [v] w B (fun v _=>v=.int .i64 (gl [a,b,c])):=by
 exact Xo [a,b,c] (by intro s hs;simp at hs;rcases hs with rfl | rfl | rfl<;>assumption) (by simp) hB (hv.toV rfl)
def lg(ha:a.size<=9223372036854775807)(hb:b.size<=9223372036854775807)(hB:zpk B w):
  Ret zpl 204 [.agg #[.string a,.string b]] w B (fun v _=>v=.int .i64 (gl [a,b])):=by
 refine yf Tryz.func204 Z Tryz.ntmps204 (np Z) hB ((ZA∘Zas∘Zac∘Zac∘Zap) ?_);refine z8 (zy L Z Z (zo Z) Z Z Z (fun u H hH _ _ v hv=>zbx G G hH hv)) Z (Zd (h:=?_));exact ye2 L [.tmp 2]
def goal_ret(ha:a.size<=9223372036854775807)(hb:b.size<=9223372036854775807)(hc:c.size<=9223372036854775807)(hB:zpk B w):
  Ret zpl 166 [.agg #[.string a,.string b,.string c]] w B (fun v _=>v=.int .i64 (gl [a,b,c])):=by
 refine yf Tryz.func166 Z Tryz.ntmps166 (np Z) hB ((ZA∘Zas∘Zav∘Zac∘Zav∘Zac∘Zac∘Zap) ?_);refine z8 (zy L Z Z (zo Z) Z Z Z (fun u H hH _ _ v hv=>zbw G G G hH hv)) Z (Zd (h:=?_));exact ye2 L [.tmp 2]
def tq(a b c:ByteArray):Int:=if c=⟨#[]⟩ then gl [a,b] else gl [a,b,c]
def Mm(ha:a.size<=9223372036854775807)(hb:b.size<=9223372036854775807)(hc:c.size<=9223372036854775807)(hB:zpk B w):
  Ret zpl 167 [.agg #[.string a,.string b,.string c]] w B (fun v _=>v=.int .i64 (tq a b c)):=by
 refine yf Tryz.func167 Z Tryz.ntmps167 (np Z) hB ?_;by_cases h:c=⟨#[]⟩
 ·refine(ZA∘Zaa∘Zac) ?_;refine z8 (Fo Z Z Z Z (nf E)) Z ((ZbH∘Zav∘ZbJ) ?_);refine z81 L Z (fun u H hH _=>lg G G hH) ?_;refine Zd (h:=?_);refine ye1 L [.tmp 2] fun u H hH hle=>?_;exact nh (Value.int .i64) (show gl [a,b]=tq a b c from(na h).symm)
 ·refine(ZA∘Zaa∘Zac∘ZdB∘Zl∘ZR∘ZcF) ?_;refine z81 L Z (fun u H hH _=>goal_ret G G G hH) ?_;refine Zd (h:=?_);refine ye1 L [.tmp 2] fun u H hH hle=>?_;exact nh (Value.int .i64) (show gl [a,b,c]=tq a b c from(nc h).symm)
abbrev sCol:ByteArray:=⟨#[58]⟩
abbrev sHash:ByteArray:=⟨#[35]⟩
def Fv(a b:ByteArray):ByteArray:=a++sCol++b
def dy(a b c:ByteArray):ByteArray:=Fv a b++sHash++c
def ef(a b c:ByteArray):ByteArray:=if c=⟨#[]⟩ then Fv a b else dy a b c
def A7:sCol.size=1:=rfl
def r5:sHash.size=1:=rfl
def objT_size(a b:ByteArray):(Fv a b).size=a.size+b.size+1:=by
 unfold Fv;rw[ByteArray.size_append,ByteArray.size_append,A7];omega
def goalT_size(a b c:ByteArray):(dy a b c).size=a.size+b.size+c.size+2:=by
 unfold dy;rw[ByteArray.size_append,ByteArray.size_append,objT_size,r5];omega
def text_ret(ha:a.size<=1099511627776)(hb:b.size<=1099511627776)(hB:zpk B w):
  Ret zpl 256 [.agg #[.string a,.string b]] w B (fun v _=>v=.string (Fv a b)):=by
 have hz:a.size+sCol.size<=9223372036854775807:=by rw[A7];omega
 have hz2:(a++sCol).size+b.size<=9223372036854775807:=by rw[m9,A7];omega
 refine yf Tryz.func256 Z Tryz.ntmps256 (np Z) hB ((ZA∘Zas∘Zac) ?_);refine z8 (Fp Z Z Z Z E Z) Z (Zac (h:=?_));refine z8 (Fp Z Z Z Z E Z) Z (Zd (h:=?_));exact ye2 L [.tmp 2]
def tg(ha:a.size<=1099511627776)(hb:b.size<=1099511627776)(hc:c.size<=1099511627776)(hB:zpk B w):
  Ret zpl 196 [.agg #[.string a,.string b,.string c]] w B (fun v _=>v=.string (dy a b c)):=by
 have hz:(Fv a b).size+sHash.size<=9223372036854775807:=by rw[r5,objT_size];omega
 have hz2:(Fv a b++sHash).size+c.size<=9223372036854775807:=by rw[m9,r5,objT_size];omega
 refine yf Tryz.func196 Z Tryz.ntmps196 (np Z) hB ((ZA∘Zc∘Zcu∘Zbi∘ZcG) ?_);refine zh1 L Z (fun u H hH _=>text_ret G G hH) ?_;refine(Zda∘Zb0∘Zda∘Za3) ?_;exact ye2 L [.tmp 2]
def Hp(ha:a.size<=1099511627776)(hb:b.size<=1099511627776)(hc:c.size<=1099511627776)(hB:zpk B w):
  Ret zpl 197 [.agg #[.string a,.string b,.string c]] w B (fun v _=>v=.string (ef a b c)):=by
 refine yf Tryz.func197 Z Tryz.ntmps197 (np Z) hB ?_;by_cases h:c=⟨#[]⟩
 ·refine(ZA∘Zaa∘Zac) ?_;refine z8 (Fo Z Z Z Z (nf E)) Z ((ZbH∘Zav∘ZbJ) ?_);refine z81 L Z (fun u H hH _=>text_ret G G hH) ?_;refine Zd (h:=?_);refine ye1 L [.tmp 2] fun u H hH hle=>?_;exact nh Value.string (show Fv a b=ef a b c from(na h).symm)
 ·refine(ZA∘Zaa∘Zac∘ZdB∘Zl∘ZR∘ZcF) ?_;refine z81 L Z (fun u H hH _=>tg G G G hH) ?_;refine Zd (h:=?_);refine ye1 L [.tmp 2] fun u H hH hle=>?_;exact nh Value.string (show dy a b c=ef a b c from(nc h).symm)
def V9(a b:ByteArray):Int:=Lib.compareBytes a.data.toList b.data.toList
def E7(hB:zpk B w):Ret zpl 238 [.string a,.string b] w B (fun v _=>v=.int .i64 (V9 a b)):=Ret.of_same hB (Tryz.strings_Compare a b w)
def orL:List Int->Int
 | []=>0
 | x::l=>if x=0 then orL l else x
def Ty:∀ (l:List Int) (k:Nat) (s:Int),(∀ x∈l.take k,x=0)->l[k]?=some s->s≠0->orL l=s
 | [],k,s,_,h,_=>by simp at h
 | x::l,0,s,_,h,hc=>by simp at h;subst h;simp [orL,hc]
 | x::l,k+1,s,ha,h,hc=>by
  simp only[zna] at ha;simp only[zm1] at h;have hx:=ha x (mb ..);simp only[orL,na hx];exact Ty l k s (fun y hy=>ha y (mc _ hy)) h hc
def Oj:∀ (l:List Int),(∀ x∈l,x=0)->orL l=0
 | [],_=>rfl
 | x::l,h=>by simp only[orL,na (h x (mb ..))];exact Oj l fun y hy=>h y (mc _ hy)
def zg6(l:List Int)(hlen:l.length<=1000){v:Value}(hB:zpk B w)(hv:SlV e 1 (l.map (Value.int .i64)) l.length fu v B):
  Ret zpl 168 [v] w B (fun v _=>v=.int .i64 (orL l)):=by
 refine yf Tryz.func168 Z Tryz.ntmps168 (np Z) hB (ju 0 (SlV e 1 (l.map (Value.int .i64)) l.length fu) Z ma hv ((Z5∘Zi∘ZM∘Zcb) ?_))
 refine xo (fun k:Nat=>[(3,.is (.int .i64 0)),(6,.sat (SlV e 1 (l.map (Value.int .i64)) l.length fu)),(7,.is (.int .i64 l.length)),(8,.is (.int .i64 k))])
  (fun k=>k<=l.length/\∀ x∈l.take k,x=0) (fun k=>l.length-k) 0 ⟨mf _,by simp⟩ ⟨rfl,rfl,rfl,rfl,nm⟩ ?_
 rintro k ⟨hk,hall⟩;by_cases hlt:k<l.length
 ·have hs:l[k]?=some l[k]:=zlq hlt;generalize l[k]=s at hs;have hc:((l.map (Value.int .i64)).drop (k*1)).take 1=[.int .i64 s]:=zca (by simp [hs]);by_cases h0:s=0
  ·refine(Zcc∘Zx∘Z9∘Zab∘ZcN∘Zc∘Zb7∘ZG∘Zca∘Z8∘Zbh) ?_;refine ym (k+1) ⟨hlt,?_⟩ I ⟨Z,Z,Z,Z,nm⟩;rw[zls,hs];intro x hx;rcases mi.1 hx with hx | hx
   ·exact hall x hx
   ·simp at hx;rw[hx,h0]
  ·refine(Zcc∘Zx∘Z9∘Zab∘ZcN∘Zc∘Zb7∘Zao∘ZH∘Zd) ?_;refine ye1 L [.tmp 2] fun u H hH hle=>?_;exact nh _ (Ty l k s hall hs h0).symm
 ·refine(Zcc∘ZaK∘Za4∘Zd) ?_;refine ye1 L [.tmp 2] fun u H hH hle=>?_;have:l.take k=l:=zle I;exact nh _ (Oj l (this ▸ hall)).symm
def Fi{x y:Int}(hB:zpk B w){t:Nat}{v:Value}(hv:SlB [.int .i64 x,.int .i64 y] t 2 v B):
  Ret zpl 168 [v] w B (fun v _=>v=.int .i64 (orL [x,y])):=by
 exact zg6 [x,y] (by simp) hB (hv.toV Z)
def zkh(a b c d:ByteArray):Int:=orL [V9 a c,V9 b d]
def zki(a b r c d s:ByteArray):Int:=orL [zkh a b c d,V9 r s]
def zbc{d:ByteArray}(hB:zpk B w):
  Ret zpl 237 [.agg #[.string a,.string b],.agg #[.string c,.string d]] w B (fun v _=>v=.int .i64 (zkh a b c d)):=by
 refine yf Tryz.func237 Z Tryz.ntmps237 (np Z) hB ((ZaQ∘Zc∘Zcu∘Zb0∘Zb0) ?_);refine zh1 L Z (fun u H hH _=>E7 hH) ?_;refine(Zb0∘Zb0) ?_;refine zh1 L Z (fun u H hH _=>E7 hH) ?_;refine Zdv (h:=?_);refine zh (zy L Z Z (zo Z) Z Z Z (fun u H hH _ _ v hv=>Fi hH hv)) Z (Za3 (h:=?_));exact ye2 L [.tmp 4]
def Gs{d:ByteArray}(hB:zpk B w):
  Ret zpl 169 [.agg #[.string a,.string b,.string r],.agg #[.string c,.string d,.string s]] w B (fun v _=>v=.int .i64 (zki a b r c d s)):=by
 refine yf Tryz.func169 Z Tryz.ntmps169 (np Z) hB ((ZaQ∘Zc∘Zcu∘Zbi∘ZcG∘Zbi∘ZcG) ?_);refine zh1 L Z (fun u H hH _=>zbc hH) ?_;refine(Zb0∘Zb0) ?_;refine zh1 L Z (fun u H hH _=>E7 hH) ?_;refine Zdv (h:=?_);refine zh (zy L Z Z (zo Z) Z Z Z (fun u H hH _ _ v hv=>Fi hH hv)) Z (Za3 (h:=?_));exact ye2 L [.tmp 4]
def cmpU_ret{d:ByteArray}(hB:zpk B w):
  Ret zpl 170 [.agg #[.string a,.string b,.string r],.agg #[.string c,.string d,.string s]] w B (fun v _=>v=.int .i64 (zki a b r c d s)):=by
 refine yf Tryz.func170 Z Tryz.ntmps170 (np Z) hB ((ZaQ∘Zas∘ZcF∘ZcF) ?_);refine z81 L Z (fun u H hH _=>Gs hH) ?_;refine Zd (h:=?_);exact ye2 L [.tmp 4]
def _root_.Zb1(t:Wr Y->A:=by intro h;refine z8 (zp Z Z Z Z) Z ?_;exact h.1)(h:Y):A:=t ⟨h⟩
def _root_.Z7(t:Wr Y->A:=by intro h;refine z8 (ql L Z Z Z Z) Z ?_;exact h.1)(h:Y):A:=t ⟨h⟩
def _root_.ZaD(t:Wr Y->A:=by intro h;refine z8 (qn L Z Z Z Z) Z ?_;exact h.1)(h:Y):A:=t ⟨h⟩
def _root_.Zt(t:Wr Y->A:=by intro h;refine z8 (yu Z Z Z Z) Z ?_;exact h.1)(h:Y):A:=t ⟨h⟩
def _root_.ZdN(t:Wr Y->A:=by intro h;refine z8 (yl (cs:=[_,_]) Z Z zir Z Z) Z ?_;exact h.1)(h:Y):A:=t ⟨h⟩
def _root_.Zbj(t:Wr Y->A:=by exact fun h=>(Zb1∘Zb1) h.1)(h:Y):A:=t ⟨h⟩
def _root_.Zy(t:Wr Y->A:=by exact fun h=>(Za∘Zbj) h.1)(h:Y):A:=t ⟨h⟩
def _root_.Za7(t:Wr Y->A:=by exact fun h=>(Zp∘Zc) h.1)(h:Y):A:=t ⟨h⟩
def _root_.ZB(t:Wr Y->A:=by exact fun h=>(Zp∘Zd) h.1)(h:Y):A:=t ⟨h⟩
def _root_.Zaj(t:Wr Y->A:=by exact fun h=>(ZL∘Z7) h.1)(h:Y):A:=t ⟨h⟩
def _root_.Zbk(t:Wr Y->A:=by exact fun h=>(Zp∘Zi) h.1)(h:Y):A:=t ⟨h⟩
def _root_.ZaL(t:Wr Y->A:=by exact fun h=>(ZL∘Zp) h.1)(h:Y):A:=t ⟨h⟩
def _root_.Zbc(t:Wr Y->A:=by exact fun h=>(Zb∘Zb) h.1)(h:Y):A:=t ⟨h⟩
def _root_.Zbd(t:Wr Y->A:=by exact fun h=>(Zg∘Zl) h.1)(h:Y):A:=t ⟨h⟩
def _root_.Zbl(t:Wr Y->A:=by exact fun h=>(Zp∘Zbk) h.1)(h:Y):A:=t ⟨h⟩
def _root_.ZbK(t:Wr Y->A:=by exact fun h=>(ZM∘Zb) h.1)(h:Y):A:=t ⟨h⟩
def _root_.ZbQ(t:Wr Y->A:=by exact fun h=>(Zg∘Zb) h.1)(h:Y):A:=t ⟨h⟩
def GlobM(B:Heap):Prop:=∃ m cs t fr,B 0=some (.cells cs t fr)/\cs[0]?=some (.int .i64 m)
def GlobM.of_cell{m:Int}(h:w.cell? ⟨0,0,none⟩=some (.int .i64 m)):GlobM (hp w):=by
 unfold World.cell? at h;split at h
 ·rename_i cs t fr hb;exact⟨m,cs,t,fr,hb,by simpa using h⟩
 ·cases h
def GlobM.mono(h:GlobM B)(hl:B.Le H):GlobM H:=let ⟨m,cs,t,fr,hb,hc⟩:=h;⟨m,cs,t,fr,hl _ _ hb,hc⟩
def gk(s:ByteArray)(c:UInt8):ByteArray×ByteArray×Bool:=
 (⟨(Lib.cut s.data.toList [c]).1.toArray⟩,⟨(Lib.cut s.data.toList [c]).2.1.toArray⟩,(Lib.cut s.data.toList [c]).2.2)
def Lz(s:ByteArray)(c:UInt8):Bool:=decide (0<=Lib.indexByte s.data.toList c)
def Xz(s:ByteArray)(c:UInt8):Nat:=Lib.countByte s.data.toList c
def dz{c:UInt8}{f:Bool}(hs:s.size<=1000000)(hB:zpk B w)(hM:GlobM B)(hf:(gk s c).2.2=f):
  Ret zpl 131 [.string s,.string ⟨#[c]⟩] w B (fun v _=>v=.tuple #[.string (gk s c).1,.string (gk s c).2.1,.bool f]):=by
 obtain⟨m,cs,t,fr,hb,hc⟩:=hM;subst hf;refine Ret.of_drawn hB (Tryz.strings_Cut s ⟨#[c]⟩ m w I ?_);rw[ko (hB _ _ hb)];exact hc
def wu{c:UInt8}{f:Bool}(hB:zpk B w)(hf:Lz s c=f):
  Ret zpl 132 [.string s,.string ⟨#[c]⟩] w B (fun v _=>v=.bool f):=by
 subst hf;exact Ret.of_same hB (Tryz.strings_Contains_one s c w)
def count_ret{c:UInt8}(hB:zpk B w):
  Ret zpl 262 [.string s,.string ⟨#[c]⟩] w B (fun v _=>v=.int .i64 (Xz s c)):=Ret.of_same hB (Tryz.strings_Count_one s c w)
def o0(s:ByteArray)(c:UInt8):(gk s c).1.size<=s.size/\(gk s c).2.1.size<=s.size:=by
 unfold gk Lib.cut;have hl:=jl s;have e:∀ l:List UInt8,(ByteArray.mk l.toArray).size=l.length:=fun l=>by show l.toArray.size=_;simp
 generalize s.data.toList=l at hl |-;rw[<-hl];split
 ·simp only[e,mw,zlc];omega
 ·simp only[e,my];omega
def wz(s:ByteArray):Option (ByteArray×ByteArray×ByteArray×Bool):=
 if ((gk s 58).2.2 && !Lz (gk s 58).1 35 && !Lz (gk s 58).2.1 58)=true/\Xz (gk s 58).2.1 35<=1 then
  some ((gk s 58).1,(gk (gk s 58).2.1 35).1,(gk (gk s 58).2.1 35).2.1,(gk (gk s 58).2.1 35).2.2)
 else none
def Bl{d:Bool}(h:wz s=some (a,b,c,d)):a.size<=s.size/\b.size<=s.size/\c.size<=s.size:=by
 unfold wz at h;split at h
 ·cases h;have h1:=o0 s 58;have h2:=o0 (gk s 58).2.1 35;omega
 ·cases h
def Gr{f:Bool}(hs:s.size<=1000000)(hB:zpk B w)(hM:GlobM B)(hf:((gk s 58).2.2 && !Lz (gk s 58).1 35 && !Lz (gk s 58).2.1 58)=f):
  Ret zpl 261 [.string s,.string ⟨#[58]⟩] w B (fun v _=>v=.tuple #[.string (gk s 58).1,.string (gk s 58).2.1,.bool f]):=by
 subst hf;refine yf Tryz.func261 Z Tryz.ntmps261 (np Z) hB ?_;cases h1:(gk s 58).2.2
 ·refine(ZaL∘Zp∘Zas∘Zb) ?_;refine z81 L Z (fun u H hH hle=>dz E hH (GlobM.mono E hle) E) ?_;refine(Zy∘Zb1∘Zp∘Za7∘ZM∘Zbc∘Zc1∘Zc5∘Zbr∘Zp∘ZB) ?_;exact ye2 L [.tmp 4,.tmp 5,.tmp 6]
 ·cases h2:Lz (gk s 58).1 35
  ·cases h3:Lz (gk s 58).2.1 58
   ·refine(ZaL∘Zp∘Zas∘Zb) ?_;refine z81 L Z (fun u H hH hle=>dz E hH (GlobM.mono E hle) E) ?_;refine(Zy∘Zb1∘Zp∘Za7∘ZbK∘Zz) ?_;refine z81 L Z (fun u H hH _=>wu hH E) ?_;refine(Zt∘ZbQ) ?_;refine z81 L Z (fun u H hH _=>wu hH E) ?_;refine(Zt∘Zg∘Zp∘ZB) ?_;exact ye2 L [.tmp 4,.tmp 5,.tmp 6]
   ·refine(ZaL∘Zp∘Zas∘Zb) ?_;refine z81 L Z (fun u H hH hle=>dz E hH (GlobM.mono E hle) E) ?_;refine(Zy∘Zb1∘Zp∘Za7∘ZbK∘Zz) ?_;refine z81 L Z (fun u H hH _=>wu hH E) ?_;refine(Zt∘ZbQ) ?_;refine z81 L Z (fun u H hH _=>wu hH E) ?_;refine(Zt∘Zg∘Zp∘ZB) ?_;exact ye2 L [.tmp 4,.tmp 5,.tmp 6]
  ·refine(ZaL∘Zp∘Zas∘Zb) ?_;refine z81 L Z (fun u H hH hle=>dz E hH (GlobM.mono E hle) E) ?_;refine(Zy∘Zb1∘Zp∘Za7∘ZbK∘Zz) ?_;refine z81 L Z (fun u H hH _=>wu hH E) ?_;refine(Zt∘Zg∘Zbr∘Zp∘ZB) ?_;exact ye2 L [.tmp 4,.tmp 5,.tmp 6]
def Qx(hs:s.size<=1000000)(hB:zpk B w)(hM:GlobM B)(h:wz s=none):
  Ret zpl 203 [.string s] w B (fun v _=>v=.tuple #[.agg #[.string ⟨#[]⟩,.string ⟨#[]⟩],.string ⟨#[]⟩,.bool false,.bool false]):=by
 refine yf Tryz.func203 Z Tryz.ntmps203 (np Z) hB ?_;unfold wz at h;cases h1:((gk s 58).2.2 && !Lz (gk s 58).1 35 && !Lz (gk s 58).2.1 58)
 ·refine(Zaj∘Zp∘Zp∘Zas∘Zc∘ZbK) ?_;refine z81 L Z (fun u H hH hle=>Gr E hH (GlobM.mono E hle) E) ?_;refine(Zy∘Zb1∘Zbl∘Zu∘Zt∘Zbr∘Zr∘Z9∘ZdN∘ZaD∘Zp∘ZB) ?_;refine ye1 L [.cell 2 29,.tmp 3,.tmp 4,.tmp 5] fun u H hH hle=>?_;exact⟨_,qs Z,rfl,rfl⟩
 ·have h2:¬ Xz (gk s 58).2.1 35<=1:=fun h2=>by rw[na ⟨h1,h2⟩] at h;cases h
  clear h;refine(Zaj∘Zp∘Zp∘Zas∘Zc∘ZbK) ?_;refine z81 L Z (fun u H hH hle=>Gr E hH (GlobM.mono E hle) E) ?_;refine(Zy∘Zb1∘Zbl∘Zu∘Zt∘Zb) ?_;refine z81 L Z (fun u H hH _=>count_ret hH) ?_;refine(ZN∘Zg∘Zr∘Z9∘ZdN∘ZaD∘Zp∘ZB) ?_;refine ye1 L [.cell 2 29,.tmp 3,.tmp 4,.tmp 5] fun u H hH hle=>?_;exact⟨_,qs Z,rfl,rfl⟩
def Qw{d:Bool}(hs:s.size<=1000000)(hB:zpk B w)(hM:GlobM B)(h:wz s=some (a,b,c,d)):
  Ret zpl 203 [.string s] w B (fun v _=>v=.tuple #[.agg #[.string a,.string b],.string c,.bool d,.bool true]):=by
 refine yf Tryz.func203 Z Tryz.ntmps203 (np Z) hB ?_;unfold wz at h;split at h
 ·rename_i hc;obtain⟨h1,h2⟩:=hc;cases h;have hz:=o0 s 58;have hz2:(gk s 58).2.1.size<=1000000:=I;refine(Zaj∘Zp∘Zp∘Zas∘Zc∘ZbK) ?_;refine z81 L Z (fun u H hH hle=>Gr E hH (GlobM.mono E hle) E) ?_;refine(Zy∘Zb1∘Zbl∘Zu∘Zt∘Zb) ?_;refine z81 L Z (fun u H hH _=>count_ret hH) ?_;refine(ZD∘Zbd∘Zar) ?_;refine z81 L Z (fun u H hH hle=>dz E hH (GlobM.mono E hle) Z) ?_;refine(Zy∘Zb1∘Zp∘Za7∘ZP∘Zb∘ZdN∘Zb∘ZaD∘Zp∘ZB) ?_;refine ye1 L [.cell 2 29,.tmp 3,.tmp 4,.tmp 5] fun u H hH hle=>?_;exact⟨_,qs Z,rfl,rfl⟩
 ·cases h
def _root_.Zs(t:Wr Y->A:=by intro h;refine z8 (yh Z Z Z Z (ng I)) Z ?_;exact h.1)(h:Y):A:=t ⟨h⟩
def _root_.ZC(t:Wr Y->A:=by intro h;refine z8 (yh Z Z Z Z (nf I)) Z ?_;exact h.1)(h:Y):A:=t ⟨h⟩
def _root_.Zck(t:Wr Y->A:=by intro h;refine z8 (zz L (vs:=[_,_]) (qs Z) Z Z Z Z ⟨_,rfl⟩) Z ?_;exact h.1)(h:Y):A:=t ⟨h⟩
def _root_.Zdw(t:Wr Y->A:=by intro h;refine z81 L Z (fun u H hH hle=>Qw E hH (GlobM.mono E hle) E) ?_;exact h.1)(h:Y):A:=t ⟨h⟩
def _root_.Zdx(t:Wr Y->A:=by intro h;refine z8 (zz L (vs:=[_,_,_]) (qs Z) Z Z Z Z ⟨_,rfl⟩) Z ?_;exact h.1)(h:Y):A:=t ⟨h⟩
def _root_.ZdC(t:Wr Y->A:=by intro h;refine z8 (yl (cs:=[_,_,_]) Z Z zkt Z Z) Z ?_;exact h.1)(h:Y):A:=t ⟨h⟩
def _root_.ZdO(t:Wr Y->A:=by intro h;refine z8 (yl (cs:=[_,_,_]) Z Z zkb Z Z) Z ?_;exact h.1)(h:Y):A:=t ⟨h⟩
def _root_.Zq(t:Wr Y->A:=by exact fun h=>(ZM∘Za) h.1)(h:Y):A:=t ⟨h⟩
def _root_.ZaT(t:Wr Y->A:=by exact fun h=>(Z7∘ZaD) h.1)(h:Y):A:=t ⟨h⟩
def _root_.Zaz(t:Wr Y->A:=by exact fun h=>(Zf∘Ze) h.1)(h:Y):A:=t ⟨h⟩
def _root_.Z3(t:Wr Y->A:=by exact fun h=>(Z8∘Za) h.1)(h:Y):A:=t ⟨h⟩
def _root_.Za0(t:Wr Y->A:=by exact fun h=>(ZaD∘Zd) h.1)(h:Y):A:=t ⟨h⟩
def _root_.ZaE(t:Wr Y->A:=by exact fun h=>(ZG∘Zl) h.1)(h:Y):A:=t ⟨h⟩
def _root_.ZaM(t:Wr Y->A:=by exact fun h=>(Zas∘Za) h.1)(h:Y):A:=t ⟨h⟩
def _root_.Zbs(t:Wr Y->A:=by exact fun h=>(ZaT∘Zaz) h.1)(h:Y):A:=t ⟨h⟩
def _root_.Zfa(t:Wr Y->A:=by intro h;refine ZaM (h:=?_);refine z81 L Z (fun u H hH hle=>Qx E hH (GlobM.mono E hle) E) ?_;exact h.1)(h:Y):A:=t ⟨h⟩
abbrev pq:ByteArray:=⟨#[]⟩
def poA(s:ByteArray):ByteArray×ByteArray×Int:=
 match wz s with
 | none=>(pq,pq,5)
 | some (a,b,_,d)=>if d=true then (pq,pq,5) else if gl [a,b]=0 then (a,b,0) else (pq,pq,gl [a,b])
def pgA(s:ByteArray):ByteArray×ByteArray×ByteArray×Int:=
 match wz s with
 | none=>(pq,pq,pq,5)
 | some (a,b,c,d)=>if d=false then (pq,pq,pq,5) else if gl [a,b,c]=0 then (a,b,c,0) else (pq,pq,pq,gl [a,b,c])
def psA(s:ByteArray):ByteArray×ByteArray×ByteArray×Int:=
 match wz s with
 | none=>(pq,pq,pq,5)
 | some (a,b,c,d)=>if gl [a,b]=0 then (if d=true then (if chk c=0 then (a,b,c,0) else (pq,pq,pq,chk c)) else (a,b,c,0)) else (pq,pq,pq,gl [a,b])
def zg5{r:ByteArray×ByteArray×ByteArray×Int}(hr:pgA s=r)(hs:s.size<=1000000)(hB:zpk B w)(hM:GlobM B):
  Ret zpl 133 [.string s] w B (fun v _=>v=.tuple #[.agg #[.string r.1,.string r.2.1,.string r.2.2.1],.int .i64 r.2.2.2]):=by
 refine yf Tryz.func133 Z Tryz.ntmps133 (np Z) hB ?_;unfold pgA at hr
 cases hp:wz s with
 | none=>
  rw[hp] at hr;simp only at hr;subst hr;refine(Zaj∘Zfa∘Zy∘Zbj∘ZaT∘Zbl∘Zq∘Zt∘Zc2∘Zg∘Zr∘ZR∘ZdO∘Za0) ?_;refine ye1 L [.cell 2 31,.tmp 3] fun u H hH hle=>?_;exact⟨_,qs Z,rfl,rfl⟩
 | some p=>
  obtain⟨a,b,c,d⟩:=p;rw[hp] at hr;simp only at hr;have hz:=Bl hp;have ha:a.size<=1099511627776:=I;have hb:b.size<=1099511627776:=I;have hc:c.size<=1099511627776:=I
  cases d with
  | false=>
   rw[na rfl] at hr;subst hr;refine(Zaj∘ZaM∘Zdw∘Zy∘Zbj∘ZaT∘Zbl∘Zq∘Zt∘Zb∘Zt∘Zg∘Zr∘ZR∘ZdO∘Za0) ?_;refine ye1 L [.cell 2 31,.tmp 3] fun u H hH hle=>?_;exact⟨_,qs Z,rfl,rfl⟩
  | true=>
   rw[nc J] at hr;by_cases h0:gl [a,b,c]=0
   ·rw[na h0] at hr;subst hr;refine(Zaj∘ZaM∘Zdw∘Zy∘Zbj∘ZaT∘Zbl∘Zq∘Zt∘Zb∘Zt∘Zbd∘Z9∘Zck∘Za∘ZdO∘Zbs∘ZY∘Zdx) ?_;refine z81 L Z (fun u H hH _=>goal_ret G G G hH) ?_;refine(Zc∘ZH∘ZaE∘ZK∘Zdx∘Za0) ?_;refine ye1 L [.cell 2 31,.tmp 3] fun u H hH hle=>?_;exact⟨_,qs Z,rfl,rfl⟩
   ·rw[nc h0] at hr;subst hr;refine(Zaj∘ZaM∘Zdw∘Zy∘Zbj∘ZaT∘Zbl∘Zq∘Zt∘Zb∘Zt∘Zbd∘Z9∘Zck∘Za∘ZdO∘Zbs∘ZY∘Zdx) ?_;refine z81 L Z (fun u H hH _=>goal_ret G G G hH) ?_;refine(Zc∘ZH∘Zao∘Z8∘ZdO∘Za∘Za0) ?_;refine ye1 L [.cell 2 31,.tmp 3] fun u H hH hle=>?_;exact⟨_,qs Z,rfl,rfl⟩
def zgz{r:ByteArray×ByteArray×ByteArray×Int}(hr:psA s=r)(hs:s.size<=1000000)(hB:zpk B w)(hM:GlobM B):
  Ret zpl 134 [.string s] w B (fun v _=>v=.tuple #[.agg #[.string r.1,.string r.2.1,.string r.2.2.1],.int .i64 r.2.2.2]):=by
 refine yf Tryz.func134 Z Tryz.ntmps134 (np Z) hB ?_;unfold psA at hr
 cases hp:wz s with
 | none=>
  rw[hp] at hr;simp only at hr;subst hr;refine(Zaj∘Zfa∘Zy∘Zbj∘ZaT∘Zbl∘Zq∘Zt∘Zr∘ZR∘ZdC∘Za0) ?_;refine ye1 L [.cell 2 32,.tmp 3] fun u H hH hle=>?_;exact⟨_,qs Z,rfl,rfl⟩
 | some p=>
  obtain⟨a,b,c,d⟩:=p;rw[hp] at hr;simp only at hr;have hz:=Bl hp;have ha:a.size<=1099511627776:=I;have hb:b.size<=1099511627776:=I;have hc:c.size<=1099511627776:=I;by_cases h0:gl [a,b]=0
  ·rw[na h0] at hr
   cases d with
   | false=>
    rw[nc J] at hr;subst hr;refine(Zaj∘ZaM∘Zdw∘Zy∘Zbj∘ZaT∘Zbl∘Zq∘Zt∘Zl∘Z9∘Zck) ?_;refine z81 L Z (fun u H hH _=>lg G G hH) ?_;refine(Zi∘Zb7∘Zc1∘Zg∘Z6∘Z3∘ZaE∘ZQ∘Zck∘Za∘ZdC∘Za0) ?_;refine ye1 L [.cell 2 32,.tmp 3] fun u H hH hle=>?_;exact⟨_,qs Z,rfl,rfl⟩
   | true=>
    rw[na rfl] at hr;by_cases h1:chk c=0
    ·rw[na h1] at hr;subst hr;refine(Zaj∘ZaM∘Zdw∘Zy∘Zbj∘ZaT∘Zbl∘Zq∘Zt∘Zl∘Z9∘Zck) ?_;refine z81 L Z (fun u H hH _=>lg G G hH) ?_;refine(Zi∘ZY∘Zz∘ZC∘Zg∘ZE∘ZH∘Zen∘Zi∘Z3∘ZaE∘ZQ∘Zck∘Za∘ZdC∘Za0) ?_;refine ye1 L [.cell 2 32,.tmp 3] fun u H hH hle=>?_;exact⟨_,qs Z,rfl,rfl⟩
    ·rw[nc h1] at hr;subst hr;refine(Zaj∘ZaM∘Zdw∘Zy∘Zbj∘ZaT∘Zbl∘Zq∘Zt∘Zl∘Z9∘Zck) ?_;refine z81 L Z (fun u H hH _=>lg G G hH) ?_;refine(Zi∘ZY∘Zz∘ZC∘Zg∘ZE∘ZH∘Zen∘Zi∘Z3∘Zao∘ZK∘ZdC∘Za∘Za0) ?_;refine ye1 L [.cell 2 32,.tmp 3] fun u H hH hle=>?_;exact⟨_,qs Z,rfl,rfl⟩
  ·rw[nc h0] at hr;subst hr;cases d
   ·refine(Zaj∘ZaM∘Zdw∘Zy∘Zbj∘ZaT∘Zbl∘Zq∘Zt∘Zl∘Z9∘Zck) ?_;refine z81 L Z (fun u H hH _=>lg G G hH) ?_;refine(Zi∘Zb7∘Zc1∘Zg∘Z6∘Z3∘Zao∘ZK∘ZdC∘Za∘Za0) ?_;refine ye1 L [.cell 2 32,.tmp 3] fun u H hH hle=>?_;exact⟨_,qs Z,rfl,rfl⟩
   ·refine(Zaj∘ZaM∘Zdw∘Zy∘Zbj∘ZaT∘Zbl∘Zq∘Zt∘Zl∘Z9∘Zck) ?_;refine z81 L Z (fun u H hH _=>lg G G hH) ?_;refine(Zi∘ZY∘Zz∘Zs∘Zg∘Z6∘Z3∘Zao∘ZK∘ZdC∘Za∘Za0) ?_;refine ye1 L [.cell 2 32,.tmp 3] fun u H hH hle=>?_;exact⟨_,qs Z,rfl,rfl⟩
def zd9{e:Int}(hr:pgA s=(a,b,c,e))(hs:s.size<=1000000)(hB:zpk B w)(hM:GlobM B):
  Ret zpl 133 [.string s] w B (fun v _=>v=.tuple #[.agg #[.string a,.string b,.string c],.int .i64 e]):=zg5 hr hs hB hM
def zd1{e:Int}(hr:psA s=(a,b,c,e))(hs:s.size<=1000000)(hB:zpk B w)(hM:GlobM B):
  Ret zpl 134 [.string s] w B (fun v _=>v=.tuple #[.agg #[.string a,.string b,.string c],.int .i64 e]):=zgz hr hs hB hM
def _root_.Zb8(t:Wr Y->A:=by intro h;refine z8 (Oq Z Z Z Z (nf I)) Z ?_;exact h.1)(h:Y):A:=t ⟨h⟩
def _root_.Za1(t:Wr Y->A:=by intro h;refine z8 (Oq Z Z Z Z (ng I)) Z ?_;exact h.1)(h:Y):A:=t ⟨h⟩
def _root_.Zcp(t:Wr Y->A:=by intro h;refine z8 (Oo Z Z Z Z (ng I)) Z ?_;exact h.1)(h:Y):A:=t ⟨h⟩
def _root_.Zcv(t:Wr Y->A:=by intro h;refine z8 (Oo Z Z Z Z (nf I)) Z ?_;exact h.1)(h:Y):A:=t ⟨h⟩
def _root_.Zh(t:Wr Y->A:=by exact fun h=>(Ze∘Ze) h.1)(h:Y):A:=t ⟨h⟩
def _root_.ZaU(t:Wr Y->A:=by exact fun h=>(Zp∘ZS) h.1)(h:Y):A:=t ⟨h⟩
def _root_.Zcq(t:Wr Y->A:=by exact fun h=>(ZR∘Zb) h.1)(h:Y):A:=t ⟨h⟩
def _root_.ZaR(t:Wr Y->A:=by exact fun h=>(Za9∘ZeM) h.1)(h:Y):A:=t ⟨h⟩
def _root_.Zbm(t:Wr Y->A:=by exact fun h=>(Zh∘Zcq) h.1)(h:Y):A:=t ⟨h⟩
def _root_.Zbt(t:Wr Y->A:=by exact fun h=>(Zd∘Zam) h.1)(h:Y):A:=t ⟨h⟩
def _root_.ZbR(t:Wr Y->A:=by exact fun h=>(ZbZ∘ZaU) h.1)(h:Y):A:=t ⟨h⟩
def r6(hs:s.size<=9223372036854775807)(hB:zpk B w):
  Ret zpl 175 [.string s] w B (fun v _=>v=.int .i64 (chk s)):=by
 refine yf Tryz.func175 Z Tryz.ntmps175 (np Z) hB ?_;by_cases h0:1<=s.size/\s.size<=16
 ·obtain⟨h1,h2⟩:=h0;refine(Z5∘Za∘Zan∘ZN∘Zb∘Zan∘Zcv∘Zg∘Zi∘ZM∘Zbt) ?_
  refine xo (fun p:Nat×Bool=>[(0,.is (.string s)),(3,.is (.bool p.2)),(4,.is (.int .i64 p.1))])
   (fun p=>p.1<=s.size/\(p.2=true->(s.data.toList.take p.1).all okB=true)/\(p.2=false->chk s=6)) (fun p=>s.size-p.1) (0,true) ⟨mf _,fun _=>by simp,fun h=>by cases h⟩ ⟨rfl,rfl,rfl,nm⟩ ?_
  rintro⟨k,b⟩ ⟨hk,hall,hbad⟩;dsimp only at hk hall hbad |-;by_cases hlt:k<s.size
  ·cases b with
   | false=>
    refine(Zbm∘Zan∘Zai∘Zb∘Zg∘ZaR∘Ze∘ZH∘Zl∘ZK∘Zd) ?_;refine ye1 L [.tmp 2] fun u H hH hle=>?_;exact nh _ (hbad Z).symm
   | true=>
    obtain⟨c,hc⟩:=getElem?_lt hlt;have hu:=zdc c;by_cases a1:97<=(c.toNat:Int)
    ·by_cases a4:(c.toNat:Int)<=122
     ·refine(Zbm∘Zan∘Zai∘Zb∘Zg∘ZE∘Zae∘Zam∘Zb7∘Zaq∘Zb8∘Zz∘Zaq∘Zcv∘Zg∘Zb6∘Zc1∘Zc1∘Zc1∘Zg∘ZaU∘ZaB∘Z2∘ZbR) ?_;exact ym (x:=(k,true)) (k+1,true) ⟨hlt,fun _=>Af hc (zg8 I I) (hall Z),fun h=>(by cases h)⟩ M ⟨Z,Z,Z,nm⟩
     ·refine(Zbm∘Zan∘Zai∘Zb∘Zg∘ZE∘Zae∘Zam∘Zb7∘Zaq∘Zb8∘Zz∘Zaq∘Zcp∘Zg∘Zz∘Zaq∘Zb8∘Zz∘Zaq∘Zcp∘Zg∘Zg∘ZaU∘ZaB∘Z2∘ZbR) ?_;exact ym (x:=(k,true)) (k+1,false) ⟨hlt,fun h=>(by cases h),fun _=>Ef hc (zg9 I)⟩ M ⟨Z,Z,Z,nm⟩
    ·by_cases a2:48<=(c.toNat:Int)
     ·by_cases a3:(c.toNat:Int)<=57
      ·refine(Zbm∘Zan∘Zai∘Zb∘Zg∘ZE∘Zae∘Zam∘Zb7∘Zaq∘Za1∘Zb6∘Zg∘Zz∘Zaq∘Zb8∘Zz∘Zaq∘Zcv∘Zg∘Zg∘ZaU∘ZaB∘Z2∘ZbR) ?_;exact ym (x:=(k,true)) (k+1,true) ⟨hlt,fun _=>Af hc (zg7 I I) (hall Z),fun h=>(by cases h)⟩ M ⟨Z,Z,Z,nm⟩
      ·refine(Zbm∘Zan∘Zai∘Zb∘Zg∘ZE∘Zae∘Zam∘Zb7∘Zaq∘Za1∘Zb6∘Zg∘Zz∘Zaq∘Zb8∘Zz∘Zaq∘Zcp∘Zg∘Zg∘ZaU∘ZaB∘Z2∘ZbR) ?_;exact ym (x:=(k,true)) (k+1,false) ⟨hlt,fun h=>(by cases h),fun _=>Ef hc (zha I I)⟩ M ⟨Z,Z,Z,nm⟩
     ·refine(Zbm∘Zan∘Zai∘Zb∘Zg∘ZE∘Zae∘Zam∘Zb7∘Zaq∘Za1∘Zb6∘Zg∘Zz∘Zaq∘Za1∘Zb6∘Zg∘Zg∘ZaU∘ZaB∘Z2∘ZbR) ?_;exact ym (x:=(k,true)) (k+1,false) ⟨hlt,fun h=>(by cases h),fun _=>Ef hc (zhb I I)⟩ M ⟨Z,Z,Z,nm⟩
  ·cases b with
   | false=>
    refine(Zbm∘Zan∘Z0∘Za∘Zc5∘ZaR∘Ze∘ZH∘Zl∘ZK∘Zd) ?_;refine ye1 L [.tmp 2] fun u H hH hle=>?_;exact nh _ (hbad Z).symm
   | true=>
    refine(Zbm∘Zan∘Z0∘Za∘Zc5∘ZaR∘Ze∘ZH∘Zr∘Z8∘Zd) ?_;refine ye1 L [.tmp 2] fun u H hH hle=>?_;exact nh _ (Nl h1 h2 (Pw I (hall Z))).symm
 ·have hbad:=Nk h0;by_cases h1:1<=s.size
  ·have h2:16<s.size:=I;refine(Z5∘Za∘Zan∘ZN∘Zb∘Zan∘Zcp∘Zg∘Zi∘ZM∘Zbt) ?_;refine xo (fun _:Unit=>[(0,.is (.string s)),(3,.is (.bool false)),(4,.is (.int .i64 0))]) (fun _=>True) (fun _=>0) () trivial ⟨Z,Z,Z,nm⟩ ?_;rintro _ _;refine(Zbm∘Zan∘Zai∘Zb∘Zg∘ZaR∘Ze∘ZH∘Zl∘ZK∘Zd) ?_;refine ye1 L [.tmp 2] fun u H hH hle=>?_;exact nh _ hbad.symm
  ·refine(Z5∘Za∘Zan∘ZD∘Zbr∘Zi∘ZM∘Zbt) ?_;refine xo (fun _:Unit=>[(0,.is (.string s)),(3,.is (.bool false)),(4,.is (.int .i64 0))]) (fun _=>True) (fun _=>0) () trivial ⟨Z,Z,Z,nm⟩ ?_;rintro _ _;refine(Zbm∘Zan∘Z0∘Za∘Zc5∘ZaR∘Ze∘ZH∘Zl∘ZK∘Zd) ?_;refine ye1 L [.tmp 2] fun u H hH hle=>?_;exact nh _ hbad.symm
def max2(a b:ByteArray):(if chk b>chk a then chk b else chk a)=gl [a,b]:=by
 simp only[gl];rcases jy a with h | h<;>rcases jy b with h' | h'<;>simp [h,h']
def zky(a b c:ByteArray):(if chk c>gl [a,b] then chk c else gl [a,b])=gl [a,b,c]:=by
 simp only[gl];rcases jy a with h | h<;>rcases jy b with h' | h'<;>rcases jy c with h'' | h''<;>simp [h,h',h'']
def Mt(ha:a.size<=9223372036854775807)(hb:b.size<=9223372036854775807)(hB:zpk B w):
  Ret zpl 174 [.agg #[.string a,.string b]] w B (fun v _=>v=.int .i64 (gl [a,b])):=by
 refine yf Tryz.func174 Z Tryz.ntmps174 (np Z) hB ((ZA∘Zc∘Zcu∘Zb0) ?_);refine zh1 L Z (fun u H hH _=>r6 (by first | omega | decide) hH) ?_;refine Zb0 (h:=?_);refine zh1 L Z (fun u H hH _=>r6 (by first | omega | decide) hH) ?_;refine zh (Dr Z Z Z Z Z) Z (Za3 (h:=?_));refine ye1 L [.tmp 2] fun u H hH hle=>?_;exact nh _ (max2 a b)
def noB(s:ByteArray)(c:UInt8):Prop:=c∉s.data.toList
def bf(r:List UInt8)(c:UInt8):∀ (l:List UInt8),c∉l->Lib.indexByte (l++c::r) c=l.length
 | [],_=>by simp [Lib.indexByte]
 | b::l,h=>by
  have h1:¬ (b == c)=true:=fun e=>h (by rw[beq_iff_eq] at e;rw[e];exact mb ..);have ih:=bf r c l (fun e=>h (mc _ e));rw[zll,Lib.indexByte,nc h1,ih,nc (by rw[beq_iff_eq];omega)];simp
def am(c:UInt8):∀ (l:List UInt8),c∉l->Lib.indexByte l c= -1
 | [],_=>rfl
 | b::l,h=>by
  have h1:¬ (b == c)=true:=fun e=>h (by rw[beq_iff_eq] at e;rw[e];exact mb ..);rw[Lib.indexByte,nc h1,am c l (fun e=>h (mc _ e))];rfl
def zfi{l r:List UInt8}{c:UInt8}(h:c∉l):Lib.cut (l++c::r) [c]=(l,r,true):=by
 unfold Lib.cut;rw[Lib.index_one,bf r c l h,na I];simp
def zh3{l:List UInt8}{c:UInt8}(h:c∉l):Lib.cut l [c]=(l,[],false):=by
 unfold Lib.cut;rw[Lib.index_one,am c l h,nc I]
def kg(a b:ByteArray):(a++b).data.toList=a.data.toList++b.data.toList:=by
 rw[ByteArray.data_append,Array.toList_append]
def wn(h:a.data.toList=b.data.toList):a=b:=by
 obtain⟨⟨x⟩⟩:=a;obtain⟨⟨y⟩⟩:=b;simp at h;subst h;rfl
def ba_of(a:ByteArray):(⟨a.data.toList.toArray⟩:ByteArray)=a:=by obtain⟨⟨l⟩⟩:=a;rfl
def dm{c:UInt8}(h:noB a c):gk (a++⟨#[c]⟩++b) c=(a,b,true):=by
 have e:(a++⟨#[c]⟩++b).data.toList=a.data.toList++c::b.data.toList:=by rw[kg,kg];simp
 unfold gk;rw[e,zfi h]
def Gq{c:UInt8}(h:noB a c):gk a c=(a,⟨#[]⟩,false):=by
 unfold gk;rw[zh3 h]
def an{c:UInt8}(h:noB a c):Lz a c=false:=by
 unfold Lz;rw[am c _ h];rfl
def V7{c:UInt8}(h:noB a c):Xz a c=0:=by
 unfold Xz Lib.countByte;exact zmb h
def wc{c:UInt8}(h:noB a c)(k:noB b c):noB (a++b) c:=by
 unfold noB at *;rw[kg];simp [h,k]
def pd{c d:UInt8}(h:c≠d):noB ⟨#[d]⟩ c:=by unfold noB;simp [h]
structure zgb(s:ByteArray):Prop where
 colon:noB s 58
 hash:noB s 35
def dl(h:chk s=0):zgb s:=by
 unfold chk at h;split at h
 ·rename_i hc;have:=zlj.1 hc.2.2;exact⟨fun hm=>by have:=this _ hm;revert this;decide,fun hm=>by have:=this _ hm;revert this;decide⟩
 ·exact ni h J
def Tu(ha:zgb a)(hb:zgb b):wz (Fv a b)=some (a,b,⟨#[]⟩,false):=by
 have h1:gk (Fv a b) 58=(a,b,true):=dm ha.colon;unfold wz;rw[h1];simp only[an ha.hash,an hb.colon,V7 hb.hash,Gq hb.hash];simp
def Dq(ha:zgb a)(hb:zgb b)(hc:zgb c):wz (dy a b c)=some (a,b,c,true):=by
 have e:dy a b c=a++sCol++(b++sHash++c):=by unfold dy Fv;apply wn;simp only[kg,List.append_assoc]
 have h1:gk (dy a b c) 58=(a,b++sHash++c,true):=by rw[e];exact dm ha.colon
 have h2:noB (b++sHash++c) 58:=wc (wc hb.colon (pd J)) hc.colon
 have h3:Xz (b++sHash++c) 35=1:=by
  unfold Xz Lib.countByte;rw[kg,kg,zl7,zl7,zmb hb.hash,zmb hc.hash];simp
 have h4:gk (b++sHash++c) 35=(b,c,true):=dm hb.hash;unfold wz;rw[h1];simp only[an ha.hash,an h2,h3,h4];simp
def zic(h:gl [a,b]=0):chk a=0/\chk b=0:=by
 simp only[gl] at h;rcases jy a with h1 | h1<;>rcases jy b with h2 | h2<;>simp [h1,h2] at h |-
def Ls(h:gl [a,b,c]=0):chk a=0/\chk b=0/\chk c=0:=by
 simp only[gl] at h;rcases jy a with h1 | h1<;>rcases jy b with h2 | h2<;>rcases jy c with h3 | h3<;>simp [h1,h2,h3] at h |-
def G1(ha:chk a=0)(hb:chk b=0):gl [a,b]=0:=by simp [gl,ha,hb]
def G0(ha:chk a=0)(hb:chk b=0)(hc:chk c=0):gl [a,b,c]=0:=by simp [gl,ha,hb,hc]
def gu(h:tq a b c=0):chk a=0/\chk b=0/\(c=⟨#[]⟩\/chk c=0):=by
 unfold tq at h;split at h
 ·rename_i hc;exact⟨(zic h).1,(zic h).2,.inl hc⟩
 ·exact⟨(Ls h).1,(Ls h).2.1,.inr (Ls h).2.2⟩
def zd2(h:tq a b c=0):psA (ef a b c)=(a,b,c,0):=by
 obtain⟨ha,hb,hc⟩:=gu h;unfold psA ef;by_cases h0:c=⟨#[]⟩
 ·subst h0;rw[na rfl,Tu (dl ha) (dl hb)];simp only[G1 ha hb,if_true];simp
 ·have hc':chk c=0:=hc.resolve_left h0;rw[nc h0,Dq (dl ha) (dl hb) (dl hc')];simp only[G1 ha hb,hc',if_true]
def zea(ha:chk a=0)(hb:chk b=0)(hc:chk c=0):pgA (dy a b c)=(a,b,c,0):=by
 unfold pgA;rw[Dq (dl ha) (dl hb) (dl hc)];simp [G0 ha hb hc]
def subjT_size(a b c:ByteArray):(ef a b c).size<=a.size+b.size+c.size+2:=by
 unfold ef;split
 ·rw[objT_size];omega
 ·rw[goalT_size];omega
def _root_.Zj(t:Wr Y->A:=by intro h;refine zh (z9 Z Z Z) Z ?_;exact h.1)(h:Y):A:=t ⟨h⟩
def _root_.ZaW(t:Wr Y->A:=by intro h;refine zh (qy Z Z Z Z E) Z ?_;exact h.1)(h:Y):A:=t ⟨h⟩
def _root_.Zcw(t:Wr Y->A:=by intro h;refine z8 (yt Z Z Z Z (yz I I)) Z ?_;exact h.1)(h:Y):A:=t ⟨h⟩
def _root_.Zc3(t:Wr Y->A:=by intro h;refine qh (id:=8) [] x8 T ?_;exact h.1)(h:Y):A:=t ⟨h⟩
def _root_.ZcO(t:Wr Y->A:=by intro h;refine zh (qn L Z Z Z Z) Z ?_;exact h.1)(h:Y):A:=t ⟨h⟩
def _root_.Zeb(t:Wr Y->A:=by intro h;refine zh (zz L (vs:=[_,_]) (qs Z) Z Z Z Z ⟨_,rfl⟩) Z ?_;exact h.1)(h:Y):A:=t ⟨h⟩
def _root_.ZdD(t:Wr Y->A:=by intro h;refine qh (id:=5) [] x8 T ?_;exact h.1)(h:Y):A:=t ⟨h⟩
def _root_.ZdP(t:Wr Y->A:=by intro h;refine qh (id:=7) [] x8 T ?_;exact h.1)(h:Y):A:=t ⟨h⟩
def _root_.Zfb(t:Wr Y->A:=by intro h;refine zh1 L Z (fun u H hH _=>Mt G G hH) ?_;exact h.1)(h:Y):A:=t ⟨h⟩
def _root_.Zn(t:Wr Y->A:=by exact fun h=>(Zj∘Zj) h.1)(h:Y):A:=t ⟨h⟩
def _root_.ZU(t:Wr Y->A:=by exact fun h=>(ZbI∘Zb5) h.1)(h:Y):A:=t ⟨h⟩
def _root_.ZaX(t:Wr Y->A:=by exact fun h=>(Zy∘Za7) h.1)(h:Y):A:=t ⟨h⟩
def _root_.ZbL(t:Wr Y->A:=by exact fun h=>(Zb8∘ZE) h.1)(h:Y):A:=t ⟨h⟩
def fi(c:UInt8):List UInt8->Nat
 | []=>0
 | x::l=>if x=c then 0 else fi c l+1
def zhx{c:UInt8}:∀ {l:List UInt8},c∉l->fi c l=l.length
 | [],_=>rfl
 | x::l,h=>by
  rw[fi,nc fun e=>h (by rw[e];exact mb ..),zhx fun e=>h (mc _ e),nz]
def Pb{c:UInt8}{q:List UInt8}:∀ {p:List UInt8},c∉p->fi c (p++q)=p.length+fi c q
 | [],_=>by simp
 | x::p,h=>by
  rw[zll,fi,nc fun e=>h (by rw[e];exact mb ..),Pb fun e=>h (mc _ e),nz];omega
def zhy{c:UInt8}{q:List UInt8}:∀ {p:List UInt8},c∈p->fi c (p++q)<p.length
 | x::p,h=>by
  rw[zll,fi];split
  ·simp
  ·rename_i hx;have:=zhy (q:=q) ((nw.1 h).resolve_left fun e=>hx e.symm);simp only[nz];omega
def rz(s:ByteArray)(c:UInt8):noB s c\/∃ a b,s=a++⟨#[c]⟩++b/\noB a c:=by
 by_cases h:c∈s.data.toList
 ·obtain⟨p,q,e,hp⟩:=List.eq_append_cons_of_mem h;refine .inr ⟨⟨p.toArray⟩,⟨q.toArray⟩,wn ?_,by unfold noB;simpa using hp⟩;rw[kg,kg,e];simp
 ·exact .inl h
def bg(p q r:ByteArray)(i j:Nat)(hi:i=p.size)(hj:j=p.size+q.size):(p++q++r).extract i j=q:=by
 subst hi hj;apply wn;rw[ByteArray.data_extract,Array.toList_extract,List.extract,kg,kg];have h1:p.data.toList.length=p.size:=jl p;have h2:q.data.toList.length=q.size:=jl q;rw[mj,<-h1,zoi,zoj I]
def Gg{c:UInt8}(h:¬ noB a c):Lz a c=true:=by
 rcases rz a c with h1 | ⟨p,q,rfl,hp⟩
 ·exact ni h1 h
 ·unfold Lz;have e:(p++⟨#[c]⟩++q).data.toList=p.data.toList++c::q.data.toList:=by rw[kg,kg];simp
  rw[e,bf _ _ _ hp];simp
def rp1(s:ByteArray):ByteArray×ByteArray×ByteArray×Bool×Int:=
 match wz s with
 | none=>(pq,pq,pq,false,5)
 | some (x,y,z,d)=>(x,y,z,d,if d=true then gl [x,y,z] else gl [x,y])
def Ak(a b:ByteArray)(c:UInt8):(a++⟨#[c]⟩++b).data.toList=a.data.toList++c::b.data.toList:=by rw[kg,kg];simp
def Fx(a b:ByteArray)(c:UInt8):(a++⟨#[c]⟩++b).size=a.size+1+b.size:=by rw[m9,m9];rfl
def Li{c:UInt8}(h:¬ noB s c):0<s.data.toList.count c:=List.count_pos_iff.2 (Classical.not_not.1 h)
def ua{c:UInt8}{a:Nat}(ha:fi c s.data.toList=a)(hn:s.data.toList.count c=n)(hs:s.size<=1000000)(hB:zpk B w):
  Ret zpl 173 [.string s,.int .u8 c.toNat] w B (fun v _=>v=.tuple #[.int .i64 a,.int .i64 n]):=by
 subst ha hn;have hlen:=jl s;refine yf Tryz.func173 Z Tryz.ntmps173 (np Z) hB ((ZaL∘ZaM∘Zan∘Zbk∘Zq∘Zan∘Zcw∘Zbt) ?_)
 refine xo (fun x:Nat×Nat×Nat×Int=>[(0,.is (.string s)),(1,.is (.int .u8 c.toNat)),(6,.is (.int .i64 x.2.1)),(7,.is (.int .i64 x.2.2.1)),(8,.is (.int .i64 x.2.2.2))])
  (fun x=>x.1<=s.size/\x.2.1=x.1+fi c (s.data.toList.drop x.1)/\x.2.2.1=(s.data.toList.drop x.1).count c/\x.2.2.2=(x.1:Int)-1/\x.2.2.1<=s.size-x.1) (fun x=>x.1) (s.size,s.size,0,(s.size:Int)-1)
  ⟨ns _,by rw[zlk I];rfl,by rw[zlk I];rfl,rfl,mf _⟩ ⟨rfl,rfl,rfl,rfl,rfl,nm⟩ ?_
 rintro⟨i,a,n,z⟩ ⟨hi,ha,hn,hz,hb⟩;dsimp only at hi ha hn hz hb |-
 cases i with
 | zero=>
  rw[zl5] at ha hn;have hz0:z<0:=I;obtain rfl:a=fi c s.data.toList:=by omega
  subst hn;refine(Zh∘Zu∘Za1∘ZaR∘ZK∘Zb∘ZB) ?_;exact ye2 L [.tmp 4,.tmp 5]
 | succ k=>
  obtain rfl:z=(k:Int):=by omega
  obtain⟨x,hc⟩:=getElem?_lt (show k<s.size by omega)
  have hd:s.data.toList[k]?=some x:=by
   have:s.data[k]?=some x:=hc;simpa using this
  have hdr:s.data.toList.drop k=x::s.data.toList.drop (k+1):=by
   have h1:k<s.data.toList.length:=I;rw[zl4 h1];rw[zlq h1] at hd;rw[Option.some.inj hd]
  by_cases hx:x=c
  ·subst hx;refine(Zh∘Zu∘ZbL∘ZbF∘Zb7∘Zaq∘Za∘ZC∘Zr∘ZH∘Zd∘Z3∘ZbR∘ZaB∘Z2∘Zcw∘ZaU) ?_;exact ym (x:=(k+1,a,n,(k:Int))) (k,k,n+1,(k:Int)-1) ⟨by dsimp only;omega,by dsimp only;rw[hdr,fi,if_pos Z];rfl,by dsimp only;rw[hdr,List.count_cons_self,hn],rfl,by dsimp only;omega⟩ M ⟨Z,Z,Z,Z,Z,trivial⟩
  ·have hxc:(x.toNat:Int)≠(c.toNat:Int):=fun e=>hx (zok.1 I);refine(Zh∘Zu∘ZbL∘ZbF∘Zb7∘Zaq∘Za∘Zs∘Zca∘Z2∘Zcw∘ZaU) ?_;exact ym (x:=(k+1,a,n,(k:Int))) (k,a,n,(k:Int)-1) ⟨by dsimp only;omega,by dsimp only;rw[hdr,fi,if_neg hx,ha];omega,by dsimp only;rw[hdr,List.count_cons_of_ne hx,hn],rfl,by dsimp only;omega⟩ M ⟨Z,Z,Z,Z,Z,trivial⟩
def Ms{r:ByteArray×ByteArray×ByteArray×Bool×Int}(hr:rp1 s=r)(hs:s.size<=1000000)(hB:zpk B w):
  Ret zpl 106 [.string s] w B (fun v _=>v=.tuple #[.agg #[.string r.1,.string r.2.1],.string r.2.2.1,.bool r.2.2.2.1,.int .i64 r.2.2.2.2]):=by
 subst hr
 have bad:wz s=none->∀ {m k m2 k2:Nat},fi 58 s.data.toList=m->s.data.toList.count 58=k->fi 35 s.data.toList=m2->s.data.toList.count 35=k2->(k≠1\/1<k2\/m2<m)->
   Ret zpl 106 [.string s] w B (fun v _=>v=.tuple #[.agg #[.string (rp1 s).1,.string (rp1 s).2.1],.string (rp1 s).2.2.1,.bool (rp1 s).2.2.2.1,.int .i64 (rp1 s).2.2.2.2]):=by
  intro hp m k m2 k2 e1 e2 e3 e4 hor;have hr1:rp1 s=(pq,pq,pq,false,5):=by unfold rp1;rw[hp]
  rw[hr1];refine yf Tryz.func106 Z Tryz.ntmps106 (np Z) hB ?_;by_cases c1:k=1
  ·by_cases c2:1<k2
   ·refine(Zaj∘Zp∘Zp∘ZaM) ?_;refine z81 L Z (fun u H hH _=>ua (c:=58) e1 e2 hs hH) ?_;refine(ZaX∘Zq) ?_;refine z81 L Z (fun u H hH _=>ua (c:=35) e3 e4 hs hH) ?_;refine(Zy∘Zbk∘Zu∘ZG∘Zb∘ZN∘Zg∘Zbr∘Zr∘Z9∘ZdN∘ZaD∘Zp∘ZB) ?_;refine ye1 L [.cell 2 29,.tmp 3,.tmp 4,.tmp 5] fun u H hH hle=>?_;exact⟨_,qs Z,rfl,rfl⟩
   ·have c3:m2<m:=I;refine(Zaj∘Zp∘Zp∘ZaM) ?_;refine z81 L Z (fun u H hH _=>ua (c:=58) e1 e2 hs hH) ?_;refine(ZaX∘Zq) ?_;refine z81 L Z (fun u H hH _=>ua (c:=35) e3 e4 hs hH) ?_;refine(Zy∘Zbk∘Zu∘ZG∘Zb∘ZD∘Zg∘Zz∘Zai∘Zg∘Zr∘Z9∘ZdN∘ZaD∘Zp∘ZB) ?_;refine ye1 L [.cell 2 29,.tmp 3,.tmp 4,.tmp 5] fun u H hH hle=>?_;exact⟨_,qs Z,rfl,rfl⟩
  ·refine(Zaj∘Zp∘Zp∘ZaM) ?_;refine z81 L Z (fun u H hH _=>ua (c:=58) e1 e2 hs hH) ?_;refine(ZaX∘Zq) ?_;refine z81 L Z (fun u H hH _=>ua (c:=35) e3 e4 hs hH) ?_;refine(Zy∘Zbk∘Zu∘Zco∘Zc2∘Zg∘Zbr∘Zr∘Z9∘ZdN∘ZaD∘Zp∘ZB) ?_;refine ye1 L [.cell 2 29,.tmp 3,.tmp 4,.tmp 5] fun u H hH hle=>?_;exact⟨_,qs Z,rfl,rfl⟩
 rcases rz s 58 with h58 | ⟨a,b,rfl,ha⟩
 ·refine bad ?_ rfl Z Z Z (.inl ?_)
  ·unfold wz;rw[Gq h58];simp
  ·rw[zmb h58];decide
 ·have hcut:gk (a++⟨#[58]⟩++b) 58=(a,b,true):=dm ha;have hls:=Ak a b 58;have hsz:=Fx a b 58;by_cases hb:noB b 58
  ·have hf1:fi 58 (a++⟨#[58]⟩++b).data.toList=a.size:=by rw[hls,Pb ha,jl];simp [fi]
   have hc1:(a++⟨#[58]⟩++b).data.toList.count 58=1:=by rw[hls,zl7,znj,zmb ha,zmb hb]
   by_cases ha3:noB a 35
   ·have hf2:fi 35 (a++⟨#[58]⟩++b).data.toList=a.size+1+fi 35 b.data.toList:=by rw[hls,Pb ha3,jl,fi,nc J];omega
    have hc2:(a++⟨#[58]⟩++b).data.toList.count 35=b.data.toList.count 35:=by rw[hls,zl7,zmb ha3,List.count_cons_of_ne J];omega
    have hn1:=an ha3;have hn2:=an hb;have za:a.size<=1099511627776:=I;have zb:b.size<=1099511627776:=I;have hadd1:IntKind.i64.wrap ((a.size:Int)+1)=((a.size+1:Nat):Int):=yz I I |>.trans I
    have x1:(a++⟨#[58]⟩++b).extract 0 a.size=a:=by
     have:=bg ⟨#[]⟩ a (⟨#[58]⟩++b) 0 a.size rfl (by show _=0+_;omega)
     conv=>rhs;rw[<-this]
     congr 1;apply wn;simp [kg]
    rcases rz b 35 with hb3 | ⟨c,e,rfl,hc3⟩
    ·have hp:wz (a++⟨#[58]⟩++b)=some (a,b,pq,false):=by
      unfold wz;rw[hcut];simp only[hn1,hn2,V7 hb3,Gq hb3];simp
     have hr1:rp1 (a++⟨#[58]⟩++b)=(a,b,pq,false,gl [a,b]):=by unfold rp1;rw[hp];rfl
     rw[hr1];have hf3:fi 35 (a++⟨#[58]⟩++b).data.toList=a.size+1+b.size:=by rw[hf2,zhx hb3,jl]
     have hc3:(a++⟨#[58]⟩++b).data.toList.count 35=0:=by rw[hc2,zmb hb3]
     have x2:(a++⟨#[58]⟩++b).extract (a.size+1) (a.size+1+b.size)=b:=by
      have:=bg (a++⟨#[58]⟩) b ⟨#[]⟩ (a.size+1) (a.size+1+b.size) (by rw[m9];rfl) (by rw[m9];rfl)
      conv=>rhs;rw[<-this]
      congr 1;apply wn;simp [kg]
     generalize a++⟨#[58]⟩++b=s at *;refine yf Tryz.func106 Z Tryz.ntmps106 (np Z) hB ((Zaj∘Zp∘Zp∘ZaM) ?_);refine z81 L Z (fun u H hH _=>ua (c:=58) hf1 hc1 hs hH) ?_;refine(ZaX∘Zq) ?_;refine z81 L Z (fun u H hH _=>ua (c:=35) hf3 hc3 hs hH) ?_;refine(Zy∘Zbk∘Zu∘ZG∘Zb∘ZD∘Zg∘Zz∘Z0∘Zbd∘ZdD∘Zn) ?_;refine zh (k8 L (kl:=.i64) (pl:=0) 0 a.size Z Z Z Z Z ⟨rfl,rfl⟩ I I x1) Z ((Zn∘ZaW∘Zj) ?_);refine zh (k8 L (a.size+1) (a.size+1+b.size) Z Z Z Z ⟨rfl,rfl⟩ ⟨rfl,rfl⟩ I I x2) Z (zh (yl (cs:=[_,_]) Z Z zir Z Z) Z (zh (ql L Z Z Z Z) Z ((ZcO∘ZU∘Ze∘ZH∘ZC∘Zr∘ZdP∘Zeb∘Zeb∘Zfb∘ZcO∘Zaf∘Zaf∘Za3) ?_)));refine ye1 L [.cell 2 29,.tmp 3,.tmp 4,.tmp 5] fun u H hH hle=>?_;exact⟨_,qs Z,rfl,rfl⟩
    ·have hls2:=Ak c e 35;have hsz2:=Fx c e 35;by_cases he3:noB e 35
     ·have hcn:(c++⟨#[35]⟩++e).data.toList.count 35=1:=by rw[hls2,zl7,znj,zmb hc3,zmb he3]
      have hp:wz (a++⟨#[58]⟩++(c++⟨#[35]⟩++e))=some (a,c,e,true):=by
       unfold wz;rw[hcut];have h4:Xz (c++⟨#[35]⟩++e) 35=1:=hcn;simp only[hn1,hn2,h4,dm hc3];simp
      have hr1:rp1 (a++⟨#[58]⟩++(c++⟨#[35]⟩++e))=(a,c,e,true,gl [a,c,e]):=by unfold rp1;rw[hp];rfl
      rw[hr1];have hf3:fi 35 (a++⟨#[58]⟩++(c++⟨#[35]⟩++e)).data.toList=a.size+1+c.size:=by rw[hf2,hls2,Pb hc3,jl];simp [fi]
      have hc4:(a++⟨#[58]⟩++(c++⟨#[35]⟩++e)).data.toList.count 35=1:=by rw[hc2,hcn]
      have x2:(a++⟨#[58]⟩++(c++⟨#[35]⟩++e)).extract (a.size+1) (a.size+1+c.size)=c:=by
       have:=bg (a++⟨#[58]⟩) c (⟨#[35]⟩++e) (a.size+1) (a.size+1+c.size) (by rw[m9];rfl) (by rw[m9];rfl)
       conv=>rhs;rw[<-this]
       congr 1;apply wn;simp [kg]
      have x3:(a++⟨#[58]⟩++(c++⟨#[35]⟩++e)).extract (a.size+1+c.size+1) (a++⟨#[58]⟩++(c++⟨#[35]⟩++e)).size=e:=by
       have:=bg (a++⟨#[58]⟩++c++⟨#[35]⟩) e ⟨#[]⟩ (a.size+1+c.size+1) (a++⟨#[58]⟩++(c++⟨#[35]⟩++e)).size (by simp only[m9];rfl) (by simp only[m9];rw[show(⟨#[58]⟩:ByteArray).size=1 from rfl,show(⟨#[35]⟩:ByteArray).size=1 from rfl];omega)
       conv=>rhs;rw[<-this]
       congr 1;apply wn;simp [kg]
      have hsz3:(a++⟨#[58]⟩++(c++⟨#[35]⟩++e)).size=a.size+1+(c.size+1+e.size):=by rw[hsz,hsz2]
      have zc:c.size<=1099511627776:=I;have ze:e.size<=1099511627776:=I;have hadd2:IntKind.i64.wrap (((a.size+1+c.size:Nat):Int)+1)=((a.size+1+c.size+1:Nat):Int):=yz I I |>.trans I;have hmx:=zky a c e;generalize a++⟨#[58]⟩++(c++⟨#[35]⟩++e)=s at *;refine yf Tryz.func106 Z Tryz.ntmps106 (np Z) hB ((Zaj∘Zp∘Zp∘ZaM) ?_);refine z81 L Z (fun u H hH _=>ua (c:=58) hf1 hc1 hs hH) ?_;refine(ZaX∘Zq) ?_;refine z81 L Z (fun u H hH _=>ua (c:=35) hf3 hc4 hs hH) ?_;refine(Zy∘Zbk∘Zu∘ZG∘Zb∘ZD∘Zg∘Zz∘Z0∘Zbd∘ZdD∘Zn) ?_;refine zh (k8 L (kl:=.i64) (pl:=0) 0 a.size Z Z Z Z Z ⟨rfl,rfl⟩ I I x1) Z ((Zn∘ZaW∘Zj) ?_);refine zh (k8 L (a.size+1) (a.size+1+c.size) Z Z Z Z ⟨rfl,rfl⟩ ⟨rfl,rfl⟩ I I x2) Z (zh (yl (cs:=[_,_]) Z Z zir Z Z) Z (zh (ql L Z Z Z Z) Z ((ZcO∘ZU∘Ze∘ZH∘Zs∘Zl∘Zc3∘Zeb∘Zn∘ZaW) ?_)));refine zh (k8 L (kh:=.i64) (ph:=0) (a.size+1+c.size+1) _ Z Z Z Z ⟨rfl,rfl⟩ Z I I x3) Z ((Zeb∘Zfb∘Zn∘ZaW) ?_);refine zh (k8 L (kh:=.i64) (ph:=0) (a.size+1+c.size+1) _ Z Z Z Z ⟨rfl,rfl⟩ Z I I x3) Z (zh1 L Z (fun u H hH _=>r6 (by first | omega | decide) hH) ?_);refine zh (Dr Z Z Z Z E) Z ((ZcO∘Zaf∘Zaf∘Za3) ?_);refine ye1 L [.cell 2 29,.tmp 3,.tmp 4,.tmp 5] fun u H hH hle=>?_;exact⟨_,qs Z,rfl,rfl⟩
     ·have hcn:1<(c++⟨#[35]⟩++e).data.toList.count 35:=by have:=Li he3;rw[hls2,zl7,znj];omega
      refine bad ?_ rfl Z Z Z (.inr (.inl (by rw[hc2];exact hcn)));unfold wz;rw[hcut];have h4:¬ Xz (c++⟨#[35]⟩++e) 35<=1:=by unfold Xz Lib.countByte;omega
      simp only[h4,and_false,if_false]
   ·refine bad ?_ rfl Z Z Z (.inr (.inr ?_))
    ·unfold wz;rw[hcut];simp only[Gg ha3];simp
    ·rw[hf1,hls,<-jl];exact zhy (Classical.not_not.1 ha3)
  ·refine bad ?_ rfl Z Z Z (.inl ?_)
   ·unfold wz;rw[hcut];simp only[Gg hb];simp
   ·have:=Li hb;rw[hls,zl7,znj];omega
def w7{x y z:ByteArray}{d:Bool}{e:Int}(hr:rp1 s=(x,y,z,d,e))(hs:s.size<=1000000)(hB:zpk B w):
  Ret zpl 106 [.string s] w B (fun v _=>v=.tuple #[.agg #[.string x,.string y],.string z,.bool d,.int .i64 e]):=Ms hr hs hB
end Go.V
end
namespace Go.V.L11
abbrev sNl:ByteArray:=⟨#[10]⟩
def Sb:List UInt8->List UInt8->List (List UInt8)
 | acc,[]=>if acc=[] then [] else [acc]
 | acc,c::l=>if c=10 then (acc++[c])::Sb [] l else Sb (acc++[c]) l
def U6:∀ {l acc:List UInt8},10∉l->Sb acc l=if acc++l=[] then [] else [acc++l]
 | [],acc,_=>by rw[mo];rfl
 | c::l,acc,h=>by
  rw[nw,not_or] at h;show(if c=10 then _ else _)=_;rw[nc (Ne.symm h.1),U6 h.2,mj];rfl
def O4:∀ {a b acc:List UInt8},10∉a->Sb acc (a++10::b)=(acc++a++[10])::Sb [] b
 | [],b,acc,_=>by rw[mo];exact na rfl
 | c::a,b,acc,h=>by
  rw[nw,not_or] at h;show(if c=10 then _ else _)=_;rw[nc (Ne.symm h.1)];refine(O4 (a:=a) (b:=b) (acc:=acc++[c]) h.2).trans ?_;simp
def pu(s:ByteArray):List ByteArray:=(Sb [] s.data.toList).map fun l=>⟨l.toArray⟩
def F4:pu ⟨#[]⟩=[]:=rfl
def ba_of(s:ByteArray):(⟨s.data.toList.toArray⟩:ByteArray)=s:=by cases s;simp
def zex(h:noB s 10)(hn:s≠⟨#[]⟩):pu s=[s]:=by
 unfold pu;rw[U6 h,mh,nc (fun e=>hn (wn e)),mq,zlo,ba_of]
def F5(h:noB a 10):pu (a++sNl++b)=(a++sNl)::pu b:=by
 unfold pu;have e:(a++sNl++b).data.toList=a.data.toList++10::b.data.toList:=by simp [kg]
 rw[e,O4 h,mq,mh];congr 1
def Ec(x:ByteArray):Option ByteArray:=if x.data.toList.getLast?=some 10 then some ⟨x.data.toList.dropLast.toArray⟩ else none
def zfe(a:ByteArray):Ec (a++sNl)=some a:=by
 unfold Ec;have e:(a++sNl).data.toList=a.data.toList++[10]:=by simp [kg]
 rw[e,na (by simp),List.dropLast_concat,ba_of]
def Cm{x:ByteArray}(h:Ec x=some r):x=r++sNl:=by
 unfold Ec at h;split at h
 ·rename_i hl;cases h;apply wn;rw[kg];obtain⟨ys,hy⟩:=List.getLast?_eq_some_iff.1 hl;show x.data.toList=x.data.toList.dropLast.toArray.toList++[10];rw[hy];simp
 ·cases h
def du{X:Type}(rd:ByteArray->X×Int):List X->Nat->List ByteArray->List X×Nat×Int
 | out,_,[]=>(out,0,0)
 | out,n,x::xs=>if 4096<n then ([],n,3) else match Ec x with
  | none=>([],n,5)
  | some r=>if (rd r).2≠0 then ([],n,(rd r).2) else du rd (out++[(rd r).1]) (n+1) xs
def tw{X:Type}(rd:ByteArray->X×Int)(s:ByteArray):List X×Nat×Int:=if 1048576<s.size then ([],0,3) else du rd [] 1 (pu s)
def rf{X:Type}(rd:ByteArray->X×Int)(n:Nat)(x:ByteArray):Bool:=decide (4096<n) || match Ec x with | none=>true | some r=>(rd r).2 != 0
def we{X:Type}(rd:ByteArray->X×Int):Nat->List ByteArray->Bool
 | _,[]=>true
 | n,x::xs=>!rf rd n x && we rd (n+1) xs
def rc{X:Type}(rd:ByteArray->X×Int)(xs:List ByteArray):List X:=xs.filterMap fun x=>(Ec x).map fun r=>(rd r).1
def ah{X:Type}{rd:ByteArray->X×Int}:∀ {xs ys:List ByteArray} {out:List X} {n:Nat},we rd n xs=true->du rd out n (xs++ys)=du rd (out++rc rd xs) (n+xs.length) ys
 | [],ys,out,n,_=>by simp [rc]
 | x::xs,ys,out,n,h=>by
  unfold we at h;rw[zlw] at h;obtain⟨h1,h2⟩:=h;unfold rf at h1;simp only[Bool.not_eq_true',Bool.or_eq_false_iff,decide_eq_false_iff_not] at h1;obtain⟨h3,h4⟩:=h1
  have e:du rd out n (x::xs++ys)=if 4096<n then ([],n,3) else match Ec x with
   | none=>([],n,5)
   | some r=>if (rd r).2≠0 then ([],n,(rd r).2) else du rd (out++[(rd r).1]) (n+1) (xs++ys):=rfl
  rw[e,nc h3]
  cases hx:Ec x with
  | none=>rw[hx] at h4;cases h4
  | some r=>
   rw[hx] at h4;have h5:¬ (rd r).2≠0:=by simpa using h4
   dsimp only;rw[nc h5,ah h2]
   have e2:rc rd (x::xs)=(rd r).1::rc rd xs:=by
    unfold rc;rw[List.filterMap_cons,hx];rfl
   rw[e2,mj,nz,show n+1+xs.length=n+(xs.length+1) by omega];rfl
def ve{X:Type}{rd:ByteArray->X×Int}{y:ByteArray}:∀ {ls:List ByteArray} {n:Nat},we rd n (ls++[y])=(we rd n ls && !rf rd (n+ls.length) y)
 | [],n=>by simp [we]
 | x::ls,n=>by
  show(!rf rd n x && we rd (n+1) (ls++[y]))=((!rf rd n x && we rd (n+1) ls) && _);rw[ve,nz,show n+1+ls.length=n+(ls.length+1) by omega,Bool.and_assoc]
def tx{X:Type}(rd:ByteArray->X×Int):Nat->List ByteArray->List X
 | _,[]=>[]
 | n,x::xs=>if rf rd n x=true then [] else rc rd [x]++tx rd (n+1) xs
def fm{X:Type}{rd:ByteArray->X×Int}{ys:List ByteArray}:∀ {ls:List ByteArray} {n:Nat},we rd n ls=true->tx rd n (ls++ys)=rc rd ls++tx rd (n+ls.length) ys
 | [],n,_=>by simp [rc]
 | x::ls,n,h=>by
  unfold we at h;rw[zlw] at h;have h1:rf rd n x=false:=by simpa using h.1
  show(if rf rd n x=true then [] else rc rd [x]++tx rd (n+1) (ls++ys))=_;rw[nc (by rw[h1];decide),fm h.2,nz,show n+1+ls.length=n+(ls.length+1) by omega,<-mj];congr 1;unfold rc;rw[<-List.filterMap_append];rfl
def r7{X:Type}{rd:ByteArray->X×Int}(h:we rd 1 ls=true):du rd [] 1 ls=(rc rd ls,0,0):=by
 have:=ah (rd:=rd) (xs:=ls) (ys:=[]) (out:=[]) h;rw[mo] at this;rw[this];rfl
def r9{X:Type}{rd:ByteArray->X×Int}(h:we rd 1 ls=true):tx rd 1 ls=rc rd ls:=by
 have:=fm (rd:=rd) (ys:=[]) h;rw[mo] at this;rw[this];exact mo _
def Hf{X:Type}{rd:ByteArray->X×Int}{y:ByteArray}(h:Ec y=some r):rc rd (ls++[y])=rc rd ls++[(rd r).1]:=by
 unfold rc;rw[List.filterMap_append];congr 1;simp [h]
def Ab{X:Type}{rd:ByteArray->X×Int}:(rc rd ls).length<=ls.length:=List.length_filterMap_le ..
def i7{X:Type}{rd:ByteArray->X×Int}{y:ByteArray}(h:we rd 1 ls=true)(hn:4096<1+ls.length):du rd [] 1 (ls++y::ys)=([],1+ls.length,3):=by
 rw[ah h];exact na hn
def i8{X:Type}{rd:ByteArray->X×Int}{y:ByteArray}(h:we rd 1 ls=true)(hn:¬ 4096<1+ls.length)(he:Ec y=none):du rd [] 1 (ls++y::ys)=([],1+ls.length,5):=by
 rw[ah h];unfold du;rw[nc hn,he]
def Ai{X:Type}{rd:ByteArray->X×Int}{y:ByteArray}(h:we rd 1 ls=true)(hn:¬ 4096<1+ls.length)(he:Ec y=some r)(hr:(rd r).2≠0):du rd [] 1 (ls++y::ys)=([],1+ls.length,(rd r).2):=by
 rw[ah h];unfold du;rw[nc hn,he];exact na hr
def zae{X:Type}{rd:ByteArray->X×Int}{y:ByteArray}(h:we rd 1 ls=true)(hb:rf rd (1+ls.length) y=true):du rd [] 1 (ls++y::ys)=du rd [] 1 (ls++[y]):=by
 by_cases hn:4096<1+ls.length
 ·rw[i7 h hn,i7 h hn]
 ·cases he:Ec y with
  | none=>rw[i8 h hn he,i8 h hn he]
  | some r=>
   have hr:(rd r).2≠0:=by
    unfold rf at hb;rw[he] at hb;simpa [hn] using hb
   rw[Ai h hn he hr,Ai h hn he hr]
def Cd:∀ {l acc x:List UInt8},x∈Sb acc l->x.length<=acc.length+l.length
 | [],acc,x,h=>by
  have h':x∈if acc=[] then ([]:List (List UInt8)) else [acc]:=h
  split at h'
  ·cases h'
  ·rw[mz] at h';subst h';simp
 | c::l,acc,x,h=>by
  have h':x∈if c=10 then (acc++[c])::Sb [] l else Sb (acc++[c]) l:=h
  rw[nz];split at h'
  ·rcases nw.1 h' with rfl | h2
   ·simp
   ·have:=Cd h2;simp at this;omega
  ·have:=Cd h';simp at this;omega
def Kx{y:ByteArray}(h:y∈pu s):y.size<=s.size:=by
 unfold pu at h;obtain⟨l,hl,rfl⟩:=zlb.1 h;have:=Cd hl;rw[jl] at this;show l.toArray.size<=_;simpa using this
def Ff{X:Type}{rd:ByteArray->X×Int}:∀ {xs:List ByteArray} {n:Nat} {out:List X},we rd n xs=false->(du rd out n xs).1=[]
 | [],_,_,h=>by cases h
 | x::xs,n,out,h=>by
  unfold we at h;unfold du;by_cases hn:4096<n
  ·rw[na hn]
  ·rw[nc hn]
   cases he:Ec x with
   | none=>rfl
   | some r=>
    dsimp only;by_cases hr:(rd r).2≠0
    ·rw[na hr]
    ·rw[nc hr]
     have hb:rf rd n x=false:=by
      unfold rf;rw[he];simp at hr;simp [hn,hr]
     rw[hb] at h;exact Ff (by simpa using h)
end Go.V.L11
namespace Go.V
def zio(P:Program)(f:FuncId)(caps:List Value)(gr:GR)(w:World)(B:Heap)(xs:wo):Prop:=
 ∀ (l:Nat) (zpg:wo->GR) (stop:wo->Bool) (C Cg:Nat->Prop),stop []=false->Cv P l zpg stop xs->(zpg []).P B w C->(ZCB C w B)->gr.P B w Cg->(ZCB Cg w B)->(∀ k,C k->¬ Cg k)->
  RetL P f (.func (.yield l) #[] #[]::caps) w B (fun k=>C k\/Cg k) fun _ H u=>∃ C',(zpg (jh stop [] xs)).P H u C'/\∀ k,C' k->((C k\/Cg k)\/w.heap.size<=k)/\k<u.heap.size/\H k=none
section
variable             {a:Act}      {ex:Exs}
def JcX(Cg:Nat->Prop)(F:Fr)(B:Heap)(n:Nat)(a0:Act)(H0:Heap)(N1:Nat)(O':wo->Boxes)(K:wo->Kap)(pre:wo):GR where
 P Hit u C:=∃ Hc fp,HasH F B (O' pre) n (K pre) a0 u Hc fp/\H0.Le Hc/\H0.Le Hit/\(∀ y∈O' pre,y.1<N1)/\N1<=u.heap.size/\F.w0.heap.size<=N1/\
  (∀ k,Cg k->k<N1/\(F.w0.heap.size<=k\/F.L k)/\Hc k=none)/\(∀ y∈O' pre,¬ Cg y.1)/\(∀ t r k,K pre t=some (.own r)->fp t k->¬ Cg k)/\
  (∀ k,C k↔(k<N1/\H0 k=none/\¬ Cg k)\/(N1<=k/\((Hc k).isSome=true\/∃ t r,K pre t=some (.own r)/\fp t k)))
 st:=by
  rintro Hit u C Hit' u' ⟨Hc,fp,hh,h1,h2,h3,h4,h5,hx1,hx2,hx3,hC⟩ hle hsub hon hk
  have hCt:∀ t r k,K pre t=some (.own r)->fp t k->C k:=fun t r k ht hf=>by
   rw[hC];rcases m8 k N1 with hlt | hge
   ·refine .inl ⟨hlt,?_,hx3 t r k ht hf⟩;have:=((hh.slot t _ ht).2 k hf).2.1
    cases hx:H0 k with
    | none=>rfl
    | some o=>rw[h1 k o hx] at this;cases this
   ·exact .inr ⟨hge,.inr ⟨t,r,ht,hf⟩⟩
  have hCb:∀ y∈O' pre,C y.1:=fun y hy=>by
   rw[hC];refine .inl ⟨h3 y hy,?_,hx2 y hy⟩;have:=(hh.boxes y hy).2.1
   cases hx:H0 y.1 with
   | none=>rfl
   | some o=>rw[h1 _ o hx] at this;cases this
  have hold:∀ k o,H0 k=some o->u'.heap[k]?=u.heap[k]?:=fun k o ho=>
   ((hsub k o (hle k o (h2 k o ho))):u'.heap[k]?=some o).trans ((hh.sub k o (h1 k o ho)):u.heap[k]?=some o).symm
  have hsub':Hc.Le (hp u'):=fun k o ho=>by
   show u'.heap[k]?=some o
   cases hx:H0 k with
   | some o'=>rw[hold k o' hx];exact hh.sub k o ho
   | none=>
    rw[hk k ((hC k).2 ?_)]
    ·exact hh.sub k o ho
    ·rcases m8 k N1 with hlt | hge
     ·exact .inl ⟨hlt,hx,fun hg=>by rw[(hx1 k hg).2.2] at ho;cases ho⟩
     ·exact .inr ⟨hge,.inl (by rw[ho];rfl)⟩
  refine⟨Hc,fp,⟨hh.size,hh.defers,hh.nodup,hh.marks,hh.lent,?_,hsub',hh.base,hh.fresh,fun y hy=>?_,hh.apart,fun t k ht=>?_,hh.owns,hh.mono⟩,h1,h2.trans hle,h3,zld h4 hon.size,h5,hx1,hx2,hx3,hC⟩
  ·refine⟨hon.os.trans hh.keep.os,hon.tape.trans hh.keep.tape,hon.output.trans hh.keep.output,zld hh.keep.size hon.size,fun k hk' hl=>?_,zld hh.keep.dr hon.dr⟩;refine Eq.trans ?_ (hh.keep.block k hk' hl)
   cases hx:H0 k with
   | some o=>exact hold k o hx
   | none=>exact hk k ((hC k).2 (.inl ⟨by omega,hx,fun hg=>by
     rcases(hx1 k hg).2.1 with h | h
     ·omega
     ·exact hl h⟩))
  ·obtain⟨g1,g2,g3⟩:=hh.boxes y hy;exact⟨(hk _ (hCb y hy)).trans g1,g2,g3⟩
  ·have hs:=hh.slot t k ht
   cases k with
   | is _=>exact hs
   | sat _=>exact hs
   | own r=>exact⟨r.st hs.1 (mt _) hsub' hon fun k hf=>hk k (hCt t r k ht hf),fun k hf=>by
     obtain⟨g1,g2,g3,g4⟩:=hs.2 k hf;exact⟨zme g1 hon.size,g2,g3,g4⟩⟩
def Lv(L:Tabs P)(gi:Nat){gr:GR}{f:Operand}{params:Array Tmp}{assign body:Code}{gf:Nat}{caps:List Value}
  (fx:List (Nat×Value)) (zpj:wo→List (Nat×Res)) (K1:wo→List Value→List (Nat×Kn)) (xs:wo) (stop:wo→Bool) (jc:wo→Code)
  (hr:F.r=none) (hf:evK κ f=some (.func (.func gf) #[] caps.toArray)) (hfn:L.fn gf=some ())
  (hgi:κ gi=some (.own gr.res)) (hGi:∀ pre,∀ p∈zpj pre,p.1≠gi) (h0:LiveOK (gK' (zpj [])++zcw fx) κ) (hG:∀ pre,∀ p∈zpj pre,n≤p.1) (hst0:stop []=false)
  (hps:∀ x∈xs,x.length=params.size) (hpn:∀ t∈params.toList,t<n)
  (hit:∀ u H,H.Le (hp u)→B.Le H→zio P gf caps gr u H xs)
  (hassign:∀ (w1:World) (Ln:Nat→Prop) (B':Heap) (l D:Nat) (o:Obj) (pre:wo) (x:List Value),pre++[x]<+:xs→stop pre=false→B.Le B'→
   V P ⟨w1,some l,[],Ln⟩ B' n ((l,o)::(D,.deferred (some []))::O) (ziq (KK fx (zpj pre)) (params.toList.zip x)) assign (Exit.then (fun a u=>Has ⟨w1,some l,[],Ln⟩ B' ((l,o)::(D,.deferred (some []))::O) n (ofL (K1 pre x)) a u) (fun _ _ _=>False)))
  (hbody:∀ (w1:World) (Ln:Nat→Prop) (B':Heap) (l D:Nat) (o:Obj) (pre:wo) (x:List Value),pre++[x]<+:xs→stop pre=false→B.Le B'→
   V P ⟨w1,some l,[],Ln⟩ B' n ((l,o)::(D,.deferred (some []))::O) (ofL (K1 pre x)) body (zb3 ⟨w1,some l,[],Ln⟩ B' n ((l,o)::(D,.deferred (some []))::O) zpj stop jc (pre++[x])))
  (hdone:∀ (l D:Nat) (o:Obj),stop (jh stop [] xs)=false→N ⟨F.w0,F.r,.m D::F.ds,F.L⟩ B n ((l,o)::(D,.deferred (some []))::O) (KK fx (zpj (jh stop [] xs))) Q)
  (hstop:∀ (l D:Nat) (o:Obj),stop (jh stop [] xs)=true→V P ⟨F.w0,F.r,.m D::F.ds,F.L⟩ B n ((l,o)::(D,.deferred (some []))::O) (KK fx (zpj (jh stop [] xs))) (jc (jh stop [] xs)) Q):
  V P F B n O κ (.rangeFunc f params assign body) Q:=by
 obtain⟨w0,r,ds,Lf⟩:=F;dsimp only at hr;subst hr;rintro a u ⟨H,fp,hh⟩
 have e := hh.env (ops := #[]) (o := ⟨none, .move f, 0, "", #[], none⟩) (κ := κ) (fun _ _ => rfl)
 have hfe:a.eval f=.func (.func gf) #[] caps.toArray:=e.is_ f _ (by simp [Op.operands]) hf;refine wpIn_rangeFunc fun fn _=>?_
 --the record
 have hD0:(.loop { state:=.ready,pending:=none,fn,tmps:=a.tmps,params,assign,body,defers:=u.heap.size }:Obj)=.loop { state:=.ready,pending:=none,fn,tmps:=a.tmps,params,assign,body,defers:=u.heap.size }:=rfl;generalize hrec:({ state:=.ready,pending:=none,fn,tmps:=a.tmps,params,assign,body,defers:=u.heap.size }:Loop)=rec0 at hD0;have hh1:=(hh.newBox (.deferred (some []))).newBox (.loop rec0);rw[World.size_alloc] at hh1;generalize hw1:(u.alloc (.deferred (some []))).alloc (.loop rec0)=w1 at hh1;have hN1:w1.heap.size=u.heap.size+2:=by subst hw1;simp
 let recS:wo→Loop:=fun pre=>if stop pre=true then { rec0 with state:=.done,pending:=some (jc pre) } else rec0
 let O':wo→Boxes:=fun pre=>(u.heap.size+1,.loop (recS pre))::(u.heap.size,.deferred (some []))::O
 let F1:Fr:=⟨w0,none,[],Lf⟩
 let a0:Act:={ tmps:=a.tmps,defers:=[] }
 have hCg:=fun k (hk:fp gi k)=>((hh1.slot gi _ hgi).2 k hk)
 have hCg0:=fun k (hk:fp gi k)=>((hh.slot gi _ hgi).2 k hk)
 have hCg1:∀ k,fp gi k→k<w1.heap.size:=fun k hk=>(hCg k hk).1
 let zpg:wo→GR:=JcX (fp gi) F1 B n a0 H w1.heap.size O' fun pre=>KK fx (zpj pre)
 have hrec0:rec0.state=.ready∧rec0.pending=none∧rec0.fn=fn∧rec0.tmps=a.tmps∧rec0.params=params∧rec0.assign=assign∧rec0.body=body:=by subst hrec;exact⟨rfl,rfl,rfl,rfl,rfl,rfl,rfl⟩
 have hO'mem:∀ pre pre' y,y∈O' pre'→∃ y'∈O' pre,y'.1=y.1:=fun pre pre' y hy=>by
  rcases nw.1 hy with rfl | hy
  ·exact⟨_,mb ..,rfl⟩
  ·exact⟨y,mc _ hy,rfl⟩
 have hfix:∀ t k,ofL (zcw fx) t=some k→∀ v,k=.is v→a0.eval (.tmp t)=v:=fun t k ht v hv=>by
  subst hv;exact hh.slot t _ ((LiveOK.right h0).get ht)
 have hrecS0:recS []=rec0:=nc (by rw[hst0];simp)
 --at the start
 have hstart:HasH F1 B (O' []) n (KK fx (zpj [])) a0 w1 H fp:=by
  have h2:=hh1.sub_kap (κ2:=KK fx (zpj [])) fun t k hk=>h0.get hk;have:O' []=(u.heap.size+1,.loop rec0)::(u.heap.size,.deferred (some []))::O:=by show(_,Obj.loop (recS []))::_=_;rw[hrecS0]
  rw[this];exact⟨h2.size,rfl,zmo,(fun _ h=>by cases h),h2.lent,h2.keep,h2.sub,h2.base,h2.fresh,h2.boxes,h2.apart,h2.slot,h2.owns,h2.mono⟩
 have hOg0:∀ pre,∀ y∈O' pre,¬ fp gi y.1:=fun pre y hy hg=>by
  rcases nw.1 hy with rfl | hy
  ·have:=(hCg0 _ hg).1;dsimp only at this;omega
  ·rcases nw.1 hy with rfl | hy
   ·have:=(hCg0 _ hg).1;dsimp only at this;omega
   ·exact(hCg0 _ hg).2.2.2 y hy Z
 have hyg:=hOg0 []
 have hKgi:∀ pre,ofL (gK' (zpj pre)) gi=none:=fun pre=>by
  have:∀ l:List (Nat×Res),(∀ p∈l,p.1≠gi)→ofL (gK' l) gi=none:=fun l=>by
   induction l with
   | nil=>exact fun _=>rfl
   | cons p l ih=>
    intro h;show upd (ofL (gK' l)) p.1 (.own p.2) gi=none;rw[xe _ _ (Ne.symm (h p (mb ..)))];exact ih fun q hq=>h q (mc _ hq)
  exact this _ (hGi pre)
 have hKne:∀ pre t r,KK fx (zpj pre) t=some (.own r)→t≠gi:=fun pre t r ht he=>by
  subst he;have:=tn (hG pre) ht;rw[hKgi pre] at this;cases this
 have hog:∀ t r k,KK fx (zpj []) t=some (.own r)→fp t k→¬ fp gi k:=fun t r k ht hf hg=>
  hh.owns t gi r gr.res (hKne [] t r ht) (h0.get ht) hgi k hf hg
 let C0:Nat→Prop:=fun k=>(k<w1.heap.size∧H k=none∧¬ fp gi k)∨(w1.heap.size≤k∧((H k).isSome=true∨∃ t r,KK fx (zpj []) t=some (.own r)∧fp t k))
 have hJ0:(zpg []).P H w1 C0:=⟨H,fp,hstart,mt _,mt _,fun y hy=>xc (hstart.boxes y hy).1,ns _,hstart.keep.size,fun k hk=>⟨hCg1 k hk,(hCg k hk).2.2.1,(hCg k hk).2.1⟩,fun y hy hg=>hyg y hy hg,hog,fun _=>Iff.rfl⟩
 have hC0:∀ k,C0 k→k<w1.heap.size∧H k=none:=fun k hk=>by
  rcases hk with h | ⟨h1,h | ⟨t,r,ht,hf⟩⟩
  ·exact⟨h.1,h.2.1⟩
  ·rw[k9 hstart.sub h1] at h;cases h
  ·have:=((hstart.slot t _ ht).2 k hf).1;omega
 --the rounds
 have hY:Cv P (u.heap.size+1) zpg stop xs:=by
  rintro pre x hpre hstp v Hit C hsubv ⟨Hc,fpc,hc,c1,c2,c3,c4,c5,x1,x2,x3,c6⟩ hCv;have hrp:recS pre=rec0:=nc (by rw[hstp];simp);have hOp:O' pre=(u.heap.size+1,.loop rec0)::(u.heap.size,.deferred (some []))::O:=by show(_,Obj.loop (recS pre))::_=_;rw[hrp]
  rw[hOp] at hc;have hl:v.heap[u.heap.size+1]?=some (.loop rec0):=(hc.boxes _ (mb ..)).1;have hxl:x.length=params.size:=hps x (hpre.subset (by simp));have hyr:=run_yield (P:=P) (args:=x.toArray) hl (by rw[hrec0.2.2.2.2.1];simpa using hxl);rw[hrec0.2.2.1,hrec0.2.2.2.1,hrec0.2.2.2.2.1,hrec0.2.2.2.2.2.1,hrec0.2.2.2.2.2.2] at hyr;refine⟨fn,_,assign,body,hyr,roundIn_of_wpIn trivial ?_⟩
  --the round's frame
  let Cr:Nat→Prop:=fun k=>(∃ y∈O' pre,y.1=k)∨∃ t r,KK fx (zpj pre) t=some (.own r)∧fpc t k
  have hCrC:∀ k,Cr k→C k∧k<v.heap.size∧(w0.heap.size≤k∨Lf k):=fun k hk=>by
   rcases hk with ⟨y,hy,rfl⟩ | ⟨t,r,ht,hf⟩
   ·rw[hOp] at hy;obtain⟨g1,g2,g3⟩:=hc.boxes y hy;refine⟨(c6 _).2 (.inl ⟨c3 y (by rw[hOp];exact hy),?_,x2 y (by rw[hOp];exact hy)⟩),xc g1,g3⟩
    cases hx:H y.1 with
    | none=>rfl
    | some o=>rw[c1 _ o hx] at g2;cases g2
   ·obtain⟨g1,g2,g3,g4⟩:=(hc.slot t _ ht).2 k hf;refine⟨(c6 k).2 ?_,g1,g3⟩;rcases m8 k w1.heap.size with hlt | hge
    ·refine .inl ⟨hlt,?_,x3 t r k ht hf⟩
     cases hx:H k with
     | none=>rfl
     | some o=>rw[c1 _ o hx] at g2;cases g2
    ·exact .inr ⟨hge,.inr ⟨t,r,ht,hf⟩⟩
  have hCrg:∀ k,Cr k→¬ fp gi k:=fun k hk=>by
   rcases hk with ⟨y,hy,rfl⟩ | ⟨t,r,ht,hf⟩
   ·exact x2 y hy
   ·exact x3 t r k ht hf
  let Fr':Fr:=⟨v,some (u.heap.size+1),[],Cr⟩
  have hr0:HasH Fr' Hc ((u.heap.size+1,.loop rec0)::(u.heap.size,.deferred (some []))::O) n (KK fx (zpj pre)) a0 v Hc fpc:=
   ⟨hc.size,rfl,zmo,(fun _ h=>by cases h),fun k hk=>(hCrC k hk).2.1,Keep.refl _ _,hc.sub,mt _,fun _ _ _=>rfl,fun y hy=>⟨(hc.boxes y hy).1,(hc.boxes y hy).2.1,.inr (.inl ⟨y,by rw[hOp];exact hy,rfl⟩)⟩,hc.apart,fun t k hk=>by
    have hs:=hc.slot t k hk
    cases k with
    | is _=>exact hs
    | sat _=>exact hs
    | own r=>exact⟨hs.1,fun k hf=>by
      obtain⟨g1,g2,g3,g4⟩:=hs.2 k hf;exact⟨g1,g2,.inr (.inr ⟨t,r,hk,hf⟩),g4⟩⟩,hc.owns,hc.mono⟩
  have hBc:B.Le Hc:=hc.base;have hr1:=hr0.putP (params.toList.zip x) (fun p hp=>hpn p.1 (List.of_mem_zip hp).1)
  have hfold:(params.zip x.toArray).foldl (fun tmps (t,a)=>tmps.setIfInBounds t a) a.tmps=(params.toList.zip x).foldl (fun t p=>t.setIfInBounds p.1 p.2) a.tmps:=by
   rw[←znt,Array.toList_zip]
  rw[hfold]
  --how a round ends
  have fin:∀ (e:Option Code) (a1:Act) (u1:World),(match e with | none=>stop (pre++[x])=false | some c=>stop (pre++[x])=true∧jc (pre++[x])=c)→
    Has Fr' Hc ((u.heap.size+1,.loop { rec0 with state:=.busy })::(u.heap.size,.deferred (some []))::O) n (ofL (gK' (zpj (pre++[x])))) a1 u1→
    ∃ z w',(Instr.endRound (u.heap.size+1) e).run P u1=.ok z w'∧Ending.returned z=.returned (.bool (!stop (pre++[x])))∧∃ C',(zpg (pre++[x])).P Hit w' C'∧Keep C v w'∧∀ k,C' k→(C k∨v.heap.size≤k)∧k<w'.heap.size:=by
   rintro e a1 u1 he ⟨Hd,fpd,hd⟩;have hl1:=(hd.boxes _ (mb ..)).1;have hrun:=run_endRound (P:=P) e hl1
   have hrecE:({ ({ rec0 with state:=.busy }:Loop) with state:=if e.isNone then .ready else .done,pending:=e }:Loop)=recS (pre++[x]):=by
    cases e with
    | none=>
     have:recS (pre++[x])=rec0:=nc (by rw[he];simp);rw[this];obtain⟨g1,g2,_⟩:=hrec0;cases hq:rec0;rw[hq] at g1 g2;dsimp only at g1 g2 ⊢;rw[g1,g2];rfl
    | some c=>
     have:recS (pre++[x])={ rec0 with state:=.done,pending:=some (jc (pre++[x])) }:=na he.1;rw[this,he.2];rfl
   rw[hrecE] at hrun
   have hv:(e.isNone)=!stop (pre++[x]):=by
    cases e with
    | none=>rw[he];rfl
    | some c=>rw[he.1];rfl
   refine⟨_,_,hrun,by rw[hv],?_⟩;have hd2:=hd.boxSet (O1:=[]) (ds:=[]) (a':=a1) (Chg.putObj (o:=.loop (recS (pre++[x]))) (xc hl1)) (List.Sublist.refl _) (by simp) rfl hd.defers;generalize u1.putObj (u.heap.size+1) (.loop (recS (pre++[x])))=u2 at hd2 ⊢;have hd2':HasH Fr' Hc (O' (pre++[x])) n (ofL (gK' (zpj (pre++[x])))) a1 u2 Hd fpd:=hd2
   have hOg:∀ y∈O' (pre++[x]),(w0.heap.size≤y.1∨Lf y.1)∧y.1<w1.heap.size:=fun y hy=>by
    obtain⟨y',hy',hyy⟩:=hO'mem pre _ y hy;rw[←hyy];exact⟨(hc.boxes y' (by rw[←hOp];exact hy')).2.2,c3 y' hy'⟩
   have hfull:HasH F1 B (O' (pre++[x])) n (KK fx (zpj (pre++[x]))) a0 u2 Hd fpd:=by
    refine⟨hh.size,rfl,zmo,(fun _ h=>by cases h),hc.lent,hc.keep.trans hd2'.keep fun i hi hci=>?_,hd2'.sub,hBc.trans hd2'.base,fun k hk hlk=>?_,fun y hy=>⟨(hd2'.boxes y hy).1,(hd2'.boxes y hy).2.1,(hOg y hy).1⟩,hd2'.apart,fun t k hk=>?_,fun s t r r' hst h1 h2=>?_,fun t k hk=>?_⟩
    ·rcases(hCrC i hci).2.2 with h | h
     ·exact ni hi (by show ¬ (i<w0.heap.size);omega)
     ·exact h
    ·refine(hd2'.fresh k (zme hk hc.keep.size) fun hcr=>?_).trans (hc.fresh k hk hlk);rcases(hCrC k hcr).2.2 with h | h
     ·exact ni hk (by show ¬ (k<w0.heap.size);omega)
     ·exact hlk h
    ·rcases Ar (hG _) hk with ⟨hnt,hgk,r,rfl⟩ | ⟨hfk,_,z,rfl⟩
     ·have hs:=hd2'.slot t _ hgk;have e1:a0.eval (.tmp t)=a1.eval (.tmp t):=(Gl (a:=a0) (n:=n) hh.size hnt).trans (Gl hd2'.size hnt).symm;rw[e1];refine⟨hs.1,fun k hf=>?_⟩;obtain⟨g1,g2,g3,g4⟩:=hs.2 k hf;refine⟨g1,g2,?_,g4⟩;rcases g3 with g3 | g3
      ·exact .inl (zld hc.keep.size g3)
      ·exact(hCrC k g3).2.2
     ·exact hfix t _ hfk z Z
    ·exact hd2'.owns s t r r' hst (tn (hG _) h1) (tn (hG _) h2)
    ·rcases Ar (hG _) hk with ⟨_,_,r,rfl⟩ | ⟨_,_,z,rfl⟩<;>trivial
   have hHd:Hc.Le Hd:=hd2'.base
   refine⟨fun k=>(k<w1.heap.size∧H k=none∧¬ fp gi k)∨(w1.heap.size≤k∧((Hd k).isSome=true∨∃ t r,KK fx (zpj (pre++[x])) t=some (.own r)∧fpd t k)),
    ⟨Hd,fpd,hfull,c1.trans hHd,c2,fun y hy=>(hOg y hy).2,zld c4 hd2'.keep.size,c5,fun k hk=>⟨(x1 k hk).1,(x1 k hk).2.1,(hd2'.fresh k (zme (x1 k hk).1 c4) fun hcr=>hCrg k hcr hk).trans (x1 k hk).2.2⟩,hOg0 _,fun t r k ht hf hg=>by
     rcases((hd2'.slot t _ (tn (hG _) ht)).2 k hf).2.2.1 with g | g
     ·have h7:=hCg1 k hg;have h8:v.heap.size≤k:=g;omega
     ·exact hCrg k g hg,fun _=>Iff.rfl⟩,hd2'.keep.weak fun k _ hk=>(hCrC k hk).1,fun k hk=>?_⟩
   rcases hk with ⟨h1,h2,h2g⟩ | ⟨h1,h2 | ⟨t,r,ht,hf⟩⟩
   ·exact⟨.inl ((c6 k).2 (.inl ⟨h1,h2,h2g⟩)),zme h1 (zld c4 hd2'.keep.size)⟩
   ·obtain⟨o,ho⟩:=zmq.1 h2;refine⟨?_,hd2'.sub.size ho⟩;rcases m8 k v.heap.size with hlt | hge
    ·by_cases hcr:Cr k
     ·exact .inl (hCrC k hcr).1
     ·refine .inl ((c6 k).2 (.inr ⟨h1,.inl ?_⟩));rw[←hd2'.fresh k hlt hcr,ho];rfl
    ·exact .inr hge
   ·have hs:=(hd2'.slot t _ (tn (hG _) ht)).2 k hf;refine⟨?_,hs.1⟩;rcases hs.2.2.1 with g | g
    ·exact .inr g
    ·exact .inl (hCrC k g).1
  refine Go.wpIn_mono (hassign v Cr Hc (u.heap.size+1) u.heap.size (.loop rec0) pre x hpre hstp hBc _ v ⟨Hc,fpc,hr1⟩) fun e1 a1 u1 he1=>?_
  cases e1 with
  | normal=>
   obtain⟨Ha,fpa,ha⟩:=he1;have hl1:=(ha.boxes _ (mb ..)).1;refine⟨_,run_beginRound (P:=P) hl1 hrec0.1,?_⟩;have ha2:=ha.boxSet (O1:=[]) (ds:=[]) (a':=a1) (Chg.putObj (o:=.loop { rec0 with state:=.busy }) (xc hl1)) (List.Sublist.refl _) (by simp) rfl ha.defers;refine Go.wpIn_mono (hbody v Cr Hc (u.heap.size+1) u.heap.size (.loop { rec0 with state:=.busy }) pre x hpre hstp hBc a1 _ ⟨Ha,fpa,ha2⟩) fun e2 a2 u2 he2=>?_
   cases e2 with
   | normal=>exact fin none a2 u2 he2.1 he2.2
   | ret=>exact fin (some .ret) a2 u2 ⟨he2.1,he2.2.1⟩ he2.2.2
   | exit id=>exact fin (some (.exit id)) a2 u2 ⟨he2.1,he2.2.1⟩ he2.2.2
   | goto l=>exact he2.elim
   | panic c=>exact he2.elim
   | outgrown=>exact he2.elim
  | exit id=>exact he1.elim
  | goto l=>exact he1.elim
  | ret=>exact he1.elim
  | panic c=>exact he1.elim
  | outgrown=>exact he1.elim
 --the call
 have hB1:B.Le H:=hh.base
 have hcall:=hit w1 H hstart.sub hB1 (u.heap.size+1) zpg stop C0 (fp gi) hst0 hY hJ0 hC0 (hh1.slot gi _ hgi).1 (fun k hk=>⟨hCg1 k hk,(hCg k hk).2.1⟩) (fun k hk hg=>by
  rcases hk with h | ⟨h1,_⟩
  ·exact h.2.2 hg
  ·have:=hCg1 k hg;omega)
 have hel:=run_enterLoop_outer (P:=P) (w:=u) fn a.tmps params assign body;rw[hrec,hw1] at hel;refine⟨u.heap.size+1,[zco (.m u.heap.size)],w1,⟨.fn (.func gf) caps.toArray,#[]++#[.func (.yield (u.heap.size+1)) #[] #[]]⟩,w1,gf,(.func (.yield (u.heap.size+1)) #[] #[]::caps).toArray,w1,hel,?_,fun _ _=>trivial,?_,fun h=>(by cases h),?_⟩
 ·have hcv:a.eval (.const (.func (.yield (u.heap.size+1)) #[] #[]))=.func (.yield (u.heap.size+1)) #[] #[]:=rfl;simp [resolve,rangeCall,hfe,Deferred.ofValue,hcv]
 ·simp only[invoke];rw[fk L hfn];simp
 ·refine FW.call none _ (Calls.mono hcall fun e3 u3 hp=>?_);obtain⟨z,rfl,H3,g3,C3,⟨Hc,fpc,hc,c1,c2,c3,c4,c5,x1,x2,x3,c6⟩,_⟩:=hp;generalize htk:jh stop [] xs=tk at hc c3 hdone hstop c6;have hl3:u3.heap[u.heap.size+1]?=some (.loop (recS tk)):=(hc.boxes _ (mb ..)).1
  have hnb:(recS tk).state≠.busy:=by
   show(if stop tk=true then ({ rec0 with state:=.done,pending:=some (jc tk) }:Loop) else rec0).state≠.busy;split
   ·simp
   ·rw[hrec0.1];simp
  have hpend:(recS tk).pending=if stop tk=true then some (jc tk) else none:=by
   show(if stop tk=true then ({ rec0 with state:=.done,pending:=some (jc tk) }:Loop) else rec0).pending=_;split
   ·rfl
   ·exact hrec0.2.1
  refine⟨_,_,run_endLoop hl3 hnb,?_⟩;have hc2:=hc.boxSet (O1:=[]) (ds:=[]) (a':=a0) (Chg.putObj (o:=.loop { recS tk with state:=.exhausted }) (xc hl3)) (List.Sublist.refl _) (by simp) rfl rfl
  have hDn:DM.m u.heap.size∉ds:=fun hm=>by
   have:=xc (hh.boxes _ (hh.marks _ hm)).1;exact ni this (Nat.lt_irrefl _)
  have hfin:HasH ⟨w0,none,.m u.heap.size::ds,Lf⟩ B ((u.heap.size+1,.loop { recS tk with state:=.exhausted })::(u.heap.size,.deferred (some []))::O) n (KK fx (zpj tk)) { a with defers:=[zco (.m u.heap.size)]++a.defers } (u3.putObj (u.heap.size+1) (.loop { recS tk with state:=.exhausted })) Hc fpc:=
   ⟨hc2.size,by have:=hh.defers;dsimp only at this ⊢;rw[this];rfl,List.nodup_cons.2 ⟨hDn,hh.nodup⟩,fun D hD=>by
    rcases nw.1 hD with e | hD
    ·cases e;exact mc _ (mb ..)
    ·exact mc _ (mc _ (hh.marks D hD)),hc2.lent,hc2.keep,hc2.sub,hc2.base,hc2.fresh,hc2.boxes,hc2.apart,hc2.slot,hc2.owns,hc2.mono⟩
  generalize (Obj.loop { recS tk with state:=.exhausted })=rx at hfin ⊢;rw[hpend]
  cases hs:stop tk with
  | false=>
   simp only[zmp,if_false];exact hdone _ _ _ hs _ _ ⟨Hc,fpc,hfin⟩
  | true=>
   simp only[if_true];exact hstop _ _ _ hs _ _ ⟨Hc,fpc,hfin⟩
end
end Go.V
namespace Go.V
def zsL(P:Program)(e:TypeId)(k:Nat):List Value:=match P.info? e with
 | some i=>match i.zero with
  | some z=>(madeCells z.cells k).toList
  | none=>[]
 | none=>[]
def Db{s k:Nat}(h:elI P e=some (s,by_)):(zsL P e k).length=k:=by
 obtain⟨i,z,hi,hz,_,_,_,_⟩:=vy h;unfold zsL;rw[hi];dsimp only;rw[hz];simp [size_madeCells]
def SlE(e:TypeId)(s n:Nat)(xs:List Value):Res where
 P x _ u C:=xs.length=n*s/\((n=0/\x=.slice none 0 0/\∀ k,¬ C k)\/∃ b,x=.slice (some ⟨b,0,none⟩) n n/\u.heap[b]?=some (.cells xs.toArray e)/\n<=maxLen/\∀ k,C k↔k=b)
 st:=fun⟨hl,h⟩ _ _ _ hk=>⟨hl,by
  rcases h with h | ⟨b,h1,h2,h3,h4⟩
  ·exact .inl h
  ·exact .inr ⟨b,h1,(hk b ((h4 b).2 rfl)).trans h2,h3,h4⟩⟩
section
variable             {a:Act}      {ex:Exs}
def Fs(L:Tabs P){kc:IntKind}{s:Nat}(c:Nat){q:Int}(hn:Nat.blt d n=true)(hg:gK ops κ ⟨some d,.makeSlice t x y,ty,pos,aft,g⟩=some true)(ht:L.sl t=some e)(he:elI P e=some (s,by_))
  (hx:evK κ x=some (.int kl q)) (hy:evK κ y=some (.int kc p)) (hq:q=c) (hp:p=c) (hb:by_*c<=281474976710656) (hc:c<=maxLen):StepOK P F B n ops O κ ⟨some d,.makeSlice t x y,ty,pos,aft,g⟩ d (.own (SlE e s c (zsL P e (c*s)))):=by
 rintro κ' a u hl ⟨H,fp,hh⟩;unfold After;rw[na (xh hh hl hg)];have en:=hh.env hl;have hzl:=Db (k:=c*s) he;obtain⟨i,z,hi,hz,hs1,hs2,hs3,hs4⟩:=vy he;have h1:=en.is_ x _ (by simp [Op.operands]) hx;have h2:=en.is_ y _ (by simp [Op.operands]) hy;subst hp;subst hq
 have hb':(i.bytes:Int)*(c:Int)<=281474976710656:=by
  have h:((by_*c:Nat):Int)<=281474976710656:=I;rw[hs2];rwa [Int.natCast_mul] at h
 have h63:(c:Int)<=9223372036854775807:=by simp [maxLen] at hc;omega
 have hr:=run_make (P:=P) u t e i z (Tabs.sl_spec ht) hi hz kl kc c c I I hb' h63;simp only[zl6] at hr
 have hrun:(execOp a.eval ⟨some d,.makeSlice t x y,ty,pos,aft,g⟩).run P u=.ok (.value (.slice (some ⟨u.heap.size,0,none⟩) c c)) (u.alloc (.cells (madeCells z.cells (c*i.size)) e)):=by
  simp only[execOp,h1,h2,nu,hr,ny];rfl
 rw[hrun];simp only[Upon]
 have hzs:zsL P e (c*s)=(madeCells z.cells (c*i.size)).toList:=by
  unfold zsL;rw[hi];dsimp only;rw[hz,hs1]
 have hg2:=hh.grow (Grow.hid hh.sub (.cells (madeCells z.cells (c*i.size)) e));refine⟨H,_,hg2.putR (C:=fun k=>k=u.heap.size) (by simp [Act.put]) Z (fun t ht=>xn ht) ⟨hzl,.inr ⟨u.heap.size,xv (by rw[hh.size];exact zo hn),by rw[xm,hzs],hc,fun _=>Iff.rfl⟩⟩ (fun k hk=>?_) fun t r' _ ht k hf hk=>?_⟩
 ·subst hk;exact⟨xc (xm u _),k9 hh.sub (ns _),.inl hh.keep.size,fun y hy e=>by have:=xc (hh.boxes y hy).1;omega⟩
 ·have:=((hh.slot t _ ht).2 k hf).1;omega
def Has.boxE{t:Nat}{s:Nat}(hm:0<m)(hk:κ t=some (.own (SlE e s m xs)))(h:Has F B O n κ a u):
  ∃ b,(xs.length=m*s/\m<=maxLen)/\Has F B (bx b xs e::O) n (upd κ t (.is (.slice (some ⟨b,0,none⟩) m m))) a u:=by
 obtain⟨H,fp,h⟩:=h;obtain⟨⟨hl,hv⟩,hM⟩:=h.slot t _ hk;rcases hv with ⟨h0,_,_⟩ | ⟨b,hv,hb,h4,hC⟩
 ·omega
 ·have:=h.toBox hk hb ((hC b).2 rfl);rw[hv] at this;exact⟨b,⟨hl,h4⟩,H,fp,this⟩
def Has.unboxE{t b:Nat}{s:Nat}{O1 O2:Boxes}(hO:O=O1++bx b xs e::O2)(hd:F.ds=[])(hk:κ t=some (.is (.slice (some ⟨b,0,none⟩) m m)))(hl:xs.length=m*s)(h4:m<=maxLen)
  (h:Has F B O n κ a u):Has F B (O1++O2) n (upd κ t (.own (SlE e s m xs))) a u:=by
 obtain⟨H,fp,h⟩:=h;subst hO;have hb:=(h.boxes (bx b xs e) (by simp)).1;exact⟨H,_,h.ofBox (by rw[hd];simp) ⟨hl,.inr ⟨b,h.slot t _ hk,hb,h4,fun _=>Iff.rfl⟩⟩⟩
def zij(t:Nat){s:Nat}{c:Code}(hm:0<m)(hk:κ t=some (.own (SlE e s m xs)))
  (h:∀ b,(xs.length=m*s/\m<=maxLen)->V P F B n (bx b xs e::O) (upd κ t (.is (.slice (some ⟨b,0,none⟩) m m))) c Q):V P F B n O κ c Q:=fun a u hh=>
 let ⟨b,h1,h'⟩:=hh.boxE hm hk;h b h1 a u h'
def zby(t:Nat){b:Nat}{s:Nat}(O1:Boxes){O2:Boxes}{c:Code}(hO:O=O1++bx b xs e::O2)(hk:κ t=some (.is (.slice (some ⟨b,0,none⟩) m m)))(hl:xs.length=m*s)(h4:m<=maxLen)
  (h:V P F B n (O1++O2) (upd κ t (.own (SlE e s m xs))) c Q) (hd:F.ds=[]:=by rfl):V P F B n O κ c Q:=fun a u hh=>h a u (hh.unboxE hO hd hk hl h4)
def Has.pubE{t:Nat}{s:Nat}(hk:κ t=some (.own (SlE e s m xs)))(h:Has F B O n κ a u):Has F B O n (upd κ t (.sat (SlV e s xs m true))) a u:=by
 obtain⟨H,fp,h⟩:=h;obtain⟨⟨hl,hv⟩,hM⟩:=h.slot t _ hk;rcases hv with ⟨rfl,hv,hC⟩ | ⟨b,hv,hb,h4,hC⟩
 ·have hx:xs=[]:=m6 (by simpa using hl);subst hx;have h2:=h.name t;rw[hv] at h2;have h3:Has F B O n (upd κ t (.is (.slice none 0 0))) a u:=⟨H,fp,h2⟩
  have h4:=h3.seen (t:=t) (SlV e s [] 0 true) (xj _ _ _) ma ⟨by simp,.inl ⟨rfl,_,rfl⟩⟩;rw[jv] at h4;exact h4
 ·obtain⟨H',h'⟩:=h.pub (φ:=SlV e s xs m true) hk hb ((hC b).2 rfl) ma fun H' _ hb'=>⟨hl,.inr ⟨b,0,m,_,_,(0,0),hv,hb',by simp,ns _,fun _=>rfl⟩⟩
  exact⟨H',fp,h'⟩
def zc2(t:Nat){s:Nat}{c:Code}(hk:κ t=some (.own (SlE e s m xs)))(h:V P F B n O (upd κ t (.sat (SlV e s xs m true))) c Q):V P F B n O κ c Q:=fun a u hh=>h a u (hh.pubE hk)
def zgv{f:α->List Value}{s:Nat}(hf:∀ a,(f a).length=s)(l:List α)(k m:Nat)(zs:List Value)(y:α)(hl:l.length=k)(hz:zs.length=(m-k)*s)(hk:k<m):
  (l.flatMap f++zs).take (k*s)++(f y++(l.flatMap f++zs).drop (k*s+s))=(l++[y]).flatMap f++zs.drop s:=by
 have h1:(l.flatMap f).length=k*s:=by
  subst hl;clear hz hk
  induction l with
  | nil=>simp
  | cons x l ih=>rw[zly,nr,hf,ih,nz,zl9,Nat.one_mul];omega
 have h2:s<=zs.length:=by rw[hz];exact Nat.le_mul_of_pos_left _ I
 rw[<-h1,zoj,zmh]
 ·rw[zlk I,mh,show(l.flatMap f).length+s-(l.flatMap f).length=s by omega,zlz];simp
 ·rfl
def zf1(w:World)(r:Res)(v:Value)(H:Heap)(u:World):Prop:=∃ C:Nat->Prop,r.P v H u C/\∀ k,C k->w.heap.size<=k/\k<u.heap.size/\H k=none
def RetO(P:Program)(f:FuncId)(args:List Value)(w:World)(B:Heap)(r:Res):Prop:=RetL P f args w B noL (zf1 w r)
def u5(L:Tabs P){r:Res}{fo:Operand}
  (hop:o.op=.call { callee:=.value fo,args:=args,argTypes:=at_ }) (hd:o.dst=some d) (hn:d<n) (hg:gK ops κ o=some true)
  (hf:evK κ fo=some (.func (.func f) #[] cap.toArray)) (hfn:L.fn f=some ())
  (h:∀ u H,zpk H u->B.Le H->Below F.w0.heap.size F.w0 F.w0->Args κ H args.toList [] (fun vs=>RetO P f (vs++cap) u H r)):
  StepOK P F B n ops O κ o d (.own r):=by
 rintro κ' a u hl ⟨H,fp,hh⟩;unfold After;rw[na (xh hh hl hg)];have e:=hh.env hl;have hfe:a.eval fo=.func (.func f) #[] cap.toArray:=e.is_ fo _ (by simp [hop,Op.operands,Call.operands]) hf;have hc:=Args.use e args.toList [] (fun x hx=>by simp [hop,Op.operands,Call.operands] at hx |-;exact .inr hx) (h u H e.sub e.base (Below.refl _ _));simp only[zma,mh] at hc;rw[uf L hop hfe hfn];simp only[Upon];refine Calls.mono hc fun e' u' hp=>?_;obtain⟨v,rfl,H',g',C,hv,hC⟩:=hp;have h2:=hh.grow g';refine⟨v,rfl,?_⟩;simp only[hd];refine⟨H',_,h2.putR (C:=C) (by simp [Act.put]) Z (fun t ht=>xn ht) (by rw[xv (by rw[hh.size];exact hn)];exact hv) (fun k hk=>?_) fun t r' _ ht k hf hk=>?_⟩
 ·obtain⟨h3,h4,h5⟩:=hC k hk;exact⟨h4,h5,.inl (zld hh.keep.size h3),fun y hy e=>by have:=xc (hh.boxes y hy).1;omega⟩
 ·have h3:=(hC k hk).1;have:=((hh.slot t _ ht).2 k hf).1;omega
def o9{fn:Func}{t:Nat}{r:Res}(hrs:fn.results=#[.tmp t])(hQ:∀ a u,bodyPostM Fence.wide 0 P fn (pj F.w0 B0 F.L (zf1 F.w0 r)) .ret a u->Q .ret a u)(hs:Since F B0 B)(hk:κ t=some (.own r))(hL:F.L=noL:=by rfl)(hm:X5 F.ds=true:=by rfl):V P F B n O κ .ret Q:=
 Pz hQ hs (hm:=hm) fun O' a u H fp _ hh=>by
  obtain⟨hown,hM⟩:=hh.slot t _ hk;refine⟨a.eval (.tmp t),?_,fp t,hown,fun k hk=>?_⟩
  ·simp [results,hrs,Act.eval]
  ·obtain⟨h1,h2,h3,_⟩:=hM k hk;refine⟨?_,h1,h2⟩;rcases h3 with h3 | h3
   ·exact h3
   ·have h3':F.L k:=h3;rw[hL] at h3';exact h3'.elim
open Classical in
noncomputable def joinH (H:Heap) (u:World) (C:Nat->Prop):Heap:=fun k=>if C k then hp u k else H k
def c9{k:Nat}(h:C k):joinH H u C k=hp u k:=na h
def l6{k:Nat}(h:¬ C k):joinH H u C k=H k:=nc h
def oo(h:zpk H u):(joinH H u C).Le (hp u):=fun k v hv=>by
 by_cases hc:C k
 ·rwa [c9 hc] at hv
 ·rw[l6 hc] at hv;exact h _ _ hv
def Gd(h:∀ k,C k->H k=none):H.Le (joinH H u C):=fun k v hv=>by
 by_cases hc:C k
 ·rw[h k hc] at hv;cases hv
 ·rwa [l6 hc]
def zj3(r:Res)(φ:Value->Heap->Prop):Prop:=∀ x H u C,r.P x H u C->φ x (joinH H u C)
def a8{s:Nat}:zj3 (SlE e s m xs) (SlV e s xs m true):=fun x H u C ⟨hl,h⟩=>⟨hl,by
 rcases h with ⟨h0,hv,_⟩ | ⟨b,hv,hb,h3,hC⟩
 ·exact .inl ⟨h0,_,hv⟩
 ·exact .inr ⟨b,0,m,_,_,_,hv,(c9 ((hC b).2 rfl)).trans hb,by simp,ns _,fun _=>rfl⟩⟩
def zcg(q:Nat)(l:List Operand):Bool:=l.any fun x=>match x with | .tmp t=>Nat.beq t q | _=>false
def RetO.toRet{f:FuncId}{args:List Value}{r:Res}(h:RetO P f args w B r)(hl:zj3 r φ):Ret P f args w B φ:=
 Calls.mono h fun _ u ⟨v,he,H,g,C,h1,h2⟩=>⟨v,he,joinH H u C,⟨g.keep,oo g.sub,fun k x hx=>Gd (fun k hk=>(h2 k hk).2.2) _ _ (g.le _ _ hx),fun k hk hn=>(l6 fun hc=>by have:=(h2 k hc).1;omega).trans (g.fresh k hk hn)⟩,hl _ _ _ _ h1⟩
def vz{f:FuncId}{fn:Func}{c:Code}{args:List Value}{r:Res}(hf:P.funcs[f]?=some fn)(hb:fn.body=some c)(hn:fn.ntmps=n)
  (hs:args.length<=n) (hB:zpk B w) (h:V P (Fr.pure w) B n [] (sk 0 args) c (bodyPostM Fence.wide 0 P fn (pj w B noL (zf1 w r)))):RetO P f args w B r:=
 co hf hb (h _ w ⟨B,fun _=>noL,by subst hn;exact cj noL (fun _ h=>h.elim) hs hB _⟩)
end
end Go.V
namespace Go.V
def xk(b:Nat)(cs:List Value)(ty:TypeId):Res where
 P _ _ u C:=u.heap[b]?=some (.cells cs.toArray ty)/\∀ k,C k↔k=b
 st:=fun⟨h1,h2⟩ _ _ _ hk=>⟨(hk b ((h2 b).2 rfl)).trans h1,h2⟩
section
variable             {a:Act}      {ex:Exs}
def Has.hold{t:Nat}(hk:κ t=some (.own (gj cs ty)))(h:Has F B O n κ a u):∃ b,Has F B O n (upd (upd (upd κ t fw) q (.own (xk b cs ty))) t (.is (.pointer (some ⟨b,0,none⟩)))) a u:=by
 obtain⟨H,fp,h⟩:=h;obtain⟨⟨b,hv,hb,hC⟩,hM⟩:=h.slot t _ hk;have h2:=h.usePut (d:=q) (a':=a) (r':=xk b cs ty) (C:=fp t) hk ⟨Keep.refl _ _,h.sub,mt _,fun _ _ _=>rfl⟩ rfl rfl (fun _ _=>rfl) ⟨hb,hC⟩ fun k hk=>⟨.inl hk,(hM k hk).1,(hM k hk).2.1⟩
 have h3:=h2.name t;rw[hv] at h3;exact⟨b,H,_,h3⟩
def Has.release{t b:Nat}(hk:κ q=some (.own (xk b cs ty)))(ht:κ t=some (.is (.pointer (some ⟨b,0,none⟩))))(h:Has F B O n κ a u):Has F B O n (upd (upd κ q fw) t (.own (gj cs ty))) a u:=by
 obtain⟨H,fp,h⟩:=h;obtain⟨⟨hb,hC⟩,hM⟩:=h.slot q _ hk;have hx:a.eval (.tmp t)=.pointer (some ⟨b,0,none⟩):=h.slot t _ ht;exact⟨H,_,h.usePut (d:=t) (a':=a) (r':=gj cs ty) (C:=fp q) hk ⟨Keep.refl _ _,h.sub,mt _,fun _ _ _=>rfl⟩ Z Z (fun _ _=>rfl) ⟨b,hx,hb,hC⟩ fun k hk=>⟨.inl hk,(hM k hk).1,(hM k hk).2.1⟩⟩
def kq(t q:Nat){c:Code}(hk:κ t=some (.own (gj cs ty)))(h:∀ b,V P F B n O (upd (upd (upd κ t fw) q (.own (xk b cs ty))) t (.is (.pointer (some ⟨b,0,none⟩)))) c Q):V P F B n O κ c Q:=fun a u hh=>let ⟨b,h'⟩:=hh.hold (q:=q) hk;h b a u h'
def w6(t q:Nat){b:Nat}{c:Code}(hk:κ q=some (.own (xk b cs ty)))(ht:κ t=some (.is (.pointer (some ⟨b,0,none⟩))))(h:V P F B n O (upd (upd κ q fw) t (.own (gj cs ty))) c Q):V P F B n O κ c Q:=fun a u hh=>h a u (hh.release hk ht)
def StepOKR(P:Program)(F:Fr)(B:Heap)(n:Nat)(ops:Array Oper)(O:Boxes)(κ:Kap)(o:Oper)(q d:Nat)(k:Kn):Prop:=
 ∀ κ' a u,(∀ t∈o.looksAt ops,κ' t=κ t)->κ' q=κ q->Has F B O n κ' a u->After P ops o (fun a' u'=>Has F B O n (upd κ' d k) a' u') a u
def qz{k:Kn}(hs:StepOKR P F B n ops O κ o q d k)(h:VO P F B n O ops (upd κ d k) os Q):VO P F B n O ops κ (o::os) Q:=
 fun a u hh=>After.mono (fun a' u' hh'=>h a' u' hh') (hs κ a u (fun _ _=>rfl) rfl hh)
def qq{k:Kn}(hs:StepOKR P F B n ops O κ o q d k)(hd:vd o=some d)(he:(exR ex o).contains q=true)(h:Par P F B n O ops ex (upd κ d k) os Q):Par P F B n O ops ex κ (o::os) Q:=by
 have hm:q∈exR ex o:=by simpa using he
 refine⟨[(d,k)],fun p hp=>?_,fun κ' a u hl hh=>hs κ' a u (fun t ht=>hl t (zlr _ ht)) (hl q (zl8 _ (zl8 _ hm))) hh,h⟩;simp only[nw,zmw,or_false] at hp;subst hp;exact zlr _ (by simp [hd])
def Cx(P:Program)(F:Fr)(B:Heap)(n:Nat)(ops:Array Oper)(O:Boxes)(κ:Kap)(o:Oper)(q:Nat)(k:Kn):Prop:=
 ∀ κ' a u,(∀ t∈o.looksAt ops,κ' t=κ t)->κ' q=κ q->Has F B O n κ' a u->After P ops o (fun a' u'=>Has F B O n (upd κ' q k) a' u') a u
def xf{k:Kn}(hs:Cx P F B n ops O κ o q k)(h:VO P F B n O ops (upd κ q k) os Q):VO P F B n O ops κ (o::os) Q:=
 fun a u hh=>After.mono (fun a' u' hh'=>h a' u' hh') (hs κ a u (fun _ _=>rfl) rfl hh)
def xl{k:Kn}(hs:Cx P F B n ops O κ o q k)(he:(exO ex o).contains q=true)(h:Par P F B n O ops ex (upd κ q k) os Q):Par P F B n O ops ex κ (o::os) Q:=by
 have hm:q∈exO ex o:=by simpa using he
 refine⟨[(q,k)],fun p hp=>?_,fun κ' a u hl hh=>hs κ' a u (fun t ht=>hl t (zlr _ ht)) (hl q (zl8 _ (zlr _ hm))) hh,h⟩;simp only[nw,zmw,or_false] at hp;subst hp;exact zl8 _ hm
def xz(L:Tabs P)(q:Nat){r:Res}{Φ:Heap->Prop}{c:Value}{fo:Operand}
  (hop:o.op=.call { callee:=.value fo,args:=args,argTypes:=at_ }) (hd:o.dst=some d) (hn:d<n) (hg:gK ops κ o=some true)
  (hf:evK κ fo=some (.func (.func f) #[] cap.toArray)) (hfn:L.fn f=some ()) (hq:κ q=some (.own r)) (hm:zcg q o.op.operands.toList=false) (hl:∀ v H u C,r.P v H u C->Φ (joinH H u C))
  (h:∀ u H,zpk H u->B.Le H->Φ H->Args κ H args.toList [] (fun vs=>Ret P f (vs++cap) u H (fun v _=>v=c))):
  StepOKR P F B n ops O κ o q d (.is c):=by
 rintro κ' a u hlk hqk ⟨H,fp,hh⟩;unfold After;rw[na (xh hh hlk hg)];have e:=hh.env hlk;have hfe:a.eval fo=.func (.func f) #[] cap.toArray:=e.is_ fo _ (by simp [hop,Op.operands,Call.operands]) hf;obtain⟨hown,hM⟩:=hh.slot q _ (hqk.trans hq);have hle:H.Le (joinH H u (fp q)):=Gd fun k hk=>(hM k hk).2.1
 have hqo:∀ t,Operand.tmp t∈o.op.operands->t≠q:=fun t ht e=>by
  subst e;have:zcg t o.op.operands.toList=true:=zn1.2 ⟨Operand.tmp t,by simpa using ht,Nat.beq_refl t⟩;rw[this] at hm;cases hm
 have e1:Env F B O κ o a u (joinH H u (fp q)) fp:=by
  refine⟨e.is_,fun t ψ ht hk=>?_,fun t r' ht hk=>?_,oo hh.sub,fun k v hv=>hle _ _ (hh.base _ _ hv),fun y hy=>?_,hh.keep⟩
  ·have hk':κ' t=some (.sat ψ):=(hlk t (p8 ht)).trans hk;exact hh.mono t _ hk' _ _ _ (e.sat_ t ψ ht hk) hle
  ·obtain⟨h1,h2⟩:=e.own_ t r' ht hk;have hk':κ' t=some (.own r'):=(hlk t (p8 ht)).trans hk;refine⟨r'.st h1 hle (oo hh.sub) ⟨rfl,rfl,rfl,ns _,ns _⟩ fun _ _=>rfl,fun k hk2=>?_⟩;obtain⟨g1,g2,g3,g4⟩:=h2 k hk2;exact⟨g1,(l6 (hh.owns t q r' _ (hqo t ht) hk' (hqk.trans hq) k hk2)).trans g2,g3,g4⟩
  ·obtain⟨h1,h2,h3⟩:=e.boxes y hy;exact⟨h1,(l6 fun hc=>(hM _ hc).2.2.2 y hy Z).trans h2,h3⟩
 have hc:=Args.use e1 args.toList [] (fun x hx=>by simp [hop,Op.operands,Call.operands] at hx |-;exact .inr hx) (h u (joinH H u (fp q)) e1.sub e1.base (hl _ _ _ _ hown));simp only[zma,mh] at hc;rw[uf L hop hfe hfn];simp only[Upon];refine Calls.mono hc fun e' u' hp=>?_;obtain⟨v,rfl,H',g',hv⟩:=hp;refine⟨v,rfl,?_⟩;simp only[hd]
 have g2:Grow noL u H u' H:=⟨g'.keep,fun k x hx=>by
  have h1:=hh.sub _ _ hx;exact(g'.keep.block k (xc h1) fun h=>h).trans h1,mt _,fun _ _ _=>rfl⟩
 exact⟨H,fp,(hh.grow g2).put (k:=.is c) hn trivial hv⟩
def kj(L:Tabs P){b:Nat}{s:Nat}{vs:List Value}(eqs:(evK κ x,κ q,Nat.blt d n)=(some (.pointer (some ⟨b,off,none⟩)),some (.own (xk b cs t')),true))(hg:gK ops κ ⟨some d,.load t x,ty,pos,aft,g⟩=some true)
  (hl:L.ld t=some (true,s)) (hlen:vs.length=s) (hc:∃ r,cs.drop off=vs++r):StepOKR P F B n ops O κ ⟨some d,.load t x,ty,pos,aft,g⟩ q d (.is (.agg vs.toArray)):=by
 obtain⟨hx,hq,hn⟩:=EQ3 eqs;rintro κ' a u hlk hqk ⟨H,fp,hh⟩;unfold After;rw[na (xh hh hlk hg)];have e:=hh.env hlk;have h1:=e.is_ x _ (by simp [Op.operands]) hx;obtain⟨⟨h2,hC⟩,hM⟩:=hh.slot q _ (hqk.trans hq);obtain⟨r,hc⟩:=hc
 have hrun:(execOp a.eval ⟨some d,.load t x,ty,pos,aft,g⟩).run P u=.ok (.value (.agg vs.toArray)) u:=by
  simp only[execOp,h1,Instr.loadAt,Instr.sureAddr,nu,me,ny]
  rw[vm (Tabs.ld_spec hl) u _ vs hlen (fun j v hj=>by
   have h3:cs[off+j]?=some v:=by
    have:=nh (·[j]?) hc;simp only[zm2] at this
    rw[this,zml (by
     rcases m8 j vs.length with h | h
     ·exact h
     ·rw[zlu h] at hj;cases hj)]
    exact hj
   show u.cell? (Addr.add ⟨b,off,none⟩ j)=some v;have:Addr.add ⟨b,off,none⟩ j=⟨b,off+j,none⟩:=by simp [Addr.add]
   rw[this,ko h2];simpa using h3)]
  rfl
 rw[hrun];simp only[Upon];exact⟨H,fp,hh.put (k:=.is (.agg vs.toArray)) (zo hn) trivial Z⟩
def qb(L:Tabs P){b:Nat}{s:Nat}{r:List Value}(eqs:(evK κ x,κ q,Nat.blt d n)=(some (.pointer (some ⟨b,off,none⟩)),some (.own (xk b cs t')),true))(hg:gK ops κ ⟨some d,.load t x,ty,pos,aft,g⟩=some true)
  (hl:L.ld t=some (false,s)) (hc:cs.drop off=v::r):StepOKR P F B n ops O κ ⟨some d,.load t x,ty,pos,aft,g⟩ q d (.is v):=by
 obtain⟨hx,hq,hn⟩:=EQ3 eqs;rintro κ' a u hlk hqk ⟨H,fp,hh⟩;unfold After;rw[na (xh hh hlk hg)];have e:=hh.env hlk;have h1:=e.is_ x _ (by simp [Op.operands]) hx;obtain⟨⟨h2,hC⟩,hM⟩:=hh.slot q _ (hqk.trans hq)
 have h3:cs[off]?=some v:=by
  have:=nh (·[0]?) hc;simpa using this
 have hrun:(execOp a.eval ⟨some d,.load t x,ty,pos,aft,g⟩).run P u=.ok (.value v) u:=by
  simp only[execOp,h1,Instr.loadAt,Instr.sureAddr,nu,me,ny];rw[uz (Tabs.ld_spec hl) u _ v (by rw[ko h2];simpa using h3)];rfl
 rw[hrun];simp only[Upon];exact⟨H,fp,hh.put (k:=.is v) (zo hn) trivial Z⟩
def yc(L:Tabs P){z b:Nat}{p:Operand}{cs':List Value}(hg:gK ops κ ⟨none,.store t p x,ty,pos,aft,g⟩=some true)
  (eqs:(evK κ p,κ q,evK κ x,L.ld t,(jb v).length)=(some (.pointer (some ⟨b,off,none⟩)),some (.own (xk b cs t')),some v,some (ag,z),z)) (hcs:Nat.ble (off+z) cs.length=true) (hpl:(jb v).all v9=true) (hr:cs.take off++(jb v++cs.drop (off+z))=cs'):
  Cx P F B n ops O κ ⟨none,.store t p x,ty,pos,aft,g⟩ q (.own (xk b cs' t')):=by
 obtain⟨hp,hq,hx,hl,hlen⟩:=EQ5 eqs;rintro κ' a u hlk hqk ⟨H,fp,hh⟩;subst hr;unfold After;rw[na (xh hh hlk hg)];have e:=hh.env hlk;have hev:=e.is_ x v (by simp [Op.operands]) hx;have hes:=e.is_ p _ (by simp [Op.operands]) hp;have hqs:=hqk.trans hq;obtain⟨⟨hb,hC⟩,hM⟩:=hh.slot q _ hqs
 have hrun:(execOp a.eval ⟨none,.store t p x,ty,pos,aft,g⟩).run P u=.ok .skip (u.setRow b (cs.take off++(jb v++cs.drop (off+z))).toArray):=by
  simp only[execOp,hes,hev,Instr.storeAt,Instr.sureAddr,nu,me,ny];have:=uy (P:=P) (off:=off) (Tabs.ld_spec hl) hb hlen (np hcs) hpl;rw[this];simp
 rw[hrun];simp only[Upon,Act.put];have hset:=setRow_heap u b cs.toArray (cs.take off++(jb v++cs.drop (off+z))).toArray t' (0,0) hb;have hbm:=hM b ((hC b).2 rfl)
 have:=hh.usePut (d:=q) (a':=a) (r':=xk b (cs.take off++(jb v++cs.drop (off+z))) t') (C:=fun k=>k=b) hqs (vp hh.sub hb ((hC b).2 rfl) hbm.2.1 _) rfl rfl (fun _ _=>rfl) ⟨hset,fun _=>Iff.rfl⟩ (fun k hk=>by
  subst hk;exact⟨.inl ((hC k).2 rfl),by rw[setRow_size];exact hbm.1,hbm.2.1⟩)
 rw[jv] at this;exact⟨H,_,this⟩
def zfz(t q:Nat){s:Nat}{c:Code}(hm:0<m)(hk:κ t=some (.own (SlE e s m xs)))
  (h:∀ b,xs.length=m*s->V P F B n O (upd (upd (upd κ t fw) q (.own (xk b xs e))) t (.is (.slice (some ⟨b,0,none⟩) m m))) c Q):V P F B n O κ c Q:=fun a u hh=>by
 obtain⟨H,fp,hh⟩:=hh;obtain⟨⟨hl,hv⟩,hM⟩:=hh.slot t _ hk;rcases hv with ⟨h0,_,_⟩ | ⟨b,hv,hb,h4,hC⟩
 ·omega
 ·have h2:=hh.usePut (d:=q) (a':=a) (r':=xk b xs e) (C:=fp t) hk ⟨Keep.refl _ _,hh.sub,mt _,fun _ _ _=>rfl⟩ rfl rfl (fun _ _=>rfl) ⟨hb,hC⟩ fun k hk=>⟨.inl hk,(hM k hk).1,(hM k hk).2.1⟩
  have h3:=h2.name t;rw[hv] at h3;exact h b hl a u ⟨H,_,h3⟩
def Rf(L:Tabs P){s:Nat}(hn:Nat.blt d n=true)(hg:gK ops κ ⟨some d,.call ⟨.builtin .append,#[x,y],#[t,t]⟩,ty,pos,aft,g⟩=some true)
  (hx:evK κ x=some (.slice none 0 0)) (hy:Apd F B O κ y m news) (ht:L.sl t=some e) (he:elI P e=some (s,by_)) (hl:news.length=m*s) (h1:news.all v9=true) (hb:m*by_<=140737488355328) (h63:m<=9223372036854775807):
  StepOK P F B n ops O κ ⟨some d,.call ⟨.builtin .append,#[x,y],#[t,t]⟩,ty,pos,aft,g⟩ d (.own (SlR e s m news)):=by
 rintro κ' a u hlk ⟨H,fp,hh⟩;unfold After;rw[na (xh hh hlk hg)];have en:=hh.env hlk;obtain⟨i,z,hi,hz,hs1,hs2,hs3,hs4⟩:=vy he;have hxe:=en.is_ x _ (by simp [Op.operands,Call.operands]) hx;obtain⟨x',u',C',hr,hown',hgr,hC'⟩:=Cu (C:=noL) (xs:=[]) (nn:=0) (x:=.slice none 0 0) u (aty:=ty) (Tabs.sl_spec ht) hi hz hs1 hs2 hs3 hs4 hh.sub ⟨by simp,.inl ⟨rfl,rfl,fun _ h=>h⟩⟩ (fun k hk=>hk.elim) (hy _ a u H fp (by simp [Op.operands,Call.operands]) en) hl (fun v hv=>lw (zlj.1 h1 v hv)) I (by rw[zlf];exact hb);rw[zlf,mh] at hown'
 have hrun:(execOp a.eval ⟨some d,.call ⟨.builtin .append,#[x,y],#[t,t]⟩,ty,pos,aft,g⟩).run P u=.ok (.value x') u':=by
  simp only[execOp,resolve,invoke,builtin,nu,me,ny,zlp,mq,zlo,hxe,hr]
 rw[hrun];simp only[Upon];have h2:=hh.grow hgr;refine⟨H,_,h2.putR (C:=C') (by simp [Act.put]) Z (fun t ht=>xn ht) (by rw[xv (by rw[hh.size];exact zo hn)];exact hown') (fun k hk=>?_) fun t r' _ ht k hf hk=>?_⟩
 ·obtain⟨h3,h4,h5⟩:=hC' k hk;have h3':u.heap.size<=k:=h3.resolve_left fun h=>h;exact⟨h4,h5,.inl (zld hh.keep.size h3'),fun y hy e=>by have:=xc (hh.boxes y hy).1;omega⟩
 ·have h3':u.heap.size<=k:=(hC' k hk).1.resolve_left fun h=>h;have:=((hh.slot t _ ht).2 k hf).1;omega
end
end Go.V
namespace Go.V
section
variable  [Inhabited α] {enc:α->List Value} {k:Nat}
end
section
end
end Go.V
namespace Go.V
def zkk(w:World)(C:Nat->Prop)(r:Res)(v:Value)(H:Heap)(u:World):Prop:=∃ C':Nat->Prop,r.P v H u C'/\∀ k,C' k->(C k\/w.heap.size<=k)/\k<u.heap.size/\H k=none
def RetT(P:Program)(f:FuncId)(args:List Value)(w:World)(B:Heap)(C:Nat->Prop)(r:Res):Prop:=RetL P f args w B C (zkk w C r)
section
variable             {a:Act}    
def Kl(L:Tabs P){r r':Res}{fo:Operand}
  (hn:Nat.blt d n=true) (hg:gK ops κ ⟨some d,.call { callee:=.value fo,args:=args,argTypes:=at_ },ty,pos,aft,g⟩=some true)
  (hf:evK (upd κ q (.is undef)) fo=some (.func (.func f) #[] cap.toArray)) (hfn:L.fn f=some ()) (hq:κ q=some (.own r))
  (h:∀ u H C x,zpk H u->B.Le H->r.P x H u C->(ZCB C u H)->Args (upd κ q (.is x)) H args.toList [] (fun vs=>RetT P f (vs++cap) u H C r')):
  wv P F B n ops O κ ⟨some d,.call { callee:=.value fo,args:=args,argTypes:=at_ },ty,pos,aft,g⟩ q fw d (.own r'):=by
 rintro κ' a u hlk hks ⟨H,fp,hh⟩;unfold After;rw[na (xh hh hlk hg)];have hk':κ' q=some (.own r):=hks.trans hq;obtain⟨hown,hM⟩:=hh.slot q _ hk';have hh2:=hh.name q
 have e2:Env F B O (upd κ q (.is (a.eval (.tmp q)))) ⟨some d,.call { callee:=.value fo,args:=args,argTypes:=at_ },ty,pos,aft,g⟩ a u H fp:=hh2.env (ops:=ops) fun t ht=>by
  by_cases htq:t=q
  ·subst htq;rw[xj,xj]
  ·rw[xe _ _ htq,xe _ _ htq];exact hlk t ht
 have hfe:a.eval fo=.func (.func f) #[] cap.toArray:=by
  refine e2.is_ fo _ (by simp [Op.operands,Call.operands]) ?_
  cases fo with
  | tmp t=>
   simp only[evK] at hf |-;by_cases htq:t=q
   ·subst htq;rw[xj] at hf;cases hf
   ·rw[xe _ _ htq] at hf |-;exact hf
  | _=>exact hf
 have hc:=Args.use e2 args.toList [] (fun x hx=>by simp [Op.operands,Call.operands] at hx |-;exact .inr hx) (h u H (fp q) _ hh.sub hh.base hown fun k hk=>⟨(hM k hk).1,(hM k hk).2.1⟩);simp only[zma,mh] at hc;rw[uf L rfl hfe hfn];simp only[Upon];refine Calls.mono hc fun e' u' hp=>?_;obtain⟨v,rfl,H',g',C',hv,hC'⟩:=hp;exact⟨v,rfl,H',_,hh.usePut (d:=d) (a':=a.put (some d) v) hk' g' (by simp [Act.put]) Z (fun t ht=>xn ht) (by rw[xv (by rw[hh.size];exact zo hn)];exact hv) hC'⟩
def Lt{fn:Func}{t:Nat}{r:Res}(hrs:fn.results=#[.tmp t])(hQ:∀ a u,bodyPostM Fence.wide 0 P fn (pj F.w0 B0 F.L (zkk F.w0 F.L r)) .ret a u->Q .ret a u)(hs:Since F B0 B)(hk:κ t=some (.own r))(hm:X5 F.ds=true:=by rfl):V P F B n O κ .ret Q:=
 Pz hQ hs (hm:=hm) fun O' a u H fp _ hh=>by
  obtain⟨hown,hM⟩:=hh.slot t _ hk;refine⟨a.eval (.tmp t),?_,fp t,hown,fun k hk=>?_⟩
  ·simp [results,hrs,Act.eval]
  ·obtain⟨h1,h2,h3,_⟩:=hM k hk;exact⟨h3.symm,h1,h2⟩
def sq(t q:Nat){s:Nat}{c:Code}(hk:κ t=some (.own (SlR e s m xs)))
  (h0:m=0->xs=[]->V P F B n O (upd κ t (.is (.slice none 0 0))) c Q)
  (h:∀ b cap rest,xs.length=m*s->m<=cap->cap<=maxLen->(xs++rest).length=cap*s->V P F B n O (upd (upd (upd κ t fw) q (.own (xk b (xs++rest) e))) t (.is (.slice (some ⟨b,0,none⟩) m cap))) c Q):V P F B n O κ c Q:=fun a u hh=>by
 obtain⟨H,fp,hh⟩:=hh;obtain⟨⟨hl,hv⟩,hM⟩:=hh.slot t _ hk;rcases hv with ⟨hm,hv,_⟩ | ⟨b,cap,rest,hv,hb,h3,h4,h5,hC⟩
 ·have h3:=hh.name t;rw[hv] at h3;subst hm;exact h0 Z (m6 (by simpa using hl)) a u ⟨H,_,h3⟩
 ·have h2:=hh.usePut (d:=q) (a':=a) (r':=xk b (xs++rest) e) (C:=fp t) hk ⟨Keep.refl _ _,hh.sub,mt _,fun _ _ _=>rfl⟩ rfl rfl (fun _ _=>rfl) ⟨hb,hC⟩ fun k hk=>⟨.inl hk,(hM k hk).1,(hM k hk).2.1⟩
  have h3':=h2.name t;rw[hv] at h3';exact h b cap rest hl h3 h4 h5 a u ⟨H,_,h3'⟩
def g9(t q:Nat){b cap:Nat}{s:Nat}{c:Code}(hcs:cs=xs++rest)(hk:κ q=some (.own (xk b cs e)))(ht:κ t=some (.is (.slice (some ⟨b,0,none⟩) m cap)))(hl:xs.length=m*s)(hm:m<=cap)(hc:cap<=maxLen)(hcl:cs.length=cap*s)
  (h:V P F B n O (upd (upd κ q fw) t (.own (SlR e s m xs))) c Q):V P F B n O κ c Q:=fun a u hh=>by
 subst hcs;obtain⟨H,fp,hh⟩:=hh;obtain⟨⟨hb,hC⟩,hM⟩:=hh.slot q _ hk;have hx:a.eval (.tmp t)=.slice (some ⟨b,0,none⟩) m cap:=hh.slot t _ ht;exact h a u ⟨H,_,hh.usePut (d:=t) (a':=a) (r':=SlR e s m xs) (C:=fp q) hk ⟨Keep.refl _ _,hh.sub,mt _,fun _ _ _=>rfl⟩ Z Z (fun _ _=>rfl) ⟨hl,.inr ⟨b,cap,rest,hx,hb,hm,hc,hcl,hC⟩⟩ fun k hk=>⟨.inl hk,(hM k hk).1,(hM k hk).2.1⟩⟩
def zch{k2:IntKind}{q r:Int}(hn:Nat.blt d n=true)(hg:gK ops κ ⟨some d,.binOp .shr t x y t',ty,pos,aft,g⟩=some true)(hx:evK κ x=some (.int k p))(hy:evK κ y=some (.int k2 q))(h0:0<=q)(hb:p.fdiv (2^min q.toNat k.bits)=r):
  StepOK P F B n ops O κ ⟨some d,.binOp .shr t x y t',ty,pos,aft,g⟩ d (.is (.int k r)):=w8 hn hg hx hy fun u=>by subst hb;simp [eqGuard_shr,binOp_shr,Op.shift,Int.not_lt.2 h0]
def u0(L:Tabs P){tt:TypeId}{s b cap:Nat}{lo hi:Option Operand}{kh:IntKind}(i j:Nat){pl ph:Int}(hn:Nat.blt d n=true)(hg:gK ops κ ⟨some d,.slice tt x lo hi none,ty,pos,aft,g⟩=some true)
  (hx:evK κ x=some (.slice (some ⟨b,off,none⟩) m cap)) (ht:L.sl tt=some e) (hl:L.ld e=some (ag,s))
  (hlo:match lo with | some y=>evK κ y=some (.int kl pl)/\pl=i | none=>i=0) (hhi:match hi with | some y=>evK κ y=some (.int kh ph)/\ph=j | none=>j=m)
  (hij:i<=j) (hjc:j<=cap):
  StepOK P F B n ops O κ ⟨some d,.slice tt x lo hi none,ty,pos,aft,g⟩ d (.is (.slice (some (if cap=i then ⟨b,off,none⟩ else ⟨b,off+i*s,none⟩)) (j-i) (cap-i))):=
 ke rfl (zo hn) hg trivial fun a u H fp en=>⟨_,by
  have hu:=Tabs.sl_spec ht;have h1:=en.is_ x _ (by simp [Op.operands]) hx
  have hrun:(Instr.sliceBounds true m cap (lo.map a.eval) (hi.map a.eval) none).run P u=.ok (i,j,cap) u:=by
   cases hi with
   | none=>
    simp only at hhi;subst hhi
    cases lo with
    | none=>simp only at hlo;subst hlo;simp [Instr.sliceBounds]
    | some z=>
     obtain⟨hz,rfl⟩:=hlo;have h3:=en.is_ z _ (by simp [Op.operands]) hz;simp [h3,Instr.sliceBounds,jp i kl _ _ hij]
   | some y=>
    obtain⟨hy,rfl⟩:=hhi;have h2:=en.is_ y _ (by simp [Op.operands]) hy
    cases lo with
    | none=>simp only at hlo;subst hlo;simp [h2,Instr.sliceBounds,jp j kh cap _ hjc]
    | some z=>
     obtain⟨hz,rfl⟩:=hlo;have h3:=en.is_ z _ (by simp [Op.operands]) hz;simp [h2,h3,Instr.sliceBounds,jp j kh cap _ hjc,jp i kl _ _ hij]
  simp only[execOp,h1,Instr.sliceAt,Instr.slice,nu,run_underlying hu,ny,Option.map_none,hrun,j7 (Tabs.ld_spec hl),me];congr 3;split<;>simp [Addr.add],rfl⟩
def dv(L:Tabs P){s:Nat}{z:Value}(hn:Nat.blt d n=true)(hg:gK ops κ ⟨some d,.buildSlice t 0 #[],ty,pos,aft,g⟩=some true)(ht:L.sl t=some e)(hl:L.ld e=some (ag,s))(hz:L.zr e=some z):
  StepOK P F B n ops O κ ⟨some d,.buildSlice t 0 #[],ty,pos,aft,g⟩ d (.own (SlR e s 0 [])):=by
 rintro κ' a u hlk ⟨H,fp,hh⟩;unfold After;rw[na (xh hh hlk hg)]
 have hrun:(execOp a.eval ⟨some d,.buildSlice t 0 #[],ty,pos,aft,g⟩).run P u=.ok (.value (.slice (some ⟨u.heap.size,0,none⟩) 0 0)) (u.alloc (.cells #[] e)):=by
  have hzz:=Tabs.zr_spec hz;unfold zrI at hzz;split at hzz
  ·rename_i it hit;have hzr:(zeroValue e).run P u=.ok z u:=by simp [zeroValue,typeInfo,hit,hzz]
   simp only[execOp,nu];have e0:(Array.map (fun x:Nat×Operand=>(x.1,a.eval x.2)) #[])=(#[]:Array (Nat×Value)):=by simp
   rw[e0];have hfill:Instr.fill (fun i=>some (i*s,s)) #[] []=some #[]:=by simp [Instr.fill]
   simp only[Instr.buildSlice,nu,run_underlying (Tabs.sl_spec ht),ny,j7 (Tabs.ld_spec hl)];simp only[Nat.zero_mul,if_true,me,ny];have e1:(Array.range 0).map (fun _:Nat=>(default:Value))=#[]:=by simp
   simp [newRow,hfill,e1]
  ·cases hzz
 rw[hrun];simp only[Upon];have hg2:=hh.grow (Grow.hid hh.sub (.cells #[] e));refine⟨H,_,hg2.putR (C:=fun k=>k=u.heap.size) (by simp [Act.put]) Z (fun t ht=>xn ht) ⟨by simp,.inr ⟨u.heap.size,0,[],xv (by rw[hh.size];exact zo hn),xm _ _,ns _,by simp [maxLen],by simp,fun _=>Iff.rfl⟩⟩ (fun k hk=>?_) fun t r' _ ht k hf hk=>?_⟩
 ·subst hk;exact⟨xc (xm u _),k9 hh.sub (ns _),.inl hh.keep.size,fun y hy e=>by have:=xc (hh.boxes y hy).1;omega⟩
 ·have:=((hh.slot t _ ht).2 k hf).1;omega
end
end Go.V
namespace Go.V
def xa(b:Nat)(cs:List Value)(ty:TypeId):GR where
 P _ u C:=u.heap[b]?=some (.cells cs.toArray ty)/\∀ k,C k↔k=b
 st:=fun⟨h1,h2⟩ _ _ _ hk=>⟨(hk b ((h2 b).2 rfl)).trans h1,h2⟩
def xb(b:Nat)(cs:List Value)(ty:TypeId):(xa b cs ty).res=xk b cs ty:=rfl
def kr(P:Program)(f:FuncId)(args:List Value)(w:World)(B:Heap)(C:Nat->Prop)(r:GR):Prop:=
 RetL P f args w B C fun _ H u=>∃ C',r.P H u C'/\∀ k,C' k->(C k\/w.heap.size<=k)/\k<u.heap.size/\H k=none
section
def yq(L:Tabs P)(q:Nat)(r':GR){r:GR}{fo:Operand}
  (hn:Nat.blt d n=true) (hg:gK ops κ ⟨some d,.call { callee:=.value fo,args:=args,argTypes:=at_ },ty,pos,aft,g⟩=some true)
  (hf:evK κ fo=some (.func (.func f) #[] cap.toArray)) (hfn:L.fn f=some ()) (hq:κ q=some (.own r.res))
  (h:∀ u H C,zpk H u->B.Le H->r.P H u C->(ZCB C u H)->Args κ H args.toList [] (fun vs=>kr P f (vs++cap) u H C r')):
  wv P F B n ops O κ ⟨some d,.call { callee:=.value fo,args:=args,argTypes:=at_ },ty,pos,aft,g⟩ q (.own r'.res) d fw:=by
 rintro κ' a u hlk hks ⟨H,fp,hh⟩;unfold After;rw[na (xh hh hlk hg)];have hk':κ' q=some (.own r.res):=hks.trans hq;obtain⟨hown,hM⟩:=hh.slot q _ hk';have e2:=hh.env hlk;have hfe:a.eval fo=.func (.func f) #[] cap.toArray:=e2.is_ fo _ (by simp [Op.operands,Call.operands]) hf;have hc:=Args.use e2 args.toList [] (fun x hx=>by simp [Op.operands,Call.operands] at hx |-;exact .inr hx) (h u H (fp q) hh.sub hh.base hown fun k hk=>⟨(hM k hk).1,(hM k hk).2.1⟩);simp only[zma,mh] at hc;rw[uf L rfl hfe hfn];simp only[Upon];refine Calls.mono hc fun e' u' hp=>?_;obtain⟨v,rfl,H',g',C',hv,hC'⟩:=hp;have h2:=hh.usePut (d:=q) (a':=a) (r':=r'.res) hk' g' rfl rfl (fun _ _=>rfl) hv hC';rw[jv] at h2;exact⟨v,Z,H',_,h2.put (k:=fw) (zo hn) (fun _ _ _ h _=>h) trivial⟩
def Xw(L:Tabs P){fn:Func}(hrs:fn.results=#[])(hQ:∀ a u,bodyPostM Fence.wide 0 P fn (pj F.w0 B0 F.L fun _ _ _=>True) .normal a u->Q .normal a u)(hs:Since F B0 B)(hm:X5 F.ds=true:=by rfl):N F B n O κ Q:=
 zc5 hQ hs (hm:=hm) fun O' a u H fp _ hh=>by
  obtain⟨vs,h1,_⟩:=j8 L hh (rs:=[]) hrs (K:=fun _=>True) trivial;exact⟨_,h1,nm⟩
def ii{x c y:Code}{zpf:Type}(Fk:zpf->List (Nat×Kn))(zpe:zpf->Prop)(Ob:zpf->Boxes)(hy:∀ t,zpe t->V P F B n (Ob t) (ofL (Fk t)) y Q)
  (h:V P F B n O κ x (Exit.then (fun a u=>c.wpIn (FW F.r) 0 P (Exit.then (fun a u=>∃ t,zpe t/\Has F B (Ob t) n (ofL (Fk t)) a u) Q) a u) (Exit.then (fun a u=>∃ t,zpe t/\Has F B (Ob t) n (ofL (Fk t)) a u) Q))):
  V P F B n O κ x (Exit.then (fun a u=>c.wpIn (FW F.r) 0 P (Exit.then (fun a u=>y.wpIn (FW F.r) 0 P Q a u) Q) a u) (Exit.then (fun a u=>y.wpIn (FW F.r) 0 P Q a u) Q)):=fun a u hh=>by
 have key:∀ e a u,Exit.then (fun a u=>∃ t,zpe t/\Has F B (Ob t) n (ofL (Fk t)) a u) Q e a u->Exit.then (fun a u=>y.wpIn (FW F.r) 0 P Q a u) Q e a u:=fun e a u he=>by
  cases e<;>first | exact he | (obtain⟨t,hI,hh⟩:=he;exact hy t hI a u hh)
 refine Go.wpIn_mono (h a u hh) fun e a u he=>?_;cases e<;>first | exact Go.wpIn_mono he key | exact he
def HasH.setSat{t:Nat}{a:Act}(hm:Kn.mono (.sat φ))(h:HasH F B O n κ a u H fp)(hφ:φ (a.eval (.tmp t)) H):HasH F B O n (upd κ t (.sat φ)) a u H fp:=
 ⟨h.size,h.defers,h.nodup,h.marks,h.lent,h.keep,h.sub,h.base,h.fresh,h.boxes,h.apart,fun s k hs=>by
  by_cases hst:s=t
  ·subst hst;rw[xj] at hs;cases hs;exact hφ
  ·rw[xe _ _ hst] at hs;exact h.slot s k hs,fun s r r1 r2 hsr h1 h2=>by
  have key:∀ x r,upd κ t (.sat φ) x=some (.own r)->κ x=some (.own r):=fun x r hx=>by
   by_cases hxd:x=t
   ·subst hxd;rw[xj] at hx;cases hx
   ·rw[xe _ _ hxd] at hx;exact hx
  exact h.owns s r r1 r2 hsr (key _ _ h1) (key _ _ h2),fun s k hs=>by
  by_cases hst:s=t
  ·subst hst;rw[xj] at hs;cases hs;exact hm
  ·rw[xe _ _ hst] at hs;exact h.mono s k hs⟩
def SlG(e:TypeId)(s n:Nat)(xs:List Value):Res where
 P x H u C:=(n=0/\xs=[]/\SlV e s [] 0 true x H/\∀ k,¬ C k)\/(SlR e s n xs).P x H u C
 st:=fun h hle hs ho hk=>by
  rcases h with ⟨h1,h2,h3,h4⟩ | h
  ·exact .inl ⟨h1,h2,h3.le hle,h4⟩
  ·exact .inr ((SlR e s n xs).st h hle hs ho hk)
def Has.toG{t:Nat}{s:Nat}{a:Act}(hk:κ t=some (.sat (SlV e s [] 0 true)))(h:Has F B O n κ a u):Has F B O n (upd κ t (.own (SlG e s 0 []))) a u:=by
 obtain⟨H,fp,h⟩:=h;exact⟨H,_,h.putR (C:=noL) (a':=a) Z Z (fun _ _=>rfl) (.inl ⟨rfl,rfl,h.slot t _ hk,fun _ h=>h⟩) (fun k hk=>hk.elim) (fun _ _ _ _ _ _ hk=>hk.elim)⟩
def zjx(t:Nat){s:Nat}{c:Code}(hk:κ t=some (.sat (SlV e s [] 0 true)))(h:V P F B n O (upd κ t (.own (SlG e s 0 []))) c Q):V P F B n O κ c Q:=fun a u hh=>h a u (hh.toG hk)
def Has.pubG{t:Nat}{s:Nat}{a:Act}(hk:κ t=some (.own (SlG e s m xs)))(h:Has F B O n κ a u):Has F B O n (upd κ t (.sat (SlV e s xs m false))) a u:=by
 obtain⟨H,fp,h⟩:=h;obtain⟨hv,hM⟩:=h.slot t _ hk;rcases hv with ⟨rfl,rfl,h3,_⟩ | hv
 ·exact⟨H,fp,h.setSat ma h3.nofu⟩
 ·have h2:=h.putR (d:=t) (r:=SlR e s m xs) (C:=fp t) (a':=a) rfl rfl (fun _ _=>rfl) hv hM (fun t' r' hne hk' k hf hc=>h.owns t' t _ _ hne hk' hk k hf hc);have h3:=Has.pubR (t:=t) (xj _ _ _) ⟨H,_,h2⟩
  rwa [jv] at h3
def zif(t:Nat){s:Nat}{c:Code}(hk:κ t=some (.own (SlG e s m xs)))(h:V P F B n O (upd κ t (.sat (SlV e s xs m false))) c Q):V P F B n O κ c Q:=fun a u hh=>h a u (hh.pubG hk)
def Dt(L:Tabs P){s:Nat}(hm:0<m)(hn:Nat.blt d n=true)(hg:gK ops κ ⟨some d,.call ⟨.builtin .append,#[.tmp q,y],#[t,t]⟩,ty,pos,aft,g⟩=some true)
  (hq:κ q=some (.own (SlG e s nn xs))) (hy:Apd F B O κ y m news) (ht:L.sl t=some e) (he:elI P e=some (s,by_)) (hl:news.length=m*s) (h1:news.all v9=true) (hb:(nn+m)*by_<=140737488355328) (h63:nn+m<=9223372036854775807):
  wv P F B n ops O κ ⟨some d,.call ⟨.builtin .append,#[.tmp q,y],#[t,t]⟩,ty,pos,aft,g⟩ q fw d (.own (SlG e s (nn+m) (xs++news))):=by
 rintro κ' a u hlk hks ⟨H,fp,hh⟩;unfold After;rw[na (xh hh hlk hg)];have en:=hh.env hlk;obtain⟨i,z,hi,hz,hs1,hs2,hs3,hs4⟩:=vy he;have hk':κ' q=some (.own (SlG e s nn xs)):=hks.trans hq;obtain⟨hown,hM⟩:=hh.slot q _ hk';have hyv:=hy _ a u H fp (by simp [Op.operands,Call.operands]) en;have h1':∀ v∈news,v.oneCell'=true:=fun v hv=>lw (zlj.1 h1 v hv)
 have hap:∃ x' u' C',(Builtin.append_ #[t,t] ty #[a.eval (.tmp q),a.eval y]).run P u=.ok x' u'/\(SlR e s (nn+m) (xs++news)).P x' H u' C'/\Grow (fp q) u H u' H/\∀ k,C' k->(fp q k\/u.heap.size<=k)/\k<u'.heap.size/\H k=none:=by
  rcases hown with ⟨rfl,rfl,h3,hC⟩ | hown
  ·have hxx:a.eval (.tmp q)=.slice none 0 0\/∃ a0,a.eval (.tmp q)=.slice (some a0) 0 0:=by
    obtain⟨hl3,⟨_,p0,hx⟩ | ⟨b,off,cap,cs,ty0,fr,hx,hb1,_,hcp,hfu⟩⟩:=h3
    ·cases p0 with
     | none=>exact .inl hx
     | some a0=>exact .inr ⟨a0,hx⟩
    ·obtain rfl:=hfu rfl;exact .inr ⟨_,hx⟩
   rcases hxx with hx | ⟨a0,hx⟩
   ·refine Cu u (Tabs.sl_spec ht) hi hz hs1 hs2 hs3 hs4 hh.sub ⟨by simp,.inl ⟨rfl,hx,hC⟩⟩ (fun k hk=>⟨(hM k hk).1,(hM k hk).2.1⟩) hyv hl h1' h63 hb
   ·rcases hyv with ⟨rfl,_⟩ | ⟨ad,c,hye,hnews⟩
    ·omega
    ·subst hs1 hs2;have hr:=run_append_grow (P:=P) u t ty e i z (Tabs.sl_spec ht) hi hz a0 0 0 [] (by simp) (fun j v hj=>by simp at hj) ad m c news hl hnews I I (growslice_fits I hb);rw[hx,hye];have hmx:0+m<=maxLen:=by simp only[maxLen];omega
     have hge:=grownCap_ge u (0+m) 0 e
     refine⟨_,_,fun k=>k=u.heap.size,hr,⟨by simpa using hl,.inr ⟨u.heap.size,_,(Builtin.zeroCells z.cells (grownCap u (0+m) 0 e-(0+m))).toList,rfl,?_,hge,grownCap_le_maxLen u (0+m) 0 e hmx,?_,fun _=>Iff.rfl⟩⟩,⟨⟨rfl,rfl,rfl,by simp,fun k hk _=>jx u.drew _ hk,zmn _⟩,fun k v hv=>by
      have:=hh.sub.size hv;show(u.drew.alloc _).heap[k]?=some v;rw[jx u.drew _ this];exact hh.sub k v hv,mt _,fun _ _ _=>rfl⟩,fun k hk=>by
      subst hk;exact⟨.inr (ns _),by simp,k9 hh.sub (ns _)⟩⟩
     ·rw[show u.heap.size=u.drew.heap.size from rfl,heap_alloc_new];congr 2;apply Array.ext';simp
     ·rw[mh,nr,hl,zmt,size_zeroCells,hs3,<-zl9];congr 1;omega
  ·exact Cu u (Tabs.sl_spec ht) hi hz hs1 hs2 hs3 hs4 hh.sub hown (fun k hk=>⟨(hM k hk).1,(hM k hk).2.1⟩) hyv hl h1' h63 hb
 obtain⟨x',u',C',hr,hown',hgr,hC'⟩:=hap
 have hrun:(execOp a.eval ⟨some d,.call ⟨.builtin .append,#[.tmp q,y],#[t,t]⟩,ty,pos,aft,g⟩).run P u=.ok (.value x') u':=by
  simp only[execOp,resolve,invoke,builtin,nu,me,ny,zlp,mq,zlo,hr]
 rw[hrun];simp only[Upon];exact⟨H,_,hh.usePut hk' hgr (by simp [Act.put]) Z (fun t ht=>xn ht) (by rw[xv (by rw[hh.size];exact zo hn)];exact .inr hown') hC'⟩
end
end Go.V
namespace Go.V
def RetX(P:Program)(f:FuncId)(args:List Value)(w:World)(B:Heap)(C:Nat->Prop)(r:GR)(v:Value):Prop:=
 RetL P f args w B C fun x H u=>x=v/\∃ C',r.P H u C'/\∀ k,C' k->(C k\/w.heap.size<=k)/\k<u.heap.size/\H k=none
section
def y6(L:Tabs P)(q:Nat)(r':GR)(v:Value){r:GR}{fo:Operand}
  (hn:Nat.blt d n=true) (hg:gK ops κ ⟨some d,.call { callee:=.value fo,args:=args,argTypes:=at_ },ty,pos,aft,g⟩=some true)
  (hf:evK κ fo=some (.func (.func f) #[] cap.toArray)) (hfn:L.fn f=some ()) (hq:κ q=some (.own r.res))
  (h:∀ u H C,zpk H u->B.Le H->r.P H u C->(ZCB C u H)->Args κ H args.toList [] (fun vs=>RetX P f (vs++cap) u H C r' v)):
  wv P F B n ops O κ ⟨some d,.call { callee:=.value fo,args:=args,argTypes:=at_ },ty,pos,aft,g⟩ q (.own r'.res) d (.is v):=by
 rintro κ' a u hlk hks ⟨H,fp,hh⟩;unfold After;rw[na (xh hh hlk hg)];have hk':κ' q=some (.own r.res):=hks.trans hq;obtain⟨hown,hM⟩:=hh.slot q _ hk';have e2:=hh.env hlk;have hfe:a.eval fo=.func (.func f) #[] cap.toArray:=e2.is_ fo _ (by simp [Op.operands,Call.operands]) hf;have hc:=Args.use e2 args.toList [] (fun x hx=>by simp [Op.operands,Call.operands] at hx |-;exact .inr hx) (h u H (fp q) hh.sub hh.base hown fun k hk=>⟨(hM k hk).1,(hM k hk).2.1⟩);simp only[zma,mh] at hc;rw[uf L rfl hfe hfn];simp only[Upon];refine Calls.mono hc fun e' u' hp=>?_;obtain⟨x,rfl,H',g',hx,C',hv,hC'⟩:=hp;have h2:=hh.usePut (d:=q) (a':=a) (r':=r'.res) hk' g' rfl rfl (fun _ _=>rfl) hv hC';rw[jv] at h2;exact⟨x,Z,H',_,h2.put (k:=.is v) (zo hn) trivial hx⟩
def xq(L:Tabs P){fn:Func}(gs:Nat){r r':GR}{rs:List ResultVar}(hrs:fn.results=rs.toArray)
  (hQ:∀ a u,bodyPostM Fence.wide 0 P fn (pj F.w0 B0 F.L fun x H u=>x=v/\∃ C',r'.P H u C'/\∀ k,C' k->(F.L k\/F.w0.heap.size<=k)/\k<u.heap.size/\H k=none) .ret a u->Q .ret a u) (hs:Since F B0 B) (hk:κ gs=some (.own r.res)) (e:r=r')
  (h:∀ H,Cy L F B O κ H rs [] (fun vs=>tup vs=v)) (hd:F.ds=[]:=by rfl):V P F B n O κ .ret Q:=fun a u hh=>by
 obtain⟨H,fp,hH⟩:=hh;refine wpIn_ret (hQ a u ?_);have h0:=hH.defers;rw[hd] at h0;show LeavesInM _ _ _ _ _ _ a.defers _ _;rw[h0];subst e;obtain⟨vs,h1,h2⟩:=j8 L hH hrs (h H);obtain⟨C',h3,h4⟩:=HasH.ghost hk hH;exact⟨_,h1,_,rfl,H,⟨hH.keep,hH.sub,hs.le.trans hH.base,fun k hk hl=>(hH.fresh k hk hl).trans (hs.fresh k hk hl)⟩,h2,C',h3,h4⟩
def Ol{k2:IntKind}{q r:Int}(hn:Nat.blt d n=true)(hg:gK ops κ ⟨some d,.binOp .shl t x y t',ty,pos,aft,g⟩=some true)(hx:evK κ x=some (.int k p))(hy:evK κ y=some (.int k2 q))(h0:0<=q)(hb:k.wrap (p*2^min q.toNat k.bits)=r):
  StepOK P F B n ops O κ ⟨some d,.binOp .shl t x y t',ty,pos,aft,g⟩ d (.is (.int k r)):=w8 hn hg hx hy fun u=>by subst hb;simp [eqGuard_shl,binOp_shl,Op.shift,Int.not_lt.2 h0]
def Tz{q r:Int}(hn:Nat.blt d n=true)(hg:gK ops κ ⟨some d,.binOp .xor t x y t',ty,pos,aft,g⟩=some true)(hx:evK κ x=some (.int k p))(hy:evK κ y=some (.int k q))(hb:bits .xor k p q=r):
  StepOK P F B n ops O κ ⟨some d,.binOp .xor t x y t',ty,pos,aft,g⟩ d (.is (.int k r)):=w8 hn hg hx hy fun u=>by subst hb;simp [eqGuard_xor,binOp_xor,intBits_xor]
def ra{id:Nat}{x y:Code}{R:Exit->Act->World->Prop}(hm:zil P F B n R y Q)(h:V P F B n O κ x (Exit.inBlock id R)):V P F B n O κ x (Exit.inBlock id (Exit.then (fun a u=>y.wpIn (FW F.r) 0 P Q a u) Q)):=fun a u hh=>by
 have key:∀ e a u,R e a u->Exit.then (fun a u=>y.wpIn (FW F.r) 0 P Q a u) Q e a u:=fun e a u he=>by
  cases e<;>first | exact hm.1 a u he | exact hm.2 _ a u (by intro h;cases h) he
 refine Go.wpIn_mono (h a u hh) fun e a u he=>?_
 cases e with
 | exit j=>
  simp only[Exit.inBlock] at he |-;split at he
  ·rename_i h;rw[na h];exact key _ _ _ he
  ·rename_i h;rw[nc h];exact key _ _ _ he
 | _=>exact key _ _ _ he
end
def uC(d:Array Int):List Value:=d.toList.map (Value.int .u64)
def Av(d:Array Int):(uC d).length=d.size:=by simp [uC]
def zb7{d:Array Int}(h:j<d.size):(uC d)[j]?=some (.int .u64 d[j]!):=by
 unfold uC;rw[zlx,zn2,zln h,getElem!_pos d j h];rfl
def ux{d:Array Int}(h:j<d.size)(off:Nat)(ho:off=0+j*1):∃ r,(uC d++rest).drop off=.int .u64 d[j]! ::r:=by
 subst ho;rw[zlf,zmi];have hl:j<(uC d++rest).length:=by rw[nr,Av];omega
 refine⟨(uC d++rest).drop (j+1),?_⟩;rw[zl4 hl];congr 1;have:=zb7 h;rw[<-zml (l₂:=rest) (by rw[Av];exact h),zlq hl] at this;exact Option.some.inj this
def vg{d:Array Int}(z:Int)(h:j<d.size)(off:Nat)(ho:off=0+j*1):(uC d++rest).take off++([.int .u64 z]++(uC d++rest).drop (off+1))=uC (d.setIfInBounds j z)++rest:=by
 subst ho;rw[zlf,zmi]
 have h1:uC (d.setIfInBounds j z)=(uC d).set j (.int .u64 z):=by
  unfold uC;rw[zo0,List.map_set]
 rw[h1,zog (by rw[Av];omega),List.drop_append_of_le_length (by rw[Av];omega),List.set_eq_take_append_cons_drop,na (by rw[Av];exact h)];simp
def vh{d:Array Int}(h:j<d.size)(off:Nat)(ho:off=0+j*1):Nat.ble (off+1) (uC d++rest).length=true:=zn3 (by rw[nr,Av];omega)
def gn(d:Array Int)(i j:Nat):(d.setIfInBounds i d[j]!).setIfInBounds j d[i]! =Go.Sort.swp d i j:=rfl
def wj(d:Array Int)(i j:Nat):(Go.Sort.swp d i j).size=d.size:=by unfold Go.Sort.swp;rw[Array.size_setIfInBounds,Array.size_setIfInBounds]
end Go.V
namespace Go.V
section
variable             {a:Act}  
end
end Go.V
namespace Go.V
section
end
end Go.V
namespace Go.V
section
def zik(B:Heap)(v:Value):Prop:=∀ b o k m c,v=.slice (some ⟨b,o,k⟩) m c->B b=none
end
end Go.V
namespace Go.V
section
def Ch{b:Nat}{L:Nat->Prop}{o:Obj}(hs:zpk H u)(hL:L b)(hH:H b=none):Grow L u H (u.putObj b o) H:=
 ⟨⟨rfl,rfl,rfl,zni World.putObj_size.symm,fun k _ hk=>zof (fun e=>hk (e ▸ hL)),ns _⟩,fun k x hx=>by
  have:k≠b:=fun e=>by subst e;rw[hH] at hx;cases hx
  show(u.putObj b o).heap[k]?=some x;rw[zof this];exact hs k x hx,mt _,fun _ _ _=>rfl⟩
end
section
variable  {b:Frame} {a:Act} {k:List Item} {cs:List Frame} 
end
section
end
end Go.V
namespace Go.V
section
end
section
variable {V:Type} [DecidableEq K]
def dw(k:K):List (K×V)->Nat->Option (Nat×V)
 | [],_=>none
 | p::l,i=>if k=p.1 then some (i,p.2) else dw k l (i+1)
def ul(k:K)(l:List (K×V)):Option V:=(dw k l 0).map (·.2)
def Nf(k:K)(v:V):List (K×V)->List (K×V)
 | []=>[(k,v)]
 | p::l=>if k=p.1 then (p.1,v)::l else p::Nf k v l
def B7(k:K):∀ (l:List (K×V)) (i:Nat),dw k l (i+1)=(dw k l i).map fun p=>(p.1+1,p.2)
 | [],_=>rfl
 | p::l,i=>by
  unfold dw;split
  ·rfl
  ·exact B7 k l (i+1)
def uc(k:K)(p:K×V)(l:List (K×V)):ul k (p::l)=if k=p.1 then some p.2 else ul k l:=by
 unfold ul;rw[dw];split
 ·rfl
 ·rw[B7,Option.map_map];rfl
def Oz(k k':K)(v:V):∀ l:List (K×V),ul k (Nf k' v l)=if k=k' then some v else ul k l
 | []=>by rw[Nf,uc]
 | p::l=>by
  rw[Nf];split
  ·rename_i h;rw[uc,uc];by_cases h1:k=p.1
   ·rw[na h1,na (h1.trans h.symm)]
   ·rw[nc h1,nc (fun e=>h1 (e.trans h))];rw[nc h1]
  ·rename_i h;rw[uc,uc,Oz k k' v l];by_cases h1:k=p.1
   ·rw[na h1,nc (fun e=>h (e.symm.trans h1)),na h1]
   ·rw[nc h1,nc h1]
def B8{k:K}:∀ {l:List (K×V)} {i j:Nat} {x:V},dw k l i=some (j,x)->∃ n,j=i+n/\l[n]?=some (k,x)
 | [],_,_,_,h=>by cases h
 | p::l,i,j,x,h=>by
  unfold dw at h;split at h
  ·rename_i hk;cases h;exact⟨0,rfl,by subst hk;rfl⟩
  ·obtain⟨n,hn,hx⟩:=B8 h;exact⟨n+1,by omega,hx⟩
def oe{k:K}{v:V}:∀ {l:List (K×V)} {i:Nat},dw k l i=none->Nf k v l=l++[(k,v)]
 | [],_,_=>rfl
 | p::l,i,h=>by
  unfold dw at h;split at h
  ·cases h
  ·rename_i hk;rw[Nf,nc hk,oe h];rfl
end
section
variable  {V:Type} [DecidableEq K] {kc:K->List Value} {vc:V->Value} {l:List (K×V)} {kt et:TypeId} {ls:List Nat}
end
section
variable             {a:Act}     {ex:Exs}
variable {Y:Type} [DecidableEq K] {kc:K->List Value} {vc:Y->Value} {l:List (K×Y)}
end
end Go.V
namespace Go.V
def v8{l:List α}{x:α}(h:l[i]?=some x):l.take (i+1)=l.take i++[x]:=by
 rw[zls,h];rfl
section
def Has.relE{t:Nat}{b:Nat}{s:Nat}{a:Act}(hk:κ q=some (.own (xk b xs e)))(ht:κ t=some (.is (.slice (some ⟨b,0,none⟩) m m)))(hl:xs.length=m*s)(hm:m<=maxLen)(hh:Has F B O n κ a u):Has F B O n (upd (upd κ q fw) t (.own (SlE e s m xs))) a u:=by
 obtain⟨H,fp,hh⟩:=hh;obtain⟨⟨hb,hC⟩,hM⟩:=hh.slot q _ hk;have hx:a.eval (.tmp t)=.slice (some ⟨b,0,none⟩) m m:=hh.slot t _ ht;exact⟨H,_,hh.usePut (d:=t) (a':=a) (r':=SlE e s m xs) (C:=fp q) hk ⟨Keep.refl _ _,hh.sub,mt _,fun _ _ _=>rfl⟩ Z Z (fun _ _=>rfl) ⟨hl,.inr ⟨b,hx,hb,hm,hC⟩⟩ fun k hk=>⟨.inl hk,(hM k hk).1,(hM k hk).2.1⟩⟩
def zc1(t q:Nat){b:Nat}{s:Nat}{c:Code}(hk:κ q=some (.own (xk b xs e)))(ht:κ t=some (.is (.slice (some ⟨b,0,none⟩) m m)))(hl:xs.length=m*s)(hm:m<=maxLen)
  (h:V P F B n O (upd (upd κ q fw) t (.own (SlE e s m xs))) c Q):V P F B n O κ c Q:=fun a u hh=>h a u (hh.relE hk ht hl hm)
def StepOK.seeV{s:Nat}(h:StepOK P F B n ops O κ o d (.is v))(hv:SlV e s xs m fu v B):StepOK P F B n ops O κ o d (.sat (SlV e s xs m fu)):=fun κ' a u hl hh=>
 After.mono (fun a' u' hh'=>by
  have h2:=hh'.seen (t:=d) (SlV e s xs m fu) (xj _ _ _) ma hv
  rwa [jv] at h2) (h κ' a u hl hh)
def Has.pubH{b:Nat}{a:Act}(hk:κ q=some (.own (xk b cs t')))(hh:Has F B O n κ a u):∃ H,Since F B H/\B b=none/\H b=some (.cells cs.toArray t')/\Has F H O n (upd κ q fw) a u:=by
 obtain⟨H,fp,hh⟩:=hh;obtain⟨⟨hb,hC⟩,hM⟩:=hh.slot q _ hk;have hbm:=hM b ((hC b).2 rfl);obtain⟨H',h'⟩:=hh.pub (φ:=fun _ H=>H b=some (.cells cs.toArray t')) hk hb ((hC b).2 rfl) (fun _ _ _ h hle=>hle _ _ h) fun H' _ hb'=>hb';have hx:H' b=some (.cells cs.toArray t'):=h'.slot q _ (xj _ _ _);refine⟨H',h'.isSince,?_,hx,H',fp,?_⟩
 ·cases hB:B b with
  | none=>rfl
  | some z=>have:=hh.base _ _ hB;rw[hbm.2.1] at this;cases this
 ·have h2:=(h'.rebase).setSat (t:=q) (φ:=fun _ _=>True) (fun _ _ _ _ _=>trivial) trivial
  rwa [jv] at h2
def wd(q:Nat){b:Nat}{c:Code}(hk:κ q=some (.own (xk b cs t')))(h:∀ H,Since F B H->B b=none->H b=some (.cells cs.toArray t')->V P F H n O (upd κ q fw) c Q):V P F B n O κ c Q:=fun a u hh=>
 let ⟨H,h1,h2,h3,h4⟩:=hh.pubH hk;h H h1 h2 h3 a u h4
def G2(L:Tabs P){fn:Func}{r:Res}{rs:List ResultVar}(hrs:fn.results=rs.toArray)
  (hQ:∀ a u,bodyPostM Fence.wide 0 P fn (pj F.w0 B0 F.L (zf1 F.w0 r)) .ret a u->Q .ret a u) (hs:Since F B0 B)
  (h:∀ H,Cy L F B O κ H rs [] (fun vs=>tup vs=v)) (hr:∀ H u,B.Le H->r.P v H u noL) (hd:F.ds=[]:=by rfl):V P F B n O κ .ret Q:=fun a u hh=>by
 obtain⟨H,fp,hH⟩:=hh;refine wpIn_ret (hQ a u ?_);have h0:=hH.defers;rw[hd] at h0;show LeavesInM _ _ _ _ _ _ a.defers _ _;rw[h0];obtain⟨vs,h1,h2⟩:=j8 L hH hrs (h H);exact⟨_,h1,_,rfl,H,⟨hH.keep,hH.sub,hs.le.trans hH.base,fun k hk hl=>(hH.fresh k hk hl).trans (hs.fresh k hk hl)⟩,noL,by rw[h2];exact hr H u hH.base,fun _ h=>h.elim⟩
end
section
variable             {Y:Type} [DecidableEq K] {kc:K->List Value} {vc:Y->Value} {l:List (K×Y)}
end
end Go.V
namespace Go.V
section
end
end Go.V
namespace Go.V
def SlW(e:TypeId)(s n:Nat)(xs:List Value):Value->Heap->Prop:=fun v H=>xs.length=n*s/\((n=0/\v=.slice none 0 0)\/∃ b cap rest,v=.slice (some ⟨b,0,none⟩) n cap/\H b=some (.cells (xs++rest).toArray e)/\n<=cap/\cap<=maxLen/\(xs++rest).length=cap*s)
def SlW.toV{s:Nat}(h:SlW e s n xs v H):SlV e s xs n false v H:=⟨h.1,by
 rcases h.2 with ⟨h1,h2⟩ | ⟨b,cap,rest,h1,h2,h3,_,_⟩
 ·exact .inl ⟨h1,_,h2⟩
 ·exact .inr ⟨b,0,cap,_,_,(0,0),h1,h2,by show((xs++rest).drop 0).take xs.length=_;rw[zl5,List.take_left],h3,fun h=>by cases h⟩⟩
section
def Has.pubW{t:Nat}{s:Nat}{a:Act}(hk:κ t=some (.own (SlR e s m xs)))(hh:Has F B O n κ a u):∃ x H,Since F B H/\zik B x/\SlW e s m xs x H/\Has F H O n (upd κ t (.is x)) a u:=by
 obtain⟨H,fp,hh⟩:=hh;obtain⟨⟨hl,hv⟩,hM⟩:=hh.slot t _ hk;rcases hv with ⟨h0,hv,hC⟩ | ⟨b,cap,rest,hv,hb,h3,h4,h5,hC⟩
 ·exact⟨_,H,hh.isSince,(fun b o k m c e=>by rw[hv] at e;cases e),⟨hl,.inl ⟨h0,hv⟩⟩,H,fp,(hh.name t).rebase⟩
 ·have hbm:=hM b ((hC b).2 rfl);obtain⟨H',h'⟩:=hh.pub (φ:=fun v H=>v=.slice (some ⟨b,0,none⟩) m cap/\H b=some (.cells (xs++rest).toArray e)) hk hb ((hC b).2 rfl) (fun _ _ _ h hle=>⟨h.1,hle _ _ h.2⟩) fun H' _ hb'=>⟨hv,hb'⟩
  have hx:=h'.slot t _ (xj _ _ _)
  have hB:B b=none:=by
   cases hB:B b with
   | none=>rfl
   | some z=>have:=hh.base _ _ hB;rw[hbm.2.1] at this;cases this
  have h2:=(h'.name t).rebase;rw[jv] at h2;exact⟨_,H',h'.isSince,(fun b' o k m c e=>by rw[hv] at e;cases e;exact hB),⟨hl,.inr ⟨b,cap,rest,hv,hx.2,h3,h4,h5⟩⟩,H',fp,h2⟩
def Xt(t:Nat){s:Nat}{c:Code}(hk:κ t=some (.own (SlR e s m xs)))(h:∀ x H,Since F B H->zik B x->SlW e s m xs x H->V P F H n O (upd κ t (.is x)) c Q):V P F B n O κ c Q:=fun a u hh=>
 let ⟨x,H,h1,h2,h3,h4⟩:=hh.pubW hk;h x H h1 h2 h3 a u h4
def Re(L:Tabs P){b cap:Nat}{s:Nat}(hn:Nat.blt d n=true)(hg:gK ops κ ⟨some d,.call ⟨.builtin .append,#[x,y],#[t,t]⟩,ty,pos,aft,g⟩=some true)
  (hx:evK κ x=some (.slice (some ⟨b,0,none⟩) nn cap)) (hq:κ q=some (.own (xk b (xs++rest) e))) (hxl:xs.length=nn*s) (hnc:nn<=cap) (hcm:cap<=maxLen) (hcl:(xs++rest).length=cap*s) (hy:Apd F B O κ y m news) (ht:L.sl t=some e) (he:elI P e=some (s,by_)) (hl:news.length=m*s) (h1:news.all v9=true) (hb:(nn+m)*by_<=140737488355328) (h63:nn+m<=9223372036854775807):
  wv P F B n ops O κ ⟨some d,.call ⟨.builtin .append,#[x,y],#[t,t]⟩,ty,pos,aft,g⟩ q fw d (.own (SlR e s (nn+m) (xs++news))):=by
 rintro κ' a u hlk hks ⟨H,fp,hh⟩;unfold After;rw[na (xh hh hlk hg)];have en:=hh.env hlk;obtain⟨i,z,hi,hz,hs1,hs2,hs3,hs4⟩:=vy he;have hxe:=en.is_ x _ (by simp [Op.operands,Call.operands]) hx;have hk':κ' q=some (.own (xk b (xs++rest) e)):=hks.trans hq;obtain⟨⟨hb',hC⟩,hM⟩:=hh.slot q _ hk';have hown:(SlR e s nn xs).P (.slice (some ⟨b,0,none⟩) nn cap) H u (fp q):=⟨hxl,.inr ⟨b,cap,rest,rfl,hb',hnc,hcm,hcl,hC⟩⟩
 obtain⟨x',u',C',hr,hown',hgr,hC'⟩:=Cu u (aty:=ty) (Tabs.sl_spec ht) hi hz hs1 hs2 hs3 hs4 hh.sub hown (fun k hk=>⟨(hM k hk).1,(hM k hk).2.1⟩) (hy _ a u H fp (by simp [Op.operands,Call.operands]) en) hl (fun v hv=>lw (zlj.1 h1 v hv)) h63 hb
 have hrun:(execOp a.eval ⟨some d,.call ⟨.builtin .append,#[x,y],#[t,t]⟩,ty,pos,aft,g⟩).run P u=.ok (.value x') u':=by
  simp only[execOp,resolve,invoke,builtin,nu,me,ny,zlp,mq,zlo,hxe,hr]
 rw[hrun];simp only[Upon];exact⟨H,_,hh.usePut hk' hgr (by simp [Act.put]) Z (fun t ht=>xn ht) (by rw[xv (by rw[hh.size];exact zo hn)];exact hown') hC'⟩
end
def Has.nilAt(g:Nat)(e:TypeId)(s:Nat){a:Act}(hh:Has F B O n κ a u):Has F B O n (upd κ g (.own (AtV (.slice none 0 0) (SlR e s 0 [])))) a u:=by
 obtain⟨H,fp,hh⟩:=hh;exact⟨H,_,hh.putR (C:=noL) (a':=a) Z Z (fun _ _=>rfl) ⟨by simp,.inl ⟨rfl,rfl,fun _ h=>h⟩⟩ (fun _ h=>h.elim) fun _ _ _ _ _ _ h=>h⟩
def sn(g:Nat)(e:TypeId)(s:Nat){c:Code}(h:V P F B n O (upd κ g (.own (AtV (.slice none 0 0) (SlR e s 0 [])))) c Q):V P F B n O κ c Q:=fun a u hh=>h a u (hh.nilAt g e s)
end Go.V
namespace Go.V
def ei(r1 r2:Res):Res where
 P v H u C:=∃ C1 C2:Nat->Prop,r1.P v H u C1/\r2.P v H u C2/\(∀ k,C k↔C1 k\/C2 k)/\∀ k,C1 k->¬ C2 k
 st:=fun⟨C1,C2,h1,h2,h3,h4⟩ hle hs ho hk=>⟨C1,C2,r1.st h1 hle hs ho fun k hc=>hk k ((h3 k).2 (.inl hc)),r2.st h2 hle hs ho fun k hc=>hk k ((h3 k).2 (.inr hc)),h3,h4⟩
def uw(r1 r2:GR):GR where
 P H u C:=∃ C1 C2:Nat->Prop,r1.P H u C1/\r2.P H u C2/\(∀ k,C k↔C1 k\/C2 k)/\∀ k,C1 k->¬ C2 k
 st:=fun⟨C1,C2,h1,h2,h3,h4⟩ hle hs ho hk=>⟨C1,C2,r1.st h1 hle hs ho fun k hc=>hk k ((h3 k).2 (.inl hc)),r2.st h2 hle hs ho fun k hc=>hk k ((h3 k).2 (.inr hc)),h3,h4⟩
def w5(r1 r2:GR):(uw r1 r2).res=ei r1.res r2.res:=rfl
def GEx{X:Type}(r:X->GR)(φ:X->Heap->Prop)(hφ:eg φ):GR where
 P H u C:=∃ x,φ x H/\(r x).P H u C
 st:=fun⟨x,h1,h2⟩ hle hs hon hk=>⟨x,hφ _ _ _ h1 hle,(r x).st h2 hle hs hon hk⟩
section
variable              {a:Act}  
def Has.part{g1:Nat}(hne:q≠g1)(hg1:∀ v v' H u C,r2.P v H u C->r2.P v' H u C)(hk:κ q=some (.own (ei r1 r2)))(h:Has F B O n κ a u):Has F B O n (upd (upd κ q (.own r1)) g1 (.own r2)) a u:=by
 obtain⟨H,fp,hh⟩:=h;obtain⟨⟨C1,C2,h1,h2,h3,h4⟩,hM⟩:=hh.slot q _ hk;have e2:=hh.putR (d:=q) (r:=r1) (C:=C1) (a':=a) rfl rfl (fun _ _=>rfl) h1 (fun k hk'=>hM k ((h3 k).2 (.inl hk'))) (fun t r' hne' hk' k hf hc=>hh.owns t q _ _ hne' hk' hk k hf ((h3 k).2 (.inl hc)))
 have e3:=e2.putR (d:=g1) (r:=r2) (C:=C2) (a':=a) rfl rfl (fun _ _=>rfl) (hg1 _ _ _ _ _ h2) (fun k hk'=>hM k ((h3 k).2 (.inr hk'))) (fun t r' hne' hk' k hf hc=>by
  by_cases e:t=q
  ·subst e;rw[ou] at hf;exact h4 k hf hc
  ·rw[cm _ _ e] at hf;rw[xe _ _ e] at hk';exact hh.owns t q _ _ e hk' hk k hf ((h3 k).2 (.inr hc)))
 exact⟨H,_,e3⟩
def Has.join2{g1:Nat}(hne:q≠g1)(hg1:∀ v v' H u C,r2.P v H u C->r2.P v' H u C)(hk:κ q=some (.own r1))(hk1:κ g1=some (.own r2))(h:Has F B O n κ a u):Has F B O n (upd (upd κ g1 fw) q (.own (ei r1 r2))) a u:=by
 obtain⟨H,fp,hh⟩:=h;obtain⟨h1,hM⟩:=hh.slot q _ hk;obtain⟨h2,hM1⟩:=hh.slot g1 _ hk1;have e1:=hh.drop1 g1;have hkq:upd κ g1 fw q=some (.own r1):=by rw[xe _ _ hne];exact hk
 have e2:=e1.putR (d:=q) (r:=ei r1 r2) (C:=fun k=>fp q k\/fp g1 k) (a':=a) rfl rfl (fun _ _=>rfl) ⟨fp q,fp g1,h1,hg1 _ _ _ _ _ h2,fun _=>Iff.rfl,hh.owns q g1 _ _ hne hk hk1⟩
  (fun k hk'=>hk'.elim (hM k) (hM1 k)) (fun t r' hne' hk' k hf hc=>by
   by_cases e:t=g1
   ·subst e;rw[xj] at hk';cases hk'
   ·rw[xe _ _ e] at hk';rcases hc with hc | hc
    ·exact hh.owns t q _ _ hne' hk' hk k hf hc
    ·exact hh.owns t g1 _ _ e hk' hk1 k hf hc)
 exact⟨H,_,e2⟩
def vt(q g1:Nat){c:Code}(hk:κ q=some (.own (ei r1 r2)))(hg1:∀ v v' H u C,r2.P v H u C->r2.P v' H u C)(h:V P F B n O (upd (upd κ q (.own r1)) g1 (.own r2)) c Q)(hne:q≠g1:=by decide):V P F B n O κ c Q:=fun a u hh=>h a u (hh.part hne hg1 hk)
def j9(q g1:Nat){c:Code}(hk:κ q=some (.own r1))(hk1:κ g1=some (.own r2))(hg1:∀ v v' H u C,r2.P v H u C->r2.P v' H u C)(h:V P F B n O (upd (upd κ g1 fw) q (.own (ei r1 r2))) c Q)(hne:q≠g1:=by decide):V P F B n O κ c Q:=fun a u hh=>h a u (hh.join2 hne hg1 hk hk1)
def ij(q g1:Nat)(hk:κ q=some (.own r1))(hk1:κ g1=some (.own r2))(hg1:∀ v v' H u C,r2.P v H u C->r2.P v' H u C)(h:N F B n O (upd (upd κ g1 fw) q (.own (ei r1 r2))) Q)(hne:q≠g1:=by decide):N F B n O κ Q:=fun a u hh=>h a u (hh.join2 hne hg1 hk hk1)
def Sk(q g1:Nat)(hk:κ q=some (.own (ei r1 r2)))(hg1:∀ v v' H u C,r2.P v H u C->r2.P v' H u C)(h:VO P F B n O ops (upd (upd κ q (.own r1)) g1 (.own r2)) os Q)(hne:q≠g1:=by decide):VO P F B n O ops κ os Q:=fun a u hh=>h a u (hh.part hne hg1 hk)
def jn(q g1:Nat)(hk:κ q=some (.own r1))(hk1:κ g1=some (.own r2))(hg1:∀ v v' H u C,r2.P v H u C->r2.P v' H u C)(h:VO P F B n O ops (upd (upd κ g1 fw) q (.own (ei r1 r2))) os Q)(hne:q≠g1:=by decide):VO P F B n O ops κ os Q:=fun a u hh=>h a u (hh.join2 hne hg1 hk hk1)
def xd(r:GR):∀ (v v':Value) H u C,r.res.P v H u C->r.res.P v' H u C:=fun _ _ _ _ _ h=>h
def dj(b:Nat)(cs:List Value)(ty:TypeId):∀ (v v':Value) H u C,(xk b cs ty).P v H u C->(xk b cs ty).P v' H u C:=fun _ _ _ _ _ h=>h
def Nt(x:Value)(r:Res):∀ (v v':Value) H u C,(AtV x r).P v H u C->(AtV x r).P v' H u C:=fun _ _ _ _ _ h=>h
def Has.turnO{t:Nat}{r r':Res}(hk:κ t=some (.own r))(hr:∀ v H u C,B.Le H->r.P v H u C->r'.P v H u C)(h:Has F B O n κ a u):Has F B O n (upd κ t (.own r')) a u:=by
 obtain⟨H,fp,h⟩:=h;exact⟨H,fp,h.turnR hk (hr _ _ _ _ h.base (h.slot t _ hk).1)⟩
def pg(t:Nat){r:Res}(r':Res){c:Code}(hk:κ t=some (.own r))(hr:∀ v H u C,B.Le H->r.P v H u C->r'.P v H u C)(h:V P F B n O (upd κ t (.own r')) c Q):V P F B n O κ c Q:=fun a u hh=>h a u (hh.turnO hk hr)
def zf2(t:Nat){r:Res}(r':Res)(hk:κ t=some (.own r))(hr:∀ v H u C,B.Le H->r.P v H u C->r'.P v H u C)(h:N F B n O (upd κ t (.own r')) Q):N F B n O κ Q:=fun a u hh=>h a u (hh.turnO hk hr)
def RetY(P:Program)(f:FuncId)(args:List Value)(w:World)(B:Heap)(C:Nat->Prop)(r:GR)(φ:Value->Heap->Prop):Prop:=
 RetL P f args w B C fun x H u=>φ x H/\∃ C',r.P H u C'/\∀ k,C' k->(C k\/w.heap.size<=k)/\k<u.heap.size/\H k=none
def RetY.mono{f:FuncId}{args:List Value}{w:World}{C:Nat->Prop}{r:GR}{φ ψ:Value->Heap->Prop}(h:RetY P f args w B C r φ)(hi:∀ v H,B.Le H->φ v H->ψ v H):RetY P f args w B C r ψ:=RetL.mono h fun v H u hg hp=>⟨hi v H hg.le hp.1,hp.2⟩
def RetX.toY{f:FuncId}{args:List Value}{r:GR}(h:RetX P f args w B C r v):RetY P f args w B C r (fun x _=>x=v):=RetL.mono h fun _ _ _ _ hp=>hp
def Bw(L:Tabs P)(q:Nat)(r':GR)(φ:Value->Heap->Prop){r:GR}{fo:Operand}
  (hn:Nat.blt d n=true) (hg:gK ops κ ⟨some d,.call { callee:=.value fo,args:=args,argTypes:=at_ },ty,pos,aft,g⟩=some true)
  (hf:evK κ fo=some (.func (.func f) #[] cap.toArray)) (hfn:L.fn f=some ()) (hq:κ q=some (.own r.res)) (hm:Kn.mono (.sat φ))
  (h:∀ u H C,zpk H u->B.Le H->r.P H u C->(ZCB C u H)->Args κ H args.toList [] (fun vs=>RetY P f (vs++cap) u H C r' φ)):
  wv P F B n ops O κ ⟨some d,.call { callee:=.value fo,args:=args,argTypes:=at_ },ty,pos,aft,g⟩ q (.own r'.res) d (.sat φ):=by
 rintro κ' a u hlk hks ⟨H,fp,hh⟩;unfold After;rw[na (xh hh hlk hg)];have hk':κ' q=some (.own r.res):=hks.trans hq;obtain⟨hown,hM⟩:=hh.slot q _ hk';have e2:=hh.env hlk;have hfe:a.eval fo=.func (.func f) #[] cap.toArray:=e2.is_ fo _ (by simp [Op.operands,Call.operands]) hf;have hc:=Args.use e2 args.toList [] (fun x hx=>by simp [Op.operands,Call.operands] at hx |-;exact .inr hx) (h u H (fp q) hh.sub hh.base hown fun k hk=>⟨(hM k hk).1,(hM k hk).2.1⟩);simp only[zma,mh] at hc;rw[uf L rfl hfe hfn];simp only[Upon];refine Calls.mono hc fun e' u' hp=>?_;obtain⟨x,rfl,H',g',hx,C',hv,hC'⟩:=hp;have h2:=hh.usePut (d:=q) (a':=a) (r':=r'.res) hk' g' rfl rfl (fun _ _=>rfl) hv hC';rw[jv] at h2;exact⟨x,rfl,H',_,h2.put (k:=.sat φ) (zo hn) hm hx⟩
def pw(L:Tabs P){fn:Func}(gs:Nat){r r':GR}{rs:List ResultVar}(hrs:fn.results=rs.toArray)
  (hQ:∀ a u,bodyPostM Fence.wide 0 P fn (pj F.w0 B0 F.L fun x H u=>φ x H/\∃ C',r'.P H u C'/\∀ k,C' k->(F.L k\/F.w0.heap.size<=k)/\k<u.heap.size/\H k=none) .ret a u->Q .ret a u) (hs:Since F B0 B) (hk:κ gs=some (.own r.res)) (e:r=r')
  (h:∀ H,B.Le H->Cy L F B O κ H rs [] (fun vs=>φ (tup vs) H)) (hd:F.ds=[]:=by rfl):V P F B n O κ .ret Q:=fun a u hh=>by
 obtain⟨H,fp,hH⟩:=hh;refine wpIn_ret (hQ a u ?_);have h0:=hH.defers;rw[hd] at h0;show LeavesInM _ _ _ _ _ _ a.defers _ _;rw[h0];subst e;obtain⟨vs,h1,h2⟩:=j8 L hH hrs (h H hH.base);obtain⟨C',h3,h4⟩:=HasH.ghost hk hH;exact⟨_,h1,_,rfl,H,⟨hH.keep,hH.sub,hs.le.trans hH.base,fun k hk hl=>(hH.fresh k hk hl).trans (hs.fresh k hk hl)⟩,h2,C',h3,h4⟩
end
end Go.V
namespace Go.V
def zbj:∀ (a b:List UInt8),Lib.compareBytes a b= -1\/Lib.compareBytes a b=0\/Lib.compareBytes a b=1
 | [],[]=>.inr (.inl rfl)
 | [],_::_=>.inl rfl
 | _::_,[]=>.inr (.inr rfl)
 | a::xs,b::bs=>by
  unfold Lib.compareBytes;split
  ·exact .inl Z
  ·split
   ·exact .inr (.inr Z)
   ·exact zbj xs bs
def Xg:∀ (a:List UInt8),Lib.compareBytes a a=0
 | []=>rfl
 | a::xs=>by
  unfold Lib.compareBytes;rw[nc (UInt8.lt_irrefl a),nc (UInt8.lt_irrefl a)];exact Xg xs
def zh6:∀ (a b:List UInt8),Lib.compareBytes a b=0->a=b
 | [],[],_=>rfl
 | [],_::_,h=>by cases h
 | _::_,[],h=>by cases h
 | a::xs,b::bs,h=>by
  unfold Lib.compareBytes at h;split at h
  ·cases h
  ·split at h
   ·cases h
   ·rename_i h1 h2;have:a=b:=UInt8.le_antisymm (znk.1 h2) (znk.1 h1);rw[this,zh6 xs bs h]
def Xh:∀ (a b:List UInt8),Lib.compareBytes b a= -Lib.compareBytes a b
 | [],[]=>rfl
 | [],_::_=>rfl
 | _::_,[]=>rfl
 | a::xs,b::bs=>by
  unfold Lib.compareBytes;by_cases h1:a<b
  ·simp [h1,UInt8.lt_asymm h1]
  ·by_cases h2:b<a
   ·simp [h1,h2]
   ·simp [h1,h2];exact Xh xs bs
def Pr:∀ (a b c:List UInt8),Lib.compareBytes a b<=0->Lib.compareBytes b c<=0->Lib.compareBytes a c<=0
 | [],_,[],_,_=>zmm _
 | [],_,_::_,_,_=>by unfold Lib.compareBytes;decide
 | _::_,[],_,h,_=>by unfold Lib.compareBytes at h;exact absurd h J
 | _::_,_::_,[],_,h=>by unfold Lib.compareBytes at h;exact absurd h J
 | a::xs,b::bs,c::cs,h1,h2=>by
  unfold Lib.compareBytes at h1 h2 |-;by_cases ab:a<b
  ·by_cases bc:b<c
   ·rw[na (UInt8.lt_trans ab bc)];decide
   ·rw[nc bc] at h2;by_cases cb:c<b
    ·rw[na cb] at h2;exact ni h2 J
    ·have:b=c:=UInt8.le_antisymm (znk.1 cb) (znk.1 bc);subst this;rw[na ab];decide
  ·rw[nc ab] at h1;by_cases ba:b<a
   ·rw[na ba] at h1;exact ni h1 J
   ·have:a=b:=UInt8.le_antisymm (znk.1 ba) (znk.1 ab);subst this;rw[nc ab] at h1;by_cases ac:a<c
    ·rw[na ac];decide
    ·rw[nc ac] at h2 |-;by_cases ca:c<a
     ·rw[na ca] at h2;exact ni h2 J
     ·rw[nc ca] at h2 |-;exact Pr xs bs cs h1 h2
structure Ord3{α:Type}(c:α->α->Int):Prop where
 refl:∀ a,c a a=0
 eq:∀ a b,c a b=0->a=b
 anti:∀ a b,c b a= -c a b
 trans:∀ a b d,c a b<=0->c b d<=0->c a d<=0
def zia(h:a.data.toList=b.data.toList):a=b:=by
 obtain⟨⟨x⟩⟩:=a;obtain⟨⟨y⟩⟩:=b;simp at h;subst h;rfl
def cmpB_ord:Ord3 V9:=⟨fun a=>Xg _,fun a b h=>zia (zh6 _ _ h),fun a b=>Xh _ _,fun a b d h1 h2=>Pr _ _ _ h1 h2⟩
def zax{α β:Type}(c:α->α->Int)(e:β->β->Int)(x y:α×β):Int:=orL [c x.1 y.1,e x.2 y.2]
def zf9(x y:Int):orL [x,y]=if x=0 then y else x:=by
 simp only[orL];by_cases hx:x=0
 ·rw[na hx,na hx];split<;>simp_all
 ·rw[nc hx,nc hx]
def Ord3.lt_of{c:α->α->Int}(h:Ord3 c){a b d:α}(h1:c a b<=0)(h2:c b d<=0)(h3:c a d=0):c a b=0/\c b d=0:=by
 obtain rfl:=h.eq _ _ h3;have:=h.anti a b;constructor<;>omega
def Ord3.lex{β:Type}{c:α->α->Int}{e:β->β->Int}(hc:Ord3 c)(he:Ord3 e):Ord3 (zax c e):=by
 refine⟨fun a=>?_,fun a b h=>?_,fun a b=>?_,fun a b d h1 h2=>?_⟩
 ·unfold zax;rw[zf9,hc.refl,if_pos rfl,he.refl]
 ·unfold zax at h;rw[zf9] at h;by_cases h0:c a.1 b.1=0
  ·rw[na h0] at h;exact Prod.ext (hc.eq _ _ h0) (he.eq _ _ h)
  ·rw[nc h0] at h;exact ni h h0
 ·unfold zax;rw[zf9,zf9,hc.anti a.1 b.1,he.anti a.2 b.2];by_cases h0:c a.1 b.1=0
  ·rw[na h0,na I]
  ·rw[nc h0,nc I]
 ·unfold zax at h1 h2 |-;rw[zf9] at h1 h2 |-;have l1:c a.1 b.1<=0:=by split at h1<;>omega
  have l2:c b.1 d.1<=0:=by split at h2<;>omega
  have l3:=hc.trans _ _ _ l1 l2;by_cases h0:c a.1 d.1=0
  ·obtain⟨e1,e2⟩:=hc.lt_of l1 l2 h0;rw[na e1] at h1;rw[na e2] at h2;rw[na h0];exact he.trans _ _ _ h1 h2
  ·rw[nc h0];exact l3
abbrev Ma:=(ByteArray×ByteArray)×ByteArray
def ziw:Ma->Ma->Int:=zax (zax V9 V9) V9
def cmp3_ord:Ord3 ziw:=(cmpB_ord.lex cmpB_ord).lex cmpB_ord
attribute [local irreducible] V N X VO Par StepOK Has Ret RetL Src
end Go.V
namespace Go.V
section
variable  {c:α->α->Int}
def Ord3.irr(h:Ord3 c)(a:α):¬ c a a<0:=by rw[h.refl];decide
def Ord3.asym(h:Ord3 c){a b:α}(h1:c a b<0):¬ c b a<0:=by have:=h.anti a b;omega
def Ord3.tr(h:Ord3 c){a b d:α}(h1:c a b<0)(h2:c b d<0):c a d<0:=by
 have h3:=h.trans a b d I I;by_cases h4:c a d=0
 ·have:=h.lt_of (a:=a) (b:=b) (d:=d) I I h4;omega
 ·omega
def Ord3.ne(h:Ord3 c){a b:α}(h1:c a b<0):a≠b:=fun e=>by subst e;exact h.irr a h1
def Ord3.tri(h:Ord3 c){a b:α}(h1:¬ c a b<0)(h2:a≠b):c b a<0:=by
 have:=h.anti a b;have h3:c a b≠0:=fun e=>h2 (h.eq _ _ e);omega
def Sst(c:α->α->Int)(l:List α):Prop:=l.Pairwise fun x y=>c x y<0
def Sst.nil:Sst c []:=List.Pairwise.nil
def Sst.nodup(h:Ord3 c){l:List α}(hs:Sst c l):l.Nodup:=hs.imp fun h1=>h.ne h1
def dq(h:Ord3 c):∀ {l m:List α},Sst c l->Sst c m->(∀ z,z∈l↔z∈m)->l=m
 | [],[],_,_,_=>rfl
 | [],y::m,_,_,e=>by have:=(e y).2 (mb ..);cases this
 | y::l,[],_,_,e=>by have:=(e y).1 (mb ..);cases this
 | y::l,x::m,hl,hm,e=>by
  have h1:=mg.1 hl;have h2:=mg.1 hm
  have exy:y=x:=by
   rcases nw.1 ((e y).1 (mb ..)) with e1 | e1
   ·exact e1
   ·rcases nw.1 ((e x).2 (mb ..)) with e2 | e2
    ·exact e2.symm
    ·exact ni (h1.1 x e2) (h.asym (h2.1 y e1))
  subst exy;congr 1;refine dq h h1.2 h2.2 fun z=>?_;constructor
  ·intro hz;rcases nw.1 ((e z).1 (mc _ hz)) with e1 | e1
   ·subst e1;exact ni (h1.1 _ hz) (h.irr _)
   ·exact e1
  ·intro hz;rcases nw.1 ((e z).2 (mc _ hz)) with e1 | e1
   ·subst e1;exact ni (h2.1 _ hz) (h.irr _)
   ·exact e1
def An(c:α->α->Int)(t:α):List α->List α
 | []=>[t]
 | y::l=>if c t y<0 then t::y::l else y::An c t l
def ge{t z:α}:∀ {l:List α},z∈An c t l↔z=t\/z∈l
 | []=>by simp [An]
 | y::l=>by
  simp only[An];split
  ·simp
  ·rw[nw,ge,nw];constructor
   ·rintro(e | e | e)
    ·exact .inr (.inl e)
    ·exact .inl e
    ·exact .inr (.inr e)
   ·rintro(e | e | e)
    ·exact .inr (.inl e)
    ·exact .inl e
    ·exact .inr (.inr e)
def vo(t:α):∀ (l:List α),(An c t l).length=l.length+1
 | []=>rfl
 | y::l=>by
  simp only[An];split
  ·rfl
  ·simp only[nz,vo t l]
def da(h:Ord3 c){t:α}:∀ {l:List α},Sst c l->t∉l->Sst c (An c t l)
 | [],_,_=>zmc ..
 | y::l,hs,ht=>by
  have h1:=mg.1 hs;simp only[An];split
  ·rename_i hlt;refine mg.2 ⟨fun z hz=>?_,hs⟩;rcases nw.1 hz with rfl | hz
   ·exact hlt
   ·exact h.tr hlt (h1.1 z hz)
  ·rename_i hlt;refine mg.2 ⟨fun z hz=>?_,da h h1.2 fun e=>ht (mc _ e)⟩;rcases ge.1 hz with rfl | hz
   ·exact h.tri hlt fun e=>ht (by rw[e];exact mb ..)
   ·exact h1.1 z hz
def gm(c:α->α->Int)(f:Bool->Bool->Bool):Nat->List α->List α->List α
 | 0,_,_=>[]
 | n+1,[],[]=>[]
 | n+1,a::l,[]=>(if f true false=true then [a] else [])++gm c f n l []
 | n+1,[],b::m=>(if f false true=true then [b] else [])++gm c f n [] m
 | n+1,a::l,b::m=>
  if c a b<0 then (if f true false=true then [a] else [])++gm c f n l (b::m)
  else if c a b>0 then (if f false true=true then [b] else [])++gm c f n (a::l) m
  else (if f true true=true then [a] else [])++gm c f n l m
def Tk(f:Bool->Bool->Bool)(l m:List α)(z:α):Prop:=(z∈l/\z∉m/\f true false=true)\/(z∉l/\z∈m/\f false true=true)\/(z∈l/\z∈m/\f true true=true)
def u7(h:Ord3 c)(f:Bool->Bool->Bool){z:α}:∀ {n:Nat} {l m:List α},l.length+m.length<=n->Sst c l->Sst c m->(z∈gm c f n l m↔Tk f l m z)
 | 0,l,m,hn,_,_=>by
  have h1:l=[]:=m6 I;have h2:m=[]:=m6 I;subst h1 h2;simp [gm,Tk]
 | n+1,[],[],_,_,_=>by simp [gm,Tk]
 | n+1,a::l,[],hn,hl,hm=>by
  have h1:=mg.1 hl;have ih:=u7 h f (z:=z) (n:=n) (l:=l) (m:=[]) (by simp only[nz,my] at hn |-;omega) h1.2 hm;simp only[gm,mi,ih,Tk,nw,zmj,not_false_eq_true,true_and,false_and,and_false,or_false];by_cases hf:f true false=true
  ·simp [hf]
  ·simp [hf]
 | n+1,[],b::m,hn,hl,hm=>by
  have h1:=mg.1 hm;have ih:=u7 h f (z:=z) (n:=n) (l:=[]) (m:=m) (by simp only[nz,my] at hn |-;omega) hl h1.2;simp only[gm,mi,ih,Tk,nw,zmj,not_false_eq_true,true_and,false_and,and_false,or_false,false_or];by_cases hf:f false true=true
  ·simp [hf]
  ·simp [hf]
 | n+1,a::l,b::m,hn,hl,hm=>by
  have h1:=mg.1 hl;have h2:=mg.1 hm;have ha:a∉l:=fun e=>h.irr a (h1.1 a e);have hb:b∉m:=fun e=>h.irr b (h2.1 b e);simp only[nz] at hn;simp only[gm];by_cases h3:c a b<0
  ·have ih:=u7 h f (z:=z) (n:=n) (l:=l) (m:=b::m) (by simp only[nz];omega) h1.2 hm
   have hab:a∉b::m:=fun e=>by
    rcases nw.1 e with e | e
    ·exact h.ne h3 e
    ·exact h.irr a (h.tr h3 (h2.1 a e))
   rw[na h3,mi,ih];unfold Tk;by_cases hz:z=a
   ·subst hz;by_cases hf:f true false=true<;>simp [hf,ha,hab]
   ·have e1:z∈a::l↔z∈l:=by rw[nw];exact or_iff_right hz
    rw[e1];by_cases hf:f true false=true<;>simp [hf,hz]
  ·rw[nc h3];by_cases h4:c a b>0
   ·have h5:c b a<0:=by have:=h.anti a b;omega
    have ih:=u7 h f (z:=z) (n:=n) (l:=a::l) (m:=m) (by simp only[nz];omega) hl h2.2
    have hba:b∉a::l:=fun e=>by
     rcases nw.1 e with e | e
     ·exact h.ne h5 e
     ·exact h.irr b (h.tr h5 (h1.1 b e))
    rw[na h4,mi,ih];unfold Tk;by_cases hz:z=b
    ·subst hz;by_cases hf:f false true=true<;>simp [hf,hb,hba]
    ·have e1:z∈b::m↔z∈m:=by rw[nw];exact or_iff_right hz
     rw[e1];by_cases hf:f false true=true<;>simp [hf,hz]
   ·have e:a=b:=h.eq _ _ I;subst e;have ih:=u7 h f (z:=z) (n:=n) (l:=l) (m:=m) I h1.2 h2.2;rw[nc h4,mi,ih];unfold Tk;by_cases hz:z=a
    ·subst hz;by_cases hf:f true true=true<;>simp [hf,ha,hb]
    ·have e1:z∈a::l↔z∈l:=by rw[nw];exact or_iff_right hz
     have e2:z∈a::m↔z∈m:=by rw[nw];exact or_iff_right hz
     rw[e1,e2];by_cases hf:f true true=true<;>simp [hf,hz]
def Tk.or{f:Bool->Bool->Bool}{l m:List α}{z:α}(h:Tk f l m z):z∈l\/z∈m:=by
 rcases h with ⟨h,_⟩ | ⟨_,h,_⟩ | ⟨h,_⟩
 ·exact .inl h
 ·exact .inr h
 ·exact .inl h
def zdp(p:Bool)(a:α):Sst c (if p=true then [a] else []):=by
 split
 ·exact zmc ..
 ·exact Sst.nil
def iv{p:Bool}{a:α}{r:List α}(hr:Sst c r)(hlt:∀ z∈r,c a z<0):Sst c ((if p=true then [a] else [])++r):=by
 refine zlt.2 ⟨zdp p a,hr,fun x hx z hz=>?_⟩;split at hx
 ·rw[mz] at hx;subst hx;exact hlt z hz
 ·cases hx
def cw(h:Ord3 c)(f:Bool->Bool->Bool):∀ {n:Nat} {l m:List α},l.length+m.length<=n->Sst c l->Sst c m->Sst c (gm c f n l m)
 | 0,_,_,_,_,_=>Sst.nil
 | n+1,[],[],_,_,_=>Sst.nil
 | n+1,a::l,[],hn,hl,hm=>by
  have h1:=mg.1 hl;have hn':l.length+([]:List α).length<=n:=by simp only[nz,my] at hn |-;omega
  refine iv (cw h f hn' h1.2 hm) fun z hz=>?_;rcases((u7 h f hn' h1.2 hm).1 hz).or with e | e
  ·exact h1.1 z e
  ·cases e
 | n+1,[],b::m,hn,hl,hm=>by
  have h1:=mg.1 hm;have hn':([]:List α).length+m.length<=n:=by simp only[nz,my] at hn |-;omega
  refine iv (cw h f hn' hl h1.2) fun z hz=>?_;rcases((u7 h f hn' hl h1.2).1 hz).or with e | e
  ·cases e
  ·exact h1.1 z e
 | n+1,a::l,b::m,hn,hl,hm=>by
  have h1:=mg.1 hl;have h2:=mg.1 hm;simp only[nz] at hn;simp only[gm];split
  ·rename_i h3;have hn':l.length+(b::m).length<=n:=by simp only[nz];omega
   refine iv (cw h f hn' h1.2 hm) fun z hz=>?_;rcases((u7 h f hn' h1.2 hm).1 hz).or with e | e
   ·exact h1.1 z e
   ·rcases nw.1 e with e | e
    ·rw[e];exact h3
    ·exact h.tr h3 (h2.1 z e)
  ·split
   ·rename_i h4;have h5:c b a<0:=by have:=h.anti a b;omega
    have hn':(a::l).length+m.length<=n:=by simp only[nz];omega
    refine iv (cw h f hn' hl h2.2) fun z hz=>?_;rcases((u7 h f hn' hl h2.2).1 hz).or with e | e
    ·rcases nw.1 e with e | e
     ·rw[e];exact h5
     ·exact h.tr h5 (h1.1 z e)
    ·exact h2.1 z e
   ·have e0:a=b:=h.eq _ _ I;have hn':l.length+m.length<=n:=I;refine iv (cw h f hn' h1.2 h2.2) fun z hz=>?_;rcases((u7 h f hn' h1.2 h2.2).1 hz).or with e | e
    ·exact h1.1 z e
    ·rw[e0];exact h2.1 z e
variable [DecidableEq α]
def C7(c:α->α->Int):List α->List α->List α
 | out,[]=>out
 | out,t::r=>C7 c (if t∈out then out else An c t out) r
def A4(h:Ord3 c):∀ {l out:List α},Sst c out->Sst c (C7 c out l)
 | [],_,hs=>hs
 | t::r,out,hs=>by
  simp only[C7];refine A4 h ?_;split
  ·exact hs
  ·rename_i ht;exact da h hs ht
def B9{z:α}:∀ {l out:List α},z∈C7 c out l↔z∈out\/z∈l
 | [],_=>by simp [C7]
 | t::r,out=>by
  simp only[C7];rw[B9];split
  ·rename_i ht;constructor
   ·rintro(e | e)
    ·exact .inl e
    ·exact .inr (mc _ e)
   ·rintro(e | e)
    ·exact .inl e
    ·rcases nw.1 e with rfl | e
     ·exact .inl ht
     ·exact .inr e
  ·rw[ge,nw];constructor
   ·rintro((e | e) | e)
    ·exact .inr (.inl e)
    ·exact .inl e
    ·exact .inr (.inr e)
   ·rintro(e | e | e)
    ·exact .inl (.inr e)
    ·exact .inl (.inl e)
    ·exact .inr e
def b9:∀ (l out:List α),(C7 c out l).length<=out.length+l.length
 | [],_=>ns _
 | t::r,out=>by
  have:=b9 r (if t∈out then out else An c t out);simp only[C7];refine zld this ?_;split
  ·simp only[nz];omega
  ·rw[vo];simp only[nz];omega
end
end Go.V
namespace Go.V.L2
open Go.V
abbrev U:=Ma×Ma
def ucs(t:U):List Value:=[.string t.1.1.1,.string t.1.1.2,.string t.1.2,.string t.2.1.1,.string t.2.1.2,.string t.2.2]
def Ev(t:U):(ucs t).length=6:=rfl
def jm:U->U->Int:=zax ziw ziw
def cmpT_ord:Ord3 jm:=cmp3_ord.lex cmp3_ord
def zkl{t v:U}:(t.1.1.1=v.1.1.1/\t.1.1.2=v.1.1.2/\t.1.2=v.1.2/\t.2.1.1=v.2.1.1/\t.2.1.2=v.2.1.2/\t.2.2=v.2.2)↔t=v:=
 ⟨fun⟨a,b,c,d,e,f⟩=>Prod.ext (Prod.ext (Prod.ext a b) c) (Prod.ext (Prod.ext d e) f),fun e=>by subst e;exact⟨rfl,rfl,rfl,rfl,rfl,rfl⟩⟩
instance memU(t:U)(l:List U):Decidable (t∈l):=decidable_of_iff (l.any (fun x=>decide (x=t))=true) (by simp)
def tE(t:U):Int:=if gl [t.1.1.1,t.1.1.2,t.1.2]=0 then tq t.2.1.1 t.2.1.2 t.2.2 else gl [t.1.1.1,t.1.1.2,t.1.2]
abbrev sAt:ByteArray:=⟨#[64]⟩
def tT(t:U):ByteArray:=dy t.1.1.1 t.1.1.2 t.1.2++sAt++ef t.2.1.1 t.2.1.2 t.2.2
def TZ(t:U):Prop:=(t.1.1.1.size<=1099511627776/\t.1.1.2.size<=1099511627776/\t.1.2.size<=1099511627776)/\t.2.1.1.size<=1099511627776/\t.2.1.2.size<=1099511627776/\t.2.2.size<=1099511627776
instance (t:U):Decidable (TZ t):=inferInstanceAs (Decidable (_/\_))
def E2{α:Type}{c:α->α->Int}(h:Ord3 c):∀ {l:List α},Sst c l↔∀ (j:Nat) (a b:α),l[j]?=some a->l[j+1]?=some b->c a b<0
 | []=>⟨fun _ j a b h1 _=>by simp at h1,fun _=>Sst.nil⟩
 | [x]=>⟨fun _ j a b _ h2=>by simp at h2,fun _=>zmc ..⟩
 | x::y::l=>by
  constructor
  ·intro hs j a b h1 h2;have hp:=mg.1 hs
   cases j with
   | zero=>simp at h1 h2;subst h1 h2;exact hp.1 _ (mb ..)
   | succ j=>exact(E2 h).1 hp.2 j a b (by simpa using h1) (by simpa using h2)
  ·intro hj;have hl:Sst c (y::l):=(E2 h).2 fun j a b h1 h2=>hj (j+1) a b (by simpa using h1) (by simpa using h2);have hxy:c x y<0:=hj 0 x y rfl rfl;refine mg.2 ⟨fun z hz=>?_,hl⟩;rcases nw.1 hz with rfl | hz
   ·exact hxy
   ·exact h.tr hxy ((mg.1 hl).1 z hz)
instance {α:Type}(c:α->α->Int)(l:List α):Decidable (Sst c l):=inferInstanceAs (Decidable (l.Pairwise _))
def isB(l:List U):Bool:=decide (Sst jm l)
def zht{l:List U}{a b:U}(h1:l[j]?=some a)(h2:l[j+1]?=some b)(h:¬ jm a b<0):isB l=false:=ng fun hs=>h ((E2 cmpT_ord).1 hs j a b h1 h2)
def ze6{l:List U}(h:∀ j a b,l[j]?=some a->l[j+1]?=some b->jm a b<0):isB l=true:=nf ((E2 cmpT_ord).2 h)
def ptA(s:ByteArray):U×Int:=
 if (gk s 64).2.2=true/\Lz (gk s 64).2.1 64=false then
  (if (pgA (gk s 64).1).2.2.2=0 then
   (if (psA (gk s 64).2.1).2.2.2=0 then
    (((((pgA (gk s 64).1).1,(pgA (gk s 64).1).2.1),(pgA (gk s 64).1).2.2.1),(((psA (gk s 64).2.1).1,(psA (gk s 64).2.1).2.1),(psA (gk s 64).2.1).2.2.1)),0)
   else ((((⟨#[]⟩,⟨#[]⟩),⟨#[]⟩),((⟨#[]⟩,⟨#[]⟩),⟨#[]⟩)),(psA (gk s 64).2.1).2.2.2))
  else ((((⟨#[]⟩,⟨#[]⟩),⟨#[]⟩),((⟨#[]⟩,⟨#[]⟩),⟨#[]⟩)),(pgA (gk s 64).1).2.2.2))
 else ((((⟨#[]⟩,⟨#[]⟩),⟨#[]⟩),((⟨#[]⟩,⟨#[]⟩),⟨#[]⟩)),5)
end Go.V.L2
namespace Go.V
section
variable             {a:Act}    
end
end Go.V
namespace Go.V
section
def Uh{q r:Int}(hn:Nat.blt d n=true)(hg:gK ops κ ⟨some d,.binOp .and t x y t',ty,pos,aft,g⟩=some true)(hx:evK κ x=some (.int k p))(hy:evK κ y=some (.int k q))(hb:bits .and k p q=r):
  StepOK P F B n ops O κ ⟨some d,.binOp .and t x y t',ty,pos,aft,g⟩ d (.is (.int k r)):=w8 hn hg hx hy fun u=>by subst hb;simp [eqGuard_and,binOp_and,intBits_and]
end
end Go.V
namespace Go.V
section
def zjh{q r:Int}(hn:Nat.blt d n=true)(hg:gK ops κ ⟨some d,.binOp .or t x y t',ty,pos,aft,g⟩=some true)(hx:evK κ x=some (.int k p))(hy:evK κ y=some (.int k q))(hb:bits .or k p q=r):
  StepOK P F B n ops O κ ⟨some d,.binOp .or t x y t',ty,pos,aft,g⟩ d (.is (.int k r)):=w8 hn hg hx hy fun u=>by subst hb;simp [eqGuard_or,binOp_or,intBits_or]
end
def zfx(h:m<=255):bits .and .u8 m 127=((m%128:Nat):Int):=by
 have:∀ x:Fin 256,bits .and .u8 (x.val:Int) 127=((x.val%128:Nat):Int):=by decide+kernel
 exact this ⟨m,by omega⟩
def zcf{a b:Nat}(ha:a<2^i):a ||| (b*2^i)=a+b*2^i:=by
 rw[Nat.or_comm,<-zol,<-Nat.shiftLeft_add_eq_or_of_lt ha];omega
end Go.V
namespace Go.V
section
variable  [DecidableEq α]
def dd:List α->List α
 | []=>[]
 | [x]=>[x]
 | x::y::l=>if x=y then dd (y::l) else x::dd (y::l)
variable {c:α->α->Int}
end
def f9{l:List α}{a:α}(h:l[i]?=some a):l[i]'(get_lt h)=a:=by
 have h1:=h;rw[zlq (get_lt h)] at h1;exact Option.some.inj h1
section
variable  {c:α->α->Int}
def tu(c:α->α->Int)(t:α)(l:List α):Nat:=(l.takeWhile fun x=>decide (c x t<0)).length
def To(t:α):∀ (l:List α),tu c t l<=l.length
 | []=>ns _
 | x::l=>by
  have:=To t l;unfold tu at this |-;rw[zn4];split
  ·simp only[nz];omega
  ·simp
def Tp(h:Ord3 c){t:α}:∀ {l:List α} {i:Nat},Sst c l->(∀ (j:Nat) (x:α),j<i->l[j]?=some x->c x t<0)->(∀ (j:Nat) (x:α),i<=j->l[j]?=some x->¬ c x t<0)->i<=l.length->tu c t l=i
 | [],i,_,_,_,hi=>by simp at hi;subst hi;rfl
 | x::l,0,_,_,h2,_=>by
  unfold tu;rw[zn4,nc (by simpa using h2 0 x (ns _) rfl)];rfl
 | x::l,i+1,hs,h1,h2,hi=>by
  have ih:=Tp h (t:=t) (l:=l) (i:=i) (mg.1 hs).2 (fun j y hj hy=>h1 (j+1) y I (by simpa using hy)) (fun j y hj hy=>h2 (j+1) y I (by simpa using hy)) (by simpa using hi);unfold tu at ih |-;rw[zn4,na (by simpa using h1 0 x (Nat.succ_pos _) rfl),nz,ih]
def Dm(h:Ord3 c){l:List α}(hs:Sst c l){x y t:α}(hi:l[i]?=some x)(hj:l[j]?=some y)(hij:j<=i)(hx:c x t<0):c y t<0:=by
 rcases m8 j i with hlt | hge
 ·have h1:=zmy.1 hs j i (get_lt hj) (get_lt hi) hlt;rw[f9 hj,f9 hi] at h1;exact h.tr h1 hx
 ·have:i=j:=I;subst this;rw[hi] at hj;cases hj;exact hx
def zhk(h:Ord3 c){t:α}{l:List α}(hs:Sst c l)(h1:∀ (j:Nat) (x:α),j<i->l[j]?=some x->c x t<0){x:α}(hx:l[i]?=some x)(h2:∀ (j:Nat) (y:α),i<=j->l[j]?=some y->¬ c y t<0):t∈l↔c x t=0:=by
 constructor
 ·intro ht;obtain⟨j,hj⟩:=zl0 ht;rcases znb j i with hlt | he | hgt
  ·exact ni (h1 j t hlt hj) (h.irr t)
  ·subst he;rw[hx] at hj;cases hj;exact h.refl t
  ·have h3:=zmy.1 hs i j (get_lt hx) (get_lt hj) hgt;rw[f9 hj,f9 hx] at h3;exact ni h3 (h2 i x (ns _) hx)
 ·intro e;have:=h.eq _ _ e;subst this;exact zlg hx
def Nc(h:Ord3 c){t:α}{l:List α}(h1:∀ (j:Nat) (x:α),j<l.length->l[j]?=some x->c x t<0):t∉l:=fun ht=>by
 obtain⟨j,hj⟩:=zl0 ht;exact ni (h1 j t (get_lt hj) hj) (h.irr t)
end
end Go.V
namespace Go.V.L10
open Go.V
def cP(a b:Int):Int:=if a<b then -1 else if b<a then 1 else 0
def gt:Ord3 cP:=⟨fun a=>by unfold cP;simp,fun a b h=>by unfold cP at h;split at h<;>(try split at h)<;>omega,fun a b=>by unfold cP;split<;>(try split)<;>(try split)<;>omega,fun a b d h1 h2=>by
 unfold cP at h1 h2 |-;split at h1<;>(try split at h1)<;>split at h2<;>(try split at h2)<;>split<;>(try split)<;>omega⟩
def Xi{a b:Int}:cP a b<0↔a<b:=by unfold cP;split<;>(try split)<;>omega
def kz(L:List Int):List Int:=C7 cP [] L
def je{L:List Int}{z:Int}:z∈kz L↔z∈L:=by unfold kz;rw[B9];simp
def w9(L:List Int):Sst cP (kz L):=A4 gt Sst.nil
def dk(L:List Int):(kz L).length<=L.length:=by have:=b9 (c:=cP) L [];simpa [kz] using this
def xg(L:List Int):List (Int×Int):=(kz L).map fun r=>(r,(L.count r:Int))
def ws(L:List Int):(xg L).length=(kz L).length:=by unfold xg;simp
def Bj{L:List Int}{r:Int}(h:(kz L)[i]?=some r):(xg L)[i]?=some (r,(L.count r:Int)):=by unfold xg;rw[List.getElem?_map,h];rfl
section
variable  {c:α->α->Int}
def K8(h:Ord3 c){t:α}:∀ {l:List α},t∉l->An c t l=l.take (tu c t l)++t::l.drop (tu c t l)
 | [],_=>rfl
 | y::l,hn=>by
  have hne:y≠t:=fun e=>hn (e ▸ mb ..);have ih:=K8 h (l:=l) (t:=t) fun hm=>hn (mc _ hm);unfold An tu;rw[zn4];by_cases hc:c y t<0
  ·rw[nc (h.asym hc),na (by simpa using hc),nz,zna,List.drop_succ_cons,ih];rfl
  ·rw[na (h.tri hc hne),nc (by simpa using hc)];rfl
def M2(h:Ord3 c){t:α}:∀ {l:List α},Sst c l->t∈l->l[tu c t l]?=some t
 | [],_,hm=>(by cases hm)
 | y::l,hs,hm=>by
  unfold tu;rw[zn4];have h1:=mg.1 hs;by_cases hc:c y t<0
  ·rcases nw.1 hm with e | hm
   ·subst e;exact ni hc (h.irr _)
   ·rw[na (by simpa using hc),nz,zm1];exact M2 h h1.2 hm
  ·rw[nc (by simpa using hc)];rcases nw.1 hm with e | hm
   ·subst e;rfl
   ·exact ni (h1.1 t hm) hc
def zdq(h:Ord3 c){l:List α}(hs:Sst c l){x:α}(hi:l[i]?=some x)(hj:l[j]?=some x):i=j:=by
 have key:∀ {i j:Nat},i<j->l[i]?=some x->l[j]?=some x->False:=fun {i j} hlt hi hj=>by
  have h1:=zmy.1 hs i j (get_lt hi) (get_lt hj) hlt;rw[f9 hi,f9 hj] at h1;exact h.irr _ h1
 rcases znb i j with hlt | he | hlt
 ·exact(key hlt hi hj).elim
 ·exact he
 ·exact(key hlt hj hi).elim
def map_erase{β:Type}(f:α->β)(l:List α)(i:Nat):(l.map f).eraseIdx i=(l.eraseIdx i).map f:=by
 rw[List.eraseIdx_eq_take_drop_succ,List.eraseIdx_eq_take_drop_succ,zl1,zmk,zmz]
end
def C9{L:List Int}{r:Int}(h:r∈L):kz (L++[r])=kz L:=dq gt (w9 _) (w9 _) fun z=>by
 rw[je,je,mi,mz];exact⟨fun h1=>h1.elim id fun e=>e ▸ h,.inl⟩
def D9{L:List Int}{r:Int}(h:r∉L):kz (L++[r])=(kz L).take (tu cP r (kz L))++r::(kz L).drop (tu cP r (kz L)):=by
 have hn:r∉kz L:=fun hm=>h (je.1 hm);rw[<-K8 gt hn]
 exact dq gt (w9 _) (da gt (w9 _) hn) fun z=>by
  rw[je,ge,je,mi,mz,or_comm]
def Bh{L:List Int}{r:Int}(h:r∈L):xg (L++[r])=(xg L).set (tu cP r (kz L)) (r,(L.count r:Int)+1):=by
 have hp:=M2 gt (w9 L) (je.2 h);apply List.ext_getElem?;intro i;unfold xg;rw[C9 h,List.getElem?_set,zlx,zlx,mn];by_cases e:tu cP r (kz L)=i
 ·subst e;rw[na rfl,na (get_lt hp),hp];simp [zl7]
 ·rw[nc e]
  cases hi:(kz L)[i]? with
  | none=>rfl
  | some x=>
   have hxr:x≠r:=fun hx=>e (by subst hx;exact zdq gt (w9 L) hp hi);simp [zl7,List.count_cons,hxr.symm]
def M3{L:List Int}{r:Int}(h:r∉L):xg (L++[r])=(xg L).take (tu cP r (kz L))++(r,1)::(xg L).drop (tu cP r (kz L)):=by
 have key:∀ l:List Int,(∀ x∈l,x∈L)->l.map (fun x=>(x,((L++[r]).count x:Int)))=l.map fun x=>(x,(L.count x:Int)):=fun l hl=>zn5 fun x hx=>by
  have hxr:x≠r:=fun e=>h (e ▸ hl x hx);simp [zl7,List.count_cons,hxr.symm]
 unfold xg;rw[D9 h,zl1,mq,zmk,zmz,<-zmk,<-zmz,key _ fun x hx=>je.1 (zo4 hx),key _ fun x hx=>je.1 (zo5 hx),zmk,zmz];congr 2;simp [zl7,zn6.2 h]
def Sm(L:List Int)(r:Int):List Int×Nat:=if L.count r=0 then ([],8) else (L.erase r,0)
end Go.V.L10
namespace Go.V.L4
structure Rd where
 at_:Nat
 bad:Nat
 err:Int
def Rd.fail(R:Rd)(a:Nat)(e:Int):Rd:=if R.err=0 then ⟨R.at_,a,e⟩ else R
def Sa(bs:List Nat):Nat->Nat->Nat->Rd->Nat×Rd
 | 0,_,acc,R=>(acc,R)
 | f+1,i,acc,R=>match bs[R.at_]? with
  | none=>(0,R.fail bs.length 17)
  | some b=>if i=9/\b≠1\/0<i/\b=0 then (0,R.fail R.at_ 5) else
   if b<128 then (acc+b%128*128^i,⟨R.at_+1,R.bad,R.err⟩) else Sa bs f (i+1) (acc+b%128*128^i) ⟨R.at_+1,R.bad,R.err⟩
def Ko(bs:List Nat)(R:Rd):Nat×Rd:=Sa bs 10 0 0 R
def bo(bs:List Nat)(lim:Nat)(e:Int)(R:Rd):Nat×Rd:=if lim<(Ko bs R).1 then ((Ko bs R).1,(Ko bs R).2.fail R.at_ e) else Ko bs R
def l8{α:Type}(f:Rd->α×Rd)(z:α)(R:Rd):α×Rd:=if R.err≠0 then (z,R) else if (f R).2.err≠0 then (z,⟨R.at_,(f R).2.bad,(f R).2.err⟩) else f R
def oc(bs:List Nat):Rd->Nat×Rd:=l8 (Ko bs) 0
def zcq(bs:List Nat)(lim:Nat)(R:Rd):Int×Rd:=(IntKind.i64.wrap ((bo bs lim 3 R).1:Nat),(bo bs lim 3 R).2)
def wk(bs:List Nat)(lim:Nat):Rd->Int×Rd:=l8 (zcq bs lim) 0
def au(bs:List Nat):Rd->Bool×Rd:=l8 (fun R=>(decide ((bo bs 1 5 R).1=1),(bo bs 1 5 R).2)) false
def Gk(R:Rd)(a:Nat)(e:Int):(R.fail a e).at_=R.at_:=by unfold Rd.fail;split<;>rfl
def Um{bs:List Nat}:∀ (f i acc:Nat) (R:Rd),R.at_<=bs.length->(Sa bs f i acc R).2.at_<=bs.length/\R.at_<=(Sa bs f i acc R).2.at_
 | 0,_,_,R,h=>⟨h,ns _⟩
 | f+1,i,acc,R,h=>by
  unfold Sa
  cases hb:bs[R.at_]? with
  | none=>dsimp only;rw[Gk];exact⟨h,Nat.le_refl _⟩
  | some b=>
   have hlt:=get_lt hb;dsimp only;split
   ·dsimp only;rw[Gk];exact⟨h,Nat.le_refl _⟩
   ·split
    ·exact⟨hlt,zmn _⟩
    ·have:=Um f (i+1) (acc+b%128*128^i) ⟨R.at_+1,R.bad,R.err⟩ hlt;exact⟨this.1,zld (zmn _) this.2⟩
def M1(i:Nat):128^i=2^(7*i):=by rw[Nat.pow_mul]
def Py{acc b:Nat}(h:acc<128^i):acc+b%128*128^i<128^(i+1):=by
 rw[Nat.pow_succ];have h1:b%128<=127:=I;have h2:b%128*128^i<=127*128^i:=zmv _ h1;omega
end Go.V.L4
namespace Go.V
section
variable             {a:Act}      {ex:Exs}
def Ll{b:Nat}(hb:u.heap[b]?=some (.cells cs.toArray t))(off j:Nat):u.cell? ((⟨b,off,none⟩:Addr).add j)=cs[off+j]?:=by
 rw[gh,ko hb];simp
def Lg{k:Nat}(hn:news=(cs.drop off).take k)(hj:news[j]?=some v):cs[off+j]?=some v:=by
 subst hn;rw[zoh] at hj;split at hj
 ·rwa [zm2] at hj
 ·cases hj
def Bb{i:TypeInfo}{b c k:Nat}{ty0:TypeId}{ad:Addr}{m' c':Nat}{news:List Value}(ht:P.underlying t=some (.slice e))(hi:P.info? e=some i)(hb:u.heap[b]?=some (.cells cur.toArray ty0))(hl:news.length=k*i.size)(hk:Nat.min m' m=k)(hcl:off+news.length<=cur.length)
  (h1:∀ v∈news,v.oneCell'=true) (hy:∀ j v,news[j]?=some v->u.cell? (ad.add j)=some v):
  (Builtin.copy_ #[t,ti] ty #[.slice (some ⟨b,off,none⟩) m c,.slice (some ad) m' c']).run P u=.ok (goInt k) (u.setRow b (cur.take off++(news++cur.drop (off+news.length))).toArray):=by
 have hf:=run_firstCells_some (P:=P) u i.size k ad m' c' news hl hy;have hst:=gx (P:=P) b ty0 off news 0 cur.toArray u hb (by simpa using hcl) h1;simp only[znv,mj] at hst;simp [Builtin.copy_,run_underlying ht,Builtin.lenOf,sizeOf,typeInfo,hi,hk,hf,hst]
def Fu(L:Tabs P){b c m':Nat}{s:Nat}{all:List Value}(k:Nat)(hn:Nat.blt d n=true)(hg:gK ops κ ⟨some d,.call ⟨.builtin .copy,#[x,y],#[t,ti]⟩,ty,pos,aft,g⟩=some true)
  (hx:evK κ x=some (.slice (some ⟨b,off,none⟩) m c)) (hq:κ q=some (.own (xk b cur t'))) (hy:Apd F B O κ y m' all) (ht:L.sl t=some e) (he:elI P e=some (s,by_)) (hm:0<m') (hk:Nat.min m' m=k) (hal:k*s<=all.length) (hnews:all.take (k*s)=news) (hcl:off+k*s<=cur.length) (h1:news.all v9=true)
  (hr:cur.take off++(news++cur.drop (off+k*s))=cur'):
  wv P F B n ops O κ ⟨some d,.call ⟨.builtin .copy,#[x,y],#[t,ti]⟩,ty,pos,aft,g⟩ q (.own (xk b cur' t')) d (.is (.int .i64 k)):=by
 rintro κ' a u hlk hks ⟨H,fp,hh⟩;unfold After;rw[na (xh hh hlk hg)];have en:=hh.env hlk;have hk':κ' q=some (.own (xk b cur t')):=hks.trans hq;have hxe:=en.is_ x _ (by simp [Op.operands,Call.operands]) hx;obtain⟨⟨hb,hC⟩,hM⟩:=hh.slot q _ hk';obtain⟨i,z,hi,hz,hs1,hs2,hs3,hs4⟩:=vy he;subst hs1;have hnl:news.length=k*i.size:=by rw[<-hnews,mw,zmg hal]
 rcases hy _ a u H fp (by simp [Op.operands,Call.operands]) en with ⟨h0,_⟩ | ⟨ad,c',hye,hcy⟩
 ·omega
 have hrun0:=Bb (P:=P) (ty:=ty) (ti:=ti) (c:=c) (c':=c') (Tabs.sl_spec ht) hi hb hnl hk (by rw[hnl];exact hcl) (fun v hv=>lw (zlj.1 h1 v hv)) (ad:=ad) (fun j v hj=>hcy j v (by
  rw[<-hnews,zoh] at hj;split at hj
  ·exact hj
  ·cases hj))
 rw[hnl,hr] at hrun0
 have hrun:(execOp a.eval ⟨some d,.call ⟨.builtin .copy,#[x,y],#[t,ti]⟩,ty,pos,aft,g⟩).run P u=.ok (.value (goInt k)) (u.setRow b cur'.toArray):=by
  simp only[execOp,resolve,invoke,builtin,nu,me,ny,zlp,mq,zlo,hxe,hye,hrun0]
 rw[hrun];simp only[Upon];have hbm:=hM b ((hC b).2 rfl)
 have h2:=hh.usePut (d:=q) (a':=a) (r':=xk b cur' t') (C:=fun k=>k=b) hk' (vp hh.sub hb ((hC b).2 rfl) hbm.2.1 _) rfl rfl (fun _ _=>rfl) ⟨setRow_heap u b cur.toArray cur'.toArray t' (0,0) hb,fun _=>Iff.rfl⟩ (fun k hk=>by
  subst hk;exact⟨.inl ((hC k).2 rfl),by rw[setRow_size];exact hbm.1,hbm.2.1⟩)
 rw[jv] at h2;exact⟨H,_,h2.put (k:=.is (.int .i64 k)) (zo hn) trivial Z⟩
def Ub(L:Tabs P){b c off2 m' c':Nat}{s:Nat}(k:Nat)(hn:Nat.blt d n=true)(hg:gK ops κ ⟨some d,.call ⟨.builtin .copy,#[x,y],#[t,ti]⟩,ty,pos,aft,g⟩=some true)
  (hx:evK κ x=some (.slice (some ⟨b,off,none⟩) m c)) (hq:κ q=some (.own (xk b cur t'))) (hy:evK κ y=some (.slice (some ⟨b,off2,none⟩) m' c')) (ht:L.sl t=some e) (he:elI P e=some (s,by_)) (hk:Nat.min m' m=k) (hnews:(cur.drop off2).take (k*s)=news) (hnl:news.length=k*s) (hcl:off+k*s<=cur.length) (h1:news.all v9=true)
  (hr:cur.take off++(news++cur.drop (off+k*s))=cur'):
  wv P F B n ops O κ ⟨some d,.call ⟨.builtin .copy,#[x,y],#[t,ti]⟩,ty,pos,aft,g⟩ q (.own (xk b cur' t')) d (.is (.int .i64 k)):=by
 rintro κ' a u hlk hks ⟨H,fp,hh⟩;unfold After;rw[na (xh hh hlk hg)];have en:=hh.env hlk;have hk':κ' q=some (.own (xk b cur t')):=hks.trans hq;have hxe:=en.is_ x _ (by simp [Op.operands,Call.operands]) hx;have hye:=en.is_ y _ (by simp [Op.operands,Call.operands]) hy;obtain⟨⟨hb,hC⟩,hM⟩:=hh.slot q _ hk';obtain⟨i,z,hi,hz,hs1,hs2,hs3,hs4⟩:=vy he;subst hs1;have hrun0:=Bb (P:=P) (ty:=ty) (ti:=ti) (c:=c) (c':=c') (Tabs.sl_spec ht) hi hb hnl hk (by rw[hnl];exact hcl) (fun v hv=>lw (zlj.1 h1 v hv)) (ad:=⟨b,off2,none⟩) (fun j v hj=>(Ll hb off2 j).trans (Lg hnews.symm hj));rw[hnl,hr] at hrun0
 have hrun:(execOp a.eval ⟨some d,.call ⟨.builtin .copy,#[x,y],#[t,ti]⟩,ty,pos,aft,g⟩).run P u=.ok (.value (goInt k)) (u.setRow b cur'.toArray):=by
  simp only[execOp,resolve,invoke,builtin,nu,me,ny,zlp,mq,zlo,hxe,hye,hrun0]
 rw[hrun];simp only[Upon];have hbm:=hM b ((hC b).2 rfl)
 have h2:=hh.usePut (d:=q) (a':=a) (r':=xk b cur' t') (C:=fun k=>k=b) hk' (vp hh.sub hb ((hC b).2 rfl) hbm.2.1 _) rfl rfl (fun _ _=>rfl) ⟨setRow_heap u b cur.toArray cur'.toArray t' (0,0) hb,fun _=>Iff.rfl⟩ (fun k hk=>by
  subst hk;exact⟨.inl ((hC k).2 rfl),by rw[setRow_size];exact hbm.1,hbm.2.1⟩)
 rw[jv] at h2;exact⟨H,_,h2.put (k:=.is (.int .i64 k)) (zo hn) trivial Z⟩
def Rc(L:Tabs P){b cap k:Nat}{s:Nat}{kn:IntKind}{zs:List Value}{z:Value}(hn:Nat.blt d n=true)(hg:gK ops κ ⟨some d,.call ⟨.builtin .append,#[x,y],#[t,ti]⟩,ty,pos,aft,g⟩=some true)
  (hx:evK κ x=some (.slice (some ⟨b,0,none⟩) nn cap)) (hq:κ q=some (.own (xk b cur t'))) (hy:evK κ y=some (.int .i64 k)) (ht:L.sl t=some e) (hti:P.underlying ti=some (.int kn)) (he:elI P e=some (s,by_)) (hz:L.zr e=some z) (h0:0<k) (hg2:cap<nn+k) (hxs:cur.take (nn*s)=xs) (hxl:nn*s<=cur.length) (hzs:(Builtin.zeroCells z.cells k).toList=zs)
  (hb:(nn+k)*by_<=140737488355328) (h63:nn+k<=4611686018427387904):
  StepOKR P F B n ops O κ ⟨some d,.call ⟨.builtin .append,#[x,y],#[t,ti]⟩,ty,pos,aft,g⟩ q d (.own (SlR e s (nn+k) (xs++zs))):=by
 rintro κ' a u hlk hks ⟨H,fp,hh⟩;unfold After;rw[na (xh hh hlk hg)];have en:=hh.env hlk;have hk':κ' q=some (.own (xk b cur t')):=hks.trans hq;have hxe:=en.is_ x _ (by simp [Op.operands,Call.operands]) hx;have hye:=en.is_ y _ (by simp [Op.operands,Call.operands]) hy;obtain⟨⟨hbb,hC⟩,hM⟩:=hh.slot q _ hk';obtain⟨i,z',hi,hz',hs1,hs2,hs3,hs4⟩:=vy he
 have hzz:i.zero=some z:=by
  have:=Tabs.zr_spec hz;unfold zrI at this;rw[hi] at this;exact this
 rw[hz'] at hzz;obtain rfl:=Option.some.inj hzz;subst hs1;subst hs2
 have hold:(Builtin.firstCells i.size nn (.slice (some ⟨b,0,none⟩) nn cap)).run P u.drew=.ok xs.toArray u.drew:=run_firstCells_some (P:=P) u.drew i.size nn ⟨b,0,none⟩ nn cap xs (by rw[<-hxs,mw,zmg hxl]) fun j v hj=>by
  have hb2:u.drew.heap[b]?=some (.cells cur.toArray t'):=hbb;rw[Ll hb2 0 j,zlf];rw[<-hxs,zoh] at hj;split at hj
  ·exact hj
  ·cases hj
 have hkb:k*i.bytes<=(nn+k)*i.bytes:=zmv _ I;have hns:=growslice_fits hg2 hb;have hr:=Lib.run_append_grow_zeros (P:=P) u t ti ty e i z' .i64 kn (Tabs.sl_spec ht) hti hi hz' (some ⟨b,0,none⟩) nn cap xs hold k h0 hs4 hg2 I I hns
 have hrun:(execOp a.eval ⟨some d,.call ⟨.builtin .append,#[x,y],#[t,ti]⟩,ty,pos,aft,g⟩).run P u=.ok (.value (.slice (some ⟨u.heap.size,0,none⟩) (nn+k) (grownCap u (nn+k) cap e))) (u.drew.alloc (.cells (xs.toArray++Builtin.zeroCells z'.cells k++Builtin.zeroCells z'.cells (grownCap u (nn+k) cap e-(nn+k))) e)):=by
  simp only[execOp,resolve,invoke,builtin,nu,me,ny,zlp,mq,zlo,hxe,hye,hr]
 rw[hrun];simp only[Upon];have hge:=grownCap_ge u (nn+k) cap e;have hmx:nn+k<=maxLen:=by simp only[maxLen];omega
 have hxl2:xs.length=nn*i.size:=by rw[<-hxs,mw,zmg hxl]
 have hzl:zs.length=k*i.size:=by rw[<-hzs,zmt,size_zeroCells,hs3]
 have hg3:=hh.grow (u':=u.drew.alloc (.cells (xs.toArray++Builtin.zeroCells z'.cells k++Builtin.zeroCells z'.cells (grownCap u (nn+k) cap e-(nn+k))) e)) (H':=H) ⟨⟨rfl,rfl,rfl,by simp,fun k hk _=>jx u.drew _ hk,zmn _⟩,fun k v hv=>by
  have:=hh.sub.size hv;show(u.drew.alloc _).heap[k]?=some v;rw[jx u.drew _ this];exact hh.sub k v hv,mt _,fun _ _ _=>rfl⟩
 refine⟨H,_,hg3.putR (C:=fun k=>k=u.heap.size) (by simp [Act.put]) Z (fun t ht=>xn ht) ⟨by rw[nr,hxl2,hzl,zl9],.inr ⟨u.heap.size,_,(Builtin.zeroCells z'.cells (grownCap u (nn+k) cap e-(nn+k))).toList,xv (by rw[hh.size];exact zo hn),?_,hge,grownCap_le_maxLen u (nn+k) cap e hmx,?_,fun _=>Iff.rfl⟩⟩ (fun k hk=>?_) fun t r' htd ht k hf hk=>?_⟩
 ·rw[show u.heap.size=u.drew.heap.size from rfl,heap_alloc_new];congr 2;apply Array.ext';simp [<-hzs]
 ·have hz2:(Builtin.zeroCells z'.cells (grownCap u (nn+k) cap e-(nn+k))).toList.length=(grownCap u (nn+k) cap e-(nn+k))*i.size:=(zmt).trans (by rw[size_zeroCells,hs3]);rw[nr,nr,hz2,hxl2,hzl,<-zl9,<-zl9];congr 1;omega
 ·subst hk;exact⟨by simp,k9 hh.sub (ns _),.inl hh.keep.size,fun y hy e=>by have:=xc (hh.boxes y hy).1;omega⟩
 ·have:=((hh.slot t _ ht).2 k hf).1;omega
def M5(L:Tabs P){w b len cap:Nat}{s:Nat}{te:TypeId}{fo:Operand}{tR:TypeId}(hn:Nat.blt d n=true)(hg:gK ops κ ⟨some d,.call { callee:=.value fo,args:=#[.tmp w,y],argTypes:=at_ },ty,pos,aft,g⟩=some true)
  (hfo:evK κ fo=some (.func (.func f) #[] #[])) (hext:∀ args u,(callFunc f args).run P u=((Extern.SlicesOverlaps.overlaps #[t,t] #[tR] args).run P u).andThen fun v w'=>.ok (.value v) w')
  (hx:κ w=some (.sat (SlB cs te len))) (hy:evK κ y=some (.slice (some ⟨b,off,none⟩) m cap)) (hq:κ q=some (.own (xk b cur t'))) (ht:L.sl t=some e) (hl:L.ld e=some (ag,s)) (hc:0<cur.length):
  StepOKR P F B n ops O κ ⟨some d,.call { callee:=.value fo,args:=#[.tmp w,y],argTypes:=at_ },ty,pos,aft,g⟩ q d (.is (.bool false)):=by
 rintro κ' a u hlk hks ⟨H,fp,hh⟩;unfold After;rw[na (xh hh hlk hg)];have en:=hh.env hlk;have hk':κ' q=some (.own (xk b cur t')):=hks.trans hq;have hfe:a.eval fo=.func (.func f) #[] #[]:=en.is_ fo _ (by simp [Op.operands,Call.operands]) hfo;have hye:=en.is_ y _ (by simp [Op.operands,Call.operands]) hy;obtain⟨b2,hxe,hb2⟩:=en.sat_ w _ (by simp [Op.operands,Call.operands]) hx;obtain⟨⟨hbb,hC⟩,hM⟩:=hh.slot q _ hk';have hbm:=hM b ((hC b).2 rfl);have hne:b2≠b:=fun e=>by subst e;rw[hbm.2.1] at hb2;cases hb2
 have hb2':=en.sub _ _ hb2;have hsz:∀ w,(Go.sizeOf e).run P w=.ok s w:=j7 (Tabs.ld_spec hl)
 have hr:=Lib.run_overlaps_apart (P:=P) u t tR e (Tabs.sl_spec ht) s hsz ⟨b2,0,none⟩ ⟨b,off,none⟩ len len m cap hne te t' cs.length cur.length
  (by simp [World.shape?,hp] at hb2' |-;simp [hb2']) (by simp [World.shape?,hbb]) I (by simp [World.frozen?,hp] at hb2' |-;simp [hb2']) (by simp [World.frozen?,hp] at hb2' |-;simp [hb2'])
 have hrun:(execOp a.eval ⟨some d,.call { callee:=.value fo,args:=#[.tmp w,y],argTypes:=at_ },ty,pos,aft,g⟩).run P u=.ok (.value (.bool false)) u:=by
  simp only[execOp,resolve,hfe,Deferred.ofValue,nu,me,ny,invoke];simp [hext,hxe,hye,hr]
 rw[hrun];simp only[Upon];exact⟨H,fp,hh.put (k:=.is (.bool false)) (zo hn) trivial Z⟩
def Q1(L:Tabs P){tt:TypeId}{s:Nat}(hn:Nat.blt d n=true)(hg:gK ops κ ⟨some d,.slice tt x (some y) none none,ty,pos,aft,g⟩=some true)
  (hx:evK κ x=some (.slice none 0 0)) (ht:L.sl tt=some e) (hl:L.ld e=some (ag,s))  (hy:evK κ y=some (.int k p)) (hp:p=(0:Nat)):
  StepOK P F B n ops O κ ⟨some d,.slice tt x (some y) none none,ty,pos,aft,g⟩ d (.is (.slice none 0 0)):=
 ke rfl (zo hn) hg trivial fun a u H fp en=>⟨_,by
  have hu:=Tabs.sl_spec ht;have h1:=en.is_ x _ (by simp [Op.operands]) hx;have h2:=en.is_ y _ (by simp [Op.operands]) hy;subst hp
  have hrun:(Instr.sliceBounds true 0 0 (some (a.eval y)) none none).run P u=.ok (0,0,0) u:=by
   have h4:=fun c w=>jp (P:=P) 0 k 0 c (ns _) w;simp only[h2,Instr.sliceBounds,nu,h4,ny,me]
  simp only[execOp,h1,Instr.sliceAt,Instr.slice,nu,run_underlying hu,ny,Option.map_none,znc,hrun,j7 (Tabs.ld_spec hl)];rfl,rfl⟩
end
end Go.V
section
open Go.V
attribute [local irreducible] Has N Par Ret RetL RetO RetT RetX RetY Src StepOK V VO X kr
namespace Go.V.L4
def _root_.ZaN(t:Wr Y->A:=by intro h;refine z8 (zt L Z Z Z Z) Z ?_;exact h.1)(h:Y):A:=t ⟨h⟩
def _root_.Zag(t:Wr Y->A:=by intro h;refine zh (zt L Z Z Z Z) Z ?_;exact h.1)(h:Y):A:=t ⟨h⟩
def _root_.Zv(t:Wr Y->A:=by intro h;refine z8 (qy Z Z Z Z E) Z ?_;exact h.1)(h:Y):A:=t ⟨h⟩
def _root_.Zeo(t:Wr Y->A:=by intro h;refine z8 (qu Z Z Z) Z ?_;exact h.1)(h:Y):A:=t ⟨h⟩
def _root_.ZeN(t:Wr Y->A:=by intro h;refine qz (qb L (q:=900) Z Z Z Z) ?_;exact h.1)(h:Y):A:=t ⟨h⟩
def _root_.Zdb(t:Wr Y->A:=by intro h;refine zh (qu Z Z Z) Z ?_;exact h.1)(h:Y):A:=t ⟨h⟩
def _root_.ZdE(t:Wr Y->A:=by intro h;refine z8 (T6 Z Z Z Z (yz I I)) Z ?_;exact h.1)(h:Y):A:=t ⟨h⟩
def _root_.ZcP(t:Wr Y->A:=by intro h;refine qq (qb L (q:=900) Z Z Z Z) Z Z ?_;exact h.1)(h:Y):A:=t ⟨h⟩
def _root_.ZbS(t:Wr Y->A:=by intro h;refine zh (yi L _ Z Z Z Z (by first | omega | decide) E) Z ?_;exact h.1)(h:Y):A:=t ⟨h⟩
def _root_.Zah(t:Wr Y->A:=by intro h;refine zi (id:=10) ?_;exact h.1)(h:Y):A:=t ⟨h⟩
def _root_.ZO(t:Wr Y->A:=by intro h;refine zi (id:=11) ?_;exact h.1)(h:Y):A:=t ⟨h⟩
def _root_.ZaV(t:Wr Y->A:=by intro h;refine zi (id:=14) ?_;exact h.1)(h:Y):A:=t ⟨h⟩
def _root_.ZT(t:Wr Y->A:=by intro h;refine zi (id:=12) ?_;exact h.1)(h:Y):A:=t ⟨h⟩
def _root_.ZV(t:Wr Y->A:=by intro h;refine zi (id:=13) ?_;exact h.1)(h:Y):A:=t ⟨h⟩
def _root_.Zad(t:Wr Y->A:=by intro h;refine zi (id:=16) ?_;exact h.1)(h:Y):A:=t ⟨h⟩
def _root_.Zaw(t:Wr Y->A:=by intro h;refine zi (id:=15) ?_;exact h.1)(h:Y):A:=t ⟨h⟩
def _root_.Zcl(t:Wr Y->A:=by intro h;refine z8 (T9 L Z Z Z Z) Z ?_;exact h.1)(h:Y):A:=t ⟨h⟩
def _root_.Zdy(t:Wr Y->A:=by intro h;refine qh (id:=5) [(200012,[900]),(200016,[900])] x8 T ?_;exact h.1)(h:Y):A:=t ⟨h⟩
def _root_.Zdm(t:Wr Y->A:=by intro h;refine zh (yh Z Z Z Z (ng I)) Z ?_;exact h.1)(h:Y):A:=t ⟨h⟩
def _root_.ZcH(t:Wr Y->A:=by intro h;refine zh (T9 L Z Z Z Z) Z ?_;exact h.1)(h:Y):A:=t ⟨h⟩
def _root_.ZcT(t:Wr Y->A:=by intro h;refine zh (Ki L Z Z Z Z Z) Z ?_;exact h.1)(h:Y):A:=t ⟨h⟩
def _root_.ZdF(t:Wr Y->A:=by intro h;refine qh (id:=8) [(200029,[900]),(200033,[900])] x8 T ?_;exact h.1)(h:Y):A:=t ⟨h⟩
def _root_.ZdQ(t:Wr Y->A:=by intro h;refine z8 (Uh Z Z Z Z E) Z ?_;exact h.1)(h:Y):A:=t ⟨h⟩
def _root_.Zec(t:Wr Y->A:=by intro h;refine z8 (Ol Z Z Z Z I E) Z ?_;exact h.1)(h:Y):A:=t ⟨h⟩
def _root_.ZdR(t:Wr Y->A:=by intro h;refine z8 (zjh Z Z Z Z E) Z ?_;exact h.1)(h:Y):A:=t ⟨h⟩
def _root_.Zep(t:Wr Y->A:=by intro h;refine z8 (v0 Z Z Z Z zjj Z) Z ?_;exact h.1)(h:Y):A:=t ⟨h⟩
def _root_.Zed(t:Wr Y->A:=by intro h;refine z8 (yg Z Z Z Z Z) Z ?_;exact h.1)(h:Y):A:=t ⟨h⟩
def _root_.ZI(t:Wr Y->A:=by exact fun h=>(Zeo∘ZaN) h.1)(h:Y):A:=t ⟨h⟩
def _root_.ZbM(t:Wr Y->A:=by exact fun h=>(Zdb∘Zag) h.1)(h:Y):A:=t ⟨h⟩
def _root_.ZW(t:Wr Y->A:=by exact fun h=>(ZI∘ZeN) h.1)(h:Y):A:=t ⟨h⟩
def _root_.ZaG(t:Wr Y->A:=by exact fun h=>(Zj∘ZbM) h.1)(h:Y):A:=t ⟨h⟩
def _root_.ZaY(t:Wr Y->A:=by exact fun h=>(Zbz∘Zem) h.1)(h:Y):A:=t ⟨h⟩
def _root_.Zat(t:Wr Y->A:=by exact fun h=>(ZQ∘Za) h.1)(h:Y):A:=t ⟨h⟩
def _root_.Zc4(t:Wr Y->A:=by exact fun h=>(Zbz∘ZbE) h.1)(h:Y):A:=t ⟨h⟩
def _root_.ZaH(t:Wr Y->A:=by exact fun h=>(Zai∘ZE) h.1)(h:Y):A:=t ⟨h⟩
def _root_.ZaS(t:Wr Y->A:=by exact fun h=>(ZaG∘ZcP) h.1)(h:Y):A:=t ⟨h⟩
def _root_.ZaZ(t:Wr Y->A:=by exact fun h=>(Ze∘ZP) h.1)(h:Y):A:=t ⟨h⟩
def _root_.Zbe(t:Wr Y->A:=by exact fun h=>(Zb∘ZW) h.1)(h:Y):A:=t ⟨h⟩
def _root_.Zb9(t:Wr Y->A:=by exact fun h=>(ZaV∘Za) h.1)(h:Y):A:=t ⟨h⟩
abbrev uk:TypeId:=256
abbrev xy(b:Nat):Value:=.pointer (some ⟨b,0,none⟩)
abbrev N5:TypeId:=5
abbrev BsV(bs:List Nat)(fu:Bool):Value->Heap->Prop:=SlV N5 1 (bs.map fun b:Nat=>Value.int .u8 (b:Int)) bs.length fu
abbrev rdC(sv:Value)(R:Rd):List Value:=[sv,.int .i64 R.at_,.int .i64 R.bad,.int .i64 R.err]
abbrev GRd(rb:Nat)(sv:Value)(R:Rd):GR:=xa rb (rdC sv R) uk
def zjv{bs:List Nat}{b:Nat}(h:bs[i]?=some b):((bs.map fun b:Nat=>Value.int .u8 (b:Int)).drop (i*1)).take 1=[.int .u8 (b:Int)]:=by
 rw[zmi,zl4 (by rw[mn];exact get_lt h),zna,zl2,List.getElem_map];congr 2;rw[f9 h]
def _root_.Go.V.StepOKR.seeV{s:Nat}(h:StepOKR P F B n ops O κ o q d (.is v))(hv:SlV e s xs m fu v B):StepOKR P F B n ops O κ o q d (.sat (SlV e s xs m fu)):=fun κ' a u hl hq hh=>
 After.mono (fun a' u' hh'=>by
  have h2:=hh'.seen (t:=d) (SlV e s xs m fu) (xj _ _ _) ma hv
  rwa [jv] at h2) (h κ' a u hl hq hh)
def ee{rb:Nat}{R:Rd}{a:Nat}{e:Int}(hB:zpk B w)(hr:(GRd rb sv R).P B w C)(hC:ZCB C w B):
  kr zpl 210 [xy rb,.int .i64 a,.int .i64 e] w B C (GRd rb sv (R.fail a e)):=by
 unfold kr;refine yr 900 (GRd rb sv R) Tryz.func210 Z Tryz.ntmps210 (np Z) hB hr hC ?_;rw[xb];obtain⟨at_,bad,err⟩:=R;by_cases h0:err=0
 ·subst h0;refine(ZL∘Za∘ZW) ?_;refine z8 (yh Z Z Z Z Z) Z ((ZE∘Z4∘Zbc∘ZI) ?_);refine xf (yc L (q:=900) (cs':=[sv,.int .i64 at_,.int .i64 a,.int .i64 0]) Z Z Z Z Z) (ZI (h:=?_));refine xf (yc L (q:=900) (cs':=[sv,.int .i64 at_,.int .i64 a,.int .i64 e]) Z Z Z Z Z) (ZS (h:=?_));exact xp L 900 (r:=xa rb _ uk) Z (fun _ _ h=>h) nq Z Z
 ·have hf:(⟨at_,bad,err⟩:Rd).fail a e=⟨at_,bad,err⟩:=nc h0;refine(ZL∘Za∘ZW∘Zs∘ZZ) ?_;exact xp L 900 (r:=xa rb _ uk) Z (fun _ _ h=>h) nq Z (by rw[hf])
def xx{rb:Nat}{R:Rd}{f:Bool}(hf:decide (R.err≠0)=f)(hB:zpk B w)(hr:(GRd rb sv R).P B w C)(hC:ZCB C w B):
  RetX zpl 209 [xy rb] w B C (GRd rb sv R) (.bool f):=by
 subst hf;unfold RetX;refine yr 900 (GRd rb sv R) Tryz.func209 Z Tryz.ntmps209 (np Z) hB hr hC ?_;rw[xb];obtain⟨at_,bad,err⟩:=R;refine(Z5∘Za∘Zep∘Zbe∘Zed∘Zg∘Zd) ?_;exact xq L 900 (r:=xa rb _ uk) (rs:=[.tmp 2]) Z (fun _ _ h=>h) nq Z Z (fun _=>rfl)
def Du{rb:Nat}{bs:List Nat}{R:Rd}(hb:∀ b∈bs,b<=255)(hl:bs.length<=1099511627776)(hat:R.at_<=bs.length)(hB:zpk B w)(hs:BsV bs fu sv B)(hr:(GRd rb sv R).P B w C)(hC:ZCB C w B):
  RetX zpl 142 [xy rb] w B C (GRd rb sv (Ko bs R).2) (.int .u64 ((Ko bs R).1:Nat)):=by
 obtain⟨p,c,rfl⟩:=jg hs;unfold RetX;refine yr 900 (GRd rb _ R) Tryz.func142 Z Tryz.ntmps142 (np Z) hB hr hC ?_;rw[xb];obtain⟨z,hz⟩:∃ z,Ko bs R=z:=⟨_,rfl⟩
 rw[hz];refine(Z5∘Zi∘Zq∘ZcD) ?_;refine xo (fun x:Nat×Nat×Rd=>[(0,.is (xy rb)),(3,.is (.int .u64 x.2.1)),(6,.is (.int .i64 x.1)),(900,.own (xk rb (rdC (.slice p bs.length c) x.2.2) uk))]) (fun x=>x.1<=10/\x.2.1<128^x.1/\x.2.2.at_<=bs.length/\Sa bs (10-x.1) x.1 x.2.1 x.2.2=z) (fun x=>10-x.1) (0,0,R) ⟨mf _,by show(0:Nat)<128^0;decide,hat,hz⟩ ⟨Z,Z,Z,Z,nm⟩ ?_;rintro⟨i,acc,⟨at_,bad,err⟩⟩ ⟨hi,hacc,ha,hn⟩;dsimp only[rdC] at hi hacc ha hn |-;by_cases hlt:i<10
 ·obtain⟨f,hf⟩:∃ f,10-i=f+1:=⟨9-i,by omega⟩
  rw[hf] at hn;unfold Sa at hn
  cases hg:bs[at_]? with
  | none=>
   have hal:at_=bs.length:=by have:=zo6.1 hg;omega
   subst hal;dsimp only at hn;rw[hg] at hn;subst hn;refine(Zcc∘Zx∘Z2∘Zi∘Zdy∘ZaS∘ZaS∘ZcH) ?_;refine zh (yh Z Z Z Z (nf I)) Z ((Zc4∘ZaZ∘Zbe∘Zcl) ?_);refine q0 (yq L 900 (GRd rb (.slice p bs.length c) ((⟨bs.length,bad,err⟩:Rd).fail bs.length 17)) (r:=GRd rb (.slice p bs.length c) ⟨bs.length,bad,err⟩) Z Z Z Z Z (fun u H C2 hH _ hr2 hC2=>ee hH hr2 hC2)) ((Zf∘Z8∘Zd) ?_);exact xq L 900 (r:=xa rb _ uk) (rs:=[.tmp 2]) Z (fun _ _ h=>h) nq Z Z (fun _=>rfl)
  | some b=>
   have hb255:b<=255:=hb b (zlg hg);have hcr:=zjv hg;have hlt2:=get_lt hg;dsimp only at hn;rw[hg] at hn;dsimp only at hn;by_cases hbad:i=9/\b≠1\/0<i/\b=0
   ·rw[na hbad] at hn;subst hn;by_cases h9:i=9/\b≠1
    ·obtain⟨h9,h91⟩:=h9;refine(Zcc∘Zx∘Z2∘Zi∘Zdy∘ZaS∘ZaS∘ZcH∘Zdm∘ZaY∘Zae∘ZdF∘ZaG) ?_;refine qq (StepOKR.seeV (qb L (q:=900) Z Z Z Z) hs) Z Z ((ZaS∘ZbS∘ZcT∘Zaf∘ZU∘Ze∘Zat∘ZC∘Zb∘Zco∘Zg∘Zb6∘Zc1∘Zg∘Zr∘Zah∘Zbe) ?_);refine q0 (yq L 900 (GRd rb (.slice p bs.length c) ((⟨at_,bad,err⟩:Rd).fail at_ 5)) (r:=GRd rb (.slice p bs.length c) ⟨at_,bad,err⟩) Z Z Z Z Z (fun u H C2 hH _ hr2 hC2=>ee hH hr2 hC2)) ((Zf∘ZO∘Zd) ?_);exact xq L 900 (r:=xa rb _ uk) (rs:=[.tmp 2]) Z (fun _ _ h=>h) nq Z Z (fun _=>rfl)
    ·have h10:0<i/\b=0:=I;obtain⟨h10,h0b⟩:=h10;by_cases h9:i=9
     ·exfalso;omega
     ·refine(Zcc∘Zx∘Z2∘Zi∘Zdy∘ZaS∘ZaS∘ZcH∘Zdm∘ZaY∘Zae∘ZdF∘ZaG) ?_;refine qq (StepOKR.seeV (qb L (q:=900) Z Z Z Z) hs) Z Z ((ZaS∘ZbS∘ZcT∘Zaf∘ZU∘Ze∘Zat∘Zs∘Zc2∘ZbQ∘ZN∘Zb∘ZC∘Zg∘Zg∘Zr∘Zah∘Zbe) ?_);refine q0 (yq L 900 (GRd rb (.slice p bs.length c) ((⟨at_,bad,err⟩:Rd).fail at_ 5)) (r:=GRd rb (.slice p bs.length c) ⟨at_,bad,err⟩) Z Z Z Z Z (fun u H C2 hH _ hr2 hC2=>ee hH hr2 hC2)) ((Zf∘ZO∘Zd) ?_);exact xq L 900 (r:=xa rb _ uk) (rs:=[.tmp 2]) Z (fun _ _ h=>h) nq Z Z (fun _=>rfl)
   ·rw[nc hbad] at hn;have hw1:IntKind.i64.wrap ((at_:Int)+1)=((at_+1:Nat):Int):=yz I I;have hand:=zfx hb255;have hcv:IntKind.u64.wrap ((b%128:Nat):Int)=((b%128:Nat):Int):=wrap_u64 I I;have hpw:128^i<=128^9:=zom J I
    have hnx:acc+b%128*128^i<2^64:=by
     by_cases h9:i=9
     ·have hb1:b=1:=I;subst h9;subst hb1;have:(128:Nat)^9=9223372036854775808:=J;omega
     ·have h1:=Py (b:=b) hacc;have h2:128^(i+1)<=128^9:=zom J I;have:(128:Nat)^9=9223372036854775808:=J;omega
    have hsh:IntKind.u64.wrap (((b%128:Nat):Int)*2^min (7*(i:Int)).toNat IntKind.u64.bits)=((b%128*128^i:Nat):Int):=by
     have e1:min (7*(i:Int)).toNat IntKind.u64.bits=7*i:=by
      show min (7*(i:Int)).toNat 64=7*i;omega
     rw[e1,show((b%128:Nat):Int)*2^(7*i)=((b%128*128^i:Nat):Int) by rw[M1];push_cast;rfl];exact wrap_u64 I I
    have hor:bits .or .u64 (acc:Int) ((b%128*128^i:Nat):Int)=((acc+b%128*128^i:Nat):Int):=by
     rw[bits_or_u64_nat _ _ I I];congr 1;have:=zcf (a:=acc) (b:=b%128) (i:=7*i) (by rw[<-M1];exact hacc)
     rwa [<-M1] at this
    have hwk:IntKind.i64.wrap ((i:Int)+1)=((i+1:Nat):Int):=yz I I;have hnl:=Py (b:=b) hacc;generalize b%128*128^i=sh at hn hsh hor hnx hnl;by_cases hlast:b<128
    ·rw[na hlast] at hn;subst hn;by_cases h9:i=9
     ·have hb1:b=1:=I;subst hb1;refine(Zcc∘Zx∘Z2∘Zi∘Zdy∘ZaS∘ZaS∘ZcH∘Zdm∘ZaY∘Zae∘ZdF∘ZaG) ?_;refine qq (StepOKR.seeV (qb L (q:=900) Z Z Z Z) hs) Z Z ((ZaS∘ZbS∘ZcT∘Zaf∘ZU∘Ze∘Zat∘ZC∘Zb∘ZG∘ZbQ∘ZN∘Zb∘Zs∘Zg∘Zbd∘ZT∘Za∘ZW∘Zv∘ZI) ?_);refine xf (yc L (q:=900) (cs':=[.slice p bs.length c,.int .i64 (at_+1:Nat),.int .i64 bad,.int .i64 err]) Z Z Z Z Z) ((Zf∘ZV∘Zb∘ZdQ) ?_);refine z8 (ku Z Z Z bl.1 bl.2 (wrap_u64 I I)) Z ((Za∘ZdE∘Zec∘ZdR∘Zc∘Zb9∘ZaH∘Zea) ?_);refine aw Z ((Zd9∘ZcZ∘Zb5∘Zad∘Za∘Zd) ?_);exact xq L 900 (r:=xa rb _ uk) (rs:=[.tmp 2]) Z (fun _ _ h=>h) nq Z Z (fun _=>rfl)
     ·by_cases h0:0<i
      ·have hb0:b≠0:=I;refine(Zcc∘Zx∘Z2∘Zi∘Zdy∘ZaS∘ZaS∘ZcH∘Zdm∘ZaY∘Zae∘ZdF∘ZaG) ?_;refine qq (StepOKR.seeV (qb L (q:=900) Z Z Z Z) hs) Z Z ((ZaS∘ZbS∘ZcT∘Zaf∘ZU∘Ze∘Zat∘Zs∘Zc2∘ZbQ∘ZN∘Zb∘Zs∘Zg∘Zbd∘ZT∘Za∘ZW∘Zv∘ZI) ?_);refine xf (yc L (q:=900) (cs':=[.slice p bs.length c,.int .i64 (at_+1:Nat),.int .i64 bad,.int .i64 err]) Z Z Z Z Z) ((Zf∘ZV∘Zb∘ZdQ) ?_);refine z8 (ku Z Z Z bl.1 bl.2 (wrap_u64 I I)) Z ((Za∘ZdE∘Zec∘ZdR∘Zc∘Zb9∘ZaH∘Zea) ?_);refine aw Z ((Zd9∘ZcZ∘Zb5∘Zad∘Za∘Zd) ?_);exact xq L 900 (r:=xa rb _ uk) (rs:=[.tmp 2]) Z (fun _ _ h=>h) nq Z Z (fun _=>rfl)
      ·refine(Zcc∘Zx∘Z2∘Zi∘Zdy∘ZaS∘ZaS∘ZcH∘Zdm∘ZaY∘Zae∘ZdF∘ZaG) ?_;refine qq (StepOKR.seeV (qb L (q:=900) Z Z Z Z) hs) Z Z ((ZaS∘ZbS∘ZcT∘Zaf∘ZU∘Ze∘Zat∘Zs∘Zc2∘ZbQ∘ZD∘Zc2∘Zg∘Zbd∘ZT∘Za∘ZW∘Zv∘ZI) ?_);refine xf (yc L (q:=900) (cs':=[.slice p bs.length c,.int .i64 (at_+1:Nat),.int .i64 bad,.int .i64 err]) Z Z Z Z Z) ((Zf∘ZV∘Zb∘ZdQ) ?_);refine z8 (ku Z Z Z bl.1 bl.2 (wrap_u64 I I)) Z ((Za∘ZdE∘Zec∘ZdR∘Zc∘Zb9∘ZaH∘Zea) ?_);refine aw Z ((Zd9∘ZcZ∘Zb5∘Zad∘Za∘Zd) ?_);exact xq L 900 (r:=xa rb _ uk) (rs:=[.tmp 2]) Z (fun _ _ h=>h) nq Z Z (fun _=>rfl)
    ·rw[nc hlast] at hn;have h9:i≠9:=I;have hf9:f=10-(i+1):=I;rw[hf9] at hn;by_cases h0:0<i
     ·have hb0:b≠0:=I;refine(Zcc∘Zx∘Z2∘Zi∘Zdy∘ZaS∘ZaS∘ZcH∘Zdm∘ZaY∘Zae∘ZdF∘ZaG) ?_;refine qq (StepOKR.seeV (qb L (q:=900) Z Z Z Z) hs) Z Z ((ZaS∘ZbS∘ZcT∘Zaf∘ZU∘Ze∘Zat∘Zs∘Zc2∘ZbQ∘ZN∘Zb∘Zs∘Zg∘Zbd∘ZT∘Za∘ZW∘Zv∘ZI) ?_);refine xf (yc L (q:=900) (cs':=[.slice p bs.length c,.int .i64 (at_+1:Nat),.int .i64 bad,.int .i64 err]) Z Z Z Z Z) ((Zf∘ZV∘Zb∘ZdQ) ?_);refine z8 (ku Z Z Z bl.1 bl.2 (wrap_u64 I I)) Z ((Za∘ZdE∘Zec∘ZdR∘Zc∘Zb9∘Z0∘Zca∘Zaw∘Zv∘Zct) ?_);exact ym (x:=(i,acc,⟨at_,bad,err⟩)) (i+1,acc+sh,⟨at_+1,bad,err⟩) ⟨hlt,hnl,hlt2,hn⟩ M ⟨Z,Z,Z,Z,nm⟩
     ·refine(Zcc∘Zx∘Z2∘Zi∘Zdy∘ZaS∘ZaS∘ZcH∘Zdm∘ZaY∘Zae∘ZdF∘ZaG) ?_;refine qq (StepOKR.seeV (qb L (q:=900) Z Z Z Z) hs) Z Z ((ZaS∘ZbS∘ZcT∘Zaf∘ZU∘Ze∘Zat∘Zs∘Zc2∘ZbQ∘ZD∘Zc2∘Zg∘Zbd∘ZT∘Za∘ZW∘Zv∘ZI) ?_);refine xf (yc L (q:=900) (cs':=[.slice p bs.length c,.int .i64 (at_+1:Nat),.int .i64 bad,.int .i64 err]) Z Z Z Z Z) ((Zf∘ZV∘Zb∘ZdQ) ?_);refine z8 (ku Z Z Z bl.1 bl.2 (wrap_u64 I I)) Z ((Za∘ZdE∘Zec∘ZdR∘Zc∘Zb9∘Z0∘Zca∘Zaw∘Zv∘Zct) ?_);exact ym (x:=(i,acc,⟨at_,bad,err⟩)) (i+1,acc+sh,⟨at_+1,bad,err⟩) ⟨hlt,hnl,hlt2,hn⟩ M ⟨Z,Z,Z,Z,nm⟩
 ·have hf:10-i=0:=I;rw[hf] at hn;unfold Sa at hn;subst hn;refine(Zcc∘ZaK∘Zad∘Za∘Zd) ?_;exact xq L 900 (r:=xa rb _ uk) (rs:=[.tmp 2]) Z (fun _ _ h=>h) nq Z Z (fun _=>rfl)
end Go.V.L4
namespace Go.V.L11
open Go.V.L2 Go.V.L4
def _root_.ZcQ(t:Wr Y->A:=by intro h;refine zh (qy Z Z Z Z (yz I I)) Z ?_;exact h.1)(h:Y):A:=t ⟨h⟩
def _root_.ZcU(t:Wr Y->A:=by intro h;refine qz (qb L (q:=78) Z Z Z Z) ?_;exact h.1)(h:Y):A:=t ⟨h⟩
def _root_.Zeq(t:Wr Y->A:=by intro h;refine qq (qb L (q:=78) Z Z Z Z) Z Z ?_;exact h.1)(h:Y):A:=t ⟨h⟩
def _root_.Zdc(t:Wr Y->A:=by exact fun h=>(ZcY∘Zbq) h.1)(h:Y):A:=t ⟨h⟩
def _root_.ZcR(t:Wr Y->A:=by exact fun h=>(Zdc∘ZF) h.1)(h:Y):A:=t ⟨h⟩
def _root_.Zcd(t:Wr Y->A:=by exact fun h=>(ZE∘ZcR) h.1)(h:Y):A:=t ⟨h⟩
abbrev Hi:Nat:=9
abbrev vi(l:List ByteArray):wo:=l.map fun x=>[Value.string x]
def zhu{c:UInt8}:∀ {l:List UInt8},c∉l->Lib.indexByte l c= -1
 | [],_=>rfl
 | x::l,h=>by
  rw[nw,not_or] at h;unfold Lib.indexByte;rw[nc (by simpa using Ne.symm h.1),zhu h.2];rfl
def zcv{c:UInt8}{q:List UInt8}:∀ {p:List UInt8},c∉p->Lib.indexByte (p++c::q) c=(p.length:Int)
 | [],_=>by
  show Lib.indexByte (c::q) c=0;unfold Lib.indexByte;rw[na (by simp)]
 | x::p,h=>by
  rw[nw,not_or] at h;show Lib.indexByte (x::(p++c::q)) c=_;unfold Lib.indexByte;rw[nc (by simpa using Ne.symm h.1),zcv h.2,nc (by simp)];rfl
def oq{k:Int}(hk:Lib.indexByte s.data.toList 10=k)(hB:zpk B w):
  Ret zpl 258 [.string s,.int .u8 10] w B (fun v _=>v=.int .i64 k):=by
 subst hk;exact Ret.of_same hB (Tryz.strings_IndexByte s 10 w)
def Pm{f:Bool}(hs:s.size<=9223372036854775807)(h:Lib.hasSuffix s.data.toList [10]=f)(hr:(⟨(Lib.trimSuffix s.data.toList [10]).toArray⟩:ByteArray)=r)(hB:zpk B w):
  Ret zpl 130 [.string s,.string ⟨#[10]⟩] w B (fun v _=>v=.tuple #[.string r,.bool f]):=by
 subst h hr;exact Ret.of_same hB (Tryz.strings_CutSuffix s ⟨#[10]⟩ w hs)
def Di{stop:wo->Bool}{x:List Value}{xs pre:wo}(h:stop (pre++[x])=false):jh stop pre (x::xs)=jh stop (pre++[x]) xs:=by
 simp only[jh];rw[nc (by rw[h];decide)]
def Ho{stop:wo->Bool}{x:List Value}{xs pre:wo}(h:stop (pre++[x])=true):jh stop pre (x::xs)=pre++[x]:=by
 simp only[jh];rw[na h]
def Y7(h:r≠⟨#[]⟩):0<r.size:=by
 rcases Nat.eq_zero_or_pos r.size with h0 | h0
 ·exfalso;apply h;apply wn;have:=jl r;rw[h0] at this;exact m6 this
 ·exact h0
def Y6(hs:s.size<=1099511627776){b:Nat}(hB:zpk B w):zio zpl 257 [xy b] (xa b [.string s] Hi) w B (vi (pu s)):=by
 intro ly zpg stop C Cg hst hY hJ hC hg hCg hd;refine yr 77 (uw (zpg []) (xa b [.string s] Hi)) Tryz.func257 Z Tryz.ntmps257 (np Z) hB ⟨C,Cg,hJ,hg,fun _=>Iff.rfl,hd⟩ (fun k hk=>hk.elim (hC k) (hCg k)) ?_;rw[w5];refine vt 77 78 rfl (fun _ _ _ _ _ h=>h) ?_;rw[xb];refine Zam (h:=?_)
 refine xo (fun x:List ByteArray×ByteArray=>[(0,.is (.func (.yield ly) #[] #[])),(1,.is (xy b)),(77,.own (zpg (vi x.1)).res),(78,.own (xk b [.string x.2] Hi))])
  (fun x=>vi x.1++vi (pu x.2)=vi (pu s)/\jh stop [] (vi (pu s))=jh stop (vi x.1) (vi (pu x.2))/\stop (vi x.1)=false/\x.2.size<=s.size) (fun x=>x.2.size) ([],s) ⟨rfl,rfl,hst,ns _⟩ ⟨rfl,rfl,rfl,rfl,nm⟩ ?_
 rintro⟨pre,r⟩ ⟨h1,h2,h3,h4⟩;dsimp only at h1 h2 h3 h4 |-;by_cases hr:r=⟨#[]⟩
 ·subst hr;have h0:(⟨#[]⟩:ByteArray).size=0:=rfl;rw[F4] at h2;refine(Ze∘ZL∘ZcU∘Zan∘ZD∘Za9∘Za2) ?_;refine xp (r:=zpg (vi pre)) (r':=zpg (jh stop [] (vi (pu s)))) L 77 rfl (fun _ _ h=>h) nq Z (by rw[h2];rfl)
 ·have hp0:=Y7 hr;rcases rz r 10 with hn | ⟨a,c,hac,hn⟩
  ·have e1:=zex hn hr;rw[e1] at h1 h2;have hi:=zhu hn;have hpre:vi pre++[[Value.string r]]<+:vi (pu s):=by rw[<-h1];exact List.prefix_rfl
   cases hb':stop (vi pre++[[Value.string r]])
   ·refine(Ze∘ZL∘ZcU∘Zan∘ZN∘Zcd∘Z4∘Zi∘ZM∘ZcU) ?_;refine z81 L Z (fun u H hH _=>oq hi hH) ?_;refine(Zc∘Zu∘Za1∘Za9∘ZY∘ZcU∘Zp) ?_;refine xf (yc L (q:=78) (cs':=[.string ⟨#[]⟩]) Z Z Z Z Z) ((Zf∘ZP∘Zb) ?_);refine q0 (ug (gs:=77) hY hpre h3 (nh Bool.not hb') Z Z Z Z Z) ((Zt∘ZZ∘Zay) ?_);refine ym (x:=(pre,r)) (pre++[r],⟨#[]⟩) ⟨?_,?_,?_,mf _⟩ hp0 ⟨Z,Z,?_,Z,nm⟩
    ·rw[F4,<-h1];simp [vi]
    ·rw[h2,F4];show jh stop (vi pre) [[Value.string r]]=jh stop (vi (pre++[r])) [];rw[Di hb'];simp [vi]
    ·have:vi (pre++[r])=vi pre++[[Value.string r]]:=by simp [vi]
     rw[this];exact hb'
    ·have:vi (pre++[r])=vi pre++[[Value.string r]]:=by simp [vi]
     dsimp only;rw[this];rfl
   ·refine(Ze∘ZL∘ZcU∘Zan∘ZN∘Zcd∘Z4∘Zi∘ZM∘ZcU) ?_;refine z81 L Z (fun u H hH _=>oq hi hH) ?_;refine(Zc∘Zu∘Za1∘Za9∘ZY∘ZcU∘Zp) ?_;refine xf (yc L (q:=78) (cs':=[.string ⟨#[]⟩]) Z Z Z Z Z) ((Zf∘ZP∘Zb) ?_);refine q0 (ug (gs:=77) hY hpre h3 (nh Bool.not hb') Z Z Z Z Z) ((Zt∘ZE) ?_);exact jf L 77 rfl (fun _ _ h=>h) nq Z (by rw[h2];show _=zpg (jh stop (vi pre) [[Value.string r]]);rw[Ho hb'])
  ·have e1:pu r=(a++sNl)::pu c:=by rw[hac];exact F5 hn
   have hra:r.size=a.size+1+c.size:=by rw[hac,m9,m9];rfl
   have hi:Lib.indexByte r.data.toList 10=(a.size:Int):=by
    rw[hac,kg,kg,mj];show Lib.indexByte (a.data.toList++10::c.data.toList) 10=_;rw[zcv hn,jl]
   have x1:r.extract 0 (a.size+1)=a++sNl:=by
    have:=bg ⟨#[]⟩ (a++sNl) c 0 (a.size+1) rfl (by rw[m9];show _=0+(a.size+1);omega);rw[hac];rw[show(a++⟨#[10]⟩++c:ByteArray)=⟨#[]⟩++(a++sNl)++c from wn (by simp [kg])];exact this
   have x2:r.extract (a.size+1) r.size=c:=by
    have:=bg (a++sNl) c ⟨#[]⟩ (a.size+1) r.size (by rw[m9];rfl) (by rw[m9];exact hra);rw[show(a++sNl++c++⟨#[]⟩:ByteArray)=r from wn (by rw[hac];simp [kg])] at this;exact this
   rw[e1] at h1 h2
   have hpre:vi pre++[[Value.string (a++sNl)]]<+:vi (pu s):=by
    rw[<-h1];exact⟨vi (pu c),by simp [vi]⟩
   cases hb':stop (vi pre++[[Value.string (a++sNl)]])
   ·refine(Ze∘ZL∘ZcU∘Zan∘ZN∘Zcd∘Z4∘Zi∘ZM∘ZcU) ?_;refine z81 L Z (fun u H hH _=>oq hi hH) ?_;refine(Zc∘Zu∘ZbL) ?_;refine qh (id:=4) [(200012,[78]),(200016,[78]),(100001,[78])] x8 T ((Zeq∘Zj∘ZcQ) ?_);refine zh (k8 L (kl:=.i64) (pl:=0) 0 (a.size+1) Z Z Z Z Z ⟨rfl,by omega⟩ I I x1) Z ?_;refine(Zeq∘Zj∘ZcQ) ?_;refine zh (k8 L (kh:=.i64) (ph:=0) (a.size+1) _ Z Z Z Z ⟨rfl,by omega⟩ Z I I x2) Z ?_;refine Zaf (h:=?_);refine xl (yc L (q:=78) (cs':=[.string c]) Z Z Z Z Z) Z ((ZU∘ZP∘Zb) ?_);refine q0 (ug (gs:=77) hY hpre h3 (nh Bool.not hb') Z Z Z Z Z) ((Zt∘ZZ∘Zay) ?_);have e3:vi (pre++[a++sNl])=vi pre++[[Value.string (a++sNl)]]:=by simp [vi]
    refine ym (x:=(pre,r)) (pre++[a++sNl],c) ⟨?_,?_,?_,?_⟩ ?_ ⟨Z,Z,?_,Z,nm⟩
    ·rw[<-h1];simp [vi]
    ·rw[h2];show jh stop (vi pre) ([Value.string (a++sNl)]::vi (pu c))=_;rw[Di hb',e3]
    ·rw[e3];exact hb'
    ·dsimp only;omega
    ·dsimp only;omega
    ·dsimp only;rw[e3];rfl
   ·refine(Ze∘ZL∘ZcU∘Zan∘ZN∘Zcd∘Z4∘Zi∘ZM∘ZcU) ?_;refine z81 L Z (fun u H hH _=>oq hi hH) ?_;refine(Zc∘Zu∘ZbL) ?_;refine qh (id:=4) [(200012,[78]),(200016,[78]),(100001,[78])] x8 T ((Zeq∘Zj∘ZcQ) ?_);refine zh (k8 L (kl:=.i64) (pl:=0) 0 (a.size+1) Z Z Z Z Z ⟨rfl,by omega⟩ I I x1) Z ?_;refine(Zeq∘Zj∘ZcQ) ?_;refine zh (k8 L (kh:=.i64) (ph:=0) (a.size+1) _ Z Z Z Z ⟨rfl,by omega⟩ Z I I x2) Z ?_;refine Zaf (h:=?_);refine xl (yc L (q:=78) (cs':=[.string c]) Z Z Z Z Z) Z ((ZU∘ZP∘Zb) ?_);refine q0 (ug (gs:=77) hY hpre h3 (nh Bool.not hb') Z Z Z Z Z) ((Zt∘ZE) ?_);exact jf L 77 rfl (fun _ _ h=>h) nq Z (by rw[h2];show _=zpg (jh stop (vi pre) ([Value.string (a++sNl)]::vi (pu c)));rw[Ho hb'])
end Go.V.L11
end
namespace Go.V
def SlX(e:TypeId)(s cap n:Nat)(xs:List Value):Res where
 P x _ u C:=xs.length=n*s/\∃ b rest,x=.slice (some ⟨b,0,none⟩) n cap/\u.heap[b]?=some (.cells (xs++rest).toArray e)/\n<=cap/\cap<=maxLen/\(xs++rest).length=cap*s/\∀ k,C k↔k=b
 st:=fun⟨hl,b,rest,h1,h2,h3,h4,h5,h6⟩ _ _ _ hk=>⟨hl,b,rest,h1,(hk b ((h6 b).2 rfl)).trans h2,h3,h4,h5,h6⟩
section
def T7(L:Tabs P){kc:IntKind}{s:Nat}(c:Nat)(hn:Nat.blt d n=true)(hg:gK ops κ ⟨some d,.makeSlice t x y,ty,pos,aft,g⟩=some true)(ht:L.sl t=some e)(he:elI P e=some (s,by_))
  (hx:evK κ x=some (.int kl 0)) (hy:evK κ y=some (.int kc p)) (hp:p=c) (hb:by_*c<=281474976710656) (hc:c<=maxLen):StepOK P F B n ops O κ ⟨some d,.makeSlice t x y,ty,pos,aft,g⟩ d (.own (SlX e s c 0 [])):=by
 rintro κ' a u hl ⟨H,fp,hh⟩;unfold After;rw[na (xh hh hl hg)];have en:=hh.env hl;obtain⟨i,z,hi,hz,hs1,hs2,hs3,hs4⟩:=vy he;have h1:=en.is_ x _ (by simp [Op.operands]) hx;have h2:=en.is_ y _ (by simp [Op.operands]) hy;subst hp
 have hb':(i.bytes:Int)*(c:Int)<=281474976710656:=by
  have h:((by_*c:Nat):Int)<=281474976710656:=I;rw[hs2];rwa [Int.natCast_mul] at h
 have h63:(c:Int)<=9223372036854775807:=by simp [maxLen] at hc;omega
 have hr:=run_make (P:=P) u t e i z (Tabs.sl_spec ht) hi hz kl kc 0 c (zmm _) I hb' h63;simp only[Int.toNat_zero,zl6] at hr
 have hrun:(execOp a.eval ⟨some d,.makeSlice t x y,ty,pos,aft,g⟩).run P u=.ok (.value (.slice (some ⟨u.heap.size,0,none⟩) 0 c)) (u.alloc (.cells (madeCells z.cells (c*i.size)) e)):=by
  simp only[execOp,h1,h2,nu,hr,ny];rfl
 rw[hrun];simp only[Upon];have hg2:=hh.grow (Grow.hid hh.sub (.cells (madeCells z.cells (c*i.size)) e));refine⟨H,_,hg2.putR (C:=fun k=>k=u.heap.size) (by simp [Act.put]) Z (fun t ht=>xn ht) ⟨by simp,u.heap.size,(madeCells z.cells (c*i.size)).toList,xv (by rw[hh.size];exact zo hn),by rw[xm];simp,mf _,hc,by simp [size_madeCells,hs1],fun _=>Iff.rfl⟩ (fun k hk=>?_) fun t r' _ ht k hf hk=>?_⟩
 ·subst hk;exact⟨xc (xm u _),k9 hh.sub (ns _),.inl hh.keep.size,fun y hy e=>by have:=xc (hh.boxes y hy).1;omega⟩
 ·have:=((hh.slot t _ ht).2 k hf).1;omega
def zb0(t q:Nat){s cap:Nat}{c:Code}(hk:κ t=some (.own (SlX e s cap m xs)))
  (h:∀ b rest,xs.length=m*s->m<=cap->cap<=maxLen->(xs++rest).length=cap*s->V P F B n O (upd (upd (upd κ t fw) q (.own (xk b (xs++rest) e))) t (.is (.slice (some ⟨b,0,none⟩) m cap))) c Q):V P F B n O κ c Q:=fun a u hh=>by
 obtain⟨H,fp,hh⟩:=hh;obtain⟨⟨hl,b,rest,hv,hb,h3,h4,h5,hC⟩,hM⟩:=hh.slot t _ hk;have h2:=hh.usePut (d:=q) (a':=a) (r':=xk b (xs++rest) e) (C:=fp t) hk ⟨Keep.refl _ _,hh.sub,mt _,fun _ _ _=>rfl⟩ rfl rfl (fun _ _=>rfl) ⟨hb,hC⟩ fun k hk=>⟨.inl hk,(hM k hk).1,(hM k hk).2.1⟩
 have h3':=h2.name t;rw[hv] at h3';exact h b rest hl h3 h4 h5 a u ⟨H,_,h3'⟩
def M9(L:Tabs P){b cap:Nat}{s:Nat}(hn:Nat.blt d n=true)(hg:gK ops κ ⟨some d,.call ⟨.builtin .append,#[x,y],#[t,t]⟩,ty,pos,aft,g⟩=some true)
  (hx:evK κ x=some (.slice (some ⟨b,0,none⟩) nn cap)) (hq:κ q=some (.own (xk b cur e))) (hy:Apd F B O κ y m news) (ht:L.sl t=some e) (he:elI P e=some (s,by_)) (hm:0<m) (hnl:news.length=m*s) (hroom:nn+m<=cap) (hcl:nn*s+m*s<=cur.length) (h1:news.all v9=true)
  (hr:cur.take (nn*s)++(news++cur.drop (nn*s+m*s))=cur'):
  wv P F B n ops O κ ⟨some d,.call ⟨.builtin .append,#[x,y],#[t,t]⟩,ty,pos,aft,g⟩ q (.own (xk b cur' e)) d (.is (.slice (some ⟨b,0,none⟩) (nn+m) cap)):=by
 rintro κ' a u hlk hks ⟨H,fp,hh⟩;unfold After;rw[na (xh hh hlk hg)];have en:=hh.env hlk;have hk':κ' q=some (.own (xk b cur e)):=hks.trans hq;have hxe:=en.is_ x _ (by simp [Op.operands,Call.operands]) hx;obtain⟨⟨hb,hC⟩,hM⟩:=hh.slot q _ hk';obtain⟨i,z,hi,hz,hs1,hs2,hs3,hs4⟩:=vy he;subst hs1;rcases hy _ a u H fp (by simp [Op.operands,Call.operands]) en with ⟨h0,_⟩ | ⟨ad,c',hye,hcy⟩
 ·omega
 have hrun0:=run_append_room (P:=P) u t ty e i (Tabs.sl_spec ht) hi b nn cap cur.toArray hb ad m c' news hnl hcy (fun v hv=>lw (zlj.1 h1 v hv)) hroom (by rw[hnl];simpa using hcl);rw[hnl] at hrun0;simp only[mj] at hrun0;rw[hr] at hrun0
 have hrun:(execOp a.eval ⟨some d,.call ⟨.builtin .append,#[x,y],#[t,t]⟩,ty,pos,aft,g⟩).run P u=.ok (.value (.slice (some ⟨b,0,none⟩) (nn+m) cap)) (u.setRow b cur'.toArray):=by
  simp only[execOp,resolve,invoke,builtin,nu,me,ny,zlp,mq,zlo,hxe,hye,hrun0]
 rw[hrun];simp only[Upon];have hbm:=hM b ((hC b).2 rfl)
 have h2:=hh.usePut (d:=q) (a':=a) (r':=xk b cur' e) (C:=fun k=>k=b) hk' (vp hh.sub hb ((hC b).2 rfl) hbm.2.1 _) rfl rfl (fun _ _=>rfl) ⟨setRow_heap u b cur.toArray cur'.toArray e (0,0) hb,fun _=>Iff.rfl⟩ (fun k hk=>by
  subst hk;exact⟨.inl ((hC k).2 rfl),by rw[setRow_size];exact hbm.1,hbm.2.1⟩)
 rw[jv] at h2;exact⟨H,_,h2.put (k:=.is _) (zo hn) trivial Z⟩
end
end Go.V
namespace Go.V
section
def N3{k:Kn}(h:κ q=some k):upd κ q k=κ:=by
 funext t;by_cases e:t=q
 ·subst e;rw[xj];exact h.symm
 ·rw[xe _ _ e]
def u4(L:Tabs P)(q:Nat)(φ:Value->Heap->Prop){r:GR}{fo:Operand}
  (hn:Nat.blt d n=true) (hg:gK ops κ ⟨some d,.call { callee:=.value fo,args:=args,argTypes:=at_ },ty,pos,aft,g⟩=some true)
  (hf:evK κ fo=some (.func (.func f) #[] cap.toArray)) (hfn:L.fn f=some ()) (hq:κ q=some (.own r.res)) (hm:Kn.mono (.sat φ))
  (h:∀ u H C,zpk H u->B.Le H->r.P H u C->(ZCB C u H)->Args κ H args.toList [] (fun vs=>RetY P f (vs++cap) u H C r φ)):
  StepOKR P F B n ops O κ ⟨some d,.call { callee:=.value fo,args:=args,argTypes:=at_ },ty,pos,aft,g⟩ q d (.sat φ):=by
 rintro κ' a u hlk hks ⟨H,fp,hh⟩;unfold After;rw[na (xh hh hlk hg)];have hk':κ' q=some (.own r.res):=hks.trans hq;obtain⟨hown,hM⟩:=hh.slot q _ hk';have e2:=hh.env hlk;have hfe:a.eval fo=.func (.func f) #[] cap.toArray:=e2.is_ fo _ (by simp [Op.operands,Call.operands]) hf;have hc:=Args.use e2 args.toList [] (fun x hx=>by simp [Op.operands,Call.operands] at hx |-;exact .inr hx) (h u H (fp q) hh.sub hh.base hown fun k hk=>⟨(hM k hk).1,(hM k hk).2.1⟩);simp only[zma,mh] at hc;rw[uf L rfl hfe hfn];simp only[Upon];refine Calls.mono hc fun e' u' hp=>?_;obtain⟨x,rfl,H',g',hx,C',hv,hC'⟩:=hp;have h2:=hh.usePut (d:=q) (a':=a) (r':=r.res) hk' g' rfl rfl (fun _ _=>rfl) hv hC';rw[jv,N3 hk'] at h2;exact⟨x,rfl,H',_,h2.put (k:=.sat φ) (zo hn) hm hx⟩
def Kj(L:Tabs P)(q:Nat)(v:Value){r:GR}{fo:Operand}
  (hn:Nat.blt d n=true) (hg:gK ops κ ⟨some d,.call { callee:=.value fo,args:=args,argTypes:=at_ },ty,pos,aft,g⟩=some true)
  (hf:evK κ fo=some (.func (.func f) #[] cap.toArray)) (hfn:L.fn f=some ()) (hq:κ q=some (.own r.res))
  (h:∀ u H C,zpk H u->B.Le H->r.P H u C->(ZCB C u H)->Args κ H args.toList [] (fun vs=>RetY P f (vs++cap) u H C r (fun x _=>x=v))):
  StepOKR P F B n ops O κ ⟨some d,.call { callee:=.value fo,args:=args,argTypes:=at_ },ty,pos,aft,g⟩ q d (.is v):=by
 rintro κ' a u hlk hks ⟨H,fp,hh⟩;unfold After;rw[na (xh hh hlk hg)];have hk':κ' q=some (.own r.res):=hks.trans hq;obtain⟨hown,hM⟩:=hh.slot q _ hk';have e2:=hh.env hlk;have hfe:a.eval fo=.func (.func f) #[] cap.toArray:=e2.is_ fo _ (by simp [Op.operands,Call.operands]) hf;have hc:=Args.use e2 args.toList [] (fun x hx=>by simp [Op.operands,Call.operands] at hx |-;exact .inr hx) (h u H (fp q) hh.sub hh.base hown fun k hk=>⟨(hM k hk).1,(hM k hk).2.1⟩);simp only[zma,mh] at hc;rw[uf L rfl hfe hfn];simp only[Upon];refine Calls.mono hc fun e' u' hp=>?_;obtain⟨x,rfl,H',g',hx,C',hv,hC'⟩:=hp;have h2:=hh.usePut (d:=q) (a':=a) (r':=r.res) hk' g' rfl rfl (fun _ _=>rfl) hv hC';rw[jv,N3 hk'] at h2;exact⟨x,Z,H',_,h2.put (k:=.is v) (zo hn) trivial hx⟩
def U7{b:Nat}:∀ v H u C,(ei (xk b cs ty) r2).P v H u C->joinH H u C b=some (.cells cs.toArray ty):=fun _ _ _ _ ⟨_,_,⟨hb,hC⟩,_,h3,_⟩=>(c9 ((h3 b).2 (.inl ((hC b).2 rfl)))).trans hb
end
def RetT.pubY{f:FuncId}{args:List Value}{r:GR}(h:RetT P f args w B C (ei r1 r.res))(hl:zj3 r1 φ):RetY P f args w B C r φ:=
 Calls.mono h fun _ u ⟨v,he,H,g,C',⟨C1,C2,h1,h2,h3,h4⟩,h5⟩=>by
  have hs:=oo (u:=u) (C:=C1) g.sub;have hle:=Gd (u:=u) fun k hk=>(h5 k ((h3 k).2 (.inl hk))).2.2;refine⟨v,he,joinH H u C1,⟨g.keep,hs,fun k x hx=>hle _ _ (g.le _ _ hx),fun k hk hn=>(l6 fun hc=>?_).trans (g.fresh k hk hn)⟩,hl _ _ _ _ h1,C2,r.st h2 hle hs (On.refl u) (fun _ _=>rfl),fun k hk=>⟨(h5 k ((h3 k).2 (.inr hk))).1,(h5 k ((h3 k).2 (.inr hk))).2.1,(l6 fun hc=>h4 k hc hk).trans (h5 k ((h3 k).2 (.inr hk))).2.2⟩⟩;rcases(h5 k ((h3 k).2 (.inl hc))).1 with h6 | h6
  ·exact hn h6
  ·omega
def RetY.ex{f:FuncId}{args:List Value}{X:Type}{r:X->GR}{φ:X->Heap->Prop}{hφ:eg φ}{ψ:Value->Heap->Prop}(hr:(GEx r φ hφ).P B w C)(h:∀ x,φ x B->(r x).P B w C->RetY P f args w B C (r x) ψ):RetY P f args w B C (GEx r φ hφ) ψ:=by
 obtain⟨x,h1,h2⟩:=hr;exact RetL.mono (h x h1 h2) fun v H u hg ⟨h3,C',h4,h5⟩=>⟨h3,C',⟨x,hφ _ _ _ h1 hg.le,h4⟩,h5⟩
end Go.V
end
