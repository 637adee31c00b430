/- Texts, part 4. -/
import Derived.Test.YtooecmiihjampaaGreatTopBytesM3
import Derived.WalkSmall
import Derived.RecoverIn
import Derived.Sort.LotD5
set_option linter.unusedVariables false
set_option linter.unusedSimpArgs false
set_option maxRecDepth 20000
set_option maxHeartbeats 8000000
set_option linter.defProp false
open Go.Proofs Go.RowKit
section
variable{a pv sv v:Go.Value}{b fr i j k lim n rb s sb:Nat}{w:Go.World}{B B0 H:Go.V.Heap}{c:Go.V.L8.CH}{f:Go.V.L3.FT}{p:Int->Bool}{d:Array Int}{e fr0:Int}{g:Option (Nat×Bool)}{t x:Go.V.L2.U}{fu r:Bool}{φ:Go.Value->Go.V.Heap->Prop}{l m zte:List Go.V.L2.U}{κ:Go.V.Kap}{args cap caps fst rest:List Go.Value}{C:Nat->Prop}{ty:Go.TypeId}{P:Go.Program}{St:Go.V.Kap->Go.Act->Go.World->Prop}{ops:Array Go.Oper}{F:Go.V.Fr}{O:Go.V.Boxes}{ztg:Go.Exit->Go.Act->Go.World->Prop}{pos:String}{aft:Array Go.Edge}{r':Go.V.GR}{R:List (Option (List Go.V.L2.U))}{bs:List Nat}{A Y:Prop}
namespace Go.V.L6
open Go.V.L2 Go.V.L3
def _root_.ZeA(t:Wr Y->A:=by intro h;refine z71 L Z (fun u H hH hle=>UT.len_m hH (⟨_,rfl,ht.le hle⟩) Z) ?_;exact h.1)(h:Y):A:=t ⟨h⟩
def _root_.ZeR(t:Wr Y->A:=by intro h;refine z7 (yu (cs:=[_,_]) Z Z zou Z Z) Z ?_;exact h.1)(h:Y):A:=t ⟨h⟩
def _root_.ZbI(t:Wr Y->A:=by exact fun h=>(Zbj∘Zc3) h.1)(h:Y):A:=t ⟨h⟩
abbrev fvC:Value:=.func (.func 74) #[] #[]
abbrev fvS:Value:=.func (.func 106) #[] #[]
abbrev ou:TypeId:=37
abbrev chv(x:U)(d:Bool):Value:=.agg #[.string x.1.1.1,.string x.1.1.2,.string x.1.2,.string x.2.1.1,.string x.2.1.2,.string x.2.2,.bool d]
attribute [local irreducible] V N X VO Par StepOK Has Ret RetL RetO Src
def zch{a b:U}(hB:zth B w):Ret zti 106 [uv a,uv b] w B (fun v _=>v=.int .i64 (ik a b)):=by
 refine yn Tryz.func106 Z Tryz.ntmps106 (np Z) hB ((Zaj∘Zd∘ZbV∘Zbc∘Zdo∘Zbc∘Zdo) ?_);refine z81 L Z (fun u H hH _=>cmpU_ret hH) ?_;refine(Zbc∘Zdo∘Zbc∘Zdo) ?_;refine z81 L Z (fun u H hH _=>Hy hH) ?_;refine Zd4 (h:=?_);refine z8 (q0 L Z Z (zm Z) Z Z Z (fun u H hH _ _ v hv=>G1 hH hv)) Z (ZaB (h:=?_));exact yj2 L [.tmp 4]
def zee:UT.Cmp 74 ku:=⟨rfl,fun _ _ _ _ hH=>ju hH⟩
def zlq:UT.Cmp 106 ik:=⟨rfl,fun _ _ _ _ hH=>zch hH⟩
def chT(c:U->U->Int)(x:U)(d:Bool)(t:Tr U Unit):Tr U Unit:=if d=true then (if (Tr.drop c x t).2=true then (Tr.drop c x t).1 else t) else Tr.put c x () t
def Fy{cf:Nat}{c:U->U->Int}(hc:UT.Cmp cf c){f:Value}{p:Option Addr}{t:Tr U Unit}(hf:f=.func (.func cf) #[] #[]\/(f=.nilFunc/\t=.nil))(x:U)(d:Bool)(hB:zth B w)(ht:UT.TA t (.pointer p) B)(hs:t.size+1<1099511627776):
  Ret zti 105 [.agg #[f,.pointer p],chv x d,.func (.func cf) #[] #[]] w B (UT.MF cf (chT c x d t)):=by
 by_cases h0:t.size=0
 ·have hn:t=.nil:=by
   cases t with
   | nil=>rfl
   | node k y l r=>simp only[Tr.size] at h0;omega
  subst hn;have hz:UT.TA .nil (.pointer none) B:=rfl;refine yn Tryz.func105 Z Tryz.ntmps105 (np Z) hB ?_;unfold chT;cases d
  ·refine Zbu (h:=?_);refine P6 3 rfl fun b hb=>?_;refine(Zdb∘ZbP∘ZE∘Zz∘ZcX) ?_;refine z71 L rfl (fun u H hH hle=>UT.len_m hH (⟨_,rfl,ht.le hle⟩) h0) ?_;refine(ZW∘Zw∘Zy) ?_;refine z71 L rfl (fun u H hH _=>UT.new_ret _ hH) ?_;refine(Zz∘Zdg∘Zan∘ZK∘Zq∘Zm∘Zt∘Zz∘ZcX∘ZbI) ?_;refine z7 (yu (cs:=[]) rfl rfl zkp rfl rfl) rfl (z7 (xg (φ:=UT.MF cf (Tr.put c x () .nil)) L rfl rfl (zm rfl) rfl rfl rfl UT.MA.mono (fun u H hH hle _=>UT.mput_m hc x () hH (⟨_,rfl,hz.le hle⟩) hs)) rfl (vk 27 rfl ?_));rintro _ H27 hs27 ⟨q27,rfl,hp27⟩;refine(ZeR∘Za2) ?_;refine yj L (rs:=[.cell 6 35]) Z (fun _ _ h=>h) hs27 fun u H hH hle=>?_;exact⟨_,y9 Z,rfl,q27,rfl,hp27.le hle⟩
  ·refine Zbu (h:=?_);refine P6 3 rfl fun b hb=>?_;refine(Zdb∘ZbP∘ZE∘Zz∘ZcX) ?_;refine z71 L rfl (fun u H hH hle=>UT.len_m hH (⟨_,rfl,ht.le hle⟩) h0) ?_;refine(ZW∘Zw∘Zy) ?_;refine z71 L rfl (fun u H hH _=>UT.new_ret _ hH) ?_;refine(Zz∘Zdg∘Zan∘ZK∘Zq∘ZD∘Z2∘Zz∘ZcX∘ZbI) ?_;refine z7 (xg (φ:=UT.MF cf (if (Tr.drop c x .nil).2=true then (Tr.drop c x .nil).1 else .nil)) L rfl rfl (zm rfl) rfl rfl rfl UT.MA.mono (fun u H hH hle _=>UT.mdrop_m hc x hH (⟨_,rfl,hz.le hle⟩) T)) rfl (vk 20 rfl ?_);rintro _ H20 hs20 ⟨q20,rfl,hp20⟩;refine(ZeR∘Za2) ?_;refine yj L (rs:=[.cell 6 35]) Z (fun _ _ h=>h) hs20 fun u H hH hle=>?_;exact⟨_,y9 Z,rfl,q20,rfl,hp20.le hle⟩
 ·obtain rfl:f=.func (.func cf) #[] #[]:=by
   rcases hf with h | ⟨_,h⟩
   ·exact h
   ·subst h;exact ni rfl h0
  refine yn Tryz.func105 Z Tryz.ntmps105 (np Z) hB ?_;unfold chT;cases d
  ·refine Zbu (h:=?_);refine P6 3 rfl fun b hb=>?_;refine(Zdb∘ZbP∘ZE∘Zz∘ZcX∘ZeA∘Zx∘Z1∘ZK∘Zq∘Zm∘Zt∘Zz∘ZcX∘ZbI) ?_;refine z7 (yu (cs:=[]) rfl rfl zkp rfl rfl) rfl (z7 (xg (φ:=UT.MF cf (Tr.put c x () t)) L rfl rfl (zm rfl) rfl rfl rfl UT.MA.mono (fun u H hH hle _=>UT.mput_m hc x () hH (⟨_,rfl,ht.le hle⟩) hs)) rfl (vk 27 rfl ?_));rintro _ H27 hs27 ⟨q27,rfl,hp27⟩;refine(ZeR∘Za2) ?_;refine yj L (rs:=[.cell 6 35]) Z (fun _ _ h=>h) hs27 fun u H hH hle=>?_;exact⟨_,y9 Z,rfl,q27,rfl,hp27.le hle⟩
  ·refine Zbu (h:=?_);refine P6 3 rfl fun b hb=>?_;refine(Zdb∘ZbP∘ZE∘Zz∘ZcX∘ZeA∘Zx∘Z1∘ZK∘Zq∘ZD∘Z2∘Zz∘ZcX∘ZbI) ?_;refine z7 (xg (φ:=UT.MF cf (if (Tr.drop c x t).2=true then (Tr.drop c x t).1 else t)) L rfl rfl (zm rfl) rfl rfl rfl UT.MA.mono (fun u H hH hle _=>UT.mdrop_m hc x hH (⟨_,rfl,ht.le hle⟩) T)) rfl (vk 20 rfl ?_);rintro _ H20 hs20 ⟨q20,rfl,hp20⟩;refine(ZeR∘Za2) ?_;refine yj L (rs:=[.cell 6 35]) Z (fun _ _ h=>h) hs20 fun u H hH hle=>?_;exact⟨_,y9 Z,rfl,q20,rfl,hp20.le hle⟩
end Go.V.L6
namespace Go.V.L3
open Go.V Go.V.L2
def _root_.ZfG(t:Wr Y->A:=by intro h;refine z7 (Ts L _ Z Z Z Z zno Z Z (by first | omega | decide)) Z ?_;exact h.1)(h:Y):A:=t ⟨h⟩
def _root_.ZcT(t:Wr Y->A:=by intro h;refine z7 (zw L (vs:=[_,_,_,_,_,_,_]) (qu Z) Z Z Z Z ⟨_,rfl⟩) Z ?_;exact h.1)(h:Y):A:=t ⟨h⟩
def _root_.Zds(t:Wr Y->A:=by intro h;refine z71 L Z (fun u H hH _=>check_ret _ T hH) ?_;exact h.1)(h:Y):A:=t ⟨h⟩
def _root_.ZaG(t:Wr Y->A:=by exact fun h=>(ZfG∘ZbR) h.1)(h:Y):A:=t ⟨h⟩
def _root_.Zfr(t:Wr Y->A:=by intro h;refine Zq (h:=?_);refine z7 (yu (cs:=[_,_]) Z Z zna Z Z) Z ?_;exact h.1)(h:Y):A:=t ⟨h⟩
def _root_.Zct(t:Wr Y->A:=by exact fun h=>(ZaG∘Zf7) h.1)(h:Y):A:=t ⟨h⟩
abbrev fv(f:FT):Value:=.agg #[.string f.1.1.1,.string f.1.1.2,.string f.1.2,.string f.2.1.1.1,.string f.2.1.1.2,.string f.2.1.2,.bool f.2.2]
abbrev tyF:TypeId:=85
abbrev fdv(f:FT)(t:U):Value:=.agg #[.string f.1.1.1,.string t.1.1.1,.string f.1.1.2,.string t.1.1.2,.string f.1.2,.string t.1.2]
def FZ(f:FT):Prop:=(f.1.1.1.size<=1099511627776/\f.1.1.2.size<=1099511627776/\f.1.2.size<=1099511627776)/\f.2.1.1.1.size<=1099511627776/\f.2.1.1.2.size<=1099511627776/\f.2.1.2.size<=1099511627776
instance (f:FT):Decidable (FZ f):=inferInstanceAs (Decidable (_/\_))
def FM(f:FT):Prop:=(f.1.1.1.size<=9223372036854775807/\f.1.1.2.size<=9223372036854775807/\f.1.2.size<=9223372036854775807)/\f.2.1.1.1.size<=9223372036854775807/\f.2.1.1.2.size<=9223372036854775807/\f.2.1.2.size<=9223372036854775807
attribute [local irreducible] V N X VO Par StepOK Has Ret RetL RetO RetT Src
def oc{a b c d e g a' b' c' d' e' g':ByteArray}{ex:Bool}(hB:zth B w):
  Ret zti 132 [.agg #[.string a,.string b,.string c,.string d,.string e,.string g,.bool ex],.agg #[.string a',.string b',.string c',.string d',.string e',.string g']] w B (fun v _=>v=.agg #[.string a,.string a',.string b,.string b',.string c,.string c']):=by
 refine yn Tryz.func132 Z Tryz.ntmps132 (np Z) hB ((Zaj∘Zca∘ZE∘Zq∘Zbj∘Zbj∘Zfr∘Zq∘Zbj∘Zbj∘Zfr∘Zq∘Zbj∘Zfr) ?_);refine z7 (yu (cs:=[_,_,_,_,_,_]) Z Z zm9 Z Z) Z (Za2 (h:=?_));refine yj1 L [.cell 4 216] fun u H hH hle=>?_;refine ZcM (h:=?_);rfl
--printed by mkfilw.py
def gl(hr:kr f t=r)(hB:zth B w):Ret zti 79 [fv f,uv t] w B (fun v _=>v=.bool r):=by
 subst hr;refine yn Tryz.func79 Z Tryz.ntmps79 (np Z) hB ((Zaj∘ZG∘ZcT∘Zc3) ?_);refine z71 L Z (fun u H hH _=>oc hH) ?_;refine ZaW (h:=?_)
 refine xm (fun k:Nat=>[(2,.sat (At (fcs f) tyF 0)),(3,.sat (At (ucs t) tyU 0)),(9,.is (fdv f t)),(10,.is (.int .i64 k))])
  (fun k=>k<=3/\(0<k->tkF f.1.1.1 t.1.1.1=true)/\(1<k->tkF f.1.1.2 t.1.1.2=true)/\(2<k->tkF f.1.2 t.1.2=true)) (fun k=>3-k) 0 ⟨mc _,fun h=>T,fun h=>T,fun h=>T⟩ ⟨rfl,rfl,rfl,rfl,nm⟩ ?_
 rintro k ⟨hk,i0,i1,i2⟩;rcases k with _ | _ | _ | _ | k
 ·refine(Ze∘Z9∘Z6∘ZK) ?_;refine z7 (wn (ys:=[_,_]) L _ Z Z Z Z Be Z Z (by first | omega | decide) Z) Z ?_;refine Zah (h:=?_);refine lh 6 rfl fun b6 hb6=>?_;by_cases h1:f.1.1.1=⟨#[]⟩
  ·have h1':¬ f.1.1.1≠⟨#[]⟩:=fun h=>h h1;have ht:tkF f.1.1.1 t.1.1.1=true:=by unfold tkF;rw[decide_eq_true h1];rfl
   refine(Z2∘ZaG∘Zdd∘Zaz∘ZaF∘Zch) ?_;refine vp (O':=[]) (zpe _) ?_;refine(Zs∘ZX) ?_;exact ym (x:=0) 1 ⟨by omega,fun _=>ht,fun h=>T,fun h=>T⟩ E ⟨Z,Z,Z,Z,nm⟩
  ·have h1':f.1.1.1≠⟨#[]⟩:=h1;by_cases h2:f.1.1.1=t.1.1.1
   ·have h2':¬ f.1.1.1≠t.1.1.1:=fun h=>h h2;have ht:tkF f.1.1.1 t.1.1.1=true:=by unfold tkF;rw[decide_eq_true h2];simp
    refine(Z2∘Zct∘Za∘ZaG∘ZaG∘Zdd∘ZbK) ?_;refine vp (O':=[]) (zpe _) ?_;refine(Zs∘ZX) ?_;exact ym (x:=0) 1 ⟨by omega,fun _=>ht,fun h=>T,fun h=>T⟩ E ⟨Z,Z,Z,Z,nm⟩
   ·have h2':f.1.1.1≠t.1.1.1:=h2
    have ht:kr f t=false:=by
     have:tkF f.1.1.1 t.1.1.1=false:=by unfold tkF;rw[decide_eq_false h1,decide_eq_false h2];rfl
     unfold kr;rw[this];simp
    rw[ht];refine(Z2∘Zct∘Za∘ZaG∘Zct∘Zbb∘Zt∘Zc) ?_;exact yj2 L [.tmp 4]
 ·refine(Ze∘Z9∘Z6∘ZK) ?_;refine z7 (wn (ys:=[_,_]) L _ Z Z Z Z Be Z Z (by first | omega | decide) Z) Z ?_;refine Zah (h:=?_);refine lh 6 rfl fun b6 hb6=>?_;by_cases h1:f.1.1.2=⟨#[]⟩
  ·have h1':¬ f.1.1.2≠⟨#[]⟩:=fun h=>h h1;have ht:tkF f.1.1.2 t.1.1.2=true:=by unfold tkF;rw[decide_eq_true h1];rfl
   refine(Z2∘ZaG∘Zdd∘Zaz∘ZaF∘Zch) ?_;refine vp (O':=[]) (zpe _) ?_;refine(Zs∘ZX) ?_;exact ym (x:=1) 2 ⟨by omega,fun _=>i0 T,fun _=>ht,fun h=>T⟩ E ⟨Z,Z,Z,Z,nm⟩
  ·have h1':f.1.1.2≠⟨#[]⟩:=h1;by_cases h2:f.1.1.2=t.1.1.2
   ·have h2':¬ f.1.1.2≠t.1.1.2:=fun h=>h h2;have ht:tkF f.1.1.2 t.1.1.2=true:=by unfold tkF;rw[decide_eq_true h2];simp
    refine(Z2∘Zct∘Za∘ZaG∘ZaG∘Zdd∘ZbK) ?_;refine vp (O':=[]) (zpe _) ?_;refine(Zs∘ZX) ?_;exact ym (x:=1) 2 ⟨by omega,fun _=>i0 T,fun _=>ht,fun h=>T⟩ E ⟨Z,Z,Z,Z,nm⟩
   ·have h2':f.1.1.2≠t.1.1.2:=h2
    have ht:kr f t=false:=by
     have:tkF f.1.1.2 t.1.1.2=false:=by unfold tkF;rw[decide_eq_false h1,decide_eq_false h2];rfl
     unfold kr;rw[this];simp
    rw[ht];refine(Z2∘Zct∘Za∘ZaG∘Zct∘Zbb∘Zt∘Zc) ?_;exact yj2 L [.tmp 4]
 ·refine(Ze∘Z9∘Z6∘ZK) ?_;refine z7 (wn (ys:=[_,_]) L _ Z Z Z Z Be Z Z (by first | omega | decide) Z) Z ?_;refine Zah (h:=?_);refine lh 6 rfl fun b6 hb6=>?_;by_cases h1:f.1.2=⟨#[]⟩
  ·have h1':¬ f.1.2≠⟨#[]⟩:=fun h=>h h1;have ht:tkF f.1.2 t.1.2=true:=by unfold tkF;rw[decide_eq_true h1];rfl
   refine(Z2∘ZaG∘Zdd∘Zaz∘ZaF∘Zch) ?_;refine vp (O':=[]) (zpe _) ?_;refine(Zs∘ZX) ?_;exact ym (x:=2) 3 ⟨by omega,fun _=>i0 T,fun _=>i1 T,fun _=>ht⟩ E ⟨Z,Z,Z,Z,nm⟩
  ·have h1':f.1.2≠⟨#[]⟩:=h1;by_cases h2:f.1.2=t.1.2
   ·have h2':¬ f.1.2≠t.1.2:=fun h=>h h2;have ht:tkF f.1.2 t.1.2=true:=by unfold tkF;rw[decide_eq_true h2];simp
    refine(Z2∘Zct∘Za∘ZaG∘ZaG∘Zdd∘ZbK) ?_;refine vp (O':=[]) (zpe _) ?_;refine(Zs∘ZX) ?_;exact ym (x:=2) 3 ⟨by omega,fun _=>i0 T,fun _=>i1 T,fun _=>ht⟩ E ⟨Z,Z,Z,Z,nm⟩
   ·have h2':f.1.2≠t.1.2:=h2
    have ht:kr f t=false:=by
     have:tkF f.1.2 t.1.2=false:=by unfold tkF;rw[decide_eq_false h1,decide_eq_false h2];rfl
     unfold kr;rw[this];simp
    rw[ht];refine(Z2∘Zct∘Za∘ZaG∘Zct∘Zbb∘Zt∘Zc) ?_;exact yj2 L [.tmp 4]
 ·have e1:=i0 T;have e2:=i1 T;have e3:=i2 T;have ht:kr f t=(!f.2.2 || decide (f.2.1=t.2)):=by unfold kr;rw[e1,e2,e3];rfl
  rw[ht];cases hx:f.2.2
  ·refine(Ze∘Z9∘Zav∘ZC∘Zq) ?_;rw[hx];refine(Zr∘Zaz∘ZaF∘Zc) ?_;exact yj2 L [.tmp 4]
  ·have hq:=eq3 (g:=f.2.1) (h:=t.2) rfl;refine(Ze∘Z9∘Zav∘ZC∘Zq) ?_;rw[hx];refine(Zr∘Za∘ZbE∘ZbE) ?_;refine z7 (Dg Z Z Z Z zmk M Z) Z ((Zh∘Zc) ?_);exact yj2 L [.tmp 4]
 ·omega
def Ap{x:ByteArray}(h:x=⟨#[]⟩):cu x=false:=by unfold cu;rw[decide_eq_true h];rfl
def F2{x:ByteArray}(h:chk x=0):cu x=false:=by unfold cu;rw[decide_eq_true h];simp
def Ao{x:ByteArray}(h:¬ x=⟨#[]⟩)(h2:¬ chk x=0):cu x=true:=by unfold cu;rw[decide_eq_false h,decide_eq_false h2];rfl
def Ft(hz:FM f){r:Int}(hr:fE f=r)(hB:zth B w):Ret zti 75 [fv f] w B (fun v _=>v=.int .i64 r):=by
 subst hr;obtain⟨f1,s1,ex⟩:=f;obtain⟨⟨z1,z2,z3⟩,z4,z5,z6⟩:=hz;dsimp only at z1 z2 z3 z4 z5 z6;refine yn Tryz.func75 Z Tryz.ntmps75 (np Z) hB ?_;by_cases hx:ex=false/\¬ s1=n3
 ·obtain⟨rfl,hx2⟩:=hx;have hq:=eq3 (ng hx2);have he:fE (f1,s1,false)=5:=na ⟨rfl,hx2⟩;rw[he];refine(Zu∘ZG∘Zq∘Zr∘Za∘ZbE∘ZdE) ?_;refine z7 (Ac Z Z Z Z zmk M Z) Z ((Zbb∘Z9∘Zc) ?_);exact yj2 L [.tmp 2]
 ·have he:fE (f1,s1,ex)=if (cu f1.1.1 || cu f1.1.2 || cu f1.2)=true then 6 else if ex=true then b9 s1.1.1 s1.1.2 s1.2 else 0:=nc hx
  rw[he];cases ex
  ·have hs:s1=n3:=Classical.not_not.1 fun h=>hx ⟨rfl,h⟩;have hq:=eq3 (nf hs);refine(Zu∘ZG∘Zq∘Zr∘Za∘ZbE∘ZdE) ?_;refine z7 (Ac Z Z Z Z zmk M Z) Z ((Zh∘Z1∘ZK∘ZcT∘Zcm) ?_);refine z71 L Z (fun u H hH _=>oc hH) ?_;refine ZaW (h:=?_)
   refine xm (fun k:Nat=>[(1,.sat (At [.string f1.1.1,.string f1.1.2,.string f1.2,.string s1.1.1,.string s1.1.2,.string s1.2,.bool false] tyF 0)),(16,.is (.agg #[.string f1.1.1,.string ⟨#[]⟩,.string f1.1.2,.string ⟨#[]⟩,.string f1.2,.string ⟨#[]⟩])),(17,.is (.int .i64 k))])
    (fun k=>k<=3/\(0<k->cu f1.1.1=false)/\(1<k->cu f1.1.2=false)/\(2<k->cu f1.2=false)) (fun k=>3-k) 0 ⟨mc _,fun h=>T,fun h=>T,fun h=>T⟩ ⟨rfl,rfl,rfl,nm⟩ ?_
   rintro k ⟨hk,i0,i1,i2⟩;rcases k with _ | _ | _ | _ | k
   ·refine(Zci∘Zt) ?_;refine z7 (wn (ys:=[_,_]) L _ Z Z Z Z Be Z Z (by first | omega | decide) Z) Z ?_;refine Zah (h:=?_);refine lh 4 rfl fun b4 hb4=>?_;by_cases h1:f1.1.1=⟨#[]⟩
    ·have h1':¬ f1.1.1≠⟨#[]⟩:=fun h=>h h1;have ht:=Ap h1;refine(Zs∘ZaG∘Zdd∘Zaz∘ZbK) ?_;refine vp (O':=[]) (zpe _) ?_;refine(Zv∘ZX) ?_;exact ym (x:=0) 1 ⟨by omega,fun _=>ht,fun h=>T,fun h=>T⟩ E ⟨Z,Z,Z,nm⟩
    ·have h1':f1.1.1≠⟨#[]⟩:=h1;by_cases h2:chk f1.1.1=0
     ·have ht:=F2 h2;refine(Zs∘Zct∘Za∘ZaG∘Zds∘Zaq∘ZbK) ?_;refine vp (O':=[]) (zpe _) ?_;refine(Zv∘ZX) ?_;exact ym (x:=0) 1 ⟨by omega,fun _=>ht,fun h=>T,fun h=>T⟩ E ⟨Z,Z,Z,nm⟩
     ·have ht:(cu f1.1.1 || cu f1.1.2 || cu f1.2)=true:=by rw[Ao h1 h2];simp
      rw[na ht];refine(Zs∘Zct∘Za∘ZaG∘Zds∘ZcN∘Zbb∘ZC∘Zc) ?_;exact yj2 L [.tmp 2]
   ·refine(Zci∘Zt) ?_;refine z7 (wn (ys:=[_,_]) L _ Z Z Z Z Be Z Z (by first | omega | decide) Z) Z ?_;refine Zah (h:=?_);refine lh 4 rfl fun b4 hb4=>?_;by_cases h1:f1.1.2=⟨#[]⟩
    ·have h1':¬ f1.1.2≠⟨#[]⟩:=fun h=>h h1;have ht:=Ap h1;refine(Zs∘ZaG∘Zdd∘Zaz∘ZbK) ?_;refine vp (O':=[]) (zpe _) ?_;refine(Zv∘ZX) ?_;exact ym (x:=1) 2 ⟨by omega,fun _=>i0 T,fun _=>ht,fun h=>T⟩ E ⟨Z,Z,Z,nm⟩
    ·have h1':f1.1.2≠⟨#[]⟩:=h1;by_cases h2:chk f1.1.2=0
     ·have ht:=F2 h2;refine(Zs∘Zct∘Za∘ZaG∘Zds∘Zaq∘ZbK) ?_;refine vp (O':=[]) (zpe _) ?_;refine(Zv∘ZX) ?_;exact ym (x:=1) 2 ⟨by omega,fun _=>i0 T,fun _=>ht,fun h=>T⟩ E ⟨Z,Z,Z,nm⟩
     ·have ht:(cu f1.1.1 || cu f1.1.2 || cu f1.2)=true:=by rw[Ao h1 h2];simp
      rw[na ht];refine(Zs∘Zct∘Za∘ZaG∘Zds∘ZcN∘Zbb∘ZC∘Zc) ?_;exact yj2 L [.tmp 2]
   ·refine(Zci∘Zt) ?_;refine z7 (wn (ys:=[_,_]) L _ Z Z Z Z Be Z Z (by first | omega | decide) Z) Z ?_;refine Zah (h:=?_);refine lh 4 rfl fun b4 hb4=>?_;by_cases h1:f1.2=⟨#[]⟩
    ·have h1':¬ f1.2≠⟨#[]⟩:=fun h=>h h1;have ht:=Ap h1;refine(Zs∘ZaG∘Zdd∘Zaz∘ZbK) ?_;refine vp (O':=[]) (zpe _) ?_;refine(Zv∘ZX) ?_;exact ym (x:=2) 3 ⟨by omega,fun _=>i0 T,fun _=>i1 T,fun _=>ht⟩ E ⟨Z,Z,Z,nm⟩
    ·have h1':f1.2≠⟨#[]⟩:=h1;by_cases h2:chk f1.2=0
     ·have ht:=F2 h2;refine(Zs∘Zct∘Za∘ZaG∘Zds∘Zaq∘ZbK) ?_;refine vp (O':=[]) (zpe _) ?_;refine(Zv∘ZX) ?_;exact ym (x:=2) 3 ⟨by omega,fun _=>i0 T,fun _=>i1 T,fun _=>ht⟩ E ⟨Z,Z,Z,nm⟩
     ·have ht:(cu f1.1.1 || cu f1.1.2 || cu f1.2)=true:=by rw[Ao h1 h2];simp
      rw[na ht];refine(Zs∘Zct∘Za∘ZaG∘Zds∘ZcN∘Zbb∘ZC∘Zc) ?_;exact yj2 L [.tmp 2]
   ·have ht:¬ (cu f1.1.1 || cu f1.1.2 || cu f1.2)=true:=by rw[i0 T,i1 T,i2 T];decide
    rw[nc ht,nc E];refine(ZcI∘Zav∘Ze∘ZM∘Zq∘Zm∘ZY∘Zc) ?_;exact yj2 L [.tmp 2]
   ·omega
  ·refine(Zu∘ZG∘Zq∘Zr∘Zaz∘Zh∘Z1∘ZK∘ZcT∘Zcm) ?_;refine z71 L Z (fun u H hH _=>oc hH) ?_;refine ZaW (h:=?_)
   refine xm (fun k:Nat=>[(1,.sat (At [.string f1.1.1,.string f1.1.2,.string f1.2,.string s1.1.1,.string s1.1.2,.string s1.2,.bool true] tyF 0)),(16,.is (.agg #[.string f1.1.1,.string ⟨#[]⟩,.string f1.1.2,.string ⟨#[]⟩,.string f1.2,.string ⟨#[]⟩])),(17,.is (.int .i64 k))])
    (fun k=>k<=3/\(0<k->cu f1.1.1=false)/\(1<k->cu f1.1.2=false)/\(2<k->cu f1.2=false)) (fun k=>3-k) 0 ⟨mc _,fun h=>T,fun h=>T,fun h=>T⟩ ⟨rfl,rfl,rfl,nm⟩ ?_
   rintro k ⟨hk,i0,i1,i2⟩;rcases k with _ | _ | _ | _ | k
   ·refine(Zci∘Zt) ?_;refine z7 (wn (ys:=[_,_]) L _ Z Z Z Z Be Z Z (by first | omega | decide) Z) Z ?_;refine Zah (h:=?_);refine lh 4 rfl fun b4 hb4=>?_;by_cases h1:f1.1.1=⟨#[]⟩
    ·have h1':¬ f1.1.1≠⟨#[]⟩:=fun h=>h h1;have ht:=Ap h1;refine(Zs∘ZaG∘Zdd∘Zaz∘ZbK) ?_;refine vp (O':=[]) (zpe _) ?_;refine(Zv∘ZX) ?_;exact ym (x:=0) 1 ⟨by omega,fun _=>ht,fun h=>T,fun h=>T⟩ E ⟨Z,Z,Z,nm⟩
    ·have h1':f1.1.1≠⟨#[]⟩:=h1;by_cases h2:chk f1.1.1=0
     ·have ht:=F2 h2;refine(Zs∘Zct∘Za∘ZaG∘Zds∘Zaq∘ZbK) ?_;refine vp (O':=[]) (zpe _) ?_;refine(Zv∘ZX) ?_;exact ym (x:=0) 1 ⟨by omega,fun _=>ht,fun h=>T,fun h=>T⟩ E ⟨Z,Z,Z,nm⟩
     ·have ht:(cu f1.1.1 || cu f1.1.2 || cu f1.2)=true:=by rw[Ao h1 h2];simp
      rw[na ht];refine(Zs∘Zct∘Za∘ZaG∘Zds∘ZcN∘Zbb∘ZC∘Zc) ?_;exact yj2 L [.tmp 2]
   ·refine(Zci∘Zt) ?_;refine z7 (wn (ys:=[_,_]) L _ Z Z Z Z Be Z Z (by first | omega | decide) Z) Z ?_;refine Zah (h:=?_);refine lh 4 rfl fun b4 hb4=>?_;by_cases h1:f1.1.2=⟨#[]⟩
    ·have h1':¬ f1.1.2≠⟨#[]⟩:=fun h=>h h1;have ht:=Ap h1;refine(Zs∘ZaG∘Zdd∘Zaz∘ZbK) ?_;refine vp (O':=[]) (zpe _) ?_;refine(Zv∘ZX) ?_;exact ym (x:=1) 2 ⟨by omega,fun _=>i0 T,fun _=>ht,fun h=>T⟩ E ⟨Z,Z,Z,nm⟩
    ·have h1':f1.1.2≠⟨#[]⟩:=h1;by_cases h2:chk f1.1.2=0
     ·have ht:=F2 h2;refine(Zs∘Zct∘Za∘ZaG∘Zds∘Zaq∘ZbK) ?_;refine vp (O':=[]) (zpe _) ?_;refine(Zv∘ZX) ?_;exact ym (x:=1) 2 ⟨by omega,fun _=>i0 T,fun _=>ht,fun h=>T⟩ E ⟨Z,Z,Z,nm⟩
     ·have ht:(cu f1.1.1 || cu f1.1.2 || cu f1.2)=true:=by rw[Ao h1 h2];simp
      rw[na ht];refine(Zs∘Zct∘Za∘ZaG∘Zds∘ZcN∘Zbb∘ZC∘Zc) ?_;exact yj2 L [.tmp 2]
   ·refine(Zci∘Zt) ?_;refine z7 (wn (ys:=[_,_]) L _ Z Z Z Z Be Z Z (by first | omega | decide) Z) Z ?_;refine Zah (h:=?_);refine lh 4 rfl fun b4 hb4=>?_;by_cases h1:f1.2=⟨#[]⟩
    ·have h1':¬ f1.2≠⟨#[]⟩:=fun h=>h h1;have ht:=Ap h1;refine(Zs∘ZaG∘Zdd∘Zaz∘ZbK) ?_;refine vp (O':=[]) (zpe _) ?_;refine(Zv∘ZX) ?_;exact ym (x:=2) 3 ⟨by omega,fun _=>i0 T,fun _=>i1 T,fun _=>ht⟩ E ⟨Z,Z,Z,nm⟩
    ·have h1':f1.2≠⟨#[]⟩:=h1;by_cases h2:chk f1.2=0
     ·have ht:=F2 h2;refine(Zs∘Zct∘Za∘ZaG∘Zds∘Zaq∘ZbK) ?_;refine vp (O':=[]) (zpe _) ?_;refine(Zv∘ZX) ?_;exact ym (x:=2) 3 ⟨by omega,fun _=>i0 T,fun _=>i1 T,fun _=>ht⟩ E ⟨Z,Z,Z,nm⟩
     ·have ht:(cu f1.1.1 || cu f1.1.2 || cu f1.2)=true:=by rw[Ao h1 h2];simp
      rw[na ht];refine(Zs∘Zct∘Za∘ZaG∘Zds∘ZcN∘Zbb∘ZC∘Zc) ?_;exact yj2 L [.tmp 2]
   ·have ht:¬ (cu f1.1.1 || cu f1.1.2 || cu f1.2)=true:=by rw[i0 T,i1 T,i2 T];decide
    rw[nc ht,na rfl];refine(ZcI∘Zav∘Ze∘ZM∘Zq∘ZD∘ZI∘ZbE) ?_;refine z71 L Z (fun u H hH _=>Cj T T T hH) ?_;refine Zc (h:=?_);exact yj2 L [.tmp 2]
   ·omega
def Tg{r:Nat}(hr:w9 f=r)(hB:zth B w):Ret zti 76 [fv f] w B (fun v _=>v=.int .i64 r):=by
 subst hr;refine yn Tryz.func76 Z Tryz.ntmps76 (np Z) hB ((Zu∘Zag∘Zj∘Z9∘ZcT∘Zcm) ?_);refine z71 L Z (fun u H hH _=>oc hH) ?_;refine ZaW (h:=?_)
 refine xm (fun k:Nat=>[(1,.sat (At (fcs f) tyF 0)),(3,.is (.int .i64 k)),(8,.is (.agg #[.string f.1.1.1,.string ⟨#[]⟩,.string f.1.1.2,.string ⟨#[]⟩,.string f.1.2,.string ⟨#[]⟩])),(9,.is (.int .i64 k))])
  (fun k=>k<=3/\(0<k->¬ f.1.1.1=⟨#[]⟩)/\(1<k->¬ f.1.1.2=⟨#[]⟩)/\(2<k->¬ f.1.2=⟨#[]⟩)) (fun k=>3-k) 0 ⟨mc _,fun h=>T,fun h=>T,fun h=>T⟩ ⟨rfl,rfl,rfl,rfl,nm⟩ ?_
 rintro k ⟨hk,i0,i1,i2⟩;rcases k with _ | _ | _ | _ | k
 ·refine(Zbl∘Z6∘Z2) ?_;refine z7 (wn (ys:=[_,_]) L _ Z Z Z Z Be Z Z (by first | omega | decide) Z) Z ?_;refine Zbs (h:=?_);refine lh 5 rfl fun b5 hb5=>?_;by_cases h1:f.1.1.1=⟨#[]⟩
  ·have hp:w9 f=0:=by unfold w9;rw[if_pos h1]
   rw[hp];refine(Zt∘ZaG∘Ze2∘ZD∘ZQ∘Zc) ?_;exact yj2 L [.tmp 2]
  ·refine(Zt∘ZaG∘Ze1∘Zae∘Zbi∘Z8∘ZaC∘ZaE) ?_;refine vp (O':=[]) (zpe _) ?_;refine(Zv∘ZX) ?_;exact ym (x:=0) 1 ⟨by omega,fun _=>h1,fun h=>T,fun h=>T⟩ E ⟨Z,Z,Z,Z,nm⟩
 ·refine(Zbl∘Z6∘Z2) ?_;refine z7 (wn (ys:=[_,_]) L _ Z Z Z Z Be Z Z (by first | omega | decide) Z) Z ?_;refine Zbs (h:=?_);refine lh 5 rfl fun b5 hb5=>?_;by_cases h1:f.1.1.2=⟨#[]⟩
  ·have hp:w9 f=1:=by unfold w9;rw[if_neg (i0 T)];rw[if_pos h1]
   rw[hp];refine(Zt∘ZaG∘Ze2∘ZD∘ZQ∘Zc) ?_;exact yj2 L [.tmp 2]
  ·refine(Zt∘ZaG∘Ze1∘Zae∘Zbi∘Z8∘ZaC∘ZaE) ?_;refine vp (O':=[]) (zpe _) ?_;refine(Zv∘ZX) ?_;exact ym (x:=1) 2 ⟨by omega,fun _=>i0 T,fun _=>h1,fun h=>T⟩ E ⟨Z,Z,Z,Z,nm⟩
 ·refine(Zbl∘Z6∘Z2) ?_;refine z7 (wn (ys:=[_,_]) L _ Z Z Z Z Be Z Z (by first | omega | decide) Z) Z ?_;refine Zbs (h:=?_);refine lh 5 rfl fun b5 hb5=>?_;by_cases h1:f.1.2=⟨#[]⟩
  ·have hp:w9 f=2:=by unfold w9;rw[if_neg (i0 T)];rw[if_neg (i1 T)];rw[if_pos h1]
   rw[hp];refine(Zt∘ZaG∘Ze2∘ZD∘ZQ∘Zc) ?_;exact yj2 L [.tmp 2]
  ·refine(Zt∘ZaG∘Ze1∘Zae∘Zbi∘Z8∘ZaC∘ZaE) ?_;refine vp (O':=[]) (zpe _) ?_;refine(Zv∘ZX) ?_;exact ym (x:=2) 3 ⟨by omega,fun _=>i0 T,fun _=>i1 T,fun _=>h1⟩ E ⟨Z,Z,Z,Z,nm⟩
 ·cases hxx:f.2.2
  ·have hp:w9 f=3:=by unfold w9;rw[if_neg (i0 T),if_neg (i1 T),if_neg (i2 T),hxx];rfl
   rw[hp];refine(Zbl∘Zav∘Ze∘ZM∘Zq) ?_;rw[hxx];refine(Zm∘ZY∘Za∘Zc) ?_;exact yj2 L [.tmp 2]
  ·have hp:w9 f=4:=by unfold w9;rw[if_neg (i0 T),if_neg (i1 T),if_neg (i2 T),hxx];rfl
   rw[hp];refine(Zbl∘Zav∘Ze∘ZM∘Zq) ?_;rw[hxx];refine(Zw∘ZI∘Za∘ZaI∘Zd∘ZY∘Za∘Zc) ?_;exact yj2 L [.tmp 2]
 ·omega
end Go.V.L3
section
open Go.V
attribute [local irreducible] Has N Par Ret RetL Src StepOK V VO X
namespace Go.V.L3
open Go.V.L2
attribute [local irreducible] RetO RetT
def LE2.mk{tv:Value}(h:φ tv H):TupS [φ,fun v _=>v=a] (.tuple #[tv,a]) H:=
 ⟨[tv,a],rfl,rfl,fun i ψ x hi hx=>by
  rcases i with _ | _ | i
  ·simp at hi hx;subst hi hx;exact h
  ·simp at hi hx;subst hi hx;rfl
  ·simp at hi⟩
def LE2.mono{φ:Value->Heap->Prop}{a:Value}(h:Kn.mono (.sat φ)):Kn.mono (.sat (TupS [φ,fun v _=>v=a])):=TupS.mono fun ψ hψ=>by
 rcases ma.1 hψ with rfl | hψ
 ·exact h
 ·rw[m4] at hψ;subst hψ;exact fun _ _ _ h _=>h
end Go.V.L3
namespace Go.V.L6
open Go.V.L2 Go.V.L3
def _root_.Zby(t:Wr Y->A:=by intro h;refine z7 (qt L Z Z M Z) Z ?_;exact h.1)(h:Y):A:=t ⟨h⟩
def _root_.Zd2(t:Wr Y->A:=by intro h;refine z7 (zw L (vs:=[_,_,_,_]) (qu Z) Z Z Z Z ⟨_,rfl⟩) Z ?_;exact h.1)(h:Y):A:=t ⟨h⟩
def _root_.Zd7(t:Wr Y->A:=by intro h;refine z8 (zw L (vs:=[_,_,_,_]) (qu Z) Z Z Z Z ⟨_,rfl⟩) Z ?_;exact h.1)(h:Y):A:=t ⟨h⟩
def _root_.Zdt(t:Wr Y->A:=by intro h;refine z7 (yu (cs:=[_,_,_,_]) Z Z zm5 Z Z) Z ?_;exact h.1)(h:Y):A:=t ⟨h⟩
def _root_.ZeS(t:Wr Y->A:=by intro h;refine z8 (zw L (vs:=[_,_,_,_,_,_,_]) (qu Z) Z Z Z Z ⟨_,rfl⟩) Z ?_;exact h.1)(h:Y):A:=t ⟨h⟩
def _root_.ZeT(t:Wr Y->A:=by intro h;refine z8 (O5 Z Z Z Z bt4 Z) Z ?_;exact h.1)(h:Y):A:=t ⟨h⟩
def SetV(l:List U):Value->Heap->Prop:=fun v H=>∃ p q t u,TS l t u/\UT.TA t (.pointer p) H/\UT.TA u (.pointer q) H/\
 (v=.agg #[fvC,.pointer p,fvS,.pointer q]\/(l=[]/\p=none/\q=none/\v=.agg #[.nilFunc,.pointer p,.nilFunc,.pointer q]))
def SetV.mono:Kn.mono (.sat (SetV l)):=fun _ _ _ ⟨p,q,t,u,h1,h2,h3,h4⟩ hle=>⟨p,q,t,u,h1,h2.le hle,h3.le hle,h4⟩
def SetV.le{H':Heap}(h:SetV l v H)(hle:H.Le H'):SetV l v H':=SetV.mono _ _ _ h hle
def SetV.shape(h:SetV l v H):∃ f p k q,v=.agg #[f,.pointer p,k,.pointer q]/\(je (.agg #[f,.pointer p,k,.pointer q])).all u7=true:=by
 obtain⟨p,q,_,_,_,_,_,h | ⟨_,_,_,h⟩⟩:=h
 ·exact⟨_,_,_,_,h,rfl⟩
 ·exact⟨_,_,_,_,h,rfl⟩
abbrev nilSet:Value:=.agg #[.nilFunc,.pointer none,.nilFunc,.pointer none]
def SetV.nil{H:Heap}:SetV [] nilSet H:=⟨none,none,.nil,.nil,zj6,rfl,rfl,.inr ⟨rfl,rfl,rfl,rfl⟩⟩
attribute [local irreducible] RetO
def gn(hn:l.length=n){v:Value}(hB:zth B w)(hv:SetV l v B):Ret zti 10 [v] w B (fun v _=>v=.int .i64 n):=by
 subst hn;obtain⟨p,q,t,u,hT,ht,hu,rfl | ⟨rfl,rfl,rfl,rfl⟩⟩:=hv
 ·refine yn Tryz.func10 Z Tryz.ntmps10 (np Z) hB ((Zu∘Zag∘Zbj∘ZaX) ?_);refine z71 L Z (fun u H hH hle=>UT.len_m hH (⟨_,rfl,ht.le hle⟩) hT.size) ?_;refine Zc (h:=?_);exact yj2 L [.tmp 2]
 ·refine yn Tryz.func10 Z Tryz.ntmps10 (np Z) hB ((Zu∘Zag∘Zbj∘ZaX) ?_);refine z71 L Z (fun u H hH hle=>UT.len_m hH (⟨_,rfl,ht.le hle⟩) hT.size) ?_;refine Zc (h:=?_);exact yj2 L [.tmp 2]
def jf{b:Bool}(hb:decide (x∈l)=b){v:Value}(hB:zth B w)(hv:SetV l v B):Ret zti 19 [v,uv x] w B (fun v _=>v=.bool b):=by
 have hv0:=hv;obtain⟨p,q,t,u,hT,ht,hu,rfl | ⟨rfl,rfl,rfl,rfl⟩⟩:=hv
 ·have hg:=hT.get x;refine yn Tryz.func19 Z Tryz.ntmps19 (np Z) hB ?_;by_cases h0:l.length=0
  ·have hn:l=[]:=m7 h0;subst hn;have hb':b=false:=by rw[<-hb];simp
   subst hb';refine(Zaj∘ZG∘Zd2) ?_;refine z71 L Z (fun u H hH hle=>gn Z hH (hv0.le hle)) ?_;refine(ZW∘Zcj∘Zc) ?_;exact yj2 L [.tmp 4]
  ·cases b
   ·have hx:x∉l:=by simpa using hb
    rw[nc hx] at hg;refine(Zaj∘ZG∘Zd2) ?_;refine z71 L Z (fun u H hH hle=>gn Z hH (hv0.le hle)) ?_;refine(Zx∘Zm∘ZK∘Zbj∘ZaX∘Zc3) ?_;refine z71 L Z (fun u H hH hle=>UT.get_m zee x hH (⟨_,rfl,ht.le hle⟩) hg) ?_;refine(ZB∘Zaw∘Zd∘Z0∘Zc) ?_;exact yj2 L [.tmp 4]
   ·have hx:x∈l:=by simpa using hb
    rw[na hx] at hg;refine(Zaj∘ZG∘Zd2) ?_;refine z71 L Z (fun u H hH hle=>gn Z hH (hv0.le hle)) ?_;refine(Zx∘Zm∘ZK∘Zbj∘ZaX∘Zc3) ?_;refine z71 L Z (fun u H hH hle=>UT.get_m zee x hH (⟨_,rfl,ht.le hle⟩) hg) ?_;refine(ZB∘Zaw∘Zd∘Z0∘Zc) ?_;exact yj2 L [.tmp 4]
 ·have hb':b=false:=by rw[<-hb];simp
  subst hb';refine yn Tryz.func19 Z Tryz.ntmps19 (np Z) hB ((Zaj∘ZG∘Zd2) ?_);refine z71 L Z (fun u H hH hle=>gn Z hH (hv0.le hle)) ?_;refine z7 (yt Z Z Z Z Z) Z ((Zcj∘Zc) ?_);exact yj2 L [.tmp 4]
def scs(x:Value×Option Addr×Value×Option Addr):List Value:=[x.1,.pointer x.2.1,x.2.2.1,.pointer x.2.2.2]
abbrev SXp:={ x:Value×Option Addr×Value×Option Addr//(scs x).all u7=true }
abbrev Eh(l:List U)(x:SXp)(H:Heap):Prop:=SetV l (.agg (scs x.1).toArray) H
def jb(l:List U):oj (Eh l):=fun _ _ _ h hle=>SetV.le h hle
def Lh(v:Value)(H:Heap)(h:SetV l v H):∃ x:SXp,Eh l x H/\je v=scs x.1:=by
 obtain⟨f,p,k,q,rfl,hp⟩:=h.shape;exact⟨⟨(f,p,k,q),hp⟩,h,rfl⟩
abbrev znq(l:List U)(e:Int):Value->Heap->Prop:=TupS [SetV l,fun v _=>v=.int .i64 e]
def mf4{cf cg:Nat}{t u:Tr U Unit}{v1 v2:Value}(h1:UT.MF cf t v1 H)(h2:UT.MF cg u v2 H):∃ p q,v1=.agg #[.func (.func cf) #[] #[],.pointer p]/\v2=.agg #[.func (.func cg) #[] #[],.pointer q]/\UT.TA t (.pointer p) H/\UT.TA u (.pointer q) H:=by
 obtain⟨p,e1,h1⟩:=h1;obtain⟨q,e2,h2⟩:=h2;exact⟨p,q,e1,e2,h1,h2⟩
def zmw{t u:Tr U Unit}(h:TS l t u){d:Bool}(hx:decide (x∈l)=d)(hc:d=false->l.length<4096)(he:tE x=0):TS (wo l x d).1 (chT ku x d t) (chT ik x d u)/\(wo l x d).2=0:=by
 unfold wo chT;rw[na he];cases d
 ·have hx':x∉l:=by simpa using hx
  rw[nc E,nc hx',nc (by have:=hc rfl;omega),nc E,nc E];exact⟨h.put hx',rfl⟩
 ·have hx':x∈l:=by simpa using hx
  rw[na rfl,na rfl,na rfl];exact⟨h.drop hx',rfl⟩
def zby{l m:List U}{d:Bool}(hr:wo l x d=(m,e))(hl:l.length<=4096)(hz:TZ x)(hB:zth B w)(hv:SetV l v B):
  Ret zti 41 [v,chv x d] w B (znq m e):=by
 obtain⟨f1,p1,f2,q1,hsh,hpl⟩:=hv.shape;by_cases he:tE x=0
 ·obtain⟨hin,hin0⟩:∃ b,decide (x∈l)=b:=⟨_,rfl⟩
  by_cases hd:hin=d
  ·subst hd;by_cases hfull:hin=false/\l.length=4096
   ·obtain⟨rfl,hlen⟩:=hfull
    have hw:wo l x false=([],3):=by
     unfold wo;rw[na he,nc E,nc (by simpa using hin0),na T]
    rw[hw] at hr;cases hr;subst hsh;refine yn Tryz.func41 Z Tryz.ntmps41 (np Z) hB ((Zaj∘ZZ∘ZG∘ZbI) ?_);refine z71 L Z (fun u H hH _=>he ▸ ky hz hH) ?_;refine(Zbx∘Zaq∘Z1∘ZcJ∘Zd7∘Zbc∘ZaY) ?_;refine z81 L Z (fun u H hH hle=>jf hin0 hH (hv.le hle)) ?_;refine(Zbk∘ZeT∘ZaN∘Zaf∘Zbn∘Zq∘Zr∘Za∘Zd2) ?_;refine z71 L Z (fun u H hH hle=>gn hlen hH (hv.le hle)) ?_;refine(ZW∘Zbb∘ZC∘Zdt∘Zbf) ?_;refine yj1 L [.cell 4 37,.tmp 5] fun u H hH hle=>?_;exact⟨_,y9 Z,rfl,LE2.mk SetV.nil⟩
   ·have hc:hin=false->l.length<4096:=fun h=>by
     rcases m8 l.length 4096 with h' | h'
     ·exact h'
     ·exact ni ⟨h,by omega⟩ hfull
    obtain⟨p,q,t,u,hT,ht,hu,hv1⟩:=id hv;have hch:=zmw hT hin0 hc he;rw[hr] at hch;obtain⟨hT',rfl⟩:=hch;have hts:=hT.size;have hus:=hT.zu
    have hf1:p1=p/\q1=q/\(f1=fvC\/(f1=.nilFunc/\t=.nil))/\(f2=fvS\/(f2=.nilFunc/\u=.nil)):=by
     rcases hv1 with h | ⟨h0,rfl,rfl,h⟩
     ·rw[hsh] at h;cases h;exact⟨rfl,rfl,.inl rfl,.inl rfl⟩
     ·rw[hsh] at h;cases h;subst h0
      have key:∀ {s:Tr U Unit},s.size=0->s=.nil:=fun {s} hs=>by
       cases s with
       | nil=>rfl
       | node k y l r=>simp only[Tr.size] at hs;omega
      exact⟨rfl,rfl,.inr ⟨rfl,key hts⟩,.inr ⟨rfl,key hus⟩⟩
    obtain⟨rfl,rfl,hf1,hf2⟩:=hf1;subst hsh;have hchg1:=fun(u1:World) (H:Heap) (hH:zth H u1) (hle:B.Le H)=>Fy zee hf1 x hin hH (ht.le hle) T;have hchg2:=fun(u1:World) (H:Heap) (hH:zth H u1) (hle:B.Le H)=>Fy zlq hf2 x hin hH (hu.le hle) T;cases hin
    ·have hlen:=hc rfl;refine yn Tryz.func41 Z Tryz.ntmps41 (np Z) hB ((Zaj∘ZZ∘ZG∘ZbI) ?_);refine z71 L rfl (fun u H hH _=>he ▸ ky hz hH) ?_;refine(Zbx∘Zaq∘Z1∘ZcJ∘Zd7∘Zbc∘ZaY) ?_;refine z81 L rfl (fun u H hH hle=>jf hin0 hH (hv.le hle)) ?_;refine(Zbk∘ZeT∘ZaN∘Zaf∘Zbn∘Zq∘Zr∘Za∘Zd2) ?_;refine z71 L rfl (fun u H hH hle=>gn rfl hH (hv.le hle)) ?_;refine(Zx∘ZbX∘ZcH∘Zbc∘ZcP∘ZeS) ?_;refine z8 (xg (φ:=UT.MF 74 (chT ku x false t)) L rfl rfl (zm rfl) rfl rfl rfl UT.MA.mono (fun u H hH hle _=>hchg1 u H hH hle)) rfl ((Zbc∘ZcP∘ZeS) ?_);refine z8 (xg (φ:=UT.MF 106 (chT ik x false u)) L rfl rfl (zm rfl) rfl rfl rfl UT.MA.mono (fun u H hH hle _=>hchg2 u H hH hle)) rfl (z8 (Mf (ψ:=SetV m) rfl rfl zm5 SetV.mono (fun H _ v1 h1 v2 h2=>by obtain⟨p,q,rfl,rfl,k1,k2⟩:=mf4 h1 h2;exact⟨_,rfl,p,q,_,_,hT',k1,k2,.inl rfl⟩)) rfl ?_);refine z8 (c8 L (X:=SXp) (fun x=>scs x.1) (Eh m) (jb m) Lh (fun x=>⟨rfl,x.2⟩) rfl rfl rfl rfl rfl) rfl (ZaB (h:=?_));refine v9 4 rfl fun x4 H4 hs4 hx4=>?_;refine yj L (rs:=[.cell 4 37,.tmp 5]) Z (fun _ _ h=>h) hs4 fun u H hH hle=>?_;exact⟨_,y9 Z,rfl,LE2.mk (hx4.le hle)⟩
    ·refine yn Tryz.func41 Z Tryz.ntmps41 (np Z) hB ((Zaj∘ZZ∘ZG∘ZbI) ?_);refine z71 L rfl (fun u H hH _=>he ▸ ky hz hH) ?_;refine(Zbx∘Zaq∘Z1∘ZcJ∘Zd7∘Zbc∘ZaY) ?_;refine z81 L rfl (fun u H hH hle=>jf hin0 hH (hv.le hle)) ?_;refine(Zbk∘ZeT∘ZaN∘Zaf∘Zbn∘Zq∘Zr∘ZbU∘Zm∘ZcH∘Zbc∘ZcP∘ZeS) ?_;refine z8 (xg (φ:=UT.MF 74 (chT ku x true t)) L rfl rfl (zm rfl) rfl rfl rfl UT.MA.mono (fun u H hH hle _=>hchg1 u H hH hle)) rfl ((Zbc∘ZcP∘ZeS) ?_);refine z8 (xg (φ:=UT.MF 106 (chT ik x true u)) L rfl rfl (zm rfl) rfl rfl rfl UT.MA.mono (fun u H hH hle _=>hchg2 u H hH hle)) rfl (z8 (Mf (ψ:=SetV m) rfl rfl zm5 SetV.mono (fun H _ v1 h1 v2 h2=>by obtain⟨p,q,rfl,rfl,k1,k2⟩:=mf4 h1 h2;exact⟨_,rfl,p,q,_,_,hT',k1,k2,.inl rfl⟩)) rfl ?_);refine z8 (c8 L (X:=SXp) (fun x=>scs x.1) (Eh m) (jb m) Lh (fun x=>⟨rfl,x.2⟩) rfl rfl rfl rfl rfl) rfl (ZaB (h:=?_));refine v9 4 rfl fun x4 H4 hs4 hx4=>?_;refine yj L (rs:=[.cell 4 37,.tmp 5]) Z (fun _ _ h=>h) hs4 fun u H hH hle=>?_;exact⟨_,y9 Z,rfl,LE2.mk (hx4.le hle)⟩
  ·have hw:wo l x d=(l,0):=by
    unfold wo;rw[na he];cases d
    ·have:hin=true:=by cases hin;exact ni rfl hd;rfl
     subst this;rw[nc E,na (by simpa using hin0)]
    ·have:hin=false:=by cases hin;rfl;exact ni rfl hd
     subst this;rw[na rfl,Ul (by simpa using hin0)]
   rw[hw] at hr;cases hr;have hb:(hin == d)=false:=by cases hin<;>cases d<;>first | rfl | exact ni rfl hd
   subst hsh;refine yn Tryz.func41 Z Tryz.ntmps41 (np Z) hB ?_;have hb2:(!(hin == d))=true:=by rw[hb];rfl
   refine(Zaj∘ZZ∘ZG∘ZbI) ?_;refine z71 L Z (fun u H hH _=>he ▸ ky hz hH) ?_;refine(Zbx∘Zaq∘Z1∘ZcJ∘Zd7∘Zbc∘ZaY) ?_;refine z81 L Z (fun u H hH hle=>jf hin0 hH (hv.le hle)) ?_;refine Zbk (h:=?_);refine z8 (O5 Z Z Z Z bt4 hb2) Z ((ZbW∘Ze∘Zt∘Zd2∘Zby∘Zc) ?_);refine yj1 L [.cell 4 37,.tmp 5] fun u H hH hle=>?_;exact⟨_,y9 Z,rfl,LE2.mk (hv.le hle)⟩
 ·have hw:wo l x d=([],tE x):=nc he;rw[hw] at hr;cases hr;subst hsh;refine yn Tryz.func41 Z Tryz.ntmps41 (np Z) hB ((Zaj∘ZZ∘ZG∘ZbI) ?_);refine z71 L Z (fun u H hH _=>ky hz hH) ?_;refine(Zbx∘ZaO∘ZK∘Zdt∘Za∘Zbf) ?_;refine yj1 L [.cell 4 37,.tmp 5] fun u H hH hle=>?_;exact⟨_,y9 Z,rfl,LE2.mk SetV.nil⟩
end Go.V.L6
namespace Go.V.L2
def t6:∀ (l:List U),(l.flatMap ucs).length=l.length*6
 | []=>rfl
 | y::l=>by rw[zp0,nr,t6 l,Ge,nz];omega
def ei:∀ (l:List U),(l.flatMap ucs).all u7=true
 | []=>rfl
 | g::l=>by rw[zp0,zsi,ei l];rfl
def U7{x y:List U}(h:κ s=some (.own (SlR tyU 6 (x.length+y.length) (x.flatMap ucs++y.flatMap ucs)))):κ s=some (.own (SlR tyU 6 (x++y).length ((x++y).flatMap ucs))):=by
 rw[h,zpl,nr]
def Dx{p:U->Bool}{r:List U}(h:l[k]?=some t)(hr:r=(l.take k).filter p):(l.take (k+1)).filter p=if p t=true then r++[t] else r:=by
 rw[Az h,zp2,hr,zqt,List.filter_nil];split<;>simp
def V5{x y:List U}{fx fy:Bool}(hx:x.length<=100000)(hy:y.length<=100000)(zx:∀ t∈x,TZ t)(zy:∀ t∈y,TZ t){vx vy:Value}(hB:zth B w)(hvx:US x fx vx B)(hvy:US y fy vy B):
  Ret zti 110 [vx,vy,.bool true,.bool true,.bool true] w B (US (ox x y true true true) false):=by
 have lx:=t6 x;have ly:=t6 y;have px:=ei x;have py:=ei y;refine yn Tryz.func110 Z Tryz.ntmps110 (np Z) hB (k8 0 (US x fx) Z ns hvx (k8 1 (US y fy) Z ns hvy ((Z4∘Zd) ?_)));refine ui 11 tyU 6 rfl ((Z9∘Zk) ?_);refine z7 (Ab L Z Z Z (Na Z) Z zik lx px T T) Z (Zk (h:=?_));refine qe (w7 L Z Z Z (Na Z) Z zik ly py T T) (qe (yr (.inr Z) Z) (Zan (h:=?_)));refine uq 12 (U7 Z) ?_;have hal:(x++y).length<=200000:=by rw[nr];omega
 have hza:∀ t∈x++y,TZ t:=fun t ht=>(mh.1 ht).elim (zx t) (zy t);unfold ox;generalize hall:x++y=l at hal hza;refine(ZK∘ZaJ) ?_
 refine xm (fun s:Nat×List U=>[(0,.sat (US x fx)),(1,.sat (US y fy)),(2,.is (.bool true)),(3,.is (.bool true)),(4,.is (.bool true)),(11,.own (SlR tyU 6 s.2.length (s.2.flatMap ucs))),(12,.sat (US l false)),(13,.is (.int .i64 s.1))])
  (fun s=>s.1<=l.length/\s.2.length<=s.1/\s.2=(l.take s.1).filter (du x y true true true)) (fun s=>l.length-s.1) (0,[]) ⟨mc _,nu _,rfl⟩ ⟨rfl,rfl,rfl,rfl,rfl,rfl,rfl,rfl,nm⟩ ?_
 rintro⟨i,r⟩ ⟨hi,hrl,hr⟩;dsimp only at hi hrl hr |-;by_cases hlt:i<l.length
 ·obtain⟨t,ht⟩:=xk hlt;have hc:=f9 ht;have hf:=Dx ht hr;by_cases h1:t∈x
  ·have e1:(if t∈x then 1 else 0:Int)=1:=na h1;by_cases h2:t∈y
   ·have e2:(if t∈y then 1 else 0:Int)=1:=na h2;have hp:(du x y true true true) t=true:=by simp [du,h1,h2]
    rw[hp,na rfl] at hf;refine(Zf∘Z0∘Zg∘ZbF∘ZcK∘Zab∘ZaT) ?_;refine z8 (q0 L Z Z (zm Z) Z Z Z (fun u H hH _ _ v1 h3=>wu (l:=x) T e1 hH h3)) Z ((Zde∘Zab∘ZaT) ?_);refine z8 (q0 L Z Z (zm Z) Z Z Z (fun u H hH _ _ v1 h3=>wu (l:=y) T e2 hH h3)) Z ((Zde∘ZaM∘Zbo∘ZC∘Z3∘Zr∘Zh∘Za∘ZaF∘Zbt∘ZbC∘Zh∘Zh∘Zaz∘Zb0∘Zb0∘Zh∘Zw∘Zv) ?_);refine qe (yr (.inl Z) Z) ((Zcb∘Za1∘ZV∘Zcy) ?_);refine qe (yr (.inr Z) Z) ((Zax∘ZU∘ZaC) ?_);exact ym (x:=(i,r)) (i+1,r++[t]) ⟨hlt,by dsimp only;rw[List.length_append,List.length_singleton];omega,hf.symm⟩ G ⟨Z,Z,Z,Z,Z,ut Z,Z,Z,trivial⟩
   ·have e2:(if t∈y then 1 else 0:Int)=0:=nc h2;have hp:(du x y true true true) t=true:=by simp [du,h1,h2]
    rw[hp,na rfl] at hf;refine(Zf∘Z0∘Zg∘ZbF∘ZcK∘Zab∘ZaT) ?_;refine z8 (q0 L Z Z (zm Z) Z Z Z (fun u H hH _ _ v1 h3=>wu (l:=x) T e1 hH h3)) Z ((Zde∘Zab∘ZaT) ?_);refine z8 (q0 L Z Z (zm Z) Z Z Z (fun u H hH _ _ v1 h3=>wu (l:=y) T e2 hH h3)) Z ((Zc2∘ZaM∘Zbo∘ZC∘Z3∘Zr∘ZbC∘Zh∘Zaz∘Zb0∘ZaF∘Zaz∘Zb0∘Zb0∘Zh∘Zw∘Zv) ?_);refine qe (yr (.inl Z) Z) ((Zcb∘Za1∘ZV∘Zcy) ?_);refine qe (yr (.inr Z) Z) ((Zax∘ZU∘ZaC) ?_);exact ym (x:=(i,r)) (i+1,r++[t]) ⟨hlt,by dsimp only;rw[List.length_append,List.length_singleton];omega,hf.symm⟩ G ⟨Z,Z,Z,Z,Z,ut Z,Z,Z,trivial⟩
  ·have e1:(if t∈x then 1 else 0:Int)=0:=nc h1;by_cases h2:t∈y
   ·have e2:(if t∈y then 1 else 0:Int)=1:=na h2;have hp:(du x y true true true) t=true:=by simp [du,h1,h2]
    rw[hp,na rfl] at hf;refine(Zf∘Z0∘Zg∘ZbF∘ZcK∘Zab∘ZaT) ?_;refine z8 (q0 L Z Z (zm Z) Z Z Z (fun u H hH _ _ v1 h3=>wu (l:=x) T e1 hH h3)) Z ((Zc2∘Zab∘ZaT) ?_);refine z8 (q0 L Z Z (zm Z) Z Z Z (fun u H hH _ _ v1 h3=>wu (l:=y) T e2 hH h3)) Z ((Zde∘ZaM∘Zbo∘Zco∘Zb0∘Zh∘Za∘ZaF∘Z3∘ZaF∘Za∘ZaF∘ZbC∘Zr∘Zb∘ZbC∘Zh∘Zh∘Zw∘Zv) ?_);refine qe (yr (.inl Z) Z) ((Zcb∘Za1∘ZV∘Zcy) ?_);refine qe (yr (.inr Z) Z) ((Zax∘ZU∘ZaC) ?_);exact ym (x:=(i,r)) (i+1,r++[t]) ⟨hlt,by dsimp only;rw[List.length_append,List.length_singleton];omega,hf.symm⟩ G ⟨Z,Z,Z,Z,Z,ut Z,Z,Z,trivial⟩
   ·have e2:(if t∈y then 1 else 0:Int)=0:=nc h2;have hp:(du x y true true true) t=false:=by simp [du,h1,h2]
    rw[hp,nc E] at hf;refine(Zf∘Z0∘Zg∘ZbF∘ZcK∘Zab∘ZaT) ?_;refine z8 (q0 L Z Z (zm Z) Z Z Z (fun u H hH _ _ v1 h3=>wu (l:=x) T e1 hH h3)) Z ((Zc2∘Zab∘ZaT) ?_);refine z8 (q0 L Z Z (zm Z) Z Z Z (fun u H hH _ _ v1 h3=>wu (l:=y) T e2 hH h3)) Z ((Zc2∘ZaM∘Zbo∘Zco∘Zb0∘Zh∘Za∘ZaF∘Z3∘ZaF∘Za∘ZaF∘ZbC∘Zr∘Zb∘Zh∘Za∘ZaF∘ZbK∘ZU∘ZaC) ?_);exact ym (x:=(i,r)) (i+1,r) ⟨hlt,by dsimp only;omega,hf.symm⟩ G ⟨Z,Z,Z,Z,Z,Z,Z,Z,trivial⟩
 ·obtain rfl:i=l.length:=by omega
  rw[m9] at hr;have hzr:∀ t∈r,TZ t:=fun t h=>hza t (zpg.1 (by rw[<-hr];exact h)).1;rw[<-hr];refine uq 11 rfl ((Zf∘Z0∘Zg∘ZJ∘Zas∘ZM∘Zk) ?_);refine z7 (xg L Z Z (zm Z) Z Z Z ns (fun u H hH _ _ v1 h3=>oz T hzr hH h3)) Z (Zcp (h:=?_));refine yj1 L [.tmp 10] fun u H hH hle=>?_;exact fun v hv=>hv
def V6{x y:List U}{fx fy:Bool}(hx:x.length<=100000)(hy:y.length<=100000)(zx:∀ t∈x,TZ t)(zy:∀ t∈y,TZ t){vx vy:Value}(hB:zth B w)(hvx:US x fx vx B)(hvy:US y fy vy B):
  Ret zti 110 [vx,vy,.bool true,.bool false,.bool false] w B (US (ox x y true false false) false):=by
 have lx:=t6 x;have ly:=t6 y;have px:=ei x;have py:=ei y;refine yn Tryz.func110 Z Tryz.ntmps110 (np Z) hB (k8 0 (US x fx) Z ns hvx (k8 1 (US y fy) Z ns hvy ((Z4∘Zd) ?_)));refine ui 11 tyU 6 rfl ((Z9∘Zk) ?_);refine z7 (Ab L Z Z Z (Na Z) Z zik lx px T T) Z (Zk (h:=?_));refine qe (w7 L Z Z Z (Na Z) Z zik ly py T T) (qe (yr (.inr Z) Z) (Zan (h:=?_)));refine uq 12 (U7 Z) ?_;have hal:(x++y).length<=200000:=by rw[nr];omega
 have hza:∀ t∈x++y,TZ t:=fun t ht=>(mh.1 ht).elim (zx t) (zy t);unfold ox;generalize hall:x++y=l at hal hza;refine(ZK∘ZaJ) ?_
 refine xm (fun s:Nat×List U=>[(0,.sat (US x fx)),(1,.sat (US y fy)),(2,.is (.bool true)),(3,.is (.bool false)),(4,.is (.bool false)),(11,.own (SlR tyU 6 s.2.length (s.2.flatMap ucs))),(12,.sat (US l false)),(13,.is (.int .i64 s.1))])
  (fun s=>s.1<=l.length/\s.2.length<=s.1/\s.2=(l.take s.1).filter (du x y true false false)) (fun s=>l.length-s.1) (0,[]) ⟨mc _,nu _,rfl⟩ ⟨rfl,rfl,rfl,rfl,rfl,rfl,rfl,rfl,nm⟩ ?_
 rintro⟨i,r⟩ ⟨hi,hrl,hr⟩;dsimp only at hi hrl hr |-;by_cases hlt:i<l.length
 ·obtain⟨t,ht⟩:=xk hlt;have hc:=f9 ht;have hf:=Dx ht hr;by_cases h1:t∈x
  ·have e1:(if t∈x then 1 else 0:Int)=1:=na h1;by_cases h2:t∈y
   ·have e2:(if t∈y then 1 else 0:Int)=1:=na h2;have hp:(du x y true false false) t=false:=by simp [du,h1,h2]
    rw[hp,nc E] at hf;refine(Zf∘Z0∘Zg∘ZbF∘ZcK∘Zab∘ZaT) ?_;refine z8 (q0 L Z Z (zm Z) Z Z Z (fun u H hH _ _ v1 h3=>wu (l:=x) T e1 hH h3)) Z ((Zde∘Zab∘ZaT) ?_);refine z8 (q0 L Z Z (zm Z) Z Z Z (fun u H hH _ _ v1 h3=>wu (l:=y) T e2 hH h3)) Z ((Zde∘ZaM∘Zbo∘ZC∘Z3∘Zr∘Zh∘Za∘ZaF∘Zbt∘ZbC∘Zh∘ZbC∘Zr∘Za∘ZaF∘Za∘ZaF∘ZbK∘ZU∘ZaC) ?_);exact ym (x:=(i,r)) (i+1,r) ⟨hlt,by dsimp only;omega,hf.symm⟩ G ⟨Z,Z,Z,Z,Z,Z,Z,Z,trivial⟩
   ·have e2:(if t∈y then 1 else 0:Int)=0:=nc h2;have hp:(du x y true false false) t=true:=by simp [du,h1,h2]
    rw[hp,na rfl] at hf;refine(Zf∘Z0∘Zg∘ZbF∘ZcK∘Zab∘ZaT) ?_;refine z8 (q0 L Z Z (zm Z) Z Z Z (fun u H hH _ _ v1 h3=>wu (l:=x) T e1 hH h3)) Z ((Zde∘Zab∘ZaT) ?_);refine z8 (q0 L Z Z (zm Z) Z Z Z (fun u H hH _ _ v1 h3=>wu (l:=y) T e2 hH h3)) Z ((Zc2∘ZaM∘Zbo∘ZC∘Z3∘Zr∘ZbC∘Zh∘Zaz∘Zb0∘ZaF∘Zaz∘Zb0∘Zb0∘Zh∘Zw∘Zv) ?_);refine qe (yr (.inl Z) Z) ((Zcb∘Za1∘ZV∘Zcy) ?_);refine qe (yr (.inr Z) Z) ((Zax∘ZU∘ZaC) ?_);exact ym (x:=(i,r)) (i+1,r++[t]) ⟨hlt,by dsimp only;rw[List.length_append,List.length_singleton];omega,hf.symm⟩ G ⟨Z,Z,Z,Z,Z,ut Z,Z,Z,trivial⟩
  ·have e1:(if t∈x then 1 else 0:Int)=0:=nc h1;by_cases h2:t∈y
   ·have e2:(if t∈y then 1 else 0:Int)=1:=na h2;have hp:(du x y true false false) t=false:=by simp [du,h1,h2]
    rw[hp,nc E] at hf;refine(Zf∘Z0∘Zg∘ZbF∘ZcK∘Zab∘ZaT) ?_;refine z8 (q0 L Z Z (zm Z) Z Z Z (fun u H hH _ _ v1 h3=>wu (l:=x) T e1 hH h3)) Z ((Zc2∘Zab∘ZaT) ?_);refine z8 (q0 L Z Z (zm Z) Z Z Z (fun u H hH _ _ v1 h3=>wu (l:=y) T e2 hH h3)) Z ((Zde∘ZaM∘Zbo∘Zco∘Zb0∘Zh∘Za∘ZaF∘Z3∘ZaF∘Za∘ZaF∘ZbC∘Zr∘Zb∘ZbC∘Zh∘ZbK∘ZU∘ZaC) ?_);exact ym (x:=(i,r)) (i+1,r) ⟨hlt,by dsimp only;omega,hf.symm⟩ G ⟨Z,Z,Z,Z,Z,Z,Z,Z,trivial⟩
   ·have e2:(if t∈y then 1 else 0:Int)=0:=nc h2;have hp:(du x y true false false) t=false:=by simp [du,h1,h2]
    rw[hp,nc E] at hf;refine(Zf∘Z0∘Zg∘ZbF∘ZcK∘Zab∘ZaT) ?_;refine z8 (q0 L Z Z (zm Z) Z Z Z (fun u H hH _ _ v1 h3=>wu (l:=x) T e1 hH h3)) Z ((Zc2∘Zab∘ZaT) ?_);refine z8 (q0 L Z Z (zm Z) Z Z Z (fun u H hH _ _ v1 h3=>wu (l:=y) T e2 hH h3)) Z ((Zc2∘ZaM∘Zbo∘Zco∘Zb0∘Zh∘Za∘ZaF∘Z3∘ZaF∘Za∘ZaF∘ZbC∘Zr∘Zb∘Zh∘Za∘ZaF∘ZbK∘ZU∘ZaC) ?_);exact ym (x:=(i,r)) (i+1,r) ⟨hlt,by dsimp only;omega,hf.symm⟩ G ⟨Z,Z,Z,Z,Z,Z,Z,Z,trivial⟩
 ·obtain rfl:i=l.length:=by omega
  rw[m9] at hr;have hzr:∀ t∈r,TZ t:=fun t h=>hza t (zpg.1 (by rw[<-hr];exact h)).1;rw[<-hr];refine uq 11 rfl ((Zf∘Z0∘Zg∘ZJ∘Zas∘ZM∘Zk) ?_);refine z7 (xg L Z Z (zm Z) Z Z Z ns (fun u H hH _ _ v1 h3=>oz T hzr hH h3)) Z (Zcp (h:=?_));refine yj1 L [.tmp 10] fun u H hH hle=>?_;exact fun v hv=>hv
end Go.V.L2
end
namespace Go.V.L6
open Go.V.L2 Go.V.L3
def _root_.ZdT(t:Wr Y->A:=by intro h;refine z7 (qv L _ Z Z Z Z T) Z ?_;exact h.1)(h:Y):A:=t ⟨h⟩
def _root_.ZeB(t:Wr Y->A:=by intro h;refine z7 (Tv L Z Z Z Z) Z ?_;exact h.1)(h:Y):A:=t ⟨h⟩
def zaf(N:List (U×Unit)):UT.flat N=(kS N).flatMap ucs:=by
 unfold UT.flat kS;rw[List.flatMap_map];rfl
def E4{t:Tr U Unit}{r:Nat}(hk:k<=t.size):kS (UT.rangeL t (r:Int) (k:Int))=((kS t.list).take k).drop r:=by
 unfold UT.rangeL;have h0:max (r:Int) 0=(r:Int):=T;have h1:min (k:Int) (t.size:Int)=(k:Int):=T;rw[h0,h1];by_cases h:(r:Int)>=k
 ·rw[na h,zpi (by rw[mg];omega)];rfl
 ·rw[nc h,Tr.prs_list];have:=Ru r k t.list 0;rw[show((0:Nat):Int)=0 from rfl] at this;rw[this,zq4,zq4];unfold kS;rw[zq0,zqk]
attribute [local irreducible] V N X VO Par StepOK Has Ret RetL RetO Src
def Ah{fv:Value}{p:Option Addr}{t:Tr U Unit}{f:Int}(hM:kS (UT.rangeL t f e)=zte)(hs:t.size<=100000)(hB:zth B w)(ht:UT.TA t (.pointer p) B):
  RetO zti 46 [.agg #[fv,.pointer p],.int .i64 f,.int .i64 e] w B (SlE tyU 6 zte.length (zte.flatMap ucs)):=by
 obtain⟨N,hN⟩:∃ N,UT.rangeL t f e=N:=⟨_,rfl⟩
 rw[hN] at hM;have hfl:=zaf N;have hNM:N.length=zte.length:=by rw[<-hM];simp
 have hlen:zte.length<=100000:=by
  rw[<-hNM,<-hN];unfold UT.rangeL;split
  ·exact mc _
  ·exact mp (Tr.prs_length_le _ _ _ _) hs
 have hat:∀ {k:Nat} {g:U},zte[k]?=some g->((UT.flat N).drop (k*6)).take 6=[.string g.1.1.1,.string g.1.1.2,.string g.1.2,.string g.2.1.1,.string g.2.1.2,.string g.2.2]:=fun {k g} h=>by
  rw[hfl,hM];exact f9 h
 clear hM hfl;refine wz Tryz.func46 Z Tryz.ntmps46 (np Z) hB ((Zu∘Zag∘ZaX∘Zb) ?_);refine z7 (xg (φ:=UT.PS N true) L Z Z (zm Z) Z Z Z UT.PS.mono (fun u H hH hle _=>UT.range_m _ _ hH (⟨_,rfl,ht.le hle⟩) T hN)) Z ((Zat∘Zi∘Z9∘Zg) ?_);refine z7 (G5 L _ Z Z Z zik Z Z Z Z T (by simp only[maxLen];omega)) Z ?_;refine qe (yr (.inr Z) Z) ((Zan∘ZK∘Zg∘ZaW) ?_);have hzl:=En (P:=zti) (k:=N.length*6) zik;generalize zsL zti tyU (N.length*6)=zs0 at hzl;rw[hNM] at hzl |-
 refine xm (fun s:Nat×List Value=>[(7,.sat (UT.PS N true)),(8,.own (SlE tyU 6 zte.length ((zte.take s.1).flatMap ucs++s.2))),(19,.is (.int .i64 zte.length)),(20,.is (.int .i64 s.1))])
  (fun s=>s.1<=zte.length/\s.2.length=(zte.length-s.1)*6) (fun s=>zte.length-s.1) (0,zs0) ⟨mc _,hzl⟩ ⟨rfl,rfl,rfl,rfl,nm⟩ ?_
 rintro⟨k,zs⟩ ⟨hk,hz⟩;dsimp only at hk hz |-;by_cases hlt:k<zte.length
 ·obtain⟨g,hg⟩:=xk hlt;have hc:=hat hg;have hlN:k<N.length:=T;have ht1:zte.take (k+1)=zte.take k++[g]:=by rw[zpj,hg];rfl
  have hr:List.take (0+k*6) ((zte.take k).flatMap ucs++zs)++(ucs g++List.drop (0+k*6+6) ((zte.take k).flatMap ucs++zs))=(zte.take (k+1)).flatMap ucs++zs.drop 6:=by
   rw[ht1,zpc];exact zkg Ge (zte.take k) k zte.length zs g (by rw[mg];omega) hz hlt
  have hlen':((zte.take (k+1)).flatMap ucs++zs.drop 6).length=zte.length*6:=by
   rw[nr,t6,mg,m6,hz];omega
  refine zl9 8 T Z fun b hb=>?_;have hle1:0+k*6+6<=((zte.take k).flatMap ucs++zs).length:=by rw[hb.1];omega
  refine(Zci∘ZU∘Zc∘Zs∘Zb∘Zcb∘ZeB∘Za1∘ZdT) ?_;refine M6 L (O1:=[]) (cs':=(zte.take (k+1)).flatMap ucs++zs.drop 6) Z Z Z Z Z Z (zr5 hle1) Z hr (Zax (h:=?_));refine ze5 (s:=6) 8 [] Z Z hlen' hb.2 ?_;refine(ZC∘ZX) ?_;exact ym (x:=(k,zs)) (k+1,zs.drop 6) ⟨hlt,by dsimp only;rw[List.length_drop,hz];omega⟩ G ⟨Z,Z,Z,Z,trivial⟩
 ·obtain rfl:k=zte.length:=by omega
  have hzn:zs=[]:=m7 (by rw[hz];omega);rw[hzn,mo,m9];refine(ZcI∘Zav∘Zv) ?_;refine qe (yr (.inl Z) Z) (qe (yr (.inr Z) Z) (ZF (h:=?_)));exact p9 Z (fun _ _ h=>h) nq Z
def Vh{α:Type}{p:α->Bool}:∀ {m:List α} {n:Nat},(m.take n).all p=true->(∀ x,m[n]?=some x->p x=false)->m.takeWhile p=m.take n
 | [],n,_,_=>by simp
 | y::m,0,_,h2=>by
  rw[zqj,h2 y rfl];rfl
 | y::m,n+1,h1,h2=>by
  simp only[zq8,List.all_cons,zpm] at h1 |-;rw[zqj,na h1.1,Vh h1.2 fun x hx=>h2 x (by simpa using hx)]
def zl1{t:Tr U Unit}{g:U}(h:(kS t.list)[k]?=some g):UT.atO t (k:Int)=some (g,()):=by
 unfold UT.atO;rw[nc T,zpu,Tr.at_list];unfold kS at h;rw[zpr] at h
 cases hx:t.list[k]? with
 | none=>rw[hx] at h;cases h
 | some y=>
  rw[hx] at h;cases h;rfl
abbrev zol:TypeId:=35
def ia{bf:Nat}{pr:U->Bool}{fv:Value}{p:Option Addr}{t:Tr U Unit}{r:Nat}(hfn:L.fn bf=some ())
  (hpr:∀ (y:U) (u:World) (H:Heap),zth H u->B.Le H->Ret zti bf ([uv y]++caps) u H (fun v _=>v=.bool (pr y)))
  (hrk:∀ (u:World) (H:Heap),zth H u->B.Le H->Ret zti 134 [.agg #[fv,.pointer p],uv x] u H (fun v _=>v=.int .i64 r)) (hr:r<=t.size)
  (hM:((kS t.list).drop r).takeWhile pr=zte) (hs:t.size<=100000) (hB:zth B w) (ht:UT.TA t (.pointer p) B):
  RetO zti 77 [.agg #[fv,.pointer p],uv x,.func (.func bf) #[] caps.toArray] w B (SlE tyU 6 zte.length (zte.flatMap ucs)):=by
 have hkl:(kS t.list).length=t.size:=by rw[<-Tr.size_list];simp
 refine wz Tryz.func77 Z Tryz.ntmps77 (np Z) hB ((Zaj∘Zag∘ZaX∘Zc3) ?_);refine z71 L Z (fun u H hH hle=>hrk u H hH hle) ?_;refine(Zbx∘Zd∘Zam) ?_
 refine xm (fun k:Nat=>[(2,.is (.func (.func bf) #[] caps.toArray)),(3,.sat (At [fv,.pointer p] zol 0)),(7,.is (.int .i64 r)),(8,.is (.int .i64 k))])
  (fun k=>r<=k/\k<=t.size/\(((kS t.list).drop r).take (k-r)).all pr=true) (fun k=>t.size-k) r ⟨nu _,hr,by rw[zql];rfl⟩ ⟨rfl,rfl,rfl,rfl,nm⟩ ?_
 rintro k ⟨h1,h2,h3⟩
 have hlst:(∀ y,((kS t.list).drop r)[k-r]?=some y->pr y=false)->kS (UT.rangeL t (r:Int) (k:Int))=zte:=fun h=>by
  rw[E4 h2,List.drop_take,<-hM];exact(Vh h3 h).symm
 by_cases hlt:k<t.size
 ·obtain⟨g,hg⟩:=xk (show k<(kS t.list).length by omega);have hat:=zl1 hg;have hd:((kS t.list).drop r)[k-r]?=some g:=by rw[zqa,show r+(k-r)=k by omega];exact hg
  cases hb:pr g
  ·have hpg:=hpr g;rw[hb] at hpg;have hl2:=hlst fun y hy=>by rw[hd] at hy;cases hy;exact hb
   refine(Zcr∘ZaX∘ZeA∘ZbD∘ZcL∘Z2∘ZaX∘Za) ?_;refine z71 L Z (fun u H hH hle=>UT.at_m _ hH (⟨_,rfl,ht.le hle⟩) T hat) ?_;refine(ZB∘Zaw∘Zj) ?_;refine Py 9 rfl ((ZU∘ZbI) ?_);refine z7 (q0 L Z Z (zm Z) Z Z hfn (fun u H hH hle _=>hpg u H hH hle)) Z ((Zr∘Zw∘Zea∘ZdF∘Zdk∘Zbz∘ZC∘ZbL∘Zb) ?_);refine z7 (wh L Z Z (zm Z) Z Z Z (fun u H hH hle _=>Ah hl2 hs hH (ht.le hle))) Z (qe (yr (.inr Z) Z) (ZF (h:=?_)));exact p9 Z (fun _ _ h=>h) nq Z
  ·have hpg:=hpr g;rw[hb] at hpg;refine(Zcr∘ZaX∘ZeA∘ZbD∘ZcL∘Z2∘ZaX∘Za) ?_;refine z71 L Z (fun u H hH hle=>UT.at_m _ hH (⟨_,rfl,ht.le hle⟩) T hat) ?_;refine(ZB∘Zaw∘Zj) ?_;refine Py 9 rfl ((ZU∘ZbI) ?_);refine z7 (q0 L Z Z (zm Z) Z Z hfn (fun u H hH hle _=>hpg u H hH hle)) Z ((Zr∘Zae∘Zbi∘ZQ∘ZaI∘Zai) ?_);refine ym (x:=k) (k+1) ⟨by omega,hlt,?_⟩ T ⟨Z,Z,Z,Z,nm⟩;rw[show k+1-r=(k-r)+1 by omega,zpj,hd,zsi,h3];simp [hb]
 ·obtain rfl:k=t.size:=by omega
  have hl2:=hlst fun y hy=>by rw[zqa,zpd T] at hy;cases hy
  refine(Zcr∘ZaX∘ZeA∘ZJ∘Zas∘ZC∘ZbL∘Zb) ?_;refine z7 (wh L Z Z (zm Z) Z Z Z (fun u H hH hle _=>Ah hl2 hs hH (ht.le hle))) Z (qe (yr (.inr Z) Z) (ZF (h:=?_)));exact p9 Z (fun _ _ h=>h) nq Z
def SetV.both(hv:SetV l v B)(hl:l.length<=100000):∃ f p k q t u,v=.agg #[f,.pointer p,k,.pointer q]/\TS l t u/\UT.TA t (.pointer p) B/\UT.TA u (.pointer q) B/\
  (∀ (x:U) (w:World) (H:Heap),zth H w->B.Le H->Ret zti 134 [.agg #[f,.pointer p],uv x] w H (fun r _=>r=.int .i64 (dt ku x l)))/\
  (∀ (x:U) (w:World) (H:Heap),zth H w->B.Le H->Ret zti 134 [.agg #[k,.pointer q],uv x] w H (fun r _=>r=.int .i64 (dt ik x (g8 ik [] l)))):=by
 obtain⟨p,q,t,u,hT,ht,hu,rfl | ⟨rfl,rfl,rfl,rfl⟩⟩:=hv
 ·have hts:=hT.size;have hus:=hT.zu;exact⟨_,_,_,_,t,u,rfl,hT,ht,hu,fun x w H hH hle=>UT.rank_m zee x hH (⟨_,rfl,ht.le hle⟩) T (hT.rank x),fun x w H hH hle=>UT.rank_m zlq x hH (⟨_,rfl,hu.le hle⟩) T (hT.ranku x)⟩
 ·exact⟨_,_,_,_,t,u,rfl,hT,ht,hu,fun x w H hH hle=>UT.rank_nil x hH,fun x w H hH hle=>UT.rank_nil x hH⟩
def SetV.trees(hv:SetV l v B):∃ f p k q t u,v=.agg #[f,.pointer p,k,.pointer q]/\TS l t u/\UT.TA t (.pointer p) B/\UT.TA u (.pointer q) B:=by
 obtain⟨p,q,t,u,hT,ht,hu,rfl | ⟨rfl,rfl,rfl,rfl⟩⟩:=hv
 ·exact⟨_,_,_,_,t,u,rfl,hT,ht,hu⟩
 ·exact⟨_,_,_,_,t,u,rfl,hT,ht,hu⟩
def zkd(hl:l.length<=100000)(hB:zth B w)(hv:SetV l v B):RetO zti 11 [v] w B (SlE tyU 6 l.length (l.flatMap ucs)):=by
 obtain⟨f,p,k,q,t,u,rfl,hT,ht,hu⟩:=hv.trees;have hts:=hT.size
 have hr:kS (UT.rangeL t 0 (l.length:Int))=l:=by
  have:=E4 (t:=t) (r:=0) (k:=l.length) T;rw[show((0:Nat):Int)=0 from rfl] at this;rw[this,hT.kt,zp7,m9]
 refine wz Tryz.func11 Z Tryz.ntmps11 (np Z) hB ((Zu∘Zd) ?_);refine qo (id:=1) [(2,[7])] ki J ((Zbc∘ZcP∘Zd7) ?_);refine z81 L Z (fun u H hH hle=>gn Z hH (hv.le hle)) ?_;refine z8 (wh L Z Z (zm Z) Z Z Z (fun u H hH hle _=>Ah hr T hH (ht.le hle))) Z (xq (yr (.inr Z) Z) Z Z (Zb1 (h:=?_)));exact p9 Z (fun _ _ h=>h) nq Z
def Vu{g:Ed}{y:U}(hr:decide (y.2=g)=r)(hB:zth B w)(hb:B b=some (.cells #[.string g.1.1,.string g.1.2,.string g.2] 55)):
  Ret zti 161 ([uv y]++[.pointer (some ⟨b,0,none⟩)]) w B (fun v _=>v=.bool r):=by
 have he:=eq3 hr;refine yn Tryz.func161 Z Tryz.ntmps161 (np Z) hB ((Zu∘Zag∘ZbE) ?_);refine z7 (zw L (vs:=[_,_,_]) (qp Z M) Z Z Z Z ⟨_,rfl⟩) Z (z7 (Dg Z Z Z Z zmk M Z) Z (Zc (h:=?_)));exact yj2 L [.tmp 3]
abbrev g3v(g:Ed):Value:=.agg #[.string g.1.1,.string g.1.2,.string g.2]
def zm1{g:Ed}(hM:zjk l g=zte)(hl:l.length<=100000)(hB:zth B w)(hv:SetV l v B):RetO zti 89 [v,g3v g] w B (SlE tyU 6 zte.length (zte.flatMap ucs)):=by
 obtain⟨f,p,k,q,t,u,rfl,hT,ht,hu,_,hr2⟩:=hv.both hl;have hus:=hT.zu;have hrun:=zg6 hT.st g;rw[hM] at hrun;have hkt:=hT.bySub;have hln:(g8 ik [] l).length=u.size:=by rw[<-hkt,<-Tr.size_list];simp
 refine wz Tryz.func89 Z Tryz.ntmps89 (np Z) hB ((Zaj∘Zd) ?_);refine ri 3 rfl ?_;rintro _ H3 hs3 ⟨b3,rfl,hb3⟩;refine(ZE∘ZaX) ?_;refine z7 (zw L (vs:=[_,_,_]) (qp Z M) Z Z Z Z ⟨_,rfl⟩) Z ((Zcm∘Za0) ?_);refine z7 (wh L Z Z (zm Z) Z Z Z (fun u H hH hle _=>ia (zte:=zte) (caps:=[.pointer (some ⟨b3,0,none⟩)]) (pr:=fun z=>decide (z.2=g)) (x:=(n3,g)) Z (fun y u' H' hH' hle'=>Vu Z hH' (hle' _ _ (hle _ _ hb3))) (fun u' H' hH' hle'=>hr2 _ u' H' hH' (hs3.le.trans (hle.trans hle'))) (by rw[<-hln];exact o4 _ _) (by rw[hkt];exact hrun) T hH (hu.le (hs3.le.trans hle)))) Z ?_;refine qe (yr (.inr Z) Z) (ZF (h:=?_));exact p9 Z (fun _ _ h=>h) hs3 Z
def _root_.ZdG(t:Wr Y->A:=by intro h;refine z7 (zw L (vs:=[_,_,_,_,_,_,_]) (qp Z M) Z Z Z Z ⟨_,rfl⟩) Z ?_;exact h.1)(h:Y):A:=t ⟨h⟩
def _root_.ZeC(t:Wr Y->A:=by intro h;refine z7 (zw L (vs:=[_,_,_,_,_,_]) (yw Z (List.Mem.head _)) Z Z Z Z ⟨_,rfl⟩) Z ?_;exact h.1)(h:Y):A:=t ⟨h⟩
def _root_.Zcz(t:Wr Y->A:=by intro h;refine ze (id:=19) ?_;exact h.1)(h:Y):A:=t ⟨h⟩
def _root_.Zev(t:Wr Y->A:=by intro h;refine z7 (yu (cs:=[_,_,_,_,_,_,_]) Z Z zos Z Z) Z ?_;exact h.1)(h:Y):A:=t ⟨h⟩
def _root_.ZeU(t:Wr Y->A:=by intro h;refine z7 (zhu L Z Z Z Z) Z ?_;refine ZaW (h:=?_);exact h.1)(h:Y):A:=t ⟨h⟩
def Of(f:FT):w9 (sf f)=min (w9 f) 3:=by
 unfold sf;rcases ai f with ⟨h,h1⟩ | ⟨h,h1,h2⟩ | ⟨h,h1,h2,h3⟩ | ⟨h,h1,h2,h3,h4⟩ | ⟨h,h1,h2,h3,h4⟩<;>rw[h]<;>simp [w9, *]
def zdu(h:w9 (sf f)=k)(hk:k<=3):Pe (sf f)=(((if 1<=k then f.1.1.1 else ⟨#[]⟩,if 2<=k then f.1.1.2 else ⟨#[]⟩),if 3<=k then f.1.2 else ⟨#[]⟩),n3):=by
 unfold Pe;rw[h,nc (show ¬ 4<=k by omega)];rfl
def Ht(h:w9 (sf f)=k)(hk:k<=3):ic (sf f)=(((if 1<=k then f.1.1.1 else ⟨#[]⟩,if 2<=k then f.1.1.2 else ⟨#[]⟩),if 3<=k then f.1.2 else ⟨#[]⟩),n3,false):=by
 unfold ic;rw[h,nc (show ¬ 4<=k by omega),ng (show ¬ 4<=k by omega)];rfl
attribute [local irreducible] RetT
def R5{x:Value}(hB:zth B w)(hx:(SlR tyU 6 l.length (l.flatMap ucs)).P x B w C)(hC:ZCB C w B):
  RetT zti 80 [x] w B C (SlC tyU 6 l.length (l.flatMap ucs)):=by
 unfold RetT;refine Kg 0 (x:=x) (SlR tyU 6 l.length (l.flatMap ucs)) Z Tryz.func80 Z Tryz.ntmps80 (np Z) hB hx hC ?_;refine Bz 0 900 _ Z SlR.shape2 fun y hy=>?_;obtain⟨p,c,rfl,hmc,hp⟩:=hy;refine(Z4∘Zb∘ZcA∘Za∘ZcA) ?_;refine z7 (zc8 L hp hmc Z Z Z Z Z Z Z) Z (Zc (h:=?_));exact zbk 2 900 rfl Z (F4 Z (fun _ _ h=>h) nq Z)
def ah{y:U}(hr:kr f y=r)(hB:zth B w)(hb:B b=some (.cells #[.string f.1.1.1,.string f.1.1.2,.string f.1.2,.string f.2.1.1.1,.string f.2.1.1.2,.string f.2.1.2,.bool f.2.2] 85)):
  Ret zti 78 ([uv y]++[.pointer (some ⟨b,0,none⟩)]) w B (fun v _=>v=.bool r):=by
 refine yn Tryz.func78 Z Tryz.ntmps78 (np Z) hB ((Zu∘Zag∘ZdG∘Zc3) ?_);refine z71 L Z (fun u H hH _=>gl hr hH) ?_;refine Zc (h:=?_);exact yj2 L [.tmp 3]
def zjl(l:List U)(f:FT):List U:=if fE f=0 then zng l f else []
set_option maxRecDepth 10000 in
def zg0{l Y:List U}(hM:zjl l f=Y)(hl:l.length<=100000)(hz:FM f)(hB:zth B w)(hv:SetV l v B):RetO zti 27 [v,fv f] w B (SlC tyU 6 Y.length (Y.flatMap ucs)):=by
 obtain⟨fn,p,k,q,t,u,rfl,hT,ht,hu,hr1,_⟩:=hv.both hl;have hts:=hT.size;have hkt:=hT.kt;unfold zjl at hM;refine wz Tryz.func27 Z Tryz.ntmps27 (np Z) hB ?_;by_cases hE:fE f=0
 ·rw[na hE] at hM;have hrun:=V2 hT.st f;rw[hM] at hrun;have hpn:=Of f;obtain⟨n,hn⟩:∃ n,w9 f=n:=⟨_,rfl⟩
  rw[hn] at hpn;refine(Zaj∘ZG∘ZcT) ?_;refine z71 L Z (fun u H hH _=>Ft hz hE hH) ?_;refine(Zb8∘ZK∘Zcm∘Zah∘Z2∘ZcT) ?_;refine z71 L Z (fun u H hH _=>Tg hn hH) ?_;refine Zj (h:=?_);refine lh 5 rfl fun b5 hb5=>?_;by_cases n0:n=0
  ·subst n0;have hk3:w9 (sf f)=0:=T;have hle:=zdu hk3 E;have hfi:=Ht hk3 E;simp only[Nat.reduceLeDiff,if_true,if_false] at hle hfi;rw[hle,hfi] at hrun;generalize hR:(l.drop (dt ku (((⟨#[]⟩,⟨#[]⟩),⟨#[]⟩),n3) l)).takeWhile (fun z=>kr (((⟨#[]⟩,⟨#[]⟩),⟨#[]⟩),n3,false) z)=R at hrun
   have hRl:R.length<=100000:=by
    rw[<-hR];exact mp (zb7 _ _) (by rw[m6];omega)
   refine(ZU∘ZL∘Z1∘Z8∘ZL∘Z1∘Zal∘ZL∘Zm∘ZY∘Zz∘Zz∘Zz∘ZbR∘Zz∘Zz∘Zz∘ZbR∘Zz∘Zz∘ZbR∘Zev∘Zah∘Zaa∘Zj) ?_;refine Py 7 rfl (ri 7 rfl ?_);rintro _ H7 hs7 ⟨b7,rfl,hb7⟩;refine(Zak∘ZaX∘ZeC∘Za0) ?_;refine z7 (wh L Z Z (zm Z) Z Z Z (fun u H hH hle _=>ia (zte:=R) (caps:=[.pointer (some ⟨b7,0,none⟩)]) (pr:=fun z=>kr (((⟨#[]⟩,⟨#[]⟩),⟨#[]⟩),n3,false) z) (x:=(((⟨#[]⟩,⟨#[]⟩),⟨#[]⟩),n3)) Z (fun y u' H' hH' hle'=>ah (f:=(((⟨#[]⟩,⟨#[]⟩),⟨#[]⟩),n3,false)) Z hH' (hle' _ _ (hle _ _ hb7))) (fun u' H' hH' hle'=>hr1 _ u' H' hH' (hs7.le.trans (hle.trans hle'))) (by rw[hts];exact o4 _ _) (by rw[hkt];exact hR) T hH (ht.le (hs7.le.trans hle)))) Z ?_;refine ZeU (h:=?_);refine F6 53 rfl (ui 8 tyU 6 rfl (Nf 53 (US R true) Z ns (fun v H h=>h) ?_))
   refine xm (fun y:Nat×List U=>[(3,.sat (At (fcs f) tyF 0)),(8,.own (SlR tyU 6 y.2.length (y.2.flatMap ucs))),(53,.sat (US R true)),(54,.is (.int .i64 R.length)),(55,.is (.int .i64 y.1))])
    (fun y=>y.1<=R.length/\y.2=(R.take y.1).filter (kr f)) (fun y=>R.length-y.1) (0,[]) ⟨mc _,rfl⟩ ⟨rfl,rfl,rfl,rfl,rfl,nm⟩ ?_
   rintro⟨k,out⟩ ⟨hk,hout⟩;dsimp only at hk hout |-;have hol:out.length<=k:=by rw[hout];exact mp (zqu ..) (by rw[mg];omega)
   by_cases hlt:k<R.length
   ·obtain⟨t1,ht1⟩:=xk hlt;have hc:=f9 ht1;have htk:R.take (k+1)=R.take k++[t1]:=Az ht1;cases htt:kr f t1
    ·have ho:out=(R.take (k+1)).filter (kr f):=by rw[htk,zp2,<-hout];simp [htt]
     refine(Ze∘Za5∘Z6∘Zao∘Zau∘Za1∘Zah∘Zar∘ZcT∘Zay) ?_;refine z71 L Z (fun u H hH _=>gl htt hH) ?_;refine(Zch∘ZaV∘ZX) ?_;exact jk (x:=(k,out)) (k+1,out) Since.refl ⟨hlt,ho⟩ G ⟨Z,Z,Z,Z,Z,nm⟩
    ·have ho:out++[t1]=(R.take (k+1)).filter (kr f):=by rw[htk,zp2,<-hout];simp [htt]
     refine(Ze∘Za5∘Z6∘Zao∘Zau∘Za1∘Zah∘Zar∘ZcT∘Zay) ?_;refine z71 L Z (fun u H hH _=>gl htt hH) ?_;refine(Zw∘Zbv) ?_;refine qe (yr (.inl Z) Z) ((Zay∘ZV∘Zcy) ?_);refine qe (yr (.inr Z) Z) ((Zax∘ZaV∘ZX) ?_);exact jk (x:=(k,out)) (k+1,out++[t1]) Since.refl ⟨hlt,ho⟩ G ⟨Z,ut Z,Z,Z,Z,nm⟩
   ·obtain rfl:k=R.length:=by omega
    rw[m9,hrun] at hout;subst hout;refine(Ze∘Za5∘Zav∘Zcz) ?_;refine qe (yr (.inl Z) Z) (qe (c9 L (q:=67) Z Z Z Z Z (fun u H C x hH hle hx hC=>R5 hH hx hC)) (qe (yr (.inr Z) Z) (ZF (h:=?_))));exact p9 Z (fun _ _ h=>h) hs7 Z
  ·by_cases n1:n=1
   ·subst n1;have hk3:w9 (sf f)=1:=T;have hle:=zdu hk3 E;have hfi:=Ht hk3 E;simp only[Nat.reduceLeDiff,if_true,if_false] at hle hfi;rw[hle,hfi] at hrun;generalize hR:(l.drop (dt ku (((f.1.1.1,⟨#[]⟩),⟨#[]⟩),n3) l)).takeWhile (fun z=>kr (((f.1.1.1,⟨#[]⟩),⟨#[]⟩),n3,false) z)=R at hrun
    have hRl:R.length<=100000:=by
     rw[<-hR];exact mp (zb7 _ _) (by rw[m6];omega)
    refine(ZU∘ZO∘Zw∘Zs∘Zq∘Zz∘Zz∘Zz∘Zdg∘Zan∘Z8∘ZL∘Z1∘Zal∘ZL∘Zm∘ZY∘Zz∘Zz∘Zz∘ZbR∘Zz∘Zz∘Zz∘ZbR∘Zz∘Zz∘ZbR∘Zev∘Zah∘Zaa∘Zj) ?_;refine Py 7 rfl (ri 7 rfl ?_);rintro _ H7 hs7 ⟨b7,rfl,hb7⟩;refine(Zak∘ZaX∘ZeC∘Za0) ?_;refine z7 (wh L Z Z (zm Z) Z Z Z (fun u H hH hle _=>ia (zte:=R) (caps:=[.pointer (some ⟨b7,0,none⟩)]) (pr:=fun z=>kr (((f.1.1.1,⟨#[]⟩),⟨#[]⟩),n3,false) z) (x:=(((f.1.1.1,⟨#[]⟩),⟨#[]⟩),n3)) Z (fun y u' H' hH' hle'=>ah (f:=(((f.1.1.1,⟨#[]⟩),⟨#[]⟩),n3,false)) Z hH' (hle' _ _ (hle _ _ hb7))) (fun u' H' hH' hle'=>hr1 _ u' H' hH' (hs7.le.trans (hle.trans hle'))) (by rw[hts];exact o4 _ _) (by rw[hkt];exact hR) T hH (ht.le (hs7.le.trans hle)))) Z ?_;refine ZeU (h:=?_);refine F6 53 rfl (ui 8 tyU 6 rfl (Nf 53 (US R true) Z ns (fun v H h=>h) ?_))
    refine xm (fun y:Nat×List U=>[(3,.sat (At (fcs f) tyF 0)),(8,.own (SlR tyU 6 y.2.length (y.2.flatMap ucs))),(53,.sat (US R true)),(54,.is (.int .i64 R.length)),(55,.is (.int .i64 y.1))])
     (fun y=>y.1<=R.length/\y.2=(R.take y.1).filter (kr f)) (fun y=>R.length-y.1) (0,[]) ⟨mc _,rfl⟩ ⟨rfl,rfl,rfl,rfl,rfl,nm⟩ ?_
    rintro⟨k,out⟩ ⟨hk,hout⟩;dsimp only at hk hout |-;have hol:out.length<=k:=by rw[hout];exact mp (zqu ..) (by rw[mg];omega)
    by_cases hlt:k<R.length
    ·obtain⟨t1,ht1⟩:=xk hlt;have hc:=f9 ht1;have htk:R.take (k+1)=R.take k++[t1]:=Az ht1;cases htt:kr f t1
     ·have ho:out=(R.take (k+1)).filter (kr f):=by rw[htk,zp2,<-hout];simp [htt]
      refine(Ze∘Za5∘Z6∘Zao∘Zau∘Za1∘Zah∘Zar∘ZcT∘Zay) ?_;refine z71 L Z (fun u H hH _=>gl htt hH) ?_;refine(Zch∘ZaV∘ZX) ?_;exact jk (x:=(k,out)) (k+1,out) Since.refl ⟨hlt,ho⟩ G ⟨Z,Z,Z,Z,Z,nm⟩
     ·have ho:out++[t1]=(R.take (k+1)).filter (kr f):=by rw[htk,zp2,<-hout];simp [htt]
      refine(Ze∘Za5∘Z6∘Zao∘Zau∘Za1∘Zah∘Zar∘ZcT∘Zay) ?_;refine z71 L Z (fun u H hH _=>gl htt hH) ?_;refine(Zw∘Zbv) ?_;refine qe (yr (.inl Z) Z) ((Zay∘ZV∘Zcy) ?_);refine qe (yr (.inr Z) Z) ((Zax∘ZaV∘ZX) ?_);exact jk (x:=(k,out)) (k+1,out++[t1]) Since.refl ⟨hlt,ho⟩ G ⟨Z,ut Z,Z,Z,Z,nm⟩
    ·obtain rfl:k=R.length:=by omega
     rw[m9,hrun] at hout;subst hout;refine(Ze∘Za5∘Zav∘Zcz) ?_;refine qe (yr (.inl Z) Z) (qe (c9 L (q:=67) Z Z Z Z Z (fun u H C x hH hle hx hC=>R5 hH hx hC)) (qe (yr (.inr Z) Z) (ZF (h:=?_))));exact p9 Z (fun _ _ h=>h) hs7 Z
   ·by_cases n2:n=2
    ·subst n2;have hk3:w9 (sf f)=2:=T;have hle:=zdu hk3 E;have hfi:=Ht hk3 E;simp only[Nat.reduceLeDiff,if_true,if_false] at hle hfi;rw[hle,hfi] at hrun;generalize hR:(l.drop (dt ku (((f.1.1.1,f.1.1.2),⟨#[]⟩),n3) l)).takeWhile (fun z=>kr (((f.1.1.1,f.1.1.2),⟨#[]⟩),n3,false) z)=R at hrun
     have hRl:R.length<=100000:=by
      rw[<-hR];exact mp (zb7 _ _) (by rw[m6];omega)
     refine(ZU∘ZO∘Zw∘Zs∘Zq∘Zz∘Zz∘Zz∘Zdg∘Zan∘Z8∘ZO∘Zw∘Zv∘Zq∘Zz∘Zz∘Zz∘Zdg∘Zan∘Zal∘ZL∘Zm∘ZY∘Zz∘Zz∘Zz∘ZbR∘Zz∘Zz∘Zz∘ZbR∘Zz∘Zz∘ZbR∘Zev∘Zah∘Zaa∘Zj) ?_;refine Py 7 rfl (ri 7 rfl ?_);rintro _ H7 hs7 ⟨b7,rfl,hb7⟩;refine(Zak∘ZaX∘ZeC∘Za0) ?_;refine z7 (wh L Z Z (zm Z) Z Z Z (fun u H hH hle _=>ia (zte:=R) (caps:=[.pointer (some ⟨b7,0,none⟩)]) (pr:=fun z=>kr (((f.1.1.1,f.1.1.2),⟨#[]⟩),n3,false) z) (x:=(((f.1.1.1,f.1.1.2),⟨#[]⟩),n3)) Z (fun y u' H' hH' hle'=>ah (f:=(((f.1.1.1,f.1.1.2),⟨#[]⟩),n3,false)) Z hH' (hle' _ _ (hle _ _ hb7))) (fun u' H' hH' hle'=>hr1 _ u' H' hH' (hs7.le.trans (hle.trans hle'))) (by rw[hts];exact o4 _ _) (by rw[hkt];exact hR) T hH (ht.le (hs7.le.trans hle)))) Z ?_;refine ZeU (h:=?_);refine F6 53 rfl (ui 8 tyU 6 rfl (Nf 53 (US R true) Z ns (fun v H h=>h) ?_))
     refine xm (fun y:Nat×List U=>[(3,.sat (At (fcs f) tyF 0)),(8,.own (SlR tyU 6 y.2.length (y.2.flatMap ucs))),(53,.sat (US R true)),(54,.is (.int .i64 R.length)),(55,.is (.int .i64 y.1))])
      (fun y=>y.1<=R.length/\y.2=(R.take y.1).filter (kr f)) (fun y=>R.length-y.1) (0,[]) ⟨mc _,rfl⟩ ⟨rfl,rfl,rfl,rfl,rfl,nm⟩ ?_
     rintro⟨k,out⟩ ⟨hk,hout⟩;dsimp only at hk hout |-;have hol:out.length<=k:=by rw[hout];exact mp (zqu ..) (by rw[mg];omega)
     by_cases hlt:k<R.length
     ·obtain⟨t1,ht1⟩:=xk hlt;have hc:=f9 ht1;have htk:R.take (k+1)=R.take k++[t1]:=Az ht1;cases htt:kr f t1
      ·have ho:out=(R.take (k+1)).filter (kr f):=by rw[htk,zp2,<-hout];simp [htt]
       refine(Ze∘Za5∘Z6∘Zao∘Zau∘Za1∘Zah∘Zar∘ZcT∘Zay) ?_;refine z71 L Z (fun u H hH _=>gl htt hH) ?_;refine(Zch∘ZaV∘ZX) ?_;exact jk (x:=(k,out)) (k+1,out) Since.refl ⟨hlt,ho⟩ G ⟨Z,Z,Z,Z,Z,nm⟩
      ·have ho:out++[t1]=(R.take (k+1)).filter (kr f):=by rw[htk,zp2,<-hout];simp [htt]
       refine(Ze∘Za5∘Z6∘Zao∘Zau∘Za1∘Zah∘Zar∘ZcT∘Zay) ?_;refine z71 L Z (fun u H hH _=>gl htt hH) ?_;refine(Zw∘Zbv) ?_;refine qe (yr (.inl Z) Z) ((Zay∘ZV∘Zcy) ?_);refine qe (yr (.inr Z) Z) ((Zax∘ZaV∘ZX) ?_);exact jk (x:=(k,out)) (k+1,out++[t1]) Since.refl ⟨hlt,ho⟩ G ⟨Z,ut Z,Z,Z,Z,nm⟩
     ·obtain rfl:k=R.length:=by omega
      rw[m9,hrun] at hout;subst hout;refine(Ze∘Za5∘Zav∘Zcz) ?_;refine qe (yr (.inl Z) Z) (qe (c9 L (q:=67) Z Z Z Z Z (fun u H C x hH hle hx hC=>R5 hH hx hC)) (qe (yr (.inr Z) Z) (ZF (h:=?_))));exact p9 Z (fun _ _ h=>h) hs7 Z
    ·have hn3:3<=n:=T;have hk3:w9 (sf f)=3:=by rw[hpn];omega
     have hle:=zdu hk3 E;have hfi:=Ht hk3 E;simp only[Nat.reduceLeDiff,if_true,if_false] at hle hfi;rw[hle,hfi] at hrun;generalize hR:(l.drop (dt ku (((f.1.1.1,f.1.1.2),f.1.2),n3) l)).takeWhile (fun z=>kr (((f.1.1.1,f.1.1.2),f.1.2),n3,false) z)=R at hrun
     have hRl:R.length<=100000:=by
      rw[<-hR];exact mp (zb7 _ _) (by rw[m6];omega)
     refine(ZU∘ZO∘Zw∘Zs∘Zq∘Zz∘Zz∘Zz∘Zdg∘Zan∘Z8∘ZO∘Zw∘Zv∘Zq∘Zz∘Zz∘Zz∘Zdg∘Zan∘Zal∘ZO∘Zw∘ZI∘Zq∘Zz∘Zz∘Zdg∘Zi∘ZY∘Zz∘Zz∘Zz∘ZbR∘Zz∘Zz∘Zz∘ZbR∘Zz∘Zz∘ZbR∘Zev∘Zah∘Zaa∘Zj) ?_;refine Py 7 rfl (ri 7 rfl ?_);rintro _ H7 hs7 ⟨b7,rfl,hb7⟩;refine(Zak∘ZaX∘ZeC∘Za0) ?_;refine z7 (wh L Z Z (zm Z) Z Z Z (fun u H hH hle _=>ia (zte:=R) (caps:=[.pointer (some ⟨b7,0,none⟩)]) (pr:=fun z=>kr (((f.1.1.1,f.1.1.2),f.1.2),n3,false) z) (x:=(((f.1.1.1,f.1.1.2),f.1.2),n3)) Z (fun y u' H' hH' hle'=>ah (f:=(((f.1.1.1,f.1.1.2),f.1.2),n3,false)) Z hH' (hle' _ _ (hle _ _ hb7))) (fun u' H' hH' hle'=>hr1 _ u' H' hH' (hs7.le.trans (hle.trans hle'))) (by rw[hts];exact o4 _ _) (by rw[hkt];exact hR) T hH (ht.le (hs7.le.trans hle)))) Z ?_;refine ZeU (h:=?_);refine F6 53 rfl (ui 8 tyU 6 rfl (Nf 53 (US R true) Z ns (fun v H h=>h) ?_))
     refine xm (fun y:Nat×List U=>[(3,.sat (At (fcs f) tyF 0)),(8,.own (SlR tyU 6 y.2.length (y.2.flatMap ucs))),(53,.sat (US R true)),(54,.is (.int .i64 R.length)),(55,.is (.int .i64 y.1))])
      (fun y=>y.1<=R.length/\y.2=(R.take y.1).filter (kr f)) (fun y=>R.length-y.1) (0,[]) ⟨mc _,rfl⟩ ⟨rfl,rfl,rfl,rfl,rfl,nm⟩ ?_
     rintro⟨k,out⟩ ⟨hk,hout⟩;dsimp only at hk hout |-;have hol:out.length<=k:=by rw[hout];exact mp (zqu ..) (by rw[mg];omega)
     by_cases hlt:k<R.length
     ·obtain⟨t1,ht1⟩:=xk hlt;have hc:=f9 ht1;have htk:R.take (k+1)=R.take k++[t1]:=Az ht1;cases htt:kr f t1
      ·have ho:out=(R.take (k+1)).filter (kr f):=by rw[htk,zp2,<-hout];simp [htt]
       refine(Ze∘Za5∘Z6∘Zao∘Zau∘Za1∘Zah∘Zar∘ZcT∘Zay) ?_;refine z71 L Z (fun u H hH _=>gl htt hH) ?_;refine(Zch∘ZaV∘ZX) ?_;exact jk (x:=(k,out)) (k+1,out) Since.refl ⟨hlt,ho⟩ G ⟨Z,Z,Z,Z,Z,nm⟩
      ·have ho:out++[t1]=(R.take (k+1)).filter (kr f):=by rw[htk,zp2,<-hout];simp [htt]
       refine(Ze∘Za5∘Z6∘Zao∘Zau∘Za1∘Zah∘Zar∘ZcT∘Zay) ?_;refine z71 L Z (fun u H hH _=>gl htt hH) ?_;refine(Zw∘Zbv) ?_;refine qe (yr (.inl Z) Z) ((Zay∘ZV∘Zcy) ?_);refine qe (yr (.inr Z) Z) ((Zax∘ZaV∘ZX) ?_);exact jk (x:=(k,out)) (k+1,out++[t1]) Since.refl ⟨hlt,ho⟩ G ⟨Z,ut Z,Z,Z,Z,nm⟩
     ·obtain rfl:k=R.length:=by omega
      rw[m9,hrun] at hout;subst hout;refine(Ze∘Za5∘Zav∘Zcz) ?_;refine qe (yr (.inl Z) Z) (qe (c9 L (q:=67) Z Z Z Z Z (fun u H C x hH hle hx hC=>R5 hH hx hC)) (qe (yr (.inr Z) Z) (ZF (h:=?_))));exact p9 Z (fun _ _ h=>h) hs7 Z
 ·rw[nc hE] at hM;subst hM;refine(Zaj∘ZG∘ZcT) ?_;refine z71 L Z (fun u H hH _=>Ft hz Z hH) ?_;refine(ZaO∘Z9∘Zc) ?_;exact zl6 4 tyU 6 rfl (zns 4 rfl (p9 Z (fun _ _ h=>h) nq Z))
end Go.V.L6
namespace Go.V.L6
open Go.V.L2 Go.V.L3
def _root_.ZaH(t:Wr Y->A:=by intro h;refine z7 (zw L (vs:=[_,_,_,_]) (y9 Z) Z Z Z Z ⟨_,rfl⟩) Z ?_;exact h.1)(h:Y):A:=t ⟨h⟩
def _root_.ZeV(t:Wr Y->A:=by intro h;refine z7 (yu (cs:=[_,_,_,_,_,_,_]) Z Z zn1 Z Z) Z ?_;exact h.1)(h:Y):A:=t ⟨h⟩
def _root_.Zfs(t:Wr Y->A:=by intro h;refine z8 (Ac Z Z Z Z znk M Z) Z ?_;exact h.1)(h:Y):A:=t ⟨h⟩
def LE2.out{v:Value}(h:TupS [φ,fun v _=>v=a] v H):∃ tv,v=.tuple #[tv,a]/\φ tv H:=by
 obtain⟨vs,rfl,hl,h⟩:=h
 match vs,hl with
 | [x,y],_=>
  have h1:=h 0 _ x rfl rfl;have h2:=h 1 _ y rfl rfl;subst h2;exact⟨x,rfl,h1⟩
def WithP(l:List U)(e:Int)(r:Value)(H:Heap):Prop:=∃ tv,r=.tuple #[tv,.int .i64 e]/\SetV l tv H
def WithP.mono:Kn.mono (.sat (WithP l e)):=fun _ _ _ ⟨tv,h1,h2⟩ hle=>⟨tv,h1,h2.le hle⟩
def c7(hl:l.length<=100000)(hB:zth B w)(hv:SetV l v B):Ret zti 11 [v] w B (US l true):=(zkd hl hB hv).toRet d8
def Qk{g:Ed}(hM:zjk l g=zte)(hl:l.length<=100000)(hB:zth B w)(hv:SetV l v B):Ret zti 89 [v,g3v g] w B (US zte true):=(zm1 hM hl hB hv).toRet d8
def E0{Y:List U}(hM:zjl l f=Y)(hl:l.length<=100000)(hz:FM f)(hB:zth B w)(hv:SetV l v B):Ret zti 27 [v,fv f] w B (US Y true):=(zg0 hM hl hz hB hv).toRet zdp
def Ax{d:Bool}(hr:wo l x d=(m,e))(hl:l.length<=4096)(hz:TZ x)(hB:zth B w)(hv:SetV l v B):
  Ret zti 41 [v,chv x d] w B (WithP m e):=(zby hr hl hz hB hv).mono fun _ _ _ h=>LE2.out h
attribute [local irreducible] V N X VO Par StepOK Has Ret RetL RetO RetT Src
abbrev zo3:Nat:=72
def zak{a b:List U}{fa fb:Bool}(hla:a.length<=1000000)(hlb:b.length<=1000000)(hr:decide (a=b)=r){va vb:Value}(hB:zth B w)(ha:US a fa va B)(hb:US b fb vb B):
  Ret zti zo3 [va,vb] w B (fun v _=>v=.bool r):=by
 subst hr;refine yn Tryz.func72 Z Tryz.ntmps72 (np Z) hB (k8 0 (US a fa) Z ns ha (k8 1 (US b fb) Z ns hb ?_));by_cases hl:a.length=b.length
 ·refine(ZP∘ZG∘Zg∘Zg∘Zaq∘Z1∘ZK∘Zg∘ZaW) ?_;refine xm (fun k:Nat=>[(0,.sat (US a fa)),(1,.sat (US b fb)),(12,.is (.int .i64 a.length)),(13,.is (.int .i64 k))]) (fun k=>k<=a.length/\a.take k=b.take k) (fun k=>a.length-k) 0 ⟨mc _,rfl⟩ ⟨Z,Z,Z,Z,nm⟩ ?_;rintro k ⟨hk,he⟩;by_cases hlt:k<a.length
  ·obtain⟨x,hx⟩:=xk hlt;obtain⟨y,hy⟩:=xk (show k<b.length by omega);have hcx:=f9 hx;have hcy:=f9 hy;by_cases hxy:x=y
   ·have hq:=eqU (nf hxy);refine(Zci∘ZU∘Zd∘ZcK∘ZaT∘ZaT∘Zfs∘ZaN∘Zda∘ZaE∘Zv∘ZX) ?_;exact ym (x:=k) (k+1) ⟨hlt,by rw[Az hx,Az hy,he,hxy]⟩ T ⟨Z,Z,Z,Z,nm⟩
   ·have hq:=eqU (ng hxy);have hab:a≠b:=fun e=>hxy (by rw[e,hy] at hx;exact(Option.some.inj hx).symm);rw[ng hab];refine(Zci∘ZU∘Zd∘ZcK∘ZaT∘ZaT∘Zfs∘ZbW∘Ze∘ZC∘Zc) ?_;exact yj2 L [.tmp 4]
  ·obtain rfl:k=a.length:=by omega
   have hab:a=b:=by rw[m9,hl,m9] at he;exact he
   rw[nf hab];refine(ZcI∘Zav∘ZM∘Zc) ?_;exact yj2 L [.tmp 4]
 ·have hab:a≠b:=fun e=>hl (by rw[e]);rw[ng hab];refine(ZP∘ZG∘Zg∘Zg∘ZaO∘Z9∘Zc) ?_;exact yj2 L [.tmp 4]
def K9{a b:List U}(hla:a.length<=100000)(hlb:b.length<=100000)(hr:decide (a=b)=r){va vb:Value}(hB:zth B w)(ha:SetV a va B)(hb:SetV b vb B):
  Ret zti 23 [va,vb] w B (fun v _=>v=.bool r):=by
 obtain⟨f1,p1,f2,q1,hsh,hpl⟩:=ha.shape;subst hsh;obtain⟨f3,p3,f4,q3,hsh,hpl3⟩:=hb.shape;subst hsh;refine yn Tryz.func23 Z Tryz.ntmps23 (np Z) hB ((Zaj∘Zag∘Zd∘ZdP∘Zl∘Zd7) ?_);refine z8 (xg (φ:=US a true) L Z Z (zm Z) Z Z Z ns (fun u H hH hle _=>c7 hla hH (ha.le hle))) Z ((Zl∘Zd7) ?_);refine z8 (xg (φ:=US b true) L Z Z (zm Z) Z Z Z ns (fun u H hH hle _=>c7 hlb hH (hb.le hle))) Z (z8 (q0 L Z Z (zm Z) Z Z Z (fun u H hH _ _ v1 h1 v2 h2=>zak T T hr hH h1 h2)) Z (ZaB (h:=?_)));exact yj2 L [.tmp 4]
def Vz{l m:List U}(hr:ofU [] l=(m,e))(hl:l.length<=100000)(hz:∀ t∈l,TZ t)(hB:zth B w)(hv:US l fu v B):
  Ret zti 6 [v] w B (WithP m e):=by
 refine yn Tryz.func6 Z Tryz.ntmps6 (np Z) hB (k8 0 (US l fu) Z ns hv ((Zbm∘Zag∘ZbP∘Z9∘Zg∘ZaW) ?_));refine ay (X:=SXp) 4 (r:=fun x=>Cell (scs x.1) ou) (φ:=Eh []) (jb []) ⟨(.nilFunc,none,.nilFunc,none),rfl⟩ SetV.nil Z ?_
 refine xm (fun y:Nat×List U=>[(2,.own (Cell [.nilFunc,.pointer none,.nilFunc,.pointer none] ou)),(4,.own (ExR (fun x:SXp=>Cell (scs x.1) ou) (Eh y.2) (jb y.2))),(9,.sat (US l fu)),(10,.is (.int .i64 l.length)),(11,.is (.int .i64 y.1))])
  (fun y=>y.1<=l.length/\ofU y.2 (l.drop y.1)=(m,e)/\y.2.length<=4096) (fun y=>l.length-y.1) (0,[]) ⟨mc _,hr,mc _⟩ ⟨rfl,rfl,rfl,rfl,rfl,nm⟩ ?_
 rintro⟨k,s⟩ ⟨hk,he,hsl⟩;dsimp only at hk he hsl |-;refine v9 4 rfl fun⟨⟨f1,p1,f2,q1⟩,hpl⟩ H3 hs3 hT=>?_;have hT:SetV s (.agg #[f1,.pointer p1,f2,.pointer q1]) H3:=hT;by_cases hlt:k<l.length
 ·obtain⟨t,ht⟩:=xk hlt;have hc:=f9 ht;have hzt:=hz t (zpa ht);rw[bn ht,ofU] at he;rcases hw:wo s t false with ⟨s',e'⟩
  rw[hw] at he;dsimp only at he;have hsl':=B7 hsl t false;rw[hw] at hsl';by_cases h0:e'=0
  ·rw[na h0] at he;subst h0;refine(Zbl∘Z6∘Z2∘Zau∘Za1∘Zah∘Zt∘ZaH∘Zay∘ZeV) ?_;refine z7 (xg (φ:=WithP s' 0) L rfl rfl (zm rfl) rfl rfl rfl WithP.mono (fun u H hH hle _=>Ax hw hsl hzt hH (hT.le hle))) rfl (vk 19 rfl ?_);rintro _ H19 hs19 ⟨tv,rfl,hT19⟩;obtain⟨g1,r1,g2,r2,rfl,hpl2⟩:=hT19.shape;refine(ZB∘ZZ∘Zby∘Zj∘ZQ∘Zaq∘Zae∘Zbi∘Zv∘ZaH∘Zby∘Zax∘ZM∘ZX) ?_;exact ot (X:=SXp) 4 (r:=fun x=>Cell (scs x.1) ou) (φ:=Eh s') (jb _) ⟨(g1,r1,g2,r2),hpl2⟩ hT19 Z (jk (x:=(k,s)) (k+1,s') (hs3.trans hs19) ⟨hlt,he,hsl'⟩ G ⟨Z,Z,Z,Z,Z,nm⟩)
  ·rw[nc h0] at he;cases he;refine(Zbl∘Z6∘Z2∘Zau∘Za1∘Zah∘Zt∘ZaH∘Zay∘ZeV) ?_;refine z7 (xg (φ:=WithP s' e) L rfl rfl (zm rfl) rfl rfl rfl WithP.mono (fun u H hH hle _=>Ax hw hsl hzt hH (hT.le hle))) rfl (vk 19 rfl ?_);rintro _ H19 hs19 ⟨tv,rfl,hT19⟩;obtain⟨g1,r1,g2,r2,rfl,hpl2⟩:=hT19.shape;refine(ZB∘ZZ∘Zby∘Zj∘ZQ∘ZaO∘ZC∘Zdt∘Za∘Zbf) ?_;refine yj L (rs:=[.cell 2 37,.tmp 3]) Z (fun _ _ h=>h) (hs3.trans hs19) fun u H hH hle=>?_;exact⟨_,y9 Z,rfl,_,rfl,SetV.nil⟩
 ·obtain rfl:k=l.length:=by omega
  rw[zq9,ofU] at he;cases he;refine(Zbl∘Zav∘ZI∘ZaH∘Zby∘Zc) ?_;refine yj L (rs:=[.cell 2 37,.tmp 3]) Z (fun _ _ h=>h) hs3 fun u H hH hle=>?_;exact⟨_,y9 Z,rfl,_,rfl,hT.le hle⟩
end Go.V.L6
namespace Go.V.L3
open Go.V.L2
attribute [local irreducible] V N X VO Par StepOK Has Ret RetL RetO RetT Src
end Go.V.L3
namespace Go.V.L6
open Go.V.L2 Go.V.L3
abbrev R6(l:List U)(e:Int):Value->Heap->Prop:=TupS [US l false,fun v _=>v=.int .i64 e]
def R6.mono{l:List U}{e:Int}:Kn.mono (.sat (R6 l e)):=LE2.mono ns
def zcr(hs:Sst ku l)(x:U):ox l [x] true false false=l.filter fun z=>decide (z≠x):=by
 refine lf cmpT_ord (gm cmpT_ord Sst.nil) (hs.sublist zrb) fun z=>?_;unfold ox af;rw[gz,zpg,zpg];unfold du;simp only[mh,m4,zqe,false_or,Bool.and_true,Bool.and_false,Bool.or_false,zpm,decide_eq_true_eq,zsk,decide_eq_false_iff_not,ne_eq];constructor
 ·rintro⟨_,h1,h2⟩;exact⟨h1,h2⟩
 ·rintro⟨h1,h2⟩;exact⟨.inl h1,h1,h2⟩
def zgz(hs:Sst ku l)(hx:x∉l):ox l [x] true true true=om ku x l:=by
 refine lf cmpT_ord (gm cmpT_ord Sst.nil) (dw cmpT_ord hs hx) fun z=>?_;unfold ox af;rw[gz,zpg,ud];unfold du;simp only[mh,m4,zqe,false_or,Bool.and_true,zru,zpm,decide_eq_true_eq,zsk,decide_eq_false_iff_not];constructor
 ·rintro⟨h,_⟩;exact h.symm
 ·rintro(rfl | h)
  ·exact⟨.inr Z,.inr ⟨hx,rfl⟩⟩
  ·refine⟨.inl h,.inl (.inl ⟨h,fun e=>?_⟩)⟩;subst e;exact hx h
def zfh(t:U):tE t=0\/tE t=6:=by
 unfold tE;split
 ·exact K6 _ _ _
 ·rename_i h;exact .inr ((By _).resolve_left h)
def Ko{x z:U}{d:Bool}(h:z∈(wo l x d).1):z∈l\/z=x:=by
 unfold wo at h;split at h
 ·split at h
  ·exact .inl (zpg.1 h).1
  ·split at h
   ·exact .inl h
   ·split at h
    ·cases h
    ·exact(ud.1 h).symm
 ·cases h
attribute [local irreducible] V N X VO Par StepOK Has Ret RetL RetO RetT Src
def V1{l m:List U}{d fu:Bool}(hr:wo l x d=(m,e))(hs:Sst ku l)(hl:l.length<=90000)(hz:TZ x)(zl:∀ t∈l,TZ t)(hB:zth B w)(hv:US l fu v B):
  Ret zti 43 [v,chv x d] w B (R6 m e):=by
 have z1:∀ t∈[x],TZ t:=fun t ht=>by rw[m4] at ht;subst ht;exact hz
 have zx1:([x]:List U).length<=100000:=show 1<=100000 by decide
 have key:∀ {a b c:Bool} (u:World) (H:Heap) (v1 v2:Value),zth H u->US l fu v1 H->SlB (ucs x) tyU 1 v2 H->(a=true/\b=false/\c=false\/a=true/\b=true/\c=true)->Ret zti 110 [v1,v2,.bool a,.bool b,.bool c] u H (US (ox l [x] a b c) false):=by
  rintro a b c u H v1 v2 hH h1 h2 (⟨rfl,rfl,rfl⟩ | ⟨rfl,rfl,rfl⟩)
  ·exact V6 (y:=[x]) T zx1 zl z1 hH h1 (h2.toV Z)
  ·exact V5 (y:=[x]) T zx1 zl z1 hH h1 (h2.toV Z)
 refine yn Tryz.func43 Z Tryz.ntmps43 (np Z) hB (k8 0 (US l fu) Z ns hv ?_);unfold wo at hr;by_cases he:tE x=0
 ·rw[na he] at hr;cases d
  ·rw[nc E] at hr;by_cases hx:x∈l
   ·rw[na hx] at hr;cases hr;have hin:(if x∈l then 1 else 0:Int)=1:=na hx;refine(Zu∘Zo∘ZG∘ZbI) ?_;refine z71 L Z (fun u H hH _=>he ▸ dh hz hH) ?_;refine(Zaq∘Z1∘ZK∘Zq∘Z1∘Zt∘Zk∘ZbI) ?_;refine z7 (q0 L Z Z (zm Z) Z Z Z (fun u H hH _ _ v1 h1=>wu T hin hH h1)) Z ((ZW∘ZD∘Zs∘Zk∘Zat∘Zc) ?_);refine yj1 L [.tmp 4,.tmp 5] fun u H hH hle=>?_;exact fun v hv=>LE2.mk hv.nofu
   ·rw[nc hx] at hr;have hin:(if x∈l then 1 else 0:Int)=0:=nc hx;by_cases hf:l.length>=4096
    ·rw[na hf] at hr;cases hr;refine(Zu∘Zo∘ZG∘ZbI) ?_;refine z71 L Z (fun u H hH _=>he ▸ dh hz hH) ?_;refine(Zaq∘Z1∘ZK∘Zq∘Z1∘Zt∘Zk∘ZbI) ?_;refine z7 (q0 L Z Z (zm Z) Z Z Z (fun u H hH _ _ v1 h1=>wu T hin hH h1)) Z ((Zx∘Z1∘ZC∘Zg∘Zb3∘ZD∘Zv∘ZR) ?_);refine yj1 L [.tmp 4,.tmp 5] fun u H hH hle=>?_;exact LE2.mk SlV.nil
    ·rw[nc hf] at hr;cases hr;rw[<-zgz hs hx];refine(Zu∘Zo∘ZG∘ZbI) ?_;refine z71 L Z (fun u H hH _=>he ▸ dh hz hH) ?_;refine(Zaq∘Z1∘ZK∘Zq∘Z1∘Zt∘Zk∘ZbI) ?_;refine z7 (q0 L Z Z (zm Z) Z Z Z (fun u H hH _ _ v1 h1=>wu T hin hH h1)) Z ((Zx∘Z1∘ZC∘Zg∘Za4∘Zm∘ZM∘Zk∘ZbI∘ZV) ?_);refine z7 (xg (φ:=US (ox l [x] true true true) false) L Z Z (zm Z) Z Z Z ns (fun u H hH _ _ v1 h1 v2 h2=>key u H v1 v2 hH h1 h2 (.inr ⟨rfl,rfl,rfl⟩))) Z ((Zat∘Zc) ?_);refine yj1 L [.tmp 4,.tmp 5] fun u H hH hle=>?_;exact fun v hv=>LE2.mk hv
  ·rw[na rfl] at hr;cases hr;rw[<-zcr hs x];refine(Zu∘Zo∘ZG∘ZbI) ?_;refine z71 L Z (fun u H hH _=>he ▸ dh hz hH) ?_;refine(Zaq∘Z1∘ZK∘Zq∘ZD∘Z2∘Zk∘ZbI∘ZV) ?_;refine z7 (xg (φ:=US (ox l [x] true false false) false) L Z Z (zm Z) Z Z Z ns (fun u H hH _ _ v1 h1 v2 h2=>key u H v1 v2 hH h1 h2 (.inl ⟨rfl,rfl,rfl⟩))) Z ((Zat∘Zc) ?_);refine yj1 L [.tmp 4,.tmp 5] fun u H hH hle=>?_;exact fun v hv=>LE2.mk hv
 ·have h6:=(zfh x).resolve_left he;rw[nc he,h6] at hr;cases hr;refine(Zu∘Zo∘ZG∘ZbI) ?_;refine z71 L Z (fun u H hH _=>h6 ▸ dh hz hH) ?_;refine(ZaO∘Z9∘ZR) ?_;refine yj1 L [.tmp 4,.tmp 5] fun u H hH hle=>?_;exact LE2.mk SlV.nil
end Go.V.L6
namespace Go.V.L2
def TM(t:U):Prop:=(t.1.1.1.size<=9223372036854775807/\t.1.1.2.size<=9223372036854775807/\t.1.2.size<=9223372036854775807)/\t.2.1.1.size<=9223372036854775807/\t.2.1.2.size<=9223372036854775807/\t.2.2.size<=9223372036854775807
attribute [local irreducible] V N X VO Par StepOK Has Ret RetL Src
end Go.V.L2
namespace Go.V.L8
open Go.V.L2 Go.V.L3 Go.V.L6
abbrev tyM:TypeId:=82
abbrev tyC:TypeId:=77
abbrev zoj:TypeId:=151
abbrev zok:TypeId:=74
def ccs(c:CH):List Value:=[.string c.1.1.1.1,.string c.1.1.1.2,.string c.1.1.2,.string c.1.2.1.1,.string c.1.2.1.2,.string c.1.2.2,.bool c.2]
def za4(c:CH):(ccs c).length=7:=rfl
abbrev KS(ty:TypeId)(l:List CH)(fu:Bool):Value->Heap->Prop:=SlV ty 7 (l.flatMap ccs) l.length fu
def El{l:List CH}(h:l[i]?=some c):((l.flatMap ccs).drop (i*7)).take 7=[.string c.1.1.1.1,.string c.1.1.1.2,.string c.1.1.2,.string c.1.2.1.1,.string c.1.2.1.2,.string c.1.2.2,.bool c.2]:=fw za4 l i c h
def ft{r:List CH}(h:κ s=some (.own (SlR ty 7 (r.length+1) (r.flatMap ccs++[.string c.1.1.1.1,.string c.1.1.1.2,.string c.1.1.2,.string c.1.2.1.1,.string c.1.2.1.2,.string c.1.2.2,.bool c.2])))):κ s=some (.own (SlR ty 7 (r++[c]).length ((r++[c]).flatMap ccs))):=by
 rw[h,zpl,nr];rfl
def znm{l:List CH}(hl:¬ n<l.length)(hc:l[i]?=some c)(h:¬ tE c.1=0):cE n l=6:=by
 unfold cE;rw[nc hl,na];rw[zr3];exact⟨c,zpa hc,by simp [h]⟩
def zlw{l:List CH}(hl:¬ n<l.length)(h:∀ (j:Nat) c,l[j]?=some c->tE c.1=0):cE n l=0:=by
 unfold cE;rw[nc hl,nc];rw[zr3];rintro⟨c,hc,h1⟩;obtain⟨j,hj⟩:=zp1 hc;rw[nf (h j c hj)] at h1;cases h1
attribute [local irreducible] V N X VO Par StepOK Has Ret RetL RetO RetT Src
def Vj(hz:TM t)(hB:zth B w):Ret zti 104 [uv t] w B (fun v _=>v=.int .i64 (tE t)):=by
 obtain⟨⟨z1,z2,z3⟩,z4,z5,z6⟩:=hz;unfold tE;refine yn Tryz.func104 Z Tryz.ntmps104 (np Z) hB ?_;by_cases h:u5 [t.1.1.1,t.1.1.2,t.1.2]=0
 ·rw[na h];refine(Zu∘ZG∘ZbE) ?_;refine z71 L Z (fun u H hH _=>goal_ret Q Q Q hH) ?_;refine(Zbx∘Zb8∘Z2∘ZbE∘Zf9∘Zc) ?_;exact yj2 L [.tmp 2]
 ·rw[nc h];refine(Zu∘ZG∘ZbE) ?_;refine z71 L Z (fun u H hH _=>goal_ret Q Q Q hH) ?_;refine(Zbx∘ZaO∘ZA∘Zc) ?_;exact yj2 L [.tmp 2]
def zh1{l:List CH}(hc0:l[i]?=some c)(hB:zth B w)(hb:B b=some (.cells #[v] zoj))(hv:KS tyM l fu v B):
  Ret zti 245 ([.int .i64 i]++[.pointer (some ⟨b,0,none⟩)]) w B (fun r _=>r=uv c.1):=by
 have hc:=El hc0;have hil:=get_lt hc0;refine yn Tryz.func245 Z Tryz.ntmps245 (np Z) hB ((Zce∘ZE∘ZcB) ?_);refine uj 4 (KS tyM l fu) Z ns hv ((Zee∘ZeB∘Za1∘Za2) ?_);refine yj1 L [.cell 3 57] fun u H hH hle=>?_;refine ZcM (h:=?_);rfl
def zi1{l:List CH}(hc0:l[i]?=some c)(hB:zth B w)(hb:B b=some (.cells #[v] zok))(hv:KS tyC l fu v B):
  Ret zti 246 ([.int .i64 i]++[.pointer (some ⟨b,0,none⟩)]) w B (fun r _=>r=uv c.1):=by
 have hc:=El hc0;have hil:=get_lt hc0;refine yn Tryz.func246 Z Tryz.ntmps246 (np Z) hB ((Zce∘ZE∘ZcB) ?_);refine uj 4 (KS tyC l fu) Z ns hv ((Zee∘ZeB∘Za1∘Za2) ?_);refine yj1 L [.cell 3 57] fun u H hH hle=>?_;refine ZcM (h:=?_);rfl
def Fc{l:List CH}{cf:Nat}(hz:∀ c∈l,TM c.1)(hl:l.length<=9223372036854775807)(hfn:L.fn cf=some ())(he:cE 32 l=e)(hB:zth B w)
  (hcl:∀ (i:Nat) (c:CH),l[i]?=some c->∀ (u:World) (H:Heap),zth H u->B.Le H->Ret zti cf ([.int .i64 i]++caps) u H (fun r _=>r=uv c.1)):
  Ret zti 244 [.int .i64 l.length,.func (.func cf) #[] caps.toArray] w B (fun v _=>v=.int .i64 e):=by
 subst he;refine yn Tryz.func244 Z Tryz.ntmps244 (np Z) hB ?_;by_cases h32:32<l.length
 ·have:cE 32 l=3:=na h32;rw[this];refine(ZbT∘ZO∘Zcj∘Zc) ?_;exact yj2 L [.tmp 4]
 ·refine(ZbT∘ZL∘Z1∘Zc8∘Zdl) ?_;refine xm (fun i:Nat=>[(1,.is (.func (.func cf) #[] caps.toArray)),(9,.is (.int .i64 l.length)),(10,.is (.int .i64 i))]) (fun i=>i<=l.length/\∀ (j:Nat) c,j<i->l[j]?=some c->tE c.1=0) (fun i=>l.length-i) 0 ⟨mc _,fun j c h=>ni h (Nat.not_lt_zero _)⟩ ⟨Z,Z,Z,nm⟩ ?_;rintro i ⟨hi,hok⟩;by_cases hlt:i<l.length
  ·obtain⟨c,hc⟩:=xk hlt;have hzc:=hz c (zpa hc);by_cases h0:tE c.1=0
   ·refine(Zci∘ZU∘Zd∘Zs∘Zb) ?_;refine z7 (q0 L Z Z (zm Z) Z Z hfn (fun u H hH hle _=>hcl i c hc u H hH hle)) Z (z71 L Z (fun u H hH _=>h0 ▸ Vj hzc hH) ?_);refine(Zd∘Z8∘Zaq∘Zch∘ZM∘ZX) ?_
    exact ym (x:=i) (i+1) ⟨hlt,fun j c' hj hc'=>by
     rcases m8 j i with h | h
     ·exact hok j c' h hc'
     ·have:j=i:=T;subst this;rw[hc] at hc';cases hc';exact h0⟩ T ⟨rfl,rfl,rfl,nm⟩
   ·have h6:=(zfh c.1).resolve_left h0;rw[znm h32 hc h0];refine(Zci∘ZU∘Zd∘Zs∘Zb) ?_;refine z7 (q0 L Z Z (zm Z) Z Z hfn (fun u H hH hle _=>hcl i c hc u H hH hle)) Z (z71 L Z (fun u H hH _=>h6 ▸ Vj hzc hH) ?_);refine(Zd∘Z8∘ZaO∘ZaQ∘Zc) ?_;exact yj2 L [.tmp 4]
  ·rw[zlw h32 (fun j c hj=>hok j c (by have:=get_lt hj;omega) hj)];refine(ZcI∘Zav∘ZI∘Zc) ?_;exact yj2 L [.tmp 4]
def Lc{e:TypeId}{xs:List Value}(h:SlV e s xs n fu v H):∃ p m c,v=.slice p m c:=by
 rcases h.2 with ⟨_,_,h⟩ | ⟨b,off,cap,cs,ty0,fr,h,_⟩
 ·exact⟨_,_,_,h⟩
 ·exact⟨_,_,_,h⟩
def i7{l:List CH}(hz:∀ c∈l,TM c.1)(hl:l.length<=9223372036854775807)(he:cE 32 l=e)(hB:zth B w)(hv:KS tyM l fu v B):
  Ret zti 193 [v] w B (fun r _=>r=.int .i64 e):=by
 obtain⟨p,m,c,rfl⟩:=Lc hv;refine yn Tryz.func193 Z Tryz.ntmps193 (np Z) hB ((Zu∘Zd) ?_);refine ri 1 rfl fun q H1 hs1 ⟨b,hpb,hb1⟩=>?_;subst hpb;refine(ZE∘ZcB) ?_;refine uj 3 (KS tyM l fu) Z ns (hv.le hs1.le) ((Zcv∘Za0) ?_);refine z71 L Z (fun u H hH hle=>Fc (caps:=[.pointer (some ⟨b,0,none⟩)]) hz hl Z he hH (fun i c hc u' H' hH' hle'=>zh1 hc hH' (hle' _ _ (hle _ _ hb1)) ((hv.le hs1.le).le (Heap.Le.trans hle hle')))) ?_;refine Zc (h:=?_);refine yj L (rs:=[.tmp 2]) Z (fun _ _ h=>h) hs1 fun u H hH hle=>?_;rfl
end Go.V.L8
namespace Go.V.L11
open Go.V.L2 Go.V.L4 Go.V.Bd Go.V.L8
attribute [local irreducible] V N X VO Par StepOK Has Ret RetL RetO RetT kx RetX RetY Src
end Go.V.L11
namespace Go.V
section
variable {α β:Type} [DecidableEq α] [DecidableEq β] {k:α->β} {c:β->β->Int}
def Eqv(k:α->β)(S S':List α):Prop:=∀ t,S'.filter (fun x=>decide (k x=t))=S.filter (fun x=>decide (k x=t))
def Srt(k:α->β)(c:β->β->Int)(l:List α):Prop:=l.Pairwise fun x y=>¬ c (k y) (k x)<0
def Stb(k:α->β)(c:β->β->Int)(S S':List α):Prop:=Srt k c S'/\Eqv k S S'
omit [DecidableEq α] in
theorem Eqv.refl(S:List α):Eqv k S S:=fun _=>rfl
omit [DecidableEq α] in
theorem Eqv.trans{A B C:List α}(h1:Eqv k A B)(h2:Eqv k B C):Eqv k A C:=fun t=>(h2 t).trans (h1 t)
omit [DecidableEq α] in
theorem Eqv.app{A A' B B':List α}(h1:Eqv k A A')(h2:Eqv k B B'):Eqv k (A++B) (A'++B'):=fun t=>by rw[zp2,zp2,h1 t,h2 t]
omit [DecidableEq α] in
theorem Eqv.swap{A B:List α}(h:∀ a∈A,∀ b∈B,k a≠k b):Eqv k (A++B) (B++A):=fun t=>by
 rw[zp2,zp2];by_cases ha:∃ a∈A,k a=t
 ·obtain⟨a,ha,rfl⟩:=ha;have:B.filter (fun x=>decide (k x=k a))=[]:=zre.2 fun b hb e=>h a ha b hb (by simpa using e:k b=k a).symm;rw[this,mo,mi]
 ·have:A.filter (fun x=>decide (k x=t))=[]:=zre.2 fun a h1 e=>ha ⟨a,h1,by simpa using e⟩;rw[this,mo,mi]
theorem Eqv.count{S S':List α}(h:Eqv k S S')(x:α):S'.count x=S.count x:=by
 have e:∀ l:List α,(l.filter fun y=>decide (k y=k x)).count x=l.count x:=fun l=>List.count_filter (by simp);rw[<-e S',<-e S,h (k x)]
theorem Eqv.perm{S S':List α}(h:Eqv k S S'):S'.Perm S:=List.perm_iff_count.2 fun x=>h.count x
theorem Eqv.length{S S':List α}(h:Eqv k S S'):S'.length=S.length:=h.perm.length_eq
theorem Eqv.mem{S S':List α}(h:Eqv k S S'){x:α}:x∈S'↔x∈S:=h.perm.mem_iff
omit [DecidableEq α] [DecidableEq β] in
theorem de{A B:List α}:Srt k c (A++B)↔Srt k c A/\Srt k c B/\∀ a∈A,∀ b∈B,¬ c (k b) (k a)<0:=zp4
omit [DecidableEq α] [DecidableEq β] in
theorem Yr(ho:Ord3 c){a b:β}(h:c a b<0):b≠a:=fun e=>by subst e;exact ho.irr _ h
omit [DecidableEq α] in
theorem Nz(ho:Ord3 c){A B:List α}{x:α}(hs:Srt k c (A++B))(ha:∀ a∈A,¬ c (k x) (k a)<0)(hb:∀ b∈B,c (k x) (k b)<0):Stb k c (A++B++[x]) (A++x::B):=by
 obtain⟨s1,s2,s3⟩:=de.1 hs;refine⟨de.2 ⟨s1,mj.2 ⟨fun b h=>ho.asym (hb b h),s2⟩,fun a h b hm=>?_⟩,?_⟩
 ·rcases ma.1 hm with rfl | hm
  ·exact ha a h
  ·exact s3 a h b hm
 ·rw[mn]
  exact(Eqv.refl A).app (Eqv.swap (A:=B) (B:=[x]) fun b h y hy=>by
   simp at hy;subst hy;exact Yr ho (hb b h))
omit [DecidableEq α] in
theorem zgu(ho:Ord3 c){A B:List α}{x:α}(hs:Srt k c (A++B))(ha:∀ a∈A,c (k a) (k x)<0)(hb:∀ b∈B,¬ c (k b) (k x)<0):Stb k c (x::(A++B)) (A++x::B):=by
 obtain⟨s1,s2,s3⟩:=de.1 hs;refine⟨de.2 ⟨s1,mj.2 ⟨hb,s2⟩,fun a h b hm=>?_⟩,?_⟩
 ·rcases ma.1 hm with rfl | hm
  ·exact ho.asym (ha a h)
  ·exact s3 a h b hm
 ·have e:A++x::B=A++[x]++B:=by simp
  have e2:x::(A++B)=[x]++A++B:=by simp
  rw[e,e2]
  exact(Eqv.swap (A:=[x]) (B:=A) fun y hy a h=>by
   simp at hy;subst hy;exact Yr ho (ha a h)).app (Eqv.refl B)
theorem zck(ho:Ord3 c){A1 A2 B1 B2 S1 S2:List α}(hA:Srt k c (A1++A2))(hB:Srt k c (B1++B2))(h12:∀ a∈A2,∀ b∈B1,c (k b) (k a)<0)(h21:∀ a∈A1,∀ b∈B2,¬ c (k b) (k a)<0)
  (h1:Stb k c (A1++B1) S1) (h2:Stb k c (A2++B2) S2):Stb k c (A1++A2++(B1++B2)) (S1++S2):=by
 obtain⟨a1,a2,a3⟩:=de.1 hA;obtain⟨b1,b2,b3⟩:=de.1 hB;refine⟨de.2 ⟨h1.1,h2.1,fun x hx y hy=>?_⟩,?_⟩
 ·rcases mh.1 (h1.2.mem.1 hx) with hx | hx<;>rcases mh.1 (h2.2.mem.1 hy) with hy | hy
  ·exact a3 x hx y hy
  ·exact h21 x hx y hy
  ·exact ho.asym (h12 y hy x hx)
  ·exact b3 x hx y hy
 ·refine Eqv.trans ?_ (h1.2.app h2.2);have e1:A1++A2++(B1++B2)=A1++(A2++B1)++B2:=by simp
  have e2:A1++B1++(A2++B2)=A1++(B1++A2)++B2:=by simp
  rw[e1,e2];exact((Eqv.refl A1).app (Eqv.swap fun a ha b hb=>Yr ho (h12 a ha b hb))).app (Eqv.refl B2)
omit [DecidableEq α] [DecidableEq β] in
theorem ax(ho:Ord3 c){l:List α}(h:Srt k c l){i j:Nat}{x y:α}(hi:l[i]?=some x)(hj:l[j]?=some y)(hij:i<=j):¬ c (k y) (k x)<0:=by
 rcases m8 i j with h1 | h1
 ·obtain⟨hi',rfl⟩:=zqc.1 hi;obtain⟨hj',rfl⟩:=zqc.1 hj;exact zqz.1 h i j hi' hj' h1
 ·have:i=j:=T;subst this;rw[hi] at hj;cases hj;exact ho.irr _
end
end Go.V
section
open Go.V
attribute [local irreducible] Has N Par Ret RetL Src StepOK V VO X
namespace Go.V.L8
open Go.V.L2 Go.V.L3 Go.V.L6
abbrev zC:CH:=((n3,n3),false)
def Y4(l:List CH)(t:U)(z:CH):CH:=l.foldl (fun a c=>if c.1=t then c else a) z
def fq(l:List CH)(t:U):Option CH:=(l.filter fun c=>decide (c.1=t)).getLast?
def Y2(t:U):fq [] t=none:=rfl
def fm(c:CH)(l:List CH)(t:U):fq (c::l) t=(fq l t).or (if c.1=t then some c else none):=by
 unfold fq;by_cases h:c.1=t
 ·rw[na h,zq1 (by simpa using h),List.getLast?_cons];cases (l.filter fun c=>decide (c.1=t)).getLast?<;>rfl
 ·rw[nc h,zrs (by simpa using h)];cases (l.filter fun c=>decide (c.1=t)).getLast?<;>rfl
def pu{l:List CH}(h:fq l t=some c):c.1=t/\c∈l:=by
 have:=List.mem_of_getLast? h;rw[zpg] at this;exact⟨by simpa using this.2,this.1⟩
def bi{l:List CH}:fq l t=none↔∀ c∈l,c.1≠t:=by
 unfold fq;rw[List.getLast?_eq_none_iff,zre];simp
def Rj(l:List CH)(t:U)(z:CH):Y4 l t z=(fq l t).getD z:=by
 induction l generalizing z with
 | nil=>rfl
 | cons c r ih=>
  have:Y4 (c::r) t z=Y4 r t (if c.1=t then c else z):=rfl;rw[this,ih,fm]
  cases fq r t with
  | some d=>rfl
  | none=>by_cases h:c.1=t<;>simp [h]
def Ms{l:List CH}{z:CH}(h:∃ c∈l,c.1=t):fq l t=some (Y4 l t z):=by
 rw[Rj]
 cases hk:fq l t with
 | some d=>rfl
 | none=>obtain⟨c,hc,he⟩:=h;exact ni he (bi.1 hk c hc)
def Dk(l:List CH):List CH:=(af (l.map (·.1))).map fun t=>Y4 l t zC
def r5:t∈af l↔t∈l:=by unfold af;rw[gz];simp
def Lb(l:List U):Sst ku (af l):=gm cmpT_ord Sst.nil
def Mi{l:List CH}:c∈Dk l↔fq l c.1=some c:=by
 unfold Dk;rw[zo9];constructor
 ·rintro⟨t,ht,rfl⟩;rw[r5,zo9] at ht;have:=Ms (z:=zC) ht;rw[(pu this).1];exact this
 ·intro h;have hm:=pu h;exact⟨c.1,r5.2 (zo9.2 ⟨c,hm.2,rfl⟩),by rw[Rj,h];rfl⟩
def T3(l:List CH):(Dk l).map (·.1)=af (l.map (·.1)):=by
 unfold Dk;rw[zri]
 conv=>rhs;rw[<-zsb (af (l.map (·.1)))]
 refine zso fun t ht=>?_;rw[r5,zo9] at ht;exact(pu (Ms (z:=zC) ht)).1
def Ng(l:List CH):Prop:=Sst ku (l.map (·.1))
def Mh(l:List CH):Ng (Dk l):=by unfold Ng;rw[T3];exact Lb _
def se{l:List CH}(h:Ng l):l.Pairwise fun a b=>a.1≠b.1:=by
 unfold Ng Sst at h;rw[List.pairwise_map] at h;exact h.imp fun h1=>cmpT_ord.ne h1
def Ye{l m:List CH}(hl:Ng l)(hm:Ng m)(h:∀ c,c∈l↔c∈m):l=m:=by
 have hk:l.map (·.1)=m.map (·.1):=lf cmpT_ord hl hm fun t=>by
  rw[zo9,zo9];exact⟨fun⟨c,hc,e⟩=>⟨c,(h c).1 hc,e⟩,fun⟨c,hc,e⟩=>⟨c,(h c).2 hc,e⟩⟩
 have uni:∀ {l:List CH},Ng l->∀ a∈l,∀ b∈l,a.1=b.1->a=b:=fun {l} hn a ha b hb e=>by
  by_cases hab:a=b
  ·exact hab
  ·exfalso;obtain⟨i,hi⟩:=zp1 ha;obtain⟨j,hj⟩:=zp1 hb;obtain⟨hi',rfl⟩:=zqc.1 hi;obtain⟨hj',rfl⟩:=zqc.1 hj;have hp:=zqz.1 (se hn);rcases zsm i j with h | h | h
   ·exact hp i j hi' hj' h e
   ·subst h;exact hab rfl
   ·exact hp j i hj' hi' h e.symm
 have hlen:l.length=m.length:=by rw[<-my (f:=(·.1)),hk,my]
 refine List.ext_getElem hlen fun i h1 h2=>?_
 have e:l[i].1=m[i].1:=by
  have:=nh (·[i]?) hk;simp only[zpr,zpt h1,zpt h2,zqs,Option.some.injEq] at this;exact this
 exact uni hm _ ((h _).1 (List.getElem_mem h1)) _ (List.getElem_mem h2) e
def an:List CH->List CH
 | []=>[]
 | [c]=>[c]
 | c::d::r=>if ku c.1 d.1=0 then an (d::r) else c::an (d::r)
def Ud{l:List CH}(h:l[i]?=some c):an (l.drop i)=(match l[i+1]? with | none=>[c] | some d=>if ku c.1 d.1=0 then [] else [c])++an (l.drop (i+1)):=by
 have h1:l.drop i=c::l.drop (i+1):=bn h;rw[h1]
 cases h2:l[i+1]? with
 | none=>
  have:l.drop (i+1)=[]:=zpi (by simpa using h2);rw[this];rfl
 | some d=>
  have h3:l.drop (i+1)=d::l.drop (i+1+1):=bn h2;rw[h3];show(if ku c.1 d.1=0 then _ else _)=(if ku c.1 d.1=0 then _ else _)++_;split<;>rfl
def Fg:∀ {S:List CH},Srt (·.1) ku S->(∀ c∈an S,fq S c.1=some c)/\(∀ x∈S,∃ c∈an S,c.1=x.1)/\Ng (an S)
 | [],_=>⟨fun c hc=>(by cases hc),fun c hc=>(by cases hc),Sst.nil⟩
 | [c],_=>by
  have e:an [c]=[c]:=rfl;rw[e];refine⟨fun d hd=>?_,fun x hx=>⟨x,hx,rfl⟩,zqr _ _⟩;rw[m4] at hd;subst hd;rw[fm,na rfl];rfl
 | c::d::r,h=>by
  obtain⟨h1,h2⟩:=mj.1 h;obtain⟨g1,g2,g3⟩:=Fg (S:=d::r) h2;have e:an (c::d::r)=if ku c.1 d.1=0 then an (d::r) else c::an (d::r):=rfl
  by_cases h0:ku c.1 d.1=0
  ·rw[e,na h0];have hcd:=cmpT_ord.eq _ _ h0;refine⟨fun x hx=>by rw[fm,g1 x hx];rfl,fun x hx=>?_,g3⟩;rcases ma.1 hx with rfl | hx
   ·obtain⟨y,hy,e⟩:=g2 d (mb ..);exact⟨y,hy,e.trans hcd.symm⟩
   ·exact g2 x hx
  ·rw[e,nc h0]
   have hlt:∀ y∈d::r,ku c.1 y.1<0:=fun y hy=>by
    have hcd:ku c.1 d.1<0:=by
     have h3:=h1 d (mb ..);have:=cmpT_ord.anti c.1 d.1;dsimp only at h3;omega
    rcases ma.1 hy with rfl | hy
    ·exact hcd
    ·have h3:=(mj.1 h2).1 y hy;dsimp only at h3;by_cases h5:ku d.1 y.1<0
     ·exact cmpT_ord.tr hcd h5
     ·have h6:ku d.1 y.1=0:=by have:=cmpT_ord.anti d.1 y.1;omega
      rw[<-cmpT_ord.eq _ _ h6];exact hcd
   refine⟨fun x hx=>?_,fun x hx=>?_,?_⟩
   ·rcases ma.1 hx with rfl | hx
    ·rw[fm,na rfl,bi.2 fun y hy e=>cmpT_ord.irr x.1 (by rw[<-e];exact ni (hlt y hy) (by rw[e];exact cmpT_ord.irr _))];rfl
    ·rw[fm,g1 x hx];rfl
   ·rcases ma.1 hx with rfl | hx
    ·exact⟨x,mb ..,rfl⟩
    ·obtain⟨y,hy,e⟩:=g2 x hx;exact⟨y,me _ hy,e⟩
   ·unfold Ng;rw[mw];refine mj.2 ⟨fun t ht=>?_,g3⟩;obtain⟨y,hy,rfl⟩:=zo9.1 ht;exact hlt y (pu (g1 y hy)).2
def Y7{l S:List CH}(h:Stb (·.1) ku l S):an S=Dk l:=by
 obtain⟨g1,g2,g3⟩:=Fg h.1;have hK:∀ t,fq S t=fq l t:=fun t=>by unfold fq;rw[h.2 t]
 refine Ye g3 (Mh l) fun c=>?_;rw[Mi];constructor
 ·exact fun hc=>by rw[<-hK];exact g1 c hc
 ·intro hc;rw[<-hK] at hc;obtain⟨d,hd,e⟩:=g2 c (pu hc).2;have:=g1 d hd;rw[e,hc] at this;cases this;exact hd
end Go.V.L8
namespace Go.V.L11
open Go.V.L2 Go.V.L4 Go.V.L8
attribute [local irreducible] RetO RetT kx RetX RetY
end Go.V.L11
namespace Go.V.L2
def _root_.Zdu(t:Wr Y->A:=by intro h;refine z8 (yf L 0 rfl Z Z Z (by first | omega | decide) M) Z ?_;exact h.1)(h:Y):A:=t ⟨h⟩
def _root_.Zd8(t:Wr Y->A:=by intro h;refine z7 (yf L 0 rfl Z Z Z (by first | omega | decide) M) Z ?_;exact h.1)(h:Y):A:=t ⟨h⟩
def _root_.Zbe(t:Wr Y->A:=by intro h;refine ze (id:=20) ?_;exact h.1)(h:Y):A:=t ⟨h⟩
def _root_.Zc0(t:Wr Y->A:=by intro h;refine ze (id:=21) ?_;exact h.1)(h:Y):A:=t ⟨h⟩
def _root_.ZcY(t:Wr Y->A:=by intro h;refine ze (id:=22) ?_;exact h.1)(h:Y):A:=t ⟨h⟩
def S5{tv:Value}(h:φ tv H):TupS [φ,fun v _=>v=a] (.tuple #[tv,a]) H:=
 ⟨[tv,a],rfl,rfl,fun i ψ x hi hx=>by
  rcases i with _ | _ | i
  ·simp at hi hx;subst hi hx;exact h
  ·simp at hi hx;subst hi hx;rfl
  ·simp at hi⟩
def S4(h:Kn.mono (.sat φ)):Kn.mono (.sat (TupS [φ,fun v _=>v=a])):=TupS.mono fun ψ hψ=>by
 rcases ma.1 hψ with rfl | hψ
 ·exact h
 ·rw[m4] at hψ;subst hψ;exact fun _ _ _ h _=>h
def fk{α:Type}{c:α->α->Int}{f:Bool->Bool->Bool}:∀ (n:Nat) (l m:List α),l.length+m.length<=n->(g9 c f n l m).length<=l.length+m.length
 | 0,_,_,_=>by simp [g9]
 | n+1,[],[],_=>by simp [g9]
 | n+1,a::l,[],h=>by
  have:=fk (c:=c) (f:=f) n l [] (by simp only[nz,mz] at h |-;omega);simp only[g9,nr,nz,mz] at this |-;split<;>simp only[nz,mz]<;>omega
 | n+1,[],b::m,h=>by
  have:=fk (c:=c) (f:=f) n [] m (by simp only[nz,mz] at h |-;omega);simp only[g9,nr,nz,mz] at this |-;split<;>simp only[nz,mz]<;>omega
 | n+1,a::l,b::m,h=>by
  simp only[nz] at h;have h1:=fk (c:=c) (f:=f) n l (b::m) (by simp only[nz];omega);have h2:=fk (c:=c) (f:=f) n (a::l) m (by simp only[nz];omega);have h3:=fk (c:=c) (f:=f) n l m T;simp only[nz] at h1 h2;simp only[g9];split
  ·rw[nr];split<;>simp only[nz,mz]<;>omega
  ·split
   ·rw[nr];split<;>simp only[nz,mz]<;>omega
   ·rw[nr];split<;>simp only[nz,mz]<;>omega
def zk4(f:Bool->Bool->Bool)(l m:List U):List U×Int:=
 if 4096<l.length\/4096<m.length then ([],3) else if (isB l && isB m)=true then (g9 ku f (l.length+m.length) l m,0) else ([],18)
abbrev LE(r:List U×Int):Value->Heap->Prop:=TupS [US r.1 true,fun v _=>v=.int .i64 r.2]
def LE.mono{r:List U×Int}:Kn.mono (.sat (LE r)):=S4 ns
def Gk(a:U)(l:List U):(((a::l).flatMap ucs).drop (1*6)).take (((a::l).length-1)*6)=l.flatMap ucs:=by
 rw[zp0,List.drop_left' (by rfl),nz,zst,zpf (zrk (re Ge l))]
def B9{out:List U}(h:κ s=some (.own (SlR tyU 6 (out.length+1) (out.flatMap ucs++[.string t.1.1.1,.string t.1.1.2,.string t.1.2,.string t.2.1.1,.string t.2.1.2,.string t.2.2])))):κ s=some (.own (SlR tyU 6 (out++[t]).length ((out++[t]).flatMap ucs))):=by
 rw[h,zpl,nr];simp [ucs]
def Ym{f:Bool->Bool->Bool}{tf:Nat}(hfn:L.fn tf=some ())(hf:∀ (p q:Bool) (u:World) (H:Heap),zth H u->Ret zti tf [.bool p,.bool q] u H (fun v _=>v=.bool (f p q))){l m:List U}{fa fb:Bool}
  {r:List U×Int} (hr:zk4 f l m=r) {v v2:Value}   (hB:zth B w) (hv:US l fa v B) (hv2:US m fb v2 B):
  Ret zti 93 [v,v2,.func (.func tf) #[] #[]] w B (LE r):=by
 subst hr;unfold zk4;refine yn Tryz.func93 Z Tryz.ntmps93 (np Z) hB (k8 0 (US l fa) Z ns hv (k8 1 (US m fb) Z ns hv2 ?_));by_cases z1:4096<l.length
 ·rw[na (.inl z1)];refine(Zb2∘ZG∘Zg∘ZO∘ZbU∘Zcj∘ZR) ?_;refine yj1 L [.tmp 6,.tmp 7] fun u H hH hle=>?_;exact S5 SlV.nil
 ·by_cases z2:4096<m.length
  ·rw[na (.inr z2)];refine(Zb2∘ZG∘Zg∘ZL∘Za∘Zg∘ZO∘Zbb∘Z9∘ZR) ?_;refine yj1 L [.tmp 6,.tmp 7] fun u H hH hle=>?_;exact S5 SlV.nil
  ·rw[nc T];cases h1:isB l
   ·rw[nc (by simp)];refine(Zb2∘ZG∘Zg∘ZL∘Za∘Zg∘ZL∘Zh∘Z1∘ZK∘Zk) ?_;refine z7 (q0 L Z Z (zm Z) Z Z Z (fun u H hH _ _ v1 hv1=>ov T h1 hH hv1)) Z ((Zr∘ZbU∘ZD∘Z2∘ZR) ?_);refine yj1 L [.tmp 6,.tmp 7] fun u H hH hle=>?_;exact S5 SlV.nil
   ·cases h2:isB m
    ·rw[nc (by simp)];refine(Zb2∘ZG∘Zg∘ZL∘Za∘Zg∘ZL∘Zh∘Z1∘ZK∘Zk) ?_;refine z7 (q0 L Z Z (zm Z) Z Z Z (fun u H hH _ _ v1 hv1=>ov T h1 hH hv1)) Z ((Zr∘Za∘Zk) ?_);refine z7 (q0 L Z Z (zm Z) Z Z Z (fun u H hH _ _ v1 hv1=>ov T h2 hH hv1)) Z ((Zr∘Zbb∘Z2∘ZR) ?_);refine yj1 L [.tmp 6,.tmp 7] fun u H hH hle=>?_;exact S5 SlV.nil
    ·rw[na (by rfl)];refine(Zb2∘ZG∘Zg∘ZL∘Za∘Zg∘ZL∘Zh∘Z1∘ZK∘Zk) ?_;refine z7 (q0 L Z Z (zm Z) Z Z Z (fun u H hH _ _ v1 hv1=>ov T h1 hH hv1)) Z ((Zr∘Za∘Zk) ?_);refine z7 (q0 L Z Z (zm Z) Z Z Z (fun u H hH _ _ v1 hv1=>ov T h2 hH hv1)) Z ((Zr∘ZbX∘Zt∘Zd∘Zam) ?_);refine Nf 0 (US l false) Z ns (fun _ _ h=>h.nofu) (Nf 1 (US m false) Z ns (fun _ _ h=>h.nofu) (ui 8 tyU 6 rfl ?_))
     refine xm (fun s:Nat×List U×List U×List U=>[(0,.sat (US s.2.1 false)),(1,.sat (US s.2.2.1 false)),(2,.is (.func (.func tf) #[] #[])),(8,.own (SlR tyU 6 s.2.2.2.length (s.2.2.2.flatMap ucs)))])
      (fun s=>s.2.1.length+s.2.2.1.length<=s.1/\s.2.2.2++g9 ku f s.1 s.2.1 s.2.2.1=g9 ku f (l.length+m.length) l m/\s.2.2.2.length+s.2.1.length+s.2.2.1.length<=8192) (fun s=>s.1) (l.length+m.length,l,m,[]) ⟨nu _,rfl,by simp only[mz];omega⟩ ⟨rfl,rfl,rfl,rfl,nm⟩ ?_
     generalize g9 ku f (l.length+m.length) l m=R;clear h1 h2 z1 z2 hv hv2;rintro⟨n,x,y,out⟩ ⟨hn,hR,hz⟩;dsimp only at hn hR hz |-;rcases x with _ | ⟨a,x⟩
     ·rcases y with _ | ⟨b,y⟩
      ·have hR:out=R:=by rw[<-hR];cases n<;>simp [g9]
       subst hR;have l0:([]:List U).length=0:=rfl;refine(Zf∘Zs∘Zg∘ZL∘Za∘Zg∘ZL∘Zh∘Zas) ?_;refine uq 8 rfl ((ZcY∘Zk∘Zg∘Zg∘ZdO∘Zat∘Zc) ?_);refine yj1 L [.tmp 6,.tmp 7] fun u H hH hle=>?_;exact fun v hv=>S5 hv
      ·have l0:([]:List U).length=0:=rfl;have lb:(b::y).length=y.length+1:=rfl;have hb:=f9 (l:=b::y) (i:=0) (t:=b) rfl;have tb:=Gk b y;rcases n with _ | n
       ·simp only[nz,mz] at hn;omega
       cases hft:f false true
       ·have hR:out++g9 ku f n [] y=R:=by rw[<-hR];simp [g9,hft]
        have hfv:∀ (u:World) (H:Heap),zth H u->Ret zti tf [.bool false,.bool true] u H (fun v _=>v=.bool false):=fun u H h=>by have:=hf false true u H h;rwa [hft] at this
        refine(Zf∘Zs∘Zg∘ZL∘Za∘Zg∘ZO∘Zh∘ZbO∘ZC∘Zd∘ZH∘ZM∘Zg∘ZW∘Zcd∘ZI∘Zai∘Zbz∘Zak∘Zcm∘Zbs∘ZbG∘ZO∘Zw∘Zao∘Zk∘Zd8∘Za1∘Zbd∘Zan∘ZaV∘Za∘ZbZ∘Zcz∘Zk) ?_;refine z7 (jp L (kh:=.i64) (ph:=0) (km:=.i64) (pm:=0) 1 _ false Z Z Z Z Z ⟨rfl,rfl⟩ ⟨rfl,rfl⟩ (fun h=>by cases h) T T M) Z ?_;refine(Zat∘Zi∘Zbe∘Zb∘Zc7∘Za∘Zb3) ?_;refine z7 (q0 L Z Z (zm Z) Z Z hfn (fun u H hH _ _=>hfv u H hH)) Z ((Zae∘Za7) ?_);exact ym (x:=(n+1,[],b::y,out)) (n,[],y,out) ⟨by simp only[List.length_cons,List.length_nil] at hn |-;omega,hR,by simp only[List.length_cons,List.length_nil,List.length_append] at hz |-;omega⟩ G ⟨Z,Z,Z,Z,nm⟩
       ·have hR:out++[b]++g9 ku f n [] y=R:=by rw[<-hR];simp [g9,hft]
        have hfv:∀ (u:World) (H:Heap),zth H u->Ret zti tf [.bool false,.bool true] u H (fun v _=>v=.bool true):=fun u H h=>by have:=hf false true u H h;rwa [hft] at this
        refine(Zf∘Zs∘Zg∘ZL∘Za∘Zg∘ZO∘Zh∘ZbO∘ZC∘Zd∘ZH∘ZM∘Zg∘ZW∘Zcd∘ZI∘Zai∘Zbz∘Zak∘Zcm∘Zbs∘ZbG∘ZO∘Zw∘Zao∘Zk∘Zd8∘Za1∘Zbd∘Zan∘ZaV∘Za∘ZbZ∘Zcz∘Zk) ?_;refine z7 (jp L (kh:=.i64) (ph:=0) (km:=.i64) (pm:=0) 1 _ false Z Z Z Z Z ⟨rfl,rfl⟩ ⟨rfl,rfl⟩ (fun h=>by cases h) T T M) Z ?_;refine(Zat∘Zi∘Zbe∘Zb∘Zc7∘Za∘Zb3) ?_;refine z7 (q0 L Z Z (zm Z) Z Z hfn (fun u H hH _ _=>hfv u H hH)) Z ((Zw∘Zc0) ?_);refine qe (yr (.inl Z) Z) ((Zay∘ZV∘Zcy) ?_);refine qe (yr (.inr Z) Z) ((Zac∘Za7) ?_);exact ym (x:=(n+1,[],b::y,out)) (n,[],y,out++[b]) ⟨by simp only[List.length_cons,List.length_nil] at hn |-;omega,hR,by simp only[List.length_cons,List.length_nil,List.length_append] at hz |-;omega⟩ G ⟨Z,Z,Z,B9 Z,nm⟩
     ·have la:(a::x).length=x.length+1:=rfl;have ha:=f9 (l:=a::x) (i:=0) (t:=a) rfl;have ta:=Gk a x;rcases y with _ | ⟨b,y⟩
      ·have l0:([]:List U).length=0:=rfl;rcases n with _ | n
       ·simp only[nz,mz] at hn;omega
       cases hft:f true false
       ·have hR:out++g9 ku f n x []=R:=by rw[<-hR];simp [g9,hft]
        have hfv:∀ (u:World) (H:Heap),zth H u->Ret zti tf [.bool true,.bool false] u H (fun v _=>v=.bool false):=fun u H h=>by have:=hf true false u H h;rwa [hft] at this
        refine(Zf∘Zs∘Zg∘ZO∘ZbU∘ZbO∘ZC∘Zd∘ZH∘ZM∘Zg∘Zx∘Za6∘ZY∘Zg∘ZW∘Zcd∘Zaa∘Zai∘Zbz∘Zak∘Zcm∘Zbs∘ZbG∘ZL∘ZcV∘Zar∘Zk∘Zd8∘Za1∘Za2∘Zbv∘Zk) ?_;refine z7 (jp L (kh:=.i64) (ph:=0) (km:=.i64) (pm:=0) 1 _ false Z Z Z Z Z ⟨rfl,rfl⟩ ⟨rfl,rfl⟩ (fun h=>by cases h) T T M) Z ?_;refine(Zat∘Zan∘ZaV∘Za∘Za4∘Zm∘Zbe∘Zb∘ZcF∘Za∘Za4) ?_;refine z7 (q0 L Z Z (zm Z) Z Z hfn (fun u H hH _ _=>hfv u H hH)) Z ((Zae∘Za7) ?_);exact ym (x:=(n+1,a::x,[],out)) (n,x,[],out) ⟨by simp only[List.length_cons,List.length_nil] at hn |-;omega,hR,by simp only[List.length_cons,List.length_nil,List.length_append] at hz |-;omega⟩ G ⟨Z,Z,Z,Z,nm⟩
       ·have hR:out++[a]++g9 ku f n x []=R:=by rw[<-hR];simp [g9,hft]
        have hfv:∀ (u:World) (H:Heap),zth H u->Ret zti tf [.bool true,.bool false] u H (fun v _=>v=.bool true):=fun u H h=>by have:=hf true false u H h;rwa [hft] at this
        refine(Zf∘Zs∘Zg∘ZO∘ZbU∘ZbO∘ZC∘Zd∘ZH∘ZM∘Zg∘Zx∘Za6∘ZY∘Zg∘ZW∘Zcd∘Zaa∘Zai∘Zbz∘Zak∘Zcm∘Zbs∘ZbG∘ZL∘ZcV∘Zar∘Zk∘Zd8∘Za1∘Za2∘Zbv∘Zk) ?_;refine z7 (jp L (kh:=.i64) (ph:=0) (km:=.i64) (pm:=0) 1 _ false Z Z Z Z Z ⟨rfl,rfl⟩ ⟨rfl,rfl⟩ (fun h=>by cases h) T T M) Z ?_;refine(Zat∘Zan∘ZaV∘Za∘Za4∘Zm∘Zbe∘Zb∘ZcF∘Za∘Za4) ?_;refine z7 (q0 L Z Z (zm Z) Z Z hfn (fun u H hH _ _=>hfv u H hH)) Z ((Zw∘Zc0) ?_);refine qe (yr (.inl Z) Z) ((Zay∘ZV∘Zcy) ?_);refine qe (yr (.inr Z) Z) ((Zac∘Za7) ?_);exact ym (x:=(n+1,a::x,[],out)) (n,x,[],out++[a]) ⟨by simp only[List.length_cons,List.length_nil] at hn |-;omega,hR,by simp only[List.length_cons,List.length_nil,List.length_append] at hz |-;omega⟩ G ⟨Z,Z,Z,B9 Z,nm⟩
      ·have lb:(b::y).length=y.length+1:=rfl;have hb:=f9 (l:=b::y) (i:=0) (t:=b) rfl;have tb:=Gk b y;by_cases c1:ku a b<0
       ·rcases n with _ | n
        ·simp only[nz,mz] at hn;omega
        cases hft:f true false
        ·have hR:out++g9 ku f n x (b::y)=R:=by rw[<-hR];simp [g9,c1,hft]
         have hfv:∀ (u:World) (H:Heap),zth H u->Ret zti tf [.bool true,.bool false] u H (fun v _=>v=.bool false):=fun u H h=>by have:=hf true false u H h;rwa [hft] at this
         refine(Zf∘Zs∘Zg∘ZO∘ZbU∘ZbO∘ZC∘Zd∘ZH∘ZM∘Zg∘Zx∘Za6∘ZY∘Zg∘Zx∘Zo∘ZaL∘ZcH∘Zab∘Zdu∘Zcl∘Zab∘Zdu∘Zcl) ?_;refine z81 L Z (fun u H hH _=>ju hH) ?_;refine(ZaM∘Zck∘Za7∘Zbz∘Zak∘Zcm∘Zbs∘ZbG∘ZL∘ZcV∘Zar∘Zk∘Zd8∘Za1∘Za2∘Zbv∘Zk) ?_;refine z7 (jp L (kh:=.i64) (ph:=0) (km:=.i64) (pm:=0) 1 _ false Z Z Z Z Z ⟨rfl,rfl⟩ ⟨rfl,rfl⟩ (fun h=>by cases h) T T M) Z ?_;refine(Zat∘Zan∘ZaV∘Za∘Za4∘Zm∘Zbe∘Zb∘ZcF∘Za∘Za4) ?_;refine z7 (q0 L Z Z (zm Z) Z Z hfn (fun u H hH _ _=>hfv u H hH)) Z ((Zae∘Za7) ?_);exact ym (x:=(n+1,a::x,b::y,out)) (n,x,(b::y),out) ⟨by simp only[List.length_cons,List.length_nil] at hn |-;omega,hR,by simp only[List.length_cons,List.length_nil,List.length_append] at hz |-;omega⟩ G ⟨Z,Z,Z,Z,nm⟩
        ·have hR:out++[a]++g9 ku f n x (b::y)=R:=by rw[<-hR];simp [g9,c1,hft]
         have hfv:∀ (u:World) (H:Heap),zth H u->Ret zti tf [.bool true,.bool false] u H (fun v _=>v=.bool true):=fun u H h=>by have:=hf true false u H h;rwa [hft] at this
         refine(Zf∘Zs∘Zg∘ZO∘ZbU∘ZbO∘ZC∘Zd∘ZH∘ZM∘Zg∘Zx∘Za6∘ZY∘Zg∘Zx∘Zo∘ZaL∘ZcH∘Zab∘Zdu∘Zcl∘Zab∘Zdu∘Zcl) ?_;refine z81 L Z (fun u H hH _=>ju hH) ?_;refine(ZaM∘Zck∘Za7∘Zbz∘Zak∘Zcm∘Zbs∘ZbG∘ZL∘ZcV∘Zar∘Zk∘Zd8∘Za1∘Za2∘Zbv∘Zk) ?_;refine z7 (jp L (kh:=.i64) (ph:=0) (km:=.i64) (pm:=0) 1 _ false Z Z Z Z Z ⟨rfl,rfl⟩ ⟨rfl,rfl⟩ (fun h=>by cases h) T T M) Z ?_;refine(Zat∘Zan∘ZaV∘Za∘Za4∘Zm∘Zbe∘Zb∘ZcF∘Za∘Za4) ?_;refine z7 (q0 L Z Z (zm Z) Z Z hfn (fun u H hH _ _=>hfv u H hH)) Z ((Zw∘Zc0) ?_);refine qe (yr (.inl Z) Z) ((Zay∘ZV∘Zcy) ?_);refine qe (yr (.inr Z) Z) ((Zac∘Za7) ?_);exact ym (x:=(n+1,a::x,b::y,out)) (n,x,(b::y),out++[a]) ⟨by simp only[List.length_cons,List.length_nil] at hn |-;omega,hR,by simp only[List.length_cons,List.length_nil,List.length_append] at hz |-;omega⟩ G ⟨Z,Z,Z,B9 Z,nm⟩
       ·by_cases c2:0<ku a b
        ·rcases n with _ | n
         ·simp only[nz,mz] at hn;omega
         cases hft:f false true
         ·have hR:out++g9 ku f n (a::x) y=R:=by rw[<-hR];simp [g9,c1,c2,hft]
          have hfv:∀ (u:World) (H:Heap),zth H u->Ret zti tf [.bool false,.bool true] u H (fun v _=>v=.bool false):=fun u H h=>by have:=hf false true u H h;rwa [hft] at this
          refine(Zf∘Zs∘Zg∘ZO∘ZbU∘ZbO∘ZC∘Zd∘ZH∘ZM∘Zg∘Zx∘Za6∘ZY∘Zg∘Zx∘Zo∘ZaL∘ZcH∘Zab∘Zdu∘Zcl∘Zab∘Zdu∘Zcl) ?_;refine z81 L Z (fun u H hH _=>ju hH) ?_;refine(ZaM∘Zck∘Za7∘Zbz∘Zak∘Zcm∘Zbs∘ZbG∘ZO∘Zw∘Zao∘Zk∘Zd8∘Za1∘Zbd∘Zan∘ZaV∘Za∘ZbZ∘Zcz∘Zk) ?_;refine z7 (jp L (kh:=.i64) (ph:=0) (km:=.i64) (pm:=0) 1 _ false Z Z Z Z Z ⟨rfl,rfl⟩ ⟨rfl,rfl⟩ (fun h=>by cases h) T T M) Z ?_;refine(Zat∘Zi∘Zbe∘Zb∘Zc7∘Za∘Zb3) ?_;refine z7 (q0 L Z Z (zm Z) Z Z hfn (fun u H hH _ _=>hfv u H hH)) Z ((Zae∘Za7) ?_);exact ym (x:=(n+1,a::x,b::y,out)) (n,(a::x),y,out) ⟨by simp only[List.length_cons,List.length_nil] at hn |-;omega,hR,by simp only[List.length_cons,List.length_nil,List.length_append] at hz |-;omega⟩ G ⟨Z,Z,Z,Z,nm⟩
         ·have hR:out++[b]++g9 ku f n (a::x) y=R:=by rw[<-hR];simp [g9,c1,c2,hft]
          have hfv:∀ (u:World) (H:Heap),zth H u->Ret zti tf [.bool false,.bool true] u H (fun v _=>v=.bool true):=fun u H h=>by have:=hf false true u H h;rwa [hft] at this
          refine(Zf∘Zs∘Zg∘ZO∘ZbU∘ZbO∘ZC∘Zd∘ZH∘ZM∘Zg∘Zx∘Za6∘ZY∘Zg∘Zx∘Zo∘ZaL∘ZcH∘Zab∘Zdu∘Zcl∘Zab∘Zdu∘Zcl) ?_;refine z81 L Z (fun u H hH _=>ju hH) ?_;refine(ZaM∘Zck∘Za7∘Zbz∘Zak∘Zcm∘Zbs∘ZbG∘ZO∘Zw∘Zao∘Zk∘Zd8∘Za1∘Zbd∘Zan∘ZaV∘Za∘ZbZ∘Zcz∘Zk) ?_;refine z7 (jp L (kh:=.i64) (ph:=0) (km:=.i64) (pm:=0) 1 _ false Z Z Z Z Z ⟨rfl,rfl⟩ ⟨rfl,rfl⟩ (fun h=>by cases h) T T M) Z ?_;refine(Zat∘Zi∘Zbe∘Zb∘Zc7∘Za∘Zb3) ?_;refine z7 (q0 L Z Z (zm Z) Z Z hfn (fun u H hH _ _=>hfv u H hH)) Z ((Zw∘Zc0) ?_);refine qe (yr (.inl Z) Z) ((Zay∘ZV∘Zcy) ?_);refine qe (yr (.inr Z) Z) ((Zac∘Za7) ?_);exact ym (x:=(n+1,a::x,b::y,out)) (n,(a::x),y,out++[b]) ⟨by simp only[List.length_cons,List.length_nil] at hn |-;omega,hR,by simp only[List.length_cons,List.length_nil,List.length_append] at hz |-;omega⟩ G ⟨Z,Z,Z,B9 Z,nm⟩
        ·rcases n with _ | n
         ·simp only[nz,mz] at hn;omega
         cases hft:f true true
         ·have hR:out++g9 ku f n x y=R:=by rw[<-hR];simp [g9,c1,c2,hft]
          have hfv:∀ (u:World) (H:Heap),zth H u->Ret zti tf [.bool true,.bool true] u H (fun v _=>v=.bool false):=fun u H h=>by have:=hf true true u H h;rwa [hft] at this
          refine(Zf∘Zs∘Zg∘ZO∘ZbU∘ZbO∘ZC∘Zd∘ZH∘ZM∘Zg∘Zx∘Za6∘ZY∘Zg∘Zx∘Zo∘ZaL∘ZcH∘Zab∘Zdu∘Zcl∘Zab∘Zdu∘Zcl) ?_;refine z81 L Z (fun u H hH _=>ju hH) ?_;refine(ZaM∘Zck∘Za7∘Zbz∘Zak∘Zcm∘Zbs∘ZbG∘ZL∘ZcV∘Zar∘Zk∘Zd8∘Za1∘Za2∘Zbv∘Zk) ?_;refine z7 (jp L (kh:=.i64) (ph:=0) (km:=.i64) (pm:=0) 1 _ false Z Z Z Z Z ⟨rfl,rfl⟩ ⟨rfl,rfl⟩ (fun h=>by cases h) T T M) Z ?_;refine(Zat∘Zan∘ZaV∘Za∘ZbZ∘Zcz∘Zk) ?_;refine z7 (jp L (kh:=.i64) (ph:=0) (km:=.i64) (pm:=0) 1 _ false Z Z Z Z Z ⟨rfl,rfl⟩ ⟨rfl,rfl⟩ (fun h=>by cases h) T T M) Z ?_;refine(Zat∘Zi∘Zbe∘Zb∘ZcF∘Za∘Zb3) ?_;refine z7 (q0 L Z Z (zm Z) Z Z hfn (fun u H hH _ _=>hfv u H hH)) Z ((Zae∘Za7) ?_);exact ym (x:=(n+1,a::x,b::y,out)) (n,x,y,out) ⟨by simp only[List.length_cons,List.length_nil] at hn |-;omega,hR,by simp only[List.length_cons,List.length_nil,List.length_append] at hz |-;omega⟩ G ⟨Z,Z,Z,Z,nm⟩
         ·have hR:out++[a]++g9 ku f n x y=R:=by rw[<-hR];simp [g9,c1,c2,hft]
          have hfv:∀ (u:World) (H:Heap),zth H u->Ret zti tf [.bool true,.bool true] u H (fun v _=>v=.bool true):=fun u H h=>by have:=hf true true u H h;rwa [hft] at this
          refine(Zf∘Zs∘Zg∘ZO∘ZbU∘ZbO∘ZC∘Zd∘ZH∘ZM∘Zg∘Zx∘Za6∘ZY∘Zg∘Zx∘Zo∘ZaL∘ZcH∘Zab∘Zdu∘Zcl∘Zab∘Zdu∘Zcl) ?_;refine z81 L Z (fun u H hH _=>ju hH) ?_;refine(ZaM∘Zck∘Za7∘Zbz∘Zak∘Zcm∘Zbs∘ZbG∘ZL∘ZcV∘Zar∘Zk∘Zd8∘Za1∘Za2∘Zbv∘Zk) ?_;refine z7 (jp L (kh:=.i64) (ph:=0) (km:=.i64) (pm:=0) 1 _ false Z Z Z Z Z ⟨rfl,rfl⟩ ⟨rfl,rfl⟩ (fun h=>by cases h) T T M) Z ?_;refine(Zat∘Zan∘ZaV∘Za∘ZbZ∘Zcz∘Zk) ?_;refine z7 (jp L (kh:=.i64) (ph:=0) (km:=.i64) (pm:=0) 1 _ false Z Z Z Z Z ⟨rfl,rfl⟩ ⟨rfl,rfl⟩ (fun h=>by cases h) T T M) Z ?_;refine(Zat∘Zi∘Zbe∘Zb∘ZcF∘Za∘Zb3) ?_;refine z7 (q0 L Z Z (zm Z) Z Z hfn (fun u H hH _ _=>hfv u H hH)) Z ((Zw∘Zc0) ?_);refine qe (yr (.inl Z) Z) ((Zay∘ZV∘Zcy) ?_);refine qe (yr (.inr Z) Z) ((Zac∘Za7) ?_);exact ym (x:=(n+1,a::x,b::y,out)) (n,x,y,out++[a]) ⟨by simp only[List.length_cons,List.length_nil] at hn |-;omega,hR,by simp only[List.length_cons,List.length_nil,List.length_append] at hz |-;omega⟩ G ⟨Z,Z,Z,B9 Z,nm⟩
end Go.V.L2
namespace Go.V.L11
open Go.V.L2 Go.V.L4
abbrev zjj:Nat:=41
abbrev tyI:Nat:=3
abbrev tyE:Nat:=38
attribute [local irreducible] RetO RetT kx RetX RetY
def Rv{y r:ByteArray}(h:Ki y=some r)(hs:y.size<=9223372036854775807)(hB:zth B w):
  Ret zti 131 [.string y,.string ⟨#[10]⟩] w B (fun v _=>v=.tuple #[.string r,.bool true]):=by
 have e1:=M0 h;have e:y.data.toList=r.data.toList++[10]:=by rw[e1,j7]
 have h1:Lib.hasSuffix y.data.toList [10]=true:=by
  rw[e];exact List.isSuffixOf_iff_suffix.2 (List.suffix_append _ _)
 refine Rw hs h1 ?_ hB;unfold Lib.trimSuffix;rw[na h1,e];apply dp;simp
def zir{y:ByteArray}(h:Ki y=none)(hs:y.size<=9223372036854775807)(hB:zth B w):
  Ret zti 131 [.string y,.string ⟨#[10]⟩] w B (fun v _=>v=.tuple #[.string y,.bool false]):=by
 have h1:Lib.hasSuffix y.data.toList [10]=false:=by
  cases hh:Lib.hasSuffix y.data.toList [10]
  ·rfl
  ·obtain⟨t,ht⟩:=List.isSuffixOf_iff_suffix.1 hh;unfold Ki at h;rw[na (by rw[<-ht];simp)] at h;cases h
 refine Rw hs h1 ?_ hB;unfold Lib.trimSuffix;rw[nc (by rw[h1];decide)]
def Tn{rd:ByteArray->U×Int}{rdf:Nat}(hfn:L.fn rdf=some ()){s:ByteArray}(hs:s.size<=1000000)(hB:zth B w)
  (hrd:∀ (r:ByteArray),r.size<=1000000->∀ (u:World) (H:Heap),zth H u->B.Le H->Ret zti rdf [.string r] u H (fun v _=>v=.tuple #[uv (rd r).1,.int .i64 (rd r).2])):
  Ret zti 71 [.string s,.func (.func rdf) #[] #[]] w B (TupS [US (Uw rd s).1 true,fun v _=>v=.int .i64 (Uw rd s).2.1,fun v _=>v=.int .i64 (Uw rd s).2.2]):=by
 have hF:Uw rd s=rq rd [] 1 (a8 s):=nc T;rw[hF];refine yn Tryz.func71 Z Tryz.ntmps71 (np Z) hB ((Zbu∘ZZ∘ZZ∘ZbP∘Zbp∘Zad∘ZL∘Zm∘ZK∘ZbP∘Z0) ?_);refine z7 (xg L Z Z (zm Z) Z Z Z LinAt.mono (fun u H hH _ _=>Yt hH)) Z (Zdl (h:=?_));refine k9 3 83 rfl fun b3=>?_;refine wk 83 rfl fun H1 hs1 _ hb3=>?_;refine k9 4 84 rfl fun b4=>?_;refine k9 5 85 rfl fun b5=>?_;refine k9 6 86 rfl fun b6=>?_;refine lh 7 rfl fun b7 hb7=>?_;refine Ec 87 tyU 6 (F7 87 [] Z Z ?_);refine ri 18 rfl fun v18 H2 hs2 ⟨lb,e18,hlb⟩=>?_;subst e18;have hsB:=hs1.trans hs2;have hnil:rq rd [] 1 (Nk [])=([],0,0):=rfl
 refine aw L (gf:=190) (caps:=[kg lb]) [(3,kg b3),(4,kg b4),(5,kg b5),(6,kg b6),(7,kg b7)]
  (fun pre=>[(84,xp b4 [.slice none 0 0] zjj),(85,xp b5 [.int .i64 (rq rd [] 1 (Nk pre)).2.1] tyI),(86,xp b6 [.int .i64 (rq rd [] 1 (Nk pre)).2.2] tyE),(87,zbu b7 zjj (SlR tyU 6 (Oo rd 1 (Nk pre)).length ((Oo rd 1 (Nk pre)).flatMap ucs)))])
  (fun pre x=>[(84,.own (xp b4 [.slice none 0 0] zjj)),(85,.own (xp b5 [.int .i64 (rq rd [] 1 (Nk pre)).2.1] tyI)),(86,.own (xp b6 [.int .i64 (rq rd [] 1 (Nk pre)).2.2] tyE)),(87,.own (zbu b7 zjj (SlR tyU 6 (Oo rd 1 (Nk pre)).length ((Oo rd 1 (Nk pre)).flatMap ucs)))),
   (3,.is (kg b3)),(4,.is (kg b4)),(5,.is (kg b5)),(6,.is (kg b6)),(7,.is (kg b7)),(8,.is (x.headD undef)),(9,.is (x.tail.headD undef))])
  (lq 1 (ug (a8 s))) (fun p=>!uk rd 1 (Nk p)) (fun _=>.ret) rfl rfl rfl ⟨rfl,rfl,rfl,rfl,rfl,rfl,rfl,rfl,rfl,nm⟩
  (fun pre p hp=>by simp only[ma,zqe,or_false] at hp;rcases hp with rfl | rfl | rfl | rfl<;>exact np rfl) rfl
  (fun x hx=>by obtain⟨p,q,e⟩:=zse hx;obtain⟨ls,y,_,rfl,_⟩:=Yc (pre:=p) (x:=x) ⟨q,by rw[e];simp⟩;rfl) E
  (fun u H hH hle=>Pd T hH (hle _ _ hlb)) ?asg ?bd ?dn ?st
 case asg=>
  intro w1 Ln B' l' D' o pre x' hpre hstp hBB;obtain⟨ls,y,rfl,rfl,hls⟩:=Yc hpre;refine(Ze∘Zt∘Zc∘Zs∘Zbw) ?_;exact zbn nq ⟨Z,Z,Z,Z,Z,Z,Z,Z,Z,Z,Z,nm⟩
 case bd=>
  intro w1 Ln B' l' D' o pre x' hpre hstp hBB;obtain⟨ls,y,rfl,rfl,hls⟩:=Yc hpre
  have hg:uk rd 1 ls=true:=by
   have:=hstp;rw[wy] at this;simpa using this
  have e3:=Di ls y;rw[<-e3];have hb3':=hBB _ _ (hs2.le _ _ hb3)
  have hln:ls.length+1<=1000000:=by
   have h1:=hls.length_le;have h2:=Hj s;rw[nr] at h1;simp at h1;omega
  have hys:y.size<=1000000:=by
   have:=Yw (s:=s) (y:=y) (hls.subset (by simp));omega
  rw[wy,Ol hg,Om hg];have hvl:(Eg rd ls).length<=ls.length:=P7;by_cases hn:4096<ls.length+1
  ·have hp:=Gy (rd:=rd) (ys:=[]) (y:=y) hg T;have hbad:uk rd 1 (ls++[y])=false:=by rw[da,hg];unfold Ka;simp;omega
   have how:Oo rd 1 (ls++[y])=Eg rd ls:=by rw[ew hg];unfold Oo;rw[if_pos (by unfold Ka;simp;omega),List.append_nil]
   refine(ZH∘Ze∘Z8∘ZO∘ZD∘ZaQ) ?_;refine xl (yo L (q:=84) (cs':=[.slice none 0 0]) Z Z Z Z Z) (xl (yo L (q:=85) (cs':=[.int .i64 ((ls.length+1:Nat):Int)]) Z Z Z Z Z) (xl (yo L (q:=86) (cs':=[.int .i64 3]) Z Z Z Z Z) (ZF (h:=?_))));refine F3 (Sp (Au (Uu nq (by rw[wy,hbad];rfl) Z ?_)));rw[wy,hp,how,zrm 1];exact⟨Z,Z,Z,Z,nm⟩
  ·cases he:Ki y with
   | none=>
    have hp:=C6 (rd:=rd) (ys:=[]) (y:=y) hg T he;have hbad:uk rd 1 (ls++[y])=false:=by rw[da,hg];unfold Ka;rw[he];simp
    have how:Oo rd 1 (ls++[y])=Eg rd ls:=by rw[ew hg];unfold Oo;rw[if_pos (by unfold Ka;rw[he];simp),List.append_nil]
    refine(ZH∘Ze∘Z8∘ZL∘Zm∘Zal) ?_;refine z71 L Z (fun u H hH _=>zir he T hH) ?_;refine(ZB∘ZaP∘ZI∘Za∘Zr∘ZD∘ZY∘Za) ?_;refine xl (yo L (q:=84) (cs':=[.slice none 0 0]) Z Z Z Z Z) (xl (yo L (q:=85) (cs':=[.int .i64 ((ls.length+1:Nat):Int)]) Z Z Z Z Z) (xl (yo L (q:=86) (cs':=[.int .i64 5]) Z Z Z Z Z) (ZF (h:=?_))));refine F3 (Sp (Au (Uu nq (by rw[wy,hbad];rfl) Z ?_)));rw[wy,hp,how,zrm 1];exact⟨Z,Z,Z,Z,nm⟩
   | some r=>
    have hrs:r.size<=1000000:=by
     have:=nh ByteArray.size (M0 he);rw[zpw] at this;omega
    obtain⟨t,e,hrt⟩:∃ t e,rd r=(t,e):=⟨_,_,rfl⟩
    have hrr:=hrd r hrs;rw[hrt] at hrr;by_cases h0:e=0
    ·subst h0;have hgood:uk rd 1 (ls++[y])=true:=by rw[da,hg];unfold Ka;rw[he];simp [hrt];omega
     have hp:=Ol hgood;have how:=Om hgood;have hvs:=U5 (rd:=rd) (ls:=ls) he;rw[hrt] at hvs;refine(ZH∘Ze∘Z8∘ZL∘Zm∘Zal) ?_;refine z71 L Z (fun u H hH _=>Rv he T hH) ?_;refine(ZB∘ZaP∘ZI∘Za∘Zr∘Zm∘Zaa) ?_;refine z7 (qd L (qp Z hb3') Z Z Z Z) Z (Za (h:=?_));refine z7 (q0 L Z Z (zm Z) Z Z hfn (fun u H hH hle _=>hrr u H hH (hsB.le.trans (hBB.trans hle)))) Z ((ZB∘Zaw∘Zj∘Zak∘Za∘Zaq∘Zae∘Zbi) ?_);refine tn 87 _ Z SlR.shape fun z hz=>?_;obtain⟨p,c,rfl⟩:=hz;refine(Zao∘ZbR) ?_;refine f8 42 87 rfl rfl ((Zay∘ZV∘Zcy) ?_);refine cw 45 87 _ rfl SlR.shape fun z hz=>?_;obtain⟨p',c',rfl⟩:=hz;refine(Zdg∘Zac∘Za7) ?_;refine F8 87 [] Z Z (zbo nq (by rw[wy,hgood];rfl) ?_);rw[wy,hp,how,hvs,zpl,nr];exact⟨Z,Z,Z,Z,nm⟩
    ·have hp:=Gz (rd:=rd) (ys:=[]) (y:=y) hg T he (by rw[hrt];exact h0);rw[hrt] at hp;have hbad:uk rd 1 (ls++[y])=false:=by rw[da,hg];unfold Ka;rw[he];simp [hrt,h0]
     have how:Oo rd 1 (ls++[y])=Eg rd ls:=by rw[ew hg];unfold Oo;rw[if_pos (by unfold Ka;rw[he];simp [hrt,h0]),List.append_nil]
     refine(ZH∘Ze∘Z8∘ZL∘Zm∘Zal) ?_;refine z71 L Z (fun u H hH _=>Rv he T hH) ?_;refine(ZB∘ZaP∘ZI∘Za∘Zr∘Zm∘Zaa) ?_;refine z7 (qd L (qp Z hb3') Z Z Z Z) Z (Za (h:=?_));refine z7 (q0 L Z Z (zm Z) Z Z hfn (fun u H hH hle _=>hrr u H hH (hsB.le.trans (hBB.trans hle)))) Z ((ZB∘Zaw∘Zj∘Zak∘Za∘ZaO∘Za5∘Zb) ?_);refine xl (yo L (q:=84) (cs':=[.slice none 0 0]) Z Z Z Z Z) (xl (yo L (q:=85) (cs':=[.int .i64 ((ls.length+1:Nat):Int)]) Z Z Z Z Z) (xl (yo L (q:=86) (cs':=[.int .i64 e]) Z Z Z Z Z) (ZF (h:=?_))));refine F3 (Sp (Au (Uu nq (by rw[wy,hbad];rfl) Z ?_)));rw[wy,hp,how,zrm 1];exact⟨Z,Z,Z,Z,nm⟩
 case st=>
  intro l' D' o hstop;obtain⟨ks,h1,h2,h3⟩:=Ch rd (a8 s) [] rfl;have h1':jn (fun p=>!uk rd 1 (Nk p)) [] (lq 1 (ug (a8 s)))=lq 1 (ug ks):=h1;rw[h1',wy] at hstop;have hbad:uk rd 1 ks=false:=by simpa using hstop
  have hn1:=Qt (out:=[]) hbad;have h2':rq rd [] 1 ks=rq rd [] 1 (a8 s):=h2;rw[h1',wy,h2'];rw[h2'] at hn1;generalize rq rd [] 1 (a8 s)=R at hn1 |-;obtain⟨R1,R2,R3⟩:=R;dsimp only at hn1;subst hn1;refine bq 4 84 rfl Z (bq 5 85 rfl Z (bq 6 86 rfl Z ?_));refine zbh L (rs:=[.cell 4 zjj,.cell 5 tyI,.cell 6 tyE]) Z (fun _ _ h=>h) hsB fun O' u H hH hle=>?_;exact wm (y9 Z) Z (wm (y9 Z) Z (wm (y9 Z) Z (tup3 SlV.nil Z Z)))
 case dn=>
  intro l' D' o hgo;obtain⟨ks,h1,h2,h3⟩:=Ch rd (a8 s) [] rfl;have h1':jn (fun p=>!uk rd 1 (Nk p)) [] (lq 1 (ug (a8 s)))=lq 1 (ug ks):=h1;rw[h1',wy] at hgo;have hg:uk rd 1 ks=true:=by simpa using hgo
  have hkl:ks=a8 s:=h3 hg;have hll:=Hj s;have hvl:(Eg rd ks).length<=ks.length:=P7;rw[h1',wy,<-hkl,Ol hg,Om hg];refine Za7 (h:=?_);refine Zbi (h:=?_);refine tn 87 _ Z SlR.shape fun z hz=>?_;obtain⟨p,c,rfl⟩:=hz;refine(Ze∘Zar∘ZbR) ?_;refine f8 46 87 rfl rfl (B8 46 rfl ((ZbR∘ZcA∘ZbR∘ZcA∘ZdO) ?_));refine vk 51 rfl fun sv H3 hs3 hsv=>?_;obtain⟨p1,c1,rfl⟩:=jh hsv;refine xl (yo L (q:=84) (cs':=[.slice p1 (Eg rd ks).length c1]) rfl rfl rfl rfl rfl) (xl (yo L (q:=85) (cs':=[.int .i64 0]) rfl rfl rfl rfl rfl) (xl (yo L (q:=86) (cs':=[.int .i64 0]) rfl rfl rfl rfl rfl) (ZF (h:=?_))));refine bq 4 84 rfl Z (bq 5 85 rfl Z (bq 6 86 rfl Z ?_));refine zbh L (rs:=[.cell 4 zjj,.cell 5 tyI,.cell 6 tyE]) Z (fun _ _ h=>h) (hsB.trans hs3) fun O' u H hH hle=>?_;exact wm (y9 Z) Z (wm (y9 Z) Z (wm (y9 Z) Z (tup3 (hsv.le hle) Z Z)))
open Go.V.L8
def C7{b:Value}(h:Kn.mono (.sat φ)):Kn.mono (.sat (TupS [φ,fun v _=>v=a,fun v _=>v=b])):=TupS.mono fun ψ hψ=>by
 simp only[ma,zqe,or_false] at hψ;rcases hψ with rfl | rfl | rfl
 ·exact h
 ·exact fun _ _ _ h _=>h
 ·exact fun _ _ _ h _=>h
def Sr{s:ByteArray}(hs:s.size<=1000000)(hB:zth B w)(hM:GlobM B):
  Ret zti 22 [.string s] w B (TupS [US (Uw ptA s).1 true,fun v _=>v=.int .i64 (Uw ptA s).2.1,fun v _=>v=.int .i64 (Uw ptA s).2.2]):=by
 have hmo:Kn.mono (.sat (US (Uw ptA s).1 true)):=ns;refine yn Tryz.func22 Z Tryz.ntmps22 (np Z) hB ((Zb2∘Zo∘Zb7) ?_);refine z7 (xg L Z Z (zm Z) Z Z Z (C7 ns) (fun u H hH hle _=>Tn (rd:=ptA) Z hs hH (fun r hr u2 H2 hH2 hle2=>Es Z hr hH2 (hM.mono (hle.trans hle2))))) Z ((ZcW∘ZcC∘ZcC∘Zat∘ZR) ?_);refine yj1 L [.tmp 2,.tmp 3,.tmp 4] fun u H hH hle=>?_;exact fun a h=>tup3 h Z Z
end Go.V.L11
end
namespace Go.V
section sound
variable    {ex:Exs} {Fin:Kap->Prop}
def E6{Fin:Kap->Prop}:∀ (m i:Nat) {κ:Kap},i+m<=ops.size->zjp P St ops ex Fin ((ops.toList.drop i).take m) κ->ParI P St ops ex Fin (List.range' i m) κ
 | 0,i,κ,hm,h=>by
  rw[zpv] at h;exact h
 | m+1,i,κ,hm,h=>by
  have hi:i<ops.toList.length:=by simp;omega
  rw[zp3 hi,zq8] at h;obtain⟨us,hd,sx,rest⟩:=h;refine⟨ops.toList[i],us,?_,hd,sx,E6 m (i+1) T rest⟩;have hi':i<ops.size:=by simpa using hi
  rw[zpy hi'];simp
end sound
section code
end code
end Go.V
namespace Go.V
def Pz(w:World)(B:Heap)(L:Nat->Prop)(pv:Value)(e:Ending)(u:World):Prop:=e=.panicked [{ v:=pv,recovered:=false }]/\∃ H,Grow L w B u H
def Pan(P:Program)(f:FuncId)(args:List Value)(w:World)(B:Heap)(L:Nat->Prop)(pv:Value):Prop:=Calls P f args.toArray w (Pz w B L pv)
section sound
variable    {ex:Exs}
end sound
section code
def QX(P:Program)(F:Fr)(ops:Array Oper)(K:Nat)(ztg:Exit->Act->World->Prop):Exit->Act->World->Prop:=fun _ a u=>∀ Kk,wpOpIn (FW F.r) 0 P ops ztg K Kk a u
def XP(F:Fr)(B:Heap)(n:Nat)(O:Boxes)(κ:Kap)(pv:Value)(ztg:Exit->Act->World->Prop):Prop:=∀ a u,Has F B O n κ a u->ztg (.panic [{ v:=pv,recovered:=false }]) a u
def jt{id:Nat}{l:List Oper}(K:Nat)(hK:Nat.ble (K+1) l.length=true)(h:VO P F B n O l.toArray κ (l.take K) (QX P F l.toArray K ztg)):V P F B n O κ (.region id l.toArray false) ztg:=fun a u hh=>by
 refine wpIn_region ?_;have hK:=np hK
 have hsplit:List.range l.toArray.size=List.range' 0 K++K::List.range' (K+1) (l.length-(K+1)):=by
  rw[zrw,show K::List.range' (K+1) (l.length-(K+1))=List.range' K (l.length-K) by rw[show l.length-K=(l.length-(K+1))+1 by omega];rfl];have:=List.range'_append_1 (s:=0) (m:=K) (n:=l.length-K);rw[zpc] at this;rw[this,Nat.add_sub_cancel' T];simp
 rw[hsplit]
 have key:∀ (m i:Nat) {a:Act} {u:World},i+m=K->Ops P l.toArray (fun a u=>QX P F l.toArray K ztg .normal a u) ((l.drop i).take m) a u->
   wpOpsIn (FW F.r) 0 P l.toArray ztg (List.range' i m++K::List.range' (K+1) (l.length-(K+1))) a u:=by
  intro m
  induction m with
  | zero=>
   intro i a u hi ho;rw[zpv] at ho;show wpOpsIn (FW F.r) 0 P l.toArray ztg (K::_) a u;rw[wpOpsIn_cons];exact ho _
  | succ m ih=>
   intro i a u hi ho;have hil:i<l.length:=T;rw[zp3 hil,zq8] at ho;have hg:l.toArray[i]?=some l[i]:=by rw[zrg,zpt hil]
   rw[zrx,zpq,wpOpsIn_cons];exact After.wpOpIn hg (After.mono (fun a' u' hh'=>ih (i+1) T hh') ho)
 exact key K 0 T (by rw[zp7];exact h a u hh)
def jq(L:Tabs P)(q:Nat){K:Nat}{r:Res}{d:Option Nat}{f:Nat}{args:Array Operand}{at_:Array TypeId}{fo:Operand}
  (ho:ops[K]?=some ⟨d,.call { callee:=.value fo,args:=args,argTypes:=at_ },ty,pos,aft,g⟩) (hg:gK ops κ ⟨d,.call { callee:=.value fo,args:=args,argTypes:=at_ },ty,pos,aft,g⟩=some true)
  (hf:evK κ fo=some (.func (.func f) #[] cap.toArray)) (hfn:L.fn f=some ()) (hq:κ q=some (.own r))
  (h:∀ u H C,zth H u->B.Le H->r.P undef H u C->(ZCB C u H)->Args κ H args.toList [] (fun vs=>Pan P f (vs++cap) u H C pv)) (hr:∀ v H u C,r.P v H u C->r.P undef H u C)
  (hX:XP F B n O (upd κ q pg) pv ztg):N F B n O κ (QX P F ops K ztg):=by
 rintro a u ⟨H,fp,hh⟩ Kk;have hlk:∀ t∈(⟨d,.call { callee:=.value fo,args:=args,argTypes:=at_ },ty,pos,aft,g⟩:Oper).looksAt ops,κ t=κ t:=fun _ _=>rfl;unfold wpOpIn;rw[ho];dsimp only;rw[na (xj hh hlk hg)];obtain⟨hown,hM⟩:=hh.slot q _ hq;have e2:=hh.env hlk;have hfe:a.eval fo=.func (.func f) #[] cap.toArray:=e2.is_ fo _ (by simp [Op.operands,Call.operands]) hf;have hc:=Args.use e2 args.toList [] (fun x hx=>by simp [Op.operands,Call.operands] at hx |-;exact .inr hx) (h u H (fp q) hh.sub hh.base (hr _ _ _ _ hown) fun k hk=>⟨(hM k hk).1,(hM k hk).2.1⟩);simp only[zp9,mi] at hc;have hrun:=uw (u:=u) L (o:=⟨d,.call { callee:=.value fo,args:=args,argTypes:=at_ },ty,pos,aft,g⟩) rfl hfe hfn;refine⟨fun _ _=>trivial,?_⟩;rw[Oper.semAt_eq _ _ _ (fun c hc=>by cases hc),hrun];refine⟨fun e=>(by cases e),FW.call _ _ (Calls.mono hc fun e' u' hp=>?_)⟩;obtain⟨rfl,H',g'⟩:=hp;exact hX a u' ⟨H',_,hh.use hq g'⟩
def wd{K:Act->World->Prop}(h:XP F B n O κ pv ztg):XP F B n O κ pv (Exit.then K ztg):=h
def jl{id:Nat}(h:XP F B n O κ pv ztg):XP F B n O κ pv (Exit.inBlock id ztg):=h
def dc{fn:Func}(hs:Since F B0 B)(hd:F.ds=[]:=by rfl):XP F B n O κ pv (bodyPostM Fence.wide 0 P fn (Pz F.w0 B0 F.L pv)):=fun a u hh=>by
 obtain⟨H,fp,hH⟩:=hh;have h0:=hH.defers;rw[hd] at h0;show LeavesInM _ _ _ _ _ _ a.defers _ _;rw[h0];exact⟨rfl,H,⟨hH.keep,hH.sub,hs.le.trans hH.base,fun k hk hl=>(hH.fresh k hk hl).trans (hs.fresh k hk hl)⟩⟩
def f0{f:FuncId}{fn:Func}{c:Code}(gs:Nat)(r:GR)(hf:P.funcs[f]?=some fn)(hb:fn.body=some c)(hn:fn.ntmps=n)
  (hs:args.length<=n) (hB:zth B w) (hr:r.P B w C) (hC:ZCB C w B) (h:V P ⟨w,none,[],C⟩ B n [] (upd (Aq 0 args) gs (.own r.res)) c (bodyPostM Fence.wide 0 P fn (Pz w B C pv))):Pan P f args w B C pv:=by
 refine bp hf hb (h _ w ?_);subst hn;have h0:=bl (B:=B) C (fun k hk=>(hC k hk).1) hs hB (fun _=>noL)
 exact⟨B,_,h0.putR (d:=gs) (r:=r.res) Z Z (fun _ _=>rfl) hr (fun k hk=>⟨(hC k hk).1,(hC k hk).2,.inr hk,fun y hy=>by cases hy⟩) fun t r' _ ht=>by
  obtain⟨v,hv,_⟩:=gh _ _ _ _ ht;cases hv⟩
end code
end Go.V
namespace Go.V
section
variable        {d:Nat}      {a:Act} {u:World} {os:List Oper} {t xt:TypeId} {x:Operand} 
def Mb(hn:Nat.blt d n=true)(hg:gK ops κ ⟨some d,.makeInterface t x,ty,pos,aft,g⟩=some true)(hx:evK κ x=some v)(hc:P.concrete t=true):
  StepOK P F B n ops O κ ⟨some d,.makeInterface t x,ty,pos,aft,g⟩ d (.is (.iface t v)):=
 kf rfl (by simpa using hn) hg trivial fun a u H fp e=>⟨_,by
  have h1:a.eval x=v:=e.is_ x _ (by simp [Op.operands]) hx;have h2:=run_makeInterface (w:=u) t v hc;simp only[execOp,h1,nw,mf,h2,ny],rfl⟩
def Ty(hn:Nat.blt d n=true)(hg:gK ops κ ⟨some d,.typeAssert x xt t true,ty,pos,aft,g⟩=some true)(hx:evK κ x=some (.iface t v))(hc:P.concrete t=true):
  StepOK P F B n ops O κ ⟨some d,.typeAssert x xt t true,ty,pos,aft,g⟩ d (.is (.tuple #[v,.bool true])):=
 kf rfl (by simpa using hn) hg trivial fun a u H fp e=>⟨_,by
  have h1:a.eval x=.iface t v:=e.is_ x _ (by simp [Op.operands]) hx
  have h2:(Instr.typeAssert (.iface t v) xt t true).run P u=.ok (.tuple #[v,.bool true]) u:=by
   unfold Program.concrete at hc
   cases hd:P.underlying t with
   | none=>simp [hd] at hc
   | some dd=>cases dd<;>first | (simp [hd] at hc;done) | simp [Instr.typeAssert,run_underlying hd]
  simp only[execOp,h1,nw,mf,h2,ny],rfl⟩
def Tz{z:Value}(hn:Nat.blt d n=true)(hg:gK ops κ ⟨some d,.typeAssert x xt t true,ty,pos,aft,g⟩=some true)(hx:evK κ x=some .nilIface)(hc:P.concrete t=true)(hz:∀ w,(zeroValue t).run P w=.ok z w):
  StepOK P F B n ops O κ ⟨some d,.typeAssert x xt t true,ty,pos,aft,g⟩ d (.is (.tuple #[z,.bool false])):=
 kf rfl (by simpa using hn) hg trivial fun a u H fp e=>⟨_,by
  have h1:a.eval x=.nilIface:=e.is_ x _ (by simp [Op.operands]) hx
  have h2:(Instr.typeAssert .nilIface xt t true).run P u=.ok (.tuple #[z,.bool false]) u:=by
   unfold Program.concrete at hc
   cases hd:P.underlying t with
   | none=>simp [hd] at hc
   | some dd=>cases dd<;>first | (simp [hd] at hc;done) | simp [Instr.typeAssert,run_underlying hd,hz]
  simp only[execOp,h1,nw,mf,h2,ny],rfl⟩
def Dl{K:Nat}{dd:Option Nat}(ho:ops[K]?=some ⟨dd,.panic x,ty,pos,aft,g⟩)(hg:gK ops κ ⟨dd,.panic x,ty,pos,aft,g⟩=some true)(hx:evK κ x=some (.iface t v))(hX:XP F B n O κ (.iface t v) ztg):N F B n O κ (QX P F ops K ztg):=by
 rintro a u ⟨H,fp,hh⟩ Kk;have hlk:∀ s∈(⟨dd,.panic x,ty,pos,aft,g⟩:Oper).looksAt ops,κ s=κ s:=fun _ _=>rfl;unfold wpOpIn;rw[ho];dsimp only;rw[na (xj hh hlk hg)];have e2:=hh.env hlk;have h1:a.eval x=.iface t v:=e2.is_ x _ (by simp [Op.operands]) hx
 have hrun:(execOp a.eval ⟨dd,.panic x,ty,pos,aft,g⟩).run P u=.halt (.panic (.iface t v)) u:=by
  simp only[execOp,h1,nw,run_panic_iface];rfl
 refine⟨fun _ _=>trivial,?_⟩;rw[Oper.semAt_eq _ _ _ (fun c hc=>by cases hc),hrun];exact hX a u ⟨H,fp,hh⟩
end
end Go.V
namespace Go.V
def RetY.frame{f:FuncId}{r1 r1' r2:GR}(hr:(gj r1 r2).P B w C)(hC:ZCB C w B)
  (h:∀ C1,r1.P B w C1->(ZCB C1 w B)->RetY P f args w B C1 r1' φ):RetY P f args w B C (gj r1' r2) φ:=by
 obtain⟨C1,C2,h1,h2,h3,h4⟩:=hr;refine Calls.mono (h C1 h1 fun k hk=>hC k ((h3 k).2 (.inl hk))) fun e u ⟨v,he,H,g,hp,C',hv,hC'⟩=>?_;have hsub:∀ k,C1 k->C k:=fun k hk=>(h3 k).2 (.inl hk);have g2:Grow C w B u H:=⟨⟨g.keep.os,g.keep.tape,g.keep.output,g.keep.size,fun k hk hn=>g.keep.block k hk fun h=>hn (hsub k h),g.keep.dr⟩,g.sub,g.le,fun k hk hn=>g.fresh k hk fun h=>hn (hsub k h)⟩
 refine⟨v,he,H,g2,hp,fun k=>C' k\/C2 k,⟨C',C2,hv,r2.st h2 g.le g.sub ⟨g.keep.os,g.keep.tape,g.keep.output,g.keep.size,g.keep.dr⟩ (fun k hk=>g.keep.block k (hC k ((h3 k).2 (.inr hk))).1 fun h=>h4 k h hk),fun _=>Iff.rfl,fun k hk h2k=>?_⟩,fun k hk=>?_⟩
 ·rcases(hC' k hk).1 with h | h
  ·exact h4 k h h2k
  ·have:=(hC k ((h3 k).2 (.inr h2k))).1;omega
 ·rcases hk with hk | hk
  ·obtain⟨a,b,c⟩:=hC' k hk;exact⟨a.imp (hsub k) id,b,c⟩
  ·obtain⟨a,b⟩:=hC k ((h3 k).2 (.inr hk));exact⟨.inl ((h3 k).2 (.inr hk)),zqg a g.keep.size,(g.fresh k a fun h=>h4 k h hk).trans b⟩
def RetY.conv{f:FuncId}{C:Nat->Prop}{r:GR}(h:RetY P f args w B C r φ)(hi:∀ H u C,r.P H u C->r'.P H u C):RetY P f args w B C r' φ:=
 Calls.mono h fun _ _ ⟨v,he,H,g,hp,C',hv,hC'⟩=>⟨v,he,H,g,hp,C',hi _ _ _ hv,hC'⟩
def Hr{r1 r2:GR}{u:World}(h:(gj r1 r2).P H u C):(gj r2 r1).P H u C:=
 let ⟨C1,C2,h1,h2,h3,h4⟩:=h
 ⟨C2,C1,h2,h1,fun k=>(h3 k).trans or_comm,fun k a b=>h4 k b a⟩
section
variable        {d:Nat}      {a:Act} {u:World} {os:List Oper}
end
end Go.V
section
open Go.V
attribute [local irreducible] Has N Pan Par Ret RetL RetO RetT RetX RetY Src StepOK V VO X XP kx
namespace Go.V.L11
open Go.V.L4
def _root_.Zd9(t:Wr Y->A:=by intro h;refine v8 900 901 rfl (cd _ _ _) ?_;exact h.1)(h:Y):A:=t ⟨h⟩
def _root_.ZeD(t:Wr Y->A:=by intro h;refine z7 (Mb Z Z Z J) Z ?_;exact h.1)(h:Y):A:=t ⟨h⟩
def _root_.ZeE(t:Wr Y->A:=by intro h;refine z7 (yu (cs:=[_,_]) Z Z zm6 Z Z) Z ?_;exact h.1)(h:Y):A:=t ⟨h⟩
def _root_.ZbB(t:Wr Y->A:=by exact fun h=>(ZB∘ZaS) h.1)(h:Y):A:=t ⟨h⟩
abbrev Qc:TypeId:=241
abbrev znw:TypeId:=292
abbrev xw(sb rb:Nat)(sv:Value)(fr:Int)(R:Rd):GR:=gj (xc sb [kg rb,.int .i64 fr] Qc) (GRd rb sv R)
abbrev wrV(a e:Int):Value:=.iface znw (.agg #[.int .i64 a,.int .i64 e])
def Oa{R R2:Rd}{x:Int}(hfn:L.fn fr=some ())(he:R2.err=0){C:Nat->Prop}(hB:zth B w)(hr:(xw sb rb sv fr0 R).P B w C)(hC:ZCB C w B)(hf:∀ (u:World) (H:Heap) (C:Nat->Prop),zth H u->B.Le H->(xw sb rb sv R.at_ R).P H u C->(ZCB C u H)->RetX zti fr (fst++cap) u H C (xw sb rb sv R.at_ R2) (.int .i64 x)):
  RetX zti 203 [kg sb,.func (.func fr) fst.toArray cap.toArray] w B C (xw sb rb sv R.at_ R2) (.int .i64 x):=by
 unfold RetX;refine xa 900 (xw sb rb sv fr0 R) Tryz.func203 Z Tryz.ntmps203 (np Z) hB hr hC ?_;rw[w8,xd,xd];refine Zd9 (h:=?_);refine(Z4∘Zb4) ?_;refine qe (yh L 901 (GRd rb sv R) (.int .i64 R.at_) (r:=GRd rb sv R) Z Z Z Z Z (fun u H C2 hH _ hr2 hC2=>at_ret hH hr2 hC2)) (Zap (h:=?_));refine xl (yo L (q:=900) (cs':=[kg rb,.int .i64 R.at_]) Z Z Z Z Z) (Zi (h:=?_));refine wa 900 901 rfl Z (xf (GRd rb sv R)) ?_;refine Zy (h:=?_);refine qe (jd L 900 (xw sb rb sv R.at_ R2) (.int .i64 x) (r:=xw sb rb sv R.at_ R) Z Z Z hfn Z hf) (Zj (h:=?_));refine v8 (r1:=(xc sb [kg rb,.int .i64 R.at_] Qc).res) (r2:=(GRd rb sv R2).res) 900 901 rfl (xf (GRd rb sv R2)) ?_;rw[xd];refine(ZA∘ZS) ?_;refine qe (yh L 901 (GRd rb sv R2) (.tuple #[.int .i64 R2.bad,.int .i64 R2.err]) (r:=GRd rb sv R2) Z Z Z Z Z (fun u H C2 hH _ hr2 hC2=>fault_ret hH hr2 hC2)) ((ZbB∘Z0∘Zb8∘ZQ∘Zc) ?_);refine wa 900 901 rfl Z (xf (GRd rb sv R2)) ?_;exact xv L 900 (r:=xw sb rb sv R.at_ R2) (rs:=[.tmp 4]) Z (fun _ _ h=>h) nq Z Z (fun _=>rfl)
def Oc{R R2:Rd}{x:Int}(hfn:L.fn fr=some ())(he:R2.err≠0){C:Nat->Prop}(hB:zth B w)(hr:(xw sb rb sv fr0 R).P B w C)(hC:ZCB C w B)(hf:∀ (u:World) (H:Heap) (C:Nat->Prop),zth H u->B.Le H->(xw sb rb sv R.at_ R).P H u C->(ZCB C u H)->RetX zti fr (fst++cap) u H C (xw sb rb sv R.at_ R2) (.int .i64 x)):
  Pan zti 203 [kg sb,.func (.func fr) fst.toArray cap.toArray] w B C (wrV R2.bad R2.err):=by
 refine f0 900 (xw sb rb sv fr0 R) Tryz.func203 Z Tryz.ntmps203 (np Z) hB hr hC ?_;rw[w8,xd,xd];refine Zd9 (h:=?_);refine(Z4∘Zb4) ?_;refine qe (yh L 901 (GRd rb sv R) (.int .i64 R.at_) (r:=GRd rb sv R) Z Z Z Z Z (fun u H C2 hH _ hr2 hC2=>at_ret hH hr2 hC2)) (Zap (h:=?_));refine xl (yo L (q:=900) (cs':=[kg rb,.int .i64 R.at_]) Z Z Z Z Z) (Zi (h:=?_));refine wa 900 901 rfl Z (xf (GRd rb sv R)) ?_;refine Zy (h:=?_);refine qe (jd L 900 (xw sb rb sv R.at_ R2) (.int .i64 x) (r:=xw sb rb sv R.at_ R) Z Z Z hfn Z hf) (Zj (h:=?_));refine v8 (r1:=(xc sb [kg rb,.int .i64 R.at_] Qc).res) (r2:=(GRd rb sv R2).res) 900 901 rfl (xf (GRd rb sv R2)) ?_;rw[xd];refine(ZA∘ZS) ?_;refine qe (yh L 901 (GRd rb sv R2) (.tuple #[.int .i64 R2.bad,.int .i64 R2.err]) (r:=GRd rb sv R2) Z Z Z Z Z (fun u H C2 hH _ hr2 hC2=>fault_ret hH hr2 hC2)) ((ZbB∘Z0∘ZcN∘Zw) ?_);refine jt (id:=5) 4 rfl ((Zb∘ZeE∘ZeD∘Zac) ?_);refine Dl (K:=4) Z Z Z ?_
 repeat (first | refine wd ?_ | refine jl ?_)
 exact dc nq
def o3{R R2:Rd}{x:Int}(hfn:L.fn fr=some ())(he:R2.err=0){C:Nat->Prop}(hB:zth B w)(hr:(xw sb rb sv fr0 R).P B w C)(hC:ZCB C w B)(hf:∀ (u:World) (H:Heap) (C:Nat->Prop),zth H u->B.Le H->(xw sb rb sv R.at_ R).P H u C->(ZCB C u H)->RetX zti fr (fst++cap) u H C (xw sb rb sv R.at_ R2) (.int .u64 x)):
  RetX zti 150 [kg sb,.func (.func fr) fst.toArray cap.toArray] w B C (xw sb rb sv R.at_ R2) (.int .u64 x):=by
 unfold RetX;refine xa 900 (xw sb rb sv fr0 R) Tryz.func150 Z Tryz.ntmps150 (np Z) hB hr hC ?_;rw[w8,xd,xd];refine Zd9 (h:=?_);refine(Z4∘Zb4) ?_;refine qe (yh L 901 (GRd rb sv R) (.int .i64 R.at_) (r:=GRd rb sv R) Z Z Z Z Z (fun u H C2 hH _ hr2 hC2=>at_ret hH hr2 hC2)) (Zap (h:=?_));refine xl (yo L (q:=900) (cs':=[kg rb,.int .i64 R.at_]) Z Z Z Z Z) (Zi (h:=?_));refine wa 900 901 rfl Z (xf (GRd rb sv R)) ?_;refine Zy (h:=?_);refine qe (jd L 900 (xw sb rb sv R.at_ R2) (.int .u64 x) (r:=xw sb rb sv R.at_ R) Z Z Z hfn Z hf) (Zj (h:=?_));refine v8 (r1:=(xc sb [kg rb,.int .i64 R.at_] Qc).res) (r2:=(GRd rb sv R2).res) 900 901 rfl (xf (GRd rb sv R2)) ?_;rw[xd];refine(ZA∘ZS) ?_;refine qe (yh L 901 (GRd rb sv R2) (.tuple #[.int .i64 R2.bad,.int .i64 R2.err]) (r:=GRd rb sv R2) Z Z Z Z Z (fun u H C2 hH _ hr2 hC2=>fault_ret hH hr2 hC2)) ((ZbB∘Z0∘Zb8∘ZQ∘Zc) ?_);refine wa 900 901 rfl Z (xf (GRd rb sv R2)) ?_;exact xv L 900 (r:=xw sb rb sv R.at_ R2) (rs:=[.tmp 4]) Z (fun _ _ h=>h) nq Z Z (fun _=>rfl)
def N9{R R2:Rd}{x:Int}(hfn:L.fn fr=some ())(he:R2.err≠0){C:Nat->Prop}(hB:zth B w)(hr:(xw sb rb sv fr0 R).P B w C)(hC:ZCB C w B)(hf:∀ (u:World) (H:Heap) (C:Nat->Prop),zth H u->B.Le H->(xw sb rb sv R.at_ R).P H u C->(ZCB C u H)->RetX zti fr (fst++cap) u H C (xw sb rb sv R.at_ R2) (.int .u64 x)):
  Pan zti 150 [kg sb,.func (.func fr) fst.toArray cap.toArray] w B C (wrV R2.bad R2.err):=by
 refine f0 900 (xw sb rb sv fr0 R) Tryz.func150 Z Tryz.ntmps150 (np Z) hB hr hC ?_;rw[w8,xd,xd];refine Zd9 (h:=?_);refine(Z4∘Zb4) ?_;refine qe (yh L 901 (GRd rb sv R) (.int .i64 R.at_) (r:=GRd rb sv R) Z Z Z Z Z (fun u H C2 hH _ hr2 hC2=>at_ret hH hr2 hC2)) (Zap (h:=?_));refine xl (yo L (q:=900) (cs':=[kg rb,.int .i64 R.at_]) Z Z Z Z Z) (Zi (h:=?_));refine wa 900 901 rfl Z (xf (GRd rb sv R)) ?_;refine Zy (h:=?_);refine qe (jd L 900 (xw sb rb sv R.at_ R2) (.int .u64 x) (r:=xw sb rb sv R.at_ R) Z Z Z hfn Z hf) (Zj (h:=?_));refine v8 (r1:=(xc sb [kg rb,.int .i64 R.at_] Qc).res) (r2:=(GRd rb sv R2).res) 900 901 rfl (xf (GRd rb sv R2)) ?_;rw[xd];refine(ZA∘ZS) ?_;refine qe (yh L 901 (GRd rb sv R2) (.tuple #[.int .i64 R2.bad,.int .i64 R2.err]) (r:=GRd rb sv R2) Z Z Z Z Z (fun u H C2 hH _ hr2 hC2=>fault_ret hH hr2 hC2)) ((ZbB∘Z0∘ZcN∘Zw) ?_);refine jt (id:=5) 4 rfl ((Zb∘ZeE∘ZeD∘Zac) ?_);refine Dl (K:=4) Z Z Z ?_
 repeat (first | refine wd ?_ | refine jl ?_)
 exact dc nq
def kj{R:Rd}(hB:zth B w)(hr:(xw sb rb sv fr0 R).P B w C)(hC:ZCB C w B):kx zti 149 [kg sb,.bool true,.int .i64 e] w B C (xw sb rb sv fr0 R):=by
 unfold kx;refine xa 900 (xw sb rb sv fr0 R) Tryz.func149 Z Tryz.ntmps149 (np Z) hB hr hC ((ZP∘Za∘Zr∘Zae) ?_);exact xu L 900 (r:=xw sb rb sv fr0 R) Z (fun _ _ h=>h) nq Z Z
def f6{R:Rd}(hB:zth B w)(hr:(xw sb rb sv fr0 R).P B w C)(hC:ZCB C w B):Pan zti 149 [kg sb,.bool false,.int .i64 e] w B C (wrV fr0 e):=by
 refine f0 900 (xw sb rb sv fr0 R) Tryz.func149 Z Tryz.ntmps149 (np Z) hB hr hC ?_;rw[w8,xd,xd];refine Zd9 (h:=?_);refine(ZP∘Za∘Zr∘Zw) ?_;refine jt (id:=1) 7 rfl ((Za∘ZS∘Za∘ZeE∘ZeD∘Zac) ?_);refine Dl (K:=7) Z Z Z ?_
 repeat (first | refine wd ?_ | refine jl ?_)
 exact dc nq
def Ld{b2 b3:Nat}{R:Rd}{bs:List Nat}(hb:∀ b∈bs,b<=255)(hl:bs.length<=1099511627776)(hat:R.at_<=bs.length)(hlim:lim<=1099511627776)(hB:zth B w)(hs:BsV bs fu sv B)(h2:B b2=some (.cells #[kg sb] 239))(h3:B b3=some (.cells #[.int .i64 lim] 3))(hr:(xw sb rb sv fr0 R).P B w C)(hC:ZCB C w B):
  RetX zti 204 [kg b2,kg b3] w B C (xw sb rb sv fr0 (wj bs lim R).2) (.int .i64 (wj bs lim R).1):=by
 unfold RetX;refine xa 900 (xw sb rb sv fr0 R) Tryz.func204 Z Tryz.ntmps204 (np Z) hB hr hC ?_;rw[w8,xd,xd];refine Zd9 (h:=?_);refine(ZP∘Zd) ?_;refine qo (id:=1) [(200006,[900]),(8,[901])] ki J (z8 (qd L (qp Z h2) Z Z Z Z) Z ((ZbN∘Zdp) ?_));refine z8 (qd L (qp Z h3) Z Z Z Z) Z (xq (yh L 901 (GRd rb sv (wj bs lim R).2) (.int .i64 (wj bs lim R).1) (r:=GRd rb sv R) Z Z Z Z Z (fun u H C2 hH hle hr2 hC2=>len_ret hlim hb hl hat hH (hs.le hle) hr2 hC2)) Z Z (ZaB (h:=?_)));refine wa 900 901 rfl Z (xf (GRd rb sv (wj bs lim R).2)) ?_;exact xv L 900 (r:=xw sb rb sv fr0 (wj bs lim R).2) (rs:=[.tmp 2]) Z (fun _ _ h=>h) nq Z Z (fun _=>rfl)
def size_ret{R:Rd}{bs:List Nat}(hb:∀ b∈bs,b<=255)(hl:bs.length<=1099511627776)(hat:R.at_<=bs.length)(hlim:lim<=1099511627776)(he:(wj bs lim R).2.err=0)(hB:zth B w)(hs:BsV bs fu sv B)(hr:(xw sb rb sv fr0 R).P B w C)(hC:ZCB C w B):
  RetX zti 148 [kg sb,.int .i64 lim] w B C (xw sb rb sv R.at_ (wj bs lim R).2) (.int .i64 (wj bs lim R).1):=by
 unfold RetX;refine xa 900 (xw sb rb sv fr0 R) Tryz.func148 Z Tryz.ntmps148 (np Z) hB hr hC ((Zbu∘ZdN∘Zd) ?_);refine k9 2 902 rfl fun b2=>?_;refine k9 3 903 rfl fun b3=>?_;refine wk 902 rfl fun H1 hs1 _ h2=>?_;refine wk 903 rfl fun H2 hs2 _ h3=>?_;have h2:=hs2.le _ _ h2;have hs12:=hs1.trans hs2;have hs':=hs.le hs12.le;have hcl:∀ (u:World) (H:Heap) (C:Nat->Prop),H2.Le H->zth H u->(xw sb rb sv R.at_ R).P H u C->(ZCB C u H)->RetX zti 204 ([]++[kg b2,kg b3]) u H C (xw sb rb sv R.at_ (wj bs lim R).2) (.int .i64 (wj bs lim R).1):=fun u H C3 hle hH hr3 hC3=>Ld hb hl hat hlim hH (hs'.le hle) (hle _ _ h2) (hle _ _ h3) hr3 hC3;refine ZE (h:=?_);refine z7 (qd L (qp Z h2) Z Z Z Z) Z (Za0 (h:=?_));refine qe (yh L 900 (xw sb rb sv R.at_ (wj bs lim R).2) (.int .i64 (wj bs lim R).1) (r:=xw sb rb sv fr0 R) Z Z Z Z Z (fun u H C2 hH hle hr2 hC2=>Oa (fst:=[]) (cap:=[kg b2,kg b3]) Z he hH hr2 hC2 (fun u3 H3 C3 hH3 hle3 hr3 hC3=>hcl u3 H3 C3 (hle.trans hle3) hH3 hr3 hC3))) (Zc (h:=?_));exact xv L 900 (r:=xw sb rb sv R.at_ (wj bs lim R).2) (rs:=[.tmp 4]) Z (fun _ _ h=>h) hs12 Z Z (fun _=>rfl)
def Gp{R:Rd}{bs:List Nat}(hb:∀ b∈bs,b<=255)(hl:bs.length<=1099511627776)(hat:R.at_<=bs.length)(hlim:lim<=1099511627776)(he:(wj bs lim R).2.err≠0)(hB:zth B w)(hs:BsV bs fu sv B)(hr:(xw sb rb sv fr0 R).P B w C)(hC:ZCB C w B):
  Pan zti 148 [kg sb,.int .i64 lim] w B C (wrV (wj bs lim R).2.bad (wj bs lim R).2.err):=by
 refine f0 900 (xw sb rb sv fr0 R) Tryz.func148 Z Tryz.ntmps148 (np Z) hB hr hC ((Zbu∘ZdN∘Zd) ?_);refine k9 2 902 rfl fun b2=>?_;refine k9 3 903 rfl fun b3=>?_;refine wk 902 rfl fun H1 hs1 _ h2=>?_;refine wk 903 rfl fun H2 hs2 _ h3=>?_;have h2:=hs2.le _ _ h2;have hs12:=hs1.trans hs2;have hs':=hs.le hs12.le;have hcl:∀ (u:World) (H:Heap) (C:Nat->Prop),H2.Le H->zth H u->(xw sb rb sv R.at_ R).P H u C->(ZCB C u H)->RetX zti 204 ([]++[kg b2,kg b3]) u H C (xw sb rb sv R.at_ (wj bs lim R).2) (.int .i64 (wj bs lim R).1):=fun u H C3 hle hH hr3 hC3=>Ld hb hl hat hlim hH (hs'.le hle) (hle _ _ h2) (hle _ _ h3) hr3 hC3;refine jt (id:=1) 2 rfl (z7 (qd L (qp Z h2) Z Z Z Z) Z ((Za0∘Zac) ?_));refine jq (r:=(xw sb rb sv fr0 R).res) (K:=2) L 900 rfl Z Z Z Z (fun u H C2 hH hle hr2 hC2=>Oc (fst:=[]) (cap:=[kg b2,kg b3]) Z he hH hr2 hC2 (fun u3 H3 C3 hH3 hle3 hr3 hC3=>hcl u3 H3 C3 (hle.trans hle3) hH3 hr3 hC3)) (fun _ _ _ _ h=>h) ?_
 repeat (first | refine wd ?_ | refine jl ?_)
 exact dc hs12
def Ta{R:Rd}(hl:bs.length<=1099511627776)(hat:R.at_<=bs.length)(he:(Fv bs R).2=0)(hB:zth B w)(hs:BsV bs fu sv B)(hr:(xw sb rb sv fr0 R).P B w C)(hC:ZCB C w B):
  kx zti 154 [kg sb] w B C (xw sb rb sv fr0 R):=by
 unfold kx;refine xa 900 (xw sb rb sv fr0 R) Tryz.func154 Z Tryz.ntmps154 (np Z) hB hr hC ?_;rw[w8,xd,xd];refine Zd9 (h:=?_);refine(ZP∘Za∘ZS) ?_;refine qe (yh L 901 (GRd rb sv R) (.tuple #[.int .i64 (Fv bs R).1,.int .i64 (Fv bs R).2]) (r:=GRd rb sv R) Z Z Z Z Z (fun u H C2 hH hle hr2 hC2=>Pj hl hat hH (hs.le hle) hr2 hC2)) ((ZB∘Zo∘Zb7∘Zaq∘Zae) ?_);refine rm 900 901 rfl Z (xf (GRd rb sv R)) ?_;exact xu L 900 (r:=xw sb rb sv fr0 R) Z (fun _ _ h=>h) nq Z Z
def Tb{R:Rd}(hl:bs.length<=1099511627776)(hat:R.at_<=bs.length)(he:(Fv bs R).2≠0)(hB:zth B w)(hs:BsV bs fu sv B)(hr:(xw sb rb sv fr0 R).P B w C)(hC:ZCB C w B):
  Pan zti 154 [kg sb] w B C (wrV (Fv bs R).1 (Fv bs R).2):=by
 refine f0 900 (xw sb rb sv fr0 R) Tryz.func154 Z Tryz.ntmps154 (np Z) hB hr hC ?_;rw[w8,xd,xd];refine Zd9 (h:=?_);refine(ZP∘Za∘ZS) ?_;refine qe (yh L 901 (GRd rb sv R) (.tuple #[.int .i64 (Fv bs R).1,.int .i64 (Fv bs R).2]) (r:=GRd rb sv R) Z Z Z Z Z (fun u H C2 hH hle hr2 hC2=>Pj hl hat hH (hs.le hle) hr2 hC2)) ((ZB∘Zo∘Zb7∘ZcN∘Zw) ?_);refine jt (id:=2) 4 rfl ((Zb∘ZeE∘ZeD∘Zac) ?_);refine Dl (K:=4) Z Z Z ?_
 repeat (first | refine wd ?_ | refine jl ?_)
 exact dc nq
end Go.V.L11
end
namespace Go.V
section rec
variable {F:Fence} {nn:Nat}  {ztg:Exit->Act->List Frame->World->Prop} {a:Act} {cs:List Frame} 
def Gd{id d:Nat}{o:Oper}{l:List Oper}{cs':List Frame}(hro:F.round=none)(hd:o.dst=some d)(hop:o.op=.call { callee:=.builtin .recover,args:=#[],argTypes:=#[] })(hgd:o.guard=none)(hrec:(recoverD cs=some (v,cs'))\/(recoverD cs=none/\v=.nilIface/\cs'=cs))
  (h:wpOpsIn F nn P (o::l).toArray (fun e a' w'=>ztg e a' cs' w') (List.range' 1 l.length) (a.put (some d) v) w):(Code.region id (o::l).toArray false).wpSIn F nn P ztg a cs w:=fun b k hb hr hF hroom=>by
 have hlen:cs'.length=cs.length:=by
  rcases hrec with h | ⟨_,_,rfl⟩
  ·exact recoverD_length h
  ·rfl
 obtain⟨e,a',w',hq,harr⟩:=wp_opsIn _ _ _ h b k cs' (hr.trans hro.symm) hF (hlen ▸ hroom);have hsz:List.range (o::l).toArray.size=0::List.range' 1 l.length:=by rw[zrw];simp [zrx]
 have ho:(o::l).toArray[0]?=some o:=by simp
 have hw:Region.wanted o (yielded (o::l).toArray a.tmps)=true:=by unfold Region.wanted;rw[hgd]
 have hg:=stepGR_op (P:=P) (b:=b) (k:=k) (cs:=cs) (w:=w) (rest:=List.range' 1 l.length) ho hw;rw[hr,Oper.semAt_none] at hg;have hrun:(execOp a.eval o).run P w=.ok .recover w:=by unfold execOp;rw[hop];rfl
 have hfin:∀ v,(b.atR a (.inRegion (o::l).toArray (0::List.range' 1 l.length)::k)).finish v=b.atR (a.put o.dst v) (.inRegion (o::l).toArray (List.range' 1 l.length)::k):=by
  intro v;rw[Frame.finish_atR,ho];rfl
 have hk:(b.atR a (.inRegion (o::l).toArray (0::List.range' 1 l.length)::k)).kind=.deferred:=hb;have htr:=tryRecover_deferred hk cs
 have habout:∀ f,o.about P w a.eval=some f->F.fn f:=fun f hf=>by
  unfold Oper.about at hf;rw[hop] at hf;cases hf
 have hst:step P (lone (b.atR a (.inRegion (o::l).toArray (0::List.range' 1 l.length)::k)) cs w)=.next (lone (b.atR (a.put (some d) v) (.inRegion (o::l).toArray (List.range' 1 l.length)::k)) cs' w):=by
  refine step_lone_go ?_;rw[hg,<-hd,<-hfin];simp only[Frame.atR,hr] at htr |-;rcases hrec with h1 | ⟨h1,rfl,rfl⟩
  ·simp [stepG.apply,hrun,htr,h1]
  ·simp [stepG.apply,hrun,htr,h1]
 have hreg:step P (lone (b.atR a (.code (.region id (o::l).toArray false)::k)) cs w)=_:=stepR_region;rw[hsz] at hreg;exact⟨e,a',cs',w',hlen,hq,.of_steps (.one (fenced_calm hF hroom Z) hreg) (.of_steps (.one (fenced_oper hF hroom ho habout) hst) harr)⟩
end rec
section code
def QR(P:Program)(F:Fr)(ops:Array Oper)(K:Nat)(ztg:Exit->Act->World->Prop):Exit->Act->World->Prop:=fun _ a u=>wpOpsIn (FW F.r) 0 P ops ztg (List.range' K (ops.size-K)) a u
def zbi{id:Nat}{l:List Oper}(K:Nat)(hK:Nat.ble K l.length=true)(h:VO P F B n O l.toArray κ (l.take K) (QR P F l.toArray K ztg)):V P F B n O κ (.region id l.toArray false) ztg:=fun a u hh=>by
 refine wpIn_region ?_;have hK:=np hK
 have hsplit:List.range l.toArray.size=List.range' 0 K++List.range' K (l.toArray.size-K):=by
  rw[zrw];have:=List.range'_append_1 (s:=0) (m:=K) (n:=l.toArray.size-K);rw[zpc] at this;rw[this,Nat.add_sub_cancel' (by simpa using hK)]
 rw[hsplit]
 have key:∀ (m i:Nat) {a:Act} {u:World},i+m=K->Ops P l.toArray (fun a u=>QR P F l.toArray K ztg .normal a u) ((l.drop i).take m) a u->
   wpOpsIn (FW F.r) 0 P l.toArray ztg (List.range' i m++List.range' K (l.toArray.size-K)) a u:=by
  intro m
  induction m with
  | zero=>
   intro i a u hi ho;rw[zpv] at ho;exact ho
  | succ m ih=>
   intro i a u hi ho;have hil:i<l.length:=T;rw[zp3 hil,zq8] at ho;have hg:l.toArray[i]?=some l[i]:=by rw[zrg,zpt hil]
   rw[zrx,zpq,wpOpsIn_cons];exact After.wpOpIn hg (After.mono (fun a' u' hh'=>ih (i+1) T hh') ho)
 exact key K 0 T (by rw[zp7];exact h a u hh)
abbrev dfd(f:Nat)(cap:List Value):Deferred:={ target:=.fn (.func f) cap.toArray,args:=#[] }
def zh0{K:Nat}{f:Nat}{fo:Operand}(hds:F.ds=[])(hr:F.r=none)
  (ho:ops[K]?=some ⟨none,.defer { callee:=.value fo,args:=#[],argTypes:=#[] },ty,pos,aft,none⟩) (hf:evK κ fo=some (.func (.func f) #[] cap.toArray))
  (h:VO P ⟨F.w0,F.r,[.u (dfd f cap)],F.L⟩ B n O ops κ (ops.toList.drop (K+1)) ztg):N F B n O κ (QR P F ops K ztg):=by
 rintro a u ⟨H,fp,hh⟩
 have hKs:K<ops.size:=by
  rcases m8 K ops.size with h | h
  ·exact h
  ·rw[zq3 h] at ho;cases ho
 unfold QR;rw[show ops.size-K=(ops.size-(K+1))+1 by omega,zrx,wpOpsIn_cons];unfold wpOpIn;rw[ho];dsimp only;rw[if_pos (by unfold Region.wanted;rfl)];have e2:=hh.env (ops:=ops) (o:=⟨none,.defer { callee:=.value fo,args:=#[],argTypes:=#[] },ty,pos,aft,none⟩) (κ:=κ) (fun _ _=>rfl);have hfe:a.eval fo=.func (.func f) #[] cap.toArray:=e2.is_ fo _ (by simp [Op.operands,Call.operands]) hf;refine⟨fun _ _=>trivial,?_⟩;have hround:(FW F.r).round=none:=by rw[hr];rfl
 rw[hround,Oper.semAt_none]
 have hrun:(execOp a.eval ⟨none,.defer { callee:=.value fo,args:=#[],argTypes:=#[] },ty,pos,aft,none⟩).run P u=.ok (.defer (dfd f cap)) u:=by
  unfold execOp;dsimp only;simp only[resolve,hfe,Deferred.ofValue,nw,mf,ny];simp [dfd]
 rw[hrun,Oper.uponIn_defer];have had:a.defers=[]:=by have:=hh.defers;rw[hds] at this;exact this
 refine d6 (fun _ _ h=>h) (ops.size-(K+1)) (K+1) T (h _ u ⟨H,fp,?_⟩);exact⟨hh.size,by show dfd f cap::a.defers=_;rw[had];rfl,by simp,fun D hD=>by simp at hD,hh.lent,hh.keep,hh.sub,hh.base,hh.fresh,hh.boxes,hh.apart,hh.slot,hh.owns,hh.mono⟩
def ed(P:Program)(f:Nat)(args:List Value)(w:World)(B:Heap)(C:Nat->Prop)(m m':FrameMode)(r:GR):Prop:=
 CallsDIn Fence.wide 0 P f args.toArray m w fun e u' w'=>e=.returned (.tuple #[])/\u'=m'/\∃ H,Grow C w B w' H/\∃ C',r.P H w' C'/\∀ k,C' k->(C k\/w.heap.size<=k)/\k<w'.heap.size/\H k=none
def zjd(P:Program)(fn:Func)(R:World->Prop):Exit->Act->World->Prop
 | .normal,a,w | .ret,a,w=>a.defers=[]/\(results fn a.tmps).run P w=.ok (.tuple #[]) w/\R w
 | _,_,_=>False
inductive RecM:FrameMode->FrameMode->Value->Prop where
 | idle:RecM .returning .returning .nilIface
 | caught (v:Value):RecM (.panicking [{ v:=v,recovered:=false }]) (.panicking [{ v:=v,recovered:=true }]) v
def ze8{f:Nat}{fn:Func}{id d:Nat}{o:Oper}{l:List Oper}{y:Code}{m m':FrameMode}(gs:Nat)(r0 r:GR)(hm:RecM m m' v)(hf:P.funcs[f]?=some fn)
  (hb:fn.body=some (.seq (.region id (o::l).toArray false) y)) (hn:fn.ntmps=n) (hs:args.length<=n) (hd:o.dst=some d) (hdn:Nat.blt d n=true) (hop:o.op=.call { callee:=.builtin .recover,args:=#[],argTypes:=#[] }) (hgd:o.guard=none) (hB:zth B w) (hr:r0.P B w C) (hC:ZCB C w B)
  (h:VO P ⟨w,none,[],C⟩ B n [] (o::l).toArray (upd (upd (Aq 0 args) gs (.own r0.res)) d (.is v)) l (Exit.then (fun a u=>y.wpIn (FW none) 0 P (zjd P fn fun u=>∃ H,Grow C w B u H/\∃ C',r.P H u C'/\∀ k,C' k->(C k\/w.heap.size<=k)/\k<u.heap.size/\H k=none) a u) (zjd P fn fun u=>∃ H,Grow C w B u H/\∃ C',r.P H u C'/\∀ k,C' k->(C k\/w.heap.size<=k)/\k<u.heap.size/\H k=none))):
  ed P f args w B C m m' r:=by
 refine callsDIn_of_wpSIn hf hb trivial fun c0 cs hu=>?_
 have hrec:∃ cs',((recoverD (c0::cs)=some (v,cs'))\/(recoverD (c0::cs)=none/\v=.nilIface/\cs'=c0::cs))/\cs'={ c0 with mode:=m' }::cs:=by
  cases hm with
  | idle=>exact⟨_,.inr ⟨by simp [recoverD,hu],rfl,rfl⟩,by rw[<-hu]⟩
  | caught v=>exact⟨_,.inl (by simp [recoverD,hu]),rfl⟩
 obtain⟨cs',hrec,rfl⟩:=hrec
 have hend:∀ e a u,zjd P fn (fun u=>∃ H,Grow C w B u H/\∃ C',r.P H u C'/\∀ k,C' k->(C k\/w.heap.size<=k)/\k<u.heap.size/\H k=none) e a u->
   bodyPostS P fn c0 cs (fun e u' w'=>e=.returned (.tuple #[])/\u'=m'/\∃ H,Grow C w B w' H/\∃ C',r.P H w' C'/\∀ k,C' k->(C k\/w.heap.size<=k)/\k<w'.heap.size/\H k=none) e a ({ c0 with mode:=m' }::cs) u:=fun e a u he=>by
  cases e with
  | normal=>exact⟨he.1,m',rfl,_,he.2.1,rfl,rfl,he.2.2⟩
  | ret=>exact⟨he.1,m',rfl,_,he.2.1,rfl,rfl,he.2.2⟩
  | exit id=>exact he.elim
  | goto l=>exact he.elim
  | panic c=>exact he.elim
  | outgrown=>exact he.elim
 refine wpSIn_seq (Gd (cs':={ c0 with mode:=m' }::cs) Z hd hop hgd hrec ?_);subst hn;have h0:=bl (B:=B) C (fun k hk=>(hC k hk).1) hs hB (fun _=>noL)
 have h1:HasH ⟨w,none,[],C⟩ B [] fn.ntmps (upd (Aq 0 args) gs (.own r0.res)) { tmps:=args.toArray++Array.replicate (fn.ntmps-args.toArray.size) undef,defers:=[] } w B _:=h0.putR (d:=gs) (r:=r0.res) rfl rfl (fun _ _=>rfl) hr (fun k hk=>⟨(hC k hk).1,(hC k hk).2,.inr hk,fun y hy=>by cases hy⟩) fun t r' _ ht=>by
  obtain⟨v,hv,_⟩:=gh _ _ _ _ ht;cases hv
 have h2:=h1.put (d:=d) (k:=.is v) (v:=v) (zm hdn) trivial rfl;have h3:=h _ w ⟨B,_,h2⟩;refine d6 (ztg:=fun a u=>Exit.then (fun a u=>y.wpIn (FW none) 0 P (zjd P fn fun u=>∃ H,Grow C w B u H/\∃ C',r.P H u C'/\∀ k,C' k->(C k\/w.heap.size<=k)/\k<u.heap.size/\H k=none) a u) (zjd P fn fun u=>∃ H,Grow C w B u H/\∃ C',r.P H u C'/\∀ k,C' k->(C k\/w.heap.size<=k)/\k<u.heap.size/\H k=none) .normal a u) (r:=none) (fun a u hy=>?_) l.length 1 (by simp;omega) (by simpa using h3);exact wpSIn_of_wpIn Z (Go.wpIn_mono hy fun e a u he=>hend e a u he)
def zc1(L:Tabs P){fn:Func}(gs:Nat){r:GR}(hrs:fn.results=#[])(hd:F.ds=[])(hk:κ gs=some (.own r.res))(hs:Since F B0 B):∀ a u,Has F B O n κ a u->
  zjd P fn (fun u=>∃ H,Grow F.L F.w0 B0 u H/\∃ C',r.P H u C'/\∀ k,C' k->(F.L k\/F.w0.heap.size<=k)/\k<u.heap.size/\H k=none) .normal a u:=fun a u hh=>by
 obtain⟨H,fp,hH⟩:=hh;have h0:=hH.defers;rw[hd] at h0;refine⟨h0,?_,H,⟨hH.keep,hH.sub,hs.le.trans hH.base,fun k hk hl=>(hH.fresh k hk hl).trans (hs.fresh k hk hl)⟩,HasH.ghost hk hH⟩;obtain⟨vs,h1,h2⟩:=j9 L hH (rs:=[]) hrs (K:=fun vs=>vs=[]) rfl;subst h2;exact h1
def zbl(L:Tabs P){fn:Func}(gs:Nat){r:GR}(hrs:fn.results=#[])(hk:κ gs=some (.own r.res))(e:r=r')(hs:Since F B0 B)(hd:F.ds=[]:=by rfl):
  N F B n O κ (zjd P fn fun u=>∃ H,Grow F.L F.w0 B0 u H/\∃ C',r'.P H u C'/\∀ k,C' k->(F.L k\/F.w0.heap.size<=k)/\k<u.heap.size/\H k=none):=by
 subst e;exact zc1 L gs hrs hd hk hs
def LV(P:Program)(F:Fr)(B:Heap)(n:Nat)(O:Boxes)(κ:Kap)(fn:Func)(R:Ending->World->Prop):Prop:=∀ a u,Has F B O n κ a u->∃ v,(results fn a.tmps).run P u=.ok v u/\R (.returned v) u
def Mq(L:Tabs P){fn:Func}{R:Ending->World->Prop}{f:Nat}{m m':FrameMode}(q:Nat){r r':GR}(hds:F.ds=[.u (dfd f cap)])(hfn:L.fn f=some ())(hq:κ q=some (.own r.res))(hm:m≠.run)(hm':settle m'=.returning)
  (hc:∀ u H C,zth H u->B.Le H->r.P H u C->(ZCB C u H)->ed P f cap u H C m m' r') (h:LV P ⟨F.w0,F.r,[],F.L⟩ B n O (upd κ q (.own r'.res)) fn R):
  ∀ a u,Has F B O n κ a u->LeavesInM Fence.wide 0 P fn a.tmps R a.defers m u:=fun a u hh=>by
 obtain⟨H,fp,hH⟩:=hh;have h0:=hH.defers;rw[hds] at h0;rw[h0];obtain⟨hown,hM⟩:=hH.slot q _ hq;have hc:=hc u H (fp q) hH.sub hH.base hown fun k hk=>⟨(hM k hk).1,(hM k hk).2.1⟩
 refine⟨hm,.inr ⟨fun h=>(by cases h),.func f,cap.toArray,f,cap.toArray,Z,?_,fun _ _=>trivial,?_⟩⟩
 ·show(callFunc f (#[]++cap.toArray)).run P u=_;rw[pd L hfn];simp
 ·refine CallsDIn.mono hc fun e u' w' hp=>?_;obtain⟨rfl,rfl,H',g',C',hr',hC'⟩:=hp;show LeavesInM Fence.wide 0 P fn a.tmps R [] (settle u') w';rw[hm'];have h2:=hH.usePut (d:=q) (a':=a) (r':=r'.res) hq g' rfl rfl (fun _ _=>rfl) hr' hC';rw[j8] at h2;exact h { a with defers:=[] } w' ⟨H',_,h2.size,rfl,zqn,fun D hD=>(by cases hD),h2.lent,h2.keep,h2.sub,h2.base,h2.fresh,h2.boxes,h2.apart,h2.slot,h2.owns,h2.mono⟩
def zl4(L:Tabs P){fn:Func}{R:Ending->World->Prop}{f:Nat}(q:Nat){r:GR}(hds:F.ds=[.u (dfd f cap)])(hfn:L.fn f=some ())(hq:κ q=some (.own r.res))
  (hc:∀ u H C,zth H u->B.Le H->r.P H u C->(ZCB C u H)->ed P f cap u H C .returning .returning r') (h:LV P ⟨F.w0,F.r,[],F.L⟩ B n O (upd κ q (.own r'.res)) fn R) (hQ:∀ a u,bodyPostM Fence.wide 0 P fn R .ret a u->ztg .ret a u):
  V P F B n O κ .ret ztg:=fun a u hh=>wpIn_ret (hQ a u (Mq L q hds hfn hq (by simp) rfl hc h a u hh))
def zgd(L:Tabs P){fn:Func}{R:Ending->World->Prop}{f:Nat}(q:Nat){r:GR}(hds:F.ds=[.u (dfd f cap)])(hfn:L.fn f=some ())(hq:κ q=some (.own r.res))
  (hc:∀ u H C,zth H u->B.Le H->r.P H u C->(ZCB C u H)->ed P f cap u H C (.panicking [{ v:=pv,recovered:=false }]) (.panicking [{ v:=pv,recovered:=true }]) r') (h:LV P ⟨F.w0,F.r,[],F.L⟩ B n O (upd κ q (.own r'.res)) fn R)
  (hQ:∀ a u,bodyPostM Fence.wide 0 P fn R (.panic [{ v:=pv,recovered:=false }]) a u->ztg (.panic [{ v:=pv,recovered:=false }]) a u):XP F B n O κ pv ztg:=fun a u hh=>hQ a u (Mq L q hds hfn hq (by simp) rfl hc h a u hh)
def zk7(L:Tabs P){fn:Func}{rs:List ResultVar}(hrs:fn.results=rs.toArray)(hs:Since F B0 B)(h:∀ u H,zth H u->B.Le H->Ee L F B O κ H rs [] (fun vs=>φ (tup vs) H)):LV P F B n O κ fn (li F.w0 B0 F.L fun v H _=>φ v H):=fun a u hh=>by
 obtain⟨H,fp,hH⟩:=hh;obtain⟨vs,h1,h2⟩:=j9 L hH hrs (h u H hH.sub hH.base);exact⟨_,h1,_,rfl,H,⟨hH.keep,hH.sub,hs.le.trans hH.base,fun k hk hl=>(hH.fresh k hk hl).trans (hs.fresh k hk hl)⟩,h2⟩
def zdn(L:Tabs P){fn:Func}(gs:Nat){r0:GR}{r:Res}{rs:List ResultVar}(hrs:fn.results=rs.toArray)(hs:Since F B0 B)(hk:κ gs=some (.own r0.res))
  (h:∀ H,Ee L F B O κ H rs [] (fun vs=>tup vs=v)) (hr:∀ H u C,B.Le H->zth H u->r0.P H u C->r.P v H u C) (hL:F.L=noL:=by rfl):LV P F B n O κ fn (li F.w0 B0 F.L (zje F.w0 r)):=fun a u hh=>by
 obtain⟨H,fp,hH⟩:=hh;obtain⟨vs,h1,h2⟩:=j9 L hH hrs (h H);obtain⟨hown,hM⟩:=hH.slot gs _ hk;refine⟨_,h1,_,rfl,H,⟨hH.keep,hH.sub,hs.le.trans hH.base,fun k hk hl=>(hH.fresh k hk hl).trans (hs.fresh k hk hl)⟩,fp gs,?_,fun k hk=>?_⟩
 ·rw[h2];exact hr H u (fp gs) hH.base hH.sub hown
 ·obtain⟨g1,g2,g3,_⟩:=hM k hk;refine⟨?_,g1,g2⟩;rcases g3 with g3 | g3
  ·exact g3
  ·have g3':F.L k:=g3;rw[hL] at g3';exact g3'.elim
def Hf(q g1:Nat){fn:Func}{R:Ending->World->Prop}{r1 r2:Res}(hk:κ q=some (.own (iq r1 r2)))(hg1:∀ v v' H u C,r2.P v H u C->r2.P v' H u C)(h:LV P F B n O (upd (upd κ q (.own r1)) g1 (.own r2)) fn R)(hne:q≠g1:=by decide):LV P F B n O κ fn R:=fun a u hh=>h a u (hh.part hne hg1 hk)
def l9(t q:Nat){fn:Func}{R:Ending->World->Prop}{cs:List Value}(hk:κ q=some (.own (xp b cs ty)))(ht:κ t=some (.is (.pointer (some ⟨b,0,none⟩))))(h:LV P F B n O (upd (upd κ q pg) t (.own (Cell cs ty))) fn R):LV P F B n O κ fn R:=fun a u hh=>h a u (hh.release hk ht)
def P2(q g1:Nat){r1 r2:Res}(hk:κ q=some (.own r1))(hk1:κ g1=some (.own r2))(hg1:∀ v v' H u C,r2.P v H u C->r2.P v' H u C)(h:XP F B n O (upd (upd κ g1 pg) q (.own (iq r1 r2))) pv ztg)(hne:q≠g1:=by decide):XP F B n O κ pv ztg:=fun a u hh=>h a u (hh.join2 hne hg1 hk hk1)
end code
end Go.V
namespace Go.V.L10
open Go.V Go.V.L2 Go.V.L8
def kpt(R:List (Option (List U)))(r:Int):Option (List U):=if 0<r then (R[(r-1).toNat]?).join else none
def k7(R:List (Option (List U))):List Int:=((List.range R.length).filter fun i=>((R[i]?).join).isSome).map fun i=>((i+1:Nat):Int)
def ra(R:List (Option (List U)))(i:Nat):kpt R ((i+1:Nat):Int)=(R[i]?).join:=by
 unfold kpt;rw[na T,show(((i+1:Nat):Int)-1).toNat=i by omega]
def bj{r:Int}(h:(kpt R r).isSome=true):0<r/\r<=R.length:=by
 unfold kpt at h;split at h
 ·rename_i h0;refine⟨h0,?_⟩
  cases hr:R[(r-1).toNat]? with
  | none=>rw[hr] at h;cases h
  | some x=>have:=get_lt hr;omega
 ·cases h
def vo{r:Int}:r∈k7 R↔(kpt R r).isSome=true:=by
 unfold k7;rw[zo9];constructor
 ·rintro⟨i,hi,rfl⟩;rw[zpg] at hi;rw[ra];exact hi.2
 ·intro h;have hb:=bj h;obtain⟨i,rfl⟩:∃ i:Nat,r=((i+1:Nat):Int):=⟨(r-1).toNat,by omega⟩
  rw[ra] at h;exact⟨i,zpg.2 ⟨List.mem_range.2 T,h⟩,rfl⟩
def ek(R:List (Option (List U))):Sst cP (k7 R):=by
 unfold k7 Sst;rw[List.pairwise_map];refine(List.Pairwise.filter _ List.pairwise_lt_range).imp ?_;intro a b h;exact za7.2 T
def A6(R:List (Option (List U))):(k7 R).length<=R.length:=by
 unfold k7;rw[my];exact mp (zqu ..) (by simp)
section
variable {Y:Type}
def Rb(k:Int):um k ([]:List (Int×Y))=none:=rfl
def pj{k:Int}:∀ {l:List (Int×Y)},(um k l).isSome=true↔k∈l.map Prod.fst
 | []=>by simp [Rb]
 | p::l=>by
  rw[vn,mw,ma];by_cases h:k=p.1
  ·rw[na h];simp [h]
  ·rw[nc h,pj];simp [h]
def am{k:Int}{y:Y}:∀ {l:List (Int×Y)},um k l=some y->(k,y)∈l
 | [],h=>by cases h
 | p::l,h=>by
  rw[vn] at h;by_cases e:k=p.1
  ·rw[na e] at h;cases h;rw[e];exact mb ..
  ·rw[nc e] at h;exact me _ (am h)
def T5(k:Int)(p:Int×Y)(l:List (Int×Y)):po k (p::l) 0=if k=p.1 then some (0,p.2) else (po k l 0).map fun q=>(q.1+1,q.2):=by
 rw[<-o7];rfl
def Mm(k:Int)(p:Int×Y)(l:List (Int×Y)):T6 k (p::l)=if k=p.1 then l else p::T6 k l:=by
 unfold T6;rw[T5];by_cases h:k=p.1
 ·rw[na h,na h];rfl
 ·rw[nc h,nc h]
  cases po k l 0 with
  | none=>rfl
  | some q=>rfl
def He(k:Int):∀ l:List (Int×Y),(T6 k l).Sublist l
 | []=>List.Sublist.refl _
 | p::l=>by
  rw[Mm];by_cases h:k=p.1
  ·rw[na h];exact zsg ..
  ·rw[nc h];exact(He k l).cons_cons _
def Rc{k r:Int}:∀ {l:List (Int×Y)},(l.map Prod.fst).Nodup->um r (T6 k l)=if r=k then none else um r l
 | [],_=>by rw[show T6 k ([]:List (Int×Y))=[] from rfl,Rb];split<;>rfl
 | p::l,hn=>by
  rw[mw,zrl] at hn;rw[Mm];by_cases h:k=p.1
  ·rw[na h];by_cases hr:r=k
   ·rw[na hr];have:¬ (um r l).isSome=true:=fun hs=>hn.1 (h ▸ hr ▸ pj.1 hs)
    cases hg:um r l with
    | none=>rfl
    | some y=>rw[hg] at this;exact ni rfl this
   ·rw[nc hr,vn,nc (fun e=>hr (e.trans h.symm))]
  ·rw[nc h,vn,Rc hn.2,vn];by_cases hr:r=k
   ·subst hr;rw[nc h,na rfl,na rfl]
   ·rw[nc hr,nc hr]
end
structure MapOK{Y:Type}(es:List (Int×(List U×Y)))(R:List (Option (List U))):Prop where
 nd:(es.map Prod.fst).Nodup
 get:∀ r,(um r es).map Prod.fst=kpt R r
def MapOK.mem{Y:Type}{es:List (Int×(List U×Y))}(h:MapOK es R){r:Int}:r∈es.map Prod.fst↔r∈k7 R:=by
 rw[<-pj,vo,<-h.get r,zsc]
def zc2{a b:List Int}(ha:a.Nodup)(hb:b.Nodup)(h:∀ x,x∈a↔x∈b):a.length=b.length:=((List.perm_ext_iff_of_nodup ha hb).2 h).length_eq
def MapOK.len{Y:Type}{es:List (Int×(List U×Y))}(h:MapOK es R):es.length=(k7 R).length:=by
 rw[<-my (f:=Prod.fst)];exact zc2 h.nd ((ek R).nodup lm) fun _=>h.mem
def Bp(R:List (Option (List U)))(t:List U)(r:Int):kpt (R++[some t]) r=if r=((R.length+1:Nat):Int) then some t else kpt R r:=by
 by_cases h:r=((R.length+1:Nat):Int)
 ·rw[na h,h,ra];simp
 ·rw[nc h];unfold kpt;by_cases h0:0<r
  ·rw[na h0,na h0];rcases m8 (r-1).toNat R.length with hlt | hge
   ·rw[zqb hlt]
   ·rw[zpd (by rw[nr,zqf];omega),zpd hge]
  ·rw[nc h0,nc h0]
def MapOK.add{Y:Type}{es:List (Int×(List U×Y))}(h:MapOK es R)(t:List U)(y:Y):MapOK (Pa ((R.length+1:Nat):Int) (t,y) es) (R++[some t])/\Pa ((R.length+1:Nat):Int) (t,y) es=es++[(((R.length+1:Nat):Int),(t,y))]:=by
 have hn:((R.length+1:Nat):Int)∉es.map Prod.fst:=fun hm=>by
  have:=bj (vo.1 (h.mem.1 hm));omega
 have hf:po ((R.length+1:Nat):Int) es 0=none:=by
  have h1:¬ (um ((R.length+1:Nat):Int) es).isSome=true:=fun hs=>hn (pj.1 hs);unfold um at h1
  cases hm:po ((R.length+1:Nat):Int) es 0 with
  | none=>rfl
  | some q=>rw[hm] at h1;exact ni rfl h1
 have he:Pa ((R.length+1:Nat):Int) (t,y) es=es++[(((R.length+1:Nat):Int),(t,y))]:=sj hf;refine⟨⟨?_,fun r=>?_⟩,he⟩
 ·rw[he,zpo,List.nodup_append];refine⟨h.nd,zqr _ _,fun a ha b hb=>?_⟩;simp only[mw,zpk,m4] at hb;subst hb;exact fun e=>hn (e ▸ ha)
 ·rw[Ra,Bp];by_cases e:r=((R.length+1:Nat):Int)
  ·rw[na e,na e];rfl
  ·rw[nc e,nc e,h.get]
def clr(R:List (Option (List U)))(g:Int):List (Option (List U)):=R.set (g-1).toNat none
def Y5{g r:Int}(hg:0<g):kpt (clr R g) r=if r=g then none else kpt R r:=by
 unfold kpt clr;by_cases h0:0<r
 ·rw[na h0,na h0,List.getElem?_set];by_cases e:r=g
  ·subst e;rw[na rfl,na rfl];split<;>rfl
  ·rw[nc T,nc e]
 ·rw[nc h0,nc h0,nc T]
def MapOK.del{Y:Type}{es:List (Int×(List U×Y))}(h:MapOK es R){g:Int}(hg:0<g):MapOK (T6 g es) (clr R g):=⟨h.nd.sublist ((He g es).map _),fun r=>by
 rw[Rc h.nd,Y5 hg];by_cases e:r=g
 ·rw[na e,na e];rfl
 ·rw[nc e,nc e,h.get]⟩
def zaw(R:List (Option (List U)))(l:List Int):List (Option (List U)):=l.foldl clr R
def au(l:List Int):∀ R:List (Option (List U)),(zaw R l).length=R.length:=by
 induction l with
 | nil=>intro R;rfl
 | cons g l ih=>
  intro R;have:=ih (clr R g);unfold zaw at this |-;rw[zrd,this];unfold clr;rw[zrc]
def Br{r:Int}:∀ {l:List Int} {R:List (Option (List U))},(∀ g∈l,0<g)->kpt (zaw R l) r=if r∈l then none else kpt R r
 | [],R,_=>by simp [zaw]
 | g::l,R,h=>by
  have:=Br (r:=r) (l:=l) (R:=clr R g) fun x hx=>h x (me _ hx);unfold zaw at this |-;rw[zrd,this,Y5 (h g (mb ..))];by_cases e1:r∈l
  ·rw[na e1,na (me _ e1)]
  ·rw[nc e1];by_cases e2:r=g
   ·rw[na e2,na (by simp [e2])]
   ·rw[nc e2,nc (by simp [e1,e2])]
structure Sto where
 R:List (Option (List U))
 P:List Int
structure zoc(S:Sto):Prop where
 last:(kpt S.R S.R.length).isSome=true
 kl:(k7 S.R).length<=1024
 pin:∀ r∈S.P,(kpt S.R r).isSome=true
 tl:∀ r t,kpt S.R r=some t->t.length<=4096
def newS:Sto:=⟨[some []],[]⟩
def atS(S:Sto)(r:Int):List U×Int:=match kpt S.R (if r=0 then S.R.length else r) with
 | some t=>(t,0)
 | none=>([],14)
def B5(S:Sto)(l cs:List CH):Sto×Int×Int:=
 if (ef (atS S 0).1 l cs).2.2=0 then (if 1024<=(k7 S.R).length then (S,0,3) else (⟨S.R++[some (ef (atS S 0).1 l cs).1],S.P⟩,((S.R.length+1:Nat):Int),0)) else (S,0,(ef (atS S 0).1 l cs).2.2)
def zhh(S:Sto)(r:Int)(un:Bool):Sto×Int:=
 if (kpt S.R r).isSome=true then (if un then (if (Ks S.P r).2=0 then (⟨S.R,(Ks S.P r).1⟩,0) else (S,(Ks S.P r).2)) else (⟨S.R,S.P++[r]⟩,0)) else (S,14)
def Am(S:Sto)(keep:Int):Sto×List Int×Int:=
 if 1<=keep/\keep<=1024 then (⟨zaw S.R (a9 S.P (k7 S.R) keep.toNat),S.P⟩,a9 S.P (k7 S.R) keep.toNat,0) else (S,[],4)
end Go.V.L10
section
open Go.V
attribute [local irreducible] Has N Par Ret RetL RetO RetX Src StepOK V VO X kx
namespace Go.V.So
open Go.Sort
def _root_.Zp(t:Wr Y->A:=by intro h;refine z8 (qv L _ Z Z Z Z T) Z ?_;exact h.1)(h:Y):A:=t ⟨h⟩
def _root_.Za9(t:Wr Y->A:=by intro h;refine z7 (Qx Z Z Z Z M) Z ?_;exact h.1)(h:Y):A:=t ⟨h⟩
def _root_.ZT(t:Wr Y->A:=by exact fun h=>(Zn∘Zp) h.1)(h:Y):A:=t ⟨h⟩
def _root_.ZbJ(t:Wr Y->A:=by exact fun h=>(Zn∘Zd6) h.1)(h:Y):A:=t ⟨h⟩
abbrev lt:Int->Int->Bool:=ltInt
abbrev tyU:TypeId:=48
def isnanU(a:Int)(hB:zth B w):Ret zti 280 [.int .u64 a] w B (fun v _=>v=.bool false):=by
 refine yn Tryz.func280 Z Tryz.ntmps280 (np Z) hB ((Z4∘Zb∘Zaq∘Zc) ?_);exact yj2 L [.tmp 2]
def znh(a b:Int)(hB:zth B w):Ret zti 277 [.int .u64 a,.int .u64 b] w B (fun v _=>v=.bool (lt a b)):=by
 unfold lt ltInt;refine yn Tryz.func277 Z Tryz.ntmps277 (np Z) hB ?_;by_cases h:a<b
 ·rw[nf h];refine(Z4∘Za) ?_;refine z71 L Z (fun u H hH _=>isnanU _ hH) ?_;refine(ZbU∘Z3∘ZN∘Zh∘Zc) ?_;exact yj2 L [.tmp 4]
 ·rw[ng h];refine(Z4∘Za) ?_;refine z71 L Z (fun u H hH _=>isnanU _ hH) ?_;refine(ZbU∘Z3∘ZJ∘Zh∘Zc) ?_;exact yj2 L [.tmp 4]
def js{a b:Int}{f:Bool}(h:lt a b=f)(hB:zth B w):Ret zti 277 [.int .u64 a,.int .u64 b] w B (fun v _=>v=.bool f):=h ▸ znh a b hB
def ins_ret{b m cap a e:Nat}(hab:a<=e)(he:e<=d.size)(hm:d.size=m)(hm1:m<=100000)(hB:zth B w)
  (hr:(xc b (uC d++rest) tyU).P B w C) (hC:ZCB C w B):
  kx zti 271 [.slice (some ⟨b,0,none⟩) m cap,.int .i64 a,.int .i64 e] w B C (xc b (uC (insertionSort lt d a e)++rest) tyU):=by
 unfold kx;refine xa 900 (xc b (uC d++rest) tyU) Tryz.func271 Z Tryz.ntmps271 (np Z) hB hr hC ?_;rw[xd];have hw0:IntKind.i64.wrap ((a:Int)+1)=((a+1:Nat):Int):=xb T T;refine(ZP∘Za∘Z7∘ZaJ) ?_;refine xm (fun s:Nat×Array Int=>[(0,.is (.slice (some ⟨b,0,none⟩) m cap)),(1,.is (.int .i64 a)),(2,.is (.int .i64 e)),(6,.is (.int .i64 s.1)),(900,.own (xp b (uC s.2++rest) tyU))]) (fun s=>s.1<=e+1/\a<s.1/\s.2.size=m/\insOuter lt a e s.1 s.2=insertionSort lt d a e) (fun s=>e+1-s.1) (a+1,d) ⟨by omega,by omega,hm,rfl⟩ ⟨Z,Z,Z,Z,Z,nm⟩ ?_;rintro⟨i,D⟩ ⟨hi,hai,hD,hO⟩;dsimp only at hi hai hD hO |-;by_cases hlt:i<e
 ·rw[insOuter,na hlt] at hO;refine(Zf∘ZE∘Zb∘ZbF∘ZA∘ZaJ) ?_;refine xm (fun t:Nat×Array Int=>[(0,.is (.slice (some ⟨b,0,none⟩) m cap)),(1,.is (.int .i64 a)),(2,.is (.int .i64 e)),(6,.is (.int .i64 i)),(7,.is (.int .i64 t.1)),(900,.own (xp b (uC t.2++rest) tyU))]) (fun t=>t.1<=i/\t.2.size=m/\insInner lt a t.1 t.2=insInner lt a i D) (fun t=>t.1) (i,D) ⟨nu _,hD,rfl⟩ ⟨Z,Z,Z,Z,Z,Z,nm⟩ ?_;rintro⟨j,ztd⟩ ⟨hj,hE,hI⟩;dsimp only at hj hE hI |-;rcases j with _ | j
  ·rw[insInner] at hI;rw[hI];refine(Zf∘ZcJ∘Zn∘Zdz∘ZbH∘Zb5∘Za3∘ZaD∘ZaE∘Zy∘ZaC) ?_;exact ym (x:=(i,D)) (i+1,insInner lt a i D) ⟨by dsimp only;omega,by dsimp only;omega,by dsimp only;rw[<-hI];exact hE,hO⟩ G ⟨Z,Z,Z,Z,Z,trivial⟩
  ·by_cases hja:a<j+1
   ·have hw1:IntKind.i64.wrap (((j+1:Nat):Int)-1)=(j:Int):=xb T T |>.trans T;obtain⟨r1,q1⟩:=gk (rest:=rest) (show j+1<ztd.size by omega) (0+(j+1)*1) rfl;obtain⟨r2,q2⟩:=gk (rest:=rest) (show j<ztd.size by omega) (0+j*1) rfl
    cases hc:lt ztd[j+1]! ztd[j]! with
    | true=>
     rw[insInner,na (by rw[hc];simp;omega)] at hI;have s1:=vt (rest:=rest) ztd[j]! (show j+1<ztd.size by omega) (0+(j+1)*1) rfl;have b1:=vu (rest:=rest) (show j+1<ztd.size by omega) (0+(j+1)*1) rfl;have hz:j<(ztd.setIfInBounds (j+1) ztd[j]!).size:=by rw[zpx];omega
     have s2:=vt (rest:=rest) ztd[j+1]! hz (0+j*1) rfl;have b2:=vu (rest:=rest) hz (0+j*1) rfl;rw[fe] at s2;refine Zf (h:=?_);refine qo (id:=4) [(200023,[900]),(200028,[900])] ki J ((Zn∘Zdm∘Zbh∘Zp) ?_);refine qz (qg L (q:=900) Z Z Z q1) Z Z ((ZbJ∘Zp) ?_);refine qz (qg L (q:=900) Z Z Z q2) Z Z (z81 L Z (fun u H hH _=>js hc hH) ?_);refine(Zcc∘Zaf∘Zam) ?_;refine qo (id:=6) [(200042,[900]),(200046,[900]),(100047,[900]),(100048,[900])] ki J ((Zn∘ZbJ∘ZbJ∘Zp) ?_);refine qz (qg L (q:=900) Z Z Z q2) Z Z (ZT (h:=?_));refine qz (qg L (q:=900) Z Z Z q1) Z Z (Zp (h:=?_));refine xo (yo L (q:=900) Z Z b1 Z s1) Z (Zp (h:=?_));refine xo (yo L (q:=900) Z Z b2 Z s2) Z ((Zck∘ZaE∘ZU∘Za9∘Zbw) ?_);exact ym (x:=(j+1,ztd)) (j,swp ztd (j+1) j) ⟨by dsimp only;omega,by dsimp only;rw[wg];exact hE,hI⟩ G ⟨Z,Z,Z,Z,Z,Z,trivial⟩
    | false=>
     rw[insInner,nc (by rw[hc];simp)] at hI;refine Zf (h:=?_);refine qo (id:=4) [(200023,[900]),(200028,[900])] ki J ((Zn∘Zdm∘Zbh∘Zp) ?_);refine qz (qg L (q:=900) Z Z Z q1) Z Z ((ZbJ∘Zp) ?_);refine qz (qg L (q:=900) Z Z Z q2) Z Z (z81 L Z (fun u H hH _=>js hc hH) ?_);refine(Za3∘ZaD∘ZaE) ?_;rw[hI];refine(Zy∘ZaC) ?_;exact ym (x:=(i,D)) (i+1,insInner lt a i D) ⟨by dsimp only;omega,by dsimp only;omega,by dsimp only;rw[<-hI];exact hE,hO⟩ G ⟨Z,Z,Z,Z,Z,trivial⟩
   ·rw[insInner,nc (by simp;omega)] at hI;rw[hI];refine(Zf∘ZcJ∘Zn∘Zdz∘ZbH∘Zb5∘Za3∘ZaD∘ZaE∘Zy∘ZaC) ?_;exact ym (x:=(i,D)) (i+1,insInner lt a i D) ⟨by dsimp only;omega,by dsimp only;omega,by dsimp only;rw[<-hI];exact hE,hO⟩ G ⟨Z,Z,Z,Z,Z,trivial⟩
 ·rw[insOuter,nc hlt] at hO;subst hO;refine(Zf∘ZE∘ZbA∘ZaL∘ZaD) ?_;exact xu L 900 (r:=xc b _ tyU) Z (fun _ _ h=>h) nq Z Z
def _root_.Zcf(t:Wr Y->A:=by intro h;refine z8 (ya Z Z Z Z M) Z ?_;exact h.1)(h:Y):A:=t ⟨h⟩
def _root_.ZcZ(t:Wr Y->A:=by intro h;refine z7 (zks Z Z Z Z T M) Z ?_;exact h.1)(h:Y):A:=t ⟨h⟩
def _root_.Zew(t:Wr Y->A:=by intro h;refine qo (id:=5) [(200044,[900]),(200050,[900])] ki J ?_;exact h.1)(h:Y):A:=t ⟨h⟩
def _root_.Zft(t:Wr Y->A:=by intro h;refine qo (id:=6) [(200066,[900]),(200072,[900]),(100073,[900]),(100074,[900])] ki J ?_;exact h.1)(h:Y):A:=t ⟨h⟩
def _root_.ZeW(t:Wr Y->A:=by intro h;refine qo (id:=3) [(200027,[900]),(200034,[900])] ki J ?_;exact h.1)(h:Y):A:=t ⟨h⟩
def _root_.ZcD(t:Wr Y->A:=by exact fun h=>(Zbh∘Zcf) h.1)(h:Y):A:=t ⟨h⟩
def _root_.ZaA(t:Wr Y->A:=by exact fun h=>(Zb∘Za9) h.1)(h:Y):A:=t ⟨h⟩
def _root_.ZdH(t:Wr Y->A:=by exact fun h=>(Zec∘Z7) h.1)(h:Y):A:=t ⟨h⟩
def _root_.ZbS(t:Wr Y->A:=by exact fun h=>(ZcD∘Zp) h.1)(h:Y):A:=t ⟨h⟩
def zg9{m cap a e:Nat}(hab:a<e)(he:e<=d.size)(hm:d.size=m)(hm1:m<=100000)(hB:zth B w)
  (hr:(xc b (uC d++rest) tyU).P B w C) (hC:ZCB C w B):
  kx zti 275 [.slice (some ⟨b,0,none⟩) m cap,.int .i64 a,.int .i64 e] w B C (xc b (uC (reverseRange d a e)++rest) tyU):=by
 unfold kx;refine xa 900 (xc b (uC d++rest) tyU) Tryz.func275 Z Tryz.ntmps275 (np Z) hB hr hC ?_;rw[xd];have hw0:IntKind.i64.wrap ((e:Int)-1)=((e-1:Nat):Int):=xb T T |>.trans T;refine(ZP∘Za∘Zb7∘Za9∘ZaJ) ?_;refine xm (fun s:(Nat×Nat)×Array Int=>[(0,.is (.slice (some ⟨b,0,none⟩) m cap)),(6,.is (.int .i64 s.1.1)),(7,.is (.int .i64 s.1.2)),(900,.own (xp b (uC s.2++rest) tyU))]) (fun s=>s.1.1<=m/\s.1.2<m/\s.2.size=m/\reverseLoop s.1.1 s.1.2 s.2=reverseRange d a e) (fun s=>s.1.2-s.1.1) ((a,e-1),d) ⟨by dsimp only;omega,by dsimp only;omega,hm,rfl⟩ ⟨Z,Z,Z,Z,trivial⟩ ?_;rintro⟨⟨i,j⟩,ztd⟩ ⟨hi,hj,hE,hO⟩;dsimp only at hi hj hE hO |-;by_cases hlt:i<j
 ·rw[reverseLoop,na hlt] at hO;have hw1:IntKind.i64.wrap ((i:Int)+1)=((i+1:Nat):Int):=xb T T;have hw2:IntKind.i64.wrap ((j:Int)-1)=((j-1:Nat):Int):=xb T T |>.trans T;obtain⟨_,qj⟩:=gk (rest:=rest) (show j<ztd.size by omega) (0+(j)*1) rfl;obtain⟨_,qi⟩:=gk (rest:=rest) (show i<ztd.size by omega) (0+(i)*1) rfl;have s1:=vt (rest:=rest) ztd[j]! (show i<ztd.size by omega) (0+(i)*1) rfl;have b1:=vu (rest:=rest) (show i<ztd.size by omega) (0+(i)*1) rfl;have hz:j<(ztd.setIfInBounds (i) ztd[j]!).size:=by rw[zpx];omega
  have s2:=vt (rest:=rest) ztd[i]! hz (0+(j)*1) rfl;have b2:=vu (rest:=rest) hz (0+(j)*1) rfl;rw[fe] at s2;refine(Zf∘ZaR∘ZbD∘ZcL) ?_;refine qo (id:=3) [(200021,[900]),(200025,[900]),(100026,[900]),(100027,[900])] ki J ((Zn∘Zn∘ZT) ?_);refine qz (qg L (q:=900) Z Z Z qj) Z Z (ZT (h:=?_));refine qz (qg L (q:=900) Z Z Z qi) Z Z (Zp (h:=?_));refine xo (yo L (q:=900) Z Z b1 Z s1) Z (Zp (h:=?_));refine xo (yo L (q:=900) Z Z b2 Z s2) Z ((ZaZ∘Z0∘Z7∘Zc∘ZU∘Za9∘Zai) ?_);exact ym (x:=((i,j),ztd)) ((i+1,j-1),swp ztd i j) ⟨by dsimp only;omega,by dsimp only;omega,by dsimp only;rw[wg];exact hE,hO⟩ G ⟨Z,Z,Z,Z,trivial⟩
 ·rw[reverseLoop,nc hlt] at hO;subst hO;refine(Zf∘ZaR∘ZJ∘ZaL∘ZaD) ?_;exact xu L 900 (r:=xc b _ tyU) Z (fun _ _ h=>h) nq Z Z
def Qq{b m cap lo hi first:Nat}(hlo:lo<=hi)(hf:first+hi<=d.size)(hm:d.size=m)(hm1:m<=100000)(hB:zth B w)
  (hr:(xc b (uC d++rest) tyU).P B w C) (hC:ZCB C w B):
  kx zti 288 [.slice (some ⟨b,0,none⟩) m cap,.int .i64 lo,.int .i64 hi,.int .i64 first] w B C (xc b (uC (siftDown lt hi first lo d)++rest) tyU):=by
 unfold kx;refine xa 900 (xc b (uC d++rest) tyU) Tryz.func288 Z Tryz.ntmps288 (np Z) hB hr hC ?_;rw[xd];refine(ZP∘Za∘ZaJ) ?_;refine xm (fun s:Nat×Array Int=>[(0,.is (.slice (some ⟨b,0,none⟩) m cap)),(2,.is (.int .i64 hi)),(3,.is (.int .i64 first)),(8,.is (.int .i64 s.1)),(900,.own (xp b (uC s.2++rest) tyU))]) (fun s=>s.1<=hi/\s.2.size=m/\siftDown lt hi first s.1 s.2=siftDown lt hi first lo d) (fun s=>hi-s.1) (lo,d) ⟨hlo,hm,rfl⟩ ⟨Z,Z,Z,Z,Z,nm⟩ ?_;rintro⟨r,ztd⟩ ⟨hr0,hE,hO⟩;dsimp only at hr0 hE hO |-;have hw1:IntKind.i64.wrap (2*(r:Int))=((2*r:Nat):Int):=xb T T |>.trans T;have hw2:IntKind.i64.wrap (((2*r:Nat):Int)+1)=((2*r+1:Nat):Int):=xb T T;by_cases hend:hi<=2*r+1
 ·rw[siftDown,dif_pos T] at hO;subst hO;refine(ZH∘Zbp∘ZdH∘Zj∘ZaR∘ZbZ∘Zea∘ZdF∘Zdk) ?_;exact xu L 900 (r:=xc b _ tyU) Z (fun _ _ h=>h) nq Z Z
 ·rw[siftDown,dif_neg T] at hO;have hw3:IntKind.i64.wrap (((2*r+1:Nat):Int)+1)=((2*r+2:Nat):Int):=xb T T;have hw4:IntKind.i64.wrap ((first:Int)+((2*r+1:Nat):Int))=((first+(2*r+1):Nat):Int):=xb T T;have hw5:IntKind.i64.wrap (((first+(2*r+1):Nat):Int)+1)=((first+(2*r+2):Nat):Int):=xb T T;have hw6:IntKind.i64.wrap ((first:Int)+(r:Int))=((first+r:Nat):Int):=xb T T;have hw7:IntKind.i64.wrap ((first:Int)+((2*r+2:Nat):Int))=((first+(2*r+2):Nat):Int):=xb T T;obtain⟨_,qr⟩:=gk (rest:=rest) (show first+r<ztd.size by omega) (0+(first+r)*1) rfl;by_cases h2:2*r+2<hi
  ·obtain⟨_,q1⟩:=gk (rest:=rest) (show first+(2*r+1)<ztd.size by omega) (0+(first+(2*r+1))*1) rfl;obtain⟨_,q2⟩:=gk (rest:=rest) (show first+(2*r+2)<ztd.size by omega) (0+(first+(2*r+2))*1) rfl;have e2:first+(2*r+1)+1=first+(2*r+2):=T
   rw[e2] at hO
   cases hc:lt ztd[first+(2*r+1)]! ztd[first+(2*r+2)]! with
   | true=>
    rw[na (by rw[hc];simp;omega)] at hO;have qc:=q2
    cases hc2:lt ztd[first+r]! ztd[first+(2*r+2)]! with
    | false=>
     rw[hc2] at hO;simp only[Bool.not_false,if_true] at hO;subst hO;refine(ZH∘Zbp∘ZdH∘Zj∘ZaR∘Za4∘Z1∘ZeW∘Zl∘Zcf∘Zl∘Zcw∘Zn∘Zn∘Zcf∘Zp) ?_;refine qz (qg L (q:=900) Z Z Z q1) Z Z ((ZcD∘Zcf∘Zp) ?_);refine qz (qg L (q:=900) Z Z Z q2) Z Z (z81 L Z (fun u H hH _=>js hc hH) ?_);refine(Zcc∘Z0∘Z7∘Zj∘Zew∘ZbS) ?_;refine qz (qg L (q:=900) Z Z Z qr) Z Z (ZbS (h:=?_));refine qz (qg L (q:=900) Z Z Z qc) Z Z (z81 L Z (fun u H hH _=>js hc2 hH) ?_);refine(Za8∘ZbW) ?_;exact jj L 900 (r:=xc b _ tyU) Z (fun _ _ h=>h) nq Z Z
    | true=>
     rw[hc2] at hO;simp only[zrz,zqo,if_false] at hO;rw[dif_pos T] at hO;obtain⟨_,qj⟩:=gk (rest:=rest) (show first+(2*r+2)<ztd.size by omega) (0+(first+(2*r+2))*1) rfl;obtain⟨_,qi⟩:=gk (rest:=rest) (show first+r<ztd.size by omega) (0+(first+r)*1) rfl;have s1:=vt (rest:=rest) ztd[first+(2*r+2)]! (show first+r<ztd.size by omega) (0+(first+r)*1) rfl;have b1:=vu (rest:=rest) (show first+r<ztd.size by omega) (0+(first+r)*1) rfl;have hz:first+(2*r+2)<(ztd.setIfInBounds (first+r) ztd[first+(2*r+2)]!).size:=by rw[zpx];omega
     have s2:=vt (rest:=rest) ztd[first+r]! hz (0+(first+(2*r+2))*1) rfl;have b2:=vu (rest:=rest) hz (0+(first+(2*r+2))*1) rfl;rw[fe] at s2;refine(ZH∘Zbp∘ZdH∘Zj∘ZaR∘Za4∘Z1∘ZeW∘Zl∘Zcf∘Zl∘Zcw∘Zn∘Zn∘Zcf∘Zp) ?_;refine qz (qg L (q:=900) Z Z Z q1) Z Z ((ZcD∘Zcf∘Zp) ?_);refine qz (qg L (q:=900) Z Z Z q2) Z Z (z81 L Z (fun u H hH _=>js hc hH) ?_);refine(Zcc∘Z0∘Z7∘Zj∘Zew∘ZbS) ?_;refine qz (qg L (q:=900) Z Z Z qr) Z Z (ZbS (h:=?_));refine qz (qg L (q:=900) Z Z Z qc) Z Z (z81 L Z (fun u H hH _=>js hc2 hH) ?_);refine(Za8∘ZaN∘Zaf∘Zft∘ZcD∘ZcD∘ZbS) ?_;refine qz (qg L (q:=900) Z Z Z qj) Z Z (ZbS (h:=?_));refine qz (qg L (q:=900) Z Z Z qi) Z Z (Zp (h:=?_));refine xo (yo L (q:=900) Z Z b1 Z s1) Z (Zp (h:=?_));refine xo (yo L (q:=900) Z Z b2 Z s2) Z ((Zb1∘Z8∘Zai) ?_);exact ym (x:=(r,ztd)) (2*r+2,swp ztd (first+r) (first+(2*r+2))) ⟨by dsimp only;omega,by dsimp only;rw[wg];exact hE,hO⟩ G ⟨Z,Z,Z,Z,Z,trivial⟩
   | false=>
    rw[nc (by rw[hc];simp)] at hO;have qc:=q1
    cases hc2:lt ztd[first+r]! ztd[first+(2*r+1)]! with
    | false=>
     rw[hc2] at hO;simp only[Bool.not_false,if_true] at hO;subst hO;refine(ZH∘Zbp∘ZdH∘Zj∘ZaR∘Za4∘Z1∘ZeW∘Zl∘Zcf∘Zl∘Zcw∘Zn∘Zn∘Zcf∘Zp) ?_;refine qz (qg L (q:=900) Z Z Z q1) Z Z ((ZcD∘Zcf∘Zp) ?_);refine qz (qg L (q:=900) Z Z Z q2) Z Z (z81 L Z (fun u H hH _=>js hc hH) ?_);refine(Za3∘Zaf∘Ze∘Zew∘ZbS) ?_;refine qz (qg L (q:=900) Z Z Z qr) Z Z (ZbS (h:=?_));refine qz (qg L (q:=900) Z Z Z qc) Z Z (z81 L Z (fun u H hH _=>js hc2 hH) ?_);refine(Za8∘ZbW) ?_;exact jj L 900 (r:=xc b _ tyU) Z (fun _ _ h=>h) nq Z Z
    | true=>
     rw[hc2] at hO;simp only[zrz,zqo,if_false] at hO;obtain⟨_,qj⟩:=gk (rest:=rest) (show first+(2*r+1)<ztd.size by omega) (0+(first+(2*r+1))*1) rfl;obtain⟨_,qi⟩:=gk (rest:=rest) (show first+r<ztd.size by omega) (0+(first+r)*1) rfl;have s1:=vt (rest:=rest) ztd[first+(2*r+1)]! (show first+r<ztd.size by omega) (0+(first+r)*1) rfl;have b1:=vu (rest:=rest) (show first+r<ztd.size by omega) (0+(first+r)*1) rfl;have hz:first+(2*r+1)<(ztd.setIfInBounds (first+r) ztd[first+(2*r+1)]!).size:=by rw[zpx];omega
     have s2:=vt (rest:=rest) ztd[first+r]! hz (0+(first+(2*r+1))*1) rfl;have b2:=vu (rest:=rest) hz (0+(first+(2*r+1))*1) rfl;rw[fe] at s2;refine(ZH∘Zbp∘ZdH∘Zj∘ZaR∘Za4∘Z1∘ZeW∘Zl∘Zcf∘Zl∘Zcw∘Zn∘Zn∘Zcf∘Zp) ?_;refine qz (qg L (q:=900) Z Z Z q1) Z Z ((ZcD∘Zcf∘Zp) ?_);refine qz (qg L (q:=900) Z Z Z q2) Z Z (z81 L Z (fun u H hH _=>js hc hH) ?_);refine(Za3∘Zaf∘Ze∘Zew∘ZbS) ?_;refine qz (qg L (q:=900) Z Z Z qr) Z Z (ZbS (h:=?_));refine qz (qg L (q:=900) Z Z Z qc) Z Z (z81 L Z (fun u H hH _=>js hc2 hH) ?_);refine(Za8∘ZaN∘Zaf∘Zft∘ZcD∘ZcD∘ZbS) ?_;refine qz (qg L (q:=900) Z Z Z qj) Z Z (ZbS (h:=?_));refine qz (qg L (q:=900) Z Z Z qi) Z Z (Zp (h:=?_));refine xo (yo L (q:=900) Z Z b1 Z s1) Z (Zp (h:=?_));refine xo (yo L (q:=900) Z Z b2 Z s2) Z ((Zb1∘Z8∘Zai) ?_);exact ym (x:=(r,ztd)) (2*r+1,swp ztd (first+r) (first+(2*r+1))) ⟨by dsimp only;omega,by dsimp only;rw[wg];exact hE,hO⟩ G ⟨Z,Z,Z,Z,Z,trivial⟩
  ·rw[nc (by simp;omega)] at hO;obtain⟨_,qc⟩:=gk (rest:=rest) (show first+(2*r+1)<ztd.size by omega) (0+(first+(2*r+1))*1) rfl
   cases hc2:lt ztd[first+r]! ztd[first+(2*r+1)]! with
   | false=>
    rw[hc2] at hO;simp only[Bool.not_false,if_true] at hO;subst hO;refine(ZH∘Zbp∘ZdH∘Zj∘ZaR∘Za4∘Z1∘Zc9∘Zl∘Zcf∘Zl∘ZcQ∘ZbH∘Ze7∘Zb5∘Za3∘Zaf∘Ze∘Zew∘ZbS) ?_;refine qz (qg L (q:=900) Z Z Z qr) Z Z (ZbS (h:=?_));refine qz (qg L (q:=900) Z Z Z qc) Z Z (z81 L Z (fun u H hH _=>js hc2 hH) ?_);refine(Za8∘ZbW) ?_;exact jj L 900 (r:=xc b _ tyU) Z (fun _ _ h=>h) nq Z Z
   | true=>
    rw[hc2] at hO;simp only[zrz,zqo,if_false] at hO;obtain⟨_,qj⟩:=gk (rest:=rest) (show first+(2*r+1)<ztd.size by omega) (0+(first+(2*r+1))*1) rfl;obtain⟨_,qi⟩:=gk (rest:=rest) (show first+r<ztd.size by omega) (0+(first+r)*1) rfl;have s1:=vt (rest:=rest) ztd[first+(2*r+1)]! (show first+r<ztd.size by omega) (0+(first+r)*1) rfl;have b1:=vu (rest:=rest) (show first+r<ztd.size by omega) (0+(first+r)*1) rfl;have hz:first+(2*r+1)<(ztd.setIfInBounds (first+r) ztd[first+(2*r+1)]!).size:=by rw[zpx];omega
    have s2:=vt (rest:=rest) ztd[first+r]! hz (0+(first+(2*r+1))*1) rfl;have b2:=vu (rest:=rest) hz (0+(first+(2*r+1))*1) rfl;rw[fe] at s2;refine(ZH∘Zbp∘ZdH∘Zj∘ZaR∘Za4∘Z1∘Zc9∘Zl∘Zcf∘Zl∘ZcQ∘ZbH∘Ze7∘Zb5∘Za3∘Zaf∘Ze∘Zew∘ZbS) ?_;refine qz (qg L (q:=900) Z Z Z qr) Z Z (ZbS (h:=?_));refine qz (qg L (q:=900) Z Z Z qc) Z Z (z81 L Z (fun u H hH _=>js hc2 hH) ?_);refine(Za8∘ZaN∘Zaf∘Zft∘ZcD∘ZcD∘ZbS) ?_;refine qz (qg L (q:=900) Z Z Z qj) Z Z (ZbS (h:=?_));refine qz (qg L (q:=900) Z Z Z qi) Z Z (Zp (h:=?_));refine xo (yo L (q:=900) Z Z b1 Z s1) Z (Zp (h:=?_));refine xo (yo L (q:=900) Z Z b2 Z s2) Z ((Zb1∘Z8∘Zai) ?_);exact ym (x:=(r,ztd)) (2*r+1,swp ztd (first+r) (first+(2*r+1))) ⟨by dsimp only;omega,by dsimp only;rw[wg];exact hE,hO⟩ G ⟨Z,Z,Z,Z,Z,trivial⟩
def Lg(hi first:Nat):∀ (n root:Nat) (d:Array Int),hi-root<=n->(siftDown lt hi first root d).size=d.size:=by
 intro n
 induction n with
 | zero=>
  intro root d h;rw[siftDown,dif_pos T]
 | succ n ih=>
  intro root d h;rw[siftDown];split
  ·rfl
  ·split
   ·split
    ·rfl
    ·split
     ·rw[ih _ _ T,wg]
     ·rfl
   ·split
    ·rfl
    ·rw[ih _ _ T,wg]
def zd0{m cap a e:Nat}(hab:a<e)(he:e<=d.size)(hm:d.size=m)(hm1:m<=100000)(hB:zth B w)
  (hr:(xc b (uC d++rest) tyU).P B w C) (hC:ZCB C w B):
  kx zti 272 [.slice (some ⟨b,0,none⟩) m cap,.int .i64 a,.int .i64 e] w B C (xc b (uC (heapSort lt d a e)++rest) tyU):=by
 unfold kx;refine xa 900 (xc b (uC d++rest) tyU) Tryz.func272 Z Tryz.ntmps272 (np Z) hB hr hC ?_;rw[xd];have hw0:IntKind.i64.wrap ((e:Int)-(a:Int))=((e-a:Nat):Int):=xb T T |>.trans T;have hw1:IntKind.i64.wrap (((e-a:Nat):Int)-1)=((e-a-1:Nat):Int):=xb T T |>.trans T
 have et:((e-a-1:Nat):Int).tdiv 2=(((e-a-1)/2+1:Nat):Int)-1:=by
  rw[zsd T];omega
 have hw2:IntKind.i64.wrap (((e-a-1:Nat):Int).tdiv 2)=(((e-a-1)/2+1:Nat):Int)-1:=by rw[et];exact xb T T
 refine(ZP∘Za∘Zag∘Zd∘Z9∘ZaA∘Zj∘ZA∘Za9∘ZcZ∘ZaJ) ?_;refine xm (fun s:Nat×Array Int=>[(0,.is (.slice (some ⟨b,0,none⟩) m cap)),(6,.is (.int .i64 a)),(7,.is (.int .i64 0)),(8,.is (.int .i64 (e-a:Nat))),(9,.is (.int .i64 ((s.1:Int)-1))),(900,.own (xp b (uC s.2++rest) tyU))]) (fun s=>s.1<=(e-a-1)/2+1/\s.2.size=m/\heapBuild lt (e-a) a s.1 s.2=heapBuild lt (e-a) a ((e-a-1)/2+1) d) (fun s=>s.1) ((e-a-1)/2+1,d) ⟨nu _,hm,rfl⟩ ⟨Z,Z,Z,Z,Z,Z,nm⟩ ?_;rintro⟨k,ztd⟩ ⟨hk,hE,hO⟩;dsimp only at hk hE hO |-;rcases k with _ | k
 ·have e9:(((0:Nat):Int)-1)= -1:=rfl;rw[e9];refine(Zf∘Z0∘Za4∘Zas) ?_;rw[heapBuild] at hO;have e10:((e-a-1:Nat):Int)=((e-a:Nat):Int)-1:=T;rw[e10] at hw1;refine(Z8∘Za9∘ZaJ) ?_;refine xm (fun s:Nat×Array Int=>[(0,.is (.slice (some ⟨b,0,none⟩) m cap)),(6,.is (.int .i64 a)),(7,.is (.int .i64 0)),(10,.is (.int .i64 ((s.1:Int)-1))),(900,.own (xp b (uC s.2++rest) tyU))]) (fun s=>s.1<=e-a/\s.2.size=m/\heapPop lt a s.1 s.2=heapPop lt a (e-a) ztd) (fun s=>s.1) (e-a,ztd) ⟨nu _,hE,rfl⟩ ⟨Z,Z,Z,Z,Z,nm⟩ ?_;rintro⟨j,ztf⟩ ⟨hj,hG,hP⟩;dsimp only at hj hG hP |-;rcases j with _ | j
  ·rw[e9];rw[heapPop] at hP;have:ztf=heapSort lt d a e:=by unfold heapSort;rw[<-hO,hP]
   subst this;refine(Zf∘ZaQ∘Za4∘ZaL∘ZaD) ?_;exact xu L 900 (r:=xc b _ tyU) Z (fun _ _ h=>h) nq Z Z
  ·have e8:(((j+1:Nat):Int)-1)=(j:Int):=T;rw[heapPop] at hP;rw[e8];have hw3:IntKind.i64.wrap ((a:Int)+(j:Int))=((a+j:Nat):Int):=xb T T;have hw4:IntKind.i64.wrap ((j:Int)-1)=(j:Int)-1:=xb T T;have hsz:=wg ztf a (a+j);have hss:=Lg j a j 0 (swp ztf a (a+j)) T;obtain⟨_,qj⟩:=gk (rest:=rest) (show a+j<ztf.size by omega) (0+(a+j)*1) rfl;obtain⟨_,qi⟩:=gk (rest:=rest) (show a<ztf.size by omega) (0+(a)*1) rfl;have s1:=vt (rest:=rest) ztf[a+j]! (show a<ztf.size by omega) (0+(a)*1) rfl;have b1:=vu (rest:=rest) (show a<ztf.size by omega) (0+(a)*1) rfl;have hz:a+j<(ztf.setIfInBounds (a) ztf[a+j]!).size:=by rw[zpx];omega
   have s2:=vt (rest:=rest) ztf[a]! hz (0+(a+j)*1) rfl;have b2:=vu (rest:=rest) hz (0+(a+j)*1) rfl;rw[fe] at s2;refine(Zf∘ZaQ∘ZbZ∘Zd3) ?_;refine qo (id:=10) [(200044,[900]),(200048,[900]),(100049,[900]),(100050,[900])] ki J ((Zn∘ZcD∘ZbS) ?_);refine qz (qg L (q:=900) Z Z Z qj) Z Z (ZT (h:=?_));refine qz (qg L (q:=900) Z Z Z qi) Z Z (Zp (h:=?_));refine xo (yo L (q:=900) Z Z b1 Z s1) Z (Zp (h:=?_));refine xo (yo L (q:=900) Z Z b2 Z s2) Z ((Zb1∘ZY∘Zbt) ?_);refine qe (yx L 900 (xc b (uC (siftDown lt j a 0 (swp ztf a (a+j)))++rest) tyU) (r:=xc b (uC (swp ztf a (a+j))++rest) tyU) Z Z Z Z Z (fun u H C hH _ hr hC=>Qq (mc _) T T hm1 hH hr hC)) ((Zax∘Zal∘Za9∘Zbw) ?_);exact ym (x:=(j+1,ztf)) (j,siftDown lt j a 0 (swp ztf a (a+j))) ⟨by dsimp only;omega,by dsimp only;omega,hP⟩ G ⟨Z,Z,Z,Z,Z,trivial⟩
 ·have e8:(((k+1:Nat):Int)-1)=(k:Int):=T;rw[heapBuild] at hO;rw[e8];have hw4:IntKind.i64.wrap ((k:Int)-1)=(k:Int)-1:=xb T T;have hss:=Lg (e-a) a (e-a) k ztd T;refine(Zf∘Z0∘ZbZ∘Zaf∘Zam∘Zs∘Zbt) ?_;refine qe (yx L 900 (xc b (uC (siftDown lt (e-a) a k ztd)++rest) tyU) (r:=xc b (uC ztd++rest) tyU) Z Z Z Z Z (fun u H C hH _ hr hC=>Qq T T T hm1 hH hr hC)) ((Zax∘ZU∘Za9∘Zbw) ?_);exact ym (x:=(k+1,ztd)) (k,siftDown lt (e-a) a k ztd) ⟨by dsimp only;omega,by dsimp only;omega,hO⟩ G ⟨Z,Z,Z,Z,Z,Z,trivial⟩
def _root_.ZeX(t:Wr Y->A:=by intro h;refine qo (id:=5) [(200053,[900]),(200057,[900])] ki J ?_;exact h.1)(h:Y):A:=t ⟨h⟩
def fi(h:¬ (i<=j/\p d[i]! =true)):scanUp p d j i=i:=by
 rw[scanUp,nc];simpa using h
def Cp(h1:i<=j)(h2:p d[i]! =true):scanUp p d j i=scanUp p d j (i+1):=by
 rw[scanUp,na (by simp [h1,h2])]
def ub(h:¬ (i<=j/\p d[j]! =true)):scanDown p d i j=j:=by
 cases j with
 | zero=>rfl
 | succ j=>rw[scanDown,nc];simpa using h
def oy(h1:i<=j+1)(h2:p d[j+1]! =true):scanDown p d i (j+1)=scanDown p d i j:=by
 rw[scanDown,na (by simp [h1,h2])]
def dz{b m cap a e p:Nat}(hap:a<=p)(hpe:p<e)(he:e<=d.size)(hm:d.size=m)(hm1:m<=100000)(hB:zth B w)
  (hr:(xc b (uC d++rest) tyU).P B w C) (hC:ZCB C w B):
  RetX zti 279 [.slice (some ⟨b,0,none⟩) m cap,.int .i64 a,.int .i64 e,.int .i64 p] w B C (xc b (uC (Go.Sort.partition lt d a e p).2.2++rest) tyU) (.tuple #[.int .i64 (Go.Sort.partition lt d a e p).1,.bool (Go.Sort.partition lt d a e p).2.1]):=by
 unfold RetX;refine xa 900 (xc b (uC d++rest) tyU) Tryz.func279 Z Tryz.ntmps279 (np Z) hB hr hC ?_;rw[xd];obtain⟨_,qj⟩:=gk (rest:=rest) (show p<d.size by omega) (0+(p)*1) rfl;obtain⟨_,qi⟩:=gk (rest:=rest) (show a<d.size by omega) (0+(a)*1) rfl;have s1:=vt (rest:=rest) d[p]! (show a<d.size by omega) (0+(a)*1) rfl;have b1:=vu (rest:=rest) (show a<d.size by omega) (0+(a)*1) rfl;have hz:p<(d.setIfInBounds (a) d[p]!).size:=by rw[zpx];omega
 have s2:=vt (rest:=rest) d[a]! hz (0+(p)*1) rfl;have b2:=vu (rest:=rest) hz (0+(p)*1) rfl;rw[fe] at s2;have hw1:IntKind.i64.wrap ((a:Int)+1)=((a+1:Nat):Int):=xb T T;obtain⟨e1,rfl⟩:∃ e1,e=e1+1:=⟨e-1,by omega⟩
 have hw2:IntKind.i64.wrap (((e1+1:Nat):Int)-1)=(e1:Int):=xb T T |>.trans T;obtain⟨R,hR⟩:∃ R,R=Go.Sort.partition lt d a (e1+1) p:=⟨_,rfl⟩
 rw[<-hR];have hR':=hR;unfold Go.Sort.partition at hR';have hDs:=wg d a p;refine(ZP∘ZaS) ?_;refine qo (id:=1) [(200019,[900]),(200023,[900]),(100024,[900]),(100025,[900])] ki J ((Zn∘Zn∘ZT) ?_);refine qz (qg L (q:=900) Z Z Z qj) Z Z (ZT (h:=?_));refine qz (qg L (q:=900) Z Z Z qi) Z Z (Zp (h:=?_));refine xo (yo L (q:=900) Z Z b1 Z s1) Z (Zp (h:=?_));refine xo (yo L (q:=900) Z Z b2 Z s2) Z ((ZaZ∘Zy∘Z7∘Za∘Za9∘ZaS∘Zam) ?_);generalize swp d a p=D at *;rw[zst] at hR';dsimp only at hR';refine tp (lu (fun i:Nat=>[(0,.is (.slice (some ⟨b,0,none⟩) m cap)),(1,.is (.int .i64 a)),(10,.is (.int .i64 i)),(11,.is (.int .i64 e1)),(900,.own (xp b (uC D++rest) tyU))]) (fun i=>(a+1)<=i/\i<=max (a+1) (e1+1)/\i=scanUp (fun x=>lt x D[a]!) D e1 (a+1)) (fun _=>[]) ?_) ?_
 rotate_left
 ·refine xm (fun i:Nat=>[(0,.is (.slice (some ⟨b,0,none⟩) m cap)),(1,.is (.int .i64 a)),(10,.is (.int .i64 i)),(11,.is (.int .i64 e1)),(900,.own (xp b (uC D++rest) tyU))]) (fun i=>(a+1)<=i/\i<=max (a+1) (e1+1)/\scanUp (fun x=>lt x D[a]!) D e1 i=scanUp (fun x=>lt x D[a]!) D e1 (a+1)) (fun i=>e1+1-i) (a+1) ⟨nu _,by omega,rfl⟩ ⟨Z,Z,Z,Z,Z,nm⟩ ?_;rintro i ⟨hi1,hi2,hi3⟩;by_cases hle:i<=e1
  ·obtain⟨_,qx⟩:=gk (rest:=rest) (show i<D.size by omega) (0+(i)*1) rfl;obtain⟨_,qa⟩:=gk (rest:=rest) (show a<D.size by omega) (0+(a)*1) rfl
   cases hc:lt D[i]! D[a]! with
   | true=>
    have hw:IntKind.i64.wrap ((i:Int)+1)=((i+1:Nat):Int):=xb T T;refine Zf (h:=?_);refine qo (id:=3) [(200037,[900]),(200041,[900])] ki J ((Zn∘Zdh∘Zbh∘Zp) ?_);refine qz (qg L (q:=900) Z Z Z qx) Z Z (ZT (h:=?_));refine qz (qg L (q:=900) Z Z Z qa) Z Z (z81 L Z (fun u H hH _=>js hc hH) ?_);refine(Zcc∘Zdq∘Zam∘Z0∘Z7∘Zai) ?_;exact ym (x:=i) (i+1) ⟨by omega,by omega,by rw[<-hi3];exact(Cp hle (by simp [hc])).symm⟩ T ⟨Z,Z,Z,Z,Z,nm⟩
   | false=>
    refine Zf (h:=?_);refine qo (id:=3) [(200037,[900]),(200041,[900])] ki J ((Zn∘Zdh∘Zbh∘Zp) ?_);refine qz (qg L (q:=900) Z Z Z qx) Z Z (ZT (h:=?_));refine qz (qg L (q:=900) Z Z Z qa) Z Z (z81 L Z (fun u H hH _=>js hc hH) ?_);refine(Za3∘ZaD) ?_;exact jz i nq ⟨hi1,hi2,by rw[<-hi3];exact(fi (by rintro⟨_,h⟩;simp [hc] at h)).symm⟩ rfl ⟨rfl,rfl,rfl,rfl,rfl,nm⟩
  ·refine(Zf∘Zc9∘Zn∘ZdS∘ZbH∘Zcq∘Za3∘ZaD) ?_;exact jz i nq ⟨hi1,hi2,by rw[<-hi3];exact(fi (by rintro⟨h,_⟩;exact hle h)).symm⟩ rfl ⟨rfl,rfl,rfl,rfl,rfl,nm⟩
 rintro I ⟨hI1,hI2,hI3⟩;refine zj (qn ?_);refine tp (lu (fun i:Nat=>[(0,.is (.slice (some ⟨b,0,none⟩) m cap)),(1,.is (.int .i64 a)),(10,.is (.int .i64 I)),(11,.is (.int .i64 i)),(900,.own (xp b (uC D++rest) tyU))]) (fun i=>i<=e1/\min (I-1) e1<=i/\i=scanDown (fun x=>!lt x D[a]!) D I e1) (fun _=>[]) ?_) ?_
 rotate_left
 ·refine xm (fun i:Nat=>[(0,.is (.slice (some ⟨b,0,none⟩) m cap)),(1,.is (.int .i64 a)),(10,.is (.int .i64 I)),(11,.is (.int .i64 i)),(900,.own (xp b (uC D++rest) tyU))]) (fun i=>i<=e1/\min (I-1) e1<=i/\scanDown (fun x=>!lt x D[a]!) D I i=scanDown (fun x=>!lt x D[a]!) D I e1) (fun i=>i) e1 ⟨nu _,by omega,rfl⟩ ⟨Z,Z,Z,Z,Z,nm⟩ ?_;rintro i ⟨hi1,hi2,hi3⟩;by_cases hle:I<=i
  ·obtain⟨_,qx⟩:=gk (rest:=rest) (show i<D.size by omega) (0+(i)*1) rfl;obtain⟨_,qa⟩:=gk (rest:=rest) (show a<D.size by omega) (0+(a)*1) rfl
   cases hc:lt D[i]! D[a]! with
   | false=>
    obtain⟨i,rfl⟩:∃ k,i=k+1:=⟨i-1,by omega⟩
    have hw:IntKind.i64.wrap (((i+1:Nat):Int)-1)=(i:Int):=xb T T |>.trans T;refine(Zf∘ZeX∘Zn∘Zdh∘Zbh∘Zp) ?_;refine qz (qg L (q:=900) Z Z Z qx) Z Z (ZT (h:=?_));refine qz (qg L (q:=900) Z Z Z qa) Z Z (z81 L Z (fun u H hH _=>js hc hH) ?_);refine(Za8∘Zcc∘Zdq∘Zam∘ZQ∘Za9∘Zai) ?_;exact ym (x:=i+1) i ⟨by omega,by omega,by rw[<-hi3];exact(oy hle (by simp [hc])).symm⟩ T ⟨Z,Z,Z,Z,Z,nm⟩
   | true=>
    refine(Zf∘ZeX∘Zn∘Zdh∘Zbh∘Zp) ?_;refine qz (qg L (q:=900) Z Z Z qx) Z Z (ZT (h:=?_));refine qz (qg L (q:=900) Z Z Z qa) Z Z (z81 L Z (fun u H hH _=>js hc hH) ?_);refine(Za8∘Za3∘ZaD) ?_;exact jz i nq ⟨hi1,hi2,by rw[<-hi3];exact(ub (by rintro⟨_,h⟩;simp [hc] at h)).symm⟩ rfl ⟨rfl,rfl,rfl,rfl,rfl,nm⟩
  ·refine(Zf∘Zeg∘Zn∘ZdS∘ZbH∘Zb5∘Za3∘ZaD) ?_;exact jz i nq ⟨hi1,hi2,by rw[<-hi3];exact(ub (by rintro⟨h,_⟩;exact hle h)).symm⟩ rfl ⟨rfl,rfl,rfl,rfl,rfl,nm⟩
 rintro ztc ⟨hJ1,hJ2,hJ3⟩;rw[<-hI3,<-hJ3] at hR';by_cases hIJ:ztc<I
 ·rw[na hIJ] at hR';subst hR';obtain⟨_,qj⟩:=gk (rest:=rest) (show a<D.size by omega) (0+(a)*1) rfl;obtain⟨_,qi⟩:=gk (rest:=rest) (show ztc<D.size by omega) (0+(ztc)*1) rfl;have s1:=vt (rest:=rest) D[a]! (show ztc<D.size by omega) (0+(ztc)*1) rfl;have b1:=vu (rest:=rest) (show ztc<D.size by omega) (0+(ztc)*1) rfl;have hz:a<(D.setIfInBounds (ztc) D[a]!).size:=by rw[zpx];omega
  have s2:=vt (rest:=rest) D[ztc]! hz (0+(a)*1) rfl;have b2:=vu (rest:=rest) hz (0+(a)*1) rfl;rw[fe] at s2;refine(Zf∘Zco∘ZO∘ZD) ?_;refine qo (id:=8) [(200073,[900]),(200077,[900]),(100078,[900]),(100079,[900])] ki J ((Zn∘Zn∘ZT) ?_);refine qz (qg L (q:=900) Z Z Z qj) Z Z (ZT (h:=?_));refine qz (qg L (q:=900) Z Z Z qi) Z Z (Zp (h:=?_));refine xo (yo L (q:=900) Z Z b1 Z s1) Z (Zp (h:=?_));refine xo (yo L (q:=900) Z Z b2 Z s2) Z ((ZaZ∘Zal∘ZR) ?_);exact xv L 900 (r:=xc b _ tyU) (rs:=[.tmp 8,.tmp 9]) Z (fun _ _ h=>h) nq Z Z (fun _=>rfl)
 ·rw[nc hIJ] at hR';have hw3:IntKind.i64.wrap ((I:Int)+1)=((I+1:Nat):Int):=xb T T;have hw4:IntKind.i64.wrap ((ztc:Int)-1)=((ztc-1:Nat):Int):=xb T T |>.trans T;obtain⟨_,qj⟩:=gk (rest:=rest) (show ztc<D.size by omega) (0+(ztc)*1) rfl;obtain⟨_,qi⟩:=gk (rest:=rest) (show I<D.size by omega) (0+(I)*1) rfl;have s1:=vt (rest:=rest) D[ztc]! (show I<D.size by omega) (0+(I)*1) rfl;have b1:=vu (rest:=rest) (show I<D.size by omega) (0+(I)*1) rfl;have hz:ztc<(D.setIfInBounds (I) D[ztc]!).size:=by rw[zpx];omega
  have s2:=vt (rest:=rest) D[I]! hz (0+(ztc)*1) rfl;have b2:=vu (rest:=rest) hz (0+(ztc)*1) rfl;rw[fe] at s2;have hEs:=wg D I ztc;refine(Zf∘Zco∘ZL∘Zm) ?_;refine qo (id:=10) [(200088,[900]),(200092,[900]),(100093,[900]),(100094,[900])] ki J ((Zn∘Zn∘ZT) ?_);refine qz (qg L (q:=900) Z Z Z qj) Z Z (ZT (h:=?_));refine qz (qg L (q:=900) Z Z Z qi) Z Z (Zp (h:=?_));refine xo (yo L (q:=900) Z Z b1 Z s1) Z (Zp (h:=?_));refine xo (yo L (q:=900) Z Z b2 Z s2) Z ((ZaZ∘ZY∘Za∘Z7∘Zd∘Zaa∘Za∘Za9∘Zd∘Zam) ?_);generalize swp D I ztc=ztd at *;obtain⟨X,hX⟩:∃ X,X=partLoop lt a (I+1) (ztc-1) ztd:=⟨_,rfl⟩
  rw[<-hX] at hR';refine tp (lu (fun s:Nat×Array Int=>[(0,.is (.slice (some ⟨b,0,none⟩) m cap)),(1,.is (.int .i64 a)),(11,.is (.int .i64 s.1)),(900,.own (xp b (uC s.2++rest) tyU))]) (fun s=>s.2.size=m/\a<=s.1/\s.1<=e1/\s=X) (fun _=>[]) ?_) ?_
  rotate_left
  ·refine xm (fun s:(Nat×Nat)×Array Int=>[(0,.is (.slice (some ⟨b,0,none⟩) m cap)),(1,.is (.int .i64 a)),(10,.is (.int .i64 s.1.1)),(11,.is (.int .i64 s.1.2)),(900,.own (xp b (uC s.2++rest) tyU))]) (fun s=>s.2.size=m/\a+1<=s.1.1/\s.1.1<=e1+1/\a<=s.1.2/\s.1.2<=e1/\partLoop lt a s.1.1 s.1.2 s.2=X) (fun s=>s.1.2+1-s.1.1) ((I+1,ztc-1),ztd) ⟨by dsimp only;omega,by dsimp only;omega,by dsimp only;omega,by dsimp only;omega,by dsimp only;omega,hX.symm⟩ ⟨Z,Z,Z,Z,Z,trivial⟩ ?_;rintro⟨⟨i0,j0⟩,ztf⟩ ⟨hG,hi1,hi2,hj1,hj2,hL⟩;dsimp only at hG hi1 hi2 hj1 hj2 hL |-;rw[partLoop] at hL;clear hX hR' hEs hIJ hI3 hJ3;refine qn (zj (qn ?_));refine tp (lu (fun i:Nat=>[(0,.is (.slice (some ⟨b,0,none⟩) m cap)),(1,.is (.int .i64 a)),(10,.is (.int .i64 i)),(11,.is (.int .i64 j0)),(900,.own (xp b (uC ztf++rest) tyU))]) (fun i=>i0<=i/\i<=max i0 (j0+1)/\i=scanUp (fun x=>lt x ztf[a]!) ztf j0 i0) (fun _=>[]) ?_) ?_
   rotate_left
   ·refine xm (fun i:Nat=>[(0,.is (.slice (some ⟨b,0,none⟩) m cap)),(1,.is (.int .i64 a)),(10,.is (.int .i64 i)),(11,.is (.int .i64 j0)),(900,.own (xp b (uC ztf++rest) tyU))]) (fun i=>i0<=i/\i<=max i0 (j0+1)/\scanUp (fun x=>lt x ztf[a]!) ztf j0 i=scanUp (fun x=>lt x ztf[a]!) ztf j0 i0) (fun i=>j0+1-i) i0 ⟨nu _,by omega,rfl⟩ ⟨Z,Z,Z,Z,Z,nm⟩ ?_;rintro i ⟨hi1,hi2,hi3⟩;by_cases hle:i<=j0
    ·obtain⟨_,qx⟩:=gk (rest:=rest) (show i<ztf.size by omega) (0+(i)*1) rfl;obtain⟨_,qa⟩:=gk (rest:=rest) (show a<ztf.size by omega) (0+(a)*1) rfl
     cases hc:lt ztf[i]! ztf[a]! with
     | true=>
      have hw:IntKind.i64.wrap ((i:Int)+1)=((i+1:Nat):Int):=xb T T;refine Zf (h:=?_);refine qo (id:=13) [(200106,[900]),(200110,[900])] ki J ((Zn∘Zdh∘Zbh∘Zp) ?_);refine qz (qg L (q:=900) Z Z Z qx) Z Z (ZT (h:=?_));refine qz (qg L (q:=900) Z Z Z qa) Z Z (z81 L Z (fun u H hH _=>js hc hH) ?_);refine(Zcc∘Zdq∘Zam∘ZbG∘Z7∘Zai) ?_;exact ym (x:=i) (i+1) ⟨by omega,by omega,by rw[<-hi3];exact(Cp hle (by simp [hc])).symm⟩ T ⟨Z,Z,Z,Z,Z,nm⟩
     | false=>
      refine Zf (h:=?_);refine qo (id:=13) [(200106,[900]),(200110,[900])] ki J ((Zn∘Zdh∘Zbh∘Zp) ?_);refine qz (qg L (q:=900) Z Z Z qx) Z Z (ZT (h:=?_));refine qz (qg L (q:=900) Z Z Z qa) Z Z (z81 L Z (fun u H hH _=>js hc hH) ?_);refine(Za3∘ZaD) ?_;exact jz i nq ⟨hi1,hi2,by rw[<-hi3];exact(fi (by rintro⟨_,h⟩;simp [hc] at h)).symm⟩ rfl ⟨rfl,rfl,rfl,rfl,rfl,nm⟩
    ·refine(Zf∘Zef∘Zn∘ZdS∘ZbH∘Zcq∘Za3∘ZaD) ?_;exact jz i nq ⟨hi1,hi2,by rw[<-hi3];exact(fi (by rintro⟨h,_⟩;exact hle h)).symm⟩ rfl ⟨rfl,rfl,rfl,rfl,rfl,nm⟩
   rintro K ⟨hK1,hK2,hK3⟩;refine zj (qn ?_);refine tp (lu (fun i:Nat=>[(0,.is (.slice (some ⟨b,0,none⟩) m cap)),(1,.is (.int .i64 a)),(10,.is (.int .i64 K)),(11,.is (.int .i64 i)),(900,.own (xp b (uC ztf++rest) tyU))]) (fun i=>i<=j0/\min (K-1) j0<=i/\i=scanDown (fun x=>!lt x ztf[a]!) ztf K j0) (fun _=>[]) ?_) ?_
   rotate_left
   ·refine xm (fun i:Nat=>[(0,.is (.slice (some ⟨b,0,none⟩) m cap)),(1,.is (.int .i64 a)),(10,.is (.int .i64 K)),(11,.is (.int .i64 i)),(900,.own (xp b (uC ztf++rest) tyU))]) (fun i=>i<=j0/\min (K-1) j0<=i/\scanDown (fun x=>!lt x ztf[a]!) ztf K i=scanDown (fun x=>!lt x ztf[a]!) ztf K j0) (fun i=>i) j0 ⟨nu _,by omega,rfl⟩ ⟨Z,Z,Z,Z,Z,nm⟩ ?_;rintro i ⟨hi1,hi2,hi3⟩;by_cases hle:K<=i
    ·obtain⟨_,qx⟩:=gk (rest:=rest) (show i<ztf.size by omega) (0+(i)*1) rfl;obtain⟨_,qa⟩:=gk (rest:=rest) (show a<ztf.size by omega) (0+(a)*1) rfl
     cases hc:lt ztf[i]! ztf[a]! with
     | false=>
      obtain⟨i,rfl⟩:∃ k,i=k+1:=⟨i-1,by omega⟩
      have hw:IntKind.i64.wrap (((i+1:Nat):Int)-1)=(i:Int):=xb T T |>.trans T;refine Zf (h:=?_);refine qo (id:=15) [(200122,[900]),(200126,[900])] ki J ((Zn∘Zdh∘Zbh∘Zp) ?_);refine qz (qg L (q:=900) Z Z Z qx) Z Z (ZT (h:=?_));refine qz (qg L (q:=900) Z Z Z qa) Z Z (z81 L Z (fun u H hH _=>js hc hH) ?_);refine(Za8∘Zcc∘Zdq∘Zam∘Zar∘Za∘Za9∘Zai) ?_;exact ym (x:=i+1) i ⟨by omega,by omega,by rw[<-hi3];exact(oy hle (by simp [hc])).symm⟩ T ⟨Z,Z,Z,Z,Z,nm⟩
     | true=>
      refine Zf (h:=?_);refine qo (id:=15) [(200122,[900]),(200126,[900])] ki J ((Zn∘Zdh∘Zbh∘Zp) ?_);refine qz (qg L (q:=900) Z Z Z qx) Z Z (ZT (h:=?_));refine qz (qg L (q:=900) Z Z Z qa) Z Z (z81 L Z (fun u H hH _=>js hc hH) ?_);refine(Za8∘Za3∘ZaD) ?_;exact jz i nq ⟨hi1,hi2,by rw[<-hi3];exact(ub (by rintro⟨_,h⟩;simp [hc] at h)).symm⟩ rfl ⟨rfl,rfl,rfl,rfl,rfl,nm⟩
    ·refine Zf (h:=?_);refine qo (id:=15) [] ki J ((Zn∘ZdS∘ZbH∘Zb5∘Za3∘ZaD) ?_);exact jz i nq ⟨hi1,hi2,by rw[<-hi3];exact(ub (by rintro⟨h,_⟩;exact hle h)).symm⟩ rfl ⟨rfl,rfl,rfl,rfl,rfl,nm⟩
   rintro zte ⟨hM1,hM2,hM3⟩;rw[<-hK3,<-hM3] at hL;by_cases hKM:zte<K
   ·rw[na hKM] at hL;refine(Zf∘Zbv∘Zb∘ZO∘Zw∘Zea∘ZdF∘Zdk) ?_;exact jz (zte,ztf) Since.refl ⟨hG,by dsimp only;omega,by dsimp only;omega,hL⟩ Z ⟨Z,Z,Z,Z,trivial⟩
   ·rw[nc hKM,dif_pos T] at hL;have hw5:IntKind.i64.wrap ((K:Int)+1)=((K+1:Nat):Int):=xb T T;have hw6:IntKind.i64.wrap ((zte:Int)-1)=((zte-1:Nat):Int):=xb T T |>.trans T;have hGs:=wg ztf K zte;obtain⟨_,qj⟩:=gk (rest:=rest) (show zte<ztf.size by omega) (0+(zte)*1) rfl;obtain⟨_,qi⟩:=gk (rest:=rest) (show K<ztf.size by omega) (0+(K)*1) rfl;have s1:=vt (rest:=rest) ztf[zte]! (show K<ztf.size by omega) (0+(K)*1) rfl;have b1:=vu (rest:=rest) (show K<ztf.size by omega) (0+(K)*1) rfl;have hz:zte<(ztf.setIfInBounds (K) ztf[zte]!).size:=by rw[zpx];omega
    have s2:=vt (rest:=rest) ztf[K]! hz (0+(zte)*1) rfl;have b2:=vu (rest:=rest) hz (0+(zte)*1) rfl;rw[fe] at s2;refine(Zf∘Zbv∘Zb∘ZL∘Zm) ?_;refine qo (id:=18) [(200142,[900]),(200146,[900]),(100147,[900]),(100148,[900])] ki J ((Zn∘Zn∘ZT) ?_);refine qz (qg L (q:=900) Z Z Z qj) Z Z (ZT (h:=?_));refine qz (qg L (q:=900) Z Z Z qi) Z Z (Zp (h:=?_));refine xo (yo L (q:=900) Z Z b1 Z s1) Z (Zp (h:=?_));refine xo (yo L (q:=900) Z Z b2 Z s2) Z ((ZaZ∘Zcz∘Za∘Z7∘Zc∘Zbe∘Za∘Za9∘Zai) ?_);exact ym (x:=((i0,j0),ztf)) ((K+1,zte-1),swp ztf K zte) ⟨by dsimp only;omega,by dsimp only;omega,by dsimp only;omega,by dsimp only;omega,by dsimp only;omega,hL⟩ G ⟨Z,Z,Z,Z,Z,trivial⟩
  ·rintro⟨J2,ztf⟩ ⟨hG,hj1,hj2,hL⟩;dsimp only at hG hj1 hj2 |-;rw[<-hL] at hR';dsimp only at hR';subst hR';obtain⟨_,qj⟩:=gk (rest:=rest) (show a<ztf.size by omega) (0+(a)*1) rfl;obtain⟨_,qi⟩:=gk (rest:=rest) (show J2<ztf.size by omega) (0+(J2)*1) rfl;have s1:=vt (rest:=rest) ztf[a]! (show J2<ztf.size by omega) (0+(J2)*1) rfl;have b1:=vu (rest:=rest) (show J2<ztf.size by omega) (0+(J2)*1) rfl;have hz:a<(ztf.setIfInBounds (J2) ztf[a]!).size:=by rw[zpx];omega
   have s2:=vt (rest:=rest) ztf[J2]! hz (0+(a)*1) rfl;have b2:=vu (rest:=rest) hz (0+(a)*1) rfl;rw[fe] at s2;refine Ze (h:=?_);refine qo (id:=21) [(200160,[900]),(200164,[900]),(100165,[900]),(100166,[900])] ki J ((Zn∘Zn∘ZT) ?_);refine qz (qg L (q:=900) Z Z Z qj) Z Z (ZT (h:=?_));refine qz (qg L (q:=900) Z Z Z qi) Z Z (Zp (h:=?_));refine xo (yo L (q:=900) Z Z b1 Z s1) Z (Zp (h:=?_));refine xo (yo L (q:=900) Z Z b2 Z s2) Z ((ZaZ∘ZcY∘Za∘ZR) ?_);exact xv L 900 (r:=xc b _ tyU) (rs:=[.tmp 8,.tmp 9]) Z (fun _ _ h=>h) nq Z Z (fun _=>rfl)
def zhk{b m cap a e p:Nat}(hap:a<=p)(hpe:p<e)(he:e<=d.size)(hm:d.size=m)(hm1:m<=100000)(hB:zth B w)
  (hr:(xc b (uC d++rest) tyU).P B w C) (hC:ZCB C w B):
  RetX zti 278 [.slice (some ⟨b,0,none⟩) m cap,.int .i64 a,.int .i64 e,.int .i64 p] w B C (xc b (uC (partitionEqual lt d a e p).2++rest) tyU) (.int .i64 (partitionEqual lt d a e p).1):=by
 unfold RetX;refine xa 900 (xc b (uC d++rest) tyU) Tryz.func278 Z Tryz.ntmps278 (np Z) hB hr hC ?_;rw[xd];obtain⟨_,qj⟩:=gk (rest:=rest) (show p<d.size by omega) (0+(p)*1) rfl;obtain⟨_,qi⟩:=gk (rest:=rest) (show a<d.size by omega) (0+(a)*1) rfl;have s1:=vt (rest:=rest) d[p]! (show a<d.size by omega) (0+(a)*1) rfl;have b1:=vu (rest:=rest) (show a<d.size by omega) (0+(a)*1) rfl;have hz:p<(d.setIfInBounds (a) d[p]!).size:=by rw[zpx];omega
 have s2:=vt (rest:=rest) d[a]! hz (0+(p)*1) rfl;have b2:=vu (rest:=rest) hz (0+(p)*1) rfl;rw[fe] at s2;have hw1:IntKind.i64.wrap ((a:Int)+1)=((a+1:Nat):Int):=xb T T;obtain⟨e1,rfl⟩:∃ e1,e=e1+1:=⟨e-1,by omega⟩
 have hw2:IntKind.i64.wrap (((e1+1:Nat):Int)-1)=(e1:Int):=xb T T |>.trans T;obtain⟨X,hX⟩:∃ X,X=partitionEqual lt d a (e1+1) p:=⟨_,rfl⟩
 rw[<-hX];have hR':=hX;unfold partitionEqual at hR';rw[zst] at hR';have hDs:=wg d a p;refine(ZP∘Zd) ?_;refine qo (id:=1) [(200018,[900]),(200022,[900]),(100023,[900]),(100024,[900])] ki J ((Zn∘Zn∘ZT) ?_);refine qz (qg L (q:=900) Z Z Z qj) Z Z (ZT (h:=?_));refine qz (qg L (q:=900) Z Z Z qi) Z Z (Zp (h:=?_));refine xo (yo L (q:=900) Z Z b1 Z s1) Z (Zp (h:=?_));refine xo (yo L (q:=900) Z Z b2 Z s2) Z ((ZaZ∘Zy∘Z7∘Za∘Za9∘ZaS∘Zam) ?_);generalize swp d a p=D at *;refine tp (lu (fun s:Nat×Array Int=>[(9,.is (.int .i64 s.1)),(900,.own (xp b (uC s.2++rest) tyU))]) (fun s=>s.2.size=m/\s=X) (fun _=>[]) ?_) ?_
 rotate_left
 ·refine xm (fun s:(Nat×Nat)×Array Int=>[(0,.is (.slice (some ⟨b,0,none⟩) m cap)),(1,.is (.int .i64 a)),(9,.is (.int .i64 s.1.1)),(10,.is (.int .i64 s.1.2)),(900,.own (xp b (uC s.2++rest) tyU))]) (fun s=>s.2.size=m/\a+1<=s.1.1/\s.1.1<=e1+1/\a<=s.1.2/\s.1.2<=e1/\partEqLoop lt a s.1.1 s.1.2 s.2=X) (fun s=>s.1.2+1-s.1.1) ((a+1,e1),D) ⟨by dsimp only;omega,by dsimp only;omega,by dsimp only;omega,by dsimp only;omega,by dsimp only;omega,hR'.symm⟩ ⟨Z,Z,Z,Z,Z,trivial⟩ ?_;rintro⟨⟨i0,j0⟩,ztf⟩ ⟨hG,hi1,hi2,hj1,hj2,hL⟩;dsimp only at hG hi1 hi2 hj1 hj2 hL |-;rw[partEqLoop] at hL;clear hX hR' hDs;refine qn (zj (qn ?_));refine tp (lu (fun i:Nat=>[(0,.is (.slice (some ⟨b,0,none⟩) m cap)),(1,.is (.int .i64 a)),(9,.is (.int .i64 i)),(10,.is (.int .i64 j0)),(900,.own (xp b (uC ztf++rest) tyU))]) (fun i=>i0<=i/\i<=max i0 (j0+1)/\i=scanUp (fun x=>!lt ztf[a]! x) ztf j0 i0) (fun _=>[]) ?_) ?_
  rotate_left
  ·refine xm (fun i:Nat=>[(0,.is (.slice (some ⟨b,0,none⟩) m cap)),(1,.is (.int .i64 a)),(9,.is (.int .i64 i)),(10,.is (.int .i64 j0)),(900,.own (xp b (uC ztf++rest) tyU))]) (fun i=>i0<=i/\i<=max i0 (j0+1)/\scanUp (fun x=>!lt ztf[a]! x) ztf j0 i=scanUp (fun x=>!lt ztf[a]! x) ztf j0 i0) (fun i=>j0+1-i) i0 ⟨nu _,by omega,rfl⟩ ⟨Z,Z,Z,Z,Z,nm⟩ ?_;rintro i ⟨hi1,hi2,hi3⟩;by_cases hle:i<=j0
   ·obtain⟨_,qx⟩:=gk (rest:=rest) (show i<ztf.size by omega) (0+(i)*1) rfl;obtain⟨_,qa⟩:=gk (rest:=rest) (show a<ztf.size by omega) (0+(a)*1) rfl
    cases hc:lt ztf[a]! ztf[i]! with
    | false=>
     have hw:IntKind.i64.wrap ((i:Int)+1)=((i+1:Nat):Int):=xb T T;refine Zf (h:=?_);refine qo (id:=3) [(200036,[900]),(200040,[900])] ki J ((Zn∘Zdh∘Zbh∘Zp) ?_);refine qz (qg L (q:=900) Z Z Z qa) Z Z (ZT (h:=?_));refine qz (qg L (q:=900) Z Z Z qx) Z Z (z81 L Z (fun u H hH _=>js hc hH) ?_);refine(Za8∘Zcc∘Zdq∘Zam∘Z0∘Z7∘Zai) ?_;exact ym (x:=i) (i+1) ⟨by omega,by omega,by rw[<-hi3];exact(Cp hle (by simp [hc])).symm⟩ T ⟨Z,Z,Z,Z,Z,nm⟩
    | true=>
     refine Zf (h:=?_);refine qo (id:=3) [(200036,[900]),(200040,[900])] ki J ((Zn∘Zdh∘Zbh∘Zp) ?_);refine qz (qg L (q:=900) Z Z Z qa) Z Z (ZT (h:=?_));refine qz (qg L (q:=900) Z Z Z qx) Z Z (z81 L Z (fun u H hH _=>js hc hH) ?_);refine(Za8∘Za3∘ZaD) ?_;exact jz i nq ⟨hi1,hi2,by rw[<-hi3];exact(fi (by rintro⟨_,h⟩;simp [hc] at h)).symm⟩ rfl ⟨rfl,rfl,rfl,rfl,rfl,nm⟩
   ·refine(Zf∘Zc9∘Zn∘ZdS∘ZbH∘Zb5∘Za3∘ZaD) ?_;exact jz i nq ⟨hi1,hi2,by rw[<-hi3];exact(fi (by rintro⟨h,_⟩;exact hle h)).symm⟩ rfl ⟨rfl,rfl,rfl,rfl,rfl,nm⟩
  rintro K ⟨hK1,hK2,hK3⟩;refine zj (qn ?_);refine tp (lu (fun i:Nat=>[(0,.is (.slice (some ⟨b,0,none⟩) m cap)),(1,.is (.int .i64 a)),(9,.is (.int .i64 K)),(10,.is (.int .i64 i)),(900,.own (xp b (uC ztf++rest) tyU))]) (fun i=>i<=j0/\min (K-1) j0<=i/\i=scanDown (fun x=>lt ztf[a]! x) ztf K j0) (fun _=>[]) ?_) ?_
  rotate_left
  ·refine xm (fun i:Nat=>[(0,.is (.slice (some ⟨b,0,none⟩) m cap)),(1,.is (.int .i64 a)),(9,.is (.int .i64 K)),(10,.is (.int .i64 i)),(900,.own (xp b (uC ztf++rest) tyU))]) (fun i=>i<=j0/\min (K-1) j0<=i/\scanDown (fun x=>lt ztf[a]! x) ztf K i=scanDown (fun x=>lt ztf[a]! x) ztf K j0) (fun i=>i) j0 ⟨nu _,by omega,rfl⟩ ⟨Z,Z,Z,Z,Z,nm⟩ ?_;rintro i ⟨hi1,hi2,hi3⟩;by_cases hle:K<=i
   ·obtain⟨_,qx⟩:=gk (rest:=rest) (show i<ztf.size by omega) (0+(i)*1) rfl;obtain⟨_,qa⟩:=gk (rest:=rest) (show a<ztf.size by omega) (0+(a)*1) rfl
    cases hc:lt ztf[a]! ztf[i]! with
    | true=>
     obtain⟨i,rfl⟩:∃ k,i=k+1:=⟨i-1,by omega⟩
     have hw:IntKind.i64.wrap (((i+1:Nat):Int)-1)=(i:Int):=xb T T |>.trans T;refine(Zf∘ZeX∘Zn∘Zdh∘Zbh∘Zp) ?_;refine qz (qg L (q:=900) Z Z Z qa) Z Z (ZT (h:=?_));refine qz (qg L (q:=900) Z Z Z qx) Z Z (z81 L Z (fun u H hH _=>js hc hH) ?_);refine(Zcc∘Zdq∘Zam∘ZQ∘Za9∘Zai) ?_;exact ym (x:=i+1) i ⟨by omega,by omega,by rw[<-hi3];exact(oy hle (by simp [hc])).symm⟩ T ⟨Z,Z,Z,Z,Z,nm⟩
    | false=>
     refine(Zf∘ZeX∘Zn∘Zdh∘Zbh∘Zp) ?_;refine qz (qg L (q:=900) Z Z Z qa) Z Z (ZT (h:=?_));refine qz (qg L (q:=900) Z Z Z qx) Z Z (z81 L Z (fun u H hH _=>js hc hH) ?_);refine(Za3∘ZaD) ?_;exact jz i nq ⟨hi1,hi2,by rw[<-hi3];exact(ub (by rintro⟨_,h⟩;simp [hc] at h)).symm⟩ rfl ⟨rfl,rfl,rfl,rfl,rfl,nm⟩
   ·refine(Zf∘Zeg∘Zn∘ZdS∘ZbH∘Zcq∘Za3∘ZaD) ?_;exact jz i nq ⟨hi1,hi2,by rw[<-hi3];exact(ub (by rintro⟨h,_⟩;exact hle h)).symm⟩ rfl ⟨rfl,rfl,rfl,rfl,rfl,nm⟩
  rintro zte ⟨hM1,hM2,hM3⟩;rw[<-hK3,<-hM3] at hL;by_cases hKM:zte<K
  ·rw[na hKM] at hL;refine(Zf∘Zco∘ZO∘Zw∘Zea∘ZdF∘Zdk) ?_;exact jz (K,ztf) nq ⟨hG,hL⟩ Z ⟨Z,Z,nm⟩
  ·rw[nc hKM,dif_pos T] at hL;have hw5:IntKind.i64.wrap ((K:Int)+1)=((K+1:Nat):Int):=xb T T;have hw6:IntKind.i64.wrap ((zte:Int)-1)=((zte-1:Nat):Int):=xb T T |>.trans T;have hGs:=wg ztf K zte;obtain⟨_,qj⟩:=gk (rest:=rest) (show zte<ztf.size by omega) (0+(zte)*1) rfl;obtain⟨_,qi⟩:=gk (rest:=rest) (show K<ztf.size by omega) (0+(K)*1) rfl;have s1:=vt (rest:=rest) ztf[zte]! (show K<ztf.size by omega) (0+(K)*1) rfl;have b1:=vu (rest:=rest) (show K<ztf.size by omega) (0+(K)*1) rfl;have hz:zte<(ztf.setIfInBounds (K) ztf[zte]!).size:=by rw[zpx];omega
   have s2:=vt (rest:=rest) ztf[K]! hz (0+(zte)*1) rfl;have b2:=vu (rest:=rest) hz (0+(zte)*1) rfl;rw[fe] at s2;refine(Zf∘Zco∘ZL∘Zm) ?_;refine qo (id:=8) [(200072,[900]),(200076,[900]),(100077,[900]),(100078,[900])] ki J ((Zn∘Zn∘ZT) ?_);refine qz (qg L (q:=900) Z Z Z qj) Z Z (ZT (h:=?_));refine qz (qg L (q:=900) Z Z Z qi) Z Z (Zp (h:=?_));refine xo (yo L (q:=900) Z Z b1 Z s1) Z (Zp (h:=?_));refine xo (yo L (q:=900) Z Z b2 Z s2) Z ((ZaZ∘Zal∘Z7∘Zc∘ZI∘Za∘Za9∘Zai) ?_);exact ym (x:=((i0,j0),ztf)) ((K+1,zte-1),swp ztf K zte) ⟨by dsimp only;omega,by dsimp only;omega,by dsimp only;omega,by dsimp only;omega,by dsimp only;omega,hL⟩ G ⟨Z,Z,Z,Z,Z,trivial⟩
 ·rintro⟨K,ztf⟩ ⟨hG,hL⟩;dsimp only at hG |-;rw[<-hL];refine(Ze∘ZY∘Za∘Zc) ?_;exact xv L 900 (r:=xc b _ tyU) (rs:=[.tmp 8]) Z (fun _ _ h=>h) nq Z Z (fun _=>rfl)
def _root_.Zdv(t:Wr Y->A:=by intro h;refine ze (id:=24) ?_;exact h.1)(h:Y):A:=t ⟨h⟩
def ep{e:Nat}(h:¬ (i<e/\lt d[i]! d[i-1]! =false)):scanSorted lt d e i=i:=by
 rw[scanSorted,nc];simpa using h
def Gr{e:Nat}(h1:i<e)(h2:lt d[i]! d[i-1]! =false):scanSorted lt d e i=scanSorted lt d e (i+1):=by
 rw[scanSorted,na (by simp [h1,h2])]
def pins_ret{b m cap a e:Nat}(hab:a<e)(he:e<=d.size)(hm:d.size=m)(hm1:m<=100000)(hB:zth B w)
  (hr:(xc b (uC d++rest) tyU).P B w C) (hC:ZCB C w B):
  RetX zti 276 [.slice (some ⟨b,0,none⟩) m cap,.int .i64 a,.int .i64 e] w B C (xc b (uC (partialInsertionSort lt d a e).1++rest) tyU) (.bool (partialInsertionSort lt d a e).2):=by
 unfold RetX;refine xa 900 (xc b (uC d++rest) tyU) Tryz.func276 Z Tryz.ntmps276 (np Z) hB hr hC ?_;rw[xd];have hw1:IntKind.i64.wrap ((a:Int)+1)=((a+1:Nat):Int):=xb T T;have hw2:IntKind.i64.wrap ((e:Int)-(a:Int))=((e-a:Nat):Int):=xb T T |>.trans T;obtain⟨X,hX⟩:∃ X,X=partialInsertionSort lt d a e:=⟨_,rfl⟩
 rw[<-hX];unfold partialInsertionSort at hX;refine(Z4∘Za∘Z7∘Zj∘Z9∘ZaJ) ?_;refine xm (fun s:(Nat×Nat)×Array Int=>[(0,.is (.slice (some ⟨b,0,none⟩) m cap)),(1,.is (.int .i64 a)),(2,.is (.int .i64 e)),(7,.is (.int .i64 s.1.2)),(8,.is (.int .i64 s.1.1)),(900,.own (xp b (uC s.2++rest) tyU))]) (fun s=>s.1.1<=5/\a+1<=s.1.2/\s.1.2<=e/\s.2.size=m/\partialIns lt a e (5-s.1.1) s.1.2 s.2=X) (fun s=>5-s.1.1) ((0,a+1),d) ⟨by dsimp only;omega,by dsimp only;omega,by dsimp only;omega,hm,hX.symm⟩ ⟨Z,Z,Z,Z,Z,Z,trivial⟩ ?_;rintro⟨⟨k,i0⟩,D⟩ ⟨hk,hi1,hi2,hD,hL⟩;dsimp only at hk hi1 hi2 hD hL |-;clear hX;by_cases hk5:k<5
 ·obtain⟨s,hs⟩:∃ s,5-k=s+1:=⟨5-k-1,by omega⟩
  have hs':5-(k+1)=s:=T;rw[hs,partialIns] at hL;dsimp only at hL;refine(Zcr∘ZbF∘Zam) ?_;refine tp (lu (fun i:Nat=>[(0,.is (.slice (some ⟨b,0,none⟩) m cap)),(1,.is (.int .i64 a)),(2,.is (.int .i64 e)),(7,.is (.int .i64 i)),(8,.is (.int .i64 k)),(900,.own (xp b (uC D++rest) tyU))]) (fun i=>a+1<=i/\i<=e/\i=scanSorted lt D e i0) (fun _=>[]) ?_) ?_
  rotate_left
  ·refine xm (fun i:Nat=>[(0,.is (.slice (some ⟨b,0,none⟩) m cap)),(1,.is (.int .i64 a)),(2,.is (.int .i64 e)),(7,.is (.int .i64 i)),(8,.is (.int .i64 k)),(900,.own (xp b (uC D++rest) tyU))]) (fun i=>a+1<=i/\i<=e/\scanSorted lt D e i=scanSorted lt D e i0) (fun i=>e-i) i0 ⟨hi1,hi2,rfl⟩ ⟨Z,Z,Z,Z,Z,Z,nm⟩ ?_;rintro i ⟨h1,h2,h3⟩;by_cases hle:i<e
   ·obtain⟨_,q1⟩:=gk (rest:=rest) (show i<D.size by omega) (0+(i)*1) rfl;obtain⟨_,q2⟩:=gk (rest:=rest) (show i-1<D.size by omega) (0+(i-1)*1) rfl;have hw3:IntKind.i64.wrap ((i:Int)-1)=((i-1:Nat):Int):=xb T T |>.trans T
    cases hc:lt D[i]! D[i-1]! with
    | false=>
     have hw4:IntKind.i64.wrap ((i:Int)+1)=((i+1:Nat):Int):=xb T T;refine Zf (h:=?_);refine qo (id:=5) [(200024,[900]),(200029,[900])] ki J ((Zn∘Zcw∘Zbh∘Zp) ?_);refine qz (qg L (q:=900) Z Z Z q1) Z Z ((ZbJ∘Zp) ?_);refine qz (qg L (q:=900) Z Z Z q2) Z Z (z81 L Z (fun u H hH _=>js hc hH) ?_);refine(Za8∘Zcc∘Zdq∘Zam∘ZQ∘Z7∘Zai) ?_;exact ym (x:=i) (i+1) ⟨by omega,by omega,by rw[<-h3];exact(Gr hle hc).symm⟩ T ⟨Z,Z,Z,Z,Z,Z,nm⟩
    | true=>
     refine Zf (h:=?_);refine qo (id:=5) [(200024,[900]),(200029,[900])] ki J ((Zn∘Zcw∘Zbh∘Zp) ?_);refine qz (qg L (q:=900) Z Z Z q1) Z Z ((ZbJ∘Zp) ?_);refine qz (qg L (q:=900) Z Z Z q2) Z Z (z81 L Z (fun u H hH _=>js hc hH) ?_);refine(Za8∘Za3∘ZaD) ?_;exact jz i nq ⟨h1,h2,by rw[<-h3];exact(ep (by rintro⟨_,h⟩;simp [hc] at h)).symm⟩ rfl ⟨rfl,rfl,rfl,rfl,rfl,rfl,nm⟩
   ·refine(Zf∘Zeg∘Zn∘ZcQ∘ZbH∘Zb5∘Zcq∘Za3∘ZaD) ?_;exact jz i nq ⟨h1,h2,by rw[<-h3];exact(ep (by rintro⟨h,_⟩;exact hle h)).symm⟩ rfl ⟨rfl,rfl,rfl,rfl,rfl,rfl,nm⟩
  ·rintro i ⟨h1,h2,h3⟩;rw[<-h3] at hL;by_cases hie:i=e
   ·rw[na hie] at hL;subst hie;rw[<-hL];refine(Zf∘Zco∘ZW∘ZD∘Zv∘Zc) ?_;exact xv L 900 (r:=xc b _ tyU) (rs:=[.tmp 6]) Z (fun _ _ h=>h) nq Z Z (fun _=>rfl)
   ·rw[nc hie] at hL;by_cases h50:e-a<50
    ·rw[na h50] at hL;rw[<-hL];refine(Zf∘Zco∘Zx∘Z1∘ZM∘ZaA∘ZN∘ZD∘ZI∘Zc) ?_;exact xv L 900 (r:=xc b _ tyU) (rs:=[.tmp 6]) Z (fun _ _ h=>h) nq Z Z (fun _=>rfl)
    ·rw[nc h50] at hL;have hw3:IntKind.i64.wrap ((i:Int)-1)=((i-1:Nat):Int):=xb T T |>.trans T;have hw4:IntKind.i64.wrap ((i:Int)-(a:Int))=((i-a:Nat):Int):=xb T T |>.trans T;have hw5:IntKind.i64.wrap ((e:Int)-(i:Int))=((e-i:Nat):Int):=xb T T |>.trans T;have hw6:IntKind.i64.wrap ((i:Int)+1)=((i+1:Nat):Int):=xb T T;have hw7:IntKind.i64.wrap ((k:Int)+1)=((k+1:Nat):Int):=xb T T;have hDs:=wg D i (i-1);obtain⟨_,qj⟩:=gk (rest:=rest) (show i-1<D.size by omega) (0+(i-1)*1) rfl;obtain⟨_,qi⟩:=gk (rest:=rest) (show i<D.size by omega) (0+(i)*1) rfl;have s1:=vt (rest:=rest) D[i-1]! (show i<D.size by omega) (0+(i)*1) rfl;have b1:=vu (rest:=rest) (show i<D.size by omega) (0+(i)*1) rfl;have hz:i-1<(D.setIfInBounds (i) D[i-1]!).size:=by rw[zpx];omega
     have s2:=vt (rest:=rest) D[i]! hz (0+(i-1)*1) rfl;have b2:=vu (rest:=rest) hz (0+(i-1)*1) rfl;rw[fe] at s2;refine(Zf∘Zco∘Zx∘Z1∘ZM∘ZaA∘ZJ∘Zm) ?_;refine qo (id:=11) [(200051,[900]),(200055,[900]),(100056,[900]),(100057,[900])] ki J ((Zn∘ZbJ∘ZbJ∘Zp) ?_);refine qz (qg L (q:=900) Z Z Z qj) Z Z (ZT (h:=?_));refine qz (qg L (q:=900) Z Z Z qi) Z Z (Zp (h:=?_));refine xo (yo L (q:=900) Z Z b1 Z s1) Z (Zp (h:=?_));refine xo (yo L (q:=900) Z Z b2 Z s2) Z ((ZaZ∘Ze) ?_);generalize swp D i (i-1)=D1 at *;obtain⟨D2,hD2⟩:∃ D2,D2=(if i-a>=2 then shiftDown lt (i-1) D1 else D1):=⟨_,rfl⟩
     rw[<-hD2] at hL;refine rj (fun ztd:Array Int=>[(0,.is (.slice (some ⟨b,0,none⟩) m cap)),(1,.is (.int .i64 a)),(2,.is (.int .i64 e)),(7,.is (.int .i64 i)),(8,.is (.int .i64 k)),(900,.own (xp b (uC ztd++rest) tyU))]) (fun ztd=>ztd.size=m/\ztd=D2) (fun _=>[]) ?_ ?_
     rotate_left
     ·by_cases h2a:i-a>=2
      ·rw[na h2a] at hD2;refine(Zaa∘ZaA∘Zb3∘ZD∘Zak∘Za∘Za9∘ZaJ) ?_;refine xm (fun t:Nat×Array Int=>[(0,.is (.slice (some ⟨b,0,none⟩) m cap)),(1,.is (.int .i64 a)),(2,.is (.int .i64 e)),(7,.is (.int .i64 i)),(8,.is (.int .i64 k)),(9,.is (.int .i64 t.1)),(900,.own (xp b (uC t.2++rest) tyU))]) (fun t=>t.1<=i-1/\t.2.size=m/\shiftDown lt t.1 t.2=D2) (fun t=>t.1) (i-1,D1) ⟨Nat.le_refl _,by dsimp only;omega,hD2.symm⟩ ⟨Z,Z,Z,Z,Z,Z,Z,trivial⟩ ?_;rintro⟨j,ztd⟩ ⟨hj,hE,hS⟩;dsimp only at hj hE hS |-;clear hD2;rcases j with _ | j
       ·rw[shiftDown] at hS;refine(Zf∘ZbG∘Za4∘ZaL∘ZaD) ?_;exact jz ztd nq ⟨hE,hS⟩ Z ⟨Z,Z,Z,Z,Z,Z,nm⟩
       ·rw[shiftDown] at hS;have hw8:IntKind.i64.wrap (((j+1:Nat):Int)-1)=(j:Int):=xb T T |>.trans T;obtain⟨_,q1⟩:=gk (rest:=rest) (show j+1<ztd.size by omega) (0+(j+1)*1) rfl;obtain⟨_,q2⟩:=gk (rest:=rest) (show j<ztd.size by omega) (0+(j)*1) rfl
        cases hc:lt ztd[j+1]! ztd[j]! with
        | false=>
         rw[na (by rw[hc];rfl)] at hS;refine(Zf∘ZbG∘ZbZ∘Zd3∘Ze) ?_;refine qo (id:=16) [(200071,[900]),(200076,[900])] ki J (ZT (h:=?_));refine qz (qg L (q:=900) Z Z Z q1) Z Z ((ZbJ∘Zp) ?_);refine qz (qg L (q:=900) Z Z Z q2) Z Z (z81 L Z (fun u H hH _=>js hc hH) ?_);refine(Za8∘ZbW∘Zea∘ZdF∘ZdZ∘Zdk) ?_;exact jz ztd nq ⟨hE,hS⟩ Z ⟨Z,Z,Z,Z,Z,Z,nm⟩
        | true=>
         rw[nc (by rw[hc];simp)] at hS;obtain⟨_,qj⟩:=gk (rest:=rest) (show j<ztd.size by omega) (0+(j)*1) rfl;obtain⟨_,qi⟩:=gk (rest:=rest) (show j+1<ztd.size by omega) (0+(j+1)*1) rfl;have s1:=vt (rest:=rest) ztd[j]! (show j+1<ztd.size by omega) (0+(j+1)*1) rfl;have b1:=vu (rest:=rest) (show j+1<ztd.size by omega) (0+(j+1)*1) rfl;have hz:j<(ztd.setIfInBounds (j+1) ztd[j]!).size:=by rw[zpx];omega
         have s2:=vt (rest:=rest) ztd[j+1]! hz (0+(j)*1) rfl;have b2:=vu (rest:=rest) hz (0+(j)*1) rfl;rw[fe] at s2;refine(Zf∘ZbG∘ZbZ∘Zd3∘Ze) ?_;refine qo (id:=16) [(200071,[900]),(200076,[900])] ki J (ZT (h:=?_));refine qz (qg L (q:=900) Z Z Z q1) Z Z ((ZbJ∘Zp) ?_);refine qz (qg L (q:=900) Z Z Z q2) Z Z (z81 L Z (fun u H hH _=>js hc hH) ?_);refine(Za8∘ZaN∘Zdq) ?_;refine qo (id:=17) [(200088,[900]),(200092,[900]),(100093,[900]),(100094,[900])] ki J ((Zn∘ZbJ∘ZbJ∘Zp) ?_);refine qz (qg L (q:=900) Z Z Z qj) Z Z (ZT (h:=?_));refine qz (qg L (q:=900) Z Z Z qi) Z Z (Zp (h:=?_));refine xo (yo L (q:=900) Z Z b1 Z s1) Z (Zp (h:=?_));refine xo (yo L (q:=900) Z Z b2 Z s2) Z ((Zck∘ZaE∘Zao∘Za∘Za9∘Zbw) ?_);exact ym (x:=(j+1,ztd)) (j,swp ztd (j+1) j) ⟨by dsimp only;omega,by dsimp only;rw[wg];exact hE,hS⟩ G ⟨Z,Z,Z,Z,Z,Z,Z,trivial⟩
      ·rw[nc h2a] at hD2;refine(Zaa∘ZaA∘Za4∘Zae) ?_;exact jz D1 nq ⟨by omega,hD2.symm⟩ Z ⟨Z,Z,Z,Z,Z,Z,nm⟩
     ·rintro ztf ⟨hG,hGe⟩;rw[<-hGe] at hL;clear hD2 hGe;by_cases h2b:e-i>=2
      ·rw[na h2b] at hL;obtain⟨D3,hD3⟩:∃ D3,D3=shiftUp lt e (i+1) ztf:=⟨_,rfl⟩
       rw[<-hD3] at hL;refine(Ze∘ZaV∘ZaA∘Zb3∘ZD∘Zcz∘Za∘Z7∘ZaJ) ?_
       ·refine xm (fun t:Nat×Array Int=>[(0,.is (.slice (some ⟨b,0,none⟩) m cap)),(1,.is (.int .i64 a)),(2,.is (.int .i64 e)),(7,.is (.int .i64 i)),(8,.is (.int .i64 k)),(10,.is (.int .i64 t.1)),(900,.own (xp b (uC t.2++rest) tyU))]) (fun t=>i+1<=t.1/\t.1<=e/\t.2.size=m/\shiftUp lt e t.1 t.2=D3) (fun t=>e-t.1) (i+1,ztf) ⟨Nat.le_refl _,by dsimp only;omega,hG,hD3.symm⟩ ⟨Z,Z,Z,Z,Z,Z,Z,trivial⟩ ?_;rintro⟨j,ztd⟩ ⟨hj1,hj2,hE,hS⟩;dsimp only at hj1 hj2 hE hS |-;clear hD3;rw[shiftUp] at hS;by_cases hje:j<e
        ·rw[na hje] at hS;have hw8:IntKind.i64.wrap ((j:Int)-1)=((j-1:Nat):Int):=xb T T |>.trans T;have hw9:IntKind.i64.wrap ((j:Int)+1)=((j+1:Nat):Int):=xb T T;obtain⟨_,q1⟩:=gk (rest:=rest) (show j<ztd.size by omega) (0+(j)*1) rfl;obtain⟨_,q2⟩:=gk (rest:=rest) (show j-1<ztd.size by omega) (0+(j-1)*1) rfl
         cases hc:lt ztd[j]! ztd[j-1]! with
         | false=>
          rw[na (by rw[hc];rfl)] at hS;refine(Zf∘Zbe∘Zb∘ZbF∘Ze) ?_;refine qo (id:=22) [(200109,[900]),(200114,[900])] ki J (ZT (h:=?_));refine qz (qg L (q:=900) Z Z Z q1) Z Z ((ZbJ∘Zp) ?_);refine qz (qg L (q:=900) Z Z Z q2) Z Z (z81 L Z (fun u H hH _=>js hc hH) ?_);refine(Za8∘ZbW∘Zea∘ZdF∘ZdZ∘Zdk∘ZaE∘Z0∘Z7∘Zbw) ?_;exact ym (x:=((k,i0),D)) ((k+1,i),ztd) ⟨by dsimp only;omega,by dsimp only;omega,by dsimp only;omega,hE,by dsimp only;rw[hs',hS];exact hL⟩ G ⟨Z,Z,Z,Z,Z,Z,trivial⟩
         | true=>
          rw[nc (by rw[hc];simp)] at hS;obtain⟨_,qj⟩:=gk (rest:=rest) (show j-1<ztd.size by omega) (0+(j-1)*1) rfl;obtain⟨_,qi⟩:=gk (rest:=rest) (show j<ztd.size by omega) (0+(j)*1) rfl;have s1:=vt (rest:=rest) ztd[j-1]! (show j<ztd.size by omega) (0+(j)*1) rfl;have b1:=vu (rest:=rest) (show j<ztd.size by omega) (0+(j)*1) rfl;have hz:j-1<(ztd.setIfInBounds (j) ztd[j-1]!).size:=by rw[zpx];omega
          have s2:=vt (rest:=rest) ztd[j]! hz (0+(j-1)*1) rfl;have b2:=vu (rest:=rest) hz (0+(j-1)*1) rfl;rw[fe] at s2;refine(Zf∘Zbe∘Zb∘ZbF∘Ze) ?_;refine qo (id:=22) [(200109,[900]),(200114,[900])] ki J (ZT (h:=?_));refine qz (qg L (q:=900) Z Z Z q1) Z Z ((ZbJ∘Zp) ?_);refine qz (qg L (q:=900) Z Z Z q2) Z Z (z81 L Z (fun u H hH _=>js hc hH) ?_);refine(Za8∘ZaN∘Zdq) ?_;refine qo (id:=23) [(200126,[900]),(200130,[900]),(100131,[900]),(100132,[900])] ki J ((Zn∘ZbJ∘ZbJ∘Zp) ?_);refine qz (qg L (q:=900) Z Z Z qj) Z Z (ZT (h:=?_));refine qz (qg L (q:=900) Z Z Z qi) Z Z (Zp (h:=?_));refine xo (yo L (q:=900) Z Z b1 Z s1) Z (Zp (h:=?_));refine xo (yo L (q:=900) Z Z b2 Z s2) Z ((Zck∘ZaE∘Zc0∘Za∘Z7∘Zbw) ?_);exact ym (x:=(j,ztd)) (j+1,swp ztd j (j-1)) ⟨by dsimp only;omega,by dsimp only;omega,by dsimp only;rw[wg];exact hE,hS⟩ G ⟨Z,Z,Z,Z,Z,Z,Z,trivial⟩
        ·rw[nc hje] at hS;refine(Zf∘Zbe∘ZbA∘ZaL∘ZaD∘ZaE∘Z0∘Z7∘Zbw) ?_;exact ym (x:=((k,i0),D)) ((k+1,i),ztd) ⟨by dsimp only;omega,by dsimp only;omega,by dsimp only;omega,hE,by dsimp only;rw[hs',hS];exact hL⟩ G ⟨Z,Z,Z,Z,Z,Z,trivial⟩
      ·rw[nc h2b] at hL;refine(Ze∘ZaV∘ZaA∘Za4∘Zch∘Z0∘Z7∘Zbw) ?_;exact ym (x:=((k,i0),D)) ((k+1,i),ztf) ⟨by dsimp only;omega,by dsimp only;omega,by dsimp only;omega,hG,by dsimp only;rw[hs'];exact hL⟩ G ⟨Z,Z,Z,Z,Z,Z,trivial⟩
 ·obtain rfl:k=5:=by omega
  have hL':(D,false)=X:=hL;rw[<-hL'];refine(Zcr∘ZJ∘Zas∘Zdv∘Zc) ?_;exact xv L 900 (r:=xc b _ tyU) (rs:=[.tmp 6]) Z (fun _ _ h=>h) nq Z Z (fun _=>rfl)
def _root_.Zfu(t:Wr Y->A:=by intro h;refine ZdL (h:=?_);refine xo (yo L (q:=900) Z Z Z Z Z) Z ?_;exact h.1)(h:Y):A:=t ⟨h⟩
abbrev tyX:TypeId:=334
def Q5{x:Nat}(hx:x<18446744073709551616)(hB:zth B w)
  (hr:(xc b [.int .u64 x] tyX).P B w C) (hC:ZCB C w B):
  RetX zti 263 [.pointer (some ⟨b,0,none⟩)] w B C (xc b [.int .u64 (xorNextN x:Nat)] tyX) (.int .u64 (xorNextN x:Nat)):=by
 obtain⟨X1,h1⟩:∃ X1:Nat,X1=x^^^(x*8192%18446744073709551616):=⟨_,rfl⟩
 obtain⟨X2,h2⟩:∃ X2:Nat,X2=X1^^^(X1/128):=⟨_,rfl⟩
 obtain⟨X3,h3⟩:∃ X3:Nat,X3=X2^^^(X2*131072%18446744073709551616):=⟨_,rfl⟩
 have l1:X1<18446744073709551616:=by rw[h1];exact Nat.xor_lt_two_pow (n:=64) T T
 have l2:X2<18446744073709551616:=by rw[h2];exact Nat.xor_lt_two_pow (n:=64) T T
 have l3:X3<18446744073709551616:=by rw[h3];exact Nat.xor_lt_two_pow (n:=64) T T
 have hv:xorNextN x=X3:=by unfold xorNextN;simp only[];rw[<-h1,<-h2,<-h3]
 have s1:IntKind.u64.wrap ((x:Int)*2^min (13:Int).toNat IntKind.u64.bits)=((x*8192%18446744073709551616:Nat):Int):=by
  rw[IntKind.wrap_u64,show((2:Int)^min (13:Int).toNat IntKind.u64.bits)=8192 from by decide];omega
 have s2:(X1:Int).fdiv (2^min (7:Int).toNat IntKind.u64.bits)=((X1/128:Nat):Int):=by
  rw[show((2:Int)^min (7:Int).toNat IntKind.u64.bits)=128 from by decide,zr8 _ T];omega
 have s3:IntKind.u64.wrap ((X2:Int)*2^min (17:Int).toNat IntKind.u64.bits)=((X2*131072%18446744073709551616:Nat):Int):=by
  rw[IntKind.wrap_u64,show((2:Int)^min (17:Int).toNat IntKind.u64.bits)=131072 from by decide];omega
 have x1:bits .xor .u64 (x:Int) ((x*8192%18446744073709551616:Nat):Int)=(X1:Int):=by rw[bits_xor_u64_nat _ _ hx T,h1]
 have x2:bits .xor .u64 (X1:Int) ((X1/128:Nat):Int)=(X2:Int):=by rw[bits_xor_u64_nat _ _ l1 T,h2]
 have x3:bits .xor .u64 (X2:Int) ((X2*131072%18446744073709551616:Nat):Int)=(X3:Int):=by rw[bits_xor_u64_nat _ _ l2 T,h3]
 rw[hv];clear hv h1 h2 h3;unfold RetX;refine xa 900 (xc b [.int .u64 x] tyX) Tryz.func263 Z Tryz.ntmps263 (np Z) hB hr hC ?_;rw[xd];refine(ZP∘Zd) ?_;refine qo (id:=1) [(200005,[900]),(200008,[900]),(100011,[900])] ki J ((Zl∘ZdL∘Zdp∘Zl∘ZdL∘Zdp) ?_);refine z8 (Qy Z Z Z Z E s1) Z (z8 (Xo Z Z Z Z x1) Z ((Zfu∘ZaZ) ?_));refine qo (id:=2) [(200014,[900]),(200017,[900]),(100020,[900])] ki J ((Zl∘ZdL∘Zdp∘Zl∘ZdL∘Zdp) ?_);refine z8 (zfo Z Z Z Z E s2) Z (z8 (Xo Z Z Z Z x2) Z ((Zfu∘ZaZ) ?_));refine qo (id:=3) [(200023,[900]),(200026,[900]),(100029,[900])] ki J ((Zl∘ZdL∘Zdp∘Zl∘ZdL∘Zdp) ?_);refine z8 (Qy Z Z Z Z E s3) Z (z8 (Xo Z Z Z Z x3) Z ((Zfu∘ZaZ∘Z0∘ZeK∘Zfo∘Zc) ?_));exact xv L 900 (r:=xc b _ tyX) (rs:=[.tmp 2]) Z (fun _ _ h=>h) nq Z Z (fun _=>rfl)
end Go.V.So
end
end
