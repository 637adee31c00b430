/- Texts, part 4. -/
import Derived.Test.YtooecmiihjampaaGreatTopReadM3
import Derived.WalkSmall
import Derived.RecoverIn
set_option linter.unusedVariables false
set_option linter.unusedSimpArgs false
set_option maxRecDepth 20000
set_option maxHeartbeats 8000000
set_option linter.defProp false
open Go.Proofs Go.RowKit
section
variable{a b fr i j k lim n rb s sb:Nat}{c:Go.V.L8.CH}{d:Array Int}{e fr0:Int}{g:Option (Nat×Bool)}{w:Go.World}{B B0 H:Go.V.Heap}{f:Go.V.L3.FT}{t:Go.V.L2.U}{fu r:Bool}{l m x zs1:List Go.V.L2.U}{lv pv sv v:Go.Value}{φ:Go.Value->Go.V.Heap->Prop}{κ:Go.V.Kap}{p:Int->Bool}{args cap caps fst rest:List Go.Value}{C:Nat->Prop}{ty:Go.TypeId}{P:Go.Program}{St:Go.V.Kap->Go.Act->Go.World->Prop}{ops:Array Go.Oper}{F:Go.V.Fr}{O:Go.V.Boxes}{zs3:Go.Exit->Go.Act->Go.World->Prop}{pos:String}{aft:Array Go.Edge}{r':Go.V.GR}{R:List (Option (List Go.V.L2.U))}{bs:List Nat}{A Y:Prop}
namespace Go.V.L3
open Go.V Go.V.L2
def _root_.Zgi(t:Wr Y->A:=by intro h;refine z7 (yz L _ Z Z Z Z zm7 Z Z (by first | omega | decide)) Z ?_;exact h.1)(h:Y):A:=t ⟨h⟩
def _root_.Zb0(t:Wr Y->A:=by intro h;refine z7 (zz L (vs:=[_,_,_,_,_,_,_]) (qp Z) Z Z Z Z ⟨_,rfl⟩) Z ?_;exact h.1)(h:Y):A:=t ⟨h⟩
def _root_.ZdA(t:Wr Y->A:=by intro h;refine z71 L Z (fun u H hH _=>check_ret _ T hH) ?_;exact h.1)(h:Y):A:=t ⟨h⟩
def _root_.Zfr(t:Wr Y->A:=by intro h;refine z7 (C6 Z Z Z Z zm2 M Z) Z ?_;exact h.1)(h:Y):A:=t ⟨h⟩
def _root_.Zas(t:Wr Y->A:=by exact fun h=>(Zgi∘Zcf) h.1)(h:Y):A:=t ⟨h⟩
def _root_.ZbO(t:Wr Y->A:=by exact fun h=>(ZO∘Zas) h.1)(h:Y):A:=t ⟨h⟩
def _root_.ZfI(t:Wr Y->A:=by intro h;refine Zo (h:=?_);refine z7 (yv (cs:=[_,_]) Z Z zmm Z Z) Z ?_;exact h.1)(h:Y):A:=t ⟨h⟩
abbrev fv(f:FT):Value:=.agg #[.string f.1.1.1,.string f.1.1.2,.string f.1.2,.string f.2.1.1.1,.string f.2.1.1.2,.string f.2.1.2,.bool f.2.2]
abbrev tyF:TypeId:=85
abbrev fdv(f:FT)(t:U):Value:=.agg #[.string f.1.1.1,.string t.1.1.1,.string f.1.1.2,.string t.1.1.2,.string f.1.2,.string t.1.2]
def FZ(f:FT):Prop:=(f.1.1.1.size<=1099511627776/\f.1.1.2.size<=1099511627776/\f.1.2.size<=1099511627776)/\f.2.1.1.1.size<=1099511627776/\f.2.1.1.2.size<=1099511627776/\f.2.1.2.size<=1099511627776
instance (f:FT):Decidable (FZ f):=inferInstanceAs (Decidable (_/\_))
abbrev zem:U:=(n3,n3)
def FM(f:FT):Prop:=(f.1.1.1.size<=9223372036854775807/\f.1.1.2.size<=9223372036854775807/\f.1.2.size<=9223372036854775807)/\f.2.1.1.1.size<=9223372036854775807/\f.2.1.1.2.size<=9223372036854775807/\f.2.1.2.size<=9223372036854775807
attribute [local irreducible] V N X VO Par StepOK Has Ret RetL RetO RetT Src
def bo{a b c d e g a' b' c' d' e' g':ByteArray}{ex:Bool}(hB:zs4 B w):
  Ret zs5 132 [.agg #[.string a,.string b,.string c,.string d,.string e,.string g,.bool ex],.agg #[.string a',.string b',.string c',.string d',.string e',.string g']] w B (fun v _=>v=.agg #[.string a,.string a',.string b,.string b',.string c,.string c']):=by
 refine yr Tryz.func132 Z Tryz.ntmps132 (np Z) hB ((Zal∘ZE∘Zcq∘Zo∘Zcx∘Zcx∘ZfI∘Zo∘Zcx∘Zcx∘ZfI∘Zo∘Zcx∘ZfI) ?_);refine z7 (yv (cs:=[_,_,_,_,_,_]) Z Z zml Z Z) Z (ZZ (h:=?_));refine yj1 L [.cell 4 216] fun u H hH hle=>?_;refine Za2 (h:=?_);rfl
--printed by mkfilw.py
def vw(hr:xn f t=r)(hB:zs4 B w):Ret zs5 79 [fv f,uv t] w B (fun v _=>v=.bool r):=by
 subst hr;refine yr Tryz.func79 Z Tryz.ntmps79 (np Z) hB ((Zal∘ZH∘Zb0∘Zdw) ?_);refine z71 L Z (fun u H hH _=>bo hH) ?_;refine ZaR (h:=?_)
 refine xp (fun k:Nat=>[(2,.sat (At (fcs f) tyF 0)),(3,.sat (At (ucs t) tyU 0)),(9,.is (fdv f t)),(10,.is (.int .i64 k))])
  (fun k=>k<=3/\(0<k->tkF f.1.1.1 t.1.1.1=true)/\(1<k->tkF f.1.1.2 t.1.1.2=true)/\(2<k->tkF f.1.2 t.1.2=true)) (fun k=>3-k) 0 ⟨mb _,fun h=>T,fun h=>T,fun h=>T⟩ ⟨rfl,rfl,rfl,rfl,nm⟩ ?_
 rintro k ⟨hk,i0,i1,i2⟩;rcases k with _ | _ | _ | _ | k
 ·refine(Ze∘Zv∘Zat∘Z6) ?_;refine z7 (jf (ys:=[_,_]) L _ Z Z Z Z Ah Z Z (by first | omega | decide) Z) Z ?_;refine ZY (h:=?_);refine ug 6 rfl fun b6 hb6=>?_;by_cases h1:f.1.1.1=⟨#[]⟩
  ·have h1':¬ f.1.1.1≠⟨#[]⟩:=fun h=>h h1;have ht:tkF f.1.1.1 t.1.1.1=true:=by unfold tkF;rw[decide_eq_true h1];rfl
   refine(Zt∘Zas∘ZcZ∘Zau∘Za4∘Zbl) ?_;refine j7 (O':=[]) (zox _) ?_;refine(ZO∘ZB) ?_;exact yo (x:=0) 1 ⟨by omega,fun _=>ht,fun h=>T,fun h=>T⟩ E ⟨Z,Z,Z,Z,nm⟩
  ·have h1':f.1.1.1≠⟨#[]⟩:=h1;by_cases h2:f.1.1.1=t.1.1.1
   ·have h2':¬ f.1.1.1≠t.1.1.1:=fun h=>h h2;have ht:tkF f.1.1.1 t.1.1.1=true:=by unfold tkF;rw[decide_eq_true h2];simp
    refine(Zt∘Zas∘ZbH∘Za∘Zas∘Zas∘ZcZ∘Zcw) ?_;refine j7 (O':=[]) (zox _) ?_;refine(ZO∘ZB) ?_;exact yo (x:=0) 1 ⟨by omega,fun _=>ht,fun h=>T,fun h=>T⟩ E ⟨Z,Z,Z,Z,nm⟩
   ·have h2':f.1.1.1≠t.1.1.1:=h2
    have ht:xn f t=false:=by
     have:tkF f.1.1.1 t.1.1.1=false:=by unfold tkF;rw[decide_eq_false h1,decide_eq_false h2];rfl
     unfold xn;rw[this];simp
    rw[ht];refine(Zt∘Zas∘ZbH∘Za∘Zas∘Zas∘ZbH∘Zbe∘Z1∘Zc) ?_;exact yj2 L [.tmp 4]
 ·refine(Ze∘Zv∘Zat∘Z6) ?_;refine z7 (jf (ys:=[_,_]) L _ Z Z Z Z Ah Z Z (by first | omega | decide) Z) Z ?_;refine ZY (h:=?_);refine ug 6 rfl fun b6 hb6=>?_;by_cases h1:f.1.1.2=⟨#[]⟩
  ·have h1':¬ f.1.1.2≠⟨#[]⟩:=fun h=>h h1;have ht:tkF f.1.1.2 t.1.1.2=true:=by unfold tkF;rw[decide_eq_true h1];rfl
   refine(Zt∘Zas∘ZcZ∘Zau∘Za4∘Zbl) ?_;refine j7 (O':=[]) (zox _) ?_;refine(ZO∘ZB) ?_;exact yo (x:=1) 2 ⟨by omega,fun _=>i0 T,fun _=>ht,fun h=>T⟩ E ⟨Z,Z,Z,Z,nm⟩
  ·have h1':f.1.1.2≠⟨#[]⟩:=h1;by_cases h2:f.1.1.2=t.1.1.2
   ·have h2':¬ f.1.1.2≠t.1.1.2:=fun h=>h h2;have ht:tkF f.1.1.2 t.1.1.2=true:=by unfold tkF;rw[decide_eq_true h2];simp
    refine(Zt∘Zas∘ZbH∘Za∘Zas∘Zas∘ZcZ∘Zcw) ?_;refine j7 (O':=[]) (zox _) ?_;refine(ZO∘ZB) ?_;exact yo (x:=1) 2 ⟨by omega,fun _=>i0 T,fun _=>ht,fun h=>T⟩ E ⟨Z,Z,Z,Z,nm⟩
   ·have h2':f.1.1.2≠t.1.1.2:=h2
    have ht:xn f t=false:=by
     have:tkF f.1.1.2 t.1.1.2=false:=by unfold tkF;rw[decide_eq_false h1,decide_eq_false h2];rfl
     unfold xn;rw[this];simp
    rw[ht];refine(Zt∘Zas∘ZbH∘Za∘Zas∘Zas∘ZbH∘Zbe∘Z1∘Zc) ?_;exact yj2 L [.tmp 4]
 ·refine(Ze∘Zv∘Zat∘Z6) ?_;refine z7 (jf (ys:=[_,_]) L _ Z Z Z Z Ah Z Z (by first | omega | decide) Z) Z ?_;refine ZY (h:=?_);refine ug 6 rfl fun b6 hb6=>?_;by_cases h1:f.1.2=⟨#[]⟩
  ·have h1':¬ f.1.2≠⟨#[]⟩:=fun h=>h h1;have ht:tkF f.1.2 t.1.2=true:=by unfold tkF;rw[decide_eq_true h1];rfl
   refine(Zt∘Zas∘ZcZ∘Zau∘Za4∘Zbl) ?_;refine j7 (O':=[]) (zox _) ?_;refine(ZO∘ZB) ?_;exact yo (x:=2) 3 ⟨by omega,fun _=>i0 T,fun _=>i1 T,fun _=>ht⟩ E ⟨Z,Z,Z,Z,nm⟩
  ·have h1':f.1.2≠⟨#[]⟩:=h1;by_cases h2:f.1.2=t.1.2
   ·have h2':¬ f.1.2≠t.1.2:=fun h=>h h2;have ht:tkF f.1.2 t.1.2=true:=by unfold tkF;rw[decide_eq_true h2];simp
    refine(Zt∘Zas∘ZbH∘Za∘Zas∘Zas∘ZcZ∘Zcw) ?_;refine j7 (O':=[]) (zox _) ?_;refine(ZO∘ZB) ?_;exact yo (x:=2) 3 ⟨by omega,fun _=>i0 T,fun _=>i1 T,fun _=>ht⟩ E ⟨Z,Z,Z,Z,nm⟩
   ·have h2':f.1.2≠t.1.2:=h2
    have ht:xn f t=false:=by
     have:tkF f.1.2 t.1.2=false:=by unfold tkF;rw[decide_eq_false h1,decide_eq_false h2];rfl
     unfold xn;rw[this];simp
    rw[ht];refine(Zt∘Zas∘ZbH∘Za∘Zas∘Zas∘ZbH∘Zbe∘Z1∘Zc) ?_;exact yj2 L [.tmp 4]
 ·have e1:=i0 T;have e2:=i1 T;have e3:=i2 T;have ht:xn f t=(!f.2.2 || decide (f.2.1=t.2)):=by unfold xn;rw[e1,e2,e3];rfl
  rw[ht];cases hx:f.2.2
  ·refine(Ze∘Zv∘Zak∘Zy∘Zo) ?_;rw[hx];refine(Zm∘Zau∘Za4∘Zc) ?_;exact yj2 L [.tmp 4]
  ·have hq:=eq3 (g:=f.2.1) (h:=t.2) rfl;refine(Ze∘Zv∘Zak∘Zy∘Zo) ?_;rw[hx];refine(Zm∘Za∘Zbn∘Zbn) ?_;refine z7 (C7 Z Z Z Z zm2 M Z) Z ((Zi∘Zc) ?_);exact yj2 L [.tmp 4]
 ·omega
def Af{x:ByteArray}(h:x=⟨#[]⟩):ln x=false:=by unfold ln;rw[decide_eq_true h];rfl
def Fe{x:ByteArray}(h:chk x=0):ln x=false:=by unfold ln;rw[decide_eq_true h];simp
def Ae{x:ByteArray}(h:¬ x=⟨#[]⟩)(h2:¬ chk x=0):ln x=true:=by unfold ln;rw[decide_eq_false h,decide_eq_false h2];rfl
def ue(hz:FM f){r:Int}(hr:fE f=r)(hB:zs4 B w):Ret zs5 75 [fv f] w B (fun v _=>v=.int .i64 r):=by
 subst hr;obtain⟨f1,s1,ex⟩:=f;obtain⟨⟨z1,z2,z3⟩,z4,z5,z6⟩:=hz;dsimp only at z1 z2 z3 z4 z5 z6;refine yr Tryz.func75 Z Tryz.ntmps75 (np Z) hB ?_;by_cases hx:ex=false/\¬ s1=n3
 ·obtain⟨rfl,hx2⟩:=hx;have hq:=eq3 (ng hx2);have he:fE (f1,s1,false)=5:=na ⟨rfl,hx2⟩;rw[he];refine(ZD∘ZH∘Zo∘Zm∘Za∘Zbn∘Zea∘Zfr∘Zbe∘Zv∘Zc) ?_;exact yj2 L [.tmp 2]
 ·have he:fE (f1,s1,ex)=if (ln f1.1.1 || ln f1.1.2 || ln f1.2)=true then 6 else if ex=true then bu s1.1.1 s1.1.2 s1.2 else 0:=nc hx
  rw[he];cases ex
  ·have hs:s1=n3:=Classical.not_not.1 fun h=>hx ⟨rfl,h⟩;have hq:=eq3 (nf hs);refine(ZD∘ZH∘Zo∘Zm∘Za∘Zbn∘Zea∘Zfr∘Zi∘ZV∘Z6∘Zb0∘Zc1) ?_;refine z71 L Z (fun u H hH _=>bo hH) ?_;refine ZaR (h:=?_)
   refine xp (fun k:Nat=>[(1,.sat (At [.string f1.1.1,.string f1.1.2,.string f1.2,.string s1.1.1,.string s1.1.2,.string s1.2,.bool false] tyF 0)),(16,.is (.agg #[.string f1.1.1,.string ⟨#[]⟩,.string f1.1.2,.string ⟨#[]⟩,.string f1.2,.string ⟨#[]⟩])),(17,.is (.int .i64 k))])
    (fun k=>k<=3/\(0<k->ln f1.1.1=false)/\(1<k->ln f1.1.2=false)/\(2<k->ln f1.2=false)) (fun k=>3-k) 0 ⟨mb _,fun h=>T,fun h=>T,fun h=>T⟩ ⟨rfl,rfl,rfl,nm⟩ ?_
   rintro k ⟨hk,i0,i1,i2⟩;rcases k with _ | _ | _ | _ | k
   ·refine(ZbU∘Z1) ?_;refine z7 (jf (ys:=[_,_]) L _ Z Z Z Z Ah Z Z (by first | omega | decide) Z) Z ?_;refine ZY (h:=?_);refine ug 4 rfl fun b4 hb4=>?_;by_cases h1:f1.1.1=⟨#[]⟩
    ·have h1':¬ f1.1.1≠⟨#[]⟩:=fun h=>h h1;have ht:=Af h1;refine(ZbO∘ZcZ∘Zau∘Zcw) ?_;refine j7 (O':=[]) (zox _) ?_;refine(Zu∘ZB) ?_;exact yo (x:=0) 1 ⟨by omega,fun _=>ht,fun h=>T,fun h=>T⟩ E ⟨Z,Z,Z,nm⟩
    ·have h1':f1.1.1≠⟨#[]⟩:=h1;by_cases h2:chk f1.1.1=0
     ·have ht:=Fe h2;refine(ZbO∘ZbH∘Za∘Zas∘ZdA∘Zbf∘Zcw) ?_;refine j7 (O':=[]) (zox _) ?_;refine(Zu∘ZB) ?_;exact yo (x:=0) 1 ⟨by omega,fun _=>ht,fun h=>T,fun h=>T⟩ E ⟨Z,Z,Z,nm⟩
     ·have ht:(ln f1.1.1 || ln f1.1.2 || ln f1.2)=true:=by rw[Ae h1 h2];simp
      rw[na ht];refine(ZbO∘ZbH∘Za∘Zas∘ZdA∘Zde∘Zbe∘Zy∘Zc) ?_;exact yj2 L [.tmp 2]
   ·refine(ZbU∘Z1) ?_;refine z7 (jf (ys:=[_,_]) L _ Z Z Z Z Ah Z Z (by first | omega | decide) Z) Z ?_;refine ZY (h:=?_);refine ug 4 rfl fun b4 hb4=>?_;by_cases h1:f1.1.2=⟨#[]⟩
    ·have h1':¬ f1.1.2≠⟨#[]⟩:=fun h=>h h1;have ht:=Af h1;refine(ZbO∘ZcZ∘Zau∘Zcw) ?_;refine j7 (O':=[]) (zox _) ?_;refine(Zu∘ZB) ?_;exact yo (x:=1) 2 ⟨by omega,fun _=>i0 T,fun _=>ht,fun h=>T⟩ E ⟨Z,Z,Z,nm⟩
    ·have h1':f1.1.2≠⟨#[]⟩:=h1;by_cases h2:chk f1.1.2=0
     ·have ht:=Fe h2;refine(ZbO∘ZbH∘Za∘Zas∘ZdA∘Zbf∘Zcw) ?_;refine j7 (O':=[]) (zox _) ?_;refine(Zu∘ZB) ?_;exact yo (x:=1) 2 ⟨by omega,fun _=>i0 T,fun _=>ht,fun h=>T⟩ E ⟨Z,Z,Z,nm⟩
     ·have ht:(ln f1.1.1 || ln f1.1.2 || ln f1.2)=true:=by rw[Ae h1 h2];simp
      rw[na ht];refine(ZbO∘ZbH∘Za∘Zas∘ZdA∘Zde∘Zbe∘Zy∘Zc) ?_;exact yj2 L [.tmp 2]
   ·refine(ZbU∘Z1) ?_;refine z7 (jf (ys:=[_,_]) L _ Z Z Z Z Ah Z Z (by first | omega | decide) Z) Z ?_;refine ZY (h:=?_);refine ug 4 rfl fun b4 hb4=>?_;by_cases h1:f1.2=⟨#[]⟩
    ·have h1':¬ f1.2≠⟨#[]⟩:=fun h=>h h1;have ht:=Af h1;refine(ZbO∘ZcZ∘Zau∘Zcw) ?_;refine j7 (O':=[]) (zox _) ?_;refine(Zu∘ZB) ?_;exact yo (x:=2) 3 ⟨by omega,fun _=>i0 T,fun _=>i1 T,fun _=>ht⟩ E ⟨Z,Z,Z,nm⟩
    ·have h1':f1.2≠⟨#[]⟩:=h1;by_cases h2:chk f1.2=0
     ·have ht:=Fe h2;refine(ZbO∘ZbH∘Za∘Zas∘ZdA∘Zbf∘Zcw) ?_;refine j7 (O':=[]) (zox _) ?_;refine(Zu∘ZB) ?_;exact yo (x:=2) 3 ⟨by omega,fun _=>i0 T,fun _=>i1 T,fun _=>ht⟩ E ⟨Z,Z,Z,nm⟩
     ·have ht:(ln f1.1.1 || ln f1.1.2 || ln f1.2)=true:=by rw[Ae h1 h2];simp
      rw[na ht];refine(ZbO∘ZbH∘Za∘Zas∘ZdA∘Zde∘Zbe∘Zy∘Zc) ?_;exact yj2 L [.tmp 2]
   ·have ht:¬ (ln f1.1.1 || ln f1.1.2 || ln f1.2)=true:=by rw[i0 T,i1 T,i2 T];decide
    rw[nc ht,nc E];refine(ZcV∘Zak∘Ze∘Z2∘Zo∘Zx∘ZG∘Zc) ?_;exact yj2 L [.tmp 2]
   ·omega
  ·refine(ZD∘ZH∘Zo∘Zm∘Zau∘Zi∘ZV∘Z6∘Zb0∘Zc1) ?_;refine z71 L Z (fun u H hH _=>bo hH) ?_;refine ZaR (h:=?_)
   refine xp (fun k:Nat=>[(1,.sat (At [.string f1.1.1,.string f1.1.2,.string f1.2,.string s1.1.1,.string s1.1.2,.string s1.2,.bool true] tyF 0)),(16,.is (.agg #[.string f1.1.1,.string ⟨#[]⟩,.string f1.1.2,.string ⟨#[]⟩,.string f1.2,.string ⟨#[]⟩])),(17,.is (.int .i64 k))])
    (fun k=>k<=3/\(0<k->ln f1.1.1=false)/\(1<k->ln f1.1.2=false)/\(2<k->ln f1.2=false)) (fun k=>3-k) 0 ⟨mb _,fun h=>T,fun h=>T,fun h=>T⟩ ⟨rfl,rfl,rfl,nm⟩ ?_
   rintro k ⟨hk,i0,i1,i2⟩;rcases k with _ | _ | _ | _ | k
   ·refine(ZbU∘Z1) ?_;refine z7 (jf (ys:=[_,_]) L _ Z Z Z Z Ah Z Z (by first | omega | decide) Z) Z ?_;refine ZY (h:=?_);refine ug 4 rfl fun b4 hb4=>?_;by_cases h1:f1.1.1=⟨#[]⟩
    ·have h1':¬ f1.1.1≠⟨#[]⟩:=fun h=>h h1;have ht:=Af h1;refine(ZbO∘ZcZ∘Zau∘Zcw) ?_;refine j7 (O':=[]) (zox _) ?_;refine(Zu∘ZB) ?_;exact yo (x:=0) 1 ⟨by omega,fun _=>ht,fun h=>T,fun h=>T⟩ E ⟨Z,Z,Z,nm⟩
    ·have h1':f1.1.1≠⟨#[]⟩:=h1;by_cases h2:chk f1.1.1=0
     ·have ht:=Fe h2;refine(ZbO∘ZbH∘Za∘Zas∘ZdA∘Zbf∘Zcw) ?_;refine j7 (O':=[]) (zox _) ?_;refine(Zu∘ZB) ?_;exact yo (x:=0) 1 ⟨by omega,fun _=>ht,fun h=>T,fun h=>T⟩ E ⟨Z,Z,Z,nm⟩
     ·have ht:(ln f1.1.1 || ln f1.1.2 || ln f1.2)=true:=by rw[Ae h1 h2];simp
      rw[na ht];refine(ZbO∘ZbH∘Za∘Zas∘ZdA∘Zde∘Zbe∘Zy∘Zc) ?_;exact yj2 L [.tmp 2]
   ·refine(ZbU∘Z1) ?_;refine z7 (jf (ys:=[_,_]) L _ Z Z Z Z Ah Z Z (by first | omega | decide) Z) Z ?_;refine ZY (h:=?_);refine ug 4 rfl fun b4 hb4=>?_;by_cases h1:f1.1.2=⟨#[]⟩
    ·have h1':¬ f1.1.2≠⟨#[]⟩:=fun h=>h h1;have ht:=Af h1;refine(ZbO∘ZcZ∘Zau∘Zcw) ?_;refine j7 (O':=[]) (zox _) ?_;refine(Zu∘ZB) ?_;exact yo (x:=1) 2 ⟨by omega,fun _=>i0 T,fun _=>ht,fun h=>T⟩ E ⟨Z,Z,Z,nm⟩
    ·have h1':f1.1.2≠⟨#[]⟩:=h1;by_cases h2:chk f1.1.2=0
     ·have ht:=Fe h2;refine(ZbO∘ZbH∘Za∘Zas∘ZdA∘Zbf∘Zcw) ?_;refine j7 (O':=[]) (zox _) ?_;refine(Zu∘ZB) ?_;exact yo (x:=1) 2 ⟨by omega,fun _=>i0 T,fun _=>ht,fun h=>T⟩ E ⟨Z,Z,Z,nm⟩
     ·have ht:(ln f1.1.1 || ln f1.1.2 || ln f1.2)=true:=by rw[Ae h1 h2];simp
      rw[na ht];refine(ZbO∘ZbH∘Za∘Zas∘ZdA∘Zde∘Zbe∘Zy∘Zc) ?_;exact yj2 L [.tmp 2]
   ·refine(ZbU∘Z1) ?_;refine z7 (jf (ys:=[_,_]) L _ Z Z Z Z Ah Z Z (by first | omega | decide) Z) Z ?_;refine ZY (h:=?_);refine ug 4 rfl fun b4 hb4=>?_;by_cases h1:f1.2=⟨#[]⟩
    ·have h1':¬ f1.2≠⟨#[]⟩:=fun h=>h h1;have ht:=Af h1;refine(ZbO∘ZcZ∘Zau∘Zcw) ?_;refine j7 (O':=[]) (zox _) ?_;refine(Zu∘ZB) ?_;exact yo (x:=2) 3 ⟨by omega,fun _=>i0 T,fun _=>i1 T,fun _=>ht⟩ E ⟨Z,Z,Z,nm⟩
    ·have h1':f1.2≠⟨#[]⟩:=h1;by_cases h2:chk f1.2=0
     ·have ht:=Fe h2;refine(ZbO∘ZbH∘Za∘Zas∘ZdA∘Zbf∘Zcw) ?_;refine j7 (O':=[]) (zox _) ?_;refine(Zu∘ZB) ?_;exact yo (x:=2) 3 ⟨by omega,fun _=>i0 T,fun _=>i1 T,fun _=>ht⟩ E ⟨Z,Z,Z,nm⟩
     ·have ht:(ln f1.1.1 || ln f1.1.2 || ln f1.2)=true:=by rw[Ae h1 h2];simp
      rw[na ht];refine(ZbO∘ZbH∘Za∘Zas∘ZdA∘Zde∘Zbe∘Zy∘Zc) ?_;exact yj2 L [.tmp 2]
   ·have ht:¬ (ln f1.1.1 || ln f1.1.2 || ln f1.2)=true:=by rw[i0 T,i1 T,i2 T];decide
    rw[nc ht,na rfl];refine(ZcV∘Zak∘Ze∘Z2∘Zo∘Zn∘Z4∘Zbn) ?_;refine z71 L Z (fun u H hH _=>Cb T T T hH) ?_;refine Zc (h:=?_);exact yj2 L [.tmp 2]
   ·omega
def En{r:Nat}(hr:jl f=r)(hB:zs4 B w):Ret zs5 76 [fv f] w B (fun v _=>v=.int .i64 r):=by
 subst hr;refine yr Tryz.func76 Z Tryz.ntmps76 (np Z) hB ((Zcy∘Zk∘Zv∘Zb0∘Zc1) ?_);refine z71 L Z (fun u H hH _=>bo hH) ?_;refine ZaR (h:=?_)
 refine xp (fun k:Nat=>[(1,.sat (At (fcs f) tyF 0)),(3,.is (.int .i64 k)),(8,.is (.agg #[.string f.1.1.1,.string ⟨#[]⟩,.string f.1.1.2,.string ⟨#[]⟩,.string f.1.2,.string ⟨#[]⟩])),(9,.is (.int .i64 k))])
  (fun k=>k<=3/\(0<k->¬ f.1.1.1=⟨#[]⟩)/\(1<k->¬ f.1.1.2=⟨#[]⟩)/\(2<k->¬ f.1.2=⟨#[]⟩)) (fun k=>3-k) 0 ⟨mb _,fun h=>T,fun h=>T,fun h=>T⟩ ⟨rfl,rfl,rfl,rfl,nm⟩ ?_
 rintro k ⟨hk,i0,i1,i2⟩;rcases k with _ | _ | _ | _ | k
 ·refine(Zcm∘Zt) ?_;refine z7 (jf (ys:=[_,_]) L _ Z Z Z Z Ah Z Z (by first | omega | decide) Z) Z ?_;refine Zbj (h:=?_);refine ug 5 rfl fun b5 hb5=>?_;by_cases h1:f.1.1.1=⟨#[]⟩
  ·have hp:jl f=0:=by unfold jl;rw[if_pos h1]
   rw[hp];refine(Z1∘Zas∘Zfg∘Zn∘ZL∘Zc) ?_;exact yj2 L [.tmp 2]
  ·refine(Z1∘Zas∘Zff∘Zac∘Zbr∘Z7∘ZaT∘Zb8) ?_;refine j7 (O':=[]) (zox _) ?_;refine(Zu∘ZB) ?_;exact yo (x:=0) 1 ⟨by omega,fun _=>h1,fun h=>T,fun h=>T⟩ E ⟨Z,Z,Z,Z,nm⟩
 ·refine(Zcm∘Zt) ?_;refine z7 (jf (ys:=[_,_]) L _ Z Z Z Z Ah Z Z (by first | omega | decide) Z) Z ?_;refine Zbj (h:=?_);refine ug 5 rfl fun b5 hb5=>?_;by_cases h1:f.1.1.2=⟨#[]⟩
  ·have hp:jl f=1:=by unfold jl;rw[if_neg (i0 T)];rw[if_pos h1]
   rw[hp];refine(Z1∘Zas∘Zfg∘Zn∘ZL∘Zc) ?_;exact yj2 L [.tmp 2]
  ·refine(Z1∘Zas∘Zff∘Zac∘Zbr∘Z7∘ZaT∘Zb8) ?_;refine j7 (O':=[]) (zox _) ?_;refine(Zu∘ZB) ?_;exact yo (x:=1) 2 ⟨by omega,fun _=>i0 T,fun _=>h1,fun h=>T⟩ E ⟨Z,Z,Z,Z,nm⟩
 ·refine(Zcm∘Zt) ?_;refine z7 (jf (ys:=[_,_]) L _ Z Z Z Z Ah Z Z (by first | omega | decide) Z) Z ?_;refine Zbj (h:=?_);refine ug 5 rfl fun b5 hb5=>?_;by_cases h1:f.1.2=⟨#[]⟩
  ·have hp:jl f=2:=by unfold jl;rw[if_neg (i0 T)];rw[if_neg (i1 T)];rw[if_pos h1]
   rw[hp];refine(Z1∘Zas∘Zfg∘Zn∘ZL∘Zc) ?_;exact yj2 L [.tmp 2]
  ·refine(Z1∘Zas∘Zff∘Zac∘Zbr∘Z7∘ZaT∘Zb8) ?_;refine j7 (O':=[]) (zox _) ?_;refine(Zu∘ZB) ?_;exact yo (x:=2) 3 ⟨by omega,fun _=>i0 T,fun _=>i1 T,fun _=>h1⟩ E ⟨Z,Z,Z,Z,nm⟩
 ·cases hxx:f.2.2
  ·have hp:jl f=3:=by unfold jl;rw[if_neg (i0 T),if_neg (i1 T),if_neg (i2 T),hxx];rfl
   rw[hp];refine(Zdu∘Zak∘Ze∘Z2∘Zo) ?_;rw[hxx];refine(Zx∘ZG∘Za∘Zc) ?_;exact yj2 L [.tmp 2]
  ·have hp:jl f=4:=by unfold jl;rw[if_neg (i0 T),if_neg (i1 T),if_neg (i2 T),hxx];rfl
   rw[hp];refine(Zdu∘Zak∘Ze∘Z2∘Zo) ?_;rw[hxx];refine(Z3∘Z4∘Za∘Zay∘Zd∘ZG∘Za∘Zc) ?_;exact yj2 L [.tmp 2]
 ·omega
end Go.V.L3
section
open Go.V
attribute [local irreducible] Has N Par Ret RetL RetO RetT Src StepOK V VO X
namespace Go.V.L3
open Go.V.L2
def _root_.Zdj(t:Wr Y->A:=by intro h;refine z7 (qw L _ Z Z Z Z T) Z ?_;exact h.1)(h:Y):A:=t ⟨h⟩
def _root_.ZeV(t:Wr Y->A:=by intro h;refine ye (ky L (q:=900) (vs:=[_,_]) Z Z Z Z ⟨_,rfl⟩) ?_;exact h.1)(h:Y):A:=t ⟨h⟩
def _root_.ZfJ(t:Wr Y->A:=by intro h;refine Zb (h:=?_);refine z7 (zg6 Z Z Z Z M) Z ?_;exact h.1)(h:Y):A:=t ⟨h⟩
def zfe:∀ (l m:List UInt8),Op.bytesLess l m=decide (Lib.compareBytes l m<0)
 | [],[]=>by simp [Op.bytesLess,Lib.compareBytes]
 | [],_::_=>by simp [Op.bytesLess,Lib.compareBytes]
 | _::_,[]=>by simp [Op.bytesLess,Lib.compareBytes]
 | a::l,b::m=>by
  have ih:=zfe l m;simp only[Op.bytesLess,Lib.compareBytes,ih];by_cases h1:a<b
  ·simp [h1]
  ·by_cases h2:b<a
   ·have:a≠b:=fun e=>by subst e;exact h1 h2
    simp [h1,h2,this]
   ·have:a=b:=by
     apply UInt8.toNat_inj.1;have:=mt zrd.2 h1;have:=mt zrd.2 h2;omega
    simp [this]
def zah(a b:ByteArray):O3 a b=decide (vm a b<0):=zfe _ _
def E7(a b:ByteArray):vm a b= -1\/vm a b=0\/vm a b=1:=by
 unfold vm;generalize a.data.toList=l;generalize b.data.toList=m
 induction l generalizing m with
 | nil=>cases m<;>simp [Lib.compareBytes]
 | cons x l ih=>
  cases m with
  | nil=>simp [Lib.compareBytes]
  | cons y m=>
   simp only[Lib.compareBytes];split
   ·simp
   ·split
    ·simp
    ·exact ih m
def zg0(h:1<=jl f)(h0:¬ vm t.1.1.1 f.1.1.1=0):lg f t=vm t.1.1.1 f.1.1.1:=by
 unfold lg zaz t7 upN Bg;simp only[A0];rw[na h,na h];simp [h0]
def zgz(h:2<=jl f)(h0:vm t.1.1.1 f.1.1.1=0)(h1:¬ vm t.1.1.2 f.1.1.2=0):lg f t=vm t.1.1.2 f.1.1.2:=by
 have a1:1<=jl f:=T;unfold lg zaz t7 upN Bg;simp only[A0,na h,na a1];simp [h0,h1]
def zgy(h:3<=jl f)(h0:vm t.1.1.1 f.1.1.1=0)(h1:vm t.1.1.2 f.1.1.2=0)(h2:¬ vm t.1.2 f.1.2=0):lg f t=vm t.1.2 f.1.2:=by
 have a1:1<=jl f:=T;have a2:2<=jl f:=T;unfold lg zaz t7 upN Bg;simp only[A0,na h,na a1,na a2];simp [h0,h1,h2]
def zms(h:4<=jl f)(h0:vm t.1.1.1 f.1.1.1=0)(h1:vm t.1.1.2 f.1.1.2=0)(h2:vm t.1.2 f.1.2=0):lg f t=Mv t.2 f.2.1:=by
 have a1:1<=jl f:=T;have a2:2<=jl f:=T;have a3:3<=jl f:=T;unfold lg zaz t7 upN Bg;simp only[A0,na h,na a1,na a2,na a3];simp [h0,h1,h2]
def zmt(h:jl f<4)(h0:1<=jl f->vm t.1.1.1 f.1.1.1=0)(h1:2<=jl f->vm t.1.1.2 f.1.1.2=0)(h2:3<=jl f->vm t.1.2 f.1.2=0):lg f t=0:=by
 have a4:¬ 4<=jl f:=T;unfold lg zaz t7 upN Bg;simp only[A0,nc a4];by_cases a1:1<=jl f<;>by_cases a2:2<=jl f<;>by_cases a3:3<=jl f<;>simp [a1,a2,a3,h0,h1,h2]
abbrev spV(lv:Value)(f:FT):Value:=.agg #[lv,.string f.1.1.1,.string f.1.1.2,.string f.1.2,.string f.2.1.1.1,.string f.2.1.1.2,.string f.2.1.2,.bool f.2.2,.int .i64 (jl f)]
def tu{a:ByteArray}(hB:zs4 B w):Ret zs5 285 [.string a] w B (fun v _=>v=.bool false):=by
 have h:¬ a≠a:=fun h=>h rfl;refine yr Tryz.func285 Z Tryz.ntmps285 (np Z) hB ((ZK∘Zb∘ZcZ∘Zc) ?_);exact yj2 L [.tmp 2]
def ob{a b:ByteArray}(hB:zs4 B w):Ret zs5 260 [.string a,.string b] w B (fun v _=>v=.int .i64 (vm a b)):=by
 have hl:=zah a b;refine yr Tryz.func260 Z Tryz.ntmps260 (np Z) hB ?_;by_cases h1:vm a b<0
 ·rw[nf h1] at hl;have hr:vm a b= -1:=by have:=E7 a b;omega
  rw[hr];refine Zc2 (h:=?_);refine z71 L Z (fun u H hH _=>tu hH) ?_;refine ZaZ (h:=?_);refine z71 L Z (fun u H hH _=>tu hH) ?_;refine(Zk∘Zr∘ZV∘Z7∘ZV∘Z2∘ZfJ∘Zn∘Z4∘Zc) ?_;exact yj2 L [.tmp 4]
 ·rw[ng h1] at hl;by_cases h2:vm a b=0
  ·have e:=cmpB_ord.eq _ _ h2;have hg:(!(O3 a b || decide (a=b)))=false:=by rw[hl,nf e];rfl
   rw[h2];refine Zc2 (h:=?_);refine z71 L Z (fun u H hH _=>tu hH) ?_;refine ZaZ (h:=?_);refine z71 L Z (fun u H hH _=>tu hH) ?_;refine(Zk∘Zr∘ZV∘Z7∘ZV∘Z2∘ZfJ∘ZV∘ZG∘Zb) ?_;refine z7 (Vp Z Z Z Z M) Z ((Zx∘Zae∘Zc) ?_);exact yj2 L [.tmp 4]
  ·have e:¬ a=b:=fun e=>h2 (by subst e;exact cmpB_ord.refl _);have hg:(!(O3 a b || decide (a=b)))=true:=by rw[hl,ng e];rfl
   have hr:vm a b=1:=by have:=E7 a b;omega
   rw[hr];refine Zc2 (h:=?_);refine z71 L Z (fun u H hH _=>tu hH) ?_;refine ZaZ (h:=?_);refine z71 L Z (fun u H hH _=>tu hH) ?_;refine(Zk∘Zr∘ZV∘Z7∘ZV∘Z2∘ZfJ∘ZV∘ZG∘Zb) ?_;refine z7 (Vp Z Z Z Z M) Z ((Zn∘ZJ∘Zc) ?_);exact yj2 L [.tmp 4]
def rp(hi:l[i]?=some t)(hl:l.length<=1000000)(hB:zs4 B w)(hv:US l fu lv B):
  Ret zs5 215 [spV lv f,.int .i64 i] w B (fun v _=>v=.int .i64 (lg f t)):=by
 have hit:=get_lt hi;have hc:=pg hi;obtain⟨p,hp⟩:∃ p,jl f=p:=⟨_,rfl⟩
 have hp4:p<=4:=by rw[<-hp];rcases dq f with h | h | h | h | h<;>omega
 obtain⟨m,hm⟩:∃ m:Nat,min p 3=m:=⟨_,rfl⟩
 have hmm:(if (3:Int)<(p:Int) then 3 else (p:Int))=(m:Int):=by rw[<-hm];split<;>omega
 unfold spV;rw[hp];refine yr Tryz.func215 Z Tryz.ntmps215 (np Z) hB ((Zcy∘Zo) ?_);refine fk 11 (US l fu) Z ns hv ((Zb6∘ZaE∘ZY∘Zv∘Zcx∘Zb0∘Za3) ?_);refine z71 L Z (fun u H hH _=>bo hH) ?_;refine Zbj (h:=?_);refine jd 6 900 rfl fun b=>?_;refine(Z6∘Zo) ?_;refine z7 (P5 Z Z Z Z M) Z (z7 (Sl L (kl:=.i64) (pl:=0) 0 _ Z Z Z Ah Z Z ⟨rfl,rfl⟩ T T T) Z ((Zco∘ZaR) ?_))
 refine xp (fun k:Nat=>[(2,.sat (At [lv,.string f.1.1.1,.string f.1.1.2,.string f.1.2,.string f.2.1.1.1,.string f.2.1.1.2,.string f.2.1.2,.bool f.2.2,.int .i64 p] 256 0)),(5,.own (Cell (ucs t) tyU)),(22,.is (.slice (some ⟨b,0+0*2,none⟩) (m-0) (3-0))),(23,.is (.int .i64 (m-0:Nat))),(24,.is (.int .i64 k)),(900,.own (xu b [.string f.1.1.1,.string t.1.1.1,.string f.1.1.2,.string t.1.1.2,.string f.1.2,.string t.1.2] 216))])
  (fun k=>k<=m/\(0<k->vm t.1.1.1 f.1.1.1=0)/\(1<k->vm t.1.1.2 f.1.1.2=0)/\(2<k->vm t.1.2 f.1.2=0)) (fun k=>m-k) 0 ⟨mb _,fun h=>T,fun h=>T,fun h=>T⟩ ⟨rfl,rfl,rfl,rfl,rfl,rfl,nm⟩ ?_
 rintro k ⟨hk,i0,i1,i2⟩;by_cases hkm:k<m
 ·rcases k with _ | _ | _ | k
  ·refine(ZbU∘Z1∘Zdj∘ZeV∘ZY) ?_;refine ug 8 rfl fun b8 hb8=>?_;by_cases hz:vm t.1.1.1 f.1.1.1=0
   ·refine(ZbO∘Zas) ?_;refine z71 L Z (fun u H hH _=>ob hH) ?_;refine(Zd∘Z7∘Zbf∘Zbl) ?_;refine j7 (O':=[]) (zox _) ?_;refine(Z2∘ZB) ?_;exact yo (x:=0) 1 ⟨hkm,fun _=>hz,fun h=>T,fun h=>T⟩ T ⟨Z,Z,Z,Z,Z,Z,nm⟩
   ·have ho:lg f t=vm t.1.1.1 f.1.1.1:=zg0 T hz;rw[ho];refine(ZbO∘Zas) ?_;refine z71 L Z (fun u H hH _=>ob hH) ?_;refine(Zd∘Z7∘Za0∘ZaI∘Zc) ?_;exact yj2 L [.tmp 4]
  ·refine(ZbU∘Z1∘Zdj∘ZeV∘ZY) ?_;refine ug 8 rfl fun b8 hb8=>?_;by_cases hz:vm t.1.1.2 f.1.1.2=0
   ·refine(ZbO∘Zas) ?_;refine z71 L Z (fun u H hH _=>ob hH) ?_;refine(Zd∘Z7∘Zbf∘Zbl) ?_;refine j7 (O':=[]) (zox _) ?_;refine(Z2∘ZB) ?_;exact yo (x:=1) 2 ⟨hkm,fun _=>i0 T,fun _=>hz,fun h=>T⟩ T ⟨Z,Z,Z,Z,Z,Z,nm⟩
   ·have ho:lg f t=vm t.1.1.2 f.1.1.2:=zgz T (i0 T) hz;rw[ho];refine(ZbO∘Zas) ?_;refine z71 L Z (fun u H hH _=>ob hH) ?_;refine(Zd∘Z7∘Za0∘ZaI∘Zc) ?_;exact yj2 L [.tmp 4]
  ·refine(ZbU∘Z1∘Zdj∘ZeV∘ZY) ?_;refine ug 8 rfl fun b8 hb8=>?_;by_cases hz:vm t.1.2 f.1.2=0
   ·refine(ZbO∘Zas) ?_;refine z71 L Z (fun u H hH _=>ob hH) ?_;refine(Zd∘Z7∘Zbf∘Zbl) ?_;refine j7 (O':=[]) (zox _) ?_;refine(Z2∘ZB) ?_;exact yo (x:=2) 3 ⟨hkm,fun _=>i0 T,fun _=>i1 T,fun _=>hz⟩ T ⟨Z,Z,Z,Z,Z,Z,nm⟩
   ·have ho:lg f t=vm t.1.2 f.1.2:=zgy T (i0 T) (i1 T) hz;rw[ho];refine(ZbO∘Zas) ?_;refine z71 L Z (fun u H hH _=>ob hH) ?_;refine(Zd∘Z7∘Za0∘ZaI∘Zc) ?_;exact yj2 L [.tmp 4]
  ·omega
 ·obtain rfl:k=m:=by omega
  by_cases h4:p<4
  ·have ho:lg f t=0:=zmt T (fun h=>i0 T) (fun h=>i1 T) (fun h=>i2 T);rw[ho];refine(ZcV∘Zak∘Ze∘Z4∘Zo∘ZU∘Zn∘ZG∘Zc) ?_;exact yj2 L [.tmp 4]
  ·have ho:lg f t=Mv t.2 f.2.1:=zms T (i0 T) (i1 T) (i2 T);rw[ho];refine ug 5 rfl fun b5 hb5=>?_;refine(ZcV∘Zak∘Ze∘Z4∘Zo∘Z0∘Zx∘ZJ∘Zai) ?_;refine z7 (zz L (vs:=[_,_,_]) (yd Z (List.Mem.head _)) Z Z Z Z ⟨_,rfl⟩) Z ((Zcx∘Zbn) ?_);refine z71 L Z (fun u H hH _=>cmpU_ret hH) ?_;refine Zc (h:=?_);exact yj2 L [.tmp 4]
def _root_.ZeF(t:Wr Y->A:=by intro h;refine z8 (zz L (vs:=[_,_,_,_,_,_,_]) (qp Z) Z Z Z Z ⟨_,rfl⟩) Z ?_;exact h.1)(h:Y):A:=t ⟨h⟩
def _root_.Zfs(t:Wr Y->A:=by intro h;refine z7 (zz L (vs:=[_,_,_,_,_,_,_,_,_]) (qp Z) Z Z Z Z ⟨_,rfl⟩) Z ?_;exact h.1)(h:Y):A:=t ⟨h⟩
def _root_.Zgc(t:Wr Y->A:=by intro h;refine z8 (zz L (vs:=[_,_,_,_,_,_,_,_,_]) (y7 Z) Z Z Z Z ⟨_,rfl⟩) Z ?_;refine z8 (Cy Z Z Z Z) Z ?_;exact h.1)(h:Y):A:=t ⟨h⟩
def F5(f:FT)(l:List U):Nat×Nat×Int:=if fE f=0 then (if isB l=true then ((vi f l).1,(vi f l).2,0) else (0,0,18)) else (0,0,fE f)
def zis(f:FT)(l:List U):List U×Int:=if fE f=0 then (if isB l=true then (l.filter (xn f),0) else ([],18)) else ([],fE f)
def zbb(h:US l fu v H):∃ p c,v=.slice p l.length c:=by
 obtain⟨_,⟨h0,p,rfl⟩ | ⟨b,off,cap,cs,ty0,fr,rfl,_⟩⟩:=h
 ·exact⟨p,0,by rw[h0]⟩
 ·exact⟨_,_,rfl⟩
def ziz(hb:b<=l.length):((l.flatMap ucs).drop (a*6)).take ((b-a)*6)=((l.drop a).take (b-a)).flatMap ucs:=by
 have h1:∀ (l:List U) (a:Nat),(l.flatMap ucs).drop (a*6)=(l.drop a).flatMap ucs:=by
  intro l
  induction l with
  | nil=>intro a;simp
  | cons x l ih=>
   intro a
   cases a with
   | zero=>simp
   | succ a=>
    rw[zp9,zq0,zpm,zsp,<-ih a,<-zp6];rfl
 have h2:∀ (l:List U) (a:Nat),(l.flatMap ucs).take (a*6)=(l.take a).flatMap ucs:=by
  intro l
  induction l with
  | nil=>intro a;simp
  | cons x l ih=>
   intro a
   cases a with
   | zero=>simp
   | succ a=>rw[zp9,zq0,zpm,zqr,zpm,show 6+a*6=(ucs x).length+a*6 from rfl,List.take_length_add_append,ih a]
 rw[h1,h2]
def zc8(hi:l[i]?=some t)(hl:l.length<=1000000)(hr:decide (0<=lg f t)=r)(hB:zs4 B w)(hv:US l fu lv B):
  Ret zs5 165 [spV lv f,.int .i64 i] w B (fun v _=>v=.bool r):=by
 subst hr;refine yr Tryz.func165 Z Tryz.ntmps165 (np Z) hB ?_;by_cases h:0<=lg f t
 ·rw[nf h];refine(Zcy∘Zfs∘Za) ?_;refine z71 L Z (fun u H hH hle=>rp hi hl hH (hv.le hle)) ?_;refine(Zbz∘Zc) ?_;exact yj2 L [.tmp 4]
 ·rw[ng h];refine(Zcy∘Zfs∘Za) ?_;refine z71 L Z (fun u H hH hle=>rp hi hl hH (hv.le hle)) ?_;refine(Za6∘Zc) ?_;exact yj2 L [.tmp 4]
def Tu(hi:l[i]?=some t)(hl:l.length<=1000000)(hr:decide (0<lg f t)=r)(hB:zs4 B w)(hv:US l fu lv B):
  Ret zs5 166 [spV lv f,.int .i64 i] w B (fun v _=>v=.bool r):=by
 subst hr;refine yr Tryz.func166 Z Tryz.ntmps166 (np Z) hB ?_;by_cases h:0<lg f t
 ·rw[nf h];refine(Zcy∘Zfs∘Za) ?_;refine z71 L Z (fun u H hH hle=>rp hi hl hH (hv.le hle)) ?_;refine(ZP∘Zc) ?_;exact yj2 L [.tmp 4]
 ·rw[ng h];refine(Zcy∘Zfs∘Za) ?_;refine z71 L Z (fun u H hH hle=>rp hi hl hH (hv.le hle)) ?_;refine(ZM∘Zc) ?_;exact yj2 L [.tmp 4]
def Ej{n g:Nat}{fs:List Value}{q:Nat->Bool}{r:Nat}(hn:n<=1000000)(hr:r<=n)(h0:∀ j,j<r->q j=false)(h1:∀ j,r<=j->j<n->q j=true)(hfn:L.fn g=some ())(hB:zs4 B w)
  (hf:∀ (u:World) (H:Heap),zs4 H u->B.Le H->∀ i:Nat,i<n->Ret zs5 g (fs++[.int .i64 i]) u H (fun v _=>v=.bool (q i))):
  Ret zs5 167 [.int .i64 n,.func (.func g) fs.toArray #[]] w B (fun v _=>v=.int .i64 r):=by
 refine yr Tryz.func167 Z Tryz.ntmps167 (np Z) hB ((Zc2∘ZaY∘Zar) ?_)
 refine xp (fun s:Nat×Nat=>[(1,.is (.func (.func g) fs.toArray #[])),(5,.is (.int .i64 s.1)),(6,.is (.int .i64 s.2))])
  (fun s=>s.1<=r/\r<=s.2/\s.2<=n) (fun s=>s.2-s.1) (0,n) ⟨mb _,hr,nu _⟩ ⟨rfl,rfl,rfl,nm⟩ ?_
 rintro⟨i,j⟩ ⟨hir,hrj,hjn⟩;dsimp only at hir hrj hjn |-;by_cases hlt:i<j
 ·obtain⟨h,hh⟩:∃ h,h=(i+j)/2:=⟨_,rfl⟩
  have hsh:((i:Int)+(j:Int)).fdiv (2^min (1:Int).toNat IntKind.u64.bits)=(h:Int):=by
   show((i:Int)+(j:Int)).fdiv 2=(h:Int);rw[zri _ E];omega
  cases hq:q h
  ·have hv:∀ (u:World) (H:Heap),zs4 H u->B.Le H->Ret zs5 g (fs++[.int .i64 h]) u H (fun v _=>v=.bool false):=fun u H a b=>by have:=hf u H a b h T;rwa [hq] at this
   have hhr:h<r:=by
    rcases m5 h r with h2 | h2
    ·exact h2
    ·have:=h1 h h2 T;rw[hq] at this;cases this
   refine(Zf∘Za9∘ZbB∘ZcQ∘ZcE∘Zay) ?_;refine z7 (kr Z Z Z jo.1 jo.2 (wrap_u64 T T)) Z (Zdn (h:=?_));refine z7 (kr Z Z Z jp.1 jp.2 (xb T T)) Z ((Zd∘Zt∘Zb) ?_);refine z7 (Li (cap:=[]) L Z Z (zm Z) Z Z hfn (fun u H hH hle=>hv u H hH hle)) Z ((Zm∘Z3∘ZS∘Zay∘Zag) ?_);exact yo (x:=(i,j)) (h+1,j) ⟨hhr,hrj,hjn⟩ G ⟨Z,Z,Z,nm⟩
  ·have hv:∀ (u:World) (H:Heap),zs4 H u->B.Le H->Ret zs5 g (fs++[.int .i64 h]) u H (fun v _=>v=.bool true):=fun u H a b=>by have:=hf u H a b h T;rwa [hq] at this
   have hhr:r<=h:=by
    rcases m5 h r with h2 | h2
    ·have:=h0 h h2;rw[hq] at this;cases this
    ·exact h2
   refine(Zf∘Za9∘ZbB∘ZcQ∘ZcE∘Zay) ?_;refine z7 (kr Z Z Z jo.1 jo.2 (wrap_u64 T T)) Z (Zdn (h:=?_));refine z7 (kr Z Z Z jp.1 jp.2 (xb T T)) Z ((Zd∘Zt∘Zb) ?_);refine z7 (Li (cap:=[]) L Z Z (zm Z) Z Z hfn (fun u H hH hle=>hv u H hH hle)) Z ((Zm∘ZaJ∘ZL∘Zag) ?_);exact yo (x:=(i,j)) (i,h) ⟨hir,hhr,by dsimp only;omega⟩ G ⟨Z,Z,Z,trivial⟩
 ·obtain rfl:i=r:=by omega
  refine(Zf∘Za9∘Z0∘Za5∘Z7∘Zc) ?_;exact yj2 L [.tmp 4]
def Yx(hB:zs4 B w)(hv:US l fu v B):Ret zs5 80 [v] w B (US l true):=by
 refine yr Tryz.func80 Z Tryz.ntmps80 (np Z) hB (k7 0 (US l fu) Z ns hv ((ZK∘Zh∘Zj∘Zj∘Zec∘ZR∘Zw) ?_));refine yj1 L [.tmp 2] fun u H hH hle=>?_;exact fun v hv=>hv
def zbv(hz:FM f)(hl:l.length<=1000000){r:Nat×Nat×Int}(hr:F5 f l=r)(hB:zs4 B w)(hv:US l fu lv B):
  Ret zs5 91 [lv,fv f] w B (fun v _=>v=.tuple #[.int .i64 r.1,.int .i64 r.2.1,.int .i64 r.2.2]):=by
 subst hr;unfold F5;obtain⟨pl0,cp,rfl⟩:=zbb hv;refine yr Tryz.func91 Z Tryz.ntmps91 (np Z) hB ?_;by_cases hE:fE f=0
 ·rw[na hE];cases h1:isB l
  ·rw[nc E];refine(ZD∘Zs∘Zs∘ZH∘Zb0) ?_;refine z71 L Z (fun u H hH hle=>ue hz hE hH) ?_;refine(ZaZ∘ZbZ∘Z5) ?_;refine z71 L Z (fun u H hH hle=>di hl h1 hH (hv.le hle)) ?_;refine(Zm∘Zn∘Z1∘Zs∘ZI) ?_;exact yj2 L [.tmp 4,.tmp 5,.tmp 6]
  ·rw[na rfl];have hs:Sst kw l:=nj h1;obtain⟨o1,o2⟩:=F4 (f:=f) hs
   have hq1:∀ j,j<(vi f l).1->decide (0<=lg f (l.getD j zem))=false:=fun j hj=>by
    obtain⟨x,hx⟩:=xm (show j<l.length by omega);rw[zrj,hx];have:=(re hs hx).1 hj;exact ng (by show ¬ 0<=lg f x;omega)
   have hq2:∀ j,(vi f l).1<=j->j<l.length->decide (0<=lg f (l.getD j zem))=true:=fun j hj hjl=>by
    obtain⟨x,hx⟩:=xm hjl;rw[zrj,hx];have:=mt (re (f:=f) hs hx).2 T;exact nf (by show 0<=lg f x;omega)
   have hq3:∀ j,j<(vi f l).2->decide (0<lg f (l.getD j zem))=false:=fun j hj=>by
    obtain⟨x,hx⟩:=xm (show j<l.length by omega);rw[zrj,hx];have:=(F3 hs hx).1 hj;exact ng (by show ¬ 0<lg f x;omega)
   have hq4:∀ j,(vi f l).2<=j->j<l.length->decide (0<lg f (l.getD j zem))=true:=fun j hj hjl=>by
    obtain⟨x,hx⟩:=xm hjl;rw[zrj,hx];have:=mt (F3 (f:=f) hs hx).2 T;exact nf (by show 0<lg f x;omega)
   have hf1:∀ (B2:Heap),B.Le B2->∀ (u:World) (H:Heap),zs4 H u->B2.Le H->∀ i:Nat,i<l.length->Ret zs5 165 ([spV (.slice pl0 l.length cp) f]++[.int .i64 i]) u H (fun v _=>v=.bool (decide (0<=lg f (l.getD i zem)))):=fun B2 h2 u H hH hle i hi=>by
    obtain⟨x,hx⟩:=xm hi;rw[zrj,hx];exact zc8 hx hl Z hH (hv.le (h2.trans hle))
   have hf2:∀ (B2:Heap),B.Le B2->∀ (u:World) (H:Heap),zs4 H u->B2.Le H->∀ i:Nat,i<l.length->Ret zs5 166 ([spV (.slice pl0 l.length cp) f]++[.int .i64 i]) u H (fun v _=>v=.bool (decide (0<lg f (l.getD i zem)))):=fun B2 h2 u H hH hle i hi=>by
    obtain⟨x,hx⟩:=xm hi;rw[zrj,hx];exact Tu hx hl Z hH (hv.le (h2.trans hle))
   refine(ZD∘Zs∘Zs∘ZH∘Zb0) ?_;refine z71 L Z (fun u H hH hle=>ue hz hE hH) ?_;refine(ZaZ∘ZbZ∘Z5) ?_;refine z71 L Z (fun u H hH hle=>di hl h1 hH (hv.le hle)) ?_;refine(Zm∘Zx∘ZcG∘Zl∘ZeF∘ZeF) ?_;refine z81 L Z (fun u H hH hle=>En Z hH) ?_;refine z8 (yv (cs:=[_,_,_,_,_,_,_,_,_]) Z Z zmi Z Z) Z (z8 (qu L Z Z Z Z) Z ((ZdN∘ZaV∘ZeE∘Zgc∘Zgc∘ZaK∘Zbc∘ZaI∘Zco∘Za) ?_));refine z7 (qb (r:=.int .i64 (vi f l).1) L Z Z (zm Z) Z Z Z (fun u H hH hle _=>Ej (fs:=[spV (.slice pl0 l.length cp) f]) (q:=fun i=>decide (0<=lg f (l.getD i zem))) hl T hq1 hq2 Z hH (hf1 H hle))) Z ((Za∘Zco∘Za) ?_);refine z7 (qb (r:=.int .i64 (vi f l).2) L Z Z (zm Z) Z Z Z (fun u H hH hle _=>Ej (fs:=[spV (.slice pl0 l.length cp) f]) (q:=fun i=>decide (0<lg f (l.getD i zem))) hl o2 hq3 hq4 Z hH (hf2 H hle))) Z ((Zs∘ZI) ?_);exact yj2 L [.tmp 4,.tmp 5,.tmp 6]
 ·rw[nc hE];refine(ZD∘Zs∘Zs∘ZH∘Zb0) ?_;refine z71 L Z (fun u H hH hle=>ue hz Z hH) ?_;refine(ZaZ∘Za0∘Zr∘Zs∘ZI) ?_;exact yj2 L [.tmp 4,.tmp 5,.tmp 6]
end Go.V.L3
end
namespace Go.V.L3
open Go.V.L2
def _root_.Zc9(t:Wr Y->A:=by exact fun h=>(Zd8∘Zat) h.1)(h:Y):A:=t ⟨h⟩
def LE2.mk{a tv:Value}(h:φ tv H):TupS [φ,fun v _=>v=a] (.tuple #[tv,a]) H:=
 ⟨[tv,a],rfl,rfl,fun i ψ x hi hx=>by
  rcases i with _ | _ | i
  ·simp at hi hx;subst hi hx;exact h
  ·simp at hi hx;subst hi hx;rfl
  ·simp at hi⟩
def LE2.mono{φ:Value->Heap->Prop}{a:Value}(h:Kn.mono (.sat φ)):Kn.mono (.sat (TupS [φ,fun v _=>v=a])):=TupS.mono fun ψ hψ=>by
 rcases ma.1 hψ with rfl | hψ
 ·exact h
 ·rw[m7] at hψ;subst hψ;exact fun _ _ _ h _=>h
def Cd(hz:FM f)(hl:l.length<=1000000)(hr:F5 f l=(a,b,e))(hB:zs4 B w)(hv:US l fu lv B):
  Ret zs5 91 [lv,fv f] w B (fun v _=>v=.tuple #[.int .i64 a,.int .i64 b,.int .i64 e]):=zbv hz hl hr hB hv
attribute [local irreducible] V N X VO Par StepOK Has Ret RetL RetO RetT Src
def Ei{l:List U}(hz:FM f)(hl:l.length<=100000){x:List U}(hr:zis f l=(x,e))(hB:zs4 B w)(hv:US l fu lv B):
  Ret zs5 30 [lv,fv f] w B (TupS [US x true,fun v _=>v=.int .i64 e]):=by
 unfold zis at hr;refine yr Tryz.func30 Z Tryz.ntmps30 (np Z) hB (k7 0 (US l fu) Z ns hv ?_);by_cases hE:fE f=0
 ·rw[na hE] at hr;cases h1:isB l
  ·rw[h1,nc E] at hr;have hx:x=[]:=(nh Prod.fst hr).symm;have he:e=18:=(nh Prod.snd hr).symm;subst hx he;have hs:F5 f l=(0,0,18):=by unfold F5;rw[if_pos hE,h1,if_neg E]
   refine(ZD∘Zs∘ZaW∘Zh∘Zb0) ?_;refine z7 (qb L Z Z (zm Z) Z Z Z (fun u H hH _ _ v1 h1=>Cd hz T hs hH h1)) Z ((ZA∘Zb9∘Zcn∘Zz∘Za0∘Zr∘ZI) ?_);refine yj1 L [.tmp 4,.tmp 5] fun u H hH hle=>?_;exact LE2.mk SlV.nil
  ·rw[h1,na rfl] at hr;have hx:l.filter (xn f)=x:=nh Prod.fst hr;have he:e=0:=(nh Prod.snd hr).symm;subst he;have hso:Sst kw l:=nj h1;obtain⟨o1,o2⟩:=F4 (f:=f) hso;have hfl:=Nc (f:=f) hso;obtain⟨a,ha⟩:∃ a,(vi f l).1=a:=⟨_,rfl⟩
   obtain⟨b,hb⟩:∃ b,(vi f l).2=b:=⟨_,rfl⟩
   have hs:F5 f l=(a,b,0):=by unfold F5;rw[if_pos hE,h1,if_pos rfl,ha,hb]
   rw[ha,hb] at o1 hfl;rw[hb] at o2;rw[hx] at hfl;have hcut:=ziz (l:=l) (a:=a) (b:=b) o2;have hlen:((l.drop a).take (b-a)).length=b-a:=by rw[mi,m8];omega
   generalize (l.drop a).take (b-a)=s at *;refine(ZD∘Zs∘ZaW∘Zh∘Zb0) ?_;refine z7 (qb L Z Z (zm Z) Z Z Z (fun u H hH _ _ v1 h1=>Cd hz T hs hH h1)) Z ((ZA∘Zb9∘Zcn∘Zz∘Zb4∘Zt∘Zk) ?_);refine ul 9 tyU 6 rfl ((Z1∘Zh∘Zb) ?_);refine z7 (jt L (km:=.i64) (pm:=0) _ _ false Z Z Z Z Z ⟨rfl,rfl⟩ ⟨rfl,rfl⟩ (fun h=>by cases h) T T M) Z ?_;refine(Zdd∘ZaR) ?_;refine Hq 25 (US s false) Z SlV.mono (fun v H h=>by unfold US;rw[hlen];exact h) ?_
   refine xp (fun y:Nat×List U=>[(3,.sat (At (fcs f) tyF 0)),(9,.own (SlR tyU 6 y.2.length (y.2.flatMap ucs))),(25,.sat (US s false)),(26,.is (.int .i64 (b-a:Nat))),(27,.is (.int .i64 y.1))])
    (fun y=>y.1<=s.length/\y.2=(s.take y.1).filter (xn f)) (fun y=>s.length-y.1) (0,[]) ⟨mb _,rfl⟩ ⟨rfl,rfl,rfl,rfl,rfl,nm⟩ ?_
   rintro⟨k,out⟩ ⟨hk,hout⟩;dsimp only at hk hout |-;have hol:out.length<=k:=by rw[hout];exact mp (zpp ..) (by rw[mi];omega)
   by_cases hlt:k<s.length
   ·obtain⟨t,ht⟩:=xm hlt;have hc:=pg ht;have htk:s.take (k+1)=s.take k++[t]:=ei ht;cases htt:xn f t
    ·have ho:out=(s.take (k+1)).filter (xn f):=by rw[htk,zpc,<-hout];simp [htt]
     refine(Zc9∘Zy∘Zaz∘ZaE∘ZY∘Zu∘Zb0∘Za3) ?_;refine z71 L Z (fun u H hH _=>vw htt hH) ?_;refine(Zbl∘Z4∘ZB) ?_;exact yo (x:=(k,out)) (k+1,out) ⟨hlt,ho⟩ G ⟨Z,Z,Z,Z,Z,nm⟩
    ·have ho:out++[t]=(s.take (k+1)).filter (xn f):=by rw[htk,zpc,<-hout];simp [htt]
     refine(Zc9∘Zy∘Zaz∘ZaE∘ZY∘Zu∘Zb0∘Za3) ?_;refine z71 L Z (fun u H hH _=>vw htt hH) ?_;refine(Z3∘Z2) ?_;refine qg (yu (.inl Z) Z) ((Za3∘Zc5) ?_);refine qg (yu (.inr Z) Z) ((ZaA∘Z4∘ZB) ?_);exact yo (x:=(k,out)) (k+1,out++[t]) ⟨hlt,ho⟩ G ⟨Z,v7 Z,Z,Z,Z,nm⟩
   ·obtain rfl:k=s.length:=by omega
    rw[zoy,hfl] at hout;subst hout;refine gt 9 rfl ((Zd8∘Zak∘ZG∘Zh) ?_);refine z7 (xg (φ:=US out true) L Z Z (zm Z) Z Z Z ns (fun u H hH _ _ v1 h1=>Yx hH h1)) Z ((ZR∘Zc) ?_);refine yj1 L [.tmp 4,.tmp 5] fun u H hH hle=>?_;exact fun v hv=>LE2.mk hv
 ·rw[nc hE] at hr;have hx:x=[]:=(nh Prod.fst hr).symm;have he:e=fE f:=(nh Prod.snd hr).symm;subst hx;have hs:F5 f l=(0,0,e):=by unfold F5;rw[if_neg hE,he]
  have he0:e≠0:=by rw[he];exact hE
  refine(ZD∘Zs∘ZaW∘Zh∘Zb0) ?_;refine z7 (qb L Z Z (zm Z) Z Z Z (fun u H hH _ _ v1 h1=>Cd hz T hs hH h1)) Z ((ZA∘Zb9∘Zcn∘Zz∘Za0∘Zr∘ZI) ?_);refine yj1 L [.tmp 4,.tmp 5] fun u H hH hle=>?_;exact LE2.mk SlV.nil
end Go.V.L3
namespace Go.V.L6
open Go.V.L2 Go.V.L3
def _root_.Zb7(t:Wr Y->A:=by intro h;refine z7 (qq L Z Z M Z) Z ?_;exact h.1)(h:Y):A:=t ⟨h⟩
def _root_.ZdS(t:Wr Y->A:=by intro h;refine z8 (zz L (vs:=[_,_,_,_]) (qp Z) Z Z Z Z ⟨_,rfl⟩) Z ?_;exact h.1)(h:Y):A:=t ⟨h⟩
def _root_.ZdB(t:Wr Y->A:=by intro h;refine z7 (yv (cs:=[_,_,_,_]) Z Z zmg Z Z) Z ?_;exact h.1)(h:Y):A:=t ⟨h⟩
def _root_.Zee(t:Wr Y->A:=by intro h;refine z7 (zz L (vs:=[_,_,_,_]) (qp Z) Z Z Z Z ⟨_,rfl⟩) Z ?_;exact h.1)(h:Y):A:=t ⟨h⟩
def _root_.Zft(t:Wr Y->A:=by intro h;refine z8 (V4 Z Z Z Z bt4 Z) Z ?_;exact h.1)(h:Y):A:=t ⟨h⟩
def SetV(l:List U):Value->Heap->Prop:=fun v H=>∃ p q t u,TS l t u/\UT.TA t (.pointer p) H/\UT.TA u (.pointer q) H/\
 (v=.agg #[fvC,.pointer p,fvS,.pointer q]\/(l=[]/\p=none/\q=none/\v=.agg #[.nilFunc,.pointer p,.nilFunc,.pointer q]))
def SetV.mono:Kn.mono (.sat (SetV l)):=fun _ _ _ ⟨p,q,t,u,h1,h2,h3,h4⟩ hle=>⟨p,q,t,u,h1,h2.le hle,h3.le hle,h4⟩
def SetV.le{H':Heap}(h:SetV l v H)(hle:H.Le H'):SetV l v H':=SetV.mono _ _ _ h hle
def SetV.shape(h:SetV l v H):∃ f p k q,v=.agg #[f,.pointer p,k,.pointer q]/\(ji (.agg #[f,.pointer p,k,.pointer q])).all gj=true:=by
 obtain⟨p,q,_,_,_,_,_,h | ⟨_,_,_,h⟩⟩:=h
 ·exact⟨_,_,_,_,h,rfl⟩
 ·exact⟨_,_,_,_,h,rfl⟩
abbrev nilSet:Value:=.agg #[.nilFunc,.pointer none,.nilFunc,.pointer none]
def SetV.nil{H:Heap}:SetV [] nilSet H:=⟨none,none,.nil,.nil,zjf,rfl,rfl,.inr ⟨rfl,rfl,rfl,rfl⟩⟩
attribute [local irreducible] V N X VO Par StepOK Has Ret RetL RetO Src
def lq(hn:l.length=n){v:Value}(hB:zs4 B w)(hv:SetV l v B):Ret zs5 10 [v] w B (fun v _=>v=.int .i64 n):=by
 subst hn;obtain⟨p,q,t,u,hT,ht,hu,rfl | ⟨rfl,rfl,rfl,rfl⟩⟩:=hv
 ·refine yr Tryz.func10 Z Tryz.ntmps10 (np Z) hB ((Zcy∘Zcx∘Zba) ?_);refine z71 L Z (fun u H hH hle=>UT.len_m hH (⟨_,rfl,ht.le hle⟩) hT.size) ?_;refine Zc (h:=?_);exact yj2 L [.tmp 2]
 ·refine yr Tryz.func10 Z Tryz.ntmps10 (np Z) hB ((Zcy∘Zcx∘Zba) ?_);refine z71 L Z (fun u H hH hle=>UT.len_m hH (⟨_,rfl,ht.le hle⟩) hT.size) ?_;refine Zc (h:=?_);exact yj2 L [.tmp 2]
def jr{x:U}{b:Bool}(hb:decide (x∈l)=b){v:Value}(hB:zs4 B w)(hv:SetV l v B):Ret zs5 19 [v,uv x] w B (fun v _=>v=.bool b):=by
 have hv0:=hv;obtain⟨p,q,t,u,hT,ht,hu,rfl | ⟨rfl,rfl,rfl,rfl⟩⟩:=hv
 ·have hg:=hT.get x;refine yr Tryz.func19 Z Tryz.ntmps19 (np Z) hB ?_;by_cases h0:l.length=0
  ·have hn:l=[]:=zow h0;subst hn;have hb':b=false:=by rw[<-hb];simp
   subst hb';refine(Zal∘ZH∘Zee) ?_;refine z71 L Z (fun u H hH hle=>lq Z hH (hv0.le hle)) ?_;refine(ZN∘Zn∘Zv∘Zc) ?_;exact yj2 L [.tmp 4]
  ·cases b
   ·have hx:x∉l:=by simpa using hb
    rw[nc hx] at hg;refine(Zal∘ZH∘Zee) ?_;refine z71 L Z (fun u H hH hle=>lq Z hH (hv0.le hle)) ?_;refine(ZbK∘Z6∘Zcx∘Zba∘Zdw) ?_;refine z71 L Z (fun u H hH hle=>UT.get_m zdi x hH (⟨_,rfl,ht.le hle⟩) hg) ?_;refine(ZA∘Za1∘Zd∘Z5∘Zc) ?_;exact yj2 L [.tmp 4]
   ·have hx:x∈l:=by simpa using hb
    rw[na hx] at hg;refine(Zal∘ZH∘Zee) ?_;refine z71 L Z (fun u H hH hle=>lq Z hH (hv0.le hle)) ?_;refine(ZbK∘Z6∘Zcx∘Zba∘Zdw) ?_;refine z71 L Z (fun u H hH hle=>UT.get_m zdi x hH (⟨_,rfl,ht.le hle⟩) hg) ?_;refine(ZA∘Za1∘Zd∘Z5∘Zc) ?_;exact yj2 L [.tmp 4]
 ·have hb':b=false:=by rw[<-hb];simp
  subst hb';refine yr Tryz.func19 Z Tryz.ntmps19 (np Z) hB ((Zal∘ZH∘Zee) ?_);refine z71 L Z (fun u H hH hle=>lq Z hH (hv0.le hle)) ?_;refine z7 (yi Z Z Z Z Z) Z ((Zn∘Zv∘Zc) ?_);exact yj2 L [.tmp 4]
def scs(x:Value×Option Addr×Value×Option Addr):List Value:=[x.1,.pointer x.2.1,x.2.2.1,.pointer x.2.2.2]
abbrev SXp:={ x:Value×Option Addr×Value×Option Addr//(scs x).all gj=true }
abbrev D5(l:List U)(x:SXp)(H:Heap):Prop:=SetV l (.agg (scs x.1).toArray) H
def jg(l:List U):oc (D5 l):=fun _ _ _ h hle=>SetV.le h hle
def Kq(v:Value)(H:Heap)(h:SetV l v H):∃ x:SXp,D5 l x H/\ji v=scs x.1:=by
 obtain⟨f,p,k,q,rfl,hp⟩:=h.shape;exact⟨⟨(f,p,k,q),hp⟩,h,rfl⟩
abbrev zm9(l:List U)(e:Int):Value->Heap->Prop:=TupS [SetV l,fun v _=>v=.int .i64 e]
def mf4{cf cg:Nat}{t u:Tr U Unit}{v1 v2:Value}(h1:UT.MF cf t v1 H)(h2:UT.MF cg u v2 H):∃ p q,v1=.agg #[.func (.func cf) #[] #[],.pointer p]/\v2=.agg #[.func (.func cg) #[] #[],.pointer q]/\UT.TA t (.pointer p) H/\UT.TA u (.pointer q) H:=by
 obtain⟨p,e1,h1⟩:=h1;obtain⟨q,e2,h2⟩:=h2;exact⟨p,q,e1,e2,h1,h2⟩
def zl7{t u:Tr U Unit}(h:TS l t u){x:U}{d:Bool}(hx:decide (x∈l)=d)(hc:d=false->l.length<4096)(he:tE x=0):TS (wo l x d).1 (chT kw x d t) (chT ig x d u)/\(wo l x d).2=0:=by
 unfold wo chT;rw[na he];cases d
 ·have hx':x∉l:=by simpa using hx
  rw[nc E,nc hx',nc (by have:=hc rfl;omega),nc E,nc E];exact⟨h.put hx',rfl⟩
 ·have hx':x∈l:=by simpa using hx
  rw[na rfl,na rfl,na rfl];exact⟨h.drop hx',rfl⟩
def za8{l m:List U}{x:U}{d:Bool}(hr:wo l x d=(m,e))(hl:l.length<=4096)(hz:TZ x)(hB:zs4 B w)(hv:SetV l v B):
  Ret zs5 41 [v,chv x d] w B (zm9 m e):=by
 obtain⟨f1,p1,f2,q1,hsh,hpl⟩:=hv.shape;by_cases he:tE x=0
 ·obtain⟨hin,hin0⟩:∃ b,decide (x∈l)=b:=⟨_,rfl⟩
  by_cases hd:hin=d
  ·subst hd;by_cases hfull:hin=false/\l.length=4096
   ·obtain⟨rfl,hlen⟩:=hfull
    have hw:wo l x false=([],3):=by
     unfold wo;rw[na he,nc E,nc (by simpa using hin0),na T]
    rw[hw] at hr;cases hr;subst hsh;refine yr Tryz.func41 Z Tryz.ntmps41 (np Z) hB ((Zal∘ZE∘ZH∘ZbN) ?_);refine z71 L Z (fun u H hH _=>he ▸ je hz hH) ?_;refine(ZaZ∘ZbZ∘Zda∘ZdS∘Zbt∘Zbb) ?_;refine z81 L Z (fun u H hH hle=>jr hin0 hH (hv.le hle)) ?_;refine(Zbu∘Zft∘ZaL∘Zao∘Zd8∘Zo∘Zm∘Za∘Zee) ?_;refine z71 L Z (fun u H hH hle=>lq hlen hH (hv.le hle)) ?_;refine(ZN∘Zbe∘Zy∘ZdB∘Zbi) ?_;refine yj1 L [.cell 4 37,.tmp 5] fun u H hH hle=>?_;exact⟨_,y7 Z,rfl,LE2.mk SetV.nil⟩
   ·have hc:hin=false->l.length<4096:=fun h=>by
     rcases m5 l.length 4096 with h' | h'
     ·exact h'
     ·exact ni ⟨h,by omega⟩ hfull
    obtain⟨p,q,t,u,hT,ht,hu,hv1⟩:=id hv;have hch:=zl7 hT hin0 hc he;rw[hr] at hch;obtain⟨hT',rfl⟩:=hch;have hts:=hT.size;have hus:=hT.zu
    have hf1:p1=p/\q1=q/\(f1=fvC\/(f1=.nilFunc/\t=.nil))/\(f2=fvS\/(f2=.nilFunc/\u=.nil)):=by
     rcases hv1 with h | ⟨h0,rfl,rfl,h⟩
     ·rw[hsh] at h;cases h;exact⟨rfl,rfl,.inl rfl,.inl rfl⟩
     ·rw[hsh] at h;cases h;subst h0
      have key:∀ {s:Tr U Unit},s.size=0->s=.nil:=fun {s} hs=>by
       cases s with
       | nil=>rfl
       | node k y l r=>simp only[Tr.size] at hs;omega
      exact⟨rfl,rfl,.inr ⟨rfl,key hts⟩,.inr ⟨rfl,key hus⟩⟩
    obtain⟨rfl,rfl,hf1,hf2⟩:=hf1;subst hsh;have hchg1:=fun(u1:World) (H:Heap) (hH:zs4 H u1) (hle:B.Le H)=>Fa zdi hf1 x hin hH (ht.le hle) T;have hchg2:=fun(u1:World) (H:Heap) (hH:zs4 H u1) (hle:B.Le H)=>Fa zk5 hf2 x hin hH (hu.le hle) T;cases hin
    ·have hlen:=hc rfl;refine yr Tryz.func41 Z Tryz.ntmps41 (np Z) hB ((Zal∘ZE∘ZH∘ZbN) ?_);refine z71 L rfl (fun u H hH _=>he ▸ je hz hH) ?_;refine(ZaZ∘ZbZ∘Zda∘ZdS∘Zbt∘Zbb) ?_;refine z81 L rfl (fun u H hH hle=>jr hin0 hH (hv.le hle)) ?_;refine(Zbu∘Zft∘ZaL∘Zao∘Zd8∘Zo∘Zm∘Za∘Zee) ?_;refine z71 L rfl (fun u H hH hle=>lq rfl hH (hv.le hle)) ?_;refine(ZT∘Zcz∘ZcY∘Zbt∘Zdl∘ZeF) ?_;refine z8 (xg (φ:=UT.MF 74 (chT kw x false t)) L rfl rfl (zm rfl) rfl rfl rfl UT.MA.mono (fun u H hH hle _=>hchg1 u H hH hle)) rfl ((Zbt∘Zdl∘ZeF) ?_);refine z8 (xg (φ:=UT.MF 106 (chT ig x false u)) L rfl rfl (zm rfl) rfl rfl rfl UT.MA.mono (fun u H hH hle _=>hchg2 u H hH hle)) rfl (z8 (Lj (ψ:=SetV m) rfl rfl zmg SetV.mono (fun H _ v1 h1 v2 h2=>by obtain⟨p,q,rfl,rfl,k1,k2⟩:=mf4 h1 h2;exact⟨_,rfl,p,q,_,_,hT',k1,k2,.inl rfl⟩)) rfl ?_);refine z8 (bg L (X:=SXp) (fun x=>scs x.1) (D5 m) (jg m) Kq (fun x=>⟨rfl,x.2⟩) rfl rfl rfl rfl rfl) rfl (ZaS (h:=?_));refine uk 4 rfl fun x4 H4 hs4 hx4=>?_;refine yj L (rs:=[.cell 4 37,.tmp 5]) Z (fun _ _ h=>h) hs4 fun u H hH hle=>?_;exact⟨_,y7 Z,rfl,LE2.mk (hx4.le hle)⟩
    ·refine yr Tryz.func41 Z Tryz.ntmps41 (np Z) hB ((Zal∘ZE∘ZH∘ZbN) ?_);refine z71 L rfl (fun u H hH _=>he ▸ je hz hH) ?_;refine(ZaZ∘ZbZ∘Zda∘ZdS∘Zbt∘Zbb) ?_;refine z81 L rfl (fun u H hH hle=>jr hin0 hH (hv.le hle)) ?_;refine(Zbu∘Zft∘ZaL∘Zao∘Zd8∘Zo∘Zm∘Zcl∘Zx∘ZcY∘Zbt∘Zdl∘ZeF) ?_;refine z8 (xg (φ:=UT.MF 74 (chT kw x true t)) L rfl rfl (zm rfl) rfl rfl rfl UT.MA.mono (fun u H hH hle _=>hchg1 u H hH hle)) rfl ((Zbt∘Zdl∘ZeF) ?_);refine z8 (xg (φ:=UT.MF 106 (chT ig x true u)) L rfl rfl (zm rfl) rfl rfl rfl UT.MA.mono (fun u H hH hle _=>hchg2 u H hH hle)) rfl (z8 (Lj (ψ:=SetV m) rfl rfl zmg SetV.mono (fun H _ v1 h1 v2 h2=>by obtain⟨p,q,rfl,rfl,k1,k2⟩:=mf4 h1 h2;exact⟨_,rfl,p,q,_,_,hT',k1,k2,.inl rfl⟩)) rfl ?_);refine z8 (bg L (X:=SXp) (fun x=>scs x.1) (D5 m) (jg m) Kq (fun x=>⟨rfl,x.2⟩) rfl rfl rfl rfl rfl) rfl (ZaS (h:=?_));refine uk 4 rfl fun x4 H4 hs4 hx4=>?_;refine yj L (rs:=[.cell 4 37,.tmp 5]) Z (fun _ _ h=>h) hs4 fun u H hH hle=>?_;exact⟨_,y7 Z,rfl,LE2.mk (hx4.le hle)⟩
  ·have hw:wo l x d=(l,0):=by
    unfold wo;rw[na he];cases d
    ·have:hin=true:=by cases hin;exact ni rfl hd;rfl
     subst this;rw[nc E,na (by simpa using hin0)]
    ·have:hin=false:=by cases hin;rfl;exact ni rfl hd
     subst this;rw[na rfl,Ti (by simpa using hin0)]
   rw[hw] at hr;cases hr;have hb:(hin == d)=false:=by cases hin<;>cases d<;>first | rfl | exact ni rfl hd
   subst hsh;refine yr Tryz.func41 Z Tryz.ntmps41 (np Z) hB ?_;have hb2:(!(hin == d))=true:=by rw[hb];rfl
   refine(Zal∘ZE∘ZH∘ZbN) ?_;refine z71 L Z (fun u H hH _=>he ▸ je hz hH) ?_;refine(ZaZ∘ZbZ∘Zda∘ZdS∘Zbt∘Zbb) ?_;refine z81 L Z (fun u H hH hle=>jr hin0 hH (hv.le hle)) ?_;refine Zbu (h:=?_);refine z8 (V4 Z Z Z Z bt4 hb2) Z ((ZbW∘Ze∘Z1∘Zee∘Zb7∘Zc) ?_);refine yj1 L [.cell 4 37,.tmp 5] fun u H hH hle=>?_;exact⟨_,y7 Z,rfl,LE2.mk (hv.le hle)⟩
 ·have hw:wo l x d=([],tE x):=nc he;rw[hw] at hr;cases hr;subst hsh;refine yr Tryz.func41 Z Tryz.ntmps41 (np Z) hB ((Zal∘ZE∘ZH∘ZbN) ?_);refine z71 L Z (fun u H hH _=>je hz hH) ?_;refine(ZaZ∘Za0∘Z6∘ZdB∘Za∘Zbi) ?_;refine yj1 L [.cell 4 37,.tmp 5] fun u H hH hle=>?_;exact⟨_,y7 Z,rfl,LE2.mk SetV.nil⟩
end Go.V.L6
namespace Go.V.L2
def tc:∀ (l:List U),(l.flatMap ucs).length=l.length*6
 | []=>rfl
 | y::l=>by rw[zpm,nr,tc l,Ft,nz];omega
def ee:∀ (l:List U),(l.flatMap ucs).all gj=true
 | []=>rfl
 | g::l=>by rw[zpm,zr7,ee l];rfl
def Ub{y:List U}(h:κ s=some (.own (SlR tyU 6 (x.length+y.length) (x.flatMap ucs++y.flatMap ucs)))):κ s=some (.own (SlR tyU 6 (x++y).length ((x++y).flatMap ucs))):=by
 rw[h,zpo,nr]
def Dl{p:U->Bool}{r:List U}(h:l[k]?=some t)(hr:r=(l.take k).filter p):(l.take (k+1)).filter p=if p t=true then r++[t] else r:=by
 rw[ei h,zpc,hr,zqo,List.filter_nil];split<;>simp
attribute [local irreducible] V N X VO Par StepOK Has Ret RetL Src
def U5{x y:List U}{fx fy:Bool}(hx:x.length<=100000)(hy:y.length<=100000)(zx:∀ t∈x,TZ t)(zy:∀ t∈y,TZ t){vx vy:Value}(hB:zs4 B w)(hvx:US x fx vx B)(hvy:US y fy vy B):
  Ret zs5 110 [vx,vy,.bool true,.bool true,.bool true] w B (US (oo x y true true true) false):=by
 have lx:=tc x;have ly:=tc y;have px:=ee x;have py:=ee y;refine yr Tryz.func110 Z Tryz.ntmps110 (np Z) hB (k7 0 (US x fx) Z ns hvx (k7 1 (US y fy) Z ns hvy ((ZK∘Zd) ?_)));refine ul 11 tyU 6 rfl ((Zv∘Zh) ?_);refine z7 (tp L Z Z Z (Mn Z) Z zhw lx px T T) Z (Zh (h:=?_));refine qg (w8 L Z Z Z (Mn Z) Z zhw ly py T T) (qg (yu (.inr Z) Z) (ZaC (h:=?_)));refine gt 12 (Ub Z) ?_;have hal:(x++y).length<=200000:=by rw[nr];omega
 have hza:∀ t∈x++y,TZ t:=fun t ht=>(mn.1 ht).elim (zx t) (zy t);unfold oo;generalize hall:x++y=l at hal hza;refine(Z6∘ZaX) ?_
 refine xp (fun s:Nat×List U=>[(0,.sat (US x fx)),(1,.sat (US y fy)),(2,.is (.bool true)),(3,.is (.bool true)),(4,.is (.bool true)),(11,.own (SlR tyU 6 s.2.length (s.2.flatMap ucs))),(12,.sat (US l false)),(13,.is (.int .i64 s.1))])
  (fun s=>s.1<=l.length/\s.2.length<=s.1/\s.2=(l.take s.1).filter (dy x y true true true)) (fun s=>l.length-s.1) (0,[]) ⟨mb _,nu _,rfl⟩ ⟨rfl,rfl,rfl,rfl,rfl,rfl,rfl,rfl,nm⟩ ?_
 rintro⟨i,r⟩ ⟨hi,hrl,hr⟩;dsimp only at hi hrl hr |-;by_cases hlt:i<l.length
 ·obtain⟨t,ht⟩:=xm hlt;have hc:=pg ht;have hf:=Dl ht hr;by_cases h1:t∈x
  ·have e1:(if t∈x then 1 else 0:Int)=1:=na h1;by_cases h2:t∈y
   ·have e2:(if t∈y then 1 else 0:Int)=1:=na h2;have hp:(dy x y true true true) t=true:=by simp [dy,h1,h2]
    rw[hp,na rfl] at hf;refine(Zf∘Z5∘Zj∘ZbJ∘ZcG∘Zad∘ZaM) ?_;refine z8 (qb L Z Z (zm Z) Z Z Z (fun u H hH _ _ v1 h3=>wv (l:=x) T e1 hH h3)) Z ((Zdv∘Zad∘ZaM) ?_);refine z8 (qb L Z Z (zm Z) Z Z Z (fun u H hH _ _ v1 h3=>wv (l:=y) T e2 hH h3)) Z ((Zdv∘ZaK∘Zbc∘Zy∘Z8∘Zm∘Zi∘Za∘Za4∘Zbv∘ZbI∘Zi∘Zi∘Zau∘Zb2∘Zb2∘Zi∘Z3∘Zu) ?_);refine qg (yu (.inl Z) Z) ((Zh∘Zb6∘ZaE∘Zc5) ?_);refine qg (yu (.inr Z) Z) ((ZaA∘ZS∘ZaT) ?_);exact yo (x:=(i,r)) (i+1,r++[t]) ⟨hlt,by dsimp only;rw[List.length_append,List.length_singleton];omega,hf.symm⟩ G ⟨Z,Z,Z,Z,Z,v7 Z,Z,Z,trivial⟩
   ·have e2:(if t∈y then 1 else 0:Int)=0:=nc h2;have hp:(dy x y true true true) t=true:=by simp [dy,h1,h2]
    rw[hp,na rfl] at hf;refine(Zf∘Z5∘Zj∘ZbJ∘ZcG∘Zad∘ZaM) ?_;refine z8 (qb L Z Z (zm Z) Z Z Z (fun u H hH _ _ v1 h3=>wv (l:=x) T e1 hH h3)) Z ((Zdv∘Zad∘ZaM) ?_);refine z8 (qb L Z Z (zm Z) Z Z Z (fun u H hH _ _ v1 h3=>wv (l:=y) T e2 hH h3)) Z ((ZcI∘ZaK∘Zbc∘Zy∘Z8∘Zm∘ZbI∘Zi∘Zau∘Zb2∘Za4∘Zau∘Zb2∘Zb2∘Zi∘Z3∘Zu) ?_);refine qg (yu (.inl Z) Z) ((Zh∘Zb6∘ZaE∘Zc5) ?_);refine qg (yu (.inr Z) Z) ((ZaA∘ZS∘ZaT) ?_);exact yo (x:=(i,r)) (i+1,r++[t]) ⟨hlt,by dsimp only;rw[List.length_append,List.length_singleton];omega,hf.symm⟩ G ⟨Z,Z,Z,Z,Z,v7 Z,Z,Z,trivial⟩
  ·have e1:(if t∈x then 1 else 0:Int)=0:=nc h1;by_cases h2:t∈y
   ·have e2:(if t∈y then 1 else 0:Int)=1:=na h2;have hp:(dy x y true true true) t=true:=by simp [dy,h1,h2]
    rw[hp,na rfl] at hf;refine(Zf∘Z5∘Zj∘ZbJ∘ZcG∘Zad∘ZaM) ?_;refine z8 (qb L Z Z (zm Z) Z Z Z (fun u H hH _ _ v1 h3=>wv (l:=x) T e1 hH h3)) Z ((ZcI∘Zad∘ZaM) ?_);refine z8 (qb L Z Z (zm Z) Z Z Z (fun u H hH _ _ v1 h3=>wv (l:=y) T e2 hH h3)) Z ((Zdv∘ZaK∘Zbc∘Zcc∘Zb2∘Zi∘Za∘Za4∘Z8∘Za4∘Za∘Za4∘ZbI∘Zm∘Zb∘ZbI∘Zi∘Zi∘Z3∘Zu) ?_);refine qg (yu (.inl Z) Z) ((Zh∘Zb6∘ZaE∘Zc5) ?_);refine qg (yu (.inr Z) Z) ((ZaA∘ZS∘ZaT) ?_);exact yo (x:=(i,r)) (i+1,r++[t]) ⟨hlt,by dsimp only;rw[List.length_append,List.length_singleton];omega,hf.symm⟩ G ⟨Z,Z,Z,Z,Z,v7 Z,Z,Z,trivial⟩
   ·have e2:(if t∈y then 1 else 0:Int)=0:=nc h2;have hp:(dy x y true true true) t=false:=by simp [dy,h1,h2]
    rw[hp,nc E] at hf;refine(Zf∘Z5∘Zj∘ZbJ∘ZcG∘Zad∘ZaM) ?_;refine z8 (qb L Z Z (zm Z) Z Z Z (fun u H hH _ _ v1 h3=>wv (l:=x) T e1 hH h3)) Z ((ZcI∘Zad∘ZaM) ?_);refine z8 (qb L Z Z (zm Z) Z Z Z (fun u H hH _ _ v1 h3=>wv (l:=y) T e2 hH h3)) Z ((ZcI∘ZaK∘Zbc∘Zcc∘Zb2∘Zi∘Za∘Za4∘Z8∘Za4∘Za∘Za4∘ZbI∘Zm∘Zb∘Zi∘Za∘Za4∘Zcw∘ZS∘ZaT) ?_);exact yo (x:=(i,r)) (i+1,r) ⟨hlt,by dsimp only;omega,hf.symm⟩ G ⟨Z,Z,Z,Z,Z,Z,Z,Z,trivial⟩
 ·obtain rfl:i=l.length:=by omega
  rw[zoy] at hr;have hzr:∀ t∈r,TZ t:=fun t h=>hza t (zo3.1 (by rw[<-hr];exact h)).1;rw[<-hr];refine gt 11 rfl ((Zf∘Z5∘Zj∘Z0∘Za5∘Z2∘Zh) ?_);refine z7 (xg L Z Z (zm Z) Z Z Z ns (fun u H hH _ _ v1 h3=>ot T hzr hH h3)) Z ((ZR∘Zw) ?_);refine yj1 L [.tmp 10] fun u H hH hle=>?_;exact fun v hv=>hv
def U6{x y:List U}{fx fy:Bool}(hx:x.length<=100000)(hy:y.length<=100000)(zx:∀ t∈x,TZ t)(zy:∀ t∈y,TZ t){vx vy:Value}(hB:zs4 B w)(hvx:US x fx vx B)(hvy:US y fy vy B):
  Ret zs5 110 [vx,vy,.bool true,.bool false,.bool false] w B (US (oo x y true false false) false):=by
 have lx:=tc x;have ly:=tc y;have px:=ee x;have py:=ee y;refine yr Tryz.func110 Z Tryz.ntmps110 (np Z) hB (k7 0 (US x fx) Z ns hvx (k7 1 (US y fy) Z ns hvy ((ZK∘Zd) ?_)));refine ul 11 tyU 6 rfl ((Zv∘Zh) ?_);refine z7 (tp L Z Z Z (Mn Z) Z zhw lx px T T) Z (Zh (h:=?_));refine qg (w8 L Z Z Z (Mn Z) Z zhw ly py T T) (qg (yu (.inr Z) Z) (ZaC (h:=?_)));refine gt 12 (Ub Z) ?_;have hal:(x++y).length<=200000:=by rw[nr];omega
 have hza:∀ t∈x++y,TZ t:=fun t ht=>(mn.1 ht).elim (zx t) (zy t);unfold oo;generalize hall:x++y=l at hal hza;refine(Z6∘ZaX) ?_
 refine xp (fun s:Nat×List U=>[(0,.sat (US x fx)),(1,.sat (US y fy)),(2,.is (.bool true)),(3,.is (.bool false)),(4,.is (.bool false)),(11,.own (SlR tyU 6 s.2.length (s.2.flatMap ucs))),(12,.sat (US l false)),(13,.is (.int .i64 s.1))])
  (fun s=>s.1<=l.length/\s.2.length<=s.1/\s.2=(l.take s.1).filter (dy x y true false false)) (fun s=>l.length-s.1) (0,[]) ⟨mb _,nu _,rfl⟩ ⟨rfl,rfl,rfl,rfl,rfl,rfl,rfl,rfl,nm⟩ ?_
 rintro⟨i,r⟩ ⟨hi,hrl,hr⟩;dsimp only at hi hrl hr |-;by_cases hlt:i<l.length
 ·obtain⟨t,ht⟩:=xm hlt;have hc:=pg ht;have hf:=Dl ht hr;by_cases h1:t∈x
  ·have e1:(if t∈x then 1 else 0:Int)=1:=na h1;by_cases h2:t∈y
   ·have e2:(if t∈y then 1 else 0:Int)=1:=na h2;have hp:(dy x y true false false) t=false:=by simp [dy,h1,h2]
    rw[hp,nc E] at hf;refine(Zf∘Z5∘Zj∘ZbJ∘ZcG∘Zad∘ZaM) ?_;refine z8 (qb L Z Z (zm Z) Z Z Z (fun u H hH _ _ v1 h3=>wv (l:=x) T e1 hH h3)) Z ((Zdv∘Zad∘ZaM) ?_);refine z8 (qb L Z Z (zm Z) Z Z Z (fun u H hH _ _ v1 h3=>wv (l:=y) T e2 hH h3)) Z ((Zdv∘ZaK∘Zbc∘Zy∘Z8∘Zm∘Zi∘Za∘Za4∘Zbv∘ZbI∘Zi∘ZbI∘Zm∘Za∘Za4∘Za∘Za4∘Zcw∘ZS∘ZaT) ?_);exact yo (x:=(i,r)) (i+1,r) ⟨hlt,by dsimp only;omega,hf.symm⟩ G ⟨Z,Z,Z,Z,Z,Z,Z,Z,trivial⟩
   ·have e2:(if t∈y then 1 else 0:Int)=0:=nc h2;have hp:(dy x y true false false) t=true:=by simp [dy,h1,h2]
    rw[hp,na rfl] at hf;refine(Zf∘Z5∘Zj∘ZbJ∘ZcG∘Zad∘ZaM) ?_;refine z8 (qb L Z Z (zm Z) Z Z Z (fun u H hH _ _ v1 h3=>wv (l:=x) T e1 hH h3)) Z ((Zdv∘Zad∘ZaM) ?_);refine z8 (qb L Z Z (zm Z) Z Z Z (fun u H hH _ _ v1 h3=>wv (l:=y) T e2 hH h3)) Z ((ZcI∘ZaK∘Zbc∘Zy∘Z8∘Zm∘ZbI∘Zi∘Zau∘Zb2∘Za4∘Zau∘Zb2∘Zb2∘Zi∘Z3∘Zu) ?_);refine qg (yu (.inl Z) Z) ((Zh∘Zb6∘ZaE∘Zc5) ?_);refine qg (yu (.inr Z) Z) ((ZaA∘ZS∘ZaT) ?_);exact yo (x:=(i,r)) (i+1,r++[t]) ⟨hlt,by dsimp only;rw[List.length_append,List.length_singleton];omega,hf.symm⟩ G ⟨Z,Z,Z,Z,Z,v7 Z,Z,Z,trivial⟩
  ·have e1:(if t∈x then 1 else 0:Int)=0:=nc h1;by_cases h2:t∈y
   ·have e2:(if t∈y then 1 else 0:Int)=1:=na h2;have hp:(dy x y true false false) t=false:=by simp [dy,h1,h2]
    rw[hp,nc E] at hf;refine(Zf∘Z5∘Zj∘ZbJ∘ZcG∘Zad∘ZaM) ?_;refine z8 (qb L Z Z (zm Z) Z Z Z (fun u H hH _ _ v1 h3=>wv (l:=x) T e1 hH h3)) Z ((ZcI∘Zad∘ZaM) ?_);refine z8 (qb L Z Z (zm Z) Z Z Z (fun u H hH _ _ v1 h3=>wv (l:=y) T e2 hH h3)) Z ((Zdv∘ZaK∘Zbc∘Zcc∘Zb2∘Zi∘Za∘Za4∘Z8∘Za4∘Za∘Za4∘ZbI∘Zm∘Zb∘ZbI∘Zi∘Zcw∘ZS∘ZaT) ?_);exact yo (x:=(i,r)) (i+1,r) ⟨hlt,by dsimp only;omega,hf.symm⟩ G ⟨Z,Z,Z,Z,Z,Z,Z,Z,trivial⟩
   ·have e2:(if t∈y then 1 else 0:Int)=0:=nc h2;have hp:(dy x y true false false) t=false:=by simp [dy,h1,h2]
    rw[hp,nc E] at hf;refine(Zf∘Z5∘Zj∘ZbJ∘ZcG∘Zad∘ZaM) ?_;refine z8 (qb L Z Z (zm Z) Z Z Z (fun u H hH _ _ v1 h3=>wv (l:=x) T e1 hH h3)) Z ((ZcI∘Zad∘ZaM) ?_);refine z8 (qb L Z Z (zm Z) Z Z Z (fun u H hH _ _ v1 h3=>wv (l:=y) T e2 hH h3)) Z ((ZcI∘ZaK∘Zbc∘Zcc∘Zb2∘Zi∘Za∘Za4∘Z8∘Za4∘Za∘Za4∘ZbI∘Zm∘Zb∘Zi∘Za∘Za4∘Zcw∘ZS∘ZaT) ?_);exact yo (x:=(i,r)) (i+1,r) ⟨hlt,by dsimp only;omega,hf.symm⟩ G ⟨Z,Z,Z,Z,Z,Z,Z,Z,trivial⟩
 ·obtain rfl:i=l.length:=by omega
  rw[zoy] at hr;have hzr:∀ t∈r,TZ t:=fun t h=>hza t (zo3.1 (by rw[<-hr];exact h)).1;rw[<-hr];refine gt 11 rfl ((Zf∘Z5∘Zj∘Z0∘Za5∘Z2∘Zh) ?_);refine z7 (xg L Z Z (zm Z) Z Z Z ns (fun u H hH _ _ v1 h3=>ot T hzr hH h3)) Z ((ZR∘Zw) ?_);refine yj1 L [.tmp 10] fun u H hH hle=>?_;exact fun v hv=>hv
end Go.V.L2
namespace Go.V.L6
open Go.V.L2 Go.V.L3
def _root_.Zfu(t:Wr Y->A:=by intro h;refine z7 (Sr L Z Z Z Z) Z ?_;exact h.1)(h:Y):A:=t ⟨h⟩
def Yh(N:List (U×Unit)):UT.flat N=(kS N).flatMap ucs:=by
 unfold UT.flat kS;rw[List.flatMap_map];rfl
def Em{t:Tr U Unit}{r:Nat}(hk:k<=t.size):kS (UT.rangeL t (r:Int) (k:Int))=((kS t.list).take k).drop r:=by
 unfold UT.rangeL;have h0:max (r:Int) 0=(r:Int):=T;have h1:min (k:Int) (t.size:Int)=(k:Int):=T;rw[h0,h1];by_cases h:(r:Int)>=k
 ·rw[na h,zo4 (by rw[mi];omega)];rfl
 ·rw[nc h,Tr.prs_list];have:=Qw r k t.list 0;rw[show((0:Nat):Int)=0 from rfl] at this;rw[this,zqw,zqw];unfold kS;rw[zqs,zqb]
attribute [local irreducible] V N X VO Par StepOK Has Ret RetL RetO Src
def t8{fv:Value}{p:Option Addr}{t:Tr U Unit}{f:Int}(hM:kS (UT.rangeL t f e)=zs1)(hs:t.size<=100000)(hB:zs4 B w)(ht:UT.TA t (.pointer p) B):
  RetO zs5 46 [.agg #[fv,.pointer p],.int .i64 f,.int .i64 e] w B (SlE tyU 6 zs1.length (zs1.flatMap ucs)):=by
 obtain⟨N,hN⟩:∃ N,UT.rangeL t f e=N:=⟨_,rfl⟩
 rw[hN] at hM;have hfl:=Yh N;have hNM:N.length=zs1.length:=by rw[<-hM];simp
 have hlen:zs1.length<=100000:=by
  rw[<-hNM,<-hN];unfold UT.rangeL;split
  ·exact mb _
  ·exact mp (Tr.prs_length_le _ _ _ _) hs
 have hat:∀ {k:Nat} {g:U},zs1[k]?=some g->((UT.flat N).drop (k*6)).take 6=[.string g.1.1.1,.string g.1.1.2,.string g.1.2,.string g.2.1.1,.string g.2.1.2,.string g.2.2]:=fun {k g} h=>by
  rw[hfl,hM];exact pg h
 clear hM hfl;refine wz Tryz.func46 Z Tryz.ntmps46 (np Z) hB ((Zcy∘Zba∘Zb) ?_);refine z7 (xg (φ:=UT.PS N true) L Z Z (zm Z) Z Z Z UT.PS.mono (fun u H hH hle _=>UT.range_m _ _ hH (⟨_,rfl,ht.le hle⟩) T hN)) Z ((ZR∘Zg∘Zv∘Zj) ?_);refine z7 (Gl L _ Z Z Z zhw Z Z Z Z T (by simp only[maxLen];omega)) Z ?_;refine qg (yu (.inr Z) Z) ((ZaC∘Z6∘Zj∘ZaR) ?_);have hzl:=D9 (P:=zs5) (k:=N.length*6) zhw;generalize zsL zs5 tyU (N.length*6)=zs0 at hzl;rw[hNM] at hzl |-
 refine xp (fun s:Nat×List Value=>[(7,.sat (UT.PS N true)),(8,.own (SlE tyU 6 zs1.length ((zs1.take s.1).flatMap ucs++s.2))),(19,.is (.int .i64 zs1.length)),(20,.is (.int .i64 s.1))])
  (fun s=>s.1<=zs1.length/\s.2.length=(zs1.length-s.1)*6) (fun s=>zs1.length-s.1) (0,zs0) ⟨mb _,hzl⟩ ⟨rfl,rfl,rfl,rfl,nm⟩ ?_
 rintro⟨k,zs⟩ ⟨hk,hz⟩;dsimp only at hk hz |-;by_cases hlt:k<zs1.length
 ·obtain⟨g,hg⟩:=xm hlt;have hc:=hat hg;have hlN:k<N.length:=T;have ht1:zs1.take (k+1)=zs1.take k++[g]:=by rw[zpa,hg];rfl
  have hr:List.take (0+k*6) ((zs1.take k).flatMap ucs++zs)++(ucs g++List.drop (0+k*6+6) ((zs1.take k).flatMap ucs++zs))=(zs1.take (k+1)).flatMap ucs++zs.drop 6:=by
   rw[ht1,zo2];exact zjp Ft (zs1.take k) k zs1.length zs g (by rw[mi];omega) hz hlt
  have hlen':((zs1.take (k+1)).flatMap ucs++zs.drop 6).length=zs1.length*6:=by
   rw[nr,tc,mi,m8,hz];omega
  refine zll 8 T Z fun b hb=>?_;have hle1:0+k*6+6<=((zs1.take k).flatMap ucs++zs).length:=by rw[hb.1];omega
  refine(ZbU∘ZS∘Zc∘ZbF∘Zh∘Zb6∘Zfu∘ZaE∘Zdj) ?_;refine Mj L (O1:=[]) (cs':=(zs1.take (k+1)).flatMap ucs++zs.drop 6) Z Z Z (zru hle1) Z hr (ZaA (h:=?_));refine zea (s:=6) 8 [] Z Z hlen' hb.2 ?_;refine(Zy∘ZB) ?_;exact yo (x:=(k,zs)) (k+1,zs.drop 6) ⟨hlt,by dsimp only;rw[List.length_drop,hz];omega⟩ G ⟨Z,Z,Z,Z,trivial⟩
 ·obtain rfl:k=zs1.length:=by omega
  have hzn:zs=[]:=zow (by rw[hz];omega);rw[hzn,mq,zoy];refine(ZcV∘Zak∘Zu) ?_;refine qg (yu (.inl Z) Z) (qg (yu (.inr Z) Z) (Zw (h:=?_)));exact lf Z (fun _ _ h=>h) nq Z
def Ui{α:Type}{p:α->Bool}:∀ {m:List α} {n:Nat},(m.take n).all p=true->(∀ x,m[n]?=some x->p x=false)->m.takeWhile p=m.take n
 | [],n,_,_=>by simp
 | y::m,0,_,h2=>by
  rw[zp2,h2 y rfl];rfl
 | y::m,n+1,h1,h2=>by
  simp only[zqr,List.all_cons,zo5] at h1 |-;rw[zp2,na h1.1,Ui h1.2 fun x hx=>h2 x (by simpa using hx)]
def zlf{t:Tr U Unit}{g:U}(h:(kS t.list)[k]?=some g):UT.atO t (k:Int)=some (g,()):=by
 unfold UT.atO;rw[nc T,zpf,Tr.at_list];unfold kS at h;rw[zpl] at h
 cases hx:t.list[k]? with
 | none=>rw[hx] at h;cases h
 | some y=>
  rw[hx] at h;cases h;rfl
abbrev zn8:TypeId:=35
def e7{bf:Nat}{pr:U->Bool}{fv:Value}{p:Option Addr}{t:Tr U Unit}{x:U}{r:Nat}(hfn:L.fn bf=some ())
  (hpr:∀ (y:U) (u:World) (H:Heap),zs4 H u->B.Le H->Ret zs5 bf ([uv y]++caps) u H (fun v _=>v=.bool (pr y)))
  (hrk:∀ (u:World) (H:Heap),zs4 H u->B.Le H->Ret zs5 134 [.agg #[fv,.pointer p],uv x] u H (fun v _=>v=.int .i64 r)) (hr:r<=t.size)
  (hM:((kS t.list).drop r).takeWhile pr=zs1) (hs:t.size<=100000) (hB:zs4 B w) (ht:UT.TA t (.pointer p) B):
  RetO zs5 77 [.agg #[fv,.pointer p],uv x,.func (.func bf) #[] caps.toArray] w B (SlE tyU 6 zs1.length (zs1.flatMap ucs)):=by
 have hkl:(kS t.list).length=t.size:=by rw[<-Tr.size_list];simp
 refine wz Tryz.func77 Z Tryz.ntmps77 (np Z) hB ((Zal∘ZaW∘Zba∘Zdw) ?_);refine z71 L Z (fun u H hH hle=>hrk u H hH hle) ?_;refine(ZaZ∘Zd∘Zar) ?_
 refine xp (fun k:Nat=>[(2,.is (.func (.func bf) #[] caps.toArray)),(3,.sat (At [fv,.pointer p] zn8 0)),(7,.is (.int .i64 r)),(8,.is (.int .i64 k))])
  (fun k=>r<=k/\k<=t.size/\(((kS t.list).drop r).take (k-r)).all pr=true) (fun k=>t.size-k) r ⟨nu _,hr,by rw[zqc];rfl⟩ ⟨rfl,rfl,rfl,rfl,nm⟩ ?_
 rintro k ⟨h1,h2,h3⟩
 have hlst:(∀ y,((kS t.list).drop r)[k-r]?=some y->pr y=false)->kS (UT.rangeL t (r:Int) (k:Int))=zs1:=fun h=>by
  rw[Em h2,List.drop_take,<-hM];exact(Ui h3 h).symm
 by_cases hlt:k<t.size
 ·obtain⟨g,hg⟩:=xm (show k<(kS t.list).length by omega);have hat:=zlf hg;have hd:((kS t.list).drop r)[k-r]?=some g:=by rw[zpw,show r+(k-r)=k by omega];exact hg
  cases hb:pr g
  ·have hpg:=hpr g;rw[hb] at hpg;have hl2:=hlst fun y hy=>by rw[hd] at hy;cases hy;exact hb
   refine(Zf∘Zr∘Zba∘ZeU∘ZbB∘ZcQ∘Zt∘Zba∘Za) ?_;refine z71 L Z (fun u H hH hle=>UT.at_m _ hH (⟨_,rfl,ht.le hle⟩) T hat) ?_;refine(ZA∘Za1∘Zk) ?_;refine Tx 9 rfl ((ZS∘ZbN) ?_);refine z7 (qb L Z Z (zm Z) Z Z hfn (fun u H hH hle _=>hpg u H hH hle)) Z ((Zm∘Z3∘Ze2∘Zeb∘Zd2∘Zbh∘Zy∘ZbV∘Zb) ?_);refine z7 (wq L Z Z (zm Z) Z Z Z (fun u H hH hle _=>t8 hl2 hs hH (ht.le hle))) Z (qg (yu (.inr Z) Z) (Zw (h:=?_)));exact lf Z (fun _ _ h=>h) nq Z
  ·have hpg:=hpr g;rw[hb] at hpg;refine(Zf∘Zr∘Zba∘ZeU∘ZbB∘ZcQ∘Zt∘Zba∘Za) ?_;refine z71 L Z (fun u H hH hle=>UT.at_m _ hH (⟨_,rfl,ht.le hle⟩) T hat) ?_;refine(ZA∘Za1∘Zk) ?_;refine Tx 9 rfl ((ZS∘ZbN) ?_);refine z7 (qb L Z Z (zm Z) Z Z hfn (fun u H hH hle _=>hpg u H hH hle)) Z ((Zm∘Zac∘Zbr∘ZL∘Zay∘Zag) ?_);refine yo (x:=k) (k+1) ⟨by omega,hlt,?_⟩ T ⟨Z,Z,Z,Z,nm⟩;rw[show k+1-r=(k-r)+1 by omega,zpa,hd,zr7,h3];simp [hb]
 ·obtain rfl:k=t.size:=by omega
  have hl2:=hlst fun y hy=>by rw[zpw,zo1 T] at hy;cases hy
  refine(Zf∘Zr∘Zba∘ZeU∘Z0∘Za5∘Zy∘ZbV∘Zb) ?_;refine z7 (wq L Z Z (zm Z) Z Z Z (fun u H hH hle _=>t8 hl2 hs hH (ht.le hle))) Z (qg (yu (.inr Z) Z) (Zw (h:=?_)));exact lf Z (fun _ _ h=>h) nq Z
def SetV.both(hv:SetV l v B)(hl:l.length<=100000):∃ f p k q t u,v=.agg #[f,.pointer p,k,.pointer q]/\TS l t u/\UT.TA t (.pointer p) B/\UT.TA u (.pointer q) B/\
  (∀ (x:U) (w:World) (H:Heap),zs4 H w->B.Le H->Ret zs5 134 [.agg #[f,.pointer p],uv x] w H (fun r _=>r=.int .i64 (ct kw x l)))/\
  (∀ (x:U) (w:World) (H:Heap),zs4 H w->B.Le H->Ret zs5 134 [.agg #[k,.pointer q],uv x] w H (fun r _=>r=.int .i64 (ct ig x (fg ig [] l)))):=by
 obtain⟨p,q,t,u,hT,ht,hu,rfl | ⟨rfl,rfl,rfl,rfl⟩⟩:=hv
 ·have hts:=hT.size;have hus:=hT.zu;exact⟨_,_,_,_,t,u,rfl,hT,ht,hu,fun x w H hH hle=>UT.rank_m zdi x hH (⟨_,rfl,ht.le hle⟩) T (hT.rank x),fun x w H hH hle=>UT.rank_m zk5 x hH (⟨_,rfl,hu.le hle⟩) T (hT.ranku x)⟩
 ·exact⟨_,_,_,_,t,u,rfl,hT,ht,hu,fun x w H hH hle=>UT.rank_nil x hH,fun x w H hH hle=>UT.rank_nil x hH⟩
def SetV.trees(hv:SetV l v B):∃ f p k q t u,v=.agg #[f,.pointer p,k,.pointer q]/\TS l t u/\UT.TA t (.pointer p) B/\UT.TA u (.pointer q) B:=by
 obtain⟨p,q,t,u,hT,ht,hu,rfl | ⟨rfl,rfl,rfl,rfl⟩⟩:=hv
 ·exact⟨_,_,_,_,t,u,rfl,hT,ht,hu⟩
 ·exact⟨_,_,_,_,t,u,rfl,hT,ht,hu⟩
def zjm(hl:l.length<=100000)(hB:zs4 B w)(hv:SetV l v B):RetO zs5 11 [v] w B (SlE tyU 6 l.length (l.flatMap ucs)):=by
 obtain⟨f,p,k,q,t,u,rfl,hT,ht,hu⟩:=hv.trees;have hts:=hT.size
 have hr:kS (UT.rangeL t 0 (l.length:Int))=l:=by
  have:=Em (t:=t) (r:=0) (k:=l.length) T;rw[show((0:Nat):Int)=0 from rfl] at this;rw[this,hT.kt,zpy,zoy]
 refine wz Tryz.func11 Z Tryz.ntmps11 (np Z) hB ((ZD∘Zd) ?_);refine qn (id:=1) [(2,[7])] ko J ((Zbt∘Zdl∘ZdS) ?_);refine z81 L Z (fun u H hH hle=>lq Z hH (hv.le hle)) ?_;refine z8 (wq L Z Z (zm Z) Z Z Z (fun u H hH hle _=>t8 hr T hH (ht.le hle))) Z (kf (yu (.inr Z) Z) Z Z (Zb3 (h:=?_)));exact lf Z (fun _ _ h=>h) nq Z
def Ut{g:Dx}{y:U}(hr:decide (y.2=g)=r)(hB:zs4 B w)(hb:B b=some (.cells #[.string g.1.1,.string g.1.2,.string g.2] 55)):
  Ret zs5 161 ([uv y]++[.pointer (some ⟨b,0,none⟩)]) w B (fun v _=>v=.bool r):=by
 have he:=eq3 hr;refine yr Tryz.func161 Z Tryz.ntmps161 (np Z) hB ((Zcy∘Zbn) ?_);refine z7 (zz L (vs:=[_,_,_]) (qt Z M) Z Z Z Z ⟨_,rfl⟩) Z (z7 (C7 Z Z Z Z zm2 M Z) Z (Zc (h:=?_)));exact yj2 L [.tmp 3]
abbrev g3v(g:Dx):Value:=.agg #[.string g.1.1,.string g.1.2,.string g.2]
def zmc{g:Dx}(hM:zir l g=zs1)(hl:l.length<=100000)(hB:zs4 B w)(hv:SetV l v B):RetO zs5 89 [v,g3v g] w B (SlE tyU 6 zs1.length (zs1.flatMap ucs)):=by
 obtain⟨f,p,k,q,t,u,rfl,hT,ht,hu,_,hr2⟩:=hv.both hl;have hus:=hT.zu;have hrun:=zgi hT.st g;rw[hM] at hrun;have hkt:=hT.bySub;have hln:(fg ig [] l).length=u.size:=by rw[<-hkt,<-Tr.size_list];simp
 refine wz Tryz.func89 Z Tryz.ntmps89 (np Z) hB ((Zal∘Zd) ?_);refine o7 3 rfl ?_;rintro _ H3 hs3 ⟨b3,rfl,hb3⟩;refine(Zan∘Zba) ?_;refine z7 (zz L (vs:=[_,_,_]) (qt Z M) Z Z Z Z ⟨_,rfl⟩) Z ((Zc1∘Za7) ?_);refine z7 (wq L Z Z (zm Z) Z Z Z (fun u H hH hle _=>e7 (zs1:=zs1) (caps:=[.pointer (some ⟨b3,0,none⟩)]) (pr:=fun z=>decide (z.2=g)) (x:=(n3,g)) Z (fun y u' H' hH' hle'=>Ut Z hH' (hle' _ _ (hle _ _ hb3))) (fun u' H' hH' hle'=>hr2 _ u' H' hH' (hs3.le.trans (hle.trans hle'))) (by rw[<-hln];exact ow _ _) (by rw[hkt];exact hrun) T hH (hu.le (hs3.le.trans hle)))) Z ?_;refine qg (yu (.inr Z) Z) (Zw (h:=?_));exact lf Z (fun _ _ h=>h) hs3 Z
def _root_.Zef(t:Wr Y->A:=by intro h;refine z7 (zz L (vs:=[_,_,_,_,_,_,_]) (qt Z M) Z Z Z Z ⟨_,rfl⟩) Z ?_;exact h.1)(h:Y):A:=t ⟨h⟩
def _root_.ZdT(t:Wr Y->A:=by intro h;refine z7 (yv (cs:=[_,_,_,_,_,_,_]) Z Z zof Z Z) Z ?_;exact h.1)(h:Y):A:=t ⟨h⟩
def _root_.Zcs(t:Wr Y->A:=by intro h;refine ze (id:=19) ?_;exact h.1)(h:Y):A:=t ⟨h⟩
def _root_.ZeW(t:Wr Y->A:=by intro h;refine z7 (zz L (vs:=[_,_,_,_,_,_]) (yd Z (List.Mem.head _)) Z Z Z Z ⟨_,rfl⟩) Z ?_;exact h.1)(h:Y):A:=t ⟨h⟩
def _root_.ZcS(t:Wr Y->A:=by exact fun h=>(Zai∘Zai) h.1)(h:Y):A:=t ⟨h⟩
def _root_.ZbP(t:Wr Y->A:=by exact fun h=>(ZcS∘Zai) h.1)(h:Y):A:=t ⟨h⟩
def _root_.Zfv(t:Wr Y->A:=by intro h;refine z7 (zg8 L Z Z Z Z) Z ?_;refine ZaR (h:=?_);exact h.1)(h:Y):A:=t ⟨h⟩
def Nq(f:FT):jl (r6 f)=min (jl f) 3:=by
 unfold r6;rcases dq f with ⟨h,h1⟩ | ⟨h,h1,h2⟩ | ⟨h,h1,h2,h3⟩ | ⟨h,h1,h2,h3,h4⟩ | ⟨h,h1,h2,h3,h4⟩<;>rw[h]<;>simp [jl, *]
def zcx(h:jl (r6 f)=k)(hk:k<=3):Bg (r6 f)=(((if 1<=k then f.1.1.1 else ⟨#[]⟩,if 2<=k then f.1.1.2 else ⟨#[]⟩),if 3<=k then f.1.2 else ⟨#[]⟩),n3):=by
 unfold Bg;rw[h,nc (show ¬ 4<=k by omega)];rfl
def G6(h:jl (r6 f)=k)(hk:k<=3):ia (r6 f)=(((if 1<=k then f.1.1.1 else ⟨#[]⟩,if 2<=k then f.1.1.2 else ⟨#[]⟩),if 3<=k then f.1.2 else ⟨#[]⟩),n3,false):=by
 unfold ia;rw[h,nc (show ¬ 4<=k by omega),ng (show ¬ 4<=k by omega)];rfl
attribute [local irreducible] RetT
def Q4{x:Value}(hB:zs4 B w)(hx:(SlR tyU 6 l.length (l.flatMap ucs)).P x B w C)(hC:ZCB C w B):
  RetT zs5 80 [x] w B C (SlC tyU 6 l.length (l.flatMap ucs)):=by
 unfold RetT;refine Hs 0 (x:=x) (SlR tyU 6 l.length (l.flatMap ucs)) Z Tryz.func80 Z Tryz.ntmps80 (np Z) hB hx hC ?_;refine Br 0 900 _ Z SlR.shape2 fun y hy=>?_;obtain⟨p,c,rfl,hmc,hp⟩:=hy;refine(ZK∘Zb∘Zco∘Za∘Zco) ?_;refine z7 (zcb L hp hmc Z Z Z Z Z Z Z) Z (Zc (h:=?_));exact zar 2 900 rfl Z (Fg Z (fun _ _ h=>h) nq Z)
def aa{y:U}(hr:xn f y=r)(hB:zs4 B w)(hb:B b=some (.cells #[.string f.1.1.1,.string f.1.1.2,.string f.1.2,.string f.2.1.1.1,.string f.2.1.1.2,.string f.2.1.2,.bool f.2.2] 85)):
  Ret zs5 78 ([uv y]++[.pointer (some ⟨b,0,none⟩)]) w B (fun v _=>v=.bool r):=by
 refine yr Tryz.func78 Z Tryz.ntmps78 (np Z) hB ((Zcy∘Zef∘Zdw) ?_);refine z71 L Z (fun u H hH _=>vw hr hH) ?_;refine Zc (h:=?_);exact yj2 L [.tmp 3]
def zey(l:List U)(f:FT):List U:=if fE f=0 then zmx l f else []
set_option maxRecDepth 10000 in
def zge{l Y:List U}(hM:zey l f=Y)(hl:l.length<=100000)(hz:FM f)(hB:zs4 B w)(hv:SetV l v B):RetO zs5 27 [v,fv f] w B (SlC tyU 6 Y.length (Y.flatMap ucs)):=by
 obtain⟨fn,p,k,q,t,u,rfl,hT,ht,hu,hr1,_⟩:=hv.both hl;have hts:=hT.size;have hkt:=hT.kt;unfold zey at hM;refine wz Tryz.func27 Z Tryz.ntmps27 (np Z) hB ?_;by_cases hE:fE f=0
 ·rw[na hE] at hM;have hrun:=U1 hT.st f;rw[hM] at hrun;have hpn:=Nq f;obtain⟨n,hn⟩:∃ n,jl f=n:=⟨_,rfl⟩
  rw[hn] at hpn;refine(Zal∘ZH∘Zb0) ?_;refine z71 L Z (fun u H hH _=>ue hz hE hH) ?_;refine(Zb4∘Z6∘Zc1∘ZY∘Zt∘Zb0) ?_;refine z71 L Z (fun u H hH _=>En hn hH) ?_;refine Zk (h:=?_);refine ug 5 rfl fun b5 hb5=>?_;by_cases n0:n=0
  ·subst n0;have hk3:jl (r6 f)=0:=T;have hle:=zcx hk3 E;have hfi:=G6 hk3 E;simp only[Nat.reduceLeDiff,if_true,if_false] at hle hfi;rw[hle,hfi] at hrun;generalize hR:(l.drop (ct kw (((⟨#[]⟩,⟨#[]⟩),⟨#[]⟩),n3) l)).takeWhile (fun z=>xn (((⟨#[]⟩,⟨#[]⟩),⟨#[]⟩),n3,false) z)=R at hrun
   have hRl:R.length<=100000:=by
    rw[<-hR];exact mp (Ry _ _) (by rw[m8];omega)
   refine(ZS∘ZM∘ZV∘Z7∘ZM∘ZV∘Zaq∘ZM∘Zx∘ZG∘ZbP∘Zcf∘ZbP∘Zcf∘ZcS∘Zcf∘ZdT∘ZY∘ZJ∘Zk) ?_;refine Tx 7 rfl (o7 7 rfl ?_);rintro _ H7 hs7 ⟨b7,rfl,hb7⟩;refine(Zae∘Zba∘ZeW∘Za7) ?_;refine z7 (wq L Z Z (zm Z) Z Z Z (fun u H hH hle _=>e7 (zs1:=R) (caps:=[.pointer (some ⟨b7,0,none⟩)]) (pr:=fun z=>xn (((⟨#[]⟩,⟨#[]⟩),⟨#[]⟩),n3,false) z) (x:=(((⟨#[]⟩,⟨#[]⟩),⟨#[]⟩),n3)) Z (fun y u' H' hH' hle'=>aa (f:=(((⟨#[]⟩,⟨#[]⟩),⟨#[]⟩),n3,false)) Z hH' (hle' _ _ (hle _ _ hb7))) (fun u' H' hH' hle'=>hr1 _ u' H' hH' (hs7.le.trans (hle.trans hle'))) (by rw[hts];exact ow _ _) (by rw[hkt];exact hR) T hH (ht.le (hs7.le.trans hle)))) Z ?_;refine Zfv (h:=?_);refine Fi 53 rfl (ul 8 tyU 6 rfl (Hq 53 (US R true) Z ns (fun v H h=>h) ?_))
   refine xp (fun y:Nat×List U=>[(3,.sat (At (fcs f) tyF 0)),(8,.own (SlR tyU 6 y.2.length (y.2.flatMap ucs))),(53,.sat (US R true)),(54,.is (.int .i64 R.length)),(55,.is (.int .i64 y.1))])
    (fun y=>y.1<=R.length/\y.2=(R.take y.1).filter (xn f)) (fun y=>R.length-y.1) (0,[]) ⟨mb _,rfl⟩ ⟨rfl,rfl,rfl,rfl,rfl,nm⟩ ?_
   rintro⟨k,out⟩ ⟨hk,hout⟩;dsimp only at hk hout |-;have hol:out.length<=k:=by rw[hout];exact mp (zpp ..) (by rw[mi];omega)
   by_cases hlt:k<R.length
   ·obtain⟨t1,ht1⟩:=xm hlt;have hc:=pg ht1;have htk:R.take (k+1)=R.take k++[t1]:=ei ht1;cases htt:xn f t1
    ·have ho:out=(R.take (k+1)).filter (xn f):=by rw[htk,zpc,<-hout];simp [htt]
     refine(Ze∘ZaD∘Zat∘Zaa∘Zaz∘ZaE∘ZY∘Zaj∘Zb0∘Za3) ?_;refine z71 L Z (fun u H hH _=>vw htt hH) ?_;refine(Zbl∘ZaO∘ZB) ?_;exact jn (x:=(k,out)) (k+1,out) Since.refl ⟨hlt,ho⟩ G ⟨Z,Z,Z,Z,Z,nm⟩
    ·have ho:out++[t1]=(R.take (k+1)).filter (xn f):=by rw[htk,zpc,<-hout];simp [htt]
     refine(Ze∘ZaD∘Zat∘Zaa∘Zaz∘ZaE∘ZY∘Zaj∘Zb0∘Za3) ?_;refine z71 L Z (fun u H hH _=>vw htt hH) ?_;refine(Z3∘Zbx) ?_;refine qg (yu (.inl Z) Z) ((Za3∘Zc5) ?_);refine qg (yu (.inr Z) Z) ((ZaA∘ZaO∘ZB) ?_);exact jn (x:=(k,out)) (k+1,out++[t1]) Since.refl ⟨hlt,ho⟩ G ⟨Z,v7 Z,Z,Z,Z,nm⟩
   ·obtain rfl:k=R.length:=by omega
    rw[zoy,hrun] at hout;subst hout;refine(Ze∘ZaD∘Zak∘Zcs) ?_;refine qg (yu (.inl Z) Z) (qg (bh L (q:=67) Z Z Z Z Z (fun u H C x hH hle hx hC=>Q4 hH hx hC)) (qg (yu (.inr Z) Z) (Zw (h:=?_))));exact lf Z (fun _ _ h=>h) hs7 Z
  ·by_cases n1:n=1
   ·subst n1;have hk3:jl (r6 f)=1:=T;have hle:=zcx hk3 E;have hfi:=G6 hk3 E;simp only[Nat.reduceLeDiff,if_true,if_false] at hle hfi;rw[hle,hfi] at hrun;generalize hR:(l.drop (ct kw (((f.1.1.1,⟨#[]⟩),⟨#[]⟩),n3) l)).takeWhile (fun z=>xn (((f.1.1.1,⟨#[]⟩),⟨#[]⟩),n3,false) z)=R at hrun
    have hRl:R.length<=100000:=by
     rw[<-hR];exact mp (Ry _ _) (by rw[m8];omega)
    refine(ZS∘ZP∘Z3∘ZO∘Zo∘ZcS∘Zeu∘Z7∘ZM∘ZV∘Zaq∘ZM∘Zx∘ZG∘ZbP∘Zcf∘ZbP∘Zcf∘ZcS∘Zcf∘ZdT∘ZY∘ZJ∘Zk) ?_;refine Tx 7 rfl (o7 7 rfl ?_);rintro _ H7 hs7 ⟨b7,rfl,hb7⟩;refine(Zae∘Zba∘ZeW∘Za7) ?_;refine z7 (wq L Z Z (zm Z) Z Z Z (fun u H hH hle _=>e7 (zs1:=R) (caps:=[.pointer (some ⟨b7,0,none⟩)]) (pr:=fun z=>xn (((f.1.1.1,⟨#[]⟩),⟨#[]⟩),n3,false) z) (x:=(((f.1.1.1,⟨#[]⟩),⟨#[]⟩),n3)) Z (fun y u' H' hH' hle'=>aa (f:=(((f.1.1.1,⟨#[]⟩),⟨#[]⟩),n3,false)) Z hH' (hle' _ _ (hle _ _ hb7))) (fun u' H' hH' hle'=>hr1 _ u' H' hH' (hs7.le.trans (hle.trans hle'))) (by rw[hts];exact ow _ _) (by rw[hkt];exact hR) T hH (ht.le (hs7.le.trans hle)))) Z ?_;refine Zfv (h:=?_);refine Fi 53 rfl (ul 8 tyU 6 rfl (Hq 53 (US R true) Z ns (fun v H h=>h) ?_))
    refine xp (fun y:Nat×List U=>[(3,.sat (At (fcs f) tyF 0)),(8,.own (SlR tyU 6 y.2.length (y.2.flatMap ucs))),(53,.sat (US R true)),(54,.is (.int .i64 R.length)),(55,.is (.int .i64 y.1))])
     (fun y=>y.1<=R.length/\y.2=(R.take y.1).filter (xn f)) (fun y=>R.length-y.1) (0,[]) ⟨mb _,rfl⟩ ⟨rfl,rfl,rfl,rfl,rfl,nm⟩ ?_
    rintro⟨k,out⟩ ⟨hk,hout⟩;dsimp only at hk hout |-;have hol:out.length<=k:=by rw[hout];exact mp (zpp ..) (by rw[mi];omega)
    by_cases hlt:k<R.length
    ·obtain⟨t1,ht1⟩:=xm hlt;have hc:=pg ht1;have htk:R.take (k+1)=R.take k++[t1]:=ei ht1;cases htt:xn f t1
     ·have ho:out=(R.take (k+1)).filter (xn f):=by rw[htk,zpc,<-hout];simp [htt]
      refine(Ze∘ZaD∘Zat∘Zaa∘Zaz∘ZaE∘ZY∘Zaj∘Zb0∘Za3) ?_;refine z71 L Z (fun u H hH _=>vw htt hH) ?_;refine(Zbl∘ZaO∘ZB) ?_;exact jn (x:=(k,out)) (k+1,out) Since.refl ⟨hlt,ho⟩ G ⟨Z,Z,Z,Z,Z,nm⟩
     ·have ho:out++[t1]=(R.take (k+1)).filter (xn f):=by rw[htk,zpc,<-hout];simp [htt]
      refine(Ze∘ZaD∘Zat∘Zaa∘Zaz∘ZaE∘ZY∘Zaj∘Zb0∘Za3) ?_;refine z71 L Z (fun u H hH _=>vw htt hH) ?_;refine(Z3∘Zbx) ?_;refine qg (yu (.inl Z) Z) ((Za3∘Zc5) ?_);refine qg (yu (.inr Z) Z) ((ZaA∘ZaO∘ZB) ?_);exact jn (x:=(k,out)) (k+1,out++[t1]) Since.refl ⟨hlt,ho⟩ G ⟨Z,v7 Z,Z,Z,Z,nm⟩
    ·obtain rfl:k=R.length:=by omega
     rw[zoy,hrun] at hout;subst hout;refine(Ze∘ZaD∘Zak∘Zcs) ?_;refine qg (yu (.inl Z) Z) (qg (bh L (q:=67) Z Z Z Z Z (fun u H C x hH hle hx hC=>Q4 hH hx hC)) (qg (yu (.inr Z) Z) (Zw (h:=?_))));exact lf Z (fun _ _ h=>h) hs7 Z
   ·by_cases n2:n=2
    ·subst n2;have hk3:jl (r6 f)=2:=T;have hle:=zcx hk3 E;have hfi:=G6 hk3 E;simp only[Nat.reduceLeDiff,if_true,if_false] at hle hfi;rw[hle,hfi] at hrun;generalize hR:(l.drop (ct kw (((f.1.1.1,f.1.1.2),⟨#[]⟩),n3) l)).takeWhile (fun z=>xn (((f.1.1.1,f.1.1.2),⟨#[]⟩),n3,false) z)=R at hrun
     have hRl:R.length<=100000:=by
      rw[<-hR];exact mp (Ry _ _) (by rw[m8];omega)
     refine(ZS∘ZP∘Z3∘ZO∘Zo∘ZcS∘Zeu∘Z7∘ZP∘Z3∘Zu∘Zo∘ZcS∘Zeu∘Zaq∘ZM∘Zx∘ZG∘ZbP∘Zcf∘ZbP∘Zcf∘ZcS∘Zcf∘ZdT∘ZY∘ZJ∘Zk) ?_;refine Tx 7 rfl (o7 7 rfl ?_);rintro _ H7 hs7 ⟨b7,rfl,hb7⟩;refine(Zae∘Zba∘ZeW∘Za7) ?_;refine z7 (wq L Z Z (zm Z) Z Z Z (fun u H hH hle _=>e7 (zs1:=R) (caps:=[.pointer (some ⟨b7,0,none⟩)]) (pr:=fun z=>xn (((f.1.1.1,f.1.1.2),⟨#[]⟩),n3,false) z) (x:=(((f.1.1.1,f.1.1.2),⟨#[]⟩),n3)) Z (fun y u' H' hH' hle'=>aa (f:=(((f.1.1.1,f.1.1.2),⟨#[]⟩),n3,false)) Z hH' (hle' _ _ (hle _ _ hb7))) (fun u' H' hH' hle'=>hr1 _ u' H' hH' (hs7.le.trans (hle.trans hle'))) (by rw[hts];exact ow _ _) (by rw[hkt];exact hR) T hH (ht.le (hs7.le.trans hle)))) Z ?_;refine Zfv (h:=?_);refine Fi 53 rfl (ul 8 tyU 6 rfl (Hq 53 (US R true) Z ns (fun v H h=>h) ?_))
     refine xp (fun y:Nat×List U=>[(3,.sat (At (fcs f) tyF 0)),(8,.own (SlR tyU 6 y.2.length (y.2.flatMap ucs))),(53,.sat (US R true)),(54,.is (.int .i64 R.length)),(55,.is (.int .i64 y.1))])
      (fun y=>y.1<=R.length/\y.2=(R.take y.1).filter (xn f)) (fun y=>R.length-y.1) (0,[]) ⟨mb _,rfl⟩ ⟨rfl,rfl,rfl,rfl,rfl,nm⟩ ?_
     rintro⟨k,out⟩ ⟨hk,hout⟩;dsimp only at hk hout |-;have hol:out.length<=k:=by rw[hout];exact mp (zpp ..) (by rw[mi];omega)
     by_cases hlt:k<R.length
     ·obtain⟨t1,ht1⟩:=xm hlt;have hc:=pg ht1;have htk:R.take (k+1)=R.take k++[t1]:=ei ht1;cases htt:xn f t1
      ·have ho:out=(R.take (k+1)).filter (xn f):=by rw[htk,zpc,<-hout];simp [htt]
       refine(Ze∘ZaD∘Zat∘Zaa∘Zaz∘ZaE∘ZY∘Zaj∘Zb0∘Za3) ?_;refine z71 L Z (fun u H hH _=>vw htt hH) ?_;refine(Zbl∘ZaO∘ZB) ?_;exact jn (x:=(k,out)) (k+1,out) Since.refl ⟨hlt,ho⟩ G ⟨Z,Z,Z,Z,Z,nm⟩
      ·have ho:out++[t1]=(R.take (k+1)).filter (xn f):=by rw[htk,zpc,<-hout];simp [htt]
       refine(Ze∘ZaD∘Zat∘Zaa∘Zaz∘ZaE∘ZY∘Zaj∘Zb0∘Za3) ?_;refine z71 L Z (fun u H hH _=>vw htt hH) ?_;refine(Z3∘Zbx) ?_;refine qg (yu (.inl Z) Z) ((Za3∘Zc5) ?_);refine qg (yu (.inr Z) Z) ((ZaA∘ZaO∘ZB) ?_);exact jn (x:=(k,out)) (k+1,out++[t1]) Since.refl ⟨hlt,ho⟩ G ⟨Z,v7 Z,Z,Z,Z,nm⟩
     ·obtain rfl:k=R.length:=by omega
      rw[zoy,hrun] at hout;subst hout;refine(Ze∘ZaD∘Zak∘Zcs) ?_;refine qg (yu (.inl Z) Z) (qg (bh L (q:=67) Z Z Z Z Z (fun u H C x hH hle hx hC=>Q4 hH hx hC)) (qg (yu (.inr Z) Z) (Zw (h:=?_))));exact lf Z (fun _ _ h=>h) hs7 Z
    ·have hn3:3<=n:=T;have hk3:jl (r6 f)=3:=by rw[hpn];omega
     have hle:=zcx hk3 E;have hfi:=G6 hk3 E;simp only[Nat.reduceLeDiff,if_true,if_false] at hle hfi;rw[hle,hfi] at hrun;generalize hR:(l.drop (ct kw (((f.1.1.1,f.1.1.2),f.1.2),n3) l)).takeWhile (fun z=>xn (((f.1.1.1,f.1.1.2),f.1.2),n3,false) z)=R at hrun
     have hRl:R.length<=100000:=by
      rw[<-hR];exact mp (Ry _ _) (by rw[m8];omega)
     refine(ZS∘ZP∘Z3∘ZO∘Zo∘ZcS∘Zeu∘Z7∘ZP∘Z3∘Zu∘Zo∘ZcS∘Zeu∘Zaq∘ZP∘Z3∘Z4∘Zo∘Zai∘Zc8∘Zg∘ZG∘ZbP∘Zcf∘ZbP∘Zcf∘ZcS∘Zcf∘ZdT∘ZY∘ZJ∘Zk) ?_;refine Tx 7 rfl (o7 7 rfl ?_);rintro _ H7 hs7 ⟨b7,rfl,hb7⟩;refine(Zae∘Zba∘ZeW∘Za7) ?_;refine z7 (wq L Z Z (zm Z) Z Z Z (fun u H hH hle _=>e7 (zs1:=R) (caps:=[.pointer (some ⟨b7,0,none⟩)]) (pr:=fun z=>xn (((f.1.1.1,f.1.1.2),f.1.2),n3,false) z) (x:=(((f.1.1.1,f.1.1.2),f.1.2),n3)) Z (fun y u' H' hH' hle'=>aa (f:=(((f.1.1.1,f.1.1.2),f.1.2),n3,false)) Z hH' (hle' _ _ (hle _ _ hb7))) (fun u' H' hH' hle'=>hr1 _ u' H' hH' (hs7.le.trans (hle.trans hle'))) (by rw[hts];exact ow _ _) (by rw[hkt];exact hR) T hH (ht.le (hs7.le.trans hle)))) Z ?_;refine Zfv (h:=?_);refine Fi 53 rfl (ul 8 tyU 6 rfl (Hq 53 (US R true) Z ns (fun v H h=>h) ?_))
     refine xp (fun y:Nat×List U=>[(3,.sat (At (fcs f) tyF 0)),(8,.own (SlR tyU 6 y.2.length (y.2.flatMap ucs))),(53,.sat (US R true)),(54,.is (.int .i64 R.length)),(55,.is (.int .i64 y.1))])
      (fun y=>y.1<=R.length/\y.2=(R.take y.1).filter (xn f)) (fun y=>R.length-y.1) (0,[]) ⟨mb _,rfl⟩ ⟨rfl,rfl,rfl,rfl,rfl,nm⟩ ?_
     rintro⟨k,out⟩ ⟨hk,hout⟩;dsimp only at hk hout |-;have hol:out.length<=k:=by rw[hout];exact mp (zpp ..) (by rw[mi];omega)
     by_cases hlt:k<R.length
     ·obtain⟨t1,ht1⟩:=xm hlt;have hc:=pg ht1;have htk:R.take (k+1)=R.take k++[t1]:=ei ht1;cases htt:xn f t1
      ·have ho:out=(R.take (k+1)).filter (xn f):=by rw[htk,zpc,<-hout];simp [htt]
       refine(Ze∘ZaD∘Zat∘Zaa∘Zaz∘ZaE∘ZY∘Zaj∘Zb0∘Za3) ?_;refine z71 L Z (fun u H hH _=>vw htt hH) ?_;refine(Zbl∘ZaO∘ZB) ?_;exact jn (x:=(k,out)) (k+1,out) Since.refl ⟨hlt,ho⟩ G ⟨Z,Z,Z,Z,Z,nm⟩
      ·have ho:out++[t1]=(R.take (k+1)).filter (xn f):=by rw[htk,zpc,<-hout];simp [htt]
       refine(Ze∘ZaD∘Zat∘Zaa∘Zaz∘ZaE∘ZY∘Zaj∘Zb0∘Za3) ?_;refine z71 L Z (fun u H hH _=>vw htt hH) ?_;refine(Z3∘Zbx) ?_;refine qg (yu (.inl Z) Z) ((Za3∘Zc5) ?_);refine qg (yu (.inr Z) Z) ((ZaA∘ZaO∘ZB) ?_);exact jn (x:=(k,out)) (k+1,out++[t1]) Since.refl ⟨hlt,ho⟩ G ⟨Z,v7 Z,Z,Z,Z,nm⟩
     ·obtain rfl:k=R.length:=by omega
      rw[zoy,hrun] at hout;subst hout;refine(Ze∘ZaD∘Zak∘Zcs) ?_;refine qg (yu (.inl Z) Z) (qg (bh L (q:=67) Z Z Z Z Z (fun u H C x hH hle hx hC=>Q4 hH hx hC)) (qg (yu (.inr Z) Z) (Zw (h:=?_))));exact lf Z (fun _ _ h=>h) hs7 Z
 ·rw[nc hE] at hM;subst hM;refine(Zal∘ZH∘Zb0) ?_;refine z71 L Z (fun u H hH _=>ue hz Z hH) ?_;refine(Za0∘Zv∘Zc) ?_;exact zlj 4 tyU 6 rfl (znb 4 rfl (lf Z (fun _ _ h=>h) nq Z))
end Go.V.L6
namespace Go.V.L6
open Go.V.L2 Go.V.L3
def _root_.Zbg(t:Wr Y->A:=by intro h;refine z7 (zz L (vs:=[_,_,_,_]) (y7 Z) Z Z Z Z ⟨_,rfl⟩) Z ?_;exact h.1)(h:Y):A:=t ⟨h⟩
def _root_.Zfw(t:Wr Y->A:=by intro h;refine z7 (yv (cs:=[_,_,_,_,_,_,_]) Z Z znl Z Z) Z ?_;exact h.1)(h:Y):A:=t ⟨h⟩
def LE2.out{a v:Value}(h:TupS [φ,fun v _=>v=a] v H):∃ tv,v=.tuple #[tv,a]/\φ tv H:=by
 obtain⟨vs,rfl,hl,h⟩:=h
 match vs,hl with
 | [x,y],_=>
  have h1:=h 0 _ x rfl rfl;have h2:=h 1 _ y rfl rfl;subst h2;exact⟨x,rfl,h1⟩
def WithP(l:List U)(e:Int)(r:Value)(H:Heap):Prop:=∃ tv,r=.tuple #[tv,.int .i64 e]/\SetV l tv H
def WithP.mono:Kn.mono (.sat (WithP l e)):=fun _ _ _ ⟨tv,h1,h2⟩ hle=>⟨tv,h1,h2.le hle⟩
def dl(hl:l.length<=100000)(hB:zs4 B w)(hv:SetV l v B):Ret zs5 11 [v] w B (US l true):=(zjm hl hB hv).toRet ci
def Pr{g:Dx}(hM:zir l g=zs1)(hl:l.length<=100000)(hB:zs4 B w)(hv:SetV l v B):Ret zs5 89 [v,g3v g] w B (US zs1 true):=(zmc hM hl hB hv).toRet ci
def c9{Y:List U}(hM:zey l f=Y)(hl:l.length<=100000)(hz:FM f)(hB:zs4 B w)(hv:SetV l v B):Ret zs5 27 [v,fv f] w B (US Y true):=(zge hM hl hz hB hv).toRet zct
def An{x:U}{d:Bool}(hr:wo l x d=(m,e))(hl:l.length<=4096)(hz:TZ x)(hB:zs4 B w)(hv:SetV l v B):
  Ret zs5 41 [v,chv x d] w B (WithP m e):=(za8 hr hl hz hB hv).mono fun _ _ _ h=>LE2.out h
attribute [local irreducible] V N X VO Par StepOK Has Ret RetL RetO RetT Src
abbrev zoq:Nat:=72
def Yl{a b:List U}{fa fb:Bool}(hla:a.length<=1000000)(hlb:b.length<=1000000)(hr:decide (a=b)=r){va vb:Value}(hB:zs4 B w)(ha:US a fa va B)(hb:US b fb vb B):
  Ret zs5 zoq [va,vb] w B (fun v _=>v=.bool r):=by
 subst hr;refine yr Tryz.func72 Z Tryz.ntmps72 (np Z) hB (k7 0 (US a fa) Z ns ha (k7 1 (US b fb) Z ns hb ?_));by_cases hl:a.length=b.length
 ·refine(ZQ∘ZH∘Zj∘Zj∘ZbZ∘Z6∘Zj∘ZaR) ?_;refine xp (fun k:Nat=>[(0,.sat (US a fa)),(1,.sat (US b fb)),(12,.is (.int .i64 a.length)),(13,.is (.int .i64 k))]) (fun k=>k<=a.length/\a.take k=b.take k) (fun k=>a.length-k) 0 ⟨mb _,rfl⟩ ⟨Z,Z,Z,Z,nm⟩ ?_;rintro k ⟨hk,he⟩;by_cases hlt:k<a.length
  ·obtain⟨x,hx⟩:=xm hlt;obtain⟨y,hy⟩:=xm (show k<b.length by omega);have hcx:=pg hx;have hcy:=pg hy;by_cases hxy:x=y
   ·have hq:=eqU (nf hxy);refine(ZbU∘ZS∘Zd∘ZcG∘ZaM∘ZaM∘Zfi∘ZaL∘Zds∘Zb8∘Zu∘ZB) ?_;exact yo (x:=k) (k+1) ⟨hlt,by rw[ei hx,ei hy,he,hxy]⟩ T ⟨Z,Z,Z,Z,nm⟩
   ·have hq:=eqU (ng hxy);have hab:a≠b:=fun e=>hxy (by rw[e,hy] at hx;exact(Option.some.inj hx).symm);rw[ng hab];refine(ZbU∘ZS∘Zd∘ZcG∘ZaM∘ZaM∘Zfi∘ZbW∘Ze∘Zy∘Zc) ?_;exact yj2 L [.tmp 4]
  ·obtain rfl:k=a.length:=by omega
   have hab:a=b:=by rw[zoy,hl,zoy] at he;exact he
   rw[nf hab];refine(ZcV∘Zak∘Z2∘Zc) ?_;exact yj2 L [.tmp 4]
 ·have hab:a≠b:=fun e=>hl (by rw[e]);rw[ng hab];refine(ZQ∘ZH∘Zj∘Zj∘Za0∘Zv∘Zc) ?_;exact yj2 L [.tmp 4]
def Uu{a b:List U}(hla:a.length<=100000)(hlb:b.length<=100000)(hr:decide (a=b)=r){va vb:Value}(hB:zs4 B w)(ha:SetV a va B)(hb:SetV b vb B):
  Ret zs5 23 [va,vb] w B (fun v _=>v=.bool r):=by
 obtain⟨f1,p1,f2,q1,hsh,hpl⟩:=ha.shape;subst hsh;obtain⟨f3,p3,f4,q3,hsh,hpl3⟩:=hb.shape;subst hsh;refine yr Tryz.func23 Z Tryz.ntmps23 (np Z) hB ((Zal∘ZaW∘Zd∘Zed∘Zl∘ZdS) ?_);refine z8 (xg (φ:=US a true) L Z Z (zm Z) Z Z Z ns (fun u H hH hle _=>dl hla hH (ha.le hle))) Z ((Zl∘ZdS) ?_);refine z8 (xg (φ:=US b true) L Z Z (zm Z) Z Z Z ns (fun u H hH hle _=>dl hlb hH (hb.le hle))) Z (z8 (qb L Z Z (zm Z) Z Z Z (fun u H hH _ _ v1 h1 v2 h2=>Yl T T hr hH h1 h2)) Z (ZaS (h:=?_)));exact yj2 L [.tmp 4]
def zgd{l m:List U}(hr:ofU [] l=(m,e))(hl:l.length<=100000)(hz:∀ t∈l,TZ t)(hB:zs4 B w)(hv:US l fu v B):
  Ret zs5 6 [v] w B (WithP m e):=by
 refine yr Tryz.func6 Z Tryz.ntmps6 (np Z) hB (k7 0 (US l fu) Z ns hv ((Zah∘ZaW∘Zcg∘Zv∘Zj∘ZaR) ?_));refine s7 (X:=SXp) 4 (r:=fun x=>Cell (scs x.1) Az) (φ:=D5 []) (jg []) ⟨(.nilFunc,none,.nilFunc,none),rfl⟩ SetV.nil Z ?_
 refine xp (fun y:Nat×List U=>[(2,.own (Cell [.nilFunc,.pointer none,.nilFunc,.pointer none] Az)),(4,.own (ExR (fun x:SXp=>Cell (scs x.1) Az) (D5 y.2) (jg y.2))),(9,.sat (US l fu)),(10,.is (.int .i64 l.length)),(11,.is (.int .i64 y.1))])
  (fun y=>y.1<=l.length/\ofU y.2 (l.drop y.1)=(m,e)/\y.2.length<=4096) (fun y=>l.length-y.1) (0,[]) ⟨mb _,hr,mb _⟩ ⟨rfl,rfl,rfl,rfl,rfl,nm⟩ ?_
 rintro⟨k,s⟩ ⟨hk,he,hsl⟩;dsimp only at hk he hsl |-;refine uk 4 rfl fun⟨⟨f1,p1,f2,q1⟩,hpl⟩ H3 hs3 hT=>?_;have hT:SetV s (.agg #[f1,.pointer p1,f2,.pointer q1]) H3:=hT;by_cases hlt:k<l.length
 ·obtain⟨t,ht⟩:=xm hlt;have hc:=pg ht;have hzt:=hz t (zo7 ht);rw[ax ht,ofU] at he;rcases hw:wo s t false with ⟨s',e'⟩
  rw[hw] at he;dsimp only at he;have hsl':=Bu hsl t false;rw[hw] at hsl';by_cases h0:e'=0
  ·rw[na h0] at he;subst h0;refine(Zcm∘Zt∘Zaz∘ZaE∘ZY∘Z1∘Zbg∘Za3∘Zfw) ?_;refine z7 (xg (φ:=WithP s' 0) L rfl rfl (zm rfl) rfl rfl rfl WithP.mono (fun u H hH hle _=>An hw hsl hzt hH (hT.le hle))) rfl (vo 19 rfl ?_);rintro _ H19 hs19 ⟨tv,rfl,hT19⟩;obtain⟨g1,r1,g2,r2,rfl,hpl2⟩:=hT19.shape;refine(ZA∘ZE∘Zb7∘Zk∘ZL∘Zbf∘Zac∘Zbr∘Zu∘Zbg∘Zb7∘ZaA∘Z2∘ZB) ?_;exact ol (X:=SXp) 4 (r:=fun x=>Cell (scs x.1) Az) (φ:=D5 s') (jg _) ⟨(g1,r1,g2,r2),hpl2⟩ hT19 Z (jn (x:=(k,s)) (k+1,s') (hs3.trans hs19) ⟨hlt,he,hsl'⟩ G ⟨Z,Z,Z,Z,Z,nm⟩)
  ·rw[nc h0] at he;cases he;refine(Zcm∘Zt∘Zaz∘ZaE∘ZY∘Z1∘Zbg∘Za3∘Zfw) ?_;refine z7 (xg (φ:=WithP s' e) L rfl rfl (zm rfl) rfl rfl rfl WithP.mono (fun u H hH hle _=>An hw hsl hzt hH (hT.le hle))) rfl (vo 19 rfl ?_);rintro _ H19 hs19 ⟨tv,rfl,hT19⟩;obtain⟨g1,r1,g2,r2,rfl,hpl2⟩:=hT19.shape;refine(ZA∘ZE∘Zb7∘Zk∘ZL∘Za0∘Zy∘ZdB∘Za∘Zbi) ?_;refine yj L (rs:=[.cell 2 37,.tmp 3]) Z (fun _ _ h=>h) (hs3.trans hs19) fun u H hH hle=>?_;exact⟨_,y7 Z,rfl,_,rfl,SetV.nil⟩
 ·obtain rfl:k=l.length:=by omega
  rw[zq5,ofU] at he;cases he;refine(Zdu∘Zak∘Z4∘Zbg∘Zb7∘Zc) ?_;refine yj L (rs:=[.cell 2 37,.tmp 3]) Z (fun _ _ h=>h) hs3 fun u H hH hle=>?_;exact⟨_,y7 Z,rfl,_,rfl,hT.le hle⟩
end Go.V.L6
namespace Go.V.L3
open Go.V.L2
attribute [local irreducible] V N X VO Par StepOK Has Ret RetL RetO RetT Src
end Go.V.L3
namespace Go.V.L6
open Go.V.L2 Go.V.L3
abbrev R6(l:List U)(e:Int):Value->Heap->Prop:=TupS [US l false,fun v _=>v=.int .i64 e]
def R6.mono{l:List U}{e:Int}:Kn.mono (.sat (R6 l e)):=LE2.mono ns
def zbw(hs:Sst kw l)(x:U):oo l [x] true false false=l.filter fun z=>decide (z≠x):=by
 refine fm cmpT_ord (gz cmpT_ord Sst.nil) (hs.sublist zqd) fun z=>?_;unfold oo b9;rw[fe,zo3,zo3];unfold dy;simp only[mn,m7,zp8,false_or,Bool.and_true,Bool.and_false,Bool.or_false,zo5,decide_eq_true_eq,zre,decide_eq_false_iff_not,ne_eq];constructor
 ·rintro⟨_,h1,h2⟩;exact⟨h1,h2⟩
 ·rintro⟨h1,h2⟩;exact⟨.inl h1,h1,h2⟩
def zgc(hs:Sst kw l){x:U}(hx:x∉l):oo l [x] true true true=oe kw x l:=by
 refine fm cmpT_ord (gz cmpT_ord Sst.nil) (d7 cmpT_ord hs hx) fun z=>?_;unfold oo b9;rw[fe,zo3,ub];unfold dy;simp only[mn,m7,zp8,false_or,Bool.and_true,zq3,zo5,decide_eq_true_eq,zre,decide_eq_false_iff_not];constructor
 ·rintro⟨h,_⟩;exact h.symm
 ·rintro(rfl | h)
  ·exact⟨.inr Z,.inr ⟨hx,rfl⟩⟩
  ·refine⟨.inl h,.inl (.inl ⟨h,fun e=>?_⟩)⟩;subst e;exact hx h
def zen(t:U):tE t=0\/tE t=6:=by
 unfold tE;split
 ·exact Kf _ _ _
 ·rename_i h;exact .inr ((Bp _).resolve_left h)
def Hx{x z:U}{d:Bool}(h:z∈(wo l x d).1):z∈l\/z=x:=by
 unfold wo at h;split at h
 ·split at h
  ·exact .inl (zo3.1 h).1
  ·split at h
   ·exact .inl h
   ·split at h
    ·cases h
    ·exact(ub.1 h).symm
 ·cases h
attribute [local irreducible] V N X VO Par StepOK Has Ret RetL RetO RetT Src
def U0{l m:List U}{x:U}{d fu:Bool}(hr:wo l x d=(m,e))(hs:Sst kw l)(hl:l.length<=90000)(hz:TZ x)(zl:∀ t∈l,TZ t)(hB:zs4 B w)(hv:US l fu v B):
  Ret zs5 43 [v,chv x d] w B (R6 m e):=by
 have z1:∀ t∈[x],TZ t:=fun t ht=>by rw[m7] at ht;subst ht;exact hz
 have zx1:([x]:List U).length<=100000:=show 1<=100000 by decide
 have key:∀ {a b c:Bool} (u:World) (H:Heap) (v1 v2:Value),zs4 H u->US l fu v1 H->SlB (ucs x) tyU 1 v2 H->(a=true/\b=false/\c=false\/a=true/\b=true/\c=true)->Ret zs5 110 [v1,v2,.bool a,.bool b,.bool c] u H (US (oo l [x] a b c) false):=by
  rintro a b c u H v1 v2 hH h1 h2 (⟨rfl,rfl,rfl⟩ | ⟨rfl,rfl,rfl⟩)
  ·exact U6 (y:=[x]) T zx1 zl z1 hH h1 (h2.toV Z)
  ·exact U5 (y:=[x]) T zx1 zl z1 hH h1 (h2.toV Z)
 refine yr Tryz.func43 Z Tryz.ntmps43 (np Z) hB (k7 0 (US l fu) Z ns hv ?_);unfold wo at hr;by_cases he:tE x=0
 ·rw[na he] at hr;cases d
  ·rw[nc E] at hr;by_cases hx:x∈l
   ·rw[na hx] at hr;cases hr;have hin:(if x∈l then 1 else 0:Int)=1:=na hx;refine(ZD∘Zs∘ZH∘ZbN) ?_;refine z71 L Z (fun u H hH _=>he ▸ dm hz hH) ?_;refine(ZbZ∘Z6∘Zo∘ZV∘Z1∘Zh∘ZbN) ?_;refine z7 (qb L Z Z (zm Z) Z Z Z (fun u H hH _ _ v1 h1=>wv T hin hH h1)) Z ((ZN∘Zn∘ZO∘Zh∘ZR∘Zc) ?_);refine yj1 L [.tmp 4,.tmp 5] fun u H hH hle=>?_;exact fun v hv=>LE2.mk hv.nofu
   ·rw[nc hx] at hr;have hin:(if x∈l then 1 else 0:Int)=0:=nc hx;by_cases hf:l.length>=4096
    ·rw[na hf] at hr;cases hr;refine(ZD∘Zs∘ZH∘ZbN) ?_;refine z71 L Z (fun u H hH _=>he ▸ dm hz hH) ?_;refine(ZbZ∘Z6∘Zo∘ZV∘Z1∘Zh∘ZbN) ?_;refine z7 (qb L Z Z (zm Z) Z Z Z (fun u H hH _ _ v1 h1=>wv T hin hH h1)) Z ((Zdz∘Zy∘Zj∘Zbz∘Zn∘Zu∘ZI) ?_);refine yj1 L [.tmp 4,.tmp 5] fun u H hH hle=>?_;exact LE2.mk SlV.nil
    ·rw[nc hf] at hr;cases hr;rw[<-zgc hs hx];refine(ZD∘Zs∘ZH∘ZbN) ?_;refine z71 L Z (fun u H hH _=>he ▸ dm hz hH) ?_;refine(ZbZ∘Z6∘Zo∘ZV∘Z1∘Zh∘ZbN) ?_;refine z7 (qb L Z Z (zm Z) Z Z Z (fun u H hH _ _ v1 h1=>wv T hin hH h1)) Z ((Zdz∘Zy∘Zj∘Za6∘Zx∘Z2∘Zh∘ZbN∘ZaF) ?_);refine z7 (xg (φ:=US (oo l [x] true true true) false) L Z Z (zm Z) Z Z Z ns (fun u H hH _ _ v1 h1 v2 h2=>key u H v1 v2 hH h1 h2 (.inr ⟨rfl,rfl,rfl⟩))) Z ((ZR∘Zc) ?_);refine yj1 L [.tmp 4,.tmp 5] fun u H hH hle=>?_;exact fun v hv=>LE2.mk hv
  ·rw[na rfl] at hr;cases hr;rw[<-zbw hs x];refine(ZD∘Zs∘ZH∘ZbN) ?_;refine z71 L Z (fun u H hH _=>he ▸ dm hz hH) ?_;refine(ZbZ∘Z6∘Zo∘Zn∘Zt∘Zh∘ZbN∘ZaF) ?_;refine z7 (xg (φ:=US (oo l [x] true false false) false) L Z Z (zm Z) Z Z Z ns (fun u H hH _ _ v1 h1 v2 h2=>key u H v1 v2 hH h1 h2 (.inl ⟨rfl,rfl,rfl⟩))) Z ((ZR∘Zc) ?_);refine yj1 L [.tmp 4,.tmp 5] fun u H hH hle=>?_;exact fun v hv=>LE2.mk hv
 ·have h6:=(zen x).resolve_left he;rw[nc he,h6] at hr;cases hr;refine(ZD∘Zs∘ZH∘ZbN) ?_;refine z71 L Z (fun u H hH _=>h6 ▸ dm hz hH) ?_;refine(Za0∘Zv∘ZI) ?_;refine yj1 L [.tmp 4,.tmp 5] fun u H hH hle=>?_;exact LE2.mk SlV.nil
end Go.V.L6
namespace Go.V.L2
def TM(t:U):Prop:=(t.1.1.1.size<=9223372036854775807/\t.1.1.2.size<=9223372036854775807/\t.1.2.size<=9223372036854775807)/\t.2.1.1.size<=9223372036854775807/\t.2.1.2.size<=9223372036854775807/\t.2.2.size<=9223372036854775807
attribute [local irreducible] V N X VO Par StepOK Has Ret RetL Src
end Go.V.L2
namespace Go.V.L8
open Go.V.L2 Go.V.L3 Go.V.L6
abbrev tyM:TypeId:=82
abbrev tyC:TypeId:=77
abbrev zn6:TypeId:=151
abbrev zn7:TypeId:=74
def ccs(c:CH):List Value:=[.string c.1.1.1.1,.string c.1.1.1.2,.string c.1.1.2,.string c.1.2.1.1,.string c.1.2.1.2,.string c.1.2.2,.bool c.2]
def Y8(c:CH):(ccs c).length=7:=rfl
abbrev KS(ty:TypeId)(l:List CH)(fu:Bool):Value->Heap->Prop:=SlV ty 7 (l.flatMap ccs) l.length fu
def Gx{l:List CH}(h:l[i]?=some c):((l.flatMap ccs).drop (i*7)).take 7=[.string c.1.1.1.1,.string c.1.1.1.2,.string c.1.1.2,.string c.1.2.1.1,.string c.1.2.1.2,.string c.1.2.2,.bool c.2]:=f5 Y8 l i c h
def lh{r:List CH}(h:κ s=some (.own (SlR ty 7 (r.length+1) (r.flatMap ccs++[.string c.1.1.1.1,.string c.1.1.1.2,.string c.1.1.2,.string c.1.2.1.1,.string c.1.2.1.2,.string c.1.2.2,.bool c.2])))):κ s=some (.own (SlR ty 7 (r++[c]).length ((r++[c]).flatMap ccs))):=by
 rw[h,zpo,nr];rfl
def zm5{l:List CH}(hl:¬ n<l.length)(hc:l[i]?=some c)(h:¬ tE c.1=0):cE n l=6:=by
 unfold cE;rw[nc hl,na];rw[zrs];exact⟨c,zo7 hc,by simp [h]⟩
def zla{l:List CH}(hl:¬ n<l.length)(h:∀ (j:Nat) c,l[j]?=some c->tE c.1=0):cE n l=0:=by
 unfold cE;rw[nc hl,nc];rw[zrs];rintro⟨c,hc,h1⟩;obtain⟨j,hj⟩:=zpg hc;rw[nf (h j c hj)] at h1;cases h1
attribute [local irreducible] V N X VO Par StepOK Has Ret RetL RetO RetT Src
def Uk(hz:TM t)(hB:zs4 B w):Ret zs5 104 [uv t] w B (fun v _=>v=.int .i64 (tE t)):=by
 obtain⟨⟨z1,z2,z3⟩,z4,z5,z6⟩:=hz;unfold tE;refine yr Tryz.func104 Z Tryz.ntmps104 (np Z) hB ?_;by_cases h:ff [t.1.1.1,t.1.1.2,t.1.2]=0
 ·rw[na h];refine(ZD∘ZH∘Zbn) ?_;refine z71 L Z (fun u H hH _=>goal_ret Q Q Q hH) ?_;refine(ZaZ∘Zb4∘Zt∘Zbn∘ZfZ∘Zc) ?_;exact yj2 L [.tmp 2]
 ·rw[nc h];refine(ZD∘ZH∘Zbn) ?_;refine z71 L Z (fun u H hH _=>goal_ret Q Q Q hH) ?_;refine(ZaZ∘Za0∘Zr∘Zc) ?_;exact yj2 L [.tmp 2]
def zhf{l:List CH}(hc0:l[i]?=some c)(hB:zs4 B w)(hb:B b=some (.cells #[v] zn6))(hv:KS tyM l fu v B):
  Ret zs5 245 ([.int .i64 i]++[.pointer (some ⟨b,0,none⟩)]) w B (fun r _=>r=uv c.1):=by
 have hc:=Gx hc0;have hil:=get_lt hc0;refine yr Tryz.func245 Z Tryz.ntmps245 (np Z) hB ((Zah∘Zcq∘Zcr) ?_);refine fk 4 (KS tyM l fu) Z ns hv ((Zb6∘Zfu∘ZaE∘ZZ) ?_);refine yj1 L [.cell 3 57] fun u H hH hle=>?_;refine Za2 (h:=?_);rfl
def zh6{l:List CH}(hc0:l[i]?=some c)(hB:zs4 B w)(hb:B b=some (.cells #[v] zn7))(hv:KS tyC l fu v B):
  Ret zs5 246 ([.int .i64 i]++[.pointer (some ⟨b,0,none⟩)]) w B (fun r _=>r=uv c.1):=by
 have hc:=Gx hc0;have hil:=get_lt hc0;refine yr Tryz.func246 Z Tryz.ntmps246 (np Z) hB ((Zah∘Zcq∘Zcr) ?_);refine fk 4 (KS tyC l fu) Z ns hv ((Zb6∘Zfu∘ZaE∘ZZ) ?_);refine yj1 L [.cell 3 57] fun u H hH hle=>?_;refine Za2 (h:=?_);rfl
def Eu{l:List CH}{cf:Nat}(hz:∀ c∈l,TM c.1)(hl:l.length<=9223372036854775807)(hfn:L.fn cf=some ())(he:cE 32 l=e)(hB:zs4 B w)
  (hcl:∀ (i:Nat) (c:CH),l[i]?=some c->∀ (u:World) (H:Heap),zs4 H u->B.Le H->Ret zs5 cf ([.int .i64 i]++caps) u H (fun r _=>r=uv c.1)):
  Ret zs5 244 [.int .i64 l.length,.func (.func cf) #[] caps.toArray] w B (fun v _=>v=.int .i64 e):=by
 subst he;refine yr Tryz.func244 Z Tryz.ntmps244 (np Z) hB ?_;by_cases h32:32<l.length
 ·have:cE 32 l=3:=na h32;rw[this];refine(Zck∘ZP∘Zn∘Zv∘Zc) ?_;exact yj2 L [.tmp 4]
 ·refine(Zck∘ZM∘ZV∘ZcE∘Zd3) ?_;refine xp (fun i:Nat=>[(1,.is (.func (.func cf) #[] caps.toArray)),(9,.is (.int .i64 l.length)),(10,.is (.int .i64 i))]) (fun i=>i<=l.length/\∀ (j:Nat) c,j<i->l[j]?=some c->tE c.1=0) (fun i=>l.length-i) 0 ⟨mb _,fun j c h=>ni h (Nat.not_lt_zero _)⟩ ⟨Z,Z,Z,nm⟩ ?_;rintro i ⟨hi,hok⟩;by_cases hlt:i<l.length
  ·obtain⟨c,hc⟩:=xm hlt;have hzc:=hz c (zo7 hc);by_cases h0:tE c.1=0
   ·refine(ZbU∘ZS∘Zd∘ZbF) ?_;refine z7 (qb L Z Z (zm Z) Z Z hfn (fun u H hH hle _=>hcl i c hc u H hH hle)) Z (z71 L Z (fun u H hH _=>h0 ▸ Uk hzc hH) ?_);refine(Zd∘Z7∘Zbf∘Zbl∘Z2∘ZB) ?_
    exact yo (x:=i) (i+1) ⟨hlt,fun j c' hj hc'=>by
     rcases m5 j i with h | h
     ·exact hok j c' h hc'
     ·have:j=i:=T;subst this;rw[hc] at hc';cases hc';exact h0⟩ T ⟨rfl,rfl,rfl,nm⟩
   ·have h6:=(zen c.1).resolve_left h0;rw[zm5 h32 hc h0];refine(ZbU∘ZS∘Zd∘ZbF) ?_;refine z7 (qb L Z Z (zm Z) Z Z hfn (fun u H hH hle _=>hcl i c hc u H hH hle)) Z (z71 L Z (fun u H hH _=>h6 ▸ Uk hzc hH) ?_);refine(Zd∘Z7∘Za0∘ZaI∘Zc) ?_;exact yj2 L [.tmp 4]
  ·rw[zla h32 (fun j c hj=>hok j c (by have:=get_lt hj;omega) hj)];refine(ZcV∘Zak∘Z4∘Zc) ?_;exact yj2 L [.tmp 4]
def Km{e:TypeId}{xs:List Value}(h:SlV e s xs n fu v H):∃ p m c,v=.slice p m c:=by
 rcases h.2 with ⟨_,_,h⟩ | ⟨b,off,cap,cs,ty0,fr,h,_⟩
 ·exact⟨_,_,_,h⟩
 ·exact⟨_,_,_,h⟩
def iz{l:List CH}(hz:∀ c∈l,TM c.1)(hl:l.length<=9223372036854775807)(he:cE 32 l=e)(hB:zs4 B w)(hv:KS tyM l fu v B):
  Ret zs5 193 [v] w B (fun r _=>r=.int .i64 e):=by
 obtain⟨p,m,c,rfl⟩:=Km hv;refine yr Tryz.func193 Z Tryz.ntmps193 (np Z) hB ((ZD∘Zd) ?_);refine o7 1 rfl fun q H1 hs1 ⟨b,hpb,hb1⟩=>?_;subst hpb;refine(Zan∘Zcr) ?_;refine fk 3 (KS tyM l fu) Z ns (hv.le hs1.le) ((Zdd∘Za7) ?_);refine z71 L Z (fun u H hH hle=>Eu (caps:=[.pointer (some ⟨b,0,none⟩)]) hz hl Z he hH (fun i c hc u' H' hH' hle'=>zhf hc hH' (hle' _ _ (hle _ _ hb1)) ((hv.le hs1.le).le (Heap.Le.trans hle hle')))) ?_;refine Zc (h:=?_);refine yj L (rs:=[.tmp 2]) Z (fun _ _ h=>h) hs1 fun u H hH hle=>?_;rfl
end Go.V.L8
namespace Go.V.L11
open Go.V.L2 Go.V.L4 Go.V.Bd Go.V.L8
attribute [local irreducible] V N X VO Par StepOK Has Ret RetL RetO RetT kz RetX RetY Src
end Go.V.L11
namespace Go.V
section
variable {α β:Type} [DecidableEq α] [DecidableEq β] {k:α->β} {c:β->β->Int}
def Eqv(k:α->β)(S S':List α):Prop:=∀ t,S'.filter (fun x=>decide (k x=t))=S.filter (fun x=>decide (k x=t))
def Srt(k:α->β)(c:β->β->Int)(l:List α):Prop:=l.Pairwise fun x y=>¬ c (k y) (k x)<0
def Stb(k:α->β)(c:β->β->Int)(S S':List α):Prop:=Srt k c S'/\Eqv k S S'
omit [DecidableEq α] in
theorem Eqv.refl(S:List α):Eqv k S S:=fun _=>rfl
omit [DecidableEq α] in
theorem Eqv.trans{A B C:List α}(h1:Eqv k A B)(h2:Eqv k B C):Eqv k A C:=fun t=>(h2 t).trans (h1 t)
omit [DecidableEq α] in
theorem Eqv.app{A A' B B':List α}(h1:Eqv k A A')(h2:Eqv k B B'):Eqv k (A++B) (A'++B'):=fun t=>by rw[zpc,zpc,h1 t,h2 t]
omit [DecidableEq α] in
theorem Eqv.swap{A B:List α}(h:∀ a∈A,∀ b∈B,k a≠k b):Eqv k (A++B) (B++A):=fun t=>by
 rw[zpc,zpc];by_cases ha:∃ a∈A,k a=t
 ·obtain⟨a,ha,rfl⟩:=ha;have:B.filter (fun x=>decide (k x=k a))=[]:=zqf.2 fun b hb e=>h a ha b hb (by simpa using e:k b=k a).symm;rw[this,mq,mj]
 ·have:A.filter (fun x=>decide (k x=t))=[]:=zqf.2 fun a h1 e=>ha ⟨a,h1,by simpa using e⟩;rw[this,mq,mj]
theorem Eqv.count{S S':List α}(h:Eqv k S S')(x:α):S'.count x=S.count x:=by
 have e:∀ l:List α,(l.filter fun y=>decide (k y=k x)).count x=l.count x:=fun l=>List.count_filter (by simp);rw[<-e S',<-e S,h (k x)]
theorem Eqv.perm{S S':List α}(h:Eqv k S S'):S'.Perm S:=List.perm_iff_count.2 fun x=>h.count x
theorem Eqv.length{S S':List α}(h:Eqv k S S'):S'.length=S.length:=h.perm.length_eq
theorem Eqv.mem{S S':List α}(h:Eqv k S S'){x:α}:x∈S'↔x∈S:=h.perm.mem_iff
omit [DecidableEq α] [DecidableEq β] in
theorem dk{A B:List α}:Srt k c (A++B)↔Srt k c A/\Srt k c B/\∀ a∈A,∀ b∈B,¬ c (k b) (k a)<0:=zpq
omit [DecidableEq α] [DecidableEq β] in
theorem Xp(ho:Ord3 c){a b:β}(h:c a b<0):b≠a:=fun e=>by subst e;exact ho.irr _ h
omit [DecidableEq α] in
theorem Nb(ho:Ord3 c){A B:List α}{x:α}(hs:Srt k c (A++B))(ha:∀ a∈A,¬ c (k x) (k a)<0)(hb:∀ b∈B,c (k x) (k b)<0):Stb k c (A++B++[x]) (A++x::B):=by
 obtain⟨s1,s2,s3⟩:=dk.1 hs;refine⟨dk.2 ⟨s1,mo.2 ⟨fun b h=>ho.asym (hb b h),s2⟩,fun a h b hm=>?_⟩,?_⟩
 ·rcases ma.1 hm with rfl | hm
  ·exact ha a h
  ·exact s3 a h b hm
 ·rw[mw]
  exact(Eqv.refl A).app (Eqv.swap (A:=B) (B:=[x]) fun b h y hy=>by
   simp at hy;subst hy;exact Xp ho (hb b h))
omit [DecidableEq α] in
theorem zf7(ho:Ord3 c){A B:List α}{x:α}(hs:Srt k c (A++B))(ha:∀ a∈A,c (k a) (k x)<0)(hb:∀ b∈B,¬ c (k b) (k x)<0):Stb k c (x::(A++B)) (A++x::B):=by
 obtain⟨s1,s2,s3⟩:=dk.1 hs;refine⟨dk.2 ⟨s1,mo.2 ⟨hb,s2⟩,fun a h b hm=>?_⟩,?_⟩
 ·rcases ma.1 hm with rfl | hm
  ·exact ho.asym (ha a h)
  ·exact s3 a h b hm
 ·have e:A++x::B=A++[x]++B:=by simp
  have e2:x::(A++B)=[x]++A++B:=by simp
  rw[e,e2]
  exact(Eqv.swap (A:=[x]) (B:=A) fun y hy a h=>by
   simp at hy;subst hy;exact Xp ho (ha a h)).app (Eqv.refl B)
theorem zbo(ho:Ord3 c){A1 A2 B1 B2 S1 S2:List α}(hA:Srt k c (A1++A2))(hB:Srt k c (B1++B2))(h12:∀ a∈A2,∀ b∈B1,c (k b) (k a)<0)(h21:∀ a∈A1,∀ b∈B2,¬ c (k b) (k a)<0)
  (h1:Stb k c (A1++B1) S1) (h2:Stb k c (A2++B2) S2):Stb k c (A1++A2++(B1++B2)) (S1++S2):=by
 obtain⟨a1,a2,a3⟩:=dk.1 hA;obtain⟨b1,b2,b3⟩:=dk.1 hB;refine⟨dk.2 ⟨h1.1,h2.1,fun x hx y hy=>?_⟩,?_⟩
 ·rcases mn.1 (h1.2.mem.1 hx) with hx | hx<;>rcases mn.1 (h2.2.mem.1 hy) with hy | hy
  ·exact a3 x hx y hy
  ·exact h21 x hx y hy
  ·exact ho.asym (h12 y hy x hx)
  ·exact b3 x hx y hy
 ·refine Eqv.trans ?_ (h1.2.app h2.2);have e1:A1++A2++(B1++B2)=A1++(A2++B1)++B2:=by simp
  have e2:A1++B1++(A2++B2)=A1++(B1++A2)++B2:=by simp
  rw[e1,e2];exact((Eqv.refl A1).app (Eqv.swap fun a ha b hb=>Xp ho (h12 a ha b hb))).app (Eqv.refl B2)
omit [DecidableEq α] [DecidableEq β] in
theorem aw(ho:Ord3 c){l:List α}(h:Srt k c l){i j:Nat}{x y:α}(hi:l[i]?=some x)(hj:l[j]?=some y)(hij:i<=j):¬ c (k y) (k x)<0:=by
 rcases m5 i j with h1 | h1
 ·obtain⟨hi',rfl⟩:=zp0.1 hi;obtain⟨hj',rfl⟩:=zp0.1 hj;exact zqm.1 h i j hi' hj' h1
 ·have:i=j:=T;subst this;rw[hi] at hj;cases hj;exact ho.irr _
end
end Go.V
section
open Go.V
attribute [local irreducible] Has N Par Ret RetL Src StepOK V VO X
namespace Go.V.L8
open Go.V.L2 Go.V.L3 Go.V.L6
abbrev zC:CH:=((n3,n3),false)
def Xz(l:List CH)(t:U)(z:CH):CH:=l.foldl (fun a c=>if c.1=t then c else a) z
def f0(l:List CH)(t:U):Option CH:=(l.filter fun c=>decide (c.1=t)).getLast?
def Xx(t:U):f0 [] t=none:=rfl
def fz(c:CH)(l:List CH)(t:U):f0 (c::l) t=(f0 l t).or (if c.1=t then some c else none):=by
 unfold f0;by_cases h:c.1=t
 ·rw[na h,zqt (by simpa using h),List.getLast?_cons];cases (l.filter fun c=>decide (c.1=t)).getLast?<;>rfl
 ·rw[nc h,zrk (by simpa using h)];cases (l.filter fun c=>decide (c.1=t)).getLast?<;>rfl
def pw{l:List CH}(h:f0 l t=some c):c.1=t/\c∈l:=by
 have:=List.mem_of_getLast? h;rw[zo3] at this;exact⟨by simpa using this.2,this.1⟩
def bk{l:List CH}:f0 l t=none↔∀ c∈l,c.1≠t:=by
 unfold f0;rw[List.getLast?_eq_none_iff,zqf];simp
def Qm(l:List CH)(t:U)(z:CH):Xz l t z=(f0 l t).getD z:=by
 induction l generalizing z with
 | nil=>rfl
 | cons c r ih=>
  have:Xz (c::r) t z=Xz r t (if c.1=t then c else z):=rfl;rw[this,ih,fz]
  cases f0 r t with
  | some d=>rfl
  | none=>by_cases h:c.1=t<;>simp [h]
def Lx{l:List CH}{z:CH}(h:∃ c∈l,c.1=t):f0 l t=some (Xz l t z):=by
 rw[Qm]
 cases hk:f0 l t with
 | some d=>rfl
 | none=>obtain⟨c,hc,he⟩:=h;exact ni he (bk.1 hk c hc)
def Dc(l:List CH):List CH:=(b9 (l.map (·.1))).map fun t=>Xz l t zC
def rf:t∈b9 l↔t∈l:=by unfold b9;rw[fe];simp
def Kl(l:List U):Sst kw (b9 l):=gz cmpT_ord Sst.nil
def Lm{l:List CH}:c∈Dc l↔f0 l c.1=some c:=by
 unfold Dc;rw[zoz];constructor
 ·rintro⟨t,ht,rfl⟩;rw[rf,zoz] at ht;have:=Lx (z:=zC) ht;rw[(pw this).1];exact this
 ·intro h;have hm:=pw h;exact⟨c.1,rf.2 (zoz.2 ⟨c,hm.2,rfl⟩),by rw[Qm,h];rfl⟩
def Sz(l:List CH):(Dc l).map (·.1)=b9 (l.map (·.1)):=by
 unfold Dc;rw[zq8]
 conv=>rhs;rw[<-zry (b9 (l.map (·.1)))]
 refine zsb fun t ht=>?_;rw[rf,zoz] at ht;exact(pw (Lx (z:=zC) ht)).1
def Mq(l:List CH):Prop:=Sst kw (l.map (·.1))
def Ll(l:List CH):Mq (Dc l):=by unfold Mq;rw[Sz];exact Kl _
def r5{l:List CH}(h:Mq l):l.Pairwise fun a b=>a.1≠b.1:=by
 unfold Mq Sst at h;rw[List.pairwise_map] at h;exact h.imp fun h1=>cmpT_ord.ne h1
def Xd{l m:List CH}(hl:Mq l)(hm:Mq m)(h:∀ c,c∈l↔c∈m):l=m:=by
 have hk:l.map (·.1)=m.map (·.1):=fm cmpT_ord hl hm fun t=>by
  rw[zoz,zoz];exact⟨fun⟨c,hc,e⟩=>⟨c,(h c).1 hc,e⟩,fun⟨c,hc,e⟩=>⟨c,(h c).2 hc,e⟩⟩
 have uni:∀ {l:List CH},Mq l->∀ a∈l,∀ b∈l,a.1=b.1->a=b:=fun {l} hn a ha b hb e=>by
  by_cases hab:a=b
  ·exact hab
  ·exfalso;obtain⟨i,hi⟩:=zpg ha;obtain⟨j,hj⟩:=zpg hb;obtain⟨hi',rfl⟩:=zp0.1 hi;obtain⟨hj',rfl⟩:=zp0.1 hj;have hp:=zqm.1 (r5 hn);rcases zr9 i j with h | h | h
   ·exact hp i j hi' hj' h e
   ·subst h;exact hab rfl
   ·exact hp j i hj' hi' h e.symm
 have hlen:l.length=m.length:=by rw[<-m4 (f:=(·.1)),hk,m4]
 refine List.ext_getElem hlen fun i h1 h2=>?_
 have e:l[i].1=m[i].1:=by
  have:=nh (·[i]?) hk;simp only[zpl,zpe h1,zpe h2,zql,Option.some.injEq] at this;exact this
 exact uni hm _ ((h _).1 (List.getElem_mem h1)) _ (List.getElem_mem h2) e
def aj:List CH->List CH
 | []=>[]
 | [c]=>[c]
 | c::d::r=>if kw c.1 d.1=0 then aj (d::r) else c::aj (d::r)
def Ta{l:List CH}(h:l[i]?=some c):aj (l.drop i)=(match l[i+1]? with | none=>[c] | some d=>if kw c.1 d.1=0 then [] else [c])++aj (l.drop (i+1)):=by
 have h1:l.drop i=c::l.drop (i+1):=ax h;rw[h1]
 cases h2:l[i+1]? with
 | none=>
  have:l.drop (i+1)=[]:=zo4 (by simpa using h2);rw[this];rfl
 | some d=>
  have h3:l.drop (i+1)=d::l.drop (i+1+1):=ax h2;rw[h3];show(if kw c.1 d.1=0 then _ else _)=(if kw c.1 d.1=0 then _ else _)++_;split<;>rfl
def Ex:∀ {S:List CH},Srt (·.1) kw S->(∀ c∈aj S,f0 S c.1=some c)/\(∀ x∈S,∃ c∈aj S,c.1=x.1)/\Mq (aj S)
 | [],_=>⟨fun c hc=>(by cases hc),fun c hc=>(by cases hc),Sst.nil⟩
 | [c],_=>by
  have e:aj [c]=[c]:=rfl;rw[e];refine⟨fun d hd=>?_,fun x hx=>⟨x,hx,rfl⟩,zqk _ _⟩;rw[m7] at hd;subst hd;rw[fz,na rfl];rfl
 | c::d::r,h=>by
  obtain⟨h1,h2⟩:=mo.1 h;obtain⟨g1,g2,g3⟩:=Ex (S:=d::r) h2;have e:aj (c::d::r)=if kw c.1 d.1=0 then aj (d::r) else c::aj (d::r):=rfl
  by_cases h0:kw c.1 d.1=0
  ·rw[e,na h0];have hcd:=cmpT_ord.eq _ _ h0;refine⟨fun x hx=>by rw[fz,g1 x hx];rfl,fun x hx=>?_,g3⟩;rcases ma.1 hx with rfl | hx
   ·obtain⟨y,hy,e⟩:=g2 d (mc ..);exact⟨y,hy,e.trans hcd.symm⟩
   ·exact g2 x hx
  ·rw[e,nc h0]
   have hlt:∀ y∈d::r,kw c.1 y.1<0:=fun y hy=>by
    have hcd:kw c.1 d.1<0:=by
     have h3:=h1 d (mc ..);have:=cmpT_ord.anti c.1 d.1;dsimp only at h3;omega
    rcases ma.1 hy with rfl | hy
    ·exact hcd
    ·have h3:=(mo.1 h2).1 y hy;dsimp only at h3;by_cases h5:kw d.1 y.1<0
     ·exact cmpT_ord.tr hcd h5
     ·have h6:kw d.1 y.1=0:=by have:=cmpT_ord.anti d.1 y.1;omega
      rw[<-cmpT_ord.eq _ _ h6];exact hcd
   refine⟨fun x hx=>?_,fun x hx=>?_,?_⟩
   ·rcases ma.1 hx with rfl | hx
    ·rw[fz,na rfl,bk.2 fun y hy e=>cmpT_ord.irr x.1 (by rw[<-e];exact ni (hlt y hy) (by rw[e];exact cmpT_ord.irr _))];rfl
    ·rw[fz,g1 x hx];rfl
   ·rcases ma.1 hx with rfl | hx
    ·exact⟨x,mc ..,rfl⟩
    ·obtain⟨y,hy,e⟩:=g2 x hx;exact⟨y,mh _ hy,e⟩
   ·unfold Mq;rw[mz];refine mo.2 ⟨fun t ht=>?_,g3⟩;obtain⟨y,hy,rfl⟩:=zoz.1 ht;exact hlt y (pw (g1 y hy)).2
def X5{l S:List CH}(h:Stb (·.1) kw l S):aj S=Dc l:=by
 obtain⟨g1,g2,g3⟩:=Ex h.1;have hK:∀ t,f0 S t=f0 l t:=fun t=>by unfold f0;rw[h.2 t]
 refine Xd g3 (Ll l) fun c=>?_;rw[Lm];constructor
 ·exact fun hc=>by rw[<-hK];exact g1 c hc
 ·intro hc;rw[<-hK] at hc;obtain⟨d,hd,e⟩:=g2 c (pw hc).2;have:=g1 d hd;rw[e,hc] at this;cases this;exact hd
end Go.V.L8
namespace Go.V.L11
open Go.V.L2 Go.V.L4 Go.V.L8
attribute [local irreducible] RetO RetT kz RetX RetY
end Go.V.L11
namespace Go.V.L2
def _root_.ZdC(t:Wr Y->A:=by intro h;refine z8 (yh L 0 rfl Z Z Z (by first | omega | decide) M) Z ?_;exact h.1)(h:Y):A:=t ⟨h⟩
def _root_.ZaP(t:Wr Y->A:=by intro h;refine ze (id:=20) ?_;exact h.1)(h:Y):A:=t ⟨h⟩
def _root_.ZdU(t:Wr Y->A:=by intro h;refine z7 (yh L 0 rfl Z Z Z (by first | omega | decide) M) Z ?_;exact h.1)(h:Y):A:=t ⟨h⟩
def _root_.ZcJ(t:Wr Y->A:=by intro h;refine ze (id:=21) ?_;exact h.1)(h:Y):A:=t ⟨h⟩
def _root_.Zd0(t:Wr Y->A:=by intro h;refine ze (id:=22) ?_;exact h.1)(h:Y):A:=t ⟨h⟩
def M3{a tv:Value}(h:φ tv H):TupS [φ,fun v _=>v=a] (.tuple #[tv,a]) H:=
 ⟨[tv,a],rfl,rfl,fun i ψ x hi hx=>by
  rcases i with _ | _ | i
  ·simp at hi hx;subst hi hx;exact h
  ·simp at hi hx;subst hi hx;rfl
  ·simp at hi⟩
def Rz{a:Value}(h:Kn.mono (.sat φ)):Kn.mono (.sat (TupS [φ,fun v _=>v=a])):=TupS.mono fun ψ hψ=>by
 rcases ma.1 hψ with rfl | hψ
 ·exact h
 ·rw[m7] at hψ;subst hψ;exact fun _ _ _ h _=>h
def fw{α:Type}{c:α->α->Int}{f:Bool->Bool->Bool}:∀ (n:Nat) (l m:List α),l.length+m.length<=n->(fh c f n l m).length<=l.length+m.length
 | 0,_,_,_=>by simp [fh]
 | n+1,[],[],_=>by simp [fh]
 | n+1,a::l,[],h=>by
  have:=fw (c:=c) (f:=f) n l [] (by simp only[nz,m6] at h |-;omega);simp only[fh,nr,nz,m6] at this |-;split<;>simp only[nz,m6]<;>omega
 | n+1,[],b::m,h=>by
  have:=fw (c:=c) (f:=f) n [] m (by simp only[nz,m6] at h |-;omega);simp only[fh,nr,nz,m6] at this |-;split<;>simp only[nz,m6]<;>omega
 | n+1,a::l,b::m,h=>by
  simp only[nz] at h;have h1:=fw (c:=c) (f:=f) n l (b::m) (by simp only[nz];omega);have h2:=fw (c:=c) (f:=f) n (a::l) m (by simp only[nz];omega);have h3:=fw (c:=c) (f:=f) n l m T;simp only[nz] at h1 h2;simp only[fh];split
  ·rw[nr];split<;>simp only[nz,m6]<;>omega
  ·split
   ·rw[nr];split<;>simp only[nz,m6]<;>omega
   ·rw[nr];split<;>simp only[nz,m6]<;>omega
def zew(f:Bool->Bool->Bool)(l m:List U):List U×Int:=
 if 4096<l.length\/4096<m.length then ([],3) else if (isB l && isB m)=true then (fh kw f (l.length+m.length) l m,0) else ([],18)
abbrev LE(r:List U×Int):Value->Heap->Prop:=TupS [US r.1 true,fun v _=>v=.int .i64 r.2]
def LE.mono{r:List U×Int}:Kn.mono (.sat (LE r)):=Rz ns
def Fz(a:U)(l:List U):(((a::l).flatMap ucs).drop (1*6)).take (((a::l).length-1)*6)=l.flatMap ucs:=by
 rw[zpm,List.drop_left' (by rfl),nz,zsg,zo6 (Nat.le_of_eq (o5 Ft l))]
def By{out:List U}(h:κ s=some (.own (SlR tyU 6 (out.length+1) (out.flatMap ucs++[.string t.1.1.1,.string t.1.1.2,.string t.1.2,.string t.2.1.1,.string t.2.1.2,.string t.2.2])))):κ s=some (.own (SlR tyU 6 (out++[t]).length ((out++[t]).flatMap ucs))):=by
 rw[h,zpo,nr];simp [ucs]
def Lr{f:Bool->Bool->Bool}{tf:Nat}(hfn:L.fn tf=some ())(hf:∀ (p q:Bool) (u:World) (H:Heap),zs4 H u->Ret zs5 tf [.bool p,.bool q] u H (fun v _=>v=.bool (f p q))){l m:List U}{fa fb:Bool}
  {r:List U×Int} (hr:zew f l m=r) {v v2:Value}   (hB:zs4 B w) (hv:US l fa v B) (hv2:US m fb v2 B):
  Ret zs5 93 [v,v2,.func (.func tf) #[] #[]] w B (LE r):=by
 subst hr;unfold zew;refine yr Tryz.func93 Z Tryz.ntmps93 (np Z) hB (k7 0 (US l fa) Z ns hv (k7 1 (US m fb) Z ns hv2 ?_));by_cases z1:4096<l.length
 ·rw[na (.inl z1)];refine(ZbX∘ZH∘Zj∘ZP∘Zcl∘Zn∘Zv∘ZI) ?_;refine yj1 L [.tmp 6,.tmp 7] fun u H hH hle=>?_;exact M3 SlV.nil
 ·by_cases z2:4096<m.length
  ·rw[na (.inr z2)];refine(ZbX∘ZH∘Zj∘ZM∘Za∘Zj∘ZP∘Zbe∘Zv∘ZI) ?_;refine yj1 L [.tmp 6,.tmp 7] fun u H hH hle=>?_;exact M3 SlV.nil
  ·rw[nc T];cases h1:isB l
   ·rw[nc (by simp)];refine(ZbX∘ZH∘Zj∘ZM∘Za∘Zj∘ZM∘Zi∘ZV∘Z6∘Zh) ?_;refine z7 (qb L Z Z (zm Z) Z Z Z (fun u H hH _ _ v1 hv1=>di T h1 hH hv1)) Z ((Zm∘Zcl∘Zn∘Zt∘ZI) ?_);refine yj1 L [.tmp 6,.tmp 7] fun u H hH hle=>?_;exact M3 SlV.nil
   ·cases h2:isB m
    ·rw[nc (by simp)];refine(ZbX∘ZH∘Zj∘ZM∘Za∘Zj∘ZM∘Zi∘ZV∘Z6∘Zh) ?_;refine z7 (qb L Z Z (zm Z) Z Z Z (fun u H hH _ _ v1 hv1=>di T h1 hH hv1)) Z ((Zm∘Za∘Zh) ?_);refine z7 (qb L Z Z (zm Z) Z Z Z (fun u H hH _ _ v1 hv1=>di T h2 hH hv1)) Z ((Zm∘Zbe∘Zt∘ZI) ?_);refine yj1 L [.tmp 6,.tmp 7] fun u H hH hle=>?_;exact M3 SlV.nil
    ·rw[na (by rfl)];refine(ZbX∘ZH∘Zj∘ZM∘Za∘Zj∘ZM∘Zi∘ZV∘Z6∘Zh) ?_;refine z7 (qb L Z Z (zm Z) Z Z Z (fun u H hH _ _ v1 hv1=>di T h1 hH hv1)) Z ((Zm∘Za∘Zh) ?_);refine z7 (qb L Z Z (zm Z) Z Z Z (fun u H hH _ _ v1 hv1=>di T h2 hH hv1)) Z ((Zm∘Zcz∘Z1∘Zd∘Zar) ?_);refine Hq 0 (US l false) Z ns (fun _ _ h=>h.nofu) (Hq 1 (US m false) Z ns (fun _ _ h=>h.nofu) (ul 8 tyU 6 rfl ?_))
     refine xp (fun s:Nat×List U×List U×List U=>[(0,.sat (US s.2.1 false)),(1,.sat (US s.2.2.1 false)),(2,.is (.func (.func tf) #[] #[])),(8,.own (SlR tyU 6 s.2.2.2.length (s.2.2.2.flatMap ucs)))])
      (fun s=>s.2.1.length+s.2.2.1.length<=s.1/\s.2.2.2++fh kw f s.1 s.2.1 s.2.2.1=fh kw f (l.length+m.length) l m/\s.2.2.2.length+s.2.1.length+s.2.2.1.length<=8192) (fun s=>s.1) (l.length+m.length,l,m,[]) ⟨nu _,rfl,by simp only[m6];omega⟩ ⟨rfl,rfl,rfl,rfl,nm⟩ ?_
     generalize fh kw f (l.length+m.length) l m=R;clear h1 h2 z1 z2 hv hv2;rintro⟨n,x,y,out⟩ ⟨hn,hR,hz⟩;dsimp only at hn hR hz |-;rcases x with _ | ⟨a,x⟩
     ·rcases y with _ | ⟨b,y⟩
      ·have hR:out=R:=by rw[<-hR];cases n<;>simp [fh]
       subst hR;have l0:([]:List U).length=0:=rfl;refine(Zf∘ZO∘Zj∘ZM∘Za∘Zj∘ZM∘Zi∘Za5) ?_;refine gt 8 rfl ((Zd0∘Zh∘Zj∘Zj∘Zec∘ZR∘Zc) ?_);refine yj1 L [.tmp 6,.tmp 7] fun u H hH hle=>?_;exact fun v hv=>M3 hv
      ·have l0:([]:List U).length=0:=rfl;have lb:(b::y).length=y.length+1:=rfl;have hb:=pg (l:=b::y) (i:=0) (t:=b) rfl;have tb:=Fz b y;rcases n with _ | n
       ·simp only[nz,m6] at hn;omega
       cases hft:f false true
       ·have hR:out++fh kw f n [] y=R:=by rw[<-hR];simp [fh,hft]
        have hfv:∀ (u:World) (H:Heap),zs4 H u->Ret zs5 tf [.bool false,.bool true] u H (fun v _=>v=.bool false):=fun u H h=>by have:=hf false true u H h;rwa [hft] at this
        refine(Zf∘ZO∘Zj∘ZM∘Za∘Zj∘ZP∘Zi∘Zcb∘Zy∘Zd∘ZF∘Z2∘Zj∘ZN∘ZbE∘Z4∘Zag∘Zbh∘Zae∘Zc1∘Zbj∘ZbL∘ZP∘Z3∘Zaa∘Zh∘ZdU∘ZaE∘ZaU∘ZaC∘ZaO∘Za∘Zcp∘Zcs∘Zh) ?_;refine z7 (jt L (kh:=.i64) (ph:=0) (km:=.i64) (pm:=0) 1 _ false Z Z Z Z Z ⟨rfl,rfl⟩ ⟨rfl,rfl⟩ (fun h=>by cases h) T T M) Z ?_;refine(ZR∘Zg∘ZaP∘Zb∘ZcO∘Za∘Zbz) ?_;refine z7 (qb L Z Z (zm Z) Z Z hfn (fun u H hH _ _=>hfv u H hH)) Z ((Zac∘Zaw) ?_);exact yo (x:=(n+1,[],b::y,out)) (n,[],y,out) ⟨by simp only[List.length_cons,List.length_nil] at hn |-;omega,hR,by simp only[List.length_cons,List.length_nil,List.length_append] at hz |-;omega⟩ G ⟨Z,Z,Z,Z,nm⟩
       ·have hR:out++[b]++fh kw f n [] y=R:=by rw[<-hR];simp [fh,hft]
        have hfv:∀ (u:World) (H:Heap),zs4 H u->Ret zs5 tf [.bool false,.bool true] u H (fun v _=>v=.bool true):=fun u H h=>by have:=hf false true u H h;rwa [hft] at this
        refine(Zf∘ZO∘Zj∘ZM∘Za∘Zj∘ZP∘Zi∘Zcb∘Zy∘Zd∘ZF∘Z2∘Zj∘ZN∘ZbE∘Z4∘Zag∘Zbh∘Zae∘Zc1∘Zbj∘ZbL∘ZP∘Z3∘Zaa∘Zh∘ZdU∘ZaE∘ZaU∘ZaC∘ZaO∘Za∘Zcp∘Zcs∘Zh) ?_;refine z7 (jt L (kh:=.i64) (ph:=0) (km:=.i64) (pm:=0) 1 _ false Z Z Z Z Z ⟨rfl,rfl⟩ ⟨rfl,rfl⟩ (fun h=>by cases h) T T M) Z ?_;refine(ZR∘Zg∘ZaP∘Zb∘ZcO∘Za∘Zbz) ?_;refine z7 (qb L Z Z (zm Z) Z Z hfn (fun u H hH _ _=>hfv u H hH)) Z ((Z3∘ZcJ) ?_);refine qg (yu (.inl Z) Z) ((Za3∘Zc5) ?_);refine qg (yu (.inr Z) Z) ((Zab∘Zaw) ?_);exact yo (x:=(n+1,[],b::y,out)) (n,[],y,out++[b]) ⟨by simp only[List.length_cons,List.length_nil] at hn |-;omega,hR,by simp only[List.length_cons,List.length_nil,List.length_append] at hz |-;omega⟩ G ⟨Z,Z,Z,By Z,nm⟩
     ·have la:(a::x).length=x.length+1:=rfl;have ha:=pg (l:=a::x) (i:=0) (t:=a) rfl;have ta:=Fz a x;rcases y with _ | ⟨b,y⟩
      ·have l0:([]:List U).length=0:=rfl;rcases n with _ | n
       ·simp only[nz,m6] at hn;omega
       cases hft:f true false
       ·have hR:out++fh kw f n x []=R:=by rw[<-hR];simp [fh,hft]
        have hfv:∀ (u:World) (H:Heap),zs4 H u->Ret zs5 tf [.bool true,.bool false] u H (fun v _=>v=.bool false):=fun u H h=>by have:=hf true false u H h;rwa [hft] at this
        refine(Zf∘ZO∘Zj∘ZP∘Zcl∘Zcb∘Zy∘Zd∘ZF∘Z2∘Zj∘ZT∘Zav∘ZG∘Zj∘ZN∘ZbE∘ZJ∘Zag∘Zbh∘Zae∘Zc1∘Zbj∘ZbL∘ZM∘Zdo∘Zaj∘Zh∘ZdU∘ZaE∘ZZ∘Zbx∘Zh) ?_;refine z7 (jt L (kh:=.i64) (ph:=0) (km:=.i64) (pm:=0) 1 _ false Z Z Z Z Z ⟨rfl,rfl⟩ ⟨rfl,rfl⟩ (fun h=>by cases h) T T M) Z ?_;refine(ZR∘ZaC∘ZaO∘Za∘Za6∘Zx∘ZaP∘Zb∘ZcW∘Za∘Za6) ?_;refine z7 (qb L Z Z (zm Z) Z Z hfn (fun u H hH _ _=>hfv u H hH)) Z ((Zac∘Zaw) ?_);exact yo (x:=(n+1,a::x,[],out)) (n,x,[],out) ⟨by simp only[List.length_cons,List.length_nil] at hn |-;omega,hR,by simp only[List.length_cons,List.length_nil,List.length_append] at hz |-;omega⟩ G ⟨Z,Z,Z,Z,nm⟩
       ·have hR:out++[a]++fh kw f n x []=R:=by rw[<-hR];simp [fh,hft]
        have hfv:∀ (u:World) (H:Heap),zs4 H u->Ret zs5 tf [.bool true,.bool false] u H (fun v _=>v=.bool true):=fun u H h=>by have:=hf true false u H h;rwa [hft] at this
        refine(Zf∘ZO∘Zj∘ZP∘Zcl∘Zcb∘Zy∘Zd∘ZF∘Z2∘Zj∘ZT∘Zav∘ZG∘Zj∘ZN∘ZbE∘ZJ∘Zag∘Zbh∘Zae∘Zc1∘Zbj∘ZbL∘ZM∘Zdo∘Zaj∘Zh∘ZdU∘ZaE∘ZZ∘Zbx∘Zh) ?_;refine z7 (jt L (kh:=.i64) (ph:=0) (km:=.i64) (pm:=0) 1 _ false Z Z Z Z Z ⟨rfl,rfl⟩ ⟨rfl,rfl⟩ (fun h=>by cases h) T T M) Z ?_;refine(ZR∘ZaC∘ZaO∘Za∘Za6∘Zx∘ZaP∘Zb∘ZcW∘Za∘Za6) ?_;refine z7 (qb L Z Z (zm Z) Z Z hfn (fun u H hH _ _=>hfv u H hH)) Z ((Z3∘ZcJ) ?_);refine qg (yu (.inl Z) Z) ((Za3∘Zc5) ?_);refine qg (yu (.inr Z) Z) ((Zab∘Zaw) ?_);exact yo (x:=(n+1,a::x,[],out)) (n,x,[],out++[a]) ⟨by simp only[List.length_cons,List.length_nil] at hn |-;omega,hR,by simp only[List.length_cons,List.length_nil,List.length_append] at hz |-;omega⟩ G ⟨Z,Z,Z,By Z,nm⟩
      ·have lb:(b::y).length=y.length+1:=rfl;have hb:=pg (l:=b::y) (i:=0) (t:=b) rfl;have tb:=Fz b y;by_cases c1:kw a b<0
       ·rcases n with _ | n
        ·simp only[nz,m6] at hn;omega
        cases hft:f true false
        ·have hR:out++fh kw f n x (b::y)=R:=by rw[<-hR];simp [fh,c1,hft]
         have hfv:∀ (u:World) (H:Heap),zs4 H u->Ret zs5 tf [.bool true,.bool false] u H (fun v _=>v=.bool false):=fun u H h=>by have:=hf true false u H h;rwa [hft] at this
         refine(Zf∘ZO∘Zj∘ZP∘Zcl∘Zcb∘Zy∘Zd∘ZF∘Z2∘Zj∘ZT∘Zav∘ZG∘Zj∘ZT∘Zs∘ZaJ∘ZcY∘Zad∘ZdC∘Zc0∘Zad∘ZdC∘Zc0) ?_;refine z81 L Z (fun u H hH _=>j8 hH) ?_;refine(ZaK∘ZdY∘Zaw∘Zbh∘Zae∘Zc1∘Zbj∘ZbL∘ZM∘Zdo∘Zaj∘Zh∘ZdU∘ZaE∘ZZ∘Zbx∘Zh) ?_;refine z7 (jt L (kh:=.i64) (ph:=0) (km:=.i64) (pm:=0) 1 _ false Z Z Z Z Z ⟨rfl,rfl⟩ ⟨rfl,rfl⟩ (fun h=>by cases h) T T M) Z ?_;refine(ZR∘ZaC∘ZaO∘Za∘Za6∘Zx∘ZaP∘Zb∘ZcW∘Za∘Za6) ?_;refine z7 (qb L Z Z (zm Z) Z Z hfn (fun u H hH _ _=>hfv u H hH)) Z ((Zac∘Zaw) ?_);exact yo (x:=(n+1,a::x,b::y,out)) (n,x,(b::y),out) ⟨by simp only[List.length_cons,List.length_nil] at hn |-;omega,hR,by simp only[List.length_cons,List.length_nil,List.length_append] at hz |-;omega⟩ G ⟨Z,Z,Z,Z,nm⟩
        ·have hR:out++[a]++fh kw f n x (b::y)=R:=by rw[<-hR];simp [fh,c1,hft]
         have hfv:∀ (u:World) (H:Heap),zs4 H u->Ret zs5 tf [.bool true,.bool false] u H (fun v _=>v=.bool true):=fun u H h=>by have:=hf true false u H h;rwa [hft] at this
         refine(Zf∘ZO∘Zj∘ZP∘Zcl∘Zcb∘Zy∘Zd∘ZF∘Z2∘Zj∘ZT∘Zav∘ZG∘Zj∘ZT∘Zs∘ZaJ∘ZcY∘Zad∘ZdC∘Zc0∘Zad∘ZdC∘Zc0) ?_;refine z81 L Z (fun u H hH _=>j8 hH) ?_;refine(ZaK∘ZdY∘Zaw∘Zbh∘Zae∘Zc1∘Zbj∘ZbL∘ZM∘Zdo∘Zaj∘Zh∘ZdU∘ZaE∘ZZ∘Zbx∘Zh) ?_;refine z7 (jt L (kh:=.i64) (ph:=0) (km:=.i64) (pm:=0) 1 _ false Z Z Z Z Z ⟨rfl,rfl⟩ ⟨rfl,rfl⟩ (fun h=>by cases h) T T M) Z ?_;refine(ZR∘ZaC∘ZaO∘Za∘Za6∘Zx∘ZaP∘Zb∘ZcW∘Za∘Za6) ?_;refine z7 (qb L Z Z (zm Z) Z Z hfn (fun u H hH _ _=>hfv u H hH)) Z ((Z3∘ZcJ) ?_);refine qg (yu (.inl Z) Z) ((Za3∘Zc5) ?_);refine qg (yu (.inr Z) Z) ((Zab∘Zaw) ?_);exact yo (x:=(n+1,a::x,b::y,out)) (n,x,(b::y),out++[a]) ⟨by simp only[List.length_cons,List.length_nil] at hn |-;omega,hR,by simp only[List.length_cons,List.length_nil,List.length_append] at hz |-;omega⟩ G ⟨Z,Z,Z,By Z,nm⟩
       ·by_cases c2:0<kw a b
        ·rcases n with _ | n
         ·simp only[nz,m6] at hn;omega
         cases hft:f false true
         ·have hR:out++fh kw f n (a::x) y=R:=by rw[<-hR];simp [fh,c1,c2,hft]
          have hfv:∀ (u:World) (H:Heap),zs4 H u->Ret zs5 tf [.bool false,.bool true] u H (fun v _=>v=.bool false):=fun u H h=>by have:=hf false true u H h;rwa [hft] at this
          refine(Zf∘ZO∘Zj∘ZP∘Zcl∘Zcb∘Zy∘Zd∘ZF∘Z2∘Zj∘ZT∘Zav∘ZG∘Zj∘ZT∘Zs∘ZaJ∘ZcY∘Zad∘ZdC∘Zc0∘Zad∘ZdC∘Zc0) ?_;refine z81 L Z (fun u H hH _=>j8 hH) ?_;refine(ZaK∘ZdY∘Zaw∘Zbh∘Zae∘Zc1∘Zbj∘ZbL∘ZP∘Z3∘Zaa∘Zh∘ZdU∘ZaE∘ZaU∘ZaC∘ZaO∘Za∘Zcp∘Zcs∘Zh) ?_;refine z7 (jt L (kh:=.i64) (ph:=0) (km:=.i64) (pm:=0) 1 _ false Z Z Z Z Z ⟨rfl,rfl⟩ ⟨rfl,rfl⟩ (fun h=>by cases h) T T M) Z ?_;refine(ZR∘Zg∘ZaP∘Zb∘ZcO∘Za∘Zbz) ?_;refine z7 (qb L Z Z (zm Z) Z Z hfn (fun u H hH _ _=>hfv u H hH)) Z ((Zac∘Zaw) ?_);exact yo (x:=(n+1,a::x,b::y,out)) (n,(a::x),y,out) ⟨by simp only[List.length_cons,List.length_nil] at hn |-;omega,hR,by simp only[List.length_cons,List.length_nil,List.length_append] at hz |-;omega⟩ G ⟨Z,Z,Z,Z,nm⟩
         ·have hR:out++[b]++fh kw f n (a::x) y=R:=by rw[<-hR];simp [fh,c1,c2,hft]
          have hfv:∀ (u:World) (H:Heap),zs4 H u->Ret zs5 tf [.bool false,.bool true] u H (fun v _=>v=.bool true):=fun u H h=>by have:=hf false true u H h;rwa [hft] at this
          refine(Zf∘ZO∘Zj∘ZP∘Zcl∘Zcb∘Zy∘Zd∘ZF∘Z2∘Zj∘ZT∘Zav∘ZG∘Zj∘ZT∘Zs∘ZaJ∘ZcY∘Zad∘ZdC∘Zc0∘Zad∘ZdC∘Zc0) ?_;refine z81 L Z (fun u H hH _=>j8 hH) ?_;refine(ZaK∘ZdY∘Zaw∘Zbh∘Zae∘Zc1∘Zbj∘ZbL∘ZP∘Z3∘Zaa∘Zh∘ZdU∘ZaE∘ZaU∘ZaC∘ZaO∘Za∘Zcp∘Zcs∘Zh) ?_;refine z7 (jt L (kh:=.i64) (ph:=0) (km:=.i64) (pm:=0) 1 _ false Z Z Z Z Z ⟨rfl,rfl⟩ ⟨rfl,rfl⟩ (fun h=>by cases h) T T M) Z ?_;refine(ZR∘Zg∘ZaP∘Zb∘ZcO∘Za∘Zbz) ?_;refine z7 (qb L Z Z (zm Z) Z Z hfn (fun u H hH _ _=>hfv u H hH)) Z ((Z3∘ZcJ) ?_);refine qg (yu (.inl Z) Z) ((Za3∘Zc5) ?_);refine qg (yu (.inr Z) Z) ((Zab∘Zaw) ?_);exact yo (x:=(n+1,a::x,b::y,out)) (n,(a::x),y,out++[b]) ⟨by simp only[List.length_cons,List.length_nil] at hn |-;omega,hR,by simp only[List.length_cons,List.length_nil,List.length_append] at hz |-;omega⟩ G ⟨Z,Z,Z,By Z,nm⟩
        ·rcases n with _ | n
         ·simp only[nz,m6] at hn;omega
         cases hft:f true true
         ·have hR:out++fh kw f n x y=R:=by rw[<-hR];simp [fh,c1,c2,hft]
          have hfv:∀ (u:World) (H:Heap),zs4 H u->Ret zs5 tf [.bool true,.bool true] u H (fun v _=>v=.bool false):=fun u H h=>by have:=hf true true u H h;rwa [hft] at this
          refine(Zf∘ZO∘Zj∘ZP∘Zcl∘Zcb∘Zy∘Zd∘ZF∘Z2∘Zj∘ZT∘Zav∘ZG∘Zj∘ZT∘Zs∘ZaJ∘ZcY∘Zad∘ZdC∘Zc0∘Zad∘ZdC∘Zc0) ?_;refine z81 L Z (fun u H hH _=>j8 hH) ?_;refine(ZaK∘ZdY∘Zaw∘Zbh∘Zae∘Zc1∘Zbj∘ZbL∘ZM∘Zdo∘Zaj∘Zh∘ZdU∘ZaE∘ZZ∘Zbx∘Zh) ?_;refine z7 (jt L (kh:=.i64) (ph:=0) (km:=.i64) (pm:=0) 1 _ false Z Z Z Z Z ⟨rfl,rfl⟩ ⟨rfl,rfl⟩ (fun h=>by cases h) T T M) Z ?_;refine(ZR∘ZaC∘ZaO∘Za∘Zcp∘Zcs∘Zh) ?_;refine z7 (jt L (kh:=.i64) (ph:=0) (km:=.i64) (pm:=0) 1 _ false Z Z Z Z Z ⟨rfl,rfl⟩ ⟨rfl,rfl⟩ (fun h=>by cases h) T T M) Z ?_;refine(ZR∘Zg∘ZaP∘Zb∘ZcW∘Za∘Zbz) ?_;refine z7 (qb L Z Z (zm Z) Z Z hfn (fun u H hH _ _=>hfv u H hH)) Z ((Zac∘Zaw) ?_);exact yo (x:=(n+1,a::x,b::y,out)) (n,x,y,out) ⟨by simp only[List.length_cons,List.length_nil] at hn |-;omega,hR,by simp only[List.length_cons,List.length_nil,List.length_append] at hz |-;omega⟩ G ⟨Z,Z,Z,Z,nm⟩
         ·have hR:out++[a]++fh kw f n x y=R:=by rw[<-hR];simp [fh,c1,c2,hft]
          have hfv:∀ (u:World) (H:Heap),zs4 H u->Ret zs5 tf [.bool true,.bool true] u H (fun v _=>v=.bool true):=fun u H h=>by have:=hf true true u H h;rwa [hft] at this
          refine(Zf∘ZO∘Zj∘ZP∘Zcl∘Zcb∘Zy∘Zd∘ZF∘Z2∘Zj∘ZT∘Zav∘ZG∘Zj∘ZT∘Zs∘ZaJ∘ZcY∘Zad∘ZdC∘Zc0∘Zad∘ZdC∘Zc0) ?_;refine z81 L Z (fun u H hH _=>j8 hH) ?_;refine(ZaK∘ZdY∘Zaw∘Zbh∘Zae∘Zc1∘Zbj∘ZbL∘ZM∘Zdo∘Zaj∘Zh∘ZdU∘ZaE∘ZZ∘Zbx∘Zh) ?_;refine z7 (jt L (kh:=.i64) (ph:=0) (km:=.i64) (pm:=0) 1 _ false Z Z Z Z Z ⟨rfl,rfl⟩ ⟨rfl,rfl⟩ (fun h=>by cases h) T T M) Z ?_;refine(ZR∘ZaC∘ZaO∘Za∘Zcp∘Zcs∘Zh) ?_;refine z7 (jt L (kh:=.i64) (ph:=0) (km:=.i64) (pm:=0) 1 _ false Z Z Z Z Z ⟨rfl,rfl⟩ ⟨rfl,rfl⟩ (fun h=>by cases h) T T M) Z ?_;refine(ZR∘Zg∘ZaP∘Zb∘ZcW∘Za∘Zbz) ?_;refine z7 (qb L Z Z (zm Z) Z Z hfn (fun u H hH _ _=>hfv u H hH)) Z ((Z3∘ZcJ) ?_);refine qg (yu (.inl Z) Z) ((Za3∘Zc5) ?_);refine qg (yu (.inr Z) Z) ((Zab∘Zaw) ?_);exact yo (x:=(n+1,a::x,b::y,out)) (n,x,y,out++[a]) ⟨by simp only[List.length_cons,List.length_nil] at hn |-;omega,hR,by simp only[List.length_cons,List.length_nil,List.length_append] at hz |-;omega⟩ G ⟨Z,Z,Z,By Z,nm⟩
end Go.V.L2
namespace Go.V.L11
open Go.V.L2 Go.V.L4
abbrev ziq:Nat:=41
abbrev tyI:Nat:=3
abbrev tyE:Nat:=38
attribute [local irreducible] RetO RetT kz RetX RetY
def Qx{y r:ByteArray}(h:Mt y=some r)(hs:y.size<=9223372036854775807)(hB:zs4 B w):
  Ret zs5 131 [.string y,.string ⟨#[10]⟩] w B (fun v _=>v=.tuple #[.string r,.bool true]):=by
 have e1:=Md h;have e:y.data.toList=r.data.toList++[10]:=by rw[e1,uc]
 have h1:Lib.hasSuffix y.data.toList [10]=true:=by
  rw[e];exact List.isSuffixOf_iff_suffix.2 (List.suffix_append _ _)
 refine Qy hs h1 ?_ hB;unfold Lib.trimSuffix;rw[na h1,e];apply cy;simp
def zhy{y:ByteArray}(h:Mt y=none)(hs:y.size<=9223372036854775807)(hB:zs4 B w):
  Ret zs5 131 [.string y,.string ⟨#[10]⟩] w B (fun v _=>v=.tuple #[.string y,.bool false]):=by
 have h1:Lib.hasSuffix y.data.toList [10]=false:=by
  cases hh:Lib.hasSuffix y.data.toList [10]
  ·rfl
  ·obtain⟨t,ht⟩:=List.isSuffixOf_iff_suffix.1 hh;unfold Mt at h;rw[na (by rw[<-ht];simp)] at h;cases h
 refine Qy hs h1 ?_ hB;unfold Lib.trimSuffix;rw[nc (by rw[h1];decide)]
def Sj{rd:ByteArray->U×Int}{rdf:Nat}(hfn:L.fn rdf=some ()){s:ByteArray}(hs:s.size<=1000000)(hB:zs4 B w)
  (hrd:∀ (r:ByteArray),r.size<=1000000->∀ (u:World) (H:Heap),zs4 H u->B.Le H->Ret zs5 rdf [.string r] u H (fun v _=>v=.tuple #[uv (rd r).1,.int .i64 (rd r).2])):
  Ret zs5 71 [.string s,.func (.func rdf) #[] #[]] w B (TupS [US (zax rd s).1 true,fun v _=>v=.int .i64 (zax rd s).2.1,fun v _=>v=.int .i64 (zax rd s).2.2]):=by
 have hF:zax rd s=tn rd [] 1 (a7 s):=nc T;rw[hF];refine yr Tryz.func71 Z Tryz.ntmps71 (np Z) hB ((Zbw∘ZE∘ZE∘Zcg∘Zbp∘Zaf∘ZM∘Zx∘Z6∘Zcg∘Z5) ?_);refine z7 (xg L Z Z (zm Z) Z Z Z LinAt.mono (fun u H hH _ _=>Xr hH)) Z (Zd3 (h:=?_));refine jd 3 83 rfl fun b3=>?_;refine wk 83 rfl fun H1 hs1 _ hb3=>?_;refine jd 4 84 rfl fun b4=>?_;refine jd 5 85 rfl fun b5=>?_;refine jd 6 86 rfl fun b6=>?_;refine ug 7 rfl fun b7 hb7=>?_;refine zaq 87 tyU 6 (Fj 87 [] Z Z ?_);refine o7 18 rfl fun v18 H2 hs2 ⟨lb,e18,hlb⟩=>?_;subst e18;have hsB:=hs1.trans hs2;have hnil:tn rd [] 1 (Mu [])=([],0,0):=rfl
 refine au L (gf:=190) (caps:=[kq lb]) [(3,kq b3),(4,kq b4),(5,kq b5),(6,kq b6),(7,kq b7)]
  (fun pre=>[(84,xu b4 [.slice none 0 0] ziq),(85,xu b5 [.int .i64 (tn rd [] 1 (Mu pre)).2.1] tyI),(86,xu b6 [.int .i64 (tn rd [] 1 (Mu pre)).2.2] tyE),(87,za3 b7 ziq (SlR tyU 6 (Nx rd 1 (Mu pre)).length ((Nx rd 1 (Mu pre)).flatMap ucs)))])
  (fun pre x=>[(84,.own (xu b4 [.slice none 0 0] ziq)),(85,.own (xu b5 [.int .i64 (tn rd [] 1 (Mu pre)).2.1] tyI)),(86,.own (xu b6 [.int .i64 (tn rd [] 1 (Mu pre)).2.2] tyE)),(87,.own (za3 b7 ziq (SlR tyU 6 (Nx rd 1 (Mu pre)).length ((Nx rd 1 (Mu pre)).flatMap ucs)))),
   (3,.is (kq b3)),(4,.is (kq b4)),(5,.is (kq b5)),(6,.is (kq b6)),(7,.is (kq b7)),(8,.is (x.headD undef)),(9,.is (x.tail.headD undef))])
  (lu 1 (uh (a7 s))) (fun p=>!um rd 1 (Mu p)) (fun _=>.ret) rfl rfl rfl ⟨rfl,rfl,rfl,rfl,rfl,rfl,rfl,rfl,rfl,nm⟩
  (fun pre p hp=>by simp only[ma,zp8,or_false] at hp;rcases hp with rfl | rfl | rfl | rfl<;>exact np rfl) rfl
  (fun x hx=>by obtain⟨p,q,e⟩:=zr1 hx;obtain⟨ls,y,_,rfl,_⟩:=Xb (pre:=p) (x:=x) ⟨q,by rw[e];simp⟩;rfl) E
  (fun u H hH hle=>Od T hH (hle _ _ hlb)) ?asg ?bd ?dn ?st
 case asg=>
  intro w1 Ln B' l' D' o pre x' hpre hstp hBB;obtain⟨ls,y,rfl,rfl,hls⟩:=Xb hpre;refine(Ze∘Z1∘Zc∘ZO∘Zby) ?_;exact zau nq ⟨Z,Z,Z,Z,Z,Z,Z,Z,Z,Z,Z,nm⟩
 case bd=>
  intro w1 Ln B' l' D' o pre x' hpre hstp hBB;obtain⟨ls,y,rfl,rfl,hls⟩:=Xb hpre
  have hg:um rd 1 ls=true:=by
   have:=hstp;rw[wy] at this;simpa using this
  have e3:=C9 ls y;rw[<-e3];have hb3':=hBB _ _ (hs2.le _ _ hb3)
  have hln:ls.length+1<=1000000:=by
   have h1:=hls.length_le;have h2:=Gu s;rw[nr] at h1;simp at h1;omega
  have hys:y.size<=1000000:=by
   have:=Xt (s:=s) (y:=y) (hls.subset (by simp));omega
  rw[wy,Nv hg,Nw hg];have hvl:(D4 rd ls).length<=ls.length:=Pe;by_cases hn:4096<ls.length+1
  ·have hp:=Gg (rd:=rd) (ys:=[]) (y:=y) hg T;have hbad:um rd 1 (ls++[y])=false:=by rw[dc,hg];unfold Hl;simp;omega
   have how:Nx rd 1 (ls++[y])=D4 rd ls:=by rw[ey hg];unfold Nx;rw[if_pos (by unfold Hl;simp;omega),List.append_nil]
   refine(ZF∘Ze∘Z7∘ZP∘Zn∘ZaI) ?_;refine xo (yl L (q:=84) (cs':=[.slice none 0 0]) Z Z Z Z Z) (xo (yl L (q:=85) (cs':=[.int .i64 ((ls.length+1:Nat):Int)]) Z Z Z Z Z) (xo (yl L (q:=86) (cs':=[.int .i64 3]) Z Z Z Z Z) (Zw (h:=?_))));refine Ff (Rm (Ak (Ty nq (by rw[wy,hbad];rfl) Z ?_)));rw[wy,hp,how,zq0 1];exact⟨Z,Z,Z,Z,nm⟩
  ·cases he:Mt y with
   | none=>
    have hp:=Cu (rd:=rd) (ys:=[]) (y:=y) hg T he;have hbad:um rd 1 (ls++[y])=false:=by rw[dc,hg];unfold Hl;rw[he];simp
    have how:Nx rd 1 (ls++[y])=D4 rd ls:=by rw[ey hg];unfold Nx;rw[if_pos (by unfold Hl;rw[he];simp),List.append_nil]
    refine(ZF∘Ze∘Z7∘ZM∘Zx∘Zaq) ?_;refine z71 L Z (fun u H hH _=>zhy he T hH) ?_;refine(ZA∘ZcM∘Z4∘Za∘Zm∘Zn∘ZG∘Za) ?_;refine xo (yl L (q:=84) (cs':=[.slice none 0 0]) Z Z Z Z Z) (xo (yl L (q:=85) (cs':=[.int .i64 ((ls.length+1:Nat):Int)]) Z Z Z Z Z) (xo (yl L (q:=86) (cs':=[.int .i64 5]) Z Z Z Z Z) (Zw (h:=?_))));refine Ff (Rm (Ak (Ty nq (by rw[wy,hbad];rfl) Z ?_)));rw[wy,hp,how,zq0 1];exact⟨Z,Z,Z,Z,nm⟩
   | some r=>
    have hrs:r.size<=1000000:=by
     have:=nh ByteArray.size (Md he);rw[zrg] at this;omega
    obtain⟨t,e,hrt⟩:∃ t e,rd r=(t,e):=⟨_,_,rfl⟩
    have hrr:=hrd r hrs;rw[hrt] at hrr;by_cases h0:e=0
    ·subst h0;have hgood:um rd 1 (ls++[y])=true:=by rw[dc,hg];unfold Hl;rw[he];simp [hrt];omega
     have hp:=Nv hgood;have how:=Nw hgood;have hvs:=T9 (rd:=rd) (ls:=ls) he;rw[hrt] at hvs;refine(ZF∘Ze∘Z7∘ZM∘Zx∘Zaq) ?_;refine z71 L Z (fun u H hH _=>Qx he T hH) ?_;refine(ZA∘ZcM∘Z4∘Za∘Zm∘Zx∘ZJ) ?_;refine z7 (zo L (qt Z hb3') Z Z Z Z) Z (Za (h:=?_));refine z7 (qb L Z Z (zm Z) Z Z hfn (fun u H hH hle _=>hrr u H hH (hsB.le.trans (hBB.trans hle)))) Z ((ZA∘Za1∘Zk∘Zae∘Za∘Zbf∘Zac∘Zbr) ?_);refine s5 87 _ Z SlR.shape fun z hz=>?_;obtain⟨p,c,rfl⟩:=hz;refine(Zaa∘Zcf) ?_;refine pf 42 87 rfl rfl ((Za3∘Zc5) ?_);refine c7 45 87 _ rfl SlR.shape fun z hz=>?_;obtain⟨p',c',rfl⟩:=hz;refine(ZfG∘Zab∘Zaw) ?_;refine Fl 87 [] Z Z (zav nq (by rw[wy,hgood];rfl) ?_);rw[wy,hp,how,hvs,zpo,nr];exact⟨Z,Z,Z,Z,nm⟩
    ·have hp:=Gh (rd:=rd) (ys:=[]) (y:=y) hg T he (by rw[hrt];exact h0);rw[hrt] at hp;have hbad:um rd 1 (ls++[y])=false:=by rw[dc,hg];unfold Hl;rw[he];simp [hrt,h0]
     have how:Nx rd 1 (ls++[y])=D4 rd ls:=by rw[ey hg];unfold Nx;rw[if_pos (by unfold Hl;rw[he];simp [hrt,h0]),List.append_nil]
     refine(ZF∘Ze∘Z7∘ZM∘Zx∘Zaq) ?_;refine z71 L Z (fun u H hH _=>Qx he T hH) ?_;refine(ZA∘ZcM∘Z4∘Za∘Zm∘Zx∘ZJ) ?_;refine z7 (zo L (qt Z hb3') Z Z Z Z) Z (Za (h:=?_));refine z7 (qb L Z Z (zm Z) Z Z hfn (fun u H hH hle _=>hrr u H hH (hsB.le.trans (hBB.trans hle)))) Z ((ZA∘Za1∘Zk∘Zae∘Za∘Za0∘ZaD∘Zb) ?_);refine xo (yl L (q:=84) (cs':=[.slice none 0 0]) Z Z Z Z Z) (xo (yl L (q:=85) (cs':=[.int .i64 ((ls.length+1:Nat):Int)]) Z Z Z Z Z) (xo (yl L (q:=86) (cs':=[.int .i64 e]) Z Z Z Z Z) (Zw (h:=?_))));refine Ff (Rm (Ak (Ty nq (by rw[wy,hbad];rfl) Z ?_)));rw[wy,hp,how,zq0 1];exact⟨Z,Z,Z,Z,nm⟩
 case st=>
  intro l' D' o hstop;obtain⟨ks,h1,h2,h3⟩:=B9 rd (a7 s) [] rfl;have h1':ju (fun p=>!um rd 1 (Mu p)) [] (lu 1 (uh (a7 s)))=lu 1 (uh ks):=h1;rw[h1',wy] at hstop;have hbad:um rd 1 ks=false:=by simpa using hstop
  have hn1:=Pz (out:=[]) hbad;have h2':tn rd [] 1 ks=tn rd [] 1 (a7 s):=h2;rw[h1',wy,h2'];rw[h2'] at hn1;generalize tn rd [] 1 (a7 s)=R at hn1 |-;obtain⟨R1,R2,R3⟩:=R;dsimp only at hn1;subst hn1;refine dw 4 84 rfl Z (dw 5 85 rfl Z (dw 6 86 rfl Z ?_));refine zan L (rs:=[.cell 4 ziq,.cell 5 tyI,.cell 6 tyE]) Z (fun _ _ h=>h) hsB fun O' u H hH hle=>?_;exact wn (y7 Z) Z (wn (y7 Z) Z (wn (y7 Z) Z (tup3 SlV.nil Z Z)))
 case dn=>
  intro l' D' o hgo;obtain⟨ks,h1,h2,h3⟩:=B9 rd (a7 s) [] rfl;have h1':ju (fun p=>!um rd 1 (Mu p)) [] (lu 1 (uh (a7 s)))=lu 1 (uh ks):=h1;rw[h1',wy] at hgo;have hg:um rd 1 ks=true:=by simpa using hgo
  have hkl:ks=a7 s:=h3 hg;have hll:=Gu s;have hvl:(D4 rd ks).length<=ks.length:=Pe;rw[h1',wy,<-hkl,Nv hg,Nw hg];refine Zaw (h:=?_);refine Zbr (h:=?_);refine s5 87 _ Z SlR.shape fun z hz=>?_;obtain⟨p,c,rfl⟩:=hz;refine(Ze∘Zaj∘Zcf) ?_;refine pf 46 87 rfl rfl (Bv 46 rfl ((Zcf∘Zco∘Zcf∘Zco∘Zec) ?_));refine vo 51 rfl fun sv H3 hs3 hsv=>?_;obtain⟨p1,c1,rfl⟩:=jk hsv;refine xo (yl L (q:=84) (cs':=[.slice p1 (D4 rd ks).length c1]) rfl rfl rfl rfl rfl) (xo (yl L (q:=85) (cs':=[.int .i64 0]) rfl rfl rfl rfl rfl) (xo (yl L (q:=86) (cs':=[.int .i64 0]) rfl rfl rfl rfl rfl) (Zw (h:=?_))));refine dw 4 84 rfl Z (dw 5 85 rfl Z (dw 6 86 rfl Z ?_));refine zan L (rs:=[.cell 4 ziq,.cell 5 tyI,.cell 6 tyE]) Z (fun _ _ h=>h) (hsB.trans hs3) fun O' u H hH hle=>?_;exact wn (y7 Z) Z (wn (y7 Z) Z (wn (y7 Z) Z (tup3 (hsv.le hle) Z Z)))
open Go.V.L8
def Lb{a b:Value}(h:Kn.mono (.sat φ)):Kn.mono (.sat (TupS [φ,fun v _=>v=a,fun v _=>v=b])):=TupS.mono fun ψ hψ=>by
 simp only[ma,zp8,or_false] at hψ;rcases hψ with rfl | rfl | rfl
 ·exact h
 ·exact fun _ _ _ h _=>h
 ·exact fun _ _ _ h _=>h
def Rn{s:ByteArray}(hs:s.size<=1000000)(hB:zs4 B w)(hM:GlobM B):
  Ret zs5 22 [.string s] w B (TupS [US (zax ptA s).1 true,fun v _=>v=.int .i64 (zax ptA s).2.1,fun v _=>v=.int .i64 (zax ptA s).2.2]):=by
 have hmo:Kn.mono (.sat (US (zax ptA s).1 true)):=ns;refine yr Tryz.func22 Z Tryz.ntmps22 (np Z) hB ((ZbX∘Zs∘ZbA) ?_);refine z7 (xg L Z Z (zm Z) Z Z Z (Lb ns) (fun u H hH hle _=>Sj (rd:=ptA) Z hs hH (fun r hr u2 H2 hH2 hle2=>R0 Z hr hH2 (hM.mono (hle.trans hle2))))) Z ((Zdp∘ZcR∘ZcR∘ZR∘ZI) ?_);refine yj1 L [.tmp 2,.tmp 3,.tmp 4] fun u H hH hle=>?_;exact fun a h=>tup3 h Z Z
end Go.V.L11
end
namespace Go.V
section sound
variable    {ex:Exs} {Fin:Kap->Prop}
def Eo{Fin:Kap->Prop}:∀ (m i:Nat) {κ:Kap},i+m<=ops.size->ziw P St ops ex Fin ((ops.toList.drop i).take m) κ->ParI P St ops ex Fin (List.range' i m) κ
 | 0,i,κ,hm,h=>by
  rw[zpt] at h;exact h
 | m+1,i,κ,hm,h=>by
  have hi:i<ops.toList.length:=by simp;omega
  rw[zpu hi,zqr] at h;obtain⟨us,hd,sx,rest⟩:=h;refine⟨ops.toList[i],us,?_,hd,sx,Eo m (i+1) T rest⟩;have hi':i<ops.size:=by simpa using hi
  rw[zpj hi'];simp
end sound
section code
end code
end Go.V
namespace Go.V
def O5(w:World)(B:Heap)(L:Nat->Prop)(pv:Value)(e:Ending)(u:World):Prop:=e=.panicked [{ v:=pv,recovered:=false }]/\∃ H,Grow L w B u H
def Pan(P:Program)(f:FuncId)(args:List Value)(w:World)(B:Heap)(L:Nat->Prop)(pv:Value):Prop:=Calls P f args.toArray w (O5 w B L pv)
section sound
variable    {ex:Exs}
end sound
section code
def QX(P:Program)(F:Fr)(ops:Array Oper)(K:Nat)(zs3:Exit->Act->World->Prop):Exit->Act->World->Prop:=fun _ a u=>∀ Kk,wpOpIn (FW F.r) 0 P ops zs3 K Kk a u
def XP(F:Fr)(B:Heap)(n:Nat)(O:Boxes)(κ:Kap)(pv:Value)(zs3:Exit->Act->World->Prop):Prop:=∀ a u,Has F B O n κ a u->zs3 (.panic [{ v:=pv,recovered:=false }]) a u
def jz{id:Nat}{l:List Oper}(K:Nat)(hK:Nat.ble (K+1) l.length=true)(h:VO P F B n O l.toArray κ (l.take K) (QX P F l.toArray K zs3)):V P F B n O κ (.region id l.toArray false) zs3:=fun a u hh=>by
 refine wpIn_region ?_;have hK:=np hK
 have hsplit:List.range l.toArray.size=List.range' 0 K++K::List.range' (K+1) (l.length-(K+1)):=by
  rw[zrn,show K::List.range' (K+1) (l.length-(K+1))=List.range' K (l.length-K) by rw[show l.length-K=(l.length-(K+1))+1 by omega];rfl];have:=List.range'_append_1 (s:=0) (m:=K) (n:=l.length-K);rw[zo2] at this;rw[this,Nat.add_sub_cancel' T];simp
 rw[hsplit]
 have key:∀ (m i:Nat) {a:Act} {u:World},i+m=K->Ops P l.toArray (fun a u=>QX P F l.toArray K zs3 .normal a u) ((l.drop i).take m) a u->
   wpOpsIn (FW F.r) 0 P l.toArray zs3 (List.range' i m++K::List.range' (K+1) (l.length-(K+1))) a u:=by
  intro m
  induction m with
  | zero=>
   intro i a u hi ho;rw[zpt] at ho;show wpOpsIn (FW F.r) 0 P l.toArray zs3 (K::_) a u;rw[wpOpsIn_cons];exact ho _
  | succ m ih=>
   intro i a u hi ho;have hil:i<l.length:=T;rw[zpu hil,zqr] at ho;have hg:l.toArray[i]?=some l[i]:=by rw[zrb,zpe hil]
   rw[zro,zpd,wpOpsIn_cons];exact After.wpOpIn hg (After.mono (fun a' u' hh'=>ih (i+1) T hh') ho)
 exact key K 0 T (by rw[zpy];exact h a u hh)
def jw(L:Tabs P)(q:Nat){K:Nat}{r:Res}{d:Option Nat}{f:Nat}{args:Array Operand}{at_:Array TypeId}{fo:Operand}
  (ho:ops[K]?=some ⟨d,.call { callee:=.value fo,args:=args,argTypes:=at_ },ty,pos,aft,g⟩) (hg:gK ops κ ⟨d,.call { callee:=.value fo,args:=args,argTypes:=at_ },ty,pos,aft,g⟩=some true)
  (hf:evK κ fo=some (.func (.func f) #[] cap.toArray)) (hfn:L.fn f=some ()) (hq:κ q=some (.own r))
  (h:∀ u H C,zs4 H u->B.Le H->r.P undef H u C->(ZCB C u H)->Args κ H args.toList [] (fun vs=>Pan P f (vs++cap) u H C pv)) (hr:∀ v H u C,r.P v H u C->r.P undef H u C)
  (hX:XP F B n O (upd κ q po) pv zs3):N F B n O κ (QX P F ops K zs3):=by
 rintro a u ⟨H,fp,hh⟩ Kk;have hlk:∀ t∈(⟨d,.call { callee:=.value fo,args:=args,argTypes:=at_ },ty,pos,aft,g⟩:Oper).looksAt ops,κ t=κ t:=fun _ _=>rfl;unfold wpOpIn;rw[ho];dsimp only;rw[na (xl hh hlk hg)];obtain⟨hown,hM⟩:=hh.slot q _ hq;have e2:=hh.env hlk;have hfe:a.eval fo=.func (.func f) #[] cap.toArray:=e2.is_ fo _ (by simp [Op.operands,Call.operands]) hf;have hc:=Args.use e2 args.toList [] (fun x hx=>by simp [Op.operands,Call.operands] at hx |-;exact .inr hx) (h u H (fp q) hh.sub hh.base (hr _ _ _ _ hown) fun k hk=>⟨(hM k hk).1,(hM k hk).2.1⟩);simp only[zpv,mj] at hc;have hrun:=ux (u:=u) L (o:=⟨d,.call { callee:=.value fo,args:=args,argTypes:=at_ },ty,pos,aft,g⟩) rfl hfe hfn;refine⟨fun _ _=>trivial,?_⟩;rw[Oper.semAt_eq _ _ _ (fun c hc=>by cases hc),hrun];refine⟨fun e=>(by cases e),FW.call _ _ (Calls.mono hc fun e' u' hp=>?_)⟩;obtain⟨rfl,H',g'⟩:=hp;exact hX a u' ⟨H',_,hh.use hq g'⟩
def wh{K:Act->World->Prop}(h:XP F B n O κ pv zs3):XP F B n O κ pv (Exit.then K zs3):=h
def jq{id:Nat}(h:XP F B n O κ pv zs3):XP F B n O κ pv (Exit.inBlock id zs3):=h
def dh{fn:Func}(hs:Since F B0 B)(hd:F.ds=[]:=by rfl):XP F B n O κ pv (bodyPostM Fence.wide 0 P fn (O5 F.w0 B0 F.L pv)):=fun a u hh=>by
 obtain⟨H,fp,hH⟩:=hh;have h0:=hH.defers;rw[hd] at h0;show LeavesInM _ _ _ _ _ _ a.defers _ _;rw[h0];exact⟨rfl,H,⟨hH.keep,hH.sub,hs.le.trans hH.base,fun k hk hl=>(hH.fresh k hk hl).trans (hs.fresh k hk hl)⟩⟩
def f7{f:FuncId}{fn:Func}{c:Code}(gs:Nat)(r:GR)(hf:P.funcs[f]?=some fn)(hb:fn.body=some c)(hn:fn.ntmps=n)
  (hs:args.length<=n) (hB:zs4 B w) (hr:r.P B w C) (hC:ZCB C w B) (h:V P ⟨w,none,[],C⟩ B n [] (upd (Ag 0 args) gs (.own r.res)) c (bodyPostM Fence.wide 0 P fn (O5 w B C pv))):Pan P f args w B C pv:=by
 refine bp hf hb (h _ w ?_);subst hn;have h0:=bm (B:=B) C (fun k hk=>(hC k hk).1) hs hB (fun _=>noL)
 exact⟨B,_,h0.putR (d:=gs) (r:=r.res) Z Z (fun _ _=>rfl) hr (fun k hk=>⟨(hC k hk).1,(hC k hk).2,.inr hk,fun y hy=>by cases hy⟩) fun t r' _ ht=>by
  obtain⟨v,hv,_⟩:=gn _ _ _ _ ht;cases hv⟩
end code
end Go.V
namespace Go.V
section
variable        {d:Nat}      {a:Act} {u:World} {os:List Oper} {t xt:TypeId} {x:Operand} 
def Lc(hn:Nat.blt d n=true)(hg:gK ops κ ⟨some d,.makeInterface t x,ty,pos,aft,g⟩=some true)(hx:evK κ x=some v)(hc:P.concrete t=true):
  StepOK P F B n ops O κ ⟨some d,.makeInterface t x,ty,pos,aft,g⟩ d (.is (.iface t v)):=
 kj rfl (by simpa using hn) hg trivial fun a u H fp e=>⟨_,by
  have h1:a.eval x=v:=e.is_ x _ (by simp [Op.operands]) hx;have h2:=run_makeInterface (w:=u) t v hc;simp only[execOp,h1,nw,me,h2,ny],rfl⟩
def Sv(hn:Nat.blt d n=true)(hg:gK ops κ ⟨some d,.typeAssert x xt t true,ty,pos,aft,g⟩=some true)(hx:evK κ x=some (.iface t v))(hc:P.concrete t=true):
  StepOK P F B n ops O κ ⟨some d,.typeAssert x xt t true,ty,pos,aft,g⟩ d (.is (.tuple #[v,.bool true])):=
 kj rfl (by simpa using hn) hg trivial fun a u H fp e=>⟨_,by
  have h1:a.eval x=.iface t v:=e.is_ x _ (by simp [Op.operands]) hx
  have h2:(Instr.typeAssert (.iface t v) xt t true).run P u=.ok (.tuple #[v,.bool true]) u:=by
   unfold Program.concrete at hc
   cases hd:P.underlying t with
   | none=>simp [hd] at hc
   | some dd=>cases dd<;>first | (simp [hd] at hc;done) | simp [Instr.typeAssert,run_underlying hd]
  simp only[execOp,h1,nw,me,h2,ny],rfl⟩
def Sw{z:Value}(hn:Nat.blt d n=true)(hg:gK ops κ ⟨some d,.typeAssert x xt t true,ty,pos,aft,g⟩=some true)(hx:evK κ x=some .nilIface)(hc:P.concrete t=true)(hz:∀ w,(zeroValue t).run P w=.ok z w):
  StepOK P F B n ops O κ ⟨some d,.typeAssert x xt t true,ty,pos,aft,g⟩ d (.is (.tuple #[z,.bool false])):=
 kj rfl (by simpa using hn) hg trivial fun a u H fp e=>⟨_,by
  have h1:a.eval x=.nilIface:=e.is_ x _ (by simp [Op.operands]) hx
  have h2:(Instr.typeAssert .nilIface xt t true).run P u=.ok (.tuple #[z,.bool false]) u:=by
   unfold Program.concrete at hc
   cases hd:P.underlying t with
   | none=>simp [hd] at hc
   | some dd=>cases dd<;>first | (simp [hd] at hc;done) | simp [Instr.typeAssert,run_underlying hd,hz]
  simp only[execOp,h1,nw,me,h2,ny],rfl⟩
def Dd{K:Nat}{dd:Option Nat}(ho:ops[K]?=some ⟨dd,.panic x,ty,pos,aft,g⟩)(hg:gK ops κ ⟨dd,.panic x,ty,pos,aft,g⟩=some true)(hx:evK κ x=some (.iface t v))(hX:XP F B n O κ (.iface t v) zs3):N F B n O κ (QX P F ops K zs3):=by
 rintro a u ⟨H,fp,hh⟩ Kk;have hlk:∀ s∈(⟨dd,.panic x,ty,pos,aft,g⟩:Oper).looksAt ops,κ s=κ s:=fun _ _=>rfl;unfold wpOpIn;rw[ho];dsimp only;rw[na (xl hh hlk hg)];have e2:=hh.env hlk;have h1:a.eval x=.iface t v:=e2.is_ x _ (by simp [Op.operands]) hx
 have hrun:(execOp a.eval ⟨dd,.panic x,ty,pos,aft,g⟩).run P u=.halt (.panic (.iface t v)) u:=by
  simp only[execOp,h1,nw,run_panic_iface];rfl
 refine⟨fun _ _=>trivial,?_⟩;rw[Oper.semAt_eq _ _ _ (fun c hc=>by cases hc),hrun];exact hX a u ⟨H,fp,hh⟩
end
end Go.V
namespace Go.V
def RetY.frame{f:FuncId}{r1 r1' r2:GR}(hr:(gu r1 r2).P B w C)(hC:ZCB C w B)
  (h:∀ C1,r1.P B w C1->(ZCB C1 w B)->RetY P f args w B C1 r1' φ):RetY P f args w B C (gu r1' r2) φ:=by
 obtain⟨C1,C2,h1,h2,h3,h4⟩:=hr;refine Calls.mono (h C1 h1 fun k hk=>hC k ((h3 k).2 (.inl hk))) fun e u ⟨v,he,H,g,hp,C',hv,hC'⟩=>?_;have hsub:∀ k,C1 k->C k:=fun k hk=>(h3 k).2 (.inl hk);have g2:Grow C w B u H:=⟨⟨g.keep.os,g.keep.tape,g.keep.output,g.keep.size,fun k hk hn=>g.keep.block k hk fun h=>hn (hsub k h),g.keep.dr⟩,g.sub,g.le,fun k hk hn=>g.fresh k hk fun h=>hn (hsub k h)⟩
 refine⟨v,he,H,g2,hp,fun k=>C' k\/C2 k,⟨C',C2,hv,r2.st h2 g.le g.sub ⟨g.keep.os,g.keep.tape,g.keep.output,g.keep.size,g.keep.dr⟩ (fun k hk=>g.keep.block k (hC k ((h3 k).2 (.inr hk))).1 fun h=>h4 k h hk),fun _=>Iff.rfl,fun k hk h2k=>?_⟩,fun k hk=>?_⟩
 ·rcases(hC' k hk).1 with h | h
  ·exact h4 k h h2k
  ·have:=(hC k ((h3 k).2 (.inr h2k))).1;omega
 ·rcases hk with hk | hk
  ·obtain⟨a,b,c⟩:=hC' k hk;exact⟨a.imp (hsub k) id,b,c⟩
  ·obtain⟨a,b⟩:=hC k ((h3 k).2 (.inr hk));exact⟨.inl ((h3 k).2 (.inr hk)),zp4 a g.keep.size,(g.fresh k a fun h=>h4 k h hk).trans b⟩
def RetY.conv{f:FuncId}{C:Nat->Prop}{r:GR}(h:RetY P f args w B C r φ)(hi:∀ H u C,r.P H u C->r'.P H u C):RetY P f args w B C r' φ:=
 Calls.mono h fun _ _ ⟨v,he,H,g,hp,C',hv,hC'⟩=>⟨v,he,H,g,hp,C',hi _ _ _ hv,hC'⟩
def G4{r1 r2:GR}{u:World}(h:(gu r1 r2).P H u C):(gu r2 r1).P H u C:=
 let ⟨C1,C2,h1,h2,h3,h4⟩:=h
 ⟨C2,C1,h2,h1,fun k=>(h3 k).trans or_comm,fun k a b=>h4 k b a⟩
section
variable        {d:Nat}      {a:Act} {u:World} {os:List Oper}
end
end Go.V
section
open Go.V
attribute [local irreducible] Has N Pan Par Ret RetL RetO RetT RetX RetY Src StepOK V VO X XP kz
namespace Go.V.L11
open Go.V.L4
def _root_.ZdV(t:Wr Y->A:=by intro h;refine uj 900 901 rfl (co _ _ _) ?_;exact h.1)(h:Y):A:=t ⟨h⟩
def _root_.ZeX(t:Wr Y->A:=by intro h;refine z7 (Lc Z Z Z J) Z ?_;exact h.1)(h:Y):A:=t ⟨h⟩
def _root_.ZeY(t:Wr Y->A:=by intro h;refine z7 (yv (cs:=[_,_]) Z Z zmh Z Z) Z ?_;exact h.1)(h:Y):A:=t ⟨h⟩
def _root_.ZcA(t:Wr Y->A:=by exact fun h=>(ZA∘ZaY) h.1)(h:Y):A:=t ⟨h⟩
abbrev Pj:TypeId:=241
abbrev znf:TypeId:=292
abbrev xx(sb rb:Nat)(sv:Value)(fr:Int)(R:Rd):GR:=gu (xc sb [kq rb,.int .i64 fr] Pj) (GRd rb sv R)
abbrev wrV(a e:Int):Value:=.iface znf (.agg #[.int .i64 a,.int .i64 e])
def Nm{R R2:Rd}{x:Int}(hfn:L.fn fr=some ())(he:R2.err=0){C:Nat->Prop}(hB:zs4 B w)(hr:(xx sb rb sv fr0 R).P B w C)(hC:ZCB C w B)(hf:∀ (u:World) (H:Heap) (C:Nat->Prop),zs4 H u->B.Le H->(xx sb rb sv R.at_ R).P H u C->(ZCB C u H)->RetX zs5 fr (fst++cap) u H C (xx sb rb sv R.at_ R2) (.int .i64 x)):
  RetX zs5 203 [kq sb,.func (.func fr) fst.toArray cap.toArray] w B C (xx sb rb sv R.at_ R2) (.int .i64 x):=by
 unfold RetX;refine xf 900 (xx sb rb sv fr0 R) Tryz.func203 Z Tryz.ntmps203 (np Z) hB hr hC ?_;rw[w9,xd,xd];refine ZdV (h:=?_);refine(ZK∘Zb5) ?_;refine qg (yk L 901 (GRd rb sv R) (.int .i64 R.at_) (r:=GRd rb sv R) Z Z Z Z Z (fun u H C2 hH _ hr2 hC2=>at_ret hH hr2 hC2)) (Zap (h:=?_));refine xo (yl L (q:=900) (cs':=[kq rb,.int .i64 R.at_]) Z Z Z Z Z) (Zg (h:=?_));refine wc 900 901 rfl Z (xi (GRd rb sv R)) ?_;refine Zz (h:=?_);refine qg (jh L 900 (xx sb rb sv R.at_ R2) (.int .i64 x) (r:=xx sb rb sv R.at_ R) Z Z Z hfn Z hf) (Zk (h:=?_));refine uj (r1:=(xc sb [kq rb,.int .i64 R.at_] Pj).res) (r2:=(GRd rb sv R2).res) 900 901 rfl (xi (GRd rb sv R2)) ?_;rw[xd];refine(Zr∘ZW) ?_;refine qg (yk L 901 (GRd rb sv R2) (.tuple #[.int .i64 R2.bad,.int .i64 R2.err]) (r:=GRd rb sv R2) Z Z Z Z Z (fun u H C2 hH _ hr2 hC2=>fault_ret hH hr2 hC2)) ((ZcA∘Z5∘Zb4∘ZL∘Zc) ?_);refine wc 900 901 rfl Z (xi (GRd rb sv R2)) ?_;exact ke L 900 (r:=xx sb rb sv R.at_ R2) (rs:=[.tmp 4]) Z (fun _ _ h=>h) nq Z Z (fun _=>rfl)
def Nn{R R2:Rd}{x:Int}(hfn:L.fn fr=some ())(he:R2.err≠0){C:Nat->Prop}(hB:zs4 B w)(hr:(xx sb rb sv fr0 R).P B w C)(hC:ZCB C w B)(hf:∀ (u:World) (H:Heap) (C:Nat->Prop),zs4 H u->B.Le H->(xx sb rb sv R.at_ R).P H u C->(ZCB C u H)->RetX zs5 fr (fst++cap) u H C (xx sb rb sv R.at_ R2) (.int .i64 x)):
  Pan zs5 203 [kq sb,.func (.func fr) fst.toArray cap.toArray] w B C (wrV R2.bad R2.err):=by
 refine f7 900 (xx sb rb sv fr0 R) Tryz.func203 Z Tryz.ntmps203 (np Z) hB hr hC ?_;rw[w9,xd,xd];refine ZdV (h:=?_);refine(ZK∘Zb5) ?_;refine qg (yk L 901 (GRd rb sv R) (.int .i64 R.at_) (r:=GRd rb sv R) Z Z Z Z Z (fun u H C2 hH _ hr2 hC2=>at_ret hH hr2 hC2)) (Zap (h:=?_));refine xo (yl L (q:=900) (cs':=[kq rb,.int .i64 R.at_]) Z Z Z Z Z) (Zg (h:=?_));refine wc 900 901 rfl Z (xi (GRd rb sv R)) ?_;refine Zz (h:=?_);refine qg (jh L 900 (xx sb rb sv R.at_ R2) (.int .i64 x) (r:=xx sb rb sv R.at_ R) Z Z Z hfn Z hf) (Zk (h:=?_));refine uj (r1:=(xc sb [kq rb,.int .i64 R.at_] Pj).res) (r2:=(GRd rb sv R2).res) 900 901 rfl (xi (GRd rb sv R2)) ?_;rw[xd];refine(Zr∘ZW) ?_;refine qg (yk L 901 (GRd rb sv R2) (.tuple #[.int .i64 R2.bad,.int .i64 R2.err]) (r:=GRd rb sv R2) Z Z Z Z Z (fun u H C2 hH _ hr2 hC2=>fault_ret hH hr2 hC2)) ((ZcA∘Z5∘Zde∘Z3) ?_);refine jz (id:=5) 4 rfl ((Zb∘ZeY∘ZeX∘Zab) ?_);refine Dd (K:=4) Z Z Z ?_
 repeat (first | refine wh ?_ | refine jq ?_)
 exact dh nq
def ov{R R2:Rd}{x:Int}(hfn:L.fn fr=some ())(he:R2.err=0){C:Nat->Prop}(hB:zs4 B w)(hr:(xx sb rb sv fr0 R).P B w C)(hC:ZCB C w B)(hf:∀ (u:World) (H:Heap) (C:Nat->Prop),zs4 H u->B.Le H->(xx sb rb sv R.at_ R).P H u C->(ZCB C u H)->RetX zs5 fr (fst++cap) u H C (xx sb rb sv R.at_ R2) (.int .u64 x)):
  RetX zs5 150 [kq sb,.func (.func fr) fst.toArray cap.toArray] w B C (xx sb rb sv R.at_ R2) (.int .u64 x):=by
 unfold RetX;refine xf 900 (xx sb rb sv fr0 R) Tryz.func150 Z Tryz.ntmps150 (np Z) hB hr hC ?_;rw[w9,xd,xd];refine ZdV (h:=?_);refine(ZK∘Zb5) ?_;refine qg (yk L 901 (GRd rb sv R) (.int .i64 R.at_) (r:=GRd rb sv R) Z Z Z Z Z (fun u H C2 hH _ hr2 hC2=>at_ret hH hr2 hC2)) (Zap (h:=?_));refine xo (yl L (q:=900) (cs':=[kq rb,.int .i64 R.at_]) Z Z Z Z Z) (Zg (h:=?_));refine wc 900 901 rfl Z (xi (GRd rb sv R)) ?_;refine Zz (h:=?_);refine qg (jh L 900 (xx sb rb sv R.at_ R2) (.int .u64 x) (r:=xx sb rb sv R.at_ R) Z Z Z hfn Z hf) (Zk (h:=?_));refine uj (r1:=(xc sb [kq rb,.int .i64 R.at_] Pj).res) (r2:=(GRd rb sv R2).res) 900 901 rfl (xi (GRd rb sv R2)) ?_;rw[xd];refine(Zr∘ZW) ?_;refine qg (yk L 901 (GRd rb sv R2) (.tuple #[.int .i64 R2.bad,.int .i64 R2.err]) (r:=GRd rb sv R2) Z Z Z Z Z (fun u H C2 hH _ hr2 hC2=>fault_ret hH hr2 hC2)) ((ZcA∘Z5∘Zb4∘ZL∘Zc) ?_);refine wc 900 901 rfl Z (xi (GRd rb sv R2)) ?_;exact ke L 900 (r:=xx sb rb sv R.at_ R2) (rs:=[.tmp 4]) Z (fun _ _ h=>h) nq Z Z (fun _=>rfl)
def Nl{R R2:Rd}{x:Int}(hfn:L.fn fr=some ())(he:R2.err≠0){C:Nat->Prop}(hB:zs4 B w)(hr:(xx sb rb sv fr0 R).P B w C)(hC:ZCB C w B)(hf:∀ (u:World) (H:Heap) (C:Nat->Prop),zs4 H u->B.Le H->(xx sb rb sv R.at_ R).P H u C->(ZCB C u H)->RetX zs5 fr (fst++cap) u H C (xx sb rb sv R.at_ R2) (.int .u64 x)):
  Pan zs5 150 [kq sb,.func (.func fr) fst.toArray cap.toArray] w B C (wrV R2.bad R2.err):=by
 refine f7 900 (xx sb rb sv fr0 R) Tryz.func150 Z Tryz.ntmps150 (np Z) hB hr hC ?_;rw[w9,xd,xd];refine ZdV (h:=?_);refine(ZK∘Zb5) ?_;refine qg (yk L 901 (GRd rb sv R) (.int .i64 R.at_) (r:=GRd rb sv R) Z Z Z Z Z (fun u H C2 hH _ hr2 hC2=>at_ret hH hr2 hC2)) (Zap (h:=?_));refine xo (yl L (q:=900) (cs':=[kq rb,.int .i64 R.at_]) Z Z Z Z Z) (Zg (h:=?_));refine wc 900 901 rfl Z (xi (GRd rb sv R)) ?_;refine Zz (h:=?_);refine qg (jh L 900 (xx sb rb sv R.at_ R2) (.int .u64 x) (r:=xx sb rb sv R.at_ R) Z Z Z hfn Z hf) (Zk (h:=?_));refine uj (r1:=(xc sb [kq rb,.int .i64 R.at_] Pj).res) (r2:=(GRd rb sv R2).res) 900 901 rfl (xi (GRd rb sv R2)) ?_;rw[xd];refine(Zr∘ZW) ?_;refine qg (yk L 901 (GRd rb sv R2) (.tuple #[.int .i64 R2.bad,.int .i64 R2.err]) (r:=GRd rb sv R2) Z Z Z Z Z (fun u H C2 hH _ hr2 hC2=>fault_ret hH hr2 hC2)) ((ZcA∘Z5∘Zde∘Z3) ?_);refine jz (id:=5) 4 rfl ((Zb∘ZeY∘ZeX∘Zab) ?_);refine Dd (K:=4) Z Z Z ?_
 repeat (first | refine wh ?_ | refine jq ?_)
 exact dh nq
def ku{R:Rd}(hB:zs4 B w)(hr:(xx sb rb sv fr0 R).P B w C)(hC:ZCB C w B):kz zs5 149 [kq sb,.bool true,.int .i64 e] w B C (xx sb rb sv fr0 R):=by
 unfold kz;refine xf 900 (xx sb rb sv fr0 R) Tryz.func149 Z Tryz.ntmps149 (np Z) hB hr hC ((ZQ∘Za∘Zm∘Zac) ?_);exact xw L 900 (r:=xx sb rb sv fr0 R) Z (fun _ _ h=>h) nq Z Z
def f9{R:Rd}(hB:zs4 B w)(hr:(xx sb rb sv fr0 R).P B w C)(hC:ZCB C w B):Pan zs5 149 [kq sb,.bool false,.int .i64 e] w B C (wrV fr0 e):=by
 refine f7 900 (xx sb rb sv fr0 R) Tryz.func149 Z Tryz.ntmps149 (np Z) hB hr hC ?_;rw[w9,xd,xd];refine ZdV (h:=?_);refine(ZQ∘Za∘Zm∘Z3) ?_;refine jz (id:=1) 7 rfl ((Za∘ZW∘Za∘ZeY∘ZeX∘Zab) ?_);refine Dd (K:=7) Z Z Z ?_
 repeat (first | refine wh ?_ | refine jq ?_)
 exact dh nq
def Ko{b2 b3:Nat}{R:Rd}{bs:List Nat}(hb:∀ b∈bs,b<=255)(hl:bs.length<=1099511627776)(hat:R.at_<=bs.length)(hlim:lim<=1099511627776)(hB:zs4 B w)(hs:BsV bs fu sv B)(h2:B b2=some (.cells #[kq sb] 239))(h3:B b3=some (.cells #[.int .i64 lim] 3))(hr:(xx sb rb sv fr0 R).P B w C)(hC:ZCB C w B):
  RetX zs5 204 [kq b2,kq b3] w B C (xx sb rb sv fr0 (wl bs lim R).2) (.int .i64 (wl bs lim R).1):=by
 unfold RetX;refine xf 900 (xx sb rb sv fr0 R) Tryz.func204 Z Tryz.ntmps204 (np Z) hB hr hC ?_;rw[w9,xd,xd];refine ZdV (h:=?_);refine(ZQ∘Zd) ?_;refine qn (id:=1) [(200006,[900]),(8,[901])] ko J (z8 (zo L (qt Z h2) Z Z Z Z) Z ((Zca∘Zd7) ?_));refine z8 (zo L (qt Z h3) Z Z Z Z) Z (kf (yk L 901 (GRd rb sv (wl bs lim R).2) (.int .i64 (wl bs lim R).1) (r:=GRd rb sv R) Z Z Z Z Z (fun u H C2 hH hle hr2 hC2=>len_ret hlim hb hl hat hH (hs.le hle) hr2 hC2)) Z Z (ZaS (h:=?_)));refine wc 900 901 rfl Z (xi (GRd rb sv (wl bs lim R).2)) ?_;exact ke L 900 (r:=xx sb rb sv fr0 (wl bs lim R).2) (rs:=[.tmp 2]) Z (fun _ _ h=>h) nq Z Z (fun _=>rfl)
def size_ret{R:Rd}{bs:List Nat}(hb:∀ b∈bs,b<=255)(hl:bs.length<=1099511627776)(hat:R.at_<=bs.length)(hlim:lim<=1099511627776)(he:(wl bs lim R).2.err=0)(hB:zs4 B w)(hs:BsV bs fu sv B)(hr:(xx sb rb sv fr0 R).P B w C)(hC:ZCB C w B):
  RetX zs5 148 [kq sb,.int .i64 lim] w B C (xx sb rb sv R.at_ (wl bs lim R).2) (.int .i64 (wl bs lim R).1):=by
 unfold RetX;refine xf 900 (xx sb rb sv fr0 R) Tryz.func148 Z Tryz.ntmps148 (np Z) hB hr hC ((Zbw∘Zeq∘Zd) ?_);refine jd 2 902 rfl fun b2=>?_;refine jd 3 903 rfl fun b3=>?_;refine wk 902 rfl fun H1 hs1 _ h2=>?_;refine wk 903 rfl fun H2 hs2 _ h3=>?_;have h2:=hs2.le _ _ h2;have hs12:=hs1.trans hs2;have hs':=hs.le hs12.le;have hcl:∀ (u:World) (H:Heap) (C:Nat->Prop),H2.Le H->zs4 H u->(xx sb rb sv R.at_ R).P H u C->(ZCB C u H)->RetX zs5 204 ([]++[kq b2,kq b3]) u H C (xx sb rb sv R.at_ (wl bs lim R).2) (.int .i64 (wl bs lim R).1):=fun u H C3 hle hH hr3 hC3=>Ko hb hl hat hlim hH (hs'.le hle) (hle _ _ h2) (hle _ _ h3) hr3 hC3;refine Zan (h:=?_);refine z7 (zo L (qt Z h2) Z Z Z Z) Z (Za7 (h:=?_));refine qg (yk L 900 (xx sb rb sv R.at_ (wl bs lim R).2) (.int .i64 (wl bs lim R).1) (r:=xx sb rb sv fr0 R) Z Z Z Z Z (fun u H C2 hH hle hr2 hC2=>Nm (fst:=[]) (cap:=[kq b2,kq b3]) Z he hH hr2 hC2 (fun u3 H3 C3 hH3 hle3 hr3 hC3=>hcl u3 H3 C3 (hle.trans hle3) hH3 hr3 hC3))) (Zc (h:=?_));exact ke L 900 (r:=xx sb rb sv R.at_ (wl bs lim R).2) (rs:=[.tmp 4]) Z (fun _ _ h=>h) hs12 Z Z (fun _=>rfl)
def F7{R:Rd}{bs:List Nat}(hb:∀ b∈bs,b<=255)(hl:bs.length<=1099511627776)(hat:R.at_<=bs.length)(hlim:lim<=1099511627776)(he:(wl bs lim R).2.err≠0)(hB:zs4 B w)(hs:BsV bs fu sv B)(hr:(xx sb rb sv fr0 R).P B w C)(hC:ZCB C w B):
  Pan zs5 148 [kq sb,.int .i64 lim] w B C (wrV (wl bs lim R).2.bad (wl bs lim R).2.err):=by
 refine f7 900 (xx sb rb sv fr0 R) Tryz.func148 Z Tryz.ntmps148 (np Z) hB hr hC ((Zbw∘Zeq∘Zd) ?_);refine jd 2 902 rfl fun b2=>?_;refine jd 3 903 rfl fun b3=>?_;refine wk 902 rfl fun H1 hs1 _ h2=>?_;refine wk 903 rfl fun H2 hs2 _ h3=>?_;have h2:=hs2.le _ _ h2;have hs12:=hs1.trans hs2;have hs':=hs.le hs12.le;have hcl:∀ (u:World) (H:Heap) (C:Nat->Prop),H2.Le H->zs4 H u->(xx sb rb sv R.at_ R).P H u C->(ZCB C u H)->RetX zs5 204 ([]++[kq b2,kq b3]) u H C (xx sb rb sv R.at_ (wl bs lim R).2) (.int .i64 (wl bs lim R).1):=fun u H C3 hle hH hr3 hC3=>Ko hb hl hat hlim hH (hs'.le hle) (hle _ _ h2) (hle _ _ h3) hr3 hC3;refine jz (id:=1) 2 rfl (z7 (zo L (qt Z h2) Z Z Z Z) Z ((Za7∘Zab) ?_));refine jw (r:=(xx sb rb sv fr0 R).res) (K:=2) L 900 rfl Z Z Z Z (fun u H C2 hH hle hr2 hC2=>Nn (fst:=[]) (cap:=[kq b2,kq b3]) Z he hH hr2 hC2 (fun u3 H3 C3 hH3 hle3 hr3 hC3=>hcl u3 H3 C3 (hle.trans hle3) hH3 hr3 hC3)) (fun _ _ _ _ h=>h) ?_
 repeat (first | refine wh ?_ | refine jq ?_)
 exact dh hs12
def R8{R:Rd}(hl:bs.length<=1099511627776)(hat:R.at_<=bs.length)(he:(Hb bs R).2=0)(hB:zs4 B w)(hs:BsV bs fu sv B)(hr:(xx sb rb sv fr0 R).P B w C)(hC:ZCB C w B):
  kz zs5 154 [kq sb] w B C (xx sb rb sv fr0 R):=by
 unfold kz;refine xf 900 (xx sb rb sv fr0 R) Tryz.func154 Z Tryz.ntmps154 (np Z) hB hr hC ?_;rw[w9,xd,xd];refine ZdV (h:=?_);refine(ZQ∘Za∘ZW) ?_;refine qg (yk L 901 (GRd rb sv R) (.tuple #[.int .i64 (Hb bs R).1,.int .i64 (Hb bs R).2]) (r:=GRd rb sv R) Z Z Z Z Z (fun u H C2 hH hle hr2 hC2=>Ym hl hat hH (hs.le hle) hr2 hC2)) ((ZA∘Zs∘ZbA∘Zbf∘Zac) ?_);refine o9 900 901 rfl Z (xi (GRd rb sv R)) ?_;exact xw L 900 (r:=xx sb rb sv fr0 R) Z (fun _ _ h=>h) nq Z Z
def R9{R:Rd}(hl:bs.length<=1099511627776)(hat:R.at_<=bs.length)(he:(Hb bs R).2≠0)(hB:zs4 B w)(hs:BsV bs fu sv B)(hr:(xx sb rb sv fr0 R).P B w C)(hC:ZCB C w B):
  Pan zs5 154 [kq sb] w B C (wrV (Hb bs R).1 (Hb bs R).2):=by
 refine f7 900 (xx sb rb sv fr0 R) Tryz.func154 Z Tryz.ntmps154 (np Z) hB hr hC ?_;rw[w9,xd,xd];refine ZdV (h:=?_);refine(ZQ∘Za∘ZW) ?_;refine qg (yk L 901 (GRd rb sv R) (.tuple #[.int .i64 (Hb bs R).1,.int .i64 (Hb bs R).2]) (r:=GRd rb sv R) Z Z Z Z Z (fun u H C2 hH hle hr2 hC2=>Ym hl hat hH (hs.le hle) hr2 hC2)) ((ZA∘Zs∘ZbA∘Zde∘Z3) ?_);refine jz (id:=2) 4 rfl ((Zb∘ZeY∘ZeX∘Zab) ?_);refine Dd (K:=4) Z Z Z ?_
 repeat (first | refine wh ?_ | refine jq ?_)
 exact dh nq
end Go.V.L11
end
namespace Go.V
section rec
variable {F:Fence} {nn:Nat}  {zs3:Exit->Act->List Frame->World->Prop} {a:Act} {cs:List Frame} 
def Fs{id d:Nat}{o:Oper}{l:List Oper}{cs':List Frame}(hro:F.round=none)(hd:o.dst=some d)(hop:o.op=.call { callee:=.builtin .recover,args:=#[],argTypes:=#[] })(hgd:o.guard=none)(hrec:(recoverD cs=some (v,cs'))\/(recoverD cs=none/\v=.nilIface/\cs'=cs))
  (h:wpOpsIn F nn P (o::l).toArray (fun e a' w'=>zs3 e a' cs' w') (List.range' 1 l.length) (a.put (some d) v) w):(Code.region id (o::l).toArray false).wpSIn F nn P zs3 a cs w:=fun b k hb hr hF hroom=>by
 have hlen:cs'.length=cs.length:=by
  rcases hrec with h | ⟨_,_,rfl⟩
  ·exact recoverD_length h
  ·rfl
 obtain⟨e,a',w',hq,harr⟩:=wp_opsIn _ _ _ h b k cs' (hr.trans hro.symm) hF (hlen ▸ hroom);have hsz:List.range (o::l).toArray.size=0::List.range' 1 l.length:=by rw[zrn];simp [zro]
 have ho:(o::l).toArray[0]?=some o:=by simp
 have hw:Region.wanted o (yielded (o::l).toArray a.tmps)=true:=by unfold Region.wanted;rw[hgd]
 have hg:=stepGR_op (P:=P) (b:=b) (k:=k) (cs:=cs) (w:=w) (rest:=List.range' 1 l.length) ho hw;rw[hr,Oper.semAt_none] at hg;have hrun:(execOp a.eval o).run P w=.ok .recover w:=by unfold execOp;rw[hop];rfl
 have hfin:∀ v,(b.atR a (.inRegion (o::l).toArray (0::List.range' 1 l.length)::k)).finish v=b.atR (a.put o.dst v) (.inRegion (o::l).toArray (List.range' 1 l.length)::k):=by
  intro v;rw[Frame.finish_atR,ho];rfl
 have hk:(b.atR a (.inRegion (o::l).toArray (0::List.range' 1 l.length)::k)).kind=.deferred:=hb;have htr:=tryRecover_deferred hk cs
 have habout:∀ f,o.about P w a.eval=some f->F.fn f:=fun f hf=>by
  unfold Oper.about at hf;rw[hop] at hf;cases hf
 have hst:step P (lone (b.atR a (.inRegion (o::l).toArray (0::List.range' 1 l.length)::k)) cs w)=.next (lone (b.atR (a.put (some d) v) (.inRegion (o::l).toArray (List.range' 1 l.length)::k)) cs' w):=by
  refine step_lone_go ?_;rw[hg,<-hd,<-hfin];simp only[Frame.atR,hr] at htr |-;rcases hrec with h1 | ⟨h1,rfl,rfl⟩
  ·simp [stepG.apply,hrun,htr,h1]
  ·simp [stepG.apply,hrun,htr,h1]
 have hreg:step P (lone (b.atR a (.code (.region id (o::l).toArray false)::k)) cs w)=_:=stepR_region;rw[hsz] at hreg;exact⟨e,a',cs',w',hlen,hq,.of_steps (.one (fenced_calm hF hroom Z) hreg) (.of_steps (.one (fenced_oper hF hroom ho habout) hst) harr)⟩
end rec
section code
def QR(P:Program)(F:Fr)(ops:Array Oper)(K:Nat)(zs3:Exit->Act->World->Prop):Exit->Act->World->Prop:=fun _ a u=>wpOpsIn (FW F.r) 0 P ops zs3 (List.range' K (ops.size-K)) a u
def zao{id:Nat}{l:List Oper}(K:Nat)(hK:Nat.ble K l.length=true)(h:VO P F B n O l.toArray κ (l.take K) (QR P F l.toArray K zs3)):V P F B n O κ (.region id l.toArray false) zs3:=fun a u hh=>by
 refine wpIn_region ?_;have hK:=np hK
 have hsplit:List.range l.toArray.size=List.range' 0 K++List.range' K (l.toArray.size-K):=by
  rw[zrn];have:=List.range'_append_1 (s:=0) (m:=K) (n:=l.toArray.size-K);rw[zo2] at this;rw[this,Nat.add_sub_cancel' (by simpa using hK)]
 rw[hsplit]
 have key:∀ (m i:Nat) {a:Act} {u:World},i+m=K->Ops P l.toArray (fun a u=>QR P F l.toArray K zs3 .normal a u) ((l.drop i).take m) a u->
   wpOpsIn (FW F.r) 0 P l.toArray zs3 (List.range' i m++List.range' K (l.toArray.size-K)) a u:=by
  intro m
  induction m with
  | zero=>
   intro i a u hi ho;rw[zpt] at ho;exact ho
  | succ m ih=>
   intro i a u hi ho;have hil:i<l.length:=T;rw[zpu hil,zqr] at ho;have hg:l.toArray[i]?=some l[i]:=by rw[zrb,zpe hil]
   rw[zro,zpd,wpOpsIn_cons];exact After.wpOpIn hg (After.mono (fun a' u' hh'=>ih (i+1) T hh') ho)
 exact key K 0 T (by rw[zpy];exact h a u hh)
abbrev dfd(f:Nat)(cap:List Value):Deferred:={ target:=.fn (.func f) cap.toArray,args:=#[] }
def zhe{K:Nat}{f:Nat}{fo:Operand}(hds:F.ds=[])(hr:F.r=none)
  (ho:ops[K]?=some ⟨none,.defer { callee:=.value fo,args:=#[],argTypes:=#[] },ty,pos,aft,none⟩) (hf:evK κ fo=some (.func (.func f) #[] cap.toArray))
  (h:VO P ⟨F.w0,F.r,[.u (dfd f cap)],F.L⟩ B n O ops κ (ops.toList.drop (K+1)) zs3):N F B n O κ (QR P F ops K zs3):=by
 rintro a u ⟨H,fp,hh⟩
 have hKs:K<ops.size:=by
  rcases m5 K ops.size with h | h
  ·exact h
  ·rw[zqv h] at ho;cases ho
 unfold QR;rw[show ops.size-K=(ops.size-(K+1))+1 by omega,zro,wpOpsIn_cons];unfold wpOpIn;rw[ho];dsimp only;rw[if_pos (by unfold Region.wanted;rfl)];have e2:=hh.env (ops:=ops) (o:=⟨none,.defer { callee:=.value fo,args:=#[],argTypes:=#[] },ty,pos,aft,none⟩) (κ:=κ) (fun _ _=>rfl);have hfe:a.eval fo=.func (.func f) #[] cap.toArray:=e2.is_ fo _ (by simp [Op.operands,Call.operands]) hf;refine⟨fun _ _=>trivial,?_⟩;have hround:(FW F.r).round=none:=by rw[hr];rfl
 rw[hround,Oper.semAt_none]
 have hrun:(execOp a.eval ⟨none,.defer { callee:=.value fo,args:=#[],argTypes:=#[] },ty,pos,aft,none⟩).run P u=.ok (.defer (dfd f cap)) u:=by
  unfold execOp;dsimp only;simp only[resolve,hfe,Deferred.ofValue,nw,me,ny];simp [dfd]
 rw[hrun,Oper.uponIn_defer];have had:a.defers=[]:=by have:=hh.defers;rw[hds] at this;exact this
 refine cd (fun _ _ h=>h) (ops.size-(K+1)) (K+1) T (h _ u ⟨H,fp,?_⟩);exact⟨hh.size,by show dfd f cap::a.defers=_;rw[had];rfl,by simp,fun D hD=>by simp at hD,hh.lent,hh.keep,hh.sub,hh.base,hh.fresh,hh.boxes,hh.apart,hh.slot,hh.owns,hh.mono⟩
def ik(P:Program)(f:Nat)(args:List Value)(w:World)(B:Heap)(C:Nat->Prop)(m m':FrameMode)(r:GR):Prop:=
 CallsDIn Fence.wide 0 P f args.toArray m w fun e u' w'=>e=.returned (.tuple #[])/\u'=m'/\∃ H,Grow C w B w' H/\∃ C',r.P H w' C'/\∀ k,C' k->(C k\/w.heap.size<=k)/\k<w'.heap.size/\H k=none
def zij(P:Program)(fn:Func)(R:World->Prop):Exit->Act->World->Prop
 | .normal,a,w | .ret,a,w=>a.defers=[]/\(results fn a.tmps).run P w=.ok (.tuple #[]) w/\R w
 | _,_,_=>False
inductive RecM:FrameMode->FrameMode->Value->Prop where
 | idle:RecM .returning .returning .nilIface
 | caught (v:Value):RecM (.panicking [{ v:=v,recovered:=false }]) (.panicking [{ v:=v,recovered:=true }]) v
def zed{f:Nat}{fn:Func}{id d:Nat}{o:Oper}{l:List Oper}{y:Code}{m m':FrameMode}(gs:Nat)(r0 r:GR)(hm:RecM m m' v)(hf:P.funcs[f]?=some fn)
  (hb:fn.body=some (.seq (.region id (o::l).toArray false) y)) (hn:fn.ntmps=n) (hs:args.length<=n) (hd:o.dst=some d) (hdn:Nat.blt d n=true) (hop:o.op=.call { callee:=.builtin .recover,args:=#[],argTypes:=#[] }) (hgd:o.guard=none) (hB:zs4 B w) (hr:r0.P B w C) (hC:ZCB C w B)
  (h:VO P ⟨w,none,[],C⟩ B n [] (o::l).toArray (upd (upd (Ag 0 args) gs (.own r0.res)) d (.is v)) l (Exit.then (fun a u=>y.wpIn (FW none) 0 P (zij P fn fun u=>∃ H,Grow C w B u H/\∃ C',r.P H u C'/\∀ k,C' k->(C k\/w.heap.size<=k)/\k<u.heap.size/\H k=none) a u) (zij P fn fun u=>∃ H,Grow C w B u H/\∃ C',r.P H u C'/\∀ k,C' k->(C k\/w.heap.size<=k)/\k<u.heap.size/\H k=none))):
  ik P f args w B C m m' r:=by
 refine callsDIn_of_wpSIn hf hb trivial fun c0 cs hu=>?_
 have hrec:∃ cs',((recoverD (c0::cs)=some (v,cs'))\/(recoverD (c0::cs)=none/\v=.nilIface/\cs'=c0::cs))/\cs'={ c0 with mode:=m' }::cs:=by
  cases hm with
  | idle=>exact⟨_,.inr ⟨by simp [recoverD,hu],rfl,rfl⟩,by rw[<-hu]⟩
  | caught v=>exact⟨_,.inl (by simp [recoverD,hu]),rfl⟩
 obtain⟨cs',hrec,rfl⟩:=hrec
 have hend:∀ e a u,zij P fn (fun u=>∃ H,Grow C w B u H/\∃ C',r.P H u C'/\∀ k,C' k->(C k\/w.heap.size<=k)/\k<u.heap.size/\H k=none) e a u->
   bodyPostS P fn c0 cs (fun e u' w'=>e=.returned (.tuple #[])/\u'=m'/\∃ H,Grow C w B w' H/\∃ C',r.P H w' C'/\∀ k,C' k->(C k\/w.heap.size<=k)/\k<w'.heap.size/\H k=none) e a ({ c0 with mode:=m' }::cs) u:=fun e a u he=>by
  cases e with
  | normal=>exact⟨he.1,m',rfl,_,he.2.1,rfl,rfl,he.2.2⟩
  | ret=>exact⟨he.1,m',rfl,_,he.2.1,rfl,rfl,he.2.2⟩
  | exit id=>exact he.elim
  | goto l=>exact he.elim
  | panic c=>exact he.elim
  | outgrown=>exact he.elim
 refine wpSIn_seq (Fs (cs':={ c0 with mode:=m' }::cs) Z hd hop hgd hrec ?_);subst hn;have h0:=bm (B:=B) C (fun k hk=>(hC k hk).1) hs hB (fun _=>noL)
 have h1:HasH ⟨w,none,[],C⟩ B [] fn.ntmps (upd (Ag 0 args) gs (.own r0.res)) { tmps:=args.toArray++Array.replicate (fn.ntmps-args.toArray.size) undef,defers:=[] } w B _:=h0.putR (d:=gs) (r:=r0.res) rfl rfl (fun _ _=>rfl) hr (fun k hk=>⟨(hC k hk).1,(hC k hk).2,.inr hk,fun y hy=>by cases hy⟩) fun t r' _ ht=>by
  obtain⟨v,hv,_⟩:=gn _ _ _ _ ht;cases hv
 have h2:=h1.put (d:=d) (k:=.is v) (v:=v) (zm hdn) trivial rfl;have h3:=h _ w ⟨B,_,h2⟩;refine cd (zs3:=fun a u=>Exit.then (fun a u=>y.wpIn (FW none) 0 P (zij P fn fun u=>∃ H,Grow C w B u H/\∃ C',r.P H u C'/\∀ k,C' k->(C k\/w.heap.size<=k)/\k<u.heap.size/\H k=none) a u) (zij P fn fun u=>∃ H,Grow C w B u H/\∃ C',r.P H u C'/\∀ k,C' k->(C k\/w.heap.size<=k)/\k<u.heap.size/\H k=none) .normal a u) (r:=none) (fun a u hy=>?_) l.length 1 (by simp;omega) (by simpa using h3);exact wpSIn_of_wpIn Z (Go.wpIn_mono hy fun e a u he=>hend e a u he)
def zb5(L:Tabs P){fn:Func}(gs:Nat){r:GR}(hrs:fn.results=#[])(hd:F.ds=[])(hk:κ gs=some (.own r.res))(hs:Since F B0 B):∀ a u,Has F B O n κ a u->
  zij P fn (fun u=>∃ H,Grow F.L F.w0 B0 u H/\∃ C',r.P H u C'/\∀ k,C' k->(F.L k\/F.w0.heap.size<=k)/\k<u.heap.size/\H k=none) .normal a u:=fun a u hh=>by
 obtain⟨H,fp,hH⟩:=hh;have h0:=hH.defers;rw[hd] at h0;refine⟨h0,?_,H,⟨hH.keep,hH.sub,hs.le.trans hH.base,fun k hk hl=>(hH.fresh k hk hl).trans (hs.fresh k hk hl)⟩,HasH.ghost hk hH⟩;obtain⟨vs,h1,h2⟩:=we L hH (rs:=[]) hrs (K:=fun vs=>vs=[]) rfl;subst h2;exact h1
def zas(L:Tabs P){fn:Func}(gs:Nat){r:GR}(hrs:fn.results=#[])(hk:κ gs=some (.own r.res))(e:r=r')(hs:Since F B0 B)(hd:F.ds=[]:=by rfl):
  N F B n O κ (zij P fn fun u=>∃ H,Grow F.L F.w0 B0 u H/\∃ C',r'.P H u C'/\∀ k,C' k->(F.L k\/F.w0.heap.size<=k)/\k<u.heap.size/\H k=none):=by
 subst e;exact zb5 L gs hrs hd hk hs
def LV(P:Program)(F:Fr)(B:Heap)(n:Nat)(O:Boxes)(κ:Kap)(fn:Func)(R:Ending->World->Prop):Prop:=∀ a u,Has F B O n κ a u->∃ v,(results fn a.tmps).run P u=.ok v u/\R (.returned v) u
def Lv(L:Tabs P){fn:Func}{R:Ending->World->Prop}{f:Nat}{m m':FrameMode}(q:Nat){r r':GR}(hds:F.ds=[.u (dfd f cap)])(hfn:L.fn f=some ())(hq:κ q=some (.own r.res))(hm:m≠.run)(hm':settle m'=.returning)
  (hc:∀ u H C,zs4 H u->B.Le H->r.P H u C->(ZCB C u H)->ik P f cap u H C m m' r') (h:LV P ⟨F.w0,F.r,[],F.L⟩ B n O (upd κ q (.own r'.res)) fn R):
  ∀ a u,Has F B O n κ a u->LeavesInM Fence.wide 0 P fn a.tmps R a.defers m u:=fun a u hh=>by
 obtain⟨H,fp,hH⟩:=hh;have h0:=hH.defers;rw[hds] at h0;rw[h0];obtain⟨hown,hM⟩:=hH.slot q _ hq;have hc:=hc u H (fp q) hH.sub hH.base hown fun k hk=>⟨(hM k hk).1,(hM k hk).2.1⟩
 refine⟨hm,.inr ⟨fun h=>(by cases h),.func f,cap.toArray,f,cap.toArray,Z,?_,fun _ _=>trivial,?_⟩⟩
 ·show(callFunc f (#[]++cap.toArray)).run P u=_;rw[gh L hfn];simp
 ·refine CallsDIn.mono hc fun e u' w' hp=>?_;obtain⟨rfl,rfl,H',g',C',hr',hC'⟩:=hp;show LeavesInM Fence.wide 0 P fn a.tmps R [] (settle u') w';rw[hm'];have h2:=hH.usePut (d:=q) (a':=a) (r':=r'.res) hq g' rfl rfl (fun _ _=>rfl) hr' hC';rw[wg] at h2;exact h { a with defers:=[] } w' ⟨H',_,h2.size,rfl,zqg,fun D hD=>(by cases hD),h2.lent,h2.keep,h2.sub,h2.base,h2.fresh,h2.boxes,h2.apart,h2.slot,h2.owns,h2.mono⟩
def zlh(L:Tabs P){fn:Func}{R:Ending->World->Prop}{f:Nat}(q:Nat){r:GR}(hds:F.ds=[.u (dfd f cap)])(hfn:L.fn f=some ())(hq:κ q=some (.own r.res))
  (hc:∀ u H C,zs4 H u->B.Le H->r.P H u C->(ZCB C u H)->ik P f cap u H C .returning .returning r') (h:LV P ⟨F.w0,F.r,[],F.L⟩ B n O (upd κ q (.own r'.res)) fn R) (hQ:∀ a u,bodyPostM Fence.wide 0 P fn R .ret a u->zs3 .ret a u):
  V P F B n O κ .ret zs3:=fun a u hh=>wpIn_ret (hQ a u (Lv L q hds hfn hq (by simp) rfl hc h a u hh))
def zfl(L:Tabs P){fn:Func}{R:Ending->World->Prop}{f:Nat}(q:Nat){r:GR}(hds:F.ds=[.u (dfd f cap)])(hfn:L.fn f=some ())(hq:κ q=some (.own r.res))
  (hc:∀ u H C,zs4 H u->B.Le H->r.P H u C->(ZCB C u H)->ik P f cap u H C (.panicking [{ v:=pv,recovered:=false }]) (.panicking [{ v:=pv,recovered:=true }]) r') (h:LV P ⟨F.w0,F.r,[],F.L⟩ B n O (upd κ q (.own r'.res)) fn R)
  (hQ:∀ a u,bodyPostM Fence.wide 0 P fn R (.panic [{ v:=pv,recovered:=false }]) a u->zs3 (.panic [{ v:=pv,recovered:=false }]) a u):XP F B n O κ pv zs3:=fun a u hh=>hQ a u (Lv L q hds hfn hq (by simp) rfl hc h a u hh)
def zki(L:Tabs P){fn:Func}{rs:List ResultVar}(hrs:fn.results=rs.toArray)(hs:Since F B0 B)(h:∀ u H,zs4 H u->B.Le H->Dy L F B O κ H rs [] (fun vs=>φ (tup vs) H)):LV P F B n O κ fn (li F.w0 B0 F.L fun v H _=>φ v H):=fun a u hh=>by
 obtain⟨H,fp,hH⟩:=hh;obtain⟨vs,h1,h2⟩:=we L hH hrs (h u H hH.sub hH.base);exact⟨_,h1,_,rfl,H,⟨hH.keep,hH.sub,hs.le.trans hH.base,fun k hk hl=>(hH.fresh k hk hl).trans (hs.fresh k hk hl)⟩,h2⟩
def zcp(L:Tabs P){fn:Func}(gs:Nat){r0:GR}{r:Res}{rs:List ResultVar}(hrs:fn.results=rs.toArray)(hs:Since F B0 B)(hk:κ gs=some (.own r0.res))
  (h:∀ H,Dy L F B O κ H rs [] (fun vs=>tup vs=v)) (hr:∀ H u C,B.Le H->zs4 H u->r0.P H u C->r.P v H u C) (hL:F.L=noL:=by rfl):LV P F B n O κ fn (li F.w0 B0 F.L (zik F.w0 r)):=fun a u hh=>by
 obtain⟨H,fp,hH⟩:=hh;obtain⟨vs,h1,h2⟩:=we L hH hrs (h H);obtain⟨hown,hM⟩:=hH.slot gs _ hk;refine⟨_,h1,_,rfl,H,⟨hH.keep,hH.sub,hs.le.trans hH.base,fun k hk hl=>(hH.fresh k hk hl).trans (hs.fresh k hk hl)⟩,fp gs,?_,fun k hk=>?_⟩
 ·rw[h2];exact hr H u (fp gs) hH.base hH.sub hown
 ·obtain⟨g1,g2,g3,_⟩:=hM k hk;refine⟨?_,g1,g2⟩;rcases g3 with g3 | g3
  ·exact g3
  ·have g3':F.L k:=g3;rw[hL] at g3';exact g3'.elim
def Gr(q g1:Nat){fn:Func}{R:Ending->World->Prop}{r1 r2:Res}(hk:κ q=some (.own (im r1 r2)))(hg1:∀ v v' H u C,r2.P v H u C->r2.P v' H u C)(h:LV P F B n O (upd (upd κ q (.own r1)) g1 (.own r2)) fn R)(hne:q≠g1:=by decide):LV P F B n O κ fn R:=fun a u hh=>h a u (hh.part hne hg1 hk)
def db(t q:Nat){fn:Func}{R:Ending->World->Prop}{cs:List Value}(hk:κ q=some (.own (xu b cs ty)))(ht:κ t=some (.is (.pointer (some ⟨b,0,none⟩))))(h:LV P F B n O (upd (upd κ q po) t (.own (Cell cs ty))) fn R):LV P F B n O κ fn R:=fun a u hh=>h a u (hh.release hk ht)
def O8(q g1:Nat){r1 r2:Res}(hk:κ q=some (.own r1))(hk1:κ g1=some (.own r2))(hg1:∀ v v' H u C,r2.P v H u C->r2.P v' H u C)(h:XP F B n O (upd (upd κ g1 po) q (.own (im r1 r2))) pv zs3)(hne:q≠g1:=by decide):XP F B n O κ pv zs3:=fun a u hh=>h a u (hh.join2 hne hg1 hk hk1)
end code
end Go.V
namespace Go.V.L10
open Go.V Go.V.L2 Go.V.L8
def kpt(R:List (Option (List U)))(r:Int):Option (List U):=if 0<r then (R[(r-1).toNat]?).join else none
def jb(R:List (Option (List U))):List Int:=((List.range R.length).filter fun i=>((R[i]?).join).isSome).map fun i=>((i+1:Nat):Int)
def o3(R:List (Option (List U)))(i:Nat):kpt R ((i+1:Nat):Int)=(R[i]?).join:=by
 unfold kpt;rw[na T,show(((i+1:Nat):Int)-1).toNat=i by omega]
def bl{r:Int}(h:(kpt R r).isSome=true):0<r/\r<=R.length:=by
 unfold kpt at h;split at h
 ·rename_i h0;refine⟨h0,?_⟩
  cases hr:R[(r-1).toNat]? with
  | none=>rw[hr] at h;cases h
  | some x=>have:=get_lt hr;omega
 ·cases h
def vl{r:Int}:r∈jb R↔(kpt R r).isSome=true:=by
 unfold jb;rw[zoz];constructor
 ·rintro⟨i,hi,rfl⟩;rw[zo3] at hi;rw[o3];exact hi.2
 ·intro h;have hb:=bl h;obtain⟨i,rfl⟩:∃ i:Nat,r=((i+1:Nat):Int):=⟨(r-1).toNat,by omega⟩
  rw[o3] at h;exact⟨i,zo3.2 ⟨List.mem_range.2 T,h⟩,rfl⟩
def ek(R:List (Option (List U))):Sst cP (jb R):=by
 unfold jb Sst;rw[List.pairwise_map];refine(List.Pairwise.filter _ List.pairwise_lt_range).imp ?_;intro a b h;exact zab.2 T
def Av(R:List (Option (List U))):(jb R).length<=R.length:=by
 unfold jb;rw[m4];exact mp (zpp ..) (by simp)
section
variable {Y:Type}
def Qg(k:Int):ut k ([]:List (Int×Y))=none:=rfl
def pq{k:Int}:∀ {l:List (Int×Y)},(ut k l).isSome=true↔k∈l.map Prod.fst
 | []=>by simp [Qg]
 | p::l=>by
  rw[vk,mz,ma];by_cases h:k=p.1
  ·rw[na h];simp [h]
  ·rw[nc h,pq];simp [h]
def ai{k:Int}{y:Y}:∀ {l:List (Int×Y)},ut k l=some y->(k,y)∈l
 | [],h=>by cases h
 | p::l,h=>by
  rw[vk] at h;by_cases e:k=p.1
  ·rw[na e] at h;cases h;rw[e];exact mc ..
  ·rw[nc e] at h;exact mh _ (ai h)
def S3(k:Int)(p:Int×Y)(l:List (Int×Y)):pt k (p::l) 0=if k=p.1 then some (0,p.2) else (pt k l 0).map fun q=>(q.1+1,q.2):=by
 rw[<-oy];rfl
def Ls(k:Int)(p:Int×Y)(l:List (Int×Y)):S4 k (p::l)=if k=p.1 then l else p::S4 k l:=by
 unfold S4;rw[S3];by_cases h:k=p.1
 ·rw[na h,na h];rfl
 ·rw[nc h,nc h]
  cases pt k l 0 with
  | none=>rfl
  | some q=>rfl
def Gq(k:Int):∀ l:List (Int×Y),(S4 k l).Sublist l
 | []=>List.Sublist.refl _
 | p::l=>by
  rw[Ls];by_cases h:k=p.1
  ·rw[na h];exact zr3 ..
  ·rw[nc h];exact(Gq k l).cons_cons _
def Qh{k r:Int}:∀ {l:List (Int×Y)},(l.map Prod.fst).Nodup->ut r (S4 k l)=if r=k then none else ut r l
 | [],_=>by rw[show S4 k ([]:List (Int×Y))=[] from rfl,Qg];split<;>rfl
 | p::l,hn=>by
  rw[mz,zra] at hn;rw[Ls];by_cases h:k=p.1
  ·rw[na h];by_cases hr:r=k
   ·rw[na hr];have:¬ (ut r l).isSome=true:=fun hs=>hn.1 (h ▸ hr ▸ pq.1 hs)
    cases hg:ut r l with
    | none=>rfl
    | some y=>rw[hg] at this;exact ni rfl this
   ·rw[nc hr,vk,nc (fun e=>hr (e.trans h.symm))]
  ·rw[nc h,vk,Qh hn.2,vk];by_cases hr:r=k
   ·subst hr;rw[nc h,na rfl,na rfl]
   ·rw[nc hr,nc hr]
end
structure MapOK{Y:Type}(es:List (Int×(List U×Y)))(R:List (Option (List U))):Prop where
 nd:(es.map Prod.fst).Nodup
 get:∀ r,(ut r es).map Prod.fst=kpt R r
def MapOK.mem{Y:Type}{es:List (Int×(List U×Y))}(h:MapOK es R){r:Int}:r∈es.map Prod.fst↔r∈jb R:=by
 rw[<-pq,vl,<-h.get r,zrz]
def zb6{a b:List Int}(ha:a.Nodup)(hb:b.Nodup)(h:∀ x,x∈a↔x∈b):a.length=b.length:=((List.perm_ext_iff_of_nodup ha hb).2 h).length_eq
def MapOK.len{Y:Type}{es:List (Int×(List U×Y))}(h:MapOK es R):es.length=(jb R).length:=by
 rw[<-m4 (f:=Prod.fst)];exact zb6 h.nd ((ek R).nodup lm) fun _=>h.mem
def Bh(R:List (Option (List U)))(t:List U)(r:Int):kpt (R++[some t]) r=if r=((R.length+1:Nat):Int) then some t else kpt R r:=by
 by_cases h:r=((R.length+1:Nat):Int)
 ·rw[na h,h,o3];simp
 ·rw[nc h];unfold kpt;by_cases h0:0<r
  ·rw[na h0,na h0];rcases m5 (r-1).toNat R.length with hlt | hge
   ·rw[zp5 hlt]
   ·rw[zo1 (by rw[nr,zp3];omega),zo1 hge]
  ·rw[nc h0,nc h0]
def MapOK.add{Y:Type}{es:List (Int×(List U×Y))}(h:MapOK es R)(t:List U)(y:Y):MapOK (Oc ((R.length+1:Nat):Int) (t,y) es) (R++[some t])/\Oc ((R.length+1:Nat):Int) (t,y) es=es++[(((R.length+1:Nat):Int),(t,y))]:=by
 have hn:((R.length+1:Nat):Int)∉es.map Prod.fst:=fun hm=>by
  have:=bl (vl.1 (h.mem.1 hm));omega
 have hf:pt ((R.length+1:Nat):Int) es 0=none:=by
  have h1:¬ (ut ((R.length+1:Nat):Int) es).isSome=true:=fun hs=>hn (pq.1 hs);unfold ut at h1
  cases hm:pt ((R.length+1:Nat):Int) es 0 with
  | none=>rfl
  | some q=>rw[hm] at h1;exact ni rfl h1
 have he:Oc ((R.length+1:Nat):Int) (t,y) es=es++[(((R.length+1:Nat):Int),(t,y))]:=r9 hf;refine⟨⟨?_,fun r=>?_⟩,he⟩
 ·rw[he,zpb,List.nodup_append];refine⟨h.nd,zqk _ _,fun a ha b hb=>?_⟩;simp only[mz,zph,m7] at hb;subst hb;exact fun e=>hn (e ▸ ha)
 ·rw[Qf,Bh];by_cases e:r=((R.length+1:Nat):Int)
  ·rw[na e,na e];rfl
  ·rw[nc e,nc e,h.get]
def clr(R:List (Option (List U)))(g:Int):List (Option (List U)):=R.set (g-1).toNat none
def X0{g r:Int}(hg:0<g):kpt (clr R g) r=if r=g then none else kpt R r:=by
 unfold kpt clr;by_cases h0:0<r
 ·rw[na h0,na h0,List.getElem?_set];by_cases e:r=g
  ·subst e;rw[na rfl,na rfl];split<;>rfl
  ·rw[nc T,nc e]
 ·rw[nc h0,nc h0,nc T]
def MapOK.del{Y:Type}{es:List (Int×(List U×Y))}(h:MapOK es R){g:Int}(hg:0<g):MapOK (S4 g es) (clr R g):=⟨h.nd.sublist ((Gq g es).map _),fun r=>by
 rw[Qh h.nd,X0 hg];by_cases e:r=g
 ·rw[na e,na e];rfl
 ·rw[nc e,nc e,h.get]⟩
def Yw(R:List (Option (List U)))(l:List Int):List (Option (List U)):=l.foldl clr R
def ak(l:List Int):∀ R:List (Option (List U)),(Yw R l).length=R.length:=by
 induction l with
 | nil=>intro R;rfl
 | cons g l ih=>
  intro R;have:=ih (clr R g);unfold Yw at this |-;rw[zq2,this];unfold clr;rw[zq1]
def Bi{r:Int}:∀ {l:List Int} {R:List (Option (List U))},(∀ g∈l,0<g)->kpt (Yw R l) r=if r∈l then none else kpt R r
 | [],R,_=>by simp [Yw]
 | g::l,R,h=>by
  have:=Bi (r:=r) (l:=l) (R:=clr R g) fun x hx=>h x (mh _ hx);unfold Yw at this |-;rw[zq2,this,X0 (h g (mc ..))];by_cases e1:r∈l
  ·rw[na e1,na (mh _ e1)]
  ·rw[nc e1];by_cases e2:r=g
   ·rw[na e2,na (by simp [e2])]
   ·rw[nc e2,nc (by simp [e1,e2])]
structure Sto where
 R:List (Option (List U))
 P:List Int
structure znw(S:Sto):Prop where
 last:(kpt S.R S.R.length).isSome=true
 kl:(jb S.R).length<=1024
 pin:∀ r∈S.P,(kpt S.R r).isSome=true
 tl:∀ r t,kpt S.R r=some t->t.length<=4096
def newS:Sto:=⟨[some []],[]⟩
def atS(S:Sto)(r:Int):List U×Int:=match kpt S.R (if r=0 then S.R.length else r) with
 | some t=>(t,0)
 | none=>([],14)
def Bt(S:Sto)(l cs:List CH):Sto×Int×Int:=
 if (a9 (atS S 0).1 l cs).2.2=0 then (if 1024<=(jb S.R).length then (S,0,3) else (⟨S.R++[some (a9 (atS S 0).1 l cs).1],S.P⟩,((S.R.length+1:Nat):Int),0)) else (S,0,(a9 (atS S 0).1 l cs).2.2)
def zgs(S:Sto)(r:Int)(un:Bool):Sto×Int:=
 if (kpt S.R r).isSome=true then (if un then (if (H8 S.P r).2=0 then (⟨S.R,(H8 S.P r).1⟩,0) else (S,(H8 S.P r).2)) else (⟨S.R,S.P++[r]⟩,0)) else (S,14)
def Ac(S:Sto)(keep:Int):Sto×List Int×Int:=
 if 1<=keep/\keep<=1024 then (⟨Yw S.R (az S.P (jb S.R) keep.toNat),S.P⟩,az S.P (jb S.R) keep.toNat,0) else (S,[],4)
end Go.V.L10
section
open Go.V
attribute [local irreducible] Has N Par Ret RetL RetO RetX Src StepOK V VO X kz
namespace Go.V.So
open Go.Sort
def _root_.Zq(t:Wr Y->A:=by intro h;refine z8 (qw L _ Z Z Z Z T) Z ?_;exact h.1)(h:Y):A:=t ⟨h⟩
def _root_.Zax(t:Wr Y->A:=by intro h;refine z7 (P3 Z Z Z Z M) Z ?_;exact h.1)(h:Y):A:=t ⟨h⟩
def _root_.ZX(t:Wr Y->A:=by exact fun h=>(Zp∘Zq) h.1)(h:Y):A:=t ⟨h⟩
def _root_.ZbQ(t:Wr Y->A:=by exact fun h=>(Zp∘ZdR) h.1)(h:Y):A:=t ⟨h⟩
def _root_.ZcB(t:Wr Y->A:=by exact fun h=>(ZdY∘Zb8) h.1)(h:Y):A:=t ⟨h⟩
abbrev lt:Int->Int->Bool:=ltInt
abbrev tyU:TypeId:=48
def isnanU(a:Int)(hB:zs4 B w):Ret zs5 280 [.int .u64 a] w B (fun v _=>v=.bool false):=by
 refine yr Tryz.func280 Z Tryz.ntmps280 (np Z) hB ((ZK∘Zb∘Zbf∘Zc) ?_);exact yj2 L [.tmp 2]
def zmy(a b:Int)(hB:zs4 B w):Ret zs5 277 [.int .u64 a,.int .u64 b] w B (fun v _=>v=.bool (lt a b)):=by
 unfold lt ltInt;refine yr Tryz.func277 Z Tryz.ntmps277 (np Z) hB ?_;by_cases h:a<b
 ·rw[nf h];refine Zc2 (h:=?_);refine z71 L Z (fun u H hH _=>isnanU _ hH) ?_;refine(Zcl∘Z8∘ZU∘Zi∘Zc) ?_;exact yj2 L [.tmp 4]
 ·rw[ng h];refine Zc2 (h:=?_);refine z71 L Z (fun u H hH _=>isnanU _ hH) ?_;refine(Zcl∘Z8∘Z0∘Zi∘Zc) ?_;exact yj2 L [.tmp 4]
def jy{a b:Int}{f:Bool}(h:lt a b=f)(hB:zs4 B w):Ret zs5 277 [.int .u64 a,.int .u64 b] w B (fun v _=>v=.bool f):=h ▸ zmy a b hB
def ins_ret{b m cap a e:Nat}(hab:a<=e)(he:e<=d.size)(hm:d.size=m)(hm1:m<=100000)(hB:zs4 B w)
  (hr:(xc b (uC d++rest) tyU).P B w C) (hC:ZCB C w B):
  kz zs5 271 [.slice (some ⟨b,0,none⟩) m cap,.int .i64 a,.int .i64 e] w B C (xc b (uC (insertionSort lt d a e)++rest) tyU):=by
 unfold kz;refine xf 900 (xc b (uC d++rest) tyU) Tryz.func271 Z Tryz.ntmps271 (np Z) hB hr hC ?_;rw[xd];have hw0:IntKind.i64.wrap ((a:Int)+1)=((a+1:Nat):Int):=xb T T;refine(ZQ∘Za∘ZC∘ZaX) ?_;refine xp (fun s:Nat×Array Int=>[(0,.is (.slice (some ⟨b,0,none⟩) m cap)),(1,.is (.int .i64 a)),(2,.is (.int .i64 e)),(6,.is (.int .i64 s.1)),(900,.own (xu b (uC s.2++rest) tyU))]) (fun s=>s.1<=e+1/\a<s.1/\s.2.size=m/\insOuter lt a e s.1 s.2=insertionSort lt d a e) (fun s=>e+1-s.1) (a+1,d) ⟨by omega,by omega,hm,rfl⟩ ⟨Z,Z,Z,Z,Z,nm⟩ ?_;rintro⟨i,D⟩ ⟨hi,hai,hD,hO⟩;dsimp only at hi hai hD hO |-;by_cases hlt:i<e
 ·rw[insOuter,na hlt] at hO;refine(Zf∘Zan∘Zb∘ZbJ∘Zr∘ZaX) ?_;refine xp (fun t:Nat×Array Int=>[(0,.is (.slice (some ⟨b,0,none⟩) m cap)),(1,.is (.int .i64 a)),(2,.is (.int .i64 e)),(6,.is (.int .i64 i)),(7,.is (.int .i64 t.1)),(900,.own (xu b (uC t.2++rest) tyU))]) (fun t=>t.1<=i/\t.2.size=m/\insInner lt a t.1 t.2=insInner lt a i D) (fun t=>t.1) (i,D) ⟨nu _,hD,rfl⟩ ⟨Z,Z,Z,Z,Z,Z,nm⟩ ?_;rintro⟨j,zsz⟩ ⟨hj,hE,hI⟩;dsimp only at hj hE hI |-;rcases j with _ | j
  ·rw[insInner] at hI;rw[hI];refine(Zf∘Zda∘Zp∘ZdJ∘ZbM∘Zdx∘Zam∘ZaH∘Zb8∘Zz∘ZaT) ?_;exact yo (x:=(i,D)) (i+1,insInner lt a i D) ⟨by dsimp only;omega,by dsimp only;omega,by dsimp only;rw[<-hI];exact hE,hO⟩ G ⟨Z,Z,Z,Z,Z,trivial⟩
  ·by_cases hja:a<j+1
   ·have hw1:IntKind.i64.wrap (((j+1:Nat):Int)-1)=(j:Int):=xb T T |>.trans T;obtain⟨r1,q1⟩:=gv (rest:=rest) (show j+1<zsz.size by omega) (0+(j+1)*1) rfl;obtain⟨r2,q2⟩:=gv (rest:=rest) (show j<zsz.size by omega) (0+j*1) rfl
    cases hc:lt zsz[j+1]! zsz[j]! with
    | true=>
     rw[insInner,na (by rw[hc];simp;omega)] at hI;have s1:=vq (rest:=rest) zsz[j]! (show j+1<zsz.size by omega) (0+(j+1)*1) rfl;have b1:=vr (rest:=rest) (show j+1<zsz.size by omega) (0+(j+1)*1) rfl;have hz:j<(zsz.setIfInBounds (j+1) zsz[j]!).size:=by rw[zpi];omega
     have s2:=vq (rest:=rest) zsz[j+1]! hz (0+j*1) rfl;have b2:=vr (rest:=rest) hz (0+j*1) rfl;rw[fi] at s2;refine Zf (h:=?_);refine qn (id:=4) [(200023,[900]),(200028,[900])] ko J ((Zp∘Zd4∘Zbk∘Zq) ?_);refine qv (qh L (q:=900) Z Z Z q1) Z Z ((ZbQ∘Zq) ?_);refine qv (qh L (q:=900) Z Z Z q2) Z Z (z81 L Z (fun u H hH _=>jy hc hH) ?_);refine(ZbC∘Zao∘Zar) ?_;refine qn (id:=6) [(200042,[900]),(200046,[900]),(100047,[900]),(100048,[900])] ko J ((Zp∘ZbQ∘ZbQ∘Zq) ?_);refine qv (qh L (q:=900) Z Z Z q2) Z Z (ZX (h:=?_));refine qv (qh L (q:=900) Z Z Z q1) Z Z (Zq (h:=?_));refine xq (yl L (q:=900) Z Z b1 Z s1) Z (Zq (h:=?_));refine xq (yl L (q:=900) Z Z b2 Z s2) Z ((ZcB∘ZS∘Zax∘Zby) ?_);exact yo (x:=(j+1,zsz)) (j,swp zsz (j+1) j) ⟨by dsimp only;omega,by dsimp only;rw[wj];exact hE,hI⟩ G ⟨Z,Z,Z,Z,Z,Z,trivial⟩
    | false=>
     rw[insInner,nc (by rw[hc];simp)] at hI;refine Zf (h:=?_);refine qn (id:=4) [(200023,[900]),(200028,[900])] ko J ((Zp∘Zd4∘Zbk∘Zq) ?_);refine qv (qh L (q:=900) Z Z Z q1) Z Z ((ZbQ∘Zq) ?_);refine qv (qh L (q:=900) Z Z Z q2) Z Z (z81 L Z (fun u H hH _=>jy hc hH) ?_);refine(Zam∘ZaH∘Zb8) ?_;rw[hI];refine(Zz∘ZaT) ?_;exact yo (x:=(i,D)) (i+1,insInner lt a i D) ⟨by dsimp only;omega,by dsimp only;omega,by dsimp only;rw[<-hI];exact hE,hO⟩ G ⟨Z,Z,Z,Z,Z,trivial⟩
   ·rw[insInner,nc (by simp;omega)] at hI;rw[hI];refine(Zf∘Zda∘Zp∘ZdJ∘ZbM∘Zdx∘Zam∘ZaH∘Zb8∘Zz∘ZaT) ?_;exact yo (x:=(i,D)) (i+1,insInner lt a i D) ⟨by dsimp only;omega,by dsimp only;omega,by dsimp only;rw[<-hI];exact hE,hO⟩ G ⟨Z,Z,Z,Z,Z,trivial⟩
 ·rw[insOuter,nc hlt] at hO;subst hO;refine(Zf∘Zan∘Zb∘Z0∘ZaJ∘ZaH) ?_;exact xw L 900 (r:=xc b _ tyU) Z (fun _ _ h=>h) nq Z Z
def _root_.Zct(t:Wr Y->A:=by intro h;refine z8 (yc Z Z Z Z M) Z ?_;exact h.1)(h:Y):A:=t ⟨h⟩
def _root_.Zdr(t:Wr Y->A:=by intro h;refine z7 (zj2 Z Z Z Z T M) Z ?_;exact h.1)(h:Y):A:=t ⟨h⟩
def _root_.ZeG(t:Wr Y->A:=by intro h;refine qn (id:=5) [(200044,[900]),(200050,[900])] ko J ?_;exact h.1)(h:Y):A:=t ⟨h⟩
def _root_.ZfK(t:Wr Y->A:=by intro h;refine qn (id:=6) [(200066,[900]),(200072,[900]),(100073,[900]),(100074,[900])] ko J ?_;exact h.1)(h:Y):A:=t ⟨h⟩
def _root_.Zfx(t:Wr Y->A:=by intro h;refine qn (id:=3) [(200027,[900]),(200034,[900])] ko J ?_;exact h.1)(h:Y):A:=t ⟨h⟩
def _root_.ZcT(t:Wr Y->A:=by exact fun h=>(Zbk∘Zct) h.1)(h:Y):A:=t ⟨h⟩
def _root_.Zeg(t:Wr Y->A:=by exact fun h=>(Ze5∘ZC) h.1)(h:Y):A:=t ⟨h⟩
def _root_.Zch(t:Wr Y->A:=by exact fun h=>(ZcT∘Zq) h.1)(h:Y):A:=t ⟨h⟩
def zgl{m cap e:Nat}(hab:a<e)(he:e<=d.size)(hm:d.size=m)(hm1:m<=100000)(hB:zs4 B w)
  (hr:(xc b (uC d++rest) tyU).P B w C) (hC:ZCB C w B):
  kz zs5 275 [.slice (some ⟨b,0,none⟩) m cap,.int .i64 a,.int .i64 e] w B C (xc b (uC (reverseRange d a e)++rest) tyU):=by
 unfold kz;refine xf 900 (xc b (uC d++rest) tyU) Tryz.func275 Z Tryz.ntmps275 (np Z) hB hr hC ?_;rw[xd];have hw0:IntKind.i64.wrap ((e:Int)-1)=((e-1:Nat):Int):=xb T T |>.trans T;refine(ZQ∘Za∘ZbA∘Zax∘ZaX) ?_;refine xp (fun s:(Nat×Nat)×Array Int=>[(0,.is (.slice (some ⟨b,0,none⟩) m cap)),(6,.is (.int .i64 s.1.1)),(7,.is (.int .i64 s.1.2)),(900,.own (xu b (uC s.2++rest) tyU))]) (fun s=>s.1.1<=m/\s.1.2<m/\s.2.size=m/\reverseLoop s.1.1 s.1.2 s.2=reverseRange d a e) (fun s=>s.1.2-s.1.1) ((a,e-1),d) ⟨by dsimp only;omega,by dsimp only;omega,hm,rfl⟩ ⟨Z,Z,Z,Z,trivial⟩ ?_;rintro⟨⟨i,j⟩,zsz⟩ ⟨hi,hj,hE,hO⟩;dsimp only at hi hj hE hO |-;by_cases hlt:i<j
 ·rw[reverseLoop,na hlt] at hO;have hw1:IntKind.i64.wrap ((i:Int)+1)=((i+1:Nat):Int):=xb T T;have hw2:IntKind.i64.wrap ((j:Int)-1)=((j-1:Nat):Int):=xb T T |>.trans T;obtain⟨_,qj⟩:=gv (rest:=rest) (show j<zsz.size by omega) (0+(j)*1) rfl;obtain⟨_,qi⟩:=gv (rest:=rest) (show i<zsz.size by omega) (0+(i)*1) rfl;have s1:=vq (rest:=rest) zsz[j]! (show i<zsz.size by omega) (0+(i)*1) rfl;have b1:=vr (rest:=rest) (show i<zsz.size by omega) (0+(i)*1) rfl;have hz:j<(zsz.setIfInBounds (i) zsz[j]!).size:=by rw[zpi];omega
  have s2:=vq (rest:=rest) zsz[i]! hz (0+(j)*1) rfl;have b2:=vr (rest:=rest) hz (0+(j)*1) rfl;rw[fi] at s2;refine(Zf∘Za9∘ZbB∘ZcQ) ?_;refine qn (id:=3) [(200021,[900]),(200025,[900]),(100026,[900]),(100027,[900])] ko J ((Zp∘Zp∘ZX) ?_);refine qv (qh L (q:=900) Z Z Z qj) Z Z (ZX (h:=?_));refine qv (qh L (q:=900) Z Z Z qi) Z Z (Zq (h:=?_));refine xq (yl L (q:=900) Z Z b1 Z s1) Z (Zq (h:=?_));refine xq (yl L (q:=900) Z Z b2 Z s2) Z ((ZaV∘Z5∘ZC∘Zc∘ZS∘Zax∘Zag) ?_);exact yo (x:=((i,j),zsz)) ((i+1,j-1),swp zsz i j) ⟨by dsimp only;omega,by dsimp only;omega,by dsimp only;rw[wj];exact hE,hO⟩ G ⟨Z,Z,Z,Z,trivial⟩
 ·rw[reverseLoop,nc hlt] at hO;subst hO;refine(Zf∘Za9∘Z0∘ZaJ∘ZaH) ?_;exact xw L 900 (r:=xc b _ tyU) Z (fun _ _ h=>h) nq Z Z
def Px{b m cap lo hi first:Nat}(hlo:lo<=hi)(hf:first+hi<=d.size)(hm:d.size=m)(hm1:m<=100000)(hB:zs4 B w)
  (hr:(xc b (uC d++rest) tyU).P B w C) (hC:ZCB C w B):
  kz zs5 288 [.slice (some ⟨b,0,none⟩) m cap,.int .i64 lo,.int .i64 hi,.int .i64 first] w B C (xc b (uC (siftDown lt hi first lo d)++rest) tyU):=by
 unfold kz;refine xf 900 (xc b (uC d++rest) tyU) Tryz.func288 Z Tryz.ntmps288 (np Z) hB hr hC ?_;rw[xd];refine(ZQ∘Za∘ZaX) ?_;refine xp (fun s:Nat×Array Int=>[(0,.is (.slice (some ⟨b,0,none⟩) m cap)),(2,.is (.int .i64 hi)),(3,.is (.int .i64 first)),(8,.is (.int .i64 s.1)),(900,.own (xu b (uC s.2++rest) tyU))]) (fun s=>s.1<=hi/\s.2.size=m/\siftDown lt hi first s.1 s.2=siftDown lt hi first lo d) (fun s=>hi-s.1) (lo,d) ⟨hlo,hm,rfl⟩ ⟨Z,Z,Z,Z,Z,nm⟩ ?_;rintro⟨r,zsz⟩ ⟨hr0,hE,hO⟩;dsimp only at hr0 hE hO |-;have hw1:IntKind.i64.wrap (2*(r:Int))=((2*r:Nat):Int):=xb T T |>.trans T;have hw2:IntKind.i64.wrap (((2*r:Nat):Int)+1)=((2*r+1:Nat):Int):=xb T T;by_cases hend:hi<=2*r+1
 ·rw[siftDown,dif_pos T] at hO;subst hO;refine(ZF∘Zbp∘Zeg∘Zk∘Za9∘Zcp∘Ze2∘Zeb∘Zd2) ?_;exact xw L 900 (r:=xc b _ tyU) Z (fun _ _ h=>h) nq Z Z
 ·rw[siftDown,dif_neg T] at hO;have hw3:IntKind.i64.wrap (((2*r+1:Nat):Int)+1)=((2*r+2:Nat):Int):=xb T T;have hw4:IntKind.i64.wrap ((first:Int)+((2*r+1:Nat):Int))=((first+(2*r+1):Nat):Int):=xb T T;have hw5:IntKind.i64.wrap (((first+(2*r+1):Nat):Int)+1)=((first+(2*r+2):Nat):Int):=xb T T;have hw6:IntKind.i64.wrap ((first:Int)+(r:Int))=((first+r:Nat):Int):=xb T T;have hw7:IntKind.i64.wrap ((first:Int)+((2*r+2:Nat):Int))=((first+(2*r+2):Nat):Int):=xb T T;obtain⟨_,qr⟩:=gv (rest:=rest) (show first+r<zsz.size by omega) (0+(first+r)*1) rfl;by_cases h2:2*r+2<hi
  ·obtain⟨_,q1⟩:=gv (rest:=rest) (show first+(2*r+1)<zsz.size by omega) (0+(first+(2*r+1))*1) rfl;obtain⟨_,q2⟩:=gv (rest:=rest) (show first+(2*r+2)<zsz.size by omega) (0+(first+(2*r+2))*1) rfl;have e2:first+(2*r+1)+1=first+(2*r+2):=T
   rw[e2] at hO
   cases hc:lt zsz[first+(2*r+1)]! zsz[first+(2*r+2)]! with
   | true=>
    rw[na (by rw[hc];simp;omega)] at hO;have qc:=q2
    cases hc2:lt zsz[first+r]! zsz[first+(2*r+2)]! with
    | false=>
     rw[hc2] at hO;simp only[Bool.not_false,if_true] at hO;subst hO;refine(ZF∘Zbp∘Zeg∘Zk∘Za9∘Za6∘ZV∘Zfx∘Zl∘Zct∘Zl∘ZcD∘Zp∘Zp∘Zct∘Zq) ?_;refine qv (qh L (q:=900) Z Z Z q1) Z Z ((ZcT∘Zct∘Zq) ?_);refine qv (qh L (q:=900) Z Z Z q2) Z Z (z81 L Z (fun u H hH _=>jy hc hH) ?_);refine(ZbC∘Z5∘ZC∘Zk∘ZeG∘Zch) ?_;refine qv (qh L (q:=900) Z Z Z qr) Z Z (Zch (h:=?_));refine qv (qh L (q:=900) Z Z Z qc) Z Z (z81 L Z (fun u H hH _=>jy hc2 hH) ?_);refine(ZaG∘ZbW) ?_;exact jm L 900 (r:=xc b _ tyU) Z (fun _ _ h=>h) nq Z Z
    | true=>
     rw[hc2] at hO;simp only[Bool.not_true,zqh,if_false] at hO;rw[dif_pos T] at hO;obtain⟨_,qj⟩:=gv (rest:=rest) (show first+(2*r+2)<zsz.size by omega) (0+(first+(2*r+2))*1) rfl;obtain⟨_,qi⟩:=gv (rest:=rest) (show first+r<zsz.size by omega) (0+(first+r)*1) rfl;have s1:=vq (rest:=rest) zsz[first+(2*r+2)]! (show first+r<zsz.size by omega) (0+(first+r)*1) rfl;have b1:=vr (rest:=rest) (show first+r<zsz.size by omega) (0+(first+r)*1) rfl;have hz:first+(2*r+2)<(zsz.setIfInBounds (first+r) zsz[first+(2*r+2)]!).size:=by rw[zpi];omega
     have s2:=vq (rest:=rest) zsz[first+r]! hz (0+(first+(2*r+2))*1) rfl;have b2:=vr (rest:=rest) hz (0+(first+(2*r+2))*1) rfl;rw[fi] at s2;refine(ZF∘Zbp∘Zeg∘Zk∘Za9∘Za6∘ZV∘Zfx∘Zl∘Zct∘Zl∘ZcD∘Zp∘Zp∘Zct∘Zq) ?_;refine qv (qh L (q:=900) Z Z Z q1) Z Z ((ZcT∘Zct∘Zq) ?_);refine qv (qh L (q:=900) Z Z Z q2) Z Z (z81 L Z (fun u H hH _=>jy hc hH) ?_);refine(ZbC∘Z5∘ZC∘Zk∘ZeG∘Zch) ?_;refine qv (qh L (q:=900) Z Z Z qr) Z Z (Zch (h:=?_));refine qv (qh L (q:=900) Z Z Z qc) Z Z (z81 L Z (fun u H hH _=>jy hc2 hH) ?_);refine(ZaG∘ZaL∘Zao∘ZfK∘ZcT∘ZcT∘Zch) ?_;refine qv (qh L (q:=900) Z Z Z qj) Z Z (Zch (h:=?_));refine qv (qh L (q:=900) Z Z Z qi) Z Z (Zq (h:=?_));refine xq (yl L (q:=900) Z Z b1 Z s1) Z (Zq (h:=?_));refine xq (yl L (q:=900) Z Z b2 Z s2) Z ((Zb3∘Z7∘Zag) ?_);exact yo (x:=(r,zsz)) (2*r+2,swp zsz (first+r) (first+(2*r+2))) ⟨by dsimp only;omega,by dsimp only;rw[wj];exact hE,hO⟩ G ⟨Z,Z,Z,Z,Z,trivial⟩
   | false=>
    rw[nc (by rw[hc];simp)] at hO;have qc:=q1
    cases hc2:lt zsz[first+r]! zsz[first+(2*r+1)]! with
    | false=>
     rw[hc2] at hO;simp only[Bool.not_false,if_true] at hO;subst hO;refine(ZF∘Zbp∘Zeg∘Zk∘Za9∘Za6∘ZV∘Zfx∘Zl∘Zct∘Zl∘ZcD∘Zp∘Zp∘Zct∘Zq) ?_;refine qv (qh L (q:=900) Z Z Z q1) Z Z ((ZcT∘Zct∘Zq) ?_);refine qv (qh L (q:=900) Z Z Z q2) Z Z (z81 L Z (fun u H hH _=>jy hc hH) ?_);refine(Zam∘Zao∘Ze∘ZeG∘Zch) ?_;refine qv (qh L (q:=900) Z Z Z qr) Z Z (Zch (h:=?_));refine qv (qh L (q:=900) Z Z Z qc) Z Z (z81 L Z (fun u H hH _=>jy hc2 hH) ?_);refine(ZaG∘ZbW) ?_;exact jm L 900 (r:=xc b _ tyU) Z (fun _ _ h=>h) nq Z Z
    | true=>
     rw[hc2] at hO;simp only[Bool.not_true,zqh,if_false] at hO;obtain⟨_,qj⟩:=gv (rest:=rest) (show first+(2*r+1)<zsz.size by omega) (0+(first+(2*r+1))*1) rfl;obtain⟨_,qi⟩:=gv (rest:=rest) (show first+r<zsz.size by omega) (0+(first+r)*1) rfl;have s1:=vq (rest:=rest) zsz[first+(2*r+1)]! (show first+r<zsz.size by omega) (0+(first+r)*1) rfl;have b1:=vr (rest:=rest) (show first+r<zsz.size by omega) (0+(first+r)*1) rfl;have hz:first+(2*r+1)<(zsz.setIfInBounds (first+r) zsz[first+(2*r+1)]!).size:=by rw[zpi];omega
     have s2:=vq (rest:=rest) zsz[first+r]! hz (0+(first+(2*r+1))*1) rfl;have b2:=vr (rest:=rest) hz (0+(first+(2*r+1))*1) rfl;rw[fi] at s2;refine(ZF∘Zbp∘Zeg∘Zk∘Za9∘Za6∘ZV∘Zfx∘Zl∘Zct∘Zl∘ZcD∘Zp∘Zp∘Zct∘Zq) ?_;refine qv (qh L (q:=900) Z Z Z q1) Z Z ((ZcT∘Zct∘Zq) ?_);refine qv (qh L (q:=900) Z Z Z q2) Z Z (z81 L Z (fun u H hH _=>jy hc hH) ?_);refine(Zam∘Zao∘Ze∘ZeG∘Zch) ?_;refine qv (qh L (q:=900) Z Z Z qr) Z Z (Zch (h:=?_));refine qv (qh L (q:=900) Z Z Z qc) Z Z (z81 L Z (fun u H hH _=>jy hc2 hH) ?_);refine(ZaG∘ZaL∘Zao∘ZfK∘ZcT∘ZcT∘Zch) ?_;refine qv (qh L (q:=900) Z Z Z qj) Z Z (Zch (h:=?_));refine qv (qh L (q:=900) Z Z Z qi) Z Z (Zq (h:=?_));refine xq (yl L (q:=900) Z Z b1 Z s1) Z (Zq (h:=?_));refine xq (yl L (q:=900) Z Z b2 Z s2) Z ((Zb3∘Z7∘Zag) ?_);exact yo (x:=(r,zsz)) (2*r+1,swp zsz (first+r) (first+(2*r+1))) ⟨by dsimp only;omega,by dsimp only;rw[wj];exact hE,hO⟩ G ⟨Z,Z,Z,Z,Z,trivial⟩
  ·rw[nc (by simp;omega)] at hO;obtain⟨_,qc⟩:=gv (rest:=rest) (show first+(2*r+1)<zsz.size by omega) (0+(first+(2*r+1))*1) rfl
   cases hc2:lt zsz[first+r]! zsz[first+(2*r+1)]! with
   | false=>
    rw[hc2] at hO;simp only[Bool.not_false,if_true] at hO;subst hO;refine(ZF∘Zbp∘Zeg∘Zk∘Za9∘Za6∘ZV∘ZcH∘Zl∘Zct∘Zl∘Zdg∘ZbM∘ZeQ∘Zdx∘Zam∘Zao∘Ze∘ZeG∘Zch) ?_;refine qv (qh L (q:=900) Z Z Z qr) Z Z (Zch (h:=?_));refine qv (qh L (q:=900) Z Z Z qc) Z Z (z81 L Z (fun u H hH _=>jy hc2 hH) ?_);refine(ZaG∘ZbW) ?_;exact jm L 900 (r:=xc b _ tyU) Z (fun _ _ h=>h) nq Z Z
   | true=>
    rw[hc2] at hO;simp only[Bool.not_true,zqh,if_false] at hO;obtain⟨_,qj⟩:=gv (rest:=rest) (show first+(2*r+1)<zsz.size by omega) (0+(first+(2*r+1))*1) rfl;obtain⟨_,qi⟩:=gv (rest:=rest) (show first+r<zsz.size by omega) (0+(first+r)*1) rfl;have s1:=vq (rest:=rest) zsz[first+(2*r+1)]! (show first+r<zsz.size by omega) (0+(first+r)*1) rfl;have b1:=vr (rest:=rest) (show first+r<zsz.size by omega) (0+(first+r)*1) rfl;have hz:first+(2*r+1)<(zsz.setIfInBounds (first+r) zsz[first+(2*r+1)]!).size:=by rw[zpi];omega
    have s2:=vq (rest:=rest) zsz[first+r]! hz (0+(first+(2*r+1))*1) rfl;have b2:=vr (rest:=rest) hz (0+(first+(2*r+1))*1) rfl;rw[fi] at s2;refine(ZF∘Zbp∘Zeg∘Zk∘Za9∘Za6∘ZV∘ZcH∘Zl∘Zct∘Zl∘Zdg∘ZbM∘ZeQ∘Zdx∘Zam∘Zao∘Ze∘ZeG∘Zch) ?_;refine qv (qh L (q:=900) Z Z Z qr) Z Z (Zch (h:=?_));refine qv (qh L (q:=900) Z Z Z qc) Z Z (z81 L Z (fun u H hH _=>jy hc2 hH) ?_);refine(ZaG∘ZaL∘Zao∘ZfK∘ZcT∘ZcT∘Zch) ?_;refine qv (qh L (q:=900) Z Z Z qj) Z Z (Zch (h:=?_));refine qv (qh L (q:=900) Z Z Z qi) Z Z (Zq (h:=?_));refine xq (yl L (q:=900) Z Z b1 Z s1) Z (Zq (h:=?_));refine xq (yl L (q:=900) Z Z b2 Z s2) Z ((Zb3∘Z7∘Zag) ?_);exact yo (x:=(r,zsz)) (2*r+1,swp zsz (first+r) (first+(2*r+1))) ⟨by dsimp only;omega,by dsimp only;rw[wj];exact hE,hO⟩ G ⟨Z,Z,Z,Z,Z,trivial⟩
def Kp(hi first:Nat):∀ (n root:Nat) (d:Array Int),hi-root<=n->(siftDown lt hi first root d).size=d.size:=by
 intro n
 induction n with
 | zero=>
  intro root d h;rw[siftDown,dif_pos T]
 | succ n ih=>
  intro root d h;rw[siftDown];split
  ·rfl
  ·split
   ·split
    ·rfl
    ·split
     ·rw[ih _ _ T,wj]
     ·rfl
   ·split
    ·rfl
    ·rw[ih _ _ T,wj]
def zc3{m cap e:Nat}(hab:a<e)(he:e<=d.size)(hm:d.size=m)(hm1:m<=100000)(hB:zs4 B w)
  (hr:(xc b (uC d++rest) tyU).P B w C) (hC:ZCB C w B):
  kz zs5 272 [.slice (some ⟨b,0,none⟩) m cap,.int .i64 a,.int .i64 e] w B C (xc b (uC (heapSort lt d a e)++rest) tyU):=by
 unfold kz;refine xf 900 (xc b (uC d++rest) tyU) Tryz.func272 Z Tryz.ntmps272 (np Z) hB hr hC ?_;rw[xd];have hw0:IntKind.i64.wrap ((e:Int)-(a:Int))=((e-a:Nat):Int):=xb T T |>.trans T;have hw1:IntKind.i64.wrap (((e-a:Nat):Int)-1)=((e-a-1:Nat):Int):=xb T T |>.trans T
 have et:((e-a-1:Nat):Int).tdiv 2=(((e-a-1)/2+1:Nat):Int)-1:=by
  rw[zr0 T];omega
 have hw2:IntKind.i64.wrap (((e-a-1:Nat):Int).tdiv 2)=(((e-a-1)/2+1:Nat):Int)-1:=by rw[et];exact xb T T
 refine(ZQ∘Za∘ZaW∘Zd∘Za9∘Zax∘Zk∘Zr∘Zax∘Zdr∘ZaX) ?_;refine xp (fun s:Nat×Array Int=>[(0,.is (.slice (some ⟨b,0,none⟩) m cap)),(6,.is (.int .i64 a)),(7,.is (.int .i64 0)),(8,.is (.int .i64 (e-a:Nat))),(9,.is (.int .i64 ((s.1:Int)-1))),(900,.own (xu b (uC s.2++rest) tyU))]) (fun s=>s.1<=(e-a-1)/2+1/\s.2.size=m/\heapBuild lt (e-a) a s.1 s.2=heapBuild lt (e-a) a ((e-a-1)/2+1) d) (fun s=>s.1) ((e-a-1)/2+1,d) ⟨nu _,hm,rfl⟩ ⟨Z,Z,Z,Z,Z,Z,nm⟩ ?_;rintro⟨k,zsz⟩ ⟨hk,hE,hO⟩;dsimp only at hk hE hO |-;rcases k with _ | k
 ·have e9:(((0:Nat):Int)-1)= -1:=rfl;rw[e9];refine(Zf∘Z5∘Za6∘Za5) ?_;rw[heapBuild] at hO;have e10:((e-a-1:Nat):Int)=((e-a:Nat):Int)-1:=T;rw[e10] at hw1;refine(Z7∘Zax∘ZaX) ?_;refine xp (fun s:Nat×Array Int=>[(0,.is (.slice (some ⟨b,0,none⟩) m cap)),(6,.is (.int .i64 a)),(7,.is (.int .i64 0)),(10,.is (.int .i64 ((s.1:Int)-1))),(900,.own (xu b (uC s.2++rest) tyU))]) (fun s=>s.1<=e-a/\s.2.size=m/\heapPop lt a s.1 s.2=heapPop lt a (e-a) zsz) (fun s=>s.1) (e-a,zsz) ⟨nu _,hE,rfl⟩ ⟨Z,Z,Z,Z,Z,nm⟩ ?_;rintro⟨j,zs2⟩ ⟨hj,hG,hP⟩;dsimp only at hj hG hP |-;rcases j with _ | j
  ·rw[e9];rw[heapPop] at hP;have:zs2=heapSort lt d a e:=by unfold heapSort;rw[<-hO,hP]
   subst this;refine(Zf∘ZaI∘Za6∘ZaJ∘ZaH) ?_;exact xw L 900 (r:=xc b _ tyU) Z (fun _ _ h=>h) nq Z Z
  ·have e8:(((j+1:Nat):Int)-1)=(j:Int):=T;rw[heapPop] at hP;rw[e8];have hw3:IntKind.i64.wrap ((a:Int)+(j:Int))=((a+j:Nat):Int):=xb T T;have hw4:IntKind.i64.wrap ((j:Int)-1)=(j:Int)-1:=xb T T;have hsz:=wj zs2 a (a+j);have hss:=Kp j a j 0 (swp zs2 a (a+j)) T;obtain⟨_,qj⟩:=gv (rest:=rest) (show a+j<zs2.size by omega) (0+(a+j)*1) rfl;obtain⟨_,qi⟩:=gv (rest:=rest) (show a<zs2.size by omega) (0+(a)*1) rfl;have s1:=vq (rest:=rest) zs2[a+j]! (show a<zs2.size by omega) (0+(a)*1) rfl;have b1:=vr (rest:=rest) (show a<zs2.size by omega) (0+(a)*1) rfl;have hz:a+j<(zs2.setIfInBounds (a) zs2[a+j]!).size:=by rw[zpi];omega
   have s2:=vq (rest:=rest) zs2[a]! hz (0+(a+j)*1) rfl;have b2:=vr (rest:=rest) hz (0+(a+j)*1) rfl;rw[fi] at s2;refine(Zf∘ZaI∘Zcp∘ZdP) ?_;refine qn (id:=10) [(200044,[900]),(200048,[900]),(100049,[900]),(100050,[900])] ko J ((Zp∘ZcT∘Zch) ?_);refine qv (qh L (q:=900) Z Z Z qj) Z Z (ZX (h:=?_));refine qv (qh L (q:=900) Z Z Z qi) Z Z (Zq (h:=?_));refine xq (yl L (q:=900) Z Z b1 Z s1) Z (Zq (h:=?_));refine xq (yl L (q:=900) Z Z b2 Z s2) Z ((Zb3∘ZG∘Zbv) ?_);refine qg (xe L 900 (xc b (uC (siftDown lt j a 0 (swp zs2 a (a+j)))++rest) tyU) (r:=xc b (uC (swp zs2 a (a+j))++rest) tyU) Z Z Z Z Z (fun u H C hH _ hr hC=>Px (mb _) T T hm1 hH hr hC)) ((ZaA∘Zaq∘Zax∘Zby) ?_);exact yo (x:=(j+1,zs2)) (j,siftDown lt j a 0 (swp zs2 a (a+j))) ⟨by dsimp only;omega,by dsimp only;omega,hP⟩ G ⟨Z,Z,Z,Z,Z,trivial⟩
 ·have e8:(((k+1:Nat):Int)-1)=(k:Int):=T;rw[heapBuild] at hO;rw[e8];have hw4:IntKind.i64.wrap ((k:Int)-1)=(k:Int)-1:=xb T T;have hss:=Kp (e-a) a (e-a) k zsz T;refine(Zf∘Z5∘Zcp∘Zao∘Zar∘ZO∘Zbv) ?_;refine qg (xe L 900 (xc b (uC (siftDown lt (e-a) a k zsz)++rest) tyU) (r:=xc b (uC zsz++rest) tyU) Z Z Z Z Z (fun u H C hH _ hr hC=>Px T T T hm1 hH hr hC)) ((ZaA∘ZS∘Zax∘Zby) ?_);exact yo (x:=(k+1,zsz)) (k,siftDown lt (e-a) a k zsz) ⟨by dsimp only;omega,by dsimp only;omega,hO⟩ G ⟨Z,Z,Z,Z,Z,Z,trivial⟩
def _root_.Zfy(t:Wr Y->A:=by intro h;refine qn (id:=5) [(200053,[900]),(200057,[900])] ko J ?_;exact h.1)(h:Y):A:=t ⟨h⟩
def fq(h:¬ (i<=j/\p d[i]! =true)):scanUp p d j i=i:=by
 rw[scanUp,nc];simpa using h
def Ch(h1:i<=j)(h2:p d[i]! =true):scanUp p d j i=scanUp p d j (i+1):=by
 rw[scanUp,na (by simp [h1,h2])]
def v9(h:¬ (i<=j/\p d[j]! =true)):scanDown p d i j=j:=by
 cases j with
 | zero=>rfl
 | succ j=>rw[scanDown,nc];simpa using h
def oq(h1:i<=j+1)(h2:p d[j+1]! =true):scanDown p d i (j+1)=scanDown p d i j:=by
 rw[scanDown,na (by simp [h1,h2])]
def d9{b m cap a e p:Nat}(hap:a<=p)(hpe:p<e)(he:e<=d.size)(hm:d.size=m)(hm1:m<=100000)(hB:zs4 B w)
  (hr:(xc b (uC d++rest) tyU).P B w C) (hC:ZCB C w B):
  RetX zs5 279 [.slice (some ⟨b,0,none⟩) m cap,.int .i64 a,.int .i64 e,.int .i64 p] w B C (xc b (uC (Go.Sort.partition lt d a e p).2.2++rest) tyU) (.tuple #[.int .i64 (Go.Sort.partition lt d a e p).1,.bool (Go.Sort.partition lt d a e p).2.1]):=by
 unfold RetX;refine xf 900 (xc b (uC d++rest) tyU) Tryz.func279 Z Tryz.ntmps279 (np Z) hB hr hC ?_;rw[xd];obtain⟨_,qj⟩:=gv (rest:=rest) (show p<d.size by omega) (0+(p)*1) rfl;obtain⟨_,qi⟩:=gv (rest:=rest) (show a<d.size by omega) (0+(a)*1) rfl;have s1:=vq (rest:=rest) d[p]! (show a<d.size by omega) (0+(a)*1) rfl;have b1:=vr (rest:=rest) (show a<d.size by omega) (0+(a)*1) rfl;have hz:p<(d.setIfInBounds (a) d[p]!).size:=by rw[zpi];omega
 have s2:=vq (rest:=rest) d[a]! hz (0+(p)*1) rfl;have b2:=vr (rest:=rest) hz (0+(p)*1) rfl;rw[fi] at s2;have hw1:IntKind.i64.wrap ((a:Int)+1)=((a+1:Nat):Int):=xb T T;obtain⟨e1,rfl⟩:∃ e1,e=e1+1:=⟨e-1,by omega⟩
 have hw2:IntKind.i64.wrap (((e1+1:Nat):Int)-1)=(e1:Int):=xb T T |>.trans T;obtain⟨R,hR⟩:∃ R,R=Go.Sort.partition lt d a (e1+1) p:=⟨_,rfl⟩
 rw[<-hR];have hR':=hR;unfold Go.Sort.partition at hR';have hDs:=wj d a p;refine(ZQ∘ZaY) ?_;refine qn (id:=1) [(200019,[900]),(200023,[900]),(100024,[900]),(100025,[900])] ko J ((Zp∘Zp∘ZX) ?_);refine qv (qh L (q:=900) Z Z Z qj) Z Z (ZX (h:=?_));refine qv (qh L (q:=900) Z Z Z qi) Z Z (Zq (h:=?_));refine xq (yl L (q:=900) Z Z b1 Z s1) Z (Zq (h:=?_));refine xq (yl L (q:=900) Z Z b2 Z s2) Z ((ZaV∘Zz∘ZC∘Za∘Zax∘ZaY∘Zar) ?_);generalize swp d a p=D at *;rw[zsg] at hR';dsimp only at hR';refine s6 (lw (fun i:Nat=>[(0,.is (.slice (some ⟨b,0,none⟩) m cap)),(1,.is (.int .i64 a)),(10,.is (.int .i64 i)),(11,.is (.int .i64 e1)),(900,.own (xu b (uC D++rest) tyU))]) (fun i=>(a+1)<=i/\i<=max (a+1) (e1+1)/\i=scanUp (fun x=>lt x D[a]!) D e1 (a+1)) (fun _=>[]) ?_) ?_
 rotate_left
 ·refine xp (fun i:Nat=>[(0,.is (.slice (some ⟨b,0,none⟩) m cap)),(1,.is (.int .i64 a)),(10,.is (.int .i64 i)),(11,.is (.int .i64 e1)),(900,.own (xu b (uC D++rest) tyU))]) (fun i=>(a+1)<=i/\i<=max (a+1) (e1+1)/\scanUp (fun x=>lt x D[a]!) D e1 i=scanUp (fun x=>lt x D[a]!) D e1 (a+1)) (fun i=>e1+1-i) (a+1) ⟨nu _,by omega,rfl⟩ ⟨Z,Z,Z,Z,Z,nm⟩ ?_;rintro i ⟨hi1,hi2,hi3⟩;by_cases hle:i<=e1
  ·obtain⟨_,qx⟩:=gv (rest:=rest) (show i<D.size by omega) (0+(i)*1) rfl;obtain⟨_,qa⟩:=gv (rest:=rest) (show a<D.size by omega) (0+(a)*1) rfl
   cases hc:lt D[i]! D[a]! with
   | true=>
    have hw:IntKind.i64.wrap ((i:Int)+1)=((i+1:Nat):Int):=xb T T;refine Zf (h:=?_);refine qn (id:=3) [(200037,[900]),(200041,[900])] ko J ((Zp∘Zdy∘Zbk∘Zq) ?_);refine qv (qh L (q:=900) Z Z Z qx) Z Z (ZX (h:=?_));refine qv (qh L (q:=900) Z Z Z qa) Z Z (z81 L Z (fun u H hH _=>jy hc hH) ?_);refine(ZbC∘Zc3∘Zar∘Z5∘ZC∘Zag) ?_;exact yo (x:=i) (i+1) ⟨by omega,by omega,by rw[<-hi3];exact(Ch hle (by simp [hc])).symm⟩ T ⟨Z,Z,Z,Z,Z,nm⟩
   | false=>
    refine Zf (h:=?_);refine qn (id:=3) [(200037,[900]),(200041,[900])] ko J ((Zp∘Zdy∘Zbk∘Zq) ?_);refine qv (qh L (q:=900) Z Z Z qx) Z Z (ZX (h:=?_));refine qv (qh L (q:=900) Z Z Z qa) Z Z (z81 L Z (fun u H hH _=>jy hc hH) ?_);refine(Zam∘ZaH) ?_;exact wd i nq ⟨hi1,hi2,by rw[<-hi3];exact(fq (by rintro⟨_,h⟩;simp [hc] at h)).symm⟩ rfl ⟨rfl,rfl,rfl,rfl,rfl,nm⟩
  ·refine(Zf∘ZcH∘Zp∘Zet∘ZbM∘Zer∘Zam∘ZaH) ?_;exact wd i nq ⟨hi1,hi2,by rw[<-hi3];exact(fq (by rintro⟨h,_⟩;exact hle h)).symm⟩ rfl ⟨rfl,rfl,rfl,rfl,rfl,nm⟩
 rintro I ⟨hI1,hI2,hI3⟩;refine zj (qo ?_);refine s6 (lw (fun i:Nat=>[(0,.is (.slice (some ⟨b,0,none⟩) m cap)),(1,.is (.int .i64 a)),(10,.is (.int .i64 I)),(11,.is (.int .i64 i)),(900,.own (xu b (uC D++rest) tyU))]) (fun i=>i<=e1/\min (I-1) e1<=i/\i=scanDown (fun x=>!lt x D[a]!) D I e1) (fun _=>[]) ?_) ?_
 rotate_left
 ·refine xp (fun i:Nat=>[(0,.is (.slice (some ⟨b,0,none⟩) m cap)),(1,.is (.int .i64 a)),(10,.is (.int .i64 I)),(11,.is (.int .i64 i)),(900,.own (xu b (uC D++rest) tyU))]) (fun i=>i<=e1/\min (I-1) e1<=i/\scanDown (fun x=>!lt x D[a]!) D I i=scanDown (fun x=>!lt x D[a]!) D I e1) (fun i=>i) e1 ⟨nu _,by omega,rfl⟩ ⟨Z,Z,Z,Z,Z,nm⟩ ?_;rintro i ⟨hi1,hi2,hi3⟩;by_cases hle:I<=i
  ·obtain⟨_,qx⟩:=gv (rest:=rest) (show i<D.size by omega) (0+(i)*1) rfl;obtain⟨_,qa⟩:=gv (rest:=rest) (show a<D.size by omega) (0+(a)*1) rfl
   cases hc:lt D[i]! D[a]! with
   | false=>
    obtain⟨i,rfl⟩:∃ k,i=k+1:=⟨i-1,by omega⟩
    have hw:IntKind.i64.wrap (((i+1:Nat):Int)-1)=(i:Int):=xb T T |>.trans T;refine(Zf∘Zfy∘Zp∘Zdy∘Zbk∘Zq) ?_;refine qv (qh L (q:=900) Z Z Z qx) Z Z (ZX (h:=?_));refine qv (qh L (q:=900) Z Z Z qa) Z Z (z81 L Z (fun u H hH _=>jy hc hH) ?_);refine(ZaG∘ZbC∘Zc3∘Zar∘ZL∘Zax∘Zag) ?_;exact yo (x:=i+1) i ⟨by omega,by omega,by rw[<-hi3];exact(oq hle (by simp [hc])).symm⟩ T ⟨Z,Z,Z,Z,Z,nm⟩
   | true=>
    refine(Zf∘Zfy∘Zp∘Zdy∘Zbk∘Zq) ?_;refine qv (qh L (q:=900) Z Z Z qx) Z Z (ZX (h:=?_));refine qv (qh L (q:=900) Z Z Z qa) Z Z (z81 L Z (fun u H hH _=>jy hc hH) ?_);refine(ZaG∘Zam∘ZaH) ?_;exact wd i nq ⟨hi1,hi2,by rw[<-hi3];exact(v9 (by rintro⟨_,h⟩;simp [hc] at h)).symm⟩ rfl ⟨rfl,rfl,rfl,rfl,rfl,nm⟩
  ·refine(Zf∘Ze8∘Zp∘Zet∘ZbM∘Zdx∘Zam∘ZaH) ?_;exact wd i nq ⟨hi1,hi2,by rw[<-hi3];exact(v9 (by rintro⟨h,_⟩;exact hle h)).symm⟩ rfl ⟨rfl,rfl,rfl,rfl,rfl,nm⟩
 rintro zsy ⟨hJ1,hJ2,hJ3⟩;rw[<-hI3,<-hJ3] at hR';by_cases hIJ:zsy<I
 ·rw[na hIJ] at hR';subst hR';obtain⟨_,qj⟩:=gv (rest:=rest) (show a<D.size by omega) (0+(a)*1) rfl;obtain⟨_,qi⟩:=gv (rest:=rest) (show zsy<D.size by omega) (0+(zsy)*1) rfl;have s1:=vq (rest:=rest) D[a]! (show zsy<D.size by omega) (0+(zsy)*1) rfl;have b1:=vr (rest:=rest) (show zsy<D.size by omega) (0+(zsy)*1) rfl;have hz:a<(D.setIfInBounds (zsy) D[a]!).size:=by rw[zpi];omega
  have s2:=vq (rest:=rest) D[zsy]! hz (0+(a)*1) rfl;have b2:=vr (rest:=rest) hz (0+(a)*1) rfl;rw[fi] at s2;refine(Zf∘Zcc∘ZP∘Zn) ?_;refine qn (id:=8) [(200073,[900]),(200077,[900]),(100078,[900]),(100079,[900])] ko J ((Zp∘Zp∘ZX) ?_);refine qv (qh L (q:=900) Z Z Z qj) Z Z (ZX (h:=?_));refine qv (qh L (q:=900) Z Z Z qi) Z Z (Zq (h:=?_));refine xq (yl L (q:=900) Z Z b1 Z s1) Z (Zq (h:=?_));refine xq (yl L (q:=900) Z Z b2 Z s2) Z ((ZaV∘Zaq∘ZI) ?_);exact ke L 900 (r:=xc b _ tyU) (rs:=[.tmp 8,.tmp 9]) Z (fun _ _ h=>h) nq Z Z (fun _=>rfl)
 ·rw[nc hIJ] at hR';have hw3:IntKind.i64.wrap ((I:Int)+1)=((I+1:Nat):Int):=xb T T;have hw4:IntKind.i64.wrap ((zsy:Int)-1)=((zsy-1:Nat):Int):=xb T T |>.trans T;obtain⟨_,qj⟩:=gv (rest:=rest) (show zsy<D.size by omega) (0+(zsy)*1) rfl;obtain⟨_,qi⟩:=gv (rest:=rest) (show I<D.size by omega) (0+(I)*1) rfl;have s1:=vq (rest:=rest) D[zsy]! (show I<D.size by omega) (0+(I)*1) rfl;have b1:=vr (rest:=rest) (show I<D.size by omega) (0+(I)*1) rfl;have hz:zsy<(D.setIfInBounds (I) D[zsy]!).size:=by rw[zpi];omega
  have s2:=vq (rest:=rest) D[I]! hz (0+(zsy)*1) rfl;have b2:=vr (rest:=rest) hz (0+(zsy)*1) rfl;rw[fi] at s2;have hEs:=wj D I zsy;refine(Zf∘Zcc∘ZM∘Zx) ?_;refine qn (id:=10) [(200088,[900]),(200092,[900]),(100093,[900]),(100094,[900])] ko J ((Zp∘Zp∘ZX) ?_);refine qv (qh L (q:=900) Z Z Z qj) Z Z (ZX (h:=?_));refine qv (qh L (q:=900) Z Z Z qi) Z Z (Zq (h:=?_));refine xq (yl L (q:=900) Z Z b1 Z s1) Z (Zq (h:=?_));refine xq (yl L (q:=900) Z Z b2 Z s2) Z ((ZaV∘ZG∘Za∘ZC∘Zd∘ZJ∘Za∘Zax∘Zd∘Zar) ?_);generalize swp D I zsy=zsz at *;obtain⟨X,hX⟩:∃ X,X=partLoop lt a (I+1) (zsy-1) zsz:=⟨_,rfl⟩
  rw[<-hX] at hR';refine s6 (lw (fun s:Nat×Array Int=>[(0,.is (.slice (some ⟨b,0,none⟩) m cap)),(1,.is (.int .i64 a)),(11,.is (.int .i64 s.1)),(900,.own (xu b (uC s.2++rest) tyU))]) (fun s=>s.2.size=m/\a<=s.1/\s.1<=e1/\s=X) (fun _=>[]) ?_) ?_
  rotate_left
  ·refine xp (fun s:(Nat×Nat)×Array Int=>[(0,.is (.slice (some ⟨b,0,none⟩) m cap)),(1,.is (.int .i64 a)),(10,.is (.int .i64 s.1.1)),(11,.is (.int .i64 s.1.2)),(900,.own (xu b (uC s.2++rest) tyU))]) (fun s=>s.2.size=m/\a+1<=s.1.1/\s.1.1<=e1+1/\a<=s.1.2/\s.1.2<=e1/\partLoop lt a s.1.1 s.1.2 s.2=X) (fun s=>s.1.2+1-s.1.1) ((I+1,zsy-1),zsz) ⟨by dsimp only;omega,by dsimp only;omega,by dsimp only;omega,by dsimp only;omega,by dsimp only;omega,hX.symm⟩ ⟨Z,Z,Z,Z,Z,trivial⟩ ?_;rintro⟨⟨i0,j0⟩,zs2⟩ ⟨hG,hi1,hi2,hj1,hj2,hL⟩;dsimp only at hG hi1 hi2 hj1 hj2 hL |-;rw[partLoop] at hL;clear hX hR' hEs hIJ hI3 hJ3;refine qo (zj (qo ?_));refine s6 (lw (fun i:Nat=>[(0,.is (.slice (some ⟨b,0,none⟩) m cap)),(1,.is (.int .i64 a)),(10,.is (.int .i64 i)),(11,.is (.int .i64 j0)),(900,.own (xu b (uC zs2++rest) tyU))]) (fun i=>i0<=i/\i<=max i0 (j0+1)/\i=scanUp (fun x=>lt x zs2[a]!) zs2 j0 i0) (fun _=>[]) ?_) ?_
   rotate_left
   ·refine xp (fun i:Nat=>[(0,.is (.slice (some ⟨b,0,none⟩) m cap)),(1,.is (.int .i64 a)),(10,.is (.int .i64 i)),(11,.is (.int .i64 j0)),(900,.own (xu b (uC zs2++rest) tyU))]) (fun i=>i0<=i/\i<=max i0 (j0+1)/\scanUp (fun x=>lt x zs2[a]!) zs2 j0 i=scanUp (fun x=>lt x zs2[a]!) zs2 j0 i0) (fun i=>j0+1-i) i0 ⟨nu _,by omega,rfl⟩ ⟨Z,Z,Z,Z,Z,nm⟩ ?_;rintro i ⟨hi1,hi2,hi3⟩;by_cases hle:i<=j0
    ·obtain⟨_,qx⟩:=gv (rest:=rest) (show i<zs2.size by omega) (0+(i)*1) rfl;obtain⟨_,qa⟩:=gv (rest:=rest) (show a<zs2.size by omega) (0+(a)*1) rfl
     cases hc:lt zs2[i]! zs2[a]! with
     | true=>
      have hw:IntKind.i64.wrap ((i:Int)+1)=((i+1:Nat):Int):=xb T T;refine Zf (h:=?_);refine qn (id:=13) [(200106,[900]),(200110,[900])] ko J ((Zp∘Zdy∘Zbk∘Zq) ?_);refine qv (qh L (q:=900) Z Z Z qx) Z Z (ZX (h:=?_));refine qv (qh L (q:=900) Z Z Z qa) Z Z (z81 L Z (fun u H hH _=>jy hc hH) ?_);refine(ZbC∘Zc3∘Zar∘ZbL∘ZC∘Zag) ?_;exact yo (x:=i) (i+1) ⟨by omega,by omega,by rw[<-hi3];exact(Ch hle (by simp [hc])).symm⟩ T ⟨Z,Z,Z,Z,Z,nm⟩
     | false=>
      refine Zf (h:=?_);refine qn (id:=13) [(200106,[900]),(200110,[900])] ko J ((Zp∘Zdy∘Zbk∘Zq) ?_);refine qv (qh L (q:=900) Z Z Z qx) Z Z (ZX (h:=?_));refine qv (qh L (q:=900) Z Z Z qa) Z Z (z81 L Z (fun u H hH _=>jy hc hH) ?_);refine(Zam∘ZaH) ?_;exact wd i nq ⟨hi1,hi2,by rw[<-hi3];exact(fq (by rintro⟨_,h⟩;simp [hc] at h)).symm⟩ rfl ⟨rfl,rfl,rfl,rfl,rfl,nm⟩
    ·refine(Zf∘Ze7∘Zp∘Zet∘ZbM∘Zer∘Zam∘ZaH) ?_;exact wd i nq ⟨hi1,hi2,by rw[<-hi3];exact(fq (by rintro⟨h,_⟩;exact hle h)).symm⟩ rfl ⟨rfl,rfl,rfl,rfl,rfl,nm⟩
   rintro K ⟨hK1,hK2,hK3⟩;refine zj (qo ?_);refine s6 (lw (fun i:Nat=>[(0,.is (.slice (some ⟨b,0,none⟩) m cap)),(1,.is (.int .i64 a)),(10,.is (.int .i64 K)),(11,.is (.int .i64 i)),(900,.own (xu b (uC zs2++rest) tyU))]) (fun i=>i<=j0/\min (K-1) j0<=i/\i=scanDown (fun x=>!lt x zs2[a]!) zs2 K j0) (fun _=>[]) ?_) ?_
   rotate_left
   ·refine xp (fun i:Nat=>[(0,.is (.slice (some ⟨b,0,none⟩) m cap)),(1,.is (.int .i64 a)),(10,.is (.int .i64 K)),(11,.is (.int .i64 i)),(900,.own (xu b (uC zs2++rest) tyU))]) (fun i=>i<=j0/\min (K-1) j0<=i/\scanDown (fun x=>!lt x zs2[a]!) zs2 K i=scanDown (fun x=>!lt x zs2[a]!) zs2 K j0) (fun i=>i) j0 ⟨nu _,by omega,rfl⟩ ⟨Z,Z,Z,Z,Z,nm⟩ ?_;rintro i ⟨hi1,hi2,hi3⟩;by_cases hle:K<=i
    ·obtain⟨_,qx⟩:=gv (rest:=rest) (show i<zs2.size by omega) (0+(i)*1) rfl;obtain⟨_,qa⟩:=gv (rest:=rest) (show a<zs2.size by omega) (0+(a)*1) rfl
     cases hc:lt zs2[i]! zs2[a]! with
     | false=>
      obtain⟨i,rfl⟩:∃ k,i=k+1:=⟨i-1,by omega⟩
      have hw:IntKind.i64.wrap (((i+1:Nat):Int)-1)=(i:Int):=xb T T |>.trans T;refine Zf (h:=?_);refine qn (id:=15) [(200122,[900]),(200126,[900])] ko J ((Zp∘Zdy∘Zbk∘Zq) ?_);refine qv (qh L (q:=900) Z Z Z qx) Z Z (ZX (h:=?_));refine qv (qh L (q:=900) Z Z Z qa) Z Z (z81 L Z (fun u H hH _=>jy hc hH) ?_);refine(ZaG∘ZbC∘Zc3∘Zar∘Zaj∘Za∘Zax∘Zag) ?_;exact yo (x:=i+1) i ⟨by omega,by omega,by rw[<-hi3];exact(oq hle (by simp [hc])).symm⟩ T ⟨Z,Z,Z,Z,Z,nm⟩
     | true=>
      refine Zf (h:=?_);refine qn (id:=15) [(200122,[900]),(200126,[900])] ko J ((Zp∘Zdy∘Zbk∘Zq) ?_);refine qv (qh L (q:=900) Z Z Z qx) Z Z (ZX (h:=?_));refine qv (qh L (q:=900) Z Z Z qa) Z Z (z81 L Z (fun u H hH _=>jy hc hH) ?_);refine(ZaG∘Zam∘ZaH) ?_;exact wd i nq ⟨hi1,hi2,by rw[<-hi3];exact(v9 (by rintro⟨_,h⟩;simp [hc] at h)).symm⟩ rfl ⟨rfl,rfl,rfl,rfl,rfl,nm⟩
    ·refine Zf (h:=?_);refine qn (id:=15) [] ko J ((Zp∘Zet∘ZbM∘Zdx∘Zam∘ZaH) ?_);exact wd i nq ⟨hi1,hi2,by rw[<-hi3];exact(v9 (by rintro⟨h,_⟩;exact hle h)).symm⟩ rfl ⟨rfl,rfl,rfl,rfl,rfl,nm⟩
   rintro zs1 ⟨hM1,hM2,hM3⟩;rw[<-hK3,<-hM3] at hL;by_cases hKM:zs1<K
   ·rw[na hKM] at hL;refine(Zf∘Zbx∘Zb∘ZP∘Z3∘Ze2∘Zeb∘Zd2) ?_;exact wd (zs1,zs2) Since.refl ⟨hG,by dsimp only;omega,by dsimp only;omega,hL⟩ Z ⟨Z,Z,Z,Z,trivial⟩
   ·rw[nc hKM,dif_pos T] at hL;have hw5:IntKind.i64.wrap ((K:Int)+1)=((K+1:Nat):Int):=xb T T;have hw6:IntKind.i64.wrap ((zs1:Int)-1)=((zs1-1:Nat):Int):=xb T T |>.trans T;have hGs:=wj zs2 K zs1;obtain⟨_,qj⟩:=gv (rest:=rest) (show zs1<zs2.size by omega) (0+(zs1)*1) rfl;obtain⟨_,qi⟩:=gv (rest:=rest) (show K<zs2.size by omega) (0+(K)*1) rfl;have s1:=vq (rest:=rest) zs2[zs1]! (show K<zs2.size by omega) (0+(K)*1) rfl;have b1:=vr (rest:=rest) (show K<zs2.size by omega) (0+(K)*1) rfl;have hz:zs1<(zs2.setIfInBounds (K) zs2[zs1]!).size:=by rw[zpi];omega
    have s2:=vq (rest:=rest) zs2[K]! hz (0+(zs1)*1) rfl;have b2:=vr (rest:=rest) hz (0+(zs1)*1) rfl;rw[fi] at s2;refine(Zf∘Zbx∘Zb∘ZM∘Zx) ?_;refine qn (id:=18) [(200142,[900]),(200146,[900]),(100147,[900]),(100148,[900])] ko J ((Zp∘Zp∘ZX) ?_);refine qv (qh L (q:=900) Z Z Z qj) Z Z (ZX (h:=?_));refine qv (qh L (q:=900) Z Z Z qi) Z Z (Zq (h:=?_));refine xq (yl L (q:=900) Z Z b1 Z s1) Z (Zq (h:=?_));refine xq (yl L (q:=900) Z Z b2 Z s2) Z ((ZaV∘Zcs∘Za∘ZC∘Zc∘ZaP∘Za∘Zax∘Zag) ?_);exact yo (x:=((i0,j0),zs2)) ((K+1,zs1-1),swp zs2 K zs1) ⟨by dsimp only;omega,by dsimp only;omega,by dsimp only;omega,by dsimp only;omega,by dsimp only;omega,hL⟩ G ⟨Z,Z,Z,Z,Z,trivial⟩
  ·rintro⟨J2,zs2⟩ ⟨hG,hj1,hj2,hL⟩;dsimp only at hG hj1 hj2 |-;rw[<-hL] at hR';dsimp only at hR';subst hR';obtain⟨_,qj⟩:=gv (rest:=rest) (show a<zs2.size by omega) (0+(a)*1) rfl;obtain⟨_,qi⟩:=gv (rest:=rest) (show J2<zs2.size by omega) (0+(J2)*1) rfl;have s1:=vq (rest:=rest) zs2[a]! (show J2<zs2.size by omega) (0+(J2)*1) rfl;have b1:=vr (rest:=rest) (show J2<zs2.size by omega) (0+(J2)*1) rfl;have hz:a<(zs2.setIfInBounds (J2) zs2[a]!).size:=by rw[zpi];omega
   have s2:=vq (rest:=rest) zs2[J2]! hz (0+(a)*1) rfl;have b2:=vr (rest:=rest) hz (0+(a)*1) rfl;rw[fi] at s2;refine Ze (h:=?_);refine qn (id:=21) [(200160,[900]),(200164,[900]),(100165,[900]),(100166,[900])] ko J ((Zp∘Zp∘ZX) ?_);refine qv (qh L (q:=900) Z Z Z qj) Z Z (ZX (h:=?_));refine qv (qh L (q:=900) Z Z Z qi) Z Z (Zq (h:=?_));refine xq (yl L (q:=900) Z Z b1 Z s1) Z (Zq (h:=?_));refine xq (yl L (q:=900) Z Z b2 Z s2) Z ((ZaV∘Zd0∘Za∘ZI) ?_);exact ke L 900 (r:=xc b _ tyU) (rs:=[.tmp 8,.tmp 9]) Z (fun _ _ h=>h) nq Z Z (fun _=>rfl)
def zgu{b m cap a e p:Nat}(hap:a<=p)(hpe:p<e)(he:e<=d.size)(hm:d.size=m)(hm1:m<=100000)(hB:zs4 B w)
  (hr:(xc b (uC d++rest) tyU).P B w C) (hC:ZCB C w B):
  RetX zs5 278 [.slice (some ⟨b,0,none⟩) m cap,.int .i64 a,.int .i64 e,.int .i64 p] w B C (xc b (uC (partitionEqual lt d a e p).2++rest) tyU) (.int .i64 (partitionEqual lt d a e p).1):=by
 unfold RetX;refine xf 900 (xc b (uC d++rest) tyU) Tryz.func278 Z Tryz.ntmps278 (np Z) hB hr hC ?_;rw[xd];obtain⟨_,qj⟩:=gv (rest:=rest) (show p<d.size by omega) (0+(p)*1) rfl;obtain⟨_,qi⟩:=gv (rest:=rest) (show a<d.size by omega) (0+(a)*1) rfl;have s1:=vq (rest:=rest) d[p]! (show a<d.size by omega) (0+(a)*1) rfl;have b1:=vr (rest:=rest) (show a<d.size by omega) (0+(a)*1) rfl;have hz:p<(d.setIfInBounds (a) d[p]!).size:=by rw[zpi];omega
 have s2:=vq (rest:=rest) d[a]! hz (0+(p)*1) rfl;have b2:=vr (rest:=rest) hz (0+(p)*1) rfl;rw[fi] at s2;have hw1:IntKind.i64.wrap ((a:Int)+1)=((a+1:Nat):Int):=xb T T;obtain⟨e1,rfl⟩:∃ e1,e=e1+1:=⟨e-1,by omega⟩
 have hw2:IntKind.i64.wrap (((e1+1:Nat):Int)-1)=(e1:Int):=xb T T |>.trans T;obtain⟨X,hX⟩:∃ X,X=partitionEqual lt d a (e1+1) p:=⟨_,rfl⟩
 rw[<-hX];have hR':=hX;unfold partitionEqual at hR';rw[zsg] at hR';have hDs:=wj d a p;refine(ZQ∘Zd) ?_;refine qn (id:=1) [(200018,[900]),(200022,[900]),(100023,[900]),(100024,[900])] ko J ((Zp∘Zp∘ZX) ?_);refine qv (qh L (q:=900) Z Z Z qj) Z Z (ZX (h:=?_));refine qv (qh L (q:=900) Z Z Z qi) Z Z (Zq (h:=?_));refine xq (yl L (q:=900) Z Z b1 Z s1) Z (Zq (h:=?_));refine xq (yl L (q:=900) Z Z b2 Z s2) Z ((ZaV∘Zz∘ZC∘Za∘Zax∘ZaY∘Zar) ?_);generalize swp d a p=D at *;refine s6 (lw (fun s:Nat×Array Int=>[(9,.is (.int .i64 s.1)),(900,.own (xu b (uC s.2++rest) tyU))]) (fun s=>s.2.size=m/\s=X) (fun _=>[]) ?_) ?_
 rotate_left
 ·refine xp (fun s:(Nat×Nat)×Array Int=>[(0,.is (.slice (some ⟨b,0,none⟩) m cap)),(1,.is (.int .i64 a)),(9,.is (.int .i64 s.1.1)),(10,.is (.int .i64 s.1.2)),(900,.own (xu b (uC s.2++rest) tyU))]) (fun s=>s.2.size=m/\a+1<=s.1.1/\s.1.1<=e1+1/\a<=s.1.2/\s.1.2<=e1/\partEqLoop lt a s.1.1 s.1.2 s.2=X) (fun s=>s.1.2+1-s.1.1) ((a+1,e1),D) ⟨by dsimp only;omega,by dsimp only;omega,by dsimp only;omega,by dsimp only;omega,by dsimp only;omega,hR'.symm⟩ ⟨Z,Z,Z,Z,Z,trivial⟩ ?_;rintro⟨⟨i0,j0⟩,zs2⟩ ⟨hG,hi1,hi2,hj1,hj2,hL⟩;dsimp only at hG hi1 hi2 hj1 hj2 hL |-;rw[partEqLoop] at hL;clear hX hR' hDs;refine qo (zj (qo ?_));refine s6 (lw (fun i:Nat=>[(0,.is (.slice (some ⟨b,0,none⟩) m cap)),(1,.is (.int .i64 a)),(9,.is (.int .i64 i)),(10,.is (.int .i64 j0)),(900,.own (xu b (uC zs2++rest) tyU))]) (fun i=>i0<=i/\i<=max i0 (j0+1)/\i=scanUp (fun x=>!lt zs2[a]! x) zs2 j0 i0) (fun _=>[]) ?_) ?_
  rotate_left
  ·refine xp (fun i:Nat=>[(0,.is (.slice (some ⟨b,0,none⟩) m cap)),(1,.is (.int .i64 a)),(9,.is (.int .i64 i)),(10,.is (.int .i64 j0)),(900,.own (xu b (uC zs2++rest) tyU))]) (fun i=>i0<=i/\i<=max i0 (j0+1)/\scanUp (fun x=>!lt zs2[a]! x) zs2 j0 i=scanUp (fun x=>!lt zs2[a]! x) zs2 j0 i0) (fun i=>j0+1-i) i0 ⟨nu _,by omega,rfl⟩ ⟨Z,Z,Z,Z,Z,nm⟩ ?_;rintro i ⟨hi1,hi2,hi3⟩;by_cases hle:i<=j0
   ·obtain⟨_,qx⟩:=gv (rest:=rest) (show i<zs2.size by omega) (0+(i)*1) rfl;obtain⟨_,qa⟩:=gv (rest:=rest) (show a<zs2.size by omega) (0+(a)*1) rfl
    cases hc:lt zs2[a]! zs2[i]! with
    | false=>
     have hw:IntKind.i64.wrap ((i:Int)+1)=((i+1:Nat):Int):=xb T T;refine Zf (h:=?_);refine qn (id:=3) [(200036,[900]),(200040,[900])] ko J ((Zp∘Zdy∘Zbk∘Zq) ?_);refine qv (qh L (q:=900) Z Z Z qa) Z Z (ZX (h:=?_));refine qv (qh L (q:=900) Z Z Z qx) Z Z (z81 L Z (fun u H hH _=>jy hc hH) ?_);refine(ZaG∘ZbC∘Zc3∘Zar∘Z5∘ZC∘Zag) ?_;exact yo (x:=i) (i+1) ⟨by omega,by omega,by rw[<-hi3];exact(Ch hle (by simp [hc])).symm⟩ T ⟨Z,Z,Z,Z,Z,nm⟩
    | true=>
     refine Zf (h:=?_);refine qn (id:=3) [(200036,[900]),(200040,[900])] ko J ((Zp∘Zdy∘Zbk∘Zq) ?_);refine qv (qh L (q:=900) Z Z Z qa) Z Z (ZX (h:=?_));refine qv (qh L (q:=900) Z Z Z qx) Z Z (z81 L Z (fun u H hH _=>jy hc hH) ?_);refine(ZaG∘Zam∘ZaH) ?_;exact wd i nq ⟨hi1,hi2,by rw[<-hi3];exact(fq (by rintro⟨_,h⟩;simp [hc] at h)).symm⟩ rfl ⟨rfl,rfl,rfl,rfl,rfl,nm⟩
   ·refine(Zf∘ZcH∘Zp∘Zet∘ZbM∘Zdx∘Zam∘ZaH) ?_;exact wd i nq ⟨hi1,hi2,by rw[<-hi3];exact(fq (by rintro⟨h,_⟩;exact hle h)).symm⟩ rfl ⟨rfl,rfl,rfl,rfl,rfl,nm⟩
  rintro K ⟨hK1,hK2,hK3⟩;refine zj (qo ?_);refine s6 (lw (fun i:Nat=>[(0,.is (.slice (some ⟨b,0,none⟩) m cap)),(1,.is (.int .i64 a)),(9,.is (.int .i64 K)),(10,.is (.int .i64 i)),(900,.own (xu b (uC zs2++rest) tyU))]) (fun i=>i<=j0/\min (K-1) j0<=i/\i=scanDown (fun x=>lt zs2[a]! x) zs2 K j0) (fun _=>[]) ?_) ?_
  rotate_left
  ·refine xp (fun i:Nat=>[(0,.is (.slice (some ⟨b,0,none⟩) m cap)),(1,.is (.int .i64 a)),(9,.is (.int .i64 K)),(10,.is (.int .i64 i)),(900,.own (xu b (uC zs2++rest) tyU))]) (fun i=>i<=j0/\min (K-1) j0<=i/\scanDown (fun x=>lt zs2[a]! x) zs2 K i=scanDown (fun x=>lt zs2[a]! x) zs2 K j0) (fun i=>i) j0 ⟨nu _,by omega,rfl⟩ ⟨Z,Z,Z,Z,Z,nm⟩ ?_;rintro i ⟨hi1,hi2,hi3⟩;by_cases hle:K<=i
   ·obtain⟨_,qx⟩:=gv (rest:=rest) (show i<zs2.size by omega) (0+(i)*1) rfl;obtain⟨_,qa⟩:=gv (rest:=rest) (show a<zs2.size by omega) (0+(a)*1) rfl
    cases hc:lt zs2[a]! zs2[i]! with
    | true=>
     obtain⟨i,rfl⟩:∃ k,i=k+1:=⟨i-1,by omega⟩
     have hw:IntKind.i64.wrap (((i+1:Nat):Int)-1)=(i:Int):=xb T T |>.trans T;refine(Zf∘Zfy∘Zp∘Zdy∘Zbk∘Zq) ?_;refine qv (qh L (q:=900) Z Z Z qa) Z Z (ZX (h:=?_));refine qv (qh L (q:=900) Z Z Z qx) Z Z (z81 L Z (fun u H hH _=>jy hc hH) ?_);refine(ZbC∘Zc3∘Zar∘ZL∘Zax∘Zag) ?_;exact yo (x:=i+1) i ⟨by omega,by omega,by rw[<-hi3];exact(oq hle (by simp [hc])).symm⟩ T ⟨Z,Z,Z,Z,Z,nm⟩
    | false=>
     refine(Zf∘Zfy∘Zp∘Zdy∘Zbk∘Zq) ?_;refine qv (qh L (q:=900) Z Z Z qa) Z Z (ZX (h:=?_));refine qv (qh L (q:=900) Z Z Z qx) Z Z (z81 L Z (fun u H hH _=>jy hc hH) ?_);refine(Zam∘ZaH) ?_;exact wd i nq ⟨hi1,hi2,by rw[<-hi3];exact(v9 (by rintro⟨_,h⟩;simp [hc] at h)).symm⟩ rfl ⟨rfl,rfl,rfl,rfl,rfl,nm⟩
   ·refine(Zf∘Ze8∘Zp∘Zet∘ZbM∘Zer∘Zam∘ZaH) ?_;exact wd i nq ⟨hi1,hi2,by rw[<-hi3];exact(v9 (by rintro⟨h,_⟩;exact hle h)).symm⟩ rfl ⟨rfl,rfl,rfl,rfl,rfl,nm⟩
  rintro zs1 ⟨hM1,hM2,hM3⟩;rw[<-hK3,<-hM3] at hL;by_cases hKM:zs1<K
  ·rw[na hKM] at hL;refine(Zf∘Zcc∘ZP∘Z3∘Ze2∘Zeb∘Zd2) ?_;exact wd (K,zs2) nq ⟨hG,hL⟩ Z ⟨Z,Z,nm⟩
  ·rw[nc hKM,dif_pos T] at hL;have hw5:IntKind.i64.wrap ((K:Int)+1)=((K+1:Nat):Int):=xb T T;have hw6:IntKind.i64.wrap ((zs1:Int)-1)=((zs1-1:Nat):Int):=xb T T |>.trans T;have hGs:=wj zs2 K zs1;obtain⟨_,qj⟩:=gv (rest:=rest) (show zs1<zs2.size by omega) (0+(zs1)*1) rfl;obtain⟨_,qi⟩:=gv (rest:=rest) (show K<zs2.size by omega) (0+(K)*1) rfl;have s1:=vq (rest:=rest) zs2[zs1]! (show K<zs2.size by omega) (0+(K)*1) rfl;have b1:=vr (rest:=rest) (show K<zs2.size by omega) (0+(K)*1) rfl;have hz:zs1<(zs2.setIfInBounds (K) zs2[zs1]!).size:=by rw[zpi];omega
   have s2:=vq (rest:=rest) zs2[K]! hz (0+(zs1)*1) rfl;have b2:=vr (rest:=rest) hz (0+(zs1)*1) rfl;rw[fi] at s2;refine(Zf∘Zcc∘ZM∘Zx) ?_;refine qn (id:=8) [(200072,[900]),(200076,[900]),(100077,[900]),(100078,[900])] ko J ((Zp∘Zp∘ZX) ?_);refine qv (qh L (q:=900) Z Z Z qj) Z Z (ZX (h:=?_));refine qv (qh L (q:=900) Z Z Z qi) Z Z (Zq (h:=?_));refine xq (yl L (q:=900) Z Z b1 Z s1) Z (Zq (h:=?_));refine xq (yl L (q:=900) Z Z b2 Z s2) Z ((ZaV∘Zaq∘ZC∘Zc∘Z4∘Za∘Zax∘Zag) ?_);exact yo (x:=((i0,j0),zs2)) ((K+1,zs1-1),swp zs2 K zs1) ⟨by dsimp only;omega,by dsimp only;omega,by dsimp only;omega,by dsimp only;omega,by dsimp only;omega,hL⟩ G ⟨Z,Z,Z,Z,Z,trivial⟩
 ·rintro⟨K,zs2⟩ ⟨hG,hL⟩;dsimp only at hG |-;rw[<-hL];refine(Ze∘ZG∘Za∘Zc) ?_;exact ke L 900 (r:=xc b _ tyU) (rs:=[.tmp 8]) Z (fun _ _ h=>h) nq Z Z (fun _=>rfl)
end Go.V.So
end
end
