/- Texts, part 5. -/
import Derived.Test.YtooecmiihjampaaGreatTopReadM4
import Derived.Sort.Walk7
import Derived.Sort.Walk13
import Derived.Lib.IndexAny
set_option linter.unusedVariables false
set_option linter.unusedSimpArgs false
set_option maxRecDepth 20000
set_option maxHeartbeats 8000000
set_option linter.defProp false
open Go.Proofs Go.RowKit
section
variable{d:Array Int}{a b bs cap e hi i j k lo m mid mm n t:Nat}{rest:List Go.Value}{w:Go.World}{B:Go.V.Heap}{C:Nat->Prop}{x y:ByteArray}{P cs made:List Go.V.L8.CH}{ty:Go.TypeId}{l:List (Int×Int)}{L0:List Int}{r:Int}{s sv v:Go.Value}{f fu:Bool}{R:List (Option (List Go.V.L2.U))}{α:Type}{S:Go.V.L10.Sto}{O:Go.V.Boxes}{zs3:Go.Exit->Go.Act->Go.World->Prop}{o:Go.Oper}{ps:List (Nat×Nat)}{A Y:Prop}
section
open Go.V
attribute [local irreducible] Has N Par Ret RetL RetO RetX Src StepOK V VO X kz
namespace Go.V.So
open Go.Sort
def _root_.ZdO(t:Wr Y->A:=by intro h;refine ze (id:=24) ?_;exact h.1)(h:Y):A:=t ⟨h⟩
def _root_.ZaQ(t:Wr Y->A:=by exact fun h=>(Zb∘Zax) h.1)(h:Y):A:=t ⟨h⟩
def ep(h:¬ (i<e/\lt d[i]! d[i-1]! =false)):scanSorted lt d e i=i:=by
 rw[scanSorted,nc];simpa using h
def F9(h1:i<e)(h2:lt d[i]! d[i-1]! =false):scanSorted lt d e i=scanSorted lt d e (i+1):=by
 rw[scanSorted,na (by simp [h1,h2])]
def pins_ret{b m cap a e:Nat}(hab:a<e)(he:e<=d.size)(hm:d.size=m)(hm1:m<=100000)(hB:zs4 B w)
  (hr:(xc b (uC d++rest) tyU).P B w C) (hC:ZCB C w B):
  RetX zs5 276 [.slice (some ⟨b,0,none⟩) m cap,.int .i64 a,.int .i64 e] w B C (xc b (uC (partialInsertionSort lt d a e).1++rest) tyU) (.bool (partialInsertionSort lt d a e).2):=by
 unfold RetX;refine xf 900 (xc b (uC d++rest) tyU) Tryz.func276 Z Tryz.ntmps276 (np Z) hB hr hC ?_;rw[xd];have hw1:IntKind.i64.wrap ((a:Int)+1)=((a+1:Nat):Int):=xb T T;have hw2:IntKind.i64.wrap ((e:Int)-(a:Int))=((e-a:Nat):Int):=xb T T |>.trans T;obtain⟨X,hX⟩:∃ X,X=partialInsertionSort lt d a e:=⟨_,rfl⟩
 rw[<-hX];unfold partialInsertionSort at hX;refine(Zc2∘ZC∘Zk∘Zv∘ZaX) ?_;refine xp (fun s:(Nat×Nat)×Array Int=>[(0,.is (.slice (some ⟨b,0,none⟩) m cap)),(1,.is (.int .i64 a)),(2,.is (.int .i64 e)),(7,.is (.int .i64 s.1.2)),(8,.is (.int .i64 s.1.1)),(900,.own (xu b (uC s.2++rest) tyU))]) (fun s=>s.1.1<=5/\a+1<=s.1.2/\s.1.2<=e/\s.2.size=m/\partialIns lt a e (5-s.1.1) s.1.2 s.2=X) (fun s=>5-s.1.1) ((0,a+1),d) ⟨by dsimp only;omega,by dsimp only;omega,by dsimp only;omega,hm,hX.symm⟩ ⟨Z,Z,Z,Z,Z,Z,trivial⟩ ?_;rintro⟨⟨k,i0⟩,D⟩ ⟨hk,hi1,hi2,hD,hL⟩;dsimp only at hk hi1 hi2 hD hL |-;clear hX;by_cases hk5:k<5
 ·obtain⟨s,hs⟩:∃ s,5-k=s+1:=⟨5-k-1,by omega⟩
  have hs':5-(k+1)=s:=T;rw[hs,partialIns] at hL;dsimp only at hL;refine(Zf∘Zr∘ZbJ∘Zar) ?_;refine s6 (lw (fun i:Nat=>[(0,.is (.slice (some ⟨b,0,none⟩) m cap)),(1,.is (.int .i64 a)),(2,.is (.int .i64 e)),(7,.is (.int .i64 i)),(8,.is (.int .i64 k)),(900,.own (xu b (uC D++rest) tyU))]) (fun i=>a+1<=i/\i<=e/\i=scanSorted lt D e i0) (fun _=>[]) ?_) ?_
  rotate_left
  ·refine xp (fun i:Nat=>[(0,.is (.slice (some ⟨b,0,none⟩) m cap)),(1,.is (.int .i64 a)),(2,.is (.int .i64 e)),(7,.is (.int .i64 i)),(8,.is (.int .i64 k)),(900,.own (xu b (uC D++rest) tyU))]) (fun i=>a+1<=i/\i<=e/\scanSorted lt D e i=scanSorted lt D e i0) (fun i=>e-i) i0 ⟨hi1,hi2,rfl⟩ ⟨Z,Z,Z,Z,Z,Z,nm⟩ ?_;rintro i ⟨h1,h2,h3⟩;by_cases hle:i<e
   ·obtain⟨_,q1⟩:=gv (rest:=rest) (show i<D.size by omega) (0+(i)*1) rfl;obtain⟨_,q2⟩:=gv (rest:=rest) (show i-1<D.size by omega) (0+(i-1)*1) rfl;have hw3:IntKind.i64.wrap ((i:Int)-1)=((i-1:Nat):Int):=xb T T |>.trans T
    cases hc:lt D[i]! D[i-1]! with
    | false=>
     have hw4:IntKind.i64.wrap ((i:Int)+1)=((i+1:Nat):Int):=xb T T;refine Zf (h:=?_);refine qn (id:=5) [(200024,[900]),(200029,[900])] ko J ((Zp∘ZcD∘Zbk∘Zq) ?_);refine qv (qh L (q:=900) Z Z Z q1) Z Z ((ZbQ∘Zq) ?_);refine qv (qh L (q:=900) Z Z Z q2) Z Z (z81 L Z (fun u H hH _=>jy hc hH) ?_);refine(ZaG∘ZbC∘Zc3∘Zar∘ZL∘ZC∘Zag) ?_;exact yo (x:=i) (i+1) ⟨by omega,by omega,by rw[<-h3];exact(F9 hle hc).symm⟩ T ⟨Z,Z,Z,Z,Z,Z,nm⟩
    | true=>
     refine Zf (h:=?_);refine qn (id:=5) [(200024,[900]),(200029,[900])] ko J ((Zp∘ZcD∘Zbk∘Zq) ?_);refine qv (qh L (q:=900) Z Z Z q1) Z Z ((ZbQ∘Zq) ?_);refine qv (qh L (q:=900) Z Z Z q2) Z Z (z81 L Z (fun u H hH _=>jy hc hH) ?_);refine(ZaG∘Zam∘ZaH) ?_;exact wd i nq ⟨h1,h2,by rw[<-h3];exact(ep (by rintro⟨_,h⟩;simp [hc] at h)).symm⟩ rfl ⟨rfl,rfl,rfl,rfl,rfl,rfl,nm⟩
   ·refine(Zf∘Ze8∘Zp∘Zdg∘ZbM∘Zce∘Zam∘ZaH) ?_;exact wd i nq ⟨h1,h2,by rw[<-h3];exact(ep (by rintro⟨h,_⟩;exact hle h)).symm⟩ rfl ⟨rfl,rfl,rfl,rfl,rfl,rfl,nm⟩
  ·rintro i ⟨h1,h2,h3⟩;rw[<-h3] at hL;by_cases hie:i=e
   ·rw[na hie] at hL;subst hie;rw[<-hL];refine(Zf∘Zcc∘ZN∘Zn∘Zu∘Zc) ?_;exact ke L 900 (r:=xc b _ tyU) (rs:=[.tmp 6]) Z (fun _ _ h=>h) nq Z Z (fun _=>rfl)
   ·rw[nc hie] at hL;by_cases h50:e-a<50
    ·rw[na h50] at hL;rw[<-hL];refine(Zf∘Zcc∘Zdz∘Z2∘ZaQ∘ZU∘Zn∘Z4∘Zc) ?_;exact ke L 900 (r:=xc b _ tyU) (rs:=[.tmp 6]) Z (fun _ _ h=>h) nq Z Z (fun _=>rfl)
    ·rw[nc h50] at hL;have hw3:IntKind.i64.wrap ((i:Int)-1)=((i-1:Nat):Int):=xb T T |>.trans T;have hw4:IntKind.i64.wrap ((i:Int)-(a:Int))=((i-a:Nat):Int):=xb T T |>.trans T;have hw5:IntKind.i64.wrap ((e:Int)-(i:Int))=((e-i:Nat):Int):=xb T T |>.trans T;have hw6:IntKind.i64.wrap ((i:Int)+1)=((i+1:Nat):Int):=xb T T;have hw7:IntKind.i64.wrap ((k:Int)+1)=((k+1:Nat):Int):=xb T T;have hDs:=wj D i (i-1);obtain⟨_,qj⟩:=gv (rest:=rest) (show i-1<D.size by omega) (0+(i-1)*1) rfl;obtain⟨_,qi⟩:=gv (rest:=rest) (show i<D.size by omega) (0+(i)*1) rfl;have s1:=vq (rest:=rest) D[i-1]! (show i<D.size by omega) (0+(i)*1) rfl;have b1:=vr (rest:=rest) (show i<D.size by omega) (0+(i)*1) rfl;have hz:i-1<(D.setIfInBounds (i) D[i-1]!).size:=by rw[zpi];omega
     have s2:=vq (rest:=rest) D[i]! hz (0+(i-1)*1) rfl;have b2:=vr (rest:=rest) hz (0+(i-1)*1) rfl;rw[fi] at s2;refine(Zf∘Zcc∘Zdz∘Z2∘ZaQ∘Z0∘Zx) ?_;refine qn (id:=11) [(200051,[900]),(200055,[900]),(100056,[900]),(100057,[900])] ko J ((Zp∘ZbQ∘ZbQ∘Zq) ?_);refine qv (qh L (q:=900) Z Z Z qj) Z Z (ZX (h:=?_));refine qv (qh L (q:=900) Z Z Z qi) Z Z (Zq (h:=?_));refine xq (yl L (q:=900) Z Z b1 Z s1) Z (Zq (h:=?_));refine xq (yl L (q:=900) Z Z b2 Z s2) Z ((ZaV∘Ze) ?_);generalize swp D i (i-1)=D1 at *;obtain⟨D2,hD2⟩:∃ D2,D2=(if i-a>=2 then shiftDown lt (i-1) D1 else D1):=⟨_,rfl⟩
     rw[<-hD2] at hL;refine o8 (fun zsz:Array Int=>[(0,.is (.slice (some ⟨b,0,none⟩) m cap)),(1,.is (.int .i64 a)),(2,.is (.int .i64 e)),(7,.is (.int .i64 i)),(8,.is (.int .i64 k)),(900,.own (xu b (uC zsz++rest) tyU))]) (fun zsz=>zsz.size=m/\zsz=D2) (fun _=>[]) ?_ ?_
     rotate_left
     ·by_cases h2a:i-a>=2
      ·rw[na h2a] at hD2;refine(ZJ∘ZaQ∘Zbz∘Zn∘Zae∘Za∘Zax∘ZaX) ?_;refine xp (fun t:Nat×Array Int=>[(0,.is (.slice (some ⟨b,0,none⟩) m cap)),(1,.is (.int .i64 a)),(2,.is (.int .i64 e)),(7,.is (.int .i64 i)),(8,.is (.int .i64 k)),(9,.is (.int .i64 t.1)),(900,.own (xu b (uC t.2++rest) tyU))]) (fun t=>t.1<=i-1/\t.2.size=m/\shiftDown lt t.1 t.2=D2) (fun t=>t.1) (i-1,D1) ⟨Nat.le_refl _,by dsimp only;omega,hD2.symm⟩ ⟨Z,Z,Z,Z,Z,Z,Z,trivial⟩ ?_;rintro⟨j,zsz⟩ ⟨hj,hE,hS⟩;dsimp only at hj hE hS |-;clear hD2;rcases j with _ | j
       ·rw[shiftDown] at hS;refine(Zf∘ZbL∘Za6∘ZaJ∘ZaH) ?_;exact wd zsz nq ⟨hE,hS⟩ Z ⟨Z,Z,Z,Z,Z,Z,nm⟩
       ·rw[shiftDown] at hS;have hw8:IntKind.i64.wrap (((j+1:Nat):Int)-1)=(j:Int):=xb T T |>.trans T;obtain⟨_,q1⟩:=gv (rest:=rest) (show j+1<zsz.size by omega) (0+(j+1)*1) rfl;obtain⟨_,q2⟩:=gv (rest:=rest) (show j<zsz.size by omega) (0+(j)*1) rfl
        cases hc:lt zsz[j+1]! zsz[j]! with
        | false=>
         rw[na (by rw[hc];rfl)] at hS;refine(Zf∘ZbL∘Zcp∘ZdP∘Ze) ?_;refine qn (id:=16) [(200071,[900]),(200076,[900])] ko J (ZX (h:=?_));refine qv (qh L (q:=900) Z Z Z q1) Z Z ((ZbQ∘Zq) ?_);refine qv (qh L (q:=900) Z Z Z q2) Z Z (z81 L Z (fun u H hH _=>jy hc hH) ?_);refine(ZaG∘ZbW∘Ze2∘Zeb∘Ze1∘Zd2) ?_;exact wd zsz nq ⟨hE,hS⟩ Z ⟨Z,Z,Z,Z,Z,Z,nm⟩
        | true=>
         rw[nc (by rw[hc];simp)] at hS;obtain⟨_,qj⟩:=gv (rest:=rest) (show j<zsz.size by omega) (0+(j)*1) rfl;obtain⟨_,qi⟩:=gv (rest:=rest) (show j+1<zsz.size by omega) (0+(j+1)*1) rfl;have s1:=vq (rest:=rest) zsz[j]! (show j+1<zsz.size by omega) (0+(j+1)*1) rfl;have b1:=vr (rest:=rest) (show j+1<zsz.size by omega) (0+(j+1)*1) rfl;have hz:j<(zsz.setIfInBounds (j+1) zsz[j]!).size:=by rw[zpi];omega
         have s2:=vq (rest:=rest) zsz[j+1]! hz (0+(j)*1) rfl;have b2:=vr (rest:=rest) hz (0+(j)*1) rfl;rw[fi] at s2;refine(Zf∘ZbL∘Zcp∘ZdP∘Ze) ?_;refine qn (id:=16) [(200071,[900]),(200076,[900])] ko J (ZX (h:=?_));refine qv (qh L (q:=900) Z Z Z q1) Z Z ((ZbQ∘Zq) ?_);refine qv (qh L (q:=900) Z Z Z q2) Z Z (z81 L Z (fun u H hH _=>jy hc hH) ?_);refine(ZaG∘ZaL∘Zc3) ?_;refine qn (id:=17) [(200088,[900]),(200092,[900]),(100093,[900]),(100094,[900])] ko J ((Zp∘ZbQ∘ZbQ∘Zq) ?_);refine qv (qh L (q:=900) Z Z Z qj) Z Z (ZX (h:=?_));refine qv (qh L (q:=900) Z Z Z qi) Z Z (Zq (h:=?_));refine xq (yl L (q:=900) Z Z b1 Z s1) Z (Zq (h:=?_));refine xq (yl L (q:=900) Z Z b2 Z s2) Z ((ZcB∘Zaa∘Za∘Zax∘Zby) ?_);exact yo (x:=(j+1,zsz)) (j,swp zsz (j+1) j) ⟨by dsimp only;omega,by dsimp only;rw[wj];exact hE,hS⟩ G ⟨Z,Z,Z,Z,Z,Z,Z,trivial⟩
      ·rw[nc h2a] at hD2;refine(ZJ∘ZaQ∘Za6∘Zac) ?_;exact wd D1 nq ⟨by omega,hD2.symm⟩ Z ⟨Z,Z,Z,Z,Z,Z,nm⟩
     ·rintro zs2 ⟨hG,hGe⟩;rw[<-hGe] at hL;clear hD2 hGe;by_cases h2b:e-i>=2
      ·rw[na h2b] at hL;obtain⟨D3,hD3⟩:∃ D3,D3=shiftUp lt e (i+1) zs2:=⟨_,rfl⟩
       rw[<-hD3] at hL;refine(Ze∘ZaO∘ZaQ∘Zbz∘Zn∘Zcs∘Za∘ZC∘ZaX) ?_
       ·refine xp (fun t:Nat×Array Int=>[(0,.is (.slice (some ⟨b,0,none⟩) m cap)),(1,.is (.int .i64 a)),(2,.is (.int .i64 e)),(7,.is (.int .i64 i)),(8,.is (.int .i64 k)),(10,.is (.int .i64 t.1)),(900,.own (xu b (uC t.2++rest) tyU))]) (fun t=>i+1<=t.1/\t.1<=e/\t.2.size=m/\shiftUp lt e t.1 t.2=D3) (fun t=>e-t.1) (i+1,zs2) ⟨Nat.le_refl _,by dsimp only;omega,hG,hD3.symm⟩ ⟨Z,Z,Z,Z,Z,Z,Z,trivial⟩ ?_;rintro⟨j,zsz⟩ ⟨hj1,hj2,hE,hS⟩;dsimp only at hj1 hj2 hE hS |-;clear hD3;rw[shiftUp] at hS;by_cases hje:j<e
        ·rw[na hje] at hS;have hw8:IntKind.i64.wrap ((j:Int)-1)=((j-1:Nat):Int):=xb T T |>.trans T;have hw9:IntKind.i64.wrap ((j:Int)+1)=((j+1:Nat):Int):=xb T T;obtain⟨_,q1⟩:=gv (rest:=rest) (show j<zsz.size by omega) (0+(j)*1) rfl;obtain⟨_,q2⟩:=gv (rest:=rest) (show j-1<zsz.size by omega) (0+(j-1)*1) rfl
         cases hc:lt zsz[j]! zsz[j-1]! with
         | false=>
          rw[na (by rw[hc];rfl)] at hS;refine(Zf∘ZaP∘Zb∘ZbJ∘Ze) ?_;refine qn (id:=22) [(200109,[900]),(200114,[900])] ko J (ZX (h:=?_));refine qv (qh L (q:=900) Z Z Z q1) Z Z ((ZbQ∘Zq) ?_);refine qv (qh L (q:=900) Z Z Z q2) Z Z (z81 L Z (fun u H hH _=>jy hc hH) ?_);refine(ZaG∘ZbW∘Ze2∘Zeb∘Ze1∘Zd2∘Zb8∘Z5∘ZC∘Zby) ?_;exact yo (x:=((k,i0),D)) ((k+1,i),zsz) ⟨by dsimp only;omega,by dsimp only;omega,by dsimp only;omega,hE,by dsimp only;rw[hs',hS];exact hL⟩ G ⟨Z,Z,Z,Z,Z,Z,trivial⟩
         | true=>
          rw[nc (by rw[hc];simp)] at hS;obtain⟨_,qj⟩:=gv (rest:=rest) (show j-1<zsz.size by omega) (0+(j-1)*1) rfl;obtain⟨_,qi⟩:=gv (rest:=rest) (show j<zsz.size by omega) (0+(j)*1) rfl;have s1:=vq (rest:=rest) zsz[j-1]! (show j<zsz.size by omega) (0+(j)*1) rfl;have b1:=vr (rest:=rest) (show j<zsz.size by omega) (0+(j)*1) rfl;have hz:j-1<(zsz.setIfInBounds (j) zsz[j-1]!).size:=by rw[zpi];omega
          have s2:=vq (rest:=rest) zsz[j]! hz (0+(j-1)*1) rfl;have b2:=vr (rest:=rest) hz (0+(j-1)*1) rfl;rw[fi] at s2;refine(Zf∘ZaP∘Zb∘ZbJ∘Ze) ?_;refine qn (id:=22) [(200109,[900]),(200114,[900])] ko J (ZX (h:=?_));refine qv (qh L (q:=900) Z Z Z q1) Z Z ((ZbQ∘Zq) ?_);refine qv (qh L (q:=900) Z Z Z q2) Z Z (z81 L Z (fun u H hH _=>jy hc hH) ?_);refine(ZaG∘ZaL∘Zc3) ?_;refine qn (id:=23) [(200126,[900]),(200130,[900]),(100131,[900]),(100132,[900])] ko J ((Zp∘ZbQ∘ZbQ∘Zq) ?_);refine qv (qh L (q:=900) Z Z Z qj) Z Z (ZX (h:=?_));refine qv (qh L (q:=900) Z Z Z qi) Z Z (Zq (h:=?_));refine xq (yl L (q:=900) Z Z b1 Z s1) Z (Zq (h:=?_));refine xq (yl L (q:=900) Z Z b2 Z s2) Z ((ZcB∘ZcJ∘Za∘ZC∘Zby) ?_);exact yo (x:=(j,zsz)) (j+1,swp zsz j (j-1)) ⟨by dsimp only;omega,by dsimp only;omega,by dsimp only;rw[wj];exact hE,hS⟩ G ⟨Z,Z,Z,Z,Z,Z,Z,trivial⟩
        ·rw[nc hje] at hS;refine(Zf∘ZaP∘Zb∘Z0∘ZaJ∘ZaH∘Zb8∘Z5∘ZC∘Zby) ?_;exact yo (x:=((k,i0),D)) ((k+1,i),zsz) ⟨by dsimp only;omega,by dsimp only;omega,by dsimp only;omega,hE,by dsimp only;rw[hs',hS];exact hL⟩ G ⟨Z,Z,Z,Z,Z,Z,trivial⟩
      ·rw[nc h2b] at hL;refine(Ze∘ZaO∘ZaQ∘Za6∘Zbl∘Z5∘ZC∘Zby) ?_;exact yo (x:=((k,i0),D)) ((k+1,i),zs2) ⟨by dsimp only;omega,by dsimp only;omega,by dsimp only;omega,hG,by dsimp only;rw[hs'];exact hL⟩ G ⟨Z,Z,Z,Z,Z,Z,trivial⟩
 ·obtain rfl:k=5:=by omega
  have hL':(D,false)=X:=hL;rw[<-hL'];refine(Zf∘Zr∘Z0∘Za5∘ZdO∘Zc) ?_;exact ke L 900 (r:=xc b _ tyU) (rs:=[.tmp 6]) Z (fun _ _ h=>h) nq Z Z (fun _=>rfl)
def _root_.ZfL(t:Wr Y->A:=by intro h;refine ZcP (h:=?_);refine xq (yl L (q:=900) Z Z Z Z Z) Z ?_;exact h.1)(h:Y):A:=t ⟨h⟩
abbrev tyX:TypeId:=334
def Qb{x:Nat}(hx:x<18446744073709551616)(hB:zs4 B w)
  (hr:(xc b [.int .u64 x] tyX).P B w C) (hC:ZCB C w B):
  RetX zs5 263 [.pointer (some ⟨b,0,none⟩)] w B C (xc b [.int .u64 (xorNextN x:Nat)] tyX) (.int .u64 (xorNextN x:Nat)):=by
 obtain⟨X1,h1⟩:∃ X1:Nat,X1=x^^^(x*8192%18446744073709551616):=⟨_,rfl⟩
 obtain⟨X2,h2⟩:∃ X2:Nat,X2=X1^^^(X1/128):=⟨_,rfl⟩
 obtain⟨X3,h3⟩:∃ X3:Nat,X3=X2^^^(X2*131072%18446744073709551616):=⟨_,rfl⟩
 have l1:X1<18446744073709551616:=by rw[h1];exact Nat.xor_lt_two_pow (n:=64) T T
 have l2:X2<18446744073709551616:=by rw[h2];exact Nat.xor_lt_two_pow (n:=64) T T
 have l3:X3<18446744073709551616:=by rw[h3];exact Nat.xor_lt_two_pow (n:=64) T T
 have hv:xorNextN x=X3:=by unfold xorNextN;simp only[];rw[<-h1,<-h2,<-h3]
 have s1:IntKind.u64.wrap ((x:Int)*2^min (13:Int).toNat IntKind.u64.bits)=((x*8192%18446744073709551616:Nat):Int):=by
  rw[IntKind.wrap_u64,show((2:Int)^min (13:Int).toNat IntKind.u64.bits)=8192 from by decide];omega
 have s2:(X1:Int).fdiv (2^min (7:Int).toNat IntKind.u64.bits)=((X1/128:Nat):Int):=by
  rw[show((2:Int)^min (7:Int).toNat IntKind.u64.bits)=128 from by decide,zri _ T];omega
 have s3:IntKind.u64.wrap ((X2:Int)*2^min (17:Int).toNat IntKind.u64.bits)=((X2*131072%18446744073709551616:Nat):Int):=by
  rw[IntKind.wrap_u64,show((2:Int)^min (17:Int).toNat IntKind.u64.bits)=131072 from by decide];omega
 have x1:bits .xor .u64 (x:Int) ((x*8192%18446744073709551616:Nat):Int)=(X1:Int):=by rw[bits_xor_u64_nat _ _ hx T,h1]
 have x2:bits .xor .u64 (X1:Int) ((X1/128:Nat):Int)=(X2:Int):=by rw[bits_xor_u64_nat _ _ l1 T,h2]
 have x3:bits .xor .u64 (X2:Int) ((X2*131072%18446744073709551616:Nat):Int)=(X3:Int):=by rw[bits_xor_u64_nat _ _ l2 T,h3]
 rw[hv];clear hv h1 h2 h3;unfold RetX;refine xf 900 (xc b [.int .u64 x] tyX) Tryz.func263 Z Tryz.ntmps263 (np Z) hB hr hC ?_;rw[xd];refine(ZQ∘Zd) ?_;refine qn (id:=1) [(200005,[900]),(200008,[900]),(100011,[900])] ko J ((Zl∘ZcP∘Zd7∘Zl∘ZcP∘Zd7) ?_);refine z8 (P4 Z Z Z Z E s1) Z (z8 (Vn Z Z Z Z x1) Z ((ZfL∘ZaV) ?_));refine qn (id:=2) [(200014,[900]),(200017,[900]),(100020,[900])] ko J ((Zl∘ZcP∘Zd7∘Zl∘ZcP∘Zd7) ?_);refine z8 (zet Z Z Z Z E s2) Z (z8 (Vn Z Z Z Z x2) Z ((ZfL∘ZaV) ?_));refine qn (id:=3) [(200023,[900]),(200026,[900]),(100029,[900])] ko J ((Zl∘ZcP∘Zd7∘Zl∘ZcP∘Zd7) ?_);refine z8 (P4 Z Z Z Z E s3) Z (z8 (Vn Z Z Z Z x3) Z ((ZfL∘ZaV∘Z5∘Zfj∘ZfF∘Zc) ?_));exact ke L 900 (r:=xc b _ tyX) (rs:=[.tmp 2]) Z (fun _ _ h=>h) nq Z Z (fun _=>rfl)
def _root_.Zcu(t:Wr Y->A:=by exact fun h=>(Zdr∘Zeg) h.1)(h:Y):A:=t ⟨h⟩
def _root_.Zgd(t:Wr Y->A:=by intro h;refine qn (id:=10) [(200058,[900]),(200062,[900]),(100063,[900]),(100064,[900])] ko J ?_;refine Zp (h:=?_);exact h.1)(h:Y):A:=t ⟨h⟩
def Ds(hn:n<18446744073709551616)(hB:zs4 B w):Ret zs5 169 [.int .u64 n] w B (fun v _=>v=.int .i64 (bitsLen n)):=by
 refine yr Tryz.func169 Z Tryz.ntmps169 (np Z) hB ((ZQ∘Zd∘Zfc∘Zao∘Zz) ?_);refine z71 L Z (fun u H hH _=>Ret.of_same hH (Tryz.bits_Len64 (n:Int) u T T)) ?_;refine Zc (h:=?_);refine yj1 L [.tmp 2] fun u H hH hle=>?_;rw[zpf,bitLen_eq n hn];rfl
def zci(hn:n<=100000)(hB:zs4 B w):Ret zs5 262 [.int .i64 n] w B (fun v _=>v=.int .u64 (1<<<bitsLen n:Nat)):=by
 have hb:bitsLen n<=17:=(bitsLen_le_iff n 17).2 T;have hp2:(2:Nat)^bitsLen n<=2^17:=zsd T hb
 have hmin:min ((bitsLen n:Nat):Int).toNat IntKind.u64.bits=bitsLen n:=by
  rw[zpf];have:IntKind.u64.bits=64:=E;omega
 have s1:IntKind.u64.wrap ((1:Int)*2^min ((bitsLen n:Nat):Int).toNat IntKind.u64.bits)=((1<<<bitsLen n:Nat):Int):=by
  rw[hmin,zr8,Nat.one_mul,Int.one_mul,Int.natCast_pow];have e2:((2:Nat):Int)^bitsLen n=((2^bitsLen n:Nat):Int):=(Int.natCast_pow 2 _).symm;rw[show((2:Int)^bitsLen n)=((2:Nat):Int)^bitsLen n from rfl,e2];have hp3:2^bitsLen n<=131072:=hp2;clear hp2 hmin e2;generalize 2^bitsLen n=zs1 at *;exact wrap_u64 T T
 have hc:IntKind.u64.wrap (n:Int)=(n:Int):=wrap_u64 T T;refine yr Tryz.func262 Z Tryz.ntmps262 (np Z) hB (Zc2 (h:=?_));refine z7 (kr Z Z Z jo.1 jo.2 (wrap_u64 T T)) Z (z71 L Z (fun u H hH _=>Ds T hH) ?_);refine z7 (P4 Z Z Z Z T s1) Z (Zc (h:=?_));exact yj2 L [.tmp 2]
def zh8(hab:a<=e)(he:e<=d.size)(hm:d.size=m)(hm1:m<=100000)(hB:zs4 B w)
  (hr:(xc b (uC d++rest) tyU).P B w C) (hC:ZCB C w B):
  kz zs5 273 [.slice (some ⟨b,0,none⟩) m cap,.int .i64 a,.int .i64 e] w B C (xc b (uC (breakPatterns d a e)++rest) tyU):=by
 unfold kz;refine xf 900 (xc b (uC d++rest) tyU) Tryz.func273 Z Tryz.ntmps273 (np Z) hB hr hC ?_;rw[xd];obtain⟨Ln,rfl⟩:∃ Ln,e=a+Ln:=⟨e-a,by omega⟩
 have hw0:IntKind.i64.wrap (((a+Ln:Nat):Int)-(a:Int))=(Ln:Int):=xb T T |>.trans T;by_cases h8:8<=Ln
 ·have hX:=breakPatterns_eq d a Ln h8;obtain⟨zs1,hM⟩:∃ zs1,zs1=1<<<bitsLen Ln:=⟨_,rfl⟩
  have hb17:bitsLen Ln<=17:=(bitsLen_le_iff Ln 17).2 T
  have hMp:1<=zs1/\zs1<=131072:=by
   rw[hM,zr8,Nat.one_mul];exact⟨Nat.one_le_two_pow,zsd T hb17⟩
  have hM2:zs1<=2*Ln:=by
   rw[hM,zr8,Nat.one_mul];exact two_pow_bitsLen_le T
  obtain⟨I0,hI0⟩:∃ I0,I0=a+Ln/4*2-1:=⟨_,rfl⟩
  rw[<-hM,<-hI0] at hX;have hc1:IntKind.u64.wrap (Ln:Int)=(Ln:Int):=wrap_u64 T T
  have et:((Ln:Nat):Int).tdiv 4=((Ln/4:Nat):Int):=by
   rw[zr0 T];omega
  have hq:IntKind.i64.wrap (((Ln:Nat):Int).tdiv 4)=((Ln/4:Nat):Int):=by rw[et];exact xb T T
  have hw1:IntKind.i64.wrap (((Ln/4:Nat):Int)*2)=((Ln/4*2:Nat):Int):=xb T T |>.trans T;have hw2:IntKind.i64.wrap ((a:Int)+((Ln/4*2:Nat):Int))=((a+Ln/4*2:Nat):Int):=xb T T |>.trans T;have hw3:IntKind.i64.wrap (((a+Ln/4*2:Nat):Int)-1)=(I0:Int):=xb T T |>.trans T;have hw4:IntKind.i64.wrap (((a+Ln/4*2:Nat):Int)+1)=((I0+2:Nat):Int):=xb T T |>.trans T;have hM1:IntKind.u64.wrap ((zs1:Int)-1)=((zs1-1:Nat):Int):=wrap_u64 T T |>.trans T
  have hln:(UInt64.ofNat Ln).toNat=Ln:=by
   rw[UInt64.toNat_ofNat'];exact zsh T
  refine(ZQ∘ZaQ∘ZbA∘Zbz∘Zn∘Zz) ?_;refine z7 (kr Z Z Z Yr.1 Yr.2 (wrap_u64 T T)) Z (ZY (h:=?_));refine jd 7 901 rfl fun br=>?_;refine Zr (h:=?_);refine z71 L Z (fun u H hH _=>hM ▸ zci (n:=Ln) T hH) ?_;refine(Zd∘Zt∘Zb∘Zcu∘Zax∘ZaX) ?_;refine xp (fun s:Nat×(UInt64×Array Int)=>[(0,.is (.slice (some ⟨b,0,none⟩) m cap)),(1,.is (.int .i64 a)),(6,.is (.int .i64 Ln)),(7,.is (.pointer (some ⟨br,0,none⟩))),(8,.is (.int .u64 zs1)),(9,.is (.int .i64 (I0+s.1:Nat))),(900,.own (xu b (uC s.2.2++rest) tyU)),(901,.own (xu br [.int .u64 s.2.1.toNat] tyX))]) (fun s=>s.1<=3/\s.2.2.size=m/\bpRest a Ln zs1 I0 (3-s.1) s.1 s.2=breakPatterns d a (a+Ln)) (fun s=>3-s.1) (0,(UInt64.ofNat Ln,d)) ⟨by dsimp only;omega,hm,hX.symm⟩ ⟨Z,Z,Z,Z,Z,Z,Z,by dsimp only;rw[hln];rfl,trivial⟩ ?_;rintro⟨t,⟨r,D⟩⟩ ⟨ht3,hD,hst⟩;dsimp only at ht3 hD hst |-;have hrl:r.toNat<18446744073709551616:=UInt64.toNat_lt r;by_cases ht:t<3
  ·obtain⟨o1,ho1⟩:∃ o1,o1=xorNextN r.toNat &&& (zs1-1):=⟨_,rfl⟩
   have ho1l:o1<=zs1-1:=by rw[ho1];exact Nat.and_le_right
   have hand:bits .and .u64 ((xorNextN r.toNat:Nat):Int) ((zs1-1:Nat):Int)=(o1:Int):=by rw[bits_and_u64_nat _ _ (xorNextN_lt _ hrl) T,ho1]
   have hcv:IntKind.i64.wrap (o1:Int)=(o1:Int):=xb T T;have hwt:IntKind.i64.wrap (((I0+t:Nat):Int)+1)=((I0+(t+1):Nat):Int):=xb T T |>.trans T;by_cases hoL:Ln<=o1
   ·have hw5:IntKind.i64.wrap ((o1:Int)-(Ln:Int))=((o1-Ln:Nat):Int):=xb T T |>.trans T;have hw6:IntKind.i64.wrap ((a:Int)+((o1-Ln:Nat):Int))=((a+(o1-Ln):Nat):Int):=xb T T;have ho:(if (xorNext r).toNat &&& (zs1-1)>=Ln then ((xorNext r).toNat &&& (zs1-1))-Ln else (xorNext r).toNat &&& (zs1-1))=o1-Ln:=by rw[xorNext_toNat,<-ho1,na hoL]
    obtain⟨_,qj⟩:=gv (rest:=rest) (show a+(o1-Ln)<D.size by omega) (0+(a+(o1-Ln))*1) rfl;obtain⟨_,qi⟩:=gv (rest:=rest) (show I0+t<D.size by omega) (0+(I0+t)*1) rfl;have s1:=vq (rest:=rest) D[a+(o1-Ln)]! (show I0+t<D.size by omega) (0+(I0+t)*1) rfl;have b1:=vr (rest:=rest) (show I0+t<D.size by omega) (0+(I0+t)*1) rfl;have hz:a+(o1-Ln)<(D.setIfInBounds (I0+t) D[a+(o1-Ln)]!).size:=by rw[zpi];omega
    have s2:=vq (rest:=rest) D[I0+t]! hz (0+(a+(o1-Ln))*1) rfl;have b2:=vr (rest:=rest) hz (0+(a+(o1-Ln))*1) rfl;rw[fi] at s2;refine(Zf∘Z1∘Z8∘Zcu∘ZC∘ZcW∘Z3∘ZdP∘Zy) ?_;refine qg (yk L 901 (xc br [.int .u64 (xorNextN r.toNat:Nat)] tyX) (.int .u64 (xorNextN r.toNat:Nat)) (r:=xc br [.int .u64 r.toNat] tyX) Z Z Z Z Z (fun u H C hH _ hr hC=>Qb hrl hH hr hC)) ((Za∘Zax) ?_);refine z7 (V6 Z Z Z Z hand) Z (z7 (kr Z Z Z jp.1 jp.2 (xb T T)) Z ((Zk∘Zu∘Zb∘Zcp∘Z2∘ZaQ∘Zc∘Zgd∘ZcT∘Zch) ?_));refine qv (qh L (q:=900) Z Z Z qj) Z Z (ZX (h:=?_));refine qv (qh L (q:=900) Z Z Z qi) Z Z (Zq (h:=?_));refine xq (yl L (q:=900) Z Z b1 Z s1) Z (Zq (h:=?_));refine xq (yl L (q:=900) Z Z b2 Z s2) Z ((ZcB∘ZL∘ZC∘Zby) ?_);exact yo (x:=(t,(r,D))) (t+1,(xorNext r,swp D (I0+t) (a+(o1-Ln)))) ⟨by dsimp only;omega,by dsimp only;rw[wj];exact hD,by dsimp only;rw[<-hst,bp_step a Ln zs1 I0 t r D ((o1-Ln)) ht ho]⟩ G ⟨Z,Z,Z,Z,Z,Z,Z,by dsimp only;rw[xorNext_toNat];rfl,trivial⟩
   ·have hw6:IntKind.i64.wrap ((a:Int)+(o1:Int))=((a+o1:Nat):Int):=xb T T;have ho:(if (xorNext r).toNat &&& (zs1-1)>=Ln then ((xorNext r).toNat &&& (zs1-1))-Ln else (xorNext r).toNat &&& (zs1-1))=o1:=by rw[xorNext_toNat,<-ho1,nc T]
    obtain⟨_,qj⟩:=gv (rest:=rest) (show a+o1<D.size by omega) (0+(a+o1)*1) rfl;obtain⟨_,qi⟩:=gv (rest:=rest) (show I0+t<D.size by omega) (0+(I0+t)*1) rfl;have s1:=vq (rest:=rest) D[a+o1]! (show I0+t<D.size by omega) (0+(I0+t)*1) rfl;have b1:=vr (rest:=rest) (show I0+t<D.size by omega) (0+(I0+t)*1) rfl;have hz:a+o1<(D.setIfInBounds (I0+t) D[a+o1]!).size:=by rw[zpi];omega
    have s2:=vq (rest:=rest) D[I0+t]! hz (0+(a+o1)*1) rfl;have b2:=vr (rest:=rest) hz (0+(a+o1)*1) rfl;rw[fi] at s2;refine(Zf∘Z1∘Z8∘Zcu∘ZC∘ZcW∘Z3∘ZdP∘Zy) ?_;refine qg (yk L 901 (xc br [.int .u64 (xorNextN r.toNat:Nat)] tyX) (.int .u64 (xorNextN r.toNat:Nat)) (r:=xc br [.int .u64 r.toNat] tyX) Z Z Z Z Z (fun u H C hH _ hr hC=>Qb hrl hH hr hC)) ((Za∘Zax) ?_);refine z7 (V6 Z Z Z Z hand) Z (z7 (kr Z Z Z jp.1 jp.2 (xb T T)) Z ((Zk∘Zu∘Zb∘Za6∘Zac∘Zbr∘Zgd∘ZcT∘Zch) ?_));refine qv (qh L (q:=900) Z Z Z qj) Z Z (ZX (h:=?_));refine qv (qh L (q:=900) Z Z Z qi) Z Z (Zq (h:=?_));refine xq (yl L (q:=900) Z Z b1 Z s1) Z (Zq (h:=?_));refine xq (yl L (q:=900) Z Z b2 Z s2) Z ((ZcB∘ZL∘ZC∘Zby) ?_);exact yo (x:=(t,(r,D))) (t+1,(xorNext r,swp D (I0+t) (a+o1))) ⟨by dsimp only;omega,by dsimp only;rw[wj];exact hD,by dsimp only;rw[<-hst,bp_step a Ln zs1 I0 t r D (o1) ht ho]⟩ G ⟨Z,Z,Z,Z,Z,Z,Z,by dsimp only;rw[xorNext_toNat];rfl,trivial⟩
  ·obtain rfl:t=3:=by omega
   have hst':D=breakPatterns d a (a+Ln):=hst;rw[hst'];refine(Zf∘Z1∘Z8∘Zcu∘ZC∘ZcO∘ZaJ∘ZaH) ?_;exact xw L 900 (r:=xc b _ tyU) Z (fun _ _ h=>h) nq Z Z
 ·have:breakPatterns d a (a+Ln)=d:=by unfold breakPatterns;simp only[Nat.add_sub_cancel_left];rw[if_neg T]
  rw[this];refine(ZQ∘ZaQ∘ZbA∘Za6∘Zac) ?_;exact xw L 900 (r:=xc b _ tyU) Z (fun _ _ h=>h) nq Z Z
def _root_.Zfz(t:Wr Y->A:=by intro h;refine z8 (Vy L (qt Z M) Z Z Z M) Z ?_;exact h.1)(h:Y):A:=t ⟨h⟩
abbrev tyI:TypeId:=3
def zi0(h:j<d.size):(uC d++rest)[0+j*1]?=some (.int .u64 d[j]!):=by
 rw[zo2,zqa,zp5 (by rw[Bz];exact h)];exact zeh h
def Gi{b m cap a e bs k:Nat}(ha:a<m)(he:e<m)(hm:d.size=m)(hm1:m<=100000)(hk:k<=1000)(hB:zs4 B w)(hb:B b=some (.cells (uC d++rest).toArray tyU))
  (hr:(xc bs [.int .i64 k] tyI).P B w C) (hC:ZCB C w B):
  RetX zs5 294 [.slice (some ⟨b,0,none⟩) m cap,.int .i64 a,.int .i64 e,.pointer (some ⟨bs,0,none⟩)] w B C (xc bs [.int .i64 (order2 lt d a e k).2.2] tyI) (.tuple #[.int .i64 (order2 lt d a e k).1,.int .i64 (order2 lt d a e k).2.1]):=by
 unfold RetX;refine xf 900 (xc bs [.int .i64 k] tyI) Tryz.func294 Z Tryz.ntmps294 (np Z) hB hr hC ?_;rw[xd];have g1:=zi0 (rest:=rest) (show a<d.size by omega);have g2:=zi0 (rest:=rest) (show e<d.size by omega);have hw:IntKind.i64.wrap ((k:Int)+1)=((k+1:Nat):Int):=xb T T;unfold order2
 cases hc:lt d[e]! d[a]! with
 | true=>
  refine(ZQ∘ZcM∘ZcC∘ZX∘Zfz∘ZX∘Zfz) ?_;refine z81 L Z (fun u H hH _=>jy hc hH) ?_;refine(ZbW∘Ze∘Zz∘Zfj∘ZfF∘ZC∘Zfj) ?_;refine xo (yl L (q:=900) Z Z Z Z Z) ((Zg∘ZcE∘ZI) ?_);exact ke L 900 (r:=xc bs _ tyI) (rs:=[.tmp 8,.tmp 9]) Z (fun _ _ h=>h) nq Z Z (fun _=>rfl)
 | false=>
  refine(ZQ∘ZcM∘ZcC∘ZX∘Zfz∘ZX∘Zfz) ?_;refine z81 L Z (fun u H hH _=>jy hc hH) ?_;refine(ZaL∘Zao∘Zt∘Zb∘ZI) ?_;exact ke L 900 (r:=xc bs _ tyI) (rs:=[.tmp 8,.tmp 9]) Z (fun _ _ h=>h) nq Z Z (fun _=>rfl)
def Cx(d:Array Int)(ha:a<m)(he:e<m):(order2 lt d a e k).1<m/\(order2 lt d a e k).2.1<m/\(order2 lt d a e k).2.2<=k+1:=by
 unfold order2;split
 ·exact⟨he,ha,nu _⟩
 ·exact⟨ha,he,zpr _⟩
def oz{x y z:Nat}(hx:x<m)(hy:y<m)(hz:z<m)(hm:d.size=m)(hm1:m<=100000)(hk:k<=900)(hB:zs4 B w)(hb:B b=some (.cells (uC d++rest).toArray tyU))
  (hr:(xc bs [.int .i64 k] tyI).P B w C) (hC:ZCB C w B):
  RetX zs5 290 [.slice (some ⟨b,0,none⟩) m cap,.int .i64 x,.int .i64 y,.int .i64 z,.pointer (some ⟨bs,0,none⟩)] w B C (xc bs [.int .i64 (median lt d x y z k).2] tyI) (.int .i64 (median lt d x y z k).1):=by
 unfold RetX;refine xf 900 (xc bs [.int .i64 k] tyI) Tryz.func290 Z Tryz.ntmps290 (np Z) hB hr hC ?_;rw[xd];unfold median;dsimp only;obtain⟨r1,hr1⟩:∃ r,r=order2 lt d x y k:=⟨_,rfl⟩
 rw[<-hr1];obtain⟨r2,hr2⟩:∃ r,r=order2 lt d r1.2.1 z r1.2.2:=⟨_,rfl⟩
 rw[<-hr2];obtain⟨r3,hr3⟩:∃ r,r=order2 lt d r1.1 r2.1 r2.2.2:=⟨_,rfl⟩
 rw[<-hr3];obtain⟨a1,a2,a3⟩:=hr1 ▸ Cx d (k:=k) hx hy;obtain⟨b1,b2,b3⟩:=hr2 ▸ Cx d (k:=r1.2.2) a2 hz;refine(ZK∘Zbv) ?_;refine qg (yk L 900 (xc bs [.int .i64 r1.2.2] tyI) (.tuple #[.int .i64 r1.1,.int .i64 r1.2.1]) (r:=xc bs [.int .i64 k] tyI) Z Z Z Z Z (fun u H C hH hle hr hC=>by have h:=Gi (rest:=rest) (cap:=cap) hx hy hm hm1 (k:=k) T hH (hle _ _ hb) hr hC;rw[<-hr1] at h;exact h)) ?_;refine(ZcA∘Za9∘Zb) ?_;refine qg (yk L 900 (xc bs [.int .i64 r2.2.2] tyI) (.tuple #[.int .i64 r2.1,.int .i64 r2.2.1]) (r:=xc bs [.int .i64 r1.2.2] tyI) Z Z Z Z Z (fun u H C hH hle hr hC=>by have h:=Gi (rest:=rest) (cap:=cap) a2 hz hm hm1 (k:=r1.2.2) T hH (hle _ _ hb) hr hC;rw[<-hr2] at h;exact h)) ?_;refine(ZcA∘ZcE∘Zb) ?_;refine qg (yk L 900 (xc bs [.int .i64 r3.2.2] tyI) (.tuple #[.int .i64 r3.1,.int .i64 r3.2.1]) (r:=xc bs [.int .i64 r2.2.2] tyI) Z Z Z Z Z (fun u H C hH hle hr hC=>by have h:=Gi (rest:=rest) (cap:=cap) a1 b1 hm hm1 (k:=r2.2.2) T hH (hle _ _ hb) hr hC;rw[<-hr3] at h;exact h)) ?_;refine(ZcA∘Z5∘Zc) ?_;exact ke L 900 (r:=xc bs _ tyI) (rs:=[.tmp 10]) Z (fun _ _ h=>h) nq Z Z (fun _=>rfl)
def Xl(d:Array Int){x y z:Nat}(hx:x<m)(hy:y<m)(hz:z<m):(median lt d x y z k).1<m/\(median lt d x y z k).2<=k+3:=by
 unfold median;dsimp only;obtain⟨a1,a2,a3⟩:=Cx d (k:=k) hx hy;obtain⟨b1,b2,b3⟩:=Cx d (k:=(order2 lt d x y k).2.2) a2 hz;obtain⟨c1,c2,c3⟩:=Cx d (k:=(order2 lt d (order2 lt d x y k).2.1 z (order2 lt d x y k).2.2).2.2) a1 b1;exact⟨c2,by omega⟩
def l5{x:Nat}(h1:1<=x)(hx:x+1<m)(hm:d.size=m)(hm1:m<=100000)(hk:k<=900)(hB:zs4 B w)(hb:B b=some (.cells (uC d++rest).toArray tyU))
  (hr:(xc bs [.int .i64 k] tyI).P B w C) (hC:ZCB C w B):
  RetX zs5 289 [.slice (some ⟨b,0,none⟩) m cap,.int .i64 x,.pointer (some ⟨bs,0,none⟩)] w B C (xc bs [.int .i64 (medianAdjacent lt d x k).2] tyI) (.int .i64 (medianAdjacent lt d x k).1):=by
 unfold RetX;refine xf 900 (xc bs [.int .i64 k] tyI) Tryz.func289 Z Tryz.ntmps289 (np Z) hB hr hC ?_;rw[xd];unfold medianAdjacent;have hw1:IntKind.i64.wrap ((x:Int)-1)=((x-1:Nat):Int):=xb T T |>.trans T;have hw2:IntKind.i64.wrap ((x:Int)+1)=((x+1:Nat):Int):=xb T T;refine(ZK∘ZaQ∘Zb∘ZC∘Za) ?_;refine qg (yk L 900 (xc bs [.int .i64 (median lt d (x-1) x (x+1) k).2] tyI) (.int .i64 (median lt d (x-1) x (x+1) k).1) (r:=xc bs [.int .i64 k] tyI) Z Z Z Z Z (fun u H C hH hle hr hC=>oz (rest:=rest) (cap:=cap) T T T hm hm1 hk hH (hle _ _ hb) hr hC)) (Zc (h:=?_));exact ke L 900 (r:=xc bs _ tyI) (rs:=[.tmp 6]) Z (fun _ _ h=>h) nq Z Z (fun _=>rfl)
def _root_.Zev(t:Wr Y->A:=by intro h;refine ye (qh L (q:=901) Z Z Z Z) ?_;exact h.1)(h:Y):A:=t ⟨h⟩
def Gz:Hint->Int
 | .unknown=>0
 | .increasing=>1
 | .decreasing=>2
def zgq(h12:12<e-a)(he:e<=m)(hm:d.size=m)(hm1:m<=100000)(hB:zs4 B w)(hb:B b=some (.cells (uC d++rest).toArray tyU)):
  Ret zs5 274 [.slice (some ⟨b,0,none⟩) m cap,.int .i64 a,.int .i64 e] w B (fun v _=>v=.tuple #[.int .i64 (choosePivot lt d a e).1,.int .i64 (Gz (choosePivot lt d a e).2)]):=by
 obtain⟨Ln,rfl⟩:∃ Ln,e=a+Ln:=⟨e-a,by omega⟩
 rw[zst] at h12;unfold choosePivot;rw[zst];dsimp only;obtain⟨q,hq⟩:∃ q,q=Ln/4:=⟨_,rfl⟩
 rw[<-hq,na T];have hw0:IntKind.i64.wrap (((a+Ln:Nat):Int)-(a:Int))=(Ln:Int):=xb T T |>.trans T
 have et:((Ln:Nat):Int).tdiv 4=(q:Int):=by
  rw[zr0 T];omega
 have hq1:IntKind.i64.wrap (((Ln:Nat):Int).tdiv 4)=(q:Int):=by rw[et];exact xb T T
 have m1:IntKind.i64.wrap ((q:Int)*1)=((q*1:Nat):Int):=xb T T |>.trans T;have m2:IntKind.i64.wrap ((q:Int)*2)=((q*2:Nat):Int):=xb T T |>.trans T;have m3:IntKind.i64.wrap ((q:Int)*3)=((q*3:Nat):Int):=xb T T |>.trans T;have p1:IntKind.i64.wrap ((a:Int)+((q*1:Nat):Int))=((a+q*1:Nat):Int):=xb T T |>.trans T;have p2:IntKind.i64.wrap ((a:Int)+((q*2:Nat):Int))=((a+q*2:Nat):Int):=xb T T |>.trans T;have p3:IntKind.i64.wrap ((a:Int)+((q*3:Nat):Int))=((a+q*3:Nat):Int):=xb T T |>.trans T;refine yr Tryz.func274 Z Tryz.ntmps274 (np Z) hB ((ZbX∘ZaW∘ZaQ∘Zd∘Zv∘ZE∘Zg) ?_);refine jd 9 901 rfl fun bs=>?_;by_cases h50:Ln>=50
 ·rw[na h50];obtain⟨r1,hr1⟩:∃ r,r=medianAdjacent lt d (a+q*1) 0:=⟨_,rfl⟩
  rw[<-hr1];obtain⟨r2,hr2⟩:∃ r,r=medianAdjacent lt d (a+q*2) r1.2:=⟨_,rfl⟩
  rw[<-hr2];obtain⟨r3,hr3⟩:∃ r,r=medianAdjacent lt d (a+q*3) r2.2:=⟨_,rfl⟩
  rw[<-hr3];obtain⟨r4,hr4⟩:∃ r,r=median lt d r1.1 r2.1 r3.1 r3.2:=⟨_,rfl⟩
  rw[<-hr4];obtain⟨l1,s1⟩:r1.1<m/\r1.2<=0+3:=hr1 ▸ Xl d T T T;obtain⟨l2,s2⟩:r2.1<m/\r2.2<=r1.2+3:=hr2 ▸ Xl d T T T;obtain⟨l3,s3⟩:r3.1<m/\r3.2<=r2.2+3:=hr3 ▸ Xl d T T T;by_cases z0:r4.2=0
  ·rw[na z0];refine(ZcE∘Zcu∘Zd∘Zt∘Zb∘Zcu∘Zd∘ZbG∘Zcu∘Zk∘ZL∘Zcp∘Zf∘Z7∘Zbz∘Zn∘Zu∘Zb) ?_;refine qg (yk L 901 (xc bs [.int .i64 r1.2] tyI) (.int .i64 r1.1) (r:=xc bs [.int .i64 0] tyI) Z Z Z Z Z (fun u H C hH hle hr hC=>by have h:=l5 (rest:=rest) (cap:=cap) (d:=d) (x:=a+q*1) (k:=0) T T hm hm1 T hH (hle _ _ hb) hr hC;rw[<-hr1] at h;exact h)) ?_;refine(Zd∘Z2∘Zb) ?_;refine qg (yk L 901 (xc bs [.int .i64 r2.2] tyI) (.int .i64 r2.1) (r:=xc bs [.int .i64 r1.2] tyI) Z Z Z Z Z (fun u H C hH hle hr hC=>by have h:=l5 (rest:=rest) (cap:=cap) (d:=d) (x:=a+q*2) (k:=r1.2) T T hm hm1 T hH (hle _ _ hb) hr hC;rw[<-hr2] at h;exact h)) ?_;refine(Zc∘Z4∘Zb) ?_;refine qg (yk L 901 (xc bs [.int .i64 r3.2] tyI) (.int .i64 r3.1) (r:=xc bs [.int .i64 r2.2] tyI) Z Z Z Z Z (fun u H C hH hle hr hC=>by have h:=l5 (rest:=rest) (cap:=cap) (d:=d) (x:=a+q*3) (k:=r2.2) T T hm hm1 T hH (hle _ _ hb) hr hC;rw[<-hr3] at h;exact h)) ?_;refine(Zc∘ZG∘Zbv) ?_;refine qg (yk L 901 (xc bs [.int .i64 r4.2] tyI) (.int .i64 r4.1) (r:=xc bs [.int .i64 r3.2] tyI) Z Z Z Z Z (fun u H C hH hle hr hC=>by have h:=oz (rest:=rest) (cap:=cap) (d:=d) (x:=r1.1) (y:=r2.1) (z:=r3.1) (k:=r3.2) T T T hm hm1 T hH (hle _ _ hb) hr hC;rw[<-hr4] at h;exact h)) ?_;refine(Zd∘ZJ∘Zev∘Zw∘ZF∘ZaD∘ZN∘ZbE∘Ze∘Zaa∘Za∘ZI) ?_;exact yj2 L [.tmp 6,.tmp 7]
  ·rw[nc z0];by_cases z12:r4.2=12
   ·rw[na z12];refine(ZcE∘Zcu∘Zd∘Zt∘Zb∘Zcu∘Zd∘ZbG∘Zcu∘Zk∘ZL∘Zcp∘Zf∘Z7∘Zbz∘Zn∘Zu∘Zb) ?_;refine qg (yk L 901 (xc bs [.int .i64 r1.2] tyI) (.int .i64 r1.1) (r:=xc bs [.int .i64 0] tyI) Z Z Z Z Z (fun u H C hH hle hr hC=>by have h:=l5 (rest:=rest) (cap:=cap) (d:=d) (x:=a+q*1) (k:=0) T T hm hm1 T hH (hle _ _ hb) hr hC;rw[<-hr1] at h;exact h)) ?_;refine(Zd∘Z2∘Zb) ?_;refine qg (yk L 901 (xc bs [.int .i64 r2.2] tyI) (.int .i64 r2.1) (r:=xc bs [.int .i64 r1.2] tyI) Z Z Z Z Z (fun u H C hH hle hr hC=>by have h:=l5 (rest:=rest) (cap:=cap) (d:=d) (x:=a+q*2) (k:=r1.2) T T hm hm1 T hH (hle _ _ hb) hr hC;rw[<-hr2] at h;exact h)) ?_;refine(Zc∘Z4∘Zb) ?_;refine qg (yk L 901 (xc bs [.int .i64 r3.2] tyI) (.int .i64 r3.1) (r:=xc bs [.int .i64 r2.2] tyI) Z Z Z Z Z (fun u H C hH hle hr hC=>by have h:=l5 (rest:=rest) (cap:=cap) (d:=d) (x:=a+q*3) (k:=r2.2) T T hm hm1 T hH (hle _ _ hb) hr hC;rw[<-hr3] at h;exact h)) ?_;refine(Zc∘ZG∘Zbv) ?_;refine qg (yk L 901 (xc bs [.int .i64 r4.2] tyI) (.int .i64 r4.1) (r:=xc bs [.int .i64 r3.2] tyI) Z Z Z Z Z (fun u H C hH hle hr hC=>by have h:=oz (rest:=rest) (cap:=cap) (d:=d) (x:=r1.1) (y:=r2.1) (z:=r3.1) (k:=r3.2) T T T hm hm1 T hH (hle _ _ hb) hr hC;rw[<-hr4] at h;exact h)) ?_;refine(Zd∘ZJ∘Zev∘Zw∘ZF∘ZaD∘ZT∘Zav∘Zaj∘ZN∘ZbE∘Ze∘Zbx∘Za∘ZI) ?_;exact yj2 L [.tmp 6,.tmp 7]
   ·rw[nc z12];refine(ZcE∘Zcu∘Zd∘Zt∘Zb∘Zcu∘Zd∘ZbG∘Zcu∘Zk∘ZL∘Zcp∘Zf∘Z7∘Zbz∘Zn∘Zu∘Zb) ?_;refine qg (yk L 901 (xc bs [.int .i64 r1.2] tyI) (.int .i64 r1.1) (r:=xc bs [.int .i64 0] tyI) Z Z Z Z Z (fun u H C hH hle hr hC=>by have h:=l5 (rest:=rest) (cap:=cap) (d:=d) (x:=a+q*1) (k:=0) T T hm hm1 T hH (hle _ _ hb) hr hC;rw[<-hr1] at h;exact h)) ?_;refine(Zd∘Z2∘Zb) ?_;refine qg (yk L 901 (xc bs [.int .i64 r2.2] tyI) (.int .i64 r2.1) (r:=xc bs [.int .i64 r1.2] tyI) Z Z Z Z Z (fun u H C hH hle hr hC=>by have h:=l5 (rest:=rest) (cap:=cap) (d:=d) (x:=a+q*2) (k:=r1.2) T T hm hm1 T hH (hle _ _ hb) hr hC;rw[<-hr2] at h;exact h)) ?_;refine(Zc∘Z4∘Zb) ?_;refine qg (yk L 901 (xc bs [.int .i64 r3.2] tyI) (.int .i64 r3.1) (r:=xc bs [.int .i64 r2.2] tyI) Z Z Z Z Z (fun u H C hH hle hr hC=>by have h:=l5 (rest:=rest) (cap:=cap) (d:=d) (x:=a+q*3) (k:=r2.2) T T hm hm1 T hH (hle _ _ hb) hr hC;rw[<-hr3] at h;exact h)) ?_;refine(Zc∘ZG∘Zbv) ?_;refine qg (yk L 901 (xc bs [.int .i64 r4.2] tyI) (.int .i64 r4.1) (r:=xc bs [.int .i64 r3.2] tyI) Z Z Z Z Z (fun u H C hH hle hr hC=>by have h:=oz (rest:=rest) (cap:=cap) (d:=d) (x:=r1.1) (y:=r2.1) (z:=r3.1) (k:=r3.2) T T T hm hm1 T hH (hle _ _ hb) hr hC;rw[<-hr4] at h;exact h)) ?_;refine(Zd∘ZJ∘Zev∘Zw∘ZF∘ZaD∘ZT∘Zav∘Zaj∘ZT∘Zav∘Zae∘Za∘ZI) ?_;exact yj2 L [.tmp 6,.tmp 7]
 ·rw[nc h50];obtain⟨r4,hr4⟩:∃ r,r=median lt d (a+q*1) (a+q*2) (a+q*3) 0:=⟨_,rfl⟩
  rw[<-hr4];by_cases z0:r4.2=0
  ·rw[na z0];refine(ZcE∘Zcu∘Zd∘Zt∘Zb∘Zcu∘Zd∘ZbG∘Zcu∘Zk∘ZL∘Zcp∘Zf∘Z7∘Za6∘Zac∘Zbr∘ZG∘Zbv) ?_;refine qg (yk L 901 (xc bs [.int .i64 r4.2] tyI) (.int .i64 r4.1) (r:=xc bs [.int .i64 0] tyI) Z Z Z Z Z (fun u H C hH hle hr hC=>by have h:=oz (rest:=rest) (cap:=cap) (d:=d) (x:=a+q*1) (y:=a+q*2) (z:=a+q*3) (k:=0) T T T hm hm1 T hH (hle _ _ hb) hr hC;rw[<-hr4] at h;exact h)) ?_;refine(Zd∘ZJ∘Zev∘Zw∘ZF∘ZaD∘ZN∘ZbE∘Ze∘Zaa∘Za∘ZI) ?_;exact yj2 L [.tmp 6,.tmp 7]
  ·rw[nc z0];by_cases z12:r4.2=12
   ·rw[na z12];refine(ZcE∘Zcu∘Zd∘Zt∘Zb∘Zcu∘Zd∘ZbG∘Zcu∘Zk∘ZL∘Zcp∘Zf∘Z7∘Za6∘Zac∘Zbr∘ZG∘Zbv) ?_;refine qg (yk L 901 (xc bs [.int .i64 r4.2] tyI) (.int .i64 r4.1) (r:=xc bs [.int .i64 0] tyI) Z Z Z Z Z (fun u H C hH hle hr hC=>by have h:=oz (rest:=rest) (cap:=cap) (d:=d) (x:=a+q*1) (y:=a+q*2) (z:=a+q*3) (k:=0) T T T hm hm1 T hH (hle _ _ hb) hr hC;rw[<-hr4] at h;exact h)) ?_;refine(Zd∘ZJ∘Zev∘Zw∘ZF∘ZaD∘ZT∘Zav∘Zaj∘ZN∘ZbE∘Ze∘Zbx∘Za∘ZI) ?_;exact yj2 L [.tmp 6,.tmp 7]
   ·rw[nc z12];refine(ZcE∘Zcu∘Zd∘Zt∘Zb∘Zcu∘Zd∘ZbG∘Zcu∘Zk∘ZL∘Zcp∘Zf∘Z7∘Za6∘Zac∘Zbr∘ZG∘Zbv) ?_;refine qg (yk L 901 (xc bs [.int .i64 r4.2] tyI) (.int .i64 r4.1) (r:=xc bs [.int .i64 0] tyI) Z Z Z Z Z (fun u H C hH hle hr hC=>by have h:=oz (rest:=rest) (cap:=cap) (d:=d) (x:=a+q*1) (y:=a+q*2) (z:=a+q*3) (k:=0) T T T hm hm1 T hH (hle _ _ hb) hr hC;rw[<-hr4] at h;exact h)) ?_;refine(Zd∘ZJ∘Zev∘Zw∘ZF∘ZaD∘ZT∘Zav∘Zaj∘ZT∘Zav∘Zae∘Za∘ZI) ?_;exact yj2 L [.tmp 6,.tmp 7]
def _root_.Zeh(t:Wr Y->A:=by intro h;refine qn (id:=17) [(200080,[900]),(200084,[900])] ko J ?_;exact h.1)(h:Y):A:=t ⟨h⟩
def _root_.Zei(t:Wr Y->A:=by intro h;refine ze (id:=23) ?_;exact h.1)(h:Y):A:=t ⟨h⟩
def Ya{h:Hint}:Gz h=2↔h=.decreasing:=by cases h<;>simp [Gz]
def zhj{cs:List Value}:∀ v H u C,(xu b cs ty).P v H u C->joinH H u C b=some (.cells cs.toArray ty):=fun _ _ _ _ ⟨hb,hC⟩=>(cm ((hC b).2 rfl)).trans hb
def zgv:∀ (N:Nat) {d:Array Int} {rest:List Value} {b m cap a e lim:Nat} (_:e-a<N) (_:a<=e) (_:e<=m) (_:d.size=m) (_:m<=100000) (_:lim<=1000) (_:Below lt a e d) {w:World} {B:Heap} {C:Nat->Prop} (_:zs4 B w)
  (_:(xc b (uC d++rest) tyU).P B w C) (_:ZCB C w B),
  kz zs5 247 [.slice (some ⟨b,0,none⟩) m cap,.int .i64 a,.int .i64 e,.int .i64 lim] w B C (xc b (uC (pdq lt d a e lim true true)++rest) tyU):=by
 intro N
 induction N with
 | zero=>intro d rest b m cap a e lim h;omega
 | succ N ih=>
 intro d rest b m cap a e lim hN hab he hm hm1 hlim hBel w B C hB hr hC;unfold kz;refine xf 900 (xc b (uC d++rest) tyU) Tryz.func247 Z Tryz.ntmps247 (np Z) hB hr hC ?_;rw[xd];obtain⟨X,hX⟩:∃ X,X=pdq lt d a e lim true true:=⟨_,rfl⟩
 rw[<-hX];refine(ZK∘ZaX) ?_
 refine xp (fun s:((Nat×Nat)×Nat)×((Bool×Bool)×Array Int)=>[(0,.is (.slice (some ⟨b,0,none⟩) m cap)),(1,.is (.int .i64 s.1.1.1)),(2,.is (.int .i64 s.1.1.2)),(3,.is (.int .i64 s.1.2)),(8,.is (.bool s.2.1.1)),(9,.is (.bool s.2.1.2)),(900,.own (xu b (uC s.2.2++rest) tyU))])
  (fun s=>s.1.1.1<=s.1.1.2/\s.1.1.2<=m/\s.1.1.2-s.1.1.1<=e-a/\s.1.2<=1000/\s.2.2.size=m/\Below lt s.1.1.1 s.1.1.2 s.2.2/\pdq lt s.2.2 s.1.1.1 s.1.1.2 s.1.2 s.2.1.1 s.2.1.2=X) (fun s=>s.1.1.2-s.1.1.1) (((a,e),lim),((true,true),d)) ⟨hab,he,nu _,hlim,hm,hBel,hX.symm⟩ ⟨rfl,rfl,rfl,rfl,rfl,rfl,rfl,nm⟩ ?_
 rintro⟨⟨⟨x,y⟩,l⟩,⟨⟨wb,wp⟩,D⟩⟩ ⟨hxy,hy,hL,hl,hD,hBl,hP⟩;dsimp only at hxy hy hL hl hD hBl hP |-;clear hX hBel hm;have hw0:IntKind.i64.wrap ((y:Int)-(x:Int))=((y-x:Nat):Int):=xb T T |>.trans T;by_cases h12:y-x<=12
 ·rw[pdq_small h12] at hP;rw[<-hP];refine(ZF∘Za9∘Zax∘Zk∘Zr∘ZcW∘Zn∘Zt∘Z8) ?_;refine qg (xe L 900 (xc b (uC (insertionSort lt D x y)++rest) tyU) (r:=xc b (uC D++rest) tyU) Z Z Z Z Z (fun u H C hH _ hr hC=>ins_ret hxy T hD hm1 hH hr hC)) (Zw (h:=?_));exact jm L 900 (r:=xc b _ tyU) Z (fun _ _ h=>h) nq Z Z
 ·by_cases hl0:l=0
  ·rw[pdq_heap h12 hl0] at hP;rw[<-hP];refine(ZF∘Za9∘Zax∘Zk∘Zr∘ZcO∘ZV∘ZS∘ZN∘Zn∘ZO∘Z8) ?_;refine qg (xe L 900 (xc b (uC (heapSort lt D x y)++rest) tyU) (r:=xc b (uC D++rest) tyU) Z Z Z Z Z (fun u H C hH _ hr hC=>zc3 T T hD hm1 hH hr hC)) (Zw (h:=?_));exact jm L 900 (r:=xc b _ tyU) Z (fun _ _ h=>h) nq Z Z
  ·obtain⟨s1,B1,hc1,s2,B2,hpv,s3,B3⟩:=rd_facts (lt:=lt) (limit:=l) (wb:=wb) (wp:=wp) swo_ltInt partialInsertionSort_holds reverseRange_holds (show x<y by omega) (show y<=D.size by omega) hBl;have hlle:(rd lt D x y l wb wp).lim<=1000:=mp rd_lim_le hl;have hdone:=fun h=>pdq_done (lt:=lt) (d:=D) (wb:=wb) (wp:=wp) h12 hl0 h;have heq:=fun h1 h2 h3=>pdq_eq (lt:=lt) (d:=D) (wb:=wb) (wp:=wp) h12 hl0 h1 h2 h3;have hleft:=fun h1 h2 h3 h4=>pdq_left (lt:=lt) (d:=D) (wb:=wb) (wp:=wp) h12 hl0 h1 h2 h3 h4;have hright:=fun h1 h2 h3 h4=>pdq_right (lt:=lt) (d:=D) (wb:=wb) (wp:=wp) h12 hl0 h1 h2 h3 h4;have hrt:wb=true->(rd lt D x y l wb wp).d1=D/\(rd lt D x y l wb wp).lim=l:=fun e=>by subst e;exact rd_true
   have hrf:wb=false->(rd lt D x y l wb wp).d1=breakPatterns D x y/\(rd lt D x y l wb wp).lim=l-1:=fun e=>by subst e;exact rd_false
   have hrc:=rd_c (lt:=lt) (d:=D) (a:=x) (b:=y) (limit:=l) (wb:=wb) (wp:=wp);have hde:=fun h=>rd_dec (lt:=lt) (d:=D) (a:=x) (b:=y) (limit:=l) (wb:=wb) (wp:=wp) h;have hno:=fun h=>rd_not (lt:=lt) (d:=D) (a:=x) (b:=y) (limit:=l) (wb:=wb) (wp:=wp) h;have hpy:=fun h=>rd_pi_yes (lt:=lt) (d:=D) (a:=x) (b:=y) (limit:=l) (wb:=wb) (wp:=wp) h;have hpn:=fun h=>rd_pi_no (lt:=lt) (d:=D) (a:=x) (b:=y) (limit:=l) (wb:=wb) (wp:=wp) h;rw[hP] at hdone heq hleft hright;generalize (rd lt D x y l wb wp)=R at *;refine(ZF∘Za9∘Zax∘Zk∘Zr∘ZcO∘ZV∘ZS∘Zdz) ?_;refine o8 (fun _:Unit=>[(0,.is (.slice (some ⟨b,0,none⟩) m cap)),(1,.is (.int .i64 x)),(2,.is (.int .i64 y)),(3,.is (.int .i64 R.lim)),(8,.is (.bool wb)),(9,.is (.bool wp)),(10,.is (.int .i64 (y-x:Nat))),(900,.own (xu b (uC R.d1++rest) tyU))]) (fun _=>True) (fun _=>[]) ?rest1 ?first1
   case first1=>
    cases wb with
    | true=>
     obtain⟨e1,e2⟩:=hrt rfl;rw[e1,e2];refine(Z7∘Zm∘Zac) ?_;exact wd () nq trivial Z ⟨Z,Z,Z,Z,Z,Z,Z,Z,nm⟩
    | false=>
     obtain⟨e1,e2⟩:=hrf rfl;have hw1:IntKind.i64.wrap ((l:Int)-1)=((l-1:Nat):Int):=xb T T |>.trans T;rw[e1,e2];refine(Z7∘Zm∘Zn∘Zu∘Z8) ?_;refine qg (xe L 900 (xc b (uC (breakPatterns D x y)++rest) tyU) (r:=xc b (uC D++rest) tyU) Z Z Z Z Z (fun u H C hH _ hr hC=>zh8 T T hD hm1 hH hr hC)) ((Zw∘Zaq∘Zax∘Zby) ?_);exact wd () nq trivial Z ⟨Z,Z,Z,Z,Z,Z,Z,Z,nm⟩
   intro _ _;refine(Ze∘Z4∘Z8) ?_;refine ye (xy L 900 (Φ:=fun H=>H b=some (.cells (uC R.d1++rest).toArray tyU)) (c:=.tuple #[.int .i64 R.c.1,.int .i64 (Gz R.c.2)]) Z Z (zm Z) Z Z Z Z Z zhj (fun u H hH hle h1=>by rw[hrc];exact zgq T hy T hm1 hH h1)) ?_;refine(ZA∘ZcM) ?_;refine o8 (fun _:Unit=>[(0,.is (.slice (some ⟨b,0,none⟩) m cap)),(1,.is (.int .i64 x)),(2,.is (.int .i64 y)),(3,.is (.int .i64 R.lim)),(8,.is (.bool wb)),(9,.is (.bool wp)),(10,.is (.int .i64 (y-x:Nat))),(11,.is (.int .i64 R.pivot)),(12,.is (.int .i64 (Gz R.hint))),(900,.own (xu b (uC R.d2++rest) tyU))]) (fun _=>True) (fun _=>[]) ?rest2 ?first2
   case first2=>
    by_cases hdec:R.c.2=.decreasing
    ·obtain⟨e1,e2,e3⟩:=hde hdec;have hz:Gz R.c.2=2:=by rw[hdec];rfl
     rw[e1,e2,e3];have w1:IntKind.i64.wrap ((y:Int)-1)=((y-1:Nat):Int):=xb T T |>.trans T;have w2:IntKind.i64.wrap ((R.c.1:Int)-(x:Int))=((R.c.1-x:Nat):Int):=xb T T |>.trans T;have w3:IntKind.i64.wrap (((y-1:Nat):Int)-((R.c.1-x:Nat):Int))=((y-1-(R.c.1-x):Nat):Int):=xb T T |>.trans T;refine(ZG∘Za∘ZN∘Zn∘ZJ∘Z8) ?_;refine qg (xe L 900 (xc b (uC (reverseRange R.d1 x y)++rest) tyU) (r:=xc b (uC R.d1++rest) tyU) Z Z Z Z Z (fun u H C hH _ hr hC=>zgl T T T hm1 hH hr hC)) ((Zg∘Zae∘Za∘Zax∘ZaQ∘Zax∘Zc∘ZaD∘Zby) ?_);exact wd () nq trivial Z ⟨Z,Z,Z,Z,Z,Z,Z,Z,Z,Z,nm⟩
    ·obtain⟨e1,e2,e3⟩:=hno hdec;have hz:Gz R.c.2≠2:=fun h=>hdec (Ya.1 h);rw[e1,e2,e3];refine(ZG∘Za∘ZT∘Zac) ?_;exact wd () nq trivial Z ⟨Z,Z,Z,Z,Z,Z,Z,Z,Z,Z,nm⟩
   intro _ _;refine zj (zj (o8 (fun _:Unit=>[(0,.is (.slice (some ⟨b,0,none⟩) m cap)),(1,.is (.int .i64 x)),(2,.is (.int .i64 y)),(3,.is (.int .i64 R.lim)),(8,.is (.bool wb)),(9,.is (.bool wp)),(10,.is (.int .i64 (y-x:Nat))),(11,.is (.int .i64 R.pivot)),(900,.own (xu b (uC R.pi.1++rest) tyU))]) (fun _=>R.pi.2=false) (fun _=>[]) ?rest3 ?first3))
   case first3=>
    cases wb with
    | false=>
     have hpi:=hpn rfl;rw[hpi];refine(Zaa∘Zb∘Za4∘ZcL∘Zi∘Zac) ?_;exact wd () nq Z Z ⟨Z,Z,Z,Z,Z,Z,Z,Z,Z,nm⟩
    | true=>
     cases wp with
     | false=>
      have hpi:=hpn rfl;rw[hpi];refine(Zaa∘Z8∘Zi∘ZcL∘Zi∘Zac) ?_;exact wd () nq Z Z ⟨Z,Z,Z,Z,Z,Z,Z,Z,Z,nm⟩
     | true=>
      by_cases hi:R.hint=.increasing
      ·have hz:Gz R.hint=1:=by rw[hi];rfl
       have hpi:=hpy (by rw[hi];rfl)
       cases hb:(partialInsertionSort lt R.d2 x y).2 with
       | true=>
        rw[hdone (by rw[hpi];exact hb)];refine(Zaa∘Z8∘ZbI∘ZN∘Zbe∘Zaj∘Z8) ?_;refine qg (yk L 900 (xc b (uC R.pi.1++rest) tyU) (.bool true) (r:=xc b (uC R.d2++rest) tyU) Z Z Z Z Z (fun u H C hH hle hr hC=>by have h:=pins_ret (rest:=rest) (cap:=cap) (d:=R.d2) (a:=x) (e:=y) (m:=m) T T T hm1 hH hr hC;rw[hb,<-hpi] at h;exact h)) ?_;refine Z3 (h:=?_);exact jm L 900 (r:=xc b _ tyU) Z (fun _ _ h=>h) nq Z Z
       | false=>
        refine(Zaa∘Z8∘ZbI∘ZN∘Zbe∘Zaj∘Z8) ?_;refine qg (yk L 900 (xc b (uC R.pi.1++rest) tyU) (.bool false) (r:=xc b (uC R.d2++rest) tyU) Z Z Z Z Z (fun u H C hH hle hr hC=>by have h:=pins_ret (rest:=rest) (cap:=cap) (d:=R.d2) (a:=x) (e:=y) (m:=m) T T T hm1 hH hr hC;rw[hb,<-hpi] at h;exact h)) ?_;refine Zac (h:=?_);exact wd () nq (by rw[hpi];exact hb) Z ⟨Z,Z,Z,Z,Z,Z,Z,Z,Z,nm⟩
      ·have hz:Gz R.hint≠1:=fun h=>by
        cases hh:R.hint with
        | unknown=>rw[hh] at h;cases h
        | increasing=>exact hi hh
        | decreasing=>rw[hh] at h;cases h
       have hpi:=hpn (by simp [hi]);rw[hpi];refine(Zaa∘Z8∘ZbI∘ZT∘Zi∘Zac) ?_;exact wd () nq Z Z ⟨Z,Z,Z,Z,Z,Z,Z,Z,Z,nm⟩
   intro _ h2;obtain⟨_,q2⟩:=gv (rest:=rest) (show R.pivot<R.pi.1.size by omega) (0+(R.pivot)*1) rfl;by_cases hx0:0<x
   ·obtain⟨_,q1⟩:=gv (rest:=rest) (show x-1<R.pi.1.size by omega) (0+(x-1)*1) rfl;have hw3:IntKind.i64.wrap ((x:Int)-1)=((x-1:Nat):Int):=xb T T |>.trans T
    cases hc:lt R.pi.1[x-1]! R.pi.1[R.pivot]! with
    | false=>
     obtain⟨mid,d4,hx⟩:∃ mid d4,partitionEqual lt R.pi.1 x y R.pivot=(mid,d4):=⟨_,_,rfl⟩
     obtain⟨g1,g2,g3,g4,_⟩:=round_eq swo_ltInt (partitionEqual_holds lt) hx0 hpv.1 hpv.2 T B3 hc hx;have hn:=heq h2 (by simp [hx0,hc]) (by rw[hx];exact⟨g1,g2⟩);rw[hx] at hn;refine(Zf∘Zeh∘Zl∘Zd4∘Zbk∘ZdR∘Zq) ?_;refine qv (qh L (q:=900) Z Z Z q1) Z Z (ZX (h:=?_));refine qv (qh L (q:=900) Z Z Z q2) Z Z (z81 L Z (fun u H hH _=>jy hc hH) ?_);refine(ZaG∘ZbC∘Ze∘ZaO∘Zbv) ?_;refine qg (yk L 900 (xc b (uC d4++rest) tyU) (.int .i64 mid) (r:=xc b (uC R.pi.1++rest) tyU) Z Z Z Z Z (fun u H C hH hle hr hC=>by have h:=zgu (rest:=rest) (cap:=cap) (d:=R.pi.1) hpv.1 hpv.2 T (m:=m) T hm1 hH hr hC;rw[hx] at h;exact h)) ?_;refine(Zd∘Zcs∘Za∘Zc∘Ze9∘Zd2) ?_;exact yo (x:=(((x,y),l),((wb,wp),D))) (((mid,y),R.lim),((wb,wp),d4)) ⟨by dsimp only;omega,hy,by dsimp only;omega,hlle,by dsimp only;omega,g4,hn.symm⟩ G ⟨Z,Z,Z,Z,Z,Z,Z,trivial⟩
    | true=>
     have h2b:(decide (x>0) && !lt R.pi.1[x-1]! R.pi.1[R.pivot]!)=false:=by simp [hc]
     obtain⟨mid,ap,d4,hx⟩:∃ mid ap d4,Go.Sort.partition lt R.pi.1 x y R.pivot=(mid,ap,d4):=⟨_,_,_,rfl⟩
     obtain⟨g1,g2,g3,g4,g5,gL,gR⟩:=round_part swo_ltInt (partition_holds lt) hpv.1 hpv.2 T B3 hx;have w1:IntKind.i64.wrap ((mid:Int)-(x:Int))=((mid-x:Nat):Int):=xb T T |>.trans T;have w2:IntKind.i64.wrap ((y:Int)-(mid:Int))=((y-mid:Nat):Int):=xb T T |>.trans T;have w4:IntKind.i64.wrap ((mid:Int)+1)=((mid+1:Nat):Int):=xb T T
     have et:((y-x:Nat):Int).tdiv 8=(((y-x)/8:Nat):Int):=by
      rw[zr0 T];omega
     have w3:IntKind.i64.wrap (((y-x:Nat):Int).tdiv 8)=(((y-x)/8:Nat):Int):=by rw[et];exact xb T T
     by_cases hlr:mid-x<y-mid
     ·have hn:=hleft h2 h2b (by rw[hx];exact⟨g1,g2⟩) (by rw[hx];exact hlr);rw[hx] at hn;dsimp only at hn;obtain⟨pL,sL⟩:=pdq_sorts lt swo_ltInt d4 x mid R.lim true true g1 T g4;obtain⟨LL,hLL⟩:∃ LL,LL=pdq lt d4 x mid R.lim true true:=⟨_,rfl⟩
      rw[<-hLL] at hn pL sL;obtain⟨gB,_⟩:=gL LL pL sL;have hLs:LL.size=d4.size:=pL.1;by_cases h8:mid-x>=(y-x)/8
      ·rw[nf h8] at hn;refine(Zf∘Zeh∘Zl∘Zd4∘Zbk∘ZdR∘Zq) ?_;refine qv (qh L (q:=900) Z Z Z q1) Z Z (ZX (h:=?_));refine qv (qh L (q:=900) Z Z Z q2) Z Z (z81 L Z (fun u H hH _=>jy hc hH) ?_);refine(ZaG∘Zam∘Zao∘ZaP∘Zbv) ?_;refine qg (yk L 900 (xc b (uC d4++rest) tyU) (.tuple #[.int .i64 mid,.bool ap]) (r:=xc b (uC R.pi.1++rest) tyU) Z Z Z Z Z (fun u H C hH hle hr hC=>by have h:=d9 (rest:=rest) (cap:=cap) (d:=R.pi.1) hpv.1 hpv.2 T (m:=m) T hm1 hH hr hC;rw[hx] at h;exact h)) ?_;refine(ZcA∘ZcJ∘Za∘Zd∘Zd0∘ZaQ∘ZaQ∘ZaY∘Zei∘Za∘Zdr∘Zd∘ZdO∘Zb∘ZU∘Zn) ?_;refine ze (id:=25) ((Zb∘Zbz∘Zd) ?_);refine ze (id:=26) (Zbv (h:=?_));refine qg (xe L 900 (xc b (uC LL++rest) tyU) (r:=xc b (uC d4++rest) tyU) Z Z Z Z Z (fun u H C hH _ hr hC=>by rw[hLL];exact ih T g1 T T hm1 hlle g4 hH hr hC)) ?_;refine Zw (h:=?_);refine ze (id:=27) ((Za∘ZC∘Zag) ?_);exact yo (x:=(((x,y),l),((wb,wp),D))) (((mid+1,y),R.lim),((true,ap),LL)) ⟨by dsimp only;omega,hy,by dsimp only;omega,hlle,by dsimp only;omega,gB,hn.symm⟩ G ⟨Z,Z,Z,Z,Z,Z,Z,trivial⟩
      ·rw[ng h8] at hn;refine(Zf∘Zeh∘Zl∘Zd4∘Zbk∘ZdR∘Zq) ?_;refine qv (qh L (q:=900) Z Z Z q1) Z Z (ZX (h:=?_));refine qv (qh L (q:=900) Z Z Z q2) Z Z (z81 L Z (fun u H hH _=>jy hc hH) ?_);refine(ZaG∘Zam∘Zao∘ZaP∘Zbv) ?_;refine qg (yk L 900 (xc b (uC d4++rest) tyU) (.tuple #[.int .i64 mid,.bool ap]) (r:=xc b (uC R.pi.1++rest) tyU) Z Z Z Z Z (fun u H C hH hle hr hC=>by have h:=d9 (rest:=rest) (cap:=cap) (d:=R.pi.1) hpv.1 hpv.2 T (m:=m) T hm1 hH hr hC;rw[hx] at h;exact h)) ?_;refine(ZcA∘ZcJ∘Za∘Zd∘Zd0∘ZaQ∘ZaQ∘ZaY∘Zei∘Za∘Zdr∘Zd∘ZdO∘Zb∘ZU∘Zn) ?_;refine ze (id:=25) ((Zb∘Za6∘Zd) ?_);refine ze (id:=26) (Zbv (h:=?_));refine qg (xe L 900 (xc b (uC LL++rest) tyU) (r:=xc b (uC d4++rest) tyU) Z Z Z Z Z (fun u H C hH _ hr hC=>by rw[hLL];exact ih T g1 T T hm1 hlle g4 hH hr hC)) ?_;refine Zw (h:=?_);refine ze (id:=27) ((Za∘ZC∘Zag) ?_);exact yo (x:=(((x,y),l),((wb,wp),D))) (((mid+1,y),R.lim),((false,ap),LL)) ⟨by dsimp only;omega,hy,by dsimp only;omega,hlle,by dsimp only;omega,gB,hn.symm⟩ G ⟨Z,Z,Z,Z,Z,Z,Z,trivial⟩
     ·have hn:=hright h2 h2b (by rw[hx];exact⟨g1,g2⟩) (by rw[hx];exact hlr);rw[hx] at hn;dsimp only at hn;obtain⟨pL,sL⟩:=pdq_sorts lt swo_ltInt d4 (mid+1) y R.lim true true T T g5;obtain⟨LL,hLL⟩:∃ LL,LL=pdq lt d4 (mid+1) y R.lim true true:=⟨_,rfl⟩
      rw[<-hLL] at hn pL sL;obtain⟨gB,_⟩:=gR LL pL sL;have hLs:LL.size=d4.size:=pL.1;by_cases h8:y-mid>=(y-x)/8
      ·rw[nf h8] at hn;refine(Zf∘Zeh∘Zl∘Zd4∘Zbk∘ZdR∘Zq) ?_;refine qv (qh L (q:=900) Z Z Z q1) Z Z (ZX (h:=?_));refine qv (qh L (q:=900) Z Z Z q2) Z Z (z81 L Z (fun u H hH _=>jy hc hH) ?_);refine(ZaG∘Zam∘Zao∘ZaP∘Zbv) ?_;refine qg (yk L 900 (xc b (uC d4++rest) tyU) (.tuple #[.int .i64 mid,.bool ap]) (r:=xc b (uC R.pi.1++rest) tyU) Z Z Z Z Z (fun u H C hH hle hr hC=>by have h:=d9 (rest:=rest) (cap:=cap) (d:=R.pi.1) hpv.1 hpv.2 T (m:=m) T hm1 hH hr hC;rw[hx] at h;exact h)) ?_;refine(ZcA∘ZcJ∘Za∘Zd∘Zd0∘ZaQ∘ZaQ∘ZaY∘Zei∘Za∘Zdr∘Zd∘ZdO∘Zb∘Z0∘Zdo) ?_;refine ze (id:=28) ((Zb∘Zbz∘Zd) ?_);refine ze (id:=29) ((Zb∘ZC∘Zb) ?_);refine qg (xe L 900 (xc b (uC LL++rest) tyU) (r:=xc b (uC d4++rest) tyU) Z Z Z Z Z (fun u H C hH _ hr hC=>by rw[hLL];exact ih T T hy T hm1 hlle g5 hH hr hC)) ?_;refine Zw (h:=?_);refine ze (id:=30) ((Za∘Zag) ?_);exact yo (x:=(((x,y),l),((wb,wp),D))) (((x,mid),R.lim),((true,ap),LL)) ⟨by dsimp only;omega,by dsimp only;omega,by dsimp only;omega,hlle,by dsimp only;omega,gB,hn.symm⟩ G ⟨Z,Z,Z,Z,Z,Z,Z,trivial⟩
      ·rw[ng h8] at hn;refine(Zf∘Zeh∘Zl∘Zd4∘Zbk∘ZdR∘Zq) ?_;refine qv (qh L (q:=900) Z Z Z q1) Z Z (ZX (h:=?_));refine qv (qh L (q:=900) Z Z Z q2) Z Z (z81 L Z (fun u H hH _=>jy hc hH) ?_);refine(ZaG∘Zam∘Zao∘ZaP∘Zbv) ?_;refine qg (yk L 900 (xc b (uC d4++rest) tyU) (.tuple #[.int .i64 mid,.bool ap]) (r:=xc b (uC R.pi.1++rest) tyU) Z Z Z Z Z (fun u H C hH hle hr hC=>by have h:=d9 (rest:=rest) (cap:=cap) (d:=R.pi.1) hpv.1 hpv.2 T (m:=m) T hm1 hH hr hC;rw[hx] at h;exact h)) ?_;refine(ZcA∘ZcJ∘Za∘Zd∘Zd0∘ZaQ∘ZaQ∘ZaY∘Zei∘Za∘Zdr∘Zd∘ZdO∘Zb∘Z0∘Zdo) ?_;refine ze (id:=28) ((Zb∘Za6∘Zd) ?_);refine ze (id:=29) ((Zb∘ZC∘Zb) ?_);refine qg (xe L 900 (xc b (uC LL++rest) tyU) (r:=xc b (uC d4++rest) tyU) Z Z Z Z Z (fun u H C hH _ hr hC=>by rw[hLL];exact ih T T hy T hm1 hlle g5 hH hr hC)) ?_;refine Zw (h:=?_);refine ze (id:=30) ((Za∘Zag) ?_);exact yo (x:=(((x,y),l),((wb,wp),D))) (((x,mid),R.lim),((false,ap),LL)) ⟨by dsimp only;omega,by dsimp only;omega,by dsimp only;omega,hlle,by dsimp only;omega,gB,hn.symm⟩ G ⟨Z,Z,Z,Z,Z,Z,Z,trivial⟩
   ·have h2b:(decide (x>0) && !lt R.pi.1[x-1]! R.pi.1[R.pivot]!)=false:=by simp [hx0]
    obtain⟨mid,ap,d4,hx⟩:∃ mid ap d4,Go.Sort.partition lt R.pi.1 x y R.pivot=(mid,ap,d4):=⟨_,_,_,rfl⟩
    obtain⟨g1,g2,g3,g4,g5,gL,gR⟩:=round_part swo_ltInt (partition_holds lt) hpv.1 hpv.2 T B3 hx;have w1:IntKind.i64.wrap ((mid:Int)-(x:Int))=((mid-x:Nat):Int):=xb T T |>.trans T;have w2:IntKind.i64.wrap ((y:Int)-(mid:Int))=((y-mid:Nat):Int):=xb T T |>.trans T;have w4:IntKind.i64.wrap ((mid:Int)+1)=((mid+1:Nat):Int):=xb T T
    have et:((y-x:Nat):Int).tdiv 8=(((y-x)/8:Nat):Int):=by
     rw[zr0 T];omega
    have w3:IntKind.i64.wrap (((y-x:Nat):Int).tdiv 8)=(((y-x)/8:Nat):Int):=by rw[et];exact xb T T
    by_cases hlr:mid-x<y-mid
    ·have hn:=hleft h2 h2b (by rw[hx];exact⟨g1,g2⟩) (by rw[hx];exact hlr);rw[hx] at hn;dsimp only at hn;obtain⟨pL,sL⟩:=pdq_sorts lt swo_ltInt d4 x mid R.lim true true g1 T g4;obtain⟨LL,hLL⟩:∃ LL,LL=pdq lt d4 x mid R.lim true true:=⟨_,rfl⟩
     rw[<-hLL] at hn pL sL;obtain⟨gB,_⟩:=gL LL pL sL;have hLs:LL.size=d4.size:=pL.1;by_cases h8:mid-x>=(y-x)/8
     ·rw[nf h8] at hn;refine(Zf∘Zeh∘Zl∘ZdJ∘ZbM∘Zce∘Zam∘Zao∘ZaP∘Zbv) ?_;refine qg (yk L 900 (xc b (uC d4++rest) tyU) (.tuple #[.int .i64 mid,.bool ap]) (r:=xc b (uC R.pi.1++rest) tyU) Z Z Z Z Z (fun u H C hH hle hr hC=>by have h:=d9 (rest:=rest) (cap:=cap) (d:=R.pi.1) hpv.1 hpv.2 T (m:=m) T hm1 hH hr hC;rw[hx] at h;exact h)) ?_;refine(ZcA∘ZcJ∘Za∘Zd∘Zd0∘ZaQ∘ZaQ∘ZaY∘Zei∘Za∘Zdr∘Zd∘ZdO∘Zb∘ZU∘Zn) ?_;refine ze (id:=25) ((Zb∘Zbz∘Zd) ?_);refine ze (id:=26) (Zbv (h:=?_));refine qg (xe L 900 (xc b (uC LL++rest) tyU) (r:=xc b (uC d4++rest) tyU) Z Z Z Z Z (fun u H C hH _ hr hC=>by rw[hLL];exact ih T g1 T T hm1 hlle g4 hH hr hC)) ?_;refine Zw (h:=?_);refine ze (id:=27) ((Za∘ZC∘Zag) ?_);exact yo (x:=(((x,y),l),((wb,wp),D))) (((mid+1,y),R.lim),((true,ap),LL)) ⟨by dsimp only;omega,hy,by dsimp only;omega,hlle,by dsimp only;omega,gB,hn.symm⟩ G ⟨Z,Z,Z,Z,Z,Z,Z,trivial⟩
     ·rw[ng h8] at hn;refine(Zf∘Zeh∘Zl∘ZdJ∘ZbM∘Zce∘Zam∘Zao∘ZaP∘Zbv) ?_;refine qg (yk L 900 (xc b (uC d4++rest) tyU) (.tuple #[.int .i64 mid,.bool ap]) (r:=xc b (uC R.pi.1++rest) tyU) Z Z Z Z Z (fun u H C hH hle hr hC=>by have h:=d9 (rest:=rest) (cap:=cap) (d:=R.pi.1) hpv.1 hpv.2 T (m:=m) T hm1 hH hr hC;rw[hx] at h;exact h)) ?_;refine(ZcA∘ZcJ∘Za∘Zd∘Zd0∘ZaQ∘ZaQ∘ZaY∘Zei∘Za∘Zdr∘Zd∘ZdO∘Zb∘ZU∘Zn) ?_;refine ze (id:=25) ((Zb∘Za6∘Zd) ?_);refine ze (id:=26) (Zbv (h:=?_));refine qg (xe L 900 (xc b (uC LL++rest) tyU) (r:=xc b (uC d4++rest) tyU) Z Z Z Z Z (fun u H C hH _ hr hC=>by rw[hLL];exact ih T g1 T T hm1 hlle g4 hH hr hC)) ?_;refine Zw (h:=?_);refine ze (id:=27) ((Za∘ZC∘Zag) ?_);exact yo (x:=(((x,y),l),((wb,wp),D))) (((mid+1,y),R.lim),((false,ap),LL)) ⟨by dsimp only;omega,hy,by dsimp only;omega,hlle,by dsimp only;omega,gB,hn.symm⟩ G ⟨Z,Z,Z,Z,Z,Z,Z,trivial⟩
    ·have hn:=hright h2 h2b (by rw[hx];exact⟨g1,g2⟩) (by rw[hx];exact hlr);rw[hx] at hn;dsimp only at hn;obtain⟨pL,sL⟩:=pdq_sorts lt swo_ltInt d4 (mid+1) y R.lim true true T T g5;obtain⟨LL,hLL⟩:∃ LL,LL=pdq lt d4 (mid+1) y R.lim true true:=⟨_,rfl⟩
     rw[<-hLL] at hn pL sL;obtain⟨gB,_⟩:=gR LL pL sL;have hLs:LL.size=d4.size:=pL.1;by_cases h8:y-mid>=(y-x)/8
     ·rw[nf h8] at hn;refine(Zf∘Zeh∘Zl∘ZdJ∘ZbM∘Zce∘Zam∘Zao∘ZaP∘Zbv) ?_;refine qg (yk L 900 (xc b (uC d4++rest) tyU) (.tuple #[.int .i64 mid,.bool ap]) (r:=xc b (uC R.pi.1++rest) tyU) Z Z Z Z Z (fun u H C hH hle hr hC=>by have h:=d9 (rest:=rest) (cap:=cap) (d:=R.pi.1) hpv.1 hpv.2 T (m:=m) T hm1 hH hr hC;rw[hx] at h;exact h)) ?_;refine(ZcA∘ZcJ∘Za∘Zd∘Zd0∘ZaQ∘ZaQ∘ZaY∘Zei∘Za∘Zdr∘Zd∘ZdO∘Zb∘Z0∘Zdo) ?_;refine ze (id:=28) ((Zb∘Zbz∘Zd) ?_);refine ze (id:=29) ((Zb∘ZC∘Zb) ?_);refine qg (xe L 900 (xc b (uC LL++rest) tyU) (r:=xc b (uC d4++rest) tyU) Z Z Z Z Z (fun u H C hH _ hr hC=>by rw[hLL];exact ih T T hy T hm1 hlle g5 hH hr hC)) ?_;refine Zw (h:=?_);refine ze (id:=30) ((Za∘Zag) ?_);exact yo (x:=(((x,y),l),((wb,wp),D))) (((x,mid),R.lim),((true,ap),LL)) ⟨by dsimp only;omega,by dsimp only;omega,by dsimp only;omega,hlle,by dsimp only;omega,gB,hn.symm⟩ G ⟨Z,Z,Z,Z,Z,Z,Z,trivial⟩
     ·rw[ng h8] at hn;refine(Zf∘Zeh∘Zl∘ZdJ∘ZbM∘Zce∘Zam∘Zao∘ZaP∘Zbv) ?_;refine qg (yk L 900 (xc b (uC d4++rest) tyU) (.tuple #[.int .i64 mid,.bool ap]) (r:=xc b (uC R.pi.1++rest) tyU) Z Z Z Z Z (fun u H C hH hle hr hC=>by have h:=d9 (rest:=rest) (cap:=cap) (d:=R.pi.1) hpv.1 hpv.2 T (m:=m) T hm1 hH hr hC;rw[hx] at h;exact h)) ?_;refine(ZcA∘ZcJ∘Za∘Zd∘Zd0∘ZaQ∘ZaQ∘ZaY∘Zei∘Za∘Zdr∘Zd∘ZdO∘Zb∘Z0∘Zdo) ?_;refine ze (id:=28) ((Zb∘Za6∘Zd) ?_);refine ze (id:=29) ((Zb∘ZC∘Zb) ?_);refine qg (xe L 900 (xc b (uC LL++rest) tyU) (r:=xc b (uC d4++rest) tyU) Z Z Z Z Z (fun u H C hH _ hr hC=>by rw[hLL];exact ih T T hy T hm1 hlle g5 hH hr hC)) ?_;refine Zw (h:=?_);refine ze (id:=30) ((Za∘Zag) ?_);exact yo (x:=(((x,y),l),((wb,wp),D))) (((x,mid),R.lim),((false,ap),LL)) ⟨by dsimp only;omega,by dsimp only;omega,by dsimp only;omega,hlle,by dsimp only;omega,gB,hn.symm⟩ G ⟨Z,Z,Z,Z,Z,Z,Z,trivial⟩
def sortU_ret(hm:d.size=m)(hm1:m<=100000)(hB:zs4 B w)
  (hr:(xc b (uC d++rest) tyU).P B w C) (hC:ZCB C w B):
  kz zs5 198 [.slice (some ⟨b,0,none⟩) m cap] w B C (xc b (uC (Go.Sort.sort lt d)++rest) tyU):=by
 unfold kz;refine xf 900 (xc b (uC d++rest) tyU) Tryz.func198 Z Tryz.ntmps198 (np Z) hB hr hC ?_;rw[xd];have hc:IntKind.u64.wrap (m:Int)=(m:Int):=wrap_u64 T T;have hb17:bitsLen m<=17:=(bitsLen_le_iff m 17).2 T;refine(ZQ∘Za∘Zco∘Zc∘Zan∘Z8) ?_;refine z7 (kr Z Z Z jo.1 jo.2 (wrap_u64 T T)) Z (z71 L Z (fun u H hH _=>Ds T hH) ?_);refine qg (xe L 900 (xc b (uC (Go.Sort.sort lt d)++rest) tyU) (r:=xc b (uC d++rest) tyU) Z Z Z Z Z (fun u H C hH _ hr hC=>by have h:=zgv (rest:=rest) (cap:=cap) (m:=m) (d:=d) (a:=0) (e:=m) (lim:=bitsLen m) (m+1) T T T hm hm1 T (Or.inl Z) hH hr hC;unfold Go.Sort.sort;rw[hm];exact h)) ?_;refine Zab (h:=?_);exact xw L 900 (r:=xc b _ tyU) Z (fun _ _ h=>h) nq Z Z
end Go.V.So
end
namespace Go.V.L10
def _root_.ZdW(t:Wr Y->A:=by intro h;refine z7 (yn L (vs:=[_,_]) Z Z Z Z Z ⟨_,rfl⟩) Z ?_;exact h.1)(h:Y):A:=t ⟨h⟩
def _root_.ZeH(t:Wr Y->A:=by intro h;refine z71 L Z (fun u H hH _=>So.isnanU _ hH) ?_;exact h.1)(h:Y):A:=t ⟨h⟩
def _root_.ZfM(t:Wr Y->A:=by intro h;refine z7 (StepOK.seeV (zo L (qp Z) Z Z Z Z) M) Z ?_;exact h.1)(h:Y):A:=t ⟨h⟩
abbrev zei:TypeId:=289
abbrev Fu:TypeId:=48
def pnc(p:Int×Int):List Value:=[.int .u64 p.1,.int .i64 p.2]
def Vh(p:Int×Int):(pnc p).length=2:=rfl
def Cn(l:List (Int×Int)):(l.flatMap pnc).all gj=true:=by
 rw[zo9];intro v hv;obtain⟨x,_,hx⟩:=List.mem_flatMap.1 hv;simp only[pnc,ma,zqp,or_false] at hx;rcases hx with rfl | rfl<;>rfl
abbrev PsV(l:List (Int×Int)):Value->Heap->Prop:=SlV zei 2 (l.flatMap pnc) l.length false
def Se{x:Int×Int}(h:l[i]?=some x):((l.flatMap pnc).drop (i*2)).take 2=[.int .u64 x.1,.int .i64 x.2]:=f5 Vh l i x h
abbrev RsV(l:List Int)(fu:Bool):Value->Heap->Prop:=SlV Fu 1 (l.map (Value.int .u64)) l.length fu
def K6{l:List Int}{x:Int}(h:l[i]?=some x):((l.map (Value.int .u64)).drop (i*1)).take 1=[.int .u64 x]:=by
 rw[zqa,List.take_one];simp [List.head?_drop,h]
attribute [local irreducible] V N X VO Par StepOK Has Ret RetL RetO kz RetX Src
def cmpU_ret(a b:Int)(hB:zs4 B w):Ret zs5 250 [.int .u64 a,.int .u64 b] w B (fun v _=>v=.int .i64 (cP a b)):=by
 unfold cP;refine yr Tryz.func250 Z Tryz.ntmps250 (np Z) hB ?_;by_cases h:a<b
 ·rw[na h];refine(Zc2∘ZeH∘ZaZ∘ZeH∘Zk∘Zr∘ZV∘Z7∘ZV∘Z2∘Zb∘ZU∘Zn∘Z4∘Zc) ?_;exact yj2 L [.tmp 4]
 ·rw[nc h];by_cases h2:b<a
  ·rw[na h2];refine(Zc2∘ZeH∘ZaZ∘ZeH∘Zk∘Zr∘ZV∘Z7∘ZV∘Z2∘Zb∘Z0∘ZV∘ZG∘Zb∘ZP∘Zn∘ZJ∘Zc) ?_;exact yj2 L [.tmp 4]
  ·rw[nc h2];refine(Zc2∘ZeH∘ZaZ∘ZeH∘Zk∘Zr∘ZV∘Z7∘ZV∘Z2∘Zb∘Z0∘ZV∘ZG∘Zb∘ZM∘Zx∘Zae∘Zc) ?_;exact yj2 L [.tmp 4]
def sj(a n b:Int)(hB:zs4 B w):Ret zs5 249 [.agg #[.int .u64 a,.int .i64 n],.int .u64 b] w B (fun v _=>v=.int .i64 (cP a b)):=by
 refine yr Tryz.func249 Z Tryz.ntmps249 (np Z) hB ((Zcy∘Zo∘Za) ?_);refine z71 L Z (fun u H hH _=>cmpU_ret _ _ hH) ?_;refine Zc (h:=?_);exact yj2 L [.tmp 4]
abbrev BSP:Nat:=248
abbrev fvP:Value:=.func (.func 249) #[] #[]
def zh7(hz:(xh L0).length<=100000){v:Value}(hB:zs4 B w)(hv:PsV (xh L0) v B):
  Ret zs5 BSP [v,.int .u64 r,fvP] w B (fun v _=>v=.tuple #[.int .i64 (ct cP r (k8 L0):Nat),.bool (decide (r∈k8 L0))]):=by
 have hs:=uq L0;obtain⟨l,hl⟩:∃ l,l=k8 L0:=⟨_,rfl⟩
 obtain⟨ps,hps⟩:∃ ps,ps=xh L0:=⟨_,rfl⟩
 have hat:∀ (i:Nat) (x:Int),l[i]?=some x->ps[i]?=some (x,(L0.count x:Int)):=fun i x h=>by subst hl hps;exact Cs h
 have hlen:ps.length=l.length:=by subst hl hps;exact vg L0
 rw[<-hl] at hs |-;rw[<-hps] at hv hz;clear hl hps;refine yr Tryz.func248 Z Tryz.ntmps248 (np Z) hB (k7 0 (PsV ps) Z ns hv ((ZbX∘ZaW∘Zj∘ZaZ∘ZaY∘Zar) ?_))
 refine xp (fun s:Nat×Nat=>[(0,.sat (PsV ps)),(2,.is fvP),(1,.is (.int .u64 r)),(8,.is (.int .i64 ps.length)),(9,.is (.int .i64 s.1)),(10,.is (.int .i64 s.2))])
  (fun s=>s.1<=s.2/\s.2<=l.length/\(∀ (k:Nat) (x:Int),k<s.1->l[k]?=some x->cP x r<0)/\∀ (k:Nat) (x:Int),s.2<=k->l[k]?=some x->¬ cP x r<0) (fun s=>s.2-s.1) (0,ps.length) ⟨Nat.zero_le _,Nat.le_of_eq hlen,fun k x h=>(by cases h),fun k x h hx=>(by rw[List.getElem?_eq_none (by dsimp only at h;omega)] at hx;cases hx)⟩ ⟨rfl,rfl,rfl,rfl,rfl,rfl,trivial⟩ ?_
 rintro⟨i,j⟩ ⟨hij,hjl,hlo,hhi⟩;dsimp only at hij hjl hlo hhi |-;by_cases hlt:i<j
 ·obtain⟨h,hh⟩:∃ h,h=(i+j)/2:=⟨_,rfl⟩
  have hsh:((i:Int)+(j:Int)).fdiv (2^min (1:Int).toNat IntKind.u64.bits)=(h:Int):=by
   show((i:Int)+(j:Int)).fdiv 2=(h:Int);rw[zri _ E];omega
  obtain⟨y,hy⟩:=xm (show h<l.length by omega);have hc:=Se (hat h y hy);by_cases hcm:cP y r<0
  ·refine(ZbY∘ZbB∘ZcQ∘Zt∘Zb∘Zay) ?_;refine z7 (kr Z Z Z jo.1 jo.2 (wrap_u64 T T)) Z (Zdn (h:=?_));refine z7 (kr Z Z Z jp.1 jp.2 (xb T T)) Z ((Zbm∘Zh∘Zb6∘ZdW∘Za) ?_);refine z71 L Z (fun u H hH _=>sj _ _ _ hH) ?_;refine(ZbB∘ZL∘Zay∘Zag) ?_;exact yo (x:=(i,j)) (h+1,j) ⟨by dsimp only;omega,hjl,fun k x hk hx=>iv lm hs hy hx (by dsimp only at hk;omega) hcm,hhi⟩ G ⟨Z,Z,Z,Z,Z,Z,trivial⟩
  ·refine(ZbY∘ZbB∘ZcQ∘Zt∘Zb∘Zay) ?_;refine z7 (kr Z Z Z jo.1 jo.2 (wrap_u64 T T)) Z (Zdn (h:=?_));refine z7 (kr Z Z Z jp.1 jp.2 (xb T T)) Z ((Zbm∘Zh∘Zb6∘ZdW∘Za) ?_);refine z71 L Z (fun u H hH _=>sj _ _ _ hH) ?_;refine(Z0∘ZaJ∘Z7∘Zag) ?_;exact yo (x:=(i,j)) (i,h) ⟨by dsimp only;omega,by dsimp only;omega,hlo,fun k x hk hx hcx=>hcm (iv lm hs hx hy hk hcx)⟩ G ⟨Z,Z,Z,Z,Z,Z,trivial⟩
 ·obtain rfl:i=j:=by omega
  rw[Nt lm hs hlo hhi hjl];by_cases hin:i<l.length
  ·obtain⟨y,hy⟩:=xm hin;have hc:=Se (hat i y hy);have hm:=zex lm hs hlo hy hhi;by_cases hcm:cP y r=0
   ·rw[nf (hm.2 hcm)];refine(ZbY∘Z0∘Za5∘Zu∘Z8∘ZU∘Zb∘Zh∘Zb6∘ZdW∘Za) ?_;refine z71 L Z (fun u H hH _=>sj _ _ _ hH) ?_;refine(ZN∘Zi∘ZI) ?_;exact yj2 L [.tmp 6,.tmp 7]
   ·rw[ng fun h=>hcm (hm.1 h)];refine(ZbY∘Z0∘Za5∘Zu∘Z8∘ZU∘Zb∘Zh∘Zb6∘ZdW∘Za) ?_;refine z71 L Z (fun u H hH _=>sj _ _ _ hH) ?_;refine(ZT∘Zi∘ZI) ?_;exact yj2 L [.tmp 6,.tmp 7]
  ·obtain rfl:i=l.length:=by omega
   rw[ng (Db lm hlo)];refine(ZbY∘Z0∘Za5∘Zu∘Z8∘Z0∘Zau∘Zb2∘Zb2∘Zi∘ZI) ?_;exact yj2 L [.tmp 6,.tmp 7]
abbrev pnv(s:Value)(t:Nat):Value:=.agg #[s,.int .i64 t]
def si(hz2:(xh L0).length<=100000)(hB:zs4 B w)(hv:PsV (xh L0) s B):
  Ret zs5 199 [pnv s t,.int .u64 r] w B (fun v _=>v=.tuple #[.int .i64 (ct cP r (k8 L0):Nat),.bool (decide (r∈k8 L0))]):=by
 obtain⟨p,c,rfl⟩:=jk hv;refine yr Tryz.func199 Z Tryz.ntmps199 (np Z) hB ((ZD∘Zs∘ZaW∘Zo∘Za) ?_);refine z71 L Z (fun u H hH hle=>zh7 hz2 hH (hv.le hle)) ?_;refine(Zdb∘ZI) ?_;exact yj2 L [.tmp 4,.tmp 5]
def Cq(hz:L0.length<=n):(xh L0).length<=n:=by rw[vg];exact mp (pz _) hz
def find_ret(hz:L0.length<=100000)(hB:zs4 B w)(hv:PsV (xh L0) s B):
  Ret zs5 199 [pnv s t,.int .u64 r] w B (fun v _=>v=.tuple #[.int .i64 (ct cP r (k8 L0):Nat),.bool (decide (r∈k8 L0))]):=si (Cq hz) hB hv
def E3(h:r∈k8 L0):(xh L0)[ct cP r (k8 L0)]?=some (r,(L0.count r:Int)):=Cs (Ns lm (uq L0) h)
def Ab(hz:(xh L0).length<=100000)(hB:zs4 B w)(hv:PsV (xh L0) s B):
  Ret zs5 143 [pnv s t,.int .u64 r] w B (fun v _=>v=.int .i64 (L0.count r:Nat)):=by
 obtain⟨p,c,rfl⟩:=jk hv;refine yr Tryz.func143 Z Tryz.ntmps143 (np Z) hB ?_;by_cases h:r∈k8 L0
 ·have hf:decide (r∈k8 L0)=true:=nf h;have hp:=E3 h;have hlt:=get_lt hp;have hc:=Se hp;refine(ZD∘ZH∘ZbV∘Za) ?_;refine z71 L Z (fun u H hH hle=>hf ▸ si (t:=t) hz hH (hv.le hle)) ?_;refine(ZcA∘Zz∘Zn∘Z6∘Zcx∘ZfM∘Zb6∘Zfu∘Zdf∘Zc) ?_;exact yj2 L [.tmp 4]
 ·have hf:decide (r∈k8 L0)=false:=ng h;have hc0:L0.count r=0:=zsc.2 fun hm=>h (jx.2 hm);rw[hc0];refine(ZD∘ZH∘ZbV∘Za) ?_;refine z71 L Z (fun u H hH hle=>hf ▸ si (t:=t) hz hH (hv.le hle)) ?_;refine(ZcA∘Zz∘Zx∘Zt∘Zc) ?_;exact yj2 L [.tmp 4]
def count_ret(hz:L0.length<=100000)(hB:zs4 B w)(hv:PsV (xh L0) s B):
  Ret zs5 143 [pnv s t,.int .u64 r] w B (fun v _=>v=.int .i64 (L0.count r:Nat)):=Ab (Cq hz) hB hv
def Yy{l:List Int}(hB:zs4 B w)(hv:RsV l fu v B):Ret zs5 197 [v] w B (RsV l true):=by
 refine yr Tryz.func197 Z Tryz.ntmps197 (np Z) hB (k7 0 (RsV l fu) Z ns hv ((ZK∘Zh∘Zj∘Zj∘Zec∘ZR∘Zw) ?_));refine yj1 L [.tmp 2] fun u H hH hle=>?_;exact fun v hv=>hv
def zgj{l:List Int}{x:Int}:some (Kn.own (SlR Fu 1 (l.length+1) (l.map (Value.int .u64)++[.int .u64 x])))=some (Kn.own (SlR Fu 1 (l++[x]).length ((l++[x]).map (Value.int .u64)))):=by
 rw[zpb,nr];rfl
set_option maxRecDepth 10000 in
def zc4{L0 R:List Int}{t keep:Nat}(hz:L0.length<=100000)(hR:R.length<=100000)(hkp:keep<=100000){s v:Value}(hB:zs4 B w)(hv:PsV (xh L0) s B)(hr:RsV R fu v B):
  Ret zs5 140 [pnv s t,v,.int .i64 keep] w B (RsV (az L0 R keep) true):=by
 obtain⟨p,c,rfl⟩:=jk hv;obtain⟨n1,hn1⟩:∃ n1,n1=R.length-keep:=⟨_,rfl⟩
 have hmx:(if (0:Int)>(keep:Int) then (0:Int) else (keep:Int))=(keep:Int):=nc T;have hmn:(if (R.length:Int)<(keep:Int) then (R.length:Int) else (keep:Int))=(min R.length keep:Nat):=by split<;>omega
 have hsub:IntKind.i64.wrap ((R.length:Int)-(min R.length keep:Nat))=(n1:Int):=xb T T |>.trans T;have hys:((R.map (Value.int .u64)).drop (0*1)).take ((n1-0)*1)=(R.take n1).map (Value.int .u64):=by simp
 obtain⟨g,hg⟩:∃ g,g=R.take n1:=⟨_,rfl⟩
 have hgl:g.length=n1:=by rw[hg,mi];omega
 have hgo:az L0 R keep=g.filter fun r=>decide (L0.count r=0):=by unfold az;rw[hg,hn1]
 rw[<-hg] at hys;rw[hgo];clear hg hgo;refine yr Tryz.func140 Z Tryz.ntmps140 (np Z) hB (k7 1 (RsV R fu) Z ns hr ((Zcy∘Zk) ?_));refine ul 7 Fu 1 rfl ((Zv∘Zh∘Zj∘Za) ?_);refine z7 (ry Z Z Z Z M) Z (Zj (h:=?_));refine z7 (P5 Z Z Z Z M) Z (Zax (h:=?_));refine z7 (jt L (kl:=.i64) (pl:=0) (km:=.i64) (pm:=0) 0 _ false Z Z Z Z Z Z ⟨rfl,rfl⟩ (fun h=>by cases h) T T M) Z ?_;refine(Zdd∘ZaR) ?_;refine Hq 19 (RsV g false) Z SlV.mono (fun v H h=>by unfold RsV;rw[hgl];exact h) ?_
 refine xp (fun y:Nat×List Int=>[(3,.sat (At [.slice p (xh L0).length c,.int .i64 t] 224 0)),(7,.own (SlR Fu 1 y.2.length (y.2.map (Value.int .u64)))),(19,.sat (RsV g false)),(20,.is (.int .i64 n1)),(21,.is (.int .i64 y.1))])
  (fun y=>y.1<=g.length/\y.2=(g.take y.1).filter fun r=>decide (L0.count r=0)) (fun y=>g.length-y.1) (0,[]) ⟨mb _,rfl⟩ ⟨rfl,rfl,rfl,rfl,rfl,nm⟩ ?_
 rintro⟨k,out⟩ ⟨hk,hout⟩;dsimp only at hk hout |-;have hol:out.length<=k:=by rw[hout];exact mp (zpp ..) (by rw[mi];omega)
 by_cases hlt:k<g.length
 ·obtain⟨x,hx⟩:=xm hlt;have hc:=K6 hx;have htk:=uo hx;have hwk:IntKind.i64.wrap ((k:Int)+1)=((k+1:Nat):Int):=xb T T;by_cases h0:L0.count x=0
  ·have ho:out++[x]=(g.take (k+1)).filter fun r=>decide (L0.count r=0):=by rw[htk,zpc,<-hout];simp [h0]
   refine(Zcm∘Zt∘Zaz∘Zdf∘Zd∘Z1∘ZbV∘Za) ?_;refine z71 L Z (fun u H hH hle=>count_ret hz hH (hv.le hle)) ?_;refine(ZN∘Z3∘ZO) ?_;refine qg (yu (.inl Z) Z) ((Za∘ZaF) ?_);refine qg (w8 L Z Z Z (o6 Z) Z zit Z Z T T) (qg (yu (.inr Z) Z) ((ZaA∘Zy∘ZC∘ZcK) ?_));exact yo (x:=(k,out)) (k+1,out++[x]) ⟨hlt,ho⟩ G ⟨Z,zgj,Z,Z,Z,nm⟩
  ·have ho:out=(g.take (k+1)).filter fun r=>decide (L0.count r=0):=by rw[htk,zpc,<-hout];simp [h0]
   refine(Zcm∘Zt∘Zaz∘Zdf∘Zd∘Z1∘ZbV∘Za) ?_;refine z71 L Z (fun u H hH hle=>count_ret hz hH (hv.le hle)) ?_;refine(ZT∘Zbl∘Zy∘ZC∘ZcK) ?_;exact yo (x:=(k,out)) (k+1,out) ⟨hlt,ho⟩ G ⟨Z,Z,Z,Z,Z,nm⟩
 ·obtain rfl:k=g.length:=by omega
  rw[zoy] at hout;rw[<-hout];refine gt 7 rfl ((Zdu∘Zak∘Zu∘Zh) ?_);refine z7 (xg (φ:=RsV out true) L Z Z (zm Z) Z Z Z ns (fun u H hH _ _ v1 h1=>Yy hH h1)) Z ((ZR∘Zw) ?_);refine yj1 L [.tmp 6] fun u H hH hle=>?_;exact fun v hv=>hv
def zor{a b:Int×Int}(h:decide (a=b)=f):ib [1,1] (pnc a) (pnc b)=some f:=by
 obtain⟨a1,a2⟩:=a;obtain⟨b1,b2⟩:=b;subst h;simp only[pnc,ib,eqC,if_true,Bool.and_true,Prod.mk.injEq];congr 1;rw[Bool.eq_iff_iff];simp
def Kt{a b:Int×Int}(h:decide (a=b)=f)(hB:zs4 B w):Ret zs5 213 [.agg #[.int .u64 a.1,.int .i64 a.2],.agg #[.int .u64 b.1,.int .i64 b.2]] w B (fun v _=>v=.bool f):=by
 have hq:ib [1,1] [.int .u64 a.1,.int .i64 a.2] [.int .u64 b.1,.int .i64 b.2]=some f:=zor h;refine yr Tryz.func213 Z Tryz.ntmps213 (np Z) hB ((Zal∘ZaW∘ZbV∘ZbV) ?_);refine z7 (C7 Z Z Z Z zm3 M Z) Z (Zc (h:=?_));exact yj2 L [.tmp 4]
def ze0{a b:List α}(h:a.length≠b.length):a≠b:=fun e=>h (nh List.length e)
def zle{a b:List α}{x y:α}(hx:a[i]?=some x)(hy:b[i]?=some y)(h:x≠y):a≠b:=fun e=>h (by subst e;rw[hx] at hy;exact Option.some.inj hy)
def zhv{a b:List (Int×Int)}(hf:decide (a=b)=f)(ha:a.length<=100000)(hb:b.length<=100000){v1 v2:Value}(hB:zs4 B w)(h1:PsV a v1 B)(h2:PsV b v2 B):
  Ret zs5 212 [v1,v2,.func (.func 213) #[] #[]] w B (fun v _=>v=.bool f):=by
 subst hf;refine yr Tryz.func212 Z Tryz.ntmps212 (np Z) hB (k7 0 (PsV a) Z ns h1 (k7 1 (PsV b) Z ns h2 ?_));by_cases hl:a.length=b.length
 ·refine(ZQ∘ZH∘Zj∘Zj∘ZbZ∘Z6∘Zj∘ZaR) ?_;refine xp (fun i:Nat=>[(0,.sat (PsV a)),(15,.sat (PsV a)),(1,.sat (PsV b)),(2,.is (.func (.func 213) #[] #[])),(16,.is (.int .i64 a.length)),(17,.is (.int .i64 i))]) (fun i=>i<=a.length/\a.take i=b.take i) (fun i=>a.length-i) 0 ⟨mb _,rfl⟩ ⟨Z,Z,Z,Z,Z,Z,nm⟩ ?_;rintro i ⟨hi,ht⟩;by_cases hlt:i<a.length
  ·obtain⟨x,hx⟩:=xm hlt;obtain⟨y,hy⟩:=xm (show i<b.length by omega);have hc1:=Se hx;have hc2:=Se hy;have hwk:IntKind.i64.wrap ((i:Int)+1)=((i+1:Nat):Int):=xb T T;by_cases hxy:x=y
   ·refine(ZbU∘ZS∘Zaz∘ZdW∘ZE∘Zs∘ZaU∘Zg∘ZO∘Zh∘Zb6∘ZdW∘ZY∘Z7∘ZcN∘ZcN) ?_;refine z71 L Z (fun u H hH _=>Kt (nf hxy) hH) ?_;refine(Zm∘Zbl∘Z2∘ZC∘ZcK) ?_;exact yo (x:=i) (i+1) ⟨hlt,by rw[uo hx,uo hy,ht,hxy]⟩ T ⟨Z,Z,Z,Z,Z,Z,nm⟩
   ·rw[ng (zle hx hy hxy)];refine(ZbU∘ZS∘Zaz∘ZdW∘ZE∘Zs∘ZaU∘Zg∘ZO∘Zh∘Zb6∘ZdW∘ZY∘Z7∘ZcN∘ZcN) ?_;refine z71 L Z (fun u H hH _=>Kt (ng hxy) hH) ?_;refine(Zm∘Zn∘Zu∘Zc) ?_;exact yj2 L [.tmp 6]
  ·obtain rfl:i=a.length:=by omega
   have hab:a=b:=by rw[zoy,hl,zoy] at ht;exact ht
   rw[nf hab];refine(ZcV∘Zak∘Z4∘Zc) ?_;exact yj2 L [.tmp 6]
 ·rw[ng (ze0 hl)];refine(ZQ∘ZH∘Zj∘Zj∘Za0∘Zv∘Zc) ?_;exact yj2 L [.tmp 6]
def K9{L1 L2:List Int}{t1 t2:Nat}(hf:decide (xh L1=xh L2)=f)(hz1:L1.length<=100000)(hz2:L2.length<=100000){s1 s2:Value}(hB:zs4 B w)(h1:PsV (xh L1) s1 B)(h2:PsV (xh L2) s2 B):
  Ret zs5 158 [pnv s1 t1,pnv s2 t2] w B (fun v _=>v=.bool f):=by
 have q1:(xh L1).length<=100000:=by rw[vg];exact mp (pz _) hz1
 have q2:(xh L2).length<=100000:=by rw[vg];exact mp (pz _) hz2
 obtain⟨p,c,rfl⟩:=jk h1;obtain⟨p',c',rfl⟩:=jk h2;refine yr Tryz.func158 Z Tryz.ntmps158 (np Z) hB ((Zal∘ZaW∘Zo∘Zo) ?_);refine z71 L Z (fun u H hH hle=>zhv hf q1 q2 hH (h1.le hle) (h2.le hle)) ?_;refine Zc (h:=?_);exact yj2 L [.tmp 4]
end Go.V.L10
namespace Go.V.L10
open Go.V
def _root_.ZfN(t:Wr Y->A:=by intro h;refine z7 (g9 L (kh:=.i64) (ph:=0) _ _ Z Z Z Z Z ⟨rfl,rfl⟩ Z T T) Z ?_;exact h.1)(h:Y):A:=t ⟨h⟩
def _root_.Zf0(t:Wr Y->A:=by intro h;refine Zh (h:=?_);refine z7 (zb9 L Z Z Z Z) Z ?_;exact h.1)(h:Y):A:=t ⟨h⟩
def dp(l:List (Int×Int)):(l.flatMap pnc).length=l.length*2:=o5 Vh l
section
variable {A Bq R X zsw:List Value} 
def zfa(hA:A.length=a)(zsx:List Value):(A++zsx).take a=A/\(A++zsx).drop a=zsx:=by subst hA;simp
def zmw(hA:A.length=a)(hB:Bq.length=b)(_hR:2<=R.length):
  ((A++(Bq++R)).drop a).take b=Bq/\
  ((A++(Bq++R)).take (a+2)++(Bq++(A++(Bq++R)).drop (a+2+b)))=A++((Bq++R).take 2++(Bq++R.drop 2))/\
  ∀ (W:List Value),W.length=2->((A++(W++(Bq++R.drop 2))).take a++(X++(A++(W++(Bq++R.drop 2))).drop (a+2)))=A++(X++(Bq++R.drop 2)):=by
 subst hA hB;refine⟨by simp,?_,fun W hW=>?_⟩
 ·have e1:(A++(Bq++R)).take (A.length+2)=A++(Bq++R).take 2:=by rw[zq9,zo6 T];congr 2;omega
  have e2:(A++(Bq++R)).drop (A.length+2+Bq.length)=R.drop 2:=by
   rw[<-mw,zp7,zo4 (by rw[nr];omega),mj];congr 1;rw[nr];omega
  rw[e1,e2,mw]
 ·rw[zq9,zo6 (nu _),zqc,zpt,mq,zp7,zo4 T,mj,show A.length+2-A.length=2 by omega,zp7,zo4 T,mj,hW,zqc,zpy]
def zke(hA:A.length=a)(hB:Bq.length=b)(hZ:zsw.length=b+2)(hX:X.length=2):
  ((A++zsw++R).take a++(X++(A++zsw++R).drop (a+2)))=A++(X++(zsw.drop 2++R))/\
  ((A++(X++(zsw.drop 2++R))).take (a+2)++(Bq++(A++(X++(zsw.drop 2++R))).drop (a+2+b)))=A++(X++(Bq++R)):=by
 subst hA hB;refine⟨?_,?_⟩
 ·rw[mw,zq9,zo6 (nu _),zqc,zpt,mq,zp7,zo4 T,mj,show A.length+2-A.length=2 by omega,zp7,show 2-zsw.length=0 by omega,zpy]
 ·have e1:(A++(X++(zsw.drop 2++R))).take (A.length+2)=A++X:=by
   rw[<-mw,zq9,zo6 (by rw[nr];omega),nr,show A.length+2-(A.length+X.length)=0 by omega,zpt,mq]
  have e2:(A++(X++(zsw.drop 2++R))).drop (A.length+2+Bq.length)=R:=by
   rw[<-mw,<-mw,zp7,zo4 (by rw[nr,nr,m8];omega),mj,nr,nr,m8,show A.length+2+Bq.length-(A.length+X.length+(zsw.length-2))=0 by omega,zpy]
  rw[e1,e2,mw]
end
attribute [local irreducible] V N X VO Par StepOK Has Ret RetL RetO RetT kz RetX Src
def Sf(hz:l.length<=100000)(hB:zs4 B w)(hv:PsV l v B):
  RetO zs5 207 [v] w B (SlR zei 2 l.length (l.flatMap pnc)):=by
 have hv0:=hv;have hlen:=dp l;have hpl:=Cn l;obtain⟨p,c,rfl⟩:=jk hv;rcases p with _ | b
 ·obtain⟨h0,rfl⟩:l.length=0/\c=0:=F6 hv;have hn:l=[]:=zow h0;subst hn;refine wz Tryz.func207 Z Tryz.ntmps207 (np Z) hB (Zck (h:=?_));refine z7 (u9 Z Z Z Z zkb Z) Z ((Zn∘Zv∘Zc) ?_);exact ul 2 zei 2 rfl (lf Z (fun _ _ h=>h) nq Z)
 ·refine wz Tryz.func207 Z Tryz.ntmps207 (np Z) hB (Zck (h:=?_));refine z7 (u9 Z Z Z Z zkb Z) Z (Zx (h:=?_));refine k7 0 (PsV l) Z ns hv0 (Z6 (h:=?_));refine z7 (cu L Z Z Z Z Z) Z (Zh (h:=?_));refine qg (w8 L Z Z Z (Mn Z) Z Me M M T T) (qg (yu (.inr Z) Z) (Zw (h:=?_)));rw[zo2,mj];exact lf Z (fun _ _ h=>h) nq Z
def L5(l:List (Int×Int))(i:Nat)(x:Int×Int):List (Int×Int):=l.take i++x::l.drop i
def o4{x:Int×Int}(hi:i<=l.length):(L5 l i x).length=l.length+1:=by
 unfold L5;rw[List.length_append,List.length_cons,List.length_take,List.length_drop];omega
def E1{x:Int×Int}:(L5 l i x).flatMap pnc=(l.take i).flatMap pnc++([.int .u64 x.1,.int .i64 x.2]++(l.drop i).flatMap pnc):=by
 unfold L5;rw[List.flatMap_append,List.flatMap_cons];rfl
def zgx(args:Array Value)(u:World):(callFunc 255 args).run zs5 u=((Extern.SlicesOverlaps.overlaps #[222,222] #[4] args).run zs5 u).andThen fun v w'=>.ok (.value v) w':=
 run_callFunc_extern Tryz.func255 J J J J args u
abbrev zPn:Value:=.agg #[.int .u64 0,.int .i64 0]
def zPs(m:Nat):List Value:=(Builtin.zeroCells (Value.cells zPn) m).toList
def zfk(m:Nat):(zPs m).length=m*2:=by unfold zPs;rw[Array.length_toList,size_zeroCells];rfl
def Ez{y:Int×Int}(hi:i<=l.length)(hz:l.length<=100000){x v2:Value}(hB:zs4 B w)(h2:SlB [Value.int .u64 y.1,Value.int .i64 y.2] zei 1 v2 B)(hx:(SlR zei 2 l.length (l.flatMap pnc)).P x B w C)(hC:ZCB C w B):
  RetT zs5 208 [x,.int .i64 i,v2] w B C (SlR zei 2 (l.length+1) ((L5 l i y).flatMap pnc)):=by
 have hpl:=Cn l;unfold RetT;refine Hs 0 (x:=x) (SlR zei 2 l.length (l.flatMap pnc)) Z Tryz.func208 Z Tryz.ntmps208 (np Z) hB hx hC (k7 2 (SlB [Value.int .u64 y.1,Value.int .i64 y.2] zei 1) Z SlB.mono h2 ?_);have hw1:IntKind.i64.wrap ((l.length:Int)+((1:Nat):Int))=((l.length+1:Nat):Int):=xb T T;refine Ai 0 900 rfl (fun hm hn=>?_) fun b cap rest hl hmc hcm hcl=>?_
 ·have h0:l=[]:=zow hm;subst h0;obtain rfl:i=0:=by simpa using hi
  refine(ZK∘Zb) ?_;refine z7 (Sk L Z Z Z Z Z Z Z) Z ((Zg∘Zv∘Zf0∘Zk∘Zr∘ZbK∘ZS∘Zco∘Zk∘ZbF∘ZN∘Zn∘Z7∘Zh) ?_);refine z7 (tp L Z Z Z (o6 Z) Z Me Z Z T T) Z (qg (yu (.inr Z) Z) (Zw (h:=?_)));exact Fg Z (fun _ _ h=>h) nq Z
 ·by_cases hin:i=l.length
  ·subst hin;have e1:(L5 l l.length y).flatMap pnc=l.flatMap pnc++[Value.int .u64 y.1,Value.int .i64 y.2]:=by rw[E1,zoy,zq5];simp
   rw[e1];refine(ZK∘Zb∘ZfN∘Zg∘Zv∘Zf0∘Zk∘Zr∘ZbK∘ZS∘Zco∘Zk∘ZbF∘ZN∘Zn∘Z7∘Zh) ?_;refine qg (Sy L (q:=900) Z Z Z Z hl hmc hcm hcl (o6 Z) Z Me Z Z T T) (qg (yu (.inr Z) Z) (Zw (h:=?_)));exact Fg Z (fun _ _ h=>h) nq Z
  ·have hil:i<l.length:=T;have hA:((l.take i).flatMap pnc).length=i*2:=by rw[dp,mi,zqj T]
   have hBq:((l.drop i).flatMap pnc).length=(l.length-i)*2:=by rw[dp,m8]
   have hcur:l.flatMap pnc=(l.take i).flatMap pnc++(l.drop i).flatMap pnc:=by rw[<-zpo,zo0]
   have hpB:=Cn (l.drop i);have hwi:IntKind.i64.wrap ((i:Int)+((1:Nat):Int))=((i+1:Nat):Int):=xb T T;rw[E1];generalize hAe:(l.take i).flatMap pnc=A at *;generalize hBe:(l.drop i).flatMap pnc=Bq at *;rw[hcur,mw] at hcl;rw[hcur,mw];rw[nr,nr,hA,hBq] at hcl;by_cases hg:l.length+1<=cap
   ·have hne1:¬ cap=i:=T;have hne2:¬ cap=i+1:=T;have hne3:¬ cap=0:=T;have hR:2<=rest.length:=T;obtain⟨m1,m2,m3⟩:=zmw (R:=rest) (X:=[Value.int .u64 y.1,Value.int .i64 y.2]) hA hBq hR;have m3':=m3 ((Bq++rest).take 2) (by rw[mi,nr];omega);have q1:((A++(Bq++rest)).drop (0+i*2)).take ((l.length-i)*2)=Bq:=by rw[zo2];exact m1
    have q2:(A++(Bq++rest)).take (0+(i+1)*2)++(Bq++(A++(Bq++rest)).drop (0+(i+1)*2+(l.length-i)*2))=A++((Bq++rest).take 2++(Bq++rest.drop 2)):=by rw[zo2,zpx i 1 2];exact m2
    have q3:(A++((Bq++rest).take 2++(Bq++rest.drop 2))).take (0+i*2)++([Value.int .u64 y.1,Value.int .i64 y.2]++(A++((Bq++rest).take 2++(Bq++rest.drop 2))).drop (0+i*2+1*2))=A++([Value.int .u64 y.1,Value.int .i64 y.2]++(Bq++rest.drop 2)):=by rw[zo2];exact m3'
    have q4:0+(i+1)*2+(l.length-i)*2<=(A++(Bq++rest)).length:=by rw[nr,nr];omega
    have q5:0+i*2+1*2<=(A++((Bq++rest).take 2++(Bq++rest.drop 2))).length:=by rw[nr,nr,nr,mi,nr];omega
    have q8:0<(A++(Bq++rest)).length:=by rw[nr,nr];omega
    have q6:Nat.min (l.length+1-i) (l.length+1-(i+1))=l.length-i:=by show min _ _=_;omega
    have q7:Nat.min 1 (l.length+1-i)=1:=by show min _ _=_;omega
    refine(ZK∘Zb∘ZfN) ?_;rw[nc hne1];refine(Zg∘Zv∘Zf0∘Zk∘Zr∘ZbK∘ZS∘Zco∘Zk∘ZbF∘Zdz∘Zu∘Zb∘ZC∘Za) ?_;refine z7 (V3 L Z Z Z Z) Z ((ZM∘Zx∘Zae∘Z8∘ZC) ?_);refine z7 (g9 L (kl:=.i64) (pl:=0) 0 (l.length+1) Z Z Z Z Z Z ⟨rfl,rfl⟩ T T) Z ?_;rw[nc hne3,show(0+0*2:Nat)=0 from Z,zqw,zqw];refine Zk (h:=?_);refine(ZaD∘Zh∘Z8∘ZC) ?_;refine z7 (g9 L (kh:=.i64) (ph:=0) (i+1) _ Z Z Z Z Z ⟨rfl,rfl⟩ Z T T) Z ?_;rw[nc hne2];refine ye (N2 L (q:=900) Z Z Z zgx Z Z Z Z Z q8) ((Zm∘Zn) ?_);refine qn (id:=15) [(77,[900])] ko J (ZcT (h:=?_));refine z8 (g9 L (kh:=.i64) (ph:=0) (i+1) _ Z Z Z Z Z ⟨rfl,rfl⟩ Z T T) Z ?_;rw[nc hne2];refine Zp (h:=?_);refine z8 (g9 L (kh:=.i64) (ph:=0) i _ Z Z Z Z Z ⟨rfl,rfl⟩ Z T T) Z ?_;rw[nc hne1];refine kf (V1 L (q:=900) (l.length-i) Z Z Z Z Z Z Me q6 q1 hBq q4 hpB q2) Z Z ((ZaV∘Zaj∘Zb) ?_);refine z7 (g9 L (kh:=.i64) (ph:=0) i _ Z Z Z Z Z ⟨rfl,rfl⟩ Z T T) Z ?_;rw[nc hne1];refine Zh (h:=?_);refine qg (Gn L (q:=900) 1 rfl Z Z Z (o6 Z) Z Me E q7 (nu 2) Z q5 Z q3) ((Zg∘Zbx∘Za∘Zc) ?_);refine f6 (s:=2) (xs:=A++([Value.int .u64 y.1,Value.int .i64 y.2]++Bq)) (rest:=rest.drop 2) 6 900 (by simp [mw]) Z Z (by simp only[nr,nz,m6];omega) hg hcm (by simp only[nr,nz,m6,m8];omega) ?_;exact Fg Z (fun _ _ h=>h) nq Z
   ·have hne1:¬ cap=i:=T;have hne3:¬ cap=0:=T;have hr0:rest=[]:=zow T;subst hr0;have hcap:cap=l.length:=T;subst hcap;rw[mq];have hwk:IntKind.i64.wrap (((l.length+1:Nat):Int)-(i:Int))=((l.length+1-i:Nat):Int):=xb T T |>.trans T;have hxs:(A++Bq).take (i*2)=A:=(zfa hA Bq).1;have hxl:i*2<=(A++Bq).length:=by rw[nr];omega
    have hZ:=zfk (l.length+1-i);have hgt:l.length<i+(l.length+1-i):=T;refine(ZK∘Zb∘ZfN) ?_;rw[nc hne1];refine(Zg∘Zv∘Zf0∘Zk∘Zr∘ZbK∘ZS∘Zco∘Zk∘ZbF∘Zdz∘Zu∘Zb∘ZC∘Za) ?_;refine z7 (V3 L Z Z Z Z) Z ((ZP∘Zn∘Z2∘Zb) ?_);refine z7 (g9 L (kl:=.i64) (pl:=0) 0 i Z Z Z Z Z Z ⟨rfl,rfl⟩ T T) Z ?_;rw[nc hne3,show(0+0*2:Nat)=0 from Z,zqw,zqw];refine(Zb∘ZC∘Za∘Zax) ?_;refine ye (Sx L (q:=900) (z:=zPn) (k:=l.length+1-i) (kn:=.i64) Z Z Z Z Z Z J Me Z T hgt hxs hxl Z T T) (qg (yu (.inr Z) Z) (Zg (h:=?_)));rw[show(Builtin.zeroCells (Value.cells zPn) (l.length+1-i)).toList=zPs (l.length+1-i) from rfl];have hlt:i+(l.length+1-i)=l.length+1:=T;rw[hlt];refine Ai 9 901 rfl (fun hm _=>by omega) fun b2 cap2 rest2 hl2 hmc2 hcm2 hcl2=>?_;have hn1:¬ cap2=i:=T;have hn2:¬ cap2=i+1:=T;have hZ2:(zPs (l.length+1-i)).length=(l.length-i)*2+2:=T;obtain⟨m1,m2⟩:=zke (R:=rest2) (X:=[Value.int .u64 y.1,Value.int .i64 y.2]) hA hBq hZ2 rfl;have q1:(A++zPs (l.length+1-i)++rest2).take (0+i*2)++([Value.int .u64 y.1,Value.int .i64 y.2]++(A++zPs (l.length+1-i)++rest2).drop (0+i*2+1*2))=A++([Value.int .u64 y.1,Value.int .i64 y.2]++((zPs (l.length+1-i)).drop 2++rest2)):=by rw[zo2];exact m1
    have q2:(A++([Value.int .u64 y.1,Value.int .i64 y.2]++((zPs (l.length+1-i)).drop 2++rest2))).take (0+(i+1)*2)++(Bq++(A++([Value.int .u64 y.1,Value.int .i64 y.2]++((zPs (l.length+1-i)).drop 2++rest2))).drop (0+(i+1)*2+(l.length-i)*2))=A++([Value.int .u64 y.1,Value.int .i64 y.2]++(Bq++rest2)):=by rw[zo2,zpx i 1 2];exact m2
    have q3:0+i*2+1*2<=(A++zPs (l.length+1-i)++rest2).length:=by rw[nr,nr];omega
    have q4:0+(i+1)*2+(l.length-i)*2<=(A++([Value.int .u64 y.1,Value.int .i64 y.2]++((zPs (l.length+1-i)).drop 2++rest2))).length:=by simp only[nr,nz,m6,m8];omega
    have q5:Nat.min 1 (l.length+1-i)=1:=by show min _ _=_;omega
    have q6:Nat.min (l.length-i) (l.length+1-(i+1))=l.length-i:=by show min _ _=_;omega
    have q7:((A++Bq).drop (i*2)).take ((l.length-i)*2)=Bq:=by rw[(zfa hA Bq).2,zo6 T]
    have q8:Bq.take ((l.length-i)*2)=Bq:=zo6 T;have q9:(l.length-i)*2<=Bq.length:=T;refine(Z4∘Zb) ?_;refine z7 (g9 L (kh:=.i64) (ph:=0) i _ Z Z Z Z Z ⟨rfl,rfl⟩ Z T T) Z ?_;rw[nc hn1];refine Zh (h:=?_);refine qg (Gn L (q:=901) 1 rfl Z Z Z (o6 Z) Z Me E q5 (nu 2) Z q3 Z q1) (Zg (h:=?_));refine f6 (s:=2) (xs:=A++Bq) (rest:=[]) 0 900 (mq _).symm Z Z (by rw[<-hcur];exact hl) (nu _) hcm (by rw[<-hcur];exact hl) ?_;refine gt 0 rfl (qn (id:=11) [(54,[901])] ko J (ZcT (h:=?_)));refine z8 (g9 L (kh:=.i64) (ph:=0) (i+1) _ Z Z Z Z Z ⟨rfl,rfl⟩ Z T T) Z ?_;rw[nc hn2];refine ZeB (h:=?_);refine z8 (jt L (kh:=.i64) (ph:=0) (km:=.i64) (pm:=0) i l.length false Z Z Z Z Z ⟨rfl,rfl⟩ ⟨rfl,rfl⟩ (fun h=>by cases h) T T q7) Z ?_;refine kf (Gn L (q:=901) (l.length-i) Z Z Z Z (Mn Z) Z Me T q6 q9 q8 q4 hpB q2) Z Z (ZaV (h:=?_));refine f6 (s:=2) (xs:=A++([Value.int .u64 y.1,Value.int .i64 y.2]++Bq)) (rest:=rest2) 9 901 (by simp [mw]) Z Z (by simp only[nr,nz,m6];omega) hmc2 hcm2 (by simp only[nr,nz,m6] at hcl2 |-;omega) ?_;refine ZJ (h:=?_);refine qg (yu (.inl Z) Z) (qg (yu (.inr Z) Z) (Zw (h:=?_)));exact Fg Z (fun _ _ h=>h) nq Z
end Go.V.L10
section
open Go.V
attribute [local irreducible] Has N Par Ret RetL RetO RetT RetX Src StepOK V VO X kz
namespace Go.V.L10
def _root_.ZfO(t:Wr Y->A:=by intro h;refine z7 (wq L Z Z (zm Z) Z Z Z (fun u H hH hle _=>Sf T hH (hv.le hle))) Z ?_;exact h.1)(h:Y):A:=t ⟨h⟩
def _root_.ZfP(t:Wr Y->A:=by intro h;refine ZC (h:=?_);refine z7 (yv (cs:=[_,_]) Z Z zmk Z Z) Z ?_;exact h.1)(h:Y):A:=t ⟨h⟩
def PinP(L0:List Int)(e:Int):Value->Heap->Prop:=fun v H=>∃ s,v=.tuple #[pnv s L0.length,.int .i64 e]/\PsV (xh L0) s H
def PinP.mono{e:Int}:Kn.mono (.sat (PinP L0 e)):=fun _ _ _ ⟨s,h1,h2⟩ hle=>⟨s,h1,h2.le hle⟩
def Ge{x:Int×Int}(h:l[i]?=some x)(rest:List Value):l.flatMap pnc++rest=(l.take i).flatMap pnc++(pnc x++((l.drop (i+1)).flatMap pnc++rest)):=by
 have hi:=get_lt h
 have e:l=l.take i++x::l.drop (i+1):=by
  rw[show x::l.drop (i+1)=l.drop i by rw[zpu hi,p9 h],zo0]
 conv=>lhs;rw[e,zpo,zpm]
 simp only[mw]
def zgp{c:Int}(h:l[i]?=some (r,c))(rest:List Value):∃ t,(l.flatMap pnc++rest).drop (0+i*2+1)=.int .i64 c::t:=by
 rw[Ge h rest];have hl:((l.take i).flatMap pnc).length=i*2:=by rw[dp,mi,zqj (Nat.le_of_lt (get_lt h))]
 refine⟨(l.drop (i+1)).flatMap pnc++rest,?_⟩;rw[zp7,zo4 T,mj,show 0+i*2+1-((l.take i).flatMap pnc).length=1 by omega];rfl
def Vi{c:Int}(h:l[i]?=some (r,c))(c':Int)(rest:List Value):(l.flatMap pnc++rest).take (0+i*2+1)++([Value.int .i64 c']++(l.flatMap pnc++rest).drop (0+i*2+1+1))=(l.set i (r,c')).flatMap pnc++rest:=by
 have hi:=get_lt h;have hl:((l.take i).flatMap pnc).length=i*2:=by rw[dp,mi,zqj (Nat.le_of_lt hi)]
 have hs:(l.set i (r,c'))[i]?=some (r,c'):=by rw[zsm hi]
 rw[Ge h rest,Ge hs rest,zsl (nu _),zsn (zrw i)];generalize (l.take i).flatMap pnc=A at hl |-;generalize (l.drop (i+1)).flatMap pnc++rest=zsx
 subst_vars
 have e1:(A++(pnc (r,c)++zsx)).take (0+i*2+1)=A++[Value.int .u64 r]:=by
  rw[zq9,zo6 T,show 0+i*2+1-A.length=1 by omega];rfl
 have e2:(A++(pnc (r,c)++zsx)).drop (0+i*2+1+1)=zsx:=by
  rw[zp7,zo4 T,mj,show 0+i*2+1+1-A.length=2 by omega];rfl
 rw[e1,e2];simp [pnc]
def Vj(h:i<l.length)(rest:List Value):Nat.ble (0+i*2+1+1) (l.flatMap pnc++rest).length=true:=zru (by rw[nr,dp];omega)
def X8{x:Int×Int}(hi:i<=l.length):(L5 l i x)[i]?=some x:=by
 unfold L5;rw[List.getElem?_append_right (by rw[List.length_take];omega),List.length_take,Nat.min_eq_left hi,Nat.sub_self];rfl
def Qn{x y:Int×Int}(hi:i<=l.length):(L5 l i x).set i y=L5 l i y:=by
 unfold L5;rw[List.set_append_right _ _ (by rw[List.length_take];omega),List.length_take,Nat.min_eq_left hi,Nat.sub_self];rfl
def Vg(r:Int):ct cP r (k8 L0)<=(xh L0).length:=by rw[vg];exact ow r _
def zcn(hr:r≠0)(hz2:(xh L0).length<=1000)(hz:L0.length<=4095)(hB:zs4 B w)(hv:PsV (xh L0) s B):
  Ret zs5 152 [pnv s L0.length,.int .u64 r,.int .i64 1] w B (PinP (L0++[r]) 0):=by
 have hcz:L0.count r<=4095:=mp zsu hz;have hws:IntKind.i64.wrap (4096-((L0.count r:Nat):Int))=4096-((L0.count r:Nat):Int):=xb T T;have hwt:IntKind.i64.wrap ((L0.length:Int)+1)=((L0++[r]).length:Nat):=by rw[nr];exact xb T T
 obtain⟨p,c,rfl⟩:=jk hv;have hpl:=Vg (L0:=L0) r;by_cases hm:r∈k8 L0
 ·have hf:decide (r∈k8 L0)=true:=nf hm;have hp:=E3 hm;have hpi:=get_lt hp;have e1:=Co (jx.1 hm);have hwc:IntKind.i64.wrap (((L0.count r:Nat):Int)+1)=((L0.count r:Nat):Int)+1:=xb T T;generalize hat:ct cP r (k8 L0)=at_ at *;refine yr Tryz.func152 Z Tryz.ntmps152 (np Z) hB ((ZD∘ZE∘Zd∘ZF∘Zbp∘Z0∘Zav∘Zr∘ZT∘Zav∘ZS∘ZT∘Zs∘Zac∘Zaw∘Zbh∘Zy∘ZbV∘Za) ?_);refine z71 L Z (fun u H hH hle=>hf ▸ hat ▸ find_ret (L0:=L0) (t:=L0.length) T hH (hv.le hle)) ?_;refine(ZA∘ZcM∘ZaI∘ZbV∘Za) ?_;refine z71 L Z (fun u H hH hle=>count_ret T hH (hv.le hle)) ?_;refine(Zax∘ZM∘Zb∘Zm∘Zau∘Zi∘Zcz∘Z4∘Zo∘ZfO) ?_;refine qg (yu (.inr Z) Z) ((ZaC∘ZG∘Za∘Zm∘Zx) ?_);refine Ai 10 900 rfl (fun h0 _=>by omega) fun b cap rest hl hmc hcm hcl=>?_;obtain⟨tl,hld⟩:=zgp hp rest;have hst:=Vi hp (((L0.count r:Nat):Int)+1) rest;have hbl:=Vj hpi rest;refine(Zae∘Zb∘Zdj∘Zai) ?_;refine ye (qh L (q:=900) Z Z Z hld) ((Za∘ZC∘Zdj∘Zai) ?_);refine xo (yl L (q:=900) Z Z hbl Z hst) (Zg (h:=?_));have hln:(xh (L0++[r])).length=(xh L0).length:=by rw[e1,zq1]
  rw[<-e1];refine f6 (s:=2) (xs:=(xh (L0++[r])).flatMap pnc) (rest:=rest) 10 900 rfl Z Z (by rw[dp,hln]) hmc hcm (by rw[nr,dp,hln,<-dp,<-nr];exact hcl) ?_;refine zap 10 rfl fun x H hs _ hsw=>?_;have hsv:PsV (xh (L0++[r])) x H:=by unfold PsV;rw[hln];exact hsw.toV
  obtain⟨p2,c2,rfl⟩:=jk hsv;refine(ZbL∘Zo∘Za∘ZfP∘Zbi) ?_;refine yj L (rs:=[.cell 6 224,.tmp 7]) Z (fun _ _ h=>h) hs fun u H hH hle=>?_;exact⟨_,y7 Z,rfl,_,rfl,hsv.le hle⟩
 ·have hf:decide (r∈k8 L0)=false:=ng hm;have e1:=Nu (L:=L0) fun h=>hm (jx.2 h);generalize hat:ct cP r (k8 L0)=at_ at *;have e2:xh (L0++[r])=(L5 (xh L0) at_ (r,0)).set at_ (r,1):=by rw[Qn hpl];exact e1
  have hp:=X8 (x:=(r,(0:Int))) hpl;have hpi:=get_lt hp;have hil:=o4 (x:=(r,(0:Int))) hpl;refine yr Tryz.func152 Z Tryz.ntmps152 (np Z) hB ((ZD∘ZE∘Zd∘ZF∘Zbp∘Z0∘Zav∘Zr∘ZT∘Zav∘ZS∘ZT∘Zs∘Zac∘Zaw∘Zbh∘Zy∘ZbV∘Za) ?_);refine z71 L Z (fun u H hH hle=>hf ▸ hat ▸ find_ret (L0:=L0) (t:=L0.length) T hH (hv.le hle)) ?_;refine(ZA∘ZcM∘ZaI∘ZbV∘Za) ?_;refine z71 L Z (fun u H hH hle=>count_ret T hH (hv.le hle)) ?_;refine(Zax∘ZM∘Zb∘Zm∘Za∘Zo∘Zco∘ZT∘Zi∘Zcz∘Z4∘Zo∘ZfO) ?_;refine qg (yu (.inr Z) Z) ((ZaC∘ZG∘Za∘Zm∘Z3∘ZJ) ?_);refine qg (yu (.inl Z) Z) (Zb (h:=?_));refine z7 (yv (cs:=[_,_]) Z Z zjw Z Z) Z (ZaF (h:=?_));refine qg (bh L (q:=51) Z Z Z Z Z (fun u H C x hH hle hx hC v2 hv2=>Ez (y:=(r,0)) hpl T hH hv2 hx hC)) (qg (yu (.inr Z) Z) (Zg (h:=?_)));rw[<-hil];refine Ai 10 900 rfl (fun h0 _=>by omega) fun b cap rest hl hmc hcm hcl=>?_;obtain⟨tl,hld⟩:=zgp hp rest;have hst:=Vi hp 1 rest;have hbl:=Vj hpi rest;refine(Zae∘Zb∘Zdj∘Zai) ?_;refine ye (qh L (q:=900) Z Z Z hld) ((Za∘Zay∘Zdj∘Zai) ?_);refine xo (yl L (q:=900) Z Z hbl Z hst) (Zg (h:=?_));have hln:(xh (L0++[r])).length=(L5 (xh L0) at_ (r,0)).length:=by rw[e2,zq1]
  rw[<-e2];refine f6 (s:=2) (xs:=(xh (L0++[r])).flatMap pnc) (rest:=rest) 10 900 rfl Z Z (by rw[dp,hln]) hmc hcm (by rw[nr,dp,hln,<-dp,<-nr];exact hcl) ?_;refine zap 10 rfl fun x H hs _ hsw=>?_;have hsv:PsV (xh (L0++[r])) x H:=by unfold PsV;rw[hln];exact hsw.toV
  obtain⟨p2,c2,rfl⟩:=jk hsv;refine(ZbL∘Zo∘Za∘ZfP∘Zbi) ?_;refine yj L (rs:=[.cell 6 224,.tmp 7]) Z (fun _ _ h=>h) hs fun u H hH hle=>?_;exact⟨_,y7 Z,rfl,_,rfl,hsv.le hle⟩
def zgr(hr:r≠0)(hz2:(xh L0).length<=1000)(hz:L0.length<=4095)(hB:zs4 B w)(hv:PsV (xh L0) s B):
  Ret zs5 138 [pnv s L0.length,.int .u64 r] w B (PinP (L0++[r]) 0):=by
 obtain⟨p,c,rfl⟩:=jk hv;refine yr Tryz.func138 Z Tryz.ntmps138 (np Z) hB ((ZD∘ZE∘ZaW∘ZbV∘Za) ?_);refine z7 (xg L rfl rfl (zm rfl) rfl rfl rfl PinP.mono (fun u H hH hle _=>zcn hr hz2 hz hH (hv.le hle))) rfl ?_;refine vo 8 rfl fun v1 H1 hs1 hp1=>?_;obtain⟨s1,rfl,hq1⟩:=hp1;obtain⟨p1,c1,rfl⟩:=jk hq1;refine(Zdb∘Zbi) ?_;refine yj L (rs:=[.cell 4 224,.tmp 5]) Z (fun _ _ h=>h) hs1 fun u H hH hle=>?_;exact⟨_,y7 Z,rfl,_,rfl,hq1.le hle⟩
open Go.V.L2 Go.V.L8 Go.V.L6
def _root_.ZdD(t:Wr Y->A:=by intro h;refine wc 900 901 rfl Z (xi _) ?_;exact h.1)(h:Y):A:=t ⟨h⟩
def _root_.Zew(t:Wr Y->A:=by intro h;refine uj 900 901 rfl (xi _) ?_;exact h.1)(h:Y):A:=t ⟨h⟩
abbrev tyS:TypeId:=226
abbrev Ent:=List (Int×(List U×Value))
abbrev vcE(p:List U×Value):Value:=p.2
abbrev stc(n m:Nat)(s:Value)(t:Nat):List Value:=[.int .u64 n,.map (some m),s,.int .i64 t]
abbrev StO(b n m:Nat)(s:Value)(t:Nat)(es:Ent):GR:=gu (xc b (stc n m s t) tyS) (zl3 m .u64 vcE es)
def cq(b n m:Nat)(s:Value)(t:Nat)(es:Ent):(StO b n m s t es).res=im (xu b (stc n m s t) tyS) (Dz m .u64 vcE es):=rfl
def EsV(es:Ent)(H:Heap):Prop:=∀ e∈es,SetV e.2.1 e.2.2 H
def EsV.le{es:Ent}{H H':Heap}(h:EsV es H)(hle:H.Le H'):EsV es H':=fun e he=>(h e he).le hle
def Au{cs:List Value}:∀ v H u C,(xu b cs ty).P v H u C->joinH H u C b=some (.cells cs.toArray ty):=fun _ _ _ _ ⟨hb,hC⟩=>(cm ((hC b).2 rfl)).trans hb
def zr_run{P:Program}(L:Tabs P){e:TypeId}{z:Value}(hz:L.zr e=some z)(w:World):(zeroValue e).run P w=.ok z w:=by
 have h:=Tabs.zr_spec hz;unfold zrI at h;split at h
 ·rename_i it hit;simp [zeroValue,typeInfo,hit,h]
 ·cases h
abbrev zn5:TypeId:=221
abbrev tySt:TypeId:=37
def mpS:zs5.underlying zn5=some (.map Fu tySt):=J
def kyS:zs5.underlying Fu=some (.int .u64):=J
def zrS(w:World):(zeroValue tySt).run zs5 w=.ok nilSet w:=zr_run L rfl w
attribute [local irreducible] RetY
def none_ret(hn:n≠0)(hb:B b=some (.cells (Value.int .u64 n::rest).toArray tyS))(hB:zs4 B w):
  Ret zs5 139 [.pointer (some ⟨b,0,none⟩)] w B (fun v _=>v=.bool false):=by
 refine yr Tryz.func139 Z Tryz.ntmps139 (np Z) hB (Zc2 (h:=?_));refine z7 (u9 Z Z Z Z zkd Z) Z ((Zb∘Zcd∘ZT∘Zi∘Zc) ?_);exact yj2 L [.tmp 2]
def gm(hn:n≠0)(hb:B b=some (.cells (Value.int .u64 n::rest).toArray tyS))(hB:zs4 B w):
  Ret zs5 156 [.pointer (some ⟨b,0,none⟩)] w B (fun v _=>v=.int .u64 n):=by
 refine yr Tryz.func156 Z Tryz.ntmps156 (np Z) hB (Zck (h:=?_));refine z71 L Z (fun u H hH hle=>none_ret hn (hle _ _ hb) hH) ?_;refine(Zx∘Zr∘Zcd∘Zc) ?_;exact yj2 L [.tmp 2]
def pins_ret(hs:∃ p k c,s=.slice p k c)(hn:n≠0)(hb:B b=some (.cells (stc n m s t).toArray tyS))(hB:zs4 B w):
  Ret zs5 142 [.pointer (some ⟨b,0,none⟩)] w B (fun v _=>v=pnv s t):=by
 obtain⟨p,k,c,rfl⟩:=hs;refine yr Tryz.func142 Z Tryz.ntmps142 (np Z) hB ((Zah∘ZaC∘Zbp) ?_);refine z71 L Z (fun u H hH hle=>none_ret hn (hle _ _ hb) hH) ?_;refine(Zx∘Zr∘Zap) ?_;refine z7 (zz L (vs:=[_,_]) (qt Z M) Z Z Z Z ⟨_,rfl⟩) Z (ZZ (h:=?_));refine yj1 L [.cell 2 224] fun u H hH hle=>?_;exact⟨_,y7 Z,rfl,rfl⟩
def Ki{b m t:Nat}{es:Ent}(hm:MapOK es S.R)(hn:S.R.length≠0)(hes:EsV es B)(hB:zs4 B w)(hr:(StO b S.R.length m s t es).P B w C)(hC:ZCB C w B):
  RetY zs5 88 [.pointer (some ⟨b,0,none⟩),.int .u64 r] w B C (StO b S.R.length m s t es) (WithP (atS S r).1 (atS S r).2):=by
 unfold RetY;refine xf 900 (StO b S.R.length m s t es) Tryz.func88 Z Tryz.ntmps88 (np Z) hB hr hC ?_;rw[cq];refine Zew (h:=?_);obtain⟨k,hk⟩:∃ k,k=if r=0 then (S.R.length:Int) else r:=⟨_,rfl⟩
 have hat:atS S r=match kpt S.R k with | some t=>(t,0) | none=>([],14):=by rw[hk];rfl
 have hg:=hm.get k;by_cases hr0:r=0
 ·rw[na hr0] at hk;subst hr0;subst hk
  cases hgk:ut (S.R.length:Int) es with
  | none=>
   rw[hgk] at hg;rw[hat,<-hg];have q1:(ut (S.R.length:Int) es).elim nilSet vcE=nilSet:=by rw[hgk];rfl
   have q2:(ut (S.R.length:Int) es).isSome=false:=by rw[hgk];rfl
   refine(Zah∘Zbd) ?_;refine ye (xy L 900 (Φ:=fun H=>H b=some (.cells (stc S.R.length m s t).toArray tyS)) (c:=.bool false) Z Z (zm Z) Z Z Z Z Z Au (fun u H hH hle hb=>none_ret hn hb hH)) ((ZV∘Zr∘ZN∘Z3∘Zc4∘Zbm∘ZW∘Za) ?_);refine ye (gk (q:=901) (vc:=vcE) (S.R.length:Int) mpS kyS zrS Z Z Z Z Z q1 q2) ((ZA∘Za1∘Zk∘ZL∘Zm∘Zn∘Zy∘ZdB∘Zbi) ?_);refine ZdD (h:=?_);exact ui L 900 (r:=StO b S.R.length m s t es) (rs:=[.cell 4 37,.tmp 5]) Z (fun _ _ h=>h) nq Z Z (fun H hle=>⟨_,y7 Z,rfl,_,rfl,SetV.nil⟩)
  | some x=>
   obtain⟨l,sv⟩:=x;rw[hgk] at hg;rw[hat,<-hg];have hx:SetV l sv B:=hes _ (ai hgk);obtain⟨f1,p1,f2,p2,rfl,hpl⟩:=hx.shape;have q1:(ut (S.R.length:Int) es).elim nilSet vcE=.agg #[f1,.pointer p1,f2,.pointer p2]:=by rw[hgk];rfl
   have q2:(ut (S.R.length:Int) es).isSome=true:=by rw[hgk];rfl
   refine(Zah∘Zbd) ?_;refine ye (xy L 900 (Φ:=fun H=>H b=some (.cells (stc S.R.length m s t).toArray tyS)) (c:=.bool false) Z Z (zm Z) Z Z Z Z Z Au (fun u H hH hle hb=>none_ret hn hb hH)) ((ZV∘Zr∘ZN∘Z3∘Zc4∘Zbm∘ZW∘Za) ?_);refine ye (gk (q:=901) (vc:=vcE) (S.R.length:Int) mpS kyS zrS Z Z Z Z Z q1 q2) ((ZA∘ZE∘Zb7∘Zk∘ZL∘Zm∘Zx∘Zu∘Zbg∘Zb7∘Zc) ?_);refine ZdD (h:=?_);exact ui L 900 (r:=StO b S.R.length m s t es) (rs:=[.cell 4 37,.tmp 5]) Z (fun _ _ h=>h) nq Z Z (fun H hle=>⟨_,y7 Z,rfl,_,rfl,hx.le hle⟩)
 ·rw[nc hr0] at hk;subst hk
  cases hgk:ut k es with
  | none=>
   rw[hgk] at hg;rw[hat,<-hg];have q1:(ut k es).elim nilSet vcE=nilSet:=by rw[hgk];rfl
   have q2:(ut k es).isSome=false:=by rw[hgk];rfl
   refine(Zah∘Zbd) ?_;refine ye (xy L 900 (Φ:=fun H=>H b=some (.cells (stc S.R.length m s t).toArray tyS)) (c:=.bool false) Z Z (zm Z) Z Z Z Z Z Au (fun u H hH hle hb=>none_ret hn hb hH)) ((ZV∘Zr∘ZbK∘ZS∘ZW∘Za) ?_);refine ye (gk (q:=901) (vc:=vcE) k mpS kyS zrS Z Z Z Z Z q1 q2) ((ZA∘Za1∘Zk∘ZL∘Zm∘Zn∘Zy∘ZdB∘Zbi) ?_);refine ZdD (h:=?_);exact ui L 900 (r:=StO b S.R.length m s t es) (rs:=[.cell 4 37,.tmp 5]) Z (fun _ _ h=>h) nq Z Z (fun H hle=>⟨_,y7 Z,rfl,_,rfl,SetV.nil⟩)
  | some x=>
   obtain⟨l,sv⟩:=x;rw[hgk] at hg;rw[hat,<-hg];have hx:SetV l sv B:=hes _ (ai hgk);obtain⟨f1,p1,f2,p2,rfl,hpl⟩:=hx.shape;have q1:(ut k es).elim nilSet vcE=.agg #[f1,.pointer p1,f2,.pointer p2]:=by rw[hgk];rfl
   have q2:(ut k es).isSome=true:=by rw[hgk];rfl
   refine(Zah∘Zbd) ?_;refine ye (xy L 900 (Φ:=fun H=>H b=some (.cells (stc S.R.length m s t).toArray tyS)) (c:=.bool false) Z Z (zm Z) Z Z Z Z Z Au (fun u H hH hle hb=>none_ret hn hb hH)) ((ZV∘Zr∘ZbK∘ZS∘ZW∘Za) ?_);refine ye (gk (q:=901) (vc:=vcE) k mpS kyS zrS Z Z Z Z Z q1 q2) ((ZA∘ZE∘Zb7∘Zk∘ZL∘Zm∘Zx∘Zu∘Zbg∘Zb7∘Zc) ?_);refine ZdD (h:=?_);exact ui L 900 (r:=StO b S.R.length m s t es) (rs:=[.cell 4 37,.tmp 5]) Z (fun _ _ h=>h) nq Z Z (fun H hle=>⟨_,y7 Z,rfl,_,rfl,hx.le hle⟩)
end Go.V.L10
namespace Go.V.L11
open Go.V.L4
def _root_.Zgj(t:Wr Y->A:=by intro h;refine z8 (zo L (yd Z (List.Mem.head _)) Z Z Z Z) Z ?_;exact h.1)(h:Y):A:=t ⟨h⟩
def _root_.Za8(t:Wr Y->A:=by exact fun h=>(Zdc∘Zgj) h.1)(h:Y):A:=t ⟨h⟩
def zwr(w:World):(zeroValue znf).run zs5 w=.ok (.agg #[.int .i64 0,.int .i64 0]) w:=L10.zr_run L rfl w
attribute [local irreducible] XP RetY Pan
def Tt{a e:Int}(hB:zs4 B w):Ret zs5 147 [wrV a e] w B (fun v _=>v=.tuple #[.int .i64 a,.int .i64 e]):=by
 refine yr Tryz.func147 Z Tryz.ntmps147 (np Z) hB ((ZbX∘Zbd) ?_);refine z7 (Sv Z Z Z J) Z ((ZA∘Za1∘Zd) ?_);refine ug 4 rfl fun b4 _=>?_;refine(Zz∘Zn∘ZcH∘Za8∘Za8∘ZaK∘ZaS) ?_;exact yj2 L [.tmp 2,.tmp 3]
def Ox(hB:zs4 B w):Ret zs5 147 [.nilIface] w B (fun v _=>v=.tuple #[.int .i64 0,.int .i64 0]):=by
 refine yr Tryz.func147 Z Tryz.ntmps147 (np Z) hB ((ZbX∘Zbd) ?_);refine z7 (Sw Z Z Z J zwr) Z ((ZA∘Za1∘ZaZ∘Zx∘Zt∘ZI) ?_);exact yj2 L [.tmp 2,.tmp 3]
abbrev zbe:TypeId:=3
abbrev Mr:TypeId:=38
abbrev tyPS:TypeId:=147
abbrev G3(ba be bs:Nat)(x y z:Value):GR:=gu (xc ba [x] zbe) (gu (xc be [y] Mr) (xc bs [z] tyPS))
attribute [local irreducible] ik
def Lu{ba be:Nat}{x y z:Value}{a e:Int}{m m':FrameMode}(hm:RecM m m' v)(hcv:∀ (u:World) (H:Heap),zs4 H u->Ret zs5 147 [v] u H (fun r _=>r=.tuple #[.int .i64 a,.int .i64 e]))(hB:zs4 B w)(hr:(G3 ba be bs x y z).P B w C)(hC:ZCB C w B):
  ik zs5 146 [kq ba,kq be,kq bs] w B C m m' (G3 ba be bs (.int .i64 a) (.int .i64 e) (if e=0 then z else .pointer none)):=by
 refine zed 900 (G3 ba be bs x y z) _ hm Tryz.func146 Z Tryz.ntmps146 (np Z) Z Z Z Z hB hr hC ?_;refine Mx (r1:=xu ba [x] zbe) (r2:=(gu (xc be [y] Mr) (xc bs [z] tyPS)).res) 900 901 rfl (xi _) ?_;refine Mx (r1:=xu be [y] Mr) (r2:=xu bs [z] tyPS) 901 902 rfl (co _ _ _) ?_;refine z71 L Z (fun u H hH _=>hcv u H hH) ?_;refine ZA (h:=?_);refine xo (yl L (q:=900) (cs':=[.int .i64 a]) Z Z Z Z Z) (xo (yl L (q:=901) (cs':=[.int .i64 e]) Z Z Z Z Z) (Zab (h:=?_)));refine Zbr (h:=?_);by_cases he:e=0
 ·rw[na he];refine(Ze∘Zan∘Zev∘Zbf∘Zac) ?_;refine o9 901 902 rfl Z (co _ _ _) ?_;refine o9 900 901 rfl Z (xi (gu (xc be [.int .i64 e] Mr) (xc bs [z] tyPS))) ?_;exact zas L 900 (r:=G3 ba be bs (.int .i64 a) (.int .i64 e) z) Z Z Z nq
 ·rw[nc he];refine(Ze∘Zan∘Zev∘Zde∘Z3∘Zv) ?_;refine xo (yl L (q:=902) (cs':=[.pointer none]) Z Z Z Z Z) (Zab (h:=?_));refine o9 901 902 rfl Z (co _ _ _) ?_;refine o9 900 901 rfl Z (xi (gu (xc be [.int .i64 e] Mr) (xc bs [.pointer none] tyPS))) ?_;exact zas L 900 (r:=G3 ba be bs (.int .i64 a) (.int .i64 e) (.pointer none)) Z Z Z nq
end Go.V.L11
namespace Go.V.L11
open Go.V.L4
def a8{F:Fr}{κ:Kap}{pv:Value}(l:List (Nat×Kn))(hl:LiveOK l κ)(h:XP F B n O (ofL l) pv zs3):XP F B n O κ pv zs3:=fun a u hh=>h a u (hh.live hl)
def zhh{P:Program}{F:Fr}{κ:Kap}{fn:Func}{R R':Ending->World->Prop}(h:LV P F B n O κ fn R)(hm:∀ e u,R e u->R' e u):LV P F B n O κ fn R':=fun a u hh=>let ⟨v,h1,h2⟩:=h a u hh;⟨v,h1,hm _ _ h2⟩
attribute [local irreducible] XP LV RetY Pan ik
abbrev FLd(w:World)(ba be bs:Nat):Fr:=⟨w,none,[.u (dfd 146 [kq ba,kq be,kq bs])],noL⟩
abbrev KLd(ba be bs:Nat)(x y z:Value):List (Nat×Kn):=[(2,.is (kq bs)),(3,.is (kq ba)),(4,.is (kq be)),(910,.own (xu bs [z] tyPS)),(911,.own (xu ba [x] zbe)),(912,.own (xu be [y] Mr))]
def Xq{B0:Heap}{ba be:Nat}{x y z:Value}{a e:Int}(he:e≠0)(hs:Since (FLd w ba be bs) B0 B){R:Ending->World->Prop}(hR:∀ r u,li w B0 noL (fun v _ _=>v=.tuple #[.pointer none,.int .i64 a,.int .i64 e]) r u->R r u):
  XP (FLd w ba be bs) B n O (ofL (KLd ba be bs x y z)) (wrV a e) (bodyPostM Fence.wide 0 zs5 Tryz.f86 R):=by
 refine O8 912 910 rfl Z (co _ _ _) ?_;refine O8 911 912 rfl Z (xi (gu (xc be [y] Mr) (xc bs [z] tyPS))) ?_;refine zfl L 911 (r:=G3 ba be bs x y z) (r':=G3 ba be bs (.int .i64 a) (.int .i64 e) (if e=0 then z else .pointer none)) Z Z Z (fun u H C hH _ hr hC=>Lu (RecM.caught _) (fun u H hH=>Tt hH) hH hr hC) ?_ (fun _ _ h=>h);rw[nc he];refine Gr (r1:=xu ba [.int .i64 a] zbe) (r2:=(gu (xc be [.int .i64 e] Mr) (xc bs [.pointer none] tyPS)).res) 911 912 rfl (xi _) ?_;refine Gr (r1:=xu be [.int .i64 e] Mr) (r2:=xu bs [.pointer none] tyPS) 912 910 rfl (co _ _ _) ?_;refine db 3 911 rfl Z (db 4 912 rfl Z (db 2 910 rfl Z (zhh (R:=li w B0 noL (fun v _ _=>v=.tuple #[.pointer none,.int .i64 a,.int .i64 e])) ?_ hR)));exact zki L (rs:=[.cell 2 tyPS,.cell 3 zbe,.cell 4 Mr]) Z hs (fun u H _ _=>wn (y7 Z) Z (wn (y7 Z) Z (wn (y7 Z) Z Z)))
end Go.V.L11
end
namespace Go.V
def zfn(ops:Array Oper)(K:Nat):Bool:=
 let b:=Region.before ops
 (List.range ops.size).all fun i=>Nat.ble i K || (b.getD i 0).testBit K
section sound
variable {P:Program} {St:Kap->Act->World->Prop} {ops:Array Oper} {ex:Exs}
def Rl(P:Program)(St:Kap->Act->World->Prop)(ops:Array Oper)(ex:Exs)(r:Option Nat)(zs3:Exit->Act->World->Prop)(K:Nat)(o:Oper)(κ:Kap):Prop:=
 ∀ κ' a u,(∀ t∈lks ops ex o,κ' t=κ t)->St κ' a u->∀ Kk,wpOpIn (FW r) 0 P ops zs3 K Kk a u
def Ee{r:Option Nat}{zs3:Exit->Act->World->Prop}{K:Nat}{o:Oper}:∀ (l:List Nat) {κ:Kap},(∀ j∈l,∀ x,ops[j]?=some x->Lo (tch ex x) (lks ops ex o)=true)->
  ParI P St ops ex (Rl P St ops ex r zs3 K o) l κ->Rl P St ops ex r zs3 K o κ
 | [],κ,_,h=>h
 | j::l,κ,hap,⟨x,us,hx,hd,sx,rest⟩=>fun κ' a u hl hh=>by
  have h2:=ah (hap j (mc ..) x hx);exact Ee l (fun m hm=>hap m (mh _ hm)) rest κ' a u (fun t ht=>(hl t ht).trans (w5 us κ t fun p hp e=>h2 p.1 (hd p hp) (e ▸ ht)).symm) hh
def T5{r:Option Nat}(hsep:zgf ops ex=true){K:Nat}(hw:zfn ops K=true)(hoK:ops[K]?=some o)(hK:K<ops.size):∀ (fuel:Nat) (listed:Array Bool) (l:List Nat) (κ:Kap) (a:Act) (u:World),
  l.length<fuel->l.Pairwise (·<·)->listed.size=ops.size->(∀ i,(i∈l\/(K<=i/\i<ops.size))↔i<ops.size/\listed.getD i true=false)->O7 ops listed->(∀ i∈l,i<K)->
  ParI P St ops ex (Rl P St ops ex r zs3 K o) l κ->St κ a u->wpAnyIn (FW r) 0 P .any ops zs3 fuel listed a u:=by
 intro fuel
 induction fuel with
 | zero=>intro listed l κ a u hlen;omega
 | succ fuel ih=>
  intro listed l κ a u hlen hsort hsz hmem hcl hlK hp hh;have hsep':=hsep;simp only[zgf,zo9,zo5] at hsep'
  have hedge:∀ i (hi:i<ops.size),∀ e∈(ops[i]'hi).after,Region.binds .any e=true->e.on<i:=fun i hi e he hb=>by
   have h1:=(hsep' i (by simpa using hi)).1;rw[zo8,zpj hi,Option.getD_some,Array.all_eq_true'] at h1;have:=h1 e he;simp [hb] at this;exact this
  have hlow:∀ j,j<ops.size->listed.getD j true=false->(∀ i∈l,j<=i)->j<=K->j∈Region.ready .any ops listed:=fun j hj hjl hmin hjK=>by
   refine mem_ready.2 ⟨hjl,ops[j],by simp [hj],fun e he hb=>?_⟩;have hlt:=hedge j hj e he hb;cases hle:listed.getD e.on true
   ·rcases(hmem e.on).2 ⟨by omega,hle⟩ with h | h
    ·have:=hmin _ h;omega
    ·omega
   ·rw[zo8,zpj T] at hle |-;simpa using hle
  have hKl:=((hmem K).1 (.inr ⟨nu _,hK⟩)).2;constructor
  ·intro hr;exfalso
   have:∃ j,j∈Region.ready .any ops listed:=by
    cases l with
    | nil=>exact⟨K,hlow K hK hKl (fun i hi=>by cases hi) (nu _)⟩
    | cons j0 l0=>
     obtain⟨h1,h2⟩:=(hmem j0).1 (.inl (mc ..));refine⟨j0,hlow j0 h1 h2 (fun i hi=>?_) (Nat.le_of_lt (hlK j0 (mc ..)))⟩;rcases ma.1 hi with rfl | hi
     ·exact nu _
     ·exact Nat.le_of_lt (List.rel_of_pairwise_cons hsort hi)
   obtain⟨j,hj⟩:=this;rw[hr] at hj;cases hj
  ·intro i hi;obtain⟨hli,oi,ho,hall⟩:=mem_ready.1 hi
   have hisz:i<ops.size:=by
    rcases m5 i ops.size with h | h
    ·exact h
    ·rw[zqv h] at ho;cases ho
   have hio:ops[i]=oi:=by rw[zpj hisz] at ho;exact Option.some.inj ho
   have hwait:∀ j,j<ops.size->((Region.before ops).getD i 0).testBit j=true->listed.getD j true=false->False:=fun j hjs h2 hjl=>by
    have:=s0 hsz hcl i hisz (fun e he hb=>by rw[hio] at he;exact hall e he hb) j h2;rw[zo8,zpj T] at this hjl;simp at this hjl;rw[this] at hjl;cases hjl
   have hapart:∀ j∈l,j<i->∀ x y,ops[j]?=some x->ops[i]?=some y->Ax ops ex x y=true:=fun j hj hji x y hx hy=>by
    obtain⟨hjs,hjl⟩:=(hmem j).1 (.inl hj);have h2:=(hsep' i (by simpa using hisz)).2 j (by simpa using hji);rw[zq3] at h2;rcases h2 with h2 | h2
    ·exact(hwait j hjs h2 hjl).elim
    ·rw[zo8,zo8,hx,hy] at h2;exact h2
   rcases(hmem i).2 ⟨hisz,hli⟩ with hil | ⟨hKi,_⟩
   ·obtain⟨l1,l3,rfl⟩:=zr1 hil
    have hap:∀ j∈l1,∀ x y,ops[j]?=some x->ops[i]?=some y->Ax ops ex x y=true:=fun j hj=>
     hapart j (zpk _ hj) ((zpq.1 hsort).2.2 j hj i (mc ..))
    obtain⟨o',us,ho',hd,sx,rest⟩:=ParI.front l1 hap hp;obtain rfl:oi=o':=by rw[ho] at ho';exact Option.some.inj ho'
    have hst:=sx κ a u (fun _ _=>rfl) hh;refine After.wpOpIn ho ?_;refine After.mono (fun a' u' hh'=>?_) hst;have hli':i<listed.size:=T;have hiK:=hlK i hil;refine ih (listed.setIfInBounds i true) (l1++l3) _ a' u' (by simp at hlen |-;omega) ?_ (by simpa using hsz) ?_ ?_ (fun j hj=>hlK j (by rcases mn.1 hj with h | h;exact zpk _ h;exact zpz _ (mh _ h))) rest hh'
    ·rw[zpq] at hsort |-;exact⟨hsort.1,(mo.1 hsort.2.1).2,fun x hx y hy=>hsort.2.2 x hx y (mh _ hy)⟩
    ·intro j;rw[Bl true hli']
     have hnd:i∉l1++l3:=by
      rw[zpq] at hsort;intro hm;rcases mn.1 hm with hm | hm
      ·have:=hsort.2.2 i hm i (mc ..);omega
      ·have:=(mo.1 hsort.2.1).1 i hm;omega
     by_cases hij:i=j
     ·subst hij;simp [hnd];omega
     ·rw[nc hij,<-hmem j];simp only[mn,ma];constructor
      ·rintro((h | h) | h);exact .inl (.inl h);exact .inl (.inr (.inr h));exact .inr h
      ·rintro((h | h | h) | h);exact .inl (.inl h);exact ni h.symm hij;exact .inl (.inr h);exact .inr h
    ·intro k hk hkl e he hb;rw[Bl _ hli'] at hkl |-;by_cases hie:i=e.on
     ·rw[na hie]
     ·rw[nc hie];by_cases hik:i=k
      ·subst hik;rw[hio] at he;exact hall e he hb
      ·rw[nc hik] at hkl;exact hcl k hk hkl e he hb
   ·by_cases hKe:i=K
    ·subst hKe;obtain rfl:oi=o:=by rw[ho] at hoK;exact Option.some.inj hoK
     refine Ee l (fun j hj x hx=>?_) hp κ a u (fun _ _=>rfl) hh _;have:=hapart j hj (hlK j hj) x oi hx ho;simp only[Ax,zo5] at this;exact this.1
    ·exfalso;simp only[zfn,zo9,zq3] at hw;rcases hw i (by simpa using hisz) with h | h
     ·have:=np h;omega
     ·exact hwait K hK h hKl
end sound
section code
variable {P:Program} {F:Fr}    {κ:Kap}  {ops:Array Oper} {ex:Exs} {os:List Oper}
def zl0(P:Program)(F:Fr)(B:Heap)(n:Nat)(O:Boxes)(ops:Array Oper)(ex:Exs)(K:Nat)(o:Oper)(κ:Kap)(os:List Oper)(zs3:Exit->Act->World->Prop):Prop:=
 ziw P (Has F B O n) ops ex (Rl P (Has F B O n) ops ex F.r zs3 K o) os κ
def Fh{id:Nat}{l:List Oper}(K:Nat)(ex:Exs)(hm:P.follows .mixedOrders=true)(ho:l[K]?=some o)(hs:(zgf l.toArray ex && zfn l.toArray K)=true)
  (h:zl0 P F B n O l.toArray ex K o κ (l.take K) zs3):V P F B n O κ (.region id l.toArray true) zs3:=fun a u hh=>by
 rw[zo5] at hs
 have hK:K<l.length:=by
  rcases m5 K l.length with h | h
  ·exact h
  ·rw[zo1 h] at ho;cases ho
 refine wpIn_region_any hm (T5 (St:=Has F B O n) (ex:=ex) (o:=o) hs.1 hs.2 (by simpa using ho) (by simpa using hK) l.toArray.size _ (List.range' 0 K) κ a _ (by simpa using hK) List.pairwise_lt_range' (by simp) ?_ ?_ (fun i hi=>by have:=List.mem_range'_1.1 hi;omega) ?_ hh.drew)
 ·intro i;constructor
  ·rintro(h | h)
   ·have:=List.mem_range'_1.1 h;refine⟨by simp;omega,?_⟩;have:i<l.length:=T;simp [this]
   ·have:i<l.length:=by simpa using h.2
    refine⟨h.2,?_⟩;simp [this]
  ·rintro⟨h,_⟩;by_cases hi:i<K
   ·exact .inl (List.mem_range'_1.2 ⟨mb _,by omega⟩)
   ·exact .inr ⟨by omega,h⟩
 ·intro k hk hkl;simp at hk;simp [hk] at hkl
 ·refine Eo K 0 (by simp;omega) ?_;rw[zpy];exact h
def j9{K:Nat}{ok:Oper}{d:Nat}{k:Kn}(hs:StepOK P F B n ops O κ o d k)(hd:vd o=some d)(h:zl0 P F B n O ops ex K ok (upd κ d k) os zs3):zl0 P F B n O ops ex K ok κ (o::os) zs3:=
 ⟨[(d,k)],fun p hp=>by simp at hp;subst hp;simp [tch,hd],hs.stepG,h⟩
def rm{K:Nat}(ll:List (Nat×Kn))(hin:(ll.all fun p=>(lks ops ex o).contains p.1)=true)(hl:LiveOK ll κ)(h:N F B n O (ofL ll) (QX P F ops K zs3)):zl0 P F B n O ops ex K o κ [] zs3:=fun κ' a u hag hh Kk=>by
 have key:∀ l:List (Nat×Kn),(l.all fun p=>(lks ops ex o).contains p.1)=true->LiveOK l κ->LiveOK l κ':=by
  intro l
  induction l with
  | nil=>intro _ _;trivial
  | cons p l ih=>
   intro h1 h2;rw[List.all_cons,zo5] at h1;exact⟨(hag p.1 (by simpa using h1.1)).trans h2.1,ih h1.2 h2.2⟩
 exact h a u (hh.live (key ll hin hl)) Kk
end code
end Go.V
namespace Go.V.L11
open Go.V.L4
def Pt{sb rb:Nat}{bs:List Nat}{fr:Int}{R:Rd}(hb:∀ b∈bs,b<=255)(hl:bs.length<=1099511627776)(hat:R.at_<=bs.length)(hB:zs4 B w)(hs:BsV bs fu sv B)(hr:(xx sb rb sv fr R).P B w C)(hC:ZCB C w B):
  RetX zs5 151 [kq rb] w B C (xx sb rb sv fr (r7 bs R).2) (.int .u64 ((r7 bs R).1:Nat)):=
 RetL.mono (RetY.conv (RetY.frame (G4 hr) hC fun C1 h1 hC1=>(Nj hb hl hat hB hs h1 hC1).toY) fun _ _ _ h=>G4 h:RetY _ _ _ _ _ _ (xx sb rb sv fr (r7 bs R).2) fun x _=>x=.int .u64 ((r7 bs R).1:Nat)) fun _ _ _ _ h=>h
attribute [local irreducible] V N X VO Par XP LV StepOK Has Ret RetL RetO RetT kz RetX RetY Pan ik Src
open Go.V.L2 Go.V.L6
abbrev tySt:TypeId:=37
def Xk(hr:r≠0){p:Option Addr}{c:Nat}{t:Int}(hB:zs4 B w):
  Ret zs5 152 [.agg #[.slice p k c,.int .i64 t],.int .u64 r,.int .i64 0] w B (fun v _=>v=.tuple #[.agg #[.slice p k c,.int .i64 t],.int .i64 0]):=by
 refine yr Tryz.func152 Z Tryz.ntmps152 (np Z) hB ((ZD∘ZE∘Zd∘ZF∘Zbp∘Z0∘Zav∘Zr∘ZT∘Zav∘ZS∘ZN∘ZbE∘Zd8∘ZbV∘Zbi) ?_);refine yj1 L [.cell 6 224,.tmp 7] fun u H hH hle=>?_;exact⟨_,y7 Z,rfl,rfl⟩
end Go.V.L11
namespace Go.V.L3
open Go.V.L2
def _root_.Zcv(t:Wr Y->A:=by intro h;refine z7 (zz L (vs:=[_,_,_,_,_,_,_]) (y7 Z) Z Z Z Z ⟨_,rfl⟩) Z ?_;exact h.1)(h:Y):A:=t ⟨h⟩
def _root_.Zgk(t:Wr Y->A:=by intro h;refine qv (qh L (q:=901) Z Z Z Z) Z Z ?_;exact h.1)(h:Y):A:=t ⟨h⟩
def _root_.ZcU(t:Wr Y->A:=by intro h;refine z8 (Gk Z Z Z Z (nf M)) Z ?_;exact h.1)(h:Y):A:=t ⟨h⟩
def _root_.ZdE(t:Wr Y->A:=by intro h;refine qn (id:=12) [(200045,[901]),(200056,[901])] ko J ?_;exact h.1)(h:Y):A:=t ⟨h⟩
def _root_.Zej(t:Wr Y->A:=by intro h;refine qn (id:=14) [(200067,[901]),(100072,[901])] ko J ?_;exact h.1)(h:Y):A:=t ⟨h⟩
def _root_.Zek(t:Wr Y->A:=by intro h;refine z8 (Gk Z Z Z Z (ng M)) Z ?_;exact h.1)(h:Y):A:=t ⟨h⟩
def _root_.ZdF(t:Wr Y->A:=by intro h;refine xo (yl L (q:=901) Z Z Z Z Z) ?_;exact h.1)(h:Y):A:=t ⟨h⟩
def _root_.Zel(t:Wr Y->A:=by intro h;refine xq (yl L (q:=901) Z Z Z Z Z) Z ?_;exact h.1)(h:Y):A:=t ⟨h⟩
def _root_.Zf1(t:Wr Y->A:=by intro h;refine ye (ky L (q:=901) (vs:=[_,_,_,_,_,_,_]) Z Z Z Z ⟨_,rfl⟩) ?_;exact h.1)(h:Y):A:=t ⟨h⟩
def _root_.Zex(t:Wr Y->A:=by intro h;refine dw 4 901 rfl Z ?_;exact h.1)(h:Y):A:=t ⟨h⟩
def _root_.Zgl(t:Wr Y->A:=by exact fun h=>(Za8∘ZcP) h.1)(h:Y):A:=t ⟨h⟩
def _root_.Zb1(t:Wr Y->A:=by exact fun h=>(Zgl∘Zgk) h.1)(h:Y):A:=t ⟨h⟩
def _root_.ZfQ(t:Wr Y->A:=by intro h;refine Zo (h:=?_);refine z7 (yv (cs:=[_,_]) Z Z zmp Z Z) Z ?_;exact h.1)(h:Y):A:=t ⟨h⟩
attribute [local irreducible] V N X VO Par StepOK Has Ret RetL RetO RetT Src
def ae{a b:ByteArray}{v:Value}(hB:zs4 B w)(hv:SlB [.string a,.string b] ty 2 v B):Ret zs5 92 [v] w B (fun v _=>v=.string (orB a b)):=by
 obtain⟨p,rfl,hb⟩:=hv;unfold orB;refine yr Tryz.func92 Z Tryz.ntmps92 (np Z) hB ((ZK∘Zk∘Zz∘Zco∘ZaR) ?_);refine xp (fun k:Nat=>[(3,.is (.string ⟨#[]⟩)),(6,.is (.slice (some ⟨p,0,none⟩) 2 2)),(7,.is (.int .i64 2)),(8,.is (.int .i64 k))]) (fun k=>k<=2/\(0<k->a=⟨#[]⟩)/\(1<k->b=⟨#[]⟩)) (fun k=>2-k) 0 ⟨mb _,fun h=>T,fun h=>T⟩ ⟨Z,Z,Z,Z,nm⟩ ?_;rintro k ⟨hk,i0,i1⟩;rcases k with _ | _ | _ | k
 ·by_cases h1:a=⟨#[]⟩
  ·have h1':¬ a≠⟨#[]⟩:=fun h=>h h1;refine(Zcm∘Zt∘Zdj∘Zcr∘Zd∘ZbG∘ZcZ∘Zbl∘Zy∘ZB) ?_;exact yo (x:=0) 1 ⟨by decide,fun _=>h1,fun h=>T⟩ E ⟨Z,Z,Z,Z,nm⟩
  ·have h1':a≠⟨#[]⟩:=h1;rw[nc h1];refine(Zcm∘Zt∘Zdj∘Zcr∘Zd∘ZbG∘ZbH∘Zn∘ZL∘Zc) ?_;exact yj2 L [.tmp 2]
 ·rw[na (i0 E)];by_cases h1:b=⟨#[]⟩
  ·have h1':¬ b≠⟨#[]⟩:=fun h=>h h1;refine(Zcm∘Zt∘Zdj∘Zcr∘Zd∘ZbG∘ZcZ∘Zbl∘Zy∘ZB) ?_;exact yo (x:=1) 2 ⟨by decide,fun _=>i0 E,fun _=>h1⟩ E ⟨Z,Z,Z,Z,nm⟩
  ·have h1':b≠⟨#[]⟩:=h1;refine(Zcm∘Zt∘Zdj∘Zcr∘Zd∘ZbG∘ZbH∘Zn∘ZL∘Zc) ?_;exact yj2 L [.tmp 2]
 ·rw[na (i0 E),i1 E];refine(Zdu∘Zak∘ZaI∘Zc) ?_;exact yj2 L [.tmp 2]
 ·omega
def Ow(h:x=⟨#[]⟩):cfB x y=false:=by unfold cfB;rw[decide_eq_true h];rfl
def Ov(h:y=⟨#[]⟩):cfB x y=false:=by unfold cfB;rw[decide_eq_true h];simp
def zh5(h:x=y):cfB x y=false:=by unfold cfB;rw[decide_eq_true h];simp
def Y7(h1:¬ x=⟨#[]⟩)(h2:¬ y=⟨#[]⟩)(h3:¬ x=y):cfB x y=true:=by unfold cfB;rw[decide_eq_false h1,decide_eq_false h2,decide_eq_false h3];rfl
def Rb{f g:FT}(hzf:FM f)(hzg:FM g){x:FT}{b:Bool}{e:Int}(hr:Oz f g=(x,b,e))(hB:zs4 B w):
  Ret zs5 31 [fv f,fv g] w B (fun v _=>v=.tuple #[fv x,.bool b,.int .i64 e]):=by
 obtain⟨f1,s1,e1⟩:=f;obtain⟨g1,s2,e2⟩:=g;have hx:(Oz (f1,s1,e1) (g1,s2,e2)).1=x:=nh Prod.fst hr;have hb:(Oz (f1,s1,e1) (g1,s2,e2)).2.1=b:=nh (fun z=>z.2.1) hr;have he:(Oz (f1,s1,e1) (g1,s2,e2)).2.2=e:=nh (fun z=>z.2.2) hr;clear hr;unfold Oz at hx hb he;refine yr Tryz.func31 Z Tryz.ntmps31 (np Z) hB ((Zal∘ZE∘Zs∘ZH∘Zb0∘Zb0) ?_);refine z7 (yv (cs:=[_,_,_,_,_,_,_,_,_,_,_,_,_,_]) Z Z zmq Z Z) Z (ZaR (h:=?_))
 refine xp (fun k:Nat=>[(2,.sat (At [.string f1.1.1,.string f1.1.2,.string f1.2,.string s1.1.1,.string s1.1.2,.string s1.2,.bool e1] tyF 0)),(3,.sat (At [.string g1.1.1,.string g1.1.2,.string g1.2,.string s2.1.1,.string s2.1.2,.string s2.2,.bool e2] tyF 0)),(4,.own (Cell [.string ⟨#[]⟩,.string ⟨#[]⟩,.string ⟨#[]⟩,.string ⟨#[]⟩,.string ⟨#[]⟩,.string ⟨#[]⟩,.bool false] tyF)),(14,.is (.agg #[.string f1.1.1,.string f1.1.2,.string f1.2,.string s1.1.1,.string s1.1.2,.string s1.2,.bool e1,.string g1.1.1,.string g1.1.2,.string g1.2,.string s2.1.1,.string s2.1.2,.string s2.2,.bool e2])),(15,.is (.int .i64 k))])
  (fun k=>k<=2/\(0<k->fE (f1,s1,e1)=0)/\(1<k->fE (g1,s2,e2)=0)) (fun k=>2-k) 0 ⟨mb _,fun h=>T,fun h=>T⟩ ⟨rfl,rfl,rfl,rfl,rfl,nm⟩ ?_
 rintro k ⟨hk,i0,i1⟩;rcases k with _ | _ | _ | k
 ·by_cases h1:fE (f1,s1,e1)=0
  ·refine(Ze∘Zv∘Zat∘Z6) ?_;refine z7 (jf (ys:=[_,_,_,_,_,_,_]) L _ Z Z Z Z zd4 Z Z (by first | omega | decide) Z) Z ?_;refine(ZY∘Zt∘Zcv) ?_;refine z71 L Z (fun u H hH _=>ue hzf h1 hH) ?_;refine(Zbm∘Zbf∘Zbl∘Zy∘ZB) ?_;exact yo (x:=0) 1 ⟨by decide,fun _=>h1,fun h=>T⟩ E ⟨Z,Z,Z,Z,Z,nm⟩
  ·rw[nc h1] at hx hb he;subst hx hb he;refine(Ze∘Zv∘Zat∘Z6) ?_;refine z7 (jf (ys:=[_,_,_,_,_,_,_]) L _ Z Z Z Z zd4 Z Z (by first | omega | decide) Z) Z ?_;refine(ZY∘Zt∘Zcv) ?_;refine z71 L Z (fun u H hH _=>ue hzf Z hH) ?_;refine(Zbm∘Za0∘ZO∘ZdT∘Za∘ZaU∘ZI) ?_;refine yj1 L [.cell 4 85,.tmp 5,.tmp 6] fun u H hH hle=>?_;refine Za2 (h:=?_);rfl
 ·have j0:=i0 E;rw[na j0] at hx hb he;by_cases h1:fE (g1,s2,e2)=0
  ·refine(Ze∘Zv∘Zat∘Z6) ?_;refine z7 (jf (ys:=[_,_,_,_,_,_,_]) L _ Z Z Z Z zd4 Z Z (by first | omega | decide) Z) Z ?_;refine(ZY∘Zt∘Zcv) ?_;refine z71 L Z (fun u H hH _=>ue hzg h1 hH) ?_;refine(Zbm∘Zbf∘Zbl∘Zy∘ZB) ?_;exact yo (x:=1) 2 ⟨by decide,fun _=>j0,fun _=>h1⟩ E ⟨Z,Z,Z,Z,Z,nm⟩
  ·rw[nc h1] at hx hb he;subst hx hb he;refine(Ze∘Zv∘Zat∘Z6) ?_;refine z7 (jf (ys:=[_,_,_,_,_,_,_]) L _ Z Z Z Z zd4 Z Z (by first | omega | decide) Z) Z ?_;refine(ZY∘Zt∘Zcv) ?_;refine z71 L Z (fun u H hH _=>ue hzg Z hH) ?_;refine(Zbm∘Za0∘ZO∘ZdT∘Za∘ZaU∘ZI) ?_;refine yj1 L [.cell 4 85,.tmp 5,.tmp 6] fun u H hH hle=>?_;refine Za2 (h:=?_);rfl
 ·rw[na (i0 E),na (i1 E)] at hx hb he;clear i0 i1 hk;refine(Ze∘Zv∘Zak∘Zu∘Zb0∘ZaU∘ZaC) ?_;refine jd 4 901 rfl fun b4=>?_;refine(Z2∘Zai∘ZfQ∘Zai∘ZfQ∘Zai∘ZfQ) ?_;refine z7 (yv (cs:=[_,_,_,_,_,_]) Z Z zmo Z Z) Z (ZaR (h:=?_))
  refine xp (fun y:Nat×ByteArray×ByteArray×ByteArray=>[(2,.sat (At [.string f1.1.1,.string f1.1.2,.string f1.2,.string s1.1.1,.string s1.1.2,.string s1.2,.bool e1] tyF 0)),(3,.sat (At [.string g1.1.1,.string g1.1.2,.string g1.2,.string s2.1.1,.string s2.1.2,.string s2.2,.bool e2] tyF 0)),(4,.is (.pointer (some ⟨b4,0,none⟩))),(38,.is (.agg #[.pointer (some ⟨b4,0+0,none⟩),.string g1.1.1,.pointer (some ⟨b4,0+1,none⟩),.string g1.1.2,.pointer (some ⟨b4,0+2,none⟩),.string g1.2])),(39,.is (.int .i64 y.1)),(901,.own (xu b4 [.string y.2.1,.string y.2.2.1,.string y.2.2.2,.string s1.1.1,.string s1.1.2,.string s1.2,.bool e1] tyF))])
   (fun y=>y.1<=3/\y.2=(if 0<y.1 then orB f1.1.1 g1.1.1 else f1.1.1,if 1<y.1 then orB f1.1.2 g1.1.2 else f1.1.2,if 2<y.1 then orB f1.2 g1.2 else f1.2)/\(0<y.1->cfB f1.1.1 g1.1.1=false)/\(1<y.1->cfB f1.1.2 g1.1.2=false)/\(2<y.1->cfB f1.2 g1.2=false)) (fun y=>3-y.1) (0,f1.1.1,f1.1.2,f1.2) ⟨mb _,rfl,fun h=>T,fun h=>T,fun h=>T⟩ ⟨rfl,rfl,rfl,rfl,rfl,rfl,nm⟩ ?_
  rintro⟨k,y0,y1,y2⟩ ⟨hk,hy,i0,i1,i2⟩;dsimp only at hk hy i0 i1 i2 |-;rcases k with _ | _ | _ | _ | k
  ·have hy:(y0,y1,y2)=(f1.1.1,f1.1.2,f1.2):=hy;obtain⟨rfl,rfl,rfl⟩:y0=f1.1.1/\y1=f1.1.2/\y2=f1.2:=by simpa using hy
   refine(Ze∘Z4∘Zat∘ZG) ?_;refine z7 (jf (ys:=[_,_]) L _ Z Z Z Z zic Z Z (by first | omega | decide) Z) Z ?_;refine Zbj (h:=?_);refine ug 11 rfl fun b11 hb11=>?_;by_cases h1:f1.1.1=⟨#[]⟩
   ·have h1':¬ f1.1.1≠⟨#[]⟩:=fun h=>h h1;have hcf:cfB f1.1.1 g1.1.1=false:=Ow h1;refine(ZdE∘Zb1∘Zek∘Zl∘Zce∘ZaB∘Zd9∘Zce∘Zam∘Zc3∘Zej∘Za8∘Zb1∘Za8∘ZcF) ?_;refine z8 (qb L Z Z (zm Z) Z Z Z (fun u H hH _ _ v1 h1=>ae hH h1)) Z ((ZcP∘Zel∘ZcB) ?_);refine j7 (O':=[]) (zox _) ?_;refine(Zaa∘ZB) ?_;exact yo (x:=(0,f1.1.1,f1.1.2,f1.2)) (1,orB f1.1.1 g1.1.1,f1.1.2,f1.2) ⟨by dsimp only;omega,rfl,fun _=>hcf,fun h=>(by simp at h),fun h=>(by simp at h)⟩ G ⟨Z,Z,Z,Z,Z,Z,trivial⟩
   ·have h1':f1.1.1≠⟨#[]⟩:=h1;by_cases h2:g1.1.1=⟨#[]⟩
    ·have h2':¬ g1.1.1≠⟨#[]⟩:=fun h=>h h2;have hcf:cfB f1.1.1 g1.1.1=false:=Ov h2;refine(ZdE∘Zb1∘ZcU∘Zl∘Za8∘Zek∘ZaB∘Zd9∘Zce∘Zam∘Zc3∘Zej∘Za8∘Zb1∘Za8∘ZcF) ?_;refine z8 (qb L Z Z (zm Z) Z Z Z (fun u H hH _ _ v1 h1=>ae hH h1)) Z ((ZcP∘Zel∘ZcB) ?_);refine j7 (O':=[]) (zox _) ?_;refine(Zaa∘ZB) ?_;exact yo (x:=(0,f1.1.1,f1.1.2,f1.2)) (1,orB f1.1.1 g1.1.1,f1.1.2,f1.2) ⟨by dsimp only;omega,rfl,fun _=>hcf,fun h=>(by simp at h),fun h=>(by simp at h)⟩ G ⟨Z,Z,Z,Z,Z,Z,trivial⟩
    ·have h2':g1.1.1≠⟨#[]⟩:=h2;by_cases h3:f1.1.1=g1.1.1
     ·have h3':¬ f1.1.1≠g1.1.1:=fun h=>h h3;have hcf:cfB f1.1.1 g1.1.1=false:=zh5 h3;refine(ZdE∘Zb1∘ZcU∘Zl∘Za8∘ZcU∘ZaB∘Zl∘Zb1∘Za8∘Zek∘Zam∘Zc3∘Zej∘Za8∘Zb1∘Za8∘ZcF) ?_;refine z8 (qb L Z Z (zm Z) Z Z Z (fun u H hH _ _ v1 h1=>ae hH h1)) Z ((ZcP∘Zel∘ZcB) ?_);refine j7 (O':=[]) (zox _) ?_;refine(Zaa∘ZB) ?_;exact yo (x:=(0,f1.1.1,f1.1.2,f1.2)) (1,orB f1.1.1 g1.1.1,f1.1.2,f1.2) ⟨by dsimp only;omega,rfl,fun _=>hcf,fun h=>(by simp at h),fun h=>(by simp at h)⟩ G ⟨Z,Z,Z,Z,Z,Z,trivial⟩
     ·have h3':f1.1.1≠g1.1.1:=h3;have hcl:am (f1,s1,e1) (g1,s2,e2)=true:=by unfold am;rw[Y7 h1 h2 h3];simp
      rw[na hcl] at hx hb he;subst hx hb he;refine(ZdE∘Zb1∘ZcU∘Zl∘Za8∘ZcU∘ZaB∘Zl∘Zb1∘Za8∘ZcU∘ZbC∘Ze∘Zae∘ZdT∘ZdF∘ZI) ?_;refine Zex (h:=?_);refine yj1 L [.cell 4 85,.tmp 5,.tmp 6] fun u H hH hle=>?_;refine Za2 (h:=?_);rfl
  ·have hy:(y0,y1,y2)=(orB f1.1.1 g1.1.1,f1.1.2,f1.2):=hy;obtain⟨rfl,rfl,rfl⟩:y0=orB f1.1.1 g1.1.1/\y1=f1.1.2/\y2=f1.2:=by simpa using hy
   refine(Ze∘Z4∘Zat∘ZG) ?_;refine z7 (jf (ys:=[_,_]) L _ Z Z Z Z zic Z Z (by first | omega | decide) Z) Z ?_;refine Zbj (h:=?_);refine ug 11 rfl fun b11 hb11=>?_;by_cases h1:f1.1.2=⟨#[]⟩
   ·have h1':¬ f1.1.2≠⟨#[]⟩:=fun h=>h h1;have hcf:cfB f1.1.2 g1.1.2=false:=Ow h1;refine(ZdE∘Zb1∘Zek∘Zl∘Zce∘ZaB∘Zd9∘Zce∘Zam∘Zc3∘Zej∘Za8∘Zb1∘Za8∘ZcF) ?_;refine z8 (qb L Z Z (zm Z) Z Z Z (fun u H hH _ _ v1 h1=>ae hH h1)) Z ((ZcP∘Zel∘ZcB) ?_);refine j7 (O':=[]) (zox _) ?_;refine(Zaa∘ZB) ?_;exact yo (x:=(1,orB f1.1.1 g1.1.1,f1.1.2,f1.2)) (2,orB f1.1.1 g1.1.1,orB f1.1.2 g1.1.2,f1.2) ⟨by dsimp only;omega,rfl,fun _=>i0 E,fun _=>hcf,fun h=>(by simp at h)⟩ G ⟨Z,Z,Z,Z,Z,Z,trivial⟩
   ·have h1':f1.1.2≠⟨#[]⟩:=h1;by_cases h2:g1.1.2=⟨#[]⟩
    ·have h2':¬ g1.1.2≠⟨#[]⟩:=fun h=>h h2;have hcf:cfB f1.1.2 g1.1.2=false:=Ov h2;refine(ZdE∘Zb1∘ZcU∘Zl∘Za8∘Zek∘ZaB∘Zd9∘Zce∘Zam∘Zc3∘Zej∘Za8∘Zb1∘Za8∘ZcF) ?_;refine z8 (qb L Z Z (zm Z) Z Z Z (fun u H hH _ _ v1 h1=>ae hH h1)) Z ((ZcP∘Zel∘ZcB) ?_);refine j7 (O':=[]) (zox _) ?_;refine(Zaa∘ZB) ?_;exact yo (x:=(1,orB f1.1.1 g1.1.1,f1.1.2,f1.2)) (2,orB f1.1.1 g1.1.1,orB f1.1.2 g1.1.2,f1.2) ⟨by dsimp only;omega,rfl,fun _=>i0 E,fun _=>hcf,fun h=>(by simp at h)⟩ G ⟨Z,Z,Z,Z,Z,Z,trivial⟩
    ·have h2':g1.1.2≠⟨#[]⟩:=h2;by_cases h3:f1.1.2=g1.1.2
     ·have h3':¬ f1.1.2≠g1.1.2:=fun h=>h h3;have hcf:cfB f1.1.2 g1.1.2=false:=zh5 h3;refine(ZdE∘Zb1∘ZcU∘Zl∘Za8∘ZcU∘ZaB∘Zl∘Zb1∘Za8∘Zek∘Zam∘Zc3∘Zej∘Za8∘Zb1∘Za8∘ZcF) ?_;refine z8 (qb L Z Z (zm Z) Z Z Z (fun u H hH _ _ v1 h1=>ae hH h1)) Z ((ZcP∘Zel∘ZcB) ?_);refine j7 (O':=[]) (zox _) ?_;refine(Zaa∘ZB) ?_;exact yo (x:=(1,orB f1.1.1 g1.1.1,f1.1.2,f1.2)) (2,orB f1.1.1 g1.1.1,orB f1.1.2 g1.1.2,f1.2) ⟨by dsimp only;omega,rfl,fun _=>i0 E,fun _=>hcf,fun h=>(by simp at h)⟩ G ⟨Z,Z,Z,Z,Z,Z,trivial⟩
     ·have h3':f1.1.2≠g1.1.2:=h3;have hcl:am (f1,s1,e1) (g1,s2,e2)=true:=by unfold am;rw[Y7 h1 h2 h3];simp
      rw[na hcl] at hx hb he;subst hx hb he;refine(ZdE∘Zb1∘ZcU∘Zl∘Za8∘ZcU∘ZaB∘Zl∘Zb1∘Za8∘ZcU∘ZbC∘Ze∘Zae∘ZdT∘ZdF∘ZI) ?_;refine Zex (h:=?_);refine yj1 L [.cell 4 85,.tmp 5,.tmp 6] fun u H hH hle=>?_;refine Za2 (h:=?_);rfl
  ·have hy:(y0,y1,y2)=(orB f1.1.1 g1.1.1,orB f1.1.2 g1.1.2,f1.2):=hy;obtain⟨rfl,rfl,rfl⟩:y0=orB f1.1.1 g1.1.1/\y1=orB f1.1.2 g1.1.2/\y2=f1.2:=by simpa using hy
   refine(Ze∘Z4∘Zat∘ZG) ?_;refine z7 (jf (ys:=[_,_]) L _ Z Z Z Z zic Z Z (by first | omega | decide) Z) Z ?_;refine Zbj (h:=?_);refine ug 11 rfl fun b11 hb11=>?_;by_cases h1:f1.2=⟨#[]⟩
   ·have h1':¬ f1.2≠⟨#[]⟩:=fun h=>h h1;have hcf:cfB f1.2 g1.2=false:=Ow h1;refine(ZdE∘Zb1∘Zek∘Zl∘Zce∘ZaB∘Zd9∘Zce∘Zam∘Zc3∘Zej∘Za8∘Zb1∘Za8∘ZcF) ?_;refine z8 (qb L Z Z (zm Z) Z Z Z (fun u H hH _ _ v1 h1=>ae hH h1)) Z ((ZcP∘Zel∘ZcB) ?_);refine j7 (O':=[]) (zox _) ?_;refine(Zaa∘ZB) ?_;exact yo (x:=(2,orB f1.1.1 g1.1.1,orB f1.1.2 g1.1.2,f1.2)) (3,orB f1.1.1 g1.1.1,orB f1.1.2 g1.1.2,orB f1.2 g1.2) ⟨by dsimp only;omega,rfl,fun _=>i0 E,fun _=>i1 E,fun _=>hcf⟩ G ⟨Z,Z,Z,Z,Z,Z,trivial⟩
   ·have h1':f1.2≠⟨#[]⟩:=h1;by_cases h2:g1.2=⟨#[]⟩
    ·have h2':¬ g1.2≠⟨#[]⟩:=fun h=>h h2;have hcf:cfB f1.2 g1.2=false:=Ov h2;refine(ZdE∘Zb1∘ZcU∘Zl∘Za8∘Zek∘ZaB∘Zd9∘Zce∘Zam∘Zc3∘Zej∘Za8∘Zb1∘Za8∘ZcF) ?_;refine z8 (qb L Z Z (zm Z) Z Z Z (fun u H hH _ _ v1 h1=>ae hH h1)) Z ((ZcP∘Zel∘ZcB) ?_);refine j7 (O':=[]) (zox _) ?_;refine(Zaa∘ZB) ?_;exact yo (x:=(2,orB f1.1.1 g1.1.1,orB f1.1.2 g1.1.2,f1.2)) (3,orB f1.1.1 g1.1.1,orB f1.1.2 g1.1.2,orB f1.2 g1.2) ⟨by dsimp only;omega,rfl,fun _=>i0 E,fun _=>i1 E,fun _=>hcf⟩ G ⟨Z,Z,Z,Z,Z,Z,trivial⟩
    ·have h2':g1.2≠⟨#[]⟩:=h2;by_cases h3:f1.2=g1.2
     ·have h3':¬ f1.2≠g1.2:=fun h=>h h3;have hcf:cfB f1.2 g1.2=false:=zh5 h3;refine(ZdE∘Zb1∘ZcU∘Zl∘Za8∘ZcU∘ZaB∘Zl∘Zb1∘Za8∘Zek∘Zam∘Zc3∘Zej∘Za8∘Zb1∘Za8∘ZcF) ?_;refine z8 (qb L Z Z (zm Z) Z Z Z (fun u H hH _ _ v1 h1=>ae hH h1)) Z ((ZcP∘Zel∘ZcB) ?_);refine j7 (O':=[]) (zox _) ?_;refine(Zaa∘ZB) ?_;exact yo (x:=(2,orB f1.1.1 g1.1.1,orB f1.1.2 g1.1.2,f1.2)) (3,orB f1.1.1 g1.1.1,orB f1.1.2 g1.1.2,orB f1.2 g1.2) ⟨by dsimp only;omega,rfl,fun _=>i0 E,fun _=>i1 E,fun _=>hcf⟩ G ⟨Z,Z,Z,Z,Z,Z,trivial⟩
     ·have h3':f1.2≠g1.2:=h3;have hcl:am (f1,s1,e1) (g1,s2,e2)=true:=by unfold am;rw[Y7 h1 h2 h3];simp
      rw[na hcl] at hx hb he;subst hx hb he;refine(ZdE∘Zb1∘ZcU∘Zl∘Za8∘ZcU∘ZaB∘Zl∘Zb1∘Za8∘ZcU∘ZbC∘Ze∘Zae∘ZdT∘ZdF∘ZI) ?_;refine Zex (h:=?_);refine yj1 L [.cell 4 85,.tmp 5,.tmp 6] fun u H hH hle=>?_;refine Za2 (h:=?_);rfl
  ·have hy:(y0,y1,y2)=(orB f1.1.1 g1.1.1,orB f1.1.2 g1.1.2,orB f1.2 g1.2):=hy;obtain⟨rfl,rfl,rfl⟩:y0=orB f1.1.1 g1.1.1/\y1=orB f1.1.2 g1.1.2/\y2=orB f1.2 g1.2:=by simpa using hy
   have c0:=i0 E;have c1:=i1 E;have c2:=i2 E;have hcl:am (f1,s1,e1) (g1,s2,e2)=(e1 && e2 && !decide (s1=s2)):=by unfold am;rw[c0,c1,c2];rfl
   rw[hcl] at hx hb he;cases e2
   ·rw[nc (by simp)] at hx hb he;subst hx hb he;cases e1
    ·refine(Ze∘Z4∘Zak∘ZF∘Zaj∘Zo∘ZcL∘Zi∘Zau∘Za4∘Zav∘ZaO∘Zo∘Zs∘Zac∘Zaw∘Zbh∘ZaP∘Zf1∘ZdF∘ZI) ?_;refine Zex (h:=?_);refine yj1 L [.cell 4 85,.tmp 5,.tmp 6] fun u H hH hle=>?_;refine Za2 (h:=?_);rfl
    ·refine(Ze∘Z4∘Zak∘ZF∘Zaj∘Zo∘Za∘Zo∘Zi∘Zau∘Za4∘Zav∘ZaO∘Zo∘Zs∘Zac∘Zaw∘Zbh∘ZaP∘Zf1∘ZdF∘ZI) ?_;refine Zex (h:=?_);refine yj1 L [.cell 4 85,.tmp 5,.tmp 6] fun u H hH hle=>?_;refine Za2 (h:=?_);rfl
   ·cases e1
    ·rw[nc (by simp)] at hx hb he;subst hx hb he;refine(Ze∘Z4∘Zak∘ZF∘Zaj∘Zo∘ZcL∘Zi∘Zau∘Za4∘Zav∘ZaO∘Zo∘ZbE∘Zcs∘Zbn∘Zai∘ZdF∘Zai∘ZdF∘Zab∘Zaw∘Zbh∘ZaP∘Zf1∘ZdF∘ZI) ?_;refine Zex (h:=?_);refine yj1 L [.cell 4 85,.tmp 5,.tmp 6] fun u H hH hle=>?_;refine Za2 (h:=?_);rfl
    ·by_cases hs:s1=s2
     ·have hq:=eq3 (nf hs);rw[nc (by simp [hs])] at hx hb he;subst hx hb he;refine(Ze∘Z4∘Zak∘ZF∘Zaj∘Zo∘Za∘Zo∘Zi∘Za∘Zbn∘Zbn∘Zfr∘Zi∘Zav∘ZaO∘Zo∘ZbE∘Zcs∘Zbn∘Zai∘ZdF∘Zai∘ZdF∘Zab∘Zaw∘Zbh∘ZaP∘Zf1∘ZdF∘ZI) ?_;refine Zex (h:=?_);refine yj1 L [.cell 4 85,.tmp 5,.tmp 6] fun u H hH hle=>?_;refine Za2 (h:=?_);rfl
     ·have hq:=eq3 (ng hs);rw[na (by simp [hs])] at hx hb he;subst hx hb he;refine(Ze∘Z4∘Zak∘ZF∘Zaj∘Zo∘Za∘Zo∘Zi∘Za∘Zbn∘Zbn∘Zfr∘Zi∘ZbE∘Ze∘Zbx∘ZdT∘ZdF∘ZI) ?_;refine Zex (h:=?_);refine yj1 L [.cell 4 85,.tmp 5,.tmp 6] fun u H hH hle=>?_;refine Za2 (h:=?_);rfl
  ·omega
 ·omega
abbrev tyI:TypeId:=3
end Go.V.L3
namespace Go.V
def Ce(n:Nat):ByteArray:=match n%3 with
 | 0=>⟨#[100,111,99]⟩
 | 1=>⟨#[102,111,108,100,101,114]⟩
 | _=>⟨#[103,114,111,117,112]⟩
def idS(n:Nat):ByteArray:=match n%5 with
 | 0=>⟨#[97]⟩
 | 1=>⟨#[98]⟩
 | 2=>⟨#[99,49]⟩
 | 3=>⟨#[100]⟩
 | _=>⟨#[114,111,111,116]⟩
def zgm(n:Nat):ByteArray:=match n%4 with
 | 0=>⟨#[118,105,101,119,101,114]⟩
 | 1=>⟨#[101,100,105,116,111,114]⟩
 | 2=>⟨#[109,101,109,98,101,114]⟩
 | _=>⟨#[112,97,114,101,110,116]⟩
def c8(n:Nat):chk (Ce n)=0/\(Ce n).size<=16:=by
 unfold Ce;split<;>decide+kernel
def E2(n:Nat):chk (idS n)=0/\(idS n).size<=16:=by
 unfold idS;split<;>decide+kernel
def Gd(n:Nat):chk (zgm n)=0/\(zgm n).size<=16:=by
 unfold zgm;split<;>decide+kernel
def G1(n:Nat):(ByteArray×ByteArray)×ByteArray:=((Ce n,idS (n/3)),zgm (n/15))
def zc6(n:Nat):ff [(G1 n).1.1,(G1 n).1.2,(G1 n).2]=0:=by
 simp only[ff,G1,(c8 _).1,(E2 _).1,(Gd _).1,na]
def Tc(n:Nat):(G1 n).1.1.size<=16/\(G1 n).1.2.size<=16/\(G1 n).2.size<=16:=⟨(c8 _).2,(E2 _).2,(Gd _).2⟩
def _root_.ZdG(t:Wr Y->A:=by intro h;refine z7 (zeu Z Z Z Z T M) Z ?_;exact h.1)(h:Y):A:=t ⟨h⟩
def _root_.ZfR(t:Wr Y->A:=by intro h;refine z7 (l9 L 0 rfl Z Z Z Z Z Z T) Z ?_;exact h.1)(h:Y):A:=t ⟨h⟩
def _root_.ZfS(t:Wr Y->A:=by intro h;refine z7 (l9 L 1 rfl Z Z Z Z Z Z T) Z ?_;exact h.1)(h:Y):A:=t ⟨h⟩
def _root_.ZfT(t:Wr Y->A:=by intro h;refine z7 (l9 L 2 rfl Z Z Z Z Z Z T) Z ?_;exact h.1)(h:Y):A:=t ⟨h⟩
attribute [local irreducible] V N X VO Par StepOK Has Ret RetL Src
def Kj(n:Nat)(hB:zs4 B w):Ret zs5 162 [.int .i64 n] w B (fun v _=>v=.string (Ce n)):=by
 unfold Ce;have e:Int.tmod (n:Int) 3=((n%3:Nat):Int):=rfl;refine yr Tryz.func162 Z Tryz.ntmps162 (np Z) hB ?_;have hlt:=zqn n (show 0<3 by decide);rcases(by omega:n%3=0\/n%3=1\/n%3=2) with h | h | h
 ·have e0:Int.tmod (n:Int) 3=0:=by rw[e,h];rfl
  rw[h];refine(ZK∘ZaF∘Za∘ZdG∘ZfR∘Zdt∘Zc) ?_;exact yj2 L [.tmp 2]
 ·have e0:Int.tmod (n:Int) 3=1:=by rw[e,h];rfl
  rw[h];refine(ZK∘ZaF∘Za∘ZdG∘ZfS∘Zdt∘Zc) ?_;exact yj2 L [.tmp 2]
 ·have e0:Int.tmod (n:Int) 3=2:=by rw[e,h];rfl
  rw[h];refine(ZK∘ZaF∘Za∘ZdG∘ZfT∘Zdt∘Zc) ?_;exact yj2 L [.tmp 2]
def id_ret(n:Nat)(hB:zs4 B w):Ret zs5 163 [.int .i64 n] w B (fun v _=>v=.string (idS n)):=by
 unfold idS;have e:Int.tmod (n:Int) 5=((n%5:Nat):Int):=rfl;refine yr Tryz.func163 Z Tryz.ntmps163 (np Z) hB ?_;have hlt:=zqn n (show 0<5 by decide);rcases(by omega:n%5=0\/n%5=1\/n%5=2\/n%5=3\/n%5=4) with h | h | h | h | h
 ·have e0:Int.tmod (n:Int) 5=0:=by rw[e,h];rfl
  rw[h];refine(ZK∘ZaF∘Za∘ZdG∘ZfR∘Zdt∘Zc) ?_;exact yj2 L [.tmp 2]
 ·have e0:Int.tmod (n:Int) 5=1:=by rw[e,h];rfl
  rw[h];refine(ZK∘ZaF∘Za∘ZdG∘ZfS∘Zdt∘Zc) ?_;exact yj2 L [.tmp 2]
 ·have e0:Int.tmod (n:Int) 5=2:=by rw[e,h];rfl
  rw[h];refine(ZK∘ZaF∘Za∘ZdG∘ZfT∘Zdt∘Zc) ?_;exact yj2 L [.tmp 2]
 ·have e0:Int.tmod (n:Int) 5=3:=by rw[e,h];rfl
  rw[h];refine(ZK∘ZaF∘Za∘ZdG) ?_;refine z7 (l9 L 3 rfl Z Z Z Z Z Z T) Z ((Zdt∘Zc) ?_);exact yj2 L [.tmp 2]
 ·have e0:Int.tmod (n:Int) 5=4:=by rw[e,h];rfl
  rw[h];refine(ZK∘ZaF∘Za∘ZdG) ?_;refine z7 (l9 L 4 rfl Z Z Z Z Z Z T) Z ((Zdt∘Zc) ?_);exact yj2 L [.tmp 2]
def U8(n:Nat)(hB:zs4 B w):Ret zs5 164 [.int .i64 n] w B (fun v _=>v=.string (zgm n)):=by
 unfold zgm;have e:Int.tmod (n:Int) 4=((n%4:Nat):Int):=rfl;refine yr Tryz.func164 Z Tryz.ntmps164 (np Z) hB ?_;have hlt:=zqn n (show 0<4 by decide);rcases(by omega:n%4=0\/n%4=1\/n%4=2\/n%4=3) with h | h | h | h
 ·have e0:Int.tmod (n:Int) 4=0:=by rw[e,h];rfl
  rw[h];refine(ZK∘ZaF∘Za∘ZdG∘ZfR∘Zdt∘Zc) ?_;exact yj2 L [.tmp 2]
 ·have e0:Int.tmod (n:Int) 4=1:=by rw[e,h];rfl
  rw[h];refine(ZK∘ZaF∘Za∘ZdG∘ZfS∘Zdt∘Zc) ?_;exact yj2 L [.tmp 2]
 ·have e0:Int.tmod (n:Int) 4=2:=by rw[e,h];rfl
  rw[h];refine(ZK∘ZaF∘Za∘ZdG∘ZfT∘Zdt∘Zc) ?_;exact yj2 L [.tmp 2]
 ·have e0:Int.tmod (n:Int) 4=3:=by rw[e,h];rfl
  rw[h];refine(ZK∘ZaF∘Za∘ZdG) ?_;refine z7 (l9 L 3 rfl Z Z Z Z Z Z T) Z ((Zdt∘Zc) ?_);exact yj2 L [.tmp 2]
end Go.V
namespace Go.V.L2
def _root_.Zf2(t:Wr Y->A:=by intro h;refine z8 (zeu Z Z Z Z T M) Z ?_;exact h.1)(h:Y):A:=t ⟨h⟩
def zf4(s:Nat):Dx:=((Ce s,idS (s/3)),if 15<=s then zgm (s/15-1) else ⟨#[]⟩)
def D7(a b:Nat):U:=(G1 (a%60),zf4 (b%75))
abbrev ty2:TypeId:=88
def pcs(p:Nat×Nat):List Value:=[.int .u8 p.1,.int .u8 p.2]
def zgw(p:Nat×Nat):(pcs p).length=2:=rfl
abbrev PS2(ps:List (Nat×Nat))(fu:Bool):Value->Heap->Prop:=SlV ty2 2 (ps.flatMap pcs) ps.length fu
def zmf(h:ps[j]?=some (a,b)):((ps.flatMap pcs).drop (j*2)).take 2=[.int .u8 a,.int .u8 b]:=f5 zgw ps j _ h
def tl(ps:List (Nat×Nat)):List U:=(ps.take 20).map fun p=>D7 p.1 p.2
def B7(ps:List (Nat×Nat)):(tl ps).length=min 20 ps.length:=by simp [tl]
def zjg(h:ps[i]?=some (a,b))(hi:i<20):(tl ps)[i]?=some (D7 a b):=by
 unfold tl;rw[zpl,zqi hi,h];rfl
def Un(s:Nat):(zf4 s).1.1.size<=16/\(zf4 s).1.2.size<=16/\(zf4 s).2.size<=16:=by
 refine⟨(c8 _).2,(E2 _).2,?_⟩;unfold zf4;dsimp only;split
 ·exact(Gd _).2
 ·decide
def rq(a b:Nat):TZ (D7 a b):=by
 have h1:=Tc (a%60);have h2:=Un (b%75);unfold TZ D7;dsimp only;refine⟨⟨?_,?_,?_⟩,?_,?_,?_⟩<;>omega
def Ny(a b:Nat):tE (D7 a b)=0:=by
 unfold tE D7;dsimp only;rw[na (zc6 _)];unfold zf4 bu;dsimp only;by_cases h:15<=b%75
 ·rw[na h];split
  ·simp only[ff,(c8 _).1,(E2 _).1,na]
  ·simp only[ff,(c8 _).1,(E2 _).1,(Gd _).1,na]
 ·rw[nc h,na rfl];simp only[ff,(c8 _).1,(E2 _).1,na]
def zek{t:U}(h:t∈tl ps):TZ t/\tE t=0:=by
 obtain⟨p,_,rfl⟩:=zoz.1 h;exact⟨rq _ _,Ny _ _⟩
attribute [local irreducible] V N X VO Par StepOK Has Ret RetL Src
def rt(a b:Nat)(ha:a<=255)(hb:b<=255)(hB:zs4 B w):Ret zs5 90 [.agg #[.int .u8 a,.int .u8 b]] w B (fun v _=>v=uv (D7 a b)):=by
 have e60:Int.tmod (a:Int) 60=((a%60:Nat):Int):=rfl;have e75:Int.tmod (b:Int) 75=((b%75:Nat):Int):=rfl;have hlt:=zqn a (show 0<60 by decide);have hlt2:=zqn b (show 0<75 by decide);unfold D7;generalize a%60=m at e60 hlt;generalize b%75=s at e75 hlt2;have q1:(m:Int).tdiv 3=((m/3:Nat):Int):=rfl;have q2:(m:Int).tdiv 15=((m/15:Nat):Int):=rfl;have q3:(s:Int).tdiv 3=((s/3:Nat):Int):=rfl;have q4:(s:Int).tdiv 15=((s/15:Nat):Int):=rfl;have d1:IntKind.i64.wrap ((m:Int).tdiv 3)=((m/3:Nat):Int):=xb T T;have d2:IntKind.i64.wrap ((m:Int).tdiv 15)=((m/15:Nat):Int):=xb T T;have d3:IntKind.i64.wrap ((s:Int).tdiv 3)=((s/3:Nat):Int):=xb T T;have d4:IntKind.i64.wrap ((s:Int).tdiv 15)=((s/15:Nat):Int):=xb T T;unfold G1 zf4;refine yr Tryz.func90 Z Tryz.ntmps90 (np Z) hB ((ZD∘ZE∘Zg∘ZcC) ?_);refine z8 (ox L _ Z Z Z Z znv Z Z (by first | omega | decide)) Z ?_;refine(ZdZ∘Zf2) ?_;refine z8 (kr Z Z Z zdg.1 zdg.2 (xb T T)) Z (z8 (ox L _ Z Z Z Z znv Z Z (by first | omega | decide)) Z ?_);refine(ZdZ∘Zf2) ?_;refine z8 (kr Z Z Z zdg.1 zdg.2 (xb T T)) Z ((ZaK∘Zbc∘Zz) ?_);refine z71 L Z (fun u H hH _=>Kj _ hH) ?_;refine(Za∘Zdr) ?_;refine z71 L Z (fun u H hH _=>id_ret _ hH) ?_;refine(ZeN∘Za∘Zdr) ?_;refine z71 L Z (fun u H hH _=>U8 _ hH) ?_;refine(ZeA∘Za) ?_;refine z71 L Z (fun u H hH _=>Kj _ hH) ?_;refine(Za∘Zdr) ?_;refine z71 L Z (fun u H hH _=>id_ret _ hH) ?_;refine(ZeN∘Zea∘Zc1∘Zbj) ?_;by_cases h:15<=s
 ·rw[na h];have hs1:IntKind.i64.wrap (((s/15:Nat):Int)-1)=((s/15-1:Nat):Int):=(xb T T).trans T;refine ug 5 rfl fun b5 hb5=>?_;refine(Zr∘Zcp∘Z5∘Zdr∘Zax) ?_;refine z71 L Z (fun u H hH _=>U8 _ hH) ?_;refine(Zai∘Zc8∘Zg∘Z1∘ZeW∘ZZ) ?_;refine yj1 L [.cell 2 57] fun u H hH hle=>?_;refine Za2 (h:=?_);rfl
 ·rw[nc h];refine(Zr∘Za6∘Zx∘Z1∘Za3∘ZZ) ?_;refine yj1 L [.cell 2 57] fun u H hH hle=>?_;refine Za2 (h:=?_);rfl
def zfy{ps:List (Nat×Nat)}(hps:∀ p∈ps,p.1<=255/\p.2<=255)(hlen:ps.length<=9223372036854775807)(hB:zs4 B w)(hv:PS2 ps fu sv B):
  Ret zs5 36 [.agg #[sv]] w B (US (tl ps) false):=by
 refine yr Tryz.func36 Z Tryz.ntmps36 (np Z) hB ((Zcy∘Zk) ?_);refine ul 3 tyU 6 rfl ((Zv∘ZaX) ?_);have hll:=B7 ps
 refine xp (fun i:Nat=>[(1,.sat (At [sv] 24 0)),(3,.own (SlR tyU 6 ((tl ps).take i).length (((tl ps).take i).flatMap ucs))),(4,.is (.int .i64 i))])
  (fun i=>i<=(tl ps).length) (fun i=>(tl ps).length-i) 0 (mb _) ⟨rfl,rfl,rfl,nm⟩ ?_
 rintro i hi;have hli:=mi (i:=i) (l:=tl ps);by_cases h1:i<ps.length
 ·by_cases h2:i<20
  ·obtain⟨⟨a,b⟩,hn⟩:=xm h1;have hc:=zmf hn;have hab:=hps _ (zo7 hn);have hg:=zjg hn h2;generalize hgg:D7 a b=t at hg;refine(Zf∘Zr∘Zo) ?_;refine fk 7 (PS2 ps fu) Z ns hv ((Zdd∘ZU∘Zb∘ZU∘Zi∘Z3∘Zao∘Zar∘Z1) ?_);refine qg (yu (.inl Z) Z) (Zo (h:=?_));refine fk 18 (PS2 ps fu) Z ns hv ((Zb6∘ZdW) ?_);refine z7 (qb (r:=uv t) L Z Z (zm Z) Z Z Z (fun u H hH _ _=>hgg ▸ rt a b hab.1 hab.2 hH)) Z (Zc5 (h:=?_));refine qg (yu (.inr Z) Z) ((ZaA∘Z5∘ZaT) ?_);exact yo (x:=i) (i+1) T T ⟨Z,by rw[ei hg];exact v7 Z,Z,nm⟩
  ·obtain rfl:i=(tl ps).length:=by omega
   rw[zoy];refine(Zf∘Zr∘Zo) ?_;refine fk 7 (PS2 ps fu) Z ns hv ((Zdd∘ZU∘Zb∘Z0∘Zi∘Za5∘ZO) ?_);refine qg (yu (.inl Z) Z) (qg (yu (.inr Z) Z) (Zw (h:=?_)));refine gt 2 rfl ?_;refine yj1 L [.tmp 2] fun u H hH hle=>?_;exact fun v hv=>hv
 ·obtain rfl:i=(tl ps).length:=by omega
  rw[zoy];refine(Zf∘Zr∘Zo) ?_;refine fk 7 (PS2 ps fu) Z ns hv ((Zdd∘Z0∘ZcL∘Zi∘Za5∘ZO) ?_);refine qg (yu (.inl Z) Z) (qg (yu (.inr Z) Z) (Zw (h:=?_)));refine gt 2 rfl ?_;refine yj1 L [.tmp 2] fun u H hH hle=>?_;exact fun v hv=>hv
end Go.V.L2
namespace Go.V.L3
open Go.V.L2
def _root_.Zci(t:Wr Y->A:=by intro h;refine z7 (zz L (vs:=[_,_,_,_,_,_,_]) (yd Z (List.Mem.head _)) Z Z Z Z ⟨_,rfl⟩) Z ?_;exact h.1)(h:Y):A:=t ⟨h⟩
def _root_.Zgm(t:Wr Y->A:=by intro h;refine z7 (zo L (yd Z (List.Mem.tail _ (List.Mem.head _))) Z Z Z Z) Z ?_;exact h.1)(h:Y):A:=t ⟨h⟩
def _root_.Zey(t:Wr Y->A:=by intro h;refine z7 (zz L (vs:=[_,_,_]) (yd Z (List.Mem.tail _ (List.Mem.head _))) Z Z Z Z ⟨_,rfl⟩) Z ?_;exact h.1)(h:Y):A:=t ⟨h⟩
def _root_.ZdX(t:Wr Y->A:=by exact fun h=>(Zo∘Ze4) h.1)(h:Y):A:=t ⟨h⟩
def _root_.Zem(t:Wr Y->A:=by exact fun h=>(ZdX∘ZN) h.1)(h:Y):A:=t ⟨h⟩
def _root_.ZbR(t:Wr Y->A:=by exact fun h=>(Zem∘Z3) h.1)(h:Y):A:=t ⟨h⟩
def _root_.ZbS(t:Wr Y->A:=by exact fun h=>(Zgm∘Zeu) h.1)(h:Y):A:=t ⟨h⟩
def _root_.ZbT(t:Wr Y->A:=by exact fun h=>(ZdX∘Zdz) h.1)(h:Y):A:=t ⟨h⟩
def ze8(a b m:Nat):FT:=(((if m%2=1 then (D7 a b).1.1.1 else ⟨#[]⟩,if m/2%2=1 then (D7 a b).1.1.2 else ⟨#[]⟩),if m/4%2=1 then (D7 a b).1.2 else ⟨#[]⟩),if m/8%2=1 then (D7 a b).2 else n3,decide (m/8%2=1))
def X7{p:Prop}[Decidable p](h:x.size<=k):(if p then x else ⟨#[]⟩:ByteArray).size<=k:=by
 split
 ·exact h
 ·exact mb _
def ze7(a b m:Nat):FZ (ze8 a b m):=by
 obtain⟨⟨h1,h2,h3⟩,h4,h5,h6⟩:=rq a b;unfold ze8 FZ;dsimp only;refine⟨⟨X7 h1,X7 h2,X7 h3⟩,?_⟩;split
 ·exact⟨h4,h5,h6⟩
 ·exact⟨mb _,mb _,mb _⟩
def Hm{p:Prop}[Decidable p](h:chk x=0):ln (if p then x else ⟨#[]⟩)=false:=by
 unfold ln;split
 ·rw[nf h];simp
 ·simp
def zbj{t:U}(h:tE t=0):(chk t.1.1.1=0/\chk t.1.1.2=0/\chk t.1.2=0)/\bu t.2.1.1 t.2.1.2 t.2.2=0:=by
 unfold tE at h;split at h
 ·rename_i hg;refine⟨?_,h⟩
  revert hg
  simp only[ff];have c1:=wu t.1.1.1;have c2:=wu t.1.1.2;have c3:=wu t.1.2;intro hg;rcases c1 with c1 | c1<;>rcases c2 with c2 | c2<;>rcases c3 with c3 | c3<;>simp [c1,c2,c3] at hg |-
 ·rename_i hg;exact ni h hg
def Yg(a b m:Nat):fE (ze8 a b m)=0:=by
 obtain⟨⟨h1,h2,h3⟩,h4⟩:=zbj (Ny a b);unfold fE ze8;dsimp only;rw[Hm h1,Hm h2,Hm h3];by_cases h:m/8%2=1
 ·rw[na h,nc (by simp [h])];simp [h,h4]
 ·rw[nc h];simp [h]
attribute [local irreducible] V N X VO Par StepOK Has Ret RetL RetO RetT Src
def Yf{f:FT}(hf:ze8 a b m=f)(ha:a<=255)(hb:b<=255)(hm:m<=255)(hB:zs4 B w):Ret zs5 29 [.agg #[.int .u8 a,.int .u8 b,.int .u8 m]] w B (fun v _=>v=fv f):=by
 subst hf;obtain⟨e1,e2,e3,e4⟩:=zie hm;unfold ze8;have ho:∀ (w:World) (B:Heap),zs4 B w->Ret zs5 90 [.agg #[.int .u8 a,.int .u8 b]] w B (fun v _=>v=uv (D7 a b)):=fun w B h=>rt a b ha hb h;generalize D7 a b=t at ho;obtain⟨⟨⟨x0,x1⟩,x2⟩,⟨y0,y1⟩,y2⟩:=t;have l0:=zqn m (show 0<2 by decide);have l1:=zqn (m/2) (show 0<2 by decide);have l2:=zqn (m/4) (show 0<2 by decide);have l3:=zqn (m/8) (show 0<2 by decide);generalize m%2=k0 at e1 l0;generalize m/2%2=k1 at e2 l1;generalize m/4%2=k2 at e3 l2;generalize m/8%2=k3 at e4 l3;refine yr Tryz.func29 Z Tryz.ntmps29 (np Z) hB ((ZD∘ZE∘Zcq∘Zba) ?_);refine z71 L Z (fun u H hH _=>ho u H hH) ?_;refine(ZY∘Zv∘Zcg) ?_;refine ug 3 rfl fun b3 hb3=>?_;refine ug 4 rfl fun b4 hb4=>?_;by_cases c0:k0=1
 ·subst c0;by_cases c1:k1=1
  ·subst c1;by_cases c2:k2=1
   ·subst c2;by_cases c3:k3=1
    ·subst c3;refine(Z6∘ZbR∘Zt∘ZbP∘ZbS∘Z1∘ZbR∘ZO∘ZbP∘ZbS∘Zy∘ZbR∘Zu∘ZcS∘ZbS∘Z2∘Zem∘Zn∘Z4∘Zai∘Zey∘Zc8∘Zw∘ZG∘Zc8∘Zg∘ZJ∘Zci∘ZZ) ?_;refine yj1 L [.cell 2 85] fun u H hH hle=>?_;refine Za2 (h:=?_);rfl
    ·obtain rfl:k3=0:=by omega
     refine(Z6∘ZbR∘Zt∘ZbP∘ZbS∘Z1∘ZbR∘ZO∘ZbP∘ZbS∘Zy∘ZbR∘Zu∘ZcS∘ZbS∘Z2∘ZdX∘ZbK∘ZJ∘Zci∘ZZ) ?_;refine yj1 L [.cell 2 85] fun u H hH hle=>?_;refine Za2 (h:=?_);rfl
   ·obtain rfl:k2=0:=by omega
    by_cases c3:k3=1
    ·subst c3;refine(Z6∘ZbR∘Zt∘ZbP∘ZbS∘Z1∘ZbR∘ZO∘ZbP∘ZbS∘Zy∘ZbT∘Z2∘Zem∘Zn∘Z4∘Zai∘Zey∘Zc8∘Zw∘ZG∘Zc8∘Zg∘ZJ∘Zci∘ZZ) ?_;refine yj1 L [.cell 2 85] fun u H hH hle=>?_;refine Za2 (h:=?_);rfl
    ·obtain rfl:k3=0:=by omega
     refine(Z6∘ZbR∘Zt∘ZbP∘ZbS∘Z1∘ZbR∘ZO∘ZbP∘ZbS∘Zy∘ZbT∘Z2∘ZdX∘ZbK∘ZJ∘Zci∘ZZ) ?_;refine yj1 L [.cell 2 85] fun u H hH hle=>?_;refine Za2 (h:=?_);rfl
  ·obtain rfl:k1=0:=by omega
   by_cases c2:k2=1
   ·subst c2;by_cases c3:k3=1
    ·subst c3;refine(Z6∘ZbR∘Zt∘ZbP∘ZbS∘Z1∘ZbT∘Zy∘ZbR∘Zu∘ZcS∘ZbS∘Z2∘Zem∘Zn∘Z4∘Zai∘Zey∘Zc8∘Zw∘ZG∘Zc8∘Zg∘ZJ∘Zci∘ZZ) ?_;refine yj1 L [.cell 2 85] fun u H hH hle=>?_;refine Za2 (h:=?_);rfl
    ·obtain rfl:k3=0:=by omega
     refine(Z6∘ZbR∘Zt∘ZbP∘ZbS∘Z1∘ZbT∘Zy∘ZbR∘Zu∘ZcS∘ZbS∘Z2∘ZdX∘ZbK∘ZJ∘Zci∘ZZ) ?_;refine yj1 L [.cell 2 85] fun u H hH hle=>?_;refine Za2 (h:=?_);rfl
   ·obtain rfl:k2=0:=by omega
    by_cases c3:k3=1
    ·subst c3;refine(Z6∘ZbR∘Zt∘ZbP∘ZbS∘Z1∘ZbT∘Zy∘ZbT∘Z2∘Zem∘Zn∘Z4∘Zai∘Zey∘Zc8∘Zw∘ZG∘Zc8∘Zg∘ZJ∘Zci∘ZZ) ?_;refine yj1 L [.cell 2 85] fun u H hH hle=>?_;refine Za2 (h:=?_);rfl
    ·obtain rfl:k3=0:=by omega
     refine(Z6∘ZbR∘Zt∘ZbP∘ZbS∘Z1∘ZbT∘Zy∘ZbT∘Z2∘ZdX∘ZbK∘ZJ∘Zci∘ZZ) ?_;refine yj1 L [.cell 2 85] fun u H hH hle=>?_;refine Za2 (h:=?_);rfl
 ·obtain rfl:k0=0:=by omega
  by_cases c1:k1=1
  ·subst c1;by_cases c2:k2=1
   ·subst c2;by_cases c3:k3=1
    ·subst c3;refine(Z6∘ZbT∘Z1∘ZbR∘ZO∘ZbP∘ZbS∘Zy∘ZbR∘Zu∘ZcS∘ZbS∘Z2∘Zem∘Zn∘Z4∘Zai∘Zey∘Zc8∘Zw∘ZG∘Zc8∘Zg∘ZJ∘Zci∘ZZ) ?_;refine yj1 L [.cell 2 85] fun u H hH hle=>?_;refine Za2 (h:=?_);rfl
    ·obtain rfl:k3=0:=by omega
     refine(Z6∘ZbT∘Z1∘ZbR∘ZO∘ZbP∘ZbS∘Zy∘ZbR∘Zu∘ZcS∘ZbS∘Z2∘ZdX∘ZbK∘ZJ∘Zci∘ZZ) ?_;refine yj1 L [.cell 2 85] fun u H hH hle=>?_;refine Za2 (h:=?_);rfl
   ·obtain rfl:k2=0:=by omega
    by_cases c3:k3=1
    ·subst c3;refine(Z6∘ZbT∘Z1∘ZbR∘ZO∘ZbP∘ZbS∘Zy∘ZbT∘Z2∘Zem∘Zn∘Z4∘Zai∘Zey∘Zc8∘Zw∘ZG∘Zc8∘Zg∘ZJ∘Zci∘ZZ) ?_;refine yj1 L [.cell 2 85] fun u H hH hle=>?_;refine Za2 (h:=?_);rfl
    ·obtain rfl:k3=0:=by omega
     refine(Z6∘ZbT∘Z1∘ZbR∘ZO∘ZbP∘ZbS∘Zy∘ZbT∘Z2∘ZdX∘ZbK∘ZJ∘Zci∘ZZ) ?_;refine yj1 L [.cell 2 85] fun u H hH hle=>?_;refine Za2 (h:=?_);rfl
  ·obtain rfl:k1=0:=by omega
   by_cases c2:k2=1
   ·subst c2;by_cases c3:k3=1
    ·subst c3;refine(Z6∘ZbT∘Z1∘ZbT∘Zy∘ZbR∘Zu∘ZcS∘ZbS∘Z2∘Zem∘Zn∘Z4∘Zai∘Zey∘Zc8∘Zw∘ZG∘Zc8∘Zg∘ZJ∘Zci∘ZZ) ?_;refine yj1 L [.cell 2 85] fun u H hH hle=>?_;refine Za2 (h:=?_);rfl
    ·obtain rfl:k3=0:=by omega
     refine(Z6∘ZbT∘Z1∘ZbT∘Zy∘ZbR∘Zu∘ZcS∘ZbS∘Z2∘ZdX∘ZbK∘ZJ∘Zci∘ZZ) ?_;refine yj1 L [.cell 2 85] fun u H hH hle=>?_;refine Za2 (h:=?_);rfl
   ·obtain rfl:k2=0:=by omega
    by_cases c3:k3=1
    ·subst c3;refine(Z6∘ZbT∘Z1∘ZbT∘Zy∘ZbT∘Z2∘Zem∘Zn∘Z4∘Zai∘Zey∘Zc8∘Zw∘ZG∘Zc8∘Zg∘ZJ∘Zci∘ZZ) ?_;refine yj1 L [.cell 2 85] fun u H hH hle=>?_;refine Za2 (h:=?_);rfl
    ·obtain rfl:k3=0:=by omega
     refine(Z6∘ZbT∘Z1∘ZbT∘Zy∘ZbT∘Z2∘ZdX∘ZbK∘ZJ∘Zci∘ZZ) ?_;refine yj1 L [.cell 2 85] fun u H hH hle=>?_;refine Za2 (h:=?_);rfl
end Go.V.L3
namespace Go.V.L6
open Go.V.L2 Go.V.L3
abbrev d0:U:=(((⟨#[100,111,99]⟩,⟨#[97]⟩),⟨#[118,105,101,119,101,114]⟩),((⟨#[117,115,101,114]⟩,⟨#[120]⟩),⟨#[]⟩))
abbrev d1:U:=(((⟨#[100,111,99]⟩,⟨#[97]⟩),⟨#[118,105,101,119,101,114]⟩),((⟨#[103,114,111,117,112]⟩,⟨#[103]⟩),⟨#[109,101,109,98,101,114]⟩))
abbrev d2:U:=(((⟨#[100,111,99]⟩,⟨#[98]⟩),⟨#[118,105,101,119,101,114]⟩),((⟨#[117,115,101,114]⟩,⟨#[120]⟩),⟨#[]⟩))
def tzB(t:U):Bool:=decide (t.1.1.1.size<=1000) && decide (t.1.1.2.size<=1000) && decide (t.1.2.size<=1000) && decide (t.2.1.1.size<=1000) && decide (t.2.1.2.size<=1000) && decide (t.2.2.size<=1000)
def Pi{t:U}(h:tzB t=true):TZ t:=by
 unfold tzB at h;simp only[zo5,decide_eq_true_eq] at h;unfold TZ;omega
attribute [local irreducible] V N X VO Par StepOK Has Ret RetL RetO RetT Src
def _root_.ZeI(t:Wr Y->A:=by intro h;refine z8 (ox L _ Z Z Z Z zm8 Z Z (by first | omega | decide)) Z ?_;exact h.1)(h:Y):A:=t ⟨h⟩
def _root_.ZeJ(t:Wr Y->A:=by intro h;refine z8 (yv (cs:=[_,_,_,_,_,_,_]) Z Z znl Z Z) Z ?_;exact h.1)(h:Y):A:=t ⟨h⟩
abbrev ty3:TypeId:=111
abbrev C3:=Nat×Nat×Nat
def qcs(p:C3):List Value:=[.int .u8 p.1,.int .u8 p.2.1,.int .u8 p.2.2]
def zgn(p:C3):(qcs p).length=3:=rfl
abbrev PS3(cs:List C3)(fu:Bool):Value->Heap->Prop:=SlV ty3 3 (cs.flatMap qcs) cs.length fu
def zju{cs:List C3}{c:Nat}(h:cs[j]?=some (a,b,c)):((cs.flatMap qcs).drop (j*3)).take 3=[.int .u8 a,.int .u8 b,.int .u8 c]:=f5 zgn cs j _ h
def drB(c:Nat):Bool:=decide (c%2=1)
def om(l:List U)(c:C3):List U:=(wo l (D7 c.1 c.2.1) (drB c.2.2)).1
def sOf(ps:List (Nat×Nat))(cs:List C3):List U:=(cs.take 30).foldl om (b9 (tl ps))
structure SOK(l:List U):Prop where
 sst:Sst kw l
 tz:∀ t∈l,TZ t
 ok:∀ t∈l,tE t=0
def Pa{l:List U}(h:SOK l){x:U}(hz:TZ x)(hx:tE x=0)(d:Bool)(hl:l.length<4096):SOK (wo l x d).1/\(wo l x d).2=0/\(wo l x d).1.length<=l.length+1:=by
 refine⟨⟨T6 h.sst x d,fun t ht=>?_,fun t ht=>?_⟩,?_⟩
 ·rcases Hx ht with ht | rfl
  ·exact h.tz t ht
  ·exact hz
 ·rcases Hx ht with ht | rfl
  ·exact h.ok t ht
  ·exact hx
 ·unfold wo;rw[na hx];split
  ·exact⟨rfl,zq4 (zpp _ _)⟩
  ·split
   ·exact⟨rfl,zpr _⟩
   ·rw[nc T,ww];exact⟨rfl,nu _⟩
def Pp{l:List U}(h:SOK l)(c:C3)(hl:l.length<4096):SOK (om l c)/\(wo l (D7 c.1 c.2.1) (drB c.2.2)).2=0/\(om l c).length<=l.length+1:=Pa h (rq _ _) (Ny _ _) _ hl
def Pu(ps:List (Nat×Nat)):SOK (b9 (tl ps))/\(b9 (tl ps)).length<=20:=by
 have hm:∀ t∈b9 (tl ps),TZ t/\tE t=0:=fun t ht=>zek (by unfold b9 at ht;simpa using fe.1 ht);refine⟨⟨gz cmpT_ord Sst.nil,fun t ht=>(hm t ht).1,fun t ht=>(hm t ht).2⟩,?_⟩;have h1:=Aq (tl ps);have h2:=B7 ps;omega
def Og:∀ (cs:List C3) {l:List U},SOK l->l.length+cs.length<4096->SOK (cs.foldl om l)/\(cs.foldl om l).length<=l.length+cs.length
 | [],l,h,_=>⟨h,nu _⟩
 | c::cs,l,h,hl=>by
  simp only[nz] at hl;obtain⟨h1,_,h3⟩:=Pp h c T;obtain⟨g1,g2⟩:=Og cs h1 T;exact⟨g1,by simp only[zq2,nz];omega⟩
def zjq(ps:List (Nat×Nat))(cs:List C3):SOK (sOf ps cs)/\(sOf ps cs).length<=50:=by
 obtain⟨h1,h2⟩:=Pu ps;have h3:(cs.take 30).length<=30:=by rw[mi];omega
 obtain⟨g1,g2⟩:=Og (cs.take 30) h1 T;exact⟨g1,by unfold sOf;omega⟩
def Ye{cs:List C3}{c:C3}(h:cs[i]?=some c)(l:List U):(cs.take (i+1)).foldl om l=om ((cs.take i).foldl om l) c:=by
 rw[zpa,h];simp
def zjs(c:Nat):Int.tmod (c:Int) 2=((c%2:Nat):Int):=rfl
def zdr{c:Nat}{x:U}{d:Bool}(hx:D7 a b=x)(hd:drB c=d)(ha:a<=255)(hb:b<=255)(hc:c<=255)(hB:zs4 B w):Ret zs5 44 [.agg #[.int .u8 a,.int .u8 b,.int .u8 c]] w B (fun v _=>v=chv x d):=by
 subst hx hd;have hr:=zjs c;refine yr Tryz.func44 Z Tryz.ntmps44 (np Z) hB ?_;by_cases h1:c%2=1
 ·have e1:drB c=true:=nf h1;rw[e1];refine(ZD∘ZE∘Zg∘ZcC∘ZeI∘ZdZ∘ZeI∘ZdZ) ?_;refine z8 (yv (cs:=[_,_]) Z Z znj Z Z) Z (z81 L Z (fun u H hH _=>rt a b ha hb hH) ?_);refine(ZeI∘ZdZ∘Zf2∘Zdv∘ZeJ∘ZdN∘Zb3) ?_;refine yj1 L [.cell 2 77] fun u H hH hle=>?_;refine Za2 (h:=?_);rfl
 ·have e1:drB c=false:=ng h1;rw[e1];refine(ZD∘ZE∘Zg∘ZcC∘ZeI∘ZdZ∘ZeI∘ZdZ) ?_;refine z8 (yv (cs:=[_,_]) Z Z znj Z Z) Z (z81 L Z (fun u H hH _=>rt a b ha hb hH) ?_);refine(ZeI∘ZdZ∘Zf2∘ZcI∘ZeJ∘ZdN∘Zb3) ?_;refine yj1 L [.cell 2 77] fun u H hH hle=>?_;refine Za2 (h:=?_);rfl
def zbx{ps:List (Nat×Nat)}{cs:List C3}{fx fc:Bool}{zs1:List U}(hM:sOf ps cs=zs1)(hps:∀ p∈ps,p.1<=255/\p.2<=255)(lps:ps.length<=9223372036854775807)(hcs:∀ c∈cs,c.1<=255/\c.2.1<=255/\c.2.2<=255)(lcs:cs.length<=9223372036854775807)
  {sx cx:Value}   (hB:zs4 B w) (hx:PS2 ps fx sx B) (hc:PS3 cs fc cx B):Ret zs5 7 [.agg #[sx,cx]] w B (US zs1 false):=by
 have ofx:∀ (w:World) (B:Heap),zs4 B w->PS2 ps fx sx B->Ret zs5 36 [.agg #[sx]] w B (US (tl ps) false):=fun w B hB hv=>zfy hps lps hB hv;obtain⟨ok0,l0⟩:=Pu ps;have zp:∀ t∈tl ps,TZ t:=fun t ht=>(zek ht).1;have lp:=B7 ps;unfold sOf at hM;have rsx:=fun(v:Value) (w:World) (B:Heap) (hB:zs4 B w) (hv:US (tl ps) false v B)=>ot (l:=tl ps) T zp hB hv;have hrs:fg kw [] (tl ps)=b9 (tl ps):=rfl;generalize b9 (tl ps)=l1 at *;generalize tl ps=p at *;refine yr Tryz.func7 Z Tryz.ntmps7 (np Z) hB ((Zcy∘Zcx) ?_);refine z7 (zz L (vs:=[_]) (qp Z) Z Z Z Z ⟨_,rfl⟩) Z (z7 (xg (φ:=US p false) L Z Z (zm Z) Z Z Z ns (fun u H hH hle _=>ofx _ _ hH (hx.le hle))) Z (z7 (xg (φ:=US l1 false) L Z Z (zm Z) Z Z Z ns (fun u H hH _ _ v1 h1=>rsx _ _ _ hH h1)) Z ((ZR∘ZaC∘Zv∘ZaX) ?_)))
 refine xp (fun i:Nat=>[(1,.sat (At [sx,cx] 27 0)),(3,.sat (US ((cs.take i).foldl om l1) false)),(4,.is (.int .i64 i))])
  (fun i=>i<=(cs.take 30).length) (fun i=>(cs.take 30).length-i) 0 (mb _) ⟨rfl,rfl,rfl,nm⟩ ?_
 rintro i hi;have h30:(cs.take 30).length=min 30 cs.length:=mi
 have hfin:i=(cs.take 30).length->(cs.take i).foldl om l1=zs1:=fun e=>by
  rw[<-hM,e,h30];congr 1;exact(List.take_eq_take_min (l:=cs) (i:=30)).symm
 by_cases h1:i<cs.length
 ·by_cases h2:i<30
  ·obtain⟨⟨a,b,c⟩,hn⟩:=xm h1;have hcc:=zju hn;obtain⟨ka,kb,kc⟩:=hcs _ (zo7 hn);dsimp only at ka kb kc;have hst:=Ye hn l1;obtain⟨okl,ll⟩:=Og (cs.take i) ok0 (by rw[mi];omega);rw[mi] at ll;obtain⟨_,he,_⟩:=Pp okl (a,b,c) T;have hw:wo ((cs.take i).foldl om l1) (D7 a b) (drB c)=(om ((cs.take i).foldl om l1) (a,b,c),0):=Prod.ext rfl he;rw[<-hst] at hw;have hmono:Kn.mono (.sat (US ((cs.take (i+1)).foldl om l1) false)):=ns;have hz1:=rq a b;generalize hxx:D7 a b=x at hw hz1;generalize hdd:drB c=d at hw;refine(Zf∘Zr∘Zo) ?_;refine fk 11 (PS3 cs fc) Z ns hc ((Zdd∘ZU∘Zb∘ZU∘Zi∘Z3∘Zao∘Zar∘Z1∘Zh∘Zo) ?_);refine fk 23 (PS3 cs fc) Z ns hc (Zb6 (h:=?_));refine z7 (yn L (vs:=[_,_,_]) Z Z Z Z Z ⟨_,rfl⟩) Z (z71 L Z (fun u H hH _=>zdr hxx hdd ka kb kc hH) ?_);refine z7 (xg (φ:=R6 ((cs.take (i+1)).foldl om l1) 0) L Z Z (zm Z) Z Z Z R6.mono (fun u H hH _ _ v1 h1=>U0 hw okl.sst T hz1 okl.tz hH h1)) Z ((Zh∘Zdp∘ZcR∘ZR∘ZaA∘Z5∘ZaT) ?_);exact yo (x:=i) (i+1) T T ⟨Z,Z,Z,nm⟩
  ·obtain he:=hfin T;rw[he];refine(Zf∘Zr∘Zo) ?_;refine fk 11 (PS3 cs fc) Z ns hc ((Zdd∘ZU∘Zb∘Z0∘Zi∘Za5∘ZO∘Zh∘ZR∘Zw) ?_);refine yj1 L [.tmp 2] fun u H hH hle=>?_;exact fun v hv=>hv
 ·obtain he:=hfin T;rw[he];refine(Zf∘Zr∘Zo) ?_;refine fk 11 (PS3 cs fc) Z ns hc ((Zdd∘Z0∘ZcL∘Zi∘Za5∘ZO∘Zh∘ZR∘Zw) ?_);refine yj1 L [.tmp 2] fun u H hH hle=>?_;exact fun v hv=>hv
def P9:∀ (r:List U) {out:List U},(∀ t∈r,tE t=0)->out.length+r.length<=4096->ofU out r=(fg kw out r,0)
 | [],_,_,_=>rfl
 | t::r,out,hr,hl=>by
  simp only[nz] at hl
  have h1:wo out t false=(if t∈out then out else oe kw t out,0):=by
   unfold wo;rw[na (hr t (mc ..)),nc E];split
   ·rfl
   ·rw[nc T]
  rw[ofU,h1,na rfl,Eg];refine P9 r (out:=if t∈out then out else oe kw t out) (fun z hz=>hr z (mh _ hz)) ?_;split
  ·omega
  ·rw[ww];omega
def zce{l:List U}(h:SOK l)(hl:l.length<=4096):ofU [] l=(l,0):=by
 rw[P9 l h.ok (by simpa using hl),Sa cmpT_ord h.sst]
def zkx{f:FT}(h:FZ f):FM f:=by unfold FM;unfold FZ at h;omega
end Go.V.L6
namespace Go.V.L8
open Go.V.L2 Go.V.L3 Go.V.L6
def _root_.ZdH(t:Wr Y->A:=by intro h;refine z7 (yn L (vs:=[_,_,_,_,_,_,_]) Z Z Z Z Z ⟨_,rfl⟩) Z ?_;exact h.1)(h:Y):A:=t ⟨h⟩
def Yi{s:List U}{l:List CH}(h0:cE 32 l=0){c:CH}(h:∀ (j:Nat) x,j<i->l[j]?=some x->A4 s x=true)(hc:l[i]?=some c)(hh:A4 s c=false):og s l=(i,13):=by
 unfold og;rw[if_pos h0];exact Tf h hc hh
def Te{s:List U}{l:List CH}(h0:cE 32 l=0)(h:∀ (j:Nat) x,l[j]?=some x->A4 s x=true):og s l=(l.length,0):=by
 unfold og;rw[if_pos h0];exact Tg fun x hx=>let ⟨j,hj⟩:=List.getElem?_of_mem hx;h j x hj
attribute [local irreducible] V N X VO Par StepOK Has Ret RetL RetO RetT Src
def Hi{l:List CH}(hz:∀ c∈l,TM c.1)(hl:l.length<=9223372036854775807){e:Int}(he:cE 32 l=e)(hB:zs4 B w)(hv:KS tyC l fu v B):
  Ret zs5 194 [v] w B (fun r _=>r=.int .i64 e):=by
 obtain⟨p,m,c,rfl⟩:=Km hv;refine yr Tryz.func194 Z Tryz.ntmps194 (np Z) hB ((ZD∘Zd) ?_);refine o7 1 rfl fun q H1 hs1 ⟨b,hpb,hb1⟩=>?_;subst hpb;refine(Zan∘Zcr) ?_;refine fk 3 (KS tyC l fu) Z ns (hv.le hs1.le) ((Zdd∘Za7) ?_);refine z71 L Z (fun u H hH hle=>Eu (caps:=[.pointer (some ⟨b,0,none⟩)]) hz hl Z he hH (fun i c hc u' H' hH' hle'=>zh6 hc hH' (hle' _ _ (hle _ _ hb1)) ((hv.le hs1.le).le (Heap.Le.trans hle hle')))) ?_;refine Zc (h:=?_);refine yj L (rs:=[.tmp 2]) Z (fun _ _ h=>h) hs1 fun u H hH hle=>?_;rfl
def L9{s:List U}{c:CH}{b:Bool}(hb:A4 s c=b)(hB:zs4 B w)(hv:SetV s v B):Ret zs5 26 [v,chv c.1 c.2] w B (fun r _=>r=.bool b):=by
 subst hb;obtain⟨x,d⟩:=c;obtain⟨f1,p1,f2,q1,rfl,hpl⟩:=hv.shape;obtain⟨h,hh⟩:∃ h,decide (x∈s)=h:=⟨_,rfl⟩
 unfold A4;dsimp only;rw[hh];refine yr Tryz.func26 Z Tryz.ntmps26 (np Z) hB ((Zal∘Zd∘ZcC∘ZdS∘Zbt∘Zbb) ?_);refine z81 L Z (fun u H hH hle=>jr hh hH (hv.le hle)) ?_;refine(Zbu∘Zft∘ZaS) ?_;refine yj1 L [.tmp 4] fun u H hH hle=>?_;cases h<;>cases d<;>rfl
def first_ret{s:List U}{l:List CH}(hz:∀ c∈l,TM c.1)(hl:l.length<=9223372036854775807){r:Nat}{e:Int}(hr:og s l=(r,e)){sv v:Value}(hB:zs4 B w)(hs:SetV s sv B)(hv:KS tyM l fu v B):
  Ret zs5 195 [sv,v] w B (fun x _=>x=.tuple #[.int .i64 r,.int .i64 e]):=by
 obtain⟨f1,p1,f2,q1,rfl,hpl⟩:=hs.shape;refine yr Tryz.func195 Z Tryz.ntmps195 (np Z) hB (k7 1 (KS tyM l fu) Z ns hv ?_);by_cases h0:cE 32 l=0
 ·refine(ZD∘Zs∘ZH∘Zh) ?_;refine z7 (qb L Z Z (zm Z) Z Z Z (fun u H hH _ _ v1 h1=>iz hz hl h0 hH h1)) Z ((ZaZ∘ZbZ∘Zt∘Zj∘ZaR) ?_);refine xp (fun i:Nat=>[(1,.sat (KS tyM l fu)),(2,.sat (At [f1,.pointer p1,f2,.pointer q1] Az 0)),(14,.sat (KS tyM l fu)),(15,.is (.int .i64 l.length)),(16,.is (.int .i64 i))]) (fun i=>i<=l.length/\∀ (j:Nat) x,j<i->l[j]?=some x->A4 s x=true) (fun i=>l.length-i) 0 ⟨mb _,fun j c h=>ni h (Nat.not_lt_zero _)⟩ ⟨Z,Z,Z,Z,Z,nm⟩ ?_;rintro i ⟨hi,hok⟩;by_cases hlt:i<l.length
  ·obtain⟨c,hc0⟩:=xm hlt;have hc:=Gx hc0;cases hh:A4 s c
   ·rw[Yi h0 hok hc0 hh] at hr;cases hr;refine(Ze∘Z1∘Zat∘ZL∘Zaz∘ZdH∘ZE∘Zs∘ZaU∘Zg∘Zy∘Zee∘Zcv) ?_;refine z71 L Z (fun u H hH hle=>L9 hh hH (hs.le hle)) ?_;refine(Zm∘Zn∘ZaI∘ZI) ?_;exact yj2 L [.tmp 4,.tmp 5]
   ·refine(Ze∘Z1∘Zat∘ZL∘Zaz∘ZdH∘ZE∘Zs∘ZaU∘Zg∘Zy∘Zee∘Zcv) ?_;refine z71 L Z (fun u H hH hle=>L9 hh hH (hs.le hle)) ?_;refine(Zm∘Zbl∘Z2∘ZB) ?_
    exact yo (x:=i) (i+1) ⟨hlt,fun j c' hj hc'=>by
     rcases m5 j i with h | h
     ·exact hok j c' h hc'
     ·have:j=i:=T;subst this;rw[hc0] at hc';cases hc';exact hh⟩ T ⟨rfl,rfl,rfl,rfl,rfl,nm⟩
  ·rw[Te h0 (fun j x hj=>hok j x (by have:=get_lt hj;omega) hj)] at hr;cases hr;refine(Ze∘Z1∘Zak∘Z4∘Zj∘ZI) ?_;exact yj2 L [.tmp 4,.tmp 5]
 ·have:og s l=(0,cE 32 l):=nc h0;rw[this] at hr;cases hr;refine(ZD∘Zs∘ZH∘Zh) ?_;refine z7 (qb L Z Z (zm Z) Z Z Z (fun u H hH _ _ v1 h1=>iz hz hl Z hH h1)) Z ((ZaZ∘Za0∘Zr∘ZI) ?_);exact yj2 L [.tmp 4,.tmp 5]
def _root_.Zcj(t:Wr Y->A:=by intro h;refine z8 (zz L (vs:=[_,_,_,_]) (y7 Z) Z Z Z Z ⟨_,rfl⟩) Z ?_;exact h.1)(h:Y):A:=t ⟨h⟩
def _root_.ZdI(t:Wr Y->A:=by intro h;refine qg (w8 L Z Z Z (o6 Z) Z zlv Z Z T T) ?_;exact h.1)(h:Y):A:=t ⟨h⟩
def _root_.Zd1(t:Wr Y->A:=by intro h;refine z8 (V5 Z Z Z Z bt4 Z) Z ?_;exact h.1)(h:Y):A:=t ⟨h⟩
def _root_.ZeZ(t:Wr Y->A:=by intro h;refine z8 (zz L (vs:=[_,_,_,_,_,_]) (yd Z (List.Mem.head _)) Z Z Z Z ⟨_,rfl⟩) Z ?_;exact h.1)(h:Y):A:=t ⟨h⟩
def zlb{l:List CH}(h:cE n l=0):l.length<=n/\∀ c∈l,tE c.1=0:=by
 unfold cE at h;split at h
 ·exact ni h E
 ·split at h
  ·exact ni h E
  ·rename_i h1 h2;refine⟨by omega,fun c hc=>?_⟩;by_cases h0:tE c.1=0
   ·exact h0
   ·exact ni (zrs.2 ⟨c,hc,by simp [h0]⟩) h2
def Ea{s:ByteArray}(h:chk s=0):s.size<=1099511627776:=by
 unfold chk at h;split at h
 ·rename_i h1;omega
 ·exact ni h E
def zbd{t:U}(h:tE t=0):TZ t:=by
 unfold tE at h;split at h
 ·rename_i h1;obtain⟨c1,c2,c3⟩:=Tw h1;obtain⟨d1,d2,d3⟩:=tg h;refine⟨⟨Ea c1,Ea c2,Ea c3⟩,Ea d1,Ea d2,?_⟩;rcases d3 with d3 | d3
  ·rw[d3];exact mb _
  ·exact Ea d3
 ·rename_i h1;exact ni h h1
def WriteP(t:List U)(made:List CH)(e:Int)(r:Value)(H:Heap):Prop:=∃ tv mv,r=.tuple #[tv,mv,.int .i64 e]/\SetV t tv H/\KS tyC made true mv H
def WriteP.mono{t:List U}{e:Int}:Kn.mono (.sat (WriteP t made e)):=fun _ _ _ ⟨tv,mv,h1,h2,h3⟩ hle=>⟨tv,mv,h1,h2.le hle,h3.le hle⟩
def Yz{l:List CH}(hB:zs4 B w)(hv:KS tyC l fu v B):Ret zs5 196 [v] w B (KS tyC l true):=by
 refine yr Tryz.func196 Z Tryz.ntmps196 (np Z) hB (k7 0 (KS tyC l fu) Z ns hv ((ZK∘Zh∘Zj∘Zj∘Zec∘ZR∘Zw) ?_));refine yj1 L [.tmp 2] fun u H hH hle=>?_;exact fun v hv=>hv
set_option maxRecDepth 10000 in
def write_ret{s t:List U}{l cs made:List CH}{fl fc:Bool}{e:Int}(zl:∀ c∈l,TM c.1)(zc:∀ c∈cs,TM c.1)(ll:l.length<=9223372036854775807)(lc:cs.length<=9223372036854775807)(hsl:s.length<=4096)(hr:a9 s l cs=(t,made,e)){sv lv cv:Value}(hB:zs4 B w)
  (hs:SetV s sv B) (hl:KS tyM l fl lv B) (hc:KS tyC cs fc cv B):Ret zs5 136 [sv,lv,cv] w B (WriteP t made e):=by
 obtain⟨f1,p1,f2,q1,rfl,hpl⟩:=hs.shape;refine yr Tryz.func136 Z Tryz.ntmps136 (np Z) hB (k7 1 (KS tyM l fl) Z ns hl (k7 2 (KS tyC cs fc) Z ns hc ?_));unfold a9 at hr;by_cases h1:cE 32 l=0
 ·rw[na h1] at hr;by_cases h2:cE 32 cs=0
  ·rw[na h2] at hr;obtain⟨r,e1,hf⟩:∃ r e1,og s l=(r,e1):=⟨_,_,rfl⟩
   rw[hf] at hr;dsimp only at hr;by_cases h3:e1=0
   ·subst h3;rw[na rfl] at hr;obtain⟨l32,hval⟩:=zlb h2;refine(Zbw∘ZE∘Zs∘ZH∘Zh) ?_;refine z7 (qb L Z Z (zm Z) Z Z Z (fun u H hH _ _ v1 g1=>iz zl ll h1 hH g1)) Z ((ZaZ∘ZbZ∘Zt∘Zh) ?_);refine z7 (qb L Z Z (zm Z) Z Z Z (fun u H hH _ _ v1 g1=>Hi zc lc h2 hH g1)) Z ((Zbm∘ZbZ∘Zy∘Zbg∘Zh) ?_);refine z7 (qb L Z Z (zm Z) Z Z Z (fun u H hH hle _ v1 g1=>first_ret zl ll hf hH (hs.le hle) g1)) Z ((ZcA∘ZaI∘ZbZ∘Z4∘Zj∘ZaR) ?_);refine s7 (X:=SXp) 3 (r:=fun x=>Cell (scs x.1) Az) (φ:=D5 s) (jg s) ⟨(f1,p1,f2,q1),hpl⟩ hs Z (ul 7 tyC 7 rfl ?_)
    refine xp (fun y:Nat×List U×List CH=>[(3,.own (ExR (fun x:SXp=>Cell (scs x.1) Az) (D5 y.2.1) (jg y.2.1))),(6,.own (Cell [.nilFunc,.pointer none,.nilFunc,.pointer none] Az)),(7,.own (SlR tyC 7 y.2.2.length (y.2.2.flatMap ccs))),(40,.sat (KS tyC cs fc)),(41,.is (.int .i64 cs.length)),(42,.is (.int .i64 y.1))])
     (fun y=>y.1<=cs.length/\Al y.2.1 y.2.2 (cs.drop y.1)=(t,made,e)/\y.2.1.length<=4096/\y.2.2.length<=y.1) (fun y=>cs.length-y.1) (0,s,[]) ⟨mb _,hr,hsl,nu _⟩ ⟨rfl,rfl,rfl,rfl,rfl,rfl,nm⟩ ?_
    clear hr hs hsl;rintro⟨k,s,md⟩ ⟨hk,he,hsl,hmd⟩;dsimp only at hk he hsl hmd |-;refine uk 3 rfl fun⟨⟨f1,p1,f2,q1⟩,hpl⟩ H3 hs3 hT=>?_;have hT:SetV s (.agg #[f1,.pointer p1,f2,.pointer q1]) H3:=hT;by_cases hlt:k<cs.length
    ·obtain⟨c,hc0⟩:=xm hlt;have hc:=Gx hc0;have hv:=hval c (zo7 hc0);have hzt:=zbd hv;rw[ax hc0,Al] at he;obtain⟨x,d⟩:=c;dsimp only at hc hv hzt he;rcases hw:wo s x d with ⟨s',e'⟩
     rw[hw] at he;dsimp only at he;have hsl':=Bu hsl x d;rw[hw] at hsl';obtain⟨i,hin⟩:∃ i,decide (x∈s)=i:=⟨_,rfl⟩
     rw[hin] at he;by_cases h0:e'=0
     ·rw[na h0] at he;subst h0;cases i<;>cases d
      ·rw[na rfl] at he;refine(Ze∘ZG∘Zat∘ZJ∘Zaz∘ZdH∘ZY) ?_;refine ug 14 rfl fun b14 hb14=>?_;refine(Ze7∘Zcj∘Zdc∘ZeZ) ?_;refine z81 L rfl (fun u H hH hle=>jr hin hH (hT.le hle)) ?_;refine(Za8∘Zd1∘Zbc∘ZaD∘Zbg∘Zci) ?_;refine z7 (xg (φ:=WithP s' 0) L rfl rfl (zm rfl) rfl rfl rfl WithP.mono (fun u H hH hle _=>An hw hsl hzt hH (hT.le hle))) rfl (vo 56 rfl ?_);rintro _ H19 hs19 ⟨tv,rfl,hT19⟩;obtain⟨g1,r1,g2,r2,rfl,hpl2⟩:=hT19.shape;refine(ZA∘ZE∘Zb7∘Zk∘Zaa∘Za∘Zb4∘Zbx∘Zbg∘Zb7∘Zg∘ZaO∘Za∘Z3∘Zcs) ?_;refine qg (yu (.inl rfl) rfl) ((Zci∘ZaF∘ZdI) ?_);refine qg (yu (.inr rfl) rfl) (ZaA (h:=?_));refine j7 (O':=[]) (zox _) ?_;refine(ZaP∘ZB) ?_;exact ol (X:=SXp) 3 (r:=fun x=>Cell (scs x.1) Az) (φ:=D5 s') (jg _) ⟨(g1,r1,g2,r2),hpl2⟩ hT19 Z (jn (x:=(k,s,md)) (k+1,s',md++[(x,false)]) (hs3.trans hs19) ⟨hlt,he,hsl',by dsimp only;rw[List.length_append];show md.length+1<=k+1;omega⟩ G ⟨Z,Z,lh Z,Z,Z,Z,trivial⟩)
      ·rw[nc E] at he;refine(Ze∘ZG∘Zat∘ZJ∘Zaz∘ZdH∘ZY) ?_;refine ug 14 rfl fun b14 hb14=>?_;refine(Ze7∘Zcj∘Zdc∘ZeZ) ?_;refine z81 L rfl (fun u H hH hle=>jr hin hH (hT.le hle)) ?_;refine(Za8∘Zd1∘Zbc∘ZaD∘Zbg∘Zci) ?_;refine z7 (xg (φ:=WithP s' 0) L rfl rfl (zm rfl) rfl rfl rfl WithP.mono (fun u H hH hle _=>An hw hsl hzt hH (hT.le hle))) rfl (vo 56 rfl ?_);rintro _ H19 hs19 ⟨tv,rfl,hT19⟩;obtain⟨g1,r1,g2,r2,rfl,hpl2⟩:=hT19.shape;refine(ZA∘ZE∘Zb7∘Zk∘Zaa∘Za∘Zb4∘Zbx∘Zbg∘Zb7∘Zg∘ZaO∘Za∘Zbl) ?_;refine j7 (O':=[]) (zox _) ?_;refine(ZaP∘ZB) ?_;exact ol (X:=SXp) 3 (r:=fun x=>Cell (scs x.1) Az) (φ:=D5 s') (jg _) ⟨(g1,r1,g2,r2),hpl2⟩ hT19 Z (jn (x:=(k,s,md)) (k+1,s',md) (hs3.trans hs19) ⟨hlt,he,hsl',by dsimp only;omega⟩ G ⟨Z,Z,Z,Z,Z,Z,trivial⟩)
      ·rw[nc E] at he;refine(Ze∘ZG∘Zat∘ZJ∘Zaz∘ZdH∘ZY) ?_;refine ug 14 rfl fun b14 hb14=>?_;refine(Ze7∘Zcj∘Zdc∘ZeZ) ?_;refine z81 L rfl (fun u H hH hle=>jr hin hH (hT.le hle)) ?_;refine(Za8∘Zd1∘Zbc∘ZaD∘Zbg∘Zci) ?_;refine z7 (xg (φ:=WithP s' 0) L rfl rfl (zm rfl) rfl rfl rfl WithP.mono (fun u H hH hle _=>An hw hsl hzt hH (hT.le hle))) rfl (vo 56 rfl ?_);rintro _ H19 hs19 ⟨tv,rfl,hT19⟩;obtain⟨g1,r1,g2,r2,rfl,hpl2⟩:=hT19.shape;refine(ZA∘ZE∘Zb7∘Zk∘Zaa∘Za∘Zb4∘Zbx∘Zbg∘Zb7∘Zg∘ZaO∘Za∘Zbl) ?_;refine j7 (O':=[]) (zox _) ?_;refine(ZaP∘ZB) ?_;exact ol (X:=SXp) 3 (r:=fun x=>Cell (scs x.1) Az) (φ:=D5 s') (jg _) ⟨(g1,r1,g2,r2),hpl2⟩ hT19 Z (jn (x:=(k,s,md)) (k+1,s',md) (hs3.trans hs19) ⟨hlt,he,hsl',by dsimp only;omega⟩ G ⟨Z,Z,Z,Z,Z,Z,trivial⟩)
      ·rw[na rfl] at he;refine(Ze∘ZG∘Zat∘ZJ∘Zaz∘ZdH∘ZY) ?_;refine ug 14 rfl fun b14 hb14=>?_;refine(Ze7∘Zcj∘Zdc∘ZeZ) ?_;refine z81 L rfl (fun u H hH hle=>jr hin hH (hT.le hle)) ?_;refine(Za8∘Zd1∘Zbc∘ZaD∘Zbg∘Zci) ?_;refine z7 (xg (φ:=WithP s' 0) L rfl rfl (zm rfl) rfl rfl rfl WithP.mono (fun u H hH hle _=>An hw hsl hzt hH (hT.le hle))) rfl (vo 56 rfl ?_);rintro _ H19 hs19 ⟨tv,rfl,hT19⟩;obtain⟨g1,r1,g2,r2,rfl,hpl2⟩:=hT19.shape;refine(ZA∘ZE∘Zb7∘Zk∘Zaa∘Za∘Zb4∘Zbx∘Zbg∘Zb7∘Zg∘ZaO∘Za∘Z3∘Zcs) ?_;refine qg (yu (.inl rfl) rfl) ((Zci∘ZaF∘ZdI) ?_);refine qg (yu (.inr rfl) rfl) (ZaA (h:=?_));refine j7 (O':=[]) (zox _) ?_;refine(ZaP∘ZB) ?_;exact ol (X:=SXp) 3 (r:=fun x=>Cell (scs x.1) Az) (φ:=D5 s') (jg _) ⟨(g1,r1,g2,r2),hpl2⟩ hT19 Z (jn (x:=(k,s,md)) (k+1,s',md++[(x,true)]) (hs3.trans hs19) ⟨hlt,he,hsl',by dsimp only;rw[List.length_append];show md.length+1<=k+1;omega⟩ G ⟨Z,Z,lh Z,Z,Z,Z,trivial⟩)
     ·rw[nc h0] at he;cases he;refine(Ze∘ZG∘Zat∘ZJ∘Zaz∘ZdH∘ZY) ?_;refine ug 14 rfl fun b14 hb14=>?_;refine(Ze7∘Zcj∘Zdc∘ZeZ) ?_;refine z81 L rfl (fun u H hH hle=>jr hin hH (hT.le hle)) ?_;refine(Za8∘Zd1∘Zbc∘ZaD∘Zbg∘Zci) ?_;refine z7 (xg (φ:=WithP s' e) L rfl rfl (zm rfl) rfl rfl rfl WithP.mono (fun u H hH hle _=>An hw hsl hzt hH (hT.le hle))) rfl (vo 56 rfl ?_);rintro _ H19 hs19 ⟨tv,rfl,hT19⟩;obtain⟨g1,r1,g2,r2,rfl,hpl2⟩:=hT19.shape;refine(ZA∘ZE∘Zb7∘Zk∘Zaa∘Za∘Za0∘Zaj∘ZdB∘Za∘ZaU∘ZI) ?_;refine yj L (rs:=[.cell 6 37,.tmp 7,.tmp 8]) Z (fun _ _ h=>h) (hs3.trans hs19) fun u H hH hle=>?_;exact⟨_,y7 Z,rfl,_,_,rfl,SetV.nil,SlV.nil⟩
    ·obtain rfl:k=cs.length:=by omega
     rw[zq5,Al] at he;cases he;refine(Ze∘ZG∘Zak) ?_;refine gt 7 rfl (qn (id:=21) [] ko J ((Zcj∘Zad) ?_));refine z8 (xg (φ:=KS tyC made true) L Z Z (zm Z) Z Z Z ns (fun u H hH _ _ v1 g1=>Yz hH g1)) Z (z8 (qq L Z Z M Z) Z ((Zc6∘ZaS) ?_));refine yj L (rs:=[.cell 6 37,.tmp 7,.tmp 8]) Z (fun _ _ h=>h) hs3 fun u H hH hle=>?_;exact⟨_,y7 Z,rfl,fun mv hmv=>⟨_,mv,rfl,hT.le hle,hmv⟩⟩
   ·rw[nc h3] at hr;cases hr;refine(Zbw∘ZE∘Zs∘ZH∘Zh) ?_;refine z7 (qb L Z Z (zm Z) Z Z Z (fun u H hH _ _ v1 g1=>iz zl ll h1 hH g1)) Z ((ZaZ∘ZbZ∘Zt∘Zh) ?_);refine z7 (qb L Z Z (zm Z) Z Z Z (fun u H hH _ _ v1 g1=>Hi zc lc h2 hH g1)) Z ((Zbm∘ZbZ∘Zy∘Zbg∘Zh) ?_);refine z7 (qb L Z Z (zm Z) Z Z Z (fun u H hH hle _ v1 g1=>first_ret zl ll hf hH (hs.le hle) g1)) Z ((ZcA∘ZaI∘Za0∘Z2∘ZdB∘Za∘ZaU∘ZI) ?_);refine yj1 L [.cell 6 37,.tmp 7,.tmp 8] fun u H hH hle=>?_;exact⟨_,y7 Z,rfl,_,_,rfl,SetV.nil,SlV.nil⟩
  ·rw[nc h2] at hr;cases hr;refine(Zbw∘ZE∘Zs∘ZH∘Zh) ?_;refine z7 (qb L Z Z (zm Z) Z Z Z (fun u H hH _ _ v1 g1=>iz zl ll h1 hH g1)) Z ((ZaZ∘ZbZ∘Zt∘Zh) ?_);refine z7 (qb L Z Z (zm Z) Z Z Z (fun u H hH _ _ v1 g1=>Hi zc lc Z hH g1)) Z ((Zbm∘Za0∘ZO∘ZdB∘Za∘ZaU∘ZI) ?_);refine yj1 L [.cell 6 37,.tmp 7,.tmp 8] fun u H hH hle=>?_;exact⟨_,y7 Z,rfl,_,_,rfl,SetV.nil,SlV.nil⟩
 ·rw[nc h1] at hr;cases hr;refine(Zbw∘ZE∘Zs∘ZH∘Zh) ?_;refine z7 (qb L Z Z (zm Z) Z Z Z (fun u H hH _ _ v1 g1=>iz zl ll Z hH g1)) Z ((ZaZ∘Za0∘Z6∘ZdB∘Za∘ZaU∘ZI) ?_);refine yj1 L [.cell 6 37,.tmp 7,.tmp 8] fun u H hH hle=>?_;exact⟨_,y7 Z,rfl,_,_,rfl,SetV.nil,SlV.nil⟩
def fC(c:C3):CH:=(D7 c.1 c.2.1,drB c.2.2)
def Hv:∀ {cs:List CH} {s:List U} {md:List CH},SOK s->(∀ c∈cs,TZ c.1/\tE c.1=0)->s.length+cs.length<4096->∃ t made,Al s md cs=(t,made,0)/\SOK t/\t.length<=s.length+cs.length
 | [],s,md,h,_,_=>⟨s,md,rfl,h,nu _⟩
 | c::r,s,md,h,hc,hl=>by
  simp only[nz] at hl;obtain⟨hz,h0⟩:=hc c (mc ..);obtain⟨h1,h2,h3⟩:=Pa h hz h0 c.2 T;obtain⟨t,made,e,ht,hlt⟩:=Hv (cs:=r) (s:=(wo s c.1 c.2).1) (md:=if decide (c.1∈s)=c.2 then md++[c] else md) h1 (fun x hx=>hc x (mh _ hx)) T;refine⟨t,made,by rw[Al,na h2,e],ht,?_⟩;simp only[nz];omega
def writeR_ok{s:List U}{l:List CH}(h1:cE 32 l=0)(h2:cE 32 cs=0)(h3:(og s l).2=0):a9 s l cs=Al s [] cs:=by
 unfold a9;rw[if_pos h1,if_pos h2,if_pos h3]
end Go.V.L8
namespace Go.V.L10
open Go.V.L2 Go.V.L8 Go.V.L6
structure JJ(n:Nat)(S:Sto):Prop where
 last:(kpt S.R S.R.length).isSome=true
 pin:∀ r∈S.P,(kpt S.R r).isSome=true
 so:∀ r t,kpt S.R r=some t->SOK t/\t.length<=30*S.R.length
 hR:S.R.length<=n+1
 hP:S.P.length<=n
def JJ.ne(h:JJ n S):S.R.length≠0:=by have:=bl h.last;omega
def JJ.I(h:JJ n S)(hn:n<=100):znw S:=⟨h.last,mp (Av _) (by have:=h.hR;omega),h.pin,fun r t ht=>by have:=(h.so r t ht).2;have:=h.hR;omega⟩
def JJ.mono(h:JJ n S)(hm:n<=m):JJ m S:=⟨h.last,h.pin,h.so,mp h.hR T,mp h.hP hm⟩
def ze5:JJ 0 newS:=⟨rfl,fun _ h=>(by cases h),fun r t h=>by
 have hr:=bl (R:=newS.R) (r:=r) (by rw[h];rfl);have h1:newS.R.length=1:=rfl;have:r=((0+1:Nat):Int):=T;subst this;have h2:kpt newS.R ((0+1:Nat):Int)=some []:=by rw[o3];rfl
 rw[h2] at h;cases h;exact⟨⟨Sst.nil,fun _ h=>(by cases h),fun _ h=>(by cases h)⟩,mb _⟩,nu _,nu _⟩
def zi2{t:U}(h:TZ t):TM t:=by
 unfold TZ at h;unfold TM;omega
def writeR_ok{s:List U}{l cs:List CH}{t:List U}{made:List CH}(h:a9 s l cs=(t,made,0))(hs:SOK s)(hc:∀ c∈cs,TZ c.1/\tE c.1=0)(hl:s.length+cs.length<4096):SOK t/\t.length<=s.length+cs.length:=by
 obtain⟨t2,m2,h2,h3,h4⟩:=Hv (md:=[]) hs hc hl;unfold a9 at h;split at h
 ·split at h
  ·split at h
   ·rw[h2] at h;cases h;exact⟨h3,h4⟩
   ·rename_i h1;exact ni (nh (·.2.2) h) h1
  ·rename_i h1;exact ni (nh (·.2.2) h) h1
 ·rename_i h1;exact ni (nh (·.2.2) h) h1
def zd0{t:List U}(h:kpt S.R S.R.length=some t):atS S 0=(t,0):=by unfold atS;rw[if_pos rfl,h]
def zcz(h:JJ n S)(hn:n<=100){l cs:List CH}(hc:∀ c∈cs,TZ c.1/\tE c.1=0)(hcl:cs.length<=30):JJ (n+1) (Bt S l cs).1:=by
 obtain⟨t0,ht0⟩:∃ t0,kpt S.R S.R.length=some t0:=zp1.1 h.last;obtain⟨⟨t1,made,e1⟩,hwr⟩:∃ x,a9 t0 l cs=x:=⟨_,rfl⟩
 unfold Bt;rw[zd0 ht0,hwr];dsimp only;by_cases he:e1=0
 ·subst he;rw[na rfl];split
  ·exact h.mono (zpr _)
  ·have h0:=h.so _ _ ht0;have hR:=h.hR;have h1:=writeR_ok hwr h0.1 hc T;have hln:(S.R++[some t1]).length=S.R.length+1:=by rw[nr];rfl
   refine⟨?_,fun r hr=>?_,fun r t ht=>?_,?_,zq4 h.hP⟩
   ·dsimp only;rw[hln,Bh,if_pos rfl];rfl
   ·dsimp only;rw[Bh];split
    ·rfl
    ·exact h.pin r hr
   ·dsimp only at ht |-;rw[Bh] at ht;rw[hln];split at ht
    ·cases ht;exact⟨h1.1,by omega⟩
    ·have h2:=h.so r t ht;exact⟨h2.1,by omega⟩
   ·dsimp only;omega
 ·rw[nc he];exact h.mono (zpr _)
def zku(h:JJ n S)(r:Int)(un:Bool):JJ (n+1) (zgs S r un).1:=by
 unfold zgs;by_cases hk:(kpt S.R r).isSome=true
 ·rw[na hk]
  cases un with
  | true=>
   rw[na rfl];split
   ·refine⟨h.last,fun x hx=>h.pin x ?_,h.so,zq4 h.hR,?_⟩
    ·dsimp only at hx;unfold H8 at hx;split at hx
     ·cases hx
     ·exact List.mem_of_mem_erase hx
    ·dsimp only;unfold H8;split
     ·exact mb _
     ·exact mp (List.length_erase_le ..) (zq4 h.hP)
   ·exact h.mono (zpr _)
  | false=>
   rw[nc E];refine⟨h.last,fun x hx=>?_,h.so,zq4 h.hR,?_⟩
   ·rcases mn.1 hx with hx | hx
    ·exact h.pin x hx
    ·rw[m7.1 hx];exact hk
   ·have:=h.hP;dsimp only;rw[List.length_append,List.length_singleton];omega
 ·rw[nc hk];exact h.mono (zpr _)
def S9(hk:1<=k):((S.R.length:Nat):Int)∉az S.P (jb S.R) k:=fun hm=>by
 unfold az at hm;have h1:=(zo3.1 hm).1;obtain⟨i,hi⟩:=zpg h1;have hil:i<(jb S.R).length-k:=by have:=get_lt hi;rw[mi] at this;omega
 rw[zqi hil] at hi;obtain⟨y,hy⟩:=xm (show i+1<(jb S.R).length by omega);have h3:=zqm.1 (ek S.R) i (i+1) (get_lt hi) (get_lt hy) (zrw i);rw[p9 hi,p9 hy,zab] at h3;have:=bl (vl.1 (zo7 hy));omega
def Ma{P0:List Int}{g:Int}(hg:g∈az P0 (jb R) k):(kpt R g).isSome=true/\g∉P0:=by
 unfold az at hg;have h1:=zo3.1 hg;exact⟨vl.1 (zrv h1.1),fun hm=>by have:=List.count_pos_iff.2 hm;have h2:=h1.2;simp at h2;omega⟩
def zhm(h:JJ n S)(keep:Int):JJ (n+1) (Ac S keep).1:=by
 unfold Ac;split
 ·rename_i hk;have hp:∀ g∈az S.P (jb S.R) keep.toNat,0<g:=fun g hg=>(bl (Ma hg).1).1;refine⟨?_,fun r hr=>?_,fun r t ht=>?_,?_,zq4 h.hP⟩
  ·dsimp only;rw[ak,Bi hp,if_neg (S9 T)];exact h.last
  ·dsimp only;rw[Bi hp,if_neg (fun hm=>(Ma hm).2 hr)];exact h.pin r hr
  ·dsimp only at ht |-;rw[Bi hp] at ht;rw[ak];split at ht
   ·cases ht
   ·exact h.so r t ht
  ·dsimp only;rw[ak];exact Nat.le_succ_of_le h.hR
 ·exact h.mono (zpr _)
def zbt{es:Ent}(hm:MapOK es R){out:List Int}(hp:out.Perm (es.map Prod.fst)):(Go.Sort.sort So.lt out.toArray).toList=jb R:=by
 have h1:(Go.Sort.sort So.lt out.toArray).toList=out.mergeSort (fun x y=>decide (x<=y)):=Go.Sort.sortInt out;rw[h1];have hperm:=List.mergeSort_perm out (fun x y=>decide (x<=y));have hnd:(out.mergeSort (fun x y=>decide (x<=y))).Nodup:=(hperm.trans hp).nodup_iff.2 hm.nd;have hs:(out.mergeSort (fun x y=>decide (x<=y))).Pairwise fun a b=>decide (a<=b)=true:=List.pairwise_mergeSort (le:=fun x y:Int=>decide (x<=y)) (fun a b c h1 h2=>by simp at h1 h2 |-;omega) (fun a b=>by simp;omega) out;refine fm lm ?_ (ek R) fun z=>?_
 ·refine(List.Pairwise.and hs hnd).imp ?_;rintro a b ⟨h2,h3⟩;have h4:a<=b:=by simpa using h2
  have h5:a≠b:=h3;exact zab.2 T
 ·rw[(hperm.trans hp).mem_iff,hm.mem]
def E6{α:Type}:∀ {l:List α} {j:Nat} {x:α},l[j]?=some x->(x::l.eraseIdx j).Perm l
 | [],_,_,h=>by cases h
 | y::l,0,x,h=>by cases h;exact List.Perm.refl _
 | y::l,j+1,x,h=>by
  have:=E6 (l:=l) (j:=j) (x:=x) (by simpa using h);exact(List.Perm.swap y x _).trans (this.cons y)
def Xw{left:Ent}{p:Int×(List U×Value)}(h:left[j]?=some p)(out:List Int):(out++[p.1]++(left.eraseIdx j).map Prod.fst).Perm (out++left.map Prod.fst):=by
 have h1:(p::left.eraseIdx j).Perm left:=E6 h;rw[mw];refine List.Perm.append_left out ?_;simpa using h1.map Prod.fst
attribute [local irreducible] V N X VO Par StepOK Has Ret RetL RetO RetT kz RetX RetY Src
abbrev zlq(R:List (Option (List U))):Res:=SlE Fu 1 (jb R).length ((jb R).map (Value.int .u64))
set_option maxRecDepth 10000 in
def i8{es:Ent}(hm:MapOK es R)(hn:R.length≠0)(hz:es.length<=100000)(hB:zs4 B w)(hr:(StO b R.length m s t es).P B w C)(hC:ZCB C w B):
  RetT zs5 141 [.pointer (some ⟨b,0,none⟩)] w B C (im (zlq R) (StO b R.length m s t es).res):=by
 have hlen:=hm.len;rw[show zlq R=SlE Fu 1 es.length ((jb R).map (Value.int .u64)) by rw[hlen]];unfold RetT;refine xf 900 (StO b R.length m s t es) Tryz.func141 Z Tryz.ntmps141 (np Z) hB hr hC ?_;rw[cq];refine Zew (h:=?_);refine Zck (h:=?_);refine ye (xy L 900 (Φ:=fun H=>H b=some (.cells (stc R.length m s t).toArray tyS)) (c:=.bool false) Z Z (zm Z) Z Z Z Z Z Au (fun u H hH hle hb=>none_ret hn hb hH)) ((Zx∘Zr∘ZW) ?_);refine ye (N6 (q:=901) (vc:=vcE) mpS Z Z Z Z Z) (z7 (Vw L es.length Z Z Z zit Z Z Z T (by unfold maxLen;omega)) Z ?_);refine qg (yu (.inr Z) Z) (ZaC (h:=?_));refine zec 3 902 rfl fun b3 rest0 _ _ hcm hcl0=>?_;refine Zc4 (h:=?_);refine qg (Vt (q:=901) (vc:=vcE) mpS Z Z Z Z) (Zd3 (h:=?_))
 refine xp (fun zsx:(List Int×List Value)×Ent=>[(3,.is (.slice (some ⟨b3,0,none⟩) zsx.1.1.length es.length)),(17,.own (zee m .u64 vcE es zsx.2)),(900,.own (xu b (stc R.length m s t) tyS)),(902,.own (xu b3 (zsx.1.1.map (Value.int .u64)++zsx.1.2) Fu))])
  (fun zsx=>(zsx.1.1++zsx.2.map Prod.fst).Perm (es.map Prod.fst)/\(zsx.1.1.map (Value.int .u64)++zsx.1.2).length=es.length*1) (fun zsx=>zsx.2.length) (([],rest0),es) ⟨List.Perm.refl _,hcl0⟩ ⟨rfl,rfl,rfl,rfl,nm⟩ ?_
 rintro⟨⟨out,rest⟩,left⟩ ⟨hp,hcl⟩;dsimp only at hp hcl |-;have hpl:=hp.length_eq;rw[nr,m4,m4] at hpl;by_cases hl:left=[]
 ·subst hl;rw[zph,mq] at hp;have hol:out.length=es.length:=by simpa using hpl
  have hr0:rest=[]:=zow (by rw[nr,m4] at hcl;omega);subst hr0;rw[hol];have hsk:=zbt hm hp;refine(Ze∘Z1) ?_;refine z7 (Vu Z Z Z Z Z) Z ((Zb9∘ZfW∘ZfD) ?_);refine zlk 17 901 rfl ?_;refine ZaI (h:=?_);refine qg (xe L 902 (xc b3 ((jb R).map (Value.int .u64)++[]) So.tyU) (r:=xc b3 (out.map (Value.int .u64)++[]) So.tyU) Z Z Z Z Z (fun u H C hH _ hr hC=>by have h:=So.sortU_ret (d:=out.toArray) (rest:=[]) (b:=b3) (m:=es.length) (cap:=es.length) (by simpa using hol) hz hH hr hC;unfold uC at h;rw[hsk] at h;exact h)) ?_;refine Zg (h:=?_);rw[xd,show(jb R).map (Value.int .u64)++[]=(jb R).map (Value.int .u64) from mq _];refine zfg (s:=1) 3 902 rfl Z (by rw[List.length_map,hlen,Nat.mul_one]) (by unfold maxLen;omega) ?_;refine Z2 (h:=?_);refine qg (yu (.inl Z) Z) (qg (yu (.inr Z) Z) (Zw (h:=?_)));refine ZdD (h:=?_);refine wc 2 900 rfl Z (xi (StO b R.length m s t es)) ?_;exact Fg Z (fun _ _ h=>h) nq Z
 ·have hll:0<left.length:=zsi.2 hl;have hroom:out.length+1<=es.length:=T;have hrl:0<rest.length:=by rw[nr,m4] at hcl;omega
  have hcl2:out.length*1+1*1<=(out.map (Value.int .u64)++rest).length:=by rw[hcl];omega
  have hrr:∀ k:Int,(out.map (Value.int .u64)++rest).take (out.length*1)++([Value.int .u64 k]++(out.map (Value.int .u64)++rest).drop (out.length*1+1*1))=(out++[k]).map (Value.int .u64)++rest.drop 1:=fun k=>by
   have e1:(out.map (Value.int .u64)).length=out.length*1:=by simp
   rw[<-e1,zq9,zo6 (nu _),zqc,zpt,mq,zp7,zo4 T,mj,show(out.map (Value.int .u64)).length+1*1-(out.map (Value.int .u64)).length=1 by omega];simp
  refine(Ze∘Z1) ?_;refine zba Z Z hl Z Z Z (fun j p hjp=>?_);refine(Zb9∘ZfV∘ZcQ∘ZO) ?_;refine z7 (V0 Z Z Z) Z ((Zb9∘Zc∘Zcc∘ZaF) ?_);refine qg (N8 L (q:=902) Z Z Z Z (o6 Z) Z zit T Z hroom hcl2 Z (hrr _)) (Zag (h:=?_));refine zil 17 (zee m .u64 vcE es (left.eraseIdx j)) Z zjr ?_
  exact yo (x:=((out,rest),left)) ((out++[p.1],rest.drop 1),left.eraseIdx j) ⟨(Xw hjp out).trans hp,by
   dsimp only;rw[nr,m4,nr,m8];rw[nr,m4] at hcl;simp only[nz,m6];omega⟩ (by dsimp only;rw[List.length_eraseIdx_of_lt (get_lt hjp)];omega) ⟨by rw[List.length_append];rfl,rfl,rfl,rfl,trivial⟩
end Go.V.L10
namespace Go.V
section
variable {β:Type} [DecidableEq α] [DecidableEq β] {k:α->β} {c:β->β->Int}
theorem Ps(ho:Ord3 c):∀ {S S':List α},Srt k c S->Srt k c S'->Eqv k S S'->S'=S
 | [],S',_,_,h=>zow (by rw[h.length];rfl)
 | x::r,[],_,_,h=>by have:=h.length;simp at this
 | x::r,y::r',h1,h2,h=>by
  have hxy:k x=k y:=by
   have hx:x∈y::r':=h.mem.2 (mc ..);have hy:y∈x::r:=h.mem.1 (mc ..)
   have e1:¬ c (k x) (k y)<0:=by
    rcases ma.1 hx with e | hx
    ·rw[e];exact ho.irr _
    ·exact(mo.1 h2).1 x hx
   have e2:¬ c (k y) (k x)<0:=by
    rcases ma.1 hy with e | hy
    ·rw[e];exact ho.irr _
    ·exact(mo.1 h1).1 y hy
   have:=ho.anti (k x) (k y);exact ho.eq _ _ T
  have hf:=h (k x);rw[zqt (by simp [hxy]),zqt (by simp)] at hf;have hxe:y=x:=(List.cons.inj hf).1;subst hxe
  have ht:Eqv k r r':=fun t=>by
   have:=h t;by_cases e:k y=t
   ·rw[zqt (by simpa using e),zqt (by simpa using e)] at this;exact(List.cons.inj this).2
   ·rwa [zrk (by simpa using e),zrk (by simpa using e)] at this
  rw[Ps ho (mo.1 h1).2 (mo.1 h2).2 ht]
omit [DecidableEq α] in
theorem Eqv.symm{A B:List α}(h:Eqv k A B):Eqv k B A:=fun t=>(h t).symm
theorem zbm(ho:Ord3 c){l S S':List α}(h:Stb k c l S)(h':Stb k c l S'):S'=S:=Ps ho h.1 h'.1 (h.2.symm.trans h'.2)
def zhp(k:α->β)(c:β->β->Int)(x:α):List α->List α
 | []=>[x]
 | y::l=>if c (k x) (k y)<0 then x::y::l else y::zhp k c x l
omit [DecidableEq α] [DecidableEq β] in
theorem E0(ho:Ord3 c){x:α}:∀ {S:List α},Srt k c S->∃ A B,S=A++B/\zhp k c x S=A++x::B/\(∀ a∈A,¬ c (k x) (k a)<0)/\∀ b∈B,c (k x) (k b)<0
 | [],_=>⟨[],[],rfl,rfl,fun a h=>(by cases h),fun a h=>(by cases h)⟩
 | y::l,h=>by
  obtain⟨h1,h2⟩:=mo.1 h;by_cases hxy:c (k x) (k y)<0
  ·refine⟨[],y::l,rfl,na hxy,fun a h=>(by cases h),fun b hb=>?_⟩;rcases ma.1 hb with rfl | hb
   ·exact hxy
   ·have h3:=h1 b hb;have:=ho.anti (k b) (k y);by_cases h4:c (k y) (k b)<0
    ·exact ho.tr hxy h4
    ·rw[<-ho.eq (k y) (k b) T];exact hxy
  ·obtain⟨A,B,e1,e2,e3,e4⟩:=E0 ho (x:=x) h2;refine⟨y::A,B,by rw[e1];rfl,?_,fun a ha=>?_,e4⟩
   ·rw[zhp,nc hxy,e2];rfl
   ·rcases ma.1 ha with rfl | ha
    ·exact hxy
    ·exact e3 a ha
def D6(k:α->β)(c:β->β->Int)(l:List α):List α:=l.foldl (fun S x=>zhp k c x S) []
omit [DecidableEq α] [DecidableEq β] in
theorem zga:Srt k c []:=List.Pairwise.nil
omit [DecidableEq α] in
theorem zbn(ho:Ord3 c){l S:List α}{x:α}(h:Stb k c l S):Stb k c (l++[x]) (zhp k c x S):=by
 obtain⟨A,B,e1,e2,e3,e4⟩:=E0 ho (x:=x) h.1;have h1:=h.1;rw[e1] at h1;have h2:=Nb ho h1 e3 e4;rw[e2];rw[<-e1] at h2;exact⟨h2.1,(h.2.app (Eqv.refl [x])).trans h2.2⟩
omit [DecidableEq α] in
theorem uw(ho:Ord3 c)(l:List α):Stb k c l (D6 k c l):=by
 suffices ∀ (r l S:List α),Stb k c l S->Stb k c (l++r) (r.foldl (fun S x=>zhp k c x S) S) by
  have:=this l [] [] ⟨zga,Eqv.refl _⟩;exact this
 intro r
 induction r with
 | nil=>intro l S h;rw[mq];exact h
 | cons x r ih=>
  intro l S h;have:=ih (l++[x]) (zhp k c x S) (zbn ho h);rw[mw] at this;exact this
theorem Ef(ho:Ord3 c){l S:List α}(h:Stb k c l S):S=D6 k c l:=zbm ho (uw ho l) h
theorem Pq(ho:Ord3 c)(l:List α):(D6 k c l).length=l.length:=(uw (k:=k) ho l).2.length
omit [DecidableEq α] [DecidableEq β] in
theorem zbq:D6 k c []=[]:=rfl
theorem zbp(ho:Ord3 c){l:List α}(h:Srt k c l):D6 k c l=l:=(Ef ho ⟨h,Eqv.refl l⟩).symm
theorem zbr(ho:Ord3 c)(X Y:List α):D6 k c (D6 k c X++D6 k c Y)=D6 k c (X++Y):=
 Ef ho ⟨(uw ho _).1,(((uw ho X).2.app (uw ho Y).2)).trans (uw ho _).2⟩
theorem zho(ho:Ord3 c){X A B:List α}{x:α}(h:A++B=D6 k c X)(hb:∀ b∈B,c (k x) (k b)<0)(ha:∀ y,A.getLast?=some y->¬ c (k x) (k y)<0):A++x::B=D6 k c (X++[x]):=by
 have hs:=(uw (k:=k) ho X).1;rw[<-h] at hs
 have hA:∀ a∈A,¬ c (k x) (k a)<0:=fun a ham=>by
  rcases zss A with e | ⟨A',y,rfl⟩
  ·subst e;cases ham
  ·have h1:=ha y (by simp);simp only[zsf,mn,m7] at ham;rcases ham with ham | rfl
   ·have h2:=(dk.1 hs).1;simp only[zsf] at h2;have h3:=(dk.1 h2).2.2 a ham y (by simp);have e1:=ho.anti (k y) (k a);intro h4;refine h1 ?_;by_cases h5:c (k a) (k y)<0
    ·exact ho.tr h4 h5
    ·rw[<-ho.eq (k a) (k y) T];exact h4
   ·exact h1
 have h1:=Nb ho hs hA hb;rw[h] at h1;exact Ef ho ⟨h1.1,((uw (k:=k) ho X).2.app (Eqv.refl [x])).trans h1.2⟩
def chS(k:α->β)(c:β->β->Int)(n:Nat):Nat->List α->List α
 | 0,_=>[]
 | f+1,l=>if l=[] then [] else D6 k c (l.take n)++chS k c n f (l.drop n)
omit [DecidableEq α] [DecidableEq β] in
theorem ii(n f:Nat):chS k c n f []=[]:=by cases f<;>simp [chS]
omit [DecidableEq α] [DecidableEq β] in
theorem Q7{n:Nat}(hn:0<n):∀ {f g:Nat} {l:List α},l.length<=f->l.length<=g->chS k c n f l=chS k c n g l
 | 0,g,l,hf,_=>by obtain rfl:l=[]:=zow T;rw[ii,ii]
 | f+1,0,l,_,hg=>by obtain rfl:l=[]:=zow T;rw[ii,ii]
 | f+1,g+1,l,hf,hg=>by
  by_cases h:l=[]
  ·subst h;rw[ii,ii]
  ·rw[chS,chS,nc h,nc h];have:0<l.length:=zsi.2 h;rw[Q7 hn (f:=f) (g:=g) (by rw[m8];omega) (by rw[m8];omega)]
def chL(k:α->β)(c:β->β->Int)(n:Nat)(l:List α):List α:=chS k c n l.length l
omit [DecidableEq α] [DecidableEq β] in
theorem Hg(hn:0<n)(l:List α):chL k c n l=D6 k c (l.take n)++chL k c n (l.drop n):=by
 unfold chL;by_cases h:l=[]
 ·subst h;simp [ii,zbq]
 ·have:0<l.length:=zsi.2 h;obtain⟨m,hm⟩:∃ m,l.length=m+1:=⟨l.length-1,by omega⟩
  rw[hm,chS,nc h,Q7 hn (f:=m) (g:=(l.drop n).length) (by rw[m8];omega) (nu _)]
omit [DecidableEq α] [DecidableEq β] in
theorem Ou(n:Nat):chL k c n []=[]:=ii _ _
omit [DecidableEq α] [DecidableEq β] in
theorem zh3(hn:0<n){l:List α}(h:l.length<=n):chL k c n l=D6 k c l:=by
 rw[Hg hn,zo6 h,zo4 h,Ou,mq]
theorem Y6(ho:Ord3 c){n:Nat}(hn:0<n):∀ (m:Nat) {l:List α},l.length<=m->(chL k c n l).length=l.length
 | 0,l,h=>by obtain rfl:l=[]:=zow T;rw[Ou]
 | m+1,l,h=>by
  by_cases h0:l=[]
  ·subst h0;rw[Ou]
  ·have:0<l.length:=zsi.2 h0;rw[Hg hn,nr,Pq ho,Y6 ho hn m (by rw[m8];omega),<-nr,zo0]
end
end Go.V
namespace Go.V.L8
open Go.V Go.V.L2 Go.V.L3 Go.V.L6
def Do(l:List CH):(l.flatMap ccs).length=l.length*7:=o5 Y8 l
def Qz(l:List CH):(l.flatMap ccs).all gj=true:=by
 induction l with
 | nil=>rfl
 | cons x l ih=>rw[zpm,zr7,ih];rfl
abbrev ch7(c:CH):List Value:=[.string c.1.1.1.1,.string c.1.1.1.2,.string c.1.1.2,.string c.1.2.1.1,.string c.1.2.1.2,.string c.1.2.2,.bool c.2]
def wx{l:List CH}{t:CH}(h:l[i]?=some t)(off:Nat)(ho:off=i*7):∃ r,(l.flatMap ccs++rest).drop off=ch7 t++r:=by
 subst ho;have h1:((l.flatMap ccs).drop (i*7)).take 7=ch7 t:=Gx h;have h2:=get_lt h;refine⟨((l.flatMap ccs).drop (i*7)).drop 7++rest,?_⟩;rw[List.drop_append_of_le_length (by rw[Do];exact zqz _ T),<-mw];congr 1;rw[<-h1,zo0]
def p7{ls:List CH}{z:CH}(h:k<ls.length)(off:Nat)(ho:off=k*7):(ls.flatMap ccs++rest).take off++(ch7 z++(ls.flatMap ccs++rest).drop (off+7))=(ls.set k z).flatMap ccs++rest:=by
 subst ho;have e1:ls=ls.take k++(ls[k]::ls.drop (k+1)):=by rw[List.getElem_cons_drop,zo0]
 have hk:(ls.take k).length=k:=by rw[mi];omega
 have e2:ls.set k z=ls.take k++(z::ls.drop (k+1)):=by
  conv=>lhs;rw[e1]
  rw[List.set_append_right _ _ T,hk,zqc];rfl
 rw[e2];generalize ls.take k=A at e1 hk;generalize ls.drop (k+1)=D at e1;generalize ls[k]=y at e1;subst e1;have hA:(A.flatMap ccs).length=k*7:=by rw[Do,hk]
 simp only[zpo,zpm,mw];rw[List.take_left' hA,show k*7+7=(A.flatMap ccs).length+7 by omega,<-zp6,zr6,show(ccs y++(D.flatMap ccs++rest)).drop 7=D.flatMap ccs++rest from List.drop_left' rfl];rfl
def p8{ls:List CH}(h:k<ls.length)(off:Nat)(ho:off=k*7):Nat.ble (off+7) (ls.flatMap ccs++rest).length=true:=zru (by rw[nr,Do];omega)
section
variable  {A zs1 D:List α} {x y:α}
def A8(h:A.length=i):(A++x::(zs1++y::D))[i]?=some x:=by subst h;simp
def A7(h:A.length+1+zs1.length=j):(A++x::(zs1++y::D))[j]?=some y:=by
 subst h;have e:A++x::(zs1++y::D)=(A++x::zs1)++y::D:=by simp
 rw[e,zrx (by simp;omega)];simp;rw[show A.length+1+zs1.length-(A.length+(zs1.length+1))=0 by omega];rfl
def M2(hi:A.length=i)(hj:A.length+1+zs1.length=j):((A++x::(zs1++y::D)).set i y).set j x=A++y::(zs1++x::D):=by
 subst hi hj;have e:(A++x::(zs1++y::D)).set A.length y=(A++y::zs1)++y::D:=by simp
 rw[e,List.set_append_right _ _ (by simp;omega)];simp;rw[show A.length+1+zs1.length-(A.length+(zs1.length+1))=0 by omega];rfl
def Pm(hi:A.length=i)(hj:A.length+1+zs1.length=j):((A++x::(zs1++y::D)).set j x).set i y=A++y::(zs1++x::D):=by
 rw[List.set_comm _ _ T];exact M2 hi hj
end
attribute [local irreducible] V N X VO Par StepOK Has Ret RetL RetO RetT Src
def M9{X zs3 Y R:List CH}(ha:P.length=a)(he:a+X.length+zs3.length=e)(hx:X.length=n)(hy:Y.length=n)(hm:(P++(X++(zs3++(Y++R)))).length=m)(hm1:m<=100000)(fv:Value)(hB:zs4 B w)
  (hr:(xc b ((P++(X++(zs3++(Y++R)))).flatMap ccs++rest) tyC).P B w C) (hC:ZCB C w B):
  kz zs5 296 [.slice (some ⟨b,0,none⟩) m cap,.int .i64 a,.int .i64 e,.int .i64 n,fv] w B C (xc b ((P++(Y++(zs3++(X++R)))).flatMap ccs++rest) tyC):=by
 unfold kz;refine xf 900 (xc b ((P++(X++(zs3++(Y++R)))).flatMap ccs++rest) tyC) Tryz.func296 Z Tryz.ntmps296 (np Z) hB hr hC ?_;rw[xd];simp only[nr] at hm;refine(ZQ∘ZaX) ?_;refine xp (fun i:Nat=>[(0,.is (.slice (some ⟨b,0,none⟩) m cap)),(1,.is (.int .i64 a)),(2,.is (.int .i64 e)),(3,.is (.int .i64 n)),(10,.is (.int .i64 i)),(900,.own (xu b ((P++(Y.take i++(X.drop i++(zs3++(X.take i++(Y.drop i++R)))))).flatMap ccs++rest) tyC))]) (fun i=>i<=n) (fun i=>n-i) 0 (mb _) ⟨Z,Z,Z,Z,Z,by simp only[zpt,zpy,mj];rfl,nm⟩ ?_;rintro i hi;by_cases hlt:i<n
 ·obtain⟨x,hxi⟩:=xm (l:=X) (show i<X.length by omega);obtain⟨y,hyi⟩:=xm (l:=Y) (show i<Y.length by omega)
  have e0:P++(Y.take i++(X.drop i++(zs3++(X.take i++(Y.drop i++R)))))=(P++Y.take i)++x::((X.drop (i+1)++(zs3++X.take i))++y::(Y.drop (i+1)++R)):=by
   rw[ax hxi,ax hyi];simp
  have e1:P++(Y.take (i+1)++(X.drop (i+1)++(zs3++(X.take (i+1)++(Y.drop (i+1)++R)))))=(P++Y.take i)++y::((X.drop (i+1)++(zs3++X.take i))++x::(Y.drop (i+1)++R)):=by
   rw[zpa,zpa,hxi,hyi];simp
  have l1:(P++Y.take i).length=a+i:=by rw[nr,mi];omega
  have l2:(P++Y.take i).length+1+(X.drop (i+1)++(zs3++X.take i)).length=e+i:=by rw[l1,nr,nr,m8,mi];omega
  have g1:=A8 (x:=x) (y:=y) (zs1:=X.drop (i+1)++(zs3++X.take i)) (D:=Y.drop (i+1)++R) l1;have g2:=A7 (x:=x) (y:=y) (D:=Y.drop (i+1)++R) l2;have g3:=M2 (x:=x) (y:=y) (D:=Y.drop (i+1)++R) l1 l2;rw[e0];have hlen:((P++Y.take i)++x::((X.drop (i+1)++(zs3++X.take i))++y::(Y.drop (i+1)++R))).length=m:=by rw[<-e0];simp only[nr,mi,m8];omega
  generalize (P++Y.take i)++x::((X.drop (i+1)++(zs3++X.take i))++y::(Y.drop (i+1)++R))=K at *;have h1:=get_lt g1;have h2:=get_lt g2;have q1:=wx (rest:=rest) g1 (0+(a+i)*7) T;have q2:=wx (rest:=rest) g2 (0+(e+i)*7) T;have s1:=p7 (rest:=rest) (z:=y) h1 (0+(a+i)*7) T;have b1:=p8 (rest:=rest) h1 (0+(a+i)*7) T;have h3:e+i<(K.set (a+i) y).length:=by rw[zq1];exact h2
  have s2:=p7 (rest:=rest) (z:=x) h3 (0+(e+i)*7) T;have b2:=p8 (rest:=rest) h3 (0+(e+i)*7) T;rw[g3,<-e1] at s2;have a1:IntKind.i64.wrap ((a:Int)+(i:Int))=((a+i:Nat):Int):=xb T T;have a2:IntKind.i64.wrap ((e:Int)+(i:Int))=((e+i:Nat):Int):=xb T T;refine(Zf∘Zan∘Zb∘ZbB∘Zao∘Zar) ?_;refine qn (id:=3) [(200029,[900]),(200035,[900]),(100036,[900]),(100037,[900])] ko J ((ZcT∘ZcT∘Zch) ?_);refine qv (ky L (q:=900) (vs:=[_,_,_,_,_,_,_]) Z Z Z Z q2) Z Z (Zch (h:=?_));refine qv (ky L (q:=900) (vs:=[_,_,_,_,_,_,_]) Z Z Z Z q1) Z Z (Zq (h:=?_));refine xq (yl L (q:=900) Z Z b1 Z s1) Z (Zq (h:=?_));refine xq (yl L (q:=900) Z Z b2 Z s2) Z ((ZcB∘Zz∘ZaT) ?_);exact yo (x:=i) (i+1) T T ⟨Z,Z,Z,Z,Z,Z,nm⟩
 ·obtain rfl:i=n:=by omega
  have t1:X.take i=X:=zo6 T;have t2:Y.take i=Y:=zo6 T;have t3:X.drop i=[]:=zo4 T;have t4:Y.drop i=[]:=zo4 T;rw[t1,t2,t3,t4];simp only[mj];refine(Zf∘Zan∘Zb∘Z0∘ZaJ∘ZaH) ?_;exact xw L 900 (r:=xc b _ tyC) Z (fun _ _ h=>h) nq Z Z
end Go.V.L8
namespace Go.V.L8
open Go.V.L2 Go.V.L3 Go.V.L6
def _root_.ZfU(t:Wr Y->A:=by intro h;refine qn (id:=4) [(200026,[900]),(200031,[900])] ko J ?_;exact h.1)(h:Y):A:=t ⟨h⟩
def stC(l:List CH):List CH:=D6 (fun c=>c.1) kw l
def bw(l:List CH):(stC l).length=l.length:=Pq cmpT_ord l
attribute [local irreducible] V N X VO Par StepOK Has Ret RetL RetO RetT kz Src
def zgk{X Y R:List CH}(ha:P.length=a)(hmm:a+X.length=mm)(he:mm+Y.length=e)(hx:0<X.length)(hy:0<Y.length)(hm:(P++(X++(Y++R))).length=m)(hm1:m<=100000)(fv:Value)(hB:zs4 B w)
  (hr:(xc b ((P++(X++(Y++R))).flatMap ccs++rest) tyC).P B w C) (hC:ZCB C w B):
  kz zs5 295 [.slice (some ⟨b,0,none⟩) m cap,.int .i64 a,.int .i64 mm,.int .i64 e,fv] w B C (xc b ((P++(Y++(X++R))).flatMap ccs++rest) tyC):=by
 unfold kz;refine xf 900 (xc b ((P++(X++(Y++R))).flatMap ccs++rest) tyC) Tryz.func295 Z Tryz.ntmps295 (np Z) hB hr hC ?_;rw[xd];simp only[nr] at hm;have s1:IntKind.i64.wrap ((mm:Int)-(a:Int))=(X.length:Int):=xb T T |>.trans T;have s2:IntKind.i64.wrap ((e:Int)-(mm:Int))=(Y.length:Int):=xb T T |>.trans T;refine(ZQ∘ZaQ∘ZaW∘ZaQ∘Zd∘Zar) ?_
 refine xp (fun s:(List CH×List CH)×(List CH×List CH)=>[(0,.is (.slice (some ⟨b,0,none⟩) m cap)),(2,.is (.int .i64 mm)),(4,.is fv),(10,.is (.int .i64 s.1.2.length)),(11,.is (.int .i64 s.2.1.length)),(900,.own (xu b ((P++(s.1.1++(s.1.2++(s.2.1++(s.2.2++R))))).flatMap ccs++rest) tyC))])
  (fun s=>a+s.1.1.length+s.1.2.length=mm/\mm+s.2.1.length+s.2.2.length=e/\0<s.1.2.length/\0<s.2.1.length/\s.1.1++(s.2.1++(s.1.2++s.2.2))=Y++X) (fun s=>s.1.2.length+s.2.1.length) (([],X),(Y,[])) ⟨hmm,he,hx,hy,by simp⟩ ⟨rfl,rfl,rfl,rfl,rfl,rfl,nm⟩ ?_
 rintro⟨⟨D1,X1⟩,⟨Y1,D2⟩⟩ ⟨h1,h2,h3,h4,h5⟩;dsimp only at h1 h2 h3 h4 h5 |-;have hs1:IntKind.i64.wrap ((mm:Int)-(X1.length:Int))=((mm-X1.length:Nat):Int):=xb T T |>.trans T;by_cases heq:X1.length=Y1.length
 ·have e0:P++(D1++(X1++(Y1++(D2++R))))=(P++D1)++(X1++([]++(Y1++(D2++R)))):=by simp
  have e1:(P++D1)++(Y1++([]++(X1++(D2++R))))=P++(Y++(X++R)):=by
   have:Y++(X++R)=D1++(Y1++(X1++D2))++R:=by rw[h5];simp
   rw[this];simp
  have hlen:((P++D1)++(X1++([]++(Y1++(D2++R))))).length=m:=by simp only[nr,m6];omega
  rw[e0];refine(Zf∘Za9∘Zbf∘ZaJ∘ZaH∘Zbr∘Zu∘Z8∘Zax∘Z8) ?_;refine qg (xe L 900 (xc b (((P++D1)++(Y1++([]++(X1++(D2++R))))).flatMap ccs++rest) tyC) (r:=xc b (((P++D1)++(X1++([]++(Y1++(D2++R))))).flatMap ccs++rest) tyC) Z Z Z Z Z (fun u H C hH _ hr hC=>(by have h:=M9 (cap:=cap) (a:=mm-X1.length) (e:=mm) (n:=X1.length) (by rw[nr];omega) (by simp only[m6];omega) Z heq.symm hlen hm1 fv hH hr hC;exact h))) ?_;refine Zab (h:=?_);rw[e1];exact xw L 900 (r:=xc b _ tyC) Z (fun _ _ h=>h) nq Z Z
 ·by_cases hgt:Y1.length<X1.length
  ·have hs2:IntKind.i64.wrap ((X1.length:Int)-(Y1.length:Int))=((X1.drop Y1.length).length:Int):=xb T T |>.trans (by rw[m8];omega);have lt:(X1.take Y1.length).length=Y1.length:=by rw[mi];omega
   have e0:P++(D1++(X1++(Y1++(D2++R))))=(P++D1)++(X1.take Y1.length++(X1.drop Y1.length++(Y1++(D2++R)))):=by
    conv=>lhs;rw[<-zo0 Y1.length X1]
    simp only[mw]
   have e1:(P++D1)++(Y1++(X1.drop Y1.length++(X1.take Y1.length++(D2++R))))=P++((D1++Y1)++(X1.drop Y1.length++(X1.take Y1.length++(D2++R)))):=by simp
   have hlen:((P++D1)++(X1.take Y1.length++(X1.drop Y1.length++(Y1++(D2++R))))).length=m:=by rw[<-e0];simp only[nr];omega
   have hld:(X1.drop Y1.length).length=X1.length-Y1.length:=m8;rw[e0];refine(Zf∘Za9∘Zde∘Zcb∘ZcE∘ZP∘Zn∘Zt∘Z8∘Zax∘Z8) ?_;refine qg (xe L 900 (xc b (((P++D1)++(Y1++(X1.drop Y1.length++(X1.take Y1.length++(D2++R))))).flatMap ccs++rest) tyC) (r:=xc b (((P++D1)++(X1.take Y1.length++(X1.drop Y1.length++(Y1++(D2++R))))).flatMap ccs++rest) tyC) Z Z Z Z Z (fun u H C hH _ hr hC=>(by have h:=M9 (cap:=cap) (a:=mm-X1.length) (e:=mm) (n:=Y1.length) (by rw[nr];omega) T lt Z hlen hm1 fv hH hr hC;exact h))) ?_;refine(Zw∘Z1∘ZaQ∘Zag) ?_;rw[e1]
   exact yo (x:=((D1,X1),(Y1,D2))) ((D1++Y1,X1.drop Y1.length),(X1.take Y1.length,D2)) ⟨by dsimp only;rw[List.length_append];omega,by dsimp only;omega,by dsimp only;omega,by dsimp only;omega,by
    dsimp only;rw[<-h5]
    conv=>rhs;rw[<-zo0 Y1.length X1]
    simp only[List.append_assoc]⟩ G ⟨rfl,rfl,rfl,rfl,by dsimp only;rw[lt];rfl,rfl,trivial⟩
  ·have hs2:IntKind.i64.wrap ((Y1.length:Int)-(X1.length:Int))=((Y1.take (Y1.length-X1.length)).length:Int):=xb T T |>.trans (by rw[mi];omega);have hs3:IntKind.i64.wrap ((mm:Int)+(Y1.length:Int))=((mm+Y1.length:Nat):Int):=xb T T;have hs4:IntKind.i64.wrap (((mm+Y1.length:Nat):Int)-(X1.length:Int))=((mm+Y1.length-X1.length:Nat):Int):=xb T T |>.trans T;have lt:(Y1.take (Y1.length-X1.length)).length=Y1.length-X1.length:=by rw[mi];omega
   have ld:(Y1.drop (Y1.length-X1.length)).length=X1.length:=by rw[m8];omega
   have e0:P++(D1++(X1++(Y1++(D2++R))))=(P++D1)++(X1++(Y1.take (Y1.length-X1.length)++(Y1.drop (Y1.length-X1.length)++(D2++R)))):=by
    conv=>lhs;rw[<-zo0 (Y1.length-X1.length) Y1]
    simp only[mw]
   have e1:(P++D1)++(Y1.drop (Y1.length-X1.length)++(Y1.take (Y1.length-X1.length)++(X1++(D2++R))))=P++(D1++(Y1.drop (Y1.length-X1.length)++(Y1.take (Y1.length-X1.length)++((X1++D2)++R)))):=by simp
   have hlen:((P++D1)++(X1++(Y1.take (Y1.length-X1.length)++(Y1.drop (Y1.length-X1.length)++(D2++R))))).length=m:=by rw[<-e0];simp only[nr];omega
   rw[e0];refine(Zf∘Za9∘Zde∘Zcb∘ZcE∘ZM∘Zdo∘ZO∘Z8∘Zax∘Zb∘ZC∘Za∘Zax∘Zb) ?_;refine qg (xe L 900 (xc b (((P++D1)++(Y1.drop (Y1.length-X1.length)++(Y1.take (Y1.length-X1.length)++(X1++(D2++R))))).flatMap ccs++rest) tyC) (r:=xc b (((P++D1)++(X1++(Y1.take (Y1.length-X1.length)++(Y1.drop (Y1.length-X1.length)++(D2++R))))).flatMap ccs++rest) tyC) Z Z Z Z Z (fun u H C hH _ hr hC=>(by have h:=M9 (cap:=cap) (a:=mm-X1.length) (e:=mm+Y1.length-X1.length) (n:=X1.length) (by rw[nr];omega) T Z ld hlen hm1 fv hH hr hC;exact h))) ?_;refine(Zw∘Zy∘ZaQ∘Zag) ?_;rw[e1]
   exact yo (x:=((D1,X1),(Y1,D2))) ((D1,Y1.drop (Y1.length-X1.length)),(Y1.take (Y1.length-X1.length),X1++D2)) ⟨by dsimp only;omega,by dsimp only;rw[List.length_append];omega,by dsimp only;omega,by dsimp only;omega,by
    dsimp only;rw[<-h5]
    conv=>rhs;rw[<-zo0 (Y1.length-X1.length) Y1]
    simp only[List.append_assoc]⟩ G ⟨rfl,rfl,rfl,by dsimp only;rw[ld];rfl,rfl,rfl,trivial⟩
abbrev ORD:Nat:=253
abbrev Cw:Value:=.func (.func ORD) #[] #[]
def f8{x y:CH}(hB:zs4 B w):Ret zs5 ORD ([chv x.1 x.2,chv y.1 y.2]++[]) w B (fun r _=>r=.int .i64 (kw x.1 y.1)):=by
 refine yr Tryz.func253 Z Tryz.ntmps253 (np Z) hB ((Zal∘ZaW∘ZbN∘ZbN) ?_);refine z71 L Z (fun u H hH _=>j8 (a:=x.1) (b:=y.1) hH) ?_;refine Zc (h:=?_);exact yj2 L [.tmp 4]
def ins_ret{P X R:List CH}{b m cap a e:Nat}(ha:P.length=a)(he:a+X.length=e)(hm:(P++(X++R)).length=m)(hm1:m<=100000)(hB:zs4 B w)
  (hr:(xc b ((P++(X++R)).flatMap ccs++rest) tyC).P B w C) (hC:ZCB C w B):
  kz zs5 291 [.slice (some ⟨b,0,none⟩) m cap,.int .i64 a,.int .i64 e,Cw] w B C (xc b ((P++(stC X++R)).flatMap ccs++rest) tyC):=by
 unfold kz;refine xf 900 (xc b ((P++(X++R)).flatMap ccs++rest) tyC) Tryz.func291 Z Tryz.ntmps291 (np Z) hB hr hC ?_;rw[xd];simp only[nr] at hm;have hst1:stC (X.take 1)=X.take 1:=by rcases X with _ | ⟨x,X⟩<;>rfl
 refine(ZQ∘Za∘Zay∘ZaX) ?_;refine xp (fun s:Nat=>[(0,.is (.slice (some ⟨b,0,none⟩) m cap)),(1,.is (.int .i64 a)),(2,.is (.int .i64 e)),(3,.is Cw),(8,.is (.int .i64 (a+s:Nat))),(900,.own (xu b ((P++(stC (X.take s)++(X.drop s++R))).flatMap ccs++rest) tyC))]) (fun s=>1<=s/\s<=max X.length 1) (fun s=>X.length-s) 1 ⟨nu _,by omega⟩ ⟨Z,Z,Z,Z,Z,by rw[hst1,<-mw (X.take 1),zo0];rfl,nm⟩ ?_;rintro s ⟨hs1,hs2⟩;by_cases hlt:s<X.length
 ·obtain⟨x,hx⟩:=xm hlt;have hsl:(stC (X.take s)).length=s:=by rw[bw,mi];omega
  refine(Zf∘Zan∘Zb∘ZbJ∘Zr∘ZaX) ?_
  refine xp (fun t:List CH×List CH=>[(0,.is (.slice (some ⟨b,0,none⟩) m cap)),(1,.is (.int .i64 a)),(2,.is (.int .i64 e)),(3,.is Cw),(8,.is (.int .i64 (a+s:Nat))),(9,.is (.int .i64 (a+t.1.length:Nat))),(900,.own (xu b ((P++(t.1++(x::(t.2++(X.drop (s+1)++R))))).flatMap ccs++rest) tyC))])
   (fun t=>t.1++t.2=stC (X.take s)/\∀ z∈t.2,kw x.1 z.1<0) (fun t=>t.1.length) (stC (X.take s),[]) ⟨List.append_nil _,fun z hz=>(by cases hz)⟩ ⟨rfl,rfl,rfl,rfl,rfl,by dsimp only;rw[hsl];rfl,by dsimp only;rw[ax hx];rfl,trivial⟩ ?_
  rintro⟨A,D⟩ ⟨hAD,hD⟩;dsimp only at hAD hD |-;have hAl:A.length+D.length=s:=by rw[<-nr,hAD,hsl]
  have hfin:(∀ y,A.getLast?=some y->¬ kw x.1 y.1<0)->P++(A++(x::(D++(X.drop (s+1)++R))))=P++(stC (X.take (s+1))++(X.drop (s+1)++R)):=fun h=>by
   have:=zho (k:=fun c:CH=>c.1) cmpT_ord (x:=x) hAD hD h;rw[zpa,hx];unfold stC;show _=P++(D6 (fun c:CH=>c.1) kw (X.take s++[x])++_);rw[<-this];simp
  rcases zss A with hA | ⟨A',y,hA⟩
  ·subst hA;rw[hfin (fun y hy=>by simp at hy),m6,Nat.add_zero];refine(Zf∘ZfU∘Zp∘ZdJ∘ZbM∘ZeQ∘Zam∘ZaH∘Zb8∘Zz∘ZaT) ?_;exact yo (x:=s) (s+1) ⟨by omega,by omega⟩ T ⟨Z,Z,Z,Z,Z,Z,nm⟩
  ·rw[zsf] at hA;subst hA;have hl9:(A'++[y]).length=A'.length+1:=by rw[nr,zp3]
   rw[hl9] at hAl;have e0:P++((A'++[y])++(x::(D++(X.drop (s+1)++R))))=(P++A')++y::([]++x::(D++(X.drop (s+1)++R))):=by simp
   have l1:(P++A').length=a+A'.length:=by rw[nr,ha]
   have l2:(P++A').length+1+([]:List CH).length=a+(A'++[y]).length:=by rw[l1,hl9];rfl
   have g1:=A8 (x:=y) (y:=x) (zs1:=[]) (D:=D++(X.drop (s+1)++R)) l1;have g2:=A7 (x:=y) (y:=x) (D:=D++(X.drop (s+1)++R)) l2;have g3:=Pm (x:=y) (y:=x) (D:=D++(X.drop (s+1)++R)) l1 l2;have e1:(P++A')++x::([]++y::(D++(X.drop (s+1)++R)))=P++(A'++(x::((y::D)++(X.drop (s+1)++R)))):=by simp
   have hlen:((P++A')++y::([]++x::(D++(X.drop (s+1)++R)))).length=m:=by rw[<-e0];simp only[nr,nz,m6,m8];omega
   have hw1:IntKind.i64.wrap (((a+(A'++[y]).length:Nat):Int)-1)=((a+A'.length:Nat):Int):=xb T T |>.trans T;by_cases hc:kw x.1 y.1<0
   ·rw[e0];rw[e1] at g3;generalize (P++A')++y::([]++x::(D++(X.drop (s+1)++R)))=K at *;have h1:=get_lt g1;have h2:=get_lt g2;have q1:=wx (rest:=rest) g1 (0+(a+A'.length)*7) T;have q2:=wx (rest:=rest) g2 (0+(a+(A'++[y]).length)*7) T;have s1:=p7 (rest:=rest) (z:=y) h2 (0+(a+(A'++[y]).length)*7) T;have b1:=p8 (rest:=rest) h2 (0+(a+(A'++[y]).length)*7) T;have h3:a+A'.length<(K.set (a+(A'++[y]).length) y).length:=by rw[zq1];exact h1
    have s2:=p7 (rest:=rest) (z:=x) h3 (0+(a+A'.length)*7) T;have b2:=p8 (rest:=rest) h3 (0+(a+A'.length)*7) T;rw[g3] at s2;refine(Zf∘ZfU∘Zp∘Zd4∘Zp∘ZX) ?_;refine qv (ky L (q:=900) (vs:=[_,_,_,_,_,_,_]) Z Z Z Z q2) Z Z ((ZbQ∘Zq) ?_);refine qv (ky L (q:=900) (vs:=[_,_,_,_,_,_,_]) Z Z Z Z q1) Z Z (z81 L Z (fun u H hH _=>f8 hH) ?_);refine(ZcD∘ZbC∘Zao∘Zar) ?_;refine qn (id:=6) [(200046,[900]),(200050,[900]),(100051,[900]),(100052,[900])] ko J ((Zp∘ZbQ∘ZbQ∘Zq) ?_);refine qv (ky L (q:=900) (vs:=[_,_,_,_,_,_,_]) Z Z Z Z q1) Z Z (ZX (h:=?_));refine qv (ky L (q:=900) (vs:=[_,_,_,_,_,_,_]) Z Z Z Z q2) Z Z (Zq (h:=?_));refine xq (yl L (q:=900) Z Z b1 Z s1) Z (Zq (h:=?_));refine xq (yl L (q:=900) Z Z b2 Z s2) Z ((ZcB∘ZS∘Zax∘Zby) ?_)
    exact yo (x:=(A'++[y],D)) (A',y::D) ⟨by rw[<-hAD];simp,fun z hz=>by
     rcases ma.1 hz with rfl | hz
     ·exact hc
     ·exact hD z hz⟩ G ⟨Z,Z,Z,Z,Z,Z,Z,nm⟩
   ·have hf:=hfin (fun z hz=>by rw[List.getLast?_append] at hz;simp at hz;subst hz;exact hc);rw[e0];rw[e0] at hf;have q1:=wx (rest:=rest) g1 (0+(a+A'.length)*7) T;have q2:=wx (rest:=rest) g2 (0+(a+(A'++[y]).length)*7) T;rw[hf] at q1 q2 |-;refine(Zf∘ZfU∘Zp∘Zd4∘Zp∘ZX) ?_;refine qv (ky L (q:=900) (vs:=[_,_,_,_,_,_,_]) Z Z Z Z q2) Z Z ((ZbQ∘Zq) ?_);refine qv (ky L (q:=900) (vs:=[_,_,_,_,_,_,_]) Z Z Z Z q1) Z Z (z81 L Z (fun u H hH _=>f8 hH) ?_);refine(Zdg∘Zam∘ZaH∘Zb8∘Zz∘ZaT) ?_;exact yo (x:=s) (s+1) ⟨by omega,by omega⟩ T ⟨Z,Z,Z,Z,Z,Z,nm⟩
 ·have hX:P++(stC (X.take s)++(X.drop s++R))=P++(stC X++R):=by
   rw[zo6 T,zo4 T,mj]
  rw[hX];refine(Zf∘Zan∘Zb∘Z0∘ZaJ∘ZaH) ?_;exact xw L 900 (r:=xc b _ tyC) Z (fun _ _ h=>h) nq Z Z
end Go.V.L8
namespace Go.V
section
variable {β:Type} [DecidableEq α] [DecidableEq β] {k:α->β} {c:β->β->Int}
omit [DecidableEq β] in
theorem S8(ho:Ord3 c){z y x:β}(h1:¬ c y z<0)(h2:c y x<0):c z x<0:=by
 by_cases h3:c z y<0
 ·exact ho.tr h3 h2
 ·have:=ho.anti y z;rw[ho.eq z y T];exact h2
omit [DecidableEq β] in
theorem S5(ho:Ord3 c){x y z:β}(h1:c y x<0)(h2:¬ c z x<0):c y z<0:=by
 by_cases h3:c x z<0
 ·exact ho.tr h1 h3
 ·have:=ho.anti x z;rw[ho.eq z x T];exact h1
structure SymI(k:α->β)(c:β->β->Int)(X Y:List α)(a mid lo hi s r:Nat):Prop where
 ls:lo<=s
 sr:s<=r
 rh:r<=hi
 bef:∀ i x y,lo<=i->i<s->X[i-a]?=some x->Y[mid-1-i]?=some y->¬ c (k y) (k x)<0
 aft:∀ i x y,r<=i->i<hi->X[i-a]?=some x->Y[mid-1-i]?=some y->c (k y) (k x)<0
structure zly(X Y:List α)(a mm e mid lo hi:Nat):Prop where
 lx:a+X.length=mm
 ly:mm+Y.length=e
 al:a<=lo
 nl:mid+mm<=lo+e
 hm:hi<=mid
 hx:hi<=mm
 lo_:lo=a\/mid+mm=lo+e
 hi_:hi=mm\/hi=mid
omit [DecidableEq α] [DecidableEq β] in
theorem SymI.start{X Y:List α}(h:lo<=hi):SymI k c X Y a mid lo hi lo hi:=⟨nu _,h,nu _,fun i x y h1 h2=>by omega,fun i x y h1 h2=>by omega⟩
omit [DecidableEq α] [DecidableEq β] in
theorem SymI.up(ho:Ord3 c){X Y:List α}(hX:Srt k c X)(hY:Srt k c Y){s r:Nat}{x y:α}(hb:zly X Y a mm e mid lo hi)(h:SymI k c X Y a mid lo hi s r)(h1:s<=i)(h2:i<r)(hx:X[i-a]?=some x)(hy:Y[mid-1-i]?=some y)(hc:¬ c (k y) (k x)<0):SymI k c X Y a mid lo hi (i+1) r:=by
 obtain⟨b1,b2,b3,b4,b5,b6,_,_⟩:=hb;obtain⟨i1,i2,i3,i4,i5⟩:=h;refine⟨by omega,by omega,i3,fun j x' y' hj hji hx' hy' hlt=>hc ?_,i5⟩;have e1:=aw ho hX hx' hx T;have e2:=aw ho hY hy hy' T;exact S8 ho e2 (S5 ho hlt e1)
omit [DecidableEq α] [DecidableEq β] in
theorem SymI.down(ho:Ord3 c){X Y:List α}(hX:Srt k c X)(hY:Srt k c Y){s r:Nat}{x y:α}(hb:zly X Y a mm e mid lo hi)(h:SymI k c X Y a mid lo hi s r)(h1:s<=i)(h2:i<r)(hx:X[i-a]?=some x)(hy:Y[mid-1-i]?=some y)(hc:c (k y) (k x)<0):SymI k c X Y a mid lo hi s i:=by
 obtain⟨b1,b2,b3,b4,b5,b6,_,_⟩:=hb;obtain⟨i1,i2,i3,i4,i5⟩:=h;refine⟨by omega,by omega,by omega,i4,fun j x' y' hj hji hx' hy'=>?_⟩;have e1:=aw ho hX hx hx' T;have e2:=aw ho hY hy' hy T;exact S8 ho e2 (S5 ho hc e1)
theorem zbk(ho:Ord3 c){X Y:List α}(hX:Srt k c X)(hY:Srt k c Y){s:Nat}(hb:zly X Y a mm e mid lo hi)(h:SymI k c X Y a mid lo hi s s):
  D6 k c (X.take (s-a)++Y.take (mid-s))++D6 k c (X.drop (s-a)++Y.drop (mid-s))=D6 k c (X++Y):=by
 obtain⟨b1,b2,b3,b4,b5,b6,b7,b8⟩:=hb;obtain⟨i1,i2,i3,i4,i5⟩:=h;have hXt:X.take (s-a)++X.drop (s-a)=X:=zo0 _ _;have hYt:Y.take (mid-s)++Y.drop (mid-s)=Y:=zo0 _ _
 have h12:∀ x∈X.drop (s-a),∀ y∈Y.take (mid-s),c (k y) (k x)<0:=fun x hx y hy=>by
  obtain⟨i,hi⟩:=zpg hx;obtain⟨j,hj⟩:=zpg hy;have hjl:=get_lt hj;rw[mi] at hjl;rw[zpw] at hi;rw[zqi T] at hj;have hil:=get_lt hi;obtain⟨x0,hx0⟩:=xm (l:=X) (i:=s-a) T;obtain⟨y0,hy0⟩:=xm (l:=Y) (i:=mid-1-s) T;have h0:=i5 s x0 y0 (nu _) T hx0 hy0;exact S8 ho (aw ho hY hj hy0 T) (S5 ho h0 (aw ho hX hx0 hi T))
 have h21:∀ x∈X.take (s-a),∀ y∈Y.drop (mid-s),¬ c (k y) (k x)<0:=fun x hx y hy hlt=>by
  obtain⟨i,hi⟩:=zpg hx;obtain⟨j,hj⟩:=zpg hy;have hil:=get_lt hi;rw[mi] at hil;rw[zpw] at hj;rw[zqi T] at hi;have hjl:=get_lt hj;obtain⟨x1,hx1⟩:=xm (l:=X) (i:=s-1-a) T;obtain⟨y1,hy1⟩:=xm (l:=Y) (i:=mid-s) T;have h0:=i4 (s-1) x1 y1 T T hx1 (by rw[show mid-1-(s-1)=mid-s by omega];exact hy1);exact h0 (S8 ho (aw ho hY hy1 hj T) (S5 ho hlt (aw ho hX hi hx1 T)))
 have:=zbo ho (by rw[hXt];exact hX) (by rw[hYt];exact hY) h12 h21 (uw ho _) (uw ho _);rw[hXt,hYt] at this;exact Ef ho this
theorem zg5(ho:Ord3 c){x:α}{Y:List α}(hY:Srt k c Y)(h1:∀ j z,j<i->Y[j]?=some z->c (k z) (k x)<0)(h2:∀ j z,i<=j->Y[j]?=some z->¬ c (k z) (k x)<0):
  Y.take i++x::Y.drop i=D6 k c ([x]++Y):=by
 have hY':Srt k c (Y.take i++Y.drop i):=by rw[zo0];exact hY
 have:=zf7 ho (x:=x) hY' (fun z hz=>by
  obtain⟨j,hj⟩:=zpg hz;have hjl:=get_lt hj;rw[mi] at hjl;rw[zqi T] at hj;exact h1 j z T hj) (fun z hz=>by
  obtain⟨j,hj⟩:=zpg hz;rw[zpw] at hj;exact h2 _ z T hj)
 rw[zo0] at this;exact Ef ho this
theorem zg4(ho:Ord3 c){x:α}{X:List α}(hX:Srt k c X)(h1:∀ j z,j<i->X[j]?=some z->¬ c (k x) (k z)<0)(h2:∀ j z,i<=j->X[j]?=some z->c (k x) (k z)<0):
  X.take i++x::X.drop i=D6 k c (X++[x]):=by
 have hX':Srt k c (X.take i++X.drop i):=by rw[zo0];exact hX
 have:=Nb ho (x:=x) hX' (fun z hz=>by
  obtain⟨j,hj⟩:=zpg hz;have hjl:=get_lt hj;rw[mi] at hjl;rw[zqi T] at hj;exact h1 j z T hj) (fun z hz=>by
  obtain⟨j,hj⟩:=zpg hz;rw[zpw] at hj;exact h2 _ z T hj)
 rw[zo0] at this;exact Ef ho this
end
end Go.V
namespace Go.V.L8
open Go.V.L2 Go.V.L3 Go.V.L6
def zc7{X D:List CH}(ha:P.length=a){x:CH}(h:X[j]?=some x)(i:Nat)(hi:i=a+j):(P++(X++D))[i]?=some x:=by
 subst hi ha;have:=get_lt h;rw[zrx T,show P.length+j-P.length=j by omega,zp5 this];exact h
def zhr{X Y D:List CH}(ha:P.length=a)(hx:a+X.length=mm){y:CH}(h:Y[j]?=some y)(i:Nat)(hi:i=mm+j):(P++(X++(Y++D)))[i]?=some y:=by
 have e:P++(X++(Y++D))=(P++X)++(Y++D):=by simp
 rw[e];exact zc7 (by rw[nr];omega) h i hi
abbrev ziv(l:List CH):Prop:=Srt (fun c:CH=>c.1) kw l
def Bj(i j:Nat):((i:Int)+(j:Int)).fdiv (2^min (1:Int).toNat IntKind.u64.bits)=((i+j)/2:Nat):=by
 show((i:Int)+(j:Int)).fdiv 2=_;rw[zri _ E];omega
attribute [local irreducible] V N X VO Par StepOK Has Ret RetL RetO RetT kz Src
abbrev SYM:Nat:=292
def zf1{Y R:List CH}{x:CH}(ha:P.length=a)(hmm:a+1=mm)(he:mm+Y.length=e)(hY:ziv Y)(hm:(P++([x]++(Y++R))).length=m)(hm1:m<=100000)(hB:zs4 B w)
  (hr:(xc b ((P++([x]++(Y++R))).flatMap ccs++rest) tyC).P B w C) (hC:ZCB C w B):
  kz zs5 SYM [.slice (some ⟨b,0,none⟩) m cap,.int .i64 a,.int .i64 mm,.int .i64 e,Cw] w B C (xc b ((P++(stC ([x]++Y)++R)).flatMap ccs++rest) tyC):=by
 unfold kz;refine xf 900 (xc b ((P++([x]++(Y++R))).flatMap ccs++rest) tyC) Tryz.func292 Z Tryz.ntmps292 (np Z) hB hr hC ?_;rw[xd];have hm':=hm;simp only[nr,zp3] at hm';refine(Ze∘ZQ∘Zb∘Zdi∘ZN∘Zn∘Zbp∘ZaZ∘Zd∘Zar) ?_
 refine xp (fun s:Nat×Nat=>[(0,.is (.slice (some ⟨b,0,none⟩) m cap)),(1,.is (.int .i64 a)),(4,.is Cw),(10,.is (.int .i64 s.1)),(11,.is (.int .i64 s.2)),(900,.own (xu b ((P++([x]++(Y++R))).flatMap ccs++rest) tyC))])
  (fun s=>mm<=s.1/\s.1<=s.2/\s.2<=e/\(∀ (j:Nat) (z:CH),j<s.1-mm->Y[j]?=some z->kw z.1 x.1<0)/\∀ (j:Nat) (z:CH),s.2-mm<=j->Y[j]?=some z->¬ kw z.1 x.1<0) (fun s=>s.2-s.1) (mm,e)
  ⟨Nat.le_refl _,by dsimp only;omega,Nat.le_refl _,fun j z h=>(by dsimp only at h;omega),fun j z h hz=>(by have:=get_lt hz;dsimp only at h;omega)⟩ ⟨rfl,rfl,rfl,rfl,rfl,rfl,trivial⟩ ?_
 rintro⟨i,j⟩ ⟨h1,h2,h3,h4,h5⟩;dsimp only at h1 h2 h3 h4 h5 |-;by_cases hlt:i<j
 ·have hsh:=Bj i j;obtain⟨h,hh⟩:∃ h,(i+j)/2=h:=⟨_,rfl⟩
  rw[hh] at hsh;obtain⟨y,hy⟩:=xm (l:=Y) (show h-mm<Y.length by omega);have q1:=wx (rest:=rest) (zhr (X:=[x]) (D:=R) (mm:=mm) ha hmm hy h T) (0+h*7) T;have q2:=wx (rest:=rest) (zc7 (X:=[x]) (D:=Y++R) ha (j:=0) rfl a T) (0+a*7) T;by_cases hc:kw y.1 x.1<0
  ·refine(ZbY∘ZbB∘ZcQ∘Zt∘Zb∘Zay) ?_;refine z7 (kr Z Z Z jo.1 jo.2 (wrap_u64 T T)) Z (Zdn (h:=?_));refine z7 (kr Z Z Z jp.1 jp.2 (xb T T)) Z (Zd (h:=?_));refine qn (id:=5) [(200044,[900]),(200048,[900])] ko J ((Zbk∘Zq) ?_);refine qv (ky L (q:=900) (vs:=[_,_,_,_,_,_,_]) Z Z Z Z q1) Z Z (ZX (h:=?_));refine qv (ky L (q:=900) (vs:=[_,_,_,_,_,_,_]) Z Z Z Z q2) Z Z (z81 L Z (fun u H hH _=>f8 hH) ?_);refine(ZcD∘ZbW∘ZL∘Zay∘Zag) ?_
   exact yo (x:=(i,j)) (h+1,j) ⟨by dsimp only;omega,by dsimp only;omega,h3,fun k z hk hz=>by
    dsimp only at hk;exact S8 cmpT_ord (aw cmpT_ord hY hz hy T) hc,h5⟩ G ⟨Z,Z,Z,Z,Z,Z,nm⟩
  ·refine(ZbY∘ZbB∘ZcQ∘Zt∘Zb∘Zay) ?_;refine z7 (kr Z Z Z jo.1 jo.2 (wrap_u64 T T)) Z (Zdn (h:=?_));refine z7 (kr Z Z Z jp.1 jp.2 (xb T T)) Z (Zd (h:=?_));refine qn (id:=5) [(200044,[900]),(200048,[900])] ko J ((Zbk∘Zq) ?_);refine qv (ky L (q:=900) (vs:=[_,_,_,_,_,_,_]) Z Z Z Z q1) Z Z (ZX (h:=?_));refine qv (ky L (q:=900) (vs:=[_,_,_,_,_,_,_]) Z Z Z Z q2) Z Z (z81 L Z (fun u H hH _=>f8 hH) ?_);refine(Zdg∘ZaL∘Z7∘Zag) ?_
   exact yo (x:=(i,j)) (i,h) ⟨h1,by dsimp only;omega,by dsimp only;omega,h4,fun k z hk hz hcx=>by
    dsimp only at hk;exact hc (S8 cmpT_ord (aw cmpT_ord hY hy hz T) hcx)⟩ G ⟨Z,Z,Z,Z,Z,Z,nm⟩
 ·obtain rfl:i=j:=by omega
  have hfin:=zg5 (k:=fun c:CH=>c.1) cmpT_ord hY h4 h5;have hal:(Y.take (i-mm)).length=i-mm:=by rw[mi];omega
  have hYl:(Y.take (i-mm)).length+(Y.drop (i-mm)).length=Y.length:=by rw[<-nr,zo0]
  have e0:P++([x]++(Y++R))=P++([]++(x::(Y.take (i-mm)++(Y.drop (i-mm)++R)))):=by
   rw[<-mw (Y.take _),zo0];rfl
  rw[e0]
  have e9:P++(Y.take (i-mm)++(x::(Y.drop (i-mm)++R)))=P++(stC ([x]++Y)++R):=by
   unfold stC;rw[<-hfin];simp
  generalize Y.take (i-mm)=A at *;generalize Y.drop (i-mm)=D at *;clear hfin h4 h5 e0;refine(ZbY∘Z0∘Za5∘Ze∘ZaI∘ZaX) ?_;refine xp (fun t:Nat=>[(0,.is (.slice (some ⟨b,0,none⟩) m cap)),(10,.is (.int .i64 i)),(13,.is (.int .i64 (a+t:Nat))),(900,.own (xu b ((P++(A.take t++(x::(A.drop t++(D++R))))).flatMap ccs++rest) tyC))]) (fun t=>t<=A.length) (fun t=>A.length-t) 0 (mb _) ⟨Z,Z,Z,Z,nm⟩ ?_;rintro t ht;by_cases htl:t<A.length
  ·obtain⟨z,hz⟩:=xm htl;have e0:P++(A.take t++(x::(A.drop t++(D++R))))=(P++A.take t)++x::([]++z::(A.drop (t+1)++(D++R))):=by rw[ax hz];simp
   have e1:(P++A.take t)++z::([]++x::(A.drop (t+1)++(D++R)))=P++(A.take (t+1)++(x::(A.drop (t+1)++(D++R)))):=by rw[zpa,hz];simp
   have l1:(P++A.take t).length=a+t:=by rw[nr,mi];omega
   have l2:(P++A.take t).length+1+([]:List CH).length=a+t+1:=by rw[l1];rfl
   have g1:=A8 (x:=x) (y:=z) (zs1:=[]) (D:=A.drop (t+1)++(D++R)) l1;have g2:=A7 (x:=x) (y:=z) (D:=A.drop (t+1)++(D++R)) l2;have g3:=M2 (x:=x) (y:=z) (D:=A.drop (t+1)++(D++R)) l1 l2;rw[e0];rw[e1] at g3;generalize (P++A.take t)++x::([]++z::(A.drop (t+1)++(D++R)))=K at *;have k1:=get_lt g1;have k2:=get_lt g2
   have hKl:a+t+1<m:=by
    have:a+1+A.length+D.length<=m:=T;omega
   have q1:=wx (rest:=rest) g1 (0+(a+t)*7) T;have q2:=wx (rest:=rest) g2 (0+(a+t+1)*7) T;have s1:=p7 (rest:=rest) (z:=z) k1 (0+(a+t)*7) T;have b1:=p8 (rest:=rest) k1 (0+(a+t)*7) T;have k3:a+t+1<(K.set (a+t) z).length:=by rw[zq1];exact k2
   have s2:=p7 (rest:=rest) (z:=x) k3 (0+(a+t+1)*7) T;have b2:=p8 (rest:=rest) k3 (0+(a+t+1)*7) T;rw[g3] at s2;have a1:IntKind.i64.wrap (((a+t:Nat):Int)+1)=((a+t+1:Nat):Int):=xb T T;refine(Zf∘Z2∘Zb∘Zdi∘ZbB∘Zao∘Zar) ?_;refine qn (id:=11) [(200070,[900]),(200074,[900]),(100075,[900]),(100076,[900])] ko J ((Zp∘Zp∘Zct∘Zp∘Zct∘Zq) ?_);refine qv (ky L (q:=900) (vs:=[_,_,_,_,_,_,_]) Z Z Z Z q2) Z Z (ZX (h:=?_));refine qv (ky L (q:=900) (vs:=[_,_,_,_,_,_,_]) Z Z Z Z q1) Z Z (Zq (h:=?_));refine xq (yl L (q:=900) Z Z b1 Z s1) Z (Zq (h:=?_));refine xq (yl L (q:=900) Z Z b2 Z s2) Z ((ZcB∘Z4∘Za∘ZC∘Zby) ?_);exact yo (x:=t) (t+1) T T ⟨Z,Z,Z,Z,nm⟩
  ·have hA:P++(A.take t++(x::(A.drop t++(D++R))))=P++(stC ([x]++Y)++R):=by
    rw[zo6 T,zo4 T,mj,e9]
   rw[hA];refine(Zf∘Z2∘Zb∘Zdi∘Z0∘ZaJ∘ZaH∘Zbr) ?_;exact jm L 900 (r:=xc b _ tyC) Z (fun _ _ h=>h) nq Z Z
def zf2{X R:List CH}{y:CH}(ha:P.length=a)(hmm:a+X.length=mm)(hx1:¬ X.length=1)(he:mm+1=e)(hX:ziv X)(hm:(P++(X++([y]++R))).length=m)(hm1:m<=100000)(hB:zs4 B w)
  (hr:(xc b ((P++(X++([y]++R))).flatMap ccs++rest) tyC).P B w C) (hC:ZCB C w B):
  kz zs5 SYM [.slice (some ⟨b,0,none⟩) m cap,.int .i64 a,.int .i64 mm,.int .i64 e,Cw] w B C (xc b ((P++(stC (X++[y])++R)).flatMap ccs++rest) tyC):=by
 unfold kz;refine xf 900 (xc b ((P++(X++([y]++R))).flatMap ccs++rest) tyC) Tryz.func292 Z Tryz.ntmps292 (np Z) hB hr hC ?_;rw[xd];have hm':=hm;simp only[nr,zp3] at hm';refine(Ze∘ZQ∘Zb∘Zdi∘Zdz∘ZJ∘Zb∘Zdi∘ZN∘Zn∘Zae∘Za∘Zd∘ZbL∘Zd∘Zar) ?_
 refine xp (fun s:Nat×Nat=>[(0,.is (.slice (some ⟨b,0,none⟩) m cap)),(2,.is (.int .i64 mm)),(4,.is Cw),(14,.is (.int .i64 s.1)),(15,.is (.int .i64 s.2)),(900,.own (xu b ((P++(X++([y]++R))).flatMap ccs++rest) tyC))])
  (fun s=>a<=s.1/\s.1<=s.2/\s.2<=mm/\(∀ (j:Nat) (z:CH),j<s.1-a->X[j]?=some z->¬ kw y.1 z.1<0)/\∀ (j:Nat) (z:CH),s.2-a<=j->X[j]?=some z->kw y.1 z.1<0) (fun s=>s.2-s.1) (a,mm)
  ⟨Nat.le_refl _,by dsimp only;omega,Nat.le_refl _,fun j z h=>(by dsimp only at h;omega),fun j z h hz=>(by have:=get_lt hz;dsimp only at h;omega)⟩ ⟨rfl,rfl,rfl,rfl,rfl,rfl,trivial⟩ ?_
 rintro⟨i,j⟩ ⟨h1,h2,h3,h4,h5⟩;dsimp only at h1 h2 h3 h4 h5 |-;by_cases hlt:i<j
 ·have hsh:=Bj i j;obtain⟨h,hh⟩:∃ h,(i+j)/2=h:=⟨_,rfl⟩
  rw[hh] at hsh;obtain⟨x,hx⟩:=xm (l:=X) (show h-a<X.length by omega);have q1:=wx (rest:=rest) (zhr (Y:=[y]) (D:=R) ha hmm (j:=0) rfl mm T) (0+mm*7) T;have q2:=wx (rest:=rest) (zc7 (D:=[y]++R) ha hx h T) (0+h*7) T;by_cases hc:kw y.1 x.1<0
  ·refine(Zf∘Zaa∘Zb∘ZbB∘ZcQ∘Zaj∘Zb∘Zay) ?_;refine z7 (kr Z Z Z jo.1 jo.2 (wrap_u64 T T)) Z (Zdn (h:=?_));refine z7 (kr Z Z Z jp.1 jp.2 (xb T T)) Z (Zd (h:=?_));refine qn (id:=17) [(200096,[900]),(200100,[900])] ko J ((Zbk∘Zq) ?_);refine qv (ky L (q:=900) (vs:=[_,_,_,_,_,_,_]) Z Z Z Z q1) Z Z (ZX (h:=?_));refine qv (ky L (q:=900) (vs:=[_,_,_,_,_,_,_]) Z Z Z Z q2) Z Z (z81 L Z (fun u H hH _=>f8 hH) ?_);refine(ZcD∘ZaG∘ZaL∘Zcs∘Za∘Zag) ?_
   exact yo (x:=(i,j)) (i,h) ⟨h1,by dsimp only;omega,by dsimp only;omega,h4,fun k z hk hz=>by
    dsimp only at hk;exact S5 cmpT_ord hc (aw cmpT_ord hX hx hz T)⟩ G ⟨Z,Z,Z,Z,Z,Z,nm⟩
  ·refine(Zf∘Zaa∘Zb∘ZbB∘ZcQ∘Zaj∘Zb∘Zay) ?_;refine z7 (kr Z Z Z jo.1 jo.2 (wrap_u64 T T)) Z (Zdn (h:=?_));refine z7 (kr Z Z Z jp.1 jp.2 (xb T T)) Z (Zd (h:=?_));refine qn (id:=17) [(200096,[900]),(200100,[900])] ko J ((Zbk∘Zq) ?_);refine qv (ky L (q:=900) (vs:=[_,_,_,_,_,_,_]) Z Z Z Z q1) Z Z (ZX (h:=?_));refine qv (ky L (q:=900) (vs:=[_,_,_,_,_,_,_]) Z Z Z Z q2) Z Z (z81 L Z (fun u H hH _=>f8 hH) ?_);refine(Zdg∘ZaG∘ZbW∘ZaO∘Za∘Zay∘Zag) ?_
   exact yo (x:=(i,j)) (h+1,j) ⟨by dsimp only;omega,by dsimp only;omega,h3,fun k z hk hz hcx=>by
    dsimp only at hk;exact hc (S5 cmpT_ord hcx (aw cmpT_ord hX hz hx T)),h5⟩ G ⟨Z,Z,Z,Z,Z,Z,nm⟩
 ·obtain rfl:i=j:=by omega
  have hfin:=zg4 (k:=fun c:CH=>c.1) cmpT_ord hX h4 h5;have hal:(X.take (i-a)).length=i-a:=by rw[mi];omega
  have hXl:(X.take (i-a)).length+(X.drop (i-a)).length=X.length:=by rw[<-nr,zo0]
  have e0:P++(X++([y]++R))=P++(X.take (i-a)++(X.drop (i-a)++(y::([]++R)))):=by
   rw[<-mw (X.take _),zo0];rfl
  rw[e0]
  have e9:P++(X.take (i-a)++(y::(X.drop (i-a)++R)))=P++(stC (X++[y])++R):=by
   unfold stC;rw[<-hfin];simp
  generalize X.take (i-a)=A at *;generalize X.drop (i-a)=D at *;clear hfin h4 h5 e0;have hk0:mm=i+D.length:=T;refine(Zf∘Zaa∘Zb∘Z0∘Za5∘Ze∘ZaP∘Za∘ZaX) ?_;refine xp (fun t:Nat=>[(0,.is (.slice (some ⟨b,0,none⟩) m cap)),(14,.is (.int .i64 i)),(17,.is (.int .i64 (i+t:Nat))),(900,.own (xu b ((P++(A++(D.take t++(y::(D.drop t++R))))).flatMap ccs++rest) tyC))]) (fun t=>t<=D.length) (fun t=>t) D.length (nu _) ⟨Z,Z,by rw[<-hk0];rfl,by rw[zoy,zq5];rfl,nm⟩ ?_;rintro t ht;rcases t with _ | t
  ·rw[zpt,zpy,mj,e9,Nat.add_zero];refine(Zf∘ZcJ∘Zb∘ZM∘ZaJ∘ZaH∘Zbr) ?_;exact jm L 900 (r:=xc b _ tyC) Z (fun _ _ h=>h) nq Z Z
  ·obtain⟨z,hz⟩:=xm (l:=D) (show t<D.length by omega);have e0:P++(A++(D.take (t+1)++(y::(D.drop (t+1)++R))))=(P++(A++D.take t))++z::([]++y::(D.drop (t+1)++R)):=by rw[zpa,hz];simp
   have e1:(P++(A++D.take t))++y::([]++z::(D.drop (t+1)++R))=P++(A++(D.take t++(y::(D.drop t++R)))):=by rw[ax hz];simp
   have l1:(P++(A++D.take t)).length=i+t:=by rw[nr,nr,mi];omega
   have l2:(P++(A++D.take t)).length+1+([]:List CH).length=i+(t+1):=by rw[l1];rfl
   have g1:=A8 (x:=z) (y:=y) (zs1:=[]) (D:=D.drop (t+1)++R) l1;have g2:=A7 (x:=z) (y:=y) (D:=D.drop (t+1)++R) l2;have g3:=Pm (x:=z) (y:=y) (D:=D.drop (t+1)++R) l1 l2;rw[e0];rw[e1] at g3;generalize (P++(A++D.take t))++z::([]++y::(D.drop (t+1)++R))=K at *;have k1:=get_lt g1;have k2:=get_lt g2;have hKl:i+(t+1)<m:=T;have q1:=wx (rest:=rest) g1 (0+(i+t)*7) T;have q2:=wx (rest:=rest) g2 (0+(i+(t+1))*7) T;have s1:=p7 (rest:=rest) (z:=z) k2 (0+(i+(t+1))*7) T;have b1:=p8 (rest:=rest) k2 (0+(i+(t+1))*7) T;have k3:i+t<(K.set (i+(t+1)) z).length:=by rw[zq1];exact k1
   have s2:=p7 (rest:=rest) (z:=y) k3 (0+(i+t)*7) T;have b2:=p8 (rest:=rest) k3 (0+(i+t)*7) T;rw[g3] at s2;have a1:IntKind.i64.wrap (((i+(t+1):Nat):Int)-1)=((i+t:Nat):Int):=xb T T |>.trans T;refine(Zf∘ZcJ∘Zb∘ZP∘Z3∘Zao∘Zar) ?_;refine qn (id:=23) [(200122,[900]),(200126,[900]),(100127,[900]),(100128,[900])] ko J ((Zp∘ZbQ∘ZbQ∘Zq) ?_);refine qv (ky L (q:=900) (vs:=[_,_,_,_,_,_,_]) Z Z Z Z q1) Z Z (ZX (h:=?_));refine qv (ky L (q:=900) (vs:=[_,_,_,_,_,_,_]) Z Z Z Z q2) Z Z (Zq (h:=?_));refine xq (yl L (q:=900) Z Z b1 Z s1) Z (Zq (h:=?_));refine xq (yl L (q:=900) Z Z b2 Z s2) Z ((ZcB∘Zd0∘Za∘Zax∘Zby) ?_);exact yo (x:=t+1) t T T ⟨Z,Z,Z,Z,nm⟩
def Xv{l:List CH}(h:l.length=1):∃ x,l=[x]:=by
 rcases l with _ | ⟨x,_ | ⟨y,l⟩⟩
 ·simp at h
 ·exact⟨x,rfl⟩
 ·simp at h
def F0{l:List CH}(h:ziv l):stC l=l:=zbp cmpT_ord h
def Um(N0:Nat):∀ {P X Y R:List CH} {rest:List Value} {b m cap a mm e:Nat},X.length+Y.length<=N0->P.length=a->a+X.length=mm->mm+Y.length=e->0<X.length->0<Y.length->ziv X->ziv Y->(P++(X++(Y++R))).length=m->m<=100000->∀ {w:World} {B:Heap} {C:Nat->Prop},zs4 B w->
  (xc b ((P++(X++(Y++R))).flatMap ccs++rest) tyC).P B w C->(ZCB C w B)->
  kz zs5 SYM [.slice (some ⟨b,0,none⟩) m cap,.int .i64 a,.int .i64 mm,.int .i64 e,Cw] w B C (xc b ((P++(stC (X++Y)++R)).flatMap ccs++rest) tyC):=by
 induction N0 with
 | zero=>intro P X Y R rest b m cap a mm e h1 h2 h3 h4 h5;omega
 | succ N0 ih=>
 intro P X Y R rest b m cap a mm e hN ha hmm he hx hy hX hY hm hm1 w B C hB hr hC;by_cases hx1:X.length=1
 ·obtain⟨x,rfl⟩:=Xv hx1;exact zf1 ha (by simpa using hmm) he hY hm hm1 hB hr hC
 by_cases hy1:Y.length=1
 ·obtain⟨y,rfl⟩:=Xv hy1;exact zf2 ha hmm hx1 (by simpa using he) hX hm hm1 hB hr hC
 unfold kz;refine xf 900 (xc b ((P++(X++(Y++R))).flatMap ccs++rest) tyC) Tryz.func292 Z Tryz.ntmps292 (np Z) hB hr hC ?_;rw[xd];have hm':=hm;simp only[nr] at hm';have hsh:=Bj a e;obtain⟨mid,hmid⟩:∃ mid,(a+e)/2=mid:=⟨_,rfl⟩
 rw[hmid] at hsh;have hnn:IntKind.i64.wrap ((mid:Int)+(mm:Int))=((mid+mm:Nat):Int):=xb T T;refine(Ze∘ZQ∘Zb∘Zdi∘Zdz∘ZJ∘Zb∘Zdi∘ZbK∘ZdO∘Zb∘Zay) ?_;refine z7 (kr Z Z Z jo.1 jo.2 (wrap_u64 T T)) Z (Zdn (h:=?_));refine z7 (kr Z Z Z jp.1 jp.2 (xb T T)) Z (Zd (h:=?_));refine ze (id:=25) ((Zb∘ZC∘Zd) ?_);refine ze (id:=26) (ZcM (h:=?_));refine o8 (fun s:Nat×Nat=>[(0,.is (.slice (some ⟨b,0,none⟩) m cap)),(1,.is (.int .i64 a)),(2,.is (.int .i64 mm)),(3,.is (.int .i64 e)),(4,.is Cw),(18,.is (.int .i64 mid)),(19,.is (.int .i64 (mid+mm:Nat))),(20,.is (.int .i64 s.1)),(21,.is (.int .i64 s.2)),(900,.own (xu b ((P++(X++(Y++R))).flatMap ccs++rest) tyC))]) (fun s=>zly X Y a mm e mid s.1 s.2/\s.1<=s.2) (fun _=>[]) ?rest ?first
 case first=>
  by_cases hgt:mid<mm
  ·have hs:IntKind.i64.wrap (((mid+mm:Nat):Int)-(e:Int))=((mid+mm-e:Nat):Int):=xb T T |>.trans T;refine ze (id:=27) ((Zb∘ZP∘Zn) ?_);refine ze (id:=28) ((ZaQ∘Zc) ?_);refine ze (id:=29) ((Za∘Zby) ?_);exact wd (mid+mm-e,mid) Since.refl ⟨⟨hmm,he,by dsimp only;omega,by dsimp only;omega,Nat.le_refl _,by dsimp only;omega,.inr G,.inr Z⟩,by dsimp only;omega⟩ Z ⟨Z,Z,Z,Z,Z,Z,Z,Z,Z,Z,trivial⟩
  ·refine ze (id:=27) ((Zb∘ZM∘Zdo) ?_);refine ze (id:=30) ((Za∘Zc) ?_);refine ze (id:=31) ((Za∘Zby) ?_);exact wd (a,mm) Since.refl ⟨⟨hmm,he,Nat.le_refl _,by dsimp only;omega,by dsimp only;omega,Nat.le_refl _,.inl Z,.inl Z⟩,by dsimp only;omega⟩ Z ⟨Z,Z,Z,Z,Z,Z,Z,Z,Z,Z,trivial⟩
 case rest=>
 rintro⟨lo,hi⟩ ⟨hb,hlh⟩;dsimp only at hb hlh |-;have hp:IntKind.i64.wrap (((mid+mm:Nat):Int)-1)=((mid+mm-1:Nat):Int):=xb T T |>.trans T;refine Ze (h:=?_);refine ze (id:=32) ((Za∘Zax∘Zd∘Zar) ?_)
 refine xp (fun s:Nat×Nat=>[(0,.is (.slice (some ⟨b,0,none⟩) m cap)),(1,.is (.int .i64 a)),(2,.is (.int .i64 mm)),(3,.is (.int .i64 e)),(4,.is Cw),(18,.is (.int .i64 mid)),(19,.is (.int .i64 (mid+mm:Nat))),(20,.is (.int .i64 s.1)),(21,.is (.int .i64 s.2)),(22,.is (.int .i64 (mid+mm-1:Nat))),(900,.own (xu b ((P++(X++(Y++R))).flatMap ccs++rest) tyC))])
  (fun s=>SymI (fun c:CH=>c.1) kw X Y a mid lo hi s.1 s.2) (fun s=>s.2-s.1) (lo,hi) (SymI.start hlh) ⟨rfl,rfl,rfl,rfl,rfl,rfl,rfl,rfl,rfl,rfl,rfl,nm⟩ ?_
 rintro⟨i,j⟩ hI;dsimp only at hI |-;have hI':=hI;have hb':=hb;obtain⟨b1,b2,b3,b4,b5,b6,_,_⟩:=hb';obtain⟨i1,i2,i3,_,_⟩:=hI';by_cases hlt:i<j
 ·have hsc:=Bj i j;obtain⟨c,hc⟩:∃ c,(i+j)/2=c:=⟨_,rfl⟩
  rw[hc] at hsc;obtain⟨x,hxc⟩:=xm (l:=X) (show c-a<X.length by omega);obtain⟨y,hyc⟩:=xm (l:=Y) (show mid-1-c<Y.length by omega);have q1:=wx (rest:=rest) (zhr (D:=R) ha hmm hyc (mid+mm-1-c) T) (0+(mid+mm-1-c)*7) T;have q2:=wx (rest:=rest) (zc7 (D:=Y++R) ha hxc c T) (0+c*7) T;have hpc:IntKind.i64.wrap (((mid+mm-1:Nat):Int)-(c:Int))=((mid+mm-1-c:Nat):Int):=xb T T |>.trans T;by_cases hcm:kw y.1 x.1<0
  ·refine Zf (h:=?_);refine ze (id:=33) ((Zb∘ZbB∘ZcQ) ?_);refine ze (id:=34) ((Zb∘Zay) ?_);refine z7 (kr Z Z Z jo.1 jo.2 (wrap_u64 T T)) Z (Zdn (h:=?_));refine z7 (kr Z Z Z jp.1 jp.2 (xb T T)) Z (Zd (h:=?_));refine qn (id:=35) [(200164,[900]),(200168,[900])] ko J ((Zp∘ZbQ∘Zq) ?_);refine qv (ky L (q:=900) (vs:=[_,_,_,_,_,_,_]) Z Z Z Z q1) Z Z (ZX (h:=?_));refine qv (ky L (q:=900) (vs:=[_,_,_,_,_,_,_]) Z Z Z Z q2) Z Z (z81 L Z (fun u H hH _=>f8 hH) ?_);refine(ZcD∘ZaG∘ZaL) ?_;refine ze (id:=37) ((Za∘Zag) ?_);exact yo (x:=(i,j)) (i,c) (hI.down cmpT_ord hX hY hb T T hxc hyc hcm) G ⟨Z,Z,Z,Z,Z,Z,Z,Z,Z,Z,Z,nm⟩
  ·refine Zf (h:=?_);refine ze (id:=33) ((Zb∘ZbB∘ZcQ) ?_);refine ze (id:=34) ((Zb∘Zay) ?_);refine z7 (kr Z Z Z jo.1 jo.2 (wrap_u64 T T)) Z (Zdn (h:=?_));refine z7 (kr Z Z Z jp.1 jp.2 (xb T T)) Z (Zd (h:=?_));refine qn (id:=35) [(200164,[900]),(200168,[900])] ko J ((Zp∘ZbQ∘Zq) ?_);refine qv (ky L (q:=900) (vs:=[_,_,_,_,_,_,_]) Z Z Z Z q1) Z Z (ZX (h:=?_));refine qv (ky L (q:=900) (vs:=[_,_,_,_,_,_,_]) Z Z Z Z q2) Z Z (z81 L Z (fun u H hH _=>f8 hH) ?_);refine(Zdg∘ZaG∘ZbW) ?_;refine ze (id:=36) ((Za∘Zay∘Zag) ?_);exact yo (x:=(i,j)) (c+1,j) (hI.up cmpT_ord hX hY hb T T hxc hyc hcm) G ⟨Z,Z,Z,Z,Z,Z,Z,Z,Z,Z,Z,nm⟩
 ·obtain rfl:i=j:=by omega
  have hj:=zbk cmpT_ord hX hY hb hI;have hen:IntKind.i64.wrap (((mid+mm:Nat):Int)-(i:Int))=((mid+mm-i:Nat):Int):=xb T T |>.trans T;refine Zf (h:=?_);refine ze (id:=33) ((Zb∘Z0∘Za5) ?_);refine ze (id:=38) ((ZaQ∘Zk) ?_);have eX:X.take (i-a)++X.drop (i-a)=X:=zo0 _ _;have eY:Y.take (mid-i)++Y.drop (mid-i)=Y:=zo0 _ _;have lA1:(X.take (i-a)).length=i-a:=by rw[mi];omega
  have lA2:(X.drop (i-a)).length=mm-i:=by rw[m8];omega
  have lB1:(Y.take (mid-i)).length=mid-i:=by rw[mi];omega
  have lB2:(Y.drop (mid-i)).length=e-(mid+mm-i):=by rw[m8];omega
  generalize X.take (i-a)=A1 at *;generalize X.drop (i-a)=A2 at *;generalize Y.take (mid-i)=B1 at *;generalize Y.drop (mid-i)=B2 at *
  change stC (A1++B1)++stC (A2++B2)=stC (X++Y) at hj
  rw[<-hj];subst eX eY;obtain⟨sA1,sA2,_⟩:=dk.1 hX;obtain⟨sB1,sB2,_⟩:=dk.1 hY;clear hI hb hj hX hY;obtain⟨en,hend⟩:∃ en,mid+mm-i=en:=⟨_,rfl⟩
  rw[hend] at lB2 |-;have e0:P++((A1++A2)++((B1++B2)++R))=(P++A1)++(A2++(B1++(B2++R))):=by simp
  have e1:(P++A1)++(B1++(A2++(B2++R)))=P++(A1++(B1++(A2++(B2++R)))):=by simp
  have hlen1:((P++A1)++(A2++(B1++(B2++R)))).length=m:=by rw[<-e0];exact hm
  have hlen2:(P++(A1++(B1++(A2++(B2++R))))).length=m:=by simp only[nr] at hm' |-;omega
  have hl3:=bw (A1++B1);rw[nr] at hl3;have e3:P++(stC (A1++B1)++(A2++(B2++R)))=(P++stC (A1++B1))++(A2++(B2++R)):=by simp
  have hlen3:((P++stC (A1++B1))++(A2++(B2++R))).length=m:=by simp only[nr] at hm' |-;omega
  have e4:(P++stC (A1++B1))++(stC (A2++B2)++R)=P++((stC (A1++B1)++stC (A2++B2))++R):=by simp
  simp only[nr] at hm' hmm he hN;refine o8 (fun _:Unit=>[(0,.is (.slice (some ⟨b,0,none⟩) m cap)),(1,.is (.int .i64 a)),(3,.is (.int .i64 e)),(4,.is Cw),(18,.is (.int .i64 mid)),(20,.is (.int .i64 i)),(24,.is (.int .i64 en)),(900,.own (xu b ((P++(A1++(B1++(A2++(B2++R))))).flatMap ccs++rest) tyC))]) (fun _=>True) (fun _=>[]) ?rest1 ?first1
  case first1=>
   rw[e0];by_cases h1:i<mm
   ·by_cases h2:mm<en
    ·refine ze (id:=39) ((Zb∘ZU∘Z8∘ZU∘Zi∘Z3) ?_);refine ze (id:=40) ((Zb∘Z8) ?_);refine qg (xe L 900 (xc b (((P++A1)++(B1++(A2++(B2++R)))).flatMap ccs++rest) tyC) (r:=xc b (((P++A1)++(A2++(B1++(B2++R)))).flatMap ccs++rest) tyC) Z Z Z Z Z (fun u H C hH _ hr hC=>(by have h:=zgk (cap:=cap) (a:=i) (mm:=mm) (e:=en) (by rw[nr];omega) T T T T hlen1 hm1 Cw hH hr hC;exact h))) ?_;refine Zab (h:=?_);rw[e1];exact wd () nq trivial Z ⟨Z,Z,Z,Z,Z,Z,Z,Z,nm⟩
    ·have hB1:B1=[]:=zow T;subst hB1;have e9:(P++A1)++(A2++([]++(B2++R)))=P++(A1++([]++(A2++(B2++R)))):=by simp
     rw[e9];refine ze (id:=39) ((Zb∘ZU∘Z8∘Z0∘Zi∘Zac) ?_);exact wd () nq trivial Z ⟨Z,Z,Z,Z,Z,Z,Z,Z,nm⟩
   ·have hA2:A2=[]:=zow T;subst hA2;have e9:(P++A1)++([]++(B1++(B2++R)))=P++(A1++(B1++([]++(B2++R)))):=by simp
    rw[e9];refine ze (id:=39) ((Zb∘Z0∘Zcl∘Zac) ?_);exact wd () nq trivial Z ⟨Z,Z,Z,Z,Z,Z,Z,Z,nm⟩
  case rest1=>
  rintro _ _;refine Zf (h:=?_);refine o8 (fun _:Unit=>[(0,.is (.slice (some ⟨b,0,none⟩) m cap)),(3,.is (.int .i64 e)),(4,.is Cw),(18,.is (.int .i64 mid)),(24,.is (.int .i64 en)),(900,.own (xu b (((P++stC (A1++B1))++(A2++(B2++R))).flatMap ccs++rest) tyC))]) (fun _=>True) (fun _=>[]) ?rest2 ?first2
  case first2=>
   rw[<-e3];by_cases h1:a<i
   ·by_cases h2:i<mid
    ·refine ze (id:=41) ((Zb∘ZU∘Z8∘ZU∘Zi∘Z3) ?_);refine ze (id:=42) ((Zb∘Z8) ?_);refine qg (xe L 900 (xc b ((P++(stC (A1++B1)++(A2++(B2++R)))).flatMap ccs++rest) tyC) (r:=xc b ((P++(A1++(B1++(A2++(B2++R))))).flatMap ccs++rest) tyC) Z Z Z Z Z (fun u H C hH _ hr hC=>(by have h:=ih (cap:=cap) (a:=a) (mm:=i) (e:=mid) T ha T T T T sA1 sB1 hlen2 hm1 hH hr hC;exact h))) ?_;refine Zab (h:=?_);exact wd () nq trivial Z ⟨Z,Z,Z,Z,Z,Z,nm⟩
    ·have hB1:B1=[]:=zow T;subst hB1;have e9:P++(A1++([]++(A2++(B2++R))))=P++(stC (A1++[])++(A2++(B2++R))):=by rw[mq,F0 sA1];rfl
     rw[e9];refine ze (id:=41) ((Zb∘ZU∘Z8∘Z0∘Zi∘Zac) ?_);exact wd () nq trivial Z ⟨Z,Z,Z,Z,Z,Z,nm⟩
   ·have hA1:A1=[]:=zow T;subst hA1;have e9:P++([]++(B1++(A2++(B2++R))))=P++(stC ([]++B1)++(A2++(B2++R))):=by rw[mj,mj,F0 sB1]
    rw[e9];refine ze (id:=41) ((Zb∘Z0∘Zcl∘Zac) ?_);exact wd () nq trivial Z ⟨Z,Z,Z,Z,Z,Z,nm⟩
  case rest2=>
  rintro _ _;by_cases h1:mid<en
  ·by_cases h2:en<e
   ·refine Ze (h:=?_);refine ze (id:=43) ((Zb∘ZU∘Z8∘ZU∘Zi∘Z3) ?_);refine ze (id:=44) ((Zb∘Z8) ?_);refine qg (xe L 900 (xc b (((P++stC (A1++B1))++(stC (A2++B2)++R)).flatMap ccs++rest) tyC) (r:=xc b (((P++stC (A1++B1))++(A2++(B2++R))).flatMap ccs++rest) tyC) Z Z Z Z Z (fun u H C hH _ hr hC=>(by have h:=ih (cap:=cap) (a:=mid) (mm:=en) (e:=e) T (by rw[nr];omega) T T T T sA2 sB2 hlen3 hm1 hH hr hC;exact h))) ?_;refine Zab (h:=?_);rw[e4];exact xw L 900 (r:=xc b _ tyC) Z (fun _ _ h=>h) nq Z Z
   ·have hB2:B2=[]:=zow T;subst hB2;have e9:(P++stC (A1++B1))++(A2++([]++R))=P++((stC (A1++B1)++stC (A2++[]))++R):=by rw[mq,F0 sA2];simp
    rw[e9];refine Ze (h:=?_);refine ze (id:=43) ((Zb∘ZU∘Z8∘Z0∘Zi∘Zac) ?_);exact xw L 900 (r:=xc b _ tyC) Z (fun _ _ h=>h) nq Z Z
  ·have hA2:A2=[]:=zow T;subst hA2;have e9:(P++stC (A1++B1))++([]++(B2++R))=P++((stC (A1++B1)++stC ([]++B2))++R):=by rw[mj,mj,F0 sB2];simp
   rw[e9];refine Ze (h:=?_);refine ze (id:=43) ((Zb∘Z0∘Zcl∘Zac) ?_);exact xw L 900 (r:=xc b _ tyC) Z (fun _ _ h=>h) nq Z Z
end Go.V.L8
end
