/- Texts, part 5. -/
import Derived.Test.YtooecmiihjampaaGreatTopBytesM4
import Derived.Sort.Walk7
import Derived.Sort.Walk13
import Derived.Lib.IndexAny
set_option linter.unusedVariables false
set_option linter.unusedSimpArgs false
set_option maxRecDepth 20000
set_option maxHeartbeats 8000000
set_option linter.defProp false
open Go.Proofs Go.RowKit
section
variable{a b bs cap e hi i j k lo m mid mm n t:Nat}{w:Go.World}{B:Go.V.Heap}{d:Array Int}{rest:List Go.Value}{C:Nat->Prop}{x:Int×Int}{P cs l made:List Go.V.L8.CH}{L0:List Int}{r:Int}{s sv v v2:Go.Value}{f fc fu:Bool}{R:List (Option (List Go.V.L2.U))}{α:Type}{S:Go.V.L10.Sto}{O:Go.V.Boxes}{ztg:Go.Exit->Go.Act->Go.World->Prop}{o:Go.Oper}{ps:List (Nat×Nat)}{φ:Go.Value->Go.V.Heap->Prop}{A Y:Prop}
section
open Go.V
attribute [local irreducible] Has N Par Ret RetL RetO RetX Src StepOK V VO X kx
namespace Go.V.So
open Go.Sort
def _root_.Zcg(t:Wr Y->A:=by exact fun h=>(ZcZ∘ZdH) h.1)(h:Y):A:=t ⟨h⟩
def _root_.ZfC(t:Wr Y->A:=by intro h;refine qo (id:=10) [(200058,[900]),(200062,[900]),(100063,[900]),(100064,[900])] ki J ?_;refine Zn (h:=?_);exact h.1)(h:Y):A:=t ⟨h⟩
def D8(hn:n<18446744073709551616)(hB:zth B w):Ret zti 169 [.int .u64 n] w B (fun v _=>v=.int .i64 (bitsLen n)):=by
 refine yn Tryz.func169 Z Tryz.ntmps169 (np Z) hB ((ZP∘Zd∘ZeG∘Zaf∘Zy) ?_);refine z71 L Z (fun u H hH _=>Ret.of_same hH (Tryz.bits_Len64 (n:Int) u T T)) ?_;refine Zc (h:=?_);refine yj1 L [.tmp 2] fun u H hH hle=>?_;rw[zpu,bitLen_eq n hn];rfl
def zdf(hn:n<=100000)(hB:zth B w):Ret zti 262 [.int .i64 n] w B (fun v _=>v=.int .u64 (1<<<bitsLen n:Nat)):=by
 have hb:bitsLen n<=17:=(bitsLen_le_iff n 17).2 T;have hp2:(2:Nat)^bitsLen n<=2^17:=zsq T hb
 have hmin:min ((bitsLen n:Nat):Int).toNat IntKind.u64.bits=bitsLen n:=by
  rw[zpu];have:IntKind.u64.bits=64:=E;omega
 have s1:IntKind.u64.wrap ((1:Int)*2^min ((bitsLen n:Nat):Int).toNat IntKind.u64.bits)=((1<<<bitsLen n:Nat):Int):=by
  rw[hmin,zsl,Nat.one_mul,Int.one_mul,Int.natCast_pow];have e2:((2:Nat):Int)^bitsLen n=((2^bitsLen n:Nat):Int):=(Int.natCast_pow 2 _).symm;rw[show((2:Int)^bitsLen n)=((2:Nat):Int)^bitsLen n from rfl,e2];have hp3:2^bitsLen n<=131072:=hp2;clear hp2 hmin e2;generalize 2^bitsLen n=zte at *;exact wrap_u64 T T
 have hc:IntKind.u64.wrap (n:Int)=(n:Int):=wrap_u64 T T;refine yn Tryz.func262 Z Tryz.ntmps262 (np Z) hB ((Z4∘Za) ?_);refine z7 (ko Z Z Z jx.1 jx.2 (wrap_u64 T T)) Z (z71 L Z (fun u H hH _=>D8 T hH) ?_);refine z7 (Qy Z Z Z Z T s1) Z (Zc (h:=?_));exact yj2 L [.tmp 2]
def zi3(hab:a<=e)(he:e<=d.size)(hm:d.size=m)(hm1:m<=100000)(hB:zth B w)
  (hr:(xc b (uC d++rest) tyU).P B w C) (hC:ZCB C w B):
  kx zti 273 [.slice (some ⟨b,0,none⟩) m cap,.int .i64 a,.int .i64 e] w B C (xc b (uC (breakPatterns d a e)++rest) tyU):=by
 unfold kx;refine xa 900 (xc b (uC d++rest) tyU) Tryz.func273 Z Tryz.ntmps273 (np Z) hB hr hC ?_;rw[xd];obtain⟨Ln,rfl⟩:∃ Ln,e=a+Ln:=⟨e-a,by omega⟩
 have hw0:IntKind.i64.wrap (((a+Ln:Nat):Int)-(a:Int))=(Ln:Int):=xb T T |>.trans T;by_cases h8:8<=Ln
 ·have hX:=breakPatterns_eq d a Ln h8;obtain⟨zte,hM⟩:∃ zte,zte=1<<<bitsLen Ln:=⟨_,rfl⟩
  have hb17:bitsLen Ln<=17:=(bitsLen_le_iff Ln 17).2 T
  have hMp:1<=zte/\zte<=131072:=by
   rw[hM,zsl,Nat.one_mul];exact⟨Nat.one_le_two_pow,zsq T hb17⟩
  have hM2:zte<=2*Ln:=by
   rw[hM,zsl,Nat.one_mul];exact two_pow_bitsLen_le T
  obtain⟨I0,hI0⟩:∃ I0,I0=a+Ln/4*2-1:=⟨_,rfl⟩
  rw[<-hM,<-hI0] at hX;have hc1:IntKind.u64.wrap (Ln:Int)=(Ln:Int):=wrap_u64 T T
  have et:((Ln:Nat):Int).tdiv 4=((Ln/4:Nat):Int):=by
   rw[zsd T];omega
  have hq:IntKind.i64.wrap (((Ln:Nat):Int).tdiv 4)=((Ln/4:Nat):Int):=by rw[et];exact xb T T
  have hw1:IntKind.i64.wrap (((Ln/4:Nat):Int)*2)=((Ln/4*2:Nat):Int):=xb T T |>.trans T;have hw2:IntKind.i64.wrap ((a:Int)+((Ln/4*2:Nat):Int))=((a+Ln/4*2:Nat):Int):=xb T T |>.trans T;have hw3:IntKind.i64.wrap (((a+Ln/4*2:Nat):Int)-1)=(I0:Int):=xb T T |>.trans T;have hw4:IntKind.i64.wrap (((a+Ln/4*2:Nat):Int)+1)=((I0+2:Nat):Int):=xb T T |>.trans T;have hM1:IntKind.u64.wrap ((zte:Int)-1)=((zte-1:Nat):Int):=wrap_u64 T T |>.trans T
  have hln:(UInt64.ofNat Ln).toNat=Ln:=by
   rw[UInt64.toNat_ofNat'];exact zsu T
  refine(ZP∘ZaA∘Zb7∘Zb3∘ZD∘Zy) ?_;refine z7 (ko Z Z Z zap.1 zap.2 (wrap_u64 T T)) Z (Zah (h:=?_));refine k9 7 901 rfl fun br=>?_;refine ZA (h:=?_);refine z71 L Z (fun u H hH _=>hM ▸ zdf (n:=Ln) T hH) ?_;refine(Zd∘Z2∘Zb∘Zcg∘Za9∘ZaJ) ?_;refine xm (fun s:Nat×(UInt64×Array Int)=>[(0,.is (.slice (some ⟨b,0,none⟩) m cap)),(1,.is (.int .i64 a)),(6,.is (.int .i64 Ln)),(7,.is (.pointer (some ⟨br,0,none⟩))),(8,.is (.int .u64 zte)),(9,.is (.int .i64 (I0+s.1:Nat))),(900,.own (xp b (uC s.2.2++rest) tyU)),(901,.own (xp br [.int .u64 s.2.1.toNat] tyX))]) (fun s=>s.1<=3/\s.2.2.size=m/\bpRest a Ln zte I0 (3-s.1) s.1 s.2=breakPatterns d a (a+Ln)) (fun s=>3-s.1) (0,(UInt64.ofNat Ln,d)) ⟨by dsimp only;omega,hm,hX.symm⟩ ⟨Z,Z,Z,Z,Z,Z,Z,by dsimp only;rw[hln];rfl,trivial⟩ ?_;rintro⟨t,⟨r,D⟩⟩ ⟨ht3,hD,hst⟩;dsimp only at ht3 hD hst |-;have hrl:r.toNat<18446744073709551616:=UInt64.toNat_lt r;by_cases ht:t<3
  ·obtain⟨o1,ho1⟩:∃ o1,o1=xorNextN r.toNat &&& (zte-1):=⟨_,rfl⟩
   have ho1l:o1<=zte-1:=by rw[ho1];exact Nat.and_le_right
   have hand:bits .and .u64 ((xorNextN r.toNat:Nat):Int) ((zte-1:Nat):Int)=(o1:Int):=by rw[bits_and_u64_nat _ _ (xorNextN_lt _ hrl) T,ho1]
   have hcv:IntKind.i64.wrap (o1:Int)=(o1:Int):=xb T T;have hwt:IntKind.i64.wrap (((I0+t:Nat):Int)+1)=((I0+(t+1):Nat):Int):=xb T T |>.trans T;by_cases hoL:Ln<=o1
   ·have hw5:IntKind.i64.wrap ((o1:Int)-(Ln:Int))=((o1-Ln:Nat):Int):=xb T T |>.trans T;have hw6:IntKind.i64.wrap ((a:Int)+((o1-Ln:Nat):Int))=((a+(o1-Ln):Nat):Int):=xb T T;have ho:(if (xorNext r).toNat &&& (zte-1)>=Ln then ((xorNext r).toNat &&& (zte-1))-Ln else (xorNext r).toNat &&& (zte-1))=o1-Ln:=by rw[xorNext_toNat,<-ho1,na hoL]
    obtain⟨_,qj⟩:=gk (rest:=rest) (show a+(o1-Ln)<D.size by omega) (0+(a+(o1-Ln))*1) rfl;obtain⟨_,qi⟩:=gk (rest:=rest) (show I0+t<D.size by omega) (0+(I0+t)*1) rfl;have s1:=vt (rest:=rest) D[a+(o1-Ln)]! (show I0+t<D.size by omega) (0+(I0+t)*1) rfl;have b1:=vu (rest:=rest) (show I0+t<D.size by omega) (0+(I0+t)*1) rfl;have hz:a+(o1-Ln)<(D.setIfInBounds (I0+t) D[a+(o1-Ln)]!).size:=by rw[zpx];omega
    have s2:=vt (rest:=rest) D[I0+t]! hz (0+(a+(o1-Ln))*1) rfl;have b2:=vu (rest:=rest) hz (0+(a+(o1-Ln))*1) rfl;rw[fe] at s2;refine(Zf∘Zt∘Z3∘Zcg∘Z7∘ZcF∘Zw∘Zd3∘ZC) ?_;refine qe (yh L 901 (xc br [.int .u64 (xorNextN r.toNat:Nat)] tyX) (.int .u64 (xorNextN r.toNat:Nat)) (r:=xc br [.int .u64 r.toNat] tyX) Z Z Z Z Z (fun u H C hH _ hr hC=>Q5 hrl hH hr hC)) ((Za∘Za9) ?_);refine z7 (X8 Z Z Z Z hand) Z (z7 (ko Z Z Z jy.1 jy.2 (xb T T)) Z ((Zj∘Zv∘Zb∘ZbZ∘ZM∘ZaA∘Zc∘ZfC∘ZcD∘ZbS) ?_));refine qz (qg L (q:=900) Z Z Z qj) Z Z (ZT (h:=?_));refine qz (qg L (q:=900) Z Z Z qi) Z Z (Zp (h:=?_));refine xo (yo L (q:=900) Z Z b1 Z s1) Z (Zp (h:=?_));refine xo (yo L (q:=900) Z Z b2 Z s2) Z ((Zck∘ZaE∘ZQ∘Z7∘Zbw) ?_);exact ym (x:=(t,(r,D))) (t+1,(xorNext r,swp D (I0+t) (a+(o1-Ln)))) ⟨by dsimp only;omega,by dsimp only;rw[wg];exact hD,by dsimp only;rw[<-hst,bp_step a Ln zte I0 t r D ((o1-Ln)) ht ho]⟩ G ⟨Z,Z,Z,Z,Z,Z,Z,by dsimp only;rw[xorNext_toNat];rfl,trivial⟩
   ·have hw6:IntKind.i64.wrap ((a:Int)+(o1:Int))=((a+o1:Nat):Int):=xb T T;have ho:(if (xorNext r).toNat &&& (zte-1)>=Ln then ((xorNext r).toNat &&& (zte-1))-Ln else (xorNext r).toNat &&& (zte-1))=o1:=by rw[xorNext_toNat,<-ho1,nc T]
    obtain⟨_,qj⟩:=gk (rest:=rest) (show a+o1<D.size by omega) (0+(a+o1)*1) rfl;obtain⟨_,qi⟩:=gk (rest:=rest) (show I0+t<D.size by omega) (0+(I0+t)*1) rfl;have s1:=vt (rest:=rest) D[a+o1]! (show I0+t<D.size by omega) (0+(I0+t)*1) rfl;have b1:=vu (rest:=rest) (show I0+t<D.size by omega) (0+(I0+t)*1) rfl;have hz:a+o1<(D.setIfInBounds (I0+t) D[a+o1]!).size:=by rw[zpx];omega
    have s2:=vt (rest:=rest) D[I0+t]! hz (0+(a+o1)*1) rfl;have b2:=vu (rest:=rest) hz (0+(a+o1)*1) rfl;rw[fe] at s2;refine(Zf∘Zt∘Z3∘Zcg∘Z7∘ZcF∘Zw∘Zd3∘ZC) ?_;refine qe (yh L 901 (xc br [.int .u64 (xorNextN r.toNat:Nat)] tyX) (.int .u64 (xorNextN r.toNat:Nat)) (r:=xc br [.int .u64 r.toNat] tyX) Z Z Z Z Z (fun u H C hH _ hr hC=>Q5 hrl hH hr hC)) ((Za∘Za9) ?_);refine z7 (X8 Z Z Z Z hand) Z (z7 (ko Z Z Z jy.1 jy.2 (xb T T)) Z ((Zj∘Zv∘Zb∘Za4∘Zae∘Zbi∘ZfC∘ZcD∘ZbS) ?_));refine qz (qg L (q:=900) Z Z Z qj) Z Z (ZT (h:=?_));refine qz (qg L (q:=900) Z Z Z qi) Z Z (Zp (h:=?_));refine xo (yo L (q:=900) Z Z b1 Z s1) Z (Zp (h:=?_));refine xo (yo L (q:=900) Z Z b2 Z s2) Z ((Zck∘ZaE∘ZQ∘Z7∘Zbw) ?_);exact ym (x:=(t,(r,D))) (t+1,(xorNext r,swp D (I0+t) (a+o1))) ⟨by dsimp only;omega,by dsimp only;rw[wg];exact hD,by dsimp only;rw[<-hst,bp_step a Ln zte I0 t r D (o1) ht ho]⟩ G ⟨Z,Z,Z,Z,Z,Z,Z,by dsimp only;rw[xorNext_toNat];rfl,trivial⟩
  ·obtain rfl:t=3:=by omega
   have hst':D=breakPatterns d a (a+Ln):=hst;rw[hst'];refine(Zf∘Zt∘Z3∘Zcg∘Z7∘Zc7∘ZaL∘ZaD) ?_;exact xu L 900 (r:=xc b _ tyU) Z (fun _ _ h=>h) nq Z Z
 ·have:breakPatterns d a (a+Ln)=d:=by unfold breakPatterns;simp only[Nat.add_sub_cancel_left];rw[if_neg T]
  rw[this];refine(ZP∘ZaA∘Zb7∘Za4∘Zae) ?_;exact xu L 900 (r:=xc b _ tyU) Z (fun _ _ h=>h) nq Z Z
def _root_.ZeY(t:Wr Y->A:=by intro h;refine z8 (Xz L (qp Z M) Z Z Z M) Z ?_;exact h.1)(h:Y):A:=t ⟨h⟩
abbrev tyI:TypeId:=3
def zju(h:j<d.size):(uC d++rest)[0+j*1]?=some (.int .u64 d[j]!):=by
 rw[zpc,zqi,zqb (by rw[Ca];exact h)];exact zfc h
def G0{b m cap a e bs k:Nat}(ha:a<m)(he:e<m)(hm:d.size=m)(hm1:m<=100000)(hk:k<=1000)(hB:zth B w)(hb:B b=some (.cells (uC d++rest).toArray tyU))
  (hr:(xc bs [.int .i64 k] tyI).P B w C) (hC:ZCB C w B):
  RetX zti 294 [.slice (some ⟨b,0,none⟩) m cap,.int .i64 a,.int .i64 e,.pointer (some ⟨bs,0,none⟩)] w B C (xc bs [.int .i64 (order2 lt d a e k).2.2] tyI) (.tuple #[.int .i64 (order2 lt d a e k).1,.int .i64 (order2 lt d a e k).2.1]):=by
 unfold RetX;refine xa 900 (xc bs [.int .i64 k] tyI) Tryz.func294 Z Tryz.ntmps294 (np Z) hB hr hC ?_;rw[xd];have g1:=zju (rest:=rest) (show a<d.size by omega);have g2:=zju (rest:=rest) (show e<d.size by omega);have hw:IntKind.i64.wrap ((k:Int)+1)=((k+1:Nat):Int):=xb T T;unfold order2
 cases hc:lt d[e]! d[a]! with
 | true=>
  refine(ZP∘ZaP∘ZbV∘ZT∘ZeY∘ZT∘ZeY) ?_;refine z81 L Z (fun u H hH _=>js hc hH) ?_;refine(ZbW∘Ze∘Zy∘ZeK∘Zfo∘Z7∘ZeK) ?_;refine xl (yo L (q:=900) Z Z Z Z Z) ((Zi∘Zc8∘ZR) ?_);exact xv L 900 (r:=xc bs _ tyI) (rs:=[.tmp 8,.tmp 9]) Z (fun _ _ h=>h) nq Z Z (fun _=>rfl)
 | false=>
  refine(ZP∘ZaP∘ZbV∘ZT∘ZeY∘ZT∘ZeY) ?_;refine z81 L Z (fun u H hH _=>js hc hH) ?_;refine(ZaN∘Zaf∘Z2∘Zb∘ZR) ?_;exact xv L 900 (r:=xc bs _ tyI) (rs:=[.tmp 8,.tmp 9]) Z (fun _ _ h=>h) nq Z Z (fun _=>rfl)
def Da(d:Array Int)(ha:a<m)(he:e<m):(order2 lt d a e k).1<m/\(order2 lt d a e k).2.1<m/\(order2 lt d a e k).2.2<=k+1:=by
 unfold order2;split
 ·exact⟨he,ha,nu _⟩
 ·exact⟨ha,he,zp5 _⟩
def o8{x y z:Nat}(hx:x<m)(hy:y<m)(hz:z<m)(hm:d.size=m)(hm1:m<=100000)(hk:k<=900)(hB:zth B w)(hb:B b=some (.cells (uC d++rest).toArray tyU))
  (hr:(xc bs [.int .i64 k] tyI).P B w C) (hC:ZCB C w B):
  RetX zti 290 [.slice (some ⟨b,0,none⟩) m cap,.int .i64 x,.int .i64 y,.int .i64 z,.pointer (some ⟨bs,0,none⟩)] w B C (xc bs [.int .i64 (median lt d x y z k).2] tyI) (.int .i64 (median lt d x y z k).1):=by
 unfold RetX;refine xa 900 (xc bs [.int .i64 k] tyI) Tryz.func290 Z Tryz.ntmps290 (np Z) hB hr hC ?_;rw[xd];unfold median;dsimp only;obtain⟨r1,hr1⟩:∃ r,r=order2 lt d x y k:=⟨_,rfl⟩
 rw[<-hr1];obtain⟨r2,hr2⟩:∃ r,r=order2 lt d r1.2.1 z r1.2.2:=⟨_,rfl⟩
 rw[<-hr2];obtain⟨r3,hr3⟩:∃ r,r=order2 lt d r1.1 r2.1 r2.2.2:=⟨_,rfl⟩
 rw[<-hr3];obtain⟨a1,a2,a3⟩:=hr1 ▸ Da d (k:=k) hx hy;obtain⟨b1,b2,b3⟩:=hr2 ▸ Da d (k:=r1.2.2) a2 hz;refine(Z4∘Zbt) ?_;refine qe (yh L 900 (xc bs [.int .i64 r1.2.2] tyI) (.tuple #[.int .i64 r1.1,.int .i64 r1.2.1]) (r:=xc bs [.int .i64 k] tyI) Z Z Z Z Z (fun u H C hH hle hr hC=>by have h:=G0 (rest:=rest) (cap:=cap) hx hy hm hm1 (k:=k) T hH (hle _ _ hb) hr hC;rw[<-hr1] at h;exact h)) ?_;refine(ZbB∘ZaR∘Zb) ?_;refine qe (yh L 900 (xc bs [.int .i64 r2.2.2] tyI) (.tuple #[.int .i64 r2.1,.int .i64 r2.2.1]) (r:=xc bs [.int .i64 r1.2.2] tyI) Z Z Z Z Z (fun u H C hH hle hr hC=>by have h:=G0 (rest:=rest) (cap:=cap) a2 hz hm hm1 (k:=r1.2.2) T hH (hle _ _ hb) hr hC;rw[<-hr2] at h;exact h)) ?_;refine(ZbB∘Zc8∘Zb) ?_;refine qe (yh L 900 (xc bs [.int .i64 r3.2.2] tyI) (.tuple #[.int .i64 r3.1,.int .i64 r3.2.1]) (r:=xc bs [.int .i64 r2.2.2] tyI) Z Z Z Z Z (fun u H C hH hle hr hC=>by have h:=G0 (rest:=rest) (cap:=cap) a1 b1 hm hm1 (k:=r2.2.2) T hH (hle _ _ hb) hr hC;rw[<-hr3] at h;exact h)) ?_;refine(ZbB∘Z0∘Zc) ?_;exact xv L 900 (r:=xc bs _ tyI) (rs:=[.tmp 10]) Z (fun _ _ h=>h) nq Z Z (fun _=>rfl)
def Yn(d:Array Int){x y z:Nat}(hx:x<m)(hy:y<m)(hz:z<m):(median lt d x y z k).1<m/\(median lt d x y z k).2<=k+3:=by
 unfold median;dsimp only;obtain⟨a1,a2,a3⟩:=Da d (k:=k) hx hy;obtain⟨b1,b2,b3⟩:=Da d (k:=(order2 lt d x y k).2.2) a2 hz;obtain⟨c1,c2,c3⟩:=Da d (k:=(order2 lt d (order2 lt d x y k).2.1 z (order2 lt d x y k).2.2).2.2) a1 b1;exact⟨c2,by omega⟩
def l4{x:Nat}(h1:1<=x)(hx:x+1<m)(hm:d.size=m)(hm1:m<=100000)(hk:k<=900)(hB:zth B w)(hb:B b=some (.cells (uC d++rest).toArray tyU))
  (hr:(xc bs [.int .i64 k] tyI).P B w C) (hC:ZCB C w B):
  RetX zti 289 [.slice (some ⟨b,0,none⟩) m cap,.int .i64 x,.pointer (some ⟨bs,0,none⟩)] w B C (xc bs [.int .i64 (medianAdjacent lt d x k).2] tyI) (.int .i64 (medianAdjacent lt d x k).1):=by
 unfold RetX;refine xa 900 (xc bs [.int .i64 k] tyI) Tryz.func289 Z Tryz.ntmps289 (np Z) hB hr hC ?_;rw[xd];unfold medianAdjacent;have hw1:IntKind.i64.wrap ((x:Int)-1)=((x-1:Nat):Int):=xb T T |>.trans T;have hw2:IntKind.i64.wrap ((x:Int)+1)=((x+1:Nat):Int):=xb T T;refine(Z4∘ZaA∘Zb∘Z7∘Za) ?_;refine qe (yh L 900 (xc bs [.int .i64 (median lt d (x-1) x (x+1) k).2] tyI) (.int .i64 (median lt d (x-1) x (x+1) k).1) (r:=xc bs [.int .i64 k] tyI) Z Z Z Z Z (fun u H C hH hle hr hC=>o8 (rest:=rest) (cap:=cap) T T T hm hm1 hk hH (hle _ _ hb) hr hC)) (Zc (h:=?_));exact xv L 900 (r:=xc bs _ tyI) (rs:=[.tmp 6]) Z (fun _ _ h=>h) nq Z Z (fun _=>rfl)
def _root_.ZdU(t:Wr Y->A:=by intro h;refine yd (qg L (q:=901) Z Z Z Z) ?_;exact h.1)(h:Y):A:=t ⟨h⟩
def Ho:Hint->Int
 | .unknown=>0
 | .increasing=>1
 | .decreasing=>2
def zhf(h12:12<e-a)(he:e<=m)(hm:d.size=m)(hm1:m<=100000)(hB:zth B w)(hb:B b=some (.cells (uC d++rest).toArray tyU)):
  Ret zti 274 [.slice (some ⟨b,0,none⟩) m cap,.int .i64 a,.int .i64 e] w B (fun v _=>v=.tuple #[.int .i64 (choosePivot lt d a e).1,.int .i64 (Ho (choosePivot lt d a e).2)]):=by
 obtain⟨Ln,rfl⟩:∃ Ln,e=a+Ln:=⟨e-a,by omega⟩
 rw[zs7] at h12;unfold choosePivot;rw[zs7];dsimp only;obtain⟨q,hq⟩:∃ q,q=Ln/4:=⟨_,rfl⟩
 rw[<-hq,na T];have hw0:IntKind.i64.wrap (((a+Ln:Nat):Int)-(a:Int))=(Ln:Int):=xb T T |>.trans T
 have et:((Ln:Nat):Int).tdiv 4=(q:Int):=by
  rw[zsd T];omega
 have hq1:IntKind.i64.wrap (((Ln:Nat):Int).tdiv 4)=(q:Int):=by rw[et];exact xb T T
 have m1:IntKind.i64.wrap ((q:Int)*1)=((q*1:Nat):Int):=xb T T |>.trans T;have m2:IntKind.i64.wrap ((q:Int)*2)=((q*2:Nat):Int):=xb T T |>.trans T;have m3:IntKind.i64.wrap ((q:Int)*3)=((q*3:Nat):Int):=xb T T |>.trans T;have p1:IntKind.i64.wrap ((a:Int)+((q*1:Nat):Int))=((a+q*1:Nat):Int):=xb T T |>.trans T;have p2:IntKind.i64.wrap ((a:Int)+((q*2:Nat):Int))=((a+q*2:Nat):Int):=xb T T |>.trans T;have p3:IntKind.i64.wrap ((a:Int)+((q*3:Nat):Int))=((a+q*3:Nat):Int):=xb T T |>.trans T;refine yn Tryz.func274 Z Tryz.ntmps274 (np Z) hB ((Zb2∘Zag∘ZaA∘Zd∘Z9∘Zca) ?_);refine k9 9 901 rfl fun bs=>?_;by_cases h50:Ln>=50
 ·rw[na h50];obtain⟨r1,hr1⟩:∃ r,r=medianAdjacent lt d (a+q*1) 0:=⟨_,rfl⟩
  rw[<-hr1];obtain⟨r2,hr2⟩:∃ r,r=medianAdjacent lt d (a+q*2) r1.2:=⟨_,rfl⟩
  rw[<-hr2];obtain⟨r3,hr3⟩:∃ r,r=medianAdjacent lt d (a+q*3) r2.2:=⟨_,rfl⟩
  rw[<-hr3];obtain⟨r4,hr4⟩:∃ r,r=median lt d r1.1 r2.1 r3.1 r3.2:=⟨_,rfl⟩
  rw[<-hr4];obtain⟨l1,s1⟩:r1.1<m/\r1.2<=0+3:=hr1 ▸ Yn d T T T;obtain⟨l2,s2⟩:r2.1<m/\r2.2<=r1.2+3:=hr2 ▸ Yn d T T T;obtain⟨l3,s3⟩:r3.1<m/\r3.2<=r2.2+3:=hr3 ▸ Yn d T T T;by_cases z0:r4.2=0
  ·rw[na z0];refine(Zc8∘Zcg∘Zd∘Z2∘Zb∘Zcg∘Zd∘Zt∘Zb∘Zcg∘Zj∘ZQ∘ZbZ∘Zf∘Z8∘Zb3∘ZD∘Zv∘Zb) ?_;refine qe (yh L 901 (xc bs [.int .i64 r1.2] tyI) (.int .i64 r1.1) (r:=xc bs [.int .i64 0] tyI) Z Z Z Z Z (fun u H C hH hle hr hC=>by have h:=l4 (rest:=rest) (cap:=cap) (d:=d) (x:=a+q*1) (k:=0) T T hm hm1 T hH (hle _ _ hb) hr hC;rw[<-hr1] at h;exact h)) ?_;refine(Zd∘ZM∘Zb) ?_;refine qe (yh L 901 (xc bs [.int .i64 r2.2] tyI) (.int .i64 r2.1) (r:=xc bs [.int .i64 r1.2] tyI) Z Z Z Z Z (fun u H C hH hle hr hC=>by have h:=l4 (rest:=rest) (cap:=cap) (d:=d) (x:=a+q*2) (k:=r1.2) T T hm hm1 T hH (hle _ _ hb) hr hC;rw[<-hr2] at h;exact h)) ?_;refine(Zc∘ZI∘Zb) ?_;refine qe (yh L 901 (xc bs [.int .i64 r3.2] tyI) (.int .i64 r3.1) (r:=xc bs [.int .i64 r2.2] tyI) Z Z Z Z Z (fun u H C hH hle hr hC=>by have h:=l4 (rest:=rest) (cap:=cap) (d:=d) (x:=a+q*3) (k:=r2.2) T T hm hm1 T hH (hle _ _ hb) hr hC;rw[<-hr3] at h;exact h)) ?_;refine(Zc∘ZY∘Zbt) ?_;refine qe (yh L 901 (xc bs [.int .i64 r4.2] tyI) (.int .i64 r4.1) (r:=xc bs [.int .i64 r3.2] tyI) Z Z Z Z Z (fun u H C hH hle hr hC=>by have h:=o8 (rest:=rest) (cap:=cap) (d:=d) (x:=r1.1) (y:=r2.1) (z:=r3.1) (k:=r3.2) T T T hm hm1 T hH (hle _ _ hb) hr hC;rw[<-hr4] at h;exact h)) ?_;refine(Zd∘Zaa∘ZdU∘ZF∘ZH∘Za5∘ZW∘Zcd∘Ze∘Zao∘Za∘ZR) ?_;exact yj2 L [.tmp 6,.tmp 7]
  ·rw[nc z0];by_cases z12:r4.2=12
   ·rw[na z12];refine(Zc8∘Zcg∘Zd∘Z2∘Zb∘Zcg∘Zd∘Zt∘Zb∘Zcg∘Zj∘ZQ∘ZbZ∘Zf∘Z8∘Zb3∘ZD∘Zv∘Zb) ?_;refine qe (yh L 901 (xc bs [.int .i64 r1.2] tyI) (.int .i64 r1.1) (r:=xc bs [.int .i64 0] tyI) Z Z Z Z Z (fun u H C hH hle hr hC=>by have h:=l4 (rest:=rest) (cap:=cap) (d:=d) (x:=a+q*1) (k:=0) T T hm hm1 T hH (hle _ _ hb) hr hC;rw[<-hr1] at h;exact h)) ?_;refine(Zd∘ZM∘Zb) ?_;refine qe (yh L 901 (xc bs [.int .i64 r2.2] tyI) (.int .i64 r2.1) (r:=xc bs [.int .i64 r1.2] tyI) Z Z Z Z Z (fun u H C hH hle hr hC=>by have h:=l4 (rest:=rest) (cap:=cap) (d:=d) (x:=a+q*2) (k:=r1.2) T T hm hm1 T hH (hle _ _ hb) hr hC;rw[<-hr2] at h;exact h)) ?_;refine(Zc∘ZI∘Zb) ?_;refine qe (yh L 901 (xc bs [.int .i64 r3.2] tyI) (.int .i64 r3.1) (r:=xc bs [.int .i64 r2.2] tyI) Z Z Z Z Z (fun u H C hH hle hr hC=>by have h:=l4 (rest:=rest) (cap:=cap) (d:=d) (x:=a+q*3) (k:=r2.2) T T hm hm1 T hH (hle _ _ hb) hr hC;rw[<-hr3] at h;exact h)) ?_;refine(Zc∘ZY∘Zbt) ?_;refine qe (yh L 901 (xc bs [.int .i64 r4.2] tyI) (.int .i64 r4.1) (r:=xc bs [.int .i64 r3.2] tyI) Z Z Z Z Z (fun u H C hH hle hr hC=>by have h:=o8 (rest:=rest) (cap:=cap) (d:=d) (x:=r1.1) (y:=r2.1) (z:=r3.1) (k:=r3.2) T T T hm hm1 T hH (hle _ _ hb) hr hC;rw[<-hr4] at h;exact h)) ?_;refine(Zd∘Zaa∘ZdU∘ZF∘ZH∘Za5∘Zx∘Za6∘Zar∘ZW∘Zcd∘Ze∘Zbv∘Za∘ZR) ?_;exact yj2 L [.tmp 6,.tmp 7]
   ·rw[nc z12];refine(Zc8∘Zcg∘Zd∘Z2∘Zb∘Zcg∘Zd∘Zt∘Zb∘Zcg∘Zj∘ZQ∘ZbZ∘Zf∘Z8∘Zb3∘ZD∘Zv∘Zb) ?_;refine qe (yh L 901 (xc bs [.int .i64 r1.2] tyI) (.int .i64 r1.1) (r:=xc bs [.int .i64 0] tyI) Z Z Z Z Z (fun u H C hH hle hr hC=>by have h:=l4 (rest:=rest) (cap:=cap) (d:=d) (x:=a+q*1) (k:=0) T T hm hm1 T hH (hle _ _ hb) hr hC;rw[<-hr1] at h;exact h)) ?_;refine(Zd∘ZM∘Zb) ?_;refine qe (yh L 901 (xc bs [.int .i64 r2.2] tyI) (.int .i64 r2.1) (r:=xc bs [.int .i64 r1.2] tyI) Z Z Z Z Z (fun u H C hH hle hr hC=>by have h:=l4 (rest:=rest) (cap:=cap) (d:=d) (x:=a+q*2) (k:=r1.2) T T hm hm1 T hH (hle _ _ hb) hr hC;rw[<-hr2] at h;exact h)) ?_;refine(Zc∘ZI∘Zb) ?_;refine qe (yh L 901 (xc bs [.int .i64 r3.2] tyI) (.int .i64 r3.1) (r:=xc bs [.int .i64 r2.2] tyI) Z Z Z Z Z (fun u H C hH hle hr hC=>by have h:=l4 (rest:=rest) (cap:=cap) (d:=d) (x:=a+q*3) (k:=r2.2) T T hm hm1 T hH (hle _ _ hb) hr hC;rw[<-hr3] at h;exact h)) ?_;refine(Zc∘ZY∘Zbt) ?_;refine qe (yh L 901 (xc bs [.int .i64 r4.2] tyI) (.int .i64 r4.1) (r:=xc bs [.int .i64 r3.2] tyI) Z Z Z Z Z (fun u H C hH hle hr hC=>by have h:=o8 (rest:=rest) (cap:=cap) (d:=d) (x:=r1.1) (y:=r2.1) (z:=r3.1) (k:=r3.2) T T T hm hm1 T hH (hle _ _ hb) hr hC;rw[<-hr4] at h;exact h)) ?_;refine(Zd∘Zaa∘ZdU∘ZF∘ZH∘Za5∘Zx∘Za6∘Zar∘Zx∘Za6∘Zak∘Za∘ZR) ?_;exact yj2 L [.tmp 6,.tmp 7]
 ·rw[nc h50];obtain⟨r4,hr4⟩:∃ r,r=median lt d (a+q*1) (a+q*2) (a+q*3) 0:=⟨_,rfl⟩
  rw[<-hr4];by_cases z0:r4.2=0
  ·rw[na z0];refine(Zc8∘Zcg∘Zd∘Z2∘Zb∘Zcg∘Zd∘Zt∘Zb∘Zcg∘Zj∘ZQ∘ZbZ∘Zf∘Z8∘Za4∘Zae∘Zbi∘ZY∘Zbt) ?_;refine qe (yh L 901 (xc bs [.int .i64 r4.2] tyI) (.int .i64 r4.1) (r:=xc bs [.int .i64 0] tyI) Z Z Z Z Z (fun u H C hH hle hr hC=>by have h:=o8 (rest:=rest) (cap:=cap) (d:=d) (x:=a+q*1) (y:=a+q*2) (z:=a+q*3) (k:=0) T T T hm hm1 T hH (hle _ _ hb) hr hC;rw[<-hr4] at h;exact h)) ?_;refine(Zd∘Zaa∘ZdU∘ZF∘ZH∘Za5∘ZW∘Zcd∘Ze∘Zao∘Za∘ZR) ?_;exact yj2 L [.tmp 6,.tmp 7]
  ·rw[nc z0];by_cases z12:r4.2=12
   ·rw[na z12];refine(Zc8∘Zcg∘Zd∘Z2∘Zb∘Zcg∘Zd∘Zt∘Zb∘Zcg∘Zj∘ZQ∘ZbZ∘Zf∘Z8∘Za4∘Zae∘Zbi∘ZY∘Zbt) ?_;refine qe (yh L 901 (xc bs [.int .i64 r4.2] tyI) (.int .i64 r4.1) (r:=xc bs [.int .i64 0] tyI) Z Z Z Z Z (fun u H C hH hle hr hC=>by have h:=o8 (rest:=rest) (cap:=cap) (d:=d) (x:=a+q*1) (y:=a+q*2) (z:=a+q*3) (k:=0) T T T hm hm1 T hH (hle _ _ hb) hr hC;rw[<-hr4] at h;exact h)) ?_;refine(Zd∘Zaa∘ZdU∘ZF∘ZH∘Za5∘Zx∘Za6∘Zar∘ZW∘Zcd∘Ze∘Zbv∘Za∘ZR) ?_;exact yj2 L [.tmp 6,.tmp 7]
   ·rw[nc z12];refine(Zc8∘Zcg∘Zd∘Z2∘Zb∘Zcg∘Zd∘Zt∘Zb∘Zcg∘Zj∘ZQ∘ZbZ∘Zf∘Z8∘Za4∘Zae∘Zbi∘ZY∘Zbt) ?_;refine qe (yh L 901 (xc bs [.int .i64 r4.2] tyI) (.int .i64 r4.1) (r:=xc bs [.int .i64 0] tyI) Z Z Z Z Z (fun u H C hH hle hr hC=>by have h:=o8 (rest:=rest) (cap:=cap) (d:=d) (x:=a+q*1) (y:=a+q*2) (z:=a+q*3) (k:=0) T T T hm hm1 T hH (hle _ _ hb) hr hC;rw[<-hr4] at h;exact h)) ?_;refine(Zd∘Zaa∘ZdU∘ZF∘ZH∘Za5∘Zx∘Za6∘Zar∘Zx∘Za6∘Zak∘Za∘ZR) ?_;exact yj2 L [.tmp 6,.tmp 7]
def _root_.ZdI(t:Wr Y->A:=by intro h;refine qo (id:=17) [(200080,[900]),(200084,[900])] ki J ?_;exact h.1)(h:Y):A:=t ⟨h⟩
def _root_.ZdA(t:Wr Y->A:=by intro h;refine ze (id:=23) ?_;exact h.1)(h:Y):A:=t ⟨h⟩
def _root_.Zeh(t:Wr Y->A:=by intro h;refine ze (id:=30) ?_;refine Za (h:=?_);exact h.1)(h:Y):A:=t ⟨h⟩
def zab{h:Hint}:Ho h=2↔h=.decreasing:=by cases h<;>simp [Ho]
def zh5{cs:List Value}{ty:TypeId}:∀ v H u C,(xp b cs ty).P v H u C->joinH H u C b=some (.cells cs.toArray ty):=fun _ _ _ _ ⟨hb,hC⟩=>(d9 ((hC b).2 rfl)).trans hb
def zhl:∀ (N:Nat) {d:Array Int} {rest:List Value} {b m cap a e lim:Nat} (_:e-a<N) (_:a<=e) (_:e<=m) (_:d.size=m) (_:m<=100000) (_:lim<=1000) (_:Below lt a e d) {w:World} {B:Heap} {C:Nat->Prop} (_:zth B w)
  (_:(xc b (uC d++rest) tyU).P B w C) (_:ZCB C w B),
  kx zti 247 [.slice (some ⟨b,0,none⟩) m cap,.int .i64 a,.int .i64 e,.int .i64 lim] w B C (xc b (uC (pdq lt d a e lim true true)++rest) tyU):=by
 intro N
 induction N with
 | zero=>intro d rest b m cap a e lim h;omega
 | succ N ih=>
 intro d rest b m cap a e lim hN hab he hm hm1 hlim hBel w B C hB hr hC;unfold kx;refine xa 900 (xc b (uC d++rest) tyU) Tryz.func247 Z Tryz.ntmps247 (np Z) hB hr hC ?_;rw[xd];obtain⟨X,hX⟩:∃ X,X=pdq lt d a e lim true true:=⟨_,rfl⟩
 rw[<-hX];refine(Z4∘ZaJ) ?_
 refine xm (fun s:((Nat×Nat)×Nat)×((Bool×Bool)×Array Int)=>[(0,.is (.slice (some ⟨b,0,none⟩) m cap)),(1,.is (.int .i64 s.1.1.1)),(2,.is (.int .i64 s.1.1.2)),(3,.is (.int .i64 s.1.2)),(8,.is (.bool s.2.1.1)),(9,.is (.bool s.2.1.2)),(900,.own (xp b (uC s.2.2++rest) tyU))])
  (fun s=>s.1.1.1<=s.1.1.2/\s.1.1.2<=m/\s.1.1.2-s.1.1.1<=e-a/\s.1.2<=1000/\s.2.2.size=m/\Below lt s.1.1.1 s.1.1.2 s.2.2/\pdq lt s.2.2 s.1.1.1 s.1.1.2 s.1.2 s.2.1.1 s.2.1.2=X) (fun s=>s.1.1.2-s.1.1.1) (((a,e),lim),((true,true),d)) ⟨hab,he,nu _,hlim,hm,hBel,hX.symm⟩ ⟨rfl,rfl,rfl,rfl,rfl,rfl,rfl,nm⟩ ?_
 rintro⟨⟨⟨x,y⟩,l⟩,⟨⟨wb,wp⟩,D⟩⟩ ⟨hxy,hy,hL,hl,hD,hBl,hP⟩;dsimp only at hxy hy hL hl hD hBl hP |-;clear hX hBel hm;have hw0:IntKind.i64.wrap ((y:Int)-(x:Int))=((y-x:Nat):Int):=xb T T |>.trans T;by_cases h12:y-x<=12
 ·rw[pdq_small h12] at hP;rw[<-hP];refine(ZH∘Z9∘ZaA∘Zj∘ZA∘ZcF∘ZD∘Z2∘Z3) ?_;refine qe (yx L 900 (xc b (uC (insertionSort lt D x y)++rest) tyU) (r:=xc b (uC D++rest) tyU) Z Z Z Z Z (fun u H C hH _ hr hC=>ins_ret hxy T hD hm1 hH hr hC)) (ZF (h:=?_));exact jj L 900 (r:=xc b _ tyU) Z (fun _ _ h=>h) nq Z Z
 ·by_cases hl0:l=0
  ·rw[pdq_heap h12 hl0] at hP;rw[<-hP];refine(ZH∘Z9∘ZaA∘Zj∘ZA∘Zc7∘Z1∘ZU∘ZW∘ZD∘Zs∘Z3) ?_;refine qe (yx L 900 (xc b (uC (heapSort lt D x y)++rest) tyU) (r:=xc b (uC D++rest) tyU) Z Z Z Z Z (fun u H C hH _ hr hC=>zd0 T T hD hm1 hH hr hC)) (ZF (h:=?_));exact jj L 900 (r:=xc b _ tyU) Z (fun _ _ h=>h) nq Z Z
  ·obtain⟨s1,B1,hc1,s2,B2,hpv,s3,B3⟩:=rd_facts (lt:=lt) (limit:=l) (wb:=wb) (wp:=wp) swo_ltInt partialInsertionSort_holds reverseRange_holds (show x<y by omega) (show y<=D.size by omega) hBl;have hlle:(rd lt D x y l wb wp).lim<=1000:=mp rd_lim_le hl;have hdone:=fun h=>pdq_done (lt:=lt) (d:=D) (wb:=wb) (wp:=wp) h12 hl0 h;have heq:=fun h1 h2 h3=>pdq_eq (lt:=lt) (d:=D) (wb:=wb) (wp:=wp) h12 hl0 h1 h2 h3;have hleft:=fun h1 h2 h3 h4=>pdq_left (lt:=lt) (d:=D) (wb:=wb) (wp:=wp) h12 hl0 h1 h2 h3 h4;have hright:=fun h1 h2 h3 h4=>pdq_right (lt:=lt) (d:=D) (wb:=wb) (wp:=wp) h12 hl0 h1 h2 h3 h4;have hrt:wb=true->(rd lt D x y l wb wp).d1=D/\(rd lt D x y l wb wp).lim=l:=fun e=>by subst e;exact rd_true
   have hrf:wb=false->(rd lt D x y l wb wp).d1=breakPatterns D x y/\(rd lt D x y l wb wp).lim=l-1:=fun e=>by subst e;exact rd_false
   have hrc:=rd_c (lt:=lt) (d:=D) (a:=x) (b:=y) (limit:=l) (wb:=wb) (wp:=wp);have hde:=fun h=>rd_dec (lt:=lt) (d:=D) (a:=x) (b:=y) (limit:=l) (wb:=wb) (wp:=wp) h;have hno:=fun h=>rd_not (lt:=lt) (d:=D) (a:=x) (b:=y) (limit:=l) (wb:=wb) (wp:=wp) h;have hpy:=fun h=>rd_pi_yes (lt:=lt) (d:=D) (a:=x) (b:=y) (limit:=l) (wb:=wb) (wp:=wp) h;have hpn:=fun h=>rd_pi_no (lt:=lt) (d:=D) (a:=x) (b:=y) (limit:=l) (wb:=wb) (wp:=wp) h;rw[hP] at hdone heq hleft hright;generalize (rd lt D x y l wb wp)=R at *;refine(ZH∘Z9∘ZaA∘Zj∘ZA∘Zc7∘Z1∘ZU∘Zx∘Z1) ?_;refine rj (fun _:Unit=>[(0,.is (.slice (some ⟨b,0,none⟩) m cap)),(1,.is (.int .i64 x)),(2,.is (.int .i64 y)),(3,.is (.int .i64 R.lim)),(8,.is (.bool wb)),(9,.is (.bool wp)),(10,.is (.int .i64 (y-x:Nat))),(900,.own (xp b (uC R.d1++rest) tyU))]) (fun _=>True) (fun _=>[]) ?rest1 ?first1
   case first1=>
    cases wb with
    | true=>
     obtain⟨e1,e2⟩:=hrt rfl;rw[e1,e2];refine(Z8∘Zr∘Zae) ?_;exact jz () nq trivial Z ⟨Z,Z,Z,Z,Z,Z,Z,Z,nm⟩
    | false=>
     obtain⟨e1,e2⟩:=hrf rfl;have hw1:IntKind.i64.wrap ((l:Int)-1)=((l-1:Nat):Int):=xb T T |>.trans T;rw[e1,e2];refine(Z8∘Zr∘ZD∘Zv∘Z3) ?_;refine qe (yx L 900 (xc b (uC (breakPatterns D x y)++rest) tyU) (r:=xc b (uC D++rest) tyU) Z Z Z Z Z (fun u H C hH _ hr hC=>zi3 T T hD hm1 hH hr hC)) ((ZF∘Zal∘Za9∘Zbw) ?_);exact jz () nq trivial Z ⟨Z,Z,Z,Z,Z,Z,Z,Z,nm⟩
   intro _ _;refine(Ze∘ZI∘Z3) ?_;refine yd (xx L 900 (Φ:=fun H=>H b=some (.cells (uC R.d1++rest).toArray tyU)) (c:=.tuple #[.int .i64 R.c.1,.int .i64 (Ho R.c.2)]) Z Z (zm Z) Z Z Z Z Z zh5 (fun u H hH hle h1=>by rw[hrc];exact zhf T hy T hm1 hH h1)) ?_;refine(ZB∘ZaP) ?_;refine rj (fun _:Unit=>[(0,.is (.slice (some ⟨b,0,none⟩) m cap)),(1,.is (.int .i64 x)),(2,.is (.int .i64 y)),(3,.is (.int .i64 R.lim)),(8,.is (.bool wb)),(9,.is (.bool wp)),(10,.is (.int .i64 (y-x:Nat))),(11,.is (.int .i64 R.pivot)),(12,.is (.int .i64 (Ho R.hint))),(900,.own (xp b (uC R.d2++rest) tyU))]) (fun _=>True) (fun _=>[]) ?rest2 ?first2
   case first2=>
    by_cases hdec:R.c.2=.decreasing
    ·obtain⟨e1,e2,e3⟩:=hde hdec;have hz:Ho R.c.2=2:=by rw[hdec];rfl
     rw[e1,e2,e3];have w1:IntKind.i64.wrap ((y:Int)-1)=((y-1:Nat):Int):=xb T T |>.trans T;have w2:IntKind.i64.wrap ((R.c.1:Int)-(x:Int))=((R.c.1-x:Nat):Int):=xb T T |>.trans T;have w3:IntKind.i64.wrap (((y-1:Nat):Int)-((R.c.1-x:Nat):Int))=((y-1-(R.c.1-x):Nat):Int):=xb T T |>.trans T;refine(ZY∘Za∘ZW∘ZD∘Zaa∘Z3) ?_;refine qe (yx L 900 (xc b (uC (reverseRange R.d1 x y)++rest) tyU) (r:=xc b (uC R.d1++rest) tyU) Z Z Z Z Z (fun u H C hH _ hr hC=>zg9 T T T hm1 hH hr hC)) ((Zi∘Zak∘Za∘Za9∘ZaA∘Za9∘Zc∘Za5∘Zbw) ?_);exact jz () nq trivial Z ⟨Z,Z,Z,Z,Z,Z,Z,Z,Z,Z,nm⟩
    ·obtain⟨e1,e2,e3⟩:=hno hdec;have hz:Ho R.c.2≠2:=fun h=>hdec (zab.1 h);rw[e1,e2,e3];refine(ZY∘Za∘Zx∘Zae) ?_;exact jz () nq trivial Z ⟨Z,Z,Z,Z,Z,Z,Z,Z,Z,Z,nm⟩
   intro _ _;refine zj (zj (rj (fun _:Unit=>[(0,.is (.slice (some ⟨b,0,none⟩) m cap)),(1,.is (.int .i64 x)),(2,.is (.int .i64 y)),(3,.is (.int .i64 R.lim)),(8,.is (.bool wb)),(9,.is (.bool wp)),(10,.is (.int .i64 (y-x:Nat))),(11,.is (.int .i64 R.pivot)),(900,.own (xp b (uC R.pi.1++rest) tyU))]) (fun _=>R.pi.2=false) (fun _=>[]) ?rest3 ?first3))
   case first3=>
    cases wb with
    | false=>
     have hpi:=hpn rfl;rw[hpi];refine(Zao∘Zb∘ZaF∘ZcE∘Zh∘Zae) ?_;exact jz () nq Z Z ⟨Z,Z,Z,Z,Z,Z,Z,Z,Z,nm⟩
    | true=>
     cases wp with
     | false=>
      have hpi:=hpn rfl;rw[hpi];refine(Zao∘Z3∘Zh∘ZcE∘Zh∘Zae) ?_;exact jz () nq Z Z ⟨Z,Z,Z,Z,Z,Z,Z,Z,Z,nm⟩
     | true=>
      by_cases hi:R.hint=.increasing
      ·have hz:Ho R.hint=1:=by rw[hi];rfl
       have hpi:=hpy (by rw[hi];rfl)
       cases hb:(partialInsertionSort lt R.d2 x y).2 with
       | true=>
        rw[hdone (by rw[hpi];exact hb)];refine(Zao∘Z3∘ZbC∘ZW∘Zbb∘Zar∘Z3) ?_;refine qe (yh L 900 (xc b (uC R.pi.1++rest) tyU) (.bool true) (r:=xc b (uC R.d2++rest) tyU) Z Z Z Z Z (fun u H C hH hle hr hC=>by have h:=pins_ret (rest:=rest) (cap:=cap) (d:=R.d2) (a:=x) (e:=y) (m:=m) T T T hm1 hH hr hC;rw[hb,<-hpi] at h;exact h)) ?_;refine Zw (h:=?_);exact jj L 900 (r:=xc b _ tyU) Z (fun _ _ h=>h) nq Z Z
       | false=>
        refine(Zao∘Z3∘ZbC∘ZW∘Zbb∘Zar∘Z3) ?_;refine qe (yh L 900 (xc b (uC R.pi.1++rest) tyU) (.bool false) (r:=xc b (uC R.d2++rest) tyU) Z Z Z Z Z (fun u H C hH hle hr hC=>by have h:=pins_ret (rest:=rest) (cap:=cap) (d:=R.d2) (a:=x) (e:=y) (m:=m) T T T hm1 hH hr hC;rw[hb,<-hpi] at h;exact h)) ?_;refine Zae (h:=?_);exact jz () nq (by rw[hpi];exact hb) Z ⟨Z,Z,Z,Z,Z,Z,Z,Z,Z,nm⟩
      ·have hz:Ho R.hint≠1:=fun h=>by
        cases hh:R.hint with
        | unknown=>rw[hh] at h;cases h
        | increasing=>exact hi hh
        | decreasing=>rw[hh] at h;cases h
       have hpi:=hpn (by simp [hi]);rw[hpi];refine(Zao∘Z3∘ZbC∘Zx∘Zh∘Zae) ?_;exact jz () nq Z Z ⟨Z,Z,Z,Z,Z,Z,Z,Z,Z,nm⟩
   intro _ h2;obtain⟨_,q2⟩:=gk (rest:=rest) (show R.pivot<R.pi.1.size by omega) (0+(R.pivot)*1) rfl;by_cases hx0:0<x
   ·obtain⟨_,q1⟩:=gk (rest:=rest) (show x-1<R.pi.1.size by omega) (0+(x-1)*1) rfl;have hw3:IntKind.i64.wrap ((x:Int)-1)=((x-1:Nat):Int):=xb T T |>.trans T
    cases hc:lt R.pi.1[x-1]! R.pi.1[R.pivot]! with
    | false=>
     obtain⟨mid,d4,hx⟩:∃ mid d4,partitionEqual lt R.pi.1 x y R.pivot=(mid,d4):=⟨_,_,rfl⟩
     obtain⟨g1,g2,g3,g4,_⟩:=round_eq swo_ltInt (partitionEqual_holds lt) hx0 hpv.1 hpv.2 T B3 hc hx;have hn:=heq h2 (by simp [hx0,hc]) (by rw[hx];exact⟨g1,g2⟩);rw[hx] at hn;refine(Zf∘ZdI∘Zl∘Zdm∘Zbh∘Zd6∘Zp) ?_;refine qz (qg L (q:=900) Z Z Z q1) Z Z (ZT (h:=?_));refine qz (qg L (q:=900) Z Z Z q2) Z Z (z81 L Z (fun u H hH _=>js hc hH) ?_);refine(Za8∘Zcc∘Ze∘ZaV∘Zbt) ?_;refine qe (yh L 900 (xc b (uC d4++rest) tyU) (.int .i64 mid) (r:=xc b (uC R.pi.1++rest) tyU) Z Z Z Z Z (fun u H C hH hle hr hC=>by have h:=zhk (rest:=rest) (cap:=cap) (d:=R.pi.1) hpv.1 hpv.2 T (m:=m) T hm1 hH hr hC;rw[hx] at h;exact h)) ?_;refine(Zd∘Zcz∘Za∘Zc∘Zel∘Zdk) ?_;exact ym (x:=(((x,y),l),((wb,wp),D))) (((mid,y),R.lim),((wb,wp),d4)) ⟨by dsimp only;omega,hy,by dsimp only;omega,hlle,by dsimp only;omega,g4,hn.symm⟩ G ⟨Z,Z,Z,Z,Z,Z,Z,trivial⟩
    | true=>
     have h2b:(decide (x>0) && !lt R.pi.1[x-1]! R.pi.1[R.pivot]!)=false:=by simp [hc]
     obtain⟨mid,ap,d4,hx⟩:∃ mid ap d4,Go.Sort.partition lt R.pi.1 x y R.pivot=(mid,ap,d4):=⟨_,_,_,rfl⟩
     obtain⟨g1,g2,g3,g4,g5,gL,gR⟩:=round_part swo_ltInt (partition_holds lt) hpv.1 hpv.2 T B3 hx;have w1:IntKind.i64.wrap ((mid:Int)-(x:Int))=((mid-x:Nat):Int):=xb T T |>.trans T;have w2:IntKind.i64.wrap ((y:Int)-(mid:Int))=((y-mid:Nat):Int):=xb T T |>.trans T;have w4:IntKind.i64.wrap ((mid:Int)+1)=((mid+1:Nat):Int):=xb T T
     have et:((y-x:Nat):Int).tdiv 8=(((y-x)/8:Nat):Int):=by
      rw[zsd T];omega
     have w3:IntKind.i64.wrap (((y-x:Nat):Int).tdiv 8)=(((y-x)/8:Nat):Int):=by rw[et];exact xb T T
     by_cases hlr:mid-x<y-mid
     ·have hn:=hleft h2 h2b (by rw[hx];exact⟨g1,g2⟩) (by rw[hx];exact hlr);rw[hx] at hn;dsimp only at hn;obtain⟨pL,sL⟩:=pdq_sorts lt swo_ltInt d4 x mid R.lim true true g1 T g4;obtain⟨LL,hLL⟩:∃ LL,LL=pdq lt d4 x mid R.lim true true:=⟨_,rfl⟩
      rw[<-hLL] at hn pL sL;obtain⟨gB,_⟩:=gL LL pL sL;have hLs:LL.size=d4.size:=pL.1;by_cases h8:mid-x>=(y-x)/8
      ·rw[nf h8] at hn;refine(Zf∘ZdI∘Zl∘Zdm∘Zbh∘Zd6∘Zp) ?_;refine qz (qg L (q:=900) Z Z Z q1) Z Z (ZT (h:=?_));refine qz (qg L (q:=900) Z Z Z q2) Z Z (z81 L Z (fun u H hH _=>js hc hH) ?_);refine(Za8∘Za3∘Zaf∘Zbe∘Zbt) ?_;refine qe (yh L 900 (xc b (uC d4++rest) tyU) (.tuple #[.int .i64 mid,.bool ap]) (r:=xc b (uC R.pi.1++rest) tyU) Z Z Z Z Z (fun u H C hH hle hr hC=>by have h:=dz (rest:=rest) (cap:=cap) (d:=R.pi.1) hpv.1 hpv.2 T (m:=m) T hm1 hH hr hC;rw[hx] at h;exact h)) ?_;refine(ZbB∘Zc0∘Za∘Zd∘ZcY∘ZaA∘ZaA∘ZaS∘ZdA∘Za∘ZcZ∘Zd∘Zdv∘Zb∘ZN∘ZD) ?_;refine ze (id:=25) ((Zb∘Zb3∘Zd) ?_);refine ze (id:=26) (Zbt (h:=?_));refine qe (yx L 900 (xc b (uC LL++rest) tyU) (r:=xc b (uC d4++rest) tyU) Z Z Z Z Z (fun u H C hH _ hr hC=>by rw[hLL];exact ih T g1 T T hm1 hlle g4 hH hr hC)) ?_;refine ZF (h:=?_);refine ze (id:=27) ((Za∘Z7∘Zai) ?_);exact ym (x:=(((x,y),l),((wb,wp),D))) (((mid+1,y),R.lim),((true,ap),LL)) ⟨by dsimp only;omega,hy,by dsimp only;omega,hlle,by dsimp only;omega,gB,hn.symm⟩ G ⟨Z,Z,Z,Z,Z,Z,Z,trivial⟩
      ·rw[ng h8] at hn;refine(Zf∘ZdI∘Zl∘Zdm∘Zbh∘Zd6∘Zp) ?_;refine qz (qg L (q:=900) Z Z Z q1) Z Z (ZT (h:=?_));refine qz (qg L (q:=900) Z Z Z q2) Z Z (z81 L Z (fun u H hH _=>js hc hH) ?_);refine(Za8∘Za3∘Zaf∘Zbe∘Zbt) ?_;refine qe (yh L 900 (xc b (uC d4++rest) tyU) (.tuple #[.int .i64 mid,.bool ap]) (r:=xc b (uC R.pi.1++rest) tyU) Z Z Z Z Z (fun u H C hH hle hr hC=>by have h:=dz (rest:=rest) (cap:=cap) (d:=R.pi.1) hpv.1 hpv.2 T (m:=m) T hm1 hH hr hC;rw[hx] at h;exact h)) ?_;refine(ZbB∘Zc0∘Za∘Zd∘ZcY∘ZaA∘ZaA∘ZaS∘ZdA∘Za∘ZcZ∘Zd∘Zdv∘Zb∘ZN∘ZD) ?_;refine ze (id:=25) ((Zb∘Za4∘Zd) ?_);refine ze (id:=26) (Zbt (h:=?_));refine qe (yx L 900 (xc b (uC LL++rest) tyU) (r:=xc b (uC d4++rest) tyU) Z Z Z Z Z (fun u H C hH _ hr hC=>by rw[hLL];exact ih T g1 T T hm1 hlle g4 hH hr hC)) ?_;refine ZF (h:=?_);refine ze (id:=27) ((Za∘Z7∘Zai) ?_);exact ym (x:=(((x,y),l),((wb,wp),D))) (((mid+1,y),R.lim),((false,ap),LL)) ⟨by dsimp only;omega,hy,by dsimp only;omega,hlle,by dsimp only;omega,gB,hn.symm⟩ G ⟨Z,Z,Z,Z,Z,Z,Z,trivial⟩
     ·have hn:=hright h2 h2b (by rw[hx];exact⟨g1,g2⟩) (by rw[hx];exact hlr);rw[hx] at hn;dsimp only at hn;obtain⟨pL,sL⟩:=pdq_sorts lt swo_ltInt d4 (mid+1) y R.lim true true T T g5;obtain⟨LL,hLL⟩:∃ LL,LL=pdq lt d4 (mid+1) y R.lim true true:=⟨_,rfl⟩
      rw[<-hLL] at hn pL sL;obtain⟨gB,_⟩:=gR LL pL sL;have hLs:LL.size=d4.size:=pL.1;by_cases h8:y-mid>=(y-x)/8
      ·rw[nf h8] at hn;refine(Zf∘ZdI∘Zl∘Zdm∘Zbh∘Zd6∘Zp) ?_;refine qz (qg L (q:=900) Z Z Z q1) Z Z (ZT (h:=?_));refine qz (qg L (q:=900) Z Z Z q2) Z Z (z81 L Z (fun u H hH _=>js hc hH) ?_);refine(Za8∘Za3∘Zaf∘Zbe∘Zbt) ?_;refine qe (yh L 900 (xc b (uC d4++rest) tyU) (.tuple #[.int .i64 mid,.bool ap]) (r:=xc b (uC R.pi.1++rest) tyU) Z Z Z Z Z (fun u H C hH hle hr hC=>by have h:=dz (rest:=rest) (cap:=cap) (d:=R.pi.1) hpv.1 hpv.2 T (m:=m) T hm1 hH hr hC;rw[hx] at h;exact h)) ?_;refine(ZbB∘Zc0∘Za∘Zd∘ZcY∘ZaA∘ZaA∘ZaS∘ZdA∘Za∘ZcZ∘Zd∘Zdv∘ZbA∘ZcV) ?_;refine ze (id:=28) ((Zb∘Zb3∘Zd) ?_);refine ze (id:=29) ((Zb∘Z7∘Zb) ?_);refine qe (yx L 900 (xc b (uC LL++rest) tyU) (r:=xc b (uC d4++rest) tyU) Z Z Z Z Z (fun u H C hH _ hr hC=>by rw[hLL];exact ih T T hy T hm1 hlle g5 hH hr hC)) ?_;refine(ZF∘Zeh∘Zai) ?_;exact ym (x:=(((x,y),l),((wb,wp),D))) (((x,mid),R.lim),((true,ap),LL)) ⟨by dsimp only;omega,by dsimp only;omega,by dsimp only;omega,hlle,by dsimp only;omega,gB,hn.symm⟩ G ⟨Z,Z,Z,Z,Z,Z,Z,trivial⟩
      ·rw[ng h8] at hn;refine(Zf∘ZdI∘Zl∘Zdm∘Zbh∘Zd6∘Zp) ?_;refine qz (qg L (q:=900) Z Z Z q1) Z Z (ZT (h:=?_));refine qz (qg L (q:=900) Z Z Z q2) Z Z (z81 L Z (fun u H hH _=>js hc hH) ?_);refine(Za8∘Za3∘Zaf∘Zbe∘Zbt) ?_;refine qe (yh L 900 (xc b (uC d4++rest) tyU) (.tuple #[.int .i64 mid,.bool ap]) (r:=xc b (uC R.pi.1++rest) tyU) Z Z Z Z Z (fun u H C hH hle hr hC=>by have h:=dz (rest:=rest) (cap:=cap) (d:=R.pi.1) hpv.1 hpv.2 T (m:=m) T hm1 hH hr hC;rw[hx] at h;exact h)) ?_;refine(ZbB∘Zc0∘Za∘Zd∘ZcY∘ZaA∘ZaA∘ZaS∘ZdA∘Za∘ZcZ∘Zd∘Zdv∘ZbA∘ZcV) ?_;refine ze (id:=28) ((Zb∘Za4∘Zd) ?_);refine ze (id:=29) ((Zb∘Z7∘Zb) ?_);refine qe (yx L 900 (xc b (uC LL++rest) tyU) (r:=xc b (uC d4++rest) tyU) Z Z Z Z Z (fun u H C hH _ hr hC=>by rw[hLL];exact ih T T hy T hm1 hlle g5 hH hr hC)) ?_;refine(ZF∘Zeh∘Zai) ?_;exact ym (x:=(((x,y),l),((wb,wp),D))) (((x,mid),R.lim),((false,ap),LL)) ⟨by dsimp only;omega,by dsimp only;omega,by dsimp only;omega,hlle,by dsimp only;omega,gB,hn.symm⟩ G ⟨Z,Z,Z,Z,Z,Z,Z,trivial⟩
   ·have h2b:(decide (x>0) && !lt R.pi.1[x-1]! R.pi.1[R.pivot]!)=false:=by simp [hx0]
    obtain⟨mid,ap,d4,hx⟩:∃ mid ap d4,Go.Sort.partition lt R.pi.1 x y R.pivot=(mid,ap,d4):=⟨_,_,_,rfl⟩
    obtain⟨g1,g2,g3,g4,g5,gL,gR⟩:=round_part swo_ltInt (partition_holds lt) hpv.1 hpv.2 T B3 hx;have w1:IntKind.i64.wrap ((mid:Int)-(x:Int))=((mid-x:Nat):Int):=xb T T |>.trans T;have w2:IntKind.i64.wrap ((y:Int)-(mid:Int))=((y-mid:Nat):Int):=xb T T |>.trans T;have w4:IntKind.i64.wrap ((mid:Int)+1)=((mid+1:Nat):Int):=xb T T
    have et:((y-x:Nat):Int).tdiv 8=(((y-x)/8:Nat):Int):=by
     rw[zsd T];omega
    have w3:IntKind.i64.wrap (((y-x:Nat):Int).tdiv 8)=(((y-x)/8:Nat):Int):=by rw[et];exact xb T T
    by_cases hlr:mid-x<y-mid
    ·have hn:=hleft h2 h2b (by rw[hx];exact⟨g1,g2⟩) (by rw[hx];exact hlr);rw[hx] at hn;dsimp only at hn;obtain⟨pL,sL⟩:=pdq_sorts lt swo_ltInt d4 x mid R.lim true true g1 T g4;obtain⟨LL,hLL⟩:∃ LL,LL=pdq lt d4 x mid R.lim true true:=⟨_,rfl⟩
     rw[<-hLL] at hn pL sL;obtain⟨gB,_⟩:=gL LL pL sL;have hLs:LL.size=d4.size:=pL.1;by_cases h8:mid-x>=(y-x)/8
     ·rw[nf h8] at hn;refine(Zf∘ZdI∘Zl∘Zdz∘ZbH∘Zb5∘Zcq∘Za3∘Zaf∘Zbe∘Zbt) ?_;refine qe (yh L 900 (xc b (uC d4++rest) tyU) (.tuple #[.int .i64 mid,.bool ap]) (r:=xc b (uC R.pi.1++rest) tyU) Z Z Z Z Z (fun u H C hH hle hr hC=>by have h:=dz (rest:=rest) (cap:=cap) (d:=R.pi.1) hpv.1 hpv.2 T (m:=m) T hm1 hH hr hC;rw[hx] at h;exact h)) ?_;refine(ZbB∘Zc0∘Za∘Zd∘ZcY∘ZaA∘ZaA∘ZaS∘ZdA∘Za∘ZcZ∘Zd∘Zdv∘Zb∘ZN∘ZD) ?_;refine ze (id:=25) ((Zb∘Zb3∘Zd) ?_);refine ze (id:=26) (Zbt (h:=?_));refine qe (yx L 900 (xc b (uC LL++rest) tyU) (r:=xc b (uC d4++rest) tyU) Z Z Z Z Z (fun u H C hH _ hr hC=>by rw[hLL];exact ih T g1 T T hm1 hlle g4 hH hr hC)) ?_;refine ZF (h:=?_);refine ze (id:=27) ((Za∘Z7∘Zai) ?_);exact ym (x:=(((x,y),l),((wb,wp),D))) (((mid+1,y),R.lim),((true,ap),LL)) ⟨by dsimp only;omega,hy,by dsimp only;omega,hlle,by dsimp only;omega,gB,hn.symm⟩ G ⟨Z,Z,Z,Z,Z,Z,Z,trivial⟩
     ·rw[ng h8] at hn;refine(Zf∘ZdI∘Zl∘Zdz∘ZbH∘Zb5∘Zcq∘Za3∘Zaf∘Zbe∘Zbt) ?_;refine qe (yh L 900 (xc b (uC d4++rest) tyU) (.tuple #[.int .i64 mid,.bool ap]) (r:=xc b (uC R.pi.1++rest) tyU) Z Z Z Z Z (fun u H C hH hle hr hC=>by have h:=dz (rest:=rest) (cap:=cap) (d:=R.pi.1) hpv.1 hpv.2 T (m:=m) T hm1 hH hr hC;rw[hx] at h;exact h)) ?_;refine(ZbB∘Zc0∘Za∘Zd∘ZcY∘ZaA∘ZaA∘ZaS∘ZdA∘Za∘ZcZ∘Zd∘Zdv∘Zb∘ZN∘ZD) ?_;refine ze (id:=25) ((Zb∘Za4∘Zd) ?_);refine ze (id:=26) (Zbt (h:=?_));refine qe (yx L 900 (xc b (uC LL++rest) tyU) (r:=xc b (uC d4++rest) tyU) Z Z Z Z Z (fun u H C hH _ hr hC=>by rw[hLL];exact ih T g1 T T hm1 hlle g4 hH hr hC)) ?_;refine ZF (h:=?_);refine ze (id:=27) ((Za∘Z7∘Zai) ?_);exact ym (x:=(((x,y),l),((wb,wp),D))) (((mid+1,y),R.lim),((false,ap),LL)) ⟨by dsimp only;omega,hy,by dsimp only;omega,hlle,by dsimp only;omega,gB,hn.symm⟩ G ⟨Z,Z,Z,Z,Z,Z,Z,trivial⟩
    ·have hn:=hright h2 h2b (by rw[hx];exact⟨g1,g2⟩) (by rw[hx];exact hlr);rw[hx] at hn;dsimp only at hn;obtain⟨pL,sL⟩:=pdq_sorts lt swo_ltInt d4 (mid+1) y R.lim true true T T g5;obtain⟨LL,hLL⟩:∃ LL,LL=pdq lt d4 (mid+1) y R.lim true true:=⟨_,rfl⟩
     rw[<-hLL] at hn pL sL;obtain⟨gB,_⟩:=gR LL pL sL;have hLs:LL.size=d4.size:=pL.1;by_cases h8:y-mid>=(y-x)/8
     ·rw[nf h8] at hn;refine(Zf∘ZdI∘Zl∘Zdz∘ZbH∘Zb5∘Zcq∘Za3∘Zaf∘Zbe∘Zbt) ?_;refine qe (yh L 900 (xc b (uC d4++rest) tyU) (.tuple #[.int .i64 mid,.bool ap]) (r:=xc b (uC R.pi.1++rest) tyU) Z Z Z Z Z (fun u H C hH hle hr hC=>by have h:=dz (rest:=rest) (cap:=cap) (d:=R.pi.1) hpv.1 hpv.2 T (m:=m) T hm1 hH hr hC;rw[hx] at h;exact h)) ?_;refine(ZbB∘Zc0∘Za∘Zd∘ZcY∘ZaA∘ZaA∘ZaS∘ZdA∘Za∘ZcZ∘Zd∘Zdv∘ZbA∘ZcV) ?_;refine ze (id:=28) ((Zb∘Zb3∘Zd) ?_);refine ze (id:=29) ((Zb∘Z7∘Zb) ?_);refine qe (yx L 900 (xc b (uC LL++rest) tyU) (r:=xc b (uC d4++rest) tyU) Z Z Z Z Z (fun u H C hH _ hr hC=>by rw[hLL];exact ih T T hy T hm1 hlle g5 hH hr hC)) ?_;refine(ZF∘Zeh∘Zai) ?_;exact ym (x:=(((x,y),l),((wb,wp),D))) (((x,mid),R.lim),((true,ap),LL)) ⟨by dsimp only;omega,by dsimp only;omega,by dsimp only;omega,hlle,by dsimp only;omega,gB,hn.symm⟩ G ⟨Z,Z,Z,Z,Z,Z,Z,trivial⟩
     ·rw[ng h8] at hn;refine(Zf∘ZdI∘Zl∘Zdz∘ZbH∘Zb5∘Zcq∘Za3∘Zaf∘Zbe∘Zbt) ?_;refine qe (yh L 900 (xc b (uC d4++rest) tyU) (.tuple #[.int .i64 mid,.bool ap]) (r:=xc b (uC R.pi.1++rest) tyU) Z Z Z Z Z (fun u H C hH hle hr hC=>by have h:=dz (rest:=rest) (cap:=cap) (d:=R.pi.1) hpv.1 hpv.2 T (m:=m) T hm1 hH hr hC;rw[hx] at h;exact h)) ?_;refine(ZbB∘Zc0∘Za∘Zd∘ZcY∘ZaA∘ZaA∘ZaS∘ZdA∘Za∘ZcZ∘Zd∘Zdv∘ZbA∘ZcV) ?_;refine ze (id:=28) ((Zb∘Za4∘Zd) ?_);refine ze (id:=29) ((Zb∘Z7∘Zb) ?_);refine qe (yx L 900 (xc b (uC LL++rest) tyU) (r:=xc b (uC d4++rest) tyU) Z Z Z Z Z (fun u H C hH _ hr hC=>by rw[hLL];exact ih T T hy T hm1 hlle g5 hH hr hC)) ?_;refine(ZF∘Zeh∘Zai) ?_;exact ym (x:=(((x,y),l),((wb,wp),D))) (((x,mid),R.lim),((false,ap),LL)) ⟨by dsimp only;omega,by dsimp only;omega,by dsimp only;omega,hlle,by dsimp only;omega,gB,hn.symm⟩ G ⟨Z,Z,Z,Z,Z,Z,Z,trivial⟩
def sortU_ret(hm:d.size=m)(hm1:m<=100000)(hB:zth B w)
  (hr:(xc b (uC d++rest) tyU).P B w C) (hC:ZCB C w B):
  kx zti 198 [.slice (some ⟨b,0,none⟩) m cap] w B C (xc b (uC (Go.Sort.sort lt d)++rest) tyU):=by
 unfold kx;refine xa 900 (xc b (uC d++rest) tyU) Tryz.func198 Z Tryz.ntmps198 (np Z) hB hr hC ?_;rw[xd];have hc:IntKind.u64.wrap (m:Int)=(m:Int):=wrap_u64 T T;have hb17:bitsLen m<=17:=(bitsLen_le_iff m 17).2 T;refine(ZP∘Za∘ZcA∘Zc∘ZE∘Z3) ?_;refine z7 (ko Z Z Z jx.1 jx.2 (wrap_u64 T T)) Z (z71 L Z (fun u H hH _=>D8 T hH) ?_);refine qe (yx L 900 (xc b (uC (Go.Sort.sort lt d)++rest) tyU) (r:=xc b (uC d++rest) tyU) Z Z Z Z Z (fun u H C hH _ hr hC=>by have h:=zhl (rest:=rest) (cap:=cap) (m:=m) (d:=d) (a:=0) (e:=m) (lim:=bitsLen m) (m+1) T T T hm hm1 T (Or.inl Z) hH hr hC;unfold Go.Sort.sort;rw[hm];exact h)) ?_;refine Zac (h:=?_);exact xu L 900 (r:=xc b _ tyU) Z (fun _ _ h=>h) nq Z Z
end Go.V.So
end
namespace Go.V.L10
def _root_.ZdB(t:Wr Y->A:=by intro h;refine z7 (yi L (vs:=[_,_]) Z Z Z Z Z ⟨_,rfl⟩) Z ?_;exact h.1)(h:Y):A:=t ⟨h⟩
def _root_.Zex(t:Wr Y->A:=by intro h;refine z71 L Z (fun u H hH _=>So.isnanU _ hH) ?_;exact h.1)(h:Y):A:=t ⟨h⟩
def _root_.Zfv(t:Wr Y->A:=by intro h;refine z7 (StepOK.seeV (qd L (qu Z) Z Z Z Z) M) Z ?_;exact h.1)(h:Y):A:=t ⟨h⟩
abbrev zfd:TypeId:=289
abbrev Gf:TypeId:=48
def pnc(p:Int×Int):List Value:=[.int .u64 p.1,.int .i64 p.2]
def Xi(p:Int×Int):(pnc p).length=2:=rfl
def Cw(l:List (Int×Int)):(l.flatMap pnc).all u7=true:=by
 rw[zph];intro v hv;obtain⟨x,_,hx⟩:=zrr.1 hv;simp only[pnc,ma,zqx,or_false] at hx;rcases hx with rfl | rfl<;>rfl
abbrev PsV(l:List (Int×Int)):Value->Heap->Prop:=SlV zfd 2 (l.flatMap pnc) l.length false
def Ti{l:List (Int×Int)}(h:l[i]?=some x):((l.flatMap pnc).drop (i*2)).take 2=[.int .u64 x.1,.int .i64 x.2]:=fw Xi l i x h
abbrev RsV(l:List Int)(fu:Bool):Value->Heap->Prop:=SlV Gf 1 (l.map (Value.int .u64)) l.length fu
def Lv{l:List Int}{x:Int}(h:l[i]?=some x):((l.map (Value.int .u64)).drop (i*1)).take 1=[.int .u64 x]:=by
 rw[zqi,List.take_one];simp [List.head?_drop,h]
attribute [local irreducible] V N X VO Par StepOK Has Ret RetL RetO kx RetX Src
def cmpU_ret(a b:Int)(hB:zth B w):Ret zti 250 [.int .u64 a,.int .u64 b] w B (fun v _=>v=.int .i64 (cP a b)):=by
 unfold cP;refine yn Tryz.func250 Z Tryz.ntmps250 (np Z) hB ?_;by_cases h:a<b
 ·rw[na h];refine(Z4∘Za∘Zex∘Zbx∘Zex∘Zj∘ZA∘Z1∘Z8∘Z1∘ZM∘Zb∘ZN∘ZD∘ZI∘Zc) ?_;exact yj2 L [.tmp 4]
 ·rw[nc h];by_cases h2:b<a
  ·rw[na h2];refine(Z4∘Za∘Zex∘Zbx∘Zex∘Zj∘ZA∘Z1∘Z8∘Z1∘ZM∘ZbA∘Z1∘ZY∘Zb∘ZO∘ZD∘Zaa∘Zc) ?_;exact yj2 L [.tmp 4]
  ·rw[nc h2];refine(Z4∘Za∘Zex∘Zbx∘Zex∘Zj∘ZA∘Z1∘Z8∘Z1∘ZM∘ZbA∘Z1∘ZY∘Zb∘ZL∘Zm∘Zak∘Zc) ?_;exact yj2 L [.tmp 4]
def s8(a n b:Int)(hB:zth B w):Ret zti 249 [.agg #[.int .u64 a,.int .i64 n],.int .u64 b] w B (fun v _=>v=.int .i64 (cP a b)):=by
 refine yn Tryz.func249 Z Tryz.ntmps249 (np Z) hB ((Zu∘Zag∘Zq∘Za) ?_);refine z71 L Z (fun u H hH _=>cmpU_ret _ _ hH) ?_;refine Zc (h:=?_);exact yj2 L [.tmp 4]
abbrev BSP:Nat:=248
abbrev fvP:Value:=.func (.func 249) #[] #[]
def zi2(hz:(xe L0).length<=100000){v:Value}(hB:zth B w)(hv:PsV (xe L0) v B):
  Ret zti BSP [v,.int .u64 r,fvP] w B (fun v _=>v=.tuple #[.int .i64 (dt cP r (kz L0):Nat),.bool (decide (r∈kz L0))]):=by
 have hs:=ul L0;obtain⟨l,hl⟩:∃ l,l=kz L0:=⟨_,rfl⟩
 obtain⟨ps,hps⟩:∃ ps,ps=xe L0:=⟨_,rfl⟩
 have hat:∀ (i:Nat) (x:Int),l[i]?=some x->ps[i]?=some (x,(L0.count x:Int)):=fun i x h=>by subst hl hps;exact C4 h
 have hlen:ps.length=l.length:=by subst hl hps;exact vh L0
 rw[<-hl] at hs |-;rw[<-hps] at hv hz;clear hl hps;refine yn Tryz.func248 Z Tryz.ntmps248 (np Z) hB (k8 0 (PsV ps) Z ns hv ((Zb2∘Zag∘Zg∘Zbx∘ZaS∘Zam) ?_))
 refine xm (fun s:Nat×Nat=>[(0,.sat (PsV ps)),(2,.is fvP),(1,.is (.int .u64 r)),(8,.is (.int .i64 ps.length)),(9,.is (.int .i64 s.1)),(10,.is (.int .i64 s.2))])
  (fun s=>s.1<=s.2/\s.2<=l.length/\(∀ (k:Nat) (x:Int),k<s.1->l[k]?=some x->cP x r<0)/\∀ (k:Nat) (x:Int),s.2<=k->l[k]?=some x->¬ cP x r<0) (fun s=>s.2-s.1) (0,ps.length) ⟨Nat.zero_le _,Nat.le_of_eq hlen,fun k x h=>(by cases h),fun k x h hx=>(by rw[List.getElem?_eq_none (by dsimp only at h;omega)] at hx;cases hx)⟩ ⟨rfl,rfl,rfl,rfl,rfl,rfl,trivial⟩ ?_
 rintro⟨i,j⟩ ⟨hij,hjl,hlo,hhi⟩;dsimp only at hij hjl hlo hhi |-;by_cases hlt:i<j
 ·obtain⟨h,hh⟩:∃ h,h=(i+j)/2:=⟨_,rfl⟩
  have hsh:((i:Int)+(j:Int)).fdiv (2^min (1:Int).toNat IntKind.u64.bits)=(h:Int):=by
   show((i:Int)+(j:Int)).fdiv 2=(h:Int);rw[zr8 _ E];omega
  obtain⟨y,hy⟩:=xk (show h<l.length by omega);have hc:=Ti (hat h y hy);by_cases hcm:cP y r<0
  ·refine(ZbM∘ZbD∘ZcL∘Z2∘Zb∘ZaI) ?_;refine z7 (ko Z Z Z jx.1 jx.2 (wrap_u64 T T)) Z (Zdr (h:=?_));refine z7 (ko Z Z Z jy.1 jy.2 (xb T T)) Z ((Zb6∘Zcb∘ZdB∘Za) ?_);refine z71 L Z (fun u H hH _=>s8 _ _ _ hH) ?_;refine(ZbD∘ZQ∘ZaI∘Zai) ?_;exact ym (x:=(i,j)) (h+1,j) ⟨by dsimp only;omega,hjl,fun k x hk hx=>iw lm hs hy hx (by dsimp only at hk;omega) hcm,hhi⟩ G ⟨Z,Z,Z,Z,Z,Z,trivial⟩
  ·refine(ZbM∘ZbD∘ZcL∘Z2∘Zb∘ZaI) ?_;refine z7 (ko Z Z Z jx.1 jx.2 (wrap_u64 T T)) Z (Zdr (h:=?_));refine z7 (ko Z Z Z jy.1 jy.2 (xb T T)) Z ((Zb6∘Zcb∘ZdB∘Za) ?_);refine z71 L Z (fun u H hH _=>s8 _ _ _ hH) ?_;refine(ZJ∘ZaL∘Z8∘Zai) ?_;exact ym (x:=(i,j)) (i,h) ⟨by dsimp only;omega,by dsimp only;omega,hlo,fun k x hk hx hcx=>hcm (iw lm hs hx hy hk hcx)⟩ G ⟨Z,Z,Z,Z,Z,Z,trivial⟩
 ·obtain rfl:i=j:=by omega
  rw[Oi lm hs hlo hhi hjl];by_cases hin:i<l.length
  ·obtain⟨y,hy⟩:=xk hin;have hc:=Ti (hat i y hy);have hm:=zfs lm hs hlo hy hhi;by_cases hcm:cP y r=0
   ·rw[nf (hm.2 hcm)];refine(ZbM∘ZJ∘Zas∘Zv∘Z3∘ZN∘Zb∘Zcb∘ZdB∘Za) ?_;refine z71 L Z (fun u H hH _=>s8 _ _ _ hH) ?_;refine(ZW∘Zh∘ZR) ?_;exact yj2 L [.tmp 6,.tmp 7]
   ·rw[ng fun h=>hcm (hm.1 h)];refine(ZbM∘ZJ∘Zas∘Zv∘Z3∘ZN∘Zb∘Zcb∘ZdB∘Za) ?_;refine z71 L Z (fun u H hH _=>s8 _ _ _ hH) ?_;refine(Zx∘Zh∘ZR) ?_;exact yj2 L [.tmp 6,.tmp 7]
  ·obtain rfl:i=l.length:=by omega
   rw[ng (Dj lm hlo)];refine(ZbM∘ZJ∘Zas∘Zv∘Z3∘ZJ∘Zaz∘Zb0∘Zb0∘Zh∘ZR) ?_;exact yj2 L [.tmp 6,.tmp 7]
abbrev pnv(s:Value)(t:Nat):Value:=.agg #[s,.int .i64 t]
def s7(hz2:(xe L0).length<=100000)(hB:zth B w)(hv:PsV (xe L0) s B):
  Ret zti 199 [pnv s t,.int .u64 r] w B (fun v _=>v=.tuple #[.int .i64 (dt cP r (kz L0):Nat),.bool (decide (r∈kz L0))]):=by
 obtain⟨p,c,rfl⟩:=jh hv;refine yn Tryz.func199 Z Tryz.ntmps199 (np Z) hB ((Zu∘Zo∘Zag∘Zq∘Za) ?_);refine z71 L Z (fun u H hH hle=>zi2 hz2 hH (hv.le hle)) ?_;refine(Zc5∘ZR) ?_;exact yj2 L [.tmp 4,.tmp 5]
def Cz(hz:L0.length<=n):(xe L0).length<=n:=by rw[vh];exact mp (pw _) hz
def find_ret(hz:L0.length<=100000)(hB:zth B w)(hv:PsV (xe L0) s B):
  Ret zti 199 [pnv s t,.int .u64 r] w B (fun v _=>v=.tuple #[.int .i64 (dt cP r (kz L0):Nat),.bool (decide (r∈kz L0))]):=s7 (Cz hz) hB hv
def Fp(h:r∈kz L0):(xe L0)[dt cP r (kz L0)]?=some (r,(L0.count r:Int)):=C4 (Oh lm (ul L0) h)
def Al(hz:(xe L0).length<=100000)(hB:zth B w)(hv:PsV (xe L0) s B):
  Ret zti 143 [pnv s t,.int .u64 r] w B (fun v _=>v=.int .i64 (L0.count r:Nat)):=by
 obtain⟨p,c,rfl⟩:=jh hv;refine yn Tryz.func143 Z Tryz.ntmps143 (np Z) hB ?_;by_cases h:r∈kz L0
 ·have hf:decide (r∈kz L0)=true:=nf h;have hp:=Fp h;have hlt:=get_lt hp;have hc:=Ti hp;refine(Zu∘ZG∘ZbL∘Za) ?_;refine z71 L Z (fun u H hH hle=>hf ▸ s7 (t:=t) hz hH (hv.le hle)) ?_;refine(ZbB∘Zy∘ZD∘ZK∘Zbj∘Zfv∘Zee∘ZeB∘ZcO∘Zc) ?_;exact yj2 L [.tmp 4]
 ·have hf:decide (r∈kz L0)=false:=ng h;have hc0:L0.count r=0:=zsp.2 fun hm=>h (jr.2 hm);rw[hc0];refine(Zu∘ZG∘ZbL∘Za) ?_;refine z71 L Z (fun u H hH hle=>hf ▸ s7 (t:=t) hz hH (hv.le hle)) ?_;refine(ZbB∘Zy∘Zm∘Z2∘Zc) ?_;exact yj2 L [.tmp 4]
def count_ret(hz:L0.length<=100000)(hB:zth B w)(hv:PsV (xe L0) s B):
  Ret zti 143 [pnv s t,.int .u64 r] w B (fun v _=>v=.int .i64 (L0.count r:Nat)):=Al (Cz hz) hB hv
def zax{l:List Int}(hB:zth B w)(hv:RsV l fu v B):Ret zti 197 [v] w B (RsV l true):=by
 refine yn Tryz.func197 Z Tryz.ntmps197 (np Z) hB (k8 0 (RsV l fu) Z ns hv ((Z4∘Zk∘Zg∘Zg∘ZdO∘Zcp) ?_));refine yj1 L [.tmp 2] fun u H hH hle=>?_;exact fun v hv=>hv
def zg7{l:List Int}{x:Int}:some (Kn.own (SlR Gf 1 (l.length+1) (l.map (Value.int .u64)++[.int .u64 x])))=some (Kn.own (SlR Gf 1 (l++[x]).length ((l++[x]).map (Value.int .u64)))):=by
 rw[zpo,nr];rfl
set_option maxRecDepth 10000 in
def zd1{L0 R:List Int}{t keep:Nat}(hz:L0.length<=100000)(hR:R.length<=100000)(hkp:keep<=100000){s v:Value}(hB:zth B w)(hv:PsV (xe L0) s B)(hr:RsV R fu v B):
  Ret zti 140 [pnv s t,v,.int .i64 keep] w B (RsV (a9 L0 R keep) true):=by
 obtain⟨p,c,rfl⟩:=jh hv;obtain⟨n1,hn1⟩:∃ n1,n1=R.length-keep:=⟨_,rfl⟩
 have hmx:(if (0:Int)>(keep:Int) then (0:Int) else (keep:Int))=(keep:Int):=nc T;have hmn:(if (R.length:Int)<(keep:Int) then (R.length:Int) else (keep:Int))=(min R.length keep:Nat):=by split<;>omega
 have hsub:IntKind.i64.wrap ((R.length:Int)-(min R.length keep:Nat))=(n1:Int):=xb T T |>.trans T;have hys:((R.map (Value.int .u64)).drop (0*1)).take ((n1-0)*1)=(R.take n1).map (Value.int .u64):=by simp
 obtain⟨g,hg⟩:∃ g,g=R.take n1:=⟨_,rfl⟩
 have hgl:g.length=n1:=by rw[hg,mg];omega
 have hgo:a9 L0 R keep=g.filter fun r=>decide (L0.count r=0):=by unfold a9;rw[hg,hn1]
 rw[<-hg] at hys;rw[hgo];clear hg hgo;refine yn Tryz.func140 Z Tryz.ntmps140 (np Z) hB (k8 1 (RsV R fu) Z ns hr ((Zu∘Zag∘Zj) ?_));refine ui 7 Gf 1 rfl ((Z9∘Zk∘Zg∘Za) ?_);refine z7 (sd Z Z Z Z M) Z (Zg (h:=?_));refine z7 (Xw Z Z Z Z M) Z (Za9 (h:=?_));refine z7 (jp L (kl:=.i64) (pl:=0) (km:=.i64) (pm:=0) 0 _ false Z Z Z Z Z Z ⟨rfl,rfl⟩ (fun h=>by cases h) T T M) Z ?_;refine(Zcv∘ZaW) ?_;refine Nf 19 (RsV g false) Z SlV.mono (fun v H h=>by unfold RsV;rw[hgl];exact h) ?_
 refine xm (fun y:Nat×List Int=>[(3,.sat (At [.slice p (xe L0).length c,.int .i64 t] 224 0)),(7,.own (SlR Gf 1 y.2.length (y.2.map (Value.int .u64)))),(19,.sat (RsV g false)),(20,.is (.int .i64 n1)),(21,.is (.int .i64 y.1))])
  (fun y=>y.1<=g.length/\y.2=(g.take y.1).filter fun r=>decide (L0.count r=0)) (fun y=>g.length-y.1) (0,[]) ⟨mc _,rfl⟩ ⟨rfl,rfl,rfl,rfl,rfl,nm⟩ ?_
 rintro⟨k,out⟩ ⟨hk,hout⟩;dsimp only at hk hout |-;have hol:out.length<=k:=by rw[hout];exact mp (zqu ..) (by rw[mg];omega)
 by_cases hlt:k<g.length
 ·obtain⟨x,hx⟩:=xk hlt;have hc:=Lv hx;have htk:=vl hx;have hwk:IntKind.i64.wrap ((k:Int)+1)=((k+1:Nat):Int):=xb T T;by_cases h0:L0.count x=0
  ·have ho:out++[x]=(g.take (k+1)).filter fun r=>decide (L0.count r=0):=by rw[htk,zp2,<-hout];simp [h0]
   refine(Zbl∘Z6∘Z2∘Zau∘ZcO∘Zd∘Zt∘ZbL∘Za) ?_;refine z71 L Z (fun u H hH hle=>count_ret hz hH (hv.le hle)) ?_;refine(ZW∘Zw∘Zs) ?_;refine qe (yr (.inl Z) Z) ((Za∘ZV) ?_);refine qe (w7 L Z Z Z (rf Z) Z zjm Z Z T T) (qe (yr (.inr Z) Z) ((Zax∘ZC∘Z7∘Zc1) ?_));exact ym (x:=(k,out)) (k+1,out++[x]) ⟨hlt,ho⟩ G ⟨Z,zg7,Z,Z,Z,nm⟩
  ·have ho:out=(g.take (k+1)).filter fun r=>decide (L0.count r=0):=by rw[htk,zp2,<-hout];simp [h0]
   refine(Zbl∘Z6∘Z2∘Zau∘ZcO∘Zd∘Zt∘ZbL∘Za) ?_;refine z71 L Z (fun u H hH hle=>count_ret hz hH (hv.le hle)) ?_;refine(Zx∘Zch∘ZC∘Z7∘Zc1) ?_;exact ym (x:=(k,out)) (k+1,out) ⟨hlt,ho⟩ G ⟨Z,Z,Z,Z,Z,nm⟩
 ·obtain rfl:k=g.length:=by omega
  rw[m9] at hout;rw[<-hout];refine uq 7 rfl ((Zbl∘Zav∘Zv∘Zk) ?_);refine z7 (xg (φ:=RsV out true) L Z Z (zm Z) Z Z Z ns (fun u H hH _ _ v1 h1=>zax hH h1)) Z (Zcp (h:=?_));refine yj1 L [.tmp 6] fun u H hH hle=>?_;exact fun v hv=>hv
def zo4{a b:Int×Int}(h:decide (a=b)=f):ig [1,1] (pnc a) (pnc b)=some f:=by
 obtain⟨a1,a2⟩:=a;obtain⟨b1,b2⟩:=b;subst h;simp only[pnc,ig,eqC,if_true,Bool.and_true,Prod.mk.injEq];congr 1;rw[Bool.eq_iff_iff];simp
def Ll{a b:Int×Int}(h:decide (a=b)=f)(hB:zth B w):Ret zti 213 [.agg #[.int .u64 a.1,.int .i64 a.2],.agg #[.int .u64 b.1,.int .i64 b.2]] w B (fun v _=>v=.bool f):=by
 have hq:ig [1,1] [.int .u64 a.1,.int .i64 a.2] [.int .u64 b.1,.int .i64 b.2]=some f:=zo4 h;refine yn Tryz.func213 Z Tryz.ntmps213 (np Z) hB ((Zaj∘Zag∘ZbL∘ZbL) ?_);refine z7 (Dg Z Z Z Z znl M Z) Z (Zc (h:=?_));exact yj2 L [.tmp 4]
def zfu{a b:List α}(h:a.length≠b.length):a≠b:=fun e=>h (nh List.length e)
def zl0{a b:List α}{x y:α}(hx:a[i]?=some x)(hy:b[i]?=some y)(h:x≠y):a≠b:=fun e=>h (by subst e;rw[hx] at hy;exact Option.some.inj hy)
def zih{a b:List (Int×Int)}(hf:decide (a=b)=f)(ha:a.length<=100000)(hb:b.length<=100000){v1:Value}(hB:zth B w)(h1:PsV a v1 B)(h2:PsV b v2 B):
  Ret zti 212 [v1,v2,.func (.func 213) #[] #[]] w B (fun v _=>v=.bool f):=by
 subst hf;refine yn Tryz.func212 Z Tryz.ntmps212 (np Z) hB (k8 0 (PsV a) Z ns h1 (k8 1 (PsV b) Z ns h2 ?_));by_cases hl:a.length=b.length
 ·refine(ZP∘ZG∘Zg∘Zg∘Zaq∘Z1∘ZK∘Zg∘ZaW) ?_;refine xm (fun i:Nat=>[(0,.sat (PsV a)),(15,.sat (PsV a)),(1,.sat (PsV b)),(2,.is (.func (.func 213) #[] #[])),(16,.is (.int .i64 a.length)),(17,.is (.int .i64 i))]) (fun i=>i<=a.length/\a.take i=b.take i) (fun i=>a.length-i) 0 ⟨mc _,rfl⟩ ⟨Z,Z,Z,Z,Z,Z,nm⟩ ?_;rintro i ⟨hi,ht⟩;by_cases hlt:i<a.length
  ·obtain⟨x,hx⟩:=xk hlt;obtain⟨y,hy⟩:=xk (show i<b.length by omega);have hc1:=Ti hx;have hc2:=Ti hy;have hwk:IntKind.i64.wrap ((i:Int)+1)=((i+1:Nat):Int):=xb T T;by_cases hxy:x=y
   ·refine(Zci∘ZU∘Zau∘ZdB∘ZZ∘Zo∘Zbd∘Zi∘Zs∘Zcb∘ZdB∘Zah∘Z8∘Zc6∘Zc6) ?_;refine z71 L Z (fun u H hH _=>Ll (nf hxy) hH) ?_;refine(Zr∘Zch∘ZM∘Z7∘Zc1) ?_;exact ym (x:=i) (i+1) ⟨hlt,by rw[vl hx,vl hy,ht,hxy]⟩ T ⟨Z,Z,Z,Z,Z,Z,nm⟩
   ·rw[ng (zl0 hx hy hxy)];refine(Zci∘ZU∘Zau∘ZdB∘ZZ∘Zo∘Zbd∘Zi∘Zs∘Zcb∘ZdB∘Zah∘Z8∘Zc6∘Zc6) ?_;refine z71 L Z (fun u H hH _=>Ll (ng hxy) hH) ?_;refine(Zr∘ZD∘Zv∘Zc) ?_;exact yj2 L [.tmp 6]
  ·obtain rfl:i=a.length:=by omega
   have hab:a=b:=by rw[m9,hl,m9] at ht;exact ht
   rw[nf hab];refine(ZcI∘Zav∘ZI∘Zc) ?_;exact yj2 L [.tmp 6]
 ·rw[ng (zfu hl)];refine(ZP∘ZG∘Zg∘Zg∘ZaO∘Z9∘Zc) ?_;exact yj2 L [.tmp 6]
def Ly{L1 L2:List Int}{t1 t2:Nat}(hf:decide (xe L1=xe L2)=f)(hz1:L1.length<=100000)(hz2:L2.length<=100000){s1 s2:Value}(hB:zth B w)(h1:PsV (xe L1) s1 B)(h2:PsV (xe L2) s2 B):
  Ret zti 158 [pnv s1 t1,pnv s2 t2] w B (fun v _=>v=.bool f):=by
 have q1:(xe L1).length<=100000:=by rw[vh];exact mp (pw _) hz1
 have q2:(xe L2).length<=100000:=by rw[vh];exact mp (pw _) hz2
 obtain⟨p,c,rfl⟩:=jh h1;obtain⟨p',c',rfl⟩:=jh h2;refine yn Tryz.func158 Z Tryz.ntmps158 (np Z) hB ((Zaj∘Zag∘Zq∘Zq) ?_);refine z71 L Z (fun u H hH hle=>zih hf q1 q2 hH (h1.le hle) (h2.le hle)) ?_;refine Zc (h:=?_);exact yj2 L [.tmp 4]
end Go.V.L10
namespace Go.V.L10
open Go.V
def _root_.Zfw(t:Wr Y->A:=by intro h;refine z7 (gv L (kh:=.i64) (ph:=0) _ _ Z Z Z Z Z ⟨rfl,rfl⟩ Z T T) Z ?_;exact h.1)(h:Y):A:=t ⟨h⟩
def _root_.ZeZ(t:Wr Y->A:=by intro h;refine Zk (h:=?_);refine z7 (zc6 L Z Z Z Z) Z ?_;exact h.1)(h:Y):A:=t ⟨h⟩
def di(l:List (Int×Int)):(l.flatMap pnc).length=l.length*2:=re Xi l
section
variable {A Bq R X zta:List Value} 
def zf2(hA:A.length=a)(ztb:List Value):(A++ztb).take a=A/\(A++ztb).drop a=ztb:=by subst hA;simp
def znf(hA:A.length=a)(hB:Bq.length=b)(_hR:2<=R.length):
  ((A++(Bq++R)).drop a).take b=Bq/\
  ((A++(Bq++R)).take (a+2)++(Bq++(A++(Bq++R)).drop (a+2+b)))=A++((Bq++R).take 2++(Bq++R.drop 2))/\
  ∀ (W:List Value),W.length=2->((A++(W++(Bq++R.drop 2))).take a++(X++(A++(W++(Bq++R.drop 2))).drop (a+2)))=A++(X++(Bq++R.drop 2)):=by
 subst hA hB;refine⟨by simp,?_,fun W hW=>?_⟩
 ·have e1:(A++(Bq++R)).take (A.length+2)=A++(Bq++R).take 2:=by rw[zrj,zpf T];congr 2;omega
  have e2:(A++(Bq++R)).drop (A.length+2+Bq.length)=R.drop 2:=by
   rw[<-mn,zqh,zpi (by rw[nr];omega),mi];congr 1;rw[nr];omega
  rw[e1,e2,mn]
 ·rw[zrj,zpf (nu _),zql,zpv,mo,zqh,zpi T,mi,show A.length+2-A.length=2 by omega,zqh,zpi T,mi,hW,zql,zp7]
def zk3(hA:A.length=a)(hB:Bq.length=b)(hZ:zta.length=b+2)(hX:X.length=2):
  ((A++zta++R).take a++(X++(A++zta++R).drop (a+2)))=A++(X++(zta.drop 2++R))/\
  ((A++(X++(zta.drop 2++R))).take (a+2)++(Bq++(A++(X++(zta.drop 2++R))).drop (a+2+b)))=A++(X++(Bq++R)):=by
 subst hA hB;refine⟨?_,?_⟩
 ·rw[mn,zrj,zpf (nu _),zql,zpv,mo,zqh,zpi T,mi,show A.length+2-A.length=2 by omega,zqh,show 2-zta.length=0 by omega,zp7]
 ·have e1:(A++(X++(zta.drop 2++R))).take (A.length+2)=A++X:=by
   rw[<-mn,zrj,zpf (by rw[nr];omega),nr,show A.length+2-(A.length+X.length)=0 by omega,zpv,mo]
  have e2:(A++(X++(zta.drop 2++R))).drop (A.length+2+Bq.length)=R:=by
   rw[<-mn,<-mn,zqh,zpi (by rw[nr,nr,m6];omega),mi,nr,nr,m6,show A.length+2+Bq.length-(A.length+X.length+(zta.length-2))=0 by omega,zp7]
  rw[e1,e2,mn]
end
attribute [local irreducible] V N X VO Par StepOK Has Ret RetL RetO RetT kx RetX Src
def Tj{l:List (Int×Int)}(hz:l.length<=100000)(hB:zth B w)(hv:PsV l v B):
  RetO zti 207 [v] w B (SlR zfd 2 l.length (l.flatMap pnc)):=by
 have hv0:=hv;have hlen:=di l;have hpl:=Cw l;obtain⟨p,c,rfl⟩:=jh hv;rcases p with _ | b
 ·obtain⟨h0,rfl⟩:l.length=0/\c=0:=Gn hv;have hn:l=[]:=m7 h0;subst hn;refine wz Tryz.func207 Z Tryz.ntmps207 (np Z) hB (ZbT (h:=?_));refine z7 (u0 Z Z Z Z zk0 Z) Z ((Zcj∘Zc) ?_);exact ui 2 zfd 2 rfl (p9 Z (fun _ _ h=>h) nq Z)
 ·refine wz Tryz.func207 Z Tryz.ntmps207 (np Z) hB (ZbT (h:=?_));refine z7 (u0 Z Z Z Z zk0 Z) Z (Zm (h:=?_));refine k8 0 (PsV l) Z ns hv0 (ZK (h:=?_));refine z7 (cp L Z Z Z Z Z) Z (Zk (h:=?_));refine qe (w7 L Z Z Z (Na Z) Z M1 M M T T) (qe (yr (.inr Z) Z) (ZF (h:=?_)));rw[zpc,mi];exact p9 Z (fun _ _ h=>h) nq Z
def Mv(l:List (Int×Int))(i:Nat)(x:Int×Int):List (Int×Int):=l.take i++x::l.drop i
def rc{l:List (Int×Int)}(hi:i<=l.length):(Mv l i x).length=l.length+1:=by
 unfold Mv;rw[List.length_append,List.length_cons,List.length_take,List.length_drop];omega
def Fl{l:List (Int×Int)}:(Mv l i x).flatMap pnc=(l.take i).flatMap pnc++([.int .u64 x.1,.int .i64 x.2]++(l.drop i).flatMap pnc):=by
 unfold Mv;rw[List.flatMap_append,List.flatMap_cons];rfl
def zhn(args:Array Value)(u:World):(callFunc 255 args).run zti u=((Extern.SlicesOverlaps.overlaps #[222,222] #[4] args).run zti u).andThen fun v w'=>.ok (.value v) w':=
 run_callFunc_extern Tryz.func255 J J J J args u
abbrev zPn:Value:=.agg #[.int .u64 0,.int .i64 0]
def zPs(m:Nat):List Value:=(Builtin.zeroCells (Value.cells zPn) m).toList
def zgc(m:Nat):(zPs m).length=m*2:=by unfold zPs;rw[Array.length_toList,size_zeroCells];rfl
def Fi{l:List (Int×Int)}{y:Int×Int}(hi:i<=l.length)(hz:l.length<=100000){x v2:Value}(hB:zth B w)(h2:SlB [Value.int .u64 y.1,Value.int .i64 y.2] zfd 1 v2 B)(hx:(SlR zfd 2 l.length (l.flatMap pnc)).P x B w C)(hC:ZCB C w B):
  RetT zti 208 [x,.int .i64 i,v2] w B C (SlR zfd 2 (l.length+1) ((Mv l i y).flatMap pnc)):=by
 have hpl:=Cw l;unfold RetT;refine Kg 0 (x:=x) (SlR zfd 2 l.length (l.flatMap pnc)) Z Tryz.func208 Z Tryz.ntmps208 (np Z) hB hx hC (k8 2 (SlB [Value.int .u64 y.1,Value.int .i64 y.2] zfd 1) Z SlB.mono h2 ?_);have hw1:IntKind.i64.wrap ((l.length:Int)+((1:Nat):Int))=((l.length+1:Nat):Int):=xb T T;refine Ar 0 900 rfl (fun hm hn=>?_) fun b cap rest hl hmc hcm hcl=>?_
 ·have h0:l=[]:=m7 hm;subst h0;obtain rfl:i=0:=by simpa using hi
  refine(Z4∘Zb) ?_;refine z7 (To L Z Z Z Z Z Z Z) Z ((Zi∘Z9∘ZeZ∘Zj∘ZA∘Zx∘Zm∘ZU∘ZcA∘Zj∘Zs∘Zb∘ZW∘ZD∘Z8∘Zk) ?_);refine z7 (Ab L Z Z Z (rf Z) Z M1 Z Z T T) Z (qe (yr (.inr Z) Z) (ZF (h:=?_)));exact F4 Z (fun _ _ h=>h) nq Z
 ·by_cases hin:i=l.length
  ·subst hin;have e1:(Mv l l.length y).flatMap pnc=l.flatMap pnc++[Value.int .u64 y.1,Value.int .i64 y.2]:=by rw[Fl,m9,zq9];simp
   rw[e1];refine(Z4∘Zb∘Zfw∘Zi∘Z9∘ZeZ∘Zj∘ZA∘Zx∘Zm∘ZU∘ZcA∘Zj∘Zs∘Zb∘ZW∘ZD∘Z8∘Zk) ?_;refine qe (T2 L (q:=900) Z Z Z Z hl hmc hcm hcl (rf Z) Z M1 Z Z T T) (qe (yr (.inr Z) Z) (ZF (h:=?_)));exact F4 Z (fun _ _ h=>h) nq Z
  ·have hil:i<l.length:=T;have hA:((l.take i).flatMap pnc).length=i*2:=by rw[di,mg,zqq T]
   have hBq:((l.drop i).flatMap pnc).length=(l.length-i)*2:=by rw[di,m6]
   have hcur:l.flatMap pnc=(l.take i).flatMap pnc++(l.drop i).flatMap pnc:=by rw[<-zpl,zpb]
   have hpB:=Cw (l.drop i);have hwi:IntKind.i64.wrap ((i:Int)+((1:Nat):Int))=((i+1:Nat):Int):=xb T T;rw[Fl];generalize hAe:(l.take i).flatMap pnc=A at *;generalize hBe:(l.drop i).flatMap pnc=Bq at *;rw[hcur,mn] at hcl;rw[hcur,mn];rw[nr,nr,hA,hBq] at hcl;by_cases hg:l.length+1<=cap
   ·have hne1:¬ cap=i:=T;have hne2:¬ cap=i+1:=T;have hne3:¬ cap=0:=T;have hR:2<=rest.length:=T;obtain⟨m1,m2,m3⟩:=znf (R:=rest) (X:=[Value.int .u64 y.1,Value.int .i64 y.2]) hA hBq hR;have m3':=m3 ((Bq++rest).take 2) (by rw[mg,nr];omega);have q1:((A++(Bq++rest)).drop (0+i*2)).take ((l.length-i)*2)=Bq:=by rw[zpc];exact m1
    have q2:(A++(Bq++rest)).take (0+(i+1)*2)++(Bq++(A++(Bq++rest)).drop (0+(i+1)*2+(l.length-i)*2))=A++((Bq++rest).take 2++(Bq++rest.drop 2)):=by rw[zpc,zp6 i 1 2];exact m2
    have q3:(A++((Bq++rest).take 2++(Bq++rest.drop 2))).take (0+i*2)++([Value.int .u64 y.1,Value.int .i64 y.2]++(A++((Bq++rest).take 2++(Bq++rest.drop 2))).drop (0+i*2+1*2))=A++([Value.int .u64 y.1,Value.int .i64 y.2]++(Bq++rest.drop 2)):=by rw[zpc];exact m3'
    have q4:0+(i+1)*2+(l.length-i)*2<=(A++(Bq++rest)).length:=by rw[nr,nr];omega
    have q5:0+i*2+1*2<=(A++((Bq++rest).take 2++(Bq++rest.drop 2))).length:=by rw[nr,nr,nr,mg,nr];omega
    have q8:0<(A++(Bq++rest)).length:=by rw[nr,nr];omega
    have q6:Nat.min (l.length+1-i) (l.length+1-(i+1))=l.length-i:=by show min _ _=_;omega
    have q7:Nat.min 1 (l.length+1-i)=1:=by show min _ _=_;omega
    refine(Z4∘Zb∘Zfw) ?_;rw[nc hne1];refine(Zi∘Z9∘ZeZ∘Zj∘ZA∘Zx∘Zm∘ZU∘ZcA∘Zj∘Zs∘Zb∘Zx∘Z1∘Zv∘Zb∘Z7∘Za) ?_;refine z7 (X6 L Z Z Z Z) Z ((ZL∘Zm∘Zak∘Z3∘Z7) ?_);refine z7 (gv L (kl:=.i64) (pl:=0) 0 (l.length+1) Z Z Z Z Z Z ⟨rfl,rfl⟩ T T) Z ?_;rw[nc hne3,show(0+0*2:Nat)=0 from Z,zq4,zq4];refine Zj (h:=?_);refine(Za5∘Zk∘Z3∘Z7) ?_;refine z7 (gv L (kh:=.i64) (ph:=0) (i+1) _ Z Z Z Z Z ⟨rfl,rfl⟩ Z T T) Z ?_;rw[nc hne2];refine yd (Ow L (q:=900) Z Z Z zhn Z Z Z Z Z q8) ((Zr∘ZD) ?_);refine qo (id:=15) [(77,[900])] ki J (ZcD (h:=?_));refine z8 (gv L (kh:=.i64) (ph:=0) (i+1) _ Z Z Z Z Z ⟨rfl,rfl⟩ Z T T) Z ?_;rw[nc hne2];refine Zn (h:=?_);refine z8 (gv L (kh:=.i64) (ph:=0) i _ Z Z Z Z Z ⟨rfl,rfl⟩ Z T T) Z ?_;rw[nc hne1];refine xq (X5 L (q:=900) (l.length-i) Z Z Z Z Z Z M1 q6 q1 hBq q4 hpB q2) Z Z ((ZaZ∘Zar∘Zb) ?_);refine z7 (gv L (kh:=.i64) (ph:=0) i _ Z Z Z Z Z ⟨rfl,rfl⟩ Z T T) Z ?_;rw[nc hne1];refine Zk (h:=?_);refine qe (G7 L (q:=900) 1 rfl Z Z Z (rf Z) Z M1 E q7 (nu 2) Z q5 Z q3) ((Zi∘Zbv∘Za∘Zc) ?_);refine fz (s:=2) (xs:=A++([Value.int .u64 y.1,Value.int .i64 y.2]++Bq)) (rest:=rest.drop 2) 6 900 (by simp [mn]) Z Z (by simp only[nr,nz,mz];omega) hg hcm (by simp only[nr,nz,mz,m6];omega) ?_;exact F4 Z (fun _ _ h=>h) nq Z
   ·have hne1:¬ cap=i:=T;have hne3:¬ cap=0:=T;have hr0:rest=[]:=m7 T;subst hr0;have hcap:cap=l.length:=T;subst hcap;rw[mo];have hwk:IntKind.i64.wrap (((l.length+1:Nat):Int)-(i:Int))=((l.length+1-i:Nat):Int):=xb T T |>.trans T;have hxs:(A++Bq).take (i*2)=A:=(zf2 hA Bq).1;have hxl:i*2<=(A++Bq).length:=by rw[nr];omega
    have hZ:=zgc (l.length+1-i);have hgt:l.length<i+(l.length+1-i):=T;refine(Z4∘Zb∘Zfw) ?_;rw[nc hne1];refine(Zi∘Z9∘ZeZ∘Zj∘ZA∘Zx∘Zm∘ZU∘ZcA∘Zj∘Zs∘Zb∘Zx∘Z1∘Zv∘Zb∘Z7∘Za) ?_;refine z7 (X6 L Z Z Z Z) Z ((ZO∘ZD∘ZM∘Zb) ?_);refine z7 (gv L (kl:=.i64) (pl:=0) 0 i Z Z Z Z Z Z ⟨rfl,rfl⟩ T T) Z ?_;rw[nc hne3,show(0+0*2:Nat)=0 from Z,zq4,zq4];refine(Zb∘Z7∘Za∘Za9) ?_;refine yd (T1 L (q:=900) (z:=zPn) (k:=l.length+1-i) (kn:=.i64) Z Z Z Z Z Z J M1 Z T hgt hxs hxl Z T T) (qe (yr (.inr Z) Z) (Zi (h:=?_)));rw[show(Builtin.zeroCells (Value.cells zPn) (l.length+1-i)).toList=zPs (l.length+1-i) from rfl];have hlt:i+(l.length+1-i)=l.length+1:=T;rw[hlt];refine Ar 9 901 rfl (fun hm _=>by omega) fun b2 cap2 rest2 hl2 hmc2 hcm2 hcl2=>?_;have hn1:¬ cap2=i:=T;have hn2:¬ cap2=i+1:=T;have hZ2:(zPs (l.length+1-i)).length=(l.length-i)*2+2:=T;obtain⟨m1,m2⟩:=zk3 (R:=rest2) (X:=[Value.int .u64 y.1,Value.int .i64 y.2]) hA hBq hZ2 rfl;have q1:(A++zPs (l.length+1-i)++rest2).take (0+i*2)++([Value.int .u64 y.1,Value.int .i64 y.2]++(A++zPs (l.length+1-i)++rest2).drop (0+i*2+1*2))=A++([Value.int .u64 y.1,Value.int .i64 y.2]++((zPs (l.length+1-i)).drop 2++rest2)):=by rw[zpc];exact m1
    have q2:(A++([Value.int .u64 y.1,Value.int .i64 y.2]++((zPs (l.length+1-i)).drop 2++rest2))).take (0+(i+1)*2)++(Bq++(A++([Value.int .u64 y.1,Value.int .i64 y.2]++((zPs (l.length+1-i)).drop 2++rest2))).drop (0+(i+1)*2+(l.length-i)*2))=A++([Value.int .u64 y.1,Value.int .i64 y.2]++(Bq++rest2)):=by rw[zpc,zp6 i 1 2];exact m2
    have q3:0+i*2+1*2<=(A++zPs (l.length+1-i)++rest2).length:=by rw[nr,nr];omega
    have q4:0+(i+1)*2+(l.length-i)*2<=(A++([Value.int .u64 y.1,Value.int .i64 y.2]++((zPs (l.length+1-i)).drop 2++rest2))).length:=by simp only[nr,nz,mz,m6];omega
    have q5:Nat.min 1 (l.length+1-i)=1:=by show min _ _=_;omega
    have q6:Nat.min (l.length-i) (l.length+1-(i+1))=l.length-i:=by show min _ _=_;omega
    have q7:((A++Bq).drop (i*2)).take ((l.length-i)*2)=Bq:=by rw[(zf2 hA Bq).2,zpf T]
    have q8:Bq.take ((l.length-i)*2)=Bq:=zpf T;have q9:(l.length-i)*2<=Bq.length:=T;refine(ZI∘Zb) ?_;refine z7 (gv L (kh:=.i64) (ph:=0) i _ Z Z Z Z Z ⟨rfl,rfl⟩ Z T T) Z ?_;rw[nc hn1];refine Zk (h:=?_);refine qe (G7 L (q:=901) 1 rfl Z Z Z (rf Z) Z M1 E q5 (nu 2) Z q3 Z q1) (Zi (h:=?_));refine fz (s:=2) (xs:=A++Bq) (rest:=[]) 0 900 (mo _).symm Z Z (by rw[<-hcur];exact hl) (nu _) hcm (by rw[<-hcur];exact hl) ?_;refine uq 0 rfl (qo (id:=11) [(54,[901])] ki J (ZcD (h:=?_)));refine z8 (gv L (kh:=.i64) (ph:=0) (i+1) _ Z Z Z Z Z ⟨rfl,rfl⟩ Z T T) Z ?_;rw[nc hn2];refine Zep (h:=?_);refine z8 (jp L (kh:=.i64) (ph:=0) (km:=.i64) (pm:=0) i l.length false Z Z Z Z Z ⟨rfl,rfl⟩ ⟨rfl,rfl⟩ (fun h=>by cases h) T T q7) Z ?_;refine xq (G7 L (q:=901) (l.length-i) Z Z Z Z (Na Z) Z M1 T q6 q9 q8 q4 hpB q2) Z Z (ZaZ (h:=?_));refine fz (s:=2) (xs:=A++([Value.int .u64 y.1,Value.int .i64 y.2]++Bq)) (rest:=rest2) 9 901 (by simp [mn]) Z Z (by simp only[nr,nz,mz];omega) hmc2 hcm2 (by simp only[nr,nz,mz] at hcl2 |-;omega) ?_;refine Zaa (h:=?_);refine qe (yr (.inl Z) Z) (qe (yr (.inr Z) Z) (ZF (h:=?_)));exact F4 Z (fun _ _ h=>h) nq Z
end Go.V.L10
section
open Go.V
attribute [local irreducible] Has N Par Ret RetL RetO RetT RetX Src StepOK V VO X kx
namespace Go.V.L10
def _root_.Zfx(t:Wr Y->A:=by intro h;refine z7 (wh L Z Z (zm Z) Z Z Z (fun u H hH hle _=>Tj T hH (hv.le hle))) Z ?_;exact h.1)(h:Y):A:=t ⟨h⟩
def _root_.Zfy(t:Wr Y->A:=by intro h;refine Z7 (h:=?_);refine z7 (yu (cs:=[_,_]) Z Z zm8 Z Z) Z ?_;exact h.1)(h:Y):A:=t ⟨h⟩
def PinP(L0:List Int)(e:Int):Value->Heap->Prop:=fun v H=>∃ s,v=.tuple #[pnv s L0.length,.int .i64 e]/\PsV (xe L0) s H
def PinP.mono{e:Int}:Kn.mono (.sat (PinP L0 e)):=fun _ _ _ ⟨s,h1,h2⟩ hle=>⟨s,h1,h2.le hle⟩
def Gw{l:List (Int×Int)}(h:l[i]?=some x)(rest:List Value):l.flatMap pnc++rest=(l.take i).flatMap pnc++(pnc x++((l.drop (i+1)).flatMap pnc++rest)):=by
 have hi:=get_lt h
 have e:l=l.take i++x::l.drop (i+1):=by
  rw[show x::l.drop (i+1)=l.drop i by rw[zp3 hi,ln h],zpb]
 conv=>lhs;rw[e,zpl,zp0]
 simp only[mn]
def zhe{l:List (Int×Int)}{c:Int}(h:l[i]?=some (r,c))(rest:List Value):∃ t,(l.flatMap pnc++rest).drop (0+i*2+1)=.int .i64 c::t:=by
 rw[Gw h rest];have hl:((l.take i).flatMap pnc).length=i*2:=by rw[di,mg,zqq (Nat.le_of_lt (get_lt h))]
 refine⟨(l.drop (i+1)).flatMap pnc++rest,?_⟩;rw[zqh,zpi T,mi,show 0+i*2+1-((l.take i).flatMap pnc).length=1 by omega];rfl
def Xj{l:List (Int×Int)}{c:Int}(h:l[i]?=some (r,c))(c':Int)(rest:List Value):(l.flatMap pnc++rest).take (0+i*2+1)++([Value.int .i64 c']++(l.flatMap pnc++rest).drop (0+i*2+1+1))=(l.set i (r,c')).flatMap pnc++rest:=by
 have hi:=get_lt h;have hl:((l.take i).flatMap pnc).length=i*2:=by rw[di,mg,zqq (Nat.le_of_lt hi)]
 have hs:(l.set i (r,c'))[i]?=some (r,c'):=by rw[zsz hi]
 rw[Gw h rest,Gw hs rest,zsy (nu _),zs1 (zr7 i)];generalize (l.take i).flatMap pnc=A at hl |-;generalize (l.drop (i+1)).flatMap pnc++rest=ztb
 subst_vars
 have e1:(A++(pnc (r,c)++ztb)).take (0+i*2+1)=A++[Value.int .u64 r]:=by
  rw[zrj,zpf T,show 0+i*2+1-A.length=1 by omega];rfl
 have e2:(A++(pnc (r,c)++ztb)).drop (0+i*2+1+1)=ztb:=by
  rw[zqh,zpi T,mi,show 0+i*2+1+1-A.length=2 by omega];rfl
 rw[e1,e2];simp [pnc]
def Xk{l:List (Int×Int)}(h:i<l.length)(rest:List Value):Nat.ble (0+i*2+1+1) (l.flatMap pnc++rest).length=true:=zr5 (by rw[nr,di];omega)
def Y9{l:List (Int×Int)}(hi:i<=l.length):(Mv l i x)[i]?=some x:=by
 unfold Mv;rw[List.getElem?_append_right (by rw[List.length_take];omega),List.length_take,Nat.min_eq_left hi,Nat.sub_self];rfl
def Rk{l:List (Int×Int)}{y:Int×Int}(hi:i<=l.length):(Mv l i x).set i y=Mv l i y:=by
 unfold Mv;rw[List.set_append_right _ _ (by rw[List.length_take];omega),List.length_take,Nat.min_eq_left hi,Nat.sub_self];rfl
def Xh(r:Int):dt cP r (kz L0)<=(xe L0).length:=by rw[vh];exact o4 r _
def zdl(hr:r≠0)(hz2:(xe L0).length<=1000)(hz:L0.length<=4095)(hB:zth B w)(hv:PsV (xe L0) s B):
  Ret zti 152 [pnv s L0.length,.int .u64 r,.int .i64 1] w B (PinP (L0++[r]) 0):=by
 have hcz:L0.count r<=4095:=mp zs8 hz;have hws:IntKind.i64.wrap (4096-((L0.count r:Nat):Int))=4096-((L0.count r:Nat):Int):=xb T T;have hwt:IntKind.i64.wrap ((L0.length:Int)+1)=((L0++[r]).length:Nat):=by rw[nr];exact xb T T
 obtain⟨p,c,rfl⟩:=jh hv;have hpl:=Xh (L0:=L0) r;by_cases hm:r∈kz L0
 ·have hf:decide (r∈kz L0)=true:=nf hm;have hp:=Fp hm;have hpi:=get_lt hp;have e1:=Cx (jr.1 hm);have hwc:IntKind.i64.wrap (((L0.count r:Nat):Int)+1)=((L0.count r:Nat):Int)+1:=xb T T;generalize hat:dt cP r (kz L0)=at_ at *;refine yn Tryz.func152 Z Tryz.ntmps152 (np Z) hB ((Zu∘ZZ∘Zd∘ZH∘Zbp∘ZJ∘Za6∘ZA∘Zx∘Za6∘ZU∘Zx∘Zo∘Zae∘Za7∘Zbz∘ZC∘ZbL∘Za) ?_);refine z71 L Z (fun u H hH hle=>hf ▸ hat ▸ find_ret (L0:=L0) (t:=L0.length) T hH (hv.le hle)) ?_;refine(ZB∘ZaP∘ZaQ∘ZbL∘Za) ?_;refine z71 L Z (fun u H hH hle=>count_ret T hH (hv.le hle)) ?_;refine(Za9∘ZL∘Zb∘Zr∘Zaz∘Zh∘ZbX∘ZI∘Zq∘Zfx) ?_;refine qe (yr (.inr Z) Z) ((Zan∘ZY∘Za∘Zr∘Zm) ?_);refine Ar 10 900 rfl (fun h0 _=>by omega) fun b cap rest hl hmc hcm hcl=>?_;obtain⟨tl,hld⟩:=zhe hp rest;have hst:=Xj hp (((L0.count r:Nat):Int)+1) rest;have hbl:=Xk hpi rest;refine(Zak∘Zb∘ZdT∘Zz) ?_;refine yd (qg L (q:=900) Z Z Z hld) ((Za∘Z7∘ZdT∘Zz) ?_);refine xl (yo L (q:=900) Z Z hbl Z hst) (Zi (h:=?_));have hln:(xe (L0++[r])).length=(xe L0).length:=by rw[e1,zrc]
  rw[<-e1];refine fz (s:=2) (xs:=(xe (L0++[r])).flatMap pnc) (rest:=rest) 10 900 rfl Z Z (by rw[di,hln]) hmc hcm (by rw[nr,di,hln,<-di,<-nr];exact hcl) ?_;refine zbj 10 rfl fun x H hs _ hsw=>?_;have hsv:PsV (xe (L0++[r])) x H:=by unfold PsV;rw[hln];exact hsw.toV
  obtain⟨p2,c2,rfl⟩:=jh hsv;refine(ZbG∘Zq∘Za∘Zfy∘Zbf) ?_;refine yj L (rs:=[.cell 6 224,.tmp 7]) Z (fun _ _ h=>h) hs fun u H hH hle=>?_;exact⟨_,y9 Z,rfl,_,rfl,hsv.le hle⟩
 ·have hf:decide (r∈kz L0)=false:=ng hm;have e1:=Oj (L:=L0) fun h=>hm (jr.2 h);generalize hat:dt cP r (kz L0)=at_ at *;have e2:xe (L0++[r])=(Mv (xe L0) at_ (r,0)).set at_ (r,1):=by rw[Rk hpl];exact e1
  have hp:=Y9 (x:=(r,(0:Int))) hpl;have hpi:=get_lt hp;have hil:=rc (x:=(r,(0:Int))) hpl;refine yn Tryz.func152 Z Tryz.ntmps152 (np Z) hB ((Zu∘ZZ∘Zd∘ZH∘Zbp∘ZJ∘Za6∘ZA∘Zx∘Za6∘ZU∘Zx∘Zo∘Zae∘Za7∘Zbz∘ZC∘ZbL∘Za) ?_);refine z71 L Z (fun u H hH hle=>hf ▸ hat ▸ find_ret (L0:=L0) (t:=L0.length) T hH (hv.le hle)) ?_;refine(ZB∘ZaP∘ZaQ∘ZbL∘Za) ?_;refine z71 L Z (fun u H hH hle=>count_ret T hH (hv.le hle)) ?_;refine(Za9∘ZL∘Zb∘Zr∘Za∘Zq∘ZcA∘Zx∘Zh∘ZbX∘ZI∘Zq∘Zfx) ?_;refine qe (yr (.inr Z) Z) ((Zan∘ZY∘Za∘Zr∘Zw∘Zaa) ?_);refine qe (yr (.inl Z) Z) (Zb (h:=?_));refine z7 (yu (cs:=[_,_]) Z Z zkm Z Z) Z (ZV (h:=?_));refine qe (c9 L (q:=51) Z Z Z Z Z (fun u H C x hH hle hx hC v2 hv2=>Fi (y:=(r,0)) hpl T hH hv2 hx hC)) (qe (yr (.inr Z) Z) (Zi (h:=?_)));rw[<-hil];refine Ar 10 900 rfl (fun h0 _=>by omega) fun b cap rest hl hmc hcm hcl=>?_;obtain⟨tl,hld⟩:=zhe hp rest;have hst:=Xj hp 1 rest;have hbl:=Xk hpi rest;refine(Zak∘Zb∘ZdT∘Zz) ?_;refine yd (qg L (q:=900) Z Z Z hld) ((Za∘ZaI∘ZdT∘Zz) ?_);refine xl (yo L (q:=900) Z Z hbl Z hst) (Zi (h:=?_));have hln:(xe (L0++[r])).length=(Mv (xe L0) at_ (r,0)).length:=by rw[e2,zrc]
  rw[<-e2];refine fz (s:=2) (xs:=(xe (L0++[r])).flatMap pnc) (rest:=rest) 10 900 rfl Z Z (by rw[di,hln]) hmc hcm (by rw[nr,di,hln,<-di,<-nr];exact hcl) ?_;refine zbj 10 rfl fun x H hs _ hsw=>?_;have hsv:PsV (xe (L0++[r])) x H:=by unfold PsV;rw[hln];exact hsw.toV
  obtain⟨p2,c2,rfl⟩:=jh hsv;refine(ZbG∘Zq∘Za∘Zfy∘Zbf) ?_;refine yj L (rs:=[.cell 6 224,.tmp 7]) Z (fun _ _ h=>h) hs fun u H hH hle=>?_;exact⟨_,y9 Z,rfl,_,rfl,hsv.le hle⟩
def zhg(hr:r≠0)(hz2:(xe L0).length<=1000)(hz:L0.length<=4095)(hB:zth B w)(hv:PsV (xe L0) s B):
  Ret zti 138 [pnv s L0.length,.int .u64 r] w B (PinP (L0++[r]) 0):=by
 obtain⟨p,c,rfl⟩:=jh hv;refine yn Tryz.func138 Z Tryz.ntmps138 (np Z) hB ((Zu∘ZZ∘Zag∘ZbL∘Za) ?_);refine z7 (xg L rfl rfl (zm rfl) rfl rfl rfl PinP.mono (fun u H hH hle _=>zdl hr hz2 hz hH (hv.le hle))) rfl ?_;refine vk 8 rfl fun v1 H1 hs1 hp1=>?_;obtain⟨s1,rfl,hq1⟩:=hp1;obtain⟨p1,c1,rfl⟩:=jh hq1;refine(Zc5∘Zbf) ?_;refine yj L (rs:=[.cell 4 224,.tmp 5]) Z (fun _ _ h=>h) hs1 fun u H hH hle=>?_;exact⟨_,y9 Z,rfl,_,rfl,hq1.le hle⟩
open Go.V.L2 Go.V.L8 Go.V.L6
def _root_.Zdw(t:Wr Y->A:=by intro h;refine wa 900 901 rfl Z (xf _) ?_;exact h.1)(h:Y):A:=t ⟨h⟩
def _root_.ZdV(t:Wr Y->A:=by intro h;refine v8 900 901 rfl (xf _) ?_;exact h.1)(h:Y):A:=t ⟨h⟩
abbrev tyS:TypeId:=226
abbrev Ent:=List (Int×(List U×Value))
abbrev vcE(p:List U×Value):Value:=p.2
abbrev stc(n m:Nat)(s:Value)(t:Nat):List Value:=[.int .u64 n,.map (some m),s,.int .i64 t]
abbrev StO(b n m:Nat)(s:Value)(t:Nat)(es:Ent):GR:=gj (xc b (stc n m s t) tyS) (zmt m .u64 vcE es)
def cm(b n m:Nat)(s:Value)(t:Nat)(es:Ent):(StO b n m s t es).res=iq (xp b (stc n m s t) tyS) (Ef m .u64 vcE es):=rfl
def EsV(es:Ent)(H:Heap):Prop:=∀ e∈es,SetV e.2.1 e.2.2 H
def EsV.le{es:Ent}{H H':Heap}(h:EsV es H)(hle:H.Le H'):EsV es H':=fun e he=>(h e he).le hle
def A5{cs:List Value}{ty:TypeId}:∀ v H u C,(xp b cs ty).P v H u C->joinH H u C b=some (.cells cs.toArray ty):=fun _ _ _ _ ⟨hb,hC⟩=>(d9 ((hC b).2 rfl)).trans hb
def zr_run{P:Program}(L:Tabs P){e:TypeId}{z:Value}(hz:L.zr e=some z)(w:World):(zeroValue e).run P w=.ok z w:=by
 have h:=Tabs.zr_spec hz;unfold zrI at h;split at h
 ·rename_i it hit;simp [zeroValue,typeInfo,hit,h]
 ·cases h
abbrev zoi:TypeId:=221
abbrev tySt:TypeId:=37
def mpS:zti.underlying zoi=some (.map Gf tySt):=J
def kyS:zti.underlying Gf=some (.int .u64):=J
def zrS(w:World):(zeroValue tySt).run zti w=.ok nilSet w:=zr_run L rfl w
attribute [local irreducible] RetY
def none_ret(hn:n≠0)(hb:B b=some (.cells (Value.int .u64 n::rest).toArray tyS))(hB:zth B w):
  Ret zti 139 [.pointer (some ⟨b,0,none⟩)] w B (fun v _=>v=.bool false):=by
 refine yn Tryz.func139 Z Tryz.ntmps139 (np Z) hB ((Z4∘Za) ?_);refine z7 (u0 Z Z Z Z zk2 Z) Z ((Zb∘ZbQ∘Zx∘Zh∘Zc) ?_);exact yj2 L [.tmp 2]
def ge(hn:n≠0)(hb:B b=some (.cells (Value.int .u64 n::rest).toArray tyS))(hB:zth B w):
  Ret zti 156 [.pointer (some ⟨b,0,none⟩)] w B (fun v _=>v=.int .u64 n):=by
 refine yn Tryz.func156 Z Tryz.ntmps156 (np Z) hB (ZbT (h:=?_));refine z71 L Z (fun u H hH hle=>none_ret hn (hle _ _ hb) hH) ?_;refine(Zm∘ZA∘ZbQ∘Zc) ?_;exact yj2 L [.tmp 2]
def pins_ret(hs:∃ p k c,s=.slice p k c)(hn:n≠0)(hb:B b=some (.cells (stc n m s t).toArray tyS))(hB:zth B w):
  Ret zti 142 [.pointer (some ⟨b,0,none⟩)] w B (fun v _=>v=pnv s t):=by
 obtain⟨p,k,c,rfl⟩:=hs;refine yn Tryz.func142 Z Tryz.ntmps142 (np Z) hB ((Zbm∘Zan∘Zbp) ?_);refine z71 L Z (fun u H hH hle=>none_ret hn (hle _ _ hb) hH) ?_;refine(Zm∘ZA∘Zap) ?_;refine z7 (zw L (vs:=[_,_]) (qp Z M) Z Z Z Z ⟨_,rfl⟩) Z (Za2 (h:=?_));refine yj1 L [.cell 2 224] fun u H hH hle=>?_;exact⟨_,y9 Z,rfl,rfl⟩
def K8{b m t:Nat}{es:Ent}(hm:MapOK es S.R)(hn:S.R.length≠0)(hes:EsV es B)(hB:zth B w)(hr:(StO b S.R.length m s t es).P B w C)(hC:ZCB C w B):
  RetY zti 88 [.pointer (some ⟨b,0,none⟩),.int .u64 r] w B C (StO b S.R.length m s t es) (WithP (atS S r).1 (atS S r).2):=by
 unfold RetY;refine xa 900 (StO b S.R.length m s t es) Tryz.func88 Z Tryz.ntmps88 (np Z) hB hr hC ?_;rw[cm];refine ZdV (h:=?_);obtain⟨k,hk⟩:∃ k,k=if r=0 then (S.R.length:Int) else r:=⟨_,rfl⟩
 have hat:atS S r=match kpt S.R k with | some t=>(t,0) | none=>([],14):=by rw[hk];rfl
 have hg:=hm.get k;by_cases hr0:r=0
 ·rw[na hr0] at hk;subst hr0;subst hk
  cases hgk:um (S.R.length:Int) es with
  | none=>
   rw[hgk] at hg;rw[hat,<-hg];have q1:(um (S.R.length:Int) es).elim nilSet vcE=nilSet:=by rw[hgk];rfl
   have q2:(um (S.R.length:Int) es).isSome=false:=by rw[hgk];rfl
   refine(Zbm∘Zba) ?_;refine yd (xx L 900 (Φ:=fun H=>H b=some (.cells (stc S.R.length m s t).toArray tyS)) (c:=.bool false) Z Z (zm Z) Z Z Z Z Z A5 (fun u H hH hle hb=>none_ret hn hb hH)) ((Z1∘ZA∘ZW∘Zw∘Zcn∘Zb6∘ZS∘Za) ?_);refine yd (u9 (q:=901) (vc:=vcE) (S.R.length:Int) mpS kyS zrS Z Z Z Z Z q1 q2) ((ZB∘Zaw∘Zj∘ZQ∘Zr∘ZD∘ZC∘Zdt∘Zbf) ?_);refine Zdw (h:=?_);exact uh L 900 (r:=StO b S.R.length m s t es) (rs:=[.cell 4 37,.tmp 5]) Z (fun _ _ h=>h) nq Z Z (fun H hle=>⟨_,y9 Z,rfl,_,rfl,SetV.nil⟩)
  | some x=>
   obtain⟨l,sv⟩:=x;rw[hgk] at hg;rw[hat,<-hg];have hx:SetV l sv B:=hes _ (am hgk);obtain⟨f1,p1,f2,p2,rfl,hpl⟩:=hx.shape;have q1:(um (S.R.length:Int) es).elim nilSet vcE=.agg #[f1,.pointer p1,f2,.pointer p2]:=by rw[hgk];rfl
   have q2:(um (S.R.length:Int) es).isSome=true:=by rw[hgk];rfl
   refine(Zbm∘Zba) ?_;refine yd (xx L 900 (Φ:=fun H=>H b=some (.cells (stc S.R.length m s t).toArray tyS)) (c:=.bool false) Z Z (zm Z) Z Z Z Z Z A5 (fun u H hH hle hb=>none_ret hn hb hH)) ((Z1∘ZA∘ZW∘Zw∘Zcn∘Zb6∘ZS∘Za) ?_);refine yd (u9 (q:=901) (vc:=vcE) (S.R.length:Int) mpS kyS zrS Z Z Z Z Z q1 q2) ((ZB∘ZZ∘Zby∘Zj∘ZQ∘Zr∘Zm∘Zv∘ZaH∘Zby∘Zc) ?_);refine Zdw (h:=?_);exact uh L 900 (r:=StO b S.R.length m s t es) (rs:=[.cell 4 37,.tmp 5]) Z (fun _ _ h=>h) nq Z Z (fun H hle=>⟨_,y9 Z,rfl,_,rfl,hx.le hle⟩)
 ·rw[nc hr0] at hk;subst hk
  cases hgk:um k es with
  | none=>
   rw[hgk] at hg;rw[hat,<-hg];have q1:(um k es).elim nilSet vcE=nilSet:=by rw[hgk];rfl
   have q2:(um k es).isSome=false:=by rw[hgk];rfl
   refine(Zbm∘Zba) ?_;refine yd (xx L 900 (Φ:=fun H=>H b=some (.cells (stc S.R.length m s t).toArray tyS)) (c:=.bool false) Z Z (zm Z) Z Z Z Z Z A5 (fun u H hH hle hb=>none_ret hn hb hH)) ((Z1∘ZA∘Zx∘Zm∘ZU∘ZS∘Za) ?_);refine yd (u9 (q:=901) (vc:=vcE) k mpS kyS zrS Z Z Z Z Z q1 q2) ((ZB∘Zaw∘Zj∘ZQ∘Zr∘ZD∘ZC∘Zdt∘Zbf) ?_);refine Zdw (h:=?_);exact uh L 900 (r:=StO b S.R.length m s t es) (rs:=[.cell 4 37,.tmp 5]) Z (fun _ _ h=>h) nq Z Z (fun H hle=>⟨_,y9 Z,rfl,_,rfl,SetV.nil⟩)
  | some x=>
   obtain⟨l,sv⟩:=x;rw[hgk] at hg;rw[hat,<-hg];have hx:SetV l sv B:=hes _ (am hgk);obtain⟨f1,p1,f2,p2,rfl,hpl⟩:=hx.shape;have q1:(um k es).elim nilSet vcE=.agg #[f1,.pointer p1,f2,.pointer p2]:=by rw[hgk];rfl
   have q2:(um k es).isSome=true:=by rw[hgk];rfl
   refine(Zbm∘Zba) ?_;refine yd (xx L 900 (Φ:=fun H=>H b=some (.cells (stc S.R.length m s t).toArray tyS)) (c:=.bool false) Z Z (zm Z) Z Z Z Z Z A5 (fun u H hH hle hb=>none_ret hn hb hH)) ((Z1∘ZA∘Zx∘Zm∘ZU∘ZS∘Za) ?_);refine yd (u9 (q:=901) (vc:=vcE) k mpS kyS zrS Z Z Z Z Z q1 q2) ((ZB∘ZZ∘Zby∘Zj∘ZQ∘Zr∘Zm∘Zv∘ZaH∘Zby∘Zc) ?_);refine Zdw (h:=?_);exact uh L 900 (r:=StO b S.R.length m s t es) (rs:=[.cell 4 37,.tmp 5]) Z (fun _ _ h=>h) nq Z Z (fun H hle=>⟨_,y9 Z,rfl,_,rfl,hx.le hle⟩)
end Go.V.L10
namespace Go.V.L11
open Go.V.L4
def _root_.Zei(t:Wr Y->A:=by intro h;refine z8 (qd L (yw Z (List.Mem.head _)) Z Z Z Z) Z ?_;exact h.1)(h:Y):A:=t ⟨h⟩
def zwr(w:World):(zeroValue znw).run zti w=.ok (.agg #[.int .i64 0,.int .i64 0]) w:=L10.zr_run L rfl w
attribute [local irreducible] XP RetY Pan
def Us{a e:Int}(hB:zth B w):Ret zti 147 [wrV a e] w B (fun v _=>v=.tuple #[.int .i64 a,.int .i64 e]):=by
 refine yn Tryz.func147 Z Tryz.ntmps147 (np Z) hB ((Zb2∘Zba) ?_);refine z7 (Ty Z Z Z J) Z ((ZB∘Zaw∘Zd) ?_);refine lh 4 rfl fun b4 _=>?_;refine(Zy∘ZD∘Zc9∘ZbY∘Zei∘ZbY∘Zei∘ZaM∘ZaB) ?_;exact yj2 L [.tmp 2,.tmp 3]
def Pt(hB:zth B w):Ret zti 147 [.nilIface] w B (fun v _=>v=.tuple #[.int .i64 0,.int .i64 0]):=by
 refine yn Tryz.func147 Z Tryz.ntmps147 (np Z) hB ((Zb2∘Zba) ?_);refine z7 (Tz Z Z Z J zwr) Z ((ZB∘Zaw∘Zbx∘Zm∘Z2∘ZR) ?_);exact yj2 L [.tmp 2,.tmp 3]
abbrev zb4:TypeId:=3
abbrev Ni:TypeId:=38
abbrev tyPS:TypeId:=147
abbrev G3(ba be bs:Nat)(x y z:Value):GR:=gj (xc ba [x] zb4) (gj (xc be [y] Ni) (xc bs [z] tyPS))
attribute [local irreducible] ed
def Mo{ba be:Nat}{x y z:Value}{a e:Int}{m m':FrameMode}(hm:RecM m m' v)(hcv:∀ (u:World) (H:Heap),zth H u->Ret zti 147 [v] u H (fun r _=>r=.tuple #[.int .i64 a,.int .i64 e]))(hB:zth B w)(hr:(G3 ba be bs x y z).P B w C)(hC:ZCB C w B):
  ed zti 146 [kg ba,kg be,kg bs] w B C m m' (G3 ba be bs (.int .i64 a) (.int .i64 e) (if e=0 then z else .pointer none)):=by
 refine ze8 900 (G3 ba be bs x y z) _ hm Tryz.func146 Z Tryz.ntmps146 (np Z) Z Z Z Z hB hr hC ?_;refine Nl (r1:=xp ba [x] zb4) (r2:=(gj (xc be [y] Ni) (xc bs [z] tyPS)).res) 900 901 rfl (xf _) ?_;refine Nl (r1:=xp be [y] Ni) (r2:=xp bs [z] tyPS) 901 902 rfl (cd _ _ _) ?_;refine z71 L Z (fun u H hH _=>hcv u H hH) ?_;refine ZB (h:=?_);refine xl (yo L (q:=900) (cs':=[.int .i64 a]) Z Z Z Z Z) (xl (yo L (q:=901) (cs':=[.int .i64 e]) Z Z Z Z Z) (Zac (h:=?_)));refine Zbi (h:=?_);by_cases he:e=0
 ·rw[na he];refine(Ze∘ZE∘ZdU∘Zaq∘Zae) ?_;refine rm 901 902 rfl Z (cd _ _ _) ?_;refine rm 900 901 rfl Z (xf (gj (xc be [.int .i64 e] Ni) (xc bs [z] tyPS))) ?_;exact zbl L 900 (r:=G3 ba be bs (.int .i64 a) (.int .i64 e) z) Z Z Z nq
 ·rw[nc he];refine(Ze∘ZE∘ZdU∘ZcN∘Zw∘Z9) ?_;refine xl (yo L (q:=902) (cs':=[.pointer none]) Z Z Z Z Z) (Zac (h:=?_));refine rm 901 902 rfl Z (cd _ _ _) ?_;refine rm 900 901 rfl Z (xf (gj (xc be [.int .i64 e] Ni) (xc bs [.pointer none] tyPS))) ?_;exact zbl L 900 (r:=G3 ba be bs (.int .i64 a) (.int .i64 e) (.pointer none)) Z Z Z nq
end Go.V.L11
namespace Go.V.L11
open Go.V.L4
def ee{F:Fr}{κ:Kap}{pv:Value}(l:List (Nat×Kn))(hl:LiveOK l κ)(h:XP F B n O (ofL l) pv ztg):XP F B n O κ pv ztg:=fun a u hh=>h a u (hh.live hl)
def zh3{P:Program}{F:Fr}{κ:Kap}{fn:Func}{R R':Ending->World->Prop}(h:LV P F B n O κ fn R)(hm:∀ e u,R e u->R' e u):LV P F B n O κ fn R':=fun a u hh=>let ⟨v,h1,h2⟩:=h a u hh;⟨v,h1,hm _ _ h2⟩
attribute [local irreducible] XP LV RetY Pan ed
abbrev FLd(w:World)(ba be bs:Nat):Fr:=⟨w,none,[.u (dfd 146 [kg ba,kg be,kg bs])],noL⟩
abbrev KLd(ba be bs:Nat)(x y z:Value):List (Nat×Kn):=[(2,.is (kg bs)),(3,.is (kg ba)),(4,.is (kg be)),(910,.own (xp bs [z] tyPS)),(911,.own (xp ba [x] zb4)),(912,.own (xp be [y] Ni))]
def Ys{B0:Heap}{ba be:Nat}{x y z:Value}{a e:Int}(he:e≠0)(hs:Since (FLd w ba be bs) B0 B){R:Ending->World->Prop}(hR:∀ r u,li w B0 noL (fun v _ _=>v=.tuple #[.pointer none,.int .i64 a,.int .i64 e]) r u->R r u):
  XP (FLd w ba be bs) B n O (ofL (KLd ba be bs x y z)) (wrV a e) (bodyPostM Fence.wide 0 zti Tryz.f86 R):=by
 refine P2 912 910 rfl Z (cd _ _ _) ?_;refine P2 911 912 rfl Z (xf (gj (xc be [y] Ni) (xc bs [z] tyPS))) ?_;refine zgd L 911 (r:=G3 ba be bs x y z) (r':=G3 ba be bs (.int .i64 a) (.int .i64 e) (if e=0 then z else .pointer none)) Z Z Z (fun u H C hH _ hr hC=>Mo (RecM.caught _) (fun u H hH=>Us hH) hH hr hC) ?_ (fun _ _ h=>h);rw[nc he];refine Hf (r1:=xp ba [.int .i64 a] zb4) (r2:=(gj (xc be [.int .i64 e] Ni) (xc bs [.pointer none] tyPS)).res) 911 912 rfl (xf _) ?_;refine Hf (r1:=xp be [.int .i64 e] Ni) (r2:=xp bs [.pointer none] tyPS) 912 910 rfl (cd _ _ _) ?_;refine l9 3 911 rfl Z (l9 4 912 rfl Z (l9 2 910 rfl Z (zh3 (R:=li w B0 noL (fun v _ _=>v=.tuple #[.pointer none,.int .i64 a,.int .i64 e])) ?_ hR)));exact zk7 L (rs:=[.cell 2 tyPS,.cell 3 zb4,.cell 4 Ni]) Z hs (fun u H _ _=>wm (y9 Z) Z (wm (y9 Z) Z (wm (y9 Z) Z Z)))
end Go.V.L11
end
namespace Go.V
def zgf(ops:Array Oper)(K:Nat):Bool:=
 let b:=Region.before ops
 (List.range ops.size).all fun i=>Nat.ble i K || (b.getD i 0).testBit K
section sound
variable {P:Program} {St:Kap->Act->World->Prop} {ops:Array Oper} {ex:Exs}
def Sn(P:Program)(St:Kap->Act->World->Prop)(ops:Array Oper)(ex:Exs)(r:Option Nat)(ztg:Exit->Act->World->Prop)(K:Nat)(o:Oper)(κ:Kap):Prop:=
 ∀ κ' a u,(∀ t∈lks ops ex o,κ' t=κ t)->St κ' a u->∀ Kk,wpOpIn (FW r) 0 P ops ztg K Kk a u
def Ex{r:Option Nat}{ztg:Exit->Act->World->Prop}{K:Nat}{o:Oper}:∀ (l:List Nat) {κ:Kap},(∀ j∈l,∀ x,ops[j]?=some x->Mj (tch ex x) (lks ops ex o)=true)->
  ParI P St ops ex (Sn P St ops ex r ztg K o) l κ->Sn P St ops ex r ztg K o κ
 | [],κ,_,h=>h
 | j::l,κ,hap,⟨x,us,hx,hd,sx,rest⟩=>fun κ' a u hl hh=>by
  have h2:=ak (hap j (mb ..) x hx);exact Ex l (fun m hm=>hap m (me _ hm)) rest κ' a u (fun t ht=>(hl t ht).trans (w5 us κ t fun p hp e=>h2 p.1 (hd p hp) (e ▸ ht)).symm) hh
def U0{r:Option Nat}(hsep:zg3 ops ex=true){K:Nat}(hw:zgf ops K=true)(hoK:ops[K]?=some o)(hK:K<ops.size):∀ (fuel:Nat) (listed:Array Bool) (l:List Nat) (κ:Kap) (a:Act) (u:World),
  l.length<fuel->l.Pairwise (·<·)->listed.size=ops.size->(∀ i,(i∈l\/(K<=i/\i<ops.size))↔i<ops.size/\listed.getD i true=false)->P1 ops listed->(∀ i∈l,i<K)->
  ParI P St ops ex (Sn P St ops ex r ztg K o) l κ->St κ a u->wpAnyIn (FW r) 0 P .any ops ztg fuel listed a u:=by
 intro fuel
 induction fuel with
 | zero=>intro listed l κ a u hlen;omega
 | succ fuel ih=>
  intro listed l κ a u hlen hsort hsz hmem hcl hlK hp hh;have hsep':=hsep;simp only[zg3,zph,zpm] at hsep'
  have hedge:∀ i (hi:i<ops.size),∀ e∈(ops[i]'hi).after,Region.binds .any e=true->e.on<i:=fun i hi e he hb=>by
   have h1:=(hsep' i (by simpa using hi)).1;rw[zpn,zpy hi,Option.getD_some,Array.all_eq_true'] at h1;have:=h1 e he;simp [hb] at this;exact this
  have hlow:∀ j,j<ops.size->listed.getD j true=false->(∀ i∈l,j<=i)->j<=K->j∈Region.ready .any ops listed:=fun j hj hjl hmin hjK=>by
   refine mem_ready.2 ⟨hjl,ops[j],by simp [hj],fun e he hb=>?_⟩;have hlt:=hedge j hj e he hb;cases hle:listed.getD e.on true
   ·rcases(hmem e.on).2 ⟨by omega,hle⟩ with h | h
    ·have:=hmin _ h;omega
    ·omega
   ·rw[zpn,zpy T] at hle |-;simpa using hle
  have hKl:=((hmem K).1 (.inr ⟨nu _,hK⟩)).2;constructor
  ·intro hr;exfalso
   have:∃ j,j∈Region.ready .any ops listed:=by
    cases l with
    | nil=>exact⟨K,hlow K hK hKl (fun i hi=>by cases hi) (nu _)⟩
    | cons j0 l0=>
     obtain⟨h1,h2⟩:=(hmem j0).1 (.inl (mb ..));refine⟨j0,hlow j0 h1 h2 (fun i hi=>?_) (Nat.le_of_lt (hlK j0 (mb ..)))⟩;rcases ma.1 hi with rfl | hi
     ·exact nu _
     ·exact Nat.le_of_lt (zsv hsort hi)
   obtain⟨j,hj⟩:=this;rw[hr] at hj;cases hj
  ·intro i hi;obtain⟨hli,oi,ho,hall⟩:=mem_ready.1 hi
   have hisz:i<ops.size:=by
    rcases m8 i ops.size with h | h
    ·exact h
    ·rw[zq3 h] at ho;cases ho
   have hio:ops[i]=oi:=by rw[zpy hisz] at ho;exact Option.some.inj ho
   have hwait:∀ j,j<ops.size->((Region.before ops).getD i 0).testBit j=true->listed.getD j true=false->False:=fun j hjs h2 hjl=>by
    have:=tg hsz hcl i hisz (fun e he hb=>by rw[hio] at he;exact hall e he hb) j h2;rw[zpn,zpy T] at this hjl;simp at this hjl;rw[this] at hjl;cases hjl
   have hapart:∀ j∈l,j<i->∀ x y,ops[j]?=some x->ops[i]?=some y->A9 ops ex x y=true:=fun j hj hji x y hx hy=>by
    obtain⟨hjs,hjl⟩:=(hmem j).1 (.inl hj);have h2:=(hsep' i (by simpa using hisz)).2 j (by simpa using hji);rw[zru] at h2;rcases h2 with h2 | h2
    ·exact(hwait j hjs h2 hjl).elim
    ·rw[zpn,zpn,hx,hy] at h2;exact h2
   rcases(hmem i).2 ⟨hisz,hli⟩ with hil | ⟨hKi,_⟩
   ·obtain⟨l1,l3,rfl⟩:=zse hil
    have hap:∀ j∈l1,∀ x y,ops[j]?=some x->ops[i]?=some y->A9 ops ex x y=true:=fun j hj=>
     hapart j (zpz _ hj) ((zp4.1 hsort).2.2 j hj i (mb ..))
    obtain⟨o',us,ho',hd,sx,rest⟩:=ParI.front l1 hap hp;obtain rfl:oi=o':=by rw[ho] at ho';exact Option.some.inj ho'
    have hst:=sx κ a u (fun _ _=>rfl) hh;refine After.wpOpIn ho ?_;refine After.mono (fun a' u' hh'=>?_) hst;have hli':i<listed.size:=T;have hiK:=hlK i hil;refine ih (listed.setIfInBounds i true) (l1++l3) _ a' u' (by simp at hlen |-;omega) ?_ (by simpa using hsz) ?_ ?_ (fun j hj=>hlK j (by rcases mh.1 hj with h | h;exact zpz _ h;exact zp8 _ (me _ h))) rest hh'
    ·rw[zp4] at hsort |-;exact⟨hsort.1,(mj.1 hsort.2.1).2,fun x hx y hy=>hsort.2.2 x hx y (me _ hy)⟩
    ·intro j;rw[Bt true hli']
     have hnd:i∉l1++l3:=by
      rw[zp4] at hsort;intro hm;rcases mh.1 hm with hm | hm
      ·have:=hsort.2.2 i hm i (mb ..);omega
      ·have:=(mj.1 hsort.2.1).1 i hm;omega
     by_cases hij:i=j
     ·subst hij;simp [hnd];omega
     ·rw[nc hij,<-hmem j];simp only[mh,ma];constructor
      ·rintro((h | h) | h);exact .inl (.inl h);exact .inl (.inr (.inr h));exact .inr h
      ·rintro((h | h | h) | h);exact .inl (.inl h);exact ni h.symm hij;exact .inl (.inr h);exact .inr h
    ·intro k hk hkl e he hb;rw[Bt _ hli'] at hkl |-;by_cases hie:i=e.on
     ·rw[na hie]
     ·rw[nc hie];by_cases hik:i=k
      ·subst hik;rw[hio] at he;exact hall e he hb
      ·rw[nc hik] at hkl;exact hcl k hk hkl e he hb
   ·by_cases hKe:i=K
    ·subst hKe;obtain rfl:oi=o:=by rw[ho] at hoK;exact Option.some.inj hoK
     refine Ex l (fun j hj x hx=>?_) hp κ a u (fun _ _=>rfl) hh _;have:=hapart j hj (hlK j hj) x oi hx ho;simp only[A9,zpm] at this;exact this.1
    ·exfalso;simp only[zgf,zph,zru] at hw;rcases hw i (by simpa using hisz) with h | h
     ·have:=np h;omega
     ·exact hwait K hK h hKl
end sound
section code
variable {P:Program} {F:Fr}    {κ:Kap}  {ops:Array Oper} {ex:Exs} {os:List Oper}
def zmq(P:Program)(F:Fr)(B:Heap)(n:Nat)(O:Boxes)(ops:Array Oper)(ex:Exs)(K:Nat)(o:Oper)(κ:Kap)(os:List Oper)(ztg:Exit->Act->World->Prop):Prop:=
 zjp P (Has F B O n) ops ex (Sn P (Has F B O n) ops ex F.r ztg K o) os κ
def F5{id:Nat}{l:List Oper}(K:Nat)(ex:Exs)(hm:P.follows .mixedOrders=true)(ho:l[K]?=some o)(hs:(zg3 l.toArray ex && zgf l.toArray K)=true)
  (h:zmq P F B n O l.toArray ex K o κ (l.take K) ztg):V P F B n O κ (.region id l.toArray true) ztg:=fun a u hh=>by
 rw[zpm] at hs
 have hK:K<l.length:=by
  rcases m8 K l.length with h | h
  ·exact h
  ·rw[zpd h] at ho;cases ho
 refine wpIn_region_any hm (U0 (St:=Has F B O n) (ex:=ex) (o:=o) hs.1 hs.2 (by simpa using ho) (by simpa using hK) l.toArray.size _ (List.range' 0 K) κ a _ (by simpa using hK) List.pairwise_lt_range' (by simp) ?_ ?_ (fun i hi=>by have:=List.mem_range'_1.1 hi;omega) ?_ hh.drew)
 ·intro i;constructor
  ·rintro(h | h)
   ·have:=List.mem_range'_1.1 h;refine⟨by simp;omega,?_⟩;have:i<l.length:=T;simp [this]
   ·have:i<l.length:=by simpa using h.2
    refine⟨h.2,?_⟩;simp [this]
  ·rintro⟨h,_⟩;by_cases hi:i<K
   ·exact .inl (List.mem_range'_1.2 ⟨mc _,by omega⟩)
   ·exact .inr ⟨by omega,h⟩
 ·intro k hk hkl;simp at hk;simp [hk] at hkl
 ·refine E6 K 0 (by simp;omega) ?_;rw[zp7];exact h
def jv{K:Nat}{ok:Oper}{d:Nat}{k:Kn}(hs:StepOK P F B n ops O κ o d k)(hd:vd o=some d)(h:zmq P F B n O ops ex K ok (upd κ d k) os ztg):zmq P F B n O ops ex K ok κ (o::os) ztg:=
 ⟨[(d,k)],fun p hp=>by simp at hp;subst hp;simp [tch,hd],hs.stepG,h⟩
def r8{K:Nat}(ll:List (Nat×Kn))(hin:(ll.all fun p=>(lks ops ex o).contains p.1)=true)(hl:LiveOK ll κ)(h:N F B n O (ofL ll) (QX P F ops K ztg)):zmq P F B n O ops ex K o κ [] ztg:=fun κ' a u hag hh Kk=>by
 have key:∀ l:List (Nat×Kn),(l.all fun p=>(lks ops ex o).contains p.1)=true->LiveOK l κ->LiveOK l κ':=by
  intro l
  induction l with
  | nil=>intro _ _;trivial
  | cons p l ih=>
   intro h1 h2;rw[List.all_cons,zpm] at h1;exact⟨(hag p.1 (by simpa using h1.1)).trans h2.1,ih h1.2 h2.2⟩
 exact h a u (hh.live (key ll hin hl)) Kk
end code
end Go.V
namespace Go.V.L11
open Go.V.L4
def Qm{sb rb:Nat}{bs:List Nat}{fr:Int}{R:Rd}(hb:∀ b∈bs,b<=255)(hl:bs.length<=1099511627776)(hat:R.at_<=bs.length)(hB:zth B w)(hs:BsV bs fu sv B)(hr:(xw sb rb sv fr R).P B w C)(hC:ZCB C w B):
  RetX zti 151 [kg rb] w B C (xw sb rb sv fr (sg bs R).2) (.int .u64 ((sg bs R).1:Nat)):=
 RetL.mono (RetY.conv (RetY.frame (Hr hr) hC fun C1 h1 hC1=>(N7 hb hl hat hB hs h1 hC1).toY) fun _ _ _ h=>Hr h:RetY _ _ _ _ _ _ (xw sb rb sv fr (sg bs R).2) fun x _=>x=.int .u64 ((sg bs R).1:Nat)) fun _ _ _ _ h=>h
attribute [local irreducible] V N X VO Par XP LV StepOK Has Ret RetL RetO RetT kx RetX RetY Pan ed Src
open Go.V.L2 Go.V.L6
abbrev tySt:TypeId:=37
def Yl(hr:r≠0){p:Option Addr}{c:Nat}{t:Int}(hB:zth B w):
  Ret zti 152 [.agg #[.slice p k c,.int .i64 t],.int .u64 r,.int .i64 0] w B (fun v _=>v=.tuple #[.agg #[.slice p k c,.int .i64 t],.int .i64 0]):=by
 refine yn Tryz.func152 Z Tryz.ntmps152 (np Z) hB ((Zu∘ZZ∘Zd∘ZH∘Zbp∘ZJ∘Za6∘ZA∘Zx∘Za6∘ZU∘ZW∘Zcd∘Zbn∘ZbL∘Zbf) ?_);refine yj1 L [.cell 6 224,.tmp 7] fun u H hH hle=>?_;exact⟨_,y9 Z,rfl,rfl⟩
end Go.V.L11
namespace Go.V.L3
open Go.V.L2
attribute [local irreducible] V N X VO Par StepOK Has Ret RetL RetO RetT Src
abbrev tyI:TypeId:=3
end Go.V.L3
namespace Go.V
def Cm(n:Nat):ByteArray:=match n%3 with
 | 0=>⟨#[100,111,99]⟩
 | 1=>⟨#[102,111,108,100,101,114]⟩
 | _=>⟨#[103,114,111,117,112]⟩
def idS(n:Nat):ByteArray:=match n%5 with
 | 0=>⟨#[97]⟩
 | 1=>⟨#[98]⟩
 | 2=>⟨#[99,49]⟩
 | 3=>⟨#[100]⟩
 | _=>⟨#[114,111,111,116]⟩
def zha(n:Nat):ByteArray:=match n%4 with
 | 0=>⟨#[118,105,101,119,101,114]⟩
 | 1=>⟨#[101,100,105,116,111,114]⟩
 | 2=>⟨#[109,101,109,98,101,114]⟩
 | _=>⟨#[112,97,114,101,110,116]⟩
def cz(n:Nat):chk (Cm n)=0/\(Cm n).size<=16:=by
 unfold Cm;split<;>decide+kernel
def Fo(n:Nat):chk (idS n)=0/\(idS n).size<=16:=by
 unfold idS;split<;>decide+kernel
def Gv(n:Nat):chk (zha n)=0/\(zha n).size<=16:=by
 unfold zha;split<;>decide+kernel
def Hp(n:Nat):(ByteArray×ByteArray)×ByteArray:=((Cm n,idS (n/3)),zha (n/15))
def zd3(n:Nat):u5 [(Hp n).1.1,(Hp n).1.2,(Hp n).2]=0:=by
 simp only[u5,Hp,(cz _).1,(Fo _).1,(Gv _).1,na]
def Ug(n:Nat):(Hp n).1.1.size<=16/\(Hp n).1.2.size<=16/\(Hp n).2.size<=16:=⟨(cz _).2,(Fo _).2,(Gv _).2⟩
def _root_.Zdx(t:Wr Y->A:=by intro h;refine z7 (zfp Z Z Z Z T M) Z ?_;exact h.1)(h:Y):A:=t ⟨h⟩
def _root_.Zfz(t:Wr Y->A:=by intro h;refine z7 (l7 L 0 rfl Z Z Z Z Z Z T) Z ?_;exact h.1)(h:Y):A:=t ⟨h⟩
def _root_.Zf0(t:Wr Y->A:=by intro h;refine z7 (l7 L 1 rfl Z Z Z Z Z Z T) Z ?_;exact h.1)(h:Y):A:=t ⟨h⟩
def _root_.Zf1(t:Wr Y->A:=by intro h;refine z7 (l7 L 2 rfl Z Z Z Z Z Z T) Z ?_;exact h.1)(h:Y):A:=t ⟨h⟩
attribute [local irreducible] V N X VO Par StepOK Has Ret RetL Src
def La(n:Nat)(hB:zth B w):Ret zti 162 [.int .i64 n] w B (fun v _=>v=.string (Cm n)):=by
 unfold Cm;have e:Int.tmod (n:Int) 3=((n%3:Nat):Int):=rfl;refine yn Tryz.func162 Z Tryz.ntmps162 (np Z) hB ?_;have hlt:=zrp n (show 0<3 by decide);rcases(by omega:n%3=0\/n%3=1\/n%3=2) with h | h | h
 ·have e0:Int.tmod (n:Int) 3=0:=by rw[e,h];rfl
  rw[h];refine(Z4∘ZV∘Za∘Zdx∘Zfz∘Zdc∘Zc) ?_;exact yj2 L [.tmp 2]
 ·have e0:Int.tmod (n:Int) 3=1:=by rw[e,h];rfl
  rw[h];refine(Z4∘ZV∘Za∘Zdx∘Zf0∘Zdc∘Zc) ?_;exact yj2 L [.tmp 2]
 ·have e0:Int.tmod (n:Int) 3=2:=by rw[e,h];rfl
  rw[h];refine(Z4∘ZV∘Za∘Zdx∘Zf1∘Zdc∘Zc) ?_;exact yj2 L [.tmp 2]
def id_ret(n:Nat)(hB:zth B w):Ret zti 163 [.int .i64 n] w B (fun v _=>v=.string (idS n)):=by
 unfold idS;have e:Int.tmod (n:Int) 5=((n%5:Nat):Int):=rfl;refine yn Tryz.func163 Z Tryz.ntmps163 (np Z) hB ?_;have hlt:=zrp n (show 0<5 by decide);rcases(by omega:n%5=0\/n%5=1\/n%5=2\/n%5=3\/n%5=4) with h | h | h | h | h
 ·have e0:Int.tmod (n:Int) 5=0:=by rw[e,h];rfl
  rw[h];refine(Z4∘ZV∘Za∘Zdx∘Zfz∘Zdc∘Zc) ?_;exact yj2 L [.tmp 2]
 ·have e0:Int.tmod (n:Int) 5=1:=by rw[e,h];rfl
  rw[h];refine(Z4∘ZV∘Za∘Zdx∘Zf0∘Zdc∘Zc) ?_;exact yj2 L [.tmp 2]
 ·have e0:Int.tmod (n:Int) 5=2:=by rw[e,h];rfl
  rw[h];refine(Z4∘ZV∘Za∘Zdx∘Zf1∘Zdc∘Zc) ?_;exact yj2 L [.tmp 2]
 ·have e0:Int.tmod (n:Int) 5=3:=by rw[e,h];rfl
  rw[h];refine(Z4∘ZV∘Za∘Zdx) ?_;refine z7 (l7 L 3 rfl Z Z Z Z Z Z T) Z ((Zdc∘Zc) ?_);exact yj2 L [.tmp 2]
 ·have e0:Int.tmod (n:Int) 5=4:=by rw[e,h];rfl
  rw[h];refine(Z4∘ZV∘Za∘Zdx) ?_;refine z7 (l7 L 4 rfl Z Z Z Z Z Z T) Z ((Zdc∘Zc) ?_);exact yj2 L [.tmp 2]
def V8(n:Nat)(hB:zth B w):Ret zti 164 [.int .i64 n] w B (fun v _=>v=.string (zha n)):=by
 unfold zha;have e:Int.tmod (n:Int) 4=((n%4:Nat):Int):=rfl;refine yn Tryz.func164 Z Tryz.ntmps164 (np Z) hB ?_;have hlt:=zrp n (show 0<4 by decide);rcases(by omega:n%4=0\/n%4=1\/n%4=2\/n%4=3) with h | h | h | h
 ·have e0:Int.tmod (n:Int) 4=0:=by rw[e,h];rfl
  rw[h];refine(Z4∘ZV∘Za∘Zdx∘Zfz∘Zdc∘Zc) ?_;exact yj2 L [.tmp 2]
 ·have e0:Int.tmod (n:Int) 4=1:=by rw[e,h];rfl
  rw[h];refine(Z4∘ZV∘Za∘Zdx∘Zf0∘Zdc∘Zc) ?_;exact yj2 L [.tmp 2]
 ·have e0:Int.tmod (n:Int) 4=2:=by rw[e,h];rfl
  rw[h];refine(Z4∘ZV∘Za∘Zdx∘Zf1∘Zdc∘Zc) ?_;exact yj2 L [.tmp 2]
 ·have e0:Int.tmod (n:Int) 4=3:=by rw[e,h];rfl
  rw[h];refine(Z4∘ZV∘Za∘Zdx) ?_;refine z7 (l7 L 3 rfl Z Z Z Z Z Z T) Z ((Zdc∘Zc) ?_);exact yj2 L [.tmp 2]
end Go.V
namespace Go.V.L2
def _root_.Zfa(t:Wr Y->A:=by intro h;refine z8 (zfp Z Z Z Z T M) Z ?_;exact h.1)(h:Y):A:=t ⟨h⟩
def zgr(s:Nat):Ed:=((Cm s,idS (s/3)),if 15<=s then zha (s/15-1) else ⟨#[]⟩)
def L5(a b:Nat):U:=(Hp (a%60),zgr (b%75))
abbrev ty2:TypeId:=88
def pcs(p:Nat×Nat):List Value:=[.int .u8 p.1,.int .u8 p.2]
def zhm(p:Nat×Nat):(pcs p).length=2:=rfl
abbrev PS2(ps:List (Nat×Nat))(fu:Bool):Value->Heap->Prop:=SlV ty2 2 (ps.flatMap pcs) ps.length fu
def zm4(h:ps[j]?=some (a,b)):((ps.flatMap pcs).drop (j*2)).take 2=[.int .u8 a,.int .u8 b]:=fw zhm ps j _ h
def tl(ps:List (Nat×Nat)):List U:=(ps.take 20).map fun p=>L5 p.1 p.2
def Cd(ps:List (Nat×Nat)):(tl ps).length=min 20 ps.length:=by simp [tl]
def zj7(h:ps[i]?=some (a,b))(hi:i<20):(tl ps)[i]?=some (L5 a b):=by
 unfold tl;rw[zpr,zqw hi,h];rfl
def Vn(s:Nat):(zgr s).1.1.size<=16/\(zgr s).1.2.size<=16/\(zgr s).2.size<=16:=by
 refine⟨(cz _).2,(Fo _).2,?_⟩;unfold zgr;dsimp only;split
 ·exact(Gv _).2
 ·decide
def r9(a b:Nat):TZ (L5 a b):=by
 have h1:=Ug (a%60);have h2:=Vn (b%75);unfold TZ L5;dsimp only;refine⟨⟨?_,?_,?_⟩,?_,?_,?_⟩<;>omega
def Oq(a b:Nat):tE (L5 a b)=0:=by
 unfold tE L5;dsimp only;rw[na (zd3 _)];unfold zgr b9;dsimp only;by_cases h:15<=b%75
 ·rw[na h];split
  ·simp only[u5,(cz _).1,(Fo _).1,na]
  ·simp only[u5,(cz _).1,(Fo _).1,(Gv _).1,na]
 ·rw[nc h,na rfl];simp only[u5,(cz _).1,(Fo _).1,na]
def zff{t:U}(h:t∈tl ps):TZ t/\tE t=0:=by
 obtain⟨p,_,rfl⟩:=zo9.1 h;exact⟨r9 _ _,Oq _ _⟩
attribute [local irreducible] V N X VO Par StepOK Has Ret RetL Src
def Db(a b:Nat)(ha:a<=255)(hb:b<=255)(hB:zth B w):Ret zti 90 [.agg #[.int .u8 a,.int .u8 b]] w B (fun v _=>v=uv (L5 a b)):=by
 have e60:Int.tmod (a:Int) 60=((a%60:Nat):Int):=rfl;have e75:Int.tmod (b:Int) 75=((b%75:Nat):Int):=rfl;have hlt:=zrp a (show 0<60 by decide);have hlt2:=zrp b (show 0<75 by decide);unfold L5;generalize a%60=m at e60 hlt;generalize b%75=s at e75 hlt2;have q1:(m:Int).tdiv 3=((m/3:Nat):Int):=rfl;have q2:(m:Int).tdiv 15=((m/15:Nat):Int):=rfl;have q3:(s:Int).tdiv 3=((s/3:Nat):Int):=rfl;have q4:(s:Int).tdiv 15=((s/15:Nat):Int):=rfl;have d1:IntKind.i64.wrap ((m:Int).tdiv 3)=((m/3:Nat):Int):=xb T T;have d2:IntKind.i64.wrap ((m:Int).tdiv 15)=((m/15:Nat):Int):=xb T T;have d3:IntKind.i64.wrap ((s:Int).tdiv 3)=((s/3:Nat):Int):=xb T T;have d4:IntKind.i64.wrap ((s:Int).tdiv 15)=((s/15:Nat):Int):=xb T T;unfold Hp zgr;refine yn Tryz.func90 Z Tryz.ntmps90 (np Z) hB ((Zu∘Zca∘ZbV) ?_);refine z8 (o5 L _ Z Z Z Z zob Z Z (by first | omega | decide)) Z ?_;refine(ZdD∘Zfa) ?_;refine z8 (ko Z Z Z zec.1 zec.2 (xb T T)) Z (z8 (o5 L _ Z Z Z Z zob Z Z (by first | omega | decide)) Z ?_);refine(ZdD∘Zfa) ?_;refine z8 (ko Z Z Z zec.1 zec.2 (xb T T)) Z ((ZaM∘Zbo∘Zy) ?_);refine z71 L Z (fun u H hH _=>La _ hH) ?_;refine(Za∘ZcZ) ?_;refine z71 L Z (fun u H hH _=>id_ret _ hH) ?_;refine(Ze3∘Za∘ZcZ) ?_;refine z71 L Z (fun u H hH _=>V8 _ hH) ?_;refine(Zeo∘Za) ?_;refine z71 L Z (fun u H hH _=>La _ hH) ?_;refine(Za∘ZcZ) ?_;refine z71 L Z (fun u H hH _=>id_ret _ hH) ?_;refine(Ze3∘ZdE∘Zcm∘Zbs) ?_;by_cases h:15<=s
 ·rw[na h];have hs1:IntKind.i64.wrap (((s/15:Nat):Int)-1)=((s/15-1:Nat):Int):=(xb T T).trans T;refine lh 5 rfl fun b5 hb5=>?_;refine(ZA∘ZbZ∘Z0∘ZcZ∘Za9) ?_;refine z71 L Z (fun u H hH _=>V8 _ hH) ?_;refine(Zz∘Zz∘Zdg∘Zi∘Zt∘ZeC∘Za2) ?_;refine yj1 L [.cell 2 57] fun u H hH hle=>?_;refine ZcM (h:=?_);rfl
 ·rw[nc h];refine(ZA∘Za4∘Zm∘Zt∘Zay∘Za2) ?_;refine yj1 L [.cell 2 57] fun u H hH hle=>?_;refine ZcM (h:=?_);rfl
def zgn{ps:List (Nat×Nat)}(hps:∀ p∈ps,p.1<=255/\p.2<=255)(hlen:ps.length<=9223372036854775807)(hB:zth B w)(hv:PS2 ps fu sv B):
  Ret zti 36 [.agg #[sv]] w B (US (tl ps) false):=by
 refine yn Tryz.func36 Z Tryz.ntmps36 (np Z) hB ((Zu∘Zag∘Zj) ?_);refine ui 3 tyU 6 rfl ((Z9∘ZaJ) ?_);have hll:=Cd ps
 refine xm (fun i:Nat=>[(1,.sat (At [sv] 24 0)),(3,.own (SlR tyU 6 ((tl ps).take i).length (((tl ps).take i).flatMap ucs))),(4,.is (.int .i64 i))])
  (fun i=>i<=(tl ps).length) (fun i=>(tl ps).length-i) 0 (mc _) ⟨rfl,rfl,rfl,nm⟩ ?_
 rintro i hi;have hli:=mg (i:=i) (l:=tl ps);by_cases h1:i<ps.length
 ·by_cases h2:i<20
  ·obtain⟨⟨a,b⟩,hn⟩:=xk h1;have hc:=zm4 hn;have hab:=hps _ (zpa hn);have hg:=zj7 hn h2;generalize hgg:L5 a b=t at hg;refine(Zcr∘Zq) ?_;refine uj 7 (PS2 ps fu) Z ns hv ((Zcv∘ZN∘Zb∘ZN∘Zh∘Zw∘Zaf∘Zam∘Zt) ?_);refine qe (yr (.inl Z) Z) (Zq (h:=?_));refine uj 18 (PS2 ps fu) Z ns hv ((Zee∘ZdB) ?_);refine z7 (q0 (r:=uv t) L Z Z (zm Z) Z Z Z (fun u H hH _ _=>hgg ▸ Db a b hab.1 hab.2 hH)) Z ((ZV∘Zcy) ?_);refine qe (yr (.inr Z) Z) ((Zax∘Z0∘ZaC) ?_);exact ym (x:=i) (i+1) T T ⟨Z,by rw[Az hg];exact ut Z,Z,nm⟩
  ·obtain rfl:i=(tl ps).length:=by omega
   rw[m9];refine(Zcr∘Zq) ?_;refine uj 7 (PS2 ps fu) Z ns hv ((Zcv∘ZN∘ZbA∘Zh∘Zas∘Zs) ?_);refine qe (yr (.inl Z) Z) (qe (yr (.inr Z) Z) (ZF (h:=?_)));refine uq 2 rfl ?_;refine yj1 L [.tmp 2] fun u H hH hle=>?_;exact fun v hv=>hv
 ·obtain rfl:i=(tl ps).length:=by omega
  rw[m9];refine(Zcr∘Zq) ?_;refine uj 7 (PS2 ps fu) Z ns hv ((Zcv∘ZJ∘ZcE∘Zh∘Zas∘Zs) ?_);refine qe (yr (.inl Z) Z) (qe (yr (.inr Z) Z) (ZF (h:=?_)));refine uq 2 rfl ?_;refine yj1 L [.tmp 2] fun u H hH hle=>?_;exact fun v hv=>hv
end Go.V.L2
namespace Go.V.L3
open Go.V.L2
def zcf{t:U}(h:tE t=0):(chk t.1.1.1=0/\chk t.1.1.2=0/\chk t.1.2=0)/\b9 t.2.1.1 t.2.1.2 t.2.2=0:=by
 unfold tE at h;split at h
 ·rename_i hg;refine⟨?_,h⟩
  revert hg
  simp only[u5];have c1:=wt t.1.1.1;have c2:=wt t.1.1.2;have c3:=wt t.1.2;intro hg;rcases c1 with c1 | c1<;>rcases c2 with c2 | c2<;>rcases c3 with c3 | c3<;>simp [c1,c2,c3] at hg |-
 ·rename_i hg;exact ni h hg
attribute [local irreducible] V N X VO Par StepOK Has Ret RetL RetO RetT Src
end Go.V.L3
namespace Go.V.L6
open Go.V.L2 Go.V.L3
abbrev d0:U:=(((⟨#[100,111,99]⟩,⟨#[97]⟩),⟨#[118,105,101,119,101,114]⟩),((⟨#[117,115,101,114]⟩,⟨#[120]⟩),⟨#[]⟩))
abbrev d1:U:=(((⟨#[100,111,99]⟩,⟨#[97]⟩),⟨#[118,105,101,119,101,114]⟩),((⟨#[103,114,111,117,112]⟩,⟨#[103]⟩),⟨#[109,101,109,98,101,114]⟩))
abbrev d2:U:=(((⟨#[100,111,99]⟩,⟨#[98]⟩),⟨#[118,105,101,119,101,114]⟩),((⟨#[117,115,101,114]⟩,⟨#[120]⟩),⟨#[]⟩))
def tzB(t:U):Bool:=decide (t.1.1.1.size<=1000) && decide (t.1.1.2.size<=1000) && decide (t.1.2.size<=1000) && decide (t.2.1.1.size<=1000) && decide (t.2.1.2.size<=1000) && decide (t.2.2.size<=1000)
def Qb{t:U}(h:tzB t=true):TZ t:=by
 unfold tzB at h;simp only[zpm,decide_eq_true_eq] at h;unfold TZ;omega
attribute [local irreducible] V N X VO Par StepOK Has Ret RetL RetO RetT Src
def _root_.Zey(t:Wr Y->A:=by intro h;refine z8 (o5 L _ Z Z Z Z znp Z Z (by first | omega | decide)) Z ?_;exact h.1)(h:Y):A:=t ⟨h⟩
def _root_.Zez(t:Wr Y->A:=by intro h;refine z8 (yu (cs:=[_,_,_,_,_,_,_]) Z Z zn1 Z Z) Z ?_;exact h.1)(h:Y):A:=t ⟨h⟩
abbrev ty3:TypeId:=111
abbrev C3:=Nat×Nat×Nat
def qcs(p:C3):List Value:=[.int .u8 p.1,.int .u8 p.2.1,.int .u8 p.2.2]
def zhb(p:C3):(qcs p).length=3:=rfl
abbrev PS3(cs:List C3)(fu:Bool):Value->Heap->Prop:=SlV ty3 3 (cs.flatMap qcs) cs.length fu
def zfl{cs:List C3}{c:Nat}(h:cs[j]?=some (a,b,c)):((cs.flatMap qcs).drop (j*3)).take 3=[.int .u8 a,.int .u8 b,.int .u8 c]:=fw zhb cs j _ h
def drB(c:Nat):Bool:=decide (c%2=1)
def ow(l:List U)(c:C3):List U:=(wo l (L5 c.1 c.2.1) (drB c.2.2)).1
def sOf(ps:List (Nat×Nat))(cs:List C3):List U:=(cs.take 30).foldl ow (af (tl ps))
structure SOK(l:List U):Prop where
 sst:Sst ku l
 tz:∀ t∈l,TZ t
 ok:∀ t∈l,tE t=0
def P4{l:List U}(h:SOK l){x:U}(hz:TZ x)(hx:tE x=0)(d:Bool)(hl:l.length<4096):SOK (wo l x d).1/\(wo l x d).2=0/\(wo l x d).1.length<=l.length+1:=by
 refine⟨⟨U1 h.sst x d,fun t ht=>?_,fun t ht=>?_⟩,?_⟩
 ·rcases Ko ht with ht | rfl
  ·exact h.tz t ht
  ·exact hz
 ·rcases Ko ht with ht | rfl
  ·exact h.ok t ht
  ·exact hx
 ·unfold wo;rw[na hx];split
  ·exact⟨rfl,zrf (zqu _ _)⟩
  ·split
   ·exact⟨rfl,zp5 _⟩
   ·rw[nc T,wv];exact⟨rfl,nu _⟩
def Qi{l:List U}(h:SOK l)(c:C3)(hl:l.length<4096):SOK (ow l c)/\(wo l (L5 c.1 c.2.1) (drB c.2.2)).2=0/\(ow l c).length<=l.length+1:=P4 h (r9 _ _) (Oq _ _) _ hl
def Qn(ps:List (Nat×Nat)):SOK (af (tl ps))/\(af (tl ps)).length<=20:=by
 have hm:∀ t∈af (tl ps),TZ t/\tE t=0:=fun t ht=>zff (by unfold af at ht;simpa using gz.1 ht);refine⟨⟨gm cmpT_ord Sst.nil,fun t ht=>(hm t ht).1,fun t ht=>(hm t ht).2⟩,?_⟩;have h1:=A0 (tl ps);have h2:=Cd ps;omega
def Pi:∀ (cs:List C3) {l:List U},SOK l->l.length+cs.length<4096->SOK (cs.foldl ow l)/\(cs.foldl ow l).length<=l.length+cs.length
 | [],l,h,_=>⟨h,nu _⟩
 | c::cs,l,h,hl=>by
  simp only[nz] at hl;obtain⟨h1,_,h3⟩:=Qi h c T;obtain⟨g1,g2⟩:=Pi cs h1 T;exact⟨g1,by simp only[zrd,nz];omega⟩
def zkh(ps:List (Nat×Nat))(cs:List C3):SOK (sOf ps cs)/\(sOf ps cs).length<=50:=by
 obtain⟨h1,h2⟩:=Qn ps;have h3:(cs.take 30).length<=30:=by rw[mg];omega
 obtain⟨g1,g2⟩:=Pi (cs.take 30) h1 T;exact⟨g1,by unfold sOf;omega⟩
def zae{cs:List C3}{c:C3}(h:cs[i]?=some c)(l:List U):(cs.take (i+1)).foldl ow l=ow ((cs.take i).foldl ow l) c:=by
 rw[zpj,h];simp
def zkj(c:Nat):Int.tmod (c:Int) 2=((c%2:Nat):Int):=rfl
def R8{c:Nat}{x:U}{d:Bool}(hx:L5 a b=x)(hd:drB c=d)(ha:a<=255)(hb:b<=255)(hc:c<=255)(hB:zth B w):Ret zti 44 [.agg #[.int .u8 a,.int .u8 b,.int .u8 c]] w B (fun v _=>v=chv x d):=by
 subst hx hd;have hr:=zkj c;refine yn Tryz.func44 Z Tryz.ntmps44 (np Z) hB ?_;by_cases h1:c%2=1
 ·have e1:drB c=true:=nf h1;rw[e1];refine(Zu∘Zca∘ZbV∘Zey∘ZdD∘Zey∘ZdD) ?_;refine z8 (yu (cs:=[_,_]) Z Z zn0 Z Z) Z (z81 L Z (fun u H hH _=>Db a b ha hb hH) ?_);refine(Zey∘ZdD∘Zfa∘Zde∘Zez∘ZdQ∘Zb1) ?_;refine yj1 L [.cell 2 77] fun u H hH hle=>?_;refine ZcM (h:=?_);rfl
 ·have e1:drB c=false:=ng h1;rw[e1];refine(Zu∘Zca∘ZbV∘Zey∘ZdD∘Zey∘ZdD) ?_;refine z8 (yu (cs:=[_,_]) Z Z zn0 Z Z) Z (z81 L Z (fun u H hH _=>Db a b ha hb hH) ?_);refine(Zey∘ZdD∘Zfa∘Zc2∘Zez∘ZdQ∘Zb1) ?_;refine yj1 L [.cell 2 77] fun u H hH hle=>?_;refine ZcM (h:=?_);rfl
def zct{ps:List (Nat×Nat)}{cs:List C3}{fx:Bool}{zte:List U}(hM:sOf ps cs=zte)(hps:∀ p∈ps,p.1<=255/\p.2<=255)(lps:ps.length<=9223372036854775807)(hcs:∀ c∈cs,c.1<=255/\c.2.1<=255/\c.2.2<=255)(lcs:cs.length<=9223372036854775807)
  {sx cx:Value}   (hB:zth B w) (hx:PS2 ps fx sx B) (hc:PS3 cs fc cx B):Ret zti 7 [.agg #[sx,cx]] w B (US zte false):=by
 have ofx:∀ (w:World) (B:Heap),zth B w->PS2 ps fx sx B->Ret zti 36 [.agg #[sx]] w B (US (tl ps) false):=fun w B hB hv=>zgn hps lps hB hv;obtain⟨ok0,l0⟩:=Qn ps;have zp:∀ t∈tl ps,TZ t:=fun t ht=>(zff ht).1;have lp:=Cd ps;unfold sOf at hM;have rsx:=fun(v:Value) (w:World) (B:Heap) (hB:zth B w) (hv:US (tl ps) false v B)=>oz (l:=tl ps) T zp hB hv;have hrs:g8 ku [] (tl ps)=af (tl ps):=rfl;generalize af (tl ps)=l1 at *;generalize tl ps=p at *;refine yn Tryz.func7 Z Tryz.ntmps7 (np Z) hB ((Zu∘Zag∘Zbj) ?_);refine z7 (zw L (vs:=[_]) (qu Z) Z Z Z Z ⟨_,rfl⟩) Z (z7 (xg (φ:=US p false) L Z Z (zm Z) Z Z Z ns (fun u H hH hle _=>ofx _ _ hH (hx.le hle))) Z (z7 (xg (φ:=US l1 false) L Z Z (zm Z) Z Z Z ns (fun u H hH _ _ v1 h1=>rsx _ _ _ hH h1)) Z ((Zat∘Zan∘Z9∘ZaJ) ?_)))
 refine xm (fun i:Nat=>[(1,.sat (At [sx,cx] 27 0)),(3,.sat (US ((cs.take i).foldl ow l1) false)),(4,.is (.int .i64 i))])
  (fun i=>i<=(cs.take 30).length) (fun i=>(cs.take 30).length-i) 0 (mc _) ⟨rfl,rfl,rfl,nm⟩ ?_
 rintro i hi;have h30:(cs.take 30).length=min 30 cs.length:=mg
 have hfin:i=(cs.take 30).length->(cs.take i).foldl ow l1=zte:=fun e=>by
  rw[<-hM,e,h30];congr 1;exact(List.take_eq_take_min (l:=cs) (i:=30)).symm
 by_cases h1:i<cs.length
 ·by_cases h2:i<30
  ·obtain⟨⟨a,b,c⟩,hn⟩:=xk h1;have hcc:=zfl hn;obtain⟨ka,kb,kc⟩:=hcs _ (zpa hn);dsimp only at ka kb kc;have hst:=zae hn l1;obtain⟨okl,ll⟩:=Pi (cs.take i) ok0 (by rw[mg];omega);rw[mg] at ll;obtain⟨_,he,_⟩:=Qi okl (a,b,c) T;have hw:wo ((cs.take i).foldl ow l1) (L5 a b) (drB c)=(ow ((cs.take i).foldl ow l1) (a,b,c),0):=Prod.ext rfl he;rw[<-hst] at hw;have hmono:Kn.mono (.sat (US ((cs.take (i+1)).foldl ow l1) false)):=ns;have hz1:=r9 a b;generalize hxx:L5 a b=x at hw hz1;generalize hdd:drB c=d at hw;refine(Zcr∘Zq) ?_;refine uj 11 (PS3 cs fc) Z ns hc ((Zcv∘ZN∘Zb∘ZN∘Zh∘Zw∘Zaf∘Zam∘Zt∘Zk∘Zq) ?_);refine uj 23 (PS3 cs fc) Z ns hc (Zee (h:=?_));refine z7 (yi L (vs:=[_,_,_]) Z Z Z Z Z ⟨_,rfl⟩) Z (z71 L Z (fun u H hH _=>R8 hxx hdd ka kb kc hH) ?_);refine z7 (xg (φ:=R6 ((cs.take (i+1)).foldl ow l1) 0) L Z Z (zm Z) Z Z Z R6.mono (fun u H hH _ _ v1 h1=>V1 hw okl.sst T hz1 okl.tz hH h1)) Z ((Zk∘ZcW∘ZcC∘Zat∘Zax∘Z0∘ZaC) ?_);exact ym (x:=i) (i+1) T T ⟨Z,Z,Z,nm⟩
  ·obtain he:=hfin T;rw[he];refine(Zcr∘Zq) ?_;refine uj 11 (PS3 cs fc) Z ns hc ((Zcv∘ZN∘ZbA∘Zh∘Zas∘Zs∘Zk∘Zcp) ?_);refine yj1 L [.tmp 2] fun u H hH hle=>?_;exact fun v hv=>hv
 ·obtain he:=hfin T;rw[he];refine(Zcr∘Zq) ?_;refine uj 11 (PS3 cs fc) Z ns hc ((Zcv∘ZJ∘ZcE∘Zh∘Zas∘Zs∘Zk∘Zcp) ?_);refine yj1 L [.tmp 2] fun u H hH hle=>?_;exact fun v hv=>hv
def Q2:∀ (r:List U) {out:List U},(∀ t∈r,tE t=0)->out.length+r.length<=4096->ofU out r=(g8 ku out r,0)
 | [],_,_,_=>rfl
 | t::r,out,hr,hl=>by
  simp only[nz] at hl
  have h1:wo out t false=(if t∈out then out else om ku t out,0):=by
   unfold wo;rw[na (hr t (mb ..)),nc E];split
   ·rfl
   ·rw[nc T]
  rw[ofU,h1,na rfl,Ez];refine Q2 r (out:=if t∈out then out else om ku t out) (fun z hz=>hr z (me _ hz)) ?_;split
  ·omega
  ·rw[wv];omega
def zdb{l:List U}(h:SOK l)(hl:l.length<=4096):ofU [] l=(l,0):=by
 rw[Q2 l h.ok (by simpa using hl),Tc cmpT_ord h.sst]
def Hb{s:ByteArray}(h:chk s=0):¬ s=⟨#[]⟩:=fun e=>by subst e;rw[zix] at h;cases h
end Go.V.L6
namespace Go.V.L8
open Go.V.L2 Go.V.L3 Go.V.L6
def _root_.Zdy(t:Wr Y->A:=by intro h;refine z7 (yi L (vs:=[_,_,_,_,_,_,_]) Z Z Z Z Z ⟨_,rfl⟩) Z ?_;exact h.1)(h:Y):A:=t ⟨h⟩
def _root_.ZdC(t:Wr Y->A:=by intro h;refine z7 (zw L (vs:=[_,_,_,_,_,_,_]) (y9 Z) Z Z Z Z ⟨_,rfl⟩) Z ?_;exact h.1)(h:Y):A:=t ⟨h⟩
def zag{s:List U}(h0:cE 32 l=0){c:CH}(h:∀ (j:Nat) x,j<i->l[j]?=some x->s4 s x=true)(hc:l[i]?=some c)(hh:s4 s c=false):oo s l=(i,13):=by
 unfold oo;rw[if_pos h0];exact Uj h hc hh
def Ui{s:List U}(h0:cE 32 l=0)(h:∀ (j:Nat) x,l[j]?=some x->s4 s x=true):oo s l=(l.length,0):=by
 unfold oo;rw[if_pos h0];exact Uk fun x hx=>let ⟨j,hj⟩:=List.getElem?_of_mem hx;h j x hj
attribute [local irreducible] V N X VO Par StepOK Has Ret RetL RetO RetT Src
def H6{l:List CH}(hz:∀ c∈l,TM c.1)(hl:l.length<=9223372036854775807){e:Int}(he:cE 32 l=e)(hB:zth B w)(hv:KS tyC l fu v B):
  Ret zti 194 [v] w B (fun r _=>r=.int .i64 e):=by
 obtain⟨p,m,c,rfl⟩:=Lc hv;refine yn Tryz.func194 Z Tryz.ntmps194 (np Z) hB ((Zu∘Zd) ?_);refine ri 1 rfl fun q H1 hs1 ⟨b,hpb,hb1⟩=>?_;subst hpb;refine(ZE∘ZcB) ?_;refine uj 3 (KS tyC l fu) Z ns (hv.le hs1.le) ((Zcv∘Za0) ?_);refine z71 L Z (fun u H hH hle=>Fc (caps:=[.pointer (some ⟨b,0,none⟩)]) hz hl Z he hH (fun i c hc u' H' hH' hle'=>zi1 hc hH' (hle' _ _ (hle _ _ hb1)) ((hv.le hs1.le).le (Heap.Le.trans hle hle')))) ?_;refine Zc (h:=?_);refine yj L (rs:=[.tmp 2]) Z (fun _ _ h=>h) hs1 fun u H hH hle=>?_;rfl
def s0{s:List U}{c:CH}{b:Bool}(hb:s4 s c=b)(hB:zth B w)(hv:SetV s v B):Ret zti 26 [v,chv c.1 c.2] w B (fun r _=>r=.bool b):=by
 subst hb;obtain⟨x,d⟩:=c;obtain⟨f1,p1,f2,q1,rfl,hpl⟩:=hv.shape;obtain⟨h,hh⟩:∃ h,decide (x∈s)=h:=⟨_,rfl⟩
 unfold s4;dsimp only;rw[hh];refine yn Tryz.func26 Z Tryz.ntmps26 (np Z) hB ((Zaj∘Zd∘ZbV∘Zd7∘Zbc∘ZaY) ?_);refine z81 L Z (fun u H hH hle=>jf hh hH (hv.le hle)) ?_;refine(Zbk∘ZeT∘ZaB) ?_;refine yj1 L [.tmp 4] fun u H hH hle=>?_;cases h<;>cases d<;>rfl
def first_ret{s:List U}{l:List CH}(hz:∀ c∈l,TM c.1)(hl:l.length<=9223372036854775807){r:Nat}{e:Int}(hr:oo s l=(r,e)){sv v:Value}(hB:zth B w)(hs:SetV s sv B)(hv:KS tyM l fu v B):
  Ret zti 195 [sv,v] w B (fun x _=>x=.tuple #[.int .i64 r,.int .i64 e]):=by
 obtain⟨f1,p1,f2,q1,rfl,hpl⟩:=hs.shape;refine yn Tryz.func195 Z Tryz.ntmps195 (np Z) hB (k8 1 (KS tyM l fu) Z ns hv ?_);by_cases h0:cE 32 l=0
 ·refine(Zu∘Zo∘ZG∘Zk) ?_;refine z7 (q0 L Z Z (zm Z) Z Z Z (fun u H hH _ _ v1 h1=>i7 hz hl h0 hH h1)) Z ((Zbx∘Zaq∘Z1∘Z2∘Zg∘ZaW) ?_);refine xm (fun i:Nat=>[(1,.sat (KS tyM l fu)),(2,.sat (At [f1,.pointer p1,f2,.pointer q1] ou 0)),(14,.sat (KS tyM l fu)),(15,.is (.int .i64 l.length)),(16,.is (.int .i64 i))]) (fun i=>i<=l.length/\∀ (j:Nat) x,j<i->l[j]?=some x->s4 s x=true) (fun i=>l.length-i) 0 ⟨mc _,fun j c h=>ni h (Nat.not_lt_zero _)⟩ ⟨Z,Z,Z,Z,Z,nm⟩ ?_;rintro i ⟨hi,hok⟩;by_cases hlt:i<l.length
  ·obtain⟨c,hc0⟩:=xk hlt;have hc:=El hc0;cases hh:s4 s c
   ·rw[zag h0 hok hc0 hh] at hr;cases hr;refine(Ze∘Zt∘Z6∘ZQ∘Zau∘Zdy∘ZZ∘Zo∘Zbd∘Zi∘ZC∘Zd2∘ZdC) ?_;refine z71 L Z (fun u H hH hle=>s0 hh hH (hs.le hle)) ?_;refine(Zr∘ZD∘ZaQ∘ZR) ?_;exact yj2 L [.tmp 4,.tmp 5]
   ·refine(Ze∘Zt∘Z6∘ZQ∘Zau∘Zdy∘ZZ∘Zo∘Zbd∘Zi∘ZC∘Zd2∘ZdC) ?_;refine z71 L Z (fun u H hH hle=>s0 hh hH (hs.le hle)) ?_;refine(Zr∘Zch∘ZM∘ZX) ?_
    exact ym (x:=i) (i+1) ⟨hlt,fun j c' hj hc'=>by
     rcases m8 j i with h | h
     ·exact hok j c' h hc'
     ·have:j=i:=T;subst this;rw[hc0] at hc';cases hc';exact hh⟩ T ⟨rfl,rfl,rfl,rfl,rfl,nm⟩
  ·rw[Ui h0 (fun j x hj=>hok j x (by have:=get_lt hj;omega) hj)] at hr;cases hr;refine(Ze∘Zt∘Zav∘ZI∘Zg∘ZR) ?_;exact yj2 L [.tmp 4,.tmp 5]
 ·have:oo s l=(0,cE 32 l):=nc h0;rw[this] at hr;cases hr;refine(Zu∘Zo∘ZG∘Zk) ?_;refine z7 (q0 L Z Z (zm Z) Z Z Z (fun u H hH _ _ v1 h1=>i7 hz hl Z hH h1)) Z ((Zbx∘ZaO∘ZA∘ZR) ?_);exact yj2 L [.tmp 4,.tmp 5]
def _root_.Zcu(t:Wr Y->A:=by intro h;refine z8 (zw L (vs:=[_,_,_,_]) (y9 Z) Z Z Z Z ⟨_,rfl⟩) Z ?_;exact h.1)(h:Y):A:=t ⟨h⟩
def _root_.Zdi(t:Wr Y->A:=by intro h;refine qe (w7 L Z Z Z (rf Z) Z zml Z Z T T) ?_;exact h.1)(h:Y):A:=t ⟨h⟩
def _root_.Zej(t:Wr Y->A:=by intro h;refine z7 (zw L (vs:=[_,_,_,_,_,_,_]) (yw Z (List.Mem.head _)) Z Z Z Z ⟨_,rfl⟩) Z ?_;exact h.1)(h:Y):A:=t ⟨h⟩
def _root_.Zdj(t:Wr Y->A:=by intro h;refine z8 (X7 Z Z Z Z bt4 Z) Z ?_;exact h.1)(h:Y):A:=t ⟨h⟩
def _root_.ZeF(t:Wr Y->A:=by intro h;refine z8 (zw L (vs:=[_,_,_,_,_,_]) (yw Z (List.Mem.head _)) Z Z Z Z ⟨_,rfl⟩) Z ?_;exact h.1)(h:Y):A:=t ⟨h⟩
def zlx{l:List CH}(h:cE n l=0):l.length<=n/\∀ c∈l,tE c.1=0:=by
 unfold cE at h;split at h
 ·exact ni h E
 ·split at h
  ·exact ni h E
  ·rename_i h1 h2;refine⟨by omega,fun c hc=>?_⟩;by_cases h0:tE c.1=0
   ·exact h0
   ·exact ni (zr3.2 ⟨c,hc,by simp [h0]⟩) h2
def Eo{s:ByteArray}(h:chk s=0):s.size<=1099511627776:=by
 unfold chk at h;split at h
 ·rename_i h1;omega
 ·exact ni h E
def zb3{t:U}(h:tE t=0):TZ t:=by
 unfold tE at h;split at h
 ·rename_i h1;obtain⟨c1,c2,c3⟩:=Kd h1;obtain⟨d1,d2,d3⟩:=fh h;refine⟨⟨Eo c1,Eo c2,Eo c3⟩,Eo d1,Eo d2,?_⟩;rcases d3 with d3 | d3
  ·rw[d3];exact mc _
  ·exact Eo d3
 ·rename_i h1;exact ni h h1
def WriteP(t:List U)(made:List CH)(e:Int)(r:Value)(H:Heap):Prop:=∃ tv mv,r=.tuple #[tv,mv,.int .i64 e]/\SetV t tv H/\KS tyC made true mv H
def WriteP.mono{t:List U}{e:Int}:Kn.mono (.sat (WriteP t made e)):=fun _ _ _ ⟨tv,mv,h1,h2,h3⟩ hle=>⟨tv,mv,h1,h2.le hle,h3.le hle⟩
def zay(hB:zth B w)(hv:KS tyC l fu v B):Ret zti 196 [v] w B (KS tyC l true):=by
 refine yn Tryz.func196 Z Tryz.ntmps196 (np Z) hB (k8 0 (KS tyC l fu) Z ns hv ((Z4∘Zk∘Zg∘Zg∘ZdO∘Zcp) ?_));refine yj1 L [.tmp 2] fun u H hH hle=>?_;exact fun v hv=>hv
set_option maxRecDepth 10000 in
def write_ret{s t:List U}{l cs made:List CH}{fl fc:Bool}{e:Int}(zl:∀ c∈l,TM c.1)(zc:∀ c∈cs,TM c.1)(ll:l.length<=9223372036854775807)(lc:cs.length<=9223372036854775807)(hsl:s.length<=4096)(hr:ef s l cs=(t,made,e)){sv lv cv:Value}(hB:zth B w)
  (hs:SetV s sv B) (hl:KS tyM l fl lv B) (hc:KS tyC cs fc cv B):Ret zti 136 [sv,lv,cv] w B (WriteP t made e):=by
 obtain⟨f1,p1,f2,q1,rfl,hpl⟩:=hs.shape;refine yn Tryz.func136 Z Tryz.ntmps136 (np Z) hB (k8 1 (KS tyM l fl) Z ns hl (k8 2 (KS tyC cs fc) Z ns hc ?_));unfold ef at hr;by_cases h1:cE 32 l=0
 ·rw[na h1] at hr;by_cases h2:cE 32 cs=0
  ·rw[na h2] at hr;obtain⟨r,e1,hf⟩:∃ r e1,oo s l=(r,e1):=⟨_,_,rfl⟩
   rw[hf] at hr;dsimp only at hr;by_cases h3:e1=0
   ·subst h3;rw[na rfl] at hr;obtain⟨l32,hval⟩:=zlx h2;refine(Zbu∘ZZ∘Zo∘ZG∘Zk) ?_;refine z7 (q0 L Z Z (zm Z) Z Z Z (fun u H hH _ _ v1 g1=>i7 zl ll h1 hH g1)) Z ((Zbx∘Zaq∘Z1∘Z2∘Zk) ?_);refine z7 (q0 L Z Z (zm Z) Z Z Z (fun u H hH _ _ v1 g1=>H6 zc lc h2 hH g1)) Z ((Zb6∘Zaq∘Z1∘ZC∘ZaH∘Zk) ?_);refine z7 (q0 L Z Z (zm Z) Z Z Z (fun u H hH hle _ v1 g1=>first_ret zl ll hf hH (hs.le hle) g1)) Z ((ZbB∘ZaQ∘Zaq∘Z1∘ZI∘Zg∘ZaW) ?_);refine ay (X:=SXp) 3 (r:=fun x=>Cell (scs x.1) ou) (φ:=Eh s) (jb s) ⟨(f1,p1,f2,q1),hpl⟩ hs Z (ui 7 tyC 7 rfl ?_)
    refine xm (fun y:Nat×List U×List CH=>[(3,.own (ExR (fun x:SXp=>Cell (scs x.1) ou) (Eh y.2.1) (jb y.2.1))),(6,.own (Cell [.nilFunc,.pointer none,.nilFunc,.pointer none] ou)),(7,.own (SlR tyC 7 y.2.2.length (y.2.2.flatMap ccs))),(40,.sat (KS tyC cs fc)),(41,.is (.int .i64 cs.length)),(42,.is (.int .i64 y.1))])
     (fun y=>y.1<=cs.length/\Av y.2.1 y.2.2 (cs.drop y.1)=(t,made,e)/\y.2.1.length<=4096/\y.2.2.length<=y.1) (fun y=>cs.length-y.1) (0,s,[]) ⟨mc _,hr,hsl,nu _⟩ ⟨rfl,rfl,rfl,rfl,rfl,rfl,nm⟩ ?_
    clear hr hs hsl;rintro⟨k,s,md⟩ ⟨hk,he,hsl,hmd⟩;dsimp only at hk he hsl hmd |-;refine v9 3 rfl fun⟨⟨f1,p1,f2,q1⟩,hpl⟩ H3 hs3 hT=>?_;have hT:SetV s (.agg #[f1,.pointer p1,f2,.pointer q1]) H3:=hT;by_cases hlt:k<cs.length
    ·obtain⟨c,hc0⟩:=xk hlt;have hc:=El hc0;have hv:=hval c (zpa hc0);have hzt:=zb3 hv;rw[bn hc0,Av] at he;obtain⟨x,d⟩:=c;dsimp only at hc hv hzt he;rcases hw:wo s x d with ⟨s',e'⟩
     rw[hw] at he;dsimp only at he;have hsl':=B7 hsl x d;rw[hw] at hsl';obtain⟨i,hin⟩:∃ i,decide (x∈s)=i:=⟨_,rfl⟩
     rw[hin] at he;by_cases h0:e'=0
     ·rw[na h0] at he;subst h0;cases i<;>cases d
      ·rw[na rfl] at he;refine(Ze∘ZY∘Z6∘Zaa∘Zau∘Zdy∘Zah) ?_;refine lh 14 rfl fun b14 hb14=>?_;refine(Zef∘Zcu∘ZbY∘ZeF) ?_;refine z81 L rfl (fun u H hH hle=>jf hin hH (hT.le hle)) ?_;refine(ZbY∘Zei∘Zdj∘Zbo∘Za5∘ZaH∘Zej) ?_;refine z7 (xg (φ:=WithP s' 0) L rfl rfl (zm rfl) rfl rfl rfl WithP.mono (fun u H hH hle _=>Ax hw hsl hzt hH (hT.le hle))) rfl (vk 56 rfl ?_);rintro _ H19 hs19 ⟨tv,rfl,hT19⟩;obtain⟨g1,r1,g2,r2,rfl,hpl2⟩:=hT19.shape;refine(ZB∘ZZ∘Zby∘Zj∘Zao∘Za∘Zb8∘Zbv∘ZaH∘Zby∘Zi∘ZaV∘Za∘Zw∘Zcz) ?_;refine qe (yr (.inl rfl) rfl) ((Zej∘ZV∘Zdi) ?_);refine qe (yr (.inr rfl) rfl) (Zax (h:=?_));refine vp (O':=[]) (zpe _) ?_;refine(Zbe∘ZX) ?_;exact ot (X:=SXp) 3 (r:=fun x=>Cell (scs x.1) ou) (φ:=Eh s') (jb _) ⟨(g1,r1,g2,r2),hpl2⟩ hT19 Z (jk (x:=(k,s,md)) (k+1,s',md++[(x,false)]) (hs3.trans hs19) ⟨hlt,he,hsl',by dsimp only;rw[List.length_append];show md.length+1<=k+1;omega⟩ G ⟨Z,Z,ft Z,Z,Z,Z,trivial⟩)
      ·rw[nc E] at he;refine(Ze∘ZY∘Z6∘Zaa∘Zau∘Zdy∘Zah) ?_;refine lh 14 rfl fun b14 hb14=>?_;refine(Zef∘Zcu∘ZbY∘ZeF) ?_;refine z81 L rfl (fun u H hH hle=>jf hin hH (hT.le hle)) ?_;refine(ZbY∘Zei∘Zdj∘Zbo∘Za5∘ZaH∘Zej) ?_;refine z7 (xg (φ:=WithP s' 0) L rfl rfl (zm rfl) rfl rfl rfl WithP.mono (fun u H hH hle _=>Ax hw hsl hzt hH (hT.le hle))) rfl (vk 56 rfl ?_);rintro _ H19 hs19 ⟨tv,rfl,hT19⟩;obtain⟨g1,r1,g2,r2,rfl,hpl2⟩:=hT19.shape;refine(ZB∘ZZ∘Zby∘Zj∘Zao∘Za∘Zb8∘Zbv∘ZaH∘Zby∘Zi∘ZaV∘Za∘Zch) ?_;refine vp (O':=[]) (zpe _) ?_;refine(Zbe∘ZX) ?_;exact ot (X:=SXp) 3 (r:=fun x=>Cell (scs x.1) ou) (φ:=Eh s') (jb _) ⟨(g1,r1,g2,r2),hpl2⟩ hT19 Z (jk (x:=(k,s,md)) (k+1,s',md) (hs3.trans hs19) ⟨hlt,he,hsl',by dsimp only;omega⟩ G ⟨Z,Z,Z,Z,Z,Z,trivial⟩)
      ·rw[nc E] at he;refine(Ze∘ZY∘Z6∘Zaa∘Zau∘Zdy∘Zah) ?_;refine lh 14 rfl fun b14 hb14=>?_;refine(Zef∘Zcu∘ZbY∘ZeF) ?_;refine z81 L rfl (fun u H hH hle=>jf hin hH (hT.le hle)) ?_;refine(ZbY∘Zei∘Zdj∘Zbo∘Za5∘ZaH∘Zej) ?_;refine z7 (xg (φ:=WithP s' 0) L rfl rfl (zm rfl) rfl rfl rfl WithP.mono (fun u H hH hle _=>Ax hw hsl hzt hH (hT.le hle))) rfl (vk 56 rfl ?_);rintro _ H19 hs19 ⟨tv,rfl,hT19⟩;obtain⟨g1,r1,g2,r2,rfl,hpl2⟩:=hT19.shape;refine(ZB∘ZZ∘Zby∘Zj∘Zao∘Za∘Zb8∘Zbv∘ZaH∘Zby∘Zi∘ZaV∘Za∘Zch) ?_;refine vp (O':=[]) (zpe _) ?_;refine(Zbe∘ZX) ?_;exact ot (X:=SXp) 3 (r:=fun x=>Cell (scs x.1) ou) (φ:=Eh s') (jb _) ⟨(g1,r1,g2,r2),hpl2⟩ hT19 Z (jk (x:=(k,s,md)) (k+1,s',md) (hs3.trans hs19) ⟨hlt,he,hsl',by dsimp only;omega⟩ G ⟨Z,Z,Z,Z,Z,Z,trivial⟩)
      ·rw[na rfl] at he;refine(Ze∘ZY∘Z6∘Zaa∘Zau∘Zdy∘Zah) ?_;refine lh 14 rfl fun b14 hb14=>?_;refine(Zef∘Zcu∘ZbY∘ZeF) ?_;refine z81 L rfl (fun u H hH hle=>jf hin hH (hT.le hle)) ?_;refine(ZbY∘Zei∘Zdj∘Zbo∘Za5∘ZaH∘Zej) ?_;refine z7 (xg (φ:=WithP s' 0) L rfl rfl (zm rfl) rfl rfl rfl WithP.mono (fun u H hH hle _=>Ax hw hsl hzt hH (hT.le hle))) rfl (vk 56 rfl ?_);rintro _ H19 hs19 ⟨tv,rfl,hT19⟩;obtain⟨g1,r1,g2,r2,rfl,hpl2⟩:=hT19.shape;refine(ZB∘ZZ∘Zby∘Zj∘Zao∘Za∘Zb8∘Zbv∘ZaH∘Zby∘Zi∘ZaV∘Za∘Zw∘Zcz) ?_;refine qe (yr (.inl rfl) rfl) ((Zej∘ZV∘Zdi) ?_);refine qe (yr (.inr rfl) rfl) (Zax (h:=?_));refine vp (O':=[]) (zpe _) ?_;refine(Zbe∘ZX) ?_;exact ot (X:=SXp) 3 (r:=fun x=>Cell (scs x.1) ou) (φ:=Eh s') (jb _) ⟨(g1,r1,g2,r2),hpl2⟩ hT19 Z (jk (x:=(k,s,md)) (k+1,s',md++[(x,true)]) (hs3.trans hs19) ⟨hlt,he,hsl',by dsimp only;rw[List.length_append];show md.length+1<=k+1;omega⟩ G ⟨Z,Z,ft Z,Z,Z,Z,trivial⟩)
     ·rw[nc h0] at he;cases he;refine(Ze∘ZY∘Z6∘Zaa∘Zau∘Zdy∘Zah) ?_;refine lh 14 rfl fun b14 hb14=>?_;refine(Zef∘Zcu∘ZbY∘ZeF) ?_;refine z81 L rfl (fun u H hH hle=>jf hin hH (hT.le hle)) ?_;refine(ZbY∘Zei∘Zdj∘Zbo∘Za5∘ZaH∘Zej) ?_;refine z7 (xg (φ:=WithP s' e) L rfl rfl (zm rfl) rfl rfl rfl WithP.mono (fun u H hH hle _=>Ax hw hsl hzt hH (hT.le hle))) rfl (vk 56 rfl ?_);rintro _ H19 hs19 ⟨tv,rfl,hT19⟩;obtain⟨g1,r1,g2,r2,rfl,hpl2⟩:=hT19.shape;refine(ZB∘ZZ∘Zby∘Zj∘Zao∘Za∘ZaO∘Zar∘Zdt∘Za∘Zbd∘ZR) ?_;refine yj L (rs:=[.cell 6 37,.tmp 7,.tmp 8]) Z (fun _ _ h=>h) (hs3.trans hs19) fun u H hH hle=>?_;exact⟨_,y9 Z,rfl,_,_,rfl,SetV.nil,SlV.nil⟩
    ·obtain rfl:k=cs.length:=by omega
     rw[zq9,Av] at he;cases he;refine(Ze∘ZY∘Zav) ?_;refine uq 7 rfl (qo (id:=21) [] ki J ((Zcu∘Zab) ?_));refine z8 (xg (φ:=KS tyC made true) L Z Z (zm Z) Z Z Z ns (fun u H hH _ _ v1 g1=>zay hH g1)) Z (z8 (qt L Z Z M Z) Z ((Zc4∘ZaB) ?_));refine yj L (rs:=[.cell 6 37,.tmp 7,.tmp 8]) Z (fun _ _ h=>h) hs3 fun u H hH hle=>?_;exact⟨_,y9 Z,rfl,fun mv hmv=>⟨_,mv,rfl,hT.le hle,hmv⟩⟩
   ·rw[nc h3] at hr;cases hr;refine(Zbu∘ZZ∘Zo∘ZG∘Zk) ?_;refine z7 (q0 L Z Z (zm Z) Z Z Z (fun u H hH _ _ v1 g1=>i7 zl ll h1 hH g1)) Z ((Zbx∘Zaq∘Z1∘Z2∘Zk) ?_);refine z7 (q0 L Z Z (zm Z) Z Z Z (fun u H hH _ _ v1 g1=>H6 zc lc h2 hH g1)) Z ((Zb6∘Zaq∘Z1∘ZC∘ZaH∘Zk) ?_);refine z7 (q0 L Z Z (zm Z) Z Z Z (fun u H hH hle _ v1 g1=>first_ret zl ll hf hH (hs.le hle) g1)) Z ((ZbB∘ZaQ∘ZaO∘ZM∘Zdt∘Za∘Zbd∘ZR) ?_);refine yj1 L [.cell 6 37,.tmp 7,.tmp 8] fun u H hH hle=>?_;exact⟨_,y9 Z,rfl,_,_,rfl,SetV.nil,SlV.nil⟩
  ·rw[nc h2] at hr;cases hr;refine(Zbu∘ZZ∘Zo∘ZG∘Zk) ?_;refine z7 (q0 L Z Z (zm Z) Z Z Z (fun u H hH _ _ v1 g1=>i7 zl ll h1 hH g1)) Z ((Zbx∘Zaq∘Z1∘Z2∘Zk) ?_);refine z7 (q0 L Z Z (zm Z) Z Z Z (fun u H hH _ _ v1 g1=>H6 zc lc Z hH g1)) Z ((Zb6∘ZaO∘Zs∘Zdt∘Za∘Zbd∘ZR) ?_);refine yj1 L [.cell 6 37,.tmp 7,.tmp 8] fun u H hH hle=>?_;exact⟨_,y9 Z,rfl,_,_,rfl,SetV.nil,SlV.nil⟩
 ·rw[nc h1] at hr;cases hr;refine(Zbu∘ZZ∘Zo∘ZG∘Zk) ?_;refine z7 (q0 L Z Z (zm Z) Z Z Z (fun u H hH _ _ v1 g1=>i7 zl ll Z hH g1)) Z ((Zbx∘ZaO∘ZK∘Zdt∘Za∘Zbd∘ZR) ?_);refine yj1 L [.cell 6 37,.tmp 7,.tmp 8] fun u H hH hle=>?_;exact⟨_,y9 Z,rfl,_,_,rfl,SetV.nil,SlV.nil⟩
def fC(c:C3):CH:=(L5 c.1 c.2.1,drB c.2.2)
def dOf(cs:List C3):List CH:=(cs.take 30).map fC
def zin(cs:List C3):(dOf cs).length<=30:=by unfold dOf;rw[List.length_map,List.length_take];omega
def zil{cs:List C3}{zte:List CH}(hM:dOf cs=zte)(hcs:∀ c∈cs,c.1<=255/\c.2.1<=255/\c.2.2<=255)(lcs:cs.length<=9223372036854775807)
  {cx:Value}   (hB:zth B w) (hc:PS3 cs fc cx B):Ret zti 24 [.agg #[cx]] w B (KS tyC zte false):=by
 refine yn Tryz.func24 Z Tryz.ntmps24 (np Z) hB ((Zu∘Zag∘Zj∘Z9∘ZaJ) ?_);refine ui 3 tyC 7 rfl ?_
 refine xm (fun y:Nat×List CH=>[(1,.sat (At [cx] 29 0)),(3,.own (SlR tyC 7 y.2.length (y.2.flatMap ccs))),(4,.is (.int .i64 y.1))])
  (fun y=>y.1<=(cs.take 30).length/\y.2=(cs.take y.1).map fC) (fun y=>(cs.take 30).length-y.1) (0,[]) ⟨mc _,rfl⟩ ⟨rfl,rfl,rfl,nm⟩ ?_
 rintro⟨i,out⟩ ⟨hi,ho⟩;dsimp only at hi ho |-;have h30:(cs.take 30).length=min 30 cs.length:=mg;have hol:out.length=i:=by rw[ho,my,mg];omega
 have hfin:i=(cs.take 30).length->out=zte:=fun e=>by
  rw[<-hM,ho,e,h30];unfold dOf;congr 1;exact(List.take_eq_take_min (l:=cs) (i:=30)).symm
 by_cases h1:i<cs.length
 ·by_cases h2:i<30
  ·obtain⟨⟨a,b,c⟩,hn⟩:=xk h1;have hcc:=zfl hn;obtain⟨ka,kb,kc⟩:=hcs _ (zpa hn);dsimp only at ka kb kc;have hnx:out++[(L5 a b,drB c)]=(cs.take (i+1)).map fC:=by rw[zpj,hn,zpo,ho];rfl
   generalize hxx:L5 a b=x at hnx;generalize hdd:drB c=d at hnx;refine(Zcr∘Zq) ?_;refine uj 7 (PS3 cs fc) Z ns hc ((Zcv∘ZN∘Zb∘ZN∘Zh∘Zw∘Zaf∘Zam∘Zt) ?_);refine qe (yr (.inl Z) Z) (Zq (h:=?_));refine uj 18 (PS3 cs fc) Z ns hc (Zee (h:=?_));refine z7 (yi L (vs:=[_,_,_]) Z Z Z Z Z ⟨_,rfl⟩) Z (z71 L Z (fun u H hH _=>R8 hxx hdd ka kb kc hH) ?_);refine(ZV∘Zdi) ?_;refine qe (yr (.inr Z) Z) ((Zax∘Z0∘ZaC) ?_);exact ym (x:=(i,out)) (i+1,out++[(x,d)]) ⟨by dsimp only;omega,hnx⟩ G ⟨Z,ft Z,Z,trivial⟩
  ·obtain he:=hfin T;subst he;refine(Zcr∘Zq) ?_;refine uj 7 (PS3 cs fc) Z ns hc ((Zcv∘ZN∘ZbA∘Zh∘Zas) ?_);refine uq 3 rfl ((Zs∘Zk∘Zcp) ?_);refine yj1 L [.tmp 2] fun u H hH hle=>?_;exact fun v hv=>hv
 ·obtain he:=hfin T;subst he;refine(Zcr∘Zq) ?_;refine uj 7 (PS3 cs fc) Z ns hc ((Zcv∘ZJ∘ZcE∘Zh∘Zas) ?_);refine uq 3 rfl ((Zs∘Zk∘Zcp) ?_);refine yj1 L [.tmp 2] fun u H hH hle=>?_;exact fun v hv=>hv
def Kl:∀ {cs:List CH} {s:List U} {md:List CH},SOK s->(∀ c∈cs,TZ c.1/\tE c.1=0)->s.length+cs.length<4096->∃ t made,Av s md cs=(t,made,0)/\SOK t/\t.length<=s.length+cs.length
 | [],s,md,h,_,_=>⟨s,md,rfl,h,nu _⟩
 | c::r,s,md,h,hc,hl=>by
  simp only[nz] at hl;obtain⟨hz,h0⟩:=hc c (mb ..);obtain⟨h1,h2,h3⟩:=P4 h hz h0 c.2 T;obtain⟨t,made,e,ht,hlt⟩:=Kl (cs:=r) (s:=(wo s c.1 c.2).1) (md:=if decide (c.1∈s)=c.2 then md++[c] else md) h1 (fun x hx=>hc x (me _ hx)) T;refine⟨t,made,by rw[Av,na h2,e],ht,?_⟩;simp only[nz];omega
def writeR_ok{s:List U}(h1:cE 32 l=0)(h2:cE 32 cs=0)(h3:(oo s l).2=0):ef s l cs=Av s [] cs:=by
 unfold ef;rw[if_pos h1,if_pos h2,if_pos h3]
end Go.V.L8
namespace Go.V.L10
open Go.V.L2 Go.V.L8 Go.V.L6
structure JJ(n:Nat)(S:Sto):Prop where
 last:(kpt S.R S.R.length).isSome=true
 pin:∀ r∈S.P,(kpt S.R r).isSome=true
 so:∀ r t,kpt S.R r=some t->SOK t/\t.length<=30*S.R.length
 hR:S.R.length<=n+1
 hP:S.P.length<=n
def JJ.ne(h:JJ n S):S.R.length≠0:=by have:=bj h.last;omega
def JJ.I(h:JJ n S)(hn:n<=100):zoc S:=⟨h.last,mp (A6 _) (by have:=h.hR;omega),h.pin,fun r t ht=>by have:=(h.so r t ht).2;have:=h.hR;omega⟩
def JJ.mono(h:JJ n S)(hm:n<=m):JJ m S:=⟨h.last,h.pin,h.so,mp h.hR T,mp h.hP hm⟩
def zfz:JJ 0 newS:=⟨rfl,fun _ h=>(by cases h),fun r t h=>by
 have hr:=bj (R:=newS.R) (r:=r) (by rw[h];rfl);have h1:newS.R.length=1:=rfl;have:r=((0+1:Nat):Int):=T;subst this;have h2:kpt newS.R ((0+1:Nat):Int)=some []:=by rw[ra];rfl
 rw[h2] at h;cases h;exact⟨⟨Sst.nil,fun _ h=>(by cases h),fun _ h=>(by cases h)⟩,mc _⟩,nu _,nu _⟩
def zjw{t:U}(h:TZ t):TM t:=by
 unfold TZ at h;unfold TM;omega
def writeR_ok{s:List U}{l cs:List CH}{t:List U}{made:List CH}(h:ef s l cs=(t,made,0))(hs:SOK s)(hc:∀ c∈cs,TZ c.1/\tE c.1=0)(hl:s.length+cs.length<4096):SOK t/\t.length<=s.length+cs.length:=by
 obtain⟨t2,m2,h2,h3,h4⟩:=Kl (md:=[]) hs hc hl;unfold ef at h;split at h
 ·split at h
  ·split at h
   ·rw[h2] at h;cases h;exact⟨h3,h4⟩
   ·rename_i h1;exact ni (nh (·.2.2) h) h1
  ·rename_i h1;exact ni (nh (·.2.2) h) h1
 ·rename_i h1;exact ni (nh (·.2.2) h) h1
def zeu{t:List U}(h:kpt S.R S.R.length=some t):atS S 0=(t,0):=by unfold atS;rw[if_pos rfl,h]
def zdw(h:JJ n S)(hn:n<=100){l cs:List CH}(hc:∀ c∈cs,TZ c.1/\tE c.1=0)(hcl:cs.length<=30):JJ (n+1) (B5 S l cs).1:=by
 obtain⟨t0,ht0⟩:∃ t0,kpt S.R S.R.length=some t0:=zqd.1 h.last;obtain⟨⟨t1,made,e1⟩,hwr⟩:∃ x,ef t0 l cs=x:=⟨_,rfl⟩
 unfold B5;rw[zeu ht0,hwr];dsimp only;by_cases he:e1=0
 ·subst he;rw[na rfl];split
  ·exact h.mono (zp5 _)
  ·have h0:=h.so _ _ ht0;have hR:=h.hR;have h1:=writeR_ok hwr h0.1 hc T;have hln:(S.R++[some t1]).length=S.R.length+1:=by rw[nr];rfl
   refine⟨?_,fun r hr=>?_,fun r t ht=>?_,?_,zrf h.hP⟩
   ·dsimp only;rw[hln,Bp,if_pos rfl];rfl
   ·dsimp only;rw[Bp];split
    ·rfl
    ·exact h.pin r hr
   ·dsimp only at ht |-;rw[Bp] at ht;rw[hln];split at ht
    ·cases ht;exact⟨h1.1,by omega⟩
    ·have h2:=h.so r t ht;exact⟨h2.1,by omega⟩
   ·dsimp only;omega
 ·rw[nc he];exact h.mono (zp5 _)
def zlj(h:JJ n S)(r:Int)(un:Bool):JJ (n+1) (zhh S r un).1:=by
 unfold zhh;by_cases hk:(kpt S.R r).isSome=true
 ·rw[na hk]
  cases un with
  | true=>
   rw[na rfl];split
   ·refine⟨h.last,fun x hx=>h.pin x ?_,h.so,zrf h.hR,?_⟩
    ·dsimp only at hx;unfold Ks at hx;split at hx
     ·cases hx
     ·exact List.mem_of_mem_erase hx
    ·dsimp only;unfold Ks;split
     ·exact mc _
     ·exact mp (List.length_erase_le ..) (zrf h.hP)
   ·exact h.mono (zp5 _)
  | false=>
   rw[nc E];refine⟨h.last,fun x hx=>?_,h.so,zrf h.hR,?_⟩
   ·rcases mh.1 hx with hx | hx
    ·exact h.pin x hx
    ·rw[m4.1 hx];exact hk
   ·have:=h.hP;dsimp only;rw[List.length_append,List.length_singleton];omega
 ·rw[nc hk];exact h.mono (zp5 _)
def Uc(hk:1<=k):((S.R.length:Nat):Int)∉a9 S.P (k7 S.R) k:=fun hm=>by
 unfold a9 at hm;have h1:=(zpg.1 hm).1;obtain⟨i,hi⟩:=zp1 h1;have hil:i<(k7 S.R).length-k:=by have:=get_lt hi;rw[mg] at this;omega
 rw[zqw hil] at hi;obtain⟨y,hy⟩:=xk (show i+1<(k7 S.R).length by omega);have h3:=zqz.1 (ek S.R) i (i+1) (get_lt hi) (get_lt hy) (zr7 i);rw[ln hi,ln hy,za7] at h3;have:=bj (vo.1 (zpa hy));omega
def Mw{P0:List Int}{g:Int}(hg:g∈a9 P0 (k7 R) k):(kpt R g).isSome=true/\g∉P0:=by
 unfold a9 at hg;have h1:=zpg.1 hg;exact⟨vo.1 (zr6 h1.1),fun hm=>by have:=List.count_pos_iff.2 hm;have h2:=h1.2;simp at h2;omega⟩
def zh9(h:JJ n S)(keep:Int):JJ (n+1) (Am S keep).1:=by
 unfold Am;split
 ·rename_i hk;have hp:∀ g∈a9 S.P (k7 S.R) keep.toNat,0<g:=fun g hg=>(bj (Mw hg).1).1;refine⟨?_,fun r hr=>?_,fun r t ht=>?_,?_,zrf h.hP⟩
  ·dsimp only;rw[au,Br hp,if_neg (Uc T)];exact h.last
  ·dsimp only;rw[Br hp,if_neg (fun hm=>(Mw hm).2 hr)];exact h.pin r hr
  ·dsimp only at ht |-;rw[Br hp] at ht;rw[au];split at ht
   ·cases ht
   ·exact h.so r t ht
  ·dsimp only;rw[au];exact Nat.le_succ_of_le h.hR
 ·exact h.mono (zp5 _)
def zcp{es:Ent}(hm:MapOK es R){out:List Int}(hp:out.Perm (es.map Prod.fst)):(Go.Sort.sort So.lt out.toArray).toList=k7 R:=by
 have h1:(Go.Sort.sort So.lt out.toArray).toList=out.mergeSort (fun x y=>decide (x<=y)):=Go.Sort.sortInt out;rw[h1];have hperm:=List.mergeSort_perm out (fun x y=>decide (x<=y));have hnd:(out.mergeSort (fun x y=>decide (x<=y))).Nodup:=(hperm.trans hp).nodup_iff.2 hm.nd;have hs:(out.mergeSort (fun x y=>decide (x<=y))).Pairwise fun a b=>decide (a<=b)=true:=List.pairwise_mergeSort (le:=fun x y:Int=>decide (x<=y)) (fun a b c h1 h2=>by simp at h1 h2 |-;omega) (fun a b=>by simp;omega) out;refine lf lm ?_ (ek R) fun z=>?_
 ·refine(List.Pairwise.and hs hnd).imp ?_;rintro a b ⟨h2,h3⟩;have h4:a<=b:=by simpa using h2
  have h5:a≠b:=h3;exact za7.2 T
 ·rw[(hperm.trans hp).mem_iff,hm.mem]
def Fu{α:Type}:∀ {l:List α} {j:Nat} {x:α},l[j]?=some x->(x::l.eraseIdx j).Perm l
 | [],_,_,h=>by cases h
 | y::l,0,x,h=>by cases h;exact List.Perm.refl _
 | y::l,j+1,x,h=>by
  have:=Fu (l:=l) (j:=j) (x:=x) (by simpa using h);exact(List.Perm.swap y x _).trans (this.cons y)
def Yz{left:Ent}{p:Int×(List U×Value)}(h:left[j]?=some p)(out:List Int):(out++[p.1]++(left.eraseIdx j).map Prod.fst).Perm (out++left.map Prod.fst):=by
 have h1:(p::left.eraseIdx j).Perm left:=Fu h;rw[mn];refine List.Perm.append_left out ?_;simpa using h1.map Prod.fst
attribute [local irreducible] V N X VO Par StepOK Has Ret RetL RetO RetT kx RetX RetY Src
abbrev zme(R:List (Option (List U))):Res:=SlE Gf 1 (k7 R).length ((k7 R).map (Value.int .u64))
set_option maxRecDepth 10000 in
def oa{es:Ent}(hm:MapOK es R)(hn:R.length≠0)(hz:es.length<=100000)(hB:zth B w)(hr:(StO b R.length m s t es).P B w C)(hC:ZCB C w B):
  RetT zti 141 [.pointer (some ⟨b,0,none⟩)] w B C (iq (zme R) (StO b R.length m s t es).res):=by
 have hlen:=hm.len;rw[show zme R=SlE Gf 1 es.length ((k7 R).map (Value.int .u64)) by rw[hlen]];unfold RetT;refine xa 900 (StO b R.length m s t es) Tryz.func141 Z Tryz.ntmps141 (np Z) hB hr hC ?_;rw[cm];refine ZdV (h:=?_);refine ZbT (h:=?_);refine yd (xx L 900 (Φ:=fun H=>H b=some (.cells (stc R.length m s t).toArray tyS)) (c:=.bool false) Z Z (zm Z) Z Z Z Z Z A5 (fun u H hH hle hb=>none_ret hn hb hH)) ((Zm∘ZA∘ZS) ?_);refine yd (O3 (q:=901) (vc:=vcE) mpS Z Z Z Z Z) (z7 (Xx L es.length Z Z Z zjm Z Z Z T (by unfold maxLen;omega)) Z ?_);refine qe (yr (.inr Z) Z) (Zan (h:=?_));refine ze7 3 902 rfl fun b3 rest0 _ _ hcm hcl0=>?_;refine Zcn (h:=?_);refine qe (Xt (q:=901) (vc:=vcE) mpS Z Z Z Z) (Zdl (h:=?_))
 refine xm (fun ztb:(List Int×List Value)×Ent=>[(3,.is (.slice (some ⟨b3,0,none⟩) ztb.1.1.length es.length)),(17,.own (ze9 m .u64 vcE es ztb.2)),(900,.own (xp b (stc R.length m s t) tyS)),(902,.own (xp b3 (ztb.1.1.map (Value.int .u64)++ztb.1.2) Gf))])
  (fun ztb=>(ztb.1.1++ztb.2.map Prod.fst).Perm (es.map Prod.fst)/\(ztb.1.1.map (Value.int .u64)++ztb.1.2).length=es.length*1) (fun ztb=>ztb.2.length) (([],rest0),es) ⟨List.Perm.refl _,hcl0⟩ ⟨rfl,rfl,rfl,rfl,nm⟩ ?_
 rintro⟨⟨out,rest⟩,left⟩ ⟨hp,hcl⟩;dsimp only at hp hcl |-;have hpl:=hp.length_eq;rw[nr,my,my] at hpl;by_cases hl:left=[]
 ·subst hl;rw[zpk,mo] at hp;have hol:out.length=es.length:=by simpa using hpl
  have hr0:rest=[]:=m7 (by rw[nr,my] at hcl;omega);subst hr0;rw[hol];have hsk:=zcp hm hp;refine(Ze∘Zt) ?_;refine z7 (Xu Z Z Z Z Z) Z ((Zcx∘Zf5∘Zfm) ?_);refine zl8 17 901 rfl ?_;refine ZaQ (h:=?_);refine qe (yx L 902 (xc b3 ((k7 R).map (Value.int .u64)++[]) So.tyU) (r:=xc b3 (out.map (Value.int .u64)++[]) So.tyU) Z Z Z Z Z (fun u H C hH _ hr hC=>by have h:=So.sortU_ret (d:=out.toArray) (rest:=[]) (b:=b3) (m:=es.length) (cap:=es.length) (by simpa using hol) hz hH hr hC;unfold uC at h;rw[hsk] at h;exact h)) ?_;refine Zi (h:=?_);rw[xd,show(k7 R).map (Value.int .u64)++[]=(k7 R).map (Value.int .u64) from mo _];refine zf8 (s:=1) 3 902 rfl Z (by rw[List.length_map,hlen,Nat.mul_one]) (by unfold maxLen;omega) ?_;refine ZM (h:=?_);refine qe (yr (.inl Z) Z) (qe (yr (.inr Z) Z) (ZF (h:=?_)));refine Zdw (h:=?_);refine wa 2 900 rfl Z (xf (StO b R.length m s t es)) ?_;exact F4 Z (fun _ _ h=>h) nq Z
 ·have hll:0<left.length:=zr9.2 hl;have hroom:out.length+1<=es.length:=T;have hrl:0<rest.length:=by rw[nr,my] at hcl;omega
  have hcl2:out.length*1+1*1<=(out.map (Value.int .u64)++rest).length:=by rw[hcl];omega
  have hrr:∀ k:Int,(out.map (Value.int .u64)++rest).take (out.length*1)++([Value.int .u64 k]++(out.map (Value.int .u64)++rest).drop (out.length*1+1*1))=(out++[k]).map (Value.int .u64)++rest.drop 1:=fun k=>by
   have e1:(out.map (Value.int .u64)).length=out.length*1:=by simp
   rw[<-e1,zrj,zpf (nu _),zql,zpv,mo,zqh,zpi T,mi,show(out.map (Value.int .u64)).length+1*1-(out.map (Value.int .u64)).length=1 by omega];simp
  refine(Ze∘Zt) ?_;refine zb0 Z Z hl Z Z Z (fun j p hjp=>?_);refine(Zcx∘Zf4∘ZcL∘Zs) ?_;refine z7 (X4 Z Z Z) Z ((Zcx∘Zc∘Zco∘ZV) ?_);refine qe (O6 L (q:=902) Z Z Z Z (rf Z) Z zjm T Z hroom hcl2 Z (hrr _)) (Zai (h:=?_));refine zjf 17 (ze9 m .u64 vcE es (left.eraseIdx j)) Z zki ?_
  exact ym (x:=((out,rest),left)) ((out++[p.1],rest.drop 1),left.eraseIdx j) ⟨(Yz hjp out).trans hp,by
   dsimp only;rw[nr,my,nr,m6];rw[nr,my] at hcl;simp only[nz,mz];omega⟩ (by dsimp only;rw[List.length_eraseIdx_of_lt (get_lt hjp)];omega) ⟨by rw[List.length_append];rfl,rfl,rfl,rfl,trivial⟩
end Go.V.L10
namespace Go.V
section
variable {β:Type} [DecidableEq α] [DecidableEq β] {k:α->β} {c:β->β->Int}
theorem Ql(ho:Ord3 c):∀ {S S':List α},Srt k c S->Srt k c S'->Eqv k S S'->S'=S
 | [],S',_,_,h=>m7 (by rw[h.length];rfl)
 | x::r,[],_,_,h=>by have:=h.length;simp at this
 | x::r,y::r',h1,h2,h=>by
  have hxy:k x=k y:=by
   have hx:x∈y::r':=h.mem.2 (mb ..);have hy:y∈x::r:=h.mem.1 (mb ..)
   have e1:¬ c (k x) (k y)<0:=by
    rcases ma.1 hx with e | hx
    ·rw[e];exact ho.irr _
    ·exact(mj.1 h2).1 x hx
   have e2:¬ c (k y) (k x)<0:=by
    rcases ma.1 hy with e | hy
    ·rw[e];exact ho.irr _
    ·exact(mj.1 h1).1 y hy
   have:=ho.anti (k x) (k y);exact ho.eq _ _ T
  have hf:=h (k x);rw[zq1 (by simp [hxy]),zq1 (by simp)] at hf;have hxe:y=x:=(List.cons.inj hf).1;subst hxe
  have ht:Eqv k r r':=fun t=>by
   have:=h t;by_cases e:k y=t
   ·rw[zq1 (by simpa using e),zq1 (by simpa using e)] at this;exact(List.cons.inj this).2
   ·rwa [zrs (by simpa using e),zrs (by simpa using e)] at this
  rw[Ql ho (mj.1 h1).2 (mj.1 h2).2 ht]
omit [DecidableEq α] in
theorem Eqv.symm{A B:List α}(h:Eqv k A B):Eqv k B A:=fun t=>(h t).symm
theorem zci(ho:Ord3 c){l S S':List α}(h:Stb k c l S)(h':Stb k c l S'):S'=S:=Ql ho h.1 h'.1 (h.2.symm.trans h'.2)
def zic(k:α->β)(c:β->β->Int)(x:α):List α->List α
 | []=>[x]
 | y::l=>if c (k x) (k y)<0 then x::y::l else y::zic k c x l
omit [DecidableEq α] [DecidableEq β] in
theorem Fj(ho:Ord3 c){x:α}:∀ {S:List α},Srt k c S->∃ A B,S=A++B/\zic k c x S=A++x::B/\(∀ a∈A,¬ c (k x) (k a)<0)/\∀ b∈B,c (k x) (k b)<0
 | [],_=>⟨[],[],rfl,rfl,fun a h=>(by cases h),fun a h=>(by cases h)⟩
 | y::l,h=>by
  obtain⟨h1,h2⟩:=mj.1 h;by_cases hxy:c (k x) (k y)<0
  ·refine⟨[],y::l,rfl,na hxy,fun a h=>(by cases h),fun b hb=>?_⟩;rcases ma.1 hb with rfl | hb
   ·exact hxy
   ·have h3:=h1 b hb;have:=ho.anti (k b) (k y);by_cases h4:c (k y) (k b)<0
    ·exact ho.tr hxy h4
    ·rw[<-ho.eq (k y) (k b) T];exact hxy
  ·obtain⟨A,B,e1,e2,e3,e4⟩:=Fj ho (x:=x) h2;refine⟨y::A,B,by rw[e1];rfl,?_,fun a ha=>?_,e4⟩
   ·rw[zic,nc hxy,e2];rfl
   ·rcases ma.1 ha with rfl | ha
    ·exact hxy
    ·exact e3 a ha
def Ej(k:α->β)(c:β->β->Int)(l:List α):List α:=l.foldl (fun S x=>zic k c x S) []
omit [DecidableEq α] [DecidableEq β] in
theorem zgx:Srt k c []:=List.Pairwise.nil
omit [DecidableEq α] in
theorem zcj(ho:Ord3 c){l S:List α}{x:α}(h:Stb k c l S):Stb k c (l++[x]) (zic k c x S):=by
 obtain⟨A,B,e1,e2,e3,e4⟩:=Fj ho (x:=x) h.1;have h1:=h.1;rw[e1] at h1;have h2:=Nz ho h1 e3 e4;rw[e2];rw[<-e1] at h2;exact⟨h2.1,(h.2.app (Eqv.refl [x])).trans h2.2⟩
omit [DecidableEq α] in
theorem uu(ho:Ord3 c)(l:List α):Stb k c l (Ej k c l):=by
 suffices ∀ (r l S:List α),Stb k c l S->Stb k c (l++r) (r.foldl (fun S x=>zic k c x S) S) by
  have:=this l [] [] ⟨zgx,Eqv.refl _⟩;exact this
 intro r
 induction r with
 | nil=>intro l S h;rw[mo];exact h
 | cons x r ih=>
  intro l S h;have:=ih (l++[x]) (zic k c x S) (zcj ho h);rw[mn] at this;exact this
theorem Ey(ho:Ord3 c){l S:List α}(h:Stb k c l S):S=Ej k c l:=zci ho (uu ho l) h
theorem Qj(ho:Ord3 c)(l:List α):(Ej k c l).length=l.length:=(uu (k:=k) ho l).2.length
omit [DecidableEq α] [DecidableEq β] in
theorem zcm:Ej k c []=[]:=rfl
theorem zcl(ho:Ord3 c){l:List α}(h:Srt k c l):Ej k c l=l:=(Ey ho ⟨h,Eqv.refl l⟩).symm
theorem zcn(ho:Ord3 c)(X Y:List α):Ej k c (Ej k c X++Ej k c Y)=Ej k c (X++Y):=
 Ey ho ⟨(uu ho _).1,(((uu ho X).2.app (uu ho Y).2)).trans (uu ho _).2⟩
theorem zib(ho:Ord3 c){X A B:List α}{x:α}(h:A++B=Ej k c X)(hb:∀ b∈B,c (k x) (k b)<0)(ha:∀ y,A.getLast?=some y->¬ c (k x) (k y)<0):A++x::B=Ej k c (X++[x]):=by
 have hs:=(uu (k:=k) ho X).1;rw[<-h] at hs
 have hA:∀ a∈A,¬ c (k x) (k a)<0:=fun a ham=>by
  rcases zs6 A with e | ⟨A',y,rfl⟩
  ·subst e;cases ham
  ·have h1:=ha y (by simp);simp only[zsr,mh,m4] at ham;rcases ham with ham | rfl
   ·have h2:=(de.1 hs).1;simp only[zsr] at h2;have h3:=(de.1 h2).2.2 a ham y (by simp);have e1:=ho.anti (k y) (k a);intro h4;refine h1 ?_;by_cases h5:c (k a) (k y)<0
    ·exact ho.tr h4 h5
    ·rw[<-ho.eq (k a) (k y) T];exact h4
   ·exact h1
 have h1:=Nz ho hs hA hb;rw[h] at h1;exact Ey ho ⟨h1.1,((uu (k:=k) ho X).2.app (Eqv.refl [x])).trans h1.2⟩
def chS(k:α->β)(c:β->β->Int)(n:Nat):Nat->List α->List α
 | 0,_=>[]
 | f+1,l=>if l=[] then [] else Ej k c (l.take n)++chS k c n f (l.drop n)
omit [DecidableEq α] [DecidableEq β] in
theorem im(n f:Nat):chS k c n f []=[]:=by cases f<;>simp [chS]
omit [DecidableEq α] [DecidableEq β] in
theorem R9{n:Nat}(hn:0<n):∀ {f g:Nat} {l:List α},l.length<=f->l.length<=g->chS k c n f l=chS k c n g l
 | 0,g,l,hf,_=>by obtain rfl:l=[]:=m7 T;rw[im,im]
 | f+1,0,l,_,hg=>by obtain rfl:l=[]:=m7 T;rw[im,im]
 | f+1,g+1,l,hf,hg=>by
  by_cases h:l=[]
  ·subst h;rw[im,im]
  ·rw[chS,chS,nc h,nc h];have:0<l.length:=zr9.2 h;rw[R9 hn (f:=f) (g:=g) (by rw[m6];omega) (by rw[m6];omega)]
def chL(k:α->β)(c:β->β->Int)(n:Nat)(l:List α):List α:=chS k c n l.length l
omit [DecidableEq α] [DecidableEq β] in
theorem Hz(hn:0<n)(l:List α):chL k c n l=Ej k c (l.take n)++chL k c n (l.drop n):=by
 unfold chL;by_cases h:l=[]
 ·subst h;simp [im,zcm]
 ·have:0<l.length:=zr9.2 h;obtain⟨m,hm⟩:∃ m,l.length=m+1:=⟨l.length-1,by omega⟩
  rw[hm,chS,nc h,R9 hn (f:=m) (g:=(l.drop n).length) (by rw[m6];omega) (nu _)]
omit [DecidableEq α] [DecidableEq β] in
theorem Ps(n:Nat):chL k c n []=[]:=im _ _
omit [DecidableEq α] [DecidableEq β] in
theorem ziz(hn:0<n){l:List α}(h:l.length<=n):chL k c n l=Ej k c l:=by
 rw[Hz hn,zpf h,zpi h,Ps,mo]
theorem za3(ho:Ord3 c){n:Nat}(hn:0<n):∀ (m:Nat) {l:List α},l.length<=m->(chL k c n l).length=l.length
 | 0,l,h=>by obtain rfl:l=[]:=m7 T;rw[Ps]
 | m+1,l,h=>by
  by_cases h0:l=[]
  ·subst h0;rw[Ps]
  ·have:0<l.length:=zr9.2 h0;rw[Hz hn,nr,Qj ho,za3 ho hn m (by rw[m6];omega),<-nr,zpb]
end
end Go.V
namespace Go.V.L8
open Go.V Go.V.L2 Go.V.L3 Go.V.L6
def D4(l:List CH):(l.flatMap ccs).length=l.length*7:=re za4 l
def Rx(l:List CH):(l.flatMap ccs).all u7=true:=by
 induction l with
 | nil=>rfl
 | cons x l ih=>rw[zp0,zsi,ih];rfl
abbrev ch7(c:CH):List Value:=[.string c.1.1.1.1,.string c.1.1.1.2,.string c.1.1.2,.string c.1.2.1.1,.string c.1.2.1.2,.string c.1.2.2,.bool c.2]
def wx{t:CH}(h:l[i]?=some t)(off:Nat)(ho:off=i*7):∃ r,(l.flatMap ccs++rest).drop off=ch7 t++r:=by
 subst ho;have h1:((l.flatMap ccs).drop (i*7)).take 7=ch7 t:=El h;have h2:=get_lt h;refine⟨((l.flatMap ccs).drop (i*7)).drop 7++rest,?_⟩;rw[List.drop_append_of_le_length (by rw[D4];exact zq7 _ T),<-mn];congr 1;rw[<-h1,zpb]
def pz{ls:List CH}{z:CH}(h:k<ls.length)(off:Nat)(ho:off=k*7):(ls.flatMap ccs++rest).take off++(ch7 z++(ls.flatMap ccs++rest).drop (off+7))=(ls.set k z).flatMap ccs++rest:=by
 subst ho;have e1:ls=ls.take k++(ls[k]::ls.drop (k+1)):=by rw[List.getElem_cons_drop,zpb]
 have hk:(ls.take k).length=k:=by rw[mg];omega
 have e2:ls.set k z=ls.take k++(z::ls.drop (k+1)):=by
  conv=>lhs;rw[e1]
  rw[List.set_append_right _ _ T,hk,zql];rfl
 rw[e2];generalize ls.take k=A at e1 hk;generalize ls.drop (k+1)=D at e1;generalize ls[k]=y at e1;subst e1;have hA:(A.flatMap ccs).length=k*7:=by rw[D4,hk]
 simp only[zpl,zp0,mn];rw[List.take_left' hA,show k*7+7=(A.flatMap ccs).length+7 by omega,<-zqp,zr1,show(ccs y++(D.flatMap ccs++rest)).drop 7=D.flatMap ccs++rest from List.drop_left' rfl];rfl
def p7{ls:List CH}(h:k<ls.length)(off:Nat)(ho:off=k*7):Nat.ble (off+7) (ls.flatMap ccs++rest).length=true:=zr5 (by rw[nr,D4];omega)
section
variable  {A zte D:List α} {x y:α}
def Bh(h:A.length=i):(A++x::(zte++y::D))[i]?=some x:=by subst h;simp
def Bg(h:A.length+1+zte.length=j):(A++x::(zte++y::D))[j]?=some y:=by
 subst h;have e:A++x::(zte++y::D)=(A++x::zte)++y::D:=by simp
 rw[e,zsa (by simp;omega)];simp;rw[show A.length+1+zte.length-(A.length+(zte.length+1))=0 by omega];rfl
def Nq(hi:A.length=i)(hj:A.length+1+zte.length=j):((A++x::(zte++y::D)).set i y).set j x=A++y::(zte++x::D):=by
 subst hi hj;have e:(A++x::(zte++y::D)).set A.length y=(A++y::zte)++y::D:=by simp
 rw[e,List.set_append_right _ _ (by simp;omega)];simp;rw[show A.length+1+zte.length-(A.length+(zte.length+1))=0 by omega];rfl
def Qg(hi:A.length=i)(hj:A.length+1+zte.length=j):((A++x::(zte++y::D)).set j x).set i y=A++y::(zte++x::D):=by
 rw[List.set_comm _ _ T];exact Nq hi hj
end
attribute [local irreducible] V N X VO Par StepOK Has Ret RetL RetO RetT Src
def Nx{X ztg Y R:List CH}(ha:P.length=a)(he:a+X.length+ztg.length=e)(hx:X.length=n)(hy:Y.length=n)(hm:(P++(X++(ztg++(Y++R)))).length=m)(hm1:m<=100000)(fv:Value)(hB:zth B w)
  (hr:(xc b ((P++(X++(ztg++(Y++R)))).flatMap ccs++rest) tyC).P B w C) (hC:ZCB C w B):
  kx zti 296 [.slice (some ⟨b,0,none⟩) m cap,.int .i64 a,.int .i64 e,.int .i64 n,fv] w B C (xc b ((P++(Y++(ztg++(X++R)))).flatMap ccs++rest) tyC):=by
 unfold kx;refine xa 900 (xc b ((P++(X++(ztg++(Y++R)))).flatMap ccs++rest) tyC) Tryz.func296 Z Tryz.ntmps296 (np Z) hB hr hC ?_;rw[xd];simp only[nr] at hm;refine(ZP∘ZaJ) ?_;refine xm (fun i:Nat=>[(0,.is (.slice (some ⟨b,0,none⟩) m cap)),(1,.is (.int .i64 a)),(2,.is (.int .i64 e)),(3,.is (.int .i64 n)),(10,.is (.int .i64 i)),(900,.own (xp b ((P++(Y.take i++(X.drop i++(ztg++(X.take i++(Y.drop i++R)))))).flatMap ccs++rest) tyC))]) (fun i=>i<=n) (fun i=>n-i) 0 (mc _) ⟨Z,Z,Z,Z,Z,by simp only[zpv,zp7,mi];rfl,nm⟩ ?_;rintro i hi;by_cases hlt:i<n
 ·obtain⟨x,hxi⟩:=xk (l:=X) (show i<X.length by omega);obtain⟨y,hyi⟩:=xk (l:=Y) (show i<Y.length by omega)
  have e0:P++(Y.take i++(X.drop i++(ztg++(X.take i++(Y.drop i++R)))))=(P++Y.take i)++x::((X.drop (i+1)++(ztg++X.take i))++y::(Y.drop (i+1)++R)):=by
   rw[bn hxi,bn hyi];simp
  have e1:P++(Y.take (i+1)++(X.drop (i+1)++(ztg++(X.take (i+1)++(Y.drop (i+1)++R)))))=(P++Y.take i)++y::((X.drop (i+1)++(ztg++X.take i))++x::(Y.drop (i+1)++R)):=by
   rw[zpj,zpj,hxi,hyi];simp
  have l1:(P++Y.take i).length=a+i:=by rw[nr,mg];omega
  have l2:(P++Y.take i).length+1+(X.drop (i+1)++(ztg++X.take i)).length=e+i:=by rw[l1,nr,nr,m6,mg];omega
  have g1:=Bh (x:=x) (y:=y) (zte:=X.drop (i+1)++(ztg++X.take i)) (D:=Y.drop (i+1)++R) l1;have g2:=Bg (x:=x) (y:=y) (D:=Y.drop (i+1)++R) l2;have g3:=Nq (x:=x) (y:=y) (D:=Y.drop (i+1)++R) l1 l2;rw[e0];have hlen:((P++Y.take i)++x::((X.drop (i+1)++(ztg++X.take i))++y::(Y.drop (i+1)++R))).length=m:=by rw[<-e0];simp only[nr,mg,m6];omega
  generalize (P++Y.take i)++x::((X.drop (i+1)++(ztg++X.take i))++y::(Y.drop (i+1)++R))=K at *;have h1:=get_lt g1;have h2:=get_lt g2;have q1:=wx (rest:=rest) g1 (0+(a+i)*7) T;have q2:=wx (rest:=rest) g2 (0+(e+i)*7) T;have s1:=pz (rest:=rest) (z:=y) h1 (0+(a+i)*7) T;have b1:=p7 (rest:=rest) h1 (0+(a+i)*7) T;have h3:e+i<(K.set (a+i) y).length:=by rw[zrc];exact h2
  have s2:=pz (rest:=rest) (z:=x) h3 (0+(e+i)*7) T;have b2:=p7 (rest:=rest) h3 (0+(e+i)*7) T;rw[g3,<-e1] at s2;have a1:IntKind.i64.wrap ((a:Int)+(i:Int))=((a+i:Nat):Int):=xb T T;have a2:IntKind.i64.wrap ((e:Int)+(i:Int))=((e+i:Nat):Int):=xb T T;refine(Zf∘ZE∘Zb∘ZbD∘Zaf∘Zam) ?_;refine qo (id:=3) [(200029,[900]),(200035,[900]),(100036,[900]),(100037,[900])] ki J ((ZcD∘ZcD∘ZbS) ?_);refine qz (kw L (q:=900) (vs:=[_,_,_,_,_,_,_]) Z Z Z Z q2) Z Z (ZbS (h:=?_));refine qz (kw L (q:=900) (vs:=[_,_,_,_,_,_,_]) Z Z Z Z q1) Z Z (Zp (h:=?_));refine xo (yo L (q:=900) Z Z b1 Z s1) Z (Zp (h:=?_));refine xo (yo L (q:=900) Z Z b2 Z s2) Z ((Zck∘ZaE∘Zy∘ZaC) ?_);exact ym (x:=i) (i+1) T T ⟨Z,Z,Z,Z,Z,Z,nm⟩
 ·obtain rfl:i=n:=by omega
  have t1:X.take i=X:=zpf T;have t2:Y.take i=Y:=zpf T;have t3:X.drop i=[]:=zpi T;have t4:Y.drop i=[]:=zpi T;rw[t1,t2,t3,t4];simp only[mi];refine(Zf∘ZE∘ZbA∘ZaL∘ZaD) ?_;exact xu L 900 (r:=xc b _ tyC) Z (fun _ _ h=>h) nq Z Z
end Go.V.L8
namespace Go.V.L8
open Go.V.L2 Go.V.L3 Go.V.L6
def _root_.Zf2(t:Wr Y->A:=by intro h;refine qo (id:=4) [(200026,[900]),(200031,[900])] ki J ?_;exact h.1)(h:Y):A:=t ⟨h⟩
def stC(l:List CH):List CH:=Ej (fun c=>c.1) ku l
def aa(l:List CH):(stC l).length=l.length:=Qj cmpT_ord l
attribute [local irreducible] V N X VO Par StepOK Has Ret RetL RetO RetT kx Src
def zg8{X Y R:List CH}(ha:P.length=a)(hmm:a+X.length=mm)(he:mm+Y.length=e)(hx:0<X.length)(hy:0<Y.length)(hm:(P++(X++(Y++R))).length=m)(hm1:m<=100000)(fv:Value)(hB:zth B w)
  (hr:(xc b ((P++(X++(Y++R))).flatMap ccs++rest) tyC).P B w C) (hC:ZCB C w B):
  kx zti 295 [.slice (some ⟨b,0,none⟩) m cap,.int .i64 a,.int .i64 mm,.int .i64 e,fv] w B C (xc b ((P++(Y++(X++R))).flatMap ccs++rest) tyC):=by
 unfold kx;refine xa 900 (xc b ((P++(X++(Y++R))).flatMap ccs++rest) tyC) Tryz.func295 Z Tryz.ntmps295 (np Z) hB hr hC ?_;rw[xd];simp only[nr] at hm;have s1:IntKind.i64.wrap ((mm:Int)-(a:Int))=(X.length:Int):=xb T T |>.trans T;have s2:IntKind.i64.wrap ((e:Int)-(mm:Int))=(Y.length:Int):=xb T T |>.trans T;refine(ZP∘ZaA∘Zag∘ZaA∘Zd∘Zam) ?_
 refine xm (fun s:(List CH×List CH)×(List CH×List CH)=>[(0,.is (.slice (some ⟨b,0,none⟩) m cap)),(2,.is (.int .i64 mm)),(4,.is fv),(10,.is (.int .i64 s.1.2.length)),(11,.is (.int .i64 s.2.1.length)),(900,.own (xp b ((P++(s.1.1++(s.1.2++(s.2.1++(s.2.2++R))))).flatMap ccs++rest) tyC))])
  (fun s=>a+s.1.1.length+s.1.2.length=mm/\mm+s.2.1.length+s.2.2.length=e/\0<s.1.2.length/\0<s.2.1.length/\s.1.1++(s.2.1++(s.1.2++s.2.2))=Y++X) (fun s=>s.1.2.length+s.2.1.length) (([],X),(Y,[])) ⟨hmm,he,hx,hy,by simp⟩ ⟨rfl,rfl,rfl,rfl,rfl,rfl,nm⟩ ?_
 rintro⟨⟨D1,X1⟩,⟨Y1,D2⟩⟩ ⟨h1,h2,h3,h4,h5⟩;dsimp only at h1 h2 h3 h4 h5 |-;have hs1:IntKind.i64.wrap ((mm:Int)-(X1.length:Int))=((mm-X1.length:Nat):Int):=xb T T |>.trans T;by_cases heq:X1.length=Y1.length
 ·have e0:P++(D1++(X1++(Y1++(D2++R))))=(P++D1)++(X1++([]++(Y1++(D2++R)))):=by simp
  have e1:(P++D1)++(Y1++([]++(X1++(D2++R))))=P++(Y++(X++R)):=by
   have:Y++(X++R)=D1++(Y1++(X1++D2))++R:=by rw[h5];simp
   rw[this];simp
  have hlen:((P++D1)++(X1++([]++(Y1++(D2++R))))).length=m:=by simp only[nr,mz];omega
  rw[e0];refine(Zf∘ZaR∘Zaq∘ZaL∘ZaD∘Zbi∘Zv∘Z3∘Za9∘Z3) ?_;refine qe (yx L 900 (xc b (((P++D1)++(Y1++([]++(X1++(D2++R))))).flatMap ccs++rest) tyC) (r:=xc b (((P++D1)++(X1++([]++(Y1++(D2++R))))).flatMap ccs++rest) tyC) Z Z Z Z Z (fun u H C hH _ hr hC=>(by have h:=Nx (cap:=cap) (a:=mm-X1.length) (e:=mm) (n:=X1.length) (by rw[nr];omega) (by simp only[mz];omega) Z heq.symm hlen hm1 fv hH hr hC;exact h))) ?_;refine Zac (h:=?_);rw[e1];exact xu L 900 (r:=xc b _ tyC) Z (fun _ _ h=>h) nq Z Z
 ·by_cases hgt:Y1.length<X1.length
  ·have hs2:IntKind.i64.wrap ((X1.length:Int)-(Y1.length:Int))=((X1.drop Y1.length).length:Int):=xb T T |>.trans (by rw[m6];omega);have lt:(X1.take Y1.length).length=Y1.length:=by rw[mg];omega
   have e0:P++(D1++(X1++(Y1++(D2++R))))=(P++D1)++(X1.take Y1.length++(X1.drop Y1.length++(Y1++(D2++R)))):=by
    conv=>lhs;rw[<-zpb Y1.length X1]
    simp only[mn]
   have e1:(P++D1)++(Y1++(X1.drop Y1.length++(X1.take Y1.length++(D2++R))))=P++((D1++Y1)++(X1.drop Y1.length++(X1.take Y1.length++(D2++R)))):=by simp
   have hlen:((P++D1)++(X1.take Y1.length++(X1.drop Y1.length++(Y1++(D2++R))))).length=m:=by rw[<-e0];simp only[nr];omega
   have hld:(X1.drop Y1.length).length=X1.length-Y1.length:=m6;rw[e0];refine(Zf∘ZaR∘ZcN∘ZbO∘Zc8∘ZO∘ZD∘Z2∘Z3∘Za9∘Z3) ?_;refine qe (yx L 900 (xc b (((P++D1)++(Y1++(X1.drop Y1.length++(X1.take Y1.length++(D2++R))))).flatMap ccs++rest) tyC) (r:=xc b (((P++D1)++(X1.take Y1.length++(X1.drop Y1.length++(Y1++(D2++R))))).flatMap ccs++rest) tyC) Z Z Z Z Z (fun u H C hH _ hr hC=>(by have h:=Nx (cap:=cap) (a:=mm-X1.length) (e:=mm) (n:=Y1.length) (by rw[nr];omega) T lt Z hlen hm1 fv hH hr hC;exact h))) ?_;refine(ZF∘Zt∘ZaA∘Zai) ?_;rw[e1]
   exact ym (x:=((D1,X1),(Y1,D2))) ((D1++Y1,X1.drop Y1.length),(X1.take Y1.length,D2)) ⟨by dsimp only;rw[List.length_append];omega,by dsimp only;omega,by dsimp only;omega,by dsimp only;omega,by
    dsimp only;rw[<-h5]
    conv=>rhs;rw[<-zpb Y1.length X1]
    simp only[List.append_assoc]⟩ G ⟨rfl,rfl,rfl,rfl,by dsimp only;rw[lt];rfl,rfl,trivial⟩
  ·have hs2:IntKind.i64.wrap ((Y1.length:Int)-(X1.length:Int))=((Y1.take (Y1.length-X1.length)).length:Int):=xb T T |>.trans (by rw[mg];omega);have hs3:IntKind.i64.wrap ((mm:Int)+(Y1.length:Int))=((mm+Y1.length:Nat):Int):=xb T T;have hs4:IntKind.i64.wrap (((mm+Y1.length:Nat):Int)-(X1.length:Int))=((mm+Y1.length-X1.length:Nat):Int):=xb T T |>.trans T;have lt:(Y1.take (Y1.length-X1.length)).length=Y1.length-X1.length:=by rw[mg];omega
   have ld:(Y1.drop (Y1.length-X1.length)).length=X1.length:=by rw[m6];omega
   have e0:P++(D1++(X1++(Y1++(D2++R))))=(P++D1)++(X1++(Y1.take (Y1.length-X1.length)++(Y1.drop (Y1.length-X1.length)++(D2++R)))):=by
    conv=>lhs;rw[<-zpb (Y1.length-X1.length) Y1]
    simp only[mn]
   have e1:(P++D1)++(Y1.drop (Y1.length-X1.length)++(Y1.take (Y1.length-X1.length)++(X1++(D2++R))))=P++(D1++(Y1.drop (Y1.length-X1.length)++(Y1.take (Y1.length-X1.length)++((X1++D2)++R)))):=by simp
   have hlen:((P++D1)++(X1++(Y1.take (Y1.length-X1.length)++(Y1.drop (Y1.length-X1.length)++(D2++R))))).length=m:=by rw[<-e0];simp only[nr];omega
   rw[e0];refine(Zf∘ZaR∘ZcN∘ZbO∘Zc8∘ZL∘ZcV∘Zs∘Z3∘Za9∘Zb∘Z7∘Za∘Za9∘Zb) ?_;refine qe (yx L 900 (xc b (((P++D1)++(Y1.drop (Y1.length-X1.length)++(Y1.take (Y1.length-X1.length)++(X1++(D2++R))))).flatMap ccs++rest) tyC) (r:=xc b (((P++D1)++(X1++(Y1.take (Y1.length-X1.length)++(Y1.drop (Y1.length-X1.length)++(D2++R))))).flatMap ccs++rest) tyC) Z Z Z Z Z (fun u H C hH _ hr hC=>(by have h:=Nx (cap:=cap) (a:=mm-X1.length) (e:=mm+Y1.length-X1.length) (n:=X1.length) (by rw[nr];omega) T Z ld hlen hm1 fv hH hr hC;exact h))) ?_;refine(ZF∘ZC∘ZaA∘Zai) ?_;rw[e1]
   exact ym (x:=((D1,X1),(Y1,D2))) ((D1,Y1.drop (Y1.length-X1.length)),(Y1.take (Y1.length-X1.length),X1++D2)) ⟨by dsimp only;omega,by dsimp only;rw[List.length_append];omega,by dsimp only;omega,by dsimp only;omega,by
    dsimp only;rw[<-h5]
    conv=>rhs;rw[<-zpb (Y1.length-X1.length) Y1]
    simp only[List.append_assoc]⟩ G ⟨rfl,rfl,rfl,by dsimp only;rw[ld];rfl,rfl,rfl,trivial⟩
abbrev ORD:Nat:=253
abbrev C9:Value:=.func (.func ORD) #[] #[]
def f5{x y:CH}(hB:zth B w):Ret zti ORD ([chv x.1 x.2,chv y.1 y.2]++[]) w B (fun r _=>r=.int .i64 (ku x.1 y.1)):=by
 refine yn Tryz.func253 Z Tryz.ntmps253 (np Z) hB ((Zaj∘Zag∘ZbI∘ZbI) ?_);refine z71 L Z (fun u H hH _=>ju (a:=x.1) (b:=y.1) hH) ?_;refine Zc (h:=?_);exact yj2 L [.tmp 4]
def ins_ret{P X R:List CH}{b m cap a e:Nat}(ha:P.length=a)(he:a+X.length=e)(hm:(P++(X++R)).length=m)(hm1:m<=100000)(hB:zth B w)
  (hr:(xc b ((P++(X++R)).flatMap ccs++rest) tyC).P B w C) (hC:ZCB C w B):
  kx zti 291 [.slice (some ⟨b,0,none⟩) m cap,.int .i64 a,.int .i64 e,C9] w B C (xc b ((P++(stC X++R)).flatMap ccs++rest) tyC):=by
 unfold kx;refine xa 900 (xc b ((P++(X++R)).flatMap ccs++rest) tyC) Tryz.func291 Z Tryz.ntmps291 (np Z) hB hr hC ?_;rw[xd];simp only[nr] at hm;have hst1:stC (X.take 1)=X.take 1:=by rcases X with _ | ⟨x,X⟩<;>rfl
 refine(ZP∘Za∘ZaI∘ZaJ) ?_;refine xm (fun s:Nat=>[(0,.is (.slice (some ⟨b,0,none⟩) m cap)),(1,.is (.int .i64 a)),(2,.is (.int .i64 e)),(3,.is C9),(8,.is (.int .i64 (a+s:Nat))),(900,.own (xp b ((P++(stC (X.take s)++(X.drop s++R))).flatMap ccs++rest) tyC))]) (fun s=>1<=s/\s<=max X.length 1) (fun s=>X.length-s) 1 ⟨nu _,by omega⟩ ⟨Z,Z,Z,Z,Z,by rw[hst1,<-mn (X.take 1),zpb];rfl,nm⟩ ?_;rintro s ⟨hs1,hs2⟩;by_cases hlt:s<X.length
 ·obtain⟨x,hx⟩:=xk hlt;have hsl:(stC (X.take s)).length=s:=by rw[aa,mg];omega
  refine(Zf∘ZE∘Zb∘ZbF∘ZA∘ZaJ) ?_
  refine xm (fun t:List CH×List CH=>[(0,.is (.slice (some ⟨b,0,none⟩) m cap)),(1,.is (.int .i64 a)),(2,.is (.int .i64 e)),(3,.is C9),(8,.is (.int .i64 (a+s:Nat))),(9,.is (.int .i64 (a+t.1.length:Nat))),(900,.own (xp b ((P++(t.1++(x::(t.2++(X.drop (s+1)++R))))).flatMap ccs++rest) tyC))])
   (fun t=>t.1++t.2=stC (X.take s)/\∀ z∈t.2,ku x.1 z.1<0) (fun t=>t.1.length) (stC (X.take s),[]) ⟨List.append_nil _,fun z hz=>(by cases hz)⟩ ⟨rfl,rfl,rfl,rfl,rfl,by dsimp only;rw[hsl];rfl,by dsimp only;rw[bn hx];rfl,trivial⟩ ?_
  rintro⟨A,D⟩ ⟨hAD,hD⟩;dsimp only at hAD hD |-;have hAl:A.length+D.length=s:=by rw[<-nr,hAD,hsl]
  have hfin:(∀ y,A.getLast?=some y->¬ ku x.1 y.1<0)->P++(A++(x::(D++(X.drop (s+1)++R))))=P++(stC (X.take (s+1))++(X.drop (s+1)++R)):=fun h=>by
   have:=zib (k:=fun c:CH=>c.1) cmpT_ord (x:=x) hAD hD h;rw[zpj,hx];unfold stC;show _=P++(Ej (fun c:CH=>c.1) ku (X.take s++[x])++_);rw[<-this];simp
  rcases zs6 A with hA | ⟨A',y,hA⟩
  ·subst hA;rw[hfin (fun y hy=>by simp at hy),mz,Nat.add_zero];refine(Zf∘Zf2∘Zn∘Zdz∘ZbH∘Ze7∘Za3∘ZaD∘ZaE∘Zy∘ZaC) ?_;exact ym (x:=s) (s+1) ⟨by omega,by omega⟩ T ⟨Z,Z,Z,Z,Z,Z,nm⟩
  ·rw[zsr] at hA;subst hA;have hl9:(A'++[y]).length=A'.length+1:=by rw[nr,zqf]
   rw[hl9] at hAl;have e0:P++((A'++[y])++(x::(D++(X.drop (s+1)++R))))=(P++A')++y::([]++x::(D++(X.drop (s+1)++R))):=by simp
   have l1:(P++A').length=a+A'.length:=by rw[nr,ha]
   have l2:(P++A').length+1+([]:List CH).length=a+(A'++[y]).length:=by rw[l1,hl9];rfl
   have g1:=Bh (x:=y) (y:=x) (zte:=[]) (D:=D++(X.drop (s+1)++R)) l1;have g2:=Bg (x:=y) (y:=x) (D:=D++(X.drop (s+1)++R)) l2;have g3:=Qg (x:=y) (y:=x) (D:=D++(X.drop (s+1)++R)) l1 l2;have e1:(P++A')++x::([]++y::(D++(X.drop (s+1)++R)))=P++(A'++(x::((y::D)++(X.drop (s+1)++R)))):=by simp
   have hlen:((P++A')++y::([]++x::(D++(X.drop (s+1)++R)))).length=m:=by rw[<-e0];simp only[nr,nz,mz,m6];omega
   have hw1:IntKind.i64.wrap (((a+(A'++[y]).length:Nat):Int)-1)=((a+A'.length:Nat):Int):=xb T T |>.trans T;by_cases hc:ku x.1 y.1<0
   ·rw[e0];rw[e1] at g3;generalize (P++A')++y::([]++x::(D++(X.drop (s+1)++R)))=K at *;have h1:=get_lt g1;have h2:=get_lt g2;have q1:=wx (rest:=rest) g1 (0+(a+A'.length)*7) T;have q2:=wx (rest:=rest) g2 (0+(a+(A'++[y]).length)*7) T;have s1:=pz (rest:=rest) (z:=y) h2 (0+(a+(A'++[y]).length)*7) T;have b1:=p7 (rest:=rest) h2 (0+(a+(A'++[y]).length)*7) T;have h3:a+A'.length<(K.set (a+(A'++[y]).length) y).length:=by rw[zrc];exact h1
    have s2:=pz (rest:=rest) (z:=x) h3 (0+(a+A'.length)*7) T;have b2:=p7 (rest:=rest) h3 (0+(a+A'.length)*7) T;rw[g3] at s2;refine(Zf∘Zf2∘Zn∘Zdm∘Zn∘ZT) ?_;refine qz (kw L (q:=900) (vs:=[_,_,_,_,_,_,_]) Z Z Z Z q2) Z Z ((ZbJ∘Zp) ?_);refine qz (kw L (q:=900) (vs:=[_,_,_,_,_,_,_]) Z Z Z Z q1) Z Z (z81 L Z (fun u H hH _=>f5 hH) ?_);refine(Zcw∘Zcc∘Zaf∘Zam) ?_;refine qo (id:=6) [(200046,[900]),(200050,[900]),(100051,[900]),(100052,[900])] ki J ((Zn∘ZbJ∘ZbJ∘Zp) ?_);refine qz (kw L (q:=900) (vs:=[_,_,_,_,_,_,_]) Z Z Z Z q1) Z Z (ZT (h:=?_));refine qz (kw L (q:=900) (vs:=[_,_,_,_,_,_,_]) Z Z Z Z q2) Z Z (Zp (h:=?_));refine xo (yo L (q:=900) Z Z b1 Z s1) Z (Zp (h:=?_));refine xo (yo L (q:=900) Z Z b2 Z s2) Z ((Zck∘ZaE∘ZU∘Za9∘Zbw) ?_)
    exact ym (x:=(A'++[y],D)) (A',y::D) ⟨by rw[<-hAD];simp,fun z hz=>by
     rcases ma.1 hz with rfl | hz
     ·exact hc
     ·exact hD z hz⟩ G ⟨Z,Z,Z,Z,Z,Z,Z,nm⟩
   ·have hf:=hfin (fun z hz=>by rw[List.getLast?_append] at hz;simp at hz;subst hz;exact hc);rw[e0];rw[e0] at hf;have q1:=wx (rest:=rest) g1 (0+(a+A'.length)*7) T;have q2:=wx (rest:=rest) g2 (0+(a+(A'++[y]).length)*7) T;rw[hf] at q1 q2 |-;refine(Zf∘Zf2∘Zn∘Zdm∘Zn∘ZT) ?_;refine qz (kw L (q:=900) (vs:=[_,_,_,_,_,_,_]) Z Z Z Z q2) Z Z ((ZbJ∘Zp) ?_);refine qz (kw L (q:=900) (vs:=[_,_,_,_,_,_,_]) Z Z Z Z q1) Z Z (z81 L Z (fun u H hH _=>f5 hH) ?_);refine(ZcQ∘Za3∘ZaD∘ZaE∘Zy∘ZaC) ?_;exact ym (x:=s) (s+1) ⟨by omega,by omega⟩ T ⟨Z,Z,Z,Z,Z,Z,nm⟩
 ·have hX:P++(stC (X.take s)++(X.drop s++R))=P++(stC X++R):=by
   rw[zpf T,zpi T,mi]
  rw[hX];refine(Zf∘ZE∘ZbA∘ZaL∘ZaD) ?_;exact xu L 900 (r:=xc b _ tyC) Z (fun _ _ h=>h) nq Z Z
end Go.V.L8
namespace Go.V
section
variable {β:Type} [DecidableEq α] [DecidableEq β] {k:α->β} {c:β->β->Int}
omit [DecidableEq β] in
theorem Ub(ho:Ord3 c){z y x:β}(h1:¬ c y z<0)(h2:c y x<0):c z x<0:=by
 by_cases h3:c z y<0
 ·exact ho.tr h3 h2
 ·have:=ho.anti y z;rw[ho.eq z y T];exact h2
omit [DecidableEq β] in
theorem T7(ho:Ord3 c){x y z:β}(h1:c y x<0)(h2:¬ c z x<0):c y z<0:=by
 by_cases h3:c x z<0
 ·exact ho.tr h1 h3
 ·have:=ho.anti x z;rw[ho.eq z x T];exact h1
structure SymI(k:α->β)(c:β->β->Int)(X Y:List α)(a mid lo hi s r:Nat):Prop where
 ls:lo<=s
 sr:s<=r
 rh:r<=hi
 bef:∀ i x y,lo<=i->i<s->X[i-a]?=some x->Y[mid-1-i]?=some y->¬ c (k y) (k x)<0
 aft:∀ i x y,r<=i->i<hi->X[i-a]?=some x->Y[mid-1-i]?=some y->c (k y) (k x)<0
structure zmo(X Y:List α)(a mm e mid lo hi:Nat):Prop where
 lx:a+X.length=mm
 ly:mm+Y.length=e
 al:a<=lo
 nl:mid+mm<=lo+e
 hm:hi<=mid
 hx:hi<=mm
 lo_:lo=a\/mid+mm=lo+e
 hi_:hi=mm\/hi=mid
omit [DecidableEq α] [DecidableEq β] in
theorem SymI.start{X Y:List α}(h:lo<=hi):SymI k c X Y a mid lo hi lo hi:=⟨nu _,h,nu _,fun i x y h1 h2=>by omega,fun i x y h1 h2=>by omega⟩
omit [DecidableEq α] [DecidableEq β] in
theorem SymI.up(ho:Ord3 c){X Y:List α}(hX:Srt k c X)(hY:Srt k c Y){s r:Nat}{x y:α}(hb:zmo X Y a mm e mid lo hi)(h:SymI k c X Y a mid lo hi s r)(h1:s<=i)(h2:i<r)(hx:X[i-a]?=some x)(hy:Y[mid-1-i]?=some y)(hc:¬ c (k y) (k x)<0):SymI k c X Y a mid lo hi (i+1) r:=by
 obtain⟨b1,b2,b3,b4,b5,b6,_,_⟩:=hb;obtain⟨i1,i2,i3,i4,i5⟩:=h;refine⟨by omega,by omega,i3,fun j x' y' hj hji hx' hy' hlt=>hc ?_,i5⟩;have e1:=ax ho hX hx' hx T;have e2:=ax ho hY hy hy' T;exact Ub ho e2 (T7 ho hlt e1)
omit [DecidableEq α] [DecidableEq β] in
theorem SymI.down(ho:Ord3 c){X Y:List α}(hX:Srt k c X)(hY:Srt k c Y){s r:Nat}{x y:α}(hb:zmo X Y a mm e mid lo hi)(h:SymI k c X Y a mid lo hi s r)(h1:s<=i)(h2:i<r)(hx:X[i-a]?=some x)(hy:Y[mid-1-i]?=some y)(hc:c (k y) (k x)<0):SymI k c X Y a mid lo hi s i:=by
 obtain⟨b1,b2,b3,b4,b5,b6,_,_⟩:=hb;obtain⟨i1,i2,i3,i4,i5⟩:=h;refine⟨by omega,by omega,by omega,i4,fun j x' y' hj hji hx' hy'=>?_⟩;have e1:=ax ho hX hx hx' T;have e2:=ax ho hY hy' hy T;exact Ub ho e2 (T7 ho hc e1)
theorem zcg(ho:Ord3 c){X Y:List α}(hX:Srt k c X)(hY:Srt k c Y){s:Nat}(hb:zmo X Y a mm e mid lo hi)(h:SymI k c X Y a mid lo hi s s):
  Ej k c (X.take (s-a)++Y.take (mid-s))++Ej k c (X.drop (s-a)++Y.drop (mid-s))=Ej k c (X++Y):=by
 obtain⟨b1,b2,b3,b4,b5,b6,b7,b8⟩:=hb;obtain⟨i1,i2,i3,i4,i5⟩:=h;have hXt:X.take (s-a)++X.drop (s-a)=X:=zpb _ _;have hYt:Y.take (mid-s)++Y.drop (mid-s)=Y:=zpb _ _
 have h12:∀ x∈X.drop (s-a),∀ y∈Y.take (mid-s),c (k y) (k x)<0:=fun x hx y hy=>by
  obtain⟨i,hi⟩:=zp1 hx;obtain⟨j,hj⟩:=zp1 hy;have hjl:=get_lt hj;rw[mg] at hjl;rw[zqa] at hi;rw[zqw T] at hj;have hil:=get_lt hi;obtain⟨x0,hx0⟩:=xk (l:=X) (i:=s-a) T;obtain⟨y0,hy0⟩:=xk (l:=Y) (i:=mid-1-s) T;have h0:=i5 s x0 y0 (nu _) T hx0 hy0;exact Ub ho (ax ho hY hj hy0 T) (T7 ho h0 (ax ho hX hx0 hi T))
 have h21:∀ x∈X.take (s-a),∀ y∈Y.drop (mid-s),¬ c (k y) (k x)<0:=fun x hx y hy hlt=>by
  obtain⟨i,hi⟩:=zp1 hx;obtain⟨j,hj⟩:=zp1 hy;have hil:=get_lt hi;rw[mg] at hil;rw[zqa] at hj;rw[zqw T] at hi;have hjl:=get_lt hj;obtain⟨x1,hx1⟩:=xk (l:=X) (i:=s-1-a) T;obtain⟨y1,hy1⟩:=xk (l:=Y) (i:=mid-s) T;have h0:=i4 (s-1) x1 y1 T T hx1 (by rw[show mid-1-(s-1)=mid-s by omega];exact hy1);exact h0 (Ub ho (ax ho hY hy1 hj T) (T7 ho hlt (ax ho hX hi hx1 T)))
 have:=zck ho (by rw[hXt];exact hX) (by rw[hYt];exact hY) h12 h21 (uu ho _) (uu ho _);rw[hXt,hYt] at this;exact Ey ho this
theorem zhs(ho:Ord3 c){x:α}{Y:List α}(hY:Srt k c Y)(h1:∀ j z,j<i->Y[j]?=some z->c (k z) (k x)<0)(h2:∀ j z,i<=j->Y[j]?=some z->¬ c (k z) (k x)<0):
  Y.take i++x::Y.drop i=Ej k c ([x]++Y):=by
 have hY':Srt k c (Y.take i++Y.drop i):=by rw[zpb];exact hY
 have:=zgu ho (x:=x) hY' (fun z hz=>by
  obtain⟨j,hj⟩:=zp1 hz;have hjl:=get_lt hj;rw[mg] at hjl;rw[zqw T] at hj;exact h1 j z T hj) (fun z hz=>by
  obtain⟨j,hj⟩:=zp1 hz;rw[zqa] at hj;exact h2 _ z T hj)
 rw[zpb] at this;exact Ey ho this
theorem zhr(ho:Ord3 c){x:α}{X:List α}(hX:Srt k c X)(h1:∀ j z,j<i->X[j]?=some z->¬ c (k x) (k z)<0)(h2:∀ j z,i<=j->X[j]?=some z->c (k x) (k z)<0):
  X.take i++x::X.drop i=Ej k c (X++[x]):=by
 have hX':Srt k c (X.take i++X.drop i):=by rw[zpb];exact hX
 have:=Nz ho (x:=x) hX' (fun z hz=>by
  obtain⟨j,hj⟩:=zp1 hz;have hjl:=get_lt hj;rw[mg] at hjl;rw[zqw T] at hj;exact h1 j z T hj) (fun z hz=>by
  obtain⟨j,hj⟩:=zp1 hz;rw[zqa] at hj;exact h2 _ z T hj)
 rw[zpb] at this;exact Ey ho this
end
end Go.V
namespace Go.V.L8
open Go.V.L2 Go.V.L3 Go.V.L6
def zd4{X D:List CH}(ha:P.length=a){x:CH}(h:X[j]?=some x)(i:Nat)(hi:i=a+j):(P++(X++D))[i]?=some x:=by
 subst hi ha;have:=get_lt h;rw[zsa T,show P.length+j-P.length=j by omega,zqb this];exact h
def zie{X Y D:List CH}(ha:P.length=a)(hx:a+X.length=mm){y:CH}(h:Y[j]?=some y)(i:Nat)(hi:i=mm+j):(P++(X++(Y++D)))[i]?=some y:=by
 have e:P++(X++(Y++D))=(P++X)++(Y++D):=by simp
 rw[e];exact zd4 (by rw[nr];omega) h i hi
abbrev zjo(l:List CH):Prop:=Srt (fun c:CH=>c.1) ku l
def Bs(i j:Nat):((i:Int)+(j:Int)).fdiv (2^min (1:Int).toNat IntKind.u64.bits)=((i+j)/2:Nat):=by
 show((i:Int)+(j:Int)).fdiv 2=_;rw[zr8 _ E];omega
attribute [local irreducible] V N X VO Par StepOK Has Ret RetL RetO RetT kx Src
abbrev SYM:Nat:=292
def zgo{Y R:List CH}{x:CH}(ha:P.length=a)(hmm:a+1=mm)(he:mm+Y.length=e)(hY:zjo Y)(hm:(P++([x]++(Y++R))).length=m)(hm1:m<=100000)(hB:zth B w)
  (hr:(xc b ((P++([x]++(Y++R))).flatMap ccs++rest) tyC).P B w C) (hC:ZCB C w B):
  kx zti SYM [.slice (some ⟨b,0,none⟩) m cap,.int .i64 a,.int .i64 mm,.int .i64 e,C9] w B C (xc b ((P++(stC ([x]++Y)++R)).flatMap ccs++rest) tyC):=by
 unfold kx;refine xa 900 (xc b ((P++([x]++(Y++R))).flatMap ccs++rest) tyC) Tryz.func292 Z Tryz.ntmps292 (np Z) hB hr hC ?_;rw[xd];have hm':=hm;simp only[nr,zqf] at hm';refine(Ze∘ZP∘Zb∘ZcS∘ZW∘ZD∘Zbp∘Zbx∘Zd∘Zam) ?_
 refine xm (fun s:Nat×Nat=>[(0,.is (.slice (some ⟨b,0,none⟩) m cap)),(1,.is (.int .i64 a)),(4,.is C9),(10,.is (.int .i64 s.1)),(11,.is (.int .i64 s.2)),(900,.own (xp b ((P++([x]++(Y++R))).flatMap ccs++rest) tyC))])
  (fun s=>mm<=s.1/\s.1<=s.2/\s.2<=e/\(∀ (j:Nat) (z:CH),j<s.1-mm->Y[j]?=some z->ku z.1 x.1<0)/\∀ (j:Nat) (z:CH),s.2-mm<=j->Y[j]?=some z->¬ ku z.1 x.1<0) (fun s=>s.2-s.1) (mm,e)
  ⟨Nat.le_refl _,by dsimp only;omega,Nat.le_refl _,fun j z h=>(by dsimp only at h;omega),fun j z h hz=>(by have:=get_lt hz;dsimp only at h;omega)⟩ ⟨rfl,rfl,rfl,rfl,rfl,rfl,trivial⟩ ?_
 rintro⟨i,j⟩ ⟨h1,h2,h3,h4,h5⟩;dsimp only at h1 h2 h3 h4 h5 |-;by_cases hlt:i<j
 ·have hsh:=Bs i j;obtain⟨h,hh⟩:∃ h,(i+j)/2=h:=⟨_,rfl⟩
  rw[hh] at hsh;obtain⟨y,hy⟩:=xk (l:=Y) (show h-mm<Y.length by omega);have q1:=wx (rest:=rest) (zie (X:=[x]) (D:=R) (mm:=mm) ha hmm hy h T) (0+h*7) T;have q2:=wx (rest:=rest) (zd4 (X:=[x]) (D:=Y++R) ha (j:=0) rfl a T) (0+a*7) T;by_cases hc:ku y.1 x.1<0
  ·refine(ZbM∘ZbD∘ZcL∘Z2∘Zb∘ZaI) ?_;refine z7 (ko Z Z Z jx.1 jx.2 (wrap_u64 T T)) Z (Zdr (h:=?_));refine z7 (ko Z Z Z jy.1 jy.2 (xb T T)) Z (Zd (h:=?_));refine qo (id:=5) [(200044,[900]),(200048,[900])] ki J ((Zbh∘Zp) ?_);refine qz (kw L (q:=900) (vs:=[_,_,_,_,_,_,_]) Z Z Z Z q1) Z Z (ZT (h:=?_));refine qz (kw L (q:=900) (vs:=[_,_,_,_,_,_,_]) Z Z Z Z q2) Z Z (z81 L Z (fun u H hH _=>f5 hH) ?_);refine(Zcw∘ZbW∘ZQ∘ZaI∘Zai) ?_
   exact ym (x:=(i,j)) (h+1,j) ⟨by dsimp only;omega,by dsimp only;omega,h3,fun k z hk hz=>by
    dsimp only at hk;exact Ub cmpT_ord (ax cmpT_ord hY hz hy T) hc,h5⟩ G ⟨Z,Z,Z,Z,Z,Z,nm⟩
  ·refine(ZbM∘ZbD∘ZcL∘Z2∘Zb∘ZaI) ?_;refine z7 (ko Z Z Z jx.1 jx.2 (wrap_u64 T T)) Z (Zdr (h:=?_));refine z7 (ko Z Z Z jy.1 jy.2 (xb T T)) Z (Zd (h:=?_));refine qo (id:=5) [(200044,[900]),(200048,[900])] ki J ((Zbh∘Zp) ?_);refine qz (kw L (q:=900) (vs:=[_,_,_,_,_,_,_]) Z Z Z Z q1) Z Z (ZT (h:=?_));refine qz (kw L (q:=900) (vs:=[_,_,_,_,_,_,_]) Z Z Z Z q2) Z Z (z81 L Z (fun u H hH _=>f5 hH) ?_);refine(ZcQ∘ZaN∘Z8∘Zai) ?_
   exact ym (x:=(i,j)) (i,h) ⟨h1,by dsimp only;omega,by dsimp only;omega,h4,fun k z hk hz hcx=>by
    dsimp only at hk;exact hc (Ub cmpT_ord (ax cmpT_ord hY hy hz T) hcx)⟩ G ⟨Z,Z,Z,Z,Z,Z,nm⟩
 ·obtain rfl:i=j:=by omega
  have hfin:=zhs (k:=fun c:CH=>c.1) cmpT_ord hY h4 h5;have hal:(Y.take (i-mm)).length=i-mm:=by rw[mg];omega
  have hYl:(Y.take (i-mm)).length+(Y.drop (i-mm)).length=Y.length:=by rw[<-nr,zpb]
  have e0:P++([x]++(Y++R))=P++([]++(x::(Y.take (i-mm)++(Y.drop (i-mm)++R)))):=by
   rw[<-mn (Y.take _),zpb];rfl
  rw[e0]
  have e9:P++(Y.take (i-mm)++(x::(Y.drop (i-mm)++R)))=P++(stC ([x]++Y)++R):=by
   unfold stC;rw[<-hfin];simp
  generalize Y.take (i-mm)=A at *;generalize Y.drop (i-mm)=D at *;clear hfin h4 h5 e0;refine(ZbM∘ZJ∘Zas∘Ze∘ZaQ∘ZaJ) ?_;refine xm (fun t:Nat=>[(0,.is (.slice (some ⟨b,0,none⟩) m cap)),(10,.is (.int .i64 i)),(13,.is (.int .i64 (a+t:Nat))),(900,.own (xp b ((P++(A.take t++(x::(A.drop t++(D++R))))).flatMap ccs++rest) tyC))]) (fun t=>t<=A.length) (fun t=>A.length-t) 0 (mc _) ⟨Z,Z,Z,Z,nm⟩ ?_;rintro t ht;by_cases htl:t<A.length
  ·obtain⟨z,hz⟩:=xk htl;have e0:P++(A.take t++(x::(A.drop t++(D++R))))=(P++A.take t)++x::([]++z::(A.drop (t+1)++(D++R))):=by rw[bn hz];simp
   have e1:(P++A.take t)++z::([]++x::(A.drop (t+1)++(D++R)))=P++(A.take (t+1)++(x::(A.drop (t+1)++(D++R)))):=by rw[zpj,hz];simp
   have l1:(P++A.take t).length=a+t:=by rw[nr,mg];omega
   have l2:(P++A.take t).length+1+([]:List CH).length=a+t+1:=by rw[l1];rfl
   have g1:=Bh (x:=x) (y:=z) (zte:=[]) (D:=A.drop (t+1)++(D++R)) l1;have g2:=Bg (x:=x) (y:=z) (D:=A.drop (t+1)++(D++R)) l2;have g3:=Nq (x:=x) (y:=z) (D:=A.drop (t+1)++(D++R)) l1 l2;rw[e0];rw[e1] at g3;generalize (P++A.take t)++x::([]++z::(A.drop (t+1)++(D++R)))=K at *;have k1:=get_lt g1;have k2:=get_lt g2
   have hKl:a+t+1<m:=by
    have:a+1+A.length+D.length<=m:=T;omega
   have q1:=wx (rest:=rest) g1 (0+(a+t)*7) T;have q2:=wx (rest:=rest) g2 (0+(a+t+1)*7) T;have s1:=pz (rest:=rest) (z:=z) k1 (0+(a+t)*7) T;have b1:=p7 (rest:=rest) k1 (0+(a+t)*7) T;have k3:a+t+1<(K.set (a+t) z).length:=by rw[zrc];exact k2
   have s2:=pz (rest:=rest) (z:=x) k3 (0+(a+t+1)*7) T;have b2:=p7 (rest:=rest) k3 (0+(a+t+1)*7) T;rw[g3] at s2;have a1:IntKind.i64.wrap (((a+t:Nat):Int)+1)=((a+t+1:Nat):Int):=xb T T;refine(Zf∘ZM∘Zb∘ZcS∘ZbD∘Zaf∘Zam) ?_;refine qo (id:=11) [(200070,[900]),(200074,[900]),(100075,[900]),(100076,[900])] ki J ((Zn∘Zn∘Zcf∘Zn∘Zcf∘Zp) ?_);refine qz (kw L (q:=900) (vs:=[_,_,_,_,_,_,_]) Z Z Z Z q2) Z Z (ZT (h:=?_));refine qz (kw L (q:=900) (vs:=[_,_,_,_,_,_,_]) Z Z Z Z q1) Z Z (Zp (h:=?_));refine xo (yo L (q:=900) Z Z b1 Z s1) Z (Zp (h:=?_));refine xo (yo L (q:=900) Z Z b2 Z s2) Z ((Zck∘ZaE∘ZI∘Za∘Z7∘Zbw) ?_);exact ym (x:=t) (t+1) T T ⟨Z,Z,Z,Z,nm⟩
  ·have hA:P++(A.take t++(x::(A.drop t++(D++R))))=P++(stC ([x]++Y)++R):=by
    rw[zpf T,zpi T,mi,e9]
   rw[hA];refine(Zf∘ZM∘Zb∘ZcS∘ZJ∘ZaL∘ZaD∘Zbi) ?_;exact jj L 900 (r:=xc b _ tyC) Z (fun _ _ h=>h) nq Z Z
def zgp{X R:List CH}{y:CH}(ha:P.length=a)(hmm:a+X.length=mm)(hx1:¬ X.length=1)(he:mm+1=e)(hX:zjo X)(hm:(P++(X++([y]++R))).length=m)(hm1:m<=100000)(hB:zth B w)
  (hr:(xc b ((P++(X++([y]++R))).flatMap ccs++rest) tyC).P B w C) (hC:ZCB C w B):
  kx zti SYM [.slice (some ⟨b,0,none⟩) m cap,.int .i64 a,.int .i64 mm,.int .i64 e,C9] w B C (xc b ((P++(stC (X++[y])++R)).flatMap ccs++rest) tyC):=by
 unfold kx;refine xa 900 (xc b ((P++(X++([y]++R))).flatMap ccs++rest) tyC) Tryz.func292 Z Tryz.ntmps292 (np Z) hB hr hC ?_;rw[xd];have hm':=hm;simp only[nr,zqf] at hm';refine(Ze∘ZP∘Zb∘ZcS∘Zx∘Z1∘Zaa∘Zb∘ZcS∘ZW∘ZD∘Zak∘Za∘Zd∘ZbG∘Zd∘Zam) ?_
 refine xm (fun s:Nat×Nat=>[(0,.is (.slice (some ⟨b,0,none⟩) m cap)),(2,.is (.int .i64 mm)),(4,.is C9),(14,.is (.int .i64 s.1)),(15,.is (.int .i64 s.2)),(900,.own (xp b ((P++(X++([y]++R))).flatMap ccs++rest) tyC))])
  (fun s=>a<=s.1/\s.1<=s.2/\s.2<=mm/\(∀ (j:Nat) (z:CH),j<s.1-a->X[j]?=some z->¬ ku y.1 z.1<0)/\∀ (j:Nat) (z:CH),s.2-a<=j->X[j]?=some z->ku y.1 z.1<0) (fun s=>s.2-s.1) (a,mm)
  ⟨Nat.le_refl _,by dsimp only;omega,Nat.le_refl _,fun j z h=>(by dsimp only at h;omega),fun j z h hz=>(by have:=get_lt hz;dsimp only at h;omega)⟩ ⟨rfl,rfl,rfl,rfl,rfl,rfl,trivial⟩ ?_
 rintro⟨i,j⟩ ⟨h1,h2,h3,h4,h5⟩;dsimp only at h1 h2 h3 h4 h5 |-;by_cases hlt:i<j
 ·have hsh:=Bs i j;obtain⟨h,hh⟩:∃ h,(i+j)/2=h:=⟨_,rfl⟩
  rw[hh] at hsh;obtain⟨x,hx⟩:=xk (l:=X) (show h-a<X.length by omega);have q1:=wx (rest:=rest) (zie (Y:=[y]) (D:=R) ha hmm (j:=0) rfl mm T) (0+mm*7) T;have q2:=wx (rest:=rest) (zd4 (D:=[y]++R) ha hx h T) (0+h*7) T;by_cases hc:ku y.1 x.1<0
  ·refine(Zf∘Zao∘Zb∘ZbD∘ZcL∘Zar∘Zb∘ZaI) ?_;refine z7 (ko Z Z Z jx.1 jx.2 (wrap_u64 T T)) Z (Zdr (h:=?_));refine z7 (ko Z Z Z jy.1 jy.2 (xb T T)) Z (Zd (h:=?_));refine qo (id:=17) [(200096,[900]),(200100,[900])] ki J ((Zbh∘Zp) ?_);refine qz (kw L (q:=900) (vs:=[_,_,_,_,_,_,_]) Z Z Z Z q1) Z Z (ZT (h:=?_));refine qz (kw L (q:=900) (vs:=[_,_,_,_,_,_,_]) Z Z Z Z q2) Z Z (z81 L Z (fun u H hH _=>f5 hH) ?_);refine(Zcw∘Za8∘ZaN∘Zcz∘Za∘Zai) ?_
   exact ym (x:=(i,j)) (i,h) ⟨h1,by dsimp only;omega,by dsimp only;omega,h4,fun k z hk hz=>by
    dsimp only at hk;exact T7 cmpT_ord hc (ax cmpT_ord hX hx hz T)⟩ G ⟨Z,Z,Z,Z,Z,Z,nm⟩
  ·refine(Zf∘Zao∘Zb∘ZbD∘ZcL∘Zar∘Zb∘ZaI) ?_;refine z7 (ko Z Z Z jx.1 jx.2 (wrap_u64 T T)) Z (Zdr (h:=?_));refine z7 (ko Z Z Z jy.1 jy.2 (xb T T)) Z (Zd (h:=?_));refine qo (id:=17) [(200096,[900]),(200100,[900])] ki J ((Zbh∘Zp) ?_);refine qz (kw L (q:=900) (vs:=[_,_,_,_,_,_,_]) Z Z Z Z q1) Z Z (ZT (h:=?_));refine qz (kw L (q:=900) (vs:=[_,_,_,_,_,_,_]) Z Z Z Z q2) Z Z (z81 L Z (fun u H hH _=>f5 hH) ?_);refine(ZcQ∘Za8∘ZbW∘ZaV∘Za∘ZaI∘Zai) ?_
   exact ym (x:=(i,j)) (h+1,j) ⟨by dsimp only;omega,by dsimp only;omega,h3,fun k z hk hz hcx=>by
    dsimp only at hk;exact hc (T7 cmpT_ord hcx (ax cmpT_ord hX hz hx T)),h5⟩ G ⟨Z,Z,Z,Z,Z,Z,nm⟩
 ·obtain rfl:i=j:=by omega
  have hfin:=zhr (k:=fun c:CH=>c.1) cmpT_ord hX h4 h5;have hal:(X.take (i-a)).length=i-a:=by rw[mg];omega
  have hXl:(X.take (i-a)).length+(X.drop (i-a)).length=X.length:=by rw[<-nr,zpb]
  have e0:P++(X++([y]++R))=P++(X.take (i-a)++(X.drop (i-a)++(y::([]++R)))):=by
   rw[<-mn (X.take _),zpb];rfl
  rw[e0]
  have e9:P++(X.take (i-a)++(y::(X.drop (i-a)++R)))=P++(stC (X++[y])++R):=by
   unfold stC;rw[<-hfin];simp
  generalize X.take (i-a)=A at *;generalize X.drop (i-a)=D at *;clear hfin h4 h5 e0;have hk0:mm=i+D.length:=T;refine(Zf∘Zao∘ZbA∘Zas∘Ze∘Zbe∘Za∘ZaJ) ?_;refine xm (fun t:Nat=>[(0,.is (.slice (some ⟨b,0,none⟩) m cap)),(14,.is (.int .i64 i)),(17,.is (.int .i64 (i+t:Nat))),(900,.own (xp b ((P++(A++(D.take t++(y::(D.drop t++R))))).flatMap ccs++rest) tyC))]) (fun t=>t<=D.length) (fun t=>t) D.length (nu _) ⟨Z,Z,by rw[<-hk0];rfl,by rw[m9,zq9];rfl,nm⟩ ?_;rintro t ht;rcases t with _ | t
  ·rw[zpv,zp7,mi,e9,Nat.add_zero];refine(Zf∘Zc0∘Zb∘ZL∘ZaL∘ZaD∘Zbi) ?_;exact jj L 900 (r:=xc b _ tyC) Z (fun _ _ h=>h) nq Z Z
  ·obtain⟨z,hz⟩:=xk (l:=D) (show t<D.length by omega);have e0:P++(A++(D.take (t+1)++(y::(D.drop (t+1)++R))))=(P++(A++D.take t))++z::([]++y::(D.drop (t+1)++R)):=by rw[zpj,hz];simp
   have e1:(P++(A++D.take t))++y::([]++z::(D.drop (t+1)++R))=P++(A++(D.take t++(y::(D.drop t++R)))):=by rw[bn hz];simp
   have l1:(P++(A++D.take t)).length=i+t:=by rw[nr,nr,mg];omega
   have l2:(P++(A++D.take t)).length+1+([]:List CH).length=i+(t+1):=by rw[l1];rfl
   have g1:=Bh (x:=z) (y:=y) (zte:=[]) (D:=D.drop (t+1)++R) l1;have g2:=Bg (x:=z) (y:=y) (D:=D.drop (t+1)++R) l2;have g3:=Qg (x:=z) (y:=y) (D:=D.drop (t+1)++R) l1 l2;rw[e0];rw[e1] at g3;generalize (P++(A++D.take t))++z::([]++y::(D.drop (t+1)++R))=K at *;have k1:=get_lt g1;have k2:=get_lt g2;have hKl:i+(t+1)<m:=T;have q1:=wx (rest:=rest) g1 (0+(i+t)*7) T;have q2:=wx (rest:=rest) g2 (0+(i+(t+1))*7) T;have s1:=pz (rest:=rest) (z:=z) k2 (0+(i+(t+1))*7) T;have b1:=p7 (rest:=rest) k2 (0+(i+(t+1))*7) T;have k3:i+t<(K.set (i+(t+1)) z).length:=by rw[zrc];exact k1
   have s2:=pz (rest:=rest) (z:=y) k3 (0+(i+t)*7) T;have b2:=p7 (rest:=rest) k3 (0+(i+t)*7) T;rw[g3] at s2;have a1:IntKind.i64.wrap (((i+(t+1):Nat):Int)-1)=((i+t:Nat):Int):=xb T T |>.trans T;refine(Zf∘Zc0∘Zb∘ZO∘Zw∘Zaf∘Zam) ?_;refine qo (id:=23) [(200122,[900]),(200126,[900]),(100127,[900]),(100128,[900])] ki J ((Zn∘ZbJ∘ZbJ∘Zp) ?_);refine qz (kw L (q:=900) (vs:=[_,_,_,_,_,_,_]) Z Z Z Z q1) Z Z (ZT (h:=?_));refine qz (kw L (q:=900) (vs:=[_,_,_,_,_,_,_]) Z Z Z Z q2) Z Z (Zp (h:=?_));refine xo (yo L (q:=900) Z Z b1 Z s1) Z (Zp (h:=?_));refine xo (yo L (q:=900) Z Z b2 Z s2) Z ((Zck∘ZaE∘ZcY∘Za∘Za9∘Zbw) ?_);exact ym (x:=t+1) t T T ⟨Z,Z,Z,Z,nm⟩
def Yy(h:l.length=1):∃ x,l=[x]:=by
 rcases l with _ | ⟨x,_ | ⟨y,l⟩⟩
 ·simp at h
 ·exact⟨x,rfl⟩
 ·simp at h
def Gl(h:zjo l):stC l=l:=zcl cmpT_ord h
def Vm(N0:Nat):∀ {P X Y R:List CH} {rest:List Value} {b m cap a mm e:Nat},X.length+Y.length<=N0->P.length=a->a+X.length=mm->mm+Y.length=e->0<X.length->0<Y.length->zjo X->zjo Y->(P++(X++(Y++R))).length=m->m<=100000->∀ {w:World} {B:Heap} {C:Nat->Prop},zth B w->
  (xc b ((P++(X++(Y++R))).flatMap ccs++rest) tyC).P B w C->(ZCB C w B)->
  kx zti SYM [.slice (some ⟨b,0,none⟩) m cap,.int .i64 a,.int .i64 mm,.int .i64 e,C9] w B C (xc b ((P++(stC (X++Y)++R)).flatMap ccs++rest) tyC):=by
 induction N0 with
 | zero=>intro P X Y R rest b m cap a mm e h1 h2 h3 h4 h5;omega
 | succ N0 ih=>
 intro P X Y R rest b m cap a mm e hN ha hmm he hx hy hX hY hm hm1 w B C hB hr hC;by_cases hx1:X.length=1
 ·obtain⟨x,rfl⟩:=Yy hx1;exact zgo ha (by simpa using hmm) he hY hm hm1 hB hr hC
 by_cases hy1:Y.length=1
 ·obtain⟨y,rfl⟩:=Yy hy1;exact zgp ha hmm hx1 (by simpa using he) hX hm hm1 hB hr hC
 unfold kx;refine xa 900 (xc b ((P++(X++(Y++R))).flatMap ccs++rest) tyC) Tryz.func292 Z Tryz.ntmps292 (np Z) hB hr hC ?_;rw[xd];have hm':=hm;simp only[nr] at hm';have hsh:=Bs a e;obtain⟨mid,hmid⟩:∃ mid,(a+e)/2=mid:=⟨_,rfl⟩
 rw[hmid] at hsh;have hnn:IntKind.i64.wrap ((mid:Int)+(mm:Int))=((mid+mm:Nat):Int):=xb T T;refine(Ze∘ZP∘Zb∘ZcS∘Zx∘Z1∘Zaa∘Zb∘ZcS∘Zx∘Zm∘Zdv∘Zb∘ZaI) ?_;refine z7 (ko Z Z Z jx.1 jx.2 (wrap_u64 T T)) Z (Zdr (h:=?_));refine z7 (ko Z Z Z jy.1 jy.2 (xb T T)) Z (Zd (h:=?_));refine ze (id:=25) ((Zb∘Z7∘Zd) ?_);refine ze (id:=26) (ZaP (h:=?_));refine rj (fun s:Nat×Nat=>[(0,.is (.slice (some ⟨b,0,none⟩) m cap)),(1,.is (.int .i64 a)),(2,.is (.int .i64 mm)),(3,.is (.int .i64 e)),(4,.is C9),(18,.is (.int .i64 mid)),(19,.is (.int .i64 (mid+mm:Nat))),(20,.is (.int .i64 s.1)),(21,.is (.int .i64 s.2)),(900,.own (xp b ((P++(X++(Y++R))).flatMap ccs++rest) tyC))]) (fun s=>zmo X Y a mm e mid s.1 s.2/\s.1<=s.2) (fun _=>[]) ?rest ?first
 case first=>
  by_cases hgt:mid<mm
  ·have hs:IntKind.i64.wrap (((mid+mm:Nat):Int)-(e:Int))=((mid+mm-e:Nat):Int):=xb T T |>.trans T;refine ze (id:=27) ((Zb∘ZO∘ZD) ?_);refine ze (id:=28) ((ZaA∘Zc) ?_);refine ze (id:=29) ((Za∘Zbw) ?_);exact jz (mid+mm-e,mid) Since.refl ⟨⟨hmm,he,by dsimp only;omega,by dsimp only;omega,Nat.le_refl _,by dsimp only;omega,.inr G,.inr Z⟩,by dsimp only;omega⟩ Z ⟨Z,Z,Z,Z,Z,Z,Z,Z,Z,Z,trivial⟩
  ·refine ze (id:=27) ((Zb∘ZL∘ZcV∘Zeh∘Zc) ?_);refine ze (id:=31) ((Za∘Zbw) ?_);exact jz (a,mm) Since.refl ⟨⟨hmm,he,Nat.le_refl _,by dsimp only;omega,by dsimp only;omega,Nat.le_refl _,.inl Z,.inl Z⟩,by dsimp only;omega⟩ Z ⟨Z,Z,Z,Z,Z,Z,Z,Z,Z,Z,trivial⟩
 case rest=>
 rintro⟨lo,hi⟩ ⟨hb,hlh⟩;dsimp only at hb hlh |-;have hp:IntKind.i64.wrap (((mid+mm:Nat):Int)-1)=((mid+mm-1:Nat):Int):=xb T T |>.trans T;refine Ze (h:=?_);refine ze (id:=32) ((Za∘Za9∘Zd∘Zam) ?_)
 refine xm (fun s:Nat×Nat=>[(0,.is (.slice (some ⟨b,0,none⟩) m cap)),(1,.is (.int .i64 a)),(2,.is (.int .i64 mm)),(3,.is (.int .i64 e)),(4,.is C9),(18,.is (.int .i64 mid)),(19,.is (.int .i64 (mid+mm:Nat))),(20,.is (.int .i64 s.1)),(21,.is (.int .i64 s.2)),(22,.is (.int .i64 (mid+mm-1:Nat))),(900,.own (xp b ((P++(X++(Y++R))).flatMap ccs++rest) tyC))])
  (fun s=>SymI (fun c:CH=>c.1) ku X Y a mid lo hi s.1 s.2) (fun s=>s.2-s.1) (lo,hi) (SymI.start hlh) ⟨rfl,rfl,rfl,rfl,rfl,rfl,rfl,rfl,rfl,rfl,rfl,nm⟩ ?_
 rintro⟨i,j⟩ hI;dsimp only at hI |-;have hI':=hI;have hb':=hb;obtain⟨b1,b2,b3,b4,b5,b6,_,_⟩:=hb';obtain⟨i1,i2,i3,_,_⟩:=hI';by_cases hlt:i<j
 ·have hsc:=Bs i j;obtain⟨c,hc⟩:∃ c,(i+j)/2=c:=⟨_,rfl⟩
  rw[hc] at hsc;obtain⟨x,hxc⟩:=xk (l:=X) (show c-a<X.length by omega);obtain⟨y,hyc⟩:=xk (l:=Y) (show mid-1-c<Y.length by omega);have q1:=wx (rest:=rest) (zie (D:=R) ha hmm hyc (mid+mm-1-c) T) (0+(mid+mm-1-c)*7) T;have q2:=wx (rest:=rest) (zd4 (D:=Y++R) ha hxc c T) (0+c*7) T;have hpc:IntKind.i64.wrap (((mid+mm-1:Nat):Int)-(c:Int))=((mid+mm-1-c:Nat):Int):=xb T T |>.trans T;by_cases hcm:ku y.1 x.1<0
  ·refine Zf (h:=?_);refine ze (id:=33) ((Zb∘ZbD∘ZcL) ?_);refine ze (id:=34) ((Zb∘ZaI) ?_);refine z7 (ko Z Z Z jx.1 jx.2 (wrap_u64 T T)) Z (Zdr (h:=?_));refine z7 (ko Z Z Z jy.1 jy.2 (xb T T)) Z (Zd (h:=?_));refine qo (id:=35) [(200164,[900]),(200168,[900])] ki J ((Zn∘ZbJ∘Zp) ?_);refine qz (kw L (q:=900) (vs:=[_,_,_,_,_,_,_]) Z Z Z Z q1) Z Z (ZT (h:=?_));refine qz (kw L (q:=900) (vs:=[_,_,_,_,_,_,_]) Z Z Z Z q2) Z Z (z81 L Z (fun u H hH _=>f5 hH) ?_);refine(Zcw∘Za8∘ZaN) ?_;refine ze (id:=37) ((Za∘Zai) ?_);exact ym (x:=(i,j)) (i,c) (hI.down cmpT_ord hX hY hb T T hxc hyc hcm) G ⟨Z,Z,Z,Z,Z,Z,Z,Z,Z,Z,Z,nm⟩
  ·refine Zf (h:=?_);refine ze (id:=33) ((Zb∘ZbD∘ZcL) ?_);refine ze (id:=34) ((Zb∘ZaI) ?_);refine z7 (ko Z Z Z jx.1 jx.2 (wrap_u64 T T)) Z (Zdr (h:=?_));refine z7 (ko Z Z Z jy.1 jy.2 (xb T T)) Z (Zd (h:=?_));refine qo (id:=35) [(200164,[900]),(200168,[900])] ki J ((Zn∘ZbJ∘Zp) ?_);refine qz (kw L (q:=900) (vs:=[_,_,_,_,_,_,_]) Z Z Z Z q1) Z Z (ZT (h:=?_));refine qz (kw L (q:=900) (vs:=[_,_,_,_,_,_,_]) Z Z Z Z q2) Z Z (z81 L Z (fun u H hH _=>f5 hH) ?_);refine(ZcQ∘Za8∘ZbW) ?_;refine ze (id:=36) ((Za∘ZaI∘Zai) ?_);exact ym (x:=(i,j)) (c+1,j) (hI.up cmpT_ord hX hY hb T T hxc hyc hcm) G ⟨Z,Z,Z,Z,Z,Z,Z,Z,Z,Z,Z,nm⟩
 ·obtain rfl:i=j:=by omega
  have hj:=zcg cmpT_ord hX hY hb hI;have hen:IntKind.i64.wrap (((mid+mm:Nat):Int)-(i:Int))=((mid+mm-i:Nat):Int):=xb T T |>.trans T;refine Zf (h:=?_);refine ze (id:=33) ((ZbA∘Zas) ?_);refine ze (id:=38) ((ZaA∘Zj) ?_);have eX:X.take (i-a)++X.drop (i-a)=X:=zpb _ _;have eY:Y.take (mid-i)++Y.drop (mid-i)=Y:=zpb _ _;have lA1:(X.take (i-a)).length=i-a:=by rw[mg];omega
  have lA2:(X.drop (i-a)).length=mm-i:=by rw[m6];omega
  have lB1:(Y.take (mid-i)).length=mid-i:=by rw[mg];omega
  have lB2:(Y.drop (mid-i)).length=e-(mid+mm-i):=by rw[m6];omega
  generalize X.take (i-a)=A1 at *;generalize X.drop (i-a)=A2 at *;generalize Y.take (mid-i)=B1 at *;generalize Y.drop (mid-i)=B2 at *
  change stC (A1++B1)++stC (A2++B2)=stC (X++Y) at hj
  rw[<-hj];subst eX eY;obtain⟨sA1,sA2,_⟩:=de.1 hX;obtain⟨sB1,sB2,_⟩:=de.1 hY;clear hI hb hj hX hY;obtain⟨en,hend⟩:∃ en,mid+mm-i=en:=⟨_,rfl⟩
  rw[hend] at lB2 |-;have e0:P++((A1++A2)++((B1++B2)++R))=(P++A1)++(A2++(B1++(B2++R))):=by simp
  have e1:(P++A1)++(B1++(A2++(B2++R)))=P++(A1++(B1++(A2++(B2++R)))):=by simp
  have hlen1:((P++A1)++(A2++(B1++(B2++R)))).length=m:=by rw[<-e0];exact hm
  have hlen2:(P++(A1++(B1++(A2++(B2++R))))).length=m:=by simp only[nr] at hm' |-;omega
  have hl3:=aa (A1++B1);rw[nr] at hl3;have e3:P++(stC (A1++B1)++(A2++(B2++R)))=(P++stC (A1++B1))++(A2++(B2++R)):=by simp
  have hlen3:((P++stC (A1++B1))++(A2++(B2++R))).length=m:=by simp only[nr] at hm' |-;omega
  have e4:(P++stC (A1++B1))++(stC (A2++B2)++R)=P++((stC (A1++B1)++stC (A2++B2))++R):=by simp
  simp only[nr] at hm' hmm he hN;refine rj (fun _:Unit=>[(0,.is (.slice (some ⟨b,0,none⟩) m cap)),(1,.is (.int .i64 a)),(3,.is (.int .i64 e)),(4,.is C9),(18,.is (.int .i64 mid)),(20,.is (.int .i64 i)),(24,.is (.int .i64 en)),(900,.own (xp b ((P++(A1++(B1++(A2++(B2++R))))).flatMap ccs++rest) tyC))]) (fun _=>True) (fun _=>[]) ?rest1 ?first1
  case first1=>
   rw[e0];by_cases h1:i<mm
   ·by_cases h2:mm<en
    ·refine ze (id:=39) ((Zb∘ZN∘Z3∘ZN∘Zh∘Zw) ?_);refine ze (id:=40) ((Zb∘Z3) ?_);refine qe (yx L 900 (xc b (((P++A1)++(B1++(A2++(B2++R)))).flatMap ccs++rest) tyC) (r:=xc b (((P++A1)++(A2++(B1++(B2++R)))).flatMap ccs++rest) tyC) Z Z Z Z Z (fun u H C hH _ hr hC=>(by have h:=zg8 (cap:=cap) (a:=i) (mm:=mm) (e:=en) (by rw[nr];omega) T T T T hlen1 hm1 C9 hH hr hC;exact h))) ?_;refine Zac (h:=?_);rw[e1];exact jz () nq trivial Z ⟨Z,Z,Z,Z,Z,Z,Z,Z,nm⟩
    ·have hB1:B1=[]:=m7 T;subst hB1;have e9:(P++A1)++(A2++([]++(B2++R)))=P++(A1++([]++(A2++(B2++R)))):=by simp
     rw[e9];refine ze (id:=39) ((Zb∘ZN∘Z3∘ZJ∘Zh∘Zae) ?_);exact jz () nq trivial Z ⟨Z,Z,Z,Z,Z,Z,Z,Z,nm⟩
   ·have hA2:A2=[]:=m7 T;subst hA2;have e9:(P++A1)++([]++(B1++(B2++R)))=P++(A1++(B1++([]++(B2++R)))):=by simp
    rw[e9];refine ze (id:=39) ((ZbA∘ZbU∘Zae) ?_);exact jz () nq trivial Z ⟨Z,Z,Z,Z,Z,Z,Z,Z,nm⟩
  case rest1=>
  rintro _ _;refine Zf (h:=?_);refine rj (fun _:Unit=>[(0,.is (.slice (some ⟨b,0,none⟩) m cap)),(3,.is (.int .i64 e)),(4,.is C9),(18,.is (.int .i64 mid)),(24,.is (.int .i64 en)),(900,.own (xp b (((P++stC (A1++B1))++(A2++(B2++R))).flatMap ccs++rest) tyC))]) (fun _=>True) (fun _=>[]) ?rest2 ?first2
  case first2=>
   rw[<-e3];by_cases h1:a<i
   ·by_cases h2:i<mid
    ·refine ze (id:=41) ((Zb∘ZN∘Z3∘ZN∘Zh∘Zw) ?_);refine ze (id:=42) ((Zb∘Z3) ?_);refine qe (yx L 900 (xc b ((P++(stC (A1++B1)++(A2++(B2++R)))).flatMap ccs++rest) tyC) (r:=xc b ((P++(A1++(B1++(A2++(B2++R))))).flatMap ccs++rest) tyC) Z Z Z Z Z (fun u H C hH _ hr hC=>(by have h:=ih (cap:=cap) (a:=a) (mm:=i) (e:=mid) T ha T T T T sA1 sB1 hlen2 hm1 hH hr hC;exact h))) ?_;refine Zac (h:=?_);exact jz () nq trivial Z ⟨Z,Z,Z,Z,Z,Z,nm⟩
    ·have hB1:B1=[]:=m7 T;subst hB1;have e9:P++(A1++([]++(A2++(B2++R))))=P++(stC (A1++[])++(A2++(B2++R))):=by rw[mo,Gl sA1];rfl
     rw[e9];refine ze (id:=41) ((Zb∘ZN∘Z3∘ZJ∘Zh∘Zae) ?_);exact jz () nq trivial Z ⟨Z,Z,Z,Z,Z,Z,nm⟩
   ·have hA1:A1=[]:=m7 T;subst hA1;have e9:P++([]++(B1++(A2++(B2++R))))=P++(stC ([]++B1)++(A2++(B2++R))):=by rw[mi,mi,Gl sB1]
    rw[e9];refine ze (id:=41) ((ZbA∘ZbU∘Zae) ?_);exact jz () nq trivial Z ⟨Z,Z,Z,Z,Z,Z,nm⟩
  case rest2=>
  rintro _ _;by_cases h1:mid<en
  ·by_cases h2:en<e
   ·refine Ze (h:=?_);refine ze (id:=43) ((Zb∘ZN∘Z3∘ZN∘Zh∘Zw) ?_);refine ze (id:=44) ((Zb∘Z3) ?_);refine qe (yx L 900 (xc b (((P++stC (A1++B1))++(stC (A2++B2)++R)).flatMap ccs++rest) tyC) (r:=xc b (((P++stC (A1++B1))++(A2++(B2++R))).flatMap ccs++rest) tyC) Z Z Z Z Z (fun u H C hH _ hr hC=>(by have h:=ih (cap:=cap) (a:=mid) (mm:=en) (e:=e) T (by rw[nr];omega) T T T T sA2 sB2 hlen3 hm1 hH hr hC;exact h))) ?_;refine Zac (h:=?_);rw[e4];exact xu L 900 (r:=xc b _ tyC) Z (fun _ _ h=>h) nq Z Z
   ·have hB2:B2=[]:=m7 T;subst hB2;have e9:(P++stC (A1++B1))++(A2++([]++R))=P++((stC (A1++B1)++stC (A2++[]))++R):=by rw[mo,Gl sA2];simp
    rw[e9];refine Ze (h:=?_);refine ze (id:=43) ((Zb∘ZN∘Z3∘ZJ∘Zh∘Zae) ?_);exact xu L 900 (r:=xc b _ tyC) Z (fun _ _ h=>h) nq Z Z
  ·have hA2:A2=[]:=m7 T;subst hA2;have e9:(P++stC (A1++B1))++([]++(B2++R))=P++((stC (A1++B1)++stC ([]++B2))++R):=by rw[mi,mi,Gl sB2];simp
   rw[e9];refine Ze (h:=?_);refine ze (id:=43) ((ZbA∘ZbU∘Zae) ?_);exact xu L 900 (r:=xc b _ tyC) Z (fun _ _ h=>h) nq Z Z
end Go.V.L8
namespace Go.V.L8
open Go.V.L2 Go.V.L3 Go.V.L6
abbrev chC(n:Nat)(l:List CH):List CH:=chL (fun c:CH=>c.1) ku n l
def Bw(hn:0<n)(l:List CH):chC n l=stC (l.take n)++chC n (l.drop n):=Hz hn l
def An(hn:0<n)(h:l.length<=n):chC n l=stC l:=ziz hn h
def zi0(hn:0<n)(l:List CH):(chC n l).length=l.length:=za3 cmpT_ord hn l.length (nu _)
def Vt(X Y:List CH):stC (stC X++stC Y)=stC (X++Y):=zcn cmpT_ord X Y
def Bj(X:List CH):zjo (stC X):=(uu cmpT_ord X).1
attribute [local irreducible] V N X VO Par StepOK Has Ret RetL RetO RetT kx Src
def zco(hm:l.length=m)(hm1:m<=100000)(hB:zth B w)
  (hr:(xc b (l.flatMap ccs++rest) tyC).P B w C) (hC:ZCB C w B):
  kx zti 281 [.slice (some ⟨b,0,none⟩) m cap,.int .i64 m,C9] w B C (xc b ((stC l).flatMap ccs++rest) tyC):=by
 unfold kx;refine xa 900 (xc b (l.flatMap ccs++rest) tyC) Tryz.func281 Z Tryz.ntmps281 (np Z) hB hr hC ?_;rw[xd];refine(Z4∘Za∘ZaS∘Zam) ?_
 refine xm (fun s:Nat×List CH=>[(0,.is (.slice (some ⟨b,0,none⟩) m cap)),(1,.is (.int .i64 m)),(2,.is C9),(6,.is (.int .i64 20)),(7,.is (.int .i64 s.1)),(8,.is (.int .i64 (s.1+20:Nat))),(900,.own (xp b ((s.2++l.drop s.1).flatMap ccs++rest) tyC))])
  (fun s=>s.2.length=s.1/\s.1<=m/\s.2++chC 20 (l.drop s.1)=chC 20 l) (fun s=>m-s.1) (0,[]) ⟨rfl,mc _,rfl⟩ ⟨rfl,rfl,rfl,rfl,rfl,rfl,rfl,nm⟩ ?_
 rintro⟨a,S1⟩ ⟨h1,h2,h3⟩;dsimp only at h1 h2 h3 |-;have hdl:(l.drop a).length=m-a:=by rw[m6,hm]
 by_cases hlt:a+20<=m
 ·have e0:S1++l.drop a=S1++((l.drop a).take 20++(l.drop a).drop 20):=by rw[zpb]
  have e1:S1++(stC ((l.drop a).take 20)++(l.drop a).drop 20)=(S1++stC ((l.drop a).take 20))++l.drop (a+20):=by rw[zqp,mn]
  have hlen:(S1++((l.drop a).take 20++(l.drop a).drop 20)).length=m:=by rw[<-e0,nr];omega
  have ltk:((l.drop a).take 20).length=20:=by rw[mg];omega
  have a1:IntKind.i64.wrap (((a+20:Nat):Int)+20)=((a+20+20:Nat):Int):=xb T T;rw[e0];refine(Zf∘ZaR∘ZcF∘ZbO∘Zc8∘Zb) ?_;refine qe (yx L 900 (xc b ((S1++(stC ((l.drop a).take 20)++(l.drop a).drop 20)).flatMap ccs++rest) tyC) (r:=xc b ((S1++((l.drop a).take 20++(l.drop a).drop 20)).flatMap ccs++rest) tyC) Z Z Z Z Z (fun u H C hH _ hr hC=>(by have h:=ins_ret (cap:=cap) (a:=a) (e:=a+20) h1 T hlen hm1 hH hr hC;exact h))) ?_;refine(Zi∘Z0∘Zc∘Zt∘Zb∘Z7∘Zai) ?_;rw[e1]
  exact ym (x:=(a,S1)) (a+20,S1++stC ((l.drop a).take 20)) ⟨by dsimp only;rw[List.length_append,aa];omega,hlt,by
   dsimp only;rw[<-h3,Bw T (l.drop a),List.drop_drop,List.append_assoc]⟩ G ⟨rfl,rfl,rfl,rfl,rfl,rfl,rfl,nm⟩
 ·have e0:S1++l.drop a=S1++(l.drop a++[]):=by rw[mo]
  have e1:S1++(stC (l.drop a)++[])=chC 20 l:=by rw[mo,<-h3,An T T]
  have hlen:(S1++(l.drop a++[])).length=m:=by rw[<-e0,nr];omega
  rw[e0];refine(Zf∘ZaR∘Zc7∘Zas∘Zs∘Zbt) ?_;refine qe (yx L 900 (xc b ((S1++(stC (l.drop a)++[])).flatMap ccs++rest) tyC) (r:=xc b ((S1++(l.drop a++[])).flatMap ccs++rest) tyC) Z Z Z Z Z (fun u H C hH _ hr hC=>(by have h:=ins_ret (cap:=cap) (a:=a) (e:=m) h1 T hlen hm1 hH hr hC;exact h))) ?_;refine Zdl (h:=?_);rw[e1];clear e0 e1 hlen hlt hdl h1 h2 h3;refine xm (fun s:Nat=>[(0,.is (.slice (some ⟨b,0,none⟩) m cap)),(1,.is (.int .i64 m)),(2,.is C9),(6,.is (.int .i64 s)),(900,.own (xp b ((chC s l).flatMap ccs++rest) tyC))]) (fun s=>0<s/\s<=20+2*m) (fun s=>m-s) 20 ⟨by omega,by omega⟩ ⟨Z,Z,Z,Z,Z,nm⟩ ?_;rintro s ⟨hs0,hs1⟩;by_cases hsm:s<m
  ·refine(Zf∘Zco∘ZbD∘ZcL∘ZaQ∘Zec∘ZaS∘Zam) ?_
   refine xm (fun t:Nat×List CH=>[(0,.is (.slice (some ⟨b,0,none⟩) m cap)),(1,.is (.int .i64 m)),(2,.is C9),(6,.is (.int .i64 s)),(7,.is (.int .i64 t.1)),(8,.is (.int .i64 (t.1+2*s:Nat))),(900,.own (xp b ((t.2++chC s (l.drop t.1)).flatMap ccs++rest) tyC))])
    (fun t=>t.2.length=t.1/\t.1<=m/\t.2++chC (2*s) (l.drop t.1)=chC (2*s) l) (fun t=>m-t.1) (0,[]) ⟨rfl,Nat.zero_le _,rfl⟩ ⟨rfl,rfl,rfl,rfl,rfl,by dsimp only;rw[Nat.zero_add];rfl,rfl,trivial⟩ ?_
   rintro⟨a,S1⟩ ⟨h1,h2,h3⟩;dsimp only at h1 h2 h3 |-;have hdl:(l.drop a).length=m-a:=by rw[m6,hm]
   have hcs:=Bw hs0 (l.drop a);by_cases hlt:a+2*s<=m
   ·have hcs2:=Bw hs0 ((l.drop a).drop s)
    have e0:S1++chC s (l.drop a)=S1++(stC ((l.drop a).take s)++(stC (((l.drop a).drop s).take s)++chC s (l.drop (a+2*s)))):=by
     rw[hcs,hcs2,zqp,zqp,show a+s+s=a+2*s by omega]
    have ht2:(l.drop a).take (2*s)=(l.drop a).take s++((l.drop a).drop s).take s:=by rw[show 2*s=s+s by omega,List.take_add]
    have e1:S1++(stC (stC ((l.drop a).take s)++stC (((l.drop a).drop s).take s))++chC s (l.drop (a+2*s)))=(S1++stC ((l.drop a).take (2*s)))++chC s (l.drop (a+2*s)):=by rw[Vt,<-ht2,mn]
    have l1:(stC ((l.drop a).take s)).length=s:=by rw[aa,mg];omega
    have l2:(stC (((l.drop a).drop s).take s)).length=s:=by rw[aa,mg,m6];omega
    have l3:(chC s (l.drop (a+2*s))).length=m-(a+2*s):=by rw[zi0 hs0,m6,hm]
    have hlen:(S1++(stC ((l.drop a).take s)++(stC (((l.drop a).drop s).take s)++chC s (l.drop (a+2*s))))).length=m:=by simp only[nr];omega
    have a1:IntKind.i64.wrap ((a:Int)+(s:Int))=((a+s:Nat):Int):=xb T T;have a2:IntKind.i64.wrap (((a+2*s:Nat):Int)+2*(s:Int))=((a+2*s+2*s:Nat):Int):=xb T T;rw[e0];refine(Zf∘ZM∘Zb∘ZcF∘ZbO∘ZI∘Zbt∘Z7∘Zb) ?_;refine qe (yx L 900 (xc b ((S1++(stC (stC ((l.drop a).take s)++stC (((l.drop a).drop s).take s))++chC s (l.drop (a+2*s)))).flatMap ccs++rest) tyC) (r:=xc b ((S1++(stC ((l.drop a).take s)++(stC (((l.drop a).drop s).take s)++chC s (l.drop (a+2*s))))).flatMap ccs++rest) tyC) Z Z Z Z Z (fun u H C hH _ hr hC=>(by have h:=Vm _ (cap:=cap) (a:=a) (mm:=a+s) (e:=a+2*s) (nu _) h1 T T T T (Bj _) (Bj _) hlen hm1 hH hr hC;exact h))) ?_;refine(Zi∘ZY∘Za∘Zc∘Zaa∘Zb∘ZdH∘Zai) ?_;rw[e1]
    exact ym (x:=(a,S1)) (a+2*s,S1++stC ((l.drop a).take (2*s))) ⟨by dsimp only;rw[List.length_append,aa,List.length_take];omega,hlt,by
     dsimp only;rw[<-h3,Bw T (l.drop a),List.drop_drop,List.append_assoc]⟩ G ⟨rfl,rfl,rfl,rfl,rfl,rfl,rfl,nm⟩
   ·have a1:IntKind.i64.wrap ((a:Int)+(s:Int))=((a+s:Nat):Int):=xb T T;have a2:IntKind.i64.wrap ((s:Int)*2)=((2*s:Nat):Int):=xb T T |>.trans T;by_cases hlm:a+s<m
    ·have e0:S1++chC s (l.drop a)=S1++(stC ((l.drop a).take s)++(stC ((l.drop a).drop s)++[])):=by
      rw[hcs,An hs0 (l:=(l.drop a).drop s) (by rw[m6];omega),mo]
     have e1:S1++(stC (stC ((l.drop a).take s)++stC ((l.drop a).drop s))++[])=chC (2*s) l:=by
      rw[Vt,zpb,mo,<-h3,An (n:=2*s) T T]
     have l1:(stC ((l.drop a).take s)).length=s:=by rw[aa,mg];omega
     have l2:(stC ((l.drop a).drop s)).length=m-a-s:=by rw[aa,m6];omega
     have hlen:(S1++(stC ((l.drop a).take s)++(stC ((l.drop a).drop s)++[]))).length=m:=by simp only[nr,mz];omega
     rw[e0];refine(Zf∘ZM∘Zb∘Zc7∘Zas∘Ze∘Zak∘Zb∘Z7∘Zd∘Za5∘Zb∘ZbD∘Zao∘Zb∘Z3) ?_;refine qe (yx L 900 (xc b ((S1++(stC (stC ((l.drop a).take s)++stC ((l.drop a).drop s))++[])).flatMap ccs++rest) tyC) (r:=xc b ((S1++(stC ((l.drop a).take s)++(stC ((l.drop a).drop s)++[]))).flatMap ccs++rest) tyC) Z Z Z Z Z (fun u H C hH _ hr hC=>(by have h:=Vm _ (cap:=cap) (a:=a) (mm:=a+s) (e:=m) (nu _) h1 T T T T (Bj _) (Bj _) hlen hm1 hH hr hC;exact h))) ?_;refine(ZF∘Zar∘Za) ?_;refine z7 (Xv Z Z Z Z a2) Z (Zai (h:=?_));rw[e1];exact ym (x:=s) (2*s) ⟨by omega,by omega⟩ T ⟨Z,Z,Z,Z,Z,nm⟩
    ·have e1:S1++chC s (l.drop a)=chC (2*s) l:=by
      rw[<-h3,An hs0 T,An (n:=2*s) T T]
     rw[e1];refine(Zf∘ZM∘Zb∘Zc7∘Zas∘Ze∘Zak∘Zb∘Z7∘Zd∘Za5∘ZbA∘Zae∘Zbi∘Zar∘Za) ?_;refine z7 (Xv Z Z Z Z a2) Z (Zai (h:=?_));exact ym (x:=s) (2*s) ⟨by omega,by omega⟩ T ⟨Z,Z,Z,Z,Z,nm⟩
  ·rw[An hs0 T];refine(Zf∘ZC∘ZbA∘ZaL∘ZaD) ?_;exact xu L 900 (r:=xc b _ tyC) Z (fun _ _ h=>h) nq Z Z
abbrev SSF:Nat:=254
def Vx(hm:l.length=m)(hm1:m<=100000)(hB:zth B w)
  (hr:(xc b (l.flatMap ccs++rest) tyC).P B w C) (hC:ZCB C w B):
  kx zti SSF [.slice (some ⟨b,0,none⟩) m cap,C9] w B C (xc b ((stC l).flatMap ccs++rest) tyC):=by
 unfold kx;refine xa 900 (xc b (l.flatMap ccs++rest) tyC) Tryz.func254 Z Tryz.ntmps254 (np Z) hB hr hC ?_;rw[xd];refine(Zfl∘Zb∘ZcA∘Za) ?_;refine qe (yx L 900 (xc b ((stC l).flatMap ccs++rest) tyC) (r:=xc b (l.flatMap ccs++rest) tyC) Z Z Z Z Z (fun u H C hH _ hr hC=>(by have h:=zco (cap:=cap) hm hm1 hH hr hC;exact h))) ?_;refine Zac (h:=?_);exact xu L 900 (r:=xc b _ tyC) Z (fun _ _ h=>h) nq Z Z
def zdy(hB:zth B w):Ret zti 291 [.slice none 0 0,.int .i64 0,.int .i64 0,C9] w B (fun _ _=>True):=by
 refine yn Tryz.func291 Z Tryz.ntmps291 (np Z) hB ((ZP∘Za∘ZaI∘ZaJ) ?_);refine xm (fun _:Nat=>[(2,.is (.int .i64 0)),(8,.is (.int .i64 1))]) (fun _=>True) (fun s=>s) 0 trivial ⟨Z,Z,nm⟩ ?_;rintro s _;refine(Zf∘ZE∘ZbA∘ZaL∘ZaD) ?_;exact zbm L Z (fun _ _ h=>h) nq
def Vs(hB:zth B w):Ret zti 281 [.slice none 0 0,.int .i64 0,C9] w B (fun _ _=>True):=by
 refine yn Tryz.func281 Z Tryz.ntmps281 (np Z) hB ((Z4∘Za∘ZaS∘Zam) ?_);refine xm (fun _:Nat=>[(0,.is (.slice none 0 0)),(1,.is (.int .i64 0)),(2,.is C9),(6,.is (.int .i64 20)),(7,.is (.int .i64 0)),(8,.is (.int .i64 20))]) (fun _=>True) (fun s=>s) 0 trivial ⟨Z,Z,Z,Z,Z,Z,nm⟩ ?_;rintro s _;refine(Zf∘ZaR∘Zc7∘Zas∘Zs∘Zbt) ?_;refine z7 (xg (φ:=fun _ _=>True) L Z Z (zm Z) Z Z Z (fun _ _ _ _ _=>trivial) (fun u H hH _ _=>zdy hH)) Z (Zdl (h:=?_));refine xm (fun _:Nat=>[(1,.is (.int .i64 0)),(6,.is (.int .i64 20))]) (fun _=>True) (fun s=>s) 0 trivial ⟨Z,Z,nm⟩ ?_;rintro s _;refine(Zf∘ZC∘ZbA∘ZaL∘ZaD) ?_;exact zbm L Z (fun _ _ h=>h) nq
def Td(hB:zth B w):Ret zti SSF [.slice none 0 0,C9] w B (fun _ _=>True):=by
 refine yn Tryz.func254 Z Tryz.ntmps254 (np Z) hB ((Zfl∘Zb∘ZcA∘Za) ?_);refine z7 (xg (φ:=fun _ _=>True) L Z Z (zm Z) Z Z Z (fun _ _ _ _ _=>trivial) (fun u H hH _ _=>Vs hH)) Z (Zac (h:=?_));exact zbm L Z (fun _ _ h=>h) nq
def _root_.ZdW(t:Wr Y->A:=by intro h;refine z8 (Dc Z Z Z Z (ng T)) Z ?_;exact h.1)(h:Y):A:=t ⟨h⟩
def _root_.Zek(t:Wr Y->A:=by intro h;refine z8 (yk L Z Z Z Z) Z ?_;exact h.1)(h:Y):A:=t ⟨h⟩
def _root_.Zf3(t:Wr Y->A:=by intro h;refine z8 (Dc Z Z Z Z (nf T)) Z ?_;exact h.1)(h:Y):A:=t ⟨h⟩
def _root_.ZfD(t:Wr Y->A:=by intro h;refine Zk (h:=?_);refine qe (w7 L Z Z Z (Na Z) Z zml M M T T) ?_;exact h.1)(h:Y):A:=t ⟨h⟩
def zdv(l:List CH):an (stC l)=Dk l:=Y7 (uu cmpT_ord l)
def Mt:∀ (l:List CH),(an l).length<=l.length
 | []=>nu _
 | [c]=>nu _
 | c::d::r=>by
  show(if ku c.1 d.1=0 then an (d::r) else c::an (d::r)).length<=_;have:=Mt (d::r);split
  ·simp only[nz] at this |-;omega
  ·simp only[nz] at this |-;omega
def Up(hz:l.length<=100000)(hB:zth B w)(hv:KS tyC l fu v B):
  RetO zti 252 [v] w B (SlR tyC 7 l.length (l.flatMap ccs)):=by
 have hv0:=hv;have hlen:=D4 l;have hpl:=Rx l;obtain⟨p,c,rfl⟩:=jh hv;rcases p with _ | b
 ·obtain⟨h0,rfl⟩:l.length=0/\c=0:=Gn hv;have hn:l=[]:=m7 h0;subst hn;refine wz Tryz.func252 Z Tryz.ntmps252 (np Z) hB (ZbT (h:=?_));refine z7 (u0 Z Z Z Z zn5 Z) Z ((Zcj∘Zc) ?_);exact ui 2 tyC 7 rfl (p9 Z (fun _ _ h=>h) nq Z)
 ·refine wz Tryz.func252 Z Tryz.ntmps252 (np Z) hB (ZbT (h:=?_));refine z7 (u0 Z Z Z Z zn5 Z) Z (Zm (h:=?_));refine k8 0 (KS tyC l fu) Z ns hv0 (ZK (h:=?_));refine z7 (cp L Z Z Z Z Z) Z (ZfD (h:=?_));refine qe (yr (.inr Z) Z) (ZF (h:=?_));rw[zpc,mi];exact p9 Z (fun _ _ h=>h) nq Z
def Pk{m:List CH}(hm:Dk l=m)(hz:l.length<=50000)(hB:zth B w)(hv:KS tyC l fu v B):
  Ret zti 201 [v] w B (KS tyC m true):=by
 subst hm;have hsl:=aa l;refine yn Tryz.func201 Z Tryz.ntmps201 (np Z) hB (k8 0 (KS tyC l fu) Z ns hv ((Z4∘Zk) ?_));refine z7 (wh L Z Z (zm Z) Z Z Z (fun u H hH _ _ v1 hv1=>Up T hH hv1)) Z (qe (yr (.inr Z) Z) ((Zi∘Z9∘Zd) ?_));refine Ar 3 900 rfl (fun h0 hn=>?_) fun b cap rest hl hmc hcm hcl=>?_
 ·have hl0:l=[]:=m7 h0;subst hl0;refine Zc8 (h:=?_);refine z7 (xg (φ:=fun _ _=>True) L Z Z (zm Z) Z Z Z (fun _ _ _ _ _=>trivial) (fun u H hH _ _=>Td hH)) Z (Zi (h:=?_));refine k8 3 (KS tyC [] false) Z ns SlV.nil ((Z2∘Zk) ?_);refine z7 (jp L (kl:=.i64) (pl:=0) 0 0 true Z Z Z Z Z Z ⟨rfl,rfl⟩ ⟨rfl,rfl⟩ E E Z) Z ((Zat∘Zan∘Zt∘Zg∘ZaW) ?_);refine xm (fun _:Nat=>[(5,.sat (KS tyC [] true)),(15,.sat (KS tyC [] false)),(16,.is (.int .i64 0)),(17,.is (.int .i64 0))]) (fun _=>True) (fun s=>s) 0 trivial ⟨Z,Z,Z,Z,nm⟩ ?_;rintro s _;refine(Zbn∘Zav∘ZY∘Zk∘Zg∘Zg∘ZdO∘Zcp) ?_;refine yj1 L [.tmp 2] fun u H hH hle=>?_;exact fun v hv=>hv
 ·refine Zc8 (h:=?_);refine qe (yx L 900 (xc b ((stC l).flatMap ccs++rest) tyC) (r:=xc b (l.flatMap ccs++rest) tyC) Z Z Z Z Z (fun u H C hH _ hr hC=>(by have h:=Vx (cap:=cap) Z T hH hr hC;exact h))) ?_;refine Zi (h:=?_)
  refine fz (xs:=(stC l).flatMap ccs) (rest:=rest) (s:=7) 3 900 rfl Z Z (by rw[D4,hsl]) hmc hcm (by
   rw[nr] at hcl |-;rw[D4] at hcl |-;rw[hsl];exact hcl) ?_
  rw[<-hsl];have hkn:=zdv l;have hkl:=Mt (stC l);rw[<-hkn];generalize stC l=S at *;refine uq 3 rfl ((Z2∘Zk) ?_);refine z7 (jp L (kl:=.i64) (pl:=0) 0 0 true Z Z Z Z Z Z ⟨rfl,rfl⟩ ⟨rfl,rfl⟩ T T Z) Z ((Zat∘Zan∘Zt∘Zg∘ZaW) ?_);refine Nf 5 (SlV tyC 7 [] 0 true) Z ns (fun v H h=>h) (znr 5 rfl (xm (fun i:Nat×List CH=>[(3,.sat (KS tyC S false)),(4,.is C9),(5,.own (SlG tyC 7 i.2.length (i.2.flatMap ccs))),(15,.sat (KS tyC S false)),(16,.is (.int .i64 S.length)),(17,.is (.int .i64 i.1))]) (fun i=>i.1<=S.length/\i.2.length<=i.1/\i.2++an (S.drop i.1)=an S) (fun i=>S.length-i.1) (0,[]) ⟨mc _,nu _,rfl⟩ ⟨Z,Z,Z,Z,Z,Z,nm⟩ ?_));rintro⟨i,kp⟩ ⟨h1,h2,h3⟩;dsimp only at h1 h2 h3 |-;by_cases hlt:i<S.length
  ·obtain⟨c,hc0⟩:=xk hlt;have hc:=El hc0;have hst:=Ud hc0;have a1:IntKind.i64.wrap ((i:Int)+1)=((i+1:Nat):Int):=xb T T;by_cases hlast:i+1<S.length
   ·obtain⟨d,hd0⟩:=xk hlast;have hd:=El hd0;rw[hd0] at hst;dsimp only at hst;by_cases heq:ku c.1 d.1=0
    ·rw[na heq,mi] at hst;refine(Zbn∘Z6∘Z8∘Zau∘Zdy∘ZZ∘Zo∘Zbd∘Zi∘ZcH∘Zl∘Zcf∘Zab∘Zek∘Zc2∘Zn) ?_;refine z8 (zw L (vs:=[_,_,_,_,_,_,_]) (y9 Z) Z Z Z Z ⟨_,rfl⟩) Z ((Zep∘Zcf∘Zdn) ?_);refine z8 (yi L (vs:=[_,_,_,_,_,_,_]) Z Z Z Z Z ⟨_,rfl⟩) Z (z81 L Z (fun u H hH _=>f5 hH) ?_);refine(ZdW∘Za3∘Zda∘ZaE∘ZI∘Z7∘Zc1) ?_;exact ym (x:=(i,kp)) (i+1,kp) ⟨hlt,by dsimp only;omega,by dsimp only;rw[<-hst];exact h3⟩ G ⟨Z,Z,Z,Z,Z,Z,trivial⟩
    ·rw[nc heq] at hst;refine(Zbn∘Z6∘Z8∘Zau∘Zdy∘ZZ∘Zo∘Zbd∘Zi∘ZcH∘Zl∘Zcf∘Zab∘Zek∘Zc2∘Zn) ?_;refine z8 (zw L (vs:=[_,_,_,_,_,_,_]) (y9 Z) Z Z Z Z ⟨_,rfl⟩) Z ((Zep∘Zcf∘Zdn) ?_);refine z8 (yi L (vs:=[_,_,_,_,_,_,_]) Z Z Z Z Z ⟨_,rfl⟩) Z (z81 L Z (fun u H hH _=>f5 hH) ?_);refine(Zf3∘Zcc∘ZM) ?_;refine qe (yr (.inl Z) Z) ((ZdC∘ZV) ?_);refine qe (E9 L E Z Z Z (rf Z) Z zml Z Z T T) (qe (yr (.inr Z) Z) ((Zax∘ZI∘Z7∘Zc1) ?_));exact ym (x:=(i,kp)) (i+1,kp++[c]) ⟨hlt,by dsimp only;rw[List.length_append,List.length_singleton];omega,by dsimp only;rw[List.append_assoc,<-hst];exact h3⟩ G ⟨Z,Z,by dsimp only;rw[List.flatMap_append,List.length_append];rfl,Z,Z,Z,trivial⟩
   ·have hend:i+1=S.length:=T;rw[zpd T] at hst;dsimp only at hst;refine(Zbn∘Z6∘Z8∘Zau∘Zdy∘ZZ∘Zo∘Zbd∘Zi∘ZcH∘Zl∘Zcf∘Zab∘Zek∘Zde∘ZbH∘Zcq∘Zcc∘ZM) ?_;refine qe (yr (.inl Z) Z) ((ZdC∘ZV) ?_);refine qe (E9 L E Z Z Z (rf Z) Z zml Z Z T T) (qe (yr (.inr Z) Z) ((Zax∘ZI∘Z7∘Zc1) ?_));exact ym (x:=(i,kp)) (i+1,kp++[c]) ⟨hlt,by dsimp only;rw[List.length_append,List.length_singleton];omega,by dsimp only;rw[List.append_assoc,<-hst];exact h3⟩ G ⟨Z,Z,by dsimp only;rw[List.flatMap_append,List.length_append];rfl,Z,Z,Z,trivial⟩
  ·rw[zpi T,show an []=[] from rfl,mo] at h3;subst h3;refine zl5 5 rfl ((Zbn∘Zav∘ZY∘Zk∘Zg∘Zg∘ZdO∘Zcp) ?_);refine yj1 L [.tmp 2] fun u H hH hle=>?_;exact fun v hv=>hv
end Go.V.L8
namespace Go.V.L2
abbrev fWo:Bool->Bool->Bool:=fun _ b=>!b
attribute [local irreducible] V N X VO Par StepOK Has Ret RetL RetO Src
def zif(p q:Bool)(w:World)(B:Heap)(hB:zth B w):Ret zti 251 [.bool p,.bool q] w B (fun v _=>v=.bool (fWo p q)):=by
 refine yn Tryz.func251 Z Tryz.ntmps251 (np Z) hB ((Z4∘Za∘Zr∘Zc) ?_);exact yj2 L [.tmp 4]
def Aw{l m:List U}{fa fb:Bool}{r:List U×Int}(hr:zk4 fWo l m=r)(hB:zth B w)(hv:US l fa v B)(hv2:US m fb v2 B):Ret zti 200 [v,v2] w B (LE r):=by
 refine yn Tryz.func200 Z Tryz.ntmps200 (np Z) hB (k8 0 (US l fa) Z ns hv (k8 1 (US m fb) Z ns hv2 ((Zb2∘Zag∘Zk∘Zk) ?_)));refine z7 (xg (φ:=LE r) L Z Z (zm Z) Z Z Z LE.mono (fun u H hH _ _ v1 h1 v2 h2=>Ym Z zif hr hH h1 h2)) Z (z7 (o6 Z Z Z Z ns) Z ((ZcC∘Zat∘Zc) ?_));refine yj1 L [.tmp 4,.tmp 5] fun u H hH hle=>?_;exact fun v hv=>S5 hv
end Go.V.L2
namespace Go.V.L8
open Go.V.L2 Go.V.L3 Go.V.L6
def D9(a b:List U):List CH:=(ox a b true false true).map fun t=>(t,decide (t∈a))
def zmm(a b:List U):List CH:=Dk ((g9 ku fWo (a.length+b.length) a b).map (fun t=>(t,true))++(g9 ku fWo (b.length+a.length) b a).map (fun t=>(t,false)))
def Y3(a b:List CH)(t:U):fq (a++b) t=(fq b t).or (fq a t):=by
 induction a with
 | nil=>rw[mi,Y2];cases fq b t<;>rfl
 | cons c r ih=>
  rw[zpq,fm,fm,ih];cases fq b t<;>cases fq r t<;>rfl
def Mr(h:Ng l){t:U}{c:CH}:fq l t=some c↔c∈l/\c.1=t:=by
 constructor
 ·exact fun h1=>⟨(pu h1).2,(pu h1).1⟩
 ·rintro⟨hc,rfl⟩
  obtain⟨d,hd⟩:∃ d,fq l c.1=some d:=by
   cases hk:fq l c.1 with
   | some d=>exact⟨d,rfl⟩
   | none=>exact ni rfl (bi.1 hk c hc)
  obtain⟨h1,h2⟩:=pu hd;rw[hd];have hp:=se h;obtain⟨i,hi⟩:=zp1 hc;obtain⟨j,hj⟩:=zp1 h2;obtain⟨hi',rfl⟩:=zqc.1 hi;obtain⟨hj',rfl⟩:=zqc.1 hj;have hp':=zqz.1 hp;rcases zsm i j with g | g | g
  ·exact ni h1.symm (hp' i j hi' hj' g)
  ·subst g;rfl
  ·exact ni h1 (hp' j i hj' hi' g)
def Qo{a b:List U}{t:U}:t∈ox a b true false true↔((t∈a/\t∉b)\/(t∉a/\t∈b)):=by
 unfold ox;rw[r5,zpg,mh];unfold du;by_cases h1:t∈a<;>by_cases h2:t∈b<;>simp [h1,h2]
def H8(a b:List U):Ng (D9 a b):=by
 unfold Ng D9;rw[zri];have:((fun x:CH=>x.1)∘fun t:U=>(t,decide (t∈a)))=id:=rfl;rw[this,zsb];exact Lb _
def uy{a b:List U}{c:CH}:c∈D9 a b↔((c.1∈a/\c.1∉b)\/(c.1∉a/\c.1∈b))/\c.2=decide (c.1∈a):=by
 unfold D9;rw[zo9];constructor
 ·rintro⟨t,ht,rfl⟩;exact⟨Qo.1 ht,rfl⟩
 ·rintro⟨h1,h2⟩;exact⟨c.1,Qo.2 h1,Prod.ext rfl h2.symm⟩
def P3{a b:List U}(ha:Sst ku a)(hb:Sst ku b){t:U}:t∈g9 ku fWo (a.length+b.length) a b↔t∈a/\t∉b:=by
 rw[g0 cmpT_ord fWo (nu _) ha hb];unfold Tk;by_cases h1:t∈a<;>by_cases h2:t∈b<;>simp [h1,h2]
def zi5{a b:List U}(ha:Sst ku a)(hb:Sst ku b):zmm a b=D9 a b:=Ye (Mh _) (H8 a b) fun c=>by
 unfold zmm;rw[Mi,uy,Y3]
 have h1:fq ((g9 ku fWo (b.length+a.length) b a).map fun t=>(t,false)) c.1=if c.1∈b/\c.1∉a then some (c.1,false) else none:=by
  by_cases h:c.1∈b/\c.1∉a
  ·rw[na h]
   have hn:Ng ((g9 ku fWo (b.length+a.length) b a).map fun t=>(t,false)):=by
    unfold Ng;rw[zri];have:((fun x:CH=>x.1)∘fun t:U=>(t,false))=id:=rfl;rw[this,zsb];exact ae cmpT_ord fWo (nu _) hb ha
   exact(Mr hn).2 ⟨zo9.2 ⟨c.1,(P3 hb ha).2 h,rfl⟩,rfl⟩
  ·rw[nc h,bi];intro d hd e;obtain⟨t,ht,rfl⟩:=zo9.1 hd;exact h (e ▸ (P3 hb ha).1 ht)
 have h2:fq ((g9 ku fWo (a.length+b.length) a b).map fun t=>(t,true)) c.1=if c.1∈a/\c.1∉b then some (c.1,true) else none:=by
  by_cases h:c.1∈a/\c.1∉b
  ·rw[na h]
   have hn:Ng ((g9 ku fWo (a.length+b.length) a b).map fun t=>(t,true)):=by
    unfold Ng;rw[zri];have:((fun x:CH=>x.1)∘fun t:U=>(t,true))=id:=rfl;rw[this,zsb];exact ae cmpT_ord fWo (nu _) ha hb
   exact(Mr hn).2 ⟨zo9.2 ⟨c.1,(P3 ha hb).2 h,rfl⟩,rfl⟩
  ·rw[nc h,bi];intro d hd e;obtain⟨t,ht,rfl⟩:=zo9.1 hd;exact h (e ▸ (P3 ha hb).1 ht)
 rw[h1,h2];obtain⟨x,d⟩:=c;dsimp only;by_cases ha':x∈a<;>by_cases hb':x∈b<;>cases d<;>simp [ha',hb']
def H9(a b:List U):(D9 a b).length<=a.length+b.length:=by
 unfold D9 ox;rw[my];refine mp (A0 _) (mp (zqu _ _) ?_);rw[nr];exact nu _
attribute [local irreducible] V N X VO Par StepOK Has Ret RetL RetO RetT kx Src
def zfb(a b:List U):(g9 ku fWo (a.length+b.length) a b).length<=a.length+b.length:=fk _ _ _ (nu _)
def Yi{a b:List U}(la:a.length<=4096)(lb:b.length<=4096)(sa:Sst ku a)(sb:Sst ku b):zk4 fWo a b=(g9 ku fWo (a.length+b.length) a b,0):=by
 unfold zk4;have h1:isB a=true:=nf sa;have h2:isB b=true:=nf sb;rw[nc T,h1,h2,na E]
def M3{a b:List U}{m:List CH}(la:a.length<=4096)(lb:b.length<=4096)(sa:Sst ku a)(sb:Sst ku b)(hr:zmm a b=m){av bv:Value}(hB:zth B w)(ha:SetV a av B)(hb:SetV b bv B):
  Ret zti 144 [av,bv] w B (KS tyC m true):=by
 subst hr;obtain⟨f1,p1,k1,q1,rfl,hp1⟩:=ha.shape;obtain⟨f2,p2,k2,q2,rfl,hp2⟩:=hb.shape;have w1:=Yi la lb sa sb;have w2:=Yi lb la sb sa;have l1:=zfb a b;have l2:=zfb b a;have hbp:zmm a b=Dk ((g9 ku fWo (a.length+b.length) a b).map (fun t=>(t,true))++(g9 ku fWo (b.length+a.length) b a).map (fun t=>(t,false))):=rfl;rw[hbp];generalize g9 ku fWo (a.length+b.length) a b=ztf at *;generalize g9 ku fWo (b.length+a.length) b a=K at *;have mG:Kn.mono (.sat (US ztf true)):=ns;have mK:Kn.mono (.sat (US K true)):=ns;refine yn Tryz.func144 Z Tryz.ntmps144 (np Z) hB ((Zaj∘Zd∘ZbV∘Zd7) ?_);refine z8 (xg (φ:=US a true) L Z Z (zm Z) Z Z Z ns (fun u H hH hle _=>c7 T hH (ha.le hle))) Z (Zd7 (h:=?_));refine z8 (xg (φ:=US b true) L Z Z (zm Z) Z Z Z ns (fun u H hH hle _=>c7 T hH (hb.le hle))) Z ((Zc4∘Zc4∘ZaZ∘Z9∘Zk∘Zk) ?_);refine z7 (xg (φ:=LE (ztf,0)) L Z Z (zm Z) Z Z Z LE.mono (fun u H hH _ _ v1 h1 v2 h2=>Aw w1 hH h1 h2)) Z ((Zk∘ZcW∘ZcC∘Zat∘Zd∘ZK∘Zk∘Zk) ?_);refine z7 (xg (φ:=LE (K,0)) L Z Z (zm Z) Z Z Z LE.mono (fun u H hH _ _ v1 h1 v2 h2=>Aw w2 hH h1 h2)) Z ((Zk∘ZcW∘ZcC∘Zat∘Zd∘Z2∘Zj) ?_);refine ui 11 tyC 7 rfl ((Zt∘Zg∘ZaW) ?_);refine xm (fun i:Nat=>[(9,.sat (US K true)),(11,.own (SlR tyC 7 ((ztf.take i).map fun t=>((t,true):CH)).length (((ztf.take i).map fun t=>((t,true):CH)).flatMap ccs))),(32,.sat (US ztf true)),(33,.is (.int .i64 ztf.length)),(34,.is (.int .i64 i))]) (fun i=>i<=ztf.length) (fun i=>ztf.length-i) 0 (mc _) ⟨Z,Z,Z,Z,Z,nm⟩ ?_;rintro i hi;have hli:((ztf.take i).map fun t=>((t,true):CH)).length<=8192:=by rw[my,mg];omega
 by_cases hlt:i<ztf.length
 ·obtain⟨t,ht⟩:=xk hlt;have hct:=f9 ht;have e1:((ztf.take (i+1)).map fun t=>((t,true):CH))=((ztf.take i).map fun t=>((t,true):CH))++[(t,true)]:=by rw[zpj,ht,zpo];rfl
  refine(Zbn∘Z6∘ZC∘Zau∘Za1∘Zaw∘ZF∘Zv) ?_;refine qe (yr (.inl Z) Z) ((Zay∘ZeV∘ZV∘Zdi) ?_);refine qe (yr (.inr Z) Z) ((Zax∘ZM∘ZX) ?_);exact ym (x:=i) (i+1) hlt T ⟨Z,by rw[e1];exact ft Z,Z,Z,Z,nm⟩
 ·obtain rfl:i=ztf.length:=by omega
  rw[m9];have lG:(ztf.map fun t=>((t,true):CH)).length<=8192:=by rw[my];omega
  refine(Zbn∘Zav∘Ze∘ZI∘Zg∘ZaW) ?_;refine xm (fun j:Nat=>[(11,.own (SlR tyC 7 ((ztf.map fun t=>((t,true):CH))++((K.take j).map fun t=>((t,false):CH))).length (((ztf.map fun t=>((t,true):CH))++((K.take j).map fun t=>((t,false):CH))).flatMap ccs))),(44,.sat (US K true)),(45,.is (.int .i64 K.length)),(46,.is (.int .i64 j))]) (fun j=>j<=K.length) (fun j=>K.length-j) 0 (mc _) ⟨by rw[zpv,zpk,mo];rfl,Z,Z,Z,nm⟩ ?_;rintro j hj;have hlj:((ztf.map fun t=>((t,true):CH))++((K.take j).map fun t=>((t,false):CH))).length<=16384:=by rw[nr,my,my,mg];omega
  by_cases hjl:j<K.length
  ·obtain⟨t,ht⟩:=xk hjl;have hct:=f9 ht;have e1:((ztf.map fun t=>((t,true):CH))++((K.take (j+1)).map fun t=>((t,false):CH)))=((ztf.map fun t=>((t,true):CH))++((K.take j).map fun t=>((t,false):CH)))++[(t,false)]:=by rw[zpj,ht,zpo,mn];rfl
   refine(Ze∘ZY∘Z6∘Zaa∘Zau∘Za1∘Zaw∘ZF∘Zak) ?_;refine qe (yr (.inl Z) Z) ((Zay∘ZeV∘ZV∘Zdi) ?_);refine qe (yr (.inr Z) Z) ((Zax∘Za5∘ZX) ?_);exact ym (x:=j) (j+1) hjl T ⟨by rw[e1];exact ft Z,Z,Z,Z,nm⟩
  ·obtain rfl:j=K.length:=by omega
   rw[m9];rw[m9] at hlj;refine uq 11 rfl ((Ze∘ZY∘Zav∘Zao∘Zk) ?_);refine z7 (xg (φ:=KS tyC (Dk ((ztf.map fun t=>((t,true):CH))++(K.map fun t=>((t,false):CH)))) true) L Z Z (zm Z) Z Z Z ns (fun u H hH _ _ v1 h1=>Pk Z T hH h1)) Z (Zcp (h:=?_));refine yj1 L [.tmp 4] fun u H hH hle=>?_;exact fun v hv=>hv
end Go.V.L8
namespace Go.V.L10
open Go.V.L2 Go.V.L8 Go.V.L6
def Qh(S:Sto):oj fun(x:Nat×Value×Ent) (H:Heap)=>MapOK x.2.2 S.R/\EsV x.2.2 H/\PsV (xe S.P) x.2.1 H:=fun _ _ _ ⟨h1,h2,h3⟩ hle=>⟨h1,h2.le hle,h3.le hle⟩
abbrev StG(b:Nat)(S:Sto):GR:=GEx (fun x:Nat×Value×Ent=>StO b S.R.length x.1 x.2.1 S.P.length x.2.2) (fun x H=>MapOK x.2.2 S.R/\EsV x.2.2 H/\PsV (xe S.P) x.2.1 H) (Qh S)
def Cl(b:Nat)(S:Sto):(StG b S).res=ExR (fun x:Nat×Value×Ent=>(StO b S.R.length x.1 x.2.1 S.P.length x.2.2).res) (fun x H=>MapOK x.2.2 S.R/\EsV x.2.2 H/\PsV (xe S.P) x.2.1 H) (Qh S):=rfl
def ff{es:Ent}(hm:MapOK es S.R)(hes:EsV es B)(hps:PsV (xe S.P) s B):∀ (v:Value) H u C,B.Le H->(StO b S.R.length m s S.P.length es).res.P v H u C->(StG b S).res.P v H u C:=fun _ _ _ _ hle h=>⟨(m,s,es),⟨hm,hes.le hle,hps.le hle⟩,h⟩
def EsV.snoc{es:Ent}{H:Heap}(h:EsV es H){k:Int}{t:List U}(hv:SetV t v H):EsV (es++[(k,(t,v))]) H:=fun e he=>by
 rcases mh.1 he with he | he
 ·exact h e he
 ·rw[m4.1 he];exact hv
def Qs{P:Program}{f:FuncId}{args:List Value}{r:GR}(h:RetY P f args w B C r (fun x _=>x=v)):RetX P f args w B C r v:=RetL.mono h fun _ _ _ _ hp=>hp
attribute [local irreducible] V N X VO Par StepOK Has Ret RetL RetO RetT kx RetX RetY Src
def Ew{S S':Sto}{l cs:List CH}{rev e:Int}{fl fc:Bool}(hI:zoc S)(hR:S.R.length<=100000)(hn:S.R.length≠0)(zl:∀ c∈l,TM c.1)(zc:∀ c∈cs,TM c.1)(ll:l.length<=9223372036854775807)(lc:cs.length<=9223372036854775807)(hw:B5 S l cs=(S',rev,e)){lv cv:Value}(hB:zth B w)
  (hl:KS tyM l fl lv B) (hc:KS tyC cs fc cv B) (hr:(StG b S).P B w C) (hC:ZCB C w B):
  RetY zti 82 [.pointer (some ⟨b,0,none⟩),lv,cv] w B C (StG b S') (fun v _=>v=.tuple #[.int .u64 rev,.int .i64 e]):=by
 unfold RetY;refine xa 900 (StG b S) Tryz.func82 Z Tryz.ntmps82 (np Z) hB hr hC (k8 1 (KS tyM l fl) Z ns hl (k8 2 (KS tyC cs fc) Z ns hc ?_));rw[Cl];refine v9 900 rfl fun x H hs0 hφ=>?_;obtain⟨m,s,es⟩:=x;obtain⟨hm,hes,hps⟩:=hφ;dsimp only at hm hes hps |-;obtain⟨ps,pc,rfl⟩:=jh hps;obtain⟨t0,ht0⟩:∃ t0,kpt S.R S.R.length=some t0:=zqd.1 hI.last;have hA:atS S 0=(t0,0):=by unfold atS;rw[if_pos rfl,ht0]
 have ht4:=hI.tl _ _ ht0;obtain⟨⟨t1,made,e1⟩,hwr⟩:∃ x,ef t0 l cs=x:=⟨_,rfl⟩
 unfold B5 at hw;rw[hA,hwr] at hw;dsimp only at hw;refine(Zb2∘Zb7) ?_;refine yd (vm L 900 (WithP t0 0) (r:=StO b S.R.length m _ S.P.length es) rfl rfl rfl rfl rfl WithP.mono (fun u H2 C2 hH hle hr2 hC2=>by have h:=K8 (S:=S) (r:=0) hm hn (hes.le hle) hH hr2 hC2;rw[hA] at h;exact h)) ?_;refine vk 14 rfl fun v1 H1 hs1 hp1=>?_;obtain⟨sv,rfl,hsv⟩:=hp1;obtain⟨f1,p1,f2,p2,rfl,hpl⟩:=hsv.shape;refine(ZB∘ZZ∘Zby∘Zj∘Zy∘Zb8∘Z2∘ZaH∘Zk∘Zk) ?_;refine z7 (xg L rfl rfl (zm rfl) rfl rfl rfl WriteP.mono (fun u H2 hH hle _ v1 h1 v2 h2=>write_ret zl zc ll lc ht4 hwr hH (hsv.le hle) h1 h2)) rfl ?_;refine vk 24 rfl fun v3 H3 hs3 hp3=>?_;obtain⟨tv,mv,rfl,htv,hmv⟩:=hp3;obtain⟨f3,p3,f4,p4,rfl,hpl4⟩:=htv.shape;refine(ZB∘Zcx∘ZZ∘Zby∘ZaP) ?_;have hs13:=hs1.trans hs3;have hes3:=hes.le hs13.le;have hps3:=hps.le hs13.le;by_cases he:e1=0
 ·subst he;rw[na rfl] at hw;have hlen:=hm.len;have hkl:=hI.kl;rw[cm];refine ZdV (h:=?_);by_cases hk:1024<=(k7 S.R).length
  ·rw[na hk] at hw;cases hw;refine(ZU∘Zaq∘Z1∘Z8∘ZS) ?_;refine yd (O3 (q:=901) (vc:=vcE) mpS Z Z Z Z Z) ((ZW∘ZD∘Zv∘ZR) ?_);refine Zdw (h:=?_);exact vr 900 (StG b S).res Z (ff hm hes3 hps3) (uh L 900 (r:=StG b S) (rs:=[.tmp 6,.tmp 7]) Z (fun _ _ h=>h) (hs0.trans hs13) Z Z (fun H hle=>rfl))
  ·rw[nc hk] at hw;cases hw;have hadd:=hm.add t1 (.agg #[f3,.pointer p3,f4,.pointer p4]);have hwn:IntKind.u64.wrap ((S.R.length:Int)+1)=((S.R.length+1:Nat):Int):=wrap_u64 T T;have hln:(S.R++[some t1]).length=S.R.length+1:=by rw[nr];rfl
   refine(ZU∘Zaq∘Z1∘Z8∘ZS) ?_;refine yd (O3 (q:=901) (vc:=vcE) mpS Z Z Z Z Z) ((Zx∘Z1∘Zal∘ZS∘Z7∘Zx∘Zm∘ZY∘Za∘ZS∘Z7∘Zap) ?_);refine xl (yo L (q:=900) (cs':=stc (S.R.length+1) m (.slice ps (xe S.P).length pc) S.P.length) Z Z Z Z Z) (Zi (h:=?_));refine qo (id:=12) [(200053,[900]),(200057,[900]),(100053,[901])] ki J ((ZaU∘ZaU∘Zcu) ?_);refine xo (E8 (q:=901) (vc:=vcE) ((S.R.length+1:Nat):Int) (t1,.agg #[f3,.pointer p3,f4,.pointer p4]) mpS kyS Z Z Z Z Z Z hadd.2) Z (ZaZ (h:=?_));refine(Zak∘Za∘ZS∘ZR) ?_;refine Zdw (h:=?_);refine vr 900 (StG b ⟨S.R++[some t1],S.P⟩).res Z (fun v H u C hle h=>ff (S:=⟨S.R++[some t1],S.P⟩) (by have h2:=hadd.1;rw[hadd.2] at h2;exact h2) (hes3.snoc htv) hps3 v H u C hle (by dsimp only;rw[hln];exact h)) ?_;exact uh L 900 (r:=StG b ⟨S.R++[some t1],S.P⟩) (rs:=[.tmp 6,.tmp 7]) Z (fun _ _ h=>h) (hs0.trans hs13) Z Z (fun H hle=>rfl)
 ·rw[nc he] at hw;cases hw;refine(ZU∘ZaO∘ZQ∘ZR) ?_;exact vr 900 (StG b S).res Z (ff hm hes3 hps3) (uh L 900 (r:=StG b S) (rs:=[.tmp 6,.tmp 7]) Z (fun _ _ h=>h) (hs0.trans hs13) Z Z (fun H hle=>rfl))
def N3{f:Nat}{P':List Int}{e:Int}(hn:S.R.length≠0)(hk:(kpt S.R r).isSome=true)(hfn:L.fn f=some ())(hf:∀ {s:Value} {u:World} {H:Heap},zth H u->PsV (xe S.P) s H->Ret zti f [pnv s S.P.length,.int .u64 r] u H (PinP P' e))(hB:zth B w)
  (hr:(StG b S).P B w C) (hC:ZCB C w B):
  RetY zti 137 [.pointer (some ⟨b,0,none⟩),.int .u64 r,.func (.func f) #[] #[]] w B C (StG b (if e=0 then ⟨S.R,P'⟩ else S)) (fun v _=>v=.int .i64 e):=by
 unfold RetY;refine xa 900 (StG b S) Tryz.func137 Z Tryz.ntmps137 (np Z) hB hr hC ?_;rw[Cl];refine v9 900 rfl fun x H hs0 hφ=>?_;obtain⟨m,s,es⟩:=x;obtain⟨hm,hes,hps⟩:=hφ;dsimp only at hm hes hps |-;obtain⟨ps,pc,rfl⟩:=jh hps;rw[cm];refine ZdV (h:=?_);have hg:=hm.get r
 obtain⟨⟨t0,sv⟩,hgk⟩:∃ x,um r es=some x:=by
  rw[<-hg,zsc] at hk;exact zqd.1 hk
 have hsv:SetV t0 sv H:=hes _ (am hgk);obtain⟨f1,p1,f2,p2,rfl,hpl⟩:=hsv.shape;have q1:(um r es).elim nilSet vcE=.agg #[f1,.pointer p1,f2,.pointer p2]:=by rw[hgk];rfl
 have q2:(um r es).isSome=true:=by rw[hgk];rfl
 refine ZbT (h:=?_);refine yd (xx L 900 (Φ:=fun H=>H b=some (.cells (stc S.R.length m _ S.P.length).toArray tyS)) (c:=.bool false) rfl rfl (zm rfl) rfl rfl rfl rfl rfl A5 (fun u H hH hle hb=>none_ret hn hb hH)) ((Z1∘ZA∘ZS∘Za) ?_);refine yd (u9 (q:=901) (vc:=vcE) r mpS kyS zrS rfl rfl rfl rfl rfl q1 q2) ((ZB∘ZZ∘Zby∘Zd∘Z0∘Zr∘Zm∘Zs∘Zb∘Zap) ?_);refine yd (kw L (q:=900) (vs:=[_,_]) rfl rfl rfl rfl ⟨_,rfl⟩) (Za (h:=?_));refine z7 (xg (φ:=PinP P' e) L rfl rfl (zm rfl) rfl (cap:=[]) rfl hfn PinP.mono (fun u H2 hH hle _=>hf hH (hps.le hle))) rfl ?_;refine vk 31 rfl fun v1 H1 hs1 hp1=>?_;obtain⟨s2,rfl,hs2⟩:=hp1;obtain⟨p5,c5,rfl⟩:=jh hs2;refine(ZB∘Zaw∘Zj) ?_;by_cases he:e=0
 ·subst he;rw[na rfl];refine(Z8∘ZW∘Zw∘ZaQ∘Zc6∘Zap) ?_;refine xl (yo L (q:=900) (cs':=stc S.R.length m (.slice p5 (xe P').length c5) P'.length) Z Z Z Z Z) ((Zi∘Zal∘Zc) ?_);refine Zdw (h:=?_);exact vr 900 (StG b ⟨S.R,P'⟩).res Z (ff (S:=⟨S.R,P'⟩) hm (hes.le hs1.le) hs2) (uh L 900 (r:=StG b ⟨S.R,P'⟩) (rs:=[.tmp 6]) Z (fun _ _ h=>h) (hs0.trans hs1) Z Z (fun H hle=>rfl))
 ·rw[nc he];refine(Z8∘Zx∘Zm∘Zal∘Zc) ?_;refine Zdw (h:=?_);exact vr 900 (StG b S).res Z (ff hm (hes.le hs1.le) (hps.le hs1.le)) (uh L 900 (r:=StG b S) (rs:=[.tmp 6]) Z (fun _ _ h=>h) (hs0.trans hs1) Z Z (fun H hle=>rfl))
def Lk{fv:Value}(hn:S.R.length≠0)(hk:¬ (kpt S.R r).isSome=true)(hB:zth B w)
  (hr:(StG b S).P B w C) (hC:ZCB C w B):
  RetY zti 137 [.pointer (some ⟨b,0,none⟩),.int .u64 r,fv] w B C (StG b S) (fun v _=>v=.int .i64 14):=by
 refine RetY.ex hr fun x hφ hr=>?_;obtain⟨m,s,es⟩:=x;obtain⟨hm,hes,hps⟩:=hφ;dsimp only at hm hes hps hr |-;unfold RetY;refine xa 900 (StO b S.R.length m s S.P.length es) Tryz.func137 Z Tryz.ntmps137 (np Z) hB hr hC ?_;rw[cm];refine ZdV (h:=?_);have hg:=hm.get r
 have hgk:um r es=none:=by
  rw[<-hg,zsc] at hk
  cases h:um r es with
  | none=>rfl
  | some y=>rw[h] at hk;exact ni rfl hk
 have q1:(um r es).elim nilSet vcE=nilSet:=by rw[hgk];rfl
 have q2:(um r es).isSome=false:=by rw[hgk];rfl
 refine ZbT (h:=?_);refine yd (xx L 900 (Φ:=fun H=>H b=some (.cells (stc S.R.length m _ S.P.length).toArray tyS)) (c:=.bool false) Z Z (zm Z) Z Z Z Z Z A5 (fun u H hH hle hb=>none_ret hn hb hH)) ((Z1∘ZA∘ZS∘Za) ?_);refine yd (u9 (q:=901) (vc:=vcE) r mpS kyS zrS Z Z Z Z Z q1 q2) ((ZB∘Zaw∘Zd∘Z0∘Zr∘ZD∘Zt∘Zc) ?_);refine Zdw (h:=?_);exact uh L 900 (r:=StO b S.R.length m s S.P.length es) (rs:=[.tmp 6]) Z (fun _ _ h=>h) nq Z Z (fun H hle=>rfl)
def Vw{S S':Sto}{r e:Int}(hn:S.R.length≠0)(hz2:(xe S.P).length<=1000)(hz:S.P.length<=4095)(hpn:zhh S r false=(S',e))(hB:zth B w)(hr:(StG b S).P B w C)(hC:ZCB C w B):
  RetY zti 83 [.pointer (some ⟨b,0,none⟩),.int .u64 r] w B C (StG b S') (fun v _=>v=.int .i64 e):=by
 unfold zhh at hpn;unfold RetY;refine xa 900 (StG b S) Tryz.func83 Z Tryz.ntmps83 (np Z) hB hr hC ?_;by_cases hk:(kpt S.R r).isSome=true
 ·rw[na hk] at hpn;rw[nc E] at hpn;cases hpn;have hr0:r≠0:=by have:=bj hk;omega
  refine(Z4∘Zb) ?_;refine qe (yh L 900 (StG b ⟨S.R,S.P++[r]⟩) (.int .i64 0) (r:=StG b S) Z Z Z Z Z (fun u H2 C2 hH hle hr2 hC2=>by have h:=N3 (P':=S.P++[r]) (e:=0) hn hk Z (fun hH hv=>zhg hr0 hz2 hz hH hv) hH hr2 hC2;rw[na Z] at h;exact Qs h)) ?_;refine Zc (h:=?_);exact uh L 900 (r:=StG b ⟨S.R,S.P++[r]⟩) (rs:=[.tmp 4]) Z (fun _ _ h=>h) nq Z Z (fun H hle=>rfl)
 ·rw[nc hk] at hpn;cases hpn;refine(Z4∘Zb) ?_;refine yd (Me L 900 (.int .i64 14) (r:=StG b S) Z Z Z Z Z (fun u H2 C2 hH hle hr2 hC2=>Lk hn hk hH hr2 hC2)) (Zc (h:=?_));exact uh L 900 (r:=StG b S) (rs:=[.tmp 4]) Z (fun _ _ h=>h) nq Z Z (fun H hle=>rfl)
def zcq{S':Sto}{e:Int}(hn:S.R.length≠0)(hz:S.P.length<=1000)(hpn:zhh S r false=(S',e))(hB:zth B w)(hr:(StG b S).P B w C)(hC:ZCB C w B):
  RetY zti 83 [.pointer (some ⟨b,0,none⟩),.int .u64 r] w B C (StG b S') (fun v _=>v=.int .i64 e):=
 Vw hn (by rw[vh];exact mp (pw _) hz) T hpn hB hr hC
def sk(h:List Int)(k:Nat):Int:=if k=0 then 0 else (h[k-1]?).getD 0
def i9{h:List Int}{x:Int}(hx:h[k]?=some x):sk h (k+1)=x:=by
 unfold sk;rw[nc T,zst,hx];rfl
def Xa{a tv:Value}{H:Heap}(h:φ tv H):TupS [φ,fun v _=>v=a] (.tuple #[tv,a]) H:=by
 refine⟨[tv,a],rfl,rfl,fun i φ' x hi hx=>?_⟩;rcases i with _ | _ | i
 ·cases hi;cases hx;exact h
 ·cases hi;cases hx;rfl
 ·cases hi
def Oe{a:Value}(h:Kn.mono (.sat φ)):Kn.mono (.sat (TupS [φ,fun v _=>v=a])):=TupS.mono fun ψ hψ=>by
 simp only[ma,zqx,or_false] at hψ;rcases hψ with rfl | rfl
 ·exact h
 ·exact fun _ _ _ h _=>h
end Go.V.L10
end
