/- Texts on the way to WiresLoad, part 4: one behind another. -/
import Derived.Test.YtefilnnomholbaaGreatWiresLoadM3
import Derived.Lib.IndexAny
import Derived.WalkSmall
import Derived.RecoverIn
import Derived.Sort.Walk7
import Derived.Sort.Walk13
set_option linter.unusedVariables false
set_option linter.unusedSimpArgs false
set_option maxRecDepth 20000
set_option maxHeartbeats 8000000
set_option linter.defProp false
open Go.Proofs Go.RowKit
section
variable{w:Go.World}{B B0:Go.V.Heap}{K a b b1 e f fr i j k lim m n rb sb t:Nat}{l:List (Int×Int)}{x:Int×Int}{R R2:Go.V.L4.Rd}{bs:List Nat}{fu:Bool}{pv s sv v z:Go.Value}{C:Nat->Prop}{args cap cs fst rest:List Go.Value}{P:Go.Program}{St:Go.V.Kap->Go.Act->Go.World->Prop}{ops:Array Go.Oper}{F:Go.V.Fr}{O:Go.V.Boxes}{κ:Go.V.Kap}{Q:Go.Exit->Go.Act->Go.World->Prop}{fr0 r:Int}{d:Array Int}{ty:Go.TypeId}{pos:String}{aft:Array Go.Edge}{g:Option (Nat×Bool)}{os:List Go.Oper}{φ:Go.Value->Go.V.Heap->Prop}{r':Go.V.GR}{o:Go.Oper}{y:ByteArray}{p:Int->Bool}{L0:List Int}{ls ys:List ByteArray}{A Y:Prop}
section
open Go.V
attribute [local irreducible] Has N Par Ret RetL Src StepOK V VO X
namespace Go.V.L2
def _root_.Zat(t:Wr Y->A:=by intro h;refine z7 (x8 Z Z Z Z E) Z ?_;exact h.1)(h:Y):A:=t ⟨h⟩
def _root_.ZcY(t:Wr Y->A:=by intro h;refine z7 (zji Z Z Z Z I E) Z ?_;exact h.1)(h:Y):A:=t ⟨h⟩
def zlq(s:Nat):P4:=((Cv s,idS (s/3)),if 15<=s then zgm (s/15-1) else ⟨#[]⟩)
def Ks(a b:Nat):U:=(T9 (a%60),zlq (b%75))
abbrev ty2:TypeId:=64
def tl(ps:List (Nat×Nat)):List U:=(ps.take 20).map fun p=>Ks p.1 p.2
def Ov(a b:Nat):tE (Ks a b)=0:=by
 unfold tE Ks;dsimp only;rw[na (zds _)];unfold zlq oc;dsimp only;by_cases h:15<=b%75
 ·rw[na h];split
  ·simp only[gh,(o9 _).1,(Rc _).1,na]
  ·simp only[gh,(o9 _).1,(Rc _).1,(V7 _).1,na]
 ·rw[nc h,na rfl];simp only[gh,(o9 _).1,(Rc _).1,na]
def Mc(a b:Nat)(ha:a<=255)(hb:b<=255)(hB:zry B w):Ret zrz 24 [.agg #[.int .u8 a,.int .u8 b]] w B (fun v _=>v=uv (Ks a b)):=by
 have e60:Int.tmod (a:Int) 60=((a%60:Nat):Int):=rfl;have e75:Int.tmod (b:Int) 75=((b%75:Nat):Int):=rfl;have hlt:=zpo a (show 0<60 by decide);have hlt2:=zpo b (show 0<75 by decide);unfold Ks;generalize a%60=m at e60 hlt;generalize b%75=s at e75 hlt2;have q1:(m:Int).tdiv 3=((m/3:Nat):Int):=rfl;have q2:(m:Int).tdiv 15=((m/15:Nat):Int):=rfl;have q3:(s:Int).tdiv 3=((s/3:Nat):Int):=rfl;have q4:(s:Int).tdiv 15=((s/15:Nat):Int):=rfl;have d1:IntKind.i64.wrap ((m:Int).tdiv 3)=((m/3:Nat):Int):=xd I I;have d2:IntKind.i64.wrap ((m:Int).tdiv 15)=((m/15:Nat):Int):=xd I I;have d3:IntKind.i64.wrap ((s:Int).tdiv 3)=((s/3:Nat):Int):=xd I I;have d4:IntKind.i64.wrap ((s:Int).tdiv 15)=((s/15:Nat):Int):=xd I I;unfold T9 zlq;refine yo Tryz.func24 Z Tryz.ntmps24 (np Z) hB ((Z0∘ZC∘Zg∘Zc7) ?_);refine z9 (Dh L _ Z Z Z Z zmw Z Z (by first | omega | decide)) Z ?_;refine Zfr (h:=?_);refine z9 (Xn Z Z Z Z I E) Z (z9 (xw Z Z Z zdy.1 zdy.2 (xd I I)) Z (z9 (Dh L _ Z Z Z Z zmw Z Z (by first | omega | decide)) Z ?_));refine Zfr (h:=?_);refine z9 (Xn Z Z Z Z I E) Z (z9 (xw Z Z Z zdy.1 zdy.2 (xd I I)) Z ((Zah∘ZbC∘Zq) ?_));refine z71 L Z (fun u H hH _=>Lj _ hH) ?_;refine(Za∘ZcY) ?_;refine z71 L Z (fun u H hH _=>id_ret _ hH) ?_;refine(ZdK∘Za∘ZcY) ?_;refine z71 L Z (fun u H hH _=>V6 _ hH) ?_;refine(Zei∘Za) ?_;refine z71 L Z (fun u H hH _=>Lj _ hH) ?_;refine(Za∘ZcY) ?_;refine z71 L Z (fun u H hH _=>id_ret _ hH) ?_;refine(ZdK∘ZdN∘Zcg∘ZbF) ?_;by_cases h:15<=s
 ·rw[na h];have hs1:IntKind.i64.wrap (((s/15:Nat):Int)-1)=((s/15-1:Nat):Int):=(xd I I).trans I;refine bu 5 rfl fun b5 hb5=>?_;refine(Zx∘ZbE∘ZB∘ZcY∘Zat) ?_;refine z71 L Z (fun u H hH _=>V6 _ hH) ?_;refine(Zz∘Zz∘ZcN∘Zg∘ZT) ?_;refine z7 (qg L (vs:=[_,_,_,_,_,_]) (yu Z (List.Mem.head _)) Z Z Z Z ⟨_,rfl⟩) Z (Zab (h:=?_));refine yl1 L [.cell 2 34] fun u H hH hle=>?_;refine Zdz (h:=?_);rfl
 ·rw[nc h];refine(Zx∘Zaj∘Zo∘ZT∘Zaq∘Zab) ?_;refine yl1 L [.cell 2 34] fun u H hH hle=>?_;refine Zdz (h:=?_);rfl
end Go.V.L2
namespace Go.V.L3
open Go.V.L2
attribute [local irreducible] RetO RetT
end Go.V.L3
namespace Go.V.L6
open Go.V.L2 Go.V.L3
abbrev d0:U:=(((⟨#[100,111,99]⟩,⟨#[97]⟩),⟨#[118,105,101,119,101,114]⟩),((⟨#[117,115,101,114]⟩,⟨#[120]⟩),⟨#[]⟩))
abbrev d1:U:=(((⟨#[100,111,99]⟩,⟨#[97]⟩),⟨#[118,105,101,119,101,114]⟩),((⟨#[103,114,111,117,112]⟩,⟨#[103]⟩),⟨#[109,101,109,98,101,114]⟩))
abbrev d2:U:=(((⟨#[100,111,99]⟩,⟨#[98]⟩),⟨#[118,105,101,119,101,114]⟩),((⟨#[117,115,101,114]⟩,⟨#[120]⟩),⟨#[]⟩))
def tzB(t:U):Bool:=decide (t.1.1.1.size<=1000) && decide (t.1.1.2.size<=1000) && decide (t.1.2.size<=1000) && decide (t.2.1.1.size<=1000) && decide (t.2.1.2.size<=1000) && decide (t.2.2.size<=1000)
def zex{t:U}(h:tzB t=true):TZ t:=by
 unfold tzB at h;simp only[zod,decide_eq_true_eq] at h;unfold TZ;omega
attribute [local irreducible] RetO RetT
abbrev C3:=Nat×Nat×Nat
structure SOK(l:List U):Prop where
 sst:Sst jh l
 tz:∀ t∈l,TZ t
 ok:∀ t∈l,tE t=0
def ox{l:List U}(h:SOK l){x:U}(hz:TZ x)(hx:tE x=0)(d:Bool)(hl:l.length<4096):SOK (vg l x d).1/\(vg l x d).2=0/\(vg l x d).1.length<=l.length+1:=by
 refine⟨⟨U0 h.sst x d,fun t ht=>?_,fun t ht=>?_⟩,?_⟩
 ·rcases Kx ht with ht | rfl
  ·exact h.tz t ht
  ·exact hz
 ·rcases Kx ht with ht | rfl
  ·exact h.ok t ht
  ·exact hx
 ·unfold vg;rw[na hx];split
  ·exact⟨rfl,Nat.le_succ_of_le (zq3 _ _)⟩
  ·split
   ·exact⟨rfl,zox _⟩
   ·rw[nc I,vp];exact⟨rfl,nu _⟩
end Go.V.L6
namespace Go.V.L11
open Go.V.L2 Go.V.L3 Go.V.L4 Go.V.L6
def K4{α:Type}{f:Rd->α×Rd}{z:α}(P:α->Prop)(hz:P z)(hf:P (f R).1):P (um f z R).1:=by
 unfold um;split
 ·exact hz
 ·split
  ·exact hz
  ·exact hf
def Cn(hl:lim<=1099511627776):(uw bs lim R).1.size<=lim:=by
 refine K4 (fun s:ByteArray=>s.size<=lim) (mf _) ?_;unfold Bf;split
 ·exact mf _
 ·rename_i h;have h0:(jy bs lim R).2.err=0:=mh.1 fun h2=>h (.inl h2);obtain⟨n,hn,hn2⟩:=ip hl h0;rw[hn,znu];show(List.map UInt8.ofNat ((bs.drop _).take n)).toArray.size<=lim;rw[zp8,mj,mw];omega
def X6:(O7 bs R).1.1.size<=16/\(O7 bs R).1.2.size<=16:=
 K4 (fun s:ByteArray×ByteArray=>s.1.size<=16/\s.2.size<=16) ⟨by decide,by decide⟩ ⟨Cn T,Cn T⟩
def Fy:((wx bs R).1.1.1.size<=16/\(wx bs R).1.1.2.size<=16)/\(wx bs R).1.2.size<=16:=
 K4 (fun s:P4=>(s.1.1.size<=16/\s.1.2.size<=16)/\s.2.size<=16) ⟨⟨by decide,by decide⟩,by decide⟩ ⟨X6,Cn T⟩
def Vf:TZ (ob bs R).1:=by
 refine K4 TZ (by unfold TZ;decide) ?_;have h1:=Fy (bs:=bs) (R:=R);have h2:=Fy (bs:=bs) (R:=(wx bs R).2);unfold TZ Gf;dsimp only;omega
end Go.V.L11
namespace Go.V.L4
open Go.V.L2 Go.V.L3 Go.V.L8
def _root_.ZeX(t:Wr Y->A:=by intro h;refine qp (id:=1) [(3,[900]),(5,[900])] kj J ?_;exact h.1)(h:Y):A:=t ⟨h⟩
attribute [local irreducible] RetO RetT ky RetX RetY
def N4(hlim:lim<=1099511627776){bs:List Nat}(hb:∀ b∈bs,b<=255)(hl:bs.length<=1099511627776)(hat:R.at_<=bs.length)(hB:zry B w)(hs:BsV bs fu sv B)(hr:(GRd rb sv R).P B w C)(hC:ZCB C w B):
  RetX zrz 235 [kg rb,.int .i64 lim] w B C (GRd rb sv (uw bs lim R).2) (.string (uw bs lim R).1):=by
 unfold RetX;refine xh 900 (GRd rb _ R) Tryz.func235 Z Tryz.ntmps235 (np Z) hB hr hC ?_;rw[xf];refine(ZaU∘ZdI∘Zc) ?_;refine ku 2 901 rfl fun b2=>?_;refine ku 3 902 rfl fun b3=>?_;refine wn 901 rfl fun H1 hs1 _ h2=>?_;refine wn 902 rfl fun H2 hs2 _ h3=>?_;have h2:=hs2.le _ _ h2;have hs12:=hs1.trans hs2;have hs':=hs.le hs12.le;refine Z9 (h:=?_);refine z7 (ql L (qw Z h2) Z Z Z Z) Z (ZaQ (h:=?_));refine qh (yi L 900 (GRd rb sv (uw bs lim R).2) (.string (uw bs lim R).1) (r:=GRd rb sv R) Z Z Z Z Z (fun u H C2 hH hle hr2 hC2=>Sl (gf:=Bf bs lim) (fst:=[]) (cap:=[kg b2,kg b3]) Z hH hr2 hC2 (fun _ u3 H3 C3 hH3 hle3 hr3 hC3=>zby hlim hb hl hat hH3 ((hs'.le hle).le hle3) ((hle.trans hle3) _ _ h2) ((hle.trans hle3) _ _ h3) hr3 hC3))) ?_;refine Ze (h:=?_);exact ka L 900 (r:=xe rb _ u5) (rs:=[.tmp 4]) Z (fun _ _ h=>h) hs12 Z Z (fun _=>rfl)
def zc1{bs:List Nat}(hb:∀ b∈bs,b<=255)(hl:bs.length<=1099511627776)(hat:R.at_<=bs.length)(hB:zry B w)(hs:BsV bs fu sv B)(h1:B b1=some (.cells #[kg rb] Ss))(hr:(GRd rb sv R).P B w C)(hC:ZCB C w B):
  RetX zrz 283 [kg b1] w B C (GRd rb sv (Gf (uw bs 16) (uw bs 16) R).2) (oV ((uw bs 16 R).1,(uw bs 16 (uw bs 16 R).2).1)):=by
 unfold RetX;refine xh 900 (GRd rb _ R) Tryz.func283 Z Tryz.ntmps283 (np Z) hB hr hC ?_;rw[xf];have hat2:=Co (lim:=16) hat;unfold Gf;dsimp only;generalize hz1:uw bs 16 R=z1 at hat2;obtain⟨x,R1⟩:=z1;dsimp only at hat2 |-;generalize hz2:uw bs 16 R1=z2;obtain⟨y,R2⟩:=z2;dsimp only;refine(ZQ∘Zg∘ZeX) ?_;refine z9 (ql L (qw Z h1) Z Z Z Z) Z (xx (yi L 900 (GRd rb sv R1) (.string x) (r:=GRd rb sv R) Z Z Z Z Z (fun u H C2 hH hle hr2 hC2=>by have h:=N4 (lim:=16) T hb hl hat hH (hs.le hle) hr2 hC2;rw[hz1] at h;exact h)) Z Z ?_);refine z9 (ql L (qw Z h1) Z Z Z Z) Z (xx (yi L 900 (GRd rb sv R2) (.string y) (r:=GRd rb sv R1) Z Z Z Z Z (fun u H C2 hH hle hr2 hC2=>by have h:=N4 (lim:=16) T hb hl hat2 hH (hs.le hle) hr2 hC2;rw[hz2] at h;exact h)) Z Z ?_);refine(Ze9∘ZbQ∘ZaE) ?_;exact ka L 900 (r:=xe rb _ u5) (rs:=[.cell 1 zir]) Z (fun _ _ h=>h) nq Z Z (fun _=>⟨_,qy Z,rfl,rfl⟩)
def zg2{bs:List Nat}(hb:∀ b∈bs,b<=255)(hl:bs.length<=1099511627776)(hat:R.at_<=bs.length)(hB:zry B w)(hs:BsV bs fu sv B)(hr:(GRd rb sv R).P B w C)(hC:ZCB C w B):
  RetX zrz 234 [kg rb] w B C (GRd rb sv (O7 bs R).2) (oV (O7 bs R).1):=by
 unfold RetX;refine xh 900 (GRd rb _ R) Tryz.func234 Z Tryz.ntmps234 (np Z) hB hr hC ?_;rw[xf];refine(ZaU∘ZC∘Zg) ?_;refine ku 1 901 rfl fun b1=>?_;refine wn 901 rfl fun H1 hs1 _ h1=>?_;have hs':=hs.le hs1.le;generalize hz:O7 bs R=z;obtain⟨⟨x,y⟩,R1⟩:=z;dsimp only;refine Z9 (h:=?_);refine z7 (ql L (qw Z h1) Z Z Z Z) Z (ZaQ (h:=?_));refine qh (yi L 900 (GRd rb sv R1) (oV (x,y)) (r:=GRd rb sv R) Z Z Z Z Z (fun u H C2 hH hle hr2 hC2=>by have h:=Sm (gf:=Gf (uw bs 16) (uw bs 16)) (fst:=[]) (cap:=[kg b1]) Z hH hr2 hC2 (fun _ u3 H3 C3 hH3 hle3 hr3 hC3=>zc1 hb hl hat hH3 ((hs'.le hle).le hle3) ((hle.trans hle3) _ _ h1) hr3 hC3);unfold O7 at hz;rw[hz] at h;exact h)) ?_;refine Zab (h:=?_);exact ka L 900 (r:=xe rb _ u5) (rs:=[.cell 2 zir]) Z (fun _ _ h=>h) hs1 Z Z (fun _=>⟨_,qy Z,rfl,rfl⟩)
def zag{bs:List Nat}(hb:∀ b∈bs,b<=255)(hl:bs.length<=1099511627776)(hat:R.at_<=bs.length)(hB:zry B w)(hs:BsV bs fu sv B)(h1:B b1=some (.cells #[kg rb] Ss))(hr:(GRd rb sv R).P B w C)(hC:ZCB C w B):
  RetX zrz 233 [kg b1] w B C (GRd rb sv (Gf (O7 bs) (uw bs 16) R).2) (gV ((O7 bs R).1,(uw bs 16 (O7 bs R).2).1)):=by
 unfold RetX;refine xh 900 (GRd rb _ R) Tryz.func233 Z Tryz.ntmps233 (np Z) hB hr hC ?_;rw[xf];have hat2:=X7 hat;unfold Gf;dsimp only;generalize hz1:O7 bs R=z1 at hat2;obtain⟨x,R1⟩:=z1;dsimp only at hat2 |-;generalize hz2:uw bs 16 R1=z2;obtain⟨y,R2⟩:=z2;dsimp only;refine(ZQ∘Zg∘ZeX) ?_;refine z9 (ql L (qw Z h1) Z Z Z Z) Z (xx (yi L 900 (GRd rb sv R1) (oV x) (r:=GRd rb sv R) Z Z Z Z Z (fun u H C2 hH hle hr2 hC2=>by have h:=zg2 hb hl hat hH (hs.le hle) hr2 hC2;rw[hz1] at h;exact h)) Z Z ?_);refine z9 (ql L (qw Z h1) Z Z Z Z) Z (xx (yi L 900 (GRd rb sv R2) (.string y) (r:=GRd rb sv R1) Z Z Z Z Z (fun u H C2 hH hle hr2 hC2=>by have h:=N4 (lim:=16) T hb hl hat2 hH (hs.le hle) hr2 hC2;rw[hz2] at h;exact h)) Z Z ?_);refine z9 (yz (cs:=[_,_,_]) Z Z zlw Z Z) Z ((ZbQ∘ZaE) ?_);exact ka L 900 (r:=xe rb _ u5) (rs:=[.cell 1 zis]) Z (fun _ _ h=>h) nq Z Z (fun _=>⟨_,qy Z,rfl,rfl⟩)
def goal_ret{bs:List Nat}(hb:∀ b∈bs,b<=255)(hl:bs.length<=1099511627776)(hat:R.at_<=bs.length)(hB:zry B w)(hs:BsV bs fu sv B)(hr:(GRd rb sv R).P B w C)(hC:ZCB C w B):
  RetX zrz 164 [kg rb] w B C (GRd rb sv (wx bs R).2) (gV (wx bs R).1):=by
 unfold RetX;refine xh 900 (GRd rb _ R) Tryz.func164 Z Tryz.ntmps164 (np Z) hB hr hC ?_;rw[xf];refine(ZaU∘ZC∘Zg) ?_;refine ku 1 901 rfl fun b1=>?_;refine wn 901 rfl fun H1 hs1 _ h1=>?_;have hs':=hs.le hs1.le;generalize hz:wx bs R=z;obtain⟨⟨⟨x,y⟩,y2⟩,R1⟩:=z;dsimp only;refine Z9 (h:=?_);refine z7 (ql L (qw Z h1) Z Z Z Z) Z (ZaQ (h:=?_));refine qh (yi L 900 (GRd rb sv R1) (gV ((x,y),y2)) (r:=GRd rb sv R) Z Z Z Z Z (fun u H C2 hH hle hr2 hC2=>by have h:=Nx (gf:=Gf (O7 bs) (uw bs 16)) (fst:=[]) (cap:=[kg b1]) Z hH hr2 hC2 (fun _ u3 H3 C3 hH3 hle3 hr3 hC3=>zag hb hl hat hH3 ((hs'.le hle).le hle3) ((hle.trans hle3) _ _ h1) hr3 hC3);unfold wx at hz;rw[hz] at h;exact h)) ?_;refine Zab (h:=?_);exact ka L 900 (r:=xe rb _ u5) (rs:=[.cell 2 zis]) Z (fun _ _ h=>h) hs1 Z Z (fun _=>⟨_,qy Z,rfl,rfl⟩)
def zf8{bs:List Nat}(hb:∀ b∈bs,b<=255)(hl:bs.length<=1099511627776)(hat:R.at_<=bs.length)(hB:zry B w)(hs:BsV bs fu sv B)(hr:(GRd rb sv R).P B w C)(hC:ZCB C w B):
  RetX zrz 165 [kg rb] w B C (GRd rb sv (wx bs R).2) (gV (wx bs R).1):=by
 unfold RetX;refine xh 900 (GRd rb _ R) Tryz.func165 Z Tryz.ntmps165 (np Z) hB hr hC ?_;rw[xf];generalize hz:wx bs R=z;obtain⟨⟨⟨x,y⟩,y2⟩,R1⟩:=z;dsimp only;refine(ZQ∘Zby∘Za) ?_;refine qh (yi L 900 (GRd rb sv R1) (gV ((x,y),y2)) (r:=GRd rb sv R) Z Z Z Z Z (fun u H C2 hH hle hr2 hC2=>by have h:=goal_ret hb hl hat hH (hs.le hle) hr2 hC2;rw[hz] at h;exact h)) ?_;refine Zab (h:=?_);exact ka L 900 (r:=xe rb _ u5) (rs:=[.cell 2 32]) Z (fun _ _ h=>h) nq Z Z (fun _=>⟨_,qy Z,rfl,rfl⟩)
def zbz{bs:List Nat}(hb:∀ b∈bs,b<=255)(hl:bs.length<=1099511627776)(hat:R.at_<=bs.length)(hB:zry B w)(hs:BsV bs fu sv B)(h1:B b1=some (.cells #[kg rb] Ss))(hr:(GRd rb sv R).P B w C)(hC:ZCB C w B):
  RetX zrz 163 [kg b1] w B C (GRd rb sv (Gf (wx bs) (wx bs) R).2) (uv ((wx bs R).1,(wx bs (wx bs R).2).1)):=by
 unfold RetX;refine xh 900 (GRd rb _ R) Tryz.func163 Z Tryz.ntmps163 (np Z) hB hr hC ?_;rw[xf];have hat2:=Hz hat;unfold Gf;dsimp only;generalize hz1:wx bs R=z1 at hat2;obtain⟨x,R1⟩:=z1;dsimp only at hat2 |-;generalize hz2:wx bs R1=z2;obtain⟨y,R2⟩:=z2;dsimp only;refine(ZQ∘Zg∘ZeX) ?_;refine z9 (ql L (qw Z h1) Z Z Z Z) Z (xx (yi L 900 (GRd rb sv R1) (gV x) (r:=GRd rb sv R) Z Z Z Z Z (fun u H C2 hH hle hr2 hC2=>by have h:=goal_ret hb hl hat hH (hs.le hle) hr2 hC2;rw[hz1] at h;exact h)) Z Z ?_);refine z9 (ql L (qw Z h1) Z Z Z Z) Z (xx (yi L 900 (GRd rb sv R2) (gV y) (r:=GRd rb sv R1) Z Z Z Z Z (fun u H C2 hH hle hr2 hC2=>by have h:=zf8 hb hl hat2 hH (hs.le hle) hr2 hC2;rw[hz2] at h;exact h)) Z Z ?_);refine z9 (yz (cs:=[_,_,_,_,_,_]) Z Z zlv Z Z) Z ((ZbQ∘ZaE) ?_);exact ka L 900 (r:=xe rb _ u5) (rs:=[.cell 1 tyU]) Z (fun _ _ h=>h) nq Z Z (fun _=>⟨_,qy Z,rfl,rfl⟩)
def tup_ret{bs:List Nat}(hb:∀ b∈bs,b<=255)(hl:bs.length<=1099511627776)(hat:R.at_<=bs.length)(hB:zry B w)(hs:BsV bs fu sv B)(hr:(GRd rb sv R).P B w C)(hC:ZCB C w B):
  RetX zrz 99 [kg rb] w B C (GRd rb sv (ob bs R).2) (uv (ob bs R).1):=by
 unfold RetX;refine xh 900 (GRd rb _ R) Tryz.func99 Z Tryz.ntmps99 (np Z) hB hr hC ?_;rw[xf];refine(ZaU∘ZC∘Zg) ?_;refine ku 1 901 rfl fun b1=>?_;refine wn 901 rfl fun H1 hs1 _ h1=>?_;have hs':=hs.le hs1.le;generalize hz:ob bs R=z;obtain⟨⟨⟨⟨x,y⟩,y2⟩,⟨⟨x3,y3⟩,y4⟩⟩,R1⟩:=z;dsimp only;refine Z9 (h:=?_);refine z7 (ql L (qw Z h1) Z Z Z Z) Z (ZaQ (h:=?_));refine qh (yi L 900 (GRd rb sv R1) (uv (((x,y),y2),((x3,y3),y4))) (r:=GRd rb sv R) Z Z Z Z Z (fun u H C2 hH hle hr2 hC2=>by have h:=Sk (gf:=Gf (wx bs) (wx bs)) (fst:=[]) (cap:=[kg b1]) Z hH hr2 hC2 (fun _ u3 H3 C3 hH3 hle3 hr3 hC3=>zbz hb hl hat hH3 ((hs'.le hle).le hle3) ((hle.trans hle3) _ _ h1) hr3 hC3);unfold ob at hz;rw[hz] at h;exact h)) ?_;refine Zab (h:=?_);exact ka L 900 (r:=xe rb _ u5) (rs:=[.cell 2 tyU]) Z (fun _ _ h=>h) hs1 Z Z (fun _=>⟨_,qy Z,rfl,rfl⟩)
open Go.V.L6
def _root_.Zdj(t:Wr Y->A:=by intro h;refine z7 (qg L (vs:=[_,_,_,_,_,_,_]) (qy Z) Z Z Z Z ⟨_,rfl⟩) Z ?_;exact h.1)(h:Y):A:=t ⟨h⟩
def _root_.Zfy(t:Wr Y->A:=by intro h;refine z9 (yz (cs:=[_,_,_,_,_,_,_]) Z Z zmp Z Z) Z ?_;exact h.1)(h:Y):A:=t ⟨h⟩
abbrev Nr:TypeId:=42
def bG(bs:List Nat)(R:Rd):Bool×Rd:=(decide ((vl bs 1 5 R).1=1),(vl bs 1 5 R).2)
def Kh(bs:List Nat):dv bs=um (bG bs) false:=rfl
def zec(h:R.at_<=bs.length):(dv bs R).2.at_<=bs.length:=de h (Gd (lim:=1) (e:=5) h)
def ge(bs:List Nat):Rd->CH×Rd:=um (Gf (ob bs) (dv bs)) ((n3,n3),false)
def Aq(h:R.at_<=bs.length):(ge bs R).2.at_<=bs.length:=de h (zec (N6 h))
def zd6{c:CH}(h:∀ s∈u6 c.1,s.size<=1000):(chgB c).length<=6061:=by
 have:=cq h;unfold chgB ec;rw[nr];have e:(u6 c.1).length=6:=rfl;rw[e] at this;simp only[zn1];omega
def U1{wb:Nat}{b:Bool}(hz:bs.length+2000<=1099511627776)(hB:zry B w)(hr:(GWr wb bs).P B w C)(hC:ZCB C w B):
  ky zrz 157 [kg wb,.bool b] w B C (GWr wb (bs++[if b=true then 1 else 0])):=by
 unfold ky;refine xh 900 (GWr wb bs) Tryz.func157 Z Tryz.ntmps157 (np Z) hB hr hC ?_
 cases b with
 | true=>
  refine(Zad∘Za∘Z3∘Z9∘Za) ?_;refine qh (xc L 900 (GWr wb (bs++[1])) (r:=GWr wb bs) Z Z Z Z Z (fun u H C hH _ hr hC=>by have h:=uc (n:=1) T I hH hr hC;rw[ga T] at h;exact h)) ?_;refine Zac (h:=?_);exact xz L 900 (r:=GWr wb (bs++[1])) Z (fun _ _ h=>h) nq Z Z
 | false=>
  refine(Zad∘Za∘Za5∘Zq) ?_;refine qh (xc L 900 (GWr wb (bs++[0])) (r:=GWr wb bs) Z Z Z Z Z (fun u H C hH _ hr hC=>by have h:=uc (n:=0) T I hH hr hC;rw[ga T] at h;exact h)) ?_;refine Zac (h:=?_);exact xz L 900 (r:=GWr wb (bs++[0])) Z (fun _ _ h=>h) nq Z Z
def zbs{wb:Nat}{c:CH}(ht:∀ s∈u6 c.1,s.size<=1000)(hz:bs.length+20000<=1099511627776)(hB:zry B w)(hr:(GWr wb bs).P B w C)(hC:ZCB C w B):
  ky zrz 90 [kg wb,chv c.1 c.2] w B C (GWr wb (bs++chgB c)):=by
 obtain⟨⟨⟨⟨a,b⟩,d⟩,⟨⟨e,f⟩,g⟩⟩,k⟩:=c;have hl:=cq ht;have e6:(u6 (((a,b),d),((e,f),g))).length=6:=rfl;rw[e6] at hl;dsimp only at hl ht;have e0:bs++chgB ((((a,b),d),((e,f),g)),k)=(bs++ec (((a,b),d),((e,f),g)))++[if k=true then 1 else 0]:=by unfold chgB;rw[List.append_assoc]
 rw[e0];unfold ky;refine xh 900 (GWr wb bs) Tryz.func90 Z Tryz.ntmps90 (np Z) hB hr hC ((Z0∘Zby∘Za∘Zcj) ?_);refine qh (xc L 900 (GWr wb (bs++ec (((a,b),d),((e,f),g)))) (r:=GWr wb bs) Z Z Z Z Z (fun u H C hH _ hr hC=>zbo ht I hH hr hC)) ((Zp∘Zq∘Z8) ?_);refine qh (xc L 900 (GWr wb (bs++ec (((a,b),d),((e,f),g))++[if k=true then 1 else 0])) (r:=GWr wb (bs++ec (((a,b),d),((e,f),g)))) Z Z Z Z Z (fun u H C hH _ hr hC=>U1 (by rw[List.length_append];unfold ec;omega) hH hr hC)) ?_;refine Zac (h:=?_);exact xz L 900 (r:=GWr wb (bs++ec (((a,b),d),((e,f),g))++[if k=true then 1 else 0])) Z (fun _ _ h=>h) nq Z Z
def Ny{gf:Rd->Bool×Rd}(hfn:L.fn fr=some ()){C:Nat->Prop}(hB:zry B w)(hr:(GRd rb sv R).P B w C)(hC:ZCB C w B)
  (hf:R.err=0->∀ (u:World) (H:Heap) (C:Nat->Prop),zry H u->B.Le H->(GRd rb sv R).P H u C->(ZCB C u H)->RetX zrz fr (fst++cap) u H C (GRd rb sv (gf R).2) (.bool (gf R).1)):
  RetX zrz 265 [kg rb,.func (.func fr) fst.toArray cap.toArray] w B C (GRd rb sv (um gf false R).2) (.bool (um gf false R).1):=by
 unfold RetX;refine xh 900 (GRd rb sv R) Tryz.func265 Z Tryz.ntmps265 (np Z) hB hr hC ?_;rw[xf];obtain⟨⟨n,⟨at1,bad1,err1⟩⟩,hz⟩:∃ z,gf R=z:=⟨_,rfl⟩
 obtain⟨at_,bad,err⟩:=R;unfold um;rw[hz] at hf |-;dsimp only at hf |-;by_cases h0:err≠0
 ·rw[na h0];refine(Z4∘Zj∘Zq) ?_;refine qh (yi L 900 (GRd rb sv ⟨at_,bad,err⟩) (.bool true) (r:=GRd rb sv ⟨at_,bad,err⟩) Z Z Z Z Z (fun u H C2 hH _ hr2 hC2=>ki (nf h0) hH hr2 hC2)) ((Zr∘Zx∘Ze) ?_);exact ka L 900 (r:=xe rb _ u5) (rs:=[.tmp 4]) Z (fun _ _ h=>h) nq Z Z (fun _=>rfl)
 ·have he:err=0:=mh.1 h0;subst he;rw[nc h0];have hf:=hf rfl;by_cases h1:err1≠0
  ·rw[na h1];refine(Z4∘Zj∘Zq) ?_;refine qh (yi L 900 (GRd rb sv ⟨at_,bad,0⟩) (.bool false) (r:=GRd rb sv ⟨at_,bad,0⟩) Z Z Z Z Z (fun u H C2 hH _ hr2 hC2=>ki (ng h0) hH hr2 hC2)) ((Zo∘Zcy∘ZbS) ?_);refine qh (jd L 900 (GRd rb sv ⟨at1,bad1,err1⟩) (.bool n) (r:=GRd rb sv ⟨at_,bad,0⟩) Z Z Z hfn Z hf) ((Zj∘ZL∘Zai∘ZY∘Zbi∘Zaa) ?_);refine xg (yj L (q:=900) (cs':=[sv,.int .i64 at_,.int .i64 bad1,.int .i64 err1]) Z Z Z Z Z) ((Zg∘ZaM∘Ze) ?_);exact ka L 900 (r:=xe rb _ u5) (rs:=[.tmp 4]) Z (fun _ _ h=>h) nq Z Z (fun _=>rfl)
  ·have he:err1=0:=mh.1 h1;subst he;rw[nc h1];refine(Z4∘Zj∘Zq) ?_;refine qh (yi L 900 (GRd rb sv ⟨at_,bad,0⟩) (.bool false) (r:=GRd rb sv ⟨at_,bad,0⟩) Z Z Z Z Z (fun u H C2 hH _ hr2 hC2=>ki (ng h0) hH hr2 hC2)) ((Zo∘Zcy∘ZbS) ?_);refine qh (jd L 900 (GRd rb sv ⟨at1,bad1,0⟩) (.bool n) (r:=GRd rb sv ⟨at_,bad,0⟩) Z Z Z hfn Z hf) ((Zj∘ZL∘Zai∘Zaw∘Za3∘Ze) ?_);exact ka L 900 (r:=xe rb _ u5) (rs:=[.tmp 4]) Z (fun _ _ h=>h) nq Z Z (fun _=>rfl)
def Sp{gf:Rd->CH×Rd}(hfn:L.fn fr=some ()){C:Nat->Prop}(hB:zry B w)(hr:(GRd rb sv R).P B w C)(hC:ZCB C w B)
  (hf:R.err=0->∀ (u:World) (H:Heap) (C:Nat->Prop),zry H u->B.Le H->(GRd rb sv R).P H u C->(ZCB C u H)->RetX zrz fr (fst++cap) u H C (GRd rb sv (gf R).2) (chv ((gf R).1).1 ((gf R).1).2)):
  RetX zrz 216 [kg rb,.func (.func fr) fst.toArray cap.toArray] w B C (GRd rb sv (um gf ((n3,n3),false) R).2) (chv ((um gf ((n3,n3),false) R).1).1 ((um gf ((n3,n3),false) R).1).2):=by
 unfold RetX;refine xh 900 (GRd rb sv R) Tryz.func216 Z Tryz.ntmps216 (np Z) hB hr hC ?_;rw[xf];obtain⟨⟨n,⟨at1,bad1,err1⟩⟩,hz⟩:∃ z,gf R=z:=⟨_,rfl⟩
 
 obtain⟨at_,bad,err⟩:=R;unfold um;rw[hz] at hf |-;dsimp only at hf |-;by_cases h0:err≠0
 ·rw[na h0];refine(ZQ∘Zby∘Zbz∘Zq) ?_;refine qh (yi L 900 (GRd rb sv ⟨at_,bad,err⟩) (.bool true) (r:=GRd rb sv ⟨at_,bad,err⟩) Z Z Z Z Z (fun u H C2 hH _ hr2 hC2=>ki (nf h0) hH hr2 hC2)) ((Zr∘Zy∘Zdj∘Zab) ?_);exact ka L 900 (r:=xe rb _ u5) (rs:=[.cell 4 Nr]) Z (fun _ _ h=>h) nq Z Z (fun _=>⟨_,qy Z,rfl,rfl⟩)
 ·have he:err=0:=mh.1 h0;subst he;rw[nc h0];have hf:=hf rfl;by_cases h1:err1≠0
  ·rw[na h1];refine(ZQ∘Zby∘Zbz∘Zq) ?_;refine qh (yi L 900 (GRd rb sv ⟨at_,bad,0⟩) (.bool false) (r:=GRd rb sv ⟨at_,bad,0⟩) Z Z Z Z Z (fun u H C2 hH _ hr2 hC2=>ki (ng h0) hH hr2 hC2)) ((Zo∘Zcy∘ZbS) ?_);refine qh (jd L 900 (GRd rb sv ⟨at1,bad1,err1⟩) (chv (n).1 (n).2) (r:=GRd rb sv ⟨at_,bad,0⟩) Z Z Z hfn Z hf) ((ZbF∘ZL∘Zai∘ZY∘Zbi∘Zaa) ?_);refine xg (yj L (q:=900) (cs':=[sv,.int .i64 at_,.int .i64 bad1,.int .i64 err1]) Z Z Z Z Z) ((Zg∘Z7∘Zdj∘Zab) ?_);exact ka L 900 (r:=xe rb _ u5) (rs:=[.cell 4 Nr]) Z (fun _ _ h=>h) nq Z Z (fun _=>⟨_,qy Z,rfl,rfl⟩)
  ·have he:err1=0:=mh.1 h1;subst he;rw[nc h1];refine(ZQ∘Zby∘Zbz∘Zq) ?_;refine qh (yi L 900 (GRd rb sv ⟨at_,bad,0⟩) (.bool false) (r:=GRd rb sv ⟨at_,bad,0⟩) Z Z Z Z Z (fun u H C2 hH _ hr2 hC2=>ki (ng h0) hH hr2 hC2)) ((Zo∘Zcy∘ZbS) ?_);refine qh (jd L 900 (GRd rb sv ⟨at1,bad1,0⟩) (chv (n).1 (n).2) (r:=GRd rb sv ⟨at_,bad,0⟩) Z Z Z hfn Z hf) ((ZbF∘ZL∘Zai∘Zaw∘ZE∘Zdj∘Zab) ?_);exact ka L 900 (r:=xe rb _ u5) (rs:=[.cell 4 Nr]) Z (fun _ _ h=>h) nq Z Z (fun _=>⟨_,qy Z,rfl,rfl⟩)
def za8{bs:List Nat}(hb:∀ b∈bs,b<=255)(hl:bs.length<=1099511627776)(hat:R.at_<=bs.length)(hB:zry B w)(hs:BsV bs fu sv B)(h1:B b1=some (.cells #[kg rb] Ss))(hr:(GRd rb sv R).P B w C)(hC:ZCB C w B):
  RetX zrz 266 [kg b1] w B C (GRd rb sv (bG bs R).2) (.bool (bG bs R).1):=by
 unfold RetX;refine xh 900 (GRd rb _ R) Tryz.func266 Z Tryz.ntmps266 (np Z) hB hr hC ?_;rw[xf];unfold bG;generalize hz1:vl bs 1 5 R=z1;obtain⟨n,R1⟩:=z1;dsimp only;by_cases h1n:n=1
 ·rw[nf h1n];refine Z4 (h:=?_);refine z7 (ql L (qw Z h1) Z Z Z Z) Z (qh (yi L 900 (GRd rb sv R1) (.int .u64 n) (r:=GRd rb sv R) Z Z Z Z Z (fun u H C2 hH hle hr2 hC2=>by have h:=t7 (lim:=1) (e:=5) hb hl hat hH (hs.le hle) hr2 hC2;rw[hz1] at h;exact h)) ?_);refine(Zv∘Ze) ?_;exact ka L 900 (r:=xe rb _ u5) (rs:=[.tmp 1]) Z (fun _ _ h=>h) nq Z Z (fun _=>rfl)
 ·rw[ng h1n];refine Z4 (h:=?_);refine z7 (ql L (qw Z h1) Z Z Z Z) Z (qh (yi L 900 (GRd rb sv R1) (.int .u64 n) (r:=GRd rb sv R) Z Z Z Z Z (fun u H C2 hH hle hr2 hC2=>by have h:=t7 (lim:=1) (e:=5) hb hl hat hH (hs.le hle) hr2 hC2;rw[hz1] at h;exact h)) ?_);refine(Zn∘Ze) ?_;exact ka L 900 (r:=xe rb _ u5) (rs:=[.tmp 1]) Z (fun _ _ h=>h) nq Z Z (fun _=>rfl)
def zea{bs:List Nat}(hb:∀ b∈bs,b<=255)(hl:bs.length<=1099511627776)(hat:R.at_<=bs.length)(hB:zry B w)(hs:BsV bs fu sv B)(hr:(GRd rb sv R).P B w C)(hC:ZCB C w B):
  RetX zrz 218 [kg rb] w B C (GRd rb sv (dv bs R).2) (.bool (dv bs R).1):=by
 unfold RetX;refine xh 900 (GRd rb _ R) Tryz.func218 Z Tryz.ntmps218 (np Z) hB hr hC ?_;rw[xf];refine(ZaU∘Zc) ?_;refine ku 1 901 rfl fun b1=>?_;refine wn 901 rfl fun H1 hs1 _ h1=>?_;have hs':=hs.le hs1.le;generalize hz:dv bs R=z;obtain⟨x,R1⟩:=z;dsimp only;refine Z9 (h:=?_);refine z7 (ql L (qw Z h1) Z Z Z Z) Z (ZaQ (h:=?_));refine qh (yi L 900 (GRd rb sv R1) (.bool x) (r:=GRd rb sv R) Z Z Z Z Z (fun u H C2 hH hle hr2 hC2=>by have h:=Ny (gf:=bG bs) (fst:=[]) (cap:=[kg b1]) Z hH hr2 hC2 (fun _ u3 H3 C3 hH3 hle3 hr3 hC3=>za8 hb hl hat hH3 ((hs'.le hle).le hle3) ((hle.trans hle3) _ _ h1) hr3 hC3);rw[Kh] at hz;rw[hz] at h;exact h)) ?_;refine Ze (h:=?_);exact ka L 900 (r:=xe rb _ u5) (rs:=[.tmp 2]) Z (fun _ _ h=>h) hs1 Z Z (fun _=>rfl)
def zd7{bs:List Nat}(hb:∀ b∈bs,b<=255)(hl:bs.length<=1099511627776)(hat:R.at_<=bs.length)(hB:zry B w)(hs:BsV bs fu sv B)(h1:B b1=some (.cells #[kg rb] Ss))(hr:(GRd rb sv R).P B w C)(hC:ZCB C w B):
  RetX zrz 217 [kg b1] w B C (GRd rb sv (Gf (ob bs) (dv bs) R).2) (chv ((ob bs R).1) ((dv bs (ob bs R).2).1)):=by
 unfold RetX;refine xh 900 (GRd rb _ R) Tryz.func217 Z Tryz.ntmps217 (np Z) hB hr hC ?_;rw[xf];have hat2:=N6 hat;unfold Gf;dsimp only;generalize hz1:ob bs R=z1 at hat2;obtain⟨x,R1⟩:=z1;dsimp only at hat2 |-;generalize hz2:dv bs R1=z2;obtain⟨y,R2⟩:=z2;dsimp only;refine(ZQ∘Zg∘ZeX) ?_;refine z9 (ql L (qw Z h1) Z Z Z Z) Z (xx (yi L 900 (GRd rb sv R1) (uv x) (r:=GRd rb sv R) Z Z Z Z Z (fun u H C2 hH hle hr2 hC2=>by have h:=tup_ret hb hl hat hH (hs.le hle) hr2 hC2;rw[hz1] at h;exact h)) Z Z ?_);refine z9 (ql L (qw Z h1) Z Z Z Z) Z (xx (yi L 900 (GRd rb sv R2) (.bool y) (r:=GRd rb sv R1) Z Z Z Z Z (fun u H C2 hH hle hr2 hC2=>by have h:=zea hb hl hat2 hH (hs.le hle) hr2 hC2;rw[hz2] at h;exact h)) Z Z ?_);refine(Zfy∘ZbQ∘ZaE) ?_;exact ka L 900 (r:=xe rb _ u5) (rs:=[.cell 1 Nr]) Z (fun _ _ h=>h) nq Z Z (fun _=>⟨_,qy Z,rfl,rfl⟩)
def chg_ret{bs:List Nat}(hb:∀ b∈bs,b<=255)(hl:bs.length<=1099511627776)(hat:R.at_<=bs.length)(hB:zry B w)(hs:BsV bs fu sv B)(hr:(GRd rb sv R).P B w C)(hC:ZCB C w B):
  RetX zrz 147 [kg rb] w B C (GRd rb sv (ge bs R).2) (chv ((ge bs R).1).1 ((ge bs R).1).2):=by
 unfold RetX;refine xh 900 (GRd rb _ R) Tryz.func147 Z Tryz.ntmps147 (np Z) hB hr hC ?_;rw[xf];refine(ZaU∘ZC∘Zg) ?_;refine ku 1 901 rfl fun b1=>?_;refine wn 901 rfl fun H1 hs1 _ h1=>?_;have hs':=hs.le hs1.le;generalize hz:ge bs R=z;obtain⟨⟨⟨⟨⟨x,y⟩,y2⟩,⟨⟨x3,y3⟩,y4⟩⟩,y5⟩,R1⟩:=z;dsimp only;refine Z9 (h:=?_);refine z7 (ql L (qw Z h1) Z Z Z Z) Z (ZaQ (h:=?_));refine qh (yi L 900 (GRd rb sv R1) (chv (((((x,y),y2),((x3,y3),y4)),y5)).1 (((((x,y),y2),((x3,y3),y4)),y5)).2) (r:=GRd rb sv R) Z Z Z Z Z (fun u H C2 hH hle hr2 hC2=>by have h:=Sp (gf:=Gf (ob bs) (dv bs)) (fst:=[]) (cap:=[kg b1]) Z hH hr2 hC2 (fun _ u3 H3 C3 hH3 hle3 hr3 hC3=>zd7 hb hl hat hH3 ((hs'.le hle).le hle3) ((hle.trans hle3) _ _ h1) hr3 hC3);unfold ge at hz;rw[hz] at h;exact h)) ?_;refine Zab (h:=?_);exact ka L 900 (r:=xe rb _ u5) (rs:=[.cell 2 Nr]) Z (fun _ _ h=>h) hs1 Z Z (fun _=>⟨_,qy Z,rfl,rfl⟩)
end Go.V.L4
namespace Go.V.L11
open Go.V.L2 Go.V.L3 Go.V.L4 Go.V.L6 Go.V.L8
def Ng(la:Option U)(t:U):Bool:=match la with
 | none=>true
 | some y=>decide (jh y t<0)
def t6(bs:List Nat)(l:List U):Nat->Option U->List CH->List CH->Rd->((List CH×List CH)×Rd)×(Int×Int)
 | 0,_,a,d,R=>(((a,d),R),(0,0))
 | k+1,la,a,d,R=>
  if (ge bs R).2.err≠0 then (((a,d),R),(((ge bs R).2.bad:Int),(ge bs R).2.err))
  else if tE (ge bs R).1.1≠0 then (((a,d),R),((R.at_:Int),6))
  else if Ng la (ge bs R).1.1=false then (((a,d),R),((R.at_:Int),18))
  else if decide ((ge bs R).1.1∈l)≠(ge bs R).1.2 then (((a,d),R),((R.at_:Int),5))
  else t6 bs l k (some (ge bs R).1.1) (if (ge bs R).1.2=true then a else a++[(ge bs R).1]) (if (ge bs R).1.2=true then d++[(ge bs R).1] else d) (ge bs R).2
def fe(l:List U)(cs:List CH):List U:=cs.foldl (fun l c=>(vg l c.1 c.2).1) l
def au(bs:List Nat)(l:List U)(R:Rd):(List U×Rd)×(Int×Int):=
 if (jy bs 8192 R).2.err≠0 then ((l,R),(((jy bs 8192 R).2.bad:Int),(jy bs 8192 R).2.err))
 else if (t6 bs l (jy bs 8192 R).1.toNat none [] [] (jy bs 8192 R).2).2.2≠0 then ((l,R),(t6 bs l (jy bs 8192 R).1.toNat none [] [] (jy bs 8192 R).2).2)
 else if l.length+(t6 bs l (jy bs 8192 R).1.toNat none [] [] (jy bs 8192 R).2).1.1.1.length>4096+(t6 bs l (jy bs 8192 R).1.toNat none [] [] (jy bs 8192 R).2).1.1.2.length then ((l,R),((R.at_:Int),3))
 else ((fe l ((t6 bs l (jy bs 8192 R).1.toNat none [] [] (jy bs 8192 R).2).1.1.2++(t6 bs l (jy bs 8192 R).1.toNat none [] [] (jy bs 8192 R).2).1.1.1),(t6 bs l (jy bs 8192 R).1.toNat none [] [] (jy bs 8192 R).2).1.2),(0,0))
def Ki:∀ (cs:List CH) {l:List U},l.length<=4096->(fe l cs).length<=4096
 | [],_,h=>h
 | c::cs,l,h=>Ki cs (Ky h c.1 c.2)
def zba{cs:List CH}{c:CH}(l:List U)(h:cs[i]?=some c):fe l (cs.take (i+1))=(vg (fe l (cs.take i)) c.1 c.2).1:=by
 unfold fe;rw[zns,h,List.foldl_append];rfl
def Ps:TZ (ge bs R).1.1:=by
 unfold ge;exact K4 (fun c:CH=>TZ c.1) T (by unfold Gf;exact Vf)
end Go.V.L11
end
namespace Go.V
section sound
variable    {ex:Exs} {Fin:Kap->Prop}
def Fe{Fin:Kap->Prop}:∀ (m i:Nat) {κ:Kap},i+m<=ops.size->zij P St ops ex Fin ((ops.toList.drop i).take m) κ->ParI P St ops ex Fin (List.range' i m) κ
 | 0,i,κ,hm,h=>by
  rw[zn6] at h;exact h
 | m+1,i,κ,hm,h=>by
  have hi:i<ops.toList.length:=by simp;omega
  rw[zn0 hi,zpm] at h;obtain⟨us,hd,sx,rest⟩:=h;refine⟨ops.toList[i],us,?_,hd,sx,Fe m (i+1) I rest⟩;have hi':i<ops.size:=by simpa using hi
  rw[zn9 hi'];simp
end sound
section code
end code
end Go.V
namespace Go.V
def P5(w:World)(B:Heap)(L:Nat->Prop)(pv:Value)(e:Ending)(u:World):Prop:=e=.panicked [{ v:=pv,recovered:=false }]/\∃ H,Grow L w B u H
def Pan(P:Program)(f:FuncId)(args:List Value)(w:World)(B:Heap)(L:Nat->Prop)(pv:Value):Prop:=Calls P f args.toArray w (P5 w B L pv)
section sound
variable    {ex:Exs}
end sound
section code
def QX(P:Program)(F:Fr)(ops:Array Oper)(K:Nat)(Q:Exit->Act->World->Prop):Exit->Act->World->Prop:=fun _ a u=>∀ Kk,wpOpIn (FW F.r) 0 P ops Q K Kk a u
def XP(F:Fr)(B:Heap)(n:Nat)(O:Boxes)(κ:Kap)(pv:Value)(Q:Exit->Act->World->Prop):Prop:=∀ a u,Has F B O n κ a u->Q (.panic [{ v:=pv,recovered:=false }]) a u
def jw{id:Nat}{l:List Oper}(K:Nat)(hK:Nat.ble (K+1) l.length=true)(h:VO P F B n O l.toArray κ (l.take K) (QX P F l.toArray K Q)):V P F B n O κ (.region id l.toArray false) Q:=fun a u hh=>by
 refine wpIn_region ?_;have hK:=np hK
 have hsplit:List.range l.toArray.size=List.range' 0 K++K::List.range' (K+1) (l.length-(K+1)):=by
  rw[zp6,show K::List.range' (K+1) (l.length-(K+1))=List.range' K (l.length-K) by rw[show l.length-K=(l.length-(K+1))+1 by omega];rfl];have:=List.range'_append_1 (s:=0) (m:=K) (n:=l.length-K);rw[znk] at this;rw[this,Nat.add_sub_cancel' I];simp
 rw[hsplit]
 have key:∀ (m i:Nat) {a:Act} {u:World},i+m=K->Ops P l.toArray (fun a u=>QX P F l.toArray K Q .normal a u) ((l.drop i).take m) a u->
   wpOpsIn (FW F.r) 0 P l.toArray Q (List.range' i m++K::List.range' (K+1) (l.length-(K+1))) a u:=by
  intro m
  induction m with
  | zero=>
   intro i a u hi ho;rw[zn6] at ho;show wpOpsIn (FW F.r) 0 P l.toArray Q (K::_) a u;rw[wpOpsIn_cons];exact ho _
  | succ m ih=>
   intro i a u hi ho;have hil:i<l.length:=I;rw[zn0 hil,zpm] at ho;have hg:l.toArray[i]?=some l[i]:=by rw[zp9,zob hil]
   rw[zp7,znt,wpOpsIn_cons];exact After.wpOpIn hg (After.mono (fun a' u' hh'=>ih (i+1) I hh') ho)
 exact key K 0 I (by rw[zn5];exact h a u hh)
def ju(L:Tabs P)(q:Nat){r:Res}{d:Option Nat}{args:Array Operand}{at_:Array TypeId}{fo:Operand}
  (ho:ops[K]?=some ⟨d,.call { callee:=.value fo,args:=args,argTypes:=at_ },ty,pos,aft,g⟩) (hg:gK ops κ ⟨d,.call { callee:=.value fo,args:=args,argTypes:=at_ },ty,pos,aft,g⟩=some true)
  (hf:evK κ fo=some (.func (.func f) #[] cap.toArray)) (hfn:L.fn f=some ()) (hq:κ q=some (.own r))
  (h:∀ u H C,zry H u->B.Le H->r.P undef H u C->(ZCB C u H)->Args κ H args.toList [] (fun vs=>Pan P f (vs++cap) u H C pv)) (hr:∀ v H u C,r.P v H u C->r.P undef H u C)
  (hX:XP F B n O (upd κ q lf) pv Q):N F B n O κ (QX P F ops K Q):=by
 rintro a u ⟨H,fp,hh⟩ Kk;have hlk:∀ t∈(⟨d,.call { callee:=.value fo,args:=args,argTypes:=at_ },ty,pos,aft,g⟩:Oper).looksAt ops,κ t=κ t:=fun _ _=>rfl;unfold wpOpIn;rw[ho];dsimp only;rw[na (xk hh hlk hg)];obtain⟨hown,hM⟩:=hh.slot q _ hq;have e2:=hh.env hlk;have hfe:a.eval fo=.func (.func f) #[] cap.toArray:=e2.is_ fo _ (by simp [Op.operands,Call.operands]) hf;have hc:=Args.use e2 args.toList [] (fun x hx=>by simp [Op.operands,Call.operands] at hx |-;exact .inr hx) (h u H (fp q) hh.sub hh.base (hr _ _ _ _ hown) fun k hk=>⟨(hM k hk).1,(hM k hk).2.1⟩);simp only[zoh,mn] at hc;have hrun:=uy (u:=u) L (o:=⟨d,.call { callee:=.value fo,args:=args,argTypes:=at_ },ty,pos,aft,g⟩) rfl hfe hfn;refine⟨fun _ _=>trivial,?_⟩;rw[Oper.semAt_eq _ _ _ (fun c hc=>by cases hc),hrun];refine⟨fun e=>(by cases e),FW.call _ _ (Calls.mono hc fun e' u' hp=>?_)⟩;obtain⟨rfl,H',g'⟩:=hp;exact hX a u' ⟨H',_,hh.use hq g'⟩
def wl{K:Act->World->Prop}(h:XP F B n O κ pv Q):XP F B n O κ pv (Exit.then K Q):=h
def jo{id:Nat}(h:XP F B n O κ pv Q):XP F B n O κ pv (Exit.inBlock id Q):=h
def db{fn:Func}(hs:Since F B0 B)(hd:F.ds=[]:=by rfl):XP F B n O κ pv (bodyPostM Fence.wide 0 P fn (P5 F.w0 B0 F.L pv)):=fun a u hh=>by
 obtain⟨H,fp,hH⟩:=hh;have h0:=hH.defers;rw[hd] at h0;show LeavesInM _ _ _ _ _ _ a.defers _ _;rw[h0];exact⟨rfl,H,⟨hH.keep,hH.sub,hs.le.trans hH.base,fun k hk hl=>(hH.fresh k hk hl).trans (hs.fresh k hk hl)⟩⟩
def f7{f:FuncId}{fn:Func}{c:Code}(gs:Nat)(r:GR)(hf:P.funcs[f]?=some fn)(hb:fn.body=some c)(hn:fn.ntmps=n)
  (hs:args.length<=n) (hB:zry B w) (hr:r.P B w C) (hC:ZCB C w B) (h:V P ⟨w,none,[],C⟩ B n [] (upd (As 0 args) gs (.own r.res)) c (bodyPostM Fence.wide 0 P fn (P5 w B C pv))):Pan P f args w B C pv:=by
 refine bn hf hb (h _ w ?_);subst hn;have h0:=bl (B:=B) C (fun k hk=>(hC k hk).1) hs hB (fun _=>noL)
 exact⟨B,_,h0.putR (d:=gs) (r:=r.res) Z Z (fun _ _=>rfl) hr (fun k hk=>⟨(hC k hk).1,(hC k hk).2,.inr hk,fun y hy=>by cases hy⟩) fun t r' _ ht=>by
  obtain⟨v,hv,_⟩:=gl _ _ _ _ ht;cases hv⟩
end code
end Go.V
namespace Go.V
section
variable        {d:Nat}      {a:Act} {u:World}  {t xt:TypeId} {x:Operand} 
def Mg(hn:Nat.blt d n=true)(hg:gK ops κ ⟨some d,.makeInterface t x,ty,pos,aft,g⟩=some true)(hx:evK κ x=some v)(hc:P.concrete t=true):
  StepOK P F B n ops O κ ⟨some d,.makeInterface t x,ty,pos,aft,g⟩ d (.is (.iface t v)):=
 kq rfl (by simpa using hn) hg trivial fun a u H fp e=>⟨_,by
  have h1:a.eval x=v:=e.is_ x _ (by simp [Op.operands]) hx;have h2:=run_makeInterface (w:=u) t v hc;simp only[execOp,h1,ny,mg,h2,mb],rfl⟩
def Tq(hn:Nat.blt d n=true)(hg:gK ops κ ⟨some d,.typeAssert x xt t true,ty,pos,aft,g⟩=some true)(hx:evK κ x=some (.iface t v))(hc:P.concrete t=true):
  StepOK P F B n ops O κ ⟨some d,.typeAssert x xt t true,ty,pos,aft,g⟩ d (.is (.tuple #[v,.bool true])):=
 kq rfl (by simpa using hn) hg trivial fun a u H fp e=>⟨_,by
  have h1:a.eval x=.iface t v:=e.is_ x _ (by simp [Op.operands]) hx
  have h2:(Instr.typeAssert (.iface t v) xt t true).run P u=.ok (.tuple #[v,.bool true]) u:=by
   unfold Program.concrete at hc
   cases hd:P.underlying t with
   | none=>simp [hd] at hc
   | some dd=>cases dd<;>first | (simp [hd] at hc;done) | simp [Instr.typeAssert,run_underlying hd]
  simp only[execOp,h1,ny,mg,h2,mb],rfl⟩
def Ts(hn:Nat.blt d n=true)(hg:gK ops κ ⟨some d,.typeAssert x xt t true,ty,pos,aft,g⟩=some true)(hx:evK κ x=some .nilIface)(hc:P.concrete t=true)(hz:∀ w,(zeroValue t).run P w=.ok z w):
  StepOK P F B n ops O κ ⟨some d,.typeAssert x xt t true,ty,pos,aft,g⟩ d (.is (.tuple #[z,.bool false])):=
 kq rfl (by simpa using hn) hg trivial fun a u H fp e=>⟨_,by
  have h1:a.eval x=.nilIface:=e.is_ x _ (by simp [Op.operands]) hx
  have h2:(Instr.typeAssert .nilIface xt t true).run P u=.ok (.tuple #[z,.bool false]) u:=by
   unfold Program.concrete at hc
   cases hd:P.underlying t with
   | none=>simp [hd] at hc
   | some dd=>cases dd<;>first | (simp [hd] at hc;done) | simp [Instr.typeAssert,run_underlying hd,hz]
  simp only[execOp,h1,ny,mg,h2,mb],rfl⟩
def Do{dd:Option Nat}(ho:ops[K]?=some ⟨dd,.panic x,ty,pos,aft,g⟩)(hg:gK ops κ ⟨dd,.panic x,ty,pos,aft,g⟩=some true)(hx:evK κ x=some (.iface t v))(hX:XP F B n O κ (.iface t v) Q):N F B n O κ (QX P F ops K Q):=by
 rintro a u ⟨H,fp,hh⟩ Kk;have hlk:∀ s∈(⟨dd,.panic x,ty,pos,aft,g⟩:Oper).looksAt ops,κ s=κ s:=fun _ _=>rfl;unfold wpOpIn;rw[ho];dsimp only;rw[na (xk hh hlk hg)];have e2:=hh.env hlk;have h1:a.eval x=.iface t v:=e2.is_ x _ (by simp [Op.operands]) hx
 have hrun:(execOp a.eval ⟨dd,.panic x,ty,pos,aft,g⟩).run P u=.halt (.panic (.iface t v)) u:=by
  simp only[execOp,h1,ny,run_panic_iface];rfl
 refine⟨fun _ _=>trivial,?_⟩;rw[Oper.semAt_eq _ _ _ (fun c hc=>by cases hc),hrun];exact hX a u ⟨H,fp,hh⟩
end
end Go.V
namespace Go.V
def RetY.frame{f:FuncId}{r1 r1' r2:GR}(hr:(bw r1 r2).P B w C)(hC:ZCB C w B)
  (h:∀ C1,r1.P B w C1->(ZCB C1 w B)->RetY P f args w B C1 r1' φ):RetY P f args w B C (bw r1' r2) φ:=by
 obtain⟨C1,C2,h1,h2,h3,h4⟩:=hr;refine Calls.mono (h C1 h1 fun k hk=>hC k ((h3 k).2 (.inl hk))) fun e u ⟨v,he,H,g,hp,C',hv,hC'⟩=>?_;have hsub:∀ k,C1 k->C k:=fun k hk=>(h3 k).2 (.inl hk);have g2:Grow C w B u H:=⟨⟨g.keep.os,g.keep.tape,g.keep.output,g.keep.size,fun k hk hn=>g.keep.block k hk fun h=>hn (hsub k h),g.keep.dr⟩,g.sub,g.le,fun k hk hn=>g.fresh k hk fun h=>hn (hsub k h)⟩
 refine⟨v,he,H,g2,hp,fun k=>C' k\/C2 k,⟨C',C2,hv,r2.st h2 g.le g.sub ⟨g.keep.os,g.keep.tape,g.keep.output,g.keep.size,g.keep.dr⟩ (fun k hk=>g.keep.block k (hC k ((h3 k).2 (.inr hk))).1 fun h=>h4 k h hk),fun _=>Iff.rfl,fun k hk h2k=>?_⟩,fun k hk=>?_⟩
 ·rcases(hC' k hk).1 with h | h
  ·exact h4 k h h2k
  ·have:=(hC k ((h3 k).2 (.inr h2k))).1;omega
 ·rcases hk with hk | hk
  ·obtain⟨a,b,c⟩:=hC' k hk;exact⟨a.imp (hsub k) id,b,c⟩
  ·obtain⟨a,b⟩:=hC k ((h3 k).2 (.inr hk));exact⟨.inl ((h3 k).2 (.inr hk)),zol a g.keep.size,(g.fresh k a fun h=>h4 k h hk).trans b⟩
def RetY.conv{f:FuncId}{C:Nat->Prop}{r:GR}(h:RetY P f args w B C r φ)(hi:∀ H u C,r.P H u C->r'.P H u C):RetY P f args w B C r' φ:=
 Calls.mono h fun _ _ ⟨v,he,H,g,hp,C',hv,hC'⟩=>⟨v,he,H,g,hp,C',hi _ _ _ hv,hC'⟩
def H6{r1 r2:GR}{H:Heap}{u:World}(h:(bw r1 r2).P H u C):(bw r2 r1).P H u C:=
 let ⟨C1,C2,h1,h2,h3,h4⟩:=h
 ⟨C2,C1,h2,h1,fun k=>(h3 k).trans or_comm,fun k a b=>h4 k b a⟩
section
variable        {d:Nat}      {a:Act} {u:World} 
end
end Go.V
section
open Go.V
attribute [local irreducible] Has N Pan Par Ret RetL RetO RetT RetX RetY Src StepOK V VO X XP ky
namespace Go.V.L11
open Go.V.L4
def _root_.Zd5(t:Wr Y->A:=by intro h;refine v8 900 901 rfl (cc _ _ _) ?_;exact h.1)(h:Y):A:=t ⟨h⟩
def _root_.ZeD(t:Wr Y->A:=by intro h;refine z7 (Mg Z Z Z J) Z ?_;exact h.1)(h:Y):A:=t ⟨h⟩
def _root_.ZeE(t:Wr Y->A:=by intro h;refine z7 (yz (cs:=[_,_]) Z Z zlz Z Z) Z ?_;exact h.1)(h:Y):A:=t ⟨h⟩
abbrev Qe:TypeId:=157
abbrev zmm:TypeId:=252
abbrev ke(sb rb:Nat)(sv:Value)(fr:Int)(R:Rd):GR:=bw (xe sb [kg rb,.int .i64 fr] Qe) (GRd rb sv R)
abbrev wrV(a e:Int):Value:=.iface zmm (.agg #[.int .i64 a,.int .i64 e])
def Ol{x:Int}(hfn:L.fn fr=some ())(he:R2.err=0){C:Nat->Prop}(hB:zry B w)(hr:(ke sb rb sv fr0 R).P B w C)(hC:ZCB C w B)(hf:∀ (u:World) (H:Heap) (C:Nat->Prop),zry H u->B.Le H->(ke sb rb sv R.at_ R).P H u C->(ZCB C u H)->RetX zrz fr (fst++cap) u H C (ke sb rb sv R.at_ R2) (.int .i64 x)):
  RetX zrz 136 [kg sb,.func (.func fr) fst.toArray cap.toArray] w B C (ke sb rb sv R.at_ R2) (.int .i64 x):=by
 unfold RetX;refine xh 900 (ke sb rb sv fr0 R) Tryz.func136 Z Tryz.ntmps136 (np Z) hB hr hC ?_;rw[vu,xf,xf];refine Zd5 (h:=?_);refine(Z4∘ZbK) ?_;refine qh (yi L 901 (GRd rb sv R) (.int .i64 R.at_) (r:=GRd rb sv R) Z Z Z Z Z (fun u H C2 hH _ hr2 hC2=>at_ret hH hr2 hC2)) (Zaa (h:=?_));refine xg (yj L (q:=900) (cs':=[kg rb,.int .i64 R.at_]) Z Z Z Z Z) (Zg (h:=?_));refine vk 900 901 rfl Z (xm (GRd rb sv R)) ?_;refine Zq (h:=?_);refine qh (jd L 900 (ke sb rb sv R.at_ R2) (.int .i64 x) (r:=ke sb rb sv R.at_ R) Z Z Z hfn Z hf) (Zj (h:=?_));refine v8 (r1:=(xe sb [kg rb,.int .i64 R.at_] Qe).res) (r2:=(GRd rb sv R2).res) 900 901 rfl (xm (GRd rb sv R2)) ?_;rw[xf];refine(Zx∘Zai) ?_;refine qh (yi L 901 (GRd rb sv R2) (.tuple #[.int .i64 R2.bad,.int .i64 R2.err]) (r:=GRd rb sv R2) Z Z Z Z Z (fun u H C2 hH _ hr2 hC2=>fault_ret hH hr2 hC2)) ((ZbH∘ZB∘Zaw∘ZL∘Ze) ?_);refine vk 900 901 rfl Z (xm (GRd rb sv R2)) ?_;exact ka L 900 (r:=ke sb rb sv R.at_ R2) (rs:=[.tmp 4]) Z (fun _ _ h=>h) nq Z Z (fun _=>rfl)
def Om{x:Int}(hfn:L.fn fr=some ())(he:R2.err≠0){C:Nat->Prop}(hB:zry B w)(hr:(ke sb rb sv fr0 R).P B w C)(hC:ZCB C w B)(hf:∀ (u:World) (H:Heap) (C:Nat->Prop),zry H u->B.Le H->(ke sb rb sv R.at_ R).P H u C->(ZCB C u H)->RetX zrz fr (fst++cap) u H C (ke sb rb sv R.at_ R2) (.int .i64 x)):
  Pan zrz 136 [kg sb,.func (.func fr) fst.toArray cap.toArray] w B C (wrV R2.bad R2.err):=by
 refine f7 900 (ke sb rb sv fr0 R) Tryz.func136 Z Tryz.ntmps136 (np Z) hB hr hC ?_;rw[vu,xf,xf];refine Zd5 (h:=?_);refine(Z4∘ZbK) ?_;refine qh (yi L 901 (GRd rb sv R) (.int .i64 R.at_) (r:=GRd rb sv R) Z Z Z Z Z (fun u H C2 hH _ hr2 hC2=>at_ret hH hr2 hC2)) (Zaa (h:=?_));refine xg (yj L (q:=900) (cs':=[kg rb,.int .i64 R.at_]) Z Z Z Z Z) (Zg (h:=?_));refine vk 900 901 rfl Z (xm (GRd rb sv R)) ?_;refine Zq (h:=?_);refine qh (jd L 900 (ke sb rb sv R.at_ R2) (.int .i64 x) (r:=ke sb rb sv R.at_ R) Z Z Z hfn Z hf) (Zj (h:=?_));refine v8 (r1:=(xe sb [kg rb,.int .i64 R.at_] Qe).res) (r2:=(GRd rb sv R2).res) 900 901 rfl (xm (GRd rb sv R2)) ?_;rw[xf];refine(Zx∘Zai) ?_;refine qh (yi L 901 (GRd rb sv R2) (.tuple #[.int .i64 R2.bad,.int .i64 R2.err]) (r:=GRd rb sv R2) Z Z Z Z Z (fun u H C2 hH _ hr2 hC2=>fault_ret hH hr2 hC2)) ((ZbH∘ZB∘Zc8∘Z3) ?_);refine jw (id:=5) 4 rfl ((Zb∘ZeE∘ZeD∘Zac) ?_);refine Do (K:=4) Z Z Z ?_
 repeat (first | refine wl ?_ | refine jo ?_)
 exact db nq
def oh{x:Int}(hfn:L.fn fr=some ())(he:R2.err=0){C:Nat->Prop}(hB:zry B w)(hr:(ke sb rb sv fr0 R).P B w C)(hC:ZCB C w B)(hf:∀ (u:World) (H:Heap) (C:Nat->Prop),zry H u->B.Le H->(ke sb rb sv R.at_ R).P H u C->(ZCB C u H)->RetX zrz fr (fst++cap) u H C (ke sb rb sv R.at_ R2) (.int .u64 x)):
  RetX zrz 75 [kg sb,.func (.func fr) fst.toArray cap.toArray] w B C (ke sb rb sv R.at_ R2) (.int .u64 x):=by
 unfold RetX;refine xh 900 (ke sb rb sv fr0 R) Tryz.func75 Z Tryz.ntmps75 (np Z) hB hr hC ?_;rw[vu,xf,xf];refine Zd5 (h:=?_);refine(Z4∘ZbK) ?_;refine qh (yi L 901 (GRd rb sv R) (.int .i64 R.at_) (r:=GRd rb sv R) Z Z Z Z Z (fun u H C2 hH _ hr2 hC2=>at_ret hH hr2 hC2)) (Zaa (h:=?_));refine xg (yj L (q:=900) (cs':=[kg rb,.int .i64 R.at_]) Z Z Z Z Z) (Zg (h:=?_));refine vk 900 901 rfl Z (xm (GRd rb sv R)) ?_;refine Zq (h:=?_);refine qh (jd L 900 (ke sb rb sv R.at_ R2) (.int .u64 x) (r:=ke sb rb sv R.at_ R) Z Z Z hfn Z hf) (Zj (h:=?_));refine v8 (r1:=(xe sb [kg rb,.int .i64 R.at_] Qe).res) (r2:=(GRd rb sv R2).res) 900 901 rfl (xm (GRd rb sv R2)) ?_;rw[xf];refine(Zx∘Zai) ?_;refine qh (yi L 901 (GRd rb sv R2) (.tuple #[.int .i64 R2.bad,.int .i64 R2.err]) (r:=GRd rb sv R2) Z Z Z Z Z (fun u H C2 hH _ hr2 hC2=>fault_ret hH hr2 hC2)) ((ZbH∘ZB∘Zaw∘ZL∘Ze) ?_);refine vk 900 901 rfl Z (xm (GRd rb sv R2)) ?_;exact ka L 900 (r:=ke sb rb sv R.at_ R2) (rs:=[.tmp 4]) Z (fun _ _ h=>h) nq Z Z (fun _=>rfl)
def Oj{x:Int}(hfn:L.fn fr=some ())(he:R2.err≠0){C:Nat->Prop}(hB:zry B w)(hr:(ke sb rb sv fr0 R).P B w C)(hC:ZCB C w B)(hf:∀ (u:World) (H:Heap) (C:Nat->Prop),zry H u->B.Le H->(ke sb rb sv R.at_ R).P H u C->(ZCB C u H)->RetX zrz fr (fst++cap) u H C (ke sb rb sv R.at_ R2) (.int .u64 x)):
  Pan zrz 75 [kg sb,.func (.func fr) fst.toArray cap.toArray] w B C (wrV R2.bad R2.err):=by
 refine f7 900 (ke sb rb sv fr0 R) Tryz.func75 Z Tryz.ntmps75 (np Z) hB hr hC ?_;rw[vu,xf,xf];refine Zd5 (h:=?_);refine(Z4∘ZbK) ?_;refine qh (yi L 901 (GRd rb sv R) (.int .i64 R.at_) (r:=GRd rb sv R) Z Z Z Z Z (fun u H C2 hH _ hr2 hC2=>at_ret hH hr2 hC2)) (Zaa (h:=?_));refine xg (yj L (q:=900) (cs':=[kg rb,.int .i64 R.at_]) Z Z Z Z Z) (Zg (h:=?_));refine vk 900 901 rfl Z (xm (GRd rb sv R)) ?_;refine Zq (h:=?_);refine qh (jd L 900 (ke sb rb sv R.at_ R2) (.int .u64 x) (r:=ke sb rb sv R.at_ R) Z Z Z hfn Z hf) (Zj (h:=?_));refine v8 (r1:=(xe sb [kg rb,.int .i64 R.at_] Qe).res) (r2:=(GRd rb sv R2).res) 900 901 rfl (xm (GRd rb sv R2)) ?_;rw[xf];refine(Zx∘Zai) ?_;refine qh (yi L 901 (GRd rb sv R2) (.tuple #[.int .i64 R2.bad,.int .i64 R2.err]) (r:=GRd rb sv R2) Z Z Z Z Z (fun u H C2 hH _ hr2 hC2=>fault_ret hH hr2 hC2)) ((ZbH∘ZB∘Zc8∘Z3) ?_);refine jw (id:=5) 4 rfl ((Zb∘ZeE∘ZeD∘Zac) ?_);refine Do (K:=4) Z Z Z ?_
 repeat (first | refine wl ?_ | refine jo ?_)
 exact db nq
def kr{e:Int}(hB:zry B w)(hr:(ke sb rb sv fr0 R).P B w C)(hC:ZCB C w B):ky zrz 74 [kg sb,.bool true,.int .i64 e] w B C (ke sb rb sv fr0 R):=by
 unfold ky;refine xh 900 (ke sb rb sv fr0 R) Tryz.func74 Z Tryz.ntmps74 (np Z) hB hr hC ((Zad∘Za∘Zw∘Zas) ?_);exact xz L 900 (r:=ke sb rb sv fr0 R) Z (fun _ _ h=>h) nq Z Z
def pf{e:Int}(hB:zry B w)(hr:(ke sb rb sv fr0 R).P B w C)(hC:ZCB C w B):Pan zrz 74 [kg sb,.bool false,.int .i64 e] w B C (wrV fr0 e):=by
 refine f7 900 (ke sb rb sv fr0 R) Tryz.func74 Z Tryz.ntmps74 (np Z) hB hr hC ?_;rw[vu,xf,xf];refine Zd5 (h:=?_);refine(Zad∘Za∘Zw∘Z3) ?_;refine jw (id:=1) 7 rfl ((Za∘Zai∘Za∘ZeE∘ZeD∘Zac) ?_);refine Do (K:=7) Z Z Z ?_
 repeat (first | refine wl ?_ | refine jo ?_)
 exact db nq
def Lo{b2 b3:Nat}{bs:List Nat}(hb:∀ b∈bs,b<=255)(hl:bs.length<=1099511627776)(hat:R.at_<=bs.length)(hlim:lim<=1099511627776)(hB:zry B w)(hs:BsV bs fu sv B)(h2:B b2=some (.cells #[kg sb] 153))(h3:B b3=some (.cells #[.int .i64 lim] 3))(hr:(ke sb rb sv fr0 R).P B w C)(hC:ZCB C w B):
  RetX zrz 137 [kg b2,kg b3] w B C (ke sb rb sv fr0 (jy bs lim R).2) (.int .i64 (jy bs lim R).1):=by
 unfold RetX;refine xh 900 (ke sb rb sv fr0 R) Tryz.func137 Z Tryz.ntmps137 (np Z) hB hr hC ?_;rw[vu,xf,xf];refine Zd5 (h:=?_);refine(Zad∘Zc) ?_;refine qp (id:=1) [(200006,[900]),(8,[901])] kj J (z9 (ql L (qw Z h2) Z Z Z Z) Z ((Zcx∘Zdq) ?_));refine z9 (ql L (qw Z h3) Z Z Z Z) Z (xx (yi L 901 (GRd rb sv (jy bs lim R).2) (.int .i64 (jy bs lim R).1) (r:=GRd rb sv R) Z Z Z Z Z (fun u H C2 hH hle hr2 hC2=>len_ret hlim hb hl hat hH (hs.le hle) hr2 hC2)) Z Z (Zav (h:=?_)));refine vk 900 901 rfl Z (xm (GRd rb sv (jy bs lim R).2)) ?_;exact ka L 900 (r:=ke sb rb sv fr0 (jy bs lim R).2) (rs:=[.tmp 2]) Z (fun _ _ h=>h) nq Z Z (fun _=>rfl)
def size_ret{bs:List Nat}(hb:∀ b∈bs,b<=255)(hl:bs.length<=1099511627776)(hat:R.at_<=bs.length)(hlim:lim<=1099511627776)(he:(jy bs lim R).2.err=0)(hB:zry B w)(hs:BsV bs fu sv B)(hr:(ke sb rb sv fr0 R).P B w C)(hC:ZCB C w B):
  RetX zrz 73 [kg sb,.int .i64 lim] w B C (ke sb rb sv R.at_ (jy bs lim R).2) (.int .i64 (jy bs lim R).1):=by
 unfold RetX;refine xh 900 (ke sb rb sv fr0 R) Tryz.func73 Z Tryz.ntmps73 (np Z) hB hr hC ((ZaU∘ZdI∘Zc) ?_);refine ku 2 902 rfl fun b2=>?_;refine ku 3 903 rfl fun b3=>?_;refine wn 902 rfl fun H1 hs1 _ h2=>?_;refine wn 903 rfl fun H2 hs2 _ h3=>?_;have h2:=hs2.le _ _ h2;have hs12:=hs1.trans hs2;have hs':=hs.le hs12.le;have hcl:∀ (u:World) (H:Heap) (C:Nat->Prop),H2.Le H->zry H u->(ke sb rb sv R.at_ R).P H u C->(ZCB C u H)->RetX zrz 137 ([]++[kg b2,kg b3]) u H C (ke sb rb sv R.at_ (jy bs lim R).2) (.int .i64 (jy bs lim R).1):=fun u H C3 hle hH hr3 hC3=>Lo hb hl hat hlim hH (hs'.le hle) (hle _ _ h2) (hle _ _ h3) hr3 hC3;refine Z9 (h:=?_);refine z7 (ql L (qw Z h2) Z Z Z Z) Z (ZaQ (h:=?_));refine qh (yi L 900 (ke sb rb sv R.at_ (jy bs lim R).2) (.int .i64 (jy bs lim R).1) (r:=ke sb rb sv fr0 R) Z Z Z Z Z (fun u H C2 hH hle hr2 hC2=>Ol (fst:=[]) (cap:=[kg b2,kg b3]) Z he hH hr2 hC2 (fun u3 H3 C3 hH3 hle3 hr3 hC3=>hcl u3 H3 C3 (hle.trans hle3) hH3 hr3 hC3))) (Ze (h:=?_));exact ka L 900 (r:=ke sb rb sv R.at_ (jy bs lim R).2) (rs:=[.tmp 4]) Z (fun _ _ h=>h) hs12 Z Z (fun _=>rfl)
def Gr{bs:List Nat}(hb:∀ b∈bs,b<=255)(hl:bs.length<=1099511627776)(hat:R.at_<=bs.length)(hlim:lim<=1099511627776)(he:(jy bs lim R).2.err≠0)(hB:zry B w)(hs:BsV bs fu sv B)(hr:(ke sb rb sv fr0 R).P B w C)(hC:ZCB C w B):
  Pan zrz 73 [kg sb,.int .i64 lim] w B C (wrV (jy bs lim R).2.bad (jy bs lim R).2.err):=by
 refine f7 900 (ke sb rb sv fr0 R) Tryz.func73 Z Tryz.ntmps73 (np Z) hB hr hC ((ZaU∘ZdI∘Zc) ?_);refine ku 2 902 rfl fun b2=>?_;refine ku 3 903 rfl fun b3=>?_;refine wn 902 rfl fun H1 hs1 _ h2=>?_;refine wn 903 rfl fun H2 hs2 _ h3=>?_;have h2:=hs2.le _ _ h2;have hs12:=hs1.trans hs2;have hs':=hs.le hs12.le;have hcl:∀ (u:World) (H:Heap) (C:Nat->Prop),H2.Le H->zry H u->(ke sb rb sv R.at_ R).P H u C->(ZCB C u H)->RetX zrz 137 ([]++[kg b2,kg b3]) u H C (ke sb rb sv R.at_ (jy bs lim R).2) (.int .i64 (jy bs lim R).1):=fun u H C3 hle hH hr3 hC3=>Lo hb hl hat hlim hH (hs'.le hle) (hle _ _ h2) (hle _ _ h3) hr3 hC3;refine jw (id:=1) 2 rfl (z7 (ql L (qw Z h2) Z Z Z Z) Z ((ZaQ∘Zac) ?_));refine ju (r:=(ke sb rb sv fr0 R).res) (K:=2) L 900 rfl Z Z Z Z (fun u H C2 hH hle hr2 hC2=>Om (fst:=[]) (cap:=[kg b2,kg b3]) Z he hH hr2 hC2 (fun u3 H3 C3 hH3 hle3 hr3 hC3=>hcl u3 H3 C3 (hle.trans hle3) hH3 hr3 hC3)) (fun _ _ _ _ h=>h) ?_
 repeat (first | refine wl ?_ | refine jo ?_)
 exact db hs12
def Sx(hl:bs.length<=1099511627776)(hat:R.at_<=bs.length)(he:(ew bs R).2=0)(hB:zry B w)(hs:BsV bs fu sv B)(hr:(ke sb rb sv fr0 R).P B w C)(hC:ZCB C w B):
  ky zrz 79 [kg sb] w B C (ke sb rb sv fr0 R):=by
 unfold ky;refine xh 900 (ke sb rb sv fr0 R) Tryz.func79 Z Tryz.ntmps79 (np Z) hB hr hC ?_;rw[vu,xf,xf];refine Zd5 (h:=?_);refine(Zad∘Za∘Zai) ?_;refine qh (yi L 901 (GRd rb sv R) (.tuple #[.int .i64 (ew bs R).1,.int .i64 (ew bs R).2]) (r:=GRd rb sv R) Z Z Z Z Z (fun u H C2 hH hle hr2 hC2=>zal hl hat hH (hs.le hle) hr2 hC2)) ((ZH∘Zh∘Zbk∘Za7∘Zas) ?_);refine ou 900 901 rfl Z (xm (GRd rb sv R)) ?_;exact xz L 900 (r:=ke sb rb sv fr0 R) Z (fun _ _ h=>h) nq Z Z
def Sy(hl:bs.length<=1099511627776)(hat:R.at_<=bs.length)(he:(ew bs R).2≠0)(hB:zry B w)(hs:BsV bs fu sv B)(hr:(ke sb rb sv fr0 R).P B w C)(hC:ZCB C w B):
  Pan zrz 79 [kg sb] w B C (wrV (ew bs R).1 (ew bs R).2):=by
 refine f7 900 (ke sb rb sv fr0 R) Tryz.func79 Z Tryz.ntmps79 (np Z) hB hr hC ?_;rw[vu,xf,xf];refine Zd5 (h:=?_);refine(Zad∘Za∘Zai) ?_;refine qh (yi L 901 (GRd rb sv R) (.tuple #[.int .i64 (ew bs R).1,.int .i64 (ew bs R).2]) (r:=GRd rb sv R) Z Z Z Z Z (fun u H C2 hH hle hr2 hC2=>zal hl hat hH (hs.le hle) hr2 hC2)) ((ZH∘Zh∘Zbk∘Zc8∘Z3) ?_);refine jw (id:=2) 4 rfl ((Zb∘ZeE∘ZeD∘Zac) ?_);refine Do (K:=4) Z Z Z ?_
 repeat (first | refine wl ?_ | refine jo ?_)
 exact db nq
end Go.V.L11
end
namespace Go.V
section rec
variable {F:Fence} {nn:Nat}  {Q:Exit->Act->List Frame->World->Prop} {a:Act} {cs:List Frame} 
def Gc{id d:Nat}{l:List Oper}{cs':List Frame}(hro:F.round=none)(hd:o.dst=some d)(hop:o.op=.call { callee:=.builtin .recover,args:=#[],argTypes:=#[] })(hgd:o.guard=none)(hrec:(recoverD cs=some (v,cs'))\/(recoverD cs=none/\v=.nilIface/\cs'=cs))
  (h:wpOpsIn F nn P (o::l).toArray (fun e a' w'=>Q e a' cs' w') (List.range' 1 l.length) (a.put (some d) v) w):(Code.region id (o::l).toArray false).wpSIn F nn P Q a cs w:=fun b k hb hr hF hroom=>by
 have hlen:cs'.length=cs.length:=by
  rcases hrec with h | ⟨_,_,rfl⟩
  ·exact recoverD_length h
  ·rfl
 obtain⟨e,a',w',hq,harr⟩:=wp_opsIn _ _ _ h b k cs' (hr.trans hro.symm) hF (hlen ▸ hroom);have hsz:List.range (o::l).toArray.size=0::List.range' 1 l.length:=by rw[zp6];simp [zp7]
 have ho:(o::l).toArray[0]?=some o:=by simp
 have hw:Region.wanted o (yielded (o::l).toArray a.tmps)=true:=by unfold Region.wanted;rw[hgd]
 have hg:=stepGR_op (P:=P) (b:=b) (k:=k) (cs:=cs) (w:=w) (rest:=List.range' 1 l.length) ho hw;rw[hr,Oper.semAt_none] at hg;have hrun:(execOp a.eval o).run P w=.ok .recover w:=by unfold execOp;rw[hop];rfl
 have hfin:∀ v,(b.atR a (.inRegion (o::l).toArray (0::List.range' 1 l.length)::k)).finish v=b.atR (a.put o.dst v) (.inRegion (o::l).toArray (List.range' 1 l.length)::k):=by
  intro v;rw[Frame.finish_atR,ho];rfl
 have hk:(b.atR a (.inRegion (o::l).toArray (0::List.range' 1 l.length)::k)).kind=.deferred:=hb;have htr:=tryRecover_deferred hk cs
 have habout:∀ f,o.about P w a.eval=some f->F.fn f:=fun f hf=>by
  unfold Oper.about at hf;rw[hop] at hf;cases hf
 have hst:step P (lone (b.atR a (.inRegion (o::l).toArray (0::List.range' 1 l.length)::k)) cs w)=.next (lone (b.atR (a.put (some d) v) (.inRegion (o::l).toArray (List.range' 1 l.length)::k)) cs' w):=by
  refine step_lone_go ?_;rw[hg,<-hd,<-hfin];simp only[Frame.atR,hr] at htr |-;rcases hrec with h1 | ⟨h1,rfl,rfl⟩
  ·simp [stepG.apply,hrun,htr,h1]
  ·simp [stepG.apply,hrun,htr,h1]
 have hreg:step P (lone (b.atR a (.code (.region id (o::l).toArray false)::k)) cs w)=_:=stepR_region;rw[hsz] at hreg;exact⟨e,a',cs',w',hlen,hq,.of_steps (.one (fenced_calm hF hroom Z) hreg) (.of_steps (.one (fenced_oper hF hroom ho habout) hst) harr)⟩
end rec
section code
def QR(P:Program)(F:Fr)(ops:Array Oper)(K:Nat)(Q:Exit->Act->World->Prop):Exit->Act->World->Prop:=fun _ a u=>wpOpsIn (FW F.r) 0 P ops Q (List.range' K (ops.size-K)) a u
def zbe{id:Nat}{l:List Oper}(K:Nat)(hK:Nat.ble K l.length=true)(h:VO P F B n O l.toArray κ (l.take K) (QR P F l.toArray K Q)):V P F B n O κ (.region id l.toArray false) Q:=fun a u hh=>by
 refine wpIn_region ?_;have hK:=np hK
 have hsplit:List.range l.toArray.size=List.range' 0 K++List.range' K (l.toArray.size-K):=by
  rw[zp6];have:=List.range'_append_1 (s:=0) (m:=K) (n:=l.toArray.size-K);rw[znk] at this;rw[this,Nat.add_sub_cancel' (by simpa using hK)]
 rw[hsplit]
 have key:∀ (m i:Nat) {a:Act} {u:World},i+m=K->Ops P l.toArray (fun a u=>QR P F l.toArray K Q .normal a u) ((l.drop i).take m) a u->
   wpOpsIn (FW F.r) 0 P l.toArray Q (List.range' i m++List.range' K (l.toArray.size-K)) a u:=by
  intro m
  induction m with
  | zero=>
   intro i a u hi ho;rw[zn6] at ho;exact ho
  | succ m ih=>
   intro i a u hi ho;have hil:i<l.length:=I;rw[zn0 hil,zpm] at ho;have hg:l.toArray[i]?=some l[i]:=by rw[zp9,zob hil]
   rw[zp7,znt,wpOpsIn_cons];exact After.wpOpIn hg (After.mono (fun a' u' hh'=>ih (i+1) I hh') ho)
 exact key K 0 I (by rw[zn5];exact h a u hh)
abbrev dfd(f:Nat)(cap:List Value):Deferred:={ target:=.fn (.func f) cap.toArray,args:=#[] }
def zg9{fo:Operand}(hds:F.ds=[])(hr:F.r=none)
  (ho:ops[K]?=some ⟨none,.defer { callee:=.value fo,args:=#[],argTypes:=#[] },ty,pos,aft,none⟩) (hf:evK κ fo=some (.func (.func f) #[] cap.toArray))
  (h:VO P ⟨F.w0,F.r,[.u (dfd f cap)],F.L⟩ B n O ops κ (ops.toList.drop (K+1)) Q):N F B n O κ (QR P F ops K Q):=by
 rintro a u ⟨H,fp,hh⟩
 have hKs:K<ops.size:=by
  rcases zni K ops.size with h | h
  ·exact h
  ·rw[zo2 h] at ho;cases ho
 unfold QR;rw[show ops.size-K=(ops.size-(K+1))+1 by omega,zp7,wpOpsIn_cons];unfold wpOpIn;rw[ho];dsimp only;rw[if_pos (by unfold Region.wanted;rfl)];have e2:=hh.env (ops:=ops) (o:=⟨none,.defer { callee:=.value fo,args:=#[],argTypes:=#[] },ty,pos,aft,none⟩) (κ:=κ) (fun _ _=>rfl);have hfe:a.eval fo=.func (.func f) #[] cap.toArray:=e2.is_ fo _ (by simp [Op.operands,Call.operands]) hf;refine⟨fun _ _=>trivial,?_⟩;have hround:(FW F.r).round=none:=by rw[hr];rfl
 rw[hround,Oper.semAt_none]
 have hrun:(execOp a.eval ⟨none,.defer { callee:=.value fo,args:=#[],argTypes:=#[] },ty,pos,aft,none⟩).run P u=.ok (.defer (dfd f cap)) u:=by
  unfold execOp;dsimp only;simp only[resolve,hfe,Deferred.ofValue,ny,mg,mb];simp [dfd]
 rw[hrun,Oper.uponIn_defer];have had:a.defers=[]:=by have:=hh.defers;rw[hds] at this;exact this
 refine d9 (fun _ _ h=>h) (ops.size-(K+1)) (K+1) I (h _ u ⟨H,fp,?_⟩);exact⟨hh.size,by show dfd f cap::a.defers=_;rw[had];rfl,by simp,fun D hD=>by simp at hD,hh.lent,hh.keep,hh.sub,hh.base,hh.fresh,hh.boxes,hh.apart,hh.slot,hh.owns,hh.mono⟩
def ay(P:Program)(f:Nat)(args:List Value)(w:World)(B:Heap)(C:Nat->Prop)(m m':FrameMode)(r:GR):Prop:=
 CallsDIn Fence.wide 0 P f args.toArray m w fun e u' w'=>e=.returned (.tuple #[])/\u'=m'/\∃ H,Grow C w B w' H/\∃ C',r.P H w' C'/\∀ k,C' k->(C k\/w.heap.size<=k)/\k<w'.heap.size/\H k=none
def zh9(P:Program)(fn:Func)(R:World->Prop):Exit->Act->World->Prop
 | .normal,a,w | .ret,a,w=>a.defers=[]/\(results fn a.tmps).run P w=.ok (.tuple #[]) w/\R w
 | _,_,_=>False
inductive RecM:FrameMode->FrameMode->Value->Prop where
 | idle:RecM .returning .returning .nilIface
 | caught (v:Value):RecM (.panicking [{ v:=v,recovered:=false }]) (.panicking [{ v:=v,recovered:=true }]) v
def zep{fn:Func}{id d:Nat}{l:List Oper}{y:Code}{m m':FrameMode}(gs:Nat)(r0 r:GR)(hm:RecM m m' v)(hf:P.funcs[f]?=some fn)
  (hb:fn.body=some (.seq (.region id (o::l).toArray false) y)) (hn:fn.ntmps=n) (hs:args.length<=n) (hd:o.dst=some d) (hdn:Nat.blt d n=true) (hop:o.op=.call { callee:=.builtin .recover,args:=#[],argTypes:=#[] }) (hgd:o.guard=none) (hB:zry B w) (hr:r0.P B w C) (hC:ZCB C w B)
  (h:VO P ⟨w,none,[],C⟩ B n [] (o::l).toArray (upd (upd (As 0 args) gs (.own r0.res)) d (.is v)) l (Exit.then (fun a u=>y.wpIn (FW none) 0 P (zh9 P fn fun u=>∃ H,Grow C w B u H/\∃ C',r.P H u C'/\∀ k,C' k->(C k\/w.heap.size<=k)/\k<u.heap.size/\H k=none) a u) (zh9 P fn fun u=>∃ H,Grow C w B u H/\∃ C',r.P H u C'/\∀ k,C' k->(C k\/w.heap.size<=k)/\k<u.heap.size/\H k=none))):
  ay P f args w B C m m' r:=by
 refine callsDIn_of_wpSIn hf hb trivial fun c0 cs hu=>?_
 have hrec:∃ cs',((recoverD (c0::cs)=some (v,cs'))\/(recoverD (c0::cs)=none/\v=.nilIface/\cs'=c0::cs))/\cs'={ c0 with mode:=m' }::cs:=by
  cases hm with
  | idle=>exact⟨_,.inr ⟨by simp [recoverD,hu],rfl,rfl⟩,by rw[<-hu]⟩
  | caught v=>exact⟨_,.inl (by simp [recoverD,hu]),rfl⟩
 obtain⟨cs',hrec,rfl⟩:=hrec
 have hend:∀ e a u,zh9 P fn (fun u=>∃ H,Grow C w B u H/\∃ C',r.P H u C'/\∀ k,C' k->(C k\/w.heap.size<=k)/\k<u.heap.size/\H k=none) e a u->
   bodyPostS P fn c0 cs (fun e u' w'=>e=.returned (.tuple #[])/\u'=m'/\∃ H,Grow C w B w' H/\∃ C',r.P H w' C'/\∀ k,C' k->(C k\/w.heap.size<=k)/\k<w'.heap.size/\H k=none) e a ({ c0 with mode:=m' }::cs) u:=fun e a u he=>by
  cases e with
  | normal=>exact⟨he.1,m',rfl,_,he.2.1,rfl,rfl,he.2.2⟩
  | ret=>exact⟨he.1,m',rfl,_,he.2.1,rfl,rfl,he.2.2⟩
  | exit id=>exact he.elim
  | goto l=>exact he.elim
  | panic c=>exact he.elim
  | outgrown=>exact he.elim
 refine wpSIn_seq (Gc (cs':={ c0 with mode:=m' }::cs) Z hd hop hgd hrec ?_);subst hn;have h0:=bl (B:=B) C (fun k hk=>(hC k hk).1) hs hB (fun _=>noL)
 have h1:HasH ⟨w,none,[],C⟩ B [] fn.ntmps (upd (As 0 args) gs (.own r0.res)) { tmps:=args.toArray++Array.replicate (fn.ntmps-args.toArray.size) undef,defers:=[] } w B _:=h0.putR (d:=gs) (r:=r0.res) rfl rfl (fun _ _=>rfl) hr (fun k hk=>⟨(hC k hk).1,(hC k hk).2,.inr hk,fun y hy=>by cases hy⟩) fun t r' _ ht=>by
  obtain⟨v,hv,_⟩:=gl _ _ _ _ ht;cases hv
 have h2:=h1.put (d:=d) (k:=.is v) (v:=v) (zp hdn) trivial rfl;have h3:=h _ w ⟨B,_,h2⟩;refine d9 (Q:=fun a u=>Exit.then (fun a u=>y.wpIn (FW none) 0 P (zh9 P fn fun u=>∃ H,Grow C w B u H/\∃ C',r.P H u C'/\∀ k,C' k->(C k\/w.heap.size<=k)/\k<u.heap.size/\H k=none) a u) (zh9 P fn fun u=>∃ H,Grow C w B u H/\∃ C',r.P H u C'/\∀ k,C' k->(C k\/w.heap.size<=k)/\k<u.heap.size/\H k=none) .normal a u) (r:=none) (fun a u hy=>?_) l.length 1 (by simp;omega) (by simpa using h3);exact wpSIn_of_wpIn Z (Go.wpIn_mono hy fun e a u he=>hend e a u he)
def zcr(L:Tabs P){fn:Func}(gs:Nat){r:GR}(hrs:fn.results=#[])(hd:F.ds=[])(hk:κ gs=some (.own r.res))(hs:Since F B0 B):∀ a u,Has F B O n κ a u->
  zh9 P fn (fun u=>∃ H,Grow F.L F.w0 B0 u H/\∃ C',r.P H u C'/\∀ k,C' k->(F.L k\/F.w0.heap.size<=k)/\k<u.heap.size/\H k=none) .normal a u:=fun a u hh=>by
 obtain⟨H,fp,hH⟩:=hh;have h0:=hH.defers;rw[hd] at h0;refine⟨h0,?_,H,⟨hH.keep,hH.sub,hs.le.trans hH.base,fun k hk hl=>(hH.fresh k hk hl).trans (hs.fresh k hk hl)⟩,HasH.ghost hk hH⟩;obtain⟨vs,h1,h2⟩:=wi L hH (rs:=[]) hrs (K:=fun vs=>vs=[]) rfl;subst h2;exact h1
def zbh(L:Tabs P){fn:Func}(gs:Nat){r:GR}(hrs:fn.results=#[])(hk:κ gs=some (.own r.res))(e:r=r')(hs:Since F B0 B)(hd:F.ds=[]:=by rfl):
  N F B n O κ (zh9 P fn fun u=>∃ H,Grow F.L F.w0 B0 u H/\∃ C',r'.P H u C'/\∀ k,C' k->(F.L k\/F.w0.heap.size<=k)/\k<u.heap.size/\H k=none):=by
 subst e;exact zcr L gs hrs hd hk hs
def LV(P:Program)(F:Fr)(B:Heap)(n:Nat)(O:Boxes)(κ:Kap)(fn:Func)(R:Ending->World->Prop):Prop:=∀ a u,Has F B O n κ a u->∃ v,(results fn a.tmps).run P u=.ok v u/\R (.returned v) u
def Mv(L:Tabs P){fn:Func}{R:Ending->World->Prop}{m m':FrameMode}(q:Nat){r:GR}(hds:F.ds=[.u (dfd f cap)])(hfn:L.fn f=some ())(hq:κ q=some (.own r.res))(hm:m≠.run)(hm':settle m'=.returning)
  (hc:∀ u H C,zry H u->B.Le H->r.P H u C->(ZCB C u H)->ay P f cap u H C m m' r') (h:LV P ⟨F.w0,F.r,[],F.L⟩ B n O (upd κ q (.own r'.res)) fn R):
  ∀ a u,Has F B O n κ a u->LeavesInM Fence.wide 0 P fn a.tmps R a.defers m u:=fun a u hh=>by
 obtain⟨H,fp,hH⟩:=hh;have h0:=hH.defers;rw[hds] at h0;rw[h0];obtain⟨hown,hM⟩:=hH.slot q _ hq;have hc:=hc u H (fp q) hH.sub hH.base hown fun k hk=>⟨(hM k hk).1,(hM k hk).2.1⟩
 refine⟨hm,.inr ⟨fun h=>(by cases h),.func f,cap.toArray,f,cap.toArray,Z,?_,fun _ _=>trivial,?_⟩⟩
 ·show(callFunc f (#[]++cap.toArray)).run P u=_;rw[pg L hfn];simp
 ·refine CallsDIn.mono hc fun e u' w' hp=>?_;obtain⟨rfl,rfl,H',g',C',hr',hC'⟩:=hp;show LeavesInM Fence.wide 0 P fn a.tmps R [] (settle u') w';rw[hm'];have h2:=hH.usePut (d:=q) (a':=a) (r':=r'.res) hq g' rfl rfl (fun _ _=>rfl) hr' hC';rw[j8] at h2;exact h { a with defers:=[] } w' ⟨H',_,h2.size,rfl,zoy,fun D hD=>(by cases hD),h2.lent,h2.keep,h2.sub,h2.base,h2.fresh,h2.boxes,h2.apart,h2.slot,h2.owns,h2.mono⟩
def zku(L:Tabs P){fn:Func}{R:Ending->World->Prop}(q:Nat){r:GR}(hds:F.ds=[.u (dfd f cap)])(hfn:L.fn f=some ())(hq:κ q=some (.own r.res))
  (hc:∀ u H C,zry H u->B.Le H->r.P H u C->(ZCB C u H)->ay P f cap u H C .returning .returning r') (h:LV P ⟨F.w0,F.r,[],F.L⟩ B n O (upd κ q (.own r'.res)) fn R) (hQ:∀ a u,bodyPostM Fence.wide 0 P fn R .ret a u->Q .ret a u):
  V P F B n O κ .ret Q:=fun a u hh=>wpIn_ret (hQ a u (Mv L q hds hfn hq (by simp) rfl hc h a u hh))
def zfq(L:Tabs P){fn:Func}{R:Ending->World->Prop}(q:Nat){r:GR}(hds:F.ds=[.u (dfd f cap)])(hfn:L.fn f=some ())(hq:κ q=some (.own r.res))
  (hc:∀ u H C,zry H u->B.Le H->r.P H u C->(ZCB C u H)->ay P f cap u H C (.panicking [{ v:=pv,recovered:=false }]) (.panicking [{ v:=pv,recovered:=true }]) r') (h:LV P ⟨F.w0,F.r,[],F.L⟩ B n O (upd κ q (.own r'.res)) fn R)
  (hQ:∀ a u,bodyPostM Fence.wide 0 P fn R (.panic [{ v:=pv,recovered:=false }]) a u->Q (.panic [{ v:=pv,recovered:=false }]) a u):XP F B n O κ pv Q:=fun a u hh=>hQ a u (Mv L q hds hfn hq (by simp) rfl hc h a u hh)
def zjy(L:Tabs P){fn:Func}{rs:List ResultVar}(hrs:fn.results=rs.toArray)(hs:Since F B0 B)(h:∀ u H,zry H u->B.Le H->En L F B O κ H rs [] (fun vs=>φ (tup vs) H)):LV P F B n O κ fn (lh F.w0 B0 F.L fun v H _=>φ v H):=fun a u hh=>by
 obtain⟨H,fp,hH⟩:=hh;obtain⟨vs,h1,h2⟩:=wi L hH hrs (h u H hH.sub hH.base);exact⟨_,h1,_,rfl,H,⟨hH.keep,hH.sub,hs.le.trans hH.base,fun k hk hl=>(hH.fresh k hk hl).trans (hs.fresh k hk hl)⟩,h2⟩
def zde(L:Tabs P){fn:Func}(gs:Nat){r0:GR}{r:Res}{rs:List ResultVar}(hrs:fn.results=rs.toArray)(hs:Since F B0 B)(hk:κ gs=some (.own r0.res))
  (h:∀ H,En L F B O κ H rs [] (fun vs=>tup vs=v)) (hr:∀ H u C,B.Le H->zry H u->r0.P H u C->r.P v H u C) (hL:F.L=noL:=by rfl):LV P F B n O κ fn (lh F.w0 B0 F.L (zia F.w0 r)):=fun a u hh=>by
 obtain⟨H,fp,hH⟩:=hh;obtain⟨vs,h1,h2⟩:=wi L hH hrs (h H);obtain⟨hown,hM⟩:=hH.slot gs _ hk;refine⟨_,h1,_,rfl,H,⟨hH.keep,hH.sub,hs.le.trans hH.base,fun k hk hl=>(hH.fresh k hk hl).trans (hs.fresh k hk hl)⟩,fp gs,?_,fun k hk=>?_⟩
 ·rw[h2];exact hr H u (fp gs) hH.base hH.sub hown
 ·obtain⟨g1,g2,g3,_⟩:=hM k hk;refine⟨?_,g1,g2⟩;rcases g3 with g3 | g3
  ·exact g3
  ·have g3':F.L k:=g3;rw[hL] at g3';exact g3'.elim
def Hi(q g1:Nat){fn:Func}{R:Ending->World->Prop}{r1 r2:Res}(hk:κ q=some (.own (ov r1 r2)))(hg1:∀ v v' H u C,r2.P v H u C->r2.P v' H u C)(h:LV P F B n O (upd (upd κ q (.own r1)) g1 (.own r2)) fn R)(hne:q≠g1:=by decide):LV P F B n O κ fn R:=fun a u hh=>h a u (hh.part hne hg1 hk)
def l8(t q:Nat){fn:Func}{R:Ending->World->Prop}(hk:κ q=some (.own (xn b cs ty)))(ht:κ t=some (.is (.pointer (some ⟨b,0,none⟩))))(h:LV P F B n O (upd (upd κ q lf) t (.own (gm cs ty))) fn R):LV P F B n O κ fn R:=fun a u hh=>h a u (hh.release hk ht)
def P7(q g1:Nat){r1 r2:Res}(hk:κ q=some (.own r1))(hk1:κ g1=some (.own r2))(hg1:∀ v v' H u C,r2.P v H u C->r2.P v' H u C)(h:XP F B n O (upd (upd κ g1 lf) q (.own (ov r1 r2))) pv Q)(hne:q≠g1:=by decide):XP F B n O κ pv Q:=fun a u hh=>h a u (hh.join2 hne hg1 hk hk1)
end code
end Go.V
namespace Go.V.L10
open Go.V Go.V.L2 Go.V.L8
def kpt(R:List (Option (List U)))(r:Int):Option (List U):=if 0<r then (R[(r-1).toNat]?).join else none
def j7(R:List (Option (List U))):List Int:=((List.range R.length).filter fun i=>((R[i]?).join).isSome).map fun i=>((i+1:Nat):Int)
def Du(R:List (Option (List U)))(i:Nat):kpt R ((i+1:Nat):Int)=(R[i]?).join:=by
 unfold kpt;rw[na I,show(((i+1:Nat):Int)-1).toNat=i by omega]
def i8{R:List (Option (List U))}(h:(kpt R r).isSome=true):0<r/\r<=R.length:=by
 unfold kpt at h;split at h
 ·rename_i h0;refine⟨h0,?_⟩
  cases hr:R[(r-1).toNat]? with
  | none=>rw[hr] at h;cases h
  | some x=>have:=get_lt hr;omega
 ·cases h
def ug{R:List (Option (List U))}:r∈j7 R↔(kpt R r).isSome=true:=by
 unfold j7;rw[m7];constructor
 ·rintro⟨i,hi,rfl⟩;rw[zn7] at hi;rw[Du];exact hi.2
 ·intro h;have hb:=i8 h;obtain⟨i,rfl⟩:∃ i:Nat,r=((i+1:Nat):Int):=⟨(r-1).toNat,by omega⟩
  rw[Du] at h;exact⟨i,zn7.2 ⟨zqg.2 I,h⟩,rfl⟩
def cr(R:List (Option (List U))):Sst cP (j7 R):=by
 unfold j7 Sst;rw[List.pairwise_map];refine(List.Pairwise.filter _ List.pairwise_lt_range).imp ?_;intro a b h;exact Uk.2 I
section
variable {Y:Type}
def zdb(k:Int):dy k ([]:List (Int×Y))=none:=rfl
def po{k:Int}:∀ {l:List (Int×Y)},(dy k l).isSome=true↔k∈l.map Prod.fst
 | []=>by simp [zdb]
 | p::l=>by
  rw[uq,mq,nz];by_cases h:k=p.1
  ·rw[na h];simp [h]
  ·rw[nc h,po];simp [h]
def r8{k:Int}{y:Y}:∀ {l:List (Int×Y)},dy k l=some y->(k,y)∈l
 | [],h=>by cases h
 | p::l,h=>by
  rw[uq] at h;by_cases e:k=p.1
  ·rw[na e] at h;cases h;rw[e];exact mc ..
  ·rw[nc e] at h;exact me _ (r8 h)
def Dp{k:Int}{y:Y}:∀ {l:List (Int×Y)},(l.map Prod.fst).Nodup->(k,y)∈l->dy k l=some y
 | [],_,h=>by cases h
 | p::l,hn,h=>by
  rw[mq,zo3] at hn;rw[uq];rcases nz.1 h with e | h
  ·subst e;rw[na rfl]
  ·rw[nc (fun e:k=p.1=>hn.1 (by rw[<-e];exact zph (f:=Prod.fst) h)),Dp hn.2 h]
end
structure MapOK{Y:Type}(es:List (Int×(List U×Y)))(R:List (Option (List U))):Prop where
 nd:(es.map Prod.fst).Nodup
 get:∀ r,(dy r es).map Prod.fst=kpt R r
def MapOK.mem{Y:Type}{es:List (Int×(List U×Y))}{R:List (Option (List U))}(h:MapOK es R):r∈es.map Prod.fst↔r∈j7 R:=by
 rw[<-po,ug,<-h.get r,Option.isSome_map]
def zcu{a b:List Int}(ha:a.Nodup)(hb:b.Nodup)(h:∀ x,x∈a↔x∈b):a.length=b.length:=((List.perm_ext_iff_of_nodup ha hb).2 h).length_eq
def MapOK.len{Y:Type}{es:List (Int×(List U×Y))}{R:List (Option (List U))}(h:MapOK es R):es.length=(j7 R).length:=by
 rw[<-mj (f:=Prod.fst)];exact zcu h.nd ((cr R).nodup lj) fun _=>h.mem
def zdk(R:List (Option (List U)))(t:List U)(r:Int):kpt (R++[some t]) r=if r=((R.length+1:Nat):Int) then some t else kpt R r:=by
 by_cases h:r=((R.length+1:Nat):Int)
 ·rw[na h,h,Du];simp
 ·rw[nc h];unfold kpt;by_cases h0:0<r
  ·rw[na h0,na h0];rcases zni (r-1).toNat R.length with hlt | hge
   ·rw[zor hlt]
   ·rw[zn3 (by rw[nr,zn1];omega),zn3 hge]
  ·rw[nc h0,nc h0]
def MapOK.add{Y:Type}{es:List (Int×(List U×Y))}{R:List (Option (List U))}(h:MapOK es R)(t:List U)(y:Y):MapOK (Pd ((R.length+1:Nat):Int) (t,y) es) (R++[some t])/\Pd ((R.length+1:Nat):Int) (t,y) es=es++[(((R.length+1:Nat):Int),(t,y))]:=by
 have hn:((R.length+1:Nat):Int)∉es.map Prod.fst:=fun hm=>by
  have:=i8 (ug.1 (h.mem.1 hm));omega
 have hf:c9 ((R.length+1:Nat):Int) es 0=none:=by
  have h1:¬ (dy ((R.length+1:Nat):Int) es).isSome=true:=fun hs=>hn (po.1 hs);unfold dy at h1
  cases hm:c9 ((R.length+1:Nat):Int) es 0 with
  | none=>rfl
  | some q=>rw[hm] at h1;exact ni rfl h1
 have he:Pd ((R.length+1:Nat):Int) (t,y) es=es++[(((R.length+1:Nat):Int),(t,y))]:=r7 hf;refine⟨⟨?_,fun r=>?_⟩,he⟩
 ·rw[he,znp,List.nodup_append];refine⟨h.nd,zop _ _,fun a ha b hb=>?_⟩;simp only[mq,znv,mz] at hb;subst hb;exact fun e=>hn (e ▸ ha)
 ·rw[Q2,zdk];by_cases e:r=((R.length+1:Nat):Int)
  ·rw[na e,na e];rfl
  ·rw[nc e,nc e,h.get]
structure Sto where
 R:List (Option (List U))
 P:List Int
def newS:Sto:=⟨[some []],[]⟩
def atS(S:Sto)(r:Int):List U×Int:=match kpt S.R (if r=0 then S.R.length else r) with
 | some t=>(t,0)
 | none=>([],14)
end Go.V.L10
section
open Go.V
attribute [local irreducible] Has N Par Ret RetL RetO RetX Src StepOK V VO X ky
namespace Go.V.So
open Go.Sort
def _root_.Z2(t:Wr Y->A:=by intro h;refine z9 (qv L _ Z Z Z Z I) Z ?_;exact h.1)(h:Y):A:=t ⟨h⟩
def _root_.ZX(t:Wr Y->A:=by exact fun h=>(Zt∘Z2) h.1)(h:Y):A:=t ⟨h⟩
def _root_.ZbV(t:Wr Y->A:=by exact fun h=>(Zdr∘Z2) h.1)(h:Y):A:=t ⟨h⟩
def _root_.Zc4(t:Wr Y->A:=by exact fun h=>(Zt∘Zt) h.1)(h:Y):A:=t ⟨h⟩
abbrev lt:Int->Int->Bool:=ltInt
abbrev tyU:TypeId:=63
def isnanU(a:Int)(hB:zry B w):Ret zrz 263 [.int .u64 a] w B (fun v _=>v=.bool false):=by
 refine yo Tryz.func263 Z Tryz.ntmps263 (np Z) hB ((Z4∘Zb∘Za7∘Ze) ?_);exact yl2 L [.tmp 2]
def zl9(a b:Int)(hB:zry B w):Ret zrz 275 [.int .u64 a,.int .u64 b] w B (fun v _=>v=.bool (lt a b)):=by
 unfold lt ltInt;refine yo Tryz.func275 Z Tryz.ntmps275 (np Z) hB ?_;by_cases h:a<b
 ·rw[nf h];refine(Z4∘Za) ?_;refine z71 L Z (fun u H hH _=>isnanU _ hH) ?_;refine(Zbe∘Zu∘ZI∘Zi∘Ze) ?_;exact yl2 L [.tmp 4]
 ·rw[ng h];refine(Z4∘Za) ?_;refine z71 L Z (fun u H hH _=>isnanU _ hH) ?_;refine(Zbe∘Zu∘Z6∘Zi∘Ze) ?_;exact yl2 L [.tmp 4]
def jv{a b:Int}{f:Bool}(h:lt a b=f)(hB:zry B w):Ret zrz 275 [.int .u64 a,.int .u64 b] w B (fun v _=>v=.bool f):=h ▸ zl9 a b hB
def ins_ret{cap:Nat}(hab:a<=e)(he:e<=d.size)(hm:d.size=m)(hm1:m<=100000)(hB:zry B w)
  (hr:(xe b (uC d++rest) tyU).P B w C) (hC:ZCB C w B):
  ky zrz 269 [.slice (some ⟨b,0,none⟩) m cap,.int .i64 a,.int .i64 e] w B C (xe b (uC (insertionSort lt d a e)++rest) tyU):=by
 unfold ky;refine xh 900 (xe b (uC d++rest) tyU) Tryz.func269 Z Tryz.ntmps269 (np Z) hB hr hC ?_;rw[xf];have hw0:IntKind.i64.wrap ((a:Int)+1)=((a+1:Nat):Int):=xd I I;refine(Zad∘Zar∘Za0) ?_;refine xq (fun s:Nat×Array Int=>[(0,.is (.slice (some ⟨b,0,none⟩) m cap)),(1,.is (.int .i64 a)),(2,.is (.int .i64 e)),(6,.is (.int .i64 s.1)),(900,.own (xn b (uC s.2++rest) tyU))]) (fun s=>s.1<=e+1/\a<s.1/\s.2.size=m/\insOuter lt a e s.1 s.2=insertionSort lt d a e) (fun s=>e+1-s.1) (a+1,d) ⟨by omega,by omega,hm,rfl⟩ ⟨Z,Z,Z,Z,Z,nm⟩ ?_;rintro⟨i,D⟩ ⟨hi,hai,hD,hO⟩;dsimp only at hi hai hD hO |-;by_cases hlt:i<e
 ·rw[insOuter,na hlt] at hO;refine(Zd∘Z9∘Zb∘Zbq∘ZaX∘Zx∘Za0) ?_;refine xq (fun t:Nat×Array Int=>[(0,.is (.slice (some ⟨b,0,none⟩) m cap)),(1,.is (.int .i64 a)),(2,.is (.int .i64 e)),(6,.is (.int .i64 i)),(7,.is (.int .i64 t.1)),(900,.own (xn b (uC t.2++rest) tyU))]) (fun t=>t.1<=i/\t.2.size=m/\insInner lt a t.1 t.2=insInner lt a i D) (fun t=>t.1) (i,D) ⟨nu _,hD,rfl⟩ ⟨Z,Z,Z,Z,Z,Z,nm⟩ ?_;rintro⟨j,zrv⟩ ⟨hj,hE,hI⟩;dsimp only at hj hE hI |-;rcases j with _ | j
  ·rw[insInner] at hI;rw[hI];refine(Zd∘Zdb∘Zt∘Zdo∘Zcd∘Zcc∘Za4∘ZaG∘Zax∘Zq∘Zay) ?_;exact yv (x:=(i,D)) (i+1,insInner lt a i D) ⟨by dsimp only;omega,by dsimp only;omega,by dsimp only;rw[<-hI];exact hE,hO⟩ M ⟨Z,Z,Z,Z,Z,trivial⟩
  ·by_cases hja:a<j+1
   ·have hw1:IntKind.i64.wrap (((j+1:Nat):Int)-1)=(j:Int):=xd I I |>.trans I;obtain⟨r1,q1⟩:=gn (rest:=rest) (show j+1<zrv.size by omega) (0+(j+1)*1) rfl;obtain⟨r2,q2⟩:=gn (rest:=rest) (show j<zrv.size by omega) (0+j*1) rfl
    cases hc:lt zrv[j+1]! zrv[j]! with
    | true=>
     rw[insInner,na (by rw[hc];simp;omega)] at hI;have s1:=v9 (rest:=rest) zrv[j]! (show j+1<zrv.size by omega) (0+(j+1)*1) rfl;have b1:=ua (rest:=rest) (show j+1<zrv.size by omega) (0+(j+1)*1) rfl;have hz:j<(zrv.setIfInBounds (j+1) zrv[j]!).size:=by rw[zn8];omega
     have s2:=v9 (rest:=rest) zrv[j+1]! hz (0+j*1) rfl;have b2:=ua (rest:=rest) hz (0+j*1) rfl;rw[fg] at s2;refine Zd (h:=?_);refine qp (id:=4) [(200023,[900]),(200028,[900])] kj J ((Zt∘Zda∘Zb2∘Z2) ?_);refine qz (qk L (q:=900) Z Z Z q1) Z Z ((Zt∘ZbV) ?_);refine qz (qk L (q:=900) Z Z Z q2) Z Z (z91 L Z (fun u H hH _=>jv hc hH) ?_);refine(ZaA∘ZaN∘ZaZ) ?_;refine qp (id:=6) [(200042,[900]),(200046,[900]),(100047,[900]),(100048,[900])] kj J ((Zc4∘Zdr∘Zt∘ZbV) ?_);refine qz (qk L (q:=900) Z Z Z q2) Z Z (ZX (h:=?_));refine qz (qk L (q:=900) Z Z Z q1) Z Z (Z2 (h:=?_));refine xp (yj L (q:=900) Z Z b1 Z s1) Z (Z2 (h:=?_));refine xp (yj L (q:=900) Z Z b2 Z s2) Z ((Zco∘Zax∘Zak∘Zat∘Zao) ?_);exact yv (x:=(j+1,zrv)) (j,swp zrv (j+1) j) ⟨by dsimp only;omega,by dsimp only;rw[wo];exact hE,hI⟩ M ⟨Z,Z,Z,Z,Z,Z,trivial⟩
    | false=>
     rw[insInner,nc (by rw[hc];simp)] at hI;refine Zd (h:=?_);refine qp (id:=4) [(200023,[900]),(200028,[900])] kj J ((Zt∘Zda∘Zb2∘Z2) ?_);refine qz (qk L (q:=900) Z Z Z q1) Z Z ((Zt∘ZbV) ?_);refine qz (qk L (q:=900) Z Z Z q2) Z Z (z91 L Z (fun u H hH _=>jv hc hH) ?_);refine(Za4∘ZaG∘Zax) ?_;rw[hI];refine(Zq∘Zay) ?_;exact yv (x:=(i,D)) (i+1,insInner lt a i D) ⟨by dsimp only;omega,by dsimp only;omega,by dsimp only;rw[<-hI];exact hE,hO⟩ M ⟨Z,Z,Z,Z,Z,trivial⟩
   ·rw[insInner,nc (by simp;omega)] at hI;rw[hI];refine(Zd∘Zdb∘Zt∘Zdo∘Zcd∘Zcc∘Za4∘ZaG∘Zax∘Zq∘Zay) ?_;exact yv (x:=(i,D)) (i+1,insInner lt a i D) ⟨by dsimp only;omega,by dsimp only;omega,by dsimp only;rw[<-hI];exact hE,hO⟩ M ⟨Z,Z,Z,Z,Z,trivial⟩
 ·rw[insOuter,nc hlt] at hO;subst hO;refine(Zd∘Z9∘Zb∘Z6∘Za5∘ZaG) ?_;exact xz L 900 (r:=xe b _ tyU) Z (fun _ _ h=>h) nq Z Z
def _root_.Zey(t:Wr Y->A:=by intro h;refine qp (id:=5) [(200044,[900]),(200050,[900])] kj J ?_;exact h.1)(h:Y):A:=t ⟨h⟩
def _root_.Zfz(t:Wr Y->A:=by intro h;refine qp (id:=6) [(200066,[900]),(200072,[900]),(100073,[900]),(100074,[900])] kj J ?_;exact h.1)(h:Y):A:=t ⟨h⟩
def _root_.ZeY(t:Wr Y->A:=by intro h;refine qp (id:=3) [(200027,[900]),(200034,[900])] kj J ?_;exact h.1)(h:Y):A:=t ⟨h⟩
def _root_.ZcJ(t:Wr Y->A:=by exact fun h=>(Zb2∘ZbP) h.1)(h:Y):A:=t ⟨h⟩
def _root_.ZaC(t:Wr Y->A:=by exact fun h=>(Zb∘Zat) h.1)(h:Y):A:=t ⟨h⟩
def _root_.ZdB(t:Wr Y->A:=by exact fun h=>(Zdy∘ZF) h.1)(h:Y):A:=t ⟨h⟩
def _root_.Zck(t:Wr Y->A:=by exact fun h=>(ZcJ∘Z2) h.1)(h:Y):A:=t ⟨h⟩
def rev_ret{cap:Nat}(hab:a<e)(he:e<=d.size)(hm:d.size=m)(hm1:m<=100000)(hB:zry B w)
  (hr:(xe b (uC d++rest) tyU).P B w C) (hC:ZCB C w B):
  ky zrz 273 [.slice (some ⟨b,0,none⟩) m cap,.int .i64 a,.int .i64 e] w B C (xe b (uC (reverseRange d a e)++rest) tyU):=by
 unfold ky;refine xh 900 (xe b (uC d++rest) tyU) Tryz.func273 Z Tryz.ntmps273 (np Z) hB hr hC ?_;rw[xf];have hw0:IntKind.i64.wrap ((e:Int)-1)=((e-1:Nat):Int):=xd I I |>.trans I;refine(Zad∘Za∘Zbk∘Zat∘Za0) ?_;refine xq (fun s:(Nat×Nat)×Array Int=>[(0,.is (.slice (some ⟨b,0,none⟩) m cap)),(6,.is (.int .i64 s.1.1)),(7,.is (.int .i64 s.1.2)),(900,.own (xn b (uC s.2++rest) tyU))]) (fun s=>s.1.1<=m/\s.1.2<m/\s.2.size=m/\reverseLoop s.1.1 s.1.2 s.2=reverseRange d a e) (fun s=>s.1.2-s.1.1) ((a,e-1),d) ⟨by dsimp only;omega,by dsimp only;omega,hm,rfl⟩ ⟨Z,Z,Z,Z,trivial⟩ ?_;rintro⟨⟨i,j⟩,zrv⟩ ⟨hi,hj,hE,hO⟩;dsimp only at hi hj hE hO |-;by_cases hlt:i<j
 ·rw[reverseLoop,na hlt] at hO;have hw1:IntKind.i64.wrap ((i:Int)+1)=((i+1:Nat):Int):=xd I I;have hw2:IntKind.i64.wrap ((j:Int)-1)=((j-1:Nat):Int):=xd I I |>.trans I;obtain⟨_,qj⟩:=gn (rest:=rest) (show j<zrv.size by omega) (0+(j)*1) rfl;obtain⟨_,qi⟩:=gn (rest:=rest) (show i<zrv.size by omega) (0+(i)*1) rfl;have s1:=v9 (rest:=rest) zrv[j]! (show i<zrv.size by omega) (0+(i)*1) rfl;have b1:=ua (rest:=rest) (show i<zrv.size by omega) (0+(i)*1) rfl;have hz:j<(zrv.setIfInBounds (i) zrv[j]!).size:=by rw[zn8];omega
  have s2:=v9 (rest:=rest) zrv[i]! hz (0+(j)*1) rfl;have b2:=ua (rest:=rest) hz (0+(j)*1) rfl;rw[fg] at s2;refine(Zd∘ZaY∘Zbq∘Zbm) ?_;refine qp (id:=3) [(200021,[900]),(200025,[900]),(100026,[900]),(100027,[900])] kj J ((Zc4∘ZX) ?_);refine qz (qk L (q:=900) Z Z Z qj) Z Z (ZX (h:=?_));refine qz (qk L (q:=900) Z Z Z qi) Z Z (Z2 (h:=?_));refine xp (yj L (q:=900) Z Z b1 Z s1) Z (Z2 (h:=?_));refine xp (yj L (q:=900) Z Z b2 Z s2) Z ((Zbh∘ZB∘ZF∘Ze∘Zak∘Zat∘ZaB) ?_);exact yv (x:=((i,j),zrv)) ((i+1,j-1),swp zrv i j) ⟨by dsimp only;omega,by dsimp only;omega,by dsimp only;rw[wo];exact hE,hO⟩ M ⟨Z,Z,Z,Z,trivial⟩
 ·rw[reverseLoop,nc hlt] at hO;subst hO;refine(Zd∘ZaY∘Z6∘Za5∘ZaG) ?_;exact xz L 900 (r:=xe b _ tyU) Z (fun _ _ h=>h) nq Z Z
def Qp{cap lo hi first:Nat}(hlo:lo<=hi)(hf:first+hi<=d.size)(hm:d.size=m)(hm1:m<=100000)(hB:zry B w)
  (hr:(xe b (uC d++rest) tyU).P B w C) (hC:ZCB C w B):
  ky zrz 305 [.slice (some ⟨b,0,none⟩) m cap,.int .i64 lo,.int .i64 hi,.int .i64 first] w B C (xe b (uC (siftDown lt hi first lo d)++rest) tyU):=by
 unfold ky;refine xh 900 (xe b (uC d++rest) tyU) Tryz.func305 Z Tryz.ntmps305 (np Z) hB hr hC ?_;rw[xf];refine(Zad∘Za∘Za0) ?_;refine xq (fun s:Nat×Array Int=>[(0,.is (.slice (some ⟨b,0,none⟩) m cap)),(2,.is (.int .i64 hi)),(3,.is (.int .i64 first)),(8,.is (.int .i64 s.1)),(900,.own (xn b (uC s.2++rest) tyU))]) (fun s=>s.1<=hi/\s.2.size=m/\siftDown lt hi first s.1 s.2=siftDown lt hi first lo d) (fun s=>hi-s.1) (lo,d) ⟨hlo,hm,rfl⟩ ⟨Z,Z,Z,Z,Z,nm⟩ ?_;rintro⟨r,zrv⟩ ⟨hr0,hE,hO⟩;dsimp only at hr0 hE hO |-;have hw1:IntKind.i64.wrap (2*(r:Int))=((2*r:Nat):Int):=xd I I |>.trans I;have hw2:IntKind.i64.wrap (((2*r:Nat):Int)+1)=((2*r+1:Nat):Int):=xd I I;by_cases hend:hi<=2*r+1
 ·rw[siftDown,dif_pos I] at hO;subst hO;refine(Zae∘Z9∘Za∘ZdB∘Zj∘ZaY∘ZbE∘Zeq) ?_;refine ib Z (Zdx (h:=?_));exact xz L 900 (r:=xe b _ tyU) Z (fun _ _ h=>h) nq Z Z
 ·rw[siftDown,dif_neg I] at hO;have hw3:IntKind.i64.wrap (((2*r+1:Nat):Int)+1)=((2*r+2:Nat):Int):=xd I I;have hw4:IntKind.i64.wrap ((first:Int)+((2*r+1:Nat):Int))=((first+(2*r+1):Nat):Int):=xd I I;have hw5:IntKind.i64.wrap (((first+(2*r+1):Nat):Int)+1)=((first+(2*r+2):Nat):Int):=xd I I;have hw6:IntKind.i64.wrap ((first:Int)+(r:Int))=((first+r:Nat):Int):=xd I I;have hw7:IntKind.i64.wrap ((first:Int)+((2*r+2:Nat):Int))=((first+(2*r+2):Nat):Int):=xd I I;obtain⟨_,qr⟩:=gn (rest:=rest) (show first+r<zrv.size by omega) (0+(first+r)*1) rfl;by_cases h2:2*r+2<hi
  ·obtain⟨_,q1⟩:=gn (rest:=rest) (show first+(2*r+1)<zrv.size by omega) (0+(first+(2*r+1))*1) rfl;obtain⟨_,q2⟩:=gn (rest:=rest) (show first+(2*r+2)<zrv.size by omega) (0+(first+(2*r+2))*1) rfl;have e2:first+(2*r+1)+1=first+(2*r+2):=I
   rw[e2] at hO
   cases hc:lt zrv[first+(2*r+1)]! zrv[first+(2*r+2)]! with
   | true=>
    rw[na (by rw[hc];simp;omega)] at hO;have qc:=q2
    cases hc2:lt zrv[first+r]! zrv[first+(2*r+2)]! with
    | false=>
     rw[hc2] at hO;simp only[Bool.not_false,if_true] at hO;subst hO;refine(Zae∘Z9∘Za∘ZdB∘Zj∘ZaY∘Zaj∘ZV∘ZeY∘Zm∘ZbP∘Zm∘ZcR∘Zc4∘ZbP∘Z2) ?_;refine qz (qk L (q:=900) Z Z Z q1) Z Z ((ZcJ∘ZbP∘Z2) ?_);refine qz (qk L (q:=900) Z Z Z q2) Z Z (z91 L Z (fun u H hH _=>jv hc hH) ?_);refine(ZaA∘ZaN∘ZB∘ZF∘Zj∘Zey∘Zck) ?_;refine qz (qk L (q:=900) Z Z Z qr) Z Z (Zck (h:=?_));refine qz (qk L (q:=900) Z Z Z qc) Z Z (z91 L Z (fun u H hH _=>jv hc2 hH) ?_);refine(Zbl∘ZaN) ?_;exact jk L 900 (r:=xe b _ tyU) Z (fun _ _ h=>h) nq Z Z
    | true=>
     rw[hc2] at hO;simp only[Bool.not_true,zom,if_false] at hO;rw[dif_pos I] at hO;obtain⟨_,qj⟩:=gn (rest:=rest) (show first+(2*r+2)<zrv.size by omega) (0+(first+(2*r+2))*1) rfl;obtain⟨_,qi⟩:=gn (rest:=rest) (show first+r<zrv.size by omega) (0+(first+r)*1) rfl;have s1:=v9 (rest:=rest) zrv[first+(2*r+2)]! (show first+r<zrv.size by omega) (0+(first+r)*1) rfl;have b1:=ua (rest:=rest) (show first+r<zrv.size by omega) (0+(first+r)*1) rfl;have hz:first+(2*r+2)<(zrv.setIfInBounds (first+r) zrv[first+(2*r+2)]!).size:=by rw[zn8];omega
     have s2:=v9 (rest:=rest) zrv[first+r]! hz (0+(first+(2*r+2))*1) rfl;have b2:=ua (rest:=rest) hz (0+(first+(2*r+2))*1) rfl;rw[fg] at s2;refine(Zae∘Z9∘Za∘ZdB∘Zj∘ZaY∘Zaj∘ZV∘ZeY∘Zm∘ZbP∘Zm∘ZcR∘Zc4∘ZbP∘Z2) ?_;refine qz (qk L (q:=900) Z Z Z q1) Z Z ((ZcJ∘ZbP∘Z2) ?_);refine qz (qk L (q:=900) Z Z Z q2) Z Z (z91 L Z (fun u H hH _=>jv hc hH) ?_);refine(ZaA∘ZaN∘ZB∘ZF∘Zj∘Zey∘Zck) ?_;refine qz (qk L (q:=900) Z Z Z qr) Z Z (Zck (h:=?_));refine qz (qk L (q:=900) Z Z Z qc) Z Z (z91 L Z (fun u H hH _=>jv hc2 hH) ?_);refine(Zbl∘Zbg∘ZaL∘Zfz∘ZcJ∘ZcJ∘Zck) ?_;refine qz (qk L (q:=900) Z Z Z qj) Z Z (Zck (h:=?_));refine qz (qk L (q:=900) Z Z Z qi) Z Z (Z2 (h:=?_));refine xp (yj L (q:=900) Z Z b1 Z s1) Z (Z2 (h:=?_));refine xp (yj L (q:=900) Z Z b2 Z s2) Z ((ZaE∘Z5∘ZaB) ?_);exact yv (x:=(r,zrv)) (2*r+2,swp zrv (first+r) (first+(2*r+2))) ⟨by dsimp only;omega,by dsimp only;rw[wo];exact hE,hO⟩ M ⟨Z,Z,Z,Z,Z,trivial⟩
   | false=>
    rw[nc (by rw[hc];simp)] at hO;have qc:=q1
    cases hc2:lt zrv[first+r]! zrv[first+(2*r+1)]! with
    | false=>
     rw[hc2] at hO;simp only[Bool.not_false,if_true] at hO;subst hO;refine(Zae∘Z9∘Za∘ZdB∘Zj∘ZaY∘Zaj∘ZV∘ZeY∘Zm∘ZbP∘Zm∘ZcR∘Zc4∘ZbP∘Z2) ?_;refine qz (qk L (q:=900) Z Z Z q1) Z Z ((ZcJ∘ZbP∘Z2) ?_);refine qz (qk L (q:=900) Z Z Z q2) Z Z (z91 L Z (fun u H hH _=>jv hc hH) ?_);refine(Za4∘ZaL∘Zf∘Zey∘Zck) ?_;refine qz (qk L (q:=900) Z Z Z qr) Z Z (Zck (h:=?_));refine qz (qk L (q:=900) Z Z Z qc) Z Z (z91 L Z (fun u H hH _=>jv hc2 hH) ?_);refine(Zbl∘ZaN) ?_;exact jk L 900 (r:=xe b _ tyU) Z (fun _ _ h=>h) nq Z Z
    | true=>
     rw[hc2] at hO;simp only[Bool.not_true,zom,if_false] at hO;obtain⟨_,qj⟩:=gn (rest:=rest) (show first+(2*r+1)<zrv.size by omega) (0+(first+(2*r+1))*1) rfl;obtain⟨_,qi⟩:=gn (rest:=rest) (show first+r<zrv.size by omega) (0+(first+r)*1) rfl;have s1:=v9 (rest:=rest) zrv[first+(2*r+1)]! (show first+r<zrv.size by omega) (0+(first+r)*1) rfl;have b1:=ua (rest:=rest) (show first+r<zrv.size by omega) (0+(first+r)*1) rfl;have hz:first+(2*r+1)<(zrv.setIfInBounds (first+r) zrv[first+(2*r+1)]!).size:=by rw[zn8];omega
     have s2:=v9 (rest:=rest) zrv[first+r]! hz (0+(first+(2*r+1))*1) rfl;have b2:=ua (rest:=rest) hz (0+(first+(2*r+1))*1) rfl;rw[fg] at s2;refine(Zae∘Z9∘Za∘ZdB∘Zj∘ZaY∘Zaj∘ZV∘ZeY∘Zm∘ZbP∘Zm∘ZcR∘Zc4∘ZbP∘Z2) ?_;refine qz (qk L (q:=900) Z Z Z q1) Z Z ((ZcJ∘ZbP∘Z2) ?_);refine qz (qk L (q:=900) Z Z Z q2) Z Z (z91 L Z (fun u H hH _=>jv hc hH) ?_);refine(Za4∘ZaL∘Zf∘Zey∘Zck) ?_;refine qz (qk L (q:=900) Z Z Z qr) Z Z (Zck (h:=?_));refine qz (qk L (q:=900) Z Z Z qc) Z Z (z91 L Z (fun u H hH _=>jv hc2 hH) ?_);refine(Zbl∘Zbg∘ZaL∘Zfz∘ZcJ∘ZcJ∘Zck) ?_;refine qz (qk L (q:=900) Z Z Z qj) Z Z (Zck (h:=?_));refine qz (qk L (q:=900) Z Z Z qi) Z Z (Z2 (h:=?_));refine xp (yj L (q:=900) Z Z b1 Z s1) Z (Z2 (h:=?_));refine xp (yj L (q:=900) Z Z b2 Z s2) Z ((ZaE∘Z5∘ZaB) ?_);exact yv (x:=(r,zrv)) (2*r+1,swp zrv (first+r) (first+(2*r+1))) ⟨by dsimp only;omega,by dsimp only;rw[wo];exact hE,hO⟩ M ⟨Z,Z,Z,Z,Z,trivial⟩
  ·rw[nc (by simp;omega)] at hO;obtain⟨_,qc⟩:=gn (rest:=rest) (show first+(2*r+1)<zrv.size by omega) (0+(first+(2*r+1))*1) rfl
   cases hc2:lt zrv[first+r]! zrv[first+(2*r+1)]! with
   | false=>
    rw[hc2] at hO;simp only[Bool.not_false,if_true] at hO;subst hO;refine(Zae∘Z9∘Za∘ZdB∘Zj∘ZaY∘Zaj∘ZV∘Zc0∘Zm∘ZbP∘Zm∘Zdn∘Zcd∘ZeA∘Zcc∘Za4∘ZaL∘Zf∘Zey∘Zck) ?_;refine qz (qk L (q:=900) Z Z Z qr) Z Z (Zck (h:=?_));refine qz (qk L (q:=900) Z Z Z qc) Z Z (z91 L Z (fun u H hH _=>jv hc2 hH) ?_);refine(Zbl∘ZaN) ?_;exact jk L 900 (r:=xe b _ tyU) Z (fun _ _ h=>h) nq Z Z
   | true=>
    rw[hc2] at hO;simp only[Bool.not_true,zom,if_false] at hO;obtain⟨_,qj⟩:=gn (rest:=rest) (show first+(2*r+1)<zrv.size by omega) (0+(first+(2*r+1))*1) rfl;obtain⟨_,qi⟩:=gn (rest:=rest) (show first+r<zrv.size by omega) (0+(first+r)*1) rfl;have s1:=v9 (rest:=rest) zrv[first+(2*r+1)]! (show first+r<zrv.size by omega) (0+(first+r)*1) rfl;have b1:=ua (rest:=rest) (show first+r<zrv.size by omega) (0+(first+r)*1) rfl;have hz:first+(2*r+1)<(zrv.setIfInBounds (first+r) zrv[first+(2*r+1)]!).size:=by rw[zn8];omega
    have s2:=v9 (rest:=rest) zrv[first+r]! hz (0+(first+(2*r+1))*1) rfl;have b2:=ua (rest:=rest) hz (0+(first+(2*r+1))*1) rfl;rw[fg] at s2;refine(Zae∘Z9∘Za∘ZdB∘Zj∘ZaY∘Zaj∘ZV∘Zc0∘Zm∘ZbP∘Zm∘Zdn∘Zcd∘ZeA∘Zcc∘Za4∘ZaL∘Zf∘Zey∘Zck) ?_;refine qz (qk L (q:=900) Z Z Z qr) Z Z (Zck (h:=?_));refine qz (qk L (q:=900) Z Z Z qc) Z Z (z91 L Z (fun u H hH _=>jv hc2 hH) ?_);refine(Zbl∘Zbg∘ZaL∘Zfz∘ZcJ∘ZcJ∘Zck) ?_;refine qz (qk L (q:=900) Z Z Z qj) Z Z (Zck (h:=?_));refine qz (qk L (q:=900) Z Z Z qi) Z Z (Z2 (h:=?_));refine xp (yj L (q:=900) Z Z b1 Z s1) Z (Z2 (h:=?_));refine xp (yj L (q:=900) Z Z b2 Z s2) Z ((ZaE∘Z5∘ZaB) ?_);exact yv (x:=(r,zrv)) (2*r+1,swp zrv (first+r) (first+(2*r+1))) ⟨by dsimp only;omega,by dsimp only;rw[wo];exact hE,hO⟩ M ⟨Z,Z,Z,Z,Z,trivial⟩
def Lp(hi first:Nat):∀ (n root:Nat) (d:Array Int),hi-root<=n->(siftDown lt hi first root d).size=d.size:=by
 intro n
 induction n with
 | zero=>
  intro root d h;rw[siftDown,dif_pos I]
 | succ n ih=>
  intro root d h;rw[siftDown];split
  ·rfl
  ·split
   ·split
    ·rfl
    ·split
     ·rw[ih _ _ I,wo]
     ·rfl
   ·split
    ·rfl
    ·rw[ih _ _ I,wo]
def zdr{cap:Nat}(hab:a<e)(he:e<=d.size)(hm:d.size=m)(hm1:m<=100000)(hB:zry B w)
  (hr:(xe b (uC d++rest) tyU).P B w C) (hC:ZCB C w B):
  ky zrz 270 [.slice (some ⟨b,0,none⟩) m cap,.int .i64 a,.int .i64 e] w B C (xe b (uC (heapSort lt d a e)++rest) tyU):=by
 unfold ky;refine xh 900 (xe b (uC d++rest) tyU) Tryz.func270 Z Tryz.ntmps270 (np Z) hB hr hC ?_;rw[xf];have hw0:IntKind.i64.wrap ((e:Int)-(a:Int))=((e-a:Nat):Int):=xd I I |>.trans I;have hw1:IntKind.i64.wrap (((e-a:Nat):Int)-1)=((e-a-1:Nat):Int):=xd I I |>.trans I
 have et:((e-a-1:Nat):Int).tdiv 2=(((e-a-1)/2+1:Nat):Int)-1:=by
  rw[zqh I];omega
 have hw2:IntKind.i64.wrap (((e-a-1:Nat):Int).tdiv 2)=(((e-a-1)/2+1:Nat):Int)-1:=by rw[et];exact xd I I
 refine(Zad∘Za∘ZaH∘Zc∘ZS∘ZaC∘Zj∘Zx∘Zat∘ZcY∘Za0) ?_;refine xq (fun s:Nat×Array Int=>[(0,.is (.slice (some ⟨b,0,none⟩) m cap)),(6,.is (.int .i64 a)),(7,.is (.int .i64 0)),(8,.is (.int .i64 (e-a:Nat))),(9,.is (.int .i64 ((s.1:Int)-1))),(900,.own (xn b (uC s.2++rest) tyU))]) (fun s=>s.1<=(e-a-1)/2+1/\s.2.size=m/\heapBuild lt (e-a) a s.1 s.2=heapBuild lt (e-a) a ((e-a-1)/2+1) d) (fun s=>s.1) ((e-a-1)/2+1,d) ⟨nu _,hm,rfl⟩ ⟨Z,Z,Z,Z,Z,Z,nm⟩ ?_;rintro⟨k,zrv⟩ ⟨hk,hE,hO⟩;dsimp only at hk hE hO |-;rcases k with _ | k
 ·have e9:(((0:Nat):Int)-1)= -1:=rfl;rw[e9];refine(Zcb∘Zaj∘ZaP) ?_;rw[heapBuild] at hO;have e10:((e-a-1:Nat):Int)=((e-a:Nat):Int)-1:=I;rw[e10] at hw1;refine(Z5∘Zat∘Za0) ?_;refine xq (fun s:Nat×Array Int=>[(0,.is (.slice (some ⟨b,0,none⟩) m cap)),(6,.is (.int .i64 a)),(7,.is (.int .i64 0)),(10,.is (.int .i64 ((s.1:Int)-1))),(900,.own (xn b (uC s.2++rest) tyU))]) (fun s=>s.1<=e-a/\s.2.size=m/\heapPop lt a s.1 s.2=heapPop lt a (e-a) zrv) (fun s=>s.1) (e-a,zrv) ⟨nu _,hE,rfl⟩ ⟨Z,Z,Z,Z,Z,nm⟩ ?_;rintro⟨j,zrx⟩ ⟨hj,hG,hP⟩;dsimp only at hj hG hP |-;rcases j with _ | j
  ·rw[e9];rw[heapPop] at hP;have:zrx=heapSort lt d a e:=by unfold heapSort;rw[<-hO,hP]
   subst this;refine(Zd∘ZaM∘Zaj∘Za5∘ZaG) ?_;exact xz L 900 (r:=xe b _ tyU) Z (fun _ _ h=>h) nq Z Z
  ·have e8:(((j+1:Nat):Int)-1)=(j:Int):=I;rw[heapPop] at hP;rw[e8];have hw3:IntKind.i64.wrap ((a:Int)+(j:Int))=((a+j:Nat):Int):=xd I I;have hw4:IntKind.i64.wrap ((j:Int)-1)=(j:Int)-1:=xd I I;have hsz:=wo zrx a (a+j);have hss:=Lp j a j 0 (swp zrx a (a+j)) I;obtain⟨_,qj⟩:=gn (rest:=rest) (show a+j<zrx.size by omega) (0+(a+j)*1) rfl;obtain⟨_,qi⟩:=gn (rest:=rest) (show a<zrx.size by omega) (0+(a)*1) rfl;have s1:=v9 (rest:=rest) zrx[a+j]! (show a<zrx.size by omega) (0+(a)*1) rfl;have b1:=ua (rest:=rest) (show a<zrx.size by omega) (0+(a)*1) rfl;have hz:a+j<(zrx.setIfInBounds (a) zrx[a+j]!).size:=by rw[zn8];omega
   have s2:=v9 (rest:=rest) zrx[a]! hz (0+(a+j)*1) rfl;have b2:=ua (rest:=rest) hz (0+(a+j)*1) rfl;rw[fg] at s2;refine(Zd∘ZaM∘ZbE∘ZaX) ?_;refine qp (id:=10) [(200044,[900]),(200048,[900]),(100049,[900]),(100050,[900])] kj J ((Zt∘ZcJ∘Zck) ?_);refine qz (qk L (q:=900) Z Z Z qj) Z Z (ZX (h:=?_));refine qz (qk L (q:=900) Z Z Z qi) Z Z (Z2 (h:=?_));refine xp (yj L (q:=900) Z Z b1 Z s1) Z (Z2 (h:=?_));refine xp (yj L (q:=900) Z Z b2 Z s2) Z ((ZaE∘ZG∘Zb4) ?_);refine qh (xc L 900 (xe b (uC (siftDown lt j a 0 (swp zrx a (a+j)))++rest) tyU) (r:=xe b (uC (swp zrx a (a+j))++rest) tyU) Z Z Z Z Z (fun u H C hH _ hr hC=>Qp (mf _) I I hm1 hH hr hC)) ((ZaJ∘Za3∘Zat∘Zao) ?_);exact yv (x:=(j+1,zrx)) (j,siftDown lt j a 0 (swp zrx a (a+j))) ⟨by dsimp only;omega,by dsimp only;omega,hP⟩ M ⟨Z,Z,Z,Z,Z,trivial⟩
 ·have e8:(((k+1:Nat):Int)-1)=(k:Int):=I;rw[heapBuild] at hO;rw[e8];have hw4:IntKind.i64.wrap ((k:Int)-1)=(k:Int)-1:=xd I I;have hss:=Lp (e-a) a (e-a) k zrv I;refine(Zcb∘ZbE∘ZaZ∘ZD∘Zb4) ?_;refine qh (xc L 900 (xe b (uC (siftDown lt (e-a) a k zrv)++rest) tyU) (r:=xe b (uC zrv++rest) tyU) Z Z Z Z Z (fun u H C hH _ hr hC=>Qp I I I hm1 hH hr hC)) ((ZaJ∘Zak∘Zat∘Zao) ?_);exact yv (x:=(k+1,zrv)) (k,siftDown lt (e-a) a k zrv) ⟨by dsimp only;omega,by dsimp only;omega,hO⟩ M ⟨Z,Z,Z,Z,Z,Z,trivial⟩
def _root_.ZaK(t:Wr Y->A:=by intro h;refine zh (id:=20) ?_;exact h.1)(h:Y):A:=t ⟨h⟩
def _root_.Zbu(t:Wr Y->A:=by intro h;refine zh (id:=19) ?_;exact h.1)(h:Y):A:=t ⟨h⟩
def _root_.ZbI(t:Wr Y->A:=by intro h;refine zh (id:=22) ?_;exact h.1)(h:Y):A:=t ⟨h⟩
def _root_.ZeZ(t:Wr Y->A:=by intro h;refine qp (id:=5) [(200053,[900]),(200057,[900])] kj J ?_;exact h.1)(h:Y):A:=t ⟨h⟩
def fk(h:¬ (i<=j/\p d[i]! =true)):scanUp p d j i=i:=by
 rw[scanUp,nc];simpa using h
def Cx(h1:i<=j)(h2:p d[i]! =true):scanUp p d j i=scanUp p d j (i+1):=by
 rw[scanUp,na (by simp [h1,h2])]
def uj(h:¬ (i<=j/\p d[j]! =true)):scanDown p d i j=j:=by
 cases j with
 | zero=>rfl
 | succ j=>rw[scanDown,nc];simpa using h
def og(h1:i<=j+1)(h2:p d[j+1]! =true):scanDown p d i (j+1)=scanDown p d i j:=by
 rw[scanDown,na (by simp [h1,h2])]
def d8{cap p:Nat}(hap:a<=p)(hpe:p<e)(he:e<=d.size)(hm:d.size=m)(hm1:m<=100000)(hB:zry B w)
  (hr:(xe b (uC d++rest) tyU).P B w C) (hC:ZCB C w B):
  RetX zrz 277 [.slice (some ⟨b,0,none⟩) m cap,.int .i64 a,.int .i64 e,.int .i64 p] w B C (xe b (uC (Go.Sort.partition lt d a e p).2.2++rest) tyU) (.tuple #[.int .i64 (Go.Sort.partition lt d a e p).1,.bool (Go.Sort.partition lt d a e p).2.1]):=by
 unfold RetX;refine xh 900 (xe b (uC d++rest) tyU) Tryz.func277 Z Tryz.ntmps277 (np Z) hB hr hC ?_;rw[xf];obtain⟨_,qj⟩:=gn (rest:=rest) (show p<d.size by omega) (0+(p)*1) rfl;obtain⟨_,qi⟩:=gn (rest:=rest) (show a<d.size by omega) (0+(a)*1) rfl;have s1:=v9 (rest:=rest) d[p]! (show a<d.size by omega) (0+(a)*1) rfl;have b1:=ua (rest:=rest) (show a<d.size by omega) (0+(a)*1) rfl;have hz:p<(d.setIfInBounds (a) d[p]!).size:=by rw[zn8];omega
 have s2:=v9 (rest:=rest) d[a]! hz (0+(p)*1) rfl;have b2:=ua (rest:=rest) hz (0+(p)*1) rfl;rw[fg] at s2;have hw1:IntKind.i64.wrap ((a:Int)+1)=((a+1:Nat):Int):=xd I I;obtain⟨e1,rfl⟩:∃ e1,e=e1+1:=⟨e-1,by omega⟩
 have hw2:IntKind.i64.wrap (((e1+1:Nat):Int)-1)=(e1:Int):=xd I I |>.trans I;obtain⟨R,hR⟩:∃ R,R=Go.Sort.partition lt d a (e1+1) p:=⟨_,rfl⟩
 rw[<-hR];have hR':=hR;unfold Go.Sort.partition at hR';have hDs:=wo d a p;refine(Zad∘ZaR) ?_;refine qp (id:=1) [(200019,[900]),(200023,[900]),(100024,[900]),(100025,[900])] kj J ((Zc4∘ZX) ?_);refine qz (qk L (q:=900) Z Z Z qj) Z Z (ZX (h:=?_));refine qz (qk L (q:=900) Z Z Z qi) Z Z (Z2 (h:=?_));refine xp (yj L (q:=900) Z Z b1 Z s1) Z (Z2 (h:=?_));refine xp (yj L (q:=900) Z Z b2 Z s2) Z ((Zbh∘Zq∘ZF∘Za∘Zat∘ZaR∘Zaz) ?_);generalize swp d a p=D at *;rw[zq7] at hR';dsimp only at hR';refine tw (ln (fun i:Nat=>[(0,.is (.slice (some ⟨b,0,none⟩) m cap)),(1,.is (.int .i64 a)),(10,.is (.int .i64 i)),(11,.is (.int .i64 e1)),(900,.own (xn b (uC D++rest) tyU))]) (fun i=>(a+1)<=i/\i<=max (a+1) (e1+1)/\i=scanUp (fun x=>lt x D[a]!) D e1 (a+1)) (fun _=>[]) ?_) ?_
 rotate_left
 ·refine xq (fun i:Nat=>[(0,.is (.slice (some ⟨b,0,none⟩) m cap)),(1,.is (.int .i64 a)),(10,.is (.int .i64 i)),(11,.is (.int .i64 e1)),(900,.own (xn b (uC D++rest) tyU))]) (fun i=>(a+1)<=i/\i<=max (a+1) (e1+1)/\scanUp (fun x=>lt x D[a]!) D e1 i=scanUp (fun x=>lt x D[a]!) D e1 (a+1)) (fun i=>e1+1-i) (a+1) ⟨nu _,by omega,rfl⟩ ⟨Z,Z,Z,Z,Z,nm⟩ ?_;rintro i ⟨hi1,hi2,hi3⟩;by_cases hle:i<=e1
  ·obtain⟨_,qx⟩:=gn (rest:=rest) (show i<D.size by omega) (0+(i)*1) rfl;obtain⟨_,qa⟩:=gn (rest:=rest) (show a<D.size by omega) (0+(a)*1) rfl
   cases hc:lt D[i]! D[a]! with
   | true=>
    have hw:IntKind.i64.wrap ((i:Int)+1)=((i+1:Nat):Int):=xd I I;refine Zd (h:=?_);refine qp (id:=3) [(200037,[900]),(200041,[900])] kj J ((Zt∘Zdi∘Zb2∘Z2) ?_);refine qz (qk L (q:=900) Z Z Z qx) Z Z (ZX (h:=?_));refine qz (qk L (q:=900) Z Z Z qa) Z Z (z91 L Z (fun u H hH _=>jv hc hH) ?_);refine(ZaA∘ZaN∘ZcX∘Zaz∘ZB∘ZF∘ZaB) ?_;exact yv (x:=i) (i+1) ⟨by omega,by omega,by rw[<-hi3];exact(Cx hle (by simp [hc])).symm⟩ I ⟨Z,Z,Z,Z,Z,nm⟩
   | false=>
    refine Zd (h:=?_);refine qp (id:=3) [(200037,[900]),(200041,[900])] kj J ((Zt∘Zdi∘Zb2∘Z2) ?_);refine qz (qk L (q:=900) Z Z Z qx) Z Z (ZX (h:=?_));refine qz (qk L (q:=900) Z Z Z qa) Z Z (z91 L Z (fun u H hH _=>jv hc hH) ?_);refine(Za4∘ZaG) ?_;exact wd i nq ⟨hi1,hi2,by rw[<-hi3];exact(fk (by rintro⟨_,h⟩;simp [hc] at h)).symm⟩ rfl ⟨rfl,rfl,rfl,rfl,rfl,nm⟩
  ·refine(Zd∘Zc0∘Zt∘ZdS∘Zcd∘Zc1∘Za4∘ZaG) ?_;exact wd i nq ⟨hi1,hi2,by rw[<-hi3];exact(fk (by rintro⟨h,_⟩;exact hle h)).symm⟩ rfl ⟨rfl,rfl,rfl,rfl,rfl,nm⟩
 rintro zrs ⟨hI1,hI2,hI3⟩;refine zj (qs ?_);refine tw (ln (fun i:Nat=>[(0,.is (.slice (some ⟨b,0,none⟩) m cap)),(1,.is (.int .i64 a)),(10,.is (.int .i64 zrs)),(11,.is (.int .i64 i)),(900,.own (xn b (uC D++rest) tyU))]) (fun i=>i<=e1/\min (zrs-1) e1<=i/\i=scanDown (fun x=>!lt x D[a]!) D zrs e1) (fun _=>[]) ?_) ?_
 rotate_left
 ·refine xq (fun i:Nat=>[(0,.is (.slice (some ⟨b,0,none⟩) m cap)),(1,.is (.int .i64 a)),(10,.is (.int .i64 zrs)),(11,.is (.int .i64 i)),(900,.own (xn b (uC D++rest) tyU))]) (fun i=>i<=e1/\min (zrs-1) e1<=i/\scanDown (fun x=>!lt x D[a]!) D zrs i=scanDown (fun x=>!lt x D[a]!) D zrs e1) (fun i=>i) e1 ⟨nu _,by omega,rfl⟩ ⟨Z,Z,Z,Z,Z,nm⟩ ?_;rintro i ⟨hi1,hi2,hi3⟩;by_cases hle:zrs<=i
  ·obtain⟨_,qx⟩:=gn (rest:=rest) (show i<D.size by omega) (0+(i)*1) rfl;obtain⟨_,qa⟩:=gn (rest:=rest) (show a<D.size by omega) (0+(a)*1) rfl
   cases hc:lt D[i]! D[a]! with
   | false=>
    obtain⟨i,rfl⟩:∃ k,i=k+1:=⟨i-1,by omega⟩
    have hw:IntKind.i64.wrap (((i+1:Nat):Int)-1)=(i:Int):=xd I I |>.trans I;refine(Zd∘ZeZ∘Zt∘Zdi∘Zb2∘Z2) ?_;refine qz (qk L (q:=900) Z Z Z qx) Z Z (ZX (h:=?_));refine qz (qk L (q:=900) Z Z Z qa) Z Z (z91 L Z (fun u H hH _=>jv hc hH) ?_);refine(Zbl∘ZaA∘ZaN∘ZcX∘Zaz∘ZL∘Zat∘ZaB) ?_;exact yv (x:=i+1) i ⟨by omega,by omega,by rw[<-hi3];exact(og hle (by simp [hc])).symm⟩ I ⟨Z,Z,Z,Z,Z,nm⟩
   | true=>
    refine(Zd∘ZeZ∘Zt∘Zdi∘Zb2∘Z2) ?_;refine qz (qk L (q:=900) Z Z Z qx) Z Z (ZX (h:=?_));refine qz (qk L (q:=900) Z Z Z qa) Z Z (z91 L Z (fun u H hH _=>jv hc hH) ?_);refine(Zbl∘Za4∘ZaG) ?_;exact wd i nq ⟨hi1,hi2,by rw[<-hi3];exact(uj (by rintro⟨_,h⟩;simp [hc] at h)).symm⟩ rfl ⟨rfl,rfl,rfl,rfl,rfl,nm⟩
  ·refine(Zd∘ZdP∘Zt∘ZdS∘Zcd∘Zcc∘Za4∘ZaG) ?_;exact wd i nq ⟨hi1,hi2,by rw[<-hi3];exact(uj (by rintro⟨h,_⟩;exact hle h)).symm⟩ rfl ⟨rfl,rfl,rfl,rfl,rfl,nm⟩
 rintro zrt ⟨hJ1,hJ2,hJ3⟩;rw[<-hI3,<-hJ3] at hR';by_cases hIJ:zrt<zrs
 ·rw[na hIJ] at hR';subst hR';obtain⟨_,qj⟩:=gn (rest:=rest) (show a<D.size by omega) (0+(a)*1) rfl;obtain⟨_,qi⟩:=gn (rest:=rest) (show zrt<D.size by omega) (0+(zrt)*1) rfl;have s1:=v9 (rest:=rest) D[a]! (show zrt<D.size by omega) (0+(zrt)*1) rfl;have b1:=ua (rest:=rest) (show zrt<D.size by omega) (0+(zrt)*1) rfl;have hz:a<(D.setIfInBounds (zrt) D[a]!).size:=by rw[zn8];omega
  have s2:=v9 (rest:=rest) D[zrt]! hz (0+(a)*1) rfl;have b2:=ua (rest:=rest) hz (0+(a)*1) rfl;rw[fg] at s2;refine(Zd∘Zbi∘ZJ∘Zr) ?_;refine qp (id:=8) [(200073,[900]),(200077,[900]),(100078,[900]),(100079,[900])] kj J ((Zc4∘ZX) ?_);refine qz (qk L (q:=900) Z Z Z qj) Z Z (ZX (h:=?_));refine qz (qk L (q:=900) Z Z Z qi) Z Z (Z2 (h:=?_));refine xp (yj L (q:=900) Z Z b1 Z s1) Z (Z2 (h:=?_));refine xp (yj L (q:=900) Z Z b2 Z s2) Z ((Zbh∘Za3∘ZA) ?_);exact ka L 900 (r:=xe b _ tyU) (rs:=[.tmp 8,.tmp 9]) Z (fun _ _ h=>h) nq Z Z (fun _=>rfl)
 ·rw[nc hIJ] at hR';have hw3:IntKind.i64.wrap ((zrs:Int)+1)=((zrs+1:Nat):Int):=xd I I;have hw4:IntKind.i64.wrap ((zrt:Int)-1)=((zrt-1:Nat):Int):=xd I I |>.trans I;obtain⟨_,qj⟩:=gn (rest:=rest) (show zrt<D.size by omega) (0+(zrt)*1) rfl;obtain⟨_,qi⟩:=gn (rest:=rest) (show zrs<D.size by omega) (0+(zrs)*1) rfl;have s1:=v9 (rest:=rest) D[zrt]! (show zrs<D.size by omega) (0+(zrs)*1) rfl;have b1:=ua (rest:=rest) (show zrs<D.size by omega) (0+(zrs)*1) rfl;have hz:zrt<(D.setIfInBounds (zrs) D[zrt]!).size:=by rw[zn8];omega
  have s2:=v9 (rest:=rest) D[zrs]! hz (0+(zrt)*1) rfl;have b2:=ua (rest:=rest) hz (0+(zrt)*1) rfl;rw[fg] at s2;have hEs:=wo D zrs zrt;refine(Zd∘Zbi∘Zca) ?_;refine qp (id:=10) [(200088,[900]),(200092,[900]),(100093,[900]),(100094,[900])] kj J ((Zc4∘ZX) ?_);refine qz (qk L (q:=900) Z Z Z qj) Z Z (ZX (h:=?_));refine qz (qk L (q:=900) Z Z Z qi) Z Z (Z2 (h:=?_));refine xp (yj L (q:=900) Z Z b1 Z s1) Z (Z2 (h:=?_));refine xp (yj L (q:=900) Z Z b2 Z s2) Z ((Zbh∘ZG∘Zar∘Zc∘ZW∘Za∘Zat∘Zc∘Zaz) ?_);generalize swp D zrs zrt=zrv at *;obtain⟨X,hX⟩:∃ X,X=partLoop lt a (zrs+1) (zrt-1) zrv:=⟨_,rfl⟩
  rw[<-hX] at hR';refine tw (ln (fun s:Nat×Array Int=>[(0,.is (.slice (some ⟨b,0,none⟩) m cap)),(1,.is (.int .i64 a)),(11,.is (.int .i64 s.1)),(900,.own (xn b (uC s.2++rest) tyU))]) (fun s=>s.2.size=m/\a<=s.1/\s.1<=e1/\s=X) (fun _=>[]) ?_) ?_
  rotate_left
  ·refine xq (fun s:(Nat×Nat)×Array Int=>[(0,.is (.slice (some ⟨b,0,none⟩) m cap)),(1,.is (.int .i64 a)),(10,.is (.int .i64 s.1.1)),(11,.is (.int .i64 s.1.2)),(900,.own (xn b (uC s.2++rest) tyU))]) (fun s=>s.2.size=m/\a+1<=s.1.1/\s.1.1<=e1+1/\a<=s.1.2/\s.1.2<=e1/\partLoop lt a s.1.1 s.1.2 s.2=X) (fun s=>s.1.2+1-s.1.1) ((zrs+1,zrt-1),zrv) ⟨by dsimp only;omega,by dsimp only;omega,by dsimp only;omega,by dsimp only;omega,by dsimp only;omega,hX.symm⟩ ⟨Z,Z,Z,Z,Z,trivial⟩ ?_;rintro⟨⟨i0,j0⟩,zrx⟩ ⟨hG,hi1,hi2,hj1,hj2,hL⟩;dsimp only at hG hi1 hi2 hj1 hj2 hL |-;rw[partLoop] at hL;clear hX hR' hEs hIJ hI3 hJ3;refine qs (zj (qs ?_));refine tw (ln (fun i:Nat=>[(0,.is (.slice (some ⟨b,0,none⟩) m cap)),(1,.is (.int .i64 a)),(10,.is (.int .i64 i)),(11,.is (.int .i64 j0)),(900,.own (xn b (uC zrx++rest) tyU))]) (fun i=>i0<=i/\i<=max i0 (j0+1)/\i=scanUp (fun x=>lt x zrx[a]!) zrx j0 i0) (fun _=>[]) ?_) ?_
   rotate_left
   ·refine xq (fun i:Nat=>[(0,.is (.slice (some ⟨b,0,none⟩) m cap)),(1,.is (.int .i64 a)),(10,.is (.int .i64 i)),(11,.is (.int .i64 j0)),(900,.own (xn b (uC zrx++rest) tyU))]) (fun i=>i0<=i/\i<=max i0 (j0+1)/\scanUp (fun x=>lt x zrx[a]!) zrx j0 i=scanUp (fun x=>lt x zrx[a]!) zrx j0 i0) (fun i=>j0+1-i) i0 ⟨nu _,by omega,rfl⟩ ⟨Z,Z,Z,Z,Z,nm⟩ ?_;rintro i ⟨hi1,hi2,hi3⟩;by_cases hle:i<=j0
    ·obtain⟨_,qx⟩:=gn (rest:=rest) (show i<zrx.size by omega) (0+(i)*1) rfl;obtain⟨_,qa⟩:=gn (rest:=rest) (show a<zrx.size by omega) (0+(a)*1) rfl
     cases hc:lt zrx[i]! zrx[a]! with
     | true=>
      have hw:IntKind.i64.wrap ((i:Int)+1)=((i+1:Nat):Int):=xd I I;refine Zd (h:=?_);refine qp (id:=13) [(200106,[900]),(200110,[900])] kj J ((Zt∘Zdi∘Zb2∘Z2) ?_);refine qz (qk L (q:=900) Z Z Z qx) Z Z (ZX (h:=?_));refine qz (qk L (q:=900) Z Z Z qa) Z Z (z91 L Z (fun u H hH _=>jv hc hH) ?_);refine(ZaA∘ZaN∘ZcX∘Zaz∘Za2∘Zar∘ZaB) ?_;exact yv (x:=i) (i+1) ⟨by omega,by omega,by rw[<-hi3];exact(Cx hle (by simp [hc])).symm⟩ I ⟨Z,Z,Z,Z,Z,nm⟩
     | false=>
      refine Zd (h:=?_);refine qp (id:=13) [(200106,[900]),(200110,[900])] kj J ((Zt∘Zdi∘Zb2∘Z2) ?_);refine qz (qk L (q:=900) Z Z Z qx) Z Z (ZX (h:=?_));refine qz (qk L (q:=900) Z Z Z qa) Z Z (z91 L Z (fun u H hH _=>jv hc hH) ?_);refine(Za4∘ZaG) ?_;exact wd i nq ⟨hi1,hi2,by rw[<-hi3];exact(fk (by rintro⟨_,h⟩;simp [hc] at h)).symm⟩ rfl ⟨rfl,rfl,rfl,rfl,rfl,nm⟩
    ·refine(Zd∘Zek∘Zt∘ZdS∘Zcd∘Zc1∘Za4∘ZaG) ?_;exact wd i nq ⟨hi1,hi2,by rw[<-hi3];exact(fk (by rintro⟨h,_⟩;exact hle h)).symm⟩ rfl ⟨rfl,rfl,rfl,rfl,rfl,nm⟩
   rintro K ⟨hK1,hK2,hK3⟩;refine zj (qs ?_);refine tw (ln (fun i:Nat=>[(0,.is (.slice (some ⟨b,0,none⟩) m cap)),(1,.is (.int .i64 a)),(10,.is (.int .i64 K)),(11,.is (.int .i64 i)),(900,.own (xn b (uC zrx++rest) tyU))]) (fun i=>i<=j0/\min (K-1) j0<=i/\i=scanDown (fun x=>!lt x zrx[a]!) zrx K j0) (fun _=>[]) ?_) ?_
   rotate_left
   ·refine xq (fun i:Nat=>[(0,.is (.slice (some ⟨b,0,none⟩) m cap)),(1,.is (.int .i64 a)),(10,.is (.int .i64 K)),(11,.is (.int .i64 i)),(900,.own (xn b (uC zrx++rest) tyU))]) (fun i=>i<=j0/\min (K-1) j0<=i/\scanDown (fun x=>!lt x zrx[a]!) zrx K i=scanDown (fun x=>!lt x zrx[a]!) zrx K j0) (fun i=>i) j0 ⟨nu _,by omega,rfl⟩ ⟨Z,Z,Z,Z,Z,nm⟩ ?_;rintro i ⟨hi1,hi2,hi3⟩;by_cases hle:K<=i
    ·obtain⟨_,qx⟩:=gn (rest:=rest) (show i<zrx.size by omega) (0+(i)*1) rfl;obtain⟨_,qa⟩:=gn (rest:=rest) (show a<zrx.size by omega) (0+(a)*1) rfl
     cases hc:lt zrx[i]! zrx[a]! with
     | false=>
      obtain⟨i,rfl⟩:∃ k,i=k+1:=⟨i-1,by omega⟩
      have hw:IntKind.i64.wrap (((i+1:Nat):Int)-1)=(i:Int):=xd I I |>.trans I;refine Zd (h:=?_);refine qp (id:=15) [(200122,[900]),(200126,[900])] kj J ((Zt∘Zdi∘Zb2∘Z2) ?_);refine qz (qk L (q:=900) Z Z Z qx) Z Z (ZX (h:=?_));refine qz (qk L (q:=900) Z Z Z qa) Z Z (z91 L Z (fun u H hH _=>jv hc hH) ?_);refine(Zbl∘ZaA∘ZaN∘ZcX∘Zaz∘Zaf∘Za∘Zat∘ZaB) ?_;exact yv (x:=i+1) i ⟨by omega,by omega,by rw[<-hi3];exact(og hle (by simp [hc])).symm⟩ I ⟨Z,Z,Z,Z,Z,nm⟩
     | true=>
      refine Zd (h:=?_);refine qp (id:=15) [(200122,[900]),(200126,[900])] kj J ((Zt∘Zdi∘Zb2∘Z2) ?_);refine qz (qk L (q:=900) Z Z Z qx) Z Z (ZX (h:=?_));refine qz (qk L (q:=900) Z Z Z qa) Z Z (z91 L Z (fun u H hH _=>jv hc hH) ?_);refine(Zbl∘Za4∘ZaG) ?_;exact wd i nq ⟨hi1,hi2,by rw[<-hi3];exact(uj (by rintro⟨_,h⟩;simp [hc] at h)).symm⟩ rfl ⟨rfl,rfl,rfl,rfl,rfl,nm⟩
    ·refine Zd (h:=?_);refine qp (id:=15) [] kj J ((Zt∘ZdS∘Zcd∘Zcc∘Za4∘ZaG) ?_);exact wd i nq ⟨hi1,hi2,by rw[<-hi3];exact(uj (by rintro⟨h,_⟩;exact hle h)).symm⟩ rfl ⟨rfl,rfl,rfl,rfl,rfl,nm⟩
   rintro zrw ⟨hM1,hM2,hM3⟩;rw[<-hK3,<-hM3] at hL;by_cases hKM:zrw<K
   ·rw[na hKM] at hL;refine(Zd∘ZaW∘Zb∘ZJ∘Z3∘Zeq) ?_;refine ib Z (Zdx (h:=?_));exact wd (zrw,zrx) Since.refl ⟨hG,by dsimp only;omega,by dsimp only;omega,hL⟩ Z ⟨Z,Z,Z,Z,trivial⟩
   ·rw[nc hKM,dif_pos I] at hL;have hw5:IntKind.i64.wrap ((K:Int)+1)=((K+1:Nat):Int):=xd I I;have hw6:IntKind.i64.wrap ((zrw:Int)-1)=((zrw-1:Nat):Int):=xd I I |>.trans I;have hGs:=wo zrx K zrw;obtain⟨_,qj⟩:=gn (rest:=rest) (show zrw<zrx.size by omega) (0+(zrw)*1) rfl;obtain⟨_,qi⟩:=gn (rest:=rest) (show K<zrx.size by omega) (0+(K)*1) rfl;have s1:=v9 (rest:=rest) zrx[zrw]! (show K<zrx.size by omega) (0+(K)*1) rfl;have b1:=ua (rest:=rest) (show K<zrx.size by omega) (0+(K)*1) rfl;have hz:zrw<(zrx.setIfInBounds (K) zrx[zrw]!).size:=by rw[zn8];omega
    have s2:=v9 (rest:=rest) zrx[K]! hz (0+(zrw)*1) rfl;have b2:=ua (rest:=rest) hz (0+(zrw)*1) rfl;rw[fg] at s2;refine(Zd∘ZaW∘Zb∘Zca) ?_;refine qp (id:=18) [(200142,[900]),(200146,[900]),(100147,[900]),(100148,[900])] kj J ((Zc4∘ZX) ?_);refine qz (qk L (q:=900) Z Z Z qj) Z Z (ZX (h:=?_));refine qz (qk L (q:=900) Z Z Z qi) Z Z (Z2 (h:=?_));refine xp (yj L (q:=900) Z Z b1 Z s1) Z (Z2 (h:=?_));refine xp (yj L (q:=900) Z Z b2 Z s2) Z ((Zbh∘Zbu∘Zar∘Ze∘ZaK∘Za∘Zat∘ZaB) ?_);exact yv (x:=((i0,j0),zrx)) ((K+1,zrw-1),swp zrx K zrw) ⟨by dsimp only;omega,by dsimp only;omega,by dsimp only;omega,by dsimp only;omega,by dsimp only;omega,hL⟩ M ⟨Z,Z,Z,Z,Z,trivial⟩
  ·rintro⟨J2,zrx⟩ ⟨hG,hj1,hj2,hL⟩;dsimp only at hG hj1 hj2 |-;rw[<-hL] at hR';dsimp only at hR';subst hR';obtain⟨_,qj⟩:=gn (rest:=rest) (show a<zrx.size by omega) (0+(a)*1) rfl;obtain⟨_,qi⟩:=gn (rest:=rest) (show J2<zrx.size by omega) (0+(J2)*1) rfl;have s1:=v9 (rest:=rest) zrx[a]! (show J2<zrx.size by omega) (0+(J2)*1) rfl;have b1:=ua (rest:=rest) (show J2<zrx.size by omega) (0+(J2)*1) rfl;have hz:a<(zrx.setIfInBounds (J2) zrx[a]!).size:=by rw[zn8];omega
   have s2:=v9 (rest:=rest) zrx[J2]! hz (0+(a)*1) rfl;have b2:=ua (rest:=rest) hz (0+(a)*1) rfl;rw[fg] at s2;refine Zf (h:=?_);refine qp (id:=21) [(200160,[900]),(200164,[900]),(100165,[900]),(100166,[900])] kj J ((Zc4∘ZX) ?_);refine qz (qk L (q:=900) Z Z Z qj) Z Z (ZX (h:=?_));refine qz (qk L (q:=900) Z Z Z qi) Z Z (Z2 (h:=?_));refine xp (yj L (q:=900) Z Z b1 Z s1) Z (Z2 (h:=?_));refine xp (yj L (q:=900) Z Z b2 Z s2) Z ((Zbh∘ZbI∘Za∘ZA) ?_);exact ka L 900 (r:=xe b _ tyU) (rs:=[.tmp 8,.tmp 9]) Z (fun _ _ h=>h) nq Z Z (fun _=>rfl)
def zgt{cap p:Nat}(hap:a<=p)(hpe:p<e)(he:e<=d.size)(hm:d.size=m)(hm1:m<=100000)(hB:zry B w)
  (hr:(xe b (uC d++rest) tyU).P B w C) (hC:ZCB C w B):
  RetX zrz 276 [.slice (some ⟨b,0,none⟩) m cap,.int .i64 a,.int .i64 e,.int .i64 p] w B C (xe b (uC (partitionEqual lt d a e p).2++rest) tyU) (.int .i64 (partitionEqual lt d a e p).1):=by
 unfold RetX;refine xh 900 (xe b (uC d++rest) tyU) Tryz.func276 Z Tryz.ntmps276 (np Z) hB hr hC ?_;rw[xf];obtain⟨_,qj⟩:=gn (rest:=rest) (show p<d.size by omega) (0+(p)*1) rfl;obtain⟨_,qi⟩:=gn (rest:=rest) (show a<d.size by omega) (0+(a)*1) rfl;have s1:=v9 (rest:=rest) d[p]! (show a<d.size by omega) (0+(a)*1) rfl;have b1:=ua (rest:=rest) (show a<d.size by omega) (0+(a)*1) rfl;have hz:p<(d.setIfInBounds (a) d[p]!).size:=by rw[zn8];omega
 have s2:=v9 (rest:=rest) d[a]! hz (0+(p)*1) rfl;have b2:=ua (rest:=rest) hz (0+(p)*1) rfl;rw[fg] at s2;have hw1:IntKind.i64.wrap ((a:Int)+1)=((a+1:Nat):Int):=xd I I;obtain⟨e1,rfl⟩:∃ e1,e=e1+1:=⟨e-1,by omega⟩
 have hw2:IntKind.i64.wrap (((e1+1:Nat):Int)-1)=(e1:Int):=xd I I |>.trans I;obtain⟨X,hX⟩:∃ X,X=partitionEqual lt d a (e1+1) p:=⟨_,rfl⟩
 rw[<-hX];have hR':=hX;unfold partitionEqual at hR';rw[zq7] at hR';have hDs:=wo d a p;refine(Zad∘Zc) ?_;refine qp (id:=1) [(200018,[900]),(200022,[900]),(100023,[900]),(100024,[900])] kj J ((Zc4∘ZX) ?_);refine qz (qk L (q:=900) Z Z Z qj) Z Z (ZX (h:=?_));refine qz (qk L (q:=900) Z Z Z qi) Z Z (Z2 (h:=?_));refine xp (yj L (q:=900) Z Z b1 Z s1) Z (Z2 (h:=?_));refine xp (yj L (q:=900) Z Z b2 Z s2) Z ((Zbh∘Zq∘ZF∘Za∘Zat∘ZaR∘Zaz) ?_);generalize swp d a p=D at *;refine tw (ln (fun s:Nat×Array Int=>[(9,.is (.int .i64 s.1)),(900,.own (xn b (uC s.2++rest) tyU))]) (fun s=>s.2.size=m/\s=X) (fun _=>[]) ?_) ?_
 rotate_left
 ·refine xq (fun s:(Nat×Nat)×Array Int=>[(0,.is (.slice (some ⟨b,0,none⟩) m cap)),(1,.is (.int .i64 a)),(9,.is (.int .i64 s.1.1)),(10,.is (.int .i64 s.1.2)),(900,.own (xn b (uC s.2++rest) tyU))]) (fun s=>s.2.size=m/\a+1<=s.1.1/\s.1.1<=e1+1/\a<=s.1.2/\s.1.2<=e1/\partEqLoop lt a s.1.1 s.1.2 s.2=X) (fun s=>s.1.2+1-s.1.1) ((a+1,e1),D) ⟨by dsimp only;omega,by dsimp only;omega,by dsimp only;omega,by dsimp only;omega,by dsimp only;omega,hR'.symm⟩ ⟨Z,Z,Z,Z,Z,trivial⟩ ?_;rintro⟨⟨i0,j0⟩,zrx⟩ ⟨hG,hi1,hi2,hj1,hj2,hL⟩;dsimp only at hG hi1 hi2 hj1 hj2 hL |-;rw[partEqLoop] at hL;clear hX hR' hDs;refine qs (zj (qs ?_));refine tw (ln (fun i:Nat=>[(0,.is (.slice (some ⟨b,0,none⟩) m cap)),(1,.is (.int .i64 a)),(9,.is (.int .i64 i)),(10,.is (.int .i64 j0)),(900,.own (xn b (uC zrx++rest) tyU))]) (fun i=>i0<=i/\i<=max i0 (j0+1)/\i=scanUp (fun x=>!lt zrx[a]! x) zrx j0 i0) (fun _=>[]) ?_) ?_
  rotate_left
  ·refine xq (fun i:Nat=>[(0,.is (.slice (some ⟨b,0,none⟩) m cap)),(1,.is (.int .i64 a)),(9,.is (.int .i64 i)),(10,.is (.int .i64 j0)),(900,.own (xn b (uC zrx++rest) tyU))]) (fun i=>i0<=i/\i<=max i0 (j0+1)/\scanUp (fun x=>!lt zrx[a]! x) zrx j0 i=scanUp (fun x=>!lt zrx[a]! x) zrx j0 i0) (fun i=>j0+1-i) i0 ⟨nu _,by omega,rfl⟩ ⟨Z,Z,Z,Z,Z,nm⟩ ?_;rintro i ⟨hi1,hi2,hi3⟩;by_cases hle:i<=j0
   ·obtain⟨_,qx⟩:=gn (rest:=rest) (show i<zrx.size by omega) (0+(i)*1) rfl;obtain⟨_,qa⟩:=gn (rest:=rest) (show a<zrx.size by omega) (0+(a)*1) rfl
    cases hc:lt zrx[a]! zrx[i]! with
    | false=>
     have hw:IntKind.i64.wrap ((i:Int)+1)=((i+1:Nat):Int):=xd I I;refine Zd (h:=?_);refine qp (id:=3) [(200036,[900]),(200040,[900])] kj J ((Zt∘Zdi∘Zb2∘Z2) ?_);refine qz (qk L (q:=900) Z Z Z qa) Z Z (ZX (h:=?_));refine qz (qk L (q:=900) Z Z Z qx) Z Z (z91 L Z (fun u H hH _=>jv hc hH) ?_);refine(Zbl∘ZaA∘ZaN∘ZcX∘Zaz∘ZB∘ZF∘ZaB) ?_;exact yv (x:=i) (i+1) ⟨by omega,by omega,by rw[<-hi3];exact(Cx hle (by simp [hc])).symm⟩ I ⟨Z,Z,Z,Z,Z,nm⟩
    | true=>
     refine Zd (h:=?_);refine qp (id:=3) [(200036,[900]),(200040,[900])] kj J ((Zt∘Zdi∘Zb2∘Z2) ?_);refine qz (qk L (q:=900) Z Z Z qa) Z Z (ZX (h:=?_));refine qz (qk L (q:=900) Z Z Z qx) Z Z (z91 L Z (fun u H hH _=>jv hc hH) ?_);refine(Zbl∘Za4∘ZaG) ?_;exact wd i nq ⟨hi1,hi2,by rw[<-hi3];exact(fk (by rintro⟨_,h⟩;simp [hc] at h)).symm⟩ rfl ⟨rfl,rfl,rfl,rfl,rfl,nm⟩
   ·refine(Zd∘Zc0∘Zt∘ZdS∘Zcd∘Zcc∘Za4∘ZaG) ?_;exact wd i nq ⟨hi1,hi2,by rw[<-hi3];exact(fk (by rintro⟨h,_⟩;exact hle h)).symm⟩ rfl ⟨rfl,rfl,rfl,rfl,rfl,nm⟩
  rintro K ⟨hK1,hK2,hK3⟩;refine zj (qs ?_);refine tw (ln (fun i:Nat=>[(0,.is (.slice (some ⟨b,0,none⟩) m cap)),(1,.is (.int .i64 a)),(9,.is (.int .i64 K)),(10,.is (.int .i64 i)),(900,.own (xn b (uC zrx++rest) tyU))]) (fun i=>i<=j0/\min (K-1) j0<=i/\i=scanDown (fun x=>lt zrx[a]! x) zrx K j0) (fun _=>[]) ?_) ?_
  rotate_left
  ·refine xq (fun i:Nat=>[(0,.is (.slice (some ⟨b,0,none⟩) m cap)),(1,.is (.int .i64 a)),(9,.is (.int .i64 K)),(10,.is (.int .i64 i)),(900,.own (xn b (uC zrx++rest) tyU))]) (fun i=>i<=j0/\min (K-1) j0<=i/\scanDown (fun x=>lt zrx[a]! x) zrx K i=scanDown (fun x=>lt zrx[a]! x) zrx K j0) (fun i=>i) j0 ⟨nu _,by omega,rfl⟩ ⟨Z,Z,Z,Z,Z,nm⟩ ?_;rintro i ⟨hi1,hi2,hi3⟩;by_cases hle:K<=i
   ·obtain⟨_,qx⟩:=gn (rest:=rest) (show i<zrx.size by omega) (0+(i)*1) rfl;obtain⟨_,qa⟩:=gn (rest:=rest) (show a<zrx.size by omega) (0+(a)*1) rfl
    cases hc:lt zrx[a]! zrx[i]! with
    | true=>
     obtain⟨i,rfl⟩:∃ k,i=k+1:=⟨i-1,by omega⟩
     have hw:IntKind.i64.wrap (((i+1:Nat):Int)-1)=(i:Int):=xd I I |>.trans I;refine(Zd∘ZeZ∘Zt∘Zdi∘Zb2∘Z2) ?_;refine qz (qk L (q:=900) Z Z Z qa) Z Z (ZX (h:=?_));refine qz (qk L (q:=900) Z Z Z qx) Z Z (z91 L Z (fun u H hH _=>jv hc hH) ?_);refine(ZaA∘ZaN∘ZcX∘Zaz∘ZL∘Zat∘ZaB) ?_;exact yv (x:=i+1) i ⟨by omega,by omega,by rw[<-hi3];exact(og hle (by simp [hc])).symm⟩ I ⟨Z,Z,Z,Z,Z,nm⟩
    | false=>
     refine(Zd∘ZeZ∘Zt∘Zdi∘Zb2∘Z2) ?_;refine qz (qk L (q:=900) Z Z Z qa) Z Z (ZX (h:=?_));refine qz (qk L (q:=900) Z Z Z qx) Z Z (z91 L Z (fun u H hH _=>jv hc hH) ?_);refine(Za4∘ZaG) ?_;exact wd i nq ⟨hi1,hi2,by rw[<-hi3];exact(uj (by rintro⟨_,h⟩;simp [hc] at h)).symm⟩ rfl ⟨rfl,rfl,rfl,rfl,rfl,nm⟩
   ·refine(Zd∘ZdP∘Zt∘ZdS∘Zcd∘Zc1∘Za4∘ZaG) ?_;exact wd i nq ⟨hi1,hi2,by rw[<-hi3];exact(uj (by rintro⟨h,_⟩;exact hle h)).symm⟩ rfl ⟨rfl,rfl,rfl,rfl,rfl,nm⟩
  rintro zrw ⟨hM1,hM2,hM3⟩;rw[<-hK3,<-hM3] at hL;by_cases hKM:zrw<K
  ·rw[na hKM] at hL;refine(Zd∘Zbi∘ZJ∘Z3∘Zeq) ?_;refine ib Z (Zdx (h:=?_));exact wd (K,zrx) nq ⟨hG,hL⟩ Z ⟨Z,Z,nm⟩
  ·rw[nc hKM,dif_pos I] at hL;have hw5:IntKind.i64.wrap ((K:Int)+1)=((K+1:Nat):Int):=xd I I;have hw6:IntKind.i64.wrap ((zrw:Int)-1)=((zrw-1:Nat):Int):=xd I I |>.trans I;have hGs:=wo zrx K zrw;obtain⟨_,qj⟩:=gn (rest:=rest) (show zrw<zrx.size by omega) (0+(zrw)*1) rfl;obtain⟨_,qi⟩:=gn (rest:=rest) (show K<zrx.size by omega) (0+(K)*1) rfl;have s1:=v9 (rest:=rest) zrx[zrw]! (show K<zrx.size by omega) (0+(K)*1) rfl;have b1:=ua (rest:=rest) (show K<zrx.size by omega) (0+(K)*1) rfl;have hz:zrw<(zrx.setIfInBounds (K) zrx[zrw]!).size:=by rw[zn8];omega
   have s2:=v9 (rest:=rest) zrx[K]! hz (0+(zrw)*1) rfl;have b2:=ua (rest:=rest) hz (0+(zrw)*1) rfl;rw[fg] at s2;refine(Zd∘Zbi∘Zca) ?_;refine qp (id:=8) [(200072,[900]),(200076,[900]),(100077,[900]),(100078,[900])] kj J ((Zc4∘ZX) ?_);refine qz (qk L (q:=900) Z Z Z qj) Z Z (ZX (h:=?_));refine qz (qk L (q:=900) Z Z Z qi) Z Z (Z2 (h:=?_));refine xp (yj L (q:=900) Z Z b1 Z s1) Z (Z2 (h:=?_));refine xp (yj L (q:=900) Z Z b2 Z s2) Z ((Zbh∘ZE∘Zar∘Ze∘Zcw∘Zat∘ZaB) ?_);exact yv (x:=((i0,j0),zrx)) ((K+1,zrw-1),swp zrx K zrw) ⟨by dsimp only;omega,by dsimp only;omega,by dsimp only;omega,by dsimp only;omega,by dsimp only;omega,hL⟩ M ⟨Z,Z,Z,Z,Z,trivial⟩
 ·rintro⟨K,zrx⟩ ⟨hG,hL⟩;dsimp only at hG |-;rw[<-hL];refine(Zf∘ZG∘Za∘Ze) ?_;exact ka L 900 (r:=xe b _ tyU) (rs:=[.tmp 8]) Z (fun _ _ h=>h) nq Z Z (fun _=>rfl)
def _root_.Zb0(t:Wr Y->A:=by intro h;refine zh (id:=21) ?_;exact h.1)(h:Y):A:=t ⟨h⟩
def _root_.Zc5(t:Wr Y->A:=by intro h;refine zh (id:=24) ?_;exact h.1)(h:Y):A:=t ⟨h⟩
def eg(h:¬ (i<e/\lt d[i]! d[i-1]! =false)):scanSorted lt d e i=i:=by
 rw[scanSorted,nc];simpa using h
def Gv(h1:i<e)(h2:lt d[i]! d[i-1]! =false):scanSorted lt d e i=scanSorted lt d e (i+1):=by
 rw[scanSorted,na (by simp [h1,h2])]
def pins_ret{cap:Nat}(hab:a<e)(he:e<=d.size)(hm:d.size=m)(hm1:m<=100000)(hB:zry B w)
  (hr:(xe b (uC d++rest) tyU).P B w C) (hC:ZCB C w B):
  RetX zrz 274 [.slice (some ⟨b,0,none⟩) m cap,.int .i64 a,.int .i64 e] w B C (xe b (uC (partialInsertionSort lt d a e).1++rest) tyU) (.bool (partialInsertionSort lt d a e).2):=by
 unfold RetX;refine xh 900 (xe b (uC d++rest) tyU) Tryz.func274 Z Tryz.ntmps274 (np Z) hB hr hC ?_;rw[xf];have hw1:IntKind.i64.wrap ((a:Int)+1)=((a+1:Nat):Int):=xd I I;have hw2:IntKind.i64.wrap ((e:Int)-(a:Int))=((e-a:Nat):Int):=xd I I |>.trans I;obtain⟨X,hX⟩:∃ X,X=partialInsertionSort lt d a e:=⟨_,rfl⟩
 rw[<-hX];unfold partialInsertionSort at hX;refine(Z4∘Zar∘Zj∘ZS∘Za0) ?_;refine xq (fun s:(Nat×Nat)×Array Int=>[(0,.is (.slice (some ⟨b,0,none⟩) m cap)),(1,.is (.int .i64 a)),(2,.is (.int .i64 e)),(7,.is (.int .i64 s.1.2)),(8,.is (.int .i64 s.1.1)),(900,.own (xn b (uC s.2++rest) tyU))]) (fun s=>s.1.1<=5/\a+1<=s.1.2/\s.1.2<=e/\s.2.size=m/\partialIns lt a e (5-s.1.1) s.1.2 s.2=X) (fun s=>5-s.1.1) ((0,a+1),d) ⟨by dsimp only;omega,by dsimp only;omega,by dsimp only;omega,hm,hX.symm⟩ ⟨Z,Z,Z,Z,Z,Z,trivial⟩ ?_;rintro⟨⟨k,i0⟩,D⟩ ⟨hk,hi1,hi2,hD,hL⟩;dsimp only at hk hi1 hi2 hD hL |-;clear hX;by_cases hk5:k<5
 ·obtain⟨s,hs⟩:∃ s,5-k=s+1:=⟨5-k-1,by omega⟩
  have hs':5-(k+1)=s:=I;rw[hs,partialIns] at hL;dsimp only at hL;refine(Zd∘Zx∘Zbq∘ZaX∘Zaz) ?_;refine tw (ln (fun i:Nat=>[(0,.is (.slice (some ⟨b,0,none⟩) m cap)),(1,.is (.int .i64 a)),(2,.is (.int .i64 e)),(7,.is (.int .i64 i)),(8,.is (.int .i64 k)),(900,.own (xn b (uC D++rest) tyU))]) (fun i=>a+1<=i/\i<=e/\i=scanSorted lt D e i0) (fun _=>[]) ?_) ?_
  rotate_left
  ·refine xq (fun i:Nat=>[(0,.is (.slice (some ⟨b,0,none⟩) m cap)),(1,.is (.int .i64 a)),(2,.is (.int .i64 e)),(7,.is (.int .i64 i)),(8,.is (.int .i64 k)),(900,.own (xn b (uC D++rest) tyU))]) (fun i=>a+1<=i/\i<=e/\scanSorted lt D e i=scanSorted lt D e i0) (fun i=>e-i) i0 ⟨hi1,hi2,rfl⟩ ⟨Z,Z,Z,Z,Z,Z,nm⟩ ?_;rintro i ⟨h1,h2,h3⟩;by_cases hle:i<e
   ·obtain⟨_,q1⟩:=gn (rest:=rest) (show i<D.size by omega) (0+(i)*1) rfl;obtain⟨_,q2⟩:=gn (rest:=rest) (show i-1<D.size by omega) (0+(i-1)*1) rfl;have hw3:IntKind.i64.wrap ((i:Int)-1)=((i-1:Nat):Int):=xd I I |>.trans I
    cases hc:lt D[i]! D[i-1]! with
    | false=>
     have hw4:IntKind.i64.wrap ((i:Int)+1)=((i+1:Nat):Int):=xd I I;refine Zd (h:=?_);refine qp (id:=5) [(200024,[900]),(200029,[900])] kj J ((Zt∘ZcR∘Zb2∘Z2) ?_);refine qz (qk L (q:=900) Z Z Z q1) Z Z ((Zt∘ZbV) ?_);refine qz (qk L (q:=900) Z Z Z q2) Z Z (z91 L Z (fun u H hH _=>jv hc hH) ?_);refine(Zbl∘ZaA∘ZaN∘ZcX∘Zaz∘ZL∘ZF∘ZaB) ?_;exact yv (x:=i) (i+1) ⟨by omega,by omega,by rw[<-h3];exact(Gv hle hc).symm⟩ I ⟨Z,Z,Z,Z,Z,Z,nm⟩
    | true=>
     refine Zd (h:=?_);refine qp (id:=5) [(200024,[900]),(200029,[900])] kj J ((Zt∘ZcR∘Zb2∘Z2) ?_);refine qz (qk L (q:=900) Z Z Z q1) Z Z ((Zt∘ZbV) ?_);refine qz (qk L (q:=900) Z Z Z q2) Z Z (z91 L Z (fun u H hH _=>jv hc hH) ?_);refine(Zbl∘Za4∘ZaG) ?_;exact wd i nq ⟨h1,h2,by rw[<-h3];exact(eg (by rintro⟨_,h⟩;simp [hc] at h)).symm⟩ rfl ⟨rfl,rfl,rfl,rfl,rfl,rfl,nm⟩
   ·refine(Zd∘ZdP∘Zt∘Zdn∘Zcd∘Zcc∘Zc1∘Za4∘ZaG) ?_;exact wd i nq ⟨h1,h2,by rw[<-h3];exact(eg (by rintro⟨h,_⟩;exact hle h)).symm⟩ rfl ⟨rfl,rfl,rfl,rfl,rfl,rfl,nm⟩
  ·rintro i ⟨h1,h2,h3⟩;rw[<-h3] at hL;by_cases hie:i=e
   ·rw[na hie] at hL;subst hie;rw[<-hL];refine(Zd∘Zbi∘Zv∘Zr∘Z7∘Ze) ?_;exact ka L 900 (r:=xe b _ tyU) (rs:=[.tmp 6]) Z (fun _ _ h=>h) nq Z Z (fun _=>rfl)
   ·rw[nc hie] at hL;by_cases h50:e-a<50
    ·rw[na h50] at hL;rw[<-hL];refine(Zd∘Zbi∘Zn∘ZV∘ZE∘ZaC∘ZI∘Zr∘Zbf∘Ze) ?_;exact ka L 900 (r:=xe b _ tyU) (rs:=[.tmp 6]) Z (fun _ _ h=>h) nq Z Z (fun _=>rfl)
    ·rw[nc h50] at hL;have hw3:IntKind.i64.wrap ((i:Int)-1)=((i-1:Nat):Int):=xd I I |>.trans I;have hw4:IntKind.i64.wrap ((i:Int)-(a:Int))=((i-a:Nat):Int):=xd I I |>.trans I;have hw5:IntKind.i64.wrap ((e:Int)-(i:Int))=((e-i:Nat):Int):=xd I I |>.trans I;have hw6:IntKind.i64.wrap ((i:Int)+1)=((i+1:Nat):Int):=xd I I;have hw7:IntKind.i64.wrap ((k:Int)+1)=((k+1:Nat):Int):=xd I I;have hDs:=wo D i (i-1);obtain⟨_,qj⟩:=gn (rest:=rest) (show i-1<D.size by omega) (0+(i-1)*1) rfl;obtain⟨_,qi⟩:=gn (rest:=rest) (show i<D.size by omega) (0+(i)*1) rfl;have s1:=v9 (rest:=rest) D[i-1]! (show i<D.size by omega) (0+(i)*1) rfl;have b1:=ua (rest:=rest) (show i<D.size by omega) (0+(i)*1) rfl;have hz:i-1<(D.setIfInBounds (i) D[i-1]!).size:=by rw[zn8];omega
     have s2:=v9 (rest:=rest) D[i]! hz (0+(i-1)*1) rfl;have b2:=ua (rest:=rest) hz (0+(i-1)*1) rfl;rw[fg] at s2;refine(Zd∘Zbi∘Zn∘ZV∘ZE∘ZaC∘Z6∘Zo) ?_;refine qp (id:=11) [(200051,[900]),(200055,[900]),(100056,[900]),(100057,[900])] kj J ((Zc4∘Zdr∘Zt∘ZbV) ?_);refine qz (qk L (q:=900) Z Z Z qj) Z Z (ZX (h:=?_));refine qz (qk L (q:=900) Z Z Z qi) Z Z (Z2 (h:=?_));refine xp (yj L (q:=900) Z Z b1 Z s1) Z (Z2 (h:=?_));refine xp (yj L (q:=900) Z Z b2 Z s2) Z ((Zbh∘Zf) ?_);generalize swp D i (i-1)=D1 at *;obtain⟨D2,hD2⟩:∃ D2,D2=(if i-a>=2 then shiftDown lt (i-1) D1 else D1):=⟨_,rfl⟩
     rw[<-hD2] at hL;refine ot (fun zrv:Array Int=>[(0,.is (.slice (some ⟨b,0,none⟩) m cap)),(1,.is (.int .i64 a)),(2,.is (.int .i64 e)),(7,.is (.int .i64 i)),(8,.is (.int .i64 k)),(900,.own (xn b (uC zrv++rest) tyU))]) (fun zrv=>zrv.size=m/\zrv=D2) (fun _=>[]) ?_ ?_
     rotate_left
     ·by_cases h2a:i-a>=2
      ·rw[na h2a] at hD2;refine(ZW∘ZaC∘ZbD∘Zr∘ZO∘Za∘Zat∘Za0) ?_;refine xq (fun t:Nat×Array Int=>[(0,.is (.slice (some ⟨b,0,none⟩) m cap)),(1,.is (.int .i64 a)),(2,.is (.int .i64 e)),(7,.is (.int .i64 i)),(8,.is (.int .i64 k)),(9,.is (.int .i64 t.1)),(900,.own (xn b (uC t.2++rest) tyU))]) (fun t=>t.1<=i-1/\t.2.size=m/\shiftDown lt t.1 t.2=D2) (fun t=>t.1) (i-1,D1) ⟨Nat.le_refl _,by dsimp only;omega,hD2.symm⟩ ⟨Z,Z,Z,Z,Z,Z,Z,trivial⟩ ?_;rintro⟨j,zrv⟩ ⟨hj,hE,hS⟩;dsimp only at hj hE hS |-;clear hD2;rcases j with _ | j
       ·rw[shiftDown] at hS;refine(Zd∘ZbL∘Zaj∘Za5∘ZaG) ?_;exact wd zrv nq ⟨hE,hS⟩ Z ⟨Z,Z,Z,Z,Z,Z,nm⟩
       ·rw[shiftDown] at hS;have hw8:IntKind.i64.wrap (((j+1:Nat):Int)-1)=(j:Int):=xd I I |>.trans I;obtain⟨_,q1⟩:=gn (rest:=rest) (show j+1<zrv.size by omega) (0+(j+1)*1) rfl;obtain⟨_,q2⟩:=gn (rest:=rest) (show j<zrv.size by omega) (0+(j)*1) rfl
        cases hc:lt zrv[j+1]! zrv[j]! with
        | false=>
         rw[na (by rw[hc];rfl)] at hS;refine(Zd∘ZbL∘ZbE∘ZaZ∘Zd) ?_;refine qp (id:=16) [(200071,[900]),(200076,[900])] kj J (ZX (h:=?_));refine qz (qk L (q:=900) Z Z Z q1) Z Z ((Zt∘ZbV) ?_);refine qz (qk L (q:=900) Z Z Z q2) Z Z (z91 L Z (fun u H hH _=>jv hc hH) ?_);refine(Zbl∘ZaN∘Zeq) ?_;refine ib Z ((Zef∘Zdx) ?_);exact wd zrv nq ⟨hE,hS⟩ Z ⟨Z,Z,Z,Z,Z,Z,nm⟩
        | true=>
         rw[nc (by rw[hc];simp)] at hS;obtain⟨_,qj⟩:=gn (rest:=rest) (show j<zrv.size by omega) (0+(j)*1) rfl;obtain⟨_,qi⟩:=gn (rest:=rest) (show j+1<zrv.size by omega) (0+(j+1)*1) rfl;have s1:=v9 (rest:=rest) zrv[j]! (show j+1<zrv.size by omega) (0+(j+1)*1) rfl;have b1:=ua (rest:=rest) (show j+1<zrv.size by omega) (0+(j+1)*1) rfl;have hz:j<(zrv.setIfInBounds (j+1) zrv[j]!).size:=by rw[zn8];omega
         have s2:=v9 (rest:=rest) zrv[j+1]! hz (0+(j)*1) rfl;have b2:=ua (rest:=rest) hz (0+(j)*1) rfl;rw[fg] at s2;refine(Zd∘ZbL∘ZbE∘ZaZ∘Zd) ?_;refine qp (id:=16) [(200071,[900]),(200076,[900])] kj J (ZX (h:=?_));refine qz (qk L (q:=900) Z Z Z q1) Z Z ((Zt∘ZbV) ?_);refine qz (qk L (q:=900) Z Z Z q2) Z Z (z91 L Z (fun u H hH _=>jv hc hH) ?_);refine(Zbl∘Zbg∘ZcX) ?_;refine qp (id:=17) [(200088,[900]),(200092,[900]),(100093,[900]),(100094,[900])] kj J ((Zc4∘Zdr∘Zt∘ZbV) ?_);refine qz (qk L (q:=900) Z Z Z qj) Z Z (ZX (h:=?_));refine qz (qk L (q:=900) Z Z Z qi) Z Z (Z2 (h:=?_));refine xp (yj L (q:=900) Z Z b1 Z s1) Z (Z2 (h:=?_));refine xp (yj L (q:=900) Z Z b2 Z s2) Z ((Zco∘Zax∘Zap∘Za∘Zat∘Zao) ?_);exact yv (x:=(j+1,zrv)) (j,swp zrv (j+1) j) ⟨by dsimp only;omega,by dsimp only;rw[wo];exact hE,hS⟩ M ⟨Z,Z,Z,Z,Z,Z,Z,trivial⟩
      ·rw[nc h2a] at hD2;refine(ZW∘ZaC∘Zaj∘Zas) ?_;exact wd D1 nq ⟨by omega,hD2.symm⟩ Z ⟨Z,Z,Z,Z,Z,Z,nm⟩
     ·rintro zrx ⟨hG,hGe⟩;rw[<-hGe] at hL;clear hD2 hGe;by_cases h2b:e-i>=2
      ·rw[na h2b] at hL;obtain⟨D3,hD3⟩:∃ D3,D3=shiftUp lt e (i+1) zrx:=⟨_,rfl⟩
       rw[<-hD3] at hL;refine(Zf∘Zbb∘ZaC∘ZbD∘Zr∘Zbu∘Zar∘Za0) ?_
       ·refine xq (fun t:Nat×Array Int=>[(0,.is (.slice (some ⟨b,0,none⟩) m cap)),(1,.is (.int .i64 a)),(2,.is (.int .i64 e)),(7,.is (.int .i64 i)),(8,.is (.int .i64 k)),(10,.is (.int .i64 t.1)),(900,.own (xn b (uC t.2++rest) tyU))]) (fun t=>i+1<=t.1/\t.1<=e/\t.2.size=m/\shiftUp lt e t.1 t.2=D3) (fun t=>e-t.1) (i+1,zrx) ⟨Nat.le_refl _,by dsimp only;omega,hG,hD3.symm⟩ ⟨Z,Z,Z,Z,Z,Z,Z,trivial⟩ ?_;rintro⟨j,zrv⟩ ⟨hj1,hj2,hE,hS⟩;dsimp only at hj1 hj2 hE hS |-;clear hD3;rw[shiftUp] at hS;by_cases hje:j<e
        ·rw[na hje] at hS;have hw8:IntKind.i64.wrap ((j:Int)-1)=((j-1:Nat):Int):=xd I I |>.trans I;have hw9:IntKind.i64.wrap ((j:Int)+1)=((j+1:Nat):Int):=xd I I;obtain⟨_,q1⟩:=gn (rest:=rest) (show j<zrv.size by omega) (0+(j)*1) rfl;obtain⟨_,q2⟩:=gn (rest:=rest) (show j-1<zrv.size by omega) (0+(j-1)*1) rfl
         cases hc:lt zrv[j]! zrv[j-1]! with
         | false=>
          rw[na (by rw[hc];rfl)] at hS;refine(Zd∘ZaK∘Zb∘Zbq∘ZaZ∘Zd) ?_;refine qp (id:=22) [(200109,[900]),(200114,[900])] kj J (ZX (h:=?_));refine qz (qk L (q:=900) Z Z Z q1) Z Z ((Zt∘ZbV) ?_);refine qz (qk L (q:=900) Z Z Z q2) Z Z (z91 L Z (fun u H hH _=>jv hc hH) ?_);refine(Zbl∘ZaN∘Zeq) ?_;refine ib Z ((Zef∘Zdx∘Zax∘ZB∘ZF∘Zao) ?_);exact yv (x:=((k,i0),D)) ((k+1,i),zrv) ⟨by dsimp only;omega,by dsimp only;omega,by dsimp only;omega,hE,by dsimp only;rw[hs',hS];exact hL⟩ M ⟨Z,Z,Z,Z,Z,Z,trivial⟩
         | true=>
          rw[nc (by rw[hc];simp)] at hS;obtain⟨_,qj⟩:=gn (rest:=rest) (show j-1<zrv.size by omega) (0+(j-1)*1) rfl;obtain⟨_,qi⟩:=gn (rest:=rest) (show j<zrv.size by omega) (0+(j)*1) rfl;have s1:=v9 (rest:=rest) zrv[j-1]! (show j<zrv.size by omega) (0+(j)*1) rfl;have b1:=ua (rest:=rest) (show j<zrv.size by omega) (0+(j)*1) rfl;have hz:j-1<(zrv.setIfInBounds (j) zrv[j-1]!).size:=by rw[zn8];omega
          have s2:=v9 (rest:=rest) zrv[j]! hz (0+(j-1)*1) rfl;have b2:=ua (rest:=rest) hz (0+(j-1)*1) rfl;rw[fg] at s2;refine(Zd∘ZaK∘Zb∘Zbq∘ZaZ∘Zd) ?_;refine qp (id:=22) [(200109,[900]),(200114,[900])] kj J (ZX (h:=?_));refine qz (qk L (q:=900) Z Z Z q1) Z Z ((Zt∘ZbV) ?_);refine qz (qk L (q:=900) Z Z Z q2) Z Z (z91 L Z (fun u H hH _=>jv hc hH) ?_);refine(Zbl∘Zbg∘ZcX) ?_;refine qp (id:=23) [(200126,[900]),(200130,[900]),(100131,[900]),(100132,[900])] kj J ((Zc4∘Zdr∘Zt∘ZbV) ?_);refine qz (qk L (q:=900) Z Z Z qj) Z Z (ZX (h:=?_));refine qz (qk L (q:=900) Z Z Z qi) Z Z (Z2 (h:=?_));refine xp (yj L (q:=900) Z Z b1 Z s1) Z (Z2 (h:=?_));refine xp (yj L (q:=900) Z Z b2 Z s2) Z ((Zco∘Zax∘Zb0∘Zar∘Zao) ?_);exact yv (x:=(j,zrv)) (j+1,swp zrv j (j-1)) ⟨by dsimp only;omega,by dsimp only;omega,by dsimp only;rw[wo];exact hE,hS⟩ M ⟨Z,Z,Z,Z,Z,Z,Z,trivial⟩
        ·rw[nc hje] at hS;refine(Zd∘ZaK∘Zb∘Z6∘Za5∘ZaG∘Zax∘ZB∘ZF∘Zao) ?_;exact yv (x:=((k,i0),D)) ((k+1,i),zrv) ⟨by dsimp only;omega,by dsimp only;omega,by dsimp only;omega,hE,by dsimp only;rw[hs',hS];exact hL⟩ M ⟨Z,Z,Z,Z,Z,Z,trivial⟩
      ·rw[nc h2b] at hL;refine(Zf∘Zbb∘ZaC∘Zaj∘Zcn∘ZB∘ZF∘Zao) ?_;exact yv (x:=((k,i0),D)) ((k+1,i),zrx) ⟨by dsimp only;omega,by dsimp only;omega,by dsimp only;omega,hG,by dsimp only;rw[hs'];exact hL⟩ M ⟨Z,Z,Z,Z,Z,Z,trivial⟩
 ·obtain rfl:k=5:=by omega
  have hL':(D,false)=X:=hL;rw[<-hL'];refine(Zd∘Zx∘Zb8∘Zc5∘Ze) ?_;exact ka L 900 (r:=xe b _ tyU) (rs:=[.tmp 6]) Z (fun _ _ h=>h) nq Z Z (fun _=>rfl)
def _root_.Zf0(t:Wr Y->A:=by intro h;refine ZdG (h:=?_);refine xp (yj L (q:=900) Z Z Z Z Z) Z ?_;exact h.1)(h:Y):A:=t ⟨h⟩
abbrev tyX:TypeId:=402
def Qy{x:Nat}(hx:x<18446744073709551616)(hB:zry B w)
  (hr:(xe b [.int .u64 x] tyX).P B w C) (hC:ZCB C w B):
  RetX zrz 307 [.pointer (some ⟨b,0,none⟩)] w B C (xe b [.int .u64 (xorNextN x:Nat)] tyX) (.int .u64 (xorNextN x:Nat)):=by
 obtain⟨X1,h1⟩:∃ X1:Nat,X1=x^^^(x*8192%18446744073709551616):=⟨_,rfl⟩
 obtain⟨X2,h2⟩:∃ X2:Nat,X2=X1^^^(X1/128):=⟨_,rfl⟩
 obtain⟨X3,h3⟩:∃ X3:Nat,X3=X2^^^(X2*131072%18446744073709551616):=⟨_,rfl⟩
 have l1:X1<18446744073709551616:=by rw[h1];exact Nat.xor_lt_two_pow (n:=64) I I
 have l2:X2<18446744073709551616:=by rw[h2];exact Nat.xor_lt_two_pow (n:=64) I I
 have l3:X3<18446744073709551616:=by rw[h3];exact Nat.xor_lt_two_pow (n:=64) I I
 have hv:xorNextN x=X3:=by unfold xorNextN;simp only[];rw[<-h1,<-h2,<-h3]
 have s1:IntKind.u64.wrap ((x:Int)*2^min (13:Int).toNat IntKind.u64.bits)=((x*8192%18446744073709551616:Nat):Int):=by
  rw[IntKind.wrap_u64,show((2:Int)^min (13:Int).toNat IntKind.u64.bits)=8192 from by decide];omega
 have s2:(X1:Int).fdiv (2^min (7:Int).toNat IntKind.u64.bits)=((X1/128:Nat):Int):=by
  rw[show((2:Int)^min (7:Int).toNat IntKind.u64.bits)=128 from by decide,zq0 _ I];omega
 have s3:IntKind.u64.wrap ((X2:Int)*2^min (17:Int).toNat IntKind.u64.bits)=((X2*131072%18446744073709551616:Nat):Int):=by
  rw[IntKind.wrap_u64,show((2:Int)^min (17:Int).toNat IntKind.u64.bits)=131072 from by decide];omega
 have x1:bits .xor .u64 (x:Int) ((x*8192%18446744073709551616:Nat):Int)=(X1:Int):=by rw[bits_xor_u64_nat _ _ hx I,h1]
 have x2:bits .xor .u64 (X1:Int) ((X1/128:Nat):Int)=(X2:Int):=by rw[bits_xor_u64_nat _ _ l1 I,h2]
 have x3:bits .xor .u64 (X2:Int) ((X2*131072%18446744073709551616:Nat):Int)=(X3:Int):=by rw[bits_xor_u64_nat _ _ l2 I,h3]
 rw[hv];clear hv h1 h2 h3;unfold RetX;refine xh 900 (xe b [.int .u64 x] tyX) Tryz.func307 Z Tryz.ntmps307 (np Z) hB hr hC ?_;rw[xf];refine(Zad∘Zc) ?_;refine qp (id:=1) [(200005,[900]),(200008,[900]),(100011,[900])] kj J ((Zm∘ZdG∘Zdq∘Zm∘ZdG∘Zdq) ?_);refine z9 (Qs Z Z Z Z T s1) Z (z9 (Xk Z Z Z Z x1) Z ((Zf0∘Zbh) ?_));refine qp (id:=2) [(200014,[900]),(200017,[900]),(100020,[900])] kj J ((Zm∘ZdG∘Zdq∘Zm∘ZdG∘Zdq) ?_);refine z9 (ze7 Z Z Z Z T s2) Z (z9 (Xk Z Z Z Z x2) Z ((Zf0∘Zbh) ?_));refine qp (id:=3) [(200023,[900]),(200026,[900]),(100029,[900])] kj J ((Zm∘ZdG∘Zdq∘Zm∘ZdG∘Zdq) ?_);refine z9 (Qs Z Z Z Z T s3) Z (z9 (Xk Z Z Z Z x3) Z ((Zf0∘Zbh∘ZB∘ZeO∘Zfs∘Ze) ?_));exact ka L 900 (r:=xe b _ tyX) (rs:=[.tmp 2]) Z (fun _ _ h=>h) nq Z Z (fun _=>rfl)
def _root_.ZbW(t:Wr Y->A:=by exact fun h=>(Zbw∘Zg) h.1)(h:Y):A:=t ⟨h⟩
def _root_.Zcq(t:Wr Y->A:=by exact fun h=>(ZcY∘ZdB) h.1)(h:Y):A:=t ⟨h⟩
def _root_.ZfB(t:Wr Y->A:=by intro h;refine qp (id:=10) [(200058,[900]),(200062,[900]),(100063,[900]),(100064,[900])] kj J ?_;refine Zt (h:=?_);exact h.1)(h:Y):A:=t ⟨h⟩
def Ef(hn:n<18446744073709551616)(hB:zry B w):Ret zrz 224 [.int .u64 n] w B (fun v _=>v=.int .i64 (bitsLen n)):=by
 refine yo Tryz.func224 Z Tryz.ntmps224 (np Z) hB ((Zad∘Zc∘ZeL∘ZaL∘Zq) ?_);refine z71 L Z (fun u H hH _=>Ret.of_same hH (Tryz.bits_Len64 (n:Int) u I I)) ?_;refine Ze (h:=?_);refine yl1 L [.tmp 2] fun u H hH hle=>?_;rw[znu,bitLen_eq n hn];rfl
def zc5(hn:n<=100000)(hB:zry B w):Ret zrz 306 [.int .i64 n] w B (fun v _=>v=.int .u64 (1<<<bitsLen n:Nat)):=by
 have hb:bitsLen n<=17:=(bitsLen_le_iff n 17).2 I;have hp2:(2:Nat)^bitsLen n<=2^17:=zpx I hb
 have hmin:min ((bitsLen n:Nat):Int).toNat IntKind.u64.bits=bitsLen n:=by
  rw[znu];have:IntKind.u64.bits=64:=T;omega
 have s1:IntKind.u64.wrap ((1:Int)*2^min ((bitsLen n:Nat):Int).toNat IntKind.u64.bits)=((1<<<bitsLen n:Nat):Int):=by
  rw[hmin,zqv,Nat.one_mul,Int.one_mul,Int.natCast_pow];have e2:((2:Nat):Int)^bitsLen n=((2^bitsLen n:Nat):Int):=(Int.natCast_pow 2 _).symm;rw[show((2:Int)^bitsLen n)=((2:Nat):Int)^bitsLen n from rfl,e2];have hp3:2^bitsLen n<=131072:=hp2;clear hp2 hmin e2;generalize 2^bitsLen n=zrw at *;exact wrap_u64 I I
 have hc:IntKind.u64.wrap (n:Int)=(n:Int):=wrap_u64 I I;refine yo Tryz.func306 Z Tryz.ntmps306 (np Z) hB ((Z4∘Za) ?_);refine z7 (xw Z Z Z ws.1 ws.2 (wrap_u64 I I)) Z (z71 L Z (fun u H hH _=>Ef I hH) ?_);refine z7 (Qs Z Z Z Z I s1) Z (Ze (h:=?_));exact yl2 L [.tmp 2]
def zh3{cap:Nat}(hab:a<=e)(he:e<=d.size)(hm:d.size=m)(hm1:m<=100000)(hB:zry B w)
  (hr:(xe b (uC d++rest) tyU).P B w C) (hC:ZCB C w B):
  ky zrz 271 [.slice (some ⟨b,0,none⟩) m cap,.int .i64 a,.int .i64 e] w B C (xe b (uC (breakPatterns d a e)++rest) tyU):=by
 unfold ky;refine xh 900 (xe b (uC d++rest) tyU) Tryz.func271 Z Tryz.ntmps271 (np Z) hB hr hC ?_;rw[xf];obtain⟨Ln,rfl⟩:∃ Ln,e=a+Ln:=⟨e-a,by omega⟩
 have hw0:IntKind.i64.wrap (((a+Ln:Nat):Int)-(a:Int))=(Ln:Int):=xd I I |>.trans I;by_cases h8:8<=Ln
 ·have hX:=breakPatterns_eq d a Ln h8;obtain⟨zrw,hM⟩:∃ zrw,zrw=1<<<bitsLen Ln:=⟨_,rfl⟩
  have hb17:bitsLen Ln<=17:=(bitsLen_le_iff Ln 17).2 I
  have hMp:1<=zrw/\zrw<=131072:=by
   rw[hM,zqv,Nat.one_mul];exact⟨Nat.one_le_two_pow,zpx I hb17⟩
  have hM2:zrw<=2*Ln:=by
   rw[hM,zqv,Nat.one_mul];exact two_pow_bitsLen_le I
  obtain⟨I0,hI0⟩:∃ I0,I0=a+Ln/4*2-1:=⟨_,rfl⟩
  rw[<-hM,<-hI0] at hX;have hc1:IntKind.u64.wrap (Ln:Int)=(Ln:Int):=wrap_u64 I I
  have et:((Ln:Nat):Int).tdiv 4=((Ln/4:Nat):Int):=by
   rw[zqh I];omega
  have hq:IntKind.i64.wrap (((Ln:Nat):Int).tdiv 4)=((Ln/4:Nat):Int):=by rw[et];exact xd I I
  have hw1:IntKind.i64.wrap (((Ln/4:Nat):Int)*2)=((Ln/4*2:Nat):Int):=xd I I |>.trans I;have hw2:IntKind.i64.wrap ((a:Int)+((Ln/4*2:Nat):Int))=((a+Ln/4*2:Nat):Int):=xd I I |>.trans I;have hw3:IntKind.i64.wrap (((a+Ln/4*2:Nat):Int)-1)=(I0:Int):=xd I I |>.trans I;have hw4:IntKind.i64.wrap (((a+Ln/4*2:Nat):Int)+1)=((I0+2:Nat):Int):=xd I I |>.trans I;have hM1:IntKind.u64.wrap ((zrw:Int)-1)=((zrw-1:Nat):Int):=wrap_u64 I I |>.trans I
  have hln:(UInt64.ofNat Ln).toNat=Ln:=by
   rw[UInt64.toNat_ofNat'];exact zq8 I
  refine(Zad∘ZaC∘Zbk∘ZbD∘Zr∘Zq) ?_;refine z7 (xw Z Z Z zap.1 zap.2 (wrap_u64 I I)) Z (ZbW (h:=?_));refine ku 7 901 rfl fun br=>?_;refine Zx (h:=?_);refine z71 L Z (fun u H hH _=>hM ▸ zc5 (n:=Ln) I hH) ?_;refine(Zc∘Zs∘Zb∘Zcq∘Zat∘Za0) ?_;refine xq (fun s:Nat×(UInt64×Array Int)=>[(0,.is (.slice (some ⟨b,0,none⟩) m cap)),(1,.is (.int .i64 a)),(6,.is (.int .i64 Ln)),(7,.is (.pointer (some ⟨br,0,none⟩))),(8,.is (.int .u64 zrw)),(9,.is (.int .i64 (I0+s.1:Nat))),(900,.own (xn b (uC s.2.2++rest) tyU)),(901,.own (xn br [.int .u64 s.2.1.toNat] tyX))]) (fun s=>s.1<=3/\s.2.2.size=m/\bpRest a Ln zrw I0 (3-s.1) s.1 s.2=breakPatterns d a (a+Ln)) (fun s=>3-s.1) (0,(UInt64.ofNat Ln,d)) ⟨by dsimp only;omega,hm,hX.symm⟩ ⟨Z,Z,Z,Z,Z,Z,Z,by dsimp only;rw[hln];rfl,trivial⟩ ?_;rintro⟨t,⟨r,D⟩⟩ ⟨ht3,hD,hst⟩;dsimp only at ht3 hD hst |-;have hrl:r.toNat<18446744073709551616:=UInt64.toNat_lt r;by_cases ht:t<3
  ·obtain⟨o1,ho1⟩:∃ o1,o1=xorNextN r.toNat &&& (zrw-1):=⟨_,rfl⟩
   have ho1l:o1<=zrw-1:=by rw[ho1];exact Nat.and_le_right
   have hand:bits .and .u64 ((xorNextN r.toNat:Nat):Int) ((zrw-1:Nat):Int)=(o1:Int):=by rw[bits_and_u64_nat _ _ (xorNextN_lt _ hrl) I,ho1]
   have hcv:IntKind.i64.wrap (o1:Int)=(o1:Int):=xd I I;have hwt:IntKind.i64.wrap (((I0+t:Nat):Int)+1)=((I0+(t+1):Nat):Int):=xd I I |>.trans I;by_cases hoL:Ln<=o1
   ·have hw5:IntKind.i64.wrap ((o1:Int)-(Ln:Int))=((o1-Ln:Nat):Int):=xd I I |>.trans I;have hw6:IntKind.i64.wrap ((a:Int)+((o1-Ln:Nat):Int))=((a+(o1-Ln):Nat):Int):=xd I I;have ho:(if (xorNext r).toNat &&& (zrw-1)>=Ln then ((xorNext r).toNat &&& (zrw-1))-Ln else (xorNext r).toNat &&& (zrw-1))=o1-Ln:=by rw[xorNext_toNat,<-ho1,na hoL]
    obtain⟨_,qj⟩:=gn (rest:=rest) (show a+(o1-Ln)<D.size by omega) (0+(a+(o1-Ln))*1) rfl;obtain⟨_,qi⟩:=gn (rest:=rest) (show I0+t<D.size by omega) (0+(I0+t)*1) rfl;have s1:=v9 (rest:=rest) D[a+(o1-Ln)]! (show I0+t<D.size by omega) (0+(I0+t)*1) rfl;have b1:=ua (rest:=rest) (show I0+t<D.size by omega) (0+(I0+t)*1) rfl;have hz:a+(o1-Ln)<(D.setIfInBounds (I0+t) D[a+(o1-Ln)]!).size:=by rw[zn8];omega
    have s2:=v9 (rest:=rest) D[I0+t]! hz (0+(a+(o1-Ln))*1) rfl;have b2:=ua (rest:=rest) hz (0+(a+(o1-Ln))*1) rfl;rw[fg] at s2;refine(Zd∘ZT∘Zu∘Zcq∘ZF∘ZcL∘Z3∘ZaX∘ZU) ?_;refine qh (yi L 901 (xe br [.int .u64 (xorNextN r.toNat:Nat)] tyX) (.int .u64 (xorNextN r.toNat:Nat)) (r:=xe br [.int .u64 r.toNat] tyX) Z Z Z Z Z (fun u H C hH _ hr hC=>Qy hrl hH hr hC)) ((Za∘Zat) ?_);refine z7 (X4 Z Z Z Z hand) Z (z7 (xw Z Z Z wt.1 wt.2 (xd I I)) Z ((Zj∘Z7∘Zb∘ZbE∘ZE∘ZaC∘Ze∘ZfB∘ZcJ∘Zck) ?_));refine qz (qk L (q:=900) Z Z Z qj) Z Z (ZX (h:=?_));refine qz (qk L (q:=900) Z Z Z qi) Z Z (Z2 (h:=?_));refine xp (yj L (q:=900) Z Z b1 Z s1) Z (Z2 (h:=?_));refine xp (yj L (q:=900) Z Z b2 Z s2) Z ((Zco∘Zax∘ZL∘ZF∘Zao) ?_);exact yv (x:=(t,(r,D))) (t+1,(xorNext r,swp D (I0+t) (a+(o1-Ln)))) ⟨by dsimp only;omega,by dsimp only;rw[wo];exact hD,by dsimp only;rw[<-hst,bp_step a Ln zrw I0 t r D ((o1-Ln)) ht ho]⟩ M ⟨Z,Z,Z,Z,Z,Z,Z,by dsimp only;rw[xorNext_toNat];rfl,trivial⟩
   ·have hw6:IntKind.i64.wrap ((a:Int)+(o1:Int))=((a+o1:Nat):Int):=xd I I;have ho:(if (xorNext r).toNat &&& (zrw-1)>=Ln then ((xorNext r).toNat &&& (zrw-1))-Ln else (xorNext r).toNat &&& (zrw-1))=o1:=by rw[xorNext_toNat,<-ho1,nc I]
    obtain⟨_,qj⟩:=gn (rest:=rest) (show a+o1<D.size by omega) (0+(a+o1)*1) rfl;obtain⟨_,qi⟩:=gn (rest:=rest) (show I0+t<D.size by omega) (0+(I0+t)*1) rfl;have s1:=v9 (rest:=rest) D[a+o1]! (show I0+t<D.size by omega) (0+(I0+t)*1) rfl;have b1:=ua (rest:=rest) (show I0+t<D.size by omega) (0+(I0+t)*1) rfl;have hz:a+o1<(D.setIfInBounds (I0+t) D[a+o1]!).size:=by rw[zn8];omega
    have s2:=v9 (rest:=rest) D[I0+t]! hz (0+(a+o1)*1) rfl;have b2:=ua (rest:=rest) hz (0+(a+o1)*1) rfl;rw[fg] at s2;refine(Zd∘ZT∘Zu∘Zcq∘ZF∘ZcL∘Z3∘ZaX∘ZU) ?_;refine qh (yi L 901 (xe br [.int .u64 (xorNextN r.toNat:Nat)] tyX) (.int .u64 (xorNextN r.toNat:Nat)) (r:=xe br [.int .u64 r.toNat] tyX) Z Z Z Z Z (fun u H C hH _ hr hC=>Qy hrl hH hr hC)) ((Za∘Zat) ?_);refine z7 (X4 Z Z Z Z hand) Z (z7 (xw Z Z Z wt.1 wt.2 (xd I I)) Z ((Zj∘Z7∘Zb∘Zaj∘Zas∘ZbA∘ZfB∘ZcJ∘Zck) ?_));refine qz (qk L (q:=900) Z Z Z qj) Z Z (ZX (h:=?_));refine qz (qk L (q:=900) Z Z Z qi) Z Z (Z2 (h:=?_));refine xp (yj L (q:=900) Z Z b1 Z s1) Z (Z2 (h:=?_));refine xp (yj L (q:=900) Z Z b2 Z s2) Z ((Zco∘Zax∘ZL∘ZF∘Zao) ?_);exact yv (x:=(t,(r,D))) (t+1,(xorNext r,swp D (I0+t) (a+o1))) ⟨by dsimp only;omega,by dsimp only;rw[wo];exact hD,by dsimp only;rw[<-hst,bp_step a Ln zrw I0 t r D (o1) ht ho]⟩ M ⟨Z,Z,Z,Z,Z,Z,Z,by dsimp only;rw[xorNext_toNat];rfl,trivial⟩
  ·obtain rfl:t=3:=by omega
   have hst':D=breakPatterns d a (a+Ln):=hst;rw[hst'];refine(Zd∘ZT∘Zu∘Zcq∘ZF∘ZcG∘Za5∘ZaG) ?_;exact xz L 900 (r:=xe b _ tyU) Z (fun _ _ h=>h) nq Z Z
 ·have:breakPatterns d a (a+Ln)=d:=by unfold breakPatterns;simp only[Nat.add_sub_cancel_left];rw[if_neg I]
  rw[this];refine(Zad∘ZaC∘Zbk∘Zaj∘Zas) ?_;exact xz L 900 (r:=xe b _ tyU) Z (fun _ _ h=>h) nq Z Z
def _root_.Zfa(t:Wr Y->A:=by intro h;refine z9 (Xr L (qw Z E) Z Z Z E) Z ?_;exact h.1)(h:Y):A:=t ⟨h⟩
abbrev tyI:TypeId:=3
def zin(h:j<d.size):(uC d++rest)[0+j*1]?=some (.int .u64 d[j]!):=by
 rw[znk,zoe,zor (by rw[Cl];exact h)];exact zew h
def G2{cap bs:Nat}(ha:a<m)(he:e<m)(hm:d.size=m)(hm1:m<=100000)(hk:k<=1000)(hB:zry B w)(hb:B b=some (.cells (uC d++rest).toArray tyU))
  (hr:(xe bs [.int .i64 k] tyI).P B w C) (hC:ZCB C w B):
  RetX zrz 317 [.slice (some ⟨b,0,none⟩) m cap,.int .i64 a,.int .i64 e,.pointer (some ⟨bs,0,none⟩)] w B C (xe bs [.int .i64 (order2 lt d a e k).2.2] tyI) (.tuple #[.int .i64 (order2 lt d a e k).1,.int .i64 (order2 lt d a e k).2.1]):=by
 unfold RetX;refine xh 900 (xe bs [.int .i64 k] tyI) Tryz.func317 Z Tryz.ntmps317 (np Z) hB hr hC ?_;rw[xf];have g1:=zin (rest:=rest) (show a<d.size by omega);have g2:=zin (rest:=rest) (show e<d.size by omega);have hw:IntKind.i64.wrap ((k:Int)+1)=((k+1:Nat):Int):=xd I I;unfold order2
 cases hc:lt d[e]! d[a]! with
 | true=>
  refine(Zad∘Zb1∘Zc7∘ZX∘Zfa∘ZX∘Zfa) ?_;refine z91 L Z (fun u H hH _=>jv hc hH) ?_;refine(ZaN∘Zf∘Zq∘ZeO∘Zfs∘ZF∘ZeO) ?_;refine xg (yj L (q:=900) Z Z Z Z Z) ((Zg∘ZcF∘ZA) ?_);exact ka L 900 (r:=xe bs _ tyI) (rs:=[.tmp 8,.tmp 9]) Z (fun _ _ h=>h) nq Z Z (fun _=>rfl)
 | false=>
  refine(Zad∘Zb1∘Zc7∘ZX∘Zfa∘ZX∘Zfa) ?_;refine z91 L Z (fun u H hH _=>jv hc hH) ?_;refine(Zbg∘ZaL∘Zs∘Zb∘ZA) ?_;exact ka L 900 (r:=xe bs _ tyI) (rs:=[.tmp 8,.tmp 9]) Z (fun _ _ h=>h) nq Z Z (fun _=>rfl)
def Df(d:Array Int)(ha:a<m)(he:e<m):(order2 lt d a e k).1<m/\(order2 lt d a e k).2.1<m/\(order2 lt d a e k).2.2<=k+1:=by
 unfold order2;split
 ·exact⟨he,ha,nu _⟩
 ·exact⟨ha,he,zox _⟩
def om{cap x y z bs:Nat}(hx:x<m)(hy:y<m)(hz:z<m)(hm:d.size=m)(hm1:m<=100000)(hk:k<=900)(hB:zry B w)(hb:B b=some (.cells (uC d++rest).toArray tyU))
  (hr:(xe bs [.int .i64 k] tyI).P B w C) (hC:ZCB C w B):
  RetX zrz 309 [.slice (some ⟨b,0,none⟩) m cap,.int .i64 x,.int .i64 y,.int .i64 z,.pointer (some ⟨bs,0,none⟩)] w B C (xe bs [.int .i64 (median lt d x y z k).2] tyI) (.int .i64 (median lt d x y z k).1):=by
 unfold RetX;refine xh 900 (xe bs [.int .i64 k] tyI) Tryz.func309 Z Tryz.ntmps309 (np Z) hB hr hC ?_;rw[xf];unfold median;dsimp only;obtain⟨r1,hr1⟩:∃ r,r=order2 lt d x y k:=⟨_,rfl⟩
 rw[<-hr1];obtain⟨r2,hr2⟩:∃ r,r=order2 lt d r1.2.1 z r1.2.2:=⟨_,rfl⟩
 rw[<-hr2];obtain⟨r3,hr3⟩:∃ r,r=order2 lt d r1.1 r2.1 r2.2.2:=⟨_,rfl⟩
 rw[<-hr3];obtain⟨a1,a2,a3⟩:=hr1 ▸ Df d (k:=k) hx hy;obtain⟨b1,b2,b3⟩:=hr2 ▸ Df d (k:=r1.2.2) a2 hz;refine(Z4∘Zb4) ?_;refine qh (yi L 900 (xe bs [.int .i64 r1.2.2] tyI) (.tuple #[.int .i64 r1.1,.int .i64 r1.2.1]) (r:=xe bs [.int .i64 k] tyI) Z Z Z Z Z (fun u H C hH hle hr hC=>by have h:=G2 (rest:=rest) (cap:=cap) hx hy hm hm1 (k:=k) I hH (hle _ _ hb) hr hC;rw[<-hr1] at h;exact h)) ?_;refine(ZbH∘ZaY∘Zb) ?_;refine qh (yi L 900 (xe bs [.int .i64 r2.2.2] tyI) (.tuple #[.int .i64 r2.1,.int .i64 r2.2.1]) (r:=xe bs [.int .i64 r1.2.2] tyI) Z Z Z Z Z (fun u H C hH hle hr hC=>by have h:=G2 (rest:=rest) (cap:=cap) a2 hz hm hm1 (k:=r1.2.2) I hH (hle _ _ hb) hr hC;rw[<-hr2] at h;exact h)) ?_;refine(ZbH∘ZcF∘Zb) ?_;refine qh (yi L 900 (xe bs [.int .i64 r3.2.2] tyI) (.tuple #[.int .i64 r3.1,.int .i64 r3.2.1]) (r:=xe bs [.int .i64 r2.2.2] tyI) Z Z Z Z Z (fun u H C hH hle hr hC=>by have h:=G2 (rest:=rest) (cap:=cap) a1 b1 hm hm1 (k:=r2.2.2) I hH (hle _ _ hb) hr hC;rw[<-hr3] at h;exact h)) ?_;refine(ZbH∘ZB∘Ze) ?_;exact ka L 900 (r:=xe bs _ tyI) (rs:=[.tmp 10]) Z (fun _ _ h=>h) nq Z Z (fun _=>rfl)
def Yo(d:Array Int){x y z:Nat}(hx:x<m)(hy:y<m)(hz:z<m):(median lt d x y z k).1<m/\(median lt d x y z k).2<=k+3:=by
 unfold median;dsimp only;obtain⟨a1,a2,a3⟩:=Df d (k:=k) hx hy;obtain⟨b1,b2,b3⟩:=Df d (k:=(order2 lt d x y k).2.2) a2 hz;obtain⟨c1,c2,c3⟩:=Df d (k:=(order2 lt d (order2 lt d x y k).2.1 z (order2 lt d x y k).2.2).2.2) a1 b1;exact⟨c2,by omega⟩
def lu{cap x bs:Nat}(h1:1<=x)(hx:x+1<m)(hm:d.size=m)(hm1:m<=100000)(hk:k<=900)(hB:zry B w)(hb:B b=some (.cells (uC d++rest).toArray tyU))
  (hr:(xe bs [.int .i64 k] tyI).P B w C) (hC:ZCB C w B):
  RetX zrz 308 [.slice (some ⟨b,0,none⟩) m cap,.int .i64 x,.pointer (some ⟨bs,0,none⟩)] w B C (xe bs [.int .i64 (medianAdjacent lt d x k).2] tyI) (.int .i64 (medianAdjacent lt d x k).1):=by
 unfold RetX;refine xh 900 (xe bs [.int .i64 k] tyI) Tryz.func308 Z Tryz.ntmps308 (np Z) hB hr hC ?_;rw[xf];unfold medianAdjacent;have hw1:IntKind.i64.wrap ((x:Int)-1)=((x-1:Nat):Int):=xd I I |>.trans I;have hw2:IntKind.i64.wrap ((x:Int)+1)=((x+1:Nat):Int):=xd I I;refine(Z4∘ZaC∘Zb∘ZF∘Za) ?_;refine qh (yi L 900 (xe bs [.int .i64 (median lt d (x-1) x (x+1) k).2] tyI) (.int .i64 (median lt d (x-1) x (x+1) k).1) (r:=xe bs [.int .i64 k] tyI) Z Z Z Z Z (fun u H C hH hle hr hC=>om (rest:=rest) (cap:=cap) I I I hm hm1 hk hH (hle _ _ hb) hr hC)) (Ze (h:=?_));exact ka L 900 (r:=xe bs _ tyI) (rs:=[.tmp 6]) Z (fun _ _ h=>h) nq Z Z (fun _=>rfl)
def _root_.ZdU(t:Wr Y->A:=by intro h;refine y9 (qk L (q:=901) Z Z Z Z) ?_;exact h.1)(h:Y):A:=t ⟨h⟩
def Hx:Hint->Int
 | .unknown=>0
 | .increasing=>1
 | .decreasing=>2
def zgq{cap:Nat}(h12:12<e-a)(he:e<=m)(hm:d.size=m)(hm1:m<=100000)(hB:zry B w)(hb:B b=some (.cells (uC d++rest).toArray tyU)):
  Ret zrz 272 [.slice (some ⟨b,0,none⟩) m cap,.int .i64 a,.int .i64 e] w B (fun v _=>v=.tuple #[.int .i64 (choosePivot lt d a e).1,.int .i64 (Hx (choosePivot lt d a e).2)]):=by
 obtain⟨Ln,rfl⟩:∃ Ln,e=a+Ln:=⟨e-a,by omega⟩
 rw[zrk] at h12;unfold choosePivot;rw[zrk];dsimp only;obtain⟨q,hq⟩:∃ q,q=Ln/4:=⟨_,rfl⟩
 rw[<-hq,na I];have hw0:IntKind.i64.wrap (((a+Ln:Nat):Int)-(a:Int))=(Ln:Int):=xd I I |>.trans I
 have et:((Ln:Nat):Int).tdiv 4=(q:Int):=by
  rw[zqh I];omega
 have hq1:IntKind.i64.wrap (((Ln:Nat):Int).tdiv 4)=(q:Int):=by rw[et];exact xd I I
 have m1:IntKind.i64.wrap ((q:Int)*1)=((q*1:Nat):Int):=xd I I |>.trans I;have m2:IntKind.i64.wrap ((q:Int)*2)=((q*2:Nat):Int):=xd I I |>.trans I;have m3:IntKind.i64.wrap ((q:Int)*3)=((q*3:Nat):Int):=xd I I |>.trans I;have p1:IntKind.i64.wrap ((a:Int)+((q*1:Nat):Int))=((a+q*1:Nat):Int):=xd I I |>.trans I;have p2:IntKind.i64.wrap ((a:Int)+((q*2:Nat):Int))=((a+q*2:Nat):Int):=xd I I |>.trans I;have p3:IntKind.i64.wrap ((a:Int)+((q*3:Nat):Int))=((a+q*3:Nat):Int):=xd I I |>.trans I;refine yo Tryz.func272 Z Tryz.ntmps272 (np Z) hB ((Zbj∘ZaH∘ZaC∘Zc∘ZS∘ZC∘Zg) ?_);refine ku 9 901 rfl fun bs=>?_;by_cases h50:Ln>=50
 ·rw[na h50];obtain⟨r1,hr1⟩:∃ r,r=medianAdjacent lt d (a+q*1) 0:=⟨_,rfl⟩
  rw[<-hr1];obtain⟨r2,hr2⟩:∃ r,r=medianAdjacent lt d (a+q*2) r1.2:=⟨_,rfl⟩
  rw[<-hr2];obtain⟨r3,hr3⟩:∃ r,r=medianAdjacent lt d (a+q*3) r2.2:=⟨_,rfl⟩
  rw[<-hr3];obtain⟨r4,hr4⟩:∃ r,r=median lt d r1.1 r2.1 r3.1 r3.2:=⟨_,rfl⟩
  rw[<-hr4];obtain⟨l1,s1⟩:r1.1<m/\r1.2<=0+3:=hr1 ▸ Yo d I I I;obtain⟨l2,s2⟩:r2.1<m/\r2.2<=r1.2+3:=hr2 ▸ Yo d I I I;obtain⟨l3,s3⟩:r3.1<m/\r3.2<=r2.2+3:=hr3 ▸ Yo d I I I;by_cases z0:r4.2=0
  ·rw[na z0];refine(ZcF∘Zcq∘Zc∘Zs∘Zb∘Zcq∘Zc∘ZbZ∘Zcq∘Zj∘ZL∘ZbE∘Zd∘Z5∘ZbD∘Zr∘Z7∘Zb) ?_;refine qh (yi L 901 (xe bs [.int .i64 r1.2] tyI) (.int .i64 r1.1) (r:=xe bs [.int .i64 0] tyI) Z Z Z Z Z (fun u H C hH hle hr hC=>by have h:=lu (rest:=rest) (cap:=cap) (d:=d) (x:=a+q*1) (k:=0) I I hm hm1 I hH (hle _ _ hb) hr hC;rw[<-hr1] at h;exact h)) ?_;refine(Zc∘ZE∘Zb) ?_;refine qh (yi L 901 (xe bs [.int .i64 r2.2] tyI) (.int .i64 r2.1) (r:=xe bs [.int .i64 r1.2] tyI) Z Z Z Z Z (fun u H C hH hle hr hC=>by have h:=lu (rest:=rest) (cap:=cap) (d:=d) (x:=a+q*2) (k:=r1.2) I I hm hm1 I hH (hle _ _ hb) hr hC;rw[<-hr2] at h;exact h)) ?_;refine(Ze∘Zci) ?_;refine qh (yi L 901 (xe bs [.int .i64 r3.2] tyI) (.int .i64 r3.1) (r:=xe bs [.int .i64 r2.2] tyI) Z Z Z Z Z (fun u H C hH hle hr hC=>by have h:=lu (rest:=rest) (cap:=cap) (d:=d) (x:=a+q*3) (k:=r2.2) I I hm hm1 I hH (hle _ _ hb) hr hC;rw[<-hr3] at h;exact h)) ?_;refine(Ze∘ZG∘Zb4) ?_;refine qh (yi L 901 (xe bs [.int .i64 r4.2] tyI) (.int .i64 r4.1) (r:=xe bs [.int .i64 r3.2] tyI) Z Z Z Z Z (fun u H C hH hle hr hC=>by have h:=om (rest:=rest) (cap:=cap) (d:=d) (x:=r1.1) (y:=r2.1) (z:=r3.1) (k:=r3.2) I I I hm hm1 I hH (hle _ _ hb) hr hC;rw[<-hr4] at h;exact h)) ?_;refine(Zc∘ZW∘ZdU∘Zp∘Zae∘Za2∘Zv∘Zh∘Zr∘Zap∘Za∘ZA) ?_;exact yl2 L [.tmp 6,.tmp 7]
  ·rw[nc z0];by_cases z12:r4.2=12
   ·rw[na z12];refine(ZcF∘Zcq∘Zc∘Zs∘Zb∘Zcq∘Zc∘ZbZ∘Zcq∘Zj∘ZL∘ZbE∘Zd∘Z5∘ZbD∘Zr∘Z7∘Zb) ?_;refine qh (yi L 901 (xe bs [.int .i64 r1.2] tyI) (.int .i64 r1.1) (r:=xe bs [.int .i64 0] tyI) Z Z Z Z Z (fun u H C hH hle hr hC=>by have h:=lu (rest:=rest) (cap:=cap) (d:=d) (x:=a+q*1) (k:=0) I I hm hm1 I hH (hle _ _ hb) hr hC;rw[<-hr1] at h;exact h)) ?_;refine(Zc∘ZE∘Zb) ?_;refine qh (yi L 901 (xe bs [.int .i64 r2.2] tyI) (.int .i64 r2.1) (r:=xe bs [.int .i64 r1.2] tyI) Z Z Z Z Z (fun u H C hH hle hr hC=>by have h:=lu (rest:=rest) (cap:=cap) (d:=d) (x:=a+q*2) (k:=r1.2) I I hm hm1 I hH (hle _ _ hb) hr hC;rw[<-hr2] at h;exact h)) ?_;refine(Ze∘Zci) ?_;refine qh (yi L 901 (xe bs [.int .i64 r3.2] tyI) (.int .i64 r3.1) (r:=xe bs [.int .i64 r2.2] tyI) Z Z Z Z Z (fun u H C hH hle hr hC=>by have h:=lu (rest:=rest) (cap:=cap) (d:=d) (x:=a+q*3) (k:=r2.2) I I hm hm1 I hH (hle _ _ hb) hr hC;rw[<-hr3] at h;exact h)) ?_;refine(Ze∘ZG∘Zb4) ?_;refine qh (yi L 901 (xe bs [.int .i64 r4.2] tyI) (.int .i64 r4.1) (r:=xe bs [.int .i64 r3.2] tyI) Z Z Z Z Z (fun u H C hH hle hr hC=>by have h:=om (rest:=rest) (cap:=cap) (d:=d) (x:=r1.1) (y:=r2.1) (z:=r3.1) (k:=r3.2) I I I hm hm1 I hH (hle _ _ hb) hr hC;rw[<-hr4] at h;exact h)) ?_;refine(Zc∘ZW∘ZdU∘Zp∘Zae∘Za2∘Zn∘Zbx∘Zaf∘Zv∘Zh∘Zr∘ZaW∘Za∘ZA) ?_;exact yl2 L [.tmp 6,.tmp 7]
   ·rw[nc z12];refine(ZcF∘Zcq∘Zc∘Zs∘Zb∘Zcq∘Zc∘ZbZ∘Zcq∘Zj∘ZL∘ZbE∘Zd∘Z5∘ZbD∘Zr∘Z7∘Zb) ?_;refine qh (yi L 901 (xe bs [.int .i64 r1.2] tyI) (.int .i64 r1.1) (r:=xe bs [.int .i64 0] tyI) Z Z Z Z Z (fun u H C hH hle hr hC=>by have h:=lu (rest:=rest) (cap:=cap) (d:=d) (x:=a+q*1) (k:=0) I I hm hm1 I hH (hle _ _ hb) hr hC;rw[<-hr1] at h;exact h)) ?_;refine(Zc∘ZE∘Zb) ?_;refine qh (yi L 901 (xe bs [.int .i64 r2.2] tyI) (.int .i64 r2.1) (r:=xe bs [.int .i64 r1.2] tyI) Z Z Z Z Z (fun u H C hH hle hr hC=>by have h:=lu (rest:=rest) (cap:=cap) (d:=d) (x:=a+q*2) (k:=r1.2) I I hm hm1 I hH (hle _ _ hb) hr hC;rw[<-hr2] at h;exact h)) ?_;refine(Ze∘Zci) ?_;refine qh (yi L 901 (xe bs [.int .i64 r3.2] tyI) (.int .i64 r3.1) (r:=xe bs [.int .i64 r2.2] tyI) Z Z Z Z Z (fun u H C hH hle hr hC=>by have h:=lu (rest:=rest) (cap:=cap) (d:=d) (x:=a+q*3) (k:=r2.2) I I hm hm1 I hH (hle _ _ hb) hr hC;rw[<-hr3] at h;exact h)) ?_;refine(Ze∘ZG∘Zb4) ?_;refine qh (yi L 901 (xe bs [.int .i64 r4.2] tyI) (.int .i64 r4.1) (r:=xe bs [.int .i64 r3.2] tyI) Z Z Z Z Z (fun u H C hH hle hr hC=>by have h:=om (rest:=rest) (cap:=cap) (d:=d) (x:=r1.1) (y:=r2.1) (z:=r3.1) (k:=r3.2) I I I hm hm1 I hH (hle _ _ hb) hr hC;rw[<-hr4] at h;exact h)) ?_;refine(Zc∘ZW∘ZdU∘Zp∘Zae∘Za2∘Zn∘Zbx∘Zaf∘Zn∘Zbx∘ZO∘Za∘ZA) ?_;exact yl2 L [.tmp 6,.tmp 7]
 ·rw[nc h50];obtain⟨r4,hr4⟩:∃ r,r=median lt d (a+q*1) (a+q*2) (a+q*3) 0:=⟨_,rfl⟩
  rw[<-hr4];by_cases z0:r4.2=0
  ·rw[na z0];refine(ZcF∘Zcq∘Zc∘Zs∘Zb∘Zcq∘Zc∘ZbZ∘Zcq∘Zj∘ZL∘ZbE∘Zd∘Z5∘Zaj∘Zas∘ZbA∘ZG∘Zb4) ?_;refine qh (yi L 901 (xe bs [.int .i64 r4.2] tyI) (.int .i64 r4.1) (r:=xe bs [.int .i64 0] tyI) Z Z Z Z Z (fun u H C hH hle hr hC=>by have h:=om (rest:=rest) (cap:=cap) (d:=d) (x:=a+q*1) (y:=a+q*2) (z:=a+q*3) (k:=0) I I I hm hm1 I hH (hle _ _ hb) hr hC;rw[<-hr4] at h;exact h)) ?_;refine(Zc∘ZW∘ZdU∘Zp∘Zae∘Za2∘Zv∘Zh∘Zr∘Zap∘Za∘ZA) ?_;exact yl2 L [.tmp 6,.tmp 7]
  ·rw[nc z0];by_cases z12:r4.2=12
   ·rw[na z12];refine(ZcF∘Zcq∘Zc∘Zs∘Zb∘Zcq∘Zc∘ZbZ∘Zcq∘Zj∘ZL∘ZbE∘Zd∘Z5∘Zaj∘Zas∘ZbA∘ZG∘Zb4) ?_;refine qh (yi L 901 (xe bs [.int .i64 r4.2] tyI) (.int .i64 r4.1) (r:=xe bs [.int .i64 0] tyI) Z Z Z Z Z (fun u H C hH hle hr hC=>by have h:=om (rest:=rest) (cap:=cap) (d:=d) (x:=a+q*1) (y:=a+q*2) (z:=a+q*3) (k:=0) I I I hm hm1 I hH (hle _ _ hb) hr hC;rw[<-hr4] at h;exact h)) ?_;refine(Zc∘ZW∘ZdU∘Zp∘Zae∘Za2∘Zn∘Zbx∘Zaf∘Zv∘Zh∘Zr∘ZaW∘Za∘ZA) ?_;exact yl2 L [.tmp 6,.tmp 7]
   ·rw[nc z12];refine(ZcF∘Zcq∘Zc∘Zs∘Zb∘Zcq∘Zc∘ZbZ∘Zcq∘Zj∘ZL∘ZbE∘Zd∘Z5∘Zaj∘Zas∘ZbA∘ZG∘Zb4) ?_;refine qh (yi L 901 (xe bs [.int .i64 r4.2] tyI) (.int .i64 r4.1) (r:=xe bs [.int .i64 0] tyI) Z Z Z Z Z (fun u H C hH hle hr hC=>by have h:=om (rest:=rest) (cap:=cap) (d:=d) (x:=a+q*1) (y:=a+q*2) (z:=a+q*3) (k:=0) I I I hm hm1 I hH (hle _ _ hb) hr hC;rw[<-hr4] at h;exact h)) ?_;refine(Zc∘ZW∘ZdU∘Zp∘Zae∘Za2∘Zn∘Zbx∘Zaf∘Zn∘Zbx∘ZO∘Za∘ZA) ?_;exact yl2 L [.tmp 6,.tmp 7]
def _root_.ZdC(t:Wr Y->A:=by intro h;refine qp (id:=17) [(200080,[900]),(200084,[900])] kj J ?_;exact h.1)(h:Y):A:=t ⟨h⟩
def _root_.ZcC(t:Wr Y->A:=by intro h;refine zh (id:=23) ?_;exact h.1)(h:Y):A:=t ⟨h⟩
def _root_.ZdV(t:Wr Y->A:=by intro h;refine zh (id:=25) ?_;exact h.1)(h:Y):A:=t ⟨h⟩
def zae{h:Hint}:Hx h=2↔h=.decreasing:=by cases h<;>simp [Hx]
def zhe:∀ v H u C,(xn b cs ty).P v H u C->joinH H u C b=some (.cells cs.toArray ty):=fun _ _ _ _ ⟨hb,hC⟩=>(iq ((hC b).2 rfl)).trans hb
def zgu:∀ (N:Nat) {d:Array Int} {rest:List Value} {b m cap a e lim:Nat} (_:e-a<N) (_:a<=e) (_:e<=m) (_:d.size=m) (_:m<=100000) (_:lim<=1000) (_:Below lt a e d) {w:World} {B:Heap} {C:Nat->Prop} (_:zry B w)
  (_:(xe b (uC d++rest) tyU).P B w C) (_:ZCB C w B),
  ky zrz 223 [.slice (some ⟨b,0,none⟩) m cap,.int .i64 a,.int .i64 e,.int .i64 lim] w B C (xe b (uC (pdq lt d a e lim true true)++rest) tyU):=by
 intro N
 induction N with
 | zero=>intro d rest b m cap a e lim h;omega
 | succ N ih=>
 intro d rest b m cap a e lim hN hab he hm hm1 hlim hBel w B C hB hr hC;unfold ky;refine xh 900 (xe b (uC d++rest) tyU) Tryz.func223 Z Tryz.ntmps223 (np Z) hB hr hC ?_;rw[xf];obtain⟨X,hX⟩:∃ X,X=pdq lt d a e lim true true:=⟨_,rfl⟩
 rw[<-hX];refine(Z4∘Za0) ?_
 refine xq (fun s:((Nat×Nat)×Nat)×((Bool×Bool)×Array Int)=>[(0,.is (.slice (some ⟨b,0,none⟩) m cap)),(1,.is (.int .i64 s.1.1.1)),(2,.is (.int .i64 s.1.1.2)),(3,.is (.int .i64 s.1.2)),(8,.is (.bool s.2.1.1)),(9,.is (.bool s.2.1.2)),(900,.own (xn b (uC s.2.2++rest) tyU))])
  (fun s=>s.1.1.1<=s.1.1.2/\s.1.1.2<=m/\s.1.1.2-s.1.1.1<=e-a/\s.1.2<=1000/\s.2.2.size=m/\Below lt s.1.1.1 s.1.1.2 s.2.2/\pdq lt s.2.2 s.1.1.1 s.1.1.2 s.1.2 s.2.1.1 s.2.1.2=X) (fun s=>s.1.1.2-s.1.1.1) (((a,e),lim),((true,true),d)) ⟨hab,he,nu _,hlim,hm,hBel,hX.symm⟩ ⟨rfl,rfl,rfl,rfl,rfl,rfl,rfl,nm⟩ ?_
 rintro⟨⟨⟨x,y⟩,l⟩,⟨⟨wb,wp⟩,D⟩⟩ ⟨hxy,hy,hL,hl,hD,hBl,hP⟩;dsimp only at hxy hy hL hl hD hBl hP |-;clear hX hBel hm;have hw0:IntKind.i64.wrap ((y:Int)-(x:Int))=((y-x:Nat):Int):=xd I I |>.trans I;by_cases h12:y-x<=12
 ·rw[pdq_small h12] at hP;rw[<-hP];refine(Zae∘ZS∘ZaC∘Zj∘Zx∘ZcL∘Zr∘Zs∘Zu) ?_;refine qh (xc L 900 (xe b (uC (insertionSort lt D x y)++rest) tyU) (r:=xe b (uC D++rest) tyU) Z Z Z Z Z (fun u H C hH _ hr hC=>ins_ret hxy I hD hm1 hH hr hC)) (Zp (h:=?_));exact jk L 900 (r:=xe b _ tyU) Z (fun _ _ h=>h) nq Z Z
 ·by_cases hl0:l=0
  ·rw[pdq_heap h12 hl0] at hP;rw[<-hP];refine(Zae∘ZS∘ZaC∘Zj∘Zx∘ZcG∘ZV∘Zak∘Zv∘Zr∘ZD∘Zu) ?_;refine qh (xc L 900 (xe b (uC (heapSort lt D x y)++rest) tyU) (r:=xe b (uC D++rest) tyU) Z Z Z Z Z (fun u H C hH _ hr hC=>zdr I I hD hm1 hH hr hC)) (Zp (h:=?_));exact jk L 900 (r:=xe b _ tyU) Z (fun _ _ h=>h) nq Z Z
  ·obtain⟨s1,B1,hc1,s2,B2,hpv,s3,B3⟩:=rd_facts (lt:=lt) (limit:=l) (wb:=wb) (wp:=wp) swo_ltInt partialInsertionSort_holds reverseRange_holds (show x<y by omega) (show y<=D.size by omega) hBl;have hlle:(rd lt D x y l wb wp).lim<=1000:=znj rd_lim_le hl;have hdone:=fun h=>pdq_done (lt:=lt) (d:=D) (wb:=wb) (wp:=wp) h12 hl0 h;have heq:=fun h1 h2 h3=>pdq_eq (lt:=lt) (d:=D) (wb:=wb) (wp:=wp) h12 hl0 h1 h2 h3;have hleft:=fun h1 h2 h3 h4=>pdq_left (lt:=lt) (d:=D) (wb:=wb) (wp:=wp) h12 hl0 h1 h2 h3 h4;have hright:=fun h1 h2 h3 h4=>pdq_right (lt:=lt) (d:=D) (wb:=wb) (wp:=wp) h12 hl0 h1 h2 h3 h4;have hrt:wb=true->(rd lt D x y l wb wp).d1=D/\(rd lt D x y l wb wp).lim=l:=fun e=>by subst e;exact rd_true
   have hrf:wb=false->(rd lt D x y l wb wp).d1=breakPatterns D x y/\(rd lt D x y l wb wp).lim=l-1:=fun e=>by subst e;exact rd_false
   have hrc:=rd_c (lt:=lt) (d:=D) (a:=x) (b:=y) (limit:=l) (wb:=wb) (wp:=wp);have hde:=fun h=>rd_dec (lt:=lt) (d:=D) (a:=x) (b:=y) (limit:=l) (wb:=wb) (wp:=wp) h;have hno:=fun h=>rd_not (lt:=lt) (d:=D) (a:=x) (b:=y) (limit:=l) (wb:=wb) (wp:=wp) h;have hpy:=fun h=>rd_pi_yes (lt:=lt) (d:=D) (a:=x) (b:=y) (limit:=l) (wb:=wb) (wp:=wp) h;have hpn:=fun h=>rd_pi_no (lt:=lt) (d:=D) (a:=x) (b:=y) (limit:=l) (wb:=wb) (wp:=wp) h;rw[hP] at hdone heq hleft hright;generalize (rd lt D x y l wb wp)=R at *;refine(Zae∘ZS∘ZaC∘Zj∘Zx∘ZcG∘ZV∘Zak∘Zn∘ZV) ?_;refine ot (fun _:Unit=>[(0,.is (.slice (some ⟨b,0,none⟩) m cap)),(1,.is (.int .i64 x)),(2,.is (.int .i64 y)),(3,.is (.int .i64 R.lim)),(8,.is (.bool wb)),(9,.is (.bool wp)),(10,.is (.int .i64 (y-x:Nat))),(900,.own (xn b (uC R.d1++rest) tyU))]) (fun _=>True) (fun _=>[]) ?rest1 ?first1
   case first1=>
    cases wb with
    | true=>
     obtain⟨e1,e2⟩:=hrt rfl;rw[e1,e2];refine(Z5∘Zw∘Zas) ?_;exact wd () nq trivial Z ⟨Z,Z,Z,Z,Z,Z,Z,Z,nm⟩
    | false=>
     obtain⟨e1,e2⟩:=hrf rfl;have hw1:IntKind.i64.wrap ((l:Int)-1)=((l-1:Nat):Int):=xd I I |>.trans I;rw[e1,e2];refine(Z5∘Zw∘Zr∘Z7∘Zu) ?_;refine qh (xc L 900 (xe b (uC (breakPatterns D x y)++rest) tyU) (r:=xe b (uC D++rest) tyU) Z Z Z Z Z (fun u H C hH _ hr hC=>zh3 I I hD hm1 hH hr hC)) ((Zp∘Za3∘Zat∘Zao) ?_);exact wd () nq trivial Z ⟨Z,Z,Z,Z,Z,Z,Z,Z,nm⟩
   intro _ _;refine(Zf∘Zbf∘Zu) ?_;refine y9 (wk L 900 (Φ:=fun H=>H b=some (.cells (uC R.d1++rest).toArray tyU)) (c:=.tuple #[.int .i64 R.c.1,.int .i64 (Hx R.c.2)]) Z Z (zp Z) Z Z Z Z Z zhe (fun u H hH hle h1=>by rw[hrc];exact zgq I hy I hm1 hH h1)) ?_;refine(ZH∘Zb1) ?_;refine ot (fun _:Unit=>[(0,.is (.slice (some ⟨b,0,none⟩) m cap)),(1,.is (.int .i64 x)),(2,.is (.int .i64 y)),(3,.is (.int .i64 R.lim)),(8,.is (.bool wb)),(9,.is (.bool wp)),(10,.is (.int .i64 (y-x:Nat))),(11,.is (.int .i64 R.pivot)),(12,.is (.int .i64 (Hx R.hint))),(900,.own (xn b (uC R.d2++rest) tyU))]) (fun _=>True) (fun _=>[]) ?rest2 ?first2
   case first2=>
    by_cases hdec:R.c.2=.decreasing
    ·obtain⟨e1,e2,e3⟩:=hde hdec;have hz:Hx R.c.2=2:=by rw[hdec];rfl
     rw[e1,e2,e3];have w1:IntKind.i64.wrap ((y:Int)-1)=((y-1:Nat):Int):=xd I I |>.trans I;have w2:IntKind.i64.wrap ((R.c.1:Int)-(x:Int))=((R.c.1-x:Nat):Int):=xd I I |>.trans I;have w3:IntKind.i64.wrap (((y-1:Nat):Int)-((R.c.1-x:Nat):Int))=((y-1-(R.c.1-x):Nat):Int):=xd I I |>.trans I;refine(ZG∘Za∘Zv∘Zr∘ZW∘Zu) ?_;refine qh (xc L 900 (xe b (uC (reverseRange R.d1 x y)++rest) tyU) (r:=xe b (uC R.d1++rest) tyU) Z Z Z Z Z (fun u H C hH _ hr hC=>rev_ret I I I hm1 hH hr hC)) ((Zg∘ZO∘Za∘Zat∘ZaC∘Zat∘Ze∘Za2∘Zao) ?_);exact wd () nq trivial Z ⟨Z,Z,Z,Z,Z,Z,Z,Z,Z,Z,nm⟩
    ·obtain⟨e1,e2,e3⟩:=hno hdec;have hz:Hx R.c.2≠2:=fun h=>hdec (zae.1 h);rw[e1,e2,e3];refine(ZG∘Za∘Zn∘Zas) ?_;exact wd () nq trivial Z ⟨Z,Z,Z,Z,Z,Z,Z,Z,Z,Z,nm⟩
   intro _ _;refine zj (zj (ot (fun _:Unit=>[(0,.is (.slice (some ⟨b,0,none⟩) m cap)),(1,.is (.int .i64 x)),(2,.is (.int .i64 y)),(3,.is (.int .i64 R.lim)),(8,.is (.bool wb)),(9,.is (.bool wp)),(10,.is (.int .i64 (y-x:Nat))),(11,.is (.int .i64 R.pivot)),(900,.own (xn b (uC R.pi.1++rest) tyU))]) (fun _=>R.pi.2=false) (fun _=>[]) ?rest3 ?first3))
   case first3=>
    cases wb with
    | false=>
     have hpi:=hpn rfl;rw[hpi];refine(Zap∘Zb∘Za6∘Zc6∘Zi∘Zas) ?_;exact wd () nq Z Z ⟨Z,Z,Z,Z,Z,Z,Z,Z,Z,nm⟩
    | true=>
     cases wp with
     | false=>
      have hpi:=hpn rfl;rw[hpi];refine(Zap∘Zu∘Zi∘Zc6∘Zi∘Zas) ?_;exact wd () nq Z Z ⟨Z,Z,Z,Z,Z,Z,Z,Z,Z,nm⟩
     | true=>
      by_cases hi:R.hint=.increasing
      ·have hz:Hx R.hint=1:=by rw[hi];rfl
       have hpi:=hpy (by rw[hi];rfl)
       cases hb:(partialInsertionSort lt R.d2 x y).2 with
       | true=>
        rw[hdone (by rw[hpi];exact hb)];refine(Zap∘Zu∘Zbs∘Zv∘Zcs∘Zaf∘Zu) ?_;refine qh (yi L 900 (xe b (uC R.pi.1++rest) tyU) (.bool true) (r:=xe b (uC R.d2++rest) tyU) Z Z Z Z Z (fun u H C hH hle hr hC=>by have h:=pins_ret (rest:=rest) (cap:=cap) (d:=R.d2) (a:=x) (e:=y) (m:=m) I I I hm1 hH hr hC;rw[hb,<-hpi] at h;exact h)) ?_;refine Z3 (h:=?_);exact jk L 900 (r:=xe b _ tyU) Z (fun _ _ h=>h) nq Z Z
       | false=>
        refine(Zap∘Zu∘Zbs∘Zv∘Zcs∘Zaf∘Zu) ?_;refine qh (yi L 900 (xe b (uC R.pi.1++rest) tyU) (.bool false) (r:=xe b (uC R.d2++rest) tyU) Z Z Z Z Z (fun u H C hH hle hr hC=>by have h:=pins_ret (rest:=rest) (cap:=cap) (d:=R.d2) (a:=x) (e:=y) (m:=m) I I I hm1 hH hr hC;rw[hb,<-hpi] at h;exact h)) ?_;refine Zas (h:=?_);exact wd () nq (by rw[hpi];exact hb) Z ⟨Z,Z,Z,Z,Z,Z,Z,Z,Z,nm⟩
      ·have hz:Hx R.hint≠1:=fun h=>by
        cases hh:R.hint with
        | unknown=>rw[hh] at h;cases h
        | increasing=>exact hi hh
        | decreasing=>rw[hh] at h;cases h
       have hpi:=hpn (by simp [hi]);rw[hpi];refine(Zap∘Zu∘Zbs∘Zn∘Zi∘Zas) ?_;exact wd () nq Z Z ⟨Z,Z,Z,Z,Z,Z,Z,Z,Z,nm⟩
   intro _ h2;obtain⟨_,q2⟩:=gn (rest:=rest) (show R.pivot<R.pi.1.size by omega) (0+(R.pivot)*1) rfl;by_cases hx0:0<x
   ·obtain⟨_,q1⟩:=gn (rest:=rest) (show x-1<R.pi.1.size by omega) (0+(x-1)*1) rfl;have hw3:IntKind.i64.wrap ((x:Int)-1)=((x-1:Nat):Int):=xd I I |>.trans I
    cases hc:lt R.pi.1[x-1]! R.pi.1[R.pivot]! with
    | false=>
     obtain⟨mid,d4,hx⟩:∃ mid d4,partitionEqual lt R.pi.1 x y R.pivot=(mid,d4):=⟨_,_,rfl⟩
     obtain⟨g1,g2,g3,g4,_⟩:=round_eq swo_ltInt (partitionEqual_holds lt) hx0 hpv.1 hpv.2 I B3 hc hx;have hn:=heq h2 (by simp [hx0,hc]) (by rw[hx];exact⟨g1,g2⟩);rw[hx] at hn;refine(Zd∘ZdC∘Zm∘Zda∘Zb2∘ZbV) ?_;refine qz (qk L (q:=900) Z Z Z q1) Z Z (ZX (h:=?_));refine qz (qk L (q:=900) Z Z Z q2) Z Z (z91 L Z (fun u H hH _=>jv hc hH) ?_);refine(Zbl∘ZaA∘ZaN∘Zf∘Zbb∘Zb4) ?_;refine qh (yi L 900 (xe b (uC d4++rest) tyU) (.int .i64 mid) (r:=xe b (uC R.pi.1++rest) tyU) Z Z Z Z Z (fun u H C hH hle hr hC=>by have h:=zgt (rest:=rest) (cap:=cap) (d:=R.pi.1) hpv.1 hpv.2 I (m:=m) I hm1 hH hr hC;rw[hx] at h;exact h)) ?_;refine(Zc∘Zbu∘Za∘Ze∘Zep∘Zdx) ?_;exact yv (x:=(((x,y),l),((wb,wp),D))) (((mid,y),R.lim),((wb,wp),d4)) ⟨by dsimp only;omega,hy,by dsimp only;omega,hlle,by dsimp only;omega,g4,hn.symm⟩ M ⟨Z,Z,Z,Z,Z,Z,Z,trivial⟩
    | true=>
     have h2b:(decide (x>0) && !lt R.pi.1[x-1]! R.pi.1[R.pivot]!)=false:=by simp [hc]
     obtain⟨mid,ap,d4,hx⟩:∃ mid ap d4,Go.Sort.partition lt R.pi.1 x y R.pivot=(mid,ap,d4):=⟨_,_,_,rfl⟩
     obtain⟨g1,g2,g3,g4,g5,gL,gR⟩:=round_part swo_ltInt (partition_holds lt) hpv.1 hpv.2 I B3 hx;have w1:IntKind.i64.wrap ((mid:Int)-(x:Int))=((mid-x:Nat):Int):=xd I I |>.trans I;have w2:IntKind.i64.wrap ((y:Int)-(mid:Int))=((y-mid:Nat):Int):=xd I I |>.trans I;have w4:IntKind.i64.wrap ((mid:Int)+1)=((mid+1:Nat):Int):=xd I I
     have et:((y-x:Nat):Int).tdiv 8=(((y-x)/8:Nat):Int):=by
      rw[zqh I];omega
     have w3:IntKind.i64.wrap (((y-x:Nat):Int).tdiv 8)=(((y-x)/8:Nat):Int):=by rw[et];exact xd I I
     by_cases hlr:mid-x<y-mid
     ·have hn:=hleft h2 h2b (by rw[hx];exact⟨g1,g2⟩) (by rw[hx];exact hlr);rw[hx] at hn;dsimp only at hn;obtain⟨pL,sL⟩:=pdq_sorts lt swo_ltInt d4 x mid R.lim true true g1 I g4;obtain⟨LL,hLL⟩:∃ LL,LL=pdq lt d4 x mid R.lim true true:=⟨_,rfl⟩
      rw[<-hLL] at hn pL sL;obtain⟨gB,_⟩:=gL LL pL sL;have hLs:LL.size=d4.size:=pL.1;by_cases h8:mid-x>=(y-x)/8
      ·rw[nf h8] at hn;refine(Zd∘ZdC∘Zm∘Zda∘Zb2∘ZbV) ?_;refine qz (qk L (q:=900) Z Z Z q1) Z Z (ZX (h:=?_));refine qz (qk L (q:=900) Z Z Z q2) Z Z (z91 L Z (fun u H hH _=>jv hc hH) ?_);refine(Zbl∘Za4∘ZaL∘ZaK∘Zb4) ?_;refine qh (yi L 900 (xe b (uC d4++rest) tyU) (.tuple #[.int .i64 mid,.bool ap]) (r:=xe b (uC R.pi.1++rest) tyU) Z Z Z Z Z (fun u H C hH hle hr hC=>by have h:=d8 (rest:=rest) (cap:=cap) (d:=R.pi.1) hpv.1 hpv.2 I (m:=m) I hm1 hH hr hC;rw[hx] at h;exact h)) ?_;refine(ZbH∘Zb0∘Za∘Zc∘ZbI∘ZaC∘ZaC∘ZaR∘ZcC∘Za∘ZcY∘Zc∘Zc5∘Zb∘ZI∘Zr∘ZdV∘Zb∘ZbD∘Zc) ?_;refine zh (id:=26) (Zb4 (h:=?_));refine qh (xc L 900 (xe b (uC LL++rest) tyU) (r:=xe b (uC d4++rest) tyU) Z Z Z Z Z (fun u H C hH _ hr hC=>by rw[hLL];exact ih I g1 I I hm1 hlle g4 hH hr hC)) ?_;refine Zp (h:=?_);refine zh (id:=27) ((Zar∘ZaB) ?_);exact yv (x:=(((x,y),l),((wb,wp),D))) (((mid+1,y),R.lim),((true,ap),LL)) ⟨by dsimp only;omega,hy,by dsimp only;omega,hlle,by dsimp only;omega,gB,hn.symm⟩ M ⟨Z,Z,Z,Z,Z,Z,Z,trivial⟩
      ·rw[ng h8] at hn;refine(Zd∘ZdC∘Zm∘Zda∘Zb2∘ZbV) ?_;refine qz (qk L (q:=900) Z Z Z q1) Z Z (ZX (h:=?_));refine qz (qk L (q:=900) Z Z Z q2) Z Z (z91 L Z (fun u H hH _=>jv hc hH) ?_);refine(Zbl∘Za4∘ZaL∘ZaK∘Zb4) ?_;refine qh (yi L 900 (xe b (uC d4++rest) tyU) (.tuple #[.int .i64 mid,.bool ap]) (r:=xe b (uC R.pi.1++rest) tyU) Z Z Z Z Z (fun u H C hH hle hr hC=>by have h:=d8 (rest:=rest) (cap:=cap) (d:=R.pi.1) hpv.1 hpv.2 I (m:=m) I hm1 hH hr hC;rw[hx] at h;exact h)) ?_;refine(ZbH∘Zb0∘Za∘Zc∘ZbI∘ZaC∘ZaC∘ZaR∘ZcC∘Za∘ZcY∘Zc∘Zc5∘Zb∘ZI∘Zr∘ZdV∘Zb∘Zaj∘Zc) ?_;refine zh (id:=26) (Zb4 (h:=?_));refine qh (xc L 900 (xe b (uC LL++rest) tyU) (r:=xe b (uC d4++rest) tyU) Z Z Z Z Z (fun u H C hH _ hr hC=>by rw[hLL];exact ih I g1 I I hm1 hlle g4 hH hr hC)) ?_;refine Zp (h:=?_);refine zh (id:=27) ((Zar∘ZaB) ?_);exact yv (x:=(((x,y),l),((wb,wp),D))) (((mid+1,y),R.lim),((false,ap),LL)) ⟨by dsimp only;omega,hy,by dsimp only;omega,hlle,by dsimp only;omega,gB,hn.symm⟩ M ⟨Z,Z,Z,Z,Z,Z,Z,trivial⟩
     ·have hn:=hright h2 h2b (by rw[hx];exact⟨g1,g2⟩) (by rw[hx];exact hlr);rw[hx] at hn;dsimp only at hn;obtain⟨pL,sL⟩:=pdq_sorts lt swo_ltInt d4 (mid+1) y R.lim true true I I g5;obtain⟨LL,hLL⟩:∃ LL,LL=pdq lt d4 (mid+1) y R.lim true true:=⟨_,rfl⟩
      rw[<-hLL] at hn pL sL;obtain⟨gB,_⟩:=gR LL pL sL;have hLs:LL.size=d4.size:=pL.1;by_cases h8:y-mid>=(y-x)/8
      ·rw[nf h8] at hn;refine(Zd∘ZdC∘Zm∘Zda∘Zb2∘ZbV) ?_;refine qz (qk L (q:=900) Z Z Z q1) Z Z (ZX (h:=?_));refine qz (qk L (q:=900) Z Z Z q2) Z Z (z91 L Z (fun u H hH _=>jv hc hH) ?_);refine(Zbl∘Za4∘ZaL∘ZaK∘Zb4) ?_;refine qh (yi L 900 (xe b (uC d4++rest) tyU) (.tuple #[.int .i64 mid,.bool ap]) (r:=xe b (uC R.pi.1++rest) tyU) Z Z Z Z Z (fun u H C hH hle hr hC=>by have h:=d8 (rest:=rest) (cap:=cap) (d:=R.pi.1) hpv.1 hpv.2 I (m:=m) I hm1 hH hr hC;rw[hx] at h;exact h)) ?_;refine(ZbH∘Zb0∘Za∘Zc∘ZbI∘ZaC∘ZaC∘ZaR∘ZcC∘Za∘ZcY∘Zc∘Zc5∘Zb∘Z6∘Zdc) ?_;refine zh (id:=28) ((Zb∘ZbD∘Zc) ?_);refine zh (id:=29) ((Zb∘ZF∘Zb) ?_);refine qh (xc L 900 (xe b (uC LL++rest) tyU) (r:=xe b (uC d4++rest) tyU) Z Z Z Z Z (fun u H C hH _ hr hC=>by rw[hLL];exact ih I I hy I hm1 hlle g5 hH hr hC)) ?_;refine Zp (h:=?_);refine zh (id:=30) ((Za∘ZaB) ?_);exact yv (x:=(((x,y),l),((wb,wp),D))) (((x,mid),R.lim),((true,ap),LL)) ⟨by dsimp only;omega,by dsimp only;omega,by dsimp only;omega,hlle,by dsimp only;omega,gB,hn.symm⟩ M ⟨Z,Z,Z,Z,Z,Z,Z,trivial⟩
      ·rw[ng h8] at hn;refine(Zd∘ZdC∘Zm∘Zda∘Zb2∘ZbV) ?_;refine qz (qk L (q:=900) Z Z Z q1) Z Z (ZX (h:=?_));refine qz (qk L (q:=900) Z Z Z q2) Z Z (z91 L Z (fun u H hH _=>jv hc hH) ?_);refine(Zbl∘Za4∘ZaL∘ZaK∘Zb4) ?_;refine qh (yi L 900 (xe b (uC d4++rest) tyU) (.tuple #[.int .i64 mid,.bool ap]) (r:=xe b (uC R.pi.1++rest) tyU) Z Z Z Z Z (fun u H C hH hle hr hC=>by have h:=d8 (rest:=rest) (cap:=cap) (d:=R.pi.1) hpv.1 hpv.2 I (m:=m) I hm1 hH hr hC;rw[hx] at h;exact h)) ?_;refine(ZbH∘Zb0∘Za∘Zc∘ZbI∘ZaC∘ZaC∘ZaR∘ZcC∘Za∘ZcY∘Zc∘Zc5∘Zb∘Z6∘Zdc) ?_;refine zh (id:=28) ((Zb∘Zaj∘Zc) ?_);refine zh (id:=29) ((Zb∘ZF∘Zb) ?_);refine qh (xc L 900 (xe b (uC LL++rest) tyU) (r:=xe b (uC d4++rest) tyU) Z Z Z Z Z (fun u H C hH _ hr hC=>by rw[hLL];exact ih I I hy I hm1 hlle g5 hH hr hC)) ?_;refine Zp (h:=?_);refine zh (id:=30) ((Za∘ZaB) ?_);exact yv (x:=(((x,y),l),((wb,wp),D))) (((x,mid),R.lim),((false,ap),LL)) ⟨by dsimp only;omega,by dsimp only;omega,by dsimp only;omega,hlle,by dsimp only;omega,gB,hn.symm⟩ M ⟨Z,Z,Z,Z,Z,Z,Z,trivial⟩
   ·have h2b:(decide (x>0) && !lt R.pi.1[x-1]! R.pi.1[R.pivot]!)=false:=by simp [hx0]
    obtain⟨mid,ap,d4,hx⟩:∃ mid ap d4,Go.Sort.partition lt R.pi.1 x y R.pivot=(mid,ap,d4):=⟨_,_,_,rfl⟩
    obtain⟨g1,g2,g3,g4,g5,gL,gR⟩:=round_part swo_ltInt (partition_holds lt) hpv.1 hpv.2 I B3 hx;have w1:IntKind.i64.wrap ((mid:Int)-(x:Int))=((mid-x:Nat):Int):=xd I I |>.trans I;have w2:IntKind.i64.wrap ((y:Int)-(mid:Int))=((y-mid:Nat):Int):=xd I I |>.trans I;have w4:IntKind.i64.wrap ((mid:Int)+1)=((mid+1:Nat):Int):=xd I I
    have et:((y-x:Nat):Int).tdiv 8=(((y-x)/8:Nat):Int):=by
     rw[zqh I];omega
    have w3:IntKind.i64.wrap (((y-x:Nat):Int).tdiv 8)=(((y-x)/8:Nat):Int):=by rw[et];exact xd I I
    by_cases hlr:mid-x<y-mid
    ·have hn:=hleft h2 h2b (by rw[hx];exact⟨g1,g2⟩) (by rw[hx];exact hlr);rw[hx] at hn;dsimp only at hn;obtain⟨pL,sL⟩:=pdq_sorts lt swo_ltInt d4 x mid R.lim true true g1 I g4;obtain⟨LL,hLL⟩:∃ LL,LL=pdq lt d4 x mid R.lim true true:=⟨_,rfl⟩
     rw[<-hLL] at hn pL sL;obtain⟨gB,_⟩:=gL LL pL sL;have hLs:LL.size=d4.size:=pL.1;by_cases h8:mid-x>=(y-x)/8
     ·rw[nf h8] at hn;refine(Zd∘ZdC∘Zm∘Zdo∘Zcd∘Zcc∘Zc1∘Za4∘ZaL∘ZaK∘Zb4) ?_;refine qh (yi L 900 (xe b (uC d4++rest) tyU) (.tuple #[.int .i64 mid,.bool ap]) (r:=xe b (uC R.pi.1++rest) tyU) Z Z Z Z Z (fun u H C hH hle hr hC=>by have h:=d8 (rest:=rest) (cap:=cap) (d:=R.pi.1) hpv.1 hpv.2 I (m:=m) I hm1 hH hr hC;rw[hx] at h;exact h)) ?_;refine(ZbH∘Zb0∘Za∘Zc∘ZbI∘ZaC∘ZaC∘ZaR∘ZcC∘Za∘ZcY∘Zc∘Zc5∘Zb∘ZI∘Zr∘ZdV∘Zb∘ZbD∘Zc) ?_;refine zh (id:=26) (Zb4 (h:=?_));refine qh (xc L 900 (xe b (uC LL++rest) tyU) (r:=xe b (uC d4++rest) tyU) Z Z Z Z Z (fun u H C hH _ hr hC=>by rw[hLL];exact ih I g1 I I hm1 hlle g4 hH hr hC)) ?_;refine Zp (h:=?_);refine zh (id:=27) ((Zar∘ZaB) ?_);exact yv (x:=(((x,y),l),((wb,wp),D))) (((mid+1,y),R.lim),((true,ap),LL)) ⟨by dsimp only;omega,hy,by dsimp only;omega,hlle,by dsimp only;omega,gB,hn.symm⟩ M ⟨Z,Z,Z,Z,Z,Z,Z,trivial⟩
     ·rw[ng h8] at hn;refine(Zd∘ZdC∘Zm∘Zdo∘Zcd∘Zcc∘Zc1∘Za4∘ZaL∘ZaK∘Zb4) ?_;refine qh (yi L 900 (xe b (uC d4++rest) tyU) (.tuple #[.int .i64 mid,.bool ap]) (r:=xe b (uC R.pi.1++rest) tyU) Z Z Z Z Z (fun u H C hH hle hr hC=>by have h:=d8 (rest:=rest) (cap:=cap) (d:=R.pi.1) hpv.1 hpv.2 I (m:=m) I hm1 hH hr hC;rw[hx] at h;exact h)) ?_;refine(ZbH∘Zb0∘Za∘Zc∘ZbI∘ZaC∘ZaC∘ZaR∘ZcC∘Za∘ZcY∘Zc∘Zc5∘Zb∘ZI∘Zr∘ZdV∘Zb∘Zaj∘Zc) ?_;refine zh (id:=26) (Zb4 (h:=?_));refine qh (xc L 900 (xe b (uC LL++rest) tyU) (r:=xe b (uC d4++rest) tyU) Z Z Z Z Z (fun u H C hH _ hr hC=>by rw[hLL];exact ih I g1 I I hm1 hlle g4 hH hr hC)) ?_;refine Zp (h:=?_);refine zh (id:=27) ((Zar∘ZaB) ?_);exact yv (x:=(((x,y),l),((wb,wp),D))) (((mid+1,y),R.lim),((false,ap),LL)) ⟨by dsimp only;omega,hy,by dsimp only;omega,hlle,by dsimp only;omega,gB,hn.symm⟩ M ⟨Z,Z,Z,Z,Z,Z,Z,trivial⟩
    ·have hn:=hright h2 h2b (by rw[hx];exact⟨g1,g2⟩) (by rw[hx];exact hlr);rw[hx] at hn;dsimp only at hn;obtain⟨pL,sL⟩:=pdq_sorts lt swo_ltInt d4 (mid+1) y R.lim true true I I g5;obtain⟨LL,hLL⟩:∃ LL,LL=pdq lt d4 (mid+1) y R.lim true true:=⟨_,rfl⟩
     rw[<-hLL] at hn pL sL;obtain⟨gB,_⟩:=gR LL pL sL;have hLs:LL.size=d4.size:=pL.1;by_cases h8:y-mid>=(y-x)/8
     ·rw[nf h8] at hn;refine(Zd∘ZdC∘Zm∘Zdo∘Zcd∘Zcc∘Zc1∘Za4∘ZaL∘ZaK∘Zb4) ?_;refine qh (yi L 900 (xe b (uC d4++rest) tyU) (.tuple #[.int .i64 mid,.bool ap]) (r:=xe b (uC R.pi.1++rest) tyU) Z Z Z Z Z (fun u H C hH hle hr hC=>by have h:=d8 (rest:=rest) (cap:=cap) (d:=R.pi.1) hpv.1 hpv.2 I (m:=m) I hm1 hH hr hC;rw[hx] at h;exact h)) ?_;refine(ZbH∘Zb0∘Za∘Zc∘ZbI∘ZaC∘ZaC∘ZaR∘ZcC∘Za∘ZcY∘Zc∘Zc5∘Zb∘Z6∘Zdc) ?_;refine zh (id:=28) ((Zb∘ZbD∘Zc) ?_);refine zh (id:=29) ((Zb∘ZF∘Zb) ?_);refine qh (xc L 900 (xe b (uC LL++rest) tyU) (r:=xe b (uC d4++rest) tyU) Z Z Z Z Z (fun u H C hH _ hr hC=>by rw[hLL];exact ih I I hy I hm1 hlle g5 hH hr hC)) ?_;refine Zp (h:=?_);refine zh (id:=30) ((Za∘ZaB) ?_);exact yv (x:=(((x,y),l),((wb,wp),D))) (((x,mid),R.lim),((true,ap),LL)) ⟨by dsimp only;omega,by dsimp only;omega,by dsimp only;omega,hlle,by dsimp only;omega,gB,hn.symm⟩ M ⟨Z,Z,Z,Z,Z,Z,Z,trivial⟩
     ·rw[ng h8] at hn;refine(Zd∘ZdC∘Zm∘Zdo∘Zcd∘Zcc∘Zc1∘Za4∘ZaL∘ZaK∘Zb4) ?_;refine qh (yi L 900 (xe b (uC d4++rest) tyU) (.tuple #[.int .i64 mid,.bool ap]) (r:=xe b (uC R.pi.1++rest) tyU) Z Z Z Z Z (fun u H C hH hle hr hC=>by have h:=d8 (rest:=rest) (cap:=cap) (d:=R.pi.1) hpv.1 hpv.2 I (m:=m) I hm1 hH hr hC;rw[hx] at h;exact h)) ?_;refine(ZbH∘Zb0∘Za∘Zc∘ZbI∘ZaC∘ZaC∘ZaR∘ZcC∘Za∘ZcY∘Zc∘Zc5∘Zb∘Z6∘Zdc) ?_;refine zh (id:=28) ((Zb∘Zaj∘Zc) ?_);refine zh (id:=29) ((Zb∘ZF∘Zb) ?_);refine qh (xc L 900 (xe b (uC LL++rest) tyU) (r:=xe b (uC d4++rest) tyU) Z Z Z Z Z (fun u H C hH _ hr hC=>by rw[hLL];exact ih I I hy I hm1 hlle g5 hH hr hC)) ?_;refine Zp (h:=?_);refine zh (id:=30) ((Za∘ZaB) ?_);exact yv (x:=(((x,y),l),((wb,wp),D))) (((x,mid),R.lim),((false,ap),LL)) ⟨by dsimp only;omega,by dsimp only;omega,by dsimp only;omega,hlle,by dsimp only;omega,gB,hn.symm⟩ M ⟨Z,Z,Z,Z,Z,Z,Z,trivial⟩
def sortU_ret{cap:Nat}(hm:d.size=m)(hm1:m<=100000)(hB:zry B w)
  (hr:(xe b (uC d++rest) tyU).P B w C) (hC:ZCB C w B):
  ky zrz 154 [.slice (some ⟨b,0,none⟩) m cap] w B C (xe b (uC (Go.Sort.sort lt d)++rest) tyU):=by
 unfold ky;refine xh 900 (xe b (uC d++rest) tyU) Tryz.func154 Z Tryz.ntmps154 (np Z) hB hr hC ?_;rw[xf];have hc:IntKind.u64.wrap (m:Int)=(m:Int):=wrap_u64 I I;have hb17:bitsLen m<=17:=(bitsLen_le_iff m 17).2 I;refine(Zad∘Za∘Za1∘Ze∘Z9∘Zu) ?_;refine z7 (xw Z Z Z ws.1 ws.2 (wrap_u64 I I)) Z (z71 L Z (fun u H hH _=>Ef I hH) ?_);refine qh (xc L 900 (xe b (uC (Go.Sort.sort lt d)++rest) tyU) (r:=xe b (uC d++rest) tyU) Z Z Z Z Z (fun u H C hH _ hr hC=>by have h:=zgu (rest:=rest) (cap:=cap) (m:=m) (d:=d) (a:=0) (e:=m) (lim:=bitsLen m) (m+1) I I I hm hm1 I (Or.inl Z) hH hr hC;unfold Go.Sort.sort;rw[hm];exact h)) ?_;refine Zac (h:=?_);exact xz L 900 (r:=xe b _ tyU) Z (fun _ _ h=>h) nq Z Z
end Go.V.So
end
namespace Go.V.L10
def _root_.Zel(t:Wr Y->A:=by intro h;refine z7 (yw L (vs:=[_,_]) Z Z Z Z Z ⟨_,rfl⟩) Z ?_;exact h.1)(h:Y):A:=t ⟨h⟩
def _root_.Zez(t:Wr Y->A:=by intro h;refine z71 L Z (fun u H hH _=>So.isnanU _ hH) ?_;exact h.1)(h:Y):A:=t ⟨h⟩
def _root_.Zf1(t:Wr Y->A:=by intro h;refine z7 (StepOK.seeV (ql L (ye Z) Z Z Z Z) E) Z ?_;exact h.1)(h:Y):A:=t ⟨h⟩
abbrev zey:TypeId:=264
abbrev N3:TypeId:=63
def pnc(p:Int×Int):List Value:=[.int .u64 p.1,.int .i64 p.2]
def Xf(p:Int×Int):(pnc p).length=2:=rfl
def C9(l:List (Int×Int)):(l.flatMap pnc).all ue=true:=by
 rw[znr];intro v hv;obtain⟨x,_,hx⟩:=zp0.1 hv;simp only[pnc,nz,zou,or_false] at hx;rcases hx with rfl | rfl<;>rfl
abbrev PsV(l:List (Int×Int)):Value->Heap->Prop:=SlV zey 2 (l.flatMap pnc) l.length false
def zct(h:l[i]?=some x):((l.flatMap pnc).drop (i*2)).take 2=[.int .u64 x.1,.int .i64 x.2]:=f0 Xf l i x h
abbrev RsV(l:List Int)(fu:Bool):Value->Heap->Prop:=SlV N3 1 (l.map (Value.int .u64)) l.length fu
def zcm{l:List Int}{x:Int}(h:l[i]?=some x):((l.map (Value.int .u64)).drop (i*1)).take 1=[.int .u64 x]:=by
 rw[zoe,List.take_one];simp [List.head?_drop,h]
attribute [local irreducible] V N X VO Par StepOK Has Ret RetL RetO ky RetX Src
def cmpU_ret(a b:Int)(hB:zry B w):Ret zrz 213 [.int .u64 a,.int .u64 b] w B (fun v _=>v=.int .i64 (cP a b)):=by
 unfold cP;refine yo Tryz.func213 Z Tryz.ntmps213 (np Z) hB ?_;by_cases h:a<b
 ·rw[na h];refine(Z4∘Za∘Zez∘ZbT∘Zez∘Zj∘Zx∘ZV∘Z5∘ZV∘ZE∘Zb∘ZI∘Zr∘Zbf∘Ze) ?_;exact yl2 L [.tmp 4]
 ·rw[nc h];by_cases h2:b<a
  ·rw[na h2];refine(Z4∘Za∘Zez∘ZbT∘Zez∘Zj∘Zx∘ZV∘Z5∘ZV∘ZE∘Zb∘Z6∘ZV∘ZG∘Zb∘ZJ∘Zr∘ZW∘Ze) ?_;exact yl2 L [.tmp 4]
  ·rw[nc h2];refine(Z4∘Za∘Zez∘ZbT∘Zez∘Zj∘Zx∘ZV∘Z5∘ZV∘ZE∘Zb∘Z6∘ZV∘ZG∘Zb∘Zca∘ZO∘Ze) ?_;exact yl2 L [.tmp 4]
def sw(a n b:Int)(hB:zry B w):Ret zrz 212 [.agg #[.int .u64 a,.int .i64 n],.int .u64 b] w B (fun v _=>v=.int .i64 (cP a b)):=by
 refine yo Tryz.func212 Z Tryz.ntmps212 (np Z) hB ((Z0∘ZaH∘Z8∘Za) ?_);refine z71 L Z (fun u H hH _=>cmpU_ret _ _ hH) ?_;refine Ze (h:=?_);exact yl2 L [.tmp 4]
abbrev BSP:Nat:=211
abbrev fvP:Value:=.func (.func 212) #[] #[]
def zh2(hz:(ko L0).length<=100000){v:Value}(hB:zry B w)(hv:PsV (ko L0) v B):
  Ret zrz BSP [v,.int .u64 r,fvP] w B (fun v _=>v=.tuple #[.int .i64 (Kr cP r (jl L0):Nat),.bool (decide (r∈jl L0))]):=by
 have hs:=di L0;obtain⟨l,hl⟩:∃ l,l=jl L0:=⟨_,rfl⟩
 obtain⟨ps,hps⟩:∃ ps,ps=ko L0:=⟨_,rfl⟩
 have hat:∀ (i:Nat) (x:Int),l[i]?=some x->ps[i]?=some (x,(L0.count x:Int)):=fun i x h=>by subst hl hps;exact Db h
 have hlen:ps.length=l.length:=by subst hl hps;exact gx L0
 rw[<-hl] at hs |-;rw[<-hps] at hv hz;clear hl hps;refine yo Tryz.func211 Z Tryz.ntmps211 (np Z) hB (jf 0 (PsV ps) Z nw hv ((Zbj∘ZaH∘Zl∘ZbT∘ZaR∘Zaz) ?_))
 refine xq (fun s:Nat×Nat=>[(0,.sat (PsV ps)),(2,.is fvP),(1,.is (.int .u64 r)),(8,.is (.int .i64 ps.length)),(9,.is (.int .i64 s.1)),(10,.is (.int .i64 s.2))])
  (fun s=>s.1<=s.2/\s.2<=l.length/\(∀ (k:Nat) (x:Int),k<s.1->l[k]?=some x->cP x r<0)/\∀ (k:Nat) (x:Int),s.2<=k->l[k]?=some x->¬ cP x r<0) (fun s=>s.2-s.1) (0,ps.length) ⟨Nat.zero_le _,Nat.le_of_eq hlen,fun k x h=>(by cases h),fun k x h hx=>(by rw[List.getElem?_eq_none (by dsimp only at h;omega)] at hx;cases hx)⟩ ⟨rfl,rfl,rfl,rfl,rfl,rfl,trivial⟩ ?_
 rintro⟨i,j⟩ ⟨hij,hjl,hlo,hhi⟩;dsimp only at hij hjl hlo hhi |-;by_cases hlt:i<j
 ·obtain⟨h,hh⟩:∃ h,h=(i+j)/2:=⟨_,rfl⟩
  have hsh:((i:Int)+(j:Int)).fdiv (2^min (1:Int).toNat IntKind.u64.bits)=(h:Int):=by
   show((i:Int)+(j:Int)).fdiv 2=(h:Int);rw[zq0 _ T];omega
  obtain⟨y,hy⟩:=xu (show h<l.length by omega);have hc:=zct (hat h y hy);by_cases hcm:cP y r<0
  ·refine(ZbG∘Zbq∘Zbm∘Zs∘Zb∘ZcQ) ?_;refine z7 (xw Z Z Z ws.1 ws.2 (wrap_u64 I I)) Z (Zd4 (h:=?_));refine z7 (xw Z Z Z wt.1 wt.2 (xd I I)) Z ((ZbS∘ZaS∘Zel∘Za) ?_);refine z71 L Z (fun u H hH _=>sw _ _ _ hH) ?_;refine(Zbq∘ZL∘Zay∘Zau) ?_;exact yv (x:=(i,j)) (h+1,j) ⟨by dsimp only;omega,hjl,fun k x hk hx=>Fa lj hs hy hx (by dsimp only at hk;omega) hcm,hhi⟩ M ⟨Z,Z,Z,Z,Z,Z,trivial⟩
  ·refine(ZbG∘Zbq∘Zbm∘Zs∘Zb∘ZcQ) ?_;refine z7 (xw Z Z Z ws.1 ws.2 (wrap_u64 I I)) Z (Zd4 (h:=?_));refine z7 (xw Z Z Z wt.1 wt.2 (xd I I)) Z ((ZbS∘ZaS∘Zel∘Za) ?_);refine z71 L Z (fun u H hH _=>sw _ _ _ hH) ?_;refine(Z6∘Za5∘Z5∘ZaB) ?_;exact yv (x:=(i,j)) (i,h) ⟨by dsimp only;omega,by dsimp only;omega,hlo,fun k x hk hx hcx=>hcm (Fa lj hs hx hy hk hcx)⟩ M ⟨Z,Z,Z,Z,Z,Z,trivial⟩
 ·obtain rfl:i=j:=by omega
  rw[Xe lj hs hlo hhi hjl];by_cases hin:i<l.length
  ·obtain⟨y,hy⟩:=xu hin;have hc:=zct (hat i y hy);have hm:=zjx lj hs hlo hy hhi;by_cases hcm:cP y r=0
   ·rw[nf (hm.2 hcm)];refine(ZbG∘Zb8∘Z7∘Zu∘ZI∘Zb∘ZaS∘Zel∘Za) ?_;refine z71 L Z (fun u H hH _=>sw _ _ _ hH) ?_;refine(Zv∘Zi∘ZA) ?_;exact yl2 L [.tmp 6,.tmp 7]
   ·rw[ng fun h=>hcm (hm.1 h)];refine(ZbG∘Zb8∘Z7∘Zu∘ZI∘Zb∘ZaS∘Zel∘Za) ?_;refine z71 L Z (fun u H hH _=>sw _ _ _ hH) ?_;refine(Zn∘Zi∘ZA) ?_;exact yl2 L [.tmp 6,.tmp 7]
  ·obtain rfl:i=l.length:=by omega
   rw[ng (Pa lj hlo)];refine(ZbG∘Zb8∘Z7∘Zu∘Z6∘ZbY∘Zbv∘Zi∘ZA) ?_;exact yl2 L [.tmp 6,.tmp 7]
abbrev pnv(s:Value)(t:Nat):Value:=.agg #[s,.int .i64 t]
def D6(hz2:(ko L0).length<=100000)(hB:zry B w)(hv:PsV (ko L0) s B):
  Ret zrz 143 [pnv s t,.int .u64 r] w B (fun v _=>v=.tuple #[.int .i64 (Kr cP r (jl L0):Nat),.bool (decide (r∈jl L0))]):=by
 obtain⟨p,c,rfl⟩:=jx hv;refine yo Tryz.func143 Z Tryz.ntmps143 (np Z) hB ((Z0∘Zh∘ZaH∘Z8∘Za) ?_);refine z71 L Z (fun u H hH hle=>zh2 hz2 hH (hv.le hle)) ?_;refine(ZbM∘ZA) ?_;exact yl2 L [.tmp 4,.tmp 5]
def Xg(hz:L0.length<=n):(ko L0).length<=n:=by rw[gx];exact znj (A6 _) hz
def T6(h:r∈jl L0):(ko L0)[Kr cP r (jl L0)]?=some (r,(L0.count r:Int)):=Db (Xc lj (di L0) h)
def iw(hz:(ko L0).length<=100000)(hB:zry B w)(hv:PsV (ko L0) s B):
  Ret zrz 88 [pnv s t,.int .u64 r] w B (fun v _=>v=.int .i64 (L0.count r:Nat)):=by
 obtain⟨p,c,rfl⟩:=jx hv;refine yo Tryz.func88 Z Tryz.ntmps88 (np Z) hB ?_;by_cases h:r∈jl L0
 ·have hf:decide (r∈jl L0)=true:=nf h;have hp:=T6 h;have hlt:=get_lt hp;have hc:=zct hp;refine(Z0∘ZM∘Zd8∘Za) ?_;refine z71 L Z (fun u H hH hle=>hf ▸ D6 (t:=t) hz hH (hv.le hle)) ?_;refine(ZbH∘Zq∘Zr∘Zy∘ZaD∘Zf1∘ZcW∘Zc3∘Za9∘Ze) ?_;exact yl2 L [.tmp 4]
 ·have hf:decide (r∈jl L0)=false:=ng h;have hc0:L0.count r=0:=zq9.2 fun hm=>h (vt.2 hm);rw[hc0];refine(Z0∘ZM∘Zd8∘Za) ?_;refine z71 L Z (fun u H hH hle=>hf ▸ D6 (t:=t) hz hH (hv.le hle)) ?_;refine(ZbH∘Zq∘Zo∘Zs∘Ze) ?_;exact yl2 L [.tmp 4]
def count_ret(hz:L0.length<=100000)(hB:zry B w)(hv:PsV (ko L0) s B):
  Ret zrz 88 [pnv s t,.int .u64 r] w B (fun v _=>v=.int .i64 (L0.count r:Nat)):=iw (Xg hz) hB hv
def Vh(_hs:(k9 s).length=1/\(k9 s).all ue=true)(hB:zry B w):
  Ret zrz 92 [pnv s t] w B (fun v _=>v=.int .i64 t):=by
 refine yo Tryz.func92 Z Tryz.ntmps92 (np Z) hB ((Z0∘ZaH∘Z8∘Ze) ?_);exact yl2 L [.tmp 2]
end Go.V.L10
namespace Go.V.L10
open Go.V
def _root_.Zf2(t:Wr Y->A:=by intro h;refine z7 (gy L (kh:=.i64) (ph:=0) _ _ Z Z Z Z Z ⟨rfl,rfl⟩ Z I I) Z ?_;exact h.1)(h:Y):A:=t ⟨h⟩
def _root_.Zfb(t:Wr Y->A:=by intro h;refine Zk (h:=?_);refine z7 (zcx L Z Z Z Z) Z ?_;exact h.1)(h:Y):A:=t ⟨h⟩
def rp(l:List (Int×Int)):(l.flatMap pnc).length=l.length*2:=oo Xf l
section
variable {A Bq R X zrr:List Value} 
def zfg(hA:A.length=a)(zru:List Value):(A++zru).take a=A/\(A++zru).drop a=zru:=by subst hA;simp
def zl7(hA:A.length=a)(hB:Bq.length=b)(_hR:2<=R.length):
  ((A++(Bq++R)).drop a).take b=Bq/\
  ((A++(Bq++R)).take (a+2)++(Bq++(A++(Bq++R)).drop (a+2+b)))=A++((Bq++R).take 2++(Bq++R.drop 2))/\
  ∀ (W:List Value),W.length=2->((A++(W++(Bq++R.drop 2))).take a++(X++(A++(W++(Bq++R.drop 2))).drop (a+2)))=A++(X++(Bq++R.drop 2)):=by
 subst hA hB;refine⟨by simp,?_,fun W hW=>?_⟩
 ·have e1:(A++(Bq++R)).take (A.length+2)=A++(Bq++R).take 2:=by rw[zpj,znl I];congr 2;omega
  have e2:(A++(Bq++R)).drop (A.length+2+Bq.length)=R.drop 2:=by
   rw[<-mo,zoo,znm (by rw[nr];omega),mn];congr 1;rw[nr];omega
  rw[e1,e2,mo]
 ·rw[zpj,znl (nu _),zoq,zn6,mp,zoo,znm I,mn,show A.length+2-A.length=2 by omega,zoo,znm I,mn,hW,zoq,zn5]
def zjt(hA:A.length=a)(hB:Bq.length=b)(hZ:zrr.length=b+2)(hX:X.length=2):
  ((A++zrr++R).take a++(X++(A++zrr++R).drop (a+2)))=A++(X++(zrr.drop 2++R))/\
  ((A++(X++(zrr.drop 2++R))).take (a+2)++(Bq++(A++(X++(zrr.drop 2++R))).drop (a+2+b)))=A++(X++(Bq++R)):=by
 subst hA hB;refine⟨?_,?_⟩
 ·rw[mo,zpj,znl (nu _),zoq,zn6,mp,zoo,znm I,mn,show A.length+2-A.length=2 by omega,zoo,show 2-zrr.length=0 by omega,zn5]
 ·have e1:(A++(X++(zrr.drop 2++R))).take (A.length+2)=A++X:=by
   rw[<-mo,zpj,znl (by rw[nr];omega),nr,show A.length+2-(A.length+X.length)=0 by omega,zn6,mp]
  have e2:(A++(X++(zrr.drop 2++R))).drop (A.length+2+Bq.length)=R:=by
   rw[<-mo,<-mo,zoo,znm (by rw[nr,nr,m6];omega),mn,nr,nr,m6,show A.length+2+Bq.length-(A.length+X.length+(zrr.length-2))=0 by omega,zn5]
  rw[e1,e2,mo]
end
attribute [local irreducible] V N X VO Par StepOK Has Ret RetL RetO RetT ky RetX Src
def Tc(hz:l.length<=100000)(hB:zry B w)(hv:PsV l v B):
  RetO zrz 144 [v] w B (SlR zey 2 l.length (l.flatMap pnc)):=by
 have hv0:=hv;have hlen:=rp l;have hpl:=C9 l;obtain⟨p,c,rfl⟩:=jx hv;rcases p with _ | b
 ·obtain⟨h0,rfl⟩:l.length=0/\c=0:=Gq hv;have hn:l=[]:=m8 h0;subst hn;refine wj Tryz.func144 Z Tryz.ntmps144 (np Z) hB (ZbX (h:=?_));refine z7 (u9 Z Z Z Z zjs Z) Z ((Zbd∘Ze) ?_);exact g7 2 zey 2 rfl (dw Z (fun _ _ h=>h) nq Z)
 ·refine wj Tryz.func144 Z Tryz.ntmps144 (np Z) hB (ZbX (h:=?_));refine z7 (u9 Z Z Z Z zjs Z) Z (Zo (h:=?_));refine jf 0 (PsV l) Z nw hv0 (Zy (h:=?_));refine z7 (cm L Z Z Z Z Z) Z (Zk (h:=?_));refine qh (vj L Z Z Z (Nj Z) Z M5 E E I I) (qh (yt (.inr Z) Z) (Zp (h:=?_)));rw[znk,mn];exact dw Z (fun _ _ h=>h) nq Z
def Pi(l:List (Int×Int))(i:Nat)(x:Int×Int):List (Int×Int):=l.take i++x::l.drop i
def Dv(hi:i<=l.length):(Pi l i x).length=l.length+1:=by
 unfold Pi;rw[List.length_append,List.length_cons,List.length_take,List.length_drop];omega
def Fx:(Pi l i x).flatMap pnc=(l.take i).flatMap pnc++([.int .u64 x.1,.int .i64 x.2]++(l.drop i).flatMap pnc):=by
 unfold Pi;rw[List.flatMap_append,List.flatMap_cons];rfl
def zgv(args:Array Value)(u:World):(callFunc 214 args).run zrz u=((Extern.SlicesOverlaps.overlaps #[110,110] #[4] args).run zrz u).andThen fun v w'=>.ok (.value v) w':=
 run_callFunc_extern Tryz.func214 J J J J args u
abbrev zPn:Value:=.agg #[.int .u64 0,.int .i64 0]
def zPs(m:Nat):List Value:=(Builtin.zeroCells (Value.cells zPn) m).toList
def zfp(m:Nat):(zPs m).length=m*2:=by unfold zPs;rw[Array.length_toList,size_zeroCells];rfl
def T4{y:Int×Int}(hi:i<=l.length)(hz:l.length<=100000){x v2:Value}(hB:zry B w)(h2:SlB [Value.int .u64 y.1,Value.int .i64 y.2] zey 1 v2 B)(hx:(SlR zey 2 l.length (l.flatMap pnc)).P x B w C)(hC:ZCB C w B):
  RetT zrz 145 [x,.int .i64 i,v2] w B C (SlR zey 2 (l.length+1) ((Pi l i y).flatMap pnc)):=by
 have hpl:=C9 l;unfold RetT;refine Sa 0 (x:=x) (SlR zey 2 l.length (l.flatMap pnc)) Z Tryz.func145 Z Tryz.ntmps145 (np Z) hB hx hC (jf 2 (SlB [Value.int .u64 y.1,Value.int .i64 y.2] zey 1) Z SlB.mono h2 ?_);have hw1:IntKind.i64.wrap ((l.length:Int)+((1:Nat):Int))=((l.length+1:Nat):Int):=xd I I;refine El 0 900 rfl (fun hm hn=>?_) fun b cap rest hl hmc hcm hcl=>?_
 ·have h0:l=[]:=m8 hm;subst h0;obtain rfl:i=0:=by simpa using hi
  refine(Z4∘Zb) ?_;refine z7 (Ti L Z Z Z Z Z Z Z) Z ((Zg∘ZS∘Zfb∘Zj∘Zx∘Zn∘Zo∘Zak∘Za1∘Zj∘ZD∘Zb∘Zv∘Zr∘Z5∘Zk) ?_);refine z7 (Ah L Z Z Z (oq Z) Z M5 Z Z I I) Z (qh (yt (.inr Z) Z) (Zp (h:=?_)));exact Nm Z (fun _ _ h=>h) nq Z
 ·by_cases hin:i=l.length
  ·subst hin;have e1:(Pi l l.length y).flatMap pnc=l.flatMap pnc++[Value.int .u64 y.1,Value.int .i64 y.2]:=by rw[Fx,znq,zpi];simp
   rw[e1];refine(Z4∘Zb∘Zf2∘Zg∘ZS∘Zfb∘Zj∘Zx∘Zn∘Zo∘Zak∘Za1∘Zj∘ZD∘Zb∘Zv∘Zr∘Z5∘Zk) ?_;refine qh (Tu L (q:=900) Z Z Z Z hl hmc hcm hcl (oq Z) Z M5 Z Z I I) (qh (yt (.inr Z) Z) (Zp (h:=?_)));exact Nm Z (fun _ _ h=>h) nq Z
  ·have hil:i<l.length:=I;have hA:((l.take i).flatMap pnc).length=i*2:=by rw[rp,mw,zos I]
   have hBq:((l.drop i).flatMap pnc).length=(l.length-i)*2:=by rw[rp,m6]
   have hcur:l.flatMap pnc=(l.take i).flatMap pnc++(l.drop i).flatMap pnc:=by rw[<-znw,znn]
   have hpB:=C9 (l.drop i);have hwi:IntKind.i64.wrap ((i:Int)+((1:Nat):Int))=((i+1:Nat):Int):=xd I I;rw[Fx];generalize hAe:(l.take i).flatMap pnc=A at *;generalize hBe:(l.drop i).flatMap pnc=Bq at *;rw[hcur,mo] at hcl;rw[hcur,mo];rw[nr,nr,hA,hBq] at hcl;by_cases hg:l.length+1<=cap
   ·have hne1:¬ cap=i:=I;have hne2:¬ cap=i+1:=I;have hne3:¬ cap=0:=I;have hR:2<=rest.length:=I;obtain⟨m1,m2,m3⟩:=zl7 (R:=rest) (X:=[Value.int .u64 y.1,Value.int .i64 y.2]) hA hBq hR;have m3':=m3 ((Bq++rest).take 2) (by rw[mw,nr];omega);have q1:((A++(Bq++rest)).drop (0+i*2)).take ((l.length-i)*2)=Bq:=by rw[znk];exact m1
    have q2:(A++(Bq++rest)).take (0+(i+1)*2)++(Bq++(A++(Bq++rest)).drop (0+(i+1)*2+(l.length-i)*2))=A++((Bq++rest).take 2++(Bq++rest.drop 2)):=by rw[znk,zof i 1 2];exact m2
    have q3:(A++((Bq++rest).take 2++(Bq++rest.drop 2))).take (0+i*2)++([Value.int .u64 y.1,Value.int .i64 y.2]++(A++((Bq++rest).take 2++(Bq++rest.drop 2))).drop (0+i*2+1*2))=A++([Value.int .u64 y.1,Value.int .i64 y.2]++(Bq++rest.drop 2)):=by rw[znk];exact m3'
    have q4:0+(i+1)*2+(l.length-i)*2<=(A++(Bq++rest)).length:=by rw[nr,nr];omega
    have q5:0+i*2+1*2<=(A++((Bq++rest).take 2++(Bq++rest.drop 2))).length:=by rw[nr,nr,nr,mw,nr];omega
    have q8:0<(A++(Bq++rest)).length:=by rw[nr,nr];omega
    have q6:Nat.min (l.length+1-i) (l.length+1-(i+1))=l.length-i:=by show min _ _=_;omega
    have q7:Nat.min 1 (l.length+1-i)=1:=by show min _ _=_;omega
    refine(Z4∘Zb∘Zf2) ?_;rw[nc hne1];refine(Zg∘ZS∘Zfb∘Zj∘Zx∘Zn∘Zo∘Zak∘Za1∘Zj∘ZD∘Zb∘Zn∘ZV∘Z7∘Zb∘ZF∘Za) ?_;refine z7 (Xw L Z Z Z Z) Z ((Zca∘ZO∘Zu∘ZF) ?_);refine z7 (gy L (kl:=.i64) (pl:=0) 0 (l.length+1) Z Z Z Z Z Z ⟨rfl,rfl⟩ I I) Z ?_;rw[nc hne3,show(0+0*2:Nat)=0 from Z,zpc,zpc];refine Zj (h:=?_);refine(Za2∘Zk∘Zu∘ZF) ?_;refine z7 (gy L (kh:=.i64) (ph:=0) (i+1) _ Z Z Z Z Z ⟨rfl,rfl⟩ Z I I) Z ?_;rw[nc hne2];refine y9 (Oz L (q:=900) Z Z Z zgv Z Z Z Z Z q8) ((Zw∘Zr) ?_);refine qp (id:=15) [(77,[900])] kj J (ZcJ (h:=?_));refine z9 (gy L (kh:=.i64) (ph:=0) (i+1) _ Z Z Z Z Z ⟨rfl,rfl⟩ Z I I) Z ?_;rw[nc hne2];refine Zt (h:=?_);refine z9 (gy L (kh:=.i64) (ph:=0) i _ Z Z Z Z Z ⟨rfl,rfl⟩ Z I I) Z ?_;rw[nc hne1];refine xx (Xu L (q:=900) (l.length-i) Z Z Z Z Z Z M5 q6 q1 hBq q4 hpB q2) Z Z ((Zbh∘Zaf∘Zb) ?_);refine z7 (gy L (kh:=.i64) (ph:=0) i _ Z Z Z Z Z ⟨rfl,rfl⟩ Z I I) Z ?_;rw[nc hne1];refine Zk (h:=?_);refine qh (G9 L (q:=900) 1 rfl Z Z Z (oq Z) Z M5 T q7 (nu 2) Z q5 Z q3) ((Zg∘ZaW∘Za∘Ze) ?_);refine da (s:=2) (xs:=A++([Value.int .u64 y.1,Value.int .i64 y.2]++Bq)) (rest:=rest.drop 2) 6 900 (by simp [mo]) Z Z (by simp only[nr,ma,m5];omega) hg hcm (by simp only[nr,ma,m5,m6];omega) ?_;exact Nm Z (fun _ _ h=>h) nq Z
   ·have hne1:¬ cap=i:=I;have hne3:¬ cap=0:=I;have hr0:rest=[]:=m8 I;subst hr0;have hcap:cap=l.length:=I;subst hcap;rw[mp];have hwk:IntKind.i64.wrap (((l.length+1:Nat):Int)-(i:Int))=((l.length+1-i:Nat):Int):=xd I I |>.trans I;have hxs:(A++Bq).take (i*2)=A:=(zfg hA Bq).1;have hxl:i*2<=(A++Bq).length:=by rw[nr];omega
    have hZ:=zfp (l.length+1-i);have hgt:l.length<i+(l.length+1-i):=I;refine(Z4∘Zb∘Zf2) ?_;rw[nc hne1];refine(Zg∘ZS∘Zfb∘Zj∘Zx∘Zn∘Zo∘Zak∘Za1∘Zj∘ZD∘Zb∘Zn∘ZV∘Z7∘Zb∘ZF∘Za) ?_;refine z7 (Xw L Z Z Z Z) Z ((ZJ∘Zr∘ZE∘Zb) ?_);refine z7 (gy L (kl:=.i64) (pl:=0) 0 i Z Z Z Z Z Z ⟨rfl,rfl⟩ I I) Z ?_;rw[nc hne3,show(0+0*2:Nat)=0 from Z,zpc,zpc];refine(Zb∘ZF∘Za∘Zat) ?_;refine y9 (Tt L (q:=900) (z:=zPn) (k:=l.length+1-i) (kn:=.i64) Z Z Z Z Z Z J M5 Z I hgt hxs hxl Z I I) (qh (yt (.inr Z) Z) (Zg (h:=?_)));rw[show(Builtin.zeroCells (Value.cells zPn) (l.length+1-i)).toList=zPs (l.length+1-i) from rfl];have hlt:i+(l.length+1-i)=l.length+1:=I;rw[hlt];refine El 9 901 rfl (fun hm _=>by omega) fun b2 cap2 rest2 hl2 hmc2 hcm2 hcl2=>?_;have hn1:¬ cap2=i:=I;have hn2:¬ cap2=i+1:=I;have hZ2:(zPs (l.length+1-i)).length=(l.length-i)*2+2:=I;obtain⟨m1,m2⟩:=zjt (R:=rest2) (X:=[Value.int .u64 y.1,Value.int .i64 y.2]) hA hBq hZ2 rfl;have q1:(A++zPs (l.length+1-i)++rest2).take (0+i*2)++([Value.int .u64 y.1,Value.int .i64 y.2]++(A++zPs (l.length+1-i)++rest2).drop (0+i*2+1*2))=A++([Value.int .u64 y.1,Value.int .i64 y.2]++((zPs (l.length+1-i)).drop 2++rest2)):=by rw[znk];exact m1
    have q2:(A++([Value.int .u64 y.1,Value.int .i64 y.2]++((zPs (l.length+1-i)).drop 2++rest2))).take (0+(i+1)*2)++(Bq++(A++([Value.int .u64 y.1,Value.int .i64 y.2]++((zPs (l.length+1-i)).drop 2++rest2))).drop (0+(i+1)*2+(l.length-i)*2))=A++([Value.int .u64 y.1,Value.int .i64 y.2]++(Bq++rest2)):=by rw[znk,zof i 1 2];exact m2
    have q3:0+i*2+1*2<=(A++zPs (l.length+1-i)++rest2).length:=by rw[nr,nr];omega
    have q4:0+(i+1)*2+(l.length-i)*2<=(A++([Value.int .u64 y.1,Value.int .i64 y.2]++((zPs (l.length+1-i)).drop 2++rest2))).length:=by simp only[nr,ma,m5,m6];omega
    have q5:Nat.min 1 (l.length+1-i)=1:=by show min _ _=_;omega
    have q6:Nat.min (l.length-i) (l.length+1-(i+1))=l.length-i:=by show min _ _=_;omega
    have q7:((A++Bq).drop (i*2)).take ((l.length-i)*2)=Bq:=by rw[(zfg hA Bq).2,znl I]
    have q8:Bq.take ((l.length-i)*2)=Bq:=znl I;have q9:(l.length-i)*2<=Bq.length:=I;refine Zci (h:=?_);refine z7 (gy L (kh:=.i64) (ph:=0) i _ Z Z Z Z Z ⟨rfl,rfl⟩ Z I I) Z ?_;rw[nc hn1];refine Zk (h:=?_);refine qh (G9 L (q:=901) 1 rfl Z Z Z (oq Z) Z M5 T q5 (nu 2) Z q3 Z q1) (Zg (h:=?_));refine da (s:=2) (xs:=A++Bq) (rest:=[]) 0 900 (mp _).symm Z Z (by rw[<-hcur];exact hl) (nu _) hcm (by rw[<-hcur];exact hl) ?_;refine fj 0 rfl (qp (id:=11) [(54,[901])] kj J (ZcJ (h:=?_)));refine z9 (gy L (kh:=.i64) (ph:=0) (i+1) _ Z Z Z Z Z ⟨rfl,rfl⟩ Z I I) Z ?_;rw[nc hn2];refine Zew (h:=?_);refine z9 (wa L (kh:=.i64) (ph:=0) (km:=.i64) (pm:=0) i l.length false Z Z Z Z Z ⟨rfl,rfl⟩ ⟨rfl,rfl⟩ (fun h=>by cases h) I I q7) Z ?_;refine xx (G9 L (q:=901) (l.length-i) Z Z Z Z (Nj Z) Z M5 I q6 q9 q8 q4 hpB q2) Z Z (Zbh (h:=?_));refine da (s:=2) (xs:=A++([Value.int .u64 y.1,Value.int .i64 y.2]++Bq)) (rest:=rest2) 9 901 (by simp [mo]) Z Z (by simp only[nr,ma,m5];omega) hmc2 hcm2 (by simp only[nr,ma,m5] at hcl2 |-;omega) ?_;refine ZW (h:=?_);refine qh (yt (.inl Z) Z) (qh (yt (.inr Z) Z) (Zp (h:=?_)));exact Nm Z (fun _ _ h=>h) nq Z
end Go.V.L10
section
open Go.V
attribute [local irreducible] Has N Par Ret RetL RetO RetT RetX Src StepOK V VO X ky
namespace Go.V.L10
def zng(L0:List Int)(e:Int):Value->Heap->Prop:=fun v H=>∃ s,v=.tuple #[pnv s L0.length,.int .i64 e]/\PsV (ko L0) s H
def Gz(h:l[i]?=some x)(rest:List Value):l.flatMap pnc++rest=(l.take i).flatMap pnc++(pnc x++((l.drop (i+1)).flatMap pnc++rest)):=by
 have hi:=get_lt h
 have e:l=l.take i++x::l.drop (i+1):=by
  rw[show x::l.drop (i+1)=l.drop i by rw[zn0 hi,gk h],znn]
 conv=>lhs;rw[e,znw,znz]
 simp only[mo]
def zls{c:Int}(h:l[i]?=some (r,c))(rest:List Value):∃ t,(l.flatMap pnc++rest).drop (0+i*2+1)=.int .i64 c::t:=by
 rw[Gz h rest];have hl:((l.take i).flatMap pnc).length=i*2:=by rw[rp,mw,zos (Nat.le_of_lt (get_lt h))]
 refine⟨(l.drop (i+1)).flatMap pnc++rest,?_⟩;rw[zoo,znm I,mn,show 0+i*2+1-((l.take i).flatMap pnc).length=1 by omega];rfl
def zjb{c:Int}(h:l[i]?=some (r,c))(c':Int)(rest:List Value):(l.flatMap pnc++rest).take (0+i*2+1)++([Value.int .i64 c']++(l.flatMap pnc++rest).drop (0+i*2+1+1))=(l.set i (r,c')).flatMap pnc++rest:=by
 have hi:=get_lt h;have hl:((l.take i).flatMap pnc).length=i*2:=by rw[rp,mw,zos (Nat.le_of_lt hi)]
 have hs:(l.set i (r,c'))[i]?=some (r,c'):=by rw[zrh hi]
 rw[Gz h rest,Gz hs rest,zrg (nu _),zri (zqz i)];generalize (l.take i).flatMap pnc=A at hl |-;generalize (l.drop (i+1)).flatMap pnc++rest=zru
 subst_vars
 have e1:(A++(pnc (r,c)++zru)).take (0+i*2+1)=A++[Value.int .u64 r]:=by
  rw[zpj,znl I,show 0+i*2+1-A.length=1 by omega];rfl
 have e2:(A++(pnc (r,c)++zru)).drop (0+i*2+1+1)=zru:=by
  rw[zoo,znm I,mn,show 0+i*2+1+1-A.length=2 by omega];rfl
 rw[e1,e2];simp [pnc]
def zjc(h:i<l.length)(rest:List Value):Nat.ble (0+i*2+1+1) (l.flatMap pnc++rest).length=true:=zpw (by rw[nr,rp];omega)
def zho(hi:i<=l.length):(Pi l i x)[i]?=some x:=by
 unfold Pi;rw[List.getElem?_append_right (by rw[List.length_take];omega),List.length_take,Nat.min_eq_left hi,Nat.sub_self];rfl
def zdp{y:Int×Int}(hi:i<=l.length):(Pi l i x).set i y=Pi l i y:=by
 unfold Pi;rw[List.set_append_right _ _ (by rw[List.length_take];omega),List.length_take,Nat.min_eq_left hi,Nat.sub_self];rfl
def ze4(r:Int):Kr cP r (jl L0)<=(ko L0).length:=by rw[gx];exact Xd r _
open Go.V.L2 Go.V.L8 Go.V.L6
def _root_.Zcf(t:Wr Y->A:=by intro h;refine z7 (qg L (vs:=[_,_,_,_]) (qy Z) Z Z Z Z ⟨_,rfl⟩) Z ?_;exact h.1)(h:Y):A:=t ⟨h⟩
def _root_.Ze0(t:Wr Y->A:=by intro h;refine vk 900 901 rfl Z (xm _) ?_;exact h.1)(h:Y):A:=t ⟨h⟩
abbrev tyS:TypeId:=205
abbrev Ent:=List (Int×(List U×Value))
abbrev vcE(p:List U×Value):Value:=p.2
abbrev stc(n m:Nat)(s:Value)(t:Nat):List Value:=[.int .u64 n,.map (some m),s,.int .i64 t]
abbrev StO(b n m:Nat)(s:Value)(t:Nat)(es:Ent):GR:=bw (xe b (stc n m s t) tyS) (zlj m .u64 vcE es)
def Gl(b n m:Nat)(s:Value)(t:Nat)(es:Ent):(StO b n m s t es).res=ov (xn b (stc n m s t) tyS) (F8 m .u64 vcE es):=rfl
def EsV(es:Ent)(H:Heap):Prop:=∀ e∈es,SetV e.2.1 e.2.2 H
def EsV.le{es:Ent}{H H':Heap}(h:EsV es H)(hle:H.Le H'):EsV es H':=fun e he=>(h e he).le hle
def Fu:∀ v H u C,(xn b cs ty).P v H u C->joinH H u C b=some (.cells cs.toArray ty):=fun _ _ _ _ ⟨hb,hC⟩=>(iq ((hC b).2 rfl)).trans hb
def zr_run(L:Tabs P){e:TypeId}(hz:L.zr e=some z)(w:World):(zeroValue e).run P w=.ok z w:=by
 have h:=Tabs.zr_spec hz;unfold zrI at h;split at h
 ·rename_i it hit;simp [zeroValue,typeInfo,hit,h]
 ·cases h
abbrev zm0:TypeId:=203
abbrev tySt:TypeId:=91
def mpS:zrz.underlying zm0=some (.map N3 tySt):=J
def kyS:zrz.underlying N3=some (.int .u64):=J
def zrS(w:World):(zeroValue tySt).run zrz w=.ok nilSet w:=zr_run L rfl w
attribute [local irreducible] RetY
def none_ret(hn:n≠0)(hb:B b=some (.cells (Value.int .u64 n::rest).toArray tyS))(hB:zry B w):
  Ret zrz 111 [.pointer (some ⟨b,0,none⟩)] w B (fun v _=>v=.bool false):=by
 refine yo Tryz.func111 Z Tryz.ntmps111 (np Z) hB ((Z4∘Za) ?_);refine z7 (u9 Z Z Z Z zl5 Z) Z ((Zb∘Zaa∘Zbt∘Zn∘Zi∘Ze) ?_);exact yl2 L [.tmp 2]
def Tw(hn:n≠0)(hb:B b=some (.cells (Value.int .u64 n::rest).toArray tyS))(hB:zry B w):
  Ret zrz 93 [.pointer (some ⟨b,0,none⟩)] w B (fun v _=>v=.int .u64 n):=by
 refine yo Tryz.func93 Z Tryz.ntmps93 (np Z) hB (ZbX (h:=?_));refine z71 L Z (fun u H hH hle=>none_ret hn (hle _ _ hb) hH) ?_;refine(Zo∘Zx∘Zaa∘Zbt∘Ze) ?_;exact yl2 L [.tmp 2]
def pins_ret(hs:∃ p k c,s=.slice p k c)(hn:n≠0)(hb:B b=some (.cells (stc n m s t).toArray tyS))(hB:zry B w):
  Ret zrz 43 [.pointer (some ⟨b,0,none⟩)] w B (fun v _=>v=pnv s t):=by
 obtain⟨p,k,c,rfl⟩:=hs;refine yo Tryz.func43 Z Tryz.ntmps43 (np Z) hB ((ZQ∘Zam∘Z9∘Za) ?_);refine z71 L Z (fun u H hH hle=>none_ret hn (hle _ _ hb) hH) ?_;refine(Zo∘Zx∘Zaa) ?_;refine z7 (qg L (vs:=[_,_]) (qw Z E) Z Z Z Z ⟨_,rfl⟩) Z (Zab (h:=?_));refine yl1 L [.cell 2 112] fun u H hH hle=>?_;exact⟨_,qy Z,rfl,rfl⟩
def Li{S:Sto}{es:Ent}(hm:MapOK es S.R)(hn:S.R.length≠0)(hes:EsV es B)(hB:zry B w)(hr:(StO b S.R.length m s t es).P B w C)(hC:ZCB C w B):
  RetY zrz 87 [.pointer (some ⟨b,0,none⟩),.int .u64 r] w B C (StO b S.R.length m s t es) (WithP (atS S r).1 (atS S r).2):=by
 unfold RetY;refine xh 900 (StO b S.R.length m s t es) Tryz.func87 Z Tryz.ntmps87 (np Z) hB hr hC ?_;rw[Gl];refine v8 900 901 rfl (xm _) ?_;obtain⟨k,hk⟩:∃ k,k=if r=0 then (S.R.length:Int) else r:=⟨_,rfl⟩
 have hat:atS S r=match kpt S.R k with | some t=>(t,0) | none=>([],14):=by rw[hk];rfl
 have hg:=hm.get k;by_cases hr0:r=0
 ·rw[na hr0] at hk;subst hr0;subst hk
  cases hgk:dy (S.R.length:Int) es with
  | none=>
   rw[hgk] at hg;rw[hat,<-hg];have q1:(dy (S.R.length:Int) es).elim nilSet vcE=nilSet:=by rw[hgk];rfl
   have q2:(dy (S.R.length:Int) es).isSome=false:=by rw[hgk];rfl
   refine(ZQ∘ZaO) ?_;refine y9 (wk L 900 (Φ:=fun H=>H b=some (.cells (stc S.R.length m s t).toArray tyS)) (c:=.bool false) Z Z (zp Z) Z Z Z Z Z Fu (fun u H hH hle hb=>none_ret hn hb hH)) ((ZV∘Zx∘Zv∘Z3∘Zcy∘ZbS∘Zai∘Za) ?_);refine y9 (l6 (q:=901) (vc:=vcE) (S.R.length:Int) mpS kyS zrS Z Z Z Z Z q1 q2) ((Zcp∘Zj∘ZL∘Zw∘Zr∘ZU∘Zd1∘ZaV) ?_);refine Ze0 (h:=?_);exact Bc L 900 (r:=StO b S.R.length m s t es) (rs:=[.cell 4 91,.tmp 5]) Z (fun _ _ h=>h) nq Z Z (fun H hle=>⟨_,qy Z,rfl,_,rfl,SetV.nil⟩)
  | some x=>
   obtain⟨l,sv⟩:=x;rw[hgk] at hg;rw[hat,<-hg];have hx:SetV l sv B:=hes _ (r8 hgk);obtain⟨f1,p1,f2,p2,rfl,hpl⟩:=hx.shape;have q1:(dy (S.R.length:Int) es).elim nilSet vcE=.agg #[f1,.pointer p1,f2,.pointer p2]:=by rw[hgk];rfl
   have q2:(dy (S.R.length:Int) es).isSome=true:=by rw[hgk];rfl
   refine(ZQ∘ZaO) ?_;refine y9 (wk L 900 (Φ:=fun H=>H b=some (.cells (stc S.R.length m s t).toArray tyS)) (c:=.bool false) Z Z (zp Z) Z Z Z Z Z Fu (fun u H hH hle hb=>none_ret hn hb hH)) ((ZV∘Zx∘Zv∘Z3∘Zcy∘ZbS∘Zai∘Za) ?_);refine y9 (l6 (q:=901) (vc:=vcE) (S.R.length:Int) mpS kyS zrS Z Z Z Z Z q1 q2) ((ZH∘ZC∘ZcO∘Zj∘ZL∘Zw∘Zo∘Z7∘Zcf∘ZcO∘Ze) ?_);refine Ze0 (h:=?_);exact Bc L 900 (r:=StO b S.R.length m s t es) (rs:=[.cell 4 91,.tmp 5]) Z (fun _ _ h=>h) nq Z Z (fun H hle=>⟨_,qy Z,rfl,_,rfl,hx.le hle⟩)
 ·rw[nc hr0] at hk;subst hk
  cases hgk:dy k es with
  | none=>
   rw[hgk] at hg;rw[hat,<-hg];have q1:(dy k es).elim nilSet vcE=nilSet:=by rw[hgk];rfl
   have q2:(dy k es).isSome=false:=by rw[hgk];rfl
   refine(ZQ∘ZaO) ?_;refine y9 (wk L 900 (Φ:=fun H=>H b=some (.cells (stc S.R.length m s t).toArray tyS)) (c:=.bool false) Z Z (zp Z) Z Z Z Z Z Fu (fun u H hH hle hb=>none_ret hn hb hH)) ((ZV∘Zx∘Zn∘Zo∘Zak∘Zai∘Za) ?_);refine y9 (l6 (q:=901) (vc:=vcE) k mpS kyS zrS Z Z Z Z Z q1 q2) ((Zcp∘Zj∘ZL∘Zw∘Zr∘ZU∘Zd1∘ZaV) ?_);refine Ze0 (h:=?_);exact Bc L 900 (r:=StO b S.R.length m s t es) (rs:=[.cell 4 91,.tmp 5]) Z (fun _ _ h=>h) nq Z Z (fun H hle=>⟨_,qy Z,rfl,_,rfl,SetV.nil⟩)
  | some x=>
   obtain⟨l,sv⟩:=x;rw[hgk] at hg;rw[hat,<-hg];have hx:SetV l sv B:=hes _ (r8 hgk);obtain⟨f1,p1,f2,p2,rfl,hpl⟩:=hx.shape;have q1:(dy k es).elim nilSet vcE=.agg #[f1,.pointer p1,f2,.pointer p2]:=by rw[hgk];rfl
   have q2:(dy k es).isSome=true:=by rw[hgk];rfl
   refine(ZQ∘ZaO) ?_;refine y9 (wk L 900 (Φ:=fun H=>H b=some (.cells (stc S.R.length m s t).toArray tyS)) (c:=.bool false) Z Z (zp Z) Z Z Z Z Z Fu (fun u H hH hle hb=>none_ret hn hb hH)) ((ZV∘Zx∘Zn∘Zo∘Zak∘Zai∘Za) ?_);refine y9 (l6 (q:=901) (vc:=vcE) k mpS kyS zrS Z Z Z Z Z q1 q2) ((ZH∘ZC∘ZcO∘Zj∘ZL∘Zw∘Zo∘Z7∘Zcf∘ZcO∘Ze) ?_);refine Ze0 (h:=?_);exact Bc L 900 (r:=StO b S.R.length m s t es) (rs:=[.cell 4 91,.tmp 5]) Z (fun _ _ h=>h) nq Z Z (fun H hle=>⟨_,qy Z,rfl,_,rfl,hx.le hle⟩)
end Go.V.L10
namespace Go.V.L11
open Go.V.L4
def _root_.Zem(t:Wr Y->A:=by intro h;refine z9 (ql L (yu Z (List.Mem.head _)) Z Z Z Z) Z ?_;exact h.1)(h:Y):A:=t ⟨h⟩
def zwr(w:World):(zeroValue zmm).run zrz w=.ok (.agg #[.int .i64 0,.int .i64 0]) w:=L10.zr_run L rfl w
attribute [local irreducible] XP RetY Pan
def Uj{a e:Int}(hB:zry B w):Ret zrz 71 [wrV a e] w B (fun v _=>v=.tuple #[.int .i64 a,.int .i64 e]):=by
 refine yo Tryz.func71 Z Tryz.ntmps71 (np Z) hB ((Zbj∘ZaO) ?_);refine z7 (Tq Z Z Z J) Z ((Zcp∘Zc) ?_);refine bu 4 rfl fun b4 _=>?_;refine(Zq∘Zr∘Zc0∘Zal∘Zem∘Zal∘Zem∘Zah∘Zav) ?_;exact yl2 L [.tmp 2,.tmp 3]
def Pw(hB:zry B w):Ret zrz 71 [.nilIface] w B (fun v _=>v=.tuple #[.int .i64 0,.int .i64 0]):=by
 refine yo Tryz.func71 Z Tryz.ntmps71 (np Z) hB ((Zbj∘ZaO) ?_);refine z7 (Ts Z Z Z J zwr) Z ((Zcp∘ZbT∘Zo∘Zs∘ZA) ?_);exact yl2 L [.tmp 2,.tmp 3]
abbrev zbv:TypeId:=3
abbrev Nq:TypeId:=43
abbrev tyPS:TypeId:=71
abbrev G3(ba be bs:Nat)(x y z:Value):GR:=bw (xe ba [x] zbv) (bw (xe be [y] Nq) (xe bs [z] tyPS))
attribute [local irreducible] ay
def Mp{ba be bs:Nat}{x y:Value}{a e:Int}{m m':FrameMode}(hm:RecM m m' v)(hcv:∀ (u:World) (H:Heap),zry H u->Ret zrz 71 [v] u H (fun r _=>r=.tuple #[.int .i64 a,.int .i64 e]))(hB:zry B w)(hr:(G3 ba be bs x y z).P B w C)(hC:ZCB C w B):
  ay zrz 70 [kg ba,kg be,kg bs] w B C m m' (G3 ba be bs (.int .i64 a) (.int .i64 e) (if e=0 then z else .pointer none)):=by
 refine zep 900 (G3 ba be bs x y z) _ hm Tryz.func70 Z Tryz.ntmps70 (np Z) Z Z Z Z hB hr hC ?_;refine U2 (r1:=xn ba [x] zbv) (r2:=(bw (xe be [y] Nq) (xe bs [z] tyPS)).res) 900 901 rfl (xm _) ?_;refine U2 (r1:=xn be [y] Nq) (r2:=xn bs [z] tyPS) 901 902 rfl (cc _ _ _) ?_;refine z71 L Z (fun u H hH _=>hcv u H hH) ?_;refine ZH (h:=?_);refine xg (yj L (q:=900) (cs':=[.int .i64 a]) Z Z Z Z Z) (xg (yj L (q:=901) (cs':=[.int .i64 e]) Z Z Z Z Z) (Zac (h:=?_)));refine ZbA (h:=?_);by_cases he:e=0
 ·rw[na he];refine(Zf∘Z9∘ZdU∘Za7∘Zas) ?_;refine ou 901 902 rfl Z (cc _ _ _) ?_;refine ou 900 901 rfl Z (xm (bw (xe be [.int .i64 e] Nq) (xe bs [z] tyPS))) ?_;exact zbh L 900 (r:=G3 ba be bs (.int .i64 a) (.int .i64 e) z) Z Z Z nq
 ·rw[nc he];refine(Zf∘Z9∘ZdU∘Zc8∘Z3∘ZS) ?_;refine xg (yj L (q:=902) (cs':=[.pointer none]) Z Z Z Z Z) (Zac (h:=?_));refine ou 901 902 rfl Z (cc _ _ _) ?_;refine ou 900 901 rfl Z (xm (bw (xe be [.int .i64 e] Nq) (xe bs [.pointer none] tyPS))) ?_;exact zbh L 900 (r:=G3 ba be bs (.int .i64 a) (.int .i64 e) (.pointer none)) Z Z Z nq
end Go.V.L11
namespace Go.V.L11
open Go.V.L4
def a8(l:List (Nat×Kn))(hl:LiveOK l κ)(h:XP F B n O (ofL l) pv Q):XP F B n O κ pv Q:=fun a u hh=>h a u (hh.live hl)
def zhc{fn:Func}{R R':Ending->World->Prop}(h:LV P F B n O κ fn R)(hm:∀ e u,R e u->R' e u):LV P F B n O κ fn R':=fun a u hh=>let ⟨v,h1,h2⟩:=h a u hh;⟨v,h1,hm _ _ h2⟩
attribute [local irreducible] XP LV RetY Pan ay
abbrev FLd(w:World)(ba be bs:Nat):Fr:=⟨w,none,[.u (dfd 70 [kg ba,kg be,kg bs])],noL⟩
abbrev KLd(ba be bs:Nat)(x y z:Value):List (Nat×Kn):=[(2,.is (kg bs)),(3,.is (kg ba)),(4,.is (kg be)),(910,.own (xn bs [z] tyPS)),(911,.own (xn ba [x] zbv)),(912,.own (xn be [y] Nq))]
def Yt{ba be bs:Nat}{x y:Value}{a e:Int}(he:e≠0)(hs:Since (FLd w ba be bs) B0 B){R:Ending->World->Prop}(hR:∀ r u,lh w B0 noL (fun v _ _=>v=.tuple #[.pointer none,.int .i64 a,.int .i64 e]) r u->R r u):
  XP (FLd w ba be bs) B n O (ofL (KLd ba be bs x y z)) (wrV a e) (bodyPostM Fence.wide 0 zrz Tryz.f26 R):=by
 refine P7 912 910 rfl Z (cc _ _ _) ?_;refine P7 911 912 rfl Z (xm (bw (xe be [y] Nq) (xe bs [z] tyPS))) ?_;refine zfq L 911 (r:=G3 ba be bs x y z) (r':=G3 ba be bs (.int .i64 a) (.int .i64 e) (if e=0 then z else .pointer none)) Z Z Z (fun u H C hH _ hr hC=>Mp (RecM.caught _) (fun u H hH=>Uj hH) hH hr hC) ?_ (fun _ _ h=>h);rw[nc he];refine Hi (r1:=xn ba [.int .i64 a] zbv) (r2:=(bw (xe be [.int .i64 e] Nq) (xe bs [.pointer none] tyPS)).res) 911 912 rfl (xm _) ?_;refine Hi (r1:=xn be [.int .i64 e] Nq) (r2:=xn bs [.pointer none] tyPS) 912 910 rfl (cc _ _ _) ?_;refine l8 3 911 rfl Z (l8 4 912 rfl Z (l8 2 910 rfl Z (zhc (R:=lh w B0 noL (fun v _ _=>v=.tuple #[.pointer none,.int .i64 a,.int .i64 e])) ?_ hR)));exact zjy L (rs:=[.cell 2 tyPS,.cell 3 zbv,.cell 4 Nq]) Z hs (fun u H _ _=>je (qy Z) Z (je (qy Z) Z (je (qy Z) Z Z)))
end Go.V.L11
end
namespace Go.V
def zfr(ops:Array Oper)(K:Nat):Bool:=
 let b:=Region.before ops
 (List.range ops.size).all fun i=>Nat.ble i K || (b.getD i 0).testBit K
section sound
variable    {ex:Exs}
def Sc(P:Program)(St:Kap->Act->World->Prop)(ops:Array Oper)(ex:Exs)(r:Option Nat)(Q:Exit->Act->World->Prop)(K:Nat)(o:Oper)(κ:Kap):Prop:=
 ∀ κ' a u,(∀ t∈lks ops ex o,κ' t=κ t)->St κ' a u->∀ Kk,wpOpIn (FW r) 0 P ops Q K Kk a u
def E8{r:Option Nat}{Q:Exit->Act->World->Prop}{K:Nat}{o:Oper}:∀ (l:List Nat) {κ:Kap},(∀ j∈l,∀ x,ops[j]?=some x->Mm (tch ex x) (lks ops ex o)=true)->
  ParI P St ops ex (Sc P St ops ex r Q K o) l κ->Sc P St ops ex r Q K o κ
 | [],κ,_,h=>h
 | j::l,κ,hap,⟨x,us,hx,hd,sx,rest⟩=>fun κ' a u hl hh=>by
  have h2:=ak (hap j (mc ..) x hx);exact E8 l (fun m hm=>hap m (me _ hm)) rest κ' a u (fun t ht=>(hl t ht).trans (vi us κ t fun p hp e=>h2 p.1 (hd p hp) (e ▸ ht)).symm) hh
def Uy{r:Option Nat}(hsep:zgh ops ex=true)(hw:zfr ops K=true)(hoK:ops[K]?=some o)(hK:K<ops.size):∀ (fuel:Nat) (listed:Array Bool) (l:List Nat) (κ:Kap) (a:Act) (u:World),
  l.length<fuel->l.Pairwise (·<·)->listed.size=ops.size->(∀ i,(i∈l\/(K<=i/\i<ops.size))↔i<ops.size/\listed.getD i true=false)->P6 ops listed->(∀ i∈l,i<K)->
  ParI P St ops ex (Sc P St ops ex r Q K o) l κ->St κ a u->wpAnyIn (FW r) 0 P .any ops Q fuel listed a u:=by
 intro fuel
 induction fuel with
 | zero=>intro listed l κ a u hlen;omega
 | succ fuel ih=>
  intro listed l κ a u hlen hsort hsz hmem hcl hlK hp hh;have hsep':=hsep;simp only[zgh,znr,zod] at hsep'
  have hedge:∀ i (hi:i<ops.size),∀ e∈(ops[i]'hi).after,Region.binds .any e=true->e.on<i:=fun i hi e he hb=>by
   have h1:=(hsep' i (by simpa using hi)).1;rw[znx,zn9 hi,Option.getD_some,Array.all_eq_true'] at h1;have:=h1 e he;simp [hb] at this;exact this
  have hlow:∀ j,j<ops.size->listed.getD j true=false->(∀ i∈l,j<=i)->j<=K->j∈Region.ready .any ops listed:=fun j hj hjl hmin hjK=>by
   refine mem_ready.2 ⟨hjl,ops[j],by simp [hj],fun e he hb=>?_⟩;have hlt:=hedge j hj e he hb;cases hle:listed.getD e.on true
   ·rcases(hmem e.on).2 ⟨by omega,hle⟩ with h | h
    ·have:=hmin _ h;omega
    ·omega
   ·rw[znx,zn9 I] at hle |-;simpa using hle
  have hKl:=((hmem K).1 (.inr ⟨nu _,hK⟩)).2;constructor
  ·intro hr;exfalso
   have:∃ j,j∈Region.ready .any ops listed:=by
    cases l with
    | nil=>exact⟨K,hlow K hK hKl (fun i hi=>by cases hi) (nu _)⟩
    | cons j0 l0=>
     obtain⟨h1,h2⟩:=(hmem j0).1 (.inl (mc ..));refine⟨j0,hlow j0 h1 h2 (fun i hi=>?_) (Nat.le_of_lt (hlK j0 (mc ..)))⟩;rcases nz.1 hi with rfl | hi
     ·exact nu _
     ·exact Nat.le_of_lt (List.rel_of_pairwise_cons hsort hi)
   obtain⟨j,hj⟩:=this;rw[hr] at hj;cases hj
  ·intro i hi;obtain⟨hli,oi,ho,hall⟩:=mem_ready.1 hi
   have hisz:i<ops.size:=by
    rcases zni i ops.size with h | h
    ·exact h
    ·rw[zo2 h] at ho;cases ho
   have hio:ops[i]=oi:=by rw[zn9 hisz] at ho;exact Option.some.inj ho
   have hwait:∀ j,j<ops.size->((Region.before ops).getD i 0).testBit j=true->listed.getD j true=false->False:=fun j hjs h2 hjl=>by
    have:=tg hsz hcl i hisz (fun e he hb=>by rw[hio] at he;exact hall e he hb) j h2;rw[znx,zn9 I] at this hjl;simp at this hjl;rw[this] at hjl;cases hjl
   have hapart:∀ j∈l,j<i->∀ x y,ops[j]?=some x->ops[i]?=some y->Bb ops ex x y=true:=fun j hj hji x y hx hy=>by
    obtain⟨hjs,hjl⟩:=(hmem j).1 (.inl hj);have h2:=(hsep' i (by simpa using hisz)).2 j (by simpa using hji);rw[zp3] at h2;rcases h2 with h2 | h2
    ·exact(hwait j hjs h2 hjl).elim
    ·rw[znx,znx,hx,hy] at h2;exact h2
   rcases(hmem i).2 ⟨hisz,hli⟩ with hil | ⟨hKi,_⟩
   ·obtain⟨l1,l3,rfl⟩:=zp5 hil
    have hap:∀ j∈l1,∀ x y,ops[j]?=some x->ops[i]?=some y->Bb ops ex x y=true:=fun j hj=>
     hapart j (zn2 _ hj) ((zoa.1 hsort).2.2 j hj i (mc ..))
    obtain⟨o',us,ho',hd,sx,rest⟩:=ParI.front l1 hap hp;obtain rfl:oi=o':=by rw[ho] at ho';exact Option.some.inj ho'
    have hst:=sx κ a u (fun _ _=>rfl) hh;refine After.wpOpIn ho ?_;refine After.mono (fun a' u' hh'=>?_) hst;have hli':i<listed.size:=I;have hiK:=hlK i hil;refine ih (listed.setIfInBounds i true) (l1++l3) _ a' u' (by simp at hlen |-;omega) ?_ (by simpa using hsz) ?_ ?_ (fun j hj=>hlK j (by rcases mt.1 hj with h | h;exact zn2 _ h;exact zog _ (me _ h))) rest hh'
    ·rw[zoa] at hsort |-;exact⟨hsort.1,(mi.1 hsort.2.1).2,fun x hx y hy=>hsort.2.2 x hx y (me _ hy)⟩
    ·intro j;rw[B8 true hli']
     have hnd:i∉l1++l3:=by
      rw[zoa] at hsort;intro hm;rcases mt.1 hm with hm | hm
      ·have:=hsort.2.2 i hm i (mc ..);omega
      ·have:=(mi.1 hsort.2.1).1 i hm;omega
     by_cases hij:i=j
     ·subst hij;simp [hnd];omega
     ·rw[nc hij,<-hmem j];simp only[mt,nz];constructor
      ·rintro((h | h) | h);exact .inl (.inl h);exact .inl (.inr (.inr h));exact .inr h
      ·rintro((h | h | h) | h);exact .inl (.inl h);exact ni h.symm hij;exact .inl (.inr h);exact .inr h
    ·intro k hk hkl e he hb;rw[B8 _ hli'] at hkl |-;by_cases hie:i=e.on
     ·rw[na hie]
     ·rw[nc hie];by_cases hik:i=k
      ·subst hik;rw[hio] at he;exact hall e he hb
      ·rw[nc hik] at hkl;exact hcl k hk hkl e he hb
   ·by_cases hKe:i=K
    ·subst hKe;obtain rfl:oi=o:=by rw[ho] at hoK;exact Option.some.inj hoK
     refine E8 l (fun j hj x hx=>?_) hp κ a u (fun _ _=>rfl) hh _;have:=hapart j hj (hlK j hj) x oi hx ho;simp only[Bb,zod] at this;exact this.1
    ·exfalso;simp only[zfr,znr,zp3] at hw;rcases hw i (by simpa using hisz) with h | h
     ·have:=np h;omega
     ·exact hwait K hK h hKl
end sound
section code
variable         {ex:Exs} 
def zlg(P:Program)(F:Fr)(B:Heap)(n:Nat)(O:Boxes)(ops:Array Oper)(ex:Exs)(K:Nat)(o:Oper)(κ:Kap)(os:List Oper)(Q:Exit->Act->World->Prop):Prop:=
 zij P (Has F B O n) ops ex (Sc P (Has F B O n) ops ex F.r Q K o) os κ
def F7{id:Nat}{l:List Oper}(K:Nat)(ex:Exs)(hm:P.follows .mixedOrders=true)(ho:l[K]?=some o)(hs:(zgh l.toArray ex && zfr l.toArray K)=true)
  (h:zlg P F B n O l.toArray ex K o κ (l.take K) Q):V P F B n O κ (.region id l.toArray true) Q:=fun a u hh=>by
 rw[zod] at hs
 have hK:K<l.length:=by
  rcases zni K l.length with h | h
  ·exact h
  ·rw[zn3 h] at ho;cases ho
 refine wpIn_region_any hm (Uy (St:=Has F B O n) (ex:=ex) (o:=o) hs.1 hs.2 (by simpa using ho) (by simpa using hK) l.toArray.size _ (List.range' 0 K) κ a _ (by simpa using hK) List.pairwise_lt_range' (by simp) ?_ ?_ (fun i hi=>by have:=List.mem_range'_1.1 hi;omega) ?_ hh.drew)
 ·intro i;constructor
  ·rintro(h | h)
   ·have:=List.mem_range'_1.1 h;refine⟨by simp;omega,?_⟩;have:i<l.length:=I;simp [this]
   ·have:i<l.length:=by simpa using h.2
    refine⟨h.2,?_⟩;simp [this]
  ·rintro⟨h,_⟩;by_cases hi:i<K
   ·exact .inl (List.mem_range'_1.2 ⟨mf _,by omega⟩)
   ·exact .inr ⟨by omega,h⟩
 ·intro k hk hkl;simp at hk;simp [hk] at hkl
 ·refine Fe K 0 (by simp;omega) ?_;rw[zn5];exact h
def j9{ok:Oper}{d:Nat}{k:Kn}(hs:StepOK P F B n ops O κ o d k)(hd:vd o=some d)(h:zlg P F B n O ops ex K ok (upd κ d k) os Q):zlg P F B n O ops ex K ok κ (o::os) Q:=
 ⟨[(d,k)],fun p hp=>by simp at hp;subst hp;simp [tch,hd],hs.stepG,h⟩
def rq(ll:List (Nat×Kn))(hin:(ll.all fun p=>(lks ops ex o).contains p.1)=true)(hl:LiveOK ll κ)(h:N F B n O (ofL ll) (QX P F ops K Q)):zlg P F B n O ops ex K o κ [] Q:=fun κ' a u hag hh Kk=>by
 have key:∀ l:List (Nat×Kn),(l.all fun p=>(lks ops ex o).contains p.1)=true->LiveOK l κ->LiveOK l κ':=by
  intro l
  induction l with
  | nil=>intro _ _;trivial
  | cons p l ih=>
   intro h1 h2;rw[List.all_cons,zod] at h1;exact⟨(hag p.1 (by simpa using h1.1)).trans h2.1,ih h1.2 h2.2⟩
 exact h a u (hh.live (key ll hin hl)) Kk
end code
end Go.V
namespace Go.V.L11
open Go.V.L4
def Qm{bs:List Nat}{fr:Int}(hb:∀ b∈bs,b<=255)(hl:bs.length<=1099511627776)(hat:R.at_<=bs.length)(hB:zry B w)(hs:BsV bs fu sv B)(hr:(ke sb rb sv fr R).P B w C)(hC:ZCB C w B):
  RetX zrz 76 [kg rb] w B C (ke sb rb sv fr (p9 bs R).2) (.int .u64 ((p9 bs R).1:Nat)):=
 RetL.mono (RetY.conv (RetY.frame (H6 hr) hC fun C1 h1 hC1=>(Oh hb hl hat hB hs h1 hC1).toY) fun _ _ _ h=>H6 h:RetY _ _ _ _ _ _ (ke sb rb sv fr (p9 bs R).2) fun x _=>x=.int .u64 ((p9 bs R).1:Nat)) fun _ _ _ _ h=>h
attribute [local irreducible] V N X VO Par XP LV StepOK Has Ret RetL RetO RetT ky RetX RetY Pan ay Src
open Go.V.L2 Go.V.L6 Go.V.L8
def jr{x:CH}(hfn:L.fn fr=some ())(he:R2.err=0){C:Nat->Prop}(hB:zry B w)(hr:(ke sb rb sv fr0 R).P B w C)(hC:ZCB C w B)(hf:∀ (u:World) (H:Heap) (C:Nat->Prop),zry H u->B.Le H->(ke sb rb sv R.at_ R).P H u C->(ZCB C u H)->RetX zrz fr (fst++cap) u H C (ke sb rb sv R.at_ R2) (chv x.1 x.2)):
  RetX zrz 146 [kg sb,.func (.func fr) fst.toArray cap.toArray] w B C (ke sb rb sv R.at_ R2) (chv x.1 x.2):=by
 unfold RetX;obtain⟨⟨⟨⟨x1,x2⟩,x3⟩,⟨⟨x4,x5⟩,x6⟩⟩,x7⟩:=x;refine xh 900 (ke sb rb sv fr0 R) Tryz.func146 Z Tryz.ntmps146 (np Z) hB hr hC ?_;rw[vu,xf,xf];refine Zd5 (h:=?_);refine(ZQ∘Zby∘ZbK) ?_;refine qh (yi L 901 (GRd rb sv R) (.int .i64 R.at_) (r:=GRd rb sv R) Z Z Z Z Z (fun u H C2 hH _ hr2 hC2=>L4.at_ret hH hr2 hC2)) (Zaa (h:=?_));refine xg (yj L (q:=900) (cs':=[kg rb,.int .i64 R.at_]) Z Z Z Z Z) (Zg (h:=?_));refine vk 900 901 rfl Z (xm (GRd rb sv R)) ?_;refine Zq (h:=?_);refine qh (jd L 900 (ke sb rb sv R.at_ R2) (chv (((x1,x2),x3),((x4,x5),x6)) x7) (r:=ke sb rb sv R.at_ R) Z Z Z hfn Z hf) (ZbF (h:=?_));refine v8 (r1:=(xe sb [kg rb,.int .i64 R.at_] Qe).res) (r2:=(GRd rb sv R2).res) 900 901 rfl (xm (GRd rb sv R2)) ?_;rw[xf];refine(Zx∘Zai) ?_;refine qh (yi L 901 (GRd rb sv R2) (.tuple #[.int .i64 R2.bad,.int .i64 R2.err]) (r:=GRd rb sv R2) Z Z Z Z Z (fun u H C2 hH _ hr2 hC2=>L4.fault_ret hH hr2 hC2)) ((ZbH∘ZB∘Zaw∘ZD∘Zdj∘Zab) ?_);refine vk 900 901 rfl Z (xm (GRd rb sv R2)) ?_;exact ka L 900 (r:=ke sb rb sv R.at_ R2) (rs:=[.cell 4 Nr]) Z (fun _ _ h=>h) nq Z Z (fun _=>⟨_,qy Z,rfl,rfl⟩)
def Oo{x:CH}(hfn:L.fn fr=some ())(he:R2.err≠0){C:Nat->Prop}(hB:zry B w)(hr:(ke sb rb sv fr0 R).P B w C)(hC:ZCB C w B)(hf:∀ (u:World) (H:Heap) (C:Nat->Prop),zry H u->B.Le H->(ke sb rb sv R.at_ R).P H u C->(ZCB C u H)->RetX zrz fr (fst++cap) u H C (ke sb rb sv R.at_ R2) (chv x.1 x.2)):
  Pan zrz 146 [kg sb,.func (.func fr) fst.toArray cap.toArray] w B C (wrV R2.bad R2.err):=by
 obtain⟨⟨⟨⟨x1,x2⟩,x3⟩,⟨⟨x4,x5⟩,x6⟩⟩,x7⟩:=x;refine f7 900 (ke sb rb sv fr0 R) Tryz.func146 Z Tryz.ntmps146 (np Z) hB hr hC ?_;rw[vu,xf,xf];refine Zd5 (h:=?_);refine(ZQ∘Zby∘ZbK) ?_;refine qh (yi L 901 (GRd rb sv R) (.int .i64 R.at_) (r:=GRd rb sv R) Z Z Z Z Z (fun u H C2 hH _ hr2 hC2=>L4.at_ret hH hr2 hC2)) (Zaa (h:=?_));refine xg (yj L (q:=900) (cs':=[kg rb,.int .i64 R.at_]) Z Z Z Z Z) (Zg (h:=?_));refine vk 900 901 rfl Z (xm (GRd rb sv R)) ?_;refine Zq (h:=?_);refine qh (jd L 900 (ke sb rb sv R.at_ R2) (chv (((x1,x2),x3),((x4,x5),x6)) x7) (r:=ke sb rb sv R.at_ R) Z Z Z hfn Z hf) (ZbF (h:=?_));refine v8 (r1:=(xe sb [kg rb,.int .i64 R.at_] Qe).res) (r2:=(GRd rb sv R2).res) 900 901 rfl (xm (GRd rb sv R2)) ?_;rw[xf];refine(Zx∘Zai) ?_;refine qh (yi L 901 (GRd rb sv R2) (.tuple #[.int .i64 R2.bad,.int .i64 R2.err]) (r:=GRd rb sv R2) Z Z Z Z Z (fun u H C2 hH _ hr2 hC2=>L4.fault_ret hH hr2 hC2)) ((ZbH∘ZB∘Zc8∘Z3) ?_);refine jw (id:=5) 4 rfl ((Zb∘ZeE∘ZeD∘Zac) ?_);refine Do (K:=4) Z Z Z ?_
 repeat (first | refine wl ?_ | refine jo ?_)
 exact db nq
abbrev tySt:TypeId:=91
def Yl(hr:r≠0){p:Option Addr}{c:Nat}{t:Int}(hB:zry B w):
  Ret zrz 77 [.agg #[.slice p k c,.int .i64 t],.int .u64 r,.int .i64 0] w B (fun v _=>v=.tuple #[.agg #[.slice p k c,.int .i64 t],.int .i64 0]):=by
 refine yo Tryz.func77 Z Tryz.ntmps77 (np Z) hB ((Z0∘ZC∘Zc∘Zae∘Z9∘Za∘Z6∘Zbx∘Zx∘Zn∘Zbx∘Zak∘Zv∘Zh∘Zr∘ZD∘Zd8∘ZaV) ?_);refine yl1 L [.cell 6 112,.tmp 7] fun u H hH hle=>?_;exact⟨_,qy Z,rfl,rfl⟩
def Gt(hB:zry B w):Ret zrz 32 [nilSet] w B (BsV [0] true):=by
 refine yo Tryz.func32 Z Tryz.ntmps32 (np Z) hB ((Z0∘ZaH∘ZC∘Zg) ?_);refine ku 3 900 rfl fun wb=>?_;refine Au 901 o3 1 (Ze7 (h:=?_));refine bq (X:=Value) 900 (r:=fun sv=>(GWv wb [] sv).res) (φ:=fun sv _=>Nu sv) pw (.slice none 0 0) ⟨_,_,_,rfl⟩ Z ((ZS∘Zde) ?_);refine z71 L Z (fun u H hH _=>f8 (l:=[]) (n:=0) Z hH SetV.nil) ?_;refine z7 (xw Z Z Z gj.1 gj.2 (wrap_u64 I I)) Z (qh (xc L 900 (GWr wb [0]) (r:=GWr wb []) Z Z Z Z Z (fun u H C hH _ hr hC=>by have h:=uc (n:=0) T T hH hr hC;rw[ga T] at h;exact h)) ?_);refine(Zam∘Zy∘Zde) ?_;refine z7 (xl (φ:=US [] true) L Z Z (zp Z) Z Z Z nw (fun u H hH _ _=>rc (l:=[]) T hH SetV.nil)) Z ((ZdE∘Zcm) ?_);refine xq (fun _:Nat=>[(12,.is (.int .i64 0)),(13,.is (.int .i64 0)),(3,.is (kg wb)),(900,.own (GWr wb [0]).res)]) (fun _=>True) (fun i=>i) 0 trivial ⟨Z,Z,Z,Z,nm⟩ ?_;rintro _ _;refine(Zf∘Zs∘ZbB∘Z7) ?_;refine qh (Dj L 900 GNo (BsV [0] true) (r:=GWr wb [0]) Z Z Z Z Z nw (fun u H C hH _ hr hC=>F0 (Ey T hH hr hC))) ((ZP∘Zp) ?_);exact yl L (rs:=[.tmp 2]) Z (fun _ _ h=>h) nq (fun _ H _ _ v hv=>hv)
def Yb:∀ (n:Nat),∀ b∈jg n,b<=255:=fun n=>by
 induction n using Nat.strongRecOn with
 | ind n ih=>
  intro b hb;by_cases h:n<128
  ·rw[ga h,mz] at hb;omega
  ·rw[ol h] at hb;rcases nz.1 hb with rfl | hb
   ·omega
   ·exact ih (n/128) I b hb
end Go.V.L11
namespace Go.V.L11
abbrev sNl:ByteArray:=⟨#[10]⟩
def Uu:List UInt8->List UInt8->List (List UInt8)
 | acc,[]=>if acc=[] then [] else [acc]
 | acc,c::l=>if c=10 then (acc++[c])::Uu [] l else Uu (acc++[c]) l
def Yu:∀ {l acc:List UInt8},10∉l->Uu acc l=if acc++l=[] then [] else [acc++l]
 | [],acc,_=>by rw[mp];rfl
 | c::l,acc,h=>by
  rw[nz,not_or] at h;show(if c=10 then _ else _)=_;rw[nc (Ne.symm h.1),Yu h.2,mo];rfl
def Q7:∀ {a b acc:List UInt8},10∉a->Uu acc (a++10::b)=(acc++a++[10])::Uu [] b
 | [],b,acc,_=>by rw[mp];exact na rfl
 | c::a,b,acc,h=>by
  rw[nz,not_or] at h;show(if c=10 then _ else _)=_;rw[nc (Ne.symm h.1)];refine(Q7 (a:=a) (b:=b) (acc:=acc++[c]) h.2).trans ?_;simp
def d6(s:ByteArray):List ByteArray:=(Uu [] s.data.toList).map fun l=>⟨l.toArray⟩
def Hm:d6 ⟨#[]⟩=[]:=rfl
def ba_of(s:ByteArray):(⟨s.data.toList.toArray⟩:ByteArray)=s:=by cases s;simp
def zhd{s:ByteArray}(h:noB s 10)(hn:s≠⟨#[]⟩):d6 s=[s]:=by
 unfold d6;rw[Yu h,mn,nc (fun e=>hn (vq e)),mq,znv,ba_of]
def zdf{a b:ByteArray}(h:noB a 10):d6 (a++sNl++b)=(a++sNl)::d6 b:=by
 unfold d6;have e:(a++sNl++b).data.toList=a.data.toList++10::b.data.toList:=by simp [k8]
 rw[e,Q7 h,mq,mn];congr 1
def M4(x:ByteArray):Option ByteArray:=if x.data.toList.getLast?=some 10 then some ⟨x.data.toList.dropLast.toArray⟩ else none
def Eb{x r:ByteArray}(h:M4 x=some r):x=r++sNl:=by
 unfold M4 at h;split at h
 ·rename_i hl;cases h;apply vq;rw[k8];obtain⟨ys,hy⟩:=zrl.1 hl;show x.data.toList=x.data.toList.dropLast.toArray.toList++[10];rw[hy];simp
 ·cases h
def a7{X:Type}(rd:ByteArray->X×Int):List X->Nat->List ByteArray->List X×Nat×Int
 | out,_,[]=>(out,0,0)
 | out,n,x::xs=>if 4096<n then ([],n,3) else match M4 x with
  | none=>([],n,5)
  | some r=>if (rd r).2≠0 then ([],n,(rd r).2) else a7 rd (out++[(rd r).1]) (n+1) xs
def Ff{X:Type}(rd:ByteArray->X×Int)(s:ByteArray):List X×Nat×Int:=if 1048576<s.size then ([],0,3) else a7 rd [] 1 (d6 s)
def Ba{X:Type}(rd:ByteArray->X×Int)(n:Nat)(x:ByteArray):Bool:=decide (4096<n) || match M4 x with | none=>true | some r=>(rd r).2 != 0
def w7{X:Type}(rd:ByteArray->X×Int):Nat->List ByteArray->Bool
 | _,[]=>true
 | n,x::xs=>!Ba rd n x && w7 rd (n+1) xs
def tx{X:Type}(rd:ByteArray->X×Int)(xs:List ByteArray):List X:=xs.filterMap fun x=>(M4 x).map fun r=>(rd r).1
def ei{X:Type}{rd:ByteArray->X×Int}:∀ {xs ys:List ByteArray} {out:List X} {n:Nat},w7 rd n xs=true->a7 rd out n (xs++ys)=a7 rd (out++tx rd xs) (n+xs.length) ys
 | [],ys,out,n,_=>by simp [tx]
 | x::xs,ys,out,n,h=>by
  unfold w7 at h;rw[zod] at h;obtain⟨h1,h2⟩:=h;unfold Ba at h1;simp only[zq4,Bool.or_eq_false_iff,decide_eq_false_iff_not] at h1;obtain⟨h3,h4⟩:=h1
  have e:a7 rd out n (x::xs++ys)=if 4096<n then ([],n,3) else match M4 x with
   | none=>([],n,5)
   | some r=>if (rd r).2≠0 then ([],n,(rd r).2) else a7 rd (out++[(rd r).1]) (n+1) (xs++ys):=rfl
  rw[e,nc h3]
  cases hx:M4 x with
  | none=>rw[hx] at h4;cases h4
  | some r=>
   rw[hx] at h4;have h5:¬ (rd r).2≠0:=by simpa using h4
   dsimp only;rw[nc h5,ei h2]
   have e2:tx rd (x::xs)=(rd r).1::tx rd xs:=by
    unfold tx;rw[List.filterMap_cons,hx];rfl
   rw[e2,mo,ma,show n+1+xs.length=n+(xs.length+1) by omega];rfl
def v6{X:Type}{rd:ByteArray->X×Int}:∀ {ls:List ByteArray} {n:Nat},w7 rd n (ls++[y])=(w7 rd n ls && !Ba rd (n+ls.length) y)
 | [],n=>by simp [w7]
 | x::ls,n=>by
  show(!Ba rd n x && w7 rd (n+1) (ls++[y]))=((!Ba rd n x && w7 rd (n+1) ls) && _);rw[v6,ma,show n+1+ls.length=n+(ls.length+1) by omega,Bool.and_assoc]
def Bh{X:Type}(rd:ByteArray->X×Int):Nat->List ByteArray->List X
 | _,[]=>[]
 | n,x::xs=>if Ba rd n x=true then [] else tx rd [x]++Bh rd (n+1) xs
def pj{X:Type}{rd:ByteArray->X×Int}{ys:List ByteArray}:∀ {ls:List ByteArray} {n:Nat},w7 rd n ls=true->Bh rd n (ls++ys)=tx rd ls++Bh rd (n+ls.length) ys
 | [],n,_=>by simp [tx]
 | x::ls,n,h=>by
  unfold w7 at h;rw[zod] at h;have h1:Ba rd n x=false:=by simpa using h.1
  show(if Ba rd n x=true then [] else tx rd [x]++Bh rd (n+1) (ls++ys))=_;rw[nc (by rw[h1];decide),pj h.2,ma,show n+1+ls.length=n+(ls.length+1) by omega,<-mo];congr 1;unfold tx;rw[<-List.filterMap_append];rfl
def Af{X:Type}{rd:ByteArray->X×Int}(h:w7 rd 1 ls=true):a7 rd [] 1 ls=(tx rd ls,0,0):=by
 have:=ei (rd:=rd) (xs:=ls) (ys:=[]) (out:=[]) h;rw[mp] at this;rw[this];rfl
def Ag{X:Type}{rd:ByteArray->X×Int}(h:w7 rd 1 ls=true):Bh rd 1 ls=tx rd ls:=by
 have:=pj (rd:=rd) (ys:=[]) h;rw[mp] at this;rw[this];exact mp _
def K2{X:Type}{rd:ByteArray->X×Int}{r:ByteArray}(h:M4 y=some r):tx rd (ls++[y])=tx rd ls++[(rd r).1]:=by
 unfold tx;rw[List.filterMap_append];congr 1;simp [h]
def Bo{X:Type}{rd:ByteArray->X×Int}:(tx rd ls).length<=ls.length:=List.length_filterMap_le ..
def Bv{X:Type}{rd:ByteArray->X×Int}(h:w7 rd 1 ls=true)(hn:4096<1+ls.length):a7 rd [] 1 (ls++y::ys)=([],1+ls.length,3):=by
 rw[ei h];exact na hn
def rt{X:Type}{rd:ByteArray->X×Int}(h:w7 rd 1 ls=true)(hn:¬ 4096<1+ls.length)(he:M4 y=none):a7 rd [] 1 (ls++y::ys)=([],1+ls.length,5):=by
 rw[ei h];unfold a7;rw[nc hn,he]
def Bw{X:Type}{rd:ByteArray->X×Int}{r:ByteArray}(h:w7 rd 1 ls=true)(hn:¬ 4096<1+ls.length)(he:M4 y=some r)(hr:(rd r).2≠0):a7 rd [] 1 (ls++y::ys)=([],1+ls.length,(rd r).2):=by
 rw[ei h];unfold a7;rw[nc hn,he];exact na hr
def zcv{X:Type}{rd:ByteArray->X×Int}(h:w7 rd 1 ls=true)(hb:Ba rd (1+ls.length) y=true):a7 rd [] 1 (ls++y::ys)=a7 rd [] 1 (ls++[y]):=by
 by_cases hn:4096<1+ls.length
 ·rw[Bv h hn,Bv h hn]
 ·cases he:M4 y with
  | none=>rw[rt h hn he,rt h hn he]
  | some r=>
   have hr:(rd r).2≠0:=by
    unfold Ba at hb;rw[he] at hb;simpa [hn] using hb
   rw[Bw h hn he hr,Bw h hn he hr]
def Dt:∀ {l acc x:List UInt8},x∈Uu acc l->x.length<=acc.length+l.length
 | [],acc,x,h=>by
  have h':x∈if acc=[] then ([]:List (List UInt8)) else [acc]:=h
  split at h'
  ·cases h'
  ·rw[mz] at h';subst h';simp
 | c::l,acc,x,h=>by
  have h':x∈if c=10 then (acc++[c])::Uu [] l else Uu (acc++[c]) l:=h
  rw[ma];split at h'
  ·rcases nz.1 h' with rfl | h2
   ·simp
   ·have:=Dt h2;simp at this;omega
  ·have:=Dt h';simp at this;omega
def Mt{s:ByteArray}(h:y∈d6 s):y.size<=s.size:=by
 unfold d6 at h;obtain⟨l,hl,rfl⟩:=m7.1 h;have:=Dt hl;rw[jj] at this;show l.toArray.size<=_;simpa using this
def G1{X:Type}{rd:ByteArray->X×Int}:∀ {xs:List ByteArray} {n:Nat} {out:List X},w7 rd n xs=false->(a7 rd out n xs).1=[]
 | [],_,_,h=>by cases h
 | x::xs,n,out,h=>by
  unfold w7 at h;unfold a7;by_cases hn:4096<n
  ·rw[na hn]
  ·rw[nc hn]
   cases he:M4 x with
   | none=>rfl
   | some r=>
    dsimp only;by_cases hr:(rd r).2≠0
    ·rw[na hr]
    ·rw[nc hr]
     have hb:Ba rd n x=false:=by
      unfold Ba;rw[he];simp at hr;simp [hn,hr]
     rw[hb] at h;exact G1 (by simpa using h)
end Go.V.L11
end
