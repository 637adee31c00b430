/- TopOrder returns true for every input, and leaves it as it was: no condition. -/
import Derived.Test.YtooecmiihjampaaGreatTopOrderM5
import Derived.ProofKit
import Derived.HandedShaped
import Derived.OpenShut
import Derived.Deep.Slices
import Derived.Test.YtooecmiihjampaaGreatRows
set_option linter.unusedVariables false
set_option linter.unusedSimpArgs false
set_option maxRecDepth 20000
set_option maxHeartbeats 8000000
set_option linter.defProp false
open Go.Proofs Go.RowKit
section
variable{bs rest:List Nat}{R:Go.V.L4.Rd}{c:Go.V.L8.CH}{a b fr i last n rb sb:Nat}{w:Go.World}{B H:Go.V.Heap}{C:Nat->Prop}{sv v:Go.Value}{cap fst vs:List Go.Value}{fu:Bool}{cs:List Go.V.L8.CH}{e fr0 r:Int}{l s t:List Go.V.L2.U}{L0 P:List Int}{zs:List (Int×List Go.V.L2.U)}{S:Go.V.L10.Sto}{φ1 φ2:Go.Value->Go.V.Heap->Prop}{g:Option (Nat×Bool)}{α:Type}{A Y:Prop}
section
open Go.V
attribute [local irreducible] Has N Par Ret RetL RetO RetT RetX RetY Src StepOK V VO X ki
namespace Go.V.L4
open Go.V.L2 Go.V.L3 Go.V.L6 Go.V.L8
def _root_.ZeE(t:Wr Y->A:=by intro h;refine z8 (yt (cs:=[_,_,_,_,_,_,_]) Z Z zj1 Z Z) Z ?_;exact h.1)(h:Y):A:=t ⟨h⟩
abbrev Kf:TypeId:=77
def bG(bs:List Nat)(R:Rd):Bool×Rd:=(decide ((ct bs 1 5 R).1=1),(ct bs 1 5 R).2)
def Ow(bs:List Nat):bw bs=ln (bG bs) false:=rfl
def zbd(h:R.at_<=bs.length):(bw bs R).2.at_<=bs.length:=c8 h (Mu (lim:=1) (e:=5) h)
def pz(bs:List Nat):Rd->CH×Rd:=ln (Dt (o0 bs) (bw bs)) ((n3,n3),false)
def Mh(h:R.at_<=bs.length):(pz bs R).2.at_<=bs.length:=c8 h (zbd (Rs h))
def za6{c:CH}(h:∀ s∈u6 c.1,s.size<=1000):(chgB c).length<=6061:=by
 have:=bg h;unfold chgB M3;rw[nr];have e:(u6 c.1).length=6:=rfl;rw[e] at this;simp only[zme];omega
def Rk{wb:Nat}{b:Bool}(hz:bs.length+2000<=1099511627776)(hB:zpg B w)(hr:(GWr wb bs).P B w C)(hC:ZCB C w B):
  ki zph 202 [xz wb,.bool b] w B C (GWr wb (bs++[if b=true then 1 else 0])):=by
 unfold ki;refine yr 900 (GWr wb bs) Tryz.func202 Z Tryz.ntmps202 (np Z) hB hr hC ?_
 cases b with
 | true=>
  refine(ZB∘Za∘ZD∘ZaZ) ?_;refine zy (yq L 900 (GWr wb (bs++[1])) (r:=GWr wb bs) Z Z Z Z Z (fun u H C hH _ hr hC=>by have h:=uh (n:=1) E T hH hr hC;rw[bo E] at h;exact h)) ?_;refine ZN (h:=?_);exact xo L 900 (r:=GWr wb (bs++[1])) Z (fun _ _ h=>h) nq Z Z
 | false=>
  refine(ZB∘Za∘ZZ∘Zo) ?_;refine zy (yq L 900 (GWr wb (bs++[0])) (r:=GWr wb bs) Z Z Z Z Z (fun u H C hH _ hr hC=>by have h:=uh (n:=0) E T hH hr hC;rw[bo E] at h;exact h)) ?_;refine ZN (h:=?_);exact xo L 900 (r:=GWr wb (bs++[0])) Z (fun _ _ h=>h) nq Z Z
def Xs{wb:Nat}{c:CH}(ht:∀ s∈u6 c.1,s.size<=1000)(hz:bs.length+20000<=1099511627776)(hB:zpg B w)(hr:(GWr wb bs).P B w C)(hC:ZCB C w B):
  ki zph 145 [xz wb,chv c.1 c.2] w B C (GWr wb (bs++chgB c)):=by
 obtain⟨⟨⟨⟨a,b⟩,d⟩,⟨⟨e,f⟩,g⟩⟩,k⟩:=c;have hl:=bg ht;have e6:(u6 (((a,b),d),((e,f),g))).length=6:=rfl;rw[e6] at hl;dsimp only at hl ht;have e0:bs++chgB ((((a,b),d),((e,f),g)),k)=(bs++M3 (((a,b),d),((e,f),g)))++[if k=true then 1 else 0]:=by unfold chgB;rw[List.append_assoc]
 rw[e0];unfold ki;refine yr 900 (GWr wb bs) Tryz.func145 Z Tryz.ntmps145 (np Z) hB hr hC ((Z7∘Zg∘ZaZ∘ZQ∘Zb6) ?_);refine zy (yq L 900 (GWr wb (bs++M3 (((a,b),d),((e,f),g)))) (r:=GWr wb bs) Z Z Z Z Z (fun u H C hH _ hr hC=>Xn ht T hH hr hC)) ((Zs∘Zo∘Zai) ?_);refine zy (yq L 900 (GWr wb (bs++M3 (((a,b),d),((e,f),g))++[if k=true then 1 else 0])) (r:=GWr wb (bs++M3 (((a,b),d),((e,f),g)))) Z Z Z Z Z (fun u H C hH _ hr hC=>Rk (by rw[List.length_append];unfold M3;omega) hH hr hC)) ?_;refine ZN (h:=?_);exact xo L 900 (r:=GWr wb (bs++M3 (((a,b),d),((e,f),g))++[if k=true then 1 else 0])) Z (fun _ _ h=>h) nq Z Z
def Ko{gf:Rd->Bool×Rd}(hfn:L.fn fr=some ()){C:Nat->Prop}(hB:zpg B w)(hr:(GRd rb sv R).P B w C)(hC:ZCB C w B)
  (hf:R.err=0->∀ (u:World) (H:Heap) (C:Nat->Prop),zpg H u->B.Le H->(GRd rb sv R).P H u C->(ZCB C u H)->RetX zph fr (fst++cap) u H C (GRd rb sv (gf R).2) (.bool (gf R).1)):
  RetX zph 283 [xz rb,.func (.func fr) fst.toArray cap.toArray] w B C (GRd rb sv (ln gf false R).2) (.bool (ln gf false R).1):=by
 unfold RetX;refine yr 900 (GRd rb sv R) Tryz.func283 Z Tryz.ntmps283 (np Z) hB hr hC ?_;rw[xa];obtain⟨⟨n,⟨at1,bad1,err1⟩⟩,hz⟩:∃ z,gf R=z:=⟨_,rfl⟩
 obtain⟨at_,bad,err⟩:=R;unfold ln;rw[hz] at hf |-;dsimp only at hf |-;by_cases h0:err≠0
 ·rw[na h0];refine(Z0∘Zi∘Zo) ?_;refine zy (y7 L 900 (GRd rb sv ⟨at_,bad,err⟩) (.bool true) (r:=GRd rb sv ⟨at_,bad,err⟩) Z Z Z Z Z (fun u H C2 hH _ hr2 hC2=>xy (nf h0) hH hr2 hC2)) ((Zu∘Zp∘Zc) ?_);exact xv L 900 (r:=yz rb _ ui) (rs:=[.tmp 4]) Z (fun _ _ h=>h) nq Z Z (fun _=>rfl)
 ·have he:err=0:=m4.1 h0;subst he;rw[nc h0];have hf:=hf rfl;by_cases h1:err1≠0
  ·rw[na h1];refine(Z0∘Zi∘Zo) ?_;refine zy (y7 L 900 (GRd rb sv ⟨at_,bad,0⟩) (.bool false) (r:=GRd rb sv ⟨at_,bad,0⟩) Z Z Z Z Z (fun u H C2 hH _ hr2 hC2=>xy (ng h0) hH hr2 hC2)) ((Zn∘ZbX∘Zbu) ?_);refine zy (kw L 900 (GRd rb sv ⟨at1,bad1,err1⟩) (.bool n) (r:=GRd rb sv ⟨at_,bad,0⟩) Z Z Z hfn Z hf) ((Zi∘ZL∘ZH∘ZaG∘ZbY∘ZY) ?_);refine xh (ye L (q:=900) (cs':=[sv,.int .i64 at_,.int .i64 bad1,.int .i64 err1]) Z Z Z Z Z) ((Zg∘Zbe∘Zc) ?_);exact xv L 900 (r:=yz rb _ ui) (rs:=[.tmp 4]) Z (fun _ _ h=>h) nq Z Z (fun _=>rfl)
  ·have he:err1=0:=m4.1 h1;subst he;rw[nc h1];refine(Z0∘Zi∘Zo) ?_;refine zy (y7 L 900 (GRd rb sv ⟨at_,bad,0⟩) (.bool false) (r:=GRd rb sv ⟨at_,bad,0⟩) Z Z Z Z Z (fun u H C2 hH _ hr2 hC2=>xy (ng h0) hH hr2 hC2)) ((Zn∘ZbX∘Zbu) ?_);refine zy (kw L 900 (GRd rb sv ⟨at1,bad1,0⟩) (.bool n) (r:=GRd rb sv ⟨at_,bad,0⟩) Z Z Z hfn Z hf) ((Zi∘ZL∘ZH∘Zb3∘Zau∘Zc) ?_);exact xv L 900 (r:=yz rb _ ui) (rs:=[.tmp 4]) Z (fun _ _ h=>h) nq Z Z (fun _=>rfl)
def Pf{gf:Rd->CH×Rd}(hfn:L.fn fr=some ()){C:Nat->Prop}(hB:zpg B w)(hr:(GRd rb sv R).P B w C)(hC:ZCB C w B)
  (hf:R.err=0->∀ (u:World) (H:Heap) (C:Nat->Prop),zpg H u->B.Le H->(GRd rb sv R).P H u C->(ZCB C u H)->RetX zph fr (fst++cap) u H C (GRd rb sv (gf R).2) (chv ((gf R).1).1 ((gf R).1).2)):
  RetX zph 257 [xz rb,.func (.func fr) fst.toArray cap.toArray] w B C (GRd rb sv (ln gf ((n3,n3),false) R).2) (chv ((ln gf ((n3,n3),false) R).1).1 ((ln gf ((n3,n3),false) R).1).2):=by
 unfold RetX;refine yr 900 (GRd rb sv R) Tryz.func257 Z Tryz.ntmps257 (np Z) hB hr hC ?_;rw[xa];obtain⟨⟨n,⟨at1,bad1,err1⟩⟩,hz⟩:∃ z,gf R=z:=⟨_,rfl⟩
 
 obtain⟨at_,bad,err⟩:=R;unfold ln;rw[hz] at hf |-;dsimp only at hf |-;by_cases h0:err≠0
 ·rw[na h0];refine(ZbN∘Z3∘ZbO∘Zo) ?_;refine zy (y7 L 900 (GRd rb sv ⟨at_,bad,err⟩) (.bool true) (r:=GRd rb sv ⟨at_,bad,err⟩) Z Z Z Z Z (fun u H C2 hH _ hr2 hC2=>xy (nf h0) hH hr2 hC2)) ((Zu∘ZI∘Zdr∘Zam) ?_);exact xv L 900 (r:=yz rb _ ui) (rs:=[.cell 4 Kf]) Z (fun _ _ h=>h) nq Z Z (fun _=>⟨_,qw Z,rfl,rfl⟩)
 ·have he:err=0:=m4.1 h0;subst he;rw[nc h0];have hf:=hf rfl;by_cases h1:err1≠0
  ·rw[na h1];refine(ZbN∘Z3∘ZbO∘Zo) ?_;refine zy (y7 L 900 (GRd rb sv ⟨at_,bad,0⟩) (.bool false) (r:=GRd rb sv ⟨at_,bad,0⟩) Z Z Z Z Z (fun u H C2 hH _ hr2 hC2=>xy (ng h0) hH hr2 hC2)) ((Zn∘ZbX∘Zbu) ?_);refine zy (kw L 900 (GRd rb sv ⟨at1,bad1,err1⟩) (chv (n).1 (n).2) (r:=GRd rb sv ⟨at_,bad,0⟩) Z Z Z hfn Z hf) ((ZbA∘ZL∘ZH∘ZaG∘ZbY∘ZY) ?_);refine xh (ye L (q:=900) (cs':=[sv,.int .i64 at_,.int .i64 bad1,.int .i64 err1]) Z Z Z Z Z) ((Zg∘ZC∘Zdr∘Zam) ?_);exact xv L 900 (r:=yz rb _ ui) (rs:=[.cell 4 Kf]) Z (fun _ _ h=>h) nq Z Z (fun _=>⟨_,qw Z,rfl,rfl⟩)
  ·have he:err1=0:=m4.1 h1;subst he;rw[nc h1];refine(ZbN∘Z3∘ZbO∘Zo) ?_;refine zy (y7 L 900 (GRd rb sv ⟨at_,bad,0⟩) (.bool false) (r:=GRd rb sv ⟨at_,bad,0⟩) Z Z Z Z Z (fun u H C2 hH _ hr2 hC2=>xy (ng h0) hH hr2 hC2)) ((Zn∘ZbX∘Zbu) ?_);refine zy (kw L 900 (GRd rb sv ⟨at1,bad1,0⟩) (chv (n).1 (n).2) (r:=GRd rb sv ⟨at_,bad,0⟩) Z Z Z hfn Z hf) ((ZbA∘ZL∘ZH∘Zb3∘Zat∘Zdr∘Zam) ?_);exact xv L 900 (r:=yz rb _ ui) (rs:=[.cell 4 Kf]) Z (fun _ _ h=>h) nq Z Z (fun _=>⟨_,qw Z,rfl,rfl⟩)
def Vz{b1:Nat}{bs:List Nat}(hb:∀ b∈bs,b<=255)(hl:bs.length<=1099511627776)(hat:R.at_<=bs.length)(hB:zpg B w)(hs:BsV bs fu sv B)(h1:B b1=some (.cells #[xz rb] Pg))(hr:(GRd rb sv R).P B w C)(hC:ZCB C w B):
  RetX zph 284 [xz b1] w B C (GRd rb sv (bG bs R).2) (.bool (bG bs R).1):=by
 unfold RetX;refine yr 900 (GRd rb _ R) Tryz.func284 Z Tryz.ntmps284 (np Z) hB hr hC ?_;rw[xa];unfold bG;generalize hz1:ct bs 1 5 R=z1;obtain⟨n,R1⟩:=z1;dsimp only;by_cases h1n:n=1
 ·rw[nf h1n];refine Z0 (h:=?_);refine z7 (qf L (qh Z h1) Z Z Z Z) Z (zy (y7 L 900 (GRd rb sv R1) (.int .u64 n) (r:=GRd rb sv R) Z Z Z Z Z (fun u H C2 hH hle hr2 hC2=>by have h:=oy (lim:=1) (e:=5) hb hl hat hH (hs.le hle) hr2 hC2;rw[hz1] at h;exact h)) ?_);refine(ZG∘Zc) ?_;exact xv L 900 (r:=yz rb _ ui) (rs:=[.tmp 1]) Z (fun _ _ h=>h) nq Z Z (fun _=>rfl)
 ·rw[ng h1n];refine Z0 (h:=?_);refine z7 (qf L (qh Z h1) Z Z Z Z) Z (zy (y7 L 900 (GRd rb sv R1) (.int .u64 n) (r:=GRd rb sv R) Z Z Z Z Z (fun u H C2 hH hle hr2 hC2=>by have h:=oy (lim:=1) (e:=5) hb hl hat hH (hs.le hle) hr2 hC2;rw[hz1] at h;exact h)) ?_);refine(Zq∘Zc) ?_;exact xv L 900 (r:=yz rb _ ui) (rs:=[.tmp 1]) Z (fun _ _ h=>h) nq Z Z (fun _=>rfl)
def zbc{bs:List Nat}(hb:∀ b∈bs,b<=255)(hl:bs.length<=1099511627776)(hat:R.at_<=bs.length)(hB:zpg B w)(hs:BsV bs fu sv B)(hr:(GRd rb sv R).P B w C)(hC:ZCB C w B):
  RetX zph 259 [xz rb] w B C (GRd rb sv (bw bs R).2) (.bool (bw bs R).1):=by
 unfold RetX;refine yr 900 (GRd rb _ R) Tryz.func259 Z Tryz.ntmps259 (np Z) hB hr hC ?_;rw[xa];refine(Zbf∘Zd) ?_;refine kz 1 901 rfl fun b1=>?_;refine j8 901 rfl fun H1 hs1 _ h1=>?_;have hs':=hs.le hs1.le;generalize hz:bw bs R=z;obtain⟨x,R1⟩:=z;dsimp only;refine Z3 (h:=?_);refine z7 (qf L (qh Z h1) Z Z Z Z) Z (Zav (h:=?_));refine zy (y7 L 900 (GRd rb sv R1) (.bool x) (r:=GRd rb sv R) Z Z Z Z Z (fun u H C2 hH hle hr2 hC2=>by have h:=Ko (gf:=bG bs) (fst:=[]) (cap:=[xz b1]) Z hH hr2 hC2 (fun _ u3 H3 C3 hH3 hle3 hr3 hC3=>Vz hb hl hat hH3 ((hs'.le hle).le hle3) ((hle.trans hle3) _ _ h1) hr3 hC3);rw[Ow] at hz;rw[hz] at h;exact h)) ?_;refine Zc (h:=?_);exact xv L 900 (r:=yz rb _ ui) (rs:=[.tmp 2]) Z (fun _ _ h=>h) hs1 Z Z (fun _=>rfl)
def za7{b1:Nat}{bs:List Nat}(hb:∀ b∈bs,b<=255)(hl:bs.length<=1099511627776)(hat:R.at_<=bs.length)(hB:zpg B w)(hs:BsV bs fu sv B)(h1:B b1=some (.cells #[xz rb] Pg))(hr:(GRd rb sv R).P B w C)(hC:ZCB C w B):
  RetX zph 258 [xz b1] w B C (GRd rb sv (Dt (o0 bs) (bw bs) R).2) (chv ((o0 bs R).1) ((bw bs (o0 bs R).2).1)):=by
 unfold RetX;refine yr 900 (GRd rb _ R) Tryz.func258 Z Tryz.ntmps258 (np Z) hB hr hC ?_;rw[xa];have hat2:=Rs hat;unfold Dt;dsimp only;generalize hz1:o0 bs R=z1 at hat2;obtain⟨x,R1⟩:=z1;dsimp only at hat2 |-;generalize hz2:bw bs R1=z2;obtain⟨y,R2⟩:=z2;dsimp only;refine(ZbN∘ZeD) ?_;refine z8 (qf L (qh Z h1) Z Z Z Z) Z (xw (y7 L 900 (GRd rb sv R1) (uv x) (r:=GRd rb sv R) Z Z Z Z Z (fun u H C2 hH hle hr2 hC2=>by have h:=zc2 hb hl hat hH (hs.le hle) hr2 hC2;rw[hz1] at h;exact h)) Z Z ?_);refine z8 (qf L (qh Z h1) Z Z Z Z) Z (xw (y7 L 900 (GRd rb sv R2) (.bool y) (r:=GRd rb sv R1) Z Z Z Z Z (fun u H C2 hH hle hr2 hC2=>by have h:=zbc hb hl hat2 hH (hs.le hle) hr2 hC2;rw[hz2] at h;exact h)) Z Z ?_);refine(ZeE∘ZdZ∘Zb1) ?_;exact xv L 900 (r:=yz rb _ ui) (rs:=[.cell 1 Kf]) Z (fun _ _ h=>h) nq Z Z (fun _=>⟨_,qw Z,rfl,rfl⟩)
def chg_ret{bs:List Nat}(hb:∀ b∈bs,b<=255)(hl:bs.length<=1099511627776)(hat:R.at_<=bs.length)(hB:zpg B w)(hs:BsV bs fu sv B)(hr:(GRd rb sv R).P B w C)(hC:ZCB C w B):
  RetX zph 210 [xz rb] w B C (GRd rb sv (pz bs R).2) (chv ((pz bs R).1).1 ((pz bs R).1).2):=by
 unfold RetX;refine yr 900 (GRd rb _ R) Tryz.func210 Z Tryz.ntmps210 (np Z) hB hr hC ?_;rw[xa];refine(Zbf∘Z2∘Zg) ?_;refine kz 1 901 rfl fun b1=>?_;refine j8 901 rfl fun H1 hs1 _ h1=>?_;have hs':=hs.le hs1.le;generalize hz:pz bs R=z;obtain⟨⟨⟨⟨⟨x,y⟩,y2⟩,⟨⟨x3,y3⟩,y4⟩⟩,y5⟩,R1⟩:=z;dsimp only;refine Z3 (h:=?_);refine z7 (qf L (qh Z h1) Z Z Z Z) Z (Zav (h:=?_));refine zy (y7 L 900 (GRd rb sv R1) (chv (((((x,y),y2),((x3,y3),y4)),y5)).1 (((((x,y),y2),((x3,y3),y4)),y5)).2) (r:=GRd rb sv R) Z Z Z Z Z (fun u H C2 hH hle hr2 hC2=>by have h:=Pf (gf:=Dt (o0 bs) (bw bs)) (fst:=[]) (cap:=[xz b1]) Z hH hr2 hC2 (fun _ u3 H3 C3 hH3 hle3 hr3 hC3=>za7 hb hl hat hH3 ((hs'.le hle).le hle3) ((hle.trans hle3) _ _ h1) hr3 hC3);unfold pz at hz;rw[hz] at h;exact h)) ?_;refine Zam (h:=?_);exact xv L 900 (r:=yz rb _ ui) (rs:=[.cell 2 Kf]) Z (fun _ _ h=>h) hs1 Z Z (fun _=>⟨_,qw Z,rfl,rfl⟩)
end Go.V.L4
namespace Go.V.L11
open Go.V.L2 Go.V.L3 Go.V.L4 Go.V.L6 Go.V.L8
def Xj(la:Option U)(t:U):Bool:=match la with
 | none=>true
 | some y=>decide (kq y t<0)
def De(bs:List Nat)(l:List U):Nat->Option U->List CH->List CH->Rd->((List CH×List CH)×Rd)×(Int×Int)
 | 0,_,a,d,R=>(((a,d),R),(0,0))
 | k+1,la,a,d,R=>
  if (pz bs R).2.err≠0 then (((a,d),R),(((pz bs R).2.bad:Int),(pz bs R).2.err))
  else if tE (pz bs R).1.1≠0 then (((a,d),R),((R.at_:Int),6))
  else if Xj la (pz bs R).1.1=false then (((a,d),R),((R.at_:Int),18))
  else if decide ((pz bs R).1.1∈l)≠(pz bs R).1.2 then (((a,d),R),((R.at_:Int),5))
  else De bs l k (some (pz bs R).1.1) (if (pz bs R).1.2=true then a else a++[(pz bs R).1]) (if (pz bs R).1.2=true then d++[(pz bs R).1] else d) (pz bs R).2
def ox(l:List U)(cs:List CH):List U:=cs.foldl (fun l c=>(wq l c.1 c.2).1) l
def sj(bs:List Nat)(l:List U)(R:Rd):(List U×Rd)×(Int×Int):=
 if (j9 bs 8192 R).2.err≠0 then ((l,R),(((j9 bs 8192 R).2.bad:Int),(j9 bs 8192 R).2.err))
 else if (De bs l (j9 bs 8192 R).1.toNat none [] [] (j9 bs 8192 R).2).2.2≠0 then ((l,R),(De bs l (j9 bs 8192 R).1.toNat none [] [] (j9 bs 8192 R).2).2)
 else if l.length+(De bs l (j9 bs 8192 R).1.toNat none [] [] (j9 bs 8192 R).2).1.1.1.length>4096+(De bs l (j9 bs 8192 R).1.toNat none [] [] (j9 bs 8192 R).2).1.1.2.length then ((l,R),((R.at_:Int),3))
 else ((ox l ((De bs l (j9 bs 8192 R).1.toNat none [] [] (j9 bs 8192 R).2).1.1.2++(De bs l (j9 bs 8192 R).1.toNat none [] [] (j9 bs 8192 R).2).1.1.1),(De bs l (j9 bs 8192 R).1.toNat none [] [] (j9 bs 8192 R).2).1.2),(0,0))
def Fh:∀ (cs:List CH) {l:List U},l.length<=4096->(ox l cs).length<=4096
 | [],_,h=>h
 | c::cs,l,h=>Fh cs (t8 h c.1 c.2)
def V1(l:List U)(h:cs[i]?=some c):ox l (cs.take (i+1))=(wq (ox l (cs.take i)) c.1 c.2).1:=by
 unfold ox;rw[zlc,h,List.foldl_append];rfl
def Mg:TZ (pz bs R).1.1:=by
 unfold pz;exact Fx (fun c:CH=>TZ c.1) E (by unfold Dt;exact zc3)
attribute [local irreducible] XP Pan
def jd{R2:Rd}{x:CH}(hfn:L.fn fr=some ())(he:R2.err=0){C:Nat->Prop}(hB:zpg B w)(hr:(xp sb rb sv fr0 R).P B w C)(hC:ZCB C w B)(hf:∀ (u:World) (H:Heap) (C:Nat->Prop),zpg H u->B.Le H->(xp sb rb sv R.at_ R).P H u C->(ZCB C u H)->RetX zph fr (fst++cap) u H C (xp sb rb sv R.at_ R2) (chv x.1 x.2)):
  RetX zph 209 [xz sb,.func (.func fr) fst.toArray cap.toArray] w B C (xp sb rb sv R.at_ R2) (chv x.1 x.2):=by
 unfold RetX;obtain⟨⟨⟨⟨x1,x2⟩,x3⟩,⟨⟨x4,x5⟩,x6⟩⟩,x7⟩:=x;refine yr 900 (xp sb rb sv fr0 R) Tryz.func209 Z Tryz.ntmps209 (np Z) hB hr hC ?_;rw[wo,xa,xa];refine Zdp (h:=?_);refine(ZbN∘Z3∘ZaX) ?_;refine zy (y7 L 901 (GRd rb sv R) (.int .i64 R.at_) (r:=GRd rb sv R) Z Z Z Z Z (fun u H C2 hH _ hr2 hC2=>L4.at_ret hH hr2 hC2)) (ZY (h:=?_));refine xh (ye L (q:=900) (cs':=[xz rb,.int .i64 R.at_]) Z Z Z Z Z) (Zg (h:=?_));refine jt 900 901 rfl Z (xe (GRd rb sv R)) ?_;refine Zo (h:=?_);refine zy (kw L 900 (xp sb rb sv R.at_ R2) (chv (((x1,x2),x3),((x4,x5),x6)) x7) (r:=xp sb rb sv R.at_ R) Z Z Z hfn Z hf) (ZbA (h:=?_));refine vz (r1:=(yz sb [xz rb,.int .i64 R.at_] M0).res) (r2:=(GRd rb sv R2).res) 900 901 rfl (xe (GRd rb sv R2)) ?_;rw[xa];refine(Zp∘ZH) ?_;refine zy (y7 L 901 (GRd rb sv R2) (.tuple #[.int .i64 R2.bad,.int .i64 R2.err]) (r:=GRd rb sv R2) Z Z Z Z Z (fun u H C2 hH _ hr2 hC2=>L4.fault_ret hH hr2 hC2)) ((Zcd∘Z9∘Zb3∘Zaw∘Zdr∘Zam) ?_);refine jt 900 901 rfl Z (xe (GRd rb sv R2)) ?_;exact xv L 900 (r:=xp sb rb sv R.at_ R2) (rs:=[.cell 4 Kf]) Z (fun _ _ h=>h) nq Z Z (fun _=>⟨_,qw Z,rfl,rfl⟩)
def La{R2:Rd}{x:CH}(hfn:L.fn fr=some ())(he:R2.err≠0){C:Nat->Prop}(hB:zpg B w)(hr:(xp sb rb sv fr0 R).P B w C)(hC:ZCB C w B)(hf:∀ (u:World) (H:Heap) (C:Nat->Prop),zpg H u->B.Le H->(xp sb rb sv R.at_ R).P H u C->(ZCB C u H)->RetX zph fr (fst++cap) u H C (xp sb rb sv R.at_ R2) (chv x.1 x.2)):
  Pan zph 209 [xz sb,.func (.func fr) fst.toArray cap.toArray] w B C (wrV R2.bad R2.err):=by
 obtain⟨⟨⟨⟨x1,x2⟩,x3⟩,⟨⟨x4,x5⟩,x6⟩⟩,x7⟩:=x;refine gt 900 (xp sb rb sv fr0 R) Tryz.func209 Z Tryz.ntmps209 (np Z) hB hr hC ?_;rw[wo,xa,xa];refine Zdp (h:=?_);refine(ZbN∘Z3∘ZaX) ?_;refine zy (y7 L 901 (GRd rb sv R) (.int .i64 R.at_) (r:=GRd rb sv R) Z Z Z Z Z (fun u H C2 hH _ hr2 hC2=>L4.at_ret hH hr2 hC2)) (ZY (h:=?_));refine xh (ye L (q:=900) (cs':=[xz rb,.int .i64 R.at_]) Z Z Z Z Z) (Zg (h:=?_));refine jt 900 901 rfl Z (xe (GRd rb sv R)) ?_;refine Zo (h:=?_);refine zy (kw L 900 (xp sb rb sv R.at_ R2) (chv (((x1,x2),x3),((x4,x5),x6)) x7) (r:=xp sb rb sv R.at_ R) Z Z Z hfn Z hf) (ZbA (h:=?_));refine vz (r1:=(yz sb [xz rb,.int .i64 R.at_] M0).res) (r2:=(GRd rb sv R2).res) 900 901 rfl (xe (GRd rb sv R2)) ?_;rw[xa];refine(Zp∘ZH) ?_;refine zy (y7 L 901 (GRd rb sv R2) (.tuple #[.int .i64 R2.bad,.int .i64 R2.err]) (r:=GRd rb sv R2) Z Z Z Z Z (fun u H C2 hH _ hr2 hC2=>L4.fault_ret hH hr2 hC2)) ((Zcd∘Z9∘Zds∘ZD) ?_);refine jn (id:=5) 4 rfl ((Zb∘Zeo∘Zen∘ZN) ?_);refine Be (K:=4) Z Z Z ?_
 repeat (first | refine jx ?_ | refine ja ?_)
 exact p8 nq
def Ba:∀ (n:Nat),∀ b∈um n,b<=255:=fun n=>by
 induction n using Nat.strongRecOn with
 | ind n ih=>
  intro b hb;by_cases h:n<128
  ·rw[bo h,m6] at hb;omega
  ·rw[El h] at hb;rcases nz.1 hb with rfl | hb
   ·omega
   ·exact ih (n/128) T b hb
attribute [local irreducible] LV aa
end Go.V.L11
end
namespace Go.V.L11
open Go.V.L2 Go.V.L3 Go.V.L4 Go.V.L6 Go.V.L8 Go.V.L10
def _root_.ZdA(t:Wr Y->A:=by intro h;refine z7 (zx L (vs:=[_,_,_,_,_,_,_]) (qh Z M) Z Z Z Z ⟨_,rfl⟩) Z ?_;exact h.1)(h:Y):A:=t ⟨h⟩
def _root_.ZdB(t:Wr Y->A:=by intro h;refine qg (id:=11) [(56,[900])] mixed J ?_;exact h.1)(h:Y):A:=t ⟨h⟩
def _root_.Zba(t:Wr Y->A:=by exact fun h=>(ZaB∘Zfj) h.1)(h:Y):A:=t ⟨h⟩
def zb3{bs:List Nat}{fr:Int}(hb:∀ b∈bs,b<=255)(hl:bs.length<=1099511627776)(hat:R.at_<=bs.length)(hB:zpg B w)(hs:BsV bs fu sv B)(hr:(xp sb rb sv fr R).P B w C)(hC:ZCB C w B):
  RetX zph 210 [xz rb] w B C (xp sb rb sv fr (pz bs R).2) (chv (pz bs R).1.1 (pz bs R).1.2):=
 RetL.mono (RetY.conv (RetY.frame (E3 hr) hC fun C1 h1 hC1=>(L4.chg_ret hb hl hat hB hs h1 hC1).toY) fun _ _ _ h=>E3 h:RetY _ _ _ _ _ _ (xp sb rb sv fr (pz bs R).2) fun x _=>x=chv (pz bs R).1.1 (pz bs R).1.2) fun _ _ _ _ h=>h
def zhe:Option U->List Value
 | none=>[.string sZ,.string sZ,.string sZ,.string sZ,.string sZ,.string sZ]
 | some t=>[.string t.1.1.1,.string t.1.1.2,.string t.1.2,.string t.2.1.1,.string t.2.1.2,.string t.2.2]
structure ChJ(bs:List Nat)(l:List U)(n:Nat)(Y:((List CH×List CH)×Rd)×(Int×Int))(i:Nat)(la:Option U)(a d:List CH)(R:Rd):Prop where
 hi:i<=n
 hW:De bs l (n-i) la a d R=Y
 h0:R.err=0
 at_:R.at_<=bs.length
 first:la=none↔i=0
 len:a.length+d.length=i
 za:∀ c∈a,TZ c.1
 zd:∀ c∈d,TZ c.1
def ChJ.step{n:Nat}{Y:((List CH×List CH)×Rd)×(Int×Int)}{i:Nat}{la:Option U}{a d:List CH}(h:ChJ bs l n Y i la a d R)(hi:i<n)(hY:Y.2.2=0):
  (pz bs R).2.err=0/\tE (pz bs R).1.1=0/\Xj la (pz bs R).1.1=true/\decide ((pz bs R).1.1∈l)=(pz bs R).1.2/\
  ChJ bs l n Y (i+1) (some (pz bs R).1.1) (if (pz bs R).1.2=true then a else a++[(pz bs R).1]) (if (pz bs R).1.2=true then d++[(pz bs R).1] else d) (pz bs R).2:=by
 obtain⟨m,hm⟩:∃ m,n-i=m+1:=⟨n-i-1,by omega⟩
 have hW:=h.hW;rw[hm] at hW;unfold De at hW;have htz:=Mg (bs:=bs) (R:=R);have hta:=Mh (bs:=bs) (R:=R) h.at_;generalize pz bs R=zpa at hW htz hta |-;obtain⟨⟨t,k⟩,R2⟩:=zpa;dsimp only at hW htz hta |-;by_cases h2:R2.err≠0
 ·rw[na h2] at hW;subst hW;exact ni hY h2
 ·rw[nc h2] at hW;by_cases he:tE t≠0
  ·rw[na he] at hW;subst hW;exact ni hY (show(6:Int)≠0 by decide)
  ·rw[nc he] at hW;by_cases hbh:Xj la t=false
   ·rw[na hbh] at hW;subst hW;exact ni hY (show(18:Int)≠0 by decide)
   ·rw[nc hbh] at hW;by_cases hm2:decide (t∈l)≠k
    ·rw[na hm2] at hW;subst hW;exact ni hY (show(5:Int)≠0 by decide)
    ·rw[nc hm2] at hW;refine⟨m4.1 h2,m4.1 he,by cases hq:Xj la t<;>simp_all,m4.1 hm2,⟨hi,by rw[show n-(i+1)=m by omega];exact hW,m4.1 h2,hta,⟨fun h=>by(cases h),fun h=>by(cases h)⟩,?_,?_,?_⟩⟩
     ·have:=h.len;cases k
      ·rw[nc E,nc E,nr,zme];omega
      ·rw[na rfl,na rfl,nr,zme];omega
     ·intro c hc;cases k
      ·rw[nc E] at hc;rcases mn.1 hc with h3 | h3
       ·exact h.za c h3
       ·rw[m6] at h3;subst h3;exact htz
      ·rw[na rfl] at hc;exact h.za c hc
     ·intro c hc;cases k
      ·rw[nc E] at hc;exact h.zd c hc
      ·rw[na rfl] at hc;rcases mn.1 hc with h3 | h3
       ·exact h.zd c h3
       ·rw[m6] at h3;subst h3;exact htz
attribute [local irreducible] V N X VO Par XP LV StepOK Has Ret RetL RetO RetT ki RetX RetY Pan aa Src
def Mi{sb rb:Nat}{sv:Value}{bs:List Nat}(hl0:l.length<=4096)(hb:∀ b∈bs,b<=255)(hl:bs.length<=1099511627776)(hat:R.at_<=bs.length)(he:(sj bs l R).2.2=0){v:Value}(hB:zpg B w)(hs:BsV bs fu sv B)(hv:SetV l v B)(hr:(xp sb rb sv fr0 R).P B w C)(hC:ZCB C w B):
  RetY zph 153 [xz sb,v] w B C (xp sb rb sv R.at_ (sj bs l R).1.2) (SetV (sj bs l R).1.1):=by
 have ha1:=ez (bs:=bs) (lim:=8192) hat;have hlv:=fun h=>am (bs:=bs) (lim:=8192) (R:=R) E h;have hsz:=fun(h:(j9 bs 8192 R).2.err=0) {w:World} {B:Heap} {C:Nat->Prop} (hB:zpg B w) (hs:BsV bs fu sv B) (hr:(xp sb rb sv fr0 R).P B w C) (hC:ZCB C w B)=>size_ret (lim:=8192) hb hl hat T h hB hs hr hC;unfold sj at he |-;obtain⟨z,R1,hz1⟩:∃ z R1,j9 bs 8192 R=(z,R1):=⟨_,_,rfl⟩
 rw[hz1] at he ha1 hlv hsz |-;dsimp only at he ha1 hlv hsz |-;by_cases h1:R1.err≠0
 ·rw[na h1] at he;exact ni he h1
 ·rw[nc h1] at he |-;have h10:=m4.1 h1;obtain⟨n,rfl,hn⟩:=hlv h10;rw[zlp] at he |-;obtain⟨Y,hY⟩:∃ Y,De bs l n none [] [] R1=Y:=⟨_,rfl⟩
  rw[hY] at he |-;by_cases h2:Y.2.2≠0
  ·rw[na h2] at he;exact ni he h2
  ·rw[nc h2] at he |-;have h20:=m4.1 h2;by_cases h3:l.length+Y.1.1.1.length>4096+Y.1.1.2.length
   ·rw[na h3] at he;exact ni he (show(3:Int)≠0 by decide)
   ·rw[nc h3];dsimp only;obtain⟨f1,p1,k1,q1,rfl,hp1⟩:=hv.shape;have hj0:ChJ bs l n Y 0 none [] [] R1:=⟨mf _,hY,h10,ha1,⟨fun _=>rfl,fun _=>rfl⟩,rfl,(fun _ h=>by cases h),(fun _ h=>by cases h)⟩
    unfold RetY;refine yr 900 (xp sb rb sv fr0 R) Tryz.func153 Z Tryz.ntmps153 (np Z) hB hr hC ((Zbf∘Z2∘Zg∘Z3∘ZaH∘Zx∘Z2∘Zg∘Zp) ?_);refine zy (y7 L 900 (xp sb rb sv R.at_ R1) (.int .i64 n) (r:=xp sb rb sv fr0 R) Z Z Z Z Z (fun u H C2 hH hle hr2 hC2=>hsz h10 hH (hs.le hle) hr2 hC2)) (Zd (h:=?_));refine vz (r1:=xk sb [xz rb,.int .i64 R.at_] M0) (r2:=(GRd rb sv R1).res) 900 901 rfl (xe _) ?_;refine(ZbX∘Zi∘ZE∘Zb∘ZcK) ?_;refine jt 900 901 rfl Z (xe (GRd rb sv R1)) ?_;refine gh 5 Kf 7 rfl (gh 6 Kf 7 rfl ?_)
    refine xm (fun x:Nat×Option U×List CH×List CH×Rd×Nat=>[(0,.is (xz sb)),(3,.own (Cell [f1,.pointer p1,k1,.pointer q1] tySt)),(4,.own (Cell [.nilFunc,.pointer none,.nilFunc,.pointer none] tySt)),(5,.own (SlR Kf 7 x.2.2.1.length (x.2.2.1.flatMap ccs))),(6,.own (SlR Kf 7 x.2.2.2.1.length (x.2.2.2.1.flatMap ccs))),(7,.own (Cell (zhe x.2.1) tyU)),(9,.is (.int .i64 R.at_)),(20,.is (.int .i64 n)),(21,.is (.int .i64 x.1)),(900,.own (xp sb rb sv x.2.2.2.2.2 x.2.2.2.2.1).res)])
     (fun x=>ChJ bs l n Y x.1 x.2.1 x.2.2.1 x.2.2.2.1 x.2.2.2.2.1) (fun x=>n-x.1) (0,none,[],[],R1,R.at_) hj0 ⟨rfl,rfl,rfl,rfl,rfl,rfl,rfl,rfl,rfl,rfl,nm⟩ ?_
    rintro⟨i,la,a,d,R',fr⟩ hj;dsimp only at hj |-;by_cases hlt:i<n
    ·obtain⟨g1,g2,g3,g4,hj2⟩:=hj.step hlt h20;have htz:=Mg (bs:=bs) (R:=R');have hRa:=hj.at_;have hfst:=hj.first;have hlen:=hj.len;have hsrc:=fun {w:World} {B:Heap} {C:Nat->Prop} (hB:zpg B w) (hs:BsV bs fu sv B) (hr:(xp sb rb sv R'.at_ R').P B w C) (hC:ZCB C w B)=>zb3 hb hl hRa hB hs hr hC;generalize pz bs R'=zpa at g1 g2 g3 g4 hj2 htz hsrc;obtain⟨⟨t,k⟩,R2⟩:=zpa;dsimp only at g1 g2 g3 g4 hj2 htz hsrc;have hsn:∀ x:List CH,(x++[(t,k)]).length=x.length+1:=fun x=>by simp
     refine vz (r1:=xk sb [xz rb,.int .i64 fr] M0) (r2:=(GRd rb sv R').res) 900 901 rfl (xe _) ?_
     cases k with
     | true=>
      cases la with
      | none=>
       have hi0:i=0:=hfst.1 rfl;refine(ZaS∘Zz∘Z8∘Zd∘ZC∘ZaX) ?_;refine jg 900 901 rfl Z (xe (GRd rb sv R')) ?_;refine Zav (h:=?_);refine zy (y7 L 900 (xp sb rb sv R'.at_ R2) (chv t true) (r:=xp sb rb sv fr R') Z Z Z Z Z (fun u H C hH hle hr hC=>jd (x:=(t,true)) (fst:=[xz rb]) (cap:=[]) Z g1 hH hr hC (fun u3 H3 C3 hH3 hle3 hr3 hC3=>hsrc hH3 ((hs.le hle).le hle3) hr3 hC3))) (Zbx (h:=?_));refine kz 11 913 rfl fun b11=>?_;refine j8 913 rfl fun H1 hs1 _ h11=>?_;have hv1:=hv.le hs1.le;refine(Zau∘Zba) ?_;refine z71 L Z (fun u H hH _=>kr htz hH) ?_;refine ZG (h:=?_);refine zy (yq L 900 (xp sb rb sv R'.at_ R2) (r:=xp sb rb sv R'.at_ R2) Z Z Z Z Z (fun u H C hH _ hr hC=>x8 hH hr hC)) ((Zg∘ZA∘Zb∘ZG∘ZaF∘Zbb∘Zdh) ?_);refine zy (yq L 900 (xp sb rb sv R'.at_ R2) (r:=xp sb rb sv R'.at_ R2) Z Z Z Z Z (fun u H C hH _ hr hC=>x8 hH hr hC)) ((Zg∘ZdB∘Zj∘Zce∘ZbZ) ?_);refine z81 L Z (fun u H hH hle=>jb g4 hH (hv1.le hle)) ?_;refine(ZbJ∘Zw∘ZcJ) ?_;refine xw (yq L 900 (xp sb rb sv R'.at_ R2) (r:=xp sb rb sv R'.at_ R2) Z Z Z Z Z (fun u H C hH _ hr hC=>x8 hH hr hC)) Z Z ((ZaJ∘ZW∘Zba∘ZaL∘Zg∘ZX∘ZaB∘Zcn∘ZD∘Zbo) ?_);refine zy (yo (.inl Z) Z) ((ZdA∘Zae∘ZcY) ?_);refine zy (yo (.inr Z) Z) ((Zbp∘Zap∘Zbc) ?_);exact wk (x:=(i,none,a,d,R',fr)) (i+1,some t,a,d++[(t,true)],R2,R'.at_) hs1 hj2 G ⟨Z,Z,Z,Z,fq Z,Z,Z,Z,Z,Z,nm⟩
      | some y=>
       have hi0:i≠0:=fun h=>by have:=hfst.2 h;cases this
       refine(ZaS∘Zz∘Z8∘Zd∘ZC∘ZaX) ?_;refine jg 900 901 rfl Z (xe (GRd rb sv R')) ?_;refine Zav (h:=?_);refine zy (y7 L 900 (xp sb rb sv R'.at_ R2) (chv t true) (r:=xp sb rb sv fr R') Z Z Z Z Z (fun u H C hH hle hr hC=>jd (x:=(t,true)) (fst:=[xz rb]) (cap:=[]) Z g1 hH hr hC (fun u3 H3 C3 hH3 hle3 hr3 hC3=>hsrc hH3 ((hs.le hle).le hle3) hr3 hC3))) (Zbx (h:=?_));refine kz 11 913 rfl fun b11=>?_;refine j8 913 rfl fun H1 hs1 _ h11=>?_;have hv1:=hv.le hs1.le;have g3:kq y t<0:=nj g3;refine(Zau∘Zba) ?_;refine z71 L Z (fun u H hH _=>kr htz hH) ?_;refine ZG (h:=?_);refine zy (yq L 900 (xp sb rb sv R'.at_ R2) (r:=xp sb rb sv R'.at_ R2) Z Z Z Z Z (fun u H C hH _ hr hC=>x8 hH hr hC)) ((Zg∘ZA∘Zb∘Zq∘Za∘Zbq∘Zba) ?_);refine z71 L Z (fun u H hH _=>jh (a:=y) (b:=t) hH) ?_;refine(Zab∘Zl) ?_;refine zy (yq L 900 (xp sb rb sv R'.at_ R2) (r:=xp sb rb sv R'.at_ R2) Z Z Z Z Z (fun u H C hH _ hr hC=>x8 hH hr hC)) ((Zg∘ZdB∘Zj∘Zce∘ZbZ) ?_);refine z81 L Z (fun u H hH hle=>jb g4 hH (hv1.le hle)) ?_;refine(ZbJ∘Zw∘ZcJ) ?_;refine xw (yq L 900 (xp sb rb sv R'.at_ R2) (r:=xp sb rb sv R'.at_ R2) Z Z Z Z Z (fun u H C hH _ hr hC=>x8 hH hr hC)) Z Z ((ZaJ∘ZW∘Zba∘ZaL∘Zg∘ZX∘ZaB∘Zcn∘ZD∘Zbo) ?_);refine zy (yo (.inl Z) Z) ((ZdA∘Zae∘ZcY) ?_);refine zy (yo (.inr Z) Z) ((Zbp∘Zap∘Zbc) ?_);exact wk (x:=(i,some y,a,d,R',fr)) (i+1,some t,a,d++[(t,true)],R2,R'.at_) hs1 hj2 G ⟨Z,Z,Z,Z,fq Z,Z,Z,Z,Z,Z,nm⟩
     | false=>
      cases la with
      | none=>
       have hi0:i=0:=hfst.1 rfl;refine(ZaS∘Zz∘Z8∘Zd∘ZC∘ZaX) ?_;refine jg 900 901 rfl Z (xe (GRd rb sv R')) ?_;refine Zav (h:=?_);refine zy (y7 L 900 (xp sb rb sv R'.at_ R2) (chv t false) (r:=xp sb rb sv fr R') Z Z Z Z Z (fun u H C hH hle hr hC=>jd (x:=(t,false)) (fst:=[xz rb]) (cap:=[]) Z g1 hH hr hC (fun u3 H3 C3 hH3 hle3 hr3 hC3=>hsrc hH3 ((hs.le hle).le hle3) hr3 hC3))) (Zbx (h:=?_));refine kz 11 913 rfl fun b11=>?_;refine j8 913 rfl fun H1 hs1 _ h11=>?_;have hv1:=hv.le hs1.le;refine(Zau∘Zba) ?_;refine z71 L Z (fun u H hH _=>kr htz hH) ?_;refine ZG (h:=?_);refine zy (yq L 900 (xp sb rb sv R'.at_ R2) (r:=xp sb rb sv R'.at_ R2) Z Z Z Z Z (fun u H C hH _ hr hC=>x8 hH hr hC)) ((Zg∘ZA∘Zb∘ZG∘ZaF∘Zbb∘Zdh) ?_);refine zy (yq L 900 (xp sb rb sv R'.at_ R2) (r:=xp sb rb sv R'.at_ R2) Z Z Z Z Z (fun u H C hH _ hr hC=>x8 hH hr hC)) ((Zg∘ZdB∘Zj∘Zce∘ZbZ) ?_);refine z81 L Z (fun u H hH hle=>jb g4 hH (hv1.le hle)) ?_;refine(ZbJ∘Zw∘ZcJ) ?_;refine xw (yq L 900 (xp sb rb sv R'.at_ R2) (r:=xp sb rb sv R'.at_ R2) Z Z Z Z Z (fun u H C hH _ hr hC=>x8 hH hr hC)) Z Z ((ZaJ∘ZW∘Zba∘ZaL∘Zg∘ZX∘ZaB∘Zcn∘ZZ∘Za0) ?_);refine zy (yo (.inl Z) Z) ((ZdA∘Zae∘ZcY) ?_);refine zy (yo (.inr Z) Z) ((Zbp∘Zap∘Zbc) ?_);exact wk (x:=(i,none,a,d,R',fr)) (i+1,some t,a++[(t,false)],d,R2,R'.at_) hs1 hj2 G ⟨Z,Z,Z,fq Z,Z,Z,Z,Z,Z,Z,nm⟩
      | some y=>
       have hi0:i≠0:=fun h=>by have:=hfst.2 h;cases this
       refine(ZaS∘Zz∘Z8∘Zd∘ZC∘ZaX) ?_;refine jg 900 901 rfl Z (xe (GRd rb sv R')) ?_;refine Zav (h:=?_);refine zy (y7 L 900 (xp sb rb sv R'.at_ R2) (chv t false) (r:=xp sb rb sv fr R') Z Z Z Z Z (fun u H C hH hle hr hC=>jd (x:=(t,false)) (fst:=[xz rb]) (cap:=[]) Z g1 hH hr hC (fun u3 H3 C3 hH3 hle3 hr3 hC3=>hsrc hH3 ((hs.le hle).le hle3) hr3 hC3))) (Zbx (h:=?_));refine kz 11 913 rfl fun b11=>?_;refine j8 913 rfl fun H1 hs1 _ h11=>?_;have hv1:=hv.le hs1.le;have g3:kq y t<0:=nj g3;refine(Zau∘Zba) ?_;refine z71 L Z (fun u H hH _=>kr htz hH) ?_;refine ZG (h:=?_);refine zy (yq L 900 (xp sb rb sv R'.at_ R2) (r:=xp sb rb sv R'.at_ R2) Z Z Z Z Z (fun u H C hH _ hr hC=>x8 hH hr hC)) ((Zg∘ZA∘Zb∘Zq∘Za∘Zbq∘Zba) ?_);refine z71 L Z (fun u H hH _=>jh (a:=y) (b:=t) hH) ?_;refine(Zab∘Zl) ?_;refine zy (yq L 900 (xp sb rb sv R'.at_ R2) (r:=xp sb rb sv R'.at_ R2) Z Z Z Z Z (fun u H C hH _ hr hC=>x8 hH hr hC)) ((Zg∘ZdB∘Zj∘Zce∘ZbZ) ?_);refine z81 L Z (fun u H hH hle=>jb g4 hH (hv1.le hle)) ?_;refine(ZbJ∘Zw∘ZcJ) ?_;refine xw (yq L 900 (xp sb rb sv R'.at_ R2) (r:=xp sb rb sv R'.at_ R2) Z Z Z Z Z (fun u H C hH _ hr hC=>x8 hH hr hC)) Z Z ((ZaJ∘ZW∘Zba∘ZaL∘Zg∘ZX∘ZaB∘Zcn∘ZZ∘Za0) ?_);refine zy (yo (.inl Z) Z) ((ZdA∘Zae∘ZcY) ?_);refine zy (yo (.inr Z) Z) ((Zbp∘Zap∘Zbc) ?_);exact wk (x:=(i,some y,a,d,R',fr)) (i+1,some t,a++[(t,false)],d,R2,R'.at_) hs1 hj2 G ⟨Z,Z,Z,fq Z,Z,Z,Z,Z,Z,Z,nm⟩
    ·obtain rfl:i=n:=by have:=hj.hi;omega
     have hW:=hj.hW;rw[zmd] at hW;have hW2:(((a,d),R'),((0:Int),(0:Int)))=Y:=hW;subst hW2;dsimp only at h3 |-;have hlen:=hj.len;have hza:=hj.za;have hzd:=hj.zd;have hdl:(d++a).length<=8192:=by rw[nr];omega
     have hda:d.length+a.length<=8192:=T;have hpl:=Ol a;have hln:=Br a
     have hzda:∀ c∈d++a,TZ c.1:=fun c hc=>by
      rcases mn.1 hc with h | h
      ·exact hzd c h
      ·exact hza c h
     refine vz (r1:=xk sb [xz rb,.int .i64 fr] M0) (r2:=(GRd rb sv R').res) 900 901 rfl (xe _) ?_;refine l6 5 rfl ?_;refine tx 6 931 _ Z SlR.shape fun z6 hz6=>?_;obtain⟨p6,c6,rfl⟩:=hz6;refine(ZaS∘ZaO∘Zb8∘Zb∘ZY) ?_;refine xh (ye L (q:=900) (cs':=[xz rb,.int .i64 R.at_]) Z Z Z Z Z) ((Zg∘Zcc∘Zbg) ?_);refine z71 L Z (fun u H hH hle=>f0 (l:=l) Z hH (hv.le hle)) ?_;refine(Zh∘ZaE∘Za∘ZaC∘Zc3∘ZcC) ?_;refine jg 900 901 rfl Z (xe (GRd rb sv R')) ?_;refine zy (yq L 900 (xp sb rb sv R.at_ R') (r:=xp sb rb sv R.at_ R') Z Z Z Z Z (fun u H C2 hH _ hr2 hC2=>x8 hH hr2 hC2)) (Zay (h:=?_));refine Fo 6 931 rfl Z (Zcx (h:=?_));refine zy (yo (.inl Z) Z) (Zfm (h:=?_));refine oz 87 rfl ((ZcL∘Zbt) ?_);refine ow (X:=SXp) 3 (r:=fun x=>Cell (scs x.1) tySt) (φ:=B7 l) (ku l) ⟨(f1,p1,k1,q1),hp1⟩ hv Z (xm (fun j:Nat=>[(3,.own (ExR (fun x:SXp=>Cell (scs x.1) tySt) (B7 (ox l ((d++a).take j))) (ku _))),(4,.own (Cell [.nilFunc,.pointer none,.nilFunc,.pointer none] tySt)),(87,.sat (KS Kf (d++a) false)),(88,.is (.int .i64 (d++a).length)),(89,.is (.int .i64 j)),(900,.own (xp sb rb sv R.at_ R').res)]) (fun j=>j<=(d++a).length) (fun j=>(d++a).length-j) 0 (mf _) ⟨Z,Z,by show _=some (Kn.sat (SlV Kf 7 ((d++a).flatMap ccs) (d++a).length false));rw[nr,zlq];rfl,by rw[nr];rfl,Z,Z,nm⟩ ?_);rintro j hjl;refine vm 3 rfl fun x H1 hs1 hset=>?_;obtain⟨⟨f,p,f',p'⟩,hpl⟩:=x;dsimp only[scs] at hset hpl |-;by_cases hjt:j<(d++a).length
     ·obtain⟨c,hc⟩:=xi hjt;have hcc:=Eu hc;have hzc:=hzda c (zln hc);have hlen4:=Fh ((d++a).take j) hl0;have happ:=V1 l hc;obtain⟨m,e,hme⟩:∃ m e,wq (ox l ((d++a).take j)) c.1 c.2=(m,e):=⟨_,_,rfl⟩
      rw[hme] at happ;have hms:Kn.mono (.sat (SetV m)):=SetV.mono;have hme0:Kn.mono (.sat (fun(v:Value) (_:Heap)=>v=.int .i64 e)):=fun _ _ _ h _=>h;refine(Zf∘ZaM∘Zz∘Zcj∘Zaa∘ZcX∘Zaj∘Zs∘ZcD∘Zbg∘Zdr) ?_;refine z7 (xg (φ:=WithE m e) L Z Z (zn Z) Z Z Z WithE.mono (fun u H hH hle _=>(ru hme hlen4 hzc hH (hset.le hle)).mono fun _ _ _=>Fv)) Z ((Zk∘ZcR∘Zc5) ?_);refine z7 (di L (X:=SXp) (fun x=>scs x.1) (B7 m) (ku _) Gf (fun x=>⟨rfl,x.2⟩) Z Z Z Z Z) Z ((Zbp∘Zdw∘Zbc) ?_);exact wk (x:=j) (j+1) hs1 hjt T ⟨by rw[happ];rfl,Z,Z,Z,Z,Z,nm⟩
     ·obtain rfl:j=(d++a).length:=by omega
      rw[zla] at hset;refine(Zf∘ZaM∘ZaO∘Zdg∘Zbg∘Zbr∘Zs) ?_;exact vw L 900 (r:=xp sb rb sv R.at_ R') (rs:=[.cell 4 tySt]) Z (fun _ _ h=>h) hs1 Z Z (fun H hle=>aj (qw Z) Z Z (hset.le hle))
def _root_.ZdC(t:Wr Y->A:=by intro h;refine jp (zo L Z Z Z Z) Z ?_;exact h.1)(h:Y):A:=t ⟨h⟩
def _root_.ZeF(t:Wr Y->A:=by intro h;refine jp (zx L (vs:=[_,_,_,_]) (qw Z) Z Z Z Z ⟨_,rfl⟩) Z ?_;exact h.1)(h:Y):A:=t ⟨h⟩
def _root_.ZeG(t:Wr Y->A:=by intro h;refine Dj (id:=11) 8 [(56,[900])] mixed Z J ?_;exact h.1)(h:Y):A:=t ⟨h⟩
def _root_.Zec(t:Wr Y->A:=by intro h;refine jp (ze Z Z Z) Z ?_;exact h.1)(h:Y):A:=t ⟨h⟩
def _root_.ZeH(t:Wr Y->A:=by intro h;refine jp (Ti Z Z Z Z bt4 Z) Z ?_;exact h.1)(h:Y):A:=t ⟨h⟩
def Mj{sb rb:Nat}{sv:Value}{bs:List Nat}(hl0:l.length<=4096)(hb:∀ b∈bs,b<=255)(hl:bs.length<=1099511627776)(hat:R.at_<=bs.length)(he:(sj bs l R).2.2≠0){v:Value}(hB:zpg B w)(hs:BsV bs fu sv B)(hv:SetV l v B)(hr:(xp sb rb sv fr0 R).P B w C)(hC:ZCB C w B):
  Pan zph 153 [xz sb,v] w B C (wrV (sj bs l R).2.1 (sj bs l R).2.2):=by
 have ha1:=ez (bs:=bs) (lim:=8192) hat;have hlv:=fun h=>am (bs:=bs) (lim:=8192) (R:=R) E h;have hsz:=fun(h:(j9 bs 8192 R).2.err=0) {w:World} {B:Heap} {C:Nat->Prop} (hB:zpg B w) (hs:BsV bs fu sv B) (hr:(xp sb rb sv fr0 R).P B w C) (hC:ZCB C w B)=>size_ret (lim:=8192) hb hl hat T h hB hs hr hC;have hszp:=fun(h:(j9 bs 8192 R).2.err≠0) {w:World} {B:Heap} {C:Nat->Prop} (hB:zpg B w) (hs:BsV bs fu sv B) (hr:(xp sb rb sv fr0 R).P B w C) (hC:ZCB C w B)=>Dz (lim:=8192) hb hl hat T h hB hs hr hC;obtain⟨f1,p1,k1,q1,rfl,hp1⟩:=hv.shape;refine gt 900 (xp sb rb sv fr0 R) Tryz.func153 Z Tryz.ntmps153 (np Z) hB hr hC ?_;unfold sj at he |-;obtain⟨z,R1,hz1⟩:∃ z R1,j9 bs 8192 R=(z,R1):=⟨_,_,rfl⟩
 rw[hz1] at he ha1 hlv hsz hszp |-;dsimp only at he ha1 hlv hsz hszp |-;by_cases h1:R1.err≠0
 ·rw[na h1];refine(Zbf∘Z2∘Zg∘Z3∘ZaH∘Zx∘Z2∘Zg) ?_;refine jn (id:=3) 1 rfl (Zck (h:=?_));refine jk (r:=(xp sb rb sv fr0 R).res) (K:=1) L 900 rfl Z Z Z Z (fun u H C hH hle hr hC=>hszp h1 hH (hs.le hle) hr hC) (fun _ _ _ _ h=>h) ?_
  repeat (first | refine jx ?_ | refine ja ?_)
  exact p8 nq
 ·rw[nc h1] at he |-;have h10:=m4.1 h1;obtain⟨n,rfl,hn⟩:=hlv h10;rw[zlp] at he |-;obtain⟨Y,hY⟩:∃ Y,De bs l n none [] [] R1=Y:=⟨_,rfl⟩
  rw[hY] at he |-;obtain⟨pa,pe,hW0⟩:∃ pa pe:Int,(if Y.2.2≠0 then ((l,R),Y.2) else if l.length+Y.1.1.1.length>4096+Y.1.1.2.length then ((l,R),((R.at_:Int),(3:Int))) else ((ox l (Y.1.1.2++Y.1.1.1),Y.1.2),((0:Int),(0:Int)))).2=(pa,pe):=⟨_,_,rfl⟩
  rw[hW0] at he |-;dsimp only at he |-;have hj0:ChJ bs l n Y 0 none [] [] R1:=⟨mf _,hY,h10,ha1,⟨fun _=>rfl,fun _=>rfl⟩,rfl,(fun _ h=>by cases h),(fun _ h=>by cases h)⟩
  refine(Zbf∘Z2∘Zg∘Z3∘ZaH∘Zx∘Z2∘Zg∘Zp) ?_;refine zy (y7 L 900 (xp sb rb sv R.at_ R1) (.int .i64 n) (r:=xp sb rb sv fr0 R) Z Z Z Z Z (fun u H C2 hH hle hr2 hC2=>hsz h10 hH (hs.le hle) hr2 hC2)) (Zd (h:=?_));refine vz (r1:=xk sb [xz rb,.int .i64 R.at_] M0) (r2:=(GRd rb sv R1).res) 900 901 rfl (xe _) ?_;refine(ZbX∘Zi∘ZE∘Zb∘ZcK) ?_;refine jt 900 901 rfl Z (xe (GRd rb sv R1)) ?_;refine gh 5 Kf 7 rfl (gh 6 Kf 7 rfl ?_)
  refine xm (fun x:Nat×Option U×List CH×List CH×Rd×Nat=>[(0,.is (xz sb)),(3,.own (Cell [f1,.pointer p1,k1,.pointer q1] tySt)),(4,.own (Cell [.nilFunc,.pointer none,.nilFunc,.pointer none] tySt)),(5,.own (SlR Kf 7 x.2.2.1.length (x.2.2.1.flatMap ccs))),(6,.own (SlR Kf 7 x.2.2.2.1.length (x.2.2.2.1.flatMap ccs))),(7,.own (Cell (zhe x.2.1) tyU)),(9,.is (.int .i64 R.at_)),(20,.is (.int .i64 n)),(21,.is (.int .i64 x.1)),(900,.own (xp sb rb sv x.2.2.2.2.2 x.2.2.2.2.1).res)])
   (fun x=>ChJ bs l n Y x.1 x.2.1 x.2.2.1 x.2.2.2.1 x.2.2.2.2.1) (fun x=>n-x.1) (0,none,[],[],R1,R.at_) hj0 ⟨rfl,rfl,rfl,rfl,rfl,rfl,rfl,rfl,rfl,rfl,nm⟩ ?_
  rintro⟨i,la,a,d,R',fr⟩ hj;dsimp only at hj |-;by_cases hlt:i<n
  ·have hstep:=fun(h:Y.2.2=0)=>hj.step hlt h;obtain⟨m,hm⟩:∃ m,n-i=m+1:=⟨n-i-1,by omega⟩
   have hW:=hj.hW;rw[hm] at hW;unfold De at hW;have htz:=Mg (bs:=bs) (R:=R');have hta:=Mh (bs:=bs) (R:=R') hj.at_;have hRa:=hj.at_;have hfst:=hj.first;have hlen:=hj.len;have hza:=hj.za;have hzd:=hj.zd;have hsrc:=fun {w:World} {B:Heap} {C:Nat->Prop} (hB:zpg B w) (hs:BsV bs fu sv B) (hr:(xp sb rb sv R'.at_ R').P B w C) (hC:ZCB C w B)=>zb3 hb hl hRa hB hs hr hC;clear hstep;generalize pz bs R'=zpa at hW htz hta hsrc;obtain⟨⟨t,k⟩,R2⟩:=zpa;dsimp only at hW htz hta hsrc;refine vz (r1:=xk sb [xz rb,.int .i64 fr] M0) (r2:=(GRd rb sv R').res) 900 901 rfl (xe _) ?_;by_cases h2:R2.err≠0
   ·rw[na h2] at hW;subst hW;rw[na h2] at hW0;cases hW0;refine(ZaS∘Zz∘Z8∘Zd) ?_;refine jn (id:=8) 6 rfl (ZaX (h:=?_));refine jg 900 901 rfl Z (xe (GRd rb sv R')) ?_;refine(Zav∘ZN) ?_;refine jk (r:=(xp sb rb sv fr R').res) (K:=6) L 900 rfl Z Z Z Z (fun u H C hH hle hr hC=>La (x:=(t,k)) (fst:=[xz rb]) (cap:=[]) Z h2 hH hr hC (fun u3 H3 C3 hH3 hle3 hr3 hC3=>hsrc hH3 ((hs.le hle).le hle3) hr3 hC3)) (fun _ _ _ _ h=>h) ?_
    repeat (first | refine jx ?_ | refine ja ?_)
    exact p8 nq
   ·rw[nc h2] at hW;have g1:=m4.1 h2;by_cases hte:tE t≠0
    ·rw[na hte] at hW;subst hW;rw[na (show(6:Int)≠0 by decide)] at hW0;cases hW0;refine(ZaS∘Zz∘Z8∘Zd∘ZC∘ZaX) ?_;refine jg 900 901 rfl Z (xe (GRd rb sv R')) ?_;refine Zav (h:=?_);refine zy (y7 L 900 (xp sb rb sv R'.at_ R2) (chv t k) (r:=xp sb rb sv fr R') Z Z Z Z Z (fun u H C hH hle hr hC=>jd (x:=(t,k)) (fst:=[xz rb]) (cap:=[]) Z g1 hH hr hC (fun u3 H3 C3 hH3 hle3 hr3 hC3=>hsrc hH3 ((hs.le hle).le hle3) hr3 hC3))) (Zbx (h:=?_));refine kz 11 913 rfl fun b11=>?_;refine j8 913 rfl fun H1 hs1 _ h11=>?_;have hv1:=hv.le hs1.le;refine jn (id:=9) 5 rfl ((Za∘Zba) ?_);refine z71 L Z (fun u H hH _=>kr htz hH) ?_;refine(Zq∘ZN) ?_;refine jk (r:=(xp sb rb sv R'.at_ R2).res) (K:=5) L 900 rfl Z Z Z Z (fun u H C hH hle hr hC=>gv hH hr hC) (fun _ _ _ _ h=>h) ?_
     repeat (first | refine jx ?_ | refine ja ?_)
     exact p8 hs1
    ·rw[nc hte] at hW;have g2:=m4.1 hte
     cases la with
     | none=>
      have hi0:i=0:=hfst.1 rfl;have hbt:Xj none t=true:=rfl;rw[hbt,nc E] at hW
      cases k with
      | true=>
       by_cases hm2:decide (t∈l)≠true
       ·rw[na hm2] at hW;subst hW;rw[na (show(5:Int)≠0 by decide)] at hW0;cases hW0;have g4:decide (t∈l)=false:=by cases hq:decide (t∈l)<;>simp_all
        refine(ZaS∘Zz∘Z8∘Zd∘ZC∘ZaX) ?_;refine jg 900 901 rfl Z (xe (GRd rb sv R')) ?_;refine Zav (h:=?_);refine zy (y7 L 900 (xp sb rb sv R'.at_ R2) (chv t true) (r:=xp sb rb sv fr R') Z Z Z Z Z (fun u H C hH hle hr hC=>jd (x:=(t,true)) (fst:=[xz rb]) (cap:=[]) Z g1 hH hr hC (fun u3 H3 C3 hH3 hle3 hr3 hC3=>hsrc hH3 ((hs.le hle).le hle3) hr3 hC3))) (Zbx (h:=?_));refine kz 11 913 rfl fun b11=>?_;refine j8 913 rfl fun H1 hs1 _ h11=>?_;have hv1:=hv.le hs1.le;refine(Zau∘Zba) ?_;refine z71 L Z (fun u H hH _=>kr htz hH) ?_;refine ZG (h:=?_);refine zy (yq L 900 (xp sb rb sv R'.at_ R2) (r:=xp sb rb sv R'.at_ R2) Z Z Z Z Z (fun u H C hH _ hr hC=>x8 hH hr hC)) ((Zg∘ZA∘Zb∘ZG∘ZaF∘Zbb∘Zdh) ?_);refine zy (yq L 900 (xp sb rb sv R'.at_ R2) (r:=xp sb rb sv R'.at_ R2) Z Z Z Z Z (fun u H C hH _ hr hC=>x8 hH hr hC)) (Zg (h:=?_));refine ZeG (h:=?_);refine Zec (h:=?_);refine ZeF (h:=?_);refine ZdC (h:=?_);refine jp (zx L (vs:=[_,_,_,_,_,_]) (qh Z h11) Z Z Z Z ⟨_,rfl⟩) Z (jp (zz L Z Z (zn Z) Z Z Z (fun u H hH hle _=>jb g4 hH (hv1.le hle))) Z (ZdC (h:=?_)));refine jp (qf L (qh Z h11) Z Z Z Z) Z (ZeH (h:=?_));refine iu [(48,.is (xz sb)),(55,.is (.bool false)),(900,.own (xp sb rb sv R'.at_ R2).res)] J ⟨Z,Z,Z,nm⟩ (jk (r:=(xp sb rb sv R'.at_ R2).res) (K:=8) L 900 rfl Z Z Z Z (fun u H C hH hle hr hC=>gv hH hr hC) (fun _ _ _ _ h=>h) ?_)
        repeat (first | refine jx ?_ | refine ja ?_)
        exact p8 hs1
       ·rw[nc hm2] at hW;have g4:=m4.1 hm2;have hj2:ChJ bs l n Y (i+1) (some t) (a) (d++[(t,true)]) R2:=⟨hlt,by rw[show n-(i+1)=m by omega];exact hW,g1,hta,⟨fun h=>by(cases h),fun h=>by(cases h)⟩,by simp only[nr,zme];omega,hza,fun c hc=>by(rcases mn.1 hc with h3 | h3;exact hzd c h3;rw[m6] at h3;subst h3;exact htz)⟩
        refine(ZaS∘Zz∘Z8∘Zd∘ZC∘ZaX) ?_;refine jg 900 901 rfl Z (xe (GRd rb sv R')) ?_;refine Zav (h:=?_);refine zy (y7 L 900 (xp sb rb sv R'.at_ R2) (chv t true) (r:=xp sb rb sv fr R') Z Z Z Z Z (fun u H C hH hle hr hC=>jd (x:=(t,true)) (fst:=[xz rb]) (cap:=[]) Z g1 hH hr hC (fun u3 H3 C3 hH3 hle3 hr3 hC3=>hsrc hH3 ((hs.le hle).le hle3) hr3 hC3))) (Zbx (h:=?_));refine kz 11 913 rfl fun b11=>?_;refine j8 913 rfl fun H1 hs1 _ h11=>?_;have hv1:=hv.le hs1.le;refine(Zau∘Zba) ?_;refine z71 L Z (fun u H hH _=>kr htz hH) ?_;refine ZG (h:=?_);refine zy (yq L 900 (xp sb rb sv R'.at_ R2) (r:=xp sb rb sv R'.at_ R2) Z Z Z Z Z (fun u H C hH _ hr hC=>x8 hH hr hC)) ((Zg∘ZA∘Zb∘ZG∘ZaF∘Zbb∘Zdh) ?_);refine zy (yq L 900 (xp sb rb sv R'.at_ R2) (r:=xp sb rb sv R'.at_ R2) Z Z Z Z Z (fun u H C hH _ hr hC=>x8 hH hr hC)) ((Zg∘ZdB∘Zj∘Zce∘ZbZ) ?_);refine z81 L Z (fun u H hH hle=>jb g4 hH (hv1.le hle)) ?_;refine(ZbJ∘Zw∘ZcJ) ?_;refine xw (yq L 900 (xp sb rb sv R'.at_ R2) (r:=xp sb rb sv R'.at_ R2) Z Z Z Z Z (fun u H C hH _ hr hC=>x8 hH hr hC)) Z Z ((ZaJ∘ZW∘Zba∘ZaL∘Zg∘ZX∘ZaB∘Zcn∘ZD∘Zbo) ?_);refine zy (yo (.inl Z) Z) ((ZdA∘Zae∘ZcY) ?_);refine zy (yo (.inr Z) Z) ((Zbp∘Zap∘Zbc) ?_);exact wk (x:=(i,none,a,d,R',fr)) (i+1,some t,a,d++[(t,true)],R2,R'.at_) hs1 hj2 G ⟨Z,Z,Z,Z,fq Z,Z,Z,Z,Z,Z,nm⟩
      | false=>
       by_cases hm2:decide (t∈l)≠false
       ·rw[na hm2] at hW;subst hW;rw[na (show(5:Int)≠0 by decide)] at hW0;cases hW0;have g4:decide (t∈l)=true:=by cases hq:decide (t∈l)<;>simp_all
        refine(ZaS∘Zz∘Z8∘Zd∘ZC∘ZaX) ?_;refine jg 900 901 rfl Z (xe (GRd rb sv R')) ?_;refine Zav (h:=?_);refine zy (y7 L 900 (xp sb rb sv R'.at_ R2) (chv t false) (r:=xp sb rb sv fr R') Z Z Z Z Z (fun u H C hH hle hr hC=>jd (x:=(t,false)) (fst:=[xz rb]) (cap:=[]) Z g1 hH hr hC (fun u3 H3 C3 hH3 hle3 hr3 hC3=>hsrc hH3 ((hs.le hle).le hle3) hr3 hC3))) (Zbx (h:=?_));refine kz 11 913 rfl fun b11=>?_;refine j8 913 rfl fun H1 hs1 _ h11=>?_;have hv1:=hv.le hs1.le;refine(Zau∘Zba) ?_;refine z71 L Z (fun u H hH _=>kr htz hH) ?_;refine ZG (h:=?_);refine zy (yq L 900 (xp sb rb sv R'.at_ R2) (r:=xp sb rb sv R'.at_ R2) Z Z Z Z Z (fun u H C hH _ hr hC=>x8 hH hr hC)) ((Zg∘ZA∘Zb∘ZG∘ZaF∘Zbb∘Zdh) ?_);refine zy (yq L 900 (xp sb rb sv R'.at_ R2) (r:=xp sb rb sv R'.at_ R2) Z Z Z Z Z (fun u H C hH _ hr hC=>x8 hH hr hC)) (Zg (h:=?_));refine ZeG (h:=?_);refine Zec (h:=?_);refine ZeF (h:=?_);refine ZdC (h:=?_);refine jp (zx L (vs:=[_,_,_,_,_,_]) (qh Z h11) Z Z Z Z ⟨_,rfl⟩) Z (jp (zz L Z Z (zn Z) Z Z Z (fun u H hH hle _=>jb g4 hH (hv1.le hle))) Z (ZdC (h:=?_)));refine jp (qf L (qh Z h11) Z Z Z Z) Z (ZeH (h:=?_));refine iu [(48,.is (xz sb)),(55,.is (.bool false)),(900,.own (xp sb rb sv R'.at_ R2).res)] J ⟨Z,Z,Z,nm⟩ (jk (r:=(xp sb rb sv R'.at_ R2).res) (K:=8) L 900 rfl Z Z Z Z (fun u H C hH hle hr hC=>gv hH hr hC) (fun _ _ _ _ h=>h) ?_)
        repeat (first | refine jx ?_ | refine ja ?_)
        exact p8 hs1
       ·rw[nc hm2] at hW;have g4:=m4.1 hm2;have hj2:ChJ bs l n Y (i+1) (some t) (a++[(t,false)]) (d) R2:=⟨hlt,by rw[show n-(i+1)=m by omega];exact hW,g1,hta,⟨fun h=>by(cases h),fun h=>by(cases h)⟩,by simp only[nr,zme];omega,fun c hc=>by(rcases mn.1 hc with h3 | h3;exact hza c h3;rw[m6] at h3;subst h3;exact htz),hzd⟩
        refine(ZaS∘Zz∘Z8∘Zd∘ZC∘ZaX) ?_;refine jg 900 901 rfl Z (xe (GRd rb sv R')) ?_;refine Zav (h:=?_);refine zy (y7 L 900 (xp sb rb sv R'.at_ R2) (chv t false) (r:=xp sb rb sv fr R') Z Z Z Z Z (fun u H C hH hle hr hC=>jd (x:=(t,false)) (fst:=[xz rb]) (cap:=[]) Z g1 hH hr hC (fun u3 H3 C3 hH3 hle3 hr3 hC3=>hsrc hH3 ((hs.le hle).le hle3) hr3 hC3))) (Zbx (h:=?_));refine kz 11 913 rfl fun b11=>?_;refine j8 913 rfl fun H1 hs1 _ h11=>?_;have hv1:=hv.le hs1.le;refine(Zau∘Zba) ?_;refine z71 L Z (fun u H hH _=>kr htz hH) ?_;refine ZG (h:=?_);refine zy (yq L 900 (xp sb rb sv R'.at_ R2) (r:=xp sb rb sv R'.at_ R2) Z Z Z Z Z (fun u H C hH _ hr hC=>x8 hH hr hC)) ((Zg∘ZA∘Zb∘ZG∘ZaF∘Zbb∘Zdh) ?_);refine zy (yq L 900 (xp sb rb sv R'.at_ R2) (r:=xp sb rb sv R'.at_ R2) Z Z Z Z Z (fun u H C hH _ hr hC=>x8 hH hr hC)) ((Zg∘ZdB∘Zj∘Zce∘ZbZ) ?_);refine z81 L Z (fun u H hH hle=>jb g4 hH (hv1.le hle)) ?_;refine(ZbJ∘Zw∘ZcJ) ?_;refine xw (yq L 900 (xp sb rb sv R'.at_ R2) (r:=xp sb rb sv R'.at_ R2) Z Z Z Z Z (fun u H C hH _ hr hC=>x8 hH hr hC)) Z Z ((ZaJ∘ZW∘Zba∘ZaL∘Zg∘ZX∘ZaB∘Zcn∘ZZ∘Za0) ?_);refine zy (yo (.inl Z) Z) ((ZdA∘Zae∘ZcY) ?_);refine zy (yo (.inr Z) Z) ((Zbp∘Zap∘Zbc) ?_);exact wk (x:=(i,none,a,d,R',fr)) (i+1,some t,a++[(t,false)],d,R2,R'.at_) hs1 hj2 G ⟨Z,Z,Z,fq Z,Z,Z,Z,Z,Z,Z,nm⟩
     | some y=>
      have hi0:i≠0:=fun h=>by have:=hfst.2 h;cases this
      by_cases hbh:Xj (some y) t=false
      ·rw[na hbh] at hW;subst hW;rw[na (show(18:Int)≠0 by decide)] at hW0;cases hW0;have g3:¬ kq y t<0:=of_decide_eq_false hbh;refine(ZaS∘Zz∘Z8∘Zd∘ZC∘ZaX) ?_;refine jg 900 901 rfl Z (xe (GRd rb sv R')) ?_;refine Zav (h:=?_);refine zy (y7 L 900 (xp sb rb sv R'.at_ R2) (chv t k) (r:=xp sb rb sv fr R') Z Z Z Z Z (fun u H C hH hle hr hC=>jd (x:=(t,k)) (fst:=[xz rb]) (cap:=[]) Z g1 hH hr hC (fun u3 H3 C3 hH3 hle3 hr3 hC3=>hsrc hH3 ((hs.le hle).le hle3) hr3 hC3))) (Zbx (h:=?_));refine kz 11 913 rfl fun b11=>?_;refine j8 913 rfl fun H1 hs1 _ h11=>?_;have hv1:=hv.le hs1.le;refine(Zau∘Zba) ?_;refine z71 L Z (fun u H hH _=>kr htz hH) ?_;refine ZG (h:=?_);refine zy (yq L 900 (xp sb rb sv R'.at_ R2) (r:=xp sb rb sv R'.at_ R2) Z Z Z Z Z (fun u H C hH _ hr hC=>x8 hH hr hC)) (Zg (h:=?_));refine jn (id:=10) 10 rfl ((Zb∘Zq∘Za∘Zbq∘Zba) ?_);refine z71 L Z (fun u H hH _=>jh (a:=y) (b:=t) hH) ?_;refine(Zac∘Zl∘ZN) ?_;refine jk (r:=(xp sb rb sv R'.at_ R2).res) (K:=10) L 900 rfl Z Z Z Z (fun u H C hH hle hr hC=>gv hH hr hC) (fun _ _ _ _ h=>h) ?_
       repeat (first | refine jx ?_ | refine ja ?_)
       exact p8 hs1
      ·rw[nc hbh] at hW;have g3:kq y t<0:=by unfold Xj at hbh;exact Decidable.not_not.1 fun h=>hbh (decide_eq_false h)
       cases k with
       | true=>
        by_cases hm2:decide (t∈l)≠true
        ·rw[na hm2] at hW;subst hW;rw[na (show(5:Int)≠0 by decide)] at hW0;cases hW0;have g4:decide (t∈l)=false:=by cases hq:decide (t∈l)<;>simp_all
         refine(ZaS∘Zz∘Z8∘Zd∘ZC∘ZaX) ?_;refine jg 900 901 rfl Z (xe (GRd rb sv R')) ?_;refine Zav (h:=?_);refine zy (y7 L 900 (xp sb rb sv R'.at_ R2) (chv t true) (r:=xp sb rb sv fr R') Z Z Z Z Z (fun u H C hH hle hr hC=>jd (x:=(t,true)) (fst:=[xz rb]) (cap:=[]) Z g1 hH hr hC (fun u3 H3 C3 hH3 hle3 hr3 hC3=>hsrc hH3 ((hs.le hle).le hle3) hr3 hC3))) (Zbx (h:=?_));refine kz 11 913 rfl fun b11=>?_;refine j8 913 rfl fun H1 hs1 _ h11=>?_;have hv1:=hv.le hs1.le;refine(Zau∘Zba) ?_;refine z71 L Z (fun u H hH _=>kr htz hH) ?_;refine ZG (h:=?_);refine zy (yq L 900 (xp sb rb sv R'.at_ R2) (r:=xp sb rb sv R'.at_ R2) Z Z Z Z Z (fun u H C hH _ hr hC=>x8 hH hr hC)) ((Zg∘ZA∘Zb∘Zq∘Za∘Zbq∘Zba) ?_);refine z71 L Z (fun u H hH _=>jh (a:=y) (b:=t) hH) ?_;refine(Zab∘Zl) ?_;refine zy (yq L 900 (xp sb rb sv R'.at_ R2) (r:=xp sb rb sv R'.at_ R2) Z Z Z Z Z (fun u H C hH _ hr hC=>x8 hH hr hC)) (Zg (h:=?_));refine ZeG (h:=?_);refine Zec (h:=?_);refine ZeF (h:=?_);refine ZdC (h:=?_);refine jp (zx L (vs:=[_,_,_,_,_,_]) (qh Z h11) Z Z Z Z ⟨_,rfl⟩) Z (jp (zz L Z Z (zn Z) Z Z Z (fun u H hH hle _=>jb g4 hH (hv1.le hle))) Z (ZdC (h:=?_)));refine jp (qf L (qh Z h11) Z Z Z Z) Z (ZeH (h:=?_));refine iu [(48,.is (xz sb)),(55,.is (.bool false)),(900,.own (xp sb rb sv R'.at_ R2).res)] J ⟨Z,Z,Z,nm⟩ (jk (r:=(xp sb rb sv R'.at_ R2).res) (K:=8) L 900 rfl Z Z Z Z (fun u H C hH hle hr hC=>gv hH hr hC) (fun _ _ _ _ h=>h) ?_)
         repeat (first | refine jx ?_ | refine ja ?_)
         exact p8 hs1
        ·rw[nc hm2] at hW;have g4:=m4.1 hm2;have hj2:ChJ bs l n Y (i+1) (some t) (a) (d++[(t,true)]) R2:=⟨hlt,by rw[show n-(i+1)=m by omega];exact hW,g1,hta,⟨fun h=>by(cases h),fun h=>by(cases h)⟩,by simp only[nr,zme];omega,hza,fun c hc=>by(rcases mn.1 hc with h3 | h3;exact hzd c h3;rw[m6] at h3;subst h3;exact htz)⟩
         refine(ZaS∘Zz∘Z8∘Zd∘ZC∘ZaX) ?_;refine jg 900 901 rfl Z (xe (GRd rb sv R')) ?_;refine Zav (h:=?_);refine zy (y7 L 900 (xp sb rb sv R'.at_ R2) (chv t true) (r:=xp sb rb sv fr R') Z Z Z Z Z (fun u H C hH hle hr hC=>jd (x:=(t,true)) (fst:=[xz rb]) (cap:=[]) Z g1 hH hr hC (fun u3 H3 C3 hH3 hle3 hr3 hC3=>hsrc hH3 ((hs.le hle).le hle3) hr3 hC3))) (Zbx (h:=?_));refine kz 11 913 rfl fun b11=>?_;refine j8 913 rfl fun H1 hs1 _ h11=>?_;have hv1:=hv.le hs1.le;refine(Zau∘Zba) ?_;refine z71 L Z (fun u H hH _=>kr htz hH) ?_;refine ZG (h:=?_);refine zy (yq L 900 (xp sb rb sv R'.at_ R2) (r:=xp sb rb sv R'.at_ R2) Z Z Z Z Z (fun u H C hH _ hr hC=>x8 hH hr hC)) ((Zg∘ZA∘Zb∘Zq∘Za∘Zbq∘Zba) ?_);refine z71 L Z (fun u H hH _=>jh (a:=y) (b:=t) hH) ?_;refine(Zab∘Zl) ?_;refine zy (yq L 900 (xp sb rb sv R'.at_ R2) (r:=xp sb rb sv R'.at_ R2) Z Z Z Z Z (fun u H C hH _ hr hC=>x8 hH hr hC)) ((Zg∘ZdB∘Zj∘Zce∘ZbZ) ?_);refine z81 L Z (fun u H hH hle=>jb g4 hH (hv1.le hle)) ?_;refine(ZbJ∘Zw∘ZcJ) ?_;refine xw (yq L 900 (xp sb rb sv R'.at_ R2) (r:=xp sb rb sv R'.at_ R2) Z Z Z Z Z (fun u H C hH _ hr hC=>x8 hH hr hC)) Z Z ((ZaJ∘ZW∘Zba∘ZaL∘Zg∘ZX∘ZaB∘Zcn∘ZD∘Zbo) ?_);refine zy (yo (.inl Z) Z) ((ZdA∘Zae∘ZcY) ?_);refine zy (yo (.inr Z) Z) ((Zbp∘Zap∘Zbc) ?_);exact wk (x:=(i,some y,a,d,R',fr)) (i+1,some t,a,d++[(t,true)],R2,R'.at_) hs1 hj2 G ⟨Z,Z,Z,Z,fq Z,Z,Z,Z,Z,Z,nm⟩
       | false=>
        by_cases hm2:decide (t∈l)≠false
        ·rw[na hm2] at hW;subst hW;rw[na (show(5:Int)≠0 by decide)] at hW0;cases hW0;have g4:decide (t∈l)=true:=by cases hq:decide (t∈l)<;>simp_all
         refine(ZaS∘Zz∘Z8∘Zd∘ZC∘ZaX) ?_;refine jg 900 901 rfl Z (xe (GRd rb sv R')) ?_;refine Zav (h:=?_);refine zy (y7 L 900 (xp sb rb sv R'.at_ R2) (chv t false) (r:=xp sb rb sv fr R') Z Z Z Z Z (fun u H C hH hle hr hC=>jd (x:=(t,false)) (fst:=[xz rb]) (cap:=[]) Z g1 hH hr hC (fun u3 H3 C3 hH3 hle3 hr3 hC3=>hsrc hH3 ((hs.le hle).le hle3) hr3 hC3))) (Zbx (h:=?_));refine kz 11 913 rfl fun b11=>?_;refine j8 913 rfl fun H1 hs1 _ h11=>?_;have hv1:=hv.le hs1.le;refine(Zau∘Zba) ?_;refine z71 L Z (fun u H hH _=>kr htz hH) ?_;refine ZG (h:=?_);refine zy (yq L 900 (xp sb rb sv R'.at_ R2) (r:=xp sb rb sv R'.at_ R2) Z Z Z Z Z (fun u H C hH _ hr hC=>x8 hH hr hC)) ((Zg∘ZA∘Zb∘Zq∘Za∘Zbq∘Zba) ?_);refine z71 L Z (fun u H hH _=>jh (a:=y) (b:=t) hH) ?_;refine(Zab∘Zl) ?_;refine zy (yq L 900 (xp sb rb sv R'.at_ R2) (r:=xp sb rb sv R'.at_ R2) Z Z Z Z Z (fun u H C hH _ hr hC=>x8 hH hr hC)) (Zg (h:=?_));refine ZeG (h:=?_);refine Zec (h:=?_);refine ZeF (h:=?_);refine ZdC (h:=?_);refine jp (zx L (vs:=[_,_,_,_,_,_]) (qh Z h11) Z Z Z Z ⟨_,rfl⟩) Z (jp (zz L Z Z (zn Z) Z Z Z (fun u H hH hle _=>jb g4 hH (hv1.le hle))) Z (ZdC (h:=?_)));refine jp (qf L (qh Z h11) Z Z Z Z) Z (ZeH (h:=?_));refine iu [(48,.is (xz sb)),(55,.is (.bool false)),(900,.own (xp sb rb sv R'.at_ R2).res)] J ⟨Z,Z,Z,nm⟩ (jk (r:=(xp sb rb sv R'.at_ R2).res) (K:=8) L 900 rfl Z Z Z Z (fun u H C hH hle hr hC=>gv hH hr hC) (fun _ _ _ _ h=>h) ?_)
         repeat (first | refine jx ?_ | refine ja ?_)
         exact p8 hs1
        ·rw[nc hm2] at hW;have g4:=m4.1 hm2;have hj2:ChJ bs l n Y (i+1) (some t) (a++[(t,false)]) (d) R2:=⟨hlt,by rw[show n-(i+1)=m by omega];exact hW,g1,hta,⟨fun h=>by(cases h),fun h=>by(cases h)⟩,by simp only[nr,zme];omega,fun c hc=>by(rcases mn.1 hc with h3 | h3;exact hza c h3;rw[m6] at h3;subst h3;exact htz),hzd⟩
         refine(ZaS∘Zz∘Z8∘Zd∘ZC∘ZaX) ?_;refine jg 900 901 rfl Z (xe (GRd rb sv R')) ?_;refine Zav (h:=?_);refine zy (y7 L 900 (xp sb rb sv R'.at_ R2) (chv t false) (r:=xp sb rb sv fr R') Z Z Z Z Z (fun u H C hH hle hr hC=>jd (x:=(t,false)) (fst:=[xz rb]) (cap:=[]) Z g1 hH hr hC (fun u3 H3 C3 hH3 hle3 hr3 hC3=>hsrc hH3 ((hs.le hle).le hle3) hr3 hC3))) (Zbx (h:=?_));refine kz 11 913 rfl fun b11=>?_;refine j8 913 rfl fun H1 hs1 _ h11=>?_;have hv1:=hv.le hs1.le;refine(Zau∘Zba) ?_;refine z71 L Z (fun u H hH _=>kr htz hH) ?_;refine ZG (h:=?_);refine zy (yq L 900 (xp sb rb sv R'.at_ R2) (r:=xp sb rb sv R'.at_ R2) Z Z Z Z Z (fun u H C hH _ hr hC=>x8 hH hr hC)) ((Zg∘ZA∘Zb∘Zq∘Za∘Zbq∘Zba) ?_);refine z71 L Z (fun u H hH _=>jh (a:=y) (b:=t) hH) ?_;refine(Zab∘Zl) ?_;refine zy (yq L 900 (xp sb rb sv R'.at_ R2) (r:=xp sb rb sv R'.at_ R2) Z Z Z Z Z (fun u H C hH _ hr hC=>x8 hH hr hC)) ((Zg∘ZdB∘Zj∘Zce∘ZbZ) ?_);refine z81 L Z (fun u H hH hle=>jb g4 hH (hv1.le hle)) ?_;refine(ZbJ∘Zw∘ZcJ) ?_;refine xw (yq L 900 (xp sb rb sv R'.at_ R2) (r:=xp sb rb sv R'.at_ R2) Z Z Z Z Z (fun u H C hH _ hr hC=>x8 hH hr hC)) Z Z ((ZaJ∘ZW∘Zba∘ZaL∘Zg∘ZX∘ZaB∘Zcn∘ZZ∘Za0) ?_);refine zy (yo (.inl Z) Z) ((ZdA∘Zae∘ZcY) ?_);refine zy (yo (.inr Z) Z) ((Zbp∘Zap∘Zbc) ?_);exact wk (x:=(i,some y,a,d,R',fr)) (i+1,some t,a++[(t,false)],d,R2,R'.at_) hs1 hj2 G ⟨Z,Z,Z,fq Z,Z,Z,Z,Z,Z,Z,nm⟩
  ·obtain rfl:i=n:=by have:=hj.hi;omega
   have hW:=hj.hW;rw[zmd] at hW;have hW2:(((a,d),R'),((0:Int),(0:Int)))=Y:=hW;subst hW2;rw[nc (fun h=>h rfl)] at hW0;dsimp only at hW0;by_cases h3:l.length+a.length>4096+d.length
   ·rw[na h3] at hW0;cases hW0;have hlen:=hj.len;refine vz (r1:=xk sb [xz rb,.int .i64 fr] M0) (r2:=(GRd rb sv R').res) 900 901 rfl (xe _) ?_;refine l6 5 rfl ?_;refine tx 6 931 _ Z SlR.shape fun z6 hz6=>?_;obtain⟨p6,c6,rfl⟩:=hz6;refine(ZaS∘ZaO∘Zb8∘Zb∘ZY) ?_;refine xh (ye L (q:=900) (cs':=[xz rb,.int .i64 R.at_]) Z Z Z Z Z) (Zg (h:=?_));refine jn (id:=18) 10 rfl ((Za∘Zbg) ?_);refine z71 L Z (fun u H hH hle=>f0 (l:=l) Z hH (hv.le hle)) ?_;refine(Zh∘ZaE∘Za∘ZaC∘Zc3∘ZcB) ?_;refine jg 900 901 rfl Z (xe (GRd rb sv R')) ?_;refine ZN (h:=?_);refine jk (r:=(xp sb rb sv R.at_ R').res) (K:=10) L 900 rfl Z Z Z Z (fun u H C hH hle hr hC=>gv hH hr hC) (fun _ _ _ _ h=>h) ?_
    repeat (first | refine jx ?_ | refine ja ?_)
    exact p8 nq
   ·rw[nc h3] at hW0;cases hW0;exact ni Z he
def Vn:∀ {k:Nat} {la:Option U} {a d:List CH} {R:Rd},R.at_<=bs.length->(De bs l k la a d R).1.2.at_<=bs.length
 | 0,_,_,_,_,h=>h
 | k+1,la,a,d,R,h=>by
  unfold De;split
  ·exact h
  ·split
   ·exact h
   ·split
    ·exact h
    ·split
     ·exact h
     ·exact Vn (Mh h)
def zey(h:R.at_<=bs.length):(sj bs l R).1.2.at_<=bs.length:=by
 have h1:=ez (bs:=bs) (lim:=8192) h;unfold sj;split
 ·exact h
 ·split
  ·exact h
  ·split
   ·exact h
   ·exact Vn h1
def za3(h:l.length<=4096):(sj bs l R).1.1.length<=4096:=by
 unfold sj;split
 ·exact h
 ·split
  ·exact h
  ·split
   ·exact h
   ·exact Fh _ h
def Oo:∀ {k:Nat} {la:Option U} {a d:List CH} {R:Rd},R.err=0->(De bs l k la a d R).2.2=0->(De bs l k la a d R).1.2.err=0
 | 0,_,_,_,_,h,_=>h
 | k+1,la,a,d,R,h,he=>by
  unfold De at he |-;by_cases h1:(pz bs R).2.err≠0
  ·rw[na h1] at he;exact ni he h1
  ·rw[nc h1] at he |-;by_cases h2:tE (pz bs R).1.1≠0
   ·rw[na h2] at he;exact ni he (show(6:Int)≠0 by decide)
   ·rw[nc h2] at he |-;by_cases h3:Xj la (pz bs R).1.1=false
    ·rw[na h3] at he;exact ni he (show(18:Int)≠0 by decide)
    ·rw[nc h3] at he |-;by_cases h4:decide ((pz bs R).1.1∈l)≠(pz bs R).1.2
     ·rw[na h4] at he;exact ni he (show(5:Int)≠0 by decide)
     ·rw[nc h4] at he |-;exact Oo (m4.1 h1) he
def za4(he:(sj bs l R).2.2=0):(sj bs l R).1.2.err=0:=by
 unfold sj at he |-;by_cases h1:(j9 bs 8192 R).2.err≠0
 ·rw[na h1] at he;exact ni he h1
 ·rw[nc h1] at he |-;split at he
  ·rename_i h2;exact ni he h2
  ·rename_i h2;rw[nc h2];split at he
   ·exact ni he (show(3:Int)≠0 by decide)
   ·rename_i h3;rw[nc h3];exact Oo (m4.1 h1) (m4.1 h2)
def ldW(bs:List Nat):Nat->Nat->List U->List (Int×List U)->List Int->Rd->((List (Int×List U)×List Int)×Rd)×(Int×Int)
 | 0,_,_,zs,P,R=>(((zs,P),R),(0,0))
 | k+1,last,s,zs,P,R=>
  if (iz bs R).2.err≠0 then (((zs,P),R),(((iz bs R).2.bad:Int),(iz bs R).2.err))
  else if ¬ (0<(iz bs R).1/\(iz bs R).1<=18446744073709551615-last) then (((zs,P),R),((R.at_:Int),5))
  else if (j9 bs 4096 (iz bs R).2).2.err≠0 then (((zs,P),R),(((j9 bs 4096 (iz bs R).2).2.bad:Int),(j9 bs 4096 (iz bs R).2).2.err))
  else if (sj bs s (j9 bs 4096 (iz bs R).2).2).2.2≠0 then (((zs,P),R),(sj bs s (j9 bs 4096 (iz bs R).2).2).2)
  else ldW bs k (last+(iz bs R).1) (sj bs s (j9 bs 4096 (iz bs R).2).2).1.1 (zs++[(((last+(iz bs R).1:Nat):Int),(sj bs s (j9 bs 4096 (iz bs R).2).2).1.1)]) (P++List.replicate (j9 bs 4096 (iz bs R).2).1.toNat ((last+(iz bs R).1:Nat):Int)) (sj bs s (j9 bs 4096 (iz bs R).2).2).1.2
def ldF(bs:List Nat):(List (Int×List U)×List Int)×(Int×Int):=
 if (j9 bs 1024 ⟨0,0,0⟩).2.err≠0 then (([],[]),(((j9 bs 1024 ⟨0,0,0⟩).2.bad:Int),(j9 bs 1024 ⟨0,0,0⟩).2.err))
 else if (j9 bs 1024 ⟨0,0,0⟩).1=0 then (([],[]),(0,5))
 else if (ldW bs (j9 bs 1024 ⟨0,0,0⟩).1.toNat 0 [] [] [] (j9 bs 1024 ⟨0,0,0⟩).2).2.2≠0 then (([],[]),(ldW bs (j9 bs 1024 ⟨0,0,0⟩).1.toNat 0 [] [] [] (j9 bs 1024 ⟨0,0,0⟩).2).2)
 else if (E8 bs (ldW bs (j9 bs 1024 ⟨0,0,0⟩).1.toNat 0 [] [] [] (j9 bs 1024 ⟨0,0,0⟩).2).1.2).2≠0 then (([],[]),(((E8 bs (ldW bs (j9 bs 1024 ⟨0,0,0⟩).1.toNat 0 [] [] [] (j9 bs 1024 ⟨0,0,0⟩).2).1.2).1:Int),(E8 bs (ldW bs (j9 bs 1024 ⟨0,0,0⟩).1.toNat 0 [] [] [] (j9 bs 1024 ⟨0,0,0⟩).2).1.2).2))
 else ((ldW bs (j9 bs 1024 ⟨0,0,0⟩).1.toNat 0 [] [] [] (j9 bs 1024 ⟨0,0,0⟩).2).1.1,(0,0))
end Go.V.L11
namespace Go.V.L10
def Qr{L:List Int}(hn:0<n):kj (L++List.replicate n r)=kj (L++[r]):=l8 fz (v8 _) (v8 _) fun z=>by
 rw[jl,jl,mn,mn,List.mem_replicate,m6];constructor
 ·rintro(h | h)
  ·exact .inl h
  ·exact .inr h.2
 ·rintro(h | h)
  ·exact .inl h
  ·exact .inr ⟨by omega,h⟩
def Au{L:List Int}(hn:0<n)(h:r∉L):xc (L++List.replicate n r)=Hl (xc L) (cr cP r (kj L)) (r,(n:Int)):=by
 have key:∀ l:List Int,(∀ x∈l,x∈L)->l.map (fun x=>(x,((L++List.replicate n r).count x:Int)))=l.map fun x=>(x,(L.count x:Int)):=fun l hl=>zom fun x hx=>by
  have hxr:x≠r:=fun e=>h (e ▸ hl x hx);simp [znp,List.count_replicate,hxr.symm]
 unfold xc Hl;rw[Qr hn,Da h,zli,mp,zml,zmz,<-zml,<-zmz,key _ fun x hx=>jl.1 (zn8 hx),key _ fun x hx=>jl.1 (zo2 hx),zml,zmz];congr 2;simp [znp,zon.2 h]
attribute [local irreducible] V N X VO Par StepOK Has Ret RetL RetO RetT ki RetX Src
def Q1{t:Nat}(h:¬ r∈kj L0)(hz2:(xc L0).length<=100000){s:Value}(hB:zpg B w)(hv:PsV (xc L0) s B):
  Ret zph 143 [pnv s t,.int .u64 r] w B (fun v _=>v=.int .i64 0):=by
 have h1:=rf (r:=r) (t:=t) hz2 hB hv
 rwa [zon.2 fun hm=>h (jl.2 hm)] at h1
def Ty(hr:r≠0)(hn0:0<n)(hn:n<=4096)(hnew:r∉L0)(hz2:(xc L0).length<1024)(hz:L0.length<=1000000000000){s:Value}(hB:zpg B w)(hv:PsV (xc L0) s B):
  Ret zph 152 [pnv s L0.length,.int .u64 r,.int .i64 n] w B (PinP (L0++List.replicate n r) 0):=by
 have hm:¬ r∈kj L0:=fun h=>hnew (jl.1 h);have hws:IntKind.i64.wrap (4096-0)=4096:=E;have hwt:IntKind.i64.wrap ((L0.length:Int)+(n:Int))=((L0++List.replicate n r).length:Nat):=by rw[nr,List.length_replicate];exact(yy T T).trans T
 have hwc:IntKind.i64.wrap (0+(n:Int))=(n:Int):=(yy T T).trans T;have e1:=Au (L:=L0) hn0 hnew;obtain⟨p,c,rfl⟩:=ky hv;have hpl:=Sl (L0:=L0) r;have hf:decide (r∈kj L0)=false:=ng hm;generalize hat:cr cP r (kj L0)=at_ at *;have e2:xc (L0++List.replicate n r)=(Hl (xc L0) at_ (r,0)).set at_ (r,(n:Int)):=by rw[N5 hpl];exact e1
 have hp:=Un (x:=(r,(0:Int))) hpl;have hpi:=get_lt hp;have hil:=ia (x:=(r,(0:Int))) hpl;refine yh Tryz.func152 Z Tryz.ntmps152 (np Z) hB ((Z7∘Z2∘Zd∘Z6∘ZaZ∘Zac∘Zan∘Zp∘Zq∘Zan∘ZT∘Zq∘Zc4∘Zbj∘Zao∘Zbk∘ZK∘Za1∘Za) ?_);refine z71 L Z (fun u H hH hle=>hf ▸ hat ▸ oe (L0:=L0) (t:=L0.length) T hH (hv.le hle)) ?_;refine(Z1∘Za8∘Zbe∘Za1∘Za) ?_;refine z71 L Z (fun u H hH hle=>Q1 (L0:=L0) (t:=L0.length) hm T hH (hv.le hle)) ?_;refine(Zar∘ZJ∘Zb∘Zt∘Za∘Zai∘ZaC∘Zq∘Zl∘ZbV∘ZA∘Zai∘ZeX) ?_;refine zy (yo (.inr Z) Z) ((Zay∘ZV∘Za∘Zt∘ZD∘ZW) ?_);refine zy (yo (.inl Z) Z) (Zb (h:=?_));refine z7 (yt (cs:=[_,_]) Z Z zgp Z Z) Z (Zae (h:=?_));refine zy (iw L (q:=51) Z Z Z Z Z (fun u H C x hH hle hx hC v2 hv2=>C5 (y:=(r,0)) hpl T hH hv2 hx hC)) (zy (yo (.inr Z) Z) (Zg (h:=?_)));rw[<-hil];refine b9 10 900 rfl (fun h0 _=>by omega) fun b cap rest hl hmc hcm hcl=>?_;obtain⟨tl,hld⟩:=zdq hp rest;have hst:=Sn hp (n:Int) rest;have hbl:=Sp hpi rest;refine(ZX∘Zb∘ZcT∘ZaB) ?_;refine qz (qb L (q:=900) Z Z Z hld) ((Za∘Zy∘ZcT∘ZaB) ?_);refine xh (ye L (q:=900) Z Z hbl Z hst) (Zg (h:=?_));have hln:(xc (L0++List.replicate n r)).length=(Hl (xc L0) at_ (r,0)).length:=by rw[e2,zna]
 rw[<-e2];refine jw (s:=2) (xs:=(xc (L0++List.replicate n r)).flatMap pnc) (rest:=rest) 10 900 rfl Z Z (by rw[lg,hln]) hmc hcm (by rw[nr,lg,hln,<-lg,<-nr];exact hcl) ?_;refine V8 10 rfl fun x H hs _ hsw=>?_;have hsv:PsV (xc (L0++List.replicate n r)) x H:=by unfold PsV;rw[hln];exact hsw.toV
 obtain⟨p2,c2,rfl⟩:=ky hsv;refine(Zbw∘Zai∘Za∘ZeY∘ZaQ) ?_;refine yg L (rs:=[.cell 6 224,.tmp 7]) Z (fun _ _ h=>h) hs fun u H hH hle=>?_;exact⟨_,qw Z,rfl,_,rfl,hsv.le hle⟩
open Go.V.L2 Go.V.L8 Go.V.L6
def _root_.ZeI(t:Wr Y->A:=by intro h;refine qz (qb L (q:=902) Z Z Z Z) ?_;exact h.1)(h:Y):A:=t ⟨h⟩
attribute [local irreducible] RetY
def Ur{t:Nat}(hz2:(xc L0).length<=100000){s:Value}(hB:zpg B w)(hv:PsV (xc L0) s B):
  Ret zph 211 [pnv s t] w B (RsV (kj L0) true):=by
 have hat:∀ (i:Nat) (x:Int),(kj L0)[i]?=some x->(xc L0)[i]?=some (x,(L0.count x:Int)):=fun i x h=>Aw h;have hlen:(xc L0).length=(kj L0).length:=ws L0;obtain⟨p,c,rfl⟩:=ky hv;refine yh Tryz.func211 Z Tryz.ntmps211 (np Z) hB ?_;by_cases h0:(kj L0).length=0
 ·have hnil:kj L0=[]:=mz h0;rw[hnil];refine(Z7∘Zaf∘Zai∘ZaC) ?_;refine z7 (Ei L (kj L0).length Z Z Z zfp Z Z (congrArg (Nat.cast (R:=Int)) hlen) (congrArg (Nat.cast (R:=Int)) hlen) T (by unfold maxLen;omega)) Z ?_;refine zy (yo (.inr Z) Z) ((Zay∘Zx∘ZQ∘ZeW∘ZcL∘Zbt) ?_);refine zcn 3 rfl (xm (fun _:Unit=>[(3,.sat (SlV Dr 1 (zsL zph Dr ((kj L0).length*1)) (kj L0).length true)),(13,.is (.int .i64 0)),(12,.is (.int .i64 (xc L0).length))]) (fun _=>True) (fun _=>0) () trivial ⟨Z,Z,Z,nm⟩ ?_);rintro _ _;refine(Zbn∘ZaO∘ZK∘Zk∘ZR∘Zs) ?_;refine yg1 L [.tmp 2] fun u H hH hle=>?_;intro v hv;have h1:(kj L0).length*1=0:=T;rw[h0] at hv
  have hzl:zsL zph Dr (0*1)=[]:=by
   have:=hv.1;exact mz (by simpa using this)
  rw[hzl] at hv;exact hv
 ·refine(Z7∘Zaf∘Zai∘ZaC) ?_;refine z7 (Ei L (kj L0).length Z Z Z zfp Z Z (congrArg (Nat.cast (R:=Int)) hlen) (congrArg (Nat.cast (R:=Int)) hlen) T (by unfold maxLen;omega)) Z ?_;refine zy (yo (.inr Z) Z) (Zay (h:=?_));refine zff 3 901 T Z fun b hzl=>?_;refine(Zx∘ZQ∘ZeW∘ZcL∘Zbt) ?_;generalize zsL zph Dr ((kj L0).length*1)=zs at hzl |-
  refine xm (fun s:Nat×List Value=>[(3,.is (.slice (some ⟨b,0,none⟩) (kj L0).length (kj L0).length)),(11,.sat (PsV (xc L0))),(13,.is (.int .i64 s.1)),(12,.is (.int .i64 (xc L0).length)),(901,.own (xk b s.2 Dr))])
   (fun s=>s.1<=(kj L0).length/\s.2.length=(kj L0).length/\s.2.take s.1=((kj L0).take s.1).map (Value.int .u64)) (fun s=>(kj L0).length-s.1) (0,zs) ⟨Nat.zero_le _,by dsimp only;omega,rfl⟩ ⟨rfl,rfl,rfl,rfl,rfl,trivial⟩ ?_
  rintro⟨i,cs⟩ ⟨hi,hcs,htk⟩;dsimp only at hi hcs htk |-;by_cases hlt:i<(kj L0).length
  ·obtain⟨x,hx⟩:=xi hlt;have hc:=Px (hat i x hx);have hle1:0+i*1+1<=cs.length:=by rw[hcs];omega
   have hwi:IntKind.i64.wrap ((i:Int)+1)=((i+1:Nat):Int):=yy T T;refine(Zbn∘Zz∘Z9∘Zaa∘Zdq∘Z2∘Zv∘Zam∘ZE∘Zb) ?_;refine zfu 5 rfl ((Zai∘ZcT) ?_);refine xh (ye L (q:=901) Z Z (znf hle1) Z Z) ((Zbp∘Zaw∘Zy∘Zck) ?_)
   exact yn (x:=(i,cs)) (i+1,cs.take (0+i*1)++([.int .u64 x]++cs.drop (0+i*1+1))) ⟨hlt,by dsimp only;rw[List.length_append,List.length_append,List.length_take,List.length_drop];simp only[List.length_cons,List.length_nil];omega,by
    dsimp only;rw[v7 hx,zli,<-htk,zlb,zmh,znj,List.take_take,Nat.min_eq_right T,mi,zmq T,show i+1-i=1 by omega];rfl⟩ G ⟨rfl,rfl,rfl,rfl,rfl,nm⟩
  ·obtain rfl:i=(kj L0).length:=by omega
   have hcs2:cs=(kj L0).map (Value.int .u64):=by
    rw[zle T,zla] at htk;exact htk
   subst hcs2;refine(Zbn∘ZaO) ?_;refine zcm (s:=1) 3 901 rfl Z (by simp) (by unfold maxLen;omega) ?_;refine zcn 3 rfl ((ZK∘Zk∘ZR∘Zs) ?_);refine yg1 L [.tmp 2] fun u H hH hle=>?_;exact fun v hv=>hv
def Pt{zs:List (Int×SB)}{fr fb:Bool}(he:mkE (zs.map (·.1)) L0=e)(hS:e=0->MapOK (zsE zs) S.R/\(S.R.length:Int)=i8 (zs.map (·.1)) zs.length/\S.P=L0)(hz:(xc L0).length<=100000)(hzb:L0.length<=1000000000000)(hZ:zs.length<=100000)
  {v1 v2 s:Value}   (hB:zpg B w) (h1:RsV (zs.map (·.1)) fr v1 B) (h2:SsV (zs.map (·.2)) fb v2 B) (hb:SbOK (zs.map (·.2)) B) (hv:PsV (xc L0) s B):
  RetO zph 155 [v1,v2,pnv s L0.length] w B (MkR e S):=by
 obtain⟨ps,pc,rfl⟩:=ky hv;obtain⟨rs,hrs⟩:∃ rs,rs=zs.map (·.1):=⟨_,rfl⟩
 obtain⟨bs,hbs⟩:∃ bs,bs=zs.map (·.2):=⟨_,rfl⟩
 have lr:rs.length=zs.length:=by rw[hrs,mt]
 have lb:bs.length=zs.length:=by rw[hbs,mt]
 rw[<-hrs] at he hS h1;rw[<-hbs] at h2 hb;unfold mkE at he;refine j7 Tryz.func155 Z Tryz.ntmps155 (np Z) hB (k8 0 (RsV rs fr) Z nw h1 (k8 1 (SsV bs fb) Z nw h2 ?_));by_cases h0:rs.length=0
 ·rw[na h0] at he;refine(Z7∘ZaH∘Z6∘Z3∘Zh∘ZG∘ZaF∘Zbb∘Zdh∘ZbM∘Zf∘Zx∘ZM) ?_;exact Fj L (rs:=[.tmp 6,.tmp 7]) Z (fun _ _ h=>h) nq (fun _=>rfl) (fun H u _=>.inr ⟨by omega,by rw[<-he];rfl,fun _ h=>h⟩)
 ·rw[nc h0] at he;by_cases hk:1024<rs.length
  ·rw[na hk] at he;refine(Z7∘ZaH∘Z6∘Z3∘Zh∘Zq∘Za∘Zh∘Zh∘Za5∘Zl∘Zan∘ZI∘Zh∘ZO∘ZbM∘Zbm∘ZM) ?_;exact Fj L (rs:=[.tmp 6,.tmp 7]) Z (fun _ _ h=>h) nq (fun _=>rfl) (fun H u _=>.inr ⟨by omega,by rw[<-he];rfl,fun _ h=>h⟩)
  ·rw[nc hk] at he;refine(Z7∘ZaH∘Z6∘Z3∘Zh∘Zq∘Za∘Zh∘Zh∘Za5∘Zl∘Zan∘ZI∘Zh∘ZJ∘Zc4∘Zbj∘Zao∘Zbk) ?_;refine qg (id:=5) [(34,[32]),(35,[34]),(8,[35])] mixed J ((ZaA∘ZdS) ?_);refine z8 (Lp .u64 vcE Z mpS Z Z) Z (ZcM (h:=?_));refine xw (P9 (q:=32) (fun k=>[(0,.int .u64 0),(1,.map (some k)),(2,.agg #[.slice ps (xc L0).length pc,.int .i64 L0.length])]) (fun k=>stc 0 k (.slice ps (xc L0).length pc) L0.length) Z Z Z Z zgq (fun _=>rfl) (fun _=>rfl)) Z Z (xw (Yy Z Z Z Z) Z Z (xw (yo (.inr Z) Z) Z Z ((ZaJ∘Zf) ?_)));refine Fl 8 902 rfl fun x=>?_;obtain⟨b2,m2⟩:=x;rw[wo];refine vz 902 903 rfl (xe _) ?_;refine(Zaw∘Zh∘Zbt) ?_;have lz:(zsE zs).length=rs.length:=by unfold zsE;rw[List.length_map,lr]
   refine xm (fun y:Nat=>[(1,.sat (SsV bs fb)),(5,.sat (At [.slice ps (xc L0).length pc,.int .i64 L0.length] 224 0)),(8,.is (bk b2)),(36,.sat (RsV rs fr)),(37,.is (.int .i64 rs.length)),(38,.is (.int .i64 y)),(902,.own (xk b2 [.int .u64 (i8 rs y),.map (some m2),.slice ps (xc L0).length pc,.int .i64 L0.length] tyS)),(903,.own (B5 m2 .u64 vcE ((zsE zs).take y)))])
    (fun y=>y<=rs.length/\Xm (rs.take y)/\∀ a∈0::rs.take y,a<=i8 rs y) (fun y=>rs.length-y) 0 ⟨mf _,zmi _ _,fun a ha=>by rw[zl4,m6] at ha;subst ha;exact zm5 _⟩ ⟨rfl,rfl,rfl,rfl,rfl,rfl,rfl,rfl,nm⟩ ?_
   rintro i ⟨hi,hA,hmx⟩;dsimp only at hi hA hmx |-;by_cases hlt:i<rs.length
   ·obtain⟨z,hzi⟩:=xi (show i<zs.length by omega);obtain⟨x,c0⟩:=z;have hx:rs[i]?=some x:=by rw[hrs,zlu,hzi];rfl
    have hbi:bs[i]?=some c0:=by rw[hbs,zlu,hzi];rfl
    have hei:(zsE zs)[i]?=some (x,(c0.1,sbv c0)):=by unfold zsE;rw[List.getElem?_map,hzi];rfl
    obtain⟨t0,f1,p1,f2,p2⟩:=c0;have hc:=Gq hx;have hcb:=zi0 hbi;have hwk:IntKind.i64.wrap ((i:Int)+1)=((i+1:Nat):Int):=yy T T;by_cases hle:x<=i8 rs i
    ·have hnA:¬ Xm rs:=fun h=>by have:=zbj h hx;omega
     rw[nc hnA] at he;refine(Zf∘ZK∘Zz∘Zbe∘Zaa∘Zcy∘Za8∘ZbP∘ZY∘ZeI∘ZcC∘Zu∘ZA∘ZM) ?_;exact Fj L (rs:=[.tmp 6,.tmp 7]) Z (fun _ _ h=>h) nq (fun _=>rfl) (fun H u _=>.inr ⟨by omega,by rw[<-he];rfl,fun _ h=>h⟩)
    ·have hsn:=zbi hA hmx hx T
     have hnk:x∉((zsE zs).take i).map Prod.fst:=fun hm2=>by
      have h3:((zsE zs).take i).map Prod.fst=rs.take i:=by rw[List.map_take];unfold zsE;rw[List.map_map,hrs];rfl
      rw[h3] at hm2;have:=hmx x (mc _ hm2);omega
     have hput:=Y8 (y:=(t0,sbv (t0,f1,p1,f2,p2))) hnk;rw[<-v7 hei] at hput;have hls:=an hx;refine(Zf∘ZK∘Zz∘Zbe∘Zaa∘Zcy∘Za8∘ZbP∘ZY∘ZeI∘ZcB∘Zn∘ZV∘Zb∘ZY) ?_;refine xh (ye L (q:=902) (cs':=[.int .u64 x,.map (some m2),.slice ps (xc L0).length pc,.int .i64 L0.length]) Z Z Z Z Z) (Zs (h:=?_));refine qg (id:=12) [(200056,[902]),(100056,[903])] mixed J (Za4 (h:=?_));refine qn (qb L (q:=902) Z Z Z Z) Z Z ((Zj∘Zb5) ?_);refine z8 (yk L (vs:=[_,_,_,_]) Z Z Z Z Z ⟨_,rfl⟩) Z (xl (Ct (q:=903) (vc:=vcE) x (t0,sbv (t0,f1,p1,f2,p2)) mpS kyS Z Z Z Z Z Z hput) Z ((ZbU∘ZP∘ZX∘Zy∘Zck) ?_));exact yn (x:=i) (i+1) ⟨hlt,hsn.1,hsn.2⟩ T ⟨Z,Z,Z,Z,Z,Z,by rw[hls];rfl,Z,nm⟩
   ·obtain rfl:i=rs.length:=by omega
    rw[zla] at hA hmx;rw[na hA] at he;rw[show(zsE zs).take rs.length=zsE zs by rw[<-lz,zla]];have hfs:(zsE zs).map Prod.fst=rs:=by unfold zsE;rw[List.map_map,hrs];rfl
    have hhl:=fh L0;refine(Zf∘ZK∘ZaO∘Zf∘Zbo∘Za1) ?_;refine z7 (xg (φ:=RsV (kj L0) true) L Z Z (zn Z) Z Z Z nw (fun u H2 hH hle _=>Ur hz hH (hv.le hle))) Z ((ZcL∘Zbt) ?_)
    refine xm (fun y:Nat=>[(8,.is (bk b2)),(64,.sat (RsV (kj L0) true)),(65,.is (.int .i64 (kj L0).length)),(66,.is (.int .i64 y)),(902,.own (xk b2 [.int .u64 (i8 rs rs.length),.map (some m2),.slice ps (xc L0).length pc,.int .i64 L0.length] tyS)),(903,.own (B5 m2 .u64 vcE (zsE zs)))])
     (fun y=>y<=(kj L0).length/\∀ h∈(kj L0).take y,h∈rs) (fun y=>(kj L0).length-y) 0 ⟨mf _,fun h hh=>by rw[zl4] at hh;cases hh⟩ ⟨rfl,rfl,rfl,rfl,rfl,rfl,nm⟩ ?_
    rintro j ⟨hj,hin⟩;dsimp only at hj hin |-;by_cases hlt2:j<(kj L0).length
    ·obtain⟨h,hh⟩:=xi hlt2;have hc:=Gq hh;have hwk:IntKind.i64.wrap ((j:Int)+1)=((j+1:Nat):Int):=yy T T
     cases hgk:ub h (zsE zs) with
     | none=>
      have hni:h∉rs:=fun hm2=>by rw[<-hfs,<-g9,hgk] at hm2;cases hm2
      rw[nc (fun hall=>hni (hall h (zln hh)))] at he;have q1:(ub h (zsE zs)).elim nilSet vcE=nilSet:=by rw[hgk];rfl
      have q2:(ub h (zsE zs)).isSome=false:=by rw[hgk];rfl
      refine(Zf∘Za0∘Zz∘Zap∘Zaa∘Zcy∘Zd∘Zb8∘Za∘ZY∘ZeI∘Za) ?_;refine qz (ul (q:=903) (vc:=vcE) h mpS kyS zrS Z Z Z Z Z q1 q2) ((Z1∘Zaj∘Zd∘Zcc∘Zt∘Zu∘Zcx∘ZM) ?_);exact Fj L (rs:=[.tmp 6,.tmp 7]) Z (fun _ _ h=>h) nq (fun _=>rfl) (fun H u _=>.inr ⟨by omega,by rw[<-he];rfl,fun _ h=>h⟩)
     | some y=>
      have hir:h∈rs:=by rw[<-hfs,<-g9,hgk];rfl
      obtain⟨z,hz1,hz2⟩:=m8.1 (cd hgk);obtain⟨k0,t0,f1,p1,f2,p2⟩:=z;cases hz2;have q1:(ub k0 (zsE zs)).elim nilSet vcE=.agg #[f1,.pointer p1,f2,.pointer p2]:=by rw[hgk];rfl
      have q2:(ub k0 (zsE zs)).isSome=true:=by rw[hgk];rfl
      have hpl:=(hb.mem_plain (t0,f1,p1,f2,p2) (by rw[hbs];exact zng (f:=(·.2)) hz1))
      refine(Zf∘Za0∘Zz∘Zap∘Zaa∘Zcy∘Zd∘Zb8∘Za∘ZY∘ZeI∘Za) ?_;refine qz (ul (q:=903) (vc:=vcE) k0 mpS kyS zrS Z Z Z Z Z q1 q2) ((Z1∘Z2∘Zbr∘Zd∘Zcc∘Zt∘Zad∘ZP∘ZaM∘Zy∘Zck) ?_)
      exact yn (x:=j) (j+1) ⟨hlt2,fun a ha=>by
       rw[v7 hh,mn,m6] at ha;rcases ha with ha | rfl
       ·exact hin a ha
       ·exact hir⟩ T ⟨Z,Z,Z,Z,Z,Z,nm⟩
    ·obtain rfl:j=(kj L0).length:=by omega
     rw[zla] at hin;rw[na hin] at he;obtain⟨hm,hl,hP⟩:=hS he.symm;subst hP;refine(Zf∘Za0∘ZaO∘Zcj∘Za∘ZM) ?_;subst he;rw[show i8 rs rs.length=(S.R.length:Int) by rw[hl,lr]];refine jt 902 903 rfl Z (xe _) ?_
     refine w5 902 (StG b2 S).res Z (ge (B:=B) (s:=.slice ps (xc S.P).length pc) (m:=m2) hm (fun e he=>by
      obtain⟨z,hz1,rfl⟩:=m8.1 he;exact hb z.2 (by rw[hbs];exact zng (f:=(·.2)) hz1)) hv) ?_
     exact Mo L 902 (r0:=StG b2 S) (rs:=[.tmp 6,.tmp 7]) Z (fun _ _ h=>h) nq Z (fun _=>rfl) (fun H u C _ _ h=>.inl ⟨rfl,b2,rfl,h⟩)
end Go.V.L10
namespace Go.V.L11
open Go.V.L2 Go.V.L3 Go.V.L4 Go.V.L6 Go.V.L8 Go.V.L10
abbrev zfz:TypeId:=224
abbrev Sl3:=Option Addr×Nat×Nat
abbrev sl3(x:Sl3):Value:=.slice x.1 x.2.1 x.2.2
abbrev pnC(P:List Int)(x:Sl3):List Value:=[sl3 x,.int .i64 P.length]
abbrev pnQ(P:List Int)(x:Sl3)(H:Heap):Prop:=PsV (xc P) (sl3 x) H
def Ed(P:List Int):a7 (pnQ P):=fun _ _ _ h hle=>h.le hle
abbrev PnS(P:List Int):Value->Heap->Prop:=fun v H=>∃ x:Sl3,v=.agg #[sl3 x,.int .i64 P.length]/\pnQ P x H
def PnS.mono:Kn.mono (.sat (PnS P)):=fun _ _ _ ⟨x,h1,h2⟩ hle=>⟨x,h1,h2.le hle⟩
def zgo(v:Value)(H:Heap)(h:PnS P v H):∃ x:Sl3,pnQ P x H/\kx v=pnC P x:=by
 obtain⟨x,rfl,h2⟩:=h;exact⟨x,h2,rfl⟩
abbrev PnE(P:List Int):Value->Heap->Prop:=TupS [PnS P,fun v _=>v=.int .i64 0]
def PnE.mono{P:List Int}:Kn.mono (.sat (PnE P)):=TupS.mono fun φ hφ=>by
 simp only[nz,zmw,or_false] at hφ;rcases hφ with rfl | rfl
 ·exact PnS.mono
 ·exact fun _ _ _ h _=>h
def zf7{φ1 φ2:Value->Heap->Prop}{a b:Value}(h1:φ1 a H)(h2:φ2 b H):TupS [φ1,φ2] (.tuple #[a,b]) H:=⟨[a,b],rfl,rfl,fun i φ x hi hx=>by
 match i with
 | 0=>cases hi;cases hx;exact h1
 | 1=>cases hi;cases hx;exact h2
 | i+2=>cases hi⟩
attribute [local irreducible] V N X VO Par XP LV StepOK Has Ret RetL RetO RetT ki RetX RetY Pan aa Src
def Tx(hr:r≠0)(hn:n<=4096)(hnew:r∉L0)(hz2:(xc L0).length<1024)(hz:L0.length<=1000000000000){x:Sl3}(hB:zpg B w)(hv:pnQ L0 x B):
  Ret zph 152 [.agg #[sl3 x,.int .i64 L0.length],.int .u64 r,.int .i64 n] w B (PnE (L0++List.replicate n r)):=by
 by_cases h0:n=0
 ·subst h0;have h:=Tz (t:=(L0.length:Int)) hr (p:=x.1) (k:=x.2.1) (c:=x.2.2) hB;refine h.mono fun v H hle e=>?_;subst e;rw[show L0++List.replicate 0 r=L0 from mq _];exact zf7 ⟨x,rfl,hv.le hle⟩ Z
 ·have h:=Ty hr (Nat.pos_of_ne_zero h0) hn hnew hz2 hz hB hv;refine h.mono fun v H hle hp=>?_;obtain⟨s,rfl,hs⟩:=hp;obtain⟨p,c,rfl⟩:=ky hs;exact zf7 ⟨(p,_,c),rfl,hs⟩ Z
end Go.V.L11
namespace Go.V.L11
open Go.V.L2 Go.V.L3 Go.V.L4 Go.V.L6 Go.V.L8 Go.V.L10
structure LdZ(zs:List (Int×List U))(P:List Int)(last:Int):Prop where
 asc:Xm (zs.map (·.1))
 mx:∀ a∈0::zs.map (·.1),a<=last
 lst:i8 (zs.map (·.1)) zs.length=last
 pk:∀ r∈P,r∈zs.map (·.1)
 tl:∀ z∈zs,z.2.length<=4096
def LdZ.snoc{last x:Int}(h:LdZ zs P last)(hx:last<x)(hs:s.length<=4096)(n:Nat):LdZ (zs++[(x,s)]) (P++List.replicate n x) x:=by
 have hm:(zs++[(x,s)]).map (·.1)=zs.map (·.1)++[x]:=by rw[zli];rfl
 refine⟨?_,?_,?_,?_,?_⟩
 ·rw[hm];unfold Xm;rw[<-zll,zl0];refine⟨h.asc,zmi _ _,fun a ha b hb=>?_⟩;rw[m6.1 hb];have:=h.mx a ha;omega
 ·intro a ha;rw[hm,<-zll,mn,m6] at ha;rcases ha with ha | rfl
  ·have:=h.mx a ha;omega
  ·omega
 ·rw[hm,nr,zme];exact an (by rw[zne (by rw[mt];omega),mt,zmd];rfl)
 ·intro r hr;rw[hm,mn];rcases mn.1 hr with h1 | h1
  ·exact .inl (h.pk r h1)
  ·exact .inr (by rw[List.mem_replicate] at h1;rw[h1.2];exact m6.2 Z)
 ·intro z hz;rcases mn.1 hz with h1 | h1
  ·exact h.tl z h1
  ·rw[m6.1 h1];exact hs
def loR(zs:List (Int×List U)):List (Option (List U)):=(List.range (i8 (zs.map (·.1)) zs.length).toNat).map fun i=>ub ((i+1:Nat):Int) zs
abbrev loS(y:List (Int×List U)×List Int):Sto:=⟨loR y.1,y.2⟩
def LdZ.kpt{zs:List (Int×List U)}{P:List Int}{last:Int}(h:LdZ zs P last)(r:Int):kpt (loR zs) r=ub r zs:=by
 by_cases hr:0<r/\r<=last
 ·obtain⟨j,rfl⟩:∃ j:Nat,r=((j+1:Nat):Int):=⟨(r-1).toNat,by omega⟩
  rw[e7];unfold loR;rw[h.lst,zlu,List.getElem?_range T];show(some (ub ((j+1:Nat):Int) zs)).join=_;cases ub ((j+1:Nat):Int) zs<;>rfl
 ·have h1:ub r zs=none:=by
   cases hg:ub r zs with
   | none=>rfl
   | some t=>
    have hm:=g9.1 (show(ub r zs).isSome=true by rw[hg];rfl);exact ni ⟨(mg.1 h.asc).1 r hm,h.mx r (mc _ hm)⟩ hr
  rw[h1]
  cases hk:L10.kpt (loR zs) r with
  | none=>rfl
  | some t=>
   have h2:=dq (R:=loR zs) (r:=r) (by rw[hk];rfl);unfold loR at h2;rw[mt,List.length_range,h.lst] at h2;omega
def LdZ.len(h:LdZ zs P last):(loR zs).length=last:=by
 unfold loR;rw[mt,List.length_range,h.lst,zlp]
def LdZ.mkE{zs:List (Int×List U)}{P:List Int}{last:Int}(h:LdZ zs P last)(h0:0<zs.length)(h1:zs.length<=1024):mkE (zs.map (·.1)) P=0:=by
 unfold L10.mkE;rw[mt,nc T,nc T,na h.asc,na fun r hr=>h.pk r (jl.1 hr)]
def Nt{r:Int}:∀ {zs:List (Int×List U)} {bs:List SB},bs.map Prod.fst=zs.map Prod.snd->(ub r (zsE ((zs.map (·.1)).zip bs))).map Prod.fst=ub r zs
 | [],bs,h=>by rw[zlm,List.zip_nil_left];rfl
 | z::zs,[],h=>by cases h
 | z::zs,b::bs,h=>by
  rw[mp,mp] at h;obtain⟨h1,h2⟩:=List.cons.inj h;rw[mp,List.zip_cons_cons];unfold zsE;rw[mp,wy,wy];by_cases e:r=z.1
  ·rw[na e,na e,<-h1];rfl
  ·rw[nc e,nc e];exact Nt h2
def Dm:∀ {zs:List (Int×List U)} {bs:List SB},bs.map Prod.fst=zs.map Prod.snd->((zs.map (·.1)).zip bs).map (·.1)=zs.map (·.1)/\((zs.map (·.1)).zip bs).map (·.2)=bs/\((zs.map (·.1)).zip bs).length=zs.length
 | [],[],_=>⟨rfl,rfl,rfl⟩
 | [],b::bs,h=>by cases h
 | z::zs,[],h=>by cases h
 | z::zs,b::bs,h=>by
  rw[mp,mp] at h;obtain⟨_,h2⟩:=List.cons.inj h;have ih:=Dm h2;rw[mp,List.zip_cons_cons,mp,mp,ny,ih.1,ih.2.1,ih.2.2];exact⟨rfl,rfl,rfl⟩
def LdZ.mapOK{last:Int}(h:LdZ zs P last){bs:List SB}(hb:bs.map Prod.fst=zs.map Prod.snd):MapOK (zsE ((zs.map (·.1)).zip bs)) (loR zs):=
 ⟨by
  have h1:(zsE ((zs.map (·.1)).zip bs)).map Prod.fst=zs.map (·.1):=by unfold zsE;rw[List.map_map];exact(Dm hb).1
  rw[h1];exact(mg.1 h.asc).2.imp fun hlt e=>by omega,fun r=>by rw[Nt hb,h.kpt]⟩
structure LdJ(bs:List Nat)(N:Nat)(Y:((List (Int×List U)×List Int)×Rd)×(Int×Int))(i last:Nat)(s:List U)(zs:List (Int×List U))(P:List Int)(R:Rd):Prop where
 hi:i<=N
 hW:ldW bs (N-i) last s zs P R=Y
 h0:R.err=0
 at_:R.at_<=bs.length
 zl:zs.length=i
 sl:s.length<=4096
 lastB:last<=18446744073709551615
 pn:∀ r∈P,r<=(last:Int)
 pl:P.length<=i*4096
 ph:(xc P).length<=i
 z:LdZ zs P (last:Int)
def LdJ.new{N:Nat}{Y:((List (Int×List U)×List Int)×Rd)×(Int×Int)}(h:LdJ bs N Y i last s zs P R){st:Nat}(hs:0<st):((last+st:Nat):Int)∉P:=fun hm=>by
 have:=h.pn _ hm;omega
def LdJ.next{N:Nat}{Y:((List (Int×List U)×List Int)×Rd)×(Int×Int)}(h:LdJ bs N Y i last s zs P R)(hi:i<N){st m:Nat}(g2:0<st/\st<=18446744073709551615-last)(hn:n<=4096){s':List U}{R4:Rd}(hs':s'.length<=4096)(h4:R4.err=0)(a4:R4.at_<=bs.length)
  (hm:N-i=m+1) (hW:ldW bs m (last+st) s' (zs++[(((last+st:Nat):Int),s')]) (P++List.replicate n ((last+st:Nat):Int)) R4=Y):
  LdJ bs N Y (i+1) (last+st) s' (zs++[(((last+st:Nat):Int),s')]) (P++List.replicate n ((last+st:Nat):Int)) R4:=by
 have hb:=h.lastB;have hnew:=h.new g2.1;refine⟨hi,by rw[show N-(i+1)=m by omega];exact hW,h4,a4,by rw[nr,h.zl];rfl,hs',by omega,fun r hr=>?_,?_,?_,h.z.snoc T hs' n⟩
 ·rcases mn.1 hr with h1 | h1
  ·have:=h.pn r h1;omega
  ·rw[List.mem_replicate] at h1;rw[h1.2];exact zm5 _
 ·have:=h.pl;rw[nr,List.length_replicate];omega
 ·have hph:=h.ph;by_cases h0:n=0
  ·subst h0;rw[show P++List.replicate 0 ((last+st:Nat):Int)=P from mq _];omega
  ·rw[Au (Nat.pos_of_ne_zero h0) hnew,ia (Sl _)];omega
abbrev sbQ(zs:List (Int×List U))(x:List SB)(H:Heap):Prop:=x.map Prod.fst=zs.map Prod.snd/\SbOK x H
def D6(zs:List (Int×List U)):a7 (sbQ zs):=fun _ _ _ h hle=>⟨h.1,h.2.le hle⟩
def Yk{x:List SB}{f1 k1:Value}{p1 q1:Option Addr}(h:sbQ zs x H)(hs:SetV s (.agg #[f1,.pointer p1,k1,.pointer q1]) H):sbQ (zs++[(r,s)]) (x++[(s,(f1,p1,k1,q1))]) H:=by
 refine⟨by rw[zli,zli,h.1];rfl,fun b hb=>?_⟩;rcases mn.1 hb with h1 | h1
 ·exact h.2 b h1
 ·rw[m6] at h1;subst h1;exact hs
def _root_.ZeJ(t:Wr Y->A:=by intro h;refine qz (qb L (q:=921) Z Z Z Z) ?_;exact h.1)(h:Y):A:=t ⟨h⟩
def LdR(y:(List (Int×List U)×List Int)×(Int×Int)):Res where
 P v H u C:=(y.2.2=0/\∃ b,v=.tuple #[bk b,.int .i64 0,.int .i64 0]/\(StG b (loS y.1)).P H u C)\/(y.2.2≠0/\v=.tuple #[.pointer none,.int .i64 y.2.1,.int .i64 y.2.2]/\∀ k,¬ C k)
 st:=fun h a b c d=>h.imp (fun⟨h1,x,h2,h3⟩=>⟨h1,x,h2,(StG x (loS y.1)).st h3 a b c d⟩) id
def zhb{f:FuncId}{args:List Value}{y:(List (Int×List U)×List Int)×(Int×Int)}(he:y.2.2=0)(h:RetO zph f args w B (LdR y)):RetO zph f args w B (Fp (fun b=>.tuple #[bk b,.int .i64 0,.int .i64 0]) fun b=>StG b (loS y.1)):=
 RetL.mono h fun _ _ _ _ ⟨C,h1,h2⟩=>⟨C,h1.elim (fun⟨_,b,hb,hs⟩=>⟨b,hb,hs⟩) fun h=>ni he h.1,h2⟩
def zcy{κ:Kap}{t:Nat}(h:κ t=some (.own (SlR Dr 1 ((zs.map (·.1)).length+1) ((zs.map (·.1)).map (Value.int .u64)++[.int .u64 r])))):κ t=some (.own (SlR Dr 1 ((zs++[(r,s)]).map (·.1)).length (((zs++[(r,s)]).map (·.1)).map (Value.int .u64)))):=by
 rw[h,zli,zli,nr];rfl
def zdj{κ:Kap}{t:Nat}{y:List SB}{f1 k1:Value}{p1 q1:Option Addr}(h:κ t=some (.own (SlR tySt 4 (y.length+1) (y.flatMap sbc++[f1,.pointer p1,k1,.pointer q1])))):κ t=some (.own ((fun y:List SB=>SlR tySt 4 y.length (y.flatMap sbc)) (y++[(s,(f1,p1,k1,q1))]))):=by
 rw[h];dsimp only;rw[zlq,nr];rfl
attribute [local irreducible] V N X VO Par XP LV StepOK Has Ret RetL RetO RetT ki RetX RetY Pan aa Src
def ff{B0:Heap}{O:Boxes}{ba be bs:Nat}{x y z:Value}{a:Int}{z0:List (Int×List U)×List Int}(he:e≠0)(hs:Since (FLd w ba be bs) B0 B):
  XP (FLd w ba be bs) B n O (ofL (KLd ba be bs x y z)) (wrV a e) (bodyPostM Fence.wide 0 zph Tryz.f86 (ft w B0 noL (zfh w (LdR (z0,(a,e)))))):=
 T7 he hs fun _ _ ⟨v,h1,H,h2,h3⟩=>⟨v,h1,H,h2,fun _=>False,.inr ⟨he,h3,fun _ h=>h⟩,fun _ h=>h.elim⟩
def zac{bs:List Nat}(hb:∀ b∈bs,b<=255)(hz:bs.length<=1099511627776)(hB:zpg B w)(hv:BsV bs fu v B):
  RetO zph 86 [v] w B (LdR (ldF bs)):=by
 obtain⟨p0,c0,rfl⟩:=ky hv;obtain⟨Y0,hY0⟩:∃ Y0,ldF bs=Y0:=⟨_,rfl⟩
 rw[hY0];refine j7 Tryz.func86 Z Tryz.ntmps86 (np Z) hB ((ZaW∘Z2∘Z2∘Zg) ?_);refine kz 2 910 rfl fun bs0=>?_;refine kz 3 911 rfl fun ba=>?_;refine kz 4 912 rfl fun be=>?_;refine V7 (id:=1) 1 rfl ((Zav∘ZN) ?_);(refine zea (K:=1) Z Z Z Z ?_;refine zk ?_);refine Zbk (h:=?_);refine Zo (h:=?_);refine z7 (wt L Z Z (zn Z) Z Z Z (fun u H hH hle _=>zgx hz hH (hv.le hle))) Z ?_;refine Aa 15 922 rfl fun rb=>?_;refine zcw (X:=Value) 922 (r:=fun sv=>(GRd rb sv ⟨0,0,0⟩).res) (φ:=fun sv H=>BsV bs false sv H) (hφ:=fun _ _ _ h hle=>h.le hle) Z fun sv H1 hs1 hsv=>?_;refine z7 (yt (cs:=[_,_]) Z Z zi5 Z Z) Z (Zd4 (h:=?_));refine zy (yo (.inr Z) Z) (Zg (h:=?_));refine kz 5 921 rfl fun sb=>?_;refine jt 921 922 rfl Z (xe (GRd rb sv ⟨0,0,0⟩)) ?_;obtain⟨z,R1,hz1⟩:∃ z R1,j9 bs 1024 ⟨0,0,0⟩=(z,R1):=⟨_,_,rfl⟩
 have ha1:=ez (bs:=bs) (lim:=1024) (R:=⟨0,0,0⟩) (mf _);have hlv:=fun h=>am (bs:=bs) (lim:=1024) (R:=⟨0,0,0⟩) E h;unfold ldF at hY0;rw[hz1] at ha1 hlv hY0;dsimp only at ha1 hlv hY0;by_cases h1:R1.err≠0
 ·rw[na h1] at hY0;subst hY0;refine jn (id:=3) 1 rfl (Zck (h:=?_));refine jk (r:=(xp sb rb sv 0 ⟨0,0,0⟩).res) (K:=1) L 921 rfl Z Z Z Z (fun u H C hH hle hr hC=>by have h:=Dz (lim:=1024) (R:=⟨0,0,0⟩) hb hz (mf _) T (by rw[hz1];exact h1) hH (hsv.le hle) hr hC;rw[hz1] at h;exact h) (fun _ _ _ _ h=>h) ?_
  repeat (first | refine jx ?_ | refine ja ?_)
  exact cy (KLd ba be bs0 _ _ _) ⟨Z,Z,Z,Z,Z,Z,nm⟩ (ff h1 hs1)
 ·rw[nc h1] at hY0;have h10:R1.err=0:=m4.1 h1;obtain⟨n,rfl,hn⟩:=hlv h10;by_cases hn0:n=0
  ·subst hn0;rw[na (show((0:Nat):Int)=0 from rfl)] at hY0;subst hY0;refine Zp (h:=?_);refine zy (y7 L 921 (xp sb rb sv 0 R1) (.int .i64 ((0:Nat):Int)) (r:=xp sb rb sv 0 ⟨0,0,0⟩) Z Z Z Z Z (fun u H C hH hle hr hC=>by have h:=size_ret (lim:=1024) hb hz (mf _) T (by rw[hz1];exact h10) hH (hsv.le hle) hr hC;rw[hz1] at h;exact h)) ?_;refine Zd (h:=?_);refine jn (id:=4) 3 rfl ((Zb∘ZJ∘ZN) ?_);refine jk (r:=(xp sb rb sv 0 R1).res) (K:=3) L 921 rfl Z Z Z Z (fun u H C hH hle hr hC=>gv hH hr hC) (fun _ _ _ _ h=>h) ?_
   repeat (first | refine jx ?_ | refine ja ?_)
   exact cy (KLd ba be bs0 _ _ _) ⟨Z,Z,Z,Z,Z,Z,nm⟩ (ff E hs1)
  ·rw[nc T,zlp] at hY0;refine Zp (h:=?_);refine zy (y7 L 921 (xp sb rb sv 0 R1) (.int .i64 n) (r:=xp sb rb sv 0 ⟨0,0,0⟩) Z Z Z Z Z (fun u H C hH hle hr hC=>by have h:=size_ret (lim:=1024) hb hz (mf _) T (by rw[hz1];exact h10) hH (hsv.le hle) hr hC;rw[hz1] at h;exact h)) ?_;refine(Zd∘Zcb∘ZO) ?_;refine zy (yq L 921 (xp sb rb sv 0 R1) (r:=xp sb rb sv 0 R1) Z Z Z Z Z (fun u H C hH _ hr hC=>x8 hH hr hC)) ((Zg∘ZE∘Zd∘Zaw∘Zd∘ZK∘Z2∘Zg∘ZC∘ZcS∘Z2∘Zv∘ZaL∘Zay∘ZbP∘ZcK) ?_);refine gh 7 Dr 1 rfl (gh 8 tySt 4 rfl (ow (X:=List SB) 8 (r:=fun x=>SlR tySt 4 x.length (x.flatMap sbc)) (φ:=sbQ []) (D6 []) [] ⟨rfl,fun _ h=>by cases h⟩ Z ?_));refine ow (X:=Sl3) 9 (r:=fun x=>Cell (pnC [] x) zfz) (φ:=pnQ []) (Ed []) (none,0,0) SlV.nil Z (ow (X:=SXp) 11 (r:=fun x=>Cell (scs x.1) tySt) (φ:=B7 []) (ku []) ⟨(.nilFunc,none,.nilFunc,none),rfl⟩ SetV.nil Z ?_);obtain⟨Y,hY⟩:∃ Y,ldW bs n 0 [] [] [] R1=Y:=⟨_,rfl⟩
   rw[hY] at hY0;have hj0:LdJ bs n Y 0 0 [] [] [] R1:=⟨mf _,hY,h10,ha1,rfl,mf _,by decide,(fun _ h=>by cases h),mf _,mf _,⟨zmi _ _,fun a ha=>by rw[zlm,m6] at ha;subst ha;exact zm5 _,rfl,(fun _ h=>by cases h),(fun _ h=>by cases h)⟩⟩
   refine xm (fun x:Nat×Nat×List U×List (Int×List U)×List Int×Rd×Nat=>[(2,.is (xz bs0)),(3,.is (xz ba)),(4,.is (xz be)),(910,.own (xk bs0 [.pointer none] tyPS)),(911,.own (xk ba [.int .i64 0] Xx)),(912,.own (xk be [.int .i64 0] Ke)),(5,.is (xz sb)),
    (7,.own (SlR Dr 1 (x.2.2.2.1.map (·.1)).length ((x.2.2.2.1.map (·.1)).map (Value.int .u64)))),(8,.own (ExR (fun y:List SB=>SlR tySt 4 y.length (y.flatMap sbc)) (sbQ x.2.2.2.1) (D6 _))),(9,.own (ExR (fun y:Sl3=>Cell (pnC x.2.2.2.2.1 y) zfz) (pnQ x.2.2.2.2.1) (Ed _))),(10,.is (.int .u64 x.2.1)),(11,.own (ExR (fun y:SXp=>Cell (scs y.1) tySt) (B7 x.2.2.1) (ku _))),(25,.is (.int .i64 n)),(26,.is (.int .i64 x.1)),(921,.own (xp sb rb sv x.2.2.2.2.2.2 x.2.2.2.2.2.1).res)])
    (fun x=>LdJ bs n Y x.1 x.2.1 x.2.2.1 x.2.2.2.1 x.2.2.2.2.1 x.2.2.2.2.2.1) (fun x=>n-x.1) (0,0,[],[],[],R1,0) hj0 ⟨rfl,rfl,rfl,rfl,rfl,rfl,rfl,rfl,rfl,rfl,rfl,rfl,rfl,rfl,rfl,nm⟩ ?_
   rintro⟨i,last,s,zs,P,R,fr⟩ hj;dsimp only at hj |-;have hRa:=hj.at_;by_cases hlt:i<n
   ·obtain⟨m,hm⟩:∃ m,n-i=m+1:=⟨n-i-1,by omega⟩
    have hW:=hj.hW;rw[hm] at hW;unfold ldW at hW;have ha2:(iz bs R).2.at_<=bs.length:=c8 hRa (Lx hRa);have hlB:=hj.lastB;have hsl:=hj.sl;obtain⟨st,R2,hz2⟩:∃ st R2,iz bs R=(st,R2):=⟨_,_,rfl⟩
    rw[hz2] at hW ha2;dsimp only at hW ha2;refine vz (r1:=xk sb [xz rb,.int .i64 fr] M0) (r2:=(GRd rb sv R).res) 921 922 rfl (xe _) ?_;by_cases h2:R2.err≠0
    ·rw[na h2] at hW;subst hW;rw[na (by exact h2)] at hY0;subst hY0;refine(Zf∘ZA∘Zz) ?_;refine jn (id:=11) 6 rfl ((Zb∘ZY∘ZeJ) ?_);refine jg 921 922 rfl Z (xe (GRd rb sv R)) ?_;refine(Zav∘ZN) ?_;refine jk (r:=(xp sb rb sv fr R).res) (K:=6) L 921 rfl Z Z Z Z (fun u H C hH hle hr hC=>K7 (x:=st) (fst:=[xz rb]) (cap:=[]) Z h2 hH hr hC (fun u3 H3 C3 hH3 hle3 hr3 hC3=>by have h:=Na hb hz hRa hH3 ((hsv.le hle).le hle3) hr3 hC3;rw[hz2] at h;exact h)) (fun _ _ _ _ h=>h) ?_
     repeat (first | refine jx ?_ | refine ja ?_)
     exact cy (KLd ba be bs0 _ _ _) ⟨Z,Z,Z,Z,Z,Z,nm⟩ (ff h2 hs1)
    ·rw[nc h2] at hW;have h20:R2.err=0:=m4.1 h2;have hws:IntKind.u64.wrap (18446744073709551615-(last:Int))=((18446744073709551615-last:Nat):Int):=(wrap_u64 T T).trans T;by_cases h3:¬ (0<st/\st<=18446744073709551615-last)
     ·rw[na h3] at hW;subst hW;rw[na (show(5:Int)≠0 by decide)] at hY0;subst hY0;by_cases hst0:st=0
      ·have hst1:((st:Nat):Int)=0:=T;refine(Zf∘ZA∘Zz∘ZV∘Zb∘ZY∘ZeJ) ?_;refine jg 921 922 rfl Z (xe (GRd rb sv R)) ?_;refine Zav (h:=?_);refine zy (y7 L 921 (xp sb rb sv R.at_ R2) (.int .u64 st) (r:=xp sb rb sv fr R) Z Z Z Z Z (fun u H C hH hle hr hC=>er (fst:=[xz rb]) (cap:=[]) Z h20 hH hr hC (fun u3 H3 C3 hH3 hle3 hr3 hC3=>by have h:=Na hb hz hRa hH3 ((hsv.le hle).le hle3) hr3 hC3;rw[hz2] at h;exact h))) ?_;refine Zd (h:=?_);refine jn (id:=12) 9 rfl ((Zb∘ZJ∘ZaF∘Zbb∘Zl∘ZN) ?_);refine jk (r:=(xp sb rb sv R.at_ R2).res) (K:=9) L 921 rfl Z Z Z Z (fun u H C hH hle hr hC=>gv hH hr hC) (fun _ _ _ _ h=>h) ?_
       repeat (first | refine jx ?_ | refine ja ?_)
       exact cy (KLd ba be bs0 _ _ _) ⟨Z,Z,Z,Z,Z,Z,nm⟩ (ff E hs1)
      ·have hst1:0<st/\18446744073709551615-last<st:=T;refine(Zf∘ZA∘Zz∘ZV∘Zb∘ZY∘ZeJ) ?_;refine jg 921 922 rfl Z (xe (GRd rb sv R)) ?_;refine Zav (h:=?_);refine zy (y7 L 921 (xp sb rb sv R.at_ R2) (.int .u64 st) (r:=xp sb rb sv fr R) Z Z Z Z Z (fun u H C hH hle hr hC=>er (fst:=[xz rb]) (cap:=[]) Z h20 hH hr hC (fun u3 H3 C3 hH3 hle3 hr3 hC3=>by have h:=Na hb hz hRa hH3 ((hsv.le hle).le hle3) hr3 hC3;rw[hz2] at h;exact h))) ?_;refine Zd (h:=?_);refine jn (id:=12) 9 rfl ((Zb∘ZO∘ZF∘Zar∘ZcB∘Zl∘ZN) ?_);refine jk (r:=(xp sb rb sv R.at_ R2).res) (K:=9) L 921 rfl Z Z Z Z (fun u H C hH hle hr hC=>gv hH hr hC) (fun _ _ _ _ h=>h) ?_
       repeat (first | refine jx ?_ | refine ja ?_)
       exact cy (KLd ba be bs0 _ _ _) ⟨Z,Z,Z,Z,Z,Z,nm⟩ (ff E hs1)
     ·rw[nc h3] at hW;have h30:=m4.1 h3;have hwa:IntKind.u64.wrap ((last:Int)+(st:Int))=((last+st:Nat):Int):=(wrap_u64 T T).trans T;have ha3:=ez (bs:=bs) (lim:=4096) ha2;have hlv2:=fun h=>am (bs:=bs) (lim:=4096) (R:=R2) E h;obtain⟨zq,R3,hz3⟩:∃ zq R3,j9 bs 4096 R2=(zq,R3):=⟨_,_,rfl⟩
      rw[hz3] at hW ha3 hlv2;dsimp only at hW ha3 hlv2;refine(Zf∘ZA∘Zz∘ZV∘Zb∘ZY∘ZeJ) ?_;refine jg 921 922 rfl Z (xe (GRd rb sv R)) ?_;refine Zav (h:=?_);refine zy (y7 L 921 (xp sb rb sv R.at_ R2) (.int .u64 st) (r:=xp sb rb sv fr R) Z Z Z Z Z (fun u H C hH hle hr hC=>er (fst:=[xz rb]) (cap:=[]) Z h20 hH hr hC (fun u3 H3 C3 hH3 hle3 hr3 hC3=>by have h:=Na hb hz hRa hH3 ((hsv.le hle).le hle3) hr3 hC3;rw[hz2] at h;exact h))) ?_;refine(Zd∘ZW∘Zb∘ZO∘ZF∘Zar∘ZcC∘Zl) ?_;refine zy (yq L 921 (xp sb rb sv R.at_ R2) (r:=xp sb rb sv R.at_ R2) Z Z Z Z Z (fun u H C hH _ hr hC=>x8 hH hr hC)) ((Zg∘ZX∘Zb∘Zy∘Zd) ?_);refine vm 9 rfl fun x9 H2 hs2 hp9=>?_;obtain⟨pp,pk,pc⟩:=x9;dsimp only at hp9 |-;have hs12:=hs1.trans hs2;have hsv2:=hsv.le hs2.le;by_cases h4:R3.err≠0
      ·rw[na h4] at hW;subst hW;rw[na (by exact h4)] at hY0;subst hY0;refine Dj (id:=14) 3 [(52,[921]),(200052,[2,3,4,910,911,912])] mixed Z J (jp (zx L (vs:=[_,_]) (qw Z) Z Z Z Z ⟨_,rfl⟩) Z (Zec (h:=?_)));refine Zec (h:=?_);refine iu [(2,.is (xz bs0)),(3,.is (xz ba)),(4,.is (xz be)),(910,.own (xk bs0 [.pointer none] tyPS)),(911,.own (xk ba [.int .i64 0] Xx)),(912,.own (xk be [.int .i64 0] Ke)),(51,.is (xz sb)),(921,.own (xp sb rb sv R.at_ R2).res)] J ⟨Z,Z,Z,Z,Z,Z,Z,Z,nm⟩ (jk (r:=(xp sb rb sv R.at_ R2).res) (K:=3) L 921 rfl Z Z Z Z (fun u H C hH hle hr hC=>by have h:=Dz (lim:=4096) hb hz ha2 T (by rw[hz3];exact h4) hH (hsv2.le hle) hr hC;rw[hz3] at h;exact h) (fun _ _ _ _ h=>h) ?_)
       repeat (first | refine jx ?_ | refine ja ?_)
       exact cy (KLd ba be bs0 _ _ _) ⟨Z,Z,Z,Z,Z,Z,nm⟩ (ff h4 hs12)
      ·rw[nc h4] at hW;have h40:R3.err=0:=m4.1 h4;obtain⟨k,rfl,hk⟩:=hlv2 h40;rw[zlp] at hW;have hnew:=hj.new h30.1;have hph:=hj.ph;have hpl0:=hj.pl;have hr0:((last+st:Nat):Int)≠0:=T;have hm1:Kn.mono (.sat (PnS (P++List.replicate k ((last+st:Nat):Int)))):=PnS.mono;have hm2:Kn.mono (.sat (fun v _=>v=Value.int .i64 0)):=fun _ _ _ h _=>h;refine qg (id:=14) [(52,[921])] mixed J (z8 (zx L (vs:=[_,_]) (qw Z) Z Z Z Z ⟨_,rfl⟩) Z (Zm (h:=?_)));refine xw (y7 L 921 (xp sb rb sv R2.at_ R3) (.int .i64 k) (r:=xp sb rb sv R.at_ R2) Z Z Z Z Z (fun u H C hH hle hr hC=>by have h:=size_ret (lim:=4096) hb hz ha2 T (by rw[hz3];exact h40) hH (hsv2.le hle) hr hC;rw[hz3] at h;exact h)) Z Z ?_;refine z8 (xg (φ:=PnE (P++List.replicate k ((last+st:Nat):Int))) L Z Z (zn Z) Z Z Z PnE.mono (fun u H hH hle _=>Tx (x:=(pp,pk,pc)) hr0 hk hnew T T hH (SlV.le hp9 hle))) Z ((ZaA∘ZeS) ?_);refine z8 (di L (X:=Sl3) (fun x=>pnC (P++List.replicate k ((last+st:Nat):Int)) x) (pnQ (P++List.replicate k ((last+st:Nat):Int))) (Ed _) zgo (fun x=>⟨rfl,rfl⟩) Z Z Z Z Z) Z (ZaJ (h:=?_));refine vm 11 rfl fun x11 H3 hs3 hset=>?_;obtain⟨⟨f1,p1,f2,p2⟩,hpl⟩:=x11;dsimp only[scs] at hset hpl |-;have hs13:=hs12.trans hs3;have hsv3:=hsv2.le hs3.le;have ha4:=zey (l:=s) ha3;have hsl4:=za3 (bs:=bs) (R:=R3) hsl;have he4:=fun h=>za4 (bs:=bs) (l:=s) (R:=R3) h;have hcr:=fun(h:(sj bs s R3).2.2=0) {v:Value} {w:World} {B:Heap} {C:Nat->Prop} (hB:zpg B w) (hs:BsV bs false sv B) (hv:SetV s v B) (hr:(xp sb rb sv R2.at_ R3).P B w C) (hC:ZCB C w B)=>Mi hsl hb hz ha3 h hB hs hv hr hC;have hcp:=fun(h:(sj bs s R3).2.2≠0) {v:Value} {w:World} {B:Heap} {C:Nat->Prop} (hB:zpg B w) (hs:BsV bs false sv B) (hv:SetV s v B) (hr:(xp sb rb sv R2.at_ R3).P B w C) (hC:ZCB C w B)=>Mj hsl hb hz ha3 h hB hs hv hr hC;generalize sj bs s R3=zpa at hW ha4 hsl4 he4 hcr hcp;obtain⟨⟨s',R4⟩,⟨ca,ce⟩⟩:=zpa;dsimp only at hW ha4 hsl4 he4 hcr hcp;by_cases h5:ce≠0
       ·rw[na h5] at hW;subst hW;rw[na (by exact h5)] at hY0;subst hY0;refine jn (id:=15) 2 rfl ((Za∘Zbg∘ZN) ?_);refine jk (r:=(xp sb rb sv R2.at_ R3).res) (K:=2) L 921 rfl Z Z Z Z (fun u H C hH hle hr hC=>hcp h5 hH (hsv3.le hle) (hset.le hle) hr hC) (fun _ _ _ _ h=>h) ?_
        repeat (first | refine jx ?_ | refine ja ?_)
        exact cy (KLd ba be bs0 _ _ _) ⟨Z,Z,Z,Z,Z,Z,nm⟩ (ff h5 hs13)
       ·rw[nc h5] at hW;have h50:ce=0:=m4.1 h5;have hj2:=hj.next hlt (st:=st) (n:=k) h30 hk hsl4 (he4 h50) ha4 hm hW;refine(Za0∘Za∘Zbg) ?_;refine zy (A7 L 921 (xp sb rb sv R3.at_ R4) (SetV s') (r:=xp sb rb sv R2.at_ R3) Z Z Z Z Z SetV.mono (fun u H C hH hle hr hC=>hcr h50 hH (hsv3.le hle) (hset.le hle) hr hC)) (z7 (di L (X:=SXp) (fun x=>scs x.1) (B7 s') (ku _) Gf (fun x=>⟨rfl,x.2⟩) Z Z Z Z Z) Z (Zs (h:=?_)));refine vm 11 rfl fun x12 H4 hs4 hset4=>?_;obtain⟨⟨f3,p3,f4,p4⟩,hpl4⟩:=x12;dsimp only[scs] at hset4 hpl4 |-;refine vm 8 rfl fun y8 H5 hs5 hq8=>?_;have hset5:=hset4.le hs5.le;have hzl1:(zs.map (·.1)).length<=1024:=by rw[mt,hj.zl];omega
        have hyl1:y8.length<=1024:=by have h:=nh List.length hq8.1;rw[mt,mt,hj.zl] at h;omega
        refine qg (id:=16) [(59,[7]),(62,[59]),(63,[8]),(66,[63]),(7,[62]),(8,[66])] mixed J (xw (yo (.inl Z) Z) Z Z ((Zj∘Zdi) ?_));refine xw (wn L Z Z Z (az Z) Z zfp Z Z T T) Z Z (xw (yo (.inl Z) Z) Z Z ((Zce∘Zdi) ?_));refine xw (wn L Z Z Z (az Z) Z zk8 Z M T T) Z Z (xw (yo (.inr Z) Z) Z Z (xw (yo (.inr Z) Z) Z Z ((ZbU∘ZP∘Zb8∘Zbc) ?_)));refine ei (X:=List SB) 8 (r:=fun x=>SlR tySt 4 x.length (x.flatMap sbc)) (D6 _) (y8++[(s',(f3,p3,f4,p4))]) (Yk (r:=((last+st:Nat):Int)) hq8 hset5) (by exact zdj Z) ?_;exact ei (X:=SXp) 11 (r:=fun x=>Cell (scs x.1) tySt) (ku s') ⟨(f3,p3,f4,p4),hpl4⟩ hset5 Z (wk (x:=(i,last,s,zs,P,R,fr)) (i+1,last+st,s',zs++[(((last+st:Nat):Int),s')],P++List.replicate k ((last+st:Nat):Int),R4,R3.at_) (hs2.trans (hs3.trans (hs4.trans hs5))) hj2 (Nat.sub_lt_sub_left hlt (znr i)) ⟨Z,Z,Z,Z,Z,Z,Z,zcy Z,Z,Z,Z,Z,Z,Z,Z,nm⟩)
   ·obtain rfl:i=n:=by have:=hj.hi;omega
    have hW:=hj.hW;rw[zmd] at hW;have hW2:(((zs,P),R),((0:Int),(0:Int)))=Y:=hW;subst hW2;rw[nc (fun h=>h rfl)] at hY0;dsimp only at hY0;by_cases h5:(E8 bs R).2≠0
    ·rw[na h5] at hY0;subst hY0;refine(Zf∘ZA∘ZaO) ?_;refine jn (id:=18) 1 rfl (Zck (h:=?_));refine jk (r:=(xp sb rb sv fr R).res) (K:=1) L 921 rfl Z Z Z Z (fun u H C hH hle hr hC=>Pp hz hRa h5 hH (hsv.le hle) hr hC) (fun _ _ _ _ h=>h) ?_
     repeat (first | refine jx ?_ | refine ja ?_)
     exact cy (KLd ba be bs0 _ _ _) ⟨Z,Z,Z,Z,Z,Z,nm⟩ (ff h5 hs1)
    ·rw[nc h5] at hY0;subst hY0;have h50:(E8 bs R).2=0:=m4.1 h5;have hZ:=hj.z;have hzl:=hj.zl;have hph:=hj.ph;have hpl0:=hj.pl;have hmk:=hZ.mkE T T;refine vm 8 rfl fun y8 H2 hs2 hq8=>?_;refine vm 9 rfl fun x9 H3 hs3 hp9=>?_;obtain⟨pp,pk,pc⟩:=x9;have hs13:=hs1.trans (hs2.trans hs3);have hsv3:=(hsv.le hs2.le).le hs3.le;have hqs:=hq8.2.le hs3.le;have hzk:=Dm hq8.1;have hmo:=hZ.mapOK hq8.1;refine(Zf∘ZA∘ZaO∘Zcc) ?_;refine zy (yq L 921 (xp sb rb sv fr R) (r:=xp sb rb sv fr R) Z Z Z Z Z (fun u H C hH hle hr hC=>Po hz hRa h50 hH (hsv3.le hle) hr hC)) (Zg (h:=?_));refine l6 7 rfl (l6 8 rfl ((Zcx∘Zk∘Zk∘Zcl) ?_));refine z7 (wt L Z Z (zn Z) Z Z Z (fun u H hH hle _ v1 h1 v2 h2=>by have h:=Pt (zs:=(zs.map (·.1)).zip y8) (L0:=P) (S:=loS (zs,P)) (e:=0) (by rw[hzk.1];exact hmk) (fun _=>⟨hmo,(nh (Nat.cast (R:=Int)) hZ.len).trans (by rw[hzk.1,hzk.2.2];exact hZ.lst.symm),rfl⟩) T T (by rw[hzk.2.2];omega) hH (by rw[hzk.1];exact h1) (by rw[hzk.2.1];exact h2) (by rw[hzk.2.1];exact hqs.le hle) (SlV.le hp9 hle);exact zg5 h)) Z ?_;refine Aa 74 930 rfl fun b2=>?_;refine Z1 (h:=?_);refine xh (ye L (q:=910) (cs':=[bk b2]) Z Z Z Z Z) (Zg (h:=?_));refine ZaM (h:=?_);refine qz (qb L (q:=910) Z Z Z Z) (xh (ye L (q:=910) (cs':=[bk b2]) Z Z Z Z Z) (xh (ye L (q:=911) (cs':=[.int .i64 0]) Z Z Z Z Z) (xh (ye L (q:=912) (cs':=[.int .i64 0]) Z Z Z Z Z) (Zs (h:=?_)))));refine jt 912 910 rfl Z (l5 _ _ _) ?_;refine jt 911 912 rfl Z (xe (uw (yz be [.int .i64 0] Ke) (yz bs0 [bk b2] tyPS))) ?_;refine zh1 L 911 (r:=G3 ba be bs0 (.int .i64 0) (.int .i64 0) (bk b2)) (r':=G3 ba be bs0 (.int .i64 0) (.int .i64 0) (if (0:Int)=0 then bk b2 else .pointer none)) Z Z Z (fun u H C hH _ hr hC=>Hb RecM.idle (fun u H hH=>Ml hH) hH hr hC) ?_ (fun _ _ h=>h);rw[na rfl];refine En (r1:=xk ba [.int .i64 0] Xx) (r2:=(uw (yz be [.int .i64 0] Ke) (yz bs0 [bk b2] tyPS)).res) 911 912 rfl (xe _) ?_;refine En (r1:=xk be [.int .i64 0] Ke) (r2:=xk bs0 [bk b2] tyPS) 912 910 rfl (l5 _ _ _) ?_;exact pu 3 911 rfl Z (pu 4 912 rfl Z (pu 2 910 rfl Z (zab L 930 (r0:=StG b2 (loS (zs,P))) (rs:=[.cell 2 tyPS,.cell 3 Xx,.cell 4 Ke]) Z hs13 Z (fun H=>wc (qw Z) Z (wc (qw Z) Z (wc (qw Z) Z Z))) (fun H u C _ _ h=>.inl ⟨rfl,b2,rfl,h⟩))))
end Go.V.L11
namespace Go.V
section
variable {P:Program} {F:Fr}  {O:Boxes}  {ops:Array Oper} {κ:Kap} {d:Nat} {ty:TypeId} {pos:String} {aft:Array Edge} 
end
end Go.V
section
open Go.V
attribute [local irreducible] Has N Par Ret RetL Src StepOK V VO X
namespace Go.V.L11
open Go.V.L2 Go.V.L4 Go.V.L6 Go.V.L8 Go.V.Bd
attribute [local irreducible] XP LV RetO RetT ki RetX RetY Pan aa
open Go.V.L3
abbrev rv(sv:Value)(R:Rd):Value:=.agg #[sv,.int .i64 R.at_,.int .i64 R.bad,.int .i64 R.err]
def vh(bs:List Nat)(R:Rd):Nat->Rd
 | 0=>R
 | i+1=>(fw bs 16 (vh bs R i)).2
def Y6(bs:List Nat)(R:Rd):Nat->List ByteArray
 | 0=>[]
 | i+1=>Y6 bs R i++[(fw bs 16 (vh bs R i)).1]
def zif(bs:List Nat)(R:Rd):List ByteArray×Rd:=
 if (vh bs R 6).err≠0 then ([sZ,sZ,sZ,sZ,sZ,sZ],⟨R.at_,(vh bs R 6).bad,(vh bs R 6).err⟩) else (Y6 bs R 6,vh bs R 6)
def tupS2{φ1 φ2:Value->Heap->Prop}{a b:Value}(h1:φ1 a H)(h2:φ2 b H):TupS [φ1,φ2] (.tuple #[a,b]) H:=⟨[a,b],rfl,rfl,fun i φ x hi hx=>by
 match i with
 | 0=>cases hi;cases hx;exact h1
 | 1=>cases hi;cases hx;exact h2
 | i+2=>cases hi⟩
def vi{f:Rd->α×Rd}{z:α}(h:R.err≠0):ln f z R=(z,R):=na h
def sq{β:Type}{f:Rd->α×Rd}{g:Rd->β×Rd}{zf:α}{zg:β}(hf:∀ R:Rd,R.err≠0->f R=(zf,R))(hg:∀ R:Rd,R.err≠0->g R=(zg,R))(R:Rd):
  ln (Dt f g) (zf,zg) R=if (g (f R).2).2.err≠0 then ((zf,zg),⟨R.at_,(g (f R).2).2.bad,(g (f R).2).2.err⟩) else (((f R).1,(g (f R).2).1),(g (f R).2).2):=by
 unfold ln;by_cases h0:R.err≠0
 ·rw[na h0,hf R h0];dsimp only;rw[hg R h0,na h0]
 ·rw[nc h0];rfl
def i6{k:Nat}(h:(vh bs R k).err≠0):vh bs R (k+1)=vh bs R k:=nh Prod.snd (vi (f:=Rq bs 16) (z:=sZ) h)
def zd7:Lw bs R=if (vh bs R 2).err≠0 then ((sZ,sZ),⟨R.at_,(vh bs R 2).bad,(vh bs R 2).err⟩) else (((fw bs 16 R).1,(fw bs 16 (vh bs R 1)).1),vh bs R 2):=
 sq (fun _ h=>vi h) (fun _ h=>vi h) R
def ob:wd bs R=if (vh bs R 3).err≠0 then (n3,⟨R.at_,(vh bs R 3).bad,(vh bs R 3).err⟩) else ((((fw bs 16 R).1,(fw bs 16 (vh bs R 1)).1),(fw bs 16 (vh bs R 2)).1),vh bs R 3):=by
 have h:=sq (f:=Lw bs) (g:=fw bs 16) (zf:=(sZ,sZ)) (zg:=sZ) (fun _ h=>vi h) (fun _ h=>vi h) R;unfold wd;refine h.trans ?_;rw[zd7];by_cases h2:(vh bs R 2).err≠0
 ·rw[na h2];dsimp only;have hs:fw bs 16 ⟨R.at_,(vh bs R 2).bad,(vh bs R 2).err⟩=(sZ,⟨R.at_,(vh bs R 2).bad,(vh bs R 2).err⟩):=vi h2;rw[hs,i6 h2,na h2,na h2]
 ·rw[nc h2];rfl
def uOf:List ByteArray->U
 | [a,b,c,d,e,f]=>(((a,b),c),((d,e),f))
 | _=>(n3,n3)
def Nr:vh bs (vh bs R 3) 3=vh bs R 6:=by simp only[vh]
def Tu:vh bs (vh bs R 3) 1=vh bs R 4:=by simp only[vh]
def Tv:vh bs (vh bs R 3) 2=vh bs R 5:=by simp only[vh]
def Y5:Y6 bs R 6=[(fw bs 16 R).1,(fw bs 16 (vh bs R 1)).1,(fw bs 16 (vh bs R 2)).1,(fw bs 16 (vh bs R 3)).1,(fw bs 16 (vh bs R 4)).1,(fw bs 16 (vh bs R 5)).1]:=by
 simp only[Y6,vh,mh,zll]
def Qg(h3:(vh bs R 3).err≠0):vh bs R 6=vh bs R 3:=by
 have h4:=i6 h3;have h5:=i6 (k:=4) (h4 ▸ h3);have h6:=i6 (k:=5) (h5 ▸ h4 ▸ h3);exact h6.trans (h5.trans h4)
def Du:o0 bs R=if (wd bs (wd bs R).2).2.err≠0 then ((n3,n3),⟨R.at_,(wd bs (wd bs R).2).2.bad,(wd bs (wd bs R).2).2.err⟩) else (((wd bs R).1,(wd bs (wd bs R).2).1),(wd bs (wd bs R).2).2):=sq (f:=wd bs) (g:=wd bs) (zf:=n3) (zg:=n3) (fun _ h=>vi h) (fun _ h=>vi h) R
def Qt(h:R.err≠0):wd bs R=(n3,R):=vi h
def L9(h:e≠0):wd bs ⟨a,b,e⟩=(n3,⟨a,b,e⟩):=Qt (R:=⟨a,b,e⟩) h
def Uo{x y:α}(h:e≠0):(if (⟨a,b,e⟩:Rd).err≠0 then x else y)=x:=na h
def zf6(h3:(vh bs R 3).err≠0):o0 bs R=((n3,n3),⟨R.at_,(vh bs R 3).bad,(vh bs R 3).err⟩):=by
 have hG:=ob (bs:=bs) (R:=R);rw[na h3] at hG;rw[Du,hG];generalize vh bs R 3=zpf at h3 |-;obtain⟨q1,q2,q3⟩:=zpf;have hs:=L9 (bs:=bs) (a:=R.at_) (b:=q2) h3;dsimp only at hs |-;rw[hs];exact Uo h3
def zis{Q3:Rd}{g:gj}(hG:wd bs R=(g,Q3))(hg:wd bs Q3=(n3,⟨a,b,e⟩))(h6:e≠0):o0 bs R=((n3,n3),⟨R.at_,b,e⟩):=by
 rw[Du,hG];dsimp only;rw[hg];exact Uo h6
def zir{Q3 Q6:Rd}{g h:gj}(hG:wd bs R=(g,Q3))(hg:wd bs Q3=(h,Q6))(h6:¬ Q6.err≠0):o0 bs R=((g,h),Q6):=by
 rw[Du,hG];dsimp only;rw[hg];exact nc h6
def zf5(h3:¬ (vh bs R 3).err≠0)(h6:(vh bs R 6).err≠0):o0 bs R=((n3,n3),⟨R.at_,(vh bs R 6).bad,(vh bs R 6).err⟩):=by
 have hG:=ob (bs:=bs) (R:=R);rw[nc h3] at hG;have hg:=ob (bs:=bs) (R:=vh bs R 3);rw[Nr,na h6] at hg;exact zis hG hg h6
def zf4(h3:¬ (vh bs R 3).err≠0)(h6:¬ (vh bs R 6).err≠0):o0 bs R=(((((fw bs 16 R).1,(fw bs 16 (vh bs R 1)).1),(fw bs 16 (vh bs R 2)).1),(((fw bs 16 (vh bs R 3)).1,(fw bs 16 (vh bs R 4)).1),(fw bs 16 (vh bs R 5)).1)),vh bs R 6):=by
 have hG:=ob (bs:=bs) (R:=R);rw[nc h3] at hG;have hg:=ob (bs:=bs) (R:=vh bs R 3);rw[Nr,Tu,Tv,nc h6] at hg;exact zir hG hg h6
def X0:o0 bs R=(uOf (zif bs R).1,(zif bs R).2):=by
 unfold zif;by_cases h3:(vh bs R 3).err≠0
 ·rw[zf6 h3,Qg h3,na h3];dsimp only[uOf]
 ·by_cases h6:(vh bs R 6).err≠0
  ·rw[zf5 h3 h6,na h6];dsimp only[uOf]
  ·rw[zf4 h3 h6,nc h6,Y5];dsimp only[uOf]
def Kv(s:ByteArray)(l:List Nat):F8 (co s++l)=s++F8 l:=by
 apply db;rw[vt];unfold F8 co;simp only[zli,znh];show List.map (UInt8.ofNat∘fun c=>c.toNat) s.data.toList++_=s.data.toList++_;rw[zom (g:=id) fun c _=>by simp,zoa]
def Rz:F8 []=⟨#[]⟩:=rfl
def U3(h:bs[a]?=some b):bs.drop a=b::bs.drop (a+1):=by
 obtain⟨h1,h2⟩:=zl5.1 h;rw[zl9 h1,h2]
def oj{r:List Nat}(h:bs.drop a=b::r):bs[a]?=some b/\bs.drop (a+1)=r:=by
 have h1:bs[a]?=some b:=by
  have:=nh (fun l:List Nat=>l[0]?) h;simpa using this
 refine⟨h1,?_⟩;have h2:=U3 h1;rw[h] at h2;exact(List.cons.inj h2).2.symm
def vl{x r:List Nat}(h:bs.drop a=x++r):bs.drop (a+x.length)=r:=by
 rw[<-zlz,h,zm6]
def To(h:bs[R.at_]?=some n)(hn:n<128):G1 bs R=(n,⟨R.at_+1,R.bad,R.err⟩):=by
 unfold G1;show Re bs (9+1) 0 0 R=_;unfold Re;rw[h];dsimp only;rw[nc T,na hn,zov hn];simp
def N2{lim:Nat}{R2:Rd}(h0:R.err=0)(h:G1 bs R=(n,R2))(h2:R2.err=0)(hn:n<=lim)(hl:lim<=1099511627776):j9 bs lim R=((n:Int),R2):=by
 have hw:ct bs lim 3 R=(n,R2):=by unfold ct;rw[h];exact if_neg G
 have hg:zcc bs lim R=((n:Int),R2):=by
  unfold zcc;rw[hw];exact Prod.ext (yy G G) Z
 unfold j9 ln;rw[nc (fun h=>h h0),hg,nc (fun h=>h h2)]
def Xy{s:ByteArray}(h:s.size<=16):ry s=s.size::co s:=by unfold ry;rw[bo T];rfl
def F7(s:ByteArray):F8 (co s)=s:=by
 have h:=Kv s [];rw[mq,Rz] at h;rw[h];apply db;rw[vt];simp
def zf2{s:ByteArray}(h0:R.err=0)(hs:s.size<=16)(hd:bs.drop R.at_=ry s++rest):fw bs 16 R=(s,⟨R.at_+(ry s).length,R.bad,0⟩):=by
 rw[Xy hs] at hd |-;obtain⟨h1,h2⟩:=oj (r:=co s++rest) hd;have hln:(bs.drop R.at_).length=1+s.size+rest.length:=by rw[hd,nr,ny,dw];omega
 rw[m7] at hln;have hl:=N2 (lim:=16) h0 (To h1 T) h0 hs E
 have hg:Rq bs 16 R=(s,⟨R.at_+1+s.size,R.bad,R.err⟩):=by
  unfold Rq;rw[hl];dsimp only;rw[nc (by intro h;rcases h with h | h;exact h h0;omega),zlp,h2,<-dw,List.take_left,F7]
 unfold fw ln;rw[nc (fun h=>h h0),hg,nc (fun h=>h h0),h0,ny,dw,show R.at_+1+s.size=R.at_+(s.size+1) by omega]
def o8{bs:List Nat}{R:Rd}:∀ n,vh bs R (n+1)=vh bs (fw bs 16 R).2 n
 | 0=>rfl
 | n+1=>by
  have h:vh bs R (n+1+1)=(fw bs 16 (vh bs R (n+1))).2:=rfl;rw[h,o8 n];rfl
def Cx{bs:List Nat}{R:Rd}:∀ n,Y6 bs R (n+1)=(fw bs 16 R).1::Y6 bs (fw bs 16 R).2 n
 | 0=>rfl
 | n+1=>by
  have h:Y6 bs R (n+1+1)=Y6 bs R (n+1)++[(fw bs 16 (vh bs R (n+1))).1]:=rfl;rw[h,Cx n,o8 n];rfl
def zb8{bs rest:List Nat}:∀ {ss:List ByteArray} {R:Rd},R.err=0->(∀ s∈ss,s.size<=16)->bs.drop R.at_=vn ss++rest->vh bs R ss.length=⟨R.at_+(vn ss).length,R.bad,0⟩/\Y6 bs R ss.length=ss
 | [],R,h0,_,_=>by
  obtain⟨a,b,e⟩:=R;cases h0;exact⟨rfl,rfl⟩
 | s::ss,R,h0,hs,hd=>by
  have e1:vn (s::ss)=ry s++vn ss:=rfl;rw[e1,mj] at hd;have h1:=zf2 h0 (hs s (mb ..)) hd;have h2:=zb8 (R:=⟨R.at_+(ry s).length,R.bad,0⟩) rfl (fun x hx=>hs x (mc _ hx)) (vl hd);rw[ny,o8,Cx,h1,e1,nr,<-znv];dsimp only;exact⟨h2.1,nh (s::·) h2.2⟩
def zcz{t:U}(h:tE t=0):∀ s∈u6 t,s.size<=16:=by
 unfold tE at h;split at h
 ·rename_i h1;obtain⟨c1,c2,c3⟩:=Q9 h1;obtain⟨d1,d2,d3⟩:=o3 h;have a1:=uf c1;have a2:=uf c2;have a3:=uf c3;have b1:=uf d1;have b2:=uf d2
  have b3:t.2.2.size<=16:=by
   rcases d3 with d3 | d3
   ·rw[d3];decide
   ·exact uf d3
  intro s hs;simp only[u6,nz,zmj,or_false] at hs;rcases hs with rfl | rfl | rfl | rfl | rfl | rfl<;>assumption
 ·rename_i h1;exact ni h h1
def zf3{t:U}(h0:R.err=0)(ht:tE t=0)(hd:bs.drop R.at_=M3 t++rest):o0 bs R=(t,⟨R.at_+(M3 t).length,R.bad,0⟩):=by
 obtain⟨h1,h2⟩:=zb8 (ss:=u6 t) h0 (zcz ht) hd;have e6:(u6 t).length=6:=rfl;rw[e6] at h1 h2;rw[X0];unfold zif;rw[h1,h2,nc (fun h=>h rfl)];rfl
def zau(h0:R.err=0)(ha:¬ R.at_<bs.length):E8 bs R=(R.bad,0):=by unfold E8;rw[if_neg (fun h=>ha h.2),h0]
def zcu{lim:Nat}{R2:Rd}(h:G1 bs R=(n,R2))(hn:n<=lim):ct bs lim e R=(n,R2):=by
 unfold ct;rw[h];exact if_neg G
def ze7{bs rest:List Nat}{k:Bool}(h0:R.err=0)(hd:bs.drop R.at_=[if k=true then 1 else 0]++rest):bw bs R=(k,⟨R.at_+1,R.bad,0⟩):=by
 obtain⟨h1,_⟩:=oj (r:=rest) hd;have hw:=zcu (lim:=1) (e:=5) (To h1 (by split<;>omega)) (by split<;>omega)
 have hg:bG bs R=(k,⟨R.at_+1,R.bad,R.err⟩):=by
  unfold bG;rw[hw];cases k<;>rfl
 rw[Ow];unfold ln;rw[nc (fun h=>h h0),hg,nc (fun h=>h h0),h0]
def za5:pz bs R=if (bw bs (o0 bs R).2).2.err≠0 then (((n3,n3),false),⟨R.at_,(bw bs (o0 bs R).2).2.bad,(bw bs (o0 bs R).2).2.err⟩) else (((o0 bs R).1,(bw bs (o0 bs R).2).1),(bw bs (o0 bs R).2).2):=
 sq (f:=o0 bs) (g:=bw bs) (zf:=(n3,n3)) (zg:=false) (fun _ h=>vi h) (fun _ h=>vi h) R
def zhs(h0:R.err=0)(ht:tE c.1=0)(hd:bs.drop R.at_=chgB c++rest):pz bs R=(c,⟨R.at_+(chgB c).length,R.bad,0⟩):=by
 unfold chgB at hd;rw[mj] at hd;have h1:=zf3 h0 ht hd;have h2:=ze7 (R:=⟨R.at_+(M3 c.1).length,R.bad,0⟩) (k:=c.2) rfl (vl hd);rw[za5,h1];dsimp only;rw[h2];dsimp only;rw[nc (fun h=>h rfl)];unfold chgB;rw[nr,zme,znv]
def zfk(l:List U):Option U->List CH->Prop
 | _,[]=>True
 | la,c::cs=>tE c.1=0/\Xj la c.1=true/\decide (c.1∈l)=c.2/\zfk l (some c.1) cs
def Fq(cs:List CH):List CH:=cs.filter fun c=>!c.2
def lq(cs:List CH):List CH:=cs.filter fun c=>c.2
def V4(c:CH)(cs a:List CH):(if c.2=true then a else a++[c])++Fq cs=a++Fq (c::cs):=by
 unfold Fq;cases h:c.2
 ·rw[nc E,zm0 (by simp [h])];simp
 ·rw[na rfl,znu (by simp [h])]
def Qz(c:CH)(cs d:List CH):(if c.2=true then d++[c] else d)++lq cs=d++lq (c::cs):=by
 unfold lq;cases h:c.2
 ·rw[nc E,znu (by simp [h])]
 ·rw[na rfl,zm0 (by simp [h])];simp
def Vm{bs rest:List Nat}{l:List U}:∀ {cs:List CH} {la:Option U} {a d:List CH} {R:Rd},R.err=0->zfk l la cs->bs.drop R.at_=cs.flatMap chgB++rest->
  De bs l cs.length la a d R=(((a++Fq cs,d++lq cs),⟨R.at_+(cs.flatMap chgB).length,R.bad,0⟩),(0,0))
 | [],la,a,d,R,h0,_,_=>by
  obtain⟨x,y,z⟩:=R;cases h0;show(((a,d),_),_)=(((a++[],d++[]),_),_);rw[mq,mq];rfl
 | c::cs,la,a,d,R,h0,hk,hd=>by
  obtain⟨k1,k2,k3,k4⟩:=hk;have e1:(c::cs).flatMap chgB=chgB c++cs.flatMap chgB:=rfl;rw[e1,mj] at hd;have h1:=zhs h0 k1 hd;rw[ny];unfold De;rw[h1];dsimp only;rw[nc (fun h=>h rfl),nc (fun h=>h k1),k2,nc E,nc (fun h=>h k3)];rw[Vm (R:=⟨R.at_+(chgB c).length,R.bad,0⟩) rfl k4 (vl hd),V4,Qz,e1,nr,znv]
def Y2(h:¬ n<128)(hi:i<=9)(hn:n*128^i<18446744073709551616):i≠9/\n/128*128^(i+1)<18446744073709551616:=by
 have h1:n/128*128^(i+1)<=n*128^i:=by
  rw[Nat.pow_succ,zn7 (128^i) 128,<-Nat.mul_assoc];exact zmf _ (Nat.div_mul_le_self n 128)
 refine⟨fun e=>?_,by omega⟩;subst e;have h9:(128:Nat)^9=9223372036854775808:=E;rw[h9] at hn;omega
def Y3(hp:0<i->0<n)(hn:n*128^i<18446744073709551616):¬ (i=9/\n≠1\/0<i/\n=0):=by
 rintro(⟨rfl,h⟩ | ⟨h1,h2⟩)
 ·have h9:(128:Nat)^9=9223372036854775808:=E;rw[h9] at hn;have:=hp E;omega
 ·have:=hp h1;omega
def zd8:∀ (f i acc n:Nat) (R:Rd),f+i=10->i<=9->n*128^i<18446744073709551616->(0<i->0<n)->bs.drop R.at_=um n++rest->
  Re bs f i acc R=(acc+n*128^i,⟨R.at_+(um n).length,R.bad,R.err⟩):=by
 intro f
 induction f with
 | zero=>intro i acc n R h1 h2;omega
 | succ f ih=>
  intro i acc n R hf hi hn hp hd;unfold Re;by_cases h:n<128
  ·rw[bo h] at hd |-;obtain⟨h1,_⟩:=oj (r:=rest) hd;rw[h1];dsimp only;rw[nc (Y3 hp hn),na h,zov h];rfl
  ·rw[El h] at hd |-;obtain⟨h1,h2⟩:=oj (r:=um (n/128)++rest) hd;obtain⟨hi8,hq⟩:=Y2 h hi hn;have hr:=ih (i+1) (acc+(n%128+128)%128*128^i) (n/128) ⟨R.at_+1,R.bad,R.err⟩ T T hq (fun _=>by omega) h2;rw[h1];dsimp only;rw[nc T,nc T,hr];have e1:(n%128+128)%128=n%128:=T;have e2:n=n%128+128*(n/128):=T;refine Prod.ext ?_ ?_
   ·dsimp only;rw[e1,znv,Nat.pow_succ];congr 1
    conv=>rhs;rw[e2]
    rw[zl6,zn7 128 (n/128),Nat.mul_assoc (n/128) 128,zn7 128 (128^i)]
   ·dsimp only;rw[ny,show R.at_+1+(um (n/128)).length=R.at_+((um (n/128)).length+1) by omega]
def Np(hn:n<18446744073709551616)(hd:bs.drop R.at_=um n++rest):G1 bs R=(n,⟨R.at_+(um n).length,R.bad,R.err⟩):=by
 unfold G1;rw[zd8 10 0 0 n R rfl E T (fun h=>ni h (Nat.lt_irrefl 0)) hd];simp
def Xi(cs:List CH):List Nat:=um cs.length++cs.flatMap chgB
def zex(h0:R.err=0)(hn:cs.length<=8192)(hk:zfk l none cs)(hs:l.length+(Fq cs).length<=4096+(lq cs).length)(hd:bs.drop R.at_=Xi cs++rest):
  sj bs l R=((ox l (lq cs++Fq cs),⟨R.at_+(Xi cs).length,R.bad,0⟩),(0,0)):=by
 unfold Xi at hd;rw[mj] at hd;have h1:=Np (n:=cs.length) T hd;rw[h0] at h1;have h2:=N2 (lim:=8192) h0 h1 rfl hn E;have h3:=Vm (bs:=bs) (rest:=rest) (l:=l) (cs:=cs) (la:=none) (a:=[]) (d:=[]) (R:=⟨R.at_+(um cs.length).length,R.bad,0⟩) rfl hk (vl hd);unfold sj;rw[h2];dsimp only;rw[nc (fun h=>h rfl),zlp,h3];dsimp only;rw[nc (fun h=>h rfl),mh,mh,nc T];unfold Xi;rw[nr,znv]
open Go.V.L10
abbrev K3:=Int×Nat×List U
def Q0:List K3->Int->List U->List Nat
 | [],_,_=>[]
 | k::ks,last,s=>(um (k.1-last).toNat++(um k.2.1++Xi (Bv s k.2.2)))++Q0 ks k.1 k.2.2
def Mc(ks:List K3):List Nat:=um ks.length++Q0 ks 0 []
def tZ(S:Sto)(r:Int):List U:=(kpt S.R r).getD []
def L5(S:Sto):List K3:=(ko S.R).map fun r=>(r,List.count r S.P,tZ S r)
structure zkg(S:Sto):Prop where
 n0:S.R.length≠0
 rl:S.R.length<18446744073709551616
 k0:0<(ko S.R).length
 kl:(ko S.R).length<=1024
 pl:(xc S.P).length<=100000
 pb:S.P.length<=1000000000000
 tl:∀ r t,kpt S.R r=some t->t.length<=4096/\Sst kq t/\∀ x∈t,∀ s∈u6 x,s.size<=1000
def g8(h:n<18446744073709551616):(um n).length<=10:=by
 have h128:(128:Nat)^10=1180591620717411303424:=E;exact ix 9 n T
def Bt{l:List CH}(h:∀ c∈l,∀ s∈u6 c.1,s.size<=1000):∀ i,((l.take i).flatMap chgB).length<=i*6061
 | 0=>by rw[zl4];exact ns _
 | i+1=>by
  have h1:=Bt h i;rw[zlc,zlq,nr]
  cases ht:l[i]? with
  | none=>
   have e:(none.toList:List CH).flatMap chgB=[]:=rfl;rw[e,my];omega
  | some c=>
   have h2:=za6 (h c (zln ht));have e:((some c).toList:List CH).flatMap chgB=chgB c:=by simp
   rw[e];omega
def Q4{l:List CH}(h:l[i]?=some c):(l.take (i+1)).flatMap chgB=(l.take i).flatMap chgB++chgB c:=by
 rw[zlc,h,zlq];simp
structure DmJ(S:Sto)(T0:List Nat)(i last:Nat)(s:List U)(acc:List Nat):Prop where
 hi:i<=(ko S.R).length
 he:acc++Q0 ((L5 S).drop i) last s=T0
 bz:acc.length<=10+i*50000000
 sl:s.length<=4096
 ss:Sst kq s
 sz:∀ x∈s,∀ q∈u6 x,q.size<=1000
 lb:∀ (j:Nat) (r:Int),i<=j->(ko S.R)[j]?=some r->(last:Int)<r
def zaw(hD:zkg S)(hB:zpg B w)(hr:(StG b S).P B w C)(hC:ZCB C w B):
  RetY zph 85 [bk b] w B C (StG b S) (TupS [BsV (Mc (L5 S)) true,fun v _=>v=.int .i64 0]):=by
 have hkl:=hD.kl;have hpb:=hD.pb;have hk0:=hD.k0;have hzl:(L5 S).length=(ko S.R).length:=mt ..;have hn0:=g8 (n:=(ko S.R).length) T;unfold RetY;refine yr 910 (StG b S) Tryz.func85 Z Tryz.ntmps85 (np Z) hB hr hC ((ZbH∘Zbv) ?_);refine qz (wx L 910 (RsV (ko S.R) true) (r:=StG b S) Z Z Z Z Z nw (fun u H2 C2 hH hle hr2 hC2=>Sc hD.n0 T hH hr2 hC2)) ((ZR∘Zay∘Zx∘Zh∘Zq∘Zn∘ZS∘Z2∘Zg) ?_);refine kz 5 900 rfl fun wb=>?_;refine V9 901 Xe 1 (jt 900 901 rfl Z (Fg _ _) ?_);refine ow (X:=Value) 900 (r:=fun sv=>(GWv wb [] sv).res) (φ:=fun sv _=>Mq sv) li (.slice none 0 0) ⟨_,_,_,rfl⟩ Z ((ZE∘Zh) ?_);refine z7 (kg Z Z Z eg.1 eg.2 (wrap_u64 T T)) Z (zy (yq L 900 (GWr wb (um (ko S.R).length)) (r:=GWr wb []) Z Z Z Z Z (fun u H C hH _ hr hC=>uh (bs:=[]) T E hH hr hC)) ((Zg∘Zaw∘ZcS∘Z2∘Zv∘ZaL∘Zay∘ZK∘Zh∘Zbt) ?_));have hj0:DmJ S (Mc (L5 S)) 0 0 [] (um (ko S.R).length):=⟨Nat.zero_le _,by unfold Mc;rw[hzl];rfl,by omega,Nat.zero_le _,Sst.nil,(fun _ h=>by cases h),fun j r _ hr=>(dq (wz.1 (List.mem_of_getElem? hr))).1⟩
 generalize Mc (L5 S)=T0 at hj0 |-;refine ow (X:=SXp) 7 (r:=fun x=>Cell (scs x.1) tySt) (φ:=B7 []) (ku []) ⟨(.nilFunc,none,.nilFunc,none),rfl⟩ SetV.nil Z ?_
 refine xm (fun x:Nat×Nat×List U×List Nat=>[(0,.is (bk b)),(5,.is (xz wb)),(6,.is (.int .u64 x.2.1)),(7,.own (ExR (fun y:SXp=>Cell (scs y.1) tySt) (B7 x.2.2.1) (ku _))),(25,.sat (RsV (ko S.R) true)),(26,.is (.int .i64 (ko S.R).length)),(27,.is (.int .i64 x.1)),(900,.own (GWr wb x.2.2.2).res),(910,.own (StG b S).res)])
  (fun x=>DmJ S T0 x.1 x.2.1 x.2.2.1 x.2.2.2) (fun x=>(ko S.R).length-x.1) (0,0,[],um (ko S.R).length) hj0 ⟨rfl,rfl,rfl,rfl,rfl,rfl,rfl,rfl,rfl,nm⟩ ?_
 rintro⟨i,last,s,acc⟩ hj;dsimp only at hj |-;have hbz:=hj.bz;have hsl:=hj.sl;have hss:=hj.ss;by_cases hlt:i<(ko S.R).length
 ·obtain⟨r,hr1⟩:=xi hlt;have hk:=wz.1 (zln hr1);obtain⟨t,ht⟩:=zmc.1 hk;have hb1:=dq hk;obtain⟨rn,rfl⟩:∃ rn:Nat,r=(rn:Int):=⟨r.toNat,by omega⟩
  have hcr:=Gq hr1;have hrl:=hD.rl;have hA:atS S rn=(t,0):=by unfold atS;rw[if_neg T,ht]
  obtain⟨tl,ts,tz⟩:=hD.tl _ _ ht;have hlb:=hj.lb i _ (ns _) hr1;have hws:IntKind.u64.wrap ((rn:Int)-(last:Int))=((rn-last:Nat):Int):=(wrap_u64 T T).trans T;have hcn:List.count (rn:Int) S.P<=S.P.length:=zo7;have hcw:IntKind.u64.wrap ((List.count (rn:Int) S.P:Nat):Int)=((List.count (rn:Int) S.P:Nat):Int):=wrap_u64 T T;have hzi:(L5 S)[i]?=some ((rn:Int),List.count (rn:Int) S.P,t):=by unfold L5 tZ;rw[List.getElem?_map,hr1];show some ((rn:Int),List.count (rn:Int) S.P,(kpt S.R rn).getD [])=_;rw[ht];rfl
  have he:=hj.he
  have hdr:(L5 S).drop i=((rn:Int),List.count (rn:Int) S.P,t)::(L5 S).drop (i+1):=by
   rw[zl9 T];rw[zlh T] at hzi;rw[Option.some.inj hzi]
  rw[hdr] at he;unfold Q0 at he;dsimp only at he;rw[show((rn:Int)-(last:Int)).toNat=rn-last by omega] at he;have hbl:=Fe s t
  have hmz:∀ c∈Bv s t,∀ q∈u6 c.1,q.size<=1000:=fun c hc=>by
   rw[ug] at hc;rcases hc.1 with h | h
   ·exact hj.sz _ h.1
   ·exact tz _ h.2
  have hbt:=ze8 hss ts;have hn1:=g8 (n:=rn-last) T;have hn2:=g8 (n:=List.count (rn:Int) S.P) T
  have hlb2:∀ (j:Nat) (r:Int),i+1<=j->(ko S.R)[j]?=some r->(rn:Int)<r:=fun j r hij hr=>by
   have h3:=zmk.1 (bh S.R) i j hlt (get_lt hr) T;rw[lj hr1,lj hr] at h3;exact Vu.1 h3
  generalize Bv s t=m at he hbl hmz hbt;have hn3:=g8 (n:=m.length) T;have hmw:IntKind.u64.wrap ((m.length:Nat):Int)=((m.length:Nat):Int):=wrap_u64 T T
  have hcnt:∀ {v:Value} {u:World} {H:Heap},zpg H u->PinsP S.P v H->Ret zph 143 [v,.int .u64 rn] u H (fun v _=>v=.int .i64 (List.count (rn:Int) S.P:Nat)):=fun hH h1=>by
   obtain⟨sv,rfl,hsv⟩:=h1;exact rf hD.pl hH hsv
  generalize List.count (rn:Int) S.P=cnt at he hcn hcw hn2 hcnt;have hms:Kn.mono (.sat (SetV t)):=SetV.mono;have hmi:Kn.mono (.sat (fun v _=>v=Value.int .i64 0)):=fun _ _ _ h _=>h;refine(Zf∘ZC∘Zz∘Zat∘Zaa∘Zcy∘Zd∘ZA∘Zb) ?_;refine qz (wx L 910 (WithE t 0) (r:=StG b S) Z Z Z Z Z WithE.mono (fun u H2 C2 hH hle hr2 hC2=>ze9 hA hD.n0 hH hr2 hC2)) ((Zk∘ZcR∘Zc5∘Z2) ?_);refine z7 (di L (X:=SXp) (fun x=>scs x.1) (B7 t) (ku _) Gf (fun x=>⟨rfl,x.2⟩) Z Z Z Z Z) Z (Zd (h:=?_));refine vm 10 rfl fun x H1 hs1 hset=>?_;obtain⟨⟨f1,p1,f2,p2⟩,hpl⟩:=x;dsimp only[scs] at hset hpl |-;refine vm 7 rfl fun x7 H2 hs2 hset7=>?_;obtain⟨⟨f3,p3,f4,p4⟩,hpl7⟩:=x7;dsimp only[scs] at hset7 hpl7 |-;have hset2:=hset.le hs2.le;refine(ZV∘Zas) ?_;refine zy (yq L 900 (GWr wb (acc++um (rn-last))) (r:=GWr wb acc) Z Z Z Z Z (fun u H C hH _ hr hC=>uh T T hH hr hC)) ((Zg∘ZW∘Za) ?_);refine qz (wx L 910 (PinsP S.P) (r:=StG b S) Z Z Z Z Z PinsP.mono (fun u H2 C2 hH hle hr2 hC2=>R8 hD.n0 hH hr2 hC2)) (Za (h:=?_));refine z7 (zz (r:=.int .i64 cnt) L Z Z (zn Z) Z Z Z (fun u H hH hle _ v1 h1=>hcnt hH h1)) Z (z7 (kg Z Z Z eg.1 eg.2 (wrap_u64 T T)) Z (zy (yq L 900 (GWr wb (acc++um (rn-last)++um cnt)) (r:=GWr wb (acc++um (rn-last))) Z Z Z Z Z (fun u H C hH _ hr hC=>uh T (by rw[nr];omega) hH hr hC)) ?_));refine Zg (h:=?_);refine(ZX∘Zbg∘Zbg) ?_;refine z7 (xg (φ:=KS tyC m true) L Z Z (zn Z) Z Z Z nw (fun u H hH hle _=>Hw hsl tl hss ts hbt hH (hset7.le hle) (hset2.le hle))) Z ((ZR∘Zg∘Zbo∘Zh) ?_);refine z7 (kg Z Z Z eg.1 eg.2 (wrap_u64 T T)) Z (zy (yq L 900 (GWr wb (acc++um (rn-last)++um cnt++um m.length)) (r:=GWr wb (acc++um (rn-last)++um cnt)) Z Z Z Z Z (fun u H C hH _ hr hC=>uh T (by simp only[nr];omega) hH hr hC)) ?_);refine(Zay∘Za0∘Zh∘Zbt) ?_;obtain⟨A,hA2,hAl⟩:∃ A,acc++um (rn-last)++um cnt++um m.length=A/\A.length<=40+i*50000000:=⟨_,rfl,by simp only[nr];omega⟩
  rw[hA2];refine xm (fun j:Nat=>[(0,.is (bk b)),(5,.is (xz wb)),(6,.is (.int .u64 last)),(7,.own (Cell [f3,.pointer p3,f4,.pointer p4] tySt)),(9,.is (.int .u64 rn)),(10,.own (Cell [f1,.pointer p1,f2,.pointer p2] tySt)),(25,.sat (RsV (ko S.R) true)),(26,.is (.int .i64 (ko S.R).length)),(27,.is (.int .i64 i)),(54,.sat (KS tyC m true)),(55,.is (.int .i64 m.length)),(56,.is (.int .i64 j)),(900,.own (GWr wb (A++(m.take j).flatMap chgB)).res),(910,.own (StG b S).res)]) (fun j=>j<=m.length) (fun j=>m.length-j) 0 (mf _) ⟨Z,Z,Z,Z,Z,Z,Z,Z,Z,Z,Z,Z,by rw[zl4,List.flatMap_nil,mq];rfl,Z,nm⟩ ?_;rintro j hjl;have hcl:=Bt hmz j;by_cases hlt2:j<m.length
  ·obtain⟨c,hc⟩:=xi hlt2;have hck:=Eu hc;have hcz:=hmz c (zln hc);have hsn:=Q4 hc;refine(Zf∘Zap∘Zz∘Zb8∘Zaa∘ZcX∘Zaj∘Zs∘Zem∘Zdr) ?_;refine zy (yq L 900 (GWr wb (A++(m.take j).flatMap chgB++chgB c)) (r:=GWr wb (A++(m.take j).flatMap chgB)) Z Z Z Z Z (fun u H C hH _ hr hC=>Xs hcz (by rw[nr];omega) hH hr hC)) ?_;refine(Zbp∘Zcx∘Zbc) ?_;exact yn (x:=j) (j+1) hlt2 T ⟨Z,Z,Z,Z,Z,Z,Z,Z,Z,Z,Z,Z,by rw[hsn,<-mj];rfl,Z,nm⟩
  ·obtain rfl:j=m.length:=by omega
   rw[zla] at hcl |-;refine(Zf∘Zap∘Zff∘Zax∘Zc6) ?_;refine qg (id:=20) [] mixed J ((Zj∘Zce∘Zbd) ?_);refine z8 (qp L Z Z M Z) Z ((ZbU∘ZP∘Zcj∘Zbc) ?_);exact ei (X:=SXp) 7 (r:=fun x=>Cell (scs x.1) tySt) (ku t) ⟨(f1,p1,f2,p2),hpl⟩ hset2 Z (wk (x:=(i,last,s,acc)) (i+1,rn,t,A++m.flatMap chgB) (hs1.trans hs2) ⟨hlt,by rw[<-he,<-hA2];unfold Xi;simp only[List.append_assoc],by rw[List.length_append];omega,tl,ts,tz,hlb2⟩ G ⟨Z,Z,Z,Z,Z,Z,Z,Z,Z,trivial⟩)
 ·obtain rfl:i=(ko S.R).length:=by have:=hj.hi;omega
  have he:=hj.he;rw[zlf T] at he;have he2:acc=T0:=by rw[<-he];exact(mq _).symm
  subst he2;refine(Zf∘ZC∘ZaO∘ZcD) ?_;refine zy (A7 L 900 GNo (BsV acc true) (r:=GWr wb acc) Z Z Z Z Z nw (fun u H C hH _ hr hC=>Qy (O8 T hH hr hC))) ((ZR∘Zc) ?_);exact vw L 910 (r:=StG b S) (rs:=[.tmp 2,.tmp 3]) Z (fun _ _ h=>h) nq Z Z (fun H _ v hv=>Sg hv)
def zcl{la:Option U}{t:U}:Xj la t=true↔∀ y,la=some y->kq y t<0:=by
 cases la with
 | none=>exact⟨fun _ y h=>(by cases h),fun _=>rfl⟩
 | some y=>exact⟨fun h z hz=>(by cases hz;exact nj h),fun h=>nf (h y rfl)⟩
def Om{l:List U}:∀ {cs:List CH} {la:Option U},zfk l la cs↔((∀ c∈cs,tE c.1=0/\decide (c.1∈l)=c.2/\∀ y,la=some y->kq y c.1<0)/\Kd cs)
 | [],_=>⟨fun _=>⟨(fun _ h=>by cases h),Sst.nil⟩,fun _=>trivial⟩
 | c::cs,la=>by
  have ih:=Om (l:=l) (cs:=cs) (la:=some c.1);constructor
  ·rintro⟨h1,h2,h3,h4⟩;obtain⟨h4,h5⟩:=ih.1 h4;have hb:=zcl.1 h2;refine⟨fun d hd=>?_,mg.2 ⟨fun a ha=>?_,h5⟩⟩
   ·rcases nz.1 hd with rfl | hd
    ·exact⟨h1,h3,hb⟩
    ·obtain⟨g1,g2,g3⟩:=h4 d hd;exact⟨g1,g2,fun y hy=>cmpT_ord.tr (hb y hy) (g3 _ Z)⟩
   ·obtain⟨d,hd,rfl⟩:=m8.1 ha;exact(h4 d hd).2.2 _ Z
  ·rintro⟨h1,h2⟩;have h3:=mg.1 h2;obtain⟨g1,g2,g3⟩:=h1 c (mb ..);exact⟨g1,zcl.2 g3,g2,ih.2 ⟨fun d hd=>⟨(h1 d (mc _ hd)).1,(h1 d (mc _ hd)).2.1,fun y hy=>by cases hy;exact h3.1 _ (zng (f:=(·.1)) hd)⟩,h3.2⟩⟩
def oh{x:U}:∀ {l:List U},l.Nodup->x∈l->(l.filter fun z=>decide (z≠x)).length+1=l.length
 | [],_,h=>by cases h
 | y::l,hn,h=>by
  obtain⟨h1,h2⟩:=zm3.1 hn;by_cases e:y=x
  ·subst e;have he:(l.filter fun z=>decide (z≠y))=l:=zns.2 fun a ha=>nf (fun e:a=y=>h1 (e ▸ ha));rw[znu (by simp),ny,he]
  ·rw[zm0 (by simp [e]),ny,ny,oh h2 ((nz.1 h).resolve_left fun h=>e h.symm)]
def Ka(l:List U)(c:CH)(cs:List CH):ox l (c::cs)=ox (wq l c.1 c.2).1 cs:=rfl
def zbl(l:List U)(a b:List CH):ox l (a++b)=ox (ox l a) b:=List.foldl_append ..
def H9:∀ {cs:List CH} {l:List U},SOK l->(∀ c∈cs,c.2=true/\tE c.1=0/\c.1∈l)->cs.Pairwise (fun a b=>a.1≠b.1)->SOK (ox l cs)/\(∀ z,z∈ox l cs↔z∈l/\∀ c∈cs,c.1≠z)/\(ox l cs).length+cs.length=l.length
 | [],l,h,_,_=>⟨h,fun z=>⟨fun h=>⟨h,(fun _ h=>by cases h)⟩,fun h=>h.1⟩,rfl⟩
 | c::cs,l,h,hc,hp=>by
  obtain⟨g1,g2,g3⟩:=hc c (mb ..);have hw:wq l c.1 c.2=(l.filter fun z=>decide (z≠c.1),0):=by unfold wq;rw[if_pos g2,if_pos g1]
  have hp2:=mg.1 hp;have hS:SOK (l.filter fun z=>decide (z≠c.1)):=⟨h.sst.sublist znt,fun t ht=>h.tz t (zlr.1 ht).1,fun t ht=>h.ok t (zlr.1 ht).1⟩
  obtain⟨i1,i2,i3⟩:=H9 (cs:=cs) hS (fun d hd=>⟨(hc d (mc _ hd)).1,(hc d (mc _ hd)).2.1,zlr.2 ⟨(hc d (mc _ hd)).2.2,nf (hp2.1 d hd).symm⟩⟩) hp2.2;rw[Ka,hw];refine⟨i1,fun z=>?_,?_⟩
  ·rw[i2,zlr];constructor
   ·rintro⟨⟨h1,h2⟩,h3⟩;exact⟨h1,fun d hd=>(nz.1 hd).elim (fun e=>by subst e;exact fun e=>nj h2 e.symm) (h3 d)⟩
   ·rintro⟨h1,h2⟩;exact⟨⟨h1,nf fun e=>h2 c (mb ..) e.symm⟩,fun d hd=>h2 d (mc _ hd)⟩
  ·have:=oh (h.sst.nodup cmpT_ord) g3;rw[ny];dsimp only at i3 |-;omega
def tz_of{t:U}(h:tE t=0):TZ t:=by
 have h6:=zcz h;obtain⟨⟨⟨a,b⟩,c⟩,⟨d,e⟩,f⟩:=t;simp only[u6,nz,zmw,or_false,forall_eq_or_imp,forall_eq] at h6;unfold TZ;dsimp only;omega
def Oy:∀ {cs:List CH} {l:List U},SOK l->(∀ c∈cs,c.2=false/\tE c.1=0/\c.1∉l)->cs.Pairwise (fun a b=>a.1≠b.1)->l.length+cs.length<=4096->SOK (ox l cs)/\(∀ z,z∈ox l cs↔z∈l\/∃ c∈cs,c.1=z)/\(ox l cs).length=l.length+cs.length
 | [],l,h,_,_,_=>⟨h,fun z=>⟨.inl,fun h=>h.elim id (fun⟨_,h,_⟩=>by cases h)⟩,rfl⟩
 | c::cs,l,h,hc,hp,hn=>by
  obtain⟨g1,g2,g3⟩:=hc c (mb ..);rw[ny] at hn;have hw:wq l c.1 c.2=(tg kq c.1 l,0):=by unfold wq;rw[if_pos g2,g1,if_neg E,if_neg g3,if_neg T]
  have hp2:=mg.1 hp;have hS:SOK (tg kq c.1 l):=⟨d9 cmpT_ord h.sst g3,fun t ht=>(u4.1 ht).elim (fun e=>e ▸ tz_of g2) (h.tz t),fun t ht=>(u4.1 ht).elim (fun e=>e ▸ g2) (h.ok t)⟩
  obtain⟨i1,i2,i3⟩:=Oy (cs:=cs) hS (fun d hd=>⟨(hc d (mc _ hd)).1,(hc d (mc _ hd)).2.1,fun hm=>(u4.1 hm).elim (fun e=>hp2.1 d hd e.symm) (hc d (mc _ hd)).2.2⟩) hp2.2 (by rw[wv];omega);rw[Ka,hw];rw[wv] at i3;refine⟨i1,fun z=>?_,by rw[List.length_cons];dsimp only at i3 |-;omega⟩;rw[i2,u4];constructor
  ·rintro((e | h) | ⟨d,hd,e⟩)
   ·exact .inr ⟨c,mb ..,e.symm⟩
   ·exact .inl h
   ·exact .inr ⟨d,mc _ hd,e⟩
  ·rintro(h | ⟨d,hd,e⟩)
   ·exact .inl (.inr h)
   ·rcases nz.1 hd with rfl | hd
    ·exact .inl (.inl e.symm)
    ·exact .inr ⟨d,hd,e⟩
def f9:c∈Fq cs↔c∈cs/\c.2=false:=by unfold Fq;rw[List.mem_filter];simp
def dl:c∈lq cs↔c∈cs/\c.2=true:=by unfold lq;rw[List.mem_filter]
def Oc{cs:List CH}(hs:SOK s)(hk:zfk s none cs):SOK (ox s (lq cs))/\(∀ z,z∈ox s (lq cs)↔z∈s/\∀ c∈cs,c.1≠z)/\(ox s (lq cs)).length+(lq cs).length=s.length:=by
 obtain⟨h1,h2⟩:=Om.1 hk;obtain⟨i1,i2,i3⟩:=H9 (cs:=lq cs) hs (fun c hc=>⟨(dl.1 hc).2,(h1 c (dl.1 hc).1).1,nj ((h1 c (dl.1 hc).1).2.1.trans (dl.1 hc).2)⟩) ((iy h2).filter _);refine⟨i1,fun z=>(i2 z).trans ⟨fun⟨h3,h4⟩=>⟨h3,fun c hc e=>?_⟩,fun⟨h3,h4⟩=>⟨h3,fun c hc=>h4 c (dl.1 hc).1⟩⟩,i3⟩
 cases hk:c.2 with
 | true=>exact h4 c (dl.2 ⟨hc,hk⟩) e
 | false=>exact of_decide_eq_false ((h1 c hc).2.1.trans hk) (e ▸ h3)
def zfa{cs:List CH}(hs:SOK s)(hk:zfk s none cs)(hl:s.length+(Fq cs).length<=4096+(lq cs).length):SOK (ox s (lq cs++Fq cs))/\(∀ z,z∈ox s (lq cs++Fq cs)↔(z∈s/\∀ c∈cs,c.1≠z)\/∃ c∈cs,c.2=false/\c.1=z)/\(ox s (lq cs++Fq cs)).length+(lq cs).length=s.length+(Fq cs).length:=by
 obtain⟨h1,h2⟩:=Om.1 hk;obtain⟨i1,i2,i3⟩:=Oc hs hk;obtain⟨j1,j2,j3⟩:=Oy (cs:=Fq cs) i1 (fun c hc=>⟨(f9.1 hc).2,(h1 c (f9.1 hc).1).1,fun hm=>((i2 _).1 hm).2 c (f9.1 hc).1 rfl⟩) ((iy h2).filter _) T;rw[zbl];refine⟨j1,fun z=>?_,by omega⟩;rw[j2,i2];exact or_congr Iff.rfl ⟨fun⟨c,hc,e⟩=>⟨c,(f9.1 hc).1,(f9.1 hc).2,e⟩,fun⟨c,hc,h,e⟩=>⟨c,f9.2 ⟨hc,h⟩,e⟩⟩
def U8{s t:List U}(hs:SOK s)(ht:SOK t):zfk s none (Bv s t):=Om.2 ⟨fun c hc=>by
 rw[ug] at hc;exact⟨hc.1.elim (fun h=>hs.ok _ h.1) fun h=>ht.ok _ h.2,hc.2.symm,fun _ h=>by cases h⟩,Fc s t⟩
def zbe(hs:SOK s)(ht:SOK t):t.length+(lq (Bv s t)).length=s.length+(Fq (Bv s t)).length:=by
 obtain⟨i1,i2,i3⟩:=Oc hs (U8 hs ht)
 have hp:(ox s (lq (Bv s t))++(Fq (Bv s t)).map (·.1)).Perm t:=by
  refine(List.perm_ext_iff_of_nodup (List.nodup_append.2 ⟨i1.sst.nodup cmpT_ord,?_,?_⟩) (ht.sst.nodup cmpT_ord)).2 fun z=>?_
  ·exact zot.2 ((iy (Fc s t)).filter _)
  ·intro a ha b hb e;obtain⟨c,hc,rfl⟩:=m8.1 hb;exact((i2 a).1 ha).2 c (f9.1 hc).1 e.symm
  ·rw[mn,i2,m8];constructor
   ·rintro(⟨h1,h2⟩ | ⟨c,hc,rfl⟩)
    ·exact Decidable.byContradiction fun h=>h2 (z,true) (ug.2 ⟨.inl ⟨h1,h⟩,(nf h1).symm⟩) Z
    ·have h1:=f9.1 hc;have h2:=ug.1 h1.1;rcases h2.1 with h | h
     ·exact ni h.1 (of_decide_eq_false (h2.2.symm.trans h1.2))
     ·exact h.2
   ·intro hz;by_cases h1:z∈s
    ·refine .inl ⟨h1,fun c hc e=>?_⟩;subst e;rcases(ug.1 hc).1 with h | h
     ·exact h.2 hz
     ·exact h.1 h1
    ·exact .inr ⟨(z,false),f9.2 ⟨ug.2 ⟨.inr ⟨h1,hz⟩,(ng h1).symm⟩,rfl⟩,rfl⟩
 have:=hp.length_eq;rw[nr,mt] at this;omega
def zbf(hs:SOK s)(ht:SOK t)(lt:t.length<=4096):s.length+(Fq (Bv s t)).length<=4096+(lq (Bv s t)).length/\ox s (lq (Bv s t)++Fq (Bv s t))=t:=by
 have h0:=zbe hs ht;obtain⟨i1,i2,i3⟩:=zfa hs (U8 hs ht) T;refine⟨by omega,l8 cmpT_ord i1.sst ht.sst fun z=>?_⟩;rw[i2];constructor
 ·rintro(⟨h1,h2⟩ | ⟨c,hc,h1,rfl⟩)
  ·exact Decidable.byContradiction fun h=>h2 (z,true) (ug.2 ⟨.inl ⟨h1,h⟩,(nf h1).symm⟩) Z
  ·have h2:=ug.1 hc;rcases h2.1 with h | h
   ·exact ni h.1 (of_decide_eq_false (h2.2.symm.trans h1))
   ·exact h.2
 ·intro hz;by_cases h1:z∈s
  ·refine .inl ⟨h1,fun c hc e=>?_⟩;subst e;rcases(ug.1 hc).1 with h | h
   ·exact h.2 hz
   ·exact h.1 h1
  ·exact .inr ⟨(z,false),ug.2 ⟨.inr ⟨h1,hz⟩,(ng h1).symm⟩,rfl,rfl⟩
def kzs(ks:List K3):List (Int×List U):=ks.map fun k=>(k.1,k.2.2)
def kpi(ks:List K3):List Int:=ks.flatMap fun k=>List.replicate k.2.1 k.1
def KOK:List K3->Int->Prop
 | [],_=>True
 | k::ks,last=>last<k.1/\k.1<=18446744073709551615/\k.2.1<=4096/\SOK k.2.2/\k.2.2.length<=4096/\KOK ks k.1
def zjz:SOK []:=⟨Sst.nil,(fun _ h=>by cases h),(fun _ h=>by cases h)⟩
def zgz(h0:R.err=0)(hn:n<18446744073709551616)(hd:bs.drop R.at_=um n++rest):iz bs R=(n,⟨R.at_+(um n).length,R.bad,0⟩):=by
 unfold iz ln;rw[Np hn hd,h0,nc (fun h=>h rfl)];dsimp only;rw[nc (fun h=>h rfl)]
def zcd{bs rest:List Nat}:∀ {ks:List K3} {last:Nat} {s:List U} {acc:List (Int×List U)} {zpf:List Int} {R:Rd},R.err=0->SOK s->s.length<=4096->KOK ks last->bs.drop R.at_=Q0 ks last s++rest->
  ldW bs ks.length last s acc zpf R=(((acc++kzs ks,zpf++kpi ks),⟨R.at_+(Q0 ks last s).length,R.bad,0⟩),(0,0))
 | [],last,s,acc,zpf,⟨a,b,e⟩,h0,_,_,_,_=>by
  dsimp only at h0;subst h0;show(((acc,zpf),(⟨a,b,0⟩:Rd)),((0:Int),(0:Int)))=(((acc++[],zpf++[]),⟨a+0,b,0⟩),(0,0));rw[mq,mq];rfl
 | (r,n,t)::ks,last,s,acc,zpf,R,h0,hs,hl,hk,hd=>by
  obtain⟨k1,k2,k3,k4,k5,k6⟩:=hk;dsimp only at k1 k2 k3 k4 k5 k6;obtain⟨st,rfl,hst⟩:∃ st:Nat,r=((last+st:Nat):Int)/\0<st:=⟨(r-last).toNat,by omega,by omega⟩
  unfold Q0 at hd |-;dsimp only at hd |-;rw[show(((last+st:Nat):Int)-(last:Int)).toNat=st by omega] at hd |-;rw[mj,mj,mj] at hd;have h1:=zgz h0 T hd;have h2:=N2 (lim:=4096) (R:=⟨R.at_+(um st).length,R.bad,0⟩) rfl (Np (n:=n) T (vl hd)) rfl k3 E;have hb:=zbf hs k4 k5;have hbl:=Fe s t;have h3:=zex (R:=⟨R.at_+(um st).length+(um n).length,R.bad,0⟩) rfl T (U8 hs k4) hb.1 (vl (vl hd));rw[hb.2] at h3;have ih:=zcd (ks:=ks) (last:=last+st) (s:=t) (acc:=acc++[(((last+st:Nat):Int),t)]) (zpf:=zpf++List.replicate n ((last+st:Nat):Int)) (R:=⟨R.at_+(um st).length+(um n).length+(Xi (Bv s t)).length,R.bad,0⟩) rfl k4 k5 k6 (vl (vl (vl hd)));rw[ny];unfold ldW;rw[h1];dsimp only;rw[nc (fun h=>h rfl),nc (fun h=>h ⟨hst,by omega⟩),h2];dsimp only;rw[nc (fun h=>h rfl),h3];dsimp only;rw[nc (fun h=>h rfl),zlp,ih];unfold kzs kpi;simp only[mp,zl3,mj,nr,zll,mh,znv]
def zhd{ks:List K3}(hk:KOK ks 0)(h0:0<ks.length)(h1:ks.length<=1024):ldF (Mc ks)=((kzs ks,kpi ks),(0,0)):=by
 have hd:(Mc ks).drop (⟨0,0,0⟩:Rd).at_=um ks.length++(Q0 ks (0:Nat) []++[]):=by rw[mq];rfl
 have h2:=N2 (lim:=1024) (R:=⟨0,0,0⟩) rfl (Np (n:=ks.length) T hd) rfl h1 E;have h3:=zcd (bs:=Mc ks) (acc:=[]) (zpf:=[]) (R:=⟨0+(um ks.length).length,0,0⟩) rfl zjz (mf _) hk (vl hd);unfold ldF;rw[h2];dsimp only;rw[nc (fun h=>h rfl),nc T,zlp,h3];dsimp only;have he:E8 (Mc ks) ⟨0+(um ks.length).length+(Q0 ks (0:Nat) []).length,0,0⟩=(0,0):=zau rfl (by unfold Mc;rw[List.length_append];dsimp only;exact(by simp));rw[nc (fun h=>h rfl),he,nc (fun h=>h rfl)];rfl
end Go.V.L11
namespace Go.V.L10
open Go.V.L2 Go.V.L8 Go.V.L6
attribute [local irreducible] RetO RetT ki RetX RetY
end Go.V.L10
namespace Go.V.L11
open Go.V.L2 Go.V.L3 Go.V.L4 Go.V.L6 Go.V.L8 Go.V.L10
attribute [local irreducible] XP LV RetO RetT ki RetX RetY Pan aa
def zce(S:Sto):(L5 S).length=(ko S.R).length:=mt ..
open Go.V.Bd
end Go.V.L11
namespace Go.V.L2
end Go.V.L2
namespace Go.V.L8
open Go.V.L2 Go.V.L3 Go.V.L6
attribute [local irreducible] RetO RetT ki
end Go.V.L8
namespace Go.V.L11
open Go.V.L2 Go.V.L3 Go.V.L4 Go.V.L6 Go.V.L8 Go.V.L10
def Sb{t:List U}(h:SOK t):∀ x∈t,∀ s∈u6 x,s.size<=1000:=fun x hx s hs=>mw (zcz (h.ok x hx) s hs) E
def zhw{s t:List U}(hs:SOK s)(ht:SOK t):∀ c∈Bv s t,∀ q∈u6 c.1,q.size<=1000:=fun c hc=>by
 rw[ug] at hc;rcases hc.1 with h | h
 ·exact Sb hs _ h.1
 ·exact Sb ht _ h.2
attribute [local irreducible] XP LV RetO RetT ki RetX RetY Pan aa
end Go.V.L11
end
namespace Go.V
inductive dz where
 | s
 | b
 | i (k:IntKind)
def zia:dz->Value->Prop
 | .s,v=>∃ a:ByteArray,v=.string a/\a.size<=maxLen
 | .b,v=>∃ c,v=.bool c
 | .i k,v=>∃ n,v=.int k n/\(Lit.int k n).wf=true
def LeafsOK:List dz->List Value->Prop
 | [],[]=>True
 | l::ls,v::vs=>zia l v/\LeafsOK ls vs
 | _,_=>False
def LeafsOK.append:∀ {a b:List dz} {x y:List Value},LeafsOK a x->LeafsOK b y->LeafsOK (a++b) (x++y)
 | [],_,[],_,_,h=>h
 | [],_,_::_,_,h,_=>h.elim
 | _::_,_,[],_,h,_=>h.elim
 | _::_,_,_::_,_,h,k=>⟨h.1,LeafsOK.append h.2 k⟩
def LeafsOK.length:∀ {a:List dz} {x:List Value},LeafsOK a x->x.length=a.length
 | [],[],_=>rfl
 | [],_::_,h=>h.elim
 | _::_,[],h=>h.elim
 | _::_,_::_,h=>by simp [LeafsOK.length h.2]
def zg9{ls:List dz}(h:LeafsOK (.s::ls) vs):∃ a r,vs=.string a::r/\a.size<=maxLen/\LeafsOK ls r:=by
 cases vs with
 | nil=>exact h.elim
 | cons v vs=>obtain⟨⟨a,rfl,ha⟩,h⟩:=h;exact⟨a,vs,rfl,ha,h⟩
def Ue{k:IntKind}{ls:List dz}(h:LeafsOK (.i k::ls) vs):∃ n r,vs=.int k n::r/\(Lit.int k n).wf=true/\LeafsOK ls r:=by
 cases vs with
 | nil=>exact h.elim
 | cons v vs=>obtain⟨⟨a,rfl,ha⟩,h⟩:=h;exact⟨a,vs,rfl,ha,h⟩
def zha{ls:List dz}(h:LeafsOK (.b::ls) vs):∃ c r,vs=.bool c::r/\LeafsOK ls r:=by
 cases vs with
 | nil=>exact h.elim
 | cons v vs=>obtain⟨⟨a,rfl⟩,h⟩:=h;exact⟨a,vs,rfl,h⟩
def N3(h:LeafsOK [] vs):vs=[]:=by
 cases vs with
 | nil=>rfl
 | cons _ _=>exact h.elim
def zag(P:Program)(rec:TypeId->Option (List dz)):List Field->Nat->Option (List dz)
 | [],_=>some []
 | f::fs,off=>match rec f.type with
  | some ls=>if f.offset=off/\P.cellsOf f.type=ls.length then
    match zag P rec fs (off+ls.length) with
    | some r=>some (ls++r)
    | none=>none
   else none
  | none=>none
def zb4(ls:List dz):Nat->List dz
 | 0=>[]
 | n+1=>ls++zb4 ls n
def Cb(P:Program):Nat->TypeId->Option (List dz)
 | 0,_=>none
 | d+1,t=>match P.underlying t with
  | some .string=>some [.s]
  | some (.int k)=>some [.i k]
  | some .bool=>some [.b]
  | some (.struct fs)=>match zag P (Cb P d) fs.toList 0 with
   | some ls=>if P.cellsOf t=ls.length then some ls else none
   | none=>none
  | some (.array n e)=>match Cb P d e with
   | some ls=>if P.cellsOf e=ls.length/\P.cellsOf t=(zb4 ls n).length then some (zb4 ls n) else none
   | none=>none
  | _=>none
def s8{α β:Type}{f:α->Option β}:∀ {l:List α} {ys:List β},l.mapM f=some ys->∃ g:List β,g=ys/\(∀ x∈l,∃ y,f x=some y/\y∈ys)/\(∀ y∈ys,∃ x∈l,f x=some y)
 | [],ys,h=>by
  simp at h;subst h;exact⟨_,rfl,by simp,by simp⟩
 | x::l,ys,h=>by
  rw[List.mapM_cons] at h
  cases hx:f x with
  | none=>rw[hx] at h;cases h
  | some y=>
   rw[hx] at h
   cases hl:l.mapM f with
   | none=>rw[hl] at h;cases h
   | some zs=>
    rw[hl] at h;cases h;obtain⟨_,_,h1,h2⟩:=s8 hl;refine⟨_,rfl,fun z hz=>?_,fun z hz=>?_⟩
    ·rcases nz.1 hz with rfl | hz
     ·exact⟨y,hx,mb ..⟩
     ·obtain⟨w,hw,hm⟩:=h1 z hz;exact⟨w,hw,mc _ hm⟩
    ·rcases nz.1 hz with rfl | hz
     ·exact⟨x,mb ..,hx⟩
     ·obtain⟨w,hw,hm⟩:=h2 z hz;exact⟨w,mc _ hw,hm⟩
def ah(cs:List Value)(off m r:Nat):(cs.drop off).take (m+r)=(cs.drop off).take m++(cs.drop (off+m)).take r:=by
 rw[List.take_add,zlz]
section
variable {P:Program} {H:Type} {enc:TypeId×Value->H} {W:World} {sp:Nat->Bool} {held:Bool} {base:Nat}
def bp:∀ (d:Nat) {t:TypeId} {ls:List dz},Cb P d t=some ls->∀ {fuel:Nat} {cs:List Value} {x:DataW H×List MemPlace},
  DataW.trod enc P W base sp held fuel t cs=some x->LeafsOK ls cs/\x.2=[]
 | 0,_,_,h,_,_,_,_=>by cases h
 | d+1,t,ls,h,fuel,cs,x,hx=>by
  have ih:=@bp d
  cases fuel with
  | zero=>simp [DataW.trod] at hx
  | succ fuel=>
   rw[Cb] at h;unfold DataW.trod at hx
   cases hu:P.underlying t with
   | none=>rw[hu] at h;cases h
   | some ds=>
    rw[hu] at h hx;cases ds<;>first | (cases h;done) | skip
    ·cases h
     match cs,hx with
     | [.bool b],hx=>cases hx;exact⟨⟨⟨b,rfl⟩,nm⟩,rfl⟩
    ·rename_i k;cases h
     match cs,hx with
     | [.int k' m],hx=>
      simp only at hx;split at hx
      ·rename_i hk;obtain⟨rfl,hw⟩:=hk;cases hx;exact⟨⟨⟨m,rfl,hw⟩,nm⟩,rfl⟩
      ·cases hx
    ·cases h
     match cs,hx with
     | [.string s],hx=>
      simp only at hx;split at hx
      ·rename_i hs;cases hx;exact⟨⟨⟨s,rfl,hs⟩,nm⟩,rfl⟩
      ·cases hx
    ·rename_i n e;simp only at h hx;split at h
     ·rename_i l1 hl1;split at h
      ·rename_i hc;cases h;split at hx
       ·rename_i hlen;obtain⟨xs,hxs,rfl⟩:=zo8.1 hx;obtain⟨_,_,hall,hback⟩:=s8 hxs
        have each:∀ i,i<n->LeafsOK l1 ((cs.drop (i*P.cellsOf e)).take (P.cellsOf e)):=fun i hi=>by
         obtain⟨y,hy,_⟩:=hall i (List.mem_range.2 hi);exact(ih hl1 hy).1
        have gen:∀ m k,k+m=n->LeafsOK (zb4 l1 m) ((cs.drop (k*P.cellsOf e)).take (m*P.cellsOf e)):=by
         intro m
         induction m with
         | zero=>intro k _;simp [zb4,LeafsOK]
         | succ m ihm=>
          intro k hk;rw[show(m+1)*P.cellsOf e=P.cellsOf e+m*P.cellsOf e by rw[zmo];omega,ah];refine LeafsOK.append (each k T) ?_;rw[show k*P.cellsOf e+P.cellsOf e=(k+1)*P.cellsOf e by rw[zmo]];exact ihm (k+1) T
        refine⟨?_,?_⟩
        ·have:=gen n 0 T
         have hrl:∀ m,(zb4 l1 m).length=m*P.cellsOf e:=by
          intro m
          induction m with
          | zero=>simp [zb4]
          | succ m ihm=>simp only[zb4,nr,ihm,hc.1];rw[zmo];omega
         rw[<-hrl n,<-hc.2,<-hlen] at this;simpa using this
        ·refine List.flatMap_eq_nil_iff.2 fun y hy=>?_;obtain⟨i,_,hi⟩:=hback y hy;exact(ih hl1 hi).2
       ·cases hx
      ·cases h
     ·cases h
    ·rename_i fs;simp only at h hx;split at h
     ·rename_i l1 hl1;split at h
      ·rename_i hc;cases h;split at hx
       ·rename_i hlen;obtain⟨xs,hxs,rfl⟩:=zo8.1 hx;obtain⟨_,_,hall,hback⟩:=s8 hxs
        have gen:∀ (fl:List Field) (off:Nat) (ls:List dz),(∀ f∈fl,f∈fs.toList)->zag P (Cb P d) fl off=some ls->
          LeafsOK ls ((cs.drop off).take ls.length)/\∀ f∈fl,∃ l,Cb P d f.type=some l:=by
         intro fl
         induction fl with
         | nil=>intro off ls _ h;cases h;simp [LeafsOK]
         | cons f fl ihf=>
          intro off ls hm h;simp only[zag] at h;split at h
          ·rename_i l2 hl2;split at h
           ·rename_i hc2;obtain⟨rfl,hc3⟩:=hc2;split at h
            ·rename_i r hr;cases h;obtain⟨g1,g2⟩:=ihf _ _ (fun g hg=>hm g (mc _ hg)) hr;refine⟨?_,fun g hg=>?_⟩
             ·rw[nr,ah];refine LeafsOK.append ?_ g1;obtain⟨y,hy,_⟩:=hall f (hm f (mb ..));rw[<-hc3];exact(ih hl2 hy).1
             ·rcases nz.1 hg with rfl | hg
              ·exact⟨l2,hl2⟩
              ·exact g2 g hg
            ·cases h
           ·cases h
          ·cases h
        obtain⟨g1,g2⟩:=gen fs.toList 0 _ (fun _ h=>h) hl1;refine⟨?_,?_⟩
        ·rw[<-hc,<-hlen] at g1;simpa using g1
        ·refine List.flatMap_eq_nil_iff.2 fun y hy=>?_;obtain⟨f,hf,hi⟩:=hback y hy;obtain⟨l,hl⟩:=g2 f hf;exact(ih hl hi).2
       ·cases hx
      ·cases h
     ·cases h
def zd0{t e:TypeId}{ls:List dz}{b0:Nat}{dd:DataW H}{ps:List MemPlace}(ht:P.underlying t=some (.slice e))(hlf:Cb P 20 e=some ls)(hce:P.cellsOf e=ls.length)
  (hval:Value.okWide P W .any b0 t v) (hd:DataW.Trod enc P W 0 (fun _=>true) held t v dd ps):
  ∃ cs:List (List Value),(∀ c∈cs,LeafsOK ls c)/\cs.length<=maxLen/\SlV e ls.length cs.flatten cs.length false v (hp W):=by
 obtain⟨fuel,hf⟩:=hd
 have hv:v=.slice none 0 0\/∃ a len cap,v=.slice (some a) len cap/\len<=cap/\cap<=maxLen/\a.spot=none/\∃ cs fr ty,W.heap[a.block]?=some (.cells cs ty fr):=by
  have h0:Cell.ok P W .any b0 t v:=by
   unfold Value.okWide at hval;rw[ht] at hval;unfold Cell.okWide at hval;rw[ht] at hval;exact hval
  unfold Cell.ok at h0;rw[ht] at h0
  match v,h0 with
  | .slice none 0 0,_=>exact .inl rfl
  | .slice (some a) len cap,h0=>
   obtain⟨h1,h2,_,h3,row,cells,h4,_⟩:=h0;have hm:IntKind.i64.max=9223372036854775807:=E;refine .inr ⟨a,len,cap,rfl,h1,by rw[hm] at h2;unfold maxLen;omega,h3,?_⟩;unfold World.shape? at h4;split at h4
   ·rename_i cs ty fr hh;exact⟨_,_,_,hh⟩
   ·cases h4
 rcases hv with rfl | ⟨a,len,cap,rfl,h1,h2,h3,cs,fr,ty,h4⟩
 ·exact⟨[],fun c h=>(nomatch h),mf _,SlV.nil⟩
 ·rcases Deep.open_slice ht (by simpa [Value.cells] using hf) with ⟨h,_⟩ | ⟨a',len',cap',m,nn,D,Pl,h5,_,_,_,hm,_,hx⟩
  ·cases h
  ·cases h5;simp only[if_true] at hm;rw[hm] at hx;clear hm
   obtain⟨C,hC⟩:=Deep.choose_lt (α:=List Value) (n:=cap) (p:=fun i c=>W.cells? 0 (a.add (i*P.cellsOf e)) (P.cellsOf e)=some c/\LeafsOK ls c) (fun i hi=>by
    obtain⟨c,g1,g2⟩:=hx i hi;exact⟨c,g1,(bp 20 hlf g2).1⟩)
   have hln:∀ i,i<cap->(C i).length=ls.length:=fun i hi=>(hC i hi).2.length;refine⟨(List.range len).map C,fun c hc=>?_,by simp;omega,?_⟩
   ·obtain⟨i,hi,rfl⟩:=m8.1 hc;exact(hC i (by have:=List.mem_range.1 hi;omega)).2
   ·have hfl:∀ k,k<=cap->((List.range k).map C).flatten.length=k*ls.length:=by
     intro k
     induction k with
     | zero=>simp
     | succ k ih=>
      intro hk;rw[List.range_succ,zli,List.flatten_append,nr,ih T,zmo];simp [hln k T]
    refine⟨by rw[hfl len h1,mt,List.length_range],.inr ⟨a.block,a.off,cap,cs,ty,fr,?_,h4,?_,by simpa using h1,fun h=>by cases h⟩⟩
    ·obtain⟨ab,ao,asp⟩:=a;simp only at h3;subst h3;simp
    ·rw[hfl len h1]
     have key:∀ k,k<=cap->(cs.toList.drop a.off).take (k*ls.length)=((List.range k).map C).flatten:=by
      intro k
      induction k with
      | zero=>simp
      | succ k ih=>
       intro hk;rw[zmo,ah,ih T,List.range_succ,zli,List.flatten_append];congr 1;obtain⟨_,g2,g3⟩:=World.cells?_some (hC k T).1;simp only[mp,zlm,List.flatten_cons,List.flatten_nil,mq];apply zn6;intro j;rcases m5 j ls.length with hj | hj
       ·have:=g3 j T;rw[<-this,zmv hj,zlo];obtain⟨ab,ao,asp⟩:=a;simp only at h3;subst h3;rw[w9,w9,kf h4];simp only[hce];rw[zm8]
       ·rw[zld (by rw[mi];omega),zld (by rw[hln k T];exact hj)]
     exact key len h1
end
end Go.V
namespace Go.V.L3
open Go.V.L2
def zfw{n:Int}(h:Lit.wf (.int .u8 n)=true):∃ k:Nat,n=k/\k<=255:=by
 have hb:IntKind.u8.min<=n/\n<=IntKind.u8.max:=by simpa [Lit.wf] using h
 have hmin:IntKind.u8.min=0:=E;have hmax:IntKind.u8.max=255:=E;rw[hmin,hmax] at hb;exact⟨n.toNat,by omega,by omega⟩
def Ni:∀ (cs:List (List Value)),(∀ c∈cs,LeafsOK [.i .u8,.i .u8] c)->∃ ps:List (Nat×Nat),cs.flatten=ps.flatMap pcs/\cs.length=ps.length/\∀ p∈ps,p.1<=255/\p.2<=255
 | [],_=>⟨[],rfl,rfl,fun n h=>by cases h⟩
 | c::cs,h=>by
  obtain⟨ps,h1,h2,h3⟩:=Ni cs fun x hx=>h x (mc _ hx);have hc:=h c (mb ..);obtain⟨n,r1,rfl,hw,hc⟩:=Ue hc;obtain⟨m,r2,rfl,hw2,hc⟩:=Ue hc;obtain rfl:=N3 hc;obtain⟨n,rfl,hn⟩:=zfw hw;obtain⟨m,rfl,hm⟩:=zfw hw2;refine⟨(n,m)::ps,by rw[List.flatten_cons,zl3,h1];rfl,by rw[ny,ny,h2],fun p hp=>?_⟩;rcases nz.1 hp with rfl | hp
  ·exact⟨hn,hm⟩
  ·exact h3 p hp
def zi1{cs:List (List Value)}(lcs:∀ c∈cs,LeafsOK [.i .u8,.i .u8] c)(zcs:cs.length<=maxLen)(hcs:SlV ty2 2 cs.flatten cs.length false v H):
  ∃ ps:List (Nat×Nat),(∀ p∈ps,p.1<=255/\p.2<=255)/\ps.length<=9223372036854775807/\PS2 ps false v H:=by
 obtain⟨ps,h1,h2,h3⟩:=Ni cs lcs;rw[h1,h2] at hcs;exact⟨ps,h3,by unfold maxLen at zcs;omega,hcs⟩
end Go.V.L3
namespace Go.V.L8
open Go.V.L2 Go.V.L3 Go.V.L6
end Go.V.L8
namespace Go.V.L11
open Go.V Go.V.L2 Go.V.L3 Go.V.L4 Go.V.L6 Go.V.L8 Go.V.Bd Go.V.L10
def zc1(s:ByteArray):∀ b∈ry s,b<=255:=fun b hb=>by
 unfold ry at hb;rcases mn.1 hb with h | h
 ·exact Ba _ b h
 ·exact zba s b h
section
variable {P:Program} {F:Fr}  {O:Boxes}  {ops:Array Oper} {κ:Kap} {d q:Nat} {ty:TypeId} {pos:String} {aft:Array Edge} 
end
attribute [local irreducible] V N X VO Par XP LV StepOK Has Ret RetL RetO RetT ki RetX RetY Pan aa Src
end Go.V.L11
namespace Go.V.L11
open Go.V.L2 Go.V.L3 Go.V.L4 Go.V.L6 Go.V.L8 Go.V.L10
structure LoOK(ks:List K3):Prop where
 k:KOK ks 0
 l0:0<ks.length
 l1:ks.length<=1024
def Uj{f:Int->Nat×List U}:∀ {L:List Int} {last:Int},(∀ r∈L,last<r/\r<=18446744073709551615/\(f r).1<=4096/\SOK (f r).2/\(f r).2.length<=4096)->Sst cP L->KOK (L.map fun r=>(r,f r)) last
 | [],_,_,_=>trivial
 | r::L,last,h,hs=>by
  have h1:=mg.1 hs;obtain⟨a,b,c,d,e⟩:=h r (mb ..);exact⟨a,b,c,d,e,Uj (fun x hx=>⟨Vu.1 (h1.1 x hx),(h x (mc _ hx)).2⟩) h1.2⟩
structure StoL(S:Sto):Prop where
 D:zkg S
 last:(kpt S.R S.R.length).isSome=true
 pin:∀ r∈S.P,(kpt S.R r).isSome=true
 so:∀ r t,kpt S.R r=some t->SOK t
 cn:∀ r,List.count r S.P<=4096
def StoL.lo(h:StoL S):LoOK (L5 S):=by
 have hk:=h.D.k0;have hl:=h.D.kl;have hr:=h.D.rl;refine⟨Uj (f:=fun r=>(List.count r S.P,tZ S r)) (fun r hm=>?_) (bh S.R),by rw[zce];exact hk,by rw[zce];exact hl⟩;have h1:=wz.1 hm;have h2:=dq h1;obtain⟨t,ht⟩:=zmc.1 h1;have h3:tZ S r=t:=by unfold tZ;rw[ht];rfl
 rw[h3];exact⟨h2.1,by omega,h.cn r,h.so r t ht,(h.D.tl r t ht).1⟩
def ze1(c:CH):∀ b∈chgB c,b<=255:=fun b hb=>by
 unfold chgB M3 vn at hb;rcases mn.1 hb with h | h
 ·obtain⟨s,_,h⟩:=List.mem_flatMap.1 h;exact zc1 s b h
 ·rw[m6] at h;subst h;split<;>decide
def zez(cs:List CH):∀ b∈Xi cs,b<=255:=fun b hb=>by
 unfold Xi at hb;rcases mn.1 hb with h | h
 ·exact Ba _ b h
 ·obtain⟨c,_,h⟩:=List.mem_flatMap.1 h;exact ze1 c b h
def U4:∀ {ks:List K3} {last:Int} {s:List U},∀ b∈Q0 ks last s,b<=255
 | [],_,_,_,h=>by cases h
 | k::ks,last,s,b,hb=>by
  unfold Q0 at hb;rcases mn.1 hb with h | h
  ·rcases mn.1 h with h | h
   ·exact Ba _ b h
   ·rcases mn.1 h with h | h
    ·exact Ba _ b h
    ·exact zez _ b h
  ·exact U4 b h
def zes{ks:List K3}:∀ b∈Mc ks,b<=255:=fun b hb=>by
 unfold Mc at hb;rcases mn.1 hb with h | h
 ·exact Ba _ b h
 ·exact U4 b h
def Od:∀ {ks:List K3} {last:Int} {s:List U},KOK ks last->0<=last->SOK s->s.length<=4096->(Q0 ks last s).length<=ks.length*50000000
 | [],_,_,_,_,_,_=>ns _
 | (r,n,t)::ks,last,s,h,h0,hs,hl=>by
  obtain⟨k1,k2,k3,k4,k5,k6⟩:=h;dsimp only at k1 k2 k3 k4 k5 k6;have ih:=Od k6 T k4 k5;have hb:=Fe s t;have hz:=zhw hs k4;have h1:=g8 (n:=(r-last).toNat) T;have h2:=g8 (n:=n) T;have h3:=g8 (n:=(Bv s t).length) T;have h4:=Bt hz (Bv s t).length;rw[zla] at h4;unfold Q0 Xi;simp only[nr,ny];omega
def LoOK.bytes{ks:List K3}(h:LoOK ks):(Mc ks).length<=52000000000/\0<(Mc ks).length:=by
 have h1:=Od h.k (zm5 0) zjz (mf _);have h2:=g8 (n:=ks.length) (by have:=h.l1;omega);have h3:=h.l1;have h4:0<(um ks.length).length:=by unfold um;split<;>simp
 unfold Mc;rw[nr];omega
end Go.V.L11
namespace Go.V.Top
open Go.V.L2 Go.V.L4 Go.V.L6 Go.V.L8 Go.V.L10 Go.V.L11
abbrev zku:ByteArray:=⟨#[100,111,99,58,97,35,118,105,101,119,101,114,64,117,115,101,114,58,120,10,100,111,99,58,98,35,118,105,101,119,101,114,64,117,115,101,114,58,120,10]⟩
def zkq:Xf ptA zku=([d0,d2],0,0):=by decide+kernel
abbrev q1:Sto:=⟨[some [],some [d0,d2]],[]⟩
abbrev q2:Sto:=⟨[some [],some [d0,d2]],[2]⟩
abbrev q3:Sto:=⟨[some [],some [d0,d2],some [d2]],[2]⟩
abbrev q4:Sto:=⟨[none,some [d0,d2],some [d2]],[2]⟩
def zgc:t7 newS [(d0,true)] [(d0,false),(d2,false)]=(q1,2,0):=J
def zjx:zdt q1 2 false=(q2,0):=J
def zgb:t7 q2 [(d0,false)] [(d0,true)]=(q3,3,0):=J
def zjy:ri q3 1=(q4,[1],0):=J
def ziw:atS q4 2=([d0,d2],0):=J
def zix:atS q4 0=([d2],0):=J
def ziu:zfn [d0,d2] d0.2=[d0,d2]:=by decide+kernel
def ziv:zfn [d2] d0.2=[d2]:=by decide+kernel
def zkr:loS (kzs (L5 q4),kpi (L5 q4))=q4:=J
def zkt:Am q4 q4=true:=by unfold Am;rw[Bool.and_eq_true];exact⟨decide_eq_true rfl,decide_eq_true rfl⟩
def zks:JJ 1 q1/\JJ 2 q2/\JJ 3 q3/\JJ 4 q4:=by
 have z0:TZ d0:=Mz E;have z2:TZ d2:=Mz E;have e0:tE d0=0:=by decide+kernel
 have e2:tE d2=0:=by decide+kernel
 have j1:=zj9 zcg E (fun c hc=>by
  simp only[nz,zmj,or_false] at hc;rcases hc with rfl | rfl
  ·exact⟨z0,e0⟩
  ·exact⟨z2,e2⟩) E zgc
 have j2:=zk0 j1 zjx
 have j3:=zj9 j2 E (fun c hc=>by
  rw[m6] at hc;subst hc;exact⟨z0,e0⟩) E zgb
 exact⟨j1,j2,j3,zk1 j3 zjy⟩
open Go.V.L3
def _root_.ZeK(t:Wr Y->A:=by intro h;refine z8 (yd L 0 rfl Z Z Z E Z) Z ?_;exact h.1)(h:Y):A:=t ⟨h⟩
def zeh(hj:JJ n S)(hn:n<=100):StoL S:=by
 have hR:=hj.hR;have hP:=hj.hP;have hI:=hj.I hn;have hm:=wz.2 hj.last;refine⟨⟨hj.ne,by omega,List.length_pos_of_mem hm,hI.kl,mw (Av (ns _)) T,by omega,fun r t ht=>⟨hI.tl r t ht,(hj.so r t ht).1.sst,Sb (hj.so r t ht).1⟩⟩,hj.last,hj.pin,fun r t ht=>(hj.so r t ht).1,fun r=>mw zo7 T⟩
def zkp:psA ⟨#[117,115,101,114,58,120]⟩=(⟨#[117,115,101,114]⟩,⟨#[120]⟩,⟨#[]⟩,0):=by decide+kernel
attribute [local irreducible] V N X VO Par XP LV StepOK Has Ret RetL RetO RetT ki RetX RetY Pan aa Src
abbrev DmP(D:List Nat):Value->Heap->Prop:=TupS [BsV D true,fun v _=>v=.int .i64 0]
def DmP.mono{D:List Nat}:Kn.mono (.sat (DmP D)):=Lb nw
def Qk{bs:List Nat}{y:List (Int×List U)×List Int}(h:ldF bs=(y,(0,0)))(hS:loS y=S)(hb:∀ b∈bs,b<=255)(hz:bs.length<=1099511627776)(hB:zpg B w)(hv:BsV bs fu v B):
  RetO zph 86 [v] w B (Fp (fun b=>.tuple #[bk b,.int .i64 0,.int .i64 0]) fun b=>StG b S):=by
 have h1:=zac hb hz hB hv;rw[h] at h1;subst hS;exact zhb Z h1
def Ql(hB:zpg B w)(hM:GlobM B):Ret zph 28 [] w B (fun v _=>v=.bool true):=by
 have z0:TZ d0:=Mz E;have z2:TZ d2:=Mz E;have m0:=zfx z0;have m2:=zfx z2
 have all:∀ l:List CH,(∀ c∈l,c.1=d0\/c.1=d2)->∀ c∈l,TM c.1:=fun l h c hc=>by
  rcases h c hc with e | e
  ·rw[e];exact m0
  ·rw[e];exact m2
 have j0:=zcg;obtain⟨j1,j2,j3,j4⟩:=zks;have hL:=zeh j4 E;have hne:=j4.ne;have hlo:=hL.lo;have hDb:=zes (ks:=L5 q4);obtain⟨hDl,hD0⟩:=hlo.bytes;have hld:=zhd hlo.k hlo.l0 hlo.l1;have hdmp:=fun {b:Nat} {u:World} {H:Heap} {C:Nat->Prop} (hH:zpg H u) (hr:(StG b q4).P H u C) (hC:ZCB C u H)=>zaw hL.D hH hr hC;generalize Mc (L5 q4)=D at hDl hD0 hDb hld hdmp
 have hs1:∀ {b b2:Nat} {u:World} {H:Heap} {C:Nat->Prop},zpg H u->(uw (StG b q4) (StG b2 q4)).P H u C->(ZCB C u H)->RetY zph 87 [bk b,bk b2] u H C (uw (StG b q4) (StG b2 q4)) (fun v _=>v=.bool true):=fun hH hr hC=>by
  have hts:∀ r t,kpt q4.R r=some t->t.length<=100000:=fun r t ht=>by have:=(hL.D.tl r t ht).1;omega
  have h:=Pm (A:=q4) (D:=q4) hne hne E E E E hts hts hH hr hC
  rwa [zkt] at h
 have k1:Kn.mono (.sat (US [d0,d2] true)):=nw;have k2:Kn.mono (.sat (RsV [1] true)):=nw;have k3:Kn.mono (.sat (BsV D true)):=nw;refine yh Tryz.func28 Z Tryz.ntmps28 (np Z) hB (Z0 (h:=?_));refine z7 (xg (φ:=TupS [US [d0,d2] true,fun v _=>v=.int .i64 0,fun v _=>v=.int .i64 0]) L Z Z (zn Z) Z Z Z (Gu nw) (fun u H hH hle _=>Kj zkq (np Z) hH (hM.mono hle))) Z ((Zk∘ZcR∘Zc5∘Zc5∘ZR∘ZaH∘Zx) ?_);refine z7 (wt L Z Z (zn Z) Z Z Z (fun u H hH hle _=>Yh hH)) Z (zy (yo (.inr Z) Z) (Zay (h:=?_)));refine Fl 4 900 rfl fun b=>?_;refine(Zp∘Za5∘Za∘Zh) ?_;refine z7 (yw Z Z Z Z Z) Z ((Zl∘Zb) ?_);refine z7 (vk Z Z Z Z zg2 Z) Z (ZbV (h:=?_));refine qg (id:=5) [(56,[900])] mixed J ((Zj∘ZaA∘ZeK∘Za9) ?_);refine z8 (yt (cs:=[_,_,_,_,_,_,_]) Z Z zj0 Z Z) Z ((Zdi∘ZaA∘ZeK∘Za9∘ZeE∘ZaA) ?_);refine z8 (yd L 1 rfl Z Z Z E Z) Z ((Za9∘ZeE∘Zdi) ?_);refine xw (y7 L 900 (StG b q1) (.tuple #[.int .u64 2,.int .i64 0]) (r:=StG b newS) Z Z Z Z Z (fun u H2 C2 hH hle hr2 hC2 v1 h1 v2 h2=>Ng (Ck (l:=[(d0,true)]) (cs:=[(d0,false),(d2,false)]) (j0.I E) E j0.ne (all _ (by simp)) (all _ (by simp)) E E zgc hH (h1.toV (n:=1) Z) (h2.toV (n:=2) Z) hr2 hC2))) Z Z ?_;refine Zj (h:=?_);refine z8 (qd Z Z Z Z) Z (z8 (qd Z Z Z Z) Z ((Zbd∘ZbC) ?_));refine ZbG (h:=?_);refine zy (y7 L 900 (StG b q2) (.int .i64 0) (r:=StG b q1) Z Z Z Z Z (fun u H2 C2 hH hle hr2 hC2=>Ng (Yf j1.ne E zjx hH hr2 hC2))) (Zd (h:=?_));refine qg (id:=7) [(74,[900])] mixed J ((Zj∘ZaA∘ZeK∘Za9) ?_);refine z8 (yt (cs:=[_,_,_,_,_,_,_]) Z Z zj0 Z Z) Z ((Zdi∘ZaA∘ZeK∘Za9∘ZeE∘Zdi) ?_);refine xw (y7 L 900 (StG b q3) (.tuple #[.int .u64 3,.int .i64 0]) (r:=StG b q2) Z Z Z Z Z (fun u H2 C2 hH hle hr2 hC2 v1 h1 v2 h2=>Ng (Ck (l:=[(d0,false)]) (cs:=[(d0,true)]) (j2.I E) E j2.ne (all _ (by simp)) (all _ (by simp)) E E zgb hH (h1.toV (n:=1) Z) (h2.toV (n:=1) Z) hr2 hC2))) Z Z ?_;refine Zj (h:=?_);refine z8 (qd Z Z Z Z) Z (z8 (qd Z Z Z Z) Z ((Zbd∘ZbC) ?_));refine Zbe (h:=?_);refine zy (A7 L 900 (StG b q4) (zid [1] 0) (r:=StG b q3) Z Z Z Z Z (Lb nw) (fun u H2 C2 hH hle hr2 hC2=>by have h:=Gg (keep:=1) j3.ne E E hH hr2 hC2;rw[zjy] at h;exact h)) ?_;refine(Zk∘ZcR∘Zc5∘ZR∘Zd) ?_;refine Zau (h:=?_);refine qz (wx L 900 (DmP D) (r:=StG b q4) Z Z Z Z Z DmP.mono (fun u H2 C2 hH hle hr2 hC2=>hdmp hH hr2 hC2)) ((Zk∘ZcR∘Zc5∘ZR∘Zd∘ZA∘Zk) ?_);refine z7 (wt L Z Z (zn Z) Z Z Z (fun u H hH hle _ v1 h1=>Qk hld zkr hDb T hH h1)) Z ?_;refine Aa 89 902 rfl fun b2=>?_;refine(Z1∘Zcf∘Zv∘Za8) ?_;refine(ZV∘Zb∘ZaE∘Za∘ZaE∘Za∘ZaE∘Za∘ZaE∘Za∘ZaE∘Za5∘Zb∘Za5∘Zl∘Zb∘Za5∘Zl∘Za∘Zh) ?_;refine z7 (yw Z Z Z Z Z) Z ((Zl∘ZF) ?_);refine jg 900 902 rfl Z (xe (StG b2 q4)) ?_;refine qz (Gz L 900 (.bool true) (r:=uw (StG b q4) (StG b2 q4)) Z Z Z Z Z (fun u H2 C2 hH hle hr2 hC2=>hs1 hH hr2 hC2)) (Kl 900 902 rfl (xe (StG b2 q4)) ?_);refine(Zt∘ZbV) ?_;refine(ZX∘Za) ?_;refine qz (wx L 902 (WithP [d0,d2] 0) (r:=StG b2 q4) rfl rfl rfl rfl rfl WithP.mono (fun u H2 C2 hH hle hr2 hC2=>by have h:=K0 (r:=2) hne hH hr2 hC2;rw[ziw] at h;exact h)) ?_;refine w6 126 rfl fun vx Kx hx hpx=>?_;obtain⟨svx,rfl,hsvx⟩:=hpx;obtain⟨fx,px,gx,qx,rfl,hplx⟩:=hsvx.shape;refine(Z1∘Z2∘Zbr∘Zd∘Zbw) ?_;refine qz (wx L 902 (WithP [d2] 0) (r:=StG b2 q4) rfl rfl rfl rfl rfl WithP.mono (fun u H2 C2 hH hle hr2 hC2=>by have h:=K0 (r:=0) hne hH hr2 hC2;rw[zix] at h;exact h)) ?_;refine w6 131 rfl fun vy Ky hy hpy=>?_;obtain⟨svy,rfl,hsvy⟩:=hpy;obtain⟨fy,py,gy,qy,rfl,hply⟩:=hsvy.shape;refine(Z1∘Z2∘Zbr∘Zd∘Za0) ?_;refine z71 L rfl (fun u H hH hle=>Sj zkp (np rfl) hH (hM.mono (hx.le.trans (hy.le.trans hle)))) ?_;refine(Z1∘Zaj∘Zd) ?_;have hsvx2:=hsvx.le hy.le;refine qg (id:=16) [] mixed J ((Zm∘Zc1∘Zj∘Zc1∘Zei∘Zj∘Zce) ?_);refine z8 (zx L (vs:=[_,_,_]) (qw Z) Z Z Z Z ⟨_,rfl⟩) Z (z8 (xg (φ:=US [d0,d2] true) L Z Z (zn Z) Z Z Z nw (fun u H hH hle _=>M7 ziu E hH (hsvx2.le hle))) Z (ZdS (h:=?_)));refine z8 (yi Z Z Z Z Z) Z ((ZaT∘Zj∘Zce) ?_);refine z8 (zx L (vs:=[_,_,_]) (qw Z) Z Z Z Z ⟨_,rfl⟩) Z (z8 (xg (φ:=US [d2] true) L Z Z (zn Z) Z Z Z nw (fun u H hH hle _=>M7 ziv E hH (hsvy.le hle))) Z (ZdS (h:=?_)));refine z8 (yi Z Z Z Z Z) Z ((ZaT∘Zj∘Zce∘ZaA) ?_);refine z8 (yd L 1 rfl Z Z Z E Z) Z (Za9 (h:=?_));refine z81 L Z (fun u H hH hle=>jb (b:=true) E hH (hsvy.le hle)) ?_;refine(ZaT∘ZaP) ?_;refine yg L (rs:=[.tmp 0]) Z (fun _ _ h=>h) (hx.trans hy) fun u H hH hle=>?_;rfl
def Hy{a b:U}(h:kq a b<0):Ki a.1 b.1<0\/(Ki a.1 b.1=0/\Ki a.2 b.2<0):=by
 unfold kq Rh at h;rw[Yr] at h;split at h
 ·rename_i h0;exact .inr ⟨h0,h⟩
 ·exact .inl h
def Ho(h:Sst kq l):Sst Ki (Bj l):=by
 unfold Bj;refine U6 cmp3_ord ?_;rw[zot];refine h.imp fun {a b} hab=>?_;have h1:=cmp3_ord.anti a.1 b.1;rcases Hy hab with h2 | ⟨h2,_⟩<;>omega
open Classical in
def Ez:∀ {l:List U} {gs:List gj},gs.Nodup->(∀ x∈l,x.1∈gs)->(gs.map fun g=>(cw l g).length).sum=l.length
 | [],gs,hn,_=>by
  clear Ez
  induction gs with
  | nil=>rfl
  | cons g gs ih=>simpa [cw] using ih (zm3.1 M).2 (by intro x hx;cases hx)
 | x::l,gs,hn,hc=>by
  have ih:=Ez (l:=l) hn fun y hy=>hc y (mc _ hy);have hx:=hc x (mb ..)
  have key:∀ {gs:List gj},gs.Nodup->(gs.map fun g=>(cw (x::l) g).length).sum=(gs.map fun g=>(cw l g).length).sum+(if x.1∈gs then 1 else 0):=by
   intro gs hn
   induction gs with
   | nil=>rw[nc (by simp)];rfl
   | cons g gs ih=>
    obtain⟨h1,h2⟩:=zm3.1 hn;simp only[mp,List.sum_cons,ih h2];by_cases e:x.1=g
    ·subst e;rw[nc h1,na (mb ..)];have:cw (x::l) x.1=x::cw l x.1:=by unfold cw;rw[List.filter_cons,if_pos (by simp)]
     rw[this,ny];omega
    ·have:cw (x::l) g=cw l g:=by unfold cw;rw[List.filter_cons,if_neg (by simpa using e)]
     rw[this];simp only[nz,e,false_or];omega
  rw[key hn,ih,na hx,ny]
def Ut(h:Sst kq l):((Bj l).map fun g=>(cw l g).length).sum=l.length:=by
 refine Ez ((Ho h).nodup cmp3_ord) fun x hx=>?_;unfold Bj;rw[Oe];exact m8.2 ⟨x,hx,rfl⟩
end Go.V.Top
namespace Go.Proofs
open Go.Shelf
def Tryz.sortT_ren:Go.Shelf.Ren:=⟨fun | 6=>96 | 15=>169 | 14=>168 | 28=>224 | 29=>225 | 20=>216 | 21=>217 | 22=>218 | 23=>219 | 24=>220 | 25=>221 | 26=>222 | 27=>223 | 46=>261 | 47=>262 | 48=>263 | 49=>264 | 50=>265 | 57=>286 | n=>n,fun | 22=>41 | 24=>57 | 25=>30 | 3=>3 | 39=>113 | 0=>0 | 53=>311 | 55=>48 | 4=>4 | 46=>305 | 45=>304 | 50=>78 | 5=>5 | 9=>9 | 66=>334 | 70=>337 | 76=>352 | 77=>353 | n=>n,fun | n=>n⟩
def Tryz.sortT:Go.Proofs.SlLaysF0.n6 zph Tryz.sortT_ren:={
 mixed:=by kernel_rfl
 f6:=⟨Tryz.f96.name,by decide,Tryz.func96.trans (congrArg some rfl)⟩
 f14:=⟨Tryz.f168.name,by decide,Tryz.func168.trans (congrArg some rfl)⟩
 f15:=Tryz.func169.trans (congrArg some rfl)
 f20:=⟨Tryz.f216.name,by decide,Tryz.func216.trans (congrArg some rfl)⟩
 f21:=⟨Tryz.f217.name,by decide,Tryz.func217.trans (congrArg some rfl)⟩
 f22:=⟨Tryz.f218.name,by decide,Tryz.func218.trans (congrArg some rfl)⟩
 f23:=⟨Tryz.f219.name,by decide,Tryz.func219.trans (congrArg some rfl)⟩
 f24:=⟨Tryz.f220.name,by decide,Tryz.func220.trans (congrArg some rfl)⟩
 f25:=⟨Tryz.f221.name,by decide,Tryz.func221.trans (congrArg some rfl)⟩
 f26:=⟨Tryz.f222.name,by decide,Tryz.func222.trans (congrArg some rfl)⟩
 f27:=⟨Tryz.f223.name,by decide,Tryz.func223.trans (congrArg some rfl)⟩
 f28:=Tryz.func224.trans (congrArg some rfl)
 f29:=Tryz.func225.trans (congrArg some rfl)
 f46:=⟨Tryz.f261.name,by decide,Tryz.func261.trans (congrArg some rfl)⟩
 f47:=Tryz.func262.trans (congrArg some rfl)
 f48:=Tryz.func263.trans (congrArg some rfl)
 f49:=⟨Tryz.f264.name,by decide,Tryz.func264.trans (congrArg some rfl)⟩
 f50:=⟨Tryz.f265.name,by decide,Tryz.func265.trans (congrArg some rfl)⟩
 f57:=⟨Tryz.f286.name,by decide,Tryz.func286.trans (congrArg some rfl)⟩
 t0:=Tryz.underlying0
 a0:=Tryz.isAgg0
 z0:=Tryz.sizeOf0
 v0:=Tryz.zeroValue0
 t3:=Tryz.underlying3
 a3:=Tryz.isAgg3
 z3:=Tryz.sizeOf3
 v3:=Tryz.zeroValue3
 t4:=Tryz.underlying4
 a4:=Tryz.isAgg4
 z4:=Tryz.sizeOf4
 v4:=Tryz.zeroValue4
 t5:=Tryz.underlying5
 a5:=Tryz.isAgg5
 z5:=Tryz.sizeOf5
 v5:=Tryz.zeroValue5
 t9:=Tryz.underlying9
 a9:=Tryz.isAgg9
 z9:=Tryz.sizeOf9
 v9:=Tryz.zeroValue9
 t22:=Tryz.underlying41
 a22:=Tryz.isAgg41
 z22:=Tryz.sizeOf41
 v22:=Tryz.zeroValue41
 t25:=Tryz.underlying30
 a25:=Tryz.isAgg30
 z25:=Tryz.sizeOf30
 v25:=Tryz.zeroValue30
 t39:=Tryz.underlying113
 a39:=Tryz.isAgg113
 z39:=Tryz.sizeOf113
 v39:=Tryz.zeroValue113
 t45:=Tryz.underlying304
 a45:=Tryz.isAgg304
 z45:=Tryz.sizeOf304
 v45:=Tryz.zeroValue304
 t46:=Tryz.underlying305
 a46:=Tryz.isAgg305
 z46:=Tryz.sizeOf305
 v46:=Tryz.zeroValue305
 t50:=Tryz.underlying78
 a50:=Tryz.isAgg78
 z50:=Tryz.sizeOf78
 v50:=Tryz.zeroValue78
 t53:=Tryz.underlying311
 a53:=Tryz.isAgg311
 z53:=Tryz.sizeOf311
 v53:=Tryz.zeroValue311
 t55:=Tryz.underlying48
 a55:=Tryz.isAgg48
 z55:=Tryz.sizeOf48
 v55:=Tryz.zeroValue48
 t66:=Tryz.underlying334
 a66:=Tryz.isAgg334
 z66:=Tryz.sizeOf334
 v66:=Tryz.zeroValue334
 t70:=Tryz.underlying337
 a70:=Tryz.isAgg337
 z70:=Tryz.sizeOf337
 v70:=Tryz.zeroValue337
 t76:=Tryz.underlying352
 a76:=Tryz.isAgg352
 z76:=Tryz.sizeOf352
 v76:=Tryz.zeroValue352
 t77:=Tryz.underlying353
 a77:=Tryz.isAgg353
 z77:=Tryz.sizeOf353
 v77:=Tryz.zeroValue353 }
end Go.Proofs
namespace Go.V.L2
open Go.V
def zgd{c:α->α->Int}(h:Ord3 c):Go.Sort.SWO (Go.Proofs.ltOf c) where
 irrefl x:=by simp [Go.Proofs.ltOf,h.refl]
 trans x y z h1 h2:=by
  simp only[Go.Proofs.ltOf,decide_eq_true_eq] at *;exact h.tr h1 h2
 ntrans x y z h1 h2:=by
  simp only[Go.Proofs.ltOf,decide_eq_false_iff_not] at *;have a1:=h.anti x y;have a2:=h.anti y z;have a3:=h.anti x z;have:=h.trans z y x T T;omega
def zcx(x:U):∀ v∈ucs x,v.oneCell'=true:=fun v hv=>by
 simp only[ucs,nz,zmj,or_false] at hv;rcases hv with rfl | rfl | rfl | rfl | rfl | rfl<;>rfl
def ziz:zh6 zph U 96 74 [] ucs 6 kq where
 none p cap w:=AnyF.slices_SortFunc_none Tryz.sortT p cap _ w
 some b cap d w hH hb hz:=AnyQ.slices_SortFunc Tryz.sortT 6 Tryz.isAgg57 Tryz.sizeOf57 ucs ej zcx kq (zgd cmpT_ord) 74 #[] b 0 cap d w
  (fun args w=>uk L rfl) (zew (cb:=[]) (fun x y u=>jh (a:=x) (b:=y) (fun _ _ h=>by cases h)) b 0 d.size w) hH hb hz
end Go.V.L2
section
open Go.V
attribute [local irreducible] Has N Par Ret RetL RetO Src StepOK V VO X
namespace Go.V.L2
def _root_.ZeL(t:Wr Y->A:=by intro h;refine qn (xq L (q:=900) (vs:=[_,_,_,_,_,_]) Z Z Z Z q1) Z Z ?_;exact h.1)(h:Y):A:=t ⟨h⟩
def _root_.ZeM(t:Wr Y->A:=by intro h;refine qn (xq L (q:=900) (vs:=[_,_,_,_,_,_]) Z Z Z Z q2) Z Z ?_;exact h.1)(h:Y):A:=t ⟨h⟩
abbrev tcs(t:U):List Value:=[.string t.1.1.1,.string t.1.1.2,.string t.1.2,.string t.2.1.1,.string t.2.1.2,.string t.2.2]
def Xu(l:List U):(l.flatMap ucs).all vj=true:=by
 induction l with
 | nil=>rfl
 | cons x l ih=>rw[zl3,zoh,ih];rfl
def c9(l:List U):(l.flatMap ucs).length=l.length*6:=wg ej l
def Ex{rest:List Value}{t:U}(h:l[i]?=some t)(off:Nat)(ho:off=i*6):∃ r,(l.flatMap ucs++rest).drop off=tcs t++r:=by
 subst ho;have h1:((l.flatMap ucs).drop (i*6)).take 6=tcs t:=d6 h;have h2:=get_lt h;refine⟨((l.flatMap ucs).drop (i*6)).drop 6++rest,?_⟩;rw[zoj (by rw[c9];exact zmf _ T),<-mj];congr 1;rw[<-h1,m9]
def zam{ls:List U}{rest:List Value}{k:Nat}{z:U}(h:k<ls.length)(off:Nat)(ho:off=k*6):(ls.flatMap ucs++rest).take off++(tcs z++(ls.flatMap ucs++rest).drop (off+6))=(ls.set k z).flatMap ucs++rest:=by
 subst ho;have e1:ls=ls.take k++(ls[k]::ls.drop (k+1)):=by rw[zo5,m9]
 have hk:(ls.take k).length=k:=by rw[mi];omega
 have e2:ls.set k z=ls.take k++(z::ls.drop (k+1)):=by
  conv=>lhs;rw[e1]
  rw[zoq _ _ T,hk,zmd];rfl
 rw[e2];generalize ls.take k=A at e1 hk;generalize ls.drop (k+1)=D at e1;generalize ls[k]=y at e1;subst e1;have hA:(A.flatMap ucs).length=k*6:=by rw[c9,hk]
 simp only[zlq,zl3,mj];rw[znd hA,show k*6+6=(A.flatMap ucs).length+6 by omega,<-zlz,zm6,show(ucs y++(D.flatMap ucs++rest)).drop 6=D.flatMap ucs++rest from zor rfl];rfl
def Qq{ls:List U}{rest zs:List Value}{k m off:Nat}(hm:ls.length=m)(hk:k<=m)(ho:off=k*6):(ls.flatMap ucs++rest).take off++(zs++(ls.flatMap ucs++rest).drop (off+(m-k)*6))=(ls.take k).flatMap ucs++(zs++rest):=by
 subst hm ho;have h1:k*6+(ls.length-k)*6=(ls.flatMap ucs).length:=by rw[c9];omega
 rw[h1,zm6];congr 1;rw[zn2 (by rw[c9];exact zmf _ hk)]
 conv=>lhs;rw[<-m9 k ls,zlq]
 rw[znd (by rw[c9,mi];congr 1;omega)]
def Md{p:Nat}{y z:U}(hy:l[p]?=some y)(hz:l[p+1]?=some z):dd (l.take (p+2))=if z=y then dd (l.take (p+1)) else dd (l.take (p+1))++[z]:=by
 have e:l.take (p+2)=l.take (p+1)++[z]:=by rw[zlc,hz];rfl
 rw[e];refine Me _ y z ?_;rw[zlc,hy];simp
def Vh(hz:l.length<=100000)(hB:zpg B w)(hv:US l fu v B):
  RetO zph 95 [v] w B (SlR tyU 6 l.length (l.flatMap ucs)):=by
 have hv0:=hv;have hlen:=c9 l;have hpl:=Xu l;obtain⟨p,c,rfl⟩:=ky hv;rcases p with _ | b
 ·obtain⟨h0,rfl⟩:l.length=0/\c=0:=s5 hv;have hn:l=[]:=mz h0;subst hn;refine j7 Tryz.func95 Z Tryz.ntmps95 (np Z) hB (ZaN (h:=?_));refine z7 (vk Z Z Z Z zj7 Z) Z ((Zu∘Zx∘Zc) ?_);exact gh 2 tyU 6 rfl (lm Z (fun _ _ h=>h) nq Z)
 ·refine j7 Tryz.func95 Z Tryz.ntmps95 (np Z) hB (ZaN (h:=?_));refine z7 (vk Z Z Z Z zj7 Z) Z (Zn (h:=?_));refine k8 0 (US l fu) Z nw hv0 ((ZI∘Zew∘Zk) ?_);refine zy (wn L Z Z Z (V2 Z) Z zho M M T T) (zy (yo (.inr Z) Z) (Zs (h:=?_)));rw[zlb,mh];exact lm Z (fun _ _ h=>h) nq Z
def Mf(hz:l.length<=100000){x:Value}(hB:zpg B w)(hx:(SlR tyU 6 l.length (l.flatMap ucs)).P x B w C)(hC:ZCB C w B):
  RetT zph 97 [x] w B C (SlR tyU 6 (dd l).length ((dd l).flatMap ucs)):=by
 unfold RetT;refine tw 0 (x:=x) (SlR tyU 6 l.length (l.flatMap ucs)) Z Tryz.func97 Z Tryz.ntmps97 (np Z) hB hx hC ?_;refine b9 0 900 rfl (fun hm hn=>?_) fun b cap rest hl hmc hcm hcl=>?_
 ·have h0:l=[]:=mz hm;subst h0;refine(ZaN∘ZaC∘Zab∘Zu∘Zo∘Zc) ?_;exact gh 2 tyU 6 rfl (dx Z (fun _ _ h=>h) nq Z)
 ·by_cases h2:l.length<2
  ·have hdd:dd l=l:=by
    rcases l with _ | ⟨a,_ | ⟨b,l⟩⟩
    ·rfl
    ·rfl
    ·simp only[ny] at h2;omega
   rw[hdd];refine(ZaN∘ZaC∘Zab∘Zu∘Zo∘Zc) ?_;exact jw 2 900 rfl Z Z hl hmc hcm hcl (dx Z (fun _ _ h=>h) nq Z)
  ·refine(ZaN∘ZaC∘Zac∘Z4∘ZI∘ZaR) ?_
   refine xm (fun i:Nat=>[(0,.is (.slice (some ⟨b,0,none⟩) l.length cap)),(3,.is (.int .i64 (i+1:Nat))),(900,.own (xk b (l.flatMap ucs++rest) tyU))])
    (fun i=>i+1<=l.length/\dd (l.take (i+1))=l.take (i+1)) (fun i=>l.length-i) 0 ⟨by omega,by rcases l with _ | ⟨a,l⟩<;>simp [dd]⟩ ⟨rfl,rfl,rfl,nm⟩ ?_
   rintro i ⟨hi,hd⟩;by_cases hlt:i+1<l.length
   ·obtain⟨y,hy⟩:=xi (show i<l.length by omega);obtain⟨z,hzz⟩:=xi hlt;have q1:=Ex (rest:=rest) hzz (0+(i+1)*6) T;have q2:=Ex (rest:=rest) hy (0+i*6) T;have hsub:IntKind.i64.wrap (((i+1:Nat):Int)-1)=(i:Int):=yy T T |>.trans T;by_cases hzy:z=y
    ·have hq:=eqU (nf hzy);have hne:¬ cap=i+1:=T;refine(Ze∘Zcb∘ZaC∘Zag∘Zbl∘Ze6∘Z5∘ZeL∘Zbs∘ZeM) ?_;refine z8 (ev Z Z Z Z zjl M Z) Z ((Zb4∘Zf∘ZbY∘ZdN∘Zi∘ZC∘ZaR) ?_);rw[nc hne];have hdi:dd (l.take (i+1+1))=l.take (i+1):=by rw[Md hy hzz,na hzy,hd]
     refine xm (fun s:Nat×Nat×List U=>[(0,.is (.slice (some ⟨b,0,none⟩) l.length cap)),(3,.is (.int .i64 s.1)),(4,.is (.slice (some ⟨b,0+(i+1)*6,none⟩) (l.length-(i+1)) (cap-(i+1)))),(5,.is (.int .i64 (s.2.1+1:Nat))),(900,.own (xk b (s.2.2.flatMap ucs++rest) tyU))])
      (fun s=>s.2.2.length=l.length/\s.1<=i+1+s.2.1/\i+1+s.2.1+1<=l.length/\s.2.2.take s.1=dd (l.take (i+1+s.2.1+1))/\s.2.2.drop (i+1+s.2.1)=l.drop (i+1+s.2.1)) (fun s=>l.length-s.2.1) (i+1,0,l) ⟨rfl,ns _,hlt,hdi.symm,rfl⟩ ⟨rfl,rfl,rfl,rfl,rfl,nm⟩ ?_
     clear hd hq hzy q1 q2 hsub hdi hy hzz y z;rintro⟨k,j,ls⟩ ⟨hls,hkp,hpl,htk,hdr⟩;dsimp only at hls hkp hpl htk hdr |-;by_cases hend:i+1+j+1<l.length
     ·obtain⟨y,hy⟩:=xi (show i+1+j<l.length by omega);obtain⟨z,hz2⟩:=xi hend
      have e1:ls[i+1+j]?=some y:=by
       have:=nh (·[0]?) hdr;simp only[zlo,znl] at this;rw[this,hy]
      have e2:ls[i+1+j+1]?=some z:=by
       have:=nh (·[1]?) hdr;simp only[zlo] at this;rw[this,hz2]
      have q1:=Ex (rest:=rest) e2 (0+(i+1)*6+(j+1)*6) T;have q2:=Ex (rest:=rest) e1 (0+(i+1)*6+j*6) T;have hsub:IntKind.i64.wrap (((j+1:Nat):Int)-1)=(j:Int):=yy T T |>.trans T;have hst:=Md hy hz2
      have hdr':ls.drop (i+1+(j+1))=l.drop (i+1+(j+1)):=by
       have:=nh (List.drop 1) hdr;rw[zlz,zlz] at this;exact this
      by_cases hzy:z=y
      ·have hq:=eqU (nf hzy);rw[na hzy] at hst;refine(Ze∘ZbP∘ZaC∘Zag∘Zbl∘Ze5∘Z5∘ZeL∘Zbs∘ZeM∘ZdU∘Zaz∘Zbj∘ZP∘ZA∘Za∘ZbW) ?_;exact yn (x:=(k,j,ls)) (k,j+1,ls) ⟨hls,by dsimp only;omega,by dsimp only;omega,htk.trans hst.symm,hdr'⟩ G ⟨Z,Z,Z,Z,Z,trivial⟩
      ·have hq:=eqU (ng hzy);rw[nc hzy] at hst;have hkl:k<ls.length:=T;have hset:=zam (rest:=rest) (z:=z) hkl (0+k*6) T;have hble:Nat.ble (0+k*6+6) (ls.flatMap ucs++rest).length=true:=znf (by rw[nr,c9];omega);refine(Ze∘ZbP∘ZaC∘Zag∘Zbl∘Ze5∘Z5∘ZeL∘Zbs∘ZeM∘ZdU∘Zb4∘Zf∘ZW∘ZaI∘ZcT) ?_;refine qz (xq L (q:=900) (vs:=[_,_,_,_,_,_]) Z Z Z Z q1) (ZcT (h:=?_));refine xh (ye L (q:=900) Z Z hble Z hset) ((Zs∘ZX∘Za∘ZbW∘ZP∘ZA∘Za∘ZbW) ?_)
       exact yn (x:=(k,j,ls)) (k+1,j+1,ls.set k z) ⟨by rw[List.length_set];exact hls,by dsimp only;omega,by dsimp only;omega,by
        dsimp only;rw[show i+1+(j+1)+1=i+1+j+2 by omega,hst,<-htk,zlc,zn0 hkl,znz (ns _)];rfl,by
        dsimp only;rw[List.drop_set_of_lt T];exact hdr'⟩ G ⟨rfl,rfl,rfl,rfl,rfl,nm⟩
     ·have hfull:l.take (i+1+j+1)=l:=zle T;rw[hfull] at htk;have hkd:(dd l).length=k:=by rw[<-htk,mi];omega
      subst hkd;have hzl:(Builtin.zeroCells (Value.cells (.agg #[.string ⟨#[]⟩,.string ⟨#[]⟩,.string ⟨#[]⟩,.string ⟨#[]⟩,.string ⟨#[]⟩,.string ⟨#[]⟩])) (l.length-(dd l).length)).toList.length=(l.length-(dd l).length)*6:=by rw[zlw,size_zeroCells];rfl
      have hcl2:=Qq (rest:=rest) (zs:=(Builtin.zeroCells (Value.cells (.agg #[.string ⟨#[]⟩,.string ⟨#[]⟩,.string ⟨#[]⟩,.string ⟨#[]⟩,.string ⟨#[]⟩,.string ⟨#[]⟩])) (l.length-(dd l).length)).toList) hls T (show 0+(dd l).length*6=(dd l).length*6 by omega);rw[htk] at hcl2;have hne2:¬ cap=(dd l).length:=T;have hne3:¬ cap=0:=T;have hbd:0+(dd l).length*6+(l.length-(dd l).length)*6<=(ls.flatMap ucs++rest).length:=by rw[nr,c9];omega
      refine(Ze∘ZbP∘ZaC∘Za3∘ZaD∘Zbo∘Zb∘ZdN) ?_;rw[nc hne2];refine xh (Gy L (q:=900) Z Z Z Z zho Z Z (.inr hbd) (fun _=>hcl2) (fun h=>by omega)) ?_;refine(Zg∘Za0∘Zfk∘Zc) ?_;rw[nc hne3]
      refine jw (m:=(dd l).length) (cap:=cap) (s:=6) 2 900 rfl Z Z (c9 _) T hcm (by
       rw[c9] at hl;simp only[nr,c9,hzl] at hcl |-;omega) ?_
      exact dx Z (fun _ _ h=>h) nq Z
    ·have hq:=eqU (ng hzy);have hst:=Md hy hzz;rw[nc hzy,hd] at hst;refine(Ze∘Zcb∘ZaC∘Zag∘Zbl∘Ze6∘Z5∘ZeL∘Zbs∘ZeM) ?_;refine z8 (ev Z Z Z Z zjl M Z) Z ((Zaz∘Zbj∘ZP∘ZT∘ZbW) ?_);exact yn (x:=i) (i+1) ⟨hlt,by rw[hst,zlc (i:=i+1),hzz];rfl⟩ T ⟨Z,Z,Z,nm⟩
   ·have hie:i+1=l.length:=T;rw[hie,zla] at hd;rw[hd];refine(Ze∘Zcb∘ZaC∘Za3∘ZaD∘Zap∘Za∘Zc) ?_;exact jw 2 900 rfl Z Z hl hmc hcm hcl (dx Z (fun _ _ h=>h) nq Z)
attribute [local irreducible] RetT
def Pq{m:List U}(hm:u5 kq [] l=m)(hz:l.length<=100000)(hB:zpg B w)(hv:US l fu v B):
  Ret zph 35 [v] w B (US m true):=by
 subst hm;have hzz:l.length<4611686018427387904:=T;refine yh Tryz.func35 Z Tryz.ntmps35 (np Z) hB (k8 0 (US l fu) Z nw hv ((Z0∘Zk) ?_));refine z7 (wt L Z Z (zn Z) Z Z Z (fun u H hH _ _ v1 hv1=>Vh hz hH hv1)) Z (zy (yo (.inr Z) Z) (Zg (h:=?_)));refine tx 3 900 (fun v=>∃ p c,v=.slice p l.length c) Z SlR.shape fun x hx=>?_;refine Zo (h:=?_);refine zy (Yt (α:=U) (l:=l) (enc:=ucs) (cf:=kq) (gf:=74) L (q:=900) (cb:=[]) Z Z Z Z Z Z Z Z Z ej hzz ziz) (Zg (h:=?_));refine Fo 3 900 rfl Z ?_;refine vm 3 rfl fun l' H hs hso=>?_;have hll:l'.length<=100000:=by rw[hso.1.length_eq];exact hz
 refine ZI (h:=?_);refine zy (yo (.inl Z) Z) (zy (iw L (q:=8) Z Z Z Z Z (fun u H C x hH hle hx hC=>Mf hll hH hx hC)) (zy (yo (.inr Z) Z) (Zg (h:=?_))));rw[zet cmpT_ord hso];refine l6 3 rfl ((ZS∘Zk∘Zh∘Zh∘Zdk∘ZR∘Zs) ?_);refine yg L (rs:=[.tmp 2]) Z (fun _ _ h=>h) hs fun u H hH hle=>?_;exact fun v hv=>hv
abbrev BSF:Nat:=73
def Mm{t:U}(hz:l.length<=100000)(hs:Sst kq l){v:Value}(hB:zpg B w)(hv:US l fu v B):
  Ret zph BSF [v,uv t,.func (.func 74) #[] #[]] w B (fun v _=>v=.tuple #[.int .i64 (cr kq t l:Nat),.bool (decide (t∈l))]):=by
 refine yh Tryz.func73 Z Tryz.ntmps73 (np Z) hB (k8 0 (US l fu) Z nw hv ((Z7∘Zv∘Zaf∘Zh∘Zbh∘ZaH∘Zak) ?_))
 refine xm (fun s:Nat×Nat=>[(0,.sat (US l fu)),(2,.is (.func (.func 74) #[] #[])),(4,.sat (At (tcs t) tyU 0)),(8,.is (.int .i64 l.length)),(9,.is (.int .i64 s.1)),(10,.is (.int .i64 s.2))])
  (fun s=>s.1<=s.2/\s.2<=l.length/\(∀ (k:Nat) (x:U),k<s.1->l[k]?=some x->kq x t<0)/\∀ (k:Nat) (x:U),s.2<=k->l[k]?=some x->¬ kq x t<0) (fun s=>s.2-s.1) (0,l.length) ⟨mf _,ns _,fun k x h=>(by cases h),fun k x h hx=>(by rw[zld h] at hx;cases hx)⟩ ⟨rfl,rfl,rfl,rfl,rfl,rfl,nm⟩ ?_
 rintro⟨i,j⟩ ⟨hij,hjl,hlo,hhi⟩;dsimp only at hij hjl hlo hhi |-;by_cases hlt:i<j
 ·obtain⟨h,hh⟩:∃ h,h=(i+j)/2:=⟨_,rfl⟩
  have hsh:((i:Int)+(j:Int)).fdiv (2^min (1:Int).toNat IntKind.u64.bits)=(h:Int):=by
   show((i:Int)+(j:Int)).fdiv 2=(h:Int);rw[zn9 _ E];omega
  obtain⟨y,hy⟩:=xi (show h<l.length by omega);have hc:=d6 hy;by_cases hcm:kq y t<0
  ·refine(Ze∘Zbi∘Zag∘Zcw∘Zcb∘ZaE) ?_;refine z7 (kg Z Z Z jr.1 jr.2 (wrap_u64 T T)) Z (ZcO (h:=?_));refine z7 (kg Z Z Z js.1 js.2 (yy T T)) Z ((Zd∘ZdL∘Zj∘Zb5∘Za9∘ZaU) ?_);refine z81 L Z (fun u H hH _=>jh hH) ?_;refine(Zco∘Zb4∘ZL∘ZaE∘ZU) ?_;exact yn (x:=(i,j)) (h+1,j) ⟨by dsimp only;omega,hjl,fun k x hk hx=>ai cmpT_ord hs hy hx (by dsimp only at hk;omega) hcm,hhi⟩ G ⟨Z,Z,Z,Z,Z,Z,trivial⟩
  ·refine(Ze∘Zbi∘Zag∘Zcw∘Zcb∘ZaE) ?_;refine z7 (kg Z Z Z jr.1 jr.2 (wrap_u64 T T)) Z (ZcO (h:=?_));refine z7 (kg Z Z Z js.1 js.2 (yy T T)) Z ((Zd∘ZdL∘Zj∘Zb5∘Za9∘ZaU) ?_);refine z81 L Z (fun u H hH _=>jh hH) ?_;refine(ZcQ∘Zaz∘Z8∘ZU) ?_;exact yn (x:=(i,j)) (i,h) ⟨by dsimp only;omega,by dsimp only;omega,hlo,fun k x hk hx hcx=>hcm (ai cmpT_ord hs hx hy hk hcx)⟩ G ⟨Z,Z,Z,Z,Z,Z,trivial⟩
 ·obtain rfl:i=j:=by omega
  rw[Lg cmpT_ord hs hlo hhi hjl];by_cases hin:i<l.length
  ·obtain⟨y,hy⟩:=xi hin;have hc:=d6 hy;have hm:=zb9 cmpT_ord hs hlo hy hhi;by_cases hcm:kq y t=0
   ·rw[nf (hm.2 hcm)];refine(Ze∘Zbi∘Za3∘ZaD∘Zct∘ZaV∘Zco∘Zm∘Zb5∘Za9∘ZaU) ?_;refine z81 L Z (fun u H hH _=>jh hH) ?_;refine(Zei∘ZaT∘Zbd∘ZaP) ?_;exact yg2 L [.tmp 6,.tmp 7]
   ·rw[ng fun h=>hcm (hm.1 h)];refine(Ze∘Zbi∘Za3∘ZaD∘Zct∘ZaV∘Zco∘Zm∘Zb5∘Za9∘ZaU) ?_;refine z81 L Z (fun u H hH _=>jh hH) ?_;refine(Zdb∘ZaT∘Zbd∘ZaP) ?_;exact yg2 L [.tmp 6,.tmp 7]
  ·obtain rfl:i=l.length:=by omega
   rw[ng (Bb cmpT_ord hlo)];refine(Ze∘Zbi∘Za3∘ZaD∘Zct∘ZaV∘ZcQ∘Zb7∘ZaT∘Zbd∘ZaP) ?_;exact yg2 L [.tmp 6,.tmp 7]
def zhm(l:List U)(t:U):Nat×Bool:=if isB l=true then (cr kq t l,decide (t∈l)) else (0,false)
def find_ret{t:U}{r:Nat×Bool}(hr:zhm l t=r)(hz:l.length<=100000){v:Value}(hB:zpg B w)(hv:US l fu v B):
  Ret zph 25 [v,uv t] w B (fun v _=>v=.tuple #[.int .i64 r.1,.bool r.2]):=by
 subst hr;unfold zhm;refine yh Tryz.func25 Z Tryz.ntmps25 (np Z) hB (k8 0 (US l fu) Z nw hv ?_);cases h1:isB l
 ·rw[nc E];refine(Z7∘Zv∘Zah∘Zk) ?_;refine z7 (zz L Z Z (zn Z) Z Z Z (fun u H hH _ _ v1 hv1=>ek T h1 hH hv1)) Z ((Zt∘Zu∘Zx∘ZM) ?_);exact yg2 L [.tmp 4,.tmp 5]
 ·rw[na rfl];have hs:Sst kq l:=nj h1;refine(Z7∘Zv∘Zah∘Zk) ?_;refine z7 (zz L Z Z (zn Z) Z Z Z (fun u H hH _ _ v1 hv1=>ek T h1 hH hv1)) Z ((Zt∘Zn∘ZI∘Zk∘Zb6) ?_);refine z7 (zz L Z Z (zn Z) Z Z Z (fun u H hH _ _ v1 hv1=>Mm hz hs hH hv1)) Z ((Zcu∘ZM) ?_);exact yg2 L [.tmp 4,.tmp 5]
end Go.V.L2
namespace Go.V.Top
open Go.V.L2 Go.V.L3 Go.V.L6
def _root_.Zdx(t:Wr Y->A:=by intro h;refine z8 (yk L (vs:=[_,_,_]) Z Z Z Z Z ⟨_,rfl⟩) Z ?_;exact h.1)(h:Y):A:=t ⟨h⟩
def _root_.Zed(t:Wr Y->A:=by intro h;refine z8 (Cu L Z Z Z Z) Z ?_;exact h.1)(h:Y):A:=t ⟨h⟩
def Vb(l:List U)(d:List gj)(i:Nat):Nat:=((d.take i).map fun g=>(cw l g).length).sum
def Hx{d:List gj}{g:gj}(h:d[i]?=some g):Vb l d (i+1)=Vb l d i+(cw l g).length:=by
 unfold Vb;rw[zlc,h];simp
def Va(l:List U)(d:List gj):∀ i,Vb l d i<=i*l.length
 | 0=>Nat.le_of_eq (by unfold Vb;simp)
 | i+1=>by
  have ih:=Va l d i;rw[zmo];rcases h:d[i]? with _ | g
  ·have:Vb l d (i+1)=Vb l d i:=by unfold Vb;rw[List.take_add_one,h];simp
   omega
  ·have h1:(cw l g).length<=l.length:=zm9 _ _;rw[Hx h];omega
def M8{c:α->α->Int}{l:List α}(h:Sst c l){a b:α}(ha:l[i]?=some a)(hb:l[i+1]?=some b):c a b<0:=by
 obtain⟨h1,e1⟩:=zl5.1 ha;obtain⟨h2,e2⟩:=zl5.1 hb;have:=zmk.1 h i (i+1) h1 h2 (znr i)
 rwa [e1,e2] at this
attribute [local irreducible] RetT
def Vf{a b:gj}(h:Ki a b=r)(hB:zpg B w):
  Ret zph 38 [.agg #[.string a.1.1,.string a.1.2,.string a.2],.agg #[.string b.1.1,.string b.1.2,.string b.2]] w B (fun v _=>v=.int .i64 r):=h ▸ tq hB
def zhq{a b:gj}(h:Ki a b=r)(hB:zpg B w):
  Ret zph 40 [.agg #[.string a.1.1,.string a.1.2,.string a.2],.agg #[.string b.1.1,.string b.1.2,.string b.2]] w B (fun v _=>v=.int .i64 r):=h ▸ cmpU_ret hB
def F2{ps:List (Nat×Nat)}{fx:Bool}(hps:∀ p∈ps,p.1<=255/\p.2<=255)(lps:ps.length<=9223372036854775807){sx:Value}(hB:zpg B w)(hM:GlobM B)(hx:PS2 ps fx sx B):
  Ret zph 5 [.agg #[sx]] w B (fun v _=>v=.bool true):=by
 have lp:=F4 ps;have zp:∀ t∈tl ps,TZ t:=fun t ht=>(zb0 ht).1;have ep:∀ t∈tl ps,tE t=0:=fun t ht=>(zb0 ht).2;have ofx:∀ (w:World) (B:Heap),zpg B w->PS2 ps fx sx B->Ret zph 36 [.agg #[sx]] w B (US (tl ps) false):=fun w B hB hv=>zc4 hps lps hB hv;generalize tl ps=p at lp zp ep ofx;have sa:Sst kq (u5 kq [] p):=p9 cmpT_ord Sst.nil;have la:=r5 p;unfold sortT at la;have hof:=No p (out:=[]) ep (by simp only[my];omega);obtain⟨l,hl⟩:∃ a,u5 kq [] p=a:=⟨_,rfl⟩
 rw[hl] at sa la hof;have hgs:=Ho sa;have hsum:=Ut sa;have ld:(Bj l).length<=l.length:=mw (Hv _) (by rw[mt];exact ns _);obtain⟨d,hd⟩:∃ d,Bj l=d:=⟨_,rfl⟩
 rw[hd] at hgs hsum ld;have hcn:Vb l d d.length=l.length:=by unfold Vb;rw[List.take_length];exact hsum
 have hcl:=Va l d;refine yh Tryz.func5 Z Tryz.ntmps5 (np Z) hB ((Z7∘Zaf) ?_);refine z7 (zx L (vs:=[_]) (y9 rfl) rfl rfl rfl rfl ⟨_,rfl⟩) rfl (z7 (xg (φ:=US p false) L rfl rfl (zn rfl) rfl rfl rfl nw (fun u H hH hle _=>ofx _ _ hH (hx.le hle))) rfl (z7 (xg (φ:=US l true) L rfl rfl (zn rfl) rfl rfl rfl nw (fun u H hH _ _ v1 h1=>Pq (l:=p) (m:=l) hl T hH h1)) rfl ((ZR∘Zg∘Zx) ?_)));refine z7 (zx L (vs:=[_]) (y9 rfl) rfl rfl rfl rfl ⟨_,rfl⟩) rfl (z7 (xg (φ:=US p false) L rfl rfl (zn rfl) rfl rfl rfl nw (fun u H hH hle _=>ofx _ _ hH (hx.le hle))) rfl (z7 (xg (φ:=WithP l 0) L rfl rfl (zn rfl) rfl rfl rfl WithP.mono (fun u H hH _ _ v1 h1=>zdg hof T zp hH h1)) rfl (w6 18 rfl ?_)));rintro _ H1 hs1 ⟨tv1,rfl,hT1⟩;obtain⟨f1,p1,k1,q1,rfl,hp1⟩:=hT1.shape;refine(Z1∘Z2∘Zbr∘Zd∘ZI∘Zbg) ?_;refine z7 (xg (φ:=G3S d true) L rfl rfl (zn rfl) rfl rfl rfl nw (fun u H hH hle _=>Pv hd T hH (hT1.le hle))) rfl ((ZR∘Zay∘Z9∘Za5∘Za∘Zk∘Zbg) ?_);refine z7 (xg (φ:=US l true) L rfl rfl (zn rfl) rfl rfl rfl nw (fun u H hH hle _=>dh T hH (hT1.le hle))) rfl (z7 (zz L rfl rfl (zn rfl) rfl rfl rfl (fun u H hH _ _ v1 h1 v2 h2=>Pk (e:=1) T T (na rfl) hH h1 h2)) rfl ((Zq∘Zl∘Z4∘Zaw∘ZaR) ?_));refine xm (fun i:Nat=>[(3,.sat (US l true)),(4,.own (Cell [f1,.pointer p1,k1,.pointer q1] ii)),(6,.sat (G3S d true)),(7,.is (.int .i64 (i+1:Nat)))]) (fun i=>i<=d.length) (fun i=>d.length-i) 0 (mf _) ⟨Z,Z,Z,Z,nm⟩ ?_;rintro i hi;by_cases hlt:i+1<d.length
 ·obtain⟨a,ha⟩:=xi (show i<d.length by omega);obtain⟨b,hb⟩:=xi hlt;have hca:=zas ha;have hcb:=zas hb;have hsub:IntKind.i64.wrap (((i+1:Nat):Int)-1)=(i:Int):=yy T T |>.trans T;have hlt3:=M8 hgs ha hb;obtain⟨r,hr⟩:∃ r,Ki a b=r:=⟨_,rfl⟩
  rw[hr] at hlt3;refine(Ze∘Z8∘Zh∘Zag∘Zbl) ?_;refine qg (id:=9) [] mixed J ((Zdj∘Zc9∘Zcv∘Zdx∘Zb5∘Zdx) ?_);refine z81 L Z (fun u H hH _=>Vf hr hH) ?_;refine(ZdG∘Zaz∘Zbj∘ZP∘Zbe∘ZbW) ?_;exact yn (x:=i) (i+1) T T ⟨Z,Z,Z,Z,nm⟩
 ·refine(Ze∘Z8∘Zh∘Za3∘ZaD∘ZV∘Zi∘ZW∘ZaR) ?_;refine xm (fun i:Nat=>[(3,.sat (US l true)),(4,.own (Cell [f1,.pointer p1,k1,.pointer q1] ii)),(6,.sat (G3S d true)),(8,.is (.int .i64 (Vb l d i))),(9,.is (.int .i64 i))]) (fun i=>i<=d.length) (fun i=>d.length-i) 0 (mf _) ⟨Z,Z,Z,Z,Z,nm⟩ ?_;rintro i hi;by_cases hlt:i<d.length
  ·obtain⟨g,hg⟩:=xi hlt;have hcg:=zas hg;have hn:=Hx (l:=l) hg;have hi2:=hcl i;have hmul:i*l.length<=20*20:=Nat.mul_le_mul T T;obtain⟨y,hy⟩:∃ y,cw l g=y:=⟨_,rfl⟩
   have hyl:y.length<=l.length:=by rw[<-hy];exact zm9 _ _
   rw[hy] at hn;refine(Ze∘ZX∘Za∘Zh∘Zag∘Zal∘Zak) ?_;refine qg (id:=15) [] mixed J ((Zj∘Zce∘Zb5∘Zdx) ?_);refine z8 (xg (φ:=US y true) L Z Z (zn Z) Z Z Z nw (fun u H hH hle _=>Sd hy T hH (hT1.le hle))) Z ((ZdS∘Zc1∘Zbd∘ZbU∘ZP∘Zbw∘ZbW) ?_);exact yn (x:=i) (i+1) T T ⟨Z,Z,Z,by rw[hn];rfl,Z,nm⟩
  ·obtain rfl:i=d.length:=by omega
   rw[hcn];refine(Ze∘ZX∘Za∘Zh∘Za3∘ZaD∘Zf∘Zap∘ZaR) ?_;refine xm (fun i:Nat=>[(3,.sat (US l true)),(8,.is (.int .i64 l.length)),(10,.is (.int .i64 (i+1:Nat)))]) (fun i=>i<=l.length) (fun i=>l.length-i) 0 (mf _) ⟨Z,Z,Z,nm⟩ ?_;rintro i hi;by_cases hlt:i+1<l.length
   ·obtain⟨a,ha⟩:=xi (show i<l.length by omega);obtain⟨b,hb⟩:=xi hlt;have hca:=d6 ha;have hcb:=d6 hb;have hsub:IntKind.i64.wrap (((i+1:Nat):Int)-1)=(i:Int):=yy T T |>.trans T;have hg:=Hy (M8 sa ha hb);obtain⟨r,hr⟩:∃ r,Ki a.1 b.1=r:=⟨_,rfl⟩
    obtain⟨r2,hr2⟩:∃ r,Ki a.2 b.2=r:=⟨_,rfl⟩
    rw[hr,hr2] at hg;by_cases h0:r=0
    ·have h2:r2<0:=T;refine(Ze∘Zb8∘Za∘Zh∘Zag∘Zbl) ?_;refine qg (id:=19) [] mixed J ((Zdj∘Zc9∘Zcv∘Zed∘Zdx∘Zb5∘Zed∘Zdx) ?_);refine z81 L Z (fun u H hH _=>Vf hr hH) ?_;refine ZbC (h:=?_);refine qg (id:=20) [] mixed J ((Zj∘ZcP∘Zm∘Zei∘Zj∘Zdj∘Zc9∘Zcv∘Zed∘Zdx∘Zb5∘Zed∘Zdx) ?_);refine z81 L Z (fun u H hH _=>zhq hr2 hH) ?_;refine(ZdG∘ZaT∘Zaq∘Zbj∘ZP∘Zcc∘ZbW) ?_;exact yn (x:=i) (i+1) T T ⟨Z,Z,Z,nm⟩
    ·have h2:r<0:=T;refine(Ze∘Zb8∘Za∘Zh∘Zag∘Zbl) ?_;refine qg (id:=19) [] mixed J ((Zdj∘Zc9∘Zcv∘Zed∘Zdx∘Zb5∘Zed∘Zdx) ?_);refine z81 L Z (fun u H hH _=>Vf hr hH) ?_;refine ZbC (h:=?_);refine qg (id:=20) [] mixed J ((Zj∘ZcP∘Zm∘Zdb∘Zb7∘ZdX∘ZbL∘ZaT∘Zaq∘Zbj∘ZP∘Zcc∘ZbW) ?_);exact yn (x:=i) (i+1) T T ⟨Z,Z,Z,nm⟩
   ·refine(Ze∘Zb8∘Za∘Zh∘Za3∘ZaD∘ZcD∘Za∘Zh∘ZG∘Za) ?_;refine z71 L Z (fun u H hH hle=>Ql hH (hM.mono (hs1.le.trans hle))) ?_;refine(Zl∘Zc) ?_;refine yg L (rs:=[.tmp 2]) Z (fun _ _ h=>h) hs1 fun u H hH hle=>?_;rfl
end Go.V.Top
end
namespace Go.V.Top
open Go.V.L2 Go.V.L3 Go.V.L6 Go.V.L8
def topOrder_in{ps:List (List Value)}(lps:∀ c∈ps,LeafsOK [.i .u8,.i .u8] c)(zps:ps.length<=maxLen){W:World}{v1:Value}(hps:SlV ty2 2 ps.flatten ps.length false v1 (hp W))(hM:GlobM (hp W)):
  Ret zph 5 [.agg #[v1]] W (hp W) (fun v _=>v=.bool true):=by
 obtain⟨p,a1,a2,a3⟩:=zi1 lps zps hps;exact F2 a1 a2 (mo _) hM a3
end Go.V.Top
namespace Go.V
open Go.ChangeShapes Go.WideShapes Go.ChangeAt Go.ChangeMaps
inductive Sh where
 | l (k:dz)
 | s (t e:TypeId) (ls:List dz)
def zkh(H:Heap)(e:TypeId)(ls:List dz)(v:Value):Prop:=∃ cs:List (List Value),(∀ c∈cs,LeafsOK ls c)/\cs.length<=maxLen/\SlV e ls.length cs.flatten cs.length false v H
def ShOK(H:Heap):List Sh->List Value->Prop
 | [],vs=>vs=[]
 | .l k::r,vs=>∃ v w,vs=v::w/\LeafsOK [k] [v]/\ShOK H r w
 | .s _ e ls::r,vs=>∃ v w,vs=v::w/\zkh H e ls v/\ShOK H r w
def ShOK.append:∀ {a b:List Sh} {x y:List Value},ShOK H a x->ShOK H b y->ShOK H (a++b) (x++y)
 | [],_,_,_,hx,hy=>by cases hx;exact hy
 | .l k::a,_,_,_,⟨v,w,e,h1,h2⟩,hy=>by subst e;exact⟨v,_,rfl,h1,ShOK.append h2 hy⟩
 | .s t e ls::a,_,_,_,⟨v,w,e',h1,h2⟩,hy=>by subst e';exact⟨v,_,rfl,h1,ShOK.append h2 hy⟩
def ShOK.leafs{H:Heap}:∀ {ls:List dz} {vs:List Value},LeafsOK ls vs->ShOK H (ls.map .l) vs
 | [],vs,h=>N3 h
 | k::ls,[],h=>by have:=LeafsOK.length h;cases this
 | k::ls,v::vs,h=>by
  cases k with
  | s=>obtain⟨a,r,e,h1,h2⟩:=zg9 h;cases e;exact⟨_,_,rfl,⟨⟨a,rfl,h1⟩,nm⟩,ShOK.leafs h2⟩
  | i k=>obtain⟨a,r,e,h1,h2⟩:=Ue h;cases e;exact⟨_,_,rfl,⟨⟨a,rfl,h1⟩,nm⟩,ShOK.leafs h2⟩
  | b=>obtain⟨a,r,e,h2⟩:=zha h;cases e;exact⟨_,_,rfl,⟨⟨a,rfl⟩,nm⟩,ShOK.leafs h2⟩
def shF(P:Program)(rec:TypeId->Option (List Sh)):List Field->Nat->Option (List Sh)
 | [],_=>some []
 | f::fs,off=>match rec f.type with
  | some ls=>if f.offset=off/\P.cellsOf f.type=ls.length then
    match shF P rec fs (off+ls.length) with
    | some r=>some (ls++r)
    | none=>none
   else none
  | none=>none
def shI(P:Program):Nat->TypeId->Option (List Sh)
 | 0,_=>none
 | d+1,t=>match Cb P 20 t with
  | some ls=>some (ls.map .l)
  | none=>match P.underlying t with
   | some (.slice e)=>match Cb P 20 e with
    | some ls=>if P.cellsOf e=ls.length then some [.s t e ls] else none
    | none=>none
   | some (.struct fs)=>match shF P (shI P d) fs.toList 0 with
    | some ls=>if P.cellsOf t=ls.length then some ls else none
    | none=>none
   | _=>none
section
variable {P:Program} {H:Type} {enc:TypeId×Value->H} {W:World} {held:Bool}
def zfl(P:Program)(W:World)(b0:Nat)(shs:List Sh)(cs:List Value):Prop:=∀ (i:Nat) t e ls v,shs[i]?=some (.s t e ls)->cs[i]?=some v->Cell.okWide P W .any b0 t v
def Cn{b0:Nat}:∀ (d:Nat) {t:TypeId} {ls:List Sh},shI P d t=some ls->∀ {fuel:Nat} {cs:List Value} {x:DataW H×List MemPlace},
  DataW.trod enc P W 0 (fun _=>true) held fuel t cs=some x->zfl P W b0 ls cs->ShOK (hp W) ls cs/\cs.length=ls.length
 | 0,_,_,h,_,_,_,_,_=>by cases h
 | d+1,t,ls,h,fuel,cs,x,hx,hok=>by
  have ih:=@Cn b0 d;rw[shI] at h
  cases hlf:Cb P 20 t with
  | some l0=>
   rw[hlf] at h;cases h;have h1:=(bp 20 hlf hx).1;exact⟨ShOK.leafs h1,by rw[h1.length,mt]⟩
  | none=>
   rw[hlf] at h;simp only at h
   cases hu:P.underlying t with
   | none=>rw[hu] at h;cases h
   | some ds=>
    rw[hu] at h;cases ds<;>first | (cases h;done) | skip
    ·rename_i e;simp only at h;split at h
     ·rename_i l1 hl1;split at h
      ·rename_i hc;cases h
       have hone:∃ v,cs=[v]:=by
        rcases Deep.open_slice hu hx with ⟨h1,_⟩ | ⟨a,len,cap,_,_,_,_,h1,_⟩
        ·exact⟨_,h1⟩
        ·exact⟨_,h1⟩
       obtain⟨v,rfl⟩:=hone;have h0:Cell.okWide P W .any b0 t v:=hok 0 t e l1 v rfl rfl;have hval:Value.okWide P W .any b0 t v:=by unfold Value.okWide;rw[hu];exact h0
       have hcl:v.cells=#[v]:=by
        rcases Deep.open_slice hu hx with ⟨h1,_⟩ | ⟨a,len,cap,_,_,_,_,h1,_⟩
        ·cases h1;rfl
        ·cases h1;rfl
       have hd:DataW.Trod enc P W 0 (fun _=>true) held t v x.1 x.2:=⟨fuel,by rw[hcl];exact hx⟩
       exact⟨⟨v,[],rfl,zd0 hu hl1 hc hval hd,rfl⟩,rfl⟩
      ·cases h
     ·cases h
    ·rename_i fs;simp only at h
     cases fuel with
     | zero=>simp [DataW.trod] at hx
     | succ fuel=>
     unfold DataW.trod at hx;rw[hu] at hx;simp only at hx;split at h
     ·rename_i l1 hl1;split at h
      ·rename_i hc;cases h;split at hx
       ·rename_i hlen;obtain⟨xs,hxs,rfl⟩:=zo8.1 hx;obtain⟨_,_,hall,hback⟩:=s8 hxs
        have gen:∀ (fl:List Field) (off:Nat) (ls:List Sh),(∀ f∈fl,f∈fs.toList)->shF P (shI P d) fl off=some ls->(∀ (i:Nat) t e l v,ls[i]?=some (.s t e l)->cs[off+i]?=some v->Cell.okWide P W .any b0 t v)->
          ShOK (hp W) ls ((cs.drop off).take ls.length):=by
         intro fl
         induction fl with
         | nil=>intro off ls _ h _;cases h;simp [ShOK]
         | cons f fl ihf=>
          intro off ls hm h hk;simp only[shF] at h;split at h
          ·rename_i l2 hl2;split at h
           ·rename_i hc2;obtain⟨rfl,hc3⟩:=hc2;split at h
            ·rename_i r hr;cases h;have g1:=ihf _ _ (fun g hg=>hm g (mc _ hg)) hr fun i t e l v h1 h2=>hk (l2.length+i) t e l v (by rw[zne T];simpa using h1) (by rw[<-h2];congr 1;omega);rw[nr,ah];refine ShOK.append ?_ g1;obtain⟨y,hy,_⟩:=hall f (hm f (mb ..));rw[<-hc3];refine(ih hl2 hy fun i t e l v h1 h2=>?_).1
             have hlt:i<l2.length:=by
              rcases m5 i l2.length with h | h
              ·exact h
              ·rw[zld h] at h1;cases h1
             refine hk i t e l v (by rw[zl2 hlt];exact h1) ?_;rw[zmv T,zlo] at h2;exact h2
            ·cases h
           ·cases h
          ·cases h
        have g1:=gen fs.toList 0 _ (fun _ h=>h) hl1 fun i t e l v h1 h2=>hok i t e l v h1 (by rw[<-h2];congr 1;omega);have hcl:cs.length=ls.length:=by rw[<-hc,<-hlen]
        rw[zl7,<-hcl,zla] at g1;exact⟨g1,hcl⟩
       ·cases hx
      ·cases h
     ·cases h
def zgj:List Sh->List TypeId->Bool
 | [],[]=>true
 | .l _::r,_::ts=>zgj r ts
 | .s t _ _::r,u::ts=>Nat.beq t u && zgj r ts
 | _,_=>false
def Ak:∀ {shs:List Sh} {ts:List TypeId},zgj shs ts=true->shs.length=ts.length/\∀ (i:Nat) t e ls,shs[i]?=some (.s t e ls)->ts[i]?=some t
 | [],[],_=>⟨rfl,fun i t e ls h=>by simp at h⟩
 | [],_::_,h=>by cases h
 | .l _::_,[],h=>by cases h
 | .s .. ::_,[],h=>by cases h
 | .l k::r,u::ts,h=>by
  obtain⟨h1,h2⟩:=Ak (shs:=r) (ts:=ts) h;refine⟨by simp [h1],fun i t e ls hi=>?_⟩
  cases i with
  | zero=>simp at hi
  | succ i=>simpa using h2 i t e ls (by simpa using hi)
 | .s t0 e0 l0::r,u::ts,h=>by
  simp only[zgj,zly] at h;obtain⟨h1,h2⟩:=Ak (shs:=r) (ts:=ts) h.2;refine⟨by simp [h1],fun i t e ls hi=>?_⟩
  cases i with
  | zero=>
   simp only[znm,Option.some.injEq,Sh.s.injEq] at hi;have:=zm2 h.1;simp only[znm,Option.some.injEq];rw[<-hi.1,this]
  | succ i=>simpa using h2 i t e ls (by simpa using hi)
def open_st{t:TypeId}{fs:Array Field}{ls:List Sh}{tys:List TypeId}{b0:Nat}{dd:DataW H}{ps:List MemPlace}(h:shI P 20 t=some ls)(hu:P.underlying t=some (.struct fs))(hct:P.cellTypes P.depth t=some tys)(hst:zgj ls tys=true)
  (hval:Value.okWide P W .any b0 t v) (hd:DataW.Trod enc P W 0 (fun _=>true) held t v dd ps):∃ cs:List Value,v=.agg cs.toArray/\ShOK (hp W) ls cs:=by
 obtain⟨fuel,hf⟩:=hd;unfold Value.okWide at hval;rw[hu] at hval;obtain⟨cs,rfl,_,ts,hts,_,hcell⟩:=hval;rw[hct] at hts;cases hts;obtain⟨h1,h2⟩:=Ak hst;refine⟨cs.toList,by simp,(Cn (b0:=b0) 20 h hf fun i t' e l v hi hv=>?_).1⟩
 have hlt:i<ls.length:=by
  rcases m5 i ls.length with h | h
  ·exact h
  ·rw[zld h] at hi;cases hi
 obtain⟨u,hu1,hu2⟩:=hcell i v (by simpa [Value.cells] using hv);rw[zov T,h2 i t' e l hi] at hu1;cases hu1;exact hu2
def sh_s{Hh:Heap}{t e:TypeId}{ls:List dz}{r:List Sh}(h:ShOK Hh (.s t e ls::r) vs):∃ v w,vs=v::w/\zkh Hh e ls v/\ShOK Hh r w:=h
end
end Go.V
end
set_option maxRecDepth 20000
namespace Go.Proofs.YtooecmiihjampaaGreat.topOrder
open Go.ChangeShapes Go.WideShapes Go.ChangeAt Go.ChangeMaps Go.RowKit Go.V Go.V.Top
theorem own : ownKnob Tryz.prog.godebug = none := by kernel_rfl
theorem laidOut : laidOutB Tryz.prog = true := by kernel_rfl
theorem lf0 : shI Tryz.prog 20 24 = some [.s 22 88 [.i .u8, .i .u8]] := by kernel_rfl
theorem lq0 : Tryz.prog.cellTypes Tryz.prog.depth 24 = some [22] := by kernel_rfl
theorem lr1 : Tryz.prog.readableRec 24 = true := by kernel_rfl
theorem lt1 : 24 < Tryz.prog.types.size := of_decide_eq_true (by kernel_rfl)
set_option maxRecDepth 100000 in
theorem lifted (os : Os) (started : os.Started) (H : Type) (enc : TypeId × Value → H) :
    ReturnsInHanded {} Tryz.checked os 5 .any (Rows.topOrderSpec.pre6 enc Tryz.prog Tryz.f5 Rows.topOrderRow.domain false) (Rows.topOrderSpec.post enc Tryz.prog Tryz.f5 false true false false) := by
  refine returnsInHanded_of_change_shaped (C := Tryz.checked) own started (by kernel_rfl) Tryz.func5
    (ChangeSpec.witness6 (enc := enc) (C := Tryz.checked) false ⟨#[], #[.agg #[.slice none 0 0]], []⟩ 8 (by kernel_rfl) (by kernel_rfl) (by kernel_rfl) (by kernel_rfl)) ?_
  intro W base args ds gs before hval0 hW hcnd _ hsh _
  have hval : ∀ (j : Nat) t v, Tryz.f5.params[j]? = some t → args[j]? = some v → Value.okWide Tryz.prog W .any base t v := hval0
  have hW' := hW
  obtain ⟨p0, q, hA0, hV, rfl, hfz, hnd⟩ := hW
  have hA : DataW.TrodAll enc Tryz.prog W 0 (fun _ => true) true Tryz.f5.params.toList args.toList ds p0 := hA0
  rw [Tryz.params5] at hA hval
  obtain ⟨v0, d0, rfl, rfl, h0⟩ := trodAll_one hA
  obtain ⟨rfl, rfl⟩ := trodVars_none hV
  clear hA0 hval0
  obtain ⟨c0, rfl, l0⟩ := open_st lf0 Tryz.underlying24 lq0 rfl (hval 0 24 v0 rfl rfl) h0
  obtain ⟨wps, r0, rfl, ⟨ps, lps, zps, hps⟩, l0⟩ := sh_s l0
  obtain rfl := l0
  obtain ⟨m0, hm0⟩ := Tryz.laysM145.s1_3 W hsh
  have hglob := GlobM.of_cell hm0
  have hplc := hW'.lt
  simp only [List.append_nil] at hW'
  have hlaw := Go.V.Top.topOrder_in lps zps hps hglob
  unfold Ret at hlaw
  refine hlaw.mono fun e W' hp => ?_
  obtain ⟨v, rfl, H', g, rfl⟩ := hp
  refine ⟨_, rfl, _, _, _, [], p0 ++ ([]), [], hW', trodAll_cons_mk (shut_bool Tryz.underlying4 _) trodAll_mk0, ?_, rfl, g.below.frame _, fun h => by cases h⟩
  exact trodAll_cons_mk (Below.trod laidOut lr1 lt1 h0 g.below (fun x hx => hplc x (by simp [hx]))) trodAll_mk0
theorem j1 : (Rows.topOrderRow.inPlace == Tryz.prog.inPlace 5) = true := by kernel_rfl
theorem j2 : (Rows.topOrderRow.unfollowed == Tryz.prog.unfollowed 5) = true := by kernel_rfl
theorem j3 : (Rows.topOrderRow.recurses == Tryz.prog.recurses 5) = true := by kernel_rfl
theorem j4 : (Rows.topOrderRow.named == Tryz.prog.varsNamed 5) = true := by kernel_rfl
theorem j5 : Tryz.prog.stopsHeard = true := by kernel_rfl
theorem j6 : laidOutB Tryz.prog = true := by kernel_rfl
theorem joined : joinedFacts Tryz.prog 5 Tryz.f5 Rows.topOrderSpec Rows.topOrderRow = true := by
  unfold joinedFacts
  rw [j1, j2, j3, j4, j5, j6]
  kernel_rfl
theorem proved : Rows.TopOrderSaid :=
  OpenClaim.holds_of_wide 5 Tryz.f5 rfl rfl rfl rfl rfl rfl rfl ⟨rfl, rfl, rfl, rfl, rfl⟩ rfl rfl rfl rfl rfl (by kernel_rfl) Tryz.func5 joined
    (of_decide_eq_true (by kernel_rfl)) (by unfold Func.isWrapper; first | (rw [if_pos (by decide +kernel)]; kernel_rfl) | (rw [if_neg (by decide +kernel)]; exact ⟨rfl, rfl⟩))
    (fun os started H enc _ => lifted os started H enc)
#print axioms proved
end Go.Proofs.YtooecmiihjampaaGreat.topOrder
