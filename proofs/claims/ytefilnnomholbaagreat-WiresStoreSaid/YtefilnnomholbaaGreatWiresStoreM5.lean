/- Texts, part 5. -/
import Derived.Test.YtefilnnomholbaaGreatWiresStoreM4
set_option linter.unusedVariables false
set_option linter.unusedSimpArgs false
set_option maxRecDepth 20000
set_option maxHeartbeats 8000000
set_option linter.defProp false
open Go.Proofs Go.RowKit
section
variable{R:List (Option (List Go.V.L2.U))}{a b cap hi i j k lo m mid mm n sb zwd:Nat}{P cs l made:List Go.V.L8.CH}{sv v:Go.Value}{w:Go.World}{B:Go.V.Heap}{x:Int×Int}{r s y:ByteArray}{C:Nat->Prop}{L0:List Int}{e:Int}{c:Go.V.L8.CH}{rest:List Go.Value}{t:List Go.V.L2.U}{S:Go.V.L10.Sto}{bs:List Nat}{O:Go.V.Boxes}{Q:Go.Exit->Go.Act->Go.World->Prop}{ops:Array Go.Oper}{o:Go.Oper}{fc fs fu:Bool}{ls ys:List ByteArray}{stop:Go.V.vn->Bool}{pre:Go.V.vn}{α:Type}{A Y:Prop}
namespace Go.V.L10
open Go.V
def _root_.ZfJ(t:Wr Y->A:=by intro h;refine z7 (w8 L (kh:=.i64) (ph:=0) _ _ Z Z Z Z Z ⟨rfl,rfl⟩ Z J J) Z ?_;exact h.1)(h:Y):A:=t ⟨h⟩
def _root_.Zfv(t:Wr Y->A:=by intro h;refine Zg (h:=?_);refine z7 (zf5 L Z Z Z Z) Z ?_;exact h.1)(h:Y):A:=t ⟨h⟩
def g9(l:List (Int×Int)):(l.flatMap pnc).length=l.length*2:=gk zbe l
section
variable {A Bq R X zv7:List Value} 
def zi2(hA:A.length=a)(zv9:List Value):(A++zv9).take a=A/\(A++zv9).drop a=zv9:=by subst hA;simp
def zp5(hA:A.length=a)(hB:Bq.length=b)(_hR:2<=R.length):
  ((A++(Bq++R)).drop a).take b=Bq/\
  ((A++(Bq++R)).take (a+2)++(Bq++(A++(Bq++R)).drop (a+2+b)))=A++((Bq++R).take 2++(Bq++R.drop 2))/\
  ∀ (W:List Value),W.length=2->((A++(W++(Bq++R.drop 2))).take a++(X++(A++(W++(Bq++R.drop 2))).drop (a+2)))=A++(X++(Bq++R.drop 2)):=by
 subst hA hB;refine⟨by simp,?_,fun W hW=>?_⟩
 ·have e1:(A++(Bq++R)).take (A.length+2)=A++(Bq++R).take 2:=by rw[zsm,m8 J];congr 2;omega
  have e2:(A++(Bq++R)).drop (A.length+2+Bq.length)=R.drop 2:=by
   rw[<-mp,zsp,zrx (by rw[nr];omega),mo];congr 1;rw[nr];omega
  rw[e1,e2,mp]
 ·rw[zsm,m8 (nu _),zsx,zr0,mi,zsp,zrx J,mo,show A.length+2-A.length=2 by omega,zsp,zrx J,mo,hW,zsx,zsj]
def znw(hA:A.length=a)(hB:Bq.length=b)(hZ:zv7.length=b+2)(hX:X.length=2):
  ((A++zv7++R).take a++(X++(A++zv7++R).drop (a+2)))=A++(X++(zv7.drop 2++R))/\
  ((A++(X++(zv7.drop 2++R))).take (a+2)++(Bq++(A++(X++(zv7.drop 2++R))).drop (a+2+b)))=A++(X++(Bq++R)):=by
 subst hA hB;refine⟨?_,?_⟩
 ·rw[mp,zsm,m8 (nu _),zsx,zr0,mi,zsp,zrx J,mo,show A.length+2-A.length=2 by omega,zsp,show 2-zv7.length=0 by omega,zsj]
 ·have e1:(A++(X++(zv7.drop 2++R))).take (A.length+2)=A++X:=by
   rw[<-mp,zsm,m8 (by rw[nr];omega),nr,show A.length+2-(A.length+X.length)=0 by omega,zr0,mi]
  have e2:(A++(X++(zv7.drop 2++R))).drop (A.length+2+Bq.length)=R:=by
   rw[<-mp,<-mp,zsp,zrx (by rw[nr,nr,m9];omega),mo,nr,nr,m9,show A.length+2+Bq.length-(A.length+X.length+(zv7.length-2))=0 by omega,zsj]
  rw[e1,e2,mp]
def znv(hA:A.length=a)(hB:Bq.length=b)(hX:X.length=2):
  ((A++(X++(Bq++R))).drop (a+2)).take b=Bq/\
  ((A++(X++(Bq++R))).take a++(Bq++(A++(X++(Bq++R))).drop (a+b)))=A++(Bq++((X++(Bq++R)).drop b))/\
  ∀ (W:List Value),((A++(Bq++W)).take (a+b)++(zv7++(A++(Bq++W)).drop (a+b+2)))=A++Bq++(zv7++W.drop 2):=by
 subst hA hB;refine⟨?_,?_,fun W=>?_⟩
 ·rw[zsp,zrx J,mo,show A.length+2-A.length=2 by omega,zsp,zrx J,mo,hX,zsx,zsj];simp
 ·rw[zsm,m8 (nu _),zsx,zr0,mi,zsp,zrx J,mo,show A.length+Bq.length-A.length=Bq.length by omega]
 ·rw[<-mp A Bq W,zsm,m8 (by rw[nr];omega),nr,zsx,zr0,mi,zsp,zrx (by rw[nr];omega),mo,nr,show A.length+Bq.length+2-(A.length+Bq.length)=2 by omega]
end
attribute [local irreducible] V N X VO Par StepOK Has Ret RetL RetO RetT jh RetX Src
def V4{l:List (Int×Int)}(hz:l.length<=100000)(hB:zwe B w)(hv:PsV l v B):
  RetO zwf 144 [v] w B (SlR Y2 2 l.length (l.flatMap pnc)):=by
 have hv0:=hv;have hlen:=g9 l;have hpl:=tq l;obtain⟨p,c,rfl⟩:=ke hv;rcases p with _ | b
 ·obtain⟨h0,rfl⟩:l.length=0/\c=0:=Kq hv;have hn:l=[]:=zrv h0;subst hn;refine wt Tryz.func144 Z Tryz.ntmps144 (np Z) hB (ZbD (h:=?_));refine z7 (fz Z Z Z Z znt Z) Z ((ZaM∘Zc) ?_);exact um 2 Y2 2 rfl (dt Z (fun _ _ h=>h) nq Z)
 ·refine wt Tryz.func144 Z Tryz.ntmps144 (np Z) hB (ZbD (h:=?_));refine z7 (fz Z Z Z Z znt Z) Z (Zs (h:=?_));refine ku 0 (PsV l) Z ns hv0 (Z2 (h:=?_));refine z7 (b9 L Z Z Z Z Z) Z (Zg (h:=?_));refine qf (jx L Z Z Z (oy Z) Z Cy M M J J) (qf (yo (.inr Z) Z) (ZB (h:=?_)));rw[zrw,mo];exact dt Z (fun _ _ h=>h) nq Z
def Ph(l:List (Int×Int))(i:Nat)(x:Int×Int):List (Int×Int):=l.take i++x::l.drop i
def sn{l:List (Int×Int)}(hi:i<=l.length):(Ph l i x).length=l.length+1:=by
 unfold Ph;rw[List.length_append,List.length_cons,List.length_take,List.length_drop];omega
def Ho{l:List (Int×Int)}:(Ph l i x).flatMap pnc=(l.take i).flatMap pnc++([.int .u64 x.1,.int .i64 x.2]++(l.drop i).flatMap pnc):=by
 unfold Ph;rw[List.flatMap_append,List.flatMap_cons];rfl
def zkp(args:Array Value)(u:World):(callFunc 214 args).run zwf u=((Extern.SlicesOverlaps.overlaps #[110,110] #[4] args).run zwf u).andThen fun v w'=>.ok (.value v) w':=
 run_callFunc_extern Tryz.func214 T T T T args u
abbrev zPn:Value:=.agg #[.int .u64 0,.int .i64 0]
def zPs(m:Nat):List Value:=(Builtin.zeroCells (Value.cells zPn) m).toList
def Yo(m:Nat):(zPs m).length=m*2:=by unfold zPs;rw[Array.length_toList,size_zeroCells];rfl
def Hm{l:List (Int×Int)}{y:Int×Int}(hi:i<=l.length)(hz:l.length<=100000){x v2:Value}(hB:zwe B w)(h2:SlB [Value.int .u64 y.1,Value.int .i64 y.2] Y2 1 v2 B)(hx:(SlR Y2 2 l.length (l.flatMap pnc)).P x B w C)(hC:ZCB C w B):
  RetT zwf 145 [x,.int .i64 i,v2] w B C (SlR Y2 2 (l.length+1) ((Ph l i y).flatMap pnc)):=by
 have hpl:=tq l;unfold RetT;refine Mz 0 (x:=x) (SlR Y2 2 l.length (l.flatMap pnc)) Z Tryz.func145 Z Tryz.ntmps145 (np Z) hB hx hC (ku 2 (SlB [Value.int .u64 y.1,Value.int .i64 y.2] Y2 1) Z SlB.mono h2 ?_);have hw1:IntKind.i64.wrap ((l.length:Int)+((1:Nat):Int))=((l.length+1:Nat):Int):=xb J J;refine o0 0 900 rfl (fun hm hn=>?_) fun b cap rest hl hmc hcm hcl=>?_
 ·have h0:l=[]:=zrv hm;subst h0;obtain rfl:i=0:=by simpa using hi
  refine(Zw∘Zb) ?_;refine z7 (Xa L Z Z Z Z Z Z Z) Z ((Zk∘ZL∘Zfv∘Zh∘Zz∘Zb6∘ZC∘Zbo∘Zh∘Z5∘Zb∘Zx∘Zr∘Z6∘Zg) ?_);refine z7 (gt L Z Z Z (eg Z) Z Cy Z Z J J) Z (qf (yo (.inr Z) Z) (ZB (h:=?_)));exact F2 Z (fun _ _ h=>h) nq Z
 ·by_cases hin:i=l.length
  ·subst hin;have e1:(Ph l l.length y).flatMap pnc=l.flatMap pnc++[Value.int .u64 y.1,Value.int .i64 y.2]:=by rw[Ho,m4,ztz];simp
   rw[e1];refine(Zw∘Zb∘ZfJ∘Zk∘ZL∘Zfv∘Zh∘Zz∘Zb6∘ZC∘Zbo∘Zh∘Z5∘Zb∘Zx∘Zr∘Z6∘Zg) ?_;refine qf (Xj L (q:=900) Z Z Z Z hl hmc hcm hcl (eg Z) Z Cy Z Z J J) (qf (yo (.inr Z) Z) (ZB (h:=?_)));exact F2 Z (fun _ _ h=>h) nq Z
  ·have hil:i<l.length:=J;have hA:((l.take i).flatMap pnc).length=i*2:=by rw[g9,mh,zsv J]
   have hBq:((l.drop i).flatMap pnc).length=(l.length-i)*2:=by rw[g9,m9]
   have hcur:l.flatMap pnc=(l.take i).flatMap pnc++(l.drop i).flatMap pnc:=by rw[<-zr5,zry]
   have hpB:=tq (l.drop i);have hwi:IntKind.i64.wrap ((i:Int)+((1:Nat):Int))=((i+1:Nat):Int):=xb J J;rw[Ho];generalize hAe:(l.take i).flatMap pnc=A at *;generalize hBe:(l.drop i).flatMap pnc=Bq at *;rw[hcur,mp] at hcl;rw[hcur,mp];rw[nr,nr,hA,hBq] at hcl;by_cases hg:l.length+1<=cap
   ·have hne1:¬ cap=i:=J;have hne2:¬ cap=i+1:=J;have hne3:¬ cap=0:=J;have hR:2<=rest.length:=J;obtain⟨m1,m2,m3⟩:=zp5 (R:=rest) (X:=[Value.int .u64 y.1,Value.int .i64 y.2]) hA hBq hR;have m3':=m3 ((Bq++rest).take 2) (by rw[mh,nr];omega);have q1:((A++(Bq++rest)).drop (0+i*2)).take ((l.length-i)*2)=Bq:=by rw[zrw];exact m1
    have q2:(A++(Bq++rest)).take (0+(i+1)*2)++(Bq++(A++(Bq++rest)).drop (0+(i+1)*2+(l.length-i)*2))=A++((Bq++rest).take 2++(Bq++rest.drop 2)):=by rw[zrw,zst i 1 2];exact m2
    have q3:(A++((Bq++rest).take 2++(Bq++rest.drop 2))).take (0+i*2)++([Value.int .u64 y.1,Value.int .i64 y.2]++(A++((Bq++rest).take 2++(Bq++rest.drop 2))).drop (0+i*2+1*2))=A++([Value.int .u64 y.1,Value.int .i64 y.2]++(Bq++rest.drop 2)):=by rw[zrw];exact m3'
    have q4:0+(i+1)*2+(l.length-i)*2<=(A++(Bq++rest)).length:=by rw[nr,nr];omega
    have q5:0+i*2+1*2<=(A++((Bq++rest).take 2++(Bq++rest.drop 2))).length:=by rw[nr,nr,nr,mh,nr];omega
    have q8:0<(A++(Bq++rest)).length:=by rw[nr,nr];omega
    have q6:Nat.min (l.length+1-i) (l.length+1-(i+1))=l.length-i:=by show min _ _=_;omega
    have q7:Nat.min 1 (l.length+1-i)=1:=by show min _ _=_;omega
    refine(Zw∘Zb∘ZfJ) ?_;rw[nc hne1];refine(Zk∘ZL∘Zfv∘Zh∘Zz∘Zb6∘ZC∘Zbo∘Zh∘Z5∘Zb∘Z8∘ZK∘Z0∘Zb∘ZH∘Za) ?_;refine z7 (zb4 L Z Z Z Z) Z ((ZG∘Zs∘ZU∘Zu∘ZH) ?_);refine z7 (w8 L (kl:=.i64) (pl:=0) 0 (l.length+1) Z Z Z Z Z Z ⟨rfl,rfl⟩ J J) Z ?_;rw[nc hne3,show(0+0*2:Nat)=0 from Z,zs1,zs1];refine Zh (h:=?_);refine(ZaP∘Zg∘Zu∘ZH) ?_;refine z7 (w8 L (kh:=.i64) (ph:=0) (i+1) _ Z Z Z Z Z ⟨rfl,rfl⟩ Z J J) Z ?_;rw[nc hne2];refine ye (Ra L (q:=900) Z Z Z zkp Z Z Z Z Z q8) ((Zo∘Zr) ?_);refine qp (id:=15) [(77,[900])] kr T (ZcX (h:=?_));refine z9 (w8 L (kh:=.i64) (ph:=0) (i+1) _ Z Z Z Z Z ⟨rfl,rfl⟩ Z J J) Z ?_;rw[nc hne2];refine Zm (h:=?_);refine z9 (w8 L (kh:=.i64) (ph:=0) i _ Z Z Z Z Z ⟨rfl,rfl⟩ Z J J) Z ?_;rw[nc hne1];refine xo (zb1 L (q:=900) (l.length-i) Z Z Z Z Z Z Cy q6 q1 hBq q4 hpB q2) Z Z ((Zbf∘Zal∘Zb) ?_);refine z7 (w8 L (kh:=.i64) (ph:=0) i _ Z Z Z Z Z ⟨rfl,rfl⟩ Z J J) Z ?_;rw[nc hne1];refine Zg (h:=?_);refine qf (Lm L (q:=900) 1 rfl Z Z Z (eg Z) Z Cy E q7 (nu 2) Z q5 Z q3) ((Zk∘Zbm∘Za∘Zc) ?_);refine uf (s:=2) (xs:=A++([Value.int .u64 y.1,Value.int .i64 y.2]++Bq)) (rest:=rest.drop 2) 6 900 (by simp [mp]) Z Z (by simp only[nr,ma,m7];omega) hg hcm (by simp only[nr,ma,m7,m9];omega) ?_;exact F2 Z (fun _ _ h=>h) nq Z
   ·have hne1:¬ cap=i:=J;have hne3:¬ cap=0:=J;have hr0:rest=[]:=zrv J;subst hr0;have hcap:cap=l.length:=J;subst hcap;rw[mi];have hwk:IntKind.i64.wrap (((l.length+1:Nat):Int)-(i:Int))=((l.length+1-i:Nat):Int):=xb J J |>.trans J;have hxs:(A++Bq).take (i*2)=A:=(zi2 hA Bq).1;have hxl:i*2<=(A++Bq).length:=by rw[nr];omega
    have hZ:=Yo (l.length+1-i);have hgt:l.length<i+(l.length+1-i):=J;refine(Zw∘Zb∘ZfJ) ?_;rw[nc hne1];refine(Zk∘ZL∘Zfv∘Zh∘Zz∘Zb6∘ZC∘Zbo∘Zh∘Z5∘Zb∘Z8∘ZK∘Z0∘Zb∘ZH∘Za) ?_;refine z7 (zb4 L Z Z Z Z) Z ((ZN∘Zr∘ZM∘Zb) ?_);refine z7 (w8 L (kl:=.i64) (pl:=0) 0 i Z Z Z Z Z Z ⟨rfl,rfl⟩ J J) Z ?_;rw[nc hne3,show(0+0*2:Nat)=0 from Z,zs1,zs1];refine(Zb∘ZH∘Za∘Zaj) ?_;refine ye (Xi L (q:=900) (z:=zPn) (k:=l.length+1-i) (kn:=.i64) Z Z Z Z Z Z T Cy Z J hgt hxs hxl Z J J) (qf (yo (.inr Z) Z) (Zk (h:=?_)));rw[show(Builtin.zeroCells (Value.cells zPn) (l.length+1-i)).toList=zPs (l.length+1-i) from rfl];have hlt:i+(l.length+1-i)=l.length+1:=J;rw[hlt];refine o0 9 901 rfl (fun hm _=>by omega) fun b2 cap2 rest2 hl2 hmc2 hcm2 hcl2=>?_;have hn1:¬ cap2=i:=J;have hn2:¬ cap2=i+1:=J;have hZ2:(zPs (l.length+1-i)).length=(l.length-i)*2+2:=J;obtain⟨m1,m2⟩:=znw (R:=rest2) (X:=[Value.int .u64 y.1,Value.int .i64 y.2]) hA hBq hZ2 rfl;have q1:(A++zPs (l.length+1-i)++rest2).take (0+i*2)++([Value.int .u64 y.1,Value.int .i64 y.2]++(A++zPs (l.length+1-i)++rest2).drop (0+i*2+1*2))=A++([Value.int .u64 y.1,Value.int .i64 y.2]++((zPs (l.length+1-i)).drop 2++rest2)):=by rw[zrw];exact m1
    have q2:(A++([Value.int .u64 y.1,Value.int .i64 y.2]++((zPs (l.length+1-i)).drop 2++rest2))).take (0+(i+1)*2)++(Bq++(A++([Value.int .u64 y.1,Value.int .i64 y.2]++((zPs (l.length+1-i)).drop 2++rest2))).drop (0+(i+1)*2+(l.length-i)*2))=A++([Value.int .u64 y.1,Value.int .i64 y.2]++(Bq++rest2)):=by rw[zrw,zst i 1 2];exact m2
    have q3:0+i*2+1*2<=(A++zPs (l.length+1-i)++rest2).length:=by rw[nr,nr];omega
    have q4:0+(i+1)*2+(l.length-i)*2<=(A++([Value.int .u64 y.1,Value.int .i64 y.2]++((zPs (l.length+1-i)).drop 2++rest2))).length:=by simp only[nr,ma,m7,m9];omega
    have q5:Nat.min 1 (l.length+1-i)=1:=by show min _ _=_;omega
    have q6:Nat.min (l.length-i) (l.length+1-(i+1))=l.length-i:=by show min _ _=_;omega
    have q7:((A++Bq).drop (i*2)).take ((l.length-i)*2)=Bq:=by rw[(zi2 hA Bq).2,m8 J]
    have q8:Bq.take ((l.length-i)*2)=Bq:=m8 J;have q9:(l.length-i)*2<=Bq.length:=J;refine Zcq (h:=?_);refine z7 (w8 L (kh:=.i64) (ph:=0) i _ Z Z Z Z Z ⟨rfl,rfl⟩ Z J J) Z ?_;rw[nc hn1];refine Zg (h:=?_);refine qf (Lm L (q:=901) 1 rfl Z Z Z (eg Z) Z Cy E q5 (nu 2) Z q3 Z q1) (Zk (h:=?_));refine uf (s:=2) (xs:=A++Bq) (rest:=[]) 0 900 (mi _).symm Z Z (by rw[<-hcur];exact hl) (nu _) hcm (by rw[<-hcur];exact hl) ?_;refine uz 0 rfl (qp (id:=11) [(54,[901])] kr T (ZcX (h:=?_)));refine z9 (w8 L (kh:=.i64) (ph:=0) (i+1) _ Z Z Z Z Z ⟨rfl,rfl⟩ Z J J) Z ?_;rw[nc hn2];refine Zeq (h:=?_);refine z9 (jw L (kh:=.i64) (ph:=0) (km:=.i64) (pm:=0) i l.length false Z Z Z Z Z ⟨rfl,rfl⟩ ⟨rfl,rfl⟩ (fun h=>by cases h) J J q7) Z ?_;refine xo (Lm L (q:=901) (l.length-i) Z Z Z Z (oy Z) Z Cy J q6 q9 q8 q4 hpB q2) Z Z (Zbf (h:=?_));refine uf (s:=2) (xs:=A++([Value.int .u64 y.1,Value.int .i64 y.2]++Bq)) (rest:=rest2) 9 901 (by simp [mp]) Z Z (by simp only[nr,ma,m7];omega) hmc2 hcm2 (by simp only[nr,ma,m7] at hcl2 |-;omega) ?_;refine ZQ (h:=?_);refine qf (yo (.inl Z) Z) (qf (yo (.inr Z) Z) (ZB (h:=?_)));exact F2 Z (fun _ _ h=>h) nq Z
def zdu(l:List (Int×Int))(i:Nat):(l.eraseIdx i).flatMap pnc=(l.take i).flatMap pnc++(l.drop (i+1)).flatMap pnc:=by rw[zv0,zr5]
def X7{l:List (Int×Int)}(hi:i<l.length)(hz:l.length<=100000){x:Value}{j:Int}(hj:j=((i+1:Nat):Int))(hB:zwe B w)(hx:(SlR Y2 2 l.length (l.flatMap pnc)).P x B w C)(hC:ZCB C w B):
  RetT zwf 296 [x,.int .i64 i,.int .i64 j] w B C (SlR Y2 2 (l.length-1) ((l.eraseIdx i).flatMap pnc)):=by
 subst hj;unfold RetT;refine Mz 0 (x:=x) (SlR Y2 2 l.length (l.flatMap pnc)) Z Tryz.func296 Z Tryz.ntmps296 (np Z) hB hx hC ?_;refine o0 0 900 rfl (fun hm hn=>by omega) fun b cap rest hl hmc hcm hcl=>?_;obtain⟨y,hy⟩:=xj hi;have hA:((l.take i).flatMap pnc).length=i*2:=by rw[g9,mh,zsv J]
 have hBq:((l.drop (i+1)).flatMap pnc).length=(l.length-(i+1))*2:=by rw[g9,m9]
 have hcur:l.flatMap pnc=(l.take i).flatMap pnc++(pnc y++(l.drop (i+1)).flatMap pnc):=by
  rw[<-zsi,<-zr5];congr 1;rw[show y::l.drop (i+1)=l.drop i by rw[zsc hi,ue hy],zry]
 have hpB:=tq (l.drop (i+1));rw[zdu];generalize hAe:(l.take i).flatMap pnc=A at *;generalize hBe:(l.drop (i+1)).flatMap pnc=Bq at *;rw[hcur,mp,mp] at hcl;rw[hcur,mp,mp];obtain⟨X,hX⟩:∃ X,X=pnc y:=⟨_,rfl⟩
 have hXl:X.length=2:=by rw[hX];rfl
 rw[<-hX] at hcl hcur |-;rw[nr,nr,nr,hA,hBq,hXl] at hcl;clear hX hAe hBe;obtain⟨m1,m2,m3⟩:=znv (R:=rest) (zv7:=zPs 1) hA hBq hXl;have m3':=m3 ((X++(Bq++rest)).drop ((l.length-(i+1))*2));have hw1:i+(l.length-(i+1))=l.length-1:=J;have hw2:l.length-(l.length-1)=1:=J;have e1:i*2+(l.length-(i+1))*2=(l.length-1)*2:=J;have q2:(A++(X++(Bq++rest))).take (i*2)++(Bq++(A++(X++(Bq++rest))).drop (i*2+(l.length-(i+1))*2))=A++(Bq++((X++(Bq++rest)).drop ((l.length-(i+1))*2))):=m2;have q3:(A++(Bq++((X++(Bq++rest)).drop ((l.length-(i+1))*2)))).take (0+(l.length-1)*2)++(zPs 1++(A++(Bq++((X++(Bq++rest)).drop ((l.length-(i+1))*2)))).drop (0+(l.length-1)*2+1*2))=A++Bq++(zPs 1++((X++(Bq++rest)).drop ((l.length-(i+1))*2)).drop 2):=by rw[zrw,<-e1];exact m3'
 have q4:i*2+(l.length-(i+1))*2<=(A++(X++(Bq++rest))).length:=by simp only[nr];omega
 have q5:0+(l.length-1)*2+1*2<=(A++(Bq++((X++(Bq++rest)).drop ((l.length-(i+1))*2)))).length:=by simp only[nr,m9];omega
 have hne3:¬ cap=0:=J;have hne4:¬ l.length=i:=J;have hne5:¬ cap=l.length-1:=J;have fin:(A++Bq++(zPs 1++((X++(Bq++rest)).drop ((l.length-(i+1))*2)).drop 2)).length=cap*2:=by simp only[nr,m9,Yo];omega
 by_cases hc:cap=i+1
 ·have hl1:l.length-(i+1)=0:=J;have hB0:Bq=[]:=zrv J;have q1:((A++(X++(Bq++rest))).drop 0).take ((l.length-(i+1))*2)=Bq:=by rw[hl1,hB0];rfl
  refine(Zw∘Zbk∘Zbo) ?_;refine z7 (Ol L i (i+1) l.length Z Z Z Z Z Z Z Z Z Z Z J J hmc) Z ((Zan∘ZaE∘Zb6∘Zt∘Zbo∘Ze) ?_);refine qp (id:=5) [(26,[900])] kr T (Zm (h:=?_));refine z9 (w8 L (kl:=.i64) (pl:=0) 0 i Z Z Z Z Z Z ⟨rfl,rfl⟩ J J) Z ?_;rw[nc hne3,show(0+0*2:Nat)=0 from Z,zs1,zs1];refine Zm (h:=?_);refine z9 (w8 L (kh:=.i64) (ph:=0) (i+1) _ Z Z Z Z Z ⟨rfl,rfl⟩ Z J J) Z ?_;rw[na hc];refine xo (Ez L (q:=900) Z Z Z Z Z Z Cy q1 hBq J q4 hpB q2) Z Z ?_;rw[hw1];refine(Zy∘Zbx∘Zb∘Zbo∘Za) ?_;refine z7 (w8 L (l.length-1) l.length Z Z Z Z Z ⟨rfl,rfl⟩ ⟨rfl,rfl⟩ J J) Z ?_;rw[nc hne5,hw2];refine xm (Ot L (q:=900) Z Z Z Z Cy Z Z (.inr q5) (fun _=>q3) (fun h=>by cases h)) ?_;refine Zk (h:=?_);refine(Z6∘Zc) ?_;refine uf (s:=2) (xs:=A++Bq) 6 900 rfl Z Z (by rw[nr];omega) J hcm fin ?_;exact F2 Z (fun _ _ h=>h) nq Z
 ·have q1:((A++(X++(Bq++rest))).drop (0+(i+1)*2)).take ((l.length-(i+1))*2)=Bq:=by rw[zrw,zst];exact m1
  refine(Zw∘Zbk∘Zbo) ?_;refine z7 (Ol L i (i+1) l.length Z Z Z Z Z Z Z Z Z Z Z J J hmc) Z ((Zan∘ZaE∘Zb6∘Zt∘Zbo∘Ze) ?_);refine qp (id:=5) [(26,[900])] kr T (Zm (h:=?_));refine z9 (w8 L (kl:=.i64) (pl:=0) 0 i Z Z Z Z Z Z ⟨rfl,rfl⟩ J J) Z ?_;rw[nc hne3,show(0+0*2:Nat)=0 from Z,zs1,zs1];refine Zm (h:=?_);refine z9 (w8 L (kh:=.i64) (ph:=0) (i+1) _ Z Z Z Z Z ⟨rfl,rfl⟩ Z J J) Z ?_;rw[nc hc];refine xo (Ez L (q:=900) Z Z Z Z Z Z Cy q1 hBq J q4 hpB q2) Z Z ?_;rw[hw1];refine(Zy∘Zbx∘Zb∘Zbo∘Za) ?_;refine z7 (w8 L (l.length-1) l.length Z Z Z Z Z ⟨rfl,rfl⟩ ⟨rfl,rfl⟩ J J) Z ?_;rw[nc hne5,hw2];refine xm (Ot L (q:=900) Z Z Z Z Cy Z Z (.inr q5) (fun _=>q3) (fun h=>by cases h)) ?_;refine Zk (h:=?_);refine(Z6∘Zc) ?_;refine uf (s:=2) (xs:=A++Bq) 6 900 rfl Z Z (by rw[nr];omega) J hcm fin ?_;exact F2 Z (fun _ _ h=>h) nq Z
end Go.V.L10
section
open Go.V
attribute [local irreducible] Has N Par Ret RetL RetO RetT RetX Src StepOK V VO X jh
namespace Go.V.L10
def _root_.Zfw(t:Wr Y->A:=by intro h;refine z7 (v6 L Z Z (zn Z) Z Z Z (fun u H hH hle _=>V4 J hH (hv.le hle))) Z ?_;exact h.1)(h:Y):A:=t ⟨h⟩
def _root_.ZeO(t:Wr Y->A:=by intro h;refine z7 (yv (cs:=[_,_]) Z Z zpy Z Z) Z ?_;exact h.1)(h:Y):A:=t ⟨h⟩
def PinP(L0:List Int)(e:Int):Value->Heap->Prop:=fun v H=>∃ s,v=.tuple #[pnv s L0.length,.int .i64 e]/\PsV (xf L0) s H
def PinP.mono:Kn.mono (.sat (PinP L0 e)):=fun _ _ _ ⟨s,h1,h2⟩ hle=>⟨s,h1,h2.le hle⟩
def K8{l:List (Int×Int)}(h:l[i]?=some x)(rest:List Value):l.flatMap pnc++rest=(l.take i).flatMap pnc++(pnc x++((l.drop (i+1)).flatMap pnc++rest)):=by
 have hi:=get_lt h
 have e:l=l.take i++x::l.drop (i+1):=by
  rw[show x::l.drop (i+1)=l.drop i by rw[zsc hi,ue h],zry]
 conv=>lhs;rw[e,zr5,zsi]
 simp only[mp]
def zbf{l:List (Int×Int)}{r c:Int}(h:l[i]?=some (r,c))(rest:List Value):∃ t,(l.flatMap pnc++rest).drop (0+i*2+1)=.int .i64 c::t:=by
 rw[K8 h rest];have hl:((l.take i).flatMap pnc).length=i*2:=by rw[g9,mh,zsv (zs5 (get_lt h))]
 refine⟨(l.drop (i+1)).flatMap pnc++rest,?_⟩;rw[zsp,zrx J,mo,show 0+i*2+1-((l.take i).flatMap pnc).length=1 by omega];rfl
def Ti{l:List (Int×Int)}{r c:Int}(h:l[i]?=some (r,c))(c':Int)(rest:List Value):(l.flatMap pnc++rest).take (0+i*2+1)++([Value.int .i64 c']++(l.flatMap pnc++rest).drop (0+i*2+1+1))=(l.set i (r,c')).flatMap pnc++rest:=by
 have hi:=get_lt h;have hl:((l.take i).flatMap pnc).length=i*2:=by rw[g9,mh,zsv (zs5 hi)]
 have hs:(l.set i (r,c'))[i]?=some (r,c'):=by rw[zuw hi]
 rw[K8 h rest,K8 hs rest,zvd (nu _),zve (zuk i)];generalize (l.take i).flatMap pnc=A at hl |-;generalize (l.drop (i+1)).flatMap pnc++rest=zv9
 subst_vars
 have e1:(A++(pnc (r,c)++zv9)).take (0+i*2+1)=A++[Value.int .u64 r]:=by
  rw[zsm,m8 J,show 0+i*2+1-A.length=1 by omega];rfl
 have e2:(A++(pnc (r,c)++zv9)).drop (0+i*2+1+1)=zv9:=by
  rw[zsp,zrx J,mo,show 0+i*2+1+1-A.length=2 by omega];rfl
 rw[e1,e2];simp [pnc]
def Tj{l:List (Int×Int)}(h:i<l.length)(rest:List Value):Nat.ble (0+i*2+1+1) (l.flatMap pnc++rest).length=true:=zuj (by rw[nr,g9];omega)
def zde{l:List (Int×Int)}(hi:i<=l.length):(Ph l i x)[i]?=some x:=by
 unfold Ph;rw[List.getElem?_append_right (by rw[List.length_take];omega),List.length_take,Nat.min_eq_left hi,Nat.sub_self];rfl
def T9{l:List (Int×Int)}{y:Int×Int}(hi:i<=l.length):(Ph l i x).set i y=Ph l i y:=by
 unfold Ph;rw[List.set_append_right _ _ (by rw[List.length_take];omega),List.length_take,Nat.min_eq_left hi,Nat.sub_self];rfl
def zbb(r:Int):o9 cP r (kf L0)<=(xf L0).length:=by rw[wy];exact zbc r _
def zgl{r:Int}(hr:r≠0)(hz2:(xf L0).length<=1000)(hz:L0.length<=4095){s:Value}(hB:zwe B w)(hv:PsV (xf L0) s B):
  Ret zwf 77 [pnv s L0.length,.int .u64 r,.int .i64 1] w B (PinP (L0++[r]) 0):=by
 have hcz:L0.count r<=4095:=mq ztm hz;have hws:IntKind.i64.wrap (4096-((L0.count r:Nat):Int))=4096-((L0.count r:Nat):Int):=xb J J;have hwt:IntKind.i64.wrap ((L0.length:Int)+1)=((L0++[r]).length:Nat):=by rw[nr];exact xb J J
 obtain⟨p,c,rfl⟩:=ke hv;have hpl:=zbb (L0:=L0) r;by_cases hm:r∈kf L0
 ·have hf:decide (r∈kf L0)=true:=nf hm;have hp:=Bs hm;have hpi:=get_lt hp;have e1:=En (k7.1 hm);have hwc:IntKind.i64.wrap (((L0.count r:Nat):Int)+1)=((L0.count r:Nat):Int)+1:=xb J J;generalize hat:o9 cP r (kf L0)=at_ at *;refine yl Tryz.func77 Z Tryz.ntmps77 (np Z) hB ((Zq∘ZX∘Ze∘ZZ∘Zbq∘Zab∘ZcM∘Zz∘ZbQ∘ZC∘Z8∘ZcR∘ZbR∘Za0∘ZbW∘Zbn∘Za) ?_);refine z71 L Z (fun u H hH hle=>hf ▸ hat ▸ Dl (L0:=L0) (t:=L0.length) J hH (hv.le hle)) ?_;refine(ZW∘Zbl∘Za5∘Zbn∘Za) ?_;refine z71 L Z (fun u H hH hle=>count_ret J hH (hv.le hle)) ?_;refine(Zaj∘ZG∘Zb∘Zo∘Za9∘Zf∘Zba∘ZaH∘Z3∘Zfw) ?_;refine qf (yo (.inr Z) Z) ((Zan∘ZbL∘Zo∘Zs) ?_);refine o0 10 900 rfl (fun h0 _=>by omega) fun b cap rest hl hmc hcm hcl=>?_;obtain⟨tl,hld⟩:=zbf hp rest;have hst:=Ti hp (((L0.count r:Nat):Int)+1) rest;have hbl:=Tj hpi rest;refine(ZU∘Zb∘Zdx∘Zak) ?_;refine ye (qk L (q:=900) Z Z Z hld) ((Za∘ZH∘Zdx∘Zak) ?_);refine xm (yq L (q:=900) Z Z hbl Z hst) (Zk (h:=?_));have hln:(xf (L0++[r])).length=(xf L0).length:=by rw[e1,zt2]
  rw[<-e1];refine uf (s:=2) (xs:=(xf (L0++[r])).flatMap pnc) (rest:=rest) 10 900 rfl Z Z (by rw[g9,hln]) hmc hcm (by rw[nr,g9,hln,<-g9,<-nr];exact hcl) ?_;refine P4 10 rfl fun x H hs _ hsw=>?_;have hsv:PsV (xf (L0++[r])) x H:=by unfold PsV;rw[hln];exact hsw.toV
  obtain⟨p2,c2,rfl⟩:=ke hsv;refine(Zch∘Z3∘Za∘ZH∘ZeO∘Zaq) ?_;refine yk L (rs:=[.cell 6 112,.tmp 7]) Z (fun _ _ h=>h) hs fun u H hH hle=>?_;exact⟨_,ya Z,rfl,_,rfl,hsv.le hle⟩
 ·have hf:decide (r∈kf L0)=false:=ng hm;have e1:=Q7 (L:=L0) fun h=>hm (k7.2 h);generalize hat:o9 cP r (kf L0)=at_ at *;have e2:xf (L0++[r])=(Ph (xf L0) at_ (r,0)).set at_ (r,1):=by rw[T9 hpl];exact e1
  have hp:=zde (x:=(r,(0:Int))) hpl;have hpi:=get_lt hp;have hil:=sn (x:=(r,(0:Int))) hpl;refine yl Tryz.func77 Z Tryz.ntmps77 (np Z) hB ((Zq∘ZX∘Ze∘ZZ∘Zbq∘Zab∘ZcM∘Zz∘ZbQ∘ZC∘Z8∘ZcR∘ZbR∘Za0∘ZbW∘Zbn∘Za) ?_);refine z71 L Z (fun u H hH hle=>hf ▸ hat ▸ Dl (L0:=L0) (t:=L0.length) J hH (hv.le hle)) ?_;refine(ZW∘Zbl∘Za5∘Zbn∘Za) ?_;refine z71 L Z (fun u H hH hle=>count_ret J hH (hv.le hle)) ?_;refine(Zaj∘ZG∘Zb∘Zo∘Za∘Z3∘Zbo∘Z8∘Zf∘Zba∘ZaH∘Z3∘Zfw) ?_;refine qf (yo (.inr Z) Z) ((Zan∘ZbL∘Zo∘Z1∘ZQ) ?_);refine qf (yo (.inl Z) Z) (Zb (h:=?_));refine z7 (yv (cs:=[_,_]) Z Z znf Z Z) Z (ZJ (h:=?_));refine qf (Ey L (q:=51) Z Z Z Z Z (fun u H C x hH hle hx hC v2 hv2=>Hm (y:=(r,0)) hpl J hH hv2 hx hC)) (qf (yo (.inr Z) Z) (Zk (h:=?_)));rw[<-hil];refine o0 10 900 rfl (fun h0 _=>by omega) fun b cap rest hl hmc hcm hcl=>?_;obtain⟨tl,hld⟩:=zbf hp rest;have hst:=Ti hp 1 rest;have hbl:=Tj hpi rest;refine(ZU∘Zb∘Zdx∘Zak) ?_;refine ye (qk L (q:=900) Z Z Z hld) ((Za∘ZcZ∘Zdx∘Zak) ?_);refine xm (yq L (q:=900) Z Z hbl Z hst) (Zk (h:=?_));have hln:(xf (L0++[r])).length=(Ph (xf L0) at_ (r,0)).length:=by rw[e2,zt2]
  rw[<-e2];refine uf (s:=2) (xs:=(xf (L0++[r])).flatMap pnc) (rest:=rest) 10 900 rfl Z Z (by rw[g9,hln]) hmc hcm (by rw[nr,g9,hln,<-g9,<-nr];exact hcl) ?_;refine P4 10 rfl fun x H hs _ hsw=>?_;have hsv:PsV (xf (L0++[r])) x H:=by unfold PsV;rw[hln];exact hsw.toV
  obtain⟨p2,c2,rfl⟩:=ke hsv;refine(Zch∘Z3∘Za∘ZH∘ZeO∘Zaq) ?_;refine yk L (rs:=[.cell 6 112,.tmp 7]) Z (fun _ _ h=>h) hs fun u H hH hle=>?_;exact⟨_,ya Z,rfl,_,rfl,hsv.le hle⟩
def zkk{r:Int}(hr:r≠0)(hz2:(xf L0).length<=1000)(hz:L0.length<=4095){s:Value}(hB:zwe B w)(hv:PsV (xf L0) s B):
  Ret zwf 113 [pnv s L0.length,.int .u64 r] w B (PinP (L0++[r]) 0):=by
 obtain⟨p,c,rfl⟩:=ke hv;refine yl Tryz.func113 Z Tryz.ntmps113 (np Z) hB ((Zq∘ZX∘Zad∘Zbn∘Za) ?_);refine z7 (xh L rfl rfl (zn rfl) rfl rfl rfl PinP.mono (fun u H hH hle _=>zgl hr hz2 hz hH (hv.le hle))) rfl ?_;refine ui 8 rfl fun v1 H1 hs1 hp1=>?_;obtain⟨s1,rfl,hq1⟩:=hp1;obtain⟨p1,c1,rfl⟩:=ke hq1;refine(Zb8∘Zaq) ?_;refine yk L (rs:=[.cell 4 112,.tmp 5]) Z (fun _ _ h=>h) hs1 fun u H hH hle=>?_;exact⟨_,ya Z,rfl,_,rfl,hq1.le hle⟩
def PinP.nil{e:Int}{B:Heap}:PinP [] e (.tuple #[pnv (.slice none 0 0) 0,.int .i64 e]) B:=⟨_,rfl,SlV.nil⟩
def Yz{L1:List Int}{r:Int}{e:Nat}(hr:i6 L0 r=(L1,e))(hz:L0.length<=1000){s:Value}(hB:zwe B w)(hv:PsV (xf L0) s B):
  Ret zwf 248 [pnv s L0.length,.int .u64 r] w B (PinP L1 e):=by
 have hz2:(xf L0).length<=1000:=by rw[wy];exact mq (ul _) hz
 have hcz:L0.count r<=1000:=mq ztm hz;obtain⟨p,c,rfl⟩:=ke hv;unfold i6 at hr;by_cases h0:L0.count r=0
 ·rw[na h0] at hr;cases hr;have hm:r∉kf L0:=fun h=>(ztw.1 h0) (k7.1 h)
  have hf:decide (r∈kf L0)=false:=ng hm;refine yl Tryz.func248 Z Tryz.ntmps248 (np Z) hB ((Zq∘ZX∘Zad∘Zbn∘Za) ?_);refine z71 L Z (fun u H hH hle=>hf ▸ Dl (L0:=L0) (t:=L0.length) J hH (hv.le hle)) ?_;refine(ZW∘Zbl∘Zn∘Zo∘Zr∘Z2∘ZeO∘Zaq) ?_;refine yk1 L [.cell 4 112,.tmp 5] fun u H hH hle=>?_;exact⟨_,ya Z,rfl,PinP.nil⟩
 ·rw[nc h0] at hr;cases hr;have hmem:r∈L0:=zs4.1 J;have hm:r∈kf L0:=k7.2 hmem;have hf:decide (r∈kf L0)=true:=nf hm;have hp:=Bs hm;have hpi:=get_lt hp;have hL1:(L0.erase r).length=L0.length-1:=by rw[List.length_erase_of_mem hmem]
  have hL0:0<L0.length:=List.length_pos_of_mem hmem;have hwt:IntKind.i64.wrap ((L0.length:Int)-1)=((L0.erase r).length:Nat):=by rw[hL1];exact xb J J |>.trans J
  have hwc:IntKind.i64.wrap (((L0.count r:Nat):Int)-1)=((L0.count r:Nat):Int)-1:=xb J J;have e1:1<L0.count r->xf (L0.erase r)=(xf L0).set (o9 cP r (kf L0)) (r,((L0.count r:Nat):Int)-1):=Bi;have e2:L0.count r=1->xf (L0.erase r)=(xf L0).eraseIdx (o9 cP r (kf L0)):=Cq;generalize hat:o9 cP r (kf L0)=at_ at *;have hwi:IntKind.i64.wrap ((at_:Int)+1)=((at_+1:Nat):Int):=xb J J;refine yl Tryz.func248 Z Tryz.ntmps248 (np Z) hB ((Zq∘ZX∘Zad∘Zbn∘Za) ?_);refine z71 L Z (fun u H hH hle=>hf ▸ hat ▸ Dl (L0:=L0) (t:=L0.length) J hH (hv.le hle)) ?_;refine(ZW∘Zbl∘Zn∘Zo∘Zs∘ZE∘Z3∘Zfw) ?_;refine qf (yo (.inr Z) Z) (Zan (h:=?_));refine o0 8 900 rfl (fun h0 _=>by omega) fun b cap rest hl hmc hcm hcl=>?_;obtain⟨tl,hld⟩:=zbf hp rest;have hst:=Ti hp (((L0.count r:Nat):Int)-1) rest;have hbl:=Tj hpi rest;have hp2:((xf L0).set at_ (r,((L0.count r:Nat):Int)-1))[at_]?=some (r,((L0.count r:Nat):Int)-1):=by rw[zuw hpi]
  obtain⟨tl2,hld2⟩:=zbf hp2 rest;have hsl:((xf L0).set at_ (r,((L0.count r:Nat):Int)-1)).length=(xf L0).length:=zt2 ..;have hcl2:(((xf L0).set at_ (r,((L0.count r:Nat):Int)-1)).flatMap pnc++rest).length=cap*2:=by rw[nr,g9,hsl,<-g9,<-nr];exact hcl
  have hers:((xf L0).set at_ (r,((L0.count r:Nat):Int)-1)).eraseIdx at_=(xf L0).eraseIdx at_:=by rw[List.eraseIdx_set_eq]
  by_cases h1:L0.count r=1
  ·have hz0:((L0.count r:Nat):Int)-1=0:=J;refine(ZbG∘Zdx∘Zak) ?_;refine ye (qk L (q:=900) Z Z Z hld) ((Zaj∘Zdx∘Zak) ?_);refine xm (yq L (q:=900) Z Z hbl Z hst) ((Zk∘Z5∘Zb∘Zdx∘Zak) ?_);refine ye (qk L (q:=900) Z Z Z hld2) ((Zx∘Z1) ?_);refine uf (s:=2) (xs:=((xf L0).set at_ (r,((L0.count r:Nat):Int)-1)).flatMap pnc) (rest:=rest) 8 900 rfl Z Z (by rw[g9,hsl]) hmc hcm hcl2 ?_;refine Z7 (h:=?_);refine qf (yo (.inl Z) Z) ((Zb∘ZH) ?_);refine qf (Ey L (q:=35) Z Z Z Z Z (fun u H C x hH hle hx hC=>X7 (l:=(xf L0).set at_ (r,((L0.count r:Nat):Int)-1)) (by rw[hsl];exact hpi) (by rw[hsl];omega) Z hH (by rw[hsl];exact hx) hC)) ?_;refine qf (yo (.inr Z) Z) (Zk (h:=?_));rw[hers,hsl,<-e2 h1];refine P4 8 rfl fun x H hs _ hsw=>?_
   have hsv:PsV (xf (L0.erase r)) x H:=by
    unfold PsV;rw[show(xf (L0.erase r)).length=(xf L0).length-1 by rw[e2 h1,List.length_eraseIdx_of_lt hpi]];exact hsw.toV
   obtain⟨p2,c2,rfl⟩:=ke hsv;refine(Za5∘Z3∘Zaj∘ZeO∘Zaq) ?_;refine yk L (rs:=[.cell 4 112,.tmp 5]) Z (fun _ _ h=>h) hs fun u H hH hle=>?_;exact⟨_,ya Z,rfl,_,rfl,hsv.le hle⟩
  ·have hz0:((L0.count r:Nat):Int)-1≠0:=J;refine(ZbG∘Zdx∘Zak) ?_;refine ye (qk L (q:=900) Z Z Z hld) ((Zaj∘Zdx∘Zak) ?_);refine xm (yq L (q:=900) Z Z hbl Z hst) ((Zk∘Z5∘Zb∘Zdx∘Zak) ?_);refine ye (qk L (q:=900) Z Z Z hld2) (Zb6 (h:=?_));refine uf (s:=2) (xs:=((xf L0).set at_ (r,((L0.count r:Nat):Int)-1)).flatMap pnc) (rest:=rest) 8 900 rfl Z Z (by rw[g9,hsl]) hmc hcm hcl2 ?_;rw[<-e1 J] at hsl |-;refine P4 8 rfl fun x H hs _ hsw=>?_;have hsv:PsV (xf (L0.erase r)) x H:=by unfold PsV;rw[hsl];exact hsw.toV
   obtain⟨p2,c2,rfl⟩:=ke hsv;refine(Za5∘Z3∘Zaj∘ZeO∘Zaq) ?_;refine yk L (rs:=[.cell 4 112,.tmp 5]) Z (fun _ _ h=>h) hs fun u H hH hle=>?_;exact⟨_,ya Z,rfl,_,rfl,hsv.le hle⟩
open Go.V.L2 Go.V.L8 Go.V.L6
def _root_.Zcx(t:Wr Y->A:=by intro h;refine z7 (qg L (vs:=[_,_,_,_]) (ya Z) Z Z Z Z ⟨_,rfl⟩) Z ?_;exact h.1)(h:Y):A:=t ⟨h⟩
def _root_.ZdF(t:Wr Y->A:=by intro h;refine jy 900 901 rfl Z (xi _) ?_;exact h.1)(h:Y):A:=t ⟨h⟩
def _root_.ZdS(t:Wr Y->A:=by intro h;refine ug 900 901 rfl (xi _) ?_;exact h.1)(h:Y):A:=t ⟨h⟩
abbrev tyS:TypeId:=205
abbrev Ent:=List (Int×(List U×Value))
abbrev vcE(p:List U×Value):Value:=p.2
abbrev stc(n m:Nat)(s:Value)(t:Nat):List Value:=[.int .u64 n,.map (some m),s,.int .i64 t]
abbrev StO(b n m:Nat)(s:Value)(t:Nat)(es:Ent):GR:=gz (xd b (stc n m s t) tyS) (zph m .u64 vcE es)
def bu(b n m:Nat)(s:Value)(t:Nat)(es:Ent):(StO b n m s t es).res=ej (xr b (stc n m s t) tyS) (F7 m .u64 vcE es):=rfl
def EsV(es:Ent)(H:Heap):Prop:=∀ e∈es,SetV e.2.1 e.2.2 H
def EsV.le{es:Ent}{H H':Heap}(h:EsV es H)(hle:H.Le H'):EsV es H':=fun e he=>(h e he).le hle
def Ce{cs:List Value}{ty:TypeId}:∀ v H u C,(xr b cs ty).P v H u C->joinH H u C b=some (.cells cs.toArray ty):=fun _ _ _ _ ⟨hb,hC⟩=>(bp ((hC b).2 rfl)).trans hb
def zr_run{P:Program}(L:Tabs P){e:TypeId}{z:Value}(hz:L.zr e=some z)(w:World):(zeroValue e).run P w=.ok z w:=by
 have h:=Tabs.zr_spec hz;unfold zrI at h;split at h
 ·rename_i it hit;simp [zeroValue,typeInfo,hit,h]
 ·cases h
abbrev zq4:TypeId:=203
abbrev tySt:TypeId:=91
def mpS:zwf.underlying zq4=some (.map A0 tySt):=T
def kyS:zwf.underlying A0=some (.int .u64):=T
def zrS(w:World):(zeroValue tySt).run zwf w=.ok nilSet w:=zr_run L rfl w
attribute [local irreducible] RetY
def none_ret(hn:n≠0)(hb:B b=some (.cells (Value.int .u64 n::rest).toArray tyS))(hB:zwe B w):
  Ret zwf 111 [.pointer (some ⟨b,0,none⟩)] w B (fun v _=>v=.bool false):=by
 refine yl Tryz.func111 Z Tryz.ntmps111 (np Z) hB ((Zw∘Za) ?_);refine z7 (fz Z Z Z Z zp3 Z) Z ((Zcm∘Zbd∘Z8∘Zf∘Zc) ?_);exact yk2 L [.tmp 2]
def gu(hn:n≠0)(hb:B b=some (.cells (Value.int .u64 n::rest).toArray tyS))(hB:zwe B w):
  Ret zwf 93 [.pointer (some ⟨b,0,none⟩)] w B (fun v _=>v=.int .u64 n):=by
 refine yl Tryz.func93 Z Tryz.ntmps93 (np Z) hB (ZbD (h:=?_));refine z71 L Z (fun u H hH hle=>none_ret hn (hle _ _ hb) hH) ?_;refine(Zs∘Zz∘Zam∘Zbd∘Zc) ?_;exact yk2 L [.tmp 2]
def pins_ret{t:Nat}{s:Value}(hs:∃ p k c,s=.slice p k c)(hn:n≠0)(hb:B b=some (.cells (stc n m s t).toArray tyS))(hB:zwe B w):
  Ret zwf 43 [.pointer (some ⟨b,0,none⟩)] w B (fun v _=>v=pnv s t):=by
 obtain⟨p,k,c,rfl⟩:=hs;refine yl Tryz.func43 Z Tryz.ntmps43 (np Z) hB ((ZaB∘Zan∘Zbq) ?_);refine z71 L Z (fun u H hH hle=>none_ret hn (hle _ _ hb) hH) ?_;refine(Zs∘Zz∘Zam) ?_;refine z7 (qg L (vs:=[_,_]) (qt Z M) Z Z Z Z ⟨_,rfl⟩) Z (Za3 (h:=?_));refine yk1 L [.cell 2 112] fun u H hH hle=>?_;exact⟨_,ya Z,rfl,rfl⟩
def D7{t:Nat}{s:Value}{es:Ent}{r:Int}(hm:MapOK es S.R)(hn:S.R.length≠0)(hes:EsV es B)(hB:zwe B w)(hr:(StO b S.R.length m s t es).P B w C)(hC:ZCB C w B):
  RetY zwf 87 [.pointer (some ⟨b,0,none⟩),.int .u64 r] w B C (StO b S.R.length m s t es) (WithP (atS S r).1 (atS S r).2):=by
 unfold RetY;refine yz 900 (StO b S.R.length m s t es) Tryz.func87 Z Tryz.ntmps87 (np Z) hB hr hC ?_;rw[bu];refine ZdS (h:=?_);obtain⟨k,hk⟩:∃ k,k=if r=0 then (S.R.length:Int) else r:=⟨_,rfl⟩
 have hat:atS S r=match kpt S.R k with | some t=>(t,0) | none=>([],14):=by rw[hk];rfl
 have hg:=hm.get k;by_cases hr0:r=0
 ·rw[na hr0] at hk;subst hr0;subst hk
  cases hgk:g7 (S.R.length:Int) es with
  | none=>
   rw[hgk] at hg;rw[hat,<-hg];have q1:(g7 (S.R.length:Int) es).elim nilSet vcE=nilSet:=by rw[hgk];rfl
   have q2:(g7 (S.R.length:Int) es).isSome=false:=by rw[hgk];rfl
   refine(ZaB∘Zax) ?_;refine ye (xz L 900 (Φ:=fun H=>H b=some (.cells (stc S.R.length m s t).toArray tyS)) (c:=.bool false) Z Z (zn Z) Z Z Z Z Z Ce (fun u H hH hle hb=>none_ret hn hb hH)) ((ZK∘Zz∘Zx∘Z1∘Zc0∘ZbV∘ZR∘Za) ?_);refine ye (f6 (q:=901) (vc:=vcE) (S.R.length:Int) mpS kyS zrS Z Z Z Z Z q1 q2) ((Zcj∘Zh∘ZD∘Zo∘Zr∘Z7∘ZdK∘Zaq) ?_);refine ZdF (h:=?_);exact w6 L 900 (r:=StO b S.R.length m s t es) (rs:=[.cell 4 91,.tmp 5]) Z (fun _ _ h=>h) nq Z Z (fun H hle=>⟨_,ya Z,rfl,_,rfl,SetV.nil⟩)
  | some x=>
   obtain⟨l,sv⟩:=x;rw[hgk] at hg;rw[hat,<-hg];have hx:SetV l sv B:=hes _ (bm hgk);obtain⟨f1,p1,f2,p2,rfl,hpl⟩:=hx.shape;have q1:(g7 (S.R.length:Int) es).elim nilSet vcE=.agg #[f1,.pointer p1,f2,.pointer p2]:=by rw[hgk];rfl
   have q2:(g7 (S.R.length:Int) es).isSome=true:=by rw[hgk];rfl
   refine(ZaB∘Zax) ?_;refine ye (xz L 900 (Φ:=fun H=>H b=some (.cells (stc S.R.length m s t).toArray tyS)) (c:=.bool false) Z Z (zn Z) Z Z Z Z Z Ce (fun u H hH hle hb=>none_ret hn hb hH)) ((ZK∘Zz∘Zx∘Z1∘Zc0∘ZbV∘ZR∘Za) ?_);refine ye (f6 (q:=901) (vc:=vcE) (S.R.length:Int) mpS kyS zrS Z Z Z Z Z q1 q2) ((ZW∘ZX∘ZcN∘Zh∘ZD∘Zo∘Zs∘Z0∘Zcx∘ZcN∘Zc) ?_);refine ZdF (h:=?_);exact w6 L 900 (r:=StO b S.R.length m s t es) (rs:=[.cell 4 91,.tmp 5]) Z (fun _ _ h=>h) nq Z Z (fun H hle=>⟨_,ya Z,rfl,_,rfl,hx.le hle⟩)
 ·rw[nc hr0] at hk;subst hk
  cases hgk:g7 k es with
  | none=>
   rw[hgk] at hg;rw[hat,<-hg];have q1:(g7 k es).elim nilSet vcE=nilSet:=by rw[hgk];rfl
   have q2:(g7 k es).isSome=false:=by rw[hgk];rfl
   refine(ZaB∘Zax) ?_;refine ye (xz L 900 (Φ:=fun H=>H b=some (.cells (stc S.R.length m s t).toArray tyS)) (c:=.bool false) Z Z (zn Z) Z Z Z Z Z Ce (fun u H hH hle hb=>none_ret hn hb hH)) ((ZK∘Zz∘Zb6∘ZC∘ZR∘Za) ?_);refine ye (f6 (q:=901) (vc:=vcE) k mpS kyS zrS Z Z Z Z Z q1 q2) ((Zcj∘Zh∘ZD∘Zo∘Zr∘Z7∘ZdK∘Zaq) ?_);refine ZdF (h:=?_);exact w6 L 900 (r:=StO b S.R.length m s t es) (rs:=[.cell 4 91,.tmp 5]) Z (fun _ _ h=>h) nq Z Z (fun H hle=>⟨_,ya Z,rfl,_,rfl,SetV.nil⟩)
  | some x=>
   obtain⟨l,sv⟩:=x;rw[hgk] at hg;rw[hat,<-hg];have hx:SetV l sv B:=hes _ (bm hgk);obtain⟨f1,p1,f2,p2,rfl,hpl⟩:=hx.shape;have q1:(g7 k es).elim nilSet vcE=.agg #[f1,.pointer p1,f2,.pointer p2]:=by rw[hgk];rfl
   have q2:(g7 k es).isSome=true:=by rw[hgk];rfl
   refine(ZaB∘Zax) ?_;refine ye (xz L 900 (Φ:=fun H=>H b=some (.cells (stc S.R.length m s t).toArray tyS)) (c:=.bool false) Z Z (zn Z) Z Z Z Z Z Ce (fun u H hH hle hb=>none_ret hn hb hH)) ((ZK∘Zz∘Zb6∘ZC∘ZR∘Za) ?_);refine ye (f6 (q:=901) (vc:=vcE) k mpS kyS zrS Z Z Z Z Z q1 q2) ((ZW∘ZX∘ZcN∘Zh∘ZD∘Zo∘Zs∘Z0∘Zcx∘ZcN∘Zc) ?_);refine ZdF (h:=?_);exact w6 L 900 (r:=StO b S.R.length m s t es) (rs:=[.cell 4 91,.tmp 5]) Z (fun _ _ h=>h) nq Z Z (fun H hle=>⟨_,ya Z,rfl,_,rfl,hx.le hle⟩)
end Go.V.L10
namespace Go.V.L11
open Go.V.L4
def _root_.ZeA(t:Wr Y->A:=by intro h;refine z9 (ql L (A9 Z (List.Mem.head _)) Z Z Z Z) Z ?_;exact h.1)(h:Y):A:=t ⟨h⟩
def zwr(w:World):(zeroValue zqp).run zwf w=.ok (.agg #[.int .i64 0,.int .i64 0]) w:=L10.zr_run L rfl w
attribute [local irreducible] XP RetY Pan
def Ye{a:Int}(hB:zwe B w):Ret zwf 71 [wrV a e] w B (fun v _=>v=.tuple #[.int .i64 a,.int .i64 e]):=by
 refine yl Tryz.func71 Z Tryz.ntmps71 (np Z) hB ((Za6∘Zax) ?_);refine z7 (Xg Z Z Z T) Z ((Zcj∘Ze) ?_);refine B8 4 rfl fun b4 _=>?_;refine(Zn∘Zr∘ZcQ∘Zas∘ZeA∘Zas∘ZeA∘ZaS∘Zy) ?_;exact yk2 L [.tmp 2,.tmp 3]
def R9(hB:zwe B w):Ret zwf 71 [.nilIface] w B (fun v _=>v=.tuple #[.int .i64 0,.int .i64 0]):=by
 refine yl Tryz.func71 Z Tryz.ntmps71 (np Z) hB ((Za6∘Zax) ?_);refine z7 (Xh Z Z Z T zwr) Z ((Zcj∘ZbY∘Zs∘ZE∘Z4) ?_);exact yk2 L [.tmp 2,.tmp 3]
abbrev ze3:TypeId:=3
abbrev P6:TypeId:=43
abbrev tyPS:TypeId:=71
abbrev G3(ba be bs:Nat)(x y z:Value):GR:=gz (xd ba [x] ze3) (gz (xd be [y] P6) (xd bs [z] tyPS))
attribute [local irreducible] o5
def O4{ba be bs:Nat}{x y z:Value}{a:Int}{m m':FrameMode}(hm:RecM m m' v)(hcv:∀ (u:World) (H:Heap),zwe H u->Ret zwf 71 [v] u H (fun r _=>r=.tuple #[.int .i64 a,.int .i64 e]))(hB:zwe B w)(hr:(G3 ba be bs x y z).P B w C)(hC:ZCB C w B):
  o5 zwf 70 [k8 ba,k8 be,k8 bs] w B C m m' (G3 ba be bs (.int .i64 a) (.int .i64 e) (if e=0 then z else .pointer none)):=by
 refine zh4 900 (G3 ba be bs x y z) _ hm Tryz.func70 Z Tryz.ntmps70 (np Z) Z Z Z Z hB hr hC ?_;refine Qe (r1:=xr ba [x] ze3) (r2:=(gz (xd be [y] P6) (xd bs [z] tyPS)).res) 900 901 rfl (xi _) ?_;refine Qe (r1:=xr be [y] P6) (r2:=xr bs [z] tyPS) 901 902 rfl (bq _ _ _) ?_;refine z71 L Z (fun u H hH _=>hcv u H hH) ?_;refine ZW (h:=?_);refine xm (yq L (q:=900) (cs':=[.int .i64 a]) Z Z Z Z Z) (xm (yq L (q:=901) (cs':=[.int .i64 e]) Z Z Z Z Z) (Zah (h:=?_)));refine Zdj (h:=?_);by_cases he:e=0
 ·rw[na he];refine(Zi∘ZI∘Zev∘Zar∘Zbu) ?_;refine s4 901 902 rfl Z (bq _ _ _) ?_;refine s4 900 901 rfl Z (xi (gz (xd be [.int .i64 e] P6) (xd bs [z] tyPS))) ?_;exact zem L 900 (r:=G3 ba be bs (.int .i64 a) (.int .i64 e) z) Z Z Z nq
 ·rw[nc he];refine(Zi∘ZI∘Zev∘ZcT∘Z1∘ZL) ?_;refine xm (yq L (q:=902) (cs':=[.pointer none]) Z Z Z Z Z) (Zah (h:=?_));refine s4 901 902 rfl Z (bq _ _ _) ?_;refine s4 900 901 rfl Z (xi (gz (xd be [.int .i64 e] P6) (xd bs [.pointer none] tyPS))) ?_;exact zem L 900 (r:=G3 ba be bs (.int .i64 a) (.int .i64 e) (.pointer none)) Z Z Z nq
end Go.V.L11
namespace Go.V.L11
open Go.V.L4
def iq{F:Fr}{κ:Kap}{pv:Value}(l:List (Nat×Kn))(hl:LiveOK l κ)(h:XP F B n O (ofL l) pv Q):XP F B n O κ pv Q:=fun a u hh=>h a u (hh.live hl)
def zk5{P:Program}{F:Fr}{κ:Kap}{fn:Func}{R R':Ending->World->Prop}(h:LV P F B n O κ fn R)(hm:∀ e u,R e u->R' e u):LV P F B n O κ fn R':=fun a u hh=>let ⟨v,h1,h2⟩:=h a u hh;⟨v,h1,hm _ _ h2⟩
attribute [local irreducible] XP LV RetY Pan o5
abbrev FLd(w:World)(ba be bs:Nat):Fr:=⟨w,none,[.u (dfd 70 [k8 ba,k8 be,k8 bs])],noL⟩
abbrev KLd(ba be bs:Nat)(x y z:Value):List (Nat×Kn):=[(2,.is (k8 bs)),(3,.is (k8 ba)),(4,.is (k8 be)),(910,.own (xr bs [z] tyPS)),(911,.own (xr ba [x] ze3)),(912,.own (xr be [y] P6))]
def zcs{B0:Heap}{ba be bs:Nat}{x y z:Value}{a:Int}(he:e≠0)(hs:Since (FLd w ba be bs) B0 B){R:Ending->World->Prop}(hR:∀ r u,dm w B0 noL (fun v _ _=>v=.tuple #[.pointer none,.int .i64 a,.int .i64 e]) r u->R r u):
  XP (FLd w ba be bs) B n O (ofL (KLd ba be bs x y z)) (wrV a e) (bodyPostM Fence.wide 0 zwf Tryz.f26 R):=by
 refine Sj 912 910 rfl Z (bq _ _ _) ?_;refine Sj 911 912 rfl Z (xi (gz (xd be [y] P6) (xd bs [z] tyPS))) ?_;refine zji L 911 (r:=G3 ba be bs x y z) (r':=G3 ba be bs (.int .i64 a) (.int .i64 e) (if e=0 then z else .pointer none)) Z Z Z (fun u H C hH _ hr hC=>O4 (RecM.caught _) (fun u H hH=>Ye hH) hH hr hC) ?_ (fun _ _ h=>h);rw[nc he];refine Lt (r1:=xr ba [.int .i64 a] ze3) (r2:=(gz (xd be [.int .i64 e] P6) (xd bs [.pointer none] tyPS)).res) 911 912 rfl (xi _) ?_;refine Lt (r1:=xr be [.int .i64 e] P6) (r2:=xr bs [.pointer none] tyPS) 912 910 rfl (bq _ _ _) ?_;refine d8 3 911 rfl Z (d8 4 912 rfl Z (d8 2 910 rfl Z (zk5 (R:=dm w B0 noL (fun v _ _=>v=.tuple #[.pointer none,.int .i64 a,.int .i64 e])) ?_ hR)));exact zn1 L (rs:=[.cell 2 tyPS,.cell 3 ze3,.cell 4 P6]) Z hs (fun u H _ _=>jr (ya Z) Z (jr (ya Z) Z (jr (ya Z) Z Z)))
end Go.V.L11
end
namespace Go.V
def zjj(ops:Array Oper)(zwd:Nat):Bool:=
 let b:=Region.before ops
 (List.range ops.size).all fun i=>Nat.ble i zwd || (b.getD i 0).testBit zwd
section sound
variable {P:Program} {St:Kap->Act->World->Prop}  {ex:Exs}
def U5(P:Program)(St:Kap->Act->World->Prop)(ops:Array Oper)(ex:Exs)(r:Option Nat)(Q:Exit->Act->World->Prop)(zwd:Nat)(o:Oper)(κ:Kap):Prop:=
 ∀ κ' a u,(∀ t∈lks ops ex o,κ' t=κ t)->St κ' a u->∀ Kk,wpOpIn (FW r) 0 P ops Q zwd Kk a u
def Gt{r:Option Nat}{Q:Exit->Act->World->Prop}{zwd:Nat}{o:Oper}:∀ (l:List Nat) {κ:Kap},(∀ j∈l,∀ x,ops[j]?=some x->Ox (tch ex x) (lks ops ex o)=true)->
  ParI P St ops ex (U5 P St ops ex r Q zwd o) l κ->U5 P St ops ex r Q zwd o κ
 | [],κ,_,h=>h
 | j::l,κ,hap,⟨x,us,hx,hd,sx,rest⟩=>fun κ' a u hl hh=>by
  have h2:=ev (hap j (mc ..) x hx);exact Gt l (fun m hm=>hap m (mf _ hm)) rest κ' a u (fun t ht=>(hl t ht).trans (ua us κ t fun p hp e=>h2 p.1 (hd p hp) (e ▸ ht)).symm) hh
def Yq{r:Option Nat}(hsep:zj8 ops ex=true)(hw:zjj ops zwd=true)(hoK:ops[zwd]?=some o)(hK:zwd<ops.size):∀ (fuel:Nat) (listed:Array Bool) (l:List Nat) (κ:Kap) (a:Act) (u:World),
  l.length<fuel->l.Pairwise (·<·)->listed.size=ops.size->(∀ i,(i∈l\/(zwd<=i/\i<ops.size))↔i<ops.size/\listed.getD i true=false)->Si ops listed->(∀ i∈l,i<zwd)->
  ParI P St ops ex (U5 P St ops ex r Q zwd o) l κ->St κ a u->wpAnyIn (FW r) 0 P .any ops Q fuel listed a u:=by
 intro fuel
 induction fuel with
 | zero=>intro listed l κ a u hlen;omega
 | succ fuel ih=>
  intro listed l κ a u hlen hsort hsz hmem hcl hlK hp hh;have hsep':=hsep;simp only[zj8,zr3,zsn] at hsep'
  have hedge:∀ i (hi:i<ops.size),∀ e∈(ops[i]'hi).after,Region.binds .any e=true->e.on<i:=fun i hi e he hb=>by
   have h1:=(hsep' i (by simpa using hi)).1;rw[zsd,zsl hi,Option.getD_some,Array.all_eq_true'] at h1;have:=h1 e he;simp [hb] at this;exact this
  have hlow:∀ j,j<ops.size->listed.getD j true=false->(∀ i∈l,j<=i)->j<=zwd->j∈Region.ready .any ops listed:=fun j hj hjl hmin hjK=>by
   refine mem_ready.2 ⟨hjl,ops[j],by simp [hj],fun e he hb=>?_⟩;have hlt:=hedge j hj e he hb;cases hle:listed.getD e.on true
   ·rcases(hmem e.on).2 ⟨by omega,hle⟩ with h | h
    ·have:=hmin _ h;omega
    ·omega
   ·rw[zsd,zsl J] at hle |-;simpa using hle
  have hKl:=((hmem zwd).1 (.inr ⟨nu _,hK⟩)).2;constructor
  ·intro hr;exfalso
   have:∃ j,j∈Region.ready .any ops listed:=by
    cases l with
    | nil=>exact⟨zwd,hlow zwd hK hKl (fun i hi=>by cases hi) (nu _)⟩
    | cons j0 l0=>
     obtain⟨h1,h2⟩:=(hmem j0).1 (.inl (mc ..));refine⟨j0,hlow j0 h1 h2 (fun i hi=>?_) (zs5 (hlK j0 (mc ..)))⟩;rcases nz.1 hi with rfl | hi
     ·exact nu _
     ·exact zs5 (List.rel_of_pairwise_cons hsort hi)
   obtain⟨j,hj⟩:=this;rw[hr] at hj;cases hj
  ·intro i hi;obtain⟨hli,oi,ho,hall⟩:=mem_ready.1 hi
   have hisz:i<ops.size:=by
    rcases m5 i ops.size with h | h
    ·exact h
    ·rw[ztn h] at ho;cases ho
   have hio:ops[i]=oi:=by rw[zsl hisz] at ho;exact Option.some.inj ho
   have hwait:∀ j,j<ops.size->((Region.before ops).getD i 0).testBit j=true->listed.getD j true=false->False:=fun j hjs h2 hjl=>by
    have:=Al hsz hcl i hisz (fun e he hb=>by rw[hio] at he;exact hall e he hb) j h2;rw[zsd,zsl J] at this hjl;simp at this hjl;rw[this] at hjl;cases hjl
   have hapart:∀ j∈l,j<i->∀ x y,ops[j]?=some x->ops[i]?=some y->Cn ops ex x y=true:=fun j hj hji x y hx hy=>by
    obtain⟨hjs,hjl⟩:=(hmem j).1 (.inl hj);have h2:=(hsep' i (by simpa using hisz)).2 j (by simpa using hji);rw[zur] at h2;rcases h2 with h2 | h2
    ·exact(hwait j hjs h2 hjl).elim
    ·rw[zsd,zsd,hx,hy] at h2;exact h2
   rcases(hmem i).2 ⟨hisz,hli⟩ with hil | ⟨hKi,_⟩
   ·obtain⟨l1,l3,rfl⟩:=zut hil
    have hap:∀ j∈l1,∀ x y,ops[j]?=some x->ops[i]?=some y->Cn ops ex x y=true:=fun j hj=>
     hapart j (zsg _ hj) ((zsr.1 hsort).2.2 j hj i (mc ..))
    obtain⟨o',us,ho',hd,sx,rest⟩:=ParI.front l1 hap hp;obtain rfl:oi=o':=by rw[ho] at ho';exact Option.some.inj ho'
    have hst:=sx κ a u (fun _ _=>rfl) hh;refine After.wpOpIn ho ?_;refine After.mono (fun a' u' hh'=>?_) hst;have hli':i<listed.size:=J;have hiK:=hlK i hil;refine ih (listed.setIfInBounds i true) (l1++l3) _ a' u' (by simp at hlen |-;omega) ?_ (by simpa using hsz) ?_ ?_ (fun j hj=>hlK j (by rcases mj.1 hj with h | h;exact zsg _ h;exact zsy _ (mf _ h))) rest hh'
    ·rw[zsr] at hsort |-;exact⟨hsort.1,(mn.1 hsort.2.1).2,fun x hx y hy=>hsort.2.2 x hx y (mf _ hy)⟩
    ·intro j;rw[Dk true hli']
     have hnd:i∉l1++l3:=by
      rw[zsr] at hsort;intro hm;rcases mj.1 hm with hm | hm
      ·have:=hsort.2.2 i hm i (mc ..);omega
      ·have:=(mn.1 hsort.2.1).1 i hm;omega
     by_cases hij:i=j
     ·subst hij;simp [hnd];omega
     ·rw[nc hij,<-hmem j];simp only[mj,nz];constructor
      ·rintro((h | h) | h);exact .inl (.inl h);exact .inl (.inr (.inr h));exact .inr h
      ·rintro((h | h | h) | h);exact .inl (.inl h);exact ni h.symm hij;exact .inl (.inr h);exact .inr h
    ·intro k hk hkl e he hb;rw[Dk _ hli'] at hkl |-;by_cases hie:i=e.on
     ·rw[na hie]
     ·rw[nc hie];by_cases hik:i=k
      ·subst hik;rw[hio] at he;exact hall e he hb
      ·rw[nc hik] at hkl;exact hcl k hk hkl e he hb
   ·by_cases hKe:i=zwd
    ·subst hKe;obtain rfl:oi=o:=by rw[ho] at hoK;exact Option.some.inj hoK
     refine Gt l (fun j hj x hx=>?_) hp κ a u (fun _ _=>rfl) hh _;have:=hapart j hj (hlK j hj) x oi hx ho;simp only[Cn,zsn] at this;exact this.1
    ·exfalso;simp only[zjj,zr3,zur] at hw;rcases hw i (by simpa using hisz) with h | h
     ·have:=np h;omega
     ·exact hwait zwd hK h hKl
end sound
section code
variable {P:Program} {F:Fr}    {κ:Kap}   {ex:Exs} {os:List Oper}
def zpe(P:Program)(F:Fr)(B:Heap)(n:Nat)(O:Boxes)(ops:Array Oper)(ex:Exs)(zwd:Nat)(o:Oper)(κ:Kap)(os:List Oper)(Q:Exit->Act->World->Prop):Prop:=
 zmq P (Has F B O n) ops ex (U5 P (Has F B O n) ops ex F.r Q zwd o) os κ
def H7{id:Nat}{l:List Oper}(zwd:Nat)(ex:Exs)(hm:P.follows .mixedOrders=true)(ho:l[zwd]?=some o)(hs:(zj8 l.toArray ex && zjj l.toArray zwd)=true)
  (h:zpe P F B n O l.toArray ex zwd o κ (l.take zwd) Q):V P F B n O κ (.region id l.toArray true) Q:=fun a u hh=>by
 rw[zsn] at hs
 have hK:zwd<l.length:=by
  rcases m5 zwd l.length with h | h
  ·exact h
  ·rw[zr6 h] at ho;cases ho
 refine wpIn_region_any hm (Yq (St:=Has F B O n) (ex:=ex) (o:=o) hs.1 hs.2 (by simpa using ho) (by simpa using hK) l.toArray.size _ (List.range' 0 zwd) κ a _ (by simpa using hK) List.pairwise_lt_range' (by simp) ?_ ?_ (fun i hi=>by have:=List.mem_range'_1.1 hi;omega) ?_ hh.drew)
 ·intro i;constructor
  ·rintro(h | h)
   ·have:=List.mem_range'_1.1 h;refine⟨by simp;omega,?_⟩;have:i<l.length:=J;simp [this]
   ·have:i<l.length:=by simpa using h.2
    refine⟨h.2,?_⟩;simp [this]
  ·rintro⟨h,_⟩;by_cases hi:i<zwd
   ·exact .inl (List.mem_range'_1.2 ⟨mb _,by omega⟩)
   ·exact .inr ⟨by omega,h⟩
 ·intro k hk hkl;simp at hk;simp [hk] at hkl
 ·refine G2 zwd 0 (by simp;omega) ?_;rw[zsj];exact h
def wq{ok:Oper}{d:Nat}{k:Kn}(hs:StepOK P F B n ops O κ o d k)(hd:vd o=some d)(h:zpe P F B n O ops ex zwd ok (upd κ d k) os Q):zpe P F B n O ops ex zwd ok κ (o::os) Q:=
 ⟨[(d,k)],fun p hp=>by simp at hp;subst hp;simp [tch,hd],hs.stepG,h⟩
def tu(ll:List (Nat×Kn))(hin:(ll.all fun p=>(lks ops ex o).contains p.1)=true)(hl:LiveOK ll κ)(h:N F B n O (ofL ll) (QX P F ops zwd Q)):zpe P F B n O ops ex zwd o κ [] Q:=fun κ' a u hag hh Kk=>by
 have key:∀ l:List (Nat×Kn),(l.all fun p=>(lks ops ex o).contains p.1)=true->LiveOK l κ->LiveOK l κ':=by
  intro l
  induction l with
  | nil=>intro _ _;trivial
  | cons p l ih=>
   intro h1 h2;rw[List.all_cons,zsn] at h1;exact⟨(hag p.1 (by simpa using h1.1)).trans h2.1,ih h1.2 h2.2⟩
 exact h a u (hh.live (key ll hin hl)) Kk
end code
end Go.V
namespace Go.V.L11
open Go.V.L4
def S6{rb:Nat}{bs:List Nat}{fr:Int}{R:Rd}(hb:∀ b∈bs,b<=255)(hl:bs.length<=1099511627776)(hat:R.at_<=bs.length)(hB:zwe B w)(hs:BsV bs fu sv B)(hr:(kq sb rb sv fr R).P B w C)(hC:ZCB C w B):
  RetX zwf 76 [k8 rb] w B C (kq sb rb sv fr (ry bs R).2) (.int .u64 ((ry bs R).1:Nat)):=
 RetL.mono (RetY.conv (RetY.frame (Mk hr) hC fun C1 h1 hC1=>(Qx hb hl hat hB hs h1 hC1).toY) fun _ _ _ h=>Mk h:RetY _ _ _ _ _ _ (kq sb rb sv fr (ry bs R).2) fun x _=>x=.int .u64 ((ry bs R).1:Nat)) fun _ _ _ _ h=>h
attribute [local irreducible] V N X VO Par XP LV StepOK Has Ret RetL RetO RetT jh RetX RetY Pan o5 Src
open Go.V.L2 Go.V.L6 Go.V.L8
def wg{rb:Nat}{R R2:Rd}{fr0:Int}{x:CH}{fr:Nat}{fst cap:List Value}(hfn:L.fn fr=some ())(he:R2.err=0){C:Nat->Prop}(hB:zwe B w)(hr:(kq sb rb sv fr0 R).P B w C)(hC:ZCB C w B)(hf:∀ (u:World) (H:Heap) (C:Nat->Prop),zwe H u->B.Le H->(kq sb rb sv R.at_ R).P H u C->(ZCB C u H)->RetX zwf fr (fst++cap) u H C (kq sb rb sv R.at_ R2) (chv x.1 x.2)):
  RetX zwf 146 [k8 sb,.func (.func fr) fst.toArray cap.toArray] w B C (kq sb rb sv R.at_ R2) (chv x.1 x.2):=by
 unfold RetX;obtain⟨⟨⟨⟨x1,x2⟩,x3⟩,⟨⟨x4,x5⟩,x6⟩⟩,x7⟩:=x;refine yz 900 (kq sb rb sv fr0 R) Tryz.func146 Z Tryz.ntmps146 (np Z) hB hr hC ?_;rw[w9,xe,xe];refine ZdQ (h:=?_);refine(Zct∘ZI∘ZbI) ?_;refine qf (yj L 901 (GRd rb sv R) (.int .i64 R.at_) (r:=GRd rb sv R) Z Z Z Z Z (fun u H C2 hH _ hr2 hC2=>L4.at_ret hH hr2 hC2)) (Zam (h:=?_));refine xm (yq L (q:=900) (cs':=[k8 rb,.int .i64 R.at_]) Z Z Z Z Z) (Zk (h:=?_));refine jy 900 901 rfl Z (xi (GRd rb sv R)) ?_;refine Zn (h:=?_);refine qf (jo L 900 (kq sb rb sv R.at_ R2) (chv (((x1,x2),x3),((x4,x5),x6)) x7) (r:=kq sb rb sv R.at_ R) Z Z Z hfn Z hf) (ZbA (h:=?_));refine ug (r1:=(xd sb [k8 rb,.int .i64 R.at_] Ss).res) (r2:=(GRd rb sv R2).res) 900 901 rfl (xi (GRd rb sv R2)) ?_;rw[xe];refine(Zz∘ZR) ?_;refine qf (yj L 901 (GRd rb sv R2) (.tuple #[.int .i64 R2.bad,.int .i64 R2.err]) (r:=GRd rb sv R2) Z Z Z Z Z (fun u H C2 hH _ hr2 hC2=>L4.fault_ret hH hr2 hC2)) ((Zb0∘Zt∘Zau∘Z5∘Zd4∘Za3) ?_);refine jy 900 901 rfl Z (xi (GRd rb sv R2)) ?_;exact kj L 900 (r:=kq sb rb sv R.at_ R2) (rs:=[.cell 4 P7]) Z (fun _ _ h=>h) nq Z Z (fun _=>⟨_,ya Z,rfl,rfl⟩)
def Q2{rb:Nat}{R R2:Rd}{fr0:Int}{x:CH}{fr:Nat}{fst cap:List Value}(hfn:L.fn fr=some ())(he:R2.err≠0){C:Nat->Prop}(hB:zwe B w)(hr:(kq sb rb sv fr0 R).P B w C)(hC:ZCB C w B)(hf:∀ (u:World) (H:Heap) (C:Nat->Prop),zwe H u->B.Le H->(kq sb rb sv R.at_ R).P H u C->(ZCB C u H)->RetX zwf fr (fst++cap) u H C (kq sb rb sv R.at_ R2) (chv x.1 x.2)):
  Pan zwf 146 [k8 sb,.func (.func fr) fst.toArray cap.toArray] w B C (wrV R2.bad R2.err):=by
 obtain⟨⟨⟨⟨x1,x2⟩,x3⟩,⟨⟨x4,x5⟩,x6⟩⟩,x7⟩:=x;refine lu 900 (kq sb rb sv fr0 R) Tryz.func146 Z Tryz.ntmps146 (np Z) hB hr hC ?_;rw[w9,xe,xe];refine ZdQ (h:=?_);refine(Zct∘ZI∘ZbI) ?_;refine qf (yj L 901 (GRd rb sv R) (.int .i64 R.at_) (r:=GRd rb sv R) Z Z Z Z Z (fun u H C2 hH _ hr2 hC2=>L4.at_ret hH hr2 hC2)) (Zam (h:=?_));refine xm (yq L (q:=900) (cs':=[k8 rb,.int .i64 R.at_]) Z Z Z Z Z) (Zk (h:=?_));refine jy 900 901 rfl Z (xi (GRd rb sv R)) ?_;refine Zn (h:=?_);refine qf (jo L 900 (kq sb rb sv R.at_ R2) (chv (((x1,x2),x3),((x4,x5),x6)) x7) (r:=kq sb rb sv R.at_ R) Z Z Z hfn Z hf) (ZbA (h:=?_));refine ug (r1:=(xd sb [k8 rb,.int .i64 R.at_] Ss).res) (r2:=(GRd rb sv R2).res) 900 901 rfl (xi (GRd rb sv R2)) ?_;rw[xe];refine(Zz∘ZR) ?_;refine qf (yj L 901 (GRd rb sv R2) (.tuple #[.int .i64 R2.bad,.int .i64 R2.err]) (r:=GRd rb sv R2) Z Z Z Z Z (fun u H C2 hH _ hr2 hC2=>L4.fault_ret hH hr2 hC2)) ((Zb0∘Zt∘ZcT∘Z1) ?_);refine wm (id:=5) 4 rfl ((Zb∘Zfa∘ZeZ∘Zah) ?_);refine E4 (zwd:=4) Z Z Z ?_
 repeat (first | refine w7 ?_ | refine wc ?_)
 exact cd nq
abbrev tySt:TypeId:=91
def zck{r:Int}(hr:r≠0){p:Option Addr}{c:Nat}{t:Int}(hB:zwe B w):
  Ret zwf 77 [.agg #[.slice p k c,.int .i64 t],.int .u64 r,.int .i64 0] w B (fun v _=>v=.tuple #[.agg #[.slice p k c,.int .i64 t],.int .i64 0]):=by
 refine yl Tryz.func77 Z Tryz.ntmps77 (np Z) hB ((Zq∘ZX∘Ze∘ZZ∘Zbq∘Zab∘ZcM∘Zz∘ZbQ∘ZC∘Zx∘Zcd∘Zbx∘Zbn∘Zaq) ?_);refine yk1 L [.cell 6 112,.tmp 7] fun u H hH hle=>?_;exact⟨_,ya Z,rfl,rfl⟩
def Kt(hB:zwe B w):Ret zwf 32 [nilSet] w B (BsV [0] true):=by
 refine yl Tryz.func32 Z Tryz.ntmps32 (np Z) hB ((Zq∘Zad∘Zc4) ?_);refine jg 3 900 rfl fun wb=>?_;refine B6 901 A3 1 (ZeU (h:=?_));refine o3 (X:=Value) 900 (r:=fun sv=>(GWv wb [] sv).res) (φ:=fun sv _=>Qb sv) di (.slice none 0 0) ⟨_,_,_,rfl⟩ Z ((ZL∘ZdJ) ?_);refine z71 L Z (fun u H hH _=>lw (l:=[]) (n:=0) Z hH SetV.nil) ?_;refine z7 (kw Z Z Z wo.1 wo.2 (wrap_u64 J J)) Z (qf (xg L 900 (GWr wb [0]) (r:=GWr wb []) Z Z Z Z Z (fun u H C hH _ hr hC=>by have h:=ge (n:=0) E E hH hr hC;rw[ct E] at h;exact h)) ?_);refine(Zan∘Z2∘ZdJ) ?_;refine z7 (xh (φ:=US [] true) L Z Z (zn Z) Z Z Z ns (fun u H hH _ _=>ak (l:=[]) E hH SetV.nil)) Z ((ZbT∘Zb3) ?_);refine xu (fun _:Nat=>[(12,.is (.int .i64 0)),(13,.is (.int .i64 0)),(3,.is (k8 wb)),(900,.own (GWr wb [0]).res)]) (fun _=>True) (fun i=>i) 0 trivial ⟨Z,Z,Z,Z,nm⟩ ?_;rintro _ _;refine(ZbS∘Zbh∘Z0) ?_;refine qf (t5 L 900 GNo (BsV [0] true) (r:=GWr wb [0]) Z Z Z Z Z ns (fun u H C hH _ hr hC=>Hu (Gj E hH hr hC))) (Zb9 (h:=?_));exact yk L (rs:=[.tmp 2]) Z (fun _ _ h=>h) nq (fun _ H _ _ v hv=>hv)
def E2:∀ (n:Nat),∀ b∈j7 n,b<=255:=fun n=>by
 induction n using Nat.strongRecOn with
 | ind n ih=>
  intro b hb;by_cases h:n<128
  ·rw[ct h,my] at hb;omega
  ·rw[Bp h] at hb;rcases nz.1 hb with rfl | hb
   ·omega
   ·exact ih (n/128) J b hb
def ze7{t:U}(h:∀ s∈u6 t,s.size<=1000):(Aw t).length<=6060:=co h
end Go.V.L11
namespace Go.V.L11
abbrev sNl:ByteArray:=⟨#[10]⟩
def Yl:List UInt8->List UInt8->List (List UInt8)
 | acc,[]=>if acc=[] then [] else [acc]
 | acc,c::l=>if c=10 then (acc++[c])::Yl [] l else Yl (acc++[c]) l
def zct:∀ {l acc:List UInt8},10∉l->Yl acc l=if acc++l=[] then [] else [acc++l]
 | [],acc,_=>by rw[mi];rfl
 | c::l,acc,h=>by
  rw[nz,not_or] at h;show(if c=10 then _ else _)=_;rw[nc (Ne.symm h.1),zct h.2,mp];rfl
def T5:∀ {a b acc:List UInt8},10∉a->Yl acc (a++10::b)=(acc++a++[10])::Yl [] b
 | [],b,acc,_=>by rw[mi];exact na rfl
 | c::a,b,acc,h=>by
  rw[nz,not_or] at h;show(if c=10 then _ else _)=_;rw[nc (Ne.symm h.1)];refine(T5 (a:=a) (b:=b) (acc:=acc++[c]) h.2).trans ?_;simp
def c9(s:ByteArray):List ByteArray:=(Yl [] s.data.toList).map fun l=>⟨l.toArray⟩
def Lw:c9 ⟨#[]⟩=[]:=rfl
def ba_of(s:ByteArray):(⟨s.data.toList.toArray⟩:ByteArray)=s:=by cases s;simp
def zk6(h:noB s 10)(hn:s≠⟨#[]⟩):c9 s=[s]:=by
 unfold c9;rw[zct h,mo,nc (fun e=>hn (uq e)),mt,zr7,ba_of]
def zgo{a b:ByteArray}(h:noB a 10):c9 (a++sNl++b)=(a++sNl)::c9 b:=by
 unfold c9;have e:(a++sNl++b).data.toList=a.data.toList++10::b.data.toList:=by simp [jl]
 rw[e,T5 h,mt,mo];congr 1
def Pp(x:ByteArray):Option ByteArray:=if x.data.toList.getLast?=some 10 then some ⟨x.data.toList.dropLast.toArray⟩ else none
def Fp{x:ByteArray}(h:Pp x=some r):x=r++sNl:=by
 unfold Pp at h;split at h
 ·rename_i hl;cases h;apply uq;rw[jl];obtain⟨ys,hy⟩:=List.getLast?_eq_some_iff.1 hl;show x.data.toList=x.data.toList.dropLast.toArray.toList++[10];rw[hy];simp
 ·cases h
def ip{X:Type}(rd:ByteArray->X×Int):List X->Nat->List ByteArray->List X×Nat×Int
 | out,_,[]=>(out,0,0)
 | out,n,x::xs=>if 4096<n then ([],n,3) else match Pp x with
  | none=>([],n,5)
  | some r=>if (rd r).2≠0 then ([],n,(rd r).2) else ip rd (out++[(rd r).1]) (n+1) xs
def G4{X:Type}(rd:ByteArray->X×Int)(s:ByteArray):List X×Nat×Int:=if 1048576<s.size then ([],0,3) else ip rd [] 1 (c9 s)
def Cm{X:Type}(rd:ByteArray->X×Int)(n:Nat)(x:ByteArray):Bool:=decide (4096<n) || match Pp x with | none=>true | some r=>(rd r).2 != 0
def vw{X:Type}(rd:ByteArray->X×Int):Nat->List ByteArray->Bool
 | _,[]=>true
 | n,x::xs=>!Cm rd n x && vw rd (n+1) xs
def Av{X:Type}(rd:ByteArray->X×Int)(xs:List ByteArray):List X:=xs.filterMap fun x=>(Pp x).map fun r=>(rd r).1
def od{X:Type}{rd:ByteArray->X×Int}:∀ {xs ys:List ByteArray} {out:List X} {n:Nat},vw rd n xs=true->ip rd out n (xs++ys)=ip rd (out++Av rd xs) (n+xs.length) ys
 | [],ys,out,n,_=>by simp [Av]
 | x::xs,ys,out,n,h=>by
  unfold vw at h;rw[zsn] at h;obtain⟨h1,h2⟩:=h;unfold Cm at h1;simp only[zvq,Bool.or_eq_false_iff,decide_eq_false_iff_not] at h1;obtain⟨h3,h4⟩:=h1
  have e:ip rd out n (x::xs++ys)=if 4096<n then ([],n,3) else match Pp x with
   | none=>([],n,5)
   | some r=>if (rd r).2≠0 then ([],n,(rd r).2) else ip rd (out++[(rd r).1]) (n+1) (xs++ys):=rfl
  rw[e,nc h3]
  cases hx:Pp x with
  | none=>rw[hx] at h4;cases h4
  | some r=>
   rw[hx] at h4;have h5:¬ (rd r).2≠0:=by simpa using h4
   dsimp only;rw[nc h5,od h2]
   have e2:Av rd (x::xs)=(rd r).1::Av rd xs:=by
    unfold Av;rw[List.filterMap_cons,hx];rfl
   rw[e2,mp,ma,show n+1+xs.length=n+(xs.length+1) by omega];rfl
def u0{X:Type}{rd:ByteArray->X×Int}:∀ {ls:List ByteArray} {n:Nat},vw rd n (ls++[y])=(vw rd n ls && !Cm rd (n+ls.length) y)
 | [],n=>by simp [vw]
 | x::ls,n=>by
  show(!Cm rd n x && vw rd (n+1) (ls++[y]))=((!Cm rd n x && vw rd (n+1) ls) && _);rw[u0,ma,show n+1+ls.length=n+(ls.length+1) by omega,Bool.and_assoc]
def Cs{X:Type}(rd:ByteArray->X×Int):Nat->List ByteArray->List X
 | _,[]=>[]
 | n,x::xs=>if Cm rd n x=true then [] else Av rd [x]++Cs rd (n+1) xs
def db{X:Type}{rd:ByteArray->X×Int}{ys:List ByteArray}:∀ {ls:List ByteArray} {n:Nat},vw rd n ls=true->Cs rd n (ls++ys)=Av rd ls++Cs rd (n+ls.length) ys
 | [],n,_=>by simp [Av]
 | x::ls,n,h=>by
  unfold vw at h;rw[zsn] at h;have h1:Cm rd n x=false:=by simpa using h.1
  show(if Cm rd n x=true then [] else Av rd [x]++Cs rd (n+1) (ls++ys))=_;rw[nc (by rw[h1];decide),db h.2,ma,show n+1+ls.length=n+(ls.length+1) by omega,<-mp];congr 1;unfold Av;rw[<-List.filterMap_append];rfl
def Bj{X:Type}{rd:ByteArray->X×Int}(h:vw rd 1 ls=true):ip rd [] 1 ls=(Av rd ls,0,0):=by
 have:=od (rd:=rd) (xs:=ls) (ys:=[]) (out:=[]) h;rw[mi] at this;rw[this];rfl
def Bl{X:Type}{rd:ByteArray->X×Int}(h:vw rd 1 ls=true):Cs rd 1 ls=Av rd ls:=by
 have:=db (rd:=rd) (ys:=[]) h;rw[mi] at this;rw[this];exact mi _
def Na{X:Type}{rd:ByteArray->X×Int}(h:Pp y=some r):Av rd (ls++[y])=Av rd ls++[(rd r).1]:=by
 unfold Av;rw[List.filterMap_append];congr 1;simp [h]
def C4{X:Type}{rd:ByteArray->X×Int}:(Av rd ls).length<=ls.length:=List.length_filterMap_le ..
def Db{X:Type}{rd:ByteArray->X×Int}(h:vw rd 1 ls=true)(hn:4096<1+ls.length):ip rd [] 1 (ls++y::ys)=([],1+ls.length,3):=by
 rw[od h];exact na hn
def tw{X:Type}{rd:ByteArray->X×Int}(h:vw rd 1 ls=true)(hn:¬ 4096<1+ls.length)(he:Pp y=none):ip rd [] 1 (ls++y::ys)=([],1+ls.length,5):=by
 rw[od h];unfold ip;rw[nc hn,he]
def Dc{X:Type}{rd:ByteArray->X×Int}(h:vw rd 1 ls=true)(hn:¬ 4096<1+ls.length)(he:Pp y=some r)(hr:(rd r).2≠0):ip rd [] 1 (ls++y::ys)=([],1+ls.length,(rd r).2):=by
 rw[od h];unfold ip;rw[nc hn,he];exact na hr
def zf3{X:Type}{rd:ByteArray->X×Int}(h:vw rd 1 ls=true)(hb:Cm rd (1+ls.length) y=true):ip rd [] 1 (ls++y::ys)=ip rd [] 1 (ls++[y]):=by
 by_cases hn:4096<1+ls.length
 ·rw[Db h hn,Db h hn]
 ·cases he:Pp y with
  | none=>rw[tw h hn he,tw h hn he]
  | some r=>
   have hr:(rd r).2≠0:=by
    unfold Cm at hb;rw[he] at hb;simpa [hn] using hb
   rw[Dc h hn he hr,Dc h hn he hr]
def E8:∀ {l acc x:List UInt8},x∈Yl acc l->x.length<=acc.length+l.length
 | [],acc,x,h=>by
  have h':x∈if acc=[] then ([]:List (List UInt8)) else [acc]:=h
  split at h'
  ·cases h'
  ·rw[my] at h';subst h';simp
 | c::l,acc,x,h=>by
  have h':x∈if c=10 then (acc++[c])::Yl [] l else Yl (acc++[c]) l:=h
  rw[ma];split at h'
  ·rcases nz.1 h' with rfl | h2
   ·simp
   ·have:=E8 h2;simp at this;omega
  ·have:=E8 h';simp at this;omega
def O8(h:y∈c9 s):y.size<=s.size:=by
 unfold c9 at h;obtain⟨l,hl,rfl⟩:=m6.1 h;have:=E8 hl;rw[j8] at this;show l.toArray.size<=_;simpa using this
def La{X:Type}{rd:ByteArray->X×Int}:∀ {xs:List ByteArray} {n:Nat} {out:List X},vw rd n xs=false->(ip rd out n xs).1=[]
 | [],_,_,h=>by cases h
 | x::xs,n,out,h=>by
  unfold vw at h;unfold ip;by_cases hn:4096<n
  ·rw[na hn]
  ·rw[nc hn]
   cases he:Pp x with
   | none=>rfl
   | some r=>
    dsimp only;by_cases hr:(rd r).2≠0
    ·rw[na hr]
    ·rw[nc hr]
     have hb:Cm rd n x=false:=by
      unfold Cm;rw[he];simp at hr;simp [hn,hr]
     rw[hb] at h;exact La (by simpa using h)
end Go.V.L11
namespace Go.V
def zo3(P:Program)(f:FuncId)(caps:List Value)(gr:GR)(w:World)(B:Heap)(xs:vn):Prop:=
 ∀ (l:Nat) (zv8:vn->GR) (stop:vn->Bool) (C Cg:Nat->Prop),stop []=false->F0 P l zv8 stop xs->(zv8 []).P B w C->(ZCB C w B)->gr.P B w Cg->(ZCB Cg w B)->(∀ k,C k->¬ Cg k)->
  RetL P f (.func (.yield l) #[] #[]::caps) w B (fun k=>C k\/Cg k) fun _ H u=>∃ C',(zv8 (wa stop [] xs)).P H u C'/\∀ k,C' k->((C k\/Cg k)\/w.heap.size<=k)/\k<u.heap.size/\H k=none
section
variable {P:Program} {F:Fr}     {κ:Kap} {d:Nat} {ty:TypeId} {pos:String} {aft:Array Edge} {g:Option (Nat×Bool)} {a:Act} {u:World} {H:Heap} {fp:Nat->Nat->Prop} {os:List Oper}  {ex:Exs}
def JcX(Cg:Nat->Prop)(F:Fr)(B:Heap)(n:Nat)(a0:Act)(H0:Heap)(N1:Nat)(O':vn->Boxes)(zwd:vn->Kap)(pre:vn):GR where
 P Hit u C:=∃ Hc fp,HasH F B (O' pre) n (zwd pre) a0 u Hc fp/\H0.Le Hc/\H0.Le Hit/\(∀ y∈O' pre,y.1<N1)/\N1<=u.heap.size/\F.w0.heap.size<=N1/\
  (∀ k,Cg k->k<N1/\(F.w0.heap.size<=k\/F.L k)/\Hc k=none)/\(∀ y∈O' pre,¬ Cg y.1)/\(∀ t r k,zwd pre t=some (.own r)->fp t k->¬ Cg k)/\
  (∀ k,C k↔(k<N1/\H0 k=none/\¬ Cg k)\/(N1<=k/\((Hc k).isSome=true\/∃ t r,zwd pre t=some (.own r)/\fp t k)))
 st:=by
  rintro Hit u C Hit' u' ⟨Hc,fp,hh,h1,h2,h3,h4,h5,hx1,hx2,hx3,hC⟩ hle hsub hon hk
  have hCt:∀ t r k,zwd pre t=some (.own r)->fp t k->C k:=fun t r k ht hf=>by
   rw[hC];rcases m5 k N1 with hlt | hge
   ·refine .inl ⟨hlt,?_,hx3 t r k ht hf⟩;have:=((hh.slot t _ ht).2 k hf).2.1
    cases hx:H0 k with
    | none=>rfl
    | some o=>rw[h1 k o hx] at this;cases this
   ·exact .inr ⟨hge,.inr ⟨t,r,ht,hf⟩⟩
  have hCb:∀ y∈O' pre,C y.1:=fun y hy=>by
   rw[hC];refine .inl ⟨h3 y hy,?_,hx2 y hy⟩;have:=(hh.boxes y hy).2.1
   cases hx:H0 y.1 with
   | none=>rfl
   | some o=>rw[h1 _ o hx] at this;cases this
  have hold:∀ k o,H0 k=some o->u'.heap[k]?=u.heap[k]?:=fun k o ho=>
   ((hsub k o (hle k o (h2 k o ho))):u'.heap[k]?=some o).trans ((hh.sub k o (h1 k o ho)):u.heap[k]?=some o).symm
  have hsub':Hc.Le (hp u'):=fun k o ho=>by
   show u'.heap[k]?=some o
   cases hx:H0 k with
   | some o'=>rw[hold k o' hx];exact hh.sub k o ho
   | none=>
    rw[hk k ((hC k).2 ?_)]
    ·exact hh.sub k o ho
    ·rcases m5 k N1 with hlt | hge
     ·exact .inl ⟨hlt,hx,fun hg=>by rw[(hx1 k hg).2.2] at ho;cases ho⟩
     ·exact .inr ⟨hge,.inl (by rw[ho];rfl)⟩
  refine⟨Hc,fp,⟨hh.size,hh.defers,hh.nodup,hh.marks,hh.lent,?_,hsub',hh.base,hh.fresh,fun y hy=>?_,hh.apart,fun t k ht=>?_,hh.owns,hh.mono⟩,h1,h2.trans hle,h3,mq h4 hon.size,h5,hx1,hx2,hx3,hC⟩
  ·refine⟨hon.os.trans hh.keep.os,hon.tape.trans hh.keep.tape,hon.output.trans hh.keep.output,mq hh.keep.size hon.size,fun k hk' hl=>?_,mq hh.keep.dr hon.dr⟩;refine Eq.trans ?_ (hh.keep.block k hk' hl)
   cases hx:H0 k with
   | some o=>exact hold k o hx
   | none=>exact hk k ((hC k).2 (.inl ⟨by omega,hx,fun hg=>by
     rcases(hx1 k hg).2.1 with h | h
     ·omega
     ·exact hl h⟩))
  ·obtain⟨g1,g2,g3⟩:=hh.boxes y hy;exact⟨(hk _ (hCb y hy)).trans g1,g2,g3⟩
  ·have hs:=hh.slot t k ht
   cases k with
   | is _=>exact hs
   | sat _=>exact hs
   | own r=>exact⟨r.st hs.1 (mw _) hsub' hon fun k hf=>hk k (hCt t r k ht hf),fun k hf=>by
     obtain⟨g1,g2,g3,g4⟩:=hs.2 k hf;exact⟨zs6 g1 hon.size,g2,g3,g4⟩⟩
def P3(L:Tabs P)(gi:Nat){gr:GR}{f:Operand}{params:Array Tmp}{assign body:Code}{gf:Nat}{caps:List Value}
  (fx:List (Nat×Value)) (zwc:vn→List (Nat×Res)) (K1:vn→List Value→List (Nat×Kn)) (xs:vn) (stop:vn→Bool) (jc:vn→Code)
  (hr:F.r=none) (hf:evK κ f=some (.func (.func gf) #[] caps.toArray)) (hfn:L.fn gf=some ())
  (hgi:κ gi=some (.own gr.res)) (hGi:∀ pre,∀ p∈zwc pre,p.1≠gi) (h0:LiveOK (gK' (zwc [])++ziz fx) κ) (hG:∀ pre,∀ p∈zwc pre,n≤p.1) (hst0:stop []=false)
  (hps:∀ x∈xs,x.length=params.size) (hpn:∀ t∈params.toList,t<n)
  (hit:∀ u H,H.Le (hp u)→B.Le H→zo3 P gf caps gr u H xs)
  (hassign:∀ (w1:World) (Ln:Nat→Prop) (B':Heap) (l D:Nat) (o:Obj) (pre:vn) (x:List Value),pre++[x]<+:xs→stop pre=false→B.Le B'→
   V P ⟨w1,some l,[],Ln⟩ B' n ((l,o)::(D,.deferred (some []))::O) (zo6 (KK fx (zwc pre)) (params.toList.zip x)) assign (Exit.then (fun a u=>Has ⟨w1,some l,[],Ln⟩ B' ((l,o)::(D,.deferred (some []))::O) n (ofL (K1 pre x)) a u) (fun _ _ _=>False)))
  (hbody:∀ (w1:World) (Ln:Nat→Prop) (B':Heap) (l D:Nat) (o:Obj) (pre:vn) (x:List Value),pre++[x]<+:xs→stop pre=false→B.Le B'→
   V P ⟨w1,some l,[],Ln⟩ B' n ((l,o)::(D,.deferred (some []))::O) (ofL (K1 pre x)) body (zh6 ⟨w1,some l,[],Ln⟩ B' n ((l,o)::(D,.deferred (some []))::O) zwc stop jc (pre++[x])))
  (hdone:∀ (l D:Nat) (o:Obj),stop (wa stop [] xs)=false→N ⟨F.w0,F.r,.m D::F.ds,F.L⟩ B n ((l,o)::(D,.deferred (some []))::O) (KK fx (zwc (wa stop [] xs))) Q)
  (hstop:∀ (l D:Nat) (o:Obj),stop (wa stop [] xs)=true→V P ⟨F.w0,F.r,.m D::F.ds,F.L⟩ B n ((l,o)::(D,.deferred (some []))::O) (KK fx (zwc (wa stop [] xs))) (jc (wa stop [] xs)) Q):
  V P F B n O κ (.rangeFunc f params assign body) Q:=by
 obtain⟨w0,r,ds,Lf⟩:=F;dsimp only at hr;subst hr;rintro a u ⟨H,fp,hh⟩
 have e := hh.env (ops := #[]) (o := ⟨none, .move f, 0, "", #[], none⟩) (κ := κ) (fun _ _ => rfl)
 have hfe:a.eval f=.func (.func gf) #[] caps.toArray:=e.is_ f _ (by simp [Op.operands]) hf;refine wpIn_rangeFunc fun fn _=>?_
 --the record
 have hD0:(.loop { state:=.ready,pending:=none,fn,tmps:=a.tmps,params,assign,body,defers:=u.heap.size }:Obj)=.loop { state:=.ready,pending:=none,fn,tmps:=a.tmps,params,assign,body,defers:=u.heap.size }:=rfl;generalize hrec:({ state:=.ready,pending:=none,fn,tmps:=a.tmps,params,assign,body,defers:=u.heap.size }:Loop)=rec0 at hD0;have hh1:=(hh.newBox (.deferred (some []))).newBox (.loop rec0);rw[World.size_alloc] at hh1;generalize hw1:(u.alloc (.deferred (some []))).alloc (.loop rec0)=w1 at hh1;have hN1:w1.heap.size=u.heap.size+2:=by subst hw1;simp
 let recS:vn→Loop:=fun pre=>if stop pre=true then { rec0 with state:=.done,pending:=some (jc pre) } else rec0
 let O':vn→Boxes:=fun pre=>(u.heap.size+1,.loop (recS pre))::(u.heap.size,.deferred (some []))::O
 let F1:Fr:=⟨w0,none,[],Lf⟩
 let a0:Act:={ tmps:=a.tmps,defers:=[] }
 have hCg:=fun k (hk:fp gi k)=>((hh1.slot gi _ hgi).2 k hk)
 have hCg0:=fun k (hk:fp gi k)=>((hh.slot gi _ hgi).2 k hk)
 have hCg1:∀ k,fp gi k→k<w1.heap.size:=fun k hk=>(hCg k hk).1
 let zv8:vn→GR:=JcX (fp gi) F1 B n a0 H w1.heap.size O' fun pre=>KK fx (zwc pre)
 have hrec0:rec0.state=.ready∧rec0.pending=none∧rec0.fn=fn∧rec0.tmps=a.tmps∧rec0.params=params∧rec0.assign=assign∧rec0.body=body:=by subst hrec;exact⟨rfl,rfl,rfl,rfl,rfl,rfl,rfl⟩
 have hO'mem:∀ pre pre' y,y∈O' pre'→∃ y'∈O' pre,y'.1=y.1:=fun pre pre' y hy=>by
  rcases nz.1 hy with rfl | hy
  ·exact⟨_,mc ..,rfl⟩
  ·exact⟨y,mf _ hy,rfl⟩
 have hfix:∀ t k,ofL (ziz fx) t=some k→∀ v,k=.is v→a0.eval (.tmp t)=v:=fun t k ht v hv=>by
  subst hv;exact hh.slot t _ ((LiveOK.right h0).get ht)
 have hrecS0:recS []=rec0:=nc (by rw[hst0];simp)
 --at the start
 have hstart:HasH F1 B (O' []) n (KK fx (zwc [])) a0 w1 H fp:=by
  have h2:=hh1.sub_kap (κ2:=KK fx (zwc [])) fun t k hk=>h0.get hk;have:O' []=(u.heap.size+1,.loop rec0)::(u.heap.size,.deferred (some []))::O:=by show(_,Obj.loop (recS []))::_=_;rw[hrecS0]
  rw[this];exact⟨h2.size,rfl,zth,(fun _ h=>by cases h),h2.lent,h2.keep,h2.sub,h2.base,h2.fresh,h2.boxes,h2.apart,h2.slot,h2.owns,h2.mono⟩
 have hOg0:∀ pre,∀ y∈O' pre,¬ fp gi y.1:=fun pre y hy hg=>by
  rcases nz.1 hy with rfl | hy
  ·have:=(hCg0 _ hg).1;dsimp only at this;omega
  ·rcases nz.1 hy with rfl | hy
   ·have:=(hCg0 _ hg).1;dsimp only at this;omega
   ·exact(hCg0 _ hg).2.2.2 y hy Z
 have hyg:=hOg0 []
 have hKgi:∀ pre,ofL (gK' (zwc pre)) gi=none:=fun pre=>by
  have:∀ l:List (Nat×Res),(∀ p∈l,p.1≠gi)→ofL (gK' l) gi=none:=fun l=>by
   induction l with
   | nil=>exact fun _=>rfl
   | cons p l ih=>
    intro h;show upd (ofL (gK' l)) p.1 (.own p.2) gi=none;rw[xk _ _ (Ne.symm (h p (mc ..)))];exact ih fun q hq=>h q (mf _ hq)
  exact this _ (hGi pre)
 have hKne:∀ pre t r,KK fx (zwc pre) t=some (.own r)→t≠gi:=fun pre t r ht he=>by
  subst he;have:=Co (hG pre) ht;rw[hKgi pre] at this;cases this
 have hog:∀ t r k,KK fx (zwc []) t=some (.own r)→fp t k→¬ fp gi k:=fun t r k ht hf hg=>
  hh.owns t gi r gr.res (hKne [] t r ht) (h0.get ht) hgi k hf hg
 let C0:Nat→Prop:=fun k=>(k<w1.heap.size∧H k=none∧¬ fp gi k)∨(w1.heap.size≤k∧((H k).isSome=true∨∃ t r,KK fx (zwc []) t=some (.own r)∧fp t k))
 have hJ0:(zv8 []).P H w1 C0:=⟨H,fp,hstart,mw _,mw _,fun y hy=>xl (hstart.boxes y hy).1,nu _,hstart.keep.size,fun k hk=>⟨hCg1 k hk,(hCg k hk).2.2.1,(hCg k hk).2.1⟩,fun y hy hg=>hyg y hy hg,hog,fun _=>Iff.rfl⟩
 have hC0:∀ k,C0 k→k<w1.heap.size∧H k=none:=fun k hk=>by
  rcases hk with h | ⟨h1,h | ⟨t,r,ht,hf⟩⟩
  ·exact⟨h.1,h.2.1⟩
  ·rw[jm hstart.sub h1] at h;cases h
  ·have:=((hstart.slot t _ ht).2 k hf).1;omega
 --the rounds
 have hY:F0 P (u.heap.size+1) zv8 stop xs:=by
  rintro pre x hpre hstp v Hit C hsubv ⟨Hc,fpc,hc,c1,c2,c3,c4,c5,x1,x2,x3,c6⟩ hCv;have hrp:recS pre=rec0:=nc (by rw[hstp];simp);have hOp:O' pre=(u.heap.size+1,.loop rec0)::(u.heap.size,.deferred (some []))::O:=by show(_,Obj.loop (recS pre))::_=_;rw[hrp]
  rw[hOp] at hc;have hl:v.heap[u.heap.size+1]?=some (.loop rec0):=(hc.boxes _ (mc ..)).1;have hxl:x.length=params.size:=hps x (hpre.subset (by simp));have hyr:=run_yield (P:=P) (args:=x.toArray) hl (by rw[hrec0.2.2.2.2.1];simpa using hxl);rw[hrec0.2.2.1,hrec0.2.2.2.1,hrec0.2.2.2.2.1,hrec0.2.2.2.2.2.1,hrec0.2.2.2.2.2.2] at hyr;refine⟨fn,_,assign,body,hyr,roundIn_of_wpIn trivial ?_⟩
  --the round's frame
  let Cr:Nat→Prop:=fun k=>(∃ y∈O' pre,y.1=k)∨∃ t r,KK fx (zwc pre) t=some (.own r)∧fpc t k
  have hCrC:∀ k,Cr k→C k∧k<v.heap.size∧(w0.heap.size≤k∨Lf k):=fun k hk=>by
   rcases hk with ⟨y,hy,rfl⟩ | ⟨t,r,ht,hf⟩
   ·rw[hOp] at hy;obtain⟨g1,g2,g3⟩:=hc.boxes y hy;refine⟨(c6 _).2 (.inl ⟨c3 y (by rw[hOp];exact hy),?_,x2 y (by rw[hOp];exact hy)⟩),xl g1,g3⟩
    cases hx:H y.1 with
    | none=>rfl
    | some o=>rw[c1 _ o hx] at g2;cases g2
   ·obtain⟨g1,g2,g3,g4⟩:=(hc.slot t _ ht).2 k hf;refine⟨(c6 k).2 ?_,g1,g3⟩;rcases m5 k w1.heap.size with hlt | hge
    ·refine .inl ⟨hlt,?_,x3 t r k ht hf⟩
     cases hx:H k with
     | none=>rfl
     | some o=>rw[c1 _ o hx] at g2;cases g2
    ·exact .inr ⟨hge,.inr ⟨t,r,ht,hf⟩⟩
  have hCrg:∀ k,Cr k→¬ fp gi k:=fun k hk=>by
   rcases hk with ⟨y,hy,rfl⟩ | ⟨t,r,ht,hf⟩
   ·exact x2 y hy
   ·exact x3 t r k ht hf
  let Fr':Fr:=⟨v,some (u.heap.size+1),[],Cr⟩
  have hr0:HasH Fr' Hc ((u.heap.size+1,.loop rec0)::(u.heap.size,.deferred (some []))::O) n (KK fx (zwc pre)) a0 v Hc fpc:=
   ⟨hc.size,rfl,zth,(fun _ h=>by cases h),fun k hk=>(hCrC k hk).2.1,Keep.refl _ _,hc.sub,mw _,fun _ _ _=>rfl,fun y hy=>⟨(hc.boxes y hy).1,(hc.boxes y hy).2.1,.inr (.inl ⟨y,by rw[hOp];exact hy,rfl⟩)⟩,hc.apart,fun t k hk=>by
    have hs:=hc.slot t k hk
    cases k with
    | is _=>exact hs
    | sat _=>exact hs
    | own r=>exact⟨hs.1,fun k hf=>by
      obtain⟨g1,g2,g3,g4⟩:=hs.2 k hf;exact⟨g1,g2,.inr (.inr ⟨t,r,hk,hf⟩),g4⟩⟩,hc.owns,hc.mono⟩
  have hBc:B.Le Hc:=hc.base;have hr1:=hr0.putP (params.toList.zip x) (fun p hp=>hpn p.1 (List.of_mem_zip hp).1)
  have hfold:(params.zip x.toArray).foldl (fun tmps (t,a)=>tmps.setIfInBounds t a) a.tmps=(params.toList.zip x).foldl (fun t p=>t.setIfInBounds p.1 p.2) a.tmps:=by
   rw[←zus,Array.toList_zip]
  rw[hfold]
  --how a round ends
  have fin:∀ (e:Option Code) (a1:Act) (u1:World),(match e with | none=>stop (pre++[x])=false | some c=>stop (pre++[x])=true∧jc (pre++[x])=c)→
    Has Fr' Hc ((u.heap.size+1,.loop { rec0 with state:=.busy })::(u.heap.size,.deferred (some []))::O) n (ofL (gK' (zwc (pre++[x])))) a1 u1→
    ∃ z w',(Instr.endRound (u.heap.size+1) e).run P u1=.ok z w'∧Ending.returned z=.returned (.bool (!stop (pre++[x])))∧∃ C',(zv8 (pre++[x])).P Hit w' C'∧Keep C v w'∧∀ k,C' k→(C k∨v.heap.size≤k)∧k<w'.heap.size:=by
   rintro e a1 u1 he ⟨Hd,fpd,hd⟩;have hl1:=(hd.boxes _ (mc ..)).1;have hrun:=run_endRound (P:=P) e hl1
   have hrecE:({ ({ rec0 with state:=.busy }:Loop) with state:=if e.isNone then .ready else .done,pending:=e }:Loop)=recS (pre++[x]):=by
    cases e with
    | none=>
     have:recS (pre++[x])=rec0:=nc (by rw[he];simp);rw[this];obtain⟨g1,g2,_⟩:=hrec0;cases hq:rec0;rw[hq] at g1 g2;dsimp only at g1 g2 ⊢;rw[g1,g2];rfl
    | some c=>
     have:recS (pre++[x])={ rec0 with state:=.done,pending:=some (jc (pre++[x])) }:=na he.1;rw[this,he.2];rfl
   rw[hrecE] at hrun
   have hv:(e.isNone)=!stop (pre++[x]):=by
    cases e with
    | none=>rw[he];rfl
    | some c=>rw[he.1];rfl
   refine⟨_,_,hrun,by rw[hv],?_⟩;have hd2:=hd.boxSet (O1:=[]) (ds:=[]) (a':=a1) (Chg.putObj (o:=.loop (recS (pre++[x]))) (xl hl1)) (List.Sublist.refl _) (by simp) rfl hd.defers;generalize u1.putObj (u.heap.size+1) (.loop (recS (pre++[x])))=u2 at hd2 ⊢;have hd2':HasH Fr' Hc (O' (pre++[x])) n (ofL (gK' (zwc (pre++[x])))) a1 u2 Hd fpd:=hd2
   have hOg:∀ y∈O' (pre++[x]),(w0.heap.size≤y.1∨Lf y.1)∧y.1<w1.heap.size:=fun y hy=>by
    obtain⟨y',hy',hyy⟩:=hO'mem pre _ y hy;rw[←hyy];exact⟨(hc.boxes y' (by rw[←hOp];exact hy')).2.2,c3 y' hy'⟩
   have hfull:HasH F1 B (O' (pre++[x])) n (KK fx (zwc (pre++[x]))) a0 u2 Hd fpd:=by
    refine⟨hh.size,rfl,zth,(fun _ h=>by cases h),hc.lent,hc.keep.trans hd2'.keep fun i hi hci=>?_,hd2'.sub,hBc.trans hd2'.base,fun k hk hlk=>?_,fun y hy=>⟨(hd2'.boxes y hy).1,(hd2'.boxes y hy).2.1,(hOg y hy).1⟩,hd2'.apart,fun t k hk=>?_,fun s t r r' hst h1 h2=>?_,fun t k hk=>?_⟩
    ·rcases(hCrC i hci).2.2 with h | h
     ·exact ni hi (by show ¬ (i<w0.heap.size);omega)
     ·exact h
    ·refine(hd2'.fresh k (zs6 hk hc.keep.size) fun hcr=>?_).trans (hc.fresh k hk hlk);rcases(hCrC k hcr).2.2 with h | h
     ·exact ni hk (by show ¬ (k<w0.heap.size);omega)
     ·exact hlk h
    ·rcases Ds (hG _) hk with ⟨hnt,hgk,r,rfl⟩ | ⟨hfk,_,z,rfl⟩
     ·have hs:=hd2'.slot t _ hgk;have e1:a0.eval (.tmp t)=a1.eval (.tmp t):=(Mm (a:=a0) (n:=n) hh.size hnt).trans (Mm hd2'.size hnt).symm;rw[e1];refine⟨hs.1,fun k hf=>?_⟩;obtain⟨g1,g2,g3,g4⟩:=hs.2 k hf;refine⟨g1,g2,?_,g4⟩;rcases g3 with g3 | g3
      ·exact .inl (mq hc.keep.size g3)
      ·exact(hCrC k g3).2.2
     ·exact hfix t _ hfk z Z
    ·exact hd2'.owns s t r r' hst (Co (hG _) h1) (Co (hG _) h2)
    ·rcases Ds (hG _) hk with ⟨_,_,r,rfl⟩ | ⟨_,_,z,rfl⟩<;>trivial
   have hHd:Hc.Le Hd:=hd2'.base
   refine⟨fun k=>(k<w1.heap.size∧H k=none∧¬ fp gi k)∨(w1.heap.size≤k∧((Hd k).isSome=true∨∃ t r,KK fx (zwc (pre++[x])) t=some (.own r)∧fpd t k)),
    ⟨Hd,fpd,hfull,c1.trans hHd,c2,fun y hy=>(hOg y hy).2,mq c4 hd2'.keep.size,c5,fun k hk=>⟨(x1 k hk).1,(x1 k hk).2.1,(hd2'.fresh k (zs6 (x1 k hk).1 c4) fun hcr=>hCrg k hcr hk).trans (x1 k hk).2.2⟩,hOg0 _,fun t r k ht hf hg=>by
     rcases((hd2'.slot t _ (Co (hG _) ht)).2 k hf).2.2.1 with g | g
     ·have h7:=hCg1 k hg;have h8:v.heap.size≤k:=g;omega
     ·exact hCrg k g hg,fun _=>Iff.rfl⟩,hd2'.keep.weak fun k _ hk=>(hCrC k hk).1,fun k hk=>?_⟩
   rcases hk with ⟨h1,h2,h2g⟩ | ⟨h1,h2 | ⟨t,r,ht,hf⟩⟩
   ·exact⟨.inl ((c6 k).2 (.inl ⟨h1,h2,h2g⟩)),zs6 h1 (mq c4 hd2'.keep.size)⟩
   ·obtain⟨o,ho⟩:=zso.1 h2;refine⟨?_,hd2'.sub.size ho⟩;rcases m5 k v.heap.size with hlt | hge
    ·by_cases hcr:Cr k
     ·exact .inl (hCrC k hcr).1
     ·refine .inl ((c6 k).2 (.inr ⟨h1,.inl ?_⟩));rw[←hd2'.fresh k hlt hcr,ho];rfl
    ·exact .inr hge
   ·have hs:=(hd2'.slot t _ (Co (hG _) ht)).2 k hf;refine⟨?_,hs.1⟩;rcases hs.2.2.1 with g | g
    ·exact .inr g
    ·exact .inl (hCrC k g).1
  refine Go.wpIn_mono (hassign v Cr Hc (u.heap.size+1) u.heap.size (.loop rec0) pre x hpre hstp hBc _ v ⟨Hc,fpc,hr1⟩) fun e1 a1 u1 he1=>?_
  cases e1 with
  | normal=>
   obtain⟨Ha,fpa,ha⟩:=he1;have hl1:=(ha.boxes _ (mc ..)).1;refine⟨_,run_beginRound (P:=P) hl1 hrec0.1,?_⟩;have ha2:=ha.boxSet (O1:=[]) (ds:=[]) (a':=a1) (Chg.putObj (o:=.loop { rec0 with state:=.busy }) (xl hl1)) (List.Sublist.refl _) (by simp) rfl ha.defers;refine Go.wpIn_mono (hbody v Cr Hc (u.heap.size+1) u.heap.size (.loop { rec0 with state:=.busy }) pre x hpre hstp hBc a1 _ ⟨Ha,fpa,ha2⟩) fun e2 a2 u2 he2=>?_
   cases e2 with
   | normal=>exact fin none a2 u2 he2.1 he2.2
   | ret=>exact fin (some .ret) a2 u2 ⟨he2.1,he2.2.1⟩ he2.2.2
   | exit id=>exact fin (some (.exit id)) a2 u2 ⟨he2.1,he2.2.1⟩ he2.2.2
   | goto l=>exact he2.elim
   | panic c=>exact he2.elim
   | outgrown=>exact he2.elim
  | exit id=>exact he1.elim
  | goto l=>exact he1.elim
  | ret=>exact he1.elim
  | panic c=>exact he1.elim
  | outgrown=>exact he1.elim
 --the call
 have hB1:B.Le H:=hh.base
 have hcall:=hit w1 H hstart.sub hB1 (u.heap.size+1) zv8 stop C0 (fp gi) hst0 hY hJ0 hC0 (hh1.slot gi _ hgi).1 (fun k hk=>⟨hCg1 k hk,(hCg k hk).2.1⟩) (fun k hk hg=>by
  rcases hk with h | ⟨h1,_⟩
  ·exact h.2.2 hg
  ·have:=hCg1 k hg;omega)
 have hel:=run_enterLoop_outer (P:=P) (w:=u) fn a.tmps params assign body;rw[hrec,hw1] at hel;refine⟨u.heap.size+1,[ziv (.m u.heap.size)],w1,⟨.fn (.func gf) caps.toArray,#[]++#[.func (.yield (u.heap.size+1)) #[] #[]]⟩,w1,gf,(.func (.yield (u.heap.size+1)) #[] #[]::caps).toArray,w1,hel,?_,fun _ _=>trivial,?_,fun h=>(by cases h),?_⟩
 ·have hcv:a.eval (.const (.func (.yield (u.heap.size+1)) #[] #[]))=.func (.yield (u.heap.size+1)) #[] #[]:=rfl;simp [resolve,rangeCall,hfe,Deferred.ofValue,hcv]
 ·simp only[invoke];rw[da L hfn];simp
 ·refine FW.call none _ (Calls.mono hcall fun e3 u3 hp=>?_);obtain⟨z,rfl,H3,g3,C3,⟨Hc,fpc,hc,c1,c2,c3,c4,c5,x1,x2,x3,c6⟩,_⟩:=hp;generalize htk:wa stop [] xs=tk at hc c3 hdone hstop c6;have hl3:u3.heap[u.heap.size+1]?=some (.loop (recS tk)):=(hc.boxes _ (mc ..)).1
  have hnb:(recS tk).state≠.busy:=by
   show(if stop tk=true then ({ rec0 with state:=.done,pending:=some (jc tk) }:Loop) else rec0).state≠.busy;split
   ·simp
   ·rw[hrec0.1];simp
  have hpend:(recS tk).pending=if stop tk=true then some (jc tk) else none:=by
   show(if stop tk=true then ({ rec0 with state:=.done,pending:=some (jc tk) }:Loop) else rec0).pending=_;split
   ·rfl
   ·exact hrec0.2.1
  refine⟨_,_,run_endLoop hl3 hnb,?_⟩;have hc2:=hc.boxSet (O1:=[]) (ds:=[]) (a':=a0) (Chg.putObj (o:=.loop { recS tk with state:=.exhausted }) (xl hl3)) (List.Sublist.refl _) (by simp) rfl rfl
  have hDn:DM.m u.heap.size∉ds:=fun hm=>by
   have:=xl (hh.boxes _ (hh.marks _ hm)).1;exact ni this (Nat.lt_irrefl _)
  have hfin:HasH ⟨w0,none,.m u.heap.size::ds,Lf⟩ B ((u.heap.size+1,.loop { recS tk with state:=.exhausted })::(u.heap.size,.deferred (some []))::O) n (KK fx (zwc tk)) { a with defers:=[ziv (.m u.heap.size)]++a.defers } (u3.putObj (u.heap.size+1) (.loop { recS tk with state:=.exhausted })) Hc fpc:=
   ⟨hc2.size,by have:=hh.defers;dsimp only at this ⊢;rw[this];rfl,List.nodup_cons.2 ⟨hDn,hh.nodup⟩,fun D hD=>by
    rcases nz.1 hD with e | hD
    ·cases e;exact mf _ (mc ..)
    ·exact mf _ (mf _ (hh.marks D hD)),hc2.lent,hc2.keep,hc2.sub,hc2.base,hc2.fresh,hc2.boxes,hc2.apart,hc2.slot,hc2.owns,hc2.mono⟩
  generalize (Obj.loop { recS tk with state:=.exhausted })=rx at hfin ⊢;rw[hpend]
  cases hs:stop tk with
  | false=>
   simp only[ztj,if_false];exact hdone _ _ _ hs _ _ ⟨Hc,fpc,hfin⟩
  | true=>
   simp only[if_true];exact hstop _ _ _ hs _ _ ⟨Hc,fpc,hfin⟩
end
end Go.V
section
open Go.V
attribute [local irreducible] Has N Par Ret RetL RetO RetT RetX RetY Src StepOK V VO X jh
namespace Go.V.L11
open Go.V.L2 Go.V.L4
def _root_.ZdM(t:Wr Y->A:=by intro h;refine ye (qk L (q:=78) Z Z Z Z) ?_;exact h.1)(h:Y):A:=t ⟨h⟩
def _root_.Zfx(t:Wr Y->A:=by intro h;refine qy (qk L (q:=78) Z Z Z Z) Z Z ?_;exact h.1)(h:Y):A:=t ⟨h⟩
abbrev Nf:Nat:=9
abbrev u9(l:List ByteArray):vn:=l.map fun x=>[Value.string x]
def zoa{c:UInt8}:∀ {l:List UInt8},c∉l->Lib.indexByte l c= -1
 | [],_=>rfl
 | x::l,h=>by
  rw[nz,not_or] at h;unfold Lib.indexByte;rw[nc (by simpa using Ne.symm h.1),zoa h.2];rfl
def ziy{c:UInt8}{q:List UInt8}:∀ {p:List UInt8},c∉p->Lib.indexByte (p++c::q) c=(p.length:Int)
 | [],_=>by
  show Lib.indexByte (c::q) c=0;unfold Lib.indexByte;rw[na (by simp)]
 | x::p,h=>by
  rw[nz,not_or] at h;show Lib.indexByte (x::(p++c::q)) c=_;unfold Lib.indexByte;rw[nc (by simpa using Ne.symm h.1),ziy h.2,nc (by simp)];rfl
def Ac{k:Int}(hk:Lib.indexByte s.data.toList 10=k)(hB:zwe B w):
  Ret zwf 258 [.string s,.int .u8 10] w B (fun v _=>v=.int .i64 k):=by
 subst hk;exact Ret.of_same hB (Tryz.strings_IndexByte s 10 w)
def Um{f:Bool}(hs:s.size<=9223372036854775807)(h:Lib.hasSuffix s.data.toList [10]=f)(hr:(⟨(Lib.trimSuffix s.data.toList [10]).toArray⟩:ByteArray)=r)(hB:zwe B w):
  Ret zwf 130 [.string s,.string ⟨#[10]⟩] w B (fun v _=>v=.tuple #[.string r,.bool f]):=by
 subst h hr;exact Ret.of_same hB (Tryz.strings_CutSuffix s ⟨#[10]⟩ w hs)
def Gp{x:List Value}{xs:vn}(h:stop (pre++[x])=false):wa stop pre (x::xs)=wa stop (pre++[x]) xs:=by
 simp only[wa];rw[nc (by rw[h];decide)]
def Nm{x:List Value}{xs:vn}(h:stop (pre++[x])=true):wa stop pre (x::xs)=pre++[x]:=by
 simp only[wa];rw[na h]
def zfr(h:r≠⟨#[]⟩):0<r.size:=by
 rcases Nat.eq_zero_or_pos r.size with h0 | h0
 ·exfalso;apply h;apply uq;have:=j8 r;rw[h0] at this;exact zrv this
 ·exact h0
def zfq(hs:s.size<=1099511627776)(hB:zwe B w):zo3 zwf 257 [k8 b] (xd b [.string s] Nf) w B (u9 (c9 s)):=by
 intro ly zv8 stop C Cg hst hY hJ hC hg hCg hd;refine yz 77 (gz (zv8 []) (xd b [.string s] Nf)) Tryz.func257 Z Tryz.ntmps257 (np Z) hB ⟨C,Cg,hJ,hg,fun _=>Iff.rfl,hd⟩ (fun k hk=>hk.elim (hC k) (hCg k)) ?_;rw[w9];refine ug 77 78 rfl (fun _ _ _ _ _ h=>h) ?_;rw[xe];refine Za7 (h:=?_)
 refine xu (fun x:List ByteArray×ByteArray=>[(0,.is (.func (.yield ly) #[] #[])),(1,.is (k8 b)),(77,.own (zv8 (u9 x.1)).res),(78,.own (xr b [.string x.2] Nf))])
  (fun x=>u9 x.1++u9 (c9 x.2)=u9 (c9 s)/\wa stop [] (u9 (c9 s))=wa stop (u9 x.1) (u9 (c9 x.2))/\stop (u9 x.1)=false/\x.2.size<=s.size) (fun x=>x.2.size) ([],s) ⟨rfl,rfl,hst,nu _⟩ ⟨rfl,rfl,rfl,rfl,nm⟩ ?_
 rintro⟨pre,r⟩ ⟨h1,h2,h3,h4⟩;dsimp only at h1 h2 h3 h4 |-;by_cases hr:r=⟨#[]⟩
 ·subst hr;have h0:(⟨#[]⟩:ByteArray).size=0:=rfl;rw[Lw] at h2;refine(Zd∘Zd7∘ZdM∘ZP∘ZG∘Zao∘ZaZ) ?_;refine ki (r:=zv8 (u9 pre)) (r':=zv8 (wa stop [] (u9 (c9 s)))) L 77 rfl (fun _ _ h=>h) nq Z (by rw[h2];rfl)
 ·have hp0:=zfr hr;rcases Ba r 10 with hn | ⟨a,c,hac,hn⟩
  ·have e1:=zk6 hn hr;rw[e1] at h1 h2;have hi:=zoa hn;have hpre:u9 pre++[[Value.string r]]<+:u9 (c9 s):=by rw[<-h1];exact List.prefix_rfl
   cases hb':stop (u9 pre++[[Value.string r]])
   ·refine(Zd∘Zd7∘ZdM∘ZP∘ZN∘Z1∘Zbe∘ZI∘Zh∘ZL∘ZdM) ?_;refine z71 L Z (fun u H hH _=>Ac hi hH) ?_;refine(Ze∘Zz∘Zav∘Zao∘ZF∘ZdM∘Zv) ?_;refine xm (yq L (q:=78) (cs':=[.string ⟨#[]⟩]) Z Z Z Z Z) ((Zk∘Z5∘Zb) ?_);refine qf (fk (gs:=77) hY hpre h3 (nh Bool.not hb') Z Z Z Z Z) ((Zo∘Zbu∘ZaC) ?_);refine yr (x:=(pre,r)) (pre++[r],⟨#[]⟩) ⟨?_,?_,?_,mb _⟩ hp0 ⟨Z,Z,?_,Z,nm⟩
    ·rw[Lw,<-h1];simp [u9]
    ·rw[h2,Lw];show wa stop (u9 pre) [[Value.string r]]=wa stop (u9 (pre++[r])) [];rw[Gp hb'];simp [u9]
    ·have:u9 (pre++[r])=u9 pre++[[Value.string r]]:=by simp [u9]
     rw[this];exact hb'
    ·have:u9 (pre++[r])=u9 pre++[[Value.string r]]:=by simp [u9]
     dsimp only;rw[this];rfl
   ·refine(Zd∘Zd7∘ZdM∘ZP∘ZN∘Z1∘Zbe∘ZI∘Zh∘ZL∘ZdM) ?_;refine z71 L Z (fun u H hH _=>Ac hi hH) ?_;refine(Ze∘Zz∘Zav∘Zao∘ZF∘ZdM∘Zv) ?_;refine xm (yq L (q:=78) (cs':=[.string ⟨#[]⟩]) Z Z Z Z Z) ((Zk∘Z5∘Zb) ?_);refine qf (fk (gs:=77) hY hpre h3 (nh Bool.not hb') Z Z Z Z Z) ((Zo∘Z1) ?_);exact j9 L 77 rfl (fun _ _ h=>h) nq Z (by rw[h2];show _=zv8 (wa stop (u9 pre) [[Value.string r]]);rw[Nm hb'])
  ·have e1:c9 r=(a++sNl)::c9 c:=by rw[hac];exact zgo hn
   have hra:r.size=a.size+1+c.size:=by rw[hac,zr2,zr2];rfl
   have hi:Lib.indexByte r.data.toList 10=(a.size:Int):=by
    rw[hac,jl,jl,mp];show Lib.indexByte (a.data.toList++10::c.data.toList) 10=_;rw[ziy hn,j8]
   have x1:r.extract 0 (a.size+1)=a++sNl:=by
    have:=ib ⟨#[]⟩ (a++sNl) c 0 (a.size+1) rfl (by rw[zr2];show _=0+(a.size+1);omega);rw[hac];rw[show(a++⟨#[10]⟩++c:ByteArray)=⟨#[]⟩++(a++sNl)++c from uq (by simp [jl])];exact this
   have x2:r.extract (a.size+1) r.size=c:=by
    have:=ib (a++sNl) c ⟨#[]⟩ (a.size+1) r.size (by rw[zr2];rfl) (by rw[zr2];exact hra);rw[show(a++sNl++c++⟨#[]⟩:ByteArray)=r from uq (by rw[hac];simp [jl])] at this;exact this
   rw[e1] at h1 h2
   have hpre:u9 pre++[[Value.string (a++sNl)]]<+:u9 (c9 s):=by
    rw[<-h1];exact⟨u9 (c9 c),by simp [u9]⟩
   cases hb':stop (u9 pre++[[Value.string (a++sNl)]])
   ·refine(Zd∘Zd7∘ZdM∘ZP∘ZN∘Z1∘Zbe∘ZI∘Zh∘ZL∘ZdM) ?_;refine z71 L Z (fun u H hH _=>Ac hi hH) ?_;refine(Ze∘Zz∘Zci) ?_;refine qp (id:=4) [(200012,[78]),(200016,[78]),(100001,[78])] kr T ((Zfx∘Zl∘ZdC) ?_);refine z9 (jn L (kl:=.i64) (pl:=0) 0 (a.size+1) Z Z Z Z Z ⟨rfl,by omega⟩ J J x1) Z ?_;refine(Zfx∘Zl∘ZdC) ?_;refine z9 (jn L (kh:=.i64) (ph:=0) (a.size+1) _ Z Z Z Z ⟨rfl,by omega⟩ Z J J x2) Z ?_;refine ZaS (h:=?_);refine xw (yq L (q:=78) (cs':=[.string c]) Z Z Z Z Z) Z ((Zbf∘Z5∘Zb) ?_);refine qf (fk (gs:=77) hY hpre h3 (nh Bool.not hb') Z Z Z Z Z) ((Zo∘Zbu∘ZaC) ?_);have e3:u9 (pre++[a++sNl])=u9 pre++[[Value.string (a++sNl)]]:=by simp [u9]
    refine yr (x:=(pre,r)) (pre++[a++sNl],c) ⟨?_,?_,?_,?_⟩ ?_ ⟨Z,Z,?_,Z,nm⟩
    ·rw[<-h1];simp [u9]
    ·rw[h2];show wa stop (u9 pre) ([Value.string (a++sNl)]::u9 (c9 c))=_;rw[Gp hb',e3]
    ·rw[e3];exact hb'
    ·dsimp only;omega
    ·dsimp only;omega
    ·dsimp only;rw[e3];rfl
   ·refine(Zd∘Zd7∘ZdM∘ZP∘ZN∘Z1∘Zbe∘ZI∘Zh∘ZL∘ZdM) ?_;refine z71 L Z (fun u H hH _=>Ac hi hH) ?_;refine(Ze∘Zz∘Zci) ?_;refine qp (id:=4) [(200012,[78]),(200016,[78]),(100001,[78])] kr T ((Zfx∘Zl∘ZdC) ?_);refine z9 (jn L (kl:=.i64) (pl:=0) 0 (a.size+1) Z Z Z Z Z ⟨rfl,by omega⟩ J J x1) Z ?_;refine(Zfx∘Zl∘ZdC) ?_;refine z9 (jn L (kh:=.i64) (ph:=0) (a.size+1) _ Z Z Z Z ⟨rfl,by omega⟩ Z J J x2) Z ?_;refine ZaS (h:=?_);refine xw (yq L (q:=78) (cs':=[.string c]) Z Z Z Z Z) Z ((Zbf∘Z5∘Zb) ?_);refine qf (fk (gs:=77) hY hpre h3 (nh Bool.not hb') Z Z Z Z Z) ((Zo∘Z1) ?_);exact j9 L 77 rfl (fun _ _ h=>h) nq Z (by rw[h2];show _=zv8 (wa stop (u9 pre) ([Value.string (a++sNl)]::u9 (c9 c)));rw[Nm hb'])
def l5:Nat->vn->vn
 | _,[]=>[]
 | n,x::xs=>(Value.int .i64 (n:Int)::x)::l5 (n+1) xs
def Dd:∀ {a b:vn} {n:Nat},l5 n (a++b)=l5 n a++l5 (n+a.length) b
 | [],b,n=>rfl
 | x::a,b,n=>by
  show _::l5 (n+1) (a++b)=_;rw[Dd,ma,show n+1+a.length=n+(a.length+1) by omega];rfl
def E1(a:vn)(x:List Value):l5 1 (a++[x])=l5 1 a++[Value.int .i64 ((a.length+1:Nat):Int)::x]:=by
 rw[Dd,zts 1];rfl
def D5(stop:vn->Bool):∀ (xs pre:vn),l5 1 (wa (fun p=>stop (l5 1 p)) pre xs)=wa stop (l5 1 pre) (l5 (1+pre.length) xs)
 | [],pre=>rfl
 | x::xs,pre=>by
  have e:l5 1 (pre++[x])=l5 1 pre++[Value.int .i64 ((1+pre.length:Nat):Int)::x]:=by rw[Dd];rfl
  show l5 1 (if stop (l5 1 (pre++[x]))=true then _ else _)=(if stop (l5 1 pre++[Value.int .i64 ((1+pre.length:Nat):Int)::x])=true then _ else _);rw[<-e];split
  ·rfl
  ·rw[D5 stop xs (pre++[x]),nr];rfl
def zdq{l:List ByteArray}{x:List Value}(h:pre++[x]<+:u9 l):∃ y,x=[Value.string y]:=by
 have:x∈u9 l:=h.subset (by simp);obtain⟨y,_,e⟩:=m6.1 this;exact⟨y,e.symm⟩
def Lv:∀ {l acc:List UInt8},(Yl acc l).length<=l.length+(if acc=[] then 0 else 1)
 | [],acc=>by
  show(if acc=[] then ([]:List (List UInt8)) else [acc]).length<=_;split<;>simp
 | c::l,acc=>by
  show(if c=10 then (acc++[c])::Yl [] l else Yl (acc++[c]) l).length<=_;split
  ·have:=Lv (l:=l) (acc:=[]);rw[na rfl] at this;simp only[ma];split<;>omega
  ·have:=Lv (l:=l) (acc:=acc++[c]);rw[nc (by simp)] at this;simp only[ma];split<;>omega
def Aa(s:ByteArray):(c9 s).length<=s.size:=by
 unfold c9;rw[mg];have:=Lv (l:=s.data.toList) (acc:=[]);rw[na rfl,j8] at this;exact this
def cnS(stop:vn->Bool)(pre:vn):Int:=if stop (l5 1 pre)=true then (pre.length:Int) else ((pre.length+1:Nat):Int)
def zdz(h:stop (l5 1 pre)=false):cnS stop pre=((pre.length+1:Nat):Int):=nc (by rw[h];decide)
def zhb(h:stop (l5 1 pre)=true):cnS stop pre=(pre.length:Int):=na h
def Vt(hB:zwe B w):
  RetO zwf 199 [.string s] w B (F5 (fun b:Nat=>.func (.func 257) #[] #[k8 b]) fun b=>xd b [.string s] Nf):=by
 refine wt Tryz.func199 Z Tryz.ntmps199 (np Z) hB ((Zby∘Ze) ?_);refine jg 1 900 rfl fun b=>?_;refine(ZI∘ZaN∘Zc) ?_;exact Se L 900 (r0:=xd b [.string s] Nf) (v:=.func (.func 257) #[] #[k8 b]) (rs:=[.tmp 2]) Z (fun _ _ h=>h) nq Z (fun _=>rfl) (fun H u C hle _ hr=>⟨b,rfl,hr⟩)
def E7(hs:s.size<=1099511627776)(hB:zwe B w)(hb:B sb=some (.cells #[.string s] Nf)):zpg zwf 198 [k8 sb] w B (l5 1 (u9 (c9 s))):=by
 intro ly zv8 stop C hst hY hJ hC;refine yz 77 (zv8 []) Tryz.func198 Z Tryz.ntmps198 (np Z) hB hJ hC ((Zby∘Zk) ?_);refine jg 2 81 rfl fun yb=>?_;refine wx 81 rfl fun H1 hs1 _ hyb=>?_;refine(ZI∘Zcw) ?_;refine jg 3 79 rfl fun nb=>?_;have hb1:=hs1.le _ _ hb;refine ZL (h:=?_);refine z7 (ql L (qt Z hb1) Z Z Z Z) Z (z7 (v6 L Z Z (zn Z) Z Z Z (fun u H hH _ _=>Vt hH)) Z (Zdq (h:=?_)));refine Aq 6 80 rfl fun b=>?_
 refine P3 L 80 (gr:=xd b [.string s] Nf) (gf:=257) (caps:=[k8 b]) [(2,k8 yb),(3,k8 nb)]
  (fun pre=>[(77,(zv8 (l5 1 pre)).res),(79,xr nb [.int .i64 (cnS stop pre)] 3)])
  (fun pre x=>[(77,.own (zv8 (l5 1 pre)).res),(79,.own (xr nb [.int .i64 ((pre.length+1:Nat):Int)] 3)),(2,.is (k8 yb)),(3,.is (k8 nb)),(4,.is (x.headD undef))])
  (u9 (c9 s)) (fun p=>stop (l5 1 p)) (fun _=>.ret) rfl rfl rfl rfl
  (fun pre p hp=>by simp only[nz,my,zs3,or_false] at hp;rcases hp with rfl | rfl<;>exact Nat.ne_of_beq_eq_false rfl) ⟨rfl,by rw[zdz hst];rfl,rfl,rfl,nm⟩
  (fun pre p hp=>by simp only[nz,my,zs3,or_false] at hp;rcases hp with rfl | rfl<;>exact np rfl) hst (fun x hx=>by obtain⟨y,_,rfl⟩:=m6.1 hx;rfl) E
  (fun u H hH hle=>zfq hs hH) ?asg ?bd ?dn ?st
 case asg=>
  intro w1 Ln B' l' D' o pre x' hpre hstp hBB;obtain⟨y,rfl⟩:=zdq hpre;refine(Z2∘ZaT) ?_;exact Yi nq ⟨Z,by rw[<-zdz hstp];rfl,Z,Z,Z,nm⟩
 case bd=>
  intro w1 Ln B' l' D' o pre x' hpre hstp hBB;have hlen:=hpre.length_le;obtain⟨y,rfl⟩:=zdq hpre;have hll:=Aa s;simp only[nr,mg,ma,m7] at hlen;have hyb2:=hBB _ _ hyb
  have hpre':l5 1 pre++[[Value.int .i64 ((pre.length+1:Nat):Int),Value.string y]]<+:l5 1 (u9 (c9 s)):=by
   obtain⟨t,ht⟩:=hpre;rw[<-ht,Dd,E1];exact List.prefix_append _ _
  have hwk:IntKind.i64.wrap (((pre.length+1:Nat):Int)+1)=((pre.length+1+1:Nat):Int):=xb J J;have e3:l5 1 (pre++[[Value.string y]])=l5 1 pre++[[Value.int .i64 ((pre.length+1:Nat):Int),Value.string y]]:=E1 _ _;have hpl:(pre++[[Value.string y]]).length=pre.length+1:=by simp
  cases hb':stop (l5 1 pre++[[Value.int .i64 ((pre.length+1:Nat):Int),Value.string y]])
  ·refine(Za7∘Zd∘ZE) ?_;refine z7 (ql L (qt Z hyb2) Z Z Z Z) Z (ye (qk L (q:=79) Z Z Z Z) (Za (h:=?_)));refine qf (fk (gs:=77) hY hpre' hstp (nh Bool.not hb') Z Z Z Z Z) ((Zo∘Zdy∘ZF) ?_);refine ye (qk L (q:=79) Z Z Z Z) (ZH (h:=?_));refine xm (yq L (q:=79) (cs':=[.int .i64 ((pre.length+1+1:Nat):Int)]) Z Z Z Z Z) ((Zah∘ZaC) ?_);exact Yj nq (by rw[e3];exact hb') ⟨by rw[e3];rfl,by rw[zdz (by rw[e3];exact hb'),hpl];rfl,nm⟩
  ·refine(Za7∘Zd∘ZE) ?_;refine z7 (ql L (qt Z hyb2) Z Z Z Z) Z (ye (qk L (q:=79) Z Z Z Z) (Za (h:=?_)));refine qf (fk (gs:=77) hY hpre' hstp (nh Bool.not hb') Z Z Z Z Z) ((Zo∘Z1) ?_);exact Ao (F6 (ii (M1 nq (by rw[e3];exact hb') Z ⟨by rw[e3];rfl,by rw[zhb (by rw[e3];exact hb'),hpl];rfl,nm⟩)))
 case st=>
  intro l' D' o hstop;exact j9 L 77 rfl (fun _ _ h=>h) hs1 Z (by rw[D5];rfl)
 case dn=>
  intro l' D' o hgo;exact ki L 77 rfl (fun _ _ h=>h) hs1 Z (by rw[D5];rfl)
def LinAt(s:ByteArray)(v:Value)(H:Heap):Prop:=∃ b,v=.func (.func 198) #[] #[k8 b]/\H b=some (.cells #[.string s] Nf)
def LinAt.mono:Kn.mono (.sat (LinAt s)):=fun _ _ _ ⟨b,h1,h2⟩ hle=>⟨b,h1,hle _ _ h2⟩
def O6(hB:zwe B w):Ret zwf 129 [.string s] w B (LinAt s):=by
 refine yl Tryz.func129 Z Tryz.ntmps129 (np Z) hB ((Zby∘Ze) ?_);refine jg 1 900 rfl fun b=>?_;refine wx 900 rfl fun H1 hs1 _ hyb=>?_;refine(ZI∘ZaN∘Zc) ?_;refine yk L (rs:=[.tmp 2]) Z (fun _ _ h=>h) hs1 fun u H hH hle=>?_;exact⟨b,rfl,hle _ _ hyb⟩
end Go.V.L11
end
namespace Go.V.L11
open Go.V.L2 Go.V.L4
def Ax(p:vn):List ByteArray:=p.map fun x=>match x with
 | [_,.string y]=>y
 | _=>⟨#[]⟩
def ji:∀ {ls:List ByteArray} {n:Nat},Ax (l5 n (u9 ls))=ls
 | [],_=>rfl
 | x::ls,n=>by
  show x::Ax (l5 (n+1) (u9 ls))=_;rw[ji]
def zg7(a b:List ByteArray):u9 (a++b)=u9 a++u9 b:=zr1 ..
def t6(ls:List ByteArray)(y:ByteArray):l5 1 (u9 (ls++[y]))=l5 1 (u9 ls)++[[Value.int .i64 ((ls.length+1:Nat):Int),Value.string y]]:=by
 rw[zg7];have:=E1 (u9 ls) [Value.string y];rw[mg] at this;exact this
def zca:∀ {L:List ByteArray} {n:Nat} {p:vn},p<+:l5 n (u9 L)->∃ ls,p=l5 n (u9 ls)/\ls<+:L
 | [],n,p,h=>⟨[],List.prefix_nil.1 h,List.prefix_rfl⟩
 | x::L,n,[],h=>⟨[],rfl,List.nil_prefix⟩
 | x::L,n,q::p,h=>by
  have h':q::p<+:[Value.int .i64 (n:Int),Value.string x]::l5 (n+1) (u9 L):=h;rw[List.cons_prefix_cons] at h';obtain⟨rfl,h2⟩:=h';obtain⟨ls,rfl,h3⟩:=zca h2;exact⟨x::ls,rfl,List.cons_prefix_cons.2 ⟨rfl,h3⟩⟩
def Hb{L:List ByteArray}{x:List Value}(h:pre++[x]<+:l5 1 (u9 L)):∃ ls y,pre=l5 1 (u9 ls)/\x=[Value.int .i64 ((ls.length+1:Nat):Int),Value.string y]/\ls++[y]<+:L:=by
 obtain⟨ls,e,hp⟩:=zca h;rcases zv6 ls with rfl | ⟨ls',y,rfl⟩
 ·exact ni e (by simp [u9,l5])
 ·rw[zvs] at e hp;rw[t6] at e;obtain⟨h1,h2⟩:=List.append_inj' e rfl;exact⟨ls',y,h1,by simpa using h2,hp⟩
def i7{X:Type}(rd:ByteArray->X×Int):∀ (xs ls:List ByteArray),vw rd 1 ls=true->
  ∃ ks,wa (fun p=>!vw rd 1 (Ax p)) (l5 1 (u9 ls)) (l5 (1+ls.length) (u9 xs))=l5 1 (u9 ks)/\ip rd [] 1 ks=ip rd [] 1 (ls++xs)/\(vw rd 1 ks=true->ks=ls++xs)
 | [],ls,h=>⟨ls,rfl,by rw[mi],fun _=>(mi _).symm⟩
 | x::xs,ls,h=>by
  have e1:l5 1 (u9 ls)++[[Value.int .i64 ((1+ls.length:Nat):Int),Value.string x]]=l5 1 (u9 (ls++[x])):=by rw[t6,zts 1]
  show ∃ ks,(if (!vw rd 1 (Ax (l5 1 (u9 ls)++[[Value.int .i64 ((1+ls.length:Nat):Int),Value.string x]])))=true then _ else _)=_/\_;rw[e1,ji];cases hg:vw rd 1 (ls++[x])
  ·refine⟨ls++[x],na Z,?_,fun h'=>by rw[hg] at h';cases h'⟩;rw[u0,h] at hg;exact(zf3 h (by simpa using hg)).symm
  ·obtain⟨ks,h1,h2,h3⟩:=i7 rd xs (ls++[x]) hg;refine⟨ks,?_,by rw[h2,mp];rfl,fun h'=>by rw[h3 h',mp];rfl⟩;rw[nc E,<-h1,nr];rfl
def tup3{φ1 φ2 φ3:Value->Heap->Prop}{a b c:Value}{H:Heap}(h1:φ1 a H)(h2:φ2 b H)(h3:φ3 c H):TupS [φ1,φ2,φ3] (.tuple #[a,b,c]) H:=⟨[a,b,c],rfl,rfl,fun i φ x hi hx=>by
 match i with
 | 0=>cases hi;cases hx;exact h1
 | 1=>cases hi;cases hx;exact h2
 | 2=>cases hi;cases hx;exact h3⟩
open Go.V.L6
attribute [local irreducible] V N X VO Par XP LV StepOK Has Ret RetL RetO RetT jh RetX RetY Pan o5 Src
end Go.V.L11
namespace Go.V.Bd
open Go.V.L4
def zj6(h0:bs≠[]){p:Option Addr}{c:Nat}:∀ v H u C,(AtV (.slice p k c) (SlR A3 1 bs.length (byV bs))).P v H u C->∃ b cap,Value.slice p k c=.slice (some ⟨b,0,none⟩) bs.length cap/\bs.length<=cap:=fun v H u C ⟨_,h⟩=>by
 rcases h with ⟨h,_⟩ | ⟨b,cap,rest,hv,_,hnc,_⟩
 ·exact ni (zrv h) h0
 ·exact⟨b,cap,hv,hnc⟩
attribute [local irreducible] V N X VO Par StepOK Has Ret RetL RetO RetT jh RetX RetY Src
def Gs{bb:Nat}{bs:List Nat}(hb:∀ b∈bs,b<=255)(h0:bs≠[])(hl:bs.length<=1099511627776)(hB:zwe B w)(hr:(GBd bb bs).P B w C)(hC:ZCB C w B):
  RetX zwf 124 [k8 bb] w B C GNo (.string (i8 bs)):=by
 unfold RetX;refine yz 900 (GBd bb bs) Tryz.func124 Z Tryz.ntmps124 (np Z) hB hr hC ?_;refine vh (X:=Value×Value) 900 (r:=fun x=>(GBv bb bs x).res) (φ:=fun x _=>zmh bb x) (hφ:=ef bb) Z fun x H0 hs0 hx=>?_;obtain⟨p,sv⟩:=x;obtain⟨hpp,hsl⟩:=hx;dsimp only at hpp hsl |-;obtain⟨p1,k1,c1,rfl⟩:=hsl;refine ug (r1:=xr bb [p,.slice p1 k1 c1] Dx) (r2:=(GSl (.slice p1 k1 c1) bs).res) 900 901 rfl (xi _) ?_;rw[Fe];refine zou 901 _ Z (zj6 h0) fun hk=>?_;obtain⟨b,cap,hv,hcap⟩:=hk;cases hv;have hlp:0<bs.length:=zuo.2 h0;refine(ZT∘Ze) ?_;refine qp (id:=1) [(200006,[900]),(200011,[900]),(13,[901])] kr T (ZaL (h:=?_));refine z9 (Oj Z Z Z J) Z ((ZaL∘Zdt) ?_);refine xo (Oi (q:=901) hb h0 hl Z Z Z Z Z T T) Z Z (Zy (h:=?_));exact kj L 901 (r:=GNo) (rs:=[.tmp 2]) Z (fun _ _ h=>h) hs0 Z Z (fun _=>rfl)
def D6{bb:Nat}{p:Value}(hB:zwe B w)(hr:(xd bb [p,.slice none 0 0] Dx).P B w C)(hC:ZCB C w B):
  RetX zwf 124 [k8 bb] w B C (xd bb [p,.slice none 0 0] Dx) (.string .empty):=by
 unfold RetX;refine yz 900 (xd bb [p,.slice none 0 0] Dx) Tryz.func124 Z Tryz.ntmps124 (np Z) hB hr hC ?_;rw[xe];refine(ZT∘Ze) ?_;refine qp (id:=1) [(200006,[900]),(200011,[900])] kr T (ZaL (h:=?_));refine z9 (Lh Z Z Z) Z ((ZaL∘Zdt) ?_);refine z9 (Ld Z Z Z Z) Z (Zy (h:=?_));exact kj L 900 (r:=xd bb _ Dx) (rs:=[.tmp 2]) Z (fun _ _ h=>h) nq Z Z (fun _=>rfl)
end Go.V.Bd
namespace Go.V.L11
open Go.V.L2 Go.V.L4 Go.V.Bd
def Cu(t:U):ByteArray:=(⟨#[]⟩++tT t)++⟨#[10]⟩
def s9(l:List U):List Nat:=l.flatMap fun t=>dz (Cu t)
def ze5:List U->Int
 | []=>0
 | t::l=>if tE t≠0 then tE t else ze5 l
def Y4{l:List U}{t:U}(hi:l[i]?=some t):ze5 (l.drop i)=if tE t≠0 then tE t else ze5 (l.drop (i+1)):=by
 rw[zsc (get_lt hi),ue hi];rfl
def Gm{l:List U}{t:U}(hi:l[i]?=some t):s9 (l.take (i+1))=s9 (l.take i)++dz (Cu t):=by
 unfold s9;rw[ju hi,zr5,zsi,zvt,mi]
def s8{l:List U}(hs:∀ t∈l,(Cu t).size<=1000):∀ i,(s9 (l.take i)).length<=i*1000
 | 0=>by rw[zr0];exact nu _
 | i+1=>by
  cases h:l[i]? with
  | none=>
   have:=zv3.1 h;rw[m8 J];have h2:=s8 hs i;rw[m8 J] at h2;omega
  | some t=>
   rw[Gm h,nr,ux];have h2:=s8 hs i;have:=hs t (mz h);omega
def Mt(s:ByteArray):∀ b∈dz s,b<=255:=fun b hb=>by
 obtain⟨c,_,rfl⟩:=m6.1 hb;have:=c.toNat_lt;omega
def zfc(l:List U):∀ b∈s9 l,b<=255:=fun b hb=>by
 obtain⟨t,_,h⟩:=zub.1 hb;exact Mt _ b h
attribute [local irreducible] V N X VO Par StepOK Has Ret RetL RetO RetT jh RetX RetY Src
def id_ret{t:U}(hB:zwe B w):Ret zwf 53 [uv t] w B (fun v _=>v=uv t):=by
 refine yl Tryz.func53 Z Tryz.ntmps53 (np Z) hB ((Zq∘Zc4∘ZI∘ZdY∘Za3) ?_);refine yk1 L [.cell 2 34] fun u H hH hle=>?_;exact⟨_,ya Z,rfl,rfl⟩
def none_ret{t:U}(hB:zwe B w):Ret zwf 54 [uv t] w B (fun v _=>v=.string ⟨#[]⟩):=by
 refine yl Tryz.func54 Z Tryz.ntmps54 (np Z) hB ((Zq∘Zad∘Zc) ?_);exact yk2 L [.tmp 2]
def O7(t:U):(Cu t).size=(tT t).size+1:=by
 unfold Cu;rw[zr2,zr2];have h1:(⟨#[]⟩:ByteArray).size=0:=rfl;have h2:(⟨#[10]⟩:ByteArray).size=1:=rfl;omega
def zfb{l:List U}(h:l≠[]):s9 l≠[]:=fun e=>by
 cases l with
 | nil=>exact h rfl
 | cons t l=>
  unfold s9 at e;rw[zsi] at e;have h1:=(List.append_eq_nil_iff.1 e).1;have h2:=ux (Cu t);rw[h1,O7] at h2;cases h2
def text_ret{l:List U}(hln:l.length<=4096)(hz:∀ t∈l,TZ t)(hs:∀ t∈l,(Cu t).size<=1000)(hB:zwe B w)(hv:US l fu v B):
  Ret zwf 52 [v,.func (.func 53) #[] #[],.func (.func 54) #[] #[]] w B (fun r _=>r=.tuple #[.string (if ze5 l≠0 then ⟨#[]⟩ else i8 (s9 l)),.int .i64 (ze5 l)]):=by
 refine yl Tryz.func52 Z Tryz.ntmps52 (np Z) hB (ku 0 (US l fu) Z ns hv ((Za6∘ZbU∘ZG∘Zs∘Z2∘ZbN) ?_));refine jg 8 900 rfl fun bb=>?_;by_cases hl0:l=[]
 ·subst hl0;refine(ZE∘Zj∘Zb3) ?_;refine xu (fun _:Nat=>[(8,.is (k8 bb)),(16,.is (.int .i64 0)),(17,.is (.int .i64 0)),(900,.own (xr bb [.pointer none,.slice none 0 0] Dx))]) (fun _=>True) (fun i=>i) 0 trivial ⟨Z,Z,Z,Z,nm⟩ ?_;rintro _ _;refine(Zi∘ZF∘Zbh∘ZQ) ?_;refine qf (yj L 900 (xd bb [.pointer none,.slice none 0 0] Dx) (.string .empty) (r:=xd bb [.pointer none,.slice none 0 0] Dx) Z Z Z Z Z (fun u H C hH _ hr hC=>D6 hH hr hC)) (Z4 (h:=?_));exact yk2 L [.tmp 6,.tmp 7]
 ·refine B6 901 A3 1 (ZeU (h:=?_));refine o3 (X:=Value×Value) 900 (r:=fun x=>(GBv bb [] x).res) (φ:=fun x _=>zmh bb x) (ef bb) (.pointer none,.slice none 0 0) ⟨.inl Z,_,_,_,rfl⟩ Z ((ZE∘Zj∘Zb3) ?_);refine xu (fun i:Nat=>[(1,.is (.func (.func 53) #[] #[])),(2,.is (.func (.func 54) #[] #[])),(8,.is (k8 bb)),(15,.sat (US l fu)),(16,.is (.int .i64 l.length)),(17,.is (.int .i64 i)),(900,.own (GBd bb (s9 (l.take i))).res)]) (fun i=>i<=l.length/\ze5 (l.drop i)=ze5 l) (fun i=>l.length-i) 0 ⟨mb _,rfl⟩ ⟨Z,Z,Z,Z,Z,Z,Z,nm⟩ ?_;rintro i ⟨hi,hte⟩;dsimp only at hi hte |-;by_cases hlt:i<l.length
  ·obtain⟨t,ht⟩:=xj hlt;have hcr:=af ht;have hzt:=hz t (mz ht);have hst:=hs t (mz ht);have hsl:=O7 t;rw[Y4 ht] at hte;have hsn:=Gm ht;have hbl:=s8 hs i;have hwk:IntKind.i64.wrap ((i:Int)+1)=((i+1:Nat):Int):=xb J J;by_cases he:tE t=0
   ·rw[nc (fun h=>h he)] at hte;have hs1:(⟨#[]⟩:ByteArray).size+(tT t).size<=9223372036854775807:=by have h1:(⟨#[]⟩:ByteArray).size=0:=rfl;omega
    have hs2:((⟨#[]⟩:ByteArray)++tT t).size+(⟨#[10]⟩:ByteArray).size<=9223372036854775807:=by rw[zr2];have h1:(⟨#[]⟩:ByteArray).size=0:=rfl;have h2:(⟨#[10]⟩:ByteArray).size=1:=rfl;omega
    refine(Zi∘ZF∘ZA∘Z5∘ZaO∘ZaQ∘ZbA∘Z6∘Zb1) ?_;refine z71 L Z (fun u H hH _=>id_ret hH) ?_;refine z71 L Z (fun u H hH _=>jf hzt hH) ?_;refine(Ze∘Za5∘Zar∘Zdy) ?_;refine qp (id:=10) [(37,[900])] kr T ((Zl∘ZeJ) ?_);refine z91 L Z (fun u H hH _=>none_ret hH) ?_;refine(Zl∘ZeJ) ?_;refine z91 L Z (fun u H hH _=>id_ret hH) ?_;refine z91 L Z (fun u H hH _=>Nh hzt hH) ?_;refine(Zei∘Zei) ?_;refine xo (yj L 900 (GBd bb (s9 (l.take (i+1)))) (.tuple #[.int .i64 (Cu t).size,.nilIface]) (r:=GBd bb (s9 (l.take i))) Z Z Z Z Z (fun u H C hH _ hr hC=>by rw[hsn];exact write_ret (str:=Cu t) J hH hr hC)) Z Z ?_;refine(ZbP∘Zay∘ZH∘ZcH) ?_;exact yr (x:=i) (i+1) ⟨hlt,hte⟩ J ⟨Z,Z,Z,Z,Z,Z,Z,nm⟩
   ·rw[na he] at hte;refine(Zi∘ZF∘ZA∘Z5∘ZaO∘ZaQ∘ZbA∘Z6∘Zb1) ?_;refine z71 L Z (fun u H hH _=>id_ret hH) ?_;refine z71 L Z (fun u H hH _=>jf hzt hH) ?_;refine(Ze∘Za5∘Zac∘Zai∘Z4) ?_;refine yk1 L [.tmp 6,.tmp 7] fun u H hH hle=>?_;rw[<-hte,na he];rfl
  ·obtain rfl:i=l.length:=by omega
   rw[ztz] at hte;rw[m4];have hbl:=s8 hs l.length;rw[m4] at hbl;refine(Zi∘ZF∘Zbh∘ZQ) ?_;refine qf (yj L 900 GNo (.string (i8 (s9 l))) (r:=GBd bb (s9 l)) Z Z Z Z Z (fun u H C hH _ hr hC=>Gs (zfc l) (zfb hl0) J hH hr hC)) (Z4 (h:=?_));refine yk1 L [.tmp 6,.tmp 7] fun u H hH hle=>?_;rw[<-hte];rfl
def Y9(l:List U):ByteArray×Int:=if 4096<l.length then (⟨#[]⟩,3) else (if ze5 l≠0 then ⟨#[]⟩ else i8 (s9 l),ze5 l)
def Qm{l:List U}{f g:Value}(hln:4096<l.length)(hB:zwe B w)(hv:US l fu v B):
  Ret zwf 52 [v,f,g] w B (fun r _=>r=.tuple #[.string ⟨#[]⟩,.int .i64 3]):=by
 refine yl Tryz.func52 Z Tryz.ntmps52 (np Z) hB (ku 0 (US l fu) Z ns hv ((Za6∘ZbU∘ZN∘ZaM∘Z4) ?_));exact yk2 L [.tmp 6,.tmp 7]
def Yp{l:List U}(hz:∀ t∈l,TZ t)(hs:∀ t∈l,(Cu t).size<=1000)(hB:zwe B w)(hv:US l fu v B):
  Ret zwf 12 [v] w B (fun r _=>r=.tuple #[.string (Y9 l).1,.int .i64 (Y9 l).2]):=by
 unfold Y9;refine yl Tryz.func12 Z Tryz.ntmps12 (np Z) hB (ku 0 (US l fu) Z ns hv ?_);by_cases hln:4096<l.length
 ·rw[na hln];refine(Za6∘Zad∘Zg) ?_;refine z7 (qd L Z Z (zn Z) Z Z Z (fun u H hH hle _ v1 h1=>Qm hln hH h1)) Z ((Zb8∘Z4) ?_);exact yk2 L [.tmp 2,.tmp 3]
 ·rw[nc hln];refine(Za6∘Zad∘Zg) ?_;refine z7 (qd L Z Z (zn Z) Z Z Z (fun u H hH hle _ v1 h1=>text_ret J hz hs hH h1)) Z ((Zb8∘Z4) ?_);exact yk2 L [.tmp 2,.tmp 3]
open Go.V.L8
def _root_.ZcO(t:Wr Y->A:=by intro h;refine z7 (yn L (vs:=[_,_,_,_,_,_,_]) Z Z Z Z Z ⟨_,rfl⟩) Z ?_;exact h.1)(h:Y):A:=t ⟨h⟩
def _root_.Zfy(t:Wr Y->A:=by intro h;refine z9 (qg L (vs:=[_,_,_,_,_,_,_]) (ya Z) Z Z Z Z ⟨_,rfl⟩) Z ?_;exact h.1)(h:Y):A:=t ⟨h⟩
abbrev cvC(t:CH):Value:=.agg #[.string t.1.1.1.1,.string t.1.1.1.2,.string t.1.1.2,.string t.1.2.1.1,.string t.1.2.1.2,.string t.1.2.2,.bool t.2]
def zmk(t:CH):ByteArray:=if t.2=true then ⟨#[45]⟩ else ⟨#[43]⟩
def Ks(t:CH):(zmk t).size=1:=by unfold zmk;split<;>rfl
def Cv(t:CH):ByteArray:=(zmk t++tT t.1)++⟨#[10]⟩
def s7(l:List CH):List Nat:=l.flatMap fun t=>dz (Cv t)
def ze4:List CH->Int
 | []=>0
 | t::l=>if tE t.1≠0 then tE t.1 else ze4 l
def Y3{t:CH}(hi:l[i]?=some t):ze4 (l.drop i)=if tE t.1≠0 then tE t.1 else ze4 (l.drop (i+1)):=by
 rw[zsc (get_lt hi),ue hi];rfl
def Gl{t:CH}(hi:l[i]?=some t):s7 (l.take (i+1))=s7 (l.take i)++dz (Cv t):=by
 unfold s7;rw[ju hi,zr5,zsi,zvt,mi]
def s6{l:List CH}(hs:∀ t∈l,(Cv t).size<=1000):∀ i,(s7 (l.take i)).length<=i*1000
 | 0=>by rw[zr0];exact nu _
 | i+1=>by
  cases h:l[i]? with
  | none=>
   have:=zv3.1 h;rw[m8 J];have h2:=s6 hs i;rw[m8 J] at h2;omega
  | some t=>
   rw[Gl h,nr,ux];have h2:=s6 hs i;have:=hs t (mz h);omega
def zfa(l:List CH):∀ b∈s7 l,b<=255:=fun b hb=>by
 obtain⟨t,_,h⟩:=zub.1 hb;exact Mt _ b h
def tup_ret{t:CH}(hB:zwe B w):Ret zwf 56 [cvC t] w B (fun v _=>v=uv t.1):=by
 refine yl Tryz.func56 Z Tryz.ntmps56 (np Z) hB ((Zq∘Zc4∘ZI∘Zcf∘Za3) ?_);refine yk1 L [.cell 2 34] fun u H hH hle=>?_;exact⟨_,ya Z,rfl,rfl⟩
def zj7{t:CH}(hB:zwe B w):Ret zwf 57 [cvC t] w B (fun v _=>v=.string (zmk t)):=by
 obtain⟨t,d⟩:=t;refine yl Tryz.func57 Z Tryz.ntmps57 (np Z) hB ?_;dsimp only[cvC];refine(Zq∘Zh) ?_
 cases d with
 | true=>
  refine(ZI∘Z3∘ZaM∘Zc) ?_;exact yk2 L [.tmp 2]
 | false=>
  refine(ZI∘Z3∘Zs∘Z2∘Zc) ?_;exact yk2 L [.tmp 2]
def Hi(t:CH):(Cv t).size=(tT t.1).size+2:=by
 unfold Cv;rw[zr2,zr2];have h1:=Ks t;have h2:(⟨#[10]⟩:ByteArray).size=1:=rfl;omega
def ze9(h:l≠[]):s7 l≠[]:=fun e=>by
 cases l with
 | nil=>exact h rfl
 | cons t l=>
  unfold s7 at e;rw[zsi] at e;have h1:=(List.append_eq_nil_iff.1 e).1;have h2:=ux (Cv t);rw[h1,Hi] at h2;cases h2
def zaa{l:List CH}(hln:l.length<=4096)(hz:∀ t∈l,TZ t.1)(hs:∀ t∈l,(Cv t).size<=1000)(hB:zwe B w)(hv:KS tyC l fu v B):
  Ret zwf 55 [v,.func (.func 56) #[] #[],.func (.func 57) #[] #[]] w B (fun r _=>r=.tuple #[.string (if ze4 l≠0 then ⟨#[]⟩ else i8 (s7 l)),.int .i64 (ze4 l)]):=by
 refine yl Tryz.func55 Z Tryz.ntmps55 (np Z) hB (ku 0 (KS tyC l fu) Z ns hv ((Za6∘ZbU∘ZG∘Zs∘Z2∘ZbN) ?_));refine jg 8 900 rfl fun bb=>?_;by_cases hl0:l=[]
 ·subst hl0;refine(ZE∘Zj∘Zb3) ?_;refine xu (fun _:Nat=>[(8,.is (k8 bb)),(16,.is (.int .i64 0)),(17,.is (.int .i64 0)),(900,.own (xr bb [.pointer none,.slice none 0 0] Dx))]) (fun _=>True) (fun i=>i) 0 trivial ⟨Z,Z,Z,Z,nm⟩ ?_;rintro _ _;refine(Zi∘ZF∘Zbh∘ZQ) ?_;refine qf (yj L 900 (xd bb [.pointer none,.slice none 0 0] Dx) (.string .empty) (r:=xd bb [.pointer none,.slice none 0 0] Dx) Z Z Z Z Z (fun u H C hH _ hr hC=>D6 hH hr hC)) (Z4 (h:=?_));exact yk2 L [.tmp 6,.tmp 7]
 ·refine B6 901 A3 1 (ZeU (h:=?_));refine o3 (X:=Value×Value) 900 (r:=fun x=>(GBv bb [] x).res) (φ:=fun x _=>zmh bb x) (ef bb) (.pointer none,.slice none 0 0) ⟨.inl Z,_,_,_,rfl⟩ Z ((ZE∘Zj∘Zb3) ?_);refine xu (fun i:Nat=>[(1,.is (.func (.func 56) #[] #[])),(2,.is (.func (.func 57) #[] #[])),(8,.is (k8 bb)),(15,.sat (KS tyC l fu)),(16,.is (.int .i64 l.length)),(17,.is (.int .i64 i)),(900,.own (GBd bb (s7 (l.take i))).res)]) (fun i=>i<=l.length/\ze4 (l.drop i)=ze4 l) (fun i=>l.length-i) 0 ⟨mb _,rfl⟩ ⟨Z,Z,Z,Z,Z,Z,Z,nm⟩ ?_;rintro i ⟨hi,hte⟩;dsimp only at hi hte |-;by_cases hlt:i<l.length
  ·obtain⟨t,ht⟩:=xj hlt;have hcr:=rq ht;have hzt:=hz t (mz ht);have hst:=hs t (mz ht);have hsl:=Hi t;rw[Y3 ht] at hte;have hsn:=Gl ht;have hbl:=s6 hs i;have hwk:IntKind.i64.wrap ((i:Int)+1)=((i+1:Nat):Int):=xb J J;by_cases he:tE t.1=0
   ·rw[nc (fun h=>h he)] at hte;have hs1:(zmk t).size+(tT t.1).size<=9223372036854775807:=by have h1:=Ks t;omega
    have hs2:(zmk t++tT t.1).size+(⟨#[10]⟩:ByteArray).size<=9223372036854775807:=by rw[zr2];have h1:=Ks t;have h2:(⟨#[10]⟩:ByteArray).size=1:=rfl;omega
    refine(Zi∘ZF∘ZA∘Z5∘ZaO∘ZcO∘ZbA∘Z6∘Zd4) ?_;refine z71 L Z (fun u H hH _=>tup_ret hH) ?_;refine z71 L Z (fun u H hH _=>jf hzt hH) ?_;refine(Ze∘Za5∘Zar∘Zdy) ?_;refine qp (id:=10) [(37,[900])] kr T ((Zl∘Zfy) ?_);refine z91 L Z (fun u H hH _=>zj7 hH) ?_;refine(Zl∘Zfy) ?_;refine z91 L Z (fun u H hH _=>tup_ret hH) ?_;refine z91 L Z (fun u H hH _=>Nh hzt hH) ?_;refine(Zei∘Zei) ?_;refine xo (yj L 900 (GBd bb (s7 (l.take (i+1)))) (.tuple #[.int .i64 (Cv t).size,.nilIface]) (r:=GBd bb (s7 (l.take i))) Z Z Z Z Z (fun u H C hH _ hr hC=>by rw[hsn];exact write_ret (str:=Cv t) J hH hr hC)) Z Z ?_;refine(ZbP∘Zay∘ZH∘ZcH) ?_;exact yr (x:=i) (i+1) ⟨hlt,hte⟩ J ⟨Z,Z,Z,Z,Z,Z,Z,nm⟩
   ·rw[na he] at hte;refine(Zi∘ZF∘ZA∘Z5∘ZaO∘ZcO∘ZbA∘Z6∘Zd4) ?_;refine z71 L Z (fun u H hH _=>tup_ret hH) ?_;refine z71 L Z (fun u H hH _=>jf hzt hH) ?_;refine(Ze∘Za5∘Zac∘Zai∘Z4) ?_;refine yk1 L [.tmp 6,.tmp 7] fun u H hH hle=>?_;rw[<-hte,na he];rfl
  ·obtain rfl:i=l.length:=by omega
   rw[ztz] at hte;rw[m4];have hbl:=s6 hs l.length;rw[m4] at hbl;refine(Zi∘ZF∘Zbh∘ZQ) ?_;refine qf (yj L 900 GNo (.string (i8 (s7 l))) (r:=GBd bb (s7 l)) Z Z Z Z Z (fun u H C hH _ hr hC=>Gs (zfa l) (ze9 hl0) J hH hr hC)) (Z4 (h:=?_));refine yk1 L [.tmp 6,.tmp 7] fun u H hH hle=>?_;rw[<-hte];rfl
def Y8(l:List CH):ByteArray×Int:=if 4096<l.length then (⟨#[]⟩,3) else (if ze4 l≠0 then ⟨#[]⟩ else i8 (s7 l),ze4 l)
def Nk{f g:Value}(hln:4096<l.length)(hB:zwe B w)(hv:KS tyC l fu v B):
  Ret zwf 55 [v,f,g] w B (fun r _=>r=.tuple #[.string ⟨#[]⟩,.int .i64 3]):=by
 refine yl Tryz.func55 Z Tryz.ntmps55 (np Z) hB (ku 0 (KS tyC l fu) Z ns hv ((Za6∘ZbU∘ZN∘ZaM∘Z4) ?_));exact yk2 L [.tmp 6,.tmp 7]
def Va{l:List CH}(hz:∀ t∈l,TZ t.1)(hs:∀ t∈l,(Cv t).size<=1000)(hB:zwe B w)(hv:KS tyC l fu v B):
  Ret zwf 13 [v] w B (fun r _=>r=.tuple #[.string (Y8 l).1,.int .i64 (Y8 l).2]):=by
 unfold Y8;refine yl Tryz.func13 Z Tryz.ntmps13 (np Z) hB (ku 0 (KS tyC l fu) Z ns hv ?_);by_cases hln:4096<l.length
 ·rw[na hln];refine(Za6∘Zad∘Zg) ?_;refine z7 (qd L Z Z (zn Z) Z Z Z (fun u H hH hle _ v1 h1=>Nk hln hH h1)) Z ((Zb8∘Z4) ?_);exact yk2 L [.tmp 2,.tmp 3]
 ·rw[nc hln];refine(Za6∘Zad∘Zg) ?_;refine z7 (qd L Z Z (zn Z) Z Z Z (fun u H hH hle _ v1 h1=>zaa J hz hs hH h1)) Z ((Zb8∘Z4) ?_);exact yk2 L [.tmp 2,.tmp 3]
end Go.V.L11
namespace Go.V.L8
open Go.V.L2 Go.V.L3 Go.V.L6
def Pm{s:List U}(h0:cE 32 l=0)(h:∀ (j:Nat) x,j<i->l[j]?=some x->ia s x=true)(hc:l[i]?=some c)(hh:ia s c=false):a9 s l=(i,13):=by
 unfold a9;rw[if_pos h0];exact X0 h hc hh
def Hs{s:List U}(h0:cE 32 l=0)(h:∀ (j:Nat) x,l[j]?=some x->ia s x=true):a9 s l=(l.length,0):=by
 unfold a9;rw[if_pos h0];exact X4 fun x hx=>let ⟨j,hj⟩:=List.getElem?_of_mem hx;h j x hj
attribute [local irreducible] V N X VO Par StepOK Has Ret RetL RetO RetT Src
def Mr{l:List CH}(hz:∀ c∈l,TM c.1)(hl:l.length<=9223372036854775807)(he:cE 32 l=e)(hB:zwe B w)(hv:KS tyC l fu v B):
  Ret zwf 192 [v] w B (fun r _=>r=.int .i64 e):=by
 obtain⟨p,m,c,rfl⟩:=Nu hv;refine yl Tryz.func192 Z Tryz.ntmps192 (np Z) hB ((Zq∘Ze) ?_);refine Cz 1 rfl fun q H1 hs1 ⟨b,hpb,hb1⟩=>?_;subst hpb;refine(ZI∘Zbd) ?_;refine p9 3 (KS tyC l fu) Z ns (hv.le hs1.le) ((ZbT∘ZaN) ?_);refine z71 L Z (fun u H hH hle=>Hf (caps:=[.pointer (some ⟨b,0,none⟩)]) hz hl Z he hH (fun i c hc u' H' hH' hle'=>zl1 hc hH' (hle' _ _ (hle _ _ hb1)) ((hv.le hs1.le).le (Heap.Le.trans hle hle')))) ?_;refine Zc (h:=?_);refine yk L (rs:=[.tmp 2]) Z (fun _ _ h=>h) hs1 fun u H hH hle=>?_;rfl
def Pi{s:List U}{b:Bool}(hb:ia s c=b)(hB:zwe B w)(hv:SetV s v B):Ret zwf 254 [v,chv c.1 c.2] w B (fun r _=>r=.bool b):=by
 subst hb;obtain⟨x,d⟩:=c;obtain⟨f1,p1,f2,q1,rfl,hpl⟩:=hv.shape;obtain⟨h,hh⟩:∃ h,decide (x∈s)=h:=⟨_,rfl⟩
 unfold ia;dsimp only;rw[hh];refine yl Tryz.func254 Z Tryz.ntmps254 (np Z) hB ((ZaD∘Ze∘Zcl∘ZdP∘ZaA∘ZbK) ?_);refine z91 L Z (fun u H hH hle=>wi hh hH (hv.le hle)) ?_;refine(Zbi∘Zfp∘Zy) ?_;refine yk1 L [.tmp 4] fun u H hH hle=>?_;cases h<;>cases d<;>rfl
def first_ret{s:List U}{l:List CH}(hz:∀ c∈l,TM c.1)(hl:l.length<=9223372036854775807){r:Nat}(hr:a9 s l=(r,e))(hB:zwe B w)(hs:SetV s sv B)(hv:KS tyM l fu v B):
  Ret zwf 193 [sv,v] w B (fun x _=>x=.tuple #[.int .i64 r,.int .i64 e]):=by
 obtain⟨f1,p1,f2,q1,rfl,hpl⟩:=hs.shape;refine yl Tryz.func193 Z Tryz.ntmps193 (np Z) hB (ku 1 (KS tyM l fu) Z ns hv ?_);by_cases h0:cE 32 l=0
 ·refine(Zq∘Zv∘Zag∘Zg) ?_;refine z7 (qd L Z Z (zn Z) Z Z Z (fun u H hH _ _ v1 h1=>rc hz hl h0 hH h1)) Z ((ZbY∘Zca∘ZE∘Zj∘Zb3) ?_);refine xu (fun i:Nat=>[(1,.sat (KS tyM l fu)),(2,.sat (At [f1,.pointer p1,f2,.pointer q1] Ng 0)),(14,.sat (KS tyM l fu)),(15,.is (.int .i64 l.length)),(16,.is (.int .i64 i))]) (fun i=>i<=l.length/\∀ (j:Nat) x,j<i->l[j]?=some x->ia s x=true) (fun i=>l.length-i) 0 ⟨mb _,fun j c h=>ni h (zt1 _)⟩ ⟨Z,Z,Z,Z,Z,nm⟩ ?_;rintro i ⟨hi,hok⟩;by_cases hlt:i<l.length
  ·obtain⟨c,hc0⟩:=xj hlt;have hc:=rq hc0;cases hh:ia s c
   ·rw[Pm h0 hok hc0 hh] at hr;cases hr;refine(Zi∘ZF∘ZA∘ZD∘ZaO∘ZcO∘ZX∘Zv∘ZaF∘Zk∘Z7∘ZdJ∘Zd4) ?_;refine z71 L Z (fun u H hH hle=>Pi hh hH (hs.le hle)) ?_;refine(Zo∘Zr∘Za5∘Z4) ?_;exact yk2 L [.tmp 4,.tmp 5]
   ·refine(Zi∘ZF∘ZA∘ZD∘ZaO∘ZcO∘ZX∘Zv∘ZaF∘Zk∘Z7∘ZdJ∘Zd4) ?_;refine z71 L Z (fun u H hH hle=>Pi hh hH (hs.le hle)) ?_;refine(Zo∘Za1∘ZM∘ZbE) ?_
    exact yr (x:=i) (i+1) ⟨hlt,fun j c' hj hc'=>by
     rcases m5 j i with h | h
     ·exact hok j c' h hc'
     ·have:j=i:=J;subst this;rw[hc0] at hc';cases hc';exact hh⟩ J ⟨rfl,rfl,rfl,rfl,rfl,nm⟩
  ·rw[Hs h0 (fun j x hj=>hok j x (by have:=get_lt hj;omega) hj)] at hr;cases hr;refine(Zi∘ZF∘Zbh∘ZaH∘Zj∘Z4) ?_;exact yk2 L [.tmp 4,.tmp 5]
 ·have:a9 s l=(0,cE 32 l):=nc h0;rw[this] at hr;cases hr;refine(Zq∘Zv∘Zag∘Zg) ?_;refine z7 (qd L Z Z (zn Z) Z Z Z (fun u H hH _ _ v1 h1=>rc hz hl Z hH h1)) Z ((ZbY∘Zac∘Zz∘Z4) ?_);exact yk2 L [.tmp 4,.tmp 5]
def _root_.ZcY(t:Wr Y->A:=by intro h;refine z9 (qg L (vs:=[_,_,_,_]) (ya Z) Z Z Z Z ⟨_,rfl⟩) Z ?_;exact h.1)(h:Y):A:=t ⟨h⟩
def _root_.Zdo(t:Wr Y->A:=by intro h;refine qf (jx L Z Z Z (eg Z) Z zmn Z Z J J) ?_;exact h.1)(h:Y):A:=t ⟨h⟩
def _root_.ZeB(t:Wr Y->A:=by intro h;refine z7 (qg L (vs:=[_,_,_,_,_,_,_]) (A9 Z (List.Mem.head _)) Z Z Z Z ⟨_,rfl⟩) Z ?_;exact h.1)(h:Y):A:=t ⟨h⟩
def _root_.Zd5(t:Wr Y->A:=by intro h;refine z9 (zb6 Z Z Z Z bt4 Z) Z ?_;exact h.1)(h:Y):A:=t ⟨h⟩
def _root_.Zfb(t:Wr Y->A:=by intro h;refine z9 (qg L (vs:=[_,_,_,_,_,_]) (A9 Z (List.Mem.head _)) Z Z Z Z ⟨_,rfl⟩) Z ?_;exact h.1)(h:Y):A:=t ⟨h⟩
def zi9{l:List CH}(h:cE n l=0):l.length<=n/\∀ c∈l,tE c.1=0:=by
 unfold cE at h;split at h
 ·exact ni h E
 ·split at h
  ·exact ni h E
  ·rename_i h1 h2;refine⟨by omega,fun c hc=>?_⟩;by_cases h0:tE c.1=0
   ·exact h0
   ·exact ni (zu0.2 ⟨c,hc,by simp [h0]⟩) h2
def Gk(h:chk s=0):s.size<=1099511627776:=by
 unfold chk at h;split at h
 ·rename_i h1;omega
 ·exact ni h E
def Sr{t:U}(h:tE t=0):TZ t:=by
 unfold tE at h;split at h
 ·rename_i h1;obtain⟨c1,c2,c3⟩:=Yg h1;obtain⟨d1,d2,d3⟩:=A7 h;refine⟨⟨Gk c1,Gk c2,Gk c3⟩,Gk d1,Gk d2,?_⟩;rcases d3 with d3 | d3
  ·rw[d3];exact mb _
  ·exact Gk d3
 ·rename_i h1;exact ni h h1
def WriteP(t:List U)(made:List CH)(e:Int)(r:Value)(H:Heap):Prop:=∃ tv mv,r=.tuple #[tv,mv,.int .i64 e]/\SetV t tv H/\KS tyC made true mv H
def WriteP.mono:Kn.mono (.sat (WriteP t made e)):=fun _ _ _ ⟨tv,mv,h1,h2,h3⟩ hle=>⟨tv,mv,h1,h2.le hle,h3.le hle⟩
def zd2(hB:zwe B w)(hv:KS tyC l fu v B):Ret zwf 194 [v] w B (KS tyC l true):=by
 refine yl Tryz.func194 Z Tryz.ntmps194 (np Z) hB (ku 0 (KS tyC l fu) Z ns hv ((Zw∘Zg∘Zj∘Zj∘ZdX∘Zb9) ?_));refine yk1 L [.tmp 2] fun u H hH hle=>?_;exact fun v hv=>hv
set_option maxRecDepth 10000 in
def write_ret{s:List U}{l cs:List CH}{fl:Bool}(zl:∀ c∈l,TM c.1)(zc:∀ c∈cs,TM c.1)(ll:l.length<=9223372036854775807)(lc:cs.length<=9223372036854775807)(hsl:s.length<=4096)(hr:ci s l cs=(t,made,e)){lv cv:Value}(hB:zwe B w)
  (hs:SetV s sv B) (hl:KS tyM l fl lv B) (hc:KS tyC cs fc cv B):Ret zwf 121 [sv,lv,cv] w B (WriteP t made e):=by
 obtain⟨f1,p1,f2,q1,rfl,hpl⟩:=hs.shape;refine yl Tryz.func121 Z Tryz.ntmps121 (np Z) hB (ku 1 (KS tyM l fl) Z ns hl (ku 2 (KS tyC cs fc) Z ns hc ?_));unfold ci at hr;by_cases h1:cE 32 l=0
 ·rw[na h1] at hr;by_cases h2:cE 32 cs=0
  ·rw[na h2] at hr;obtain⟨r,e1,hf⟩:∃ r e1,a9 s l=(r,e1):=⟨_,_,rfl⟩
   rw[hf] at hr;dsimp only at hr;by_cases h3:e1=0
   ·subst h3;rw[na rfl] at hr;obtain⟨l32,hval⟩:=zi9 h2;refine(Zby∘ZX∘Zv∘Zag∘Zg) ?_;refine z7 (qd L Z Z (zn Z) Z Z Z (fun u H hH _ _ v1 g1=>rc zl ll h1 hH g1)) Z ((ZbY∘Zca∘ZE∘Zg) ?_);refine z7 (qd L Z Z (zn Z) Z Z Z (fun u H hH _ _ v1 g1=>Mr zc lc h2 hH g1)) Z ((ZbV∘Zca∘Z7∘Zcx∘Zg) ?_);refine z7 (qd L Z Z (zn Z) Z Z Z (fun u H hH hle _ v1 g1=>first_ret zl ll hf hH (hs.le hle) g1)) Z ((Zb0∘Za5∘Zca∘ZaH∘Zj∘Zb3) ?_);refine o3 (X:=SXp) 3 (r:=fun x=>Cell (scs x.1) Ng) (φ:=Kp s) (we s) ⟨(f1,p1,f2,q1),hpl⟩ hs Z (um 7 tyC 7 rfl ?_)
    refine xu (fun y:Nat×List U×List CH=>[(3,.own (ExR (fun x:SXp=>Cell (scs x.1) Ng) (Kp y.2.1) (we y.2.1))),(6,.own (Cell [.nilFunc,.pointer none,.nilFunc,.pointer none] Ng)),(7,.own (SlR tyC 7 y.2.2.length (y.2.2.flatMap ccs))),(40,.sat (KS tyC cs fc)),(41,.is (.int .i64 cs.length)),(42,.is (.int .i64 y.1))])
     (fun y=>y.1<=cs.length/\iu y.2.1 y.2.2 (cs.drop y.1)=(t,made,e)/\y.2.1.length<=4096/\y.2.2.length<=y.1) (fun y=>cs.length-y.1) (0,s,[]) ⟨mb _,hr,hsl,nu _⟩ ⟨rfl,rfl,rfl,rfl,rfl,rfl,nm⟩ ?_
    clear hr hs hsl;rintro⟨k,s,md⟩ ⟨hk,he,hsl,hmd⟩;dsimp only at hk he hsl hmd |-;refine vh 3 rfl fun⟨⟨f1,p1,f2,q1⟩,hpl⟩ H3 hs3 hT=>?_;have hT:SetV s (.agg #[f1,.pointer p1,f2,.pointer q1]) H3:=hT;by_cases hlt:k<cs.length
    ·obtain⟨c,hc0⟩:=xj hlt;have hc:=rq hc0;have hv:=hval c (mz hc0);have hzt:=Sr hv;rw[im hc0,iu] at he;obtain⟨x,d⟩:=c;dsimp only at hc hv hzt he;rcases hw:uh s x d with ⟨s',e'⟩
     rw[hw] at he;dsimp only at he;have hsl':=Du hsl x d;rw[hw] at hsl';obtain⟨i,hin⟩:∃ i,decide (x∈s)=i:=⟨_,rfl⟩
     rw[hin] at he;by_cases h0:e'=0
     ·rw[na h0] at he;subst h0;cases i<;>cases d
      ·rw[na rfl] at he;refine(Zi∘Zay∘ZA∘ZQ∘ZaO∘ZcO∘Zcw) ?_;refine B8 14 rfl fun b14 hb14=>?_;refine(Ze8∘ZcY∘Zas∘Zfb) ?_;refine z91 L rfl (fun u H hH hle=>wi hin hH (hT.le hle)) ?_;refine(Zas∘ZeA∘Zd5∘Zy∘Zi∘ZaP∘Zcx∘ZeB) ?_;refine z7 (xh (φ:=WithP s' 0) L rfl rfl (zn rfl) rfl rfl rfl WithP.mono (fun u H hH hle _=>Gi hw hsl hzt hH (hT.le hle))) rfl (ui 56 rfl ?_);rintro _ H19 hs19 ⟨tv,rfl,hT19⟩;obtain⟨g1,r1,g2,r2,rfl,hpl2⟩:=hT19.shape;refine(ZW∘ZX∘ZcN∘Zh∘Zat∘Za∘Zau∘Zbm∘Zcx∘ZcN∘Zk∘ZaX∘Za∘Z1∘Zc5) ?_;refine qf (yo (.inl rfl) rfl) ((ZeB∘ZJ∘Zdo) ?_);refine qf (yo (.inr rfl) rfl) (Zaz (h:=?_));refine U3 (O':=[]) (zvu _) ?_;refine(Zbg∘ZbE) ?_;exact As (X:=SXp) 3 (r:=fun x=>Cell (scs x.1) Ng) (φ:=Kp s') (we _) ⟨(g1,r1,g2,r2),hpl2⟩ hT19 Z (v9 (x:=(k,s,md)) (k+1,s',md++[(x,false)]) (hs3.trans hs19) ⟨hlt,he,hsl',by dsimp only;rw[List.length_append];show md.length+1<=k+1;omega⟩ G ⟨Z,Z,gj Z,Z,Z,Z,trivial⟩)
      ·rw[nc E] at he;refine(Zi∘Zay∘ZA∘ZQ∘ZaO∘ZcO∘Zcw) ?_;refine B8 14 rfl fun b14 hb14=>?_;refine(Ze8∘ZcY∘Zas∘Zfb) ?_;refine z91 L rfl (fun u H hH hle=>wi hin hH (hT.le hle)) ?_;refine(Zas∘ZeA∘Zd5∘Zy∘Zi∘ZaP∘Zcx∘ZeB) ?_;refine z7 (xh (φ:=WithP s' 0) L rfl rfl (zn rfl) rfl rfl rfl WithP.mono (fun u H hH hle _=>Gi hw hsl hzt hH (hT.le hle))) rfl (ui 56 rfl ?_);rintro _ H19 hs19 ⟨tv,rfl,hT19⟩;obtain⟨g1,r1,g2,r2,rfl,hpl2⟩:=hT19.shape;refine(ZW∘ZX∘ZcN∘Zh∘Zat∘Za∘Zau∘Zbm∘Zcx∘ZcN∘Zk∘ZaX∘Za∘Za1) ?_;refine U3 (O':=[]) (zvu _) ?_;refine(Zbg∘ZbE) ?_;exact As (X:=SXp) 3 (r:=fun x=>Cell (scs x.1) Ng) (φ:=Kp s') (we _) ⟨(g1,r1,g2,r2),hpl2⟩ hT19 Z (v9 (x:=(k,s,md)) (k+1,s',md) (hs3.trans hs19) ⟨hlt,he,hsl',by dsimp only;omega⟩ G ⟨Z,Z,Z,Z,Z,Z,trivial⟩)
      ·rw[nc E] at he;refine(Zi∘Zay∘ZA∘ZQ∘ZaO∘ZcO∘Zcw) ?_;refine B8 14 rfl fun b14 hb14=>?_;refine(Ze8∘ZcY∘Zas∘Zfb) ?_;refine z91 L rfl (fun u H hH hle=>wi hin hH (hT.le hle)) ?_;refine(Zas∘ZeA∘Zd5∘Zy∘Zi∘ZaP∘Zcx∘ZeB) ?_;refine z7 (xh (φ:=WithP s' 0) L rfl rfl (zn rfl) rfl rfl rfl WithP.mono (fun u H hH hle _=>Gi hw hsl hzt hH (hT.le hle))) rfl (ui 56 rfl ?_);rintro _ H19 hs19 ⟨tv,rfl,hT19⟩;obtain⟨g1,r1,g2,r2,rfl,hpl2⟩:=hT19.shape;refine(ZW∘ZX∘ZcN∘Zh∘Zat∘Za∘Zau∘Zbm∘Zcx∘ZcN∘Zk∘ZaX∘Za∘Za1) ?_;refine U3 (O':=[]) (zvu _) ?_;refine(Zbg∘ZbE) ?_;exact As (X:=SXp) 3 (r:=fun x=>Cell (scs x.1) Ng) (φ:=Kp s') (we _) ⟨(g1,r1,g2,r2),hpl2⟩ hT19 Z (v9 (x:=(k,s,md)) (k+1,s',md) (hs3.trans hs19) ⟨hlt,he,hsl',by dsimp only;omega⟩ G ⟨Z,Z,Z,Z,Z,Z,trivial⟩)
      ·rw[na rfl] at he;refine(Zi∘Zay∘ZA∘ZQ∘ZaO∘ZcO∘Zcw) ?_;refine B8 14 rfl fun b14 hb14=>?_;refine(Ze8∘ZcY∘Zas∘Zfb) ?_;refine z91 L rfl (fun u H hH hle=>wi hin hH (hT.le hle)) ?_;refine(Zas∘ZeA∘Zd5∘Zy∘Zi∘ZaP∘Zcx∘ZeB) ?_;refine z7 (xh (φ:=WithP s' 0) L rfl rfl (zn rfl) rfl rfl rfl WithP.mono (fun u H hH hle _=>Gi hw hsl hzt hH (hT.le hle))) rfl (ui 56 rfl ?_);rintro _ H19 hs19 ⟨tv,rfl,hT19⟩;obtain⟨g1,r1,g2,r2,rfl,hpl2⟩:=hT19.shape;refine(ZW∘ZX∘ZcN∘Zh∘Zat∘Za∘Zau∘Zbm∘Zcx∘ZcN∘Zk∘ZaX∘Za∘Z1∘Zc5) ?_;refine qf (yo (.inl rfl) rfl) ((ZeB∘ZJ∘Zdo) ?_);refine qf (yo (.inr rfl) rfl) (Zaz (h:=?_));refine U3 (O':=[]) (zvu _) ?_;refine(Zbg∘ZbE) ?_;exact As (X:=SXp) 3 (r:=fun x=>Cell (scs x.1) Ng) (φ:=Kp s') (we _) ⟨(g1,r1,g2,r2),hpl2⟩ hT19 Z (v9 (x:=(k,s,md)) (k+1,s',md++[(x,true)]) (hs3.trans hs19) ⟨hlt,he,hsl',by dsimp only;rw[List.length_append];show md.length+1<=k+1;omega⟩ G ⟨Z,Z,gj Z,Z,Z,Z,trivial⟩)
     ·rw[nc h0] at he;cases he;refine(Zi∘Zay∘ZA∘ZQ∘ZaO∘ZcO∘Zcw) ?_;refine B8 14 rfl fun b14 hb14=>?_;refine(Ze8∘ZcY∘Zas∘Zfb) ?_;refine z91 L rfl (fun u H hH hle=>wi hin hH (hT.le hle)) ?_;refine(Zas∘ZeA∘Zd5∘Zy∘Zi∘ZaP∘Zcx∘ZeB) ?_;refine z7 (xh (φ:=WithP s' e) L rfl rfl (zn rfl) rfl rfl rfl WithP.mono (fun u H hH hle _=>Gi hw hsl hzt hH (hT.le hle))) rfl (ui 56 rfl ?_);rintro _ H19 hs19 ⟨tv,rfl,hT19⟩;obtain⟨g1,r1,g2,r2,rfl,hpl2⟩:=hT19.shape;refine(ZW∘ZX∘ZcN∘Zh∘Zat∘Za∘Zac∘Zal∘ZdK∘Za∘ZaF∘Z4) ?_;refine yk L (rs:=[.cell 6 91,.tmp 7,.tmp 8]) Z (fun _ _ h=>h) (hs3.trans hs19) fun u H hH hle=>?_;exact⟨_,ya Z,rfl,_,_,rfl,SetV.nil,SlV.nil⟩
    ·obtain rfl:k=cs.length:=by omega
     rw[ztz,iu] at he;cases he;refine(Zi∘Zay∘Zbh) ?_;refine uz 7 rfl (qp (id:=21) [] kr T ((ZcY∘ZaG) ?_));refine z9 (xh (φ:=KS tyC made true) L Z Z (zn Z) Z Z Z ns (fun u H hH _ _ v1 g1=>zd2 hH g1)) Z (z9 (qu L Z Z M Z) Z ((Zcs∘Zy) ?_));refine yk L (rs:=[.cell 6 91,.tmp 7,.tmp 8]) Z (fun _ _ h=>h) hs3 fun u H hH hle=>?_;exact⟨_,ya Z,rfl,fun mv hmv=>⟨_,mv,rfl,hT.le hle,hmv⟩⟩
   ·rw[nc h3] at hr;cases hr;refine(Zby∘ZX∘Zv∘Zag∘Zg) ?_;refine z7 (qd L Z Z (zn Z) Z Z Z (fun u H hH _ _ v1 g1=>rc zl ll h1 hH g1)) Z ((ZbY∘Zca∘ZE∘Zg) ?_);refine z7 (qd L Z Z (zn Z) Z Z Z (fun u H hH _ _ v1 g1=>Mr zc lc h2 hH g1)) Z ((ZbV∘Zca∘Z7∘Zcx∘Zg) ?_);refine z7 (qd L Z Z (zn Z) Z Z Z (fun u H hH hle _ v1 g1=>first_ret zl ll hf hH (hs.le hle) g1)) Z ((Zb0∘Za5∘Zac∘ZM∘ZdK∘Za∘ZaF∘Z4) ?_);refine yk1 L [.cell 6 91,.tmp 7,.tmp 8] fun u H hH hle=>?_;exact⟨_,ya Z,rfl,_,_,rfl,SetV.nil,SlV.nil⟩
  ·rw[nc h2] at hr;cases hr;refine(Zby∘ZX∘Zv∘Zag∘Zg) ?_;refine z7 (qd L Z Z (zn Z) Z Z Z (fun u H hH _ _ v1 g1=>rc zl ll h1 hH g1)) Z ((ZbY∘Zca∘ZE∘Zg) ?_);refine z7 (qd L Z Z (zn Z) Z Z Z (fun u H hH _ _ v1 g1=>Mr zc lc Z hH g1)) Z ((ZbV∘Zac∘Z5∘ZdK∘Za∘ZaF∘Z4) ?_);refine yk1 L [.cell 6 91,.tmp 7,.tmp 8] fun u H hH hle=>?_;exact⟨_,ya Z,rfl,_,_,rfl,SetV.nil,SlV.nil⟩
 ·rw[nc h1] at hr;cases hr;refine(Zby∘ZX∘Zv∘Zag∘Zg) ?_;refine z7 (qd L Z Z (zn Z) Z Z Z (fun u H hH _ _ v1 g1=>rc zl ll Z hH g1)) Z ((ZbY∘Zac∘Z2∘ZdK∘Za∘ZaF∘Z4) ?_);refine yk1 L [.cell 6 91,.tmp 7,.tmp 8] fun u H hH hle=>?_;exact⟨_,ya Z,rfl,_,_,rfl,SetV.nil,SlV.nil⟩
def zdg(s:List U)(x:U):(1-(if x∈s then 1 else 0:Int))=if ia s (x,true)=true then 1 else 0:=by
 unfold ia;by_cases h:x∈s<;>simp [h]
def Xw(s:List U)(x:U):(if x∈s then 1 else 0:Int)=if ia s (x,false)=true then 1 else 0:=by
 unfold ia;by_cases h:x∈s<;>simp [h]
def er{l:List CH}(hz:∀ c∈l,TM c.1)(hl:l.length<=9223372036854775807)(he:cE 32 l=e)(hB:zwe B w)(hv:KS tyM l fu v B):
  Ret zwf 291 [v] w B (fun r _=>r=.int .i64 e):=by
 subst he;refine yl Tryz.func291 Z Tryz.ntmps291 (np Z) hB (ku 0 (KS tyM l fu) Z ns hv ?_);by_cases h32:32<l.length
 ·have:cE 32 l=3:=na h32;rw[this];refine(ZT∘ZbU∘ZN∘ZaM∘Zc) ?_;exact yk2 L [.tmp 2]
 ·refine(ZT∘ZbU∘ZG∘ZK∘Z2∘Zae) ?_;refine xu (fun i:Nat=>[(0,.sat (KS tyM l fu)),(3,.is (.int .i64 i))]) (fun i=>i<=l.length/\∀ (j:Nat) c,j<i->l[j]?=some c->tE c.1=0) (fun i=>l.length-i) 0 ⟨mb _,fun j c h=>ni h (zt1 _)⟩ ⟨Z,Z,nm⟩ ?_;rintro i ⟨hi,hok⟩;by_cases hlt:i<l.length
  ·obtain⟨c,hc0⟩:=xj hlt;have hc:=rq hc0;have hzc:=hz c (mz hc0);by_cases h0:tE c.1=0
   ·refine(Zco∘Z5∘ZY∘ZcD∘ZaQ) ?_;refine z71 L Z (fun u H hH _=>h0 ▸ Da hzc hH) ?_;refine(Zar∘Za1∘ZC∘Zaa) ?_
    exact yr (x:=i) (i+1) ⟨hlt,fun j c' hj hc'=>by
     rcases m5 j i with h | h
     ·exact hok j c' h hc'
     ·have:j=i:=J;subst this;rw[hc0] at hc';cases hc';exact h0⟩ J ⟨rfl,rfl,nm⟩
   ·have h6:=(S0 c.1).resolve_left h0;rw[zl2 h32 hc0 h0];refine(Zco∘Z5∘ZY∘ZcD∘ZaQ) ?_;refine z71 L Z (fun u H hH _=>h6 ▸ Da hzc hH) ?_;refine(Zac∘Z7∘Zc) ?_;exact yk2 L [.tmp 2]
  ·rw[zec h32 (fun j c hj=>hok j c (by have:=get_lt hj;omega) hj)];refine(ZcL∘Zj∘Zb5∘Z0∘Zc) ?_;exact yk2 L [.tmp 2]
def K5{l:List CH}(hz:∀ c∈l,TM c.1)(hl:l.length<=9223372036854775807)(he:cE 32 l=e)(hB:zwe B w)(hv:KS tyC l fu v B):
  Ret zwf 292 [v] w B (fun r _=>r=.int .i64 e):=by
 subst he;refine yl Tryz.func292 Z Tryz.ntmps292 (np Z) hB (ku 0 (KS tyC l fu) Z ns hv ?_);by_cases h32:32<l.length
 ·have:cE 32 l=3:=na h32;rw[this];refine(ZT∘ZbU∘ZN∘ZaM∘Zc) ?_;exact yk2 L [.tmp 2]
 ·refine(ZT∘ZbU∘ZG∘ZK∘Z2∘Zae) ?_;refine xu (fun i:Nat=>[(0,.sat (KS tyC l fu)),(3,.is (.int .i64 i))]) (fun i=>i<=l.length/\∀ (j:Nat) c,j<i->l[j]?=some c->tE c.1=0) (fun i=>l.length-i) 0 ⟨mb _,fun j c h=>ni h (zt1 _)⟩ ⟨Z,Z,nm⟩ ?_;rintro i ⟨hi,hok⟩;by_cases hlt:i<l.length
  ·obtain⟨c,hc0⟩:=xj hlt;have hc:=rq hc0;have hzc:=hz c (mz hc0);by_cases h0:tE c.1=0
   ·refine(Zco∘Z5∘ZY∘ZcD∘ZaQ) ?_;refine z71 L Z (fun u H hH _=>h0 ▸ Da hzc hH) ?_;refine(Zar∘Za1∘ZC∘Zaa) ?_
    exact yr (x:=i) (i+1) ⟨hlt,fun j c' hj hc'=>by
     rcases m5 j i with h | h
     ·exact hok j c' h hc'
     ·have:j=i:=J;subst this;rw[hc0] at hc';cases hc';exact h0⟩ J ⟨rfl,rfl,nm⟩
   ·have h6:=(S0 c.1).resolve_left h0;rw[zl2 h32 hc0 h0];refine(Zco∘Z5∘ZY∘ZcD∘ZaQ) ?_;refine z71 L Z (fun u H hH _=>h6 ▸ Da hzc hH) ?_;refine(Zac∘Z7∘Zc) ?_;exact yk2 L [.tmp 2]
  ·rw[zec h32 (fun j c hj=>hok j c (by have:=get_lt hj;omega) hj)];refine(ZcL∘Zj∘Zb5∘Z0∘Zc) ?_;exact yk2 L [.tmp 2]
def G0{s:List U}(ls:s.length<=90000){b:Int}(hb:(if ia s c=true then 1 else 0)=b)(hB:zwe B w)(hv:US s fs v B):
  Ret zwf 314 [v,chv c.1 c.2] w B (fun r _=>r=.int .i64 b):=by
 subst hb;obtain⟨x,d⟩:=c;refine yl Tryz.func314 Z Tryz.ntmps314 (np Z) hB (ku 0 (US s fs) Z ns hv ?_);obtain⟨m,hm⟩:∃ m:Int,(if x∈s then 1 else 0:Int)=m:=⟨_,rfl⟩
 have hm2:m=0\/m=1:=by rw[<-hm];split<;>simp
 cases d
 ·rw[<-Xw,hm];refine(Zq∘Zag∘Z3∘Zs∘Z2∘Zg∘Zcf) ?_;refine z7 (qd L Z Z (zn Z) Z Z Z (fun u H hH _ _ v1 h1=>jp J hm hH h1)) Z (Zc (h:=?_));exact yk2 L [.tmp 4]
 ·rw[<-zdg,hm];refine(Zq∘Zag∘Z3∘ZaM∘Zg∘Zcf) ?_;refine z7 (qd L Z Z (zn Z) Z Z Z (fun u H hH _ _ v1 h1=>jp J hm hH h1)) Z ((ZcW∘Zc) ?_);exact yk2 L [.tmp 4]
def Ej{s:List U}{l:List CH}(ls:s.length<=90000)(hz:∀ c∈l,TM c.1)(hl:l.length<=9223372036854775807){r:Nat}(hr:a9 s l=(r,e))(hB:zwe B w)(hs:US s fs sv B)(hv:KS tyM l fu v B):
  Ret zwf 293 [sv,v] w B (fun x _=>x=.tuple #[.int .i64 r,.int .i64 e]):=by
 refine yl Tryz.func293 Z Tryz.ntmps293 (np Z) hB (ku 0 (US s fs) Z ns hs (ku 1 (KS tyM l fu) Z ns hv ?_));by_cases h0:cE 32 l=0
 ·refine(Za6∘Zag∘Zg) ?_;refine z7 (qd L Z Z (zn Z) Z Z Z (fun u H hH _ _ v1 h1=>er hz hl h0 hH h1)) Z ((Zca∘Z2∘Zae) ?_);refine xu (fun i:Nat=>[(0,.sat (US s fs)),(1,.sat (KS tyM l fu)),(6,.is (.int .i64 i))]) (fun i=>i<=l.length/\∀ (j:Nat) x,j<i->l[j]?=some x->ia s x=true) (fun i=>l.length-i) 0 ⟨mb _,fun j c h=>ni h (zt1 _)⟩ ⟨Z,Z,Z,nm⟩ ?_;rintro i ⟨hi,hok⟩;by_cases hlt:i<l.length
  ·obtain⟨c,hc0⟩:=xj hlt;have hc:=rq hc0;cases hh:ia s c
   ·rw[Pm h0 hok hc0 hh] at hr;cases hr;refine(Zco∘Z5∘Zg∘ZY∘ZcO) ?_;refine z7 (qd L Z Z (zn Z) Z Z Z (fun u H hH hle _ v1 h1=>G0 (c:=c) (b:=0) ls (by rw[hh];rfl) hH h1)) Z ?_;refine(Zx∘Zr∘Z6∘Z4) ?_;exact yk2 L [.tmp 4,.tmp 5]
   ·refine(Zco∘Z5∘Zg∘ZY∘ZcO) ?_;refine z7 (qd L Z Z (zn Z) Z Z Z (fun u H hH hle _ v1 h1=>G0 (c:=c) (b:=1) ls (by rw[hh];rfl) hH h1)) Z ?_;refine(Z8∘Za1∘ZC∘Zaa) ?_
    exact yr (x:=i) (i+1) ⟨hlt,fun j c' hj hc'=>by
     rcases m5 j i with h | h
     ·exact hok j c' h hc'
     ·have:j=i:=J;subst this;rw[hc0] at hc';cases hc';exact hh⟩ J ⟨rfl,rfl,rfl,nm⟩
  ·rw[Hs h0 (fun j x hj=>hok j x (by have:=get_lt hj;omega) hj)] at hr;cases hr;refine(ZcL∘Zj∘Zb5∘Z0∘Zj∘Z4) ?_;exact yk2 L [.tmp 4,.tmp 5]
 ·have:a9 s l=(0,cE 32 l):=nc h0;rw[this] at hr;cases hr;refine(Za6∘Zag∘Zg) ?_;refine z7 (qd L Z Z (zn Z) Z Z Z (fun u H hH _ _ v1 h1=>er hz hl Z hH h1)) Z ((Zac∘ZL∘Zg) ?_);refine z7 (qd L Z Z (zn Z) Z Z Z (fun u H hH _ _ v1 h1=>er hz hl Z hH h1)) Z (Z4 (h:=?_));exact yk2 L [.tmp 4,.tmp 5]
def RWriteP(t:List U)(made:List CH)(e:Int)(r:Value)(H:Heap):Prop:=∃ tv mv,r=.tuple #[tv,mv,.int .i64 e]/\US t false tv H/\KS tyC made false mv H
def RWriteP.mono:Kn.mono (.sat (RWriteP t made e)):=fun _ _ _ ⟨tv,mv,h1,h2,h3⟩ hle=>⟨tv,mv,h1,h2.le hle,h3.le hle⟩
set_option maxRecDepth 10000 in
def Qt{s t:List U}{l cs:List CH}{fl:Bool}(zl:∀ c∈l,TM c.1)(zc:∀ c∈cs,TM c.1)(ll:l.length<=9223372036854775807)(lc:cs.length<=9223372036854775807)(hsl:s.length<=4096)(hss:Sst js s)(hsz:∀ t∈s,TZ t)(hr:ci s l cs=(t,made,e)){lv cv:Value}(hB:zwe B w)
  (hs:US s fs sv B) (hl:KS tyM l fl lv B) (hc:KS tyC cs fc cv B):Ret zwf 244 [sv,lv,cv] w B (RWriteP t made e):=by
 refine yl Tryz.func244 Z Tryz.ntmps244 (np Z) hB (ku 0 (US s false) Z ns hs.nofu (ku 1 (KS tyM l fl) Z ns hl (ku 2 (KS tyC cs fc) Z ns hc ?_)));unfold ci at hr;by_cases h1:cE 32 l=0
 ·rw[na h1] at hr;by_cases h2:cE 32 cs=0
  ·rw[na h2] at hr;obtain⟨r,e1,hf⟩:∃ r e1,a9 s l=(r,e1):=⟨_,_,rfl⟩
   rw[hf] at hr;dsimp only at hr;by_cases h3:e1=0
   ·subst h3;rw[na rfl] at hr;obtain⟨l32,hval⟩:=zi9 h2;refine(Za6∘Zv∘Zad∘Zg) ?_;refine z7 (qd L Z Z (zn Z) Z Z Z (fun u H hH _ _ v1 g1=>er zl ll h1 hH g1)) Z ((Zh∘Zn∘Zx∘Z1∘Z2∘Zg) ?_);refine z7 (qd L Z Z (zn Z) Z Z Z (fun u H hH _ _ v1 g1=>K5 zc lc h2 hH g1)) Z ((Zh∘Zt∘Zx∘Z1∘ZF∘Zg∘Zg) ?_);refine z7 (qd L Z Z (zn Z) Z Z Z (fun u H hH _ _ v1 g1 v2 g2=>Ej J zl ll hf hH g1 g2)) Z ((ZW∘Zh∘ZD∘Zau∘Z0∘Zh∘ZM∘Zae) ?_);refine um 10 tyC 7 rfl ?_
    refine xu (fun y:Nat×List U×List CH=>[(0,.sat (US y.2.1 false)),(2,.sat (KS tyC cs fc)),(10,.own (SlR tyC 7 y.2.2.length (y.2.2.flatMap ccs))),(11,.is (.int .i64 y.1))])
     (fun y=>y.1<=cs.length/\iu y.2.1 y.2.2 (cs.drop y.1)=(t,made,e)/\y.2.1.length<=4096/\y.2.2.length<=y.1/\Sst js y.2.1/\∀ t∈y.2.1,TZ t) (fun y=>cs.length-y.1) (0,s,[]) ⟨mb _,hr,hsl,nu _,hss,hsz⟩ ⟨rfl,rfl,rfl,rfl,nm⟩ ?_
    clear hr hs hsl hss hsz;rintro⟨k,s,md⟩ ⟨hk,he,hsl,hmd,hss,hsz⟩;dsimp only at hk he hsl hmd hss hsz |-;by_cases hlt:k<cs.length
    ·obtain⟨c,hc0⟩:=xj hlt;have hc:=rq hc0;have hv:=hval c (mz hc0);have hzt:=Sr hv;rw[im hc0,iu] at he;obtain⟨x,d⟩:=c;dsimp only at hc hv hzt he;have hdf:=U9 (l:=s) x d;have hss':=M7 hss x d;have hsl':=Du hsl x d
     have hsz':∀ z∈(uh s x d).1,TZ z:=fun z hz=>by
      rcases Dt hz with h | h
      ·exact hsz z h
      ·exact h ▸ hzt
     rcases hw:uh s x d with ⟨s',e'⟩
     rw[hw] at he hdf hss' hsl' hsz';dsimp only at he hdf hss' hsl' hsz';have hmo:Kn.mono (.sat (US s' false)):=ns;by_cases h0:e'=0
     ·subst h0;rw[na rfl] at he;have hdf:=hdf rfl;by_cases hsame:s'=s
      ·rw[nc (hdf.1 hsame)] at he;refine(Zd∘Zcz∘Zc1∘ZQ∘Zg∘ZY∘ZcO) ?_;refine z7 (xh (φ:=R6 s' 0) L Z Z (zn Z) Z Z Z (LE2.mono ns) (fun u H hH _ _ v1 g1=>Ee hw hss J hzt hsz hH g1)) Z ((Zg∘Zdd∘Zc3∘Zaf∘Zh∘ZU∘Za∘Zca∘Zat∘Zg∘Zg) ?_);refine z7 (qd L Z Z (zn Z) Z Z Z (fun u H hH _ _ v1 g1 v2 g2=>Bc (e:=1) J J (by rw[na hsame]) hH g1 g2)) Z ?_;refine(Z8∘Zdy∘Zbm∘Zg∘Zaf∘Zaz∘ZbL∘Zaa) ?_;exact yr (x:=(k,s,md)) (k+1,s',md) ⟨hlt,he,hsl',by dsimp only;omega,hss',hsz'⟩ G ⟨Z,Z,Z,Z,trivial⟩
      ·have hdd:decide (x∈s)=d:=by
        by_cases h:decide (x∈s)=d
        ·exact h
        ·exact ni (hdf.2 h) hsame
       rw[na hdd] at he;refine(Zd∘Zcz∘Zc1∘ZQ∘Zg∘ZY∘ZcO) ?_;refine z7 (xh (φ:=R6 s' 0) L Z Z (zn Z) Z Z Z (LE2.mono ns) (fun u H hH _ _ v1 g1=>Ee hw hss J hzt hsz hH g1)) Z ((Zg∘Zdd∘Zc3∘Zaf∘Zh∘ZU∘Za∘Zca∘Zat∘Zg∘Zg) ?_);refine z7 (qd L Z Z (zn Z) Z Z Z (fun u H hH _ _ v1 g1 v2 g2=>Bc (e:=0) J J (by rw[nc hsame]) hH g1 g2)) Z ?_;refine(Zx∘Z1∘Zal) ?_;refine qf (yo (.inl Z) Z) ((ZY∘ZcO∘ZJ∘Zdo) ?_);refine qf (yo (.inr Z) Z) ((ZB∘Zbm∘Zg∘Zaf∘Zaz∘ZbL∘Zaa) ?_);exact yr (x:=(k,s,md)) (k+1,s',md++[(x,d)]) ⟨hlt,he,hsl',by dsimp only;rw[List.length_append];show md.length+1<=k+1;omega,hss',hsz'⟩ G ⟨Z,Z,gj Z,Z,trivial⟩
     ·rw[nc h0] at he;cases he;refine(Zd∘Zcz∘Zc1∘ZQ∘Zg∘ZY∘ZcO) ?_;refine z7 (xh (φ:=R6 s' e) L Z Z (zn Z) Z Z Z (LE2.mono ns) (fun u H hH _ _ v1 g1=>Ee hw hss J hzt hsz hH g1)) Z ((Zg∘Zdd∘Zc3∘Zaf∘Zh∘ZU∘Za∘Zac∘Zch∘Zv∘Z4) ?_);refine yk1 L [.tmp 6,.tmp 7,.tmp 8] fun u H hH hle=>?_;exact⟨_,_,rfl,SlV.nil,SlV.nil⟩
    ·obtain rfl:k=cs.length:=by omega
     rw[ztz,iu] at he;cases he;refine(Zd∘Zcz∘Zj∘Zb5) ?_;refine uz 10 rfl ((ZaX∘Zg∘Zg∘Zaf∘Zaf∘Zc) ?_);refine yk1 L [.tmp 6,.tmp 7,.tmp 8] fun u H hH hle=>?_;exact fun tv htv mv hmv=>⟨tv,mv,rfl,htv,hmv⟩
   ·rw[nc h3] at hr;cases hr;refine(Za6∘Zv∘Zad∘Zg) ?_;refine z7 (qd L Z Z (zn Z) Z Z Z (fun u H hH _ _ v1 g1=>er zl ll h1 hH g1)) Z ((Zh∘Zn∘Zx∘Z1∘Z2∘Zg) ?_);refine z7 (qd L Z Z (zn Z) Z Z Z (fun u H hH _ _ v1 g1=>K5 zc lc h2 hH g1)) Z ((Zh∘Zt∘Zx∘Z1∘ZF∘Zg∘Zg) ?_);refine z7 (qd L Z Z (zn Z) Z Z Z (fun u H hH _ _ v1 g1 v2 g2=>Ej J zl ll hf hH g1 g2)) Z ((ZW∘Zh∘ZD∘Zac∘Z6∘Zv∘Z4) ?_);refine yk1 L [.tmp 6,.tmp 7,.tmp 8] fun u H hH hle=>?_;exact⟨_,_,rfl,SlV.nil,SlV.nil⟩
  ·rw[nc h2] at hr;cases hr;refine(Za6∘Zv∘Zad∘Zg) ?_;refine z7 (qd L Z Z (zn Z) Z Z Z (fun u H hH _ _ v1 g1=>er zl ll h1 hH g1)) Z ((Zh∘Zn∘Zx∘Z1∘Z2∘Zg) ?_);refine z7 (qd L Z Z (zn Z) Z Z Z (fun u H hH _ _ v1 g1=>K5 zc lc Z hH g1)) Z ((Zh∘Zt∘Z8∘ZK∘ZD∘Zac∘Z6∘Zv∘Z4) ?_);refine yk1 L [.tmp 6,.tmp 7,.tmp 8] fun u H hH hle=>?_;exact⟨_,_,rfl,SlV.nil,SlV.nil⟩
 ·rw[nc h1] at hr;cases hr;refine(Za6∘Zv∘Zad∘Zg) ?_;refine z7 (qd L Z Z (zn Z) Z Z Z (fun u H hH _ _ v1 g1=>er zl ll Z hH g1)) Z ((Zh∘Zn∘Z8∘ZK∘Zt∘Z8∘ZK∘ZD∘Zac∘Z6∘Zv∘Z4) ?_);refine yk1 L [.tmp 6,.tmp 7,.tmp 8] fun u H hH hle=>?_;exact⟨_,_,rfl,SlV.nil,SlV.nil⟩
def _root_.Zew(t:Wr Y->A:=by intro h;refine uz 3 rfl ?_;exact h.1)(h:Y):A:=t ⟨h⟩
def fC(c:C3):CH:=(zbm c.1 c.2.1,drB c.2.2)
def dOf(cs:List C3):List CH:=(cs.take 30).map fC
def Bw(cs:List C3):(dOf cs).length<=30:=by unfold dOf;rw[List.length_map,List.length_take];omega
def Rv{cs:List C3}{zwb:List CH}(hM:dOf cs=zwb)(hcs:∀ c∈cs,c.1<=255/\c.2.1<=255/\c.2.2<=255)(lcs:cs.length<=9223372036854775807)
  {cx:Value}   (hB:zwe B w) (hc:PS3 cs fc cx B):Ret zwf 11 [.agg #[cx]] w B (KS tyC zwb false):=by
 refine yl Tryz.func11 Z Tryz.ntmps11 (np Z) hB ((Zq∘Zad∘Zh∘ZL∘Zae) ?_);refine um 3 tyC 7 rfl ?_
 refine xu (fun y:Nat×List CH=>[(1,.sat (At [cx] 27 0)),(3,.own (SlR tyC 7 y.2.length (y.2.flatMap ccs))),(4,.is (.int .i64 y.1))])
  (fun y=>y.1<=(cs.take 30).length/\y.2=(cs.take y.1).map fC) (fun y=>(cs.take 30).length-y.1) (0,[]) ⟨mb _,rfl⟩ ⟨rfl,rfl,rfl,nm⟩ ?_
 rintro⟨i,out⟩ ⟨hi,ho⟩;dsimp only at hi ho |-;have h30:(cs.take 30).length=min 30 cs.length:=mh;have hol:out.length=i:=by rw[ho,mg,mh];omega
 have hfin:i=(cs.take 30).length->out=zwb:=fun e=>by
  rw[<-hM,ho,e,h30];unfold dOf;congr 1;exact(List.take_eq_take_min (l:=cs) (i:=30)).symm
 by_cases h1:i<cs.length
 ·by_cases h2:i<30
  ·obtain⟨⟨a,b,c⟩,hn⟩:=xj h1;have hcc:=znc hn;obtain⟨ka,kb,kc⟩:=hcs _ (mz hn);dsimp only at ka kb kc;have hnx:out++[(zbm a b,drB c)]=(cs.take (i+1)).map fC:=by rw[zr4,hn,zr1,ho];rfl
   generalize hxx:zbm a b=x at hnx;generalize hdd:drB c=d at hnx;refine(Zcp∘Z3) ?_;refine p9 7 (PS3 cs fc) Z ns hc ((ZbT∘ZS∘Zb∘ZS∘Zb4∘Zbw∘ZF) ?_);refine qf (yo (.inl Z) Z) (Z3 (h:=?_));refine p9 18 (PS3 cs fc) Z ns hc (Zdm (h:=?_));refine z7 (yn L (vs:=[_,_,_]) Z Z Z Z Z ⟨_,rfl⟩) Z (z71 L Z (fun u H hH _=>zhl hxx hdd ka kb kc hH) ?_);refine(ZJ∘Zdo) ?_;refine qf (yo (.inr Z) Z) ((Zaz∘Zt∘Zaa) ?_);exact yr (x:=(i,out)) (i+1,out++[(x,d)]) ⟨by dsimp only;omega,hnx⟩ G ⟨Z,gj Z,Z,trivial⟩
  ·obtain he:=hfin J;subst he;refine(Zcp∘Z3) ?_;refine p9 7 (PS3 cs fc) Z ns hc ((ZbT∘ZS∘Zb∘Zab∘Zf∘Zao∘Zdz) ?_);refine Zew (h:=?_);refine(Z5∘Zg∘Zb9) ?_;refine yk1 L [.tmp 2] fun u H hH hle=>?_;exact fun v hv=>hv
 ·obtain he:=hfin J;subst he;refine(Zcp∘Z3) ?_;refine p9 7 (PS3 cs fc) Z ns hc ((ZbT∘Zab∘ZcF∘Zf∘Zao∘Zdz) ?_);refine Zew (h:=?_);refine(Z5∘Zg∘Zb9) ?_;refine yk1 L [.tmp 2] fun u H hH hle=>?_;exact fun v hv=>hv
def M5:∀ {cs:List CH} {s:List U} {md:List CH},SOK s->(∀ c∈cs,TZ c.1/\tE c.1=0)->s.length+cs.length<4096->∃ t made,iu s md cs=(t,made,0)/\SOK t/\t.length<=s.length+cs.length
 | [],s,md,h,_,_=>⟨s,md,rfl,h,nu _⟩
 | c::r,s,md,h,hc,hl=>by
  simp only[ma] at hl;obtain⟨hz,h0⟩:=hc c (mc ..);obtain⟨h1,h2,h3⟩:=zez h hz h0 c.2 J;obtain⟨t,made,e,ht,hlt⟩:=M5 (cs:=r) (s:=(uh s c.1 c.2).1) (md:=if decide (c.1∈s)=c.2 then md++[c] else md) h1 (fun x hx=>hc x (mf _ hx)) J;refine⟨t,made,by rw[iu,na h2,e],ht,?_⟩;simp only[ma];omega
def writeR_ok{s:List U}(h1:cE 32 l=0)(h2:cE 32 cs=0)(h3:(a9 s l).2=0):ci s l cs=iu s [] cs:=by
 unfold ci;rw[if_pos h1,if_pos h2,if_pos h3]
def _root_.Zef(t:Wr Y->A:=by intro h;refine z9 (G7 L Z Z Z Z) Z ?_;exact h.1)(h:Y):A:=t ⟨h⟩
def zcl{cs:List C3}{zwb:List CH}(hM:dOf cs=zwb)(hcs:∀ c∈cs,c.1<=255/\c.2.1<=255/\c.2.2<=255)(lcs:cs.length<=9223372036854775807)
  {cx:Value}   (hB:zwe B w) (hc:PS3 cs fc cx B):Ret zwf 183 [.agg #[cx]] w B (KS tyM zwb false):=by
 have lM:zwb.length<=30:=hM ▸ Bw cs;refine yl Tryz.func183 Z Tryz.ntmps183 (np Z) hB ((Zq∘Zad∘Ze∘ZL∘ZaK) ?_);refine z7 (qg L (vs:=[_]) (qz Z) Z Z Z Z ⟨_,rfl⟩) Z (z7 (xh (φ:=KS tyC zwb false) L Z Z (zn Z) Z Z Z ns (fun u H hH hle _=>Rv hM hcs lcs hH (hc.le hle))) Z ((Zaf∘Zan∘Z2∘Zae) ?_));refine um 3 tyM 7 rfl ?_
 refine xu (fun y:Nat×List CH=>[(3,.own (SlR tyM 7 y.2.length (y.2.flatMap ccs))),(4,.sat (KS tyC zwb false)),(5,.is (.int .i64 y.1))])
  (fun y=>y.1<=zwb.length/\y.2=zwb.take y.1) (fun y=>zwb.length-y.1) (0,[]) ⟨mb _,rfl⟩ ⟨rfl,rfl,rfl,nm⟩ ?_
 rintro⟨i,out⟩ ⟨hi,ho⟩;dsimp only at hi ho |-;have hol:out.length=i:=by rw[ho,mh];omega
 by_cases hlt:i<zwb.length
 ·obtain⟨c,hc0⟩:=xj hlt;have hcc:=rq hc0;have hnx:out++[c]=zwb.take (i+1):=by rw[zr4,hc0,ho];rfl
  refine(ZcL∘Zj∘Zbp∘Zbw) ?_;refine qp (id:=6) [(15,[3]),(28,[15]),(3,[28])] kr T (xo (yo (.inl Z) Z) Z Z ((ZcK∘Zef∘Zdh∘ZcK∘Zef∘ZbX) ?_));refine z9 (yv (cs:=[_,_,_,_,_,_,_]) Z Z zpr Z Z) Z (ZdN (h:=?_));refine xo (jx L Z Z Z (eg Z) Z zqd Z Z J J) Z Z (xo (yo (.inr Z) Z) Z Z ((ZbP∘ZC∘Zaa) ?_));exact yr (x:=(i,out)) (i+1,out++[c]) ⟨hlt,hnx⟩ G ⟨gj Z,Z,Z,nm⟩
 ·have he:out=zwb:=by rw[ho];exact m8 J
  subst he;refine(ZcL∘Zj∘Zb5) ?_;refine Zew (h:=?_);refine(Z7∘Zg∘Zb9) ?_;refine yk1 L [.tmp 2] fun u H hH hle=>?_;exact fun v hv=>hv
end Go.V.L8
namespace Go.V.L10
open Go.V.L2 Go.V.L8 Go.V.L6
structure OO where
 wh:Nat
 ms:List C3
 cs:List C3
 rv:Nat
 kp:Int
def OO.rev(o:OO):Int:=if o.rv=255 then 18446744073709551615 else (o.rv:Int)
def doS(S:Sto)(o:OO):Sto:=
 if o.wh%8<4 then (bg S (dOf o.ms) (dOf o.cs)).1 else if o.wh%8<6 then (V3 S o.rev false).1 else if o.wh%8=6 then (V3 S o.rev true).1 else (cy S o.kp).1
structure JJ(n:Nat)(S:Sto):Prop where
 last:(kpt S.R S.R.length).isSome=true
 pin:∀ r∈S.P,(kpt S.R r).isSome=true
 so:∀ r t,kpt S.R r=some t->SOK t/\t.length<=30*S.R.length
 hR:S.R.length<=n+1
 hP:S.P.length<=n
def JJ.ne(h:JJ n S):S.R.length≠0:=by have:=f7 h.last;omega
def JJ.I(h:JJ n S)(hn:n<=100):zpc S:=⟨h.last,mq (oq _) (by have:=h.hR;omega),h.pin,fun r t ht=>by have:=(h.so r t ht).2;have:=h.hR;omega⟩
def JJ.mono(h:JJ n S)(hm:n<=m):JJ m S:=⟨h.last,h.pin,h.so,mq h.hR J,mq h.hP hm⟩
def JJ.ss(h:JJ n S):∀ r t,kpt S.R r=some t->Sst js t/\∀ x∈t,TZ x:=fun r t ht=>⟨(h.so r t ht).1.sst,(h.so r t ht).1.tz⟩
def JJ.pos{S:Sto}(h:JJ n S):∀ x∈S.P,0<x:=fun x hx=>(f7 (h.pin x hx)).1
def jj_new:JJ 0 newS:=⟨rfl,fun _ h=>(by cases h),fun r t h=>by
 have hr:=f7 (R:=newS.R) (r:=r) (by rw[h];rfl);have h1:newS.R.length=1:=rfl;have:r=((0+1:Nat):Int):=J;subst this;have h2:kpt newS.R ((0+1:Nat):Int)=some []:=by rw[cu];rfl
 rw[h2] at h;cases h;exact⟨⟨Sst.nil,fun _ h=>(by cases h),fun _ h=>(by cases h)⟩,mb _⟩,nu _,nu _⟩
def zi0(cs:List C3):∀ c∈dOf cs,TZ c.1/\tE c.1=0:=fun c hc=>by
 unfold dOf at hc;obtain⟨x,_,rfl⟩:=m6.1 hc;exact⟨zbl _ _,zku _ _⟩
def zpj{t:U}(h:TZ t):TM t:=by
 unfold TZ at h;unfold TM;omega
def Uj(cs:List C3):∀ c∈dOf cs,TM c.1:=fun c hc=>zpj (zi0 cs c hc).1
def writeR_ok{s:List U}{cs:List CH}(h:ci s l cs=(t,made,0))(hs:SOK s)(hc:∀ c∈cs,TZ c.1/\tE c.1=0)(hl:s.length+cs.length<4096):SOK t/\t.length<=s.length+cs.length:=by
 obtain⟨t2,m2,h2,h3,h4⟩:=M5 (md:=[]) hs hc hl;unfold ci at h;split at h
 ·split at h
  ·split at h
   ·rw[h2] at h;cases h;exact⟨h3,h4⟩
   ·rename_i h1;exact ni (nh (·.2.2) h) h1
  ·rename_i h1;exact ni (nh (·.2.2) h) h1
 ·rename_i h1;exact ni (nh (·.2.2) h) h1
def zht(h:kpt S.R S.R.length=some t):atS S 0=(t,0):=by unfold atS;rw[if_pos rfl,h]
def T8(h:JJ n S)(hn:n<=100){cs:List CH}(hc:∀ c∈cs,TZ c.1/\tE c.1=0)(hcl:cs.length<=30):JJ (n+1) (bg S l cs).1:=by
 obtain⟨t0,ht0⟩:∃ t0,kpt S.R S.R.length=some t0:=zso.1 h.last;obtain⟨⟨t1,made,e1⟩,hwr⟩:∃ x,ci t0 l cs=x:=⟨_,rfl⟩
 unfold bg;rw[zht ht0,hwr];dsimp only;by_cases he:e1=0
 ·subst he;rw[na rfl];split
  ·exact h.mono (zss _)
  ·have h0:=h.so _ _ ht0;have hR:=h.hR;have h1:=writeR_ok hwr h0.1 hc J;have hln:(S.R++[some t1]).length=S.R.length+1:=by rw[nr];rfl
   refine⟨?_,fun r hr=>?_,fun r t ht=>?_,?_,zt9 h.hP⟩
   ·dsimp only;rw[hln,Dg,if_pos rfl];rfl
   ·dsimp only;rw[Dg];split
    ·rfl
    ·exact h.pin r hr
   ·dsimp only at ht |-;rw[Dg] at ht;rw[hln];split at ht
    ·cases ht;exact⟨h1.1,by omega⟩
    ·have h2:=h.so r t ht;exact⟨h2.1,by omega⟩
   ·dsimp only;omega
 ·rw[nc he];exact h.mono (zss _)
def zix(h:JJ n S)(r:Int)(un:Bool):JJ (n+1) (V3 S r un).1:=by
 unfold V3;by_cases hk:(kpt S.R r).isSome=true
 ·rw[na hk]
  cases un with
  | true=>
   rw[na rfl];split
   ·refine⟨h.last,fun x hx=>h.pin x ?_,h.so,zt9 h.hR,?_⟩
    ·dsimp only at hx;unfold i6 at hx;split at hx
     ·cases hx
     ·exact List.mem_of_mem_erase hx
    ·dsimp only;unfold i6;split
     ·exact mb _
     ·exact mq (List.length_erase_le ..) (zt9 h.hP)
   ·exact h.mono (zss _)
  | false=>
   rw[nc E];refine⟨h.last,fun x hx=>?_,h.so,zt9 h.hR,?_⟩
   ·rcases mj.1 hx with hx | hx
    ·exact h.pin x hx
    ·rw[my.1 hx];exact hk
   ·have:=h.hP;dsimp only;rw[List.length_append,List.length_singleton];omega
 ·rw[nc hk];exact h.mono (zss _)
def Xs(hk:1<=k):((S.R.length:Nat):Int)∉lp S.P (kx S.R) k:=fun hm=>by
 unfold lp at hm;have h1:=(zsb.1 hm).1;obtain⟨i,hi⟩:=zsf h1;have hil:i<(kx S.R).length-k:=by have:=get_lt hi;rw[mh] at this;omega
 rw[zua hil] at hi;obtain⟨y,hy⟩:=xj (show i+1<(kx S.R).length by omega);have h3:=zs9.1 (l9 S.R) i (i+1) (get_lt hi) (get_lt hy) (zuk i);rw[ue hi,ue hy,Ms] at h3;have:=f7 (jk.1 (mz hy));omega
def Pj{P0:List Int}{g:Int}(hg:g∈lp P0 (kx R) k):(kpt R g).isSome=true/\g∉P0:=by
 unfold lp at hg;have h1:=zsb.1 hg;exact⟨jk.1 (zt4 h1.1),fun hm=>by have:=zs4.2 hm;have h2:=h1.2;simp at h2;omega⟩
def zlg(h:JJ n S)(keep:Int):JJ (n+1) (cy S keep).1:=by
 unfold cy;split
 ·rename_i hk;have hp:∀ g∈lp S.P (kx S.R) keep.toNat,0<g:=fun g hg=>(f7 (Pj hg).1).1;refine⟨?_,fun r hr=>?_,fun r t ht=>?_,?_,zt9 h.hP⟩
  ·dsimp only;rw[cz,Dh hp,if_neg (Xs J)];exact h.last
  ·dsimp only;rw[Dh hp,if_neg (fun hm=>(Pj hm).2 hr)];exact h.pin r hr
  ·dsimp only at ht |-;rw[Dh hp] at ht;rw[cz];split at ht
   ·cases ht
   ·exact h.so r t ht
  ·dsimp only;rw[cz];exact Nat.le_succ_of_le h.hR
 ·exact h.mono (zss _)
def zp8(h:JJ n S)(hn:n<=100)(o:OO):JJ (n+1) (doS S o):=by
 unfold doS;split
 ·exact T8 h hn (zi0 _) (Bw _)
 ·split
  ·exact zix h _ _
  ·split
   ·exact zix h _ _
   ·exact zlg h _
def zfn{es:Ent}(hm:MapOK es R){out:List Int}(hp:out.Perm (es.map Prod.fst)):(Go.Sort.sort So.lt out.toArray).toList=kx R:=by
 have h1:(Go.Sort.sort So.lt out.toArray).toList=out.mergeSort (fun x y=>decide (x<=y)):=Go.Sort.sortInt out;rw[h1];have hperm:=List.mergeSort_perm out (fun x y=>decide (x<=y));have hnd:(out.mergeSort (fun x y=>decide (x<=y))).Nodup:=(hperm.trans hp).nodup_iff.2 hm.nd;have hs:(out.mergeSort (fun x y=>decide (x<=y))).Pairwise fun a b=>decide (a<=b)=true:=List.pairwise_mergeSort (le:=fun x y:Int=>decide (x<=y)) (fun a b c h1 h2=>by simp at h1 h2 |-;omega) (fun a b=>by simp;omega) out;refine pg vz ?_ (l9 R) fun z=>?_
 ·refine(List.Pairwise.and hs hnd).imp ?_;rintro a b ⟨h2,h3⟩;have h4:a<=b:=by simpa using h2
  have h5:a≠b:=h3;exact Ms.2 J
 ·rw[(hperm.trans hp).mem_iff,hm.mem]
def Ht{α:Type}:∀ {l:List α} {j:Nat} {x:α},l[j]?=some x->(x::l.eraseIdx j).Perm l
 | [],_,_,h=>by cases h
 | y::l,0,x,h=>by cases h;exact List.Perm.refl _
 | y::l,j+1,x,h=>by
  have:=Ht (l:=l) (j:=j) (x:=x) (by simpa using h);exact(List.Perm.swap y x _).trans (this.cons y)
def zcx{left:Ent}{p:Int×(List U×Value)}(h:left[j]?=some p)(out:List Int):(out++[p.1]++(left.eraseIdx j).map Prod.fst).Perm (out++left.map Prod.fst):=by
 have h1:(p::left.eraseIdx j).Perm left:=Ht h;rw[mp];refine List.Perm.append_left out ?_;simpa using h1.map Prod.fst
attribute [local irreducible] V N X VO Par StepOK Has Ret RetL RetO RetT jh RetX RetY Src
abbrev zo2(R:List (Option (List U))):Res:=SlE A0 1 (kx R).length ((kx R).map (Value.int .u64))
set_option maxRecDepth 10000 in
def ey{t:Nat}{s:Value}{es:Ent}(hm:MapOK es R)(hn:R.length≠0)(hz:es.length<=100000)(hB:zwe B w)(hr:(StO b R.length m s t es).P B w C)(hC:ZCB C w B):
  RetT zwf 85 [.pointer (some ⟨b,0,none⟩)] w B C (ej (zo2 R) (StO b R.length m s t es).res):=by
 have hlen:=hm.len;rw[show zo2 R=SlE A0 1 es.length ((kx R).map (Value.int .u64)) by rw[hlen]];unfold RetT;refine yz 900 (StO b R.length m s t es) Tryz.func85 Z Tryz.ntmps85 (np Z) hB hr hC ?_;rw[bu];refine ZdS (h:=?_);refine ZbD (h:=?_);refine ye (xz L 900 (Φ:=fun H=>H b=some (.cells (stc R.length m s t).toArray tyS)) (c:=.bool false) Z Z (zn Z) Z Z Z Z Z Ce (fun u H hH hle hb=>none_ret hn hb hH)) ((Zs∘Zz∘ZR) ?_);refine ye (Rf (q:=901) (vc:=vcE) mpS Z Z Z Z Z) (z7 (zbw L es.length Z Z Z zes Z Z Z J (by unfold maxLen;omega)) Z ?_);refine qf (yo (.inr Z) Z) (Zan (h:=?_));refine zh3 3 902 rfl fun b3 rest0 _ _ hcm hcl0=>?_;refine Zc0 (h:=?_);refine qf (zbs (q:=901) (vc:=vcE) mpS Z Z Z Z) (Zdq (h:=?_))
 refine xu (fun zv9:(List Int×List Value)×Ent=>[(3,.is (.slice (some ⟨b3,0,none⟩) zv9.1.1.length es.length)),(17,.own (zh5 m .u64 vcE es zv9.2)),(900,.own (xr b (stc R.length m s t) tyS)),(902,.own (xr b3 (zv9.1.1.map (Value.int .u64)++zv9.1.2) A0))])
  (fun zv9=>(zv9.1.1++zv9.2.map Prod.fst).Perm (es.map Prod.fst)/\(zv9.1.1.map (Value.int .u64)++zv9.1.2).length=es.length*1) (fun zv9=>zv9.2.length) (([],rest0),es) ⟨List.Perm.refl _,hcl0⟩ ⟨rfl,rfl,rfl,rfl,nm⟩ ?_
 rintro⟨⟨out,rest⟩,left⟩ ⟨hp,hcl⟩;dsimp only at hp hcl |-;have hpl:=hp.length_eq;rw[nr,mg,mg] at hpl;by_cases hl:left=[]
 ·subst hl;rw[zr7,mi] at hp;have hol:out.length=es.length:=by simpa using hpl
  have hr0:rest=[]:=zrv (by rw[nr,mg] at hcl;omega);subst hr0;rw[hol];have hsk:=zfn hm hp;refine(Zi∘ZF) ?_;refine z7 (zbt Z Z Z Z Z) Z ((ZeG∘ZfN∘Zdz) ?_);refine zov 17 901 rfl ?_;refine Za5 (h:=?_);refine qf (xg L 902 (xd b3 ((kx R).map (Value.int .u64)++[]) So.tyU) (r:=xd b3 (out.map (Value.int .u64)++[]) So.tyU) Z Z Z Z Z (fun u H C hH _ hr hC=>by have h:=So.sortU_ret (d:=out.toArray) (rest:=[]) (b:=b3) (m:=es.length) (cap:=es.length) (by simpa using hol) hz hH hr hC;unfold uC at h;rw[hsk] at h;exact h)) ?_;refine Zk (h:=?_);rw[xe,show(kx R).map (Value.int .u64)++[]=(kx R).map (Value.int .u64) from mi _];refine zjd (s:=1) 3 902 rfl Z (by rw[List.length_map,hlen,Nat.mul_one]) (by unfold maxLen;omega) ?_;refine ZM (h:=?_);refine qf (yo (.inl Z) Z) (qf (yo (.inr Z) Z) (ZB (h:=?_)));refine ZdF (h:=?_);refine jy 2 900 rfl Z (xi (StO b R.length m s t es)) ?_;exact F2 Z (fun _ _ h=>h) nq Z
 ·have hll:0<left.length:=zuo.2 hl;have hroom:out.length+1<=es.length:=J;have hrl:0<rest.length:=by rw[nr,mg] at hcl;omega
  have hcl2:out.length*1+1*1<=(out.map (Value.int .u64)++rest).length:=by rw[hcl];omega
  have hrr:∀ k:Int,(out.map (Value.int .u64)++rest).take (out.length*1)++([Value.int .u64 k]++(out.map (Value.int .u64)++rest).drop (out.length*1+1*1))=(out++[k]).map (Value.int .u64)++rest.drop 1:=fun k=>by
   have e1:(out.map (Value.int .u64)).length=out.length*1:=by simp
   rw[<-e1,zsm,m8 (nu _),zsx,zr0,mi,zsp,zrx J,mo,show(out.map (Value.int .u64)).length+1*1-(out.map (Value.int .u64)).length=1 by omega];simp
  refine(Zi∘ZF) ?_;refine ze1 Z Z hl Z Z Z (fun j p hjp=>?_);refine(ZeG∘ZfM∘Zbe∘Z5) ?_;refine z7 (zb0 Z Z Z) Z ((ZeG∘Zc∘Z7∘Zb∘ZJ) ?_);refine qf (Ri L (q:=902) Z Z Z Z (eg Z) Z zes J Z hroom hcl2 Z (hrr _)) (Zce (h:=?_));refine zmf 17 (zh5 m .u64 vcE es (left.eraseIdx j)) Z zm7 ?_
  exact yr (x:=((out,rest),left)) ((out++[p.1],rest.drop 1),left.eraseIdx j) ⟨(zcx hjp out).trans hp,by
   dsimp only;rw[nr,mg,nr,m9];rw[nr,mg] at hcl;simp only[ma,m7];omega⟩ (by dsimp only;rw[List.length_eraseIdx_of_lt (get_lt hjp)];omega) ⟨by rw[List.length_append];rfl,rfl,rfl,rfl,trivial⟩
end Go.V.L10
namespace Go.V
section
variable {β:Type} [DecidableEq α] [DecidableEq β] {k:α->β} {c:β->β->Int}
def Eqv(k:α->β)(S S':List α):Prop:=∀ t,S'.filter (fun x=>decide (k x=t))=S.filter (fun x=>decide (k x=t))
def Srt(k:α->β)(c:β->β->Int)(l:List α):Prop:=l.Pairwise fun x y=>¬ c (k y) (k x)<0
def Stb(k:α->β)(c:β->β->Int)(S S':List α):Prop:=Srt k c S'/\Eqv k S S'
omit [DecidableEq α] in
theorem Eqv.refl(S:List α):Eqv k S S:=fun _=>rfl
omit [DecidableEq α] in
theorem Eqv.trans{A B C:List α}(h1:Eqv k A B)(h2:Eqv k B C):Eqv k A C:=fun t=>(h2 t).trans (h1 t)
omit [DecidableEq α] in
theorem Eqv.app{A A' B B':List α}(h1:Eqv k A A')(h2:Eqv k B B'):Eqv k (A++B) (A'++B'):=fun t=>by rw[zt0,zt0,h1 t,h2 t]
omit [DecidableEq α] in
theorem Eqv.swap{A B:List α}(h:∀ a∈A,∀ b∈B,k a≠k b):Eqv k (A++B) (B++A):=fun t=>by
 rw[zt0,zt0];by_cases ha:∃ a∈A,k a=t
 ·obtain⟨a,ha,rfl⟩:=ha;have:B.filter (fun x=>decide (k x=k a))=[]:=zva.2 fun b hb e=>h a ha b hb (by simpa using e:k b=k a).symm;rw[this,mi,mo]
 ·have:A.filter (fun x=>decide (k x=t))=[]:=zva.2 fun a h1 e=>ha ⟨a,h1,by simpa using e⟩;rw[this,mi,mo]
theorem Eqv.count{S S':List α}(h:Eqv k S S')(x:α):S'.count x=S.count x:=by
 have e:∀ l:List α,(l.filter fun y=>decide (k y=k x)).count x=l.count x:=fun l=>List.count_filter (by simp);rw[<-e S',<-e S,h (k x)]
theorem Eqv.perm{S S':List α}(h:Eqv k S S'):S'.Perm S:=List.perm_iff_count.2 fun x=>h.count x
theorem Eqv.length{S S':List α}(h:Eqv k S S'):S'.length=S.length:=h.perm.length_eq
theorem Eqv.mem{S S':List α}(h:Eqv k S S'){x:α}:x∈S'↔x∈S:=h.perm.mem_iff
omit [DecidableEq α] [DecidableEq β] in
theorem cp{A B:List α}:Srt k c (A++B)↔Srt k c A/\Srt k c B/\∀ a∈A,∀ b∈B,¬ c (k b) (k a)<0:=zsr
omit [DecidableEq α] [DecidableEq β] in
theorem zcr(ho:Ord3 c){a b:β}(h:c a b<0):b≠a:=fun e=>by subst e;exact ho.irr _ h
omit [DecidableEq α] in
theorem Qr(ho:Ord3 c){A B:List α}{x:α}(hs:Srt k c (A++B))(ha:∀ a∈A,¬ c (k x) (k a)<0)(hb:∀ b∈B,c (k x) (k b)<0):Stb k c (A++B++[x]) (A++x::B):=by
 obtain⟨s1,s2,s3⟩:=cp.1 hs;refine⟨cp.2 ⟨s1,mn.2 ⟨fun b h=>ho.asym (hb b h),s2⟩,fun a h b hm=>?_⟩,?_⟩
 ·rcases nz.1 hm with rfl | hm
  ·exact ha a h
  ·exact s3 a h b hm
 ·rw[mp]
  exact(Eqv.refl A).app (Eqv.swap (A:=B) (B:=[x]) fun b h y hy=>by
   simp at hy;subst hy;exact zcr ho (hb b h))
omit [DecidableEq α] in
theorem zj1(ho:Ord3 c){A B:List α}{x:α}(hs:Srt k c (A++B))(ha:∀ a∈A,c (k a) (k x)<0)(hb:∀ b∈B,¬ c (k b) (k x)<0):Stb k c (x::(A++B)) (A++x::B):=by
 obtain⟨s1,s2,s3⟩:=cp.1 hs;refine⟨cp.2 ⟨s1,mn.2 ⟨hb,s2⟩,fun a h b hm=>?_⟩,?_⟩
 ·rcases nz.1 hm with rfl | hm
  ·exact ho.asym (ha a h)
  ·exact s3 a h b hm
 ·have e:A++x::B=A++[x]++B:=by simp
  have e2:x::(A++B)=[x]++A++B:=by simp
  rw[e,e2]
  exact(Eqv.swap (A:=[x]) (B:=A) fun y hy a h=>by
   simp at hy;subst hy;exact zcr ho (ha a h)).app (Eqv.refl B)
theorem zfi(ho:Ord3 c){A1 A2 B1 B2 S1 S2:List α}(hA:Srt k c (A1++A2))(hB:Srt k c (B1++B2))(h12:∀ a∈A2,∀ b∈B1,c (k b) (k a)<0)(h21:∀ a∈A1,∀ b∈B2,¬ c (k b) (k a)<0)
  (h1:Stb k c (A1++B1) S1) (h2:Stb k c (A2++B2) S2):Stb k c (A1++A2++(B1++B2)) (S1++S2):=by
 obtain⟨a1,a2,a3⟩:=cp.1 hA;obtain⟨b1,b2,b3⟩:=cp.1 hB;refine⟨cp.2 ⟨h1.1,h2.1,fun x hx y hy=>?_⟩,?_⟩
 ·rcases mj.1 (h1.2.mem.1 hx) with hx | hx<;>rcases mj.1 (h2.2.mem.1 hy) with hy | hy
  ·exact a3 x hx y hy
  ·exact h21 x hx y hy
  ·exact ho.asym (h12 y hy x hx)
  ·exact b3 x hx y hy
 ·refine Eqv.trans ?_ (h1.2.app h2.2);have e1:A1++A2++(B1++B2)=A1++(A2++B1)++B2:=by simp
  have e2:A1++B1++(A2++B2)=A1++(B1++A2)++B2:=by simp
  rw[e1,e2];exact((Eqv.refl A1).app (Eqv.swap fun a ha b hb=>zcr ho (h12 a ha b hb))).app (Eqv.refl B2)
omit [DecidableEq α] [DecidableEq β] in
theorem ik(ho:Ord3 c){l:List α}(h:Srt k c l){x y:α}(hi:l[i]?=some x)(hj:l[j]?=some y)(hij:i<=j):¬ c (k y) (k x)<0:=by
 rcases m5 i j with h1 | h1
 ·obtain⟨hi',rfl⟩:=zs2.1 hi;obtain⟨hj',rfl⟩:=zs2.1 hj;exact zs9.1 h i j hi' hj' h1
 ·have:i=j:=J;subst this;rw[hi] at hj;cases hj;exact ho.irr _
end
end Go.V
namespace Go.V
section
variable {β:Type} [DecidableEq α] [DecidableEq β] {k:α->β} {c:β->β->Int}
theorem S5(ho:Ord3 c):∀ {S S':List α},Srt k c S->Srt k c S'->Eqv k S S'->S'=S
 | [],S',_,_,h=>zrv (by rw[h.length];rfl)
 | x::r,[],_,_,h=>by have:=h.length;simp at this
 | x::r,y::r',h1,h2,h=>by
  have hxy:k x=k y:=by
   have hx:x∈y::r':=h.mem.2 (mc ..);have hy:y∈x::r:=h.mem.1 (mc ..)
   have e1:¬ c (k x) (k y)<0:=by
    rcases nz.1 hx with e | hx
    ·rw[e];exact ho.irr _
    ·exact(mn.1 h2).1 x hx
   have e2:¬ c (k y) (k x)<0:=by
    rcases nz.1 hy with e | hy
    ·rw[e];exact ho.irr _
    ·exact(mn.1 h1).1 y hy
   have:=ho.anti (k x) (k y);exact ho.eq _ _ J
  have hf:=h (k x);rw[zty (by simp [hxy]),zty (by simp)] at hf;have hxe:y=x:=(List.cons.inj hf).1;subst hxe
  have ht:Eqv k r r':=fun t=>by
   have:=h t;by_cases e:k y=t
   ·rw[zty (by simpa using e),zty (by simpa using e)] at this;exact(List.cons.inj this).2
   ·rwa [zup (by simpa using e),zup (by simpa using e)] at this
  rw[S5 ho (mn.1 h1).2 (mn.1 h2).2 ht]
omit [DecidableEq α] in
theorem Eqv.symm{A B:List α}(h:Eqv k A B):Eqv k B A:=fun t=>(h t).symm
theorem zfg(ho:Ord3 c){l S S':List α}(h:Stb k c l S)(h':Stb k c l S'):S'=S:=S5 ho h.1 h'.1 (h.2.symm.trans h'.2)
def zlj(k:α->β)(c:β->β->Int)(x:α):List α->List α
 | []=>[x]
 | y::l=>if c (k x) (k y)<0 then x::y::l else y::zlj k c x l
omit [DecidableEq α] [DecidableEq β] in
theorem Hn(ho:Ord3 c){x:α}:∀ {S:List α},Srt k c S->∃ A B,S=A++B/\zlj k c x S=A++x::B/\(∀ a∈A,¬ c (k x) (k a)<0)/\∀ b∈B,c (k x) (k b)<0
 | [],_=>⟨[],[],rfl,rfl,fun a h=>(by cases h),fun a h=>(by cases h)⟩
 | y::l,h=>by
  obtain⟨h1,h2⟩:=mn.1 h;by_cases hxy:c (k x) (k y)<0
  ·refine⟨[],y::l,rfl,na hxy,fun a h=>(by cases h),fun b hb=>?_⟩;rcases nz.1 hb with rfl | hb
   ·exact hxy
   ·have h3:=h1 b hb;have:=ho.anti (k b) (k y);by_cases h4:c (k y) (k b)<0
    ·exact ho.tr hxy h4
    ·rw[<-ho.eq (k y) (k b) J];exact hxy
  ·obtain⟨A,B,e1,e2,e3,e4⟩:=Hn ho (x:=x) h2;refine⟨y::A,B,by rw[e1];rfl,?_,fun a ha=>?_,e4⟩
   ·rw[zlj,nc hxy,e2];rfl
   ·rcases nz.1 ha with rfl | ha
    ·exact hxy
    ·exact e3 a ha
def Gc(k:α->β)(c:β->β->Int)(l:List α):List α:=l.foldl (fun S x=>zlj k c x S) []
omit [DecidableEq α] [DecidableEq β] in
theorem zj4:Srt k c []:=List.Pairwise.nil
omit [DecidableEq α] in
theorem zfh(ho:Ord3 c){l S:List α}{x:α}(h:Stb k c l S):Stb k c (l++[x]) (zlj k c x S):=by
 obtain⟨A,B,e1,e2,e3,e4⟩:=Hn ho (x:=x) h.1;have h1:=h.1;rw[e1] at h1;have h2:=Qr ho h1 e3 e4;rw[e2];rw[<-e1] at h2;exact⟨h2.1,(h.2.app (Eqv.refl [x])).trans h2.2⟩
omit [DecidableEq α] in
theorem fh(ho:Ord3 c)(l:List α):Stb k c l (Gc k c l):=by
 suffices ∀ (r l S:List α),Stb k c l S->Stb k c (l++r) (r.foldl (fun S x=>zlj k c x S) S) by
  have:=this l [] [] ⟨zj4,Eqv.refl _⟩;exact this
 intro r
 induction r with
 | nil=>intro l S h;rw[mi];exact h
 | cons x r ih=>
  intro l S h;have:=ih (l++[x]) (zlj k c x S) (zfh ho h);rw[mp] at this;exact this
theorem Gu(ho:Ord3 c){l S:List α}(h:Stb k c l S):S=Gc k c l:=zfg ho (fh ho l) h
theorem S4(ho:Ord3 c)(l:List α):(Gc k c l).length=l.length:=(fh (k:=k) ho l).2.length
omit [DecidableEq α] [DecidableEq β] in
theorem zfk:Gc k c []=[]:=rfl
theorem zfj(ho:Ord3 c){l:List α}(h:Srt k c l):Gc k c l=l:=(Gu ho ⟨h,Eqv.refl l⟩).symm
theorem zfl(ho:Ord3 c)(X Y:List α):Gc k c (Gc k c X++Gc k c Y)=Gc k c (X++Y):=
 Gu ho ⟨(fh ho _).1,(((fh ho X).2.app (fh ho Y).2)).trans (fh ho _).2⟩
theorem zli(ho:Ord3 c){X A B:List α}{x:α}(h:A++B=Gc k c X)(hb:∀ b∈B,c (k x) (k b)<0)(ha:∀ y,A.getLast?=some y->¬ c (k x) (k y)<0):A++x::B=Gc k c (X++[x]):=by
 have hs:=(fh (k:=k) ho X).1;rw[<-h] at hs
 have hA:∀ a∈A,¬ c (k x) (k a)<0:=fun a ham=>by
  rcases zv6 A with e | ⟨A',y,rfl⟩
  ·subst e;cases ham
  ·have h1:=ha y (by simp);simp only[zvs,mj,my] at ham;rcases ham with ham | rfl
   ·have h2:=(cp.1 hs).1;simp only[zvs] at h2;have h3:=(cp.1 h2).2.2 a ham y (by simp);have e1:=ho.anti (k y) (k a);intro h4;refine h1 ?_;by_cases h5:c (k a) (k y)<0
    ·exact ho.tr h4 h5
    ·rw[<-ho.eq (k a) (k y) J];exact h4
   ·exact h1
 have h1:=Qr ho hs hA hb;rw[h] at h1;exact Gu ho ⟨h1.1,((fh (k:=k) ho X).2.app (Eqv.refl [x])).trans h1.2⟩
def chS(k:α->β)(c:β->β->Int)(n:Nat):Nat->List α->List α
 | 0,_=>[]
 | f+1,l=>if l=[] then [] else Gc k c (l.take n)++chS k c n f (l.drop n)
omit [DecidableEq α] [DecidableEq β] in
theorem ox(n f:Nat):chS k c n f []=[]:=by cases f<;>simp [chS]
omit [DecidableEq α] [DecidableEq β] in
theorem Us{n:Nat}(hn:0<n):∀ {f g:Nat} {l:List α},l.length<=f->l.length<=g->chS k c n f l=chS k c n g l
 | 0,g,l,hf,_=>by obtain rfl:l=[]:=zrv J;rw[ox,ox]
 | f+1,0,l,_,hg=>by obtain rfl:l=[]:=zrv J;rw[ox,ox]
 | f+1,g+1,l,hf,hg=>by
  by_cases h:l=[]
  ·subst h;rw[ox,ox]
  ·rw[chS,chS,nc h,nc h];have:0<l.length:=zuo.2 h;rw[Us hn (f:=f) (g:=g) (by rw[m9];omega) (by rw[m9];omega)]
def chL(k:α->β)(c:β->β->Int)(n:Nat)(l:List α):List α:=chS k c n l.length l
omit [DecidableEq α] [DecidableEq β] in
theorem Mq(hn:0<n)(l:List α):chL k c n l=Gc k c (l.take n)++chL k c n (l.drop n):=by
 unfold chL;by_cases h:l=[]
 ·subst h;simp [ox,zfk]
 ·have:0<l.length:=zuo.2 h;obtain⟨m,hm⟩:∃ m,l.length=m+1:=⟨l.length-1,by omega⟩
  rw[hm,chS,nc h,Us hn (f:=m) (g:=(l.drop n).length) (by rw[m9];omega) (nu _)]
omit [DecidableEq α] [DecidableEq β] in
theorem R8(n:Nat):chL k c n []=[]:=ox _ _
omit [DecidableEq α] [DecidableEq β] in
theorem zlz(hn:0<n){l:List α}(h:l.length<=n):chL k c n l=Gc k c l:=by
 rw[Mq hn,m8 h,zrx h,R8,mi]
theorem zd8(ho:Ord3 c){n:Nat}(hn:0<n):∀ (m:Nat) {l:List α},l.length<=m->(chL k c n l).length=l.length
 | 0,l,h=>by obtain rfl:l=[]:=zrv J;rw[R8]
 | m+1,l,h=>by
  by_cases h0:l=[]
  ·subst h0;rw[R8]
  ·have:0<l.length:=zuo.2 h0;rw[Mq hn,nr,S4 ho,zd8 ho hn m (by rw[m9];omega),<-nr,zry]
end
end Go.V
namespace Go.V.L8
open Go.V Go.V.L2 Go.V.L3 Go.V.L6
def Fs(l:List CH):(l.flatMap ccs).length=l.length*7:=gk zd9 l
def Un(l:List CH):(l.flatMap ccs).all wz=true:=by
 induction l with
 | nil=>rfl
 | cons x l ih=>rw[zsi,List.all_append,ih];rfl
abbrev ch7(c:CH):List Value:=[.string c.1.1.1.1,.string c.1.1.1.2,.string c.1.1.2,.string c.1.2.1.1,.string c.1.2.1.2,.string c.1.2.2,.bool c.2]
def v7{t:CH}(h:l[i]?=some t)(off:Nat)(ho:off=i*7):∃ r,(l.flatMap ccs++rest).drop off=ch7 t++r:=by
 subst ho;have h1:((l.flatMap ccs).drop (i*7)).take 7=ch7 t:=rq h;have h2:=get_lt h;refine⟨((l.flatMap ccs).drop (i*7)).drop 7++rest,?_⟩;rw[List.drop_append_of_le_length (by rw[Fs];exact ztr _ J),<-mp];congr 1;rw[<-h1,zry]
def dj{ls:List CH}{z:CH}(h:k<ls.length)(off:Nat)(ho:off=k*7):(ls.flatMap ccs++rest).take off++(ch7 z++(ls.flatMap ccs++rest).drop (off+7))=(ls.set k z).flatMap ccs++rest:=by
 subst ho;have e1:ls=ls.take k++(ls[k]::ls.drop (k+1)):=by rw[List.getElem_cons_drop,zry]
 have hk:(ls.take k).length=k:=by rw[mh];omega
 have e2:ls.set k z=ls.take k++(z::ls.drop (k+1)):=by
  conv=>lhs;rw[e1]
  rw[List.set_append_right _ _ J,hk,zsx];rfl
 rw[e2];generalize ls.take k=A at e1 hk;generalize ls.drop (k+1)=D at e1;generalize ls[k]=y at e1;subst e1;have hA:(A.flatMap ccs).length=k*7:=by rw[Fs,hk]
 simp only[zr5,zsi,mp];rw[List.take_left' hA,show k*7+7=(A.flatMap ccs).length+7 by omega,<-ztb,zvi,show(ccs y++(D.flatMap ccs++rest)).drop 7=D.flatMap ccs++rest from List.drop_left' rfl];rfl
def dk{ls:List CH}(h:k<ls.length)(off:Nat)(ho:off=k*7):Nat.ble (off+7) (ls.flatMap ccs++rest).length=true:=zuj (by rw[nr,Fs];omega)
section
variable  {A zwb D:List α} {x y:α}
def C7(h:A.length=i):(A++x::(zwb++y::D))[i]?=some x:=by subst h;simp
def C6(h:A.length+1+zwb.length=j):(A++x::(zwb++y::D))[j]?=some y:=by
 subst h;have e:A++x::(zwb++y::D)=(A++x::zwb)++y::D:=by simp
 rw[e,zvp (by simp;omega)];simp;rw[show A.length+1+zwb.length-(A.length+(zwb.length+1))=0 by omega];rfl
def Ql(hi:A.length=i)(hj:A.length+1+zwb.length=j):((A++x::(zwb++y::D)).set i y).set j x=A++y::(zwb++x::D):=by
 subst hi hj;have e:(A++x::(zwb++y::D)).set A.length y=(A++y::zwb)++y::D:=by simp
 rw[e,List.set_append_right _ _ (by simp;omega)];simp;rw[show A.length+1+zwb.length-(A.length+(zwb.length+1))=0 by omega];rfl
def Sw(hi:A.length=i)(hj:A.length+1+zwb.length=j):((A++x::(zwb++y::D)).set j x).set i y=A++y::(zwb++x::D):=by
 rw[List.set_comm _ _ J];exact Ql hi hj
end
attribute [local irreducible] V N X VO Par StepOK Has Ret RetL RetO RetT Src
def Qo{X Q Y R:List CH}{e:Nat}(ha:P.length=a)(he:a+X.length+Q.length=e)(hx:X.length=n)(hy:Y.length=n)(hm:(P++(X++(Q++(Y++R)))).length=m)(hm1:m<=100000)(fv:Value)(hB:zwe B w)
  (hr:(xd b ((P++(X++(Q++(Y++R)))).flatMap ccs++rest) tyC).P B w C) (hC:ZCB C w B):
  jh zwf 319 [.slice (some ⟨b,0,none⟩) m cap,.int .i64 a,.int .i64 e,.int .i64 n,fv] w B C (xd b ((P++(Y++(Q++(X++R)))).flatMap ccs++rest) tyC):=by
 unfold jh;refine yz 900 (xd b ((P++(X++(Q++(Y++R)))).flatMap ccs++rest) tyC) Tryz.func319 Z Tryz.ntmps319 (np Z) hB hr hC ?_;rw[xe];simp only[nr] at hm;refine(ZT∘Zae) ?_;refine xu (fun i:Nat=>[(0,.is (.slice (some ⟨b,0,none⟩) m cap)),(1,.is (.int .i64 a)),(2,.is (.int .i64 e)),(3,.is (.int .i64 n)),(10,.is (.int .i64 i)),(900,.own (xr b ((P++(Y.take i++(X.drop i++(Q++(X.take i++(Y.drop i++R)))))).flatMap ccs++rest) tyC))]) (fun i=>i<=n) (fun i=>n-i) 0 (mb _) ⟨Z,Z,Z,Z,Z,by simp only[zr0,zsj,mo];rfl,nm⟩ ?_;rintro i hi;by_cases hlt:i<n
 ·obtain⟨x,hxi⟩:=xj (l:=X) (show i<X.length by omega);obtain⟨y,hyi⟩:=xj (l:=Y) (show i<Y.length by omega)
  have e0:P++(Y.take i++(X.drop i++(Q++(X.take i++(Y.drop i++R)))))=(P++Y.take i)++x::((X.drop (i+1)++(Q++X.take i))++y::(Y.drop (i+1)++R)):=by
   rw[im hxi,im hyi];simp
  have e1:P++(Y.take (i+1)++(X.drop (i+1)++(Q++(X.take (i+1)++(Y.drop (i+1)++R)))))=(P++Y.take i)++y::((X.drop (i+1)++(Q++X.take i))++x::(Y.drop (i+1)++R)):=by
   rw[zr4,zr4,hxi,hyi];simp
  have l1:(P++Y.take i).length=a+i:=by rw[nr,mh];omega
  have l2:(P++Y.take i).length+1+(X.drop (i+1)++(Q++X.take i)).length=e+i:=by rw[l1,nr,nr,m9,mh];omega
  have g1:=C7 (x:=x) (y:=y) (zwb:=X.drop (i+1)++(Q++X.take i)) (D:=Y.drop (i+1)++R) l1;have g2:=C6 (x:=x) (y:=y) (D:=Y.drop (i+1)++R) l2;have g3:=Ql (x:=x) (y:=y) (D:=Y.drop (i+1)++R) l1 l2;rw[e0];have hlen:((P++Y.take i)++x::((X.drop (i+1)++(Q++X.take i))++y::(Y.drop (i+1)++R))).length=m:=by rw[<-e0];simp only[nr,mh,m9];omega
  generalize (P++Y.take i)++x::((X.drop (i+1)++(Q++X.take i))++y::(Y.drop (i+1)++R))=zwd at *;have h1:=get_lt g1;have h2:=get_lt g2;have q1:=v7 (rest:=rest) g1 (0+(a+i)*7) J;have q2:=v7 (rest:=rest) g2 (0+(e+i)*7) J;have s1:=dj (rest:=rest) (z:=y) h1 (0+(a+i)*7) J;have b1:=dk (rest:=rest) h1 (0+(a+i)*7) J;have h3:e+i<(zwd.set (a+i) y).length:=by rw[zt2];exact h2
  have s2:=dj (rest:=rest) (z:=x) h3 (0+(e+i)*7) J;have b2:=dk (rest:=rest) h3 (0+(e+i)*7) J;rw[g3,<-e1] at s2;have a1:IntKind.i64.wrap ((a:Int)+(i:Int))=((a+i:Nat):Int):=xb J J;have a2:IntKind.i64.wrap ((e:Int)+(i:Int))=((e+i:Nat):Int):=xb J J;refine(Zd∘ZI∘Zb∘Zbp∘Zbw) ?_;refine qp (id:=3) [(200029,[900]),(200035,[900]),(100036,[900]),(100037,[900])] kr T ((ZcX∘ZcX∘Zcu) ?_);refine qy (jd L (q:=900) (vs:=[_,_,_,_,_,_,_]) Z Z Z Z q2) Z Z (Zcu (h:=?_));refine qy (jd L (q:=900) (vs:=[_,_,_,_,_,_,_]) Z Z Z Z q1) Z Z (Zp (h:=?_));refine xw (yq L (q:=900) Z Z b1 Z s1) Z (Zp (h:=?_));refine xw (yq L (q:=900) Z Z b2 Z s2) Z ((ZbP∘Zn∘Zaa) ?_);exact yr (x:=i) (i+1) J J ⟨Z,Z,Z,Z,Z,Z,nm⟩
 ·obtain rfl:i=n:=by omega
  have t1:X.take i=X:=m8 J;have t2:Y.take i=Y:=m8 J;have t3:X.drop i=[]:=zrx J;have t4:Y.drop i=[]:=zrx J;rw[t1,t2,t3,t4];simp only[mo];refine(Zd∘ZI∘Zb∘Zbc∘ZaZ) ?_;exact ki L 900 (r:=xd b _ tyC) Z (fun _ _ h=>h) nq Z Z
end Go.V.L8
namespace Go.V.L8
open Go.V.L2 Go.V.L3 Go.V.L6
def _root_.ZfK(t:Wr Y->A:=by intro h;refine qp (id:=4) [(200026,[900]),(200031,[900])] kr T ?_;exact h.1)(h:Y):A:=t ⟨h⟩
def stC(l:List CH):List CH:=Gc (fun c=>c.1) js l
def eo(l:List CH):(stC l).length=l.length:=S4 cmpT_ord l
attribute [local irreducible] V N X VO Par StepOK Has Ret RetL RetO RetT jh Src
def zkc{X Y R:List CH}{e:Nat}(ha:P.length=a)(hmm:a+X.length=mm)(he:mm+Y.length=e)(hx:0<X.length)(hy:0<Y.length)(hm:(P++(X++(Y++R))).length=m)(hm1:m<=100000)(fv:Value)(hB:zwe B w)
  (hr:(xd b ((P++(X++(Y++R))).flatMap ccs++rest) tyC).P B w C) (hC:ZCB C w B):
  jh zwf 318 [.slice (some ⟨b,0,none⟩) m cap,.int .i64 a,.int .i64 mm,.int .i64 e,fv] w B C (xd b ((P++(Y++(X++R))).flatMap ccs++rest) tyC):=by
 unfold jh;refine yz 900 (xd b ((P++(X++(Y++R))).flatMap ccs++rest) tyC) Tryz.func318 Z Tryz.ntmps318 (np Z) hB hr hC ?_;rw[xe];simp only[nr] at hm;have s1:IntKind.i64.wrap ((mm:Int)-(a:Int))=(X.length:Int):=xb J J |>.trans J;have s2:IntKind.i64.wrap ((e:Int)-(mm:Int))=(Y.length:Int):=xb J J |>.trans J;refine(ZT∘ZaR∘Zad∘ZaR∘Ze∘Za7) ?_
 refine xu (fun s:(List CH×List CH)×(List CH×List CH)=>[(0,.is (.slice (some ⟨b,0,none⟩) m cap)),(2,.is (.int .i64 mm)),(4,.is fv),(10,.is (.int .i64 s.1.2.length)),(11,.is (.int .i64 s.2.1.length)),(900,.own (xr b ((P++(s.1.1++(s.1.2++(s.2.1++(s.2.2++R))))).flatMap ccs++rest) tyC))])
  (fun s=>a+s.1.1.length+s.1.2.length=mm/\mm+s.2.1.length+s.2.2.length=e/\0<s.1.2.length/\0<s.2.1.length/\s.1.1++(s.2.1++(s.1.2++s.2.2))=Y++X) (fun s=>s.1.2.length+s.2.1.length) (([],X),(Y,[])) ⟨hmm,he,hx,hy,by simp⟩ ⟨rfl,rfl,rfl,rfl,rfl,rfl,nm⟩ ?_
 rintro⟨⟨D1,X1⟩,⟨Y1,D2⟩⟩ ⟨h1,h2,h3,h4,h5⟩;dsimp only at h1 h2 h3 h4 h5 |-;have hs1:IntKind.i64.wrap ((mm:Int)-(X1.length:Int))=((mm-X1.length:Nat):Int):=xb J J |>.trans J;by_cases heq:X1.length=Y1.length
 ·have e0:P++(D1++(X1++(Y1++(D2++R))))=(P++D1)++(X1++([]++(Y1++(D2++R)))):=by simp
  have e1:(P++D1)++(Y1++([]++(X1++(D2++R))))=P++(Y++(X++R)):=by
   have:Y++(X++R)=D1++(Y1++(X1++D2))++R:=by rw[h5];simp
   rw[this];simp
  have hlen:((P++D1)++(X1++([]++(Y1++(D2++R))))).length=m:=by simp only[nr,m7];omega
  rw[e0];refine(Zd∘ZaE∘Zar∘Zao∘ZdU∘Z0∘Zu∘Zaj∘Zu) ?_;refine qf (xg L 900 (xd b (((P++D1)++(Y1++([]++(X1++(D2++R))))).flatMap ccs++rest) tyC) (r:=xd b (((P++D1)++(X1++([]++(Y1++(D2++R))))).flatMap ccs++rest) tyC) Z Z Z Z Z (fun u H C hH _ hr hC=>(by have h:=Qo (cap:=cap) (a:=mm-X1.length) (e:=mm) (n:=X1.length) (by rw[nr];omega) (by simp only[m7];omega) Z heq.symm hlen hm1 fv hH hr hC;exact h))) ?_;refine Zah (h:=?_);rw[e1];exact ki L 900 (r:=xd b _ tyC) Z (fun _ _ h=>h) nq Z Z
 ·by_cases hgt:Y1.length<X1.length
  ·have hs2:IntKind.i64.wrap ((X1.length:Int)-(Y1.length:Int))=((X1.drop Y1.length).length:Int):=xb J J |>.trans (by rw[m9];omega);have lt:(X1.take Y1.length).length=Y1.length:=by rw[mh];omega
   have e0:P++(D1++(X1++(Y1++(D2++R))))=(P++D1)++(X1.take Y1.length++(X1.drop Y1.length++(Y1++(D2++R)))):=by
    conv=>lhs;rw[<-zry Y1.length X1]
    simp only[mp]
   have e1:(P++D1)++(Y1++(X1.drop Y1.length++(X1.take Y1.length++(D2++R))))=P++((D1++Y1)++(X1.drop Y1.length++(X1.take Y1.length++(D2++R)))):=by simp
   have hlen:((P++D1)++(X1.take Y1.length++(X1.drop Y1.length++(Y1++(D2++R))))).length=m:=by rw[<-e0];simp only[nr];omega
   have hld:(X1.drop Y1.length).length=X1.length-Y1.length:=m9;rw[e0];refine(Zd∘ZaE∘ZcT∘Z1∘Zbe∘ZcU∘ZN∘Zr∘ZE∘Zu∘Zaj∘Zu) ?_;refine qf (xg L 900 (xd b (((P++D1)++(Y1++(X1.drop Y1.length++(X1.take Y1.length++(D2++R))))).flatMap ccs++rest) tyC) (r:=xd b (((P++D1)++(X1.take Y1.length++(X1.drop Y1.length++(Y1++(D2++R))))).flatMap ccs++rest) tyC) Z Z Z Z Z (fun u H C hH _ hr hC=>(by have h:=Qo (cap:=cap) (a:=mm-X1.length) (e:=mm) (n:=Y1.length) (by rw[nr];omega) J lt Z hlen hm1 fv hH hr hC;exact h))) ?_;refine(ZB∘ZF∘ZaR∘Zce) ?_;rw[e1]
   exact yr (x:=((D1,X1),(Y1,D2))) ((D1++Y1,X1.drop Y1.length),(X1.take Y1.length,D2)) ⟨by dsimp only;rw[List.length_append];omega,by dsimp only;omega,by dsimp only;omega,by dsimp only;omega,by
    dsimp only;rw[<-h5]
    conv=>rhs;rw[<-zry Y1.length X1]
    simp only[List.append_assoc]⟩ G ⟨rfl,rfl,rfl,rfl,by dsimp only;rw[lt];rfl,rfl,trivial⟩
  ·have hs2:IntKind.i64.wrap ((Y1.length:Int)-(X1.length:Int))=((Y1.take (Y1.length-X1.length)).length:Int):=xb J J |>.trans (by rw[mh];omega);have hs3:IntKind.i64.wrap ((mm:Int)+(Y1.length:Int))=((mm+Y1.length:Nat):Int):=xb J J;have hs4:IntKind.i64.wrap (((mm+Y1.length:Nat):Int)-(X1.length:Int))=((mm+Y1.length-X1.length:Nat):Int):=xb J J |>.trans J;have lt:(Y1.take (Y1.length-X1.length)).length=Y1.length-X1.length:=by rw[mh];omega
   have ld:(Y1.drop (Y1.length-X1.length)).length=X1.length:=by rw[m9];omega
   have e0:P++(D1++(X1++(Y1++(D2++R))))=(P++D1)++(X1++(Y1.take (Y1.length-X1.length)++(Y1.drop (Y1.length-X1.length)++(D2++R)))):=by
    conv=>lhs;rw[<-zry (Y1.length-X1.length) Y1]
    simp only[mp]
   have e1:(P++D1)++(Y1.drop (Y1.length-X1.length)++(Y1.take (Y1.length-X1.length)++(X1++(D2++R))))=P++(D1++(Y1.drop (Y1.length-X1.length)++(Y1.take (Y1.length-X1.length)++((X1++D2)++R)))):=by simp
   have hlen:((P++D1)++(X1++(Y1.take (Y1.length-X1.length)++(Y1.drop (Y1.length-X1.length)++(D2++R))))).length=m:=by rw[<-e0];simp only[nr];omega
   rw[e0];refine(Zd∘ZaE∘ZcT∘Z1∘Zbe∘ZcU∘ZG∘Zao∘Zbx∘Zu∘Zaj∘Zb∘ZH∘Za∘Zaj∘Zb) ?_;refine qf (xg L 900 (xd b (((P++D1)++(Y1.drop (Y1.length-X1.length)++(Y1.take (Y1.length-X1.length)++(X1++(D2++R))))).flatMap ccs++rest) tyC) (r:=xd b (((P++D1)++(X1++(Y1.take (Y1.length-X1.length)++(Y1.drop (Y1.length-X1.length)++(D2++R))))).flatMap ccs++rest) tyC) Z Z Z Z Z (fun u H C hH _ hr hC=>(by have h:=Qo (cap:=cap) (a:=mm-X1.length) (e:=mm+Y1.length-X1.length) (n:=X1.length) (by rw[nr];omega) J Z ld hlen hm1 fv hH hr hC;exact h))) ?_;refine(ZB∘Z7∘ZaR∘Zce) ?_;rw[e1]
   exact yr (x:=((D1,X1),(Y1,D2))) ((D1,Y1.drop (Y1.length-X1.length)),(Y1.take (Y1.length-X1.length),X1++D2)) ⟨by dsimp only;omega,by dsimp only;rw[List.length_append];omega,by dsimp only;omega,by dsimp only;omega,by
    dsimp only;rw[<-h5]
    conv=>rhs;rw[<-zry (Y1.length-X1.length) Y1]
    simp only[List.append_assoc]⟩ G ⟨rfl,rfl,rfl,by dsimp only;rw[ld];rfl,rfl,rfl,trivial⟩
abbrev ORD:Nat:=228
abbrev Eu:Value:=.func (.func ORD) #[] #[]
def l4{x y:CH}(hB:zwe B w):Ret zwf ORD ([chv x.1 x.2,chv y.1 y.2]++[]) w B (fun r _=>r=.int .i64 (js x.1 y.1)):=by
 refine yl Tryz.func228 Z Tryz.ntmps228 (np Z) hB ((ZaD∘Zad∘Zcf∘Zcf) ?_);refine z71 L Z (fun u H hH _=>vo (a:=x.1) (b:=y.1) hH) ?_;refine Zc (h:=?_);exact yk2 L [.tmp 4]
def ins_ret{X R:List CH}{e:Nat}(ha:P.length=a)(he:a+X.length=e)(hm:(P++(X++R)).length=m)(hm1:m<=100000)(hB:zwe B w)
  (hr:(xd b ((P++(X++R)).flatMap ccs++rest) tyC).P B w C) (hC:ZCB C w B):
  jh zwf 310 [.slice (some ⟨b,0,none⟩) m cap,.int .i64 a,.int .i64 e,Eu] w B C (xd b ((P++(stC X++R)).flatMap ccs++rest) tyC):=by
 unfold jh;refine yz 900 (xd b ((P++(X++R)).flatMap ccs++rest) tyC) Tryz.func310 Z Tryz.ntmps310 (np Z) hB hr hC ?_;rw[xe];simp only[nr] at hm;have hst1:stC (X.take 1)=X.take 1:=by rcases X with _ | ⟨x,X⟩<;>rfl
 refine(ZT∘Za∘ZcZ∘Zae) ?_;refine xu (fun s:Nat=>[(0,.is (.slice (some ⟨b,0,none⟩) m cap)),(1,.is (.int .i64 a)),(2,.is (.int .i64 e)),(3,.is Eu),(8,.is (.int .i64 (a+s:Nat))),(900,.own (xr b ((P++(stC (X.take s)++(X.drop s++R))).flatMap ccs++rest) tyC))]) (fun s=>1<=s/\s<=max X.length 1) (fun s=>X.length-s) 1 ⟨nu _,by omega⟩ ⟨Z,Z,Z,Z,Z,by rw[hst1,<-mp (X.take 1),zry];rfl,nm⟩ ?_;rintro s ⟨hs1,hs2⟩;by_cases hlt:s<X.length
 ·obtain⟨x,hx⟩:=xj hlt;have hsl:(stC (X.take s)).length=s:=by rw[eo,mh];omega
  refine(Zd∘ZI∘Zb∘Zdi∘Zz∘Zae) ?_
  refine xu (fun t:List CH×List CH=>[(0,.is (.slice (some ⟨b,0,none⟩) m cap)),(1,.is (.int .i64 a)),(2,.is (.int .i64 e)),(3,.is Eu),(8,.is (.int .i64 (a+s:Nat))),(9,.is (.int .i64 (a+t.1.length:Nat))),(900,.own (xr b ((P++(t.1++(x::(t.2++(X.drop (s+1)++R))))).flatMap ccs++rest) tyC))])
   (fun t=>t.1++t.2=stC (X.take s)/\∀ z∈t.2,js x.1 z.1<0) (fun t=>t.1.length) (stC (X.take s),[]) ⟨List.append_nil _,fun z hz=>(by cases hz)⟩ ⟨rfl,rfl,rfl,rfl,rfl,by dsimp only;rw[hsl];rfl,by dsimp only;rw[im hx];rfl,trivial⟩ ?_
  rintro⟨A,D⟩ ⟨hAD,hD⟩;dsimp only at hAD hD |-;have hAl:A.length+D.length=s:=by rw[<-nr,hAD,hsl]
  have hfin:(∀ y,A.getLast?=some y->¬ js x.1 y.1<0)->P++(A++(x::(D++(X.drop (s+1)++R))))=P++(stC (X.take (s+1))++(X.drop (s+1)++R)):=fun h=>by
   have:=zli (k:=fun c:CH=>c.1) cmpT_ord (x:=x) hAD hD h;rw[zr4,hx];unfold stC;show _=P++(Gc (fun c:CH=>c.1) js (X.take s++[x])++_);rw[<-this];simp
  rcases zv6 A with hA | ⟨A',y,hA⟩
  ·subst hA;rw[hfin (fun y hy=>by simp at hy),m7,zug];refine(Zd∘ZfK∘Zm∘ZdI∘Zcr∘ZeX∘Za2∘ZaZ∘Za0∘Zn∘Zaa) ?_;exact yr (x:=s) (s+1) ⟨by omega,by omega⟩ J ⟨Z,Z,Z,Z,Z,Z,nm⟩
  ·rw[zvs] at hA;subst hA;have hl9:(A'++[y]).length=A'.length+1:=by rw[nr,zsu]
   rw[hl9] at hAl;have e0:P++((A'++[y])++(x::(D++(X.drop (s+1)++R))))=(P++A')++y::([]++x::(D++(X.drop (s+1)++R))):=by simp
   have l1:(P++A').length=a+A'.length:=by rw[nr,ha]
   have l2:(P++A').length+1+([]:List CH).length=a+(A'++[y]).length:=by rw[l1,hl9];rfl
   have g1:=C7 (x:=y) (y:=x) (zwb:=[]) (D:=D++(X.drop (s+1)++R)) l1;have g2:=C6 (x:=y) (y:=x) (D:=D++(X.drop (s+1)++R)) l2;have g3:=Sw (x:=y) (y:=x) (D:=D++(X.drop (s+1)++R)) l1 l2;have e1:(P++A')++x::([]++y::(D++(X.drop (s+1)++R)))=P++(A'++(x::((y::D)++(X.drop (s+1)++R)))):=by simp
   have hlen:((P++A')++y::([]++x::(D++(X.drop (s+1)++R)))).length=m:=by rw[<-e0];simp only[nr,ma,m7,m9];omega
   have hw1:IntKind.i64.wrap (((a+(A'++[y]).length:Nat):Int)-1)=((a+A'.length:Nat):Int):=xb J J |>.trans J;by_cases hc:js x.1 y.1<0
   ·rw[e0];rw[e1] at g3;generalize (P++A')++y::([]++x::(D++(X.drop (s+1)++R)))=zwd at *;have h1:=get_lt g1;have h2:=get_lt g2;have q1:=v7 (rest:=rest) g1 (0+(a+A'.length)*7) J;have q2:=v7 (rest:=rest) g2 (0+(a+(A'++[y]).length)*7) J;have s1:=dj (rest:=rest) (z:=y) h2 (0+(a+(A'++[y]).length)*7) J;have b1:=dk (rest:=rest) h2 (0+(a+(A'++[y]).length)*7) J;have h3:a+A'.length<(zwd.set (a+(A'++[y]).length) y).length:=by rw[zt2];exact h1
    have s2:=dj (rest:=rest) (z:=x) h3 (0+(a+A'.length)*7) J;have b2:=dk (rest:=rest) h3 (0+(a+A'.length)*7) J;rw[g3] at s2;refine(Zd∘ZfK∘Zm∘Zd9∘Zm∘ZV) ?_;refine qy (jd L (q:=900) (vs:=[_,_,_,_,_,_,_]) Z Z Z Z q2) Z Z ((Zck∘Zp) ?_);refine qy (jd L (q:=900) (vs:=[_,_,_,_,_,_,_]) Z Z Z Z q1) Z Z (z91 L Z (fun u H hH _=>l4 hH) ?_);refine(Zdf∘Zc2∘Zbw) ?_;refine qp (id:=6) [(200046,[900]),(200050,[900]),(100051,[900]),(100052,[900])] kr T ((Zm∘Zck∘Zck∘Zp) ?_);refine qy (jd L (q:=900) (vs:=[_,_,_,_,_,_,_]) Z Z Z Z q1) Z Z (ZV (h:=?_));refine qy (jd L (q:=900) (vs:=[_,_,_,_,_,_,_]) Z Z Z Z q2) Z Z (Zp (h:=?_));refine xw (yq L (q:=900) Z Z b1 Z s1) Z (Zp (h:=?_));refine xw (yq L (q:=900) Z Z b2 Z s2) Z ((ZbP∘ZC∘Zaj∘ZaT) ?_)
    exact yr (x:=(A'++[y],D)) (A',y::D) ⟨by rw[<-hAD];simp,fun z hz=>by
     rcases nz.1 hz with rfl | hz
     ·exact hc
     ·exact hD z hz⟩ G ⟨Z,Z,Z,Z,Z,Z,Z,nm⟩
   ·have hf:=hfin (fun z hz=>by rw[List.getLast?_append] at hz;simp at hz;subst hz;exact hc);rw[e0];rw[e0] at hf;have q1:=v7 (rest:=rest) g1 (0+(a+A'.length)*7) J;have q2:=v7 (rest:=rest) g2 (0+(a+(A'++[y]).length)*7) J;rw[hf] at q1 q2 |-;refine(Zd∘ZfK∘Zm∘Zd9∘Zm∘ZV) ?_;refine qy (jd L (q:=900) (vs:=[_,_,_,_,_,_,_]) Z Z Z Z q2) Z Z ((Zck∘Zp) ?_);refine qy (jd L (q:=900) (vs:=[_,_,_,_,_,_,_]) Z Z Z Z q1) Z Z (z91 L Z (fun u H hH _=>l4 hH) ?_);refine(Zd8∘Za2∘ZaZ∘Za0∘Zn∘Zaa) ?_;exact yr (x:=s) (s+1) ⟨by omega,by omega⟩ J ⟨Z,Z,Z,Z,Z,Z,nm⟩
 ·have hX:P++(stC (X.take s)++(X.drop s++R))=P++(stC X++R):=by
   rw[m8 J,zrx J,mo]
  rw[hX];refine(Zd∘ZI∘Zb∘Zbc∘ZaZ) ?_;exact ki L 900 (r:=xd b _ tyC) Z (fun _ _ h=>h) nq Z Z
end Go.V.L8
namespace Go.V
section
variable {β:Type} [DecidableEq α] [DecidableEq β] {k:α->β} {c:β->β->Int}
omit [DecidableEq β] in
theorem Xr(ho:Ord3 c){z y x:β}(h1:¬ c y z<0)(h2:c y x<0):c z x<0:=by
 by_cases h3:c z y<0
 ·exact ho.tr h3 h2
 ·have:=ho.anti y z;rw[ho.eq z y J];exact h2
omit [DecidableEq β] in
theorem Xo(ho:Ord3 c){x y z:β}(h1:c y x<0)(h2:¬ c z x<0):c y z<0:=by
 by_cases h3:c x z<0
 ·exact ho.tr h1 h3
 ·have:=ho.anti x z;rw[ho.eq z x J];exact h1
structure SymI(k:α->β)(c:β->β->Int)(X Y:List α)(a mid lo hi s r:Nat):Prop where
 ls:lo<=s
 sr:s<=r
 rh:r<=hi
 bef:∀ i x y,lo<=i->i<s->X[i-a]?=some x->Y[mid-1-i]?=some y->¬ c (k y) (k x)<0
 aft:∀ i x y,r<=i->i<hi->X[i-a]?=some x->Y[mid-1-i]?=some y->c (k y) (k x)<0
structure zpb(X Y:List α)(a mm e mid lo hi:Nat):Prop where
 lx:a+X.length=mm
 ly:mm+Y.length=e
 al:a<=lo
 nl:mid+mm<=lo+e
 hm:hi<=mid
 hx:hi<=mm
 lo_:lo=a\/mid+mm=lo+e
 hi_:hi=mm\/hi=mid
omit [DecidableEq α] [DecidableEq β] in
theorem SymI.start{X Y:List α}(h:lo<=hi):SymI k c X Y a mid lo hi lo hi:=⟨nu _,h,nu _,fun i x y h1 h2=>by omega,fun i x y h1 h2=>by omega⟩
omit [DecidableEq α] [DecidableEq β] in
theorem SymI.up(ho:Ord3 c){X Y:List α}(hX:Srt k c X)(hY:Srt k c Y){e s r:Nat}{x y:α}(hb:zpb X Y a mm e mid lo hi)(h:SymI k c X Y a mid lo hi s r)(h1:s<=i)(h2:i<r)(hx:X[i-a]?=some x)(hy:Y[mid-1-i]?=some y)(hc:¬ c (k y) (k x)<0):SymI k c X Y a mid lo hi (i+1) r:=by
 obtain⟨b1,b2,b3,b4,b5,b6,_,_⟩:=hb;obtain⟨i1,i2,i3,i4,i5⟩:=h;refine⟨by omega,by omega,i3,fun j x' y' hj hji hx' hy' hlt=>hc ?_,i5⟩;have e1:=ik ho hX hx' hx J;have e2:=ik ho hY hy hy' J;exact Xr ho e2 (Xo ho hlt e1)
omit [DecidableEq α] [DecidableEq β] in
theorem SymI.down(ho:Ord3 c){X Y:List α}(hX:Srt k c X)(hY:Srt k c Y){e s r:Nat}{x y:α}(hb:zpb X Y a mm e mid lo hi)(h:SymI k c X Y a mid lo hi s r)(h1:s<=i)(h2:i<r)(hx:X[i-a]?=some x)(hy:Y[mid-1-i]?=some y)(hc:c (k y) (k x)<0):SymI k c X Y a mid lo hi s i:=by
 obtain⟨b1,b2,b3,b4,b5,b6,_,_⟩:=hb;obtain⟨i1,i2,i3,i4,i5⟩:=h;refine⟨by omega,by omega,by omega,i4,fun j x' y' hj hji hx' hy'=>?_⟩;have e1:=ik ho hX hx hx' J;have e2:=ik ho hY hy' hy J;exact Xr ho e2 (Xo ho hc e1)
theorem zfd(ho:Ord3 c){X Y:List α}(hX:Srt k c X)(hY:Srt k c Y){e s:Nat}(hb:zpb X Y a mm e mid lo hi)(h:SymI k c X Y a mid lo hi s s):
  Gc k c (X.take (s-a)++Y.take (mid-s))++Gc k c (X.drop (s-a)++Y.drop (mid-s))=Gc k c (X++Y):=by
 obtain⟨b1,b2,b3,b4,b5,b6,b7,b8⟩:=hb;obtain⟨i1,i2,i3,i4,i5⟩:=h;have hXt:X.take (s-a)++X.drop (s-a)=X:=zry _ _;have hYt:Y.take (mid-s)++Y.drop (mid-s)=Y:=zry _ _
 have h12:∀ x∈X.drop (s-a),∀ y∈Y.take (mid-s),c (k y) (k x)<0:=fun x hx y hy=>by
  obtain⟨i,hi⟩:=zsf hx;obtain⟨j,hj⟩:=zsf hy;have hjl:=get_lt hj;rw[mh] at hjl;rw[ztg] at hi;rw[zua J] at hj;have hil:=get_lt hi;obtain⟨x0,hx0⟩:=xj (l:=X) (i:=s-a) J;obtain⟨y0,hy0⟩:=xj (l:=Y) (i:=mid-1-s) J;have h0:=i5 s x0 y0 (nu _) J hx0 hy0;exact Xr ho (ik ho hY hj hy0 J) (Xo ho h0 (ik ho hX hx0 hi J))
 have h21:∀ x∈X.take (s-a),∀ y∈Y.drop (mid-s),¬ c (k y) (k x)<0:=fun x hx y hy hlt=>by
  obtain⟨i,hi⟩:=zsf hx;obtain⟨j,hj⟩:=zsf hy;have hil:=get_lt hi;rw[mh] at hil;rw[ztg] at hj;rw[zua J] at hi;have hjl:=get_lt hj;obtain⟨x1,hx1⟩:=xj (l:=X) (i:=s-1-a) J;obtain⟨y1,hy1⟩:=xj (l:=Y) (i:=mid-s) J;have h0:=i4 (s-1) x1 y1 J J hx1 (by rw[show mid-1-(s-1)=mid-s by omega];exact hy1);exact h0 (Xr ho (ik ho hY hy1 hj J) (Xo ho hlt (ik ho hX hi hx1 J)))
 have:=zfi ho (by rw[hXt];exact hX) (by rw[hYt];exact hY) h12 h21 (fh ho _) (fh ho _);rw[hXt,hYt] at this;exact Gu ho this
theorem zkt(ho:Ord3 c){x:α}{Y:List α}(hY:Srt k c Y)(h1:∀ j z,j<i->Y[j]?=some z->c (k z) (k x)<0)(h2:∀ j z,i<=j->Y[j]?=some z->¬ c (k z) (k x)<0):
  Y.take i++x::Y.drop i=Gc k c ([x]++Y):=by
 have hY':Srt k c (Y.take i++Y.drop i):=by rw[zry];exact hY
 have:=zj1 ho (x:=x) hY' (fun z hz=>by
  obtain⟨j,hj⟩:=zsf hz;have hjl:=get_lt hj;rw[mh] at hjl;rw[zua J] at hj;exact h1 j z J hj) (fun z hz=>by
  obtain⟨j,hj⟩:=zsf hz;rw[ztg] at hj;exact h2 _ z J hj)
 rw[zry] at this;exact Gu ho this
theorem zks(ho:Ord3 c){x:α}{X:List α}(hX:Srt k c X)(h1:∀ j z,j<i->X[j]?=some z->¬ c (k x) (k z)<0)(h2:∀ j z,i<=j->X[j]?=some z->c (k x) (k z)<0):
  X.take i++x::X.drop i=Gc k c (X++[x]):=by
 have hX':Srt k c (X.take i++X.drop i):=by rw[zry];exact hX
 have:=Qr ho (x:=x) hX' (fun z hz=>by
  obtain⟨j,hj⟩:=zsf hz;have hjl:=get_lt hj;rw[mh] at hjl;rw[zua J] at hj;exact h1 j z J hj) (fun z hz=>by
  obtain⟨j,hj⟩:=zsf hz;rw[ztg] at hj;exact h2 _ z J hj)
 rw[zry] at this;exact Gu ho this
end
end Go.V
namespace Go.V.L8
open Go.V.L2 Go.V.L3 Go.V.L6
def zg3{X D:List CH}(ha:P.length=a){x:CH}(h:X[j]?=some x)(i:Nat)(hi:i=a+j):(P++(X++D))[i]?=some x:=by
 subst hi ha;have:=get_lt h;rw[zvp J,show P.length+j-P.length=j by omega,zs7 this];exact h
def zll{X Y D:List CH}(ha:P.length=a)(hx:a+X.length=mm){y:CH}(h:Y[j]?=some y)(i:Nat)(hi:i=mm+j):(P++(X++(Y++D)))[i]?=some y:=by
 have e:P++(X++(Y++D))=(P++X)++(Y++D):=by simp
 rw[e];exact zg3 (by rw[nr];omega) h i hi
abbrev zmp(l:List CH):Prop:=Srt (fun c:CH=>c.1) js l
def Dj(i j:Nat):((i:Int)+(j:Int)).fdiv (2^min (1:Int).toNat IntKind.u64.bits)=((i+j)/2:Nat):=by
 show((i:Int)+(j:Int)).fdiv 2=_;rw[zvn _ E];omega
attribute [local irreducible] V N X VO Par StepOK Has Ret RetL RetO RetT jh Src
abbrev SYM:Nat:=311
def zjw{Y R:List CH}{x:CH}{e:Nat}(ha:P.length=a)(hmm:a+1=mm)(he:mm+Y.length=e)(hY:zmp Y)(hm:(P++([x]++(Y++R))).length=m)(hm1:m<=100000)(hB:zwe B w)
  (hr:(xd b ((P++([x]++(Y++R))).flatMap ccs++rest) tyC).P B w C) (hC:ZCB C w B):
  jh zwf SYM [.slice (some ⟨b,0,none⟩) m cap,.int .i64 a,.int .i64 mm,.int .i64 e,Eu] w B C (xd b ((P++(stC ([x]++Y)++R)).flatMap ccs++rest) tyC):=by
 unfold jh;refine yz 900 (xd b ((P++([x]++(Y++R))).flatMap ccs++rest) tyC) Tryz.func311 Z Tryz.ntmps311 (np Z) hB hr hC ?_;rw[xe];have hm':=hm;simp only[nr,zsu] at hm';refine(Zd∘Zd7∘Zb∘ZcW∘Zx∘Zr∘Zbq∘ZbY∘Ze∘Za7) ?_
 refine xu (fun s:Nat×Nat=>[(0,.is (.slice (some ⟨b,0,none⟩) m cap)),(1,.is (.int .i64 a)),(4,.is Eu),(10,.is (.int .i64 s.1)),(11,.is (.int .i64 s.2)),(900,.own (xr b ((P++([x]++(Y++R))).flatMap ccs++rest) tyC))])
  (fun s=>mm<=s.1/\s.1<=s.2/\s.2<=e/\(∀ (j:Nat) (z:CH),j<s.1-mm->Y[j]?=some z->js z.1 x.1<0)/\∀ (j:Nat) (z:CH),s.2-mm<=j->Y[j]?=some z->¬ js z.1 x.1<0) (fun s=>s.2-s.1) (mm,e)
  ⟨Nat.le_refl _,by dsimp only;omega,Nat.le_refl _,fun j z h=>(by dsimp only at h;omega),fun j z h hz=>(by have:=get_lt hz;dsimp only at h;omega)⟩ ⟨rfl,rfl,rfl,rfl,rfl,rfl,trivial⟩ ?_
 rintro⟨i,j⟩ ⟨h1,h2,h3,h4,h5⟩;dsimp only at h1 h2 h3 h4 h5 |-;by_cases hlt:i<j
 ·have hsh:=Dj i j;obtain⟨h,hh⟩:∃ h,(i+j)/2=h:=⟨_,rfl⟩
  rw[hh] at hsh;obtain⟨y,hy⟩:=xj (l:=Y) (show h-mm<Y.length by omega);have q1:=v7 (rest:=rest) (zll (X:=[x]) (D:=R) (mm:=mm) ha hmm hy h J) (0+h*7) J;have q2:=v7 (rest:=rest) (zg3 (X:=[x]) (D:=Y++R) ha (j:=0) rfl a J) (0+a*7) J;by_cases hc:js y.1 x.1<0
  ·refine(Zbs∘Zbp∘Zbe∘ZE∘Zb∘ZcZ) ?_;refine z7 (kw Z Z Z vl.1 vl.2 (wrap_u64 J J)) Z (ZdO (h:=?_));refine z7 (kw Z Z Z vm.1 vm.2 (xb J J)) Z (Ze (h:=?_));refine qp (id:=5) [(200044,[900]),(200048,[900])] kr T ((ZbC∘Zp) ?_);refine qy (jd L (q:=900) (vs:=[_,_,_,_,_,_,_]) Z Z Z Z q1) Z Z (ZV (h:=?_));refine qy (jd L (q:=900) (vs:=[_,_,_,_,_,_,_]) Z Z Z Z q2) Z Z (z91 L Z (fun u H hH _=>l4 hH) ?_);refine(Zdf∘ZcI∘ZD∘Zaa∘ZaC) ?_
   exact yr (x:=(i,j)) (h+1,j) ⟨by dsimp only;omega,by dsimp only;omega,h3,fun k z hk hz=>by
    dsimp only at hk;exact Xr cmpT_ord (ik cmpT_ord hY hz hy J) hc,h5⟩ G ⟨Z,Z,Z,Z,Z,Z,nm⟩
  ·refine(Zbs∘Zbp∘Zbe∘ZE∘Zb∘ZcZ) ?_;refine z7 (kw Z Z Z vl.1 vl.2 (wrap_u64 J J)) Z (ZdO (h:=?_));refine z7 (kw Z Z Z vm.1 vm.2 (xb J J)) Z (Ze (h:=?_));refine qp (id:=5) [(200044,[900]),(200048,[900])] kr T ((ZbC∘Zp) ?_);refine qy (jd L (q:=900) (vs:=[_,_,_,_,_,_,_]) Z Z Z Z q1) Z Z (ZV (h:=?_));refine qy (jd L (q:=900) (vs:=[_,_,_,_,_,_,_]) Z Z Z Z q2) Z Z (z91 L Z (fun u H hH _=>l4 hH) ?_);refine(Zd8∘Zbv∘Z6∘Zce) ?_
   exact yr (x:=(i,j)) (i,h) ⟨h1,by dsimp only;omega,by dsimp only;omega,h4,fun k z hk hz hcx=>by
    dsimp only at hk;exact hc (Xr cmpT_ord (ik cmpT_ord hY hy hz J) hcx)⟩ G ⟨Z,Z,Z,Z,Z,Z,nm⟩
 ·obtain rfl:i=j:=by omega
  have hfin:=zkt (k:=fun c:CH=>c.1) cmpT_ord hY h4 h5;have hal:(Y.take (i-mm)).length=i-mm:=by rw[mh];omega
  have hYl:(Y.take (i-mm)).length+(Y.drop (i-mm)).length=Y.length:=by rw[<-nr,zry]
  have e0:P++([x]++(Y++R))=P++([]++(x::(Y.take (i-mm)++(Y.drop (i-mm)++R)))):=by
   rw[<-mp (Y.take _),zry];rfl
  rw[e0]
  have e9:P++(Y.take (i-mm)++(x::(Y.drop (i-mm)++R)))=P++(stC ([x]++Y)++R):=by
   unfold stC;rw[<-hfin];simp
  generalize Y.take (i-mm)=A at *;generalize Y.drop (i-mm)=D at *;clear hfin h4 h5 e0;refine(Zbs∘Zbc∘ZbH∘Za5∘Zae) ?_;refine xu (fun t:Nat=>[(0,.is (.slice (some ⟨b,0,none⟩) m cap)),(10,.is (.int .i64 i)),(13,.is (.int .i64 (a+t:Nat))),(900,.own (xr b ((P++(A.take t++(x::(A.drop t++(D++R))))).flatMap ccs++rest) tyC))]) (fun t=>t<=A.length) (fun t=>A.length-t) 0 (mb _) ⟨Z,Z,Z,Z,nm⟩ ?_;rintro t ht;by_cases htl:t<A.length
  ·obtain⟨z,hz⟩:=xj htl;have e0:P++(A.take t++(x::(A.drop t++(D++R))))=(P++A.take t)++x::([]++z::(A.drop (t+1)++(D++R))):=by rw[im hz];simp
   have e1:(P++A.take t)++z::([]++x::(A.drop (t+1)++(D++R)))=P++(A.take (t+1)++(x::(A.drop (t+1)++(D++R)))):=by rw[zr4,hz];simp
   have l1:(P++A.take t).length=a+t:=by rw[nr,mh];omega
   have l2:(P++A.take t).length+1+([]:List CH).length=a+t+1:=by rw[l1];rfl
   have g1:=C7 (x:=x) (y:=z) (zwb:=[]) (D:=A.drop (t+1)++(D++R)) l1;have g2:=C6 (x:=x) (y:=z) (D:=A.drop (t+1)++(D++R)) l2;have g3:=Ql (x:=x) (y:=z) (D:=A.drop (t+1)++(D++R)) l1 l2;rw[e0];rw[e1] at g3;generalize (P++A.take t)++x::([]++z::(A.drop (t+1)++(D++R)))=zwd at *;have k1:=get_lt g1;have k2:=get_lt g2
   have hKl:a+t+1<m:=by
    have:a+1+A.length+D.length<=m:=J;omega
   have q1:=v7 (rest:=rest) g1 (0+(a+t)*7) J;have q2:=v7 (rest:=rest) g2 (0+(a+t+1)*7) J;have s1:=dj (rest:=rest) (z:=z) k1 (0+(a+t)*7) J;have b1:=dk (rest:=rest) k1 (0+(a+t)*7) J;have k3:a+t+1<(zwd.set (a+t) z).length:=by rw[zt2];exact k2
   have s2:=dj (rest:=rest) (z:=x) k3 (0+(a+t+1)*7) J;have b2:=dk (rest:=rest) k3 (0+(a+t+1)*7) J;rw[g3] at s2;have a1:IntKind.i64.wrap (((a+t:Nat):Int)+1)=((a+t+1:Nat):Int):=xb J J;refine(Zd∘ZM∘Zb∘ZcW∘Zbp∘Zbw) ?_;refine qp (id:=11) [(200070,[900]),(200074,[900]),(100075,[900]),(100076,[900])] kr T ((Zm∘Zm∘ZbB∘Zm∘ZbB∘Zp) ?_);refine qy (jd L (q:=900) (vs:=[_,_,_,_,_,_,_]) Z Z Z Z q2) Z Z (ZV (h:=?_));refine qy (jd L (q:=900) (vs:=[_,_,_,_,_,_,_]) Z Z Z Z q1) Z Z (Zp (h:=?_));refine xw (yq L (q:=900) Z Z b1 Z s1) Z (Zp (h:=?_));refine xw (yq L (q:=900) Z Z b2 Z s2) Z ((ZbP∘Zcz∘Za4) ?_);exact yr (x:=t) (t+1) J J ⟨Z,Z,Z,Z,nm⟩
  ·have hA:P++(A.take t++(x::(A.drop t++(D++R))))=P++(stC ([x]++Y)++R):=by
    rw[m8 J,zrx J,mo,e9]
   rw[hA];refine(Zd∘ZM∘Zb∘ZcW∘Zbc∘ZdU) ?_;exact j9 L 900 (r:=xd b _ tyC) Z (fun _ _ h=>h) nq Z Z
def zjx{X R:List CH}{y:CH}{e:Nat}(ha:P.length=a)(hmm:a+X.length=mm)(hx1:¬ X.length=1)(he:mm+1=e)(hX:zmp X)(hm:(P++(X++([y]++R))).length=m)(hm1:m<=100000)(hB:zwe B w)
  (hr:(xd b ((P++(X++([y]++R))).flatMap ccs++rest) tyC).P B w C) (hC:ZCB C w B):
  jh zwf SYM [.slice (some ⟨b,0,none⟩) m cap,.int .i64 a,.int .i64 mm,.int .i64 e,Eu] w B C (xd b ((P++(stC (X++[y])++R)).flatMap ccs++rest) tyC):=by
 unfold jh;refine yz 900 (xd b ((P++(X++([y]++R))).flatMap ccs++rest) tyC) Tryz.func311 Z Tryz.ntmps311 (np Z) hB hr hC ?_;rw[xe];have hm':=hm;simp only[nr,zsu] at hm';refine(Zd∘Zd7∘Zb∘ZcW∘Z8∘ZK∘ZQ∘Zb∘ZcW∘Zx∘Zr∘ZU∘Za∘Ze∘Zch∘Ze∘Za7) ?_
 refine xu (fun s:Nat×Nat=>[(0,.is (.slice (some ⟨b,0,none⟩) m cap)),(2,.is (.int .i64 mm)),(4,.is Eu),(14,.is (.int .i64 s.1)),(15,.is (.int .i64 s.2)),(900,.own (xr b ((P++(X++([y]++R))).flatMap ccs++rest) tyC))])
  (fun s=>a<=s.1/\s.1<=s.2/\s.2<=mm/\(∀ (j:Nat) (z:CH),j<s.1-a->X[j]?=some z->¬ js y.1 z.1<0)/\∀ (j:Nat) (z:CH),s.2-a<=j->X[j]?=some z->js y.1 z.1<0) (fun s=>s.2-s.1) (a,mm)
  ⟨Nat.le_refl _,by dsimp only;omega,Nat.le_refl _,fun j z h=>(by dsimp only at h;omega),fun j z h hz=>(by have:=get_lt hz;dsimp only at h;omega)⟩ ⟨rfl,rfl,rfl,rfl,rfl,rfl,trivial⟩ ?_
 rintro⟨i,j⟩ ⟨h1,h2,h3,h4,h5⟩;dsimp only at h1 h2 h3 h4 h5 |-;by_cases hlt:i<j
 ·have hsh:=Dj i j;obtain⟨h,hh⟩:∃ h,(i+j)/2=h:=⟨_,rfl⟩
  rw[hh] at hsh;obtain⟨x,hx⟩:=xj (l:=X) (show h-a<X.length by omega);have q1:=v7 (rest:=rest) (zll (Y:=[y]) (D:=R) ha hmm (j:=0) rfl mm J) (0+mm*7) J;have q2:=v7 (rest:=rest) (zg3 (D:=[y]++R) ha hx h J) (0+h*7) J;by_cases hc:js y.1 x.1<0
  ·refine(Zd∘Zat∘Zb∘Zbp∘Zbe∘Zal∘Zb∘ZcZ) ?_;refine z7 (kw Z Z Z vl.1 vl.2 (wrap_u64 J J)) Z (ZdO (h:=?_));refine z7 (kw Z Z Z vm.1 vm.2 (xb J J)) Z (Ze (h:=?_));refine qp (id:=17) [(200096,[900]),(200100,[900])] kr T ((ZbC∘Zp) ?_);refine qy (jd L (q:=900) (vs:=[_,_,_,_,_,_,_]) Z Z Z Z q1) Z Z (ZV (h:=?_));refine qy (jd L (q:=900) (vs:=[_,_,_,_,_,_,_]) Z Z Z Z q2) Z Z (z91 L Z (fun u H hH _=>l4 hH) ?_);refine(Zdf∘ZaJ∘Zbv∘Zc5∘Za∘Zce) ?_
   exact yr (x:=(i,j)) (i,h) ⟨h1,by dsimp only;omega,by dsimp only;omega,h4,fun k z hk hz=>by
    dsimp only at hk;exact Xo cmpT_ord hc (ik cmpT_ord hX hx hz J)⟩ G ⟨Z,Z,Z,Z,Z,Z,nm⟩
  ·refine(Zd∘Zat∘Zb∘Zbp∘Zbe∘Zal∘Zb∘ZcZ) ?_;refine z7 (kw Z Z Z vl.1 vl.2 (wrap_u64 J J)) Z (ZdO (h:=?_));refine z7 (kw Z Z Z vm.1 vm.2 (xb J J)) Z (Ze (h:=?_));refine qp (id:=17) [(200096,[900]),(200100,[900])] kr T ((ZbC∘Zp) ?_);refine qy (jd L (q:=900) (vs:=[_,_,_,_,_,_,_]) Z Z Z Z q1) Z Z (ZV (h:=?_));refine qy (jd L (q:=900) (vs:=[_,_,_,_,_,_,_]) Z Z Z Z q2) Z Z (z91 L Z (fun u H hH _=>l4 hH) ?_);refine(Zd8∘ZaJ∘ZcI∘ZaX∘Za∘Zaa∘ZaC) ?_
   exact yr (x:=(i,j)) (h+1,j) ⟨by dsimp only;omega,by dsimp only;omega,h3,fun k z hk hz hcx=>by
    dsimp only at hk;exact hc (Xo cmpT_ord hcx (ik cmpT_ord hX hz hx J)),h5⟩ G ⟨Z,Z,Z,Z,Z,Z,nm⟩
 ·obtain rfl:i=j:=by omega
  have hfin:=zks (k:=fun c:CH=>c.1) cmpT_ord hX h4 h5;have hal:(X.take (i-a)).length=i-a:=by rw[mh];omega
  have hXl:(X.take (i-a)).length+(X.drop (i-a)).length=X.length:=by rw[<-nr,zry]
  have e0:P++(X++([y]++R))=P++(X.take (i-a)++(X.drop (i-a)++(y::([]++R)))):=by
   rw[<-mp (X.take _),zry];rfl
  rw[e0]
  have e9:P++(X.take (i-a)++(y::(X.drop (i-a)++R)))=P++(stC (X++[y])++R):=by
   unfold stC;rw[<-hfin];simp
  generalize X.take (i-a)=A at *;generalize X.drop (i-a)=D at *;clear hfin h4 h5 e0;have hk0:mm=i+D.length:=J;refine(Zd∘Zat∘Zb∘Zbc∘ZbH∘Zbg∘Za∘Zae) ?_;refine xu (fun t:Nat=>[(0,.is (.slice (some ⟨b,0,none⟩) m cap)),(14,.is (.int .i64 i)),(17,.is (.int .i64 (i+t:Nat))),(900,.own (xr b ((P++(A++(D.take t++(y::(D.drop t++R))))).flatMap ccs++rest) tyC))]) (fun t=>t<=D.length) (fun t=>t) D.length (nu _) ⟨Z,Z,by rw[<-hk0];rfl,by rw[m4,ztz];rfl,nm⟩ ?_;rintro t ht;rcases t with _ | t
  ·rw[zr0,zsj,mo,e9,zug];refine(Zd∘Zcv∘Zb∘ZG∘Zao∘ZdU) ?_;exact j9 L 900 (r:=xd b _ tyC) Z (fun _ _ h=>h) nq Z Z
  ·obtain⟨z,hz⟩:=xj (l:=D) (show t<D.length by omega);have e0:P++(A++(D.take (t+1)++(y::(D.drop (t+1)++R))))=(P++(A++D.take t))++z::([]++y::(D.drop (t+1)++R)):=by rw[zr4,hz];simp
   have e1:(P++(A++D.take t))++y::([]++z::(D.drop (t+1)++R))=P++(A++(D.take t++(y::(D.drop t++R)))):=by rw[im hz];simp
   have l1:(P++(A++D.take t)).length=i+t:=by rw[nr,nr,mh];omega
   have l2:(P++(A++D.take t)).length+1+([]:List CH).length=i+(t+1):=by rw[l1];rfl
   have g1:=C7 (x:=z) (y:=y) (zwb:=[]) (D:=D.drop (t+1)++R) l1;have g2:=C6 (x:=z) (y:=y) (D:=D.drop (t+1)++R) l2;have g3:=Sw (x:=z) (y:=y) (D:=D.drop (t+1)++R) l1 l2;rw[e0];rw[e1] at g3;generalize (P++(A++D.take t))++z::([]++y::(D.drop (t+1)++R))=zwd at *;have k1:=get_lt g1;have k2:=get_lt g2;have hKl:i+(t+1)<m:=J;have q1:=v7 (rest:=rest) g1 (0+(i+t)*7) J;have q2:=v7 (rest:=rest) g2 (0+(i+(t+1))*7) J;have s1:=dj (rest:=rest) (z:=z) k2 (0+(i+(t+1))*7) J;have b1:=dk (rest:=rest) k2 (0+(i+(t+1))*7) J;have k3:i+t<(zwd.set (i+(t+1)) z).length:=by rw[zt2];exact k1
   have s2:=dj (rest:=rest) (z:=y) k3 (0+(i+t)*7) J;have b2:=dk (rest:=rest) k3 (0+(i+t)*7) J;rw[g3] at s2;have a1:IntKind.i64.wrap (((i+(t+1):Nat):Int)-1)=((i+t:Nat):Int):=xb J J |>.trans J;refine(Zd∘Zcv∘Zb∘ZN∘Z1∘Zbw) ?_;refine qp (id:=23) [(200122,[900]),(200126,[900]),(100127,[900]),(100128,[900])] kr T ((Zm∘Zck∘Zck∘Zp) ?_);refine qy (jd L (q:=900) (vs:=[_,_,_,_,_,_,_]) Z Z Z Z q1) Z Z (ZV (h:=?_));refine qy (jd L (q:=900) (vs:=[_,_,_,_,_,_,_]) Z Z Z Z q2) Z Z (Zp (h:=?_));refine xw (yq L (q:=900) Z Z b1 Z s1) Z (Zp (h:=?_));refine xw (yq L (q:=900) Z Z b2 Z s2) Z ((ZbP∘ZcS∘Za∘Zaj∘ZaT) ?_);exact yr (x:=t+1) t J J ⟨Z,Z,Z,Z,nm⟩
def zcv(h:l.length=1):∃ x,l=[x]:=by
 rcases l with _ | ⟨x,_ | ⟨y,l⟩⟩
 ·simp at h
 ·exact⟨x,rfl⟩
 ·simp at h
def Km(h:zmp l):stC l=l:=zfj cmpT_ord h
def zac(N0:Nat):∀ {P X Y R:List CH} {rest:List Value} {b m cap a mm e:Nat},X.length+Y.length<=N0->P.length=a->a+X.length=mm->mm+Y.length=e->0<X.length->0<Y.length->zmp X->zmp Y->(P++(X++(Y++R))).length=m->m<=100000->∀ {w:World} {B:Heap} {C:Nat->Prop},zwe B w->
  (xd b ((P++(X++(Y++R))).flatMap ccs++rest) tyC).P B w C->(ZCB C w B)->
  jh zwf SYM [.slice (some ⟨b,0,none⟩) m cap,.int .i64 a,.int .i64 mm,.int .i64 e,Eu] w B C (xd b ((P++(stC (X++Y)++R)).flatMap ccs++rest) tyC):=by
 induction N0 with
 | zero=>intro P X Y R rest b m cap a mm e h1 h2 h3 h4 h5;omega
 | succ N0 ih=>
 intro P X Y R rest b m cap a mm e hN ha hmm he hx hy hX hY hm hm1 w B C hB hr hC;by_cases hx1:X.length=1
 ·obtain⟨x,rfl⟩:=zcv hx1;exact zjw ha (by simpa using hmm) he hY hm hm1 hB hr hC
 by_cases hy1:Y.length=1
 ·obtain⟨y,rfl⟩:=zcv hy1;exact zjx ha hmm hx1 (by simpa using he) hX hm hm1 hB hr hC
 unfold jh;refine yz 900 (xd b ((P++(X++(Y++R))).flatMap ccs++rest) tyC) Tryz.func311 Z Tryz.ntmps311 (np Z) hB hr hC ?_;rw[xe];have hm':=hm;simp only[nr] at hm';have hsh:=Dj a e;obtain⟨mid,hmid⟩:∃ mid,(a+e)/2=mid:=⟨_,rfl⟩
 rw[hmid] at hsh;have hnn:IntKind.i64.wrap ((mid:Int)+(mm:Int))=((mid+mm:Nat):Int):=xb J J;refine(Zd∘Zd7∘Zb∘ZcW∘Z8∘ZK∘ZQ∘Zb∘ZcW∘Zb6∘ZdE∘Zb∘ZcZ) ?_;refine z7 (kw Z Z Z vl.1 vl.2 (wrap_u64 J J)) Z (ZdO (h:=?_));refine z7 (kw Z Z Z vm.1 vm.2 (xb J J)) Z ((Ze∘Zed∘Zb∘ZH∘Ze) ?_);refine zh (id:=26) (Zbl (h:=?_));refine ig (fun s:Nat×Nat=>[(0,.is (.slice (some ⟨b,0,none⟩) m cap)),(1,.is (.int .i64 a)),(2,.is (.int .i64 mm)),(3,.is (.int .i64 e)),(4,.is Eu),(18,.is (.int .i64 mid)),(19,.is (.int .i64 (mid+mm:Nat))),(20,.is (.int .i64 s.1)),(21,.is (.int .i64 s.2)),(900,.own (xr b ((P++(X++(Y++R))).flatMap ccs++rest) tyC))]) (fun s=>zpb X Y a mm e mid s.1 s.2/\s.1<=s.2) (fun _=>[]) ?rest ?first
 case first=>
  by_cases hgt:mid<mm
  ·have hs:IntKind.i64.wrap (((mid+mm:Nat):Int)-(e:Int))=((mid+mm-e:Nat):Int):=xb J J |>.trans J;refine(ZdR∘Zb∘ZN∘Zr) ?_;refine zh (id:=28) ((ZaR∘Zc) ?_);refine zh (id:=29) ((Za∘ZaT) ?_);exact jz (mid+mm-e,mid) Since.refl ⟨⟨hmm,he,by dsimp only;omega,by dsimp only;omega,Nat.le_refl _,by dsimp only;omega,.inr G,.inr Z⟩,by dsimp only;omega⟩ Z ⟨Z,Z,Z,Z,Z,Z,Z,Z,Z,Z,trivial⟩
  ·refine(ZdR∘Zb∘ZG∘Zao∘Zi) ?_;refine zh (id:=30) ((Za∘Zc) ?_);refine zh (id:=31) ((Za∘ZaT) ?_);exact jz (a,mm) Since.refl ⟨⟨hmm,he,Nat.le_refl _,by dsimp only;omega,by dsimp only;omega,Nat.le_refl _,.inl Z,.inl Z⟩,by dsimp only;omega⟩ Z ⟨Z,Z,Z,Z,Z,Z,Z,Z,Z,Z,trivial⟩
 case rest=>
 rintro⟨lo,hi⟩ ⟨hb,hlh⟩;dsimp only at hb hlh |-;have hp:IntKind.i64.wrap (((mid+mm:Nat):Int)-1)=((mid+mm-1:Nat):Int):=xb J J |>.trans J;refine Zi (h:=?_);refine zh (id:=32) ((Za∘Zaj∘Ze∘Za7) ?_)
 refine xu (fun s:Nat×Nat=>[(0,.is (.slice (some ⟨b,0,none⟩) m cap)),(1,.is (.int .i64 a)),(2,.is (.int .i64 mm)),(3,.is (.int .i64 e)),(4,.is Eu),(18,.is (.int .i64 mid)),(19,.is (.int .i64 (mid+mm:Nat))),(20,.is (.int .i64 s.1)),(21,.is (.int .i64 s.2)),(22,.is (.int .i64 (mid+mm-1:Nat))),(900,.own (xr b ((P++(X++(Y++R))).flatMap ccs++rest) tyC))])
  (fun s=>SymI (fun c:CH=>c.1) js X Y a mid lo hi s.1 s.2) (fun s=>s.2-s.1) (lo,hi) (SymI.start hlh) ⟨rfl,rfl,rfl,rfl,rfl,rfl,rfl,rfl,rfl,rfl,rfl,nm⟩ ?_
 rintro⟨i,j⟩ hI;dsimp only at hI |-;have hI':=hI;have hb':=hb;obtain⟨b1,b2,b3,b4,b5,b6,_,_⟩:=hb';obtain⟨i1,i2,i3,_,_⟩:=hI';by_cases hlt:i<j
 ·have hsc:=Dj i j;obtain⟨c,hc⟩:∃ c,(i+j)/2=c:=⟨_,rfl⟩
  rw[hc] at hsc;obtain⟨x,hxc⟩:=xj (l:=X) (show c-a<X.length by omega);obtain⟨y,hyc⟩:=xj (l:=Y) (show mid-1-c<Y.length by omega);have q1:=v7 (rest:=rest) (zll (D:=R) ha hmm hyc (mid+mm-1-c) J) (0+(mid+mm-1-c)*7) J;have q2:=v7 (rest:=rest) (zg3 (D:=Y++R) ha hxc c J) (0+c*7) J;have hpc:IntKind.i64.wrap (((mid+mm-1:Nat):Int)-(c:Int))=((mid+mm-1-c:Nat):Int):=xb J J |>.trans J;by_cases hcm:js y.1 x.1<0
  ·refine Zd (h:=?_);refine zh (id:=33) ((Zb∘Zbp∘Zbe) ?_);refine zh (id:=34) ((Zb∘ZcZ) ?_);refine z7 (kw Z Z Z vl.1 vl.2 (wrap_u64 J J)) Z (ZdO (h:=?_));refine z7 (kw Z Z Z vm.1 vm.2 (xb J J)) Z (Ze (h:=?_));refine qp (id:=35) [(200164,[900]),(200168,[900])] kr T ((Zm∘Zck∘Zp) ?_);refine qy (jd L (q:=900) (vs:=[_,_,_,_,_,_,_]) Z Z Z Z q1) Z Z (ZV (h:=?_));refine qy (jd L (q:=900) (vs:=[_,_,_,_,_,_,_]) Z Z Z Z q2) Z Z (z91 L Z (fun u H hH _=>l4 hH) ?_);refine(Zdf∘ZaJ∘Zbv) ?_;refine zh (id:=37) ((Za∘Zce) ?_);exact yr (x:=(i,j)) (i,c) (hI.down cmpT_ord hX hY hb J J hxc hyc hcm) G ⟨Z,Z,Z,Z,Z,Z,Z,Z,Z,Z,Z,nm⟩
  ·refine Zd (h:=?_);refine zh (id:=33) ((Zb∘Zbp∘Zbe) ?_);refine zh (id:=34) ((Zb∘ZcZ) ?_);refine z7 (kw Z Z Z vl.1 vl.2 (wrap_u64 J J)) Z (ZdO (h:=?_));refine z7 (kw Z Z Z vm.1 vm.2 (xb J J)) Z (Ze (h:=?_));refine qp (id:=35) [(200164,[900]),(200168,[900])] kr T ((Zm∘Zck∘Zp) ?_);refine qy (jd L (q:=900) (vs:=[_,_,_,_,_,_,_]) Z Z Z Z q1) Z Z (ZV (h:=?_));refine qy (jd L (q:=900) (vs:=[_,_,_,_,_,_,_]) Z Z Z Z q2) Z Z (z91 L Z (fun u H hH _=>l4 hH) ?_);refine(Zd8∘ZaJ∘ZcI) ?_;refine zh (id:=36) ((Za∘Zaa∘ZaC) ?_);exact yr (x:=(i,j)) (c+1,j) (hI.up cmpT_ord hX hY hb J J hxc hyc hcm) G ⟨Z,Z,Z,Z,Z,Z,Z,Z,Z,Z,Z,nm⟩
 ·obtain rfl:i=j:=by omega
  have hj:=zfd cmpT_ord hX hY hb hI;have hen:IntKind.i64.wrap (((mid+mm:Nat):Int)-(i:Int))=((mid+mm-i:Nat):Int):=xb J J |>.trans J;refine Zd (h:=?_);refine zh (id:=33) ((Zb∘Zb5) ?_);refine zh (id:=38) ((ZaR∘Zh) ?_);have eX:X.take (i-a)++X.drop (i-a)=X:=zry _ _;have eY:Y.take (mid-i)++Y.drop (mid-i)=Y:=zry _ _;have lA1:(X.take (i-a)).length=i-a:=by rw[mh];omega
  have lA2:(X.drop (i-a)).length=mm-i:=by rw[m9];omega
  have lB1:(Y.take (mid-i)).length=mid-i:=by rw[mh];omega
  have lB2:(Y.drop (mid-i)).length=e-(mid+mm-i):=by rw[m9];omega
  generalize X.take (i-a)=A1 at *;generalize X.drop (i-a)=A2 at *;generalize Y.take (mid-i)=B1 at *;generalize Y.drop (mid-i)=B2 at *
  change stC (A1++B1)++stC (A2++B2)=stC (X++Y) at hj
  rw[<-hj];subst eX eY;obtain⟨sA1,sA2,_⟩:=cp.1 hX;obtain⟨sB1,sB2,_⟩:=cp.1 hY;clear hI hb hj hX hY;obtain⟨en,hend⟩:∃ en,mid+mm-i=en:=⟨_,rfl⟩
  rw[hend] at lB2 |-;have e0:P++((A1++A2)++((B1++B2)++R))=(P++A1)++(A2++(B1++(B2++R))):=by simp
  have e1:(P++A1)++(B1++(A2++(B2++R)))=P++(A1++(B1++(A2++(B2++R)))):=by simp
  have hlen1:((P++A1)++(A2++(B1++(B2++R)))).length=m:=by rw[<-e0];exact hm
  have hlen2:(P++(A1++(B1++(A2++(B2++R))))).length=m:=by simp only[nr] at hm' |-;omega
  have hl3:=eo (A1++B1);rw[nr] at hl3;have e3:P++(stC (A1++B1)++(A2++(B2++R)))=(P++stC (A1++B1))++(A2++(B2++R)):=by simp
  have hlen3:((P++stC (A1++B1))++(A2++(B2++R))).length=m:=by simp only[nr] at hm' |-;omega
  have e4:(P++stC (A1++B1))++(stC (A2++B2)++R)=P++((stC (A1++B1)++stC (A2++B2))++R):=by simp
  simp only[nr] at hm' hmm he hN;refine ig (fun _:Unit=>[(0,.is (.slice (some ⟨b,0,none⟩) m cap)),(1,.is (.int .i64 a)),(3,.is (.int .i64 e)),(4,.is Eu),(18,.is (.int .i64 mid)),(20,.is (.int .i64 i)),(24,.is (.int .i64 en)),(900,.own (xr b ((P++(A1++(B1++(A2++(B2++R))))).flatMap ccs++rest) tyC))]) (fun _=>True) (fun _=>[]) ?rest1 ?first1
  case first1=>
   rw[e0];by_cases h1:i<mm
   ·by_cases h2:mm<en
    ·refine zh (id:=39) ((Zb∘ZS∘Zu∘ZS∘Zb4) ?_);refine zh (id:=40) ((Zb∘Zu) ?_);refine qf (xg L 900 (xd b (((P++A1)++(B1++(A2++(B2++R)))).flatMap ccs++rest) tyC) (r:=xd b (((P++A1)++(A2++(B1++(B2++R)))).flatMap ccs++rest) tyC) Z Z Z Z Z (fun u H C hH _ hr hC=>(by have h:=zkc (cap:=cap) (a:=i) (mm:=mm) (e:=en) (by rw[nr];omega) J J J J hlen1 hm1 Eu hH hr hC;exact h))) ?_;refine Zah (h:=?_);rw[e1];exact jz () nq trivial Z ⟨Z,Z,Z,Z,Z,Z,Z,Z,nm⟩
    ·have hB1:B1=[]:=zrv J;subst hB1;have e9:(P++A1)++(A2++([]++(B2++R)))=P++(A1++([]++(A2++(B2++R)))):=by simp
     rw[e9];refine zh (id:=39) ((Zb∘ZS∘Zu∘Zab∘Zf∘Zbu) ?_);exact jz () nq trivial Z ⟨Z,Z,Z,Z,Z,Z,Z,Z,nm⟩
   ·have hA2:A2=[]:=zrv J;subst hA2;have e9:(P++A1)++([]++(B1++(B2++R)))=P++(A1++(B1++([]++(B2++R)))):=by simp
    rw[e9];refine zh (id:=39) ((Zb∘Zab∘ZbF∘Zbu) ?_);exact jz () nq trivial Z ⟨Z,Z,Z,Z,Z,Z,Z,Z,nm⟩
  case rest1=>
  rintro _ _;refine Zd (h:=?_);refine ig (fun _:Unit=>[(0,.is (.slice (some ⟨b,0,none⟩) m cap)),(3,.is (.int .i64 e)),(4,.is Eu),(18,.is (.int .i64 mid)),(24,.is (.int .i64 en)),(900,.own (xr b (((P++stC (A1++B1))++(A2++(B2++R))).flatMap ccs++rest) tyC))]) (fun _=>True) (fun _=>[]) ?rest2 ?first2
  case first2=>
   rw[<-e3];by_cases h1:a<i
   ·by_cases h2:i<mid
    ·refine zh (id:=41) ((Zb∘ZS∘Zu∘ZS∘Zb4) ?_);refine zh (id:=42) ((Zb∘Zu) ?_);refine qf (xg L 900 (xd b ((P++(stC (A1++B1)++(A2++(B2++R)))).flatMap ccs++rest) tyC) (r:=xd b ((P++(A1++(B1++(A2++(B2++R))))).flatMap ccs++rest) tyC) Z Z Z Z Z (fun u H C hH _ hr hC=>(by have h:=ih (cap:=cap) (a:=a) (mm:=i) (e:=mid) J ha J J J J sA1 sB1 hlen2 hm1 hH hr hC;exact h))) ?_;refine Zah (h:=?_);exact jz () nq trivial Z ⟨Z,Z,Z,Z,Z,Z,nm⟩
    ·have hB1:B1=[]:=zrv J;subst hB1;have e9:P++(A1++([]++(A2++(B2++R))))=P++(stC (A1++[])++(A2++(B2++R))):=by rw[mi,Km sA1];rfl
     rw[e9];refine zh (id:=41) ((Zb∘ZS∘Zu∘Zab∘Zf∘Zbu) ?_);exact jz () nq trivial Z ⟨Z,Z,Z,Z,Z,Z,nm⟩
   ·have hA1:A1=[]:=zrv J;subst hA1;have e9:P++([]++(B1++(A2++(B2++R))))=P++(stC ([]++B1)++(A2++(B2++R))):=by rw[mo,mo,Km sB1]
    rw[e9];refine zh (id:=41) ((Zb∘Zab∘ZbF∘Zbu) ?_);exact jz () nq trivial Z ⟨Z,Z,Z,Z,Z,Z,nm⟩
  case rest2=>
  rintro _ _;by_cases h1:mid<en
  ·by_cases h2:en<e
   ·refine Zi (h:=?_);refine zh (id:=43) ((Zb∘ZS∘Zu∘ZS∘Zb4) ?_);refine zh (id:=44) ((Zb∘Zu) ?_);refine qf (xg L 900 (xd b (((P++stC (A1++B1))++(stC (A2++B2)++R)).flatMap ccs++rest) tyC) (r:=xd b (((P++stC (A1++B1))++(A2++(B2++R))).flatMap ccs++rest) tyC) Z Z Z Z Z (fun u H C hH _ hr hC=>(by have h:=ih (cap:=cap) (a:=mid) (mm:=en) (e:=e) J (by rw[nr];omega) J J J J sA2 sB2 hlen3 hm1 hH hr hC;exact h))) ?_;refine Zah (h:=?_);rw[e4];exact ki L 900 (r:=xd b _ tyC) Z (fun _ _ h=>h) nq Z Z
   ·have hB2:B2=[]:=zrv J;subst hB2;have e9:(P++stC (A1++B1))++(A2++([]++R))=P++((stC (A1++B1)++stC (A2++[]))++R):=by rw[mi,Km sA2];simp
    rw[e9];refine Zi (h:=?_);refine zh (id:=43) ((Zb∘ZS∘Zu∘Zab∘Zf∘Zbu) ?_);exact ki L 900 (r:=xd b _ tyC) Z (fun _ _ h=>h) nq Z Z
  ·have hA2:A2=[]:=zrv J;subst hA2;have e9:(P++stC (A1++B1))++([]++(B2++R))=P++((stC (A1++B1)++stC ([]++B2))++R):=by rw[mo,mo,Km sB2];simp
   rw[e9];refine Zi (h:=?_);refine zh (id:=43) ((Zb∘Zab∘ZbF∘Zbu) ?_);exact ki L 900 (r:=xd b _ tyC) Z (fun _ _ h=>h) nq Z Z
end Go.V.L8
namespace Go.V.L8
open Go.V.L2 Go.V.L3 Go.V.L6
abbrev chC(n:Nat)(l:List CH):List CH:=chL (fun c:CH=>c.1) js n l
def Dp(hn:0<n)(l:List CH):chC n l=stC (l.take n)++chC n (l.drop n):=Mq hn l
def B4(hn:0<n)(h:l.length<=n):chC n l=stC l:=zlz hn h
def zl0(hn:0<n)(l:List CH):(chC n l).length=l.length:=zd8 cmpT_ord hn l.length (nu _)
def zal(X Y:List CH):stC (stC X++stC Y)=stC (X++Y):=zfl cmpT_ord X Y
def C9(X:List CH):zmp (stC X):=(fh cmpT_ord X).1
attribute [local irreducible] V N X VO Par StepOK Has Ret RetL RetO RetT jh Src
def zfm(hm:l.length=m)(hm1:m<=100000)(hB:zwe B w)
  (hr:(xd b (l.flatMap ccs++rest) tyC).P B w C) (hC:ZCB C w B):
  jh zwf 281 [.slice (some ⟨b,0,none⟩) m cap,.int .i64 m,Eu] w B C (xd b ((stC l).flatMap ccs++rest) tyC):=by
 unfold jh;refine yz 900 (xd b (l.flatMap ccs++rest) tyC) Tryz.func281 Z Tryz.ntmps281 (np Z) hB hr hC ?_;rw[xe];refine(Zw∘Za∘ZaI∘Za7) ?_
 refine xu (fun s:Nat×List CH=>[(0,.is (.slice (some ⟨b,0,none⟩) m cap)),(1,.is (.int .i64 m)),(2,.is Eu),(6,.is (.int .i64 20)),(7,.is (.int .i64 s.1)),(8,.is (.int .i64 (s.1+20:Nat))),(900,.own (xr b ((s.2++l.drop s.1).flatMap ccs++rest) tyC))])
  (fun s=>s.2.length=s.1/\s.1<=m/\s.2++chC 20 (l.drop s.1)=chC 20 l) (fun s=>m-s.1) (0,[]) ⟨rfl,mb _,rfl⟩ ⟨rfl,rfl,rfl,rfl,rfl,rfl,rfl,nm⟩ ?_
 rintro⟨a,S1⟩ ⟨h1,h2,h3⟩;dsimp only at h1 h2 h3 |-;have hdl:(l.drop a).length=m-a:=by rw[m9,hm]
 by_cases hlt:a+20<=m
 ·have e0:S1++l.drop a=S1++((l.drop a).take 20++(l.drop a).drop 20):=by rw[zry]
  have e1:S1++(stC ((l.drop a).take 20)++(l.drop a).drop 20)=(S1++stC ((l.drop a).take 20))++l.drop (a+20):=by rw[ztb,mp]
  have hlen:(S1++((l.drop a).take 20++(l.drop a).drop 20)).length=m:=by rw[<-e0,nr];omega
  have ltk:((l.drop a).take 20).length=20:=by rw[mh];omega
  have a1:IntKind.i64.wrap (((a+20:Nat):Int)+20)=((a+20+20:Nat):Int):=xb J J;rw[e0];refine(Zd∘ZaE∘Zda∘Z1∘Zbe∘ZcU∘Zb) ?_;refine qf (xg L 900 (xd b ((S1++(stC ((l.drop a).take 20)++(l.drop a).drop 20)).flatMap ccs++rest) tyC) (r:=xd b ((S1++((l.drop a).take 20++(l.drop a).drop 20)).flatMap ccs++rest) tyC) Z Z Z Z Z (fun u H C hH _ hr hC=>(by have h:=ins_ret (cap:=cap) (a:=a) (e:=a+20) h1 J hlen hm1 hH hr hC;exact h))) ?_;refine(Zk∘Zt∘Zc∘ZbG∘Za4∘ZaC) ?_;rw[e1]
  exact yr (x:=(a,S1)) (a+20,S1++stC ((l.drop a).take 20)) ⟨by dsimp only;rw[List.length_append,eo];omega,hlt,by
   dsimp only;rw[<-h3,Dp J (l.drop a),List.drop_drop,List.append_assoc]⟩ G ⟨rfl,rfl,rfl,rfl,rfl,rfl,rfl,nm⟩
 ·have e0:S1++l.drop a=S1++(l.drop a++[]):=by rw[mi]
  have e1:S1++(stC (l.drop a)++[])=chC 20 l:=by rw[mi,<-h3,B4 J J]
  have hlen:(S1++(l.drop a++[])).length=m:=by rw[<-e0,nr];omega
  rw[e0];refine(Zd∘ZaE∘ZcV∘Zao∘Zdz∘Z5∘Zbk) ?_;refine qf (xg L 900 (xd b ((S1++(stC (l.drop a)++[])).flatMap ccs++rest) tyC) (r:=xd b ((S1++(l.drop a++[])).flatMap ccs++rest) tyC) Z Z Z Z Z (fun u H C hH _ hr hC=>(by have h:=ins_ret (cap:=cap) (a:=a) (e:=m) h1 J hlen hm1 hH hr hC;exact h))) ?_;refine Zdq (h:=?_);rw[e1];clear e0 e1 hlen hlt hdl h1 h2 h3;refine xu (fun s:Nat=>[(0,.is (.slice (some ⟨b,0,none⟩) m cap)),(1,.is (.int .i64 m)),(2,.is Eu),(6,.is (.int .i64 s)),(900,.own (xr b ((chC s l).flatMap ccs++rest) tyC))]) (fun s=>0<s/\s<=20+2*m) (fun s=>m-s) 20 ⟨by omega,by omega⟩ ⟨Z,Z,Z,Z,Z,nm⟩ ?_;rintro s ⟨hs0,hs1⟩;by_cases hsm:s<m
  ·refine(Zd∘Z7∘Zb∘Zbp∘Zbe∘Za5∘Zek∘ZaI∘Za7) ?_
   refine xu (fun t:Nat×List CH=>[(0,.is (.slice (some ⟨b,0,none⟩) m cap)),(1,.is (.int .i64 m)),(2,.is Eu),(6,.is (.int .i64 s)),(7,.is (.int .i64 t.1)),(8,.is (.int .i64 (t.1+2*s:Nat))),(900,.own (xr b ((t.2++chC s (l.drop t.1)).flatMap ccs++rest) tyC))])
    (fun t=>t.2.length=t.1/\t.1<=m/\t.2++chC (2*s) (l.drop t.1)=chC (2*s) l) (fun t=>m-t.1) (0,[]) ⟨rfl,Nat.zero_le _,rfl⟩ ⟨rfl,rfl,rfl,rfl,rfl,by dsimp only;rw[Nat.zero_add];rfl,rfl,trivial⟩ ?_
   rintro⟨a,S1⟩ ⟨h1,h2,h3⟩;dsimp only at h1 h2 h3 |-;have hdl:(l.drop a).length=m-a:=by rw[m9,hm]
   have hcs:=Dp hs0 (l.drop a);by_cases hlt:a+2*s<=m
   ·have hcs2:=Dp hs0 ((l.drop a).drop s)
    have e0:S1++chC s (l.drop a)=S1++(stC ((l.drop a).take s)++(stC (((l.drop a).drop s).take s)++chC s (l.drop (a+2*s)))):=by
     rw[hcs,hcs2,ztb,ztb,show a+s+s=a+2*s by omega]
    have ht2:(l.drop a).take (2*s)=(l.drop a).take s++((l.drop a).drop s).take s:=by rw[show 2*s=s+s by omega,List.take_add]
    have e1:S1++(stC (stC ((l.drop a).take s)++stC (((l.drop a).drop s).take s))++chC s (l.drop (a+2*s)))=(S1++stC ((l.drop a).take (2*s)))++chC s (l.drop (a+2*s)):=by rw[zal,<-ht2,mp]
    have l1:(stC ((l.drop a).take s)).length=s:=by rw[eo,mh];omega
    have l2:(stC (((l.drop a).drop s).take s)).length=s:=by rw[eo,mh,m9];omega
    have l3:(chC s (l.drop (a+2*s))).length=m-(a+2*s):=by rw[zl0 hs0,m9,hm]
    have hlen:(S1++(stC ((l.drop a).take s)++(stC (((l.drop a).drop s).take s)++chC s (l.drop (a+2*s))))).length=m:=by simp only[nr];omega
    have a1:IntKind.i64.wrap ((a:Int)+(s:Int))=((a+s:Nat):Int):=xb J J;have a2:IntKind.i64.wrap (((a+2*s:Nat):Int)+2*(s:Int))=((a+2*s+2*s:Nat):Int):=xb J J;rw[e0];refine(Zd∘ZM∘Zb∘Zda∘Z1∘Zbe∘ZaH∘Zbk∘ZH∘Zb) ?_;refine qf (xg L 900 (xd b ((S1++(stC (stC ((l.drop a).take s)++stC (((l.drop a).drop s).take s))++chC s (l.drop (a+2*s)))).flatMap ccs++rest) tyC) (r:=xd b ((S1++(stC ((l.drop a).take s)++(stC (((l.drop a).drop s).take s)++chC s (l.drop (a+2*s))))).flatMap ccs++rest) tyC) Z Z Z Z Z (fun u H C hH _ hr hC=>(by have h:=zac _ (cap:=cap) (a:=a) (mm:=a+s) (e:=a+2*s) (nu _) h1 J J J J (C9 _) (C9 _) hlen hm1 hH hr hC;exact h))) ?_;refine(Zk∘ZbL∘Zc∘ZQ∘Zb∘Zek∘Za4∘ZaC) ?_;rw[e1]
    exact yr (x:=(a,S1)) (a+2*s,S1++stC ((l.drop a).take (2*s))) ⟨by dsimp only;rw[List.length_append,eo,List.length_take];omega,hlt,by
     dsimp only;rw[<-h3,Dp J (l.drop a),List.drop_drop,List.append_assoc]⟩ G ⟨rfl,rfl,rfl,rfl,rfl,rfl,rfl,nm⟩
   ·have a1:IntKind.i64.wrap ((a:Int)+(s:Int))=((a+s:Nat):Int):=xb J J;have a2:IntKind.i64.wrap ((s:Int)*2)=((2*s:Nat):Int):=xb J J |>.trans J;by_cases hlm:a+s<m
    ·have e0:S1++chC s (l.drop a)=S1++(stC ((l.drop a).take s)++(stC ((l.drop a).drop s)++[])):=by
      rw[hcs,B4 hs0 (l:=(l.drop a).drop s) (by rw[m9];omega),mi]
     have e1:S1++(stC (stC ((l.drop a).take s)++stC ((l.drop a).drop s))++[])=chC (2*s) l:=by
      rw[zal,zry,mi,<-h3,B4 (n:=2*s) J J]
     have l1:(stC ((l.drop a).take s)).length=s:=by rw[eo,mh];omega
     have l2:(stC ((l.drop a).drop s)).length=m-a-s:=by rw[eo,m9];omega
     have hlen:(S1++(stC ((l.drop a).take s)++(stC ((l.drop a).drop s)++[]))).length=m:=by simp only[nr,m7];omega
     rw[e0];refine(Zd∘ZM∘Zb∘ZcV∘Zao∘ZbH∘ZU∘Zb∘ZH∘Ze∘ZaP∘Zb∘Zbp∘Zat∘Zb∘Zu) ?_;refine qf (xg L 900 (xd b ((S1++(stC (stC ((l.drop a).take s)++stC ((l.drop a).drop s))++[])).flatMap ccs++rest) tyC) (r:=xd b ((S1++(stC ((l.drop a).take s)++(stC ((l.drop a).drop s)++[]))).flatMap ccs++rest) tyC) Z Z Z Z Z (fun u H C hH _ hr hC=>(by have h:=zac _ (cap:=cap) (a:=a) (mm:=a+s) (e:=m) (nu _) h1 J J J J (C9 _) (C9 _) hlen hm1 hH hr hC;exact h))) ?_;refine(ZB∘Zal∘Za) ?_;refine z7 (zbu Z Z Z Z a2) Z (Zce (h:=?_));rw[e1];exact yr (x:=s) (2*s) ⟨by omega,by omega⟩ J ⟨Z,Z,Z,Z,Z,nm⟩
    ·have e1:S1++chC s (l.drop a)=chC (2*s) l:=by
      rw[<-h3,B4 hs0 J,B4 (n:=2*s) J J]
     rw[e1];refine(Zd∘ZM∘Zb∘ZcV∘Zao∘ZbH∘ZU∘Zb∘ZH∘Ze∘ZaP∘Zb∘Zab∘Zdy∘Zal∘Za) ?_;refine z7 (zbu Z Z Z Z a2) Z (Zce (h:=?_));exact yr (x:=s) (2*s) ⟨by omega,by omega⟩ J ⟨Z,Z,Z,Z,Z,nm⟩
  ·rw[B4 hs0 J];refine(Zd∘Z7∘Zb∘Zbc∘ZaZ) ?_;exact ki L 900 (r:=xd b _ tyC) Z (fun _ _ h=>h) nq Z Z
abbrev SSF:Nat:=229
def zaq(hm:l.length=m)(hm1:m<=100000)(hB:zwe B w)
  (hr:(xd b (l.flatMap ccs++rest) tyC).P B w C) (hC:ZCB C w B):
  jh zwf SSF [.slice (some ⟨b,0,none⟩) m cap,Eu] w B C (xd b ((stC l).flatMap ccs++rest) tyC):=by
 unfold jh;refine yz 900 (xd b (l.flatMap ccs++rest) tyC) Tryz.func229 Z Tryz.ntmps229 (np Z) hB hr hC ?_;rw[xe];refine(Zd7∘Zb∘Zbo∘Za) ?_;refine qf (xg L 900 (xd b ((stC l).flatMap ccs++rest) tyC) (r:=xd b (l.flatMap ccs++rest) tyC) Z Z Z Z Z (fun u H C hH _ hr hC=>(by have h:=zfm (cap:=cap) hm hm1 hH hr hC;exact h))) ?_;refine Zah (h:=?_);exact ki L 900 (r:=xd b _ tyC) Z (fun _ _ h=>h) nq Z Z
def zgx(hB:zwe B w):Ret zwf 310 [.slice none 0 0,.int .i64 0,.int .i64 0,Eu] w B (fun _ _=>True):=by
 refine yl Tryz.func310 Z Tryz.ntmps310 (np Z) hB ((ZT∘Za∘ZcZ∘Zae) ?_);refine xu (fun _:Nat=>[(2,.is (.int .i64 0)),(8,.is (.int .i64 1))]) (fun _=>True) (fun s=>s) 0 trivial ⟨Z,Z,nm⟩ ?_;rintro s _;refine(Zd∘ZI∘Zb∘Zbc∘ZaZ) ?_;exact zen L Z (fun _ _ h=>h) nq
def zak(hB:zwe B w):Ret zwf 281 [.slice none 0 0,.int .i64 0,Eu] w B (fun _ _=>True):=by
 refine yl Tryz.func281 Z Tryz.ntmps281 (np Z) hB ((Zw∘Za∘ZaI∘Za7) ?_);refine xu (fun _:Nat=>[(0,.is (.slice none 0 0)),(1,.is (.int .i64 0)),(2,.is Eu),(6,.is (.int .i64 20)),(7,.is (.int .i64 0)),(8,.is (.int .i64 20))]) (fun _=>True) (fun s=>s) 0 trivial ⟨Z,Z,Z,Z,Z,Z,nm⟩ ?_;rintro s _;refine(Zd∘ZaE∘ZcV∘Zao∘Zdz∘Z5∘Zbk) ?_;refine z7 (xh (φ:=fun _ _=>True) L Z Z (zn Z) Z Z Z (fun _ _ _ _ _=>trivial) (fun u H hH _ _=>zgx hH)) Z (Zdq (h:=?_));refine xu (fun _:Nat=>[(1,.is (.int .i64 0)),(6,.is (.int .i64 20))]) (fun _=>True) (fun s=>s) 0 trivial ⟨Z,Z,nm⟩ ?_;rintro s _;refine(Zd∘Z7∘Zb∘Zbc∘ZaZ) ?_;exact zen L Z (fun _ _ h=>h) nq
def Vr(hB:zwe B w):Ret zwf SSF [.slice none 0 0,Eu] w B (fun _ _=>True):=by
 refine yl Tryz.func229 Z Tryz.ntmps229 (np Z) hB ((Zd7∘Zb∘Zbo∘Za) ?_);refine z7 (xh (φ:=fun _ _=>True) L Z Z (zn Z) Z Z Z (fun _ _ _ _ _=>trivial) (fun u H hH _ _=>zak hH)) Z (Zah (h:=?_));exact zen L Z (fun _ _ h=>h) nq
abbrev zC:CH:=((n3,n3),false)
def zc3(l:List CH)(t:U)(z:CH):CH:=l.foldl (fun a c=>if c.1=t then c else a) z
def ln(l:List CH)(t:U):Option CH:=(l.filter fun c=>decide (c.1=t)).getLast?
def zc1(t:U):ln [] t=none:=rfl
def lj(c:CH)(l:List CH)(t:U):ln (c::l) t=(ln l t).or (if c.1=t then some c else none):=by
 unfold ln;by_cases h:c.1=t
 ·rw[na h,zty (by simpa using h),List.getLast?_cons];cases (l.filter fun c=>decide (c.1=t)).getLast?<;>rfl
 ·rw[nc h,zup (by simpa using h)];cases (l.filter fun c=>decide (c.1=t)).getLast?<;>rfl
def dh{t:U}(h:ln l t=some c):c.1=t/\c∈l:=by
 have:=List.mem_of_getLast? h;rw[zsb] at this;exact⟨by simpa using this.2,this.1⟩
def ay{l:List CH}{t:U}:ln l t=none↔∀ c∈l,c.1≠t:=by
 unfold ln;rw[List.getLast?_eq_none_iff,zva];simp
def T7(l:List CH)(t:U)(z:CH):zc3 l t z=(ln l t).getD z:=by
 induction l generalizing z with
 | nil=>rfl
 | cons c r ih=>
  have:zc3 (c::r) t z=zc3 r t (if c.1=t then c else z):=rfl;rw[this,ih,lj]
  cases ln r t with
  | some d=>rfl
  | none=>by_cases h:c.1=t<;>simp [h]
def Pd{l:List CH}{t:U}{z:CH}(h:∃ c∈l,c.1=t):ln l t=some (zc3 l t z):=by
 rw[T7]
 cases hk:ln l t with
 | some d=>rfl
 | none=>obtain⟨c,hc,he⟩:=h;exact ni he (ay.1 hk c hc)
def E3(l:List CH):List CH:=(Cp (l.map (·.1))).map fun t=>zc3 l t zC
def td{l:List U}{t:U}:t∈Cp l↔t∈l:=by unfold Cp;rw[oo];simp
def Ns(l:List U):Sst js (Cp l):=i9 cmpT_ord Sst.nil
def Ow:c∈E3 l↔ln l c.1=some c:=by
 unfold E3;rw[m6];constructor
 ·rintro⟨t,ht,rfl⟩;rw[td,m6] at ht;have:=Pd (z:=zC) ht;rw[(dh this).1];exact this
 ·intro h;have hm:=dh h;exact⟨c.1,td.2 (m6.2 ⟨c,hm.2,rfl⟩),by rw[T7,h];rfl⟩
def Xk(l:List CH):(E3 l).map (·.1)=Cp (l.map (·.1)):=by
 unfold E3;rw[ztl]
 conv=>rhs;rw[<-zuc (Cp (l.map (·.1)))]
 refine ztv fun t ht=>?_;rw[td,m6] at ht;exact(dh (Pd (z:=zC) ht)).1
def P5(l:List CH):Prop:=Sst js (l.map (·.1))
def Ov(l:List CH):P5 (E3 l):=by unfold P5;rw[Xk];exact Ns _
def t7(h:P5 l):l.Pairwise fun a b=>a.1≠b.1:=by
 unfold P5 Sst at h;rw[List.pairwise_map] at h;exact h.imp fun h1=>cmpT_ord.ne h1
def zcc{m:List CH}(hl:P5 l)(hm:P5 m)(h:∀ c,c∈l↔c∈m):l=m:=by
 have hk:l.map (·.1)=m.map (·.1):=pg cmpT_ord hl hm fun t=>by
  rw[m6,m6];exact⟨fun⟨c,hc,e⟩=>⟨c,(h c).1 hc,e⟩,fun⟨c,hc,e⟩=>⟨c,(h c).2 hc,e⟩⟩
 have uni:∀ {l:List CH},P5 l->∀ a∈l,∀ b∈l,a.1=b.1->a=b:=fun {l} hn a ha b hb e=>by
  by_cases hab:a=b
  ·exact hab
  ·exfalso;obtain⟨i,hi⟩:=zsf ha;obtain⟨j,hj⟩:=zsf hb;obtain⟨hi',rfl⟩:=zs2.1 hi;obtain⟨hj',rfl⟩:=zs2.1 hj;have hp:=zs9.1 (t7 hn);rcases zu2 i j with h | h | h
   ·exact hp i j hi' hj' h e
   ·subst h;exact hab rfl
   ·exact hp j i hj' hi' h e.symm
 have hlen:l.length=m.length:=by rw[<-mg (f:=(·.1)),hk,mg]
 refine List.ext_getElem hlen fun i h1 h2=>?_
 have e:l[i].1=m[i].1:=by
  have:=nh (·[i]?) hk;simp only[zr8,zrz h1,zrz h2,ztx,Option.some.injEq] at this;exact this
 exact uni hm _ ((h _).1 (zvv h1)) _ (zvv h2) e
def ez:List CH->List CH
 | []=>[]
 | [c]=>[c]
 | c::d::r=>if js c.1 d.1=0 then ez (d::r) else c::ez (d::r)
def Xu(h:l[i]?=some c):ez (l.drop i)=(match l[i+1]? with | none=>[c] | some d=>if js c.1 d.1=0 then [] else [c])++ez (l.drop (i+1)):=by
 have h1:l.drop i=c::l.drop (i+1):=im h;rw[h1]
 cases h2:l[i+1]? with
 | none=>
  have:l.drop (i+1)=[]:=zrx (by simpa using h2);rw[this];rfl
 | some d=>
  have h3:l.drop (i+1)=d::l.drop (i+1+1):=im h2;rw[h3];show(if js c.1 d.1=0 then _ else _)=(if js c.1 d.1=0 then _ else _)++_;split<;>rfl
def Hl:∀ {S:List CH},Srt (·.1) js S->(∀ c∈ez S,ln S c.1=some c)/\(∀ x∈S,∃ c∈ez S,c.1=x.1)/\P5 (ez S)
 | [],_=>⟨fun c hc=>(by cases hc),fun c hc=>(by cases hc),Sst.nil⟩
 | [c],_=>by
  have e:ez [c]=[c]:=rfl;rw[e];refine⟨fun d hd=>?_,fun x hx=>⟨x,hx,rfl⟩,ztc _ _⟩;rw[my] at hd;subst hd;rw[lj,na rfl];rfl
 | c::d::r,h=>by
  obtain⟨h1,h2⟩:=mn.1 h;obtain⟨g1,g2,g3⟩:=Hl (S:=d::r) h2;have e:ez (c::d::r)=if js c.1 d.1=0 then ez (d::r) else c::ez (d::r):=rfl
  by_cases h0:js c.1 d.1=0
  ·rw[e,na h0];have hcd:=cmpT_ord.eq _ _ h0;refine⟨fun x hx=>by rw[lj,g1 x hx];rfl,fun x hx=>?_,g3⟩;rcases nz.1 hx with rfl | hx
   ·obtain⟨y,hy,e⟩:=g2 d (mc ..);exact⟨y,hy,e.trans hcd.symm⟩
   ·exact g2 x hx
  ·rw[e,nc h0]
   have hlt:∀ y∈d::r,js c.1 y.1<0:=fun y hy=>by
    have hcd:js c.1 d.1<0:=by
     have h3:=h1 d (mc ..);have:=cmpT_ord.anti c.1 d.1;dsimp only at h3;omega
    rcases nz.1 hy with rfl | hy
    ·exact hcd
    ·have h3:=(mn.1 h2).1 y hy;dsimp only at h3;by_cases h5:js d.1 y.1<0
     ·exact cmpT_ord.tr hcd h5
     ·have h6:js d.1 y.1=0:=by have:=cmpT_ord.anti d.1 y.1;omega
      rw[<-cmpT_ord.eq _ _ h6];exact hcd
   refine⟨fun x hx=>?_,fun x hx=>?_,?_⟩
   ·rcases nz.1 hx with rfl | hx
    ·rw[lj,na rfl,ay.2 fun y hy e=>cmpT_ord.irr x.1 (by rw[<-e];exact ni (hlt y hy) (by rw[e];exact cmpT_ord.irr _))];rfl
    ·rw[lj,g1 x hx];rfl
   ·rcases nz.1 hx with rfl | hx
    ·exact⟨x,mc ..,rfl⟩
    ·obtain⟨y,hy,e⟩:=g2 x hx;exact⟨y,mf _ hy,e⟩
   ·unfold P5;rw[mt];refine mn.2 ⟨fun t ht=>?_,g3⟩;obtain⟨y,hy,rfl⟩:=m6.1 ht;exact hlt y (dh (g1 y hy)).2
def zdb{S:List CH}(h:Stb (·.1) js l S):ez S=E3 l:=by
 obtain⟨g1,g2,g3⟩:=Hl h.1;have hK:∀ t,ln S t=ln l t:=fun t=>by unfold ln;rw[h.2 t]
 refine zcc g3 (Ov l) fun c=>?_;rw[Ow];constructor
 ·exact fun hc=>by rw[<-hK];exact g1 c hc
 ·intro hc;rw[<-hK] at hc;obtain⟨d,hd,e⟩:=g2 c (dh hc).2;have:=g1 d hd;rw[e,hc] at this;cases this;exact hd
def _root_.Zd6(t:Wr Y->A:=by intro h;refine z9 (yt Z Z Z Z (ng J)) Z ?_;exact h.1)(h:Y):A:=t ⟨h⟩
def _root_.Zfz(t:Wr Y->A:=by intro h;refine z9 (yt Z Z Z Z (nf J)) Z ?_;exact h.1)(h:Y):A:=t ⟨h⟩
def _root_.ZeP(t:Wr Y->A:=by intro h;refine z9 (yf L Z Z Z Z) Z ?_;exact h.1)(h:Y):A:=t ⟨h⟩
def _root_.ZfV(t:Wr Y->A:=by intro h;refine Zg (h:=?_);refine qf (jx L Z Z Z (oy Z) Z zmn M M J J) ?_;exact h.1)(h:Y):A:=t ⟨h⟩
def zgv(l:List CH):ez (stC l)=E3 l:=zdb (fh cmpT_ord l)
def Pf:∀ (l:List CH),(ez l).length<=l.length
 | []=>nu _
 | [c]=>nu _
 | c::d::r=>by
  show(if js c.1 d.1=0 then ez (d::r) else c::ez (d::r)).length<=_;have:=Pf (d::r);split
  ·simp only[ma] at this |-;omega
  ·simp only[ma] at this |-;omega
def Yc(hz:l.length<=100000)(hB:zwe B w)(hv:KS tyC l fu v B):
  RetO zwf 227 [v] w B (SlR tyC 7 l.length (l.flatMap ccs)):=by
 have hv0:=hv;have hlen:=Fs l;have hpl:=Un l;obtain⟨p,c,rfl⟩:=ke hv;rcases p with _ | b
 ·obtain⟨h0,rfl⟩:l.length=0/\c=0:=Kq hv;have hn:l=[]:=zrv h0;subst hn;refine wt Tryz.func227 Z Tryz.ntmps227 (np Z) hB (ZbD (h:=?_));refine z7 (fz Z Z Z Z zqx Z) Z ((ZaM∘Zc) ?_);exact um 2 tyC 7 rfl (dt Z (fun _ _ h=>h) nq Z)
 ·refine wt Tryz.func227 Z Tryz.ntmps227 (np Z) hB (ZbD (h:=?_));refine z7 (fz Z Z Z Z zqx Z) Z (Zs (h:=?_));refine ku 0 (KS tyC l fu) Z ns hv0 (Z2 (h:=?_));refine z7 (b9 L Z Z Z Z Z) Z (ZfV (h:=?_));refine qf (yo (.inr Z) Z) (ZB (h:=?_));rw[zrw,mo];exact dt Z (fun _ _ h=>h) nq Z
def Rw{m:List CH}(hm:E3 l=m)(hz:l.length<=50000)(hB:zwe B w)(hv:KS tyC l fu v B):
  Ret zwf 156 [v] w B (KS tyC m true):=by
 subst hm;have hsl:=eo l;refine yl Tryz.func156 Z Tryz.ntmps156 (np Z) hB (ku 0 (KS tyC l fu) Z ns hv ((Zw∘Zg) ?_));refine z7 (v6 L Z Z (zn Z) Z Z Z (fun u H hH _ _ v1 hv1=>Yc J hH hv1)) Z (qf (yo (.inr Z) Z) ((Zk∘ZL∘Ze) ?_));refine o0 3 900 rfl (fun h0 hn=>?_) fun b cap rest hl hmc hcm hcl=>?_
 ·have hl0:l=[]:=zrv h0;subst hl0;refine ZcU (h:=?_);refine z7 (xh (φ:=fun _ _=>True) L Z Z (zn Z) Z Z Z (fun _ _ _ _ _=>trivial) (fun u H hH _ _=>Vr hH)) Z (Zk (h:=?_));refine ku 3 (KS tyC [] false) Z ns SlV.nil ((ZE∘Zg) ?_);refine z7 (jw L (kl:=.i64) (pl:=0) 0 0 true Z Z Z Z Z Z ⟨rfl,rfl⟩ ⟨rfl,rfl⟩ E E Z) Z ((Zaf∘Zan∘ZF∘Zj∘Zb3) ?_);refine xu (fun _:Nat=>[(5,.sat (KS tyC [] true)),(15,.sat (KS tyC [] false)),(16,.is (.int .i64 0)),(17,.is (.int .i64 0))]) (fun _=>True) (fun s=>s) 0 trivial ⟨Z,Z,Z,Z,nm⟩ ?_;rintro s _;refine(Zbx∘Zbh∘Zay∘Zg∘Zj∘Zj∘ZdX∘Zb9) ?_;refine yk1 L [.tmp 2] fun u H hH hle=>?_;exact fun v hv=>hv
 ·refine ZcU (h:=?_);refine qf (xg L 900 (xd b ((stC l).flatMap ccs++rest) tyC) (r:=xd b (l.flatMap ccs++rest) tyC) Z Z Z Z Z (fun u H C hH _ hr hC=>(by have h:=zaq (cap:=cap) Z J hH hr hC;exact h))) ?_;refine Zk (h:=?_)
  refine uf (xs:=(stC l).flatMap ccs) (rest:=rest) (s:=7) 3 900 rfl Z Z (by rw[Fs,hsl]) hmc hcm (by
   rw[nr] at hcl |-;rw[Fs] at hcl |-;rw[hsl];exact hcl) ?_
  rw[<-hsl];have hkn:=zgv l;have hkl:=Pf (stC l);rw[<-hkn];generalize stC l=S at *;refine Zew (h:=?_);refine(ZE∘Zg) ?_;refine z7 (jw L (kl:=.i64) (pl:=0) 0 0 true Z Z Z Z Z Z ⟨rfl,rfl⟩ ⟨rfl,rfl⟩ J J Z) Z ((Zaf∘Zan∘ZF∘Zj∘Zb3) ?_);refine Yh 5 (SlV tyC 7 [] 0 true) Z ns (fun v H h=>h) (zql 5 rfl (xu (fun i:Nat×List CH=>[(3,.sat (KS tyC S false)),(4,.is Eu),(5,.own (SlG tyC 7 i.2.length (i.2.flatMap ccs))),(15,.sat (KS tyC S false)),(16,.is (.int .i64 S.length)),(17,.is (.int .i64 i.1))]) (fun i=>i.1<=S.length/\i.2.length<=i.1/\i.2++ez (S.drop i.1)=ez S) (fun i=>S.length-i.1) (0,[]) ⟨mb _,nu _,rfl⟩ ⟨Z,Z,Z,Z,Z,Z,nm⟩ ?_));rintro⟨i,kp⟩ ⟨h1,h2,h3⟩;dsimp only at h1 h2 h3 |-;by_cases hlt:i<S.length
  ·obtain⟨c,hc0⟩:=xj hlt;have hc:=rq hc0;have hst:=Xu hc0;have a1:IntKind.i64.wrap ((i:Int)+1)=((i+1:Nat):Int):=xb J J;by_cases hlast:i+1<S.length
   ·obtain⟨d,hd0⟩:=xj hlast;have hd:=rq hd0;rw[hd0] at hst;dsimp only at hst;by_cases heq:js c.1 d.1=0
    ·rw[na heq,mo] at hst;refine(Zbx∘ZA∘Z6∘ZaO∘ZcO∘ZX∘Zv∘ZaF∘Zk∘Zdk∘Zl∘ZbB∘ZaG∘ZeP∘Zcg∘Zm∘Zfy∘Zeq∘ZbB∘Zd1) ?_;refine z9 (yn L (vs:=[_,_,_,_,_,_,_]) Z Z Z Z Z ⟨_,rfl⟩) Z (z91 L Z (fun u H hH _=>l4 hH) ?_);refine(Zd6∘Za2∘ZbR∘Za0∘ZaH∘ZH∘ZcH) ?_;exact yr (x:=(i,kp)) (i+1,kp) ⟨hlt,by dsimp only;omega,by dsimp only;rw[<-hst];exact h3⟩ G ⟨Z,Z,Z,Z,Z,Z,trivial⟩
    ·rw[nc heq] at hst;refine(Zbx∘ZA∘Z6∘ZaO∘ZcO∘ZX∘Zv∘ZaF∘Zk∘Zdk∘Zl∘ZbB∘ZaG∘ZeP∘Zcg∘Zm∘Zfy∘Zeq∘ZbB∘Zd1) ?_;refine z9 (yn L (vs:=[_,_,_,_,_,_,_]) Z Z Z Z Z ⟨_,rfl⟩) Z (z91 L Z (fun u H hH _=>l4 hH) ?_);refine(Zfz∘Zc2∘ZM) ?_;refine qf (yo (.inl Z) Z) ((Zd4∘ZJ) ?_);refine qf (G8 L E Z Z Z (eg Z) Z zmn Z Z J J) (qf (yo (.inr Z) Z) ((Zaz∘ZaH∘ZH∘ZcH) ?_));exact yr (x:=(i,kp)) (i+1,kp++[c]) ⟨hlt,by dsimp only;rw[List.length_append,List.length_singleton];omega,by dsimp only;rw[List.append_assoc,<-hst];exact h3⟩ G ⟨Z,Z,by dsimp only;rw[List.flatMap_append,List.length_append];rfl,Z,Z,Z,trivial⟩
   ·have hend:i+1=S.length:=J;rw[zr6 J] at hst;dsimp only at hst;refine(Zbx∘ZA∘Z6∘ZaO∘ZcO∘ZX∘Zv∘ZaF∘Zk∘Zdk∘Zl∘ZbB∘ZaG∘ZeP∘Zdg∘Zcr∘ZcC∘Zc2∘ZM) ?_;refine qf (yo (.inl Z) Z) ((Zd4∘ZJ) ?_);refine qf (G8 L E Z Z Z (eg Z) Z zmn Z Z J J) (qf (yo (.inr Z) Z) ((Zaz∘ZaH∘ZH∘ZcH) ?_));exact yr (x:=(i,kp)) (i+1,kp++[c]) ⟨hlt,by dsimp only;rw[List.length_append,List.length_singleton];omega,by dsimp only;rw[List.append_assoc,<-hst];exact h3⟩ G ⟨Z,Z,by dsimp only;rw[List.flatMap_append,List.length_append];rfl,Z,Z,Z,trivial⟩
  ·rw[zrx J,show ez []=[] from rfl,mi] at h3;subst h3;refine zot 5 rfl ((Zbx∘Zbh∘Zay∘Zg∘Zj∘Zj∘ZdX∘Zb9) ?_);refine yk1 L [.tmp 2] fun u H hH hle=>?_;exact fun v hv=>hv
end Go.V.L8
end
