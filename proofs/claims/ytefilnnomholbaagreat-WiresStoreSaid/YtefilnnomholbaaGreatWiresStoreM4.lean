/- Texts, part 4. -/
import Derived.Test.YtefilnnomholbaaGreatWiresStoreM3
import Derived.Lib.IndexAny
import Derived.WalkSmall
import Derived.RecoverIn
import Derived.Sort.Walk7
import Derived.Sort.Walk13
set_option linter.unusedVariables false
set_option linter.unusedSimpArgs false
set_option maxRecDepth 20000
set_option maxHeartbeats 8000000
set_option linter.defProp false
open Go.Proofs Go.RowKit
section
variable{u w:Go.World}{a b b1 c e f fr i j k lim m n rb sb t zwd:Nat}{P:Go.Program}{F:Go.V.Fr}{B B0:Go.V.Heap}{O:Go.V.Boxes}{ops:Array Go.Oper}{κ:Go.V.Kap}{d:Array Int}{ty:Go.TypeId}{pos:String}{aft:Array Go.Edge}{g:Option (Nat×Bool)}{fr0 r x:Int}{Q:Go.Exit->Go.Act->Go.World->Prop}{tts:Array Go.TypeId}{bs:List Nat}{fu:Bool}{pv s sv v:Go.Value}{R:Go.V.L4.Rd}{args cap fst rest:List Go.Value}{C:Nat->Prop}{α:Type}{l:List Go.Oper}{St:Go.V.Kap->Go.Act->Go.World->Prop}{φ:Go.Value->Go.V.Heap->Prop}{r':Go.V.GR}{p:Int->Bool}{L0:List Int}{A Y:Prop}
namespace Go.V
open Go.V.L4
def az{a:Addr}(h:k≠a.block):(u.freeze a n).heap[k]?=u.heap[k]?:=by
 unfold World.freeze;split
 ·rfl
 ·simp [Array.getElem?_modify,Ne.symm h]
def Qs(u:World)(a:Addr)(n:Nat):(u.freeze a n).heap.size=u.heap.size:=by
 unfold World.freeze;split<;>simp
def Rs{H:Heap}{L:Nat->Prop}(hs:zwe H u)(hL:L b)(hH:H b=none):Grow L u H (u.freeze ⟨b,0,none⟩ n) H:=
 have ho:(u.freeze ⟨b,0,none⟩ n).os=u.os/\(u.freeze ⟨b,0,none⟩ n).tape=u.tape/\(u.freeze ⟨b,0,none⟩ n).output=u.output/\(u.freeze ⟨b,0,none⟩ n).drawn=u.drawn:=by unfold World.freeze;split<;>exact⟨rfl,rfl,rfl,rfl⟩
 ⟨⟨ho.1,ho.2.1,ho.2.2.1,zuf (Qs ..).symm,fun k _ hk=>az (fun e=>hk (e ▸ hL)),zuf ho.2.2.2.symm⟩,fun k x hx=>by
  have:k≠b:=fun e=>by subst e;rw[hH] at hx;cases hx
  show(u.freeze ⟨b,0,none⟩ n).heap[k]?=some x;rw[az this];exact hs k x hx,mw _,fun _ _ _=>rfl⟩
def i8(bs:List Nat):ByteArray:=⟨(bs.map UInt8.ofNat).toArray⟩
section
variable        {d q:Nat}     {x y:Operand} 
def zou(q:Nat){r:Res}{c:Code}(S:Prop)(hk:κ q=some (.own r))(hS:∀ v H u C,r.P v H u C->S)(h:S->V P F B n O κ c Q):V P F B n O κ c Q:=fun a u hh=>by
 obtain⟨H,fp,hH⟩:=hh;exact h (hS _ _ _ _ (hH.slot q _ hk).1) a u ⟨H,fp,hH⟩
def Oj{a0:Addr}(hn:Nat.blt d n=true)(hg:gK ops κ ⟨some d,.call ⟨.builtin .unsafeSliceData,#[x],tts⟩,ty,pos,aft,g⟩=some true)(hx:evK κ x=some (.slice (some a0) m c))(hc:c≠0):
  StepOK P F B n ops O κ ⟨some d,.call ⟨.builtin .unsafeSliceData,#[x],tts⟩,ty,pos,aft,g⟩ d (.is (.pointer (some a0))):=
 k9 rfl (by simpa using hn) hg trivial fun a u H fp e=>⟨_,by
  have h1:a.eval x=.slice (some a0) m c:=e.is_ x _ (by simp [Op.operands,Call.operands]) hx;have h2:=Lib.run_unsafeSliceData_row (P:=P) u tts ty a0 m c hc;simp only[execOp,resolve,invoke,builtin,nw,me,ny,zr9,mt,zr7,h1,h2],rfl⟩
def Oi{pt it e:TypeId}{bs:List Nat}(hb:∀ b∈bs,b<=255)(h0:bs≠[])(hl:bs.length<=1099511627776)(hn:Nat.blt d n=true)(hg:gK ops κ ⟨some d,.call ⟨.builtin .unsafeString,#[x,y],#[pt,it]⟩,ty,pos,aft,g⟩=some true)(hx:evK κ x=some (.pointer (some ⟨b,0,none⟩)))(hy:evK κ y=some (.int .i64 bs.length))
  (hq:κ q=some (.own (AtV (.slice (some ⟨b,0,none⟩) m c) (SlR e 1 bs.length (byV bs))))) (hp:P.underlying pt=some (.pointer e)) (hc:P.cellsOf e=1):
  StepOK2 P F B n ops O κ ⟨some d,.call ⟨.builtin .unsafeString,#[x,y],#[pt,it]⟩,ty,pos,aft,g⟩ q (.own GNo.res) d (.is (.string (i8 bs))):=by
 rintro κ' a u hlk hks ⟨H,fp,hh⟩;unfold After;rw[na (xn hh hlk hg)];have en:=hh.env hlk;have hk':=hks.trans hq;obtain⟨hown,hM⟩:=hh.slot q _ hk';have h1:a.eval x=.pointer (some ⟨b,0,none⟩):=en.is_ x _ (by simp [Op.operands,Call.operands]) hx;have h2:a.eval y=.int .i64 bs.length:=en.is_ y _ (by simp [Op.operands,Call.operands]) hy;obtain⟨hxl,hown⟩:=hown;rcases hown with ⟨_,hv,_⟩ | ⟨b2,cap,rest,hv,hbk,hnc,hcm,hcl,hC⟩
 ·cases hv
 ·cases hv;have hbm:=hM b ((hC b).2 rfl);have hlen:(bs.map UInt8.ofNat).length=bs.length:=mg _
  have hr:=Lib.run_unsafeString_row (P:=P) u pt it ty e hp hc b (byV bs++rest).toArray.size (by simp [World.shape?,hbk]) (bs.map UInt8.ofNat) (fun h=>h0 (List.map_eq_nil_iff.1 h)) (by rw[hlen];simp) (by rw[hlen];omega) (fun j v hj=>by
   rw[ut,zrw,je hbk];rw[zr8] at hj
   cases hbj:bs[j]? with
   | none=>rw[hbj] at hj;cases hj
   | some z=>
    rw[hbj] at hj;cases hj;have hz:=hb z (mz hbj);have hjl:j<(byV bs).length:=by rw[mg];exact get_lt hbj
    simp only[zt3];rw[zs7 hjl,zr8,hbj];have:(UInt8.ofNat z).toNat=z:=by simp;omega
    rw[this];rfl)
  rw[hlen] at hr
  have hrun:(execOp a.eval ⟨some d,.call ⟨.builtin .unsafeString,#[x,y],#[pt,it]⟩,ty,pos,aft,g⟩).run P u=.ok (.value (.string (i8 bs))) (u.freeze ⟨b,0,none⟩ bs.length):=by
   simp only[execOp,resolve,invoke,builtin,nw,me,ny,zr9,mt,zr7,h1,h2,hr];rfl
  rw[hrun];simp only[Upon];have h3:=hh.usePut (d:=q) (a':=a) (r':=GNo.res) (C:=fun _=>False) hk' (Rs (n:=bs.length) hh.sub ((hC b).2 rfl) hbm.2.1) rfl rfl (fun _ _=>rfl) (fun k h=>h) (fun k h=>h.elim);rw[jt] at h3;exact⟨H,_,h3.put (k:=.is _) (zn hn) trivial Z⟩
def Lh(hn:Nat.blt d n=true)(hg:gK ops κ ⟨some d,.call ⟨.builtin .unsafeSliceData,#[x],tts⟩,ty,pos,aft,g⟩=some true)(hx:evK κ x=some (.slice none m c)):
  StepOK P F B n ops O κ ⟨some d,.call ⟨.builtin .unsafeSliceData,#[x],tts⟩,ty,pos,aft,g⟩ d (.is (.pointer none)):=
 k9 rfl (by simpa using hn) hg trivial fun a u H fp e=>⟨_,by
  have h1:a.eval x=.slice none m c:=e.is_ x _ (by simp [Op.operands,Call.operands]) hx;have h2:=Lib.run_unsafeSliceData_nil (P:=P) u tts ty m c;simp only[execOp,resolve,invoke,builtin,nw,me,ny,zr9,mt,zr7,h1,h2],rfl⟩
def Ld{pt it:TypeId}{p0:Option Addr}(hn:Nat.blt d n=true)(hg:gK ops κ ⟨some d,.call ⟨.builtin .unsafeString,#[x,y],#[pt,it]⟩,ty,pos,aft,g⟩=some true)(hx:evK κ x=some (.pointer p0))(hy:evK κ y=some (.int .i64 0)):
  StepOK P F B n ops O κ ⟨some d,.call ⟨.builtin .unsafeString,#[x,y],#[pt,it]⟩,ty,pos,aft,g⟩ d (.is (.string .empty)):=
 k9 rfl (by simpa using hn) hg trivial fun a u H fp e=>⟨_,by
  have h1:a.eval x=.pointer p0:=e.is_ x _ (by simp [Op.operands,Call.operands]) hx;have h2:a.eval y=.int .i64 0:=e.is_ y _ (by simp [Op.operands,Call.operands]) hy;have h3:=Lib.run_unsafeString_none (P:=P) u pt it ty p0;simp only[execOp,resolve,invoke,builtin,nw,me,ny,zr9,mt,zr7,h1,h2,h3],rfl⟩
end
end Go.V
namespace Go.V
open Go.V.L4
section
variable        {d q:Nat}     {src dst e:TypeId}
def og{bs:List Nat}(hb:∀ b∈bs,b<=255)(hn:Nat.blt d n=true)(hg:gK ops κ ⟨some d,.convert src dst (.tmp q),ty,pos,aft,g⟩=some true)(hx:κ q=some (.sat (BsV bs fu)))(hs:P.underlying src=some (.slice e))(he:P.underlying e=some (.int .u8))(hd:P.underlying dst=some .string):
  StepOK P F B n ops O κ ⟨some d,.convert src dst (.tmp q),ty,pos,aft,g⟩ d (.is (.string (i8 bs))):=
 k9 rfl (by simpa using hn) hg trivial fun a u H fp en=>⟨_,by
  have key:(convert src dst (a.eval (.tmp q))).run P u=.ok (.string (i8 bs)) u:=by
   obtain⟨hl,⟨h0,p,hv⟩ | ⟨b,off,cap,cs,ty0,fr,hv,h2,h3,h4,_⟩⟩:=en.sat_ q _ (by simp [Op.operands]) hx
   ·have hb0:bs=[]:=zrv h0;subst hb0;rw[hv]
    cases p with
    | none=>exact run_convert_bytes_nil u src e hs he _ _ dst hd
    | some a0=>exact run_convert_bytes_back (P:=P) u src dst e a0 0 [] hs he hd (fun j hj=>by cases hj)
   ·rw[hv];have hlen:(bs.map UInt8.ofNat).length=bs.length:=mg _
    have hr:=run_convert_bytes_back (P:=P) u src dst e ⟨b,off,none⟩ cap (bs.map UInt8.ofNat) hs he hd (fun j hj=>by
     rw[hlen] at hj;obtain⟨z,hz⟩:=xj hj;have hj2:(bs.map fun b:Nat=>Value.int .u8 (b:Int))[j]?=some (.int .u8 (z:Int)):=by rw[zr8,hz];rfl
     have h5:=AtP.get h3 hj2;rw[ut,je (en.sub _ _ h2)]
     have h6:((bs.map UInt8.ofNat)[j]'(by rw[hlen];exact hj)).toNat=z:=by
      have hzb:=hb z (mz hz);rw[List.getElem_map,ue hz];simp;omega
     rw[h6];simpa using h5)
    rw[hlen] at hr;exact hr
  simp only[execOp,nw,me,key,ny],rfl⟩
end
end Go.V
namespace Go.V.L4
open Go.V.L2 Go.V.L3 Go.V.L8
abbrev zmw:TypeId:=29
abbrev zmx:TypeId:=31
abbrev oV(x:ByteArray×ByteArray):Value:=.agg #[.string x.1,.string x.2]
abbrev gV(x:Sf):Value:=.agg #[.string x.1.1,.string x.1.2,.string x.2]
abbrev sZ:ByteArray:=⟨#[]⟩
attribute [local irreducible] V N X VO Par StepOK Has Ret RetL RetO RetT jh RetX RetY Src
def Ve{gf:Rd->ByteArray×Rd}(hfn:L.fn fr=some ()){C:Nat->Prop}(hB:zwe B w)(hr:(GRd rb sv R).P B w C)(hC:ZCB C w B)
  (hf:R.err=0->∀ (u:World) (H:Heap) (C:Nat->Prop),zwe H u->B.Le H->(GRd rb sv R).P H u C->(ZCB C u H)->RetX zwf fr (fst++cap) u H C (GRd rb sv (gf R).2) (.string (gf R).1)):
  RetX zwf 284 [k8 rb,.func (.func fr) fst.toArray cap.toArray] w B C (GRd rb sv (dl gf sZ R).2) (.string (dl gf sZ R).1):=by
 unfold RetX;refine yz 900 (GRd rb sv R) Tryz.func284 Z Tryz.ntmps284 (np Z) hB hr hC ?_;rw[xe];obtain⟨⟨n,⟨at1,bad1,err1⟩⟩,hz⟩:∃ z,gf R=z:=⟨_,rfl⟩
 obtain⟨at_,bad,err⟩:=R;unfold dl;rw[hz] at hf |-;dsimp only at hf |-;by_cases h0:err≠0
 ·rw[na h0];refine(Zw∘Zh∘Zn) ?_;refine qf (yj L 900 (GRd rb sv ⟨at_,bad,err⟩) (.bool true) (r:=GRd rb sv ⟨at_,bad,err⟩) Z Z Z Z Z (fun u H C2 hH _ hr2 hC2=>ky (nf h0) hH hr2 hC2)) ((Zr∘Zz∘Zc) ?_);exact kj L 900 (r:=xd rb _ ft) (rs:=[.tmp 4]) Z (fun _ _ h=>h) nq Z Z (fun _=>rfl)
 ·have he:err=0:=zru.1 h0;subst he;rw[nc h0];have hf:=hf rfl;by_cases h1:err1≠0
  ·rw[na h1];refine(Zw∘Zh∘Zn) ?_;refine qf (yj L 900 (GRd rb sv ⟨at_,bad,0⟩) (.bool false) (r:=GRd rb sv ⟨at_,bad,0⟩) Z Z Z Z Z (fun u H C2 hH _ hr2 hC2=>ky (ng h0) hH hr2 hC2)) ((Zs∘Zc0∘ZbV) ?_);refine qf (jo L 900 (GRd rb sv ⟨at1,bad1,err1⟩) (.string n) (r:=GRd rb sv ⟨at_,bad,0⟩) Z Z Z hfn Z hf) ((Zh∘ZD∘ZR∘Zac∘Z7∘Zcm) ?_);refine xm (yq L (q:=900) (cs':=[sv,.int .i64 at_,.int .i64 bad1,.int .i64 err1]) Z Z Z Z Z) ((Zk∘Za5∘Zc) ?_);exact kj L 900 (r:=xd rb _ ft) (rs:=[.tmp 4]) Z (fun _ _ h=>h) nq Z Z (fun _=>rfl)
  ·have he:err1=0:=zru.1 h1;subst he;rw[nc h1];refine(Zw∘Zh∘Zn) ?_;refine qf (yj L 900 (GRd rb sv ⟨at_,bad,0⟩) (.bool false) (r:=GRd rb sv ⟨at_,bad,0⟩) Z Z Z Z Z (fun u H C2 hH _ hr2 hC2=>ky (ng h0) hH hr2 hC2)) ((Zs∘Zc0∘ZbV) ?_);refine qf (jo L 900 (GRd rb sv ⟨at1,bad1,0⟩) (.string n) (r:=GRd rb sv ⟨at_,bad,0⟩) Z Z Z hfn Z hf) ((Zh∘ZD∘ZR∘Zau∘Zai∘Zc) ?_);exact kj L 900 (r:=xd rb _ ft) (rs:=[.tmp 4]) Z (fun _ _ h=>h) nq Z Z (fun _=>rfl)
def Vf{gf:Rd->(ByteArray×ByteArray)×Rd}(hfn:L.fn fr=some ()){C:Nat->Prop}(hB:zwe B w)(hr:(GRd rb sv R).P B w C)(hC:ZCB C w B)
  (hf:R.err=0->∀ (u:World) (H:Heap) (C:Nat->Prop),zwe H u->B.Le H->(GRd rb sv R).P H u C->(ZCB C u H)->RetX zwf fr (fst++cap) u H C (GRd rb sv (gf R).2) (oV (gf R).1)):
  RetX zwf 282 [k8 rb,.func (.func fr) fst.toArray cap.toArray] w B C (GRd rb sv (dl gf (sZ,sZ) R).2) (oV (dl gf (sZ,sZ) R).1):=by
 unfold RetX;refine yz 900 (GRd rb sv R) Tryz.func282 Z Tryz.ntmps282 (np Z) hB hr hC ?_;rw[xe];obtain⟨⟨n,⟨at1,bad1,err1⟩⟩,hz⟩:∃ z,gf R=z:=⟨_,rfl⟩
 
 obtain⟨at_,bad,err⟩:=R;unfold dl;rw[hz] at hf |-;dsimp only at hf |-;by_cases h0:err≠0
 ·rw[na h0];refine(Zct∘ZI∘ZbN∘Zn) ?_;refine qf (yj L 900 (GRd rb sv ⟨at_,bad,err⟩) (.bool true) (r:=GRd rb sv ⟨at_,bad,err⟩) Z Z Z Z Z (fun u H C2 hH _ hr2 hC2=>ky (nf h0) hH hr2 hC2)) ((Zr∘Z2∘ZcJ∘Za3) ?_);exact kj L 900 (r:=xd rb _ ft) (rs:=[.cell 4 zmw]) Z (fun _ _ h=>h) nq Z Z (fun _=>⟨_,ya Z,rfl,rfl⟩)
 ·have he:err=0:=zru.1 h0;subst he;rw[nc h0];have hf:=hf rfl;by_cases h1:err1≠0
  ·rw[na h1];refine(Zct∘ZI∘ZbN∘Zn) ?_;refine qf (yj L 900 (GRd rb sv ⟨at_,bad,0⟩) (.bool false) (r:=GRd rb sv ⟨at_,bad,0⟩) Z Z Z Z Z (fun u H C2 hH _ hr2 hC2=>ky (ng h0) hH hr2 hC2)) ((Zs∘Zc0∘ZbV) ?_);refine qf (jo L 900 (GRd rb sv ⟨at1,bad1,err1⟩) (oV n) (r:=GRd rb sv ⟨at_,bad,0⟩) Z Z Z hfn Z hf) ((ZbA∘ZD∘ZR∘Zac∘Z7∘Zcm) ?_);refine xm (yq L (q:=900) (cs':=[sv,.int .i64 at_,.int .i64 bad1,.int .i64 err1]) Z Z Z Z Z) ((Zk∘Z0∘ZcJ∘Za3) ?_);exact kj L 900 (r:=xd rb _ ft) (rs:=[.cell 4 zmw]) Z (fun _ _ h=>h) nq Z Z (fun _=>⟨_,ya Z,rfl,rfl⟩)
  ·have he:err1=0:=zru.1 h1;subst he;rw[nc h1];refine(Zct∘ZI∘ZbN∘Zn) ?_;refine qf (yj L 900 (GRd rb sv ⟨at_,bad,0⟩) (.bool false) (r:=GRd rb sv ⟨at_,bad,0⟩) Z Z Z Z Z (fun u H C2 hH _ hr2 hC2=>ky (ng h0) hH hr2 hC2)) ((Zs∘Zc0∘ZbV) ?_);refine qf (jo L 900 (GRd rb sv ⟨at1,bad1,0⟩) (oV n) (r:=GRd rb sv ⟨at_,bad,0⟩) Z Z Z hfn Z hf) ((ZbA∘ZD∘ZR∘Zau∘ZM∘ZcJ∘Za3) ?_);exact kj L 900 (r:=xd rb _ ft) (rs:=[.cell 4 zmw]) Z (fun _ _ h=>h) nq Z Z (fun _=>⟨_,ya Z,rfl,rfl⟩)
def Qf{gf:Rd->Sf×Rd}(hfn:L.fn fr=some ()){C:Nat->Prop}(hB:zwe B w)(hr:(GRd rb sv R).P B w C)(hC:ZCB C w B)
  (hf:R.err=0->∀ (u:World) (H:Heap) (C:Nat->Prop),zwe H u->B.Le H->(GRd rb sv R).P H u C->(ZCB C u H)->RetX zwf fr (fst++cap) u H C (GRd rb sv (gf R).2) (gV (gf R).1)):
  RetX zwf 232 [k8 rb,.func (.func fr) fst.toArray cap.toArray] w B C (GRd rb sv (dl gf n3 R).2) (gV (dl gf n3 R).1):=by
 unfold RetX;refine yz 900 (GRd rb sv R) Tryz.func232 Z Tryz.ntmps232 (np Z) hB hr hC ?_;rw[xe];obtain⟨⟨n,⟨at1,bad1,err1⟩⟩,hz⟩:∃ z,gf R=z:=⟨_,rfl⟩
 
 obtain⟨at_,bad,err⟩:=R;unfold dl;rw[hz] at hf |-;dsimp only at hf |-;by_cases h0:err≠0
 ·rw[na h0];refine(Zct∘ZI∘ZbN∘Zn) ?_;refine qf (yj L 900 (GRd rb sv ⟨at_,bad,err⟩) (.bool true) (r:=GRd rb sv ⟨at_,bad,err⟩) Z Z Z Z Z (fun u H C2 hH _ hr2 hC2=>ky (nf h0) hH hr2 hC2)) ((Zr∘Z2∘Zeo∘Za3) ?_);exact kj L 900 (r:=xd rb _ ft) (rs:=[.cell 4 zmx]) Z (fun _ _ h=>h) nq Z Z (fun _=>⟨_,ya Z,rfl,rfl⟩)
 ·have he:err=0:=zru.1 h0;subst he;rw[nc h0];have hf:=hf rfl;by_cases h1:err1≠0
  ·rw[na h1];refine(Zct∘ZI∘ZbN∘Zn) ?_;refine qf (yj L 900 (GRd rb sv ⟨at_,bad,0⟩) (.bool false) (r:=GRd rb sv ⟨at_,bad,0⟩) Z Z Z Z Z (fun u H C2 hH _ hr2 hC2=>ky (ng h0) hH hr2 hC2)) ((Zs∘Zc0∘ZbV) ?_);refine qf (jo L 900 (GRd rb sv ⟨at1,bad1,err1⟩) (gV n) (r:=GRd rb sv ⟨at_,bad,0⟩) Z Z Z hfn Z hf) ((ZbA∘ZD∘ZR∘Zac∘Z7∘Zcm) ?_);refine xm (yq L (q:=900) (cs':=[sv,.int .i64 at_,.int .i64 bad1,.int .i64 err1]) Z Z Z Z Z) ((Zk∘Z0∘Zeo∘Za3) ?_);exact kj L 900 (r:=xd rb _ ft) (rs:=[.cell 4 zmx]) Z (fun _ _ h=>h) nq Z Z (fun _=>⟨_,ya Z,rfl,rfl⟩)
  ·have he:err1=0:=zru.1 h1;subst he;rw[nc h1];refine(Zct∘ZI∘ZbN∘Zn) ?_;refine qf (yj L 900 (GRd rb sv ⟨at_,bad,0⟩) (.bool false) (r:=GRd rb sv ⟨at_,bad,0⟩) Z Z Z Z Z (fun u H C2 hH _ hr2 hC2=>ky (ng h0) hH hr2 hC2)) ((Zs∘Zc0∘ZbV) ?_);refine qf (jo L 900 (GRd rb sv ⟨at1,bad1,0⟩) (gV n) (r:=GRd rb sv ⟨at_,bad,0⟩) Z Z Z hfn Z hf) ((ZbA∘ZD∘ZR∘Zau∘ZM∘Zeo∘Za3) ?_);exact kj L 900 (r:=xd rb _ ft) (rs:=[.cell 4 zmx]) Z (fun _ _ h=>h) nq Z Z (fun _=>⟨_,ya Z,rfl,rfl⟩)
def Vd{gf:Rd->U×Rd}(hfn:L.fn fr=some ()){C:Nat->Prop}(hB:zwe B w)(hr:(GRd rb sv R).P B w C)(hC:ZCB C w B)
  (hf:R.err=0->∀ (u:World) (H:Heap) (C:Nat->Prop),zwe H u->B.Le H->(GRd rb sv R).P H u C->(ZCB C u H)->RetX zwf fr (fst++cap) u H C (GRd rb sv (gf R).2) (uv (gf R).1)):
  RetX zwf 162 [k8 rb,.func (.func fr) fst.toArray cap.toArray] w B C (GRd rb sv (dl gf (n3,n3) R).2) (uv (dl gf (n3,n3) R).1):=by
 unfold RetX;refine yz 900 (GRd rb sv R) Tryz.func162 Z Tryz.ntmps162 (np Z) hB hr hC ?_;rw[xe];obtain⟨⟨n,⟨at1,bad1,err1⟩⟩,hz⟩:∃ z,gf R=z:=⟨_,rfl⟩
 
 obtain⟨at_,bad,err⟩:=R;unfold dl;rw[hz] at hf |-;dsimp only at hf |-;by_cases h0:err≠0
 ·rw[na h0];refine(Zct∘ZI∘ZbN∘Zn) ?_;refine qf (yj L 900 (GRd rb sv ⟨at_,bad,err⟩) (.bool true) (r:=GRd rb sv ⟨at_,bad,err⟩) Z Z Z Z Z (fun u H C2 hH _ hr2 hC2=>ky (nf h0) hH hr2 hC2)) ((Zr∘Z2∘Zb1∘Za3) ?_);exact kj L 900 (r:=xd rb _ ft) (rs:=[.cell 4 tyU]) Z (fun _ _ h=>h) nq Z Z (fun _=>⟨_,ya Z,rfl,rfl⟩)
 ·have he:err=0:=zru.1 h0;subst he;rw[nc h0];have hf:=hf rfl;by_cases h1:err1≠0
  ·rw[na h1];refine(Zct∘ZI∘ZbN∘Zn) ?_;refine qf (yj L 900 (GRd rb sv ⟨at_,bad,0⟩) (.bool false) (r:=GRd rb sv ⟨at_,bad,0⟩) Z Z Z Z Z (fun u H C2 hH _ hr2 hC2=>ky (ng h0) hH hr2 hC2)) ((Zs∘Zc0∘ZbV) ?_);refine qf (jo L 900 (GRd rb sv ⟨at1,bad1,err1⟩) (uv n) (r:=GRd rb sv ⟨at_,bad,0⟩) Z Z Z hfn Z hf) ((ZbA∘ZD∘ZR∘Zac∘Z7∘Zcm) ?_);refine xm (yq L (q:=900) (cs':=[sv,.int .i64 at_,.int .i64 bad1,.int .i64 err1]) Z Z Z Z Z) ((Zk∘Z0∘Zb1∘Za3) ?_);exact kj L 900 (r:=xd rb _ ft) (rs:=[.cell 4 tyU]) Z (fun _ _ h=>h) nq Z Z (fun _=>⟨_,ya Z,rfl,rfl⟩)
  ·have he:err1=0:=zru.1 h1;subst he;rw[nc h1];refine(Zct∘ZI∘ZbN∘Zn) ?_;refine qf (yj L 900 (GRd rb sv ⟨at_,bad,0⟩) (.bool false) (r:=GRd rb sv ⟨at_,bad,0⟩) Z Z Z Z Z (fun u H C2 hH _ hr2 hC2=>ky (ng h0) hH hr2 hC2)) ((Zs∘Zc0∘ZbV) ?_);refine qf (jo L 900 (GRd rb sv ⟨at1,bad1,0⟩) (uv n) (r:=GRd rb sv ⟨at_,bad,0⟩) Z Z Z hfn Z hf) ((ZbA∘ZD∘ZR∘Zau∘ZM∘Zb1∘Za3) ?_);exact kj L 900 (r:=xd rb _ ft) (rs:=[.cell 4 tyU]) Z (fun _ _ h=>h) nq Z Z (fun _=>⟨_,ya Z,rfl,rfl⟩)
end Go.V.L4
namespace Go.V.L4
open Go.V Go.V.L2 Go.V.L3 Go.V.L8
def _root_.Zbf(t:Wr Y->A:=by exact fun h=>(ZaW∘Zi) h.1)(h:Y):A:=t ⟨h⟩
def Rm(h:R.at_<=bs.length):(Bo bs R).2.at_<=bs.length:=(zcb _ _ _ R h).1
def Sl{e:Int}(h:R.at_<=bs.length):(ae bs lim e R).2.at_<=bs.length:=by
 unfold ae;split
 ·dsimp only;rw[Ml];exact Rm h
 ·exact Rm h
def iy{f:Rd->α×Rd}{z:α}(h:R.at_<=m)(hf:(f R).2.at_<=m):(dl f z R).2.at_<=m:=by
 unfold dl;split
 ·exact h
 ·split
  ·exact h
  ·exact hf
def sk(h:R.at_<=bs.length):(vk bs lim R).2.at_<=bs.length:=iy h (Sl h)
def re(hl:lim<=1099511627776)(h:(vk bs lim R).2.err=0):∃ n:Nat,(vk bs lim R).1=(n:Int)/\n<=lim:=by
 unfold vk dl at h |-;split at h
 ·rename_i h0;exact ni h h0
 ·rename_i h0;rw[nc h0];split at h
  ·rename_i h1;exact ni h h1
  ·rename_i h1;rw[nc h1];unfold zeq ae at h |-;dsimp only at h |-;split at h
   ·rename_i h2;exfalso;unfold Rd.fail at h;split at h
    ·cases h
    ·rename_i h3;exact h3 h
   ·rename_i h2;rw[nc h2];exact⟨_,xb J J,by omega⟩
def Qk(bs:List Nat)(lim:Nat)(R:Rd):ByteArray×Rd:=
 if (vk bs lim R).2.err≠0\/((bs.length-(vk bs lim R).2.at_:Nat):Int)<(vk bs lim R).1 then (sZ,(vk bs lim R).2.fail bs.length 17)
 else (i8 ((bs.drop (vk bs lim R).2.at_).take (vk bs lim R).1.toNat),⟨(vk bs lim R).2.at_+(vk bs lim R).1.toNat,(vk bs lim R).2.bad,(vk bs lim R).2.err⟩)
def l8(bs:List Nat)(lim:Nat):Rd->ByteArray×Rd:=dl (Qk bs lim) sZ
def Kf{α β:Type}(f:Rd->α×Rd)(g:Rd->β×Rd)(R:Rd):(α×β)×Rd:=(((f R).1,(g (f R).2).1),(g (f R).2).2)
def Rk(bs:List Nat):Rd->(ByteArray×ByteArray)×Rd:=dl (Kf (l8 bs 16) (l8 bs 16)) (sZ,sZ)
def vq(bs:List Nat):Rd->Sf×Rd:=dl (Kf (Rk bs) (l8 bs 16)) n3
def r5(bs:List Nat):Rd->U×Rd:=dl (Kf (vq bs) (vq bs)) (n3,n3)
def zjs(h:R.at_<=bs.length):(Qk bs lim R).2.at_<=bs.length:=by
 have h1:=sk (lim:=lim) h;unfold Qk;split
 ·dsimp only;rw[Ml];exact h1
 ·rename_i h2;dsimp only;omega
def Ke(h:R.at_<=bs.length):(l8 bs lim R).2.at_<=bs.length:=iy h (zjs h)
def zb9(h:R.at_<=bs.length):(Rk bs R).2.at_<=bs.length:=iy h (Ke (Ke h))
def Mj(h:R.at_<=bs.length):(vq bs R).2.at_<=bs.length:=iy h (Ke (zb9 h))
def Y5(h:R.at_<=bs.length):(r5 bs R).2.at_<=bs.length:=iy h (Mj (Mj h))
section
variable        {d q:Nat}    
def zbp(L:Tabs P){tt:TypeId}{ag:Bool}{lo hi:Operand}{kl kh:IntKind}(i k:Nat){pl ph:Int}(hn:Nat.blt d n=true)(hg:gK ops κ ⟨some d,.slice tt (.tmp q) (some lo) (some hi) none,ty,pos,aft,g⟩=some true)(hx:κ q=some (.sat (BsV bs fu)))(ht:L.sl tt=some A3)(hl:L.ld A3=some (ag,1))
  (hlo:evK κ lo=some (.int kl pl)) (hhi:evK κ hi=some (.int kh ph)) (el:pl=i) (eh:ph=(i+k:Nat)) (hjs:i+k<=bs.length):StepOK P F B n ops O κ ⟨some d,.slice tt (.tmp q) (some lo) (some hi) none,ty,pos,aft,g⟩ d (.sat (BsV ((bs.drop i).take k) false)):=by
 have h:=jw (km:=.i64) (pm:=0) (P:=P) (F:=F) (B:=B) (O:=O) (ops:=ops) (aft:=aft) (ty:=ty) (pos:=pos) (ys:=((bs.drop i).take k).map fun b:Nat=>Value.int .u8 (b:Int)) L i (i+k) false hn hg hx ht hl ⟨hlo,el⟩ ⟨hhi,eh⟩ (fun h=>by cases h) J hjs (by rw[zse,zse,zv5,zta,ztk]);have e:i+k-i=((bs.drop i).take k).length:=by rw[mh,m9];omega
 rw[e] at h;exact h
end
attribute [local irreducible] V N X VO Par StepOK Has Ret RetL RetO RetT jh RetX RetY Src
abbrev Vj:TypeId:=154
def ze6{b2 b3:Nat}{bs:List Nat}(hlim:lim<=1099511627776)(hb:∀ b∈bs,b<=255)(hl:bs.length<=1099511627776)(hat:R.at_<=bs.length)(hB:zwe B w)(hs:BsV bs fu sv B)(h2:B b2=some (.cells #[k8 rb] Vj))(h3:B b3=some (.cells #[.int .i64 lim] 3))(hr:(GRd rb sv R).P B w C)(hC:ZCB C w B):
  RetX zwf 285 [k8 b2,k8 b3] w B C (GRd rb sv (Qk bs lim R).2) (.string (Qk bs lim R).1):=by
 obtain⟨p,c,rfl⟩:=ke hs;unfold RetX;refine yz 900 (GRd rb _ R) Tryz.func285 Z Tryz.ntmps285 (np Z) hB hr hC ?_;rw[xe];have hla:=sk (lim:=lim) hat;obtain⟨z,⟨at1,bad1,err1⟩,hz⟩:∃ z R1,vk bs lim R=(z,R1):=⟨_,_,rfl⟩
 have hlen:=fun(u:World) (H:Heap) (C2:Nat->Prop) (hH:zwe H u) (hle:B.Le H) hr2 hC2=>hz ▸ len_ret (R:=R) (rb:=rb) (C:=C2) hlim hb hl hat hH (hs.le hle) hr2 hC2;have hlv:=fun h=>re (bs:=bs) (R:=R) hlim h;unfold Qk;rw[hz] at hlv hla |-;dsimp only at hlv hla |-;by_cases h0:err1≠0
 ·rw[na (.inl h0)];refine Zw (h:=?_);refine z7 (ql L (qt Z h2) Z Z Z Z) Z (z7 (ql L (qt Z h3) Z Z Z Z) Z (qf (yj L 900 (GRd rb (.slice p bs.length c) ⟨at1,bad1,err1⟩) (.int .i64 z) (r:=GRd rb (.slice p bs.length c) R) Z Z Z Z Z hlen) ((Zh∘ZL) ?_)));refine z7 (ql L (qt Z h2) Z Z Z Z) Z (qf (yj L 900 (GRd rb (.slice p bs.length c) ⟨at1,bad1,err1⟩) (.bool true) (r:=GRd rb (.slice p bs.length c) ⟨at1,bad1,err1⟩) Z Z Z Z Z (fun u H C2 hH _ hr2 hC2=>ky (nf h0) hH hr2 hC2)) ((Za9∘Zf∘Zr) ?_));refine qp (id:=3) [(21,[900]),(200019,[900])] kr T (z9 (ql L (qt Z h2) Z Z Z Z) Z (z9 (ql L (qt Z h2) Z Z Z Z) Z ((Zbj∘ZdB∘Zdt) ?_)));refine xo (xg L 900 (GRd rb (.slice p bs.length c) ((⟨at1,bad1,err1⟩:Rd).fail bs.length 17)) (r:=GRd rb (.slice p bs.length c) ⟨at1,bad1,err1⟩) Z Z Z Z Z (fun u H C2 hH _ hr2 hC2=>rj hH hr2 hC2)) Z Z ((Zbf∘ZE∘Zc) ?_);exact kj L 900 (r:=xd rb _ ft) (rs:=[.tmp 2]) Z (fun _ _ h=>h) nq Z Z (fun _=>rfl)
 ·have he:err1=0:=zru.1 h0;subst he;obtain⟨k,rfl,hk⟩:=hlv rfl;by_cases h1:bs.length-at1<k
  ·rw[na (.inr J)];refine Zw (h:=?_);refine z7 (ql L (qt Z h2) Z Z Z Z) Z (z7 (ql L (qt Z h3) Z Z Z Z) Z (qf (yj L 900 (GRd rb (.slice p bs.length c) ⟨at1,bad1,0⟩) (.int .i64 k) (r:=GRd rb (.slice p bs.length c) R) Z Z Z Z Z hlen) ((Zh∘ZL) ?_)));refine z7 (ql L (qt Z h2) Z Z Z Z) Z (qf (yj L 900 (GRd rb (.slice p bs.length c) ⟨at1,bad1,0⟩) (.bool false) (r:=GRd rb (.slice p bs.length c) ⟨at1,bad1,0⟩) Z Z Z Z Z (fun u H C2 hH _ hr2 hC2=>ky (ng h0) hH hr2 hC2)) (Zb (h:=?_)));refine z7 (ql L (qt Z h2) Z Z Z Z) Z (qf (yj L 900 (GRd rb (.slice p bs.length c) ⟨at1,bad1,0⟩) (.int .i64 (bs.length-at1:Nat)) (r:=GRd rb (.slice p bs.length c) ⟨at1,bad1,0⟩) Z Z Z Z Z (fun u H C2 hH hle hr2 hC2=>Df hl hla hH (hs.le hle) hr2 hC2)) ((ZN∘Zf∘Zr) ?_));refine qp (id:=3) [(21,[900]),(200019,[900])] kr T (z9 (ql L (qt Z h2) Z Z Z Z) Z (z9 (ql L (qt Z h2) Z Z Z Z) Z ((Zbj∘ZdB∘Zdt) ?_)));refine xo (xg L 900 (GRd rb (.slice p bs.length c) ((⟨at1,bad1,0⟩:Rd).fail bs.length 17)) (r:=GRd rb (.slice p bs.length c) ⟨at1,bad1,0⟩) Z Z Z Z Z (fun u H C2 hH _ hr2 hC2=>rj hH hr2 hC2)) Z Z ((Zbf∘ZE∘Zc) ?_);exact kj L 900 (r:=xd rb _ ft) (rs:=[.tmp 2]) Z (fun _ _ h=>h) nq Z Z (fun _=>rfl)
  ·rw[nc (fun h=>h.elim h0 (fun h=>h1 J)),zsh];have hw1:IntKind.i64.wrap ((at1:Int)+(k:Int))=((at1+k:Nat):Int):=(xb J J).trans J;have hw2:IntKind.i64.wrap (((at1+k:Nat):Int)-(k:Int))=(at1:Int):=(xb J J).trans J;have hsb:∀ b∈(bs.drop at1).take k,b<=255:=fun b hb2=>hb b (zv2 (zt4 hb2));refine Zw (h:=?_);refine z7 (ql L (qt Z h2) Z Z Z Z) Z (z7 (ql L (qt Z h3) Z Z Z Z) Z (qf (yj L 900 (GRd rb (.slice p bs.length c) ⟨at1,bad1,0⟩) (.int .i64 k) (r:=GRd rb (.slice p bs.length c) R) Z Z Z Z Z hlen) ((Zh∘ZL) ?_)));refine z7 (ql L (qt Z h2) Z Z Z Z) Z (qf (yj L 900 (GRd rb (.slice p bs.length c) ⟨at1,bad1,0⟩) (.bool false) (r:=GRd rb (.slice p bs.length c) ⟨at1,bad1,0⟩) Z Z Z Z Z (fun u H C2 hH _ hr2 hC2=>ky (ng h0) hH hr2 hC2)) (Zb (h:=?_)));refine z7 (ql L (qt Z h2) Z Z Z Z) Z (qf (yj L 900 (GRd rb (.slice p bs.length c) ⟨at1,bad1,0⟩) (.int .i64 (bs.length-at1:Nat)) (r:=GRd rb (.slice p bs.length c) ⟨at1,bad1,0⟩) Z Z Z Z Z (fun u H C2 hH hle hr2 hC2=>Df hl hla hH (hs.le hle) hr2 hC2)) ((ZG∘Zba∘ZF) ?_));refine z7 (ql L (qt Z h2) Z Z Z Z) Z ((ZR∘Za∘ZH∘Zam) ?_);refine xm (yq L (q:=900) (cs':=[.slice p bs.length c,.int .i64 (at1+k:Nat),.int .i64 bad1,.int .i64 0]) Z Z Z Z Z) (Zk (h:=?_));refine qp (id:=6) [(200033,[900]),(200037,[900]),(200043,[900])] kr T (z9 (ql L (qt Z h2) Z Z Z Z) Z (Zbj (h:=?_)));refine qy (StepOKR.seeV (qk L (q:=900) Z Z Z Z) hs) Z Z (z9 (ql L (qt Z h2) Z Z Z Z) Z ((Zbj∘ZdB∘Zl∘Zd2) ?_));refine z9 (ql L (qt Z h2) Z Z Z Z) Z ((Zbj∘ZdB) ?_);refine z9 (zbp L (fu:=fu) at1 k Z Z Z Z Z Z Z Z Z J) Z (z9 (og (bs:=(bs.drop at1).take k) (fu:=false) hsb Z Z Z Z Z Z) Z (Zy (h:=?_)));exact kj L 900 (r:=xd rb _ ft) (rs:=[.tmp 2]) Z (fun _ _ h=>h) nq Z Z (fun _=>rfl)
end Go.V.L4
section
open Go.V
attribute [local irreducible] Has N Par Ret RetL Src StepOK V VO X
namespace Go.V.L3
open Go.V.L2
attribute [local irreducible] RetO RetT
abbrev tyI:TypeId:=3
end Go.V.L3
namespace Go.V
def D9(n:Nat):ByteArray:=match n%3 with
 | 0=>⟨#[100,111,99]⟩
 | 1=>⟨#[102,111,108,100,101,114]⟩
 | _=>⟨#[103,114,111,117,112]⟩
def idS(n:Nat):ByteArray:=match n%5 with
 | 0=>⟨#[97]⟩
 | 1=>⟨#[98]⟩
 | 2=>⟨#[99,49]⟩
 | 3=>⟨#[100]⟩
 | _=>⟨#[114,111,111,116]⟩
def zkd(n:Nat):ByteArray:=match n%4 with
 | 0=>⟨#[118,105,101,119,101,114]⟩
 | 1=>⟨#[101,100,105,116,111,114]⟩
 | 2=>⟨#[109,101,109,98,101,114]⟩
 | _=>⟨#[112,97,114,101,110,116]⟩
def ai(n:Nat):chk (D9 n)=0/\(D9 n).size<=16:=by
 unfold D9;split<;>decide+kernel
def Hp(n:Nat):chk (idS n)=0/\(idS n).size<=16:=by
 unfold idS;split<;>decide+kernel
def K4(n:Nat):chk (zkd n)=0/\(zkd n).size<=16:=by
 unfold zkd;split<;>decide+kernel
def Mi(n:Nat):(ByteArray×ByteArray)×ByteArray:=((D9 n,idS (n/3)),zkd (n/15))
def zg2(n:Nat):f5 [(Mi n).1.1,(Mi n).1.2,(Mi n).2]=0:=by
 simp only[f5,Mi,(ai _).1,(Hp _).1,(K4 _).1,na]
def Xy(n:Nat):(Mi n).1.1.size<=16/\(Mi n).1.2.size<=16/\(Mi n).2.size<=16:=⟨(ai _).2,(Hp _).2,(K4 _).2⟩
def _root_.ZdL(t:Wr Y->A:=by intro h;refine z7 (zir Z Z Z Z J M) Z ?_;exact h.1)(h:Y):A:=t ⟨h⟩
def _root_.ZeY(t:Wr Y->A:=by intro h;refine z7 (lg L 0 rfl Z Z Z J) Z ?_;exact h.1)(h:Y):A:=t ⟨h⟩
def _root_.ZfF(t:Wr Y->A:=by intro h;refine ZdL (h:=?_);refine z7 (lg L 1 rfl Z Z Z J) Z ?_;exact h.1)(h:Y):A:=t ⟨h⟩
def _root_.ZfG(t:Wr Y->A:=by intro h;refine ZdL (h:=?_);refine z7 (lg L 2 rfl Z Z Z J) Z ?_;exact h.1)(h:Y):A:=t ⟨h⟩
def Nr(n:Nat)(hB:zwe B w):Ret zwf 67 [.int .i64 n] w B (fun v _=>v=.string (D9 n)):=by
 unfold D9;have e:Int.tmod (n:Int) 3=((n%3:Nat):Int):=rfl;refine yl Tryz.func67 Z Tryz.ntmps67 (np Z) hB ?_;have hlt:=ztt n (show 0<3 by decide);rcases(by omega:n%3=0\/n%3=1\/n%3=2) with h | h | h
 ·have e0:Int.tmod (n:Int) 3=0:=by rw[e,h];rfl
  rw[h];refine(Zw∘ZJ∘Za∘ZdL∘ZeY∘Zc7∘Zc) ?_;exact yk2 L [.tmp 2]
 ·have e0:Int.tmod (n:Int) 3=1:=by rw[e,h];rfl
  rw[h];refine(Zw∘ZJ∘Za∘ZfF∘Zc7∘Zc) ?_;exact yk2 L [.tmp 2]
 ·have e0:Int.tmod (n:Int) 3=2:=by rw[e,h];rfl
  rw[h];refine(Zw∘ZJ∘Za∘ZfG∘Zc7∘Zc) ?_;exact yk2 L [.tmp 2]
def id_ret(n:Nat)(hB:zwe B w):Ret zwf 68 [.int .i64 n] w B (fun v _=>v=.string (idS n)):=by
 unfold idS;have e:Int.tmod (n:Int) 5=((n%5:Nat):Int):=rfl;refine yl Tryz.func68 Z Tryz.ntmps68 (np Z) hB ?_;have hlt:=ztt n (show 0<5 by decide);rcases(by omega:n%5=0\/n%5=1\/n%5=2\/n%5=3\/n%5=4) with h | h | h | h | h
 ·have e0:Int.tmod (n:Int) 5=0:=by rw[e,h];rfl
  rw[h];refine(Zw∘ZJ∘Za∘ZdL∘ZeY∘Zc7∘Zc) ?_;exact yk2 L [.tmp 2]
 ·have e0:Int.tmod (n:Int) 5=1:=by rw[e,h];rfl
  rw[h];refine(Zw∘ZJ∘Za∘ZfF∘Zc7∘Zc) ?_;exact yk2 L [.tmp 2]
 ·have e0:Int.tmod (n:Int) 5=2:=by rw[e,h];rfl
  rw[h];refine(Zw∘ZJ∘Za∘ZfG∘Zc7∘Zc) ?_;exact yk2 L [.tmp 2]
 ·have e0:Int.tmod (n:Int) 5=3:=by rw[e,h];rfl
  rw[h];refine(Zw∘ZJ∘Za∘ZdL) ?_;refine z7 (lg L 3 rfl Z Z Z J) Z ((Zc7∘Zc) ?_);exact yk2 L [.tmp 2]
 ·have e0:Int.tmod (n:Int) 5=4:=by rw[e,h];rfl
  rw[h];refine(Zw∘ZJ∘Za∘ZdL) ?_;refine z7 (lg L 4 rfl Z Z Z J) Z ((Zc7∘Zc) ?_);exact yk2 L [.tmp 2]
def za4(n:Nat)(hB:zwe B w):Ret zwf 69 [.int .i64 n] w B (fun v _=>v=.string (zkd n)):=by
 unfold zkd;have e:Int.tmod (n:Int) 4=((n%4:Nat):Int):=rfl;refine yl Tryz.func69 Z Tryz.ntmps69 (np Z) hB ?_;have hlt:=ztt n (show 0<4 by decide);rcases(by omega:n%4=0\/n%4=1\/n%4=2\/n%4=3) with h | h | h | h
 ·have e0:Int.tmod (n:Int) 4=0:=by rw[e,h];rfl
  rw[h];refine(Zw∘ZJ∘Za∘ZdL∘ZeY∘Zc7∘Zc) ?_;exact yk2 L [.tmp 2]
 ·have e0:Int.tmod (n:Int) 4=1:=by rw[e,h];rfl
  rw[h];refine(Zw∘ZJ∘Za∘ZfF∘Zc7∘Zc) ?_;exact yk2 L [.tmp 2]
 ·have e0:Int.tmod (n:Int) 4=2:=by rw[e,h];rfl
  rw[h];refine(Zw∘ZJ∘Za∘ZfG∘Zc7∘Zc) ?_;exact yk2 L [.tmp 2]
 ·have e0:Int.tmod (n:Int) 4=3:=by rw[e,h];rfl
  rw[h];refine(Zw∘ZJ∘Za∘ZdL) ?_;refine z7 (lg L 3 rfl Z Z Z J) Z ((Zc7∘Zc) ?_);exact yk2 L [.tmp 2]
end Go.V
namespace Go.V.L2
def _root_.Zaj(t:Wr Y->A:=by intro h;refine z7 (x8 Z Z Z Z M) Z ?_;exact h.1)(h:Y):A:=t ⟨h⟩
def _root_.Zdn(t:Wr Y->A:=by intro h;refine z7 (znk Z Z Z Z J M) Z ?_;exact h.1)(h:Y):A:=t ⟨h⟩
def _root_.Zfq(t:Wr Y->A:=by intro h;refine z9 (zir Z Z Z Z J M) Z ?_;exact h.1)(h:Y):A:=t ⟨h⟩
def zjz(s:Nat):Sf:=((D9 s,idS (s/3)),if 15<=s then zkd (s/15-1) else ⟨#[]⟩)
def zbm(a b:Nat):U:=(Mi (a%60),zjz (b%75))
abbrev ty2:TypeId:=64
def tl(ps:List (Nat×Nat)):List U:=(ps.take 20).map fun p=>zbm p.1 p.2
def zaf(s:Nat):(zjz s).1.1.size<=16/\(zjz s).1.2.size<=16/\(zjz s).2.size<=16:=by
 refine⟨(ai _).2,(Hp _).2,?_⟩;unfold zjz;dsimp only;split
 ·exact(K4 _).2
 ·decide
def zbl(a b:Nat):TZ (zbm a b):=by
 have h1:=Xy (a%60);have h2:=zaf (b%75);unfold TZ zbm;dsimp only;refine⟨⟨?_,?_,?_⟩,?_,?_,?_⟩<;>omega
def zku(a b:Nat):tE (zbm a b)=0:=by
 unfold tE zbm;dsimp only;rw[na (zg2 _)];unfold zjz r6;dsimp only;by_cases h:15<=b%75
 ·rw[na h];split
  ·simp only[f5,(ai _).1,(Hp _).1,na]
  ·simp only[f5,(ai _).1,(Hp _).1,(K4 _).1,na]
 ·rw[nc h,na rfl];simp only[f5,(ai _).1,(Hp _).1,na]
def Oh(a b:Nat)(ha:a<=255)(hb:b<=255)(hB:zwe B w):Ret zwf 24 [.agg #[.int .u8 a,.int .u8 b]] w B (fun v _=>v=uv (zbm a b)):=by
 have e60:Int.tmod (a:Int) 60=((a%60:Nat):Int):=rfl;have e75:Int.tmod (b:Int) 75=((b%75:Nat):Int):=rfl;have hlt:=ztt a (show 0<60 by decide);have hlt2:=ztt b (show 0<75 by decide);unfold zbm;generalize a%60=m at e60 hlt;generalize b%75=s at e75 hlt2;have q1:(m:Int).tdiv 3=((m/3:Nat):Int):=rfl;have q2:(m:Int).tdiv 15=((m/15:Nat):Int):=rfl;have q3:(s:Int).tdiv 3=((s/3:Nat):Int):=rfl;have q4:(s:Int).tdiv 15=((s/15:Nat):Int):=rfl;have d1:IntKind.i64.wrap ((m:Int).tdiv 3)=((m/3:Nat):Int):=xb J J;have d2:IntKind.i64.wrap ((m:Int).tdiv 15)=((m/15:Nat):Int):=xb J J;have d3:IntKind.i64.wrap ((s:Int).tdiv 3)=((s/3:Nat):Int):=xb J J;have d4:IntKind.i64.wrap ((s:Int).tdiv 15)=((s/15:Nat):Int):=xb J J;unfold Mi zjz;refine yl Tryz.func24 Z Tryz.ntmps24 (np Z) hB ((Zq∘Zc4∘Zcl) ?_);refine z9 (sf L _ Z Z Z Z zq0 Z Z (by first | omega | decide)) Z ?_;refine(ZdV∘Zfq) ?_;refine z9 (kw Z Z Z zha.1 zha.2 (xb J J)) Z (z9 (sf L _ Z Z Z Z zq0 Z Z (by first | omega | decide)) Z ?_);refine(ZdV∘Zfq) ?_;refine z9 (kw Z Z Z zha.1 zha.2 (xb J J)) Z ((ZaS∘Zy∘Zi∘Zn) ?_);refine z71 L Z (fun u H hH _=>Nr _ hH) ?_;refine(Za∘Zdn) ?_;refine z71 L Z (fun u H hH _=>id_ret _ hH) ?_;refine(Zem∘Za∘Zdn) ?_;refine z71 L Z (fun u H hH _=>za4 _ hH) ?_;refine(Ze5∘Za) ?_;refine z71 L Z (fun u H hH _=>Nr _ hH) ?_;refine(Za∘Zdn) ?_;refine z71 L Z (fun u H hH _=>id_ret _ hH) ?_;refine(Zem∘Zep∘Zcn∘ZbA) ?_;by_cases h:15<=s
 ·rw[na h];have hs1:IntKind.i64.wrap (((s/15:Nat):Int)-1)=((s/15-1:Nat):Int):=(xb J J).trans J;refine B8 5 rfl fun b5 hb5=>?_;refine(Zz∘Zci∘Zt∘Zdn∘Zaj) ?_;refine z71 L Z (fun u H hH _=>za4 _ hH) ?_;refine(Zak∘Zak∘Zes∘Zk∘ZF) ?_;refine z7 (qg L (vs:=[_,_,_,_,_,_]) (A9 Z (List.Mem.head _)) Z Z Z Z ⟨_,rfl⟩) Z (Za3 (h:=?_));refine yk1 L [.cell 2 34] fun u H hH hle=>?_;refine ZdD (h:=?_);rfl
 ·rw[nc h];refine(Zz∘Zav∘Zs∘ZF∘Zb1∘Za3) ?_;refine yk1 L [.cell 2 34] fun u H hH hle=>?_;refine ZdD (h:=?_);rfl
end Go.V.L2
namespace Go.V.L3
open Go.V.L2
attribute [local irreducible] RetO RetT
end Go.V.L3
namespace Go.V.L6
open Go.V.L2 Go.V.L3
abbrev d0:U:=(((⟨#[100,111,99]⟩,⟨#[97]⟩),⟨#[118,105,101,119,101,114]⟩),((⟨#[117,115,101,114]⟩,⟨#[120]⟩),⟨#[]⟩))
abbrev d1:U:=(((⟨#[100,111,99]⟩,⟨#[97]⟩),⟨#[118,105,101,119,101,114]⟩),((⟨#[103,114,111,117,112]⟩,⟨#[103]⟩),⟨#[109,101,109,98,101,114]⟩))
abbrev d2:U:=(((⟨#[100,111,99]⟩,⟨#[98]⟩),⟨#[118,105,101,119,101,114]⟩),((⟨#[117,115,101,114]⟩,⟨#[120]⟩),⟨#[]⟩))
def tzB(t:U):Bool:=decide (t.1.1.1.size<=1000) && decide (t.1.1.2.size<=1000) && decide (t.1.2.size<=1000) && decide (t.2.1.1.size<=1000) && decide (t.2.1.2.size<=1000) && decide (t.2.2.size<=1000)
def zib{t:U}(h:tzB t=true):TZ t:=by
 unfold tzB at h;simp only[zsn,decide_eq_true_eq] at h;unfold TZ;omega
attribute [local irreducible] RetO RetT
def _root_.ZeK(t:Wr Y->A:=by intro h;refine z9 (sf L _ Z Z Z Z zqj Z Z (by first | omega | decide)) Z ?_;exact h.1)(h:Y):A:=t ⟨h⟩
def _root_.Ze9(t:Wr Y->A:=by intro h;refine z9 (yv (cs:=[_,_,_,_,_,_,_]) Z Z zqt Z Z) Z ?_;exact h.1)(h:Y):A:=t ⟨h⟩
abbrev ty3:TypeId:=135
abbrev C3:=Nat×Nat×Nat
def qcs(p:C3):List Value:=[.int .u8 p.1,.int .u8 p.2.1,.int .u8 p.2.2]
def zke(p:C3):(qcs p).length=3:=rfl
abbrev PS3(cs:List C3)(fu:Bool):Value->Heap->Prop:=SlV ty3 3 (cs.flatMap qcs) cs.length fu
def znc{cs:List C3}(h:cs[j]?=some (a,b,c)):((cs.flatMap qcs).drop (j*3)).take 3=[.int .u8 a,.int .u8 b,.int .u8 c]:=gy zke cs j _ h
def drB(c:Nat):Bool:=decide (c%2=1)
structure SOK(l:List U):Prop where
 sst:Sst js l
 tz:∀ t∈l,TZ t
 ok:∀ t∈l,tE t=0
def zez{l:List U}(h:SOK l){x:U}(hz:TZ x)(hx:tE x=0)(d:Bool)(hl:l.length<4096):SOK (uh l x d).1/\(uh l x d).2=0/\(uh l x d).1.length<=l.length+1:=by
 refine⟨⟨M7 h.sst x d,fun t ht=>?_,fun t ht=>?_⟩,?_⟩
 ·rcases Dt ht with ht | rfl
  ·exact h.tz t ht
  ·exact hz
 ·rcases Dt ht with ht | rfl
  ·exact h.ok t ht
  ·exact hx
 ·unfold uh;rw[na hx];split
  ·exact⟨rfl,zt9 (zte _ _)⟩
  ·split
   ·exact⟨rfl,zss _⟩
   ·rw[nc J,vu];exact⟨rfl,nu _⟩
def zm9(c:Nat):Int.tmod (c:Int) 2=((c%2:Nat):Int):=rfl
def zhl{x:U}{d:Bool}(hx:zbm a b=x)(hd:drB c=d)(ha:a<=255)(hb:b<=255)(hc:c<=255)(hB:zwe B w):Ret zwf 51 [.agg #[.int .u8 a,.int .u8 b,.int .u8 c]] w B (fun v _=>v=chv x d):=by
 subst hx hd;have hr:=zm9 c;refine yl Tryz.func51 Z Tryz.ntmps51 (np Z) hB ?_;by_cases h1:c%2=1
 ·have e1:drB c=true:=nf h1;rw[e1];refine(Zq∘Zc4∘Zcl∘ZeK∘ZdV∘ZeK∘ZdV) ?_;refine z9 (yv (cs:=[_,_]) Z Z zqs Z Z) Z (z91 L Z (fun u H hH _=>Oh a b ha hb hH) ?_);refine(ZeK∘ZdV∘Zfq∘Zdg∘Ze9∘Zdl∘ZaW) ?_;refine yk1 L [.cell 2 42] fun u H hH hle=>?_;refine ZdD (h:=?_);rfl
 ·have e1:drB c=false:=ng h1;rw[e1];refine(Zq∘Zc4∘Zcl∘ZeK∘ZdV∘ZeK∘ZdV) ?_;refine z9 (yv (cs:=[_,_]) Z Z zqs Z Z) Z (z91 L Z (fun u H hH _=>Oh a b ha hb hH) ?_);refine(ZeK∘ZdV∘Zfq∘Zcg∘Ze9∘Zdl∘ZaW) ?_;refine yk1 L [.cell 2 42] fun u H hH hle=>?_;refine ZdD (h:=?_);rfl
end Go.V.L6
namespace Go.V.L11
open Go.V.L2 Go.V.L3 Go.V.L4 Go.V.L6
def Nb{f:Rd->α×Rd}{z:α}(P:α->Prop)(hz:P z)(hf:P (f R).1):P (dl f z R).1:=by
 unfold dl;split
 ·exact hz
 ·split
  ·exact hz
  ·exact hf
def Dy(hl:lim<=1099511627776):(l8 bs lim R).1.size<=lim:=by
 refine Nb (fun s:ByteArray=>s.size<=lim) (mb _) ?_;unfold Qk;split
 ·exact mb _
 ·rename_i h;have h0:(vk bs lim R).2.err=0:=zru.1 fun h2=>h (.inl h2);obtain⟨n,hn,hn2⟩:=re hl h0;rw[hn,zsh];show(List.map UInt8.ofNat ((bs.drop _).take n)).toArray.size<=lim;rw[zux,mg,mh];omega
def zb8:(Rk bs R).1.1.size<=16/\(Rk bs R).1.2.size<=16:=
 Nb (fun s:ByteArray×ByteArray=>s.1.size<=16/\s.2.size<=16) ⟨by decide,by decide⟩ ⟨Dy E,Dy E⟩
def Hr:((vq bs R).1.1.1.size<=16/\(vq bs R).1.1.2.size<=16)/\(vq bs R).1.2.size<=16:=
 Nb (fun s:Sf=>(s.1.1.size<=16/\s.1.2.size<=16)/\s.2.size<=16) ⟨⟨by decide,by decide⟩,by decide⟩ ⟨zb8,Dy E⟩
def zjv:TZ (r5 bs R).1:=by
 refine Nb TZ (by unfold TZ;decide) ?_;have h1:=Hr (bs:=bs) (R:=R);have h2:=Hr (bs:=bs) (R:=(vq bs R).2);unfold TZ Kf;dsimp only;omega
end Go.V.L11
namespace Go.V.L4
open Go.V.L2 Go.V.L3 Go.V.L8
def _root_.Zfr(t:Wr Y->A:=by intro h;refine qp (id:=1) [(3,[900]),(5,[900])] kr T ?_;exact h.1)(h:Y):A:=t ⟨h⟩
attribute [local irreducible] RetO RetT jh RetX RetY
def Qj(hlim:lim<=1099511627776){bs:List Nat}(hb:∀ b∈bs,b<=255)(hl:bs.length<=1099511627776)(hat:R.at_<=bs.length)(hB:zwe B w)(hs:BsV bs fu sv B)(hr:(GRd rb sv R).P B w C)(hC:ZCB C w B):
  RetX zwf 235 [k8 rb,.int .i64 lim] w B C (GRd rb sv (l8 bs lim R).2) (.string (l8 bs lim R).1):=by
 unfold RetX;refine yz 900 (GRd rb _ R) Tryz.func235 Z Tryz.ntmps235 (np Z) hB hr hC ?_;rw[xe];refine(Zby∘ZdW∘Ze) ?_;refine jg 2 901 rfl fun b2=>?_;refine jg 3 902 rfl fun b3=>?_;refine wx 901 rfl fun H1 hs1 _ h2=>?_;refine wx 902 rfl fun H2 hs2 _ h3=>?_;have h2:=hs2.le _ _ h2;have hs12:=hs1.trans hs2;have hs':=hs.le hs12.le;refine ZI (h:=?_);refine z7 (ql L (qt Z h2) Z Z Z Z) Z (ZaN (h:=?_));refine qf (yj L 900 (GRd rb sv (l8 bs lim R).2) (.string (l8 bs lim R).1) (r:=GRd rb sv R) Z Z Z Z Z (fun u H C2 hH hle hr2 hC2=>Ve (gf:=Qk bs lim) (fst:=[]) (cap:=[k8 b2,k8 b3]) Z hH hr2 hC2 (fun _ u3 H3 C3 hH3 hle3 hr3 hC3=>ze6 hlim hb hl hat hH3 ((hs'.le hle).le hle3) ((hle.trans hle3) _ _ h2) ((hle.trans hle3) _ _ h3) hr3 hC3))) (Zc (h:=?_));exact kj L 900 (r:=xd rb _ ft) (rs:=[.tmp 4]) Z (fun _ _ h=>h) hs12 Z Z (fun _=>rfl)
def zf9{bs:List Nat}(hb:∀ b∈bs,b<=255)(hl:bs.length<=1099511627776)(hat:R.at_<=bs.length)(hB:zwe B w)(hs:BsV bs fu sv B)(h1:B b1=some (.cells #[k8 rb] Vj))(hr:(GRd rb sv R).P B w C)(hC:ZCB C w B):
  RetX zwf 283 [k8 b1] w B C (GRd rb sv (Kf (l8 bs 16) (l8 bs 16) R).2) (oV ((l8 bs 16 R).1,(l8 bs 16 (l8 bs 16 R).2).1)):=by
 unfold RetX;refine yz 900 (GRd rb _ R) Tryz.func283 Z Tryz.ntmps283 (np Z) hB hr hC ?_;rw[xe];have hat2:=Ke (lim:=16) hat;unfold Kf;dsimp only;generalize hz1:l8 bs 16 R=z1 at hat2;obtain⟨x,R1⟩:=z1;dsimp only at hat2 |-;generalize hz2:l8 bs 16 R1=z2;obtain⟨y,R2⟩:=z2;dsimp only;refine(Zct∘Zfr) ?_;refine z9 (ql L (qt Z h1) Z Z Z Z) Z (xo (yj L 900 (GRd rb sv R1) (.string x) (r:=GRd rb sv R) Z Z Z Z Z (fun u H C2 hH hle hr2 hC2=>by have h:=Qj (lim:=16) E hb hl hat hH (hs.le hle) hr2 hC2;rw[hz1] at h;exact h)) Z Z ?_);refine z9 (ql L (qt Z h1) Z Z Z Z) Z (xo (yj L 900 (GRd rb sv R2) (.string y) (r:=GRd rb sv R1) Z Z Z Z Z (fun u H C2 hH hle hr2 hC2=>by have h:=Qj (lim:=16) E hb hl hat2 hH (hs.le hle) hr2 hC2;rw[hz2] at h;exact h)) Z Z ?_);refine z9 (yv (cs:=[_,_]) Z Z zo8 Z Z) Z ((Zdl∘ZaW) ?_);exact kj L 900 (r:=xd rb _ ft) (rs:=[.cell 1 zmw]) Z (fun _ _ h=>h) nq Z Z (fun _=>⟨_,ya Z,rfl,rfl⟩)
def zkx{bs:List Nat}(hb:∀ b∈bs,b<=255)(hl:bs.length<=1099511627776)(hat:R.at_<=bs.length)(hB:zwe B w)(hs:BsV bs fu sv B)(hr:(GRd rb sv R).P B w C)(hC:ZCB C w B):
  RetX zwf 234 [k8 rb] w B C (GRd rb sv (Rk bs R).2) (oV (Rk bs R).1):=by
 unfold RetX;refine yz 900 (GRd rb _ R) Tryz.func234 Z Tryz.ntmps234 (np Z) hB hr hC ?_;rw[xe];refine(Zby∘Zc4) ?_;refine jg 1 901 rfl fun b1=>?_;refine wx 901 rfl fun H1 hs1 _ h1=>?_;have hs':=hs.le hs1.le;generalize hz:Rk bs R=z;obtain⟨⟨x,y⟩,R1⟩:=z;dsimp only;refine ZI (h:=?_);refine z7 (ql L (qt Z h1) Z Z Z Z) Z (ZaN (h:=?_));refine qf (yj L 900 (GRd rb sv R1) (oV (x,y)) (r:=GRd rb sv R) Z Z Z Z Z (fun u H C2 hH hle hr2 hC2=>by have h:=Vf (gf:=Kf (l8 bs 16) (l8 bs 16)) (fst:=[]) (cap:=[k8 b1]) Z hH hr2 hC2 (fun _ u3 H3 C3 hH3 hle3 hr3 hC3=>zf9 hb hl hat hH3 ((hs'.le hle).le hle3) ((hle.trans hle3) _ _ h1) hr3 hC3);unfold Rk at hz;rw[hz] at h;exact h)) ?_;refine Za3 (h:=?_);exact kj L 900 (r:=xd rb _ ft) (rs:=[.cell 2 zmw]) Z (fun _ _ h=>h) hs1 Z Z (fun _=>⟨_,ya Z,rfl,rfl⟩)
def zdk{bs:List Nat}(hb:∀ b∈bs,b<=255)(hl:bs.length<=1099511627776)(hat:R.at_<=bs.length)(hB:zwe B w)(hs:BsV bs fu sv B)(h1:B b1=some (.cells #[k8 rb] Vj))(hr:(GRd rb sv R).P B w C)(hC:ZCB C w B):
  RetX zwf 233 [k8 b1] w B C (GRd rb sv (Kf (Rk bs) (l8 bs 16) R).2) (gV ((Rk bs R).1,(l8 bs 16 (Rk bs R).2).1)):=by
 unfold RetX;refine yz 900 (GRd rb _ R) Tryz.func233 Z Tryz.ntmps233 (np Z) hB hr hC ?_;rw[xe];have hat2:=zb9 hat;unfold Kf;dsimp only;generalize hz1:Rk bs R=z1 at hat2;obtain⟨x,R1⟩:=z1;dsimp only at hat2 |-;generalize hz2:l8 bs 16 R1=z2;obtain⟨y,R2⟩:=z2;dsimp only;refine(Zct∘Zfr) ?_;refine z9 (ql L (qt Z h1) Z Z Z Z) Z (xo (yj L 900 (GRd rb sv R1) (oV x) (r:=GRd rb sv R) Z Z Z Z Z (fun u H C2 hH hle hr2 hC2=>by have h:=zkx hb hl hat hH (hs.le hle) hr2 hC2;rw[hz1] at h;exact h)) Z Z ?_);refine z9 (ql L (qt Z h1) Z Z Z Z) Z (xo (yj L 900 (GRd rb sv R2) (.string y) (r:=GRd rb sv R1) Z Z Z Z Z (fun u H C2 hH hle hr2 hC2=>by have h:=Qj (lim:=16) E hb hl hat2 hH (hs.le hle) hr2 hC2;rw[hz2] at h;exact h)) Z Z ?_);refine z9 (yv (cs:=[_,_,_]) Z Z zqv Z Z) Z ((Zdl∘ZaW) ?_);exact kj L 900 (r:=xd rb _ ft) (rs:=[.cell 1 zmx]) Z (fun _ _ h=>h) nq Z Z (fun _=>⟨_,ya Z,rfl,rfl⟩)
def goal_ret{bs:List Nat}(hb:∀ b∈bs,b<=255)(hl:bs.length<=1099511627776)(hat:R.at_<=bs.length)(hB:zwe B w)(hs:BsV bs fu sv B)(hr:(GRd rb sv R).P B w C)(hC:ZCB C w B):
  RetX zwf 164 [k8 rb] w B C (GRd rb sv (vq bs R).2) (gV (vq bs R).1):=by
 unfold RetX;refine yz 900 (GRd rb _ R) Tryz.func164 Z Tryz.ntmps164 (np Z) hB hr hC ?_;rw[xe];refine(Zby∘Zc4) ?_;refine jg 1 901 rfl fun b1=>?_;refine wx 901 rfl fun H1 hs1 _ h1=>?_;have hs':=hs.le hs1.le;generalize hz:vq bs R=z;obtain⟨⟨⟨x,y⟩,y2⟩,R1⟩:=z;dsimp only;refine ZI (h:=?_);refine z7 (ql L (qt Z h1) Z Z Z Z) Z (ZaN (h:=?_));refine qf (yj L 900 (GRd rb sv R1) (gV ((x,y),y2)) (r:=GRd rb sv R) Z Z Z Z Z (fun u H C2 hH hle hr2 hC2=>by have h:=Qf (gf:=Kf (Rk bs) (l8 bs 16)) (fst:=[]) (cap:=[k8 b1]) Z hH hr2 hC2 (fun _ u3 H3 C3 hH3 hle3 hr3 hC3=>zdk hb hl hat hH3 ((hs'.le hle).le hle3) ((hle.trans hle3) _ _ h1) hr3 hC3);unfold vq at hz;rw[hz] at h;exact h)) ?_;refine Za3 (h:=?_);exact kj L 900 (r:=xd rb _ ft) (rs:=[.cell 2 zmx]) Z (fun _ _ h=>h) hs1 Z Z (fun _=>⟨_,ya Z,rfl,rfl⟩)
def zjy{bs:List Nat}(hb:∀ b∈bs,b<=255)(hl:bs.length<=1099511627776)(hat:R.at_<=bs.length)(hB:zwe B w)(hs:BsV bs fu sv B)(hr:(GRd rb sv R).P B w C)(hC:ZCB C w B):
  RetX zwf 165 [k8 rb] w B C (GRd rb sv (vq bs R).2) (gV (vq bs R).1):=by
 unfold RetX;refine yz 900 (GRd rb _ R) Tryz.func165 Z Tryz.ntmps165 (np Z) hB hr hC ?_;rw[xe];generalize hz:vq bs R=z;obtain⟨⟨⟨x,y⟩,y2⟩,R1⟩:=z;dsimp only;refine(Zct∘Zbq) ?_;refine qf (yj L 900 (GRd rb sv R1) (gV ((x,y),y2)) (r:=GRd rb sv R) Z Z Z Z Z (fun u H C2 hH hle hr2 hC2=>by have h:=goal_ret hb hl hat hH (hs.le hle) hr2 hC2;rw[hz] at h;exact h)) ?_;refine Za3 (h:=?_);exact kj L 900 (r:=xd rb _ ft) (rs:=[.cell 2 32]) Z (fun _ _ h=>h) nq Z Z (fun _=>⟨_,ya Z,rfl,rfl⟩)
def ze8{bs:List Nat}(hb:∀ b∈bs,b<=255)(hl:bs.length<=1099511627776)(hat:R.at_<=bs.length)(hB:zwe B w)(hs:BsV bs fu sv B)(h1:B b1=some (.cells #[k8 rb] Vj))(hr:(GRd rb sv R).P B w C)(hC:ZCB C w B):
  RetX zwf 163 [k8 b1] w B C (GRd rb sv (Kf (vq bs) (vq bs) R).2) (uv ((vq bs R).1,(vq bs (vq bs R).2).1)):=by
 unfold RetX;refine yz 900 (GRd rb _ R) Tryz.func163 Z Tryz.ntmps163 (np Z) hB hr hC ?_;rw[xe];have hat2:=Mj hat;unfold Kf;dsimp only;generalize hz1:vq bs R=z1 at hat2;obtain⟨x,R1⟩:=z1;dsimp only at hat2 |-;generalize hz2:vq bs R1=z2;obtain⟨y,R2⟩:=z2;dsimp only;refine(Zct∘Zfr) ?_;refine z9 (ql L (qt Z h1) Z Z Z Z) Z (xo (yj L 900 (GRd rb sv R1) (gV x) (r:=GRd rb sv R) Z Z Z Z Z (fun u H C2 hH hle hr2 hC2=>by have h:=goal_ret hb hl hat hH (hs.le hle) hr2 hC2;rw[hz1] at h;exact h)) Z Z ?_);refine z9 (ql L (qt Z h1) Z Z Z Z) Z (xo (yj L 900 (GRd rb sv R2) (gV y) (r:=GRd rb sv R1) Z Z Z Z Z (fun u H C2 hH hle hr2 hC2=>by have h:=zjy hb hl hat2 hH (hs.le hle) hr2 hC2;rw[hz2] at h;exact h)) Z Z ?_);refine z9 (yv (cs:=[_,_,_,_,_,_]) Z Z zqu Z Z) Z ((Zdl∘ZaW) ?_);exact kj L 900 (r:=xd rb _ ft) (rs:=[.cell 1 tyU]) Z (fun _ _ h=>h) nq Z Z (fun _=>⟨_,ya Z,rfl,rfl⟩)
def tup_ret{bs:List Nat}(hb:∀ b∈bs,b<=255)(hl:bs.length<=1099511627776)(hat:R.at_<=bs.length)(hB:zwe B w)(hs:BsV bs fu sv B)(hr:(GRd rb sv R).P B w C)(hC:ZCB C w B):
  RetX zwf 99 [k8 rb] w B C (GRd rb sv (r5 bs R).2) (uv (r5 bs R).1):=by
 unfold RetX;refine yz 900 (GRd rb _ R) Tryz.func99 Z Tryz.ntmps99 (np Z) hB hr hC ?_;rw[xe];refine(Zby∘Zc4) ?_;refine jg 1 901 rfl fun b1=>?_;refine wx 901 rfl fun H1 hs1 _ h1=>?_;have hs':=hs.le hs1.le;generalize hz:r5 bs R=z;obtain⟨⟨⟨⟨x,y⟩,y2⟩,⟨⟨x3,y3⟩,y4⟩⟩,R1⟩:=z;dsimp only;refine ZI (h:=?_);refine z7 (ql L (qt Z h1) Z Z Z Z) Z (ZaN (h:=?_));refine qf (yj L 900 (GRd rb sv R1) (uv (((x,y),y2),((x3,y3),y4))) (r:=GRd rb sv R) Z Z Z Z Z (fun u H C2 hH hle hr2 hC2=>by have h:=Vd (gf:=Kf (vq bs) (vq bs)) (fst:=[]) (cap:=[k8 b1]) Z hH hr2 hC2 (fun _ u3 H3 C3 hH3 hle3 hr3 hC3=>ze8 hb hl hat hH3 ((hs'.le hle).le hle3) ((hle.trans hle3) _ _ h1) hr3 hC3);unfold r5 at hz;rw[hz] at h;exact h)) ?_;refine Za3 (h:=?_);exact kj L 900 (r:=xd rb _ ft) (rs:=[.cell 2 tyU]) Z (fun _ _ h=>h) hs1 Z Z (fun _=>⟨_,ya Z,rfl,rfl⟩)
open Go.V.L6
def _root_.Zd4(t:Wr Y->A:=by intro h;refine z7 (qg L (vs:=[_,_,_,_,_,_,_]) (ya Z) Z Z Z Z ⟨_,rfl⟩) Z ?_;exact h.1)(h:Y):A:=t ⟨h⟩
abbrev P7:TypeId:=42
def bG(bs:List Nat)(R:Rd):Bool×Rd:=(decide ((ae bs 1 5 R).1=1),(ae bs 1 5 R).2)
def Mu(bs:List Nat):ic bs=dl (bG bs) false:=rfl
def zhr(h:R.at_<=bs.length):(ic bs R).2.at_<=bs.length:=iy h (Sl (lim:=1) (e:=5) h)
def dq(bs:List Nat):Rd->CH×Rd:=dl (Kf (r5 bs) (ic bs)) ((n3,n3),false)
def R0(h:R.at_<=bs.length):(dq bs R).2.at_<=bs.length:=iy h (zhr (Y5 h))
def zhj{c:CH}(h:∀ s∈u6 c.1,s.size<=1000):(chgB c).length<=6061:=by
 have:=co h;unfold chgB Aw;rw[nr];have e:(u6 c.1).length=6:=rfl;rw[e] at this;simp only[zsu];omega
def Ys{wb:Nat}{b:Bool}(hz:bs.length+2000<=1099511627776)(hB:zwe B w)(hr:(GWr wb bs).P B w C)(hC:ZCB C w B):
  jh zwf 157 [k8 wb,.bool b] w B C (GWr wb (bs++[if b=true then 1 else 0])):=by
 unfold jh;refine yz 900 (GWr wb bs) Tryz.func157 Z Tryz.ntmps157 (np Z) hB hr hC ?_
 cases b with
 | true=>
  refine(ZT∘Za∘Z1∘Zbq) ?_;refine qf (xg L 900 (GWr wb (bs++[1])) (r:=GWr wb bs) Z Z Z Z Z (fun u H C hH _ hr hC=>by have h:=ge (n:=1) E J hH hr hC;rw[ct E] at h;exact h)) ?_;refine Zah (h:=?_);exact ki L 900 (r:=GWr wb (bs++[1])) Z (fun _ _ h=>h) nq Z Z
 | false=>
  refine(ZT∘Za∘Zao∘Zn) ?_;refine qf (xg L 900 (GWr wb (bs++[0])) (r:=GWr wb bs) Z Z Z Z Z (fun u H C hH _ hr hC=>by have h:=ge (n:=0) E J hH hr hC;rw[ct E] at h;exact h)) ?_;refine Zah (h:=?_);exact ki L 900 (r:=GWr wb (bs++[0])) Z (fun _ _ h=>h) nq Z Z
def ze0{wb:Nat}{c:CH}(ht:∀ s∈u6 c.1,s.size<=1000)(hz:bs.length+20000<=1099511627776)(hB:zwe B w)(hr:(GWr wb bs).P B w C)(hC:ZCB C w B):
  jh zwf 90 [k8 wb,chv c.1 c.2] w B C (GWr wb (bs++chgB c)):=by
 obtain⟨⟨⟨⟨a,b⟩,d⟩,⟨⟨e,f⟩,g⟩⟩,k⟩:=c;have hl:=co ht;have e6:(u6 (((a,b),d),((e,f),g))).length=6:=rfl;rw[e6] at hl;dsimp only at hl ht;have e0:bs++chgB ((((a,b),d),((e,f),g)),k)=(bs++Aw (((a,b),d),((e,f),g)))++[if k=true then 1 else 0]:=by unfold chgB;rw[List.append_assoc]
 rw[e0];unfold jh;refine yz 900 (GWr wb bs) Tryz.func90 Z Tryz.ntmps90 (np Z) hB hr hC ((Zq∘Zk∘Zbq∘Zcf) ?_);refine qf (xg L 900 (GWr wb (bs++Aw (((a,b),d),((e,f),g)))) (r:=GWr wb bs) Z Z Z Z Z (fun u H C hH _ hr hC=>zev ht J hH hr hC)) ((ZB∘Zn∘Z3) ?_);refine qf (xg L 900 (GWr wb (bs++Aw (((a,b),d),((e,f),g))++[if k=true then 1 else 0])) (r:=GWr wb (bs++Aw (((a,b),d),((e,f),g)))) Z Z Z Z Z (fun u H C hH _ hr hC=>Ys (by rw[List.length_append];unfold Aw;omega) hH hr hC)) ?_;refine Zah (h:=?_);exact ki L 900 (r:=GWr wb (bs++Aw (((a,b),d),((e,f),g))++[if k=true then 1 else 0])) Z (fun _ _ h=>h) nq Z Z
def Qg{gf:Rd->Bool×Rd}(hfn:L.fn fr=some ()){C:Nat->Prop}(hB:zwe B w)(hr:(GRd rb sv R).P B w C)(hC:ZCB C w B)
  (hf:R.err=0->∀ (u:World) (H:Heap) (C:Nat->Prop),zwe H u->B.Le H->(GRd rb sv R).P H u C->(ZCB C u H)->RetX zwf fr (fst++cap) u H C (GRd rb sv (gf R).2) (.bool (gf R).1)):
  RetX zwf 265 [k8 rb,.func (.func fr) fst.toArray cap.toArray] w B C (GRd rb sv (dl gf false R).2) (.bool (dl gf false R).1):=by
 unfold RetX;refine yz 900 (GRd rb sv R) Tryz.func265 Z Tryz.ntmps265 (np Z) hB hr hC ?_;rw[xe];obtain⟨⟨n,⟨at1,bad1,err1⟩⟩,hz⟩:∃ z,gf R=z:=⟨_,rfl⟩
 obtain⟨at_,bad,err⟩:=R;unfold dl;rw[hz] at hf |-;dsimp only at hf |-;by_cases h0:err≠0
 ·rw[na h0];refine(Zw∘Zh∘Zn) ?_;refine qf (yj L 900 (GRd rb sv ⟨at_,bad,err⟩) (.bool true) (r:=GRd rb sv ⟨at_,bad,err⟩) Z Z Z Z Z (fun u H C2 hH _ hr2 hC2=>ky (nf h0) hH hr2 hC2)) ((Zr∘Zz∘Zc) ?_);exact kj L 900 (r:=xd rb _ ft) (rs:=[.tmp 4]) Z (fun _ _ h=>h) nq Z Z (fun _=>rfl)
 ·have he:err=0:=zru.1 h0;subst he;rw[nc h0];have hf:=hf rfl;by_cases h1:err1≠0
  ·rw[na h1];refine(Zw∘Zh∘Zn) ?_;refine qf (yj L 900 (GRd rb sv ⟨at_,bad,0⟩) (.bool false) (r:=GRd rb sv ⟨at_,bad,0⟩) Z Z Z Z Z (fun u H C2 hH _ hr2 hC2=>ky (ng h0) hH hr2 hC2)) ((Zs∘Zc0∘ZbV) ?_);refine qf (jo L 900 (GRd rb sv ⟨at1,bad1,err1⟩) (.bool n) (r:=GRd rb sv ⟨at_,bad,0⟩) Z Z Z hfn Z hf) ((Zh∘ZD∘ZR∘Zac∘Z7∘Zcm) ?_);refine xm (yq L (q:=900) (cs':=[sv,.int .i64 at_,.int .i64 bad1,.int .i64 err1]) Z Z Z Z Z) ((Zk∘Za5∘Zc) ?_);exact kj L 900 (r:=xd rb _ ft) (rs:=[.tmp 4]) Z (fun _ _ h=>h) nq Z Z (fun _=>rfl)
  ·have he:err1=0:=zru.1 h1;subst he;rw[nc h1];refine(Zw∘Zh∘Zn) ?_;refine qf (yj L 900 (GRd rb sv ⟨at_,bad,0⟩) (.bool false) (r:=GRd rb sv ⟨at_,bad,0⟩) Z Z Z Z Z (fun u H C2 hH _ hr2 hC2=>ky (ng h0) hH hr2 hC2)) ((Zs∘Zc0∘ZbV) ?_);refine qf (jo L 900 (GRd rb sv ⟨at1,bad1,0⟩) (.bool n) (r:=GRd rb sv ⟨at_,bad,0⟩) Z Z Z hfn Z hf) ((Zh∘ZD∘ZR∘Zau∘Zai∘Zc) ?_);exact kj L 900 (r:=xd rb _ ft) (rs:=[.tmp 4]) Z (fun _ _ h=>h) nq Z Z (fun _=>rfl)
def Vh{gf:Rd->CH×Rd}(hfn:L.fn fr=some ()){C:Nat->Prop}(hB:zwe B w)(hr:(GRd rb sv R).P B w C)(hC:ZCB C w B)
  (hf:R.err=0->∀ (u:World) (H:Heap) (C:Nat->Prop),zwe H u->B.Le H->(GRd rb sv R).P H u C->(ZCB C u H)->RetX zwf fr (fst++cap) u H C (GRd rb sv (gf R).2) (chv ((gf R).1).1 ((gf R).1).2)):
  RetX zwf 216 [k8 rb,.func (.func fr) fst.toArray cap.toArray] w B C (GRd rb sv (dl gf ((n3,n3),false) R).2) (chv ((dl gf ((n3,n3),false) R).1).1 ((dl gf ((n3,n3),false) R).1).2):=by
 unfold RetX;refine yz 900 (GRd rb sv R) Tryz.func216 Z Tryz.ntmps216 (np Z) hB hr hC ?_;rw[xe];obtain⟨⟨n,⟨at1,bad1,err1⟩⟩,hz⟩:∃ z,gf R=z:=⟨_,rfl⟩
 
 obtain⟨at_,bad,err⟩:=R;unfold dl;rw[hz] at hf |-;dsimp only at hf |-;by_cases h0:err≠0
 ·rw[na h0];refine(Zct∘ZI∘ZbN∘Zn) ?_;refine qf (yj L 900 (GRd rb sv ⟨at_,bad,err⟩) (.bool true) (r:=GRd rb sv ⟨at_,bad,err⟩) Z Z Z Z Z (fun u H C2 hH _ hr2 hC2=>ky (nf h0) hH hr2 hC2)) ((Zr∘Z2∘Zd4∘Za3) ?_);exact kj L 900 (r:=xd rb _ ft) (rs:=[.cell 4 P7]) Z (fun _ _ h=>h) nq Z Z (fun _=>⟨_,ya Z,rfl,rfl⟩)
 ·have he:err=0:=zru.1 h0;subst he;rw[nc h0];have hf:=hf rfl;by_cases h1:err1≠0
  ·rw[na h1];refine(Zct∘ZI∘ZbN∘Zn) ?_;refine qf (yj L 900 (GRd rb sv ⟨at_,bad,0⟩) (.bool false) (r:=GRd rb sv ⟨at_,bad,0⟩) Z Z Z Z Z (fun u H C2 hH _ hr2 hC2=>ky (ng h0) hH hr2 hC2)) ((Zs∘Zc0∘ZbV) ?_);refine qf (jo L 900 (GRd rb sv ⟨at1,bad1,err1⟩) (chv (n).1 (n).2) (r:=GRd rb sv ⟨at_,bad,0⟩) Z Z Z hfn Z hf) ((ZbA∘ZD∘ZR∘Zac∘Z7∘Zcm) ?_);refine xm (yq L (q:=900) (cs':=[sv,.int .i64 at_,.int .i64 bad1,.int .i64 err1]) Z Z Z Z Z) ((Zk∘Z0∘Zd4∘Za3) ?_);exact kj L 900 (r:=xd rb _ ft) (rs:=[.cell 4 P7]) Z (fun _ _ h=>h) nq Z Z (fun _=>⟨_,ya Z,rfl,rfl⟩)
  ·have he:err1=0:=zru.1 h1;subst he;rw[nc h1];refine(Zct∘ZI∘ZbN∘Zn) ?_;refine qf (yj L 900 (GRd rb sv ⟨at_,bad,0⟩) (.bool false) (r:=GRd rb sv ⟨at_,bad,0⟩) Z Z Z Z Z (fun u H C2 hH _ hr2 hC2=>ky (ng h0) hH hr2 hC2)) ((Zs∘Zc0∘ZbV) ?_);refine qf (jo L 900 (GRd rb sv ⟨at1,bad1,0⟩) (chv (n).1 (n).2) (r:=GRd rb sv ⟨at_,bad,0⟩) Z Z Z hfn Z hf) ((ZbA∘ZD∘ZR∘Zau∘ZM∘Zd4∘Za3) ?_);exact kj L 900 (r:=xd rb _ ft) (rs:=[.cell 4 P7]) Z (fun _ _ h=>h) nq Z Z (fun _=>⟨_,ya Z,rfl,rfl⟩)
def zeg{bs:List Nat}(hb:∀ b∈bs,b<=255)(hl:bs.length<=1099511627776)(hat:R.at_<=bs.length)(hB:zwe B w)(hs:BsV bs fu sv B)(h1:B b1=some (.cells #[k8 rb] Vj))(hr:(GRd rb sv R).P B w C)(hC:ZCB C w B):
  RetX zwf 266 [k8 b1] w B C (GRd rb sv (bG bs R).2) (.bool (bG bs R).1):=by
 unfold RetX;refine yz 900 (GRd rb _ R) Tryz.func266 Z Tryz.ntmps266 (np Z) hB hr hC ?_;rw[xe];unfold bG;generalize hz1:ae bs 1 5 R=z1;obtain⟨n,R1⟩:=z1;dsimp only;by_cases h1n:n=1
 ·rw[nf h1n];refine Zw (h:=?_);refine z7 (ql L (qt Z h1) Z Z Z Z) Z (qf (yj L 900 (GRd rb sv R1) (.int .u64 n) (r:=GRd rb sv R) Z Z Z Z Z (fun u H C2 hH hle hr2 hC2=>by have h:=Az (lim:=1) (e:=5) hb hl hat hH (hs.le hle) hr2 hC2;rw[hz1] at h;exact h)) ?_);refine(Zx∘Zc) ?_;exact kj L 900 (r:=xd rb _ ft) (rs:=[.tmp 1]) Z (fun _ _ h=>h) nq Z Z (fun _=>rfl)
 ·rw[ng h1n];refine Zw (h:=?_);refine z7 (ql L (qt Z h1) Z Z Z Z) Z (qf (yj L 900 (GRd rb sv R1) (.int .u64 n) (r:=GRd rb sv R) Z Z Z Z Z (fun u H C2 hH hle hr2 hC2=>by have h:=Az (lim:=1) (e:=5) hb hl hat hH (hs.le hle) hr2 hC2;rw[hz1] at h;exact h)) ?_);refine(Z8∘Zc) ?_;exact kj L 900 (r:=xd rb _ ft) (rs:=[.tmp 1]) Z (fun _ _ h=>h) nq Z Z (fun _=>rfl)
def zhp{bs:List Nat}(hb:∀ b∈bs,b<=255)(hl:bs.length<=1099511627776)(hat:R.at_<=bs.length)(hB:zwe B w)(hs:BsV bs fu sv B)(hr:(GRd rb sv R).P B w C)(hC:ZCB C w B):
  RetX zwf 218 [k8 rb] w B C (GRd rb sv (ic bs R).2) (.bool (ic bs R).1):=by
 unfold RetX;refine yz 900 (GRd rb _ R) Tryz.func218 Z Tryz.ntmps218 (np Z) hB hr hC ?_;rw[xe];refine(Zby∘Ze) ?_;refine jg 1 901 rfl fun b1=>?_;refine wx 901 rfl fun H1 hs1 _ h1=>?_;have hs':=hs.le hs1.le;generalize hz:ic bs R=z;obtain⟨x,R1⟩:=z;dsimp only;refine ZI (h:=?_);refine z7 (ql L (qt Z h1) Z Z Z Z) Z (ZaN (h:=?_));refine qf (yj L 900 (GRd rb sv R1) (.bool x) (r:=GRd rb sv R) Z Z Z Z Z (fun u H C2 hH hle hr2 hC2=>by have h:=Qg (gf:=bG bs) (fst:=[]) (cap:=[k8 b1]) Z hH hr2 hC2 (fun _ u3 H3 C3 hH3 hle3 hr3 hC3=>zeg hb hl hat hH3 ((hs'.le hle).le hle3) ((hle.trans hle3) _ _ h1) hr3 hC3);rw[Mu] at hz;rw[hz] at h;exact h)) ?_;refine Zc (h:=?_);exact kj L 900 (r:=xd rb _ ft) (rs:=[.tmp 2]) Z (fun _ _ h=>h) hs1 Z Z (fun _=>rfl)
def zhk{bs:List Nat}(hb:∀ b∈bs,b<=255)(hl:bs.length<=1099511627776)(hat:R.at_<=bs.length)(hB:zwe B w)(hs:BsV bs fu sv B)(h1:B b1=some (.cells #[k8 rb] Vj))(hr:(GRd rb sv R).P B w C)(hC:ZCB C w B):
  RetX zwf 217 [k8 b1] w B C (GRd rb sv (Kf (r5 bs) (ic bs) R).2) (chv ((r5 bs R).1) ((ic bs (r5 bs R).2).1)):=by
 unfold RetX;refine yz 900 (GRd rb _ R) Tryz.func217 Z Tryz.ntmps217 (np Z) hB hr hC ?_;rw[xe];have hat2:=Y5 hat;unfold Kf;dsimp only;generalize hz1:r5 bs R=z1 at hat2;obtain⟨x,R1⟩:=z1;dsimp only at hat2 |-;generalize hz2:ic bs R1=z2;obtain⟨y,R2⟩:=z2;dsimp only;refine(Zct∘Zfr) ?_;refine z9 (ql L (qt Z h1) Z Z Z Z) Z (xo (yj L 900 (GRd rb sv R1) (uv x) (r:=GRd rb sv R) Z Z Z Z Z (fun u H C2 hH hle hr2 hC2=>by have h:=tup_ret hb hl hat hH (hs.le hle) hr2 hC2;rw[hz1] at h;exact h)) Z Z ?_);refine z9 (ql L (qt Z h1) Z Z Z Z) Z (xo (yj L 900 (GRd rb sv R2) (.bool y) (r:=GRd rb sv R1) Z Z Z Z Z (fun u H C2 hH hle hr2 hC2=>by have h:=zhp hb hl hat2 hH (hs.le hle) hr2 hC2;rw[hz2] at h;exact h)) Z Z ?_);refine(Ze9∘Zdl∘ZaW) ?_;exact kj L 900 (r:=xd rb _ ft) (rs:=[.cell 1 P7]) Z (fun _ _ h=>h) nq Z Z (fun _=>⟨_,ya Z,rfl,rfl⟩)
def chg_ret{bs:List Nat}(hb:∀ b∈bs,b<=255)(hl:bs.length<=1099511627776)(hat:R.at_<=bs.length)(hB:zwe B w)(hs:BsV bs fu sv B)(hr:(GRd rb sv R).P B w C)(hC:ZCB C w B):
  RetX zwf 147 [k8 rb] w B C (GRd rb sv (dq bs R).2) (chv ((dq bs R).1).1 ((dq bs R).1).2):=by
 unfold RetX;refine yz 900 (GRd rb _ R) Tryz.func147 Z Tryz.ntmps147 (np Z) hB hr hC ?_;rw[xe];refine(Zby∘Zc4) ?_;refine jg 1 901 rfl fun b1=>?_;refine wx 901 rfl fun H1 hs1 _ h1=>?_;have hs':=hs.le hs1.le;generalize hz:dq bs R=z;obtain⟨⟨⟨⟨⟨x,y⟩,y2⟩,⟨⟨x3,y3⟩,y4⟩⟩,y5⟩,R1⟩:=z;dsimp only;refine ZI (h:=?_);refine z7 (ql L (qt Z h1) Z Z Z Z) Z (ZaN (h:=?_));refine qf (yj L 900 (GRd rb sv R1) (chv (((((x,y),y2),((x3,y3),y4)),y5)).1 (((((x,y),y2),((x3,y3),y4)),y5)).2) (r:=GRd rb sv R) Z Z Z Z Z (fun u H C2 hH hle hr2 hC2=>by have h:=Vh (gf:=Kf (r5 bs) (ic bs)) (fst:=[]) (cap:=[k8 b1]) Z hH hr2 hC2 (fun _ u3 H3 C3 hH3 hle3 hr3 hC3=>zhk hb hl hat hH3 ((hs'.le hle).le hle3) ((hle.trans hle3) _ _ h1) hr3 hC3);unfold dq at hz;rw[hz] at h;exact h)) ?_;refine Za3 (h:=?_);exact kj L 900 (r:=xd rb _ ft) (rs:=[.cell 2 P7]) Z (fun _ _ h=>h) hs1 Z Z (fun _=>⟨_,ya Z,rfl,rfl⟩)
end Go.V.L4
namespace Go.V.L11
open Go.V.L2 Go.V.L3 Go.V.L4 Go.V.L6 Go.V.L8
def zet(la:Option U)(t:U):Bool:=match la with
 | none=>true
 | some y=>decide (js y t<0)
def F9(bs:List Nat)(l:List U):Nat->Option U->List CH->List CH->Rd->((List CH×List CH)×Rd)×(Int×Int)
 | 0,_,a,d,R=>(((a,d),R),(0,0))
 | k+1,la,a,d,R=>
  if (dq bs R).2.err≠0 then (((a,d),R),(((dq bs R).2.bad:Int),(dq bs R).2.err))
  else if tE (dq bs R).1.1≠0 then (((a,d),R),((R.at_:Int),6))
  else if zet la (dq bs R).1.1=false then (((a,d),R),((R.at_:Int),18))
  else if decide ((dq bs R).1.1∈l)≠(dq bs R).1.2 then (((a,d),R),((R.at_:Int),5))
  else F9 bs l k (some (dq bs R).1.1) (if (dq bs R).1.2=true then a else a++[(dq bs R).1]) (if (dq bs R).1.2=true then d++[(dq bs R).1] else d) (dq bs R).2
def Ay(l:List U)(cs:List CH):List U:=cs.foldl (fun l c=>(uh l c.1 c.2).1) l
def Bz(bs:List Nat)(l:List U)(R:Rd):(List U×Rd)×(Int×Int):=
 if (vk bs 8192 R).2.err≠0 then ((l,R),(((vk bs 8192 R).2.bad:Int),(vk bs 8192 R).2.err))
 else if (F9 bs l (vk bs 8192 R).1.toNat none [] [] (vk bs 8192 R).2).2.2≠0 then ((l,R),(F9 bs l (vk bs 8192 R).1.toNat none [] [] (vk bs 8192 R).2).2)
 else if l.length+(F9 bs l (vk bs 8192 R).1.toNat none [] [] (vk bs 8192 R).2).1.1.1.length>4096+(F9 bs l (vk bs 8192 R).1.toNat none [] [] (vk bs 8192 R).2).1.1.2.length then ((l,R),((R.at_:Int),3))
 else ((Ay l ((F9 bs l (vk bs 8192 R).1.toNat none [] [] (vk bs 8192 R).2).1.1.2++(F9 bs l (vk bs 8192 R).1.toNat none [] [] (vk bs 8192 R).2).1.1.1),(F9 bs l (vk bs 8192 R).1.toNat none [] [] (vk bs 8192 R).2).1.2),(0,0))
def Mx:∀ (cs:List CH) {l:List U},l.length<=4096->(Ay l cs).length<=4096
 | [],_,h=>h
 | c::cs,l,h=>Mx cs (Du h c.1 c.2)
def zeh{cs:List CH}{c:CH}(l:List U)(h:cs[i]?=some c):Ay l (cs.take (i+1))=(uh (Ay l (cs.take i)) c.1 c.2).1:=by
 unfold Ay;rw[zr4,h,List.foldl_append];rfl
def Rz:TZ (dq bs R).1.1:=by
 unfold dq;exact Nb (fun c:CH=>TZ c.1) E (by unfold Kf;exact zjv)
end Go.V.L11
end
namespace Go.V
section sound
variable    {ex:Exs} {Fin:Kap->Prop}
def G2{Fin:Kap->Prop}:∀ (m i:Nat) {κ:Kap},i+m<=ops.size->zmq P St ops ex Fin ((ops.toList.drop i).take m) κ->ParI P St ops ex Fin (List.range' i m) κ
 | 0,i,κ,hm,h=>by
  rw[zr0] at h;exact h
 | m+1,i,κ,hm,h=>by
  have hi:i<ops.toList.length:=by simp;omega
  rw[zsc hi,ztu] at h;obtain⟨us,hd,sx,rest⟩:=h;refine⟨ops.toList[i],us,?_,hd,sx,G2 m (i+1) J rest⟩;have hi':i<ops.size:=by simpa using hi
  rw[zsl hi'];simp
end sound
section code
end code
end Go.V
namespace Go.V
def Sg(w:World)(B:Heap)(L:Nat->Prop)(pv:Value)(e:Ending)(u:World):Prop:=e=.panicked [{ v:=pv,recovered:=false }]/\∃ H,Grow L w B u H
def Pan(P:Program)(f:FuncId)(args:List Value)(w:World)(B:Heap)(L:Nat->Prop)(pv:Value):Prop:=Calls P f args.toArray w (Sg w B L pv)
section sound
variable    {ex:Exs}
end sound
section code
def QX(P:Program)(F:Fr)(ops:Array Oper)(zwd:Nat)(Q:Exit->Act->World->Prop):Exit->Act->World->Prop:=fun _ a u=>∀ Kk,wpOpIn (FW F.r) 0 P ops Q zwd Kk a u
def XP(F:Fr)(B:Heap)(n:Nat)(O:Boxes)(κ:Kap)(pv:Value)(Q:Exit->Act->World->Prop):Prop:=∀ a u,Has F B O n κ a u->Q (.panic [{ v:=pv,recovered:=false }]) a u
def wm{id:Nat}(zwd:Nat)(hK:Nat.ble (zwd+1) l.length=true)(h:VO P F B n O l.toArray κ (l.take zwd) (QX P F l.toArray zwd Q)):V P F B n O κ (.region id l.toArray false) Q:=fun a u hh=>by
 refine wpIn_region ?_;have hK:=np hK
 have hsplit:List.range l.toArray.size=List.range' 0 zwd++zwd::List.range' (zwd+1) (l.length-(zwd+1)):=by
  rw[zuu,show zwd::List.range' (zwd+1) (l.length-(zwd+1))=List.range' zwd (l.length-zwd) by rw[show l.length-zwd=(l.length-(zwd+1))+1 by omega];rfl];have:=List.range'_append_1 (s:=0) (m:=zwd) (n:=l.length-zwd);rw[zrw] at this;rw[this,Nat.add_sub_cancel' J];simp
 rw[hsplit]
 have key:∀ (m i:Nat) {a:Act} {u:World},i+m=zwd->Ops P l.toArray (fun a u=>QX P F l.toArray zwd Q .normal a u) ((l.drop i).take m) a u->
   wpOpsIn (FW F.r) 0 P l.toArray Q (List.range' i m++zwd::List.range' (zwd+1) (l.length-(zwd+1))) a u:=by
  intro m
  induction m with
  | zero=>
   intro i a u hi ho;rw[zr0] at ho;show wpOpsIn (FW F.r) 0 P l.toArray Q (zwd::_) a u;rw[wpOpsIn_cons];exact ho _
  | succ m ih=>
   intro i a u hi ho;have hil:i<l.length:=J;rw[zsc hil,ztu] at ho;have hg:l.toArray[i]?=some l[i]:=by rw[zt3,zrz hil]
   rw[zuv,zsa,wpOpsIn_cons];exact After.wpOpIn hg (After.mono (fun a' u' hh'=>ih (i+1) J hh') ho)
 exact key zwd 0 J (by rw[zsj];exact h a u hh)
def wj(L:Tabs P)(q:Nat){r:Res}{d:Option Nat}{args:Array Operand}{at_:Array TypeId}{fo:Operand}
  (ho:ops[zwd]?=some ⟨d,.call { callee:=.value fo,args:=args,argTypes:=at_ },ty,pos,aft,g⟩) (hg:gK ops κ ⟨d,.call { callee:=.value fo,args:=args,argTypes:=at_ },ty,pos,aft,g⟩=some true)
  (hf:evK κ fo=some (.func (.func f) #[] cap.toArray)) (hfn:L.fn f=some ()) (hq:κ q=some (.own r))
  (h:∀ u H C,zwe H u->B.Le H->r.P undef H u C->(ZCB C u H)->Args κ H args.toList [] (fun vs=>Pan P f (vs++cap) u H C pv)) (hr:∀ v H u C,r.P v H u C->r.P undef H u C)
  (hX:XP F B n O (upd κ q lh) pv Q):N F B n O κ (QX P F ops zwd Q):=by
 rintro a u ⟨H,fp,hh⟩ Kk;have hlk:∀ t∈(⟨d,.call { callee:=.value fo,args:=args,argTypes:=at_ },ty,pos,aft,g⟩:Oper).looksAt ops,κ t=κ t:=fun _ _=>rfl;unfold wpOpIn;rw[ho];dsimp only;rw[na (xn hh hlk hg)];obtain⟨hown,hM⟩:=hh.slot q _ hq;have e2:=hh.env hlk;have hfe:a.eval fo=.func (.func f) #[] cap.toArray:=e2.is_ fo _ (by simp [Op.operands,Call.operands]) hf;have hc:=Args.use e2 args.toList [] (fun x hx=>by simp [Op.operands,Call.operands] at hx |-;exact .inr hx) (h u H (fp q) hh.sub hh.base (hr _ _ _ _ hown) fun k hk=>⟨(hM k hk).1,(hM k hk).2.1⟩);simp only[zsz,mo] at hc;have hrun:=fj (u:=u) L (o:=⟨d,.call { callee:=.value fo,args:=args,argTypes:=at_ },ty,pos,aft,g⟩) rfl hfe hfn;refine⟨fun _ _=>trivial,?_⟩;rw[Oper.semAt_eq _ _ _ (fun c hc=>by cases hc),hrun];refine⟨fun e=>(by cases e),FW.call _ _ (Calls.mono hc fun e' u' hp=>?_)⟩;obtain⟨rfl,H',g'⟩:=hp;exact hX a u' ⟨H',_,hh.use hq g'⟩
def w7{zwd:Act->World->Prop}(h:XP F B n O κ pv Q):XP F B n O κ pv (Exit.then zwd Q):=h
def wc{id:Nat}(h:XP F B n O κ pv Q):XP F B n O κ pv (Exit.inBlock id Q):=h
def cd{fn:Func}(hs:Since F B0 B)(hd:F.ds=[]:=by rfl):XP F B n O κ pv (bodyPostM Fence.wide 0 P fn (Sg F.w0 B0 F.L pv)):=fun a u hh=>by
 obtain⟨H,fp,hH⟩:=hh;have h0:=hH.defers;rw[hd] at h0;show LeavesInM _ _ _ _ _ _ a.defers _ _;rw[h0];exact⟨rfl,H,⟨hH.keep,hH.sub,hs.le.trans hH.base,fun k hk hl=>(hH.fresh k hk hl).trans (hs.fresh k hk hl)⟩⟩
def lu{f:FuncId}{fn:Func}{c:Code}(gs:Nat)(r:GR)(hf:P.funcs[f]?=some fn)(hb:fn.body=some c)(hn:fn.ntmps=n)
  (hs:args.length<=n) (hB:zwe B w) (hr:r.P B w C) (hC:ZCB C w B) (h:V P ⟨w,none,[],C⟩ B n [] (upd (B5 0 args) gs (.own r.res)) c (bodyPostM Fence.wide 0 P fn (Sg w B C pv))):Pan P f args w B C pv:=by
 refine ee hf hb (h _ w ?_);subst hn;have h0:=a7 (B:=B) C (fun k hk=>(hC k hk).1) hs hB (fun _=>noL)
 exact⟨B,_,h0.putR (d:=gs) (r:=r.res) Z Z (fun _ _=>rfl) hr (fun k hk=>⟨(hC k hk).1,(hC k hk).2,.inr hk,fun y hy=>by cases hy⟩) fun t r' _ ht=>by
  obtain⟨v,hv,_⟩:=f9 _ _ _ _ ht;cases hv⟩
end code
end Go.V
namespace Go.V
section
variable        {d:Nat}      {a:Act}  {os:List Oper} {t xt:TypeId} {x:Operand} 
def Om(hn:Nat.blt d n=true)(hg:gK ops κ ⟨some d,.makeInterface t x,ty,pos,aft,g⟩=some true)(hx:evK κ x=some v)(hc:P.concrete t=true):
  StepOK P F B n ops O κ ⟨some d,.makeInterface t x,ty,pos,aft,g⟩ d (.is (.iface t v)):=
 k9 rfl (by simpa using hn) hg trivial fun a u H fp e=>⟨_,by
  have h1:a.eval x=v:=e.is_ x _ (by simp [Op.operands]) hx;have h2:=run_makeInterface (w:=u) t v hc;simp only[execOp,h1,nw,me,h2,ny],rfl⟩
def Xg(hn:Nat.blt d n=true)(hg:gK ops κ ⟨some d,.typeAssert x xt t true,ty,pos,aft,g⟩=some true)(hx:evK κ x=some (.iface t v))(hc:P.concrete t=true):
  StepOK P F B n ops O κ ⟨some d,.typeAssert x xt t true,ty,pos,aft,g⟩ d (.is (.tuple #[v,.bool true])):=
 k9 rfl (by simpa using hn) hg trivial fun a u H fp e=>⟨_,by
  have h1:a.eval x=.iface t v:=e.is_ x _ (by simp [Op.operands]) hx
  have h2:(Instr.typeAssert (.iface t v) xt t true).run P u=.ok (.tuple #[v,.bool true]) u:=by
   unfold Program.concrete at hc
   cases hd:P.underlying t with
   | none=>simp [hd] at hc
   | some dd=>cases dd<;>first | (simp [hd] at hc;done) | simp [Instr.typeAssert,run_underlying hd]
  simp only[execOp,h1,nw,me,h2,ny],rfl⟩
def Xh{z:Value}(hn:Nat.blt d n=true)(hg:gK ops κ ⟨some d,.typeAssert x xt t true,ty,pos,aft,g⟩=some true)(hx:evK κ x=some .nilIface)(hc:P.concrete t=true)(hz:∀ w,(zeroValue t).run P w=.ok z w):
  StepOK P F B n ops O κ ⟨some d,.typeAssert x xt t true,ty,pos,aft,g⟩ d (.is (.tuple #[z,.bool false])):=
 k9 rfl (by simpa using hn) hg trivial fun a u H fp e=>⟨_,by
  have h1:a.eval x=.nilIface:=e.is_ x _ (by simp [Op.operands]) hx
  have h2:(Instr.typeAssert .nilIface xt t true).run P u=.ok (.tuple #[z,.bool false]) u:=by
   unfold Program.concrete at hc
   cases hd:P.underlying t with
   | none=>simp [hd] at hc
   | some dd=>cases dd<;>first | (simp [hd] at hc;done) | simp [Instr.typeAssert,run_underlying hd,hz]
  simp only[execOp,h1,nw,me,h2,ny],rfl⟩
def E4{dd:Option Nat}(ho:ops[zwd]?=some ⟨dd,.panic x,ty,pos,aft,g⟩)(hg:gK ops κ ⟨dd,.panic x,ty,pos,aft,g⟩=some true)(hx:evK κ x=some (.iface t v))(hX:XP F B n O κ (.iface t v) Q):N F B n O κ (QX P F ops zwd Q):=by
 rintro a u ⟨H,fp,hh⟩ Kk;have hlk:∀ s∈(⟨dd,.panic x,ty,pos,aft,g⟩:Oper).looksAt ops,κ s=κ s:=fun _ _=>rfl;unfold wpOpIn;rw[ho];dsimp only;rw[na (xn hh hlk hg)];have e2:=hh.env hlk;have h1:a.eval x=.iface t v:=e2.is_ x _ (by simp [Op.operands]) hx
 have hrun:(execOp a.eval ⟨dd,.panic x,ty,pos,aft,g⟩).run P u=.halt (.panic (.iface t v)) u:=by
  simp only[execOp,h1,nw,run_panic_iface];rfl
 refine⟨fun _ _=>trivial,?_⟩;rw[Oper.semAt_eq _ _ _ (fun c hc=>by cases hc),hrun];exact hX a u ⟨H,fp,hh⟩
end
end Go.V
namespace Go.V
def RetY.frame{f:FuncId}{r1 r1' r2:GR}(hr:(gz r1 r2).P B w C)(hC:ZCB C w B)
  (h:∀ C1,r1.P B w C1->(ZCB C1 w B)->RetY P f args w B C1 r1' φ):RetY P f args w B C (gz r1' r2) φ:=by
 obtain⟨C1,C2,h1,h2,h3,h4⟩:=hr;refine Calls.mono (h C1 h1 fun k hk=>hC k ((h3 k).2 (.inl hk))) fun e u ⟨v,he,H,g,hp,C',hv,hC'⟩=>?_;have hsub:∀ k,C1 k->C k:=fun k hk=>(h3 k).2 (.inl hk);have g2:Grow C w B u H:=⟨⟨g.keep.os,g.keep.tape,g.keep.output,g.keep.size,fun k hk hn=>g.keep.block k hk fun h=>hn (hsub k h),g.keep.dr⟩,g.sub,g.le,fun k hk hn=>g.fresh k hk fun h=>hn (hsub k h)⟩
 refine⟨v,he,H,g2,hp,fun k=>C' k\/C2 k,⟨C',C2,hv,r2.st h2 g.le g.sub ⟨g.keep.os,g.keep.tape,g.keep.output,g.keep.size,g.keep.dr⟩ (fun k hk=>g.keep.block k (hC k ((h3 k).2 (.inr hk))).1 fun h=>h4 k h hk),fun _=>Iff.rfl,fun k hk h2k=>?_⟩,fun k hk=>?_⟩
 ·rcases(hC' k hk).1 with h | h
  ·exact h4 k h h2k
  ·have:=(hC k ((h3 k).2 (.inr h2k))).1;omega
 ·rcases hk with hk | hk
  ·obtain⟨a,b,c⟩:=hC' k hk;exact⟨a.imp (hsub k) id,b,c⟩
  ·obtain⟨a,b⟩:=hC k ((h3 k).2 (.inr hk));exact⟨.inl ((h3 k).2 (.inr hk)),zs6 a g.keep.size,(g.fresh k a fun h=>h4 k h hk).trans b⟩
def RetY.conv{f:FuncId}{C:Nat->Prop}{r:GR}(h:RetY P f args w B C r φ)(hi:∀ H u C,r.P H u C->r'.P H u C):RetY P f args w B C r' φ:=
 Calls.mono h fun _ _ ⟨v,he,H,g,hp,C',hv,hC'⟩=>⟨v,he,H,g,hp,C',hi _ _ _ hv,hC'⟩
def Mk{r1 r2:GR}{H:Heap}(h:(gz r1 r2).P H u C):(gz r2 r1).P H u C:=
 let ⟨C1,C2,h1,h2,h3,h4⟩:=h
 ⟨C2,C1,h2,h1,fun k=>(h3 k).trans or_comm,fun k a b=>h4 k b a⟩
section
variable        {d:Nat}      {a:Act}  {os:List Oper}
end
end Go.V
section
open Go.V
attribute [local irreducible] Has N Pan Par Ret RetL RetO RetT RetX RetY Src StepOK V VO X XP jh
namespace Go.V.L11
open Go.V.L4
def _root_.ZdQ(t:Wr Y->A:=by intro h;refine ug 900 901 rfl (bq _ _ _) ?_;exact h.1)(h:Y):A:=t ⟨h⟩
def _root_.ZeZ(t:Wr Y->A:=by intro h;refine z7 (Om Z Z Z T) Z ?_;exact h.1)(h:Y):A:=t ⟨h⟩
def _root_.Zfa(t:Wr Y->A:=by intro h;refine z7 (yv (cs:=[_,_]) Z Z zpu Z Z) Z ?_;exact h.1)(h:Y):A:=t ⟨h⟩
abbrev Ss:TypeId:=157
abbrev zqp:TypeId:=252
abbrev kq(sb rb:Nat)(sv:Value)(fr:Int)(R:Rd):GR:=gz (xd sb [k8 rb,.int .i64 fr] Ss) (GRd rb sv R)
abbrev wrV(a e:Int):Value:=.iface zqp (.agg #[.int .i64 a,.int .i64 e])
def Q0{R2:Rd}(hfn:L.fn fr=some ())(he:R2.err=0){C:Nat->Prop}(hB:zwe B w)(hr:(kq sb rb sv fr0 R).P B w C)(hC:ZCB C w B)(hf:∀ (u:World) (H:Heap) (C:Nat->Prop),zwe H u->B.Le H->(kq sb rb sv R.at_ R).P H u C->(ZCB C u H)->RetX zwf fr (fst++cap) u H C (kq sb rb sv R.at_ R2) (.int .i64 x)):
  RetX zwf 136 [k8 sb,.func (.func fr) fst.toArray cap.toArray] w B C (kq sb rb sv R.at_ R2) (.int .i64 x):=by
 unfold RetX;refine yz 900 (kq sb rb sv fr0 R) Tryz.func136 Z Tryz.ntmps136 (np Z) hB hr hC ?_;rw[w9,xe,xe];refine ZdQ (h:=?_);refine(Zw∘ZbI) ?_;refine qf (yj L 901 (GRd rb sv R) (.int .i64 R.at_) (r:=GRd rb sv R) Z Z Z Z Z (fun u H C2 hH _ hr2 hC2=>at_ret hH hr2 hC2)) (Zam (h:=?_));refine xm (yq L (q:=900) (cs':=[k8 rb,.int .i64 R.at_]) Z Z Z Z Z) (Zk (h:=?_));refine jy 900 901 rfl Z (xi (GRd rb sv R)) ?_;refine Zn (h:=?_);refine qf (jo L 900 (kq sb rb sv R.at_ R2) (.int .i64 x) (r:=kq sb rb sv R.at_ R) Z Z Z hfn Z hf) (Zh (h:=?_));refine ug (r1:=(xd sb [k8 rb,.int .i64 R.at_] Ss).res) (r2:=(GRd rb sv R2).res) 900 901 rfl (xi (GRd rb sv R2)) ?_;rw[xe];refine(Zz∘ZR) ?_;refine qf (yj L 901 (GRd rb sv R2) (.tuple #[.int .i64 R2.bad,.int .i64 R2.err]) (r:=GRd rb sv R2) Z Z Z Z Z (fun u H C2 hH _ hr2 hC2=>fault_ret hH hr2 hC2)) ((Zb0∘Zt∘Zau∘ZD∘Zc) ?_);refine jy 900 901 rfl Z (xi (GRd rb sv R2)) ?_;exact kj L 900 (r:=kq sb rb sv R.at_ R2) (rs:=[.tmp 4]) Z (fun _ _ h=>h) nq Z Z (fun _=>rfl)
def Q1{R2:Rd}(hfn:L.fn fr=some ())(he:R2.err≠0){C:Nat->Prop}(hB:zwe B w)(hr:(kq sb rb sv fr0 R).P B w C)(hC:ZCB C w B)(hf:∀ (u:World) (H:Heap) (C:Nat->Prop),zwe H u->B.Le H->(kq sb rb sv R.at_ R).P H u C->(ZCB C u H)->RetX zwf fr (fst++cap) u H C (kq sb rb sv R.at_ R2) (.int .i64 x)):
  Pan zwf 136 [k8 sb,.func (.func fr) fst.toArray cap.toArray] w B C (wrV R2.bad R2.err):=by
 refine lu 900 (kq sb rb sv fr0 R) Tryz.func136 Z Tryz.ntmps136 (np Z) hB hr hC ?_;rw[w9,xe,xe];refine ZdQ (h:=?_);refine(Zw∘ZbI) ?_;refine qf (yj L 901 (GRd rb sv R) (.int .i64 R.at_) (r:=GRd rb sv R) Z Z Z Z Z (fun u H C2 hH _ hr2 hC2=>at_ret hH hr2 hC2)) (Zam (h:=?_));refine xm (yq L (q:=900) (cs':=[k8 rb,.int .i64 R.at_]) Z Z Z Z Z) (Zk (h:=?_));refine jy 900 901 rfl Z (xi (GRd rb sv R)) ?_;refine Zn (h:=?_);refine qf (jo L 900 (kq sb rb sv R.at_ R2) (.int .i64 x) (r:=kq sb rb sv R.at_ R) Z Z Z hfn Z hf) (Zh (h:=?_));refine ug (r1:=(xd sb [k8 rb,.int .i64 R.at_] Ss).res) (r2:=(GRd rb sv R2).res) 900 901 rfl (xi (GRd rb sv R2)) ?_;rw[xe];refine(Zz∘ZR) ?_;refine qf (yj L 901 (GRd rb sv R2) (.tuple #[.int .i64 R2.bad,.int .i64 R2.err]) (r:=GRd rb sv R2) Z Z Z Z Z (fun u H C2 hH _ hr2 hC2=>fault_ret hH hr2 hC2)) ((Zb0∘Zt∘ZcT∘Z1) ?_);refine wm (id:=5) 4 rfl ((Zb∘Zfa∘ZeZ∘Zah) ?_);refine E4 (zwd:=4) Z Z Z ?_
 repeat (first | refine w7 ?_ | refine wc ?_)
 exact cd nq
def sd{R2:Rd}(hfn:L.fn fr=some ())(he:R2.err=0){C:Nat->Prop}(hB:zwe B w)(hr:(kq sb rb sv fr0 R).P B w C)(hC:ZCB C w B)(hf:∀ (u:World) (H:Heap) (C:Nat->Prop),zwe H u->B.Le H->(kq sb rb sv R.at_ R).P H u C->(ZCB C u H)->RetX zwf fr (fst++cap) u H C (kq sb rb sv R.at_ R2) (.int .u64 x)):
  RetX zwf 75 [k8 sb,.func (.func fr) fst.toArray cap.toArray] w B C (kq sb rb sv R.at_ R2) (.int .u64 x):=by
 unfold RetX;refine yz 900 (kq sb rb sv fr0 R) Tryz.func75 Z Tryz.ntmps75 (np Z) hB hr hC ?_;rw[w9,xe,xe];refine ZdQ (h:=?_);refine(Zw∘ZbI) ?_;refine qf (yj L 901 (GRd rb sv R) (.int .i64 R.at_) (r:=GRd rb sv R) Z Z Z Z Z (fun u H C2 hH _ hr2 hC2=>at_ret hH hr2 hC2)) (Zam (h:=?_));refine xm (yq L (q:=900) (cs':=[k8 rb,.int .i64 R.at_]) Z Z Z Z Z) (Zk (h:=?_));refine jy 900 901 rfl Z (xi (GRd rb sv R)) ?_;refine Zn (h:=?_);refine qf (jo L 900 (kq sb rb sv R.at_ R2) (.int .u64 x) (r:=kq sb rb sv R.at_ R) Z Z Z hfn Z hf) (Zh (h:=?_));refine ug (r1:=(xd sb [k8 rb,.int .i64 R.at_] Ss).res) (r2:=(GRd rb sv R2).res) 900 901 rfl (xi (GRd rb sv R2)) ?_;rw[xe];refine(Zz∘ZR) ?_;refine qf (yj L 901 (GRd rb sv R2) (.tuple #[.int .i64 R2.bad,.int .i64 R2.err]) (r:=GRd rb sv R2) Z Z Z Z Z (fun u H C2 hH _ hr2 hC2=>fault_ret hH hr2 hC2)) ((Zb0∘Zt∘Zau∘ZD∘Zc) ?_);refine jy 900 901 rfl Z (xi (GRd rb sv R2)) ?_;exact kj L 900 (r:=kq sb rb sv R.at_ R2) (rs:=[.tmp 4]) Z (fun _ _ h=>h) nq Z Z (fun _=>rfl)
def Qz{R2:Rd}(hfn:L.fn fr=some ())(he:R2.err≠0){C:Nat->Prop}(hB:zwe B w)(hr:(kq sb rb sv fr0 R).P B w C)(hC:ZCB C w B)(hf:∀ (u:World) (H:Heap) (C:Nat->Prop),zwe H u->B.Le H->(kq sb rb sv R.at_ R).P H u C->(ZCB C u H)->RetX zwf fr (fst++cap) u H C (kq sb rb sv R.at_ R2) (.int .u64 x)):
  Pan zwf 75 [k8 sb,.func (.func fr) fst.toArray cap.toArray] w B C (wrV R2.bad R2.err):=by
 refine lu 900 (kq sb rb sv fr0 R) Tryz.func75 Z Tryz.ntmps75 (np Z) hB hr hC ?_;rw[w9,xe,xe];refine ZdQ (h:=?_);refine(Zw∘ZbI) ?_;refine qf (yj L 901 (GRd rb sv R) (.int .i64 R.at_) (r:=GRd rb sv R) Z Z Z Z Z (fun u H C2 hH _ hr2 hC2=>at_ret hH hr2 hC2)) (Zam (h:=?_));refine xm (yq L (q:=900) (cs':=[k8 rb,.int .i64 R.at_]) Z Z Z Z Z) (Zk (h:=?_));refine jy 900 901 rfl Z (xi (GRd rb sv R)) ?_;refine Zn (h:=?_);refine qf (jo L 900 (kq sb rb sv R.at_ R2) (.int .u64 x) (r:=kq sb rb sv R.at_ R) Z Z Z hfn Z hf) (Zh (h:=?_));refine ug (r1:=(xd sb [k8 rb,.int .i64 R.at_] Ss).res) (r2:=(GRd rb sv R2).res) 900 901 rfl (xi (GRd rb sv R2)) ?_;rw[xe];refine(Zz∘ZR) ?_;refine qf (yj L 901 (GRd rb sv R2) (.tuple #[.int .i64 R2.bad,.int .i64 R2.err]) (r:=GRd rb sv R2) Z Z Z Z Z (fun u H C2 hH _ hr2 hC2=>fault_ret hH hr2 hC2)) ((Zb0∘Zt∘ZcT∘Z1) ?_);refine wm (id:=5) 4 rfl ((Zb∘Zfa∘ZeZ∘Zah) ?_);refine E4 (zwd:=4) Z Z Z ?_
 repeat (first | refine w7 ?_ | refine wc ?_)
 exact cd nq
def jb{e:Int}(hB:zwe B w)(hr:(kq sb rb sv fr0 R).P B w C)(hC:ZCB C w B):jh zwf 74 [k8 sb,.bool true,.int .i64 e] w B C (kq sb rb sv fr0 R):=by
 unfold jh;refine yz 900 (kq sb rb sv fr0 R) Tryz.func74 Z Tryz.ntmps74 (np Z) hB hr hC ((ZT∘Za∘Zo∘Zbu) ?_);exact ki L 900 (r:=kq sb rb sv fr0 R) Z (fun _ _ h=>h) nq Z Z
def l6{e:Int}(hB:zwe B w)(hr:(kq sb rb sv fr0 R).P B w C)(hC:ZCB C w B):Pan zwf 74 [k8 sb,.bool false,.int .i64 e] w B C (wrV fr0 e):=by
 refine lu 900 (kq sb rb sv fr0 R) Tryz.func74 Z Tryz.ntmps74 (np Z) hB hr hC ?_;rw[w9,xe,xe];refine ZdQ (h:=?_);refine(ZT∘Za∘Zo∘Z1) ?_;refine wm (id:=1) 7 rfl ((Za∘ZR∘Za∘Zfa∘ZeZ∘Zah) ?_);refine E4 (zwd:=7) Z Z Z ?_
 repeat (first | refine w7 ?_ | refine wc ?_)
 exact cd nq
def Nv{b2 b3:Nat}{bs:List Nat}(hb:∀ b∈bs,b<=255)(hl:bs.length<=1099511627776)(hat:R.at_<=bs.length)(hlim:lim<=1099511627776)(hB:zwe B w)(hs:BsV bs fu sv B)(h2:B b2=some (.cells #[k8 sb] 153))(h3:B b3=some (.cells #[.int .i64 lim] 3))(hr:(kq sb rb sv fr0 R).P B w C)(hC:ZCB C w B):
  RetX zwf 137 [k8 b2,k8 b3] w B C (kq sb rb sv fr0 (vk bs lim R).2) (.int .i64 (vk bs lim R).1):=by
 unfold RetX;refine yz 900 (kq sb rb sv fr0 R) Tryz.func137 Z Tryz.ntmps137 (np Z) hB hr hC ?_;rw[w9,xe,xe];refine ZdQ (h:=?_);refine(ZT∘Ze) ?_;refine qp (id:=1) [(200006,[900]),(8,[901])] kr T (z9 (ql L (qt Z h2) Z Z Z Z) Z ((Zbj∘ZdB) ?_));refine z9 (ql L (qt Z h3) Z Z Z Z) Z (xo (yj L 901 (GRd rb sv (vk bs lim R).2) (.int .i64 (vk bs lim R).1) (r:=GRd rb sv R) Z Z Z Z Z (fun u H C2 hH hle hr2 hC2=>len_ret hlim hb hl hat hH (hs.le hle) hr2 hC2)) Z Z (Zy (h:=?_)));refine jy 900 901 rfl Z (xi (GRd rb sv (vk bs lim R).2)) ?_;exact kj L 900 (r:=kq sb rb sv fr0 (vk bs lim R).2) (rs:=[.tmp 2]) Z (fun _ _ h=>h) nq Z Z (fun _=>rfl)
def size_ret{bs:List Nat}(hb:∀ b∈bs,b<=255)(hl:bs.length<=1099511627776)(hat:R.at_<=bs.length)(hlim:lim<=1099511627776)(he:(vk bs lim R).2.err=0)(hB:zwe B w)(hs:BsV bs fu sv B)(hr:(kq sb rb sv fr0 R).P B w C)(hC:ZCB C w B):
  RetX zwf 73 [k8 sb,.int .i64 lim] w B C (kq sb rb sv R.at_ (vk bs lim R).2) (.int .i64 (vk bs lim R).1):=by
 unfold RetX;refine yz 900 (kq sb rb sv fr0 R) Tryz.func73 Z Tryz.ntmps73 (np Z) hB hr hC ((Zby∘ZdW∘Ze) ?_);refine jg 2 902 rfl fun b2=>?_;refine jg 3 903 rfl fun b3=>?_;refine wx 902 rfl fun H1 hs1 _ h2=>?_;refine wx 903 rfl fun H2 hs2 _ h3=>?_;have h2:=hs2.le _ _ h2;have hs12:=hs1.trans hs2;have hs':=hs.le hs12.le;have hcl:∀ (u:World) (H:Heap) (C:Nat->Prop),H2.Le H->zwe H u->(kq sb rb sv R.at_ R).P H u C->(ZCB C u H)->RetX zwf 137 ([]++[k8 b2,k8 b3]) u H C (kq sb rb sv R.at_ (vk bs lim R).2) (.int .i64 (vk bs lim R).1):=fun u H C3 hle hH hr3 hC3=>Nv hb hl hat hlim hH (hs'.le hle) (hle _ _ h2) (hle _ _ h3) hr3 hC3;refine ZI (h:=?_);refine z7 (ql L (qt Z h2) Z Z Z Z) Z (ZaN (h:=?_));refine qf (yj L 900 (kq sb rb sv R.at_ (vk bs lim R).2) (.int .i64 (vk bs lim R).1) (r:=kq sb rb sv fr0 R) Z Z Z Z Z (fun u H C2 hH hle hr2 hC2=>Q0 (fst:=[]) (cap:=[k8 b2,k8 b3]) Z he hH hr2 hC2 (fun u3 H3 C3 hH3 hle3 hr3 hC3=>hcl u3 H3 C3 (hle.trans hle3) hH3 hr3 hC3))) (Zc (h:=?_));exact kj L 900 (r:=kq sb rb sv R.at_ (vk bs lim R).2) (rs:=[.tmp 4]) Z (fun _ _ h=>h) hs12 Z Z (fun _=>rfl)
def Kr{bs:List Nat}(hb:∀ b∈bs,b<=255)(hl:bs.length<=1099511627776)(hat:R.at_<=bs.length)(hlim:lim<=1099511627776)(he:(vk bs lim R).2.err≠0)(hB:zwe B w)(hs:BsV bs fu sv B)(hr:(kq sb rb sv fr0 R).P B w C)(hC:ZCB C w B):
  Pan zwf 73 [k8 sb,.int .i64 lim] w B C (wrV (vk bs lim R).2.bad (vk bs lim R).2.err):=by
 refine lu 900 (kq sb rb sv fr0 R) Tryz.func73 Z Tryz.ntmps73 (np Z) hB hr hC ((Zby∘ZdW∘Ze) ?_);refine jg 2 902 rfl fun b2=>?_;refine jg 3 903 rfl fun b3=>?_;refine wx 902 rfl fun H1 hs1 _ h2=>?_;refine wx 903 rfl fun H2 hs2 _ h3=>?_;have h2:=hs2.le _ _ h2;have hs12:=hs1.trans hs2;have hs':=hs.le hs12.le;have hcl:∀ (u:World) (H:Heap) (C:Nat->Prop),H2.Le H->zwe H u->(kq sb rb sv R.at_ R).P H u C->(ZCB C u H)->RetX zwf 137 ([]++[k8 b2,k8 b3]) u H C (kq sb rb sv R.at_ (vk bs lim R).2) (.int .i64 (vk bs lim R).1):=fun u H C3 hle hH hr3 hC3=>Nv hb hl hat hlim hH (hs'.le hle) (hle _ _ h2) (hle _ _ h3) hr3 hC3;refine wm (id:=1) 2 rfl (z7 (ql L (qt Z h2) Z Z Z Z) Z ((ZaN∘Zah) ?_));refine wj (r:=(kq sb rb sv fr0 R).res) (zwd:=2) L 900 rfl Z Z Z Z (fun u H C2 hH hle hr2 hC2=>Q1 (fst:=[]) (cap:=[k8 b2,k8 b3]) Z he hH hr2 hC2 (fun u3 H3 C3 hH3 hle3 hr3 hC3=>hcl u3 H3 C3 (hle.trans hle3) hH3 hr3 hC3)) (fun _ _ _ _ h=>h) ?_
 repeat (first | refine w7 ?_ | refine wc ?_)
 exact cd hs12
def Vo(hl:bs.length<=1099511627776)(hat:R.at_<=bs.length)(he:(Mn bs R).2=0)(hB:zwe B w)(hs:BsV bs fu sv B)(hr:(kq sb rb sv fr0 R).P B w C)(hC:ZCB C w B):
  jh zwf 79 [k8 sb] w B C (kq sb rb sv fr0 R):=by
 unfold jh;refine yz 900 (kq sb rb sv fr0 R) Tryz.func79 Z Tryz.ntmps79 (np Z) hB hr hC ?_;rw[w9,xe,xe];refine ZdQ (h:=?_);refine(ZT∘Za∘ZR) ?_;refine qf (yj L 901 (GRd rb sv R) (.tuple #[.int .i64 (Mn bs R).1,.int .i64 (Mn bs R).2]) (r:=GRd rb sv R) Z Z Z Z Z (fun u H C2 hH hle hr2 hC2=>zdp hl hat hH (hs.le hle) hr2 hC2)) ((ZW∘Zv∘Zbb∘Zar∘Zbu) ?_);refine s4 900 901 rfl Z (xi (GRd rb sv R)) ?_;exact ki L 900 (r:=kq sb rb sv fr0 R) Z (fun _ _ h=>h) nq Z Z
def Vp(hl:bs.length<=1099511627776)(hat:R.at_<=bs.length)(he:(Mn bs R).2≠0)(hB:zwe B w)(hs:BsV bs fu sv B)(hr:(kq sb rb sv fr0 R).P B w C)(hC:ZCB C w B):
  Pan zwf 79 [k8 sb] w B C (wrV (Mn bs R).1 (Mn bs R).2):=by
 refine lu 900 (kq sb rb sv fr0 R) Tryz.func79 Z Tryz.ntmps79 (np Z) hB hr hC ?_;rw[w9,xe,xe];refine ZdQ (h:=?_);refine(ZT∘Za∘ZR) ?_;refine qf (yj L 901 (GRd rb sv R) (.tuple #[.int .i64 (Mn bs R).1,.int .i64 (Mn bs R).2]) (r:=GRd rb sv R) Z Z Z Z Z (fun u H C2 hH hle hr2 hC2=>zdp hl hat hH (hs.le hle) hr2 hC2)) ((ZW∘Zv∘Zbb∘ZcT∘Z1) ?_);refine wm (id:=2) 4 rfl ((Zb∘Zfa∘ZeZ∘Zah) ?_);refine E4 (zwd:=4) Z Z Z ?_
 repeat (first | refine w7 ?_ | refine wc ?_)
 exact cd nq
end Go.V.L11
end
namespace Go.V
section rec
variable {F:Fence} {nn:Nat}  {Q:Exit->Act->List Frame->World->Prop} {a:Act} {cs:List Frame} 
def Kc{id d:Nat}{o:Oper}{cs':List Frame}(hro:F.round=none)(hd:o.dst=some d)(hop:o.op=.call { callee:=.builtin .recover,args:=#[],argTypes:=#[] })(hgd:o.guard=none)(hrec:(recoverD cs=some (v,cs'))\/(recoverD cs=none/\v=.nilIface/\cs'=cs))
  (h:wpOpsIn F nn P (o::l).toArray (fun e a' w'=>Q e a' cs' w') (List.range' 1 l.length) (a.put (some d) v) w):(Code.region id (o::l).toArray false).wpSIn F nn P Q a cs w:=fun b k hb hr hF hroom=>by
 have hlen:cs'.length=cs.length:=by
  rcases hrec with h | ⟨_,_,rfl⟩
  ·exact recoverD_length h
  ·rfl
 obtain⟨e,a',w',hq,harr⟩:=wp_opsIn _ _ _ h b k cs' (hr.trans hro.symm) hF (hlen ▸ hroom);have hsz:List.range (o::l).toArray.size=0::List.range' 1 l.length:=by rw[zuu];simp [zuv]
 have ho:(o::l).toArray[0]?=some o:=by simp
 have hw:Region.wanted o (yielded (o::l).toArray a.tmps)=true:=by unfold Region.wanted;rw[hgd]
 have hg:=stepGR_op (P:=P) (b:=b) (k:=k) (cs:=cs) (w:=w) (rest:=List.range' 1 l.length) ho hw;rw[hr,Oper.semAt_none] at hg;have hrun:(execOp a.eval o).run P w=.ok .recover w:=by unfold execOp;rw[hop];rfl
 have hfin:∀ v,(b.atR a (.inRegion (o::l).toArray (0::List.range' 1 l.length)::k)).finish v=b.atR (a.put o.dst v) (.inRegion (o::l).toArray (List.range' 1 l.length)::k):=by
  intro v;rw[Frame.finish_atR,ho];rfl
 have hk:(b.atR a (.inRegion (o::l).toArray (0::List.range' 1 l.length)::k)).kind=.deferred:=hb;have htr:=tryRecover_deferred hk cs
 have habout:∀ f,o.about P w a.eval=some f->F.fn f:=fun f hf=>by
  unfold Oper.about at hf;rw[hop] at hf;cases hf
 have hst:step P (lone (b.atR a (.inRegion (o::l).toArray (0::List.range' 1 l.length)::k)) cs w)=.next (lone (b.atR (a.put (some d) v) (.inRegion (o::l).toArray (List.range' 1 l.length)::k)) cs' w):=by
  refine step_lone_go ?_;rw[hg,<-hd,<-hfin];simp only[Frame.atR,hr] at htr |-;rcases hrec with h1 | ⟨h1,rfl,rfl⟩
  ·simp [stepG.apply,hrun,htr,h1]
  ·simp [stepG.apply,hrun,htr,h1]
 have hreg:step P (lone (b.atR a (.code (.region id (o::l).toArray false)::k)) cs w)=_:=stepR_region;rw[hsz] at hreg;exact⟨e,a',cs',w',hlen,hq,.of_steps (.one (fenced_calm hF hroom Z) hreg) (.of_steps (.one (fenced_oper hF hroom ho habout) hst) harr)⟩
end rec
section code
def QR(P:Program)(F:Fr)(ops:Array Oper)(zwd:Nat)(Q:Exit->Act->World->Prop):Exit->Act->World->Prop:=fun _ a u=>wpOpsIn (FW F.r) 0 P ops Q (List.range' zwd (ops.size-zwd)) a u
def zel{id:Nat}(zwd:Nat)(hK:Nat.ble zwd l.length=true)(h:VO P F B n O l.toArray κ (l.take zwd) (QR P F l.toArray zwd Q)):V P F B n O κ (.region id l.toArray false) Q:=fun a u hh=>by
 refine wpIn_region ?_;have hK:=np hK
 have hsplit:List.range l.toArray.size=List.range' 0 zwd++List.range' zwd (l.toArray.size-zwd):=by
  rw[zuu];have:=List.range'_append_1 (s:=0) (m:=zwd) (n:=l.toArray.size-zwd);rw[zrw] at this;rw[this,Nat.add_sub_cancel' (by simpa using hK)]
 rw[hsplit]
 have key:∀ (m i:Nat) {a:Act} {u:World},i+m=zwd->Ops P l.toArray (fun a u=>QR P F l.toArray zwd Q .normal a u) ((l.drop i).take m) a u->
   wpOpsIn (FW F.r) 0 P l.toArray Q (List.range' i m++List.range' zwd (l.toArray.size-zwd)) a u:=by
  intro m
  induction m with
  | zero=>
   intro i a u hi ho;rw[zr0] at ho;exact ho
  | succ m ih=>
   intro i a u hi ho;have hil:i<l.length:=J;rw[zsc hil,ztu] at ho;have hg:l.toArray[i]?=some l[i]:=by rw[zt3,zrz hil]
   rw[zuv,zsa,wpOpsIn_cons];exact After.wpOpIn hg (After.mono (fun a' u' hh'=>ih (i+1) J hh') ho)
 exact key zwd 0 J (by rw[zsj];exact h a u hh)
abbrev dfd(f:Nat)(cap:List Value):Deferred:={ target:=.fn (.func f) cap.toArray,args:=#[] }
def zk2{fo:Operand}(hds:F.ds=[])(hr:F.r=none)
  (ho:ops[zwd]?=some ⟨none,.defer { callee:=.value fo,args:=#[],argTypes:=#[] },ty,pos,aft,none⟩) (hf:evK κ fo=some (.func (.func f) #[] cap.toArray))
  (h:VO P ⟨F.w0,F.r,[.u (dfd f cap)],F.L⟩ B n O ops κ (ops.toList.drop (zwd+1)) Q):N F B n O κ (QR P F ops zwd Q):=by
 rintro a u ⟨H,fp,hh⟩
 have hKs:zwd<ops.size:=by
  rcases m5 zwd ops.size with h | h
  ·exact h
  ·rw[ztn h] at ho;cases ho
 unfold QR;rw[show ops.size-zwd=(ops.size-(zwd+1))+1 by omega,zuv,wpOpsIn_cons];unfold wpOpIn;rw[ho];dsimp only;rw[if_pos (by unfold Region.wanted;rfl)];have e2:=hh.env (ops:=ops) (o:=⟨none,.defer { callee:=.value fo,args:=#[],argTypes:=#[] },ty,pos,aft,none⟩) (κ:=κ) (fun _ _=>rfl);have hfe:a.eval fo=.func (.func f) #[] cap.toArray:=e2.is_ fo _ (by simp [Op.operands,Call.operands]) hf;refine⟨fun _ _=>trivial,?_⟩;have hround:(FW F.r).round=none:=by rw[hr];rfl
 rw[hround,Oper.semAt_none]
 have hrun:(execOp a.eval ⟨none,.defer { callee:=.value fo,args:=#[],argTypes:=#[] },ty,pos,aft,none⟩).run P u=.ok (.defer (dfd f cap)) u:=by
  unfold execOp;dsimp only;simp only[resolve,hfe,Deferred.ofValue,nw,me,ny];simp [dfd]
 rw[hrun,Oper.uponIn_defer];have had:a.defers=[]:=by have:=hh.defers;rw[hds] at this;exact this
 refine bl (fun _ _ h=>h) (ops.size-(zwd+1)) (zwd+1) J (h _ u ⟨H,fp,?_⟩);exact⟨hh.size,by show dfd f cap::a.defers=_;rw[had];rfl,by simp,fun D hD=>by simp at hD,hh.lent,hh.keep,hh.sub,hh.base,hh.fresh,hh.boxes,hh.apart,hh.slot,hh.owns,hh.mono⟩
def o5(P:Program)(f:Nat)(args:List Value)(w:World)(B:Heap)(C:Nat->Prop)(m m':FrameMode)(r:GR):Prop:=
 CallsDIn Fence.wide 0 P f args.toArray m w fun e u' w'=>e=.returned (.tuple #[])/\u'=m'/\∃ H,Grow C w B w' H/\∃ C',r.P H w' C'/\∀ k,C' k->(C k\/w.heap.size<=k)/\k<w'.heap.size/\H k=none
def zmd(P:Program)(fn:Func)(R:World->Prop):Exit->Act->World->Prop
 | .normal,a,w | .ret,a,w=>a.defers=[]/\(results fn a.tmps).run P w=.ok (.tuple #[]) w/\R w
 | _,_,_=>False
inductive RecM:FrameMode->FrameMode->Value->Prop where
 | idle:RecM .returning .returning .nilIface
 | caught (v:Value):RecM (.panicking [{ v:=v,recovered:=false }]) (.panicking [{ v:=v,recovered:=true }]) v
def zh4{fn:Func}{id d:Nat}{o:Oper}{y:Code}{m m':FrameMode}(gs:Nat)(r0 r:GR)(hm:RecM m m' v)(hf:P.funcs[f]?=some fn)
  (hb:fn.body=some (.seq (.region id (o::l).toArray false) y)) (hn:fn.ntmps=n) (hs:args.length<=n) (hd:o.dst=some d) (hdn:Nat.blt d n=true) (hop:o.op=.call { callee:=.builtin .recover,args:=#[],argTypes:=#[] }) (hgd:o.guard=none) (hB:zwe B w) (hr:r0.P B w C) (hC:ZCB C w B)
  (h:VO P ⟨w,none,[],C⟩ B n [] (o::l).toArray (upd (upd (B5 0 args) gs (.own r0.res)) d (.is v)) l (Exit.then (fun a u=>y.wpIn (FW none) 0 P (zmd P fn fun u=>∃ H,Grow C w B u H/\∃ C',r.P H u C'/\∀ k,C' k->(C k\/w.heap.size<=k)/\k<u.heap.size/\H k=none) a u) (zmd P fn fun u=>∃ H,Grow C w B u H/\∃ C',r.P H u C'/\∀ k,C' k->(C k\/w.heap.size<=k)/\k<u.heap.size/\H k=none))):
  o5 P f args w B C m m' r:=by
 refine callsDIn_of_wpSIn hf hb trivial fun c0 cs hu=>?_
 have hrec:∃ cs',((recoverD (c0::cs)=some (v,cs'))\/(recoverD (c0::cs)=none/\v=.nilIface/\cs'=c0::cs))/\cs'={ c0 with mode:=m' }::cs:=by
  cases hm with
  | idle=>exact⟨_,.inr ⟨by simp [recoverD,hu],rfl,rfl⟩,by rw[<-hu]⟩
  | caught v=>exact⟨_,.inl (by simp [recoverD,hu]),rfl⟩
 obtain⟨cs',hrec,rfl⟩:=hrec
 have hend:∀ e a u,zmd P fn (fun u=>∃ H,Grow C w B u H/\∃ C',r.P H u C'/\∀ k,C' k->(C k\/w.heap.size<=k)/\k<u.heap.size/\H k=none) e a u->
   bodyPostS P fn c0 cs (fun e u' w'=>e=.returned (.tuple #[])/\u'=m'/\∃ H,Grow C w B w' H/\∃ C',r.P H w' C'/\∀ k,C' k->(C k\/w.heap.size<=k)/\k<w'.heap.size/\H k=none) e a ({ c0 with mode:=m' }::cs) u:=fun e a u he=>by
  cases e with
  | normal=>exact⟨he.1,m',rfl,_,he.2.1,rfl,rfl,he.2.2⟩
  | ret=>exact⟨he.1,m',rfl,_,he.2.1,rfl,rfl,he.2.2⟩
  | exit id=>exact he.elim
  | goto l=>exact he.elim
  | panic c=>exact he.elim
  | outgrown=>exact he.elim
 refine wpSIn_seq (Kc (cs':={ c0 with mode:=m' }::cs) Z hd hop hgd hrec ?_);subst hn;have h0:=a7 (B:=B) C (fun k hk=>(hC k hk).1) hs hB (fun _=>noL)
 have h1:HasH ⟨w,none,[],C⟩ B [] fn.ntmps (upd (B5 0 args) gs (.own r0.res)) { tmps:=args.toArray++Array.replicate (fn.ntmps-args.toArray.size) undef,defers:=[] } w B _:=h0.putR (d:=gs) (r:=r0.res) rfl rfl (fun _ _=>rfl) hr (fun k hk=>⟨(hC k hk).1,(hC k hk).2,.inr hk,fun y hy=>by cases hy⟩) fun t r' _ ht=>by
  obtain⟨v,hv,_⟩:=f9 _ _ _ _ ht;cases hv
 have h2:=h1.put (d:=d) (k:=.is v) (v:=v) (zn hdn) trivial rfl;have h3:=h _ w ⟨B,_,h2⟩;refine bl (Q:=fun a u=>Exit.then (fun a u=>y.wpIn (FW none) 0 P (zmd P fn fun u=>∃ H,Grow C w B u H/\∃ C',r.P H u C'/\∀ k,C' k->(C k\/w.heap.size<=k)/\k<u.heap.size/\H k=none) a u) (zmd P fn fun u=>∃ H,Grow C w B u H/\∃ C',r.P H u C'/\∀ k,C' k->(C k\/w.heap.size<=k)/\k<u.heap.size/\H k=none) .normal a u) (r:=none) (fun a u hy=>?_) l.length 1 (by simp;omega) (by simpa using h3);exact wpSIn_of_wpIn Z (Go.wpIn_mono hy fun e a u he=>hend e a u he)
def zfz(L:Tabs P){fn:Func}(gs:Nat){r:GR}(hrs:fn.results=#[])(hd:F.ds=[])(hk:κ gs=some (.own r.res))(hs:Since F B0 B):∀ a u,Has F B O n κ a u->
  zmd P fn (fun u=>∃ H,Grow F.L F.w0 B0 u H/\∃ C',r.P H u C'/\∀ k,C' k->(F.L k\/F.w0.heap.size<=k)/\k<u.heap.size/\H k=none) .normal a u:=fun a u hh=>by
 obtain⟨H,fp,hH⟩:=hh;have h0:=hH.defers;rw[hd] at h0;refine⟨h0,?_,H,⟨hH.keep,hH.sub,hs.le.trans hH.base,fun k hk hl=>(hH.fresh k hk hl).trans (hs.fresh k hk hl)⟩,HasH.ghost hk hH⟩;obtain⟨vs,h1,h2⟩:=wu L hH (rs:=[]) hrs (zwd:=fun vs=>vs=[]) rfl;subst h2;exact h1
def zem(L:Tabs P){fn:Func}(gs:Nat){r:GR}(hrs:fn.results=#[])(hk:κ gs=some (.own r.res))(e:r=r')(hs:Since F B0 B)(hd:F.ds=[]:=by rfl):
  N F B n O κ (zmd P fn fun u=>∃ H,Grow F.L F.w0 B0 u H/\∃ C',r'.P H u C'/\∀ k,C' k->(F.L k\/F.w0.heap.size<=k)/\k<u.heap.size/\H k=none):=by
 subst e;exact zfz L gs hrs hd hk hs
def LV(P:Program)(F:Fr)(B:Heap)(n:Nat)(O:Boxes)(κ:Kap)(fn:Func)(R:Ending->World->Prop):Prop:=∀ a u,Has F B O n κ a u->∃ v,(results fn a.tmps).run P u=.ok v u/\R (.returned v) u
def O9(L:Tabs P){fn:Func}{R:Ending->World->Prop}{m m':FrameMode}(q:Nat){r r':GR}(hds:F.ds=[.u (dfd f cap)])(hfn:L.fn f=some ())(hq:κ q=some (.own r.res))(hm:m≠.run)(hm':settle m'=.returning)
  (hc:∀ u H C,zwe H u->B.Le H->r.P H u C->(ZCB C u H)->o5 P f cap u H C m m' r') (h:LV P ⟨F.w0,F.r,[],F.L⟩ B n O (upd κ q (.own r'.res)) fn R):
  ∀ a u,Has F B O n κ a u->LeavesInM Fence.wide 0 P fn a.tmps R a.defers m u:=fun a u hh=>by
 obtain⟨H,fp,hH⟩:=hh;have h0:=hH.defers;rw[hds] at h0;rw[h0];obtain⟨hown,hM⟩:=hH.slot q _ hq;have hc:=hc u H (fp q) hH.sub hH.base hown fun k hk=>⟨(hM k hk).1,(hM k hk).2.1⟩
 refine⟨hm,.inr ⟨fun h=>(by cases h),.func f,cap.toArray,f,cap.toArray,Z,?_,fun _ _=>trivial,?_⟩⟩
 ·show(callFunc f (#[]++cap.toArray)).run P u=_;rw[da L hfn];simp
 ·refine CallsDIn.mono hc fun e u' w' hp=>?_;obtain⟨rfl,rfl,H',g',C',hr',hC'⟩:=hp;show LeavesInM Fence.wide 0 P fn a.tmps R [] (settle u') w';rw[hm'];have h2:=hH.usePut (d:=q) (a':=a) (r':=r'.res) hq g' rfl rfl (fun _ _=>rfl) hr' hC';rw[jt] at h2;exact h { a with defers:=[] } w' ⟨H',_,h2.size,rfl,zth,fun D hD=>(by cases hD),h2.lent,h2.keep,h2.sub,h2.base,h2.fresh,h2.boxes,h2.apart,h2.slot,h2.owns,h2.mono⟩
def zos(L:Tabs P){fn:Func}{R:Ending->World->Prop}(q:Nat){r:GR}(hds:F.ds=[.u (dfd f cap)])(hfn:L.fn f=some ())(hq:κ q=some (.own r.res))
  (hc:∀ u H C,zwe H u->B.Le H->r.P H u C->(ZCB C u H)->o5 P f cap u H C .returning .returning r') (h:LV P ⟨F.w0,F.r,[],F.L⟩ B n O (upd κ q (.own r'.res)) fn R) (hQ:∀ a u,bodyPostM Fence.wide 0 P fn R .ret a u->Q .ret a u):
  V P F B n O κ .ret Q:=fun a u hh=>wpIn_ret (hQ a u (O9 L q hds hfn hq (by simp) rfl hc h a u hh))
def zji(L:Tabs P){fn:Func}{R:Ending->World->Prop}(q:Nat){r:GR}(hds:F.ds=[.u (dfd f cap)])(hfn:L.fn f=some ())(hq:κ q=some (.own r.res))
  (hc:∀ u H C,zwe H u->B.Le H->r.P H u C->(ZCB C u H)->o5 P f cap u H C (.panicking [{ v:=pv,recovered:=false }]) (.panicking [{ v:=pv,recovered:=true }]) r') (h:LV P ⟨F.w0,F.r,[],F.L⟩ B n O (upd κ q (.own r'.res)) fn R)
  (hQ:∀ a u,bodyPostM Fence.wide 0 P fn R (.panic [{ v:=pv,recovered:=false }]) a u->Q (.panic [{ v:=pv,recovered:=false }]) a u):XP F B n O κ pv Q:=fun a u hh=>hQ a u (O9 L q hds hfn hq (by simp) rfl hc h a u hh)
def zn1(L:Tabs P){fn:Func}{rs:List ResultVar}(hrs:fn.results=rs.toArray)(hs:Since F B0 B)(h:∀ u H,zwe H u->B.Le H->F4 L F B O κ H rs [] (fun vs=>φ (tup vs) H)):LV P F B n O κ fn (dm F.w0 B0 F.L fun v H _=>φ v H):=fun a u hh=>by
 obtain⟨H,fp,hH⟩:=hh;obtain⟨vs,h1,h2⟩:=wu L hH hrs (h u H hH.sub hH.base);exact⟨_,h1,_,rfl,H,⟨hH.keep,hH.sub,hs.le.trans hH.base,fun k hk hl=>(hH.fresh k hk hl).trans (hs.fresh k hk hl)⟩,h2⟩
def zgn(L:Tabs P){fn:Func}(gs:Nat){r0:GR}{r:Res}{rs:List ResultVar}(hrs:fn.results=rs.toArray)(hs:Since F B0 B)(hk:κ gs=some (.own r0.res))
  (h:∀ H,F4 L F B O κ H rs [] (fun vs=>tup vs=v)) (hr:∀ H u C,B.Le H->zwe H u->r0.P H u C->r.P v H u C) (hL:F.L=noL:=by rfl):LV P F B n O κ fn (dm F.w0 B0 F.L (zme F.w0 r)):=fun a u hh=>by
 obtain⟨H,fp,hH⟩:=hh;obtain⟨vs,h1,h2⟩:=wu L hH hrs (h H);obtain⟨hown,hM⟩:=hH.slot gs _ hk;refine⟨_,h1,_,rfl,H,⟨hH.keep,hH.sub,hs.le.trans hH.base,fun k hk hl=>(hH.fresh k hk hl).trans (hs.fresh k hk hl)⟩,fp gs,?_,fun k hk=>?_⟩
 ·rw[h2];exact hr H u (fp gs) hH.base hH.sub hown
 ·obtain⟨g1,g2,g3,_⟩:=hM k hk;refine⟨?_,g1,g2⟩;rcases g3 with g3 | g3
  ·exact g3
  ·have g3':F.L k:=g3;rw[hL] at g3';exact g3'.elim
def Lt(q g1:Nat){fn:Func}{R:Ending->World->Prop}{r1 r2:Res}(hk:κ q=some (.own (ej r1 r2)))(hg1:∀ v v' H u C,r2.P v H u C->r2.P v' H u C)(h:LV P F B n O (upd (upd κ q (.own r1)) g1 (.own r2)) fn R)(hne:q≠g1:=by decide):LV P F B n O κ fn R:=fun a u hh=>h a u (hh.part hne hg1 hk)
def d8(t q:Nat){fn:Func}{R:Ending->World->Prop}{cs:List Value}(hk:κ q=some (.own (xr b cs ty)))(ht:κ t=some (.is (.pointer (some ⟨b,0,none⟩))))(h:LV P F B n O (upd (upd κ q lh) t (.own (Cell cs ty))) fn R):LV P F B n O κ fn R:=fun a u hh=>h a u (hh.release hk ht)
def Sj(q g1:Nat){r1 r2:Res}(hk:κ q=some (.own r1))(hk1:κ g1=some (.own r2))(hg1:∀ v v' H u C,r2.P v H u C->r2.P v' H u C)(h:XP F B n O (upd (upd κ g1 lh) q (.own (ej r1 r2))) pv Q)(hne:q≠g1:=by decide):XP F B n O κ pv Q:=fun a u hh=>h a u (hh.join2 hne hg1 hk hk1)
end code
end Go.V
namespace Go.V.L10
open Go.V Go.V.L2 Go.V.L8
def kpt(R:List (Option (List U)))(r:Int):Option (List U):=if 0<r then (R[(r-1).toNat]?).join else none
def kx(R:List (Option (List U))):List Int:=((List.range R.length).filter fun i=>((R[i]?).join).isSome).map fun i=>((i+1:Nat):Int)
def cu(R:List (Option (List U)))(i:Nat):kpt R ((i+1:Nat):Int)=(R[i]?).join:=by
 unfold kpt;rw[na J,show(((i+1:Nat):Int)-1).toNat=i by omega]
def f7{R:List (Option (List U))}(h:(kpt R r).isSome=true):0<r/\r<=R.length:=by
 unfold kpt at h;split at h
 ·rename_i h0;refine⟨h0,?_⟩
  cases hr:R[(r-1).toNat]? with
  | none=>rw[hr] at h;cases h
  | some x=>have:=get_lt hr;omega
 ·cases h
def jk{R:List (Option (List U))}:r∈kx R↔(kpt R r).isSome=true:=by
 unfold kx;rw[m6];constructor
 ·rintro⟨i,hi,rfl⟩;rw[zsb] at hi;rw[cu];exact hi.2
 ·intro h;have hb:=f7 h;obtain⟨i,rfl⟩:∃ i:Nat,r=((i+1:Nat):Int):=⟨(r-1).toNat,by omega⟩
  rw[cu] at h;exact⟨i,zsb.2 ⟨zu6.2 J,h⟩,rfl⟩
def l9(R:List (Option (List U))):Sst cP (kx R):=by
 unfold kx Sst;rw[List.pairwise_map];refine(List.Pairwise.filter _ List.pairwise_lt_range).imp ?_;intro a b h;exact Ms.2 J
def oq(R:List (Option (List U))):(kx R).length<=R.length:=by
 unfold kx;rw[mg];exact mq (zte ..) (by simp)
section
variable {Y:Type}
def Tz(k:Int):g7 k ([]:List (Int×Y))=none:=rfl
def pu{k:Int}:∀ {l:List (Int×Y)},(g7 k l).isSome=true↔k∈l.map Prod.fst
 | []=>by simp [Tz]
 | p::l=>by
  rw[ud,mt,nz];by_cases h:k=p.1
  ·rw[na h];simp [h]
  ·rw[nc h,pu];simp [h]
def bm{k:Int}{y:Y}:∀ {l:List (Int×Y)},g7 k l=some y->(k,y)∈l
 | [],h=>by cases h
 | p::l,h=>by
  rw[ud] at h;by_cases e:k=p.1
  ·rw[na e] at h;cases h;rw[e];exact mc ..
  ·rw[nc e] at h;exact mf _ (bm h)
def E5{k:Int}{y:Y}:∀ {l:List (Int×Y)},(l.map Prod.fst).Nodup->(k,y)∈l->g7 k l=some y
 | [],_,h=>by cases h
 | p::l,hn,h=>by
  rw[mt,zto] at hn;rw[ud];rcases nz.1 h with e | h
  ·subst e;rw[na rfl]
  ·rw[nc (fun e:k=p.1=>hn.1 (by rw[<-e];exact zt6 (f:=Prod.fst) h)),E5 hn.2 h]
def Xm(k:Int)(p:Int×Y)(l:List (Int×Y)):dc k (p::l) 0=if k=p.1 then some (0,p.2) else (dc k l 0).map fun q=>(q.1+1,q.2):=by
 rw[<-si];rfl
def O0(k:Int)(p:Int×Y)(l:List (Int×Y)):Xn k (p::l)=if k=p.1 then l else p::Xn k l:=by
 unfold Xn;rw[Xm];by_cases h:k=p.1
 ·rw[na h,na h];rfl
 ·rw[nc h,nc h]
  cases dc k l 0 with
  | none=>rfl
  | some q=>rfl
def Lr(k:Int):∀ l:List (Int×Y),(Xn k l).Sublist l
 | []=>List.Sublist.refl _
 | p::l=>by
  rw[O0];by_cases h:k=p.1
  ·rw[na h];exact zvc ..
  ·rw[nc h];exact(Lr k l).cons_cons _
def T2{k r:Int}:∀ {l:List (Int×Y)},(l.map Prod.fst).Nodup->g7 r (Xn k l)=if r=k then none else g7 r l
 | [],_=>by rw[show Xn k ([]:List (Int×Y))=[] from rfl,Tz];split<;>rfl
 | p::l,hn=>by
  rw[mt,zto] at hn;rw[O0];by_cases h:k=p.1
  ·rw[na h];by_cases hr:r=k
   ·rw[na hr];have:¬ (g7 r l).isSome=true:=fun hs=>hn.1 (h ▸ hr ▸ pu.1 hs)
    cases hg:g7 r l with
    | none=>rfl
    | some y=>rw[hg] at this;exact ni rfl this
   ·rw[nc hr,ud,nc (fun e=>hr (e.trans h.symm))]
  ·rw[nc h,ud,T2 hn.2,ud];by_cases hr:r=k
   ·subst hr;rw[nc h,na rfl,na rfl]
   ·rw[nc hr,nc hr]
end
structure MapOK{Y:Type}(es:List (Int×(List U×Y)))(R:List (Option (List U))):Prop where
 nd:(es.map Prod.fst).Nodup
 get:∀ r,(g7 r es).map Prod.fst=kpt R r
def MapOK.mem{Y:Type}{es:List (Int×(List U×Y))}{R:List (Option (List U))}(h:MapOK es R):r∈es.map Prod.fst↔r∈kx R:=by
 rw[<-pu,jk,<-h.get r,zu7]
def zf2{a b:List Int}(ha:a.Nodup)(hb:b.Nodup)(h:∀ x,x∈a↔x∈b):a.length=b.length:=((List.perm_ext_iff_of_nodup ha hb).2 h).length_eq
def MapOK.len{Y:Type}{es:List (Int×(List U×Y))}{R:List (Option (List U))}(h:MapOK es R):es.length=(kx R).length:=by
 rw[<-mg (f:=Prod.fst)];exact zf2 h.nd ((l9 R).nodup vz) fun _=>h.mem
def Dg(R:List (Option (List U)))(t:List U)(r:Int):kpt (R++[some t]) r=if r=((R.length+1:Nat):Int) then some t else kpt R r:=by
 by_cases h:r=((R.length+1:Nat):Int)
 ·rw[na h,h,cu];simp
 ·rw[nc h];unfold kpt;by_cases h0:0<r
  ·rw[na h0,na h0];rcases m5 (r-1).toNat R.length with hlt | hge
   ·rw[zs7 hlt]
   ·rw[zr6 (by rw[nr,zsu];omega),zr6 hge]
  ·rw[nc h0,nc h0]
def MapOK.add{Y:Type}{es:List (Int×(List U×Y))}{R:List (Option (List U))}(h:MapOK es R)(t:List U)(y:Y):MapOK (Ro ((R.length+1:Nat):Int) (t,y) es) (R++[some t])/\Ro ((R.length+1:Nat):Int) (t,y) es=es++[(((R.length+1:Nat):Int),(t,y))]:=by
 have hn:((R.length+1:Nat):Int)∉es.map Prod.fst:=fun hm=>by
  have:=f7 (jk.1 (h.mem.1 hm));omega
 have hf:dc ((R.length+1:Nat):Int) es 0=none:=by
  have h1:¬ (g7 ((R.length+1:Nat):Int) es).isSome=true:=fun hs=>hn (pu.1 hs);unfold g7 at h1
  cases hm:dc ((R.length+1:Nat):Int) es 0 with
  | none=>rfl
  | some q=>rw[hm] at h1;exact ni rfl h1
 have he:Ro ((R.length+1:Nat):Int) (t,y) es=es++[(((R.length+1:Nat):Int),(t,y))]:=t8 hf;refine⟨⟨?_,fun r=>?_⟩,he⟩
 ·rw[he,zr1,List.nodup_append];refine⟨h.nd,ztc _ _,fun a ha b hb=>?_⟩;simp only[mt,zr7,my] at hb;subst hb;exact fun e=>hn (e ▸ ha)
 ·rw[Ty,Dg];by_cases e:r=((R.length+1:Nat):Int)
  ·rw[na e,na e];rfl
  ·rw[nc e,nc e,h.get]
def clr(R:List (Option (List U)))(g:Int):List (Option (List U)):=R.set (g-1).toNat none
def zc7{R:List (Option (List U))}{g:Int}(hg:0<g):kpt (clr R g) r=if r=g then none else kpt R r:=by
 unfold kpt clr;by_cases h0:0<r
 ·rw[na h0,na h0,List.getElem?_set];by_cases e:r=g
  ·subst e;rw[na rfl,na rfl];split<;>rfl
  ·rw[nc J,nc e]
 ·rw[nc h0,nc h0,nc J]
def MapOK.del{Y:Type}{es:List (Int×(List U×Y))}{R:List (Option (List U))}(h:MapOK es R){g:Int}(hg:0<g):MapOK (Xn g es) (clr R g):=⟨h.nd.sublist ((Lr g es).map _),fun r=>by
 rw[T2 h.nd,zc7 hg];by_cases e:r=g
 ·rw[na e,na e];rfl
 ·rw[nc e,nc e,h.get]⟩
def clrL(R:List (Option (List U)))(l:List Int):List (Option (List U)):=l.foldl clr R
def cz(l:List Int):∀ R:List (Option (List U)),(clrL R l).length=R.length:=by
 induction l with
 | nil=>intro R;rfl
 | cons g l ih=>
  intro R;have:=ih (clr R g);unfold clrL at this |-;rw[zue,this];unfold clr;rw[zt2]
def Dh{r:Int}:∀ {l:List Int} {R:List (Option (List U))},(∀ g∈l,0<g)->kpt (clrL R l) r=if r∈l then none else kpt R r
 | [],R,_=>by simp [clrL]
 | g::l,R,h=>by
  have:=Dh (r:=r) (l:=l) (R:=clr R g) fun x hx=>h x (mf _ hx);unfold clrL at this |-;rw[zue,this,zc7 (h g (mc ..))];by_cases e1:r∈l
  ·rw[na e1,na (mf _ e1)]
  ·rw[nc e1];by_cases e2:r=g
   ·rw[na e2,na (by simp [e2])]
   ·rw[nc e2,nc (by simp [e1,e2])]
structure Sto where
 R:List (Option (List U))
 P:List Int
structure zpc(S:Sto):Prop where
 last:(kpt S.R S.R.length).isSome=true
 kl:(kx S.R).length<=1024
 pin:∀ r∈S.P,(kpt S.R r).isSome=true
 tl:∀ r t,kpt S.R r=some t->t.length<=4096
def newS:Sto:=⟨[some []],[]⟩
def atS(S:Sto)(r:Int):List U×Int:=match kpt S.R (if r=0 then S.R.length else r) with
 | some t=>(t,0)
 | none=>([],14)
def bg(S:Sto)(l cs:List CH):Sto×Int×Int:=
 if (ci (atS S 0).1 l cs).2.2=0 then (if 1024<=(kx S.R).length then (S,0,3) else (⟨S.R++[some (ci (atS S 0).1 l cs).1],S.P⟩,((S.R.length+1:Nat):Int),0)) else (S,0,(ci (atS S 0).1 l cs).2.2)
def V3(S:Sto)(r:Int)(un:Bool):Sto×Int:=
 if (kpt S.R r).isSome=true then (if un then (if (i6 S.P r).2=0 then (⟨S.R,(i6 S.P r).1⟩,0) else (S,(i6 S.P r).2)) else (⟨S.R,S.P++[r]⟩,0)) else (S,14)
def cy(S:Sto)(keep:Int):Sto×List Int×Int:=
 if 1<=keep/\keep<=1024 then (⟨clrL S.R (lp S.P (kx S.R) keep.toNat),S.P⟩,lp S.P (kx S.R) keep.toNat,0) else (S,[],4)
end Go.V.L10
section
open Go.V
attribute [local irreducible] Has N Par Ret RetL RetO RetX Src StepOK V VO X jh
namespace Go.V.So
open Go.Sort
def _root_.Zp(t:Wr Y->A:=by intro h;refine z9 (qw L _ Z Z Z Z J) Z ?_;exact h.1)(h:Y):A:=t ⟨h⟩
def _root_.ZV(t:Wr Y->A:=by exact fun h=>(Zm∘Zp) h.1)(h:Y):A:=t ⟨h⟩
def _root_.ZbP(t:Wr Y->A:=by exact fun h=>(ZfO∘Za0) h.1)(h:Y):A:=t ⟨h⟩
def _root_.Zck(t:Wr Y->A:=by exact fun h=>(Zm∘Zd2) h.1)(h:Y):A:=t ⟨h⟩
abbrev lt:Int->Int->Bool:=ltInt
abbrev tyU:TypeId:=63
def isnanU(a:Int)(hB:zwe B w):Ret zwf 263 [.int .u64 a] w B (fun v _=>v=.bool false):=by
 refine yl Tryz.func263 Z Tryz.ntmps263 (np Z) hB ((Zw∘Zb∘Zar∘Zc) ?_);exact yk2 L [.tmp 2]
def zp7(a b:Int)(hB:zwe B w):Ret zwf 275 [.int .u64 a,.int .u64 b] w B (fun v _=>v=.bool (lt a b)):=by
 unfold lt ltInt;refine yl Tryz.func275 Z Tryz.ntmps275 (np Z) hB ?_;by_cases h:a<b
 ·rw[nf h];refine(Zw∘Za) ?_;refine z71 L Z (fun u H hH _=>isnanU _ hH) ?_;refine(ZbF∘Zu∘ZS∘Zf∘Zc) ?_;exact yk2 L [.tmp 4]
 ·rw[ng h];refine(Zw∘Za) ?_;refine z71 L Z (fun u H hH _=>isnanU _ hH) ?_;refine(ZbF∘Zu∘Zab∘Zf∘Zc) ?_;exact yk2 L [.tmp 4]
def wk{a b:Int}{f:Bool}(h:lt a b=f)(hB:zwe B w):Ret zwf 275 [.int .u64 a,.int .u64 b] w B (fun v _=>v=.bool f):=h ▸ zp7 a b hB
def ins_ret{cap:Nat}(hab:a<=e)(he:e<=d.size)(hm:d.size=m)(hm1:m<=100000)(hB:zwe B w)
  (hr:(xd b (uC d++rest) tyU).P B w C) (hC:ZCB C w B):
  jh zwf 269 [.slice (some ⟨b,0,none⟩) m cap,.int .i64 a,.int .i64 e] w B C (xd b (uC (insertionSort lt d a e)++rest) tyU):=by
 unfold jh;refine yz 900 (xd b (uC d++rest) tyU) Tryz.func269 Z Tryz.ntmps269 (np Z) hB hr hC ?_;rw[xe];have hw0:IntKind.i64.wrap ((a:Int)+1)=((a+1:Nat):Int):=xb J J;refine(ZT∘Za∘ZH∘Zae) ?_;refine xu (fun s:Nat×Array Int=>[(0,.is (.slice (some ⟨b,0,none⟩) m cap)),(1,.is (.int .i64 a)),(2,.is (.int .i64 e)),(6,.is (.int .i64 s.1)),(900,.own (xr b (uC s.2++rest) tyU))]) (fun s=>s.1<=e+1/\a<s.1/\s.2.size=m/\insOuter lt a e s.1 s.2=insertionSort lt d a e) (fun s=>e+1-s.1) (a+1,d) ⟨by omega,by omega,hm,rfl⟩ ⟨Z,Z,Z,Z,Z,nm⟩ ?_;rintro⟨i,D⟩ ⟨hi,hai,hD,hO⟩;dsimp only at hi hai hD hO |-;by_cases hlt:i<e
 ·rw[insOuter,na hlt] at hO;refine(Zd∘ZI∘Zb∘Zdi∘Zz∘Zae) ?_;refine xu (fun t:Nat×Array Int=>[(0,.is (.slice (some ⟨b,0,none⟩) m cap)),(1,.is (.int .i64 a)),(2,.is (.int .i64 e)),(6,.is (.int .i64 i)),(7,.is (.int .i64 t.1)),(900,.own (xr b (uC t.2++rest) tyU))]) (fun t=>t.1<=i/\t.2.size=m/\insInner lt a t.1 t.2=insInner lt a i D) (fun t=>t.1) (i,D) ⟨nu _,hD,rfl⟩ ⟨Z,Z,Z,Z,Z,Z,nm⟩ ?_;rintro⟨j,zwa⟩ ⟨hj,hE,hI⟩;dsimp only at hj hE hI |-;rcases j with _ | j
  ·rw[insInner] at hI;rw[hI];refine(Zd∘Zdr∘Zm∘ZdI∘Zcr∘ZbM∘Za2∘ZaZ∘Za0∘Zn∘Zaa) ?_;exact yr (x:=(i,D)) (i+1,insInner lt a i D) ⟨by dsimp only;omega,by dsimp only;omega,by dsimp only;rw[<-hI];exact hE,hO⟩ G ⟨Z,Z,Z,Z,Z,trivial⟩
  ·by_cases hja:a<j+1
   ·have hw1:IntKind.i64.wrap (((j+1:Nat):Int)-1)=(j:Int):=xb J J |>.trans J;obtain⟨r1,q1⟩:=pd (rest:=rest) (show j+1<zwa.size by omega) (0+(j+1)*1) rfl;obtain⟨r2,q2⟩:=pd (rest:=rest) (show j<zwa.size by omega) (0+j*1) rfl
    cases hc:lt zwa[j+1]! zwa[j]! with
    | true=>
     rw[insInner,na (by rw[hc];simp;omega)] at hI;have s1:=u5 (rest:=rest) zwa[j]! (show j+1<zwa.size by omega) (0+(j+1)*1) rfl;have b1:=u7 (rest:=rest) (show j+1<zwa.size by omega) (0+(j+1)*1) rfl;have hz:j<(zwa.setIfInBounds (j+1) zwa[j]!).size:=by rw[zsk];omega
     have s2:=u5 (rest:=rest) zwa[j+1]! hz (0+j*1) rfl;have b2:=u7 (rest:=rest) hz (0+j*1) rfl;rw[p7] at s2;refine Zd (h:=?_);refine qp (id:=4) [(200023,[900]),(200028,[900])] kr T ((Zm∘Zd9∘ZbC∘Zp) ?_);refine qy (qk L (q:=900) Z Z Z q1) Z Z ((Zck∘Zp) ?_);refine qy (qk L (q:=900) Z Z Z q2) Z Z (z91 L Z (fun u H hH _=>wk hc hH) ?_);refine(Zc2∘Zbw) ?_;refine qp (id:=6) [(200042,[900]),(200046,[900]),(100047,[900]),(100048,[900])] kr T ((Zm∘Zck∘Zck∘Zp) ?_);refine qy (qk L (q:=900) Z Z Z q2) Z Z (ZV (h:=?_));refine qy (qk L (q:=900) Z Z Z q1) Z Z (Zp (h:=?_));refine xw (yq L (q:=900) Z Z b1 Z s1) Z (Zp (h:=?_));refine xw (yq L (q:=900) Z Z b2 Z s2) Z ((ZbP∘ZC∘Zaj∘ZaT) ?_);exact yr (x:=(j+1,zwa)) (j,swp zwa (j+1) j) ⟨by dsimp only;omega,by dsimp only;rw[vi];exact hE,hI⟩ G ⟨Z,Z,Z,Z,Z,Z,trivial⟩
    | false=>
     rw[insInner,nc (by rw[hc];simp)] at hI;refine Zd (h:=?_);refine qp (id:=4) [(200023,[900]),(200028,[900])] kr T ((Zm∘Zd9∘ZbC∘Zp) ?_);refine qy (qk L (q:=900) Z Z Z q1) Z Z ((Zck∘Zp) ?_);refine qy (qk L (q:=900) Z Z Z q2) Z Z (z91 L Z (fun u H hH _=>wk hc hH) ?_);refine(Za2∘ZaZ∘Za0) ?_;rw[hI];refine(Zn∘Zaa) ?_;exact yr (x:=(i,D)) (i+1,insInner lt a i D) ⟨by dsimp only;omega,by dsimp only;omega,by dsimp only;rw[<-hI];exact hE,hO⟩ G ⟨Z,Z,Z,Z,Z,trivial⟩
   ·rw[insInner,nc (by simp;omega)] at hI;rw[hI];refine(Zd∘Zdr∘Zm∘ZdI∘Zcr∘ZbM∘Za2∘ZaZ∘Za0∘Zn∘Zaa) ?_;exact yr (x:=(i,D)) (i+1,insInner lt a i D) ⟨by dsimp only;omega,by dsimp only;omega,by dsimp only;rw[<-hI];exact hE,hO⟩ G ⟨Z,Z,Z,Z,Z,trivial⟩
 ·rw[insOuter,nc hlt] at hO;subst hO;refine(Zd∘ZI∘Zb∘Zbc∘ZaZ) ?_;exact ki L 900 (r:=xd b _ tyU) Z (fun _ _ h=>h) nq Z Z
def _root_.ZeL(t:Wr Y->A:=by intro h;refine qp (id:=5) [(200044,[900]),(200050,[900])] kr T ?_;exact h.1)(h:Y):A:=t ⟨h⟩
def _root_.ZfH(t:Wr Y->A:=by intro h;refine qp (id:=6) [(200066,[900]),(200072,[900]),(100073,[900]),(100074,[900])] kr T ?_;exact h.1)(h:Y):A:=t ⟨h⟩
def _root_.Zfs(t:Wr Y->A:=by intro h;refine qp (id:=3) [(200027,[900]),(200034,[900])] kr T ?_;exact h.1)(h:Y):A:=t ⟨h⟩
def _root_.ZcX(t:Wr Y->A:=by exact fun h=>(ZbC∘ZbB) h.1)(h:Y):A:=t ⟨h⟩
def _root_.Zeu(t:Wr Y->A:=by exact fun h=>(Zek∘ZH) h.1)(h:Y):A:=t ⟨h⟩
def _root_.Zcu(t:Wr Y->A:=by exact fun h=>(ZcX∘Zp) h.1)(h:Y):A:=t ⟨h⟩
def rev_ret{cap:Nat}(hab:a<e)(he:e<=d.size)(hm:d.size=m)(hm1:m<=100000)(hB:zwe B w)
  (hr:(xd b (uC d++rest) tyU).P B w C) (hC:ZCB C w B):
  jh zwf 273 [.slice (some ⟨b,0,none⟩) m cap,.int .i64 a,.int .i64 e] w B C (xd b (uC (reverseRange d a e)++rest) tyU):=by
 unfold jh;refine yz 900 (xd b (uC d++rest) tyU) Tryz.func273 Z Tryz.ntmps273 (np Z) hB hr hC ?_;rw[xe];have hw0:IntKind.i64.wrap ((e:Int)-1)=((e-1:Nat):Int):=xb J J |>.trans J;refine(ZT∘Za∘Zbb∘Zaj∘Zae) ?_;refine xu (fun s:(Nat×Nat)×Array Int=>[(0,.is (.slice (some ⟨b,0,none⟩) m cap)),(6,.is (.int .i64 s.1.1)),(7,.is (.int .i64 s.1.2)),(900,.own (xr b (uC s.2++rest) tyU))]) (fun s=>s.1.1<=m/\s.1.2<m/\s.2.size=m/\reverseLoop s.1.1 s.1.2 s.2=reverseRange d a e) (fun s=>s.1.2-s.1.1) ((a,e-1),d) ⟨by dsimp only;omega,by dsimp only;omega,hm,rfl⟩ ⟨Z,Z,Z,Z,trivial⟩ ?_;rintro⟨⟨i,j⟩,zwa⟩ ⟨hi,hj,hE,hO⟩;dsimp only at hi hj hE hO |-;by_cases hlt:i<j
 ·rw[reverseLoop,na hlt] at hO;have hw1:IntKind.i64.wrap ((i:Int)+1)=((i+1:Nat):Int):=xb J J;have hw2:IntKind.i64.wrap ((j:Int)-1)=((j-1:Nat):Int):=xb J J |>.trans J;obtain⟨_,qj⟩:=pd (rest:=rest) (show j<zwa.size by omega) (0+(j)*1) rfl;obtain⟨_,qi⟩:=pd (rest:=rest) (show i<zwa.size by omega) (0+(i)*1) rfl;have s1:=u5 (rest:=rest) zwa[j]! (show i<zwa.size by omega) (0+(i)*1) rfl;have b1:=u7 (rest:=rest) (show i<zwa.size by omega) (0+(i)*1) rfl;have hz:j<(zwa.setIfInBounds (i) zwa[j]!).size:=by rw[zsk];omega
  have s2:=u5 (rest:=rest) zwa[i]! hz (0+(j)*1) rfl;have b2:=u7 (rest:=rest) hz (0+(j)*1) rfl;rw[p7] at s2;refine(Zd∘ZaE∘Zbp∘Zbe) ?_;refine qp (id:=3) [(200021,[900]),(200025,[900]),(100026,[900]),(100027,[900])] kr T ((Zm∘Zm∘ZV) ?_);refine qy (qk L (q:=900) Z Z Z qj) Z Z (ZV (h:=?_));refine qy (qk L (q:=900) Z Z Z qi) Z Z (Zp (h:=?_));refine xw (yq L (q:=900) Z Z b1 Z s1) Z (Zp (h:=?_));refine xw (yq L (q:=900) Z Z b2 Z s2) Z ((Zbf∘Zt∘ZH∘Zc∘ZC∘Zaj∘Zce) ?_);exact yr (x:=((i,j),zwa)) ((i+1,j-1),swp zwa i j) ⟨by dsimp only;omega,by dsimp only;omega,by dsimp only;rw[vi];exact hE,hO⟩ G ⟨Z,Z,Z,Z,trivial⟩
 ·rw[reverseLoop,nc hlt] at hO;subst hO;refine(Zd∘ZaE∘Zbc∘ZaZ) ?_;exact ki L 900 (r:=xd b _ tyU) Z (fun _ _ h=>h) nq Z Z
def Tb{cap lo hi first:Nat}(hlo:lo<=hi)(hf:first+hi<=d.size)(hm:d.size=m)(hm1:m<=100000)(hB:zwe B w)
  (hr:(xd b (uC d++rest) tyU).P B w C) (hC:ZCB C w B):
  jh zwf 305 [.slice (some ⟨b,0,none⟩) m cap,.int .i64 lo,.int .i64 hi,.int .i64 first] w B C (xd b (uC (siftDown lt hi first lo d)++rest) tyU):=by
 unfold jh;refine yz 900 (xd b (uC d++rest) tyU) Tryz.func305 Z Tryz.ntmps305 (np Z) hB hr hC ?_;rw[xe];refine(ZT∘Za∘Zae) ?_;refine xu (fun s:Nat×Array Int=>[(0,.is (.slice (some ⟨b,0,none⟩) m cap)),(2,.is (.int .i64 hi)),(3,.is (.int .i64 first)),(8,.is (.int .i64 s.1)),(900,.own (xr b (uC s.2++rest) tyU))]) (fun s=>s.1<=hi/\s.2.size=m/\siftDown lt hi first s.1 s.2=siftDown lt hi first lo d) (fun s=>hi-s.1) (lo,d) ⟨hlo,hm,rfl⟩ ⟨Z,Z,Z,Z,Z,nm⟩ ?_;rintro⟨r,zwa⟩ ⟨hr0,hE,hO⟩;dsimp only at hr0 hE hO |-;have hw1:IntKind.i64.wrap (2*(r:Int))=((2*r:Nat):Int):=xb J J |>.trans J;have hw2:IntKind.i64.wrap (((2*r:Nat):Int)+1)=((2*r+1:Nat):Int):=xb J J;by_cases hend:hi<=2*r+1
 ·rw[siftDown,dif_pos J] at hO;subst hO;refine(ZZ∘Zbq∘Zeu∘Zh∘ZaE∘Zci∘ZeD) ?_;refine oz Z (ZdH (h:=?_));exact ki L 900 (r:=xd b _ tyU) Z (fun _ _ h=>h) nq Z Z
 ·rw[siftDown,dif_neg J] at hO;have hw3:IntKind.i64.wrap (((2*r+1:Nat):Int)+1)=((2*r+2:Nat):Int):=xb J J;have hw4:IntKind.i64.wrap ((first:Int)+((2*r+1:Nat):Int))=((first+(2*r+1):Nat):Int):=xb J J;have hw5:IntKind.i64.wrap (((first+(2*r+1):Nat):Int)+1)=((first+(2*r+2):Nat):Int):=xb J J;have hw6:IntKind.i64.wrap ((first:Int)+(r:Int))=((first+r:Nat):Int):=xb J J;have hw7:IntKind.i64.wrap ((first:Int)+((2*r+2:Nat):Int))=((first+(2*r+2):Nat):Int):=xb J J;obtain⟨_,qr⟩:=pd (rest:=rest) (show first+r<zwa.size by omega) (0+(first+r)*1) rfl;by_cases h2:2*r+2<hi
  ·obtain⟨_,q1⟩:=pd (rest:=rest) (show first+(2*r+1)<zwa.size by omega) (0+(first+(2*r+1))*1) rfl;obtain⟨_,q2⟩:=pd (rest:=rest) (show first+(2*r+2)<zwa.size by omega) (0+(first+(2*r+2))*1) rfl;have e2:first+(2*r+1)+1=first+(2*r+2):=J
   rw[e2] at hO
   cases hc:lt zwa[first+(2*r+1)]! zwa[first+(2*r+2)]! with
   | true=>
    rw[na (by rw[hc];simp;omega)] at hO;have qc:=q2
    cases hc2:lt zwa[first+r]! zwa[first+(2*r+2)]! with
    | false=>
     rw[hc2] at hO;simp only[Bool.not_false,if_true] at hO;subst hO;refine(ZZ∘Zbq∘Zeu∘Zh∘ZaE∘Zav∘ZK∘Zfs∘Zl∘ZbB∘Zl∘Zdf∘Zm∘Zm∘ZbB∘Zp) ?_;refine qy (qk L (q:=900) Z Z Z q1) Z Z ((ZcX∘ZbB∘Zp) ?_);refine qy (qk L (q:=900) Z Z Z q2) Z Z (z91 L Z (fun u H hH _=>wk hc hH) ?_);refine(Zc2∘Zt∘ZH∘Zh∘ZeL∘Zcu) ?_;refine qy (qk L (q:=900) Z Z Z qr) Z Z (Zcu (h:=?_));refine qy (qk L (q:=900) Z Z Z qc) Z Z (z91 L Z (fun u H hH _=>wk hc2 hH) ?_);refine(ZaJ∘ZcI) ?_;exact j9 L 900 (r:=xd b _ tyU) Z (fun _ _ h=>h) nq Z Z
    | true=>
     rw[hc2] at hO;simp only[Bool.not_true,ztj,if_false] at hO;rw[dif_pos J] at hO;obtain⟨_,qj⟩:=pd (rest:=rest) (show first+(2*r+2)<zwa.size by omega) (0+(first+(2*r+2))*1) rfl;obtain⟨_,qi⟩:=pd (rest:=rest) (show first+r<zwa.size by omega) (0+(first+r)*1) rfl;have s1:=u5 (rest:=rest) zwa[first+(2*r+2)]! (show first+r<zwa.size by omega) (0+(first+r)*1) rfl;have b1:=u7 (rest:=rest) (show first+r<zwa.size by omega) (0+(first+r)*1) rfl;have hz:first+(2*r+2)<(zwa.setIfInBounds (first+r) zwa[first+(2*r+2)]!).size:=by rw[zsk];omega
     have s2:=u5 (rest:=rest) zwa[first+r]! hz (0+(first+(2*r+2))*1) rfl;have b2:=u7 (rest:=rest) hz (0+(first+(2*r+2))*1) rfl;rw[p7] at s2;refine(ZZ∘Zbq∘Zeu∘Zh∘ZaE∘Zav∘ZK∘Zfs∘Zl∘ZbB∘Zl∘Zdf∘Zm∘Zm∘ZbB∘Zp) ?_;refine qy (qk L (q:=900) Z Z Z q1) Z Z ((ZcX∘ZbB∘Zp) ?_);refine qy (qk L (q:=900) Z Z Z q2) Z Z (z91 L Z (fun u H hH _=>wk hc hH) ?_);refine(Zc2∘Zt∘ZH∘Zh∘ZeL∘Zcu) ?_;refine qy (qk L (q:=900) Z Z Z qr) Z Z (Zcu (h:=?_));refine qy (qk L (q:=900) Z Z Z qc) Z Z (z91 L Z (fun u H hH _=>wk hc2 hH) ?_);refine(ZaJ∘Zbv∘Zbt∘ZfH∘ZcX∘ZcX∘Zcu) ?_;refine qy (qk L (q:=900) Z Z Z qj) Z Z (Zcu (h:=?_));refine qy (qk L (q:=900) Z Z Z qi) Z Z (Zp (h:=?_));refine xw (yq L (q:=900) Z Z b1 Z s1) Z (Zp (h:=?_));refine xw (yq L (q:=900) Z Z b2 Z s2) Z ((ZaW∘Z6∘Zce) ?_);exact yr (x:=(r,zwa)) (2*r+2,swp zwa (first+r) (first+(2*r+2))) ⟨by dsimp only;omega,by dsimp only;rw[vi];exact hE,hO⟩ G ⟨Z,Z,Z,Z,Z,trivial⟩
   | false=>
    rw[nc (by rw[hc];simp)] at hO;have qc:=q1
    cases hc2:lt zwa[first+r]! zwa[first+(2*r+1)]! with
    | false=>
     rw[hc2] at hO;simp only[Bool.not_false,if_true] at hO;subst hO;refine(ZZ∘Zbq∘Zeu∘Zh∘ZaE∘Zav∘ZK∘Zfs∘Zl∘ZbB∘Zl∘Zdf∘Zm∘Zm∘ZbB∘Zp) ?_;refine qy (qk L (q:=900) Z Z Z q1) Z Z ((ZcX∘ZbB∘Zp) ?_);refine qy (qk L (q:=900) Z Z Z q2) Z Z (z91 L Z (fun u H hH _=>wk hc hH) ?_);refine(Za2∘Zcy∘Zd∘ZeL∘Zcu) ?_;refine qy (qk L (q:=900) Z Z Z qr) Z Z (Zcu (h:=?_));refine qy (qk L (q:=900) Z Z Z qc) Z Z (z91 L Z (fun u H hH _=>wk hc2 hH) ?_);refine(ZaJ∘ZcI) ?_;exact j9 L 900 (r:=xd b _ tyU) Z (fun _ _ h=>h) nq Z Z
    | true=>
     rw[hc2] at hO;simp only[Bool.not_true,ztj,if_false] at hO;obtain⟨_,qj⟩:=pd (rest:=rest) (show first+(2*r+1)<zwa.size by omega) (0+(first+(2*r+1))*1) rfl;obtain⟨_,qi⟩:=pd (rest:=rest) (show first+r<zwa.size by omega) (0+(first+r)*1) rfl;have s1:=u5 (rest:=rest) zwa[first+(2*r+1)]! (show first+r<zwa.size by omega) (0+(first+r)*1) rfl;have b1:=u7 (rest:=rest) (show first+r<zwa.size by omega) (0+(first+r)*1) rfl;have hz:first+(2*r+1)<(zwa.setIfInBounds (first+r) zwa[first+(2*r+1)]!).size:=by rw[zsk];omega
     have s2:=u5 (rest:=rest) zwa[first+r]! hz (0+(first+(2*r+1))*1) rfl;have b2:=u7 (rest:=rest) hz (0+(first+(2*r+1))*1) rfl;rw[p7] at s2;refine(ZZ∘Zbq∘Zeu∘Zh∘ZaE∘Zav∘ZK∘Zfs∘Zl∘ZbB∘Zl∘Zdf∘Zm∘Zm∘ZbB∘Zp) ?_;refine qy (qk L (q:=900) Z Z Z q1) Z Z ((ZcX∘ZbB∘Zp) ?_);refine qy (qk L (q:=900) Z Z Z q2) Z Z (z91 L Z (fun u H hH _=>wk hc hH) ?_);refine(Za2∘Zcy∘Zd∘ZeL∘Zcu) ?_;refine qy (qk L (q:=900) Z Z Z qr) Z Z (Zcu (h:=?_));refine qy (qk L (q:=900) Z Z Z qc) Z Z (z91 L Z (fun u H hH _=>wk hc2 hH) ?_);refine(ZaJ∘Zbv∘Zbt∘ZfH∘ZcX∘ZcX∘Zcu) ?_;refine qy (qk L (q:=900) Z Z Z qj) Z Z (Zcu (h:=?_));refine qy (qk L (q:=900) Z Z Z qi) Z Z (Zp (h:=?_));refine xw (yq L (q:=900) Z Z b1 Z s1) Z (Zp (h:=?_));refine xw (yq L (q:=900) Z Z b2 Z s2) Z ((ZaW∘Z6∘Zce) ?_);exact yr (x:=(r,zwa)) (2*r+1,swp zwa (first+r) (first+(2*r+1))) ⟨by dsimp only;omega,by dsimp only;rw[vi];exact hE,hO⟩ G ⟨Z,Z,Z,Z,Z,trivial⟩
  ·rw[nc (by simp;omega)] at hO;obtain⟨_,qc⟩:=pd (rest:=rest) (show first+(2*r+1)<zwa.size by omega) (0+(first+(2*r+1))*1) rfl
   cases hc2:lt zwa[first+r]! zwa[first+(2*r+1)]! with
   | false=>
    rw[hc2] at hO;simp only[Bool.not_false,if_true] at hO;subst hO;refine(ZZ∘Zbq∘Zeu∘Zh∘ZaE∘Zav∘ZK∘ZcQ∘Zl∘ZbB∘Zl∘Zd8∘Zcr∘ZeX∘ZbM∘Za2∘Zcy∘Zd∘ZeL∘Zcu) ?_;refine qy (qk L (q:=900) Z Z Z qr) Z Z (Zcu (h:=?_));refine qy (qk L (q:=900) Z Z Z qc) Z Z (z91 L Z (fun u H hH _=>wk hc2 hH) ?_);refine(ZaJ∘ZcI) ?_;exact j9 L 900 (r:=xd b _ tyU) Z (fun _ _ h=>h) nq Z Z
   | true=>
    rw[hc2] at hO;simp only[Bool.not_true,ztj,if_false] at hO;obtain⟨_,qj⟩:=pd (rest:=rest) (show first+(2*r+1)<zwa.size by omega) (0+(first+(2*r+1))*1) rfl;obtain⟨_,qi⟩:=pd (rest:=rest) (show first+r<zwa.size by omega) (0+(first+r)*1) rfl;have s1:=u5 (rest:=rest) zwa[first+(2*r+1)]! (show first+r<zwa.size by omega) (0+(first+r)*1) rfl;have b1:=u7 (rest:=rest) (show first+r<zwa.size by omega) (0+(first+r)*1) rfl;have hz:first+(2*r+1)<(zwa.setIfInBounds (first+r) zwa[first+(2*r+1)]!).size:=by rw[zsk];omega
    have s2:=u5 (rest:=rest) zwa[first+r]! hz (0+(first+(2*r+1))*1) rfl;have b2:=u7 (rest:=rest) hz (0+(first+(2*r+1))*1) rfl;rw[p7] at s2;refine(ZZ∘Zbq∘Zeu∘Zh∘ZaE∘Zav∘ZK∘ZcQ∘Zl∘ZbB∘Zl∘Zd8∘Zcr∘ZeX∘ZbM∘Za2∘Zcy∘Zd∘ZeL∘Zcu) ?_;refine qy (qk L (q:=900) Z Z Z qr) Z Z (Zcu (h:=?_));refine qy (qk L (q:=900) Z Z Z qc) Z Z (z91 L Z (fun u H hH _=>wk hc2 hH) ?_);refine(ZaJ∘Zbv∘Zbt∘ZfH∘ZcX∘ZcX∘Zcu) ?_;refine qy (qk L (q:=900) Z Z Z qj) Z Z (Zcu (h:=?_));refine qy (qk L (q:=900) Z Z Z qi) Z Z (Zp (h:=?_));refine xw (yq L (q:=900) Z Z b1 Z s1) Z (Zp (h:=?_));refine xw (yq L (q:=900) Z Z b2 Z s2) Z ((ZaW∘Z6∘Zce) ?_);exact yr (x:=(r,zwa)) (2*r+1,swp zwa (first+r) (first+(2*r+1))) ⟨by dsimp only;omega,by dsimp only;rw[vi];exact hE,hO⟩ G ⟨Z,Z,Z,Z,Z,trivial⟩
def Nw(hi first:Nat):∀ (n root:Nat) (d:Array Int),hi-root<=n->(siftDown lt hi first root d).size=d.size:=by
 intro n
 induction n with
 | zero=>
  intro root d h;rw[siftDown,dif_pos J]
 | succ n ih=>
  intro root d h;rw[siftDown];split
  ·rfl
  ·split
   ·split
    ·rfl
    ·split
     ·rw[ih _ _ J,vi]
     ·rfl
   ·split
    ·rfl
    ·rw[ih _ _ J,vi]
def zgz{cap:Nat}(hab:a<e)(he:e<=d.size)(hm:d.size=m)(hm1:m<=100000)(hB:zwe B w)
  (hr:(xd b (uC d++rest) tyU).P B w C) (hC:ZCB C w B):
  jh zwf 270 [.slice (some ⟨b,0,none⟩) m cap,.int .i64 a,.int .i64 e] w B C (xd b (uC (heapSort lt d a e)++rest) tyU):=by
 unfold jh;refine yz 900 (xd b (uC d++rest) tyU) Tryz.func270 Z Tryz.ntmps270 (np Z) hB hr hC ?_;rw[xe];have hw0:IntKind.i64.wrap ((e:Int)-(a:Int))=((e-a:Nat):Int):=xb J J |>.trans J;have hw1:IntKind.i64.wrap (((e-a:Nat):Int)-1)=((e-a-1:Nat):Int):=xb J J |>.trans J
 have et:((e-a-1:Nat):Int).tdiv 2=(((e-a-1)/2+1:Nat):Int)-1:=by
  rw[zu8 J];omega
 have hw2:IntKind.i64.wrap (((e-a-1:Nat):Int).tdiv 2)=(((e-a-1)/2+1:Nat):Int)-1:=by rw[et];exact xb J J
 refine(ZT∘Za∘Zad∘Ze∘ZaE∘Zaj∘Zh∘Zz∘Zaj∘Zdn∘Zae) ?_;refine xu (fun s:Nat×Array Int=>[(0,.is (.slice (some ⟨b,0,none⟩) m cap)),(6,.is (.int .i64 a)),(7,.is (.int .i64 0)),(8,.is (.int .i64 (e-a:Nat))),(9,.is (.int .i64 ((s.1:Int)-1))),(900,.own (xr b (uC s.2++rest) tyU))]) (fun s=>s.1<=(e-a-1)/2+1/\s.2.size=m/\heapBuild lt (e-a) a s.1 s.2=heapBuild lt (e-a) a ((e-a-1)/2+1) d) (fun s=>s.1) ((e-a-1)/2+1,d) ⟨nu _,hm,rfl⟩ ⟨Z,Z,Z,Z,Z,Z,nm⟩ ?_;rintro⟨k,zwa⟩ ⟨hk,hE,hO⟩;dsimp only at hk hE hO |-;rcases k with _ | k
 ·have e9:(((0:Nat):Int)-1)= -1:=rfl;rw[e9];refine(ZcL∘Zav∘Zao∘Zdz) ?_;rw[heapBuild] at hO;have e10:((e-a-1:Nat):Int)=((e-a:Nat):Int)-1:=J;rw[e10] at hw1;refine(Z6∘Zaj∘Zae) ?_;refine xu (fun s:Nat×Array Int=>[(0,.is (.slice (some ⟨b,0,none⟩) m cap)),(6,.is (.int .i64 a)),(7,.is (.int .i64 0)),(10,.is (.int .i64 ((s.1:Int)-1))),(900,.own (xr b (uC s.2++rest) tyU))]) (fun s=>s.1<=e-a/\s.2.size=m/\heapPop lt a s.1 s.2=heapPop lt a (e-a) zwa) (fun s=>s.1) (e-a,zwa) ⟨nu _,hE,rfl⟩ ⟨Z,Z,Z,Z,Z,nm⟩ ?_;rintro⟨j,zwc⟩ ⟨hj,hG,hP⟩;dsimp only at hj hG hP |-;rcases j with _ | j
  ·rw[e9];rw[heapPop] at hP;have:zwc=heapSort lt d a e:=by unfold heapSort;rw[<-hO,hP]
   subst this;refine(Zd∘Za5∘Zav∘Zao∘ZaZ) ?_;exact ki L 900 (r:=xd b _ tyU) Z (fun _ _ h=>h) nq Z Z
  ·have e8:(((j+1:Nat):Int)-1)=(j:Int):=J;rw[heapPop] at hP;rw[e8];have hw3:IntKind.i64.wrap ((a:Int)+(j:Int))=((a+j:Nat):Int):=xb J J;have hw4:IntKind.i64.wrap ((j:Int)-1)=(j:Int)-1:=xb J J;have hsz:=vi zwc a (a+j);have hss:=Nw j a j 0 (swp zwc a (a+j)) J;obtain⟨_,qj⟩:=pd (rest:=rest) (show a+j<zwc.size by omega) (0+(a+j)*1) rfl;obtain⟨_,qi⟩:=pd (rest:=rest) (show a<zwc.size by omega) (0+(a)*1) rfl;have s1:=u5 (rest:=rest) zwc[a+j]! (show a<zwc.size by omega) (0+(a)*1) rfl;have b1:=u7 (rest:=rest) (show a<zwc.size by omega) (0+(a)*1) rfl;have hz:a+j<(zwc.setIfInBounds (a) zwc[a+j]!).size:=by rw[zsk];omega
   have s2:=u5 (rest:=rest) zwc[a]! hz (0+(a+j)*1) rfl;have b2:=u7 (rest:=rest) hz (0+(a+j)*1) rfl;rw[p7] at s2;refine(Zd∘Za5∘Zci∘Zeh) ?_;refine qp (id:=10) [(200044,[900]),(200048,[900]),(100049,[900]),(100050,[900])] kr T ((Zm∘ZcX∘Zcu) ?_);refine qy (qk L (q:=900) Z Z Z qj) Z Z (ZV (h:=?_));refine qy (qk L (q:=900) Z Z Z qi) Z Z (Zp (h:=?_));refine xw (yq L (q:=900) Z Z b1 Z s1) Z (Zp (h:=?_));refine xw (yq L (q:=900) Z Z b2 Z s2) Z ((ZaW∘Zay∘Zbk) ?_);refine qf (xg L 900 (xd b (uC (siftDown lt j a 0 (swp zwc a (a+j)))++rest) tyU) (r:=xd b (uC (swp zwc a (a+j))++rest) tyU) Z Z Z Z Z (fun u H C hH _ hr hC=>Tb (mb _) J J hm1 hH hr hC)) ((Zaz∘Zai∘Zaj∘ZaT) ?_);exact yr (x:=(j+1,zwc)) (j,siftDown lt j a 0 (swp zwc a (a+j))) ⟨by dsimp only;omega,by dsimp only;omega,hP⟩ G ⟨Z,Z,Z,Z,Z,trivial⟩
 ·have e8:(((k+1:Nat):Int)-1)=(k:Int):=J;rw[heapBuild] at hO;rw[e8];have hw4:IntKind.i64.wrap ((k:Int)-1)=(k:Int)-1:=xb J J;have hss:=Nw (e-a) a (e-a) k zwa J;refine(ZcL∘Zci∘Zbw∘Z5∘Zbk) ?_;refine qf (xg L 900 (xd b (uC (siftDown lt (e-a) a k zwa)++rest) tyU) (r:=xd b (uC zwa++rest) tyU) Z Z Z Z Z (fun u H C hH _ hr hC=>Tb J J J hm1 hH hr hC)) ((Zaz∘ZC∘Zaj∘ZaT) ?_);exact yr (x:=(k+1,zwa)) (k,siftDown lt (e-a) a k zwa) ⟨by dsimp only;omega,by dsimp only;omega,hO⟩ G ⟨Z,Z,Z,Z,Z,Z,trivial⟩
def _root_.Zbg(t:Wr Y->A:=by intro h;refine zh (id:=20) ?_;exact h.1)(h:Y):A:=t ⟨h⟩
def _root_.Zc5(t:Wr Y->A:=by intro h;refine zh (id:=19) ?_;exact h.1)(h:Y):A:=t ⟨h⟩
def _root_.ZcS(t:Wr Y->A:=by intro h;refine zh (id:=22) ?_;exact h.1)(h:Y):A:=t ⟨h⟩
def _root_.Zft(t:Wr Y->A:=by intro h;refine qp (id:=5) [(200053,[900]),(200057,[900])] kr T ?_;exact h.1)(h:Y):A:=t ⟨h⟩
def _root_.Za4(t:Wr Y->A:=by exact fun h=>(ZH∘ZaT) h.1)(h:Y):A:=t ⟨h⟩
def lf(h:¬ (i<=j/\p d[i]! =true)):scanUp p d j i=i:=by
 rw[scanUp,nc];simpa using h
def Ec(h1:i<=j)(h2:p d[i]! =true):scanUp p d j i=scanUp p d j (i+1):=by
 rw[scanUp,na (by simp [h1,h2])]
def gl(h:¬ (i<=j/\p d[j]! =true)):scanDown p d i j=j:=by
 cases j with
 | zero=>rfl
 | succ j=>rw[scanDown,nc];simpa using h
def r8(h1:i<=j+1)(h2:p d[j+1]! =true):scanDown p d i (j+1)=scanDown p d i j:=by
 rw[scanDown,na (by simp [h1,h2])]
def bk{cap p:Nat}(hap:a<=p)(hpe:p<e)(he:e<=d.size)(hm:d.size=m)(hm1:m<=100000)(hB:zwe B w)
  (hr:(xd b (uC d++rest) tyU).P B w C) (hC:ZCB C w B):
  RetX zwf 277 [.slice (some ⟨b,0,none⟩) m cap,.int .i64 a,.int .i64 e,.int .i64 p] w B C (xd b (uC (Go.Sort.partition lt d a e p).2.2++rest) tyU) (.tuple #[.int .i64 (Go.Sort.partition lt d a e p).1,.bool (Go.Sort.partition lt d a e p).2.1]):=by
 unfold RetX;refine yz 900 (xd b (uC d++rest) tyU) Tryz.func277 Z Tryz.ntmps277 (np Z) hB hr hC ?_;rw[xe];obtain⟨_,qj⟩:=pd (rest:=rest) (show p<d.size by omega) (0+(p)*1) rfl;obtain⟨_,qi⟩:=pd (rest:=rest) (show a<d.size by omega) (0+(a)*1) rfl;have s1:=u5 (rest:=rest) d[p]! (show a<d.size by omega) (0+(a)*1) rfl;have b1:=u7 (rest:=rest) (show a<d.size by omega) (0+(a)*1) rfl;have hz:p<(d.setIfInBounds (a) d[p]!).size:=by rw[zsk];omega
 have s2:=u5 (rest:=rest) d[a]! hz (0+(p)*1) rfl;have b2:=u7 (rest:=rest) hz (0+(p)*1) rfl;rw[p7] at s2;have hw1:IntKind.i64.wrap ((a:Int)+1)=((a+1:Nat):Int):=xb J J;obtain⟨e1,rfl⟩:∃ e1,e=e1+1:=⟨e-1,by omega⟩
 have hw2:IntKind.i64.wrap (((e1+1:Nat):Int)-1)=(e1:Int):=xb J J |>.trans J;obtain⟨R,hR⟩:∃ R,R=Go.Sort.partition lt d a (e1+1) p:=⟨_,rfl⟩
 rw[<-hR];have hR':=hR;unfold Go.Sort.partition at hR';have hDs:=vi d a p;refine(ZT∘ZaI) ?_;refine qp (id:=1) [(200019,[900]),(200023,[900]),(100024,[900]),(100025,[900])] kr T ((Zm∘Zm∘ZV) ?_);refine qy (qk L (q:=900) Z Z Z qj) Z Z (ZV (h:=?_));refine qy (qk L (q:=900) Z Z Z qi) Z Z (Zp (h:=?_));refine xw (yq L (q:=900) Z Z b1 Z s1) Z (Zp (h:=?_));refine xw (yq L (q:=900) Z Z b2 Z s2) Z ((Zbf∘Zn∘ZH∘Za∘Zaj∘ZaI∘Za7) ?_);generalize swp d a p=D at *;rw[zvr] at hR';dsimp only at hR';refine Ap (dv (fun i:Nat=>[(0,.is (.slice (some ⟨b,0,none⟩) m cap)),(1,.is (.int .i64 a)),(10,.is (.int .i64 i)),(11,.is (.int .i64 e1)),(900,.own (xr b (uC D++rest) tyU))]) (fun i=>(a+1)<=i/\i<=max (a+1) (e1+1)/\i=scanUp (fun x=>lt x D[a]!) D e1 (a+1)) (fun _=>[]) ?_) ?_
 rotate_left
 ·refine xu (fun i:Nat=>[(0,.is (.slice (some ⟨b,0,none⟩) m cap)),(1,.is (.int .i64 a)),(10,.is (.int .i64 i)),(11,.is (.int .i64 e1)),(900,.own (xr b (uC D++rest) tyU))]) (fun i=>(a+1)<=i/\i<=max (a+1) (e1+1)/\scanUp (fun x=>lt x D[a]!) D e1 i=scanUp (fun x=>lt x D[a]!) D e1 (a+1)) (fun i=>e1+1-i) (a+1) ⟨nu _,by omega,rfl⟩ ⟨Z,Z,Z,Z,Z,nm⟩ ?_;rintro i ⟨hi1,hi2,hi3⟩;by_cases hle:i<=e1
  ·obtain⟨_,qx⟩:=pd (rest:=rest) (show i<D.size by omega) (0+(i)*1) rfl;obtain⟨_,qa⟩:=pd (rest:=rest) (show a<D.size by omega) (0+(a)*1) rfl
   cases hc:lt D[i]! D[a]! with
   | true=>
    have hw:IntKind.i64.wrap ((i:Int)+1)=((i+1:Nat):Int):=xb J J;refine Zd (h:=?_);refine qp (id:=3) [(200037,[900]),(200041,[900])] kr T ((Zm∘Zd3∘ZbC∘Zp) ?_);refine qy (qk L (q:=900) Z Z Z qx) Z Z (ZV (h:=?_));refine qy (qk L (q:=900) Z Z Z qa) Z Z (z91 L Z (fun u H hH _=>wk hc hH) ?_);refine(Zc2∘Zcy∘Za7∘Zt∘Za4∘ZaC) ?_;exact yr (x:=i) (i+1) ⟨by omega,by omega,by rw[<-hi3];exact(Ec hle (by simp [hc])).symm⟩ J ⟨Z,Z,Z,Z,Z,nm⟩
   | false=>
    refine Zd (h:=?_);refine qp (id:=3) [(200037,[900]),(200041,[900])] kr T ((Zm∘Zd3∘ZbC∘Zp) ?_);refine qy (qk L (q:=900) Z Z Z qx) Z Z (ZV (h:=?_));refine qy (qk L (q:=900) Z Z Z qa) Z Z (z91 L Z (fun u H hH _=>wk hc hH) ?_);refine(Za2∘ZaZ) ?_;exact jz i nq ⟨hi1,hi2,by rw[<-hi3];exact(lf (by rintro⟨_,h⟩;simp [hc] at h)).symm⟩ rfl ⟨rfl,rfl,rfl,rfl,rfl,nm⟩
  ·refine(Zd∘ZcQ∘Zm∘Zet∘Zcr∘ZcC∘Za2∘ZaZ) ?_;exact jz i nq ⟨hi1,hi2,by rw[<-hi3];exact(lf (by rintro⟨h,_⟩;exact hle h)).symm⟩ rfl ⟨rfl,rfl,rfl,rfl,rfl,nm⟩
 rintro I ⟨hI1,hI2,hI3⟩;refine zj (qq ?_);refine Ap (dv (fun i:Nat=>[(0,.is (.slice (some ⟨b,0,none⟩) m cap)),(1,.is (.int .i64 a)),(10,.is (.int .i64 I)),(11,.is (.int .i64 i)),(900,.own (xr b (uC D++rest) tyU))]) (fun i=>i<=e1/\min (I-1) e1<=i/\i=scanDown (fun x=>!lt x D[a]!) D I e1) (fun _=>[]) ?_) ?_
 rotate_left
 ·refine xu (fun i:Nat=>[(0,.is (.slice (some ⟨b,0,none⟩) m cap)),(1,.is (.int .i64 a)),(10,.is (.int .i64 I)),(11,.is (.int .i64 i)),(900,.own (xr b (uC D++rest) tyU))]) (fun i=>i<=e1/\min (I-1) e1<=i/\scanDown (fun x=>!lt x D[a]!) D I i=scanDown (fun x=>!lt x D[a]!) D I e1) (fun i=>i) e1 ⟨nu _,by omega,rfl⟩ ⟨Z,Z,Z,Z,Z,nm⟩ ?_;rintro i ⟨hi1,hi2,hi3⟩;by_cases hle:I<=i
  ·obtain⟨_,qx⟩:=pd (rest:=rest) (show i<D.size by omega) (0+(i)*1) rfl;obtain⟨_,qa⟩:=pd (rest:=rest) (show a<D.size by omega) (0+(a)*1) rfl
   cases hc:lt D[i]! D[a]! with
   | false=>
    obtain⟨i,rfl⟩:∃ k,i=k+1:=⟨i-1,by omega⟩
    have hw:IntKind.i64.wrap (((i+1:Nat):Int)-1)=(i:Int):=xb J J |>.trans J;refine(Zd∘Zft∘Zm∘Zd3∘ZbC∘Zp) ?_;refine qy (qk L (q:=900) Z Z Z qx) Z Z (ZV (h:=?_));refine qy (qk L (q:=900) Z Z Z qa) Z Z (z91 L Z (fun u H hH _=>wk hc hH) ?_);refine(ZaJ∘Zc2∘Zcy∘Za7∘ZD∘Zaj∘Zce) ?_;exact yr (x:=i+1) i ⟨by omega,by omega,by rw[<-hi3];exact(r8 hle (by simp [hc])).symm⟩ J ⟨Z,Z,Z,Z,Z,nm⟩
   | true=>
    refine(Zd∘Zft∘Zm∘Zd3∘ZbC∘Zp) ?_;refine qy (qk L (q:=900) Z Z Z qx) Z Z (ZV (h:=?_));refine qy (qk L (q:=900) Z Z Z qa) Z Z (z91 L Z (fun u H hH _=>wk hc hH) ?_);refine(ZaJ∘Za2∘ZaZ) ?_;exact jz i nq ⟨hi1,hi2,by rw[<-hi3];exact(gl (by rintro⟨_,h⟩;simp [hc] at h)).symm⟩ rfl ⟨rfl,rfl,rfl,rfl,rfl,nm⟩
  ·refine(Zd∘Ze7∘Zm∘Zet∘Zcr∘ZbM∘Za2∘ZaZ) ?_;exact jz i nq ⟨hi1,hi2,by rw[<-hi3];exact(gl (by rintro⟨h,_⟩;exact hle h)).symm⟩ rfl ⟨rfl,rfl,rfl,rfl,rfl,nm⟩
 rintro zv8 ⟨hJ1,hJ2,hJ3⟩;rw[<-hI3,<-hJ3] at hR';by_cases hIJ:zv8<I
 ·rw[na hIJ] at hR';subst hR';obtain⟨_,qj⟩:=pd (rest:=rest) (show a<D.size by omega) (0+(a)*1) rfl;obtain⟨_,qi⟩:=pd (rest:=rest) (show zv8<D.size by omega) (0+(zv8)*1) rfl;have s1:=u5 (rest:=rest) D[a]! (show zv8<D.size by omega) (0+(zv8)*1) rfl;have b1:=u7 (rest:=rest) (show zv8<D.size by omega) (0+(zv8)*1) rfl;have hz:a<(D.setIfInBounds (zv8) D[a]!).size:=by rw[zsk];omega
  have s2:=u5 (rest:=rest) D[zv8]! hz (0+(a)*1) rfl;have b2:=u7 (rest:=rest) hz (0+(a)*1) rfl;rw[p7] at s2;refine(Zd∘Z7∘Zb∘ZN∘Zr) ?_;refine qp (id:=8) [(200073,[900]),(200077,[900]),(100078,[900]),(100079,[900])] kr T ((Zm∘Zm∘ZV) ?_);refine qy (qk L (q:=900) Z Z Z qj) Z Z (ZV (h:=?_));refine qy (qk L (q:=900) Z Z Z qi) Z Z (Zp (h:=?_));refine xw (yq L (q:=900) Z Z b1 Z s1) Z (Zp (h:=?_));refine xw (yq L (q:=900) Z Z b2 Z s2) Z ((Zbf∘Zai∘Z4) ?_);exact kj L 900 (r:=xd b _ tyU) (rs:=[.tmp 8,.tmp 9]) Z (fun _ _ h=>h) nq Z Z (fun _=>rfl)
 ·rw[nc hIJ] at hR';have hw3:IntKind.i64.wrap ((I:Int)+1)=((I+1:Nat):Int):=xb J J;have hw4:IntKind.i64.wrap ((zv8:Int)-1)=((zv8-1:Nat):Int):=xb J J |>.trans J;obtain⟨_,qj⟩:=pd (rest:=rest) (show zv8<D.size by omega) (0+(zv8)*1) rfl;obtain⟨_,qi⟩:=pd (rest:=rest) (show I<D.size by omega) (0+(I)*1) rfl;have s1:=u5 (rest:=rest) D[zv8]! (show I<D.size by omega) (0+(I)*1) rfl;have b1:=u7 (rest:=rest) (show I<D.size by omega) (0+(I)*1) rfl;have hz:zv8<(D.setIfInBounds (I) D[zv8]!).size:=by rw[zsk];omega
  have s2:=u5 (rest:=rest) D[I]! hz (0+(zv8)*1) rfl;have b2:=u7 (rest:=rest) hz (0+(zv8)*1) rfl;rw[p7] at s2;have hEs:=vi D I zv8;refine(Zd∘Z7∘Zb∘ZG∘Zs) ?_;refine qp (id:=10) [(200088,[900]),(200092,[900]),(100093,[900]),(100094,[900])] kr T ((Zm∘Zm∘ZV) ?_);refine qy (qk L (q:=900) Z Z Z qj) Z Z (ZV (h:=?_));refine qy (qk L (q:=900) Z Z Z qi) Z Z (Zp (h:=?_));refine xw (yq L (q:=900) Z Z b1 Z s1) Z (Zp (h:=?_));refine xw (yq L (q:=900) Z Z b2 Z s2) Z ((Zbf∘ZbL∘ZH∘Ze∘ZQ∘Za∘Zaj∘Ze∘Za7) ?_);generalize swp D I zv8=zwa at *;obtain⟨X,hX⟩:∃ X,X=partLoop lt a (I+1) (zv8-1) zwa:=⟨_,rfl⟩
  rw[<-hX] at hR';refine Ap (dv (fun s:Nat×Array Int=>[(0,.is (.slice (some ⟨b,0,none⟩) m cap)),(1,.is (.int .i64 a)),(11,.is (.int .i64 s.1)),(900,.own (xr b (uC s.2++rest) tyU))]) (fun s=>s.2.size=m/\a<=s.1/\s.1<=e1/\s=X) (fun _=>[]) ?_) ?_
  rotate_left
  ·refine xu (fun s:(Nat×Nat)×Array Int=>[(0,.is (.slice (some ⟨b,0,none⟩) m cap)),(1,.is (.int .i64 a)),(10,.is (.int .i64 s.1.1)),(11,.is (.int .i64 s.1.2)),(900,.own (xr b (uC s.2++rest) tyU))]) (fun s=>s.2.size=m/\a+1<=s.1.1/\s.1.1<=e1+1/\a<=s.1.2/\s.1.2<=e1/\partLoop lt a s.1.1 s.1.2 s.2=X) (fun s=>s.1.2+1-s.1.1) ((I+1,zv8-1),zwa) ⟨by dsimp only;omega,by dsimp only;omega,by dsimp only;omega,by dsimp only;omega,by dsimp only;omega,hX.symm⟩ ⟨Z,Z,Z,Z,Z,trivial⟩ ?_;rintro⟨⟨i0,j0⟩,zwc⟩ ⟨hG,hi1,hi2,hj1,hj2,hL⟩;dsimp only at hG hi1 hi2 hj1 hj2 hL |-;rw[partLoop] at hL;clear hX hR' hEs hIJ hI3 hJ3;refine qq (zj (qq ?_));refine Ap (dv (fun i:Nat=>[(0,.is (.slice (some ⟨b,0,none⟩) m cap)),(1,.is (.int .i64 a)),(10,.is (.int .i64 i)),(11,.is (.int .i64 j0)),(900,.own (xr b (uC zwc++rest) tyU))]) (fun i=>i0<=i/\i<=max i0 (j0+1)/\i=scanUp (fun x=>lt x zwc[a]!) zwc j0 i0) (fun _=>[]) ?_) ?_
   rotate_left
   ·refine xu (fun i:Nat=>[(0,.is (.slice (some ⟨b,0,none⟩) m cap)),(1,.is (.int .i64 a)),(10,.is (.int .i64 i)),(11,.is (.int .i64 j0)),(900,.own (xr b (uC zwc++rest) tyU))]) (fun i=>i0<=i/\i<=max i0 (j0+1)/\scanUp (fun x=>lt x zwc[a]!) zwc j0 i=scanUp (fun x=>lt x zwc[a]!) zwc j0 i0) (fun i=>j0+1-i) i0 ⟨nu _,by omega,rfl⟩ ⟨Z,Z,Z,Z,Z,nm⟩ ?_;rintro i ⟨hi1,hi2,hi3⟩;by_cases hle:i<=j0
    ·obtain⟨_,qx⟩:=pd (rest:=rest) (show i<zwc.size by omega) (0+(i)*1) rfl;obtain⟨_,qa⟩:=pd (rest:=rest) (show a<zwc.size by omega) (0+(a)*1) rfl
     cases hc:lt zwc[i]! zwc[a]! with
     | true=>
      have hw:IntKind.i64.wrap ((i:Int)+1)=((i+1:Nat):Int):=xb J J;refine Zd (h:=?_);refine qp (id:=13) [(200106,[900]),(200110,[900])] kr T ((Zm∘Zd3∘ZbC∘Zp) ?_);refine qy (qk L (q:=900) Z Z Z qx) Z Z (ZV (h:=?_));refine qy (qk L (q:=900) Z Z Z qa) Z Z (z91 L Z (fun u H hH _=>wk hc hH) ?_);refine(Zc2∘Zcy∘Za7∘Zch∘Za4∘ZaC) ?_;exact yr (x:=i) (i+1) ⟨by omega,by omega,by rw[<-hi3];exact(Ec hle (by simp [hc])).symm⟩ J ⟨Z,Z,Z,Z,Z,nm⟩
     | false=>
      refine Zd (h:=?_);refine qp (id:=13) [(200106,[900]),(200110,[900])] kr T ((Zm∘Zd3∘ZbC∘Zp) ?_);refine qy (qk L (q:=900) Z Z Z qx) Z Z (ZV (h:=?_));refine qy (qk L (q:=900) Z Z Z qa) Z Z (z91 L Z (fun u H hH _=>wk hc hH) ?_);refine(Za2∘ZaZ) ?_;exact jz i nq ⟨hi1,hi2,by rw[<-hi3];exact(lf (by rintro⟨_,h⟩;simp [hc] at h)).symm⟩ rfl ⟨rfl,rfl,rfl,rfl,rfl,nm⟩
    ·refine(Zd∘Ze8∘Zm∘Zet∘Zcr∘ZcC∘Za2∘ZaZ) ?_;exact jz i nq ⟨hi1,hi2,by rw[<-hi3];exact(lf (by rintro⟨h,_⟩;exact hle h)).symm⟩ rfl ⟨rfl,rfl,rfl,rfl,rfl,nm⟩
   rintro zwd ⟨hK1,hK2,hK3⟩;refine zj (qq ?_);refine Ap (dv (fun i:Nat=>[(0,.is (.slice (some ⟨b,0,none⟩) m cap)),(1,.is (.int .i64 a)),(10,.is (.int .i64 zwd)),(11,.is (.int .i64 i)),(900,.own (xr b (uC zwc++rest) tyU))]) (fun i=>i<=j0/\min (zwd-1) j0<=i/\i=scanDown (fun x=>!lt x zwc[a]!) zwc zwd j0) (fun _=>[]) ?_) ?_
   rotate_left
   ·refine xu (fun i:Nat=>[(0,.is (.slice (some ⟨b,0,none⟩) m cap)),(1,.is (.int .i64 a)),(10,.is (.int .i64 zwd)),(11,.is (.int .i64 i)),(900,.own (xr b (uC zwc++rest) tyU))]) (fun i=>i<=j0/\min (zwd-1) j0<=i/\scanDown (fun x=>!lt x zwc[a]!) zwc zwd i=scanDown (fun x=>!lt x zwc[a]!) zwc zwd j0) (fun i=>i) j0 ⟨nu _,by omega,rfl⟩ ⟨Z,Z,Z,Z,Z,nm⟩ ?_;rintro i ⟨hi1,hi2,hi3⟩;by_cases hle:zwd<=i
    ·obtain⟨_,qx⟩:=pd (rest:=rest) (show i<zwc.size by omega) (0+(i)*1) rfl;obtain⟨_,qa⟩:=pd (rest:=rest) (show a<zwc.size by omega) (0+(a)*1) rfl
     cases hc:lt zwc[i]! zwc[a]! with
     | false=>
      obtain⟨i,rfl⟩:∃ k,i=k+1:=⟨i-1,by omega⟩
      have hw:IntKind.i64.wrap (((i+1:Nat):Int)-1)=(i:Int):=xb J J |>.trans J;refine Zd (h:=?_);refine qp (id:=15) [(200122,[900]),(200126,[900])] kr T ((Zm∘Zd3∘ZbC∘Zp) ?_);refine qy (qk L (q:=900) Z Z Z qx) Z Z (ZV (h:=?_));refine qy (qk L (q:=900) Z Z Z qa) Z Z (z91 L Z (fun u H hH _=>wk hc hH) ?_);refine(ZaJ∘Zc2∘Zcy∘Za7∘Zal∘Za∘Zaj∘Zce) ?_;exact yr (x:=i+1) i ⟨by omega,by omega,by rw[<-hi3];exact(r8 hle (by simp [hc])).symm⟩ J ⟨Z,Z,Z,Z,Z,nm⟩
     | true=>
      refine Zd (h:=?_);refine qp (id:=15) [(200122,[900]),(200126,[900])] kr T ((Zm∘Zd3∘ZbC∘Zp) ?_);refine qy (qk L (q:=900) Z Z Z qx) Z Z (ZV (h:=?_));refine qy (qk L (q:=900) Z Z Z qa) Z Z (z91 L Z (fun u H hH _=>wk hc hH) ?_);refine(ZaJ∘Za2∘ZaZ) ?_;exact jz i nq ⟨hi1,hi2,by rw[<-hi3];exact(gl (by rintro⟨_,h⟩;simp [hc] at h)).symm⟩ rfl ⟨rfl,rfl,rfl,rfl,rfl,nm⟩
    ·refine Zd (h:=?_);refine qp (id:=15) [] kr T ((Zm∘Zet∘Zcr∘ZbM∘Za2∘ZaZ) ?_);exact jz i nq ⟨hi1,hi2,by rw[<-hi3];exact(gl (by rintro⟨h,_⟩;exact hle h)).symm⟩ rfl ⟨rfl,rfl,rfl,rfl,rfl,nm⟩
   rintro zwb ⟨hM1,hM2,hM3⟩;rw[<-hK3,<-hM3] at hL;by_cases hKM:zwb<zwd
   ·rw[na hKM] at hL;refine(Zd∘Zbm∘Zb∘ZN∘Z1∘ZeD) ?_;refine oz Z (ZdH (h:=?_));exact jz (zwb,zwc) Since.refl ⟨hG,by dsimp only;omega,by dsimp only;omega,hL⟩ Z ⟨Z,Z,Z,Z,trivial⟩
   ·rw[nc hKM,dif_pos J] at hL;have hw5:IntKind.i64.wrap ((zwd:Int)+1)=((zwd+1:Nat):Int):=xb J J;have hw6:IntKind.i64.wrap ((zwb:Int)-1)=((zwb-1:Nat):Int):=xb J J |>.trans J;have hGs:=vi zwc zwd zwb;obtain⟨_,qj⟩:=pd (rest:=rest) (show zwb<zwc.size by omega) (0+(zwb)*1) rfl;obtain⟨_,qi⟩:=pd (rest:=rest) (show zwd<zwc.size by omega) (0+(zwd)*1) rfl;have s1:=u5 (rest:=rest) zwc[zwb]! (show zwd<zwc.size by omega) (0+(zwd)*1) rfl;have b1:=u7 (rest:=rest) (show zwd<zwc.size by omega) (0+(zwd)*1) rfl;have hz:zwb<(zwc.setIfInBounds (zwd) zwc[zwb]!).size:=by rw[zsk];omega
    have s2:=u5 (rest:=rest) zwc[zwd]! hz (0+(zwb)*1) rfl;have b2:=u7 (rest:=rest) hz (0+(zwb)*1) rfl;rw[p7] at s2;refine(Zd∘Zbm∘Zb∘ZG∘Zs) ?_;refine qp (id:=18) [(200142,[900]),(200146,[900]),(100147,[900]),(100148,[900])] kr T ((Zm∘Zm∘ZV) ?_);refine qy (qk L (q:=900) Z Z Z qj) Z Z (ZV (h:=?_));refine qy (qk L (q:=900) Z Z Z qi) Z Z (Zp (h:=?_));refine xw (yq L (q:=900) Z Z b1 Z s1) Z (Zp (h:=?_));refine xw (yq L (q:=900) Z Z b2 Z s2) Z ((Zbf∘Zc5∘Za∘ZH∘Zc∘Zbg∘Za∘Zaj∘Zce) ?_);exact yr (x:=((i0,j0),zwc)) ((zwd+1,zwb-1),swp zwc zwd zwb) ⟨by dsimp only;omega,by dsimp only;omega,by dsimp only;omega,by dsimp only;omega,by dsimp only;omega,hL⟩ G ⟨Z,Z,Z,Z,Z,trivial⟩
  ·rintro⟨J2,zwc⟩ ⟨hG,hj1,hj2,hL⟩;dsimp only at hG hj1 hj2 |-;rw[<-hL] at hR';dsimp only at hR';subst hR';obtain⟨_,qj⟩:=pd (rest:=rest) (show a<zwc.size by omega) (0+(a)*1) rfl;obtain⟨_,qi⟩:=pd (rest:=rest) (show J2<zwc.size by omega) (0+(J2)*1) rfl;have s1:=u5 (rest:=rest) zwc[a]! (show J2<zwc.size by omega) (0+(J2)*1) rfl;have b1:=u7 (rest:=rest) (show J2<zwc.size by omega) (0+(J2)*1) rfl;have hz:a<(zwc.setIfInBounds (J2) zwc[a]!).size:=by rw[zsk];omega
   have s2:=u5 (rest:=rest) zwc[J2]! hz (0+(a)*1) rfl;have b2:=u7 (rest:=rest) hz (0+(a)*1) rfl;rw[p7] at s2;refine Zi (h:=?_);refine qp (id:=21) [(200160,[900]),(200164,[900]),(100165,[900]),(100166,[900])] kr T ((Zm∘Zm∘ZV) ?_);refine qy (qk L (q:=900) Z Z Z qj) Z Z (ZV (h:=?_));refine qy (qk L (q:=900) Z Z Z qi) Z Z (Zp (h:=?_));refine xw (yq L (q:=900) Z Z b1 Z s1) Z (Zp (h:=?_));refine xw (yq L (q:=900) Z Z b2 Z s2) Z ((Zbf∘ZcS∘Za∘Z4) ?_);exact kj L 900 (r:=xd b _ tyU) (rs:=[.tmp 8,.tmp 9]) Z (fun _ _ h=>h) nq Z Z (fun _=>rfl)
def zkn{cap p:Nat}(hap:a<=p)(hpe:p<e)(he:e<=d.size)(hm:d.size=m)(hm1:m<=100000)(hB:zwe B w)
  (hr:(xd b (uC d++rest) tyU).P B w C) (hC:ZCB C w B):
  RetX zwf 276 [.slice (some ⟨b,0,none⟩) m cap,.int .i64 a,.int .i64 e,.int .i64 p] w B C (xd b (uC (partitionEqual lt d a e p).2++rest) tyU) (.int .i64 (partitionEqual lt d a e p).1):=by
 unfold RetX;refine yz 900 (xd b (uC d++rest) tyU) Tryz.func276 Z Tryz.ntmps276 (np Z) hB hr hC ?_;rw[xe];obtain⟨_,qj⟩:=pd (rest:=rest) (show p<d.size by omega) (0+(p)*1) rfl;obtain⟨_,qi⟩:=pd (rest:=rest) (show a<d.size by omega) (0+(a)*1) rfl;have s1:=u5 (rest:=rest) d[p]! (show a<d.size by omega) (0+(a)*1) rfl;have b1:=u7 (rest:=rest) (show a<d.size by omega) (0+(a)*1) rfl;have hz:p<(d.setIfInBounds (a) d[p]!).size:=by rw[zsk];omega
 have s2:=u5 (rest:=rest) d[a]! hz (0+(p)*1) rfl;have b2:=u7 (rest:=rest) hz (0+(p)*1) rfl;rw[p7] at s2;have hw1:IntKind.i64.wrap ((a:Int)+1)=((a+1:Nat):Int):=xb J J;obtain⟨e1,rfl⟩:∃ e1,e=e1+1:=⟨e-1,by omega⟩
 have hw2:IntKind.i64.wrap (((e1+1:Nat):Int)-1)=(e1:Int):=xb J J |>.trans J;obtain⟨X,hX⟩:∃ X,X=partitionEqual lt d a (e1+1) p:=⟨_,rfl⟩
 rw[<-hX];have hR':=hX;unfold partitionEqual at hR';rw[zvr] at hR';have hDs:=vi d a p;refine(ZT∘Ze) ?_;refine qp (id:=1) [(200018,[900]),(200022,[900]),(100023,[900]),(100024,[900])] kr T ((Zm∘Zm∘ZV) ?_);refine qy (qk L (q:=900) Z Z Z qj) Z Z (ZV (h:=?_));refine qy (qk L (q:=900) Z Z Z qi) Z Z (Zp (h:=?_));refine xw (yq L (q:=900) Z Z b1 Z s1) Z (Zp (h:=?_));refine xw (yq L (q:=900) Z Z b2 Z s2) Z ((Zbf∘Zn∘ZH∘Za∘Zaj∘ZaI∘Za7) ?_);generalize swp d a p=D at *;refine Ap (dv (fun s:Nat×Array Int=>[(9,.is (.int .i64 s.1)),(900,.own (xr b (uC s.2++rest) tyU))]) (fun s=>s.2.size=m/\s=X) (fun _=>[]) ?_) ?_
 rotate_left
 ·refine xu (fun s:(Nat×Nat)×Array Int=>[(0,.is (.slice (some ⟨b,0,none⟩) m cap)),(1,.is (.int .i64 a)),(9,.is (.int .i64 s.1.1)),(10,.is (.int .i64 s.1.2)),(900,.own (xr b (uC s.2++rest) tyU))]) (fun s=>s.2.size=m/\a+1<=s.1.1/\s.1.1<=e1+1/\a<=s.1.2/\s.1.2<=e1/\partEqLoop lt a s.1.1 s.1.2 s.2=X) (fun s=>s.1.2+1-s.1.1) ((a+1,e1),D) ⟨by dsimp only;omega,by dsimp only;omega,by dsimp only;omega,by dsimp only;omega,by dsimp only;omega,hR'.symm⟩ ⟨Z,Z,Z,Z,Z,trivial⟩ ?_;rintro⟨⟨i0,j0⟩,zwc⟩ ⟨hG,hi1,hi2,hj1,hj2,hL⟩;dsimp only at hG hi1 hi2 hj1 hj2 hL |-;rw[partEqLoop] at hL;clear hX hR' hDs;refine qq (zj (qq ?_));refine Ap (dv (fun i:Nat=>[(0,.is (.slice (some ⟨b,0,none⟩) m cap)),(1,.is (.int .i64 a)),(9,.is (.int .i64 i)),(10,.is (.int .i64 j0)),(900,.own (xr b (uC zwc++rest) tyU))]) (fun i=>i0<=i/\i<=max i0 (j0+1)/\i=scanUp (fun x=>!lt zwc[a]! x) zwc j0 i0) (fun _=>[]) ?_) ?_
  rotate_left
  ·refine xu (fun i:Nat=>[(0,.is (.slice (some ⟨b,0,none⟩) m cap)),(1,.is (.int .i64 a)),(9,.is (.int .i64 i)),(10,.is (.int .i64 j0)),(900,.own (xr b (uC zwc++rest) tyU))]) (fun i=>i0<=i/\i<=max i0 (j0+1)/\scanUp (fun x=>!lt zwc[a]! x) zwc j0 i=scanUp (fun x=>!lt zwc[a]! x) zwc j0 i0) (fun i=>j0+1-i) i0 ⟨nu _,by omega,rfl⟩ ⟨Z,Z,Z,Z,Z,nm⟩ ?_;rintro i ⟨hi1,hi2,hi3⟩;by_cases hle:i<=j0
   ·obtain⟨_,qx⟩:=pd (rest:=rest) (show i<zwc.size by omega) (0+(i)*1) rfl;obtain⟨_,qa⟩:=pd (rest:=rest) (show a<zwc.size by omega) (0+(a)*1) rfl
    cases hc:lt zwc[a]! zwc[i]! with
    | false=>
     have hw:IntKind.i64.wrap ((i:Int)+1)=((i+1:Nat):Int):=xb J J;refine Zd (h:=?_);refine qp (id:=3) [(200036,[900]),(200040,[900])] kr T ((Zm∘Zd3∘ZbC∘Zp) ?_);refine qy (qk L (q:=900) Z Z Z qa) Z Z (ZV (h:=?_));refine qy (qk L (q:=900) Z Z Z qx) Z Z (z91 L Z (fun u H hH _=>wk hc hH) ?_);refine(ZaJ∘Zc2∘Zcy∘Za7∘Zt∘Za4∘ZaC) ?_;exact yr (x:=i) (i+1) ⟨by omega,by omega,by rw[<-hi3];exact(Ec hle (by simp [hc])).symm⟩ J ⟨Z,Z,Z,Z,Z,nm⟩
    | true=>
     refine Zd (h:=?_);refine qp (id:=3) [(200036,[900]),(200040,[900])] kr T ((Zm∘Zd3∘ZbC∘Zp) ?_);refine qy (qk L (q:=900) Z Z Z qa) Z Z (ZV (h:=?_));refine qy (qk L (q:=900) Z Z Z qx) Z Z (z91 L Z (fun u H hH _=>wk hc hH) ?_);refine(ZaJ∘Za2∘ZaZ) ?_;exact jz i nq ⟨hi1,hi2,by rw[<-hi3];exact(lf (by rintro⟨_,h⟩;simp [hc] at h)).symm⟩ rfl ⟨rfl,rfl,rfl,rfl,rfl,nm⟩
   ·refine(Zd∘ZcQ∘Zm∘Zet∘Zcr∘ZbM∘Za2∘ZaZ) ?_;exact jz i nq ⟨hi1,hi2,by rw[<-hi3];exact(lf (by rintro⟨h,_⟩;exact hle h)).symm⟩ rfl ⟨rfl,rfl,rfl,rfl,rfl,nm⟩
  rintro zwd ⟨hK1,hK2,hK3⟩;refine zj (qq ?_);refine Ap (dv (fun i:Nat=>[(0,.is (.slice (some ⟨b,0,none⟩) m cap)),(1,.is (.int .i64 a)),(9,.is (.int .i64 zwd)),(10,.is (.int .i64 i)),(900,.own (xr b (uC zwc++rest) tyU))]) (fun i=>i<=j0/\min (zwd-1) j0<=i/\i=scanDown (fun x=>lt zwc[a]! x) zwc zwd j0) (fun _=>[]) ?_) ?_
  rotate_left
  ·refine xu (fun i:Nat=>[(0,.is (.slice (some ⟨b,0,none⟩) m cap)),(1,.is (.int .i64 a)),(9,.is (.int .i64 zwd)),(10,.is (.int .i64 i)),(900,.own (xr b (uC zwc++rest) tyU))]) (fun i=>i<=j0/\min (zwd-1) j0<=i/\scanDown (fun x=>lt zwc[a]! x) zwc zwd i=scanDown (fun x=>lt zwc[a]! x) zwc zwd j0) (fun i=>i) j0 ⟨nu _,by omega,rfl⟩ ⟨Z,Z,Z,Z,Z,nm⟩ ?_;rintro i ⟨hi1,hi2,hi3⟩;by_cases hle:zwd<=i
   ·obtain⟨_,qx⟩:=pd (rest:=rest) (show i<zwc.size by omega) (0+(i)*1) rfl;obtain⟨_,qa⟩:=pd (rest:=rest) (show a<zwc.size by omega) (0+(a)*1) rfl
    cases hc:lt zwc[a]! zwc[i]! with
    | true=>
     obtain⟨i,rfl⟩:∃ k,i=k+1:=⟨i-1,by omega⟩
     have hw:IntKind.i64.wrap (((i+1:Nat):Int)-1)=(i:Int):=xb J J |>.trans J;refine(Zd∘Zft∘Zm∘Zd3∘ZbC∘Zp) ?_;refine qy (qk L (q:=900) Z Z Z qa) Z Z (ZV (h:=?_));refine qy (qk L (q:=900) Z Z Z qx) Z Z (z91 L Z (fun u H hH _=>wk hc hH) ?_);refine(Zc2∘Zcy∘Za7∘ZD∘Zaj∘Zce) ?_;exact yr (x:=i+1) i ⟨by omega,by omega,by rw[<-hi3];exact(r8 hle (by simp [hc])).symm⟩ J ⟨Z,Z,Z,Z,Z,nm⟩
    | false=>
     refine(Zd∘Zft∘Zm∘Zd3∘ZbC∘Zp) ?_;refine qy (qk L (q:=900) Z Z Z qa) Z Z (ZV (h:=?_));refine qy (qk L (q:=900) Z Z Z qx) Z Z (z91 L Z (fun u H hH _=>wk hc hH) ?_);refine(Za2∘ZaZ) ?_;exact jz i nq ⟨hi1,hi2,by rw[<-hi3];exact(gl (by rintro⟨_,h⟩;simp [hc] at h)).symm⟩ rfl ⟨rfl,rfl,rfl,rfl,rfl,nm⟩
   ·refine(Zd∘Ze7∘Zm∘Zet∘Zcr∘ZcC∘Za2∘ZaZ) ?_;exact jz i nq ⟨hi1,hi2,by rw[<-hi3];exact(gl (by rintro⟨h,_⟩;exact hle h)).symm⟩ rfl ⟨rfl,rfl,rfl,rfl,rfl,nm⟩
  rintro zwb ⟨hM1,hM2,hM3⟩;rw[<-hK3,<-hM3] at hL;by_cases hKM:zwb<zwd
  ·rw[na hKM] at hL;refine(Zd∘Z7∘Zb∘ZN∘Z1∘ZeD) ?_;refine oz Z (ZdH (h:=?_));exact jz (zwd,zwc) nq ⟨hG,hL⟩ Z ⟨Z,Z,nm⟩
  ·rw[nc hKM,dif_pos J] at hL;have hw5:IntKind.i64.wrap ((zwd:Int)+1)=((zwd+1:Nat):Int):=xb J J;have hw6:IntKind.i64.wrap ((zwb:Int)-1)=((zwb-1:Nat):Int):=xb J J |>.trans J;have hGs:=vi zwc zwd zwb;obtain⟨_,qj⟩:=pd (rest:=rest) (show zwb<zwc.size by omega) (0+(zwb)*1) rfl;obtain⟨_,qi⟩:=pd (rest:=rest) (show zwd<zwc.size by omega) (0+(zwd)*1) rfl;have s1:=u5 (rest:=rest) zwc[zwb]! (show zwd<zwc.size by omega) (0+(zwd)*1) rfl;have b1:=u7 (rest:=rest) (show zwd<zwc.size by omega) (0+(zwd)*1) rfl;have hz:zwb<(zwc.setIfInBounds (zwd) zwc[zwb]!).size:=by rw[zsk];omega
   have s2:=u5 (rest:=rest) zwc[zwd]! hz (0+(zwb)*1) rfl;have b2:=u7 (rest:=rest) hz (0+(zwb)*1) rfl;rw[p7] at s2;refine(Zd∘Z7∘Zb∘ZG∘Zs) ?_;refine qp (id:=8) [(200072,[900]),(200076,[900]),(100077,[900]),(100078,[900])] kr T ((Zm∘Zm∘ZV) ?_);refine qy (qk L (q:=900) Z Z Z qj) Z Z (ZV (h:=?_));refine qy (qk L (q:=900) Z Z Z qi) Z Z (Zp (h:=?_));refine xw (yq L (q:=900) Z Z b1 Z s1) Z (Zp (h:=?_));refine xw (yq L (q:=900) Z Z b2 Z s2) Z ((Zbf∘Zai∘ZH∘Zc∘Zcz∘Zaj∘Zce) ?_);exact yr (x:=((i0,j0),zwc)) ((zwd+1,zwb-1),swp zwc zwd zwb) ⟨by dsimp only;omega,by dsimp only;omega,by dsimp only;omega,by dsimp only;omega,by dsimp only;omega,hL⟩ G ⟨Z,Z,Z,Z,Z,trivial⟩
 ·rintro⟨zwd,zwc⟩ ⟨hG,hL⟩;dsimp only at hG |-;rw[<-hL];refine(Zi∘ZbL∘Zc) ?_;exact kj L 900 (r:=xd b _ tyU) (rs:=[.tmp 8]) Z (fun _ _ h=>h) nq Z Z (fun _=>rfl)
def _root_.Zcv(t:Wr Y->A:=by intro h;refine zh (id:=21) ?_;exact h.1)(h:Y):A:=t ⟨h⟩
def _root_.ZdE(t:Wr Y->A:=by intro h;refine zh (id:=24) ?_;exact h.1)(h:Y):A:=t ⟨h⟩
def _root_.ZaR(t:Wr Y->A:=by exact fun h=>(Zb∘Zaj) h.1)(h:Y):A:=t ⟨h⟩
def ob(h:¬ (i<e/\lt d[i]! d[i-1]! =false)):scanSorted lt d e i=i:=by
 rw[scanSorted,nc];simpa using h
def Kv(h1:i<e)(h2:lt d[i]! d[i-1]! =false):scanSorted lt d e i=scanSorted lt d e (i+1):=by
 rw[scanSorted,na (by simp [h1,h2])]
def pins_ret{cap:Nat}(hab:a<e)(he:e<=d.size)(hm:d.size=m)(hm1:m<=100000)(hB:zwe B w)
  (hr:(xd b (uC d++rest) tyU).P B w C) (hC:ZCB C w B):
  RetX zwf 274 [.slice (some ⟨b,0,none⟩) m cap,.int .i64 a,.int .i64 e] w B C (xd b (uC (partialInsertionSort lt d a e).1++rest) tyU) (.bool (partialInsertionSort lt d a e).2):=by
 unfold RetX;refine yz 900 (xd b (uC d++rest) tyU) Tryz.func274 Z Tryz.ntmps274 (np Z) hB hr hC ?_;rw[xe];have hw1:IntKind.i64.wrap ((a:Int)+1)=((a+1:Nat):Int):=xb J J;have hw2:IntKind.i64.wrap ((e:Int)-(a:Int))=((e-a:Nat):Int):=xb J J |>.trans J;obtain⟨X,hX⟩:∃ X,X=partialInsertionSort lt d a e:=⟨_,rfl⟩
 rw[<-hX];unfold partialInsertionSort at hX;refine(Zw∘Za∘ZH∘Zh∘ZL∘Zae) ?_;refine xu (fun s:(Nat×Nat)×Array Int=>[(0,.is (.slice (some ⟨b,0,none⟩) m cap)),(1,.is (.int .i64 a)),(2,.is (.int .i64 e)),(7,.is (.int .i64 s.1.2)),(8,.is (.int .i64 s.1.1)),(900,.own (xr b (uC s.2++rest) tyU))]) (fun s=>s.1.1<=5/\a+1<=s.1.2/\s.1.2<=e/\s.2.size=m/\partialIns lt a e (5-s.1.1) s.1.2 s.2=X) (fun s=>5-s.1.1) ((0,a+1),d) ⟨by dsimp only;omega,by dsimp only;omega,by dsimp only;omega,hm,hX.symm⟩ ⟨Z,Z,Z,Z,Z,Z,trivial⟩ ?_;rintro⟨⟨k,i0⟩,D⟩ ⟨hk,hi1,hi2,hD,hL⟩;dsimp only at hk hi1 hi2 hD hL |-;clear hX;by_cases hk5:k<5
 ·obtain⟨s,hs⟩:∃ s,5-k=s+1:=⟨5-k-1,by omega⟩
  have hs':5-(k+1)=s:=J;rw[hs,partialIns] at hL;dsimp only at hL;refine(Zcp∘Zdi∘Za7) ?_;refine Ap (dv (fun i:Nat=>[(0,.is (.slice (some ⟨b,0,none⟩) m cap)),(1,.is (.int .i64 a)),(2,.is (.int .i64 e)),(7,.is (.int .i64 i)),(8,.is (.int .i64 k)),(900,.own (xr b (uC D++rest) tyU))]) (fun i=>a+1<=i/\i<=e/\i=scanSorted lt D e i0) (fun _=>[]) ?_) ?_
  rotate_left
  ·refine xu (fun i:Nat=>[(0,.is (.slice (some ⟨b,0,none⟩) m cap)),(1,.is (.int .i64 a)),(2,.is (.int .i64 e)),(7,.is (.int .i64 i)),(8,.is (.int .i64 k)),(900,.own (xr b (uC D++rest) tyU))]) (fun i=>a+1<=i/\i<=e/\scanSorted lt D e i=scanSorted lt D e i0) (fun i=>e-i) i0 ⟨hi1,hi2,rfl⟩ ⟨Z,Z,Z,Z,Z,Z,nm⟩ ?_;rintro i ⟨h1,h2,h3⟩;by_cases hle:i<e
   ·obtain⟨_,q1⟩:=pd (rest:=rest) (show i<D.size by omega) (0+(i)*1) rfl;obtain⟨_,q2⟩:=pd (rest:=rest) (show i-1<D.size by omega) (0+(i-1)*1) rfl;have hw3:IntKind.i64.wrap ((i:Int)-1)=((i-1:Nat):Int):=xb J J |>.trans J
    cases hc:lt D[i]! D[i-1]! with
    | false=>
     have hw4:IntKind.i64.wrap ((i:Int)+1)=((i+1:Nat):Int):=xb J J;refine Zd (h:=?_);refine qp (id:=5) [(200024,[900]),(200029,[900])] kr T ((Zm∘Zdf∘ZbC∘Zp) ?_);refine qy (qk L (q:=900) Z Z Z q1) Z Z ((Zck∘Zp) ?_);refine qy (qk L (q:=900) Z Z Z q2) Z Z (z91 L Z (fun u H hH _=>wk hc hH) ?_);refine(ZaJ∘Zc2∘Zcy∘Za7∘ZD∘Za4∘ZaC) ?_;exact yr (x:=i) (i+1) ⟨by omega,by omega,by rw[<-h3];exact(Kv hle hc).symm⟩ J ⟨Z,Z,Z,Z,Z,Z,nm⟩
    | true=>
     refine Zd (h:=?_);refine qp (id:=5) [(200024,[900]),(200029,[900])] kr T ((Zm∘Zdf∘ZbC∘Zp) ?_);refine qy (qk L (q:=900) Z Z Z q1) Z Z ((Zck∘Zp) ?_);refine qy (qk L (q:=900) Z Z Z q2) Z Z (z91 L Z (fun u H hH _=>wk hc hH) ?_);refine(ZaJ∘Za2∘ZaZ) ?_;exact jz i nq ⟨h1,h2,by rw[<-h3];exact(ob (by rintro⟨_,h⟩;simp [hc] at h)).symm⟩ rfl ⟨rfl,rfl,rfl,rfl,rfl,rfl,nm⟩
   ·refine(Zd∘Ze7∘Zm∘Zd8∘Zcr∘ZbM∘ZcC∘Za2∘ZaZ) ?_;exact jz i nq ⟨h1,h2,by rw[<-h3];exact(ob (by rintro⟨h,_⟩;exact hle h)).symm⟩ rfl ⟨rfl,rfl,rfl,rfl,rfl,rfl,nm⟩
  ·rintro i ⟨h1,h2,h3⟩;rw[<-h3] at hL;by_cases hie:i=e
   ·rw[na hie] at hL;subst hie;rw[<-hL];refine(Zd∘Z7∘Zb∘Zx∘Zr∘Z0∘Zc) ?_;exact kj L 900 (r:=xd b _ tyU) (rs:=[.tmp 6]) Z (fun _ _ h=>h) nq Z Z (fun _=>rfl)
   ·rw[nc hie] at hL;by_cases h50:e-a<50
    ·rw[na h50] at hL;rw[<-hL];refine(Zd∘Z7∘Zb∘Z8∘ZK∘ZM∘ZaR∘ZS∘Zr∘ZaH∘Zc) ?_;exact kj L 900 (r:=xd b _ tyU) (rs:=[.tmp 6]) Z (fun _ _ h=>h) nq Z Z (fun _=>rfl)
    ·rw[nc h50] at hL;have hw3:IntKind.i64.wrap ((i:Int)-1)=((i-1:Nat):Int):=xb J J |>.trans J;have hw4:IntKind.i64.wrap ((i:Int)-(a:Int))=((i-a:Nat):Int):=xb J J |>.trans J;have hw5:IntKind.i64.wrap ((e:Int)-(i:Int))=((e-i:Nat):Int):=xb J J |>.trans J;have hw6:IntKind.i64.wrap ((i:Int)+1)=((i+1:Nat):Int):=xb J J;have hw7:IntKind.i64.wrap ((k:Int)+1)=((k+1:Nat):Int):=xb J J;have hDs:=vi D i (i-1);obtain⟨_,qj⟩:=pd (rest:=rest) (show i-1<D.size by omega) (0+(i-1)*1) rfl;obtain⟨_,qi⟩:=pd (rest:=rest) (show i<D.size by omega) (0+(i)*1) rfl;have s1:=u5 (rest:=rest) D[i-1]! (show i<D.size by omega) (0+(i)*1) rfl;have b1:=u7 (rest:=rest) (show i<D.size by omega) (0+(i)*1) rfl;have hz:i-1<(D.setIfInBounds (i) D[i-1]!).size:=by rw[zsk];omega
     have s2:=u5 (rest:=rest) D[i]! hz (0+(i-1)*1) rfl;have b2:=u7 (rest:=rest) hz (0+(i-1)*1) rfl;rw[p7] at s2;refine(Zd∘Z7∘Zb∘Z8∘ZK∘ZM∘ZaR∘Zab∘Zs) ?_;refine qp (id:=11) [(200051,[900]),(200055,[900]),(100056,[900]),(100057,[900])] kr T ((Zm∘Zck∘Zck∘Zp) ?_);refine qy (qk L (q:=900) Z Z Z qj) Z Z (ZV (h:=?_));refine qy (qk L (q:=900) Z Z Z qi) Z Z (Zp (h:=?_));refine xw (yq L (q:=900) Z Z b1 Z s1) Z (Zp (h:=?_));refine xw (yq L (q:=900) Z Z b2 Z s2) Z ((ZaW∘Zd) ?_);generalize swp D i (i-1)=D1 at *;obtain⟨D2,hD2⟩:∃ D2,D2=(if i-a>=2 then shiftDown lt (i-1) D1 else D1):=⟨_,rfl⟩
     rw[<-hD2] at hL;refine ig (fun zwa:Array Int=>[(0,.is (.slice (some ⟨b,0,none⟩) m cap)),(1,.is (.int .i64 a)),(2,.is (.int .i64 e)),(7,.is (.int .i64 i)),(8,.is (.int .i64 k)),(900,.own (xr b (uC zwa++rest) tyU))]) (fun zwa=>zwa.size=m/\zwa=D2) (fun _=>[]) ?_ ?_
     rotate_left
     ·by_cases h2a:i-a>=2
      ·rw[na h2a] at hD2;refine(ZQ∘ZaR∘ZbJ∘Zr∘ZU∘Za∘Zaj∘Zae) ?_;refine xu (fun t:Nat×Array Int=>[(0,.is (.slice (some ⟨b,0,none⟩) m cap)),(1,.is (.int .i64 a)),(2,.is (.int .i64 e)),(7,.is (.int .i64 i)),(8,.is (.int .i64 k)),(9,.is (.int .i64 t.1)),(900,.own (xr b (uC t.2++rest) tyU))]) (fun t=>t.1<=i-1/\t.2.size=m/\shiftDown lt t.1 t.2=D2) (fun t=>t.1) (i-1,D1) ⟨Nat.le_refl _,by dsimp only;omega,hD2.symm⟩ ⟨Z,Z,Z,Z,Z,Z,Z,trivial⟩ ?_;rintro⟨j,zwa⟩ ⟨hj,hE,hS⟩;dsimp only at hj hE hS |-;clear hD2;rcases j with _ | j
       ·rw[shiftDown] at hS;refine(Zd∘Zch∘Zav∘Zao∘ZaZ) ?_;exact jz zwa nq ⟨hE,hS⟩ Z ⟨Z,Z,Z,Z,Z,Z,nm⟩
       ·rw[shiftDown] at hS;have hw8:IntKind.i64.wrap (((j+1:Nat):Int)-1)=(j:Int):=xb J J |>.trans J;obtain⟨_,q1⟩:=pd (rest:=rest) (show j+1<zwa.size by omega) (0+(j+1)*1) rfl;obtain⟨_,q2⟩:=pd (rest:=rest) (show j<zwa.size by omega) (0+(j)*1) rfl
        cases hc:lt zwa[j+1]! zwa[j]! with
        | false=>
         rw[na (by rw[hc];rfl)] at hS;refine(Zd∘Zch∘Zci∘Zbw∘Zd) ?_;refine qp (id:=16) [(200071,[900]),(200076,[900])] kr T (ZV (h:=?_));refine qy (qk L (q:=900) Z Z Z q1) Z Z ((Zck∘Zp) ?_);refine qy (qk L (q:=900) Z Z Z q2) Z Z (z91 L Z (fun u H hH _=>wk hc hH) ?_);refine(ZaJ∘ZcI∘ZeD) ?_;refine oz Z ((Ze1∘ZdH) ?_);exact jz zwa nq ⟨hE,hS⟩ Z ⟨Z,Z,Z,Z,Z,Z,nm⟩
        | true=>
         rw[nc (by rw[hc];simp)] at hS;obtain⟨_,qj⟩:=pd (rest:=rest) (show j<zwa.size by omega) (0+(j)*1) rfl;obtain⟨_,qi⟩:=pd (rest:=rest) (show j+1<zwa.size by omega) (0+(j+1)*1) rfl;have s1:=u5 (rest:=rest) zwa[j]! (show j+1<zwa.size by omega) (0+(j+1)*1) rfl;have b1:=u7 (rest:=rest) (show j+1<zwa.size by omega) (0+(j+1)*1) rfl;have hz:j<(zwa.setIfInBounds (j+1) zwa[j]!).size:=by rw[zsk];omega
         have s2:=u5 (rest:=rest) zwa[j+1]! hz (0+(j)*1) rfl;have b2:=u7 (rest:=rest) hz (0+(j)*1) rfl;rw[p7] at s2;refine(Zd∘Zch∘Zci∘Zbw∘Zd) ?_;refine qp (id:=16) [(200071,[900]),(200076,[900])] kr T (ZV (h:=?_));refine qy (qk L (q:=900) Z Z Z q1) Z Z ((Zck∘Zp) ?_);refine qy (qk L (q:=900) Z Z Z q2) Z Z (z91 L Z (fun u H hH _=>wk hc hH) ?_);refine(ZaJ∘Zbv∘Zcy) ?_;refine qp (id:=17) [(200088,[900]),(200092,[900]),(100093,[900]),(100094,[900])] kr T ((Zm∘Zck∘Zck∘Zp) ?_);refine qy (qk L (q:=900) Z Z Z qj) Z Z (ZV (h:=?_));refine qy (qk L (q:=900) Z Z Z qi) Z Z (Zp (h:=?_));refine xw (yq L (q:=900) Z Z b1 Z s1) Z (Zp (h:=?_));refine xw (yq L (q:=900) Z Z b2 Z s2) Z ((ZbP∘Zat∘Za∘Zaj∘ZaT) ?_);exact yr (x:=(j+1,zwa)) (j,swp zwa (j+1) j) ⟨by dsimp only;omega,by dsimp only;rw[vi];exact hE,hS⟩ G ⟨Z,Z,Z,Z,Z,Z,Z,trivial⟩
      ·rw[nc h2a] at hD2;refine(ZQ∘ZaR∘Zav∘Zbu) ?_;exact jz D1 nq ⟨by omega,hD2.symm⟩ Z ⟨Z,Z,Z,Z,Z,Z,nm⟩
     ·rintro zwc ⟨hG,hGe⟩;rw[<-hGe] at hL;clear hD2 hGe;by_cases h2b:e-i>=2
      ·rw[na h2b] at hL;obtain⟨D3,hD3⟩:∃ D3,D3=shiftUp lt e (i+1) zwc:=⟨_,rfl⟩
       rw[<-hD3] at hL;refine(Zi∘ZaX∘ZaR∘ZbJ∘Zr∘Zc5∘Za∘ZH∘Zae) ?_
       ·refine xu (fun t:Nat×Array Int=>[(0,.is (.slice (some ⟨b,0,none⟩) m cap)),(1,.is (.int .i64 a)),(2,.is (.int .i64 e)),(7,.is (.int .i64 i)),(8,.is (.int .i64 k)),(10,.is (.int .i64 t.1)),(900,.own (xr b (uC t.2++rest) tyU))]) (fun t=>i+1<=t.1/\t.1<=e/\t.2.size=m/\shiftUp lt e t.1 t.2=D3) (fun t=>e-t.1) (i+1,zwc) ⟨Nat.le_refl _,by dsimp only;omega,hG,hD3.symm⟩ ⟨Z,Z,Z,Z,Z,Z,Z,trivial⟩ ?_;rintro⟨j,zwa⟩ ⟨hj1,hj2,hE,hS⟩;dsimp only at hj1 hj2 hE hS |-;clear hD3;rw[shiftUp] at hS;by_cases hje:j<e
        ·rw[na hje] at hS;have hw8:IntKind.i64.wrap ((j:Int)-1)=((j-1:Nat):Int):=xb J J |>.trans J;have hw9:IntKind.i64.wrap ((j:Int)+1)=((j+1:Nat):Int):=xb J J;obtain⟨_,q1⟩:=pd (rest:=rest) (show j<zwa.size by omega) (0+(j)*1) rfl;obtain⟨_,q2⟩:=pd (rest:=rest) (show j-1<zwa.size by omega) (0+(j-1)*1) rfl
         cases hc:lt zwa[j]! zwa[j-1]! with
         | false=>
          rw[na (by rw[hc];rfl)] at hS;refine(Zd∘Zbg∘Zb∘Zbp∘Zbw∘Zd) ?_;refine qp (id:=22) [(200109,[900]),(200114,[900])] kr T (ZV (h:=?_));refine qy (qk L (q:=900) Z Z Z q1) Z Z ((Zck∘Zp) ?_);refine qy (qk L (q:=900) Z Z Z q2) Z Z (z91 L Z (fun u H hH _=>wk hc hH) ?_);refine(ZaJ∘ZcI∘ZeD) ?_;refine oz Z ((Ze1∘ZdH∘Za0∘Zt∘Za4) ?_);exact yr (x:=((k,i0),D)) ((k+1,i),zwa) ⟨by dsimp only;omega,by dsimp only;omega,by dsimp only;omega,hE,by dsimp only;rw[hs',hS];exact hL⟩ G ⟨Z,Z,Z,Z,Z,Z,trivial⟩
         | true=>
          rw[nc (by rw[hc];simp)] at hS;obtain⟨_,qj⟩:=pd (rest:=rest) (show j-1<zwa.size by omega) (0+(j-1)*1) rfl;obtain⟨_,qi⟩:=pd (rest:=rest) (show j<zwa.size by omega) (0+(j)*1) rfl;have s1:=u5 (rest:=rest) zwa[j-1]! (show j<zwa.size by omega) (0+(j)*1) rfl;have b1:=u7 (rest:=rest) (show j<zwa.size by omega) (0+(j)*1) rfl;have hz:j-1<(zwa.setIfInBounds (j) zwa[j-1]!).size:=by rw[zsk];omega
          have s2:=u5 (rest:=rest) zwa[j]! hz (0+(j-1)*1) rfl;have b2:=u7 (rest:=rest) hz (0+(j-1)*1) rfl;rw[p7] at s2;refine(Zd∘Zbg∘Zb∘Zbp∘Zbw∘Zd) ?_;refine qp (id:=22) [(200109,[900]),(200114,[900])] kr T (ZV (h:=?_));refine qy (qk L (q:=900) Z Z Z q1) Z Z ((Zck∘Zp) ?_);refine qy (qk L (q:=900) Z Z Z q2) Z Z (z91 L Z (fun u H hH _=>wk hc hH) ?_);refine(ZaJ∘Zbv∘Zcy) ?_;refine qp (id:=23) [(200126,[900]),(200130,[900]),(100131,[900]),(100132,[900])] kr T ((Zm∘Zck∘Zck∘Zp) ?_);refine qy (qk L (q:=900) Z Z Z qj) Z Z (ZV (h:=?_));refine qy (qk L (q:=900) Z Z Z qi) Z Z (Zp (h:=?_));refine xw (yq L (q:=900) Z Z b1 Z s1) Z (Zp (h:=?_));refine xw (yq L (q:=900) Z Z b2 Z s2) Z ((ZbP∘Zcv∘Za∘Za4) ?_);exact yr (x:=(j,zwa)) (j+1,swp zwa j (j-1)) ⟨by dsimp only;omega,by dsimp only;omega,by dsimp only;rw[vi];exact hE,hS⟩ G ⟨Z,Z,Z,Z,Z,Z,Z,trivial⟩
        ·rw[nc hje] at hS;refine(Zd∘Zbg∘Zb∘Zbc∘ZaZ∘Za0∘Zt∘Za4) ?_;exact yr (x:=((k,i0),D)) ((k+1,i),zwa) ⟨by dsimp only;omega,by dsimp only;omega,by dsimp only;omega,hE,by dsimp only;rw[hs',hS];exact hL⟩ G ⟨Z,Z,Z,Z,Z,Z,trivial⟩
      ·rw[nc h2b] at hL;refine(Zi∘ZaX∘ZaR∘Zav∘Za1∘Zt∘Za4) ?_;exact yr (x:=((k,i0),D)) ((k+1,i),zwc) ⟨by dsimp only;omega,by dsimp only;omega,by dsimp only;omega,hG,by dsimp only;rw[hs'];exact hL⟩ G ⟨Z,Z,Z,Z,Z,Z,trivial⟩
 ·obtain rfl:k=5:=by omega
  have hL':(D,false)=X:=hL;rw[<-hL'];refine(Zcp∘Zb5∘ZdE∘Zc) ?_;exact kj L 900 (r:=xd b _ tyU) (rs:=[.tmp 6]) Z (fun _ _ h=>h) nq Z Z (fun _=>rfl)
def _root_.ZfI(t:Wr Y->A:=by intro h;refine Zej (h:=?_);refine xw (yq L (q:=900) Z Z Z Z Z) Z ?_;exact h.1)(h:Y):A:=t ⟨h⟩
abbrev tyX:TypeId:=402
def Tt{x:Nat}(hx:x<18446744073709551616)(hB:zwe B w)
  (hr:(xd b [.int .u64 x] tyX).P B w C) (hC:ZCB C w B):
  RetX zwf 307 [.pointer (some ⟨b,0,none⟩)] w B C (xd b [.int .u64 (xorNextN x:Nat)] tyX) (.int .u64 (xorNextN x:Nat)):=by
 obtain⟨X1,h1⟩:∃ X1:Nat,X1=x^^^(x*8192%18446744073709551616):=⟨_,rfl⟩
 obtain⟨X2,h2⟩:∃ X2:Nat,X2=X1^^^(X1/128):=⟨_,rfl⟩
 obtain⟨X3,h3⟩:∃ X3:Nat,X3=X2^^^(X2*131072%18446744073709551616):=⟨_,rfl⟩
 have l1:X1<18446744073709551616:=by rw[h1];exact Nat.xor_lt_two_pow (n:=64) J J
 have l2:X2<18446744073709551616:=by rw[h2];exact Nat.xor_lt_two_pow (n:=64) J J
 have l3:X3<18446744073709551616:=by rw[h3];exact Nat.xor_lt_two_pow (n:=64) J J
 have hv:xorNextN x=X3:=by unfold xorNextN;simp only[];rw[<-h1,<-h2,<-h3]
 have s1:IntKind.u64.wrap ((x:Int)*2^min (13:Int).toNat IntKind.u64.bits)=((x*8192%18446744073709551616:Nat):Int):=by
  rw[IntKind.wrap_u64,show((2:Int)^min (13:Int).toNat IntKind.u64.bits)=8192 from by decide];omega
 have s2:(X1:Int).fdiv (2^min (7:Int).toNat IntKind.u64.bits)=((X1/128:Nat):Int):=by
  rw[show((2:Int)^min (7:Int).toNat IntKind.u64.bits)=128 from by decide,zvn _ J];omega
 have s3:IntKind.u64.wrap ((X2:Int)*2^min (17:Int).toNat IntKind.u64.bits)=((X2*131072%18446744073709551616:Nat):Int):=by
  rw[IntKind.wrap_u64,show((2:Int)^min (17:Int).toNat IntKind.u64.bits)=131072 from by decide];omega
 have x1:bits .xor .u64 (x:Int) ((x*8192%18446744073709551616:Nat):Int)=(X1:Int):=by rw[bits_xor_u64_nat _ _ hx J,h1]
 have x2:bits .xor .u64 (X1:Int) ((X1/128:Nat):Int)=(X2:Int):=by rw[bits_xor_u64_nat _ _ l1 J,h2]
 have x3:bits .xor .u64 (X2:Int) ((X2*131072%18446744073709551616:Nat):Int)=(X3:Int):=by rw[bits_xor_u64_nat _ _ l2 J,h3]
 rw[hv];clear hv h1 h2 h3;unfold RetX;refine yz 900 (xd b [.int .u64 x] tyX) Tryz.func307 Z Tryz.ntmps307 (np Z) hB hr hC ?_;rw[xe];refine(ZT∘Ze) ?_;refine qp (id:=1) [(200005,[900]),(200008,[900]),(100011,[900])] kr T ((Zl∘Zej∘ZdB∘Zl∘Zej∘ZdB) ?_);refine z9 (Tm Z Z Z Z E s1) Z (z9 (zbn Z Z Z Z x1) Z ((ZfI∘Zbf) ?_));refine qp (id:=2) [(200014,[900]),(200017,[900]),(100020,[900])] kr T ((Zl∘Zej∘ZdB∘Zl∘Zej∘ZdB) ?_);refine z9 (ziq Z Z Z Z E s2) Z (z9 (zbn Z Z Z Z x2) Z ((ZfI∘Zbf) ?_));refine qp (id:=3) [(200023,[900]),(200026,[900]),(100029,[900])] kr T ((Zl∘Zej∘ZdB∘Zl∘Zej∘ZdB) ?_);refine z9 (Tm Z Z Z Z E s3) Z (z9 (zbn Z Z Z Z x3) Z ((ZfI∘Zbf∘Zt∘Zfg∘Zds∘Zc) ?_));exact kj L 900 (r:=xd b _ tyX) (rs:=[.tmp 2]) Z (fun _ _ h=>h) nq Z Z (fun _=>rfl)
def _root_.Zcw(t:Wr Y->A:=by exact fun h=>(Zbr∘Zk) h.1)(h:Y):A:=t ⟨h⟩
def _root_.Zc6(t:Wr Y->A:=by exact fun h=>(Zdn∘Zeu) h.1)(h:Y):A:=t ⟨h⟩
def _root_.ZfU(t:Wr Y->A:=by intro h;refine qp (id:=10) [(200058,[900]),(200062,[900]),(100063,[900]),(100064,[900])] kr T ?_;refine Zm (h:=?_);exact h.1)(h:Y):A:=t ⟨h⟩
def Fx(hn:n<18446744073709551616)(hB:zwe B w):Ret zwf 224 [.int .u64 n] w B (fun v _=>v=.int .i64 (bitsLen n)):=by
 refine yl Tryz.func224 Z Tryz.ntmps224 (np Z) hB ((ZT∘Ze∘Zdp∘Zbt∘Zn) ?_);refine z71 L Z (fun u H hH _=>Ret.of_same hH (Tryz.bits_Len64 (n:Int) u J J)) ?_;refine Zc (h:=?_);refine yk1 L [.tmp 2] fun u H hH hle=>?_;rw[zsh,bitLen_eq n hn];rfl
def zgf(hn:n<=100000)(hB:zwe B w):Ret zwf 306 [.int .i64 n] w B (fun v _=>v=.int .u64 (1<<<bitsLen n:Nat)):=by
 have hb:bitsLen n<=17:=(bitsLen_le_iff n 17).2 J;have hp2:(2:Nat)^bitsLen n<=2^17:=zvm J hb
 have hmin:min ((bitsLen n:Nat):Int).toNat IntKind.u64.bits=bitsLen n:=by
  rw[zsh];have:IntKind.u64.bits=64:=E;omega
 have s1:IntKind.u64.wrap ((1:Int)*2^min ((bitsLen n:Nat):Int).toNat IntKind.u64.bits)=((1<<<bitsLen n:Nat):Int):=by
  rw[hmin,zvk,Nat.one_mul,Int.one_mul,Int.natCast_pow];have e2:((2:Nat):Int)^bitsLen n=((2^bitsLen n:Nat):Int):=(Int.natCast_pow 2 _).symm;rw[show((2:Int)^bitsLen n)=((2:Nat):Int)^bitsLen n from rfl,e2];have hp3:2^bitsLen n<=131072:=hp2;clear hp2 hmin e2;generalize 2^bitsLen n=zwb at *;exact wrap_u64 J J
 have hc:IntKind.u64.wrap (n:Int)=(n:Int):=wrap_u64 J J;refine yl Tryz.func306 Z Tryz.ntmps306 (np Z) hB ((Zw∘Za) ?_);refine z7 (kw Z Z Z vl.1 vl.2 (wrap_u64 J J)) Z (z71 L Z (fun u H hH _=>Fx J hH) ?_);refine z7 (Tm Z Z Z Z J s1) Z (Zc (h:=?_));exact yk2 L [.tmp 2]
def zl4{cap:Nat}(hab:a<=e)(he:e<=d.size)(hm:d.size=m)(hm1:m<=100000)(hB:zwe B w)
  (hr:(xd b (uC d++rest) tyU).P B w C) (hC:ZCB C w B):
  jh zwf 271 [.slice (some ⟨b,0,none⟩) m cap,.int .i64 a,.int .i64 e] w B C (xd b (uC (breakPatterns d a e)++rest) tyU):=by
 unfold jh;refine yz 900 (xd b (uC d++rest) tyU) Tryz.func271 Z Tryz.ntmps271 (np Z) hB hr hC ?_;rw[xe];obtain⟨Ln,rfl⟩:∃ Ln,e=a+Ln:=⟨e-a,by omega⟩
 have hw0:IntKind.i64.wrap (((a+Ln:Nat):Int)-(a:Int))=(Ln:Int):=xb J J |>.trans J;by_cases h8:8<=Ln
 ·have hX:=breakPatterns_eq d a Ln h8;obtain⟨zwb,hM⟩:∃ zwb,zwb=1<<<bitsLen Ln:=⟨_,rfl⟩
  have hb17:bitsLen Ln<=17:=(bitsLen_le_iff Ln 17).2 J
  have hMp:1<=zwb/\zwb<=131072:=by
   rw[hM,zvk,Nat.one_mul];exact⟨Nat.one_le_two_pow,zvm J hb17⟩
  have hM2:zwb<=2*Ln:=by
   rw[hM,zvk,Nat.one_mul];exact two_pow_bitsLen_le J
  obtain⟨I0,hI0⟩:∃ I0,I0=a+Ln/4*2-1:=⟨_,rfl⟩
  rw[<-hM,<-hI0] at hX;have hc1:IntKind.u64.wrap (Ln:Int)=(Ln:Int):=wrap_u64 J J
  have et:((Ln:Nat):Int).tdiv 4=((Ln/4:Nat):Int):=by
   rw[zu8 J];omega
  have hq:IntKind.i64.wrap (((Ln:Nat):Int).tdiv 4)=((Ln/4:Nat):Int):=by rw[et];exact xb J J
  have hw1:IntKind.i64.wrap (((Ln/4:Nat):Int)*2)=((Ln/4*2:Nat):Int):=xb J J |>.trans J;have hw2:IntKind.i64.wrap ((a:Int)+((Ln/4*2:Nat):Int))=((a+Ln/4*2:Nat):Int):=xb J J |>.trans J;have hw3:IntKind.i64.wrap (((a+Ln/4*2:Nat):Int)-1)=(I0:Int):=xb J J |>.trans J;have hw4:IntKind.i64.wrap (((a+Ln/4*2:Nat):Int)+1)=((I0+2:Nat):Int):=xb J J |>.trans J;have hM1:IntKind.u64.wrap ((zwb:Int)-1)=((zwb-1:Nat):Int):=wrap_u64 J J |>.trans J
  have hln:(UInt64.ofNat Ln).toNat=Ln:=by
   rw[UInt64.toNat_ofNat'];exact Nat.mod_eq_of_lt J
  refine(ZT∘ZaR∘Zbb∘ZbJ∘Zr∘Zn) ?_;refine z7 (kw Z Z Z zdw.1 zdw.2 (wrap_u64 J J)) Z (Zcw (h:=?_));refine jg 7 901 rfl fun br=>?_;refine Zz (h:=?_);refine z71 L Z (fun u H hH _=>hM ▸ zgf (n:=Ln) J hH) ?_;refine(Ze∘ZE∘Zb∘Zc6∘Zaj∘Zae) ?_;refine xu (fun s:Nat×(UInt64×Array Int)=>[(0,.is (.slice (some ⟨b,0,none⟩) m cap)),(1,.is (.int .i64 a)),(6,.is (.int .i64 Ln)),(7,.is (.pointer (some ⟨br,0,none⟩))),(8,.is (.int .u64 zwb)),(9,.is (.int .i64 (I0+s.1:Nat))),(900,.own (xr b (uC s.2.2++rest) tyU)),(901,.own (xr br [.int .u64 s.2.1.toNat] tyX))]) (fun s=>s.1<=3/\s.2.2.size=m/\bpRest a Ln zwb I0 (3-s.1) s.1 s.2=breakPatterns d a (a+Ln)) (fun s=>3-s.1) (0,(UInt64.ofNat Ln,d)) ⟨by dsimp only;omega,hm,hX.symm⟩ ⟨Z,Z,Z,Z,Z,Z,Z,by dsimp only;rw[hln];rfl,trivial⟩ ?_;rintro⟨t,⟨r,D⟩⟩ ⟨ht3,hD,hst⟩;dsimp only at ht3 hD hst |-;have hrl:r.toNat<18446744073709551616:=UInt64.toNat_lt r;by_cases ht:t<3
  ·obtain⟨o1,ho1⟩:∃ o1,o1=xorNextN r.toNat &&& (zwb-1):=⟨_,rfl⟩
   have ho1l:o1<=zwb-1:=by rw[ho1];exact Nat.and_le_right
   have hand:bits .and .u64 ((xorNextN r.toNat:Nat):Int) ((zwb-1:Nat):Int)=(o1:Int):=by rw[bits_and_u64_nat _ _ (xorNextN_lt _ hrl) J,ho1]
   have hcv:IntKind.i64.wrap (o1:Int)=(o1:Int):=xb J J;have hwt:IntKind.i64.wrap (((I0+t:Nat):Int)+1)=((I0+(t+1):Nat):Int):=xb J J |>.trans J;by_cases hoL:Ln<=o1
   ·have hw5:IntKind.i64.wrap ((o1:Int)-(Ln:Int))=((o1-Ln:Nat):Int):=xb J J |>.trans J;have hw6:IntKind.i64.wrap ((a:Int)+((o1-Ln:Nat):Int))=((a+(o1-Ln):Nat):Int):=xb J J;have ho:(if (xorNext r).toNat &&& (zwb-1)>=Ln then ((xorNext r).toNat &&& (zwb-1))-Ln else (xorNext r).toNat &&& (zwb-1))=o1-Ln:=by rw[xorNext_toNat,<-ho1,na hoL]
    obtain⟨_,qj⟩:=pd (rest:=rest) (show a+(o1-Ln)<D.size by omega) (0+(a+(o1-Ln))*1) rfl;obtain⟨_,qi⟩:=pd (rest:=rest) (show I0+t<D.size by omega) (0+(I0+t)*1) rfl;have s1:=u5 (rest:=rest) D[a+(o1-Ln)]! (show I0+t<D.size by omega) (0+(I0+t)*1) rfl;have b1:=u7 (rest:=rest) (show I0+t<D.size by omega) (0+(I0+t)*1) rfl;have hz:a+(o1-Ln)<(D.setIfInBounds (I0+t) D[a+(o1-Ln)]!).size:=by rw[zsk];omega
    have s2:=u5 (rest:=rest) D[I0+t]! hz (0+(a+(o1-Ln))*1) rfl;have b2:=u7 (rest:=rest) hz (0+(a+(o1-Ln))*1) rfl;rw[p7] at s2;refine(Zd∘ZF∘Zu∘Zc6∘ZH∘Zda∘Z1∘Zeh∘Z7) ?_;refine qf (yj L 901 (xd br [.int .u64 (xorNextN r.toNat:Nat)] tyX) (.int .u64 (xorNextN r.toNat:Nat)) (r:=xd br [.int .u64 r.toNat] tyX) Z Z Z Z Z (fun u H C hH _ hr hC=>Tt hrl hH hr hC)) ((Za∘Zaj) ?_);refine z7 (zb7 Z Z Z Z hand) Z (z7 (kw Z Z Z vm.1 vm.2 (xb J J)) Z ((Zh∘Z0∘Zb∘Zci∘ZM∘ZaR∘Zc∘ZfU∘ZcX∘Zcu) ?_));refine qy (qk L (q:=900) Z Z Z qj) Z Z (ZV (h:=?_));refine qy (qk L (q:=900) Z Z Z qi) Z Z (Zp (h:=?_));refine xw (yq L (q:=900) Z Z b1 Z s1) Z (Zp (h:=?_));refine xw (yq L (q:=900) Z Z b2 Z s2) Z ((ZbP∘ZD∘Za4) ?_);exact yr (x:=(t,(r,D))) (t+1,(xorNext r,swp D (I0+t) (a+(o1-Ln)))) ⟨by dsimp only;omega,by dsimp only;rw[vi];exact hD,by dsimp only;rw[<-hst,bp_step a Ln zwb I0 t r D ((o1-Ln)) ht ho]⟩ G ⟨Z,Z,Z,Z,Z,Z,Z,by dsimp only;rw[xorNext_toNat];rfl,trivial⟩
   ·have hw6:IntKind.i64.wrap ((a:Int)+(o1:Int))=((a+o1:Nat):Int):=xb J J;have ho:(if (xorNext r).toNat &&& (zwb-1)>=Ln then ((xorNext r).toNat &&& (zwb-1))-Ln else (xorNext r).toNat &&& (zwb-1))=o1:=by rw[xorNext_toNat,<-ho1,nc J]
    obtain⟨_,qj⟩:=pd (rest:=rest) (show a+o1<D.size by omega) (0+(a+o1)*1) rfl;obtain⟨_,qi⟩:=pd (rest:=rest) (show I0+t<D.size by omega) (0+(I0+t)*1) rfl;have s1:=u5 (rest:=rest) D[a+o1]! (show I0+t<D.size by omega) (0+(I0+t)*1) rfl;have b1:=u7 (rest:=rest) (show I0+t<D.size by omega) (0+(I0+t)*1) rfl;have hz:a+o1<(D.setIfInBounds (I0+t) D[a+o1]!).size:=by rw[zsk];omega
    have s2:=u5 (rest:=rest) D[I0+t]! hz (0+(a+o1)*1) rfl;have b2:=u7 (rest:=rest) hz (0+(a+o1)*1) rfl;rw[p7] at s2;refine(Zd∘ZF∘Zu∘Zc6∘ZH∘Zda∘Z1∘Zeh∘Z7) ?_;refine qf (yj L 901 (xd br [.int .u64 (xorNextN r.toNat:Nat)] tyX) (.int .u64 (xorNextN r.toNat:Nat)) (r:=xd br [.int .u64 r.toNat] tyX) Z Z Z Z Z (fun u H C hH _ hr hC=>Tt hrl hH hr hC)) ((Za∘Zaj) ?_);refine z7 (zb7 Z Z Z Z hand) Z (z7 (kw Z Z Z vm.1 vm.2 (xb J J)) Z ((Zh∘Z0∘Zb∘Zav∘Zdy∘ZfU∘ZcX∘Zcu) ?_));refine qy (qk L (q:=900) Z Z Z qj) Z Z (ZV (h:=?_));refine qy (qk L (q:=900) Z Z Z qi) Z Z (Zp (h:=?_));refine xw (yq L (q:=900) Z Z b1 Z s1) Z (Zp (h:=?_));refine xw (yq L (q:=900) Z Z b2 Z s2) Z ((ZbP∘ZD∘Za4) ?_);exact yr (x:=(t,(r,D))) (t+1,(xorNext r,swp D (I0+t) (a+o1))) ⟨by dsimp only;omega,by dsimp only;rw[vi];exact hD,by dsimp only;rw[<-hst,bp_step a Ln zwb I0 t r D (o1) ht ho]⟩ G ⟨Z,Z,Z,Z,Z,Z,Z,by dsimp only;rw[xorNext_toNat];rfl,trivial⟩
  ·obtain rfl:t=3:=by omega
   have hst':D=breakPatterns d a (a+Ln):=hst;rw[hst'];refine(Zd∘ZF∘Zu∘Zc6∘ZH∘ZcV∘Zao∘ZaZ) ?_;exact ki L 900 (r:=xd b _ tyU) Z (fun _ _ h=>h) nq Z Z
 ·have:breakPatterns d a (a+Ln)=d:=by unfold breakPatterns;simp only[Nat.add_sub_cancel_left];rw[if_neg J]
  rw[this];refine(ZT∘ZaR∘Zbb∘Zav∘Zbu) ?_;exact ki L 900 (r:=xd b _ tyU) Z (fun _ _ h=>h) nq Z Z
def _root_.Zfu(t:Wr Y->A:=by intro h;refine z9 (zby L (qt Z M) Z Z Z M) Z ?_;exact h.1)(h:Y):A:=t ⟨h⟩
abbrev tyI:TypeId:=3
def zmt(h:j<d.size):(uC d++rest)[0+j*1]?=some (.int .u64 d[j]!):=by
 rw[zrw,zse,zs7 (by rw[Dw];exact h)];exact zia h
def Lb{cap bs:Nat}(ha:a<m)(he:e<m)(hm:d.size=m)(hm1:m<=100000)(hk:k<=1000)(hB:zwe B w)(hb:B b=some (.cells (uC d++rest).toArray tyU))
  (hr:(xd bs [.int .i64 k] tyI).P B w C) (hC:ZCB C w B):
  RetX zwf 317 [.slice (some ⟨b,0,none⟩) m cap,.int .i64 a,.int .i64 e,.pointer (some ⟨bs,0,none⟩)] w B C (xd bs [.int .i64 (order2 lt d a e k).2.2] tyI) (.tuple #[.int .i64 (order2 lt d a e k).1,.int .i64 (order2 lt d a e k).2.1]):=by
 unfold RetX;refine yz 900 (xd bs [.int .i64 k] tyI) Tryz.func317 Z Tryz.ntmps317 (np Z) hB hr hC ?_;rw[xe];have g1:=zmt (rest:=rest) (show a<d.size by omega);have g2:=zmt (rest:=rest) (show e<d.size by omega);have hw:IntKind.i64.wrap ((k:Int)+1)=((k+1:Nat):Int):=xb J J;unfold order2
 cases hc:lt d[e]! d[a]! with
 | true=>
  refine(ZT∘Zbl∘Zcl∘ZV∘Zfu∘ZV∘Zfu) ?_;refine z91 L Z (fun u H hH _=>wk hc hH) ?_;refine(ZcI∘Zi∘Zn∘Zfg∘Zds∘ZH∘Zfg) ?_;refine xm (yq L (q:=900) Z Z Z Z Z) ((Zk∘ZcU∘Z4) ?_);exact kj L 900 (r:=xd bs _ tyI) (rs:=[.tmp 8,.tmp 9]) Z (fun _ _ h=>h) nq Z Z (fun _=>rfl)
 | false=>
  refine(ZT∘Zbl∘Zcl∘ZV∘Zfu∘ZV∘Zfu) ?_;refine z91 L Z (fun u H hH _=>wk hc hH) ?_;refine(Zbv∘Zbt∘ZE∘Zb∘Z4) ?_;exact kj L 900 (r:=xd bs _ tyI) (rs:=[.tmp 8,.tmp 9]) Z (fun _ _ h=>h) nq Z Z (fun _=>rfl)
def Ev(d:Array Int)(ha:a<m)(he:e<m):(order2 lt d a e k).1<m/\(order2 lt d a e k).2.1<m/\(order2 lt d a e k).2.2<=k+1:=by
 unfold order2;split
 ·exact⟨he,ha,nu _⟩
 ·exact⟨ha,he,zss _⟩
def sj{cap x y z bs:Nat}(hx:x<m)(hy:y<m)(hz:z<m)(hm:d.size=m)(hm1:m<=100000)(hk:k<=900)(hB:zwe B w)(hb:B b=some (.cells (uC d++rest).toArray tyU))
  (hr:(xd bs [.int .i64 k] tyI).P B w C) (hC:ZCB C w B):
  RetX zwf 309 [.slice (some ⟨b,0,none⟩) m cap,.int .i64 x,.int .i64 y,.int .i64 z,.pointer (some ⟨bs,0,none⟩)] w B C (xd bs [.int .i64 (median lt d x y z k).2] tyI) (.int .i64 (median lt d x y z k).1):=by
 unfold RetX;refine yz 900 (xd bs [.int .i64 k] tyI) Tryz.func309 Z Tryz.ntmps309 (np Z) hB hr hC ?_;rw[xe];unfold median;dsimp only;obtain⟨r1,hr1⟩:∃ r,r=order2 lt d x y k:=⟨_,rfl⟩
 rw[<-hr1];obtain⟨r2,hr2⟩:∃ r,r=order2 lt d r1.2.1 z r1.2.2:=⟨_,rfl⟩
 rw[<-hr2];obtain⟨r3,hr3⟩:∃ r,r=order2 lt d r1.1 r2.1 r2.2.2:=⟨_,rfl⟩
 rw[<-hr3];obtain⟨a1,a2,a3⟩:=hr1 ▸ Ev d (k:=k) hx hy;obtain⟨b1,b2,b3⟩:=hr2 ▸ Ev d (k:=r1.2.2) a2 hz;refine(Zw∘Zbk) ?_;refine qf (yj L 900 (xd bs [.int .i64 r1.2.2] tyI) (.tuple #[.int .i64 r1.1,.int .i64 r1.2.1]) (r:=xd bs [.int .i64 k] tyI) Z Z Z Z Z (fun u H C hH hle hr hC=>by have h:=Lb (rest:=rest) (cap:=cap) hx hy hm hm1 (k:=k) J hH (hle _ _ hb) hr hC;rw[<-hr1] at h;exact h)) ?_;refine(Zb0∘ZaE∘Zb) ?_;refine qf (yj L 900 (xd bs [.int .i64 r2.2.2] tyI) (.tuple #[.int .i64 r2.1,.int .i64 r2.2.1]) (r:=xd bs [.int .i64 r1.2.2] tyI) Z Z Z Z Z (fun u H C hH hle hr hC=>by have h:=Lb (rest:=rest) (cap:=cap) a2 hz hm hm1 (k:=r1.2.2) J hH (hle _ _ hb) hr hC;rw[<-hr2] at h;exact h)) ?_;refine(Zb0∘ZcU∘Zb) ?_;refine qf (yj L 900 (xd bs [.int .i64 r3.2.2] tyI) (.tuple #[.int .i64 r3.1,.int .i64 r3.2.1]) (r:=xd bs [.int .i64 r2.2.2] tyI) Z Z Z Z Z (fun u H C hH hle hr hC=>by have h:=Lb (rest:=rest) (cap:=cap) a1 b1 hm hm1 (k:=r2.2.2) J hH (hle _ _ hb) hr hC;rw[<-hr3] at h;exact h)) ?_;refine(Zb0∘Zt∘Zc) ?_;exact kj L 900 (r:=xd bs _ tyI) (rs:=[.tmp 10]) Z (fun _ _ h=>h) nq Z Z (fun _=>rfl)
def zcn(d:Array Int){x y z:Nat}(hx:x<m)(hy:y<m)(hz:z<m):(median lt d x y z k).1<m/\(median lt d x y z k).2<=k+3:=by
 unfold median;dsimp only;obtain⟨a1,a2,a3⟩:=Ev d (k:=k) hx hy;obtain⟨b1,b2,b3⟩:=Ev d (k:=(order2 lt d x y k).2.2) a2 hz;obtain⟨c1,c2,c3⟩:=Ev d (k:=(order2 lt d (order2 lt d x y k).2.1 z (order2 lt d x y k).2.2).2.2) a1 b1;exact⟨c2,by omega⟩
def dx{cap x bs:Nat}(h1:1<=x)(hx:x+1<m)(hm:d.size=m)(hm1:m<=100000)(hk:k<=900)(hB:zwe B w)(hb:B b=some (.cells (uC d++rest).toArray tyU))
  (hr:(xd bs [.int .i64 k] tyI).P B w C) (hC:ZCB C w B):
  RetX zwf 308 [.slice (some ⟨b,0,none⟩) m cap,.int .i64 x,.pointer (some ⟨bs,0,none⟩)] w B C (xd bs [.int .i64 (medianAdjacent lt d x k).2] tyI) (.int .i64 (medianAdjacent lt d x k).1):=by
 unfold RetX;refine yz 900 (xd bs [.int .i64 k] tyI) Tryz.func308 Z Tryz.ntmps308 (np Z) hB hr hC ?_;rw[xe];unfold medianAdjacent;have hw1:IntKind.i64.wrap ((x:Int)-1)=((x-1:Nat):Int):=xb J J |>.trans J;have hw2:IntKind.i64.wrap ((x:Int)+1)=((x+1:Nat):Int):=xb J J;refine(Zw∘ZaR∘Zb∘ZH∘Za) ?_;refine qf (yj L 900 (xd bs [.int .i64 (median lt d (x-1) x (x+1) k).2] tyI) (.int .i64 (median lt d (x-1) x (x+1) k).1) (r:=xd bs [.int .i64 k] tyI) Z Z Z Z Z (fun u H C hH hle hr hC=>sj (rest:=rest) (cap:=cap) J J J hm hm1 hk hH (hle _ _ hb) hr hC)) (Zc (h:=?_));exact kj L 900 (r:=xd bs _ tyI) (rs:=[.tmp 6]) Z (fun _ _ h=>h) nq Z Z (fun _=>rfl)
def _root_.Zev(t:Wr Y->A:=by intro h;refine ye (qk L (q:=901) Z Z Z Z) ?_;exact h.1)(h:Y):A:=t ⟨h⟩
def _root_.ZbQ(t:Wr Y->A:=by exact fun h=>(Z8∘ZcM) h.1)(h:Y):A:=t ⟨h⟩
def Mg:Hint->Int
 | .unknown=>0
 | .increasing=>1
 | .decreasing=>2
def zkj{cap:Nat}(h12:12<e-a)(he:e<=m)(hm:d.size=m)(hm1:m<=100000)(hB:zwe B w)(hb:B b=some (.cells (uC d++rest).toArray tyU)):
  Ret zwf 272 [.slice (some ⟨b,0,none⟩) m cap,.int .i64 a,.int .i64 e] w B (fun v _=>v=.tuple #[.int .i64 (choosePivot lt d a e).1,.int .i64 (Mg (choosePivot lt d a e).2)]):=by
 obtain⟨Ln,rfl⟩:∃ Ln,e=a+Ln:=⟨e-a,by omega⟩
 rw[zv5] at h12;unfold choosePivot;rw[zv5];dsimp only;obtain⟨q,hq⟩:∃ q,q=Ln/4:=⟨_,rfl⟩
 rw[<-hq,na J];have hw0:IntKind.i64.wrap (((a+Ln:Nat):Int)-(a:Int))=(Ln:Int):=xb J J |>.trans J
 have et:((Ln:Nat):Int).tdiv 4=(q:Int):=by
  rw[zu8 J];omega
 have hq1:IntKind.i64.wrap (((Ln:Nat):Int).tdiv 4)=(q:Int):=by rw[et];exact xb J J
 have m1:IntKind.i64.wrap ((q:Int)*1)=((q*1:Nat):Int):=xb J J |>.trans J;have m2:IntKind.i64.wrap ((q:Int)*2)=((q*2:Nat):Int):=xb J J |>.trans J;have m3:IntKind.i64.wrap ((q:Int)*3)=((q*3:Nat):Int):=xb J J |>.trans J;have p1:IntKind.i64.wrap ((a:Int)+((q*1:Nat):Int))=((a+q*1:Nat):Int):=xb J J |>.trans J;have p2:IntKind.i64.wrap ((a:Int)+((q*2:Nat):Int))=((a+q*2:Nat):Int):=xb J J |>.trans J;have p3:IntKind.i64.wrap ((a:Int)+((q*3:Nat):Int))=((a+q*3:Nat):Int):=xb J J |>.trans J;refine yl Tryz.func272 Z Tryz.ntmps272 (np Z) hB ((Za6∘Zad∘ZaR∘Ze∘ZL∘Zc4) ?_);refine jg 9 901 rfl fun bs=>?_;by_cases h50:Ln>=50
 ·rw[na h50];obtain⟨r1,hr1⟩:∃ r,r=medianAdjacent lt d (a+q*1) 0:=⟨_,rfl⟩
  rw[<-hr1];obtain⟨r2,hr2⟩:∃ r,r=medianAdjacent lt d (a+q*2) r1.2:=⟨_,rfl⟩
  rw[<-hr2];obtain⟨r3,hr3⟩:∃ r,r=medianAdjacent lt d (a+q*3) r2.2:=⟨_,rfl⟩
  rw[<-hr3];obtain⟨r4,hr4⟩:∃ r,r=median lt d r1.1 r2.1 r3.1 r3.2:=⟨_,rfl⟩
  rw[<-hr4];obtain⟨l1,s1⟩:r1.1<m/\r1.2<=0+3:=hr1 ▸ zcn d J J J;obtain⟨l2,s2⟩:r2.1<m/\r2.2<=r1.2+3:=hr2 ▸ zcn d J J J;obtain⟨l3,s3⟩:r3.1<m/\r3.2<=r2.2+3:=hr3 ▸ zcn d J J J;by_cases z0:r4.2=0
  ·rw[na z0];refine(ZcU∘Zc6∘Ze∘ZE∘Zb∘Zc6∘Ze∘ZbG∘Zc6∘Zh∘ZD∘Zci∘Zd∘Z6∘ZbJ∘Zr∘Z0∘Zb) ?_;refine qf (yj L 901 (xd bs [.int .i64 r1.2] tyI) (.int .i64 r1.1) (r:=xd bs [.int .i64 0] tyI) Z Z Z Z Z (fun u H C hH hle hr hC=>by have h:=dx (rest:=rest) (cap:=cap) (d:=d) (x:=a+q*1) (k:=0) J J hm hm1 J hH (hle _ _ hb) hr hC;rw[<-hr1] at h;exact h)) ?_;refine(Ze∘ZM∘Zb) ?_;refine qf (yj L 901 (xd bs [.int .i64 r2.2] tyI) (.int .i64 r2.1) (r:=xd bs [.int .i64 r1.2] tyI) Z Z Z Z Z (fun u H C hH hle hr hC=>by have h:=dx (rest:=rest) (cap:=cap) (d:=d) (x:=a+q*2) (k:=r1.2) J J hm hm1 J hH (hle _ _ hb) hr hC;rw[<-hr2] at h;exact h)) ?_;refine(Zc∘Zcq) ?_;refine qf (yj L 901 (xd bs [.int .i64 r3.2] tyI) (.int .i64 r3.1) (r:=xd bs [.int .i64 r2.2] tyI) Z Z Z Z Z (fun u H C hH hle hr hC=>by have h:=dx (rest:=rest) (cap:=cap) (d:=d) (x:=a+q*3) (k:=r2.2) J J hm hm1 J hH (hle _ _ hb) hr hC;rw[<-hr3] at h;exact h)) ?_;refine(Zc∘Zay∘Zbk) ?_;refine qf (yj L 901 (xd bs [.int .i64 r4.2] tyI) (.int .i64 r4.1) (r:=xd bs [.int .i64 r3.2] tyI) Z Z Z Z Z (fun u H C hH hle hr hC=>by have h:=sj (rest:=rest) (cap:=cap) (d:=d) (x:=r1.1) (y:=r2.1) (z:=r3.1) (k:=r3.2) J J J hm hm1 J hH (hle _ _ hb) hr hC;rw[<-hr4] at h;exact h)) ?_;refine(Ze∘ZQ∘Zev∘ZB∘ZZ∘ZaP∘Zx∘Zcd∘Zi∘Zat∘Za∘Z4) ?_;exact yk2 L [.tmp 6,.tmp 7]
  ·rw[nc z0];by_cases z12:r4.2=12
   ·rw[na z12];refine(ZcU∘Zc6∘Ze∘ZE∘Zb∘Zc6∘Ze∘ZbG∘Zc6∘Zh∘ZD∘Zci∘Zd∘Z6∘ZbJ∘Zr∘Z0∘Zb) ?_;refine qf (yj L 901 (xd bs [.int .i64 r1.2] tyI) (.int .i64 r1.1) (r:=xd bs [.int .i64 0] tyI) Z Z Z Z Z (fun u H C hH hle hr hC=>by have h:=dx (rest:=rest) (cap:=cap) (d:=d) (x:=a+q*1) (k:=0) J J hm hm1 J hH (hle _ _ hb) hr hC;rw[<-hr1] at h;exact h)) ?_;refine(Ze∘ZM∘Zb) ?_;refine qf (yj L 901 (xd bs [.int .i64 r2.2] tyI) (.int .i64 r2.1) (r:=xd bs [.int .i64 r1.2] tyI) Z Z Z Z Z (fun u H C hH hle hr hC=>by have h:=dx (rest:=rest) (cap:=cap) (d:=d) (x:=a+q*2) (k:=r1.2) J J hm hm1 J hH (hle _ _ hb) hr hC;rw[<-hr2] at h;exact h)) ?_;refine(Zc∘Zcq) ?_;refine qf (yj L 901 (xd bs [.int .i64 r3.2] tyI) (.int .i64 r3.1) (r:=xd bs [.int .i64 r2.2] tyI) Z Z Z Z Z (fun u H C hH hle hr hC=>by have h:=dx (rest:=rest) (cap:=cap) (d:=d) (x:=a+q*3) (k:=r2.2) J J hm hm1 J hH (hle _ _ hb) hr hC;rw[<-hr3] at h;exact h)) ?_;refine(Zc∘Zay∘Zbk) ?_;refine qf (yj L 901 (xd bs [.int .i64 r4.2] tyI) (.int .i64 r4.1) (r:=xd bs [.int .i64 r3.2] tyI) Z Z Z Z Z (fun u H C hH hle hr hC=>by have h:=sj (rest:=rest) (cap:=cap) (d:=d) (x:=r1.1) (y:=r2.1) (z:=r3.1) (k:=r3.2) J J J hm hm1 J hH (hle _ _ hb) hr hC;rw[<-hr4] at h;exact h)) ?_;refine(Ze∘ZQ∘Zev∘ZB∘ZZ∘ZaP∘ZbQ∘Zal∘Zx∘Zcd∘Zi∘Zbm∘Za∘Z4) ?_;exact yk2 L [.tmp 6,.tmp 7]
   ·rw[nc z12];refine(ZcU∘Zc6∘Ze∘ZE∘Zb∘Zc6∘Ze∘ZbG∘Zc6∘Zh∘ZD∘Zci∘Zd∘Z6∘ZbJ∘Zr∘Z0∘Zb) ?_;refine qf (yj L 901 (xd bs [.int .i64 r1.2] tyI) (.int .i64 r1.1) (r:=xd bs [.int .i64 0] tyI) Z Z Z Z Z (fun u H C hH hle hr hC=>by have h:=dx (rest:=rest) (cap:=cap) (d:=d) (x:=a+q*1) (k:=0) J J hm hm1 J hH (hle _ _ hb) hr hC;rw[<-hr1] at h;exact h)) ?_;refine(Ze∘ZM∘Zb) ?_;refine qf (yj L 901 (xd bs [.int .i64 r2.2] tyI) (.int .i64 r2.1) (r:=xd bs [.int .i64 r1.2] tyI) Z Z Z Z Z (fun u H C hH hle hr hC=>by have h:=dx (rest:=rest) (cap:=cap) (d:=d) (x:=a+q*2) (k:=r1.2) J J hm hm1 J hH (hle _ _ hb) hr hC;rw[<-hr2] at h;exact h)) ?_;refine(Zc∘Zcq) ?_;refine qf (yj L 901 (xd bs [.int .i64 r3.2] tyI) (.int .i64 r3.1) (r:=xd bs [.int .i64 r2.2] tyI) Z Z Z Z Z (fun u H C hH hle hr hC=>by have h:=dx (rest:=rest) (cap:=cap) (d:=d) (x:=a+q*3) (k:=r2.2) J J hm hm1 J hH (hle _ _ hb) hr hC;rw[<-hr3] at h;exact h)) ?_;refine(Zc∘Zay∘Zbk) ?_;refine qf (yj L 901 (xd bs [.int .i64 r4.2] tyI) (.int .i64 r4.1) (r:=xd bs [.int .i64 r3.2] tyI) Z Z Z Z Z (fun u H C hH hle hr hC=>by have h:=sj (rest:=rest) (cap:=cap) (d:=d) (x:=r1.1) (y:=r2.1) (z:=r3.1) (k:=r3.2) J J J hm hm1 J hH (hle _ _ hb) hr hC;rw[<-hr4] at h;exact h)) ?_;refine(Ze∘ZQ∘Zev∘ZB∘ZZ∘ZaP∘ZbQ∘Zal∘ZbQ∘ZU∘Za∘Z4) ?_;exact yk2 L [.tmp 6,.tmp 7]
 ·rw[nc h50];obtain⟨r4,hr4⟩:∃ r,r=median lt d (a+q*1) (a+q*2) (a+q*3) 0:=⟨_,rfl⟩
  rw[<-hr4];by_cases z0:r4.2=0
  ·rw[na z0];refine(ZcU∘Zc6∘Ze∘ZE∘Zb∘Zc6∘Ze∘ZbG∘Zc6∘Zh∘ZD∘Zci∘Zd∘Z6∘Zav∘Zdy∘Zay∘Zbk) ?_;refine qf (yj L 901 (xd bs [.int .i64 r4.2] tyI) (.int .i64 r4.1) (r:=xd bs [.int .i64 0] tyI) Z Z Z Z Z (fun u H C hH hle hr hC=>by have h:=sj (rest:=rest) (cap:=cap) (d:=d) (x:=a+q*1) (y:=a+q*2) (z:=a+q*3) (k:=0) J J J hm hm1 J hH (hle _ _ hb) hr hC;rw[<-hr4] at h;exact h)) ?_;refine(Ze∘ZQ∘Zev∘ZB∘ZZ∘ZaP∘Zx∘Zcd∘Zi∘Zat∘Za∘Z4) ?_;exact yk2 L [.tmp 6,.tmp 7]
  ·rw[nc z0];by_cases z12:r4.2=12
   ·rw[na z12];refine(ZcU∘Zc6∘Ze∘ZE∘Zb∘Zc6∘Ze∘ZbG∘Zc6∘Zh∘ZD∘Zci∘Zd∘Z6∘Zav∘Zdy∘Zay∘Zbk) ?_;refine qf (yj L 901 (xd bs [.int .i64 r4.2] tyI) (.int .i64 r4.1) (r:=xd bs [.int .i64 0] tyI) Z Z Z Z Z (fun u H C hH hle hr hC=>by have h:=sj (rest:=rest) (cap:=cap) (d:=d) (x:=a+q*1) (y:=a+q*2) (z:=a+q*3) (k:=0) J J J hm hm1 J hH (hle _ _ hb) hr hC;rw[<-hr4] at h;exact h)) ?_;refine(Ze∘ZQ∘Zev∘ZB∘ZZ∘ZaP∘ZbQ∘Zal∘Zx∘Zcd∘Zi∘Zbm∘Za∘Z4) ?_;exact yk2 L [.tmp 6,.tmp 7]
   ·rw[nc z12];refine(ZcU∘Zc6∘Ze∘ZE∘Zb∘Zc6∘Ze∘ZbG∘Zc6∘Zh∘ZD∘Zci∘Zd∘Z6∘Zav∘Zdy∘Zay∘Zbk) ?_;refine qf (yj L 901 (xd bs [.int .i64 r4.2] tyI) (.int .i64 r4.1) (r:=xd bs [.int .i64 0] tyI) Z Z Z Z Z (fun u H C hH hle hr hC=>by have h:=sj (rest:=rest) (cap:=cap) (d:=d) (x:=a+q*1) (y:=a+q*2) (z:=a+q*3) (k:=0) J J J hm hm1 J hH (hle _ _ hb) hr hC;rw[<-hr4] at h;exact h)) ?_;refine(Ze∘ZQ∘Zev∘ZB∘ZZ∘ZaP∘ZbQ∘Zal∘ZbQ∘ZU∘Za∘Z4) ?_;exact yk2 L [.tmp 6,.tmp 7]
def _root_.Zeb(t:Wr Y->A:=by intro h;refine qp (id:=17) [(200080,[900]),(200084,[900])] kr T ?_;exact h.1)(h:Y):A:=t ⟨h⟩
def _root_.ZdR(t:Wr Y->A:=by intro h;refine zh (id:=27) ?_;exact h.1)(h:Y):A:=t ⟨h⟩
def _root_.Zec(t:Wr Y->A:=by intro h;refine zh (id:=23) ?_;exact h.1)(h:Y):A:=t ⟨h⟩
def _root_.Zed(t:Wr Y->A:=by intro h;refine zh (id:=25) ?_;exact h.1)(h:Y):A:=t ⟨h⟩
def zdh{h:Hint}:Mg h=2↔h=.decreasing:=by cases h<;>simp [Mg]
def zk7{cs:List Value}:∀ v H u C,(xr b cs ty).P v H u C->joinH H u C b=some (.cells cs.toArray ty):=fun _ _ _ _ ⟨hb,hC⟩=>(bp ((hC b).2 rfl)).trans hb
def zko:∀ (N:Nat) {d:Array Int} {rest:List Value} {b m cap a e lim:Nat} (_:e-a<N) (_:a<=e) (_:e<=m) (_:d.size=m) (_:m<=100000) (_:lim<=1000) (_:Below lt a e d) {w:World} {B:Heap} {C:Nat->Prop} (_:zwe B w)
  (_:(xd b (uC d++rest) tyU).P B w C) (_:ZCB C w B),
  jh zwf 223 [.slice (some ⟨b,0,none⟩) m cap,.int .i64 a,.int .i64 e,.int .i64 lim] w B C (xd b (uC (pdq lt d a e lim true true)++rest) tyU):=by
 intro N
 induction N with
 | zero=>intro d rest b m cap a e lim h;omega
 | succ N ih=>
 intro d rest b m cap a e lim hN hab he hm hm1 hlim hBel w B C hB hr hC;unfold jh;refine yz 900 (xd b (uC d++rest) tyU) Tryz.func223 Z Tryz.ntmps223 (np Z) hB hr hC ?_;rw[xe];obtain⟨X,hX⟩:∃ X,X=pdq lt d a e lim true true:=⟨_,rfl⟩
 rw[<-hX];refine(Zw∘Zae) ?_
 refine xu (fun s:((Nat×Nat)×Nat)×((Bool×Bool)×Array Int)=>[(0,.is (.slice (some ⟨b,0,none⟩) m cap)),(1,.is (.int .i64 s.1.1.1)),(2,.is (.int .i64 s.1.1.2)),(3,.is (.int .i64 s.1.2)),(8,.is (.bool s.2.1.1)),(9,.is (.bool s.2.1.2)),(900,.own (xr b (uC s.2.2++rest) tyU))])
  (fun s=>s.1.1.1<=s.1.1.2/\s.1.1.2<=m/\s.1.1.2-s.1.1.1<=e-a/\s.1.2<=1000/\s.2.2.size=m/\Below lt s.1.1.1 s.1.1.2 s.2.2/\pdq lt s.2.2 s.1.1.1 s.1.1.2 s.1.2 s.2.1.1 s.2.1.2=X) (fun s=>s.1.1.2-s.1.1.1) (((a,e),lim),((true,true),d)) ⟨hab,he,nu _,hlim,hm,hBel,hX.symm⟩ ⟨rfl,rfl,rfl,rfl,rfl,rfl,rfl,nm⟩ ?_
 rintro⟨⟨⟨x,y⟩,l⟩,⟨⟨wb,wp⟩,D⟩⟩ ⟨hxy,hy,hL,hl,hD,hBl,hP⟩;dsimp only at hxy hy hL hl hD hBl hP |-;clear hX hBel hm;have hw0:IntKind.i64.wrap ((y:Int)-(x:Int))=((y-x:Nat):Int):=xb J J |>.trans J;by_cases h12:y-x<=12
 ·rw[pdq_small h12] at hP;rw[<-hP];refine(ZZ∘ZaE∘Zaj∘Zh∘Zz∘Zda∘Zr∘ZE∘Zu) ?_;refine qf (xg L 900 (xd b (uC (insertionSort lt D x y)++rest) tyU) (r:=xd b (uC D++rest) tyU) Z Z Z Z Z (fun u H C hH _ hr hC=>ins_ret hxy J hD hm1 hH hr hC)) (ZB (h:=?_));exact j9 L 900 (r:=xd b _ tyU) Z (fun _ _ h=>h) nq Z Z
 ·by_cases hl0:l=0
  ·rw[pdq_heap h12 hl0] at hP;rw[<-hP];refine(ZZ∘ZaE∘Zaj∘Zh∘Zz∘ZcV∘ZK∘ZC∘Zx∘Zr∘Z5∘Zu) ?_;refine qf (xg L 900 (xd b (uC (heapSort lt D x y)++rest) tyU) (r:=xd b (uC D++rest) tyU) Z Z Z Z Z (fun u H C hH _ hr hC=>zgz J J hD hm1 hH hr hC)) (ZB (h:=?_));exact j9 L 900 (r:=xd b _ tyU) Z (fun _ _ h=>h) nq Z Z
  ·obtain⟨s1,B1,hc1,s2,B2,hpv,s3,B3⟩:=rd_facts (lt:=lt) (limit:=l) (wb:=wb) (wp:=wp) swo_ltInt partialInsertionSort_holds reverseRange_holds (show x<y by omega) (show y<=D.size by omega) hBl;have hlle:(rd lt D x y l wb wp).lim<=1000:=mq rd_lim_le hl;have hdone:=fun h=>pdq_done (lt:=lt) (d:=D) (wb:=wb) (wp:=wp) h12 hl0 h;have heq:=fun h1 h2 h3=>pdq_eq (lt:=lt) (d:=D) (wb:=wb) (wp:=wp) h12 hl0 h1 h2 h3;have hleft:=fun h1 h2 h3 h4=>pdq_left (lt:=lt) (d:=D) (wb:=wb) (wp:=wp) h12 hl0 h1 h2 h3 h4;have hright:=fun h1 h2 h3 h4=>pdq_right (lt:=lt) (d:=D) (wb:=wb) (wp:=wp) h12 hl0 h1 h2 h3 h4;have hrt:wb=true->(rd lt D x y l wb wp).d1=D/\(rd lt D x y l wb wp).lim=l:=fun e=>by subst e;exact rd_true
   have hrf:wb=false->(rd lt D x y l wb wp).d1=breakPatterns D x y/\(rd lt D x y l wb wp).lim=l-1:=fun e=>by subst e;exact rd_false
   have hrc:=rd_c (lt:=lt) (d:=D) (a:=x) (b:=y) (limit:=l) (wb:=wb) (wp:=wp);have hde:=fun h=>rd_dec (lt:=lt) (d:=D) (a:=x) (b:=y) (limit:=l) (wb:=wb) (wp:=wp) h;have hno:=fun h=>rd_not (lt:=lt) (d:=D) (a:=x) (b:=y) (limit:=l) (wb:=wb) (wp:=wp) h;have hpy:=fun h=>rd_pi_yes (lt:=lt) (d:=D) (a:=x) (b:=y) (limit:=l) (wb:=wb) (wp:=wp) h;have hpn:=fun h=>rd_pi_no (lt:=lt) (d:=D) (a:=x) (b:=y) (limit:=l) (wb:=wb) (wp:=wp) h;rw[hP] at hdone heq hleft hright;generalize (rd lt D x y l wb wp)=R at *;refine(ZZ∘ZaE∘Zaj∘Zh∘Zz∘ZcV∘ZK∘ZC∘Z8∘ZK) ?_;refine ig (fun _:Unit=>[(0,.is (.slice (some ⟨b,0,none⟩) m cap)),(1,.is (.int .i64 x)),(2,.is (.int .i64 y)),(3,.is (.int .i64 R.lim)),(8,.is (.bool wb)),(9,.is (.bool wp)),(10,.is (.int .i64 (y-x:Nat))),(900,.own (xr b (uC R.d1++rest) tyU))]) (fun _=>True) (fun _=>[]) ?rest1 ?first1
   case first1=>
    cases wb with
    | true=>
     obtain⟨e1,e2⟩:=hrt rfl;rw[e1,e2];refine(Z6∘Zo∘Zbu) ?_;exact jz () nq trivial Z ⟨Z,Z,Z,Z,Z,Z,Z,Z,nm⟩
    | false=>
     obtain⟨e1,e2⟩:=hrf rfl;have hw1:IntKind.i64.wrap ((l:Int)-1)=((l-1:Nat):Int):=xb J J |>.trans J;rw[e1,e2];refine(Z6∘Zo∘Zr∘Z0∘Zu) ?_;refine qf (xg L 900 (xd b (uC (breakPatterns D x y)++rest) tyU) (r:=xd b (uC D++rest) tyU) Z Z Z Z Z (fun u H C hH _ hr hC=>zl4 J J hD hm1 hH hr hC)) ((ZB∘Zai∘Zaj∘ZaT) ?_);exact jz () nq trivial Z ⟨Z,Z,Z,Z,Z,Z,Z,Z,nm⟩
   intro _ _;refine(Zi∘ZaH∘Zu) ?_;refine ye (xz L 900 (Φ:=fun H=>H b=some (.cells (uC R.d1++rest).toArray tyU)) (c:=.tuple #[.int .i64 R.c.1,.int .i64 (Mg R.c.2)]) Z Z (zn Z) Z Z Z Z Z zk7 (fun u H hH hle h1=>by rw[hrc];exact zkj J hy J hm1 hH h1)) ?_;refine(ZW∘Zbl) ?_;refine ig (fun _:Unit=>[(0,.is (.slice (some ⟨b,0,none⟩) m cap)),(1,.is (.int .i64 x)),(2,.is (.int .i64 y)),(3,.is (.int .i64 R.lim)),(8,.is (.bool wb)),(9,.is (.bool wp)),(10,.is (.int .i64 (y-x:Nat))),(11,.is (.int .i64 R.pivot)),(12,.is (.int .i64 (Mg R.hint))),(900,.own (xr b (uC R.d2++rest) tyU))]) (fun _=>True) (fun _=>[]) ?rest2 ?first2
   case first2=>
    by_cases hdec:R.c.2=.decreasing
    ·obtain⟨e1,e2,e3⟩:=hde hdec;have hz:Mg R.c.2=2:=by rw[hdec];rfl
     rw[e1,e2,e3];have w1:IntKind.i64.wrap ((y:Int)-1)=((y-1:Nat):Int):=xb J J |>.trans J;have w2:IntKind.i64.wrap ((R.c.1:Int)-(x:Int))=((R.c.1-x:Nat):Int):=xb J J |>.trans J;have w3:IntKind.i64.wrap (((y-1:Nat):Int)-((R.c.1-x:Nat):Int))=((y-1-(R.c.1-x):Nat):Int):=xb J J |>.trans J;refine(ZbL∘Zx∘Zr∘ZQ∘Zu) ?_;refine qf (xg L 900 (xd b (uC (reverseRange R.d1 x y)++rest) tyU) (r:=xd b (uC R.d1++rest) tyU) Z Z Z Z Z (fun u H C hH _ hr hC=>rev_ret J J J hm1 hH hr hC)) ((Zk∘ZU∘Za∘Zaj∘ZaR∘Zaj∘Zc∘ZaP∘ZaT) ?_);exact jz () nq trivial Z ⟨Z,Z,Z,Z,Z,Z,Z,Z,Z,Z,nm⟩
    ·obtain⟨e1,e2,e3⟩:=hno hdec;have hz:Mg R.c.2≠2:=fun h=>hdec (zdh.1 h);rw[e1,e2,e3];refine(ZbL∘Z8∘Zbu) ?_;exact jz () nq trivial Z ⟨Z,Z,Z,Z,Z,Z,Z,Z,Z,Z,nm⟩
   intro _ _;refine zj (zj (ig (fun _:Unit=>[(0,.is (.slice (some ⟨b,0,none⟩) m cap)),(1,.is (.int .i64 x)),(2,.is (.int .i64 y)),(3,.is (.int .i64 R.lim)),(8,.is (.bool wb)),(9,.is (.bool wp)),(10,.is (.int .i64 (y-x:Nat))),(11,.is (.int .i64 R.pivot)),(900,.own (xr b (uC R.pi.1++rest) tyU))]) (fun _=>R.pi.2=false) (fun _=>[]) ?rest3 ?first3))
   case first3=>
    cases wb with
    | false=>
     have hpi:=hpn rfl;rw[hpi];refine(Zat∘Zb∘ZcG∘ZcF∘Zf∘Zbu) ?_;exact jz () nq Z Z ⟨Z,Z,Z,Z,Z,Z,Z,Z,Z,nm⟩
    | true=>
     cases wp with
     | false=>
      have hpi:=hpn rfl;rw[hpi];refine(Zat∘Zu∘Zf∘ZcF∘Zf∘Zbu) ?_;exact jz () nq Z Z ⟨Z,Z,Z,Z,Z,Z,Z,Z,Z,nm⟩
     | true=>
      by_cases hi:R.hint=.increasing
      ·have hz:Mg R.hint=1:=by rw[hi];rfl
       have hpi:=hpy (by rw[hi];rfl)
       cases hb:(partialInsertionSort lt R.d2 x y).2 with
       | true=>
        rw[hdone (by rw[hpi];exact hb)];refine(Zat∘Zu∘ZaV∘Zx∘Zf∘Zr∘Zal∘Zu) ?_;refine qf (yj L 900 (xd b (uC R.pi.1++rest) tyU) (.bool true) (r:=xd b (uC R.d2++rest) tyU) Z Z Z Z Z (fun u H C hH hle hr hC=>by have h:=pins_ret (rest:=rest) (cap:=cap) (d:=R.d2) (a:=x) (e:=y) (m:=m) J J J hm1 hH hr hC;rw[hb,<-hpi] at h;exact h)) ?_;refine Z1 (h:=?_);exact j9 L 900 (r:=xd b _ tyU) Z (fun _ _ h=>h) nq Z Z
       | false=>
        refine(Zat∘Zu∘ZaV∘Zx∘Zf∘Zr∘Zal∘Zu) ?_;refine qf (yj L 900 (xd b (uC R.pi.1++rest) tyU) (.bool false) (r:=xd b (uC R.d2++rest) tyU) Z Z Z Z Z (fun u H C hH hle hr hC=>by have h:=pins_ret (rest:=rest) (cap:=cap) (d:=R.d2) (a:=x) (e:=y) (m:=m) J J J hm1 hH hr hC;rw[hb,<-hpi] at h;exact h)) ?_;refine Zbu (h:=?_);exact jz () nq (by rw[hpi];exact hb) Z ⟨Z,Z,Z,Z,Z,Z,Z,Z,Z,nm⟩
      ·have hz:Mg R.hint≠1:=fun h=>by
        cases hh:R.hint with
        | unknown=>rw[hh] at h;cases h
        | increasing=>exact hi hh
        | decreasing=>rw[hh] at h;cases h
       have hpi:=hpn (by simp [hi]);rw[hpi];refine(Zat∘Zu∘ZaV∘Z8∘Zf∘Zbu) ?_;exact jz () nq Z Z ⟨Z,Z,Z,Z,Z,Z,Z,Z,Z,nm⟩
   intro _ h2;obtain⟨_,q2⟩:=pd (rest:=rest) (show R.pivot<R.pi.1.size by omega) (0+(R.pivot)*1) rfl;by_cases hx0:0<x
   ·obtain⟨_,q1⟩:=pd (rest:=rest) (show x-1<R.pi.1.size by omega) (0+(x-1)*1) rfl;have hw3:IntKind.i64.wrap ((x:Int)-1)=((x-1:Nat):Int):=xb J J |>.trans J
    cases hc:lt R.pi.1[x-1]! R.pi.1[R.pivot]! with
    | false=>
     obtain⟨mid,d4,hx⟩:∃ mid d4,partitionEqual lt R.pi.1 x y R.pivot=(mid,d4):=⟨_,_,rfl⟩
     obtain⟨g1,g2,g3,g4,_⟩:=round_eq swo_ltInt (partitionEqual_holds lt) hx0 hpv.1 hpv.2 J B3 hc hx;have hn:=heq h2 (by simp [hx0,hc]) (by rw[hx];exact⟨g1,g2⟩);rw[hx] at hn;refine(Zd∘Zeb∘Zl∘Zd9∘ZbC∘Zd2∘Zp) ?_;refine qy (qk L (q:=900) Z Z Z q1) Z Z (ZV (h:=?_));refine qy (qk L (q:=900) Z Z Z q2) Z Z (z91 L Z (fun u H hH _=>wk hc hH) ?_);refine(ZaJ∘Zc2∘Zi∘ZaX∘Zbk) ?_;refine qf (yj L 900 (xd b (uC d4++rest) tyU) (.int .i64 mid) (r:=xd b (uC R.pi.1++rest) tyU) Z Z Z Z Z (fun u H C hH hle hr hC=>by have h:=zkn (rest:=rest) (cap:=cap) (d:=R.pi.1) hpv.1 hpv.2 J (m:=m) J hm1 hH hr hC;rw[hx] at h;exact h)) ?_;refine(Ze∘Zc5∘Za∘Zc∘ZeC∘ZdH) ?_;exact yr (x:=(((x,y),l),((wb,wp),D))) (((mid,y),R.lim),((wb,wp),d4)) ⟨by dsimp only;omega,hy,by dsimp only;omega,hlle,by dsimp only;omega,g4,hn.symm⟩ G ⟨Z,Z,Z,Z,Z,Z,Z,trivial⟩
    | true=>
     have h2b:(decide (x>0) && !lt R.pi.1[x-1]! R.pi.1[R.pivot]!)=false:=by simp [hc]
     obtain⟨mid,ap,d4,hx⟩:∃ mid ap d4,Go.Sort.partition lt R.pi.1 x y R.pivot=(mid,ap,d4):=⟨_,_,_,rfl⟩
     obtain⟨g1,g2,g3,g4,g5,gL,gR⟩:=round_part swo_ltInt (partition_holds lt) hpv.1 hpv.2 J B3 hx;have w1:IntKind.i64.wrap ((mid:Int)-(x:Int))=((mid-x:Nat):Int):=xb J J |>.trans J;have w2:IntKind.i64.wrap ((y:Int)-(mid:Int))=((y-mid:Nat):Int):=xb J J |>.trans J;have w4:IntKind.i64.wrap ((mid:Int)+1)=((mid+1:Nat):Int):=xb J J
     have et:((y-x:Nat):Int).tdiv 8=(((y-x)/8:Nat):Int):=by
      rw[zu8 J];omega
     have w3:IntKind.i64.wrap (((y-x:Nat):Int).tdiv 8)=(((y-x)/8:Nat):Int):=by rw[et];exact xb J J
     by_cases hlr:mid-x<y-mid
     ·have hn:=hleft h2 h2b (by rw[hx];exact⟨g1,g2⟩) (by rw[hx];exact hlr);rw[hx] at hn;dsimp only at hn;obtain⟨pL,sL⟩:=pdq_sorts lt swo_ltInt d4 x mid R.lim true true g1 J g4;obtain⟨LL,hLL⟩:∃ LL,LL=pdq lt d4 x mid R.lim true true:=⟨_,rfl⟩
      rw[<-hLL] at hn pL sL;obtain⟨gB,_⟩:=gL LL pL sL;have hLs:LL.size=d4.size:=pL.1;by_cases h8:mid-x>=(y-x)/8
      ·rw[nf h8] at hn;refine(Zd∘Zeb∘Zl∘Zd9∘ZbC∘Zd2∘Zp) ?_;refine qy (qk L (q:=900) Z Z Z q1) Z Z (ZV (h:=?_));refine qy (qk L (q:=900) Z Z Z q2) Z Z (z91 L Z (fun u H hH _=>wk hc hH) ?_);refine(ZaJ∘Za2∘Zbt∘Zbg∘Zbk) ?_;refine qf (yj L 900 (xd b (uC d4++rest) tyU) (.tuple #[.int .i64 mid,.bool ap]) (r:=xd b (uC R.pi.1++rest) tyU) Z Z Z Z Z (fun u H C hH hle hr hC=>by have h:=bk (rest:=rest) (cap:=cap) (d:=R.pi.1) hpv.1 hpv.2 J (m:=m) J hm1 hH hr hC;rw[hx] at h;exact h)) ?_;refine(Zb0∘Zcv∘Za∘Ze∘ZcS∘ZaR∘ZaR∘ZaI∘Zec∘Za∘Zdn∘Ze∘ZdE∘Zb∘ZS∘Zr∘Zed∘Zb∘ZbJ∘Ze) ?_;refine zh (id:=26) (Zbk (h:=?_));refine qf (xg L 900 (xd b (uC LL++rest) tyU) (r:=xd b (uC d4++rest) tyU) Z Z Z Z Z (fun u H C hH _ hr hC=>by rw[hLL];exact ih J g1 J J hm1 hlle g4 hH hr hC)) ?_;refine(ZB∘ZdR∘Za∘Za4∘ZaC) ?_;exact yr (x:=(((x,y),l),((wb,wp),D))) (((mid+1,y),R.lim),((true,ap),LL)) ⟨by dsimp only;omega,hy,by dsimp only;omega,hlle,by dsimp only;omega,gB,hn.symm⟩ G ⟨Z,Z,Z,Z,Z,Z,Z,trivial⟩
      ·rw[ng h8] at hn;refine(Zd∘Zeb∘Zl∘Zd9∘ZbC∘Zd2∘Zp) ?_;refine qy (qk L (q:=900) Z Z Z q1) Z Z (ZV (h:=?_));refine qy (qk L (q:=900) Z Z Z q2) Z Z (z91 L Z (fun u H hH _=>wk hc hH) ?_);refine(ZaJ∘Za2∘Zbt∘Zbg∘Zbk) ?_;refine qf (yj L 900 (xd b (uC d4++rest) tyU) (.tuple #[.int .i64 mid,.bool ap]) (r:=xd b (uC R.pi.1++rest) tyU) Z Z Z Z Z (fun u H C hH hle hr hC=>by have h:=bk (rest:=rest) (cap:=cap) (d:=R.pi.1) hpv.1 hpv.2 J (m:=m) J hm1 hH hr hC;rw[hx] at h;exact h)) ?_;refine(Zb0∘Zcv∘Za∘Ze∘ZcS∘ZaR∘ZaR∘ZaI∘Zec∘Za∘Zdn∘Ze∘ZdE∘Zb∘ZS∘Zr∘Zed∘Zb∘Zav∘Ze) ?_;refine zh (id:=26) (Zbk (h:=?_));refine qf (xg L 900 (xd b (uC LL++rest) tyU) (r:=xd b (uC d4++rest) tyU) Z Z Z Z Z (fun u H C hH _ hr hC=>by rw[hLL];exact ih J g1 J J hm1 hlle g4 hH hr hC)) ?_;refine(ZB∘ZdR∘Za∘Za4∘ZaC) ?_;exact yr (x:=(((x,y),l),((wb,wp),D))) (((mid+1,y),R.lim),((false,ap),LL)) ⟨by dsimp only;omega,hy,by dsimp only;omega,hlle,by dsimp only;omega,gB,hn.symm⟩ G ⟨Z,Z,Z,Z,Z,Z,Z,trivial⟩
     ·have hn:=hright h2 h2b (by rw[hx];exact⟨g1,g2⟩) (by rw[hx];exact hlr);rw[hx] at hn;dsimp only at hn;obtain⟨pL,sL⟩:=pdq_sorts lt swo_ltInt d4 (mid+1) y R.lim true true J J g5;obtain⟨LL,hLL⟩:∃ LL,LL=pdq lt d4 (mid+1) y R.lim true true:=⟨_,rfl⟩
      rw[<-hLL] at hn pL sL;obtain⟨gB,_⟩:=gR LL pL sL;have hLs:LL.size=d4.size:=pL.1;by_cases h8:y-mid>=(y-x)/8
      ·rw[nf h8] at hn;refine(Zd∘Zeb∘Zl∘Zd9∘ZbC∘Zd2∘Zp) ?_;refine qy (qk L (q:=900) Z Z Z q1) Z Z (ZV (h:=?_));refine qy (qk L (q:=900) Z Z Z q2) Z Z (z91 L Z (fun u H hH _=>wk hc hH) ?_);refine(ZaJ∘Za2∘Zbt∘Zbg∘Zbk) ?_;refine qf (yj L 900 (xd b (uC d4++rest) tyU) (.tuple #[.int .i64 mid,.bool ap]) (r:=xd b (uC R.pi.1++rest) tyU) Z Z Z Z Z (fun u H C hH hle hr hC=>by have h:=bk (rest:=rest) (cap:=cap) (d:=R.pi.1) hpv.1 hpv.2 J (m:=m) J hm1 hH hr hC;rw[hx] at h;exact h)) ?_;refine(Zb0∘Zcv∘Za∘Ze∘ZcS∘ZaR∘ZaR∘ZaI∘Zec∘Za∘Zdn∘Ze∘ZdE∘Zb∘Zbc∘Zi) ?_;refine zh (id:=28) ((Zb∘ZbJ∘Ze) ?_);refine zh (id:=29) ((Zb∘ZH∘Zb) ?_);refine qf (xg L 900 (xd b (uC LL++rest) tyU) (r:=xd b (uC d4++rest) tyU) Z Z Z Z Z (fun u H C hH _ hr hC=>by rw[hLL];exact ih J J hy J hm1 hlle g5 hH hr hC)) ?_;refine ZB (h:=?_);refine zh (id:=30) ((Za∘Zce) ?_);exact yr (x:=(((x,y),l),((wb,wp),D))) (((x,mid),R.lim),((true,ap),LL)) ⟨by dsimp only;omega,by dsimp only;omega,by dsimp only;omega,hlle,by dsimp only;omega,gB,hn.symm⟩ G ⟨Z,Z,Z,Z,Z,Z,Z,trivial⟩
      ·rw[ng h8] at hn;refine(Zd∘Zeb∘Zl∘Zd9∘ZbC∘Zd2∘Zp) ?_;refine qy (qk L (q:=900) Z Z Z q1) Z Z (ZV (h:=?_));refine qy (qk L (q:=900) Z Z Z q2) Z Z (z91 L Z (fun u H hH _=>wk hc hH) ?_);refine(ZaJ∘Za2∘Zbt∘Zbg∘Zbk) ?_;refine qf (yj L 900 (xd b (uC d4++rest) tyU) (.tuple #[.int .i64 mid,.bool ap]) (r:=xd b (uC R.pi.1++rest) tyU) Z Z Z Z Z (fun u H C hH hle hr hC=>by have h:=bk (rest:=rest) (cap:=cap) (d:=R.pi.1) hpv.1 hpv.2 J (m:=m) J hm1 hH hr hC;rw[hx] at h;exact h)) ?_;refine(Zb0∘Zcv∘Za∘Ze∘ZcS∘ZaR∘ZaR∘ZaI∘Zec∘Za∘Zdn∘Ze∘ZdE∘Zb∘Zbc∘Zi) ?_;refine zh (id:=28) ((Zb∘Zav∘Ze) ?_);refine zh (id:=29) ((Zb∘ZH∘Zb) ?_);refine qf (xg L 900 (xd b (uC LL++rest) tyU) (r:=xd b (uC d4++rest) tyU) Z Z Z Z Z (fun u H C hH _ hr hC=>by rw[hLL];exact ih J J hy J hm1 hlle g5 hH hr hC)) ?_;refine ZB (h:=?_);refine zh (id:=30) ((Za∘Zce) ?_);exact yr (x:=(((x,y),l),((wb,wp),D))) (((x,mid),R.lim),((false,ap),LL)) ⟨by dsimp only;omega,by dsimp only;omega,by dsimp only;omega,hlle,by dsimp only;omega,gB,hn.symm⟩ G ⟨Z,Z,Z,Z,Z,Z,Z,trivial⟩
   ·have h2b:(decide (x>0) && !lt R.pi.1[x-1]! R.pi.1[R.pivot]!)=false:=by simp [hx0]
    obtain⟨mid,ap,d4,hx⟩:∃ mid ap d4,Go.Sort.partition lt R.pi.1 x y R.pivot=(mid,ap,d4):=⟨_,_,_,rfl⟩
    obtain⟨g1,g2,g3,g4,g5,gL,gR⟩:=round_part swo_ltInt (partition_holds lt) hpv.1 hpv.2 J B3 hx;have w1:IntKind.i64.wrap ((mid:Int)-(x:Int))=((mid-x:Nat):Int):=xb J J |>.trans J;have w2:IntKind.i64.wrap ((y:Int)-(mid:Int))=((y-mid:Nat):Int):=xb J J |>.trans J;have w4:IntKind.i64.wrap ((mid:Int)+1)=((mid+1:Nat):Int):=xb J J
    have et:((y-x:Nat):Int).tdiv 8=(((y-x)/8:Nat):Int):=by
     rw[zu8 J];omega
    have w3:IntKind.i64.wrap (((y-x:Nat):Int).tdiv 8)=(((y-x)/8:Nat):Int):=by rw[et];exact xb J J
    by_cases hlr:mid-x<y-mid
    ·have hn:=hleft h2 h2b (by rw[hx];exact⟨g1,g2⟩) (by rw[hx];exact hlr);rw[hx] at hn;dsimp only at hn;obtain⟨pL,sL⟩:=pdq_sorts lt swo_ltInt d4 x mid R.lim true true g1 J g4;obtain⟨LL,hLL⟩:∃ LL,LL=pdq lt d4 x mid R.lim true true:=⟨_,rfl⟩
     rw[<-hLL] at hn pL sL;obtain⟨gB,_⟩:=gL LL pL sL;have hLs:LL.size=d4.size:=pL.1;by_cases h8:mid-x>=(y-x)/8
     ·rw[nf h8] at hn;refine(Zd∘Zeb∘Zl∘ZdI∘Zcr∘ZbM∘ZcC∘Za2∘Zbt∘Zbg∘Zbk) ?_;refine qf (yj L 900 (xd b (uC d4++rest) tyU) (.tuple #[.int .i64 mid,.bool ap]) (r:=xd b (uC R.pi.1++rest) tyU) Z Z Z Z Z (fun u H C hH hle hr hC=>by have h:=bk (rest:=rest) (cap:=cap) (d:=R.pi.1) hpv.1 hpv.2 J (m:=m) J hm1 hH hr hC;rw[hx] at h;exact h)) ?_;refine(Zb0∘Zcv∘Za∘Ze∘ZcS∘ZaR∘ZaR∘ZaI∘Zec∘Za∘Zdn∘Ze∘ZdE∘Zb∘ZS∘Zr∘Zed∘Zb∘ZbJ∘Ze) ?_;refine zh (id:=26) (Zbk (h:=?_));refine qf (xg L 900 (xd b (uC LL++rest) tyU) (r:=xd b (uC d4++rest) tyU) Z Z Z Z Z (fun u H C hH _ hr hC=>by rw[hLL];exact ih J g1 J J hm1 hlle g4 hH hr hC)) ?_;refine(ZB∘ZdR∘Za∘Za4∘ZaC) ?_;exact yr (x:=(((x,y),l),((wb,wp),D))) (((mid+1,y),R.lim),((true,ap),LL)) ⟨by dsimp only;omega,hy,by dsimp only;omega,hlle,by dsimp only;omega,gB,hn.symm⟩ G ⟨Z,Z,Z,Z,Z,Z,Z,trivial⟩
     ·rw[ng h8] at hn;refine(Zd∘Zeb∘Zl∘ZdI∘Zcr∘ZbM∘ZcC∘Za2∘Zbt∘Zbg∘Zbk) ?_;refine qf (yj L 900 (xd b (uC d4++rest) tyU) (.tuple #[.int .i64 mid,.bool ap]) (r:=xd b (uC R.pi.1++rest) tyU) Z Z Z Z Z (fun u H C hH hle hr hC=>by have h:=bk (rest:=rest) (cap:=cap) (d:=R.pi.1) hpv.1 hpv.2 J (m:=m) J hm1 hH hr hC;rw[hx] at h;exact h)) ?_;refine(Zb0∘Zcv∘Za∘Ze∘ZcS∘ZaR∘ZaR∘ZaI∘Zec∘Za∘Zdn∘Ze∘ZdE∘Zb∘ZS∘Zr∘Zed∘Zb∘Zav∘Ze) ?_;refine zh (id:=26) (Zbk (h:=?_));refine qf (xg L 900 (xd b (uC LL++rest) tyU) (r:=xd b (uC d4++rest) tyU) Z Z Z Z Z (fun u H C hH _ hr hC=>by rw[hLL];exact ih J g1 J J hm1 hlle g4 hH hr hC)) ?_;refine(ZB∘ZdR∘Za∘Za4∘ZaC) ?_;exact yr (x:=(((x,y),l),((wb,wp),D))) (((mid+1,y),R.lim),((false,ap),LL)) ⟨by dsimp only;omega,hy,by dsimp only;omega,hlle,by dsimp only;omega,gB,hn.symm⟩ G ⟨Z,Z,Z,Z,Z,Z,Z,trivial⟩
    ·have hn:=hright h2 h2b (by rw[hx];exact⟨g1,g2⟩) (by rw[hx];exact hlr);rw[hx] at hn;dsimp only at hn;obtain⟨pL,sL⟩:=pdq_sorts lt swo_ltInt d4 (mid+1) y R.lim true true J J g5;obtain⟨LL,hLL⟩:∃ LL,LL=pdq lt d4 (mid+1) y R.lim true true:=⟨_,rfl⟩
     rw[<-hLL] at hn pL sL;obtain⟨gB,_⟩:=gR LL pL sL;have hLs:LL.size=d4.size:=pL.1;by_cases h8:y-mid>=(y-x)/8
     ·rw[nf h8] at hn;refine(Zd∘Zeb∘Zl∘ZdI∘Zcr∘ZbM∘ZcC∘Za2∘Zbt∘Zbg∘Zbk) ?_;refine qf (yj L 900 (xd b (uC d4++rest) tyU) (.tuple #[.int .i64 mid,.bool ap]) (r:=xd b (uC R.pi.1++rest) tyU) Z Z Z Z Z (fun u H C hH hle hr hC=>by have h:=bk (rest:=rest) (cap:=cap) (d:=R.pi.1) hpv.1 hpv.2 J (m:=m) J hm1 hH hr hC;rw[hx] at h;exact h)) ?_;refine(Zb0∘Zcv∘Za∘Ze∘ZcS∘ZaR∘ZaR∘ZaI∘Zec∘Za∘Zdn∘Ze∘ZdE∘Zb∘Zbc∘Zi) ?_;refine zh (id:=28) ((Zb∘ZbJ∘Ze) ?_);refine zh (id:=29) ((Zb∘ZH∘Zb) ?_);refine qf (xg L 900 (xd b (uC LL++rest) tyU) (r:=xd b (uC d4++rest) tyU) Z Z Z Z Z (fun u H C hH _ hr hC=>by rw[hLL];exact ih J J hy J hm1 hlle g5 hH hr hC)) ?_;refine ZB (h:=?_);refine zh (id:=30) ((Za∘Zce) ?_);exact yr (x:=(((x,y),l),((wb,wp),D))) (((x,mid),R.lim),((true,ap),LL)) ⟨by dsimp only;omega,by dsimp only;omega,by dsimp only;omega,hlle,by dsimp only;omega,gB,hn.symm⟩ G ⟨Z,Z,Z,Z,Z,Z,Z,trivial⟩
     ·rw[ng h8] at hn;refine(Zd∘Zeb∘Zl∘ZdI∘Zcr∘ZbM∘ZcC∘Za2∘Zbt∘Zbg∘Zbk) ?_;refine qf (yj L 900 (xd b (uC d4++rest) tyU) (.tuple #[.int .i64 mid,.bool ap]) (r:=xd b (uC R.pi.1++rest) tyU) Z Z Z Z Z (fun u H C hH hle hr hC=>by have h:=bk (rest:=rest) (cap:=cap) (d:=R.pi.1) hpv.1 hpv.2 J (m:=m) J hm1 hH hr hC;rw[hx] at h;exact h)) ?_;refine(Zb0∘Zcv∘Za∘Ze∘ZcS∘ZaR∘ZaR∘ZaI∘Zec∘Za∘Zdn∘Ze∘ZdE∘Zb∘Zbc∘Zi) ?_;refine zh (id:=28) ((Zb∘Zav∘Ze) ?_);refine zh (id:=29) ((Zb∘ZH∘Zb) ?_);refine qf (xg L 900 (xd b (uC LL++rest) tyU) (r:=xd b (uC d4++rest) tyU) Z Z Z Z Z (fun u H C hH _ hr hC=>by rw[hLL];exact ih J J hy J hm1 hlle g5 hH hr hC)) ?_;refine ZB (h:=?_);refine zh (id:=30) ((Za∘Zce) ?_);exact yr (x:=(((x,y),l),((wb,wp),D))) (((x,mid),R.lim),((false,ap),LL)) ⟨by dsimp only;omega,by dsimp only;omega,by dsimp only;omega,hlle,by dsimp only;omega,gB,hn.symm⟩ G ⟨Z,Z,Z,Z,Z,Z,Z,trivial⟩
def sortU_ret{cap:Nat}(hm:d.size=m)(hm1:m<=100000)(hB:zwe B w)
  (hr:(xd b (uC d++rest) tyU).P B w C) (hC:ZCB C w B):
  jh zwf 154 [.slice (some ⟨b,0,none⟩) m cap] w B C (xd b (uC (Go.Sort.sort lt d)++rest) tyU):=by
 unfold jh;refine yz 900 (xd b (uC d++rest) tyU) Tryz.func154 Z Tryz.ntmps154 (np Z) hB hr hC ?_;rw[xe];have hc:IntKind.u64.wrap (m:Int)=(m:Int):=wrap_u64 J J;have hb17:bitsLen m<=17:=(bitsLen_le_iff m 17).2 J;refine(ZT∘Za∘Zbo∘Zc∘ZI∘Zu) ?_;refine z7 (kw Z Z Z vl.1 vl.2 (wrap_u64 J J)) Z (z71 L Z (fun u H hH _=>Fx J hH) ?_);refine qf (xg L 900 (xd b (uC (Go.Sort.sort lt d)++rest) tyU) (r:=xd b (uC d++rest) tyU) Z Z Z Z Z (fun u H C hH _ hr hC=>by have h:=zko (rest:=rest) (cap:=cap) (m:=m) (d:=d) (a:=0) (e:=m) (lim:=bitsLen m) (m+1) J J J hm hm1 J (Or.inl Z) hH hr hC;unfold Go.Sort.sort;rw[hm];exact h)) ?_;refine Zah (h:=?_);exact ki L 900 (r:=xd b _ tyU) Z (fun _ _ h=>h) nq Z Z
end Go.V.So
end
namespace Go.V.L10
def _root_.ZfY(t:Wr Y->A:=by intro h;refine z7 (StepOK.seeV (ql L (qz Z) Z Z Z Z) M) Z ?_;exact h.1)(h:Y):A:=t ⟨h⟩
def _root_.Zee(t:Wr Y->A:=by intro h;refine z7 (yn L (vs:=[_,_]) Z Z Z Z Z ⟨_,rfl⟩) Z ?_;exact h.1)(h:Y):A:=t ⟨h⟩
def _root_.ZeM(t:Wr Y->A:=by intro h;refine z71 L Z (fun u H hH _=>So.isnanU _ hH) ?_;exact h.1)(h:Y):A:=t ⟨h⟩
def _root_.ZcE(t:Wr Y->A:=by exact fun h=>(ZaK∘ZfY) h.1)(h:Y):A:=t ⟨h⟩
abbrev Y2:TypeId:=264
abbrev A0:TypeId:=63
def pnc(p:Int×Int):List Value:=[.int .u64 p.1,.int .i64 p.2]
def zbe(p:Int×Int):(pnc p).length=2:=rfl
def tq(l:List (Int×Int)):(l.flatMap pnc).all wz=true:=by
 rw[zr3];intro v hv;obtain⟨x,_,hx⟩:=zub.1 hv;simp only[pnc,nz,zs8,or_false] at hx;rcases hx with rfl | rfl<;>rfl
abbrev PsV(l:List (Int×Int)):Value->Heap->Prop:=SlV Y2 2 (l.flatMap pnc) l.length false
def V1{l:List (Int×Int)}{x:Int×Int}(h:l[i]?=some x):((l.flatMap pnc).drop (i*2)).take 2=[.int .u64 x.1,.int .i64 x.2]:=gy zbe l i x h
abbrev RsV(l:List Int)(fu:Bool):Value->Heap->Prop:=SlV A0 1 (l.map (Value.int .u64)) l.length fu
def K0(l:List Int):(l.map (Value.int .u64)).all wz=true:=by
 rw[zr3];intro v hv;obtain⟨x,_,rfl⟩:=m6.1 hv;rfl
def oc{l:List Int}(h:l[i]?=some x):((l.map (Value.int .u64)).drop (i*1)).take 1=[.int .u64 x]:=by
 rw[zse,List.take_one];simp [List.head?_drop,h]
attribute [local irreducible] V N X VO Par StepOK Has Ret RetL RetO jh RetX Src
def cmpU_ret(a b:Int)(hB:zwe B w):Ret zwf 213 [.int .u64 a,.int .u64 b] w B (fun v _=>v=.int .i64 (cP a b)):=by
 unfold cP;refine yl Tryz.func213 Z Tryz.ntmps213 (np Z) hB ?_;by_cases h:a<b
 ·rw[na h];refine(Zw∘Za∘ZeM∘ZbY∘ZeM∘Zh∘Zz∘ZK∘Z6∘ZK∘ZM∘Zb∘ZS∘Zr∘ZaH∘Zc) ?_;exact yk2 L [.tmp 4]
 ·rw[nc h];by_cases h2:b<a
  ·rw[na h2];refine(Zw∘Za∘ZeM∘ZbY∘ZeM∘Zh∘Zz∘ZK∘Z6∘ZK∘ZM∘Zb∘Zab∘ZK∘Zay∘Zb∘ZN∘Zr∘ZQ∘Zc) ?_;exact yk2 L [.tmp 4]
  ·rw[nc h2];refine(Zw∘Za∘ZeM∘ZbY∘ZeM∘Zh∘Zz∘ZK∘Z6∘ZK∘ZM∘Zb∘Zab∘ZK∘Zay∘Zb∘ZG∘Zs∘ZU∘Zc) ?_;exact yk2 L [.tmp 4]
def Ah(a n b:Int)(hB:zwe B w):Ret zwf 212 [.agg #[.int .u64 a,.int .i64 n],.int .u64 b] w B (fun v _=>v=.int .i64 (cP a b)):=by
 refine yl Tryz.func212 Z Tryz.ntmps212 (np Z) hB ((Zq∘Zad∘Z3∘Za) ?_);refine z71 L Z (fun u H hH _=>cmpU_ret _ _ hH) ?_;refine Zc (h:=?_);exact yk2 L [.tmp 4]
abbrev BSP:Nat:=211
abbrev fvP:Value:=.func (.func 212) #[] #[]
def zl3(hz:(xf L0).length<=100000){v:Value}(hB:zwe B w)(hv:PsV (xf L0) v B):
  Ret zwf BSP [v,.int .u64 r,fvP] w B (fun v _=>v=.tuple #[.int .i64 (o9 cP r (kf L0):Nat),.bool (decide (r∈kf L0))]):=by
 have hs:=jj L0;obtain⟨l,hl⟩:∃ l,l=kf L0:=⟨_,rfl⟩
 obtain⟨ps,hps⟩:∃ ps,ps=xf L0:=⟨_,rfl⟩
 have hat:∀ (i:Nat) (x:Int),l[i]?=some x->ps[i]?=some (x,(L0.count x:Int)):=fun i x h=>by subst hl hps;exact Er h
 have hlen:ps.length=l.length:=by subst hl hps;exact wy L0
 rw[<-hl] at hs |-;rw[<-hps] at hv hz;clear hl hps;refine yl Tryz.func211 Z Tryz.ntmps211 (np Z) hB (ku 0 (PsV ps) Z ns hv ((Za6∘Zad∘Zj∘ZbY∘ZaI∘Za7) ?_))
 refine xu (fun s:Nat×Nat=>[(0,.sat (PsV ps)),(2,.is fvP),(1,.is (.int .u64 r)),(8,.is (.int .i64 ps.length)),(9,.is (.int .i64 s.1)),(10,.is (.int .i64 s.2))])
  (fun s=>s.1<=s.2/\s.2<=l.length/\(∀ (k:Nat) (x:Int),k<s.1->l[k]?=some x->cP x r<0)/\∀ (k:Nat) (x:Int),s.2<=k->l[k]?=some x->¬ cP x r<0) (fun s=>s.2-s.1) (0,ps.length) ⟨Nat.zero_le _,Nat.le_of_eq hlen,fun k x h=>(by cases h),fun k x h hx=>(by rw[List.getElem?_eq_none (by dsimp only at h;omega)] at hx;cases hx)⟩ ⟨rfl,rfl,rfl,rfl,rfl,rfl,trivial⟩ ?_
 rintro⟨i,j⟩ ⟨hij,hjl,hlo,hhi⟩;dsimp only at hij hjl hlo hhi |-;by_cases hlt:i<j
 ·obtain⟨h,hh⟩:∃ h,h=(i+j)/2:=⟨_,rfl⟩
  have hsh:((i:Int)+(j:Int)).fdiv (2^min (1:Int).toNat IntKind.u64.bits)=(h:Int):=by
   show((i:Int)+(j:Int)).fdiv 2=(h:Int);rw[zvn _ E];omega
  obtain⟨y,hy⟩:=xj (show h<l.length by omega);have hc:=V1 (hat h y hy);by_cases hcm:cP y r<0
  ·refine(Zbs∘Zbp∘Zbe∘ZE∘Zb∘ZcZ) ?_;refine z7 (kw Z Z Z vl.1 vl.2 (wrap_u64 J J)) Z (ZdO (h:=?_));refine z7 (kw Z Z Z vm.1 vm.2 (xb J J)) Z ((ZbV∘ZY∘Zee∘Za) ?_);refine z71 L Z (fun u H hH _=>Ah _ _ _ hH) ?_;refine(Zbp∘ZD∘Zaa∘ZaC) ?_;exact yr (x:=(i,j)) (h+1,j) ⟨by dsimp only;omega,hjl,fun k x hk hx=>Gv vz hs hy hx (by dsimp only at hk;omega) hcm,hhi⟩ G ⟨Z,Z,Z,Z,Z,Z,trivial⟩
  ·refine(Zbs∘Zbp∘Zbe∘ZE∘Zb∘ZcZ) ?_;refine z7 (kw Z Z Z vl.1 vl.2 (wrap_u64 J J)) Z (ZdO (h:=?_));refine z7 (kw Z Z Z vm.1 vm.2 (xb J J)) Z ((ZbV∘ZY∘Zee∘Za) ?_);refine z71 L Z (fun u H hH _=>Ah _ _ _ hH) ?_;refine(Zbc∘Z6∘Zce) ?_;exact yr (x:=(i,j)) (i,h) ⟨by dsimp only;omega,by dsimp only;omega,hlo,fun k x hk hx hcx=>hcm (Gv vz hs hx hy hk hcx)⟩ G ⟨Z,Z,Z,Z,Z,Z,trivial⟩
 ·obtain rfl:i=j:=by omega
  rw[zbd vz hs hlo hhi hjl];by_cases hin:i<l.length
  ·obtain⟨y,hy⟩:=xj hin;have hc:=V1 (hat i y hy);have hm:=zn0 vz hs hlo hy hhi;by_cases hcm:cP y r=0
   ·rw[nf (hm.2 hcm)];refine(Zbs∘Zb5∘Z0∘Zu∘ZS∘Zb∘ZY∘Zee∘Za) ?_;refine z71 L Z (fun u H hH _=>Ah _ _ _ hH) ?_;refine(Zx∘Zf∘Z4) ?_;exact yk2 L [.tmp 6,.tmp 7]
   ·rw[ng fun h=>hcm (hm.1 h)];refine(Zbs∘Zb5∘Z0∘Zu∘ZS∘Zb∘ZY∘Zee∘Za) ?_;refine z71 L Z (fun u H hH _=>Ah _ _ _ hH) ?_;refine(Z8∘Zf∘Z4) ?_;exact yk2 L [.tmp 6,.tmp 7]
  ·obtain rfl:i=l.length:=by omega
   rw[ng (Rn vz hlo)];refine(Zbs∘Zb5∘Z0∘Zu∘Zab∘Za9∘Zaw∘Zaw∘Zf∘Z4) ?_;exact yk2 L [.tmp 6,.tmp 7]
abbrev pnv(s:Value)(t:Nat):Value:=.agg #[s,.int .i64 t]
def Ag(hz2:(xf L0).length<=100000)(hB:zwe B w)(hv:PsV (xf L0) s B):
  Ret zwf 143 [pnv s t,.int .u64 r] w B (fun v _=>v=.tuple #[.int .i64 (o9 cP r (kf L0):Nat),.bool (decide (r∈kf L0))]):=by
 obtain⟨p,c,rfl⟩:=ke hv;refine yl Tryz.func143 Z Tryz.ntmps143 (np Z) hB ((Zq∘Zv∘Zad∘Z3∘Za) ?_);refine z71 L Z (fun u H hH hle=>zl3 hz2 hH (hv.le hle)) ?_;refine(Zb8∘Z4) ?_;exact yk2 L [.tmp 4,.tmp 5]
def Ep(hz:L0.length<=n):(xf L0).length<=n:=by rw[wy];exact mq (ul _) hz
def Dl(hz:L0.length<=100000)(hB:zwe B w)(hv:PsV (xf L0) s B):
  Ret zwf 143 [pnv s t,.int .u64 r] w B (fun v _=>v=.tuple #[.int .i64 (o9 cP r (kf L0):Nat),.bool (decide (r∈kf L0))]):=Ag (Ep hz) hB hv
def Bs(h:r∈kf L0):(xf L0)[o9 cP r (kf L0)]?=some (r,(L0.count r:Int)):=Er (K7 vz (jj L0) h)
def rm(hz:(xf L0).length<=100000)(hB:zwe B w)(hv:PsV (xf L0) s B):
  Ret zwf 88 [pnv s t,.int .u64 r] w B (fun v _=>v=.int .i64 (L0.count r:Nat)):=by
 obtain⟨p,c,rfl⟩:=ke hv;refine yl Tryz.func88 Z Tryz.ntmps88 (np Z) hB ?_;by_cases h:r∈kf L0
 ·have hf:decide (r∈kf L0)=true:=nf h;have hp:=Bs h;have hlt:=get_lt hp;have hc:=V1 hp;refine(Zq∘Zag∘Zbn∘Za) ?_;refine z71 L Z (fun u H hH hle=>hf ▸ Ag (t:=t) hz hH (hv.le hle)) ?_;refine(Zb0∘Zn∘Zr∘Z2∘ZcE∘Zdm∘ZcD∘Zap∘Zc) ?_;exact yk2 L [.tmp 4]
 ·have hf:decide (r∈kf L0)=false:=ng h;have hc0:L0.count r=0:=ztw.2 fun hm=>h (k7.2 hm);rw[hc0];refine(Zq∘Zag∘Zbn∘Za) ?_;refine z71 L Z (fun u H hH hle=>hf ▸ Ag (t:=t) hz hH (hv.le hle)) ?_;refine(Zb0∘Zn∘Zs∘ZE∘Zc) ?_;exact yk2 L [.tmp 4]
def count_ret(hz:L0.length<=100000)(hB:zwe B w)(hv:PsV (xf L0) s B):
  Ret zwf 88 [pnv s t,.int .u64 r] w B (fun v _=>v=.int .i64 (L0.count r:Nat)):=rm (Ep hz) hB hv
def _root_.ZeN(t:Wr Y->A:=by intro h;refine qf (jx L Z Z Z (eg Z) Z zes Z Z J J) ?_;exact h.1)(h:Y):A:=t ⟨h⟩
def Y6(_hs:(ja s).length=1/\(ja s).all wz=true)(hB:zwe B w):
  Ret zwf 92 [pnv s t] w B (fun v _=>v=.int .i64 t):=by
 refine yl Tryz.func92 Z Tryz.ntmps92 (np Z) hB ((Zq∘Zad∘Z3∘Zc) ?_);exact yk2 L [.tmp 2]
def zd1{l:List Int}(hB:zwe B w)(hv:RsV l fu v B):Ret zwf 297 [v] w B (RsV l true):=by
 refine yl Tryz.func297 Z Tryz.ntmps297 (np Z) hB (ku 0 (RsV l fu) Z ns hv ((Zw∘Zg∘Zj∘Zj∘ZdX∘Zb9) ?_));refine yk1 L [.tmp 2] fun u H hH hle=>?_;exact fun v hv=>hv
def Kz{l:List Int}:some (Kn.own (SlR A0 1 (l.length+1) (l.map (Value.int .u64)++[.int .u64 x])))=some (Kn.own (SlR A0 1 (l++[x]).length ((l++[x]).map (Value.int .u64)))):=by
 rw[zr1,nr];rfl
set_option maxRecDepth 10000 in
def zg0{R:List Int}{keep:Nat}(hz:L0.length<=100000)(hR:R.length<=100000)(hkp:keep<=100000)(hB:zwe B w)(hv:PsV (xf L0) s B)(hr:RsV R fu v B):
  Ret zwf 249 [pnv s t,v,.int .i64 keep] w B (RsV (lp L0 R keep) true):=by
 obtain⟨p,c,rfl⟩:=ke hv;obtain⟨n1,hn1⟩:∃ n1,n1=R.length-keep:=⟨_,rfl⟩
 have hmx:(if (0:Int)>(keep:Int) then (0:Int) else (keep:Int))=(keep:Int):=nc J;have hmn:(if (R.length:Int)<(keep:Int) then (R.length:Int) else (keep:Int))=(min R.length keep:Nat):=by split<;>omega
 have hsub:IntKind.i64.wrap ((R.length:Int)-(min R.length keep:Nat))=(n1:Int):=xb J J |>.trans J;have hys:((R.map (Value.int .u64)).drop (0*1)).take ((n1-0)*1)=(R.take n1).map (Value.int .u64):=by simp
 obtain⟨g,hg⟩:∃ g,g=R.take n1:=⟨_,rfl⟩
 have hgl:g.length=n1:=by rw[hg,mh];omega
 have hgo:lp L0 R keep=g.filter fun r=>decide (L0.count r=0):=by unfold lp;rw[hg,hn1]
 rw[<-hg] at hys;rw[hgo];clear hg hgo;refine yl Tryz.func249 Z Tryz.ntmps249 (np Z) hB (ku 1 (RsV R fu) Z ns hr ((Zq∘Zad∘Zh) ?_));refine um 7 A0 1 rfl ((ZL∘Zg∘Zj∘Za) ?_);refine z7 (oe Z Z Z Z M) Z (Zj (h:=?_));refine z7 (zbv Z Z Z Z M) Z (Zaj (h:=?_));refine z7 (jw L (kl:=.i64) (pl:=0) (km:=.i64) (pm:=0) 0 _ false Z Z Z Z Z Z ⟨rfl,rfl⟩ (fun h=>by cases h) J J M) Z ?_;refine(ZbT∘Zb3) ?_;refine Yh 19 (RsV g false) Z SlV.mono (fun v H h=>by unfold RsV;rw[hgl];exact h) ?_
 refine xu (fun y:Nat×List Int=>[(3,.sat (At [.slice p (xf L0).length c,.int .i64 t] 112 0)),(7,.own (SlR A0 1 y.2.length (y.2.map (Value.int .u64)))),(19,.sat (RsV g false)),(20,.is (.int .i64 n1)),(21,.is (.int .i64 y.1))])
  (fun y=>y.1<=g.length/\y.2=(g.take y.1).filter fun r=>decide (L0.count r=0)) (fun y=>g.length-y.1) (0,[]) ⟨mb _,rfl⟩ ⟨rfl,rfl,rfl,rfl,rfl,nm⟩ ?_
 rintro⟨k,out⟩ ⟨hk,hout⟩;dsimp only at hk hout |-;have hol:out.length<=k:=by rw[hout];exact mq (zte ..) (by rw[mh];omega)
 by_cases hlt:k<g.length
 ·obtain⟨x,hx⟩:=xj hlt;have hc:=oc hx;have htk:=ju hx;have hwk:IntKind.i64.wrap ((k:Int)+1)=((k+1:Nat):Int):=xb J J;by_cases h0:L0.count x=0
  ·have ho:out++[x]=(g.take (k+1)).filter fun r=>decide (L0.count r=0):=by rw[htk,zt0,<-hout];simp [h0]
   refine(ZcA∘ZA∘ZE∘ZaO∘Zap∘Ze∘ZF∘Zbn∘Za) ?_;refine z71 L Z (fun u H hH hle=>count_ret hz hH (hv.le hle)) ?_;refine(Zx∘Z1∘Z5) ?_;refine qf (yo (.inl Z) Z) ((Za∘ZJ∘ZeN) ?_);refine qf (yo (.inr Z) Z) ((Zaz∘Z7∘ZH∘ZcH) ?_);exact yr (x:=(k,out)) (k+1,out++[x]) ⟨hlt,ho⟩ G ⟨Z,Kz,Z,Z,Z,nm⟩
  ·have ho:out=(g.take (k+1)).filter fun r=>decide (L0.count r=0):=by rw[htk,zt0,<-hout];simp [h0]
   refine(ZcA∘ZA∘ZE∘ZaO∘Zap∘Ze∘ZF∘Zbn∘Za) ?_;refine z71 L Z (fun u H hH hle=>count_ret hz hH (hv.le hle)) ?_;refine(Z8∘Za1∘Z7∘ZH∘ZcH) ?_;exact yr (x:=(k,out)) (k+1,out) ⟨hlt,ho⟩ G ⟨Z,Z,Z,Z,Z,nm⟩
 ·obtain rfl:k=g.length:=by omega
  rw[m4] at hout;rw[<-hout];refine uz 7 rfl ((ZcA∘Zbh∘Z0∘Zg) ?_);refine z7 (xh (φ:=RsV out true) L Z Z (zn Z) Z Z Z ns (fun u H hH _ _ v1 h1=>zd1 hH h1)) Z (Zb9 (h:=?_));refine yk1 L [.tmp 6] fun u H hH hle=>?_;exact fun v hv=>hv
def zrl{a b:Int×Int}{f:Bool}(h:decide (a=b)=f):ou [1,1] (pnc a) (pnc b)=some f:=by
 obtain⟨a1,a2⟩:=a;obtain⟨b1,b2⟩:=b;subst h;simp only[pnc,ou,eqC,if_true,Bool.and_true,Prod.mk.injEq];congr 1;rw[Bool.eq_iff_iff];simp
def Nz{a b:Int×Int}{f:Bool}(h:decide (a=b)=f)(hB:zwe B w):Ret zwf 181 [.agg #[.int .u64 a.1,.int .i64 a.2],.agg #[.int .u64 b.1,.int .i64 b.2]] w B (fun v _=>v=.bool f):=by
 have hq:ou [1,1] [.int .u64 a.1,.int .i64 a.2] [.int .u64 b.1,.int .i64 b.2]=some f:=zrl h;refine yl Tryz.func181 Z Tryz.ntmps181 (np Z) hB ((ZaD∘Zad∘Zbn∘Zbn) ?_);refine z7 (Rj Z Z Z Z zqc M Z) Z (Zc (h:=?_));exact yk2 L [.tmp 4]
def zcw{a b:List α}(h:a.length≠b.length):a≠b:=fun e=>h (nh List.length e)
def zl7{a b:List α}{x y:α}(hx:a[i]?=some x)(hy:b[i]?=some y)(h:x≠y):a≠b:=fun e=>h (by subst e;rw[hx] at hy;exact Option.some.inj hy)
def zlo{a b:List (Int×Int)}{f:Bool}(hf:decide (a=b)=f)(ha:a.length<=100000)(hb:b.length<=100000){v1 v2:Value}(hB:zwe B w)(h1:PsV a v1 B)(h2:PsV b v2 B):
  Ret zwf 180 [v1,v2,.func (.func 181) #[] #[]] w B (fun v _=>v=.bool f):=by
 subst hf;refine yl Tryz.func180 Z Tryz.ntmps180 (np Z) hB (ku 0 (PsV a) Z ns h1 (ku 1 (PsV b) Z ns h2 ?_));by_cases hl:a.length=b.length
 ·refine(ZT∘ZbU∘Zj∘Zca∘Z2∘Zj∘Zb3) ?_;refine xu (fun i:Nat=>[(0,.sat (PsV a)),(15,.sat (PsV a)),(1,.sat (PsV b)),(2,.is (.func (.func 181) #[] #[])),(16,.is (.int .i64 a.length)),(17,.is (.int .i64 i))]) (fun i=>i<=a.length/\a.take i=b.take i) (fun i=>a.length-i) 0 ⟨mb _,rfl⟩ ⟨Z,Z,Z,Z,Z,Z,nm⟩ ?_;rintro i ⟨hi,ht⟩;by_cases hlt:i<a.length
  ·obtain⟨x,hx⟩:=xj hlt;obtain⟨y,hy⟩:=xj (show i<b.length by omega);have hc1:=V1 hx;have hc2:=V1 hy;have hwk:IntKind.i64.wrap ((i:Int)+1)=((i+1:Nat):Int):=xb J J;by_cases hxy:x=y
   ·refine(ZbS∘ZA∘ZC∘ZaO∘Zee∘ZX∘Zv∘ZaF∘Zk∘Z5∘ZY∘Zee∘Zcw∘Z6∘ZcJ∘ZcJ) ?_;refine z71 L Z (fun u H hH _=>Nz (nf hxy) hH) ?_;refine(Zo∘Za1∘ZM∘ZH∘ZcH) ?_;exact yr (x:=i) (i+1) ⟨hlt,by rw[ju hx,ju hy,ht,hxy]⟩ J ⟨Z,Z,Z,Z,Z,Z,nm⟩
   ·rw[ng (zl7 hx hy hxy)];refine(ZbS∘ZA∘ZC∘ZaO∘Zee∘ZX∘Zv∘ZaF∘Zk∘Z5∘ZY∘Zee∘Zcw∘Z6∘ZcJ∘ZcJ) ?_;refine z71 L Z (fun u H hH _=>Nz (ng hxy) hH) ?_;refine(Zo∘Zr∘Z0∘Zc) ?_;exact yk2 L [.tmp 6]
  ·obtain rfl:i=a.length:=by omega
   have hab:a=b:=by rw[m4,hl,m4] at ht;exact ht
   rw[nf hab];refine(ZbS∘Zbh∘ZaH∘Zc) ?_;exact yk2 L [.tmp 6]
 ·rw[ng (zcw hl)];refine(ZT∘ZbU∘Zj∘Zac∘ZL∘Zc) ?_;exact yk2 L [.tmp 6]
def Of{L1 L2:List Int}{t1 t2:Nat}{f:Bool}(hf:decide (xf L1=xf L2)=f)(hz1:L1.length<=100000)(hz2:L2.length<=100000){s1 s2:Value}(hB:zwe B w)(h1:PsV (xf L1) s1 B)(h2:PsV (xf L2) s2 B):
  Ret zwf 115 [pnv s1 t1,pnv s2 t2] w B (fun v _=>v=.bool f):=by
 have q1:(xf L1).length<=100000:=by rw[wy];exact mq (ul _) hz1
 have q2:(xf L2).length<=100000:=by rw[wy];exact mq (ul _) hz2
 obtain⟨p,c,rfl⟩:=ke h1;obtain⟨p',c',rfl⟩:=ke h2;refine yl Tryz.func115 Z Tryz.ntmps115 (np Z) hB ((ZaD∘Zad∘Z3∘Z3) ?_);refine z71 L Z (fun u H hH hle=>zlo hf q1 q2 hH (h1.le hle) (h2.le hle)) ?_;refine Zc (h:=?_);exact yk2 L [.tmp 4]
end Go.V.L10
end
