/- WiresParse returns true for every input: no condition. -/
import Derived.Test.YtefilnnomholbaaGreatWiresParseM5
import Derived.Laws.IdiomStrings
import Derived.Laws.AppendOwn
import Derived.Laws.BytesArg
import Derived.ProofKit
import Derived.HandedShaped
import Derived.OpenShut
import Derived.Carry
import Derived.Deep.Slices
import Derived.Test.YtefilnnomholbaaGreatRows
set_option linter.unusedVariables false
set_option linter.unusedSimpArgs false
set_option maxRecDepth 20000
namespace Go.V.L8
open Go.Proofs Go.RowKit Go.V Go.V.L2 Go.V.L3 Go.V.L6
theorem _root_.Go.V.ZeH {A B:Prop} (h:B) (t:Wr B → A:=by intro h; refine z7 (zy L (vs:=[_, _, _, _, _, _, _]) (zji rfl (List.Mem.head _)) rfl rfl rfl rfl ⟨_, rfl⟩) rfl ?_;exact h.h):A:=t ⟨h⟩
theorem _root_.Go.V.Zfv {A B:Prop} (h:B) (t:Wr B → A:=by intro h; refine zd (zy L (vs:=[_, _, _, _, _, _]) (zji rfl (List.Mem.head _)) rfl rfl rfl rfl ⟨_, rfl⟩) rfl ?_;exact h.h):A:=t ⟨h⟩
theorem _root_.Go.V.Zfw {A B:Prop} (h:B) (t:Wr B → A:=by intro h; refine zd (zz1 rfl rfl rfl rfl bt4 rfl) rfl ?_;exact h.h):A:=t ⟨h⟩
theorem z2u {n:Nat} {l:List CH} (h:cE n l = 0):l.length ≤ n ∧ ∀ c ∈ l, tE c.1 = 0:=by
 unfold cE at h
 split at h
 ·exact absurd h (by decide)
 ·split at h
  ·exact absurd h (by decide)
  ·rename_i h1 h2
   refine ⟨by omega, fun c hc => ?_⟩
   by_cases h0:tE c.1 = 0
   ·exact h0
   ·exact absurd (List.any_eq_true.2 ⟨c, hc, by simp [h0]⟩) h2
theorem zkz {s:ByteArray} (h:chk s = 0):s.size ≤ 1099511627776:=by
 unfold chk at h
 split at h
 ·rename_i h1; omega
 ·exact absurd h (by decide)
theorem zwi {t:U} (h:tE t = 0):TZ t:=by
 unfold tE at h
 split at h
 ·rename_i h1
  obtain ⟨c1, c2, c3⟩:=zsw h1
  obtain ⟨d1, d2, d3⟩:=zhm h
  refine ⟨⟨zkz c1, zkz c2, zkz c3⟩, zkz d1, zkz d2, ?_⟩
  rcases d3 with d3 | d3
  ·rw [d3]; exact Nat.zero_le _
  ·exact zkz d3
 ·rename_i h1; exact absurd h h1
def z2w (t:List U) (made:List CH) (e:Int) (r:Value) (H:Heap):Prop:=∃ tv mv, r = .tuple #[tv, mv, .int .i64 e] ∧ SetV t tv H ∧ KS tyC made true mv H
attribute [local irreducible] V N X VO Par StepOK Has Ret RetL RetO RetT Src
theorem zvu {l:List CH} {fu:Bool} {v:Value} {w:World} {B:Heap} (hB:B.Le (hp w)) (hv:KS tyC l fu v B):Ret Tryz.prog 194 [v] w B (KS tyC l true):=by
 refine qt Tryz.func194 rfl Tryz.ntmps194 (Nat.le_of_ble_eq_true rfl) hB ?_
 refine zbl 0 (KS tyC l fu) rfl SlV.mono hv ?_
 refine ZZ ?_;refine Zl ?_;refine Zx ?_;refine Zx ?_;refine Zer ?_;refine Zd3 ?_
 refine qq L (rs:=[.tmp 2]) rfl (fun _ _ h => h) Since.refl fun u H hH hle => ?_
 exact fun v hv => hv
set_option maxHeartbeats 4000000 in
set_option maxRecDepth 10000 in
theorem write_ret {s t:List U} {l cs made:List CH} {fl fc:Bool} {e:Int} (zl:∀ c ∈ l, TM c.1) (zc:∀ c ∈ cs, TM c.1) (ll:l.length ≤ 9223372036854775807) (lc:cs.length ≤ 9223372036854775807) (hsl:s.length ≤ 4096) (hr:zyj s l cs = (t, made, e)) {sv lv cv:Value} {w:World} {B:Heap} (hB:B.Le (hp w))
  (hs:SetV s sv B) (hl:KS tyM l fl lv B) (hc:KS tyC cs fc cv B):Ret Tryz.prog 121 [sv, lv, cv] w B (z2w t made e):=by
 obtain ⟨f1, p1, f2, q1, rfl, hpl⟩:=hs.shape
 refine qt Tryz.func121 rfl Tryz.ntmps121 (Nat.le_of_ble_eq_true rfl) hB ?_
 refine zbl 1 (KS tyM l fl) rfl SlV.mono hl ?_
 refine zbl 2 (KS tyC cs fc) rfl SlV.mono hc ?_
 unfold zyj at hr
 by_cases h1:cE 32 l = 0
 ·rw [if_pos h1] at hr
  by_cases h2:cE 32 cs = 0
  ·rw [if_pos h2] at hr
   obtain ⟨r, e1, hf⟩:∃ r e1, zg3 s l = (r, e1):=⟨_, _, rfl⟩
   rw [hf] at hr
   dsimp only at hr
   by_cases h3:e1 = 0
   ·subst h3
    rw [if_pos rfl] at hr
    obtain ⟨l32, hval⟩:=z2u h2
    refine ZaF ?_;refine Z6 ?_;refine ZaJ ?_;refine Zda ?_;refine z7 (zp L rfl rfl (zk rfl) rfl rfl rfl (fun u H hH _ _ v1 g1 => zfz zl ll h1 hH g1)) rfl ?_;refine Za0 ?_;refine Zcp ?_;refine Zp ?_;refine Zl ?_;refine z7 (zp L rfl rfl (zk rfl) rfl rfl rfl (fun u H hH _ _ v1 g1 => zm2 zc lc h2 hH g1)) rfl ?_;refine Zcf ?_;refine Zcp ?_;refine ZH ?_;refine Zbb ?_;refine Zl ?_;refine z7 (zp L rfl rfl (zk rfl) rfl rfl rfl (fun u H hH hle _ v1 g1 => first_ret zl ll hf hH (hs.le hle) g1)) rfl ?_;refine ZP ?_;refine ZS ?_;refine Zcp ?_;refine Zap ?_;refine ZbK ?_
    refine zlv (X:=SXp) 3 (r:=fun x => zed (scs x.1) znc) (φ:=ztu s) (zcr s) ⟨(f1, p1, f2, q1), hpl⟩ hs rfl ?_
    refine zge 7 tyC 7 rfl ?_
    refine zan (fun y:Nat × List U × List CH => [(3, .own (ExR (fun x:SXp => zed (scs x.1) znc) (ztu y.2.1) (zcr y.2.1))), (6, .own (zed [.nilFunc, .pointer none, .nilFunc, .pointer none] znc)), (7, .own (SlR tyC 7 y.2.2.length (y.2.2.flatMap ccs))), (40, .sat (KS tyC cs fc)), (41, .is (.int .i64 cs.length)), (42, .is (.int .i64 y.1))])
     (fun y => y.1 ≤ cs.length ∧ zm8 y.2.1 y.2.2 (cs.drop y.1) = (t, made, e) ∧ y.2.1.length ≤ 4096 ∧ y.2.2.length ≤ y.1) (fun y => cs.length - y.1) (0, s, []) ⟨Nat.zero_le _, hr, hsl, Nat.le_refl _⟩ ⟨rfl, rfl, rfl, rfl, rfl, rfl, trivial⟩ ?_
    clear hr hs hsl
    rintro ⟨k, s, md⟩ ⟨hk, he, hsl, hmd⟩
    dsimp only at hk he hsl hmd ⊢
    refine zid 3 rfl fun ⟨⟨f1, p1, f2, q1⟩, hpl⟩ H3 hs3 hT => ?_
    have hT:SetV s (.agg #[f1, .pointer p1, f2, .pointer q1]) H3:=hT
    by_cases hlt:k < cs.length
    ·obtain ⟨c, hc0⟩:=zaw hlt
     have hc:=zka hc0
     have hv:=hval c (List.mem_of_getElem? hc0)
     have hzt:=zwi hv
     rw [zh9 hc0, zm8] at he
     obtain ⟨x, d⟩:=c
     dsimp only at hc hv hzt he
     rcases hw:zf6 s x d with ⟨s', e'⟩
     rw [hw] at he
     dsimp only at he
     have hsl':=zta hsl x d
     rw [hw] at hsl'
     obtain ⟨i, hin⟩:∃ i, decide (x ∈ s) = i:=⟨_, rfl⟩
     rw [hin] at he
     by_cases h0:e' = 0
     ·rw [if_pos h0] at he
      subst h0
      cases i <;> cases d
      ·rw [if_pos rfl] at he
       refine zh ?_;refine ZE ?_;refine ZT ?_;refine ZN ?_;refine ZcK ?_;refine Zbn ?_;refine Zj ?_
       refine zfu 14 rfl fun b14 hb14 => ?_
       refine ZeC ?_;refine Ze2 ?_;refine ZbM ?_;refine Zfv ?_;refine zd (zp L rfl rfl (zk rfl) rfl rfl rfl (fun u H hH hle _ => zc2 hin hH (hT.le hle))) rfl ?_;refine ZbM ?_;refine ZeG ?_;refine Zfw ?_;refine Zeq ?_;refine Zay ?_;refine Zbb ?_;refine ZeH ?_;refine z7 (zag (φ:=WithP s' 0) L rfl rfl (zk rfl) rfl rfl rfl WithP.mono (fun u H hH hle _ => zna hw hsl hzt hH (hT.le hle))) rfl ?_;refine zd7 56 rfl ?_;rintro _ H19 hs19 ⟨tv, rfl, hT19⟩; obtain ⟨g1, r1, g2, r2, rfl, hpl2⟩:=hT19.shape; refine Zci ?_;refine Z6 ?_;refine ZbY ?_;refine Zf ?_;refine Zag ?_;refine Za ?_;refine ZV ?_;refine Zb1 ?_;refine Zbb ?_;refine ZbY ?_;refine Zj ?_;refine Zcu ?_;refine Zz ?_;refine ZdF ?_;refine q8 (zal (.inl rfl) rfl rfl rfl rfl) ?_;refine ZeH ?_;refine ZR ?_;refine Zez ?_;refine q8 (zal (.inr rfl) rfl rfl rfl rfl) ?_;refine ZcZ ?_
       refine zro (O':=[]) (List.nil_sublist _) ?_
       refine Za1 ?_;refine ZbJ ?_
       refine zox (X:=SXp) 3 (r:=fun x => zed (scs x.1) znc) (φ:=ztu s') (zcr _) ⟨(g1, r1, g2, r2), hpl2⟩ hT19 rfl ?_
       exact zhd (x:=(k, s, md)) (k + 1, s', md ++ [(x, false)]) (hs3.trans hs19) ⟨hlt, he, hsl', by dsimp only; rw [List.length_append]; show md.length + 1 ≤ k + 1; omega⟩ (by dsimp only; omega) ⟨rfl, rfl, zgm rfl, rfl, rfl, rfl, trivial⟩
      ·rw [if_neg (by decide)] at he
       refine zh ?_;refine ZE ?_;refine ZT ?_;refine ZN ?_;refine ZcK ?_;refine Zbn ?_;refine Zj ?_
       refine zfu 14 rfl fun b14 hb14 => ?_
       refine ZeC ?_;refine Ze2 ?_;refine ZbM ?_;refine Zfv ?_;refine zd (zp L rfl rfl (zk rfl) rfl rfl rfl (fun u H hH hle _ => zc2 hin hH (hT.le hle))) rfl ?_;refine ZbM ?_;refine ZeG ?_;refine Zfw ?_;refine Zeq ?_;refine Zay ?_;refine Zbb ?_;refine ZeH ?_;refine z7 (zag (φ:=WithP s' 0) L rfl rfl (zk rfl) rfl rfl rfl WithP.mono (fun u H hH hle _ => zna hw hsl hzt hH (hT.le hle))) rfl ?_;refine zd7 56 rfl ?_;rintro _ H19 hs19 ⟨tv, rfl, hT19⟩; obtain ⟨g1, r1, g2, r2, rfl, hpl2⟩:=hT19.shape; refine Zci ?_;refine Z6 ?_;refine ZbY ?_;refine Zf ?_;refine Zag ?_;refine Za ?_;refine ZV ?_;refine Zb1 ?_;refine Zbb ?_;refine ZbY ?_;refine Zj ?_;refine Zcu ?_;refine Zbj ?_
       refine zro (O':=[]) (List.nil_sublist _) ?_
       refine Za1 ?_;refine ZbJ ?_
       refine zox (X:=SXp) 3 (r:=fun x => zed (scs x.1) znc) (φ:=ztu s') (zcr _) ⟨(g1, r1, g2, r2), hpl2⟩ hT19 rfl ?_
       exact zhd (x:=(k, s, md)) (k + 1, s', md) (hs3.trans hs19) ⟨hlt, he, hsl', by dsimp only; omega⟩ (by dsimp only; omega) ⟨rfl, rfl, rfl, rfl, rfl, rfl, trivial⟩
      ·rw [if_neg (by decide)] at he
       refine zh ?_;refine ZE ?_;refine ZT ?_;refine ZN ?_;refine ZcK ?_;refine Zbn ?_;refine Zj ?_
       refine zfu 14 rfl fun b14 hb14 => ?_
       refine ZeC ?_;refine Ze2 ?_;refine ZbM ?_;refine Zfv ?_;refine zd (zp L rfl rfl (zk rfl) rfl rfl rfl (fun u H hH hle _ => zc2 hin hH (hT.le hle))) rfl ?_;refine ZbM ?_;refine ZeG ?_;refine Zfw ?_;refine Zeq ?_;refine Zay ?_;refine Zbb ?_;refine ZeH ?_;refine z7 (zag (φ:=WithP s' 0) L rfl rfl (zk rfl) rfl rfl rfl WithP.mono (fun u H hH hle _ => zna hw hsl hzt hH (hT.le hle))) rfl ?_;refine zd7 56 rfl ?_;rintro _ H19 hs19 ⟨tv, rfl, hT19⟩; obtain ⟨g1, r1, g2, r2, rfl, hpl2⟩:=hT19.shape; refine Zci ?_;refine Z6 ?_;refine ZbY ?_;refine Zf ?_;refine Zag ?_;refine Za ?_;refine ZV ?_;refine Zb1 ?_;refine Zbb ?_;refine ZbY ?_;refine Zj ?_;refine Zcu ?_;refine Zbj ?_
       refine zro (O':=[]) (List.nil_sublist _) ?_
       refine Za1 ?_;refine ZbJ ?_
       refine zox (X:=SXp) 3 (r:=fun x => zed (scs x.1) znc) (φ:=ztu s') (zcr _) ⟨(g1, r1, g2, r2), hpl2⟩ hT19 rfl ?_
       exact zhd (x:=(k, s, md)) (k + 1, s', md) (hs3.trans hs19) ⟨hlt, he, hsl', by dsimp only; omega⟩ (by dsimp only; omega) ⟨rfl, rfl, rfl, rfl, rfl, rfl, trivial⟩
      ·rw [if_pos rfl] at he
       refine zh ?_;refine ZE ?_;refine ZT ?_;refine ZN ?_;refine ZcK ?_;refine Zbn ?_;refine Zj ?_
       refine zfu 14 rfl fun b14 hb14 => ?_
       refine ZeC ?_;refine Ze2 ?_;refine ZbM ?_;refine Zfv ?_;refine zd (zp L rfl rfl (zk rfl) rfl rfl rfl (fun u H hH hle _ => zc2 hin hH (hT.le hle))) rfl ?_;refine ZbM ?_;refine ZeG ?_;refine Zfw ?_;refine Zeq ?_;refine Zay ?_;refine Zbb ?_;refine ZeH ?_;refine z7 (zag (φ:=WithP s' 0) L rfl rfl (zk rfl) rfl rfl rfl WithP.mono (fun u H hH hle _ => zna hw hsl hzt hH (hT.le hle))) rfl ?_;refine zd7 56 rfl ?_;rintro _ H19 hs19 ⟨tv, rfl, hT19⟩; obtain ⟨g1, r1, g2, r2, rfl, hpl2⟩:=hT19.shape; refine Zci ?_;refine Z6 ?_;refine ZbY ?_;refine Zf ?_;refine Zag ?_;refine Za ?_;refine ZV ?_;refine Zb1 ?_;refine Zbb ?_;refine ZbY ?_;refine Zj ?_;refine Zcu ?_;refine Zz ?_;refine ZdF ?_;refine q8 (zal (.inl rfl) rfl rfl rfl rfl) ?_;refine ZeH ?_;refine ZR ?_;refine Zez ?_;refine q8 (zal (.inr rfl) rfl rfl rfl rfl) ?_;refine ZcZ ?_
       refine zro (O':=[]) (List.nil_sublist _) ?_
       refine Za1 ?_;refine ZbJ ?_
       refine zox (X:=SXp) 3 (r:=fun x => zed (scs x.1) znc) (φ:=ztu s') (zcr _) ⟨(g1, r1, g2, r2), hpl2⟩ hT19 rfl ?_
       exact zhd (x:=(k, s, md)) (k + 1, s', md ++ [(x, true)]) (hs3.trans hs19) ⟨hlt, he, hsl', by dsimp only; rw [List.length_append]; show md.length + 1 ≤ k + 1; omega⟩ (by dsimp only; omega) ⟨rfl, rfl, zgm rfl, rfl, rfl, rfl, trivial⟩
     ·rw [if_neg h0] at he
      cases he
      refine zh ?_;refine ZE ?_;refine ZT ?_;refine ZN ?_;refine ZcK ?_;refine Zbn ?_;refine Zj ?_
      refine zfu 14 rfl fun b14 hb14 => ?_
      refine ZeC ?_;refine Ze2 ?_;refine ZbM ?_;refine Zfv ?_;refine zd (zp L rfl rfl (zk rfl) rfl rfl rfl (fun u H hH hle _ => zc2 hin hH (hT.le hle))) rfl ?_;refine ZbM ?_;refine ZeG ?_;refine Zfw ?_;refine Zeq ?_;refine Zay ?_;refine Zbb ?_;refine ZeH ?_;refine z7 (zag (φ:=WithP s' e) L rfl rfl (zk rfl) rfl rfl rfl WithP.mono (fun u H hH hle _ => zna hw hsl hzt hH (hT.le hle))) rfl ?_;refine zd7 56 rfl ?_;rintro _ H19 hs19 ⟨tv, rfl, hT19⟩; obtain ⟨g1, r1, g2, r2, rfl, hpl2⟩:=hT19.shape; refine Zci ?_;refine Z6 ?_;refine ZbY ?_;refine Zf ?_;refine Zag ?_;refine Za ?_;refine ZF ?_;refine Zaj ?_;refine Zcs ?_;refine Za ?_;refine Zan ?_;refine Zy ?_
      refine qq L (rs:=[.cell 6 91, .tmp 7, .tmp 8]) rfl (fun _ _ h => h) (hs3.trans hs19) fun u H hH hle => ?_
      exact ⟨_, qk rfl, rfl, _, _, rfl, SetV.nil, SlV.nil⟩
    ·obtain rfl:k = cs.length:=by omega
     rw [List.drop_length, zm8] at he
     cases he
     refine zh ?_;refine ZE ?_;refine ZaD ?_
     refine zkp 7 rfl ?_
     refine q4 (id:=21) [] mixed (by kernel_rfl) ?_;refine Ze2 ?_;refine ZcD ?_;refine zd (zag (φ:=KS tyC made true) L rfl rfl (zk rfl) rfl rfl rfl SlV.mono (fun u H hH _ _ v1 g1 => zvu hH g1)) rfl ?_;refine zd (qd L rfl rfl rfl rfl rfl rfl (by assumption) rfl) rfl ?_;refine Zef ?_;refine ZK ?_
     refine qq L (rs:=[.cell 6 91, .tmp 7, .tmp 8]) rfl (fun _ _ h => h) hs3 fun u H hH hle => ?_
     exact ⟨_, qk rfl, rfl, fun mv hmv => ⟨_, mv, rfl, hT.le hle, hmv⟩⟩
   ·rw [if_neg h3] at hr
    cases hr
    refine ZaF ?_;refine Z6 ?_;refine ZaJ ?_;refine Zda ?_;refine z7 (zp L rfl rfl (zk rfl) rfl rfl rfl (fun u H hH _ _ v1 g1 => zfz zl ll h1 hH g1)) rfl ?_;refine Za0 ?_;refine Zcp ?_;refine Zp ?_;refine Zl ?_;refine z7 (zp L rfl rfl (zk rfl) rfl rfl rfl (fun u H hH _ _ v1 g1 => zm2 zc lc h2 hH g1)) rfl ?_;refine Zcf ?_;refine Zcp ?_;refine ZH ?_;refine Zbb ?_;refine Zl ?_;refine z7 (zp L rfl rfl (zk rfl) rfl rfl rfl (fun u H hH hle _ v1 g1 => first_ret zl ll hf hH (hs.le hle) g1)) rfl ?_;refine ZP ?_;refine ZS ?_;refine ZF ?_;refine Zah ?_;refine Zcs ?_;refine Za ?_;refine Zan ?_;refine Zy ?_
    refine qq L (rs:=[.cell 6 91, .tmp 7, .tmp 8]) rfl (fun _ _ h => h) Since.refl fun u H hH hle => ?_
    exact ⟨_, qk rfl, rfl, _, _, rfl, SetV.nil, SlV.nil⟩
  ·rw [if_neg h2] at hr
   cases hr
   refine ZaF ?_;refine Z6 ?_;refine ZaJ ?_;refine Zda ?_;refine z7 (zp L rfl rfl (zk rfl) rfl rfl rfl (fun u H hH _ _ v1 g1 => zfz zl ll h1 hH g1)) rfl ?_;refine Za0 ?_;refine Zcp ?_;refine Zp ?_;refine Zl ?_;refine z7 (zp L rfl rfl (zk rfl) rfl rfl rfl (fun u H hH _ _ v1 g1 => zm2 zc lc rfl hH g1)) rfl ?_;refine Zcf ?_;refine ZF ?_;refine Zak ?_;refine Zcs ?_;refine Za ?_;refine Zan ?_;refine Zy ?_
   refine qq L (rs:=[.cell 6 91, .tmp 7, .tmp 8]) rfl (fun _ _ h => h) Since.refl fun u H hH hle => ?_
   exact ⟨_, qk rfl, rfl, _, _, rfl, SetV.nil, SlV.nil⟩
 ·rw [if_neg h1] at hr
  cases hr
  refine ZaF ?_;refine Z6 ?_;refine ZaJ ?_;refine Zda ?_;refine z7 (zp L rfl rfl (zk rfl) rfl rfl rfl (fun u H hH _ _ v1 g1 => zfz zl ll rfl hH g1)) rfl ?_;refine Za0 ?_;refine ZF ?_;refine Zo ?_;refine Zcs ?_;refine Za ?_;refine Zan ?_;refine Zy ?_
  refine qq L (rs:=[.cell 6 91, .tmp 7, .tmp 8]) rfl (fun _ _ h => h) Since.refl fun u H hH hle => ?_
  exact ⟨_, qk rfl, rfl, _, _, rfl, SetV.nil, SlV.nil⟩
end Go.V.L8
set_option maxRecDepth 20000
namespace Go.V.L8
open Go.Proofs Go.RowKit Go.V Go.V.L2 Go.V.L3 Go.V.L6
attribute [local irreducible] V N X VO Par StepOK Has Ret RetL RetO RetT Src
end Go.V.L8
set_option maxRecDepth 20000
namespace Go.V.L8
open Go.Proofs Go.RowKit Go.V Go.V.L2 Go.V.L3 Go.V.L6
attribute [local irreducible] V N X VO Par StepOK Has Ret RetL RetO RetT Src
end Go.V.L8
set_option maxRecDepth 20000
namespace Go.V.L8
open Go.Proofs Go.RowKit Go.V Go.V.L2 Go.V.L3 Go.V.L6
attribute [local irreducible] V N X VO Par StepOK Has Ret RetL RetO RetT Src
end Go.V.L8
set_option maxRecDepth 20000
namespace Go.V.L8
open Go.Proofs Go.RowKit Go.V Go.V.L2 Go.V.L3 Go.V.L6
theorem _root_.Go.V.Zfe {A B:Prop} (h:B) (t:Wr B → A:=by intro h; refine zd (yf L (vs:=[_, _, _, _, _, _, _]) rfl rfl rfl rfl rfl ⟨_, rfl⟩) rfl ?_;exact h.h):A:=t ⟨h⟩
theorem z4d {t v:CH} {r:Bool} (e:decide (t = v) = r):zhh [0, 0, 0, 0, 0, 0, 2] [.string t.1.1.1.1, .string t.1.1.1.2, .string t.1.1.2, .string t.1.2.1.1, .string t.1.2.1.2, .string t.1.2.2, .bool t.2] [.string v.1.1.1.1, .string v.1.1.1.2, .string v.1.1.2, .string v.1.2.1.1, .string v.1.2.1.2, .string v.1.2.2, .bool v.2] = some r:=by
 subst e
 simp only [zhh, eqC]
 obtain ⟨⟨⟨⟨t1, t2⟩, t3⟩, ⟨⟨t4, t5⟩, t6⟩⟩, t7⟩:=t
 obtain ⟨⟨⟨⟨v1, v2⟩, v3⟩, ⟨⟨v4, v5⟩, v6⟩⟩, v7⟩:=v
 simp only [Prod.mk.injEq]
 by_cases a1:t1 = v1
 ·by_cases a2:t2 = v2
  ·by_cases a3:t3 = v3
   ·by_cases a4:t4 = v4
    ·by_cases a5:t5 = v5
     ·by_cases a6:t6 = v6
      ·by_cases a7:t7 = v7
       ·simp [a1, a2, a3, a4, a5, a6, a7]
       ·cases t7 <;> cases v7 <;> simp [a1, a2, a3, a4, a5, a6] at a7 ⊢
      ·simp [a6]
     ·simp [a5]
    ·simp [a4]
   ·simp [a3]
  ·simp [a2]
 ·simp [a1]
attribute [local irreducible] V N X VO Par StepOK Has Ret RetL RetO RetT Src
set_option maxHeartbeats 2000000 in
theorem zr4 {a b:List CH} {fa fb:Bool} (hla:a.length ≤ 1000000) (hlb:b.length ≤ 1000000) {e:Int} (he:(if a = b then 1 else 0:Int) = e) {va vb:Value} {w:World} {B:Heap} (hB:B.Le (hp w)) (ha:KS tyC a fa va B) (hb:KS tyC b fb vb B) :
  Ret Tryz.prog 19 [va, vb] w B (fun v _ => v = .int .i64 e):=by
 subst he
 refine qt Tryz.func19 rfl Tryz.ntmps19 (Nat.le_of_ble_eq_true rfl) hB ?_
 refine zbl 0 (KS tyC a fa) rfl SlV.mono ha ?_
 refine zbl 1 (KS tyC b fb) rfl SlV.mono hb ?_
 by_cases hl:a.length = b.length
 ·refine ZO ?_;refine Zf ?_;refine Zb3 ?_;refine Zx ?_;refine Zcp ?_;refine Zo ?_;refine Zaf ?_
  refine zan (fun i:Nat => [(0, .sat (KS tyC a fa)), (1, .sat (KS tyC b fb)), (5, .is (.int .i64 i))]) (fun i => i ≤ a.length ∧ a.take i = b.take i) (fun i => a.length - i) 0 ⟨Nat.zero_le _, rfl⟩ ⟨rfl, rfl, rfl, trivial⟩ ?_
  rintro i ⟨hi, hti⟩
  by_cases hlt:i < a.length
  ·obtain ⟨x, hx⟩:=zaw hlt
   obtain ⟨y, hy⟩:=zaw (l:=b) (i:=i) (by omega)
   have hcx:=zka hx
   have hcy:=zka hy
   by_cases hxy:x = y
   ·subst hxy
    have hq:=z4d (t:=x) (v:=x) (decide_eq_true rfl)
    refine Ze ?_;refine Zi ?_;refine Zx ?_;refine ZbB ?_;refine Zes ?_;refine Zd5 ?_;refine Zfe ?_;refine Zd5 ?_;refine Zfe ?_;refine zd (zml rfl rfl rfl rfl z4e (by assumption) rfl) rfl ?_;refine Zbv ?_;refine zq ?_;refine Zat ?_;refine ZY ?_;refine Za6 ?_
    exact qy (x:=i) (i + 1) ⟨hlt, by rw [List.take_add_one, List.take_add_one, hx, hy, hti]⟩ (by omega) ⟨rfl, rfl, rfl, trivial⟩
   ·have hq:=z4d (t:=x) (v:=y) (decide_eq_false hxy)
    rw [if_neg (fun h => by subst h; rw [hx] at hy; cases hy; exact hxy rfl)]
    refine Ze ?_;refine Zi ?_;refine Zx ?_;refine ZbB ?_;refine Zes ?_;refine Zd5 ?_;refine Zfe ?_;refine Zd5 ?_;refine Zfe ?_;refine zd (zml rfl rfl rfl rfl z4e (by assumption) rfl) rfl ?_;refine Zb9 ?_;refine zh ?_;refine ZH ?_;refine Zc ?_
    refine qq L (rs:=[.tmp 4]) rfl (fun _ _ h => h) Since.refl fun u H hH hle => ?_
    rfl
  ·have hab:a = b:=by rw [List.take_of_length_le (by omega), List.take_of_length_le (by omega)] at hti; exact hti
   rw [if_pos hab]
   refine Ze ?_;refine Zi ?_;refine Zx ?_;refine Z7 ?_;refine Zbd ?_;refine ZA ?_;refine Zc ?_
   refine qq L (rs:=[.tmp 4]) rfl (fun _ _ h => h) Since.refl fun u H hH hle => ?_
   rfl
 ·rw [if_neg (fun h => hl (by rw [h]))]
  refine ZO ?_;refine Zf ?_;refine Zb3 ?_;refine Zx ?_;refine ZF ?_;refine Z5 ?_;refine Zc ?_
  refine qq L (rs:=[.tmp 4]) rfl (fun _ _ h => h) Since.refl fun u H hH hle => ?_
  rfl
end Go.V.L8
set_option maxRecDepth 20000
namespace Go.V.L8
open Go.Proofs Go.RowKit Go.V Go.V.L2 Go.V.L3 Go.V.L6
attribute [local irreducible] V N X VO Par StepOK Has Ret RetL RetO RetT Src
end Go.V.L8
set_option maxRecDepth 20000
namespace Go.V.L8
open Go.Proofs Go.RowKit Go.V Go.V.L2 Go.V.L3 Go.V.L6
end Go.V.L8
set_option maxRecDepth 20000
namespace Go.V.L8
open Go.Proofs Go.RowKit Go.V Go.V.L2 Go.V.L3 Go.V.L6
attribute [local irreducible] V N X VO Par StepOK Has Ret RetL RetO RetT Src
end Go.V.L8
set_option maxRecDepth 20000
namespace Go.V.L10
open Go.Proofs Go.RowKit Go.V Go.V.L2 Go.V.L8 Go.V.L6
structure OO where
 wh:Nat
 ms:List C3
 cs:List C3
 rv:Nat
 kp:Int
def OO.rev (o:OO):Int:=if o.rv = 255 then 18446744073709551615 else (o.rv:Int)
end Go.V.L10
set_option maxRecDepth 20000
namespace Go.V.L10
open Go.Proofs Go.RowKit Go.V Go.V.L2 Go.V.L8 Go.V.L6
theorem zwy {R:List (Option (List U))} {es:Ent} (hm:MapOK es R) {out:List Int} (hp:out.Perm (es.map Prod.fst)):(Go.Sort.sort So.lt out.toArray).toList = zf9 R:=by
 have h1:(Go.Sort.sort So.lt out.toArray).toList = out.mergeSort (fun x y => decide (x ≤ y)):=Go.Sort.sortInt out
 rw [h1]
 have hperm:=List.mergeSort_perm out (fun x y => decide (x ≤ y))
 have hnd:(out.mergeSort (fun x y => decide (x ≤ y))).Nodup:=(hperm.trans hp).nodup_iff.2 hm.nd
 have hs:(out.mergeSort (fun x y => decide (x ≤ y))).Pairwise fun a b => decide (a ≤ b) = true:=List.pairwise_mergeSort (le:=fun x y:Int => decide (x ≤ y)) (fun a b c h1 h2 => by simp at h1 h2 ⊢; omega) (fun a b => by simp; omega) out
 refine zpd zg9 ?_ (znn R) fun z => ?_
 ·refine (List.Pairwise.and hs hnd).imp ?_
  rintro a b ⟨h2, h3⟩
  have h4:a ≤ b:=by simpa using h2
  have h5:a ≠ b:=h3
  exact z2s.2 (by omega)
 ·rw [(hperm.trans hp).mem_iff, hm.mem]
theorem zln {α:Type}:∀ {l:List α} {j:Nat} {x:α}, l[j]? = some x → (x :: l.eraseIdx j).Perm l
 | [], _, _, h => by cases h
 | y :: l, 0, x, h => by cases h; exact List.Perm.refl _
 | y :: l, j + 1, x, h => by
  have:=zln (l:=l) (j:=j) (x:=x) (by simpa using h)
  exact (List.Perm.swap y x _).trans (this.cons y)
theorem zvc {left:Ent} {j:Nat} {p:Int × (List U × Value)} (h:left[j]? = some p) (out:List Int):(out ++ [p.1] ++ (left.eraseIdx j).map Prod.fst).Perm (out ++ left.map Prod.fst):=by
 have h1:(p :: left.eraseIdx j).Perm left:=zln h
 rw [List.append_assoc]
 refine List.Perm.append_left out ?_
 simpa using h1.map Prod.fst
attribute [local irreducible] V N X VO Par StepOK Has Ret RetL RetO RetT zbd RetX RetY Src
abbrev z25 (R:List (Option (List U))):Res:=SlE z06 1 (zf9 R).length ((zf9 R).map (Value.int .u64))
set_option maxHeartbeats 2000000 in
set_option maxRecDepth 10000 in
theorem zxl {R:List (Option (List U))} {b m t:Nat} {s:Value} {es:Ent} (hm:MapOK es R) (hn:R.length ≠ 0) (hz:es.length ≤ 100000) {w:World} {B:Heap} {C:Nat → Prop} (hB:B.Le (hp w)) (hr:(StO b R.length m s t es).P B w C) (hC:∀ k, C k → k < w.heap.size ∧ B k = none) :
  RetT Tryz.prog 85 [.pointer (some ⟨b, 0, none⟩)] w B C (zhf (z25 R) (StO b R.length m s t es).res):=by
 have hlen:=hm.len
 rw [show z25 R = SlE z06 1 es.length ((zf9 R).map (Value.int .u64)) by rw [hlen]]
 unfold RetT
 refine zah 900 (StO b R.length m s t es) Tryz.func85 rfl Tryz.ntmps85 (Nat.le_of_ble_eq_true rfl) hB hr hC ?_
 rw [zpb]
 refine zdi 900 901 rfl (zas _) ?_
 refine ZaT ?_;refine qw (zb8 L 900 (Φ:=fun H => H b = some (.cells (stc R.length m s t).toArray tyS)) (c:=.bool false) rfl rfl (zk rfl) rfl rfl rfl rfl rfl zlj (fun u H hH hle hb => none_ret hn hb hH)) ?_;refine Zt ?_;refine Zk ?_;refine Z0 ?_;refine qw (zzz (q:=901) (vc:=vcE) mpS rfl rfl rfl rfl rfl) ?_;refine z7 (zug L es.length rfl rfl rfl z3s rfl rfl rfl (by omega) (by unfold maxLen; omega)) rfl ?_;refine q8 (zal (.inr rfl) rfl rfl rfl rfl) ?_;refine Zaw ?_
 refine zx8 3 902 rfl fun b3 rest0 _ _ hcm hcl0 => ?_
 refine Zi ?_;refine Z0 ?_;refine q8 (zud (q:=901) (vc:=vcE) mpS rfl rfl rfl rfl) ?_;refine ZbI ?_
 refine zan (fun T:(List Int × List Value) × Ent => [(3, .is (.slice (some ⟨b3, 0, none⟩) T.1.1.length es.length)), (17, .own (zye m .u64 vcE es T.2)), (900, .own (zaj b (stc R.length m s t) tyS)), (902, .own (zaj b3 (T.1.1.map (Value.int .u64) ++ T.1.2) z06))])
  (fun T => (T.1.1 ++ T.2.map Prod.fst).Perm (es.map Prod.fst) ∧ (T.1.1.map (Value.int .u64) ++ T.1.2).length = es.length * 1) (fun T => T.2.length) (([], rest0), es) ⟨List.Perm.refl _, hcl0⟩ ⟨rfl, rfl, rfl, rfl, trivial⟩ ?_
 rintro ⟨⟨out, rest⟩, left⟩ ⟨hp, hcl⟩
 dsimp only at hp hcl ⊢
 have hpl:=hp.length_eq
 rw [List.length_append, List.length_map, List.length_map] at hpl
 by_cases hl:left = []
 ·subst hl
  rw [List.map_nil, List.append_nil] at hp
  have hol:out.length = es.length:=by simpa using hpl
  have hr0:rest = []:=List.eq_nil_of_length_eq_zero (by rw [List.length_append, List.length_map] at hcl; omega)
  subst hr0
  rw [hol]
  have hsk:=zwy hm hp
  refine Zbq ?_;refine z7 (zue rfl rfl rfl rfl rfl) rfl ?_;refine ZeP ?_;refine ZfX ?_;refine ZfK ?_
  refine z21 17 901 rfl ?_
  refine ZS ?_;refine q8 (zao L 902 (zab b3 ((zf9 R).map (Value.int .u64) ++ []) So.tyU) (r:=zab b3 (out.map (Value.int .u64) ++ []) So.tyU) rfl rfl rfl rfl rfl (fun u H C hH _ hr hC => by have h:=So.sortU_ret (d:=out.toArray) (rest:=[]) (b:=b3) (m:=es.length) (cap:=es.length) (by simpa using hol) hz hH hr hC; unfold uC at h; rw [hsk] at h; exact h)) ?_;refine Zj ?_
  rw [zae, show (zf9 R).map (Value.int .u64) ++ [] = (zf9 R).map (Value.int .u64) from List.append_nil _]
  refine z2y (s:=1) 3 902 rfl rfl (by rw [List.length_map, hlen, Nat.mul_one]) (by unfold maxLen; omega) ?_
  refine Zah ?_;refine q8 (zal (.inl rfl) rfl rfl rfl rfl) ?_;refine q8 (zal (.inr rfl) rfl rfl rfl rfl) ?_;refine Z1 ?_
  refine Zfd ?_
  refine zcu 2 900 rfl rfl (zas (StO b R.length m s t es)) ?_
  exact z2x rfl (fun _ _ h => h) Since.refl rfl
 ·have hll:0 < left.length:=List.length_pos_iff.2 hl
  have hroom:out.length + 1 ≤ es.length:=by omega
  have hrl:0 < rest.length:=by rw [List.length_append, List.length_map] at hcl; omega
  have hcl2:out.length * 1 + 1 * 1 ≤ (out.map (Value.int .u64) ++ rest).length:=by rw [hcl]; omega
  have hrr:∀ k:Int, (out.map (Value.int .u64) ++ rest).take (out.length * 1) ++ ([Value.int .u64 k] ++ (out.map (Value.int .u64) ++ rest).drop (out.length * 1 + 1 * 1)) = (out ++ [k]).map (Value.int .u64) ++ rest.drop 1:=fun k => by
   have e1:(out.map (Value.int .u64)).length = out.length * 1:=by simp
   rw [← e1, List.take_append, List.take_of_length_le (Nat.le_refl _), Nat.sub_self, List.take_zero, List.append_nil, List.drop_append, List.drop_eq_nil_of_le (by omega), List.nil_append, show (out.map (Value.int .u64)).length + 1 * 1 - (out.map (Value.int .u64)).length = 1 by omega]
   simp
  refine Zbq ?_;refine zwe rfl rfl hl rfl rfl rfl (fun j p hjp => ?_); refine ZeP ?_;refine ZfW ?_;refine Zc9 ?_;refine Zak ?_;refine z7 (zuj rfl rfl rfl) rfl ?_;refine ZeP ?_;refine Zc ?_;refine ZH ?_;refine Zb ?_;refine ZR ?_;refine q8 (zpu L (q:=902) rfl rfl rfl rfl (zkw rfl) rfl z3s (by omega) rfl hroom hcl2 rfl (hrr _)) ?_;refine ZG ?_
  refine z03 17 (zye m .u64 vcE es (left.eraseIdx j)) rfl z1n ?_
  exact qy (x:=((out, rest), left)) ((out ++ [p.1], rest.drop 1), left.eraseIdx j) ⟨(zvc hjp out).trans hp, by
   dsimp only
   rw [List.length_append, List.length_map, List.length_append, List.length_drop]
   rw [List.length_append, List.length_map] at hcl
   simp only [List.length_cons, List.length_nil]
   omega⟩ (by dsimp only; rw [List.length_eraseIdx_of_lt (get_lt hjp)]; omega) ⟨by rw [List.length_append]; rfl, rfl, rfl, rfl, trivial⟩
end Go.V.L10
set_option maxRecDepth 20000
namespace Go.V
open Go.Proofs Go.RowKit
section
variable {α β:Type} [DecidableEq α] [DecidableEq β] {k:α → β} {c:β → β → Int}
theorem zqk (ho:Ord3 c):∀ {S S':List α}, Srt k c S → Srt k c S' → Eqv k S S' → S' = S
 | [], S', _, _, h => List.eq_nil_of_length_eq_zero (by rw [h.length]; rfl)
 | x :: r, [], _, _, h => by have:=h.length; simp at this
 | x :: r, y :: r', h1, h2, h => by
  have hxy:k x = k y:=by
   have hx:x ∈ y :: r':=h.mem.2 (List.mem_cons_self ..)
   have hy:y ∈ x :: r:=h.mem.1 (List.mem_cons_self ..)
   have e1:¬ c (k x) (k y) < 0:=by
    rcases List.mem_cons.1 hx with e | hx
    ·rw [e]; exact ho.irr _
    ·exact (List.pairwise_cons.1 h2).1 x hx
   have e2:¬ c (k y) (k x) < 0:=by
    rcases List.mem_cons.1 hy with e | hy
    ·rw [e]; exact ho.irr _
    ·exact (List.pairwise_cons.1 h1).1 y hy
   have:=ho.anti (k x) (k y)
   exact ho.eq _ _ (by omega)
  have hf:=h (k x)
  rw [List.filter_cons_of_pos (by simp [hxy]), List.filter_cons_of_pos (by simp)] at hf
  have hxe:y = x:=(List.cons.inj hf).1
  subst hxe
  have ht:Eqv k r r':=fun t => by
   have:=h t
   by_cases e:k y = t
   ·rw [List.filter_cons_of_pos (by simpa using e), List.filter_cons_of_pos (by simpa using e)] at this
    exact (List.cons.inj this).2
   ·rwa [List.filter_cons_of_neg (by simpa using e), List.filter_cons_of_neg (by simpa using e)] at this
  rw [zqk ho (List.pairwise_cons.1 h1).2 (List.pairwise_cons.1 h2).2 ht]
omit [DecidableEq α] in
theorem Eqv.symm {A B:List α} (h:Eqv k A B):Eqv k B A:=fun t => (h t).symm
theorem zwr (ho:Ord3 c) {l S S':List α} (h:Stb k c l S) (h':Stb k c l S'):S' = S:=zqk ho h.1 h'.1 (h.2.symm.trans h'.2)
def z0b (k:α → β) (c:β → β → Int) (x:α):List α → List α
 | [] => [x]
 | y :: l => if c (k x) (k y) < 0 then x :: y :: l else y :: z0b k c x l
omit [DecidableEq α] [DecidableEq β] in
theorem zlm (ho:Ord3 c) {x:α}:∀ {S:List α}, Srt k c S → ∃ A B, S = A ++ B ∧ z0b k c x S = A ++ x :: B ∧ (∀ a ∈ A, ¬ c (k x) (k a) < 0) ∧ ∀ b ∈ B, c (k x) (k b) < 0
 | [], _ => ⟨[], [], rfl, rfl, fun a h => (by cases h), fun a h => (by cases h)⟩
 | y :: l, h => by
  obtain ⟨h1, h2⟩:=List.pairwise_cons.1 h
  by_cases hxy:c (k x) (k y) < 0
  ·refine ⟨[], y :: l, rfl, if_pos hxy, fun a h => (by cases h), fun b hb => ?_⟩
   rcases List.mem_cons.1 hb with rfl | hb
   ·exact hxy
   ·have h3:=h1 b hb
    have:=ho.anti (k b) (k y)
    by_cases h4:c (k y) (k b) < 0
    ·exact ho.tr hxy h4
    ·rw [← ho.eq (k y) (k b) (by omega)]; exact hxy
  ·obtain ⟨A, B, e1, e2, e3, e4⟩:=zlm ho (x:=x) h2
   refine ⟨y :: A, B, by rw [e1]; rfl, ?_, fun a ha => ?_, e4⟩
   ·rw [z0b, if_neg hxy, e2]; rfl
   ·rcases List.mem_cons.1 ha with rfl | ha
    ·exact hxy
    ·exact e3 a ha
def zkt (k:α → β) (c:β → β → Int) (l:List α):List α:=l.foldl (fun S x => z0b k c x S) []
omit [DecidableEq α] [DecidableEq β] in
theorem zzd:Srt k c []:=List.Pairwise.nil
omit [DecidableEq α] in
theorem zws (ho:Ord3 c) {l S:List α} {x:α} (h:Stb k c l S):Stb k c (l ++ [x]) (z0b k c x S):=by
 obtain ⟨A, B, e1, e2, e3, e4⟩:=zlm ho (x:=x) h.1
 have h1:=h.1
 rw [e1] at h1
 have h2:=zpc ho h1 e3 e4
 rw [e2]
 rw [← e1] at h2
 exact ⟨h2.1, (h.2.app (Eqv.refl [x])).trans h2.2⟩
omit [DecidableEq α] in
theorem zcg (ho:Ord3 c) (l:List α):Stb k c l (zkt k c l):=by
 suffices ∀ (r l S:List α), Stb k c l S → Stb k c (l ++ r) (r.foldl (fun S x => z0b k c x S) S) by
  have:=this l [] [] ⟨zzd, Eqv.refl _⟩
  exact this
 intro r
 induction r with
 | nil => intro l S h; rw [List.append_nil]; exact h
 | cons x r ih =>
  intro l S h
  have:=ih (l ++ [x]) (z0b k c x S) (zws ho h)
  rw [List.append_assoc] at this
  exact this
theorem zk6 (ho:Ord3 c) {l S:List α} (h:Stb k c l S):S = zkt k c l:=zwr ho (zcg ho l) h
theorem zqj (ho:Ord3 c) (l:List α):(zkt k c l).length = l.length:=(zcg (k:=k) ho l).2.length
omit [DecidableEq α] [DecidableEq β] in
theorem zwv:zkt k c [] = []:=rfl
theorem zwu (ho:Ord3 c) {l:List α} (h:Srt k c l):zkt k c l = l:=(zk6 ho ⟨h, Eqv.refl l⟩).symm
theorem zww (ho:Ord3 c) (X Y:List α):zkt k c (zkt k c X ++ zkt k c Y) = zkt k c (X ++ Y) :=
 zk6 ho ⟨(zcg ho _).1, (((zcg ho X).2.app (zcg ho Y).2)).trans (zcg ho _).2⟩
theorem z0a (ho:Ord3 c) {X A B:List α} {x:α} (h:A ++ B = zkt k c X) (hb:∀ b ∈ B, c (k x) (k b) < 0) (ha:∀ y, A.getLast? = some y → ¬ c (k x) (k y) < 0):A ++ x :: B = zkt k c (X ++ [x]):=by
 have hs:=(zcg (k:=k) ho X).1
 rw [← h] at hs
 have hA:∀ a ∈ A, ¬ c (k x) (k a) < 0:=fun a ham => by
  rcases List.eq_nil_or_concat A with e | ⟨A', y, rfl⟩
  ·subst e; cases ham
  ·have h1:=ha y (by simp)
   simp only [List.concat_eq_append, List.mem_append, List.mem_singleton] at ham
   rcases ham with ham | rfl
   ·have h2:=(zdt.1 hs).1
    simp only [List.concat_eq_append] at h2
    have h3:=(zdt.1 h2).2.2 a ham y (by simp)
    have e1:=ho.anti (k y) (k a)
    intro h4
    refine h1 ?_
    by_cases h5:c (k a) (k y) < 0
    ·exact ho.tr h4 h5
    ·rw [← ho.eq (k a) (k y) (by omega)]; exact h4
   ·exact h1
 have h1:=zpc ho hs hA hb
 rw [h] at h1
 exact zk6 ho ⟨h1.1, ((zcg (k:=k) ho X).2.app (Eqv.refl [x])).trans h1.2⟩
def chS (k:α → β) (c:β → β → Int) (n:Nat):Nat → List α → List α
 | 0, _ => []
 | f + 1, l => if l = [] then [] else zkt k c (l.take n) ++ chS k c n f (l.drop n)
omit [DecidableEq α] [DecidableEq β] in
theorem zfp (n f:Nat):chS k c n f [] = []:=by cases f <;> simp [chS]
omit [DecidableEq α] [DecidableEq β] in
theorem zrf {n:Nat} (hn:0 < n):∀ {f g:Nat} {l:List α}, l.length ≤ f → l.length ≤ g → chS k c n f l = chS k c n g l
 | 0, g, l, hf, _ => by obtain rfl:l = []:=List.eq_nil_of_length_eq_zero (by omega); rw [zfp, zfp]
 | f + 1, 0, l, _, hg => by obtain rfl:l = []:=List.eq_nil_of_length_eq_zero (by omega); rw [zfp, zfp]
 | f + 1, g + 1, l, hf, hg => by
  by_cases h:l = []
  ·subst h; rw [zfp, zfp]
  ·rw [chS, chS, if_neg h, if_neg h]
   have:0 < l.length:=List.length_pos_iff.2 h
   rw [zrf hn (f:=f) (g:=g) (by rw [List.length_drop]; omega) (by rw [List.length_drop]; omega)]
def chL (k:α → β) (c:β → β → Int) (n:Nat) (l:List α):List α:=chS k c n l.length l
omit [DecidableEq α] [DecidableEq β] in
theorem zm1 {n:Nat} (hn:0 < n) (l:List α):chL k c n l = zkt k c (l.take n) ++ chL k c n (l.drop n):=by
 unfold chL
 by_cases h:l = []
 ·subst h; simp [zfp, zwv]
 ·have:0 < l.length:=List.length_pos_iff.2 h
  obtain ⟨m, hm⟩:∃ m, l.length = m + 1:=⟨l.length - 1, by omega⟩
  rw [hm, chS, if_neg h, zrf hn (f:=m) (g:=(l.drop n).length) (by rw [List.length_drop]; omega) (Nat.le_refl _)]
omit [DecidableEq α] [DecidableEq β] in
theorem zp5 (n:Nat):chL k c n [] = []:=zfp _ _
omit [DecidableEq α] [DecidableEq β] in
theorem z0m {n:Nat} (hn:0 < n) {l:List α} (h:l.length ≤ n):chL k c n l = zkt k c l:=by
 rw [zm1 hn, List.take_of_length_le h, List.drop_eq_nil_of_le h, zp5, List.append_nil]
theorem zvx (ho:Ord3 c) {n:Nat} (hn:0 < n):∀ (m:Nat) {l:List α}, l.length ≤ m → (chL k c n l).length = l.length
 | 0, l, h => by obtain rfl:l = []:=List.eq_nil_of_length_eq_zero (by omega); rw [zp5]
 | m + 1, l, h => by
  by_cases h0:l = []
  ·subst h0; rw [zp5]
  ·have:0 < l.length:=List.length_pos_iff.2 h0
   rw [zm1 hn, List.length_append, zqj ho, zvx ho hn m (by rw [List.length_drop]; omega), ← List.length_append, List.take_append_drop]
end
end Go.V
set_option maxRecDepth 20000
namespace Go.V.L8
open Go.Proofs Go.RowKit Go.V Go.V.L2 Go.V.L3 Go.V.L6
theorem zlp (l:List CH):(l.flatMap ccs).length = l.length * 7:=zkg zvy l
theorem zxu (l:List CH):(l.flatMap ccs).all zdh = true:=by
 induction l with
 | nil => rfl
 | cons x l ih => rw [List.flatMap_cons, List.all_append, ih]; rfl
abbrev ch7 (c:CH):List Value:=[.string c.1.1.1.1, .string c.1.1.1.2, .string c.1.1.2, .string c.1.2.1.1, .string c.1.2.1.2, .string c.1.2.2, .bool c.2]
theorem zbu {l:List CH} {rest:List Value} {i:Nat} {t:CH} (h:l[i]? = some t) (off:Nat) (ho:off = i * 7):∃ r, (l.flatMap ccs ++ rest).drop off = ch7 t ++ r:=by
 subst ho
 have h1:((l.flatMap ccs).drop (i * 7)).take 7 = ch7 t:=zka h
 have h2:=get_lt h
 refine ⟨((l.flatMap ccs).drop (i * 7)).drop 7 ++ rest, ?_⟩
 rw [List.drop_append_of_le_length (by rw [zlp]; exact Nat.mul_le_mul_right _ (by omega)), ← List.append_assoc]
 congr 1
 rw [← h1, List.take_append_drop]
theorem zdc {ls:List CH} {rest:List Value} {k:Nat} {z:CH} (h:k < ls.length) (off:Nat) (ho:off = k * 7):(ls.flatMap ccs ++ rest).take off ++ (ch7 z ++ (ls.flatMap ccs ++ rest).drop (off + 7)) = (ls.set k z).flatMap ccs ++ rest:=by
 subst ho
 have e1:ls = ls.take k ++ (ls[k] :: ls.drop (k + 1)):=by rw [List.getElem_cons_drop, List.take_append_drop]
 have hk:(ls.take k).length = k:=by rw [List.length_take]; omega
 have e2:ls.set k z = ls.take k ++ (z :: ls.drop (k + 1)):=by
  conv => lhs; rw [e1]
  rw [List.set_append_right _ _ (by omega), hk, Nat.sub_self]; rfl
 rw [e2]
 generalize ls.take k = A at e1 hk
 generalize ls.drop (k + 1) = D at e1
 generalize ls[k] = y at e1
 subst e1
 have hA:(A.flatMap ccs).length = k * 7:=by rw [zlp, hk]
 simp only [List.flatMap_append, List.flatMap_cons, List.append_assoc]
 rw [List.take_left' hA, show k * 7 + 7 = (A.flatMap ccs).length + 7 by omega, ← List.drop_drop, List.drop_left, show (ccs y ++ (D.flatMap ccs ++ rest)).drop 7 = D.flatMap ccs ++ rest from List.drop_left' rfl]
 rfl
theorem zdd {ls:List CH} {rest:List Value} {k:Nat} (h:k < ls.length) (off:Nat) (ho:off = k * 7):Nat.ble (off + 7) (ls.flatMap ccs ++ rest).length = true:=Nat.ble_eq_true_of_le (by rw [List.length_append, zlp]; omega)
section
variable {α:Type} {A M D:List α} {x y:α}
theorem zim {i:Nat} (h:A.length = i):(A ++ x :: (M ++ y :: D))[i]? = some x:=by subst h; simp
theorem zil {j:Nat} (h:A.length + 1 + M.length = j):(A ++ x :: (M ++ y :: D))[j]? = some y:=by
 subst h
 have e:A ++ x :: (M ++ y :: D) = (A ++ x :: M) ++ y :: D:=by simp
 rw [e, List.getElem?_append_right (by simp; omega)]
 simp; rw [show A.length + 1 + M.length - (A.length + (M.length + 1)) = 0 by omega]; rfl
theorem zo4 {i j:Nat} (hi:A.length = i) (hj:A.length + 1 + M.length = j):((A ++ x :: (M ++ y :: D)).set i y).set j x = A ++ y :: (M ++ x :: D):=by
 subst hi hj
 have e:(A ++ x :: (M ++ y :: D)).set A.length y = (A ++ y :: M) ++ y :: D:=by simp
 rw [e, List.set_append_right _ _ (by simp; omega)]
 simp; rw [show A.length + 1 + M.length - (A.length + (M.length + 1)) = 0 by omega]; rfl
theorem zqi {i j:Nat} (hi:A.length = i) (hj:A.length + 1 + M.length = j):((A ++ x :: (M ++ y :: D)).set j x).set i y = A ++ y :: (M ++ x :: D):=by
 rw [List.set_comm _ _ (by omega)]; exact zo4 hi hj
end
attribute [local irreducible] V N X VO Par StepOK Has Ret RetL RetO RetT Src
theorem zo9 {P X Q Y R:List CH} {rest:List Value} {b m cap a e n:Nat} (ha:P.length = a) (he:a + X.length + Q.length = e) (hx:X.length = n) (hy:Y.length = n) (hm:(P ++ (X ++ (Q ++ (Y ++ R)))).length = m) (hm1:m ≤ 100000) (fv:Value) {w:World} {B:Heap} {C:Nat → Prop} (hB:B.Le (hp w))
  (hr:(zab b ((P ++ (X ++ (Q ++ (Y ++ R)))).flatMap ccs ++ rest) tyC).P B w C) (hC:∀ k, C k → k < w.heap.size ∧ B k = none) :
  zbd Tryz.prog 319 [.slice (some ⟨b, 0, none⟩) m cap, .int .i64 a, .int .i64 e, .int .i64 n, fv] w B C (zab b ((P ++ (Y ++ (Q ++ (X ++ R)))).flatMap ccs ++ rest) tyC):=by
 unfold zbd
 refine zah 900 (zab b ((P ++ (X ++ (Q ++ (Y ++ R)))).flatMap ccs ++ rest) tyC) Tryz.func319 rfl Tryz.ntmps319 (Nat.le_of_ble_eq_true rfl) hB hr hC ?_
 rw [zae]
 simp only [List.length_append] at hm
 refine ZO ?_;refine Zaf ?_
 refine zan (fun i:Nat => [(0, .is (.slice (some ⟨b, 0, none⟩) m cap)), (1, .is (.int .i64 a)), (2, .is (.int .i64 e)), (3, .is (.int .i64 n)), (10, .is (.int .i64 i)), (900, .own (zaj b ((P ++ (Y.take i ++ (X.drop i ++ (Q ++ (X.take i ++ (Y.drop i ++ R)))))).flatMap ccs ++ rest) tyC))]) (fun i => i ≤ n) (fun i => n - i) 0 (Nat.zero_le _) ⟨rfl, rfl, rfl, rfl, rfl, by simp only [List.take_zero, List.drop_zero, List.nil_append]; rfl, trivial⟩ ?_
 rintro i hi
 by_cases hlt:i < n
 ·obtain ⟨x, hxi⟩:=zaw (l:=X) (show i < X.length by omega)
  obtain ⟨y, hyi⟩:=zaw (l:=Y) (show i < Y.length by omega)
  have e0:P ++ (Y.take i ++ (X.drop i ++ (Q ++ (X.take i ++ (Y.drop i ++ R))))) = (P ++ Y.take i) ++ x :: ((X.drop (i + 1) ++ (Q ++ X.take i)) ++ y :: (Y.drop (i + 1) ++ R)):=by
   rw [zh9 hxi, zh9 hyi]; simp
  have e1:P ++ (Y.take (i + 1) ++ (X.drop (i + 1) ++ (Q ++ (X.take (i + 1) ++ (Y.drop (i + 1) ++ R))))) = (P ++ Y.take i) ++ y :: ((X.drop (i + 1) ++ (Q ++ X.take i)) ++ x :: (Y.drop (i + 1) ++ R)):=by
   rw [List.take_add_one, List.take_add_one, hxi, hyi]; simp
  have l1:(P ++ Y.take i).length = a + i:=by rw [List.length_append, List.length_take]; omega
  have l2:(P ++ Y.take i).length + 1 + (X.drop (i + 1) ++ (Q ++ X.take i)).length = e + i:=by rw [l1, List.length_append, List.length_append, List.length_drop, List.length_take]; omega
  have g1:=zim (x:=x) (y:=y) (M:=X.drop (i + 1) ++ (Q ++ X.take i)) (D:=Y.drop (i + 1) ++ R) l1
  have g2:=zil (x:=x) (y:=y) (D:=Y.drop (i + 1) ++ R) l2
  have g3:=zo4 (x:=x) (y:=y) (D:=Y.drop (i + 1) ++ R) l1 l2
  rw [e0]
  have hlen:((P ++ Y.take i) ++ x :: ((X.drop (i + 1) ++ (Q ++ X.take i)) ++ y :: (Y.drop (i + 1) ++ R))).length = m:=by rw [← e0]; simp only [List.length_append, List.length_take, List.length_drop]; omega
  generalize (P ++ Y.take i) ++ x :: ((X.drop (i + 1) ++ (Q ++ X.take i)) ++ y :: (Y.drop (i + 1) ++ R)) = K at *
  have h1:=get_lt g1
  have h2:=get_lt g2
  have q1:=zbu (rest:=rest) g1 (0 + (a + i) * 7) (by omega)
  have q2:=zbu (rest:=rest) g2 (0 + (e + i) * 7) (by omega)
  have s1:=zdc (rest:=rest) (z:=y) h1 (0 + (a + i) * 7) (by omega)
  have b1:=zdd (rest:=rest) h1 (0 + (a + i) * 7) (by omega)
  have h3:e + i < (K.set (a + i) y).length:=by rw [List.length_set]; exact h2
  have s2:=zdc (rest:=rest) (z:=x) h3 (0 + (e + i) * 7) (by omega)
  have b2:=zdd (rest:=rest) h3 (0 + (e + i) * 7) (by omega)
  rw [g3, ← e1] at s2
  have a1:IntKind.i64.wrap ((a:Int) + (i:Int)) = ((a + i:Nat):Int):=zaa (by omega) (by omega)
  have a2:IntKind.i64.wrap ((e:Int) + (i:Int)) = ((e + i:Nat):Int):=zaa (by omega) (by omega)
  refine Ze ?_;refine Zn ?_;refine Zcw ?_;refine ZaM ?_;refine q4 (id:=3) [(200029, [900]), (200035, [900]), (100036, [900]), (100037, [900])] mixed (by kernel_rfl) ?_;refine Zb2 ?_;refine Zb2 ?_;refine Za9 ?_;refine q7 (zaz L (q:=900) (vs:=[_, _, _, _, _, _, _]) rfl rfl rfl rfl rfl rfl q2) rfl rfl ?_;refine Za9 ?_;refine q7 (zaz L (q:=900) (vs:=[_, _, _, _, _, _, _]) rfl rfl rfl rfl rfl rfl q1) rfl rfl ?_;refine Zm ?_;refine zaf (qs L (q:=900) rfl rfl rfl rfl rfl rfl b1 rfl s1) rfl ?_;refine Zm ?_;refine zaf (qs L (q:=900) rfl rfl rfl rfl rfl rfl b2 rfl s2) rfl ?_;refine Zco ?_;refine Z2 ?_;refine Za6 ?_
  exact qy (x:=i) (i + 1) (by omega) (by omega) ⟨rfl, rfl, rfl, rfl, rfl, rfl, trivial⟩
 ·obtain rfl:i = n:=by omega
  have t1:X.take i = X:=List.take_of_length_le (by omega)
  have t2:Y.take i = Y:=List.take_of_length_le (by omega)
  have t3:X.drop i = []:=List.drop_eq_nil_of_le (by omega)
  have t4:Y.drop i = []:=List.drop_eq_nil_of_le (by omega)
  rw [t1, t2, t3, t4]
  simp only [List.nil_append]
  refine Ze ?_;refine Zn ?_;refine Za8 ?_;refine Zbx ?_
  exact zav L 900 (r:=zab b _ tyC) rfl (fun _ _ h => h) Since.refl rfl rfl
end Go.V.L8
set_option maxRecDepth 20000
namespace Go.V.L8
open Go.Proofs Go.RowKit Go.V Go.V.L2 Go.V.L3 Go.V.L6
theorem _root_.Go.V.ZfV {A B:Prop} (h:B) (t:Wr B → A:=by intro h; refine Ze ?_;refine q4 (id:=4) [(200026, [900]), (200031, [900])] mixed (by kernel_rfl) ?_;exact h.h):A:=t ⟨h⟩
def stC (l:List CH):List CH:=zkt (fun c => c.1) zbt l
theorem zew (l:List CH):(stC l).length = l.length:=zqj cmpT_ord l
attribute [local irreducible] V N X VO Par StepOK Has Ret RetL RetO RetT zbd Src
set_option maxHeartbeats 1000000 in
set_option maxRecDepth 20000 in
theorem zzj {P X Y R:List CH} {rest:List Value} {b m cap a mm e:Nat} (ha:P.length = a) (hmm:a + X.length = mm) (he:mm + Y.length = e) (hx:0 < X.length) (hy:0 < Y.length) (hm:(P ++ (X ++ (Y ++ R))).length = m) (hm1:m ≤ 100000) (fv:Value) {w:World} {B:Heap} {C:Nat → Prop} (hB:B.Le (hp w))
  (hr:(zab b ((P ++ (X ++ (Y ++ R))).flatMap ccs ++ rest) tyC).P B w C) (hC:∀ k, C k → k < w.heap.size ∧ B k = none) :
  zbd Tryz.prog 318 [.slice (some ⟨b, 0, none⟩) m cap, .int .i64 a, .int .i64 mm, .int .i64 e, fv] w B C (zab b ((P ++ (Y ++ (X ++ R))).flatMap ccs ++ rest) tyC):=by
 unfold zbd
 refine zah 900 (zab b ((P ++ (X ++ (Y ++ R))).flatMap ccs ++ rest) tyC) Tryz.func318 rfl Tryz.ntmps318 (Nat.le_of_ble_eq_true rfl) hB hr hC ?_
 rw [zae]
 simp only [List.length_append] at hm
 have s1:IntKind.i64.wrap ((mm:Int) - (a:Int)) = (X.length:Int):=zaa (by omega) (by omega) |>.trans (by omega)
 have s2:IntKind.i64.wrap ((e:Int) - (mm:Int)) = (Y.length:Int):=zaa (by omega) (by omega) |>.trans (by omega)
 refine ZO ?_;refine Z8 ?_;refine Zd ?_;refine Zn ?_;refine Z8 ?_;refine Zd ?_;refine q6 ?_
 refine zan (fun s:(List CH × List CH) × (List CH × List CH) => [(0, .is (.slice (some ⟨b, 0, none⟩) m cap)), (2, .is (.int .i64 mm)), (4, .is fv), (10, .is (.int .i64 s.1.2.length)), (11, .is (.int .i64 s.2.1.length)), (900, .own (zaj b ((P ++ (s.1.1 ++ (s.1.2 ++ (s.2.1 ++ (s.2.2 ++ R))))).flatMap ccs ++ rest) tyC))])
  (fun s => a + s.1.1.length + s.1.2.length = mm ∧ mm + s.2.1.length + s.2.2.length = e ∧ 0 < s.1.2.length ∧ 0 < s.2.1.length ∧ s.1.1 ++ (s.2.1 ++ (s.1.2 ++ s.2.2)) = Y ++ X) (fun s => s.1.2.length + s.2.1.length) (([], X), (Y, [])) ⟨hmm, he, hx, hy, by simp⟩ ⟨rfl, rfl, rfl, rfl, rfl, rfl, trivial⟩ ?_
 rintro ⟨⟨D1, X1⟩, ⟨Y1, D2⟩⟩ ⟨h1, h2, h3, h4, h5⟩
 dsimp only at h1 h2 h3 h4 h5 ⊢
 have hs1:IntKind.i64.wrap ((mm:Int) - (X1.length:Int)) = ((mm - X1.length:Nat):Int):=zaa (by omega) (by omega) |>.trans (by omega)
 by_cases heq:X1.length = Y1.length
 ·have e0:P ++ (D1 ++ (X1 ++ (Y1 ++ (D2 ++ R)))) = (P ++ D1) ++ (X1 ++ ([] ++ (Y1 ++ (D2 ++ R)))):=by simp
  have e1:(P ++ D1) ++ (Y1 ++ ([] ++ (X1 ++ (D2 ++ R)))) = P ++ (Y ++ (X ++ R)):=by
   have:Y ++ (X ++ R) = D1 ++ (Y1 ++ (X1 ++ D2)) ++ R:=by rw [h5]; simp
   rw [this]; simp
  have hlen:((P ++ D1) ++ (X1 ++ ([] ++ (Y1 ++ (D2 ++ R))))).length = m:=by simp only [List.length_append, List.length_nil]; omega
  rw [e0]
  refine Ze ?_;refine Zav ?_;refine Zal ?_;refine Zbx ?_;refine zj ?_;refine ZA ?_;refine Zr ?_;refine ZQ ?_;refine Zr ?_;refine q8 (zao L 900 (zab b (((P ++ D1) ++ (Y1 ++ ([] ++ (X1 ++ (D2 ++ R))))).flatMap ccs ++ rest) tyC) (r:=zab b (((P ++ D1) ++ (X1 ++ ([] ++ (Y1 ++ (D2 ++ R))))).flatMap ccs ++ rest) tyC) rfl rfl rfl rfl rfl (fun u H C hH _ hr hC => (by have h:=zo9 (cap:=cap) (a:=mm - X1.length) (e:=mm) (n:=X1.length) (by rw [List.length_append]; omega) (by simp only [List.length_nil]; omega) rfl heq.symm hlen hm1 fv hH hr hC; exact h))) ?_;refine zi ?_
  rw [e1]
  exact zav L 900 (r:=zab b _ tyC) rfl (fun _ _ h => h) Since.refl rfl rfl
 ·by_cases hgt:Y1.length < X1.length
  ·have hs2:IntKind.i64.wrap ((X1.length:Int) - (Y1.length:Int)) = ((X1.drop Y1.length).length:Int):=zaa (by omega) (by omega) |>.trans (by rw [List.length_drop]; omega)
   have lt:(X1.take Y1.length).length = Y1.length:=by rw [List.length_take]; omega
   have e0:P ++ (D1 ++ (X1 ++ (Y1 ++ (D2 ++ R)))) = (P ++ D1) ++ (X1.take Y1.length ++ (X1.drop Y1.length ++ (Y1 ++ (D2 ++ R)))):=by
    conv => lhs; rw [← List.take_append_drop Y1.length X1]
    simp only [List.append_assoc]
   have e1:(P ++ D1) ++ (Y1 ++ (X1.drop Y1.length ++ (X1.take Y1.length ++ (D2 ++ R)))) = P ++ ((D1 ++ Y1) ++ (X1.drop Y1.length ++ (X1.take Y1.length ++ (D2 ++ R)))):=by simp
   have hlen:((P ++ D1) ++ (X1.take Y1.length ++ (X1.drop Y1.length ++ (Y1 ++ (D2 ++ R))))).length = m:=by rw [← e0]; simp only [List.length_append]; omega
   have hld:(X1.drop Y1.length).length = X1.length - Y1.length:=List.length_drop
   rw [e0]
   refine Ze ?_;refine Zav ?_;refine Zam ?_;refine ZcA ?_;refine Zo ?_;refine Zbe ?_;refine Zv ?_;refine Zp ?_;refine Zr ?_;refine ZQ ?_;refine Zr ?_;refine q8 (zao L 900 (zab b (((P ++ D1) ++ (Y1 ++ (X1.drop Y1.length ++ (X1.take Y1.length ++ (D2 ++ R))))).flatMap ccs ++ rest) tyC) (r:=zab b (((P ++ D1) ++ (X1.take Y1.length ++ (X1.drop Y1.length ++ (Y1 ++ (D2 ++ R))))).flatMap ccs ++ rest) tyC) rfl rfl rfl rfl rfl (fun u H C hH _ hr hC => (by have h:=zo9 (cap:=cap) (a:=mm - X1.length) (e:=mm) (n:=Y1.length) (by rw [List.length_append]; omega) (by omega) lt rfl hlen hm1 fv hH hr hC; exact h))) ?_;refine Z1 ?_;refine Zw ?_;refine Z8 ?_;refine ZG ?_
   rw [e1]
   exact qy (x:=((D1, X1), (Y1, D2))) ((D1 ++ Y1, X1.drop Y1.length), (X1.take Y1.length, D2)) ⟨by dsimp only; rw [List.length_append]; omega, by dsimp only; omega, by dsimp only; omega, by dsimp only; omega, by
    dsimp only
    rw [← h5]
    conv => rhs; rw [← List.take_append_drop Y1.length X1]
    simp only [List.append_assoc]⟩ (by dsimp only; omega) ⟨rfl, rfl, rfl, rfl, by dsimp only; rw [lt]; rfl, rfl, trivial⟩
  ·have hs2:IntKind.i64.wrap ((Y1.length:Int) - (X1.length:Int)) = ((Y1.take (Y1.length - X1.length)).length:Int):=zaa (by omega) (by omega) |>.trans (by rw [List.length_take]; omega)
   have hs3:IntKind.i64.wrap ((mm:Int) + (Y1.length:Int)) = ((mm + Y1.length:Nat):Int):=zaa (by omega) (by omega)
   have hs4:IntKind.i64.wrap (((mm + Y1.length:Nat):Int) - (X1.length:Int)) = ((mm + Y1.length - X1.length:Nat):Int):=zaa (by omega) (by omega) |>.trans (by omega)
   have lt:(Y1.take (Y1.length - X1.length)).length = Y1.length - X1.length:=by rw [List.length_take]; omega
   have ld:(Y1.drop (Y1.length - X1.length)).length = X1.length:=by rw [List.length_drop]; omega
   have e0:P ++ (D1 ++ (X1 ++ (Y1 ++ (D2 ++ R)))) = (P ++ D1) ++ (X1 ++ (Y1.take (Y1.length - X1.length) ++ (Y1.drop (Y1.length - X1.length) ++ (D2 ++ R)))):=by
    conv => lhs; rw [← List.take_append_drop (Y1.length - X1.length) Y1]
    simp only [List.append_assoc]
   have e1:(P ++ D1) ++ (Y1.drop (Y1.length - X1.length) ++ (Y1.take (Y1.length - X1.length) ++ (X1 ++ (D2 ++ R)))) = P ++ (D1 ++ (Y1.drop (Y1.length - X1.length) ++ (Y1.take (Y1.length - X1.length) ++ ((X1 ++ D2) ++ R)))):=by simp
   have hlen:((P ++ D1) ++ (X1 ++ (Y1.take (Y1.length - X1.length) ++ (Y1.drop (Y1.length - X1.length) ++ (D2 ++ R))))).length = m:=by rw [← e0]; simp only [List.length_append]; omega
   rw [e0]
   refine Ze ?_;refine Zav ?_;refine Zam ?_;refine ZcA ?_;refine Zo ?_;refine Zb ?_;refine Z3 ?_;refine Zdk ?_;refine ZbR ?_;refine Zr ?_;refine ZQ ?_;refine ZbS ?_;refine Za ?_;refine ZQ ?_;refine Zb ?_;refine q8 (zao L 900 (zab b (((P ++ D1) ++ (Y1.drop (Y1.length - X1.length) ++ (Y1.take (Y1.length - X1.length) ++ (X1 ++ (D2 ++ R))))).flatMap ccs ++ rest) tyC) (r:=zab b (((P ++ D1) ++ (X1 ++ (Y1.take (Y1.length - X1.length) ++ (Y1.drop (Y1.length - X1.length) ++ (D2 ++ R))))).flatMap ccs ++ rest) tyC) rfl rfl rfl rfl rfl (fun u H C hH _ hr hC => (by have h:=zo9 (cap:=cap) (a:=mm - X1.length) (e:=mm + Y1.length - X1.length) (n:=X1.length) (by rw [List.length_append]; omega) (by omega) rfl ld hlen hm1 fv hH hr hC; exact h))) ?_;refine Z1 ?_;refine ZH ?_;refine Z8 ?_;refine ZG ?_
   rw [e1]
   exact qy (x:=((D1, X1), (Y1, D2))) ((D1, Y1.drop (Y1.length - X1.length)), (Y1.take (Y1.length - X1.length), X1 ++ D2)) ⟨by dsimp only; omega, by dsimp only; rw [List.length_append]; omega, by dsimp only; omega, by dsimp only; omega, by
    dsimp only
    rw [← h5]
    conv => rhs; rw [← List.take_append_drop (Y1.length - X1.length) Y1]
    simp only [List.append_assoc]⟩ (by dsimp only; omega) ⟨rfl, rfl, rfl, by dsimp only; rw [ld]; rfl, rfl, rfl, trivial⟩
abbrev ORD:Nat:=228
abbrev zjw:Value:=.func (.func ORD) #[] #[]
theorem zc4 {x y:CH} {w:World} {B:Heap} (hB:B.Le (hp w)):Ret Tryz.prog ORD ([chv x.1 x.2, chv y.1 y.2] ++ []) w B (fun r _ => r = .int .i64 (zbt x.1 y.1)):=by
 refine qt Tryz.func228 rfl Tryz.ntmps228 (Nat.le_of_ble_eq_true rfl) hB ?_
 refine Zae ?_;refine Zd ?_;refine Zb4 ?_;refine ZaO ?_;refine ZaV ?_;refine ZaO ?_;refine z7 (zp L rfl rfl (zk rfl) rfl rfl rfl (fun u H hH _ _ => zc1 (a:=x.1) (b:=y.1) hH)) rfl ?_;refine Zc ?_
 refine qq L (rs:=[.tmp 4]) rfl (fun _ _ h => h) Since.refl fun u H hH hle => ?_
 rfl
set_option maxHeartbeats 1000000 in
set_option maxRecDepth 20000 in
theorem ins_ret {P X R:List CH} {rest:List Value} {b m cap a e:Nat} (ha:P.length = a) (he:a + X.length = e) (hm:(P ++ (X ++ R)).length = m) (hm1:m ≤ 100000) {w:World} {B:Heap} {C:Nat → Prop} (hB:B.Le (hp w))
  (hr:(zab b ((P ++ (X ++ R)).flatMap ccs ++ rest) tyC).P B w C) (hC:∀ k, C k → k < w.heap.size ∧ B k = none) :
  zbd Tryz.prog 310 [.slice (some ⟨b, 0, none⟩) m cap, .int .i64 a, .int .i64 e, zjw] w B C (zab b ((P ++ (stC X ++ R)).flatMap ccs ++ rest) tyC):=by
 unfold zbd
 refine zah 900 (zab b ((P ++ (X ++ R)).flatMap ccs ++ rest) tyC) Tryz.func310 rfl Tryz.ntmps310 (Nat.le_of_ble_eq_true rfl) hB hr hC ?_
 rw [zae]
 simp only [List.length_append] at hm
 have hst1:stC (X.take 1) = X.take 1:=by rcases X with _ | ⟨x, X⟩ <;> rfl
 refine ZbA ?_;refine Zdj ?_;refine Zaf ?_
 refine zan (fun s:Nat => [(0, .is (.slice (some ⟨b, 0, none⟩) m cap)), (1, .is (.int .i64 a)), (2, .is (.int .i64 e)), (3, .is zjw), (8, .is (.int .i64 (a + s:Nat))), (900, .own (zaj b ((P ++ (stC (X.take s) ++ (X.drop s ++ R))).flatMap ccs ++ rest) tyC))]) (fun s => 1 ≤ s ∧ s ≤ max X.length 1) (fun s => X.length - s) 1 ⟨Nat.le_refl _, by omega⟩ ⟨rfl, rfl, rfl, rfl, rfl, by rw [hst1, ← List.append_assoc (X.take 1), List.take_append_drop]; rfl, trivial⟩ ?_
 rintro s ⟨hs1, hs2⟩
 by_cases hlt:s < X.length
 ·obtain ⟨x, hx⟩:=zaw hlt
  have hsl:(stC (X.take s)).length = s:=by rw [zew, List.length_take]; omega
  refine Ze ?_;refine Zn ?_;refine Zb ?_;refine ZbB ?_;refine Zk ?_;refine Zaf ?_
  refine zan (fun t:List CH × List CH => [(0, .is (.slice (some ⟨b, 0, none⟩) m cap)), (1, .is (.int .i64 a)), (2, .is (.int .i64 e)), (3, .is zjw), (8, .is (.int .i64 (a + s:Nat))), (9, .is (.int .i64 (a + t.1.length:Nat))), (900, .own (zaj b ((P ++ (t.1 ++ (x :: (t.2 ++ (X.drop (s + 1) ++ R))))).flatMap ccs ++ rest) tyC))])
   (fun t => t.1 ++ t.2 = stC (X.take s) ∧ ∀ z ∈ t.2, zbt x.1 z.1 < 0) (fun t => t.1.length) (stC (X.take s), []) ⟨List.append_nil _, fun z hz => (by cases hz)⟩ ⟨rfl, rfl, rfl, rfl, rfl, by dsimp only; rw [hsl]; rfl, by dsimp only; rw [zh9 hx]; rfl, trivial⟩ ?_
  rintro ⟨A, D⟩ ⟨hAD, hD⟩
  dsimp only at hAD hD ⊢
  have hAl:A.length + D.length = s:=by rw [← List.length_append, hAD, hsl]
  have hfin:(∀ y, A.getLast? = some y → ¬ zbt x.1 y.1 < 0) → P ++ (A ++ (x :: (D ++ (X.drop (s + 1) ++ R)))) = P ++ (stC (X.take (s + 1)) ++ (X.drop (s + 1) ++ R)):=fun h => by
   have:=z0a (k:=fun c:CH => c.1) cmpT_ord (x:=x) hAD hD h
   rw [List.take_add_one, hx]
   unfold stC
   show _ = P ++ (zkt (fun c:CH => c.1) zbt (X.take s ++ [x]) ++ _)
   rw [← this]; simp
  rcases List.eq_nil_or_concat A with hA | ⟨A', y, hA⟩
  ·subst hA
   rw [hfin (fun y hy => by simp at hy), List.length_nil, Nat.add_zero]
   refine ZfV ?_;refine Zs ?_;refine Zd6 ?_;refine Zeh ?_;refine Zfr ?_;refine Zba ?_;refine Zat ?_;refine Z2 ?_;refine Za6 ?_
   exact qy (x:=s) (s + 1) ⟨by omega, by omega⟩ (by omega) ⟨rfl, rfl, rfl, rfl, rfl, rfl, trivial⟩
  ·rw [List.concat_eq_append] at hA
   subst hA
   have hl9:(A' ++ [y]).length = A'.length + 1:=by rw [List.length_append, List.length_singleton]
   rw [hl9] at hAl
   have e0:P ++ ((A' ++ [y]) ++ (x :: (D ++ (X.drop (s + 1) ++ R)))) = (P ++ A') ++ y :: ([] ++ x :: (D ++ (X.drop (s + 1) ++ R))):=by simp
   have l1:(P ++ A').length = a + A'.length:=by rw [List.length_append, ha]
   have l2:(P ++ A').length + 1 + ([]:List CH).length = a + (A' ++ [y]).length:=by rw [l1, hl9]; rfl
   have g1:=zim (x:=y) (y:=x) (M:=[]) (D:=D ++ (X.drop (s + 1) ++ R)) l1
   have g2:=zil (x:=y) (y:=x) (D:=D ++ (X.drop (s + 1) ++ R)) l2
   have g3:=zqi (x:=y) (y:=x) (D:=D ++ (X.drop (s + 1) ++ R)) l1 l2
   have e1:(P ++ A') ++ x :: ([] ++ y :: (D ++ (X.drop (s + 1) ++ R))) = P ++ (A' ++ (x :: ((y :: D) ++ (X.drop (s + 1) ++ R)))):=by simp
   have hlen:((P ++ A') ++ y :: ([] ++ x :: (D ++ (X.drop (s + 1) ++ R)))).length = m:=by rw [← e0]; simp only [List.length_append, List.length_cons, List.length_nil, List.length_drop]; omega
   have hw1:IntKind.i64.wrap (((a + (A' ++ [y]).length:Nat):Int) - 1) = ((a + A'.length:Nat):Int):=zaa (by omega) (by omega) |>.trans (by omega)
   by_cases hc:zbt x.1 y.1 < 0
   ·rw [e0]
    rw [e1] at g3
    generalize (P ++ A') ++ y :: ([] ++ x :: (D ++ (X.drop (s + 1) ++ R))) = K at *
    have h1:=get_lt g1
    have h2:=get_lt g2
    have q1:=zbu (rest:=rest) g1 (0 + (a + A'.length) * 7) (by omega)
    have q2:=zbu (rest:=rest) g2 (0 + (a + (A' ++ [y]).length) * 7) (by omega)
    have s1:=zdc (rest:=rest) (z:=y) h2 (0 + (a + (A' ++ [y]).length) * 7) (by omega)
    have b1:=zdd (rest:=rest) h2 (0 + (a + (A' ++ [y]).length) * 7) (by omega)
    have h3:a + A'.length < (K.set (a + (A' ++ [y]).length) y).length:=by rw [List.length_set]; exact h1
    have s2:=zdc (rest:=rest) (z:=x) h3 (0 + (a + A'.length) * 7) (by omega)
    have b2:=zdd (rest:=rest) h3 (0 + (a + A'.length) * 7) (by omega)
    rw [g3] at s2
    refine ZfV ?_;refine Zs ?_;refine Zdb ?_;refine Zs ?_;refine Zq ?_;refine q7 (zaz L (q:=900) (vs:=[_, _, _, _, _, _, _]) rfl rfl rfl rfl rfl rfl q2) rfl rfl ?_;refine Zbi ?_;refine q7 (zaz L (q:=900) (vs:=[_, _, _, _, _, _, _]) rfl rfl rfl rfl rfl rfl q1) rfl rfl ?_;refine zd (zp L rfl rfl (zk rfl) rfl rfl rfl (fun u H hH _ _ => zc4 hH)) rfl ?_;refine ZbT ?_;refine Zbh ?_;refine ZaM ?_;refine q4 (id:=6) [(200046, [900]), (200050, [900]), (100051, [900]), (100052, [900])] mixed (by kernel_rfl) ?_;refine Zs ?_;refine ZeE ?_;refine Zbi ?_;refine q7 (zaz L (q:=900) (vs:=[_, _, _, _, _, _, _]) rfl rfl rfl rfl rfl rfl q1) rfl rfl ?_;refine Zq ?_;refine q7 (zaz L (q:=900) (vs:=[_, _, _, _, _, _, _]) rfl rfl rfl rfl rfl rfl q2) rfl rfl ?_;refine Zm ?_;refine zaf (qs L (q:=900) rfl rfl rfl rfl rfl rfl b1 rfl s1) rfl ?_;refine Zm ?_;refine zaf (qs L (q:=900) rfl rfl rfl rfl rfl rfl b2 rfl s2) rfl ?_;refine Zco ?_;refine ZY ?_;refine ZQ ?_;refine Zax ?_
    exact qy (x:=(A' ++ [y], D)) (A', y :: D) ⟨by rw [← hAD]; simp, fun z hz => by
     rcases List.mem_cons.1 hz with rfl | hz
     ·exact hc
     ·exact hD z hz⟩ (by dsimp only; omega) ⟨rfl, rfl, rfl, rfl, rfl, rfl, rfl, trivial⟩
   ·have hf:=hfin (fun z hz => by rw [List.getLast?_append] at hz; simp at hz; subst hz; exact hc)
    rw [e0]
    rw [e0] at hf
    have q1:=zbu (rest:=rest) g1 (0 + (a + A'.length) * 7) (by omega)
    have q2:=zbu (rest:=rest) g2 (0 + (a + (A' ++ [y]).length) * 7) (by omega)
    rw [hf] at q1 q2 ⊢
    refine ZfV ?_;refine Zs ?_;refine Zdb ?_;refine Zs ?_;refine Zq ?_;refine q7 (zaz L (q:=900) (vs:=[_, _, _, _, _, _, _]) rfl rfl rfl rfl rfl rfl q2) rfl rfl ?_;refine Zbi ?_;refine q7 (zaz L (q:=900) (vs:=[_, _, _, _, _, _, _]) rfl rfl rfl rfl rfl rfl q1) rfl rfl ?_;refine zd (zp L rfl rfl (zk rfl) rfl rfl rfl (fun u H hH _ _ => zc4 hH)) rfl ?_;refine Zeg ?_;refine Zba ?_;refine Zat ?_;refine Z2 ?_;refine Za6 ?_
    exact qy (x:=s) (s + 1) ⟨by omega, by omega⟩ (by omega) ⟨rfl, rfl, rfl, rfl, rfl, rfl, trivial⟩
 ·have hX:P ++ (stC (X.take s) ++ (X.drop s ++ R)) = P ++ (stC X ++ R):=by
   rw [List.take_of_length_le (by omega), List.drop_eq_nil_of_le (by omega), List.nil_append]
  rw [hX]
  refine Ze ?_;refine Zn ?_;refine Za8 ?_;refine Zbx ?_
  exact zav L 900 (r:=zab b _ tyC) rfl (fun _ _ h => h) Since.refl rfl rfl
end Go.V.L8
set_option maxRecDepth 20000
namespace Go.V
open Go.Proofs Go.RowKit
section
variable {α β:Type} [DecidableEq α] [DecidableEq β] {k:α → β} {c:β → β → Int}
omit [DecidableEq β] in
theorem zsk (ho:Ord3 c) {z y x:β} (h1:¬ c y z < 0) (h2:c y x < 0):c z x < 0:=by
 by_cases h3:c z y < 0
 ·exact ho.tr h3 h2
 ·have:=ho.anti y z
  rw [ho.eq z y (by omega)]; exact h2
omit [DecidableEq β] in
theorem zsh (ho:Ord3 c) {x y z:β} (h1:c y x < 0) (h2:¬ c z x < 0):c y z < 0:=by
 by_cases h3:c x z < 0
 ·exact ho.tr h1 h3
 ·have:=ho.anti x z
  rw [ho.eq z x (by omega)]; exact h1
structure SymI (k:α → β) (c:β → β → Int) (X Y:List α) (a mid lo hi s r:Nat):Prop where
 ls:lo ≤ s
 sr:s ≤ r
 rh:r ≤ hi
 bef:∀ i x y, lo ≤ i → i < s → X[i - a]? = some x → Y[mid - 1 - i]? = some y → ¬ c (k y) (k x) < 0
 aft:∀ i x y, r ≤ i → i < hi → X[i - a]? = some x → Y[mid - 1 - i]? = some y → c (k y) (k x) < 0
structure z3a (X Y:List α) (a mm e mid lo hi:Nat):Prop where
 lx:a + X.length = mm
 ly:mm + Y.length = e
 al:a ≤ lo
 nl:mid + mm ≤ lo + e
 hm:hi ≤ mid
 hx:hi ≤ mm
 lo_:lo = a ∨ mid + mm = lo + e
 hi_:hi = mm ∨ hi = mid
omit [DecidableEq α] [DecidableEq β] in
theorem SymI.start {X Y:List α} {a mid lo hi:Nat} (h:lo ≤ hi):SymI k c X Y a mid lo hi lo hi:=⟨Nat.le_refl _, h, Nat.le_refl _, fun i x y h1 h2 => by omega, fun i x y h1 h2 => by omega⟩
omit [DecidableEq α] [DecidableEq β] in
theorem SymI.up (ho:Ord3 c) {X Y:List α} (hX:Srt k c X) (hY:Srt k c Y) {a mm e mid lo hi s r i:Nat} {x y:α} (hb:z3a X Y a mm e mid lo hi) (h:SymI k c X Y a mid lo hi s r) (h1:s ≤ i) (h2:i < r) (hx:X[i - a]? = some x) (hy:Y[mid - 1 - i]? = some y) (hc:¬ c (k y) (k x) < 0):SymI k c X Y a mid lo hi (i + 1) r:=by
 obtain ⟨b1, b2, b3, b4, b5, b6, _, _⟩:=hb
 obtain ⟨i1, i2, i3, i4, i5⟩:=h
 refine ⟨by omega, by omega, i3, fun j x' y' hj hji hx' hy' hlt => hc ?_, i5⟩
 have e1:=ze8 ho hX hx' hx (by omega)
 have e2:=ze8 ho hY hy hy' (by omega)
 exact zsk ho e2 (zsh ho hlt e1)
omit [DecidableEq α] [DecidableEq β] in
theorem SymI.down (ho:Ord3 c) {X Y:List α} (hX:Srt k c X) (hY:Srt k c Y) {a mm e mid lo hi s r i:Nat} {x y:α} (hb:z3a X Y a mm e mid lo hi) (h:SymI k c X Y a mid lo hi s r) (h1:s ≤ i) (h2:i < r) (hx:X[i - a]? = some x) (hy:Y[mid - 1 - i]? = some y) (hc:c (k y) (k x) < 0):SymI k c X Y a mid lo hi s i:=by
 obtain ⟨b1, b2, b3, b4, b5, b6, _, _⟩:=hb
 obtain ⟨i1, i2, i3, i4, i5⟩:=h
 refine ⟨by omega, by omega, by omega, i4, fun j x' y' hj hji hx' hy' => ?_⟩
 have e1:=ze8 ho hX hx hx' (by omega)
 have e2:=ze8 ho hY hy' hy (by omega)
 exact zsk ho e2 (zsh ho hc e1)
theorem zwo (ho:Ord3 c) {X Y:List α} (hX:Srt k c X) (hY:Srt k c Y) {a mm e mid lo hi s:Nat} (hb:z3a X Y a mm e mid lo hi) (h:SymI k c X Y a mid lo hi s s) :
  zkt k c (X.take (s - a) ++ Y.take (mid - s)) ++ zkt k c (X.drop (s - a) ++ Y.drop (mid - s)) = zkt k c (X ++ Y):=by
 obtain ⟨b1, b2, b3, b4, b5, b6, b7, b8⟩:=hb
 obtain ⟨i1, i2, i3, i4, i5⟩:=h
 have hXt:X.take (s - a) ++ X.drop (s - a) = X:=List.take_append_drop _ _
 have hYt:Y.take (mid - s) ++ Y.drop (mid - s) = Y:=List.take_append_drop _ _
 have h12:∀ x ∈ X.drop (s - a), ∀ y ∈ Y.take (mid - s), c (k y) (k x) < 0:=fun x hx y hy => by
  obtain ⟨i, hi⟩:=List.getElem?_of_mem hx
  obtain ⟨j, hj⟩:=List.getElem?_of_mem hy
  have hjl:=get_lt hj
  rw [List.length_take] at hjl
  rw [List.getElem?_drop] at hi
  rw [List.getElem?_take_of_lt (by omega)] at hj
  have hil:=get_lt hi
  obtain ⟨x0, hx0⟩:=zaw (l:=X) (i:=s - a) (by omega)
  obtain ⟨y0, hy0⟩:=zaw (l:=Y) (i:=mid - 1 - s) (by omega)
  have h0:=i5 s x0 y0 (Nat.le_refl _) (by omega) hx0 hy0
  exact zsk ho (ze8 ho hY hj hy0 (by omega)) (zsh ho h0 (ze8 ho hX hx0 hi (by omega)))
 have h21:∀ x ∈ X.take (s - a), ∀ y ∈ Y.drop (mid - s), ¬ c (k y) (k x) < 0:=fun x hx y hy hlt => by
  obtain ⟨i, hi⟩:=List.getElem?_of_mem hx
  obtain ⟨j, hj⟩:=List.getElem?_of_mem hy
  have hil:=get_lt hi
  rw [List.length_take] at hil
  rw [List.getElem?_drop] at hj
  rw [List.getElem?_take_of_lt (by omega)] at hi
  have hjl:=get_lt hj
  obtain ⟨x1, hx1⟩:=zaw (l:=X) (i:=s - 1 - a) (by omega)
  obtain ⟨y1, hy1⟩:=zaw (l:=Y) (i:=mid - s) (by omega)
  have h0:=i4 (s - 1) x1 y1 (by omega) (by omega) hx1 (by rw [show mid - 1 - (s - 1) = mid - s by omega]; exact hy1)
  exact h0 (zsk ho (ze8 ho hY hy1 hj (by omega)) (zsh ho hlt (ze8 ho hX hi hx1 (by omega))))
 have:=zwt ho (by rw [hXt]; exact hX) (by rw [hYt]; exact hY) h12 h21 (zcg ho _) (zcg ho _)
 rw [hXt, hYt] at this
 exact zk6 ho this
theorem zzw (ho:Ord3 c) {x:α} {Y:List α} (hY:Srt k c Y) {i:Nat} (h1:∀ j z, j < i → Y[j]? = some z → c (k z) (k x) < 0) (h2:∀ j z, i ≤ j → Y[j]? = some z → ¬ c (k z) (k x) < 0) :
  Y.take i ++ x :: Y.drop i = zkt k c ([x] ++ Y):=by
 have hY':Srt k c (Y.take i ++ Y.drop i):=by rw [List.take_append_drop]; exact hY
 have:=zzc ho (x:=x) hY' (fun z hz => by
  obtain ⟨j, hj⟩:=List.getElem?_of_mem hz
  have hjl:=get_lt hj
  rw [List.length_take] at hjl
  rw [List.getElem?_take_of_lt (by omega)] at hj
  exact h1 j z (by omega) hj) (fun z hz => by
  obtain ⟨j, hj⟩:=List.getElem?_of_mem hz
  rw [List.getElem?_drop] at hj
  exact h2 _ z (by omega) hj)
 rw [List.take_append_drop] at this
 exact zk6 ho this
theorem zzv (ho:Ord3 c) {x:α} {X:List α} (hX:Srt k c X) {i:Nat} (h1:∀ j z, j < i → X[j]? = some z → ¬ c (k x) (k z) < 0) (h2:∀ j z, i ≤ j → X[j]? = some z → c (k x) (k z) < 0) :
  X.take i ++ x :: X.drop i = zkt k c (X ++ [x]):=by
 have hX':Srt k c (X.take i ++ X.drop i):=by rw [List.take_append_drop]; exact hX
 have:=zpc ho (x:=x) hX' (fun z hz => by
  obtain ⟨j, hj⟩:=List.getElem?_of_mem hz
  have hjl:=get_lt hj
  rw [List.length_take] at hjl
  rw [List.getElem?_take_of_lt (by omega)] at hj
  exact h1 j z (by omega) hj) (fun z hz => by
  obtain ⟨j, hj⟩:=List.getElem?_of_mem hz
  rw [List.getElem?_drop] at hj
  exact h2 _ z (by omega) hj)
 rw [List.take_append_drop] at this
 exact zk6 ho this
end
end Go.V
set_option maxRecDepth 20000
namespace Go.V.L8
open Go.Proofs Go.RowKit Go.V Go.V.L2 Go.V.L3 Go.V.L6
theorem zxq {P X D:List CH} {a:Nat} (ha:P.length = a) {j:Nat} {x:CH} (h:X[j]? = some x) (i:Nat) (hi:i = a + j):(P ++ (X ++ D))[i]? = some x:=by
 subst hi ha
 have:=get_lt h
 rw [List.getElem?_append_right (by omega), show P.length + j - P.length = j by omega, List.getElem?_append_left this]; exact h
theorem z0d {P X Y D:List CH} {a mm:Nat} (ha:P.length = a) (hx:a + X.length = mm) {j:Nat} {y:CH} (h:Y[j]? = some y) (i:Nat) (hi:i = mm + j):(P ++ (X ++ (Y ++ D)))[i]? = some y:=by
 have e:P ++ (X ++ (Y ++ D)) = (P ++ X) ++ (Y ++ D):=by simp
 rw [e]
 exact zxq (by rw [List.length_append]; omega) h i hi
abbrev z08 (l:List CH):Prop:=Srt (fun c:CH => c.1) zbt l
theorem ziy (i j:Nat):((i:Int) + (j:Int)).fdiv (2 ^ min (1:Int).toNat IntKind.u64.bits) = ((i + j) / 2:Nat):=by
 show ((i:Int) + (j:Int)).fdiv 2 = _
 rw [Int.fdiv_eq_ediv_of_nonneg _ (by decide)]
 omega
attribute [local irreducible] V N X VO Par StepOK Has Ret RetL RetO RetT zbd Src
abbrev SYM:Nat:=311
set_option maxHeartbeats 4000000 in
set_option maxRecDepth 20000 in
theorem zza {P Y R:List CH} {x:CH} {rest:List Value} {b m cap a mm e:Nat} (ha:P.length = a) (hmm:a + 1 = mm) (he:mm + Y.length = e) (hY:z08 Y) (hm:(P ++ ([x] ++ (Y ++ R))).length = m) (hm1:m ≤ 100000) {w:World} {B:Heap} {C:Nat → Prop} (hB:B.Le (hp w))
  (hr:(zab b ((P ++ ([x] ++ (Y ++ R))).flatMap ccs ++ rest) tyC).P B w C) (hC:∀ k, C k → k < w.heap.size ∧ B k = none) :
  zbd Tryz.prog SYM [.slice (some ⟨b, 0, none⟩) m cap, .int .i64 a, .int .i64 mm, .int .i64 e, zjw] w B C (zab b ((P ++ (stC ([x] ++ Y) ++ R)).flatMap ccs ++ rest) tyC):=by
 unfold zbd
 refine zah 900 (zab b ((P ++ ([x] ++ (Y ++ R))).flatMap ccs ++ rest) tyC) Tryz.func311 rfl Tryz.ntmps311 (Nat.le_of_ble_eq_true rfl) hB hr hC ?_
 rw [zae]
 have hm':=hm
 simp only [List.length_append, List.length_singleton] at hm'
 refine zh ?_;refine ZO ?_;refine Zb ?_;refine Zbu ?_;refine Z9 ?_;refine Zv ?_;refine Z4 ?_;refine Za0 ?_;refine Zd ?_;refine q6 ?_
 refine zan (fun s:Nat × Nat => [(0, .is (.slice (some ⟨b, 0, none⟩) m cap)), (1, .is (.int .i64 a)), (4, .is zjw), (10, .is (.int .i64 s.1)), (11, .is (.int .i64 s.2)), (900, .own (zaj b ((P ++ ([x] ++ (Y ++ R))).flatMap ccs ++ rest) tyC))])
  (fun s => mm ≤ s.1 ∧ s.1 ≤ s.2 ∧ s.2 ≤ e ∧ (∀ (j:Nat) (z:CH), j < s.1 - mm → Y[j]? = some z → zbt z.1 x.1 < 0) ∧ ∀ (j:Nat) (z:CH), s.2 - mm ≤ j → Y[j]? = some z → ¬ zbt z.1 x.1 < 0) (fun s => s.2 - s.1) (mm, e)
  ⟨Nat.le_refl _, by dsimp only; omega, Nat.le_refl _, fun j z h => (by dsimp only at h; omega), fun j z h hz => (by have:=get_lt hz; dsimp only at h; omega)⟩ ⟨rfl, rfl, rfl, rfl, rfl, rfl, trivial⟩ ?_
 rintro ⟨i, j⟩ ⟨h1, h2, h3, h4, h5⟩
 dsimp only at h1 h2 h3 h4 h5 ⊢
 by_cases hlt:i < j
 ·have hsh:=ziy i j
  obtain ⟨h, hh⟩:∃ h, (i + j) / 2 = h:=⟨_, rfl⟩
  rw [hh] at hsh
  obtain ⟨y, hy⟩:=zaw (l:=Y) (show h - mm < Y.length by omega)
  have q1:=zbu (rest:=rest) (z0d (X:=[x]) (D:=R) (mm:=mm) ha hmm hy h (by omega)) (0 + h * 7) (by omega)
  have q2:=zbu (rest:=rest) (zxq (X:=[x]) (D:=Y ++ R) ha (j:=0) rfl a (by omega)) (0 + a * 7) (by omega)
  by_cases hc:zbt y.1 x.1 < 0
  ·refine ZdW ?_;refine Zcw ?_;refine Zc9 ?_;refine Zp ?_;refine ZdQ ?_;refine z7 (za2 rfl rfl rfl zbm.1 zbm.2 (wrap_u64 (by omega) (by omega))) rfl ?_;refine Zd2 ?_;refine z7 (za2 rfl rfl rfl zbn.1 zbn.2 (zaa (by omega) (by omega))) rfl ?_;refine Zd ?_;refine q4 (id:=5) [(200044, [900]), (200048, [900])] mixed (by kernel_rfl) ?_;refine Zei ?_;refine q7 (zaz L (q:=900) (vs:=[_, _, _, _, _, _, _]) rfl rfl rfl rfl rfl rfl q1) rfl rfl ?_;refine Zq ?_;refine q7 (zaz L (q:=900) (vs:=[_, _, _, _, _, _, _]) rfl rfl rfl rfl rfl rfl q2) rfl rfl ?_;refine zd (zp L rfl rfl (zk rfl) rfl rfl rfl (fun u H hH _ _ => zc4 hH)) rfl ?_;refine ZbT ?_;refine Zb9 ?_;refine ZJ ?_;refine Zdj ?_;refine ZG ?_
   exact qy (x:=(i, j)) (h + 1, j) ⟨by dsimp only; omega, by dsimp only; omega, h3, fun k z hk hz => by
    dsimp only at hk
    exact zsk cmpT_ord (ze8 cmpT_ord hY hz hy (by omega)) hc, h5⟩ (by dsimp only; omega) ⟨rfl, rfl, rfl, rfl, rfl, rfl, trivial⟩
  ·refine ZdW ?_;refine Zcw ?_;refine Zc9 ?_;refine Zp ?_;refine ZdQ ?_;refine z7 (za2 rfl rfl rfl zbm.1 zbm.2 (wrap_u64 (by omega) (by omega))) rfl ?_;refine Zd2 ?_;refine z7 (za2 rfl rfl rfl zbn.1 zbn.2 (zaa (by omega) (by omega))) rfl ?_;refine Zd ?_;refine q4 (id:=5) [(200044, [900]), (200048, [900])] mixed (by kernel_rfl) ?_;refine Zei ?_;refine q7 (zaz L (q:=900) (vs:=[_, _, _, _, _, _, _]) rfl rfl rfl rfl rfl rfl q1) rfl rfl ?_;refine Zq ?_;refine q7 (zaz L (q:=900) (vs:=[_, _, _, _, _, _, _]) rfl rfl rfl rfl rfl rfl q2) rfl rfl ?_;refine zd (zp L rfl rfl (zk rfl) rfl rfl rfl (fun u H hH _ _ => zc4 hH)) rfl ?_;refine Zeg ?_;refine Zbv ?_;refine ZC ?_;refine ZG ?_
   exact qy (x:=(i, j)) (i, h) ⟨h1, by dsimp only; omega, by dsimp only; omega, h4, fun k z hk hz hcx => by
    dsimp only at hk
    exact hc (zsk cmpT_ord (ze8 cmpT_ord hY hy hz (by omega)) hcx)⟩ (by dsimp only; omega) ⟨rfl, rfl, rfl, rfl, rfl, rfl, trivial⟩
 ·obtain rfl:i = j:=by omega
  have hfin:=zzw (k:=fun c:CH => c.1) cmpT_ord hY h4 h5
  have hal:(Y.take (i - mm)).length = i - mm:=by rw [List.length_take]; omega
  have hYl:(Y.take (i - mm)).length + (Y.drop (i - mm)).length = Y.length:=by rw [← List.length_append, List.take_append_drop]
  have e0:P ++ ([x] ++ (Y ++ R)) = P ++ ([] ++ (x :: (Y.take (i - mm) ++ (Y.drop (i - mm) ++ R)))):=by
   rw [← List.append_assoc (Y.take _), List.take_append_drop]; rfl
  rw [e0]
  have e9:P ++ (Y.take (i - mm) ++ (x :: (Y.drop (i - mm) ++ R))) = P ++ (stC ([x] ++ Y) ++ R):=by
   unfold stC
   rw [← hfin]; simp
  generalize Y.take (i - mm) = A at *
  generalize Y.drop (i - mm) = D at *
  clear hfin h4 h5 e0
  refine ZdW ?_;refine Za8 ?_;refine Zb7 ?_;refine ZS ?_;refine Zaf ?_
  refine zan (fun t:Nat => [(0, .is (.slice (some ⟨b, 0, none⟩) m cap)), (10, .is (.int .i64 i)), (13, .is (.int .i64 (a + t:Nat))), (900, .own (zaj b ((P ++ (A.take t ++ (x :: (A.drop t ++ (D ++ R))))).flatMap ccs ++ rest) tyC))]) (fun t => t ≤ A.length) (fun t => A.length - t) 0 (Nat.zero_le _) ⟨rfl, rfl, rfl, rfl, trivial⟩ ?_
  rintro t ht
  by_cases htl:t < A.length
  ·obtain ⟨z, hz⟩:=zaw htl
   have e0:P ++ (A.take t ++ (x :: (A.drop t ++ (D ++ R)))) = (P ++ A.take t) ++ x :: ([] ++ z :: (A.drop (t + 1) ++ (D ++ R))):=by rw [zh9 hz]; simp
   have e1:(P ++ A.take t) ++ z :: ([] ++ x :: (A.drop (t + 1) ++ (D ++ R))) = P ++ (A.take (t + 1) ++ (x :: (A.drop (t + 1) ++ (D ++ R)))):=by rw [List.take_add_one, hz]; simp
   have l1:(P ++ A.take t).length = a + t:=by rw [List.length_append, List.length_take]; omega
   have l2:(P ++ A.take t).length + 1 + ([]:List CH).length = a + t + 1:=by rw [l1]; rfl
   have g1:=zim (x:=x) (y:=z) (M:=[]) (D:=A.drop (t + 1) ++ (D ++ R)) l1
   have g2:=zil (x:=x) (y:=z) (D:=A.drop (t + 1) ++ (D ++ R)) l2
   have g3:=zo4 (x:=x) (y:=z) (D:=A.drop (t + 1) ++ (D ++ R)) l1 l2
   rw [e0]
   rw [e1] at g3
   generalize (P ++ A.take t) ++ x :: ([] ++ z :: (A.drop (t + 1) ++ (D ++ R))) = K at *
   have k1:=get_lt g1
   have k2:=get_lt g2
   have hKl:a + t + 1 < m:=by
    have:a + 1 + A.length + D.length ≤ m:=by omega
    omega
   have q1:=zbu (rest:=rest) g1 (0 + (a + t) * 7) (by omega)
   have q2:=zbu (rest:=rest) g2 (0 + (a + t + 1) * 7) (by omega)
   have s1:=zdc (rest:=rest) (z:=z) k1 (0 + (a + t) * 7) (by omega)
   have b1:=zdd (rest:=rest) k1 (0 + (a + t) * 7) (by omega)
   have k3:a + t + 1 < (K.set (a + t) z).length:=by rw [List.length_set]; exact k2
   have s2:=zdc (rest:=rest) (z:=x) k3 (0 + (a + t + 1) * 7) (by omega)
   have b2:=zdd (rest:=rest) k3 (0 + (a + t + 1) * 7) (by omega)
   rw [g3] at s2
   have a1:IntKind.i64.wrap (((a + t:Nat):Int) + 1) = ((a + t + 1:Nat):Int):=zaa (by omega) (by omega)
   refine Ze ?_;refine ZcO ?_;refine Zbu ?_;refine Zcl ?_;refine ZaM ?_;refine q4 (id:=11) [(200070, [900]), (200074, [900]), (100075, [900]), (100076, [900])] mixed (by kernel_rfl) ?_;refine Zcv ?_;refine Zao ?_;refine Zs ?_;refine Zao ?_;refine Zm ?_;refine q7 (zaz L (q:=900) (vs:=[_, _, _, _, _, _, _]) rfl rfl rfl rfl rfl rfl q2) rfl rfl ?_;refine Zq ?_;refine q7 (zaz L (q:=900) (vs:=[_, _, _, _, _, _, _]) rfl rfl rfl rfl rfl rfl q1) rfl rfl ?_;refine Zm ?_;refine zaf (qs L (q:=900) rfl rfl rfl rfl rfl rfl b1 rfl s1) rfl ?_;refine Zm ?_;refine zaf (qs L (q:=900) rfl rfl rfl rfl rfl rfl b2 rfl s2) rfl ?_;refine Zco ?_;refine Zcq ?_;refine Zcx ?_
   exact qy (x:=t) (t + 1) (by omega) (by omega) ⟨rfl, rfl, rfl, rfl, trivial⟩
  ·have hA:P ++ (A.take t ++ (x :: (A.drop t ++ (D ++ R)))) = P ++ (stC ([x] ++ Y) ++ R):=by
    rw [List.take_of_length_le (by omega), List.drop_eq_nil_of_le (by omega), List.nil_append, e9]
   rw [hA]
   refine Ze ?_;refine ZcO ?_;refine Zbu ?_;refine Z7 ?_;refine Zbx ?_;refine zj ?_
   exact za6 L 900 (r:=zab b _ tyC) rfl (fun _ _ h => h) Since.refl rfl rfl
set_option maxHeartbeats 4000000 in
set_option maxRecDepth 20000 in
theorem zzb {P X R:List CH} {y:CH} {rest:List Value} {b m cap a mm e:Nat} (ha:P.length = a) (hmm:a + X.length = mm) (hx1:¬ X.length = 1) (he:mm + 1 = e) (hX:z08 X) (hm:(P ++ (X ++ ([y] ++ R))).length = m) (hm1:m ≤ 100000) {w:World} {B:Heap} {C:Nat → Prop} (hB:B.Le (hp w))
  (hr:(zab b ((P ++ (X ++ ([y] ++ R))).flatMap ccs ++ rest) tyC).P B w C) (hC:∀ k, C k → k < w.heap.size ∧ B k = none) :
  zbd Tryz.prog SYM [.slice (some ⟨b, 0, none⟩) m cap, .int .i64 a, .int .i64 mm, .int .i64 e, zjw] w B C (zab b ((P ++ (stC (X ++ [y]) ++ R)).flatMap ccs ++ rest) tyC):=by
 unfold zbd
 refine zah 900 (zab b ((P ++ (X ++ ([y] ++ R))).flatMap ccs ++ rest) tyC) Tryz.func311 rfl Tryz.ntmps311 (Nat.le_of_ble_eq_true rfl) hB hr hC ?_
 rw [zae]
 have hm':=hm
 simp only [List.length_append, List.length_singleton] at hm'
 refine zh ?_;refine ZO ?_;refine Zb ?_;refine Zbu ?_;refine ZL ?_;refine ZB ?_;refine ZN ?_;refine Zb ?_;refine Zbu ?_;refine Z9 ?_;refine Zv ?_;refine ZbC ?_;refine Zd ?_;refine Zc5 ?_;refine Zd ?_;refine q6 ?_
 refine zan (fun s:Nat × Nat => [(0, .is (.slice (some ⟨b, 0, none⟩) m cap)), (2, .is (.int .i64 mm)), (4, .is zjw), (14, .is (.int .i64 s.1)), (15, .is (.int .i64 s.2)), (900, .own (zaj b ((P ++ (X ++ ([y] ++ R))).flatMap ccs ++ rest) tyC))])
  (fun s => a ≤ s.1 ∧ s.1 ≤ s.2 ∧ s.2 ≤ mm ∧ (∀ (j:Nat) (z:CH), j < s.1 - a → X[j]? = some z → ¬ zbt y.1 z.1 < 0) ∧ ∀ (j:Nat) (z:CH), s.2 - a ≤ j → X[j]? = some z → zbt y.1 z.1 < 0) (fun s => s.2 - s.1) (a, mm)
  ⟨Nat.le_refl _, by dsimp only; omega, Nat.le_refl _, fun j z h => (by dsimp only at h; omega), fun j z h hz => (by have:=get_lt hz; dsimp only at h; omega)⟩ ⟨rfl, rfl, rfl, rfl, rfl, rfl, trivial⟩ ?_
 rintro ⟨i, j⟩ ⟨h1, h2, h3, h4, h5⟩
 dsimp only at h1 h2 h3 h4 h5 ⊢
 by_cases hlt:i < j
 ·have hsh:=ziy i j
  obtain ⟨h, hh⟩:∃ h, (i + j) / 2 = h:=⟨_, rfl⟩
  rw [hh] at hsh
  obtain ⟨x, hx⟩:=zaw (l:=X) (show h - a < X.length by omega)
  have q1:=zbu (rest:=rest) (z0d (Y:=[y]) (D:=R) ha hmm (j:=0) rfl mm (by omega)) (0 + mm * 7) (by omega)
  have q2:=zbu (rest:=rest) (zxq (D:=[y] ++ R) ha hx h (by omega)) (0 + h * 7) (by omega)
  by_cases hc:zbt y.1 x.1 < 0
  ·refine Ze ?_;refine Zag ?_;refine Zcw ?_;refine Zc9 ?_;refine Zaj ?_;refine ZdQ ?_;refine z7 (za2 rfl rfl rfl zbm.1 zbm.2 (wrap_u64 (by omega) (by omega))) rfl ?_;refine Zd2 ?_;refine z7 (za2 rfl rfl rfl zbn.1 zbn.2 (zaa (by omega) (by omega))) rfl ?_;refine Zd ?_;refine q4 (id:=17) [(200096, [900]), (200100, [900])] mixed (by kernel_rfl) ?_;refine Zei ?_;refine q7 (zaz L (q:=900) (vs:=[_, _, _, _, _, _, _]) rfl rfl rfl rfl rfl rfl q1) rfl rfl ?_;refine Zq ?_;refine q7 (zaz L (q:=900) (vs:=[_, _, _, _, _, _, _]) rfl rfl rfl rfl rfl rfl q2) rfl rfl ?_;refine zd (zp L rfl rfl (zk rfl) rfl rfl rfl (fun u H hH _ _ => zc4 hH)) rfl ?_;refine ZbT ?_;refine Zab ?_;refine Zbv ?_;refine ZdO ?_;refine ZG ?_
   exact qy (x:=(i, j)) (i, h) ⟨h1, by dsimp only; omega, by dsimp only; omega, h4, fun k z hk hz => by
    dsimp only at hk
    exact zsh cmpT_ord hc (ze8 cmpT_ord hX hx hz (by omega))⟩ (by dsimp only; omega) ⟨rfl, rfl, rfl, rfl, rfl, rfl, trivial⟩
  ·refine Ze ?_;refine Zag ?_;refine Zcw ?_;refine Zc9 ?_;refine Zaj ?_;refine ZdQ ?_;refine z7 (za2 rfl rfl rfl zbm.1 zbm.2 (wrap_u64 (by omega) (by omega))) rfl ?_;refine Zd2 ?_;refine z7 (za2 rfl rfl rfl zbn.1 zbn.2 (zaa (by omega) (by omega))) rfl ?_;refine Zd ?_;refine q4 (id:=17) [(200096, [900]), (200100, [900])] mixed (by kernel_rfl) ?_;refine Zei ?_;refine q7 (zaz L (q:=900) (vs:=[_, _, _, _, _, _, _]) rfl rfl rfl rfl rfl rfl q1) rfl rfl ?_;refine Zq ?_;refine q7 (zaz L (q:=900) (vs:=[_, _, _, _, _, _, _]) rfl rfl rfl rfl rfl rfl q2) rfl rfl ?_;refine zd (zp L rfl rfl (zk rfl) rfl rfl rfl (fun u H hH _ _ => zc4 hH)) rfl ?_;refine Zeg ?_;refine Zab ?_;refine Zb9 ?_;refine Zcu ?_;refine Zdj ?_;refine ZG ?_
   exact qy (x:=(i, j)) (h + 1, j) ⟨by dsimp only; omega, by dsimp only; omega, h3, fun k z hk hz hcx => by
    dsimp only at hk
    exact hc (zsh cmpT_ord hcx (ze8 cmpT_ord hX hz hx (by omega))), h5⟩ (by dsimp only; omega) ⟨rfl, rfl, rfl, rfl, rfl, rfl, trivial⟩
 ·obtain rfl:i = j:=by omega
  have hfin:=zzv (k:=fun c:CH => c.1) cmpT_ord hX h4 h5
  have hal:(X.take (i - a)).length = i - a:=by rw [List.length_take]; omega
  have hXl:(X.take (i - a)).length + (X.drop (i - a)).length = X.length:=by rw [← List.length_append, List.take_append_drop]
  have e0:P ++ (X ++ ([y] ++ R)) = P ++ (X.take (i - a) ++ (X.drop (i - a) ++ (y :: ([] ++ R)))):=by
   rw [← List.append_assoc (X.take _), List.take_append_drop]; rfl
  rw [e0]
  have e9:P ++ (X.take (i - a) ++ (y :: (X.drop (i - a) ++ R))) = P ++ (stC (X ++ [y]) ++ R):=by
   unfold stC
   rw [← hfin]; simp
  generalize X.take (i - a) = A at *
  generalize X.drop (i - a) = D at *
  clear hfin h4 h5 e0
  have hk0:mm = i + D.length:=by omega
  refine Ze ?_;refine Zag ?_;refine Za8 ?_;refine Zb7 ?_;refine Za1 ?_;refine Za ?_;refine Zaf ?_
  refine zan (fun t:Nat => [(0, .is (.slice (some ⟨b, 0, none⟩) m cap)), (14, .is (.int .i64 i)), (17, .is (.int .i64 (i + t:Nat))), (900, .own (zaj b ((P ++ (A ++ (D.take t ++ (y :: (D.drop t ++ R))))).flatMap ccs ++ rest) tyC))]) (fun t => t ≤ D.length) (fun t => t) D.length (Nat.le_refl _) ⟨rfl, rfl, by rw [← hk0]; rfl, by rw [List.take_length, List.drop_length]; rfl, trivial⟩ ?_
  rintro t ht
  rcases t with _ | t
  ·rw [List.take_zero, List.drop_zero, List.nil_append, e9, Nat.add_zero]
   refine Ze ?_;refine Zct ?_;refine Zb ?_;refine Z3 ?_;refine Zbx ?_;refine zj ?_
   exact za6 L 900 (r:=zab b _ tyC) rfl (fun _ _ h => h) Since.refl rfl rfl
  ·obtain ⟨z, hz⟩:=zaw (l:=D) (show t < D.length by omega)
   have e0:P ++ (A ++ (D.take (t + 1) ++ (y :: (D.drop (t + 1) ++ R)))) = (P ++ (A ++ D.take t)) ++ z :: ([] ++ y :: (D.drop (t + 1) ++ R)):=by rw [List.take_add_one, hz]; simp
   have e1:(P ++ (A ++ D.take t)) ++ y :: ([] ++ z :: (D.drop (t + 1) ++ R)) = P ++ (A ++ (D.take t ++ (y :: (D.drop t ++ R)))):=by rw [zh9 hz]; simp
   have l1:(P ++ (A ++ D.take t)).length = i + t:=by rw [List.length_append, List.length_append, List.length_take]; omega
   have l2:(P ++ (A ++ D.take t)).length + 1 + ([]:List CH).length = i + (t + 1):=by rw [l1]; rfl
   have g1:=zim (x:=z) (y:=y) (M:=[]) (D:=D.drop (t + 1) ++ R) l1
   have g2:=zil (x:=z) (y:=y) (D:=D.drop (t + 1) ++ R) l2
   have g3:=zqi (x:=z) (y:=y) (D:=D.drop (t + 1) ++ R) l1 l2
   rw [e0]
   rw [e1] at g3
   generalize (P ++ (A ++ D.take t)) ++ z :: ([] ++ y :: (D.drop (t + 1) ++ R)) = K at *
   have k1:=get_lt g1
   have k2:=get_lt g2
   have hKl:i + (t + 1) < m:=by omega
   have q1:=zbu (rest:=rest) g1 (0 + (i + t) * 7) (by omega)
   have q2:=zbu (rest:=rest) g2 (0 + (i + (t + 1)) * 7) (by omega)
   have s1:=zdc (rest:=rest) (z:=z) k2 (0 + (i + (t + 1)) * 7) (by omega)
   have b1:=zdd (rest:=rest) k2 (0 + (i + (t + 1)) * 7) (by omega)
   have k3:i + t < (K.set (i + (t + 1)) z).length:=by rw [List.length_set]; exact k1
   have s2:=zdc (rest:=rest) (z:=y) k3 (0 + (i + t) * 7) (by omega)
   have b2:=zdd (rest:=rest) k3 (0 + (i + t) * 7) (by omega)
   rw [g3] at s2
   have a1:IntKind.i64.wrap (((i + (t + 1):Nat):Int) - 1) = ((i + t:Nat):Int):=zaa (by omega) (by omega) |>.trans (by omega)
   refine Ze ?_;refine Zct ?_;refine Zbe ?_;refine Zz ?_;refine ZaM ?_;refine q4 (id:=23) [(200122, [900]), (200126, [900]), (100127, [900]), (100128, [900])] mixed (by kernel_rfl) ?_;refine Zs ?_;refine ZeE ?_;refine Zbi ?_;refine q7 (zaz L (q:=900) (vs:=[_, _, _, _, _, _, _]) rfl rfl rfl rfl rfl rfl q1) rfl rfl ?_;refine Zq ?_;refine q7 (zaz L (q:=900) (vs:=[_, _, _, _, _, _, _]) rfl rfl rfl rfl rfl rfl q2) rfl rfl ?_;refine Zm ?_;refine zaf (qs L (q:=900) rfl rfl rfl rfl rfl rfl b1 rfl s1) rfl ?_;refine Zm ?_;refine zaf (qs L (q:=900) rfl rfl rfl rfl rfl rfl b2 rfl s2) rfl ?_;refine Zco ?_;refine Zdg ?_;refine Za ?_;refine ZQ ?_;refine Zax ?_
   exact qy (x:=t + 1) t (by omega) (by omega) ⟨rfl, rfl, rfl, rfl, trivial⟩
end Go.V.L8
set_option maxRecDepth 20000
namespace Go.V.L8
open Go.Proofs Go.RowKit Go.V Go.V.L2 Go.V.L3 Go.V.L6
theorem zvb {l:List CH} (h:l.length = 1):∃ x, l = [x]:=by
 rcases l with _ | ⟨x, _ | ⟨y, l⟩⟩
 ·simp at h
 ·exact ⟨x, rfl⟩
 ·simp at h
theorem zl7 {l:List CH} (h:z08 l):stC l = l:=zwu cmpT_ord h
attribute [local irreducible] V N X VO Par StepOK Has Ret RetL RetO RetT zbd Src
set_option maxHeartbeats 8000000 in
set_option maxRecDepth 20000 in
theorem ztn (N0:Nat):∀ {P X Y R:List CH} {rest:List Value} {b m cap a mm e:Nat}, X.length + Y.length ≤ N0 → P.length = a → a + X.length = mm → mm + Y.length = e → 0 < X.length → 0 < Y.length → z08 X → z08 Y → (P ++ (X ++ (Y ++ R))).length = m → m ≤ 100000 → ∀ {w:World} {B:Heap} {C:Nat → Prop}, B.Le (hp w) →
  (zab b ((P ++ (X ++ (Y ++ R))).flatMap ccs ++ rest) tyC).P B w C → (∀ k, C k → k < w.heap.size ∧ B k = none) →
  zbd Tryz.prog SYM [.slice (some ⟨b, 0, none⟩) m cap, .int .i64 a, .int .i64 mm, .int .i64 e, zjw] w B C (zab b ((P ++ (stC (X ++ Y) ++ R)).flatMap ccs ++ rest) tyC):=by
 induction N0 with
 | zero => intro P X Y R rest b m cap a mm e h1 h2 h3 h4 h5; omega
 | succ N0 ih =>
 intro P X Y R rest b m cap a mm e hN ha hmm he hx hy hX hY hm hm1 w B C hB hr hC
 by_cases hx1:X.length = 1
 ·obtain ⟨x, rfl⟩:=zvb hx1
  exact zza ha (by simpa using hmm) he hY hm hm1 hB hr hC
 by_cases hy1:Y.length = 1
 ·obtain ⟨y, rfl⟩:=zvb hy1
  exact zzb ha hmm hx1 (by simpa using he) hX hm hm1 hB hr hC
 unfold zbd
 refine zah 900 (zab b ((P ++ (X ++ (Y ++ R))).flatMap ccs ++ rest) tyC) Tryz.func311 rfl Tryz.ntmps311 (Nat.le_of_ble_eq_true rfl) hB hr hC ?_
 rw [zae]
 have hm':=hm
 simp only [List.length_append] at hm'
 have hsh:=ziy a e
 obtain ⟨mid, hmid⟩:∃ mid, (a + e) / 2 = mid:=⟨_, rfl⟩
 rw [hmid] at hsh
 have hnn:IntKind.i64.wrap ((mid:Int) + (mm:Int)) = ((mid + mm:Nat):Int):=zaa (by omega) (by omega)
 refine zh ?_;refine ZO ?_;refine Zb ?_;refine Zbu ?_;refine ZL ?_;refine ZB ?_;refine ZN ?_;refine Zb ?_;refine Zbu ?_;refine ZaN ?_;refine ZbG ?_;refine ZdQ ?_;refine z7 (za2 rfl rfl rfl zbm.1 zbm.2 (wrap_u64 (by omega) (by omega))) rfl ?_;refine Zd2 ?_;refine z7 (za2 rfl rfl rfl zbn.1 zbn.2 (zaa (by omega) (by omega))) rfl ?_;refine Zd ?_;refine zf (id:=25) ?_;refine ZbS ?_;refine Zd ?_;refine zf (id:=26) ?_;refine ZaJ ?_
 refine zgn (fun s:Nat × Nat => [(0, .is (.slice (some ⟨b, 0, none⟩) m cap)), (1, .is (.int .i64 a)), (2, .is (.int .i64 mm)), (3, .is (.int .i64 e)), (4, .is zjw), (18, .is (.int .i64 mid)), (19, .is (.int .i64 (mid + mm:Nat))), (20, .is (.int .i64 s.1)), (21, .is (.int .i64 s.2)), (900, .own (zaj b ((P ++ (X ++ (Y ++ R))).flatMap ccs ++ rest) tyC))]) (fun s => z3a X Y a mm e mid s.1 s.2 ∧ s.1 ≤ s.2) (fun _ => []) ?rest ?first
 case first =>
  by_cases hgt:mid < mm
  ·have hs:IntKind.i64.wrap (((mid + mm:Nat):Int) - (e:Int)) = ((mid + mm - e:Nat):Int):=zaa (by omega) (by omega) |>.trans (by omega)
   refine zf (id:=27) ?_;refine Zbe ?_;refine Zv ?_;refine zf (id:=28) ?_;refine Z8 ?_;refine Zc ?_;refine zf (id:=29) ?_;refine Za ?_;refine Zax ?_
   exact zbe (mid + mm - e, mid) Since.refl ⟨⟨hmm, he, by dsimp only; omega, by dsimp only; omega, Nat.le_refl _, by dsimp only; omega, .inr (by dsimp only; omega), .inr rfl⟩, by dsimp only; omega⟩ rfl ⟨rfl, rfl, rfl, rfl, rfl, rfl, rfl, rfl, rfl, rfl, trivial⟩
  ·refine zf (id:=27) ?_;refine Zb ?_;refine Z3 ?_;refine ZcC ?_;refine zf (id:=30) ?_;refine Za ?_;refine Zc ?_;refine zf (id:=31) ?_;refine Za ?_;refine Zax ?_
   exact zbe (a, mm) Since.refl ⟨⟨hmm, he, Nat.le_refl _, by dsimp only; omega, by dsimp only; omega, Nat.le_refl _, .inl rfl, .inl rfl⟩, by dsimp only; omega⟩ rfl ⟨rfl, rfl, rfl, rfl, rfl, rfl, rfl, rfl, rfl, rfl, trivial⟩
 case rest =>
 rintro ⟨lo, hi⟩ ⟨hb, hlh⟩
 dsimp only at hb hlh ⊢
 have hp:IntKind.i64.wrap (((mid + mm:Nat):Int) - 1) = ((mid + mm - 1:Nat):Int):=zaa (by omega) (by omega) |>.trans (by omega)
 refine zh ?_;refine zf (id:=32) ?_;refine Za ?_;refine ZQ ?_;refine Zd ?_;refine q6 ?_
 refine zan (fun s:Nat × Nat => [(0, .is (.slice (some ⟨b, 0, none⟩) m cap)), (1, .is (.int .i64 a)), (2, .is (.int .i64 mm)), (3, .is (.int .i64 e)), (4, .is zjw), (18, .is (.int .i64 mid)), (19, .is (.int .i64 (mid + mm:Nat))), (20, .is (.int .i64 s.1)), (21, .is (.int .i64 s.2)), (22, .is (.int .i64 (mid + mm - 1:Nat))), (900, .own (zaj b ((P ++ (X ++ (Y ++ R))).flatMap ccs ++ rest) tyC))])
  (fun s => SymI (fun c:CH => c.1) zbt X Y a mid lo hi s.1 s.2) (fun s => s.2 - s.1) (lo, hi) (SymI.start hlh) ⟨rfl, rfl, rfl, rfl, rfl, rfl, rfl, rfl, rfl, rfl, rfl, trivial⟩ ?_
 rintro ⟨i, j⟩ hI
 dsimp only at hI ⊢
 have hI':=hI
 have hb':=hb
 obtain ⟨b1, b2, b3, b4, b5, b6, _, _⟩:=hb'
 obtain ⟨i1, i2, i3, _, _⟩:=hI'
 by_cases hlt:i < j
 ·have hsc:=ziy i j
  obtain ⟨c, hc⟩:∃ c, (i + j) / 2 = c:=⟨_, rfl⟩
  rw [hc] at hsc
  obtain ⟨x, hxc⟩:=zaw (l:=X) (show c - a < X.length by omega)
  obtain ⟨y, hyc⟩:=zaw (l:=Y) (show mid - 1 - c < Y.length by omega)
  have q1:=zbu (rest:=rest) (z0d (D:=R) ha hmm hyc (mid + mm - 1 - c) (by omega)) (0 + (mid + mm - 1 - c) * 7) (by omega)
  have q2:=zbu (rest:=rest) (zxq (D:=Y ++ R) ha hxc c (by omega)) (0 + c * 7) (by omega)
  have hpc:IntKind.i64.wrap (((mid + mm - 1:Nat):Int) - (c:Int)) = ((mid + mm - 1 - c:Nat):Int):=zaa (by omega) (by omega) |>.trans (by omega)
  by_cases hcm:zbt y.1 x.1 < 0
  ·refine Ze ?_;refine zf (id:=33) ?_;refine Zcw ?_;refine Zc9 ?_;refine zf (id:=34) ?_;refine ZdQ ?_;refine z7 (za2 rfl rfl rfl zbm.1 zbm.2 (wrap_u64 (by omega) (by omega))) rfl ?_;refine Zd2 ?_;refine z7 (za2 rfl rfl rfl zbn.1 zbn.2 (zaa (by omega) (by omega))) rfl ?_;refine Zd ?_;refine q4 (id:=35) [(200164, [900]), (200168, [900])] mixed (by kernel_rfl) ?_;refine Zs ?_;refine Zbi ?_;refine q7 (zaz L (q:=900) (vs:=[_, _, _, _, _, _, _]) rfl rfl rfl rfl rfl rfl q1) rfl rfl ?_;refine Zq ?_;refine q7 (zaz L (q:=900) (vs:=[_, _, _, _, _, _, _]) rfl rfl rfl rfl rfl rfl q2) rfl rfl ?_;refine zd (zp L rfl rfl (zk rfl) rfl rfl rfl (fun u H hH _ _ => zc4 hH)) rfl ?_;refine ZbT ?_;refine Zab ?_;refine Zbv ?_;refine zf (id:=37) ?_;refine Za ?_;refine ZG ?_
   exact qy (x:=(i, j)) (i, c) (hI.down cmpT_ord hX hY hb (by omega) (by omega) hxc hyc hcm) (by dsimp only; omega) ⟨rfl, rfl, rfl, rfl, rfl, rfl, rfl, rfl, rfl, rfl, rfl, trivial⟩
  ·refine Ze ?_;refine zf (id:=33) ?_;refine Zcw ?_;refine Zc9 ?_;refine zf (id:=34) ?_;refine ZdQ ?_;refine z7 (za2 rfl rfl rfl zbm.1 zbm.2 (wrap_u64 (by omega) (by omega))) rfl ?_;refine Zd2 ?_;refine z7 (za2 rfl rfl rfl zbn.1 zbn.2 (zaa (by omega) (by omega))) rfl ?_;refine Zd ?_;refine q4 (id:=35) [(200164, [900]), (200168, [900])] mixed (by kernel_rfl) ?_;refine Zs ?_;refine Zbi ?_;refine q7 (zaz L (q:=900) (vs:=[_, _, _, _, _, _, _]) rfl rfl rfl rfl rfl rfl q1) rfl rfl ?_;refine Zq ?_;refine q7 (zaz L (q:=900) (vs:=[_, _, _, _, _, _, _]) rfl rfl rfl rfl rfl rfl q2) rfl rfl ?_;refine zd (zp L rfl rfl (zk rfl) rfl rfl rfl (fun u H hH _ _ => zc4 hH)) rfl ?_;refine Zeg ?_;refine Zab ?_;refine Zb9 ?_;refine zf (id:=36) ?_;refine Za ?_;refine Zdj ?_;refine ZG ?_
   exact qy (x:=(i, j)) (c + 1, j) (hI.up cmpT_ord hX hY hb (by omega) (by omega) hxc hyc hcm) (by dsimp only; omega) ⟨rfl, rfl, rfl, rfl, rfl, rfl, rfl, rfl, rfl, rfl, rfl, trivial⟩
 ·obtain rfl:i = j:=by omega
  have hj:=zwo cmpT_ord hX hY hb hI
  have hen:IntKind.i64.wrap (((mid + mm:Nat):Int) - (i:Int)) = ((mid + mm - i:Nat):Int):=zaa (by omega) (by omega) |>.trans (by omega)
  refine Ze ?_;refine zf (id:=33) ?_;refine Za8 ?_;refine Zbd ?_;refine zf (id:=38) ?_;refine Z8 ?_;refine Zf ?_
  have eX:X.take (i - a) ++ X.drop (i - a) = X:=List.take_append_drop _ _
  have eY:Y.take (mid - i) ++ Y.drop (mid - i) = Y:=List.take_append_drop _ _
  have lA1:(X.take (i - a)).length = i - a:=by rw [List.length_take]; omega
  have lA2:(X.drop (i - a)).length = mm - i:=by rw [List.length_drop]; omega
  have lB1:(Y.take (mid - i)).length = mid - i:=by rw [List.length_take]; omega
  have lB2:(Y.drop (mid - i)).length = e - (mid + mm - i):=by rw [List.length_drop]; omega
  generalize X.take (i - a) = A1 at *
  generalize X.drop (i - a) = A2 at *
  generalize Y.take (mid - i) = B1 at *
  generalize Y.drop (mid - i) = B2 at *
  change stC (A1 ++ B1) ++ stC (A2 ++ B2) = stC (X ++ Y) at hj
  rw [← hj]
  subst eX eY
  obtain ⟨sA1, sA2, _⟩:=zdt.1 hX
  obtain ⟨sB1, sB2, _⟩:=zdt.1 hY
  clear hI hb hj hX hY
  obtain ⟨en, hend⟩:∃ en, mid + mm - i = en:=⟨_, rfl⟩
  rw [hend] at lB2 ⊢
  have e0:P ++ ((A1 ++ A2) ++ ((B1 ++ B2) ++ R)) = (P ++ A1) ++ (A2 ++ (B1 ++ (B2 ++ R))):=by simp
  have e1:(P ++ A1) ++ (B1 ++ (A2 ++ (B2 ++ R))) = P ++ (A1 ++ (B1 ++ (A2 ++ (B2 ++ R)))):=by simp
  have hlen1:((P ++ A1) ++ (A2 ++ (B1 ++ (B2 ++ R)))).length = m:=by rw [← e0]; exact hm
  have hlen2:(P ++ (A1 ++ (B1 ++ (A2 ++ (B2 ++ R))))).length = m:=by simp only [List.length_append] at hm' ⊢; omega
  have hl3:=zew (A1 ++ B1)
  rw [List.length_append] at hl3
  have e3:P ++ (stC (A1 ++ B1) ++ (A2 ++ (B2 ++ R))) = (P ++ stC (A1 ++ B1)) ++ (A2 ++ (B2 ++ R)):=by simp
  have hlen3:((P ++ stC (A1 ++ B1)) ++ (A2 ++ (B2 ++ R))).length = m:=by simp only [List.length_append] at hm' ⊢; omega
  have e4:(P ++ stC (A1 ++ B1)) ++ (stC (A2 ++ B2) ++ R) = P ++ ((stC (A1 ++ B1) ++ stC (A2 ++ B2)) ++ R):=by simp
  simp only [List.length_append] at hm' hmm he hN
  refine zgn (fun _:Unit => [(0, .is (.slice (some ⟨b, 0, none⟩) m cap)), (1, .is (.int .i64 a)), (3, .is (.int .i64 e)), (4, .is zjw), (18, .is (.int .i64 mid)), (20, .is (.int .i64 i)), (24, .is (.int .i64 en)), (900, .own (zaj b ((P ++ (A1 ++ (B1 ++ (A2 ++ (B2 ++ R))))).flatMap ccs ++ rest) tyC))]) (fun _ => True) (fun _ => []) ?rest1 ?first1
  case first1 =>
   rw [e0]
   by_cases h1:i < mm
   ·by_cases h2:mm < en
    ·refine zf (id:=39) ?_;refine ZdP ?_;refine Zr ?_;refine Zac ?_;refine Zcj ?_;refine zf (id:=40) ?_;refine Zb ?_;refine Zr ?_;refine q8 (zao L 900 (zab b (((P ++ A1) ++ (B1 ++ (A2 ++ (B2 ++ R)))).flatMap ccs ++ rest) tyC) (r:=zab b (((P ++ A1) ++ (A2 ++ (B1 ++ (B2 ++ R)))).flatMap ccs ++ rest) tyC) rfl rfl rfl rfl rfl (fun u H C hH _ hr hC => (by have h:=zzj (cap:=cap) (a:=i) (mm:=mm) (e:=en) (by rw [List.length_append]; omega) (by omega) (by omega) (by omega) (by omega) hlen1 hm1 zjw hH hr hC; exact h))) ?_;refine zi ?_
     rw [e1]
     exact zbe () Since.refl trivial rfl ⟨rfl, rfl, rfl, rfl, rfl, rfl, rfl, rfl, trivial⟩
    ·have hB1:B1 = []:=List.eq_nil_of_length_eq_zero (by omega)
     subst hB1
     have e9:(P ++ A1) ++ (A2 ++ ([] ++ (B2 ++ R))) = P ++ (A1 ++ ([] ++ (A2 ++ (B2 ++ R)))):=by simp
     rw [e9]
     refine zf (id:=39) ?_;refine ZdP ?_;refine Zr ?_;refine Z7 ?_;refine Zg ?_;refine ZX ?_
     exact zbe () Since.refl trivial rfl ⟨rfl, rfl, rfl, rfl, rfl, rfl, rfl, rfl, trivial⟩
   ·have hA2:A2 = []:=List.eq_nil_of_length_eq_zero (by omega)
    subst hA2
    have e9:(P ++ A1) ++ ([] ++ (B1 ++ (B2 ++ R))) = P ++ (A1 ++ (B1 ++ ([] ++ (B2 ++ R)))):=by simp
    rw [e9]
    refine zf (id:=39) ?_;refine Za8 ?_;refine Zad ?_;refine ZX ?_
    exact zbe () Since.refl trivial rfl ⟨rfl, rfl, rfl, rfl, rfl, rfl, rfl, rfl, trivial⟩
  case rest1 =>
  rintro _ _
  refine Ze ?_
  refine zgn (fun _:Unit => [(0, .is (.slice (some ⟨b, 0, none⟩) m cap)), (3, .is (.int .i64 e)), (4, .is zjw), (18, .is (.int .i64 mid)), (24, .is (.int .i64 en)), (900, .own (zaj b (((P ++ stC (A1 ++ B1)) ++ (A2 ++ (B2 ++ R))).flatMap ccs ++ rest) tyC))]) (fun _ => True) (fun _ => []) ?rest2 ?first2
  case first2 =>
   rw [← e3]
   by_cases h1:a < i
   ·by_cases h2:i < mid
    ·refine zf (id:=41) ?_;refine ZdP ?_;refine Zr ?_;refine Zac ?_;refine Zcj ?_;refine zf (id:=42) ?_;refine Zb ?_;refine Zr ?_;refine q8 (zao L 900 (zab b ((P ++ (stC (A1 ++ B1) ++ (A2 ++ (B2 ++ R)))).flatMap ccs ++ rest) tyC) (r:=zab b ((P ++ (A1 ++ (B1 ++ (A2 ++ (B2 ++ R))))).flatMap ccs ++ rest) tyC) rfl rfl rfl rfl rfl (fun u H C hH _ hr hC => (by have h:=ih (cap:=cap) (a:=a) (mm:=i) (e:=mid) (by omega) ha (by omega) (by omega) (by omega) (by omega) sA1 sB1 hlen2 hm1 hH hr hC; exact h))) ?_;refine zi ?_
     exact zbe () Since.refl trivial rfl ⟨rfl, rfl, rfl, rfl, rfl, rfl, trivial⟩
    ·have hB1:B1 = []:=List.eq_nil_of_length_eq_zero (by omega)
     subst hB1
     have e9:P ++ (A1 ++ ([] ++ (A2 ++ (B2 ++ R)))) = P ++ (stC (A1 ++ []) ++ (A2 ++ (B2 ++ R))):=by rw [List.append_nil, zl7 sA1]; rfl
     rw [e9]
     refine zf (id:=41) ?_;refine ZdP ?_;refine Zr ?_;refine Z7 ?_;refine Zg ?_;refine ZX ?_
     exact zbe () Since.refl trivial rfl ⟨rfl, rfl, rfl, rfl, rfl, rfl, trivial⟩
   ·have hA1:A1 = []:=List.eq_nil_of_length_eq_zero (by omega)
    subst hA1
    have e9:P ++ ([] ++ (B1 ++ (A2 ++ (B2 ++ R)))) = P ++ (stC ([] ++ B1) ++ (A2 ++ (B2 ++ R))):=by rw [List.nil_append, List.nil_append, zl7 sB1]
    rw [e9]
    refine zf (id:=41) ?_;refine Za8 ?_;refine Zad ?_;refine ZX ?_
    exact zbe () Since.refl trivial rfl ⟨rfl, rfl, rfl, rfl, rfl, rfl, trivial⟩
  case rest2 =>
  rintro _ _
  by_cases h1:mid < en
  ·by_cases h2:en < e
   ·refine zh ?_;refine zf (id:=43) ?_;refine ZdP ?_;refine Zr ?_;refine Zac ?_;refine Zcj ?_;refine zf (id:=44) ?_;refine Zb ?_;refine Zr ?_;refine q8 (zao L 900 (zab b (((P ++ stC (A1 ++ B1)) ++ (stC (A2 ++ B2) ++ R)).flatMap ccs ++ rest) tyC) (r:=zab b (((P ++ stC (A1 ++ B1)) ++ (A2 ++ (B2 ++ R))).flatMap ccs ++ rest) tyC) rfl rfl rfl rfl rfl (fun u H C hH _ hr hC => (by have h:=ih (cap:=cap) (a:=mid) (mm:=en) (e:=e) (by omega) (by rw [List.length_append]; omega) (by omega) (by omega) (by omega) (by omega) sA2 sB2 hlen3 hm1 hH hr hC; exact h))) ?_;refine zi ?_
    rw [e4]
    exact zav L 900 (r:=zab b _ tyC) rfl (fun _ _ h => h) Since.refl rfl rfl
   ·have hB2:B2 = []:=List.eq_nil_of_length_eq_zero (by omega)
    subst hB2
    have e9:(P ++ stC (A1 ++ B1)) ++ (A2 ++ ([] ++ R)) = P ++ ((stC (A1 ++ B1) ++ stC (A2 ++ [])) ++ R):=by rw [List.append_nil, zl7 sA2]; simp
    rw [e9]
    refine zh ?_;refine zf (id:=43) ?_;refine ZdP ?_;refine Zr ?_;refine Z7 ?_;refine Zg ?_;refine ZX ?_
    exact zav L 900 (r:=zab b _ tyC) rfl (fun _ _ h => h) Since.refl rfl rfl
  ·have hA2:A2 = []:=List.eq_nil_of_length_eq_zero (by omega)
   subst hA2
   have e9:(P ++ stC (A1 ++ B1)) ++ ([] ++ (B2 ++ R)) = P ++ ((stC (A1 ++ B1) ++ stC ([] ++ B2)) ++ R):=by rw [List.nil_append, List.nil_append, zl7 sB2]; simp
   rw [e9]
   refine zh ?_;refine zf (id:=43) ?_;refine Za8 ?_;refine Zad ?_;refine ZX ?_
   exact zav L 900 (r:=zab b _ tyC) rfl (fun _ _ h => h) Since.refl rfl rfl
end Go.V.L8
set_option maxRecDepth 20000
namespace Go.V.L8
open Go.Proofs Go.RowKit Go.V Go.V.L2 Go.V.L3 Go.V.L6
theorem _root_.Go.V.Zdi {A B:Prop} (h:B) (t:Wr B → A:=by intro h; refine Zb7 ?_;refine ZbO ?_;exact h.h):A:=t ⟨h⟩
abbrev chC (n:Nat) (l:List CH):List CH:=chL (fun c:CH => c.1) zbt n l
theorem zi2 {n:Nat} (hn:0 < n) (l:List CH):chC n l = stC (l.take n) ++ chC n (l.drop n):=zm1 hn l
theorem zhz {n:Nat} (hn:0 < n) {l:List CH} (h:l.length ≤ n):chC n l = stC l:=z0m hn h
theorem z0n {n:Nat} (hn:0 < n) (l:List CH):(chC n l).length = l.length:=zvx cmpT_ord hn l.length (Nat.le_refl _)
theorem ztr (X Y:List CH):stC (stC X ++ stC Y) = stC (X ++ Y):=zww cmpT_ord X Y
theorem ziq (X:List CH):z08 (stC X):=(zcg cmpT_ord X).1
attribute [local irreducible] V N X VO Par StepOK Has Ret RetL RetO RetT zbd Src
set_option maxHeartbeats 8000000 in
set_option maxRecDepth 20000 in
theorem zwx {l:List CH} {rest:List Value} {b m cap:Nat} (hm:l.length = m) (hm1:m ≤ 100000) {w:World} {B:Heap} {C:Nat → Prop} (hB:B.Le (hp w))
  (hr:(zab b (l.flatMap ccs ++ rest) tyC).P B w C) (hC:∀ k, C k → k < w.heap.size ∧ B k = none) :
  zbd Tryz.prog 281 [.slice (some ⟨b, 0, none⟩) m cap, .int .i64 m, zjw] w B C (zab b ((stC l).flatMap ccs ++ rest) tyC):=by
 unfold zbd
 refine zah 900 (zab b (l.flatMap ccs ++ rest) tyC) Tryz.func281 rfl Tryz.ntmps281 (Nat.le_of_ble_eq_true rfl) hB hr hC ?_
 rw [zae]
 refine Zbp ?_;refine Zau ?_;refine q6 ?_
 refine zan (fun s:Nat × List CH => [(0, .is (.slice (some ⟨b, 0, none⟩) m cap)), (1, .is (.int .i64 m)), (2, .is zjw), (6, .is (.int .i64 20)), (7, .is (.int .i64 s.1)), (8, .is (.int .i64 (s.1 + 20:Nat))), (900, .own (zaj b ((s.2 ++ l.drop s.1).flatMap ccs ++ rest) tyC))])
  (fun s => s.2.length = s.1 ∧ s.1 ≤ m ∧ s.2 ++ chC 20 (l.drop s.1) = chC 20 l) (fun s => m - s.1) (0, []) ⟨rfl, Nat.zero_le _, rfl⟩ ⟨rfl, rfl, rfl, rfl, rfl, rfl, rfl, trivial⟩ ?_
 rintro ⟨a, S1⟩ ⟨h1, h2, h3⟩
 dsimp only at h1 h2 h3 ⊢
 have hdl:(l.drop a).length = m - a:=by rw [List.length_drop, hm]
 by_cases hlt:a + 20 ≤ m
 ·have e0:S1 ++ l.drop a = S1 ++ ((l.drop a).take 20 ++ (l.drop a).drop 20):=by rw [List.take_append_drop]
  have e1:S1 ++ (stC ((l.drop a).take 20) ++ (l.drop a).drop 20) = (S1 ++ stC ((l.drop a).take 20)) ++ l.drop (a + 20):=by rw [List.drop_drop, List.append_assoc]
  have hlen:(S1 ++ ((l.drop a).take 20 ++ (l.drop a).drop 20)).length = m:=by rw [← e0, List.length_append]; omega
  have ltk:((l.drop a).take 20).length = 20:=by rw [List.length_take]; omega
  have a1:IntKind.i64.wrap (((a + 20:Nat):Int) + 20) = ((a + 20 + 20:Nat):Int):=zaa (by omega) (by omega)
  rw [e0]
  refine Ze ?_;refine Zav ?_;refine Zbo ?_;refine ZcA ?_;refine Zo ?_;refine ZU ?_;refine q8 (zao L 900 (zab b ((S1 ++ (stC ((l.drop a).take 20) ++ (l.drop a).drop 20)).flatMap ccs ++ rest) tyC) (r:=zab b ((S1 ++ ((l.drop a).take 20 ++ (l.drop a).drop 20)).flatMap ccs ++ rest) tyC) rfl rfl rfl rfl rfl (fun u H C hH _ hr hC => (by have h:=ins_ret (cap:=cap) (a:=a) (e:=a + 20) h1 (by omega) hlen hm1 hH hr hC; exact h))) ?_;refine Zj ?_;refine Zi ?_;refine Zc ?_;refine Zw ?_;refine ZbS ?_;refine ZG ?_
  rw [e1]
  exact qy (x:=(a, S1)) (a + 20, S1 ++ stC ((l.drop a).take 20)) ⟨by dsimp only; rw [List.length_append, zew]; omega, hlt, by
   dsimp only
   rw [← h3, zi2 (by omega) (l.drop a), List.drop_drop, List.append_assoc]⟩ (by dsimp only; omega) ⟨rfl, rfl, rfl, rfl, rfl, rfl, rfl, trivial⟩
 ·have e0:S1 ++ l.drop a = S1 ++ (l.drop a ++ []):=by rw [List.append_nil]
  have e1:S1 ++ (stC (l.drop a) ++ []) = chC 20 l:=by rw [List.append_nil, ← h3, zhz (by omega) (by omega)]
  have hlen:(S1 ++ (l.drop a ++ [])).length = m:=by rw [← e0, List.length_append]; omega
  rw [e0]
  refine Ze ?_;refine Zav ?_;refine Zb6 ?_;refine Zbd ?_;refine Zak ?_;refine ZU ?_;refine q8 (zao L 900 (zab b ((S1 ++ (stC (l.drop a) ++ [])).flatMap ccs ++ rest) tyC) (r:=zab b ((S1 ++ (l.drop a ++ [])).flatMap ccs ++ rest) tyC) rfl rfl rfl rfl rfl (fun u H C hH _ hr hC => (by have h:=ins_ret (cap:=cap) (a:=a) (e:=m) h1 (by omega) hlen hm1 hH hr hC; exact h))) ?_;refine ZbI ?_
  rw [e1]
  clear e0 e1 hlen hlt hdl h1 h2 h3
  refine zan (fun s:Nat => [(0, .is (.slice (some ⟨b, 0, none⟩) m cap)), (1, .is (.int .i64 m)), (2, .is zjw), (6, .is (.int .i64 s)), (900, .own (zaj b ((chC s l).flatMap ccs ++ rest) tyC))]) (fun s => 0 < s ∧ s ≤ 20 + 2 * m) (fun s => m - s) 20 ⟨by omega, by omega⟩ ⟨rfl, rfl, rfl, rfl, rfl, trivial⟩ ?_
  rintro s ⟨hs0, hs1⟩
  by_cases hsm:s < m
  ·refine ZdN ?_;refine Zcw ?_;refine Zc9 ?_;refine ZS ?_;refine Ze7 ?_;refine Zau ?_;refine q6 ?_
   refine zan (fun t:Nat × List CH => [(0, .is (.slice (some ⟨b, 0, none⟩) m cap)), (1, .is (.int .i64 m)), (2, .is zjw), (6, .is (.int .i64 s)), (7, .is (.int .i64 t.1)), (8, .is (.int .i64 (t.1 + 2 * s:Nat))), (900, .own (zaj b ((t.2 ++ chC s (l.drop t.1)).flatMap ccs ++ rest) tyC))])
    (fun t => t.2.length = t.1 ∧ t.1 ≤ m ∧ t.2 ++ chC (2 * s) (l.drop t.1) = chC (2 * s) l) (fun t => m - t.1) (0, []) ⟨rfl, Nat.zero_le _, rfl⟩ ⟨rfl, rfl, rfl, rfl, rfl, by dsimp only; rw [Nat.zero_add]; rfl, rfl, trivial⟩ ?_
   rintro ⟨a, S1⟩ ⟨h1, h2, h3⟩
   dsimp only at h1 h2 h3 ⊢
   have hdl:(l.drop a).length = m - a:=by rw [List.length_drop, hm]
   have hcs:=zi2 hs0 (l.drop a)
   by_cases hlt:a + 2 * s ≤ m
   ·have hcs2:=zi2 hs0 ((l.drop a).drop s)
    have e0:S1 ++ chC s (l.drop a) = S1 ++ (stC ((l.drop a).take s) ++ (stC (((l.drop a).drop s).take s) ++ chC s (l.drop (a + 2 * s)))):=by
     rw [hcs, hcs2, List.drop_drop, List.drop_drop, show a + s + s = a + 2 * s by omega]
    have ht2:(l.drop a).take (2 * s) = (l.drop a).take s ++ ((l.drop a).drop s).take s:=by rw [show 2 * s = s + s by omega, List.take_add]
    have e1:S1 ++ (stC (stC ((l.drop a).take s) ++ stC (((l.drop a).drop s).take s)) ++ chC s (l.drop (a + 2 * s))) = (S1 ++ stC ((l.drop a).take (2 * s))) ++ chC s (l.drop (a + 2 * s)):=by rw [ztr, ← ht2, List.append_assoc]
    have l1:(stC ((l.drop a).take s)).length = s:=by rw [zew, List.length_take]; omega
    have l2:(stC (((l.drop a).drop s).take s)).length = s:=by rw [zew, List.length_take, List.length_drop]; omega
    have l3:(chC s (l.drop (a + 2 * s))).length = m - (a + 2 * s):=by rw [z0n hs0, List.length_drop, hm]
    have hlen:(S1 ++ (stC ((l.drop a).take s) ++ (stC (((l.drop a).drop s).take s) ++ chC s (l.drop (a + 2 * s))))).length = m:=by simp only [List.length_append]; omega
    have a1:IntKind.i64.wrap ((a:Int) + (s:Int)) = ((a + s:Nat):Int):=zaa (by omega) (by omega)
    have a2:IntKind.i64.wrap (((a + 2 * s:Nat):Int) + 2 * (s:Int)) = ((a + 2 * s + 2 * s:Nat):Int):=zaa (by omega) (by omega)
    rw [e0]
    refine Ze ?_;refine ZcO ?_;refine Zbo ?_;refine ZcA ?_;refine Zap ?_;refine ZU ?_;refine ZM ?_;refine Zb ?_;refine q8 (zao L 900 (zab b ((S1 ++ (stC (stC ((l.drop a).take s) ++ stC (((l.drop a).drop s).take s)) ++ chC s (l.drop (a + 2 * s)))).flatMap ccs ++ rest) tyC) (r:=zab b ((S1 ++ (stC ((l.drop a).take s) ++ (stC (((l.drop a).drop s).take s) ++ chC s (l.drop (a + 2 * s))))).flatMap ccs ++ rest) tyC) rfl rfl rfl rfl rfl (fun u H C hH _ hr hC => (by have h:=ztn _ (cap:=cap) (a:=a) (mm:=a + s) (e:=a + 2 * s) (Nat.le_refl _) h1 (by omega) (by omega) (by omega) (by omega) (ziq _) (ziq _) hlen hm1 hH hr hC; exact h))) ?_;refine Zj ?_;refine ZaZ ?_;refine Zc ?_;refine ZN ?_;refine Zb ?_;refine Zej ?_;refine ZG ?_
    rw [e1]
    exact qy (x:=(a, S1)) (a + 2 * s, S1 ++ stC ((l.drop a).take (2 * s))) ⟨by dsimp only; rw [List.length_append, zew, List.length_take]; omega, hlt, by
     dsimp only
     rw [← h3, zi2 (by omega) (l.drop a), List.drop_drop, List.append_assoc]⟩ (by dsimp only; omega) ⟨rfl, rfl, rfl, rfl, rfl, rfl, rfl, trivial⟩
   ·have a1:IntKind.i64.wrap ((a:Int) + (s:Int)) = ((a + s:Nat):Int):=zaa (by omega) (by omega)
    have a2:IntKind.i64.wrap ((s:Int) * 2) = ((2 * s:Nat):Int):=zaa (by omega) (by omega) |>.trans (by omega)
    by_cases hlm:a + s < m
    ·have e0:S1 ++ chC s (l.drop a) = S1 ++ (stC ((l.drop a).take s) ++ (stC ((l.drop a).drop s) ++ [])):=by
      rw [hcs, zhz hs0 (l:=(l.drop a).drop s) (by rw [List.length_drop]; omega), List.append_nil]
     have e1:S1 ++ (stC (stC ((l.drop a).take s) ++ stC ((l.drop a).drop s)) ++ []) = chC (2 * s) l:=by
      rw [ztr, List.take_append_drop, List.append_nil, ← h3, zhz (n:=2 * s) (by omega) (by omega)]
     have l1:(stC ((l.drop a).take s)).length = s:=by rw [zew, List.length_take]; omega
     have l2:(stC ((l.drop a).drop s)).length = m - a - s:=by rw [zew, List.length_drop]; omega
     have hlen:(S1 ++ (stC ((l.drop a).take s) ++ (stC ((l.drop a).drop s) ++ []))).length = m:=by simp only [List.length_append, List.length_nil]; omega
     rw [e0]
     refine Ze ?_;refine ZcO ?_;refine Zb6 ?_;refine Zdi ?_;refine ZbS ?_;refine Zd ?_;refine Zay ?_;refine Zcw ?_;refine Zag ?_;refine Zb ?_;refine Zr ?_;refine q8 (zao L 900 (zab b ((S1 ++ (stC (stC ((l.drop a).take s) ++ stC ((l.drop a).drop s)) ++ [])).flatMap ccs ++ rest) tyC) (r:=zab b ((S1 ++ (stC ((l.drop a).take s) ++ (stC ((l.drop a).drop s) ++ []))).flatMap ccs ++ rest) tyC) rfl rfl rfl rfl rfl (fun u H C hH _ hr hC => (by have h:=ztn _ (cap:=cap) (a:=a) (mm:=a + s) (e:=m) (Nat.le_refl _) h1 (by omega) (by omega) (by omega) (by omega) (ziq _) (ziq _) hlen hm1 hH hr hC; exact h))) ?_;refine Z1 ?_;refine ZbQ ?_;refine z7 (zuf rfl rfl rfl rfl a2) rfl ?_;refine ZG ?_
     rw [e1]
     exact qy (x:=s) (2 * s) ⟨by omega, by omega⟩ (by omega) ⟨rfl, rfl, rfl, rfl, rfl, trivial⟩
    ·have e1:S1 ++ chC s (l.drop a) = chC (2 * s) l:=by
      rw [← h3, zhz hs0 (by omega), zhz (n:=2 * s) (by omega) (by omega)]
     rw [e1]
     refine Ze ?_;refine ZcO ?_;refine Zb6 ?_;refine Zdi ?_;refine ZbS ?_;refine Zd ?_;refine Zay ?_;refine Za8 ?_;refine Zd1 ?_;refine ZbQ ?_;refine z7 (zuf rfl rfl rfl rfl a2) rfl ?_;refine ZG ?_
     exact qy (x:=s) (2 * s) ⟨by omega, by omega⟩ (by omega) ⟨rfl, rfl, rfl, rfl, rfl, trivial⟩
  ·rw [zhz hs0 (by omega)]
   refine ZdN ?_;refine Za8 ?_;refine Zbx ?_
   exact zav L 900 (r:=zab b _ tyC) rfl (fun _ _ h => h) Since.refl rfl rfl
abbrev SSF:Nat:=229
set_option maxHeartbeats 1000000 in
set_option maxRecDepth 20000 in
theorem ztw {l:List CH} {rest:List Value} {b m cap:Nat} (hm:l.length = m) (hm1:m ≤ 100000) {w:World} {B:Heap} {C:Nat → Prop} (hB:B.Le (hp w))
  (hr:(zab b (l.flatMap ccs ++ rest) tyC).P B w C) (hC:∀ k, C k → k < w.heap.size ∧ B k = none) :
  zbd Tryz.prog SSF [.slice (some ⟨b, 0, none⟩) m cap, zjw] w B C (zab b ((stC l).flatMap ccs ++ rest) tyC):=by
 unfold zbd
 refine zah 900 (zab b (l.flatMap ccs ++ rest) tyC) Tryz.func229 rfl Tryz.ntmps229 (Nat.le_of_ble_eq_true rfl) hB hr hC ?_
 rw [zae]
 refine ZfJ ?_;refine Zb ?_;refine Zdy ?_;refine Za ?_;refine q8 (zao L 900 (zab b ((stC l).flatMap ccs ++ rest) tyC) (r:=zab b (l.flatMap ccs ++ rest) tyC) rfl rfl rfl rfl rfl (fun u H C hH _ hr hC => (by have h:=zwx (cap:=cap) hm hm1 hH hr hC; exact h))) ?_;refine zi ?_
 exact zav L 900 (r:=zab b _ tyC) rfl (fun _ _ h => h) Since.refl rfl rfl
set_option maxRecDepth 20000 in
theorem zxo {w:World} {B:Heap} (hB:B.Le (hp w)):Ret Tryz.prog 310 [.slice none 0 0, .int .i64 0, .int .i64 0, zjw] w B (fun _ _ => True):=by
 refine qt Tryz.func310 rfl Tryz.ntmps310 (Nat.le_of_ble_eq_true rfl) hB ?_
 refine ZbA ?_;refine Zdj ?_;refine Zaf ?_
 refine zan (fun _:Nat => [(2, .is (.int .i64 0)), (8, .is (.int .i64 1))]) (fun _ => True) (fun s => s) 0 trivial ⟨rfl, rfl, trivial⟩ ?_
 rintro s _
 refine Ze ?_;refine Zn ?_;refine Za8 ?_;refine Zbx ?_
 exact zv8 L rfl (fun _ _ h => h) Since.refl
set_option maxRecDepth 20000 in
theorem ztq {w:World} {B:Heap} (hB:B.Le (hp w)):Ret Tryz.prog 281 [.slice none 0 0, .int .i64 0, zjw] w B (fun _ _ => True):=by
 refine qt Tryz.func281 rfl Tryz.ntmps281 (Nat.le_of_ble_eq_true rfl) hB ?_
 refine Zbp ?_;refine Zau ?_;refine q6 ?_
 refine zan (fun _:Nat => [(0, .is (.slice none 0 0)), (1, .is (.int .i64 0)), (2, .is zjw), (6, .is (.int .i64 20)), (7, .is (.int .i64 0)), (8, .is (.int .i64 20))]) (fun _ => True) (fun s => s) 0 trivial ⟨rfl, rfl, rfl, rfl, rfl, rfl, trivial⟩ ?_
 rintro s _
 refine Ze ?_;refine Zav ?_;refine Zb6 ?_;refine Zbd ?_;refine Zak ?_;refine ZU ?_;refine z7 (zag (φ:=fun _ _ => True) L rfl rfl (zk rfl) rfl rfl rfl (fun _ _ _ _ _ => trivial) (fun u H hH _ _ => zxo hH)) rfl ?_;refine ZbI ?_
 refine zan (fun _:Nat => [(1, .is (.int .i64 0)), (6, .is (.int .i64 20))]) (fun _ => True) (fun s => s) 0 trivial ⟨rfl, rfl, trivial⟩ ?_
 rintro s _
 refine ZdN ?_;refine Za8 ?_;refine Zbx ?_
 exact zv8 L rfl (fun _ _ h => h) Since.refl
set_option maxRecDepth 20000 in
theorem zr1 {w:World} {B:Heap} (hB:B.Le (hp w)):Ret Tryz.prog SSF [.slice none 0 0, zjw] w B (fun _ _ => True):=by
 refine qt Tryz.func229 rfl Tryz.ntmps229 (Nat.le_of_ble_eq_true rfl) hB ?_
 refine ZfJ ?_;refine Zb ?_;refine Zdy ?_;refine Za ?_;refine z7 (zag (φ:=fun _ _ => True) L rfl rfl (zk rfl) rfl rfl rfl (fun _ _ _ _ _ => trivial) (fun u H hH _ _ => ztq hH)) rfl ?_;refine zi ?_
 exact zv8 L rfl (fun _ _ h => h) Since.refl
end Go.V.L8
set_option maxRecDepth 20000
namespace Go.V.L8
open Go.Proofs Go.RowKit Go.V Go.V.L2 Go.V.L3 Go.V.L6
theorem zxm (l:List CH):ze2 (stC l) = zj1 l:=zvh (zcg cmpT_ord l)
theorem zoh:∀ (l:List CH), (ze2 l).length ≤ l.length
 | [] => Nat.le_refl _
 | [c] => Nat.le_refl _
 | c :: d :: r => by
  show (if zbt c.1 d.1 = 0 then ze2 (d :: r) else c :: ze2 (d :: r)).length ≤ _
  have:=zoh (d :: r)
  split
  ·simp only [List.length_cons] at this ⊢; omega
  ·simp only [List.length_cons] at this ⊢; omega
attribute [local irreducible] V N X VO Par StepOK Has Ret RetL RetO RetT zbd Src
set_option maxHeartbeats 1000000 in
theorem zss {l:List CH} {fu:Bool} (hz:l.length ≤ 100000) {v:Value} {w:World} {B:Heap} (hB:B.Le (hp w)) (hv:KS tyC l fu v B) :
  RetO Tryz.prog 227 [v] w B (SlR tyC 7 l.length (l.flatMap ccs)):=by
 have hv0:=hv
 have hlen:=zlp l
 have hpl:=zxu l
 obtain ⟨p, c, rfl⟩:=zcj hv
 rcases p with _ | b
 ·obtain ⟨h0, rfl⟩:l.length = 0 ∧ c = 0:=zql hv
  have hn:l = []:=List.eq_nil_of_length_eq_zero h0
  subst hn
  refine zdp Tryz.func227 rfl Tryz.ntmps227 (Nat.le_of_ble_eq_true rfl) hB ?_
  refine ZaT ?_;refine z7 (zck rfl rfl rfl rfl z4b rfl) rfl ?_;refine Zdq ?_
  refine zge 2 tyC 7 rfl ?_
  exact zko rfl (fun _ _ h => h) Since.refl rfl
 ·refine zdp Tryz.func227 rfl Tryz.ntmps227 (Nat.le_of_ble_eq_true rfl) hB ?_
  refine ZaT ?_;refine z7 (zck rfl rfl rfl rfl z4b rfl) rfl ?_;refine Zt ?_
  refine zbl 0 (KS tyC l fu) rfl SlV.mono hv0 ?_
  refine Zo ?_;refine z7 (zgb L rfl rfl rfl rfl rfl) rfl ?_;refine Zl ?_;refine q8 (zce L rfl rfl rfl (z0v rfl) rfl z2o (by assumption) (by assumption) (by omega) (by omega)) ?_;refine q8 (zal (.inr rfl) rfl rfl rfl rfl) ?_;refine Z1 ?_
  rw [Nat.zero_add, List.nil_append]
  exact zko rfl (fun _ _ h => h) Since.refl rfl
set_option maxHeartbeats 8000000 in
set_option maxRecDepth 20000 in
theorem zp3 {l m:List CH} {fu:Bool} (hm:zj1 l = m) (hz:l.length ≤ 50000) {v:Value} {w:World} {B:Heap} (hB:B.Le (hp w)) (hv:KS tyC l fu v B) :
  Ret Tryz.prog 156 [v] w B (KS tyC m true):=by
 subst hm
 have hsl:=zew l
 refine qt Tryz.func156 rfl Tryz.ntmps156 (Nat.le_of_ble_eq_true rfl) hB ?_
 refine zbl 0 (KS tyC l fu) rfl SlV.mono hv ?_
 refine ZZ ?_;refine Zl ?_;refine z7 (zc5 L rfl rfl (zk rfl) rfl rfl rfl (fun u H hH _ _ v1 hv1 => zss (by omega) hH hv1)) rfl ?_;refine q8 (zal (.inr rfl) rfl rfl rfl rfl) ?_;refine Zj ?_;refine Z5 ?_;refine Zd ?_
 refine z00 3 900 rfl (fun h0 hn => ?_) fun b cap rest hl hmc hcm hcl => ?_
 ·have hl0:l = []:=List.eq_nil_of_length_eq_zero h0
  subst hl0
  refine Zo ?_;refine Zb ?_;refine z7 (zag (φ:=fun _ _ => True) L rfl rfl (zk rfl) rfl rfl rfl (fun _ _ _ _ _ => trivial) (fun u H hH _ _ => zr1 hH)) rfl ?_;refine Zj ?_
  refine zbl 3 (KS tyC [] false) rfl SlV.mono SlV.nil ?_
  refine Zp ?_;refine Zl ?_;refine z7 (zbj L (kl:=.i64) (pl:=0) 0 0 true rfl rfl rfl rfl rfl rfl ⟨rfl, rfl⟩ ⟨rfl, rfl⟩ (by decide) (by decide) rfl) rfl ?_;refine Zaa ?_;refine Zaw ?_;refine Zw ?_;refine ZbK ?_
  refine zan (fun _:Nat => [(5, .sat (KS tyC [] true)), (15, .sat (KS tyC [] false)), (16, .is (.int .i64 0)), (17, .is (.int .i64 0))]) (fun _ => True) (fun s => s) 0 trivial ⟨rfl, rfl, rfl, rfl, trivial⟩ ?_
  rintro s _
  refine ZbR ?_;refine ZaD ?_;refine ZE ?_;refine Zl ?_;refine Zx ?_;refine Zx ?_;refine Zer ?_;refine Zd3 ?_
  refine qq L (rs:=[.tmp 2]) rfl (fun _ _ h => h) Since.refl fun u H hH hle => ?_
  exact fun v hv => hv
 ·refine Zo ?_;refine Zb ?_;refine q8 (zao L 900 (zab b ((stC l).flatMap ccs ++ rest) tyC) (r:=zab b (l.flatMap ccs ++ rest) tyC) rfl rfl rfl rfl rfl (fun u H C hH _ hr hC => (by have h:=ztw (cap:=cap) rfl (by omega) hH hr hC; exact h))) ?_;refine Zj ?_
  refine zsx (xs:=(stC l).flatMap ccs) (rest:=rest) (s:=7) 3 900 rfl rfl rfl (by rw [zlp, hsl]) hmc hcm (by
   rw [List.length_append] at hcl ⊢
   rw [zlp] at hcl ⊢
   rw [hsl]; exact hcl) ?_
  rw [← hsl]
  have hkn:=zxm l
  have hkl:=zoh (stC l)
  rw [← hkn]
  generalize stC l = S at *
  refine zkp 3 rfl ?_
  refine Zp ?_;refine Zl ?_;refine z7 (zbj L (kl:=.i64) (pl:=0) 0 0 true rfl rfl rfl rfl rfl rfl ⟨rfl, rfl⟩ ⟨rfl, rfl⟩ (by omega) (by omega) rfl) rfl ?_;refine Zaa ?_;refine Zaw ?_;refine Zw ?_;refine ZbK ?_
  refine zv6 5 (SlV tyC 7 [] 0 true) rfl SlV.mono (fun v H h => h) ?_
  refine z31 5 rfl ?_
  refine zan (fun i:Nat × List CH => [(3, .sat (KS tyC S false)), (4, .is zjw), (5, .own (SlG tyC 7 i.2.length (i.2.flatMap ccs))), (15, .sat (KS tyC S false)), (16, .is (.int .i64 S.length)), (17, .is (.int .i64 i.1))]) (fun i => i.1 ≤ S.length ∧ i.2.length ≤ i.1 ∧ i.2 ++ ze2 (S.drop i.1) = ze2 S) (fun i => S.length - i.1) (0, []) ⟨Nat.zero_le _, Nat.le_refl _, rfl⟩ ⟨rfl, rfl, rfl, rfl, rfl, rfl, trivial⟩ ?_
  rintro ⟨i, kp⟩ ⟨h1, h2, h3⟩
  dsimp only at h1 h2 h3 ⊢
  by_cases hlt:i < S.length
  ·obtain ⟨c, hc0⟩:=zaw hlt
   have hc:=zka hc0
   have hst:=zsl hc0
   have a1:IntKind.i64.wrap ((i:Int) + 1) = ((i + 1:Nat):Int):=zaa (by omega) (by omega)
   by_cases hlast:i + 1 < S.length
   ·obtain ⟨d, hd0⟩:=zaw hlast
    have hd:=zka hd0
    rw [hd0] at hst
    dsimp only at hst
    by_cases heq:zbt c.1 d.1 = 0
    ·rw [if_pos heq, List.nil_append] at hst
     refine ZbR ?_;refine ZT ?_;refine ZC ?_;refine ZcK ?_;refine Z6 ?_;refine ZaQ ?_;refine Zan ?_;refine Zj ?_;refine Zb8 ?_;refine Zh ?_;refine Zao ?_;refine ZcD ?_;refine zd (y4 L rfl rfl rfl rfl) rfl ?_;refine ZdY ?_;refine Zs ?_;refine Zf9 ?_;refine Zfq ?_;refine Zao ?_;refine Zc4 ?_;refine Zfe ?_;refine zd (zp L rfl rfl (zk rfl) rfl rfl rfl (fun u H hH _ _ => zc4 hH)) rfl ?_;refine zd (qu rfl rfl rfl rfl (decide_eq_false (by omega))) rfl ?_;refine Zfa ?_;refine zq ?_;refine Zat ?_;refine Zap ?_;refine ZM ?_;refine Zdm ?_
     exact qy (x:=(i, kp)) (i + 1, kp) ⟨hlt, by dsimp only; omega, by dsimp only; rw [← hst]; exact h3⟩ (by dsimp only; omega) ⟨rfl, rfl, rfl, rfl, rfl, rfl, trivial⟩
    ·rw [if_neg heq] at hst
     refine ZbR ?_;refine ZT ?_;refine ZC ?_;refine ZcK ?_;refine Z6 ?_;refine ZaQ ?_;refine Zan ?_;refine Zj ?_;refine Zb8 ?_;refine Zh ?_;refine Zao ?_;refine ZcD ?_;refine zd (y4 L rfl rfl rfl rfl) rfl ?_;refine ZdY ?_;refine Zs ?_;refine Zf9 ?_;refine Zfq ?_;refine Zao ?_;refine Zc4 ?_;refine Zfe ?_;refine zd (zp L rfl rfl (zk rfl) rfl rfl rfl (fun u H hH _ _ => zc4 hH)) rfl ?_;refine zd (qu rfl rfl rfl rfl (decide_eq_true (by omega))) rfl ?_;refine Zbh ?_;refine Zah ?_;refine q8 (zal (.inl rfl) rfl rfl rfl rfl) ?_;refine ZdD ?_;refine ZR ?_;refine q8 (zld L (by decide) rfl rfl rfl (zkw rfl) rfl z2o rfl rfl (by omega) (by omega)) ?_;refine q8 (zal (.inr rfl) rfl rfl rfl rfl) ?_;refine ZcZ ?_;refine Zap ?_;refine ZM ?_;refine Zdm ?_
     exact qy (x:=(i, kp)) (i + 1, kp ++ [c]) ⟨hlt, by dsimp only; rw [List.length_append, List.length_singleton]; omega, by dsimp only; rw [List.append_assoc, ← hst]; exact h3⟩ (by dsimp only; omega) ⟨rfl, rfl, by dsimp only; rw [List.flatMap_append, List.length_append]; rfl, rfl, rfl, rfl, trivial⟩
   ·have hend:i + 1 = S.length:=by omega
    rw [List.getElem?_eq_none (by omega)] at hst
    dsimp only at hst
    refine ZbR ?_;refine ZT ?_;refine ZC ?_;refine ZcK ?_;refine Z6 ?_;refine ZaQ ?_;refine Zan ?_;refine Zj ?_;refine Zb8 ?_;refine Zh ?_;refine Zao ?_;refine ZcD ?_;refine zd (y4 L rfl rfl rfl rfl) rfl ?_;refine zd (y7 rfl rfl rfl rfl (decide_eq_true (by omega))) rfl ?_;refine Zeh ?_;refine ZaP ?_;refine Zbh ?_;refine Zah ?_;refine q8 (zal (.inl rfl) rfl rfl rfl rfl) ?_;refine ZdD ?_;refine ZR ?_;refine q8 (zld L (by decide) rfl rfl rfl (zkw rfl) rfl z2o rfl rfl (by omega) (by omega)) ?_;refine q8 (zal (.inr rfl) rfl rfl rfl rfl) ?_;refine ZcZ ?_;refine Zap ?_;refine ZM ?_;refine Zdm ?_
    exact qy (x:=(i, kp)) (i + 1, kp ++ [c]) ⟨hlt, by dsimp only; rw [List.length_append, List.length_singleton]; omega, by dsimp only; rw [List.append_assoc, ← hst]; exact h3⟩ (by dsimp only; omega) ⟨rfl, rfl, by dsimp only; rw [List.flatMap_append, List.length_append]; rfl, rfl, rfl, rfl, trivial⟩
  ·rw [List.drop_eq_nil_of_le (by omega), show ze2 [] = [] from rfl, List.append_nil] at h3
   subst h3
   refine z2z 5 rfl ?_
   refine ZbR ?_;refine ZaD ?_;refine ZE ?_;refine Zl ?_;refine Zx ?_;refine Zx ?_;refine Zer ?_;refine Zd3 ?_
   refine qq L (rs:=[.tmp 2]) rfl (fun _ _ h => h) Since.refl fun u H hH hle => ?_
   exact fun v hv => hv
end Go.V.L8
set_option maxRecDepth 20000
namespace Go.V.L2
open Go.Proofs Go.RowKit Go.V
abbrev fWo:Bool → Bool → Bool:=fun _ b => !b
attribute [local irreducible] V N X VO Par StepOK Has Ret RetL RetO Src
theorem z0e (p q:Bool) (w:World) (B:Heap) (hB:B.Le (hp w)):Ret Tryz.prog 226 [.bool p, .bool q] w B (fun v _ => v = .bool (fWo p q)):=by
 refine qt Tryz.func226 rfl Tryz.ntmps226 (Nat.le_of_ble_eq_true rfl) hB ?_
 refine Zbp ?_;refine Zu ?_;refine Zc ?_
 refine qq L (rs:=[.tmp 4]) rfl (fun _ _ h => h) Since.refl fun u H hH hle => ?_
 rfl
theorem zh4 {l m:List U} {fa fb:Bool} {r:List U × Int} {v v2:Value} {w:World} {B:Heap} (hr:z19 fWo l m = r) (hB:B.Le (hp w)) (hv:US l fa v B) (hv2:US m fb v2 B):Ret Tryz.prog 155 [v, v2] w B (LE r):=by
 refine qt Tryz.func155 rfl Tryz.ntmps155 (Nat.le_of_ble_eq_true rfl) hB ?_
 refine zbl 0 (US l fa) rfl SlV.mono hv ?_
 refine zbl 1 (US m fb) rfl SlV.mono hv2 ?_
 refine ZcU ?_;refine Zda ?_;refine Zl ?_;refine z7 (zag (φ:=LE r) L rfl rfl (zk rfl) rfl rfl rfl LE.mono (fun u H hH _ _ v1 h1 v2 h2 => zuy rfl z0e hr hH h1 h2)) rfl ?_;refine z7 (zez rfl rfl rfl rfl SlV.mono) rfl ?_;refine ZcH ?_;refine Zaa ?_;refine Zc ?_
 refine qq L (rs:=[.tmp 4, .tmp 5]) rfl (fun _ _ h => h) Since.refl fun u H hH hle => ?_
 exact fun v hv => zrx hv
end Go.V.L2
set_option maxRecDepth 20000
namespace Go.V.L8
open Go.Proofs Go.RowKit Go.V Go.V.L2 Go.V.L3 Go.V.L6
def z4i (a b:List U):List CH:=zj1 ((zeb zbt fWo (a.length + b.length) a b).map (fun t => (t, true)) ++ (zeb zbt fWo (b.length + a.length) b a).map (fun t => (t, false)))
end Go.V.L8
set_option maxRecDepth 20000
namespace Go.V.L8
open Go.Proofs Go.RowKit Go.V Go.V.L2 Go.V.L3 Go.V.L6
attribute [local irreducible] V N X VO Par StepOK Has Ret RetL RetO RetT zbd Src
end Go.V.L8
set_option maxRecDepth 20000
namespace Go.V.L8
open Go.Proofs Go.RowKit Go.V Go.V.L2 Go.V.L3 Go.V.L6
attribute [local irreducible] V N X VO Par StepOK Has Ret RetL RetO RetT zbd Src
end Go.V.L8
set_option maxRecDepth 20000
namespace Go.V.L8
open Go.Proofs Go.RowKit Go.V Go.V.L2 Go.V.L3 Go.V.L6
attribute [local irreducible] V N X VO Par StepOK Has Ret RetL RetO RetT zbd Src
end Go.V.L8
set_option maxRecDepth 20000
namespace Go.V.L8
open Go.Proofs Go.RowKit Go.V Go.V.L2 Go.V.L3 Go.V.L6
attribute [local irreducible] V N X VO Par StepOK Has Ret RetL RetO RetT zbd Src
end Go.V.L8
set_option maxRecDepth 20000
namespace Go.V.L8
open Go.Proofs Go.RowKit Go.V Go.V.L2 Go.V.L3 Go.V.L6
theorem zyk (a b:List U):(zeb zbt fWo (a.length + b.length) a b).length ≤ a.length + b.length:=zcy _ _ _ (Nat.le_refl _)
theorem zuu {a b:List U} (la:a.length ≤ 4096) (lb:b.length ≤ 4096) (sa:Sst zbt a) (sb:Sst zbt b):z19 fWo a b = (zeb zbt fWo (a.length + b.length) a b, 0):=by
 unfold z19
 have h1:isB a = true:=decide_eq_true sa
 have h2:isB b = true:=decide_eq_true sb
 rw [if_neg (by omega), h1, h2, if_pos (by decide)]
attribute [local irreducible] V N X VO Par StepOK Has Ret RetL RetO RetT zbd Src
set_option maxHeartbeats 4000000 in
theorem zon {a b:List U} {m:List CH} (la:a.length ≤ 4096) (lb:b.length ≤ 4096) (sa:Sst zbt a) (sb:Sst zbt b) (hr:z4i a b = m) {av bv:Value} {w:World} {B:Heap} (hB:B.Le (hp w)) (ha:SetV a av B) (hb:SetV b bv B) :
  Ret Tryz.prog 89 [av, bv] w B (KS tyC m true):=by
 subst hr
 obtain ⟨f1, p1, k1, q1, rfl, hp1⟩:=ha.shape
 obtain ⟨f2, p2, k2, q2, rfl, hp2⟩:=hb.shape
 have w1:=zuu la lb sa sb
 have w2:=zuu lb la sb sa
 have l1:=zyk a b
 have l2:=zyk b a
 have hbp:z4i a b = zj1 ((zeb zbt fWo (a.length + b.length) a b).map (fun t => (t, true)) ++ (zeb zbt fWo (b.length + a.length) b a).map (fun t => (t, false))):=rfl
 rw [hbp]
 generalize zeb zbt fWo (a.length + b.length) a b = G at *
 generalize zeb zbt fWo (b.length + a.length) b a = K at *
 have mG:Kn.mono (.sat (US G true)):=SlV.mono
 have mK:Kn.mono (.sat (US K true)):=SlV.mono
 refine qt Tryz.func89 rfl Tryz.ntmps89 (Nat.le_of_ble_eq_true rfl) hB ?_
 refine Zae ?_;refine Zd ?_;refine Zbt ?_;refine Zex ?_;refine zd (zag (φ:=US a true) L rfl rfl (zk rfl) rfl rfl rfl SlV.mono (fun u H hH hle _ => zjk (by omega) hH (ha.le hle))) rfl ?_;refine Zex ?_;refine zd (zag (φ:=US b true) L rfl rfl (zk rfl) rfl rfl rfl SlV.mono (fun u H hH hle _ => zjk (by omega) hH (hb.le hle))) rfl ?_;refine Zef ?_;refine Zef ?_;refine ZaW ?_;refine Z5 ?_;refine Zl ?_;refine Zl ?_;refine z7 (zag (φ:=LE (G, 0)) L rfl rfl (zk rfl) rfl rfl rfl LE.mono (fun u H hH _ _ v1 h1 v2 h2 => zh4 w1 hH h1 h2)) rfl ?_;refine ZcJ ?_;refine Zaa ?_;refine Zd ?_;refine Zo ?_;refine Zl ?_;refine Zl ?_;refine z7 (zag (φ:=LE (K, 0)) L rfl rfl (zk rfl) rfl rfl rfl LE.mono (fun u H hH _ _ v1 h1 v2 h2 => zh4 w2 hH h1 h2)) rfl ?_;refine ZcJ ?_;refine Zaa ?_;refine Zd ?_;refine Zp ?_;refine Zf ?_
 refine zge 11 tyC 7 rfl ?_
 refine Zw ?_;refine ZbK ?_
 refine zan (fun i:Nat => [(9, .sat (US K true)), (11, .own (SlR tyC 7 ((G.take i).map fun t => ((t, true):CH)).length (((G.take i).map fun t => ((t, true):CH)).flatMap ccs))), (32, .sat (US G true)), (33, .is (.int .i64 G.length)), (34, .is (.int .i64 i))]) (fun i => i ≤ G.length) (fun i => G.length - i) 0 (Nat.zero_le _) ⟨rfl, rfl, rfl, rfl, rfl, trivial⟩ ?_
 rintro i hi
 have hli:((G.take i).map fun t => ((t, true):CH)).length ≤ 8192:=by rw [List.length_map, List.length_take]; omega
 by_cases hlt:i < G.length
 ·obtain ⟨t, ht⟩:=zaw hlt
  have hct:=zi7 ht
  have e1:((G.take (i + 1)).map fun t => ((t, true):CH)) = ((G.take i).map fun t => ((t, true):CH)) ++ [(t, true)]:=by rw [List.take_add_one, ht, List.map_append]; rfl
  refine ZbR ?_;refine ZT ?_;refine ZH ?_;refine ZaU ?_;refine Zec ?_;refine Zbn ?_;refine Z1 ?_;refine ZA ?_;refine q8 (zal (.inl rfl) rfl rfl rfl rfl) ?_;refine ZaH ?_;refine Zey ?_;refine ZR ?_;refine Zez ?_;refine q8 (zal (.inr rfl) rfl rfl rfl rfl) ?_;refine ZcZ ?_;refine Zah ?_;refine ZbJ ?_
  exact qy (x:=i) (i + 1) hlt (by omega) ⟨rfl, by rw [e1]; exact zgm rfl, rfl, rfl, rfl, trivial⟩
 ·obtain rfl:i = G.length:=by omega
  rw [List.take_length]
  have lG:(G.map fun t => ((t, true):CH)).length ≤ 8192:=by rw [List.length_map]; omega
  refine ZbR ?_;refine ZaD ?_;refine zh ?_;refine Zap ?_;refine ZbK ?_
  refine zan (fun j:Nat => [(11, .own (SlR tyC 7 ((G.map fun t => ((t, true):CH)) ++ ((K.take j).map fun t => ((t, false):CH))).length (((G.map fun t => ((t, true):CH)) ++ ((K.take j).map fun t => ((t, false):CH))).flatMap ccs))), (44, .sat (US K true)), (45, .is (.int .i64 K.length)), (46, .is (.int .i64 j))]) (fun j => j ≤ K.length) (fun j => K.length - j) 0 (Nat.zero_le _) ⟨by rw [List.take_zero, List.map_nil, List.append_nil]; rfl, rfl, rfl, rfl, trivial⟩ ?_
  rintro j hj
  have hlj:((G.map fun t => ((t, true):CH)) ++ ((K.take j).map fun t => ((t, false):CH))).length ≤ 16384:=by rw [List.length_append, List.length_map, List.length_map, List.length_take]; omega
  by_cases hjl:j < K.length
  ·obtain ⟨t, ht⟩:=zaw hjl
   have hct:=zi7 ht
   have e1:((G.map fun t => ((t, true):CH)) ++ ((K.take (j + 1)).map fun t => ((t, false):CH))) = ((G.map fun t => ((t, true):CH)) ++ ((K.take j).map fun t => ((t, false):CH))) ++ [(t, false)]:=by rw [List.take_add_one, ht, List.map_append, List.append_assoc]; rfl
   refine zh ?_;refine ZE ?_;refine ZT ?_;refine ZN ?_;refine ZaU ?_;refine Zec ?_;refine Zbn ?_;refine Z1 ?_;refine ZbO ?_;refine q8 (zal (.inl rfl) rfl rfl rfl rfl) ?_;refine ZaH ?_;refine Zey ?_;refine ZR ?_;refine Zez ?_;refine q8 (zal (.inr rfl) rfl rfl rfl rfl) ?_;refine ZcZ ?_;refine Zay ?_;refine ZbJ ?_
   exact qy (x:=j) (j + 1) hjl (by omega) ⟨by rw [e1]; exact zgm rfl, rfl, rfl, rfl, trivial⟩
  ·obtain rfl:j = K.length:=by omega
   rw [List.take_length]
   rw [List.take_length] at hlj
   refine zkp 11 rfl ?_
   refine zh ?_;refine ZE ?_;refine ZaD ?_;refine Zag ?_;refine Zl ?_;refine z7 (zag (φ:=KS tyC (zj1 ((G.map fun t => ((t, true):CH)) ++ (K.map fun t => ((t, false):CH)))) true) L rfl rfl (zk rfl) rfl rfl rfl SlV.mono (fun u H hH _ _ v1 h1 => zp3 rfl (by omega) hH h1)) rfl ?_;refine Zd3 ?_
   refine qq L (rs:=[.tmp 4]) rfl (fun _ _ h => h) Since.refl fun u H hH hle => ?_
   exact fun v hv => hv
end Go.V.L8
set_option maxRecDepth 20000
namespace Go.V.L10
open Go.Proofs Go.RowKit Go.V Go.V.L2 Go.V.L8 Go.V.L6
theorem zwq (S:Sto):zhe fun (x:Nat × Value × Ent) (H:Heap) => MapOK x.2.2 S.R ∧ EsV x.2.2 H ∧ PsV (zc9 S.P) x.2.1 H:=fun _ _ _ ⟨h1, h2, h3⟩ hle => ⟨h1, h2.le hle, h3.le hle⟩
abbrev StG (b:Nat) (S:Sto):GR:=GEx (fun x:Nat × Value × Ent => StO b S.R.length x.1 x.2.1 S.P.length x.2.2) (fun x H => MapOK x.2.2 S.R ∧ EsV x.2.2 H ∧ PsV (zc9 S.P) x.2.1 H) (zwq S)
theorem z1i {S:Sto} {b m:Nat} {s:Value} {es:Ent} {B:Heap} (hm:MapOK es S.R) (hes:EsV es B) (hps:PsV (zc9 S.P) s B):∀ (v:Value) H u C, B.Le H → (StO b S.R.length m s S.P.length es).res.P v H u C → (StG b S).res.P v H u C:=fun _ _ _ _ hle h => ⟨(m, s, es), ⟨hm, hes.le hle, hps.le hle⟩, h⟩
attribute [local irreducible] V N X VO Par StepOK Has Ret RetL RetO RetT zbd RetX RetY Src
end Go.V.L10
set_option maxRecDepth 20000
namespace Go.V.L10
open Go.Proofs Go.RowKit Go.V
theorem z1o {φ:Value → Heap → Prop} {a tv:Value} {H:Heap} (h:φ tv H):TupS [φ, fun v _ => v = a] (.tuple #[tv, a]) H:=by
 refine ⟨[tv, a], rfl, rfl, fun i φ' x hi hx => ?_⟩
 rcases i with _ | _ | i
 ·cases hi; cases hx; exact h
 ·cases hi; cases hx; rfl
 ·cases hi
theorem zt1 {φ:Value → Heap → Prop} {a:Value} (h:Kn.mono (.sat φ)):Kn.mono (.sat (TupS [φ, fun v _ => v = a])):=TupS.mono fun ψ hψ => by
 simp only [List.mem_cons, List.mem_nil_iff, or_false] at hψ
 rcases hψ with rfl | rfl
 ·exact h
 ·exact fun _ _ _ h _ => h
attribute [local irreducible] V N X VO Par StepOK Has Ret RetL RetO RetT zbd RetX Src
end Go.V.L10
set_option maxRecDepth 20000
namespace Go.V.L10
open Go.Proofs Go.RowKit Go.V Go.V.L2 Go.V.L8 Go.V.L6
attribute [local irreducible] V N X VO Par StepOK Has Ret RetL RetO RetT zbd RetX RetY Src
end Go.V.L10
set_option maxRecDepth 20000
namespace Go.V.L10
open Go.Proofs Go.RowKit Go.V Go.V.L2 Go.V.L8 Go.V.L6
abbrev zyq (b:Nat):Value:=.pointer (some ⟨b, 0, none⟩)
abbrev z32 (S:Sto):Res:=zyf zyq fun b => StG b S
theorem zu2 {Y:Type}:MapOK ([]:List (Int × (List U × Y))) []:=⟨List.nodup_nil, fun r => by
 cases h:kpt ([]:List (Option (List U))) r with
 | none => rfl
 | some t => have:=zvf (R:=[]) (r:=r) (by rw [h]; rfl); simp at this; omega⟩
theorem zu3:MapOK [((1:Int), (([]:List U), nilSet))] newS.R:=by
 have h:=(zu2 (Y:=Value)).add [] nilSet
 have h2:=h.1
 rw [h.2] at h2
 exact h2
attribute [local irreducible] V N X VO Par StepOK Has Ret RetL RetO RetT zbd RetX RetY Src
set_option maxHeartbeats 2000000 in
set_option maxRecDepth 20000 in
theorem zwz {w:World} {B:Heap} (hB:B.Le (hp w)):RetO Tryz.prog 42 [] w B (z32 newS):=by
 refine zdp Tryz.func42 rfl Tryz.ntmps42 (Nat.le_of_ble_eq_true rfl) hB ?_
 refine ZZ ?_;refine z7 (zpr (hint:=none) .u64 vcE rfl rfl) rfl ?_;refine ztd 1 901 rfl fun m => ?_;refine Zcs ?_;refine zam (zsa (q:=901) (vc:=vcE) 1 ([], nilSet) mpS kyS rfl rfl rfl rfl rfl rfl rfl) ?_;refine Za ?_;refine z7 (y6 (cs:=[_, _, _, _]) rfl rfl z3n rfl rfl) rfl ?_;refine Zd0 ?_;refine q8 (zal (.inr rfl) rfl rfl rfl rfl) ?_;refine Z1 ?_
 refine za5 0 900 rfl fun b => ?_
 refine zcu 900 901 rfl rfl (zas (z35 m .u64 vcE [((1:Int), (([]:List U), nilSet))])) ?_
 refine z0y 900 (StG b newS).res rfl (fun v H u C hle h => z1i (S:=newS) (s:=.slice none 0 0) (m:=m) (B:=B) zu3 (fun e he => by rw [List.mem_singleton.1 he]; exact SetV.nil) SlV.nil v H u C hle h) ?_
 refine zx7 0 900 zyq (fun b => StG b newS) b rfl rfl ?_
 exact zko rfl (fun _ _ h => h) Since.refl rfl
end Go.V.L10
set_option maxRecDepth 20000
namespace Go.V.L10
open Go.Proofs Go.RowKit Go.V Go.V.L2 Go.V.L8 Go.V.L6
def z45 (rs:List Int):Prop:=(0 :: rs).Pairwise (· < ·)
instance (rs:List Int):Decidable (z45 rs):=inferInstanceAs (Decidable ((0 :: rs).Pairwise (· < ·)))
attribute [local irreducible] V N X VO Par StepOK Has Ret RetL RetO RetT zbd RetX RetY Src
end Go.V.L10
set_option maxRecDepth 20000
namespace Go.V.L10
open Go.Proofs Go.RowKit Go.V Go.V.L2 Go.V.L8 Go.V.L6
attribute [local irreducible] V N X VO Par StepOK Has Ret RetL RetO RetT zbd RetX RetY Src
abbrev tyPS:TypeId:=71
end Go.V.L10
set_option maxRecDepth 20000
namespace Go.V.L10
open Go.Proofs Go.RowKit Go.V Go.V.L2 Go.V.L8 Go.V.L6
attribute [local irreducible] V N X VO Par StepOK Has Ret RetL RetO RetT zbd RetX RetY Src
end Go.V.L10
set_option maxRecDepth 20000
namespace Go.V.L10
open Go.Proofs Go.RowKit Go.V Go.V.L2 Go.V.L8 Go.V.L6
theorem tup3 {φ:Value → Heap → Prop} {a b v:Value} {H:Heap} (h:φ v H):TupS [φ, fun v _ => v = a, fun v _ => v = b] (.tuple #[v, a, b]) H:=by
 refine ⟨[v, a, b], rfl, rfl, fun i ψ x hi hx => ?_⟩
 rcases i with _ | _ | _ | i
 ·cases hi; cases hx; exact h
 ·cases hi; cases hx; rfl
 ·cases hi; cases hx; rfl
 ·cases hi
attribute [local irreducible] V N X VO Par StepOK Has Ret RetL RetO RetT zbd RetX RetY Src
end Go.V.L10
set_option maxRecDepth 20000
namespace Go.V.L10
open Go.Proofs Go.RowKit Go.V Go.V.L2 Go.V.L8 Go.V.L6
attribute [local irreducible] V N X VO Par StepOK Has Ret RetL RetO RetT zbd RetX RetY Src
end Go.V.L10
set_option maxRecDepth 20000
namespace Go.V.L10
open Go.Proofs Go.RowKit Go.V Go.V.L2 Go.V.L8 Go.V.L6
structure OOK (o:OO):Prop where
 wh:o.wh ≤ 255
 rv:o.rv ≤ 255
 ms:∀ c ∈ o.ms, c.1 ≤ 255 ∧ c.2.1 ≤ 255 ∧ c.2.2 ≤ 255
 cs:∀ c ∈ o.cs, c.1 ≤ 255 ∧ c.2.1 ≤ 255 ∧ c.2.2 ≤ 255
 lm:o.ms.length ≤ 9223372036854775807
 lc:o.cs.length ≤ 9223372036854775807
attribute [local irreducible] V N X VO Par StepOK Has Ret RetL RetO RetT zbd RetX RetY Src
theorem rev_ret {o:OO} (ho:OOK o) {mv cv:Value} (hp1:zdh mv = true) (hp2:zdh cv = true) {w:World} {B:Heap} (hB:B.Le (hp w)) :
  Ret Tryz.prog 185 [.agg #[.int .u8 o.wh, mv, cv, .int .u8 o.rv, .int .i64 o.kp]] w B (fun v _ => v = .int .u64 o.rev):=by
 have hrv:=ho.rv
 unfold OO.rev
 refine qt Tryz.func185 rfl Tryz.ntmps185 (Nat.le_of_ble_eq_true rfl) hB ?_
 by_cases h:o.rv = 255
 ·rw [if_pos h]
  refine Zds ?_;refine Zaq ?_;refine Z9 ?_;refine Zdq ?_
  refine qq L (rs:=[.tmp 2]) rfl (fun _ _ h => h) Since.refl fun u H hH hle => ?_
  rfl
 ·rw [if_neg h]
  have hwu:IntKind.u64.wrap (o.rv:Int) = (o.rv:Int):=wrap_u64 (by omega) (by omega)
  refine Zds ?_;refine Zaq ?_;refine ZaN ?_;refine Zo ?_;refine Zch ?_;refine z7 (za2 rfl rfl rfl ze9.1 ze9.2 (wrap_u64 (by omega) (by omega))) rfl ?_;refine Zc ?_
  refine qq L (rs:=[.tmp 2]) rfl (fun _ _ h => h) Since.refl fun u H hH hle => ?_
  rfl
end Go.V.L10
set_option maxRecDepth 20000
namespace Go.V.L10
open Go.Proofs Go.RowKit Go.V Go.V.L2 Go.V.L8 Go.V.L6
attribute [local irreducible] V N X VO Par StepOK Has Ret RetL RetO RetT zbd RetX RetY Src
end Go.V.L10
set_option maxRecDepth 20000
namespace Go.V.L10
open Go.Proofs Go.RowKit Go.V Go.V.L2 Go.V.L8 Go.V.L6
attribute [local irreducible] V N X VO Par StepOK Has Ret RetL RetO RetT zbd RetX RetY Src
end Go.V.L10
set_option maxRecDepth 20000
namespace Go.V.L10
open Go.Proofs Go.RowKit Go.V Go.V.L2 Go.V.L8 Go.V.L6
theorem zzi {S:Sto} {b:Nat} {r:Int} (hn:S.R.length ≠ 0) {w:World} {B:Heap} {C:Nat → Prop} (hB:B.Le (hp w)) (hr:(StG b S).P B w C) (hC:∀ k, C k → k < w.heap.size ∧ B k = none) :
  RetY Tryz.prog 87 [zyq b, .int .u64 r] w B C (StG b S) (WithP (atS S r).1 (atS S r).2) :=
 RetY.ex hr fun _ ⟨hm, hes, _⟩ hr => ztp hm hn hes hB hr hC
theorem zty {S:Sto} {b:Nat} (hn:S.R.length ≠ 0) (hz:(zf9 S.R).length ≤ 100000) {w:World} {B:Heap} {C:Nat → Prop} (hB:B.Le (hp w)) (hr:(StG b S).P B w C) (hC:∀ k, C k → k < w.heap.size ∧ B k = none) :
  RetY Tryz.prog 85 [zyq b] w B C (StG b S) (RsV (zf9 S.R) true) :=
 RetY.ex hr fun _ ⟨hm, _, _⟩ hr => (zxl hm hn (by rw [hm.len]; exact hz) hB hr hC).pubY zq3
abbrev PinsP (P0:List Int):Value → Heap → Prop:=fun v H => ∃ s, v = pnv s P0.length ∧ PsV (zc9 P0) s H
theorem PinsP.mono {P0:List Int}:Kn.mono (.sat (PinsP P0)):=fun _ _ _ ⟨s, h1, h2⟩ hle => ⟨s, h1, h2.le hle⟩
attribute [local irreducible] V N X VO Par StepOK Has Ret RetL RetO RetT zbd RetX RetY Src
theorem ztt {S:Sto} {b:Nat} (hn:S.R.length ≠ 0) {w:World} {B:Heap} {C:Nat → Prop} (hB:B.Le (hp w)) (hr:(StG b S).P B w C) (hC:∀ k, C k → k < w.heap.size ∧ B k = none) :
  RetY Tryz.prog 43 [zyq b] w B C (StG b S) (PinsP S.P):=by
 refine RetY.ex hr fun x hφ hr => ?_
 obtain ⟨m, s, es⟩:=x
 obtain ⟨hm, hes, hps⟩:=hφ
 dsimp only at hm hes hps hr ⊢
 obtain ⟨p, c, rfl⟩:=zcj hps
 unfold RetY
 refine zah 900 (StO b S.R.length m _ S.P.length es) Tryz.func43 rfl Tryz.ntmps43 (Nat.le_of_ble_eq_true rfl) hB hr hC ?_
 rw [zpb]
 refine zdi 900 901 rfl (zas _) ?_
 refine ZaK ?_;refine Zaw ?_;refine Z4 ?_;refine qw (zb8 L 900 (Φ:=fun H => H b = some (.cells (stc S.R.length m (.slice p (zc9 S.P).length c) S.P.length).toArray tyS)) (c:=.bool false) rfl rfl (zk rfl) rfl rfl rfl rfl rfl zlj (fun u H hH hle hb => none_ret hn hb hH)) ?_;refine Zt ?_;refine Zk ?_;refine Zar ?_;refine qw (zaz L (q:=900) (vs:=[_, _]) rfl rfl rfl rfl rfl rfl ⟨_, rfl⟩) ?_;refine ZaY ?_
 refine Zfd ?_
 exact zlu L 900 (r:=StO b S.R.length m (.slice p (zc9 S.P).length c) S.P.length es) (rs:=[.cell 2 112]) rfl (fun _ _ h => h) Since.refl rfl rfl (fun H hle => ⟨_, qk rfl, rfl, _, rfl, hps.le hle⟩)
abbrev s1:Sto:=⟨[some [], some [d0]], []⟩
abbrev s2:Sto:=⟨[some [], some [d0], some [d2]], []⟩
abbrev s3:Sto:=⟨[some [], some [d0], some [d2]], [2]⟩
end Go.V.L10
set_option maxRecDepth 20000
namespace Go.V.L11
open Go.Proofs Go.RowKit Go.V Go.V.L2 Go.V.L4 Go.V.L6 Go.V.L8 Go.V.L10
abbrev WithE (l:List U) (e:Int):Value → Heap → Prop:=TupS [SetV l, fun v _ => v = .int .i64 e]
theorem WithE.mono {l:List U} {e:Int}:Kn.mono (.sat (WithE l e)):=zt1 SetV.mono
theorem ztb {l:List U} {e:Int} {v:Value} {H:Heap} (h:WithP l e v H):WithE l e v H:=by
 obtain ⟨tv, rfl, h2⟩:=h
 exact z1o h2
theorem z0u {S:Sto} {b:Nat} {r:Int} {t:List U} {e:Int} (he:atS S r = (t, e)) (hn:S.R.length ≠ 0) {w:World} {B:Heap} {C:Nat → Prop} (hB:B.Le (hp w)) (hr:(StG b S).P B w C) (hC:∀ k, C k → k < w.heap.size ∧ B k = none) :
  RetY Tryz.prog 87 [zyq b, .int .u64 r] w B C (StG b S) (WithE t e):=by
 have h:=zzi (r:=r) hn hB hr hC
 rw [he] at h
 exact RetY.mono h fun _ _ _ => ztb
theorem zvg:zf9 newS.R = [1]:=by kernel_rfl
theorem z3z:atS newS 1 = ([], 0):=by kernel_rfl
attribute [local irreducible] V N X VO Par XP LV StepOK Has Ret RetL RetO RetT zbd RetX RetY Pan zs3 Src
set_option maxRecDepth 20000 in
theorem zvq {b:Nat} {w:World} {B:Heap} {C:Nat → Prop} (hB:B.Le (hp w)) (hr:(StG b newS).P B w C) (hC:∀ k, C k → k < w.heap.size ∧ B k = none) :
  RetY Tryz.prog 28 [zyq b] w B C (StG b newS) (TupS [BsV [1, 1, 0, 0] true, fun v _ => v = .int .i64 0]):=by
 unfold RetY
 refine zah 910 (StG b newS) Tryz.func28 rfl Tryz.ntmps28 (Nat.le_of_ble_eq_true rfl) hB hr hC ?_
 refine ZcU ?_;refine Z4 ?_;refine qw (zgx L 910 (RsV [1] true) (r:=StG b newS) rfl rfl rfl rfl rfl SlV.mono (fun u H2 C2 hH hle hr2 hC2 => by have h:=zty (S:=newS) (by decide) (by rw [zvg]; decide) hH hr2 hC2; rw [zvg] at h; exact h)) ?_;refine Zaa ?_;refine Zaw ?_;refine Z5 ?_;refine Zx ?_;refine Zep ?_;refine Zt ?_;refine Zp ?_;refine Zb0 ?_
 refine za5 5 900 rfl fun wb => ?_
 refine zh1 901 zs4 1 ?_
 refine Zfo ?_
 refine zlv (X:=Value) 900 (r:=fun sv => (GWv wb [] sv).res) (φ:=fun sv _ => zs2 sv) zeo (.slice none 0 0) ⟨_, _, _, rfl⟩ rfl ?_
 refine Zw ?_;refine Zx ?_;refine z7 (za2 rfl rfl rfl zgc.1 zgc.2 rfl) rfl ?_;refine q8 (zao L 900 (GWr wb [1]) (r:=GWr wb []) rfl rfl rfl rfl rfl (fun u H C hH _ hr hC => by have h:=zdr (n:=1) (by decide) (by decide) hH hr hC; rw [zfk (by decide)] at h; exact h)) ?_;refine Zj ?_;refine Zak ?_;refine Zcs ?_;refine Z6 ?_;refine ZaQ ?_;refine Zan ?_;refine Zaw ?_;refine ZH ?_;refine ZbK ?_
 have hcr:=z3g (l:=[1]) (i:=0) (x:=1) rfl
 refine zan (fun i:Nat => match i with
  | 0 => [(0, .is (zyq b)), (5, .is (za3 wb)), (6, .is (.int .u64 0)), (7, .own (zed [.nilFunc, .pointer none, .nilFunc, .pointer none] tySt)), (25, .sat (RsV [1] true)), (26, .is (.int .i64 1)), (27, .is (.int .i64 0)), (900, .own (GWr wb [1]).res), (910, .own (StG b newS).res)]
  | _ + 1 => [(5, .is (za3 wb)), (26, .is (.int .i64 1)), (27, .is (.int .i64 1)), (900, .own (GWr wb [1, 1, 0, 0]).res), (910, .own (StG b newS).res)]) (fun i => i ≤ 1) (fun i => 1 - i) 0 (by decide) ⟨rfl, rfl, rfl, rfl, rfl, rfl, rfl, rfl, rfl, trivial⟩ ?_
 rintro i hi
 cases i with
 | succ i =>
  dsimp only
  refine zh ?_;refine ZA ?_;refine ZaD ?_;refine Zdg ?_;refine q8 (zn6 L 900 GNo (BsV [1, 1, 0, 0] true) (r:=GWr wb [1, 1, 0, 0]) rfl rfl rfl rfl rfl SlV.mono (fun u H C hH _ hr hC => zlo (zky (by decide) hH hr hC))) ?_;refine Zaa ?_;refine Zc ?_
  exact zlu L 910 (r:=StG b newS) (rs:=[.tmp 2, .tmp 3]) rfl (fun _ _ h => h) Since.refl rfl rfl (fun H _ v hv => z1o hv)
 | zero =>
  dsimp only
  have hms:Kn.mono (.sat (SetV ([]:List U))):=SetV.mono
  have hmi:Kn.mono (.sat (fun v _ => v = Value.int .i64 0)):=fun _ _ _ h _ => h
  refine zh ?_;refine ZA ?_;refine ZT ?_;refine Zah ?_;refine ZaU ?_;refine ZeM ?_;refine Zd ?_;refine Zc6 ?_;refine qw (zgx L 910 (WithE [] 0) (r:=StG b newS) rfl rfl rfl rfl rfl WithE.mono (fun u H2 C2 hH hle hr2 hC2 => z0u z3z (by decide) hH hr2 hC2)) ?_;refine ZcJ ?_;refine Z6 ?_;refine z7 (zjy L (X:=SXp) (fun x => scs x.1) (ztu []) (zcr _) ztz (fun x => ⟨rfl, x.2⟩) rfl rfl rfl rfl rfl) rfl ?_;refine Zd ?_
  refine zid 10 rfl fun x H1 hs1 hset => ?_
  obtain ⟨⟨f1, p1, f2, p2⟩, hpl⟩:=x
  dsimp only [scs] at hset hpl ⊢
  have hws:IntKind.u64.wrap (1 - 0) = 1:=by decide
  refine ZE ?_;refine Z8 ?_;refine q8 (zao L 900 (GWr wb [1, 1]) (r:=GWr wb [1]) rfl rfl rfl rfl rfl (fun u H C hH _ hr hC => by have h:=zdr (n:=1) (by decide) (by decide) hH hr hC; rw [zfk (by decide)] at h; exact h)) ?_;refine Zj ?_;refine Zdz ?_;refine qw (zgx L 910 (PinsP newS.P) (r:=StG b newS) rfl rfl rfl rfl rfl PinsP.mono (fun u H2 C2 hH hle hr2 hC2 => ztt (S:=newS) (by decide) hH hr2 hC2)) ?_;refine Za ?_;refine z7 (zp (r:=.int .i64 0) L rfl rfl (zk rfl) rfl rfl rfl (fun u H hH hle _ v1 h1 => by obtain ⟨sv, rfl, hsv⟩:=h1; exact L10.count_ret (L0:=[]) (r:=1) (by decide) hH hsv)) rfl ?_;refine z7 (za2 rfl rfl rfl zgc.1 zgc.2 (wrap_u64 (by omega) (by omega))) rfl ?_;refine q8 (zao L 900 (GWr wb [1, 1, 0]) (r:=GWr wb [1, 1]) rfl rfl rfl rfl rfl (fun u H C hH _ hr hC => by have h:=zdr (n:=0) (by decide) (by decide) hH hr hC; rw [zfk (by decide)] at h; exact h)) ?_;refine Zj ?_
  refine ZbO ?_;refine Zbb ?_;refine Zbb ?_;refine z7 (zag (φ:=KS tyC [] true) L rfl rfl (zk rfl) rfl rfl rfl SlV.mono (fun u H hH hle _ => zon (a:=[]) (b:=[]) (m:=[]) (by decide) (by decide) List.Pairwise.nil List.Pairwise.nil (by kernel_rfl) hH SetV.nil (hset.le hle))) rfl ?_;refine Zdd ?_;refine Zay ?_;refine Zx ?_;refine z7 (za2 rfl rfl rfl zgc.1 zgc.2 rfl) rfl ?_;refine q8 (zao L 900 (GWr wb [1, 1, 0, 0]) (r:=GWr wb [1, 1, 0]) rfl rfl rfl rfl rfl (fun u H C hH _ hr hC => by have h:=zdr (n:=0) (by decide) (by decide) hH hr hC; rw [zfk (by decide)] at h; exact h)) ?_;refine Zaw ?_;refine Zag ?_;refine ZbK ?_
  refine zan (fun _:Nat => [(5, .is (za3 wb)), (7, .own (zed [.nilFunc, .pointer none, .nilFunc, .pointer none] tySt)), (9, .is (.int .u64 1)), (10, .own (zed [f1, .pointer p1, f2, .pointer p2] tySt)), (26, .is (.int .i64 1)), (27, .is (.int .i64 0)), (55, .is (.int .i64 0)), (56, .is (.int .i64 0)), (900, .own (GWr wb [1, 1, 0, 0]).res), (910, .own (StG b newS).res)]) (fun _ => True) (fun i => i) 0 trivial ⟨rfl, rfl, rfl, rfl, rfl, rfl, rfl, rfl, rfl, rfl, trivial⟩ ?_
  rintro _ _
  refine zh ?_;refine Zaj ?_;refine ZfY ?_;refine Zfx ?_;refine zj ?_;refine q4 (id:=20) [] mixed (by kernel_rfl) ?_;refine Zh ?_;refine Ze2 ?_;refine Za2 ?_;refine zd (qd L rfl rfl rfl rfl rfl rfl (by assumption) rfl) rfl ?_;refine Zco ?_;refine Zct ?_;refine ZM ?_;refine Zdm ?_
  exact zhd (x:=0) 1 hs1 (by decide) (by decide) ⟨rfl, rfl, rfl, rfl, rfl, trivial⟩
end Go.V.L11
set_option maxRecDepth 20000
namespace Go.V.L11
open Go.Proofs Go.RowKit Go.V Go.V.L2 Go.V.L4 Go.V.L6
attribute [local irreducible] V N X VO Par XP LV StepOK Has Ret RetL RetO RetT zbd RetX RetY Pan zs3 Src
theorem zl9 {w:World} {B:Heap} (hB:B.Le (hp w)):Ret Tryz.prog 32 [nilSet] w B (BsV [0] true):=by
 refine qt Tryz.func32 rfl Tryz.ntmps32 (Nat.le_of_ble_eq_true rfl) hB ?_
 refine Zbk ?_;refine Zn ?_;refine Zb0 ?_
 refine za5 3 900 rfl fun wb => ?_
 refine zh1 901 zs4 1 ?_
 refine Zfo ?_
 refine zlv (X:=Value) 900 (r:=fun sv => (GWv wb [] sv).res) (φ:=fun sv _ => zs2 sv) zeo (.slice none 0 0) ⟨_, _, _, rfl⟩ rfl ?_
 refine Z5 ?_;refine Zdf ?_;refine z7 (zp L rfl rfl (zk rfl) rfl rfl rfl (fun u H hH _ _ => zdj (l:=[]) (n:=0) rfl hH SetV.nil)) rfl ?_;refine z7 (za2 rfl rfl rfl zgc.1 zgc.2 (wrap_u64 (by omega) (by omega))) rfl ?_;refine q8 (zao L 900 (GWr wb [0]) (r:=GWr wb []) rfl rfl rfl rfl rfl (fun u H C hH _ hr hC => by have h:=zdr (n:=0) (by decide) (by decide) hH hr hC; rw [zfk (by decide)] at h; exact h)) ?_;refine Zaw ?_;refine Zo ?_;refine Zdf ?_;refine z7 (zag (φ:=US [] true) L rfl rfl (zk rfl) rfl rfl rfl SlV.mono (fun u H hH _ _ => zjk (l:=[]) (by decide) hH SetV.nil)) rfl ?_;refine Zfy ?_;refine Zfi ?_
 refine zan (fun _:Nat => [(12, .is (.int .i64 0)), (13, .is (.int .i64 0)), (3, .is (za3 wb)), (900, .own (GWr wb [0]).res)]) (fun _ => True) (fun i => i) 0 trivial ⟨rfl, rfl, rfl, rfl, trivial⟩ ?_
 rintro _ _
 refine Zce ?_;refine ZaD ?_;refine ZA ?_;refine q8 (zn6 L 900 GNo (BsV [0] true) (r:=GWr wb [0]) rfl rfl rfl rfl rfl SlV.mono (fun u H C hH _ hr hC => zlo (zky (by decide) hH hr hC))) ?_;refine Zd3 ?_
 exact qq L (rs:=[.tmp 2]) rfl (fun _ _ h => h) Since.refl (fun _ H _ _ v hv => hv)
end Go.V.L11
set_option maxRecDepth 20000
namespace Go.V
open Go.RowKit
abbrev zy3 (s:ByteArray):List Value:=s.data.toList.map fun c:UInt8 => Value.int .u8 (c.toNat:Int)
section
variable {P:Program} {F:Fr} {B:Heap} {O:Boxes} {n:Nat} {ops:Array Oper} {κ:Kap} {d:Nat} {ty:TypeId} {pos:String} {aft:Array Edge} {g:Option (Nat × Bool)} {x:Operand} {s:ByteArray}
theorem zuk {src dst e:TypeId} (hn:Nat.blt d n = true) (hg:gK ops κ ⟨some d, .convert src dst x, ty, pos, aft, g⟩ = some true) (hx:evK κ x = some (.string s)) (hs:P.underlying src = some .string) (hd:P.underlying dst = some (.slice e)) (he:P.underlying e = some (.int .u8)) :
  StepOK P F B n ops O κ ⟨some d, .convert src dst x, ty, pos, aft, g⟩ d (.sat (SlV e 1 (zy3 s) s.size false)):=by
 rintro κ' a u hl ⟨H, fp, hh⟩
 unfold After
 rw [if_pos (zai hh hl hg)]
 have en:=hh.env hl
 have h1:=en.is_ x _ (by simp [Op.operands]) hx
 have hr:=run_bytes_of_string (P:=P) u src dst e s hs hd he
 generalize hcap:grownCap u s.size 0 e = cap at hr
 generalize hfr:((bytesRow s cap).size, (bytesRow s cap).size + 1) = fr at hr
 have hrun:(execOp a.eval ⟨some d, .convert src dst x, ty, pos, aft, g⟩).run P u = .ok (.value (.slice (some ⟨u.heap.size, 0, none⟩) s.size cap)) (u.drew.alloc (.cells (bytesRow s cap) e fr)):=by
  simp only [execOp, h1, Sem.run_bind, hr, Result.andThen_ok]; rfl
 rw [hrun]
 simp only [Upon]
 have hcl:s.size ≤ cap:=by subst hcap; exact grownCap_ge u s.size 0 e
 have hg2:=(hh.drew).grow (Grow.hid (hh.drew).sub (.cells (bytesRow s cap) e fr))
 have hval:(a.put (some d) (.slice (some ⟨u.heap.size, 0, none⟩) s.size cap)).eval (.tmp d) = .slice (some ⟨u.heap.size, 0, none⟩) s.size cap:=zay (by rw [hh.size]; exact zk hn)
 have h2:=hg2.putR (d:=d) (r:=⟨fun v H u' C => v = .slice (some ⟨u.heap.size, 0, none⟩) s.size cap ∧ C u.heap.size, fun h _ _ _ _ => h⟩) (C:=fun k => k = u.heap.size) (a':=a.put (some d) (.slice (some ⟨u.heap.size, 0, none⟩) s.size cap)) (by simp [Act.put]) rfl (fun t ht => zat ht) ⟨hval, rfl⟩ (fun k hk => by
  subst hk
  exact ⟨zac (zaq u.drew _), za9 hh.sub (Nat.le_refl _), .inl hh.keep.size, fun y hy e => by have:=zac (hh.boxes y hy).1; omega⟩) fun t r' _ ht k hf hk => by
  have:=((hh.slot t _ ht).2 k hf).1
  omega
 obtain ⟨H', h3⟩:=h2.pub (t:=d) (b:=u.heap.size) (φ:=SlV e 1 (zy3 s) s.size false) (zak ..) (zaq u.drew _) (by simp [fpu]) SlV.mono fun H' _ hb => by
  rw [hval]
  refine ⟨by rw [List.length_map, Array.length_toList, Nat.mul_one]; rfl, .inr ⟨u.heap.size, 0, cap, _, _, _, rfl, hb, ?_, hcl, fun h => by cases h⟩⟩
  rw [List.drop_zero, List.length_map]
  unfold bytesRow
  rw [Array.toList_append, Array.toList_map, List.take_append_of_le_length (by simp)]
  rw [List.take_of_length_le (by simp)]
 rw [zbw] at h3
 exact ⟨H', _, h3⟩
end
end Go.V
set_option maxRecDepth 20000
namespace Go.V
open Go.RowKit Go.V.L4
section
variable {P:Program} {F:Fr} {B:Heap} {O:Boxes} {n:Nat} {ops:Array Oper} {κ:Kap} {d q:Nat} {ty:TypeId} {pos:String} {aft:Array Edge} {g:Option (Nat × Bool)} {src dst e:TypeId}
theorem zn5 {bs:List Nat} {fu:Bool} (hb:∀ b ∈ bs, b ≤ 255) (hn:Nat.blt d n = true) (hg:gK ops κ ⟨some d, .convert src dst (.tmp q), ty, pos, aft, g⟩ = some true) (hx:κ q = some (.sat (BsV bs fu))) (hs:P.underlying src = some (.slice e)) (he:P.underlying e = some (.int .u8)) (hd:P.underlying dst = some .string) :
  StepOK P F B n ops O κ ⟨some d, .convert src dst (.tmp q), ty, pos, aft, g⟩ d (.is (.string (zfa bs))) :=
 zax rfl (by simpa using hn) hg trivial fun a u H fp en => ⟨_, by
  have key:(convert src dst (a.eval (.tmp q))).run P u = .ok (.string (zfa bs)) u:=by
   obtain ⟨hl, ⟨h0, p, hv⟩ | ⟨b, off, cap, cs, ty0, fr, hv, h2, h3, h4, _⟩⟩:=en.sat_ q _ (by simp [Op.operands]) hx
   ·have hb0:bs = []:=List.eq_nil_of_length_eq_zero h0
    subst hb0
    rw [hv]
    cases p with
    | none => exact run_convert_bytes_nil u src e hs he _ _ dst hd
    | some a0 => exact run_convert_bytes_back (P:=P) u src dst e a0 0 [] hs he hd (fun j hj => by cases hj)
   ·rw [hv]
    have hlen:(bs.map UInt8.ofNat).length = bs.length:=List.length_map _
    have hr:=run_convert_bytes_back (P:=P) u src dst e ⟨b, off, none⟩ cap (bs.map UInt8.ofNat) hs he hd (fun j hj => by
     rw [hlen] at hj
     obtain ⟨z, hz⟩:=zaw hj
     have hj2:(bs.map fun b:Nat => Value.int .u8 (b:Int))[j]? = some (.int .u8 (z:Int)):=by rw [List.getElem?_map, hz]; rfl
     have h5:=AtP.get h3 hj2
     rw [zc7, za1 (en.sub _ _ h2)]
     have h6:((bs.map UInt8.ofNat)[j]'(by rw [hlen]; exact hj)).toNat = z:=by
      have hzb:=hb z (List.mem_of_getElem? hz)
      rw [List.getElem_map, zib hz]
      simp
      omega
     rw [h6]
     simpa using h5)
    rw [hlen] at hr
    exact hr
  simp only [execOp, Sem.run_bind, Sem.run_pure, key, Result.andThen_ok], rfl⟩
end
end Go.V
set_option maxRecDepth 20000
namespace Go.V.L11
open Go.Proofs Go.RowKit Go.V Go.V.L2 Go.V.L4 Go.V.L6 Go.V.L8 Go.V.L10
theorem _root_.Go.V.Zff {A B:Prop} (h:B) (t:Wr B → A:=by intro h; refine z7 (zcn L _ rfl rfl rfl rfl rfl rfl rfl (by omega)) rfl ?_;exact h.h):A:=t ⟨h⟩
theorem _root_.Go.V.ZfG {A B:Prop} (h:B) (t:Wr B → A:=by intro h; refine Za ?_;refine z7 (zpq rfl rfl rfl rfl z39 rfl rfl) rfl ?_;exact h.h):A:=t ⟨h⟩
theorem _root_.Go.V.ZfH {A B:Prop} (h:B) (t:Wr B → A:=by intro h; refine Zaq ?_;refine z7 (zuk rfl rfl rfl rfl rfl rfl) rfl ?_;exact h.h):A:=t ⟨h⟩
abbrev z38:ByteArray:=⟨#[100, 111, 99, 58, 97, 35, 118, 105, 101, 119, 101, 114, 64, 117, 115, 101, 114, 58, 120]⟩
abbrev z4r:ByteArray:=⟨#[100, 111, 99, 58, 98, 35, 118, 105, 101, 119, 101, 114, 64, 117, 115, 101, 114, 58, 120]⟩
abbrev z36:ByteArray:=⟨#[100, 111, 99, 58, 97, 35, 118, 105, 101, 119, 101, 114, 64, 117, 115, 101, 114, 58, 120, 10]⟩
abbrev z4q:ByteArray:=⟨#[43, 100, 111, 99, 58, 97, 35, 118, 105, 101, 119, 101, 114, 64, 117, 115, 101, 114, 58, 120, 10, 45, 100, 111, 99, 58, 98, 35, 118, 105, 101, 119, 101, 114, 64, 117, 115, 101, 114, 58, 120, 10]⟩
def wrS:List ByteArray:=[⟨#[0]⟩, ⟨#[1, 0]⟩, ⟨#[1, 1, 0, 0, 7]⟩, ⟨#[1, 1]⟩]
def wrA:List Int:=[0, 1, 4, 2]
theorem z4z:zni [d0] = (z36, 0):=by decide +kernel
theorem z42:znh [(d0, false), (d2, true)] = (z4q, 0):=by decide +kernel
theorem z41:zfb ptA z38 = ([], 1, 5):=by decide +kernel
theorem z40:zfb prC z36 = ([], 1, 5):=by kernel_rfl
theorem zei {l:List U} {fu:Bool} {s:ByteArray} {e:Int} (h:zni l = (s, e)) (hz:∀ t ∈ l, TZ t) (hs:∀ t ∈ l, (zef t).size ≤ 1000) {v:Value} {w:World} {B:Heap} (hB:B.Le (hp w)) (hv:US l fu v B) :
  Ret Tryz.prog 12 [v] w B (fun r _ => r = .tuple #[.string s, .int .i64 e]):=by
 have:=zs8 hz hs hB hv
 rw [h] at this
 exact this
theorem zds {l:List CH} {fu:Bool} {s:ByteArray} {e:Int} (h:znh l = (s, e)) (hz:∀ t ∈ l, TZ t.1) (hs:∀ t ∈ l, (zeg t).size ≤ 1000) {v:Value} {w:World} {B:Heap} (hB:B.Le (hp w)) (hv:KS tyC l fu v B) :
  Ret Tryz.prog 13 [v] w B (fun r _ => r = .tuple #[.string s, .int .i64 e]):=by
 have:=zrt hz hs hB hv
 rw [h] at this
 exact this
theorem zi4 {s:ByteArray} {l:List U} {n:Nat} {e:Int} (h:zfb ptA s = (l, n, e)) (hs:s.size ≤ 1000000) {w:World} {B:Heap} (hB:B.Le (hp w)) (hM:GlobM B) :
  Ret Tryz.prog 16 [.string s] w B (TupS [US l true, fun v _ => v = .int .i64 n, fun v _ => v = .int .i64 e]):=by
 have:=zrq hs hB hM
 rw [h] at this
 exact this
theorem zga {s:ByteArray} {l:List CH} {n:Nat} {e:Int} (h:zfb prC s = (l, n, e)) (hs:s.size ≤ 1000000) {w:World} {B:Heap} (hB:B.Le (hp w)) (hM:GlobM B) :
  Ret Tryz.prog 17 [.string s] w B (TupS [KS tyC l true, fun v _ => v = .int .i64 n, fun v _ => v = .int .i64 e]):=by
 have:=zly hs hB hM
 rw [h] at this
 exact this
abbrev LdE (a e:Int):Value → Heap → Prop:=fun r _ => r = .tuple #[.pointer none, .int .i64 a, .int .i64 e]
theorem wl0 {v:Value} {w:World} {B:Heap} (hB:B.Le (hp w)) (hv:BsV [0] false v B):Ret Tryz.prog 26 [v] w B (LdE 0 5) :=
 zu7 (bs:=[0]) (R1:=⟨1, 0, 0⟩) (by decide) (by decide) (by kernel_rfl) rfl hB hv
theorem wl1 {v:Value} {w:World} {B:Heap} (hB:B.Le (hp w)) (hv:BsV [1, 0] false v B):Ret Tryz.prog 26 [v] w B (LdE 1 5) :=
 zu6 (bs:=[1, 0]) (n1:=1) (R1:=⟨1, 0, 0⟩) (R2:=⟨2, 0, 0⟩) (by decide) (by decide) (by kernel_rfl) rfl (by decide) (by decide) (by kernel_rfl) rfl hB hv
theorem wl2 {v:Value} {w:World} {B:Heap} (hB:B.Le (hp w)) (hv:BsV [1, 1, 0, 0, 7] false v B):Ret Tryz.prog 26 [v] w B (LdE 4 5) :=
 zu8 (bs:=[1, 1, 0, 0, 7]) (st:=1) (R1:=⟨1, 0, 0⟩) (R2:=⟨2, 0, 0⟩) (R3:=⟨3, 0, 0⟩) (R4:=⟨4, 0, 0⟩) (by decide) (by decide) (by kernel_rfl) rfl (by decide) (by kernel_rfl) rfl (by decide) (by decide) (by decide) (by kernel_rfl) rfl (by decide) (by kernel_rfl) rfl (by decide) (by decide) hB hv
theorem wl3 {v:Value} {w:World} {B:Heap} (hB:B.Le (hp w)) (hv:BsV [1, 1] false v B):Ret Tryz.prog 26 [v] w B (LdE 2 17) :=
 zsi (bs:=[1, 1]) (n1:=1) (x:=0) (st:=1) (R1:=⟨1, 0, 0⟩) (R2:=⟨2, 0, 0⟩) (R3:=⟨2, 2, 17⟩) (by decide) (by decide) (by kernel_rfl) rfl (by decide) (by decide) (by kernel_rfl) rfl (by decide) (by decide) (by decide) (by kernel_rfl) (by decide) hB hv
attribute [local irreducible] V N X VO Par XP LV StepOK Has Ret RetL RetO RetT zbd RetX RetY Pan zs3 Src
set_option maxHeartbeats 8000000 in
set_option maxRecDepth 20000 in
theorem zdx {w:World} {B:Heap} (hB:B.Le (hp w)) (hM:GlobM B):Ret Tryz.prog 9 [] w B (fun v _ => v = .bool true):=by
 have p0:ptA z38 = (d0, 0):=by decide +kernel
 have p2:ptA z4r = (d2, 0):=by decide +kernel
 have z0:TZ d0:=zyn (by decide)
 have z2:TZ d2:=zyn (by decide)
 have hz1:∀ t ∈ [d0], TZ t:=fun t ht => by rw [List.mem_singleton] at ht; subst ht; exact z0
 have hz2:∀ t ∈ [((d0, false):CH), (d2, true)], TZ t.1:=fun t ht => by
  simp only [List.mem_cons, List.not_mem_nil, or_false] at ht
  rcases ht with rfl | rfl
  ·exact z0
  ·exact z2
 have hs1:∀ t ∈ [d0], (zef t).size ≤ 1000:=by decide +kernel
 have hs2:∀ t ∈ [((d0, false):CH), (d2, true)], (zeg t).size ≤ 1000:=by decide +kernel
 have k1:Kn.mono (.sat (US ([]:List U) true)):=SlV.mono
 have k2:Kn.mono (.sat (KS tyC ([]:List CH) true)):=SlV.mono
 have k3:Kn.mono (.sat (BsV [1, 1, 0, 0] true)):=SlV.mono
 refine qt Tryz.func9 rfl Tryz.ntmps9 (Nat.le_of_ble_eq_true rfl) hB ?_
 refine ZZ ?_;refine z7 (zp L rfl rfl (zk rfl) rfl rfl rfl (fun u H hH _ _ => zgg p0 (Nat.le_of_ble_eq_true rfl) hH)) rfl ?_;refine ZeX ?_;refine Zd ?_;refine Z5 ?_;refine z7 (zp L rfl rfl (zk rfl) rfl rfl rfl (fun u H hH _ _ => zgg p2 (Nat.le_of_ble_eq_true rfl) hH)) rfl ?_;refine ZeX ?_;refine Zd ?_;refine Zo ?_;refine ZaH ?_;refine ZR ?_;refine z7 (zp L rfl rfl (zk rfl) rfl rfl rfl (fun u H hH hle _ v1 h1 => zei z4z hz1 hs1 hH (h1.toV (n:=1) rfl))) rfl ?_;refine ZP ?_;refine Zp ?_;refine ZaH ?_;refine Zey ?_;refine ZaH ?_;refine Zey ?_;refine ZR ?_;refine z7 (zp L rfl rfl (zk rfl) rfl rfl rfl (fun u H hH hle _ v1 h1 => zds z42 hz2 hs2 hH (h1.toV (n:=2) rfl))) rfl ?_;refine Zck ?_;refine Zw ?_;refine ZdQ ?_;refine Zal ?_;refine Zb ?_;refine z7 (zmi rfl rfl rfl rfl rfl) rfl ?_;refine ZcS ?_;refine z7 (zmi rfl rfl rfl rfl rfl) rfl ?_;refine Zai ?_
 refine ZH ?_;refine z7 (zag (φ:=TupS [US ([]:List U) true, fun v _ => v = .int .i64 1, fun v _ => v = .int .i64 5]) L rfl rfl (zk rfl) rfl rfl rfl (zda SlV.mono) (fun u H hH hle _ => zi4 z41 (Nat.le_of_ble_eq_true rfl) hH (hM.mono hle))) rfl ?_;refine ZcJ ?_;refine ZcH ?_;refine Zaa ?_;refine Zau ?_;refine ZS ?_;refine z7 (zag (φ:=TupS [KS tyC ([]:List CH) true, fun v _ => v = .int .i64 1, fun v _ => v = .int .i64 5]) L rfl rfl (zk rfl) rfl rfl rfl (zda SlV.mono) (fun u H hH hle _ => zga z40 (Nat.le_of_ble_eq_true rfl) hH (hM.mono hle))) rfl ?_;refine ZcJ ?_;refine ZcH ?_;refine Zaa ?_;refine Zau ?_;refine Zah ?_;refine Zb0 ?_
 refine Zap ?_;refine z7 (zc5 L rfl rfl (zk rfl) rfl rfl rfl (fun u H hH hle _ => zwz hH)) rfl ?_;refine zfe 72 900 rfl fun b => ?_;refine qw (zgx L 900 (TupS [BsV [1, 1, 0, 0] true, fun v _ => v = .int .i64 0]) (r:=StG b newS) rfl rfl rfl rfl rfl (zt1 SlV.mono) (fun u H2 C2 hH hle hr2 hC2 => zvq hH hr2 hC2)) ?_;refine ZcJ ?_;refine Zaa ?_;refine Zf ?_
 refine ZaZ ?_;refine Zal ?_;refine Zb ?_;refine Zbw ?_;refine Zb ?_;refine Zbw ?_;refine Zb ?_;refine Zbw ?_;refine Za ?_;refine Zbb ?_;refine z7 (zag (φ:=BsV [0] true) L rfl rfl (zk rfl) rfl rfl rfl SlV.mono (fun u H hH hle _ => zl9 hH)) rfl ?_;refine z7 (zn5 (bs:=[0]) (fu:=true) (by decide) rfl rfl rfl rfl rfl rfl) rfl ?_;refine z7 (zmi rfl rfl rfl rfl rfl) rfl ?_;refine ZcS ?_;refine Zbw ?_;refine Za ?_;refine Zl ?_;refine z7 (zn5 (bs:=[1, 1, 0, 0]) (fu:=true) (by decide) rfl rfl rfl rfl rfl rfl) rfl ?_;refine z7 (zmi rfl rfl rfl rfl rfl) rfl ?_;refine Zai ?_
 refine ZbO ?_;refine ZR ?_;refine Zdd ?_;refine Zay ?_;refine ZR ?_;refine Zaa ?_;refine Zaw ?_;refine Zag ?_;refine Zaf ?_
 refine zv6 18 (SlB (wrS.map Value.string) 9 4) rfl SlB.mono (fun _ _ h => by unfold wrS; exact h) ?_
 refine zv6 19 (SlB (wrA.map (Value.int .i64)) tyI 4) rfl SlB.mono (fun _ _ h => by unfold wrA; exact h) ?_
 refine zan (fun i:Nat => [(18, .sat (SlB (wrS.map Value.string) 9 4)), (19, .sat (SlB (wrA.map (Value.int .i64)) tyI 4)), (20, .is (.int .i64 i))]) (fun i => i ≤ 4) (fun i => 4 - i) 0 (Nat.zero_le _) ⟨rfl, rfl, rfl, trivial⟩ ?_
 rintro i hi
 have hcases:i = 0 ∨ i = 1 ∨ i = 2 ∨ i = 3 ∨ i = 4:=by omega
 rcases hcases with rfl | rfl | rfl | rfl | rfl
 ·have hcs:(wrS.map Value.string)[0 * 1]? = some (.string ⟨#[0]⟩):=rfl
  have hca:(wrA.map (Value.int .i64))[0 * 1]? = some (.int .i64 0):=rfl
  refine Ze ?_;refine ZbQ ?_;refine ZbB ?_;refine Zed ?_;refine Zf ?_;refine ZdO ?_;refine ZaN ?_;refine Zct ?_;refine ZbZ ?_;refine z7 (zcn L 0 rfl rfl rfl rfl rfl rfl rfl (by omega)) rfl ?_;refine ZfH ?_;refine z7 (zp L rfl rfl (zk rfl) rfl rfl rfl (fun u H hH hle _ v1 h1 => wl0 hH h1)) rfl ?_;refine Zbl ?_;refine Za4 ?_;refine Zdg ?_;refine ZfG ?_;refine Zb ?_;refine ZbZ ?_;refine z7 (zcn L 0 rfl rfl rfl rfl rfl rfl rfl (by omega)) rfl ?_;refine Zaq ?_;refine Zbw ?_;refine Zr ?_;refine Zbw ?_;refine Zbj ?_;refine Zcb ?_;refine Za6 ?_
  exact qy (x:=0) 1 (by decide) (by decide) ⟨rfl, rfl, rfl, trivial⟩
 ·have hcs:(wrS.map Value.string)[1 * 1]? = some (.string ⟨#[1, 0]⟩):=rfl
  have hca:(wrA.map (Value.int .i64))[1 * 1]? = some (.int .i64 1):=rfl
  refine Ze ?_;refine ZbQ ?_;refine ZbB ?_;refine Zed ?_;refine Zf ?_;refine ZdO ?_;refine ZaN ?_;refine Zct ?_;refine ZbZ ?_;refine Zff ?_;refine ZfH ?_;refine z7 (zp L rfl rfl (zk rfl) rfl rfl rfl (fun u H hH hle _ v1 h1 => wl1 hH h1)) rfl ?_;refine Zbl ?_;refine Za4 ?_;refine Zdg ?_;refine ZfG ?_;refine Zb ?_;refine ZbZ ?_;refine Zff ?_;refine Zaq ?_;refine Zbw ?_;refine Zr ?_;refine Zbw ?_;refine Zbj ?_;refine Zcb ?_;refine Za6 ?_
  exact qy (x:=1) 2 (by decide) (by decide) ⟨rfl, rfl, rfl, trivial⟩
 ·have hcs:(wrS.map Value.string)[2 * 1]? = some (.string ⟨#[1, 1, 0, 0, 7]⟩):=rfl
  have hca:(wrA.map (Value.int .i64))[2 * 1]? = some (.int .i64 4):=rfl
  refine Ze ?_;refine ZbQ ?_;refine ZbB ?_;refine Zed ?_;refine Zf ?_;refine ZdO ?_;refine ZaN ?_;refine Zct ?_;refine ZbZ ?_;refine Zff ?_;refine ZfH ?_;refine z7 (zp L rfl rfl (zk rfl) rfl rfl rfl (fun u H hH hle _ v1 h1 => wl2 hH h1)) rfl ?_;refine Zbl ?_;refine Za4 ?_;refine Zdg ?_;refine ZfG ?_;refine Zb ?_;refine ZbZ ?_;refine Zff ?_;refine Zaq ?_;refine Zbw ?_;refine Zr ?_;refine Zbw ?_;refine Zbj ?_;refine Zcb ?_;refine Za6 ?_
  exact qy (x:=2) 3 (by decide) (by decide) ⟨rfl, rfl, rfl, trivial⟩
 ·have hcs:(wrS.map Value.string)[3 * 1]? = some (.string ⟨#[1, 1]⟩):=rfl
  have hca:(wrA.map (Value.int .i64))[3 * 1]? = some (.int .i64 2):=rfl
  refine Ze ?_;refine ZbQ ?_;refine ZbB ?_;refine Zed ?_;refine Zf ?_;refine ZdO ?_;refine Z9 ?_;refine Zz ?_;refine Za1 ?_;refine Zd ?_;refine Zct ?_;refine ZbZ ?_;refine Zff ?_;refine ZfH ?_;refine z7 (zp L rfl rfl (zk rfl) rfl rfl rfl (fun u H hH hle _ v1 h1 => wl3 hH h1)) rfl ?_;refine Zbl ?_;refine Za4 ?_;refine Zdg ?_;refine ZfG ?_;refine Zb ?_;refine ZbZ ?_;refine Zff ?_;refine Zaq ?_;refine Zbw ?_;refine Zr ?_;refine Zbw ?_;refine Zbj ?_;refine Zcb ?_;refine Za6 ?_
  exact qy (x:=3) 4 (by decide) (by decide) ⟨rfl, rfl, rfl, trivial⟩
 ·refine Ze ?_;refine ZbQ ?_;refine Z7 ?_;refine Zbd ?_;refine ZbG ?_;refine Zc ?_
  refine qq L (rs:=[.tmp 0]) rfl (fun _ _ h => h) Since.refl fun u H hH hle => ?_
  rfl
end Go.V.L11
set_option maxRecDepth 20000
namespace Go.V.L11
open Go.Proofs Go.RowKit Go.V Go.V.L2 Go.V.L3 Go.V.L6 Go.V.L8
attribute [local irreducible] V N X VO Par StepOK Has Ret RetL RetO RetT Src
end Go.V.L11
set_option maxRecDepth 20000
namespace Go.V.L11
open Go.Proofs Go.RowKit Go.V Go.V.L2 Go.V.L4 Go.V.L8 Go.V.Bd
theorem zjf (s:ByteArray) (l:List Nat):zfa (zfr s ++ l) = s ++ zfa l:=by
 apply zbf
 rw [zar]
 unfold zfa zfr
 simp only [List.map_append, List.map_map]
 show List.map (UInt8.ofNat ∘ fun c => c.toNat) s.data.toList ++ _ = s.data.toList ++ _
 rw [List.map_congr_left (g:=id) fun c _ => by simp, List.map_id]
theorem zxh (t:U):zef t = tT t ++ sNl:=by
 unfold zef
 exact zbf (by simp [zar])
theorem zq1 (c:CH):zeg c = (zzg c ++ tT c.1) ++ sNl:=rfl
end Go.V.L11
set_option maxRecDepth 20000
namespace Go.V.L11
open Go.Proofs Go.RowKit Go.V Go.V.L2 Go.V.L4 Go.V.L6 Go.V.L8 Go.V.Bd
attribute [local irreducible] V N X VO Par StepOK Has Ret RetL RetO RetT zbd RetX RetY Src
end Go.V.L11
set_option maxRecDepth 20000
namespace Go.V.L11
open Go.Proofs Go.RowKit Go.V Go.V.L2 Go.V.L3 Go.V.L4 Go.V.L6 Go.V.L8 Go.V.L10
def u6 (t:U):List ByteArray:=[t.1.1.1, t.1.1.2, t.1.2, t.2.1.1, t.2.1.2, t.2.2]
theorem objT_size (a b:ByteArray):(zs5 a b).size = a.size + 1 + b.size:=by
 unfold zs5
 rw [ByteArray.size_append, ByteArray.size_append]; rfl
theorem goalT_size (a b c:ByteArray):(zhw a b c).size = a.size + 1 + b.size + 1 + c.size:=by
 unfold zhw
 rw [ByteArray.size_append, ByteArray.size_append, objT_size]; rfl
theorem ztm {t:U} {k:Nat} (h:∀ s ∈ u6 t, s.size ≤ k):(tT t).size ≤ 6 * k + 5:=by
 have h1:=h t.1.1.1 (by simp [u6])
 have h2:=h t.1.1.2 (by simp [u6])
 have h3:=h t.1.2 (by simp [u6])
 have h4:=h t.2.1.1 (by simp [u6])
 have h5:=h t.2.1.2 (by simp [u6])
 have h6:=h t.2.2 (by simp [u6])
 unfold tT zhl
 rw [ByteArray.size_append, ByteArray.size_append, goalT_size]
 have hA:sAt.size = 1:=rfl
 split
 ·rw [objT_size]; omega
 ·rw [goalT_size]; omega
theorem z1d {t:U} (h:tE t = 0):∀ s ∈ u6 t, s.size ≤ 40:=by
 unfold tE at h
 split at h
 ·rename_i h1
  obtain ⟨c1, c2, c3⟩:=zsw h1
  obtain ⟨d1, d2, d3⟩:=zhm h
  have a1:=zci c1
  have a2:=zci c2
  have a3:=zci c3
  have b1:=zci d1
  have b2:=zci d2
  have b3:t.2.2.size ≤ 16:=by
   rcases d3 with d3 | d3
   ·rw [d3]; decide
   ·exact zci d3
  intro s hs
  simp only [u6, List.mem_cons, List.not_mem_nil, or_false] at hs
  rcases hs with rfl | rfl | rfl | rfl | rfl | rfl <;> omega
 ·rename_i h1; exact absurd h h1
theorem zpx {t:U} (h:∀ s ∈ u6 t, s.size ≤ 40):(zef t).size ≤ 1000:=by
 have:=ztm h
 rw [zj8]; omega
theorem zpy {c:CH} (h:∀ s ∈ u6 c.1, s.size ≤ 40):(zeg c).size ≤ 1000:=by
 have:=ztm h
 rw [zq1, ByteArray.size_append, ByteArray.size_append]
 have h1:=zir c
 have h2:sNl.size = 1:=rfl
 omega
attribute [local irreducible] V N X VO Par XP LV StepOK Has Ret RetL RetO RetT zbd RetX RetY Pan zs3 Src
end Go.V.L11
set_option maxRecDepth 20000
namespace Go.V.L11
open Go.Proofs Go.RowKit Go.V Go.V.L2 Go.V.L4 Go.V.L8 Go.V.Bd
def rdN (a:ByteArray):CH × Int:=(((ptA a).1, false), (ptA a).2)
def rdS:Bool → ByteArray → CH × Int
 | false => rdN
 | true => prC
theorem zys:∀ {xs:List ByteArray} {out:List U} {n:Nat}, zde rdN (out.map fun t => ((t, false):CH)) n xs = ((zde ptA out n xs).1.map (fun t => ((t, false):CH)), (zde ptA out n xs).2.1, (zde ptA out n xs).2.2)
 | [], _, _ => rfl
 | x :: xs, out, n => by
  unfold zde
  by_cases hn:4096 < n
  ·rw [if_pos hn, if_pos hn]; rfl
  ·rw [if_neg hn, if_neg hn]
   cases he:zij x with
   | none => rfl
   | some r =>
    dsimp only
    by_cases hr:(ptA r).2 ≠ 0
    ·rw [if_pos hr, if_pos (show (rdN r).2 ≠ 0 from hr)]; rfl
    ·rw [if_neg hr, if_neg (show ¬ (rdN r).2 ≠ 0 from hr)]
     have:=zys (xs:=xs) (out:=out ++ [(ptA r).1]) (n:=n + 1)
     rw [List.map_append] at this
     exact this
theorem z1u (s:ByteArray):zfb rdN s = ((zfb ptA s).1.map (fun t => ((t, false):CH)), (zfb ptA s).2.1, (zfb ptA s).2.2):=by
 unfold zfb
 split
 ·rfl
 ·exact zys (out:=[])
def z0p:List ByteArray → ByteArray
 | [] => ⟨#[]⟩
 | x :: xs => x ++ z0p xs
theorem zp8 (s:ByteArray):s ++ ⟨#[]⟩ = s:=zbf (by simp [zar])
theorem zz3 (s:ByteArray):(⟨#[]⟩:ByteArray) ++ s = s:=zbf (by simp [zar])
theorem zfs (a b c:ByteArray):a ++ b ++ c = a ++ (b ++ c):=zbf (by simp [zar])
theorem zm3:∀ (n:Nat) {s:ByteArray}, s.size ≤ n → z0p (zb9 s) = s
 | 0, s, h => by
  have:s = ⟨#[]⟩:=by
   apply zbf
   have h2:=zau s
   exact List.eq_nil_of_length_eq_zero (by omega)
  subst this
  rfl
 | n + 1, s, h => by
  by_cases hs:s = ⟨#[]⟩
  ·subst hs; rfl
  ·rcases zdf s 10 with hn | ⟨a, c, hac, hn⟩
   ·rw [zmq hn hs]
    exact zp8 s
   ·have hsz:s.size = a.size + 1 + c.size:=by rw [hac, ByteArray.size_append, ByteArray.size_append]; rfl
    rw [hac, ziw hn]
    show (a ++ sNl) ++ z0p (zb9 c) = _
    rw [zm3 n (by omega)]
theorem zry (l:List U):zfa (zf8 l) = z0p (l.map zef):=by
 induction l with
 | nil => rfl
 | cons t l ih =>
  show zfa (zfr (zef t) ++ zf8 l) = zef t ++ z0p (l.map zef)
  rw [zjf, ih]
theorem zpa (l:List CH):zfa (zf7 l) = z0p (l.map zeg):=by
 induction l with
 | nil => rfl
 | cons t l ih =>
  show zfa (zfr (zeg t) ++ zf7 l) = zeg t ++ z0p (l.map zeg)
  rw [zjf, ih]
theorem zkd {X:Type} {rd:ByteArray → X × Int}:∀ {ls:List ByteArray} {n:Nat}, n ≤ 4097 → zba rd n ls = true → n + ls.length ≤ 4097
 | [], n, h, _ => by simpa using h
 | x :: ls, n, _, h => by
  unfold zba at h
  rw [Bool.and_eq_true] at h
  have h1:¬ 4096 < n:=by
   have:=h.1
   unfold zf4 at this
   simp only [Bool.not_eq_true', Bool.or_eq_false_iff, decide_eq_false_iff_not] at this
   exact this.1
  have:=zkd (n:=n + 1) (by omega) h.2
  rw [List.length_cons]; omega
theorem zhj {X:Type} {rd:ByteArray → X × Int} {ln:X → ByteArray} (hb:∀ r x, rd r = (x, 0) → ln x = r ++ sNl):∀ {ls:List ByteArray} {n:Nat}, zba rd n ls = true → (zd8 rd ls).map ln = ls
 | [], _, _ => rfl
 | y :: ls, n, h => by
  unfold zba at h
  rw [Bool.and_eq_true] at h
  have h1:=h.1
  unfold zf4 at h1
  cases he:zij y with
  | none => rw [he] at h1; simp at h1
  | some r =>
   rw [he] at h1
   have h0:(rd r).2 = 0:=by
    simp only [Bool.not_eq_true', Bool.or_eq_false_iff, decide_eq_false_iff_not] at h1
    simpa using h1.2
   have e2:zd8 rd (y :: ls) = (rd r).1 :: zd8 rd ls:=by
    unfold zd8
    rw [List.filterMap_cons, he]; rfl
   rw [e2, List.map_cons, zhj hb h.2, hb r (rd r).1 (by rw [← h0]), ← zg5 he]
theorem zl2 {X:Type} {rd:ByteArray → X × Int} {P:X → Prop} (hb:∀ r x, rd r = (x, 0) → P x):∀ {ls:List ByteArray} {n:Nat}, zba rd n ls = true → ∀ x ∈ zd8 rd ls, P x
 | [], _, _, x, hx => by cases hx
 | y :: ls, n, h, x, hx => by
  unfold zba at h
  rw [Bool.and_eq_true] at h
  have h1:=h.1
  unfold zf4 at h1
  cases he:zij y with
  | none => rw [he] at h1; simp at h1
  | some r =>
   rw [he] at h1
   have h0:(rd r).2 = 0:=by
    simp only [Bool.not_eq_true', Bool.or_eq_false_iff, decide_eq_false_iff_not] at h1
    simpa using h1.2
   have e2:zd8 rd (y :: ls) = (rd r).1 :: zd8 rd ls:=by
    unfold zd8
    rw [List.filterMap_cons, he]; rfl
   rw [e2] at hx
   rcases List.mem_cons.1 hx with rfl | hx
   ·exact hb r _ (by rw [← h0])
   ·exact zl2 hb h.2 x hx
theorem zpn {X:Type} {rd:ByteArray → X × Int}:∀ {xs:List ByteArray} {n:Nat} {out:List X}, zba rd n xs = false → (zde rd out n xs).2.2 ≠ 0
 | [], _, _, h => by cases h
 | x :: xs, n, out, h => by
  unfold zba at h
  unfold zde
  by_cases hn:4096 < n
  ·rw [if_pos hn]; show (3:Int) ≠ 0; decide
  ·rw [if_neg hn]
   cases he:zij x with
   | none => show (5:Int) ≠ 0; decide
   | some r =>
    dsimp only
    by_cases hr:(rd r).2 ≠ 0
    ·rw [if_pos hr]; exact hr
    ·rw [if_neg hr]
     have hb:zf4 rd n x = false:=by
      unfold zf4
      rw [he]
      simp at hr
      simp [hn, hr]
     rw [hb] at h
     exact zpn (by simpa using h)
theorem zqh:∀ {l:List U}, (∀ t ∈ l, tE t = 0) → ztj l = 0
 | [], _ => rfl
 | t :: l, h => by
  unfold ztj
  rw [if_neg (fun h2 => h2 (h t (List.mem_cons_self ..)))]
  exact zqh fun x hx => h x (List.mem_cons_of_mem _ hx)
theorem zqg:∀ {l:List CH}, (∀ t ∈ l, tE t.1 = 0) → zth l = 0
 | [], _ => rfl
 | t :: l, h => by
  unfold zth
  rw [if_neg (fun h2 => h2 (h t (List.mem_cons_self ..)))]
  exact zqg fun x hx => h x (List.mem_cons_of_mem _ hx)
theorem zw6 {s:ByteArray} {l:List U} {n:Nat} {e:Int} (h:zfb ptA s = (l, n, e)):(∀ t ∈ l, tE t = 0) ∧ l.length ≤ 4096 ∧ (e = 0 → zni l = (s, 0)):=by
 unfold zfb at h
 split at h
 ·cases h
  exact ⟨(fun _ h => by cases h), Nat.zero_le _, fun h => absurd h (by decide)⟩
 ·cases hg:zba ptA 1 (zb9 s)
  ·have h1:=zgv (out:=[]) hg
   have h2:=zpn (out:=[]) hg
   rw [h] at h1 h2
   dsimp only at h1 h2
   subst h1
   exact ⟨(fun _ h => by cases h), Nat.zero_le _, fun h => absurd h h2⟩
  ·rw [zey hg] at h
   cases h
   have hv:∀ t ∈ zd8 ptA (zb9 s), tE t = 0:=zl2 (fun r x hx => (zpk hx).1) hg
   have hln:=zkd (by decide) hg
   have hvl:=zev (rd:=ptA) (ls:=zb9 s)
   refine ⟨hv, by omega, fun _ => ?_⟩
   have hm:=zhj (ln:=zef) (fun r x hx => by rw [zxh, (zpk hx).2]) hg
   unfold zni
   rw [if_neg (by omega), zqh hv, if_neg (fun h => h rfl), zry, hm, zm3 _ (Nat.le_refl _)]
theorem zqo {r:ByteArray} {c:CH} (h:prC r = (c, 0)):tE c.1 = 0 ∧ zeg c = r ++ sNl:=by
 rcases zl6 r with rfl | ⟨k, b, rfl⟩
 ·cases congrArg Prod.snd h
 ·rw [zme] at h
  unfold prB at h
  split at h
  ·rename_i hk
   split at h
   ·rename_i h0
    exact absurd (congrArg Prod.snd h) h0
   ·rename_i h0
    have h1:=congrArg Prod.fst h
    dsimp only at h1
    subst h1
    have hp:ptA b = ((ptA b).1, 0):=Prod.ext rfl (Decidable.of_not_not h0)
    obtain ⟨g1, g2⟩:=zpk hp
    refine ⟨g1, ?_⟩
    rw [zq1]
    dsimp only
    rw [g2]
    rcases hk with rfl | rfl <;> rfl
  ·exact absurd (congrArg Prod.snd h) (show ¬ (5:Int) = 0 by decide)
theorem zt7 {s:ByteArray} {l:List CH} {n:Nat} {e:Int} (h:zfb prC s = (l, n, e)):(∀ t ∈ l, tE t.1 = 0) ∧ l.length ≤ 4096 ∧ (e = 0 → znh l = (s, 0)):=by
 unfold zfb at h
 split at h
 ·cases h
  exact ⟨(fun _ h => by cases h), Nat.zero_le _, fun h => absurd h (by decide)⟩
 ·cases hg:zba prC 1 (zb9 s)
  ·have h1:=zgv (out:=[]) hg
   have h2:=zpn (out:=[]) hg
   rw [h] at h1 h2
   dsimp only at h1 h2
   subst h1
   exact ⟨(fun _ h => by cases h), Nat.zero_le _, fun h => absurd h h2⟩
  ·rw [zey hg] at h
   cases h
   have hv:∀ t ∈ zd8 prC (zb9 s), tE t.1 = 0:=zl2 (P:=fun t:CH => tE t.1 = 0) (fun r x hx => (zqo hx).1) hg
   have hln:=zkd (by decide) hg
   have hvl:=zev (rd:=prC) (ls:=zb9 s)
   refine ⟨hv, by omega, fun _ => ?_⟩
   have hm:=zhj (ln:=zeg) (fun r x hx => (zqo hx).2) hg
   unfold znh
   rw [if_neg (by omega), zqg hv, if_neg (fun h => h rfl), zpa, hm, zm3 _ (Nat.le_refl _)]
end Go.V.L11
set_option maxRecDepth 20000
namespace Go.V.L11
open Go.Proofs Go.RowKit Go.V Go.V.L2 Go.V.L4 Go.V.L8 Go.V.Bd
theorem _root_.Go.V.Zgw {A B:Prop} (h:B) (t:Wr B → A:=by intro h; refine Ze ?_;refine ZE ?_;exact h.h):A:=t ⟨h⟩
theorem _root_.Go.V.Zgc {A B:Prop} (h:B) (t:Wr B → A:=by intro h; refine Zgw ?_;refine ZaR ?_;exact h.h):A:=t ⟨h⟩
theorem _root_.Go.V.Zgx {A B:Prop} (h:B) (t:Wr B → A:=by intro h; refine Zgc ?_;refine Zac ?_;exact h.h):A:=t ⟨h⟩
theorem _root_.Go.V.ZdR {A B:Prop} (h:B) (t:Wr B → A:=by intro h; refine Zgx ?_;refine ZaS ?_;exact h.h):A:=t ⟨h⟩
theorem zot (s:ByteArray) (k:Nat):s[k]? = s.data.toList[k]?:=by
 show s.data[k]? = _
 rw [Array.getElem?_toList]
theorem zux {p a c:ByteArray} {k:Nat} (h:k < a.size):(p ++ (a ++ c))[p.size + k]? = a[k]?:=by
 rw [zot, zot, zar, zar, List.getElem?_append_right (by rw [zau]; omega), zau, Nat.add_sub_cancel_left, List.getElem?_append_left (by rw [zau]; omega)]
theorem zz4 {p a c:ByteArray}:(p ++ (a ++ (sNl ++ c)))[p.size + a.size]? = some 10:=by
 rw [zot, zar, zar, List.getElem?_append_right (by rw [zau]; omega), zau, Nat.add_sub_cancel_left, List.getElem?_append_right (by rw [zau]; omega), zau, Nat.sub_self, zar]
 rfl
theorem zus {a:ByteArray} {k:Nat} {x:UInt8} (h:noB a 10) (hk:a[k]? = some x):(x.toNat:Int) ≠ 10:=fun e => by
 rw [zot] at hk
 have:x = 10:=UInt8.toNat_inj.1 (by show x.toNat = 10; omega)
 subst this
 exact h (List.mem_of_getElem? hk)
theorem zof {r:ByteArray} (h:r ≠ ⟨#[]⟩):∃ y ys, zb9 r = y :: ys:=by
 rcases zdf r 10 with hn | ⟨a, c, rfl, hn⟩
 ·exact ⟨_, _, zmq hn h⟩
 ·exact ⟨_, _, ziw hn⟩
attribute [local irreducible] V N X VO Par StepOK Has Ret RetL RetO RetT zbd RetX RetY Src
theorem zho {s:ByteArray} {t:U} {e:Int} (hr:ptA s = (t, e)) (hs:s.size ≤ 1000000) {w:World} {B:Heap} (hB:B.Le (hp w)) :
  Ret Tryz.prog 39 [.string s] w B (fun v _ => v = .tuple #[uv t, .int .i64 e]):=zgg hr hs hB
set_option maxRecDepth 20000 in
set_option maxHeartbeats 8000000 in
theorem zr5 {sg:Bool} {s:ByteArray} (hs:s.size ≤ 1000000) {w:World} {B:Heap} (hB:B.Le (hp w)) :
  Ret Tryz.prog 20 [.string s, .bool sg] w B (TupS [KS tyC (zfb (rdS sg) s).1 false, fun v _ => v = .int .i64 (zfb (rdS sg) s).2.1, fun v _ => v = .int .i64 (zfb (rdS sg) s).2.2]):=by
 have hF:zfb (rdS sg) s = zde (rdS sg) [] 1 (zb9 s):=if_neg (by omega)
 rw [hF]
 refine qt Tryz.func20 rfl Tryz.ntmps20 (Nat.le_of_ble_eq_true rfl) hB ?_
 refine ZO ?_;refine Zdu ?_;refine Z4 ?_;refine ZaB ?_;refine ZaX ?_;refine Zo ?_;refine Zd ?_
 refine zge 7 tyC 7 rfl ?_
 refine Zp ?_;refine Zf ?_;refine Zw ?_;refine Zaf ?_
 refine zan (fun x:ByteArray × List ByteArray × ByteArray => [(0, .is (.string s)), (1, .is (.bool sg)), (7, .own (SlR tyC 7 (zd8 (rdS sg) x.2.1).length ((zd8 (rdS sg) x.2.1).flatMap ccs))), (8, .is (.int .i64 x.1.size)), (9, .is (.int .i64 (x.2.1.length + 1:Nat)))])
  (fun x => s = x.1 ++ x.2.2 ∧ zb9 s = x.2.1 ++ zb9 x.2.2 ∧ zba (rdS sg) 1 x.2.1 = true) (fun x => x.2.2.size) (⟨#[]⟩, [], s) ⟨(zz3 s).symm, rfl, rfl⟩ ⟨rfl, rfl, rfl, rfl, rfl, trivial⟩ ?_
 rintro ⟨p, ls, r⟩ ⟨hpr, hl, hg⟩
 dsimp only at hpr hl hg ⊢
 have hsz:s.size = p.size + r.size:=by rw [hpr, ByteArray.size_append]
 have hvl:(zd8 (rdS sg) ls).length ≤ ls.length:=zev
 have hll:=zf0 s
 rw [hl, List.length_append] at hll
 by_cases hr:r = ⟨#[]⟩
 ·subst hr
  have h0:(⟨#[]⟩:ByteArray).size = 0:=rfl
  have hW:zde (rdS sg) [] 1 (zb9 s) = (zd8 (rdS sg) ls, 0, 0):=by rw [hl, ziv, List.append_nil, zey hg]
  rw [hW]
  refine ZbE ?_;refine ZaR ?_;refine Z7 ?_;refine Zbd ?_
  refine zkp 7 rfl ?_
  refine zf (id:=28) ?_;refine Zl ?_;refine Zaa ?_;refine Zy ?_
  refine qq L (rs:=[.tmp 4, .tmp 5, .tmp 6]) rfl (fun _ _ h => h) Since.refl fun u H hH hle => ?_
  exact fun v hv => tup3 hv rfl rfl
 ·have hp0:=zqm hr
  have hlr:1 ≤ (zb9 r).length:=by
   obtain ⟨y, ys, e⟩:=zof hr
   rw [e]; simp
  by_cases hn:4096 < ls.length + 1
  ·obtain ⟨y, ys, e⟩:=zof hr
   have hW:zde (rdS sg) [] 1 (zb9 s) = ([], ls.length + 1, 3):=by rw [hl, e, zgw hg (by omega), Nat.add_comm 1]
   rw [hW]
   refine ZbE ?_;refine ZaR ?_;refine Zcl ?_;refine ZaM ?_;refine Ze ?_;refine ZS ?_;refine ZW ?_;refine Zv ?_;refine Zaz ?_;refine Zbm ?_
   refine qq L (rs:=[.tmp 4, .tmp 5, .tmp 6]) rfl (fun _ _ h => h) Since.refl fun u H hH hle => ?_
   exact tup3 SlV.nil rfl rfl
  ·rcases zdf r 10 with hno | ⟨a, c, hac, hno⟩
   ·have hW:zde (rdS sg) [] 1 (zb9 s) = ([], ls.length + 1, 5):=by rw [hl, zmq hno hr, zfj hg (by omega) (z0h hno), Nat.add_comm 1]
    rw [hW]
    refine ZbE ?_;refine ZaR ?_;refine Zcl ?_;refine ZaM ?_;refine Ze ?_;refine ZS ?_;refine ZaX ?_;refine Zcq ?_;refine Zd ?_;refine q6 ?_
    refine zan (fun k:Nat => [(0, .is (.string s)), (9, .is (.int .i64 (ls.length + 1:Nat))), (10, .is (.int .i64 (p.size + k:Nat)))]) (fun k => k ≤ r.size) (fun k => r.size - k) 0 (Nat.zero_le _) ⟨rfl, rfl, rfl, trivial⟩ ?_
    rintro k hk
    by_cases hlt:k < r.size
    ·obtain ⟨x, hx⟩:=getElem?_lt hlt
     have hx10:=zus hno hx
     have hxs:s[p.size + k]? = some x:=by
      have:=zux (p:=p) (a:=r) (c:=⟨#[]⟩) hlt
      rw [zp8, ← hpr] at this
      rw [this, hx]
     have hwk:IntKind.i64.wrap (((p.size + k:Nat):Int) + 1) = ((p.size + (k + 1):Nat):Int):=(zaa (by omega) (by omega)).trans (by omega)
     refine ZdR ?_;refine Zam ?_;refine Zcj ?_;refine Zc8 ?_;refine q6 ?_;refine Zdz ?_;refine ZdM ?_
     exact qy (x:=k) (k + 1) hlt (by omega) ⟨rfl, rfl, rfl, trivial⟩
    ·obtain rfl:k = r.size:=by omega
     refine Zgc ?_;refine Z7 ?_;refine Zdo ?_;refine Zdi ?_;refine ZaR ?_;refine Z9 ?_;refine Zv ?_;refine Zc5 ?_;refine Zbm ?_
     refine qq L (rs:=[.tmp 4, .tmp 5, .tmp 6]) rfl (fun _ _ h => h) Since.refl fun u H hH hle => ?_
     exact tup3 SlV.nil rfl rfl
   ·have hac2:r = a ++ (sNl ++ c):=by rw [hac, zfs]
    have hsr:r.size = a.size + 1 + c.size:=by rw [hac, ByteArray.size_append, ByteArray.size_append]; rfl
    have e1:zb9 r = (a ++ sNl) :: zb9 c:=by rw [hac]; exact ziw hno
    have hend:s[p.size + a.size]? = some 10:=by
     have:=zz4 (p:=p) (a:=a) (c:=c)
     rw [← hac2, ← hpr] at this
     exact this
    have x1:s.extract p.size (p.size + a.size) = a:=by
     have:=zd2 p a (sNl ++ c) p.size (p.size + a.size) rfl rfl
     rw [zfs, ← hac2, ← hpr] at this
     exact this
    have hpr2:s = p ++ (a ++ sNl) ++ c:=by rw [hpr, hac, zfs, zfs, zfs]
    have hl2:zb9 s = (ls ++ [a ++ sNl]) ++ zb9 c:=by rw [hl, e1, List.append_assoc]; rfl
    have hps:(p ++ (a ++ sNl)).size = p.size + a.size + 1:=by rw [ByteArray.size_append, ByteArray.size_append]; show _ + (_ + 1) = _; omega
    have hlens:(ls ++ [a ++ sNl]).length = ls.length + 1:=by simp
    refine ZbE ?_;refine ZaR ?_;refine Zcl ?_;refine ZaM ?_;refine Ze ?_;refine ZS ?_;refine ZaX ?_;refine Zcq ?_;refine Zd ?_;refine q6 ?_
    refine zan (fun k:Nat => [(0, .is (.string s)), (1, .is (.bool sg)), (7, .own (SlR tyC 7 (zd8 (rdS sg) ls).length ((zd8 (rdS sg) ls).flatMap ccs))), (8, .is (.int .i64 p.size)), (9, .is (.int .i64 (ls.length + 1:Nat))), (10, .is (.int .i64 (p.size + k:Nat)))]) (fun k => k ≤ a.size) (fun k => a.size - k) 0 (Nat.zero_le _) ⟨rfl, rfl, rfl, rfl, rfl, rfl, trivial⟩ ?_
    rintro k hk
    by_cases hlt:k < a.size
    ·obtain ⟨x, hx⟩:=getElem?_lt hlt
     have hx10:=zus hno hx
     have hxs:s[p.size + k]? = some x:=by
      have:=zux (p:=p) (a:=a) (c:=sNl ++ c) hlt
      rw [← hac2, ← hpr] at this
      rw [this, hx]
     have hwk:IntKind.i64.wrap (((p.size + k:Nat):Int) + 1) = ((p.size + (k + 1):Nat):Int):=(zaa (by omega) (by omega)).trans (by omega)
     refine ZdR ?_;refine Zam ?_;refine Zcj ?_;refine Zc8 ?_;refine q6 ?_;refine Zdz ?_;refine ZdM ?_
     exact qy (x:=k) (k + 1) hlt (by omega) ⟨rfl, rfl, rfl, rfl, rfl, rfl, trivial⟩
    ·obtain rfl:k = a.size:=by omega
     have hwe:IntKind.i64.wrap (((p.size + a.size:Nat):Int) + 1) = ((p.size + a.size + 1:Nat):Int):=zaa (by omega) (by omega)
     have hwn:IntKind.i64.wrap (((ls.length + 1:Nat):Int) + 1) = ((ls.length + 1 + 1:Nat):Int):=zaa (by omega) (by omega)
     cases sg
     ·obtain ⟨t, e, ht⟩:∃ t e, ptA a = (t, e):=⟨_, _, rfl⟩
      have hrd:rdS false a = ((t, false), e):=by show rdN a = _; unfold rdN; rw [ht]
      by_cases h0:e = 0
      ·subst h0
       have hgd:zba (rdS false) 1 (ls ++ [a ++ sNl]) = true:=by rw [zbg, hg]; unfold zf4; rw [zd3]; simp [hrd]; omega
       have hvs:=zff (rd:=rdS false) (ls:=ls) (zd3 a)
       rw [hrd] at hvs
       refine ZdR ?_;refine Zcm ?_;refine Zdi ?_;refine ZaR ?_;refine ZaN ?_;refine ZcP ?_;refine z7 (zap L (kl:=.i64) (kh:=.i64) p.size (p.size + a.size) rfl rfl rfl rfl ⟨rfl, by omega⟩ ⟨rfl, by omega⟩ (by omega) (by omega) x1) rfl ?_;refine Zd ?_;refine Zaj ?_;refine ZaI ?_;refine Zcb ?_;refine Zt ?_;refine Zdg ?_;refine Za ?_;refine z7 (zp L rfl rfl (zk rfl) rfl rfl rfl (fun u H hH _ _ => zho ht (by omega) hH)) rfl ?_;refine ZaG ?_;refine Zcc ?_;refine ZV ?_
       refine zfu 12 rfl fun b12 hb12 => ?_
       refine zf (id:=25) ?_;refine ZaH ?_;refine Zde ?_;refine Zj ?_
       refine zp9 12 [] rfl rfl ?_
       refine zf (id:=26) ?_;refine q8 (zal (.inl rfl) rfl rfl rfl rfl) ?_;refine ZdD ?_;refine ZR ?_;refine Zez ?_;refine q8 (zal (.inr rfl) rfl rfl rfl rfl) ?_;refine ZeF ?_;refine Za ?_;refine Zcx ?_;refine Zat ?_;refine ZC ?_;refine Zcx ?_
       exact qy (x:=(p, ls, r)) (p ++ (a ++ sNl), ls ++ [a ++ sNl], c) ⟨hpr2, hl2, hgd⟩ (by dsimp only; omega) ⟨rfl, rfl, by dsimp only; rw [hvs]; exact zgm rfl, by dsimp only; rw [hps]; rfl, by dsimp only; rw [hlens]; rfl, trivial⟩
      ·have hW:zde (rdS false) [] 1 (zb9 s) = ([], ls.length + 1, e):=by rw [hl, e1, zdk hg (by omega) (zd3 a) (by rw [hrd]; exact h0), hrd, Nat.add_comm 1]
       rw [hW]
       refine ZdR ?_;refine Zcm ?_;refine Zdi ?_;refine ZaR ?_;refine ZaN ?_;refine ZcP ?_;refine z7 (zap L (kl:=.i64) (kh:=.i64) p.size (p.size + a.size) rfl rfl rfl rfl ⟨rfl, by omega⟩ ⟨rfl, by omega⟩ (by omega) (by omega) x1) rfl ?_;refine Zd ?_;refine Zaj ?_;refine ZaI ?_;refine Zcb ?_;refine Zt ?_;refine Zdg ?_;refine Za ?_;refine z7 (zp L rfl rfl (zk rfl) rfl rfl rfl (fun u H hH _ _ => zho ht (by omega) hH)) rfl ?_;refine ZaG ?_;refine Zcc ?_;refine ZF ?_;refine ZbG ?_;refine Zb ?_;refine Zbm ?_
       refine qq L (rs:=[.tmp 4, .tmp 5, .tmp 6]) rfl (fun _ _ h => h) Since.refl fun u H hH hle => ?_
       exact tup3 SlV.nil rfl rfl
     ·rcases zl6 a with ha0 | ⟨q, b, hab⟩
      ·have hrd:(rdS true a).2 = 5:=by subst ha0; rfl
       have hW:zde (rdS true) [] 1 (zb9 s) = ([], ls.length + 1, 5):=by rw [hl, e1, zdk hg (by omega) (zd3 a) (by rw [hrd]; decide), hrd, Nat.add_comm 1]
       rw [hW]
       refine ZdR ?_;refine Zcm ?_;refine Zdi ?_;refine ZaR ?_;refine ZaN ?_;refine ZcP ?_;refine z7 (zap L (kl:=.i64) (kh:=.i64) p.size (p.size + a.size) rfl rfl rfl rfl ⟨rfl, by omega⟩ ⟨rfl, by omega⟩ (by omega) (by omega) x1) rfl ?_;refine Zd ?_;refine Zaj ?_;refine ZaI ?_;refine Zcb ?_;refine Zz ?_;refine Ze ?_;refine Zcu ?_;refine z7 (zjz rfl rfl rfl rfl (decide_eq_true (by assumption))) rfl ?_;refine Zdp ?_;refine Zcd ?_;refine ZaA ?_;refine ZdO ?_;refine Zbm ?_
       refine qq L (rs:=[.tmp 4, .tmp 5, .tmp 6]) rfl (fun _ _ h => h) Since.refl fun u H hH hle => ?_
       exact tup3 SlV.nil rfl rfl
      ·have hrd0:rdS true a = prB q b:=by rw [hab]; exact zme q b
       have hasz:a.size = 1 + b.size:=by rw [hab, ByteArray.size_append]; rfl
       have hane:a ≠ ⟨#[]⟩:=fun e => by rw [e] at hasz; have:(⟨#[]⟩:ByteArray).size = 0:=rfl; omega
       have hq:a[0]? = some q:=by
        rw [zot, hab, zar]; rfl
       have x2:a.extract 1 a.size = b:=by
        have:=zd2 ⟨#[q]⟩ b ⟨#[]⟩ 1 a.size rfl (by rw [hasz]; rfl)
        rw [zp8, ← hab] at this
        exact this
       have h255:=zwh q
       obtain ⟨t, e, ht⟩:∃ t e, ptA b = (t, e):=⟨_, _, rfl⟩
       by_cases h43:q = 43
       ·subst h43
        by_cases h0:e = 0
        ·subst h0
         have hrd:rdS true a = ((t, false), 0):=by rw [hrd0]; unfold prB; rw [if_pos (.inl rfl), ht, if_neg (by simp)]; rfl
         have hgd:zba (rdS true) 1 (ls ++ [a ++ sNl]) = true:=by rw [zbg, hg]; unfold zf4; rw [zd3]; simp [hrd]; omega
         have hvs:=zff (rd:=rdS true) (ls:=ls) (zd3 a)
         rw [hrd] at hvs
         refine ZdR ?_;refine Zcm ?_;refine Zdi ?_;refine ZaR ?_;refine ZaN ?_;refine ZcP ?_;refine z7 (zap L (kl:=.i64) (kh:=.i64) p.size (p.size + a.size) rfl rfl rfl rfl ⟨rfl, by omega⟩ ⟨rfl, by omega⟩ (by omega) (by omega) x1) rfl ?_;refine Zd ?_;refine Zaj ?_;refine ZaI ?_;refine Zcb ?_;refine Zz ?_;refine Ze ?_;refine Zcu ?_;refine ZdE ?_;refine Zfl ?_;refine Zad ?_;refine Zai ?_
         refine zfu 12 rfl fun b12 hb12 => ?_
         refine Za1 ?_;refine Za ?_;refine ZeJ ?_;refine Zep ?_;refine Zde ?_;refine Z1 ?_;refine Zcy ?_;refine z7 (zap L (kh:=.i64) (ph:=0) 1 _ rfl rfl rfl rfl ⟨rfl, rfl⟩ rfl (by omega) (by omega) x2) rfl ?_;refine ZcQ ?_;refine Za ?_;refine z7 (zp L rfl rfl (zk rfl) rfl rfl rfl (fun u H hH _ _ => zho ht (by omega) hH)) rfl ?_;refine ZaG ?_;refine Zcc ?_;refine ZV ?_;refine zf (id:=25) ?_;refine ZaH ?_;refine Zde ?_;refine Zj ?_
         refine zp9 12 [] rfl rfl ?_
         refine zf (id:=26) ?_;refine q8 (zal (.inl rfl) rfl rfl rfl rfl) ?_;refine ZdD ?_;refine ZR ?_;refine Zez ?_;refine q8 (zal (.inr rfl) rfl rfl rfl rfl) ?_;refine ZeF ?_;refine Za ?_;refine Zcx ?_;refine Zat ?_;refine ZC ?_;refine Zcx ?_
         exact qy (x:=(p, ls, r)) (p ++ (a ++ sNl), ls ++ [a ++ sNl], c) ⟨hpr2, hl2, hgd⟩ (by dsimp only; omega) ⟨rfl, rfl, by dsimp only; rw [hvs]; exact zgm rfl, by dsimp only; rw [hps]; rfl, by dsimp only; rw [hlens]; rfl, trivial⟩
        ·have hrd:(rdS true a).2 = e:=by rw [hrd0]; unfold prB; rw [if_pos (.inl rfl), ht, if_pos (by exact h0)]
         have hW:zde (rdS true) [] 1 (zb9 s) = ([], ls.length + 1, e):=by rw [hl, e1, zdk hg (by omega) (zd3 a) (by rw [hrd]; exact h0), hrd, Nat.add_comm 1]
         rw [hW]
         refine ZdR ?_;refine Zcm ?_;refine Zdi ?_;refine ZaR ?_;refine ZaN ?_;refine ZcP ?_;refine z7 (zap L (kl:=.i64) (kh:=.i64) p.size (p.size + a.size) rfl rfl rfl rfl ⟨rfl, by omega⟩ ⟨rfl, by omega⟩ (by omega) (by omega) x1) rfl ?_;refine Zd ?_;refine Zaj ?_;refine ZaI ?_;refine Zcb ?_;refine Zz ?_;refine Ze ?_;refine Zcu ?_;refine ZdE ?_;refine Zfl ?_;refine Zad ?_;refine Zai ?_
         refine zfu 12 rfl fun b12 hb12 => ?_
         refine Za1 ?_;refine Za ?_;refine ZeJ ?_;refine Zep ?_;refine Zde ?_;refine Z1 ?_;refine Zcy ?_;refine z7 (zap L (kh:=.i64) (ph:=0) 1 _ rfl rfl rfl rfl ⟨rfl, rfl⟩ rfl (by omega) (by omega) x2) rfl ?_;refine ZcQ ?_;refine Za ?_;refine z7 (zp L rfl rfl (zk rfl) rfl rfl rfl (fun u H hH _ _ => zho ht (by omega) hH)) rfl ?_;refine ZaG ?_;refine Zcc ?_;refine ZF ?_;refine ZbG ?_;refine Zb ?_;refine Zbm ?_
         refine qq L (rs:=[.tmp 4, .tmp 5, .tmp 6]) rfl (fun _ _ h => h) Since.refl fun u H hH hle => ?_
         exact tup3 SlV.nil rfl rfl
       ·have hx43:(q.toNat:Int) ≠ 43:=fun e => h43 (UInt8.toNat_inj.1 (by show q.toNat = 43; omega))
        by_cases h45:q = 45
        ·subst h45
         by_cases h0:e = 0
         ·subst h0
          have hrd:rdS true a = ((t, true), 0):=by rw [hrd0]; unfold prB; rw [if_pos (.inr rfl), ht, if_neg (by simp)]; rfl
          have hgd:zba (rdS true) 1 (ls ++ [a ++ sNl]) = true:=by rw [zbg, hg]; unfold zf4; rw [zd3]; simp [hrd]; omega
          have hvs:=zff (rd:=rdS true) (ls:=ls) (zd3 a)
          rw [hrd] at hvs
          refine ZdR ?_;refine Zcm ?_;refine Zdi ?_;refine ZaR ?_;refine ZaN ?_;refine ZcP ?_;refine z7 (zap L (kl:=.i64) (kh:=.i64) p.size (p.size + a.size) rfl rfl rfl rfl ⟨rfl, by omega⟩ ⟨rfl, by omega⟩ (by omega) (by omega) x1) rfl ?_;refine Zd ?_;refine Zaj ?_;refine ZaI ?_;refine Zcb ?_;refine Zz ?_;refine Ze ?_;refine Zcu ?_;refine ZdE ?_;refine Zam ?_;refine ZaC ?_;refine Zcm ?_;refine Zai ?_
          refine zfu 12 rfl fun b12 hb12 => ?_
          refine Za1 ?_;refine Za ?_;refine ZeJ ?_;refine Zep ?_;refine Zde ?_;refine Z1 ?_;refine Zcy ?_;refine z7 (zap L (kh:=.i64) (ph:=0) 1 _ rfl rfl rfl rfl ⟨rfl, rfl⟩ rfl (by omega) (by omega) x2) rfl ?_;refine ZcQ ?_;refine Za ?_;refine z7 (zp L rfl rfl (zk rfl) rfl rfl rfl (fun u H hH _ _ => zho ht (by omega) hH)) rfl ?_;refine ZaG ?_;refine Zcc ?_;refine ZV ?_;refine zf (id:=25) ?_;refine ZaH ?_;refine Zde ?_;refine Zj ?_
          refine zp9 12 [] rfl rfl ?_
          refine zf (id:=26) ?_;refine q8 (zal (.inl rfl) rfl rfl rfl rfl) ?_;refine ZdD ?_;refine ZR ?_;refine Zez ?_;refine q8 (zal (.inr rfl) rfl rfl rfl rfl) ?_;refine ZeF ?_;refine Za ?_;refine Zcx ?_;refine Zat ?_;refine ZC ?_;refine Zcx ?_
          exact qy (x:=(p, ls, r)) (p ++ (a ++ sNl), ls ++ [a ++ sNl], c) ⟨hpr2, hl2, hgd⟩ (by dsimp only; omega) ⟨rfl, rfl, by dsimp only; rw [hvs]; exact zgm rfl, by dsimp only; rw [hps]; rfl, by dsimp only; rw [hlens]; rfl, trivial⟩
         ·have hrd:(rdS true a).2 = e:=by rw [hrd0]; unfold prB; rw [if_pos (.inr rfl), ht, if_pos (by exact h0)]
          have hW:zde (rdS true) [] 1 (zb9 s) = ([], ls.length + 1, e):=by rw [hl, e1, zdk hg (by omega) (zd3 a) (by rw [hrd]; exact h0), hrd, Nat.add_comm 1]
          rw [hW]
          refine ZdR ?_;refine Zcm ?_;refine Zdi ?_;refine ZaR ?_;refine ZaN ?_;refine ZcP ?_;refine z7 (zap L (kl:=.i64) (kh:=.i64) p.size (p.size + a.size) rfl rfl rfl rfl ⟨rfl, by omega⟩ ⟨rfl, by omega⟩ (by omega) (by omega) x1) rfl ?_;refine Zd ?_;refine Zaj ?_;refine ZaI ?_;refine Zcb ?_;refine Zz ?_;refine Ze ?_;refine Zcu ?_;refine ZdE ?_;refine Zam ?_;refine ZaC ?_;refine Zcm ?_;refine Zai ?_
          refine zfu 12 rfl fun b12 hb12 => ?_
          refine Za1 ?_;refine Za ?_;refine ZeJ ?_;refine Zep ?_;refine Zde ?_;refine Z1 ?_;refine Zcy ?_;refine z7 (zap L (kh:=.i64) (ph:=0) 1 _ rfl rfl rfl rfl ⟨rfl, rfl⟩ rfl (by omega) (by omega) x2) rfl ?_;refine ZcQ ?_;refine Za ?_;refine z7 (zp L rfl rfl (zk rfl) rfl rfl rfl (fun u H hH _ _ => zho ht (by omega) hH)) rfl ?_;refine ZaG ?_;refine Zcc ?_;refine ZF ?_;refine ZbG ?_;refine Zb ?_;refine Zbm ?_
          refine qq L (rs:=[.tmp 4, .tmp 5, .tmp 6]) rfl (fun _ _ h => h) Since.refl fun u H hH hle => ?_
          exact tup3 SlV.nil rfl rfl
        ·have hx45:(q.toNat:Int) ≠ 45:=fun e => h45 (UInt8.toNat_inj.1 (by show q.toNat = 45; omega))
         have hrd:(rdS true a).2 = 5:=by rw [hrd0]; unfold prB; rw [if_neg (fun h => h.elim h43 h45)]
         have hW:zde (rdS true) [] 1 (zb9 s) = ([], ls.length + 1, 5):=by rw [hl, e1, zdk hg (by omega) (zd3 a) (by rw [hrd]; decide), hrd, Nat.add_comm 1]
         rw [hW]
         refine ZdR ?_;refine Zcm ?_;refine Zdi ?_;refine ZaR ?_;refine ZaN ?_;refine ZcP ?_;refine z7 (zap L (kl:=.i64) (kh:=.i64) p.size (p.size + a.size) rfl rfl rfl rfl ⟨rfl, by omega⟩ ⟨rfl, by omega⟩ (by omega) (by omega) x1) rfl ?_;refine Zd ?_;refine Zaj ?_;refine ZaI ?_;refine Zcb ?_;refine Zz ?_;refine Ze ?_;refine Zcu ?_;refine ZdE ?_;refine Zam ?_;refine ZaC ?_;refine Zam ?_;refine Zg ?_;refine ZaA ?_;refine ZdO ?_;refine Zbm ?_
         refine qq L (rs:=[.tmp 4, .tmp 5, .tmp 6]) rfl (fun _ _ h => h) Since.refl fun u H hH hle => ?_
         exact tup3 SlV.nil rfl rfl
end Go.V.L11
set_option maxRecDepth 20000
namespace Go.V.L11
open Go.Proofs Go.RowKit Go.V Go.V.L2 Go.V.L3 Go.V.L4 Go.V.L6 Go.V.L8 Go.V.L10
attribute [local irreducible] V N X VO Par XP LV StepOK Has Ret RetL RetO RetT zbd RetX RetY Pan zs3 Src
theorem znd {l:List CH} {fu:Bool} (hl:l.length ≤ 100000) {v:Value} {w:World} {B:Heap} (hB:B.Le (hp w)) (hv:KS tyC l fu v B):Ret Tryz.prog 21 [v] w B (US (l.map Prod.fst) false):=by
 refine qt Tryz.func21 rfl Tryz.ntmps21 (Nat.le_of_ble_eq_true rfl) hB ?_
 refine zbl 0 (KS tyC l fu) rfl SlV.mono hv ?_
 refine ZZ ?_;refine Zf ?_
 refine zge 3 tyU 6 rfl ?_
 refine Z5 ?_;refine Zaf ?_
 refine zan (fun i:Nat => [(0, .sat (KS tyC l fu)), (3, .own (SlR tyU 6 ((l.take i).map Prod.fst).length (((l.take i).map Prod.fst).flatMap ucs))), (4, .is (.int .i64 i))]) (fun i => i ≤ l.length) (fun i => l.length - i) 0 (Nat.zero_le _) ⟨rfl, rfl, rfl, trivial⟩ ?_
 rintro i hi
 have hli:((l.take i).map Prod.fst).length = i:=by rw [List.length_map, List.length_take]; omega
 by_cases hlt:i < l.length
 ·obtain ⟨t, ht⟩:=zaw hlt
  have hcr:=zka ht
  have e1:(l.take (i + 1)).map Prod.fst = (l.take i).map Prod.fst ++ [t.1]:=by rw [List.take_add_one, ht, List.map_append]; rfl
  refine Ze ?_;refine Zk ?_;refine Zx ?_;refine Zcl ?_;refine ZaM ?_;refine Zw ?_;refine q8 (zal (.inl rfl) rfl rfl rfl rfl) ?_;refine ZbZ ?_;refine ZaU ?_;refine Zfs ?_;refine Zec ?_;refine ZR ?_;refine ZeD ?_;refine q8 (zal (.inr rfl) rfl rfl rfl rfl) ?_;refine ZcZ ?_;refine Zi ?_;refine Za6 ?_
  exact qy (x:=i) (i + 1) hlt (by omega) ⟨rfl, by rw [e1]; exact zwf rfl, rfl, trivial⟩
 ·obtain rfl:i = l.length:=by omega
  rw [List.take_length]
  refine Ze ?_;refine Zk ?_;refine Zx ?_;refine Z7 ?_;refine Zbd ?_;refine Zak ?_;refine q8 (zal (.inl rfl) rfl rfl rfl rfl) ?_;refine q8 (zal (.inr rfl) rfl rfl rfl rfl) ?_;refine Z1 ?_
  refine zkp 2 rfl ?_
  refine qq L (rs:=[.tmp 2]) rfl (fun _ _ h => h) Since.refl fun u H hH hle => ?_
  exact fun v hv => hv
theorem zjo {sg:Bool} {s:ByteArray} {l:List CH} {n:Nat} {e:Int} (h:zfb (rdS sg) s = (l, n, e)) (hs:s.size ≤ 1000000) {w:World} {B:Heap} (hB:B.Le (hp w)) :
  Ret Tryz.prog 20 [.string s, .bool sg] w B (TupS [KS tyC l false, fun v _ => v = .int .i64 n, fun v _ => v = .int .i64 e]):=by
 have:=zr5 (sg:=sg) hs hB
 rw [h] at this
 exact this
set_option maxHeartbeats 4000000 in
set_option maxRecDepth 20000 in
theorem wiresParse_law (s:ByteArray) {w:World} {B:Heap} (hB:B.Le (hp w)) (hM:GlobM B) :
  Ret Tryz.prog 4 [.string s] w B (fun v _ => v = .bool true):=by
 refine qt Tryz.func4 rfl Tryz.ntmps4 (Nat.le_of_ble_eq_true rfl) hB ?_
 by_cases h400:400 < s.size
 ·refine ZaT ?_;refine ZaB ?_;refine ZW ?_;refine ZdS ?_;refine z7 (zp L rfl rfl (zk rfl) rfl rfl rfl (fun u H hH hle _ => zdx hH (hM.mono hle))) rfl ?_;refine Zc ?_
  refine qq L (rs:=[.tmp 2]) rfl (fun _ _ h => h) Since.refl fun u H hH hle => ?_
  rfl
 ·have hss:s.size ≤ 1000000:=by omega
  obtain ⟨l, n, e, hp⟩:∃ l n e, zfb ptA s = (l, n, e):=⟨_, _, _, rfl⟩
  obtain ⟨m, k, f, hq⟩:∃ m k f, zfb prC s = (m, k, f):=⟨_, _, _, rfl⟩
  have hpN:zfb (rdS false) s = (l.map (fun t => ((t, false):CH)), n, e):=by
   have:=z1u s
   rw [hp] at this
   exact this
  have hmm:(l.map (fun t => ((t, false):CH))).map Prod.fst = l:=by
   rw [List.map_map]
   exact List.map_id l
  obtain ⟨hl1, hl2, hl3⟩:=zw6 hp
  obtain ⟨hm1, hm2, hm3⟩:=zt7 hq
  have hlm:(l.map (fun t => ((t, false):CH))).length ≤ 100000:=by rw [List.length_map]; omega
  generalize hgl:l.map (fun t => ((t, false):CH)) = l2 at hpN hmm hlm
  have hzl:∀ t ∈ l, TZ t:=fun t ht => z1e (hl1 t ht)
  have hsl:∀ t ∈ l, (zef t).size ≤ 1000:=fun t ht => zpx (z1d (hl1 t ht))
  have hzm:∀ t ∈ m, TZ t.1:=fun t ht => z1e (hm1 t ht)
  have hsl2:∀ t ∈ m, (zeg t).size ≤ 1000:=fun t ht => zpy (z1d (hm1 t ht))
  have k1:Kn.mono (.sat (US l true)):=SlV.mono
  have k2:Kn.mono (.sat (KS tyC m true)):=SlV.mono
  have k3:Kn.mono (.sat (KS tyC l2 false)):=SlV.mono
  have k4:Kn.mono (.sat (KS tyC m false)):=SlV.mono
  refine ZaT ?_;refine ZaB ?_;refine ZaX ?_;refine Zk ?_;refine z7 (zag (φ:=TupS [US l true, fun v _ => v = .int .i64 n, fun v _ => v = .int .i64 e]) L rfl rfl (zk rfl) rfl rfl rfl (zda SlV.mono) (fun u H hH hle _ => zi4 hp hss hH (hM.mono hle))) rfl ?_;refine ZcJ ?_;refine ZcH ?_;refine Zaa ?_;refine Zau ?_;refine Zi ?_;refine z7 (zag (φ:=TupS [KS tyC m true, fun v _ => v = .int .i64 k, fun v _ => v = .int .i64 f]) L rfl rfl (zk rfl) rfl rfl rfl (zda SlV.mono) (fun u H hH hle _ => zga hq hss hH (hM.mono hle))) rfl ?_;refine ZcJ ?_;refine ZcH ?_;refine Zaa ?_;refine Zau ?_;refine ZY ?_;refine z7 (zag (φ:=TupS [KS tyC l2 false, fun v _ => v = .int .i64 n, fun v _ => v = .int .i64 e]) L rfl rfl (zk rfl) rfl rfl rfl (zda SlV.mono) (fun u H hH hle _ => zjo hpN hss hH)) rfl ?_;refine ZcJ ?_;refine ZcH ?_;refine Zaa ?_;refine Zau ?_;refine ZJ ?_;refine z7 (zag (φ:=TupS [KS tyC m false, fun v _ => v = .int .i64 k, fun v _ => v = .int .i64 f]) L rfl rfl (zk rfl) rfl rfl rfl (zda SlV.mono) (fun u H hH hle _ => zjo (sg:=true) hq hss hH)) rfl ?_;refine ZcJ ?_;refine ZcH ?_;refine Zaa ?_;refine ZaJ ?_;refine ZH ?_;refine Zb ?_;refine Zal ?_;refine Zr ?_;refine Zbw ?_;refine Za ?_;refine Zl ?_;refine Zl ?_;refine z7 (zag (φ:=US l false) L rfl rfl (zk rfl) rfl rfl rfl SlV.mono (fun u H hH hle _ v1 h1 => by have:=znd hlm hH h1; rw [hmm] at this; exact this)) rfl ?_;refine z7 (zp L rfl rfl (zk rfl) rfl rfl rfl (fun u H hH hle _ v1 h1 v2 h2 => zr3 (by omega) (by omega) (if_pos rfl) hH h1 h2)) rfl ?_;refine ZL ?_;refine Zg ?_;refine Zr ?_;refine Zbw ?_;refine Zr ?_;refine Zbw ?_;refine Za ?_;refine Zl ?_;refine Zl ?_;refine z7 (zp L rfl rfl (zk rfl) rfl rfl rfl (fun u H hH hle _ v1 h1 v2 h2 => zr4 (by omega) (by omega) (if_pos rfl) hH h1 h2)) rfl ?_;refine ZL ?_;refine Zai ?_
  obtain ⟨u, j, hF⟩:∃ u j, zni l = (u, j):=⟨_, _, rfl⟩
  obtain ⟨x, y, hG⟩:∃ x y, znh m = (x, y):=⟨_, _, rfl⟩
  by_cases he:e = 0
  ·have h3:=hl3 he
   rw [hF] at h3
   cases h3
   by_cases hf:f = 0
   ·have h3:=hm3 hf
    rw [hG] at h3
    cases h3
    refine Zah ?_;refine Zl ?_;refine z7 (zp L rfl rfl (zk rfl) rfl rfl rfl (fun u H hH hle _ v1 h1 => zei hF hzl hsl hH h1)) rfl ?_;refine ZP ?_;refine Zap ?_;refine Zl ?_;refine z7 (zp L rfl rfl (zk rfl) rfl rfl rfl (fun u H hH hle _ v1 h1 => zds hG hzm hsl2 hH h1)) rfl ?_;refine ZP ?_;refine ZaZ ?_;refine Zal ?_;refine Zb ?_;refine Z9 ?_;refine Zr ?_;refine Zft ?_;refine Zg ?_;refine ZcS ?_;refine Zal ?_;refine Zb ?_;refine Z9 ?_;refine Zr ?_;refine Zft ?_;refine Zg ?_;refine Zg ?_;refine Zg ?_;refine Za ?_;refine z7 (zp L rfl rfl (zk rfl) rfl rfl rfl (fun u H hH hle _ => zdx hH (hM.mono hle))) rfl ?_;refine Zg ?_;refine Zc ?_
    refine qq L (rs:=[.tmp 2]) rfl (fun _ _ h => h) Since.refl fun u H hH hle => ?_
    rfl
   ·refine Zah ?_;refine Zl ?_;refine z7 (zp L rfl rfl (zk rfl) rfl rfl rfl (fun u H hH hle _ v1 h1 => zei hF hzl hsl hH h1)) rfl ?_;refine ZP ?_;refine Zap ?_;refine Zl ?_;refine z7 (zp L rfl rfl (zk rfl) rfl rfl rfl (fun u H hH hle _ v1 h1 => zds hG hzm hsl2 hH h1)) rfl ?_;refine ZP ?_;refine ZaZ ?_;refine Zal ?_;refine Zb ?_;refine Z9 ?_;refine Zr ?_;refine Zft ?_;refine Zg ?_;refine ZcS ?_;refine Zam ?_;refine Zdp ?_;refine Zdl ?_;refine Zg ?_;refine Za ?_;refine z7 (zp L rfl rfl (zk rfl) rfl rfl rfl (fun u H hH hle _ => zdx hH (hM.mono hle))) rfl ?_;refine Zg ?_;refine Zc ?_
    refine qq L (rs:=[.tmp 2]) rfl (fun _ _ h => h) Since.refl fun u H hH hle => ?_
    rfl
  ·by_cases hf:f = 0
   ·have h3:=hm3 hf
    rw [hG] at h3
    cases h3
    refine Zah ?_;refine Zl ?_;refine z7 (zp L rfl rfl (zk rfl) rfl rfl rfl (fun u H hH hle _ v1 h1 => zei hF hzl hsl hH h1)) rfl ?_;refine ZP ?_;refine Zap ?_;refine Zl ?_;refine z7 (zp L rfl rfl (zk rfl) rfl rfl rfl (fun u H hH hle _ v1 h1 => zds hG hzm hsl2 hH h1)) rfl ?_;refine ZP ?_;refine ZaZ ?_;refine Zam ?_;refine Zdp ?_;refine Zdl ?_;refine Zb ?_;refine Zal ?_;refine Zb ?_;refine Z9 ?_;refine Zr ?_;refine Zft ?_;refine Zg ?_;refine Zg ?_;refine Zg ?_;refine Za ?_;refine z7 (zp L rfl rfl (zk rfl) rfl rfl rfl (fun u H hH hle _ => zdx hH (hM.mono hle))) rfl ?_;refine Zg ?_;refine Zc ?_
    refine qq L (rs:=[.tmp 2]) rfl (fun _ _ h => h) Since.refl fun u H hH hle => ?_
    rfl
   ·refine Zah ?_;refine Zl ?_;refine z7 (zp L rfl rfl (zk rfl) rfl rfl rfl (fun u H hH hle _ v1 h1 => zei hF hzl hsl hH h1)) rfl ?_;refine ZP ?_;refine Zap ?_;refine Zl ?_;refine z7 (zp L rfl rfl (zk rfl) rfl rfl rfl (fun u H hH hle _ v1 h1 => zds hG hzm hsl2 hH h1)) rfl ?_;refine ZP ?_;refine ZaZ ?_;refine Zam ?_;refine Zdp ?_;refine Zdl ?_;refine Zb ?_;refine Zam ?_;refine Zdp ?_;refine Zdl ?_;refine Zg ?_;refine Za ?_;refine z7 (zp L rfl rfl (zk rfl) rfl rfl rfl (fun u H hH hle _ => zdx hH (hM.mono hle))) rfl ?_;refine Zg ?_;refine Zc ?_
    refine qq L (rs:=[.tmp 2]) rfl (fun _ _ h => h) Since.refl fun u H hH hle => ?_
    rfl
end Go.V.L11
set_option maxRecDepth 20000
namespace Go.V
open Go.RowKit
section
variable {P:Program} {H:Type} {enc:TypeId × Value → H} {W:World} {sp:Nat → Bool} {held:Bool} {base:Nat}
end
end Go.V
set_option maxRecDepth 20000
namespace Go.Proofs.YtefilnnomholbaaGreat.wiresParse
open Go.ChangeShapes Go.WideShapes Go.ChangeAt Go.ChangeMaps Go.RowKit Go.V Go.V.L11
theorem own : ownKnob Tryz.prog.godebug = none := by kernel_rfl
theorem laidOut : laidOutB Tryz.prog = true := by kernel_rfl
set_option maxRecDepth 100000 in
theorem lifted (os : Os) (started : os.Started) (H : Type) (enc : TypeId × Value → H) :
    ReturnsInHanded {} Tryz.checked os 4 .any (Rows.wiresParseSpec.pre6 enc Tryz.prog Tryz.f4 Rows.wiresParseRow.domain false) (Rows.wiresParseSpec.post enc Tryz.prog Tryz.f4 false true false false) := by
  refine returnsInHanded_of_change_shaped (C := Tryz.checked) own started (by kernel_rfl) Tryz.func4
    (ChangeSpec.witness6 (enc := enc) (C := Tryz.checked) false ⟨#[], #[.string ⟨#[]⟩], []⟩ 8 (by kernel_rfl) (by kernel_rfl) (by kernel_rfl) (by kernel_rfl)) ?_
  intro W base args ds gs before hval0 hW hcnd _ hsh _
  have hval : ∀ (j : Nat) t v, Tryz.f4.params[j]? = some t → args[j]? = some v → Value.okWide Tryz.prog W .any base t v := hval0
  have hW' := hW
  obtain ⟨p0, q, hA0, hV, rfl, hfz, hnd⟩ := hW
  have hA : DataW.TrodAll enc Tryz.prog W 0 (fun _ => true) true Tryz.f4.params.toList args.toList ds p0 := hA0
  rw [Tryz.params4] at hA hval
  obtain ⟨v0, d0, rfl, rfl, h0⟩ := trodAll_one hA
  obtain ⟨rfl, rfl⟩ := trodVars_none hV
  clear hA0 hval0
  obtain ⟨a, rfl, rfl, rfl, w0⟩ := open_string Tryz.underlying9 (hval 0 9 v0 rfl rfl) h0
  obtain ⟨m0, hm0⟩ := Tryz.laysM145.s1_3 W hsh
  have hglob := GlobM.of_cell hm0
  have hplc := hW'.lt
  simp only [List.append_nil] at hW'
  have hlaw := Go.V.L11.wiresParse_law a (w := W) (Heap.Le.refl _) hglob
  unfold Ret at hlaw
  refine hlaw.mono fun e W' hp => ?_
  obtain ⟨v, rfl, H', g, rfl⟩ := hp
  refine ⟨_, rfl, _, _, _, [], [] ++ ([]), [], hW', trodAll_cons_mk (shut_bool Tryz.underlying4 _) trodAll_mk0, ?_, rfl, g.below.frame _, fun h => by cases h⟩
  exact trodAll_cons_mk (shut_string Tryz.underlying9 w0) trodAll_mk0
theorem j1 : (Rows.wiresParseRow.inPlace == Tryz.prog.inPlace 4) = true := by kernel_rfl
theorem j2 : (Rows.wiresParseRow.unfollowed == Tryz.prog.unfollowed 4) = true := by kernel_rfl
theorem j3 : (Rows.wiresParseRow.recurses == Tryz.prog.recurses 4) = true := by kernel_rfl
theorem j4 : (Rows.wiresParseRow.named == Tryz.prog.varsNamed 4) = true := by kernel_rfl
theorem j5 : Tryz.prog.stopsHeard = true := by kernel_rfl
theorem j6 : laidOutB Tryz.prog = true := by kernel_rfl
theorem joined : joinedFacts Tryz.prog 4 Tryz.f4 Rows.wiresParseSpec Rows.wiresParseRow = true := by
  unfold joinedFacts
  rw [j1, j2, j3, j4, j5, j6]
  kernel_rfl
theorem proved : Rows.WiresParseSaid :=
  OpenClaim.holds_of_wide 4 Tryz.f4 rfl rfl rfl rfl rfl rfl rfl ⟨rfl, rfl, rfl, rfl, rfl⟩ rfl rfl rfl rfl rfl (by kernel_rfl) Tryz.func4 joined
    (of_decide_eq_true (by kernel_rfl)) (by unfold Func.isWrapper; first | (rw [if_pos (by decide +kernel)]; kernel_rfl) | (rw [if_neg (by decide +kernel)]; exact ⟨rfl, rfl⟩))
    (fun os started H enc _ => lifted os started H enc)
#print axioms proved
end Go.Proofs.YtefilnnomholbaaGreat.wiresParse
