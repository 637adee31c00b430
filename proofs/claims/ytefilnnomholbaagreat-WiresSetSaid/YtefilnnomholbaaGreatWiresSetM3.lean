/- Texts on the way to WiresSet, part 3: one behind another. -/
import Derived.Test.YtefilnnomholbaaGreatWiresSetM2
import Derived.Laws.IdiomRangeMap
import Derived.Laws.Build
import Derived.WalkSmall
import Derived.RecoverIn
import Derived.Lib.IndexMore
import Derived.Lib.IndexLaws
import Derived.Lib.IndexBytes
set_option linter.unusedVariables false
set_option linter.unusedSimpArgs false
set_option maxRecDepth 20000
namespace Go.V.L4
open Go.Proofs Go.RowKit Go.V
theorem _root_.Go.V.ZcB {A B:Prop} (h:B) (t:Wr B → A:=by intro h; refine z7 (z3v rfl rfl rfl rfl) rfl ?_;exact h.h):A:=t ⟨h⟩
theorem _root_.Go.V.ZaQ {A B:Prop} (h:B) (t:Wr B → A:=by intro h; refine z7 (zr1 rfl rfl rfl rfl) rfl ?_;exact h.h):A:=t ⟨h⟩
theorem _root_.Go.V.ZG {A B:Prop} (h:B) (t:Wr B → A:=by intro h; refine Zae ?_;refine ZQ ?_;exact h.h):A:=t ⟨h⟩
theorem _root_.Go.V.ZT {A B:Prop} (h:B) (t:Wr B → A:=by intro h; refine Zd ?_;refine Z4 ?_;exact h.h):A:=t ⟨h⟩
theorem _root_.Go.V.ZZ {A B:Prop} (h:B) (t:Wr B → A:=by intro h; refine ZC ?_;refine ZcB ?_;exact h.h):A:=t ⟨h⟩
theorem _root_.Go.V.ZfU {A B:Prop} (h:B) (t:Wr B → A:=by intro h; refine Zw ?_;refine ZaP ?_;exact h.h):A:=t ⟨h⟩
theorem _root_.Go.V.ZbA {A B:Prop} (h:B) (t:Wr B → A:=by intro h; refine Z8 ?_;refine Zc ?_;exact h.h):A:=t ⟨h⟩
theorem _root_.Go.V.ZfV {A B:Prop} (h:B) (t:Wr B → A:=by intro h; refine ZfU ?_;refine Zei ?_;exact h.h):A:=t ⟨h⟩
theorem _root_.Go.V.ZcC {A B:Prop} (h:B) (t:Wr B → A:=by intro h; refine ZQ ?_;refine ZfV ?_;exact h.h):A:=t ⟨h⟩
theorem _root_.Go.V.ZcD {A B:Prop} (h:B) (t:Wr B → A:=by intro h; refine ZL ?_;refine ZaP ?_;exact h.h):A:=t ⟨h⟩
attribute [local irreducible] V N X VO Par StepOK Has Ret RetL RetO RetT zbd RetX RetY Src
theorem zug {rb:Nat} {bs:List Nat} {fu:Bool} {sv:Value} {R:Rd} {lim:Nat} {e:Int} (hb:∀ b ∈ bs, b ≤ 255) (hl:bs.length ≤ 1099511627776) (hat:R.at_ ≤ bs.length) {w:World} {B:Heap} {C:Nat → Prop} (hB:B.Le (hp w)) (hs:BsV bs fu sv B) (hr:(GRd rb sv R).P B w C) (hC:∀ k, C k → k < w.heap.size ∧ B k = none) :
  RetX Tryz.prog 208 [zam rb, .int .u64 lim, .int .i64 e] w B C (GRd rb sv (zd1 bs lim e R).2) (.int .u64 ((zd1 bs lim e R).1:Nat)):=by
 unfold RetX
 refine zaf 900 (GRd rb sv R) Tryz.func208 rfl Tryz.ntmps208 (Nat.le_of_ble_eq_true rfl) hB hr hC ?_
 rw [zac]
 obtain ⟨⟨n, ⟨at1, bad1, err1⟩⟩, hz⟩:∃ z, zfv bs R = z:=⟨_, rfl⟩
 obtain ⟨at_, bad, err⟩:=R
 unfold zd1
 rw [hz]
 dsimp only
 have hnum:=fun (u:World) (H:Heap) (C2:Nat → Prop) (hH:H.Le (hp u)) (hle:B.Le H) hr2 hC2 => hz ▸ zmo (R:=⟨at_, bad, err⟩) (rb:=rb) (C:=C2) hb hl hat hH (hs.le hle) hr2 hC2
 by_cases hlt:lim < n
 ·rw [if_pos hlt]
  refine Zac ?_;refine ZbR ?_;refine ZT ?_;refine qe (yc L 900 (GRd rb sv ⟨at1, bad1, err1⟩) (.int .u64 n) (r:=GRd rb sv ⟨at_, bad, err⟩) rfl rfl rfl rfl rfl hnum) ?_;refine Zg ?_;refine Zk ?_;refine Zc ?_;refine Z2 ?_;refine Z9 ?_;refine Zr ?_;refine ZF ?_;refine qe (zau L 900 (GRd rb sv ((⟨at1, bad1, err1⟩:Rd).fail at_ e)) (r:=GRd rb sv ⟨at1, bad1, err1⟩) rfl rfl rfl rfl rfl (fun u H C2 hH _ hr2 hC2 => zgo hH hr2 hC2)) ?_;refine Zj ?_;refine Zbb ?_;refine Zb ?_
  exact zaq L 900 (r:=zai rb _ zd0) (rs:=[.tmp 6]) rfl (fun _ _ h => h) Since.refl rfl rfl (fun _ => rfl)
 ·rw [if_neg hlt]
  refine Zac ?_;refine ZbR ?_;refine ZT ?_;refine qe (yc L 900 (GRd rb sv ⟨at1, bad1, err1⟩) (.int .u64 n) (r:=GRd rb sv ⟨at_, bad, err⟩) rfl rfl rfl rfl rfl hnum) ?_;refine Zg ?_;refine Zk ?_;refine Zc ?_;refine Zbv ?_;refine Zbb ?_;refine Zb ?_
  exact zaq L 900 (r:=zai rb _ zd0) (rs:=[.tmp 6]) rfl (fun _ _ h => h) Since.refl rfl rfl (fun _ => rfl)
theorem zum {rb:Nat} {sv:Value} {R:Rd} {gf:Rd → Int × Rd} {fr:Nat} {fst cap:List Value} (hfn:L.fn fr = some ()) {w:World} {B:Heap} {C:Nat → Prop} (hB:B.Le (hp w)) (hr:(GRd rb sv R).P B w C) (hC:∀ k, C k → k < w.heap.size ∧ B k = none)
  (hf:R.err = 0 → ∀ (u:World) (H:Heap) (C:Nat → Prop), H.Le (hp u) → B.Le H → (GRd rb sv R).P H u C → (∀ k, C k → k < u.heap.size ∧ H k = none) → RetX Tryz.prog fr (fst ++ cap) u H C (GRd rb sv (gf R).2) (.int .i64 ((gf R).1:Int))) :
  RetX Tryz.prog 206 [zam rb, .func (.func fr) fst.toArray cap.toArray] w B C (GRd rb sv (zdr gf 0 R).2) (.int .i64 ((zdr gf 0 R).1:Int)):=by
 unfold RetX
 refine zaf 900 (GRd rb sv R) Tryz.func206 rfl Tryz.ntmps206 (Nat.le_of_ble_eq_true rfl) hB hr hC ?_
 rw [zac]
 obtain ⟨⟨n, ⟨at1, bad1, err1⟩⟩, hz⟩:∃ z, gf R = z:=⟨_, rfl⟩
 obtain ⟨at_, bad, err⟩:=R
 unfold zdr
 rw [hz] at hf ⊢
 dsimp only at hf ⊢
 by_cases h0:err ≠ 0
 ·rw [if_pos h0]
  refine Zdx ?_;refine qe (yc L 900 (GRd rb sv ⟨at_, bad, err⟩) (.bool true) (r:=GRd rb sv ⟨at_, bad, err⟩) rfl rfl rfl rfl rfl (fun u H C2 hH _ hr2 hC2 => zar (decide_eq_true h0) hH hr2 hC2)) ?_;refine Zt ?_;refine Zs ?_;refine Zb ?_
  exact zaq L 900 (r:=zai rb _ zd0) (rs:=[.tmp 4]) rfl (fun _ _ h => h) Since.refl rfl rfl (fun _ => rfl)
 ·have he:err = 0:=Decidable.not_not.1 h0
  subst he
  rw [if_neg h0]
  have hf:=hf rfl
  by_cases h1:err1 ≠ 0
  ·rw [if_pos h1]
   refine Zdx ?_;refine qe (yc L 900 (GRd rb sv ⟨at_, bad, 0⟩) (.bool false) (r:=GRd rb sv ⟨at_, bad, 0⟩) rfl rfl rfl rfl rfl (fun u H C2 hH _ hr2 hC2 => zar (decide_eq_false h0) hH hr2 hC2)) ?_;refine ZcC ?_;refine qe (zbc L 900 (GRd rb sv ⟨at1, bad1, err1⟩) (.int .i64 n) (r:=GRd rb sv ⟨at_, bad, 0⟩) rfl rfl rfl hfn rfl hf) ?_;refine Zg ?_;refine ZcD ?_;refine Zz ?_;refine ZbA ?_;refine ZK ?_;refine ym (yf L (q:=900) (cs':=[sv, .int .i64 at_, .int .i64 bad1, .int .i64 err1]) rfl rfl rfl rfl rfl rfl rfl rfl rfl) ?_;refine Zj ?_;refine ZaA ?_;refine Zb ?_
   exact zaq L 900 (r:=zai rb _ zd0) (rs:=[.tmp 4]) rfl (fun _ _ h => h) Since.refl rfl rfl (fun _ => rfl)
  ·have he:err1 = 0:=Decidable.not_not.1 h1
   subst he
   rw [if_neg h1]
   refine Zdx ?_;refine qe (yc L 900 (GRd rb sv ⟨at_, bad, 0⟩) (.bool false) (r:=GRd rb sv ⟨at_, bad, 0⟩) rfl rfl rfl rfl rfl (fun u H C2 hH _ hr2 hC2 => zar (decide_eq_false h0) hH hr2 hC2)) ?_;refine ZcC ?_;refine qe (zbc L 900 (GRd rb sv ⟨at1, bad1, 0⟩) (.int .i64 n) (r:=GRd rb sv ⟨at_, bad, 0⟩) rfl rfl rfl hfn rfl hf) ?_;refine Zg ?_;refine ZcD ?_;refine ZG ?_;refine Zb8 ?_;refine Zb ?_
   exact zaq L 900 (r:=zai rb _ zd0) (rs:=[.tmp 4]) rfl (fun _ _ h => h) Since.refl rfl rfl (fun _ => rfl)
theorem zui {rb:Nat} {sv:Value} {R:Rd} {gf:Rd → Nat × Rd} {fr:Nat} {fst cap:List Value} (hfn:L.fn fr = some ()) {w:World} {B:Heap} {C:Nat → Prop} (hB:B.Le (hp w)) (hr:(GRd rb sv R).P B w C) (hC:∀ k, C k → k < w.heap.size ∧ B k = none)
  (hf:R.err = 0 → ∀ (u:World) (H:Heap) (C:Nat → Prop), H.Le (hp u) → B.Le H → (GRd rb sv R).P H u C → (∀ k, C k → k < u.heap.size ∧ H k = none) → RetX Tryz.prog fr (fst ++ cap) u H C (GRd rb sv (gf R).2) (.int .u64 ((gf R).1:Nat))) :
  RetX Tryz.prog 141 [zam rb, .func (.func fr) fst.toArray cap.toArray] w B C (GRd rb sv (zdr gf 0 R).2) (.int .u64 ((zdr gf 0 R).1:Nat)):=by
 unfold RetX
 refine zaf 900 (GRd rb sv R) Tryz.func141 rfl Tryz.ntmps141 (Nat.le_of_ble_eq_true rfl) hB hr hC ?_
 rw [zac]
 obtain ⟨⟨n, ⟨at1, bad1, err1⟩⟩, hz⟩:∃ z, gf R = z:=⟨_, rfl⟩
 obtain ⟨at_, bad, err⟩:=R
 unfold zdr
 rw [hz] at hf ⊢
 dsimp only at hf ⊢
 by_cases h0:err ≠ 0
 ·rw [if_pos h0]
  refine Zdx ?_;refine qe (yc L 900 (GRd rb sv ⟨at_, bad, err⟩) (.bool true) (r:=GRd rb sv ⟨at_, bad, err⟩) rfl rfl rfl rfl rfl (fun u H C2 hH _ hr2 hC2 => zar (decide_eq_true h0) hH hr2 hC2)) ?_;refine Zt ?_;refine Zs ?_;refine Zb ?_
  exact zaq L 900 (r:=zai rb _ zd0) (rs:=[.tmp 4]) rfl (fun _ _ h => h) Since.refl rfl rfl (fun _ => rfl)
 ·have he:err = 0:=Decidable.not_not.1 h0
  subst he
  rw [if_neg h0]
  have hf:=hf rfl
  by_cases h1:err1 ≠ 0
  ·rw [if_pos h1]
   refine Zdx ?_;refine qe (yc L 900 (GRd rb sv ⟨at_, bad, 0⟩) (.bool false) (r:=GRd rb sv ⟨at_, bad, 0⟩) rfl rfl rfl rfl rfl (fun u H C2 hH _ hr2 hC2 => zar (decide_eq_false h0) hH hr2 hC2)) ?_;refine ZcC ?_;refine qe (zbc L 900 (GRd rb sv ⟨at1, bad1, err1⟩) (.int .u64 n) (r:=GRd rb sv ⟨at_, bad, 0⟩) rfl rfl rfl hfn rfl hf) ?_;refine Zg ?_;refine ZcD ?_;refine Zz ?_;refine ZbA ?_;refine ZK ?_;refine ym (yf L (q:=900) (cs':=[sv, .int .i64 at_, .int .i64 bad1, .int .i64 err1]) rfl rfl rfl rfl rfl rfl rfl rfl rfl) ?_;refine Zj ?_;refine ZaA ?_;refine Zb ?_
   exact zaq L 900 (r:=zai rb _ zd0) (rs:=[.tmp 4]) rfl (fun _ _ h => h) Since.refl rfl rfl (fun _ => rfl)
  ·have he:err1 = 0:=Decidable.not_not.1 h1
   subst he
   rw [if_neg h1]
   refine Zdx ?_;refine qe (yc L 900 (GRd rb sv ⟨at_, bad, 0⟩) (.bool false) (r:=GRd rb sv ⟨at_, bad, 0⟩) rfl rfl rfl rfl rfl (fun u H C2 hH _ hr2 hC2 => zar (decide_eq_false h0) hH hr2 hC2)) ?_;refine ZcC ?_;refine qe (zbc L 900 (GRd rb sv ⟨at1, bad1, 0⟩) (.int .u64 n) (r:=GRd rb sv ⟨at_, bad, 0⟩) rfl rfl rfl hfn rfl hf) ?_;refine Zg ?_;refine ZcD ?_;refine ZG ?_;refine Zb8 ?_;refine Zb ?_
   exact zaq L 900 (r:=zai rb _ zd0) (rs:=[.tmp 4]) rfl (fun _ _ h => h) Since.refl rfl rfl (fun _ => rfl)
theorem zrp {rb:Nat} {bs:List Nat} {fu:Bool} {sv:Value} {R:Rd} (hb:∀ b ∈ bs, b ≤ 255) (hl:bs.length ≤ 1099511627776) (hat:R.at_ ≤ bs.length) {w:World} {B:Heap} {C:Nat → Prop} (hB:B.Le (hp w)) (hs:BsV bs fu sv B) (hr:(GRd rb sv R).P B w C) (hC:∀ k, C k → k < w.heap.size ∧ B k = none) :
  RetX Tryz.prog 76 [zam rb] w B C (GRd rb sv (zjt bs R).2) (.int .u64 ((zjt bs R).1:Nat)):=by
 unfold RetX
 refine zaf 900 (GRd rb sv R) Tryz.func76 rfl Tryz.ntmps76 (Nat.le_of_ble_eq_true rfl) hB hr hC ?_
 rw [zac]
 refine Zac ?_;refine Zc ?_;refine ZaQ ?_;refine qe (yc L 900 (GRd rb sv (zjt bs R).2) (.int .u64 ((zjt bs R).1:Nat)) (r:=GRd rb sv R) rfl rfl rfl rfl rfl (fun u H C2 hH hle hr2 hC2 => zui (gf:=zfv bs) (fst:=[zam rb]) (cap:=[]) rfl hH hr2 hC2 (fun _ u3 H3 C3 hH3 hle3 hr3 hC3 => zmo hb hl hat hH3 ((hs.le hle).le hle3) hr3 hC3))) ?_;refine Zb ?_
 exact zaq L 900 (r:=zai rb _ zd0) (rs:=[.tmp 2]) rfl (fun _ _ h => h) Since.refl rfl rfl (fun _ => rfl)
theorem z0z {rb b2 b3:Nat} {bs:List Nat} {fu:Bool} {sv:Value} {R:Rd} {lim:Nat} (hlim:lim ≤ 1099511627776) (hb:∀ b ∈ bs, b ≤ 255) (hl:bs.length ≤ 1099511627776) (hat:R.at_ ≤ bs.length) {w:World} {B:Heap} {C:Nat → Prop} (hB:B.Le (hp w)) (hs:BsV bs fu sv B) (h2:B b2 = some (.cells #[zam rb] 154)) (h3:B b3 = some (.cells #[.int .i64 lim] 3)) (hr:(GRd rb sv R).P B w C) (hC:∀ k, C k → k < w.heap.size ∧ B k = none) :
  RetX Tryz.prog 207 [zam b2, zam b3] w B C (GRd rb sv (zq8 bs lim R).2) (.int .i64 (zq8 bs lim R).1):=by
 unfold RetX
 refine zaf 900 (GRd rb sv R) Tryz.func207 rfl Tryz.ntmps207 (Nat.le_of_ble_eq_true rfl) hB hr hC ?_
 rw [zac]
 have hmx:max (lim:Int) 0 = lim:=by omega
 have hcu:IntKind.u64.wrap (lim:Int) = (lim:Int):=zal (by omega) (by omega)
 obtain ⟨⟨n, ⟨at1, bad1, err1⟩⟩, hz⟩:∃ z, zd1 bs lim 3 R = z:=⟨_, rfl⟩
 unfold zq8
 rw [hz]
 dsimp only
 have hci:IntKind.i64.wrap ((n:Nat):Int) = IntKind.i64.wrap ((n:Nat):Int):=rfl
 refine Zac ?_;refine z7 (q6 L (qn rfl h2) rfl rfl rfl rfl) rfl ?_;refine z7 (q6 L (qn rfl h3) rfl rfl rfl rfl) rfl ?_;refine z7 (zf4 rfl rfl rfl rfl rfl) rfl ?_;refine z7 (za0 rfl rfl rfl zcb.1 zcb.2 (zal (by omega) (by omega))) rfl ?_;refine qe (yc L 900 (GRd rb sv ⟨at1, bad1, err1⟩) (.int .u64 n) (r:=GRd rb sv R) rfl rfl rfl rfl rfl (fun u H C2 hH hle hr2 hC2 => by have h:=zug (lim:=lim) (e:=3) hb hl hat hH (hs.le hle) hr2 hC2; rw [hz] at h; exact h)) ?_;refine z7 (za0 rfl rfl rfl rfl rfl hci) rfl ?_;refine Zb ?_
 exact zaq L 900 (r:=zai rb _ zd0) (rs:=[.tmp 2]) rfl (fun _ _ h => h) Since.refl rfl rfl (fun _ => rfl)
theorem len_ret {rb:Nat} {bs:List Nat} {fu:Bool} {sv:Value} {R:Rd} {lim:Nat} (hlim:lim ≤ 1099511627776) (hb:∀ b ∈ bs, b ≤ 255) (hl:bs.length ≤ 1099511627776) (hat:R.at_ ≤ bs.length) {w:World} {B:Heap} {C:Nat → Prop} (hB:B.Le (hp w)) (hs:BsV bs fu sv B) (hr:(GRd rb sv R).P B w C) (hC:∀ k, C k → k < w.heap.size ∧ B k = none) :
  RetX Tryz.prog 138 [zam rb, .int .i64 lim] w B C (GRd rb sv (zbp bs lim R).2) (.int .i64 (zbp bs lim R).1):=by
 unfold RetX
 refine zaf 900 (GRd rb sv R) Tryz.func138 rfl Tryz.ntmps138 (Nat.le_of_ble_eq_true rfl) hB hr hC ?_
 rw [zac]
 refine ZZ ?_;refine ZcB ?_;refine Zd ?_
 refine zax 2 901 rfl fun b2 => ?_
 refine zax 3 902 rfl fun b3 => ?_
 refine zei 901 rfl fun H1 hs1 _ h2 => ?_
 refine zei 902 rfl fun H2 hs2 _ h3 => ?_
 have h2:=hs2.le _ _ h2
 have hs12:=hs1.trans hs2
 have hs':=hs.le hs12.le
 refine Zx ?_;refine z7 (q6 L (qn rfl h2) rfl rfl rfl rfl) rfl ?_;refine ZaQ ?_;refine qe (yc L 900 (GRd rb sv (zbp bs lim R).2) (.int .i64 (zbp bs lim R).1) (r:=GRd rb sv R) rfl rfl rfl rfl rfl (fun u H C2 hH hle hr2 hC2 => zum (gf:=zq8 bs lim) (fst:=[]) (cap:=[zam b2, zam b3]) rfl hH hr2 hC2 (fun _ u3 H3 C3 hH3 hle3 hr3 hC3 => z0z hlim hb hl hat hH3 ((hs'.le hle).le hle3) ((hle.trans hle3) _ _ h2) ((hle.trans hle3) _ _ h3) hr3 hC3))) ?_;refine Zb ?_
 exact zaq L 900 (r:=zai rb _ zd0) (rs:=[.tmp 4]) rfl (fun _ _ h => h) hs12 rfl rfl (fun _ => rfl)
end Go.V.L4
set_option maxRecDepth 20000
namespace Go.V.L4
open Go.Proofs Go.RowKit Go.V
theorem _root_.Go.V.ZeN {A B:Prop} (h:B) (t:Wr B → A:=by intro h; refine z7 (zz rfl rfl rfl rfl) rfl ?_;exact h.h):A:=t ⟨h⟩
theorem _root_.Go.V.Zp {A B:Prop} (h:B) (t:Wr B → A:=by intro h; refine z7 (z2d rfl rfl rfl rfl) rfl ?_;exact h.h):A:=t ⟨h⟩
theorem _root_.Go.V.Zen {A B:Prop} (h:B) (t:Wr B → A:=by intro h; refine zd (zp7 rfl rfl rfl rfl (by assumption)) rfl ?_;exact h.h):A:=t ⟨h⟩
theorem _root_.Go.V.ZdT {A B:Prop} (h:B) (t:Wr B → A:=by intro h; refine ZeN ?_;refine ZeN ?_;exact h.h):A:=t ⟨h⟩
theorem _root_.Go.V.Z5 {A B:Prop} (h:B) (t:Wr B → A:=by intro h; refine Zq ?_;refine Zb ?_;exact h.h):A:=t ⟨h⟩
theorem _root_.Go.V.Zar {A B:Prop} (h:B) (t:Wr B → A:=by intro h; refine ZC ?_;refine Zq ?_;exact h.h):A:=t ⟨h⟩
theorem _root_.Go.V.ZbB {A B:Prop} (h:B) (t:Wr B → A:=by intro h; refine Za5 ?_;refine Zl ?_;exact h.h):A:=t ⟨h⟩
theorem _root_.Go.V.ZbC {A B:Prop} (h:B) (t:Wr B → A:=by intro h; refine Zp ?_;refine Zc ?_;exact h.h):A:=t ⟨h⟩
theorem _root_.Go.V.Zdy {A B:Prop} (h:B) (t:Wr B → A:=by intro h; refine ZQ ?_;refine Zs ?_;exact h.h):A:=t ⟨h⟩
def zgp (bs:List Nat) (R:Rd):Nat × Int:=if R.err = 0 ∧ R.at_ < bs.length then (R.at_, 5) else (R.bad, R.err)
attribute [local irreducible] V N X VO Par StepOK Has Ret RetL RetO RetT zbd RetX RetY Src
theorem at_ret {rb:Nat} {sv:Value} {R:Rd} {w:World} {B:Heap} {C:Nat → Prop} (hB:B.Le (hp w)) (hr:(GRd rb sv R).P B w C) (hC:∀ k, C k → k < w.heap.size ∧ B k = none):RetX Tryz.prog 139 [zam rb] w B C (GRd rb sv R) (.int .i64 R.at_):=by
 unfold RetX
 refine zaf 900 (GRd rb sv R) Tryz.func139 rfl Tryz.ntmps139 (Nat.le_of_ble_eq_true rfl) hB hr hC ?_
 rw [zac]
 refine ZaL ?_;refine z7 (zc2 rfl rfl rfl rfl z0r rfl) rfl ?_;refine Zdy ?_;refine ZaP ?_;refine Zb ?_
 exact zaq L 900 (r:=zai rb _ zd0) (rs:=[.tmp 2]) rfl (fun _ _ h => h) Since.refl rfl rfl (fun _ => rfl)
theorem zjz {rb:Nat} {bs:List Nat} {fu:Bool} {sv:Value} {R:Rd} (hl:bs.length ≤ 1099511627776) (hat:R.at_ ≤ bs.length) {w:World} {B:Heap} {C:Nat → Prop} (hB:B.Le (hp w)) (hs:BsV bs fu sv B) (hr:(GRd rb sv R).P B w C) (hC:∀ k, C k → k < w.heap.size ∧ B k = none):RetX Tryz.prog 219 [zam rb] w B C (GRd rb sv R) (.int .i64 (bs.length - R.at_:Nat)):=by
 obtain ⟨p, c, rfl⟩:=zbt hs
 unfold RetX
 refine zaf 900 (GRd rb _ R) Tryz.func219 rfl Tryz.ntmps219 (Nat.le_of_ble_eq_true rfl) hB hr hC ?_
 rw [zac]
 obtain ⟨at_, bad, err⟩:=R
 dsimp only [rdC] at hat ⊢
 have hw:IntKind.i64.wrap ((bs.length:Int) - (at_:Int)) = ((bs.length - at_:Nat):Int):=(zad (by omega) (by omega)).trans (by omega)
 refine ZaL ?_;refine z7 (zc2 rfl rfl rfl rfl z0r rfl) rfl ?_;refine ZQ ?_;refine qh (id:=3) [(200008, [900]), (200013, [900])] mixed (by kernel_rfl) ?_;refine Zdg ?_;refine Za8 ?_;refine Zen ?_;refine Zl ?_
 exact zaq L 900 (r:=zai rb _ zd0) (rs:=[.tmp 2]) rfl (fun _ _ h => h) Since.refl rfl rfl (fun _ => rfl)
theorem fault_ret {rb:Nat} {sv:Value} {R:Rd} {w:World} {B:Heap} {C:Nat → Prop} (hB:B.Le (hp w)) (hr:(GRd rb sv R).P B w C) (hC:∀ k, C k → k < w.heap.size ∧ B k = none):RetX Tryz.prog 140 [zam rb] w B C (GRd rb sv R) (.tuple #[.int .i64 R.bad, .int .i64 R.err]):=by
 unfold RetX
 refine zaf 900 (GRd rb sv R) Tryz.func140 rfl Tryz.ntmps140 (Nat.le_of_ble_eq_true rfl) hB hr hC ?_
 rw [zac]
 refine Zar ?_;refine Zb3 ?_;refine z7 (zc2 rfl rfl rfl rfl z0r rfl) rfl ?_;refine ZQ ?_;refine qh (id:=3) [(200009, [900]), (200013, [900])] mixed (by kernel_rfl) ?_;refine Za8 ?_;refine Za8 ?_;refine ZbB ?_
 exact zaq L 900 (r:=zai rb _ zd0) (rs:=[.tmp 2, .tmp 3]) rfl (fun _ _ h => h) Since.refl rfl rfl (fun _ => rfl)
theorem zy1 {rb:Nat} {bs:List Nat} {fu:Bool} {sv:Value} {R:Rd} (hl:bs.length ≤ 1099511627776) (hat:R.at_ ≤ bs.length) {w:World} {B:Heap} {C:Nat → Prop} (hB:B.Le (hp w)) (hs:BsV bs fu sv B) (hr:(GRd rb sv R).P B w C) (hC:∀ k, C k → k < w.heap.size ∧ B k = none):RetX Tryz.prog 148 [zam rb] w B C (GRd rb sv R) (.tuple #[.int .i64 (zgp bs R).1, .int .i64 (zgp bs R).2]):=by
 unfold RetX
 refine zaf 900 (GRd rb sv R) Tryz.func148 rfl Tryz.ntmps148 (Nat.le_of_ble_eq_true rfl) hB hr hC ?_
 rw [zac]
 obtain ⟨at_, bad, err⟩:=R
 unfold zgp
 dsimp only [rdC] at hat ⊢
 by_cases h0:err = 0
 ·subst h0
  by_cases h1:at_ < bs.length
  ·rw [if_pos ⟨rfl, h1⟩]
   refine Zar ?_;refine Zb3 ?_;refine qe (yc L 900 (GRd rb sv ⟨at_, bad, 0⟩) (.bool false) (r:=GRd rb sv ⟨at_, bad, 0⟩) rfl rfl rfl rfl rfl (fun u H C2 hH _ hr2 hC2 => zar (decide_eq_false fun h => h rfl) hH hr2 hC2)) ?_;refine ZbC ?_;refine qe (yc L 900 (GRd rb sv ⟨at_, bad, 0⟩) (.int .i64 (bs.length - at_:Nat)) (r:=GRd rb sv ⟨at_, bad, 0⟩) rfl rfl rfl rfl rfl (fun u H C2 hH hle hr2 hC2 => zjz hl hat hH (hs.le hle) hr2 hC2)) ?_;refine Z2 ?_;refine ZaM ?_;refine Z4 ?_;refine ZaP ?_;refine Z5 ?_
   exact zaq L 900 (r:=zai rb _ zd0) (rs:=[.tmp 2, .tmp 3]) rfl (fun _ _ h => h) Since.refl rfl rfl (fun _ => rfl)
  ·rw [if_neg (fun h => h1 h.2)]
   refine Zar ?_;refine Zb3 ?_;refine qe (yc L 900 (GRd rb sv ⟨at_, bad, 0⟩) (.bool false) (r:=GRd rb sv ⟨at_, bad, 0⟩) rfl rfl rfl rfl rfl (fun u H C2 hH _ hr2 hC2 => zar (decide_eq_false fun h => h rfl) hH hr2 hC2)) ?_;refine ZbC ?_;refine qe (yc L 900 (GRd rb sv ⟨at_, bad, 0⟩) (.int .i64 (bs.length - at_:Nat)) (r:=GRd rb sv ⟨at_, bad, 0⟩) rfl rfl rfl rfl rfl (fun u H C2 hH hle hr2 hC2 => zjz hl hat hH (hs.le hle) hr2 hC2)) ?_;refine ZS ?_;refine ZY ?_;refine Zs ?_;refine qe (yc L 900 (GRd rb sv ⟨at_, bad, 0⟩) (.tuple #[.int .i64 bad, .int .i64 0]) (r:=GRd rb sv ⟨at_, bad, 0⟩) rfl rfl rfl rfl rfl (fun u H C2 hH hle hr2 hC2 => fault_ret hH hr2 hC2)) ?_;refine ZdT ?_;refine Z5 ?_
   exact zaq L 900 (r:=zai rb _ zd0) (rs:=[.tmp 2, .tmp 3]) rfl (fun _ _ h => h) Since.refl rfl rfl (fun _ => rfl)
 ·rw [if_neg (fun h => h0 h.1)]
  refine Zar ?_;refine Zb3 ?_;refine qe (yc L 900 (GRd rb sv ⟨at_, bad, err⟩) (.bool true) (r:=GRd rb sv ⟨at_, bad, err⟩) rfl rfl rfl rfl rfl (fun u H C2 hH _ hr2 hC2 => zar (decide_eq_true h0) hH hr2 hC2)) ?_;refine Zp ?_;refine Zap ?_;refine Zdy ?_;refine qe (yc L 900 (GRd rb sv ⟨at_, bad, err⟩) (.tuple #[.int .i64 bad, .int .i64 err]) (r:=GRd rb sv ⟨at_, bad, err⟩) rfl rfl rfl rfl rfl (fun u H C2 hH hle hr2 hC2 => fault_ret hH hr2 hC2)) ?_;refine ZdT ?_;refine Z5 ?_
  exact zaq L 900 (r:=zai rb _ zd0) (rs:=[.tmp 2, .tmp 3]) rfl (fun _ _ h => h) Since.refl rfl rfl (fun _ => rfl)
end Go.V.L4
set_option maxRecDepth 20000
namespace Go.V
open Go.RowKit
def SlX (e:TypeId) (s cap n:Nat) (xs:List Value):Res where
 P x _ u C:=xs.length = n * s ∧ ∃ b rest, x = .slice (some ⟨b, 0, none⟩) n cap ∧ u.heap[b]? = some (.cells (xs ++ rest).toArray e) ∧ n ≤ cap ∧ cap ≤ maxLen ∧ (xs ++ rest).length = cap * s ∧ ∀ k, C k ↔ k = b
 st:=fun ⟨hl, b, rest, h1, h2, h3, h4, h5, h6⟩ _ _ _ hk => ⟨hl, b, rest, h1, (hk b ((h6 b).2 rfl)).trans h2, h3, h4, h5, h6⟩
section
variable {P:Program} {F:Fr} {B:Heap} {O:Boxes} {n:Nat} {ops:Array Oper} {κ:Kap} {d:Nat} {ty:TypeId} {pos:String} {aft:Array Edge} {g:Option (Nat × Bool)} {Q:Exit → Act → World → Prop}
theorem zxp (L:Tabs P) {t e:TypeId} {x y:Operand} {kl kc:IntKind} {s by_:Nat} (c:Nat) {p:Int} (hn:Nat.blt d n = true) (hg:gK ops κ ⟨some d, .makeSlice t x y, ty, pos, aft, g⟩ = some true) (ht:L.sl t = some e) (he:elI P e = some (s, by_))
  (hx:evK κ x = some (.int kl 0)) (hy:evK κ y = some (.int kc p)) (hp:p = c) (hb:by_ * c ≤ 281474976710656) (hc:c ≤ maxLen):StepOK P F B n ops O κ ⟨some d, .makeSlice t x y, ty, pos, aft, g⟩ d (.own (SlX e s c 0 [])):=by
 rintro κ' a u hl ⟨H, fp, hh⟩
 unfold After
 rw [if_pos (zae hh hl hg)]
 have en:=hh.env hl
 obtain ⟨i, z, hi, hz, hs1, hs2, hs3, hs4⟩:=zer he
 have h1:=en.is_ x _ (by simp [Op.operands]) hx
 have h2:=en.is_ y _ (by simp [Op.operands]) hy
 subst hp
 have hb':(i.bytes:Int) * (c:Int) ≤ 281474976710656:=by
  have h:((by_ * c:Nat):Int) ≤ 281474976710656:=by omega
  rw [hs2]; rwa [Int.natCast_mul] at h
 have h63:(c:Int) ≤ 9223372036854775807:=by simp [maxLen] at hc; omega
 have hr:=run_make (P:=P) u t e i z (Tabs.sl_spec ht) hi hz kl kc 0 c (Int.le_refl _) (by omega) hb' h63
 simp only [Int.toNat_zero, Int.toNat_natCast] at hr
 have hrun:(execOp a.eval ⟨some d, .makeSlice t x y, ty, pos, aft, g⟩).run P u = .ok (.value (.slice (some ⟨u.heap.size, 0, none⟩) 0 c)) (u.alloc (.cells (madeCells z.cells (c * i.size)) e)):=by
  simp only [execOp, h1, h2, Sem.run_bind, hr, Result.andThen_ok]; rfl
 rw [hrun]
 simp only [Upon]
 have hg2:=hh.grow (Grow.hid hh.sub (.cells (madeCells z.cells (c * i.size)) e))
 refine ⟨H, _, hg2.putR (C:=fun k => k = u.heap.size) (by simp [Act.put]) rfl (fun t ht => zap ht) ⟨by simp, u.heap.size, (madeCells z.cells (c * i.size)).toList, zat (by rw [hh.size]; exact zn hn), by rw [zak]; simp, Nat.zero_le _, hc, by simp [size_madeCells, hs1], fun _ => Iff.rfl⟩ (fun k hk => ?_) fun t r' _ ht k hf hk => ?_⟩
 ·subst hk
  exact ⟨zaa (zak u _), za8 hh.sub (Nat.le_refl _), .inl hh.keep.size, fun y hy e => by have:=zaa (hh.boxes y hy).1; omega⟩
 ·have:=((hh.slot t _ ht).2 k hf).1
  omega
theorem z1q (t q:Nat) {e:TypeId} {s cap m:Nat} {xs:List Value} {c:Code} (hk:κ t = some (.own (SlX e s cap m xs)))
  (h:∀ b rest, xs.length = m * s → m ≤ cap → cap ≤ maxLen → (xs ++ rest).length = cap * s → V P F B n O (upd (upd (upd κ t zed) q (.own (zaj b (xs ++ rest) e))) t (.is (.slice (some ⟨b, 0, none⟩) m cap))) c Q):V P F B n O κ c Q:=fun a u hh => by
 obtain ⟨H, fp, hh⟩:=hh
 obtain ⟨⟨hl, b, rest, hv, hb, h3, h4, h5, hC⟩, hM⟩:=hh.slot t _ hk
 have h2:=hh.usePut (d:=q) (a':=a) (r':=zaj b (xs ++ rest) e) (C:=fp t) hk ⟨Keep.refl _ _, hh.sub, Heap.Le.refl _, fun _ _ _ => rfl⟩ rfl rfl (fun _ _ => rfl) ⟨hb, hC⟩ fun k hk => ⟨.inl hk, (hM k hk).1, (hM k hk).2.1⟩
 have h3':=h2.name t
 rw [hv] at h3'
 exact h b rest hl h3 h4 h5 a u ⟨H, _, h3'⟩
theorem zr3 (L:Tabs P) {q b nn cap m:Nat} {x y:Operand} {t e:TypeId} {s by_:Nat} {cur news cur':List Value} (hn:Nat.blt d n = true) (hg:gK ops κ ⟨some d, .call ⟨.builtin .append, #[x, y], #[t, t]⟩, ty, pos, aft, g⟩ = some true)
  (hx:evK κ x = some (.slice (some ⟨b, 0, none⟩) nn cap)) (hq:κ q = some (.own (zaj b cur e))) (hy:Apd F B O κ y m news) (ht:L.sl t = some e) (he:elI P e = some (s, by_)) (hm:0 < m) (hnl:news.length = m * s) (hroom:nn + m ≤ cap) (hcl:nn * s + m * s ≤ cur.length) (h1:news.all zdv = true)
  (hr:cur.take (nn * s) ++ (news ++ cur.drop (nn * s + m * s)) = cur') :
  zdg P F B n ops O κ ⟨some d, .call ⟨.builtin .append, #[x, y], #[t, t]⟩, ty, pos, aft, g⟩ q (.own (zaj b cur' e)) d (.is (.slice (some ⟨b, 0, none⟩) (nn + m) cap)):=by
 rintro κ' a u hlk hks ⟨H, fp, hh⟩
 unfold After
 rw [if_pos (zae hh hlk hg)]
 have en:=hh.env hlk
 have hk':κ' q = some (.own (zaj b cur e)):=hks.trans hq
 have hxe:=en.is_ x _ (by simp [Op.operands, Call.operands]) hx
 obtain ⟨⟨hb, hC⟩, hM⟩:=hh.slot q _ hk'
 obtain ⟨i, z, hi, hz, hs1, hs2, hs3, hs4⟩:=zer he
 subst hs1
 rcases hy _ a u H fp (by simp [Op.operands, Call.operands]) en with ⟨h0, _⟩ | ⟨ad, c', hye, hcy⟩
 ·omega
 have hrun0:=run_append_room (P:=P) u t ty e i (Tabs.sl_spec ht) hi b nn cap cur.toArray hb ad m c' news hnl hcy (fun v hv => zky (List.all_eq_true.1 h1 v hv)) hroom (by rw [hnl]; simpa using hcl)
 rw [hnl] at hrun0
 simp only [List.append_assoc] at hrun0
 rw [hr] at hrun0
 have hrun:(execOp a.eval ⟨some d, .call ⟨.builtin .append, #[x, y], #[t, t]⟩, ty, pos, aft, g⟩).run P u = .ok (.value (.slice (some ⟨b, 0, none⟩) (nn + m) cap)) (u.setRow b cur'.toArray):=by
  simp only [execOp, resolve, invoke, builtin, Sem.run_bind, Sem.run_pure, Result.andThen_ok, List.map_toArray, List.map_cons, List.map_nil, hxe, hye, hrun0]
 rw [hrun]
 simp only [Upon]
 have hbm:=hM b ((hC b).2 rfl)
 have h2:=hh.usePut (d:=q) (a':=a) (r':=zaj b cur' e) (C:=fun k => k = b) hk' (zdl hh.sub hb ((hC b).2 rfl) hbm.2.1 _) rfl rfl (fun _ _ => rfl) ⟨setRow_heap u b cur.toArray cur'.toArray e (0, 0) hb, fun _ => Iff.rfl⟩ (fun k hk => by
  subst hk; exact ⟨.inl ((hC k).2 rfl), by rw [setRow_size]; exact hbm.1, hbm.2.1⟩)
 rw [zbr] at h2
 exact ⟨H, _, h2.put (k:=.is _) (zn hn) trivial rfl⟩
end
end Go.V
set_option maxRecDepth 20000
namespace Go.V
open Go.RowKit
section
variable {P:Program} {F:Fr} {B:Heap} {O:Boxes} {n:Nat} {ops:Array Oper} {κ:Kap} {d:Nat} {ty:TypeId} {pos:String} {aft:Array Edge} {g:Option (Nat × Bool)} {Q:Exit → Act → World → Prop}
theorem zzs {κ:Kap} {q:Nat} {k:Kn} (h:κ q = some k):upd κ q k = κ:=by
 funext t
 by_cases e:t = q
 ·subst e; rw [zah]; exact h.symm
 ·rw [zab _ _ e]
theorem zhl (L:Tabs P) (q:Nat) (φ:Value → Heap → Prop) {r:GR} {f:Nat} {args:Array Operand} {at_:Array TypeId} {cap:List Value} {fo:Operand}
  (hn:Nat.blt d n = true) (hg:gK ops κ ⟨some d, .call { callee:=.value fo, args:=args, argTypes:=at_ }, ty, pos, aft, g⟩ = some true)
  (hf:evK κ fo = some (.func (.func f) #[] cap.toArray)) (hfn:L.fn f = some ()) (hq:κ q = some (.own r.res)) (hm:Kn.mono (.sat φ))
  (h:∀ u H C, H.Le (hp u) → B.Le H → r.P H u C → (∀ k, C k → k < u.heap.size ∧ H k = none) → Args κ H args.toList [] (fun vs => RetY P f (vs ++ cap) u H C r φ)) :
  StepOKR P F B n ops O κ ⟨some d, .call { callee:=.value fo, args:=args, argTypes:=at_ }, ty, pos, aft, g⟩ q d (.sat φ):=by
 rintro κ' a u hlk hks ⟨H, fp, hh⟩
 unfold After
 rw [if_pos (zae hh hlk hg)]
 have hk':κ' q = some (.own r.res):=hks.trans hq
 obtain ⟨hown, hM⟩:=hh.slot q _ hk'
 have e2:=hh.env hlk
 have hfe:a.eval fo = .func (.func f) #[] cap.toArray:=e2.is_ fo _ (by simp [Op.operands, Call.operands]) hf
 have hc:=Args.use e2 args.toList [] (fun x hx => by simp [Op.operands, Call.operands] at hx ⊢; exact .inr hx) (h u H (fp q) hh.sub hh.base hown fun k hk => ⟨(hM k hk).1, (hM k hk).2.1⟩)
 simp only [List.reverse_nil, List.nil_append] at hc
 rw [zdp L rfl hfe hfn]
 simp only [Upon]
 refine Calls.mono hc fun e' u' hp => ?_
 obtain ⟨x, rfl, H', g', hx, C', hv, hC'⟩:=hp
 have h2:=hh.usePut (d:=q) (a':=a) (r':=r.res) hk' g' rfl rfl (fun _ _ => rfl) hv hC'
 rw [zbr, zzs hk'] at h2
 exact ⟨x, rfl, H', _, h2.put (k:=.sat φ) (zn hn) hm hx⟩
end
theorem RetT.pubY {P:Program} {f:FuncId} {args:List Value} {w:World} {B:Heap} {C:Nat → Prop} {r:GR} {r1:Res} {φ:Value → Heap → Prop} (h:RetT P f args w B C (zh8 r1 r.res)) (hl:z7a r1 φ):RetY P f args w B C r φ :=
 Calls.mono h fun _ u ⟨v, he, H, g, C', ⟨C1, C2, h1, h2, h3, h4⟩, h5⟩ => by
  have hs:=zhr (u:=u) (C:=C1) g.sub
  have hle:=zoe (u:=u) fun k hk => (h5 k ((h3 k).2 (.inl hk))).2.2
  refine ⟨v, he, joinH H u C1, ⟨g.keep, hs, fun k x hx => hle _ _ (g.le _ _ hx), fun k hk hn => (zef fun hc => ?_).trans (g.fresh k hk hn)⟩, hl _ _ _ _ h1, C2, r.st h2 hle hs (On.refl u) (fun _ _ => rfl), fun k hk => ⟨(h5 k ((h3 k).2 (.inr hk))).1, (h5 k ((h3 k).2 (.inr hk))).2.1, (zef fun hc => h4 k hc hk).trans (h5 k ((h3 k).2 (.inr hk))).2.2⟩⟩
  rcases (h5 k ((h3 k).2 (.inl hc))).1 with h6 | h6
  ·exact hn h6
  ·omega
theorem RetY.ex {P:Program} {f:FuncId} {args:List Value} {w:World} {B:Heap} {C:Nat → Prop} {X:Type} {r:X → GR} {φ:X → Heap → Prop} {hφ:zh7 φ} {ψ:Value → Heap → Prop} (hr:(GEx r φ hφ).P B w C) (h:∀ x, φ x B → (r x).P B w C → RetY P f args w B C (r x) ψ):RetY P f args w B C (GEx r φ hφ) ψ:=by
 obtain ⟨x, h1, h2⟩:=hr
 exact RetL.mono (h x h1 h2) fun v H u hg ⟨h3, C', h4, h5⟩ => ⟨h3, C', ⟨x, hφ _ _ _ h1 hg.le, h4⟩, h5⟩
end Go.V
set_option maxRecDepth 20000
namespace Go.V
open Go.RowKit
def MiE {V:Type} (kd:IntKind) (vc:V → Value) (l:List (Int × V)) (es:List MapEntry):Prop:=es.map (fun e => (e.key, e.val)) = l.map fun p => (Value.int kd p.1, vc p.2)
section
variable {P:Program} {V:Type} {kd:IntKind} {vc:V → Value} {l:List (Int × V)} {t kt et:TypeId}
theorem ztp {p:Int × V} {l:List (Int × V)} {es:List MapEntry} (h:MiE kd vc (p :: l) es):∃ e r, es = e :: r ∧ e.key = .int kd p.1 ∧ e.val = vc p.2 ∧ MiE kd vc l r:=by
 unfold MiE at h
 cases es with
 | nil => simp at h
 | cons e r =>
  simp at h
  exact ⟨e, r, rfl, h.1.1, h.1.2, h.2⟩
theorem zqs (k:Int):∀ (l:List (Int × V)) (es:List MapEntry) (i:Nat), MiE kd vc l es → Instr.findNow (.int kd) (.int kd k) es i = some ((zfl k l i).map fun p => (p.1, vc p.2))
 | [], es, i, h => by
  have:es = []:=by simpa [MiE] using h
  subst this; rfl
 | p :: l, es, i, h => by
  obtain ⟨e, r, rfl, h1, h2, h3⟩:=ztp h
  rw [Instr.findNow, zfl, h1]
  simp only [Instr.sameNow, if_true]
  by_cases hkp:k = p.1
  ·rw [if_pos hkp, beq_iff_eq.2 hkp, h2]; rfl
  ·rw [if_neg hkp, beq_false_of_ne hkp]
   exact zqs k l r (i + 1) h3
theorem zi3 (hk:P.underlying kt = some (.int kd)) (k:Int) (w:World) (l:List (Int × V)) (es:List MapEntry) (h:MiE kd vc l es) :
  (Instr.findKey kt (.int kd k) es).run P w = .ok ((zfl k l 0).map fun p => (p.1, vc p.2)) w:=by
 unfold Instr.findKey
 simp only [Sem.run_bind, run_underlying hk, Result.andThen_ok, zqs k l es 0 h, Sem.run_pure]
theorem zfi (hk:P.underlying kt = some (.int kd)) (k:Int) (em:Bool) (w:World):(Instr.checkKey em 10000 kt (.int kd k)).run P w = .ok () w:=by
 rw [Instr.checkKey]
 simp only [Sem.run_bind, run_underlying hk, Result.andThen_ok]
 rfl
theorem zqg (k:Int) (v:V):∀ (l:List (Int × V)) (es:List MapEntry) (i j:Nat) (x:V), MiE kd vc l es → zfl k l i = some (j, x) →
  MiE kd vc (zva k v l) (es.modify (j - i) fun e => { e with key:=.int kd k, val:=vc v })
 | [], _, _, _, _, _, h => by cases h
 | p :: l, es, i, j, x, he, h => by
  obtain ⟨e, r, rfl, h1, h2, h3⟩:=ztp he
  unfold zfl at h
  rw [zva]
  split at h
  ·rename_i hk
   cases h
   rw [if_pos hk, Nat.sub_self]
   unfold MiE at h3 ⊢
   subst hk
   simpa using h3
  ·rename_i hk
   rw [if_neg hk]
   obtain ⟨n, hn, _⟩:=zlb h
   have ih:=zqg k v l r (i + 1) j x h3 h
   have e1:j - i = (j - (i + 1)) + 1:=by omega
   rw [e1]
   unfold MiE at ih ⊢
   simp [h1, h2]
   exact ih
end
section
variable {P:Program} {F:Fr} {B:Heap} {O:Boxes} {n:Nat} {ops:Array Oper} {κ:Kap} {d:Nat} {ty:TypeId} {pos:String} {aft:Array Edge} {g:Option (Nat × Bool)} {a:Act} {u:World} {H:Heap} {os:List Oper} {Q:Exit → Act → World → Prop} {ex:Exs}
variable {Y:Type} {kd:IntKind} {vc:Y → Value} {l:List (Int × Y)}
end
end Go.V
set_option maxRecDepth 20000
namespace Go.V
open Go.RowKit
section
variable {V:Type}
end
structure Brn (es:List MapEntry) (ck:Nat):Prop where
 lt:∀ e ∈ es, e.born < ck
 nd:(es.map (·.born)).Nodup
theorem z4j:Brn [] 0:=⟨fun _ h => (by cases h), List.nodup_nil⟩
theorem Brn.push {es:List MapEntry} {ck:Nat} (h:Brn es ck) (e:MapEntry) (he:e.born = ck):Brn (es ++ [e]) (ck + 1):=⟨fun x hx => by
 rcases List.mem_append.1 hx with hx | hx
 ·exact Nat.lt_succ_of_lt (h.lt x hx)
 ·rw [List.mem_singleton.1 hx, he]; exact Nat.lt_succ_self _, by
 rw [List.map_append, List.nodup_append]
 refine ⟨h.nd, List.pairwise_singleton _ _, fun a ha b hb => ?_⟩
 obtain ⟨x, hx, rfl⟩:=List.mem_map.1 ha
 have:=h.lt x hx
 simp only [List.map_cons, List.map_nil, List.mem_singleton] at hb
 omega⟩
theorem Brn.modify {es:List MapEntry} {ck:Nat} (h:Brn es ck) (j:Nat) (f:MapEntry → MapEntry) (hf:∀ e, (f e).born = e.born):Brn (es.modify j f) ck:=by
 have e1:(es.modify j f).map (·.born) = es.map (·.born):=by
  apply List.ext_getElem?
  intro i
  rw [List.getElem?_map, List.getElem?_map, List.getElem?_modify]
  cases es[i]? with
  | none => rfl
  | some e =>
   simp only [Option.map_some]
   split <;> simp [hf]
 refine ⟨fun e he => ?_, by rw [e1]; exact h.nd⟩
 have h2:e.born ∈ es.map (·.born):=by rw [← e1]; exact List.mem_map_of_mem he
 obtain ⟨x, hx, hb⟩:=List.mem_map.1 h2
 rw [← hb]; exact h.lt x hx
section
variable {P:Program} {V:Type} {kd:IntKind} {vc:V → Value} {l:List (Int × V)} {t kt et:TypeId}
theorem zpv (ht:P.underlying t = some (.map kt et)) (hk:P.underlying kt = some (.int kd)) {b:Nat} {es:Array MapEntry} {ck:Nat} {u:World} (hb:u.heap[b]? = some (.map es ck)) (he:MiE kd vc l es.toList) (k:Int) {z:Value}
  (hz:(zeroValue et).run P u = .ok z u):(Instr.lookup t (.map (some b)) (.int kd k) true).run P u = .ok (.tuple #[(zia k l).elim z vc, .bool (zia k l).isSome]) u:=by
 unfold Instr.lookup
 have hf:=zi3 hk k u l es.toList he
 simp only [Sem.run_bind, run_underlying ht, Result.andThen_ok, MapKept.run_getObj_map hb, Sem.run_pure, zfi hk k, hf]
 unfold zia
 cases zfl k l 0 with
 | none => simp [hz]
 | some p => simp
theorem zly (ht:P.underlying t = some (.map kt et)) (hk:P.underlying kt = some (.int kd)) {b:Nat} {es:Array MapEntry} {ck:Nat} {u:World} (hb:u.heap[b]? = some (.map es ck)) (he:MiE kd vc l es.toList) (hn:Brn es.toList ck) (k:Int) (v:V) :
  ∃ es' ck', (Instr.mapUpdate t (.map (some b)) (.int kd k) (vc v)).run P u = .ok () (u.putObj b (.map es' ck')) ∧ MiE kd vc (zva k v l) es'.toList ∧ Brn es'.toList ck':=by
 have hf:=zi3 hk k u l es.toList he
 cases hm:zfl k l 0 with
 | none =>
  refine ⟨es.push { key:=.int kd k, val:=vc v, born:=ck }, ck + 1, ?_, ?_, by simpa using hn.push _ rfl⟩
  ·unfold Instr.mapUpdate
   rw [hm] at hf
   simp only [Sem.run_bind, run_underlying ht, Result.andThen_ok, MapKept.run_getObj_map hb, Sem.run_pure, zfi hk k, hf, Option.map_none]
   simp [setObj, Sem.run, hb, World.putObj, Result.andThen]
  ·rw [zk8 hm]
   unfold MiE at he ⊢
   simp [he]
 | some q =>
  obtain ⟨j, x⟩:=q
  refine ⟨es.modify j fun e => { e with key:=.int kd k, val:=vc v }, ck, ?_, ?_, by rw [Array.toList_modify]; exact hn.modify j _ fun _ => rfl⟩
  ·obtain ⟨n, hn2, hx⟩:=zlb hm
   have hn':j = n:=by omega
   subst hn'
   have hkey:((es[j]?).map (·.key)).getD (.int kd k) = .int kd k:=by
    have h2:=congrArg (·[j]?) he
    simp only [List.getElem?_map, hx, Option.map_some] at h2
    rw [← Array.getElem?_toList]
    cases hz:es.toList[j]? with
    | none => rfl
    | some e =>
     rw [hz] at h2
     simp at h2
     simpa using h2.1
   unfold Instr.mapUpdate
   rw [hm] at hf
   simp only [Sem.run_bind, run_underlying ht, Result.andThen_ok, MapKept.run_getObj_map hb, Sem.run_pure, zfi hk k, hf, Option.map_some, hkey]
   unfold Instr.keyThatStays
   rw [if_pos (by simp [Instr.sameBits])]
   simp [setObj, Sem.run, hb, World.putObj, Result.andThen]
  ·have:=zqg k v l es.toList 0 j x he hm
   simpa using this
theorem map_erase {α β:Type} (f:α → β):∀ (l:List α) (j:Nat), (l.eraseIdx j).map f = (l.map f).eraseIdx j
 | [], _ => rfl
 | _ :: _, 0 => rfl
 | x :: l, j + 1 => by simp [map_erase f l j]
theorem zx8 {es:List MapEntry} (h:MiE kd vc l es) (j:Nat):MiE kd vc (l.eraseIdx j) (es.eraseIdx j):=by
 unfold MiE at *
 rw [map_erase, map_erase, h]
theorem zpu {u:World} {m i:Nat} {es:Array MapEntry} {ck since last:Nat} {seen:Array Nat} {ty:TypeId} (hm:u.heap[m]? = some (.map es ck)) (hi:u.heap[i]? = some (.mapIter (some m) since seen last)) (hold:∀ x ∈ es.toList, x.born < since) (hsc:since ≤ last) :
  ((leftOf es seen).size = 0 ∧ (Instr.next (.pointer (some ⟨i, 0, none⟩)) false ty).run P u = .ok (.tuple #[.bool false]) u) ∨
  ∃ (j:Nat) (e:MapEntry), (leftOf es seen)[j]? = some e ∧ ∃ u1:World, (u1 = u ∨ u1 = u.drew) ∧ (Instr.next (.pointer (some ⟨i, 0, none⟩)) false ty).run P u = .ok (.tuple #[.bool true, e.key, e.val]) (u1.putObj i (.mapIter (some m) since (seen.push e.born) ck)):=by
 simp only [Instr.next, getObj, Sem.run_bind, Sem.run, hi, hm, Result.andThen, next_test_false seen es since last hold hsc, Bool.false_eq_true, if_false]
 unfold leftOf
 have hmem:∀ x ∈ (Array.filter (fun e => !seen.contains e.born) es).toList, x.born < since:=fun x hx => hold x (by simp at hx ⊢; exact hx.1)
 generalize Array.filter (fun e => !seen.contains e.born) es = L at hmem ⊢
 have e1:L.filter (fun x => decide (x.born < since)) = L:=Array.filter_eq_self.2 (fun x hx => by simpa using hmem x (by simpa using hx))
 have e2:L.filter (fun x => decide (x.born ≥ since)) = #[]:=by
  rw [Array.filter_eq_empty_iff]
  intro x hx
  have:=hmem x (by simpa using hx)
  simp
  omega
 simp only [e1, e2, Array.append_empty]
 by_cases h0:L.size = 0
 ·left
  have:L = #[]:=Array.eq_empty_of_size_eq_zero h0
  subst this
  refine ⟨rfl, ?_⟩
  simp [choose, Sem.run, Question.forced]
 ·right
  have hne:L.isEmpty = false:=by simp [Array.isEmpty, h0]
  simp only [hne, Bool.false_eq_true, if_false, Array.empty_append, Array.size_map]
  have hch:∃ (j:Nat) (w1:World), j < L.size ∧ (w1 = u ∨ w1 = u.drew) ∧ (choose (Question.mapNext L.size)).run P u = .ok j w1:=by
   by_cases hf:L.size ≤ 1
   ·exact ⟨0, u, by omega, .inl rfl, by simp [choose, Sem.run, Question.forced, hf]⟩
   ·exact ⟨_, u.drew, Nat.mod_lt _ (by omega), .inr rfl, by
     simp only [choose, Sem.run, Question.forced, decide_eq_true_eq, hf, if_false, Question.cut]
     rfl⟩
  obtain ⟨j, w1, hj, hal, hrun⟩:=hch
  refine ⟨j, L[j], by simp [hj], w1, hal, ?_⟩
  have hi1:w1.heap[i]? = some (.mapIter (some m) since seen last):=by rcases hal with rfl | rfl <;> exact hi
  simp only [hrun, Array.getElem?_map, Array.getElem?_eq_getElem hj, Option.map_some, Sem.run_bind, Result.andThen]
  simp [setObj, Sem.run, hi1, World.putObj]
end
def z8q {V:Type} (b:Nat) (kd:IntKind) (vc:V → Value) (l:List (Int × V)):GR where
 P _ u C:=(∃ es ck, u.heap[b]? = some (.map es ck) ∧ MiE kd vc l es.toList ∧ Brn es.toList ck) ∧ ∀ k, C k ↔ k = b
 st:=fun ⟨⟨es, ck, hb, he⟩, hC⟩ _ _ _ hk => ⟨⟨es, ck, (hk b ((hC b).2 rfl)).trans hb, he⟩, hC⟩
abbrev zrb {V:Type} (b:Nat) (kd:IntKind) (vc:V → Value) (l:List (Int × V)):Res:=(z8q b kd vc l).res
def z1w {V:Type} (kd:IntKind) (vc:V → Value) (l:List (Int × V)):Res where
 P x _ u C:=∃ b, x = .map (some b) ∧ (∃ es ck, u.heap[b]? = some (.map es ck) ∧ MiE kd vc l es.toList ∧ Brn es.toList ck) ∧ ∀ k, C k ↔ k = b
 st:=fun ⟨b, hx, ⟨es, ck, hb, he⟩, hC⟩ _ _ _ hk => ⟨b, hx, ⟨es, ck, (hk b ((hC b).2 rfl)).trans hb, he⟩, hC⟩
def z1t {V:Type} (m:Nat) (kd:IntKind) (vc:V → Value) (l left:List (Int × V)):Res where
 P x _ u C:=∃ i es ck since seen last, x = .pointer (some ⟨i, 0, none⟩) ∧ i ≠ m ∧ u.heap[m]? = some (.map es ck) ∧ MiE kd vc l es.toList ∧ Brn es.toList ck ∧ u.heap[i]? = some (.mapIter (some m) since seen last) ∧
  (∀ e ∈ es.toList, e.born < since) ∧ since ≤ last ∧ since ≤ ck ∧ MiE kd vc left (leftOf es seen).toList ∧ ∀ k, C k ↔ k = m ∨ k = i
 st:=fun ⟨i, es, ck, since, seen, last, h1, h2, h3, h4, h5, h6, h7, h8, h9, h10, hC⟩ _ _ _ hk => ⟨i, es, ck, since, seen, last, h1, h2, (hk m ((hC m).2 (.inl rfl))).trans h3, h4, h5, (hk i ((hC i).2 (.inr rfl))).trans h6, h7, h8, h9, h10, hC⟩
section
variable {P:Program} {F:Fr} {B:Heap} {O:Boxes} {n:Nat} {ops:Array Oper} {κ:Kap} {d:Nat} {ty:TypeId} {pos:String} {aft:Array Edge} {g:Option (Nat × Bool)} {a:Act} {u:World} {H:Heap} {os:List Oper} {Q:Exit → Act → World → Prop}
variable {Y:Type} {kd:IntKind} {vc:Y → Value} {l left:List (Int × Y)}
theorem Has.holdMb {t q:Nat} (hk:κ t = some (.own (z1w kd vc l))) (h:Has F B O n κ a u):∃ b, Has F B O n (upd (upd (upd κ t zed) q (.own (zrb b kd vc l))) t (.is (.map (some b)))) a u:=by
 obtain ⟨H, fp, h⟩:=h
 obtain ⟨⟨b, hv, hb, hC⟩, hM⟩:=h.slot t _ hk
 have h2:=h.usePut (d:=q) (a':=a) (r':=zrb b kd vc l) (C:=fp t) hk ⟨Keep.refl _ _, h.sub, Heap.Le.refl _, fun _ _ _ => rfl⟩ rfl rfl (fun _ _ => rfl) ⟨hb, hC⟩ fun k hk => ⟨.inl hk, (hM k hk).1, (hM k hk).2.1⟩
 have h3:=h2.name t
 rw [hv] at h3
 exact ⟨b, H, _, h3⟩
theorem z7i (t q:Nat) {c:Code} (hk:κ t = some (.own (z1w kd vc l))) (h:∀ b, V P F B n O (upd (upd (upd κ t zed) q (.own (zrb b kd vc l))) t (.is (.map (some b)))) c Q):V P F B n O κ c Q:=fun a u hh => let ⟨b, h'⟩:=hh.holdMb (q:=q) hk; h b a u h'
theorem zv1 (t q:Nat) (hk:κ t = some (.own (z1w kd vc l))) (h:∀ b, VO P F B n O ops (upd (upd (upd κ t zed) q (.own (zrb b kd vc l))) t (.is (.map (some b)))) os Q):VO P F B n O ops κ os Q:=fun a u hh => let ⟨b, h'⟩:=hh.holdMb (q:=q) hk; h b a u h'
theorem zr0 (kd:IntKind) (vc:Y → Value) {t:TypeId} {hint:Option Operand} (hn:Nat.blt d n = true) (hg:gK ops κ ⟨some d, .makeMap t none, ty, pos, aft, g⟩ = some true) :
  StepOK P F B n ops O κ ⟨some d, .makeMap t none, ty, pos, aft, g⟩ d (.own (z1w kd vc [])):=by
 rintro κ' a u hl ⟨H, fp, hh⟩
 have hn:d < n:=by simpa using hn
 unfold After
 rw [if_pos (zae hh hl hg)]
 have hrun:(execOp a.eval ⟨some d, .makeMap t none, ty, pos, aft, g⟩).run P u = .ok (.value (.map (some u.heap.size))) (u.alloc (.map #[] 0)):=by
  simp [execOp, Instr.makeMap]
 rw [hrun]
 simp only [Upon]
 have hg2:=hh.grow (Grow.hid hh.sub (.map #[] 0))
 refine ⟨H, _, hg2.putR (C:=fun k => k = u.heap.size) (by simp [Act.put]) rfl (fun t ht => zap ht) ⟨u.heap.size, zat (by rw [hh.size]; exact hn), ⟨_, _, zak _ _, rfl, z4j⟩, fun _ => Iff.rfl⟩ (fun k hk => ?_) fun t r' _ ht k hf hk => ?_⟩
 ·subst hk
  exact ⟨zaa (zak u _), za8 hh.sub (Nat.le_refl _), .inl hh.keep.size, fun y hy e => by have:=zaa (hh.boxes y hy).1; omega⟩
 ·have:=((hh.slot t _ ht).2 k hf).1
  omega
theorem zgi {x y:Operand} {q b:Nat} {t kt et:TypeId} (k:Int) {r z:Value} {f:Bool} (ht:P.underlying t = some (.map kt et)) (hkt:P.underlying kt = some (.int kd)) (hz:∀ w, (zeroValue et).run P w = .ok z w)
  (hx:evK κ x = some (.map (some b))) (hq:κ q = some (.own (zrb b kd vc l))) (hy:evK κ y = some (.int kd k)) (hn:Nat.blt d n = true) (hg:gK ops κ ⟨some d, .lookup t x y true, ty, pos, aft, g⟩ = some true)
  (hr:(zia k l).elim z vc = r) (hf:(zia k l).isSome = f) :
  StepOKR P F B n ops O κ ⟨some d, .lookup t x y true, ty, pos, aft, g⟩ q d (.is (.tuple #[r, .bool f])):=by
 rintro κ' a u hlk hqk ⟨H, fp, hh⟩
 subst hr hf
 unfold After
 rw [if_pos (zae hh hlk hg)]
 have e:=hh.env hlk
 have h1:=e.is_ x _ (by simp [Op.operands]) hx
 have h2:=e.is_ y _ (by simp [Op.operands]) hy
 obtain ⟨⟨⟨es, ck, hb, he, _⟩, hC⟩, hM⟩:=hh.slot q _ (hqk.trans hq)
 have hrun:(execOp a.eval ⟨some d, .lookup t x y true, ty, pos, aft, g⟩).run P u = .ok (.value (.tuple #[(zia k l).elim z vc, .bool (zia k l).isSome])) u:=by
  simp only [execOp, h1, h2, Sem.run_bind, zpv ht hkt hb he k (hz u), Result.andThen_ok]
  rfl
 rw [hrun]
 simp only [Upon]
 exact ⟨H, fp, hh.put (k:=.is _) (zn hn) trivial rfl⟩
theorem HasH.turnMap {q b:Nat} {fp:Nat → Nat → Prop} {es:Array MapEntry} {ck:Nat} {l':List (Int × Y)} (hh:HasH F B O n κ a u H fp) (hq:κ q = some (.own (zrb b kd vc l))) (he:MiE kd vc l' es.toList) (hb:Brn es.toList ck) :
  HasH F B O n (upd κ q (.own (zrb b kd vc l'))) a (u.putObj b (.map es ck)) H (fpu fp q fun k => k = b):=by
 obtain ⟨⟨_, hC⟩, hM⟩:=hh.slot q _ hq
 have hbm:=hM b ((hC b).2 rfl)
 have:=hh.usePut (d:=q) (a':=a) (r':=zrb b kd vc l') (C:=fun k => k = b) hq (zlh hh.sub ((hC b).2 rfl) hbm.2.1) rfl rfl (fun _ _ => rfl) ⟨⟨es, ck, World.putObj_heap_same hbm.1, he, hb⟩, fun _ => Iff.rfl⟩ (fun k hk => by
  subst hk; exact ⟨.inl ((hC k).2 rfl), by rw [World.putObj_size]; exact hbm.1, hbm.2.1⟩)
 rw [zbr] at this
 exact this
theorem z3t {x:Operand} {q b:Nat} {t kt et:TypeId} {m:Nat} (ht:P.underlying t = some (.map kt et)) (hx:evK κ x = some (.map (some b))) (hq:κ q = some (.own (zrb b kd vc l))) (hn:Nat.blt d n = true)
  (hg:gK ops κ ⟨some d, .call ⟨.builtin .len, #[x], #[t]⟩, ty, pos, aft, g⟩ = some true) (hm:l.length = m) :
  StepOKR P F B n ops O κ ⟨some d, .call ⟨.builtin .len, #[x], #[t]⟩, ty, pos, aft, g⟩ q d (.is (.int .i64 m)):=by
 rintro κ' a u hlk hqk ⟨H, fp, hh⟩
 subst hm
 unfold After
 rw [if_pos (zae hh hlk hg)]
 have e:=hh.env hlk
 have h1:=e.is_ x _ (by simp [Op.operands, Call.operands]) hx
 obtain ⟨⟨⟨es, ck, hb, he, _⟩, hC⟩, hM⟩:=hh.slot q _ (hqk.trans hq)
 have hsz:es.size = l.length:=by have:=congrArg List.length he; simpa using this
 have hrun:(execOp a.eval ⟨some d, .call ⟨.builtin .len, #[x], #[t]⟩, ty, pos, aft, g⟩).run P u = .ok (.value (.int .i64 l.length)) u:=by
  simp [execOp, resolve, h1, invoke, builtin, Builtin.len_, run_underlying ht, MapKept.run_getObj_map hb, goInt, hsz]
 rw [hrun]
 simp only [Upon]
 exact ⟨H, fp, hh.put (k:=.is _) (zn hn) trivial rfl⟩
theorem zxm {x:Operand} {q b:Nat} {t kt et:TypeId} (ht:P.underlying t = some (.map kt et)) (hx:evK κ x = some (.map (some b))) (hq:κ q = some (.own (zrb b kd vc l))) (hn:Nat.blt d n = true)
  (hg:gK ops κ ⟨some d, .range t x, ty, pos, aft, g⟩ = some true) :
  zdg P F B n ops O κ ⟨some d, .range t x, ty, pos, aft, g⟩ q zed d (.own (z1t b kd vc l l)):=by
 rintro κ' a u hlk hqk ⟨H, fp, hh⟩
 have hn:d < n:=by simpa using hn
 unfold After
 rw [if_pos (zae hh hlk hg)]
 have e:=hh.env hlk
 have h1:=e.is_ x _ (by simp [Op.operands]) hx
 have hqs:=hqk.trans hq
 obtain ⟨⟨⟨es, ck, hb, he, hbn⟩, hC⟩, hM⟩:=hh.slot q _ hqs
 have hrun:(execOp a.eval ⟨some d, .range t x, ty, pos, aft, g⟩).run P u = .ok (.value (.pointer (some ⟨u.heap.size, 0, none⟩))) (u.alloc (.mapIter (some b) ck #[] ck)):=by
  simp only [execOp, h1, Sem.run_bind, run_range_map u t kt et b es ck ht hb, Result.andThen_ok]
  rfl
 rw [hrun]
 simp only [Upon]
 have hbm:=hM b ((hC b).2 rfl)
 have hg2:Grow (fp q) u H (u.alloc (.mapIter (some b) ck #[] ck)) H:=⟨(Grow.hid hh.sub (.mapIter (some b) ck #[] ck)).keep.weak (fun k _ h => h.elim), (Grow.hid hh.sub _).sub, Heap.Le.refl _, fun _ _ _ => rfl⟩
 have hlo:leftOf es #[] = es:=by unfold leftOf; simp
 have:=hh.usePut (d:=d) (a':=a.put (some d) (.pointer (some ⟨u.heap.size, 0, none⟩))) (r':=z1t b kd vc l l) (C:=fun k => k = b ∨ k = u.heap.size) hqs hg2 (by simp [Act.put]) rfl (fun t ht => zap ht)
  ⟨u.heap.size, es, ck, ck, #[], ck, zat (by rw [hh.size]; exact hn), by omega, by rw [heap_alloc_old u _ hbm.1]; exact hb, he, hbn, heap_alloc_new u _, hbn.lt, Nat.le_refl _, Nat.le_refl _, by rw [hlo]; exact he, fun _ => Iff.rfl⟩
  (fun k hk => by
   have hsz:(u.alloc (.mapIter (some b) ck #[] ck)).heap.size = u.heap.size + 1:=by show (u.heap.push _).size = _; simp
   rcases hk with rfl | rfl
   ·exact ⟨.inl ((hC _).2 rfl), by omega, hbm.2.1⟩
   ·exact ⟨.inr (Nat.le_refl _), by omega, za8 hh.sub (Nat.le_refl _)⟩)
 exact ⟨H, _, this⟩
theorem zxn {q m:Nat} {w:Bool} (hw:w = false) (hq:κ q = some (.own (z1t m kd vc l left))) (hl:left = []) (hn:Nat.blt d n = true) (hg:gK ops κ ⟨some d, .next (.tmp q) w, ty, pos, aft, g⟩ = some true) :
  StepOK P F B n ops O κ ⟨some d, .next (.tmp q) w, ty, pos, aft, g⟩ d (.is (.tuple #[.bool false])) :=
 zan rfl (zn hn) hg trivial fun a u H fp e => by
  subst hw hl
  obtain ⟨⟨i, es, ck, since, seen, last, h1, h2, h3, h4, h5, h6, h7, h8, h9, h10, hC⟩, hM⟩:=e.own_ q _ (by simp [Op.operands]) hq
  have hz:(leftOf es seen).size = 0:=by have:=congrArg List.length h10; simpa using this
  refine ⟨_, ?_, rfl⟩
  rcases zpu (P:=P) (ty:=ty) h3 h6 h7 h8 with ⟨_, hr⟩ | ⟨j, e2, he2, _⟩
  ·simp only [execOp, h1, Sem.run_bind, hr, Result.andThen_ok]
   rfl
  ·rw [Array.getElem?_eq_none (by omega)] at he2; cases he2
theorem zvc {es:Array MapEntry} {ck j:Nat} {seen:Array Nat} {e:MapEntry} (hb:Brn es.toList ck) (he:(leftOf es seen)[j]? = some e):(leftOf es (seen.push e.born)).toList = (leftOf es seen).toList.eraseIdx j:=by
 have e1:(leftOf es (seen.push e.born)).toList = (leftOf es seen).toList.filter fun x => !(x.born == e.born):=by
  unfold leftOf
  rw [Array.toList_filter, Array.toList_filter, List.filter_filter]
  apply List.filter_congr
  intro x _
  rw [contains_push]
  cases seen.contains x.born <;> cases (x.born == e.born) <;> rfl
 have hnd:((leftOf es seen).toList.map (·.born)).Nodup:=by
  unfold leftOf
  rw [Array.toList_filter]
  exact hb.nd.sublist (List.filter_sublist.map _)
 rw [← Array.getElem?_toList] at he
 rw [e1]
 generalize (leftOf es seen).toList = L at hnd he
 clear e1
 induction L generalizing j with
 | nil => cases he
 | cons x L ih =>
  rw [List.map_cons, List.nodup_cons] at hnd
  cases j with
  | zero =>
   cases he
   have h0:L.filter (fun x => !(x.born == e.born)) = L:=List.filter_eq_self.2 fun y hy => by
    have:y.born ≠ e.born:=fun h => hnd.1 (h ▸ List.mem_map_of_mem hy)
    simpa using this
   simp [h0]
  | succ j =>
   have he':L[j]? = some e:=by simpa using he
   have hne:x.born ≠ e.born:=fun h => hnd.1 (h ▸ List.mem_map_of_mem (List.mem_of_getElem? he'))
   have:(!(x.born == e.born)) = true:=by simpa using hne
   rw [List.filter_cons_of_pos (by simpa using hne), ih hnd.2 he']
   rfl
theorem z6a {es:List MapEntry} {j:Nat} {e:MapEntry} (h:MiE kd vc left es) (he:es[j]? = some e):∃ p, left[j]? = some p ∧ e.key = .int kd p.1 ∧ e.val = vc p.2:=by
 have h2:=congrArg (·[j]?) h
 simp only [List.getElem?_map, he, Option.map_some] at h2
 cases hp:left[j]? with
 | none => rw [hp] at h2; cases h2
 | some p =>
  rw [hp] at h2
  simp at h2
  exact ⟨p, rfl, h2.1, h2.2⟩
theorem Has.endM {t q m:Nat} (hne:t ≠ q) (hk:κ t = some (.own (z1t m kd vc l left))) (h:Has F B O n κ a u):Has F B O n (upd (upd κ t zed) q (.own (zrb m kd vc l))) a u:=by
 obtain ⟨H, fp, hh⟩:=h
 obtain ⟨⟨i, es, ck, since, seen, last, h1, h2, h3, h4, h5, h6, h7, h8, h9, h10, hC⟩, hM⟩:=hh.slot t _ hk
 have:=hh.usePut (d:=q) (a':=a) (r':=zrb m kd vc l) (C:=fun k => k = m) hk ⟨Keep.refl _ _, hh.sub, Heap.Le.refl _, fun _ _ _ => rfl⟩ rfl rfl (fun _ _ => rfl) ⟨⟨es, ck, h3, h4, h5⟩, fun _ => Iff.rfl⟩
  (fun k hk' => by subst hk'; have:=(hC k).2 (.inl rfl); exact ⟨.inl this, (hM k this).1, (hM k this).2.1⟩)
 exact ⟨H, _, this⟩
theorem z67 (t q:Nat) {m:Nat} {c:Code} (hk:κ t = some (.own (z1t m kd vc l left))) (h:V P F B n O (upd (upd κ t zed) q (.own (zrb m kd vc l))) c Q) (hne:t ≠ q:=by decide):V P F B n O κ c Q:=fun a u hh => h a u (hh.endM hne hk)
end
end Go.V
set_option maxRecDepth 20000
namespace Go.V
open Go.RowKit
def z7j {V:Type} (m:Nat) (kd:IntKind) (vc:V → Value) (l left:List (Int × V)) (p:Int × V):Res where
 P x _ u C:=∃ (i:Nat) (es:Array MapEntry) (ck since:Nat) (seen:Array Nat) (e:MapEntry), x = .pointer (some ⟨i, 0, none⟩) ∧ i ≠ m ∧ u.heap[m]? = some (.map es ck) ∧ MiE kd vc l es.toList ∧ Brn es.toList ck ∧ u.heap[i]? = some (.mapIter (some m) since (seen.push e.born) ck) ∧
  (∀ e ∈ es.toList, e.born < since) ∧ since ≤ ck ∧ MiE kd vc left (leftOf es (seen.push e.born)).toList ∧ e ∈ es.toList ∧ e.key = .int kd p.1 ∧ e.val = vc p.2 ∧ ∀ k, C k ↔ k = m ∨ k = i
 st:=fun ⟨i, es, ck, since, seen, e, h1, h2, h3, h4, h5, h6, h7, h8, h9, h10, h11, h12, hC⟩ _ _ _ hk => ⟨i, es, ck, since, seen, e, h1, h2, (hk m ((hC m).2 (.inl rfl))).trans h3, h4, h5, (hk i ((hC i).2 (.inr rfl))).trans h6, h7, h8, h9, h10, h11, h12, hC⟩
theorem z5m {V:Type} {m:Nat} {kd:IntKind} {vc:V → Value} {l left:List (Int × V)} {p:Int × V} {B:Heap}:∀ v H u C, B.Le H → (z7j m kd vc l left p).P v H u C → (z1t m kd vc l left).P v H u C :=
 fun _ _ _ _ _ ⟨i, es, ck, since, seen, e, h1, h2, h3, h4, h5, h6, h7, h8, h9, _, _, _, hC⟩ => ⟨i, es, ck, since, seen.push e.born, ck, h1, h2, h3, h4, h5, h6, h7, h8, h8, h9, hC⟩
theorem z00 {es:Array MapEntry} {seen:Array Nat} {j:Nat} {e:MapEntry} (h:(leftOf es seen)[j]? = some e):e ∈ es.toList:=by
 have h1:e ∈ leftOf es seen:=Array.mem_of_getElem? h
 unfold leftOf at h1
 rw [Array.mem_filter] at h1
 exact Array.mem_toList_iff.2 h1.1
theorem zyy {es:List MapEntry} (hn:(es.map (·.born)).Nodup) {e:MapEntry} (he:e ∈ es):es.find? (fun x => x.born == e.born) = some e:=by
 induction es with
 | nil => cases he
 | cons x es ih =>
  rw [List.map_cons, List.nodup_cons] at hn
  rw [List.find?_cons]
  rcases List.mem_cons.1 he with h | h
  ·subst h; simp
  ·have hne:x.born ≠ e.born:=fun h2 => hn.1 (h2 ▸ List.mem_map_of_mem (f:=(·.born)) h)
   have:(x.born == e.born) = false:=by simpa using hne
   rw [this]
   exact ih hn.2 h
section
variable {P:Program} {F:Fr} {B:Heap} {O:Boxes} {n:Nat} {ops:Array Oper} {κ:Kap} {d:Nat} {ty:TypeId} {pos:String} {aft:Array Edge} {g:Option (Nat × Bool)} {a:Act} {u:World} {H:Heap} {os:List Oper} {Q:Exit → Act → World → Prop}
variable {Y:Type} {kd:IntKind} {vc:Y → Value} {l left:List (Int × Y)}
theorem zzr {q m d:Nat} {o:Oper} (ho:o = ⟨some d, .next (.tmp q) false, ty, pos, aft, g⟩) (hq:κ q = some (.own (z1t m kd vc l left))) (hl:left ≠ []) (hn:Nat.blt d n = true) (hdq:Nat.beq q d = false) (hg:gK ops κ o = some true)
  (h:∀ (j:Nat) (p:Int × Y), left[j]? = some p → VO P F B n O ops (upd (upd κ q (.own (z7j m kd vc l (left.eraseIdx j) p))) d (.is (.tuple #[.bool true, .int kd p.1, vc p.2]))) os Q):VO P F B n O ops κ (o :: os) Q:=fun a u hh => by
 subst ho
 obtain ⟨H, fp, hh⟩:=hh
 obtain ⟨⟨i, es, ck, since, seen, last, h1, h2, h3, h4, h5, h6, h7, h8, h9, h10, hC⟩, hM⟩:=hh.slot q _ hq
 show After P ops _ _ a u
 unfold After
 rw [if_pos (zae hh (fun _ _ => rfl) hg)]
 rcases zpu (P:=P) (ty:=ty) h3 h6 h7 h8 with ⟨hz, _⟩ | ⟨j, e, he, u1, hu1, hr⟩
 ·exfalso
  have:=congrArg List.length h10
  simp [hz] at this
  exact hl (List.eq_nil_of_length_eq_zero this.symm)
 ·have hrun:(execOp a.eval ⟨some d, .next (.tmp q) false, ty, pos, aft, g⟩).run P u = .ok (.value (.tuple #[.bool true, e.key, e.val])) (u1.putObj i (.mapIter (some m) since (seen.push e.born) ck)):=by
   simp only [execOp, h1, Sem.run_bind, hr, Result.andThen_ok]
   rfl
  rw [hrun]
  simp only [Upon]
  obtain ⟨p, hp, hk1, hv1⟩:=z6a h10 (by rw [Array.getElem?_toList]; exact he)
  rw [hk1, hv1]
  have him:=hM i ((hC i).2 (.inr rfl))
  have hsub:H.Le (Go.V.hp u1):=by rcases hu1 with rfl | rfl <;> exact hh.sub
  have hgr:Grow (fp q) u H (u1.putObj i (.mapIter (some m) since (seen.push e.born) ck)) H:=by
   have g1:=zlh (u:=u1) (L:=fp q) (o:=.mapIter (some m) since (seen.push e.born) ck) hsub ((hC i).2 (.inr rfl)) him.2.1
   rcases hu1 with rfl | rfl
   ·exact g1
   ·exact ⟨⟨g1.keep.os, g1.keep.tape, g1.keep.output, g1.keep.size, g1.keep.block, Nat.le_trans (Nat.le_succ _) g1.keep.dr⟩, g1.sub, g1.le, g1.fresh⟩
  have hmm:u1.heap[m]? = some (.map es ck):=by rcases hu1 with rfl | rfl <;> exact h3
  have hsz:i < u1.heap.size:=by rcases hu1 with rfl | rfl <;> exact him.1
  have h5':=hh.usePut (d:=q) (a':=a) (r':=z7j m kd vc l (left.eraseIdx j) p) (C:=fun k => k = m ∨ k = i) hq hgr rfl rfl (fun _ _ => rfl)
   ⟨i, es, ck, since, seen, e, h1, h2, by rw [World.putObj_heap_other (Ne.symm h2)]; exact hmm, h4, h5, World.putObj_heap_same hsz, h7, h9, by rw [zvc h5 he]; exact zx8 h10 j, z00 he, hk1, hv1, fun _ => Iff.rfl⟩
   (fun k hk => by
    have hkC:fp q k:=(hC k).2 hk
    refine ⟨.inl hkC, ?_, (hM k hkC).2.1⟩
    rw [World.putObj_size]
    rcases hu1 with rfl | rfl <;> exact (hM k hkC).1)
  rw [zbr] at h5'
  exact h j p hp _ _ ⟨H, _, h5'.put (k:=.is _) (zn hn) trivial rfl⟩
theorem zxq {q m:Nat} {p:Int × Y} (hq:κ q = some (.own (z7j m kd vc l left p))) (hn:Nat.blt d n = true) (hg:gK ops κ ⟨some d, .entry (.tmp q), ty, pos, aft, g⟩ = some true) :
  StepOK P F B n ops O κ ⟨some d, .entry (.tmp q), ty, pos, aft, g⟩ d (.is (.tuple #[.int kd p.1, vc p.2])) :=
 zan rfl (zn hn) hg trivial fun a u H fp e => by
  obtain ⟨⟨i, es, ck, since, seen, x, h1, h2, h3, h4, h5, h6, h7, h8, h9, h10, h11, h12, hC⟩, hM⟩:=e.own_ q _ (by simp [Op.operands]) hq
  refine ⟨_, ?_, rfl⟩
  have hf:=zyy h5.nd h10
  have hf2:es.find? (fun y => y.born == x.born) = some x:=by rw [← Array.find?_toList]; exact hf
  simp only [execOp, h1, Instr.entry, getObj, Sem.run_bind, Sem.run, h6, Result.andThen, Array.back?_push, h3, bne_self_eq_false, Bool.false_eq_true, if_false, hf2, h11, h12]
  rfl
theorem zu4 {x y z:Operand} {q b:Nat} {t kt et:TypeId} (k:Int) (v:Y) {zv:Value} {l':List (Int × Y)} (ht:P.underlying t = some (.map kt et)) (hkt:P.underlying kt = some (.int kd))
  (hx:evK κ x = some (.map (some b))) (hq:κ q = some (.own (zrb b kd vc l))) (hy:evK κ y = some (.int kd k)) (hz:evK κ z = some zv) (hzv:vc v = zv) (hg:gK ops κ ⟨none, .insert t x y z, ty, pos, aft, g⟩ = some true)
  (hl':zva k v l = l') :
  zou P F B n ops O κ ⟨none, .insert t x y z, ty, pos, aft, g⟩ q (.own (zrb b kd vc l')):=by
 rintro κ' a u hlk hqk ⟨H, fp, hh⟩
 subst hl' hzv
 unfold After
 rw [if_pos (zae hh hlk hg)]
 have e:=hh.env hlk
 have h1:=e.is_ x _ (by simp [Op.operands]) hx
 have h2:=e.is_ y _ (by simp [Op.operands]) hy
 have h3:=e.is_ z _ (by simp [Op.operands]) hz
 have hqs:=hqk.trans hq
 obtain ⟨⟨⟨es, ck, hb, he, hbn⟩, hC⟩, hM⟩:=hh.slot q _ hqs
 obtain ⟨es', ck', hr, he', hb'⟩:=zly ht hkt hb he hbn k v
 have hrun:(execOp a.eval ⟨none, .insert t x y z, ty, pos, aft, g⟩).run P u = .ok .skip (u.putObj b (.map es' ck')):=by
  simp only [execOp, h1, h2, h3, Sem.run_bind, hr, Result.andThen_ok]
  rfl
 rw [hrun]
 simp only [Upon, Act.put]
 exact ⟨H, _, hh.turnMap hqs he' hb'⟩
end
end Go.V
set_option maxRecDepth 20000
namespace Go.V
open Go.RowKit
def z1u {X:Type} (vf:X → Value) (g:X → GR):Res where
 P v H u C:=∃ x, v = vf x ∧ (g x).P H u C
 st:=fun ⟨x, h1, h2⟩ a b c d => ⟨x, h1, (g x).st h2 a b c d⟩
section
variable {P:Program} {F:Fr} {B:Heap} {O:Boxes} {n:Nat} {ops:Array Oper} {κ:Kap} {d:Nat} {ty:TypeId} {pos:String} {aft:Array Edge} {g:Option (Nat × Bool)} {Q:Exit → Act → World → Prop} {a:Act} {u:World} {os:List Oper}
theorem Has.holdRf {X:Type} {t q:Nat} {vf:X → Value} {gg:X → GR} (hk:κ t = some (.own (z1u vf gg))) (h:Has F B O n κ a u):∃ x, Has F B O n (upd (upd (upd κ t zed) q (.own (gg x).res)) t (.is (vf x))) a u:=by
 obtain ⟨H, fp, h⟩:=h
 obtain ⟨⟨x, hv, hx⟩, hM⟩:=h.slot t _ hk
 have h2:=h.usePut (d:=q) (a':=a) (r':=(gg x).res) (C:=fp t) hk ⟨Keep.refl _ _, h.sub, Heap.Le.refl _, fun _ _ _ => rfl⟩ rfl rfl (fun _ _ => rfl) hx fun k hk => ⟨.inl hk, (hM k hk).1, (hM k hk).2.1⟩
 have h3:=h2.name t
 rw [hv] at h3
 exact ⟨x, H, _, h3⟩
theorem z1r (t q:Nat) {X:Type} {vf:X → Value} {gg:X → GR} {c:Code} (hk:κ t = some (.own (z1u vf gg))) (h:∀ x, V P F B n O (upd (upd (upd κ t zed) q (.own (gg x).res)) t (.is (vf x))) c Q):V P F B n O κ c Q:=fun a u hh => let ⟨x, h'⟩:=hh.holdRf (q:=q) hk; h x a u h'
theorem zez (t q:Nat) {X:Type} {vf:X → Value} {gg:X → GR} (hk:κ t = some (.own (z1u vf gg))) (h:∀ x, VO P F B n O ops (upd (upd (upd κ t zed) q (.own (gg x).res)) t (.is (vf x))) os Q):VO P F B n O ops κ os Q:=fun a u hh => let ⟨x, h'⟩:=hh.holdRf (q:=q) hk; h x a u h'
theorem Has.packRf {X:Type} {t q:Nat} {vf:X → Value} {gg:X → GR} (x:X) (hk:κ q = some (.own (gg x).res)) (ht:κ t = some (.is (vf x))) (h:Has F B O n κ a u):Has F B O n (upd (upd κ q zed) t (.own (z1u vf gg))) a u:=by
 obtain ⟨H, fp, h⟩:=h
 obtain ⟨hx, hM⟩:=h.slot q _ hk
 have hv:a.eval (.tmp t) = vf x:=h.slot t _ ht
 exact ⟨H, _, h.usePut (d:=t) (a':=a) (r':=z1u vf gg) (C:=fp q) hk ⟨Keep.refl _ _, h.sub, Heap.Le.refl _, fun _ _ _ => rfl⟩ rfl rfl (fun _ _ => rfl) ⟨x, hv, hx⟩ fun k hk => ⟨.inl hk, (hM k hk).1, (hM k hk).2.1⟩⟩
theorem z1o (t q:Nat) {X:Type} (vf:X → Value) (gg:X → GR) {c:Code} (x:X) (hk:κ q = some (.own (gg x).res)) (ht:κ t = some (.is (vf x))) (h:V P F B n O (upd (upd κ q zed) t (.own (z1u vf gg))) c Q):V P F B n O κ c Q:=fun a u hh => h a u (hh.packRf x hk ht)
theorem zzh (L:Tabs P) {fn:Func} {B0:Heap} (gs:Nat) {r0:GR} {r:Res} {rs:List ResultVar} {v:Value} (hrs:fn.results = rs.toArray)
  (hQ:∀ a u, bodyPostM Fence.wide 0 P fn (zff F.w0 B0 F.L (z7k F.w0 r)) .ret a u → Q .ret a u) (hs:Since F B0 B) (hk:κ gs = some (.own r0.res))
  (h:∀ H, zov L F B O κ H rs [] (fun vs => tup vs = v)) (hr:∀ H u C, B.Le H → H.Le (hp u) → r0.P H u C → r.P v H u C) (hL:F.L = noL:=by rfl) (hd:F.ds = []:=by rfl):V P F B n O κ .ret Q:=fun a u hh => by
 obtain ⟨H, fp, hH⟩:=hh
 refine wpIn_ret (hQ a u ?_)
 have h0:=hH.defers
 rw [hd] at h0
 show LeavesInM _ _ _ _ _ _ a.defers _ _
 rw [h0]
 obtain ⟨vs, h1, h2⟩:=zbn L hH hrs (h H)
 obtain ⟨hown, hM⟩:=hH.slot gs _ hk
 refine ⟨_, h1, _, rfl, H, ⟨hH.keep, hH.sub, hs.le.trans hH.base, fun k hk hl => (hH.fresh k hk hl).trans (hs.fresh k hk hl)⟩, fp gs, ?_, fun k hk => ?_⟩
 ·rw [h2]
  exact hr H u (fp gs) hH.base hH.sub hown
 ·obtain ⟨g1, g2, g3, _⟩:=hM k hk
  refine ⟨?_, g1, g2⟩
  rcases g3 with g3 | g3
  ·exact g3
  ·have g3':F.L k:=g3
   rw [hL] at g3'; exact g3'.elim
variable {Y:Type} {kd:IntKind} {vc:Y → Value} {l:List (Int × Y)}
end
end Go.V
set_option maxRecDepth 20000
namespace Go.V.L4
open Go.Proofs Go.RowKit Go.V
theorem _root_.Go.V.Zf2 {A B:Prop} (h:B) (t:Wr B → A:=by intro h; refine qe (zb5 L rfl rfl rfl (zsk rfl) rfl el5 (by assumption) (by assumption) (by omega) (by omega)) ?_;exact h.h):A:=t ⟨h⟩
theorem _root_.Go.V.ZbD {A B:Prop} (h:B) (t:Wr B → A:=by intro h; refine Zx ?_;refine Za ?_;exact h.h):A:=t ⟨h⟩
theorem zh4 (bs:List Nat):(bs.map fun b:Nat => Value.int .u8 (b:Int)).all zdv = true:=by
 rw [List.all_eq_true]
 intro v hv
 obtain ⟨b, _, rfl⟩:=List.mem_map.1 hv
 rfl
abbrev z9q (bs:List Nat) (R:Rd) (rb:Nat):GR:=GEx (X:=Value) (fun sv => GRd rb sv R) (fun sv H => BsV bs false sv H) (fun _ _ _ h hle => h.le hle)
attribute [local irreducible] V N X VO Par StepOK Has Ret RetL RetO RetT zbd RetX RetY Src
theorem zm4 {bs:List Nat} {fu:Bool} (hz:bs.length ≤ 1099511627776) {v:Value} {w:World} {B:Heap} (hB:B.Le (hp w)) (hv:BsV bs fu v B) :
  RetO Tryz.prog 135 [v] w B (SlR zje 1 bs.length (bs.map fun b:Nat => Value.int .u8 (b:Int))):=by
 have hv0:=hv
 have hlen:(bs.map fun b:Nat => Value.int .u8 (b:Int)).length = bs.length * 1:=by rw [List.length_map, Nat.mul_one]
 have hpl:=zh4 bs
 obtain ⟨p, c, rfl⟩:=zbt hv
 rcases p with _ | b
 ·obtain ⟨h0, rfl⟩:bs.length = 0 ∧ c = 0:=zs6 hv
  have hn:bs = []:=List.eq_nil_of_length_eq_zero h0
  subst hn
  refine zcd Tryz.func135 rfl Tryz.ntmps135 (Nat.le_of_ble_eq_true rfl) hB ?_
  refine ZaL ?_;refine z7 (zc2 rfl rfl rfl rfl z8z rfl) rfl ?_;refine Zdb ?_
  refine zet 2 zje 1 rfl ?_
  exact zfq rfl (fun _ _ h => h) Since.refl rfl
 ·refine zcd Tryz.func135 rfl Tryz.ntmps135 (Nat.le_of_ble_eq_true rfl) hB ?_
  refine ZaL ?_;refine z7 (zc2 rfl rfl rfl rfl z8z rfl) rfl ?_;refine ZQ ?_
  refine za4 0 (BsV bs fu) rfl SlV.mono hv0 ?_
  refine Zk ?_;refine z7 (zgs L rfl rfl rfl rfl rfl) rfl ?_;refine Zf ?_;refine Zf2 ?_;refine qe (yh (.inr rfl) rfl rfl rfl rfl) ?_;refine Z6 ?_
  rw [Nat.zero_add, List.nil_append]
  exact zfq rfl (fun _ _ h => h) Since.refl rfl
theorem zqe {bs:List Nat} {fu:Bool} (hz:bs.length ≤ 1099511627776) {v:Value} {w:World} {B:Heap} (hB:B.Le (hp w)) (hv:BsV bs fu v B) :
  RetO Tryz.prog 72 [v] w B (z1u zam (z9q bs ⟨0, 0, 0⟩)):=by
 obtain ⟨p, c, rfl⟩:=zbt hv
 refine zcd Tryz.func72 rfl Tryz.ntmps72 (Nat.le_of_ble_eq_true rfl) hB ?_
 refine ZC ?_;refine Zd ?_
 refine ZbD ?_;refine z7 (zbz L rfl rfl (zn rfl) rfl rfl rfl (fun u H hH hle _ => zm4 hz hH (hv.le hle))) rfl ?_;refine zfw 4 rfl ?_;refine zco 4 rfl fun sv H1 hs1 hsv => ?_;obtain ⟨p1, c1, rfl⟩:=zbt hsv; refine z7 (y8 (cs:=[_, _, _, _]) rfl rfl z7x rfl rfl) rfl ?_;refine ZcB ?_;refine qe (yh (.inr rfl) rfl rfl rfl rfl) ?_;refine Z6 ?_
 refine zax 2 900 rfl fun rb => ?_
 exact zzh L 900 (r0:=GRd rb _ ⟨0, 0, 0⟩) (v:=zam rb) (rs:=[.tmp 2]) rfl (fun _ _ h => h) hs1 rfl (fun _ => rfl) (fun H u C hle _ hr => ⟨rb, rfl, _, hsv.le hle, hr⟩)
end Go.V.L4
set_option maxRecDepth 20000
namespace Go.V.L4
open Go.Proofs Go.RowKit Go.V
theorem _root_.Go.V.ZaR {A B:Prop} (h:B) (t:Wr B → A:=by intro h; refine z7 (zth rfl rfl rfl rfl (decide_eq_true (by omega))) rfl ?_;exact h.h):A:=t ⟨h⟩
theorem _root_.Go.V.Zaz {A B:Prop} (h:B) (t:Wr B → A:=by intro h; refine z7 (zth rfl rfl rfl rfl (decide_eq_false (by omega))) rfl ?_;exact h.h):A:=t ⟨h⟩
theorem _root_.Go.V.ZbT {A B:Prop} (h:B) (t:Wr B → A:=by intro h; refine z7 (qx rfl rfl rfl) rfl ?_;exact h.h):A:=t ⟨h⟩
theorem _root_.Go.V.Ze3 {A B:Prop} (h:B) (t:Wr B → A:=by intro h; refine z7 (z0n L rfl rfl rfl rfl rfl rfl rfl) rfl ?_;exact h.h):A:=t ⟨h⟩
theorem _root_.Go.V.Zav {A B:Prop} (h:B) (t:Wr B → A:=by intro h; refine zk ?_;refine Zai ?_;exact h.h):A:=t ⟨h⟩
theorem _root_.Go.V.ZcE {A B:Prop} (h:B) (t:Wr B → A:=by intro h; refine ZaR ?_;refine Z9 ?_;exact h.h):A:=t ⟨h⟩
theorem _root_.Go.V.ZbE {A B:Prop} (h:B) (t:Wr B → A:=by intro h; refine ZbT ?_;refine Z6 ?_;exact h.h):A:=t ⟨h⟩
def zb2 (n:Nat):List Nat:=if n < 128 then [n] else (n % 128 + 128) :: zb2 (n / 128)
termination_by n
decreasing_by omega
theorem zcq {n:Nat} (h:n < 128):zb2 n = [n]:=by unfold zb2; rw [if_pos h]
theorem zio {n:Nat} (h:¬ n < 128):zb2 n = (n % 128 + 128) :: zb2 (n / 128):=by rw [zb2, if_neg h]
abbrev z45:TypeId:=179
abbrev byV (bs:List Nat):List Value:=bs.map fun b:Nat => Value.int .u8 (b:Int)
def GSl (sv:Value) (bs:List Nat):GR:=⟨fun H u C => (SlR zje 1 bs.length (byV bs)).P sv H u C, (SlR zje 1 bs.length (byV bs)).st⟩
theorem zlg (sv:Value) (bs:List Nat):(GSl sv bs).res = AtV sv (SlR zje 1 bs.length (byV bs)):=rfl
abbrev GWv (wb:Nat) (bs:List Nat) (sv:Value):GR:=zdz (zai wb [sv] z45) (GSl sv bs)
def zq7 (v:Value):Prop:=∃ p k c, v = .slice p k c
theorem zdf:zh7 fun (sv:Value) (_:Heap) => zq7 sv:=fun _ _ _ h _ => h
abbrev GWr (wb:Nat) (bs:List Nat):GR:=GEx (X:=Value) (GWv wb bs) (fun sv _ => zq7 sv) zdf
theorem zs7 {e:TypeId} {s n:Nat} {xs:List Value}:∀ v H u C, (SlR e s n xs).P v H u C → zq7 v:=fun v H u C ⟨_, h⟩ => by
 rcases h with ⟨_, rfl, _⟩ | ⟨b, c, r, rfl, _⟩ <;> exact ⟨_, _, _, rfl⟩
theorem zt5 (acc:List Nat) (m:Nat):byV acc ++ [Value.int .u8 (m:Int)] = byV (acc ++ [m]):=by unfold byV; rw [List.map_append]; rfl
theorem zeo:∀ (k n:Nat), n < 128 ^ (k + 1) → (zb2 n).length ≤ k + 1
 | 0, n, h => by rw [zcq (by omega)]; exact Nat.le_refl _
 | k + 1, n, h => by
  by_cases h2:n < 128
  ·rw [zcq h2]; exact Nat.le_add_left _ _
  ·rw [zio h2, List.length_cons]
   have:=zeo k (n / 128) (by rw [Nat.pow_succ] at h; exact Nat.div_lt_of_lt_mul (by rw [Nat.mul_comm]; exact h))
   omega
theorem z1k {n:Nat} (h:n < 18446744073709551616):bits .and .u64 (n:Int) 127 = ((n % 128:Nat):Int):=by
 have h2:=bits_and_u64_nat n 127 h (by decide)
 rw [show n &&& 127 = n % 128 from Nat.and_two_pow_sub_one_eq_mod n 7] at h2
 exact h2
theorem z3q (n:Nat):bits .or .u64 ((n % 128:Nat):Int) 128 = ((n % 128 + 128:Nat):Int):=by
 have h2:=bits_or_u64_nat (n % 128) 128 (by omega) (by decide)
 have h3:=z2a (a:=n % 128) (b:=1) (i:=7) (by omega)
 rw [show 1 * 2 ^ 7 = 128 from rfl] at h3
 rw [h3] at h2
 exact h2
def GNo:GR:=⟨fun _ _ C => ∀ k, ¬ C k, fun h _ _ _ _ => h⟩
theorem ziu {P:Program} {f:FuncId} {args:List Value} {w:World} {B:Heap} {C:Nat → Prop} {φ:Value → Heap → Prop} (h:RetL P f args w B C (fun v H _ => φ v H)):RetY P f args w B C GNo φ:=RetL.mono h fun _ _ _ _ hp => ⟨hp, fun _ => False, fun _ h => h, fun _ h => h.elim⟩
attribute [local irreducible] V N X VO Par StepOK Has Ret RetL RetO RetT zbd RetX RetY Src
theorem zc1 {wb n:Nat} {bs:List Nat} (hn:n < 18446744073709551616) (hz:bs.length + 10 ≤ 1099511627776) {w:World} {B:Heap} {C:Nat → Prop} (hB:B.Le (hp w)) (hr:(GWr wb bs).P B w C) (hC:∀ k, C k → k < w.heap.size ∧ B k = none) :
  zbd Tryz.prog 86 [zam wb, .int .u64 n] w B C (GWr wb (bs ++ zb2 n)):=by
 unfold zbd
 refine zaf 900 (GWr wb bs) Tryz.func86 rfl Tryz.ntmps86 (Nat.le_of_ble_eq_true rfl) hB hr hC ?_
 refine zgu (X:=Value) 900 (r:=fun sv => (GWv wb bs sv).res) (φ:=fun sv _ => zq7 sv) (hφ:=zdf) rfl fun sv H0 hs0 hsp => ?_
 refine zc7 (r1:=zaj wb [sv] z45) (r2:=(GSl sv bs).res) 900 901 rfl (zag _) ?_
 rw [zlg]
 refine Zh ?_;refine Zef ?_;refine Za ?_;refine z7 (zc2 rfl rfl rfl rfl z31 rfl) rfl ?_;refine ZQ ?_;refine qm ?_
 refine zao (fun x:Value × Nat × List Nat => [(0, .is (zam wb)), (1, .is (.int .u64 x.2.1)), (900, .own (zaj wb [x.1] z45)), (901, .own (AtV x.1 (SlR zje 1 x.2.2.length (byV x.2.2))))]) (fun x => x.2.1 < 18446744073709551616 ∧ zq7 x.1 ∧ x.2.2.length + (zb2 x.2.1).length = bs.length + (zb2 n).length ∧ x.2.2 ++ zb2 x.2.1 = bs ++ zb2 n) (fun x => x.2.1) (sv, n, bs) ⟨hn, hsp, rfl, rfl⟩ ⟨rfl, rfl, rfl, rfl, trivial⟩ ?_
 rintro ⟨s1, m, acc⟩ ⟨hm, hp1, hl, he⟩
 dsimp only at hm hp1 hl he ⊢
 have hlen:(byV acc).length = acc.length * 1:=by rw [List.length_map, Nat.mul_one]
 have hpl:=zh4 acc
 have h128:(128:Nat) ^ 10 = 1180591620717411303424:=by decide
 have hnl:=zeo 9 n (by omega)
 have haz:acc.length ≤ 1099511627776:=by omega
 by_cases h:m < 128
 ·rw [zcq h] at he
  have hcv:IntKind.u8.wrap (m:Int) = (m:Int):=zfh (by omega) (by omega)
  refine Zh ?_;refine ZbD ?_;refine Zaz ?_;refine Zgh ?_;refine Zr ?_;refine Zcm ?_;refine zcr 27 901 rfl rfl ?_;refine Za ?_;refine z7 (za0 rfl rfl rfl zi8.1 zi8.2 (zfh (by omega) (by omega))) rfl ?_;refine ZaV ?_;refine qe (zb5 L rfl rfl rfl (zq1 rfl) rfl el5 rfl rfl (by omega) (by omega)) ?_;refine zd9 31 901 zq7 rfl zs7 fun s2 hp2 => ?_;obtain ⟨p2, k2, c2, rfl⟩:=hp2; refine ZK ?_;refine ym (yf L (q:=900) (cs':=[.slice p2 k2 c2]) rfl rfl rfl rfl rfl rfl rfl rfl rfl) ?_;refine zk ?_
  have e1:byV acc ++ zhv [(0, Value.int .u8 (m:Int))] = byV (bs ++ zb2 n):=by rw [← he]; exact zt5 acc m
  have e2:acc.length + 1 = (bs ++ zb2 n).length:=by rw [← he, List.length_append]; rfl
  rw [e1, e2]
  refine zej 900 901 rfl rfl (zsj _ _) ?_
  refine zlw (X:=Value) 900 (r:=fun sv => (GWv wb (bs ++ zb2 n) sv).res) (φ:=fun sv _ => zq7 sv) zdf (.slice p2 k2 c2) ⟨_, _, _, rfl⟩ rfl ?_
  exact za9 L 900 (r:=GWr wb (bs ++ zb2 n)) rfl (fun _ _ h => h) hs0 rfl rfl
 ·rw [zio h] at he hl
  have hand:=z1k hm
  have hor:=z3q m
  have hcv:IntKind.u8.wrap ((m % 128 + 128:Nat):Int) = ((m % 128 + 128:Nat):Int):=zfh (by omega) (by omega)
  have hsr:(m:Int).fdiv (2 ^ min (7:Int).toNat IntKind.u64.bits) = ((m / 128:Nat):Int):=by
   show (m:Int).fdiv 128 = _
   rw [Int.fdiv_eq_ediv_of_nonneg _ (by decide)]
   omega
  refine Zh ?_;refine ZbD ?_;refine ZcE ?_;refine ZbP ?_;refine Zk ?_;refine Zcm ?_;refine zcr 14 901 rfl rfl ?_;refine Za ?_;refine ZeK ?_;refine ZeL ?_;refine z7 (za0 rfl rfl rfl zi8.1 zi8.2 (zfh (by omega) (by omega))) rfl ?_;refine ZaV ?_;refine qe (zb5 L rfl rfl rfl (zq1 rfl) rfl el5 rfl rfl (by omega) (by omega)) ?_;refine zd9 20 901 zq7 rfl zs7 fun s2 hp2 => ?_;obtain ⟨p2, k2, c2, rfl⟩:=hp2; refine ZK ?_;refine ym (yf L (q:=900) (cs':=[.slice p2 k2 c2]) rfl rfl rfl rfl rfl rfl rfl rfl rfl) ?_;refine Zav ?_;refine Z4 ?_;refine z7 (zxj rfl rfl rfl rfl (by omega) (by assumption)) rfl ?_;refine ZI ?_
  have e1:byV acc ++ zhv [(0, Value.int .u8 ((m % 128 + 128:Nat):Int))] = byV (acc ++ [m % 128 + 128]):=zt5 _ _
  have e2:acc.length + 1 = (acc ++ [m % 128 + 128]).length:=by rw [List.length_append]; rfl
  rw [e1, e2]
  exact yl (x:=(s1, m, acc)) (.slice p2 k2 c2, m / 128, acc ++ [m % 128 + 128]) ⟨by dsimp only; omega, ⟨_, _, _, rfl⟩, by dsimp only; rw [List.length_append]; rw [List.length_cons] at hl; simp only [List.length_cons, List.length_nil]; omega, by dsimp only; rw [List.append_assoc]; exact he⟩ (by dsimp only; omega) ⟨rfl, rfl, rfl, rfl, trivial⟩
theorem zy7 {bs:List Nat} {fu:Bool} {v:Value} {w:World} {B:Heap} (hB:B.Le (hp w)) (hv:BsV bs fu v B):Ret Tryz.prog 158 [v] w B (BsV bs true):=by
 refine qu Tryz.func158 rfl Tryz.ntmps158 (Nat.le_of_ble_eq_true rfl) hB ?_
 refine za4 0 (BsV bs fu) rfl SlV.mono hv ?_
 refine Zac ?_;refine Zf ?_;refine Zv ?_;refine Zv ?_;refine Ze3 ?_;refine ZbE ?_
 refine qt L (rs:=[.tmp 2]) rfl (fun _ _ h => h) Since.refl fun u H hH hle => ?_
 exact fun v hv => hv
theorem zid {wb:Nat} {bs:List Nat} (hz:bs.length ≤ 1099511627776) {w:World} {B:Heap} {C:Nat → Prop} (hB:B.Le (hp w)) (hr:(GWr wb bs).P B w C) (hC:∀ k, C k → k < w.heap.size ∧ B k = none) :
  RetL Tryz.prog 91 [zam wb] w B C (fun v H _ => BsV bs true v H):=by
 refine zaf 900 (GWr wb bs) Tryz.func91 rfl Tryz.ntmps91 (Nat.le_of_ble_eq_true rfl) hB hr hC ?_
 refine zgu (X:=Value) 900 (r:=fun sv => (GWv wb bs sv).res) (φ:=fun sv _ => zq7 sv) (hφ:=zdf) rfl fun sv H0 hs0 hsp => ?_
 refine zc7 (r1:=zaj wb [sv] z45) (r2:=(GSl sv bs).res) 900 901 rfl (zag _) ?_
 rw [zlg]
 obtain ⟨p, k, c, rfl⟩:=hsp
 refine ZaL ?_;refine z7 (zc2 rfl rfl rfl rfl z31 rfl) rfl ?_;refine Zdy ?_;refine ZaP ?_;refine zcr 8 901 rfl rfl ?_;refine zfw 8 rfl ?_;refine z7 (zbz L rfl rfl (zn rfl) rfl rfl rfl (fun u H hH hle _ v1 h1 => zm4 hz hH h1)) rfl ?_;refine zfw 9 rfl ?_;refine z7 (yk (φ:=BsV bs true) L rfl rfl (zn rfl) rfl rfl rfl SlV.mono (fun u H hH hle _ v1 h1 => zy7 hH h1)) rfl ?_;refine ZbE ?_
 exact qt L (rs:=[.tmp 2]) rfl (fun _ _ h => h) hs0 (fun _ H _ _ v hv => hv)
end Go.V.L4
set_option maxRecDepth 20000
namespace Go.V
open Go.RowKit
section sound
variable {P:Program} {St:Kap → Act → World → Prop} {ops:Array Oper} {ex:Exs} {Fin:Kap → Prop}
theorem zml {Fin:Kap → Prop}:∀ (m i:Nat) {κ:Kap}, i + m ≤ ops.size → z42 P St ops ex Fin ((ops.toList.drop i).take m) κ → ParI P St ops ex Fin (List.range' i m) κ
 | 0, i, κ, hm, h => by
  rw [List.take_zero] at h
  exact h
 | m + 1, i, κ, hm, h => by
  have hi:i < ops.toList.length:=by simp; omega
  rw [List.drop_eq_getElem_cons hi, List.take_succ_cons] at h
  obtain ⟨us, hd, sx, rest⟩:=h
  refine ⟨ops.toList[i], us, ?_, hd, sx, zml m (i + 1) (by omega) rest⟩
  have hi':i < ops.size:=by simpa using hi
  rw [Array.getElem?_eq_getElem hi']
  simp
end sound
section code
variable {P:Program} {F:Fr} {B:Heap} {n:Nat} {O:Boxes} {κ:Kap} {Q:Exit → Act → World → Prop}
end code
end Go.V
set_option maxRecDepth 20000
namespace Go.V
open Go.RowKit
def zsn (w:World) (B:Heap) (L:Nat → Prop) (pv:Value) (e:Ending) (u:World):Prop:=e = .panicked [{ v:=pv, recovered:=false }] ∧ ∃ H, Grow L w B u H
def Pan (P:Program) (f:FuncId) (args:List Value) (w:World) (B:Heap) (L:Nat → Prop) (pv:Value):Prop:=Calls P f args.toArray w (zsn w B L pv)
section sound
variable {P:Program} {St:Kap → Act → World → Prop} {ops:Array Oper} {ex:Exs}
end sound
section code
variable {P:Program} {F:Fr} {B:Heap} {n:Nat} {O:Boxes} {κ:Kap} {Q:Exit → Act → World → Prop} {ops:Array Oper}
def QX (P:Program) (F:Fr) (ops:Array Oper) (K:Nat) (Q:Exit → Act → World → Prop):Exit → Act → World → Prop:=fun _ a u => ∀ Kk, wpOpIn (FW F.r) 0 P ops Q K Kk a u
def XP (F:Fr) (B:Heap) (n:Nat) (O:Boxes) (κ:Kap) (pv:Value) (Q:Exit → Act → World → Prop):Prop:=∀ a u, Has F B O n κ a u → Q (.panic [{ v:=pv, recovered:=false }]) a u
theorem zb8 {id:Nat} {l:List Oper} (K:Nat) (hK:Nat.ble (K + 1) l.length = true) (h:VO P F B n O l.toArray κ (l.take K) (QX P F l.toArray K Q)):V P F B n O κ (.region id l.toArray false) Q:=fun a u hh => by
 refine wpIn_region ?_
 have hK:=Nat.le_of_ble_eq_true hK
 have hsplit:List.range l.toArray.size = List.range' 0 K ++ K :: List.range' (K + 1) (l.length - (K + 1)):=by
  rw [List.range_eq_range', show K :: List.range' (K + 1) (l.length - (K + 1)) = List.range' K (l.length - K) by rw [show l.length - K = (l.length - (K + 1)) + 1 by omega]; rfl]
  have:=List.range'_append_1 (s:=0) (m:=K) (n:=l.length - K)
  rw [Nat.zero_add] at this
  rw [this, Nat.add_sub_cancel' (by omega)]
  simp
 rw [hsplit]
 have key:∀ (m i:Nat) {a:Act} {u:World}, i + m = K → Ops P l.toArray (fun a u => QX P F l.toArray K Q .normal a u) ((l.drop i).take m) a u →
   wpOpsIn (FW F.r) 0 P l.toArray Q (List.range' i m ++ K :: List.range' (K + 1) (l.length - (K + 1))) a u:=by
  intro m
  induction m with
  | zero =>
   intro i a u hi ho
   rw [List.take_zero] at ho
   show wpOpsIn (FW F.r) 0 P l.toArray Q (K :: _) a u
   rw [wpOpsIn_cons]
   exact ho _
  | succ m ih =>
   intro i a u hi ho
   have hil:i < l.length:=by omega
   rw [List.drop_eq_getElem_cons hil, List.take_succ_cons] at ho
   have hg:l.toArray[i]? = some l[i]:=by rw [List.getElem?_toArray, List.getElem?_eq_getElem hil]
   rw [List.range'_succ, List.cons_append, wpOpsIn_cons]
   exact After.wpOpIn hg (After.mono (fun a' u' hh' => ih (i + 1) (by omega) hh') ho)
 exact key K 0 (by omega) (by rw [List.drop_zero]; exact h a u hh)
theorem zcw (L:Tabs P) (q:Nat) {K:Nat} {pv:Value} {r:Res} {d:Option Nat} {ty:TypeId} {pos:String} {aft:Array Edge} {g:Option (Nat × Bool)} {f:Nat} {args:Array Operand} {at_:Array TypeId} {cap:List Value} {fo:Operand}
  (ho:ops[K]? = some ⟨d, .call { callee:=.value fo, args:=args, argTypes:=at_ }, ty, pos, aft, g⟩) (hg:gK ops κ ⟨d, .call { callee:=.value fo, args:=args, argTypes:=at_ }, ty, pos, aft, g⟩ = some true)
  (hf:evK κ fo = some (.func (.func f) #[] cap.toArray)) (hfn:L.fn f = some ()) (hq:κ q = some (.own r))
  (h:∀ u H C, H.Le (hp u) → B.Le H → r.P undef H u C → (∀ k, C k → k < u.heap.size ∧ H k = none) → Args κ H args.toList [] (fun vs => Pan P f (vs ++ cap) u H C pv)) (hr:∀ v H u C, r.P v H u C → r.P undef H u C)
  (hX:XP F B n O (upd κ q zed) pv Q):N F B n O κ (QX P F ops K Q):=by
 rintro a u ⟨H, fp, hh⟩ Kk
 have hlk:∀ t ∈ (⟨d, .call { callee:=.value fo, args:=args, argTypes:=at_ }, ty, pos, aft, g⟩:Oper).looksAt ops, κ t = κ t:=fun _ _ => rfl
 unfold wpOpIn
 rw [ho]
 dsimp only
 rw [if_pos (zae hh hlk hg)]
 obtain ⟨hown, hM⟩:=hh.slot q _ hq
 have e2:=hh.env hlk
 have hfe:a.eval fo = .func (.func f) #[] cap.toArray:=e2.is_ fo _ (by simp [Op.operands, Call.operands]) hf
 have hc:=Args.use e2 args.toList [] (fun x hx => by simp [Op.operands, Call.operands] at hx ⊢; exact .inr hx) (h u H (fp q) hh.sub hh.base (hr _ _ _ _ hown) fun k hk => ⟨(hM k hk).1, (hM k hk).2.1⟩)
 simp only [List.reverse_nil, List.nil_append] at hc
 have hrun:=zdp (u:=u) L (o:=⟨d, .call { callee:=.value fo, args:=args, argTypes:=at_ }, ty, pos, aft, g⟩) rfl hfe hfn
 refine ⟨fun _ _ => trivial, ?_⟩
 rw [Oper.semAt_eq _ _ _ (fun c hc => by cases hc), hrun]
 refine ⟨fun e => (by cases e), FW.call _ _ (Calls.mono hc fun e' u' hp => ?_)⟩
 obtain ⟨rfl, H', g'⟩:=hp
 exact hX a u' ⟨H', _, hh.use hq g'⟩
theorem zc8 {K:Act → World → Prop} {pv:Value} (h:XP F B n O κ pv Q):XP F B n O κ pv (Exit.then K Q):=h
theorem zca {id:Nat} {pv:Value} (h:XP F B n O κ pv Q):XP F B n O κ pv (Exit.inBlock id Q):=h
theorem zo0 {fn:Func} {B0:Heap} {pv:Value} (hs:Since F B0 B) (hd:F.ds = []:=by rfl):XP F B n O κ pv (bodyPostM Fence.wide 0 P fn (zsn F.w0 B0 F.L pv)):=fun a u hh => by
 obtain ⟨H, fp, hH⟩:=hh
 have h0:=hH.defers
 rw [hd] at h0
 show LeavesInM _ _ _ _ _ _ a.defers _ _
 rw [h0]
 exact ⟨rfl, H, ⟨hH.keep, hH.sub, hs.le.trans hH.base, fun k hk hl => (hH.fresh k hk hl).trans (hs.fresh k hk hl)⟩⟩
theorem zfe {f:FuncId} {fn:Func} {c:Code} {args:List Value} {w:World} {B:Heap} {pv:Value} {C:Nat → Prop} (gs:Nat) (r:GR) (hf:P.funcs[f]? = some fn) (hb:fn.body = some c) (hn:fn.ntmps = n)
  (hs:args.length ≤ n) (hB:B.Le (hp w)) (hr:r.P B w C) (hC:∀ k, C k → k < w.heap.size ∧ B k = none) (h:V P ⟨w, none, [], C⟩ B n [] (upd (ziw 0 args) gs (.own r.res)) c (bodyPostM Fence.wide 0 P fn (zsn w B C pv))):Pan P f args w B C pv:=by
 refine zfb hf hb (h _ w ?_)
 subst hn
 have h0:=ze9 (B:=B) C (fun k hk => (hC k hk).1) hs hB (fun _ => noL)
 exact ⟨B, _, h0.putR (d:=gs) (r:=r.res) rfl rfl (fun _ _ => rfl) hr (fun k hk => ⟨(hC k hk).1, (hC k hk).2, .inr hk, fun y hy => by cases hy⟩) fun t r' _ ht => by
  obtain ⟨v, hv, _⟩:=zc6 _ _ _ _ ht
  cases hv⟩
end code
end Go.V
set_option maxRecDepth 20000
namespace Go.V
open Go.RowKit
section
variable {P:Program} {F:Fr} {B:Heap} {O:Boxes} {n:Nat} {ops:Array Oper} {κ:Kap} {d:Nat} {ty:TypeId} {pos:String} {aft:Array Edge} {g:Option (Nat × Bool)} {Q:Exit → Act → World → Prop} {a:Act} {u:World} {os:List Oper} {t xt:TypeId} {x:Operand} {v:Value}
theorem zqa (hn:Nat.blt d n = true) (hg:gK ops κ ⟨some d, .makeInterface t x, ty, pos, aft, g⟩ = some true) (hx:evK κ x = some v) (hc:P.concrete t = true) :
  StepOK P F B n ops O κ ⟨some d, .makeInterface t x, ty, pos, aft, g⟩ d (.is (.iface t v)) :=
 zan rfl (by simpa using hn) hg trivial fun a u H fp e => ⟨_, by
  have h1:a.eval x = v:=e.is_ x _ (by simp [Op.operands]) hx
  have h2:=run_makeInterface (w:=u) t v hc
  simp only [execOp, h1, Sem.run_bind, Sem.run_pure, h2, Result.andThen_ok], rfl⟩
theorem zu7 (hn:Nat.blt d n = true) (hg:gK ops κ ⟨some d, .typeAssert x xt t true, ty, pos, aft, g⟩ = some true) (hx:evK κ x = some (.iface t v)) (hc:P.concrete t = true) :
  StepOK P F B n ops O κ ⟨some d, .typeAssert x xt t true, ty, pos, aft, g⟩ d (.is (.tuple #[v, .bool true])) :=
 zan rfl (by simpa using hn) hg trivial fun a u H fp e => ⟨_, by
  have h1:a.eval x = .iface t v:=e.is_ x _ (by simp [Op.operands]) hx
  have h2:(Instr.typeAssert (.iface t v) xt t true).run P u = .ok (.tuple #[v, .bool true]) u:=by
   unfold Program.concrete at hc
   cases hd:P.underlying t with
   | none => simp [hd] at hc
   | some dd => cases dd <;> first | (simp [hd] at hc; done) | simp [Instr.typeAssert, run_underlying hd]
  simp only [execOp, h1, Sem.run_bind, Sem.run_pure, h2, Result.andThen_ok], rfl⟩
theorem zu8 {z:Value} (hn:Nat.blt d n = true) (hg:gK ops κ ⟨some d, .typeAssert x xt t true, ty, pos, aft, g⟩ = some true) (hx:evK κ x = some .nilIface) (hc:P.concrete t = true) (hz:∀ w, (zeroValue t).run P w = .ok z w) :
  StepOK P F B n ops O κ ⟨some d, .typeAssert x xt t true, ty, pos, aft, g⟩ d (.is (.tuple #[z, .bool false])) :=
 zan rfl (by simpa using hn) hg trivial fun a u H fp e => ⟨_, by
  have h1:a.eval x = .nilIface:=e.is_ x _ (by simp [Op.operands]) hx
  have h2:(Instr.typeAssert .nilIface xt t true).run P u = .ok (.tuple #[z, .bool false]) u:=by
   unfold Program.concrete at hc
   cases hd:P.underlying t with
   | none => simp [hd] at hc
   | some dd => cases dd <;> first | (simp [hd] at hc; done) | simp [Instr.typeAssert, run_underlying hd, hz]
  simp only [execOp, h1, Sem.run_bind, Sem.run_pure, h2, Result.andThen_ok], rfl⟩
theorem zn5 {K:Nat} {dd:Option Nat} (ho:ops[K]? = some ⟨dd, .panic x, ty, pos, aft, g⟩) (hg:gK ops κ ⟨dd, .panic x, ty, pos, aft, g⟩ = some true) (hx:evK κ x = some (.iface t v)) (hX:XP F B n O κ (.iface t v) Q):N F B n O κ (QX P F ops K Q):=by
 rintro a u ⟨H, fp, hh⟩ Kk
 have hlk:∀ s ∈ (⟨dd, .panic x, ty, pos, aft, g⟩:Oper).looksAt ops, κ s = κ s:=fun _ _ => rfl
 unfold wpOpIn
 rw [ho]
 dsimp only
 rw [if_pos (zae hh hlk hg)]
 have e2:=hh.env hlk
 have h1:a.eval x = .iface t v:=e2.is_ x _ (by simp [Op.operands]) hx
 have hrun:(execOp a.eval ⟨dd, .panic x, ty, pos, aft, g⟩).run P u = .halt (.panic (.iface t v)) u:=by
  simp only [execOp, h1, Sem.run_bind, run_panic_iface]
  rfl
 refine ⟨fun _ _ => trivial, ?_⟩
 rw [Oper.semAt_eq _ _ _ (fun c hc => by cases hc), hrun]
 exact hX a u ⟨H, fp, hh⟩
end
end Go.V
set_option maxRecDepth 20000
namespace Go.V
open Go.RowKit
theorem RetY.frame {P:Program} {f:FuncId} {args:List Value} {w:World} {B:Heap} {C:Nat → Prop} {r1 r1' r2:GR} {φ:Value → Heap → Prop} (hr:(zdz r1 r2).P B w C) (hC:∀ k, C k → k < w.heap.size ∧ B k = none)
  (h:∀ C1, r1.P B w C1 → (∀ k, C1 k → k < w.heap.size ∧ B k = none) → RetY P f args w B C1 r1' φ):RetY P f args w B C (zdz r1' r2) φ:=by
 obtain ⟨C1, C2, h1, h2, h3, h4⟩:=hr
 refine Calls.mono (h C1 h1 fun k hk => hC k ((h3 k).2 (.inl hk))) fun e u ⟨v, he, H, g, hp, C', hv, hC'⟩ => ?_
 have hsub:∀ k, C1 k → C k:=fun k hk => (h3 k).2 (.inl hk)
 have g2:Grow C w B u H:=⟨⟨g.keep.os, g.keep.tape, g.keep.output, g.keep.size, fun k hk hn => g.keep.block k hk fun h => hn (hsub k h), g.keep.dr⟩, g.sub, g.le, fun k hk hn => g.fresh k hk fun h => hn (hsub k h)⟩
 refine ⟨v, he, H, g2, hp, fun k => C' k ∨ C2 k, ⟨C', C2, hv, r2.st h2 g.le g.sub ⟨g.keep.os, g.keep.tape, g.keep.output, g.keep.size, g.keep.dr⟩ (fun k hk => g.keep.block k (hC k ((h3 k).2 (.inr hk))).1 fun h => h4 k h hk), fun _ => Iff.rfl, fun k hk h2k => ?_⟩, fun k hk => ?_⟩
 ·rcases (hC' k hk).1 with h | h
  ·exact h4 k h h2k
  ·have:=(hC k ((h3 k).2 (.inr h2k))).1; omega
 ·rcases hk with hk | hk
  ·obtain ⟨a, b, c⟩:=hC' k hk
   exact ⟨a.imp (hsub k) id, b, c⟩
  ·obtain ⟨a, b⟩:=hC k ((h3 k).2 (.inr hk))
   exact ⟨.inl ((h3 k).2 (.inr hk)), Nat.lt_of_lt_of_le a g.keep.size, (g.fresh k a fun h => h4 k h hk).trans b⟩
theorem RetY.conv {P:Program} {f:FuncId} {args:List Value} {w:World} {B:Heap} {C:Nat → Prop} {r r':GR} {φ:Value → Heap → Prop} (h:RetY P f args w B C r φ) (hi:∀ H u C, r.P H u C → r'.P H u C):RetY P f args w B C r' φ :=
 Calls.mono h fun _ _ ⟨v, he, H, g, hp, C', hv, hC'⟩ => ⟨v, he, H, g, hp, C', hi _ _ _ hv, hC'⟩
theorem zoi {r1 r2:GR} {H:Heap} {u:World} {C:Nat → Prop} (h:(zdz r1 r2).P H u C):(zdz r2 r1).P H u C :=
 let ⟨C1, C2, h1, h2, h3, h4⟩:=h
 ⟨C2, C1, h2, h1, fun k => (h3 k).trans or_comm, fun k a b => h4 k b a⟩
section
variable {P:Program} {F:Fr} {B:Heap} {O:Boxes} {n:Nat} {ops:Array Oper} {κ:Kap} {d:Nat} {ty:TypeId} {pos:String} {aft:Array Edge} {g:Option (Nat × Bool)} {Q:Exit → Act → World → Prop} {a:Act} {u:World} {os:List Oper}
end
end Go.V
set_option maxRecDepth 20000
namespace Go.V.L11
open Go.Proofs Go.RowKit Go.V Go.V.L4
theorem _root_.Go.V.ZdU {A B:Prop} (h:B) (t:Wr B → A:=by intro h; refine zc7 900 901 rfl (zcm _ _ _) ?_;exact h.h):A:=t ⟨h⟩
theorem _root_.Go.V.Zf3 {A B:Prop} (h:B) (t:Wr B → A:=by intro h; refine z7 (zqa rfl rfl rfl (by kernel_rfl)) rfl ?_;exact h.h):A:=t ⟨h⟩
theorem _root_.Go.V.Zf4 {A B:Prop} (h:B) (t:Wr B → A:=by intro h; refine z7 (y8 (cs:=[_, _]) rfl rfl z7y rfl rfl) rfl ?_;exact h.h):A:=t ⟨h⟩
theorem _root_.Go.V.ZcF {A B:Prop} (h:B) (t:Wr B → A:=by intro h; refine Za ?_;refine ZdT ?_;exact h.h):A:=t ⟨h⟩
theorem _root_.Go.V.ZaY {A B:Prop} (h:B) (t:Wr B → A:=by intro h; refine ZcF ?_;refine Zq ?_;exact h.h):A:=t ⟨h⟩
abbrev zvt:TypeId:=157
abbrev z8r:TypeId:=252
abbrev za3 (sb rb:Nat) (sv:Value) (fr:Int) (R:Rd):GR:=zdz (zai sb [zam rb, .int .i64 fr] zvt) (GRd rb sv R)
abbrev wrV (a e:Int):Value:=.iface z8r (.agg #[.int .i64 a, .int .i64 e])
attribute [local irreducible] V N X VO Par XP StepOK Has Ret RetL RetO RetT zbd RetX RetY Pan Src
theorem zru {sb rb:Nat} {sv:Value} {R R2:Rd} {fr0 x:Int} {fr:Nat} {fst cap:List Value} (hfn:L.fn fr = some ()) (he:R2.err = 0) {w:World} {B:Heap} {C:Nat → Prop} (hB:B.Le (hp w)) (hr:(za3 sb rb sv fr0 R).P B w C) (hC:∀ k, C k → k < w.heap.size ∧ B k = none) (hf:∀ (u:World) (H:Heap) (C:Nat → Prop), H.Le (hp u) → B.Le H → (za3 sb rb sv R.at_ R).P H u C → (∀ k, C k → k < u.heap.size ∧ H k = none) → RetX Tryz.prog fr (fst ++ cap) u H C (za3 sb rb sv R.at_ R2) (.int .i64 x)) :
  RetX Tryz.prog 136 [zam sb, .func (.func fr) fst.toArray cap.toArray] w B C (za3 sb rb sv R.at_ R2) (.int .i64 x):=by
 unfold RetX
 refine zaf 900 (za3 sb rb sv fr0 R) Tryz.func136 rfl Tryz.ntmps136 (Nat.le_of_ble_eq_true rfl) hB hr hC ?_
 rw [zcx, zac, zac]
 refine ZdU ?_
 refine Zac ?_;refine Zcm ?_;refine qe (yc L 901 (GRd rb sv R) (.int .i64 R.at_) (r:=GRd rb sv R) rfl rfl rfl rfl rfl (fun u H C2 hH _ hr2 hC2 => at_ret hH hr2 hC2)) ?_;refine ZK ?_;refine ym (yf L (q:=900) (cs':=[zam rb, .int .i64 R.at_]) rfl rfl rfl rfl rfl rfl rfl rfl rfl) ?_;refine Zj ?_
 refine zbw 900 901 rfl rfl (zag (GRd rb sv R)) ?_
 refine Z4 ?_;refine qe (zbc L 900 (za3 sb rb sv R.at_ R2) (.int .i64 x) (r:=za3 sb rb sv R.at_ R) rfl rfl rfl hfn rfl hf) ?_;refine Zg ?_
 refine zc7 (r1:=(zai sb [zam rb, .int .i64 R.at_] zvt).res) (r2:=(GRd rb sv R2).res) 900 901 rfl (zag (GRd rb sv R2)) ?_
 rw [zac]
 refine Zs ?_;refine ZaP ?_;refine qe (yc L 901 (GRd rb sv R2) (.tuple #[.int .i64 R2.bad, .int .i64 R2.err]) (r:=GRd rb sv R2) rfl rfl rfl rfl rfl (fun u H C2 hH _ hr2 hC2 => fault_ret hH hr2 hC2)) ?_;refine ZaY ?_;refine Zd ?_;refine Zw ?_;refine ZG ?_;refine ZL ?_;refine Zb ?_
 refine zbw 900 901 rfl rfl (zag (GRd rb sv R2)) ?_
 exact zaq L 900 (r:=za3 sb rb sv R.at_ R2) (rs:=[.tmp 4]) rfl (fun _ _ h => h) Since.refl rfl rfl (fun _ => rfl)
theorem zrv {sb rb:Nat} {sv:Value} {R R2:Rd} {fr0 x:Int} {fr:Nat} {fst cap:List Value} (hfn:L.fn fr = some ()) (he:R2.err ≠ 0) {w:World} {B:Heap} {C:Nat → Prop} (hB:B.Le (hp w)) (hr:(za3 sb rb sv fr0 R).P B w C) (hC:∀ k, C k → k < w.heap.size ∧ B k = none) (hf:∀ (u:World) (H:Heap) (C:Nat → Prop), H.Le (hp u) → B.Le H → (za3 sb rb sv R.at_ R).P H u C → (∀ k, C k → k < u.heap.size ∧ H k = none) → RetX Tryz.prog fr (fst ++ cap) u H C (za3 sb rb sv R.at_ R2) (.int .i64 x)) :
  Pan Tryz.prog 136 [zam sb, .func (.func fr) fst.toArray cap.toArray] w B C (wrV R2.bad R2.err):=by
 refine zfe 900 (za3 sb rb sv fr0 R) Tryz.func136 rfl Tryz.ntmps136 (Nat.le_of_ble_eq_true rfl) hB hr hC ?_
 rw [zcx, zac, zac]
 refine ZdU ?_
 refine Zac ?_;refine Zcm ?_;refine qe (yc L 901 (GRd rb sv R) (.int .i64 R.at_) (r:=GRd rb sv R) rfl rfl rfl rfl rfl (fun u H C2 hH _ hr2 hC2 => at_ret hH hr2 hC2)) ?_;refine ZK ?_;refine ym (yf L (q:=900) (cs':=[zam rb, .int .i64 R.at_]) rfl rfl rfl rfl rfl rfl rfl rfl rfl) ?_;refine Zj ?_
 refine zbw 900 901 rfl rfl (zag (GRd rb sv R)) ?_
 refine Z4 ?_;refine qe (zbc L 900 (za3 sb rb sv R.at_ R2) (.int .i64 x) (r:=za3 sb rb sv R.at_ R) rfl rfl rfl hfn rfl hf) ?_;refine Zg ?_
 refine zc7 (r1:=(zai sb [zam rb, .int .i64 R.at_] zvt).res) (r2:=(GRd rb sv R2).res) 900 901 rfl (zag (GRd rb sv R2)) ?_
 rw [zac]
 refine Zs ?_;refine ZaP ?_;refine qe (yc L 901 (GRd rb sv R2) (.tuple #[.int .i64 R2.bad, .int .i64 R2.err]) (r:=GRd rb sv R2) rfl rfl rfl rfl rfl (fun u H C2 hH _ hr2 hC2 => fault_ret hH hr2 hC2)) ?_;refine ZaY ?_;refine Zd ?_;refine Zw ?_;refine Zbe ?_;refine Z9 ?_;refine zb8 (id:=5) 4 rfl ?_;refine Zc ?_;refine Zf4 ?_;refine Zf3 ?_;refine zk ?_;refine zn5 (K:=4) rfl rfl rfl ?_
 repeat (first | refine zc8 ?_ | refine zca ?_)
 exact zo0 Since.refl
theorem zgz {sb rb:Nat} {sv:Value} {R R2:Rd} {fr0 x:Int} {fr:Nat} {fst cap:List Value} (hfn:L.fn fr = some ()) (he:R2.err = 0) {w:World} {B:Heap} {C:Nat → Prop} (hB:B.Le (hp w)) (hr:(za3 sb rb sv fr0 R).P B w C) (hC:∀ k, C k → k < w.heap.size ∧ B k = none) (hf:∀ (u:World) (H:Heap) (C:Nat → Prop), H.Le (hp u) → B.Le H → (za3 sb rb sv R.at_ R).P H u C → (∀ k, C k → k < u.heap.size ∧ H k = none) → RetX Tryz.prog fr (fst ++ cap) u H C (za3 sb rb sv R.at_ R2) (.int .u64 x)) :
  RetX Tryz.prog 75 [zam sb, .func (.func fr) fst.toArray cap.toArray] w B C (za3 sb rb sv R.at_ R2) (.int .u64 x):=by
 unfold RetX
 refine zaf 900 (za3 sb rb sv fr0 R) Tryz.func75 rfl Tryz.ntmps75 (Nat.le_of_ble_eq_true rfl) hB hr hC ?_
 rw [zcx, zac, zac]
 refine ZdU ?_
 refine Zac ?_;refine Zcm ?_;refine qe (yc L 901 (GRd rb sv R) (.int .i64 R.at_) (r:=GRd rb sv R) rfl rfl rfl rfl rfl (fun u H C2 hH _ hr2 hC2 => at_ret hH hr2 hC2)) ?_;refine ZK ?_;refine ym (yf L (q:=900) (cs':=[zam rb, .int .i64 R.at_]) rfl rfl rfl rfl rfl rfl rfl rfl rfl) ?_;refine Zj ?_
 refine zbw 900 901 rfl rfl (zag (GRd rb sv R)) ?_
 refine Z4 ?_;refine qe (zbc L 900 (za3 sb rb sv R.at_ R2) (.int .u64 x) (r:=za3 sb rb sv R.at_ R) rfl rfl rfl hfn rfl hf) ?_;refine Zg ?_
 refine zc7 (r1:=(zai sb [zam rb, .int .i64 R.at_] zvt).res) (r2:=(GRd rb sv R2).res) 900 901 rfl (zag (GRd rb sv R2)) ?_
 rw [zac]
 refine Zs ?_;refine ZaP ?_;refine qe (yc L 901 (GRd rb sv R2) (.tuple #[.int .i64 R2.bad, .int .i64 R2.err]) (r:=GRd rb sv R2) rfl rfl rfl rfl rfl (fun u H C2 hH _ hr2 hC2 => fault_ret hH hr2 hC2)) ?_;refine ZaY ?_;refine Zd ?_;refine Zw ?_;refine ZG ?_;refine ZL ?_;refine Zb ?_
 refine zbw 900 901 rfl rfl (zag (GRd rb sv R2)) ?_
 exact zaq L 900 (r:=za3 sb rb sv R.at_ R2) (rs:=[.tmp 4]) rfl (fun _ _ h => h) Since.refl rfl rfl (fun _ => rfl)
theorem zd4 {sb rb:Nat} {sv:Value} {R:Rd} {fr0 e:Int} {w:World} {B:Heap} {C:Nat → Prop} (hB:B.Le (hp w)) (hr:(za3 sb rb sv fr0 R).P B w C) (hC:∀ k, C k → k < w.heap.size ∧ B k = none):zbd Tryz.prog 74 [zam sb, .bool true, .int .i64 e] w B C (za3 sb rb sv fr0 R):=by
 unfold zbd
 refine zaf 900 (za3 sb rb sv fr0 R) Tryz.func74 rfl Tryz.ntmps74 (Nat.le_of_ble_eq_true rfl) hB hr hC ?_
 refine ZC ?_;refine Za ?_;refine Zp ?_;refine Zbc ?_
 exact za9 L 900 (r:=za3 sb rb sv fr0 R) rfl (fun _ _ h => h) Since.refl rfl rfl
theorem zju {sb rb:Nat} {sv:Value} {R:Rd} {fr0 e:Int} {w:World} {B:Heap} {C:Nat → Prop} (hB:B.Le (hp w)) (hr:(za3 sb rb sv fr0 R).P B w C) (hC:∀ k, C k → k < w.heap.size ∧ B k = none):Pan Tryz.prog 74 [zam sb, .bool false, .int .i64 e] w B C (wrV fr0 e):=by
 refine zfe 900 (za3 sb rb sv fr0 R) Tryz.func74 rfl Tryz.ntmps74 (Nat.le_of_ble_eq_true rfl) hB hr hC ?_
 rw [zcx, zac, zac]
 refine ZdU ?_
 refine ZC ?_;refine Za ?_;refine Zp ?_;refine Z9 ?_;refine zb8 (id:=1) 7 rfl ?_;refine ZbR ?_;refine Za ?_;refine Zf4 ?_;refine Zf3 ?_;refine zk ?_;refine zn5 (K:=7) rfl rfl rfl ?_
 repeat (first | refine zc8 ?_ | refine zca ?_)
 exact zo0 Since.refl
end Go.V.L11
set_option maxRecDepth 20000
namespace Go.V.L11
open Go.Proofs Go.RowKit Go.V Go.V.L4
theorem _root_.Go.V.Zbj {A B:Prop} (h:B) (t:Wr B → A:=by intro h; refine Zay ?_;refine Za ?_;exact h.h):A:=t ⟨h⟩
attribute [local irreducible] V N X VO Par XP StepOK Has Ret RetL RetO RetT zbd RetX RetY Pan Src
theorem zpp {sb rb b2 b3 lim:Nat} {sv:Value} {R:Rd} {fr0:Int} {bs:List Nat} {fu:Bool} (hb:∀ b ∈ bs, b ≤ 255) (hl:bs.length ≤ 1099511627776) (hat:R.at_ ≤ bs.length) (hlim:lim ≤ 1099511627776) {w:World} {B:Heap} {C:Nat → Prop} (hB:B.Le (hp w)) (hs:BsV bs fu sv B) (h2:B b2 = some (.cells #[zam sb] 153)) (h3:B b3 = some (.cells #[.int .i64 lim] 3)) (hr:(za3 sb rb sv fr0 R).P B w C) (hC:∀ k, C k → k < w.heap.size ∧ B k = none) :
  RetX Tryz.prog 137 [zam b2, zam b3] w B C (za3 sb rb sv fr0 (zbp bs lim R).2) (.int .i64 (zbp bs lim R).1):=by
 unfold RetX
 refine zaf 900 (za3 sb rb sv fr0 R) Tryz.func137 rfl Tryz.ntmps137 (Nat.le_of_ble_eq_true rfl) hB hr hC ?_
 rw [zcx, zac, zac]
 refine ZdU ?_
 refine ZC ?_;refine Zd ?_;refine qh (id:=1) [(200006, [900]), (8, [901])] mixed (by kernel_rfl) ?_;refine zd (q6 L (qn rfl h2) rfl rfl rfl rfl) rfl ?_;refine Zb7 ?_;refine ZeI ?_;refine zd (q6 L (qn rfl h3) rfl rfl rfl rfl) rfl ?_;refine zav (yc L 901 (GRd rb sv (zbp bs lim R).2) (.int .i64 (zbp bs lim R).1) (r:=GRd rb sv R) rfl rfl rfl rfl rfl (fun u H C2 hH hle hr2 hC2 => len_ret hlim hb hl hat hH (hs.le hle) hr2 hC2)) rfl rfl ?_;refine Zl ?_
 refine zbw 900 901 rfl rfl (zag (GRd rb sv (zbp bs lim R).2)) ?_
 exact zaq L 900 (r:=za3 sb rb sv fr0 (zbp bs lim R).2) (rs:=[.tmp 2]) rfl (fun _ _ h => h) Since.refl rfl rfl (fun _ => rfl)
theorem size_ret {sb rb lim:Nat} {sv:Value} {R:Rd} {fr0:Int} {bs:List Nat} {fu:Bool} (hb:∀ b ∈ bs, b ≤ 255) (hl:bs.length ≤ 1099511627776) (hat:R.at_ ≤ bs.length) (hlim:lim ≤ 1099511627776) (he:(zbp bs lim R).2.err = 0) {w:World} {B:Heap} {C:Nat → Prop} (hB:B.Le (hp w)) (hs:BsV bs fu sv B) (hr:(za3 sb rb sv fr0 R).P B w C) (hC:∀ k, C k → k < w.heap.size ∧ B k = none) :
  RetX Tryz.prog 73 [zam sb, .int .i64 lim] w B C (za3 sb rb sv R.at_ (zbp bs lim R).2) (.int .i64 (zbp bs lim R).1):=by
 unfold RetX
 refine zaf 900 (za3 sb rb sv fr0 R) Tryz.func73 rfl Tryz.ntmps73 (Nat.le_of_ble_eq_true rfl) hB hr hC ?_
 refine ZZ ?_;refine ZcB ?_;refine Zd ?_
 refine zax 2 902 rfl fun b2 => ?_
 refine zax 3 903 rfl fun b3 => ?_
 refine zei 902 rfl fun H1 hs1 _ h2 => ?_
 refine zei 903 rfl fun H2 hs2 _ h3 => ?_
 have h2:=hs2.le _ _ h2
 have hs12:=hs1.trans hs2
 have hs':=hs.le hs12.le
 have hcl:∀ (u:World) (H:Heap) (C:Nat → Prop), H2.Le H → H.Le (hp u) → (za3 sb rb sv R.at_ R).P H u C → (∀ k, C k → k < u.heap.size ∧ H k = none) → RetX Tryz.prog 137 ([] ++ [zam b2, zam b3]) u H C (za3 sb rb sv R.at_ (zbp bs lim R).2) (.int .i64 (zbp bs lim R).1):=fun u H C3 hle hH hr3 hC3 => zpp hb hl hat hlim hH (hs'.le hle) (hle _ _ h2) (hle _ _ h3) hr3 hC3
 refine Zx ?_;refine z7 (q6 L (qn rfl h2) rfl rfl rfl rfl) rfl ?_;refine ZaQ ?_;refine qe (yc L 900 (za3 sb rb sv R.at_ (zbp bs lim R).2) (.int .i64 (zbp bs lim R).1) (r:=za3 sb rb sv fr0 R) rfl rfl rfl rfl rfl (fun u H C2 hH hle hr2 hC2 => zru (fst:=[]) (cap:=[zam b2, zam b3]) rfl he hH hr2 hC2 (fun u3 H3 C3 hH3 hle3 hr3 hC3 => hcl u3 H3 C3 (hle.trans hle3) hH3 hr3 hC3))) ?_;refine Zb ?_
 exact zaq L 900 (r:=za3 sb rb sv R.at_ (zbp bs lim R).2) (rs:=[.tmp 4]) rfl (fun _ _ h => h) hs12 rfl rfl (fun _ => rfl)
theorem zs8 {sb rb lim:Nat} {sv:Value} {R:Rd} {fr0:Int} {bs:List Nat} {fu:Bool} (hb:∀ b ∈ bs, b ≤ 255) (hl:bs.length ≤ 1099511627776) (hat:R.at_ ≤ bs.length) (hlim:lim ≤ 1099511627776) (he:(zbp bs lim R).2.err ≠ 0) {w:World} {B:Heap} {C:Nat → Prop} (hB:B.Le (hp w)) (hs:BsV bs fu sv B) (hr:(za3 sb rb sv fr0 R).P B w C) (hC:∀ k, C k → k < w.heap.size ∧ B k = none) :
  Pan Tryz.prog 73 [zam sb, .int .i64 lim] w B C (wrV (zbp bs lim R).2.bad (zbp bs lim R).2.err):=by
 refine zfe 900 (za3 sb rb sv fr0 R) Tryz.func73 rfl Tryz.ntmps73 (Nat.le_of_ble_eq_true rfl) hB hr hC ?_
 refine ZZ ?_;refine ZcB ?_;refine Zd ?_
 refine zax 2 902 rfl fun b2 => ?_
 refine zax 3 903 rfl fun b3 => ?_
 refine zei 902 rfl fun H1 hs1 _ h2 => ?_
 refine zei 903 rfl fun H2 hs2 _ h3 => ?_
 have h2:=hs2.le _ _ h2
 have hs12:=hs1.trans hs2
 have hs':=hs.le hs12.le
 have hcl:∀ (u:World) (H:Heap) (C:Nat → Prop), H2.Le H → H.Le (hp u) → (za3 sb rb sv R.at_ R).P H u C → (∀ k, C k → k < u.heap.size ∧ H k = none) → RetX Tryz.prog 137 ([] ++ [zam b2, zam b3]) u H C (za3 sb rb sv R.at_ (zbp bs lim R).2) (.int .i64 (zbp bs lim R).1):=fun u H C3 hle hH hr3 hC3 => zpp hb hl hat hlim hH (hs'.le hle) (hle _ _ h2) (hle _ _ h3) hr3 hC3
 refine zb8 (id:=1) 2 rfl ?_;refine z7 (q6 L (qn rfl h2) rfl rfl rfl rfl) rfl ?_;refine ZaQ ?_;refine zk ?_;refine zcw (r:=(za3 sb rb sv fr0 R).res) (K:=2) L 900 rfl rfl rfl rfl rfl (fun u H C2 hH hle hr2 hC2 => zrv (fst:=[]) (cap:=[zam b2, zam b3]) rfl he hH hr2 hC2 (fun u3 H3 C3 hH3 hle3 hr3 hC3 => hcl u3 H3 C3 (hle.trans hle3) hH3 hr3 hC3)) (fun _ _ _ _ h => h) ?_
 repeat (first | refine zc8 ?_ | refine zca ?_)
 exact zo0 hs12
theorem zur {sb rb:Nat} {sv:Value} {R:Rd} {fr0:Int} {bs:List Nat} {fu:Bool} (hl:bs.length ≤ 1099511627776) (hat:R.at_ ≤ bs.length) (he:(zgp bs R).2 = 0) {w:World} {B:Heap} {C:Nat → Prop} (hB:B.Le (hp w)) (hs:BsV bs fu sv B) (hr:(za3 sb rb sv fr0 R).P B w C) (hC:∀ k, C k → k < w.heap.size ∧ B k = none) :
  zbd Tryz.prog 79 [zam sb] w B C (za3 sb rb sv fr0 R):=by
 unfold zbd
 refine zaf 900 (za3 sb rb sv fr0 R) Tryz.func79 rfl Tryz.ntmps79 (Nat.le_of_ble_eq_true rfl) hB hr hC ?_
 rw [zcx, zac, zac]
 refine ZdU ?_
 refine ZC ?_;refine ZbR ?_;refine qe (yc L 901 (GRd rb sv R) (.tuple #[.int .i64 (zgp bs R).1, .int .i64 (zgp bs R).2]) (r:=GRd rb sv R) rfl rfl rfl rfl rfl (fun u H C2 hH hle hr2 hC2 => zy1 hl hat hH (hs.le hle) hr2 hC2)) ?_;refine ZaY ?_;refine Zbj ?_;refine Zae ?_;refine Zbc ?_
 refine zej 900 901 rfl rfl (zag (GRd rb sv R)) ?_
 exact za9 L 900 (r:=za3 sb rb sv fr0 R) rfl (fun _ _ h => h) Since.refl rfl rfl
theorem zmd {sb rb:Nat} {sv:Value} {R:Rd} {fr0:Int} {bs:List Nat} {fu:Bool} (hl:bs.length ≤ 1099511627776) (hat:R.at_ ≤ bs.length) (he:(zgp bs R).2 ≠ 0) {w:World} {B:Heap} {C:Nat → Prop} (hB:B.Le (hp w)) (hs:BsV bs fu sv B) (hr:(za3 sb rb sv fr0 R).P B w C) (hC:∀ k, C k → k < w.heap.size ∧ B k = none) :
  Pan Tryz.prog 79 [zam sb] w B C (wrV (zgp bs R).1 (zgp bs R).2):=by
 refine zfe 900 (za3 sb rb sv fr0 R) Tryz.func79 rfl Tryz.ntmps79 (Nat.le_of_ble_eq_true rfl) hB hr hC ?_
 rw [zcx, zac, zac]
 refine ZdU ?_
 refine ZC ?_;refine ZbR ?_;refine qe (yc L 901 (GRd rb sv R) (.tuple #[.int .i64 (zgp bs R).1, .int .i64 (zgp bs R).2]) (r:=GRd rb sv R) rfl rfl rfl rfl rfl (fun u H C2 hH hle hr2 hC2 => zy1 hl hat hH (hs.le hle) hr2 hC2)) ?_;refine ZaY ?_;refine Zbj ?_;refine Zbe ?_;refine Z9 ?_;refine zb8 (id:=2) 4 rfl ?_;refine Zc ?_;refine Zf4 ?_;refine Zf3 ?_;refine zk ?_;refine zn5 (K:=4) rfl rfl rfl ?_
 repeat (first | refine zc8 ?_ | refine zca ?_)
 exact zo0 Since.refl
end Go.V.L11
set_option maxRecDepth 20000
namespace Go.V
open Go.RowKit
section rec
variable {F:Fence} {nn:Nat} {P:Program} {Q:Exit → Act → List Frame → World → Prop} {a:Act} {cs:List Frame} {w:World}
theorem zm9 {id d:Nat} {o:Oper} {l:List Oper} {v:Value} {cs':List Frame} (hro:F.round = none) (hd:o.dst = some d) (hop:o.op = .call { callee:=.builtin .recover, args:=#[], argTypes:=#[] }) (hgd:o.guard = none) (hrec:(recoverD cs = some (v, cs')) ∨ (recoverD cs = none ∧ v = .nilIface ∧ cs' = cs))
  (h:wpOpsIn F nn P (o :: l).toArray (fun e a' w' => Q e a' cs' w') (List.range' 1 l.length) (a.put (some d) v) w):(Code.region id (o :: l).toArray false).wpSIn F nn P Q a cs w:=fun b k hb hr hF hroom => by
 have hlen:cs'.length = cs.length:=by
  rcases hrec with h | ⟨_, _, rfl⟩
  ·exact recoverD_length h
  ·rfl
 obtain ⟨e, a', w', hq, harr⟩:=wp_opsIn _ _ _ h b k cs' (hr.trans hro.symm) hF (hlen ▸ hroom)
 have hsz:List.range (o :: l).toArray.size = 0 :: List.range' 1 l.length:=by rw [List.range_eq_range']; simp [List.range'_succ]
 have ho:(o :: l).toArray[0]? = some o:=by simp
 have hw:Region.wanted o (yielded (o :: l).toArray a.tmps) = true:=by unfold Region.wanted; rw [hgd]
 have hg:=stepGR_op (P:=P) (b:=b) (k:=k) (cs:=cs) (w:=w) (rest:=List.range' 1 l.length) ho hw
 rw [hr, Oper.semAt_none] at hg
 have hrun:(execOp a.eval o).run P w = .ok .recover w:=by unfold execOp; rw [hop]; rfl
 have hfin:∀ v, (b.atR a (.inRegion (o :: l).toArray (0 :: List.range' 1 l.length) :: k)).finish v = b.atR (a.put o.dst v) (.inRegion (o :: l).toArray (List.range' 1 l.length) :: k):=by
  intro v; rw [Frame.finish_atR, ho]; rfl
 have hk:(b.atR a (.inRegion (o :: l).toArray (0 :: List.range' 1 l.length) :: k)).kind = .deferred:=hb
 have htr:=tryRecover_deferred hk cs
 have habout:∀ f, o.about P w a.eval = some f → F.fn f:=fun f hf => by
  unfold Oper.about at hf
  rw [hop] at hf
  cases hf
 have hst:step P (lone (b.atR a (.inRegion (o :: l).toArray (0 :: List.range' 1 l.length) :: k)) cs w) = .next (lone (b.atR (a.put (some d) v) (.inRegion (o :: l).toArray (List.range' 1 l.length) :: k)) cs' w):=by
  refine step_lone_go ?_
  rw [hg, ← hd, ← hfin]
  simp only [Frame.atR, hr] at htr ⊢
  rcases hrec with h1 | ⟨h1, rfl, rfl⟩
  ·simp [stepG.apply, hrun, htr, h1]
  ·simp [stepG.apply, hrun, htr, h1]
 have hreg:step P (lone (b.atR a (.code (.region id (o :: l).toArray false) :: k)) cs w) = _:=stepR_region
 rw [hsz] at hreg
 exact ⟨e, a', cs', w', hlen, hq, .of_steps (.one (fenced_calm hF hroom rfl) hreg) (.of_steps (.one (fenced_oper hF hroom ho habout) hst) harr)⟩
end rec
section code
variable {P:Program} {F:Fr} {B:Heap} {n:Nat} {O:Boxes} {κ:Kap} {Q:Exit → Act → World → Prop} {ops:Array Oper}
def QR (P:Program) (F:Fr) (ops:Array Oper) (K:Nat) (Q:Exit → Act → World → Prop):Exit → Act → World → Prop:=fun _ a u => wpOpsIn (FW F.r) 0 P ops Q (List.range' K (ops.size - K)) a u
theorem zzi {id:Nat} {l:List Oper} (K:Nat) (hK:Nat.ble K l.length = true) (h:VO P F B n O l.toArray κ (l.take K) (QR P F l.toArray K Q)):V P F B n O κ (.region id l.toArray false) Q:=fun a u hh => by
 refine wpIn_region ?_
 have hK:=Nat.le_of_ble_eq_true hK
 have hsplit:List.range l.toArray.size = List.range' 0 K ++ List.range' K (l.toArray.size - K):=by
  rw [List.range_eq_range']
  have:=List.range'_append_1 (s:=0) (m:=K) (n:=l.toArray.size - K)
  rw [Nat.zero_add] at this
  rw [this, Nat.add_sub_cancel' (by simpa using hK)]
 rw [hsplit]
 have key:∀ (m i:Nat) {a:Act} {u:World}, i + m = K → Ops P l.toArray (fun a u => QR P F l.toArray K Q .normal a u) ((l.drop i).take m) a u →
   wpOpsIn (FW F.r) 0 P l.toArray Q (List.range' i m ++ List.range' K (l.toArray.size - K)) a u:=by
  intro m
  induction m with
  | zero =>
   intro i a u hi ho
   rw [List.take_zero] at ho
   exact ho
  | succ m ih =>
   intro i a u hi ho
   have hil:i < l.length:=by omega
   rw [List.drop_eq_getElem_cons hil, List.take_succ_cons] at ho
   have hg:l.toArray[i]? = some l[i]:=by rw [List.getElem?_toArray, List.getElem?_eq_getElem hil]
   rw [List.range'_succ, List.cons_append, wpOpsIn_cons]
   exact After.wpOpIn hg (After.mono (fun a' u' hh' => ih (i + 1) (by omega) hh') ho)
 exact key K 0 (by omega) (by rw [List.drop_zero]; exact h a u hh)
abbrev dfd (f:Nat) (cap:List Value):Deferred:={ target:=.fn (.func f) cap.toArray, args:=#[] }
theorem zk7 {K:Nat} {ty:TypeId} {pos:String} {aft:Array Edge} {f:Nat} {cap:List Value} {fo:Operand} (hds:F.ds = []) (hr:F.r = none)
  (ho:ops[K]? = some ⟨none, .defer { callee:=.value fo, args:=#[], argTypes:=#[] }, ty, pos, aft, none⟩) (hf:evK κ fo = some (.func (.func f) #[] cap.toArray))
  (h:VO P ⟨F.w0, F.r, [.u (dfd f cap)], F.L⟩ B n O ops κ (ops.toList.drop (K + 1)) Q):N F B n O κ (QR P F ops K Q):=by
 rintro a u ⟨H, fp, hh⟩
 have hKs:K < ops.size:=by
  rcases Nat.lt_or_ge K ops.size with h | h
  ·exact h
  ·rw [Array.getElem?_eq_none h] at ho; cases ho
 unfold QR
 rw [show ops.size - K = (ops.size - (K + 1)) + 1 by omega, List.range'_succ, wpOpsIn_cons]
 unfold wpOpIn
 rw [ho]
 dsimp only
 rw [if_pos (by unfold Region.wanted; rfl)]
 have e2:=hh.env (ops:=ops) (o:=⟨none, .defer { callee:=.value fo, args:=#[], argTypes:=#[] }, ty, pos, aft, none⟩) (κ:=κ) (fun _ _ => rfl)
 have hfe:a.eval fo = .func (.func f) #[] cap.toArray:=e2.is_ fo _ (by simp [Op.operands, Call.operands]) hf
 refine ⟨fun _ _ => trivial, ?_⟩
 have hround:(FW F.r).round = none:=by rw [hr]; rfl
 rw [hround, Oper.semAt_none]
 have hrun:(execOp a.eval ⟨none, .defer { callee:=.value fo, args:=#[], argTypes:=#[] }, ty, pos, aft, none⟩).run P u = .ok (.defer (dfd f cap)) u:=by
  unfold execOp
  dsimp only
  simp only [resolve, hfe, Deferred.ofValue, Sem.run_bind, Sem.run_pure, Result.andThen_ok]
  simp [dfd]
 rw [hrun, Oper.uponIn_defer]
 have had:a.defers = []:=by have:=hh.defers; rw [hds] at this; exact this
 refine zen (fun _ _ h => h) (ops.size - (K + 1)) (K + 1) (by omega) (h _ u ⟨H, fp, ?_⟩)
 exact ⟨hh.size, by show dfd f cap :: a.defers = _; rw [had]; rfl, by simp, fun D hD => by simp at hD, hh.lent, hh.keep, hh.sub, hh.base, hh.fresh, hh.boxes, hh.apart, hh.slot, hh.owns, hh.mono⟩
def zjl (P:Program) (f:Nat) (args:List Value) (w:World) (B:Heap) (C:Nat → Prop) (m m':FrameMode) (r:GR):Prop :=
 CallsDIn Fence.wide 0 P f args.toArray m w fun e u' w' => e = .returned (.tuple #[]) ∧ u' = m' ∧ ∃ H, Grow C w B w' H ∧ ∃ C', r.P H w' C' ∧ ∀ k, C' k → (C k ∨ w.heap.size ≤ k) ∧ k < w'.heap.size ∧ H k = none
def z4r (P:Program) (fn:Func) (R:World → Prop):Exit → Act → World → Prop
 | .normal, a, w | .ret, a, w => a.defers = [] ∧ (results fn a.tmps).run P w = .ok (.tuple #[]) w ∧ R w
 | _, _, _ => False
inductive RecM:FrameMode → FrameMode → Value → Prop where
 | idle:RecM .returning .returning .nilIface
 | caught (v:Value):RecM (.panicking [{ v:=v, recovered:=false }]) (.panicking [{ v:=v, recovered:=true }]) v
theorem zub {f:Nat} {fn:Func} {id d:Nat} {o:Oper} {l:List Oper} {y:Code} {args:List Value} {w:World} {B:Heap} {C:Nat → Prop} {m m':FrameMode} {v:Value} (gs:Nat) (r0 r:GR) (hm:RecM m m' v) (hf:P.funcs[f]? = some fn)
  (hb:fn.body = some (.seq (.region id (o :: l).toArray false) y)) (hn:fn.ntmps = n) (hs:args.length ≤ n) (hd:o.dst = some d) (hdn:Nat.blt d n = true) (hop:o.op = .call { callee:=.builtin .recover, args:=#[], argTypes:=#[] }) (hgd:o.guard = none) (hB:B.Le (hp w)) (hr:r0.P B w C) (hC:∀ k, C k → k < w.heap.size ∧ B k = none)
  (h:VO P ⟨w, none, [], C⟩ B n [] (o :: l).toArray (upd (upd (ziw 0 args) gs (.own r0.res)) d (.is v)) l (Exit.then (fun a u => y.wpIn (FW none) 0 P (z4r P fn fun u => ∃ H, Grow C w B u H ∧ ∃ C', r.P H u C' ∧ ∀ k, C' k → (C k ∨ w.heap.size ≤ k) ∧ k < u.heap.size ∧ H k = none) a u) (z4r P fn fun u => ∃ H, Grow C w B u H ∧ ∃ C', r.P H u C' ∧ ∀ k, C' k → (C k ∨ w.heap.size ≤ k) ∧ k < u.heap.size ∧ H k = none))) :
  zjl P f args w B C m m' r:=by
 refine callsDIn_of_wpSIn hf hb trivial fun c0 cs hu => ?_
 have hrec:∃ cs', ((recoverD (c0 :: cs) = some (v, cs')) ∨ (recoverD (c0 :: cs) = none ∧ v = .nilIface ∧ cs' = c0 :: cs)) ∧ cs' = { c0 with mode:=m' } :: cs:=by
  cases hm with
  | idle => exact ⟨_, .inr ⟨by simp [recoverD, hu], rfl, rfl⟩, by rw [← hu]⟩
  | caught v => exact ⟨_, .inl (by simp [recoverD, hu]), rfl⟩
 obtain ⟨cs', hrec, rfl⟩:=hrec
 have hend:∀ e a u, z4r P fn (fun u => ∃ H, Grow C w B u H ∧ ∃ C', r.P H u C' ∧ ∀ k, C' k → (C k ∨ w.heap.size ≤ k) ∧ k < u.heap.size ∧ H k = none) e a u →
   bodyPostS P fn c0 cs (fun e u' w' => e = .returned (.tuple #[]) ∧ u' = m' ∧ ∃ H, Grow C w B w' H ∧ ∃ C', r.P H w' C' ∧ ∀ k, C' k → (C k ∨ w.heap.size ≤ k) ∧ k < w'.heap.size ∧ H k = none) e a ({ c0 with mode:=m' } :: cs) u:=fun e a u he => by
  cases e with
  | normal => exact ⟨he.1, m', rfl, _, he.2.1, rfl, rfl, he.2.2⟩
  | ret => exact ⟨he.1, m', rfl, _, he.2.1, rfl, rfl, he.2.2⟩
  | exit id => exact he.elim
  | goto l => exact he.elim
  | panic c => exact he.elim
  | outgrown => exact he.elim
 refine wpSIn_seq (zm9 (cs':={ c0 with mode:=m' } :: cs) rfl hd hop hgd hrec ?_)
 subst hn
 have h0:=ze9 (B:=B) C (fun k hk => (hC k hk).1) hs hB (fun _ => noL)
 have h1:HasH ⟨w, none, [], C⟩ B [] fn.ntmps (upd (ziw 0 args) gs (.own r0.res)) { tmps:=args.toArray ++ Array.replicate (fn.ntmps - args.toArray.size) undef, defers:=[] } w B _:=h0.putR (d:=gs) (r:=r0.res) rfl rfl (fun _ _ => rfl) hr (fun k hk => ⟨(hC k hk).1, (hC k hk).2, .inr hk, fun y hy => by cases hy⟩) fun t r' _ ht => by
  obtain ⟨v, hv, _⟩:=zc6 _ _ _ _ ht
  cases hv
 have h2:=h1.put (d:=d) (k:=.is v) (v:=v) (zn hdn) trivial rfl
 have h3:=h _ w ⟨B, _, h2⟩
 refine zen (Q:=fun a u => Exit.then (fun a u => y.wpIn (FW none) 0 P (z4r P fn fun u => ∃ H, Grow C w B u H ∧ ∃ C', r.P H u C' ∧ ∀ k, C' k → (C k ∨ w.heap.size ≤ k) ∧ k < u.heap.size ∧ H k = none) a u) (z4r P fn fun u => ∃ H, Grow C w B u H ∧ ∃ C', r.P H u C' ∧ ∀ k, C' k → (C k ∨ w.heap.size ≤ k) ∧ k < u.heap.size ∧ H k = none) .normal a u) (r:=none) (fun a u hy => ?_) l.length 1 (by simp; omega) (by simpa using h3)
 exact wpSIn_of_wpIn rfl (Go.wpIn_mono hy fun e a u he => hend e a u he)
theorem z0h (L:Tabs P) {fn:Func} (gs:Nat) {r:GR} (hrs:fn.results = #[]) (hd:F.ds = []) (hk:κ gs = some (.own r.res)) {B0:Heap} (hs:Since F B0 B):∀ a u, Has F B O n κ a u →
  z4r P fn (fun u => ∃ H, Grow F.L F.w0 B0 u H ∧ ∃ C', r.P H u C' ∧ ∀ k, C' k → (F.L k ∨ F.w0.heap.size ≤ k) ∧ k < u.heap.size ∧ H k = none) .normal a u:=fun a u hh => by
 obtain ⟨H, fp, hH⟩:=hh
 have h0:=hH.defers
 rw [hd] at h0
 refine ⟨h0, ?_, H, ⟨hH.keep, hH.sub, hs.le.trans hH.base, fun k hk hl => (hH.fresh k hk hl).trans (hs.fresh k hk hl)⟩, HasH.ghost hk hH⟩
 obtain ⟨vs, h1, h2⟩:=zbn L hH (rs:=[]) hrs (K:=fun vs => vs = []) rfl
 subst h2
 exact h1
theorem zox (L:Tabs P) {fn:Func} (gs:Nat) {r r':GR} (hrs:fn.results = #[]) (hk:κ gs = some (.own r.res)) (e:r = r') {B0:Heap} (hs:Since F B0 B) (hd:F.ds = []:=by rfl) :
  N F B n O κ (z4r P fn fun u => ∃ H, Grow F.L F.w0 B0 u H ∧ ∃ C', r'.P H u C' ∧ ∀ k, C' k → (F.L k ∨ F.w0.heap.size ≤ k) ∧ k < u.heap.size ∧ H k = none):=by
 subst e
 exact z0h L gs hrs hd hk hs
def LV (P:Program) (F:Fr) (B:Heap) (n:Nat) (O:Boxes) (κ:Kap) (fn:Func) (R:Ending → World → Prop):Prop:=∀ a u, Has F B O n κ a u → ∃ v, (results fn a.tmps).run P u = .ok v u ∧ R (.returned v) u
theorem zqo (L:Tabs P) {fn:Func} {R:Ending → World → Prop} {f:Nat} {cap:List Value} {m m':FrameMode} (q:Nat) {r r':GR} (hds:F.ds = [.u (dfd f cap)]) (hfn:L.fn f = some ()) (hq:κ q = some (.own r.res)) (hm:m ≠ .run) (hm':settle m' = .returning)
  (hc:∀ u H C, H.Le (hp u) → B.Le H → r.P H u C → (∀ k, C k → k < u.heap.size ∧ H k = none) → zjl P f cap u H C m m' r') (h:LV P ⟨F.w0, F.r, [], F.L⟩ B n O (upd κ q (.own r'.res)) fn R) :
  ∀ a u, Has F B O n κ a u → LeavesInM Fence.wide 0 P fn a.tmps R a.defers m u:=fun a u hh => by
 obtain ⟨H, fp, hH⟩:=hh
 have h0:=hH.defers
 rw [hds] at h0
 rw [h0]
 obtain ⟨hown, hM⟩:=hH.slot q _ hq
 have hc:=hc u H (fp q) hH.sub hH.base hown fun k hk => ⟨(hM k hk).1, (hM k hk).2.1⟩
 refine ⟨hm, .inr ⟨fun h => (by cases h), .func f, cap.toArray, f, cap.toArray, rfl, ?_, fun _ _ => trivial, ?_⟩⟩
 ·show (callFunc f (#[] ++ cap.toArray)).run P u = _
  rw [zdu L hfn]
  simp
 ·refine CallsDIn.mono hc fun e u' w' hp => ?_
  obtain ⟨rfl, rfl, H', g', C', hr', hC'⟩:=hp
  show LeavesInM Fence.wide 0 P fn a.tmps R [] (settle u') w'
  rw [hm']
  have h2:=hH.usePut (d:=q) (a':=a) (r':=r'.res) hq g' rfl rfl (fun _ _ => rfl) hr' hC'
  rw [zbr] at h2
  exact h { a with defers:=[] } w' ⟨H', _, h2.size, rfl, List.nodup_nil, fun D hD => (by cases hD), h2.lent, h2.keep, h2.sub, h2.base, h2.fresh, h2.boxes, h2.apart, h2.slot, h2.owns, h2.mono⟩
theorem z64 (L:Tabs P) {fn:Func} {R:Ending → World → Prop} {f:Nat} {cap:List Value} (q:Nat) {r r':GR} (hds:F.ds = [.u (dfd f cap)]) (hfn:L.fn f = some ()) (hq:κ q = some (.own r.res))
  (hc:∀ u H C, H.Le (hp u) → B.Le H → r.P H u C → (∀ k, C k → k < u.heap.size ∧ H k = none) → zjl P f cap u H C .returning .returning r') (h:LV P ⟨F.w0, F.r, [], F.L⟩ B n O (upd κ q (.own r'.res)) fn R) (hQ:∀ a u, bodyPostM Fence.wide 0 P fn R .ret a u → Q .ret a u) :
  V P F B n O κ .ret Q:=fun a u hh => wpIn_ret (hQ a u (zqo L q hds hfn hq (by simp) rfl hc h a u hh))
theorem zvx (L:Tabs P) {fn:Func} {R:Ending → World → Prop} {pv:Value} {f:Nat} {cap:List Value} (q:Nat) {r r':GR} (hds:F.ds = [.u (dfd f cap)]) (hfn:L.fn f = some ()) (hq:κ q = some (.own r.res))
  (hc:∀ u H C, H.Le (hp u) → B.Le H → r.P H u C → (∀ k, C k → k < u.heap.size ∧ H k = none) → zjl P f cap u H C (.panicking [{ v:=pv, recovered:=false }]) (.panicking [{ v:=pv, recovered:=true }]) r') (h:LV P ⟨F.w0, F.r, [], F.L⟩ B n O (upd κ q (.own r'.res)) fn R)
  (hQ:∀ a u, bodyPostM Fence.wide 0 P fn R (.panic [{ v:=pv, recovered:=false }]) a u → Q (.panic [{ v:=pv, recovered:=false }]) a u):XP F B n O κ pv Q:=fun a u hh => hQ a u (zqo L q hds hfn hq (by simp) rfl hc h a u hh)
theorem zye (L:Tabs P) {fn:Func} {B0:Heap} {φ:Value → Heap → Prop} {rs:List ResultVar} (hrs:fn.results = rs.toArray) (hs:Since F B0 B) (h:∀ u H, H.Le (hp u) → B.Le H → zov L F B O κ H rs [] (fun vs => φ (tup vs) H)):LV P F B n O κ fn (zff F.w0 B0 F.L fun v H _ => φ v H):=fun a u hh => by
 obtain ⟨H, fp, hH⟩:=hh
 obtain ⟨vs, h1, h2⟩:=zbn L hH hrs (h u H hH.sub hH.base)
 exact ⟨_, h1, _, rfl, H, ⟨hH.keep, hH.sub, hs.le.trans hH.base, fun k hk hl => (hH.fresh k hk hl).trans (hs.fresh k hk hl)⟩, h2⟩
theorem ziq (q g1:Nat) {fn:Func} {R:Ending → World → Prop} {r1 r2:Res} (hk:κ q = some (.own (zh8 r1 r2))) (hg1:∀ v v' H u C, r2.P v H u C → r2.P v' H u C) (h:LV P F B n O (upd (upd κ q (.own r1)) g1 (.own r2)) fn R) (hne:q ≠ g1:=by decide):LV P F B n O κ fn R:=fun a u hh => h a u (hh.part hne hg1 hk)
theorem zcl (t q:Nat) {fn:Func} {R:Ending → World → Prop} {b:Nat} {cs:List Value} {ty:TypeId} (hk:κ q = some (.own (zaj b cs ty))) (ht:κ t = some (.is (.pointer (some ⟨b, 0, none⟩)))) (h:LV P F B n O (upd (upd κ q zed) t (.own (Cell cs ty))) fn R):LV P F B n O κ fn R:=fun a u hh => h a u (hh.release hk ht)
theorem zjm (q g1:Nat) {pv:Value} {r1 r2:Res} (hk:κ q = some (.own r1)) (hk1:κ g1 = some (.own r2)) (hg1:∀ v v' H u C, r2.P v H u C → r2.P v' H u C) (h:XP F B n O (upd (upd κ g1 zed) q (.own (zh8 r1 r2))) pv Q) (hne:q ≠ g1:=by decide):XP F B n O κ pv Q:=fun a u hh => h a u (hh.join2 hne hg1 hk hk1)
end code
end Go.V
set_option maxRecDepth 20000
namespace Go.V
open Go.Proofs Go.RowKit
theorem _root_.Go.V.ZaB {A B:Prop} (h:B) (t:Wr B → A:=by intro h; refine z7 (qc L rfl rfl rfl rfl rfl rfl rfl rfl) rfl ?_;exact h.h):A:=t ⟨h⟩
theorem _root_.Go.V.ZE {A B:Prop} (h:B) (t:Wr B → A:=by intro h; refine z7 (qd L rfl rfl rfl rfl) rfl ?_;exact h.h):A:=t ⟨h⟩
theorem _root_.Go.V.Zeo {A B:Prop} (h:B) (t:Wr B → A:=by intro h; refine z7 (y8 (cs:=[_, _]) rfl rfl z8x rfl rfl) rfl ?_;exact h.h):A:=t ⟨h⟩
theorem _root_.Go.V.ZaC {A B:Prop} (h:B) (t:Wr B → A:=by intro h; refine ZC ?_;refine ZE ?_;exact h.h):A:=t ⟨h⟩
theorem _root_.Go.V.ZaZ {A B:Prop} (h:B) (t:Wr B → A:=by intro h; refine Zq ?_;refine Zq ?_;exact h.h):A:=t ⟨h⟩
theorem _root_.Go.V.Zgp {A B:Prop} (h:B) (t:Wr B → A:=by intro h; refine ZcF ?_;refine ZeN ?_;exact h.h):A:=t ⟨h⟩
theorem _root_.Go.V.Zbk {A B:Prop} (h:B) (t:Wr B → A:=by intro h; refine Zgp ?_;refine ZaZ ?_;exact h.h):A:=t ⟨h⟩
theorem _root_.Go.V.ZcG {A B:Prop} (h:B) (t:Wr B → A:=by intro h; refine ZaZ ?_;refine Zb ?_;exact h.h):A:=t ⟨h⟩
theorem _root_.Go.V.Zdh {A B:Prop} (h:B) (t:Wr B → A:=by intro h; refine Zy ?_;refine Zc ?_;exact h.h):A:=t ⟨h⟩
attribute [local irreducible] V N X VO Par StepOK Has Ret RetL Src
def GlobM (B:Heap):Prop:=∃ m cs t fr, B 0 = some (.cells cs t fr) ∧ cs[0]? = some (.int .i64 m)
theorem GlobM.of_cell {w:World} {m:Int} (h:w.cell? ⟨0, 0, none⟩ = some (.int .i64 m)):GlobM (hp w):=by
 unfold World.cell? at h
 split at h
 ·rename_i cs t fr hb
  exact ⟨m, cs, t, fr, hb, by simpa using h⟩
 ·cases h
theorem GlobM.mono {B H:Heap} (h:GlobM B) (hl:B.Le H):GlobM H:=let ⟨m, cs, t, fr, hb, hc⟩:=h; ⟨m, cs, t, fr, hl _ _ hb, hc⟩
def zdm (s:ByteArray) (c:UInt8):ByteArray × ByteArray × Bool :=
 (⟨(Lib.cut s.data.toList [c]).1.toArray⟩, ⟨(Lib.cut s.data.toList [c]).2.1.toArray⟩, (Lib.cut s.data.toList [c]).2.2)
def zq9 (s:ByteArray) (c:UInt8):Bool:=decide (0 ≤ Lib.indexByte s.data.toList c)
def z2k (s:ByteArray) (c:UInt8):Nat:=Lib.countByte s.data.toList c
theorem zex {s:ByteArray} {c:UInt8} {f:Bool} (hs:s.size ≤ 1000000) {w:World} {B:Heap} (hB:B.Le (hp w)) (hM:GlobM B) (hf:(zdm s c).2.2 = f) :
  Ret Tryz.prog 131 [.string s, .string ⟨#[c]⟩] w B (fun v _ => v = .tuple #[.string (zdm s c).1, .string (zdm s c).2.1, .bool f]):=by
 obtain ⟨m, cs, t, fr, hb, hc⟩:=hM
 subst hf
 refine Ret.of_drawn hB (Tryz.strings_Cut s ⟨#[c]⟩ m w (by omega) ?_)
 rw [zas (hB _ _ hb)]; exact hc
theorem zbk {s:ByteArray} {c:UInt8} {f:Bool} {w:World} {B:Heap} (hB:B.Le (hp w)) (hf:zq9 s c = f) :
  Ret Tryz.prog 132 [.string s, .string ⟨#[c]⟩] w B (fun v _ => v = .bool f):=by
 subst hf
 exact Ret.of_same hB (Tryz.strings_Contains_one s c w)
theorem count_ret {s:ByteArray} {c:UInt8} {w:World} {B:Heap} (hB:B.Le (hp w)) :
  Ret Tryz.prog 262 [.string s, .string ⟨#[c]⟩] w B (fun v _ => v = .int .i64 (z2k s c)):=Ret.of_same hB (Tryz.strings_Count_one s c w)
theorem zh1 (s:ByteArray) (c:UInt8):(zdm s c).1.size ≤ s.size ∧ (zdm s c).2.1.size ≤ s.size:=by
 unfold zdm Lib.cut
 have hl:=za6 s
 have e:∀ l:List UInt8, (ByteArray.mk l.toArray).size = l.length:=fun l => by show l.toArray.size = _; simp
 generalize s.data.toList = l at hl ⊢
 rw [← hl]
 split
 ·simp only [e, List.length_take, List.length_drop]; omega
 ·simp only [e, List.length_nil]; omega
def zci (s:ByteArray):Option (ByteArray × ByteArray × ByteArray × Bool) :=
 if ((zdm s 58).2.2 && !zq9 (zdm s 58).1 35 && !zq9 (zdm s 58).2.1 58) = true ∧ z2k (zdm s 58).2.1 35 ≤ 1 then
  some ((zdm s 58).1, (zdm (zdm s 58).2.1 35).1, (zdm (zdm s 58).2.1 35).2.1, (zdm (zdm s 58).2.1 35).2.2)
 else none
theorem zkz {s a b c:ByteArray} {d:Bool} (h:zci s = some (a, b, c, d)):a.size ≤ s.size ∧ b.size ≤ s.size ∧ c.size ≤ s.size:=by
 unfold zci at h
 split at h
 ·cases h
  have h1:=zh1 s 58
  have h2:=zh1 (zdm s 58).2.1 35
  omega
 ·cases h
set_option maxHeartbeats 400000 in
theorem zoo {s:ByteArray} {f:Bool} (hs:s.size ≤ 1000000) {w:World} {B:Heap} (hB:B.Le (hp w)) (hM:GlobM B) (hf:((zdm s 58).2.2 && !zq9 (zdm s 58).1 35 && !zq9 (zdm s 58).2.1 58) = f) :
  Ret Tryz.prog 261 [.string s, .string ⟨#[58]⟩] w B (fun v _ => v = .tuple #[.string (zdm s 58).1, .string (zdm s 58).2.1, .bool f]):=by
 subst hf
 refine qu Tryz.func261 rfl Tryz.ntmps261 (Nat.le_of_ble_eq_true rfl) hB ?_
 cases h1:(zdm s 58).2.2
 ·refine ZC ?_;refine ZaZ ?_;refine Zay ?_;refine Zc ?_;refine z7 (q0 L rfl rfl (zn rfl) rfl rfl rfl (fun u H hH hle _ => zex (by assumption) hH (GlobM.mono (by assumption) hle) (by assumption))) rfl ?_;refine Zbk ?_;refine Zd ?_;refine Zdh ?_;refine Zc ?_;refine Zcf ?_;refine ZbN ?_;refine Zap ?_;refine ZcG ?_
  refine qt L (rs:=[.tmp 4, .tmp 5, .tmp 6]) rfl (fun _ _ h => h) Since.refl fun u H hH hle => ?_
  rfl
 ·cases h2:zq9 (zdm s 58).1 35
  ·cases h3:zq9 (zdm s 58).2.1 58
   ·refine ZC ?_;refine ZaZ ?_;refine Zay ?_;refine Zc ?_;refine z7 (q0 L rfl rfl (zn rfl) rfl rfl rfl (fun u H hH hle _ => zex (by assumption) hH (GlobM.mono (by assumption) hle) (by assumption))) rfl ?_;refine Zbk ?_;refine Zd ?_;refine Zdh ?_;refine ZF ?_;refine z7 (q0 L rfl rfl (zn rfl) rfl rfl rfl (fun u H hH _ _ => zbk hH (by assumption))) rfl ?_;refine Zp ?_;refine Zaf ?_;refine z7 (q0 L rfl rfl (zn rfl) rfl rfl rfl (fun u H hH _ _ => zbk hH (by assumption))) rfl ?_;refine Zp ?_;refine Ze ?_;refine ZcG ?_
    refine qt L (rs:=[.tmp 4, .tmp 5, .tmp 6]) rfl (fun _ _ h => h) Since.refl fun u H hH hle => ?_
    rfl
   ·refine ZC ?_;refine ZaZ ?_;refine Zay ?_;refine Zc ?_;refine z7 (q0 L rfl rfl (zn rfl) rfl rfl rfl (fun u H hH hle _ => zex (by assumption) hH (GlobM.mono (by assumption) hle) (by assumption))) rfl ?_;refine Zbk ?_;refine Zd ?_;refine Zdh ?_;refine ZF ?_;refine z7 (q0 L rfl rfl (zn rfl) rfl rfl rfl (fun u H hH _ _ => zbk hH (by assumption))) rfl ?_;refine Zp ?_;refine Zaf ?_;refine z7 (q0 L rfl rfl (zn rfl) rfl rfl rfl (fun u H hH _ _ => zbk hH (by assumption))) rfl ?_;refine Zp ?_;refine Ze ?_;refine ZcG ?_
    refine qt L (rs:=[.tmp 4, .tmp 5, .tmp 6]) rfl (fun _ _ h => h) Since.refl fun u H hH hle => ?_
    rfl
  ·refine ZC ?_;refine ZaZ ?_;refine Zay ?_;refine Zc ?_;refine z7 (q0 L rfl rfl (zn rfl) rfl rfl rfl (fun u H hH hle _ => zex (by assumption) hH (GlobM.mono (by assumption) hle) (by assumption))) rfl ?_;refine Zbk ?_;refine Zd ?_;refine Zdh ?_;refine ZF ?_;refine z7 (q0 L rfl rfl (zn rfl) rfl rfl rfl (fun u H hH _ _ => zbk hH (by assumption))) rfl ?_;refine Zp ?_;refine Ze ?_;refine Zap ?_;refine ZcG ?_
   refine qt L (rs:=[.tmp 4, .tmp 5, .tmp 6]) rfl (fun _ _ h => h) Since.refl fun u H hH hle => ?_
   rfl
set_option maxHeartbeats 400000 in
theorem zmk {s:ByteArray} (hs:s.size ≤ 1000000) {w:World} {B:Heap} (hB:B.Le (hp w)) (hM:GlobM B) (h:zci s = none) :
  Ret Tryz.prog 203 [.string s] w B (fun v _ => v = .tuple #[.agg #[.string ⟨#[]⟩, .string ⟨#[]⟩], .string ⟨#[]⟩, .bool false, .bool false]):=by
 refine qu Tryz.func203 rfl Tryz.ntmps203 (Nat.le_of_ble_eq_true rfl) hB ?_
 unfold zci at h
 cases h1:((zdm s 58).2.2 && !zq9 (zdm s 58).1 35 && !zq9 (zdm s 58).2.1 58)
 ·refine ZaC ?_;refine ZaZ ?_;refine Zay ?_;refine Zd ?_;refine Zdh ?_;refine z7 (q0 L rfl rfl (zn rfl) rfl rfl rfl (fun u H hH hle _ => zoo (by assumption) hH (GlobM.mono (by assumption) hle) (by assumption))) rfl ?_;refine Zbk ?_;refine Zg ?_;refine Zs ?_;refine Zp ?_;refine Zap ?_;refine Zt ?_;refine Zr ?_;refine Zeo ?_;refine ZaB ?_;refine ZcG ?_
  refine qt L (rs:=[.cell 2 29, .tmp 3, .tmp 4, .tmp 5]) rfl (fun _ _ h => h) Since.refl fun u H hH hle => ?_
  exact ⟨_, qg rfl, rfl, rfl⟩
 ·have h2:¬ z2k (zdm s 58).2.1 35 ≤ 1:=fun h2 => by rw [if_pos ⟨h1, h2⟩] at h; cases h
  clear h
  refine ZaC ?_;refine ZaZ ?_;refine Zay ?_;refine Zd ?_;refine Zdh ?_;refine z7 (q0 L rfl rfl (zn rfl) rfl rfl rfl (fun u H hH hle _ => zoo (by assumption) hH (GlobM.mono (by assumption) hle) (by assumption))) rfl ?_;refine Zbk ?_;refine Zg ?_;refine Zs ?_;refine ZbC ?_;refine z7 (q0 L rfl rfl (zn rfl) rfl rfl rfl (fun u H hH _ _ => count_ret hH)) rfl ?_;refine Z2 ?_;refine ZaM ?_;refine Zr ?_;refine Zeo ?_;refine ZaB ?_;refine ZcG ?_
  refine qt L (rs:=[.cell 2 29, .tmp 3, .tmp 4, .tmp 5]) rfl (fun _ _ h => h) Since.refl fun u H hH hle => ?_
  exact ⟨_, qg rfl, rfl, rfl⟩
set_option maxHeartbeats 400000 in
theorem zc4 {s a b c:ByteArray} {d:Bool} (hs:s.size ≤ 1000000) {w:World} {B:Heap} (hB:B.Le (hp w)) (hM:GlobM B) (h:zci s = some (a, b, c, d)) :
  Ret Tryz.prog 203 [.string s] w B (fun v _ => v = .tuple #[.agg #[.string a, .string b], .string c, .bool d, .bool true]):=by
 refine qu Tryz.func203 rfl Tryz.ntmps203 (Nat.le_of_ble_eq_true rfl) hB ?_
 unfold zci at h
 split at h
 ·rename_i hc
  obtain ⟨h1, h2⟩:=hc
  cases h
  have hz:=zh1 s 58
  have hz2:(zdm s 58).2.1.size ≤ 1000000:=by omega
  refine ZaC ?_;refine ZaZ ?_;refine Zay ?_;refine Zd ?_;refine Zdh ?_;refine z7 (q0 L rfl rfl (zn rfl) rfl rfl rfl (fun u H hH hle _ => zoo (by assumption) hH (GlobM.mono (by assumption) hle) (by assumption))) rfl ?_;refine Zbk ?_;refine Zg ?_;refine Zs ?_;refine ZbC ?_;refine z7 (q0 L rfl rfl (zn rfl) rfl rfl rfl (fun u H hH _ _ => count_ret hH)) rfl ?_;refine ZS ?_;refine ZY ?_;refine Zbb ?_;refine z7 (q0 L rfl rfl (zn rfl) rfl rfl rfl (fun u H hH hle _ => zex (by assumption) hH (GlobM.mono (by assumption) hle) rfl)) rfl ?_;refine Zbk ?_;refine ZcZ ?_;refine Zc ?_;refine Zeo ?_;refine Zc ?_;refine ZaB ?_;refine ZcG ?_
  refine qt L (rs:=[.cell 2 29, .tmp 3, .tmp 4, .tmp 5]) rfl (fun _ _ h => h) Since.refl fun u H hH hle => ?_
  exact ⟨_, qg rfl, rfl, rfl⟩
 ·cases h
end Go.V
set_option maxRecDepth 20000
namespace Go.V
open Go.Proofs Go.RowKit
theorem _root_.Go.V.ZbU {A B:Prop} (h:B) (t:Wr B → A:=by intro h; refine z7 (q8 L (vs:=[_, _]) (qg rfl) rfl rfl rfl rfl ⟨_, rfl⟩) rfl ?_;exact h.h):A:=t ⟨h⟩
theorem _root_.Go.V.Zep {A B:Prop} (h:B) (t:Wr B → A:=by intro h; refine z7 (q8 L (vs:=[_, _, _]) (qg rfl) rfl rfl rfl rfl ⟨_, rfl⟩) rfl ?_;exact h.h):A:=t ⟨h⟩
theorem _root_.Go.V.Zeq {A B:Prop} (h:B) (t:Wr B → A:=by intro h; refine z7 (y8 (cs:=[_, _, _]) rfl rfl z8w rfl rfl) rfl ?_;exact h.h):A:=t ⟨h⟩
theorem _root_.Go.V.Ze4 {A B:Prop} (h:B) (t:Wr B → A:=by intro h; refine z7 (y8 (cs:=[_, _, _]) rfl rfl z7w rfl rfl) rfl ?_;exact h.h):A:=t ⟨h⟩
theorem _root_.Go.V.Za0 {A B:Prop} (h:B) (t:Wr B → A:=by intro h; refine Z6 ?_;refine Zh ?_;exact h.h):A:=t ⟨h⟩
theorem _root_.Go.V.Zdz {A B:Prop} (h:B) (t:Wr B → A:=by intro h; refine ZE ?_;refine ZaB ?_;exact h.h):A:=t ⟨h⟩
theorem _root_.Go.V.ZU {A B:Prop} (h:B) (t:Wr B → A:=by intro h; refine Z8 ?_;refine Za ?_;exact h.h):A:=t ⟨h⟩
theorem _root_.Go.V.ZaD {A B:Prop} (h:B) (t:Wr B → A:=by intro h; refine ZaB ?_;refine Zb ?_;exact h.h):A:=t ⟨h⟩
theorem _root_.Go.V.Zby {A B:Prop} (h:B) (t:Wr B → A:=by intro h; refine Zdz ?_;refine Za0 ?_;exact h.h):A:=t ⟨h⟩
theorem _root_.Go.V.Zgq {A B:Prop} (h:B) (t:Wr B → A:=by intro h; refine ZcF ?_;refine ZdT ?_;exact h.h):A:=t ⟨h⟩
theorem _root_.Go.V.Zgr {A B:Prop} (h:B) (t:Wr B → A:=by intro h; refine Zgq ?_;refine Zdz ?_;exact h.h):A:=t ⟨h⟩
theorem _root_.Go.V.ZdV {A B:Prop} (h:B) (t:Wr B → A:=by intro h; refine Zgr ?_;refine ZaZ ?_;exact h.h):A:=t ⟨h⟩
theorem _root_.Go.V.ZbF {A B:Prop} (h:B) (t:Wr B → A:=by intro h; refine ZaC ?_;refine Zbj ?_;exact h.h):A:=t ⟨h⟩
theorem _root_.Go.V.ZbG {A B:Prop} (h:B) (t:Wr B → A:=by intro h; refine Za ?_;refine ZaD ?_;exact h.h):A:=t ⟨h⟩
theorem _root_.Go.V.Zdi {A B:Prop} (h:B) (t:Wr B → A:=by intro h; refine Zp ?_;refine ZQ ?_;exact h.h):A:=t ⟨h⟩
theorem _root_.Go.V.Zd0 {A B:Prop} (h:B) (t:Wr B → A:=by intro h; refine ZdV ?_;refine Zem ?_;exact h.h):A:=t ⟨h⟩
theorem _root_.Go.V.Zd1 {A B:Prop} (h:B) (t:Wr B → A:=by intro h; refine Zg ?_;refine ZU ?_;exact h.h):A:=t ⟨h⟩
attribute [local irreducible] V N X VO Par StepOK Has Ret RetL Src
abbrev zd2:ByteArray:=⟨#[]⟩
def poA (s:ByteArray):ByteArray × ByteArray × Int :=
 match zci s with
 | none => (zd2, zd2, 5)
 | some (a, b, _, d) => if d = true then (zd2, zd2, 5) else if zc3 [a, b] = 0 then (a, b, 0) else (zd2, zd2, zc3 [a, b])
def pgA (s:ByteArray):ByteArray × ByteArray × ByteArray × Int :=
 match zci s with
 | none => (zd2, zd2, zd2, 5)
 | some (a, b, c, d) => if d = false then (zd2, zd2, zd2, 5) else if zc3 [a, b, c] = 0 then (a, b, c, 0) else (zd2, zd2, zd2, zc3 [a, b, c])
def psA (s:ByteArray):ByteArray × ByteArray × ByteArray × Int :=
 match zci s with
 | none => (zd2, zd2, zd2, 5)
 | some (a, b, c, d) => if zc3 [a, b] = 0 then (if d = true then (if chk c = 0 then (a, b, c, 0) else (zd2, zd2, zd2, chk c)) else (a, b, c, 0)) else (zd2, zd2, zd2, zc3 [a, b])
set_option maxHeartbeats 400000 in
theorem z5u {s:ByteArray} {r:ByteArray × ByteArray × ByteArray × Int} (hr:pgA s = r) (hs:s.size ≤ 1000000) {w:World} {B:Heap} (hB:B.Le (hp w)) (hM:GlobM B) :
  Ret Tryz.prog 133 [.string s] w B (fun v _ => v = .tuple #[.agg #[.string r.1, .string r.2.1, .string r.2.2.1], .int .i64 r.2.2.2]):=by
 refine qu Tryz.func133 rfl Tryz.ntmps133 (Nat.le_of_ble_eq_true rfl) hB ?_
 unfold pgA at hr
 cases hp:zci s with
 | none =>
  rw [hp] at hr; simp only at hr; subst hr
  refine ZbF ?_;refine z7 (q0 L rfl rfl (zn rfl) rfl rfl rfl (fun u H hH hle _ => zmk (by assumption) hH (GlobM.mono (by assumption) hle) (by assumption))) rfl ?_;refine Zd0 ?_;refine Zp ?_;refine ZaJ ?_;refine ZaM ?_;refine Zk ?_;refine Ze4 ?_;refine ZaD ?_
  refine qt L (rs:=[.cell 2 31, .tmp 3]) rfl (fun _ _ h => h) Since.refl fun u H hH hle => ?_
  exact ⟨_, qg rfl, rfl, rfl⟩
 | some p =>
  obtain ⟨a, b, c, d⟩:=p
  rw [hp] at hr; simp only at hr
  have hz:=zkz hp
  have ha:a.size ≤ 1099511627776:=by omega
  have hb:b.size ≤ 1099511627776:=by omega
  have hc:c.size ≤ 1099511627776:=by omega
  cases d with
  | false =>
   rw [if_pos rfl] at hr; subst hr
   refine ZbF ?_;refine z7 (q0 L rfl rfl (zn rfl) rfl rfl rfl (fun u H hH hle _ => zc4 (by assumption) hH (GlobM.mono (by assumption) hle) (by assumption))) rfl ?_;refine Zd0 ?_;refine ZbC ?_;refine Zp ?_;refine ZaM ?_;refine Zk ?_;refine Ze4 ?_;refine ZaD ?_
   refine qt L (rs:=[.cell 2 31, .tmp 3]) rfl (fun _ _ h => h) Since.refl fun u H hH hle => ?_
   exact ⟨_, qg rfl, rfl, rfl⟩
  | true =>
   rw [if_neg (by decide)] at hr
   by_cases h0:zc3 [a, b, c] = 0
   ·rw [if_pos h0] at hr; subst hr
    refine ZbF ?_;refine z7 (q0 L rfl rfl (zn rfl) rfl rfl rfl (fun u H hH hle _ => zc4 (by assumption) hH (GlobM.mono (by assumption) hle) (by assumption))) rfl ?_;refine Zd0 ?_;refine ZbC ?_;refine Zp ?_;refine ZY ?_;refine Zr ?_;refine ZbU ?_;refine Za ?_;refine Ze4 ?_;refine Zby ?_;refine Zn ?_;refine Zep ?_;refine z7 (q0 L rfl rfl (zn rfl) rfl rfl rfl (fun u H hH _ _ => goal_ret (by first | assumption | omega | decide) (by first | assumption | omega | decide) (by first | assumption | omega | decide) hH)) rfl ?_;refine Zd ?_;refine ZL ?_;refine ZG ?_;refine Z0 ?_;refine Zep ?_;refine ZaD ?_
    refine qt L (rs:=[.cell 2 31, .tmp 3]) rfl (fun _ _ h => h) Since.refl fun u H hH hle => ?_
    exact ⟨_, qg rfl, rfl, rfl⟩
   ·rw [if_neg h0] at hr; subst hr
    refine ZbF ?_;refine z7 (q0 L rfl rfl (zn rfl) rfl rfl rfl (fun u H hH hle _ => zc4 (by assumption) hH (GlobM.mono (by assumption) hle) (by assumption))) rfl ?_;refine Zd0 ?_;refine ZbC ?_;refine Zp ?_;refine ZY ?_;refine Zr ?_;refine ZbU ?_;refine Za ?_;refine Ze4 ?_;refine Zby ?_;refine Zn ?_;refine Zep ?_;refine z7 (q0 L rfl rfl (zn rfl) rfl rfl rfl (fun u H hH _ _ => goal_ret (by first | assumption | omega | decide) (by first | assumption | omega | decide) (by first | assumption | omega | decide) hH)) rfl ?_;refine Zd ?_;refine ZL ?_;refine Zz ?_;refine Z8 ?_;refine Ze4 ?_;refine ZbG ?_
    refine qt L (rs:=[.cell 2 31, .tmp 3]) rfl (fun _ _ h => h) Since.refl fun u H hH hle => ?_
    exact ⟨_, qg rfl, rfl, rfl⟩
set_option maxHeartbeats 400000 in
theorem z5q {s:ByteArray} {r:ByteArray × ByteArray × ByteArray × Int} (hr:psA s = r) (hs:s.size ≤ 1000000) {w:World} {B:Heap} (hB:B.Le (hp w)) (hM:GlobM B) :
  Ret Tryz.prog 134 [.string s] w B (fun v _ => v = .tuple #[.agg #[.string r.1, .string r.2.1, .string r.2.2.1], .int .i64 r.2.2.2]):=by
 refine qu Tryz.func134 rfl Tryz.ntmps134 (Nat.le_of_ble_eq_true rfl) hB ?_
 unfold psA at hr
 cases hp:zci s with
 | none =>
  rw [hp] at hr; simp only at hr; subst hr
  refine ZbF ?_;refine z7 (q0 L rfl rfl (zn rfl) rfl rfl rfl (fun u H hH hle _ => zmk (by assumption) hH (GlobM.mono (by assumption) hle) (by assumption))) rfl ?_;refine Zd0 ?_;refine Zp ?_;refine Zt ?_;refine Zk ?_;refine Zeq ?_;refine ZaD ?_
  refine qt L (rs:=[.cell 2 32, .tmp 3]) rfl (fun _ _ h => h) Since.refl fun u H hH hle => ?_
  exact ⟨_, qg rfl, rfl, rfl⟩
 | some p =>
  obtain ⟨a, b, c, d⟩:=p
  rw [hp] at hr; simp only at hr
  have hz:=zkz hp
  have ha:a.size ≤ 1099511627776:=by omega
  have hb:b.size ≤ 1099511627776:=by omega
  have hc:c.size ≤ 1099511627776:=by omega
  by_cases h0:zc3 [a, b] = 0
  ·rw [if_pos h0] at hr
   cases d with
   | false =>
    rw [if_neg (by decide)] at hr; subst hr
    refine ZbF ?_;refine z7 (q0 L rfl rfl (zn rfl) rfl rfl rfl (fun u H hH hle _ => zc4 (by assumption) hH (GlobM.mono (by assumption) hle) (by assumption))) rfl ?_;refine Zd0 ?_;refine Zdi ?_;refine Zr ?_;refine ZbU ?_;refine z7 (q0 L rfl rfl (zn rfl) rfl rfl rfl (fun u H hH _ _ => zd7 (by first | assumption | omega | decide) (by first | assumption | omega | decide) hH)) rfl ?_;refine Zg ?_;refine Zn ?_;refine Zc ?_;refine Zcf ?_;refine Zc1 ?_;refine ZU ?_;refine ZG ?_;refine Z3 ?_;refine ZbU ?_;refine Za ?_;refine Zeq ?_;refine ZaD ?_
    refine qt L (rs:=[.cell 2 32, .tmp 3]) rfl (fun _ _ h => h) Since.refl fun u H hH hle => ?_
    exact ⟨_, qg rfl, rfl, rfl⟩
   | true =>
    rw [if_pos rfl] at hr
    by_cases h1:chk c = 0
    ·rw [if_pos h1] at hr; subst hr
     refine ZbF ?_;refine z7 (q0 L rfl rfl (zn rfl) rfl rfl rfl (fun u H hH hle _ => zc4 (by assumption) hH (GlobM.mono (by assumption) hle) (by assumption))) rfl ?_;refine Zd0 ?_;refine Zdi ?_;refine Zr ?_;refine ZbU ?_;refine z7 (q0 L rfl rfl (zn rfl) rfl rfl rfl (fun u H hH _ _ => zd7 (by first | assumption | omega | decide) (by first | assumption | omega | decide) hH)) rfl ?_;refine Zg ?_;refine Zn ?_;refine ZF ?_;refine ZJ ?_;refine Za7 ?_;refine ZL ?_;refine z7 (q0 L rfl rfl (zn rfl) rfl rfl rfl (fun u H hH _ _ => check_ret _ (by first | omega | decide) hH)) rfl ?_;refine Zd1 ?_;refine ZG ?_;refine Z3 ?_;refine ZbU ?_;refine Za ?_;refine Zeq ?_;refine ZaD ?_
     refine qt L (rs:=[.cell 2 32, .tmp 3]) rfl (fun _ _ h => h) Since.refl fun u H hH hle => ?_
     exact ⟨_, qg rfl, rfl, rfl⟩
    ·rw [if_neg h1] at hr; subst hr
     refine ZbF ?_;refine z7 (q0 L rfl rfl (zn rfl) rfl rfl rfl (fun u H hH hle _ => zc4 (by assumption) hH (GlobM.mono (by assumption) hle) (by assumption))) rfl ?_;refine Zd0 ?_;refine Zdi ?_;refine Zr ?_;refine ZbU ?_;refine z7 (q0 L rfl rfl (zn rfl) rfl rfl rfl (fun u H hH _ _ => zd7 (by first | assumption | omega | decide) (by first | assumption | omega | decide) hH)) rfl ?_;refine Zg ?_;refine Zn ?_;refine ZF ?_;refine ZJ ?_;refine Za7 ?_;refine ZL ?_;refine z7 (q0 L rfl rfl (zn rfl) rfl rfl rfl (fun u H hH _ _ => check_ret _ (by first | omega | decide) hH)) rfl ?_;refine Zd1 ?_;refine Zz ?_;refine Z0 ?_;refine Zeq ?_;refine ZbG ?_
     refine qt L (rs:=[.cell 2 32, .tmp 3]) rfl (fun _ _ h => h) Since.refl fun u H hH hle => ?_
     exact ⟨_, qg rfl, rfl, rfl⟩
  ·rw [if_neg h0] at hr; subst hr
   cases d
   ·refine ZbF ?_;refine z7 (q0 L rfl rfl (zn rfl) rfl rfl rfl (fun u H hH hle _ => zc4 (by assumption) hH (GlobM.mono (by assumption) hle) (by assumption))) rfl ?_;refine Zd0 ?_;refine Zdi ?_;refine Zr ?_;refine ZbU ?_;refine z7 (q0 L rfl rfl (zn rfl) rfl rfl rfl (fun u H hH _ _ => zd7 (by first | assumption | omega | decide) (by first | assumption | omega | decide) hH)) rfl ?_;refine Zg ?_;refine Zn ?_;refine Zc ?_;refine Zcf ?_;refine Zc1 ?_;refine ZU ?_;refine Zz ?_;refine Z0 ?_;refine Zeq ?_;refine ZbG ?_
    refine qt L (rs:=[.cell 2 32, .tmp 3]) rfl (fun _ _ h => h) Since.refl fun u H hH hle => ?_
    exact ⟨_, qg rfl, rfl, rfl⟩
   ·refine ZbF ?_;refine z7 (q0 L rfl rfl (zn rfl) rfl rfl rfl (fun u H hH hle _ => zc4 (by assumption) hH (GlobM.mono (by assumption) hle) (by assumption))) rfl ?_;refine Zd0 ?_;refine Zdi ?_;refine Zr ?_;refine ZbU ?_;refine z7 (q0 L rfl rfl (zn rfl) rfl rfl rfl (fun u H hH _ _ => zd7 (by first | assumption | omega | decide) (by first | assumption | omega | decide) hH)) rfl ?_;refine Zg ?_;refine Zn ?_;refine ZF ?_;refine ZR ?_;refine Zc1 ?_;refine ZU ?_;refine Zz ?_;refine Z0 ?_;refine Zeq ?_;refine ZbG ?_
    refine qt L (rs:=[.cell 2 32, .tmp 3]) rfl (fun _ _ h => h) Since.refl fun u H hH hle => ?_
    exact ⟨_, qg rfl, rfl, rfl⟩
theorem zrx {s a b c:ByteArray} {e:Int} (hr:pgA s = (a, b, c, e)) (hs:s.size ≤ 1000000) {w:World} {B:Heap} (hB:B.Le (hp w)) (hM:GlobM B) :
  Ret Tryz.prog 133 [.string s] w B (fun v _ => v = .tuple #[.agg #[.string a, .string b, .string c], .int .i64 e]):=z5u hr hs hB hM
theorem zxa {s a b c:ByteArray} {e:Int} (hr:psA s = (a, b, c, e)) (hs:s.size ≤ 1000000) {w:World} {B:Heap} (hB:B.Le (hp w)) (hM:GlobM B) :
  Ret Tryz.prog 134 [.string s] w B (fun v _ => v = .tuple #[.agg #[.string a, .string b, .string c], .int .i64 e]):=z5q hr hs hB hM
end Go.V
set_option maxRecDepth 20000
namespace Go.V.L2
open Go.Proofs Go.RowKit Go.V
abbrev U:=zsm × zsm
def ucs (t:U):List Value:=[.string t.1.1.1, .string t.1.1.2, .string t.1.2, .string t.2.1.1, .string t.2.1.2, .string t.2.2]
theorem zkd (t:U):(ucs t).length = 6:=rfl
def zcc:U → U → Int:=zzj z6w z6w
theorem cmpT_ord:Ord3 zcc:=cmp3_ord.lex cmp3_ord
theorem z89 {t v:U}:(t.1.1.1 = v.1.1.1 ∧ t.1.1.2 = v.1.1.2 ∧ t.1.2 = v.1.2 ∧ t.2.1.1 = v.2.1.1 ∧ t.2.1.2 = v.2.1.2 ∧ t.2.2 = v.2.2) ↔ t = v :=
 ⟨fun ⟨a, b, c, d, e, f⟩ => Prod.ext (Prod.ext (Prod.ext a b) c) (Prod.ext (Prod.ext d e) f), fun e => by subst e; exact ⟨rfl, rfl, rfl, rfl, rfl, rfl⟩⟩
instance memU (t:U) (l:List U):Decidable (t ∈ l):=decidable_of_iff (l.any (fun x => decide (x = t)) = true) (by simp)
def tE (t:U):Int:=if zc3 [t.1.1.1, t.1.1.2, t.1.2] = 0 then zgw t.2.1.1 t.2.1.2 t.2.2 else zc3 [t.1.1.1, t.1.1.2, t.1.2]
abbrev sAt:ByteArray:=⟨#[64]⟩
def tT (t:U):ByteArray:=zqr t.1.1.1 t.1.1.2 t.1.2 ++ sAt ++ zni t.2.1.1 t.2.1.2 t.2.2
def TZ (t:U):Prop:=(t.1.1.1.size ≤ 1099511627776 ∧ t.1.1.2.size ≤ 1099511627776 ∧ t.1.2.size ≤ 1099511627776) ∧ t.2.1.1.size ≤ 1099511627776 ∧ t.2.1.2.size ≤ 1099511627776 ∧ t.2.2.size ≤ 1099511627776
instance (t:U):Decidable (TZ t):=inferInstanceAs (Decidable (_ ∧ _))
theorem znj {α:Type} {c:α → α → Int} (h:Ord3 c):∀ {l:List α}, Sst c l ↔ ∀ (j:Nat) (a b:α), l[j]? = some a → l[j + 1]? = some b → c a b < 0
 | [] => ⟨fun _ j a b h1 _ => by simp at h1, fun _ => Sst.nil⟩
 | [x] => ⟨fun _ j a b _ h2 => by simp at h2, fun _ => List.pairwise_singleton ..⟩
 | x :: y :: l => by
  constructor
  ·intro hs j a b h1 h2
   have hp:=List.pairwise_cons.1 hs
   cases j with
   | zero => simp at h1 h2; subst h1 h2; exact hp.1 _ (List.mem_cons_self ..)
   | succ j => exact (znj h).1 hp.2 j a b (by simpa using h1) (by simpa using h2)
  ·intro hj
   have hl:Sst c (y :: l):=(znj h).2 fun j a b h1 h2 => hj (j + 1) a b (by simpa using h1) (by simpa using h2)
   have hxy:c x y < 0:=hj 0 x y rfl rfl
   refine List.pairwise_cons.2 ⟨fun z hz => ?_, hl⟩
   rcases List.mem_cons.1 hz with rfl | hz
   ·exact hxy
   ·exact h.tr hxy ((List.pairwise_cons.1 hl).1 z hz)
instance {α:Type} (c:α → α → Int) (l:List α):Decidable (Sst c l):=inferInstanceAs (Decidable (l.Pairwise _))
def isB (l:List U):Bool:=decide (Sst zcc l)
theorem z6i {l:List U} {j:Nat} {a b:U} (h1:l[j]? = some a) (h2:l[j + 1]? = some b) (h:¬ zcc a b < 0):isB l = false:=decide_eq_false fun hs => h ((znj cmpT_ord).1 hs j a b h1 h2)
theorem z39 {l:List U} (h:∀ j a b, l[j]? = some a → l[j + 1]? = some b → zcc a b < 0):isB l = true:=decide_eq_true ((znj cmpT_ord).2 h)
def ptA (s:ByteArray):U × Int :=
 if (zdm s 64).2.2 = true ∧ zq9 (zdm s 64).2.1 64 = false then
  (if (pgA (zdm s 64).1).2.2.2 = 0 then
   (if (psA (zdm s 64).2.1).2.2.2 = 0 then
    (((((pgA (zdm s 64).1).1, (pgA (zdm s 64).1).2.1), (pgA (zdm s 64).1).2.2.1), (((psA (zdm s 64).2.1).1, (psA (zdm s 64).2.1).2.1), (psA (zdm s 64).2.1).2.2.1)), 0)
   else ((((⟨#[]⟩, ⟨#[]⟩), ⟨#[]⟩), ((⟨#[]⟩, ⟨#[]⟩), ⟨#[]⟩)), (psA (zdm s 64).2.1).2.2.2))
  else ((((⟨#[]⟩, ⟨#[]⟩), ⟨#[]⟩), ((⟨#[]⟩, ⟨#[]⟩), ⟨#[]⟩)), (pgA (zdm s 64).1).2.2.2))
 else ((((⟨#[]⟩, ⟨#[]⟩), ⟨#[]⟩), ((⟨#[]⟩, ⟨#[]⟩), ⟨#[]⟩)), 5)
end Go.V.L2
set_option maxRecDepth 20000
namespace Go.V.L2
open Go.Proofs Go.RowKit Go.V
theorem _root_.Go.V.Zgi {A B:Prop} (h:B) (t:Wr B → A:=by intro h; refine zd (y7 L (vs:=[_, _, _, _, _, _]) rfl rfl rfl rfl rfl ⟨_, rfl⟩) rfl ?_;exact h.h):A:=t ⟨h⟩
theorem _root_.Go.V.Zal {A B:Prop} (h:B) (t:Wr B → A:=by intro h; refine zd (zq rfl rfl rfl) rfl ?_;exact h.h):A:=t ⟨h⟩
theorem _root_.Go.V.Zcn {A B:Prop} (h:B) (t:Wr B → A:=by intro h; refine z7 (y8 (cs:=[_, _, _, _, _, _]) rfl rfl z7v rfl rfl) rfl ?_;exact h.h):A:=t ⟨h⟩
theorem _root_.Go.V.Zgs {A B:Prop} (h:B) (t:Wr B → A:=by intro h; refine zd (q8 L (vs:=[_, _, _]) (qk rfl) rfl rfl rfl rfl ⟨_, rfl⟩) rfl ?_;exact h.h):A:=t ⟨h⟩
theorem _root_.Go.V.Zer {A B:Prop} (h:B) (t:Wr B → A:=by intro h; refine zd (zth rfl rfl rfl rfl (decide_eq_true (by omega))) rfl ?_;exact h.h):A:=t ⟨h⟩
theorem _root_.Go.V.ZeO {A B:Prop} (h:B) (t:Wr B → A:=by intro h; refine zd (zth rfl rfl rfl rfl (decide_eq_false (by omega))) rfl ?_;exact h.h):A:=t ⟨h⟩
theorem _root_.Go.V.Zfh {A B:Prop} (h:B) (t:Wr B → A:=by intro h; refine Zek ?_;refine Zgi ?_;exact h.h):A:=t ⟨h⟩
theorem _root_.Go.V.ZfW {A B:Prop} (h:B) (t:Wr B → A:=by intro h; refine Zal ?_;refine Zi ?_;exact h.h):A:=t ⟨h⟩
theorem _root_.Go.V.ZaS {A B:Prop} (h:B) (t:Wr B → A:=by intro h; refine Zat ?_;refine ZfQ ?_;exact h.h):A:=t ⟨h⟩
theorem _root_.Go.V.Zbl {A B:Prop} (h:B) (t:Wr B → A:=by intro h; refine ZfW ?_;refine Zfh ?_;exact h.h):A:=t ⟨h⟩
theorem _root_.Go.V.Zes {A B:Prop} (h:B) (t:Wr B → A:=by intro h; refine ZaX ?_;refine Zfc ?_;exact h.h):A:=t ⟨h⟩
theorem _root_.Go.V.Ze5 {A B:Prop} (h:B) (t:Wr B → A:=by intro h; refine ZcF ?_;refine Zdz ?_;exact h.h):A:=t ⟨h⟩
theorem _root_.Go.V.Zbz {A B:Prop} (h:B) (t:Wr B → A:=by intro h; refine Zax ?_;refine ZeF ?_;exact h.h):A:=t ⟨h⟩
theorem _root_.Go.V.Zb0 {A B:Prop} (h:B) (t:Wr B → A:=by intro h; refine ZaS ?_;refine ZN ?_;exact h.h):A:=t ⟨h⟩
theorem _root_.Go.V.ZbH {A B:Prop} (h:B) (t:Wr B → A:=by intro h; refine Ze5 ?_;refine Zg ?_;exact h.h):A:=t ⟨h⟩
theorem _root_.Go.V.ZeP {A B:Prop} (h:B) (t:Wr B → A:=by intro h; refine Zv ?_;refine Zes ?_;exact h.h):A:=t ⟨h⟩
theorem _root_.Go.V.ZcH {A B:Prop} (h:B) (t:Wr B → A:=by intro h; refine Zdd ?_;refine Zgs ?_;exact h.h):A:=t ⟨h⟩
theorem _root_.Go.V.Zd2 {A B:Prop} (h:B) (t:Wr B → A:=by intro h; refine Zv ?_;refine Zo ?_;exact h.h):A:=t ⟨h⟩
abbrev uv (t:U):Value:=.agg #[.string t.1.1.1, .string t.1.1.2, .string t.1.2, .string t.2.1.1, .string t.2.1.2, .string t.2.2]
abbrev tyU:TypeId:=34
abbrev US (l:List U) (fu:Bool):Value → Heap → Prop:=SlV tyU 6 (l.flatMap ucs) l.length fu
theorem ze0 {l:List U} {i:Nat} {t:U} (h:l[i]? = some t):((l.flatMap ucs).drop (i * 6)).take 6 = [.string t.1.1.1, .string t.1.1.2, .string t.1.2, .string t.2.1.1, .string t.2.1.2, .string t.2.2]:=zd8 zkd l i t h
attribute [local irreducible] V N X VO Par StepOK Has Ret RetL Src
theorem zbs {t:U} (hz:TZ t) {w:World} {B:Heap} (hB:B.Le (hp w)):Ret Tryz.prog 100 [uv t] w B (fun v _ => v = .int .i64 (tE t)):=by
 obtain ⟨⟨z1, z2, z3⟩, z4, z5, z6⟩:=hz
 unfold tE
 refine qu Tryz.func100 rfl Tryz.ntmps100 (Nat.le_of_ble_eq_true rfl) hB ?_
 by_cases h:zc3 [t.1.1.1, t.1.1.2, t.1.2] = 0
 ·rw [if_pos h]
  refine Zbf ?_;refine Zbz ?_;refine z7 (q0 L rfl rfl (zn rfl) rfl rfl rfl (fun u H hH _ _ => goal_ret (by first | assumption | omega | decide) (by first | assumption | omega | decide) (by first | assumption | omega | decide) hH)) rfl ?_;refine ZT ?_;refine ZG ?_;refine Zr ?_;refine Zbz ?_;refine z7 (q0 L rfl rfl (zn rfl) rfl rfl rfl (fun u H hH _ _ => zkm (by first | assumption | omega | decide) (by first | assumption | omega | decide) (by first | assumption | omega | decide) hH)) rfl ?_;refine Zb ?_
  refine qt L (rs:=[.tmp 2]) rfl (fun _ _ h => h) Since.refl fun u H hH hle => ?_
  rfl
 ·rw [if_neg h]
  refine Zbf ?_;refine Zbz ?_;refine z7 (q0 L rfl rfl (zn rfl) rfl rfl rfl (fun u H hH _ _ => goal_ret (by first | assumption | omega | decide) (by first | assumption | omega | decide) (by first | assumption | omega | decide) hH)) rfl ?_;refine ZT ?_;refine Zz ?_;refine Zs ?_;refine Zb ?_
  refine qt L (rs:=[.tmp 2]) rfl (fun _ _ h => h) Since.refl fun u H hH hle => ?_
  rfl
theorem zdb {a b:U} {w:World} {B:Heap} (hB:B.Le (hp w)):Ret Tryz.prog 101 [uv a, uv b] w B (fun v _ => v = .int .i64 (zcc a b)):=by
 refine qu Tryz.func101 rfl Tryz.ntmps101 (Nat.le_of_ble_eq_true rfl) hB ?_
 refine Zaj ?_;refine Zc3 ?_;refine ZcH ?_;refine ZcH ?_;refine zd (q0 L rfl rfl (zn rfl) rfl rfl rfl (fun u H hH _ _ => zop hH)) rfl ?_;refine ZcH ?_;refine ZcH ?_;refine zd (q0 L rfl rfl (zn rfl) rfl rfl rfl (fun u H hH _ _ => cmpU_ret hH)) rfl ?_;refine ZeG ?_;refine zd (q0 L rfl rfl (zn rfl) rfl rfl rfl (fun u H hH _ _ v hv => znv hH hv)) rfl ?_;refine Zl ?_
 refine qt L (rs:=[.tmp 4]) rfl (fun _ _ h => h) Since.refl fun u H hH hle => ?_
 rfl
theorem subjT_size (a b c:ByteArray):(zni a b c).size ≤ a.size + b.size + c.size + 2:=by
 unfold zni
 split
 ·rw [zf7]; omega
 ·rw [zis]; omega
theorem zpc {t:U} (hz:TZ t) {w:World} {B:Heap} (hB:B.Le (hp w)):Ret Tryz.prog 123 [uv t] w B (fun v _ => v = .string (tT t)):=by
 obtain ⟨⟨z1, z2, z3⟩, z4, z5, z6⟩:=hz
 have h0:sAt.size = 1:=rfl
 have h1:=zis t.1.1.1 t.1.1.2 t.1.2
 have h2:=subjT_size t.2.1.1 t.2.1.2 t.2.2
 have h3:(zqr t.1.1.1 t.1.1.2 t.1.2).size + sAt.size ≤ 9223372036854775807:=by omega
 have h4:(zqr t.1.1.1 t.1.1.2 t.1.2 ++ sAt).size + (zni t.2.1.1 t.2.1.2 t.2.2).size ≤ 9223372036854775807:=by rw [ByteArray.size_append]; omega
 refine qu Tryz.func123 rfl Tryz.ntmps123 (Nat.le_of_ble_eq_true rfl) hB ?_
 refine ZA ?_;refine Zc3 ?_;refine ZcH ?_;refine zd (q0 L rfl rfl (zn rfl) rfl rfl rfl (fun u H hH _ _ => zi6 (by first | assumption | omega | decide) (by first | assumption | omega | decide) (by first | assumption | omega | decide) hH)) rfl ?_;refine Zej ?_;refine ZcH ?_;refine zd (q0 L rfl rfl (zn rfl) rfl rfl rfl (fun u H hH _ _ => zpi (by first | assumption | omega | decide) (by first | assumption | omega | decide) (by first | assumption | omega | decide) hH)) rfl ?_;refine Zej ?_;refine Zl ?_
 refine qt L (rs:=[.tmp 2]) rfl (fun _ _ h => h) Since.refl fun u H hH hle => ?_
 rfl
set_option maxHeartbeats 1000000 in
theorem ze1 {s:ByteArray} {r:U × Int} (hr:ptA s = r) (hs:s.size ≤ 1000000) {w:World} {B:Heap} (hB:B.Le (hp w)) (hM:GlobM B) :
  Ret Tryz.prog 63 [.string s] w B (fun v _ => v = .tuple #[uv r.1, .int .i64 r.2]):=by
 subst hr
 have hz:=zh1 s 64
 have hz1:(zdm s 64).1.size ≤ 1000000:=by omega
 have hz2:(zdm s 64).2.1.size ≤ 1000000:=by omega
 unfold ptA
 refine qu Tryz.func63 rfl Tryz.ntmps63 (Nat.le_of_ble_eq_true rfl) hB ?_
 cases h1:(zdm s 64).2.2
 ·rw [if_neg (fun h => by cases h.1)]
  refine ZbF ?_;refine z7 (q0 L rfl rfl (zn rfl) rfl rfl rfl (fun u H hH hle _ => zex (by assumption) hH (GlobM.mono (by assumption) hle) (by assumption))) rfl ?_;refine Zbk ?_;refine Zem ?_;refine Zp ?_;refine ZaJ ?_;refine ZaM ?_;refine Zk ?_;refine Zcn ?_;refine ZaD ?_
  refine qt L (rs:=[.cell 2 34, .tmp 3]) rfl (fun _ _ h => h) Since.refl fun u H hH hle => ?_
  exact ⟨_, qg rfl, rfl, rfl⟩
 ·cases h2:zq9 (zdm s 64).2.1 64
  ·rw [if_pos ⟨rfl, rfl⟩]
   rcases hp:pgA (zdm s 64).1 with ⟨a, b, c, e⟩
   dsimp only
   by_cases he:e = 0
   ·rw [if_pos he]
    rcases hq:psA (zdm s 64).2.1 with ⟨a', b', c', e'⟩
    dsimp only
    by_cases he':e' = 0
    ·rw [if_pos he']
     refine ZbF ?_;refine z7 (q0 L rfl rfl (zn rfl) rfl rfl rfl (fun u H hH hle _ => zex (by assumption) hH (GlobM.mono (by assumption) hle) (by assumption))) rfl ?_;refine Zbk ?_;refine Zem ?_;refine ZbC ?_;refine z7 (q0 L rfl rfl (zn rfl) rfl rfl rfl (fun u H hH _ _ => zbk hH (by assumption))) rfl ?_;refine ZY ?_;refine Zw ?_;refine z7 (q0 L rfl rfl (zn rfl) rfl rfl rfl (fun u H hH hle _ => zrx (by first | assumption | rfl) (by first | assumption | omega | decide) hH (GlobM.mono (by assumption) hle))) rfl ?_;refine ZbH ?_;refine Zbb ?_;refine ZG ?_;refine ZU ?_;refine z7 (q0 L rfl rfl (zn rfl) rfl rfl rfl (fun u H hH hle _ => zxa (by first | assumption | rfl) (by first | assumption | omega | decide) hH (GlobM.mono (by assumption) hle))) rfl ?_;refine ZbH ?_;refine ZaA ?_;refine ZG ?_;refine ZX ?_;refine Zep ?_;refine Zep ?_;refine Zcn ?_;refine ZaD ?_
     refine qt L (rs:=[.cell 2 34, .tmp 3]) rfl (fun _ _ h => h) Since.refl fun u H hH hle => ?_
     exact ⟨_, qg rfl, rfl, rfl⟩
    ·rw [if_neg he']
     refine ZbF ?_;refine z7 (q0 L rfl rfl (zn rfl) rfl rfl rfl (fun u H hH hle _ => zex (by assumption) hH (GlobM.mono (by assumption) hle) (by assumption))) rfl ?_;refine Zbk ?_;refine Zem ?_;refine ZbC ?_;refine z7 (q0 L rfl rfl (zn rfl) rfl rfl rfl (fun u H hH _ _ => zbk hH (by assumption))) rfl ?_;refine ZY ?_;refine Zw ?_;refine z7 (q0 L rfl rfl (zn rfl) rfl rfl rfl (fun u H hH hle _ => zrx (by first | assumption | rfl) (by first | assumption | omega | decide) hH (GlobM.mono (by assumption) hle))) rfl ?_;refine ZbH ?_;refine Zbb ?_;refine ZG ?_;refine ZU ?_;refine z7 (q0 L rfl rfl (zn rfl) rfl rfl rfl (fun u H hH hle _ => zxa (by first | assumption | rfl) (by first | assumption | omega | decide) hH (GlobM.mono (by assumption) hle))) rfl ?_;refine ZbH ?_;refine ZaA ?_;refine Zz ?_;refine Z3 ?_;refine Zcn ?_;refine ZbG ?_
     refine qt L (rs:=[.cell 2 34, .tmp 3]) rfl (fun _ _ h => h) Since.refl fun u H hH hle => ?_
     exact ⟨_, qg rfl, rfl, rfl⟩
   ·rw [if_neg he]
    refine ZbF ?_;refine z7 (q0 L rfl rfl (zn rfl) rfl rfl rfl (fun u H hH hle _ => zex (by assumption) hH (GlobM.mono (by assumption) hle) (by assumption))) rfl ?_;refine Zbk ?_;refine Zem ?_;refine ZbC ?_;refine z7 (q0 L rfl rfl (zn rfl) rfl rfl rfl (fun u H hH _ _ => zbk hH (by assumption))) rfl ?_;refine ZY ?_;refine Zw ?_;refine z7 (q0 L rfl rfl (zn rfl) rfl rfl rfl (fun u H hH hle _ => zrx (by first | assumption | rfl) (by first | assumption | omega | decide) hH (GlobM.mono (by assumption) hle))) rfl ?_;refine ZbH ?_;refine Zbb ?_;refine Zz ?_;refine ZN ?_;refine Zcn ?_;refine ZbG ?_
    refine qt L (rs:=[.cell 2 34, .tmp 3]) rfl (fun _ _ h => h) Since.refl fun u H hH hle => ?_
    exact ⟨_, qg rfl, rfl, rfl⟩
  ·rw [if_neg (fun h => by cases h.2)]
   refine ZbF ?_;refine z7 (q0 L rfl rfl (zn rfl) rfl rfl rfl (fun u H hH hle _ => zex (by assumption) hH (GlobM.mono (by assumption) hle) (by assumption))) rfl ?_;refine Zbk ?_;refine Zem ?_;refine ZbC ?_;refine z7 (q0 L rfl rfl (zn rfl) rfl rfl rfl (fun u H hH _ _ => zbk hH (by assumption))) rfl ?_;refine ZaM ?_;refine Zk ?_;refine Zcn ?_;refine ZaD ?_
   refine qt L (rs:=[.cell 2 34, .tmp 3]) rfl (fun _ _ h => h) Since.refl fun u H hH hle => ?_
   exact ⟨_, qg rfl, rfl, rfl⟩
theorem zkj {l:List U} {fu:Bool} (hl:l.length ≤ 1000000) {r:Bool} (hr:isB l = r) {v:Value} {w:World} {B:Heap} (hB:B.Le (hp w)) (hv:US l fu v B) :
  Ret Tryz.prog 280 [v] w B (fun v _ => v = .bool r):=by
 subst hr
 refine qu Tryz.func280 rfl Tryz.ntmps280 (Nat.le_of_ble_eq_true rfl) hB ?_
 refine za4 0 (US l fu) rfl SlV.mono hv ?_
 refine ZC ?_;refine Zam ?_;refine ZW ?_
 refine zao (fun i:Nat => [(0, .sat (US l fu)), (3, .is (.int .i64 (i + 1:Nat)))])
  (fun i => ∀ j a b, j < i → l[j]? = some a → l[j + 1]? = some b → zcc a b < 0) (fun i => l.length - i) 0 (fun j a b h => by omega) ⟨rfl, rfl, trivial⟩ ?_
 rintro i hall
 by_cases hlt:i + 1 < l.length
 ·obtain ⟨a, ha⟩:=zaw (show i < l.length by omega)
  obtain ⟨b, hb⟩:=zaw hlt
  have hca:=ze0 ha
  have hcb:=ze0 hb
  have hsub:IntKind.i64.wrap (((i + 1:Nat):Int) - 1) = (i:Int):=zad (by omega) (by omega) |>.trans (by omega)
  by_cases hc:zcc a b < 0
  ·refine Zh ?_;refine Z4 ?_;refine ZeP ?_;refine Zch ?_;refine ZfW ?_;refine Zen ?_;refine Zfh ?_;refine Zbl ?_;refine zd (q0 L rfl rfl (zn rfl) rfl rfl rfl (fun u H hH _ _ => zdb hH)) rfl ?_;refine ZeO ?_;refine ZaW ?_;refine q9 ?_;refine Zai ?_;refine Zs ?_;refine Zb5 ?_
   exact yl (x:=i) (i + 1) (fun j a' b' hj h1 h2 => by
    by_cases hji:j = i
    ·subst hji; rw [ha] at h1; rw [hb] at h2; cases h1; cases h2; exact hc
    ·exact hall j a' b' (by omega) h1 h2) (by omega) ⟨rfl, rfl, trivial⟩
  ·rw [z6i ha hb hc]
   refine Zh ?_;refine Z4 ?_;refine ZeP ?_;refine Zch ?_;refine ZfW ?_;refine Zen ?_;refine Zfh ?_;refine Zbl ?_;refine zd (q0 L rfl rfl (zn rfl) rfl rfl rfl (fun u H hH _ _ => zdb hH)) rfl ?_;refine Zer ?_;refine Zbg ?_;refine Zau ?_;refine Zb ?_
   refine qt L (rs:=[.tmp 2]) rfl (fun _ _ h => h) Since.refl fun u H hH hle => ?_
   rfl
 ·rw [z39 fun j a b h1 h2 => hall j a b (by
   have:j + 1 < l.length:=by
    rcases Nat.lt_or_ge (j + 1) l.length with h | h
    ·exact h
    ·rw [List.getElem?_eq_none h] at h2; cases h2
   omega) h1 h2]
  refine Zh ?_;refine Z4 ?_;refine Zd2 ?_;refine Zb0 ?_;refine Zb ?_
  refine qt L (rs:=[.tmp 2]) rfl (fun _ _ h => h) Since.refl fun u H hH hle => ?_
  rfl
end Go.V.L2
set_option maxRecDepth 20000
namespace Go.V
open Go.Proofs Go.RowKit
theorem _root_.Go.V.Zco {A B:Prop} (h:B) (t:Wr B → A:=by intro h; refine z7 (zqc rfl rfl rfl rfl (decide_eq_true (by omega))) rfl ?_;exact h.h):A:=t ⟨h⟩
theorem _root_.Go.V.ZdW {A B:Prop} (h:B) (t:Wr B → A:=by intro h; refine z7 (zqc rfl rfl rfl rfl (decide_eq_false (by omega))) rfl ?_;exact h.h):A:=t ⟨h⟩
theorem _root_.Go.V.ZeQ {A B:Prop} (h:B) (t:Wr B → A:=by intro h; refine Zh ?_;refine Zk ?_;exact h.h):A:=t ⟨h⟩
theorem _root_.Go.V.Zd3 {A B:Prop} (h:B) (t:Wr B → A:=by intro h; refine ZeQ ?_;refine Zc0 ?_;exact h.h):A:=t ⟨h⟩
theorem _root_.Go.V.Zbm {A B:Prop} (h:B) (t:Wr B → A:=by intro h; refine Za ?_;refine ZbN ?_;exact h.h):A:=t ⟨h⟩
theorem _root_.Go.V.ZbV {A B:Prop} (h:B) (t:Wr B → A:=by intro h; refine Zw ?_;refine Zb5 ?_;exact h.h):A:=t ⟨h⟩
theorem _root_.Go.V.Zcp {A B:Prop} (h:B) (t:Wr B → A:=by intro h; refine ZB ?_;refine Zc ?_;exact h.h):A:=t ⟨h⟩
theorem _root_.Go.V.Zd4 {A B:Prop} (h:B) (t:Wr B → A:=by intro h; refine Zd3 ?_;refine Zo ?_;exact h.h):A:=t ⟨h⟩
attribute [local irreducible] V N X VO Par StepOK Has Ret RetL Src
set_option maxHeartbeats 1000000 in
theorem ze5 {s:ByteArray} (hs:s.size ≤ 9223372036854775807) {w:World} {B:Heap} (hB:B.Le (hp w)) :
  Ret Tryz.prog 175 [.string s] w B (fun v _ => v = .int .i64 (chk s)):=by
 refine qu Tryz.func175 rfl Tryz.ntmps175 (Nat.le_of_ble_eq_true rfl) hB ?_
 by_cases h0:1 ≤ s.size ∧ s.size ≤ 16
 ·obtain ⟨h1, h2⟩:=h0
  refine Zc9 ?_;refine ZH ?_;refine Z2 ?_;refine Zc0 ?_;refine Zco ?_;refine Ze ?_;refine Zb4 ?_;refine ZW ?_
  refine zao (fun p:Nat × Bool => [(0, .is (.string s)), (3, .is (.bool p.2)), (4, .is (.int .i64 p.1))])
   (fun p => p.1 ≤ s.size ∧ (p.2 = true → (s.data.toList.take p.1).all okB = true) ∧ (p.2 = false → chk s = 6)) (fun p => s.size - p.1) (0, true) ⟨Nat.zero_le _, fun _ => by simp, fun h => by cases h⟩ ⟨rfl, rfl, rfl, trivial⟩ ?_
  rintro ⟨k, b⟩ ⟨hk, hall, hbad⟩
  dsimp only at hk hall hbad ⊢
  by_cases hlt:k < s.size
  ·cases b with
   | false =>
    refine Zd3 ?_;refine Zcp ?_;refine Ze ?_;refine ZdS ?_;refine ZL ?_;refine ZQ ?_;refine Z0 ?_;refine Zb ?_
    refine qt L (rs:=[.tmp 2]) rfl (fun _ _ h => h) Since.refl fun u H hH hle => ?_
    exact congrArg _ (hbad rfl).symm
   | true =>
    obtain ⟨c, hc⟩:=getElem?_lt hlt
    have hu:=z2x c
    by_cases a1:97 ≤ (c.toNat:Int)
    ·by_cases a4:(c.toNat:Int) ≤ 122
     ·refine Zd3 ?_;refine Zcp ?_;refine Za7 ?_;refine ZbP ?_;refine Zn ?_;refine Zaw ?_;refine ZaR ?_;refine ZaU ?_;refine Zco ?_;refine Ze ?_;refine Zbs ?_;refine Zcf ?_;refine Ze ?_;refine ZI ?_;refine Zai ?_;refine ZbV ?_
      exact yl (x:=(k, true)) (k + 1, true) ⟨hlt, fun _ => zjo hc (z50 (by omega) (by omega)) (hall rfl), fun h => (by cases h)⟩ (by dsimp only; omega) ⟨rfl, rfl, rfl, trivial⟩
     ·refine Zd3 ?_;refine Zcp ?_;refine Za7 ?_;refine ZbP ?_;refine Zn ?_;refine Zaw ?_;refine ZaR ?_;refine ZaU ?_;refine ZdW ?_;refine Ze ?_;refine ZaU ?_;refine ZaR ?_;refine ZaU ?_;refine ZdW ?_;refine Ze ?_;refine Ze ?_;refine ZI ?_;refine Zai ?_;refine ZbV ?_
      exact yl (x:=(k, true)) (k + 1, false) ⟨hlt, fun h => (by cases h), fun _ => zm0 hc (z52 (by omega))⟩ (by dsimp only; omega) ⟨rfl, rfl, rfl, trivial⟩
    ·by_cases a2:48 ≤ (c.toNat:Int)
     ·by_cases a3:(c.toNat:Int) ≤ 57
      ·refine Zd3 ?_;refine Zcp ?_;refine Za7 ?_;refine ZbP ?_;refine Zn ?_;refine Zaw ?_;refine Zaz ?_;refine Zda ?_;refine ZaU ?_;refine ZaR ?_;refine ZaU ?_;refine Zco ?_;refine Ze ?_;refine Ze ?_;refine ZI ?_;refine Zai ?_;refine ZbV ?_
       exact yl (x:=(k, true)) (k + 1, true) ⟨hlt, fun _ => zjo hc (z5z (by omega) (by omega)) (hall rfl), fun h => (by cases h)⟩ (by dsimp only; omega) ⟨rfl, rfl, rfl, trivial⟩
      ·refine Zd3 ?_;refine Zcp ?_;refine Za7 ?_;refine ZbP ?_;refine Zn ?_;refine Zaw ?_;refine Zaz ?_;refine Zda ?_;refine ZaU ?_;refine ZaR ?_;refine ZaU ?_;refine ZdW ?_;refine Ze ?_;refine Ze ?_;refine ZI ?_;refine Zai ?_;refine ZbV ?_
       exact yl (x:=(k, true)) (k + 1, false) ⟨hlt, fun h => (by cases h), fun _ => zm0 hc (z54 (by omega) (by omega))⟩ (by dsimp only; omega) ⟨rfl, rfl, rfl, trivial⟩
     ·refine Zd3 ?_;refine Zcp ?_;refine Za7 ?_;refine ZbP ?_;refine Zn ?_;refine Zaw ?_;refine Zaz ?_;refine Zda ?_;refine ZaU ?_;refine Zaz ?_;refine Zda ?_;refine Ze ?_;refine ZI ?_;refine Zai ?_;refine ZbV ?_
      exact yl (x:=(k, true)) (k + 1, false) ⟨hlt, fun h => (by cases h), fun _ => zm0 hc (z55 (by omega) (by omega))⟩ (by dsimp only; omega) ⟨rfl, rfl, rfl, trivial⟩
  ·cases b with
   | false =>
    refine Zd4 ?_;refine Zbm ?_;refine ZdS ?_;refine ZL ?_;refine ZQ ?_;refine Z0 ?_;refine Zb ?_
    refine qt L (rs:=[.tmp 2]) rfl (fun _ _ h => h) Since.refl fun u H hH hle => ?_
    exact congrArg _ (hbad rfl).symm
   | true =>
    refine Zd4 ?_;refine Zbm ?_;refine ZdS ?_;refine ZL ?_;refine Zt ?_;refine Z8 ?_;refine Zb ?_
    refine qt L (rs:=[.tmp 2]) rfl (fun _ _ h => h) Since.refl fun u H hH hle => ?_
    exact congrArg _ (zy8 h1 h2 (zt7 (by omega) (hall rfl))).symm
 ·have hbad:=zse h0
  by_cases h1:1 ≤ s.size
  ·have h2:16 < s.size:=by omega
   refine Zc9 ?_;refine ZH ?_;refine Z2 ?_;refine Zc0 ?_;refine ZdW ?_;refine Ze ?_;refine Zb4 ?_;refine ZW ?_
   refine zao (fun _:Unit => [(0, .is (.string s)), (3, .is (.bool false)), (4, .is (.int .i64 0))]) (fun _ => True) (fun _ => 0) () trivial ⟨rfl, rfl, rfl, trivial⟩ ?_
   rintro _ _
   refine Zd3 ?_;refine Zcp ?_;refine Ze ?_;refine ZdS ?_;refine ZL ?_;refine ZQ ?_;refine Z0 ?_;refine Zb ?_
   refine qt L (rs:=[.tmp 2]) rfl (fun _ _ h => h) Since.refl fun u H hH hle => ?_
   exact congrArg _ hbad.symm
  ·refine Zc9 ?_;refine ZH ?_;refine ZS ?_;refine Zap ?_;refine Zb4 ?_;refine ZW ?_
   refine zao (fun _:Unit => [(0, .is (.string s)), (3, .is (.bool false)), (4, .is (.int .i64 0))]) (fun _ => True) (fun _ => 0) () trivial ⟨rfl, rfl, rfl, trivial⟩ ?_
   rintro _ _
   refine Zd4 ?_;refine Zbm ?_;refine ZdS ?_;refine ZL ?_;refine ZQ ?_;refine Z0 ?_;refine Zb ?_
   refine qt L (rs:=[.tmp 2]) rfl (fun _ _ h => h) Since.refl fun u H hH hle => ?_
   exact congrArg _ hbad.symm
theorem max2 (a b:ByteArray):(if chk b > chk a then chk b else chk a) = zc3 [a, b]:=by
 simp only [zc3]
 rcases zbl a with h | h <;> rcases zbl b with h' | h' <;> simp [h, h']
theorem z79 (a b c:ByteArray):(if chk c > zc3 [a, b] then chk c else zc3 [a, b]) = zc3 [a, b, c]:=by
 simp only [zc3]
 rcases zbl a with h | h <;> rcases zbl b with h' | h' <;> rcases zbl c with h'' | h'' <;> simp [h, h', h'']
theorem zeb {a b:ByteArray} (ha:a.size ≤ 9223372036854775807) (hb:b.size ≤ 9223372036854775807) {w:World} {B:Heap} (hB:B.Le (hp w)) :
  Ret Tryz.prog 174 [.agg #[.string a, .string b]] w B (fun v _ => v = .int .i64 (zc3 [a, b])):=by
 refine qu Tryz.func174 rfl Tryz.ntmps174 (Nat.le_of_ble_eq_true rfl) hB ?_
 refine ZA ?_;refine Zc3 ?_;refine ZaN ?_;refine zd (q0 L rfl rfl (zn rfl) rfl rfl rfl (fun u H hH _ _ => ze5 (by first | omega | decide) hH)) rfl ?_;refine ZaN ?_;refine zd (q0 L rfl rfl (zn rfl) rfl rfl rfl (fun u H hH _ _ => ze5 (by first | omega | decide) hH)) rfl ?_;refine zd (zf4 rfl rfl rfl rfl rfl) rfl ?_;refine Zl ?_
 refine qt L (rs:=[.tmp 2]) rfl (fun _ _ h => h) Since.refl fun u H hH hle => ?_
 exact congrArg _ (max2 a b)
theorem zw4 {a b c:ByteArray} (ha:a.size ≤ 9223372036854775807) (hb:b.size ≤ 9223372036854775807) (hc:c.size ≤ 9223372036854775807) {w:World} {B:Heap} (hB:B.Le (hp w)) :
  Ret Tryz.prog 125 [.agg #[.string a, .string b, .string c]] w B (fun v _ => v = .int .i64 (zc3 [a, b, c])):=by
 refine qu Tryz.func125 rfl Tryz.ntmps125 (Nat.le_of_ble_eq_true rfl) hB ?_
 refine ZA ?_;refine Zc3 ?_;refine Zdu ?_;refine zd (q0 L rfl rfl (zn rfl) rfl rfl rfl (fun u H hH _ _ => zeb (by first | assumption | omega | decide) (by first | assumption | omega | decide) hH)) rfl ?_;refine ZaN ?_;refine zd (q0 L rfl rfl (zn rfl) rfl rfl rfl (fun u H hH _ _ => ze5 (by first | omega | decide) hH)) rfl ?_;refine zd (zf4 rfl rfl rfl rfl rfl) rfl ?_;refine Zl ?_
 refine qt L (rs:=[.tmp 2]) rfl (fun _ _ h => h) Since.refl fun u H hH hle => ?_
 exact congrArg _ (z79 a b c)
end Go.V
set_option maxRecDepth 20000
namespace Go.V
open Go.Proofs Go.RowKit
theorem _root_.Go.V.ZeR {A B:Prop} (h:B) (t:Wr B → A:=by intro h; refine qh (id:=3) [] mixed (by kernel_rfl) ?_;exact h.h):A:=t ⟨h⟩
theorem _root_.Go.V.ZbW {A B:Prop} (h:B) (t:Wr B → A:=by intro h; refine ZR ?_;refine ZQ ?_;exact h.h):A:=t ⟨h⟩
attribute [local irreducible] V N X VO Par StepOK Has Ret RetL Src
theorem z0b {c:ByteArray} (h:c.size = 0):c = ⟨#[]⟩:=by
 obtain ⟨⟨l⟩⟩:=c
 have h':l.length = 0:=h
 rw [List.eq_nil_of_length_eq_zero h']
theorem zpw {a b c:ByteArray} (ha:a.size ≤ 9223372036854775807) (hb:b.size ≤ 9223372036854775807) (hc:c.size ≤ 9223372036854775807) {w:World} {B:Heap} (hB:B.Le (hp w)) :
  Ret Tryz.prog 126 [.agg #[.string a, .string b, .string c]] w B (fun v _ => v = .int .i64 (zgw a b c)):=by
 refine qu Tryz.func126 rfl Tryz.ntmps126 (Nat.le_of_ble_eq_true rfl) hB ?_
 by_cases h:c.size = 0
 ·refine Zbf ?_;refine Zm ?_;refine ZH ?_;refine ZJ ?_;refine ZaK ?_;refine Za6 ?_;refine z7 (q0 L rfl rfl (zn rfl) rfl rfl rfl (fun u H hH _ _ => zeb (by first | assumption | omega | decide) (by first | assumption | omega | decide) hH)) rfl ?_;refine Zb ?_
  refine qt L (rs:=[.tmp 2]) rfl (fun _ _ h => h) Since.refl fun u H hH hle => ?_
  exact congrArg (Value.int .i64) (show zc3 [a, b] = zgw a b c from (if_pos (z0b h)).symm)
 ·refine Zbf ?_;refine Zm ?_;refine ZH ?_;refine ZbW ?_;refine ZeR ?_;refine Zdu ?_;refine zd (q0 L rfl rfl (zn rfl) rfl rfl rfl (fun u H hH _ _ => zeb (by first | assumption | omega | decide) (by first | assumption | omega | decide) hH)) rfl ?_;refine ZaN ?_;refine zd (q0 L rfl rfl (zn rfl) rfl rfl rfl (fun u H hH _ _ => ze5 (by first | omega | decide) hH)) rfl ?_;refine zd (zf4 rfl rfl rfl rfl rfl) rfl ?_;refine Zl ?_
  refine qt L (rs:=[.tmp 2]) rfl (fun _ _ h => h) Since.refl fun u H hH hle => ?_
  exact congrArg (Value.int .i64) ((z79 a b c).trans (show zc3 [a, b, c] = zgw a b c from (if_neg (fun e => h (by subst e; rfl))).symm))
end Go.V
set_option maxRecDepth 20000
namespace Go.V.L2
open Go.Proofs Go.RowKit Go.V
theorem _root_.Go.V.Zbn {A B:Prop} (h:B) (t:Wr B → A:=by intro h; refine zd (q8 L (vs:=[_, _, _, _, _, _]) (qk rfl) rfl rfl rfl rfl ⟨_, rfl⟩) rfl ?_;exact h.h):A:=t ⟨h⟩
theorem _root_.Go.V.Zf5 {A B:Prop} (h:B) (t:Wr B → A:=by intro h; refine zd (zn2 rfl rfl rfl rfl z8c (by assumption) rfl) rfl ?_;exact h.h):A:=t ⟨h⟩
theorem _root_.Go.V.Zad {A B:Prop} (h:B) (t:Wr B → A:=by intro h; refine Zae ?_;refine ZO ?_;exact h.h):A:=t ⟨h⟩
theorem _root_.Go.V.Zb1 {A B:Prop} (h:B) (t:Wr B → A:=by intro h; refine Zh ?_;refine Zw ?_;exact h.h):A:=t ⟨h⟩
theorem _root_.Go.V.Zgt {A B:Prop} (h:B) (t:Wr B → A:=by intro h; refine Zb1 ?_;refine ZeP ?_;exact h.h):A:=t ⟨h⟩
theorem _root_.Go.V.Zd5 {A B:Prop} (h:B) (t:Wr B → A:=by intro h; refine Zgt ?_;refine Zde ?_;exact h.h):A:=t ⟨h⟩
theorem _root_.Go.V.Zd6 {A B:Prop} (h:B) (t:Wr B → A:=by intro h; refine Zbb ?_;refine Zb5 ?_;exact h.h):A:=t ⟨h⟩
theorem zj7:∀ (l:List ByteArray), zc3 l = 0 ∨ zc3 l = 6
 | [] => .inl rfl
 | s :: l => by
  simp only [zc3]
  split
  ·exact zj7 l
  ·rename_i h; exact .inr ((zbl s).resolve_left h)
theorem zpj (a b c:ByteArray):zgw a b c = 0 ∨ zgw a b c = 6:=by
 unfold zgw
 split <;> exact zj7 _
theorem z5e (t:U):(if zgw t.2.1.1 t.2.1.2 t.2.2 > zc3 [t.1.1.1, t.1.1.2, t.1.2] then zgw t.2.1.1 t.2.1.2 t.2.2 else zc3 [t.1.1.1, t.1.1.2, t.1.2]) = tE t:=by
 unfold tE
 rcases zj7 [t.1.1.1, t.1.1.2, t.1.2] with h | h <;> rcases zpj t.2.1.1 t.2.1.2 t.2.2 with h' | h' <;> rw [h, h'] <;> decide
theorem eqU {t v:U} {r:Bool} (e:decide (t = v) = r):zgt [0, 0, 0, 0, 0, 0] [.string t.1.1.1, .string t.1.1.2, .string t.1.2, .string t.2.1.1, .string t.2.1.2, .string t.2.2] [.string v.1.1.1, .string v.1.1.2, .string v.1.2, .string v.2.1.1, .string v.2.1.2, .string v.2.2] = some r:=by
 subst e
 simp only [zgt, eqC]
 have h:=@z89 t v
 by_cases hh:t = v
 ·subst hh; simp
 ·rw [decide_eq_false hh]
  have h':=fun x => hh (h.1 x)
  by_cases a1:t.1.1.1 = v.1.1.1
  ·by_cases a2:t.1.1.2 = v.1.1.2
   ·by_cases a3:t.1.2 = v.1.2
    ·by_cases a4:t.2.1.1 = v.2.1.1
     ·by_cases a5:t.2.1.2 = v.2.1.2
      ·by_cases a6:t.2.2 = v.2.2
       ·exact absurd ⟨a1, a2, a3, a4, a5, a6⟩ h'
       ·simp [a6]
      ·simp [a5]
     ·simp [a4]
    ·simp [a3]
   ·simp [a2]
  ·simp [a1]
theorem eq3 {g h:zsm} {r:Bool} (e:decide (g = h) = r):zgt [0, 0, 0] [.string g.1.1, .string g.1.2, .string g.2] [.string h.1.1, .string h.1.2, .string h.2] = some r :=
 z8b (by rw [← e]; exact decide_eq_decide.2 ⟨fun ⟨a, b, c⟩ => Prod.ext (Prod.ext a b) c, fun e => by subst e; exact ⟨rfl, rfl, rfl⟩⟩)
theorem z6t {a b:U} (h:a.1 ≠ b.1):zcc a b = z6w a.1 b.1:=by
 unfold zcc zzj; rw [zxg, if_neg fun e => h (cmp3_ord.eq _ _ e)]
theorem z6s {a b:U} (h:a.1 = b.1):zcc a b = z6w a.2 b.2:=by
 unfold zcc zzj; rw [zxg, if_pos (by rw [h]; exact cmp3_ord.refl _)]
theorem zl8 {α:Type} {l:List α} {k:Nat} {g:α} (h:l[k]? = some g):l.take (k + 1) = l.take k ++ [g]:=by rw [List.take_add_one, h]; rfl
theorem zqu {α:Type} {l:List α} {k:Nat} {g:α} (h:l[k]? = some g):l.drop k = g :: l.drop (k + 1):=by
 obtain ⟨hl, he⟩:=List.getElem?_eq_some_iff.1 h
 rw [List.drop_eq_getElem_cons hl, he]
theorem zda {κ:Kap} {s:Nat} {r:List U} {t:U} (h:κ s = some (.own (SlR tyU 6 (r.length + 1) (r.flatMap ucs ++ [.string t.1.1.1, .string t.1.1.2, .string t.1.2, .string t.2.1.1, .string t.2.1.2, .string t.2.2])))):κ s = some (.own (SlR tyU 6 (r ++ [t]).length ((r ++ [t]).flatMap ucs))):=by
 rw [h, List.flatMap_append, List.length_append]; rfl
attribute [local irreducible] V N X VO Par StepOK Has Ret RetL Src
theorem zby {t:U} (hz:TZ t) {w:World} {B:Heap} (hB:B.Le (hp w)):Ret Tryz.prog 58 [uv t] w B (fun v _ => v = .int .i64 (tE t)):=by
 obtain ⟨⟨z1, z2, z3⟩, z4, z5, z6⟩:=hz
 have hm:=z5e t
 refine qu Tryz.func58 rfl Tryz.ntmps58 (Nat.le_of_ble_eq_true rfl) hB ?_
 refine ZA ?_;refine Zc3 ?_;refine ZcH ?_;refine zd (q0 L rfl rfl (zn rfl) rfl rfl rfl (fun u H hH _ _ => zw4 (by first | assumption | omega | decide) (by first | assumption | omega | decide) (by first | assumption | omega | decide) hH)) rfl ?_;refine ZcH ?_;refine zd (q0 L rfl rfl (zn rfl) rfl rfl rfl (fun u H hH _ _ => zpw (by first | assumption | omega | decide) (by first | assumption | omega | decide) (by first | assumption | omega | decide) hH)) rfl ?_;refine zd (zf4 rfl rfl rfl rfl (by assumption)) rfl ?_;refine Zl ?_
 refine qt L (rs:=[.tmp 2]) rfl (fun _ _ h => h) Since.refl fun u H hH hle => ?_
 rfl
theorem zhh {a b:U} (ha:TZ a) (hb:TZ b) {w:World} {B:Heap} (hB:B.Le (hp w)):Ret Tryz.prog 152 [uv a, uv b] w B (fun v _ => v = .int .i64 (zcc a b)):=by
 obtain ⟨⟨z1, z2, z3⟩, z4, z5, z6⟩:=ha
 obtain ⟨⟨y1, y2, y3⟩, y4, y5, y6⟩:=hb
 refine qu Tryz.func152 rfl Tryz.ntmps152 (Nat.le_of_ble_eq_true rfl) hB ?_
 by_cases h:a.1 = b.1
 ·have hq:=eq3 (decide_eq_true h)
  rw [z6s h]
  refine Zc6 ?_;refine Zbz ?_;refine Zbz ?_;refine z7 (zn2 rfl rfl rfl rfl z83 (by assumption) rfl) rfl ?_;refine ZQ ?_;refine Zk ?_;refine Zbz ?_;refine Zbz ?_;refine z7 (q0 L rfl rfl (zn rfl) rfl rfl rfl (fun u H hH _ _ => zw7 (by first | assumption | omega | decide) (by first | assumption | omega | decide) (by first | assumption | omega | decide) (by first | assumption | omega | decide) (by first | assumption | omega | decide) (by first | assumption | omega | decide) hH)) rfl ?_;refine Zb ?_
  refine qt L (rs:=[.tmp 4]) rfl (fun _ _ h => h) Since.refl fun u H hH hle => ?_
  rfl
 ·have hq:=eq3 (decide_eq_false h)
  rw [z6t h]
  refine Zc6 ?_;refine Zbz ?_;refine Zbz ?_;refine z7 (zn2 rfl rfl rfl rfl z83 (by assumption) rfl) rfl ?_;refine ZaK ?_;refine Zbz ?_;refine Zbz ?_;refine z7 (q0 L rfl rfl (zn rfl) rfl rfl rfl (fun u H hH _ _ => zw8 (by first | assumption | omega | decide) (by first | assumption | omega | decide) (by first | assumption | omega | decide) (by first | assumption | omega | decide) (by first | assumption | omega | decide) (by first | assumption | omega | decide) hH)) rfl ?_;refine Zb ?_
  refine qt L (rs:=[.tmp 4]) rfl (fun _ _ h => h) Since.refl fun u H hH hle => ?_
  rfl
theorem zbm {l:List U} {t:U} {fu:Bool} (hl:l.length ≤ 1000000) {e:Int} (he:(if t ∈ l then 1 else 0:Int) = e) {v:Value} {w:World} {B:Heap} (hB:B.Le (hp w)) (hv:US l fu v B) :
  Ret Tryz.prog 153 [v, uv t] w B (fun v _ => v = .int .i64 e):=by
 subst he
 refine qu Tryz.func153 rfl Tryz.ntmps153 (Nat.le_of_ble_eq_true rfl) hB ?_
 refine za4 0 (US l fu) rfl SlV.mono hv ?_
 refine Zbf ?_;refine ZW ?_
 refine zao (fun i:Nat => [(0, .sat (US l fu)), (3, .sat (At [.string t.1.1.1, .string t.1.1.2, .string t.1.2, .string t.2.1.1, .string t.2.1.2, .string t.2.2] tyU 0)), (5, .is (.int .i64 i))])
  (fun i => i ≤ l.length ∧ (t ∈ l ↔ t ∈ l.drop i)) (fun i => l.length - i) 0 ⟨Nat.zero_le _, Iff.rfl⟩ ⟨rfl, rfl, rfl, trivial⟩ ?_
 rintro i ⟨hi, he⟩
 by_cases hlt:i < l.length
 ·obtain ⟨y, hy⟩:=zaw hlt
  have hc:=ze0 hy
  rw [zqu hy] at he
  by_cases hyt:y = t
  ·have hq:=eqU (decide_eq_true hyt)
   rw [if_pos (he.2 (by rw [hyt]; exact List.mem_cons_self ..))]
   refine Zh ?_;refine Z4 ?_;refine ZeP ?_;refine Zch ?_;refine Zbl ?_;refine Zbn ?_;refine zd (zxt rfl rfl rfl rfl z8c (by assumption) rfl) rfl ?_;refine Zbg ?_;refine Zau ?_;refine Zb ?_
   refine qt L (rs:=[.tmp 4]) rfl (fun _ _ h => h) Since.refl fun u H hH hle => ?_
   rfl
  ·have hq:=eqU (decide_eq_false hyt)
   refine Zh ?_;refine Z4 ?_;refine ZeP ?_;refine Zch ?_;refine Zbl ?_;refine Zbn ?_;refine zd (zxt rfl rfl rfl rfl z8c (by assumption) rfl) rfl ?_;refine ZaW ?_;refine q9 ?_;refine Zai ?_;refine Zs ?_;refine Zb5 ?_
   exact yl (x:=i) (i + 1) ⟨hlt, he.trans ⟨fun h => (List.mem_cons.1 h).resolve_left fun e => hyt e.symm, fun h => List.mem_cons_of_mem _ h⟩⟩ (by omega) ⟨rfl, rfl, rfl, trivial⟩
 ·obtain rfl:i = l.length:=by omega
  rw [List.drop_length] at he
  rw [if_neg fun h => by cases he.1 h]
  refine Zh ?_;refine Z4 ?_;refine Zd2 ?_;refine Zb0 ?_;refine Zb ?_
  refine qt L (rs:=[.tmp 4]) rfl (fun _ _ h => h) Since.refl fun u H hH hle => ?_
  rfl
theorem zmi {a b:List U} {fa fb:Bool} (hla:a.length ≤ 1000000) (hlb:b.length ≤ 1000000) {e:Int} (he:(if a = b then 1 else 0:Int) = e) {va vb:Value} {w:World} {B:Heap} (hB:B.Le (hp w)) (ha:US a fa va B) (hb:US b fb vb B) :
  Ret Tryz.prog 18 [va, vb] w B (fun v _ => v = .int .i64 e):=by
 subst he
 refine qu Tryz.func18 rfl Tryz.ntmps18 (Nat.le_of_ble_eq_true rfl) hB ?_
 refine za4 0 (US a fa) rfl SlV.mono ha ?_
 refine za4 1 (US b fb) rfl SlV.mono hb ?_
 by_cases hlen:a.length = b.length
 ·refine ZC ?_;refine Zam ?_;refine Zv ?_;refine Zv ?_;refine Zad ?_;refine Zk ?_;refine ZW ?_
  refine zao (fun i:Nat => [(0, .sat (US a fa)), (1, .sat (US b fb)), (5, .is (.int .i64 i))])
   (fun i => i ≤ a.length ∧ a.take i = b.take i) (fun i => a.length - i) 0 ⟨Nat.zero_le _, rfl⟩ ⟨rfl, rfl, rfl, trivial⟩ ?_
  rintro i ⟨hi, he⟩
  by_cases hlt:i < a.length
  ·obtain ⟨x, hx⟩:=zaw hlt
   obtain ⟨y, hy⟩:=zaw (show i < b.length by omega)
   have hcx:=ze0 hx
   have hcy:=ze0 hy
   by_cases hxy:x = y
   ·have hq:=eqU (decide_eq_true hxy)
    refine Zd5 ?_;refine Zbl ?_;refine Zbl ?_;refine Zf5 ?_;refine ZaW ?_;refine q9 ?_;refine Zai ?_;refine Zd6 ?_
    exact yl (x:=i) (i + 1) ⟨hlt, by rw [zl8 hx, zl8 hy, he, hxy]⟩ (by omega) ⟨rfl, rfl, rfl, trivial⟩
   ·have hq:=eqU (decide_eq_false hxy)
    have h1:a ≠ b:=fun e => by subst e; rw [hx] at hy; exact hxy (Option.some.inj hy)
    rw [if_neg h1]
    refine Zd5 ?_;refine Zbl ?_;refine Zbl ?_;refine Zf5 ?_;refine Zbg ?_;refine zj ?_;refine Z8 ?_;refine Zb ?_
    refine qt L (rs:=[.tmp 4]) rfl (fun _ _ h => h) Since.refl fun u H hH hle => ?_
    rfl
  ·obtain rfl:i = a.length:=by omega
   have h1:a = b:=by rw [List.take_length, hlen, List.take_length] at he; exact he
   rw [if_pos h1]
   refine Zb1 ?_;refine Zd2 ?_;refine ZaS ?_;refine Z0 ?_;refine Zb ?_
   refine qt L (rs:=[.tmp 4]) rfl (fun _ _ h => h) Since.refl fun u H hH hle => ?_
   rfl
 ·have h1:a ≠ b:=fun e => hlen (by rw [e])
  rw [if_neg h1]
  refine ZC ?_;refine Zam ?_;refine Zv ?_;refine Zv ?_;refine Zz ?_;refine Zy ?_;refine Zb ?_
  refine qt L (rs:=[.tmp 4]) rfl (fun _ _ h => h) Since.refl fun u H hH hle => ?_
  rfl
end Go.V.L2
set_option maxRecDepth 20000
namespace Go.V
open Go.RowKit
def noB (s:ByteArray) (c:UInt8):Prop:=c ∉ s.data.toList
theorem zfm (r:List UInt8) (c:UInt8):∀ (l:List UInt8), c ∉ l → Lib.indexByte (l ++ c :: r) c = l.length
 | [], _ => by simp [Lib.indexByte]
 | b :: l, h => by
  have h1:¬ (b == c) = true:=fun e => h (by rw [beq_iff_eq] at e; rw [e]; exact List.mem_cons_self ..)
  have ih:=zfm r c l (fun e => h (List.mem_cons_of_mem _ e))
  rw [List.cons_append, Lib.indexByte, if_neg h1, ih, if_neg (by rw [beq_iff_eq]; omega)]
  simp
theorem zf9 (c:UInt8):∀ (l:List UInt8), c ∉ l → Lib.indexByte l c = -1
 | [], _ => rfl
 | b :: l, h => by
  have h1:¬ (b == c) = true:=fun e => h (by rw [beq_iff_eq] at e; rw [e]; exact List.mem_cons_self ..)
  rw [Lib.indexByte, if_neg h1, zf9 c l (fun e => h (List.mem_cons_of_mem _ e))]
  rfl
theorem z4e {l r:List UInt8} {c:UInt8} (h:c ∉ l):Lib.cut (l ++ c :: r) [c] = (l, r, true):=by
 unfold Lib.cut
 rw [Lib.index_one, zfm r c l h, if_pos (by omega)]
 simp
theorem z6p {l:List UInt8} {c:UInt8} (h:c ∉ l):Lib.cut l [c] = (l, [], false):=by
 unfold Lib.cut
 rw [Lib.index_one, zf9 c l h, if_neg (by omega)]
theorem zaz (a b:ByteArray):(a ++ b).data.toList = a.data.toList ++ b.data.toList:=by
 rw [ByteArray.data_append, Array.toList_append]
theorem zb0 {a b:ByteArray} (h:a.data.toList = b.data.toList):a = b:=by
 obtain ⟨⟨x⟩⟩:=a; obtain ⟨⟨y⟩⟩:=b; simp at h; subst h; rfl
theorem ba_of (a:ByteArray):(⟨a.data.toList.toArray⟩:ByteArray) = a:=by obtain ⟨⟨l⟩⟩:=a; rfl
theorem zj4 {a b:ByteArray} {c:UInt8} (h:noB a c):zdm (a ++ ⟨#[c]⟩ ++ b) c = (a, b, true):=by
 have e:(a ++ ⟨#[c]⟩ ++ b).data.toList = a.data.toList ++ c :: b.data.toList:=by rw [zaz, zaz]; simp
 unfold zdm
 rw [e, z4e h]
theorem zsd {a:ByteArray} {c:UInt8} (h:noB a c):zdm a c = (a, ⟨#[]⟩, false):=by
 unfold zdm
 rw [z6p h]
theorem zr9 {a:ByteArray} {c:UInt8} (h:noB a c):zq9 a c = false:=by
 unfold zq9
 rw [zf9 c _ h]; rfl
theorem z4f {a:ByteArray} {c:UInt8} (h:noB a c):z2k a c = 0:=by
 unfold z2k Lib.countByte
 exact List.count_eq_zero_of_not_mem h
theorem z61 {a b:ByteArray} (h:zc3 [a, b] = 0):chk a = 0 ∧ chk b = 0:=by
 simp only [zc3] at h
 rcases zbl a with h1 | h1 <;> rcases zbl b with h2 | h2 <;> simp [h1, h2] at h ⊢
theorem zvp {a b c:ByteArray} (h:zc3 [a, b, c] = 0):chk a = 0 ∧ chk b = 0 ∧ chk c = 0:=by
 simp only [zc3] at h
 rcases zbl a with h1 | h1 <;> rcases zbl b with h2 | h2 <;> rcases zbl c with h3 | h3 <;> simp [h1, h2, h3] at h ⊢
theorem zih {a b c:ByteArray} (h:zgw a b c = 0):chk a = 0 ∧ chk b = 0 ∧ (c = ⟨#[]⟩ ∨ chk c = 0):=by
 unfold zgw at h
 split at h
 ·rename_i hc; exact ⟨(z61 h).1, (z61 h).2, .inl hc⟩
 ·exact ⟨(zvp h).1, (zvp h).2.1, .inr (zvp h).2.2⟩
theorem subjT_size (a b c:ByteArray):(zni a b c).size ≤ a.size + b.size + c.size + 2:=by
 unfold zni; split
 ·rw [zf7]; omega
 ·rw [zis]; omega
end Go.V
set_option maxRecDepth 20000
namespace Go.V
open Go.Proofs Go.RowKit
theorem _root_.Go.V.ZcI {A B:Prop} (h:B) (t:Wr B → A:=by intro h; refine zd (qc L rfl rfl rfl rfl rfl rfl rfl rfl) rfl ?_;exact h.h):A:=t ⟨h⟩
theorem _root_.Go.V.ZdX {A B:Prop} (h:B) (t:Wr B → A:=by intro h; refine z7 (zp7 rfl rfl rfl rfl (zad (by omega) (by omega))) rfl ?_;exact h.h):A:=t ⟨h⟩
theorem _root_.Go.V.Zcq {A B:Prop} (h:B) (t:Wr B → A:=by intro h; refine qh (id:=8) [] mixed (by kernel_rfl) ?_;exact h.h):A:=t ⟨h⟩
theorem _root_.Go.V.Zd7 {A B:Prop} (h:B) (t:Wr B → A:=by intro h; refine qh (id:=7) [] mixed (by kernel_rfl) ?_;exact h.h):A:=t ⟨h⟩
theorem _root_.Go.V.Zfi {A B:Prop} (h:B) (t:Wr B → A:=by intro h; refine zd (q8 L (vs:=[_, _]) (qg rfl) rfl rfl rfl rfl ⟨_, rfl⟩) rfl ?_;exact h.h):A:=t ⟨h⟩
theorem _root_.Go.V.Zfj {A B:Prop} (h:B) (t:Wr B → A:=by intro h; refine zd (y8 (cs:=[_, _]) rfl rfl z8x rfl rfl) rfl ?_;exact h.h):A:=t ⟨h⟩
theorem _root_.Go.V.ZeS {A B:Prop} (h:B) (t:Wr B → A:=by intro h; refine qh (id:=5) [] mixed (by kernel_rfl) ?_;exact h.h):A:=t ⟨h⟩
theorem _root_.Go.V.Zas {A B:Prop} (h:B) (t:Wr B → A:=by intro h; refine ZcI ?_;refine Zbu ?_;exact h.h):A:=t ⟨h⟩
theorem _root_.Go.V.Zba {A B:Prop} (h:B) (t:Wr B → A:=by intro h; refine Zh ?_;refine Zs ?_;exact h.h):A:=t ⟨h⟩
theorem _root_.Go.V.Ze6 {A B:Prop} (h:B) (t:Wr B → A:=by intro h; refine ZaY ?_;refine Zg ?_;exact h.h):A:=t ⟨h⟩
theorem _root_.Go.V.Zf6 {A B:Prop} (h:B) (t:Wr B → A:=by intro h; refine Z7 ?_;refine zd (yg rfl rfl rfl rfl (by assumption)) rfl ?_;exact h.h):A:=t ⟨h⟩
def fi (c:UInt8):List UInt8 → Nat
 | [] => 0
 | x :: l => if x = c then 0 else fi c l + 1
theorem z6m {c:UInt8}:∀ {l:List UInt8}, c ∉ l → fi c l = l.length
 | [], _ => rfl
 | x :: l, h => by
  rw [fi, if_neg fun e => h (by rw [e]; exact List.mem_cons_self ..), z6m fun e => h (List.mem_cons_of_mem _ e), List.length_cons]
theorem ztx {c:UInt8} {q:List UInt8}:∀ {p:List UInt8}, c ∉ p → fi c (p ++ q) = p.length + fi c q
 | [], _ => by simp
 | x :: p, h => by
  rw [List.cons_append, fi, if_neg fun e => h (by rw [e]; exact List.mem_cons_self ..), ztx fun e => h (List.mem_cons_of_mem _ e), List.length_cons]; omega
theorem z6n {c:UInt8} {q:List UInt8}:∀ {p:List UInt8}, c ∈ p → fi c (p ++ q) < p.length
 | x :: p, h => by
  rw [List.cons_append, fi]
  split
  ·simp
  ·rename_i hx
   have:=z6n (q:=q) ((List.mem_cons.1 h).resolve_left fun e => hx e.symm)
   simp only [List.length_cons]; omega
theorem zii (s:ByteArray) (c:UInt8):noB s c ∨ ∃ a b, s = a ++ ⟨#[c]⟩ ++ b ∧ noB a c:=by
 by_cases h:c ∈ s.data.toList
 ·obtain ⟨p, q, e, hp⟩:=List.eq_append_cons_of_mem h
  refine .inr ⟨⟨p.toArray⟩, ⟨q.toArray⟩, zb0 ?_, by unfold noB; simpa using hp⟩
  rw [zaz, zaz, e]
  simp
 ·exact .inl h
theorem zfn (p q r:ByteArray) (i j:Nat) (hi:i = p.size) (hj:j = p.size + q.size):(p ++ q ++ r).extract i j = q:=by
 subst hi hj
 apply zb0
 rw [ByteArray.data_extract, Array.toList_extract, List.extract, zaz, zaz]
 have h1:p.data.toList.length = p.size:=za6 p
 have h2:q.data.toList.length = q.size:=za6 q
 rw [List.append_assoc, ← h1, List.drop_left, List.take_left' (by omega)]
theorem zof {a:ByteArray} {c:UInt8} (h:¬ noB a c):zq9 a c = true:=by
 rcases zii a c with h1 | ⟨p, q, rfl, hp⟩
 ·exact absurd h1 h
 ·unfold zq9
  have e:(p ++ ⟨#[c]⟩ ++ q).data.toList = p.data.toList ++ c :: q.data.toList:=by rw [zaz, zaz]; simp
  rw [e, zfm _ _ _ hp]
  simp
def rp1 (s:ByteArray):ByteArray × ByteArray × ByteArray × Bool × Int :=
 match zci s with
 | none => (zd2, zd2, zd2, false, 5)
 | some (x, y, z, d) => (x, y, z, d, if d = true then zc3 [x, y, z] else zc3 [x, y])
theorem zjv (a b:ByteArray) (c:UInt8):(a ++ ⟨#[c]⟩ ++ b).data.toList = a.data.toList ++ c :: b.data.toList:=by rw [zaz, zaz]; simp
theorem zn7 (a b:ByteArray) (c:UInt8):(a ++ ⟨#[c]⟩ ++ b).size = a.size + 1 + b.size:=by rw [ByteArray.size_append, ByteArray.size_append]; rfl
theorem zqw {s:ByteArray} {c:UInt8} (h:¬ noB s c):0 < s.data.toList.count c:=List.count_pos_iff.2 (Classical.not_not.1 h)
attribute [local irreducible] V N X VO Par StepOK Has Ret RetL Src
set_option maxHeartbeats 1000000 in
theorem zct {s:ByteArray} {c:UInt8} {a n:Nat} (ha:fi c s.data.toList = a) (hn:s.data.toList.count c = n) (hs:s.size ≤ 1000000) {w:World} {B:Heap} (hB:B.Le (hp w)) :
  Ret Tryz.prog 173 [.string s, .int .u8 c.toNat] w B (fun v _ => v = .tuple #[.int .i64 a, .int .i64 n]):=by
 subst ha hn
 have hlen:=za6 s
 refine qu Tryz.func173 rfl Tryz.ntmps173 (Nat.le_of_ble_eq_true rfl) hB ?_
 refine Zar ?_;refine Zbj ?_;refine ZH ?_;refine Zq ?_;refine Zem ?_;refine ZH ?_;refine ZdX ?_;refine ZW ?_
 refine zao (fun x:Nat × Nat × Nat × Int => [(0, .is (.string s)), (1, .is (.int .u8 c.toNat)), (6, .is (.int .i64 x.2.1)), (7, .is (.int .i64 x.2.2.1)), (8, .is (.int .i64 x.2.2.2))])
  (fun x => x.1 ≤ s.size ∧ x.2.1 = x.1 + fi c (s.data.toList.drop x.1) ∧ x.2.2.1 = (s.data.toList.drop x.1).count c ∧ x.2.2.2 = (x.1:Int) - 1 ∧ x.2.2.1 ≤ s.size - x.1) (fun x => x.1) (s.size, s.size, 0, (s.size:Int) - 1)
  ⟨Nat.le_refl _, by rw [List.drop_eq_nil_of_le (by omega)]; rfl, by rw [List.drop_eq_nil_of_le (by omega)]; rfl, rfl, Nat.zero_le _⟩ ⟨rfl, rfl, rfl, rfl, rfl, trivial⟩ ?_
 rintro ⟨i, a, n, z⟩ ⟨hi, ha, hn, hz, hb⟩
 dsimp only at hi ha hn hz hb ⊢
 cases i with
 | zero =>
  rw [List.drop_zero] at ha hn
  have hz0:z < 0:=by omega
  obtain rfl:a = fi c s.data.toList:=by omega
  subst hn
  refine Zba ?_;refine Zaz ?_;refine ZaS ?_;refine Z0 ?_;refine Zc ?_;refine Z5 ?_
  refine qt L (rs:=[.tmp 4, .tmp 5]) rfl (fun _ _ h => h) Since.refl fun u H hH hle => ?_
  rfl
 | succ k =>
  obtain rfl:z = (k:Int):=by omega
  obtain ⟨x, hc⟩:=getElem?_lt (show k < s.size by omega)
  have hd:s.data.toList[k]? = some x:=by
   have:s.data[k]? = some x:=hc
   simpa using this
  have hdr:s.data.toList.drop k = x :: s.data.toList.drop (k + 1):=by
   have h1:k < s.data.toList.length:=by omega
   rw [List.drop_eq_getElem_cons h1]
   rw [List.getElem?_eq_getElem h1] at hd
   rw [Option.some.inj hd]
  by_cases hx:x = c
  ·subst hx
   refine Zba ?_;refine ZcE ?_;refine Zfc ?_;refine Zn ?_;refine Zaw ?_;refine Za ?_;refine ZJ ?_;refine Zt ?_;refine ZL ?_;refine Zb ?_;refine ZU ?_;refine Zb5 ?_;refine Zai ?_;refine Zw ?_;refine ZdX ?_;refine ZI ?_
   exact yl (x:=(k + 1, a, n, (k:Int))) (k, k, n + 1, (k:Int) - 1) ⟨by dsimp only; omega, by dsimp only; rw [hdr, fi, if_pos rfl]; rfl, by dsimp only; rw [hdr, List.count_cons_self, hn], rfl, by dsimp only; omega⟩ (by dsimp only; omega) ⟨rfl, rfl, rfl, rfl, rfl, trivial⟩
  ·have hxc:(x.toNat:Int) ≠ (c.toNat:Int):=fun e => hx (UInt8.toNat_inj.1 (by omega))
   refine Zba ?_;refine ZcE ?_;refine Zfc ?_;refine Zn ?_;refine Zaw ?_;refine Za ?_;refine ZR ?_;refine Za3 ?_;refine Zw ?_;refine ZdX ?_;refine ZI ?_
   exact yl (x:=(k + 1, a, n, (k:Int))) (k, a, n, (k:Int) - 1) ⟨by dsimp only; omega, by dsimp only; rw [hdr, fi, if_neg hx, ha]; omega, by dsimp only; rw [hdr, List.count_cons_of_ne hx, hn], rfl, by dsimp only; omega⟩ (by dsimp only; omega) ⟨rfl, rfl, rfl, rfl, rfl, trivial⟩
set_option maxHeartbeats 2000000 in
theorem zro {s:ByteArray} {r:ByteArray × ByteArray × ByteArray × Bool × Int} (hr:rp1 s = r) (hs:s.size ≤ 1000000) {w:World} {B:Heap} (hB:B.Le (hp w)) :
  Ret Tryz.prog 106 [.string s] w B (fun v _ => v = .tuple #[.agg #[.string r.1, .string r.2.1], .string r.2.2.1, .bool r.2.2.2.1, .int .i64 r.2.2.2.2]):=by
 subst hr
 have bad:zci s = none → ∀ {m k m2 k2:Nat}, fi 58 s.data.toList = m → s.data.toList.count 58 = k → fi 35 s.data.toList = m2 → s.data.toList.count 35 = k2 → (k ≠ 1 ∨ 1 < k2 ∨ m2 < m) →
   Ret Tryz.prog 106 [.string s] w B (fun v _ => v = .tuple #[.agg #[.string (rp1 s).1, .string (rp1 s).2.1], .string (rp1 s).2.2.1, .bool (rp1 s).2.2.2.1, .int .i64 (rp1 s).2.2.2.2]):=by
  intro hp m k m2 k2 e1 e2 e3 e4 hor
  have hr1:rp1 s = (zd2, zd2, zd2, false, 5):=by unfold rp1; rw [hp]
  rw [hr1]
  refine qu Tryz.func106 rfl Tryz.ntmps106 (Nat.le_of_ble_eq_true rfl) hB ?_
  by_cases c1:k = 1
  ·by_cases c2:1 < k2
   ·refine ZaC ?_;refine ZaZ ?_;refine Zbj ?_;refine z7 (q0 L rfl rfl (zn rfl) rfl rfl rfl (fun u H hH _ _ => zct (c:=58) e1 e2 hs hH)) rfl ?_;refine ZaY ?_;refine ZT ?_;refine z7 (q0 L rfl rfl (zn rfl) rfl rfl rfl (fun u H hH _ _ => zct (c:=35) e3 e4 hs hH)) rfl ?_;refine Ze6 ?_;refine Zs ?_;refine Zae ?_;refine Zc ?_;refine Z2 ?_;refine Ze ?_;refine Zap ?_;refine Zt ?_;refine Zr ?_;refine Zeo ?_;refine ZaB ?_;refine ZcG ?_
    refine qt L (rs:=[.cell 2 29, .tmp 3, .tmp 4, .tmp 5]) rfl (fun _ _ h => h) Since.refl fun u H hH hle => ?_
    exact ⟨_, qg rfl, rfl, rfl⟩
   ·have c3:m2 < m:=by omega
    refine ZaC ?_;refine ZaZ ?_;refine Zbj ?_;refine z7 (q0 L rfl rfl (zn rfl) rfl rfl rfl (fun u H hH _ _ => zct (c:=58) e1 e2 hs hH)) rfl ?_;refine ZaY ?_;refine ZT ?_;refine z7 (q0 L rfl rfl (zn rfl) rfl rfl rfl (fun u H hH _ _ => zct (c:=35) e3 e4 hs hH)) rfl ?_;refine Ze6 ?_;refine Zs ?_;refine Zae ?_;refine Zc ?_;refine ZS ?_;refine Ze ?_;refine ZF ?_;refine ZB ?_;refine ZaM ?_;refine Zr ?_;refine Zeo ?_;refine ZaB ?_;refine ZcG ?_
    refine qt L (rs:=[.cell 2 29, .tmp 3, .tmp 4, .tmp 5]) rfl (fun _ _ h => h) Since.refl fun u H hH hle => ?_
    exact ⟨_, qg rfl, rfl, rfl⟩
  ·refine ZaC ?_;refine ZaZ ?_;refine Zbj ?_;refine z7 (q0 L rfl rfl (zn rfl) rfl rfl rfl (fun u H hH _ _ => zct (c:=58) e1 e2 hs hH)) rfl ?_;refine ZaY ?_;refine ZT ?_;refine z7 (q0 L rfl rfl (zn rfl) rfl rfl rfl (fun u H hH _ _ => zct (c:=35) e3 e4 hs hH)) rfl ?_;refine Ze6 ?_;refine Zs ?_;refine Zbe ?_;refine ZaJ ?_;refine Ze ?_;refine Zap ?_;refine Zt ?_;refine Zr ?_;refine Zeo ?_;refine ZaB ?_;refine ZcG ?_
   refine qt L (rs:=[.cell 2 29, .tmp 3, .tmp 4, .tmp 5]) rfl (fun _ _ h => h) Since.refl fun u H hH hle => ?_
   exact ⟨_, qg rfl, rfl, rfl⟩
 rcases zii s 58 with h58 | ⟨a, b, rfl, ha⟩
 ·refine bad ?_ rfl rfl rfl rfl (.inl ?_)
  ·unfold zci; rw [zsd h58]; simp
  ·rw [List.count_eq_zero_of_not_mem h58]; decide
 ·have hcut:zdm (a ++ ⟨#[58]⟩ ++ b) 58 = (a, b, true):=zj4 ha
  have hls:=zjv a b 58
  have hsz:=zn7 a b 58
  by_cases hb:noB b 58
  ·have hf1:fi 58 (a ++ ⟨#[58]⟩ ++ b).data.toList = a.size:=by rw [hls, ztx ha, za6]; simp [fi]
   have hc1:(a ++ ⟨#[58]⟩ ++ b).data.toList.count 58 = 1:=by rw [hls, List.count_append, List.count_cons_self, List.count_eq_zero_of_not_mem ha, List.count_eq_zero_of_not_mem hb]
   by_cases ha3:noB a 35
   ·have hf2:fi 35 (a ++ ⟨#[58]⟩ ++ b).data.toList = a.size + 1 + fi 35 b.data.toList:=by rw [hls, ztx ha3, za6, fi, if_neg (by decide)]; omega
    have hc2:(a ++ ⟨#[58]⟩ ++ b).data.toList.count 35 = b.data.toList.count 35:=by rw [hls, List.count_append, List.count_eq_zero_of_not_mem ha3, List.count_cons_of_ne (by decide)]; omega
    have hn1:=zr9 ha3
    have hn2:=zr9 hb
    have za:a.size ≤ 1099511627776:=by omega
    have zb:b.size ≤ 1099511627776:=by omega
    have hadd1:IntKind.i64.wrap ((a.size:Int) + 1) = ((a.size + 1:Nat):Int):=zad (by omega) (by omega) |>.trans (by omega)
    have x1:(a ++ ⟨#[58]⟩ ++ b).extract 0 a.size = a:=by
     have:=zfn ⟨#[]⟩ a (⟨#[58]⟩ ++ b) 0 a.size rfl (by show _ = 0 + _; omega)
     conv => rhs; rw [← this]
     congr 1; apply zb0; simp [zaz]
    rcases zii b 35 with hb3 | ⟨c, e, rfl, hc3⟩
    ·have hp:zci (a ++ ⟨#[58]⟩ ++ b) = some (a, b, zd2, false):=by
      unfold zci; rw [hcut]
      simp only [hn1, hn2, z4f hb3, zsd hb3]
      simp
     have hr1:rp1 (a ++ ⟨#[58]⟩ ++ b) = (a, b, zd2, false, zc3 [a, b]):=by unfold rp1; rw [hp]; rfl
     rw [hr1]
     have hf3:fi 35 (a ++ ⟨#[58]⟩ ++ b).data.toList = a.size + 1 + b.size:=by rw [hf2, z6m hb3, za6]
     have hc3:(a ++ ⟨#[58]⟩ ++ b).data.toList.count 35 = 0:=by rw [hc2, List.count_eq_zero_of_not_mem hb3]
     have x2:(a ++ ⟨#[58]⟩ ++ b).extract (a.size + 1) (a.size + 1 + b.size) = b:=by
      have:=zfn (a ++ ⟨#[58]⟩) b ⟨#[]⟩ (a.size + 1) (a.size + 1 + b.size) (by rw [ByteArray.size_append]; rfl) (by rw [ByteArray.size_append]; rfl)
      conv => rhs; rw [← this]
      congr 1; apply zb0; simp [zaz]
     generalize a ++ ⟨#[58]⟩ ++ b = s at *
     refine qu Tryz.func106 rfl Tryz.ntmps106 (Nat.le_of_ble_eq_true rfl) hB ?_
     refine ZaC ?_;refine ZaZ ?_;refine Zbj ?_;refine z7 (q0 L rfl rfl (zn rfl) rfl rfl rfl (fun u H hH _ _ => zct (c:=58) hf1 hc1 hs hH)) rfl ?_;refine ZaY ?_;refine ZT ?_;refine z7 (q0 L rfl rfl (zn rfl) rfl rfl rfl (fun u H hH _ _ => zct (c:=35) hf3 hc3 hs hH)) rfl ?_;refine Ze6 ?_;refine Zs ?_;refine Zae ?_;refine Zc ?_;refine ZS ?_;refine Ze ?_;refine ZF ?_;refine Zo ?_;refine ZY ?_;refine ZeS ?_;refine Z7 ?_;refine zd (za2 L (kl:=.i64) (pl:=0) 0 a.size rfl rfl rfl rfl rfl ⟨rfl, rfl⟩ (by omega) (by omega) x1) rfl ?_;refine Zf6 ?_;refine Zi ?_;refine zd (za2 L (a.size + 1) (a.size + 1 + b.size) rfl rfl rfl rfl ⟨rfl, rfl⟩ ⟨rfl, rfl⟩ (by omega) (by omega) x2) rfl ?_;refine Zfj ?_;refine zd (qd L rfl rfl rfl rfl) rfl ?_;refine Zas ?_;refine Zh ?_;refine ZL ?_;refine ZJ ?_;refine Zt ?_;refine Zd7 ?_;refine Zfi ?_;refine Zfi ?_;refine zd (q0 L rfl rfl (zn rfl) rfl rfl rfl (fun u H hH _ _ => zeb (by first | assumption | omega | decide) (by first | assumption | omega | decide) hH)) rfl ?_;refine ZcI ?_;refine Za5 ?_;refine ZbB ?_
     refine qt L (rs:=[.cell 2 29, .tmp 3, .tmp 4, .tmp 5]) rfl (fun _ _ h => h) Since.refl fun u H hH hle => ?_
     exact ⟨_, qg rfl, rfl, rfl⟩
    ·have hls2:=zjv c e 35
     have hsz2:=zn7 c e 35
     by_cases he3:noB e 35
     ·have hcn:(c ++ ⟨#[35]⟩ ++ e).data.toList.count 35 = 1:=by rw [hls2, List.count_append, List.count_cons_self, List.count_eq_zero_of_not_mem hc3, List.count_eq_zero_of_not_mem he3]
      have hp:zci (a ++ ⟨#[58]⟩ ++ (c ++ ⟨#[35]⟩ ++ e)) = some (a, c, e, true):=by
       unfold zci; rw [hcut]
       have h4:z2k (c ++ ⟨#[35]⟩ ++ e) 35 = 1:=hcn
       simp only [hn1, hn2, h4, zj4 hc3]
       simp
      have hr1:rp1 (a ++ ⟨#[58]⟩ ++ (c ++ ⟨#[35]⟩ ++ e)) = (a, c, e, true, zc3 [a, c, e]):=by unfold rp1; rw [hp]; rfl
      rw [hr1]
      have hf3:fi 35 (a ++ ⟨#[58]⟩ ++ (c ++ ⟨#[35]⟩ ++ e)).data.toList = a.size + 1 + c.size:=by rw [hf2, hls2, ztx hc3, za6]; simp [fi]
      have hc4:(a ++ ⟨#[58]⟩ ++ (c ++ ⟨#[35]⟩ ++ e)).data.toList.count 35 = 1:=by rw [hc2, hcn]
      have x2:(a ++ ⟨#[58]⟩ ++ (c ++ ⟨#[35]⟩ ++ e)).extract (a.size + 1) (a.size + 1 + c.size) = c:=by
       have:=zfn (a ++ ⟨#[58]⟩) c (⟨#[35]⟩ ++ e) (a.size + 1) (a.size + 1 + c.size) (by rw [ByteArray.size_append]; rfl) (by rw [ByteArray.size_append]; rfl)
       conv => rhs; rw [← this]
       congr 1; apply zb0; simp [zaz]
      have x3:(a ++ ⟨#[58]⟩ ++ (c ++ ⟨#[35]⟩ ++ e)).extract (a.size + 1 + c.size + 1) (a ++ ⟨#[58]⟩ ++ (c ++ ⟨#[35]⟩ ++ e)).size = e:=by
       have:=zfn (a ++ ⟨#[58]⟩ ++ c ++ ⟨#[35]⟩) e ⟨#[]⟩ (a.size + 1 + c.size + 1) (a ++ ⟨#[58]⟩ ++ (c ++ ⟨#[35]⟩ ++ e)).size (by simp only [ByteArray.size_append]; rfl) (by simp only [ByteArray.size_append]; rw [show (⟨#[58]⟩:ByteArray).size = 1 from rfl, show (⟨#[35]⟩:ByteArray).size = 1 from rfl]; omega)
       conv => rhs; rw [← this]
       congr 1; apply zb0; simp [zaz]
      have hsz3:(a ++ ⟨#[58]⟩ ++ (c ++ ⟨#[35]⟩ ++ e)).size = a.size + 1 + (c.size + 1 + e.size):=by rw [hsz, hsz2]
      have zc:c.size ≤ 1099511627776:=by omega
      have ze:e.size ≤ 1099511627776:=by omega
      have hadd2:IntKind.i64.wrap (((a.size + 1 + c.size:Nat):Int) + 1) = ((a.size + 1 + c.size + 1:Nat):Int):=zad (by omega) (by omega) |>.trans (by omega)
      have hmx:=z79 a c e
      generalize a ++ ⟨#[58]⟩ ++ (c ++ ⟨#[35]⟩ ++ e) = s at *
      refine qu Tryz.func106 rfl Tryz.ntmps106 (Nat.le_of_ble_eq_true rfl) hB ?_
      refine ZaC ?_;refine ZaZ ?_;refine Zbj ?_;refine z7 (q0 L rfl rfl (zn rfl) rfl rfl rfl (fun u H hH _ _ => zct (c:=58) hf1 hc1 hs hH)) rfl ?_;refine ZaY ?_;refine ZT ?_;refine z7 (q0 L rfl rfl (zn rfl) rfl rfl rfl (fun u H hH _ _ => zct (c:=35) hf3 hc4 hs hH)) rfl ?_;refine Ze6 ?_;refine Zs ?_;refine Zae ?_;refine Zc ?_;refine ZS ?_;refine Ze ?_;refine ZF ?_;refine Zo ?_;refine ZY ?_;refine ZeS ?_;refine Z7 ?_;refine zd (za2 L (kl:=.i64) (pl:=0) 0 a.size rfl rfl rfl rfl rfl ⟨rfl, rfl⟩ (by omega) (by omega) x1) rfl ?_;refine Zf6 ?_;refine Zi ?_;refine zd (za2 L (a.size + 1) (a.size + 1 + c.size) rfl rfl rfl rfl ⟨rfl, rfl⟩ ⟨rfl, rfl⟩ (by omega) (by omega) x2) rfl ?_;refine Zfj ?_;refine zd (qd L rfl rfl rfl rfl) rfl ?_;refine Zas ?_;refine Zh ?_;refine ZL ?_;refine ZbW ?_;refine Zcq ?_;refine Zfi ?_;refine Zf6 ?_;refine zd (za2 L (kh:=.i64) (ph:=0) (a.size + 1 + c.size + 1) _ rfl rfl rfl rfl ⟨rfl, rfl⟩ rfl (by omega) (by omega) x3) rfl ?_;refine Zfi ?_;refine zd (q0 L rfl rfl (zn rfl) rfl rfl rfl (fun u H hH _ _ => zeb (by first | assumption | omega | decide) (by first | assumption | omega | decide) hH)) rfl ?_;refine Zf6 ?_;refine zd (za2 L (kh:=.i64) (ph:=0) (a.size + 1 + c.size + 1) _ rfl rfl rfl rfl ⟨rfl, rfl⟩ rfl (by omega) (by omega) x3) rfl ?_;refine zd (q0 L rfl rfl (zn rfl) rfl rfl rfl (fun u H hH _ _ => ze5 (by first | omega | decide) hH)) rfl ?_;refine zd (zf4 rfl rfl rfl rfl (by assumption)) rfl ?_;refine ZcI ?_;refine Za5 ?_;refine ZbB ?_
      refine qt L (rs:=[.cell 2 29, .tmp 3, .tmp 4, .tmp 5]) rfl (fun _ _ h => h) Since.refl fun u H hH hle => ?_
      exact ⟨_, qg rfl, rfl, rfl⟩
     ·have hcn:1 < (c ++ ⟨#[35]⟩ ++ e).data.toList.count 35:=by have:=zqw he3; rw [hls2, List.count_append, List.count_cons_self]; omega
      refine bad ?_ rfl rfl rfl rfl (.inr (.inl (by rw [hc2]; exact hcn)))
      unfold zci; rw [hcut]
      have h4:¬ z2k (c ++ ⟨#[35]⟩ ++ e) 35 ≤ 1:=by unfold z2k Lib.countByte; omega
      simp only [h4, and_false, if_false]
   ·refine bad ?_ rfl rfl rfl rfl (.inr (.inr ?_))
    ·unfold zci; rw [hcut]
     simp only [zof ha3]
     simp
    ·rw [hf1, hls, ← za6]
     exact z6n (Classical.not_not.1 ha3)
  ·refine bad ?_ rfl rfl rfl rfl (.inl ?_)
   ·unfold zci; rw [hcut]
    simp only [zof hb]
    simp
   ·have:=zqw hb
    rw [hls, List.count_append, List.count_cons_self]; omega
theorem zbx {s x y z:ByteArray} {d:Bool} {e:Int} (hr:rp1 s = (x, y, z, d, e)) (hs:s.size ≤ 1000000) {w:World} {B:Heap} (hB:B.Le (hp w)) :
  Ret Tryz.prog 106 [.string s] w B (fun v _ => v = .tuple #[.agg #[.string x, .string y], .string z, .bool d, .int .i64 e]):=zro hr hs hB
end Go.V
set_option maxRecDepth 20000
namespace Go.V.L2
open Go.Proofs Go.RowKit Go.V
theorem _root_.Go.V.ZdY {A B:Prop} (h:B) (t:Wr B → A:=by intro h; refine z8 (id:=18) ?_;exact h.h):A:=t ⟨h⟩
theorem _root_.Go.V.Za1 {A B:Prop} (h:B) (t:Wr B → A:=by intro h; refine z8 (id:=17) ?_;exact h.h):A:=t ⟨h⟩
theorem _root_.Go.V.ZbX {A B:Prop} (h:B) (t:Wr B → A:=by intro h; refine Zbx ?_;refine Za ?_;exact h.h):A:=t ⟨h⟩
theorem _root_.Go.V.Zdj {A B:Prop} (h:B) (t:Wr B → A:=by intro h; refine ZM ?_;refine Za ?_;exact h.h):A:=t ⟨h⟩
theorem z3o (a:ByteArray):pgA a = if (rp1 a).2.2.2.1 = false then (zd2, zd2, zd2, 5) else if (rp1 a).2.2.2.2 = 0 then ((rp1 a).1, (rp1 a).2.1, (rp1 a).2.2.1, 0) else (zd2, zd2, zd2, (rp1 a).2.2.2.2):=by
 unfold pgA rp1
 rcases zci a with _ | ⟨x, y, z, d⟩
 ·rfl
 ·cases d
  ·rfl
  ·simp only [if_true]
theorem z5p (a:ByteArray):psA a = if (rp1 a).2.2.2.2 = 0 then ((rp1 a).1, (rp1 a).2.1, (rp1 a).2.2.1, 0) else (zd2, zd2, zd2, (rp1 a).2.2.2.2):=by
 unfold psA rp1
 rcases zci a with _ | ⟨x, y, z, d⟩
 ·rfl
 ·dsimp only
  cases d
  ·simp
  ·simp only [if_true, zc3]
   rcases zbl x with h1 | h1 <;> rcases zbl y with h2 | h2 <;> rcases zbl z with h3 | h3 <;> simp [h1, h2, h3]
theorem z8i {l a b:List UInt8} {c:UInt8} {k:Nat} (e:l = a ++ c :: b) (ha:c ∉ a) (hb:c ∉ b) (hk:l[k]? = some c):k = a.length:=by
 subst e
 rcases Nat.lt_trichotomy k a.length with h | h | h
 ·rw [List.getElem?_append_left h] at hk
  exact absurd (List.mem_of_getElem? hk) ha
 ·exact h
 ·rw [List.getElem?_append_right (by omega), show k - a.length = (k - a.length - 1) + 1 by omega, List.getElem?_cons_succ] at hk
  exact absurd (List.mem_of_getElem? hk) hb
attribute [local irreducible] V N X VO Par StepOK Has Ret RetL Src
set_option maxHeartbeats 4000000 in
theorem zkv {s:ByteArray} {r:U × Int} (hr:ptA s = r) (hs:s.size ≤ 1000000) {w:World} {B:Heap} (hB:B.Le (hp w)) :
  Ret Tryz.prog 39 [.string s] w B (fun v _ => v = .tuple #[uv r.1, .int .i64 r.2]):=by
 subst hr
 have hlen:=za6 s
 refine qu Tryz.func39 rfl Tryz.ntmps39 (Nat.le_of_ble_eq_true rfl) hB ?_
 refine ZaC ?_;refine Zay ?_;refine Zq ?_;refine Zb4 ?_;refine ZW ?_
 refine zao (fun x:Nat × Nat × Nat => [(0, .is (.string s)), (2, .own (Cell [.string ⟨#[]⟩, .string ⟨#[]⟩, .string ⟨#[]⟩, .string ⟨#[]⟩, .string ⟨#[]⟩, .string ⟨#[]⟩] tyU)), (4, .is (.int .i64 x.2.1)), (5, .is (.int .i64 x.2.2)), (6, .is (.int .i64 x.1))])
  (fun x => x.1 ≤ s.size ∧ x.2.2 = (s.data.toList.take x.1).count 64 ∧ x.2.2 ≤ x.1 ∧ (x.2.2 = 1 → x.2.1 < s.size ∧ s.data.toList[x.2.1]? = some 64)) (fun x => s.size - x.1) (0, 0, 0)
  ⟨Nat.zero_le _, by simp, Nat.le_refl _, fun h => by cases h⟩ ⟨rfl, rfl, rfl, rfl, rfl, trivial⟩ ?_
 rintro ⟨i, k, n⟩ ⟨hi, hn, hni, hk⟩
 dsimp only at hi hn hni hk ⊢
 by_cases hlt:i < s.size
 ·obtain ⟨x, hc⟩:=getElem?_lt hlt
  have hd:s.data.toList[i]? = some x:=by
   have:s.data[i]? = some x:=hc
   simpa using this
  have htk:s.data.toList.take (i + 1) = s.data.toList.take i ++ [x]:=by rw [List.take_add_one, hd]; rfl
  by_cases hx:x = 64
  ·subst hx
   refine Zd3 ?_;refine Zes ?_;refine Zn ?_;refine Zaw ?_;refine z7 (ye rfl rfl rfl rfl rfl) rfl ?_;refine Zt ?_;refine ZL ?_;refine Zb ?_;refine ZU ?_;refine Zb5 ?_;refine Zai ?_;refine ZbV ?_
   exact yl (x:=(i, k, n)) (i + 1, i, n + 1) ⟨hlt, by dsimp only; rw [htk, List.count_append, ← hn]; rfl, by dsimp only; omega, fun _ => ⟨hlt, hd⟩⟩ (by dsimp only; omega) ⟨rfl, rfl, rfl, rfl, rfl, trivial⟩
  ·have hxc:(x.toNat:Int) ≠ 64:=fun e => hx (UInt8.toNat_inj.1 (by show x.toNat = 64; omega))
   refine Zd3 ?_;refine Zes ?_;refine Zn ?_;refine Zaw ?_;refine ZR ?_;refine Za3 ?_;refine ZbV ?_
   exact yl (x:=(i, k, n)) (i + 1, k, n) ⟨hlt, by dsimp only; rw [htk, List.count_append, ← hn, List.count_cons_of_ne hx]; rfl, by dsimp only; omega, hk⟩ (by dsimp only; omega) ⟨rfl, rfl, rfl, rfl, rfl, trivial⟩
 ·obtain rfl:i = s.size:=by omega
  rw [List.take_of_length_le (by omega)] at hn
  by_cases h1:n = 1
  ·obtain ⟨hk1, hk2⟩:=hk h1
   rcases zii s 64 with h64 | ⟨a, b, rfl, ha⟩
   ·rw [List.count_eq_zero_of_not_mem h64] at hn; omega
   ·have hls:=zjv a b 64
    have hsz:=zn7 a b 64
    have hb:noB b 64:=fun hm => by
     have:=List.count_pos_iff.2 hm
     rw [hls, List.count_append, List.count_cons_self] at hn
     omega
    obtain rfl:k = a.size:=(z8i hls ha hb hk2).trans (za6 a)
    have hcut:zdm (a ++ ⟨#[64]⟩ ++ b) 64 = (a, b, true):=zj4 ha
    have x1:(a ++ ⟨#[64]⟩ ++ b).extract 0 a.size = a:=by
     have:=zfn ⟨#[]⟩ a (⟨#[64]⟩ ++ b) 0 a.size rfl (by show _ = 0 + _; omega)
     conv => rhs; rw [← this]
     congr 1; apply zb0; simp [zaz]
    have x2:(a ++ ⟨#[64]⟩ ++ b).extract (a.size + 1) (a ++ ⟨#[64]⟩ ++ b).size = b:=by
     have:=zfn (a ++ ⟨#[64]⟩) b ⟨#[]⟩ (a.size + 1) (a ++ ⟨#[64]⟩ ++ b).size (by rw [ByteArray.size_append]; rfl) (by rw [ByteArray.size_append])
     conv => rhs; rw [← this]
     congr 1; apply zb0; simp [zaz]
    have za:a.size ≤ 1000000:=by omega
    have zb:b.size ≤ 1000000:=by omega
    have hadd:IntKind.i64.wrap ((a.size:Int) + 1) = ((a.size + 1:Nat):Int):=zad (by omega) (by omega) |>.trans (by omega)
    have hpt:ptA (a ++ ⟨#[64]⟩ ++ b) = if (pgA a).2.2.2 = 0 then (if (psA b).2.2.2 = 0 then (((((pgA a).1, (pgA a).2.1), (pgA a).2.2.1), (((psA b).1, (psA b).2.1), (psA b).2.2.1)), 0) else ((((⟨#[]⟩, ⟨#[]⟩), ⟨#[]⟩), ((⟨#[]⟩, ⟨#[]⟩), ⟨#[]⟩)), (psA b).2.2.2)) else ((((⟨#[]⟩, ⟨#[]⟩), ⟨#[]⟩), ((⟨#[]⟩, ⟨#[]⟩), ⟨#[]⟩)), (pgA a).2.2.2):=by
     unfold ptA
     rw [hcut]
     dsimp only
     rw [if_pos ⟨rfl, zr9 hb⟩]
    clear hk hk2 hn hcut
    generalize a ++ ⟨#[64]⟩ ++ b = s at *
    rcases hra:rp1 a with ⟨o1, o2, rel, has, e⟩
    rcases hrb:rp1 b with ⟨p1, p2, rel2, has2, e2⟩
    cases has
    ·have g1:pgA a = (zd2, zd2, zd2, 5):=by rw [z3o, hra]; rfl
     rw [hpt, g1, if_neg (by decide)]
     by_cases h5:e = 5
     ·skip
      refine Zd4 ?_;refine Zdw ?_;refine ZG ?_;refine ZX ?_;refine Zc ?_;refine z7 (za2 L (kl:=.i64) (pl:=0) 0 a.size rfl rfl rfl rfl rfl ⟨rfl, rfl⟩ (by omega) (by omega) x1) rfl ?_;refine z7 (q0 L rfl rfl (zn rfl) rfl rfl rfl (fun u H hH _ _ => zbx hra za hH)) rfl ?_;refine ZdV ?_;refine Zg ?_;refine Zdj ?_;refine Zae ?_;refine ZaJ ?_;refine Zc1 ?_;refine ZbX ?_;refine Zz ?_;refine ZaO ?_;refine Zcn ?_;refine ZbG ?_
      refine qt L (rs:=[.cell 2 34, .tmp 3]) rfl (fun _ _ h => h) Since.refl fun u H hH hle => ?_
      refine ⟨_, qg rfl, rfl, ?_⟩
      rw [h5]; rfl
     ·refine Zd4 ?_;refine Zdw ?_;refine ZG ?_;refine ZX ?_;refine Zc ?_;refine z7 (za2 L (kl:=.i64) (pl:=0) 0 a.size rfl rfl rfl rfl rfl ⟨rfl, rfl⟩ (by omega) (by omega) x1) rfl ?_;refine z7 (q0 L rfl rfl (zn rfl) rfl rfl rfl (fun u H hH _ _ => zbx hra za hH)) rfl ?_;refine ZdV ?_;refine Zg ?_;refine Zdj ?_;refine Zbe ?_;refine Zc ?_;refine Zp ?_;refine Za7 ?_;refine ZD ?_;refine Zg ?_;refine ZbX ?_;refine Zz ?_;refine ZaO ?_;refine Zcn ?_;refine ZbG ?_
      refine qt L (rs:=[.cell 2 34, .tmp 3]) rfl (fun _ _ h => h) Since.refl fun u H hH hle => ?_
      exact ⟨_, qg rfl, rfl, rfl⟩
    ·by_cases h0:e = 0
     ·have g1:pgA a = (o1, o2, rel, 0):=by rw [z3o, hra]; dsimp only; rw [if_neg (by decide), if_pos h0]
      by_cases h02:e2 = 0
      ·have g2:psA b = (p1, p2, rel2, 0):=by rw [z5p, hrb]; dsimp only; rw [if_pos h02]
       rw [hpt, g1, g2, if_pos rfl, if_pos rfl]
       refine Zd4 ?_;refine Zdw ?_;refine ZG ?_;refine ZX ?_;refine Zc ?_;refine z7 (za2 L (kl:=.i64) (pl:=0) 0 a.size rfl rfl rfl rfl rfl ⟨rfl, rfl⟩ (by omega) (by omega) x1) rfl ?_;refine z7 (q0 L rfl rfl (zn rfl) rfl rfl rfl (fun u H hH _ _ => zbx hra za hH)) rfl ?_;refine ZdV ?_;refine Zg ?_;refine Zdj ?_;refine Zbe ?_;refine Zc ?_;refine Zp ?_;refine Zc1 ?_;refine ZbX ?_;refine ZG ?_;refine Zcl ?_;refine Zc ?_;refine Zak ?_;refine z7 (za2 L (kh:=.i64) (ph:=0) (a.size + 1) _ rfl rfl rfl rfl ⟨rfl, rfl⟩ rfl (by omega) (by omega) x2) rfl ?_;refine z7 (q0 L rfl rfl (zn rfl) rfl rfl rfl (fun u H hH _ _ => zbx hrb zb hH)) rfl ?_;refine ZdV ?_;refine Zg ?_;refine ZbS ?_;refine ZG ?_;refine ZdY ?_;refine ZbU ?_;refine Za ?_;refine Ze4 ?_;refine ZbU ?_;refine Za ?_;refine Zeq ?_;refine Zcn ?_;refine ZaD ?_
       refine qt L (rs:=[.cell 2 34, .tmp 3]) rfl (fun _ _ h => h) Since.refl fun u H hH hle => ?_
       exact ⟨_, qg rfl, rfl, rfl⟩
      ·have g2:psA b = (zd2, zd2, zd2, e2):=by rw [z5p, hrb]; dsimp only; rw [if_neg h02]
       rw [hpt, g1, g2, if_pos rfl, if_neg h02]
       refine Zd4 ?_;refine Zdw ?_;refine ZG ?_;refine ZX ?_;refine Zc ?_;refine z7 (za2 L (kl:=.i64) (pl:=0) 0 a.size rfl rfl rfl rfl rfl ⟨rfl, rfl⟩ (by omega) (by omega) x1) rfl ?_;refine z7 (q0 L rfl rfl (zn rfl) rfl rfl rfl (fun u H hH _ _ => zbx hra za hH)) rfl ?_;refine ZdV ?_;refine Zg ?_;refine Zdj ?_;refine Zbe ?_;refine Zc ?_;refine Zp ?_;refine Zc1 ?_;refine ZbX ?_;refine ZG ?_;refine Zcl ?_;refine Zc ?_;refine Zak ?_;refine z7 (za2 L (kh:=.i64) (ph:=0) (a.size + 1) _ rfl rfl rfl rfl ⟨rfl, rfl⟩ rfl (by omega) (by omega) x2) rfl ?_;refine z7 (q0 L rfl rfl (zn rfl) rfl rfl rfl (fun u H hH _ _ => zbx hrb zb hH)) rfl ?_;refine ZdV ?_;refine Zg ?_;refine ZbS ?_;refine Zz ?_;refine Za1 ?_;refine Zcn ?_;refine ZbG ?_
       refine qt L (rs:=[.cell 2 34, .tmp 3]) rfl (fun _ _ h => h) Since.refl fun u H hH hle => ?_
       exact ⟨_, qg rfl, rfl, rfl⟩
     ·have g1:pgA a = (zd2, zd2, zd2, e):=by rw [z3o, hra]; dsimp only; rw [if_neg (by decide), if_neg h0]
      rw [hpt, g1, if_neg h0]
      by_cases h5:e = 5
      ·refine Zd4 ?_;refine Zdw ?_;refine ZG ?_;refine ZX ?_;refine Zc ?_;refine z7 (za2 L (kl:=.i64) (pl:=0) 0 a.size rfl rfl rfl rfl rfl ⟨rfl, rfl⟩ (by omega) (by omega) x1) rfl ?_;refine z7 (q0 L rfl rfl (zn rfl) rfl rfl rfl (fun u H hH _ _ => zbx hra za hH)) rfl ?_;refine ZdV ?_;refine Zg ?_;refine Zdj ?_;refine Zae ?_;refine ZaJ ?_;refine Zc1 ?_;refine ZbX ?_;refine Zz ?_;refine ZaO ?_;refine Zcn ?_;refine ZbG ?_
       refine qt L (rs:=[.cell 2 34, .tmp 3]) rfl (fun _ _ h => h) Since.refl fun u H hH hle => ?_
       exact ⟨_, qg rfl, rfl, rfl⟩
      ·refine Zd4 ?_;refine Zdw ?_;refine ZG ?_;refine ZX ?_;refine Zc ?_;refine z7 (za2 L (kl:=.i64) (pl:=0) 0 a.size rfl rfl rfl rfl rfl ⟨rfl, rfl⟩ (by omega) (by omega) x1) rfl ?_;refine z7 (q0 L rfl rfl (zn rfl) rfl rfl rfl (fun u H hH _ _ => zbx hra za hH)) rfl ?_;refine ZdV ?_;refine Zg ?_;refine Zdj ?_;refine Zbe ?_;refine Zc ?_;refine Zp ?_;refine Zc1 ?_;refine ZbX ?_;refine Zz ?_;refine ZaO ?_;refine Zcn ?_;refine ZbG ?_
       refine qt L (rs:=[.cell 2 34, .tmp 3]) rfl (fun _ _ h => h) Since.refl fun u H hH hle => ?_
       exact ⟨_, qg rfl, rfl, rfl⟩
  ·have hpt:ptA s = ((((⟨#[]⟩, ⟨#[]⟩), ⟨#[]⟩), ((⟨#[]⟩, ⟨#[]⟩), ⟨#[]⟩)), 5):=by
    unfold ptA
    rw [if_neg]
    rintro ⟨hc1, hc2⟩
    rcases zii s 64 with h64 | ⟨a, b, rfl, ha⟩
    ·rw [zsd h64] at hc1; cases hc1
    ·rw [zj4 ha] at hc2
     by_cases hb:noB b 64
     ·apply h1
      rw [hn, zjv, List.count_append, List.count_cons_self, List.count_eq_zero_of_not_mem ha, List.count_eq_zero_of_not_mem hb]
     ·rw [show zq9 b 64 = true from zof hb] at hc2
      cases hc2
   rw [hpt]
   refine Zd4 ?_;refine Zdw ?_;refine Zz ?_;refine Z3 ?_;refine Zcn ?_;refine ZaD ?_
   refine qt L (rs:=[.cell 2 34, .tmp 3]) rfl (fun _ _ h => h) Since.refl fun u H hH hle => ?_
   exact ⟨_, qg rfl, rfl, rfl⟩
end Go.V.L2
set_option maxRecDepth 20000
namespace Go.V.L2
open Go.Proofs Go.RowKit Go.V
theorem zc0 {s:ByteArray} (h:chk s = 0):s.size ≤ 16:=by
 unfold chk at h
 split at h
 ·rename_i hc; exact hc.2.1
 ·exact absurd h (by decide)
theorem z7m {t:U} (h:tE t = 0):TZ t:=by
 unfold tE at h
 split at h
 ·rename_i h1
  obtain ⟨c1, c2, c3⟩:=zvp h1
  obtain ⟨d1, d2, d3⟩:=zih h
  have a1:=zc0 c1
  have a2:=zc0 c2
  have a3:=zc0 c3
  have b1:=zc0 d1
  have b2:=zc0 d2
  have b3:t.2.2.size ≤ 16:=by
   rcases d3 with d3 | d3
   ·rw [d3]; decide
   ·exact zc0 d3
  unfold TZ
  refine ⟨⟨?_, ?_, ?_⟩, ?_, ?_, ?_⟩ <;> omega
 ·rename_i h1; exact absurd h h1
end Go.V.L2
set_option maxRecDepth 20000
namespace Go.V.L3
open Go.Proofs Go.RowKit Go.V Go.V.L2
abbrev FT:=zsm × zsm × Bool
abbrev n3:zsm:=((⟨#[]⟩, ⟨#[]⟩), ⟨#[]⟩)
end Go.V.L3
set_option maxRecDepth 20000
namespace Go.V.L3
open Go.Proofs Go.RowKit Go.V Go.V.L2
end Go.V.L3
set_option maxRecDepth 20000
namespace Go.V.L2
open Go.Proofs Go.RowKit Go.V
theorem _root_.Go.V.Zf7 {A B:Prop} (h:B) (t:Wr B → A:=by intro h; refine zd (zw rfl (zn rfl) rfl) rfl ?_;exact h.h):A:=t ⟨h⟩
theorem _root_.Go.V.Zd8 {A B:Prop} (h:B) (t:Wr B → A:=by intro h; refine z7 (y7 L (vs:=[_, _, _, _, _, _]) rfl rfl rfl rfl rfl ⟨_, rfl⟩) rfl ?_;exact h.h):A:=t ⟨h⟩
theorem _root_.Go.V.Zag {A B:Prop} (h:B) (t:Wr B → A:=by intro h; refine zd (qb rfl rfl rfl rfl) rfl ?_;exact h.h):A:=t ⟨h⟩
theorem _root_.Go.V.Zgu {A B:Prop} (h:B) (t:Wr B → A:=by intro h; refine qe (zb5 L rfl rfl rfl (zq1 rfl) rfl z4d rfl rfl (by omega) (by omega)) ?_;exact h.h):A:=t ⟨h⟩
theorem _root_.Go.V.ZcJ {A B:Prop} (h:B) (t:Wr B → A:=by intro h; refine zd (z2d rfl rfl rfl rfl) rfl ?_;exact h.h):A:=t ⟨h⟩
theorem _root_.Go.V.ZbY {A B:Prop} (h:B) (t:Wr B → A:=by intro h; refine Zf7 ?_;refine Zf7 ?_;exact h.h):A:=t ⟨h⟩
theorem _root_.Go.V.ZbI {A B:Prop} (h:B) (t:Wr B → A:=by intro h; refine Za ?_;refine Zaq ?_;exact h.h):A:=t ⟨h⟩
theorem _root_.Go.V.ZcK {A B:Prop} (h:B) (t:Wr B → A:=by intro h; refine ZbY ?_;refine ZbY ?_;exact h.h):A:=t ⟨h⟩
theorem _root_.Go.V.Zet {A B:Prop} (h:B) (t:Wr B → A:=by intro h; refine Zf ?_;refine ZbI ?_;exact h.h):A:=t ⟨h⟩
theorem _root_.Go.V.ZaT {A B:Prop} (h:B) (t:Wr B → A:=by intro h; refine ZaV ?_;refine Zgu ?_;exact h.h):A:=t ⟨h⟩
theorem _root_.Go.V.Zcr {A B:Prop} (h:B) (t:Wr B → A:=by intro h; refine Zcl ?_;refine Za ?_;exact h.h):A:=t ⟨h⟩
theorem _root_.Go.V.ZcL {A B:Prop} (h:B) (t:Wr B → A:=by intro h; refine Zet ?_;refine Zd8 ?_;exact h.h):A:=t ⟨h⟩
theorem _root_.Go.V.Zd9 {A B:Prop} (h:B) (t:Wr B → A:=by intro h; refine Zi ?_;refine ZcK ?_;exact h.h):A:=t ⟨h⟩
def zij (l:List U):List U:=zfr zcc [] l
def zew (x y:List U) (a c b:Bool) (t:U):Bool:=(decide (t ∈ x) && !decide (t ∈ y) && a) || (decide (t ∈ x) && decide (t ∈ y) && c) || (!decide (t ∈ x) && decide (t ∈ y) && b)
def zkq (x y:List U) (a c b:Bool):List U:=zij ((x ++ y).filter (zew x y a c b))
theorem zpn (l:List U):(zij l).length ≤ l.length:=by
 have:=zf0 (c:=zcc) l []
 rw [List.length_nil, Nat.zero_add] at this
 exact this
theorem zv3 {κ:Kap} {s:Nat} {r:List U} {t y:U} (h:κ s = some (.own (SlR tyU 6 (r.length + 1 + 1) ((r.flatMap ucs ++ ucs t) ++ ucs y)))):κ s = some (.own (SlR tyU 6 (r ++ [t] ++ [y]).length ((r ++ [t] ++ [y]).flatMap ucs))):=by
 rw [h, List.flatMap_append, List.flatMap_append, List.length_append, List.length_append]; simp
theorem zme (c:U → U → Int) (o:List U) (t:U) (r:List U):zfr c o (t :: r) = zfr c (if t ∈ o then o else zib c t o) r:=by
 simp only [zfr]
 congr 1
 by_cases h:t ∈ o
 ·rw [if_pos h, if_pos h]
 ·rw [if_neg h, if_neg h]
attribute [local irreducible] V N X VO Par StepOK Has Ret RetL Src
set_option maxHeartbeats 4000000 in
theorem zgy {l:List U} {fu:Bool} (hl:l.length ≤ 1000000) (hz:∀ t ∈ l, TZ t) {v:Value} {w:World} {B:Heap} (hB:B.Le (hp w)) (hv:US l fu v B) :
  Ret Tryz.prog 94 [v] w B (US (zij l) false):=by
 refine qu Tryz.func94 rfl Tryz.ntmps94 (Nat.le_of_ble_eq_true rfl) hB ?_
 refine za4 0 (US l fu) rfl SlV.mono hv ?_
 refine Zac ?_;refine Zg ?_
 refine za4 3 (US [] false) rfl SlV.mono SlV.nil ?_
 refine Zy ?_;refine ZW ?_
 refine zao (fun s:Nat × List U => [(0, .sat (US l fu)), (3, .sat (US s.2 false)), (4, .is (.int .i64 s.1))])
  (fun s => s.1 ≤ l.length ∧ s.2.length ≤ s.1 ∧ (∀ t ∈ s.2, TZ t) ∧ zij l = zfr zcc s.2 (l.drop s.1)) (fun s => l.length - s.1) (0, []) ⟨Nat.zero_le _, Nat.le_refl _, fun t h => (by cases h), rfl⟩ ⟨rfl, rfl, rfl, trivial⟩ ?_
 rintro ⟨i, o⟩ ⟨hi, ho, hoz, he⟩
 dsimp only at hi ho hoz he ⊢
 by_cases hlt:i < l.length
 ·obtain ⟨t, ht⟩:=zaw hlt
  have hct:=ze0 ht
  have zt:=hz t (List.mem_of_getElem? ht)
  have hol:o.length ≤ 1000000:=by omega
  rw [zqu ht, zme] at he
  by_cases hin:t ∈ o
  ·rw [if_pos hin] at he
   have h1:(if t ∈ o then 1 else 0:Int) = 1:=if_pos hin
   refine Zba ?_;refine Zv ?_;refine ZaX ?_;refine Zc5 ?_;refine Zn ?_;refine Zf ?_;refine ZcL ?_;refine z7 (q0 L rfl rfl (zn rfl) rfl rfl rfl (fun u H hH _ _ v1 h2 => zbm hol h1 hH h2)) rfl ?_;refine ZJ ?_;refine Z9 ?_;refine yo ?_;refine Zgd ?_;refine zm ?_;refine ZbV ?_
   exact yl (x:=(i, o)) (i + 1, o) ⟨hlt, by dsimp only; omega, hoz, he⟩ (by dsimp only; omega) ⟨rfl, rfl, rfl, trivial⟩
  ·rw [if_neg hin] at he
   have h1:(if t ∈ o then 1 else 0:Int) = 0:=if_neg hin
   refine Zba ?_;refine Zv ?_;refine ZaX ?_;refine Zc5 ?_;refine Zn ?_;refine Zf ?_;refine ZcL ?_;refine z7 (q0 L rfl rfl (zn rfl) rfl rfl rfl (fun u H hH _ _ v1 h2 => zbm hol h1 hH h2)) rfl ?_;refine ZbW ?_;refine ZN ?_;refine Zd ?_
   refine zet 5 tyU 6 rfl ?_
   refine Z8 ?_;refine Zg ?_;refine Z0 ?_;refine ZW ?_
   refine zao (fun s:Nat × List U × Bool => [(0, .sat (US l fu)), (3, .sat (US o false)), (4, .is (.int .i64 i)), (5, .own (SlR tyU 6 s.2.1.length (s.2.1.flatMap ucs))), (6, .is (.bool s.2.2)), (7, .is (.int .i64 s.1))])
    (fun s => s.1 ≤ o.length ∧ s.2.1.length ≤ s.1 + (if s.2.2 = true then 1 else 0) ∧ zib zcc t o = s.2.1 ++ (if s.2.2 = true then o.drop s.1 else zib zcc t (o.drop s.1))) (fun s => o.length - s.1) (0, [], false) ⟨Nat.zero_le _, Nat.zero_le _, rfl⟩ ⟨rfl, rfl, rfl, rfl, rfl, rfl, trivial⟩ ?_
   rintro ⟨k, nx, put⟩ ⟨hk, hnx, hins⟩
   dsimp only at hk hnx hins ⊢
   by_cases hko:k < o.length
   ·obtain ⟨y, hy⟩:=zaw hko
    have hcy:=ze0 hy
    have zy:=hoz y (List.mem_of_getElem? hy)
    rw [zqu hy] at hins
    cases put
    ·rw [if_neg (by decide)] at hnx
     rw [if_neg (by decide), zib] at hins
     by_cases hc:zcc t y < 0
     ·rw [if_pos hc] at hins
      refine ZcA ?_;refine Zv ?_;refine ZaX ?_;refine Zc5 ?_;refine qh (id:=11) [] mixed (by kernel_rfl) ?_;refine Zi ?_;refine ZcJ ?_;refine Zi ?_;refine Zbl ?_;refine Zbl ?_;refine zd (q0 L rfl rfl (zn rfl) rfl rfl rfl (fun u H hH _ _ => zhh zt zy hH)) rfl ?_;refine ZdR ?_;refine Zag ?_;refine Zbg ?_;refine zj ?_;refine ZD ?_;refine qe (yh (.inl rfl) rfl rfl rfl rfl) ?_;refine ZcL ?_;refine ZaT ?_;refine qe (yh (.inr rfl) rfl rfl rfl rfl) ?_;refine Z6 ?_;refine Zbx ?_;refine Zb ?_;refine ZaO ?_;refine qe (yh (.inl rfl) rfl rfl rfl rfl) ?_;refine ZcL ?_;refine ZaT ?_;refine qe (yh (.inr rfl) rfl rfl rfl rfl) ?_;refine Zav ?_;refine Zb6 ?_;refine Zb5 ?_
      exact yl (x:=(k, nx, false)) (k + 1, nx ++ [t] ++ [y], true) ⟨hko, by dsimp only; rw [if_pos rfl]; simp only [List.length_append, List.length_cons, List.length_nil]; omega, by dsimp only; rw [hins, if_pos rfl]; simp⟩ (by dsimp only; omega) ⟨rfl, rfl, rfl, zv3 rfl, rfl, rfl, trivial⟩
     ·rw [if_neg hc] at hins
      refine ZcA ?_;refine Zv ?_;refine ZaX ?_;refine Zc5 ?_;refine qh (id:=11) [] mixed (by kernel_rfl) ?_;refine Zi ?_;refine ZcJ ?_;refine Zi ?_;refine Zbl ?_;refine Zbl ?_;refine zd (q0 L rfl rfl (zn rfl) rfl rfl rfl (fun u H hH _ _ => zhh zt zy hH)) rfl ?_;refine ZeH ?_;refine Zag ?_;refine ZaW ?_;refine Zcz ?_;refine ZaO ?_;refine qe (yh (.inl rfl) rfl rfl rfl rfl) ?_;refine ZcL ?_;refine ZaT ?_;refine qe (yh (.inr rfl) rfl rfl rfl rfl) ?_;refine Zav ?_;refine Zb6 ?_;refine Zb5 ?_
      exact yl (x:=(k, nx, false)) (k + 1, nx ++ [y], false) ⟨hko, by dsimp only; rw [if_neg (by decide), List.length_append, List.length_singleton]; omega, by dsimp only; rw [hins, if_neg (by decide)]; simp⟩ (by dsimp only; omega) ⟨rfl, rfl, rfl, zda rfl, rfl, rfl, trivial⟩
    ·rw [if_pos rfl] at hnx hins
     refine ZcA ?_;refine Zv ?_;refine ZaX ?_;refine Zc5 ?_;refine qh (id:=11) [] mixed (by kernel_rfl) ?_;refine Zi ?_;refine ZcJ ?_;refine Zd9 ?_;refine ZcK ?_;refine ZbY ?_;refine Zag ?_;refine ZaW ?_;refine Zcz ?_;refine ZaO ?_;refine qe (yh (.inl rfl) rfl rfl rfl rfl) ?_;refine ZcL ?_;refine ZaT ?_;refine qe (yh (.inr rfl) rfl rfl rfl rfl) ?_;refine Zav ?_;refine Zb6 ?_;refine Zb5 ?_
     exact yl (x:=(k, nx, true)) (k + 1, nx ++ [y], true) ⟨hko, by dsimp only; rw [if_pos rfl, List.length_append, List.length_singleton]; omega, by dsimp only; rw [hins, if_pos rfl]; simp⟩ (by dsimp only; omega) ⟨rfl, rfl, rfl, zda rfl, rfl, rfl, trivial⟩
   ·obtain rfl:k = o.length:=by omega
    rw [List.drop_length] at hins
    have hil:=zck (c:=zcc) t o
    have hiz:∀ x ∈ zib zcc t o, TZ x:=fun x hx => by
     rcases zep.1 hx with rfl | hx
     ·exact zt
     ·exact hoz x hx
    cases put
    ·rw [if_neg (by decide)] at hnx
     rw [if_neg (by decide), zib] at hins
     refine ZcA ?_;refine Zd2 ?_;refine ZdS ?_;refine Zcr ?_;refine Zp ?_;refine Z9 ?_;refine Zc8 ?_;refine qe (yh (.inl rfl) rfl rfl rfl rfl) ?_;refine ZcL ?_;refine ZaT ?_;refine qe (yh (.inr rfl) rfl rfl rfl rfl) ?_;refine Z6 ?_
     refine zes 5 (zda rfl) ?_
     rw [← hins]
     refine Za1 ?_;refine Zf ?_;refine ZbT ?_;refine Zav ?_;refine ZbV ?_
     exact yl (x:=(i, o)) (i + 1, zib zcc t o) ⟨hlt, by dsimp only; omega, hiz, he⟩ (by dsimp only; omega) ⟨rfl, rfl, rfl, trivial⟩
    ·rw [if_pos rfl] at hnx
     rw [if_pos rfl, List.append_nil] at hins
     refine ZcA ?_;refine Zd2 ?_;refine ZdS ?_;refine Zcr ?_;refine Zp ?_;refine Zeh ?_
     refine zes 5 rfl ?_
     rw [← hins]
     refine Za1 ?_;refine Zf ?_;refine ZbT ?_;refine Zav ?_;refine ZbV ?_
     exact yl (x:=(i, o)) (i + 1, zib zcc t o) ⟨hlt, by dsimp only; omega, hiz, he⟩ (by dsimp only; omega) ⟨rfl, rfl, rfl, trivial⟩
 ·obtain rfl:i = l.length:=by omega
  rw [List.drop_length, zfr] at he
  rw [he]
  refine Zba ?_;refine Zd2 ?_;refine ZaS ?_;refine ZdY ?_;refine Zf ?_;refine ZbE ?_
  refine qt L (rs:=[.tmp 2]) rfl (fun _ _ h => h) Since.refl fun u H hH hle => ?_
  exact fun v hv => hv
end Go.V.L2
set_option maxRecDepth 20000
namespace Go.V
inductive Tr (K V:Type) where
 | nil
 | node (k:K) (v:V) (l r:Tr K V)
namespace Tr
variable {K V:Type}
def size:Tr K V → Nat
 | nil => 0
 | node _ _ l r => size l + 1 + size r
def deep:Tr K V → Nat
 | nil => 0
 | node _ _ l r => 1 + max (deep l) (deep r)
theorem deep_le:∀ t:Tr K V, deep t ≤ size t
 | nil => Nat.le_refl _
 | node _ _ l r => by have:=deep_le l; have:=deep_le r; simp only [deep, size]; omega
def bal (k:K) (v:V) (l r:Tr K V):Tr K V :=
 if deep l > deep r + 1 then
  match l with
  | nil => nil
  | node lk lv ll lr =>
   if deep ll ≥ deep lr then node lk lv ll (node k v lr r)
   else match lr with
    | nil => nil
    | node mk mv ml mr => node mk mv (node lk lv ll ml) (node k v mr r)
 else if deep r > deep l + 1 then
  match r with
  | nil => nil
  | node rk rv rl rr =>
   if deep rr ≥ deep rl then node rk rv (node k v l rl) rr
   else match rl with
    | nil => nil
    | node mk mv ml mr => node mk mv (node k v l ml) (node rk rv mr rr)
 else node k v l r
def put (c:K → K → Int) (k:K) (v:V):Tr K V → Tr K V
 | nil => node k v nil nil
 | node nk nv l r => if c k nk < 0 then bal nk nv (put c k v l) r else if c k nk > 0 then bal nk nv l (put c k v r) else node nk v l r
def first:K → V → Tr K V → Tr K V → (K × V) × Tr K V
 | k, v, nil, r => ((k, v), r)
 | k, v, node lk lv ll lr, r => ((first lk lv ll lr).1, bal k v (first lk lv ll lr).2 r)
def drop (c:K → K → Int) (k:K):Tr K V → Tr K V × Bool
 | nil => (nil, false)
 | node nk nv l r => if c k nk < 0 then (bal nk nv (drop c k l).1 r, (drop c k l).2) else if c k nk > 0 then (bal nk nv l (drop c k r).1, (drop c k r).2)
  else match r with
   | nil => (l, true)
   | node rk rv rl rr => (bal (first rk rv rl rr).1.1 (first rk rv rl rr).1.2 l (first rk rv rl rr).2, true)
def get (c:K → K → Int) (k:K):Tr K V → Option V
 | nil => none
 | node nk nv l r => if c k nk = 0 then some nv else if c k nk < 0 then get c k l else get c k r
def list:Tr K V → List (K × V)
 | nil => []
 | node k v l r => list l ++ (k, v) :: list r
def prs:Tr K V → Int → Int → Int → List (K × V)
 | nil, _, _, _ => []
 | node k v l r, a, f, t => if a + (size (node k v l r):Int) ≤ f ∨ a ≥ t then [] else
   prs l a f t ++ ((if a + (size l:Int) ≥ f ∧ a + (size l:Int) < t then [(k, v)] else []) ++ prs r (a + size l + 1) f t)
theorem get_eq {c:K → K → Int} {k nk:K} {nv:V} {l r:Tr K V} (h:c k nk = 0):get c k (node nk nv l r) = some nv:=if_pos h
theorem get_lt {c:K → K → Int} {k nk:K} {nv:V} {l r:Tr K V} (h:c k nk < 0):get c k (node nk nv l r) = get c k l:=(if_neg (by omega)).trans (if_pos h)
theorem get_gt {c:K → K → Int} {k nk:K} {nv:V} {l r:Tr K V} (h0:¬ c k nk = 0) (h:¬ c k nk < 0):get c k (node nk nv l r) = get c k r:=(if_neg h0).trans (if_neg h)
theorem size_list:∀ t:Tr K V, (list t).length = size t
 | nil => rfl
 | node _ _ l r => by simp only [list, List.length_append, List.length_cons, size_list l, size_list r, size]; omega
theorem size_node (k:K) (v:V) (l r:Tr K V):size (node k v l r) = size l + 1 + size r:=rfl
theorem deep_node (k:K) (v:V) (l r:Tr K V):deep (node k v l r) = 1 + max (deep l) (deep r):=rfl
theorem zd6 (k:K) (v:V) (l r:Tr K V):list (bal k v l r) = list l ++ (k, v) :: list r:=by
 unfold bal
 split
 ·rename_i h
  cases l with
  | nil => simp [deep] at h
  | node lk lv ll lr =>
   dsimp only
   split
   ·simp [list]
   ·rename_i h2
    cases lr with
    | nil => simp [deep] at h2
    | node mk mv ml mr => simp [list]
 ·split
  ·rename_i h
   cases r with
   | nil => simp [deep] at h
   | node rk rv rl rr =>
    dsimp only
    split
    ·simp [list]
    ·rename_i h2
     cases rl with
     | nil => simp [deep] at h2
     | node mk mv ml mr => simp [list]
  ·simp [list]
theorem zhe (k:K) (v:V) (l r:Tr K V):size (bal k v l r) = size l + 1 + size r:=by
 rw [← size_list, zd6, List.length_append, List.length_cons, size_list, size_list]; omega
theorem zir:∀ (k:K) (v:V) (l r:Tr K V), (first k v l r).1 :: list (first k v l r).2 = list l ++ (k, v) :: list r
 | k, v, nil, r => rfl
 | k, v, node lk lv ll lr, r => by
  simp only [first, zd6, list]
  rw [← List.cons_append, zir lk lv ll lr]
theorem size_first (k:K) (v:V) (l r:Tr K V):size (first k v l r).2 = size l + size r:=by
 have:=congrArg List.length (zir k v l r)
 simp only [List.length_cons, List.length_append, size_list] at this
 omega
theorem size_put (c:K → K → Int) (k:K) (v:V):∀ t:Tr K V, size (put c k v t) ≤ size t + 1
 | nil => by simp [put, size]
 | node nk nv l r => by
  have:=size_put c k v l
  have:=size_put c k v r
  simp only [put]
  split
  ·rw [zhe, size_node]; omega
  ·split
   ·rw [zhe, size_node]; omega
   ·rw [size_node, size_node]; omega
theorem size_drop (c:K → K → Int) (k:K):∀ t:Tr K V, size (drop c k t).1 ≤ size t
 | nil => Nat.le_refl _
 | node nk nv l r => by
  have:=size_drop c k l
  have:=size_drop c k r
  simp only [drop]
  split
  ·rw [zhe, size_node]; omega
  ·split
   ·rw [zhe, size_node]; omega
   ·cases r with
    | nil => simp only [size]; omega
    | node rk rv rl rr => rw [zhe, size_first, size_node, size_node]; omega
theorem prs_length_le:∀ (t:Tr K V) (a f e:Int), (prs t a f e).length ≤ size t
 | nil, _, _, _ => Nat.le_refl _
 | node k v l r, a, f, e => by
  have:=prs_length_le l a f e
  have:=prs_length_le r (a + size l + 1) f e
  simp only [prs]
  split
  ·exact Nat.zero_le _
  ·simp only [List.length_append, size_node]
   split
   ·simp only [List.length_cons, List.length_nil]; omega
   ·simp only [List.length_nil]; omega
def TreeAt (nl:K → V → Value → Value → Int → Int → List Value) (ty:TypeId):Tr K V → Value → Heap → Prop
 | nil, v, _ => v = .pointer none
 | node k x l r, v, H => ∃ b lv rv, v = .pointer (some ⟨b, 0, none⟩) ∧ H b = some (.cells (nl k x lv rv (size (node k x l r)) (deep (node k x l r))).toArray ty) ∧ TreeAt nl ty l lv H ∧ TreeAt nl ty r rv H
theorem TreeAt.mono {nl:K → V → Value → Value → Int → Int → List Value} {ty:TypeId}:∀ {t:Tr K V}, Kn.mono (.sat (TreeAt nl ty t))
 | nil, _, _, _, h, _ => h
 | node k x l r, _, _, _, ⟨b, lv, rv, h1, h2, h3, h4⟩, hle => ⟨b, lv, rv, h1, hle _ _ h2, TreeAt.mono _ _ _ h3 hle, TreeAt.mono _ _ _ h4 hle⟩
theorem TreeAt.le {nl:K → V → Value → Value → Int → Int → List Value} {ty:TypeId} {t:Tr K V} {v:Value} {H H':Heap} (h:TreeAt nl ty t v H) (hle:H.Le H'):TreeAt nl ty t v H':=TreeAt.mono _ _ _ h hle
end Tr
end Go.V
set_option maxRecDepth 20000
namespace Go.V
structure z2s {K:Type} (c:K → K → Int):Prop where
 anti:∀ a b, c a b < 0 ↔ 0 < c b a
 trans:∀ {a b d}, c a b < 0 → c b d < 0 → c a d < 0
 eql:∀ {a b} (d), c a b = 0 → (c a d < 0 ↔ c b d < 0)
namespace z2s
variable {K:Type} {c:K → K → Int}
theorem refl (h:z2s c) (a:K):c a a = 0:=by
 have:=h.anti a a
 omega
theorem symm (h:z2s c) {a b:K} (e:c a b = 0):c b a = 0:=by
 have:=h.anti a b
 have:=h.anti b a
 omega
end z2s
namespace Tr
variable {K V:Type} (c:K → K → Int)
def Srt (l:List (K × V)):Prop:=l.Pairwise fun x y => c x.1 y.1 < 0
def putS (k:K) (v:V):List (K × V) → List (K × V)
 | [] => [(k, v)]
 | y :: l => if c k y.1 < 0 then (k, v) :: y :: l else if c k y.1 > 0 then y :: putS k v l else (y.1, v) :: l
def dropS (k:K):List (K × V) → List (K × V)
 | [] => []
 | y :: l => if c k y.1 < 0 then y :: l else if c k y.1 > 0 then y :: dropS k l else l
def getS (k:K):List (K × V) → Option V
 | [] => none
 | y :: l => if c k y.1 = 0 then some y.2 else getS k l
def cutI (f e:Int):List (K × V) → Int → List (K × V)
 | [], _ => []
 | y :: l, i => if f ≤ i ∧ i < e then y :: cutI f e l (i + 1) else cutI f e l (i + 1)
variable {c} (h:z2s c)
include h
theorem zkx {k:K} {v:V}:∀ {l1 l2:List (K × V)} {y:K × V}, (∀ x ∈ l1, c x.1 y.1 < 0) →
  putS c k v (l1 ++ y :: l2) = if c k y.1 < 0 then putS c k v l1 ++ y :: l2 else if c k y.1 > 0 then l1 ++ y :: putS c k v l2 else l1 ++ (y.1, v) :: l2
 | [], l2, y, _ => by simp only [List.nil_append, putS]; split <;> simp
 | x :: l1, l2, y, hl => by
  have ih:=zkx (k:=k) (v:=v) (l1:=l1) (l2:=l2) (y:=y) fun z hz => hl z (List.mem_cons_of_mem _ hz)
  have hx:=hl x (List.mem_cons_self ..)
  simp only [List.cons_append, putS]
  by_cases h1:c k x.1 < 0
  ·have:c k y.1 < 0:=h.trans h1 hx
   rw [if_pos h1, if_pos this, if_pos h1]; rfl
  ·rw [if_neg h1]
   by_cases h2:c k x.1 > 0
   ·rw [if_pos h2, ih, if_neg h1, if_pos h2]
    split
    ·rfl
    ·split <;> rfl
   ·have h0:c k x.1 = 0:=by omega
    have:c k y.1 < 0:=(h.eql _ h0).2 hx
    rw [if_neg h2, if_pos this, if_neg h1, if_neg h2]; rfl
theorem zi7 {k:K}:∀ {l1 l2:List (K × V)} {y:K × V}, (∀ x ∈ l1, c x.1 y.1 < 0) →
  dropS c k (l1 ++ y :: l2) = if c k y.1 < 0 then dropS c k l1 ++ y :: l2 else if c k y.1 > 0 then l1 ++ y :: dropS c k l2 else l1 ++ l2
 | [], l2, y, _ => by simp only [List.nil_append, dropS]
 | x :: l1, l2, y, hl => by
  have ih:=zi7 (k:=k) (l1:=l1) (l2:=l2) (y:=y) fun z hz => hl z (List.mem_cons_of_mem _ hz)
  have hx:=hl x (List.mem_cons_self ..)
  simp only [List.cons_append, dropS]
  by_cases h1:c k x.1 < 0
  ·have:c k y.1 < 0:=h.trans h1 hx
   rw [if_pos h1, if_pos this, if_pos h1]; rfl
  ·rw [if_neg h1]
   by_cases h2:c k x.1 > 0
   ·rw [if_pos h2, ih, if_neg h1, if_pos h2]
    split
    ·rfl
    ·split <;> rfl
   ·have h0:c k x.1 = 0:=by omega
    have:c k y.1 < 0:=(h.eql _ h0).2 hx
    rw [if_neg h2, if_pos this, if_neg h1, if_neg h2]
omit h in
theorem zko {l1 l2:List (K × V)} {y:K × V} (hs:Srt c (l1 ++ y :: l2)):Srt c l1 ∧ Srt c l2 ∧ (∀ x ∈ l1, c x.1 y.1 < 0) ∧ (∀ x ∈ l2, c y.1 x.1 < 0):=by
 have h1:=List.pairwise_append.1 hs
 have h2:=List.pairwise_cons.1 h1.2.1
 exact ⟨h1.1, h2.2, fun x hx => h1.2.2 x hx y (List.mem_cons_self ..), h2.1⟩
theorem list_put (k:K) (v:V):∀ {t:Tr K V}, Srt c (list t) → list (put c k v t) = putS c k v (list t)
 | nil, _ => rfl
 | node nk nv l r, hs => by
  obtain ⟨hl, hr, hx, _⟩:=zko (y:=(nk, nv)) hs
  simp only [list, put]
  rw [zkx h hx]
  split
  ·rw [zd6, list_put k v hl]
  ·split
   ·rw [zd6, list_put k v hr]
   ·rfl
theorem list_drop (k:K):∀ {t:Tr K V}, Srt c (list t) → list (if (drop c k t).2 = true then (drop c k t).1 else t) = dropS c k (list t) ∧ ((drop c k t).2 = false → (drop c k t).1 = t ∨ list (drop c k t).1 = list t) ∧ ((drop c k t).2 = true → list (drop c k t).1 = dropS c k (list t)) ∧ ((drop c k t).2 = false → dropS c k (list t) = list t)
 | nil, _ => ⟨rfl, fun _ => .inl rfl, fun h => (by cases h), fun _ => rfl⟩
 | node nk nv l r, hs => by
  obtain ⟨hl, hr, hx, _⟩:=zko (y:=(nk, nv)) hs
  have il:=list_drop k hl
  have ir:=list_drop k hr
  have key:((drop c k (node nk nv l r)).2 = true → list (drop c k (node nk nv l r)).1 = dropS c k (list (node nk nv l r))) ∧ ((drop c k (node nk nv l r)).2 = false → dropS c k (list (node nk nv l r)) = list (node nk nv l r) ∧ list (drop c k (node nk nv l r)).1 = list (node nk nv l r)):=by
   simp only [list, drop]
   rw [zi7 h hx]
   split
   ·refine ⟨fun ht => ?_, fun hf => ?_⟩
    ·dsimp only at ht ⊢; rw [zd6, il.2.2.1 ht]
    ·dsimp only at hf ⊢
     have e:=il.2.2.2 hf
     refine ⟨by rw [e], ?_⟩
     rw [zd6]
     rcases il.2.1 hf with e1 | e1 <;> rw [e1]
   ·split
    ·refine ⟨fun ht => ?_, fun hf => ?_⟩
     ·dsimp only at ht ⊢; rw [zd6, ir.2.2.1 ht]
     ·dsimp only at hf ⊢
      have e:=ir.2.2.2 hf
      refine ⟨by rw [e], ?_⟩
      rw [zd6]
      rcases ir.2.1 hf with e1 | e1 <;> rw [e1]
    ·cases r with
     | nil => exact ⟨fun _ => by simp [list], fun hf => by cases hf⟩
     | node rk rv rl rr =>
      refine ⟨fun _ => ?_, fun hf => by cases hf⟩
      dsimp only
      rw [zd6]
      have:=zir rk rv rl rr
      rw [show ((first rk rv rl rr).1.1, (first rk rv rl rr).1.2) = (first rk rv rl rr).1 from rfl, this]
      rfl
  refine ⟨?_, fun hf => .inr (key.2 hf).2, key.1, fun hf => (key.2 hf).1⟩
  split
  ·rename_i ht; exact key.1 ht
  ·rename_i ht
   have hf:(drop c k (node nk nv l r)).2 = false:=by simpa using ht
   exact (key.2 hf).1.symm
theorem zli {k:K}:∀ {l1 l2:List (K × V)} {y:K × V}, (∀ x ∈ l1, c x.1 y.1 < 0) → (∀ x ∈ l2, c y.1 x.1 < 0) →
  getS c k (l1 ++ y :: l2) = if c k y.1 = 0 then some y.2 else if c k y.1 < 0 then getS c k l1 else getS c k l2
 | [], l2, y, _, h2 => by
  simp only [List.nil_append, getS]
  split
  ·rfl
  ·split
   ·rename_i h1
    have:∀ (l:List (K × V)), (∀ x ∈ l, c y.1 x.1 < 0) → getS c k l = none:=by
     intro l
     induction l with
     | nil => intro _; rfl
     | cons z l ih =>
      intro hz
      have:=h.trans h1 (hz z (List.mem_cons_self ..))
      simp only [getS]
      rw [if_neg (by omega)]
      exact ih fun x hx => hz x (List.mem_cons_of_mem _ hx)
    exact this l2 h2
   ·rfl
 | x :: l1, l2, y, hl, h2 => by
  have ih:=zli (k:=k) (l1:=l1) (l2:=l2) (y:=y) (fun z hz => hl z (List.mem_cons_of_mem _ hz)) h2
  have hx:=hl x (List.mem_cons_self ..)
  simp only [List.cons_append, getS]
  by_cases h0:c k x.1 = 0
  ·have:c k y.1 < 0:=(h.eql _ h0).2 hx
   rw [if_pos h0, if_neg (by omega), if_pos this, if_pos h0]
  ·rw [if_neg h0, ih, if_neg h0]
theorem get_list (k:K):∀ {t:Tr K V}, Srt c (list t) → get c k t = getS c k (list t)
 | nil, _ => rfl
 | node nk nv l r, hs => by
  obtain ⟨hl, hr, hx, hy⟩:=zko (y:=(nk, nv)) hs
  simp only [list, get]
  rw [zli h hx hy, get_list k hl, get_list k hr]
omit h
theorem zlq (f e:Int):∀ (l1 l2:List (K × V)) (i:Int), cutI f e (l1 ++ l2) i = cutI f e l1 i ++ cutI f e l2 (i + l1.length)
 | [], l2, i => by simp [cutI]
 | y :: l1, l2, i => by
  simp only [List.cons_append, cutI, zlq f e l1 l2 (i + 1), List.length_cons]
  rw [show i + 1 + (l1.length:Int) = i + ((l1.length + 1:Nat):Int) by omega]
  split <;> rfl
theorem zt1 (f e:Int):∀ (l:List (K × V)) (i:Int), i + l.length ≤ f ∨ i ≥ e → cutI f e l i = []
 | [], _, _ => rfl
 | y :: l, i, h => by
  simp only [List.length_cons] at h
  simp only [cutI]
  rw [if_neg (by omega), zt1 f e l (i + 1) (by omega)]
theorem prs_list:∀ (t:Tr K V) (a f e:Int), prs t a f e = cutI f e (list t) a
 | nil, _, _, _ => rfl
 | node nk nv l r, a, f, e => by
  simp only [prs]
  split
  ·rename_i h1
   rw [zt1]
   rw [size_list]; exact h1
  ·simp only [list]
   rw [zlq, prs_list l, prs_list r, size_list]
   simp only [cutI]
   split
   ·rename_i h2
    rfl
   ·rename_i h2
    rfl
end Tr
end Go.V
