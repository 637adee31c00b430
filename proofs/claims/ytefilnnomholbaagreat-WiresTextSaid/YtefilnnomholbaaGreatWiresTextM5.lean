/- Texts on the way to WiresText, part 5: one behind another. -/
import Derived.Test.YtefilnnomholbaaGreatWiresTextM4
import Derived.RecoverIn
import Derived.Sort.LotD5
import Derived.Sort.Walk7
import Derived.Sort.WalkA14
import Derived.Sort.Walk13
set_option linter.unusedVariables false
set_option linter.unusedSimpArgs false
set_option maxRecDepth 20000
namespace Go.V
open Go.RowKit
theorem RetY.frame {P:Program} {f:FuncId} {args:List Value} {w:World} {B:Heap} {C:Nat → Prop} {r1 r1' r2:GR} {φ:Value → Heap → Prop} (hr:(zf3 r1 r2).P B w C) (hC:∀ k, C k → k < w.heap.size ∧ B k = none)
  (h:∀ C1, r1.P B w C1 → (∀ k, C1 k → k < w.heap.size ∧ B k = none) → RetY P f args w B C1 r1' φ):RetY P f args w B C (zf3 r1' r2) φ:=by
 obtain ⟨C1, C2, h1, h2, h3, h4⟩:=hr
 refine Calls.mono (h C1 h1 fun k hk => hC k ((h3 k).2 (.inl hk))) fun e u ⟨v, he, H, g, hp, C', hv, hC'⟩ => ?_
 have hsub:∀ k, C1 k → C k:=fun k hk => (h3 k).2 (.inl hk)
 have g2:Grow C w B u H:=⟨⟨g.keep.os, g.keep.tape, g.keep.output, g.keep.size, fun k hk hn => g.keep.block k hk fun h => hn (hsub k h), g.keep.dr⟩, g.sub, g.le, fun k hk hn => g.fresh k hk fun h => hn (hsub k h)⟩
 refine ⟨v, he, H, g2, hp, fun k => C' k ∨ C2 k, ⟨C', C2, hv, r2.st h2 g.le g.sub ⟨g.keep.os, g.keep.tape, g.keep.output, g.keep.size, g.keep.dr⟩ (fun k hk => g.keep.block k (hC k ((h3 k).2 (.inr hk))).1 fun h => h4 k h hk), fun _ => Iff.rfl, fun k hk h2k => ?_⟩, fun k hk => ?_⟩
 ·rcases (hC' k hk).1 with h | h
  ·exact h4 k h h2k
  ·have:=(hC k ((h3 k).2 (.inr h2k))).1; omega
 ·rcases hk with hk | hk
  ·obtain ⟨a, b, c⟩:=hC' k hk
   exact ⟨a.imp (hsub k) id, b, c⟩
  ·obtain ⟨a, b⟩:=hC k ((h3 k).2 (.inr hk))
   exact ⟨.inl ((h3 k).2 (.inr hk)), Nat.lt_of_lt_of_le a g.keep.size, (g.fresh k a fun h => h4 k h hk).trans b⟩
theorem RetY.conv {P:Program} {f:FuncId} {args:List Value} {w:World} {B:Heap} {C:Nat → Prop} {r r':GR} {φ:Value → Heap → Prop} (h:RetY P f args w B C r φ) (hi:∀ H u C, r.P H u C → r'.P H u C):RetY P f args w B C r' φ :=
 Calls.mono h fun _ _ ⟨v, he, H, g, hp, C', hv, hC'⟩ => ⟨v, he, H, g, hp, C', hi _ _ _ hv, hC'⟩
theorem zws {r1 r2:GR} {H:Heap} {u:World} {C:Nat → Prop} (h:(zf3 r1 r2).P H u C):(zf3 r2 r1).P H u C :=
 let ⟨C1, C2, h1, h2, h3, h4⟩:=h
 ⟨C2, C1, h2, h1, fun k => (h3 k).trans or_comm, fun k a b => h4 k b a⟩
section
variable {P:Program} {F:Fr} {B:Heap} {O:Boxes} {n:Nat} {ops:Array Oper} {κ:Kap} {d:Nat} {ty:TypeId} {pos:String} {aft:Array Edge} {g:Option (Nat × Bool)} {Q:Exit → Act → World → Prop} {a:Act} {u:World} {os:List Oper}
end
end Go.V
set_option maxRecDepth 20000
namespace Go.V.L11
open Go.Proofs Go.RowKit Go.V Go.V.L4
theorem _root_.Go.V.Zfc {A B:Prop} (h:B) (t:Wr B → A:=by intro h; refine zdk 900 901 rfl (zf9 _ _ _) ?_;exact h.h):A:=t ⟨h⟩
theorem _root_.Go.V.ZfS {A B:Prop} (h:B) (t:Wr B → A:=by intro h; refine z7 (y5 (cs:=[_, _]) rfl rfl z5m rfl rfl) rfl ?_;refine z7 (zo3 rfl rfl rfl (by kernel_rfl)) rfl ?_;exact h.h):A:=t ⟨h⟩
abbrev zxs:TypeId:=157
abbrev z6s:TypeId:=252
abbrev zbh (sb rb:Nat) (sv:Value) (fr:Int) (R:Rd):GR:=zf3 (zab sb [za0 rb, .int .i64 fr] zxs) (GRd rb sv R)
abbrev wrV (a e:Int):Value:=.iface z6s (.agg #[.int .i64 a, .int .i64 e])
attribute [local irreducible] V N X VO Par XP StepOK Has Ret RetL RetO RetT zbd RetX RetY Pan Src
theorem zqk {sb rb:Nat} {sv:Value} {R R2:Rd} {fr0 x:Int} {fr:Nat} {fst cap:List Value} (hfn:L.fn fr = some ()) (he:R2.err = 0) {w:World} {B:Heap} {C:Nat → Prop} (hB:B.Le (hp w)) (hr:(zbh sb rb sv fr0 R).P B w C) (hC:∀ k, C k → k < w.heap.size ∧ B k = none) (hf:∀ (u:World) (H:Heap) (C:Nat → Prop), H.Le (hp u) → B.Le H → (zbh sb rb sv R.at_ R).P H u C → (∀ k, C k → k < u.heap.size ∧ H k = none) → RetX Tryz.prog fr (fst ++ cap) u H C (zbh sb rb sv R.at_ R2) (.int .i64 x)) :
  RetX Tryz.prog 136 [za0 sb, .func (.func fr) fst.toArray cap.toArray] w B C (zbh sb rb sv R.at_ R2) (.int .i64 x):=by
 unfold RetX
 refine zag 900 (zbh sb rb sv fr0 R) Tryz.func136 rfl Tryz.ntmps136 (Nat.le_of_ble_eq_true rfl) hB hr hC ?_
 rw [zd1, zae, zae]
 refine Zfc ?_
 refine Zaq ?_;refine Zb ?_;refine Z0 ?_;refine qg (yd L 901 (GRd rb sv R) (.int .i64 R.at_) (r:=GRd rb sv R) rfl rfl rfl rfl rfl (fun u H C2 hH _ hr2 hC2 => zxc hH hr2 hC2)) ?_;refine Zar ?_;refine zal (qz L (q:=900) (cs':=[za0 rb, .int .i64 R.at_]) rfl rfl rfl rfl rfl rfl rfl rfl rfl) ?_;refine Zj ?_
 refine zcw 900 901 rfl rfl (zaq (GRd rb sv R)) ?_
 refine Z1 ?_;refine qg (zdw L 900 (zbh sb rb sv R.at_ R2) (.int .i64 x) (r:=zbh sb rb sv R.at_ R) rfl rfl rfl hfn rfl hf) ?_;refine Zi ?_
 refine zdk (r1:=(zab sb [za0 rb, .int .i64 R.at_] zxs).res) (r2:=(GRd rb sv R2).res) 900 901 rfl (zaq (GRd rb sv R2)) ?_
 rw [zae]
 refine Zm ?_;refine Z0 ?_;refine qg (yd L 901 (GRd rb sv R2) (.tuple #[.int .i64 R2.bad, .int .i64 R2.err]) (r:=GRd rb sv R2) rfl rfl rfl rfl rfl (fun u H C2 hH _ hr2 hC2 => zfy hH hr2 hC2)) ?_;refine Zaa ?_;refine Zk ?_;refine Zad ?_;refine ZJ ?_;refine Zc ?_
 refine zcw 900 901 rfl rfl (zaq (GRd rb sv R2)) ?_
 exact za2 L 900 (r:=zbh sb rb sv R.at_ R2) (rs:=[.tmp 4]) rfl (fun _ _ h => h) Since.refl rfl rfl (fun _ => rfl)
theorem zql {sb rb:Nat} {sv:Value} {R R2:Rd} {fr0 x:Int} {fr:Nat} {fst cap:List Value} (hfn:L.fn fr = some ()) (he:R2.err ≠ 0) {w:World} {B:Heap} {C:Nat → Prop} (hB:B.Le (hp w)) (hr:(zbh sb rb sv fr0 R).P B w C) (hC:∀ k, C k → k < w.heap.size ∧ B k = none) (hf:∀ (u:World) (H:Heap) (C:Nat → Prop), H.Le (hp u) → B.Le H → (zbh sb rb sv R.at_ R).P H u C → (∀ k, C k → k < u.heap.size ∧ H k = none) → RetX Tryz.prog fr (fst ++ cap) u H C (zbh sb rb sv R.at_ R2) (.int .i64 x)) :
  Pan Tryz.prog 136 [za0 sb, .func (.func fr) fst.toArray cap.toArray] w B C (wrV R2.bad R2.err):=by
 refine zgc 900 (zbh sb rb sv fr0 R) Tryz.func136 rfl Tryz.ntmps136 (Nat.le_of_ble_eq_true rfl) hB hr hC ?_
 rw [zd1, zae, zae]
 refine Zfc ?_
 refine Zaq ?_;refine Zb ?_;refine Z0 ?_;refine qg (yd L 901 (GRd rb sv R) (.int .i64 R.at_) (r:=GRd rb sv R) rfl rfl rfl rfl rfl (fun u H C2 hH _ hr2 hC2 => zxc hH hr2 hC2)) ?_;refine Zar ?_;refine zal (qz L (q:=900) (cs':=[za0 rb, .int .i64 R.at_]) rfl rfl rfl rfl rfl rfl rfl rfl rfl) ?_;refine Zj ?_
 refine zcw 900 901 rfl rfl (zaq (GRd rb sv R)) ?_
 refine Z1 ?_;refine qg (zdw L 900 (zbh sb rb sv R.at_ R2) (.int .i64 x) (r:=zbh sb rb sv R.at_ R) rfl rfl rfl hfn rfl hf) ?_;refine Zi ?_
 refine zdk (r1:=(zab sb [za0 rb, .int .i64 R.at_] zxs).res) (r2:=(GRd rb sv R2).res) 900 901 rfl (zaq (GRd rb sv R2)) ?_
 rw [zae]
 refine Zm ?_;refine Z0 ?_;refine qg (yd L 901 (GRd rb sv R2) (.tuple #[.int .i64 R2.bad, .int .i64 R2.err]) (r:=GRd rb sv R2) rfl rfl rfl rfl rfl (fun u H C2 hH _ hr2 hC2 => zfy hH hr2 hC2)) ?_;refine Zaa ?_;refine Zk ?_;refine Zbv ?_;refine Z8 ?_;refine zd3 (id:=5) 4 rfl ?_;refine Zb ?_;refine ZfS ?_;refine zk ?_;refine zqw (K:=4) rfl rfl rfl ?_
 repeat (first | refine zfk ?_ | refine zd8 ?_)
 exact zra Since.refl
theorem zgp {sb rb:Nat} {sv:Value} {R R2:Rd} {fr0 x:Int} {fr:Nat} {fst cap:List Value} (hfn:L.fn fr = some ()) (he:R2.err = 0) {w:World} {B:Heap} {C:Nat → Prop} (hB:B.Le (hp w)) (hr:(zbh sb rb sv fr0 R).P B w C) (hC:∀ k, C k → k < w.heap.size ∧ B k = none) (hf:∀ (u:World) (H:Heap) (C:Nat → Prop), H.Le (hp u) → B.Le H → (zbh sb rb sv R.at_ R).P H u C → (∀ k, C k → k < u.heap.size ∧ H k = none) → RetX Tryz.prog fr (fst ++ cap) u H C (zbh sb rb sv R.at_ R2) (.int .u64 x)) :
  RetX Tryz.prog 75 [za0 sb, .func (.func fr) fst.toArray cap.toArray] w B C (zbh sb rb sv R.at_ R2) (.int .u64 x):=by
 unfold RetX
 refine zag 900 (zbh sb rb sv fr0 R) Tryz.func75 rfl Tryz.ntmps75 (Nat.le_of_ble_eq_true rfl) hB hr hC ?_
 rw [zd1, zae, zae]
 refine Zfc ?_
 refine Zaq ?_;refine Zb ?_;refine Z0 ?_;refine qg (yd L 901 (GRd rb sv R) (.int .i64 R.at_) (r:=GRd rb sv R) rfl rfl rfl rfl rfl (fun u H C2 hH _ hr2 hC2 => zxc hH hr2 hC2)) ?_;refine Zar ?_;refine zal (qz L (q:=900) (cs':=[za0 rb, .int .i64 R.at_]) rfl rfl rfl rfl rfl rfl rfl rfl rfl) ?_;refine Zj ?_
 refine zcw 900 901 rfl rfl (zaq (GRd rb sv R)) ?_
 refine Z1 ?_;refine qg (zdw L 900 (zbh sb rb sv R.at_ R2) (.int .u64 x) (r:=zbh sb rb sv R.at_ R) rfl rfl rfl hfn rfl hf) ?_;refine Zi ?_
 refine zdk (r1:=(zab sb [za0 rb, .int .i64 R.at_] zxs).res) (r2:=(GRd rb sv R2).res) 900 901 rfl (zaq (GRd rb sv R2)) ?_
 rw [zae]
 refine Zm ?_;refine Z0 ?_;refine qg (yd L 901 (GRd rb sv R2) (.tuple #[.int .i64 R2.bad, .int .i64 R2.err]) (r:=GRd rb sv R2) rfl rfl rfl rfl rfl (fun u H C2 hH _ hr2 hC2 => zfy hH hr2 hC2)) ?_;refine Zaa ?_;refine Zk ?_;refine Zad ?_;refine ZJ ?_;refine Zc ?_
 refine zcw 900 901 rfl rfl (zaq (GRd rb sv R2)) ?_
 exact za2 L 900 (r:=zbh sb rb sv R.at_ R2) (rs:=[.tmp 4]) rfl (fun _ _ h => h) Since.refl rfl rfl (fun _ => rfl)
theorem zf7 {sb rb:Nat} {sv:Value} {R:Rd} {fr0 e:Int} {w:World} {B:Heap} {C:Nat → Prop} (hB:B.Le (hp w)) (hr:(zbh sb rb sv fr0 R).P B w C) (hC:∀ k, C k → k < w.heap.size ∧ B k = none):zbd Tryz.prog 74 [za0 sb, .bool true, .int .i64 e] w B C (zbh sb rb sv fr0 R):=by
 unfold zbd
 refine zag 900 (zbh sb rb sv fr0 R) Tryz.func74 rfl Tryz.ntmps74 (Nat.le_of_ble_eq_true rfl) hB hr hC ?_
 refine ZbE ?_;refine Zr ?_;refine Zab ?_
 exact zau L 900 (r:=zbh sb rb sv fr0 R) rfl (fun _ _ h => h) Since.refl rfl rfl
theorem zry {sb rb:Nat} {sv:Value} {R:Rd} {fr0 e:Int} {w:World} {B:Heap} {C:Nat → Prop} (hB:B.Le (hp w)) (hr:(zbh sb rb sv fr0 R).P B w C) (hC:∀ k, C k → k < w.heap.size ∧ B k = none):Pan Tryz.prog 74 [za0 sb, .bool false, .int .i64 e] w B C (wrV fr0 e):=by
 refine zgc 900 (zbh sb rb sv fr0 R) Tryz.func74 rfl Tryz.ntmps74 (Nat.le_of_ble_eq_true rfl) hB hr hC ?_
 rw [zd1, zae, zae]
 refine Zfc ?_
 refine ZbE ?_;refine Zr ?_;refine Z8 ?_;refine zd3 (id:=1) 7 rfl ?_;refine Za ?_;refine Z0 ?_;refine Za ?_;refine ZfS ?_;refine zk ?_;refine zqw (K:=7) rfl rfl rfl ?_
 repeat (first | refine zfk ?_ | refine zd8 ?_)
 exact zra Since.refl
end Go.V.L11
set_option maxRecDepth 20000
namespace Go.V.L11
open Go.Proofs Go.RowKit Go.V Go.V.L4
attribute [local irreducible] V N X VO Par XP StepOK Has Ret RetL RetO RetT zbd RetX RetY Pan Src
theorem zom {sb rb b2 b3 lim:Nat} {sv:Value} {R:Rd} {fr0:Int} {bs:List Nat} {fu:Bool} (hb:∀ b ∈ bs, b ≤ 255) (hl:bs.length ≤ 1099511627776) (hat:R.at_ ≤ bs.length) (hlim:lim ≤ 1099511627776) {w:World} {B:Heap} {C:Nat → Prop} (hB:B.Le (hp w)) (hs:BsV bs fu sv B) (h2:B b2 = some (.cells #[za0 sb] 153)) (h3:B b3 = some (.cells #[.int .i64 lim] 3)) (hr:(zbh sb rb sv fr0 R).P B w C) (hC:∀ k, C k → k < w.heap.size ∧ B k = none) :
  RetX Tryz.prog 137 [za0 b2, za0 b3] w B C (zbh sb rb sv fr0 (zgu bs lim R).2) (.int .i64 (zgu bs lim R).1):=by
 unfold RetX
 refine zag 900 (zbh sb rb sv fr0 R) Tryz.func137 rfl Tryz.ntmps137 (Nat.le_of_ble_eq_true rfl) hB hr hC ?_
 rw [zd1, zae, zae]
 refine Zfc ?_
 refine ZG ?_;refine Zd ?_;refine q6 (id:=1) [(200006, [900]), (8, [901])] mixed (by kernel_rfl) ?_;refine z8 (q7 L (qt rfl h2) rfl rfl rfl rfl) rfl ?_;refine Zfn ?_;refine Zen ?_;refine z8 (q7 L (qt rfl h3) rfl rfl rfl rfl) rfl ?_;refine za6 (yd L 901 (GRd rb sv (zgu bs lim R).2) (.int .i64 (zgu bs lim R).1) (r:=GRd rb sv R) rfl rfl rfl rfl rfl (fun u H C2 hH hle hr2 hC2 => len_ret hlim hb hl hat hH (hs.le hle) hr2 hC2)) rfl rfl ?_;refine ZB ?_
 refine zcw 900 901 rfl rfl (zaq (GRd rb sv (zgu bs lim R).2)) ?_
 exact za2 L 900 (r:=zbh sb rb sv fr0 (zgu bs lim R).2) (rs:=[.tmp 2]) rfl (fun _ _ h => h) Since.refl rfl rfl (fun _ => rfl)
theorem size_ret {sb rb lim:Nat} {sv:Value} {R:Rd} {fr0:Int} {bs:List Nat} {fu:Bool} (hb:∀ b ∈ bs, b ≤ 255) (hl:bs.length ≤ 1099511627776) (hat:R.at_ ≤ bs.length) (hlim:lim ≤ 1099511627776) (he:(zgu bs lim R).2.err = 0) {w:World} {B:Heap} {C:Nat → Prop} (hB:B.Le (hp w)) (hs:BsV bs fu sv B) (hr:(zbh sb rb sv fr0 R).P B w C) (hC:∀ k, C k → k < w.heap.size ∧ B k = none) :
  RetX Tryz.prog 73 [za0 sb, .int .i64 lim] w B C (zbh sb rb sv R.at_ (zgu bs lim R).2) (.int .i64 (zgu bs lim R).1):=by
 unfold RetX
 refine zag 900 (zbh sb rb sv fr0 R) Tryz.func73 rfl Tryz.ntmps73 (Nat.le_of_ble_eq_true rfl) hB hr hC ?_
 refine ZaF ?_;refine Zd6 ?_;refine Zd ?_
 refine za3 2 902 rfl fun b2 => ?_
 refine za3 3 903 rfl fun b3 => ?_
 refine zgl 902 rfl fun H1 hs1 _ h2 => ?_
 refine zgl 903 rfl fun H2 hs2 _ h3 => ?_
 have h2:=hs2.le _ _ h2
 have hs12:=hs1.trans hs2
 have hs':=hs.le hs12.le
 have hcl:∀ (u:World) (H:Heap) (C:Nat → Prop), H2.Le H → H.Le (hp u) → (zbh sb rb sv R.at_ R).P H u C → (∀ k, C k → k < u.heap.size ∧ H k = none) → RetX Tryz.prog 137 ([] ++ [za0 b2, za0 b3]) u H C (zbh sb rb sv R.at_ (zgu bs lim R).2) (.int .i64 (zgu bs lim R).1):=fun u H C3 hle hH hr3 hC3 => zom hb hl hat hlim hH (hs'.le hle) (hle _ _ h2) (hle _ _ h3) hr3 hC3
 refine Z6 ?_;refine z7 (q7 L (qt rfl h2) rfl rfl rfl rfl) rfl ?_;refine Zb1 ?_;refine qg (yd L 900 (zbh sb rb sv R.at_ (zgu bs lim R).2) (.int .i64 (zgu bs lim R).1) (r:=zbh sb rb sv fr0 R) rfl rfl rfl rfl rfl (fun u H C2 hH hle hr2 hC2 => zqk (fst:=[]) (cap:=[za0 b2, za0 b3]) rfl he hH hr2 hC2 (fun u3 H3 C3 hH3 hle3 hr3 hC3 => hcl u3 H3 C3 (hle.trans hle3) hH3 hr3 hC3))) ?_;refine Zc ?_
 exact za2 L 900 (r:=zbh sb rb sv R.at_ (zgu bs lim R).2) (rs:=[.tmp 4]) rfl (fun _ _ h => h) hs12 rfl rfl (fun _ => rfl)
theorem zyf {sb rb lim:Nat} {sv:Value} {R:Rd} {fr0:Int} {bs:List Nat} {fu:Bool} (hb:∀ b ∈ bs, b ≤ 255) (hl:bs.length ≤ 1099511627776) (hat:R.at_ ≤ bs.length) (hlim:lim ≤ 1099511627776) (he:(zgu bs lim R).2.err ≠ 0) {w:World} {B:Heap} {C:Nat → Prop} (hB:B.Le (hp w)) (hs:BsV bs fu sv B) (hr:(zbh sb rb sv fr0 R).P B w C) (hC:∀ k, C k → k < w.heap.size ∧ B k = none) :
  Pan Tryz.prog 73 [za0 sb, .int .i64 lim] w B C (wrV (zgu bs lim R).2.bad (zgu bs lim R).2.err):=by
 refine zgc 900 (zbh sb rb sv fr0 R) Tryz.func73 rfl Tryz.ntmps73 (Nat.le_of_ble_eq_true rfl) hB hr hC ?_
 refine ZaF ?_;refine Zd6 ?_;refine Zd ?_
 refine za3 2 902 rfl fun b2 => ?_
 refine za3 3 903 rfl fun b3 => ?_
 refine zgl 902 rfl fun H1 hs1 _ h2 => ?_
 refine zgl 903 rfl fun H2 hs2 _ h3 => ?_
 have h2:=hs2.le _ _ h2
 have hs12:=hs1.trans hs2
 have hs':=hs.le hs12.le
 have hcl:∀ (u:World) (H:Heap) (C:Nat → Prop), H2.Le H → H.Le (hp u) → (zbh sb rb sv R.at_ R).P H u C → (∀ k, C k → k < u.heap.size ∧ H k = none) → RetX Tryz.prog 137 ([] ++ [za0 b2, za0 b3]) u H C (zbh sb rb sv R.at_ (zgu bs lim R).2) (.int .i64 (zgu bs lim R).1):=fun u H C3 hle hH hr3 hC3 => zom hb hl hat hlim hH (hs'.le hle) (hle _ _ h2) (hle _ _ h3) hr3 hC3
 refine zd3 (id:=1) 2 rfl ?_;refine z7 (q7 L (qt rfl h2) rfl rfl rfl rfl) rfl ?_;refine Zb1 ?_;refine zk ?_;refine zfu (r:=(zbh sb rb sv fr0 R).res) (K:=2) L 900 rfl rfl rfl rfl rfl (fun u H C2 hH hle hr2 hC2 => zql (fst:=[]) (cap:=[za0 b2, za0 b3]) rfl he hH hr2 hC2 (fun u3 H3 C3 hH3 hle3 hr3 hC3 => hcl u3 H3 C3 (hle.trans hle3) hH3 hr3 hC3)) (fun _ _ _ _ h => h) ?_
 repeat (first | refine zfk ?_ | refine zd8 ?_)
 exact zra hs12
theorem zs5 {sb rb:Nat} {sv:Value} {R:Rd} {fr0:Int} {bs:List Nat} {fu:Bool} (hl:bs.length ≤ 1099511627776) (hat:R.at_ ≤ bs.length) (he:(zww bs R).2 ≠ 0) {w:World} {B:Heap} {C:Nat → Prop} (hB:B.Le (hp w)) (hs:BsV bs fu sv B) (hr:(zbh sb rb sv fr0 R).P B w C) (hC:∀ k, C k → k < w.heap.size ∧ B k = none) :
  Pan Tryz.prog 79 [za0 sb] w B C (wrV (zww bs R).1 (zww bs R).2):=by
 refine zgc 900 (zbh sb rb sv fr0 R) Tryz.func79 rfl Tryz.ntmps79 (Nat.le_of_ble_eq_true rfl) hB hr hC ?_
 rw [zd1, zae, zae]
 refine Zfc ?_
 refine ZbE ?_;refine Z0 ?_;refine qg (yd L 901 (GRd rb sv R) (.tuple #[.int .i64 (zww bs R).1, .int .i64 (zww bs R).2]) (r:=GRd rb sv R) rfl rfl rfl rfl rfl (fun u H C2 hH hle hr2 hC2 => z18 hl hat hH (hs.le hle) hr2 hC2)) ?_;refine ZbU ?_;refine Zu ?_;refine Zbj ?_;refine Zbv ?_;refine Z8 ?_;refine zd3 (id:=2) 4 rfl ?_;refine Zb ?_;refine ZfS ?_;refine zk ?_;refine zqw (K:=4) rfl rfl rfl ?_
 repeat (first | refine zfk ?_ | refine zd8 ?_)
 exact zra Since.refl
end Go.V.L11
set_option maxRecDepth 20000
namespace Go.V
open Go.RowKit
section rec
variable {F:Fence} {nn:Nat} {P:Program} {Q:Exit → Act → List Frame → World → Prop} {a:Act} {cs:List Frame} {w:World}
theorem zmi {id d:Nat} {o:Oper} {l:List Oper} {v:Value} {cs':List Frame} (hro:F.round = none) (hd:o.dst = some d) (hop:o.op = .call { callee:=.builtin .recover, args:=#[], argTypes:=#[] }) (hgd:o.guard = none) (hrec:(recoverD cs = some (v, cs')) ∨ (recoverD cs = none ∧ v = .nilIface ∧ cs' = cs))
  (h:wpOpsIn F nn P (o :: l).toArray (fun e a' w' => Q e a' cs' w') (List.range' 1 l.length) (a.put (some d) v) w):(Code.region id (o :: l).toArray false).wpSIn F nn P Q a cs w:=fun b k hb hr hF hroom => by
 have hlen:cs'.length = cs.length:=by
  rcases hrec with h | ⟨_, _, rfl⟩
  ·exact recoverD_length h
  ·rfl
 obtain ⟨e, a', w', hq, harr⟩:=wp_opsIn _ _ _ h b k cs' (hr.trans hro.symm) hF (hlen ▸ hroom)
 have hsz:List.range (o :: l).toArray.size = 0 :: List.range' 1 l.length:=by rw [List.range_eq_range']; simp [List.range'_succ]
 have ho:(o :: l).toArray[0]? = some o:=by simp
 have hw:Region.wanted o (yielded (o :: l).toArray a.tmps) = true:=by unfold Region.wanted; rw [hgd]
 have hg:=stepGR_op (P:=P) (b:=b) (k:=k) (cs:=cs) (w:=w) (rest:=List.range' 1 l.length) ho hw
 rw [hr, Oper.semAt_none] at hg
 have hrun:(execOp a.eval o).run P w = .ok .recover w:=by unfold execOp; rw [hop]; rfl
 have hfin:∀ v, (b.atR a (.inRegion (o :: l).toArray (0 :: List.range' 1 l.length) :: k)).finish v = b.atR (a.put o.dst v) (.inRegion (o :: l).toArray (List.range' 1 l.length) :: k):=by
  intro v; rw [Frame.finish_atR, ho]; rfl
 have hk:(b.atR a (.inRegion (o :: l).toArray (0 :: List.range' 1 l.length) :: k)).kind = .deferred:=hb
 have htr:=tryRecover_deferred hk cs
 have habout:∀ f, o.about P w a.eval = some f → F.fn f:=fun f hf => by
  unfold Oper.about at hf
  rw [hop] at hf
  cases hf
 have hst:step P (lone (b.atR a (.inRegion (o :: l).toArray (0 :: List.range' 1 l.length) :: k)) cs w) = .next (lone (b.atR (a.put (some d) v) (.inRegion (o :: l).toArray (List.range' 1 l.length) :: k)) cs' w):=by
  refine step_lone_go ?_
  rw [hg, ← hd, ← hfin]
  simp only [Frame.atR, hr] at htr ⊢
  rcases hrec with h1 | ⟨h1, rfl, rfl⟩
  ·simp [stepG.apply, hrun, htr, h1]
  ·simp [stepG.apply, hrun, htr, h1]
 have hreg:step P (lone (b.atR a (.code (.region id (o :: l).toArray false) :: k)) cs w) = _:=stepR_region
 rw [hsz] at hreg
 exact ⟨e, a', cs', w', hlen, hq, .of_steps (.one (fenced_calm hF hroom rfl) hreg) (.of_steps (.one (fenced_oper hF hroom ho habout) hst) harr)⟩
end rec
section code
variable {P:Program} {F:Fr} {B:Heap} {n:Nat} {O:Boxes} {κ:Kap} {Q:Exit → Act → World → Prop} {ops:Array Oper}
def QR (P:Program) (F:Fr) (ops:Array Oper) (K:Nat) (Q:Exit → Act → World → Prop):Exit → Act → World → Prop:=fun _ a u => wpOpsIn (FW F.r) 0 P ops Q (List.range' K (ops.size - K)) a u
theorem zhk {id:Nat} {l:List Oper} (K:Nat) (hK:Nat.ble K l.length = true) (h:VO P F B n O l.toArray κ (l.take K) (QR P F l.toArray K Q)):V P F B n O κ (.region id l.toArray false) Q:=fun a u hh => by
 refine wpIn_region ?_
 have hK:=Nat.le_of_ble_eq_true hK
 have hsplit:List.range l.toArray.size = List.range' 0 K ++ List.range' K (l.toArray.size - K):=by
  rw [List.range_eq_range']
  have:=List.range'_append_1 (s:=0) (m:=K) (n:=l.toArray.size - K)
  rw [Nat.zero_add] at this
  rw [this, Nat.add_sub_cancel' (by simpa using hK)]
 rw [hsplit]
 have key:∀ (m i:Nat) {a:Act} {u:World}, i + m = K → Ops P l.toArray (fun a u => QR P F l.toArray K Q .normal a u) ((l.drop i).take m) a u →
   wpOpsIn (FW F.r) 0 P l.toArray Q (List.range' i m ++ List.range' K (l.toArray.size - K)) a u:=by
  intro m
  induction m with
  | zero =>
   intro i a u hi ho
   rw [List.take_zero] at ho
   exact ho
  | succ m ih =>
   intro i a u hi ho
   have hil:i < l.length:=by omega
   rw [List.drop_eq_getElem_cons hil, List.take_succ_cons] at ho
   have hg:l.toArray[i]? = some l[i]:=by rw [List.getElem?_toArray, List.getElem?_eq_getElem hil]
   rw [List.range'_succ, List.cons_append, wpOpsIn_cons]
   exact After.wpOpIn hg (After.mono (fun a' u' hh' => ih (i + 1) (by omega) hh') ho)
 exact key K 0 (by omega) (by rw [List.drop_zero]; exact h a u hh)
abbrev dfd (f:Nat) (cap:List Value):Deferred:={ target:=.fn (.func f) cap.toArray, args:=#[] }
theorem zm9 {K:Nat} {ty:TypeId} {pos:String} {aft:Array Edge} {f:Nat} {cap:List Value} {fo:Operand} (hds:F.ds = []) (hr:F.r = none)
  (ho:ops[K]? = some ⟨none, .defer { callee:=.value fo, args:=#[], argTypes:=#[] }, ty, pos, aft, none⟩) (hf:evK κ fo = some (.func (.func f) #[] cap.toArray))
  (h:VO P ⟨F.w0, F.r, [.u (dfd f cap)], F.L⟩ B n O ops κ (ops.toList.drop (K + 1)) Q):N F B n O κ (QR P F ops K Q):=by
 rintro a u ⟨H, fp, hh⟩
 have hKs:K < ops.size:=by
  rcases Nat.lt_or_ge K ops.size with h | h
  ·exact h
  ·rw [Array.getElem?_eq_none h] at ho; cases ho
 unfold QR
 rw [show ops.size - K = (ops.size - (K + 1)) + 1 by omega, List.range'_succ, wpOpsIn_cons]
 unfold wpOpIn
 rw [ho]
 dsimp only
 rw [if_pos (by unfold Region.wanted; rfl)]
 have e2:=hh.env (ops:=ops) (o:=⟨none, .defer { callee:=.value fo, args:=#[], argTypes:=#[] }, ty, pos, aft, none⟩) (κ:=κ) (fun _ _ => rfl)
 have hfe:a.eval fo = .func (.func f) #[] cap.toArray:=e2.is_ fo _ (by simp [Op.operands, Call.operands]) hf
 refine ⟨fun _ _ => trivial, ?_⟩
 have hround:(FW F.r).round = none:=by rw [hr]; rfl
 rw [hround, Oper.semAt_none]
 have hrun:(execOp a.eval ⟨none, .defer { callee:=.value fo, args:=#[], argTypes:=#[] }, ty, pos, aft, none⟩).run P u = .ok (.defer (dfd f cap)) u:=by
  unfold execOp
  dsimp only
  simp only [resolve, hfe, Deferred.ofValue, Sem.run_bind, Sem.run_pure, Result.andThen_ok]
  simp [dfd]
 rw [hrun, Oper.uponIn_defer]
 have had:a.defers = []:=by have:=hh.defers; rw [hds] at this; exact this
 refine zeb (fun _ _ h => h) (ops.size - (K + 1)) (K + 1) (by omega) (h _ u ⟨H, fp, ?_⟩)
 exact ⟨hh.size, by show dfd f cap :: a.defers = _; rw [had]; rfl, by simp, fun D hD => by simp at hD, hh.lent, hh.keep, hh.sub, hh.base, hh.fresh, hh.boxes, hh.apart, hh.slot, hh.owns, hh.mono⟩
def zt9 (P:Program) (f:Nat) (args:List Value) (w:World) (B:Heap) (C:Nat → Prop) (m m':FrameMode) (r:GR):Prop :=
 CallsDIn Fence.wide 0 P f args.toArray m w fun e u' w' => e = .returned (.tuple #[]) ∧ u' = m' ∧ ∃ H, Grow C w B w' H ∧ ∃ C', r.P H w' C' ∧ ∀ k, C' k → (C k ∨ w.heap.size ≤ k) ∧ k < w'.heap.size ∧ H k = none
def z2q (P:Program) (fn:Func) (R:World → Prop):Exit → Act → World → Prop
 | .normal, a, w | .ret, a, w => a.defers = [] ∧ (results fn a.tmps).run P w = .ok (.tuple #[]) w ∧ R w
 | _, _, _ => False
inductive RecM:FrameMode → FrameMode → Value → Prop where
 | idle:RecM .returning .returning .nilIface
 | caught (v:Value):RecM (.panicking [{ v:=v, recovered:=false }]) (.panicking [{ v:=v, recovered:=true }]) v
theorem zzu {f:Nat} {fn:Func} {id d:Nat} {o:Oper} {l:List Oper} {y:Code} {args:List Value} {w:World} {B:Heap} {C:Nat → Prop} {m m':FrameMode} {v:Value} (gs:Nat) (r0 r:GR) (hm:RecM m m' v) (hf:P.funcs[f]? = some fn)
  (hb:fn.body = some (.seq (.region id (o :: l).toArray false) y)) (hn:fn.ntmps = n) (hs:args.length ≤ n) (hd:o.dst = some d) (hdn:Nat.blt d n = true) (hop:o.op = .call { callee:=.builtin .recover, args:=#[], argTypes:=#[] }) (hgd:o.guard = none) (hB:B.Le (hp w)) (hr:r0.P B w C) (hC:∀ k, C k → k < w.heap.size ∧ B k = none)
  (h:VO P ⟨w, none, [], C⟩ B n [] (o :: l).toArray (upd (upd (zh7 0 args) gs (.own r0.res)) d (.is v)) l (Exit.then (fun a u => y.wpIn (FW none) 0 P (z2q P fn fun u => ∃ H, Grow C w B u H ∧ ∃ C', r.P H u C' ∧ ∀ k, C' k → (C k ∨ w.heap.size ≤ k) ∧ k < u.heap.size ∧ H k = none) a u) (z2q P fn fun u => ∃ H, Grow C w B u H ∧ ∃ C', r.P H u C' ∧ ∀ k, C' k → (C k ∨ w.heap.size ≤ k) ∧ k < u.heap.size ∧ H k = none))) :
  zt9 P f args w B C m m' r:=by
 refine callsDIn_of_wpSIn hf hb trivial fun c0 cs hu => ?_
 have hrec:∃ cs', ((recoverD (c0 :: cs) = some (v, cs')) ∨ (recoverD (c0 :: cs) = none ∧ v = .nilIface ∧ cs' = c0 :: cs)) ∧ cs' = { c0 with mode:=m' } :: cs:=by
  cases hm with
  | idle => exact ⟨_, .inr ⟨by simp [recoverD, hu], rfl, rfl⟩, by rw [← hu]⟩
  | caught v => exact ⟨_, .inl (by simp [recoverD, hu]), rfl⟩
 obtain ⟨cs', hrec, rfl⟩:=hrec
 have hend:∀ e a u, z2q P fn (fun u => ∃ H, Grow C w B u H ∧ ∃ C', r.P H u C' ∧ ∀ k, C' k → (C k ∨ w.heap.size ≤ k) ∧ k < u.heap.size ∧ H k = none) e a u →
   bodyPostS P fn c0 cs (fun e u' w' => e = .returned (.tuple #[]) ∧ u' = m' ∧ ∃ H, Grow C w B w' H ∧ ∃ C', r.P H w' C' ∧ ∀ k, C' k → (C k ∨ w.heap.size ≤ k) ∧ k < w'.heap.size ∧ H k = none) e a ({ c0 with mode:=m' } :: cs) u:=fun e a u he => by
  cases e with
  | normal => exact ⟨he.1, m', rfl, _, he.2.1, rfl, rfl, he.2.2⟩
  | ret => exact ⟨he.1, m', rfl, _, he.2.1, rfl, rfl, he.2.2⟩
  | exit id => exact he.elim
  | goto l => exact he.elim
  | panic c => exact he.elim
  | outgrown => exact he.elim
 refine wpSIn_seq (zmi (cs':={ c0 with mode:=m' } :: cs) rfl hd hop hgd hrec ?_)
 subst hn
 have h0:=zex (B:=B) C (fun k hk => (hC k hk).1) hs hB (fun _ => noL)
 have h1:HasH ⟨w, none, [], C⟩ B [] fn.ntmps (upd (zh7 0 args) gs (.own r0.res)) { tmps:=args.toArray ++ Array.replicate (fn.ntmps - args.toArray.size) undef, defers:=[] } w B _:=h0.putR (d:=gs) (r:=r0.res) rfl rfl (fun _ _ => rfl) hr (fun k hk => ⟨(hC k hk).1, (hC k hk).2, .inr hk, fun y hy => by cases hy⟩) fun t r' _ ht => by
  obtain ⟨v, hv, _⟩:=zco _ _ _ _ ht
  cases hv
 have h2:=h1.put (d:=d) (k:=.is v) (v:=v) (zn hdn) trivial rfl
 have h3:=h _ w ⟨B, _, h2⟩
 refine zeb (Q:=fun a u => Exit.then (fun a u => y.wpIn (FW none) 0 P (z2q P fn fun u => ∃ H, Grow C w B u H ∧ ∃ C', r.P H u C' ∧ ∀ k, C' k → (C k ∨ w.heap.size ≤ k) ∧ k < u.heap.size ∧ H k = none) a u) (z2q P fn fun u => ∃ H, Grow C w B u H ∧ ∃ C', r.P H u C' ∧ ∀ k, C' k → (C k ∨ w.heap.size ≤ k) ∧ k < u.heap.size ∧ H k = none) .normal a u) (r:=none) (fun a u hy => ?_) l.length 1 (by simp; omega) (by simpa using h3)
 exact wpSIn_of_wpIn rfl (Go.wpIn_mono hy fun e a u he => hend e a u he)
theorem zyh (L:Tabs P) {fn:Func} (gs:Nat) {r:GR} (hrs:fn.results = #[]) (hd:F.ds = []) (hk:κ gs = some (.own r.res)) {B0:Heap} (hs:Since F B0 B):∀ a u, Has F B O n κ a u →
  z2q P fn (fun u => ∃ H, Grow F.L F.w0 B0 u H ∧ ∃ C', r.P H u C' ∧ ∀ k, C' k → (F.L k ∨ F.w0.heap.size ≤ k) ∧ k < u.heap.size ∧ H k = none) .normal a u:=fun a u hh => by
 obtain ⟨H, fp, hH⟩:=hh
 have h0:=hH.defers
 rw [hd] at h0
 refine ⟨h0, ?_, H, ⟨hH.keep, hH.sub, hs.le.trans hH.base, fun k hk hl => (hH.fresh k hk hl).trans (hs.fresh k hk hl)⟩, HasH.ghost hk hH⟩
 obtain ⟨vs, h1, h2⟩:=zbp L hH (rs:=[]) hrs (K:=fun vs => vs = []) rfl
 subst h2
 exact h1
theorem zxg (L:Tabs P) {fn:Func} (gs:Nat) {r r':GR} (hrs:fn.results = #[]) (hk:κ gs = some (.own r.res)) (e:r = r') {B0:Heap} (hs:Since F B0 B) (hd:F.ds = []:=by rfl) :
  N F B n O κ (z2q P fn fun u => ∃ H, Grow F.L F.w0 B0 u H ∧ ∃ C', r'.P H u C' ∧ ∀ k, C' k → (F.L k ∨ F.w0.heap.size ≤ k) ∧ k < u.heap.size ∧ H k = none):=by
 subst e
 exact zyh L gs hrs hd hk hs
def LV (P:Program) (F:Fr) (B:Heap) (n:Nat) (O:Boxes) (κ:Kap) (fn:Func) (R:Ending → World → Prop):Prop:=∀ a u, Has F B O n κ a u → ∃ v, (results fn a.tmps).run P u = .ok v u ∧ R (.returned v) u
theorem zwl (L:Tabs P) {fn:Func} {R:Ending → World → Prop} {f:Nat} {cap:List Value} {m m':FrameMode} (q:Nat) {r r':GR} (hds:F.ds = [.u (dfd f cap)]) (hfn:L.fn f = some ()) (hq:κ q = some (.own r.res)) (hm:m ≠ .run) (hm':settle m' = .returning)
  (hc:∀ u H C, H.Le (hp u) → B.Le H → r.P H u C → (∀ k, C k → k < u.heap.size ∧ H k = none) → zt9 P f cap u H C m m' r') (h:LV P ⟨F.w0, F.r, [], F.L⟩ B n O (upd κ q (.own r'.res)) fn R) :
  ∀ a u, Has F B O n κ a u → LeavesInM Fence.wide 0 P fn a.tmps R a.defers m u:=fun a u hh => by
 obtain ⟨H, fp, hH⟩:=hh
 have h0:=hH.defers
 rw [hds] at h0
 rw [h0]
 obtain ⟨hown, hM⟩:=hH.slot q _ hq
 have hc:=hc u H (fp q) hH.sub hH.base hown fun k hk => ⟨(hM k hk).1, (hM k hk).2.1⟩
 refine ⟨hm, .inr ⟨fun h => (by cases h), .func f, cap.toArray, f, cap.toArray, rfl, ?_, fun _ _ => trivial, ?_⟩⟩
 ·show (callFunc f (#[] ++ cap.toArray)).run P u = _
  rw [zdb L hfn]
  simp
 ·refine CallsDIn.mono hc fun e u' w' hp => ?_
  obtain ⟨rfl, rfl, H', g', C', hr', hC'⟩:=hp
  show LeavesInM Fence.wide 0 P fn a.tmps R [] (settle u') w'
  rw [hm']
  have h2:=hH.usePut (d:=q) (a':=a) (r':=r'.res) hq g' rfl rfl (fun _ _ => rfl) hr' hC'
  rw [zbv] at h2
  exact h { a with defers:=[] } w' ⟨H', _, h2.size, rfl, List.nodup_nil, fun D hD => (by cases hD), h2.lent, h2.keep, h2.sub, h2.base, h2.fresh, h2.boxes, h2.apart, h2.slot, h2.owns, h2.mono⟩
theorem z0t (L:Tabs P) {fn:Func} {R:Ending → World → Prop} {pv:Value} {f:Nat} {cap:List Value} (q:Nat) {r r':GR} (hds:F.ds = [.u (dfd f cap)]) (hfn:L.fn f = some ()) (hq:κ q = some (.own r.res))
  (hc:∀ u H C, H.Le (hp u) → B.Le H → r.P H u C → (∀ k, C k → k < u.heap.size ∧ H k = none) → zt9 P f cap u H C (.panicking [{ v:=pv, recovered:=false }]) (.panicking [{ v:=pv, recovered:=true }]) r') (h:LV P ⟨F.w0, F.r, [], F.L⟩ B n O (upd κ q (.own r'.res)) fn R)
  (hQ:∀ a u, bodyPostM Fence.wide 0 P fn R (.panic [{ v:=pv, recovered:=false }]) a u → Q (.panic [{ v:=pv, recovered:=false }]) a u):XP F B n O κ pv Q:=fun a u hh => hQ a u (zwl L q hds hfn hq (by simp) rfl hc h a u hh)
theorem z34 (L:Tabs P) {fn:Func} {B0:Heap} {φ:Value → Heap → Prop} {rs:List ResultVar} (hrs:fn.results = rs.toArray) (hs:Since F B0 B) (h:∀ u H, H.Le (hp u) → B.Le H → znv L F B O κ H rs [] (fun vs => φ (tup vs) H)):LV P F B n O κ fn (zff F.w0 B0 F.L fun v H _ => φ v H):=fun a u hh => by
 obtain ⟨H, fp, hH⟩:=hh
 obtain ⟨vs, h1, h2⟩:=zbp L hH hrs (h u H hH.sub hH.base)
 exact ⟨_, h1, _, rfl, H, ⟨hH.keep, hH.sub, hs.le.trans hH.base, fun k hk hl => (hH.fresh k hk hl).trans (hs.fresh k hk hl)⟩, h2⟩
theorem zwc (q g1:Nat) {fn:Func} {R:Ending → World → Prop} {r1 r2:Res} (hk:κ q = some (.own (zho r1 r2))) (hg1:∀ v v' H u C, r2.P v H u C → r2.P v' H u C) (h:LV P F B n O (upd (upd κ q (.own r1)) g1 (.own r2)) fn R) (hne:q ≠ g1:=by decide):LV P F B n O κ fn R:=fun a u hh => h a u (hh.part hne hg1 hk)
theorem zh3 (t q:Nat) {fn:Func} {R:Ending → World → Prop} {b:Nat} {cs:List Value} {ty:TypeId} (hk:κ q = some (.own (zaj b cs ty))) (ht:κ t = some (.is (.pointer (some ⟨b, 0, none⟩)))) (h:LV P F B n O (upd (upd κ q zdx) t (.own (Cell cs ty))) fn R):LV P F B n O κ fn R:=fun a u hh => h a u (hh.release hk ht)
theorem zq9 (q g1:Nat) {pv:Value} {r1 r2:Res} (hk:κ q = some (.own r1)) (hk1:κ g1 = some (.own r2)) (hg1:∀ v v' H u C, r2.P v H u C → r2.P v' H u C) (h:XP F B n O (upd (upd κ g1 zdx) q (.own (zho r1 r2))) pv Q) (hne:q ≠ g1:=by decide):XP F B n O κ pv Q:=fun a u hh => h a u (hh.join2 hne hg1 hk hk1)
end code
end Go.V
set_option maxRecDepth 20000
namespace Go.V.L10
open Go.Proofs Go.RowKit Go.V Go.V.L2 Go.V.L8
def kpt (R:List (Option (List U))) (r:Int):Option (List U):=if 0 < r then (R[(r - 1).toNat]?).join else none
def zgg (R:List (Option (List U))):List Int:=((List.range R.length).filter fun i => ((R[i]?).join).isSome).map fun i => ((i + 1:Nat):Int)
theorem zqy (R:List (Option (List U))) (i:Nat):kpt R ((i + 1:Nat):Int) = (R[i]?).join:=by
 unfold kpt
 rw [if_pos (by omega), show (((i + 1:Nat):Int) - 1).toNat = i by omega]
theorem zwn {R:List (Option (List U))} {r:Int} (h:(kpt R r).isSome = true):0 < r ∧ r ≤ R.length:=by
 unfold kpt at h
 split at h
 ·rename_i h0
  refine ⟨h0, ?_⟩
  cases hr:R[(r - 1).toNat]? with
  | none => rw [hr] at h; cases h
  | some x => have:=get_lt hr; omega
 ·cases h
theorem zpb {R:List (Option (List U))} {r:Int}:r ∈ zgg R ↔ (kpt R r).isSome = true:=by
 unfold zgg
 rw [List.mem_map]
 constructor
 ·rintro ⟨i, hi, rfl⟩
  rw [List.mem_filter] at hi
  rw [zqy]
  exact hi.2
 ·intro h
  have hb:=zwn h
  obtain ⟨i, rfl⟩:∃ i:Nat, r = ((i + 1:Nat):Int):=⟨(r - 1).toNat, by omega⟩
  rw [zqy] at h
  exact ⟨i, List.mem_filter.2 ⟨List.mem_range.2 (by omega), h⟩, rfl⟩
theorem zoi (R:List (Option (List U))):Sst cP (zgg R):=by
 unfold zgg Sst
 rw [List.pairwise_map]
 refine (List.Pairwise.filter _ List.pairwise_lt_range).imp ?_
 intro a b h
 exact z4m.2 (by omega)
section
variable {Y:Type}
theorem zyv (k:Int):zhq k ([]:List (Int × Y)) = none:=rfl
theorem zkk {k:Int}:∀ {l:List (Int × Y)}, (zhq k l).isSome = true ↔ k ∈ l.map Prod.fst
 | [] => by simp [zyv]
 | p :: l => by
  rw [zdy, List.map_cons, List.mem_cons]
  by_cases h:k = p.1
  ·rw [if_pos h]; simp [h]
  ·rw [if_neg h, zkk]; simp [h]
theorem znb {k:Int} {y:Y}:∀ {l:List (Int × Y)}, zhq k l = some y → (k, y) ∈ l
 | [], h => by cases h
 | p :: l, h => by
  rw [zdy] at h
  by_cases e:k = p.1
  ·rw [if_pos e] at h
   cases h
   rw [e]; exact List.mem_cons_self ..
  ·rw [if_neg e] at h
   exact List.mem_cons_of_mem _ (znb h)
end
structure MapOK {Y:Type} (es:List (Int × (List U × Y))) (R:List (Option (List U))):Prop where
 nd:(es.map Prod.fst).Nodup
 get:∀ r, (zhq r es).map Prod.fst = kpt R r
theorem MapOK.mem {Y:Type} {es:List (Int × (List U × Y))} {R:List (Option (List U))} (h:MapOK es R) {r:Int}:r ∈ es.map Prod.fst ↔ r ∈ zgg R:=by
 rw [← zkk, zpb, ← h.get r, Option.isSome_map]
theorem zyj {a b:List Int} (ha:a.Nodup) (hb:b.Nodup) (h:∀ x, x ∈ a ↔ x ∈ b):a.length = b.length:=((List.perm_ext_iff_of_nodup ha hb).2 h).length_eq
theorem MapOK.len {Y:Type} {es:List (Int × (List U × Y))} {R:List (Option (List U))} (h:MapOK es R):es.length = (zgg R).length:=by
 rw [← List.length_map (f:=Prod.fst)]
 exact zyj h.nd ((zoi R).nodup zhi) fun _ => h.mem
theorem zy0 (R:List (Option (List U))) (t:List U) (r:Int):kpt (R ++ [some t]) r = if r = ((R.length + 1:Nat):Int) then some t else kpt R r:=by
 by_cases h:r = ((R.length + 1:Nat):Int)
 ·rw [if_pos h, h, zqy]; simp
 ·rw [if_neg h]
  unfold kpt
  by_cases h0:0 < r
  ·rw [if_pos h0, if_pos h0]
   rcases Nat.lt_or_ge (r - 1).toNat R.length with hlt | hge
   ·rw [List.getElem?_append_left hlt]
   ·rw [List.getElem?_eq_none (by rw [List.length_append, List.length_singleton]; omega), List.getElem?_eq_none hge]
  ·rw [if_neg h0, if_neg h0]
theorem MapOK.add {Y:Type} {es:List (Int × (List U × Y))} {R:List (Option (List U))} (h:MapOK es R) (t:List U) (y:Y):MapOK (ztl ((R.length + 1:Nat):Int) (t, y) es) (R ++ [some t]) ∧ ztl ((R.length + 1:Nat):Int) (t, y) es = es ++ [(((R.length + 1:Nat):Int), (t, y))]:=by
 have hn:((R.length + 1:Nat):Int) ∉ es.map Prod.fst:=fun hm => by
  have:=zwn (zpb.1 (h.mem.1 hm)); omega
 have hf:ze8 ((R.length + 1:Nat):Int) es 0 = none:=by
  have h1:¬ (zhq ((R.length + 1:Nat):Int) es).isSome = true:=fun hs => hn (zkk.1 hs)
  unfold zhq at h1
  cases hm:ze8 ((R.length + 1:Nat):Int) es 0 with
  | none => rfl
  | some q => rw [hm] at h1; exact absurd rfl h1
 have he:ztl ((R.length + 1:Nat):Int) (t, y) es = es ++ [(((R.length + 1:Nat):Int), (t, y))]:=zkj hf
 refine ⟨⟨?_, fun r => ?_⟩, he⟩
 ·rw [he, List.map_append, List.nodup_append]
  refine ⟨h.nd, List.pairwise_singleton _ _, fun a ha b hb => ?_⟩
  simp only [List.map_cons, List.map_nil, List.mem_singleton] at hb
  subst hb
  exact fun e => hn (e ▸ ha)
 ·rw [zr0, zy0]
  by_cases e:r = ((R.length + 1:Nat):Int)
  ·rw [if_pos e, if_pos e]; rfl
  ·rw [if_neg e, if_neg e, h.get]
structure Sto where
 R:List (Option (List U))
 P:List Int
def newS:Sto:=⟨[some []], []⟩
def atS (S:Sto) (r:Int):List U × Int:=match kpt S.R (if r = 0 then S.R.length else r) with
 | some t => (t, 0)
 | none => ([], 14)
end Go.V.L10
set_option maxRecDepth 20000
namespace Go.V.So
open Go.Proofs Go.RowKit Go.V Go.Sort
theorem _root_.Go.V.Zl {A B:Prop} (h:B) (t:Wr B → A:=by intro h; refine z8 (q8 L _ rfl rfl rfl rfl rfl rfl rfl (by omega)) rfl ?_;exact h.h):A:=t ⟨h⟩
theorem _root_.Go.V.Zat {A B:Prop} (h:B) (t:Wr B → A:=by intro h; refine z7 (yf rfl rfl rfl rfl (by assumption)) rfl ?_;exact h.h):A:=t ⟨h⟩
theorem _root_.Go.V.Zo {A B:Prop} (h:B) (t:Wr B → A:=by intro h; refine Zp ?_;refine Zl ?_;exact h.h):A:=t ⟨h⟩
theorem _root_.Go.V.ZeJ {A B:Prop} (h:B) (t:Wr B → A:=by intro h; refine Zp ?_;refine ZdY ?_;exact h.h):A:=t ⟨h⟩
theorem _root_.Go.V.Zef {A B:Prop} (h:B) (t:Wr B → A:=by intro h; refine Zer ?_;refine Zl ?_;exact h.h):A:=t ⟨h⟩
theorem _root_.Go.V.ZaW {A B:Prop} (h:B) (t:Wr B → A:=by intro h; refine ZeZ ?_;refine Zfy ?_;exact h.h):A:=t ⟨h⟩
theorem _root_.Go.V.ZaX {A B:Prop} (h:B) (t:Wr B → A:=by intro h; refine Zb ?_;refine ZI ?_;exact h.h):A:=t ⟨h⟩
theorem _root_.Go.V.Zbf {A B:Prop} (h:B) (t:Wr B → A:=by intro h; refine ZeJ ?_;refine Zl ?_;exact h.h):A:=t ⟨h⟩
abbrev lt:Int → Int → Bool:=ltInt
abbrev tyU:TypeId:=63
attribute [local irreducible] V N X VO Par StepOK Has Ret RetL RetO zbd RetX Src
theorem isnanU (a:Int) {w:World} {B:Heap} (hB:B.Le (hp w)):Ret Tryz.prog 263 [.int .u64 a] w B (fun v _ => v = .bool false):=by
 refine qw Tryz.func263 rfl Tryz.ntmps263 (Nat.le_of_ble_eq_true rfl) hB ?_
 refine Zaq ?_;refine Zb ?_;refine ZA ?_;refine Zc ?_
 refine qv L (rs:=[.tmp 2]) rfl (fun _ _ h => h) Since.refl fun u H hH hle => ?_
 rfl
theorem z5s (a b:Int) {w:World} {B:Heap} (hB:B.Le (hp w)):Ret Tryz.prog 275 [.int .u64 a, .int .u64 b] w B (fun v _ => v = .bool (lt a b)):=by
 unfold lt ltInt
 refine qw Tryz.func275 rfl Tryz.ntmps275 (Nat.le_of_ble_eq_true rfl) hB ?_
 by_cases h:a < b
 ·rw [decide_eq_true h]
  refine Zbl ?_;refine z7 (zq L rfl rfl (zn rfl) rfl rfl rfl (fun u H hH _ _ => isnanU _ hH)) rfl ?_;refine Zak ?_;refine Zw ?_;refine ZY ?_;refine Zf ?_;refine Zc ?_
  refine qv L (rs:=[.tmp 4]) rfl (fun _ _ h => h) Since.refl fun u H hH hle => ?_
  rfl
 ·rw [decide_eq_false h]
  refine Zbl ?_;refine z7 (zq L rfl rfl (zn rfl) rfl rfl rfl (fun u H hH _ _ => isnanU _ hH)) rfl ?_;refine Zak ?_;refine Zw ?_;refine ZI ?_;refine Zf ?_;refine Zc ?_
  refine qv L (rs:=[.tmp 4]) rfl (fun _ _ h => h) Since.refl fun u H hH hle => ?_
  rfl
theorem zba {a b:Int} {f:Bool} (h:lt a b = f) {w:World} {B:Heap} (hB:B.Le (hp w)):Ret Tryz.prog 275 [.int .u64 a, .int .u64 b] w B (fun v _ => v = .bool f):=h ▸ z5s a b hB
set_option maxHeartbeats 1000000 in
set_option maxRecDepth 20000 in
theorem ins_ret {d:Array Int} {rest:List Value} {b m cap a e:Nat} (hab:a ≤ e) (he:e ≤ d.size) (hm:d.size = m) (hm1:m ≤ 100000) {w:World} {B:Heap} {C:Nat → Prop} (hB:B.Le (hp w))
  (hr:(zab b (uC d ++ rest) tyU).P B w C) (hC:∀ k, C k → k < w.heap.size ∧ B k = none) :
  zbd Tryz.prog 269 [.slice (some ⟨b, 0, none⟩) m cap, .int .i64 a, .int .i64 e] w B C (zab b (uC (insertionSort lt d a e) ++ rest) tyU):=by
 unfold zbd
 refine zag 900 (zab b (uC d ++ rest) tyU) Tryz.func269 rfl Tryz.ntmps269 (Nat.le_of_ble_eq_true rfl) hB hr hC ?_
 rw [zae]
 have hw0:IntKind.i64.wrap ((a:Int) + 1) = ((a + 1:Nat):Int):=zaa (by omega) (by omega)
 refine ZbE ?_;refine Zz ?_;refine ZS ?_
 refine zam (fun s:Nat × Array Int => [(0, .is (.slice (some ⟨b, 0, none⟩) m cap)), (1, .is (.int .i64 a)), (2, .is (.int .i64 e)), (6, .is (.int .i64 s.1)), (900, .own (zaj b (uC s.2 ++ rest) tyU))]) (fun s => s.1 ≤ e + 1 ∧ a < s.1 ∧ s.2.size = m ∧ insOuter lt a e s.1 s.2 = insertionSort lt d a e) (fun s => e + 1 - s.1) (a + 1, d) ⟨by omega, by omega, hm, rfl⟩ ⟨rfl, rfl, rfl, rfl, rfl, trivial⟩ ?_
 rintro ⟨i, D⟩ ⟨hi, hai, hD, hO⟩
 dsimp only at hi hai hD hO ⊢
 by_cases hlt:i < e
 ·rw [insOuter, if_pos hlt] at hO
  refine Ze ?_;refine Z6 ?_;refine Zb ?_;refine ZaT ?_;refine Zm ?_;refine ZS ?_
  refine zam (fun t:Nat × Array Int => [(0, .is (.slice (some ⟨b, 0, none⟩) m cap)), (1, .is (.int .i64 a)), (2, .is (.int .i64 e)), (6, .is (.int .i64 i)), (7, .is (.int .i64 t.1)), (900, .own (zaj b (uC t.2 ++ rest) tyU))]) (fun t => t.1 ≤ i ∧ t.2.size = m ∧ insInner lt a t.1 t.2 = insInner lt a i D) (fun t => t.1) (i, D) ⟨Nat.le_refl _, hD, rfl⟩ ⟨rfl, rfl, rfl, rfl, rfl, rfl, trivial⟩ ?_
  rintro ⟨j, E⟩ ⟨hj, hE, hI⟩
  dsimp only at hj hE hI ⊢
  rcases j with _ | j
  ·rw [insInner] at hI
   rw [hI]
   refine Ze ?_;refine ZdZ ?_;refine Zp ?_;refine ZdB ?_;refine Zcf ?_;refine ZaW ?_;refine Za5 ?_;refine Z1 ?_;refine ZaP ?_
   exact y9 (x:=(i, D)) (i + 1, insInner lt a i D) ⟨by dsimp only; omega, by dsimp only; omega, by dsimp only; rw [← hI]; exact hE, hO⟩ (by dsimp only; omega) ⟨rfl, rfl, rfl, rfl, rfl, trivial⟩
  ·by_cases hja:a < j + 1
   ·have hw1:IntKind.i64.wrap (((j + 1:Nat):Int) - 1) = (j:Int):=zaa (by omega) (by omega) |>.trans (by omega)
    obtain ⟨r1, q1⟩:=zcp (rest:=rest) (show j + 1 < E.size by omega) (0 + (j + 1) * 1) rfl
    obtain ⟨r2, q2⟩:=zcp (rest:=rest) (show j < E.size by omega) (0 + j * 1) rfl
    cases hc:lt E[j + 1]! E[j]! with
    | true =>
     rw [insInner, if_pos (by rw [hc]; simp; omega)] at hI
     have s1:=zb6 (rest:=rest) E[j]! (show j + 1 < E.size by omega) (0 + (j + 1) * 1) rfl
     have b1:=zb7 (rest:=rest) (show j + 1 < E.size by omega) (0 + (j + 1) * 1) rfl
     have hz:j < (E.setIfInBounds (j + 1) E[j]!).size:=by rw [Array.size_setIfInBounds]; omega
     have s2:=zb6 (rest:=rest) E[j + 1]! hz (0 + j * 1) rfl
     have b2:=zb7 (rest:=rest) hz (0 + j * 1) rfl
     rw [zcz] at s2
     refine Ze ?_;refine q6 (id:=4) [(200023, [900]), (200028, [900])] mixed (by kernel_rfl) ?_;refine Zp ?_;refine Zde ?_;refine Zef ?_;refine qf (zy L (q:=900) rfl rfl rfl rfl rfl q1) rfl rfl ?_;refine Zbf ?_;refine qf (zy L (q:=900) rfl rfl rfl rfl rfl q2) rfl rfl ?_;refine z8 (zq L rfl rfl (zn rfl) rfl rfl rfl (fun u H hH _ _ => zba hc hH)) rfl ?_;refine Zbd ?_;refine ZaD ?_;refine q6 (id:=6) [(200042, [900]), (200046, [900]), (100047, [900]), (100048, [900])] mixed (by kernel_rfl) ?_;refine Zp ?_;refine ZeJ ?_;refine Zbf ?_;refine qf (zy L (q:=900) rfl rfl rfl rfl rfl q2) rfl rfl ?_;refine Zo ?_;refine qf (zy L (q:=900) rfl rfl rfl rfl rfl q1) rfl rfl ?_;refine Zl ?_;refine ym (qz L (q:=900) rfl rfl rfl rfl rfl rfl b1 rfl s1) rfl ?_;refine Zl ?_;refine ym (qz L (q:=900) rfl rfl rfl rfl rfl rfl b2 rfl s2) rfl ?_;refine Zcb ?_;refine ZN ?_;refine Zat ?_;refine ZX ?_
     exact y9 (x:=(j + 1, E)) (j, swp E (j + 1) j) ⟨by dsimp only; omega, by dsimp only; rw [zbj]; exact hE, hI⟩ (by dsimp only; omega) ⟨rfl, rfl, rfl, rfl, rfl, rfl, trivial⟩
    | false =>
     rw [insInner, if_neg (by rw [hc]; simp)] at hI
     refine Ze ?_;refine q6 (id:=4) [(200023, [900]), (200028, [900])] mixed (by kernel_rfl) ?_;refine Zp ?_;refine Zde ?_;refine Zef ?_;refine qf (zy L (q:=900) rfl rfl rfl rfl rfl q1) rfl rfl ?_;refine Zbf ?_;refine qf (zy L (q:=900) rfl rfl rfl rfl rfl q2) rfl rfl ?_;refine z8 (zq L rfl rfl (zn rfl) rfl rfl rfl (fun u H hH _ _ => zba hc hH)) rfl ?_;refine ZaW ?_;refine Za5 ?_
     rw [hI]
     refine Z1 ?_;refine ZaP ?_
     exact y9 (x:=(i, D)) (i + 1, insInner lt a i D) ⟨by dsimp only; omega, by dsimp only; omega, by dsimp only; rw [← hI]; exact hE, hO⟩ (by dsimp only; omega) ⟨rfl, rfl, rfl, rfl, rfl, trivial⟩
   ·rw [insInner, if_neg (by simp; omega)] at hI
    rw [hI]
    refine Ze ?_;refine ZdZ ?_;refine Zp ?_;refine ZdB ?_;refine Zcf ?_;refine ZaW ?_;refine Za5 ?_;refine Z1 ?_;refine ZaP ?_
    exact y9 (x:=(i, D)) (i + 1, insInner lt a i D) ⟨by dsimp only; omega, by dsimp only; omega, by dsimp only; rw [← hI]; exact hE, hO⟩ (by dsimp only; omega) ⟨rfl, rfl, rfl, rfl, rfl, trivial⟩
 ·rw [insOuter, if_neg hlt] at hO
  subst hO
  refine Ze ?_;refine Z6 ?_;refine ZaX ?_;refine Zb0 ?_
  exact zau L 900 (r:=zab b _ tyU) rfl (fun _ _ h => h) Since.refl rfl rfl
end Go.V.So
set_option maxRecDepth 20000
namespace Go.V.So
open Go.Proofs Go.RowKit Go.V Go.Sort
theorem _root_.Go.V.ZfA {A B:Prop} (h:B) (t:Wr B → A:=by intro h; refine z7 (z3r rfl rfl rfl rfl (by omega) (by assumption)) rfl ?_;exact h.h):A:=t ⟨h⟩
theorem _root_.Go.V.Zfd {A B:Prop} (h:B) (t:Wr B → A:=by intro h; refine q6 (id:=5) [(200044, [900]), (200050, [900])] mixed (by kernel_rfl) ?_;exact h.h):A:=t ⟨h⟩
theorem _root_.Go.V.ZfT {A B:Prop} (h:B) (t:Wr B → A:=by intro h; refine q6 (id:=6) [(200066, [900]), (200072, [900]), (100073, [900]), (100074, [900])] mixed (by kernel_rfl) ?_;exact h.h):A:=t ⟨h⟩
theorem _root_.Go.V.ZfB {A B:Prop} (h:B) (t:Wr B → A:=by intro h; refine q6 (id:=3) [(200027, [900]), (200034, [900])] mixed (by kernel_rfl) ?_;exact h.h):A:=t ⟨h⟩
theorem _root_.Go.V.ZC {A B:Prop} (h:B) (t:Wr B → A:=by intro h; refine Zb ?_;refine Zat ?_;exact h.h):A:=t ⟨h⟩
theorem _root_.Go.V.Zb6 {A B:Prop} (h:B) (t:Wr B → A:=by intro h; refine Zer ?_;refine Zan ?_;exact h.h):A:=t ⟨h⟩
theorem _root_.Go.V.Zeg {A B:Prop} (h:B) (t:Wr B → A:=by intro h; refine ZeB ?_;refine Zz ?_;exact h.h):A:=t ⟨h⟩
theorem _root_.Go.V.Za4 {A B:Prop} (h:B) (t:Wr B → A:=by intro h; refine Zb6 ?_;refine Zl ?_;exact h.h):A:=t ⟨h⟩
theorem _root_.Go.V.Zc1 {A B:Prop} (h:B) (t:Wr B → A:=by intro h; refine Zp ?_;refine Zp ?_;exact h.h):A:=t ⟨h⟩
theorem _root_.Go.V.ZdO {A B:Prop} (h:B) (t:Wr B → A:=by intro h; refine ZbC ?_;refine ZfN ?_;exact h.h):A:=t ⟨h⟩
attribute [local irreducible] V N X VO Par StepOK Has Ret RetL RetO zbd RetX Src
set_option maxHeartbeats 1000000 in
set_option maxRecDepth 20000 in
theorem rev_ret {d:Array Int} {rest:List Value} {b m cap a e:Nat} (hab:a < e) (he:e ≤ d.size) (hm:d.size = m) (hm1:m ≤ 100000) {w:World} {B:Heap} {C:Nat → Prop} (hB:B.Le (hp w))
  (hr:(zab b (uC d ++ rest) tyU).P B w C) (hC:∀ k, C k → k < w.heap.size ∧ B k = none) :
  zbd Tryz.prog 273 [.slice (some ⟨b, 0, none⟩) m cap, .int .i64 a, .int .i64 e] w B C (zab b (uC (reverseRange d a e) ++ rest) tyU):=by
 unfold zbd
 refine zag 900 (zab b (uC d ++ rest) tyU) Tryz.func273 rfl Tryz.ntmps273 (Nat.le_of_ble_eq_true rfl) hB hr hC ?_
 rw [zae]
 have hw0:IntKind.i64.wrap ((e:Int) - 1) = ((e - 1:Nat):Int):=zaa (by omega) (by omega) |>.trans (by omega)
 refine ZbE ?_;refine Zbj ?_;refine Zat ?_;refine ZS ?_
 refine zam (fun s:(Nat × Nat) × Array Int => [(0, .is (.slice (some ⟨b, 0, none⟩) m cap)), (6, .is (.int .i64 s.1.1)), (7, .is (.int .i64 s.1.2)), (900, .own (zaj b (uC s.2 ++ rest) tyU))]) (fun s => s.1.1 ≤ m ∧ s.1.2 < m ∧ s.2.size = m ∧ reverseLoop s.1.1 s.1.2 s.2 = reverseRange d a e) (fun s => s.1.2 - s.1.1) ((a, e - 1), d) ⟨by dsimp only; omega, by dsimp only; omega, hm, rfl⟩ ⟨rfl, rfl, rfl, rfl, trivial⟩ ?_
 rintro ⟨⟨i, j⟩, E⟩ ⟨hi, hj, hE, hO⟩
 dsimp only at hi hj hE hO ⊢
 by_cases hlt:i < j
 ·rw [reverseLoop, if_pos hlt] at hO
  have hw1:IntKind.i64.wrap ((i:Int) + 1) = ((i + 1:Nat):Int):=zaa (by omega) (by omega)
  have hw2:IntKind.i64.wrap ((j:Int) - 1) = ((j - 1:Nat):Int):=zaa (by omega) (by omega) |>.trans (by omega)
  obtain ⟨_, qj⟩:=zcp (rest:=rest) (show j < E.size by omega) (0 + (j) * 1) rfl
  obtain ⟨_, qi⟩:=zcp (rest:=rest) (show i < E.size by omega) (0 + (i) * 1) rfl
  have s1:=zb6 (rest:=rest) E[j]! (show i < E.size by omega) (0 + (i) * 1) rfl
  have b1:=zb7 (rest:=rest) (show i < E.size by omega) (0 + (i) * 1) rfl
  have hz:j < (E.setIfInBounds (i) E[j]!).size:=by rw [Array.size_setIfInBounds]; omega
  have s2:=zb6 (rest:=rest) E[i]! hz (0 + (j) * 1) rfl
  have b2:=zb7 (rest:=rest) hz (0 + (j) * 1) rfl
  rw [zcz] at s2
  refine Ze ?_;refine Zav ?_;refine ZdO ?_;refine q6 (id:=3) [(200021, [900]), (200025, [900]), (100026, [900]), (100027, [900])] mixed (by kernel_rfl) ?_;refine Zc1 ?_;refine Zo ?_;refine qf (zy L (q:=900) rfl rfl rfl rfl rfl qj) rfl rfl ?_;refine Zo ?_;refine qf (zy L (q:=900) rfl rfl rfl rfl rfl qi) rfl rfl ?_;refine Zl ?_;refine ym (qz L (q:=900) rfl rfl rfl rfl rfl rfl b1 rfl s1) rfl ?_;refine Zl ?_;refine ym (qz L (q:=900) rfl rfl rfl rfl rfl rfl b2 rfl s2) rfl ?_;refine ZaK ?_;refine Zk ?_;refine Zz ?_;refine Zc ?_;refine ZN ?_;refine Zat ?_;refine Z5 ?_
  exact y9 (x:=((i, j), E)) ((i + 1, j - 1), swp E i j) ⟨by dsimp only; omega, by dsimp only; omega, by dsimp only; rw [zbj]; exact hE, hO⟩ (by dsimp only; omega) ⟨rfl, rfl, rfl, rfl, trivial⟩
 ·rw [reverseLoop, if_neg hlt] at hO
  subst hO
  refine Ze ?_;refine Zav ?_;refine ZI ?_;refine Zb0 ?_
  exact zau L 900 (r:=zab b _ tyU) rfl (fun _ _ h => h) Since.refl rfl rfl
set_option maxHeartbeats 1000000 in
set_option maxRecDepth 20000 in
theorem zrm {d:Array Int} {rest:List Value} {b m cap lo hi first:Nat} (hlo:lo ≤ hi) (hf:first + hi ≤ d.size) (hm:d.size = m) (hm1:m ≤ 100000) {w:World} {B:Heap} {C:Nat → Prop} (hB:B.Le (hp w))
  (hr:(zab b (uC d ++ rest) tyU).P B w C) (hC:∀ k, C k → k < w.heap.size ∧ B k = none) :
  zbd Tryz.prog 305 [.slice (some ⟨b, 0, none⟩) m cap, .int .i64 lo, .int .i64 hi, .int .i64 first] w B C (zab b (uC (siftDown lt hi first lo d) ++ rest) tyU):=by
 unfold zbd
 refine zag 900 (zab b (uC d ++ rest) tyU) Tryz.func305 rfl Tryz.ntmps305 (Nat.le_of_ble_eq_true rfl) hB hr hC ?_
 rw [zae]
 refine ZbE ?_;refine ZS ?_
 refine zam (fun s:Nat × Array Int => [(0, .is (.slice (some ⟨b, 0, none⟩) m cap)), (2, .is (.int .i64 hi)), (3, .is (.int .i64 first)), (8, .is (.int .i64 s.1)), (900, .own (zaj b (uC s.2 ++ rest) tyU))]) (fun s => s.1 ≤ hi ∧ s.2.size = m ∧ siftDown lt hi first s.1 s.2 = siftDown lt hi first lo d) (fun s => hi - s.1) (lo, d) ⟨hlo, hm, rfl⟩ ⟨rfl, rfl, rfl, rfl, rfl, trivial⟩ ?_
 rintro ⟨r, E⟩ ⟨hr0, hE, hO⟩
 dsimp only at hr0 hE hO ⊢
 have hw1:IntKind.i64.wrap (2 * (r:Int)) = ((2 * r:Nat):Int):=zaa (by omega) (by omega) |>.trans (by omega)
 have hw2:IntKind.i64.wrap (((2 * r:Nat):Int) + 1) = ((2 * r + 1:Nat):Int):=zaa (by omega) (by omega)
 by_cases hend:hi ≤ 2 * r + 1
 ·rw [siftDown, dif_pos (by omega)] at hO
  subst hO
  refine ZM ?_;refine Zbm ?_;refine Zeg ?_;refine Zi ?_;refine Zav ?_;refine Zax ?_;refine yj ?_;refine qq ?_;refine zf1 rfl ?_;refine Zfh ?_
  exact zau L 900 (r:=zab b _ tyU) rfl (fun _ _ h => h) Since.refl rfl rfl
 ·rw [siftDown, dif_neg (by omega)] at hO
  have hw3:IntKind.i64.wrap (((2 * r + 1:Nat):Int) + 1) = ((2 * r + 2:Nat):Int):=zaa (by omega) (by omega)
  have hw4:IntKind.i64.wrap ((first:Int) + ((2 * r + 1:Nat):Int)) = ((first + (2 * r + 1):Nat):Int):=zaa (by omega) (by omega)
  have hw5:IntKind.i64.wrap (((first + (2 * r + 1):Nat):Int) + 1) = ((first + (2 * r + 2):Nat):Int):=zaa (by omega) (by omega)
  have hw6:IntKind.i64.wrap ((first:Int) + (r:Int)) = ((first + r:Nat):Int):=zaa (by omega) (by omega)
  have hw7:IntKind.i64.wrap ((first:Int) + ((2 * r + 2:Nat):Int)) = ((first + (2 * r + 2):Nat):Int):=zaa (by omega) (by omega)
  obtain ⟨_, qr⟩:=zcp (rest:=rest) (show first + r < E.size by omega) (0 + (first + r) * 1) rfl
  by_cases h2:2 * r + 2 < hi
  ·obtain ⟨_, q1⟩:=zcp (rest:=rest) (show first + (2 * r + 1) < E.size by omega) (0 + (first + (2 * r + 1)) * 1) rfl
   obtain ⟨_, q2⟩:=zcp (rest:=rest) (show first + (2 * r + 2) < E.size by omega) (0 + (first + (2 * r + 2)) * 1) rfl
   have e2:first + (2 * r + 1) + 1 = first + (2 * r + 2):=by omega
   rw [e2] at hO
   cases hc:lt E[first + (2 * r + 1)]! E[first + (2 * r + 2)]! with
   | true =>
    rw [if_pos (by rw [hc]; simp; omega)] at hO
    have qc:=q2
    cases hc2:lt E[first + r]! E[first + (2 * r + 2)]! with
    | false =>
     rw [hc2] at hO
     simp only [Bool.not_false, if_true] at hO
     subst hO
     refine ZM ?_;refine Zbm ?_;refine Zeg ?_;refine Zi ?_;refine Zav ?_;refine ZE ?_;refine ZD ?_;refine ZfB ?_;refine Zg ?_;refine Zan ?_;refine Zg ?_;refine Zcd ?_;refine Zc1 ?_;refine Zan ?_;refine Zl ?_;refine qf (zy L (q:=900) rfl rfl rfl rfl rfl q1) rfl rfl ?_;refine Zb6 ?_;refine Zan ?_;refine Zl ?_;refine qf (zy L (q:=900) rfl rfl rfl rfl rfl q2) rfl rfl ?_;refine z8 (zq L rfl rfl (zn rfl) rfl rfl rfl (fun u H hH _ _ => zba hc hH)) rfl ?_;refine Zbd ?_;refine Zk ?_;refine Zz ?_;refine Zi ?_;refine Zfd ?_;refine Za4 ?_;refine qf (zy L (q:=900) rfl rfl rfl rfl rfl qr) rfl rfl ?_;refine Za4 ?_;refine qf (zy L (q:=900) rfl rfl rfl rfl rfl qc) rfl rfl ?_;refine z8 (zq L rfl rfl (zn rfl) rfl rfl rfl (fun u H hH _ _ => zba hc2 hH)) rfl ?_;refine Zae ?_;refine ZbD ?_
     exact za4 L 900 (r:=zab b _ tyU) rfl (fun _ _ h => h) Since.refl rfl rfl
    | true =>
     rw [hc2] at hO
     simp only [Bool.not_true, Bool.false_eq_true, if_false] at hO
     rw [dif_pos (by omega)] at hO
     obtain ⟨_, qj⟩:=zcp (rest:=rest) (show first + (2 * r + 2) < E.size by omega) (0 + (first + (2 * r + 2)) * 1) rfl
     obtain ⟨_, qi⟩:=zcp (rest:=rest) (show first + r < E.size by omega) (0 + (first + r) * 1) rfl
     have s1:=zb6 (rest:=rest) E[first + (2 * r + 2)]! (show first + r < E.size by omega) (0 + (first + r) * 1) rfl
     have b1:=zb7 (rest:=rest) (show first + r < E.size by omega) (0 + (first + r) * 1) rfl
     have hz:first + (2 * r + 2) < (E.setIfInBounds (first + r) E[first + (2 * r + 2)]!).size:=by rw [Array.size_setIfInBounds]; omega
     have s2:=zb6 (rest:=rest) E[first + r]! hz (0 + (first + (2 * r + 2)) * 1) rfl
     have b2:=zb7 (rest:=rest) hz (0 + (first + (2 * r + 2)) * 1) rfl
     rw [zcz] at s2
     refine ZM ?_;refine Zbm ?_;refine Zeg ?_;refine Zi ?_;refine Zav ?_;refine ZE ?_;refine ZD ?_;refine ZfB ?_;refine Zg ?_;refine Zan ?_;refine Zg ?_;refine Zcd ?_;refine Zc1 ?_;refine Zan ?_;refine Zl ?_;refine qf (zy L (q:=900) rfl rfl rfl rfl rfl q1) rfl rfl ?_;refine Zb6 ?_;refine Zan ?_;refine Zl ?_;refine qf (zy L (q:=900) rfl rfl rfl rfl rfl q2) rfl rfl ?_;refine z8 (zq L rfl rfl (zn rfl) rfl rfl rfl (fun u H hH _ _ => zba hc hH)) rfl ?_;refine Zbd ?_;refine Zk ?_;refine Zz ?_;refine Zi ?_;refine Zfd ?_;refine Za4 ?_;refine qf (zy L (q:=900) rfl rfl rfl rfl rfl qr) rfl rfl ?_;refine Za4 ?_;refine qf (zy L (q:=900) rfl rfl rfl rfl rfl qc) rfl rfl ?_;refine z8 (zq L rfl rfl (zn rfl) rfl rfl rfl (fun u H hH _ _ => zba hc2 hH)) rfl ?_;refine Zae ?_;refine ZbZ ?_;refine ZfT ?_;refine Zb6 ?_;refine Zb6 ?_;refine Za4 ?_;refine qf (zy L (q:=900) rfl rfl rfl rfl rfl qj) rfl rfl ?_;refine Za4 ?_;refine qf (zy L (q:=900) rfl rfl rfl rfl rfl qi) rfl rfl ?_;refine Zl ?_;refine ym (qz L (q:=900) rfl rfl rfl rfl rfl rfl b1 rfl s1) rfl ?_;refine Zl ?_;refine ym (qz L (q:=900) rfl rfl rfl rfl rfl rfl b2 rfl s2) rfl ?_;refine Zcq ?_;refine ZO ?_;refine Z5 ?_
     exact y9 (x:=(r, E)) (2 * r + 2, swp E (first + r) (first + (2 * r + 2))) ⟨by dsimp only; omega, by dsimp only; rw [zbj]; exact hE, hO⟩ (by dsimp only; omega) ⟨rfl, rfl, rfl, rfl, rfl, trivial⟩
   | false =>
    rw [if_neg (by rw [hc]; simp)] at hO
    have qc:=q1
    cases hc2:lt E[first + r]! E[first + (2 * r + 1)]! with
    | false =>
     rw [hc2] at hO
     simp only [Bool.not_false, if_true] at hO
     subst hO
     refine ZM ?_;refine Zbm ?_;refine Zeg ?_;refine Zi ?_;refine Zav ?_;refine ZE ?_;refine ZD ?_;refine ZfB ?_;refine Zg ?_;refine Zan ?_;refine Zg ?_;refine Zcd ?_;refine Zc1 ?_;refine Zan ?_;refine Zl ?_;refine qf (zy L (q:=900) rfl rfl rfl rfl rfl q1) rfl rfl ?_;refine Zb6 ?_;refine Zan ?_;refine Zl ?_;refine qf (zy L (q:=900) rfl rfl rfl rfl rfl q2) rfl rfl ?_;refine z8 (zq L rfl rfl (zn rfl) rfl rfl rfl (fun u H hH _ _ => zba hc hH)) rfl ?_;refine Zcz ?_;refine zj ?_;refine Zfd ?_;refine Za4 ?_;refine qf (zy L (q:=900) rfl rfl rfl rfl rfl qr) rfl rfl ?_;refine Za4 ?_;refine qf (zy L (q:=900) rfl rfl rfl rfl rfl qc) rfl rfl ?_;refine z8 (zq L rfl rfl (zn rfl) rfl rfl rfl (fun u H hH _ _ => zba hc2 hH)) rfl ?_;refine Zae ?_;refine ZbD ?_
     exact za4 L 900 (r:=zab b _ tyU) rfl (fun _ _ h => h) Since.refl rfl rfl
    | true =>
     rw [hc2] at hO
     simp only [Bool.not_true, Bool.false_eq_true, if_false] at hO
     obtain ⟨_, qj⟩:=zcp (rest:=rest) (show first + (2 * r + 1) < E.size by omega) (0 + (first + (2 * r + 1)) * 1) rfl
     obtain ⟨_, qi⟩:=zcp (rest:=rest) (show first + r < E.size by omega) (0 + (first + r) * 1) rfl
     have s1:=zb6 (rest:=rest) E[first + (2 * r + 1)]! (show first + r < E.size by omega) (0 + (first + r) * 1) rfl
     have b1:=zb7 (rest:=rest) (show first + r < E.size by omega) (0 + (first + r) * 1) rfl
     have hz:first + (2 * r + 1) < (E.setIfInBounds (first + r) E[first + (2 * r + 1)]!).size:=by rw [Array.size_setIfInBounds]; omega
     have s2:=zb6 (rest:=rest) E[first + r]! hz (0 + (first + (2 * r + 1)) * 1) rfl
     have b2:=zb7 (rest:=rest) hz (0 + (first + (2 * r + 1)) * 1) rfl
     rw [zcz] at s2
     refine ZM ?_;refine Zbm ?_;refine Zeg ?_;refine Zi ?_;refine Zav ?_;refine ZE ?_;refine ZD ?_;refine ZfB ?_;refine Zg ?_;refine Zan ?_;refine Zg ?_;refine Zcd ?_;refine Zc1 ?_;refine Zan ?_;refine Zl ?_;refine qf (zy L (q:=900) rfl rfl rfl rfl rfl q1) rfl rfl ?_;refine Zb6 ?_;refine Zan ?_;refine Zl ?_;refine qf (zy L (q:=900) rfl rfl rfl rfl rfl q2) rfl rfl ?_;refine z8 (zq L rfl rfl (zn rfl) rfl rfl rfl (fun u H hH _ _ => zba hc hH)) rfl ?_;refine Zcz ?_;refine zj ?_;refine Zfd ?_;refine Za4 ?_;refine qf (zy L (q:=900) rfl rfl rfl rfl rfl qr) rfl rfl ?_;refine Za4 ?_;refine qf (zy L (q:=900) rfl rfl rfl rfl rfl qc) rfl rfl ?_;refine z8 (zq L rfl rfl (zn rfl) rfl rfl rfl (fun u H hH _ _ => zba hc2 hH)) rfl ?_;refine Zae ?_;refine ZbZ ?_;refine ZfT ?_;refine Zb6 ?_;refine Zb6 ?_;refine Za4 ?_;refine qf (zy L (q:=900) rfl rfl rfl rfl rfl qj) rfl rfl ?_;refine Za4 ?_;refine qf (zy L (q:=900) rfl rfl rfl rfl rfl qi) rfl rfl ?_;refine Zl ?_;refine ym (qz L (q:=900) rfl rfl rfl rfl rfl rfl b1 rfl s1) rfl ?_;refine Zl ?_;refine ym (qz L (q:=900) rfl rfl rfl rfl rfl rfl b2 rfl s2) rfl ?_;refine Zcq ?_;refine ZO ?_;refine Z5 ?_
     exact y9 (x:=(r, E)) (2 * r + 1, swp E (first + r) (first + (2 * r + 1))) ⟨by dsimp only; omega, by dsimp only; rw [zbj]; exact hE, hO⟩ (by dsimp only; omega) ⟨rfl, rfl, rfl, rfl, rfl, trivial⟩
  ·rw [if_neg (by simp; omega)] at hO
   obtain ⟨_, qc⟩:=zcp (rest:=rest) (show first + (2 * r + 1) < E.size by omega) (0 + (first + (2 * r + 1)) * 1) rfl
   cases hc2:lt E[first + r]! E[first + (2 * r + 1)]! with
   | false =>
    rw [hc2] at hO
    simp only [Bool.not_false, if_true] at hO
    subst hO
    refine ZM ?_;refine Zbm ?_;refine Zeg ?_;refine Zi ?_;refine Zav ?_;refine ZE ?_;refine ZD ?_;refine ZdW ?_;refine Zg ?_;refine Zan ?_;refine Zg ?_;refine Zed ?_;refine Zee ?_;refine Zfr ?_;refine ZdC ?_;refine Zcz ?_;refine zj ?_;refine Zfd ?_;refine Za4 ?_;refine qf (zy L (q:=900) rfl rfl rfl rfl rfl qr) rfl rfl ?_;refine Za4 ?_;refine qf (zy L (q:=900) rfl rfl rfl rfl rfl qc) rfl rfl ?_;refine z8 (zq L rfl rfl (zn rfl) rfl rfl rfl (fun u H hH _ _ => zba hc2 hH)) rfl ?_;refine Zae ?_;refine ZbD ?_
    exact za4 L 900 (r:=zab b _ tyU) rfl (fun _ _ h => h) Since.refl rfl rfl
   | true =>
    rw [hc2] at hO
    simp only [Bool.not_true, Bool.false_eq_true, if_false] at hO
    obtain ⟨_, qj⟩:=zcp (rest:=rest) (show first + (2 * r + 1) < E.size by omega) (0 + (first + (2 * r + 1)) * 1) rfl
    obtain ⟨_, qi⟩:=zcp (rest:=rest) (show first + r < E.size by omega) (0 + (first + r) * 1) rfl
    have s1:=zb6 (rest:=rest) E[first + (2 * r + 1)]! (show first + r < E.size by omega) (0 + (first + r) * 1) rfl
    have b1:=zb7 (rest:=rest) (show first + r < E.size by omega) (0 + (first + r) * 1) rfl
    have hz:first + (2 * r + 1) < (E.setIfInBounds (first + r) E[first + (2 * r + 1)]!).size:=by rw [Array.size_setIfInBounds]; omega
    have s2:=zb6 (rest:=rest) E[first + r]! hz (0 + (first + (2 * r + 1)) * 1) rfl
    have b2:=zb7 (rest:=rest) hz (0 + (first + (2 * r + 1)) * 1) rfl
    rw [zcz] at s2
    refine ZM ?_;refine Zbm ?_;refine Zeg ?_;refine Zi ?_;refine Zav ?_;refine ZE ?_;refine ZD ?_;refine ZdW ?_;refine Zg ?_;refine Zan ?_;refine Zg ?_;refine Zed ?_;refine Zee ?_;refine Zfr ?_;refine ZdC ?_;refine Zcz ?_;refine zj ?_;refine Zfd ?_;refine Za4 ?_;refine qf (zy L (q:=900) rfl rfl rfl rfl rfl qr) rfl rfl ?_;refine Za4 ?_;refine qf (zy L (q:=900) rfl rfl rfl rfl rfl qc) rfl rfl ?_;refine z8 (zq L rfl rfl (zn rfl) rfl rfl rfl (fun u H hH _ _ => zba hc2 hH)) rfl ?_;refine Zae ?_;refine ZbZ ?_;refine ZfT ?_;refine Zb6 ?_;refine Zb6 ?_;refine Za4 ?_;refine qf (zy L (q:=900) rfl rfl rfl rfl rfl qj) rfl rfl ?_;refine Za4 ?_;refine qf (zy L (q:=900) rfl rfl rfl rfl rfl qi) rfl rfl ?_;refine Zl ?_;refine ym (qz L (q:=900) rfl rfl rfl rfl rfl rfl b1 rfl s1) rfl ?_;refine Zl ?_;refine ym (qz L (q:=900) rfl rfl rfl rfl rfl rfl b2 rfl s2) rfl ?_;refine Zcq ?_;refine ZO ?_;refine Z5 ?_
    exact y9 (x:=(r, E)) (2 * r + 1, swp E (first + r) (first + (2 * r + 1))) ⟨by dsimp only; omega, by dsimp only; rw [zbj]; exact hE, hO⟩ (by dsimp only; omega) ⟨rfl, rfl, rfl, rfl, rfl, trivial⟩
theorem zon (hi first:Nat):∀ (n root:Nat) (d:Array Int), hi - root ≤ n → (siftDown lt hi first root d).size = d.size:=by
 intro n
 induction n with
 | zero =>
  intro root d h
  rw [siftDown, dif_pos (by omega)]
 | succ n ih =>
  intro root d h
  rw [siftDown]
  split
  ·rfl
  ·split
   ·split
    ·rfl
    ·split
     ·rw [ih _ _ (by omega), zbj]
     ·rfl
   ·split
    ·rfl
    ·rw [ih _ _ (by omega), zbj]
set_option maxHeartbeats 1000000 in
set_option maxRecDepth 20000 in
theorem zy5 {d:Array Int} {rest:List Value} {b m cap a e:Nat} (hab:a < e) (he:e ≤ d.size) (hm:d.size = m) (hm1:m ≤ 100000) {w:World} {B:Heap} {C:Nat → Prop} (hB:B.Le (hp w))
  (hr:(zab b (uC d ++ rest) tyU).P B w C) (hC:∀ k, C k → k < w.heap.size ∧ B k = none) :
  zbd Tryz.prog 270 [.slice (some ⟨b, 0, none⟩) m cap, .int .i64 a, .int .i64 e] w B C (zab b (uC (heapSort lt d a e) ++ rest) tyU):=by
 unfold zbd
 refine zag 900 (zab b (uC d ++ rest) tyU) Tryz.func270 rfl Tryz.ntmps270 (Nat.le_of_ble_eq_true rfl) hB hr hC ?_
 rw [zae]
 have hw0:IntKind.i64.wrap ((e:Int) - (a:Int)) = ((e - a:Nat):Int):=zaa (by omega) (by omega) |>.trans (by omega)
 have hw1:IntKind.i64.wrap (((e - a:Nat):Int) - 1) = ((e - a - 1:Nat):Int):=zaa (by omega) (by omega) |>.trans (by omega)
 have et:((e - a - 1:Nat):Int).tdiv 2 = (((e - a - 1) / 2 + 1:Nat):Int) - 1:=by
  rw [Int.tdiv_eq_ediv_of_nonneg (by omega)]
  omega
 have hw2:IntKind.i64.wrap (((e - a - 1:Nat):Int).tdiv 2) = (((e - a - 1) / 2 + 1:Nat):Int) - 1:=by rw [et]; exact zaa (by omega) (by omega)
 refine ZbE ?_;refine Zap ?_;refine Zd ?_;refine ZU ?_;refine ZC ?_;refine Zi ?_;refine Zm ?_;refine Zat ?_;refine ZfA ?_;refine ZS ?_
 refine zam (fun s:Nat × Array Int => [(0, .is (.slice (some ⟨b, 0, none⟩) m cap)), (6, .is (.int .i64 a)), (7, .is (.int .i64 0)), (8, .is (.int .i64 (e - a:Nat))), (9, .is (.int .i64 ((s.1:Int) - 1))), (900, .own (zaj b (uC s.2 ++ rest) tyU))]) (fun s => s.1 ≤ (e - a - 1) / 2 + 1 ∧ s.2.size = m ∧ heapBuild lt (e - a) a s.1 s.2 = heapBuild lt (e - a) a ((e - a - 1) / 2 + 1) d) (fun s => s.1) ((e - a - 1) / 2 + 1, d) ⟨Nat.le_refl _, hm, rfl⟩ ⟨rfl, rfl, rfl, rfl, rfl, rfl, trivial⟩ ?_
 rintro ⟨k, E⟩ ⟨hk, hE, hO⟩
 dsimp only at hk hE hO ⊢
 rcases k with _ | k
 ·have e9:(((0:Nat):Int) - 1) = -1:=rfl
  rw [e9]
  refine Zdd ?_;refine ZE ?_;refine Zba ?_
  rw [heapBuild] at hO
  have e10:((e - a - 1:Nat):Int) = ((e - a:Nat):Int) - 1:=by omega
  rw [e10] at hw1
  refine ZO ?_;refine Zat ?_;refine ZS ?_
  refine zam (fun s:Nat × Array Int => [(0, .is (.slice (some ⟨b, 0, none⟩) m cap)), (6, .is (.int .i64 a)), (7, .is (.int .i64 0)), (10, .is (.int .i64 ((s.1:Int) - 1))), (900, .own (zaj b (uC s.2 ++ rest) tyU))]) (fun s => s.1 ≤ e - a ∧ s.2.size = m ∧ heapPop lt a s.1 s.2 = heapPop lt a (e - a) E) (fun s => s.1) (e - a, E) ⟨Nat.le_refl _, hE, rfl⟩ ⟨rfl, rfl, rfl, rfl, rfl, trivial⟩ ?_
  rintro ⟨j, G⟩ ⟨hj, hG, hP⟩
  dsimp only at hj hG hP ⊢
  rcases j with _ | j
  ·rw [e9]
   rw [heapPop] at hP
   have:G = heapSort lt d a e:=by unfold heapSort; rw [← hO, hP]
   subst this
   refine Ze ?_;refine ZZ ?_;refine ZE ?_;refine Zb0 ?_
   exact zau L 900 (r:=zab b _ tyU) rfl (fun _ _ h => h) Since.refl rfl rfl
  ·have e8:(((j + 1:Nat):Int) - 1) = (j:Int):=by omega
   rw [heapPop] at hP
   rw [e8]
   have hw3:IntKind.i64.wrap ((a:Int) + (j:Int)) = ((a + j:Nat):Int):=zaa (by omega) (by omega)
   have hw4:IntKind.i64.wrap ((j:Int) - 1) = (j:Int) - 1:=zaa (by omega) (by omega)
   have hsz:=zbj G a (a + j)
   have hss:=zon j a j 0 (swp G a (a + j)) (by omega)
   obtain ⟨_, qj⟩:=zcp (rest:=rest) (show a + j < G.size by omega) (0 + (a + j) * 1) rfl
   obtain ⟨_, qi⟩:=zcp (rest:=rest) (show a < G.size by omega) (0 + (a) * 1) rfl
   have s1:=zb6 (rest:=rest) G[a + j]! (show a < G.size by omega) (0 + (a) * 1) rfl
   have b1:=zb7 (rest:=rest) (show a < G.size by omega) (0 + (a) * 1) rfl
   have hz:a + j < (G.setIfInBounds (a) G[a + j]!).size:=by rw [Array.size_setIfInBounds]; omega
   have s2:=zb6 (rest:=rest) G[a]! hz (0 + (a + j) * 1) rfl
   have b2:=zb7 (rest:=rest) hz (0 + (a + j) * 1) rfl
   rw [zcz] at s2
   refine Ze ?_;refine ZZ ?_;refine Zax ?_;refine Ze2 ?_;refine q6 (id:=10) [(200044, [900]), (200048, [900]), (100049, [900]), (100050, [900])] mixed (by kernel_rfl) ?_;refine Zp ?_;refine Zb6 ?_;refine Za4 ?_;refine qf (zy L (q:=900) rfl rfl rfl rfl rfl qj) rfl rfl ?_;refine Zo ?_;refine qf (zy L (q:=900) rfl rfl rfl rfl rfl qi) rfl rfl ?_;refine Zl ?_;refine ym (qz L (q:=900) rfl rfl rfl rfl rfl rfl b1 rfl s1) rfl ?_;refine Zl ?_;refine ym (qz L (q:=900) rfl rfl rfl rfl rfl rfl b2 rfl s2) rfl ?_;refine Zcq ?_;refine ZF ?_;refine Zah ?_;refine qg (zan L 900 (zab b (uC (siftDown lt j a 0 (swp G a (a + j))) ++ rest) tyU) (r:=zab b (uC (swp G a (a + j)) ++ rest) tyU) rfl rfl rfl rfl rfl (fun u H C hH _ hr hC => zrm (Nat.zero_le _) (by omega) (by omega) hm1 hH hr hC)) ?_;refine ZcC ?_;refine Za0 ?_;refine Zat ?_;refine ZX ?_
   exact y9 (x:=(j + 1, G)) (j, siftDown lt j a 0 (swp G a (a + j))) ⟨by dsimp only; omega, by dsimp only; omega, hP⟩ (by dsimp only; omega) ⟨rfl, rfl, rfl, rfl, rfl, trivial⟩
 ·have e8:(((k + 1:Nat):Int) - 1) = (k:Int):=by omega
  rw [heapBuild] at hO
  rw [e8]
  have hw4:IntKind.i64.wrap ((k:Int) - 1) = (k:Int) - 1:=zaa (by omega) (by omega)
  have hss:=zon (e - a) a (e - a) k E (by omega)
  refine Zdd ?_;refine Zax ?_;refine ZaD ?_;refine ZQ ?_;refine Zah ?_;refine qg (zan L 900 (zab b (uC (siftDown lt (e - a) a k E) ++ rest) tyU) (r:=zab b (uC E ++ rest) tyU) rfl rfl rfl rfl rfl (fun u H C hH _ hr hC => zrm (by omega) (by omega) (by omega) hm1 hH hr hC)) ?_;refine ZcC ?_;refine ZN ?_;refine Zat ?_;refine ZX ?_
  exact y9 (x:=(k + 1, E)) (k, siftDown lt (e - a) a k E) ⟨by dsimp only; omega, by dsimp only; omega, hO⟩ (by dsimp only; omega) ⟨rfl, rfl, rfl, rfl, rfl, rfl, trivial⟩
end Go.V.So
set_option maxRecDepth 20000
namespace Go.V.So
open Go.Proofs Go.RowKit Go.V Go.Sort
theorem _root_.Go.V.ZfC {A B:Prop} (h:B) (t:Wr B → A:=by intro h; refine q6 (id:=5) [(200053, [900]), (200057, [900])] mixed (by kernel_rfl) ?_;exact h.h):A:=t ⟨h⟩
theorem _root_.Go.V.Zgu {A B:Prop} (h:B) (t:Wr B → A:=by intro h; refine Zp ?_;refine Zgd ?_;exact h.h):A:=t ⟨h⟩
theorem _root_.Go.V.ZcQ {A B:Prop} (h:B) (t:Wr B → A:=by intro h; refine Zgu ?_;refine Zef ?_;exact h.h):A:=t ⟨h⟩
theorem _root_.Go.V.ZcR {A B:Prop} (h:B) (t:Wr B → A:=by intro h; refine Ze ?_;refine ZL ?_;exact h.h):A:=t ⟨h⟩
theorem _root_.Go.V.ZdP {A B:Prop} (h:B) (t:Wr B → A:=by intro h; refine Za ?_;refine Zat ?_;exact h.h):A:=t ⟨h⟩
attribute [local irreducible] V N X VO Par StepOK Has Ret RetL RetO zbd RetX Src
theorem zc1 {p:Int → Bool} {d:Array Int} {j i:Nat} (h:¬ (i ≤ j ∧ p d[i]! = true)):scanUp p d j i = i:=by
 rw [scanUp, if_neg]
 simpa using h
theorem zj0 {p:Int → Bool} {d:Array Int} {j i:Nat} (h1:i ≤ j) (h2:p d[i]! = true):scanUp p d j i = scanUp p d j (i + 1):=by
 rw [scanUp, if_pos (by simp [h1, h2])]
theorem zcc {p:Int → Bool} {d:Array Int} {i j:Nat} (h:¬ (i ≤ j ∧ p d[j]! = true)):scanDown p d i j = j:=by
 cases j with
 | zero => rfl
 | succ j => rw [scanDown, if_neg]; simpa using h
theorem zgo {p:Int → Bool} {d:Array Int} {i j:Nat} (h1:i ≤ j + 1) (h2:p d[j + 1]! = true):scanDown p d i (j + 1) = scanDown p d i j:=by
 rw [scanDown, if_pos (by simp [h1, h2])]
set_option maxHeartbeats 2000000 in
set_option maxRecDepth 20000 in
theorem zea {d:Array Int} {rest:List Value} {b m cap a e p:Nat} (hap:a ≤ p) (hpe:p < e) (he:e ≤ d.size) (hm:d.size = m) (hm1:m ≤ 100000) {w:World} {B:Heap} {C:Nat → Prop} (hB:B.Le (hp w))
  (hr:(zab b (uC d ++ rest) tyU).P B w C) (hC:∀ k, C k → k < w.heap.size ∧ B k = none) :
  RetX Tryz.prog 277 [.slice (some ⟨b, 0, none⟩) m cap, .int .i64 a, .int .i64 e, .int .i64 p] w B C (zab b (uC (Go.Sort.partition lt d a e p).2.2 ++ rest) tyU) (.tuple #[.int .i64 (Go.Sort.partition lt d a e p).1, .bool (Go.Sort.partition lt d a e p).2.1]):=by
 unfold RetX
 refine zag 900 (zab b (uC d ++ rest) tyU) Tryz.func277 rfl Tryz.ntmps277 (Nat.le_of_ble_eq_true rfl) hB hr hC ?_
 rw [zae]
 obtain ⟨_, qj⟩:=zcp (rest:=rest) (show p < d.size by omega) (0 + (p) * 1) rfl
 obtain ⟨_, qi⟩:=zcp (rest:=rest) (show a < d.size by omega) (0 + (a) * 1) rfl
 have s1:=zb6 (rest:=rest) d[p]! (show a < d.size by omega) (0 + (a) * 1) rfl
 have b1:=zb7 (rest:=rest) (show a < d.size by omega) (0 + (a) * 1) rfl
 have hz:p < (d.setIfInBounds (a) d[p]!).size:=by rw [Array.size_setIfInBounds]; omega
 have s2:=zb6 (rest:=rest) d[a]! hz (0 + (p) * 1) rfl
 have b2:=zb7 (rest:=rest) hz (0 + (p) * 1) rfl
 rw [zcz] at s2
 have hw1:IntKind.i64.wrap ((a:Int) + 1) = ((a + 1:Nat):Int):=zaa (by omega) (by omega)
 obtain ⟨e1, rfl⟩:∃ e1, e = e1 + 1:=⟨e - 1, by omega⟩
 have hw2:IntKind.i64.wrap (((e1 + 1:Nat):Int) - 1) = (e1:Int):=zaa (by omega) (by omega) |>.trans (by omega)
 obtain ⟨R, hR⟩:∃ R, R = Go.Sort.partition lt d a (e1 + 1) p:=⟨_, rfl⟩
 rw [← hR]
 have hR':=hR
 unfold Go.Sort.partition at hR'
 have hDs:=zbj d a p
 refine ZG ?_;refine Za2 ?_;refine q6 (id:=1) [(200019, [900]), (200023, [900]), (100024, [900]), (100025, [900])] mixed (by kernel_rfl) ?_;refine Zc1 ?_;refine Zo ?_;refine qf (zy L (q:=900) rfl rfl rfl rfl rfl qj) rfl rfl ?_;refine Zo ?_;refine qf (zy L (q:=900) rfl rfl rfl rfl rfl qi) rfl rfl ?_;refine Zl ?_;refine ym (qz L (q:=900) rfl rfl rfl rfl rfl rfl b1 rfl s1) rfl ?_;refine Zl ?_;refine ym (qz L (q:=900) rfl rfl rfl rfl rfl rfl b2 rfl s2) rfl ?_;refine ZaK ?_;refine Z1 ?_;refine Zz ?_;refine ZdP ?_;refine Za2 ?_;refine qe ?_
 generalize swp d a p = D at *
 rw [Nat.add_sub_cancel] at hR'
 dsimp only at hR'
 refine zhl (zdm (fun i:Nat => [(0, .is (.slice (some ⟨b, 0, none⟩) m cap)), (1, .is (.int .i64 a)), (10, .is (.int .i64 i)), (11, .is (.int .i64 e1)), (900, .own (zaj b (uC D ++ rest) tyU))]) (fun i => (a + 1) ≤ i ∧ i ≤ max (a + 1) (e1 + 1) ∧ i = scanUp (fun x => lt x D[a]!) D e1 (a + 1)) (fun _ => []) ?_) ?_
 rotate_left
 ·refine zam (fun i:Nat => [(0, .is (.slice (some ⟨b, 0, none⟩) m cap)), (1, .is (.int .i64 a)), (10, .is (.int .i64 i)), (11, .is (.int .i64 e1)), (900, .own (zaj b (uC D ++ rest) tyU))]) (fun i => (a + 1) ≤ i ∧ i ≤ max (a + 1) (e1 + 1) ∧ scanUp (fun x => lt x D[a]!) D e1 i = scanUp (fun x => lt x D[a]!) D e1 (a + 1)) (fun i => e1 + 1 - i) (a + 1) ⟨Nat.le_refl _, by omega, rfl⟩ ⟨rfl, rfl, rfl, rfl, rfl, trivial⟩ ?_
  rintro i ⟨hi1, hi2, hi3⟩
  by_cases hle:i ≤ e1
  ·obtain ⟨_, qx⟩:=zcp (rest:=rest) (show i < D.size by omega) (0 + (i) * 1) rfl
   obtain ⟨_, qa⟩:=zcp (rest:=rest) (show a < D.size by omega) (0 + (a) * 1) rfl
   cases hc:lt D[i]! D[a]! with
   | true =>
    have hw:IntKind.i64.wrap ((i:Int) + 1) = ((i + 1:Nat):Int):=zaa (by omega) (by omega)
    refine Ze ?_;refine q6 (id:=3) [(200037, [900]), (200041, [900])] mixed (by kernel_rfl) ?_;refine ZcQ ?_;refine qf (zy L (q:=900) rfl rfl rfl rfl rfl qx) rfl rfl ?_;refine Zo ?_;refine qf (zy L (q:=900) rfl rfl rfl rfl rfl qa) rfl rfl ?_;refine z8 (zq L rfl rfl (zn rfl) rfl rfl rfl (fun u H hH _ _ => zba hc hH)) rfl ?_;refine Zbd ?_;refine Zd5 ?_;refine qe ?_;refine Zk ?_;refine Zz ?_;refine Z5 ?_
    exact y9 (x:=i) (i + 1) ⟨by omega, by omega, by rw [← hi3]; exact (zj0 hle (by simp [hc])).symm⟩ (by omega) ⟨rfl, rfl, rfl, rfl, rfl, trivial⟩
   | false =>
    refine Ze ?_;refine q6 (id:=3) [(200037, [900]), (200041, [900])] mixed (by kernel_rfl) ?_;refine ZcQ ?_;refine qf (zy L (q:=900) rfl rfl rfl rfl rfl qx) rfl rfl ?_;refine Zo ?_;refine qf (zy L (q:=900) rfl rfl rfl rfl rfl qa) rfl rfl ?_;refine z8 (zq L rfl rfl (zn rfl) rfl rfl rfl (fun u H hH _ _ => zba hc hH)) rfl ?_;refine ZaW ?_
    exact zbc i Since.refl ⟨hi1, hi2, by rw [← hi3]; exact (zc1 (by rintro ⟨_, h⟩; simp [hc] at h)).symm⟩ rfl ⟨rfl, rfl, rfl, rfl, rfl, trivial⟩
  ·refine Ze ?_;refine ZdW ?_;refine Zp ?_;refine Zet ?_;refine Zee ?_;refine ZaL ?_;refine ZaW ?_
   exact zbc i Since.refl ⟨hi1, hi2, by rw [← hi3]; exact (zc1 (by rintro ⟨h, _⟩; exact hle h)).symm⟩ rfl ⟨rfl, rfl, rfl, rfl, rfl, trivial⟩
 rintro I ⟨hI1, hI2, hI3⟩
 refine zj (qe ?_)
 refine zhl (zdm (fun i:Nat => [(0, .is (.slice (some ⟨b, 0, none⟩) m cap)), (1, .is (.int .i64 a)), (10, .is (.int .i64 I)), (11, .is (.int .i64 i)), (900, .own (zaj b (uC D ++ rest) tyU))]) (fun i => i ≤ e1 ∧ min (I - 1) e1 ≤ i ∧ i = scanDown (fun x => !lt x D[a]!) D I e1) (fun _ => []) ?_) ?_
 rotate_left
 ·refine zam (fun i:Nat => [(0, .is (.slice (some ⟨b, 0, none⟩) m cap)), (1, .is (.int .i64 a)), (10, .is (.int .i64 I)), (11, .is (.int .i64 i)), (900, .own (zaj b (uC D ++ rest) tyU))]) (fun i => i ≤ e1 ∧ min (I - 1) e1 ≤ i ∧ scanDown (fun x => !lt x D[a]!) D I i = scanDown (fun x => !lt x D[a]!) D I e1) (fun i => i) e1 ⟨Nat.le_refl _, by omega, rfl⟩ ⟨rfl, rfl, rfl, rfl, rfl, trivial⟩ ?_
  rintro i ⟨hi1, hi2, hi3⟩
  by_cases hle:I ≤ i
  ·obtain ⟨_, qx⟩:=zcp (rest:=rest) (show i < D.size by omega) (0 + (i) * 1) rfl
   obtain ⟨_, qa⟩:=zcp (rest:=rest) (show a < D.size by omega) (0 + (a) * 1) rfl
   cases hc:lt D[i]! D[a]! with
   | false =>
    obtain ⟨i, rfl⟩:∃ k, i = k + 1:=⟨i - 1, by omega⟩
    have hw:IntKind.i64.wrap (((i + 1:Nat):Int) - 1) = (i:Int):=zaa (by omega) (by omega) |>.trans (by omega)
    refine Ze ?_;refine ZfC ?_;refine ZcQ ?_;refine qf (zy L (q:=900) rfl rfl rfl rfl rfl qx) rfl rfl ?_;refine Zo ?_;refine qf (zy L (q:=900) rfl rfl rfl rfl rfl qa) rfl rfl ?_;refine z8 (zq L rfl rfl (zn rfl) rfl rfl rfl (fun u H hH _ _ => zba hc hH)) rfl ?_;refine Zae ?_;refine Zbd ?_;refine Zd5 ?_;refine qe ?_;refine ZJ ?_;refine Zat ?_;refine Z5 ?_
    exact y9 (x:=i + 1) i ⟨by omega, by omega, by rw [← hi3]; exact (zgo hle (by simp [hc])).symm⟩ (by omega) ⟨rfl, rfl, rfl, rfl, rfl, trivial⟩
   | true =>
    refine Ze ?_;refine ZfC ?_;refine ZcQ ?_;refine qf (zy L (q:=900) rfl rfl rfl rfl rfl qx) rfl rfl ?_;refine Zo ?_;refine qf (zy L (q:=900) rfl rfl rfl rfl rfl qa) rfl rfl ?_;refine z8 (zq L rfl rfl (zn rfl) rfl rfl rfl (fun u H hH _ _ => zba hc hH)) rfl ?_;refine Zae ?_;refine ZaW ?_
    exact zbc i Since.refl ⟨hi1, hi2, by rw [← hi3]; exact (zcc (by rintro ⟨_, h⟩; simp [hc] at h)).symm⟩ rfl ⟨rfl, rfl, rfl, rfl, rfl, trivial⟩
  ·refine Ze ?_;refine Ze9 ?_;refine Zp ?_;refine Zet ?_;refine Zcf ?_;refine ZaW ?_
   exact zbc i Since.refl ⟨hi1, hi2, by rw [← hi3]; exact (zcc (by rintro ⟨h, _⟩; exact hle h)).symm⟩ rfl ⟨rfl, rfl, rfl, rfl, rfl, trivial⟩
 rintro J ⟨hJ1, hJ2, hJ3⟩
 rw [← hI3, ← hJ3] at hR'
 by_cases hIJ:J < I
 ·rw [if_pos hIJ] at hR'
  subst hR'
  obtain ⟨_, qj⟩:=zcp (rest:=rest) (show a < D.size by omega) (0 + (a) * 1) rfl
  obtain ⟨_, qi⟩:=zcp (rest:=rest) (show J < D.size by omega) (0 + (J) * 1) rfl
  have s1:=zb6 (rest:=rest) D[a]! (show J < D.size by omega) (0 + (J) * 1) rfl
  have b1:=zb7 (rest:=rest) (show J < D.size by omega) (0 + (J) * 1) rfl
  have hz:a < (D.setIfInBounds (J) D[a]!).size:=by rw [Array.size_setIfInBounds]; omega
  have s2:=zb6 (rest:=rest) D[J]! hz (0 + (a) * 1) rfl
  have b2:=zb7 (rest:=rest) hz (0 + (a) * 1) rfl
  rw [zcz] at s2
  refine ZcR ?_;refine Zby ?_;refine Zs ?_;refine q6 (id:=8) [(200073, [900]), (200077, [900]), (100078, [900]), (100079, [900])] mixed (by kernel_rfl) ?_;refine Zc1 ?_;refine Zo ?_;refine qf (zy L (q:=900) rfl rfl rfl rfl rfl qj) rfl rfl ?_;refine Zo ?_;refine qf (zy L (q:=900) rfl rfl rfl rfl rfl qi) rfl rfl ?_;refine Zl ?_;refine ym (qz L (q:=900) rfl rfl rfl rfl rfl rfl b1 rfl s1) rfl ?_;refine Zl ?_;refine ym (qz L (q:=900) rfl rfl rfl rfl rfl rfl b2 rfl s2) rfl ?_;refine ZaK ?_;refine Za0 ?_;refine Zt ?_
  exact za2 L 900 (r:=zab b _ tyU) (rs:=[.tmp 8, .tmp 9]) rfl (fun _ _ h => h) Since.refl rfl rfl (fun _ => rfl)
 ·rw [if_neg hIJ] at hR'
  have hw3:IntKind.i64.wrap ((I:Int) + 1) = ((I + 1:Nat):Int):=zaa (by omega) (by omega)
  have hw4:IntKind.i64.wrap ((J:Int) - 1) = ((J - 1:Nat):Int):=zaa (by omega) (by omega) |>.trans (by omega)
  obtain ⟨_, qj⟩:=zcp (rest:=rest) (show J < D.size by omega) (0 + (J) * 1) rfl
  obtain ⟨_, qi⟩:=zcp (rest:=rest) (show I < D.size by omega) (0 + (I) * 1) rfl
  have s1:=zb6 (rest:=rest) D[J]! (show I < D.size by omega) (0 + (I) * 1) rfl
  have b1:=zb7 (rest:=rest) (show I < D.size by omega) (0 + (I) * 1) rfl
  have hz:J < (D.setIfInBounds (I) D[J]!).size:=by rw [Array.size_setIfInBounds]; omega
  have s2:=zb6 (rest:=rest) D[I]! hz (0 + (J) * 1) rfl
  have b2:=zb7 (rest:=rest) hz (0 + (J) * 1) rfl
  rw [zcz] at s2
  have hEs:=zbj D I J
  refine ZcR ?_;refine Zb ?_;refine Zb2 ?_;refine q6 (id:=10) [(200088, [900]), (200092, [900]), (100093, [900]), (100094, [900])] mixed (by kernel_rfl) ?_;refine Zc1 ?_;refine Zo ?_;refine qf (zy L (q:=900) rfl rfl rfl rfl rfl qj) rfl rfl ?_;refine Zo ?_;refine qf (zy L (q:=900) rfl rfl rfl rfl rfl qi) rfl rfl ?_;refine Zl ?_;refine ym (qz L (q:=900) rfl rfl rfl rfl rfl rfl b1 rfl s1) rfl ?_;refine Zl ?_;refine ym (qz L (q:=900) rfl rfl rfl rfl rfl rfl b2 rfl s2) rfl ?_;refine ZaK ?_;refine ZbH ?_;refine Zz ?_;refine Zd ?_;refine Z4 ?_;refine ZdP ?_;refine Zd ?_;refine qe ?_
  generalize swp D I J = E at *
  obtain ⟨X, hX⟩:∃ X, X = partLoop lt a (I + 1) (J - 1) E:=⟨_, rfl⟩
  rw [← hX] at hR'
  refine zhl (zdm (fun s:Nat × Array Int => [(0, .is (.slice (some ⟨b, 0, none⟩) m cap)), (1, .is (.int .i64 a)), (11, .is (.int .i64 s.1)), (900, .own (zaj b (uC s.2 ++ rest) tyU))]) (fun s => s.2.size = m ∧ a ≤ s.1 ∧ s.1 ≤ e1 ∧ s = X) (fun _ => []) ?_) ?_
  rotate_left
  ·refine zam (fun s:(Nat × Nat) × Array Int => [(0, .is (.slice (some ⟨b, 0, none⟩) m cap)), (1, .is (.int .i64 a)), (10, .is (.int .i64 s.1.1)), (11, .is (.int .i64 s.1.2)), (900, .own (zaj b (uC s.2 ++ rest) tyU))]) (fun s => s.2.size = m ∧ a + 1 ≤ s.1.1 ∧ s.1.1 ≤ e1 + 1 ∧ a ≤ s.1.2 ∧ s.1.2 ≤ e1 ∧ partLoop lt a s.1.1 s.1.2 s.2 = X) (fun s => s.1.2 + 1 - s.1.1) ((I + 1, J - 1), E) ⟨by dsimp only; omega, by dsimp only; omega, by dsimp only; omega, by dsimp only; omega, by dsimp only; omega, hX.symm⟩ ⟨rfl, rfl, rfl, rfl, rfl, trivial⟩ ?_
   rintro ⟨⟨i0, j0⟩, G⟩ ⟨hG, hi1, hi2, hj1, hj2, hL⟩
   dsimp only at hG hi1 hi2 hj1 hj2 hL ⊢
   rw [partLoop] at hL
   clear hX hR' hEs hIJ hI3 hJ3
   refine qe (zj (qe ?_))
   refine zhl (zdm (fun i:Nat => [(0, .is (.slice (some ⟨b, 0, none⟩) m cap)), (1, .is (.int .i64 a)), (10, .is (.int .i64 i)), (11, .is (.int .i64 j0)), (900, .own (zaj b (uC G ++ rest) tyU))]) (fun i => i0 ≤ i ∧ i ≤ max i0 (j0 + 1) ∧ i = scanUp (fun x => lt x G[a]!) G j0 i0) (fun _ => []) ?_) ?_
   rotate_left
   ·refine zam (fun i:Nat => [(0, .is (.slice (some ⟨b, 0, none⟩) m cap)), (1, .is (.int .i64 a)), (10, .is (.int .i64 i)), (11, .is (.int .i64 j0)), (900, .own (zaj b (uC G ++ rest) tyU))]) (fun i => i0 ≤ i ∧ i ≤ max i0 (j0 + 1) ∧ scanUp (fun x => lt x G[a]!) G j0 i = scanUp (fun x => lt x G[a]!) G j0 i0) (fun i => j0 + 1 - i) i0 ⟨Nat.le_refl _, by omega, rfl⟩ ⟨rfl, rfl, rfl, rfl, rfl, trivial⟩ ?_
    rintro i ⟨hi1, hi2, hi3⟩
    by_cases hle:i ≤ j0
    ·obtain ⟨_, qx⟩:=zcp (rest:=rest) (show i < G.size by omega) (0 + (i) * 1) rfl
     obtain ⟨_, qa⟩:=zcp (rest:=rest) (show a < G.size by omega) (0 + (a) * 1) rfl
     cases hc:lt G[i]! G[a]! with
     | true =>
      have hw:IntKind.i64.wrap ((i:Int) + 1) = ((i + 1:Nat):Int):=zaa (by omega) (by omega)
      refine Ze ?_;refine q6 (id:=13) [(200106, [900]), (200110, [900])] mixed (by kernel_rfl) ?_;refine ZcQ ?_;refine qf (zy L (q:=900) rfl rfl rfl rfl rfl qx) rfl rfl ?_;refine Zo ?_;refine qf (zy L (q:=900) rfl rfl rfl rfl rfl qa) rfl rfl ?_;refine z8 (zq L rfl rfl (zn rfl) rfl rfl rfl (fun u H hH _ _ => zba hc hH)) rfl ?_;refine Zbd ?_;refine Zd5 ?_;refine qe ?_;refine Zct ?_;refine Zz ?_;refine Z5 ?_
      exact y9 (x:=i) (i + 1) ⟨by omega, by omega, by rw [← hi3]; exact (zj0 hle (by simp [hc])).symm⟩ (by omega) ⟨rfl, rfl, rfl, rfl, rfl, trivial⟩
     | false =>
      refine Ze ?_;refine q6 (id:=13) [(200106, [900]), (200110, [900])] mixed (by kernel_rfl) ?_;refine ZcQ ?_;refine qf (zy L (q:=900) rfl rfl rfl rfl rfl qx) rfl rfl ?_;refine Zo ?_;refine qf (zy L (q:=900) rfl rfl rfl rfl rfl qa) rfl rfl ?_;refine z8 (zq L rfl rfl (zn rfl) rfl rfl rfl (fun u H hH _ _ => zba hc hH)) rfl ?_;refine ZaW ?_
      exact zbc i Since.refl ⟨hi1, hi2, by rw [← hi3]; exact (zc1 (by rintro ⟨_, h⟩; simp [hc] at h)).symm⟩ rfl ⟨rfl, rfl, rfl, rfl, rfl, trivial⟩
    ·refine Ze ?_;refine ZeG ?_;refine Zp ?_;refine Zet ?_;refine Zee ?_;refine ZaL ?_;refine ZaW ?_
     exact zbc i Since.refl ⟨hi1, hi2, by rw [← hi3]; exact (zc1 (by rintro ⟨h, _⟩; exact hle h)).symm⟩ rfl ⟨rfl, rfl, rfl, rfl, rfl, trivial⟩
   rintro K ⟨hK1, hK2, hK3⟩
   refine zj (qe ?_)
   refine zhl (zdm (fun i:Nat => [(0, .is (.slice (some ⟨b, 0, none⟩) m cap)), (1, .is (.int .i64 a)), (10, .is (.int .i64 K)), (11, .is (.int .i64 i)), (900, .own (zaj b (uC G ++ rest) tyU))]) (fun i => i ≤ j0 ∧ min (K - 1) j0 ≤ i ∧ i = scanDown (fun x => !lt x G[a]!) G K j0) (fun _ => []) ?_) ?_
   rotate_left
   ·refine zam (fun i:Nat => [(0, .is (.slice (some ⟨b, 0, none⟩) m cap)), (1, .is (.int .i64 a)), (10, .is (.int .i64 K)), (11, .is (.int .i64 i)), (900, .own (zaj b (uC G ++ rest) tyU))]) (fun i => i ≤ j0 ∧ min (K - 1) j0 ≤ i ∧ scanDown (fun x => !lt x G[a]!) G K i = scanDown (fun x => !lt x G[a]!) G K j0) (fun i => i) j0 ⟨Nat.le_refl _, by omega, rfl⟩ ⟨rfl, rfl, rfl, rfl, rfl, trivial⟩ ?_
    rintro i ⟨hi1, hi2, hi3⟩
    by_cases hle:K ≤ i
    ·obtain ⟨_, qx⟩:=zcp (rest:=rest) (show i < G.size by omega) (0 + (i) * 1) rfl
     obtain ⟨_, qa⟩:=zcp (rest:=rest) (show a < G.size by omega) (0 + (a) * 1) rfl
     cases hc:lt G[i]! G[a]! with
     | false =>
      obtain ⟨i, rfl⟩:∃ k, i = k + 1:=⟨i - 1, by omega⟩
      have hw:IntKind.i64.wrap (((i + 1:Nat):Int) - 1) = (i:Int):=zaa (by omega) (by omega) |>.trans (by omega)
      refine Ze ?_;refine q6 (id:=15) [(200122, [900]), (200126, [900])] mixed (by kernel_rfl) ?_;refine ZcQ ?_;refine qf (zy L (q:=900) rfl rfl rfl rfl rfl qx) rfl rfl ?_;refine Zo ?_;refine qf (zy L (q:=900) rfl rfl rfl rfl rfl qa) rfl rfl ?_;refine z8 (zq L rfl rfl (zn rfl) rfl rfl rfl (fun u H hH _ _ => zba hc hH)) rfl ?_;refine Zae ?_;refine Zbd ?_;refine Zd5 ?_;refine qe ?_;refine ZbF ?_;refine Zat ?_;refine Z5 ?_
      exact y9 (x:=i + 1) i ⟨by omega, by omega, by rw [← hi3]; exact (zgo hle (by simp [hc])).symm⟩ (by omega) ⟨rfl, rfl, rfl, rfl, rfl, trivial⟩
     | true =>
      refine Ze ?_;refine q6 (id:=15) [(200122, [900]), (200126, [900])] mixed (by kernel_rfl) ?_;refine ZcQ ?_;refine qf (zy L (q:=900) rfl rfl rfl rfl rfl qx) rfl rfl ?_;refine Zo ?_;refine qf (zy L (q:=900) rfl rfl rfl rfl rfl qa) rfl rfl ?_;refine z8 (zq L rfl rfl (zn rfl) rfl rfl rfl (fun u H hH _ _ => zba hc hH)) rfl ?_;refine Zae ?_;refine ZaW ?_
      exact zbc i Since.refl ⟨hi1, hi2, by rw [← hi3]; exact (zcc (by rintro ⟨_, h⟩; simp [hc] at h)).symm⟩ rfl ⟨rfl, rfl, rfl, rfl, rfl, trivial⟩
    ·refine Ze ?_;refine q6 (id:=15) [] mixed (by kernel_rfl) ?_;refine Zp ?_;refine Zet ?_;refine Zcf ?_;refine ZaW ?_
     exact zbc i Since.refl ⟨hi1, hi2, by rw [← hi3]; exact (zcc (by rintro ⟨h, _⟩; exact hle h)).symm⟩ rfl ⟨rfl, rfl, rfl, rfl, rfl, trivial⟩
   rintro M ⟨hM1, hM2, hM3⟩
   rw [← hK3, ← hM3] at hL
   by_cases hKM:M < K
   ·rw [if_pos hKM] at hL
    refine Ze ?_;refine Za9 ?_;refine Zby ?_;refine Z8 ?_;refine yj ?_;refine qq ?_;refine zf1 rfl ?_;refine Zfh ?_
    exact zbc (M, G) Since.refl ⟨hG, by dsimp only; omega, by dsimp only; omega, hL⟩ rfl ⟨rfl, rfl, rfl, rfl, trivial⟩
   ·rw [if_neg hKM, dif_pos (by omega)] at hL
    have hw5:IntKind.i64.wrap ((K:Int) + 1) = ((K + 1:Nat):Int):=zaa (by omega) (by omega)
    have hw6:IntKind.i64.wrap ((M:Int) - 1) = ((M - 1:Nat):Int):=zaa (by omega) (by omega) |>.trans (by omega)
    have hGs:=zbj G K M
    obtain ⟨_, qj⟩:=zcp (rest:=rest) (show M < G.size by omega) (0 + (M) * 1) rfl
    obtain ⟨_, qi⟩:=zcp (rest:=rest) (show K < G.size by omega) (0 + (K) * 1) rfl
    have s1:=zb6 (rest:=rest) G[M]! (show K < G.size by omega) (0 + (K) * 1) rfl
    have b1:=zb7 (rest:=rest) (show K < G.size by omega) (0 + (K) * 1) rfl
    have hz:M < (G.setIfInBounds (K) G[M]!).size:=by rw [Array.size_setIfInBounds]; omega
    have s2:=zb6 (rest:=rest) G[K]! hz (0 + (M) * 1) rfl
    have b2:=zb7 (rest:=rest) hz (0 + (M) * 1) rfl
    rw [zcz] at s2
    refine Ze ?_;refine Za9 ?_;refine Zb ?_;refine Zb2 ?_;refine q6 (id:=18) [(200142, [900]), (200146, [900]), (100147, [900]), (100148, [900])] mixed (by kernel_rfl) ?_;refine Zc1 ?_;refine Zo ?_;refine qf (zy L (q:=900) rfl rfl rfl rfl rfl qj) rfl rfl ?_;refine Zo ?_;refine qf (zy L (q:=900) rfl rfl rfl rfl rfl qi) rfl rfl ?_;refine Zl ?_;refine ym (qz L (q:=900) rfl rfl rfl rfl rfl rfl b1 rfl s1) rfl ?_;refine Zl ?_;refine ym (qz L (q:=900) rfl rfl rfl rfl rfl rfl b2 rfl s2) rfl ?_;refine ZaK ?_;refine Zbr ?_;refine Za ?_;refine Zz ?_;refine Zc ?_;refine Zbe ?_;refine ZdP ?_;refine Z5 ?_
    exact y9 (x:=((i0, j0), G)) ((K + 1, M - 1), swp G K M) ⟨by dsimp only; omega, by dsimp only; omega, by dsimp only; omega, by dsimp only; omega, by dsimp only; omega, hL⟩ (by dsimp only; omega) ⟨rfl, rfl, rfl, rfl, rfl, trivial⟩
  ·rintro ⟨J2, G⟩ ⟨hG, hj1, hj2, hL⟩
   dsimp only at hG hj1 hj2 ⊢
   rw [← hL] at hR'
   dsimp only at hR'
   subst hR'
   obtain ⟨_, qj⟩:=zcp (rest:=rest) (show a < G.size by omega) (0 + (a) * 1) rfl
   obtain ⟨_, qi⟩:=zcp (rest:=rest) (show J2 < G.size by omega) (0 + (J2) * 1) rfl
   have s1:=zb6 (rest:=rest) G[a]! (show J2 < G.size by omega) (0 + (J2) * 1) rfl
   have b1:=zb7 (rest:=rest) (show J2 < G.size by omega) (0 + (J2) * 1) rfl
   have hz:a < (G.setIfInBounds (J2) G[a]!).size:=by rw [Array.size_setIfInBounds]; omega
   have s2:=zb6 (rest:=rest) G[J2]! hz (0 + (a) * 1) rfl
   have b2:=zb7 (rest:=rest) hz (0 + (a) * 1) rfl
   rw [zcz] at s2
   refine zj ?_;refine q6 (id:=21) [(200160, [900]), (200164, [900]), (100165, [900]), (100166, [900])] mixed (by kernel_rfl) ?_;refine Zc1 ?_;refine Zo ?_;refine qf (zy L (q:=900) rfl rfl rfl rfl rfl qj) rfl rfl ?_;refine Zo ?_;refine qf (zy L (q:=900) rfl rfl rfl rfl rfl qi) rfl rfl ?_;refine Zl ?_;refine ym (qz L (q:=900) rfl rfl rfl rfl rfl rfl b1 rfl s1) rfl ?_;refine Zl ?_;refine ym (qz L (q:=900) rfl rfl rfl rfl rfl rfl b2 rfl s2) rfl ?_;refine ZaK ?_;refine Zb4 ?_;refine Za ?_;refine Zt ?_
   exact za2 L 900 (r:=zab b _ tyU) (rs:=[.tmp 8, .tmp 9]) rfl (fun _ _ h => h) Since.refl rfl rfl (fun _ => rfl)
end Go.V.So
set_option maxRecDepth 20000
namespace Go.V.So
open Go.Proofs Go.RowKit Go.V Go.Sort
attribute [local irreducible] V N X VO Par StepOK Has Ret RetL RetO zbd RetX Src
set_option maxHeartbeats 2000000 in
set_option maxRecDepth 20000 in
theorem z1h {d:Array Int} {rest:List Value} {b m cap a e p:Nat} (hap:a ≤ p) (hpe:p < e) (he:e ≤ d.size) (hm:d.size = m) (hm1:m ≤ 100000) {w:World} {B:Heap} {C:Nat → Prop} (hB:B.Le (hp w))
  (hr:(zab b (uC d ++ rest) tyU).P B w C) (hC:∀ k, C k → k < w.heap.size ∧ B k = none) :
  RetX Tryz.prog 276 [.slice (some ⟨b, 0, none⟩) m cap, .int .i64 a, .int .i64 e, .int .i64 p] w B C (zab b (uC (partitionEqual lt d a e p).2 ++ rest) tyU) (.int .i64 (partitionEqual lt d a e p).1):=by
 unfold RetX
 refine zag 900 (zab b (uC d ++ rest) tyU) Tryz.func276 rfl Tryz.ntmps276 (Nat.le_of_ble_eq_true rfl) hB hr hC ?_
 rw [zae]
 obtain ⟨_, qj⟩:=zcp (rest:=rest) (show p < d.size by omega) (0 + (p) * 1) rfl
 obtain ⟨_, qi⟩:=zcp (rest:=rest) (show a < d.size by omega) (0 + (a) * 1) rfl
 have s1:=zb6 (rest:=rest) d[p]! (show a < d.size by omega) (0 + (a) * 1) rfl
 have b1:=zb7 (rest:=rest) (show a < d.size by omega) (0 + (a) * 1) rfl
 have hz:p < (d.setIfInBounds (a) d[p]!).size:=by rw [Array.size_setIfInBounds]; omega
 have s2:=zb6 (rest:=rest) d[a]! hz (0 + (p) * 1) rfl
 have b2:=zb7 (rest:=rest) hz (0 + (p) * 1) rfl
 rw [zcz] at s2
 have hw1:IntKind.i64.wrap ((a:Int) + 1) = ((a + 1:Nat):Int):=zaa (by omega) (by omega)
 obtain ⟨e1, rfl⟩:∃ e1, e = e1 + 1:=⟨e - 1, by omega⟩
 have hw2:IntKind.i64.wrap (((e1 + 1:Nat):Int) - 1) = (e1:Int):=zaa (by omega) (by omega) |>.trans (by omega)
 obtain ⟨X, hX⟩:∃ X, X = partitionEqual lt d a (e1 + 1) p:=⟨_, rfl⟩
 rw [← hX]
 have hR':=hX
 unfold partitionEqual at hR'
 rw [Nat.add_sub_cancel] at hR'
 have hDs:=zbj d a p
 refine ZG ?_;refine Zd ?_;refine q6 (id:=1) [(200018, [900]), (200022, [900]), (100023, [900]), (100024, [900])] mixed (by kernel_rfl) ?_;refine Zc1 ?_;refine Zo ?_;refine qf (zy L (q:=900) rfl rfl rfl rfl rfl qj) rfl rfl ?_;refine Zo ?_;refine qf (zy L (q:=900) rfl rfl rfl rfl rfl qi) rfl rfl ?_;refine Zl ?_;refine ym (qz L (q:=900) rfl rfl rfl rfl rfl rfl b1 rfl s1) rfl ?_;refine Zl ?_;refine ym (qz L (q:=900) rfl rfl rfl rfl rfl rfl b2 rfl s2) rfl ?_;refine ZaK ?_;refine Z1 ?_;refine Zz ?_;refine ZdP ?_;refine Za2 ?_;refine qe ?_
 generalize swp d a p = D at *
 refine zhl (zdm (fun s:Nat × Array Int => [(9, .is (.int .i64 s.1)), (900, .own (zaj b (uC s.2 ++ rest) tyU))]) (fun s => s.2.size = m ∧ s = X) (fun _ => []) ?_) ?_
 rotate_left
 ·refine zam (fun s:(Nat × Nat) × Array Int => [(0, .is (.slice (some ⟨b, 0, none⟩) m cap)), (1, .is (.int .i64 a)), (9, .is (.int .i64 s.1.1)), (10, .is (.int .i64 s.1.2)), (900, .own (zaj b (uC s.2 ++ rest) tyU))]) (fun s => s.2.size = m ∧ a + 1 ≤ s.1.1 ∧ s.1.1 ≤ e1 + 1 ∧ a ≤ s.1.2 ∧ s.1.2 ≤ e1 ∧ partEqLoop lt a s.1.1 s.1.2 s.2 = X) (fun s => s.1.2 + 1 - s.1.1) ((a + 1, e1), D) ⟨by dsimp only; omega, by dsimp only; omega, by dsimp only; omega, by dsimp only; omega, by dsimp only; omega, hR'.symm⟩ ⟨rfl, rfl, rfl, rfl, rfl, trivial⟩ ?_
  rintro ⟨⟨i0, j0⟩, G⟩ ⟨hG, hi1, hi2, hj1, hj2, hL⟩
  dsimp only at hG hi1 hi2 hj1 hj2 hL ⊢
  rw [partEqLoop] at hL
  clear hX hR' hDs
  refine qe (zj (qe ?_))
  refine zhl (zdm (fun i:Nat => [(0, .is (.slice (some ⟨b, 0, none⟩) m cap)), (1, .is (.int .i64 a)), (9, .is (.int .i64 i)), (10, .is (.int .i64 j0)), (900, .own (zaj b (uC G ++ rest) tyU))]) (fun i => i0 ≤ i ∧ i ≤ max i0 (j0 + 1) ∧ i = scanUp (fun x => !lt G[a]! x) G j0 i0) (fun _ => []) ?_) ?_
  rotate_left
  ·refine zam (fun i:Nat => [(0, .is (.slice (some ⟨b, 0, none⟩) m cap)), (1, .is (.int .i64 a)), (9, .is (.int .i64 i)), (10, .is (.int .i64 j0)), (900, .own (zaj b (uC G ++ rest) tyU))]) (fun i => i0 ≤ i ∧ i ≤ max i0 (j0 + 1) ∧ scanUp (fun x => !lt G[a]! x) G j0 i = scanUp (fun x => !lt G[a]! x) G j0 i0) (fun i => j0 + 1 - i) i0 ⟨Nat.le_refl _, by omega, rfl⟩ ⟨rfl, rfl, rfl, rfl, rfl, trivial⟩ ?_
   rintro i ⟨hi1, hi2, hi3⟩
   by_cases hle:i ≤ j0
   ·obtain ⟨_, qx⟩:=zcp (rest:=rest) (show i < G.size by omega) (0 + (i) * 1) rfl
    obtain ⟨_, qa⟩:=zcp (rest:=rest) (show a < G.size by omega) (0 + (a) * 1) rfl
    cases hc:lt G[a]! G[i]! with
    | false =>
     have hw:IntKind.i64.wrap ((i:Int) + 1) = ((i + 1:Nat):Int):=zaa (by omega) (by omega)
     refine Ze ?_;refine q6 (id:=3) [(200036, [900]), (200040, [900])] mixed (by kernel_rfl) ?_;refine ZcQ ?_;refine qf (zy L (q:=900) rfl rfl rfl rfl rfl qa) rfl rfl ?_;refine Zo ?_;refine qf (zy L (q:=900) rfl rfl rfl rfl rfl qx) rfl rfl ?_;refine z8 (zq L rfl rfl (zn rfl) rfl rfl rfl (fun u H hH _ _ => zba hc hH)) rfl ?_;refine Zae ?_;refine Zbd ?_;refine Zd5 ?_;refine qe ?_;refine Zk ?_;refine Zz ?_;refine Z5 ?_
     exact y9 (x:=i) (i + 1) ⟨by omega, by omega, by rw [← hi3]; exact (zj0 hle (by simp [hc])).symm⟩ (by omega) ⟨rfl, rfl, rfl, rfl, rfl, trivial⟩
    | true =>
     refine Ze ?_;refine q6 (id:=3) [(200036, [900]), (200040, [900])] mixed (by kernel_rfl) ?_;refine ZcQ ?_;refine qf (zy L (q:=900) rfl rfl rfl rfl rfl qa) rfl rfl ?_;refine Zo ?_;refine qf (zy L (q:=900) rfl rfl rfl rfl rfl qx) rfl rfl ?_;refine z8 (zq L rfl rfl (zn rfl) rfl rfl rfl (fun u H hH _ _ => zba hc hH)) rfl ?_;refine Zae ?_;refine ZaW ?_
     exact zbc i Since.refl ⟨hi1, hi2, by rw [← hi3]; exact (zc1 (by rintro ⟨_, h⟩; simp [hc] at h)).symm⟩ rfl ⟨rfl, rfl, rfl, rfl, rfl, trivial⟩
   ·refine Ze ?_;refine ZdW ?_;refine Zp ?_;refine Zet ?_;refine Zcf ?_;refine ZaW ?_
    exact zbc i Since.refl ⟨hi1, hi2, by rw [← hi3]; exact (zc1 (by rintro ⟨h, _⟩; exact hle h)).symm⟩ rfl ⟨rfl, rfl, rfl, rfl, rfl, trivial⟩
  rintro K ⟨hK1, hK2, hK3⟩
  refine zj (qe ?_)
  refine zhl (zdm (fun i:Nat => [(0, .is (.slice (some ⟨b, 0, none⟩) m cap)), (1, .is (.int .i64 a)), (9, .is (.int .i64 K)), (10, .is (.int .i64 i)), (900, .own (zaj b (uC G ++ rest) tyU))]) (fun i => i ≤ j0 ∧ min (K - 1) j0 ≤ i ∧ i = scanDown (fun x => lt G[a]! x) G K j0) (fun _ => []) ?_) ?_
  rotate_left
  ·refine zam (fun i:Nat => [(0, .is (.slice (some ⟨b, 0, none⟩) m cap)), (1, .is (.int .i64 a)), (9, .is (.int .i64 K)), (10, .is (.int .i64 i)), (900, .own (zaj b (uC G ++ rest) tyU))]) (fun i => i ≤ j0 ∧ min (K - 1) j0 ≤ i ∧ scanDown (fun x => lt G[a]! x) G K i = scanDown (fun x => lt G[a]! x) G K j0) (fun i => i) j0 ⟨Nat.le_refl _, by omega, rfl⟩ ⟨rfl, rfl, rfl, rfl, rfl, trivial⟩ ?_
   rintro i ⟨hi1, hi2, hi3⟩
   by_cases hle:K ≤ i
   ·obtain ⟨_, qx⟩:=zcp (rest:=rest) (show i < G.size by omega) (0 + (i) * 1) rfl
    obtain ⟨_, qa⟩:=zcp (rest:=rest) (show a < G.size by omega) (0 + (a) * 1) rfl
    cases hc:lt G[a]! G[i]! with
    | true =>
     obtain ⟨i, rfl⟩:∃ k, i = k + 1:=⟨i - 1, by omega⟩
     have hw:IntKind.i64.wrap (((i + 1:Nat):Int) - 1) = (i:Int):=zaa (by omega) (by omega) |>.trans (by omega)
     refine Ze ?_;refine ZfC ?_;refine ZcQ ?_;refine qf (zy L (q:=900) rfl rfl rfl rfl rfl qa) rfl rfl ?_;refine Zo ?_;refine qf (zy L (q:=900) rfl rfl rfl rfl rfl qx) rfl rfl ?_;refine z8 (zq L rfl rfl (zn rfl) rfl rfl rfl (fun u H hH _ _ => zba hc hH)) rfl ?_;refine Zbd ?_;refine Zd5 ?_;refine qe ?_;refine ZJ ?_;refine Zat ?_;refine Z5 ?_
     exact y9 (x:=i + 1) i ⟨by omega, by omega, by rw [← hi3]; exact (zgo hle (by simp [hc])).symm⟩ (by omega) ⟨rfl, rfl, rfl, rfl, rfl, trivial⟩
    | false =>
     refine Ze ?_;refine ZfC ?_;refine ZcQ ?_;refine qf (zy L (q:=900) rfl rfl rfl rfl rfl qa) rfl rfl ?_;refine Zo ?_;refine qf (zy L (q:=900) rfl rfl rfl rfl rfl qx) rfl rfl ?_;refine z8 (zq L rfl rfl (zn rfl) rfl rfl rfl (fun u H hH _ _ => zba hc hH)) rfl ?_;refine ZaW ?_
     exact zbc i Since.refl ⟨hi1, hi2, by rw [← hi3]; exact (zcc (by rintro ⟨_, h⟩; simp [hc] at h)).symm⟩ rfl ⟨rfl, rfl, rfl, rfl, rfl, trivial⟩
   ·refine Ze ?_;refine Ze9 ?_;refine Zp ?_;refine Zet ?_;refine Zee ?_;refine ZaL ?_;refine ZaW ?_
    exact zbc i Since.refl ⟨hi1, hi2, by rw [← hi3]; exact (zcc (by rintro ⟨h, _⟩; exact hle h)).symm⟩ rfl ⟨rfl, rfl, rfl, rfl, rfl, trivial⟩
  rintro M ⟨hM1, hM2, hM3⟩
  rw [← hK3, ← hM3] at hL
  by_cases hKM:M < K
  ·rw [if_pos hKM] at hL
   refine ZcR ?_;refine Zby ?_;refine Z8 ?_;refine yj ?_;refine qq ?_;refine zf1 rfl ?_;refine Zfh ?_
   exact zbc (K, G) Since.refl ⟨hG, hL⟩ rfl ⟨rfl, rfl, trivial⟩
  ·rw [if_neg hKM, dif_pos (by omega)] at hL
   have hw5:IntKind.i64.wrap ((K:Int) + 1) = ((K + 1:Nat):Int):=zaa (by omega) (by omega)
   have hw6:IntKind.i64.wrap ((M:Int) - 1) = ((M - 1:Nat):Int):=zaa (by omega) (by omega) |>.trans (by omega)
   have hGs:=zbj G K M
   obtain ⟨_, qj⟩:=zcp (rest:=rest) (show M < G.size by omega) (0 + (M) * 1) rfl
   obtain ⟨_, qi⟩:=zcp (rest:=rest) (show K < G.size by omega) (0 + (K) * 1) rfl
   have s1:=zb6 (rest:=rest) G[M]! (show K < G.size by omega) (0 + (K) * 1) rfl
   have b1:=zb7 (rest:=rest) (show K < G.size by omega) (0 + (K) * 1) rfl
   have hz:M < (G.setIfInBounds (K) G[M]!).size:=by rw [Array.size_setIfInBounds]; omega
   have s2:=zb6 (rest:=rest) G[K]! hz (0 + (M) * 1) rfl
   have b2:=zb7 (rest:=rest) hz (0 + (M) * 1) rfl
   rw [zcz] at s2
   refine ZcR ?_;refine Zb ?_;refine Zb2 ?_;refine q6 (id:=8) [(200072, [900]), (200076, [900]), (100077, [900]), (100078, [900])] mixed (by kernel_rfl) ?_;refine Zc1 ?_;refine Zo ?_;refine qf (zy L (q:=900) rfl rfl rfl rfl rfl qj) rfl rfl ?_;refine Zo ?_;refine qf (zy L (q:=900) rfl rfl rfl rfl rfl qi) rfl rfl ?_;refine Zl ?_;refine ym (qz L (q:=900) rfl rfl rfl rfl rfl rfl b1 rfl s1) rfl ?_;refine Zl ?_;refine ym (qz L (q:=900) rfl rfl rfl rfl rfl rfl b2 rfl s2) rfl ?_;refine ZaK ?_;refine Za0 ?_;refine Zz ?_;refine Zc ?_;refine ZcJ ?_;refine Zat ?_;refine Z5 ?_
   exact y9 (x:=((i0, j0), G)) ((K + 1, M - 1), swp G K M) ⟨by dsimp only; omega, by dsimp only; omega, by dsimp only; omega, by dsimp only; omega, by dsimp only; omega, hL⟩ (by dsimp only; omega) ⟨rfl, rfl, rfl, rfl, rfl, trivial⟩
 ·rintro ⟨K, G⟩ ⟨hG, hL⟩
  dsimp only at hG ⊢
  rw [← hL]
  refine zj ?_;refine ZbH ?_;refine Zc ?_
  exact za2 L 900 (r:=zab b _ tyU) (rs:=[.tmp 8]) rfl (fun _ _ h => h) Since.refl rfl rfl (fun _ => rfl)
end Go.V.So
set_option maxRecDepth 20000
namespace Go.V.So
open Go.Proofs Go.RowKit Go.V Go.Sort
attribute [local irreducible] V N X VO Par StepOK Has Ret RetL RetO zbd RetX Src
theorem zfq {d:Array Int} {e i:Nat} (h:¬ (i < e ∧ lt d[i]! d[i - 1]! = false)):scanSorted lt d e i = i:=by
 rw [scanSorted, if_neg]
 simpa using h
theorem zms {d:Array Int} {e i:Nat} (h1:i < e) (h2:lt d[i]! d[i - 1]! = false):scanSorted lt d e i = scanSorted lt d e (i + 1):=by
 rw [scanSorted, if_pos (by simp [h1, h2])]
set_option maxHeartbeats 2000000 in
set_option maxRecDepth 20000 in
theorem pins_ret {d:Array Int} {rest:List Value} {b m cap a e:Nat} (hab:a < e) (he:e ≤ d.size) (hm:d.size = m) (hm1:m ≤ 100000) {w:World} {B:Heap} {C:Nat → Prop} (hB:B.Le (hp w))
  (hr:(zab b (uC d ++ rest) tyU).P B w C) (hC:∀ k, C k → k < w.heap.size ∧ B k = none) :
  RetX Tryz.prog 274 [.slice (some ⟨b, 0, none⟩) m cap, .int .i64 a, .int .i64 e] w B C (zab b (uC (partialInsertionSort lt d a e).1 ++ rest) tyU) (.bool (partialInsertionSort lt d a e).2):=by
 unfold RetX
 refine zag 900 (zab b (uC d ++ rest) tyU) Tryz.func274 rfl Tryz.ntmps274 (Nat.le_of_ble_eq_true rfl) hB hr hC ?_
 rw [zae]
 have hw1:IntKind.i64.wrap ((a:Int) + 1) = ((a + 1:Nat):Int):=zaa (by omega) (by omega)
 have hw2:IntKind.i64.wrap ((e:Int) - (a:Int)) = ((e - a:Nat):Int):=zaa (by omega) (by omega) |>.trans (by omega)
 obtain ⟨X, hX⟩:∃ X, X = partialInsertionSort lt d a e:=⟨_, rfl⟩
 rw [← hX]
 unfold partialInsertionSort at hX
 refine Zbl ?_;refine Zz ?_;refine Zdy ?_;refine ZS ?_
 refine zam (fun s:(Nat × Nat) × Array Int => [(0, .is (.slice (some ⟨b, 0, none⟩) m cap)), (1, .is (.int .i64 a)), (2, .is (.int .i64 e)), (7, .is (.int .i64 s.1.2)), (8, .is (.int .i64 s.1.1)), (900, .own (zaj b (uC s.2 ++ rest) tyU))]) (fun s => s.1.1 ≤ 5 ∧ a + 1 ≤ s.1.2 ∧ s.1.2 ≤ e ∧ s.2.size = m ∧ partialIns lt a e (5 - s.1.1) s.1.2 s.2 = X) (fun s => 5 - s.1.1) ((0, a + 1), d) ⟨by dsimp only; omega, by dsimp only; omega, by dsimp only; omega, hm, hX.symm⟩ ⟨rfl, rfl, rfl, rfl, rfl, rfl, trivial⟩ ?_
 rintro ⟨⟨k, i0⟩, D⟩ ⟨hk, hi1, hi2, hD, hL⟩
 dsimp only at hk hi1 hi2 hD hL ⊢
 clear hX
 by_cases hk5:k < 5
 ·obtain ⟨s, hs⟩:∃ s, 5 - k = s + 1:=⟨5 - k - 1, by omega⟩
  have hs':5 - (k + 1) = s:=by omega
  rw [hs, partialIns] at hL
  dsimp only at hL
  refine ZbX ?_;refine ZaT ?_;refine qe ?_
  refine zhl (zdm (fun i:Nat => [(0, .is (.slice (some ⟨b, 0, none⟩) m cap)), (1, .is (.int .i64 a)), (2, .is (.int .i64 e)), (7, .is (.int .i64 i)), (8, .is (.int .i64 k)), (900, .own (zaj b (uC D ++ rest) tyU))]) (fun i => a + 1 ≤ i ∧ i ≤ e ∧ i = scanSorted lt D e i0) (fun _ => []) ?_) ?_
  rotate_left
  ·refine zam (fun i:Nat => [(0, .is (.slice (some ⟨b, 0, none⟩) m cap)), (1, .is (.int .i64 a)), (2, .is (.int .i64 e)), (7, .is (.int .i64 i)), (8, .is (.int .i64 k)), (900, .own (zaj b (uC D ++ rest) tyU))]) (fun i => a + 1 ≤ i ∧ i ≤ e ∧ scanSorted lt D e i = scanSorted lt D e i0) (fun i => e - i) i0 ⟨hi1, hi2, rfl⟩ ⟨rfl, rfl, rfl, rfl, rfl, rfl, trivial⟩ ?_
   rintro i ⟨h1, h2, h3⟩
   by_cases hle:i < e
   ·obtain ⟨_, q1⟩:=zcp (rest:=rest) (show i < D.size by omega) (0 + (i) * 1) rfl
    obtain ⟨_, q2⟩:=zcp (rest:=rest) (show i - 1 < D.size by omega) (0 + (i - 1) * 1) rfl
    have hw3:IntKind.i64.wrap ((i:Int) - 1) = ((i - 1:Nat):Int):=zaa (by omega) (by omega) |>.trans (by omega)
    cases hc:lt D[i]! D[i - 1]! with
    | false =>
     have hw4:IntKind.i64.wrap ((i:Int) + 1) = ((i + 1:Nat):Int):=zaa (by omega) (by omega)
     refine Ze ?_;refine q6 (id:=5) [(200024, [900]), (200029, [900])] mixed (by kernel_rfl) ?_;refine Zp ?_;refine Zcd ?_;refine Zef ?_;refine qf (zy L (q:=900) rfl rfl rfl rfl rfl q1) rfl rfl ?_;refine Zbf ?_;refine qf (zy L (q:=900) rfl rfl rfl rfl rfl q2) rfl rfl ?_;refine z8 (zq L rfl rfl (zn rfl) rfl rfl rfl (fun u H hH _ _ => zba hc hH)) rfl ?_;refine Zae ?_;refine Zbd ?_;refine Zd5 ?_;refine qe ?_;refine ZJ ?_;refine Zz ?_;refine Z5 ?_
     exact y9 (x:=i) (i + 1) ⟨by omega, by omega, by rw [← h3]; exact (zms hle hc).symm⟩ (by omega) ⟨rfl, rfl, rfl, rfl, rfl, rfl, trivial⟩
    | true =>
     refine Ze ?_;refine q6 (id:=5) [(200024, [900]), (200029, [900])] mixed (by kernel_rfl) ?_;refine Zp ?_;refine Zcd ?_;refine Zef ?_;refine qf (zy L (q:=900) rfl rfl rfl rfl rfl q1) rfl rfl ?_;refine Zbf ?_;refine qf (zy L (q:=900) rfl rfl rfl rfl rfl q2) rfl rfl ?_;refine z8 (zq L rfl rfl (zn rfl) rfl rfl rfl (fun u H hH _ _ => zba hc hH)) rfl ?_;refine Zae ?_;refine ZaW ?_
     exact zbc i Since.refl ⟨h1, h2, by rw [← h3]; exact (zfq (by rintro ⟨_, h⟩; simp [hc] at h)).symm⟩ rfl ⟨rfl, rfl, rfl, rfl, rfl, rfl, trivial⟩
   ·refine Ze ?_;refine Ze9 ?_;refine Zp ?_;refine Zed ?_;refine Zcf ?_;refine ZaL ?_;refine ZaW ?_
    exact zbc i Since.refl ⟨h1, h2, by rw [← h3]; exact (zfq (by rintro ⟨h, _⟩; exact hle h)).symm⟩ rfl ⟨rfl, rfl, rfl, rfl, rfl, rfl, trivial⟩
  ·rintro i ⟨h1, h2, h3⟩
   rw [← h3] at hL
   by_cases hie:i = e
   ·rw [if_pos hie] at hL
    subst hie
    rw [← hL]
    refine ZcR ?_;refine Zb ?_;refine Z9 ?_;refine Zs ?_;refine Z7 ?_;refine Zc ?_
    exact za2 L 900 (r:=zab b _ tyU) (rs:=[.tmp 6]) rfl (fun _ _ h => h) Since.refl rfl rfl (fun _ => rfl)
   ·rw [if_neg hie] at hL
    by_cases h50:e - a < 50
    ·rw [if_pos h50] at hL
     rw [← hL]
     refine ZcR ?_;refine Zb ?_;refine ZR ?_;refine ZD ?_;refine Zaj ?_;refine ZC ?_;refine ZY ?_;refine Zs ?_;refine Zay ?_;refine Zc ?_
     exact za2 L 900 (r:=zab b _ tyU) (rs:=[.tmp 6]) rfl (fun _ _ h => h) Since.refl rfl rfl (fun _ => rfl)
    ·rw [if_neg h50] at hL
     have hw3:IntKind.i64.wrap ((i:Int) - 1) = ((i - 1:Nat):Int):=zaa (by omega) (by omega) |>.trans (by omega)
     have hw4:IntKind.i64.wrap ((i:Int) - (a:Int)) = ((i - a:Nat):Int):=zaa (by omega) (by omega) |>.trans (by omega)
     have hw5:IntKind.i64.wrap ((e:Int) - (i:Int)) = ((e - i:Nat):Int):=zaa (by omega) (by omega) |>.trans (by omega)
     have hw6:IntKind.i64.wrap ((i:Int) + 1) = ((i + 1:Nat):Int):=zaa (by omega) (by omega)
     have hw7:IntKind.i64.wrap ((k:Int) + 1) = ((k + 1:Nat):Int):=zaa (by omega) (by omega)
     have hDs:=zbj D i (i - 1)
     obtain ⟨_, qj⟩:=zcp (rest:=rest) (show i - 1 < D.size by omega) (0 + (i - 1) * 1) rfl
     obtain ⟨_, qi⟩:=zcp (rest:=rest) (show i < D.size by omega) (0 + (i) * 1) rfl
     have s1:=zb6 (rest:=rest) D[i - 1]! (show i < D.size by omega) (0 + (i) * 1) rfl
     have b1:=zb7 (rest:=rest) (show i < D.size by omega) (0 + (i) * 1) rfl
     have hz:i - 1 < (D.setIfInBounds (i) D[i - 1]!).size:=by rw [Array.size_setIfInBounds]; omega
     have s2:=zb6 (rest:=rest) D[i]! hz (0 + (i - 1) * 1) rfl
     have b2:=zb7 (rest:=rest) hz (0 + (i - 1) * 1) rfl
     rw [zcz] at s2
     refine ZcR ?_;refine Zb ?_;refine ZR ?_;refine ZD ?_;refine Zaj ?_;refine ZC ?_;refine ZI ?_;refine Zq ?_;refine q6 (id:=11) [(200051, [900]), (200055, [900]), (100056, [900]), (100057, [900])] mixed (by kernel_rfl) ?_;refine Zp ?_;refine ZeJ ?_;refine Zbf ?_;refine qf (zy L (q:=900) rfl rfl rfl rfl rfl qj) rfl rfl ?_;refine Zo ?_;refine qf (zy L (q:=900) rfl rfl rfl rfl rfl qi) rfl rfl ?_;refine Zl ?_;refine ym (qz L (q:=900) rfl rfl rfl rfl rfl rfl b1 rfl s1) rfl ?_;refine Zl ?_;refine ym (qz L (q:=900) rfl rfl rfl rfl rfl rfl b2 rfl s2) rfl ?_;refine ZaK ?_;refine zj ?_
     generalize swp D i (i - 1) = D1 at *
     obtain ⟨D2, hD2⟩:∃ D2, D2 = (if i - a ≥ 2 then shiftDown lt (i - 1) D1 else D1):=⟨_, rfl⟩
     rw [← hD2] at hL
     refine zgw (fun E:Array Int => [(0, .is (.slice (some ⟨b, 0, none⟩) m cap)), (1, .is (.int .i64 a)), (2, .is (.int .i64 e)), (7, .is (.int .i64 i)), (8, .is (.int .i64 k)), (900, .own (zaj b (uC E ++ rest) tyU))]) (fun E => E.size = m ∧ E = D2) (fun _ => []) ?_ ?_
     rotate_left
     ·by_cases h2a:i - a ≥ 2
      ·rw [if_pos h2a] at hD2
       refine Z4 ?_;refine ZC ?_;refine Za3 ?_;refine Zs ?_;refine ZbI ?_;refine Zat ?_;refine ZS ?_
       refine zam (fun t:Nat × Array Int => [(0, .is (.slice (some ⟨b, 0, none⟩) m cap)), (1, .is (.int .i64 a)), (2, .is (.int .i64 e)), (7, .is (.int .i64 i)), (8, .is (.int .i64 k)), (9, .is (.int .i64 t.1)), (900, .own (zaj b (uC t.2 ++ rest) tyU))]) (fun t => t.1 ≤ i - 1 ∧ t.2.size = m ∧ shiftDown lt t.1 t.2 = D2) (fun t => t.1) (i - 1, D1) ⟨Nat.le_refl _, by dsimp only; omega, hD2.symm⟩ ⟨rfl, rfl, rfl, rfl, rfl, rfl, rfl, trivial⟩ ?_
       rintro ⟨j, E⟩ ⟨hj, hE, hS⟩
       dsimp only at hj hE hS ⊢
       clear hD2
       rcases j with _ | j
       ·rw [shiftDown] at hS
        refine Ze ?_;refine Zct ?_;refine ZE ?_;refine Zb0 ?_
        exact zbc E Since.refl ⟨hE, hS⟩ rfl ⟨rfl, rfl, rfl, rfl, rfl, rfl, trivial⟩
       ·rw [shiftDown] at hS
        have hw8:IntKind.i64.wrap (((j + 1:Nat):Int) - 1) = (j:Int):=zaa (by omega) (by omega) |>.trans (by omega)
        obtain ⟨_, q1⟩:=zcp (rest:=rest) (show j + 1 < E.size by omega) (0 + (j + 1) * 1) rfl
        obtain ⟨_, q2⟩:=zcp (rest:=rest) (show j < E.size by omega) (0 + (j) * 1) rfl
        cases hc:lt E[j + 1]! E[j]! with
        | false =>
         rw [if_pos (by rw [hc]; rfl)] at hS
         refine Ze ?_;refine Zct ?_;refine Zax ?_;refine ZaD ?_;refine Ze ?_;refine q6 (id:=16) [(200071, [900]), (200076, [900])] mixed (by kernel_rfl) ?_;refine Zo ?_;refine qf (zy L (q:=900) rfl rfl rfl rfl rfl q1) rfl rfl ?_;refine Zbf ?_;refine qf (zy L (q:=900) rfl rfl rfl rfl rfl q2) rfl rfl ?_;refine z8 (zq L rfl rfl (zn rfl) rfl rfl rfl (fun u H hH _ _ => zba hc hH)) rfl ?_;refine Zae ?_;refine ZbD ?_;refine yj ?_;refine qq ?_;refine zf1 rfl ?_;refine ZeP ?_
         exact zbc E Since.refl ⟨hE, hS⟩ rfl ⟨rfl, rfl, rfl, rfl, rfl, rfl, trivial⟩
        | true =>
         rw [if_neg (by rw [hc]; simp)] at hS
         obtain ⟨_, qj⟩:=zcp (rest:=rest) (show j < E.size by omega) (0 + (j) * 1) rfl
         obtain ⟨_, qi⟩:=zcp (rest:=rest) (show j + 1 < E.size by omega) (0 + (j + 1) * 1) rfl
         have s1:=zb6 (rest:=rest) E[j]! (show j + 1 < E.size by omega) (0 + (j + 1) * 1) rfl
         have b1:=zb7 (rest:=rest) (show j + 1 < E.size by omega) (0 + (j + 1) * 1) rfl
         have hz:j < (E.setIfInBounds (j + 1) E[j]!).size:=by rw [Array.size_setIfInBounds]; omega
         have s2:=zb6 (rest:=rest) E[j + 1]! hz (0 + (j) * 1) rfl
         have b2:=zb7 (rest:=rest) hz (0 + (j) * 1) rfl
         rw [zcz] at s2
         refine Ze ?_;refine Zct ?_;refine Zax ?_;refine ZaD ?_;refine Ze ?_;refine q6 (id:=16) [(200071, [900]), (200076, [900])] mixed (by kernel_rfl) ?_;refine Zo ?_;refine qf (zy L (q:=900) rfl rfl rfl rfl rfl q1) rfl rfl ?_;refine Zbf ?_;refine qf (zy L (q:=900) rfl rfl rfl rfl rfl q2) rfl rfl ?_;refine z8 (zq L rfl rfl (zn rfl) rfl rfl rfl (fun u H hH _ _ => zba hc hH)) rfl ?_;refine Zae ?_;refine Zbz ?_;refine Zd5 ?_;refine q6 (id:=17) [(200088, [900]), (200092, [900]), (100093, [900]), (100094, [900])] mixed (by kernel_rfl) ?_;refine Zp ?_;refine ZeJ ?_;refine Zbf ?_;refine qf (zy L (q:=900) rfl rfl rfl rfl rfl qj) rfl rfl ?_;refine Zo ?_;refine qf (zy L (q:=900) rfl rfl rfl rfl rfl qi) rfl rfl ?_;refine Zl ?_;refine ym (qz L (q:=900) rfl rfl rfl rfl rfl rfl b1 rfl s1) rfl ?_;refine Zl ?_;refine ym (qz L (q:=900) rfl rfl rfl rfl rfl rfl b2 rfl s2) rfl ?_;refine Zcb ?_;refine ZT ?_;refine ZdP ?_;refine ZX ?_
         exact y9 (x:=(j + 1, E)) (j, swp E (j + 1) j) ⟨by dsimp only; omega, by dsimp only; rw [zbj]; exact hE, hS⟩ (by dsimp only; omega) ⟨rfl, rfl, rfl, rfl, rfl, rfl, rfl, trivial⟩
      ·rw [if_neg h2a] at hD2
       refine Z4 ?_;refine ZC ?_;refine ZE ?_;refine Zab ?_
       exact zbc D1 Since.refl ⟨by omega, hD2.symm⟩ rfl ⟨rfl, rfl, rfl, rfl, rfl, rfl, trivial⟩
     ·rintro G ⟨hG, hGe⟩
      rw [← hGe] at hL
      clear hD2 hGe
      by_cases h2b:e - i ≥ 2
      ·rw [if_pos h2b] at hL
       obtain ⟨D3, hD3⟩:∃ D3, D3 = shiftUp lt e (i + 1) G:=⟨_, rfl⟩
       rw [← hD3] at hL
       refine zj ?_;refine ZdA ?_;refine ZC ?_;refine Za3 ?_;refine Zs ?_;refine Zbr ?_;refine Za ?_;refine Zz ?_;refine ZS ?_
       ·refine zam (fun t:Nat × Array Int => [(0, .is (.slice (some ⟨b, 0, none⟩) m cap)), (1, .is (.int .i64 a)), (2, .is (.int .i64 e)), (7, .is (.int .i64 i)), (8, .is (.int .i64 k)), (10, .is (.int .i64 t.1)), (900, .own (zaj b (uC t.2 ++ rest) tyU))]) (fun t => i + 1 ≤ t.1 ∧ t.1 ≤ e ∧ t.2.size = m ∧ shiftUp lt e t.1 t.2 = D3) (fun t => e - t.1) (i + 1, G) ⟨Nat.le_refl _, by dsimp only; omega, hG, hD3.symm⟩ ⟨rfl, rfl, rfl, rfl, rfl, rfl, rfl, trivial⟩ ?_
        rintro ⟨j, E⟩ ⟨hj1, hj2, hE, hS⟩
        dsimp only at hj1 hj2 hE hS ⊢
        clear hD3
        rw [shiftUp] at hS
        by_cases hje:j < e
        ·rw [if_pos hje] at hS
         have hw8:IntKind.i64.wrap ((j:Int) - 1) = ((j - 1:Nat):Int):=zaa (by omega) (by omega) |>.trans (by omega)
         have hw9:IntKind.i64.wrap ((j:Int) + 1) = ((j + 1:Nat):Int):=zaa (by omega) (by omega)
         obtain ⟨_, q1⟩:=zcp (rest:=rest) (show j < E.size by omega) (0 + (j) * 1) rfl
         obtain ⟨_, q2⟩:=zcp (rest:=rest) (show j - 1 < E.size by omega) (0 + (j - 1) * 1) rfl
         cases hc:lt E[j]! E[j - 1]! with
         | false =>
          rw [if_pos (by rw [hc]; rfl)] at hS
          refine Ze ?_;refine ZcO ?_;refine ZbC ?_;refine ZaD ?_;refine Ze ?_;refine q6 (id:=22) [(200109, [900]), (200114, [900])] mixed (by kernel_rfl) ?_;refine Zo ?_;refine qf (zy L (q:=900) rfl rfl rfl rfl rfl q1) rfl rfl ?_;refine Zbf ?_;refine qf (zy L (q:=900) rfl rfl rfl rfl rfl q2) rfl rfl ?_;refine z8 (zq L rfl rfl (zn rfl) rfl rfl rfl (fun u H hH _ _ => zba hc hH)) rfl ?_;refine Zae ?_;refine ZbD ?_;refine yj ?_;refine qq ?_;refine zf1 rfl ?_;refine ZeP ?_;refine Za5 ?_;refine Zk ?_;refine Zz ?_;refine ZX ?_
          exact y9 (x:=((k, i0), D)) ((k + 1, i), E) ⟨by dsimp only; omega, by dsimp only; omega, by dsimp only; omega, hE, by dsimp only; rw [hs', hS]; exact hL⟩ (by dsimp only; omega) ⟨rfl, rfl, rfl, rfl, rfl, rfl, trivial⟩
         | true =>
          rw [if_neg (by rw [hc]; simp)] at hS
          obtain ⟨_, qj⟩:=zcp (rest:=rest) (show j - 1 < E.size by omega) (0 + (j - 1) * 1) rfl
          obtain ⟨_, qi⟩:=zcp (rest:=rest) (show j < E.size by omega) (0 + (j) * 1) rfl
          have s1:=zb6 (rest:=rest) E[j - 1]! (show j < E.size by omega) (0 + (j) * 1) rfl
          have b1:=zb7 (rest:=rest) (show j < E.size by omega) (0 + (j) * 1) rfl
          have hz:j - 1 < (E.setIfInBounds (j) E[j - 1]!).size:=by rw [Array.size_setIfInBounds]; omega
          have s2:=zb6 (rest:=rest) E[j]! hz (0 + (j - 1) * 1) rfl
          have b2:=zb7 (rest:=rest) hz (0 + (j - 1) * 1) rfl
          rw [zcz] at s2
          refine Ze ?_;refine ZcO ?_;refine ZbC ?_;refine ZaD ?_;refine Ze ?_;refine q6 (id:=22) [(200109, [900]), (200114, [900])] mixed (by kernel_rfl) ?_;refine Zo ?_;refine qf (zy L (q:=900) rfl rfl rfl rfl rfl q1) rfl rfl ?_;refine Zbf ?_;refine qf (zy L (q:=900) rfl rfl rfl rfl rfl q2) rfl rfl ?_;refine z8 (zq L rfl rfl (zn rfl) rfl rfl rfl (fun u H hH _ _ => zba hc hH)) rfl ?_;refine Zae ?_;refine Zbz ?_;refine Zd5 ?_;refine q6 (id:=23) [(200126, [900]), (200130, [900]), (100131, [900]), (100132, [900])] mixed (by kernel_rfl) ?_;refine Zp ?_;refine ZeJ ?_;refine Zbf ?_;refine qf (zy L (q:=900) rfl rfl rfl rfl rfl qj) rfl rfl ?_;refine Zo ?_;refine qf (zy L (q:=900) rfl rfl rfl rfl rfl qi) rfl rfl ?_;refine Zl ?_;refine ym (qz L (q:=900) rfl rfl rfl rfl rfl rfl b1 rfl s1) rfl ?_;refine Zl ?_;refine ym (qz L (q:=900) rfl rfl rfl rfl rfl rfl b2 rfl s2) rfl ?_;refine Zcb ?_;refine ZaH ?_;refine Za ?_;refine Zz ?_;refine ZX ?_
          exact y9 (x:=(j, E)) (j + 1, swp E j (j - 1)) ⟨by dsimp only; omega, by dsimp only; omega, by dsimp only; rw [zbj]; exact hE, hS⟩ (by dsimp only; omega) ⟨rfl, rfl, rfl, rfl, rfl, rfl, rfl, trivial⟩
        ·rw [if_neg hje] at hS
         refine Ze ?_;refine Zbe ?_;refine ZaX ?_;refine Zb0 ?_;refine Za5 ?_;refine Zk ?_;refine Zz ?_;refine ZX ?_
         exact y9 (x:=((k, i0), D)) ((k + 1, i), E) ⟨by dsimp only; omega, by dsimp only; omega, by dsimp only; omega, hE, by dsimp only; rw [hs', hS]; exact hL⟩ (by dsimp only; omega) ⟨rfl, rfl, rfl, rfl, rfl, rfl, trivial⟩
      ·rw [if_neg h2b] at hL
       refine zj ?_;refine ZdA ?_;refine ZC ?_;refine ZE ?_;refine ZaO ?_;refine Zk ?_;refine Zz ?_;refine ZX ?_
       exact y9 (x:=((k, i0), D)) ((k + 1, i), G) ⟨by dsimp only; omega, by dsimp only; omega, by dsimp only; omega, hG, by dsimp only; rw [hs']; exact hL⟩ (by dsimp only; omega) ⟨rfl, rfl, rfl, rfl, rfl, rfl, trivial⟩
 ·obtain rfl:k = 5:=by omega
  have hL':(D, false) = X:=hL
  rw [← hL']
  refine ZbX ?_;refine Za8 ?_;refine zh (id:=24) ?_;refine Zc ?_
  exact za2 L 900 (r:=zab b _ tyU) (rs:=[.tmp 6]) rfl (fun _ _ h => h) Since.refl rfl rfl (fun _ => rfl)
end Go.V.So
set_option maxRecDepth 20000
namespace Go.V.So
open Go.Proofs Go.RowKit Go.V Go.Sort
theorem _root_.Go.V.ZfU {A B:Prop} (h:B) (t:Wr B → A:=by intro h; refine Zem ?_;refine ym (qz L (q:=900) rfl rfl rfl rfl rfl rfl rfl rfl rfl) rfl ?_;exact h.h):A:=t ⟨h⟩
abbrev tyX:TypeId:=402
attribute [local irreducible] V N X VO Par StepOK Has Ret RetL RetO zbd RetX Src
set_option maxRecDepth 20000 in
theorem zrx {x b:Nat} (hx:x < 18446744073709551616) {w:World} {B:Heap} {C:Nat → Prop} (hB:B.Le (hp w))
  (hr:(zab b [.int .u64 x] tyX).P B w C) (hC:∀ k, C k → k < w.heap.size ∧ B k = none) :
  RetX Tryz.prog 307 [.pointer (some ⟨b, 0, none⟩)] w B C (zab b [.int .u64 (xorNextN x:Nat)] tyX) (.int .u64 (xorNextN x:Nat)):=by
 obtain ⟨X1, h1⟩:∃ X1:Nat, X1 = x ^^^ (x * 8192 % 18446744073709551616):=⟨_, rfl⟩
 obtain ⟨X2, h2⟩:∃ X2:Nat, X2 = X1 ^^^ (X1 / 128):=⟨_, rfl⟩
 obtain ⟨X3, h3⟩:∃ X3:Nat, X3 = X2 ^^^ (X2 * 131072 % 18446744073709551616):=⟨_, rfl⟩
 have l1:X1 < 18446744073709551616:=by rw [h1]; exact Nat.xor_lt_two_pow (n:=64) (by omega) (by omega)
 have l2:X2 < 18446744073709551616:=by rw [h2]; exact Nat.xor_lt_two_pow (n:=64) (by omega) (by omega)
 have l3:X3 < 18446744073709551616:=by rw [h3]; exact Nat.xor_lt_two_pow (n:=64) (by omega) (by omega)
 have hv:xorNextN x = X3:=by unfold xorNextN; simp only []; rw [← h1, ← h2, ← h3]
 have s1:IntKind.u64.wrap ((x:Int) * 2 ^ min (13:Int).toNat IntKind.u64.bits) = ((x * 8192 % 18446744073709551616:Nat):Int):=by
  rw [IntKind.wrap_u64, show ((2:Int) ^ min (13:Int).toNat IntKind.u64.bits) = 8192 from by decide]; omega
 have s2:(X1:Int).fdiv (2 ^ min (7:Int).toNat IntKind.u64.bits) = ((X1 / 128:Nat):Int):=by
  rw [show ((2:Int) ^ min (7:Int).toNat IntKind.u64.bits) = 128 from by decide, Int.fdiv_eq_ediv_of_nonneg _ (by omega)]; omega
 have s3:IntKind.u64.wrap ((X2:Int) * 2 ^ min (17:Int).toNat IntKind.u64.bits) = ((X2 * 131072 % 18446744073709551616:Nat):Int):=by
  rw [IntKind.wrap_u64, show ((2:Int) ^ min (17:Int).toNat IntKind.u64.bits) = 131072 from by decide]; omega
 have x1:bits .xor .u64 (x:Int) ((x * 8192 % 18446744073709551616:Nat):Int) = (X1:Int):=by rw [bits_xor_u64_nat _ _ hx (by omega), h1]
 have x2:bits .xor .u64 (X1:Int) ((X1 / 128:Nat):Int) = (X2:Int):=by rw [bits_xor_u64_nat _ _ l1 (by omega), h2]
 have x3:bits .xor .u64 (X2:Int) ((X2 * 131072 % 18446744073709551616:Nat):Int) = (X3:Int):=by rw [bits_xor_u64_nat _ _ l2 (by omega), h3]
 rw [hv]
 clear hv h1 h2 h3
 unfold RetX
 refine zag 900 (zab b [.int .u64 x] tyX) Tryz.func307 rfl Tryz.ntmps307 (Nat.le_of_ble_eq_true rfl) hB hr hC ?_
 rw [zae]
 refine ZG ?_;refine Zd ?_;refine q6 (id:=1) [(200005, [900]), (200008, [900]), (100011, [900])] mixed (by kernel_rfl) ?_;refine Zg ?_;refine Zem ?_;refine Zen ?_;refine Zg ?_;refine Zem ?_;refine Zen ?_;refine z8 (zrr rfl rfl rfl rfl (by decide) s1) rfl ?_;refine z8 (zvj rfl rfl rfl rfl x1) rfl ?_;refine ZfU ?_;refine ZaK ?_;refine q6 (id:=2) [(200014, [900]), (200017, [900]), (100020, [900])] mixed (by kernel_rfl) ?_;refine Zg ?_;refine Zem ?_;refine Zen ?_;refine Zg ?_;refine Zem ?_;refine Zen ?_;refine z8 (z0f rfl rfl rfl rfl (by decide) s2) rfl ?_;refine z8 (zvj rfl rfl rfl rfl x2) rfl ?_;refine ZfU ?_;refine ZaK ?_;refine q6 (id:=3) [(200023, [900]), (200026, [900]), (100029, [900])] mixed (by kernel_rfl) ?_;refine Zg ?_;refine Zem ?_;refine Zen ?_;refine Zg ?_;refine Zem ?_;refine Zen ?_;refine z8 (zrr rfl rfl rfl rfl (by decide) s3) rfl ?_;refine z8 (zvj rfl rfl rfl rfl x3) rfl ?_;refine ZfU ?_;refine ZaK ?_;refine Zk ?_;refine Zfz ?_;refine ZfM ?_;refine Zc ?_
 exact za2 L 900 (r:=zab b _ tyX) (rs:=[.tmp 2]) rfl (fun _ _ h => h) Since.refl rfl rfl (fun _ => rfl)
end Go.V.So
set_option maxRecDepth 20000
namespace Go.V.So
open Go.Proofs Go.RowKit Go.V Go.Sort
theorem _root_.Go.V.Zdm {A B:Prop} (h:B) (t:Wr B → A:=by intro h; refine ZfA ?_;refine Zeg ?_;exact h.h):A:=t ⟨h⟩
attribute [local irreducible] V N X VO Par StepOK Has Ret RetL RetO zbd RetX Src
set_option maxRecDepth 20000 in
theorem zk4 {n:Nat} (hn:n < 18446744073709551616) {w:World} {B:Heap} (hB:B.Le (hp w)):Ret Tryz.prog 224 [.int .u64 n] w B (fun v _ => v = .int .i64 (bitsLen n)):=by
 refine qw Tryz.func224 rfl Tryz.ntmps224 (Nat.le_of_ble_eq_true rfl) hB ?_
 refine ZG ?_;refine Zd ?_;refine Zfg ?_;refine ZeO ?_;refine Z1 ?_;refine z7 (zq L rfl rfl (zn rfl) rfl rfl rfl (fun u H hH _ _ => Ret.of_same hH (Tryz.bits_Len64 (n:Int) u (by omega) (by omega)))) rfl ?_;refine Zc ?_
 refine qv L (rs:=[.tmp 2]) rfl (fun _ _ h => h) Since.refl fun u H hH hle => ?_
 rw [Int.toNat_natCast, bitLen_eq n hn]
 rfl
theorem zys {n:Nat} (hn:n ≤ 100000) {w:World} {B:Heap} (hB:B.Le (hp w)):Ret Tryz.prog 306 [.int .i64 n] w B (fun v _ => v = .int .u64 (1 <<< bitsLen n:Nat)):=by
 have hb:bitsLen n ≤ 17:=(bitsLen_le_iff n 17).2 (by omega)
 have hp2:(2:Nat) ^ bitsLen n ≤ 2 ^ 17:=Nat.pow_le_pow_right (by omega) hb
 have hmin:min ((bitsLen n:Nat):Int).toNat IntKind.u64.bits = bitsLen n:=by
  rw [Int.toNat_natCast]
  have:IntKind.u64.bits = 64:=by decide
  omega
 have s1:IntKind.u64.wrap ((1:Int) * 2 ^ min ((bitsLen n:Nat):Int).toNat IntKind.u64.bits) = ((1 <<< bitsLen n:Nat):Int):=by
  rw [hmin, Nat.shiftLeft_eq, Nat.one_mul, Int.one_mul, Int.natCast_pow]
  have e2:((2:Nat):Int) ^ bitsLen n = ((2 ^ bitsLen n:Nat):Int):=(Int.natCast_pow 2 _).symm
  rw [show ((2:Int) ^ bitsLen n) = ((2:Nat):Int) ^ bitsLen n from rfl, e2]
  have hp3:2 ^ bitsLen n ≤ 131072:=hp2
  clear hp2 hmin e2
  generalize 2 ^ bitsLen n = M at *
  exact wrap_u64 (by omega) (by omega)
 have hc:IntKind.u64.wrap (n:Int) = (n:Int):=wrap_u64 (by omega) (by omega)
 refine qw Tryz.func306 rfl Tryz.ntmps306 (Nat.le_of_ble_eq_true rfl) hB ?_
 refine Zbl ?_;refine z7 (zaw rfl rfl rfl zbk.1 zbk.2 (wrap_u64 (by omega) (by omega))) rfl ?_;refine z7 (zq L rfl rfl (zn rfl) rfl rfl rfl (fun u H hH _ _ => zk4 (by omega) hH)) rfl ?_;refine z7 (zrr rfl rfl rfl rfl (by omega) s1) rfl ?_;refine Zc ?_
 refine qv L (rs:=[.tmp 2]) rfl (fun _ _ h => h) Since.refl fun u H hH hle => ?_
 rfl
set_option maxHeartbeats 2000000 in
set_option maxRecDepth 20000 in
theorem z2j {d:Array Int} {rest:List Value} {b m cap a e:Nat} (hab:a ≤ e) (he:e ≤ d.size) (hm:d.size = m) (hm1:m ≤ 100000) {w:World} {B:Heap} {C:Nat → Prop} (hB:B.Le (hp w))
  (hr:(zab b (uC d ++ rest) tyU).P B w C) (hC:∀ k, C k → k < w.heap.size ∧ B k = none) :
  zbd Tryz.prog 271 [.slice (some ⟨b, 0, none⟩) m cap, .int .i64 a, .int .i64 e] w B C (zab b (uC (breakPatterns d a e) ++ rest) tyU):=by
 unfold zbd
 refine zag 900 (zab b (uC d ++ rest) tyU) Tryz.func271 rfl Tryz.ntmps271 (Nat.le_of_ble_eq_true rfl) hB hr hC ?_
 rw [zae]
 obtain ⟨Ln, rfl⟩:∃ Ln, e = a + Ln:=⟨e - a, by omega⟩
 have hw0:IntKind.i64.wrap (((a + Ln:Nat):Int) - (a:Int)) = (Ln:Int):=zaa (by omega) (by omega) |>.trans (by omega)
 by_cases h8:8 ≤ Ln
 ·have hX:=breakPatterns_eq d a Ln h8
  obtain ⟨M, hM⟩:∃ M, M = 1 <<< bitsLen Ln:=⟨_, rfl⟩
  have hb17:bitsLen Ln ≤ 17:=(bitsLen_le_iff Ln 17).2 (by omega)
  have hMp:1 ≤ M ∧ M ≤ 131072:=by
   rw [hM, Nat.shiftLeft_eq, Nat.one_mul]
   exact ⟨Nat.one_le_two_pow, Nat.pow_le_pow_right (by omega) hb17⟩
  have hM2:M ≤ 2 * Ln:=by
   rw [hM, Nat.shiftLeft_eq, Nat.one_mul]
   exact two_pow_bitsLen_le (by omega)
  obtain ⟨I0, hI0⟩:∃ I0, I0 = a + Ln / 4 * 2 - 1:=⟨_, rfl⟩
  rw [← hM, ← hI0] at hX
  have hc1:IntKind.u64.wrap (Ln:Int) = (Ln:Int):=wrap_u64 (by omega) (by omega)
  have et:((Ln:Nat):Int).tdiv 4 = ((Ln / 4:Nat):Int):=by
   rw [Int.tdiv_eq_ediv_of_nonneg (by omega)]
   omega
  have hq:IntKind.i64.wrap (((Ln:Nat):Int).tdiv 4) = ((Ln / 4:Nat):Int):=by rw [et]; exact zaa (by omega) (by omega)
  have hw1:IntKind.i64.wrap (((Ln / 4:Nat):Int) * 2) = ((Ln / 4 * 2:Nat):Int):=zaa (by omega) (by omega) |>.trans (by omega)
  have hw2:IntKind.i64.wrap ((a:Int) + ((Ln / 4 * 2:Nat):Int)) = ((a + Ln / 4 * 2:Nat):Int):=zaa (by omega) (by omega) |>.trans (by omega)
  have hw3:IntKind.i64.wrap (((a + Ln / 4 * 2:Nat):Int) - 1) = (I0:Int):=zaa (by omega) (by omega) |>.trans (by omega)
  have hw4:IntKind.i64.wrap (((a + Ln / 4 * 2:Nat):Int) + 1) = ((I0 + 2:Nat):Int):=zaa (by omega) (by omega) |>.trans (by omega)
  have hM1:IntKind.u64.wrap ((M:Int) - 1) = ((M - 1:Nat):Int):=wrap_u64 (by omega) (by omega) |>.trans (by omega)
  have hln:(UInt64.ofNat Ln).toNat = Ln:=by
   rw [UInt64.toNat_ofNat']
   exact Nat.mod_eq_of_lt (by omega)
  refine ZG ?_;refine ZC ?_;refine Zbj ?_;refine Za3 ?_;refine Zs ?_;refine Z1 ?_;refine z7 (zaw rfl rfl rfl zw0.1 zw0.2 (wrap_u64 (by omega) (by omega))) rfl ?_;refine Zbi ?_;refine Zj ?_
  refine za3 7 901 rfl fun br => ?_
  refine Zm ?_;refine z7 (zq L rfl rfl (zn rfl) rfl rfl rfl (fun u H hH _ _ => hM ▸ zys (n:=Ln) (by omega) hH)) rfl ?_;refine Zd ?_;refine Zcu ?_;refine Zdm ?_;refine Zat ?_;refine ZS ?_
  refine zam (fun s:Nat × (UInt64 × Array Int) => [(0, .is (.slice (some ⟨b, 0, none⟩) m cap)), (1, .is (.int .i64 a)), (6, .is (.int .i64 Ln)), (7, .is (.pointer (some ⟨br, 0, none⟩))), (8, .is (.int .u64 M)), (9, .is (.int .i64 (I0 + s.1:Nat))), (900, .own (zaj b (uC s.2.2 ++ rest) tyU)), (901, .own (zaj br [.int .u64 s.2.1.toNat] tyX))]) (fun s => s.1 ≤ 3 ∧ s.2.2.size = m ∧ bpRest a Ln M I0 (3 - s.1) s.1 s.2 = breakPatterns d a (a + Ln)) (fun s => 3 - s.1) (0, (UInt64.ofNat Ln, d)) ⟨by dsimp only; omega, hm, hX.symm⟩ ⟨rfl, rfl, rfl, rfl, rfl, rfl, rfl, by dsimp only; rw [hln]; rfl, trivial⟩ ?_
  rintro ⟨t, ⟨r, D⟩⟩ ⟨ht3, hD, hst⟩
  dsimp only at ht3 hD hst ⊢
  have hrl:r.toNat < 18446744073709551616:=UInt64.toNat_lt r
  by_cases ht:t < 3
  ·obtain ⟨o1, ho1⟩:∃ o1, o1 = xorNextN r.toNat &&& (M - 1):=⟨_, rfl⟩
   have ho1l:o1 ≤ M - 1:=by rw [ho1]; exact Nat.and_le_right
   have hand:bits .and .u64 ((xorNextN r.toNat:Nat):Int) ((M - 1:Nat):Int) = (o1:Int):=by rw [bits_and_u64_nat _ _ (xorNextN_lt _ hrl) (by omega), ho1]
   have hcv:IntKind.i64.wrap (o1:Int) = (o1:Int):=zaa (by omega) (by omega)
   have hwt:IntKind.i64.wrap (((I0 + t:Nat):Int) + 1) = ((I0 + (t + 1):Nat):Int):=zaa (by omega) (by omega) |>.trans (by omega)
   by_cases hoL:Ln ≤ o1
   ·have hw5:IntKind.i64.wrap ((o1:Int) - (Ln:Int)) = ((o1 - Ln:Nat):Int):=zaa (by omega) (by omega) |>.trans (by omega)
    have hw6:IntKind.i64.wrap ((a:Int) + ((o1 - Ln:Nat):Int)) = ((a + (o1 - Ln):Nat):Int):=zaa (by omega) (by omega)
    have ho:(if (xorNext r).toNat &&& (M - 1) ≥ Ln then ((xorNext r).toNat &&& (M - 1)) - Ln else (xorNext r).toNat &&& (M - 1)) = o1 - Ln:=by rw [xorNext_toNat, ← ho1, if_pos hoL]
    obtain ⟨_, qj⟩:=zcp (rest:=rest) (show a + (o1 - Ln) < D.size by omega) (0 + (a + (o1 - Ln)) * 1) rfl
    obtain ⟨_, qi⟩:=zcp (rest:=rest) (show I0 + t < D.size by omega) (0 + (I0 + t) * 1) rfl
    have s1:=zb6 (rest:=rest) D[a + (o1 - Ln)]! (show I0 + t < D.size by omega) (0 + (I0 + t) * 1) rfl
    have b1:=zb7 (rest:=rest) (show I0 + t < D.size by omega) (0 + (I0 + t) * 1) rfl
    have hz:a + (o1 - Ln) < (D.setIfInBounds (I0 + t) D[a + (o1 - Ln)]!).size:=by rw [Array.size_setIfInBounds]; omega
    have s2:=zb6 (rest:=rest) D[I0 + t]! hz (0 + (a + (o1 - Ln)) * 1) rfl
    have b2:=zb7 (rest:=rest) hz (0 + (a + (o1 - Ln)) * 1) rfl
    rw [zcz] at s2
    refine Ze ?_;refine Z2 ?_;refine Zw ?_;refine Zdm ?_;refine Zz ?_;refine Zbk ?_;refine Z8 ?_;refine Ze2 ?_;refine ZL ?_;refine qg (yd L 901 (zab br [.int .u64 (xorNextN r.toNat:Nat)] tyX) (.int .u64 (xorNextN r.toNat:Nat)) (r:=zab br [.int .u64 r.toNat] tyX) rfl rfl rfl rfl rfl (fun u H C hH _ hr hC => zrx hrl hH hr hC)) ?_;refine ZdP ?_;refine z7 (zvw rfl rfl rfl rfl hand) rfl ?_;refine z7 (zaw rfl rfl rfl zbl.1 zbl.2 (zaa (by omega) (by omega))) rfl ?_;refine Zi ?_;refine Z7 ?_;refine Zb ?_;refine Zax ?_;refine Zaj ?_;refine ZC ?_;refine Zc ?_;refine q6 (id:=10) [(200058, [900]), (200062, [900]), (100063, [900]), (100064, [900])] mixed (by kernel_rfl) ?_;refine Zp ?_;refine Zb6 ?_;refine Za4 ?_;refine qf (zy L (q:=900) rfl rfl rfl rfl rfl qj) rfl rfl ?_;refine Zo ?_;refine qf (zy L (q:=900) rfl rfl rfl rfl rfl qi) rfl rfl ?_;refine Zl ?_;refine ym (qz L (q:=900) rfl rfl rfl rfl rfl rfl b1 rfl s1) rfl ?_;refine Zl ?_;refine ym (qz L (q:=900) rfl rfl rfl rfl rfl rfl b2 rfl s2) rfl ?_;refine Zcb ?_;refine ZJ ?_;refine Zz ?_;refine ZX ?_
    exact y9 (x:=(t, (r, D))) (t + 1, (xorNext r, swp D (I0 + t) (a + (o1 - Ln)))) ⟨by dsimp only; omega, by dsimp only; rw [zbj]; exact hD, by dsimp only; rw [← hst, bp_step a Ln M I0 t r D ((o1 - Ln)) ht ho]⟩ (by dsimp only; omega) ⟨rfl, rfl, rfl, rfl, rfl, rfl, rfl, by dsimp only; rw [xorNext_toNat]; rfl, trivial⟩
   ·have hw6:IntKind.i64.wrap ((a:Int) + (o1:Int)) = ((a + o1:Nat):Int):=zaa (by omega) (by omega)
    have ho:(if (xorNext r).toNat &&& (M - 1) ≥ Ln then ((xorNext r).toNat &&& (M - 1)) - Ln else (xorNext r).toNat &&& (M - 1)) = o1:=by rw [xorNext_toNat, ← ho1, if_neg (by omega)]
    obtain ⟨_, qj⟩:=zcp (rest:=rest) (show a + o1 < D.size by omega) (0 + (a + o1) * 1) rfl
    obtain ⟨_, qi⟩:=zcp (rest:=rest) (show I0 + t < D.size by omega) (0 + (I0 + t) * 1) rfl
    have s1:=zb6 (rest:=rest) D[a + o1]! (show I0 + t < D.size by omega) (0 + (I0 + t) * 1) rfl
    have b1:=zb7 (rest:=rest) (show I0 + t < D.size by omega) (0 + (I0 + t) * 1) rfl
    have hz:a + o1 < (D.setIfInBounds (I0 + t) D[a + o1]!).size:=by rw [Array.size_setIfInBounds]; omega
    have s2:=zb6 (rest:=rest) D[I0 + t]! hz (0 + (a + o1) * 1) rfl
    have b2:=zb7 (rest:=rest) hz (0 + (a + o1) * 1) rfl
    rw [zcz] at s2
    refine Ze ?_;refine Z2 ?_;refine Zw ?_;refine Zdm ?_;refine Zz ?_;refine Zbk ?_;refine Z8 ?_;refine Ze2 ?_;refine ZL ?_;refine qg (yd L 901 (zab br [.int .u64 (xorNextN r.toNat:Nat)] tyX) (.int .u64 (xorNextN r.toNat:Nat)) (r:=zab br [.int .u64 r.toNat] tyX) rfl rfl rfl rfl rfl (fun u H C hH _ hr hC => zrx hrl hH hr hC)) ?_;refine ZdP ?_;refine z7 (zvw rfl rfl rfl rfl hand) rfl ?_;refine z7 (zaw rfl rfl rfl zbl.1 zbl.2 (zaa (by omega) (by omega))) rfl ?_;refine Zi ?_;refine Z7 ?_;refine Zb ?_;refine ZE ?_;refine Zdb ?_;refine q6 (id:=10) [(200058, [900]), (200062, [900]), (100063, [900]), (100064, [900])] mixed (by kernel_rfl) ?_;refine Zp ?_;refine Zb6 ?_;refine Za4 ?_;refine qf (zy L (q:=900) rfl rfl rfl rfl rfl qj) rfl rfl ?_;refine Zo ?_;refine qf (zy L (q:=900) rfl rfl rfl rfl rfl qi) rfl rfl ?_;refine Zl ?_;refine ym (qz L (q:=900) rfl rfl rfl rfl rfl rfl b1 rfl s1) rfl ?_;refine Zl ?_;refine ym (qz L (q:=900) rfl rfl rfl rfl rfl rfl b2 rfl s2) rfl ?_;refine Zcb ?_;refine ZJ ?_;refine Zz ?_;refine ZX ?_
    exact y9 (x:=(t, (r, D))) (t + 1, (xorNext r, swp D (I0 + t) (a + o1))) ⟨by dsimp only; omega, by dsimp only; rw [zbj]; exact hD, by dsimp only; rw [← hst, bp_step a Ln M I0 t r D (o1) ht ho]⟩ (by dsimp only; omega) ⟨rfl, rfl, rfl, rfl, rfl, rfl, rfl, by dsimp only; rw [xorNext_toNat]; rfl, trivial⟩
  ·obtain rfl:t = 3:=by omega
   have hst':D = breakPatterns d a (a + Ln):=hst
   rw [hst']
   refine Ze ?_;refine Z2 ?_;refine Zw ?_;refine Zdm ?_;refine Zz ?_;refine Zb8 ?_;refine Zb0 ?_
   exact zau L 900 (r:=zab b _ tyU) rfl (fun _ _ h => h) Since.refl rfl rfl
 ·have:breakPatterns d a (a + Ln) = d:=by unfold breakPatterns; simp only [Nat.add_sub_cancel_left]; rw [if_neg (by omega)]
  rw [this]
  refine ZG ?_;refine ZC ?_;refine Zbj ?_;refine ZE ?_;refine Zab ?_
  exact zau L 900 (r:=zab b _ tyU) rfl (fun _ _ h => h) Since.refl rfl rfl
end Go.V.So
set_option maxRecDepth 20000
namespace Go.V.So
open Go.Proofs Go.RowKit Go.V Go.Sort
theorem _root_.Go.V.ZfD {A B:Prop} (h:B) (t:Wr B → A:=by intro h; refine z8 (zkf L (qt rfl (by assumption)) rfl rfl rfl (by assumption)) rfl ?_;exact h.h):A:=t ⟨h⟩
abbrev tyI:TypeId:=3
theorem z25 {d:Array Int} {rest:List Value} {j:Nat} (h:j < d.size):(uC d ++ rest)[0 + j * 1]? = some (.int .u64 d[j]!):=by
 rw [Nat.zero_add, Nat.mul_one, List.getElem?_append_left (by rw [zjm]; exact h)]
 exact zz6 h
attribute [local irreducible] V N X VO Par StepOK Has Ret RetL RetO zbd RetX Src
set_option maxRecDepth 20000 in
theorem zm2 {d:Array Int} {rest:List Value} {b m cap a e bs k:Nat} (ha:a < m) (he:e < m) (hm:d.size = m) (hm1:m ≤ 100000) (hk:k ≤ 1000) {w:World} {B:Heap} {C:Nat → Prop} (hB:B.Le (hp w)) (hb:B b = some (.cells (uC d ++ rest).toArray tyU))
  (hr:(zab bs [.int .i64 k] tyI).P B w C) (hC:∀ k, C k → k < w.heap.size ∧ B k = none) :
  RetX Tryz.prog 317 [.slice (some ⟨b, 0, none⟩) m cap, .int .i64 a, .int .i64 e, .pointer (some ⟨bs, 0, none⟩)] w B C (zab bs [.int .i64 (order2 lt d a e k).2.2] tyI) (.tuple #[.int .i64 (order2 lt d a e k).1, .int .i64 (order2 lt d a e k).2.1]):=by
 unfold RetX
 refine zag 900 (zab bs [.int .i64 k] tyI) Tryz.func317 rfl Tryz.ntmps317 (Nat.le_of_ble_eq_true rfl) hB hr hC ?_
 rw [zae]
 have g1:=z25 (rest:=rest) (show a < d.size by omega)
 have g2:=z25 (rest:=rest) (show e < d.size by omega)
 have hw:IntKind.i64.wrap ((k:Int) + 1) = ((k + 1:Nat):Int):=zaa (by omega) (by omega)
 unfold order2
 cases hc:lt d[e]! d[a]! with
 | true =>
  refine ZG ?_;refine ZdS ?_;refine Zdv ?_;refine Zo ?_;refine ZfD ?_;refine Zo ?_;refine ZfD ?_;refine z8 (zq L rfl rfl (zn rfl) rfl rfl rfl (fun u H hH _ _ => zba hc hH)) rfl ?_;refine ZbD ?_;refine zj ?_;refine Z1 ?_;refine Zfz ?_;refine ZfM ?_;refine Zz ?_;refine Zfz ?_;refine zal (qz L (q:=900) rfl rfl rfl rfl rfl rfl rfl rfl rfl) ?_;refine Zj ?_;refine ZaZ ?_;refine Zt ?_
  exact za2 L 900 (r:=zab bs _ tyI) (rs:=[.tmp 8, .tmp 9]) rfl (fun _ _ h => h) Since.refl rfl rfl (fun _ => rfl)
 | false =>
  refine ZG ?_;refine ZdS ?_;refine Zdv ?_;refine Zo ?_;refine ZfD ?_;refine Zo ?_;refine ZfD ?_;refine z8 (zq L rfl rfl (zn rfl) rfl rfl rfl (fun u H hH _ _ => zba hc hH)) rfl ?_;refine ZbZ ?_;refine Zcu ?_;refine Zt ?_
  exact za2 L 900 (r:=zab bs _ tyI) (rs:=[.tmp 8, .tmp 9]) rfl (fun _ _ h => h) Since.refl rfl rfl (fun _ => rfl)
theorem zkb (d:Array Int) {a e m k:Nat} (ha:a < m) (he:e < m):(order2 lt d a e k).1 < m ∧ (order2 lt d a e k).2.1 < m ∧ (order2 lt d a e k).2.2 ≤ k + 1:=by
 unfold order2
 split
 ·exact ⟨he, ha, Nat.le_refl _⟩
 ·exact ⟨ha, he, Nat.le_succ _⟩
set_option maxRecDepth 20000 in
theorem zgs {d:Array Int} {rest:List Value} {b m cap x y z bs k:Nat} (hx:x < m) (hy:y < m) (hz:z < m) (hm:d.size = m) (hm1:m ≤ 100000) (hk:k ≤ 900) {w:World} {B:Heap} {C:Nat → Prop} (hB:B.Le (hp w)) (hb:B b = some (.cells (uC d ++ rest).toArray tyU))
  (hr:(zab bs [.int .i64 k] tyI).P B w C) (hC:∀ k, C k → k < w.heap.size ∧ B k = none) :
  RetX Tryz.prog 309 [.slice (some ⟨b, 0, none⟩) m cap, .int .i64 x, .int .i64 y, .int .i64 z, .pointer (some ⟨bs, 0, none⟩)] w B C (zab bs [.int .i64 (median lt d x y z k).2] tyI) (.int .i64 (median lt d x y z k).1):=by
 unfold RetX
 refine zag 900 (zab bs [.int .i64 k] tyI) Tryz.func309 rfl Tryz.ntmps309 (Nat.le_of_ble_eq_true rfl) hB hr hC ?_
 rw [zae]
 unfold median
 dsimp only
 obtain ⟨r1, hr1⟩:∃ r, r = order2 lt d x y k:=⟨_, rfl⟩
 rw [← hr1]
 obtain ⟨r2, hr2⟩:∃ r, r = order2 lt d r1.2.1 z r1.2.2:=⟨_, rfl⟩
 rw [← hr2]
 obtain ⟨r3, hr3⟩:∃ r, r = order2 lt d r1.1 r2.1 r2.2.2:=⟨_, rfl⟩
 rw [← hr3]
 obtain ⟨a1, a2, a3⟩:=hr1 ▸ zkb d (k:=k) hx hy
 obtain ⟨b1, b2, b3⟩:=hr2 ▸ zkb d (k:=r1.2.2) a2 hz
 refine Zaq ?_;refine Zah ?_;refine qg (yd L 900 (zab bs [.int .i64 r1.2.2] tyI) (.tuple #[.int .i64 r1.1, .int .i64 r1.2.1]) (r:=zab bs [.int .i64 k] tyI) rfl rfl rfl rfl rfl (fun u H C hH hle hr hC => by have h:=zm2 (rest:=rest) (cap:=cap) hx hy hm hm1 (k:=k) (by omega) hH (hle _ _ hb) hr hC; rw [← hr1] at h; exact h)) ?_;refine Zaa ?_;refine ZU ?_;refine Zah ?_;refine qg (yd L 900 (zab bs [.int .i64 r2.2.2] tyI) (.tuple #[.int .i64 r2.1, .int .i64 r2.2.1]) (r:=zab bs [.int .i64 r1.2.2] tyI) rfl rfl rfl rfl rfl (fun u H C hH hle hr hC => by have h:=zm2 (rest:=rest) (cap:=cap) a2 hz hm hm1 (k:=r1.2.2) (by omega) hH (hle _ _ hb) hr hC; rw [← hr2] at h; exact h)) ?_;refine Zaa ?_;refine ZaZ ?_;refine Zb ?_;refine qg (yd L 900 (zab bs [.int .i64 r3.2.2] tyI) (.tuple #[.int .i64 r3.1, .int .i64 r3.2.1]) (r:=zab bs [.int .i64 r2.2.2] tyI) rfl rfl rfl rfl rfl (fun u H C hH hle hr hC => by have h:=zm2 (rest:=rest) (cap:=cap) a1 b1 hm hm1 (k:=r2.2.2) (by omega) hH (hle _ _ hb) hr hC; rw [← hr3] at h; exact h)) ?_;refine Zaa ?_;refine Zk ?_;refine Zc ?_
 exact za2 L 900 (r:=zab bs _ tyI) (rs:=[.tmp 10]) rfl (fun _ _ h => h) Since.refl rfl rfl (fun _ => rfl)
theorem zv8 (d:Array Int) {x y z m k:Nat} (hx:x < m) (hy:y < m) (hz:z < m):(median lt d x y z k).1 < m ∧ (median lt d x y z k).2 ≤ k + 3:=by
 unfold median
 dsimp only
 obtain ⟨a1, a2, a3⟩:=zkb d (k:=k) hx hy
 obtain ⟨b1, b2, b3⟩:=zkb d (k:=(order2 lt d x y k).2.2) a2 hz
 obtain ⟨c1, c2, c3⟩:=zkb d (k:=(order2 lt d (order2 lt d x y k).2.1 z (order2 lt d x y k).2.2).2.2) a1 b1
 exact ⟨c2, by omega⟩
set_option maxRecDepth 20000 in
theorem zdn {d:Array Int} {rest:List Value} {b m cap x bs k:Nat} (h1:1 ≤ x) (hx:x + 1 < m) (hm:d.size = m) (hm1:m ≤ 100000) (hk:k ≤ 900) {w:World} {B:Heap} {C:Nat → Prop} (hB:B.Le (hp w)) (hb:B b = some (.cells (uC d ++ rest).toArray tyU))
  (hr:(zab bs [.int .i64 k] tyI).P B w C) (hC:∀ k, C k → k < w.heap.size ∧ B k = none) :
  RetX Tryz.prog 308 [.slice (some ⟨b, 0, none⟩) m cap, .int .i64 x, .pointer (some ⟨bs, 0, none⟩)] w B C (zab bs [.int .i64 (medianAdjacent lt d x k).2] tyI) (.int .i64 (medianAdjacent lt d x k).1):=by
 unfold RetX
 refine zag 900 (zab bs [.int .i64 k] tyI) Tryz.func308 rfl Tryz.ntmps308 (Nat.le_of_ble_eq_true rfl) hB hr hC ?_
 rw [zae]
 unfold medianAdjacent
 have hw1:IntKind.i64.wrap ((x:Int) - 1) = ((x - 1:Nat):Int):=zaa (by omega) (by omega) |>.trans (by omega)
 have hw2:IntKind.i64.wrap ((x:Int) + 1) = ((x + 1:Nat):Int):=zaa (by omega) (by omega)
 refine Zaq ?_;refine ZC ?_;refine Zcc ?_;refine Za ?_;refine qg (yd L 900 (zab bs [.int .i64 (median lt d (x - 1) x (x + 1) k).2] tyI) (.int .i64 (median lt d (x - 1) x (x + 1) k).1) (r:=zab bs [.int .i64 k] tyI) rfl rfl rfl rfl rfl (fun u H C hH hle hr hC => zgs (rest:=rest) (cap:=cap) (by omega) (by omega) (by omega) hm hm1 hk hH (hle _ _ hb) hr hC)) ?_;refine Zc ?_
 exact za2 L 900 (r:=zab bs _ tyI) (rs:=[.tmp 6]) rfl (fun _ _ h => h) Since.refl rfl rfl (fun _ => rfl)
end Go.V.So
set_option maxRecDepth 20000
namespace Go.V.So
open Go.Proofs Go.RowKit Go.V Go.Sort
theorem _root_.Go.V.Zew {A B:Prop} (h:B) (t:Wr B → A:=by intro h; refine y7 (zy L (q:=901) rfl rfl rfl rfl rfl rfl) ?_;exact h.h):A:=t ⟨h⟩
theorem _root_.Go.V.ZcS {A B:Prop} (h:B) (t:Wr B → A:=by intro h; refine Zdm ?_;refine Zd ?_;exact h.h):A:=t ⟨h⟩
theorem _root_.Go.V.Zdn {A B:Prop} (h:B) (t:Wr B → A:=by intro h; refine Zaj ?_;refine Zb ?_;exact h.h):A:=t ⟨h⟩
def zni:Hint → Int
 | .unknown => 0
 | .increasing => 1
 | .decreasing => 2
attribute [local irreducible] V N X VO Par StepOK Has Ret RetL RetO zbd RetX Src
set_option maxHeartbeats 1000000 in
set_option maxRecDepth 20000 in
theorem z1e {d:Array Int} {rest:List Value} {b m cap a e:Nat} (h12:12 < e - a) (he:e ≤ m) (hm:d.size = m) (hm1:m ≤ 100000) {w:World} {B:Heap} (hB:B.Le (hp w)) (hb:B b = some (.cells (uC d ++ rest).toArray tyU)) :
  Ret Tryz.prog 272 [.slice (some ⟨b, 0, none⟩) m cap, .int .i64 a, .int .i64 e] w B (fun v _ => v = .tuple #[.int .i64 (choosePivot lt d a e).1, .int .i64 (zni (choosePivot lt d a e).2)]):=by
 obtain ⟨Ln, rfl⟩:∃ Ln, e = a + Ln:=⟨e - a, by omega⟩
 rw [Nat.add_sub_cancel_left] at h12
 unfold choosePivot
 rw [Nat.add_sub_cancel_left]
 dsimp only
 obtain ⟨q, hq⟩:∃ q, q = Ln / 4:=⟨_, rfl⟩
 rw [← hq, if_pos (by omega)]
 have hw0:IntKind.i64.wrap (((a + Ln:Nat):Int) - (a:Int)) = (Ln:Int):=zaa (by omega) (by omega) |>.trans (by omega)
 have et:((Ln:Nat):Int).tdiv 4 = (q:Int):=by
  rw [Int.tdiv_eq_ediv_of_nonneg (by omega)]
  omega
 have hq1:IntKind.i64.wrap (((Ln:Nat):Int).tdiv 4) = (q:Int):=by rw [et]; exact zaa (by omega) (by omega)
 have m1:IntKind.i64.wrap ((q:Int) * 1) = ((q * 1:Nat):Int):=zaa (by omega) (by omega) |>.trans (by omega)
 have m2:IntKind.i64.wrap ((q:Int) * 2) = ((q * 2:Nat):Int):=zaa (by omega) (by omega) |>.trans (by omega)
 have m3:IntKind.i64.wrap ((q:Int) * 3) = ((q * 3:Nat):Int):=zaa (by omega) (by omega) |>.trans (by omega)
 have p1:IntKind.i64.wrap ((a:Int) + ((q * 1:Nat):Int)) = ((a + q * 1:Nat):Int):=zaa (by omega) (by omega) |>.trans (by omega)
 have p2:IntKind.i64.wrap ((a:Int) + ((q * 2:Nat):Int)) = ((a + q * 2:Nat):Int):=zaa (by omega) (by omega) |>.trans (by omega)
 have p3:IntKind.i64.wrap ((a:Int) + ((q * 3:Nat):Int)) = ((a + q * 3:Nat):Int):=zaa (by omega) (by omega) |>.trans (by omega)
 refine qw Tryz.func272 rfl Tryz.ntmps272 (Nat.le_of_ble_eq_true rfl) hB ?_
 refine Zau ?_;refine Zap ?_;refine ZC ?_;refine Zd ?_;refine ZU ?_;refine ZaV ?_
 refine za3 9 901 rfl fun bs => ?_
 by_cases h50:Ln ≥ 50
 ·rw [if_pos h50]
  obtain ⟨r1, hr1⟩:∃ r, r = medianAdjacent lt d (a + q * 1) 0:=⟨_, rfl⟩
  rw [← hr1]
  obtain ⟨r2, hr2⟩:∃ r, r = medianAdjacent lt d (a + q * 2) r1.2:=⟨_, rfl⟩
  rw [← hr2]
  obtain ⟨r3, hr3⟩:∃ r, r = medianAdjacent lt d (a + q * 3) r2.2:=⟨_, rfl⟩
  rw [← hr3]
  obtain ⟨r4, hr4⟩:∃ r, r = median lt d r1.1 r2.1 r3.1 r3.2:=⟨_, rfl⟩
  rw [← hr4]
  obtain ⟨l1, s1⟩:r1.1 < m ∧ r1.2 ≤ 0 + 3:=hr1 ▸ zv8 d (by omega) (by omega) (by omega)
  obtain ⟨l2, s2⟩:r2.1 < m ∧ r2.2 ≤ r1.2 + 3:=hr2 ▸ zv8 d (by omega) (by omega) (by omega)
  obtain ⟨l3, s3⟩:r3.1 < m ∧ r3.2 ≤ r2.2 + 3:=hr3 ▸ zv8 d (by omega) (by omega) (by omega)
  by_cases z0:r4.2 = 0
  ·rw [if_pos z0]
   refine ZaZ ?_;refine ZcS ?_;refine Zcu ?_;refine ZcS ?_;refine Zc5 ?_;refine Zdm ?_;refine ZcB ?_;refine Zax ?_;refine Zcj ?_;refine Za3 ?_;refine Zs ?_;refine Z7 ?_;refine Zb ?_;refine qg (yd L 901 (zab bs [.int .i64 r1.2] tyI) (.int .i64 r1.1) (r:=zab bs [.int .i64 0] tyI) rfl rfl rfl rfl rfl (fun u H C hH hle hr hC => by have h:=zdn (rest:=rest) (cap:=cap) (d:=d) (x:=a + q * 1) (k:=0) (by omega) (by omega) hm hm1 (by omega) hH (hle _ _ hb) hr hC; rw [← hr1] at h; exact h)) ?_;refine Zd ?_;refine Zdn ?_;refine qg (yd L 901 (zab bs [.int .i64 r2.2] tyI) (.int .i64 r2.1) (r:=zab bs [.int .i64 r1.2] tyI) rfl rfl rfl rfl rfl (fun u H C hH hle hr hC => by have h:=zdn (rest:=rest) (cap:=cap) (d:=d) (x:=a + q * 2) (k:=r1.2) (by omega) (by omega) hm hm1 (by omega) hH (hle _ _ hb) hr hC; rw [← hr2] at h; exact h)) ?_;refine Zc ?_;refine Zc8 ?_;refine qg (yd L 901 (zab bs [.int .i64 r3.2] tyI) (.int .i64 r3.1) (r:=zab bs [.int .i64 r2.2] tyI) rfl rfl rfl rfl rfl (fun u H C hH hle hr hC => by have h:=zdn (rest:=rest) (cap:=cap) (d:=d) (x:=a + q * 3) (k:=r2.2) (by omega) (by omega) hm hm1 (by omega) hH (hle _ _ hb) hr hC; rw [← hr3] at h; exact h)) ?_;refine Zc ?_;refine ZF ?_;refine Zah ?_;refine qg (yd L 901 (zab bs [.int .i64 r4.2] tyI) (.int .i64 r4.1) (r:=zab bs [.int .i64 r3.2] tyI) rfl rfl rfl rfl rfl (fun u H C hH hle hr hC => by have h:=zgs (rest:=rest) (cap:=cap) (d:=d) (x:=r1.1) (y:=r2.1) (z:=r3.1) (k:=r3.2) (by omega) (by omega) (by omega) hm hm1 (by omega) hH (hle _ _ hb) hr hC; rw [← hr4] at h; exact h)) ?_;refine Zd ?_;refine Z4 ?_;refine Zew ?_;refine Zy ?_;refine ZM ?_;refine Zaz ?_;refine Z9 ?_;refine Zdf ?_;refine ZT ?_;refine Za ?_;refine Zt ?_
   refine qv L (rs:=[.tmp 6, .tmp 7]) rfl (fun _ _ h => h) Since.refl fun u H hH hle => ?_
   rfl
  ·rw [if_neg z0]
   by_cases z12:r4.2 = 12
   ·rw [if_pos z12]
    refine ZaZ ?_;refine ZcS ?_;refine Zcu ?_;refine ZcS ?_;refine Zc5 ?_;refine Zdm ?_;refine ZcB ?_;refine Zax ?_;refine Zcj ?_;refine Za3 ?_;refine Zs ?_;refine Z7 ?_;refine Zb ?_;refine qg (yd L 901 (zab bs [.int .i64 r1.2] tyI) (.int .i64 r1.1) (r:=zab bs [.int .i64 0] tyI) rfl rfl rfl rfl rfl (fun u H C hH hle hr hC => by have h:=zdn (rest:=rest) (cap:=cap) (d:=d) (x:=a + q * 1) (k:=0) (by omega) (by omega) hm hm1 (by omega) hH (hle _ _ hb) hr hC; rw [← hr1] at h; exact h)) ?_;refine Zd ?_;refine Zdn ?_;refine qg (yd L 901 (zab bs [.int .i64 r2.2] tyI) (.int .i64 r2.1) (r:=zab bs [.int .i64 r1.2] tyI) rfl rfl rfl rfl rfl (fun u H C hH hle hr hC => by have h:=zdn (rest:=rest) (cap:=cap) (d:=d) (x:=a + q * 2) (k:=r1.2) (by omega) (by omega) hm hm1 (by omega) hH (hle _ _ hb) hr hC; rw [← hr2] at h; exact h)) ?_;refine Zc ?_;refine Zc8 ?_;refine qg (yd L 901 (zab bs [.int .i64 r3.2] tyI) (.int .i64 r3.1) (r:=zab bs [.int .i64 r2.2] tyI) rfl rfl rfl rfl rfl (fun u H C hH hle hr hC => by have h:=zdn (rest:=rest) (cap:=cap) (d:=d) (x:=a + q * 3) (k:=r2.2) (by omega) (by omega) hm hm1 (by omega) hH (hle _ _ hb) hr hC; rw [← hr3] at h; exact h)) ?_;refine Zc ?_;refine ZF ?_;refine Zah ?_;refine qg (yd L 901 (zab bs [.int .i64 r4.2] tyI) (.int .i64 r4.1) (r:=zab bs [.int .i64 r3.2] tyI) rfl rfl rfl rfl rfl (fun u H C hH hle hr hC => by have h:=zgs (rest:=rest) (cap:=cap) (d:=d) (x:=r1.1) (y:=r2.1) (z:=r3.1) (k:=r3.2) (by omega) (by omega) (by omega) hm hm1 (by omega) hH (hle _ _ hb) hr hC; rw [← hr4] at h; exact h)) ?_;refine Zd ?_;refine Z4 ?_;refine Zew ?_;refine Zy ?_;refine ZM ?_;refine Zaz ?_;refine ZbJ ?_;refine ZaS ?_;refine Z9 ?_;refine Zdf ?_;refine Za9 ?_;refine Za ?_;refine Zt ?_
    refine qv L (rs:=[.tmp 6, .tmp 7]) rfl (fun _ _ h => h) Since.refl fun u H hH hle => ?_
    rfl
   ·rw [if_neg z12]
    refine ZaZ ?_;refine ZcS ?_;refine Zcu ?_;refine ZcS ?_;refine Zc5 ?_;refine Zdm ?_;refine ZcB ?_;refine Zax ?_;refine Zcj ?_;refine Za3 ?_;refine Zs ?_;refine Z7 ?_;refine Zb ?_;refine qg (yd L 901 (zab bs [.int .i64 r1.2] tyI) (.int .i64 r1.1) (r:=zab bs [.int .i64 0] tyI) rfl rfl rfl rfl rfl (fun u H C hH hle hr hC => by have h:=zdn (rest:=rest) (cap:=cap) (d:=d) (x:=a + q * 1) (k:=0) (by omega) (by omega) hm hm1 (by omega) hH (hle _ _ hb) hr hC; rw [← hr1] at h; exact h)) ?_;refine Zd ?_;refine Zdn ?_;refine qg (yd L 901 (zab bs [.int .i64 r2.2] tyI) (.int .i64 r2.1) (r:=zab bs [.int .i64 r1.2] tyI) rfl rfl rfl rfl rfl (fun u H C hH hle hr hC => by have h:=zdn (rest:=rest) (cap:=cap) (d:=d) (x:=a + q * 2) (k:=r1.2) (by omega) (by omega) hm hm1 (by omega) hH (hle _ _ hb) hr hC; rw [← hr2] at h; exact h)) ?_;refine Zc ?_;refine Zc8 ?_;refine qg (yd L 901 (zab bs [.int .i64 r3.2] tyI) (.int .i64 r3.1) (r:=zab bs [.int .i64 r2.2] tyI) rfl rfl rfl rfl rfl (fun u H C hH hle hr hC => by have h:=zdn (rest:=rest) (cap:=cap) (d:=d) (x:=a + q * 3) (k:=r2.2) (by omega) (by omega) hm hm1 (by omega) hH (hle _ _ hb) hr hC; rw [← hr3] at h; exact h)) ?_;refine Zc ?_;refine ZF ?_;refine Zah ?_;refine qg (yd L 901 (zab bs [.int .i64 r4.2] tyI) (.int .i64 r4.1) (r:=zab bs [.int .i64 r3.2] tyI) rfl rfl rfl rfl rfl (fun u H C hH hle hr hC => by have h:=zgs (rest:=rest) (cap:=cap) (d:=d) (x:=r1.1) (y:=r2.1) (z:=r3.1) (k:=r3.2) (by omega) (by omega) (by omega) hm hm1 (by omega) hH (hle _ _ hb) hr hC; rw [← hr4] at h; exact h)) ?_;refine Zd ?_;refine Z4 ?_;refine Zew ?_;refine Zy ?_;refine ZM ?_;refine Zaz ?_;refine ZbJ ?_;refine ZaS ?_;refine ZbJ ?_;refine ZbI ?_;refine Zt ?_
    refine qv L (rs:=[.tmp 6, .tmp 7]) rfl (fun _ _ h => h) Since.refl fun u H hH hle => ?_
    rfl
 ·rw [if_neg h50]
  obtain ⟨r4, hr4⟩:∃ r, r = median lt d (a + q * 1) (a + q * 2) (a + q * 3) 0:=⟨_, rfl⟩
  rw [← hr4]
  by_cases z0:r4.2 = 0
  ·rw [if_pos z0]
   refine ZaZ ?_;refine ZcS ?_;refine Zcu ?_;refine ZcS ?_;refine Zc5 ?_;refine Zdm ?_;refine ZcB ?_;refine Zax ?_;refine Zcj ?_;refine ZE ?_;refine Zdb ?_;refine ZF ?_;refine Zah ?_;refine qg (yd L 901 (zab bs [.int .i64 r4.2] tyI) (.int .i64 r4.1) (r:=zab bs [.int .i64 0] tyI) rfl rfl rfl rfl rfl (fun u H C hH hle hr hC => by have h:=zgs (rest:=rest) (cap:=cap) (d:=d) (x:=a + q * 1) (y:=a + q * 2) (z:=a + q * 3) (k:=0) (by omega) (by omega) (by omega) hm hm1 (by omega) hH (hle _ _ hb) hr hC; rw [← hr4] at h; exact h)) ?_;refine Zd ?_;refine Z4 ?_;refine Zew ?_;refine Zy ?_;refine ZM ?_;refine Zaz ?_;refine Z9 ?_;refine Zdf ?_;refine ZT ?_;refine Za ?_;refine Zt ?_
   refine qv L (rs:=[.tmp 6, .tmp 7]) rfl (fun _ _ h => h) Since.refl fun u H hH hle => ?_
   rfl
  ·rw [if_neg z0]
   by_cases z12:r4.2 = 12
   ·rw [if_pos z12]
    refine ZaZ ?_;refine ZcS ?_;refine Zcu ?_;refine ZcS ?_;refine Zc5 ?_;refine Zdm ?_;refine ZcB ?_;refine Zax ?_;refine Zcj ?_;refine ZE ?_;refine Zdb ?_;refine ZF ?_;refine Zah ?_;refine qg (yd L 901 (zab bs [.int .i64 r4.2] tyI) (.int .i64 r4.1) (r:=zab bs [.int .i64 0] tyI) rfl rfl rfl rfl rfl (fun u H C hH hle hr hC => by have h:=zgs (rest:=rest) (cap:=cap) (d:=d) (x:=a + q * 1) (y:=a + q * 2) (z:=a + q * 3) (k:=0) (by omega) (by omega) (by omega) hm hm1 (by omega) hH (hle _ _ hb) hr hC; rw [← hr4] at h; exact h)) ?_;refine Zd ?_;refine Z4 ?_;refine Zew ?_;refine Zy ?_;refine ZM ?_;refine Zaz ?_;refine ZbJ ?_;refine ZaS ?_;refine Z9 ?_;refine Zdf ?_;refine Za9 ?_;refine Za ?_;refine Zt ?_
    refine qv L (rs:=[.tmp 6, .tmp 7]) rfl (fun _ _ h => h) Since.refl fun u H hH hle => ?_
    rfl
   ·rw [if_neg z12]
    refine ZaZ ?_;refine ZcS ?_;refine Zcu ?_;refine ZcS ?_;refine Zc5 ?_;refine Zdm ?_;refine ZcB ?_;refine Zax ?_;refine Zcj ?_;refine ZE ?_;refine Zdb ?_;refine ZF ?_;refine Zah ?_;refine qg (yd L 901 (zab bs [.int .i64 r4.2] tyI) (.int .i64 r4.1) (r:=zab bs [.int .i64 0] tyI) rfl rfl rfl rfl rfl (fun u H C hH hle hr hC => by have h:=zgs (rest:=rest) (cap:=cap) (d:=d) (x:=a + q * 1) (y:=a + q * 2) (z:=a + q * 3) (k:=0) (by omega) (by omega) (by omega) hm hm1 (by omega) hH (hle _ _ hb) hr hC; rw [← hr4] at h; exact h)) ?_;refine Zd ?_;refine Z4 ?_;refine Zew ?_;refine Zy ?_;refine ZM ?_;refine Zaz ?_;refine ZbJ ?_;refine ZaS ?_;refine ZbJ ?_;refine ZbI ?_;refine Zt ?_
    refine qv L (rs:=[.tmp 6, .tmp 7]) rfl (fun _ _ h => h) Since.refl fun u H hH hle => ?_
    rfl
end Go.V.So
set_option maxRecDepth 20000
namespace Go.V.So
open Go.Proofs Go.RowKit Go.V Go.Sort
theorem _root_.Go.V.Zeh {A B:Prop} (h:B) (t:Wr B → A:=by intro h; refine q6 (id:=17) [(200080, [900]), (200084, [900])] mixed (by kernel_rfl) ?_;exact h.h):A:=t ⟨h⟩
theorem _root_.Go.V.Zc2 {A B:Prop} (h:B) (t:Wr B → A:=by intro h; refine Zb ?_;refine ZY ?_;exact h.h):A:=t ⟨h⟩
theorem _root_.Go.V.Zex {A B:Prop} (h:B) (t:Wr B → A:=by intro h; refine Za2 ?_;refine zh (id:=23) ?_;exact h.h):A:=t ⟨h⟩
theorem _root_.Go.V.Zey {A B:Prop} (h:B) (t:Wr B → A:=by intro h; refine Zd ?_;refine zh (id:=24) ?_;exact h.h):A:=t ⟨h⟩
theorem _root_.Go.V.Zdo {A B:Prop} (h:B) (t:Wr B → A:=by intro h; refine Za ?_;refine ZfA ?_;exact h.h):A:=t ⟨h⟩
theorem zwr {h:Hint}:zni h = 2 ↔ h = .decreasing:=by cases h <;> simp [zni]
theorem z1y {b:Nat} {cs:List Value} {ty:TypeId}:∀ v H u C, (zaj b cs ty).P v H u C → joinH H u C b = some (.cells cs.toArray ty):=fun _ _ _ _ ⟨hb, hC⟩ => (zjb ((hC b).2 rfl)).trans hb
attribute [local irreducible] V N X VO Par StepOK Has Ret RetL RetO zbd RetX Src
set_option maxHeartbeats 4000000 in
set_option maxRecDepth 20000 in
theorem z1i:∀ (N:Nat) {d:Array Int} {rest:List Value} {b m cap a e lim:Nat} (_:e - a < N) (_:a ≤ e) (_:e ≤ m) (_:d.size = m) (_:m ≤ 100000) (_:lim ≤ 1000) (_:Below lt a e d) {w:World} {B:Heap} {C:Nat → Prop} (_:B.Le (hp w))
  (_:(zab b (uC d ++ rest) tyU).P B w C) (_:∀ k, C k → k < w.heap.size ∧ B k = none),
  zbd Tryz.prog 223 [.slice (some ⟨b, 0, none⟩) m cap, .int .i64 a, .int .i64 e, .int .i64 lim] w B C (zab b (uC (pdq lt d a e lim true true) ++ rest) tyU):=by
 intro N
 induction N with
 | zero => intro d rest b m cap a e lim h; omega
 | succ N ih =>
 intro d rest b m cap a e lim hN hab he hm hm1 hlim hBel w B C hB hr hC
 unfold zbd
 refine zag 900 (zab b (uC d ++ rest) tyU) Tryz.func223 rfl Tryz.ntmps223 (Nat.le_of_ble_eq_true rfl) hB hr hC ?_
 rw [zae]
 obtain ⟨X, hX⟩:∃ X, X = pdq lt d a e lim true true:=⟨_, rfl⟩
 rw [← hX]
 refine Zaq ?_;refine ZS ?_
 refine zam (fun s:((Nat × Nat) × Nat) × ((Bool × Bool) × Array Int) => [(0, .is (.slice (some ⟨b, 0, none⟩) m cap)), (1, .is (.int .i64 s.1.1.1)), (2, .is (.int .i64 s.1.1.2)), (3, .is (.int .i64 s.1.2)), (8, .is (.bool s.2.1.1)), (9, .is (.bool s.2.1.2)), (900, .own (zaj b (uC s.2.2 ++ rest) tyU))])
  (fun s => s.1.1.1 ≤ s.1.1.2 ∧ s.1.1.2 ≤ m ∧ s.1.1.2 - s.1.1.1 ≤ e - a ∧ s.1.2 ≤ 1000 ∧ s.2.2.size = m ∧ Below lt s.1.1.1 s.1.1.2 s.2.2 ∧ pdq lt s.2.2 s.1.1.1 s.1.1.2 s.1.2 s.2.1.1 s.2.1.2 = X) (fun s => s.1.1.2 - s.1.1.1) (((a, e), lim), ((true, true), d)) ⟨hab, he, Nat.le_refl _, hlim, hm, hBel, hX.symm⟩ ⟨rfl, rfl, rfl, rfl, rfl, rfl, rfl, trivial⟩ ?_
 rintro ⟨⟨⟨x, y⟩, l⟩, ⟨⟨wb, wp⟩, D⟩⟩ ⟨hxy, hy, hL, hl, hD, hBl, hP⟩
 dsimp only at hxy hy hL hl hD hBl hP ⊢
 clear hX hBel hm
 have hw0:IntKind.i64.wrap ((y:Int) - (x:Int)) = ((y - x:Nat):Int):=zaa (by omega) (by omega) |>.trans (by omega)
 by_cases h12:y - x ≤ 12
 ·rw [pdq_small h12] at hP
  rw [← hP]
  refine ZM ?_;refine ZU ?_;refine ZC ?_;refine Zi ?_;refine Zm ?_;refine Zbk ?_;refine Zs ?_;refine Zv ?_;refine Zw ?_;refine qg (zan L 900 (zab b (uC (insertionSort lt D x y) ++ rest) tyU) (r:=zab b (uC D ++ rest) tyU) rfl rfl rfl rfl rfl (fun u H C hH _ hr hC => ins_ret hxy (by omega) hD hm1 hH hr hC)) ?_;refine Zy ?_
  exact za4 L 900 (r:=zab b _ tyU) rfl (fun _ _ h => h) Since.refl rfl rfl
 ·by_cases hl0:l = 0
  ·rw [pdq_heap h12 hl0] at hP
   rw [← hP]
   refine ZM ?_;refine ZU ?_;refine ZC ?_;refine Zi ?_;refine Zm ?_;refine Zb8 ?_;refine ZD ?_;refine ZN ?_;refine Z9 ?_;refine Zs ?_;refine ZQ ?_;refine Zw ?_;refine qg (zan L 900 (zab b (uC (heapSort lt D x y) ++ rest) tyU) (r:=zab b (uC D ++ rest) tyU) rfl rfl rfl rfl rfl (fun u H C hH _ hr hC => zy5 (by omega) (by omega) hD hm1 hH hr hC)) ?_;refine Zy ?_
   exact za4 L 900 (r:=zab b _ tyU) rfl (fun _ _ h => h) Since.refl rfl rfl
  ·obtain ⟨s1, B1, hc1, s2, B2, hpv, s3, B3⟩:=rd_facts (lt:=lt) (limit:=l) (wb:=wb) (wp:=wp) swo_ltInt partialInsertionSort_holds reverseRange_holds (show x < y by omega) (show y ≤ D.size by omega) hBl
   have hlle:(rd lt D x y l wb wp).lim ≤ 1000:=Nat.le_trans rd_lim_le hl
   have hdone:=fun h => pdq_done (lt:=lt) (d:=D) (wb:=wb) (wp:=wp) h12 hl0 h
   have heq:=fun h1 h2 h3 => pdq_eq (lt:=lt) (d:=D) (wb:=wb) (wp:=wp) h12 hl0 h1 h2 h3
   have hleft:=fun h1 h2 h3 h4 => pdq_left (lt:=lt) (d:=D) (wb:=wb) (wp:=wp) h12 hl0 h1 h2 h3 h4
   have hright:=fun h1 h2 h3 h4 => pdq_right (lt:=lt) (d:=D) (wb:=wb) (wp:=wp) h12 hl0 h1 h2 h3 h4
   have hrt:wb = true → (rd lt D x y l wb wp).d1 = D ∧ (rd lt D x y l wb wp).lim = l:=fun e => by subst e; exact rd_true
   have hrf:wb = false → (rd lt D x y l wb wp).d1 = breakPatterns D x y ∧ (rd lt D x y l wb wp).lim = l - 1:=fun e => by subst e; exact rd_false
   have hrc:=rd_c (lt:=lt) (d:=D) (a:=x) (b:=y) (limit:=l) (wb:=wb) (wp:=wp)
   have hde:=fun h => rd_dec (lt:=lt) (d:=D) (a:=x) (b:=y) (limit:=l) (wb:=wb) (wp:=wp) h
   have hno:=fun h => rd_not (lt:=lt) (d:=D) (a:=x) (b:=y) (limit:=l) (wb:=wb) (wp:=wp) h
   have hpy:=fun h => rd_pi_yes (lt:=lt) (d:=D) (a:=x) (b:=y) (limit:=l) (wb:=wb) (wp:=wp) h
   have hpn:=fun h => rd_pi_no (lt:=lt) (d:=D) (a:=x) (b:=y) (limit:=l) (wb:=wb) (wp:=wp) h
   rw [hP] at hdone heq hleft hright
   generalize (rd lt D x y l wb wp) = R at *
   refine ZM ?_;refine ZU ?_;refine ZC ?_;refine Zi ?_;refine Zm ?_;refine Zb8 ?_;refine ZD ?_;refine ZN ?_;refine ZR ?_;refine ZD ?_
   refine zgw (fun _:Unit => [(0, .is (.slice (some ⟨b, 0, none⟩) m cap)), (1, .is (.int .i64 x)), (2, .is (.int .i64 y)), (3, .is (.int .i64 R.lim)), (8, .is (.bool wb)), (9, .is (.bool wp)), (10, .is (.int .i64 (y - x:Nat))), (900, .own (zaj b (uC R.d1 ++ rest) tyU))]) (fun _ => True) (fun _ => []) ?rest1 ?first1
   case first1 =>
    cases wb with
    | true =>
     obtain ⟨e1, e2⟩:=hrt rfl
     rw [e1, e2]
     refine ZO ?_;refine Zr ?_;refine Zab ?_
     exact zbc () Since.refl trivial rfl ⟨rfl, rfl, rfl, rfl, rfl, rfl, rfl, rfl, trivial⟩
    | false =>
     obtain ⟨e1, e2⟩:=hrf rfl
     have hw1:IntKind.i64.wrap ((l:Int) - 1) = ((l - 1:Nat):Int):=zaa (by omega) (by omega) |>.trans (by omega)
     rw [e1, e2]
     refine ZO ?_;refine Zr ?_;refine Zs ?_;refine Z7 ?_;refine Zw ?_;refine qg (zan L 900 (zab b (uC (breakPatterns D x y) ++ rest) tyU) (r:=zab b (uC D ++ rest) tyU) rfl rfl rfl rfl rfl (fun u H C hH _ hr hC => z2j (by omega) (by omega) hD hm1 hH hr hC)) ?_;refine Zy ?_;refine Za0 ?_;refine Zat ?_;refine ZX ?_
     exact zbc () Since.refl trivial rfl ⟨rfl, rfl, rfl, rfl, rfl, rfl, rfl, rfl, trivial⟩
   intro _ _
   refine zj ?_;refine Zay ?_;refine Zw ?_;refine y7 (zca L 900 (Φ:=fun H => H b = some (.cells (uC R.d1 ++ rest).toArray tyU)) (c:=.tuple #[.int .i64 R.c.1, .int .i64 (zni R.c.2)]) rfl rfl (zn rfl) rfl rfl rfl rfl rfl z1y (fun u H hH hle h1 => by rw [hrc]; exact z1e (by omega) hy (by omega) hm1 hH h1)) ?_;refine ZbA ?_
   refine zgw (fun _:Unit => [(0, .is (.slice (some ⟨b, 0, none⟩) m cap)), (1, .is (.int .i64 x)), (2, .is (.int .i64 y)), (3, .is (.int .i64 R.lim)), (8, .is (.bool wb)), (9, .is (.bool wp)), (10, .is (.int .i64 (y - x:Nat))), (11, .is (.int .i64 R.pivot)), (12, .is (.int .i64 (zni R.hint))), (900, .own (zaj b (uC R.d2 ++ rest) tyU))]) (fun _ => True) (fun _ => []) ?rest2 ?first2
   case first2 =>
    by_cases hdec:R.c.2 = .decreasing
    ·obtain ⟨e1, e2, e3⟩:=hde hdec
     have hz:zni R.c.2 = 2:=by rw [hdec]; rfl
     rw [e1, e2, e3]
     have w1:IntKind.i64.wrap ((y:Int) - 1) = ((y - 1:Nat):Int):=zaa (by omega) (by omega) |>.trans (by omega)
     have w2:IntKind.i64.wrap ((R.c.1:Int) - (x:Int)) = ((R.c.1 - x:Nat):Int):=zaa (by omega) (by omega) |>.trans (by omega)
     have w3:IntKind.i64.wrap (((y - 1:Nat):Int) - ((R.c.1 - x:Nat):Int)) = ((y - 1 - (R.c.1 - x):Nat):Int):=zaa (by omega) (by omega) |>.trans (by omega)
     refine ZbH ?_;refine Z9 ?_;refine Zs ?_;refine Z4 ?_;refine Zw ?_;refine qg (zan L 900 (zab b (uC (reverseRange R.d1 x y) ++ rest) tyU) (r:=zab b (uC R.d1 ++ rest) tyU) rfl rfl rfl rfl rfl (fun u H C hH _ hr hC => rev_ret (by omega) (by omega) (by omega) hm1 hH hr hC)) ?_;refine Zj ?_;refine ZbI ?_;refine Zat ?_;refine ZC ?_;refine Zat ?_;refine Zc ?_;refine Zaz ?_;refine ZX ?_
     exact zbc () Since.refl trivial rfl ⟨rfl, rfl, rfl, rfl, rfl, rfl, rfl, rfl, rfl, rfl, trivial⟩
    ·obtain ⟨e1, e2, e3⟩:=hno hdec
     have hz:zni R.c.2 ≠ 2:=fun h => hdec (zwr.1 h)
     rw [e1, e2, e3]
     refine ZbH ?_;refine ZR ?_;refine Zab ?_
     exact zbc () Since.refl trivial rfl ⟨rfl, rfl, rfl, rfl, rfl, rfl, rfl, rfl, rfl, rfl, trivial⟩
   intro _ _
   refine zj (zj (zgw (fun _:Unit => [(0, .is (.slice (some ⟨b, 0, none⟩) m cap)), (1, .is (.int .i64 x)), (2, .is (.int .i64 y)), (3, .is (.int .i64 R.lim)), (8, .is (.bool wb)), (9, .is (.bool wp)), (10, .is (.int .i64 (y - x:Nat))), (11, .is (.int .i64 R.pivot)), (900, .own (zaj b (uC R.pi.1 ++ rest) tyU))]) (fun _ => R.pi.2 = false) (fun _ => []) ?rest3 ?first3))
   case first3 =>
    cases wb with
    | false =>
     have hpi:=hpn rfl
     rw [hpi]
     refine ZT ?_;refine Zb ?_;refine ZeQ ?_;refine Zc6 ?_;refine Zab ?_
     exact zbc () Since.refl rfl rfl ⟨rfl, rfl, rfl, rfl, rfl, rfl, rfl, rfl, rfl, trivial⟩
    | true =>
     cases wp with
     | false =>
      have hpi:=hpn rfl
      rw [hpi]
      refine ZT ?_;refine Zw ?_;refine Zf ?_;refine Zc6 ?_;refine Zab ?_
      exact zbc () Since.refl rfl rfl ⟨rfl, rfl, rfl, rfl, rfl, rfl, rfl, rfl, rfl, trivial⟩
     | true =>
      by_cases hi:R.hint = .increasing
      ·have hz:zni R.hint = 1:=by rw [hi]; rfl
       have hpi:=hpy (by rw [hi]; rfl)
       cases hb:(partialInsertionSort lt R.d2 x y).2 with
       | true =>
        rw [hdone (by rw [hpi]; exact hb)]
        refine ZT ?_;refine Zw ?_;refine Zf ?_;refine Zb ?_;refine Z9 ?_;refine Zbt ?_;refine ZaS ?_;refine Zw ?_;refine qg (yd L 900 (zab b (uC R.pi.1 ++ rest) tyU) (.bool true) (r:=zab b (uC R.d2 ++ rest) tyU) rfl rfl rfl rfl rfl (fun u H C hH hle hr hC => by have h:=pins_ret (rest:=rest) (cap:=cap) (d:=R.d2) (a:=x) (e:=y) (m:=m) (by omega) (by omega) (by omega) hm1 hH hr hC; rw [hb, ← hpi] at h; exact h)) ?_;refine Z8 ?_
        exact za4 L 900 (r:=zab b _ tyU) rfl (fun _ _ h => h) Since.refl rfl rfl
       | false =>
        refine ZT ?_;refine Zw ?_;refine Zf ?_;refine Zb ?_;refine Z9 ?_;refine Zbt ?_;refine ZaS ?_;refine Zw ?_;refine qg (yd L 900 (zab b (uC R.pi.1 ++ rest) tyU) (.bool false) (r:=zab b (uC R.d2 ++ rest) tyU) rfl rfl rfl rfl rfl (fun u H C hH hle hr hC => by have h:=pins_ret (rest:=rest) (cap:=cap) (d:=R.d2) (a:=x) (e:=y) (m:=m) (by omega) (by omega) (by omega) hm1 hH hr hC; rw [hb, ← hpi] at h; exact h)) ?_;refine Zab ?_
        exact zbc () Since.refl (by rw [hpi]; exact hb) rfl ⟨rfl, rfl, rfl, rfl, rfl, rfl, rfl, rfl, rfl, trivial⟩
      ·have hz:zni R.hint ≠ 1:=fun h => by
        cases hh:R.hint with
        | unknown => rw [hh] at h; cases h
        | increasing => exact hi hh
        | decreasing => rw [hh] at h; cases h
       have hpi:=hpn (by simp [hi])
       rw [hpi]
       refine ZT ?_;refine Zw ?_;refine Zf ?_;refine Zb ?_;refine ZR ?_;refine Zf ?_;refine Zab ?_
       exact zbc () Since.refl rfl rfl ⟨rfl, rfl, rfl, rfl, rfl, rfl, rfl, rfl, rfl, trivial⟩
   intro _ h2
   obtain ⟨_, q2⟩:=zcp (rest:=rest) (show R.pivot < R.pi.1.size by omega) (0 + (R.pivot) * 1) rfl
   by_cases hx0:0 < x
   ·obtain ⟨_, q1⟩:=zcp (rest:=rest) (show x - 1 < R.pi.1.size by omega) (0 + (x - 1) * 1) rfl
    have hw3:IntKind.i64.wrap ((x:Int) - 1) = ((x - 1:Nat):Int):=zaa (by omega) (by omega) |>.trans (by omega)
    cases hc:lt R.pi.1[x - 1]! R.pi.1[R.pivot]! with
    | false =>
     obtain ⟨mid, d4, hx⟩:∃ mid d4, partitionEqual lt R.pi.1 x y R.pivot = (mid, d4):=⟨_, _, rfl⟩
     obtain ⟨g1, g2, g3, g4, _⟩:=round_eq swo_ltInt (partitionEqual_holds lt) hx0 hpv.1 hpv.2 (by omega) B3 hc hx
     have hn:=heq h2 (by simp [hx0, hc]) (by rw [hx]; exact ⟨g1, g2⟩)
     rw [hx] at hn
     refine Ze ?_;refine Zeh ?_;refine Zg ?_;refine Zde ?_;refine Zer ?_;refine ZdY ?_;refine Zl ?_;refine qf (zy L (q:=900) rfl rfl rfl rfl rfl q1) rfl rfl ?_;refine Zo ?_;refine qf (zy L (q:=900) rfl rfl rfl rfl rfl q2) rfl rfl ?_;refine z8 (zq L rfl rfl (zn rfl) rfl rfl rfl (fun u H hH _ _ => zba hc hH)) rfl ?_;refine Zae ?_;refine Zbd ?_;refine zj ?_;refine ZdA ?_;refine Zah ?_;refine qg (yd L 900 (zab b (uC d4 ++ rest) tyU) (.int .i64 mid) (r:=zab b (uC R.pi.1 ++ rest) tyU) rfl rfl rfl rfl rfl (fun u H C hH hle hr hC => by have h:=z1h (rest:=rest) (cap:=cap) (d:=R.pi.1) hpv.1 hpv.2 (by omega) (m:=m) (by omega) hm1 hH hr hC; rw [hx] at h; exact h)) ?_;refine Zd ?_;refine Zbr ?_;refine Za ?_;refine Zc ?_;refine yj ?_;refine Zfh ?_
     exact y9 (x:=(((x, y), l), ((wb, wp), D))) (((mid, y), R.lim), ((wb, wp), d4)) ⟨by dsimp only; omega, hy, by dsimp only; omega, hlle, by dsimp only; omega, g4, hn.symm⟩ (by dsimp only; omega) ⟨rfl, rfl, rfl, rfl, rfl, rfl, rfl, trivial⟩
    | true =>
     have h2b:(decide (x > 0) && !lt R.pi.1[x - 1]! R.pi.1[R.pivot]!) = false:=by simp [hc]
     obtain ⟨mid, ap, d4, hx⟩:∃ mid ap d4, Go.Sort.partition lt R.pi.1 x y R.pivot = (mid, ap, d4):=⟨_, _, _, rfl⟩
     obtain ⟨g1, g2, g3, g4, g5, gL, gR⟩:=round_part swo_ltInt (partition_holds lt) hpv.1 hpv.2 (by omega) B3 hx
     have w1:IntKind.i64.wrap ((mid:Int) - (x:Int)) = ((mid - x:Nat):Int):=zaa (by omega) (by omega) |>.trans (by omega)
     have w2:IntKind.i64.wrap ((y:Int) - (mid:Int)) = ((y - mid:Nat):Int):=zaa (by omega) (by omega) |>.trans (by omega)
     have w4:IntKind.i64.wrap ((mid:Int) + 1) = ((mid + 1:Nat):Int):=zaa (by omega) (by omega)
     have et:((y - x:Nat):Int).tdiv 8 = (((y - x) / 8:Nat):Int):=by
      rw [Int.tdiv_eq_ediv_of_nonneg (by omega)]
      omega
     have w3:IntKind.i64.wrap (((y - x:Nat):Int).tdiv 8) = (((y - x) / 8:Nat):Int):=by rw [et]; exact zaa (by omega) (by omega)
     by_cases hlr:mid - x < y - mid
     ·have hn:=hleft h2 h2b (by rw [hx]; exact ⟨g1, g2⟩) (by rw [hx]; exact hlr)
      rw [hx] at hn
      dsimp only at hn
      obtain ⟨pL, sL⟩:=pdq_sorts lt swo_ltInt d4 x mid R.lim true true g1 (by omega) g4
      obtain ⟨LL, hLL⟩:∃ LL, LL = pdq lt d4 x mid R.lim true true:=⟨_, rfl⟩
      rw [← hLL] at hn pL sL
      obtain ⟨gB, _⟩:=gL LL pL sL
      have hLs:LL.size = d4.size:=pL.1
      by_cases h8:mid - x ≥ (y - x) / 8
      ·rw [decide_eq_true h8] at hn
       refine Ze ?_;refine Zeh ?_;refine Zg ?_;refine Zde ?_;refine Zer ?_;refine ZdY ?_;refine Zl ?_;refine qf (zy L (q:=900) rfl rfl rfl rfl rfl q1) rfl rfl ?_;refine Zo ?_;refine qf (zy L (q:=900) rfl rfl rfl rfl rfl q2) rfl rfl ?_;refine z8 (zq L rfl rfl (zn rfl) rfl rfl rfl (fun u H hH _ _ => zba hc hH)) rfl ?_;refine Zae ?_;refine Zcz ?_;refine Zbe ?_;refine Zah ?_;refine qg (yd L 900 (zab b (uC d4 ++ rest) tyU) (.tuple #[.int .i64 mid, .bool ap]) (r:=zab b (uC R.pi.1 ++ rest) tyU) rfl rfl rfl rfl rfl (fun u H C hH hle hr hC => by have h:=zea (rest:=rest) (cap:=cap) (d:=R.pi.1) hpv.1 hpv.2 (by omega) (m:=m) (by omega) hm1 hH hr hC; rw [hx] at h; exact h)) ?_;refine Zaa ?_;refine ZaH ?_;refine Za ?_;refine Zd ?_;refine Zb4 ?_;refine ZC ?_;refine ZC ?_;refine Zex ?_;refine Zdo ?_;refine Zey ?_;refine Zc2 ?_;refine Zs ?_;refine zh (id:=25) ?_;refine Zb ?_;refine Za3 ?_;refine Zd ?_;refine zh (id:=26) ?_;refine Zah ?_;refine qg (zan L 900 (zab b (uC LL ++ rest) tyU) (r:=zab b (uC d4 ++ rest) tyU) rfl rfl rfl rfl rfl (fun u H C hH _ hr hC => by rw [hLL]; exact ih (by omega) g1 (by omega) (by omega) hm1 hlle g4 hH hr hC)) ?_;refine Zy ?_;refine zh (id:=27) ?_;refine Za ?_;refine Zz ?_;refine Z5 ?_
       exact y9 (x:=(((x, y), l), ((wb, wp), D))) (((mid + 1, y), R.lim), ((true, ap), LL)) ⟨by dsimp only; omega, hy, by dsimp only; omega, hlle, by dsimp only; omega, gB, hn.symm⟩ (by dsimp only; omega) ⟨rfl, rfl, rfl, rfl, rfl, rfl, rfl, trivial⟩
      ·rw [decide_eq_false h8] at hn
       refine Ze ?_;refine Zeh ?_;refine Zg ?_;refine Zde ?_;refine Zer ?_;refine ZdY ?_;refine Zl ?_;refine qf (zy L (q:=900) rfl rfl rfl rfl rfl q1) rfl rfl ?_;refine Zo ?_;refine qf (zy L (q:=900) rfl rfl rfl rfl rfl q2) rfl rfl ?_;refine z8 (zq L rfl rfl (zn rfl) rfl rfl rfl (fun u H hH _ _ => zba hc hH)) rfl ?_;refine Zae ?_;refine Zcz ?_;refine Zbe ?_;refine Zah ?_;refine qg (yd L 900 (zab b (uC d4 ++ rest) tyU) (.tuple #[.int .i64 mid, .bool ap]) (r:=zab b (uC R.pi.1 ++ rest) tyU) rfl rfl rfl rfl rfl (fun u H C hH hle hr hC => by have h:=zea (rest:=rest) (cap:=cap) (d:=R.pi.1) hpv.1 hpv.2 (by omega) (m:=m) (by omega) hm1 hH hr hC; rw [hx] at h; exact h)) ?_;refine Zaa ?_;refine ZaH ?_;refine Za ?_;refine Zd ?_;refine Zb4 ?_;refine ZC ?_;refine ZC ?_;refine Zex ?_;refine Zdo ?_;refine Zey ?_;refine Zc2 ?_;refine Zs ?_;refine zh (id:=25) ?_;refine Zb ?_;refine ZE ?_;refine Zd ?_;refine zh (id:=26) ?_;refine Zah ?_;refine qg (zan L 900 (zab b (uC LL ++ rest) tyU) (r:=zab b (uC d4 ++ rest) tyU) rfl rfl rfl rfl rfl (fun u H C hH _ hr hC => by rw [hLL]; exact ih (by omega) g1 (by omega) (by omega) hm1 hlle g4 hH hr hC)) ?_;refine Zy ?_;refine zh (id:=27) ?_;refine Za ?_;refine Zz ?_;refine Z5 ?_
       exact y9 (x:=(((x, y), l), ((wb, wp), D))) (((mid + 1, y), R.lim), ((false, ap), LL)) ⟨by dsimp only; omega, hy, by dsimp only; omega, hlle, by dsimp only; omega, gB, hn.symm⟩ (by dsimp only; omega) ⟨rfl, rfl, rfl, rfl, rfl, rfl, rfl, trivial⟩
     ·have hn:=hright h2 h2b (by rw [hx]; exact ⟨g1, g2⟩) (by rw [hx]; exact hlr)
      rw [hx] at hn
      dsimp only at hn
      obtain ⟨pL, sL⟩:=pdq_sorts lt swo_ltInt d4 (mid + 1) y R.lim true true (by omega) (by omega) g5
      obtain ⟨LL, hLL⟩:∃ LL, LL = pdq lt d4 (mid + 1) y R.lim true true:=⟨_, rfl⟩
      rw [← hLL] at hn pL sL
      obtain ⟨gB, _⟩:=gR LL pL sL
      have hLs:LL.size = d4.size:=pL.1
      by_cases h8:y - mid ≥ (y - x) / 8
      ·rw [decide_eq_true h8] at hn
       refine Ze ?_;refine Zeh ?_;refine Zg ?_;refine Zde ?_;refine Zer ?_;refine ZdY ?_;refine Zl ?_;refine qf (zy L (q:=900) rfl rfl rfl rfl rfl q1) rfl rfl ?_;refine Zo ?_;refine qf (zy L (q:=900) rfl rfl rfl rfl rfl q2) rfl rfl ?_;refine z8 (zq L rfl rfl (zn rfl) rfl rfl rfl (fun u H hH _ _ => zba hc hH)) rfl ?_;refine Zae ?_;refine Zcz ?_;refine Zbe ?_;refine Zah ?_;refine qg (yd L 900 (zab b (uC d4 ++ rest) tyU) (.tuple #[.int .i64 mid, .bool ap]) (r:=zab b (uC R.pi.1 ++ rest) tyU) rfl rfl rfl rfl rfl (fun u H C hH hle hr hC => by have h:=zea (rest:=rest) (cap:=cap) (d:=R.pi.1) hpv.1 hpv.2 (by omega) (m:=m) (by omega) hm1 hH hr hC; rw [hx] at h; exact h)) ?_;refine Zaa ?_;refine ZaH ?_;refine Za ?_;refine Zd ?_;refine Zb4 ?_;refine ZC ?_;refine ZC ?_;refine Zex ?_;refine Zdo ?_;refine Zey ?_;refine ZaX ?_;refine ZcD ?_;refine zh (id:=28) ?_;refine Zb ?_;refine Za3 ?_;refine Zd ?_;refine zh (id:=29) ?_;refine Zcc ?_;refine Zb ?_;refine qg (zan L 900 (zab b (uC LL ++ rest) tyU) (r:=zab b (uC d4 ++ rest) tyU) rfl rfl rfl rfl rfl (fun u H C hH _ hr hC => by rw [hLL]; exact ih (by omega) (by omega) hy (by omega) hm1 hlle g5 hH hr hC)) ?_;refine Zy ?_;refine zh (id:=30) ?_;refine Za ?_;refine Z5 ?_
       exact y9 (x:=(((x, y), l), ((wb, wp), D))) (((x, mid), R.lim), ((true, ap), LL)) ⟨by dsimp only; omega, by dsimp only; omega, by dsimp only; omega, hlle, by dsimp only; omega, gB, hn.symm⟩ (by dsimp only; omega) ⟨rfl, rfl, rfl, rfl, rfl, rfl, rfl, trivial⟩
      ·rw [decide_eq_false h8] at hn
       refine Ze ?_;refine Zeh ?_;refine Zg ?_;refine Zde ?_;refine Zer ?_;refine ZdY ?_;refine Zl ?_;refine qf (zy L (q:=900) rfl rfl rfl rfl rfl q1) rfl rfl ?_;refine Zo ?_;refine qf (zy L (q:=900) rfl rfl rfl rfl rfl q2) rfl rfl ?_;refine z8 (zq L rfl rfl (zn rfl) rfl rfl rfl (fun u H hH _ _ => zba hc hH)) rfl ?_;refine Zae ?_;refine Zcz ?_;refine Zbe ?_;refine Zah ?_;refine qg (yd L 900 (zab b (uC d4 ++ rest) tyU) (.tuple #[.int .i64 mid, .bool ap]) (r:=zab b (uC R.pi.1 ++ rest) tyU) rfl rfl rfl rfl rfl (fun u H C hH hle hr hC => by have h:=zea (rest:=rest) (cap:=cap) (d:=R.pi.1) hpv.1 hpv.2 (by omega) (m:=m) (by omega) hm1 hH hr hC; rw [hx] at h; exact h)) ?_;refine Zaa ?_;refine ZaH ?_;refine Za ?_;refine Zd ?_;refine Zb4 ?_;refine ZC ?_;refine ZC ?_;refine Zex ?_;refine Zdo ?_;refine Zey ?_;refine ZaX ?_;refine ZcD ?_;refine zh (id:=28) ?_;refine Zb ?_;refine ZE ?_;refine Zd ?_;refine zh (id:=29) ?_;refine Zcc ?_;refine Zb ?_;refine qg (zan L 900 (zab b (uC LL ++ rest) tyU) (r:=zab b (uC d4 ++ rest) tyU) rfl rfl rfl rfl rfl (fun u H C hH _ hr hC => by rw [hLL]; exact ih (by omega) (by omega) hy (by omega) hm1 hlle g5 hH hr hC)) ?_;refine Zy ?_;refine zh (id:=30) ?_;refine Za ?_;refine Z5 ?_
       exact y9 (x:=(((x, y), l), ((wb, wp), D))) (((x, mid), R.lim), ((false, ap), LL)) ⟨by dsimp only; omega, by dsimp only; omega, by dsimp only; omega, hlle, by dsimp only; omega, gB, hn.symm⟩ (by dsimp only; omega) ⟨rfl, rfl, rfl, rfl, rfl, rfl, rfl, trivial⟩
   ·have h2b:(decide (x > 0) && !lt R.pi.1[x - 1]! R.pi.1[R.pivot]!) = false:=by simp [hx0]
    obtain ⟨mid, ap, d4, hx⟩:∃ mid ap d4, Go.Sort.partition lt R.pi.1 x y R.pivot = (mid, ap, d4):=⟨_, _, _, rfl⟩
    obtain ⟨g1, g2, g3, g4, g5, gL, gR⟩:=round_part swo_ltInt (partition_holds lt) hpv.1 hpv.2 (by omega) B3 hx
    have w1:IntKind.i64.wrap ((mid:Int) - (x:Int)) = ((mid - x:Nat):Int):=zaa (by omega) (by omega) |>.trans (by omega)
    have w2:IntKind.i64.wrap ((y:Int) - (mid:Int)) = ((y - mid:Nat):Int):=zaa (by omega) (by omega) |>.trans (by omega)
    have w4:IntKind.i64.wrap ((mid:Int) + 1) = ((mid + 1:Nat):Int):=zaa (by omega) (by omega)
    have et:((y - x:Nat):Int).tdiv 8 = (((y - x) / 8:Nat):Int):=by
     rw [Int.tdiv_eq_ediv_of_nonneg (by omega)]
     omega
    have w3:IntKind.i64.wrap (((y - x:Nat):Int).tdiv 8) = (((y - x) / 8:Nat):Int):=by rw [et]; exact zaa (by omega) (by omega)
    by_cases hlr:mid - x < y - mid
    ·have hn:=hleft h2 h2b (by rw [hx]; exact ⟨g1, g2⟩) (by rw [hx]; exact hlr)
     rw [hx] at hn
     dsimp only at hn
     obtain ⟨pL, sL⟩:=pdq_sorts lt swo_ltInt d4 x mid R.lim true true g1 (by omega) g4
     obtain ⟨LL, hLL⟩:∃ LL, LL = pdq lt d4 x mid R.lim true true:=⟨_, rfl⟩
     rw [← hLL] at hn pL sL
     obtain ⟨gB, _⟩:=gL LL pL sL
     have hLs:LL.size = d4.size:=pL.1
     by_cases h8:mid - x ≥ (y - x) / 8
     ·rw [decide_eq_true h8] at hn
      refine Ze ?_;refine Zeh ?_;refine Zg ?_;refine ZdB ?_;refine Zcf ?_;refine ZaL ?_;refine Zcz ?_;refine Zbe ?_;refine Zah ?_;refine qg (yd L 900 (zab b (uC d4 ++ rest) tyU) (.tuple #[.int .i64 mid, .bool ap]) (r:=zab b (uC R.pi.1 ++ rest) tyU) rfl rfl rfl rfl rfl (fun u H C hH hle hr hC => by have h:=zea (rest:=rest) (cap:=cap) (d:=R.pi.1) hpv.1 hpv.2 (by omega) (m:=m) (by omega) hm1 hH hr hC; rw [hx] at h; exact h)) ?_;refine Zaa ?_;refine ZaH ?_;refine Za ?_;refine Zd ?_;refine Zb4 ?_;refine ZC ?_;refine ZC ?_;refine Zex ?_;refine Zdo ?_;refine Zey ?_;refine Zc2 ?_;refine Zs ?_;refine zh (id:=25) ?_;refine Zb ?_;refine Za3 ?_;refine Zd ?_;refine zh (id:=26) ?_;refine Zah ?_;refine qg (zan L 900 (zab b (uC LL ++ rest) tyU) (r:=zab b (uC d4 ++ rest) tyU) rfl rfl rfl rfl rfl (fun u H C hH _ hr hC => by rw [hLL]; exact ih (by omega) g1 (by omega) (by omega) hm1 hlle g4 hH hr hC)) ?_;refine Zy ?_;refine zh (id:=27) ?_;refine Za ?_;refine Zz ?_;refine Z5 ?_
      exact y9 (x:=(((x, y), l), ((wb, wp), D))) (((mid + 1, y), R.lim), ((true, ap), LL)) ⟨by dsimp only; omega, hy, by dsimp only; omega, hlle, by dsimp only; omega, gB, hn.symm⟩ (by dsimp only; omega) ⟨rfl, rfl, rfl, rfl, rfl, rfl, rfl, trivial⟩
     ·rw [decide_eq_false h8] at hn
      refine Ze ?_;refine Zeh ?_;refine Zg ?_;refine ZdB ?_;refine Zcf ?_;refine ZaL ?_;refine Zcz ?_;refine Zbe ?_;refine Zah ?_;refine qg (yd L 900 (zab b (uC d4 ++ rest) tyU) (.tuple #[.int .i64 mid, .bool ap]) (r:=zab b (uC R.pi.1 ++ rest) tyU) rfl rfl rfl rfl rfl (fun u H C hH hle hr hC => by have h:=zea (rest:=rest) (cap:=cap) (d:=R.pi.1) hpv.1 hpv.2 (by omega) (m:=m) (by omega) hm1 hH hr hC; rw [hx] at h; exact h)) ?_;refine Zaa ?_;refine ZaH ?_;refine Za ?_;refine Zd ?_;refine Zb4 ?_;refine ZC ?_;refine ZC ?_;refine Zex ?_;refine Zdo ?_;refine Zey ?_;refine Zc2 ?_;refine Zs ?_;refine zh (id:=25) ?_;refine Zb ?_;refine ZE ?_;refine Zd ?_;refine zh (id:=26) ?_;refine Zah ?_;refine qg (zan L 900 (zab b (uC LL ++ rest) tyU) (r:=zab b (uC d4 ++ rest) tyU) rfl rfl rfl rfl rfl (fun u H C hH _ hr hC => by rw [hLL]; exact ih (by omega) g1 (by omega) (by omega) hm1 hlle g4 hH hr hC)) ?_;refine Zy ?_;refine zh (id:=27) ?_;refine Za ?_;refine Zz ?_;refine Z5 ?_
      exact y9 (x:=(((x, y), l), ((wb, wp), D))) (((mid + 1, y), R.lim), ((false, ap), LL)) ⟨by dsimp only; omega, hy, by dsimp only; omega, hlle, by dsimp only; omega, gB, hn.symm⟩ (by dsimp only; omega) ⟨rfl, rfl, rfl, rfl, rfl, rfl, rfl, trivial⟩
    ·have hn:=hright h2 h2b (by rw [hx]; exact ⟨g1, g2⟩) (by rw [hx]; exact hlr)
     rw [hx] at hn
     dsimp only at hn
     obtain ⟨pL, sL⟩:=pdq_sorts lt swo_ltInt d4 (mid + 1) y R.lim true true (by omega) (by omega) g5
     obtain ⟨LL, hLL⟩:∃ LL, LL = pdq lt d4 (mid + 1) y R.lim true true:=⟨_, rfl⟩
     rw [← hLL] at hn pL sL
     obtain ⟨gB, _⟩:=gR LL pL sL
     have hLs:LL.size = d4.size:=pL.1
     by_cases h8:y - mid ≥ (y - x) / 8
     ·rw [decide_eq_true h8] at hn
      refine Ze ?_;refine Zeh ?_;refine Zg ?_;refine ZdB ?_;refine Zcf ?_;refine ZaL ?_;refine Zcz ?_;refine Zbe ?_;refine Zah ?_;refine qg (yd L 900 (zab b (uC d4 ++ rest) tyU) (.tuple #[.int .i64 mid, .bool ap]) (r:=zab b (uC R.pi.1 ++ rest) tyU) rfl rfl rfl rfl rfl (fun u H C hH hle hr hC => by have h:=zea (rest:=rest) (cap:=cap) (d:=R.pi.1) hpv.1 hpv.2 (by omega) (m:=m) (by omega) hm1 hH hr hC; rw [hx] at h; exact h)) ?_;refine Zaa ?_;refine ZaH ?_;refine Za ?_;refine Zd ?_;refine Zb4 ?_;refine ZC ?_;refine ZC ?_;refine Zex ?_;refine Zdo ?_;refine Zey ?_;refine ZaX ?_;refine ZcD ?_;refine zh (id:=28) ?_;refine Zb ?_;refine Za3 ?_;refine Zd ?_;refine zh (id:=29) ?_;refine Zcc ?_;refine Zb ?_;refine qg (zan L 900 (zab b (uC LL ++ rest) tyU) (r:=zab b (uC d4 ++ rest) tyU) rfl rfl rfl rfl rfl (fun u H C hH _ hr hC => by rw [hLL]; exact ih (by omega) (by omega) hy (by omega) hm1 hlle g5 hH hr hC)) ?_;refine Zy ?_;refine zh (id:=30) ?_;refine Za ?_;refine Z5 ?_
      exact y9 (x:=(((x, y), l), ((wb, wp), D))) (((x, mid), R.lim), ((true, ap), LL)) ⟨by dsimp only; omega, by dsimp only; omega, by dsimp only; omega, hlle, by dsimp only; omega, gB, hn.symm⟩ (by dsimp only; omega) ⟨rfl, rfl, rfl, rfl, rfl, rfl, rfl, trivial⟩
     ·rw [decide_eq_false h8] at hn
      refine Ze ?_;refine Zeh ?_;refine Zg ?_;refine ZdB ?_;refine Zcf ?_;refine ZaL ?_;refine Zcz ?_;refine Zbe ?_;refine Zah ?_;refine qg (yd L 900 (zab b (uC d4 ++ rest) tyU) (.tuple #[.int .i64 mid, .bool ap]) (r:=zab b (uC R.pi.1 ++ rest) tyU) rfl rfl rfl rfl rfl (fun u H C hH hle hr hC => by have h:=zea (rest:=rest) (cap:=cap) (d:=R.pi.1) hpv.1 hpv.2 (by omega) (m:=m) (by omega) hm1 hH hr hC; rw [hx] at h; exact h)) ?_;refine Zaa ?_;refine ZaH ?_;refine Za ?_;refine Zd ?_;refine Zb4 ?_;refine ZC ?_;refine ZC ?_;refine Zex ?_;refine Zdo ?_;refine Zey ?_;refine ZaX ?_;refine ZcD ?_;refine zh (id:=28) ?_;refine Zb ?_;refine ZE ?_;refine Zd ?_;refine zh (id:=29) ?_;refine Zcc ?_;refine Zb ?_;refine qg (zan L 900 (zab b (uC LL ++ rest) tyU) (r:=zab b (uC d4 ++ rest) tyU) rfl rfl rfl rfl rfl (fun u H C hH _ hr hC => by rw [hLL]; exact ih (by omega) (by omega) hy (by omega) hm1 hlle g5 hH hr hC)) ?_;refine Zy ?_;refine zh (id:=30) ?_;refine Za ?_;refine Z5 ?_
      exact y9 (x:=(((x, y), l), ((wb, wp), D))) (((x, mid), R.lim), ((false, ap), LL)) ⟨by dsimp only; omega, by dsimp only; omega, by dsimp only; omega, hlle, by dsimp only; omega, gB, hn.symm⟩ (by dsimp only; omega) ⟨rfl, rfl, rfl, rfl, rfl, rfl, rfl, trivial⟩
end Go.V.So
set_option maxRecDepth 20000
namespace Go.V.So
open Go.Proofs Go.RowKit Go.V Go.Sort
attribute [local irreducible] V N X VO Par StepOK Has Ret RetL RetO zbd RetX Src
set_option maxRecDepth 20000 in
theorem sortU_ret {d:Array Int} {rest:List Value} {b m cap:Nat} (hm:d.size = m) (hm1:m ≤ 100000) {w:World} {B:Heap} {C:Nat → Prop} (hB:B.Le (hp w))
  (hr:(zab b (uC d ++ rest) tyU).P B w C) (hC:∀ k, C k → k < w.heap.size ∧ B k = none) :
  zbd Tryz.prog 154 [.slice (some ⟨b, 0, none⟩) m cap] w B C (zab b (uC (Go.Sort.sort lt d) ++ rest) tyU):=by
 unfold zbd
 refine zag 900 (zab b (uC d ++ rest) tyU) Tryz.func154 rfl Tryz.ntmps154 (Nat.le_of_ble_eq_true rfl) hB hr hC ?_
 rw [zae]
 have hc:IntKind.u64.wrap (m:Int) = (m:Int):=wrap_u64 (by omega) (by omega)
 have hb17:bitsLen m ≤ 17:=(bitsLen_le_iff m 17).2 (by omega)
 refine ZbE ?_;refine Zd4 ?_;refine Zc ?_;refine Z6 ?_;refine Zw ?_;refine z7 (zaw rfl rfl rfl zbk.1 zbk.2 (wrap_u64 (by omega) (by omega))) rfl ?_;refine z7 (zq L rfl rfl (zn rfl) rfl rfl rfl (fun u H hH _ _ => zk4 (by omega) hH)) rfl ?_;refine qg (zan L 900 (zab b (uC (Go.Sort.sort lt d) ++ rest) tyU) (r:=zab b (uC d ++ rest) tyU) rfl rfl rfl rfl rfl (fun u H C hH _ hr hC => by have h:=z1i (rest:=rest) (cap:=cap) (m:=m) (d:=d) (a:=0) (e:=m) (lim:=bitsLen m) (m + 1) (by omega) (by omega) (by omega) hm hm1 (by omega) (Or.inl rfl) hH hr hC; unfold Go.Sort.sort; rw [hm]; exact h)) ?_;refine zk ?_
 exact zau L 900 (r:=zab b _ tyU) rfl (fun _ _ h => h) Since.refl rfl rfl
end Go.V.So
set_option maxRecDepth 20000
namespace Go.V.L10
open Go.Proofs Go.RowKit Go.V
theorem _root_.Go.V.Zft {A B:Prop} (h:B) (t:Wr B → A:=by intro h; refine z7 (yh L (vs:=[_, _]) rfl rfl rfl rfl rfl ⟨_, rfl⟩) rfl ?_;exact h.h):A:=t ⟨h⟩
abbrev z6t:TypeId:=264
abbrev z2v:TypeId:=63
def pnc (p:Int × Int):List Value:=[.int .u64 p.1, .int .i64 p.2]
theorem z1c (p:Int × Int):(pnc p).length = 2:=rfl
abbrev PsV (l:List (Int × Int)):Value → Heap → Prop:=SlV z6t 2 (l.flatMap pnc) l.length false
theorem z1d {l:List (Int × Int)} {i:Nat} {x:Int × Int} (h:l[i]? = some x):((l.flatMap pnc).drop (i * 2)).take 2 = [.int .u64 x.1, .int .i64 x.2]:=zdr z1c l i x h
abbrev RsV (l:List Int) (fu:Bool):Value → Heap → Prop:=SlV z2v 1 (l.map (Value.int .u64)) l.length fu
theorem z5f {l:List Int} {i:Nat} {x:Int} (h:l[i]? = some x):((l.map (Value.int .u64)).drop (i * 1)).take 1 = [.int .u64 x]:=by
 rw [Nat.mul_one, List.take_one]
 simp [List.head?_drop, h]
attribute [local irreducible] V N X VO Par StepOK Has Ret RetL RetO zbd RetX Src
theorem cmpU_ret (a b:Int) {w:World} {B:Heap} (hB:B.Le (hp w)):Ret Tryz.prog 213 [.int .u64 a, .int .u64 b] w B (fun v _ => v = .int .i64 (cP a b)):=by
 unfold cP
 refine qw Tryz.func213 rfl Tryz.ntmps213 (Nat.le_of_ble_eq_true rfl) hB ?_
 by_cases h:a < b
 ·rw [if_pos h]
  refine Zbl ?_;refine z7 (zq L rfl rfl (zn rfl) rfl rfl rfl (fun u H hH _ _ => So.isnanU _ hH)) rfl ?_;refine Za1 ?_;refine z7 (zq L rfl rfl (zn rfl) rfl rfl rfl (fun u H hH _ _ => So.isnanU _ hH)) rfl ?_;refine Zi ?_;refine Zm ?_;refine ZD ?_;refine ZO ?_;refine ZD ?_;refine Zaj ?_;refine Zc2 ?_;refine Zs ?_;refine Zay ?_;refine Zc ?_
  refine qv L (rs:=[.tmp 4]) rfl (fun _ _ h => h) Since.refl fun u H hH hle => ?_
  rfl
 ·rw [if_neg h]
  by_cases h2:b < a
  ·rw [if_pos h2]
   refine Zbl ?_;refine z7 (zq L rfl rfl (zn rfl) rfl rfl rfl (fun u H hH _ _ => So.isnanU _ hH)) rfl ?_;refine Za1 ?_;refine z7 (zq L rfl rfl (zn rfl) rfl rfl rfl (fun u H hH _ _ => So.isnanU _ hH)) rfl ?_;refine Zi ?_;refine Zm ?_;refine ZD ?_;refine ZO ?_;refine ZD ?_;refine Zaj ?_;refine ZaX ?_;refine ZD ?_;refine ZF ?_;refine Zby ?_;refine Zs ?_;refine Z4 ?_;refine Zc ?_
   refine qv L (rs:=[.tmp 4]) rfl (fun _ _ h => h) Since.refl fun u H hH hle => ?_
   rfl
  ·rw [if_neg h2]
   refine Zbl ?_;refine z7 (zq L rfl rfl (zn rfl) rfl rfl rfl (fun u H hH _ _ => So.isnanU _ hH)) rfl ?_;refine Za1 ?_;refine z7 (zq L rfl rfl (zn rfl) rfl rfl rfl (fun u H hH _ _ => So.isnanU _ hH)) rfl ?_;refine Zi ?_;refine Zm ?_;refine ZD ?_;refine ZO ?_;refine ZD ?_;refine Zaj ?_;refine ZaX ?_;refine ZD ?_;refine ZF ?_;refine Zb ?_;refine Zb2 ?_;refine ZbB ?_;refine Zc ?_
   refine qv L (rs:=[.tmp 4]) rfl (fun _ _ h => h) Since.refl fun u H hH hle => ?_
   rfl
theorem zhe (a n b:Int) {w:World} {B:Heap} (hB:B.Le (hp w)):Ret Tryz.prog 212 [.agg #[.int .u64 a, .int .i64 n], .int .u64 b] w B (fun v _ => v = .int .i64 (cP a b)):=by
 refine qw Tryz.func212 rfl Tryz.ntmps212 (Nat.le_of_ble_eq_true rfl) hB ?_
 refine Zcr ?_;refine ZW ?_;refine Za ?_;refine z7 (zq L rfl rfl (zn rfl) rfl rfl rfl (fun u H hH _ _ => cmpU_ret _ _ hH)) rfl ?_;refine Zc ?_
 refine qv L (rs:=[.tmp 4]) rfl (fun _ _ h => h) Since.refl fun u H hH hle => ?_
 rfl
abbrev BSP:Nat:=211
abbrev fvP:Value:=.func (.func 212) #[] #[]
set_option maxHeartbeats 2000000 in
theorem z2h {L0:List Int} {r:Int} (hz:(zdc L0).length ≤ 100000) {v:Value} {w:World} {B:Heap} (hB:B.Le (hp w)) (hv:PsV (zdc L0) v B) :
  Ret Tryz.prog BSP [v, .int .u64 r, fvP] w B (fun v _ => v = .tuple #[.int .i64 (z0c cP r (zfj L0):Nat), .bool (decide (r ∈ zfj L0))]):=by
 have hs:=zoj L0
 obtain ⟨l, hl⟩:∃ l, l = zfj L0:=⟨_, rfl⟩
 obtain ⟨ps, hps⟩:∃ ps, ps = zdc L0:=⟨_, rfl⟩
 have hat:∀ (i:Nat) (x:Int), l[i]? = some x → ps[i]? = some (x, (L0.count x:Int)):=fun i x h => by subst hl hps; exact zoy h
 have hlen:ps.length = l.length:=by subst hl hps; exact zg3 L0
 rw [← hl] at hs ⊢
 rw [← hps] at hv hz
 clear hl hps
 refine qw Tryz.func211 rfl Tryz.ntmps211 (Nat.le_of_ble_eq_true rfl) hB ?_
 refine zbf 0 (PsV ps) rfl SlV.mono hv ?_
 refine Zau ?_;refine Zap ?_;refine Zn ?_;refine Za1 ?_;refine Za2 ?_;refine qe ?_
 refine zam (fun s:Nat × Nat => [(0, .sat (PsV ps)), (2, .is fvP), (1, .is (.int .u64 r)), (8, .is (.int .i64 ps.length)), (9, .is (.int .i64 s.1)), (10, .is (.int .i64 s.2))])
  (fun s => s.1 ≤ s.2 ∧ s.2 ≤ l.length ∧ (∀ (k:Nat) (x:Int), k < s.1 → l[k]? = some x → cP x r < 0) ∧ ∀ (k:Nat) (x:Int), s.2 ≤ k → l[k]? = some x → ¬ cP x r < 0) (fun s => s.2 - s.1) (0, ps.length) ⟨Nat.zero_le _, Nat.le_of_eq hlen, fun k x h => (by cases h), fun k x h hx => (by rw [List.getElem?_eq_none (by dsimp only at h; omega)] at hx; cases hx)⟩ ⟨rfl, rfl, rfl, rfl, rfl, rfl, trivial⟩ ?_
 rintro ⟨i, j⟩ ⟨hij, hjl, hlo, hhi⟩
 dsimp only at hij hjl hlo hhi ⊢
 by_cases hlt:i < j
 ·obtain ⟨h, hh⟩:∃ h, h = (i + j) / 2:=⟨_, rfl⟩
  have hsh:((i:Int) + (j:Int)).fdiv (2 ^ min (1:Int).toNat IntKind.u64.bits) = (h:Int):=by
   show ((i:Int) + (j:Int)).fdiv 2 = (h:Int)
   rw [Int.fdiv_eq_ediv_of_nonneg _ (by decide)]
   omega
  obtain ⟨y, hy⟩:=zap (show h < l.length by omega)
  have hc:=z1d (hat h y hy)
  by_cases hcm:cP y r < 0
  ·refine ZdV ?_;refine ZdO ?_;refine Zcu ?_;refine ZaA ?_;refine z7 (zaw rfl rfl rfl zbk.1 zbk.2 (wrap_u64 (by omega) (by omega))) rfl ?_;refine Zd7 ?_;refine z7 (zaw rfl rfl rfl zbl.1 zbl.2 (zaa (by omega) (by omega))) rfl ?_;refine Zcm ?_;refine ZdK ?_;refine Zft ?_;refine Za ?_;refine z7 (zq L rfl rfl (zn rfl) rfl rfl rfl (fun u H hH _ _ => zhe _ _ _ hH)) rfl ?_;refine ZbC ?_;refine ZJ ?_;refine ZaA ?_;refine Z5 ?_
   exact y9 (x:=(i, j)) (h + 1, j) ⟨by dsimp only; omega, hjl, fun k x hk hx => zll zhi hs hy hx (by dsimp only at hk; omega) hcm, hhi⟩ (by dsimp only; omega) ⟨rfl, rfl, rfl, rfl, rfl, rfl, trivial⟩
  ·refine ZdV ?_;refine ZdO ?_;refine Zcu ?_;refine ZaA ?_;refine z7 (zaw rfl rfl rfl zbk.1 zbk.2 (wrap_u64 (by omega) (by omega))) rfl ?_;refine Zd7 ?_;refine z7 (zaw rfl rfl rfl zbl.1 zbl.2 (zaa (by omega) (by omega))) rfl ?_;refine Zcm ?_;refine ZdK ?_;refine Zft ?_;refine Za ?_;refine z7 (zq L rfl rfl (zn rfl) rfl rfl rfl (fun u H hH _ _ => zhe _ _ _ hH)) rfl ?_;refine ZI ?_;refine Zdq ?_;refine ZO ?_;refine Z5 ?_
   exact y9 (x:=(i, j)) (i, h) ⟨by dsimp only; omega, by dsimp only; omega, hlo, fun k x hk hx hcx => hcm (zll zhi hs hx hy hk hcx)⟩ (by dsimp only; omega) ⟨rfl, rfl, rfl, rfl, rfl, rfl, trivial⟩
 ·obtain rfl:i = j:=by omega
  rw [zvd zhi hs hlo hhi hjl]
  by_cases hin:i < l.length
  ·obtain ⟨y, hy⟩:=zap hin
   have hc:=z1d (hat i y hy)
   have hm:=z33 zhi hs hlo hy hhi
   by_cases hcm:cP y r = 0
   ·rw [decide_eq_true (hm.2 hcm)]
    refine ZdV ?_;refine Za8 ?_;refine Z7 ?_;refine Zw ?_;refine ZY ?_;refine Zb ?_;refine ZdK ?_;refine Zft ?_;refine Za ?_;refine z7 (zq L rfl rfl (zn rfl) rfl rfl rfl (fun u H hH _ _ => zhe _ _ _ hH)) rfl ?_;refine Z9 ?_;refine Zf ?_;refine Zt ?_
    refine qv L (rs:=[.tmp 6, .tmp 7]) rfl (fun _ _ h => h) Since.refl fun u H hH hle => ?_
    rfl
   ·rw [decide_eq_false fun h => hcm (hm.1 h)]
    refine ZdV ?_;refine Za8 ?_;refine Z7 ?_;refine Zw ?_;refine ZY ?_;refine Zb ?_;refine ZdK ?_;refine Zft ?_;refine Za ?_;refine z7 (zq L rfl rfl (zn rfl) rfl rfl rfl (fun u H hH _ _ => zhe _ _ _ hH)) rfl ?_;refine ZR ?_;refine Zf ?_;refine Zt ?_
    refine qv L (rs:=[.tmp 6, .tmp 7]) rfl (fun _ _ h => h) Since.refl fun u H hH hle => ?_
    rfl
  ·obtain rfl:i = l.length:=by omega
   rw [decide_eq_false (zqv zhi hlo)]
   refine ZdV ?_;refine Za8 ?_;refine Z7 ?_;refine Zw ?_;refine ZI ?_;refine ZbO ?_;refine Zbs ?_;refine Zbs ?_;refine Zf ?_;refine Zt ?_
   refine qv L (rs:=[.tmp 6, .tmp 7]) rfl (fun _ _ h => h) Since.refl fun u H hH hle => ?_
   rfl
abbrev pnv (s:Value) (t:Nat):Value:=.agg #[s, .int .i64 t]
set_option maxHeartbeats 1000000 in
theorem zr9 {L0:List Int} {r:Int} {t:Nat} (hz:L0.length ≤ 100000) {s:Value} {w:World} {B:Heap} (hB:B.Le (hp w)) (hv:PsV (zdc L0) s B) :
  Ret Tryz.prog 143 [pnv s t, .int .u64 r] w B (fun v _ => v = .tuple #[.int .i64 (z0c cP r (zfj L0):Nat), .bool (decide (r ∈ zfj L0))]):=by
 have hz2:(zdc L0).length ≤ 100000:=by rw [zg3]; exact Nat.le_trans (zpj _) hz
 obtain ⟨p, c, rfl⟩:=zce hv
 refine qw Tryz.func143 rfl Tryz.ntmps143 (Nat.le_of_ble_eq_true rfl) hB ?_
 refine ZK ?_;refine Zu ?_;refine Zap ?_;refine ZW ?_;refine Za ?_;refine z7 (zq L rfl rfl (zn rfl) rfl rfl rfl (fun u H hH hle _ => z2h hz2 hH (hv.le hle))) rfl ?_;refine ZdR ?_;refine Zt ?_
 refine qv L (rs:=[.tmp 4, .tmp 5]) rfl (fun _ _ h => h) Since.refl fun u H hH hle => ?_
 rfl
theorem zts {L0:List Int} {r:Int} (h:r ∈ zfj L0):(zdc L0)[z0c cP r (zfj L0)]? = some (r, (L0.count r:Int)):=zoy (zvc zhi (zoj L0) h)
set_option maxHeartbeats 1000000 in
theorem count_ret {L0:List Int} {r:Int} {t:Nat} (hz:L0.length ≤ 100000) {s:Value} {w:World} {B:Heap} (hB:B.Le (hp w)) (hv:PsV (zdc L0) s B) :
  Ret Tryz.prog 88 [pnv s t, .int .u64 r] w B (fun v _ => v = .int .i64 (L0.count r:Nat)):=by
 obtain ⟨p, c, rfl⟩:=zce hv
 refine qw Tryz.func88 rfl Tryz.ntmps88 (Nat.le_of_ble_eq_true rfl) hB ?_
 by_cases h:r ∈ zfj L0
 ·have hf:decide (r ∈ zfj L0) = true:=decide_eq_true h
  have hp:=zts h
  have hlt:=get_lt hp
  have hc:=z1d hp
  refine Ze6 ?_;refine Zco ?_;refine Za ?_;refine z7 (zq L rfl rfl (zn rfl) rfl rfl rfl (fun u H hH hle _ => hf ▸ zr9 (t:=t) hz hH (hv.le hle))) rfl ?_;refine Zaa ?_;refine Z1 ?_;refine Zs ?_;refine Zx ?_;refine Zal ?_;refine z7 (StepOK.seeV (q7 L (qn rfl) rfl rfl rfl rfl) (by assumption)) rfl ?_;refine Za ?_;refine Zbu ?_;refine Zfa ?_;refine ZeR ?_;refine Zc ?_
  refine qv L (rs:=[.tmp 4]) rfl (fun _ _ h => h) Since.refl fun u H hH hle => ?_
  rfl
 ·have hf:decide (r ∈ zfj L0) = false:=decide_eq_false h
  have hc0:L0.count r = 0:=List.count_eq_zero.2 fun hm => h (zv7.2 hm)
  rw [hc0]
  refine Ze6 ?_;refine Zco ?_;refine Za ?_;refine z7 (zq L rfl rfl (zn rfl) rfl rfl rfl (fun u H hH hle _ => hf ▸ zr9 (t:=t) hz hH (hv.le hle))) rfl ?_;refine Zaa ?_;refine Z1 ?_;refine Zq ?_;refine Zv ?_;refine Zc ?_
  refine qv L (rs:=[.tmp 4]) rfl (fun _ _ h => h) Since.refl fun u H hH hle => ?_
  rfl
end Go.V.L10
set_option maxRecDepth 20000
namespace Go.V.L10
open Go.Proofs Go.RowKit Go.V
attribute [local irreducible] V N X VO Par StepOK Has Ret RetL RetO zbd RetX Src
end Go.V.L10
set_option maxRecDepth 20000
namespace Go.V.L10
open Go.Proofs Go.RowKit Go.V
section
variable {A Bq R X Z:List Value} {a b:Nat}
end
attribute [local irreducible] V N X VO Par StepOK Has Ret RetL RetO RetT zbd RetX Src
end Go.V.L10
set_option maxRecDepth 20000
namespace Go.V.L10
open Go.Proofs Go.RowKit Go.V
attribute [local irreducible] V N X VO Par StepOK Has Ret RetL RetO RetT zbd RetX Src
end Go.V.L10
set_option maxRecDepth 20000
namespace Go.V.L10
open Go.Proofs Go.RowKit Go.V Go.V.L2 Go.V.L8 Go.V.L6
theorem _root_.Go.V.ZaY {A B:Prop} (h:B) (t:Wr B → A:=by intro h; refine z7 (zz L (vs:=[_, _, _, _]) (qp rfl) rfl rfl rfl rfl ⟨_, rfl⟩) rfl ?_;exact h.h):A:=t ⟨h⟩
theorem _root_.Go.V.Zfe {A B:Prop} (h:B) (t:Wr B → A:=by intro h; refine zcw 900 901 rfl rfl (zaq _) ?_;exact h.h):A:=t ⟨h⟩
abbrev tyS:TypeId:=205
abbrev Ent:=List (Int × (List U × Value))
abbrev vcE (p:List U × Value):Value:=p.2
abbrev stc (n m:Nat) (s:Value) (t:Nat):List Value:=[.int .u64 n, .map (some m), s, .int .i64 t]
abbrev StO (b n m:Nat) (s:Value) (t:Nat) (es:Ent):GR:=zf3 (zab b (stc n m s t) tyS) (z57 m .u64 vcE es)
theorem zqd (b n m:Nat) (s:Value) (t:Nat) (es:Ent):(StO b n m s t es).res = zho (zaj b (stc n m s t) tyS) (zp2 m .u64 vcE es):=rfl
def EsV (es:Ent) (H:Heap):Prop:=∀ e ∈ es, SetV e.2.1 e.2.2 H
theorem EsV.le {es:Ent} {H H':Heap} (h:EsV es H) (hle:H.Le H'):EsV es H':=fun e he => (h e he).le hle
theorem zl0 {b:Nat} {cs:List Value} {ty:TypeId}:∀ v H u C, (zaj b cs ty).P v H u C → joinH H u C b = some (.cells cs.toArray ty):=fun _ _ _ _ ⟨hb, hC⟩ => (zjb ((hC b).2 rfl)).trans hb
theorem z22 {P:Program} (L:Tabs P) {e:TypeId} {z:Value} (hz:L.zr e = some z) (w:World):(zeroValue e).run P w = .ok z w:=by
 have h:=Tabs.zr_spec hz
 unfold zrI at h
 split at h
 ·rename_i it hit; simp [zeroValue, typeInfo, hit, h]
 ·cases h
abbrev z6u:TypeId:=203
abbrev tySt:TypeId:=91
theorem mpS:Tryz.prog.underlying z6u = some (.map z2v tySt):=by kernel_rfl
theorem kyS:Tryz.prog.underlying z2v = some (.int .u64):=by kernel_rfl
theorem zrS (w:World):(zeroValue tySt).run Tryz.prog w = .ok nilSet w:=z22 L rfl w
attribute [local irreducible] V N X VO Par StepOK Has Ret RetL RetO RetT zbd RetX RetY Src
theorem none_ret {b n:Nat} {rest:List Value} (hn:n ≠ 0) {w:World} {B:Heap} (hb:B b = some (.cells (Value.int .u64 n :: rest).toArray tyS)) (hB:B.Le (hp w)) :
  Ret Tryz.prog 111 [.pointer (some ⟨b, 0, none⟩)] w B (fun v _ => v = .bool false):=by
 refine qw Tryz.func111 rfl Tryz.ntmps111 (Nat.le_of_ble_eq_true rfl) hB ?_
 refine Zbl ?_;refine z7 (zcl rfl rfl rfl rfl z6d rfl) rfl ?_;refine Zb ?_;refine Zce ?_;refine ZR ?_;refine Zf ?_;refine Zc ?_
 refine qv L (rs:=[.tmp 2]) rfl (fun _ _ h => h) Since.refl fun u H hH hle => ?_
 rfl
theorem pins_ret {b n m t:Nat} {s:Value} (hs:∃ p k c, s = .slice p k c) (hn:n ≠ 0) {w:World} {B:Heap} (hb:B b = some (.cells (stc n m s t).toArray tyS)) (hB:B.Le (hp w)) :
  Ret Tryz.prog 43 [.pointer (some ⟨b, 0, none⟩)] w B (fun v _ => v = pnv s t):=by
 obtain ⟨p, k, c, rfl⟩:=hs
 refine qw Tryz.func43 rfl Tryz.ntmps43 (Nat.le_of_ble_eq_true rfl) hB ?_
 refine ZaI ?_;refine Zaw ?_;refine Zbm ?_;refine z7 (zq L rfl rfl (zn rfl) rfl rfl rfl (fun u H hH hle _ => none_ret hn (hle _ _ hb) hH)) rfl ?_;refine Zq ?_;refine Zm ?_;refine Zar ?_;refine z7 (zz L (vs:=[_, _]) (qt rfl (by assumption)) rfl rfl rfl rfl ⟨_, rfl⟩) rfl ?_;refine ZaG ?_
 refine qv L (rs:=[.cell 2 112]) rfl (fun _ _ h => h) Since.refl fun u H hH hle => ?_
 exact ⟨_, qp rfl, rfl, rfl⟩
set_option maxHeartbeats 1000000 in
theorem zuu {S:Sto} {b m t:Nat} {s:Value} {es:Ent} {r:Int} (hm:MapOK es S.R) (hn:S.R.length ≠ 0) {w:World} {B:Heap} {C:Nat → Prop} (hes:EsV es B) (hB:B.Le (hp w)) (hr:(StO b S.R.length m s t es).P B w C) (hC:∀ k, C k → k < w.heap.size ∧ B k = none) :
  RetY Tryz.prog 87 [.pointer (some ⟨b, 0, none⟩), .int .u64 r] w B C (StO b S.R.length m s t es) (WithP (atS S r).1 (atS S r).2):=by
 unfold RetY
 refine zag 900 (StO b S.R.length m s t es) Tryz.func87 rfl Tryz.ntmps87 (Nat.le_of_ble_eq_true rfl) hB hr hC ?_
 rw [zqd]
 refine zdk 900 901 rfl (zaq _) ?_
 obtain ⟨k, hk⟩:∃ k, k = if r = 0 then (S.R.length:Int) else r:=⟨_, rfl⟩
 have hat:atS S r = match kpt S.R k with | some t => (t, 0) | none => ([], 14):=by rw [hk]; rfl
 have hg:=hm.get k
 by_cases hr0:r = 0
 ·rw [if_pos hr0] at hk
  subst hr0
  subst hk
  cases hgk:zhq (S.R.length:Int) es with
  | none =>
   rw [hgk] at hg
   rw [hat, ← hg]
   have q1:(zhq (S.R.length:Int) es).elim nilSet vcE = nilSet:=by rw [hgk]; rfl
   have q2:(zhq (S.R.length:Int) es).isSome = false:=by rw [hgk]; rfl
   refine ZcL ?_;refine y7 (zca L 900 (Φ:=fun H => H b = some (.cells (stc S.R.length m s t).toArray tyS)) (c:=.bool false) rfl rfl (zn rfl) rfl rfl rfl rfl rfl zl0 (fun u H hH hle hb => none_ret hn hb hH)) ?_;refine ZD ?_;refine Zm ?_;refine Z9 ?_;refine Z8 ?_;refine Zk ?_;refine Z0 ?_;refine Zcm ?_;refine Z0 ?_;refine Za ?_;refine y7 (zf6 (q:=901) (vc:=vcE) (S.R.length:Int) mpS kyS zrS rfl rfl rfl rfl rfl q1 q2) ?_;refine ZbG ?_;refine ZJ ?_;refine Zr ?_;refine Zs ?_;refine ZL ?_;refine Zc0 ?_;refine ZaJ ?_
   refine Zfe ?_
   exact zmd L 900 (r:=StO b S.R.length m s t es) (rs:=[.cell 4 91, .tmp 5]) rfl (fun _ _ h => h) Since.refl rfl rfl (fun H hle => ⟨_, qp rfl, rfl, _, rfl, SetV.nil⟩)
  | some x =>
   obtain ⟨l, sv⟩:=x
   rw [hgk] at hg
   rw [hat, ← hg]
   have hx:SetV l sv B:=hes _ (znb hgk)
   obtain ⟨f1, p1, f2, p2, rfl, hpl⟩:=hx.shape
   have q1:(zhq (S.R.length:Int) es).elim nilSet vcE = .agg #[f1, .pointer p1, f2, .pointer p2]:=by rw [hgk]; rfl
   have q2:(zhq (S.R.length:Int) es).isSome = true:=by rw [hgk]; rfl
   refine ZcL ?_;refine y7 (zca L 900 (Φ:=fun H => H b = some (.cells (stc S.R.length m s t).toArray tyS)) (c:=.bool false) rfl rfl (zn rfl) rfl rfl rfl rfl rfl zl0 (fun u H hH hle hb => none_ret hn hb hH)) ?_;refine ZD ?_;refine Zm ?_;refine Z9 ?_;refine Z8 ?_;refine Zk ?_;refine Z0 ?_;refine Zcm ?_;refine Z0 ?_;refine Za ?_;refine y7 (zf6 (q:=901) (vc:=vcE) (S.R.length:Int) mpS kyS zrS rfl rfl rfl rfl rfl q1 q2) ?_;refine ZbU ?_;refine Zag ?_;refine Zci ?_;refine ZcB ?_;refine Zr ?_;refine Zq ?_;refine Z7 ?_;refine ZaY ?_;refine Zci ?_;refine Zc ?_
   refine Zfe ?_
   exact zmd L 900 (r:=StO b S.R.length m s t es) (rs:=[.cell 4 91, .tmp 5]) rfl (fun _ _ h => h) Since.refl rfl rfl (fun H hle => ⟨_, qp rfl, rfl, _, rfl, hx.le hle⟩)
 ·rw [if_neg hr0] at hk
  subst hk
  cases hgk:zhq k es with
  | none =>
   rw [hgk] at hg
   rw [hat, ← hg]
   have q1:(zhq k es).elim nilSet vcE = nilSet:=by rw [hgk]; rfl
   have q2:(zhq k es).isSome = false:=by rw [hgk]; rfl
   refine ZcL ?_;refine y7 (zca L 900 (Φ:=fun H => H b = some (.cells (stc S.R.length m s t).toArray tyS)) (c:=.bool false) rfl rfl (zn rfl) rfl rfl rfl rfl rfl zl0 (fun u H hH hle hb => none_ret hn hb hH)) ?_;refine ZD ?_;refine Zm ?_;refine ZbW ?_;refine ZN ?_;refine Z0 ?_;refine Za ?_;refine y7 (zf6 (q:=901) (vc:=vcE) k mpS kyS zrS rfl rfl rfl rfl rfl q1 q2) ?_;refine ZbG ?_;refine ZJ ?_;refine Zr ?_;refine Zs ?_;refine ZL ?_;refine Zc0 ?_;refine ZaJ ?_
   refine Zfe ?_
   exact zmd L 900 (r:=StO b S.R.length m s t es) (rs:=[.cell 4 91, .tmp 5]) rfl (fun _ _ h => h) Since.refl rfl rfl (fun H hle => ⟨_, qp rfl, rfl, _, rfl, SetV.nil⟩)
  | some x =>
   obtain ⟨l, sv⟩:=x
   rw [hgk] at hg
   rw [hat, ← hg]
   have hx:SetV l sv B:=hes _ (znb hgk)
   obtain ⟨f1, p1, f2, p2, rfl, hpl⟩:=hx.shape
   have q1:(zhq k es).elim nilSet vcE = .agg #[f1, .pointer p1, f2, .pointer p2]:=by rw [hgk]; rfl
   have q2:(zhq k es).isSome = true:=by rw [hgk]; rfl
   refine ZcL ?_;refine y7 (zca L 900 (Φ:=fun H => H b = some (.cells (stc S.R.length m s t).toArray tyS)) (c:=.bool false) rfl rfl (zn rfl) rfl rfl rfl rfl rfl zl0 (fun u H hH hle hb => none_ret hn hb hH)) ?_;refine ZD ?_;refine Zm ?_;refine ZbW ?_;refine ZN ?_;refine Z0 ?_;refine Za ?_;refine y7 (zf6 (q:=901) (vc:=vcE) k mpS kyS zrS rfl rfl rfl rfl rfl q1 q2) ?_;refine ZbU ?_;refine Zag ?_;refine Zci ?_;refine ZcB ?_;refine Zr ?_;refine Zq ?_;refine Z7 ?_;refine ZaY ?_;refine Zci ?_;refine Zc ?_
   refine Zfe ?_
   exact zmd L 900 (r:=StO b S.R.length m s t es) (rs:=[.cell 4 91, .tmp 5]) rfl (fun _ _ h => h) Since.refl rfl rfl (fun H hle => ⟨_, qp rfl, rfl, _, rfl, hx.le hle⟩)
end Go.V.L10
set_option maxRecDepth 20000
namespace Go.V.L11
open Go.Proofs Go.RowKit Go.V Go.V.L4
theorem _root_.Go.V.ZeK {A B:Prop} (h:B) (t:Wr B → A:=by intro h; refine z8 (q7 L (zhx rfl (List.Mem.head _)) rfl rfl rfl rfl) rfl ?_;exact h.h):A:=t ⟨h⟩
attribute [local irreducible] V N X VO Par XP StepOK Has Ret RetL RetO RetT zbd RetX RetY Pan Src
theorem zt0 {a e:Int} {w:World} {B:Heap} (hB:B.Le (hp w)):Ret Tryz.prog 71 [wrV a e] w B (fun v _ => v = .tuple #[.int .i64 a, .int .i64 e]):=by
 refine qw Tryz.func71 rfl Tryz.ntmps71 (Nat.le_of_ble_eq_true rfl) hB ?_
 refine Zau ?_;refine Za6 ?_;refine z7 (ztj rfl rfl rfl (by kernel_rfl)) rfl ?_;refine ZeW ?_;refine Zd ?_
 refine zia 4 rfl fun b4 _ => ?_
 refine Z1 ?_;refine Zs ?_;refine ZdW ?_;refine ZbY ?_;refine ZeK ?_;refine ZbY ?_;refine ZeK ?_;refine Zao ?_;refine ZB ?_
 refine qv L (rs:=[.tmp 2, .tmp 3]) rfl (fun _ _ h => h) Since.refl fun u H hH hle => ?_
 rfl
end Go.V.L11
set_option maxRecDepth 20000
namespace Go.V.L11
open Go.Proofs Go.RowKit Go.V Go.V.L4
abbrev zxi:TypeId:=3
abbrev zp5:TypeId:=43
abbrev tyPS:TypeId:=71
abbrev G3 (ba be bs:Nat) (x y z:Value):GR:=zf3 (zab ba [x] zxi) (zf3 (zab be [y] zp5) (zab bs [z] tyPS))
attribute [local irreducible] V N X VO Par XP StepOK Has Ret RetL RetO RetT zbd RetX RetY Pan zt9 Src
theorem zwh {ba be bs:Nat} {x y z v:Value} {a e:Int} {m m':FrameMode} (hm:RecM m m' v) (hcv:∀ (u:World) (H:Heap), H.Le (hp u) → Ret Tryz.prog 71 [v] u H (fun r _ => r = .tuple #[.int .i64 a, .int .i64 e])) {w:World} {B:Heap} {C:Nat → Prop} (hB:B.Le (hp w)) (hr:(G3 ba be bs x y z).P B w C) (hC:∀ k, C k → k < w.heap.size ∧ B k = none) :
  zt9 Tryz.prog 70 [za0 ba, za0 be, za0 bs] w B C m m' (G3 ba be bs (.int .i64 a) (.int .i64 e) (if e = 0 then z else .pointer none)):=by
 refine zzu 900 (G3 ba be bs x y z) _ hm Tryz.func70 rfl Tryz.ntmps70 (Nat.le_of_ble_eq_true rfl) rfl rfl rfl rfl hB hr hC ?_
 refine zuf (r1:=zaj ba [x] zxi) (r2:=(zf3 (zab be [y] zp5) (zab bs [z] tyPS)).res) 900 901 rfl (zaq _) ?_
 refine zuf (r1:=zaj be [y] zp5) (r2:=zaj bs [z] tyPS) 901 902 rfl (zf9 _ _ _) ?_
 refine z7 (zq L rfl rfl (zn rfl) rfl rfl rfl (fun u H hH _ _ => hcv u H hH)) rfl ?_;refine ZbU ?_;refine zal (qz L (q:=900) (cs':=[.int .i64 a]) rfl rfl rfl rfl rfl rfl rfl rfl rfl) ?_;refine zal (qz L (q:=901) (cs':=[.int .i64 e]) rfl rfl rfl rfl rfl rfl rfl rfl rfl) ?_
 refine zk ?_
 refine zm ?_
 by_cases he:e = 0
 ·rw [if_pos he]
  refine zj ?_;refine Z6 ?_;refine Zew ?_;refine ZA ?_;refine Zab ?_
  refine zk9 901 902 rfl rfl (zf9 _ _ _) ?_
  refine zk9 900 901 rfl rfl (zaq (zf3 (zab be [.int .i64 e] zp5) (zab bs [z] tyPS))) ?_
  exact zxg L 900 (r:=G3 ba be bs (.int .i64 a) (.int .i64 e) z) rfl rfl rfl Since.refl
 ·rw [if_neg he]
  refine zj ?_;refine Z6 ?_;refine Zew ?_;refine Zbv ?_;refine Z8 ?_;refine ZU ?_;refine zal (qz L (q:=902) (cs':=[.pointer none]) rfl rfl rfl rfl rfl rfl rfl rfl rfl) ?_;refine zk ?_
  refine zk9 901 902 rfl rfl (zf9 _ _ _) ?_
  refine zk9 900 901 rfl rfl (zaq (zf3 (zab be [.int .i64 e] zp5) (zab bs [.pointer none] tyPS))) ?_
  exact zxg L 900 (r:=G3 ba be bs (.int .i64 a) (.int .i64 e) (.pointer none)) rfl rfl rfl Since.refl
end Go.V.L11
set_option maxRecDepth 20000
namespace Go.V.L11
open Go.Proofs Go.RowKit Go.V Go.V.L4
theorem zmf {F:Fr} {B:Heap} {n:Nat} {O:Boxes} {κ:Kap} {pv:Value} {Q:Exit → Act → World → Prop} (l:List (Nat × Kn)) (hl:LiveOK l κ) (h:XP F B n O (ofL l) pv Q):XP F B n O κ pv Q:=fun a u hh => h a u (hh.live hl)
attribute [local irreducible] V N X VO Par XP LV StepOK Has Ret RetL RetO RetT zbd RetX RetY Pan zt9 Src
abbrev FLd (w:World) (ba be bs:Nat):Fr:=⟨w, none, [.u (dfd 70 [za0 ba, za0 be, za0 bs])], noL⟩
abbrev KLd (ba be bs:Nat) (x y z:Value):List (Nat × Kn):=[(2, .is (za0 bs)), (3, .is (za0 ba)), (4, .is (za0 be)), (910, .own (zaj bs [z] tyPS)), (911, .own (zaj ba [x] zxi)), (912, .own (zaj be [y] zp5))]
theorem zja {w:World} {B0 B:Heap} {n:Nat} {O:Boxes} {ba be bs:Nat} {x y z:Value} {a e:Int} (he:e ≠ 0) (hs:Since (FLd w ba be bs) B0 B) :
  XP (FLd w ba be bs) B n O (ofL (KLd ba be bs x y z)) (wrV a e) (bodyPostM Fence.wide 0 Tryz.prog Tryz.f26 (zff w B0 noL fun v _ _ => v = .tuple #[.pointer none, .int .i64 a, .int .i64 e])):=by
 refine zq9 912 910 rfl rfl (zf9 _ _ _) ?_
 refine zq9 911 912 rfl rfl (zaq (zf3 (zab be [y] zp5) (zab bs [z] tyPS))) ?_
 refine z0t L 911 (r:=G3 ba be bs x y z) (r':=G3 ba be bs (.int .i64 a) (.int .i64 e) (if e = 0 then z else .pointer none)) rfl rfl rfl (fun u H C hH _ hr hC => zwh (RecM.caught _) (fun u H hH => zt0 hH) hH hr hC) ?_ (fun _ _ h => h)
 rw [if_neg he]
 refine zwc (r1:=zaj ba [.int .i64 a] zxi) (r2:=(zf3 (zab be [.int .i64 e] zp5) (zab bs [.pointer none] tyPS)).res) 911 912 rfl (zaq _) ?_
 refine zwc (r1:=zaj be [.int .i64 e] zp5) (r2:=zaj bs [.pointer none] tyPS) 912 910 rfl (zf9 _ _ _) ?_
 refine zh3 3 911 rfl rfl ?_
 refine zh3 4 912 rfl rfl ?_
 refine zh3 2 910 rfl rfl ?_
 exact z34 L (rs:=[.cell 2 tyPS, .cell 3 zxi, .cell 4 zp5]) rfl hs (fun u H _ _ => zbb (qp rfl) rfl (zbb (qp rfl) rfl (zbb (qp rfl) rfl rfl)))
end Go.V.L11
set_option maxRecDepth 20000
namespace Go.V
open Go.RowKit
def z0u (ops:Array Oper) (K:Nat):Bool :=
 let b:=Region.before ops
 (List.range ops.size).all fun i => Nat.ble i K || (b.getD i 0).testBit K
section sound
variable {P:Program} {St:Kap → Act → World → Prop} {ops:Array Oper} {ex:Exs}
def zst (P:Program) (St:Kap → Act → World → Prop) (ops:Array Oper) (ex:Exs) (r:Option Nat) (Q:Exit → Act → World → Prop) (K:Nat) (o:Oper) (κ:Kap):Prop :=
 ∀ κ' a u, (∀ t ∈ lks ops ex o, κ' t = κ t) → St κ' a u → ∀ Kk, wpOpIn (FW r) 0 P ops Q K Kk a u
theorem zlj {r:Option Nat} {Q:Exit → Act → World → Prop} {K:Nat} {o:Oper}:∀ (l:List Nat) {κ:Kap}, (∀ j ∈ l, ∀ x, ops[j]? = some x → zo9 (tch ex x) (lks ops ex o) = true) →
  ParI P St ops ex (zst P St ops ex r Q K o) l κ → zst P St ops ex r Q K o κ
 | [], κ, _, h => h
 | j :: l, κ, hap, ⟨x, us, hx, hd, sx, rest⟩ => fun κ' a u hl hh => by
  have h2:=ze7 (hap j (List.mem_cons_self ..) x hx)
  exact zlj l (fun m hm => hap m (List.mem_cons_of_mem _ hm)) rest κ' a u (fun t ht => (hl t ht).trans (zbu us κ t fun p hp e => h2 p.1 (hd p hp) (e ▸ ht)).symm) hh
theorem zuc {r:Option Nat} {Q:Exit → Act → World → Prop} (hsep:z04 ops ex = true) {K:Nat} {o:Oper} (hw:z0u ops K = true) (hoK:ops[K]? = some o) (hK:K < ops.size):∀ (fuel:Nat) (listed:Array Bool) (l:List Nat) (κ:Kap) (a:Act) (u:World),
  l.length < fuel → l.Pairwise (· < ·) → listed.size = ops.size → (∀ i, (i ∈ l ∨ (K ≤ i ∧ i < ops.size)) ↔ i < ops.size ∧ listed.getD i true = false) → zq8 ops listed → (∀ i ∈ l, i < K) →
  ParI P St ops ex (zst P St ops ex r Q K o) l κ → St κ a u → wpAnyIn (FW r) 0 P .any ops Q fuel listed a u:=by
 intro fuel
 induction fuel with
 | zero => intro listed l κ a u hlen; omega
 | succ fuel ih =>
  intro listed l κ a u hlen hsort hsz hmem hcl hlK hp hh
  have hsep':=hsep
  simp only [z04, List.all_eq_true, Bool.and_eq_true] at hsep'
  have hedge:∀ i (hi:i < ops.size), ∀ e ∈ (ops[i]'hi).after, Region.binds .any e = true → e.on < i:=fun i hi e he hb => by
   have h1:=(hsep' i (by simpa using hi)).1
   rw [Array.getD_eq_getD_getElem?, Array.getElem?_eq_getElem hi, Option.getD_some, Array.all_eq_true'] at h1
   have:=h1 e he
   simp [hb] at this
   exact this
  have hlow:∀ j, j < ops.size → listed.getD j true = false → (∀ i ∈ l, j ≤ i) → j ≤ K → j ∈ Region.ready .any ops listed:=fun j hj hjl hmin hjK => by
   refine mem_ready.2 ⟨hjl, ops[j], by simp [hj], fun e he hb => ?_⟩
   have hlt:=hedge j hj e he hb
   cases hle:listed.getD e.on true
   ·rcases (hmem e.on).2 ⟨by omega, hle⟩ with h | h
    ·have:=hmin _ h; omega
    ·omega
   ·rw [Array.getD_eq_getD_getElem?, Array.getElem?_eq_getElem (by omega)] at hle ⊢
    simpa using hle
  have hKl:=((hmem K).1 (.inr ⟨Nat.le_refl _, hK⟩)).2
  constructor
  ·intro hr
   exfalso
   have:∃ j, j ∈ Region.ready .any ops listed:=by
    cases l with
    | nil => exact ⟨K, hlow K hK hKl (fun i hi => by cases hi) (Nat.le_refl _)⟩
    | cons j0 l0 =>
     obtain ⟨h1, h2⟩:=(hmem j0).1 (.inl (List.mem_cons_self ..))
     refine ⟨j0, hlow j0 h1 h2 (fun i hi => ?_) (Nat.le_of_lt (hlK j0 (List.mem_cons_self ..)))⟩
     rcases List.mem_cons.1 hi with rfl | hi
     ·exact Nat.le_refl _
     ·exact Nat.le_of_lt (List.rel_of_pairwise_cons hsort hi)
   obtain ⟨j, hj⟩:=this
   rw [hr] at hj
   cases hj
  ·intro i hi
   obtain ⟨hli, oi, ho, hall⟩:=mem_ready.1 hi
   have hisz:i < ops.size:=by
    rcases Nat.lt_or_ge i ops.size with h | h
    ·exact h
    ·rw [Array.getElem?_eq_none h] at ho; cases ho
   have hio:ops[i] = oi:=by rw [Array.getElem?_eq_getElem hisz] at ho; exact Option.some.inj ho
   have hwait:∀ j, j < ops.size → ((Region.before ops).getD i 0).testBit j = true → listed.getD j true = false → False:=fun j hjs h2 hjl => by
    have:=zhh hsz hcl i hisz (fun e he hb => by rw [hio] at he; exact hall e he hb) j h2
    rw [Array.getD_eq_getD_getElem?, Array.getElem?_eq_getElem (by omega)] at this hjl
    simp at this hjl
    rw [this] at hjl; cases hjl
   have hapart:∀ j ∈ l, j < i → ∀ x y, ops[j]? = some x → ops[i]? = some y → zim ops ex x y = true:=fun j hj hji x y hx hy => by
    obtain ⟨hjs, hjl⟩:=(hmem j).1 (.inl hj)
    have h2:=(hsep' i (by simpa using hisz)).2 j (by simpa using hji)
    rw [Bool.or_eq_true] at h2
    rcases h2 with h2 | h2
    ·exact (hwait j hjs h2 hjl).elim
    ·rw [Array.getD_eq_getD_getElem?, Array.getD_eq_getD_getElem?, hx, hy] at h2
     exact h2
   rcases (hmem i).2 ⟨hisz, hli⟩ with hil | ⟨hKi, _⟩
   ·obtain ⟨l1, l3, rfl⟩:=List.append_of_mem hil
    have hap:∀ j ∈ l1, ∀ x y, ops[j]? = some x → ops[i]? = some y → zim ops ex x y = true:=fun j hj =>
     hapart j (List.mem_append_left _ hj) ((List.pairwise_append.1 hsort).2.2 j hj i (List.mem_cons_self ..))
    obtain ⟨o', us, ho', hd, sx, rest⟩:=ParI.front l1 hap hp
    obtain rfl:oi = o':=by rw [ho] at ho'; exact Option.some.inj ho'
    have hst:=sx κ a u (fun _ _ => rfl) hh
    refine After.wpOpIn ho ?_
    refine After.mono (fun a' u' hh' => ?_) hst
    have hli':i < listed.size:=by omega
    have hiK:=hlK i hil
    refine ih (listed.setIfInBounds i true) (l1 ++ l3) _ a' u' (by simp at hlen ⊢; omega) ?_ (by simpa using hsz) ?_ ?_ (fun j hj => hlK j (by rcases List.mem_append.1 hj with h | h; exact List.mem_append_left _ h; exact List.mem_append_right _ (List.mem_cons_of_mem _ h))) rest hh'
    ·rw [List.pairwise_append] at hsort ⊢
     exact ⟨hsort.1, (List.pairwise_cons.1 hsort.2.1).2, fun x hx y hy => hsort.2.2 x hx y (List.mem_cons_of_mem _ hy)⟩
    ·intro j
     rw [zjd true hli']
     have hnd:i ∉ l1 ++ l3:=by
      rw [List.pairwise_append] at hsort
      intro hm
      rcases List.mem_append.1 hm with hm | hm
      ·have:=hsort.2.2 i hm i (List.mem_cons_self ..); omega
      ·have:=(List.pairwise_cons.1 hsort.2.1).1 i hm; omega
     by_cases hij:i = j
     ·subst hij; simp [hnd]; omega
     ·rw [if_neg hij, ← hmem j]
      simp only [List.mem_append, List.mem_cons]
      constructor
      ·rintro ((h | h) | h); exact .inl (.inl h); exact .inl (.inr (.inr h)); exact .inr h
      ·rintro ((h | h | h) | h); exact .inl (.inl h); exact absurd h.symm hij; exact .inl (.inr h); exact .inr h
    ·intro k hk hkl e he hb
     rw [zjd _ hli'] at hkl ⊢
     by_cases hie:i = e.on
     ·rw [if_pos hie]
     ·rw [if_neg hie]
      by_cases hik:i = k
      ·subst hik; rw [hio] at he; exact hall e he hb
      ·rw [if_neg hik] at hkl; exact hcl k hk hkl e he hb
   ·by_cases hKe:i = K
    ·subst hKe
     obtain rfl:oi = o:=by rw [ho] at hoK; exact Option.some.inj hoK
     refine zlj l (fun j hj x hx => ?_) hp κ a u (fun _ _ => rfl) hh _
     have:=hapart j hj (hlK j hj) x oi hx ho
     simp only [zim, Bool.and_eq_true] at this
     exact this.1
    ·exfalso
     simp only [z0u, List.all_eq_true, Bool.or_eq_true] at hw
     rcases hw i (by simpa using hisz) with h | h
     ·have:=Nat.le_of_ble_eq_true h; omega
     ·exact hwait K hK h hKl
end sound
section code
variable {P:Program} {F:Fr} {B:Heap} {n:Nat} {O:Boxes} {κ:Kap} {Q:Exit → Act → World → Prop} {ops:Array Oper} {ex:Exs} {os:List Oper}
def z5a (P:Program) (F:Fr) (B:Heap) (n:Nat) (O:Boxes) (ops:Array Oper) (ex:Exs) (K:Nat) (o:Oper) (κ:Kap) (os:List Oper) (Q:Exit → Act → World → Prop):Prop :=
 z20 P (Has F B O n) ops ex (zst P (Has F B O n) ops ex F.r Q K o) os κ
theorem zt3 {id:Nat} {l:List Oper} {o:Oper} (K:Nat) (ex:Exs) (hm:P.follows .mixedOrders = true) (ho:l[K]? = some o) (hs:(z04 l.toArray ex && z0u l.toArray K) = true)
  (h:z5a P F B n O l.toArray ex K o κ (l.take K) Q):V P F B n O κ (.region id l.toArray true) Q:=fun a u hh => by
 rw [Bool.and_eq_true] at hs
 have hK:K < l.length:=by
  rcases Nat.lt_or_ge K l.length with h | h
  ·exact h
  ·rw [List.getElem?_eq_none h] at ho; cases ho
 refine wpIn_region_any hm (zuc (St:=Has F B O n) (ex:=ex) (o:=o) hs.1 hs.2 (by simpa using ho) (by simpa using hK) l.toArray.size _ (List.range' 0 K) κ a _ (by simpa using hK) List.pairwise_lt_range' (by simp) ?_ ?_ (fun i hi => by have:=List.mem_range'_1.1 hi; omega) ?_ hh.drew)
 ·intro i
  constructor
  ·rintro (h | h)
   ·have:=List.mem_range'_1.1 h
    refine ⟨by simp; omega, ?_⟩
    have:i < l.length:=by omega
    simp [this]
   ·have:i < l.length:=by simpa using h.2
    refine ⟨h.2, ?_⟩
    simp [this]
  ·rintro ⟨h, _⟩
   by_cases hi:i < K
   ·exact .inl (List.mem_range'_1.2 ⟨Nat.zero_le _, by omega⟩)
   ·exact .inr ⟨by omega, h⟩
 ·intro k hk hkl; simp at hk; simp [hk] at hkl
 ·refine zls K 0 (by simp; omega) ?_
  rw [List.drop_zero]
  exact h
theorem zj7 {K:Nat} {ok o:Oper} {d:Nat} {k:Kn} (hs:StepOK P F B n ops O κ o d k) (hd:vd o = some d) (h:z5a P F B n O ops ex K ok (upd κ d k) os Q):z5a P F B n O ops ex K ok κ (o :: os) Q :=
 ⟨[(d, k)], fun p hp => by simp at hp; subst hp; simp [tch, hd], hs.stepG, h⟩
theorem zyk {K:Nat} {o:Oper} (ll:List (Nat × Kn)) (hin:(ll.all fun p => (lks ops ex o).contains p.1) = true) (hl:LiveOK ll κ) (h:N F B n O (ofL ll) (QX P F ops K Q)):z5a P F B n O ops ex K o κ [] Q:=fun κ' a u hag hh Kk => by
 have key:∀ l:List (Nat × Kn), (l.all fun p => (lks ops ex o).contains p.1) = true → LiveOK l κ → LiveOK l κ':=by
  intro l
  induction l with
  | nil => intro _ _; trivial
  | cons p l ih =>
   intro h1 h2
   rw [List.all_cons, Bool.and_eq_true] at h1
   exact ⟨(hag p.1 (by simpa using h1.1)).trans h2.1, ih h1.2 h2.2⟩
 exact h a u (hh.live (key ll hin hl)) Kk
end code
end Go.V
set_option maxRecDepth 20000
namespace Go.V.L11
open Go.Proofs Go.RowKit Go.V Go.V.L4
theorem _root_.Go.V.ZfE {A B:Prop} (h:B) (t:Wr B → A:=by intro h; refine z7 (y5 (cs:=[_, _]) rfl rfl z5o rfl rfl) rfl ?_;exact h.h):A:=t ⟨h⟩
theorem _root_.Go.V.Zc3 {A B:Prop} (h:B) (t:Wr B → A:=by intro h; refine Zag ?_;refine Zu ?_;exact h.h):A:=t ⟨h⟩
theorem zux {sb rb:Nat} {bs:List Nat} {fu:Bool} {sv:Value} {fr:Int} {R:Rd} (hb:∀ b ∈ bs, b ≤ 255) (hl:bs.length ≤ 1099511627776) (hat:R.at_ ≤ bs.length) {w:World} {B:Heap} {C:Nat → Prop} (hB:B.Le (hp w)) (hs:BsV bs fu sv B) (hr:(zbh sb rb sv fr R).P B w C) (hC:∀ k, C k → k < w.heap.size ∧ B k = none) :
  RetX Tryz.prog 76 [za0 rb] w B C (zbh sb rb sv fr (zv2 bs R).2) (.int .u64 ((zv2 bs R).1:Nat)) :=
 RetL.mono (RetY.conv (RetY.frame (zws hr) hC fun C1 h1 hC1 => (zqi hb hl hat hB hs h1 hC1).toY) fun _ _ _ h => zws h:RetY _ _ _ _ _ _ (zbh sb rb sv fr (zv2 bs R).2) fun x _ => x = .int .u64 ((zv2 bs R).1:Nat)) fun _ _ _ _ h => h
attribute [local irreducible] V N X VO Par XP LV StepOK Has Ret RetL RetO RetT zbd RetX RetY Pan zt9 Src
theorem zwf {bs:List Nat} {R1:Rd} {fu:Bool} (hb:∀ b ∈ bs, b ≤ 255) (hz:bs.length ≤ 1099511627776) (hz1:zgu bs 1024 ⟨0, 0, 0⟩ = (0, R1)) (h1:R1.err = 0) {v:Value} {w:World} {B:Heap} (hB:B.Le (hp w)) (hv:BsV bs fu v B) :
  Ret Tryz.prog 26 [v] w B (fun r _ => r = .tuple #[.pointer none, .int .i64 0, .int .i64 5]):=by
 obtain ⟨p0, c0, rfl⟩:=zce hv
 refine qw Tryz.func26 rfl Tryz.ntmps26 (Nat.le_of_ble_eq_true rfl) hB ?_
 refine ZaI ?_;refine Zag ?_;refine ZaV ?_
 refine za3 2 910 rfl fun bs0 => ?_
 refine za3 3 911 rfl fun ba => ?_
 refine za3 4 912 rfl fun be => ?_
 refine zhk (id:=1) 1 rfl ?_;refine Zb1 ?_;refine zk ?_;(refine zm9 (K:=1) rfl rfl rfl rfl ?_;refine zk ?_); refine ZbK ?_
 refine Z1 ?_;refine z7 (zck L rfl rfl (zn rfl) rfl rfl rfl (fun u H hH hle _ => zru hz hH (hv.le hle))) rfl ?_;refine zfl 15 922 rfl fun rb => ?_;refine zmk (X:=Value) 922 (r:=fun sv => (GRd rb sv ⟨0, 0, 0⟩).res) (φ:=fun sv H => BsV bs false sv H) (hφ:=fun _ _ _ h hle => h.le hle) rfl fun sv H1 hs1 hsv => ?_;refine ZfE ?_;refine Zd6 ?_;refine qg (zaf (.inr rfl) rfl rfl rfl rfl) ?_;refine Zj ?_
 refine za3 5 921 rfl fun sb => ?_
 refine zcw 921 922 rfl rfl (zaq (GRd rb sv ⟨0, 0, 0⟩)) ?_
 refine Zm ?_;refine qg (yd L 921 (zbh sb rb sv 0 R1) (.int .i64 0) (r:=zbh sb rb sv 0 ⟨0, 0, 0⟩) rfl rfl rfl rfl rfl (fun u H C hH hle hr hC => by have h:=size_ret (lim:=1024) hb hz (Nat.zero_le _) (by omega) (by rw [hz1]; exact h1) hH (hsv.le hle) hr hC; rw [hz1] at h; exact h)) ?_;refine Zd ?_
 refine zd3 (id:=4) 3 rfl ?_;refine Zb ?_;refine Z3 ?_;refine zk ?_;refine zfu (r:=(zbh sb rb sv 0 R1).res) (K:=3) L 921 rfl rfl rfl rfl rfl (fun u H C hH hle hr hC => zry hH hr hC) (fun _ _ _ _ h => h) ?_
 repeat (first | refine zfk ?_ | refine zd8 ?_)
 refine zmf (KLd ba be bs0 _ _ _) ⟨rfl, rfl, rfl, rfl, rfl, rfl, trivial⟩ ?_
 exact zja (by decide) hs1
set_option maxRecDepth 20000 in
theorem ztn {bs:List Nat} {n1 x:Int} {st:Nat} {R1 R2 R3:Rd} {fu:Bool} (hb:∀ b ∈ bs, b ≤ 255) (hz:bs.length ≤ 1099511627776) (hz1:zgu bs 1024 ⟨0, 0, 0⟩ = (n1, R1)) (h1:R1.err = 0) (hn1:0 < n1) (ha1:R1.at_ ≤ bs.length)
  (hz2:zv2 bs R1 = (st, R2)) (h2:R2.err = 0) (hst:0 < st) (hst2:st < 18446744073709551616) (ha2:R2.at_ ≤ bs.length) (hz3:zgu bs 4096 R2 = (x, R3)) (h3:R3.err ≠ 0) {v:Value} {w:World} {B:Heap} (hB:B.Le (hp w)) (hv:BsV bs fu v B) :
  Ret Tryz.prog 26 [v] w B (fun r _ => r = .tuple #[.pointer none, .int .i64 R3.bad, .int .i64 R3.err]):=by
 obtain ⟨p0, c0, rfl⟩:=zce hv
 refine qw Tryz.func26 rfl Tryz.ntmps26 (Nat.le_of_ble_eq_true rfl) hB ?_
 refine ZaI ?_;refine Zag ?_;refine ZaV ?_
 refine za3 2 910 rfl fun bs0 => ?_
 refine za3 3 911 rfl fun ba => ?_
 refine za3 4 912 rfl fun be => ?_
 refine zhk (id:=1) 1 rfl ?_;refine Zb1 ?_;refine zk ?_;(refine zm9 (K:=1) rfl rfl rfl rfl ?_;refine zk ?_); refine ZbK ?_
 refine Z1 ?_;refine z7 (zck L rfl rfl (zn rfl) rfl rfl rfl (fun u H hH hle _ => zru hz hH (hv.le hle))) rfl ?_;refine zfl 15 922 rfl fun rb => ?_;refine zmk (X:=Value) 922 (r:=fun sv => (GRd rb sv ⟨0, 0, 0⟩).res) (φ:=fun sv H => BsV bs false sv H) (hφ:=fun _ _ _ h hle => h.le hle) rfl fun sv H1 hs1 hsv => ?_;refine ZfE ?_;refine Zd6 ?_;refine qg (zaf (.inr rfl) rfl rfl rfl rfl) ?_;refine Zj ?_
 refine za3 5 921 rfl fun sb => ?_
 refine zcw 921 922 rfl rfl (zaq (GRd rb sv ⟨0, 0, 0⟩)) ?_
 refine Zm ?_;refine qg (yd L 921 (zbh sb rb sv 0 R1) (.int .i64 n1) (r:=zbh sb rb sv 0 ⟨0, 0, 0⟩) rfl rfl rfl rfl rfl (fun u H C hH hle hr hC => by have h:=size_ret (lim:=1024) hb hz (Nat.zero_le _) (by omega) (by rw [hz1]; exact h1) hH (hsv.le hle) hr hC; rw [hz1] at h; exact h)) ?_;refine Zd ?_;refine Zv ?_;refine Zby ?_;refine qg (zan L 921 (zbh sb rb sv 0 R1) (r:=zbh sb rb sv 0 R1) rfl rfl rfl rfl rfl (fun u H C hH _ hr hC => zf7 hH hr hC)) ?_;refine Zj ?_;refine Z2 ?_;refine Zds ?_;refine Zd ?_;refine ZL ?_;refine ZaV ?_;refine Z7 ?_;refine Zc0 ?_;refine Zc3 ?_;refine Zam ?_;refine Zaw ?_;refine Zdn ?_;refine ZbL ?_
 refine zam (fun i:Nat => [(2, .is (za0 bs0)), (3, .is (za0 ba)), (4, .is (za0 be)), (910, .own (zaj bs0 [.pointer none] tyPS)), (911, .own (zaj ba [.int .i64 0] zxi)), (912, .own (zaj be [.int .i64 0] zp5)), (5, .is (za0 sb)), (9, .own (Cell [.slice none 0 0, .int .i64 0] 112)), (10, .is (.int .u64 0)), (25, .is (.int .i64 n1)), (26, .is (.int .i64 i)), (921, .own (zbh sb rb sv 0 R1).res)]) (fun i => i = 0) (fun i => 1 - i) 0 rfl ⟨rfl, rfl, rfl, rfl, rfl, rfl, rfl, rfl, rfl, rfl, rfl, rfl, trivial⟩ ?_
 rintro i rfl
 refine zdk (r1:=zaj sb [za0 rb, .int .i64 0] zxs) (r2:=(GRd rb sv R1).res) 921 922 rfl (zaq _) ?_
 have hws:IntKind.u64.wrap (18446744073709551615 - 0) = 18446744073709551615:=by decide
 have hwa:IntKind.u64.wrap (0 + (st:Int)) = (st:Int):=(wrap_u64 (by omega) (by omega)).trans (by omega)
 refine zj ?_;refine Zay ?_;refine ZV ?_;refine ZF ?_;refine Zb ?_;refine Zar ?_;refine y7 (zy L (q:=921) rfl rfl rfl rfl rfl rfl) ?_;refine ziw 921 922 rfl rfl (zaq (GRd rb sv R1)) ?_;refine Zb1 ?_;refine qg (yd L 921 (zbh sb rb sv R1.at_ R2) (.int .u64 st) (r:=zbh sb rb sv 0 R1) rfl rfl rfl rfl rfl (fun u H C hH hle hr hC => zgp (fst:=[za0 rb]) (cap:=[]) rfl h2 hH hr hC (fun u3 H3 C3 hH3 hle3 hr3 hC3 => by have h:=zux hb hz ha1 hH3 ((hsv.le hle).le hle3) hr3 hC3; rw [hz2] at h; exact h))) ?_;refine Zd ?_;refine Z4 ?_;refine Zby ?_;refine Zw ?_;refine Zat ?_;refine Zbk ?_;refine Zf ?_;refine qg (zan L 921 (zbh sb rb sv R1.at_ R2) (r:=zbh sb rb sv R1.at_ R2) rfl rfl rfl rfl rfl (fun u H C hH _ hr hC => zf7 hH hr hC)) ?_;refine Zj ?_;refine ZbB ?_;refine Zcc ?_;refine Zd ?_
 refine zt3 (id:=14) 3 [(52, [921]), (200052, [2, 3, 4, 910, 911, 912])] mixed rfl (by kernel_rfl) ?_
 refine zj7 (zz L (vs:=[_, _]) (qp rfl) rfl rfl rfl rfl ⟨_, rfl⟩) rfl ?_
 refine zj7 (zg rfl rfl rfl) rfl ?_
 refine zj7 (zg rfl rfl rfl) rfl ?_
 refine zyk [(2, .is (za0 bs0)), (3, .is (za0 ba)), (4, .is (za0 be)), (910, .own (zaj bs0 [.pointer none] tyPS)), (911, .own (zaj ba [.int .i64 0] zxi)), (912, .own (zaj be [.int .i64 0] zp5)), (51, .is (za0 sb)), (921, .own (zbh sb rb sv R1.at_ R2).res)] (by kernel_rfl) ⟨rfl, rfl, rfl, rfl, rfl, rfl, rfl, rfl, trivial⟩ ?_
 refine zfu (r:=(zbh sb rb sv R1.at_ R2).res) (K:=3) L 921 rfl rfl rfl rfl rfl (fun u H C hH hle hr hC => by have h:=zyf (lim:=4096) hb hz ha2 (by omega) (by rw [hz3]; exact h3) hH (hsv.le hle) hr hC; rw [hz3] at h; exact h) (fun _ _ _ _ h => h) ?_
 repeat (first | refine zfk ?_ | refine zd8 ?_)
 refine zmf (KLd ba be bs0 _ _ _) ⟨rfl, rfl, rfl, rfl, rfl, rfl, trivial⟩ ?_
 exact zja h3 hs1
set_option maxRecDepth 20000 in
theorem zwe {bs:List Nat} {n1:Int} {R1 R2:Rd} {fu:Bool} (hb:∀ b ∈ bs, b ≤ 255) (hz:bs.length ≤ 1099511627776) (hz1:zgu bs 1024 ⟨0, 0, 0⟩ = (n1, R1)) (h1:R1.err = 0) (hn1:0 < n1) (ha1:R1.at_ ≤ bs.length)
  (hz2:zv2 bs R1 = (0, R2)) (h2:R2.err = 0) {v:Value} {w:World} {B:Heap} (hB:B.Le (hp w)) (hv:BsV bs fu v B) :
  Ret Tryz.prog 26 [v] w B (fun r _ => r = .tuple #[.pointer none, .int .i64 R1.at_, .int .i64 5]):=by
 obtain ⟨p0, c0, rfl⟩:=zce hv
 refine qw Tryz.func26 rfl Tryz.ntmps26 (Nat.le_of_ble_eq_true rfl) hB ?_
 refine ZaI ?_;refine Zag ?_;refine ZaV ?_
 refine za3 2 910 rfl fun bs0 => ?_
 refine za3 3 911 rfl fun ba => ?_
 refine za3 4 912 rfl fun be => ?_
 refine zhk (id:=1) 1 rfl ?_;refine Zb1 ?_;refine zk ?_;(refine zm9 (K:=1) rfl rfl rfl rfl ?_;refine zk ?_); refine ZbK ?_
 refine Z1 ?_;refine z7 (zck L rfl rfl (zn rfl) rfl rfl rfl (fun u H hH hle _ => zru hz hH (hv.le hle))) rfl ?_;refine zfl 15 922 rfl fun rb => ?_;refine zmk (X:=Value) 922 (r:=fun sv => (GRd rb sv ⟨0, 0, 0⟩).res) (φ:=fun sv H => BsV bs false sv H) (hφ:=fun _ _ _ h hle => h.le hle) rfl fun sv H1 hs1 hsv => ?_;refine ZfE ?_;refine Zd6 ?_;refine qg (zaf (.inr rfl) rfl rfl rfl rfl) ?_;refine Zj ?_
 refine za3 5 921 rfl fun sb => ?_
 refine zcw 921 922 rfl rfl (zaq (GRd rb sv ⟨0, 0, 0⟩)) ?_
 refine Zm ?_;refine qg (yd L 921 (zbh sb rb sv 0 R1) (.int .i64 n1) (r:=zbh sb rb sv 0 ⟨0, 0, 0⟩) rfl rfl rfl rfl rfl (fun u H C hH hle hr hC => by have h:=size_ret (lim:=1024) hb hz (Nat.zero_le _) (by omega) (by rw [hz1]; exact h1) hH (hsv.le hle) hr hC; rw [hz1] at h; exact h)) ?_;refine Zd ?_;refine Zv ?_;refine Zby ?_;refine qg (zan L 921 (zbh sb rb sv 0 R1) (r:=zbh sb rb sv 0 R1) rfl rfl rfl rfl rfl (fun u H C hH _ hr hC => zf7 hH hr hC)) ?_;refine Zj ?_;refine Z2 ?_;refine Zds ?_;refine Zd ?_;refine ZL ?_;refine ZaV ?_;refine Z7 ?_;refine Zc0 ?_;refine Zc3 ?_;refine Zam ?_;refine Zaw ?_;refine Zdn ?_;refine ZbL ?_
 refine zam (fun i:Nat => [(2, .is (za0 bs0)), (3, .is (za0 ba)), (4, .is (za0 be)), (910, .own (zaj bs0 [.pointer none] tyPS)), (911, .own (zaj ba [.int .i64 0] zxi)), (912, .own (zaj be [.int .i64 0] zp5)), (5, .is (za0 sb)), (10, .is (.int .u64 0)), (25, .is (.int .i64 n1)), (26, .is (.int .i64 i)), (921, .own (zbh sb rb sv 0 R1).res)]) (fun i => i = 0) (fun i => 1 - i) 0 rfl ⟨rfl, rfl, rfl, rfl, rfl, rfl, rfl, rfl, rfl, rfl, rfl, trivial⟩ ?_
 rintro i rfl
 refine zdk (r1:=zaj sb [za0 rb, .int .i64 0] zxs) (r2:=(GRd rb sv R1).res) 921 922 rfl (zaq _) ?_
 refine zj ?_;refine Zay ?_;refine ZV ?_;refine ZF ?_;refine Zb ?_;refine Zar ?_;refine y7 (zy L (q:=921) rfl rfl rfl rfl rfl rfl) ?_;refine ziw 921 922 rfl rfl (zaq (GRd rb sv R1)) ?_;refine Zb1 ?_;refine qg (yd L 921 (zbh sb rb sv R1.at_ R2) (.int .u64 0) (r:=zbh sb rb sv 0 R1) rfl rfl rfl rfl rfl (fun u H C hH hle hr hC => zgp (fst:=[za0 rb]) (cap:=[]) rfl h2 hH hr hC (fun u3 H3 C3 hH3 hle3 hr3 hC3 => by have h:=zux hb hz ha1 hH3 ((hsv.le hle).le hle3) hr3 hC3; rw [hz2] at h; exact h))) ?_;refine Zd ?_;refine zd3 (id:=12) 9 rfl ?_;refine Zb ?_;refine Z3 ?_;refine ZbO ?_;refine Zf ?_;refine zk ?_;refine zfu (r:=(zbh sb rb sv R1.at_ R2).res) (K:=9) L 921 rfl rfl rfl rfl rfl (fun u H C hH hle hr hC => zry hH hr hC) (fun _ _ _ _ h => h) ?_
 repeat (first | refine zfk ?_ | refine zd8 ?_)
 refine zmf (KLd ba be bs0 _ _ _) ⟨rfl, rfl, rfl, rfl, rfl, rfl, trivial⟩ ?_
 exact zja (by decide) hs1
end Go.V.L11
set_option maxRecDepth 20000
namespace Go.V.L11
open Go.Proofs Go.RowKit Go.V Go.V.L2 Go.V.L4 Go.V.L6
theorem _root_.Go.V.Zez {A B:Prop} (h:B) (t:Wr B → A:=by intro h; refine z8 (zz L (vs:=[_, _, _, _]) (qp rfl) rfl rfl rfl rfl ⟨_, rfl⟩) rfl ?_;exact h.h):A:=t ⟨h⟩
attribute [local irreducible] V N X VO Par XP LV StepOK Has Ret RetL RetO RetT zbd RetX RetY Pan zt9 Src
abbrev tySt:TypeId:=91
theorem zv4 {r:Int} (hr:r ≠ 0) {p:Option Addr} {k c:Nat} {t:Int} {w:World} {B:Heap} (hB:B.Le (hp w)) :
  Ret Tryz.prog 77 [.agg #[.slice p k c, .int .i64 t], .int .u64 r, .int .i64 0] w B (fun v _ => v = .tuple #[.agg #[.slice p k c, .int .i64 t], .int .i64 0]):=by
 refine qw Tryz.func77 rfl Tryz.ntmps77 (Nat.le_of_ble_eq_true rfl) hB ?_
 refine ZK ?_;refine Zag ?_;refine Zd ?_;refine ZM ?_;refine Zbm ?_;refine ZI ?_;refine ZcG ?_;refine Zm ?_;refine ZbJ ?_;refine ZN ?_;refine Z9 ?_;refine ZeY ?_;refine Zca ?_;refine Zco ?_;refine ZaJ ?_
 refine qv L (rs:=[.cell 6 112, .tmp 7]) rfl (fun _ _ h => h) Since.refl fun u H hH hle => ?_
 exact ⟨_, qp rfl, rfl, rfl⟩
set_option maxRecDepth 20000 in
theorem zpp {sb rb:Nat} {sv:Value} {R R2:Rd} {fr0:Int} {bs:List Nat} {fu:Bool} (hb:∀ b ∈ bs, b ≤ 255) (hl:bs.length ≤ 1099511627776) (hat:R.at_ ≤ bs.length) (hz1:zgu bs 8192 R = (0, R2)) (h1:R2.err = 0) {w:World} {B:Heap} {C:Nat → Prop} (hB:B.Le (hp w)) (hs:BsV bs fu sv B) (hr:(zbh sb rb sv fr0 R).P B w C) (hC:∀ k, C k → k < w.heap.size ∧ B k = none) :
  RetX Tryz.prog 78 [za0 sb, nilSet] w B C (zbh sb rb sv R.at_ R2) nilSet:=by
 unfold RetX
 refine zag 900 (zbh sb rb sv fr0 R) Tryz.func78 rfl Tryz.ntmps78 (Nat.le_of_ble_eq_true rfl) hB hr hC ?_
 refine ZaF ?_;refine ZaV ?_;refine Z6 ?_;refine Za2 ?_;refine ZU ?_;refine ZaV ?_;refine Zm ?_;refine qg (yd L 900 (zbh sb rb sv R.at_ R2) (.int .i64 0) (r:=zbh sb rb sv fr0 R) rfl rfl rfl rfl rfl (fun u H C2 hH hle hr2 hC2 => by have h:=size_ret (lim:=8192) hb hl hat (by omega) (by rw [hz1]; exact h1) hH (hs.le hle) hr2 hC2; rw [hz1] at h; exact h)) ?_;refine Zd ?_
 refine zdk (r1:=zaj sb [za0 rb, .int .i64 R.at_] zxs) (r2:=(GRd rb sv R2).res) 900 901 rfl (zaq _) ?_
 refine Zk ?_;refine Z0 ?_;refine Zi ?_;refine Zc5 ?_;refine ZbL ?_
 refine zam (fun _:Nat => [(0, .is (za0 sb)), (3, .own (Cell [.nilFunc, .pointer none, .nilFunc, .pointer none] tySt)), (4, .own (Cell [.nilFunc, .pointer none, .nilFunc, .pointer none] tySt)), (5, .is (.slice none 0 0)), (6, .is (.slice none 0 0)), (9, .is (.int .i64 R.at_)), (20, .is (.int .i64 0)), (21, .is (.int .i64 0)), (900, .own (zaj sb [za0 rb, .int .i64 R.at_] zxs)), (901, .own (GRd rb sv R2).res)]) (fun _ => True) (fun i => i) 0 trivial ⟨rfl, rfl, rfl, rfl, rfl, rfl, rfl, rfl, rfl, rfl, trivial⟩ ?_
 rintro _ _
 refine Zca ?_;refine ZaC ?_;refine Za9 ?_;refine Zb ?_;refine Zar ?_;refine zal (qz L (q:=900) (cs':=[za0 rb, .int .i64 R.at_]) rfl rfl rfl rfl rfl rfl rfl rfl rfl) ?_;refine Zj ?_;refine Zb5 ?_;refine ZaY ?_;refine z7 (zq L rfl rfl (zn rfl) rfl rfl rfl (fun u H hH _ _ => zdl (l:=[]) (n:=0) rfl hH SetV.nil)) rfl ?_;refine Za ?_;refine Zd4 ?_;refine ZaA ?_;refine Za ?_;refine Zd4 ?_;refine Zbx ?_;refine Zbk ?_;refine ziw 900 901 rfl rfl (zaq (GRd rb sv R2)) ?_;refine qg (zan L 900 (zbh sb rb sv R.at_ R2) (r:=zbh sb rb sv R.at_ R2) rfl rfl rfl rfl rfl (fun u H C2 hH _ hr2 hC2 => zf7 hH hr2 hC2)) ?_;refine Zaw ?_
 refine zgm 6 42 7 rfl ?_
 refine zbf 5 (SlV 42 7 [] 0 true) rfl SlV.mono SlV.nil ?_
 refine Zbr ?_;refine qg (zaf (.inl rfl) rfl rfl rfl rfl) ?_;refine Zh ?_;refine qg (zb1 L rfl rfl rfl (z2l rfl) rfl z2y rfl rfl (by omega) (by omega)) ?_;refine z7 (z1p L rfl rfl rfl rfl) rfl ?_;refine Zfi ?_
 refine zam (fun _:Nat => [(3, .own (Cell [.nilFunc, .pointer none, .nilFunc, .pointer none] tySt)), (4, .own (Cell [.nilFunc, .pointer none, .nilFunc, .pointer none] tySt)), (88, .is (.int .i64 0)), (89, .is (.int .i64 0)), (900, .own (zbh sb rb sv R.at_ R2).res)]) (fun _ => True) (fun i => i) 0 trivial ⟨rfl, rfl, rfl, rfl, rfl, trivial⟩ ?_
 rintro _ _
 refine zj ?_;refine Zbe ?_;refine ZaC ?_;refine zh (id:=24) ?_;refine ZaY ?_;refine ZaG ?_
 exact za2 L 900 (r:=zbh sb rb sv R.at_ R2) (rs:=[.cell 4 tySt]) rfl (fun _ _ h => h) Since.refl rfl rfl (fun _ => ⟨_, qp rfl, rfl, rfl⟩)
set_option maxRecDepth 20000 in
set_option maxHeartbeats 1000000 in
theorem zwg {bs:List Nat} {st:Nat} {R1 R2 R3 R4:Rd} {fu:Bool} (hb:∀ b ∈ bs, b ≤ 255) (hz:bs.length ≤ 1099511627776) (hz1:zgu bs 1024 ⟨0, 0, 0⟩ = (1, R1)) (h1:R1.err = 0) (ha1:R1.at_ ≤ bs.length)
  (hz2:zv2 bs R1 = (st, R2)) (h2:R2.err = 0) (hst:0 < st) (hst2:st < 18446744073709551616) (ha2:R2.at_ ≤ bs.length) (hz3:zgu bs 4096 R2 = (0, R3)) (h3:R3.err = 0) (ha3:R3.at_ ≤ bs.length) (hz4:zgu bs 8192 R3 = (0, R4)) (h4:R4.err = 0) (ha4:R4.at_ ≤ bs.length) (h5:(zww bs R4).2 ≠ 0) {v:Value} {w:World} {B:Heap} (hB:B.Le (hp w)) (hv:BsV bs fu v B) :
  Ret Tryz.prog 26 [v] w B (fun r _ => r = .tuple #[.pointer none, .int .i64 (zww bs R4).1, .int .i64 (zww bs R4).2]):=by
 obtain ⟨p0, c0, rfl⟩:=zce hv
 refine qw Tryz.func26 rfl Tryz.ntmps26 (Nat.le_of_ble_eq_true rfl) hB ?_
 refine ZaI ?_;refine Zag ?_;refine ZaV ?_
 refine za3 2 910 rfl fun bs0 => ?_
 refine za3 3 911 rfl fun ba => ?_
 refine za3 4 912 rfl fun be => ?_
 refine zhk (id:=1) 1 rfl ?_;refine Zb1 ?_;refine zk ?_;(refine zm9 (K:=1) rfl rfl rfl rfl ?_;refine zk ?_); refine ZbK ?_
 refine Z1 ?_;refine z7 (zck L rfl rfl (zn rfl) rfl rfl rfl (fun u H hH hle _ => zru hz hH (hv.le hle))) rfl ?_;refine zfl 15 922 rfl fun rb => ?_;refine zmk (X:=Value) 922 (r:=fun sv => (GRd rb sv ⟨0, 0, 0⟩).res) (φ:=fun sv H => BsV bs false sv H) (hφ:=fun _ _ _ h hle => h.le hle) rfl fun sv H1 hs1 hsv => ?_;refine ZfE ?_;refine Zd6 ?_;refine qg (zaf (.inr rfl) rfl rfl rfl rfl) ?_;refine Zj ?_
 refine za3 5 921 rfl fun sb => ?_
 refine zcw 921 922 rfl rfl (zaq (GRd rb sv ⟨0, 0, 0⟩)) ?_
 refine Zm ?_;refine qg (yd L 921 (zbh sb rb sv 0 R1) (.int .i64 1) (r:=zbh sb rb sv 0 ⟨0, 0, 0⟩) rfl rfl rfl rfl rfl (fun u H C hH hle hr hC => by have h:=size_ret (lim:=1024) hb hz (Nat.zero_le _) (by omega) (by rw [hz1]; exact h1) hH (hsv.le hle) hr hC; rw [hz1] at h; exact h)) ?_;refine Zd ?_;refine Zv ?_;refine Zby ?_;refine qg (zan L 921 (zbh sb rb sv 0 R1) (r:=zbh sb rb sv 0 R1) rfl rfl rfl rfl rfl (fun u H C hH _ hr hC => zf7 hH hr hC)) ?_;refine Zj ?_;refine Z2 ?_;refine Zds ?_;refine Zd ?_;refine ZL ?_;refine ZaV ?_;refine Z7 ?_;refine Zc0 ?_;refine Zc3 ?_;refine Zam ?_;refine Zaw ?_;refine Zdn ?_;refine ZbL ?_
 refine zam (fun i:Nat => match i with
  | 0 => [(2, .is (za0 bs0)), (3, .is (za0 ba)), (4, .is (za0 be)), (910, .own (zaj bs0 [.pointer none] tyPS)), (911, .own (zaj ba [.int .i64 0] zxi)), (912, .own (zaj be [.int .i64 0] zp5)), (5, .is (za0 sb)), (7, .is (.slice none 0 0)), (8, .is (.slice none 0 0)), (9, .own (Cell [.slice none 0 0, .int .i64 0] 112)), (10, .is (.int .u64 0)), (11, .own (Cell [.nilFunc, .pointer none, .nilFunc, .pointer none] tySt)), (25, .is (.int .i64 1)), (26, .is (.int .i64 0)), (921, .own (zbh sb rb sv 0 R1).res)]
  | _ + 1 => [(2, .is (za0 bs0)), (3, .is (za0 ba)), (4, .is (za0 be)), (910, .own (zaj bs0 [.pointer none] tyPS)), (911, .own (zaj ba [.int .i64 0] zxi)), (912, .own (zaj be [.int .i64 0] zp5)), (5, .is (za0 sb)), (25, .is (.int .i64 1)), (26, .is (.int .i64 1)), (921, .own (zbh sb rb sv R3.at_ R4).res)]) (fun i => i ≤ 1) (fun i => 1 - i) 0 (by decide) ⟨rfl, rfl, rfl, rfl, rfl, rfl, rfl, rfl, rfl, rfl, rfl, rfl, rfl, rfl, rfl, trivial⟩ ?_
 rintro i hi
 cases i with
 | succ i =>
  dsimp only
  refine zj ?_;refine Zay ?_;refine ZaC ?_;refine zd3 (id:=18) 1 rfl ?_;refine Zdr ?_;refine zfu (r:=(zbh sb rb sv R3.at_ R4).res) (K:=1) L 921 rfl rfl rfl rfl rfl (fun u H C hH hle hr hC => zs5 hz ha4 h5 hH (hsv.le hle) hr hC) (fun _ _ _ _ h => h) ?_
  repeat (first | refine zfk ?_ | refine zd8 ?_)
  refine zmf (KLd ba be bs0 _ _ _) ⟨rfl, rfl, rfl, rfl, rfl, rfl, trivial⟩ ?_
  exact zja h5 hs1
 | zero =>
  dsimp only
  refine zdk (r1:=zaj sb [za0 rb, .int .i64 0] zxs) (r2:=(GRd rb sv R1).res) 921 922 rfl (zaq _) ?_
  have hws:IntKind.u64.wrap (18446744073709551615 - 0) = 18446744073709551615:=by decide
  have hwa:IntKind.u64.wrap (0 + (st:Int)) = (st:Int):=(wrap_u64 (by omega) (by omega)).trans (by omega)
  have hst3:(st:Int) ≠ 0:=by omega
  refine zj ?_;refine Zay ?_;refine ZV ?_;refine ZF ?_;refine Zb ?_;refine Zar ?_;refine y7 (zy L (q:=921) rfl rfl rfl rfl rfl rfl) ?_;refine ziw 921 922 rfl rfl (zaq (GRd rb sv R1)) ?_;refine Zb1 ?_;refine qg (yd L 921 (zbh sb rb sv R1.at_ R2) (.int .u64 st) (r:=zbh sb rb sv 0 R1) rfl rfl rfl rfl rfl (fun u H C hH hle hr hC => zgp (fst:=[za0 rb]) (cap:=[]) rfl h2 hH hr hC (fun u3 H3 C3 hH3 hle3 hr3 hC3 => by have h:=zux hb hz ha1 hH3 ((hsv.le hle).le hle3) hr3 hC3; rw [hz2] at h; exact h))) ?_;refine Zd ?_;refine Z4 ?_;refine Zby ?_;refine Zw ?_;refine Zat ?_;refine Zbk ?_;refine Zf ?_;refine qg (zan L 921 (zbh sb rb sv R1.at_ R2) (r:=zbh sb rb sv R1.at_ R2) rfl rfl rfl rfl rfl (fun u H C hH _ hr hC => zf7 hH hr hC)) ?_;refine Zj ?_;refine ZbB ?_;refine Zcc ?_;refine Zd ?_
  refine q6 (id:=14) [(52, [921])] mixed (by kernel_rfl) ?_;refine Zfl ?_;refine Zp ?_;refine za6 (yd L 921 (zbh sb rb sv R2.at_ R3) (.int .i64 0) (r:=zbh sb rb sv R1.at_ R2) rfl rfl rfl rfl rfl (fun u H C hH hle hr hC => by have h:=size_ret (lim:=4096) hb hz ha2 (by omega) (by rw [hz3]; exact h3) hH (hsv.le hle) hr hC; rw [hz3] at h; exact h)) rfl rfl ?_;refine z8 (zq L rfl rfl (zn rfl) rfl rfl rfl (fun u H hH _ _ => zv4 hst3 hH)) rfl ?_;refine Zg ?_;refine z8 (zo rfl rfl rfl rfl) rfl ?_;refine z8 (zo rfl rfl rfl rfl) rfl ?_;refine ZcW ?_;refine ZaK ?_
  refine ZT ?_;refine Za ?_;refine ZaY ?_;refine qg (yd L 921 (zbh sb rb sv R3.at_ R4) nilSet (r:=zbh sb rb sv R2.at_ R3) rfl rfl rfl rfl rfl (fun u H C hH hle hr hC => zpp hb hz ha3 hz4 h4 hH (hsv.le hle) hr hC)) ?_;refine ZaG ?_
  refine zgm 7 63 1 rfl ?_
  refine zgm 8 tySt 4 rfl ?_
  have hpl:[Value.nilFunc, .pointer none, .nilFunc, .pointer none].all zdj = true:=rfl
  refine q6 (id:=16) [(59, [7]), (62, [59]), (63, [8]), (66, [63]), (7, [62]), (8, [66])] mixed (by kernel_rfl) ?_;refine za6 (zaf (.inl rfl) rfl rfl rfl rfl) rfl rfl ?_;refine Zg ?_;refine Zej ?_;refine za6 (zb1 L rfl rfl rfl (ziv rfl) rfl z5t rfl rfl (by omega) (by omega)) rfl rfl ?_;refine za6 (zaf (.inl rfl) rfl rfl rfl rfl) rfl rfl ?_;refine Zez ?_;refine Zej ?_;refine za6 (zb1 L rfl rfl rfl (ziv rfl) rfl z68 rfl rfl (by omega) (by omega)) rfl rfl ?_;refine za6 (zaf (.inr rfl) rfl rfl rfl rfl) rfl rfl ?_;refine za6 (zaf (.inr rfl) rfl rfl rfl rfl) rfl rfl ?_;refine Zcb ?_;refine Za9 ?_;refine ZbP ?_
  exact y9 (x:=0) 1 (by decide) (by decide) ⟨rfl, rfl, rfl, rfl, rfl, rfl, rfl, rfl, rfl, rfl, trivial⟩
end Go.V.L11
set_option maxRecDepth 20000
namespace Go.V.L3
open Go.Proofs Go.RowKit Go.V Go.V.L2
attribute [local irreducible] V N X VO Par StepOK Has Ret RetL RetO RetT Src
end Go.V.L3
set_option maxRecDepth 20000
namespace Go.V.L3
open Go.Proofs Go.RowKit Go.V Go.V.L2
attribute [local irreducible] V N X VO Par StepOK Has Ret RetL RetO RetT Src
end Go.V.L3
set_option maxRecDepth 20000
namespace Go.V.L3
open Go.Proofs Go.RowKit Go.V Go.V.L2
abbrev tyI:TypeId:=3
attribute [local irreducible] V N X VO Par StepOK Has Ret RetL RetO RetT Src
end Go.V.L3
set_option maxRecDepth 20000
namespace Go.V.L3
open Go.Proofs Go.RowKit Go.V Go.V.L2
attribute [local irreducible] V N X VO Par StepOK Has Ret RetL RetO RetT Src
end Go.V.L3
set_option maxRecDepth 20000
namespace Go.V
open Go.Proofs Go.RowKit
def zjw (n:Nat):ByteArray:=match n % 3 with
 | 0 => ⟨#[100, 111, 99]⟩
 | 1 => ⟨#[102, 111, 108, 100, 101, 114]⟩
 | _ => ⟨#[103, 114, 111, 117, 112]⟩
def idS (n:Nat):ByteArray:=match n % 5 with
 | 0 => ⟨#[97]⟩
 | 1 => ⟨#[98]⟩
 | 2 => ⟨#[99, 49]⟩
 | 3 => ⟨#[100]⟩
 | _ => ⟨#[114, 111, 111, 116]⟩
def z07 (n:Nat):ByteArray:=match n % 4 with
 | 0 => ⟨#[118, 105, 101, 119, 101, 114]⟩
 | 1 => ⟨#[101, 100, 105, 116, 111, 114]⟩
 | 2 => ⟨#[109, 101, 109, 98, 101, 114]⟩
 | _ => ⟨#[112, 97, 114, 101, 110, 116]⟩
theorem zep (n:Nat):chk (zjw n) = 0 ∧ (zjw n).size ≤ 16:=by
 unfold zjw
 split <;> decide +kernel
theorem zl5 (n:Nat):chk (idS n) = 0 ∧ (idS n).size ≤ 16:=by
 unfold idS
 split <;> decide +kernel
theorem zmx (n:Nat):chk (z07 n) = 0 ∧ (z07 n).size ≤ 16:=by
 unfold z07
 split <;> decide +kernel
def znl (n:Nat):(ByteArray × ByteArray) × ByteArray:=((zjw n, idS (n / 3)), z07 (n / 15))
theorem zy6 (n:Nat):zcf [(znl n).1.1, (znl n).1.2, (znl n).2] = 0:=by
 simp only [zcf, znl, (zep _).1, (zl5 _).1, (zmx _).1, if_pos]
theorem ztt (n:Nat):(znl n).1.1.size ≤ 16 ∧ (znl n).1.2.size ≤ 16 ∧ (znl n).2.size ≤ 16:=⟨(zep _).2, (zl5 _).2, (zmx _).2⟩
end Go.V
