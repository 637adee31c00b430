/- Texts on the way to StoresMake, part 5: one behind another. -/
import Derived.Test.YtcppaheijljnfaaGreatStoresMakeM4
set_option linter.unusedVariables false
set_option linter.unusedSimpArgs false
set_option maxRecDepth 20000
namespace Go.V.L10
open Go.Proofs Go.RowKit Go.V
theorem _root_.Go.V.ZgN {A B:Prop} (h:B) (t:Wr B → A:=by intro h; refine z7 (StepOK.seeV (qf L (qo rfl) rfl rfl rfl rfl) (by assumption)) rfl ?_;exact h.h):A:=t ⟨h⟩
theorem _root_.Go.V.ZeA {A B:Prop} (h:B) (t:Wr B → A:=by intro h; refine z7 (yh L (vs:=[_, _]) rfl rfl rfl rfl rfl ⟨_, rfl⟩) rfl ?_;exact h.h):A:=t ⟨h⟩
theorem _root_.Go.V.ZeB {A B:Prop} (h:B) (t:Wr B → A:=by intro h; refine z7 (z0i rfl rfl rfl rfl (by omega) (by assumption)) rfl ?_;exact h.h):A:=t ⟨h⟩
theorem _root_.Go.V.ZbO {A B:Prop} (h:B) (t:Wr B → A:=by intro h; refine ZcY ?_;refine ZgN ?_;exact h.h):A:=t ⟨h⟩
theorem _root_.Go.V.Zc4 {A B:Prop} (h:B) (t:Wr B → A:=by intro h; refine Zcj ?_;refine Za ?_;exact h.h):A:=t ⟨h⟩
theorem _root_.Go.V.Zd0 {A B:Prop} (h:B) (t:Wr B → A:=by intro h; refine ZeP ?_;refine ZcB ?_;exact h.h):A:=t ⟨h⟩
abbrev zue:TypeId:=137
abbrev zjs:TypeId:=49
def pnc (p:Int × Int):List Value:=[.int .u64 p.1, .int .i64 p.2]
theorem zu4 (p:Int × Int):(pnc p).length = 2:=rfl
theorem zhd (l:List (Int × Int)):(l.flatMap pnc).all zbs = true:=by
 rw [List.all_eq_true]
 intro v hv
 obtain ⟨x, _, hx⟩:=List.mem_flatMap.1 hv
 simp only [pnc, List.mem_cons, List.mem_nil_iff, or_false] at hx
 rcases hx with rfl | rfl <;> rfl
abbrev PsV (l:List (Int × Int)):Value → Heap → Prop:=SlV zue 2 (l.flatMap pnc) l.length false
theorem zsw {l:List (Int × Int)} {i:Nat} {x:Int × Int} (h:l[i]? = some x):((l.flatMap pnc).drop (i * 2)).take 2 = [.int .u64 x.1, .int .i64 x.2]:=zc8 zu4 l i x h
abbrev RsV (l:List Int) (fu:Bool):Value → Heap → Prop:=SlV zjs 1 (l.map (Value.int .u64)) l.length fu
theorem zms (l:List Int):(l.map (Value.int .u64)).all zbs = true:=by
 rw [List.all_eq_true]
 intro v hv
 obtain ⟨x, _, rfl⟩:=List.mem_map.1 hv
 rfl
theorem zf6 {l:List Int} {i:Nat} {x:Int} (h:l[i]? = some x):((l.map (Value.int .u64)).drop (i * 1)).take 1 = [.int .u64 x]:=by
 rw [Nat.mul_one, List.take_one]
 simp [List.head?_drop, h]
attribute [local irreducible] V N X VO Par StepOK Has Ret RetL RetO zcd zd2 Src
theorem cmpU_ret (a b:Int) {w:World} {B:Heap} (hB:B.Le (hp w)):Ret Tryz.prog 130 [.int .u64 a, .int .u64 b] w B (fun v _ => v = .int .i64 (cP a b)):=by
 unfold cP
 refine yf Tryz.func130 rfl Tryz.ntmps130 (Nat.le_of_ble_eq_true rfl) hB ?_
 by_cases h:a < b
 ·rw [if_pos h]
  refine ZbW ?_;refine z7 (zp L rfl rfl (zk rfl) rfl rfl rfl (fun u H hH _ _ => So.isnanU _ hH)) rfl ?_;refine ZaF ?_;refine z7 (zp L rfl rfl (zk rfl) rfl rfl rfl (fun u H hH _ _ => So.isnanU _ hH)) rfl ?_;refine ZcQ ?_;refine Zr ?_;refine Z5 ?_;refine Zr ?_;refine Zdy ?_;refine ZT ?_;refine Z0 ?_;refine Zag ?_;refine Zb ?_
  refine ye L (rs:=[.tmp 4]) rfl (fun _ _ h => h) Since.refl fun u H hH hle => ?_
  rfl
 ·rw [if_neg h]
  by_cases h2:b < a
  ·rw [if_pos h2]
   refine ZbW ?_;refine z7 (zp L rfl rfl (zk rfl) rfl rfl rfl (fun u H hH _ _ => So.isnanU _ hH)) rfl ?_;refine ZaF ?_;refine z7 (zp L rfl rfl (zk rfl) rfl rfl rfl (fun u H hH _ _ => So.isnanU _ hH)) rfl ?_;refine ZcQ ?_;refine Zr ?_;refine Z5 ?_;refine Zr ?_;refine ZM ?_;refine Zbi ?_;refine Zr ?_;refine Zak ?_;refine Zd ?_;refine ZC ?_;refine Z0 ?_;refine ZQ ?_;refine Zb ?_
   refine ye L (rs:=[.tmp 4]) rfl (fun _ _ h => h) Since.refl fun u H hH hle => ?_
   rfl
  ·rw [if_neg h2]
   refine ZbW ?_;refine z7 (zp L rfl rfl (zk rfl) rfl rfl rfl (fun u H hH _ _ => So.isnanU _ hH)) rfl ?_;refine ZaF ?_;refine z7 (zp L rfl rfl (zk rfl) rfl rfl rfl (fun u H hH _ _ => So.isnanU _ hH)) rfl ?_;refine ZcQ ?_;refine Zr ?_;refine Z5 ?_;refine Zr ?_;refine ZM ?_;refine Zbi ?_;refine Zr ?_;refine Zak ?_;refine Zd ?_;refine Z7 ?_;refine Zx ?_;refine Zcr ?_;refine Zb ?_
   refine ye L (rs:=[.tmp 4]) rfl (fun _ _ h => h) Since.refl fun u H hH hle => ?_
   rfl
theorem zhl (a n b:Int) {w:World} {B:Heap} (hB:B.Le (hp w)):Ret Tryz.prog 129 [.agg #[.int .u64 a, .int .i64 n], .int .u64 b] w B (fun v _ => v = .int .i64 (cP a b)):=by
 refine yf Tryz.func129 rfl Tryz.ntmps129 (Nat.le_of_ble_eq_true rfl) hB ?_
 refine Zb0 ?_;refine Zv ?_;refine Za ?_;refine z7 (zp L rfl rfl (zk rfl) rfl rfl rfl (fun u H hH _ _ => cmpU_ret _ _ hH)) rfl ?_;refine Zb ?_
 refine ye L (rs:=[.tmp 4]) rfl (fun _ _ h => h) Since.refl fun u H hH hle => ?_
 rfl
abbrev BSP:Nat:=128
abbrev fvP:Value:=.func (.func 129) #[] #[]
set_option maxHeartbeats 2000000 in
theorem z2w {L0:List Int} {r:Int} (hz:(zad L0).length ≤ 100000) {v:Value} {w:World} {B:Heap} (hB:B.Le (hp w)) (hv:PsV (zad L0) v B) :
  Ret Tryz.prog BSP [v, .int .u64 r, fvP] w B (fun v _ => v = .tuple #[.int .i64 (zgx cP r (zam L0):Nat), .bool (decide (r ∈ zam L0))]):=by
 have hs:=zba L0
 obtain ⟨l, hl⟩:∃ l, l = zam L0:=⟨_, rfl⟩
 obtain ⟨ps, hps⟩:∃ ps, ps = zad L0:=⟨_, rfl⟩
 have hat:∀ (i:Nat) (x:Int), l[i]? = some x → ps[i]? = some (x, (L0.count x:Int)):=fun i x h => by subst hl hps; exact zkh h
 have hlen:ps.length = l.length:=by subst hl hps; exact zbo L0
 rw [← hl] at hs ⊢
 rw [← hps] at hv hz
 clear hl hps
 refine yf Tryz.func128 rfl Tryz.ntmps128 (Nat.le_of_ble_eq_true rfl) hB ?_
 refine zat 0 (PsV ps) rfl SlV.mono hv ?_
 refine ZaX ?_;refine ZS ?_;refine Zq ?_;refine ZaF ?_;refine Zav ?_;refine qh ?_
 refine zal (fun s:Nat × Nat => [(0, .sat (PsV ps)), (2, .is fvP), (1, .is (.int .u64 r)), (8, .is (.int .i64 ps.length)), (9, .is (.int .i64 s.1)), (10, .is (.int .i64 s.2))])
  (fun s => s.1 ≤ s.2 ∧ s.2 ≤ l.length ∧ (∀ (k:Nat) (x:Int), k < s.1 → l[k]? = some x → cP x r < 0) ∧ ∀ (k:Nat) (x:Int), s.2 ≤ k → l[k]? = some x → ¬ cP x r < 0) (fun s => s.2 - s.1) (0, ps.length) ⟨Nat.zero_le _, Nat.le_of_eq hlen, fun k x h => (by cases h), fun k x h hx => (by rw [List.getElem?_eq_none (by dsimp only at h; omega)] at hx; cases hx)⟩ ⟨rfl, rfl, rfl, rfl, rfl, rfl, trivial⟩ ?_
 rintro ⟨i, j⟩ ⟨hij, hjl, hlo, hhi⟩
 dsimp only at hij hjl hlo hhi ⊢
 by_cases hlt:i < j
 ·obtain ⟨h, hh⟩:∃ h, h = (i + j) / 2:=⟨_, rfl⟩
  have hsh:((i:Int) + (j:Int)).fdiv (2 ^ min (1:Int).toNat IntKind.u64.bits) = (h:Int):=by
   show ((i:Int) + (j:Int)).fdiv 2 = (h:Int)
   rw [Int.fdiv_eq_ediv_of_nonneg _ (by decide)]
   omega
  obtain ⟨y, hy⟩:=zae (show h < l.length by omega)
  have hc:=zsw (hat h y hy)
  by_cases hcm:cP y r < 0
  ·refine Zez ?_;refine Zen ?_;refine ZcS ?_;refine Zcg ?_;refine z7 (zax rfl rfl rfl zbw.1 zbw.2 (wrap_u64 (by omega) (by omega))) rfl ?_;refine ZeB ?_;refine z7 (zax rfl rfl rfl zbx.1 zbx.2 (zaa (by omega) (by omega))) rfl ?_;refine Ze ?_;refine Z9 ?_;refine Zbe ?_;refine ZeA ?_;refine Za ?_;refine z7 (zp L rfl rfl (zk rfl) rfl rfl rfl (fun u H hH _ _ => zhl _ _ _ hH)) rfl ?_;refine ZbG ?_;refine ZD ?_;refine ZaE ?_;refine yc ?_
   exact yi (x:=(i, j)) (h + 1, j) ⟨by dsimp only; omega, hjl, fun k x hk hx => zlo zcg hs hy hx (by dsimp only at hk; omega) hcm, hhi⟩ (by dsimp only; omega) ⟨rfl, rfl, rfl, rfl, rfl, rfl, trivial⟩
  ·refine Zez ?_;refine Zen ?_;refine ZcS ?_;refine Zcg ?_;refine z7 (zax rfl rfl rfl zbw.1 zbw.2 (wrap_u64 (by omega) (by omega))) rfl ?_;refine ZeB ?_;refine z7 (zax rfl rfl rfl zbx.1 zbx.2 (zaa (by omega) (by omega))) rfl ?_;refine Ze ?_;refine Z9 ?_;refine Zbe ?_;refine ZeA ?_;refine Za ?_;refine z7 (zp L rfl rfl (zk rfl) rfl rfl rfl (fun u H hH _ _ => zhl _ _ _ hH)) rfl ?_;refine Z4 ?_;refine ZeC ?_;refine Z5 ?_;refine Za3 ?_
   exact yi (x:=(i, j)) (i, h) ⟨by dsimp only; omega, by dsimp only; omega, hlo, fun k x hk hx hcx => hcm (zlo zcg hs hx hy hk hcx)⟩ (by dsimp only; omega) ⟨rfl, rfl, rfl, rfl, rfl, rfl, trivial⟩
 ·obtain rfl:i = j:=by omega
  rw [zu3 zcg hs hlo hhi hjl]
  by_cases hin:i < l.length
  ·obtain ⟨y, hy⟩:=zae hin
   have hc:=zsw (hat i y hy)
   have hm:=z4j zcg hs hlo hy hhi
   by_cases hcm:cP y r = 0
   ·rw [decide_eq_true (hm.2 hcm)]
    refine Zez ?_;refine Zey ?_;refine Z8 ?_;refine Z2 ?_;refine Zcp ?_;refine Zbe ?_;refine ZeA ?_;refine Za ?_;refine z7 (zp L rfl rfl (zk rfl) rfl rfl rfl (fun u H hH _ _ => zhl _ _ _ hH)) rfl ?_;refine Z3 ?_;refine Zg ?_;refine Zk ?_
    refine ye L (rs:=[.tmp 6, .tmp 7]) rfl (fun _ _ h => h) Since.refl fun u H hH hle => ?_
    rfl
   ·rw [decide_eq_false fun h => hcm (hm.1 h)]
    refine Zez ?_;refine Zey ?_;refine Z8 ?_;refine Z2 ?_;refine Zcp ?_;refine Zbe ?_;refine ZeA ?_;refine Za ?_;refine z7 (zp L rfl rfl (zk rfl) rfl rfl rfl (fun u H hH _ _ => zhl _ _ _ hH)) rfl ?_;refine ZH ?_;refine Zg ?_;refine Zk ?_
    refine ye L (rs:=[.tmp 6, .tmp 7]) rfl (fun _ _ h => h) Since.refl fun u H hH hle => ?_
    rfl
  ·obtain rfl:i = l.length:=by omega
   rw [decide_eq_false (zp6 zcg hlo)]
   refine Zez ?_;refine Zey ?_;refine Z8 ?_;refine Z2 ?_;refine Z4 ?_;refine ZcV ?_;refine Zg ?_;refine Zk ?_
   refine ye L (rs:=[.tmp 6, .tmp 7]) rfl (fun _ _ h => h) Since.refl fun u H hH hle => ?_
   rfl
abbrev pnv (s:Value) (t:Nat):Value:=.agg #[s, .int .i64 t]
set_option maxHeartbeats 1000000 in
theorem zgo {L0:List Int} {r:Int} {t:Nat} (hz:L0.length ≤ 100000) {s:Value} {w:World} {B:Heap} (hB:B.Le (hp w)) (hv:PsV (zad L0) s B) :
  Ret Tryz.prog 88 [pnv s t, .int .u64 r] w B (fun v _ => v = .tuple #[.int .i64 (zgx cP r (zam L0):Nat), .bool (decide (r ∈ zam L0))]):=by
 have hz2:(zad L0).length ≤ 100000:=by rw [zbo]; exact Nat.le_trans (zbj _) hz
 obtain ⟨p, c, rfl⟩:=zaq hv
 refine yf Tryz.func88 rfl Tryz.ntmps88 (Nat.le_of_ble_eq_true rfl) hB ?_
 refine ZcN ?_;refine ZS ?_;refine Zv ?_;refine Za ?_;refine z7 (zp L rfl rfl (zk rfl) rfl rfl rfl (fun u H hH hle _ => z2w hz2 hH (hv.le hle))) rfl ?_;refine ZdD ?_;refine Zk ?_
 refine ye L (rs:=[.tmp 4, .tmp 5]) rfl (fun _ _ h => h) Since.refl fun u H hH hle => ?_
 rfl
theorem zid {L0:List Int} {r:Int} (h:r ∈ zam L0):(zad L0)[zgx cP r (zam L0)]? = some (r, (L0.count r:Int)):=zkh (zmv zcg (zba L0) h)
set_option maxHeartbeats 1000000 in
theorem count_ret {L0:List Int} {r:Int} {t:Nat} (hz:L0.length ≤ 100000) {s:Value} {w:World} {B:Heap} (hB:B.Le (hp w)) (hv:PsV (zad L0) s B) :
  Ret Tryz.prog 58 [pnv s t, .int .u64 r] w B (fun v _ => v = .int .i64 (L0.count r:Nat)):=by
 obtain ⟨p, c, rfl⟩:=zaq hv
 refine yf Tryz.func58 rfl Tryz.ntmps58 (Nat.le_of_ble_eq_true rfl) hB ?_
 by_cases h:r ∈ zam L0
 ·have hf:decide (r ∈ zam L0) = true:=decide_eq_true h
  have hp:=zid h
  have hlt:=get_lt hp
  have hc:=zsw hp
  refine ZbD ?_;refine Zc4 ?_;refine z7 (zp L rfl rfl (zk rfl) rfl rfl rfl (fun u H hH hle _ => hf ▸ zgo (t:=t) hz hH (hv.le hle))) rfl ?_;refine Za6 ?_;refine ZG ?_;refine Z0 ?_;refine Zt ?_;refine ZbO ?_;refine Zb7 ?_;refine Zd0 ?_;refine Zb ?_
  refine ye L (rs:=[.tmp 4]) rfl (fun _ _ h => h) Since.refl fun u H hH hle => ?_
  rfl
 ·have hf:decide (r ∈ zam L0) = false:=decide_eq_false h
  have hc0:L0.count r = 0:=List.count_eq_zero.2 fun hm => h (za0.2 hm)
  rw [hc0]
  refine ZbD ?_;refine Zc4 ?_;refine z7 (zp L rfl rfl (zk rfl) rfl rfl rfl (fun u H hH hle _ => hf ▸ zgo (t:=t) hz hH (hv.le hle))) rfl ?_;refine Za6 ?_;refine ZG ?_;refine Zx ?_;refine ZV ?_;refine Zb ?_
  refine ye L (rs:=[.tmp 4]) rfl (fun _ _ h => h) Since.refl fun u H hH hle => ?_
  rfl
end Go.V.L10
set_option maxRecDepth 20000
namespace Go.V.L10
open Go.Proofs Go.RowKit Go.V
theorem _root_.Go.V.Zfy {A B:Prop} (h:B) (t:Wr B → A:=by intro h; refine qp (zb9 L rfl rfl rfl (zhq rfl) rfl zzb rfl rfl (by omega) (by omega)) ?_;exact h.h):A:=t ⟨h⟩
theorem _root_.Go.V.Zbk {A B:Prop} (h:B) (t:Wr B → A:=by intro h; refine ZbO ?_;refine ZcX ?_;exact h.h):A:=t ⟨h⟩
theorem _root_.Go.V.Zd1 {A B:Prop} (h:B) (t:Wr B → A:=by intro h; refine ZZ ?_;refine Zg1 ?_;exact h.h):A:=t ⟨h⟩
attribute [local irreducible] V N X VO Par StepOK Has Ret RetL RetO zcd zd2 Src
set_option maxHeartbeats 1000000 in
theorem znd {L0:List Int} {t:Nat} (hz:L0.length ≤ 100000) {s:Value} {w:World} {B:Heap} (hB:B.Le (hp w)) (hv:PsV (zad L0) s B) :
  Ret Tryz.prog 26 [pnv s t] w B (RsV (zam L0) true):=by
 have hz2:(zad L0).length ≤ 100000:=by rw [zbo]; exact Nat.le_trans (zbj _) hz
 have hat:∀ (i:Nat) (x:Int), (zam L0)[i]? = some x → (zad L0)[i]? = some (x, (L0.count x:Int)):=fun i x h => zkh h
 have hlen:(zad L0).length = (zam L0).length:=zbo L0
 obtain ⟨p, c, rfl⟩:=zaq hv
 refine yf Tryz.func26 rfl Tryz.ntmps26 (Nat.le_of_ble_eq_true rfl) hB ?_
 by_cases h0:(zam L0).length = 0
 ·have hnil:zam L0 = []:=List.eq_nil_of_length_eq_zero h0
  rw [hnil]
  refine Zb0 ?_;refine Zv ?_;refine ZaQ ?_;refine z7 (zjb L (zam L0).length rfl rfl rfl zzb rfl rfl (congrArg (Nat.cast (R:=Int)) hlen) (congrArg (Nat.cast (R:=Int)) hlen) (by omega) (by unfold maxLen; omega)) rfl ?_;refine qp (yq (.inr rfl) rfl rfl rfl rfl) ?_;refine ZU ?_;refine Zy ?_;refine Zbk ?_;refine ZeE ?_
  refine z01 3 rfl ?_
  refine zal (fun _:Unit => [(3, .sat (SlV zjs 1 (zsL Tryz.prog zjs ((zam L0).length * 1)) (zam L0).length true)), (13, .is (.int .i64 0)), (12, .is (.int .i64 (zad L0).length))]) (fun _ => True) (fun _ => 0) () trivial ⟨rfl, rfl, rfl, trivial⟩ ?_
  rintro _ _
  refine zh ?_;refine Zt ?_;refine Zbb ?_;refine Zp ?_;refine Zf ?_;refine ZaZ ?_
  refine ye L (rs:=[.tmp 2]) rfl (fun _ _ h => h) Since.refl fun u H hH hle => ?_
  intro v hv
  have h1:(zam L0).length * 1 = 0:=by omega
  rw [h0] at hv
  have hzl:zsL Tryz.prog zjs (0 * 1) = []:=by
   have:=hv.1
   exact List.eq_nil_of_length_eq_zero (by simpa using this)
  rw [hzl] at hv
  exact hv
 ·refine Zb0 ?_;refine Zv ?_;refine ZaQ ?_;refine z7 (zjb L (zam L0).length rfl rfl rfl zzb rfl rfl (congrArg (Nat.cast (R:=Int)) hlen) (congrArg (Nat.cast (R:=Int)) hlen) (by omega) (by unfold maxLen; omega)) rfl ?_;refine qp (yq (.inr rfl) rfl rfl rfl rfl) ?_;refine ZU ?_
  refine z23 3 901 (by omega) rfl fun b hzl => ?_
  refine Zy ?_;refine Zbk ?_;refine ZeE ?_
  generalize zsL Tryz.prog zjs ((zam L0).length * 1) = zs at hzl ⊢
  refine zal (fun s:Nat × List Value => [(3, .is (.slice (some ⟨b, 0, none⟩) (zam L0).length (zam L0).length)), (11, .sat (PsV (zad L0))), (13, .is (.int .i64 s.1)), (12, .is (.int .i64 (zad L0).length)), (901, .own (zan b s.2 zjs))])
   (fun s => s.1 ≤ (zam L0).length ∧ s.2.length = (zam L0).length ∧ s.2.take s.1 = ((zam L0).take s.1).map (Value.int .u64)) (fun s => (zam L0).length - s.1) (0, zs) ⟨Nat.zero_le _, by dsimp only; omega, rfl⟩ ⟨rfl, rfl, rfl, rfl, rfl, trivial⟩ ?_
  rintro ⟨i, cs⟩ ⟨hi, hcs, htk⟩
  dsimp only at hi hcs htk ⊢
  by_cases hlt:i < (zam L0).length
  ·obtain ⟨x, hx⟩:=zae hlt
   have hc:=zsw (hat i x hx)
   have hle1:0 + i * 1 + 1 ≤ cs.length:=by rw [hcs]; omega
   have hwi:IntKind.i64.wrap ((i:Int) + 1) = ((i + 1:Nat):Int):=zaa (by omega) (by omega)
   refine zh ?_;refine Zt ?_;refine Zan ?_;refine Zu ?_;refine Zao ?_;refine ZeA ?_;refine ZaL ?_;refine Zbg ?_;refine Za8 ?_;refine z3m 5 rfl ?_;refine Zv ?_;refine Zgo ?_;refine zcr (yz L (q:=901) rfl rfl rfl rfl rfl rfl (Nat.ble_eq_true_of_le hle1) rfl rfl) ?_;refine Zaq ?_;refine Zz ?_;refine Zd1 ?_
   exact yi (x:=(i, cs)) (i + 1, cs.take (0 + i * 1) ++ ([.int .u64 x] ++ cs.drop (0 + i * 1 + 1))) ⟨hlt, by dsimp only; rw [List.length_append, List.length_append, List.length_take, List.length_drop]; simp only [List.length_cons, List.length_nil]; omega, by
    dsimp only
    rw [za3 hx, List.map_append, ← htk, Nat.zero_add, Nat.mul_one, List.take_append, List.take_take, Nat.min_eq_right (by omega), List.length_take, Nat.min_eq_left (by omega), show i + 1 - i = 1 by omega]
    rfl⟩ (by dsimp only; omega) ⟨rfl, rfl, rfl, rfl, rfl, trivial⟩
  ·obtain rfl:i = (zam L0).length:=by omega
   have hcs2:cs = (zam L0).map (Value.int .u64):=by
    rw [List.take_of_length_le (by omega), List.take_length] at htk
    exact htk
   subst hcs2
   refine zh ?_;refine Zt ?_;refine Zbb ?_
   refine z0z (s:=1) 3 901 rfl rfl (by simp) (by unfold maxLen; omega) ?_
   refine z01 3 rfl ?_
   refine Zp ?_;refine Zf ?_;refine ZaZ ?_
   refine ye L (rs:=[.tmp 2]) rfl (fun _ _ h => h) Since.refl fun u H hH hle => ?_
   exact fun v hv => hv
theorem zuf {s:Value} {t:Nat} (_hs:(zav s).length = 1 ∧ (zav s).all zbs = true) {w:World} {B:Heap} (hB:B.Le (hp w)) :
  Ret Tryz.prog 56 [pnv s t] w B (fun v _ => v = .int .i64 t):=by
 refine yf Tryz.func56 rfl Tryz.ntmps56 (Nat.le_of_ble_eq_true rfl) hB ?_
 refine Zb0 ?_;refine Zv ?_;refine Zb ?_
 refine ye L (rs:=[.tmp 2]) rfl (fun _ _ h => h) Since.refl fun u H hH hle => ?_
 rfl
theorem zwz {l:List Int} {fu:Bool} {v:Value} {w:World} {B:Heap} (hB:B.Le (hp w)) (hv:RsV l fu v B):Ret Tryz.prog 83 [v] w B (RsV l true):=by
 refine yf Tryz.func83 rfl Tryz.ntmps83 (Nat.le_of_ble_eq_true rfl) hB ?_
 refine zat 0 (RsV l fu) rfl SlV.mono hv ?_
 refine ZaD ?_;refine Zf ?_;refine Zq ?_;refine Zq ?_;refine Zfr ?_;refine ZaZ ?_
 refine ye L (rs:=[.tmp 2]) rfl (fun _ _ h => h) Since.refl fun u H hH hle => ?_
 exact fun v hv => hv
theorem zmr {l:List Int} {x:Int}:some (Kn.own (SlR zjs 1 (l.length + 1) (l.map (Value.int .u64) ++ [.int .u64 x]))) = some (Kn.own (SlR zjs 1 (l ++ [x]).length ((l ++ [x]).map (Value.int .u64)))):=by
 rw [List.map_append, List.length_append]; rfl
set_option maxHeartbeats 1000000 in
set_option maxRecDepth 10000 in
theorem zy1 {L0 R:List Int} {t keep:Nat} {fu:Bool} (hz:L0.length ≤ 100000) (hR:R.length ≤ 100000) (hkp:keep ≤ 100000) {s v:Value} {w:World} {B:Heap} (hB:B.Le (hp w)) (hv:PsV (zad L0) s B) (hr:RsV R fu v B) :
  Ret Tryz.prog 52 [pnv s t, v, .int .i64 keep] w B (RsV (zdp L0 R keep) true):=by
 obtain ⟨p, c, rfl⟩:=zaq hv
 obtain ⟨n1, hn1⟩:∃ n1, n1 = R.length - keep:=⟨_, rfl⟩
 have hmx:(if (0:Int) > (keep:Int) then (0:Int) else (keep:Int)) = (keep:Int):=if_neg (by omega)
 have hmn:(if (R.length:Int) < (keep:Int) then (R.length:Int) else (keep:Int)) = (min R.length keep:Nat):=by split <;> omega
 have hsub:IntKind.i64.wrap ((R.length:Int) - (min R.length keep:Nat)) = (n1:Int):=zaa (by omega) (by omega) |>.trans (by omega)
 have hys:((R.map (Value.int .u64)).drop (0 * 1)).take ((n1 - 0) * 1) = (R.take n1).map (Value.int .u64):=by simp
 obtain ⟨g, hg⟩:∃ g, g = R.take n1:=⟨_, rfl⟩
 have hgl:g.length = n1:=by rw [hg, List.length_take]; omega
 have hgo:zdp L0 R keep = g.filter fun r => decide (L0.count r = 0):=by unfold zdp; rw [hg, hn1]
 rw [← hg] at hys
 rw [hgo]
 clear hg hgo
 refine yf Tryz.func52 rfl Tryz.ntmps52 (Nat.le_of_ble_eq_true rfl) hB ?_
 refine zat 1 (RsV R fu) rfl SlV.mono hr ?_
 refine Zb0 ?_;refine Zj ?_
 refine zd4 7 zjs 1 rfl ?_
 refine Zy ?_;refine Zf ?_;refine Zq ?_;refine Za ?_;refine z7 (zfq rfl rfl rfl rfl (by assumption)) rfl ?_;refine Zq ?_;refine z7 (zvl rfl rfl rfl rfl (by assumption)) rfl ?_;refine Za7 ?_;refine z7 (zbb L (kl:=.i64) (pl:=0) (km:=.i64) (pm:=0) 0 _ false rfl rfl rfl rfl rfl rfl ⟨rfl, rfl⟩ (fun h => by cases h) (by omega) (by omega) (by assumption)) rfl ?_;refine ZcX ?_;refine ZeE ?_
 refine zzv 19 (RsV g false) rfl SlV.mono (fun v H h => by unfold RsV; rw [hgl]; exact h) ?_
 refine zal (fun y:Nat × List Int => [(3, .sat (At [.slice p (zad L0).length c, .int .i64 t] 74 0)), (7, .own (SlR zjs 1 y.2.length (y.2.map (Value.int .u64)))), (19, .sat (RsV g false)), (20, .is (.int .i64 n1)), (21, .is (.int .i64 y.1))])
  (fun y => y.1 ≤ g.length ∧ y.2 = (g.take y.1).filter fun r => decide (L0.count r = 0)) (fun y => g.length - y.1) (0, []) ⟨Nat.zero_le _, rfl⟩ ⟨rfl, rfl, rfl, rfl, rfl, trivial⟩ ?_
 rintro ⟨k, out⟩ ⟨hk, hout⟩
 dsimp only at hk hout ⊢
 have hol:out.length ≤ k:=by rw [hout]; exact Nat.le_trans (List.length_filter_le ..) (by rw [List.length_take]; omega)
 by_cases hlt:k < g.length
 ·obtain ⟨x, hx⟩:=zae hlt
  have hc:=zf6 hx
  have htk:=za3 hx
  have hwk:IntKind.i64.wrap ((k:Int) + 1) = ((k + 1:Nat):Int):=zaa (by omega) (by omega)
  by_cases h0:L0.count x = 0
  ·have ho:out ++ [x] = (g.take (k + 1)).filter fun r => decide (L0.count r = 0):=by rw [htk, List.filter_append, ← hout]; simp [h0]
   refine zh ?_;refine Zt ?_;refine Zan ?_;refine ZV ?_;refine Zao ?_;refine ZcB ?_;refine Ze ?_;refine Zo ?_;refine Zc4 ?_;refine z7 (zp L rfl rfl (zk rfl) rfl rfl rfl (fun u H hH hle _ => count_ret hz hH (hv.le hle))) rfl ?_;refine Zbf ?_;refine Zz ?_;refine qp (yq (.inl rfl) rfl rfl rfl rfl) ?_;refine Za ?_;refine Zaa ?_;refine Zfy ?_;refine qp (yq (.inr rfl) rfl rfl rfl rfl) ?_;refine Zaq ?_;refine Zp ?_;refine Zd1 ?_
   exact yi (x:=(k, out)) (k + 1, out ++ [x]) ⟨hlt, ho⟩ (by dsimp only; omega) ⟨rfl, zmr, rfl, rfl, rfl, trivial⟩
  ·have ho:out = (g.take (k + 1)).filter fun r => decide (L0.count r = 0):=by rw [htk, List.filter_append, ← hout]; simp [h0]
   refine zh ?_;refine Zt ?_;refine Zan ?_;refine ZV ?_;refine Zao ?_;refine ZcB ?_;refine Ze ?_;refine Zo ?_;refine Zc4 ?_;refine z7 (zp L rfl rfl (zk rfl) rfl rfl rfl (fun u H hH hle _ => count_ret hz hH (hv.le hle))) rfl ?_;refine ZH ?_;refine Za4 ?_;refine Zp ?_;refine Zd1 ?_
   exact yi (x:=(k, out)) (k + 1, out) ⟨hlt, ho⟩ (by dsimp only; omega) ⟨rfl, rfl, rfl, rfl, rfl, trivial⟩
 ·obtain rfl:k = g.length:=by omega
  rw [List.take_length] at hout
  rw [← hout]
  refine zci 7 rfl ?_
  refine zh ?_;refine Zt ?_;refine Zbb ?_;refine Z8 ?_;refine Zf ?_;refine z7 (yw (φ:=RsV out true) L rfl rfl (zk rfl) rfl rfl rfl SlV.mono (fun u H hH _ _ v1 h1 => zwz hH h1)) rfl ?_;refine ZaZ ?_
  refine ye L (rs:=[.tmp 6]) rfl (fun _ _ h => h) Since.refl fun u H hH hle => ?_
  exact fun v hv => hv
theorem z75 {a b:Int × Int} {f:Bool} (h:decide (a = b) = f):zgb [1, 1] (pnc a) (pnc b) = some f:=by
 obtain ⟨a1, a2⟩:=a
 obtain ⟨b1, b2⟩:=b
 subst h
 simp only [pnc, zgb, eqC, if_true, Bool.and_true, Prod.mk.injEq]
 congr 1
 rw [Bool.eq_iff_iff]
 simp
theorem zn6 {a b:Int × Int} {f:Bool} (h:decide (a = b) = f) {w:World} {B:Heap} (hB:B.Le (hp w)):Ret Tryz.prog 71 [.agg #[.int .u64 a.1, .int .i64 a.2], .agg #[.int .u64 b.1, .int .i64 b.2]] w B (fun v _ => v = .bool f):=by
 have hq:zgb [1, 1] [.int .u64 a.1, .int .i64 a.2] [.int .u64 b.1, .int .i64 b.2] = some f:=z75 h
 refine yf Tryz.func71 rfl Tryz.ntmps71 (Nat.le_of_ble_eq_true rfl) hB ?_
 refine Zaf ?_;refine ZS ?_;refine Zcj ?_;refine Zcj ?_;refine z7 (zp5 rfl rfl rfl rfl z6v (by assumption) rfl) rfl ?_;refine Zb ?_
 refine ye L (rs:=[.tmp 4]) rfl (fun _ _ h => h) Since.refl fun u H hH hle => ?_
 rfl
theorem zwa {α:Type} {a b:List α} (h:a.length ≠ b.length):a ≠ b:=fun e => h (congrArg List.length e)
theorem z2y {α:Type} {a b:List α} {i:Nat} {x y:α} (hx:a[i]? = some x) (hy:b[i]? = some y) (h:x ≠ y):a ≠ b:=fun e => h (by subst e; rw [hx] at hy; exact Option.some.inj hy)
set_option maxHeartbeats 1000000 in
theorem z2m {a b:List (Int × Int)} {f:Bool} (hf:decide (a = b) = f) (ha:a.length ≤ 100000) (hb:b.length ≤ 100000) {v1 v2:Value} {w:World} {B:Heap} (hB:B.Le (hp w)) (h1:PsV a v1 B) (h2:PsV b v2 B) :
  Ret Tryz.prog 70 [v1, v2, .func (.func 71) #[] #[]] w B (fun v _ => v = .bool f):=by
 subst hf
 refine yf Tryz.func70 rfl Tryz.ntmps70 (Nat.le_of_ble_eq_true rfl) hB ?_
 refine zat 0 (PsV a) rfl SlV.mono h1 ?_
 refine zat 1 (PsV b) rfl SlV.mono h2 ?_
 by_cases hl:a.length = b.length
 ·refine ZdY ?_;refine Zay ?_;refine Zt ?_;refine ZcD ?_
  refine zal (fun i:Nat => [(0, .sat (PsV a)), (15, .sat (PsV a)), (1, .sat (PsV b)), (2, .is (.func (.func 71) #[] #[])), (16, .is (.int .i64 a.length)), (17, .is (.int .i64 i))]) (fun i => i ≤ a.length ∧ a.take i = b.take i) (fun i => a.length - i) 0 ⟨Nat.zero_le _, rfl⟩ ⟨rfl, rfl, rfl, rfl, rfl, rfl, trivial⟩ ?_
  rintro i ⟨hi, ht⟩
  by_cases hlt:i < a.length
  ·obtain ⟨x, hx⟩:=zae hlt
   obtain ⟨y, hy⟩:=zae (show i < b.length by omega)
   have hc1:=zsw hx
   have hc2:=zsw hy
   have hwk:IntKind.i64.wrap ((i:Int) + 1) = ((i + 1:Nat):Int):=zaa (by omega) (by omega)
   by_cases hxy:x = y
   ·refine Zgk ?_;refine Zo ?_;refine Zb7 ?_;refine ZeA ?_;refine ZaL ?_;refine Zau ?_;refine Zm ?_;refine Zz ?_;refine Zbe ?_;refine ZeA ?_;refine ZX ?_;refine Zm ?_;refine Z5 ?_;refine Zfb ?_;refine Zfb ?_;refine z7 (zp L rfl rfl (zk rfl) rfl rfl rfl (fun u H hH _ _ => zn6 (decide_eq_true hxy) hH)) rfl ?_;refine Zs ?_;refine Za4 ?_;refine ZM ?_;refine Zd1 ?_
    exact yi (x:=i) (i + 1) ⟨hlt, by rw [za3 hx, za3 hy, ht, hxy]⟩ (by omega) ⟨rfl, rfl, rfl, rfl, rfl, rfl, trivial⟩
   ·rw [decide_eq_false (z2y hx hy hxy)]
    refine Zgk ?_;refine Zo ?_;refine Zb7 ?_;refine ZeA ?_;refine ZaL ?_;refine Zau ?_;refine Zm ?_;refine Zz ?_;refine Zbe ?_;refine ZeA ?_;refine ZX ?_;refine Zm ?_;refine Z5 ?_;refine Zfb ?_;refine Zfb ?_;refine z7 (zp L rfl rfl (zk rfl) rfl rfl rfl (fun u H hH _ _ => zn6 (decide_eq_false hxy) hH)) rfl ?_;refine Zs ?_;refine Z0 ?_;refine Zd8 ?_
    refine ye L (rs:=[.tmp 6]) rfl (fun _ _ h => h) Since.refl fun u H hH hle => ?_
    rfl
  ·obtain rfl:i = a.length:=by omega
   have hab:a = b:=by rw [List.take_length, hl, List.take_length] at ht; exact ht
   rw [decide_eq_true hab]
   refine ZeF ?_;refine Zbb ?_;refine Zag ?_;refine Zb ?_
   refine ye L (rs:=[.tmp 6]) rfl (fun _ _ h => h) Since.refl fun u H hH hle => ?_
   rfl
 ·rw [decide_eq_false (zwa hl)]
  refine ZdY ?_;refine ZP ?_;refine Zy ?_;refine Zb ?_
  refine ye L (rs:=[.tmp 6]) rfl (fun _ _ h => h) Since.refl fun u H hH hle => ?_
  rfl
theorem zoj {L1 L2:List Int} {t1 t2:Nat} {f:Bool} (hf:decide (zad L1 = zad L2) = f) (hz1:L1.length ≤ 100000) (hz2:L2.length ≤ 100000) {s1 s2:Value} {w:World} {B:Heap} (hB:B.Le (hp w)) (h1:PsV (zad L1) s1 B) (h2:PsV (zad L2) s2 B) :
  Ret Tryz.prog 40 [pnv s1 t1, pnv s2 t2] w B (fun v _ => v = .bool f):=by
 have q1:(zad L1).length ≤ 100000:=by rw [zbo]; exact Nat.le_trans (zbj _) hz1
 have q2:(zad L2).length ≤ 100000:=by rw [zbo]; exact Nat.le_trans (zbj _) hz2
 obtain ⟨p, c, rfl⟩:=zaq h1
 obtain ⟨p', c', rfl⟩:=zaq h2
 refine yf Tryz.func40 rfl Tryz.ntmps40 (Nat.le_of_ble_eq_true rfl) hB ?_
 refine Zaf ?_;refine ZS ?_;refine Zv ?_;refine Zv ?_;refine z7 (zp L rfl rfl (zk rfl) rfl rfl rfl (fun u H hH hle _ => z2m hf q1 q2 hH (h1.le hle) (h2.le hle))) rfl ?_;refine Zb ?_
 refine ye L (rs:=[.tmp 4]) rfl (fun _ _ h => h) Since.refl fun u H hH hle => ?_
 rfl
end Go.V.L10
set_option maxRecDepth 20000
namespace Go.V.L10
open Go.Proofs Go.RowKit Go.V
theorem _root_.Go.V.Zgv {A B:Prop} (h:B) (t:Wr B → A:=by intro h; refine z7 (zbt L (kh:=.i64) (ph:=0) _ _ rfl rfl rfl rfl rfl ⟨rfl, rfl⟩ rfl (by omega) (by omega)) rfl ?_;exact h.h):A:=t ⟨h⟩
theorem _root_.Go.V.ZfZ {A B:Prop} (h:B) (t:Wr B → A:=by intro h; refine Zf ?_;refine z7 (zyc L rfl rfl rfl rfl) rfl ?_;exact h.h):A:=t ⟨h⟩
theorem zdl (l:List (Int × Int)):(l.flatMap pnc).length = l.length * 2:=zcq zu4 l
section
variable {A Bq R X Z:List Value} {a b:Nat}
theorem z0s (hA:A.length = a) (T:List Value):(A ++ T).take a = A ∧ (A ++ T).drop a = T:=by subst hA; simp
theorem z6g (hA:A.length = a) (hB:Bq.length = b) (_hR:2 ≤ R.length) :
  ((A ++ (Bq ++ R)).drop a).take b = Bq ∧
  ((A ++ (Bq ++ R)).take (a + 2) ++ (Bq ++ (A ++ (Bq ++ R)).drop (a + 2 + b))) = A ++ ((Bq ++ R).take 2 ++ (Bq ++ R.drop 2)) ∧
  ∀ (W:List Value), W.length = 2 → ((A ++ (W ++ (Bq ++ R.drop 2))).take a ++ (X ++ (A ++ (W ++ (Bq ++ R.drop 2))).drop (a + 2))) = A ++ (X ++ (Bq ++ R.drop 2)):=by
 subst hA hB
 refine ⟨by simp, ?_, fun W hW => ?_⟩
 ·have e1:(A ++ (Bq ++ R)).take (A.length + 2) = A ++ (Bq ++ R).take 2:=by rw [List.take_append, List.take_of_length_le (by omega)]; congr 2; omega
  have e2:(A ++ (Bq ++ R)).drop (A.length + 2 + Bq.length) = R.drop 2:=by
   rw [← List.append_assoc, List.drop_append, List.drop_eq_nil_of_le (by rw [List.length_append]; omega), List.nil_append]
   congr 1
   rw [List.length_append]; omega
  rw [e1, e2, List.append_assoc]
 ·rw [List.take_append, List.take_of_length_le (Nat.le_refl _), Nat.sub_self, List.take_zero, List.append_nil, List.drop_append, List.drop_eq_nil_of_le (by omega), List.nil_append, show A.length + 2 - A.length = 2 by omega, List.drop_append, List.drop_eq_nil_of_le (by omega), List.nil_append, hW, Nat.sub_self, List.drop_zero]
theorem z4g (hA:A.length = a) (hB:Bq.length = b) (hZ:Z.length = b + 2) (hX:X.length = 2) :
  ((A ++ Z ++ R).take a ++ (X ++ (A ++ Z ++ R).drop (a + 2))) = A ++ (X ++ (Z.drop 2 ++ R)) ∧
  ((A ++ (X ++ (Z.drop 2 ++ R))).take (a + 2) ++ (Bq ++ (A ++ (X ++ (Z.drop 2 ++ R))).drop (a + 2 + b))) = A ++ (X ++ (Bq ++ R)):=by
 subst hA hB
 refine ⟨?_, ?_⟩
 ·rw [List.append_assoc, List.take_append, List.take_of_length_le (Nat.le_refl _), Nat.sub_self, List.take_zero, List.append_nil, List.drop_append, List.drop_eq_nil_of_le (by omega), List.nil_append, show A.length + 2 - A.length = 2 by omega, List.drop_append, show 2 - Z.length = 0 by omega, List.drop_zero]
 ·have e1:(A ++ (X ++ (Z.drop 2 ++ R))).take (A.length + 2) = A ++ X:=by
   rw [← List.append_assoc, List.take_append, List.take_of_length_le (by rw [List.length_append]; omega), List.length_append, show A.length + 2 - (A.length + X.length) = 0 by omega, List.take_zero, List.append_nil]
  have e2:(A ++ (X ++ (Z.drop 2 ++ R))).drop (A.length + 2 + Bq.length) = R:=by
   rw [← List.append_assoc, ← List.append_assoc, List.drop_append, List.drop_eq_nil_of_le (by rw [List.length_append, List.length_append, List.length_drop]; omega), List.nil_append, List.length_append, List.length_append, List.length_drop, show A.length + 2 + Bq.length - (A.length + X.length + (Z.length - 2)) = 0 by omega, List.drop_zero]
  rw [e1, e2, List.append_assoc]
theorem z4f (hA:A.length = a) (hB:Bq.length = b) (hX:X.length = 2) :
  ((A ++ (X ++ (Bq ++ R))).drop (a + 2)).take b = Bq ∧
  ((A ++ (X ++ (Bq ++ R))).take a ++ (Bq ++ (A ++ (X ++ (Bq ++ R))).drop (a + b))) = A ++ (Bq ++ ((X ++ (Bq ++ R)).drop b)) ∧
  ∀ (W:List Value), ((A ++ (Bq ++ W)).take (a + b) ++ (Z ++ (A ++ (Bq ++ W)).drop (a + b + 2))) = A ++ Bq ++ (Z ++ W.drop 2):=by
 subst hA hB
 refine ⟨?_, ?_, fun W => ?_⟩
 ·rw [List.drop_append, List.drop_eq_nil_of_le (by omega), List.nil_append, show A.length + 2 - A.length = 2 by omega, List.drop_append, List.drop_eq_nil_of_le (by omega), List.nil_append, hX, Nat.sub_self, List.drop_zero]; simp
 ·rw [List.take_append, List.take_of_length_le (Nat.le_refl _), Nat.sub_self, List.take_zero, List.append_nil, List.drop_append, List.drop_eq_nil_of_le (by omega), List.nil_append, show A.length + Bq.length - A.length = Bq.length by omega]
 ·rw [← List.append_assoc A Bq W, List.take_append, List.take_of_length_le (by rw [List.length_append]; omega), List.length_append, Nat.sub_self, List.take_zero, List.append_nil, List.drop_append, List.drop_eq_nil_of_le (by rw [List.length_append]; omega), List.nil_append, List.length_append, show A.length + Bq.length + 2 - (A.length + Bq.length) = 2 by omega]
end
attribute [local irreducible] V N X VO Par StepOK Has Ret RetL RetO RetT zcd zd2 Src
theorem zh8 {l:List (Int × Int)} (hz:l.length ≤ 100000) {v:Value} {w:World} {B:Heap} (hB:B.Le (hp w)) (hv:PsV l v B) :
  RetO Tryz.prog 99 [v] w B (SlR zue 2 l.length (l.flatMap pnc)):=by
 have hv0:=hv
 have hlen:=zdl l
 have hpl:=zhd l
 obtain ⟨p, c, rfl⟩:=zaq hv
 rcases p with _ | b
 ·obtain ⟨h0, rfl⟩:l.length = 0 ∧ c = 0:=zq1 hv
  have hn:l = []:=List.eq_nil_of_length_eq_zero h0
  subst hn
  refine zea Tryz.func99 rfl Tryz.ntmps99 (Nat.le_of_ble_eq_true rfl) hB ?_
  refine Zbx ?_;refine z7 (zgy rfl rfl rfl rfl z7h rfl) rfl ?_;refine ZcW ?_
  refine zd4 2 zue 2 rfl ?_
  exact ziz rfl (fun _ _ h => h) Since.refl rfl
 ·refine zea Tryz.func99 rfl Tryz.ntmps99 (Nat.le_of_ble_eq_true rfl) hB ?_
  refine Zbx ?_;refine z7 (zgy rfl rfl rfl rfl z7h rfl) rfl ?_;refine Zx ?_
  refine zat 0 (PsV l) rfl SlV.mono hv0 ?_
  refine Zt ?_;refine z7 (zgt L rfl rfl rfl rfl rfl) rfl ?_;refine Zf ?_;refine qp (zb9 L rfl rfl rfl (zik rfl) rfl zi4 (by assumption) (by assumption) (by omega) (by omega)) ?_;refine qp (yq (.inr rfl) rfl rfl rfl rfl) ?_;refine Z6 ?_
  rw [Nat.zero_add, List.nil_append]
  exact ziz rfl (fun _ _ h => h) Since.refl rfl
def ztg (l:List (Int × Int)) (i:Nat) (x:Int × Int):List (Int × Int):=l.take i ++ x :: l.drop i
theorem zqa {l:List (Int × Int)} {i:Nat} {x:Int × Int} (hi:i ≤ l.length):(ztg l i x).length = l.length + 1:=by
 unfold ztg; rw [List.length_append, List.length_cons, List.length_take, List.length_drop]; omega
theorem zl6 {l:List (Int × Int)} {i:Nat} {x:Int × Int}:(ztg l i x).flatMap pnc = (l.take i).flatMap pnc ++ ([.int .u64 x.1, .int .i64 x.2] ++ (l.drop i).flatMap pnc):=by
 unfold ztg; rw [List.flatMap_append, List.flatMap_cons]; rfl
theorem z1y (args:Array Value) (u:World):(callFunc 155 args).run Tryz.prog u = ((Extern.SlicesOverlaps.overlaps #[72, 72] #[4] args).run Tryz.prog u).andThen fun v w' => .ok (.value v) w' :=
 run_callFunc_extern Tryz.func155 (by kernel_rfl) (by kernel_rfl) (by kernel_rfl) (by kernel_rfl) args u
abbrev zPn:Value:=.agg #[.int .u64 0, .int .i64 0]
def zPs (m:Nat):List Value:=(Builtin.zeroCells (Value.cells zPn) m).toList
theorem zt0 (m:Nat):(zPs m).length = m * 2:=by unfold zPs; rw [Array.length_toList, size_zeroCells]; rfl
set_option maxHeartbeats 4000000 in
set_option maxRecDepth 20000 in
theorem ztf {l:List (Int × Int)} {i:Nat} {y:Int × Int} (hi:i ≤ l.length) (hz:l.length ≤ 100000) {x v2:Value} {w:World} {B:Heap} {C:Nat → Prop} (hB:B.Le (hp w)) (h2:SlB [Value.int .u64 y.1, Value.int .i64 y.2] zue 1 v2 B) (hx:(SlR zue 2 l.length (l.flatMap pnc)).P x B w C) (hC:∀ k, C k → k < w.heap.size ∧ B k = none) :
  RetT Tryz.prog 123 [x, .int .i64 i, v2] w B C (SlR zue 2 (l.length + 1) ((ztg l i y).flatMap pnc)):=by
 have hpl:=zhd l
 unfold RetT
 refine znp 0 (x:=x) (SlR zue 2 l.length (l.flatMap pnc)) rfl Tryz.func123 rfl Tryz.ntmps123 (Nat.le_of_ble_eq_true rfl) hB hx hC ?_
 refine zat 2 (SlB [Value.int .u64 y.1, Value.int .i64 y.2] zue 1) rfl SlB.mono h2 ?_
 have hw1:IntKind.i64.wrap ((l.length:Int) + ((1:Nat):Int)) = ((l.length + 1:Nat):Int):=zaa (by omega) (by omega)
 refine zg7 0 900 rfl (fun hm hn => ?_) fun b cap rest hl hmc hcm hcl => ?_
 ·have h0:l = []:=List.eq_nil_of_length_eq_zero hm
  subst h0
  obtain rfl:i = 0:=by simpa using hi
  refine ZdL ?_;refine z7 (zsx L rfl rfl rfl rfl rfl rfl rfl) rfl ?_;refine Zm ?_;refine Zy ?_;refine ZfZ ?_;refine ZcQ ?_;refine Zax ?_;refine Z9 ?_;refine ZaQ ?_;refine Zj ?_;refine Zby ?_;refine ZbZ ?_;refine Z5 ?_;refine Zf ?_;refine z7 (zc7 L rfl rfl rfl (zhq rfl) rfl zi4 rfl rfl (by omega) (by omega)) rfl ?_;refine qp (yq (.inr rfl) rfl rfl rfl rfl) ?_;refine Z6 ?_
  exact zk9 rfl (fun _ _ h => h) Since.refl rfl
 ·by_cases hin:i = l.length
  ·subst hin
   have e1:(ztg l l.length y).flatMap pnc = l.flatMap pnc ++ [Value.int .u64 y.1, Value.int .i64 y.2]:=by rw [zl6, List.take_length, List.drop_length]; simp
   rw [e1]
   refine ZdL ?_;refine Zgv ?_;refine Zm ?_;refine Zy ?_;refine ZfZ ?_;refine ZcQ ?_;refine Zax ?_;refine Z9 ?_;refine ZaQ ?_;refine Zj ?_;refine Zby ?_;refine ZbZ ?_;refine Z5 ?_;refine Zf ?_;refine qp (zs4 L (q:=900) rfl rfl rfl rfl hl hmc hcm hcl (zhq rfl) rfl zi4 rfl rfl (by omega) (by omega)) ?_;refine qp (yq (.inr rfl) rfl rfl rfl rfl) ?_;refine Z6 ?_
   exact zk9 rfl (fun _ _ h => h) Since.refl rfl
  ·have hil:i < l.length:=by omega
   have hA:((l.take i).flatMap pnc).length = i * 2:=by rw [zdl, List.length_take, Nat.min_eq_left (by omega)]
   have hBq:((l.drop i).flatMap pnc).length = (l.length - i) * 2:=by rw [zdl, List.length_drop]
   have hcur:l.flatMap pnc = (l.take i).flatMap pnc ++ (l.drop i).flatMap pnc:=by rw [← List.flatMap_append, List.take_append_drop]
   have hpB:=zhd (l.drop i)
   have hwi:IntKind.i64.wrap ((i:Int) + ((1:Nat):Int)) = ((i + 1:Nat):Int):=zaa (by omega) (by omega)
   rw [zl6]
   generalize hAe:(l.take i).flatMap pnc = A at *
   generalize hBe:(l.drop i).flatMap pnc = Bq at *
   rw [hcur, List.append_assoc] at hcl
   rw [hcur, List.append_assoc]
   rw [List.length_append, List.length_append, hA, hBq] at hcl
   by_cases hg:l.length + 1 ≤ cap
   ·have hne1:¬ cap = i:=by omega
    have hne2:¬ cap = i + 1:=by omega
    have hne3:¬ cap = 0:=by omega
    have hR:2 ≤ rest.length:=by omega
    obtain ⟨m1, m2, m3⟩:=z6g (R:=rest) (X:=[Value.int .u64 y.1, Value.int .i64 y.2]) hA hBq hR
    have m3':=m3 ((Bq ++ rest).take 2) (by rw [List.length_take, List.length_append]; omega)
    have q1:((A ++ (Bq ++ rest)).drop (0 + i * 2)).take ((l.length - i) * 2) = Bq:=by rw [Nat.zero_add]; exact m1
    have q2:(A ++ (Bq ++ rest)).take (0 + (i + 1) * 2) ++ (Bq ++ (A ++ (Bq ++ rest)).drop (0 + (i + 1) * 2 + (l.length - i) * 2)) = A ++ ((Bq ++ rest).take 2 ++ (Bq ++ rest.drop 2)):=by rw [Nat.zero_add, Nat.add_mul i 1 2]; exact m2
    have q3:(A ++ ((Bq ++ rest).take 2 ++ (Bq ++ rest.drop 2))).take (0 + i * 2) ++ ([Value.int .u64 y.1, Value.int .i64 y.2] ++ (A ++ ((Bq ++ rest).take 2 ++ (Bq ++ rest.drop 2))).drop (0 + i * 2 + 1 * 2)) = A ++ ([Value.int .u64 y.1, Value.int .i64 y.2] ++ (Bq ++ rest.drop 2)):=by rw [Nat.zero_add]; exact m3'
    have q4:0 + (i + 1) * 2 + (l.length - i) * 2 ≤ (A ++ (Bq ++ rest)).length:=by rw [List.length_append, List.length_append]; omega
    have q5:0 + i * 2 + 1 * 2 ≤ (A ++ ((Bq ++ rest).take 2 ++ (Bq ++ rest.drop 2))).length:=by rw [List.length_append, List.length_append, List.length_append, List.length_take, List.length_append]; omega
    have q8:0 < (A ++ (Bq ++ rest)).length:=by rw [List.length_append, List.length_append]; omega
    have q6:Nat.min (l.length + 1 - i) (l.length + 1 - (i + 1)) = l.length - i:=by show min _ _ = _; omega
    have q7:Nat.min 1 (l.length + 1 - i) = 1:=by show min _ _ = _; omega
    refine ZdL ?_;refine Zgv ?_;rw [if_neg hne1]; refine Zm ?_;refine Zy ?_;refine ZfZ ?_;refine ZcQ ?_;refine Zax ?_;refine Z9 ?_;refine ZaQ ?_;refine Zj ?_;refine Zby ?_;refine Zbs ?_;refine Z8 ?_;refine ZbJ ?_;refine Za ?_;refine z7 (zvt L rfl rfl rfl rfl) rfl ?_;refine Z7 ?_;refine Zx ?_;refine Zcr ?_;refine Z2 ?_;refine ZZ ?_;refine z7 (zbt L (kl:=.i64) (pl:=0) 0 (l.length + 1) rfl rfl rfl rfl rfl rfl ⟨rfl, rfl⟩ (by omega) (by omega)) rfl ?_;rw [if_neg hne3, show (0 + 0 * 2:Nat) = 0 from rfl, Nat.sub_zero, Nat.sub_zero]; refine Zj ?_
    refine Zaw ?_;refine Zf ?_;refine Z2 ?_;refine ZZ ?_;refine z7 (zbt L (kh:=.i64) (ph:=0) (i + 1) _ rfl rfl rfl rfl rfl ⟨rfl, rfl⟩ rfl (by omega) (by omega)) rfl ?_;rw [if_neg hne2]; refine yo (zp0 L (q:=900) rfl rfl rfl z1y rfl rfl rfl rfl rfl q8) ?_;refine Zs ?_;refine Z0 ?_;refine qg (id:=15) [(77, [900])] mixed (by kernel_rfl) ?_;refine Zbv ?_;refine z8 (zbt L (kh:=.i64) (ph:=0) (i + 1) _ rfl rfl rfl rfl rfl ⟨rfl, rfl⟩ rfl (by omega) (by omega)) rfl ?_;rw [if_neg hne2]; refine Zi ?_;refine z8 (zbt L (kh:=.i64) (ph:=0) i _ rfl rfl rfl rfl rfl ⟨rfl, rfl⟩ rfl (by omega) (by omega)) rfl ?_;rw [if_neg hne1]; refine za2 (zvr L (q:=900) (l.length - i) rfl rfl rfl rfl rfl rfl zi4 q6 q1 hBq q4 hpB q2) rfl rfl ?_;refine ZbB ?_;refine Zap ?_;refine Zd ?_;refine z7 (zbt L (kh:=.i64) (ph:=0) i _ rfl rfl rfl rfl rfl ⟨rfl, rfl⟩ rfl (by omega) (by omega)) rfl ?_;rw [if_neg hne1]; refine Zf ?_;refine qp (zm1 L (q:=900) 1 rfl rfl rfl rfl (zhq rfl) rfl zi4 (by decide) q7 (Nat.le_refl 2) rfl q5 rfl q3) ?_;refine Zm ?_;refine Zca ?_;refine Za ?_;refine Zb ?_
    refine zcc (s:=2) (xs:=A ++ ([Value.int .u64 y.1, Value.int .i64 y.2] ++ Bq)) (rest:=rest.drop 2) 6 900 (by simp [List.append_assoc]) rfl rfl (by simp only [List.length_append, List.length_cons, List.length_nil]; omega) hg hcm (by simp only [List.length_append, List.length_cons, List.length_nil, List.length_drop]; omega) ?_
    exact zk9 rfl (fun _ _ h => h) Since.refl rfl
   ·have hne1:¬ cap = i:=by omega
    have hne3:¬ cap = 0:=by omega
    have hr0:rest = []:=List.eq_nil_of_length_eq_zero (by omega)
    subst hr0
    have hcap:cap = l.length:=by omega
    subst hcap
    rw [List.append_nil]
    have hwk:IntKind.i64.wrap (((l.length + 1:Nat):Int) - (i:Int)) = ((l.length + 1 - i:Nat):Int):=zaa (by omega) (by omega) |>.trans (by omega)
    have hxs:(A ++ Bq).take (i * 2) = A:=(z0s hA Bq).1
    have hxl:i * 2 ≤ (A ++ Bq).length:=by rw [List.length_append]; omega
    have hZ:=zt0 (l.length + 1 - i)
    have hgt:l.length < i + (l.length + 1 - i):=by omega
    refine ZdL ?_;refine Zgv ?_;rw [if_neg hne1]; refine Zm ?_;refine Zy ?_;refine ZfZ ?_;refine ZcQ ?_;refine Zax ?_;refine Z9 ?_;refine ZaQ ?_;refine Zj ?_;refine Zby ?_;refine Zbs ?_;refine Z8 ?_;refine ZbJ ?_;refine Za ?_;refine z7 (zvt L rfl rfl rfl rfl) rfl ?_;refine ZC ?_;refine Z0 ?_;refine Zdy ?_;refine z7 (zbt L (kl:=.i64) (pl:=0) 0 i rfl rfl rfl rfl rfl rfl ⟨rfl, rfl⟩ (by omega) (by omega)) rfl ?_;rw [if_neg hne3, show (0 + 0 * 2:Nat) = 0 from rfl, Nat.sub_zero, Nat.sub_zero]; refine ZbJ ?_;refine Zal ?_;refine yo (zs3 L (q:=900) (z:=zPn) (k:=l.length + 1 - i) (kn:=.i64) rfl rfl rfl rfl rfl rfl (by kernel_rfl) zi4 rfl (by omega) hgt hxs hxl rfl (by omega) (by omega)) ?_;refine qp (yq (.inr rfl) rfl rfl rfl rfl) ?_;refine Zm ?_
    rw [show (Builtin.zeroCells (Value.cells zPn) (l.length + 1 - i)).toList = zPs (l.length + 1 - i) from rfl]
    have hlt:i + (l.length + 1 - i) = l.length + 1:=by omega
    rw [hlt]
    refine zg7 9 901 rfl (fun hm _ => by omega) fun b2 cap2 rest2 hl2 hmc2 hcm2 hcl2 => ?_
    have hn1:¬ cap2 = i:=by omega
    have hn2:¬ cap2 = i + 1:=by omega
    have hZ2:(zPs (l.length + 1 - i)).length = (l.length - i) * 2 + 2:=by omega
    obtain ⟨m1, m2⟩:=z4g (R:=rest2) (X:=[Value.int .u64 y.1, Value.int .i64 y.2]) hA hBq hZ2 rfl
    have q1:(A ++ zPs (l.length + 1 - i) ++ rest2).take (0 + i * 2) ++ ([Value.int .u64 y.1, Value.int .i64 y.2] ++ (A ++ zPs (l.length + 1 - i) ++ rest2).drop (0 + i * 2 + 1 * 2)) = A ++ ([Value.int .u64 y.1, Value.int .i64 y.2] ++ ((zPs (l.length + 1 - i)).drop 2 ++ rest2)):=by rw [Nat.zero_add]; exact m1
    have q2:(A ++ ([Value.int .u64 y.1, Value.int .i64 y.2] ++ ((zPs (l.length + 1 - i)).drop 2 ++ rest2))).take (0 + (i + 1) * 2) ++ (Bq ++ (A ++ ([Value.int .u64 y.1, Value.int .i64 y.2] ++ ((zPs (l.length + 1 - i)).drop 2 ++ rest2))).drop (0 + (i + 1) * 2 + (l.length - i) * 2)) = A ++ ([Value.int .u64 y.1, Value.int .i64 y.2] ++ (Bq ++ rest2)):=by rw [Nat.zero_add, Nat.add_mul i 1 2]; exact m2
    have q3:0 + i * 2 + 1 * 2 ≤ (A ++ zPs (l.length + 1 - i) ++ rest2).length:=by rw [List.length_append, List.length_append]; omega
    have q4:0 + (i + 1) * 2 + (l.length - i) * 2 ≤ (A ++ ([Value.int .u64 y.1, Value.int .i64 y.2] ++ ((zPs (l.length + 1 - i)).drop 2 ++ rest2))).length:=by simp only [List.length_append, List.length_cons, List.length_nil, List.length_drop]; omega
    have q5:Nat.min 1 (l.length + 1 - i) = 1:=by show min _ _ = _; omega
    have q6:Nat.min (l.length - i) (l.length + 1 - (i + 1)) = l.length - i:=by show min _ _ = _; omega
    have q7:((A ++ Bq).drop (i * 2)).take ((l.length - i) * 2) = Bq:=by rw [(z0s hA Bq).2, List.take_of_length_le (by omega)]
    have q8:Bq.take ((l.length - i) * 2) = Bq:=List.take_of_length_le (by omega)
    have q9:(l.length - i) * 2 ≤ Bq.length:=by omega
    refine ZdZ ?_;refine z7 (zbt L (kh:=.i64) (ph:=0) i _ rfl rfl rfl rfl rfl ⟨rfl, rfl⟩ rfl (by omega) (by omega)) rfl ?_;rw [if_neg hn1]; refine Zf ?_;refine qp (zm1 L (q:=901) 1 rfl rfl rfl rfl (zhq rfl) rfl zi4 (by decide) q5 (Nat.le_refl 2) rfl q3 rfl q1) ?_;refine Zm ?_
    refine zcc (s:=2) (xs:=A ++ Bq) (rest:=[]) 0 900 (List.append_nil _).symm rfl rfl (by rw [← hcur]; exact hl) (Nat.le_refl _) hcm (by rw [← hcur]; exact hl) ?_
    refine zci 0 rfl ?_
    refine qg (id:=11) [(54, [901])] mixed (by kernel_rfl) ?_;refine Zbv ?_;refine z8 (zbt L (kh:=.i64) (ph:=0) (i + 1) _ rfl rfl rfl rfl rfl ⟨rfl, rfl⟩ rfl (by omega) (by omega)) rfl ?_;rw [if_neg hn2]; refine ZeG ?_;refine z8 (zbb L (kh:=.i64) (ph:=0) (km:=.i64) (pm:=0) i l.length false rfl rfl rfl rfl rfl ⟨rfl, rfl⟩ ⟨rfl, rfl⟩ (fun h => by cases h) (by omega) (by omega) q7) rfl ?_;refine za2 (zm1 L (q:=901) (l.length - i) rfl rfl rfl rfl (zik rfl) rfl zi4 (by omega) q6 q9 q8 q4 hpB q2) rfl rfl ?_;refine ZbB ?_
    refine zcc (s:=2) (xs:=A ++ ([Value.int .u64 y.1, Value.int .i64 y.2] ++ Bq)) (rest:=rest2) 9 901 (by simp [List.append_assoc]) rfl rfl (by simp only [List.length_append, List.length_cons, List.length_nil]; omega) hmc2 hcm2 (by simp only [List.length_append, List.length_cons, List.length_nil] at hcl2 ⊢; omega) ?_
    refine ZQ ?_;refine qp (yq (.inl rfl) rfl rfl rfl rfl) ?_;refine qp (yq (.inr rfl) rfl rfl rfl rfl) ?_;refine Z6 ?_
    exact zk9 rfl (fun _ _ h => h) Since.refl rfl
theorem zwt (l:List (Int × Int)) (i:Nat):(l.eraseIdx i).flatMap pnc = (l.take i).flatMap pnc ++ (l.drop (i + 1)).flatMap pnc:=by rw [List.eraseIdx_eq_take_drop_succ, List.flatMap_append]
set_option maxHeartbeats 4000000 in
set_option maxRecDepth 20000 in
theorem ztp {l:List (Int × Int)} {i:Nat} (hi:i < l.length) (hz:l.length ≤ 100000) {x:Value} {j:Int} (hj:j = ((i + 1:Nat):Int)) {w:World} {B:Heap} {C:Nat → Prop} (hB:B.Le (hp w)) (hx:(SlR zue 2 l.length (l.flatMap pnc)).P x B w C) (hC:∀ k, C k → k < w.heap.size ∧ B k = none) :
  RetT Tryz.prog 100 [x, .int .i64 i, .int .i64 j] w B C (SlR zue 2 (l.length - 1) ((l.eraseIdx i).flatMap pnc)):=by
 subst hj
 unfold RetT
 refine znp 0 (x:=x) (SlR zue 2 l.length (l.flatMap pnc)) rfl Tryz.func100 rfl Tryz.ntmps100 (Nat.le_of_ble_eq_true rfl) hB hx hC ?_
 refine zg7 0 900 rfl (fun hm hn => by omega) fun b cap rest hl hmc hcm hcl => ?_
 obtain ⟨y, hy⟩:=zae hi
 have hA:((l.take i).flatMap pnc).length = i * 2:=by rw [zdl, List.length_take, Nat.min_eq_left (by omega)]
 have hBq:((l.drop (i + 1)).flatMap pnc).length = (l.length - (i + 1)) * 2:=by rw [zdl, List.length_drop]
 have hcur:l.flatMap pnc = (l.take i).flatMap pnc ++ (pnc y ++ (l.drop (i + 1)).flatMap pnc):=by
  rw [← List.flatMap_cons, ← List.flatMap_append]
  congr 1
  rw [show y :: l.drop (i + 1) = l.drop i by rw [List.drop_eq_getElem_cons hi, zdg hy], List.take_append_drop]
 have hpB:=zhd (l.drop (i + 1))
 rw [zwt]
 generalize hAe:(l.take i).flatMap pnc = A at *
 generalize hBe:(l.drop (i + 1)).flatMap pnc = Bq at *
 rw [hcur, List.append_assoc, List.append_assoc] at hcl
 rw [hcur, List.append_assoc, List.append_assoc]
 obtain ⟨X, hX⟩:∃ X, X = pnc y:=⟨_, rfl⟩
 have hXl:X.length = 2:=by rw [hX]; rfl
 rw [← hX] at hcl hcur ⊢
 rw [List.length_append, List.length_append, List.length_append, hA, hBq, hXl] at hcl
 clear hX hAe hBe
 obtain ⟨m1, m2, m3⟩:=z4f (R:=rest) (Z:=zPs 1) hA hBq hXl
 have m3':=m3 ((X ++ (Bq ++ rest)).drop ((l.length - (i + 1)) * 2))
 have hw1:i + (l.length - (i + 1)) = l.length - 1:=by omega
 have hw2:l.length - (l.length - 1) = 1:=by omega
 have e1:i * 2 + (l.length - (i + 1)) * 2 = (l.length - 1) * 2:=by omega
 have q2:(A ++ (X ++ (Bq ++ rest))).take (i * 2) ++ (Bq ++ (A ++ (X ++ (Bq ++ rest))).drop (i * 2 + (l.length - (i + 1)) * 2)) = A ++ (Bq ++ ((X ++ (Bq ++ rest)).drop ((l.length - (i + 1)) * 2))):=m2
 have q3:(A ++ (Bq ++ ((X ++ (Bq ++ rest)).drop ((l.length - (i + 1)) * 2)))).take (0 + (l.length - 1) * 2) ++ (zPs 1 ++ (A ++ (Bq ++ ((X ++ (Bq ++ rest)).drop ((l.length - (i + 1)) * 2)))).drop (0 + (l.length - 1) * 2 + 1 * 2)) = A ++ Bq ++ (zPs 1 ++ ((X ++ (Bq ++ rest)).drop ((l.length - (i + 1)) * 2)).drop 2):=by rw [Nat.zero_add, ← e1]; exact m3'
 have q4:i * 2 + (l.length - (i + 1)) * 2 ≤ (A ++ (X ++ (Bq ++ rest))).length:=by simp only [List.length_append]; omega
 have q5:0 + (l.length - 1) * 2 + 1 * 2 ≤ (A ++ (Bq ++ ((X ++ (Bq ++ rest)).drop ((l.length - (i + 1)) * 2)))).length:=by simp only [List.length_append, List.length_drop]; omega
 have hne3:¬ cap = 0:=by omega
 have hne4:¬ l.length = i:=by omega
 have hne5:¬ cap = l.length - 1:=by omega
 have fin:(A ++ Bq ++ (zPs 1 ++ ((X ++ (Bq ++ rest)).drop ((l.length - (i + 1)) * 2)).drop 2)).length = cap * 2:=by simp only [List.length_append, List.length_drop, zt0]; omega
 by_cases hc:cap = i + 1
 ·have hl1:l.length - (i + 1) = 0:=by omega
  have hB0:Bq = []:=List.eq_nil_of_length_eq_zero (by omega)
  have q1:((A ++ (X ++ (Bq ++ rest))).drop 0).take ((l.length - (i + 1)) * 2) = Bq:=by rw [hl1, hB0]; rfl
  refine ZaD ?_;refine Zac ?_;refine ZaQ ?_;refine z7 (zoo L i (i + 1) l.length rfl rfl rfl rfl rfl rfl rfl rfl rfl rfl rfl (by omega) (by omega) hmc) rfl ?_;refine ZU ?_;refine Zdc ?_;refine Zax ?_;refine Zu ?_;refine ZaQ ?_;refine Ze ?_;refine qg (id:=5) [(26, [900])] mixed (by kernel_rfl) ?_;refine Zi ?_;refine z8 (zbt L (kl:=.i64) (pl:=0) 0 i rfl rfl rfl rfl rfl rfl ⟨rfl, rfl⟩ (by omega) (by omega)) rfl ?_;rw [if_neg hne3, show (0 + 0 * 2:Nat) = 0 from rfl, Nat.sub_zero, Nat.sub_zero]; refine Zi ?_;refine z8 (zbt L (kh:=.i64) (ph:=0) (i + 1) _ rfl rfl rfl rfl rfl ⟨rfl, rfl⟩ rfl (by omega) (by omega)) rfl ?_;rw [if_pos hc]; refine za2 (zkp L (q:=900) rfl rfl rfl rfl rfl rfl zi4 q1 hBq (by omega) q4 hpB q2) rfl rfl ?_;rw [hw1]; refine Zdk ?_;refine Zby ?_;refine ZaQ ?_;refine Za ?_;refine z7 (zbt L (l.length - 1) l.length rfl rfl rfl rfl rfl ⟨rfl, rfl⟩ ⟨rfl, rfl⟩ (by omega) (by omega)) rfl ?_;rw [if_neg hne5, hw2]; refine zcr (zoq L (q:=900) rfl rfl rfl rfl zi4 rfl rfl (.inr q5) (fun _ => q3) (fun h => by cases h)) ?_;refine Zm ?_
  refine Z5 ?_;refine Zb ?_
  refine zcc (s:=2) (xs:=A ++ Bq) 6 900 rfl rfl rfl (by rw [List.length_append]; omega) (by omega) hcm fin ?_
  exact zk9 rfl (fun _ _ h => h) Since.refl rfl
 ·have q1:((A ++ (X ++ (Bq ++ rest))).drop (0 + (i + 1) * 2)).take ((l.length - (i + 1)) * 2) = Bq:=by rw [Nat.zero_add, Nat.add_mul]; exact m1
  refine ZaD ?_;refine Zac ?_;refine ZaQ ?_;refine z7 (zoo L i (i + 1) l.length rfl rfl rfl rfl rfl rfl rfl rfl rfl rfl rfl (by omega) (by omega) hmc) rfl ?_;refine ZU ?_;refine Zdc ?_;refine Zax ?_;refine Zu ?_;refine ZaQ ?_;refine Ze ?_;refine qg (id:=5) [(26, [900])] mixed (by kernel_rfl) ?_;refine Zi ?_;refine z8 (zbt L (kl:=.i64) (pl:=0) 0 i rfl rfl rfl rfl rfl rfl ⟨rfl, rfl⟩ (by omega) (by omega)) rfl ?_;rw [if_neg hne3, show (0 + 0 * 2:Nat) = 0 from rfl, Nat.sub_zero, Nat.sub_zero]; refine Zi ?_;refine z8 (zbt L (kh:=.i64) (ph:=0) (i + 1) _ rfl rfl rfl rfl rfl ⟨rfl, rfl⟩ rfl (by omega) (by omega)) rfl ?_;rw [if_neg hc]; refine za2 (zkp L (q:=900) rfl rfl rfl rfl rfl rfl zi4 q1 hBq (by omega) q4 hpB q2) rfl rfl ?_;rw [hw1]; refine Zdk ?_;refine Zby ?_;refine ZaQ ?_;refine Za ?_;refine z7 (zbt L (l.length - 1) l.length rfl rfl rfl rfl rfl ⟨rfl, rfl⟩ ⟨rfl, rfl⟩ (by omega) (by omega)) rfl ?_;rw [if_neg hne5, hw2]; refine zcr (zoq L (q:=900) rfl rfl rfl rfl zi4 rfl rfl (.inr q5) (fun _ => q3) (fun h => by cases h)) ?_;refine Zm ?_
  refine Z5 ?_;refine Zb ?_
  refine zcc (s:=2) (xs:=A ++ Bq) 6 900 rfl rfl rfl (by rw [List.length_append]; omega) (by omega) hcm fin ?_
  exact zk9 rfl (fun _ _ h => h) Since.refl rfl
end Go.V.L10
set_option maxRecDepth 20000
namespace Go.V.L10
open Go.Proofs Go.RowKit Go.V
theorem _root_.Go.V.ZfC {A B:Prop} (h:B) (t:Wr B → A:=by intro h; refine z7 (yx (cs:=[_, _]) rfl rfl z7u rfl rfl) rfl ?_;exact h.h):A:=t ⟨h⟩
theorem _root_.Go.V.Zd2 {A B:Prop} (h:B) (t:Wr B → A:=by intro h; refine ZH ?_;refine Zff ?_;exact h.h):A:=t ⟨h⟩
theorem _root_.Go.V.Zeo {A B:Prop} (h:B) (t:Wr B → A:=by intro h; refine Zgo ?_;refine ZaG ?_;exact h.h):A:=t ⟨h⟩
def PinP (L0:List Int) (e:Int):Value → Heap → Prop:=fun v H => ∃ s, v = .tuple #[pnv s L0.length, .int .i64 e] ∧ PsV (zad L0) s H
theorem PinP.mono {L0:List Int} {e:Int}:Kn.mono (.sat (PinP L0 e)):=fun _ _ _ ⟨s, h1, h2⟩ hle => ⟨s, h1, h2.le hle⟩
theorem zmw {l:List (Int × Int)} {i:Nat} {x:Int × Int} (h:l[i]? = some x) (rest:List Value):l.flatMap pnc ++ rest = (l.take i).flatMap pnc ++ (pnc x ++ ((l.drop (i + 1)).flatMap pnc ++ rest)):=by
 have hi:=get_lt h
 have e:l = l.take i ++ x :: l.drop (i + 1):=by
  rw [show x :: l.drop (i + 1) = l.drop i by rw [List.drop_eq_getElem_cons hi, zdg h], List.take_append_drop]
 conv => lhs; rw [e, List.flatMap_append, List.flatMap_cons]
 simp only [List.append_assoc]
theorem zx9 {l:List (Int × Int)} {i:Nat} {r c:Int} (h:l[i]? = some (r, c)) (rest:List Value):∃ t, (l.flatMap pnc ++ rest).drop (0 + i * 2 + 1) = .int .i64 c :: t:=by
 rw [zmw h rest]
 have hl:((l.take i).flatMap pnc).length = i * 2:=by rw [zdl, List.length_take, Nat.min_eq_left (Nat.le_of_lt (get_lt h))]
 refine ⟨(l.drop (i + 1)).flatMap pnc ++ rest, ?_⟩
 rw [List.drop_append, List.drop_eq_nil_of_le (by omega), List.nil_append, show 0 + i * 2 + 1 - ((l.take i).flatMap pnc).length = 1 by omega]
 rfl
theorem zu5 {l:List (Int × Int)} {i:Nat} {r c:Int} (h:l[i]? = some (r, c)) (c':Int) (rest:List Value):(l.flatMap pnc ++ rest).take (0 + i * 2 + 1) ++ ([Value.int .i64 c'] ++ (l.flatMap pnc ++ rest).drop (0 + i * 2 + 1 + 1)) = (l.set i (r, c')).flatMap pnc ++ rest:=by
 have hi:=get_lt h
 have hl:((l.take i).flatMap pnc).length = i * 2:=by rw [zdl, List.length_take, Nat.min_eq_left (Nat.le_of_lt hi)]
 have hs:(l.set i (r, c'))[i]? = some (r, c'):=by rw [List.getElem?_set_self hi]
 rw [zmw h rest, zmw hs rest, List.take_set_of_le (Nat.le_refl _), List.drop_set_of_lt (Nat.lt_succ_self i)]
 generalize (l.take i).flatMap pnc = A at hl ⊢
 generalize (l.drop (i + 1)).flatMap pnc ++ rest = T
 subst_vars
 have e1:(A ++ (pnc (r, c) ++ T)).take (0 + i * 2 + 1) = A ++ [Value.int .u64 r]:=by
  rw [List.take_append, List.take_of_length_le (by omega), show 0 + i * 2 + 1 - A.length = 1 by omega]; rfl
 have e2:(A ++ (pnc (r, c) ++ T)).drop (0 + i * 2 + 1 + 1) = T:=by
  rw [List.drop_append, List.drop_eq_nil_of_le (by omega), List.nil_append, show 0 + i * 2 + 1 + 1 - A.length = 2 by omega]; rfl
 rw [e1, e2]
 simp [pnc]
theorem zu6 {l:List (Int × Int)} {i:Nat} (h:i < l.length) (rest:List Value):Nat.ble (0 + i * 2 + 1 + 1) (l.flatMap pnc ++ rest).length = true:=Nat.ble_eq_true_of_le (by rw [List.length_append, zdl]; omega)
theorem z2h {l:List (Int × Int)} {i:Nat} {x:Int × Int} (hi:i ≤ l.length):(ztg l i x)[i]? = some x:=by
 unfold ztg; rw [List.getElem?_append_right (by rw [List.length_take]; omega), List.length_take, Nat.min_eq_left hi, Nat.sub_self]; rfl
theorem zyx {l:List (Int × Int)} {i:Nat} {x y:Int × Int} (hi:i ≤ l.length):(ztg l i x).set i y = ztg l i y:=by
 unfold ztg; rw [List.set_append_right _ _ (by rw [List.length_take]; omega), List.length_take, Nat.min_eq_left hi, Nat.sub_self]; rfl
theorem z3z {L0:List Int} (r:Int):zgx cP r (zam L0) ≤ (zad L0).length:=by rw [zbo]; exact zu2 r _
attribute [local irreducible] V N X VO Par StepOK Has Ret RetL RetO RetT zcd zd2 Src
set_option maxHeartbeats 4000000 in
set_option maxRecDepth 20000 in
theorem zyo {L0:List Int} {r:Int} (hr:r ≠ 0) (hz:L0.length ≤ 1000) {s:Value} {w:World} {B:Heap} (hB:B.Le (hp w)) (hv:PsV (zad L0) s B) :
  Ret Tryz.prog 82 [pnv s L0.length, .int .u64 r, .int .i64 1] w B (PinP (L0 ++ [r]) 0):=by
 have hz2:(zad L0).length ≤ 1000:=by rw [zbo]; exact Nat.le_trans (zbj _) hz
 have hcz:L0.count r ≤ 1000:=Nat.le_trans List.count_le_length hz
 have hws:IntKind.i64.wrap (4096 - ((L0.count r:Nat):Int)) = 4096 - ((L0.count r:Nat):Int):=zaa (by omega) (by omega)
 have hwt:IntKind.i64.wrap ((L0.length:Int) + 1) = ((L0 ++ [r]).length:Nat):=by rw [List.length_append]; exact zaa (by omega) (by omega)
 obtain ⟨p, c, rfl⟩:=zaq hv
 have hpl:=z3z (L0:=L0) r
 by_cases hm:r ∈ zam L0
 ·have hf:decide (r ∈ zam L0) = true:=decide_eq_true hm
  have hp:=zid hm
  have hpi:=get_lt hp
  have e1:=zkg (za0.1 hm)
  have hwc:IntKind.i64.wrap (((L0.count r:Nat):Int) + 1) = ((L0.count r:Nat):Int) + 1:=zaa (by omega) (by omega)
  generalize hat:zgx cP r (zam L0) = at_ at *
  refine yf Tryz.func82 rfl Tryz.ntmps82 (Nat.le_of_ble_eq_true rfl) hB ?_
  refine Zdp ?_;refine Ze ?_;refine Zdt ?_;refine Z4 ?_;refine Zbq ?_;refine Z1 ?_;refine Zc3 ?_;refine Z9 ?_;refine Zd2 ?_;refine ZbF ?_;refine zh ?_;refine Zp ?_;refine Zc4 ?_;refine z7 (zp L rfl rfl (zk rfl) rfl rfl rfl (fun u H hH hle _ => hf ▸ hat ▸ zgo (L0:=L0) (t:=L0.length) (by omega) hH (hv.le hle))) rfl ?_;refine ZcJ ?_;refine Zbz ?_;refine Zc4 ?_;refine z7 (zp L rfl rfl (zk rfl) rfl rfl rfl (fun u H hH hle _ => count_ret (by omega) hH (hv.le hle))) rfl ?_;refine Za7 ?_;refine Z7 ?_;refine Zd ?_;refine Zs ?_;refine Zc9 ?_;refine ZaY ?_;refine Zag ?_;refine Zv ?_;refine z7 (zdu L rfl rfl (zk rfl) rfl rfl rfl (fun u H hH hle _ => zh8 (by omega) hH (hv.le hle))) rfl ?_;refine qp (yq (.inr rfl) rfl rfl rfl rfl) ?_;refine ZU ?_;refine Zb5 ?_;refine Zs ?_;refine Zx ?_
  refine zg7 10 900 rfl (fun h0 _ => by omega) fun b cap rest hl hmc hcm hcl => ?_
  obtain ⟨tl, hld⟩:=zx9 hp rest
  have hst:=zu5 hp (((L0.count r:Nat):Int) + 1) rest
  have hbl:=zu6 hpi rest
  refine Zcr ?_;refine Zd ?_;refine Zeo ?_;refine yo (qq L (q:=900) rfl rfl rfl rfl rfl hld) ?_;refine Za ?_;refine ZZ ?_;refine Zeo ?_;refine zcr (yz L (q:=900) rfl rfl rfl rfl rfl rfl hbl rfl hst) ?_;refine Zm ?_
  have hln:(zad (L0 ++ [r])).length = (zad L0).length:=by rw [e1, List.length_set]
  rw [← e1]
  refine zcc (s:=2) (xs:=(zad (L0 ++ [r])).flatMap pnc) (rest:=rest) 10 900 rfl rfl rfl (by rw [zdl, hln]) hmc hcm (by rw [List.length_append, zdl, hln, ← zdl, ← List.length_append]; exact hcl) ?_
  refine zsb 10 rfl fun x H hs _ hsw => ?_
  have hsv:PsV (zad (L0 ++ [r])) x H:=by unfold PsV; rw [hln]; exact hsw.toV
  obtain ⟨p2, c2, rfl⟩:=zaq hsv
  refine Zem ?_;refine Zv ?_;refine Za ?_;refine ZZ ?_;refine ZfC ?_;refine Za0 ?_
  refine ye L (rs:=[.cell 6 74, .tmp 7]) rfl (fun _ _ h => h) hs fun u H hH hle => ?_
  exact ⟨_, yl rfl, rfl, _, rfl, hsv.le hle⟩
 ·have hf:decide (r ∈ zam L0) = false:=decide_eq_false hm
  have e1:=zpz (L:=L0) fun h => hm (za0.2 h)
  generalize hat:zgx cP r (zam L0) = at_ at *
  have e2:zad (L0 ++ [r]) = (ztg (zad L0) at_ (r, 0)).set at_ (r, 1):=by rw [zyx hpl]; exact e1
  have hp:=z2h (x:=(r, (0:Int))) hpl
  have hpi:=get_lt hp
  have hil:=zqa (x:=(r, (0:Int))) hpl
  refine yf Tryz.func82 rfl Tryz.ntmps82 (Nat.le_of_ble_eq_true rfl) hB ?_
  refine Zdp ?_;refine Ze ?_;refine Zdt ?_;refine Z4 ?_;refine Zbq ?_;refine Z1 ?_;refine Zc3 ?_;refine Z9 ?_;refine Zd2 ?_;refine ZbF ?_;refine zh ?_;refine Zp ?_;refine Zc4 ?_;refine z7 (zp L rfl rfl (zk rfl) rfl rfl rfl (fun u H hH hle _ => hf ▸ hat ▸ zgo (L0:=L0) (t:=L0.length) (by omega) hH (hv.le hle))) rfl ?_;refine ZcJ ?_;refine Zbz ?_;refine Zc4 ?_;refine z7 (zp L rfl rfl (zk rfl) rfl rfl rfl (fun u H hH hle _ => count_ret (by omega) hH (hv.le hle))) rfl ?_;refine Za7 ?_;refine Z7 ?_;refine Zd ?_;refine Zs ?_;refine Za ?_;refine Zv ?_;refine ZaQ ?_;refine ZH ?_;refine Zg ?_;refine ZaY ?_;refine Zag ?_;refine Zv ?_;refine z7 (zdu L rfl rfl (zk rfl) rfl rfl rfl (fun u H hH hle _ => zh8 (by omega) hH (hv.le hle))) rfl ?_;refine qp (yq (.inr rfl) rfl rfl rfl rfl) ?_;refine ZU ?_;refine Zb5 ?_;refine Zs ?_;refine ZW ?_;refine ZQ ?_;refine qp (yq (.inl rfl) rfl rfl rfl rfl) ?_;refine Zd ?_;refine z7 (yx (cs:=[_, _]) rfl rfl z6a rfl rfl) rfl ?_;refine Zaa ?_;refine qp (zor L (q:=51) rfl rfl rfl rfl rfl (fun u H C x hH hle hx hC v2 hv2 => ztf (y:=(r, 0)) hpl (by omega) hH hv2 hx hC)) ?_;refine qp (yq (.inr rfl) rfl rfl rfl rfl) ?_;refine Zm ?_
  rw [← hil]
  refine zg7 10 900 rfl (fun h0 _ => by omega) fun b cap rest hl hmc hcm hcl => ?_
  obtain ⟨tl, hld⟩:=zx9 hp rest
  have hst:=zu5 hp 1 rest
  have hbl:=zu6 hpi rest
  refine Zcr ?_;refine Zd ?_;refine Zeo ?_;refine yo (qq L (q:=900) rfl rfl rfl rfl rfl hld) ?_;refine Za ?_;refine Zcg ?_;refine Zeo ?_;refine zcr (yz L (q:=900) rfl rfl rfl rfl rfl rfl hbl rfl hst) ?_;refine Zm ?_
  have hln:(zad (L0 ++ [r])).length = (ztg (zad L0) at_ (r, 0)).length:=by rw [e2, List.length_set]
  rw [← e2]
  refine zcc (s:=2) (xs:=(zad (L0 ++ [r])).flatMap pnc) (rest:=rest) 10 900 rfl rfl rfl (by rw [zdl, hln]) hmc hcm (by rw [List.length_append, zdl, hln, ← zdl, ← List.length_append]; exact hcl) ?_
  refine zsb 10 rfl fun x H hs _ hsw => ?_
  have hsv:PsV (zad (L0 ++ [r])) x H:=by unfold PsV; rw [hln]; exact hsw.toV
  obtain ⟨p2, c2, rfl⟩:=zaq hsv
  refine Zem ?_;refine Zv ?_;refine Za ?_;refine ZZ ?_;refine ZfC ?_;refine Za0 ?_
  refine ye L (rs:=[.cell 6 74, .tmp 7]) rfl (fun _ _ h => h) hs fun u H hH hle => ?_
  exact ⟨_, yl rfl, rfl, _, rfl, hsv.le hle⟩
theorem z1u {L0:List Int} {r:Int} (hr:r ≠ 0) (hz:L0.length ≤ 1000) {s:Value} {w:World} {B:Heap} (hB:B.Le (hp w)) (hv:PsV (zad L0) s B) :
  Ret Tryz.prog 51 [pnv s L0.length, .int .u64 r] w B (PinP (L0 ++ [r]) 0):=by
 obtain ⟨p, c, rfl⟩:=zaq hv
 refine yf Tryz.func51 rfl Tryz.ntmps51 (Nat.le_of_ble_eq_true rfl) hB ?_
 refine Zdp ?_;refine ZS ?_;refine Zc4 ?_;refine z7 (yw L rfl rfl (zk rfl) rfl rfl rfl PinP.mono (fun u H hH hle _ => zyo hr hz hH (hv.le hle))) rfl ?_;refine zbq 8 rfl fun v1 H1 hs1 hp1 => ?_;obtain ⟨s1, rfl, hq1⟩:=hp1; obtain ⟨p1, c1, rfl⟩:=zaq hq1; refine ZdD ?_;refine Za0 ?_
 refine ye L (rs:=[.cell 4 74, .tmp 5]) rfl (fun _ _ h => h) hs1 fun u H hH hle => ?_
 exact ⟨_, yl rfl, rfl, _, rfl, hq1.le hle⟩
theorem PinP.nil {e:Int} {B:Heap}:PinP [] e (.tuple #[pnv (.slice none 0 0) 0, .int .i64 e]) B:=⟨_, rfl, SlV.nil⟩
set_option maxHeartbeats 4000000 in
set_option maxRecDepth 20000 in
theorem zud {L0 L1:List Int} {r:Int} {e:Nat} (hr:zfz L0 r = (L1, e)) (hz:L0.length ≤ 1000) {s:Value} {w:World} {B:Heap} (hB:B.Le (hp w)) (hv:PsV (zad L0) s B) :
  Ret Tryz.prog 69 [pnv s L0.length, .int .u64 r] w B (PinP L1 e):=by
 have hz2:(zad L0).length ≤ 1000:=by rw [zbo]; exact Nat.le_trans (zbj _) hz
 have hcz:L0.count r ≤ 1000:=Nat.le_trans List.count_le_length hz
 obtain ⟨p, c, rfl⟩:=zaq hv
 unfold zfz at hr
 by_cases h0:L0.count r = 0
 ·rw [if_pos h0] at hr
  cases hr
  have hm:r ∉ zam L0:=fun h => (List.count_eq_zero.1 h0) (za0.1 h)
  have hf:decide (r ∈ zam L0) = false:=decide_eq_false hm
  refine yf Tryz.func69 rfl Tryz.ntmps69 (Nat.le_of_ble_eq_true rfl) hB ?_
  refine Zdp ?_;refine ZS ?_;refine Zc4 ?_;refine z7 (zp L rfl rfl (zk rfl) rfl rfl rfl (fun u H hH hle _ => hf ▸ zgo (L0:=L0) (t:=L0.length) (by omega) hH (hv.le hle))) rfl ?_;refine ZcJ ?_;refine ZG ?_;refine Zs ?_;refine Z0 ?_;refine Zt ?_;refine ZfC ?_;refine Za0 ?_
  refine ye L (rs:=[.cell 4 74, .tmp 5]) rfl (fun _ _ h => h) Since.refl fun u H hH hle => ?_
  exact ⟨_, yl rfl, rfl, PinP.nil⟩
 ·rw [if_neg h0] at hr
  cases hr
  have hmem:r ∈ L0:=List.count_pos_iff.1 (by omega)
  have hm:r ∈ zam L0:=za0.2 hmem
  have hf:decide (r ∈ zam L0) = true:=decide_eq_true hm
  have hp:=zid hm
  have hpi:=get_lt hp
  have hL1:(L0.erase r).length = L0.length - 1:=by rw [List.length_erase_of_mem hmem]
  have hL0:0 < L0.length:=List.length_pos_of_mem hmem
  have hwt:IntKind.i64.wrap ((L0.length:Int) - 1) = ((L0.erase r).length:Nat):=by rw [hL1]; exact zaa (by omega) (by omega) |>.trans (by omega)
  have hwc:IntKind.i64.wrap (((L0.count r:Nat):Int) - 1) = ((L0.count r:Nat):Int) - 1:=zaa (by omega) (by omega)
  have e1:1 < L0.count r → zad (L0.erase r) = (zad L0).set (zgx cP r (zam L0)) (r, ((L0.count r:Nat):Int) - 1):=zh7
  have e2:L0.count r = 1 → zad (L0.erase r) = (zad L0).eraseIdx (zgx cP r (zam L0)):=zi0
  generalize hat:zgx cP r (zam L0) = at_ at *
  have hwi:IntKind.i64.wrap ((at_:Int) + 1) = ((at_ + 1:Nat):Int):=zaa (by omega) (by omega)
  refine yf Tryz.func69 rfl Tryz.ntmps69 (Nat.le_of_ble_eq_true rfl) hB ?_
  refine Zdp ?_;refine ZS ?_;refine Zc4 ?_;refine z7 (zp L rfl rfl (zk rfl) rfl rfl rfl (fun u H hH hle _ => hf ▸ hat ▸ zgo (L0:=L0) (t:=L0.length) (by omega) hH (hv.le hle))) rfl ?_;refine ZcJ ?_;refine ZG ?_;refine Zs ?_;refine Zx ?_;refine ZV ?_;refine Zv ?_;refine z7 (zdu L rfl rfl (zk rfl) rfl rfl rfl (fun u H hH hle _ => zh8 (by omega) hH (hv.le hle))) rfl ?_;refine qp (yq (.inr rfl) rfl rfl rfl rfl) ?_;refine ZU ?_
  refine zg7 8 900 rfl (fun h0 _ => by omega) fun b cap rest hl hmc hcm hcl => ?_
  obtain ⟨tl, hld⟩:=zx9 hp rest
  have hst:=zu5 hp (((L0.count r:Nat):Int) - 1) rest
  have hbl:=zu6 hpi rest
  have hp2:((zad L0).set at_ (r, ((L0.count r:Nat):Int) - 1))[at_]? = some (r, ((L0.count r:Nat):Int) - 1):=by rw [List.getElem?_set_self hpi]
  obtain ⟨tl2, hld2⟩:=zx9 hp2 rest
  have hsl:((zad L0).set at_ (r, ((L0.count r:Nat):Int) - 1)).length = (zad L0).length:=List.length_set ..
  have hcl2:(((zad L0).set at_ (r, ((L0.count r:Nat):Int) - 1)).flatMap pnc ++ rest).length = cap * 2:=by rw [List.length_append, zdl, hsl, ← zdl, ← List.length_append]; exact hcl
  have hers:((zad L0).set at_ (r, ((L0.count r:Nat):Int) - 1)).eraseIdx at_ = (zad L0).eraseIdx at_:=by rw [List.eraseIdx_set_eq]
  by_cases h1:L0.count r = 1
  ·have hz0:((L0.count r:Nat):Int) - 1 = 0:=by omega
   refine Za8 ?_;refine Zeo ?_;refine yo (qq L (q:=900) rfl rfl rfl rfl rfl hld) ?_;refine Za7 ?_;refine Zeo ?_;refine zcr (yz L (q:=900) rfl rfl rfl rfl rfl rfl hbl rfl hst) ?_;refine Zm ?_;refine Zby ?_;refine Zeo ?_;refine yo (qq L (q:=900) rfl rfl rfl rfl rfl hld2) ?_;refine Zbf ?_
   refine zcc (s:=2) (xs:=((zad L0).set at_ (r, ((L0.count r:Nat):Int) - 1)).flatMap pnc) (rest:=rest) 8 900 rfl rfl rfl (by rw [zdl, hsl]) hmc hcm hcl2 ?_
   refine Zp ?_;refine qp (yq (.inl rfl) rfl rfl rfl rfl) ?_;refine ZbJ ?_;refine qp (zor L (q:=35) rfl rfl rfl rfl rfl (fun u H C x hH hle hx hC => ztp (l:=(zad L0).set at_ (r, ((L0.count r:Nat):Int) - 1)) (by rw [hsl]; exact hpi) (by rw [hsl]; omega) rfl hH (by rw [hsl]; exact hx) hC)) ?_;refine qp (yq (.inr rfl) rfl rfl rfl rfl) ?_;refine Zm ?_
   rw [hers, hsl, ← e2 h1]
   refine zsb 8 rfl fun x H hs _ hsw => ?_
   have hsv:PsV (zad (L0.erase r)) x H:=by
    unfold PsV
    rw [show (zad (L0.erase r)).length = (zad L0).length - 1 by rw [e2 h1, List.length_eraseIdx_of_lt hpi]]
    exact hsw.toV
   obtain ⟨p2, c2, rfl⟩:=zaq hsv
   refine Zbz ?_;refine Zv ?_;refine Za7 ?_;refine ZfC ?_;refine Za0 ?_
   refine ye L (rs:=[.cell 4 74, .tmp 5]) rfl (fun _ _ h => h) hs fun u H hH hle => ?_
   exact ⟨_, yl rfl, rfl, _, rfl, hsv.le hle⟩
  ·have hz0:((L0.count r:Nat):Int) - 1 ≠ 0:=by omega
   refine Za8 ?_;refine Zeo ?_;refine yo (qq L (q:=900) rfl rfl rfl rfl rfl hld) ?_;refine Za7 ?_;refine Zeo ?_;refine zcr (yz L (q:=900) rfl rfl rfl rfl rfl rfl hbl rfl hst) ?_;refine Zm ?_;refine Zby ?_;refine Zeo ?_;refine yo (qq L (q:=900) rfl rfl rfl rfl rfl hld2) ?_;refine Zax ?_
   refine zcc (s:=2) (xs:=((zad L0).set at_ (r, ((L0.count r:Nat):Int) - 1)).flatMap pnc) (rest:=rest) 8 900 rfl rfl rfl (by rw [zdl, hsl]) hmc hcm hcl2 ?_
   rw [← e1 (by omega)] at hsl ⊢
   refine zsb 8 rfl fun x H hs _ hsw => ?_
   have hsv:PsV (zad (L0.erase r)) x H:=by unfold PsV; rw [hsl]; exact hsw.toV
   obtain ⟨p2, c2, rfl⟩:=zaq hsv
   refine Zbz ?_;refine Zv ?_;refine Za7 ?_;refine ZfC ?_;refine Za0 ?_
   refine ye L (rs:=[.cell 4 74, .tmp 5]) rfl (fun _ _ h => h) hs fun u H hH hle => ?_
   exact ⟨_, yl rfl, rfl, _, rfl, hsv.le hle⟩
end Go.V.L10
set_option maxRecDepth 20000
namespace Go.V.L10
open Go.Proofs Go.RowKit Go.V Go.V.L2 Go.V.L8 Go.V.L6
theorem _root_.Go.V.Zd3 {A B:Prop} (h:B) (t:Wr B → A:=by intro h; refine zb8 900 901 rfl rfl (za4 _) ?_;exact h.h):A:=t ⟨h⟩
theorem _root_.Go.V.Zep {A B:Prop} (h:B) (t:Wr B → A:=by intro h; refine zhr 900 901 rfl (za4 _) ?_;exact h.h):A:=t ⟨h⟩
theorem _root_.Go.V.ZaH {A B:Prop} (h:B) (t:Wr B → A:=by intro h; refine Zcd ?_;refine ZfB ?_;exact h.h):A:=t ⟨h⟩
abbrev tyS:TypeId:=94
abbrev Ent:=List (Int × (List U × Value))
abbrev vcE (p:List U × Value):Value:=p.2
abbrev stc (n m:Nat) (s:Value) (t:Nat):List Value:=[.int .u64 n, .map (some m), s, .int .i64 t]
abbrev StO (b n m:Nat) (s:Value) (t:Nat) (es:Ent):GR:=zcy (zab b (stc n m s t) tyS) (z5z m .u64 vcE es)
theorem zew (b n m:Nat) (s:Value) (t:Nat) (es:Ent):(StO b n m s t es).res = zg9 (zan b (stc n m s t) tyS) (zla m .u64 vcE es):=rfl
def EsV (es:Ent) (H:Heap):Prop:=∀ e ∈ es, SetV e.2.1 e.2.2 H
theorem EsV.le {es:Ent} {H H':Heap} (h:EsV es H) (hle:H.Le H'):EsV es H':=fun e he => (h e he).le hle
theorem ziu {b:Nat} {cs:List Value} {ty:TypeId}:∀ v H u C, (zan b cs ty).P v H u C → joinH H u C b = some (.cells cs.toArray ty):=fun _ _ _ _ ⟨hb, hC⟩ => (zfk ((hC b).2 rfl)).trans hb
theorem z3j {P:Program} (L:Tabs P) {e:TypeId} {z:Value} (hz:L.zr e = some z) (w:World):(zeroValue e).run P w = .ok z w:=by
 have h:=Tabs.zr_spec hz
 unfold zrI at h
 split at h
 ·rename_i it hit; simp [zeroValue, typeInfo, hit, h]
 ·cases h
abbrev z7r:TypeId:=92
abbrev zxi:TypeId:=45
theorem mpS:Tryz.prog.underlying z7r = some (.map zjs zxi):=by kernel_rfl
theorem kyS:Tryz.prog.underlying zjs = some (.int .u64):=by kernel_rfl
theorem zrS (w:World):(zeroValue zxi).run Tryz.prog w = .ok nilSet w:=z3j L rfl w
attribute [local irreducible] V N X VO Par StepOK Has Ret RetL RetO RetT zcd zd2 RetY Src
theorem zcw {b n:Nat} {rest:List Value} (hn:n ≠ 0) {w:World} {B:Heap} (hb:B b = some (.cells (Value.int .u64 n :: rest).toArray tyS)) (hB:B.Le (hp w)) :
  Ret Tryz.prog 43 [.pointer (some ⟨b, 0, none⟩)] w B (fun v _ => v = .bool false):=by
 refine yf Tryz.func43 rfl Tryz.ntmps43 (Nat.le_of_ble_eq_true rfl) hB ?_
 refine ZbW ?_;refine z7 (zgy rfl rfl rfl rfl z6f rfl) rfl ?_;refine Zd ?_;refine Zce ?_;refine ZH ?_;refine Zg ?_;refine Zb ?_
 refine ye L (rs:=[.tmp 2]) rfl (fun _ _ h => h) Since.refl fun u H hH hle => ?_
 rfl
theorem zcb {b n:Nat} {rest:List Value} (hn:n ≠ 0) {w:World} {B:Heap} (hb:B b = some (.cells (Value.int .u64 n :: rest).toArray tyS)) (hB:B.Le (hp w)) :
  Ret Tryz.prog 15 [.pointer (some ⟨b, 0, none⟩)] w B (fun v _ => v = .int .u64 n):=by
 refine yf Tryz.func15 rfl Tryz.ntmps15 (Nat.le_of_ble_eq_true rfl) hB ?_
 refine Zbx ?_;refine z7 (zp L rfl rfl (zk rfl) rfl rfl rfl (fun u H hH hle _ => zcw hn (hle _ _ hb) hH)) rfl ?_;refine Zx ?_;refine Z1 ?_;refine Zce ?_;refine Zb ?_
 refine ye L (rs:=[.tmp 2]) rfl (fun _ _ h => h) Since.refl fun u H hH hle => ?_
 rfl
theorem pins_ret {b n m t:Nat} {s:Value} (hs:∃ p k c, s = .slice p k c) (hn:n ≠ 0) {w:World} {B:Heap} (hb:B b = some (.cells (stc n m s t).toArray tyS)) (hB:B.Le (hp w)) :
  Ret Tryz.prog 25 [.pointer (some ⟨b, 0, none⟩)] w B (fun v _ => v = pnv s t):=by
 obtain ⟨p, k, c, rfl⟩:=hs
 refine yf Tryz.func25 rfl Tryz.ntmps25 (Nat.le_of_ble_eq_true rfl) hB ?_
 refine ZcL ?_;refine ZU ?_;refine Zae ?_;refine Za ?_;refine z7 (zp L rfl rfl (zk rfl) rfl rfl rfl (fun u H hH hle _ => zcw hn (hle _ _ hb) hH)) rfl ?_;refine Zx ?_;refine Z1 ?_;refine Zcd ?_;refine z7 (zw L (vs:=[_, _]) (ya rfl (by assumption)) rfl rfl rfl rfl ⟨_, rfl⟩) rfl ?_;refine Zbg ?_
 refine ye L (rs:=[.cell 2 74]) rfl (fun _ _ h => h) Since.refl fun u H hH hle => ?_
 exact ⟨_, yl rfl, rfl, rfl⟩
set_option maxHeartbeats 1000000 in
theorem zf0 {S:Sto} {b m t:Nat} {s:Value} {es:Ent} {r:Int} (hm:MapOK es S.R) (hn:S.R.length ≠ 0) {w:World} {B:Heap} {C:Nat → Prop} (hes:EsV es B) (hB:B.Le (hp w)) (hr:(StO b S.R.length m s t es).P B w C) (hC:∀ k, C k → k < w.heap.size ∧ B k = none) :
  RetY Tryz.prog 13 [.pointer (some ⟨b, 0, none⟩), .int .u64 r] w B C (StO b S.R.length m s t es) (WithP (atS S r).1 (atS S r).2):=by
 unfold RetY
 refine zau 900 (StO b S.R.length m s t es) Tryz.func13 rfl Tryz.ntmps13 (Nat.le_of_ble_eq_true rfl) hB hr hC ?_
 rw [zew]
 refine Zep ?_
 obtain ⟨k, hk⟩:∃ k, k = if r = 0 then (S.R.length:Int) else r:=⟨_, rfl⟩
 have hat:atS S r = match kpt S.R k with | some t => (t, 0) | none => ([], 14):=by rw [hk]; rfl
 have hg:=hm.get k
 by_cases hr0:r = 0
 ·rw [if_pos hr0] at hk
  subst hr0
  subst hk
  cases hgk:zdi (S.R.length:Int) es with
  | none =>
   rw [hgk] at hg
   rw [hat, ← hg]
   have q1:(zdi (S.R.length:Int) es).elim nilSet vcE = nilSet:=by rw [hgk]; rfl
   have q2:(zdi (S.R.length:Int) es).isSome = false:=by rw [hgk]; rfl
   refine ZcL ?_;refine ZN ?_;refine yo (zak L 900 (Φ:=fun H => H b = some (.cells (stc S.R.length m s t).toArray tyS)) (c:=.bool false) rfl rfl (zk rfl) rfl rfl rfl rfl rfl ziu (fun u H hH hle hb => zcw hn hb hH)) ?_;refine Zr ?_;refine Z1 ?_;refine Zbf ?_;refine Zu ?_;refine ZaH ?_;refine Ze ?_;refine Z9 ?_;refine ZaH ?_;refine Za ?_;refine yo (zc6 (q:=901) (vc:=vcE) (S.R.length:Int) mpS kyS zrS rfl rfl rfl rfl rfl q1 q2) ?_;refine Zaz ?_;refine ZX ?_;refine Zdr ?_;refine Zs ?_;refine Z0 ?_;refine Zp ?_;refine Ze6 ?_;refine Za0 ?_
   refine Zd3 ?_
   exact zbp L 900 (r:=StO b S.R.length m s t es) (rs:=[.cell 4 45, .tmp 5]) rfl (fun _ _ h => h) Since.refl rfl rfl (fun H hle => ⟨_, yl rfl, rfl, _, rfl, SetV.nil⟩)
  | some x =>
   obtain ⟨l, sv⟩:=x
   rw [hgk] at hg
   rw [hat, ← hg]
   have hx:SetV l sv B:=hes _ (zfg hgk)
   obtain ⟨f1, p1, f2, p2, rfl, hpl⟩:=hx.shape
   have q1:(zdi (S.R.length:Int) es).elim nilSet vcE = .agg #[f1, .pointer p1, f2, .pointer p2]:=by rw [hgk]; rfl
   have q2:(zdi (S.R.length:Int) es).isSome = true:=by rw [hgk]; rfl
   refine ZcL ?_;refine ZN ?_;refine yo (zak L 900 (Φ:=fun H => H b = some (.cells (stc S.R.length m s t).toArray tyS)) (c:=.bool false) rfl rfl (zk rfl) rfl rfl rfl rfl rfl ziu (fun u H hH hle hb => zcw hn hb hH)) ?_;refine Zr ?_;refine Z1 ?_;refine Zbf ?_;refine Zu ?_;refine ZaH ?_;refine Ze ?_;refine Z9 ?_;refine ZaH ?_;refine Za ?_;refine yo (zc6 (q:=901) (vc:=vcE) (S.R.length:Int) mpS kyS zrS rfl rfl rfl rfl rfl q1 q2) ?_;refine ZbM ?_;refine Zdr ?_;refine Zs ?_;refine Zx ?_;refine Z8 ?_;refine ZaO ?_;refine ZeO ?_;refine Zb ?_
   refine Zd3 ?_
   exact zbp L 900 (r:=StO b S.R.length m s t es) (rs:=[.cell 4 45, .tmp 5]) rfl (fun _ _ h => h) Since.refl rfl rfl (fun H hle => ⟨_, yl rfl, rfl, _, rfl, hx.le hle⟩)
 ·rw [if_neg hr0] at hk
  subst hk
  cases hgk:zdi k es with
  | none =>
   rw [hgk] at hg
   rw [hat, ← hg]
   have q1:(zdi k es).elim nilSet vcE = nilSet:=by rw [hgk]; rfl
   have q2:(zdi k es).isSome = false:=by rw [hgk]; rfl
   refine ZcL ?_;refine ZN ?_;refine yo (zak L 900 (Φ:=fun H => H b = some (.cells (stc S.R.length m s t).toArray tyS)) (c:=.bool false) rfl rfl (zk rfl) rfl rfl rfl rfl rfl ziu (fun u H hH hle hb => zcw hn hb hH)) ?_;refine Zr ?_;refine Z1 ?_;refine Zax ?_;refine Z9 ?_;refine ZaH ?_;refine Za ?_;refine yo (zc6 (q:=901) (vc:=vcE) k mpS kyS zrS rfl rfl rfl rfl rfl q1 q2) ?_;refine Zaz ?_;refine ZX ?_;refine Zdr ?_;refine Zs ?_;refine Z0 ?_;refine Zp ?_;refine Ze6 ?_;refine Za0 ?_
   refine Zd3 ?_
   exact zbp L 900 (r:=StO b S.R.length m s t es) (rs:=[.cell 4 45, .tmp 5]) rfl (fun _ _ h => h) Since.refl rfl rfl (fun H hle => ⟨_, yl rfl, rfl, _, rfl, SetV.nil⟩)
  | some x =>
   obtain ⟨l, sv⟩:=x
   rw [hgk] at hg
   rw [hat, ← hg]
   have hx:SetV l sv B:=hes _ (zfg hgk)
   obtain ⟨f1, p1, f2, p2, rfl, hpl⟩:=hx.shape
   have q1:(zdi k es).elim nilSet vcE = .agg #[f1, .pointer p1, f2, .pointer p2]:=by rw [hgk]; rfl
   have q2:(zdi k es).isSome = true:=by rw [hgk]; rfl
   refine ZcL ?_;refine ZN ?_;refine yo (zak L 900 (Φ:=fun H => H b = some (.cells (stc S.R.length m s t).toArray tyS)) (c:=.bool false) rfl rfl (zk rfl) rfl rfl rfl rfl rfl ziu (fun u H hH hle hb => zcw hn hb hH)) ?_;refine Zr ?_;refine Z1 ?_;refine Zax ?_;refine Z9 ?_;refine ZaH ?_;refine Za ?_;refine yo (zc6 (q:=901) (vc:=vcE) k mpS kyS zrS rfl rfl rfl rfl rfl q1 q2) ?_;refine ZbM ?_;refine Zdr ?_;refine Zs ?_;refine Zx ?_;refine Z8 ?_;refine ZaO ?_;refine ZeO ?_;refine Zb ?_
   refine Zd3 ?_
   exact zbp L 900 (r:=StO b S.R.length m s t es) (rs:=[.cell 4 45, .tmp 5]) rfl (fun _ _ h => h) Since.refl rfl rfl (fun H hle => ⟨_, yl rfl, rfl, _, rfl, hx.le hle⟩)
end Go.V.L10
set_option maxRecDepth 20000
namespace Go.V
open Go.RowKit
def SlX (e:TypeId) (s cap n:Nat) (xs:List Value):Res where
 P x _ u C:=xs.length = n * s ∧ ∃ b rest, x = .slice (some ⟨b, 0, none⟩) n cap ∧ u.heap[b]? = some (.cells (xs ++ rest).toArray e) ∧ n ≤ cap ∧ cap ≤ maxLen ∧ (xs ++ rest).length = cap * s ∧ ∀ k, C k ↔ k = b
 st:=fun ⟨hl, b, rest, h1, h2, h3, h4, h5, h6⟩ _ _ _ hk => ⟨hl, b, rest, h1, (hk b ((h6 b).2 rfl)).trans h2, h3, h4, h5, h6⟩
section
variable {P:Program} {F:Fr} {B:Heap} {O:Boxes} {n:Nat} {ops:Array Oper} {κ:Kap} {d:Nat} {ty:TypeId} {pos:String} {aft:Array Edge} {g:Option (Nat × Bool)} {Q:Exit → Act → World → Prop}
theorem zvm (L:Tabs P) {t e:TypeId} {x y:Operand} {kl kc:IntKind} {s by_:Nat} (c:Nat) {p:Int} (hn:Nat.blt d n = true) (hg:gK ops κ ⟨some d, .makeSlice t x y, ty, pos, aft, g⟩ = some true) (ht:L.sl t = some e) (he:elI P e = some (s, by_))
  (hx:evK κ x = some (.int kl 0)) (hy:evK κ y = some (.int kc p)) (hp:p = c) (hb:by_ * c ≤ 281474976710656) (hc:c ≤ maxLen):StepOK P F B n ops O κ ⟨some d, .makeSlice t x y, ty, pos, aft, g⟩ d (.own (SlX e s c 0 [])):=by
 rintro κ' a u hl ⟨H, fp, hh⟩
 unfold After
 rw [if_pos (zag hh hl hg)]
 have en:=hh.env hl
 obtain ⟨i, z, hi, hz, hs1, hs2, hs3, hs4⟩:=zcf he
 have h1:=en.is_ x _ (by simp [Op.operands]) hx
 have h2:=en.is_ y _ (by simp [Op.operands]) hy
 subst hp
 have hb':(i.bytes:Int) * (c:Int) ≤ 281474976710656:=by
  have h:((by_ * c:Nat):Int) ≤ 281474976710656:=by omega
  rw [hs2]; rwa [Int.natCast_mul] at h
 have h63:(c:Int) ≤ 9223372036854775807:=by simp [maxLen] at hc; omega
 have hr:=run_make (P:=P) u t e i z (Tabs.sl_spec ht) hi hz kl kc 0 c (Int.le_refl _) (by omega) hb' h63
 simp only [Int.toNat_zero, Int.toNat_natCast] at hr
 have hrun:(execOp a.eval ⟨some d, .makeSlice t x y, ty, pos, aft, g⟩).run P u = .ok (.value (.slice (some ⟨u.heap.size, 0, none⟩) 0 c)) (u.alloc (.cells (madeCells z.cells (c * i.size)) e)):=by
  simp only [execOp, h1, h2, Sem.run_bind, hr, Result.andThen_ok]; rfl
 rw [hrun]
 simp only [Upon]
 have hg2:=hh.grow (Grow.hid hh.sub (.cells (madeCells z.cells (c * i.size)) e))
 refine ⟨H, _, hg2.putR (C:=fun k => k = u.heap.size) (by simp [Act.put]) rfl (fun t ht => zap ht) ⟨by simp, u.heap.size, (madeCells z.cells (c * i.size)).toList, zar (by rw [hh.size]; exact zk hn), by rw [zao]; simp, Nat.zero_le _, hc, by simp [size_madeCells, hs1], fun _ => Iff.rfl⟩ (fun k hk => ?_) fun t r' _ ht k hf hk => ?_⟩
 ·subst hk
  exact ⟨zai (zao u _), zbd hh.sub (Nat.le_refl _), .inl hh.keep.size, fun y hy e => by have:=zai (hh.boxes y hy).1; omega⟩
 ·have:=((hh.slot t _ ht).2 k hf).1
  omega
theorem zzw (t q:Nat) {e:TypeId} {s cap m:Nat} {xs:List Value} {c:Code} (hk:κ t = some (.own (SlX e s cap m xs)))
  (h:∀ b rest, xs.length = m * s → m ≤ cap → cap ≤ maxLen → (xs ++ rest).length = cap * s → V P F B n O (upd (upd (upd κ t zec) q (.own (zan b (xs ++ rest) e))) t (.is (.slice (some ⟨b, 0, none⟩) m cap))) c Q):V P F B n O κ c Q:=fun a u hh => by
 obtain ⟨H, fp, hh⟩:=hh
 obtain ⟨⟨hl, b, rest, hv, hb, h3, h4, h5, hC⟩, hM⟩:=hh.slot t _ hk
 have h2:=hh.usePut (d:=q) (a':=a) (r':=zan b (xs ++ rest) e) (C:=fp t) hk ⟨Keep.refl _ _, hh.sub, Heap.Le.refl _, fun _ _ _ => rfl⟩ rfl rfl (fun _ _ => rfl) ⟨hb, hC⟩ fun k hk => ⟨.inl hk, (hM k hk).1, (hM k hk).2.1⟩
 have h3':=h2.name t
 rw [hv] at h3'
 exact h b rest hl h3 h4 h5 a u ⟨H, _, h3'⟩
theorem zp4 (L:Tabs P) {q b nn cap m:Nat} {x y:Operand} {t e:TypeId} {s by_:Nat} {cur news cur':List Value} (hn:Nat.blt d n = true) (hg:gK ops κ ⟨some d, .call ⟨.builtin .append, #[x, y], #[t, t]⟩, ty, pos, aft, g⟩ = some true)
  (hx:evK κ x = some (.slice (some ⟨b, 0, none⟩) nn cap)) (hq:κ q = some (.own (zan b cur e))) (hy:Apd F B O κ y m news) (ht:L.sl t = some e) (he:elI P e = some (s, by_)) (hm:0 < m) (hnl:news.length = m * s) (hroom:nn + m ≤ cap) (hcl:nn * s + m * s ≤ cur.length) (h1:news.all zbs = true)
  (hr:cur.take (nn * s) ++ (news ++ cur.drop (nn * s + m * s)) = cur') :
  StepOK2 P F B n ops O κ ⟨some d, .call ⟨.builtin .append, #[x, y], #[t, t]⟩, ty, pos, aft, g⟩ q (.own (zan b cur' e)) d (.is (.slice (some ⟨b, 0, none⟩) (nn + m) cap)):=by
 rintro κ' a u hlk hks ⟨H, fp, hh⟩
 unfold After
 rw [if_pos (zag hh hlk hg)]
 have en:=hh.env hlk
 have hk':κ' q = some (.own (zan b cur e)):=hks.trans hq
 have hxe:=en.is_ x _ (by simp [Op.operands, Call.operands]) hx
 obtain ⟨⟨hb, hC⟩, hM⟩:=hh.slot q _ hk'
 obtain ⟨i, z, hi, hz, hs1, hs2, hs3, hs4⟩:=zcf he
 subst hs1
 rcases hy _ a u H fp (by simp [Op.operands, Call.operands]) en with ⟨h0, _⟩ | ⟨ad, c', hye, hcy⟩
 ·omega
 have hrun0:=run_append_room (P:=P) u t ty e i (Tabs.sl_spec ht) hi b nn cap cur.toArray hb ad m c' news hnl hcy (fun v hv => zdf (List.all_eq_true.1 h1 v hv)) hroom (by rw [hnl]; simpa using hcl)
 rw [hnl] at hrun0
 simp only [List.append_assoc] at hrun0
 rw [hr] at hrun0
 have hrun:(execOp a.eval ⟨some d, .call ⟨.builtin .append, #[x, y], #[t, t]⟩, ty, pos, aft, g⟩).run P u = .ok (.value (.slice (some ⟨b, 0, none⟩) (nn + m) cap)) (u.setRow b cur'.toArray):=by
  simp only [execOp, resolve, invoke, builtin, Sem.run_bind, Sem.run_pure, Result.andThen_ok, List.map_toArray, List.map_cons, List.map_nil, hxe, hye, hrun0]
 rw [hrun]
 simp only [Upon]
 have hbm:=hM b ((hC b).2 rfl)
 have h2:=hh.usePut (d:=q) (a':=a) (r':=zan b cur' e) (C:=fun k => k = b) hk' (zbu hh.sub hb ((hC b).2 rfl) hbm.2.1 _) rfl rfl (fun _ _ => rfl) ⟨setRow_heap u b cur.toArray cur'.toArray e (0, 0) hb, fun _ => Iff.rfl⟩ (fun k hk => by
  subst hk; exact ⟨.inl ((hC k).2 rfl), by rw [setRow_size]; exact hbm.1, hbm.2.1⟩)
 rw [zbf] at h2
 exact ⟨H, _, h2.put (k:=.is _) (zk hn) trivial rfl⟩
end
end Go.V
set_option maxRecDepth 20000
namespace Go.V.L10
open Go.Proofs Go.RowKit Go.V Go.V.L2 Go.V.L8 Go.V.L6
theorem zxy {R:List (Option (List U))} {es:Ent} (hm:MapOK es R) {out:List Int} (hp:out.Perm (es.map Prod.fst)):(Go.Sort.sort So.lt out.toArray).toList = zas R:=by
 have h1:(Go.Sort.sort So.lt out.toArray).toList = out.mergeSort (fun x y => decide (x ≤ y)):=Go.Sort.sortInt out
 rw [h1]
 have hperm:=List.mergeSort_perm out (fun x y => decide (x ≤ y))
 have hnd:(out.mergeSort (fun x y => decide (x ≤ y))).Nodup:=(hperm.trans hp).nodup_iff.2 hm.nd
 have hs:(out.mergeSort (fun x y => decide (x ≤ y))).Pairwise fun a b => decide (a ≤ b) = true:=List.pairwise_mergeSort (le:=fun x y:Int => decide (x ≤ y)) (fun a b c h1 h2 => by simp at h1 h2 ⊢; omega) (fun a b => by simp; omega) out
 refine zex zcg ?_ (zf2 R) fun z => ?_
 ·refine (List.Pairwise.and hs hnd).imp ?_
  rintro a b ⟨h2, h3⟩
  have h4:a ≤ b:=by simpa using h2
  have h5:a ≠ b:=h3
  exact ztu.2 (by omega)
 ·rw [(hperm.trans hp).mem_iff, hm.mem]
theorem zl9 {α:Type}:∀ {l:List α} {j:Nat} {x:α}, l[j]? = some x → (x :: l.eraseIdx j).Perm l
 | [], _, _, h => by cases h
 | y :: l, 0, x, h => by cases h; exact List.Perm.refl _
 | y :: l, j + 1, x, h => by
  have:=zl9 (l:=l) (j:=j) (x:=x) (by simpa using h)
  exact (List.Perm.swap y x _).trans (this.cons y)
theorem zwb {left:Ent} {j:Nat} {p:Int × (List U × Value)} (h:left[j]? = some p) (out:List Int):(out ++ [p.1] ++ (left.eraseIdx j).map Prod.fst).Perm (out ++ left.map Prod.fst):=by
 have h1:(p :: left.eraseIdx j).Perm left:=zl9 h
 rw [List.append_assoc]
 refine List.Perm.append_left out ?_
 simpa using h1.map Prod.fst
attribute [local irreducible] V N X VO Par StepOK Has Ret RetL RetO RetT zcd zd2 RetY Src
abbrev z5s (R:List (Option (List U))):Res:=SlE zjs 1 (zas R).length ((zas R).map (Value.int .u64))
set_option maxHeartbeats 2000000 in
set_option maxRecDepth 10000 in
theorem zfi {R:List (Option (List U))} {b m t:Nat} {s:Value} {es:Ent} (hm:MapOK es R) (hn:R.length ≠ 0) (hz:es.length ≤ 100000) {w:World} {B:Heap} {C:Nat → Prop} (hB:B.Le (hp w)) (hr:(StO b R.length m s t es).P B w C) (hC:∀ k, C k → k < w.heap.size ∧ B k = none) :
  RetT Tryz.prog 12 [.pointer (some ⟨b, 0, none⟩)] w B C (zg9 (z5s R) (StO b R.length m s t es).res):=by
 have hlen:=hm.len
 rw [show z5s R = SlE zjs 1 es.length ((zas R).map (Value.int .u64)) by rw [hlen]]
 unfold RetT
 refine zau 900 (StO b R.length m s t es) Tryz.func12 rfl Tryz.ntmps12 (Nat.le_of_ble_eq_true rfl) hB hr hC ?_
 rw [zew]
 refine Zep ?_
 refine Zbx ?_;refine yo (zak L 900 (Φ:=fun H => H b = some (.cells (stc R.length m s t).toArray tyS)) (c:=.bool false) rfl rfl (zk rfl) rfl rfl rfl rfl rfl ziu (fun u H hH hle hb => zcw hn hb hH)) ?_;refine Zx ?_;refine Z1 ?_;refine ZaH ?_;refine yo (zp3 (q:=901) (vc:=vcE) mpS rfl rfl rfl rfl rfl) ?_;refine z7 (zvm L es.length rfl rfl rfl zzb rfl rfl rfl (by omega) (by unfold maxLen; omega)) rfl ?_;refine qp (yq (.inr rfl) rfl rfl rfl rfl) ?_;refine ZU ?_
 refine zzw 3 902 rfl fun b3 rest0 _ _ hcm hcl0 => ?_
 refine Zu ?_;refine ZaH ?_;refine qp (zvi (q:=901) (vc:=vcE) mpS rfl rfl rfl rfl) ?_;refine ZeV ?_
 refine zal (fun T:(List Int × List Value) × Ent => [(3, .is (.slice (some ⟨b3, 0, none⟩) T.1.1.length es.length)), (17, .own (zz0 m .u64 vcE es T.2)), (900, .own (zan b (stc R.length m s t) tyS)), (902, .own (zan b3 (T.1.1.map (Value.int .u64) ++ T.1.2) zjs))])
  (fun T => (T.1.1 ++ T.2.map Prod.fst).Perm (es.map Prod.fst) ∧ (T.1.1.map (Value.int .u64) ++ T.1.2).length = es.length * 1) (fun T => T.2.length) (([], rest0), es) ⟨List.Perm.refl _, hcl0⟩ ⟨rfl, rfl, rfl, rfl, trivial⟩ ?_
 rintro ⟨⟨out, rest⟩, left⟩ ⟨hp, hcl⟩
 dsimp only at hp hcl ⊢
 have hpl:=hp.length_eq
 rw [List.length_append, List.length_map, List.length_map] at hpl
 by_cases hl:left = []
 ·subst hl
  rw [List.map_nil, List.append_nil] at hp
  have hol:out.length = es.length:=by simpa using hpl
  have hr0:rest = []:=List.eq_nil_of_length_eq_zero (by rw [List.length_append, List.length_map] at hcl; omega)
  subst hr0
  rw [hol]
  have hsk:=zxy hm hp
  refine zh ?_;refine Zo ?_;refine z7 (zvj rfl rfl rfl rfl rfl) rfl ?_;refine ZeZ ?_;refine Zg2 ?_;refine zh ?_
  refine z5j 17 901 rfl ?_
  refine Zbz ?_;refine qp (za5 L 902 (zab b3 ((zas R).map (Value.int .u64) ++ []) So.tyU) (r:=zab b3 (out.map (Value.int .u64) ++ []) So.tyU) rfl rfl rfl rfl rfl (fun u H C hH _ hr hC => by have h:=So.sortU_ret (d:=out.toArray) (rest:=[]) (b:=b3) (m:=es.length) (cap:=es.length) (by simpa using hol) hz hH hr hC; unfold uC at h; rw [hsk] at h; exact h)) ?_;refine Zm ?_
  rw [za6, show (zas R).map (Value.int .u64) ++ [] = (zas R).map (Value.int .u64) from List.append_nil _]
  refine z0z (s:=1) 3 902 rfl rfl (by rw [List.length_map, hlen, Nat.mul_one]) (by unfold maxLen; omega) ?_
  refine ZM ?_;refine qp (yq (.inl rfl) rfl rfl rfl rfl) ?_;refine qp (yq (.inr rfl) rfl rfl rfl rfl) ?_;refine Z6 ?_
  refine Zd3 ?_
  refine zb8 2 900 rfl rfl (za4 (StO b R.length m s t es)) ?_
  exact zk9 rfl (fun _ _ h => h) Since.refl rfl
 ·have hll:0 < left.length:=List.length_pos_iff.2 hl
  have hroom:out.length + 1 ≤ es.length:=by omega
  have hrl:0 < rest.length:=by rw [List.length_append, List.length_map] at hcl; omega
  have hcl2:out.length * 1 + 1 * 1 ≤ (out.map (Value.int .u64) ++ rest).length:=by rw [hcl]; omega
  have hrr:∀ k:Int, (out.map (Value.int .u64) ++ rest).take (out.length * 1) ++ ([Value.int .u64 k] ++ (out.map (Value.int .u64) ++ rest).drop (out.length * 1 + 1 * 1)) = (out ++ [k]).map (Value.int .u64) ++ rest.drop 1:=fun k => by
   have e1:(out.map (Value.int .u64)).length = out.length * 1:=by simp
   rw [← e1, List.take_append, List.take_of_length_le (Nat.le_refl _), Nat.sub_self, List.take_zero, List.append_nil, List.drop_append, List.drop_eq_nil_of_le (by omega), List.nil_append, show (out.map (Value.int .u64)).length + 1 * 1 - (out.map (Value.int .u64)).length = 1 by omega]
   simp
  refine zh ?_;refine Zo ?_;refine zxo rfl rfl hl rfl rfl rfl (fun j p hjp => ?_); refine ZeZ ?_;refine Zg0 ?_;refine Zf6 ?_;refine Zz ?_;refine z7 (zvq rfl rfl rfl) rfl ?_;refine ZeZ ?_;refine Zb ?_;refine ZcM ?_;refine Zaa ?_;refine qp (zp4 L (q:=902) rfl rfl rfl rfl (zhq rfl) rfl zzb (by omega) rfl hroom hcl2 rfl (hrr _)) ?_;refine Za3 ?_
  refine z25 17 (zz0 m .u64 vcE es (left.eraseIdx j)) rfl z3v ?_
  exact yi (x:=((out, rest), left)) ((out ++ [p.1], rest.drop 1), left.eraseIdx j) ⟨(zwb hjp out).trans hp, by
   dsimp only
   rw [List.length_append, List.length_map, List.length_append, List.length_drop]
   rw [List.length_append, List.length_map] at hcl
   simp only [List.length_cons, List.length_nil]
   omega⟩ (by dsimp only; rw [List.length_eraseIdx_of_lt (get_lt hjp)]; omega) ⟨by rw [List.length_append]; rfl, rfl, rfl, rfl, trivial⟩
end Go.V.L10
set_option maxRecDepth 20000
namespace Go.V
open Go.RowKit
section
variable {P:Program} {F:Fr} {B:Heap} {O:Boxes} {n:Nat} {ops:Array Oper} {κ:Kap} {d:Nat} {ty:TypeId} {pos:String} {aft:Array Edge} {g:Option (Nat × Bool)} {Q:Exit → Act → World → Prop}
theorem zqs {κ:Kap} {q:Nat} {k:Kn} (h:κ q = some k):upd κ q k = κ:=by
 funext t
 by_cases e:t = q
 ·subst e; rw [zaf]; exact h.symm
 ·rw [zac _ _ e]
theorem zaz (L:Tabs P) (q:Nat) (φ:Value → Heap → Prop) {r:GR} {f:Nat} {args:Array Operand} {at_:Array TypeId} {cap:List Value} {fo:Operand}
  (hn:Nat.blt d n = true) (hg:gK ops κ ⟨some d, .call { callee:=.value fo, args:=args, argTypes:=at_ }, ty, pos, aft, g⟩ = some true)
  (hf:evK κ fo = some (.func (.func f) #[] cap.toArray)) (hfn:L.fn f = some ()) (hq:κ q = some (.own r.res)) (hm:Kn.mono (.sat φ))
  (h:∀ u H C, H.Le (hp u) → B.Le H → r.P H u C → (∀ k, C k → k < u.heap.size ∧ H k = none) → Args κ H args.toList [] (fun vs => RetY P f (vs ++ cap) u H C r φ)) :
  zdr P F B n ops O κ ⟨some d, .call { callee:=.value fo, args:=args, argTypes:=at_ }, ty, pos, aft, g⟩ q d (.sat φ):=by
 rintro κ' a u hlk hks ⟨H, fp, hh⟩
 unfold After
 rw [if_pos (zag hh hlk hg)]
 have hk':κ' q = some (.own r.res):=hks.trans hq
 obtain ⟨hown, hM⟩:=hh.slot q _ hk'
 have e2:=hh.env hlk
 have hfe:a.eval fo = .func (.func f) #[] cap.toArray:=e2.is_ fo _ (by simp [Op.operands, Call.operands]) hf
 have hc:=Args.use e2 args.toList [] (fun x hx => by simp [Op.operands, Call.operands] at hx ⊢; exact .inr hx) (h u H (fp q) hh.sub hh.base hown fun k hk => ⟨(hM k hk).1, (hM k hk).2.1⟩)
 simp only [List.reverse_nil, List.nil_append] at hc
 rw [zde L rfl hfe hfn]
 simp only [Upon]
 refine Calls.mono hc fun e' u' hp => ?_
 obtain ⟨x, rfl, H', g', hx, C', hv, hC'⟩:=hp
 have h2:=hh.usePut (d:=q) (a':=a) (r':=r.res) hk' g' rfl rfl (fun _ _ => rfl) hv hC'
 rw [zbf, zqs hk'] at h2
 exact ⟨x, rfl, H', _, h2.put (k:=.sat φ) (zk hn) hm hx⟩
theorem zf7 (L:Tabs P) (q:Nat) (v:Value) {r:GR} {f:Nat} {args:Array Operand} {at_:Array TypeId} {cap:List Value} {fo:Operand}
  (hn:Nat.blt d n = true) (hg:gK ops κ ⟨some d, .call { callee:=.value fo, args:=args, argTypes:=at_ }, ty, pos, aft, g⟩ = some true)
  (hf:evK κ fo = some (.func (.func f) #[] cap.toArray)) (hfn:L.fn f = some ()) (hq:κ q = some (.own r.res))
  (h:∀ u H C, H.Le (hp u) → B.Le H → r.P H u C → (∀ k, C k → k < u.heap.size ∧ H k = none) → Args κ H args.toList [] (fun vs => RetY P f (vs ++ cap) u H C r (fun x _ => x = v))) :
  zdr P F B n ops O κ ⟨some d, .call { callee:=.value fo, args:=args, argTypes:=at_ }, ty, pos, aft, g⟩ q d (.is v):=by
 rintro κ' a u hlk hks ⟨H, fp, hh⟩
 unfold After
 rw [if_pos (zag hh hlk hg)]
 have hk':κ' q = some (.own r.res):=hks.trans hq
 obtain ⟨hown, hM⟩:=hh.slot q _ hk'
 have e2:=hh.env hlk
 have hfe:a.eval fo = .func (.func f) #[] cap.toArray:=e2.is_ fo _ (by simp [Op.operands, Call.operands]) hf
 have hc:=Args.use e2 args.toList [] (fun x hx => by simp [Op.operands, Call.operands] at hx ⊢; exact .inr hx) (h u H (fp q) hh.sub hh.base hown fun k hk => ⟨(hM k hk).1, (hM k hk).2.1⟩)
 simp only [List.reverse_nil, List.nil_append] at hc
 rw [zde L rfl hfe hfn]
 simp only [Upon]
 refine Calls.mono hc fun e' u' hp => ?_
 obtain ⟨x, rfl, H', g', hx, C', hv, hC'⟩:=hp
 have h2:=hh.usePut (d:=q) (a':=a) (r':=r.res) hk' g' rfl rfl (fun _ _ => rfl) hv hC'
 rw [zbf, zqs hk'] at h2
 exact ⟨x, rfl, H', _, h2.put (k:=.is v) (zk hn) trivial hx⟩
theorem zvo (L:Tabs P) {x:Operand} {q b:Nat} {t t':TypeId} {s off:Nat} {cs vs:List Value} {r:Res} (hx:evK κ x = some (.pointer (some ⟨b, off, none⟩))) (hq:κ q = some (.own r)) (hcell:∀ v H u C, r.P v H u C → u.heap[b]? = some (.cells cs.toArray t')) (hn:Nat.blt d n = true) (hg:gK ops κ ⟨some d, .load t x, ty, pos, aft, g⟩ = some true)
  (hl:L.ld t = some (true, s)) (hlen:vs.length = s) (hc:∃ r, cs.drop off = vs ++ r):zdr P F B n ops O κ ⟨some d, .load t x, ty, pos, aft, g⟩ q d (.is (.agg vs.toArray)):=by
 rintro κ' a u hlk hqk ⟨H, fp, hh⟩
 unfold After
 rw [if_pos (zag hh hlk hg)]
 have e:=hh.env hlk
 have h1:=e.is_ x _ (by simp [Op.operands]) hx
 obtain ⟨hown, hM⟩:=hh.slot q _ (hqk.trans hq)
 have h2:=hcell _ _ _ _ hown
 obtain ⟨r, hc⟩:=hc
 have hrun:(execOp a.eval ⟨some d, .load t x, ty, pos, aft, g⟩).run P u = .ok (.value (.agg vs.toArray)) u:=by
  simp only [execOp, h1, Instr.loadAt, Instr.sureAddr, Sem.run_bind, Sem.run_pure, Result.andThen_ok]
  rw [zb5 (Tabs.ld_spec hl) u _ vs hlen (fun j v hj => by
   have h3:cs[off + j]? = some v:=by
    have:=congrArg (·[j]?) hc
    simp only [List.getElem?_drop] at this
    rw [this, List.getElem?_append_left (by
     rcases Nat.lt_or_ge j vs.length with h | h
     ·exact h
     ·rw [List.getElem?_eq_none h] at hj; cases hj)]
    exact hj
   show u.cell? (Addr.add ⟨b, off, none⟩ j) = some v
   have:Addr.add ⟨b, off, none⟩ j = ⟨b, off + j, none⟩:=by simp [Addr.add]
   rw [this, za1 h2]; simpa using h3)]
  rfl
 rw [hrun]
 simp only [Upon]
 exact ⟨H, fp, hh.put (k:=.is (.agg vs.toArray)) (zk hn) trivial rfl⟩
theorem zw9 {b:Nat} {cs:List Value} {ty:TypeId} {r2:Res}:∀ v H u C, (zg9 (zan b cs ty) r2).P v H u C → u.heap[b]? = some (.cells cs.toArray ty):=fun _ _ _ _ ⟨_, _, h, _⟩ => h.1
theorem zv8 {b:Nat} {cs:List Value} {ty:TypeId} {r2:Res}:∀ v H u C, (zg9 (zan b cs ty) r2).P v H u C → joinH H u C b = some (.cells cs.toArray ty):=fun _ _ _ _ ⟨_, _, ⟨hb, hC⟩, _, h3, _⟩ => (zfk ((h3 b).2 (.inl ((hC b).2 rfl)))).trans hb
end
theorem RetT.pubY {P:Program} {f:FuncId} {args:List Value} {w:World} {B:Heap} {C:Nat → Prop} {r:GR} {r1:Res} {φ:Value → Heap → Prop} (h:RetT P f args w B C (zg9 r1 r.res)) (hl:z7a r1 φ):RetY P f args w B C r φ :=
 Calls.mono h fun _ u ⟨v, he, H, g, C', ⟨C1, C2, h1, h2, h3, h4⟩, h5⟩ => by
  have hs:=zhg (u:=u) (C:=C1) g.sub
  have hle:=zna (u:=u) fun k hk => (h5 k ((h3 k).2 (.inl hk))).2.2
  refine ⟨v, he, joinH H u C1, ⟨g.keep, hs, fun k x hx => hle _ _ (g.le _ _ hx), fun k hk hn => (zel fun hc => ?_).trans (g.fresh k hk hn)⟩, hl _ _ _ _ h1, C2, r.st h2 hle hs (On.refl u) (fun _ _ => rfl), fun k hk => ⟨(h5 k ((h3 k).2 (.inr hk))).1, (h5 k ((h3 k).2 (.inr hk))).2.1, (zel fun hc => h4 k hc hk).trans (h5 k ((h3 k).2 (.inr hk))).2.2⟩⟩
  rcases (h5 k ((h3 k).2 (.inl hc))).1 with h6 | h6
  ·exact hn h6
  ·omega
theorem RetY.ex {P:Program} {f:FuncId} {args:List Value} {w:World} {B:Heap} {C:Nat → Prop} {X:Type} {r:X → GR} {φ:X → Heap → Prop} {hφ:zg8 φ} {ψ:Value → Heap → Prop} (hr:(GEx r φ hφ).P B w C) (h:∀ x, φ x B → (r x).P B w C → RetY P f args w B C (r x) ψ):RetY P f args w B C (GEx r φ hφ) ψ:=by
 obtain ⟨x, h1, h2⟩:=hr
 exact RetL.mono (h x h1 h2) fun v H u hg ⟨h3, C', h4, h5⟩ => ⟨h3, C', ⟨x, hφ _ _ _ h1 hg.le, h4⟩, h5⟩
end Go.V
set_option maxRecDepth 20000
namespace Go.V
open Go.Proofs Go.RowKit
section
variable {α β:Type} [DecidableEq α] [DecidableEq β] {k:α → β} {c:β → β → Int}
def Eqv (k:α → β) (S S':List α):Prop:=∀ t, S'.filter (fun x => decide (k x = t)) = S.filter (fun x => decide (k x = t))
def Srt (k:α → β) (c:β → β → Int) (l:List α):Prop:=l.Pairwise fun x y => ¬ c (k y) (k x) < 0
def Stb (k:α → β) (c:β → β → Int) (S S':List α):Prop:=Srt k c S' ∧ Eqv k S S'
omit [DecidableEq α] in
theorem Eqv.refl (S:List α):Eqv k S S:=fun _ => rfl
omit [DecidableEq α] in
theorem Eqv.trans {A B C:List α} (h1:Eqv k A B) (h2:Eqv k B C):Eqv k A C:=fun t => (h2 t).trans (h1 t)
omit [DecidableEq α] in
theorem Eqv.app {A A' B B':List α} (h1:Eqv k A A') (h2:Eqv k B B'):Eqv k (A ++ B) (A' ++ B'):=fun t => by rw [List.filter_append, List.filter_append, h1 t, h2 t]
omit [DecidableEq α] in
theorem Eqv.swap {A B:List α} (h:∀ a ∈ A, ∀ b ∈ B, k a ≠ k b):Eqv k (A ++ B) (B ++ A):=fun t => by
 rw [List.filter_append, List.filter_append]
 by_cases ha:∃ a ∈ A, k a = t
 ·obtain ⟨a, ha, rfl⟩:=ha
  have:B.filter (fun x => decide (k x = k a)) = []:=List.filter_eq_nil_iff.2 fun b hb e => h a ha b hb (by simpa using e:k b = k a).symm
  rw [this, List.append_nil, List.nil_append]
 ·have:A.filter (fun x => decide (k x = t)) = []:=List.filter_eq_nil_iff.2 fun a h1 e => ha ⟨a, h1, by simpa using e⟩
  rw [this, List.append_nil, List.nil_append]
theorem Eqv.count {S S':List α} (h:Eqv k S S') (x:α):S'.count x = S.count x:=by
 have e:∀ l:List α, (l.filter fun y => decide (k y = k x)).count x = l.count x:=fun l => List.count_filter (by simp)
 rw [← e S', ← e S, h (k x)]
theorem Eqv.perm {S S':List α} (h:Eqv k S S'):S'.Perm S:=List.perm_iff_count.2 fun x => h.count x
theorem Eqv.length {S S':List α} (h:Eqv k S S'):S'.length = S.length:=h.perm.length_eq
theorem Eqv.mem {S S':List α} (h:Eqv k S S') {x:α}:x ∈ S' ↔ x ∈ S:=h.perm.mem_iff
omit [DecidableEq α] [DecidableEq β] in
theorem zee {A B:List α}:Srt k c (A ++ B) ↔ Srt k c A ∧ Srt k c B ∧ ∀ a ∈ A, ∀ b ∈ B, ¬ c (k b) (k a) < 0:=List.pairwise_append
omit [DecidableEq α] [DecidableEq β] in
theorem zv7 (ho:Ord3 c) {a b:β} (h:c a b < 0):b ≠ a:=fun e => by subst e; exact ho.irr _ h
omit [DecidableEq α] in
theorem zpr (ho:Ord3 c) {A B:List α} {x:α} (hs:Srt k c (A ++ B)) (ha:∀ a ∈ A, ¬ c (k x) (k a) < 0) (hb:∀ b ∈ B, c (k x) (k b) < 0):Stb k c (A ++ B ++ [x]) (A ++ x :: B):=by
 obtain ⟨s1, s2, s3⟩:=zee.1 hs
 refine ⟨zee.2 ⟨s1, List.pairwise_cons.2 ⟨fun b h => ho.asym (hb b h), s2⟩, fun a h b hm => ?_⟩, ?_⟩
 ·rcases List.mem_cons.1 hm with rfl | hm
  ·exact ha a h
  ·exact s3 a h b hm
 ·rw [List.append_assoc]
  exact (Eqv.refl A).app (Eqv.swap (A:=B) (B:=[x]) fun b h y hy => by
   simp at hy; subst hy
   exact zv7 ho (hb b h))
omit [DecidableEq α] in
theorem z1i (ho:Ord3 c) {A B:List α} {x:α} (hs:Srt k c (A ++ B)) (ha:∀ a ∈ A, c (k a) (k x) < 0) (hb:∀ b ∈ B, ¬ c (k b) (k x) < 0):Stb k c (x :: (A ++ B)) (A ++ x :: B):=by
 obtain ⟨s1, s2, s3⟩:=zee.1 hs
 refine ⟨zee.2 ⟨s1, List.pairwise_cons.2 ⟨hb, s2⟩, fun a h b hm => ?_⟩, ?_⟩
 ·rcases List.mem_cons.1 hm with rfl | hm
  ·exact ho.asym (ha a h)
  ·exact s3 a h b hm
 ·have e:A ++ x :: B = A ++ [x] ++ B:=by simp
  have e2:x :: (A ++ B) = [x] ++ A ++ B:=by simp
  rw [e, e2]
  exact (Eqv.swap (A:=[x]) (B:=A) fun y hy a h => by
   simp at hy; subst hy
   exact zv7 ho (ha a h)).app (Eqv.refl B)
theorem zxt (ho:Ord3 c) {A1 A2 B1 B2 S1 S2:List α} (hA:Srt k c (A1 ++ A2)) (hB:Srt k c (B1 ++ B2)) (h12:∀ a ∈ A2, ∀ b ∈ B1, c (k b) (k a) < 0) (h21:∀ a ∈ A1, ∀ b ∈ B2, ¬ c (k b) (k a) < 0)
  (h1:Stb k c (A1 ++ B1) S1) (h2:Stb k c (A2 ++ B2) S2):Stb k c (A1 ++ A2 ++ (B1 ++ B2)) (S1 ++ S2):=by
 obtain ⟨a1, a2, a3⟩:=zee.1 hA
 obtain ⟨b1, b2, b3⟩:=zee.1 hB
 refine ⟨zee.2 ⟨h1.1, h2.1, fun x hx y hy => ?_⟩, ?_⟩
 ·rcases List.mem_append.1 (h1.2.mem.1 hx) with hx | hx <;> rcases List.mem_append.1 (h2.2.mem.1 hy) with hy | hy
  ·exact a3 x hx y hy
  ·exact h21 x hx y hy
  ·exact ho.asym (h12 y hy x hx)
  ·exact b3 x hx y hy
 ·refine Eqv.trans ?_ (h1.2.app h2.2)
  have e1:A1 ++ A2 ++ (B1 ++ B2) = A1 ++ (A2 ++ B1) ++ B2:=by simp
  have e2:A1 ++ B1 ++ (A2 ++ B2) = A1 ++ (B1 ++ A2) ++ B2:=by simp
  rw [e1, e2]
  exact ((Eqv.refl A1).app (Eqv.swap fun a ha b hb => zv7 ho (h12 a ha b hb))).app (Eqv.refl B2)
omit [DecidableEq α] [DecidableEq β] in
theorem zfp (ho:Ord3 c) {l:List α} (h:Srt k c l) {i j:Nat} {x y:α} (hi:l[i]? = some x) (hj:l[j]? = some y) (hij:i ≤ j):¬ c (k y) (k x) < 0:=by
 rcases Nat.lt_or_ge i j with h1 | h1
 ·obtain ⟨hi', rfl⟩:=List.getElem?_eq_some_iff.1 hi
  obtain ⟨hj', rfl⟩:=List.getElem?_eq_some_iff.1 hj
  exact List.pairwise_iff_getElem.1 h i j hi' hj' h1
 ·have:i = j:=by omega
  subst this
  rw [hi] at hj; cases hj
  exact ho.irr _
end
end Go.V
set_option maxRecDepth 20000
namespace Go.V
open Go.Proofs Go.RowKit
section
variable {α β:Type} [DecidableEq α] [DecidableEq β] {k:α → β} {c:β → β → Int}
theorem zqz (ho:Ord3 c):∀ {S S':List α}, Srt k c S → Srt k c S' → Eqv k S S' → S' = S
 | [], S', _, _, h => List.eq_nil_of_length_eq_zero (by rw [h.length]; rfl)
 | x :: r, [], _, _, h => by have:=h.length; simp at this
 | x :: r, y :: r', h1, h2, h => by
  have hxy:k x = k y:=by
   have hx:x ∈ y :: r':=h.mem.2 (List.mem_cons_self ..)
   have hy:y ∈ x :: r:=h.mem.1 (List.mem_cons_self ..)
   have e1:¬ c (k x) (k y) < 0:=by
    rcases List.mem_cons.1 hx with e | hx
    ·rw [e]; exact ho.irr _
    ·exact (List.pairwise_cons.1 h2).1 x hx
   have e2:¬ c (k y) (k x) < 0:=by
    rcases List.mem_cons.1 hy with e | hy
    ·rw [e]; exact ho.irr _
    ·exact (List.pairwise_cons.1 h1).1 y hy
   have:=ho.anti (k x) (k y)
   exact ho.eq _ _ (by omega)
  have hf:=h (k x)
  rw [List.filter_cons_of_pos (by simp [hxy]), List.filter_cons_of_pos (by simp)] at hf
  have hxe:y = x:=(List.cons.inj hf).1
  subst hxe
  have ht:Eqv k r r':=fun t => by
   have:=h t
   by_cases e:k y = t
   ·rw [List.filter_cons_of_pos (by simpa using e), List.filter_cons_of_pos (by simpa using e)] at this
    exact (List.cons.inj this).2
   ·rwa [List.filter_cons_of_neg (by simpa using e), List.filter_cons_of_neg (by simpa using e)] at this
  rw [zqz ho (List.pairwise_cons.1 h1).2 (List.pairwise_cons.1 h2).2 ht]
omit [DecidableEq α] in
theorem Eqv.symm {A B:List α} (h:Eqv k A B):Eqv k B A:=fun t => (h t).symm
theorem zxr (ho:Ord3 c) {l S S':List α} (h:Stb k c l S) (h':Stb k c l S'):S' = S:=zqz ho h.1 h'.1 (h.2.symm.trans h'.2)
def z2g (k:α → β) (c:β → β → Int) (x:α):List α → List α
 | [] => [x]
 | y :: l => if c (k x) (k y) < 0 then x :: y :: l else y :: z2g k c x l
omit [DecidableEq α] [DecidableEq β] in
theorem zl5 (ho:Ord3 c) {x:α}:∀ {S:List α}, Srt k c S → ∃ A B, S = A ++ B ∧ z2g k c x S = A ++ x :: B ∧ (∀ a ∈ A, ¬ c (k x) (k a) < 0) ∧ ∀ b ∈ B, c (k x) (k b) < 0
 | [], _ => ⟨[], [], rfl, rfl, fun a h => (by cases h), fun a h => (by cases h)⟩
 | y :: l, h => by
  obtain ⟨h1, h2⟩:=List.pairwise_cons.1 h
  by_cases hxy:c (k x) (k y) < 0
  ·refine ⟨[], y :: l, rfl, if_pos hxy, fun a h => (by cases h), fun b hb => ?_⟩
   rcases List.mem_cons.1 hb with rfl | hb
   ·exact hxy
   ·have h3:=h1 b hb
    have:=ho.anti (k b) (k y)
    by_cases h4:c (k y) (k b) < 0
    ·exact ho.tr hxy h4
    ·rw [← ho.eq (k y) (k b) (by omega)]; exact hxy
  ·obtain ⟨A, B, e1, e2, e3, e4⟩:=zl5 ho (x:=x) h2
   refine ⟨y :: A, B, by rw [e1]; rfl, ?_, fun a ha => ?_, e4⟩
   ·rw [z2g, if_neg hxy, e2]; rfl
   ·rcases List.mem_cons.1 ha with rfl | ha
    ·exact hxy
    ·exact e3 a ha
def zld (k:α → β) (c:β → β → Int) (l:List α):List α:=l.foldl (fun S x => z2g k c x S) []
omit [DecidableEq α] [DecidableEq β] in
theorem z1j:Srt k c []:=List.Pairwise.nil
omit [DecidableEq α] in
theorem zxs (ho:Ord3 c) {l S:List α} {x:α} (h:Stb k c l S):Stb k c (l ++ [x]) (z2g k c x S):=by
 obtain ⟨A, B, e1, e2, e3, e4⟩:=zl5 ho (x:=x) h.1
 have h1:=h.1
 rw [e1] at h1
 have h2:=zpr ho h1 e3 e4
 rw [e2]
 rw [← e1] at h2
 exact ⟨h2.1, (h.2.app (Eqv.refl [x])).trans h2.2⟩
omit [DecidableEq α] in
theorem zc2 (ho:Ord3 c) (l:List α):Stb k c l (zld k c l):=by
 suffices ∀ (r l S:List α), Stb k c l S → Stb k c (l ++ r) (r.foldl (fun S x => z2g k c x S) S) by
  have:=this l [] [] ⟨z1j, Eqv.refl _⟩
  exact this
 intro r
 induction r with
 | nil => intro l S h; rw [List.append_nil]; exact h
 | cons x r ih =>
  intro l S h
  have:=ih (l ++ [x]) (z2g k c x S) (zxs ho h)
  rw [List.append_assoc] at this
  exact this
theorem zln (ho:Ord3 c) {l S:List α} (h:Stb k c l S):S = zld k c l:=zxr ho (zc2 ho l) h
theorem zqy (ho:Ord3 c) (l:List α):(zld k c l).length = l.length:=(zc2 (k:=k) ho l).2.length
omit [DecidableEq α] [DecidableEq β] in
theorem zxv:zld k c [] = []:=rfl
theorem zxu (ho:Ord3 c) {l:List α} (h:Srt k c l):zld k c l = l:=(zln ho ⟨h, Eqv.refl l⟩).symm
theorem zxw (ho:Ord3 c) (X Y:List α):zld k c (zld k c X ++ zld k c Y) = zld k c (X ++ Y) :=
 zln ho ⟨(zc2 ho _).1, (((zc2 ho X).2.app (zc2 ho Y).2)).trans (zc2 ho _).2⟩
theorem z2f (ho:Ord3 c) {X A B:List α} {x:α} (h:A ++ B = zld k c X) (hb:∀ b ∈ B, c (k x) (k b) < 0) (ha:∀ y, A.getLast? = some y → ¬ c (k x) (k y) < 0):A ++ x :: B = zld k c (X ++ [x]):=by
 have hs:=(zc2 (k:=k) ho X).1
 rw [← h] at hs
 have hA:∀ a ∈ A, ¬ c (k x) (k a) < 0:=fun a ham => by
  rcases List.eq_nil_or_concat A with e | ⟨A', y, rfl⟩
  ·subst e; cases ham
  ·have h1:=ha y (by simp)
   simp only [List.concat_eq_append, List.mem_append, List.mem_singleton] at ham
   rcases ham with ham | rfl
   ·have h2:=(zee.1 hs).1
    simp only [List.concat_eq_append] at h2
    have h3:=(zee.1 h2).2.2 a ham y (by simp)
    have e1:=ho.anti (k y) (k a)
    intro h4
    refine h1 ?_
    by_cases h5:c (k a) (k y) < 0
    ·exact ho.tr h4 h5
    ·rw [← ho.eq (k a) (k y) (by omega)]; exact h4
   ·exact h1
 have h1:=zpr ho hs hA hb
 rw [h] at h1
 exact zln ho ⟨h1.1, ((zc2 (k:=k) ho X).2.app (Eqv.refl [x])).trans h1.2⟩
def chS (k:α → β) (c:β → β → Int) (n:Nat):Nat → List α → List α
 | 0, _ => []
 | f + 1, l => if l = [] then [] else zld k c (l.take n) ++ chS k c n f (l.drop n)
omit [DecidableEq α] [DecidableEq β] in
theorem zgd (n f:Nat):chS k c n f [] = []:=by cases f <;> simp [chS]
omit [DecidableEq α] [DecidableEq β] in
theorem zr3 {n:Nat} (hn:0 < n):∀ {f g:Nat} {l:List α}, l.length ≤ f → l.length ≤ g → chS k c n f l = chS k c n g l
 | 0, g, l, hf, _ => by obtain rfl:l = []:=List.eq_nil_of_length_eq_zero (by omega); rw [zgd, zgd]
 | f + 1, 0, l, _, hg => by obtain rfl:l = []:=List.eq_nil_of_length_eq_zero (by omega); rw [zgd, zgd]
 | f + 1, g + 1, l, hf, hg => by
  by_cases h:l = []
  ·subst h; rw [zgd, zgd]
  ·rw [chS, chS, if_neg h, if_neg h]
   have:0 < l.length:=List.length_pos_iff.2 h
   rw [zr3 hn (f:=f) (g:=g) (by rw [List.length_drop]; omega) (by rw [List.length_drop]; omega)]
def chL (k:α → β) (c:β → β → Int) (n:Nat) (l:List α):List α:=chS k c n l.length l
omit [DecidableEq α] [DecidableEq β] in
theorem znj {n:Nat} (hn:0 < n) (l:List α):chL k c n l = zld k c (l.take n) ++ chL k c n (l.drop n):=by
 unfold chL
 by_cases h:l = []
 ·subst h; simp [zgd, zxv]
 ·have:0 < l.length:=List.length_pos_iff.2 h
  obtain ⟨m, hm⟩:∃ m, l.length = m + 1:=⟨l.length - 1, by omega⟩
  rw [hm, chS, if_neg h, zr3 hn (f:=m) (g:=(l.drop n).length) (by rw [List.length_drop]; omega) (Nat.le_refl _)]
omit [DecidableEq α] [DecidableEq β] in
theorem zqj (n:Nat):chL k c n [] = []:=zgd _ _
omit [DecidableEq α] [DecidableEq β] in
theorem z2s {n:Nat} (hn:0 < n) {l:List α} (h:l.length ≤ n):chL k c n l = zld k c l:=by
 rw [znj hn, List.take_of_length_le h, List.drop_eq_nil_of_le h, zqj, List.append_nil]
theorem zw2 (ho:Ord3 c) {n:Nat} (hn:0 < n):∀ (m:Nat) {l:List α}, l.length ≤ m → (chL k c n l).length = l.length
 | 0, l, h => by obtain rfl:l = []:=List.eq_nil_of_length_eq_zero (by omega); rw [zqj]
 | m + 1, l, h => by
  by_cases h0:l = []
  ·subst h0; rw [zqj]
  ·have:0 < l.length:=List.length_pos_iff.2 h0
   rw [znj hn, List.length_append, zqy ho, zw2 ho hn m (by rw [List.length_drop]; omega), ← List.length_append, List.take_append_drop]
end
end Go.V
set_option maxRecDepth 20000
namespace Go.V.L8
open Go.Proofs Go.RowKit Go.V Go.V.L2 Go.V.L3 Go.V.L6
theorem zma (l:List CH):(l.flatMap ccs).length = l.length * 7:=zcq zw3 l
theorem zzf (l:List CH):(l.flatMap ccs).all zbs = true:=by
 induction l with
 | nil => rfl
 | cons x l ih => rw [List.flatMap_cons, List.all_append, ih]; rfl
abbrev ch7 (c:CH):List Value:=[.string c.1.1.1.1, .string c.1.1.1.2, .string c.1.1.2, .string c.1.2.1.1, .string c.1.2.1.2, .string c.1.2.2, .bool c.2]
theorem zb3 {l:List CH} {rest:List Value} {i:Nat} {t:CH} (h:l[i]? = some t) (off:Nat) (ho:off = i * 7):∃ r, (l.flatMap ccs ++ rest).drop off = ch7 t ++ r:=by
 subst ho
 have h1:((l.flatMap ccs).drop (i * 7)).take 7 = ch7 t:=zi2 h
 have h2:=get_lt h
 refine ⟨((l.flatMap ccs).drop (i * 7)).drop 7 ++ rest, ?_⟩
 rw [List.drop_append_of_le_length (by rw [zma]; exact Nat.mul_le_mul_right _ (by omega)), ← List.append_assoc]
 congr 1
 rw [← h1, List.take_append_drop]
theorem zd0 {ls:List CH} {rest:List Value} {k:Nat} {z:CH} (h:k < ls.length) (off:Nat) (ho:off = k * 7):(ls.flatMap ccs ++ rest).take off ++ (ch7 z ++ (ls.flatMap ccs ++ rest).drop (off + 7)) = (ls.set k z).flatMap ccs ++ rest:=by
 subst ho
 have e1:ls = ls.take k ++ (ls[k] :: ls.drop (k + 1)):=by rw [List.getElem_cons_drop, List.take_append_drop]
 have hk:(ls.take k).length = k:=by rw [List.length_take]; omega
 have e2:ls.set k z = ls.take k ++ (z :: ls.drop (k + 1)):=by
  conv => lhs; rw [e1]
  rw [List.set_append_right _ _ (by omega), hk, Nat.sub_self]; rfl
 rw [e2]
 generalize ls.take k = A at e1 hk
 generalize ls.drop (k + 1) = D at e1
 generalize ls[k] = y at e1
 subst e1
 have hA:(A.flatMap ccs).length = k * 7:=by rw [zma, hk]
 simp only [List.flatMap_append, List.flatMap_cons, List.append_assoc]
 rw [List.take_left' hA, show k * 7 + 7 = (A.flatMap ccs).length + 7 by omega, ← List.drop_drop, List.drop_left, show (ccs y ++ (D.flatMap ccs ++ rest)).drop 7 = D.flatMap ccs ++ rest from List.drop_left' rfl]
 rfl
theorem zd1 {ls:List CH} {rest:List Value} {k:Nat} (h:k < ls.length) (off:Nat) (ho:off = k * 7):Nat.ble (off + 7) (ls.flatMap ccs ++ rest).length = true:=Nat.ble_eq_true_of_le (by rw [List.length_append, zma]; omega)
section
variable {α:Type} {A M D:List α} {x y:α}
theorem zi6 {i:Nat} (h:A.length = i):(A ++ x :: (M ++ y :: D))[i]? = some x:=by subst h; simp
theorem zi5 {j:Nat} (h:A.length + 1 + M.length = j):(A ++ x :: (M ++ y :: D))[j]? = some y:=by
 subst h
 have e:A ++ x :: (M ++ y :: D) = (A ++ x :: M) ++ y :: D:=by simp
 rw [e, List.getElem?_append_right (by simp; omega)]
 simp; rw [show A.length + 1 + M.length - (A.length + (M.length + 1)) = 0 by omega]; rfl
theorem zpn {i j:Nat} (hi:A.length = i) (hj:A.length + 1 + M.length = j):((A ++ x :: (M ++ y :: D)).set i y).set j x = A ++ y :: (M ++ x :: D):=by
 subst hi hj
 have e:(A ++ x :: (M ++ y :: D)).set A.length y = (A ++ y :: M) ++ y :: D:=by simp
 rw [e, List.set_append_right _ _ (by simp; omega)]
 simp; rw [show A.length + 1 + M.length - (A.length + (M.length + 1)) = 0 by omega]; rfl
theorem zqv {i j:Nat} (hi:A.length = i) (hj:A.length + 1 + M.length = j):((A ++ x :: (M ++ y :: D)).set j x).set i y = A ++ y :: (M ++ x :: D):=by
 rw [List.set_comm _ _ (by omega)]; exact zpn hi hj
end
attribute [local irreducible] V N X VO Par StepOK Has Ret RetL RetO RetT Src
theorem zpq {P X Q Y R:List CH} {rest:List Value} {b m cap a e n:Nat} (ha:P.length = a) (he:a + X.length + Q.length = e) (hx:X.length = n) (hy:Y.length = n) (hm:(P ++ (X ++ (Q ++ (Y ++ R)))).length = m) (hm1:m ≤ 100000) (fv:Value) {w:World} {B:Heap} {C:Nat → Prop} (hB:B.Le (hp w))
  (hr:(zab b ((P ++ (X ++ (Q ++ (Y ++ R)))).flatMap ccs ++ rest) tyC).P B w C) (hC:∀ k, C k → k < w.heap.size ∧ B k = none) :
  zcd Tryz.prog 186 [.slice (some ⟨b, 0, none⟩) m cap, .int .i64 a, .int .i64 e, .int .i64 n, fv] w B C (zab b ((P ++ (Y ++ (Q ++ (X ++ R)))).flatMap ccs ++ rest) tyC):=by
 unfold zcd
 refine zau 900 (zab b ((P ++ (X ++ (Q ++ (Y ++ R)))).flatMap ccs ++ rest) tyC) Tryz.func186 rfl Tryz.ntmps186 (Nat.le_of_ble_eq_true rfl) hB hr hC ?_
 rw [za6]
 simp only [List.length_append] at hm
 refine ZR ?_;refine ZE ?_
 refine zal (fun i:Nat => [(0, .is (.slice (some ⟨b, 0, none⟩) m cap)), (1, .is (.int .i64 a)), (2, .is (.int .i64 e)), (3, .is (.int .i64 n)), (10, .is (.int .i64 i)), (900, .own (zan b ((P ++ (Y.take i ++ (X.drop i ++ (Q ++ (X.take i ++ (Y.drop i ++ R)))))).flatMap ccs ++ rest) tyC))]) (fun i => i ≤ n) (fun i => n - i) 0 (Nat.zero_le _) ⟨rfl, rfl, rfl, rfl, rfl, by simp only [List.take_zero, List.drop_zero, List.nil_append]; rfl, trivial⟩ ?_
 rintro i hi
 by_cases hlt:i < n
 ·obtain ⟨x, hxi⟩:=zae (l:=X) (show i < X.length by omega)
  obtain ⟨y, hyi⟩:=zae (l:=Y) (show i < Y.length by omega)
  have e0:P ++ (Y.take i ++ (X.drop i ++ (Q ++ (X.take i ++ (Y.drop i ++ R))))) = (P ++ Y.take i) ++ x :: ((X.drop (i + 1) ++ (Q ++ X.take i)) ++ y :: (Y.drop (i + 1) ++ R)):=by
   rw [zfr hxi, zfr hyi]; simp
  have e1:P ++ (Y.take (i + 1) ++ (X.drop (i + 1) ++ (Q ++ (X.take (i + 1) ++ (Y.drop (i + 1) ++ R))))) = (P ++ Y.take i) ++ y :: ((X.drop (i + 1) ++ (Q ++ X.take i)) ++ x :: (Y.drop (i + 1) ++ R)):=by
   rw [List.take_add_one, List.take_add_one, hxi, hyi]; simp
  have l1:(P ++ Y.take i).length = a + i:=by rw [List.length_append, List.length_take]; omega
  have l2:(P ++ Y.take i).length + 1 + (X.drop (i + 1) ++ (Q ++ X.take i)).length = e + i:=by rw [l1, List.length_append, List.length_append, List.length_drop, List.length_take]; omega
  have g1:=zi6 (x:=x) (y:=y) (M:=X.drop (i + 1) ++ (Q ++ X.take i)) (D:=Y.drop (i + 1) ++ R) l1
  have g2:=zi5 (x:=x) (y:=y) (D:=Y.drop (i + 1) ++ R) l2
  have g3:=zpn (x:=x) (y:=y) (D:=Y.drop (i + 1) ++ R) l1 l2
  rw [e0]
  have hlen:((P ++ Y.take i) ++ x :: ((X.drop (i + 1) ++ (Q ++ X.take i)) ++ y :: (Y.drop (i + 1) ++ R))).length = m:=by rw [← e0]; simp only [List.length_append, List.length_take, List.length_drop]; omega
  generalize (P ++ Y.take i) ++ x :: ((X.drop (i + 1) ++ (Q ++ X.take i)) ++ y :: (Y.drop (i + 1) ++ R)) = K at *
  have h1:=get_lt g1
  have h2:=get_lt g2
  have q1:=zb3 (rest:=rest) g1 (0 + (a + i) * 7) (by omega)
  have q2:=zb3 (rest:=rest) g2 (0 + (e + i) * 7) (by omega)
  have s1:=zd0 (rest:=rest) (z:=y) h1 (0 + (a + i) * 7) (by omega)
  have b1:=zd1 (rest:=rest) h1 (0 + (a + i) * 7) (by omega)
  have h3:e + i < (K.set (a + i) y).length:=by rw [List.length_set]; exact h2
  have s2:=zd0 (rest:=rest) (z:=x) h3 (0 + (e + i) * 7) (by omega)
  have b2:=zd1 (rest:=rest) h3 (0 + (e + i) * 7) (by omega)
  rw [g3, ← e1] at s2
  have a1:IntKind.i64.wrap ((a:Int) + (i:Int)) = ((a + i:Nat):Int):=zaa (by omega) (by omega)
  have a2:IntKind.i64.wrap ((e:Int) + (i:Int)) = ((e + i:Nat):Int):=zaa (by omega) (by omega)
  refine Zc ?_;refine Zae ?_;refine Zd ?_;refine ZbG ?_;refine ZbT ?_;refine qg (id:=3) [(200029, [900]), (200035, [900]), (100036, [900]), (100037, [900])] mixed (by kernel_rfl) ?_;refine Zbv ?_;refine Zbv ?_;refine ZaA ?_;refine qn (zay L (q:=900) (vs:=[_, _, _, _, _, _, _]) rfl rfl rfl rfl rfl rfl q2) rfl rfl ?_;refine ZaA ?_;refine qn (zay L (q:=900) (vs:=[_, _, _, _, _, _, _]) rfl rfl rfl rfl rfl rfl q1) rfl rfl ?_;refine Zl ?_;refine zah (yz L (q:=900) rfl rfl rfl rfl rfl rfl b1 rfl s1) rfl ?_;refine Zl ?_;refine zah (yz L (q:=900) rfl rfl rfl rfl rfl rfl b2 rfl s2) rfl ?_;refine Zba ?_;refine ZG ?_;refine ZaE ?_
  exact yi (x:=i) (i + 1) (by omega) (by omega) ⟨rfl, rfl, rfl, rfl, rfl, rfl, trivial⟩
 ·obtain rfl:i = n:=by omega
  have t1:X.take i = X:=List.take_of_length_le (by omega)
  have t2:Y.take i = Y:=List.take_of_length_le (by omega)
  have t3:X.drop i = []:=List.drop_eq_nil_of_le (by omega)
  have t4:Y.drop i = []:=List.drop_eq_nil_of_le (by omega)
  rw [t1, t2, t3, t4]
  simp only [List.nil_append]
  refine Zc ?_;refine Zae ?_;refine Zbi ?_;refine ZcO ?_
  exact zbe L 900 (r:=zab b _ tyC) rfl (fun _ _ h => h) Since.refl rfl rfl
end Go.V.L8
set_option maxRecDepth 20000
namespace Go.V.L8
open Go.Proofs Go.RowKit Go.V Go.V.L2 Go.V.L3 Go.V.L6
theorem _root_.Go.V.Zgw {A B:Prop} (h:B) (t:Wr B → A:=by intro h; refine Zc ?_;refine qg (id:=4) [(200026, [900]), (200031, [900])] mixed (by kernel_rfl) ?_;exact h.h):A:=t ⟨h⟩
def stC (l:List CH):List CH:=zld (fun c => c.1) zbh l
theorem zfa (l:List CH):(stC l).length = l.length:=zqy cmpT_ord l
attribute [local irreducible] V N X VO Par StepOK Has Ret RetL RetO RetT zcd Src
set_option maxHeartbeats 1000000 in
set_option maxRecDepth 20000 in
theorem z1n {P X Y R:List CH} {rest:List Value} {b m cap a mm e:Nat} (ha:P.length = a) (hmm:a + X.length = mm) (he:mm + Y.length = e) (hx:0 < X.length) (hy:0 < Y.length) (hm:(P ++ (X ++ (Y ++ R))).length = m) (hm1:m ≤ 100000) (fv:Value) {w:World} {B:Heap} {C:Nat → Prop} (hB:B.Le (hp w))
  (hr:(zab b ((P ++ (X ++ (Y ++ R))).flatMap ccs ++ rest) tyC).P B w C) (hC:∀ k, C k → k < w.heap.size ∧ B k = none) :
  zcd Tryz.prog 183 [.slice (some ⟨b, 0, none⟩) m cap, .int .i64 a, .int .i64 mm, .int .i64 e, fv] w B C (zab b ((P ++ (Y ++ (X ++ R))).flatMap ccs ++ rest) tyC):=by
 unfold zcd
 refine zau 900 (zab b ((P ++ (X ++ (Y ++ R))).flatMap ccs ++ rest) tyC) Tryz.func183 rfl Tryz.ntmps183 (Nat.le_of_ble_eq_true rfl) hB hr hC ?_
 rw [za6]
 simp only [List.length_append] at hm
 have s1:IntKind.i64.wrap ((mm:Int) - (a:Int)) = (X.length:Int):=zaa (by omega) (by omega) |>.trans (by omega)
 have s2:IntKind.i64.wrap ((e:Int) - (mm:Int)) = (Y.length:Int):=zaa (by omega) (by omega) |>.trans (by omega)
 refine ZR ?_;refine ZJ ?_;refine ZS ?_;refine ZJ ?_;refine Ze ?_;refine qh ?_
 refine zal (fun s:(List CH × List CH) × (List CH × List CH) => [(0, .is (.slice (some ⟨b, 0, none⟩) m cap)), (2, .is (.int .i64 mm)), (4, .is fv), (10, .is (.int .i64 s.1.2.length)), (11, .is (.int .i64 s.2.1.length)), (900, .own (zan b ((P ++ (s.1.1 ++ (s.1.2 ++ (s.2.1 ++ (s.2.2 ++ R))))).flatMap ccs ++ rest) tyC))])
  (fun s => a + s.1.1.length + s.1.2.length = mm ∧ mm + s.2.1.length + s.2.2.length = e ∧ 0 < s.1.2.length ∧ 0 < s.2.1.length ∧ s.1.1 ++ (s.2.1 ++ (s.1.2 ++ s.2.2)) = Y ++ X) (fun s => s.1.2.length + s.2.1.length) (([], X), (Y, [])) ⟨hmm, he, hx, hy, by simp⟩ ⟨rfl, rfl, rfl, rfl, rfl, rfl, trivial⟩ ?_
 rintro ⟨⟨D1, X1⟩, ⟨Y1, D2⟩⟩ ⟨h1, h2, h3, h4, h5⟩
 dsimp only at h1 h2 h3 h4 h5 ⊢
 have hs1:IntKind.i64.wrap ((mm:Int) - (X1.length:Int)) = ((mm - X1.length:Nat):Int):=zaa (by omega) (by omega) |>.trans (by omega)
 by_cases heq:X1.length = Y1.length
 ·have e0:P ++ (D1 ++ (X1 ++ (Y1 ++ (D2 ++ R)))) = (P ++ D1) ++ (X1 ++ ([] ++ (Y1 ++ (D2 ++ R)))):=by simp
  have e1:(P ++ D1) ++ (Y1 ++ ([] ++ (X1 ++ (D2 ++ R)))) = P ++ (Y ++ (X ++ R)):=by
   have:Y ++ (X ++ R) = D1 ++ (Y1 ++ (X1 ++ D2)) ++ R:=by rw [h5]; simp
   rw [this]; simp
  have hlen:((P ++ D1) ++ (X1 ++ ([] ++ (Y1 ++ (D2 ++ R))))).length = m:=by simp only [List.length_append, List.length_nil]; omega
  rw [e0]
  refine Zcm ?_;refine ZK ?_;refine Zcl ?_;refine Z8 ?_;refine Z2 ?_;refine Za7 ?_;refine Z2 ?_;refine qp (za5 L 900 (zab b (((P ++ D1) ++ (Y1 ++ ([] ++ (X1 ++ (D2 ++ R))))).flatMap ccs ++ rest) tyC) (r:=zab b (((P ++ D1) ++ (X1 ++ ([] ++ (Y1 ++ (D2 ++ R))))).flatMap ccs ++ rest) tyC) rfl rfl rfl rfl rfl (fun u H C hH _ hr hC => (by have h:=zpq (cap:=cap) (a:=mm - X1.length) (e:=mm) (n:=X1.length) (by rw [List.length_append]; omega) (by simp only [List.length_nil]; omega) rfl heq.symm hlen hm1 fv hH hr hC; exact h))) ?_;refine zi ?_
  rw [e1]
  exact zbe L 900 (r:=zab b _ tyC) rfl (fun _ _ h => h) Since.refl rfl rfl
 ·by_cases hgt:Y1.length < X1.length
  ·have hs2:IntKind.i64.wrap ((X1.length:Int) - (Y1.length:Int)) = ((X1.drop Y1.length).length:Int):=zaa (by omega) (by omega) |>.trans (by rw [List.length_drop]; omega)
   have lt:(X1.take Y1.length).length = Y1.length:=by rw [List.length_take]; omega
   have e0:P ++ (D1 ++ (X1 ++ (Y1 ++ (D2 ++ R)))) = (P ++ D1) ++ (X1.take Y1.length ++ (X1.drop Y1.length ++ (Y1 ++ (D2 ++ R)))):=by
    conv => lhs; rw [← List.take_append_drop Y1.length X1]
    simp only [List.append_assoc]
   have e1:(P ++ D1) ++ (Y1 ++ (X1.drop Y1.length ++ (X1.take Y1.length ++ (D2 ++ R)))) = P ++ ((D1 ++ Y1) ++ (X1.drop Y1.length ++ (X1.take Y1.length ++ (D2 ++ R)))):=by simp
   have hlen:((P ++ D1) ++ (X1.take Y1.length ++ (X1.drop Y1.length ++ (Y1 ++ (D2 ++ R))))).length = m:=by rw [← e0]; simp only [List.length_append]; omega
   have hld:(X1.drop Y1.length).length = X1.length - Y1.length:=List.length_drop
   rw [e0]
   refine Zcm ?_;refine ZcA ?_;refine Zcf ?_;refine ZbV ?_;refine ZC ?_;refine ZcK ?_;refine Z2 ?_;refine Za7 ?_;refine Z2 ?_;refine qp (za5 L 900 (zab b (((P ++ D1) ++ (Y1 ++ (X1.drop Y1.length ++ (X1.take Y1.length ++ (D2 ++ R))))).flatMap ccs ++ rest) tyC) (r:=zab b (((P ++ D1) ++ (X1.take Y1.length ++ (X1.drop Y1.length ++ (Y1 ++ (D2 ++ R))))).flatMap ccs ++ rest) tyC) rfl rfl rfl rfl rfl (fun u H C hH _ hr hC => (by have h:=zpq (cap:=cap) (a:=mm - X1.length) (e:=mm) (n:=Y1.length) (by rw [List.length_append]; omega) (by omega) lt rfl hlen hm1 fv hH hr hC; exact h))) ?_;refine Z6 ?_;refine Zo ?_;refine ZJ ?_;refine Za3 ?_
   rw [e1]
   exact yi (x:=((D1, X1), (Y1, D2))) ((D1 ++ Y1, X1.drop Y1.length), (X1.take Y1.length, D2)) ⟨by dsimp only; rw [List.length_append]; omega, by dsimp only; omega, by dsimp only; omega, by dsimp only; omega, by
    dsimp only
    rw [← h5]
    conv => rhs; rw [← List.take_append_drop Y1.length X1]
    simp only [List.append_assoc]⟩ (by dsimp only; omega) ⟨rfl, rfl, rfl, rfl, by dsimp only; rw [lt]; rfl, rfl, trivial⟩
  ·have hs2:IntKind.i64.wrap ((Y1.length:Int) - (X1.length:Int)) = ((Y1.take (Y1.length - X1.length)).length:Int):=zaa (by omega) (by omega) |>.trans (by rw [List.length_take]; omega)
   have hs3:IntKind.i64.wrap ((mm:Int) + (Y1.length:Int)) = ((mm + Y1.length:Nat):Int):=zaa (by omega) (by omega)
   have hs4:IntKind.i64.wrap (((mm + Y1.length:Nat):Int) - (X1.length:Int)) = ((mm + Y1.length - X1.length:Nat):Int):=zaa (by omega) (by omega) |>.trans (by omega)
   have lt:(Y1.take (Y1.length - X1.length)).length = Y1.length - X1.length:=by rw [List.length_take]; omega
   have ld:(Y1.drop (Y1.length - X1.length)).length = X1.length:=by rw [List.length_drop]; omega
   have e0:P ++ (D1 ++ (X1 ++ (Y1 ++ (D2 ++ R)))) = (P ++ D1) ++ (X1 ++ (Y1.take (Y1.length - X1.length) ++ (Y1.drop (Y1.length - X1.length) ++ (D2 ++ R)))):=by
    conv => lhs; rw [← List.take_append_drop (Y1.length - X1.length) Y1]
    simp only [List.append_assoc]
   have e1:(P ++ D1) ++ (Y1.drop (Y1.length - X1.length) ++ (Y1.take (Y1.length - X1.length) ++ (X1 ++ (D2 ++ R)))) = P ++ (D1 ++ (Y1.drop (Y1.length - X1.length) ++ (Y1.take (Y1.length - X1.length) ++ ((X1 ++ D2) ++ R)))):=by simp
   have hlen:((P ++ D1) ++ (X1 ++ (Y1.take (Y1.length - X1.length) ++ (Y1.drop (Y1.length - X1.length) ++ (D2 ++ R))))).length = m:=by rw [← e0]; simp only [List.length_append]; omega
   rw [e0]
   refine Zcm ?_;refine ZcA ?_;refine Zcf ?_;refine ZbV ?_;refine Z7 ?_;refine Zdz ?_;refine Zz ?_;refine Z2 ?_;refine Za7 ?_;refine ZbJ ?_;refine Zal ?_;refine Zd ?_;refine qp (za5 L 900 (zab b (((P ++ D1) ++ (Y1.drop (Y1.length - X1.length) ++ (Y1.take (Y1.length - X1.length) ++ (X1 ++ (D2 ++ R))))).flatMap ccs ++ rest) tyC) (r:=zab b (((P ++ D1) ++ (X1 ++ (Y1.take (Y1.length - X1.length) ++ (Y1.drop (Y1.length - X1.length) ++ (D2 ++ R))))).flatMap ccs ++ rest) tyC) rfl rfl rfl rfl rfl (fun u H C hH _ hr hC => (by have h:=zpq (cap:=cap) (a:=mm - X1.length) (e:=mm + Y1.length - X1.length) (n:=X1.length) (by rw [List.length_append]; omega) (by omega) rfl ld hlen hm1 fv hH hr hC; exact h))) ?_;refine Z6 ?_;refine Zp ?_;refine ZJ ?_;refine Za3 ?_
   rw [e1]
   exact yi (x:=((D1, X1), (Y1, D2))) ((D1, Y1.drop (Y1.length - X1.length)), (Y1.take (Y1.length - X1.length), X1 ++ D2)) ⟨by dsimp only; omega, by dsimp only; rw [List.length_append]; omega, by dsimp only; omega, by dsimp only; omega, by
    dsimp only
    rw [← h5]
    conv => rhs; rw [← List.take_append_drop (Y1.length - X1.length) Y1]
    simp only [List.append_assoc]⟩ (by dsimp only; omega) ⟨rfl, rfl, rfl, by dsimp only; rw [ld]; rfl, rfl, rfl, trivial⟩
abbrev ORD:Nat:=134
abbrev zkk:Value:=.func (.func ORD) #[] #[]
theorem zdt {x y:CH} {w:World} {B:Heap} (hB:B.Le (hp w)):Ret Tryz.prog ORD ([chv x.1 x.2, chv y.1 y.2] ++ []) w B (fun r _ => r = .int .i64 (zbh x.1 y.1)):=by
 refine yf Tryz.func134 rfl Tryz.ntmps134 (Nat.le_of_ble_eq_true rfl) hB ?_
 refine Zaf ?_;refine ZS ?_;refine Zcz ?_;refine Zcz ?_;refine z7 (zp L rfl rfl (zk rfl) rfl rfl rfl (fun u H hH _ _ => zds (a:=x.1) (b:=y.1) hH)) rfl ?_;refine Zb ?_
 refine ye L (rs:=[.tmp 4]) rfl (fun _ _ h => h) Since.refl fun u H hH hle => ?_
 rfl
set_option maxHeartbeats 1000000 in
set_option maxRecDepth 20000 in
theorem ins_ret {P X R:List CH} {rest:List Value} {b m cap a e:Nat} (ha:P.length = a) (he:a + X.length = e) (hm:(P ++ (X ++ R)).length = m) (hm1:m ≤ 100000) {w:World} {B:Heap} {C:Nat → Prop} (hB:B.Le (hp w))
  (hr:(zab b ((P ++ (X ++ R)).flatMap ccs ++ rest) tyC).P B w C) (hC:∀ k, C k → k < w.heap.size ∧ B k = none) :
  zcd Tryz.prog 173 [.slice (some ⟨b, 0, none⟩) m cap, .int .i64 a, .int .i64 e, zkk] w B C (zab b ((P ++ (stC X ++ R)).flatMap ccs ++ rest) tyC):=by
 unfold zcd
 refine zau 900 (zab b ((P ++ (X ++ R)).flatMap ccs ++ rest) tyC) Tryz.func173 rfl Tryz.ntmps173 (Nat.le_of_ble_eq_true rfl) hB hr hC ?_
 rw [za6]
 simp only [List.length_append] at hm
 have hst1:stC (X.take 1) = X.take 1:=by rcases X with _ | ⟨x, X⟩ <;> rfl
 refine ZR ?_;refine Za ?_;refine Zcg ?_;refine ZE ?_
 refine zal (fun s:Nat => [(0, .is (.slice (some ⟨b, 0, none⟩) m cap)), (1, .is (.int .i64 a)), (2, .is (.int .i64 e)), (3, .is zkk), (8, .is (.int .i64 (a + s:Nat))), (900, .own (zan b ((P ++ (stC (X.take s) ++ (X.drop s ++ R))).flatMap ccs ++ rest) tyC))]) (fun s => 1 ≤ s ∧ s ≤ max X.length 1) (fun s => X.length - s) 1 ⟨Nat.le_refl _, by omega⟩ ⟨rfl, rfl, rfl, rfl, rfl, by rw [hst1, ← List.append_assoc (X.take 1), List.take_append_drop]; rfl, trivial⟩ ?_
 rintro s ⟨hs1, hs2⟩
 by_cases hlt:s < X.length
 ·obtain ⟨x, hx⟩:=zae hlt
  have hsl:(stC (X.take s)).length = s:=by rw [zfa, List.length_take]; omega
  refine Zc ?_;refine Zae ?_;refine Zd ?_;refine ZbG ?_;refine Zbl ?_;refine Z1 ?_;refine ZE ?_
  refine zal (fun t:List CH × List CH => [(0, .is (.slice (some ⟨b, 0, none⟩) m cap)), (1, .is (.int .i64 a)), (2, .is (.int .i64 e)), (3, .is zkk), (8, .is (.int .i64 (a + s:Nat))), (9, .is (.int .i64 (a + t.1.length:Nat))), (900, .own (zan b ((P ++ (t.1 ++ (x :: (t.2 ++ (X.drop (s + 1) ++ R))))).flatMap ccs ++ rest) tyC))])
   (fun t => t.1 ++ t.2 = stC (X.take s) ∧ ∀ z ∈ t.2, zbh x.1 z.1 < 0) (fun t => t.1.length) (stC (X.take s), []) ⟨List.append_nil _, fun z hz => (by cases hz)⟩ ⟨rfl, rfl, rfl, rfl, rfl, by dsimp only; rw [hsl]; rfl, by dsimp only; rw [zfr hx]; rfl, trivial⟩ ?_
  rintro ⟨A, D⟩ ⟨hAD, hD⟩
  dsimp only at hAD hD ⊢
  have hAl:A.length + D.length = s:=by rw [← List.length_append, hAD, hsl]
  have hfin:(∀ y, A.getLast? = some y → ¬ zbh x.1 y.1 < 0) → P ++ (A ++ (x :: (D ++ (X.drop (s + 1) ++ R)))) = P ++ (stC (X.take (s + 1)) ++ (X.drop (s + 1) ++ R)):=fun h => by
   have:=z2f (k:=fun c:CH => c.1) cmpT_ord (x:=x) hAD hD h
   rw [List.take_add_one, hx]
   unfold stC
   show _ = P ++ (zld (fun c:CH => c.1) zbh (X.take s ++ [x]) ++ _)
   rw [← this]; simp
  rcases List.eq_nil_or_concat A with hA | ⟨A', y, hA⟩
  ·subst hA
   rw [hfin (fun y hy => by simp at hy), List.length_nil, Nat.add_zero]
   refine Zgw ?_;refine Zi ?_;refine Zd9 ?_;refine Ze2 ?_;refine Zf4 ?_;refine Zbj ?_;refine ZbR ?_;refine ZG ?_;refine ZaE ?_
   exact yi (x:=s) (s + 1) ⟨by omega, by omega⟩ (by omega) ⟨rfl, rfl, rfl, rfl, rfl, rfl, trivial⟩
  ·rw [List.concat_eq_append] at hA
   subst hA
   have hl9:(A' ++ [y]).length = A'.length + 1:=by rw [List.length_append, List.length_singleton]
   rw [hl9] at hAl
   have e0:P ++ ((A' ++ [y]) ++ (x :: (D ++ (X.drop (s + 1) ++ R)))) = (P ++ A') ++ y :: ([] ++ x :: (D ++ (X.drop (s + 1) ++ R))):=by simp
   have l1:(P ++ A').length = a + A'.length:=by rw [List.length_append, ha]
   have l2:(P ++ A').length + 1 + ([]:List CH).length = a + (A' ++ [y]).length:=by rw [l1, hl9]; rfl
   have g1:=zi6 (x:=y) (y:=x) (M:=[]) (D:=D ++ (X.drop (s + 1) ++ R)) l1
   have g2:=zi5 (x:=y) (y:=x) (D:=D ++ (X.drop (s + 1) ++ R)) l2
   have g3:=zqv (x:=y) (y:=x) (D:=D ++ (X.drop (s + 1) ++ R)) l1 l2
   have e1:(P ++ A') ++ x :: ([] ++ y :: (D ++ (X.drop (s + 1) ++ R))) = P ++ (A' ++ (x :: ((y :: D) ++ (X.drop (s + 1) ++ R)))):=by simp
   have hlen:((P ++ A') ++ y :: ([] ++ x :: (D ++ (X.drop (s + 1) ++ R)))).length = m:=by rw [← e0]; simp only [List.length_append, List.length_cons, List.length_nil, List.length_drop]; omega
   have hw1:IntKind.i64.wrap (((a + (A' ++ [y]).length:Nat):Int) - 1) = ((a + A'.length:Nat):Int):=zaa (by omega) (by omega) |>.trans (by omega)
   by_cases hc:zbh x.1 y.1 < 0
   ·rw [e0]
    rw [e1] at g3
    generalize (P ++ A') ++ y :: ([] ++ x :: (D ++ (X.drop (s + 1) ++ R))) = K at *
    have h1:=get_lt g1
    have h2:=get_lt g2
    have q1:=zb3 (rest:=rest) g1 (0 + (a + A'.length) * 7) (by omega)
    have q2:=zb3 (rest:=rest) g2 (0 + (a + (A' ++ [y]).length) * 7) (by omega)
    have s1:=zd0 (rest:=rest) (z:=y) h2 (0 + (a + (A' ++ [y]).length) * 7) (by omega)
    have b1:=zd1 (rest:=rest) h2 (0 + (a + (A' ++ [y]).length) * 7) (by omega)
    have h3:a + A'.length < (K.set (a + (A' ++ [y]).length) y).length:=by rw [List.length_set]; exact h1
    have s2:=zd0 (rest:=rest) (z:=x) h3 (0 + (a + A'.length) * 7) (by omega)
    have b2:=zd1 (rest:=rest) h3 (0 + (a + A'.length) * 7) (by omega)
    rw [g3] at s2
    refine Zgw ?_;refine Zi ?_;refine Zdb ?_;refine Zi ?_;refine Zn ?_;refine qn (zay L (q:=900) (vs:=[_, _, _, _, _, _, _]) rfl rfl rfl rfl rfl rfl q2) rfl rfl ?_;refine Zbu ?_;refine qn (zay L (q:=900) (vs:=[_, _, _, _, _, _, _]) rfl rfl rfl rfl rfl rfl q1) rfl rfl ?_;refine z8 (zp L rfl rfl (zk rfl) rfl rfl rfl (fun u H hH _ _ => zdt hH)) rfl ?_;refine ZbE ?_;refine Zb9 ?_;refine ZbT ?_;refine qg (id:=6) [(200046, [900]), (200050, [900]), (100051, [900]), (100052, [900])] mixed (by kernel_rfl) ?_;refine Zi ?_;refine Zfi ?_;refine Zbu ?_;refine qn (zay L (q:=900) (vs:=[_, _, _, _, _, _, _]) rfl rfl rfl rfl rfl rfl q1) rfl rfl ?_;refine Zn ?_;refine qn (zay L (q:=900) (vs:=[_, _, _, _, _, _, _]) rfl rfl rfl rfl rfl rfl q2) rfl rfl ?_;refine Zl ?_;refine zah (yz L (q:=900) rfl rfl rfl rfl rfl rfl b1 rfl s1) rfl ?_;refine Zl ?_;refine zah (yz L (q:=900) rfl rfl rfl rfl rfl rfl b2 rfl s2) rfl ?_;refine Zba ?_;refine Z9 ?_;refine Za7 ?_;refine ZaT ?_
    exact yi (x:=(A' ++ [y], D)) (A', y :: D) ⟨by rw [← hAD]; simp, fun z hz => by
     rcases List.mem_cons.1 hz with rfl | hz
     ·exact hc
     ·exact hD z hz⟩ (by dsimp only; omega) ⟨rfl, rfl, rfl, rfl, rfl, rfl, rfl, trivial⟩
   ·have hf:=hfin (fun z hz => by rw [List.getLast?_append] at hz; simp at hz; subst hz; exact hc)
    rw [e0]
    rw [e0] at hf
    have q1:=zb3 (rest:=rest) g1 (0 + (a + A'.length) * 7) (by omega)
    have q2:=zb3 (rest:=rest) g2 (0 + (a + (A' ++ [y]).length) * 7) (by omega)
    rw [hf] at q1 q2 ⊢
    refine Zgw ?_;refine Zi ?_;refine Zdb ?_;refine Zi ?_;refine Zn ?_;refine qn (zay L (q:=900) (vs:=[_, _, _, _, _, _, _]) rfl rfl rfl rfl rfl rfl q2) rfl rfl ?_;refine Zbu ?_;refine qn (zay L (q:=900) (vs:=[_, _, _, _, _, _, _]) rfl rfl rfl rfl rfl rfl q1) rfl rfl ?_;refine z8 (zp L rfl rfl (zk rfl) rfl rfl rfl (fun u H hH _ _ => zdt hH)) rfl ?_;refine Zda ?_;refine Zbj ?_;refine ZbR ?_;refine ZG ?_;refine ZaE ?_
    exact yi (x:=s) (s + 1) ⟨by omega, by omega⟩ (by omega) ⟨rfl, rfl, rfl, rfl, rfl, rfl, trivial⟩
 ·have hX:P ++ (stC (X.take s) ++ (X.drop s ++ R)) = P ++ (stC X ++ R):=by
   rw [List.take_of_length_le (by omega), List.drop_eq_nil_of_le (by omega), List.nil_append]
  rw [hX]
  refine Zc ?_;refine Zae ?_;refine Zbi ?_;refine ZcO ?_
  exact zbe L 900 (r:=zab b _ tyC) rfl (fun _ _ h => h) Since.refl rfl rfl
end Go.V.L8
set_option maxRecDepth 20000
namespace Go.V
open Go.Proofs Go.RowKit
section
variable {α β:Type} [DecidableEq α] [DecidableEq β] {k:α → β} {c:β → β → Int}
omit [DecidableEq β] in
theorem ztb (ho:Ord3 c) {z y x:β} (h1:¬ c y z < 0) (h2:c y x < 0):c z x < 0:=by
 by_cases h3:c z y < 0
 ·exact ho.tr h3 h2
 ·have:=ho.anti y z
  rw [ho.eq z y (by omega)]; exact h2
omit [DecidableEq β] in
theorem zs9 (ho:Ord3 c) {x y z:β} (h1:c y x < 0) (h2:¬ c z x < 0):c y z < 0:=by
 by_cases h3:c x z < 0
 ·exact ho.tr h1 h3
 ·have:=ho.anti x z
  rw [ho.eq z x (by omega)]; exact h1
structure SymI (k:α → β) (c:β → β → Int) (X Y:List α) (a mid lo hi s r:Nat):Prop where
 ls:lo ≤ s
 sr:s ≤ r
 rh:r ≤ hi
 bef:∀ i x y, lo ≤ i → i < s → X[i - a]? = some x → Y[mid - 1 - i]? = some y → ¬ c (k y) (k x) < 0
 aft:∀ i x y, r ≤ i → i < hi → X[i - a]? = some x → Y[mid - 1 - i]? = some y → c (k y) (k x) < 0
structure z5x (X Y:List α) (a mm e mid lo hi:Nat):Prop where
 lx:a + X.length = mm
 ly:mm + Y.length = e
 al:a ≤ lo
 nl:mid + mm ≤ lo + e
 hm:hi ≤ mid
 hx:hi ≤ mm
 lo_:lo = a ∨ mid + mm = lo + e
 hi_:hi = mm ∨ hi = mid
omit [DecidableEq α] [DecidableEq β] in
theorem SymI.start {X Y:List α} {a mid lo hi:Nat} (h:lo ≤ hi):SymI k c X Y a mid lo hi lo hi:=⟨Nat.le_refl _, h, Nat.le_refl _, fun i x y h1 h2 => by omega, fun i x y h1 h2 => by omega⟩
omit [DecidableEq α] [DecidableEq β] in
theorem SymI.up (ho:Ord3 c) {X Y:List α} (hX:Srt k c X) (hY:Srt k c Y) {a mm e mid lo hi s r i:Nat} {x y:α} (hb:z5x X Y a mm e mid lo hi) (h:SymI k c X Y a mid lo hi s r) (h1:s ≤ i) (h2:i < r) (hx:X[i - a]? = some x) (hy:Y[mid - 1 - i]? = some y) (hc:¬ c (k y) (k x) < 0):SymI k c X Y a mid lo hi (i + 1) r:=by
 obtain ⟨b1, b2, b3, b4, b5, b6, _, _⟩:=hb
 obtain ⟨i1, i2, i3, i4, i5⟩:=h
 refine ⟨by omega, by omega, i3, fun j x' y' hj hji hx' hy' hlt => hc ?_, i5⟩
 have e1:=zfp ho hX hx' hx (by omega)
 have e2:=zfp ho hY hy hy' (by omega)
 exact ztb ho e2 (zs9 ho hlt e1)
omit [DecidableEq α] [DecidableEq β] in
theorem SymI.down (ho:Ord3 c) {X Y:List α} (hX:Srt k c X) (hY:Srt k c Y) {a mm e mid lo hi s r i:Nat} {x y:α} (hb:z5x X Y a mm e mid lo hi) (h:SymI k c X Y a mid lo hi s r) (h1:s ≤ i) (h2:i < r) (hx:X[i - a]? = some x) (hy:Y[mid - 1 - i]? = some y) (hc:c (k y) (k x) < 0):SymI k c X Y a mid lo hi s i:=by
 obtain ⟨b1, b2, b3, b4, b5, b6, _, _⟩:=hb
 obtain ⟨i1, i2, i3, i4, i5⟩:=h
 refine ⟨by omega, by omega, by omega, i4, fun j x' y' hj hji hx' hy' => ?_⟩
 have e1:=zfp ho hX hx hx' (by omega)
 have e2:=zfp ho hY hy' hy (by omega)
 exact ztb ho e2 (zs9 ho hc e1)
theorem zxp (ho:Ord3 c) {X Y:List α} (hX:Srt k c X) (hY:Srt k c Y) {a mm e mid lo hi s:Nat} (hb:z5x X Y a mm e mid lo hi) (h:SymI k c X Y a mid lo hi s s) :
  zld k c (X.take (s - a) ++ Y.take (mid - s)) ++ zld k c (X.drop (s - a) ++ Y.drop (mid - s)) = zld k c (X ++ Y):=by
 obtain ⟨b1, b2, b3, b4, b5, b6, b7, b8⟩:=hb
 obtain ⟨i1, i2, i3, i4, i5⟩:=h
 have hXt:X.take (s - a) ++ X.drop (s - a) = X:=List.take_append_drop _ _
 have hYt:Y.take (mid - s) ++ Y.drop (mid - s) = Y:=List.take_append_drop _ _
 have h12:∀ x ∈ X.drop (s - a), ∀ y ∈ Y.take (mid - s), c (k y) (k x) < 0:=fun x hx y hy => by
  obtain ⟨i, hi⟩:=List.getElem?_of_mem hx
  obtain ⟨j, hj⟩:=List.getElem?_of_mem hy
  have hjl:=get_lt hj
  rw [List.length_take] at hjl
  rw [List.getElem?_drop] at hi
  rw [List.getElem?_take_of_lt (by omega)] at hj
  have hil:=get_lt hi
  obtain ⟨x0, hx0⟩:=zae (l:=X) (i:=s - a) (by omega)
  obtain ⟨y0, hy0⟩:=zae (l:=Y) (i:=mid - 1 - s) (by omega)
  have h0:=i5 s x0 y0 (Nat.le_refl _) (by omega) hx0 hy0
  exact ztb ho (zfp ho hY hj hy0 (by omega)) (zs9 ho h0 (zfp ho hX hx0 hi (by omega)))
 have h21:∀ x ∈ X.take (s - a), ∀ y ∈ Y.drop (mid - s), ¬ c (k y) (k x) < 0:=fun x hx y hy hlt => by
  obtain ⟨i, hi⟩:=List.getElem?_of_mem hx
  obtain ⟨j, hj⟩:=List.getElem?_of_mem hy
  have hil:=get_lt hi
  rw [List.length_take] at hil
  rw [List.getElem?_drop] at hj
  rw [List.getElem?_take_of_lt (by omega)] at hi
  have hjl:=get_lt hj
  obtain ⟨x1, hx1⟩:=zae (l:=X) (i:=s - 1 - a) (by omega)
  obtain ⟨y1, hy1⟩:=zae (l:=Y) (i:=mid - s) (by omega)
  have h0:=i4 (s - 1) x1 y1 (by omega) (by omega) hx1 (by rw [show mid - 1 - (s - 1) = mid - s by omega]; exact hy1)
  exact h0 (ztb ho (zfp ho hY hy1 hj (by omega)) (zs9 ho hlt (zfp ho hX hi hx1 (by omega))))
 have:=zxt ho (by rw [hXt]; exact hX) (by rw [hYt]; exact hY) h12 h21 (zc2 ho _) (zc2 ho _)
 rw [hXt, hYt] at this
 exact zln ho this
theorem z11 (ho:Ord3 c) {x:α} {Y:List α} (hY:Srt k c Y) {i:Nat} (h1:∀ j z, j < i → Y[j]? = some z → c (k z) (k x) < 0) (h2:∀ j z, i ≤ j → Y[j]? = some z → ¬ c (k z) (k x) < 0) :
  Y.take i ++ x :: Y.drop i = zld k c ([x] ++ Y):=by
 have hY':Srt k c (Y.take i ++ Y.drop i):=by rw [List.take_append_drop]; exact hY
 have:=z1i ho (x:=x) hY' (fun z hz => by
  obtain ⟨j, hj⟩:=List.getElem?_of_mem hz
  have hjl:=get_lt hj
  rw [List.length_take] at hjl
  rw [List.getElem?_take_of_lt (by omega)] at hj
  exact h1 j z (by omega) hj) (fun z hz => by
  obtain ⟨j, hj⟩:=List.getElem?_of_mem hz
  rw [List.getElem?_drop] at hj
  exact h2 _ z (by omega) hj)
 rw [List.take_append_drop] at this
 exact zln ho this
theorem z10 (ho:Ord3 c) {x:α} {X:List α} (hX:Srt k c X) {i:Nat} (h1:∀ j z, j < i → X[j]? = some z → ¬ c (k x) (k z) < 0) (h2:∀ j z, i ≤ j → X[j]? = some z → c (k x) (k z) < 0) :
  X.take i ++ x :: X.drop i = zld k c (X ++ [x]):=by
 have hX':Srt k c (X.take i ++ X.drop i):=by rw [List.take_append_drop]; exact hX
 have:=zpr ho (x:=x) hX' (fun z hz => by
  obtain ⟨j, hj⟩:=List.getElem?_of_mem hz
  have hjl:=get_lt hj
  rw [List.length_take] at hjl
  rw [List.getElem?_take_of_lt (by omega)] at hj
  exact h1 j z (by omega) hj) (fun z hz => by
  obtain ⟨j, hj⟩:=List.getElem?_of_mem hz
  rw [List.getElem?_drop] at hj
  exact h2 _ z (by omega) hj)
 rw [List.take_append_drop] at this
 exact zln ho this
end
end Go.V
set_option maxRecDepth 20000
namespace Go.V.L8
open Go.Proofs Go.RowKit Go.V Go.V.L2 Go.V.L3 Go.V.L6
theorem zy4 {P X D:List CH} {a:Nat} (ha:P.length = a) {j:Nat} {x:CH} (h:X[j]? = some x) (i:Nat) (hi:i = a + j):(P ++ (X ++ D))[i]? = some x:=by
 subst hi ha
 have:=get_lt h
 rw [List.getElem?_append_right (by omega), show P.length + j - P.length = j by omega, List.getElem?_append_left this]; exact h
theorem z2j {P X Y D:List CH} {a mm:Nat} (ha:P.length = a) (hx:a + X.length = mm) {j:Nat} {y:CH} (h:Y[j]? = some y) (i:Nat) (hi:i = mm + j):(P ++ (X ++ (Y ++ D)))[i]? = some y:=by
 have e:P ++ (X ++ (Y ++ D)) = (P ++ X) ++ (Y ++ D):=by simp
 rw [e]
 exact zy4 (by rw [List.length_append]; omega) h i hi
abbrev z3g (l:List CH):Prop:=Srt (fun c:CH => c.1) zbh l
theorem zjg (i j:Nat):((i:Int) + (j:Int)).fdiv (2 ^ min (1:Int).toNat IntKind.u64.bits) = ((i + j) / 2:Nat):=by
 show ((i:Int) + (j:Int)).fdiv 2 = _
 rw [Int.fdiv_eq_ediv_of_nonneg _ (by decide)]
 omega
attribute [local irreducible] V N X VO Par StepOK Has Ret RetL RetO RetT zcd Src
abbrev SYM:Nat:=174
set_option maxHeartbeats 4000000 in
set_option maxRecDepth 20000 in
theorem z1d {P Y R:List CH} {x:CH} {rest:List Value} {b m cap a mm e:Nat} (ha:P.length = a) (hmm:a + 1 = mm) (he:mm + Y.length = e) (hY:z3g Y) (hm:(P ++ ([x] ++ (Y ++ R))).length = m) (hm1:m ≤ 100000) {w:World} {B:Heap} {C:Nat → Prop} (hB:B.Le (hp w))
  (hr:(zab b ((P ++ ([x] ++ (Y ++ R))).flatMap ccs ++ rest) tyC).P B w C) (hC:∀ k, C k → k < w.heap.size ∧ B k = none) :
  zcd Tryz.prog SYM [.slice (some ⟨b, 0, none⟩) m cap, .int .i64 a, .int .i64 mm, .int .i64 e, zkk] w B C (zab b ((P ++ (stC ([x] ++ Y) ++ R)).flatMap ccs ++ rest) tyC):=by
 unfold zcd
 refine zau 900 (zab b ((P ++ ([x] ++ (Y ++ R))).flatMap ccs ++ rest) tyC) Tryz.func174 rfl Tryz.ntmps174 (Nat.le_of_ble_eq_true rfl) hB hr hC ?_
 rw [za6]
 have hm':=hm
 simp only [List.length_append, List.length_singleton] at hm'
 refine Zc ?_;refine Zfj ?_;refine Zd ?_;refine ZbI ?_;refine ZbZ ?_;refine Zae ?_;refine Za ?_;refine ZaF ?_;refine Ze ?_;refine qh ?_
 refine zal (fun s:Nat × Nat => [(0, .is (.slice (some ⟨b, 0, none⟩) m cap)), (1, .is (.int .i64 a)), (4, .is zkk), (10, .is (.int .i64 s.1)), (11, .is (.int .i64 s.2)), (900, .own (zan b ((P ++ ([x] ++ (Y ++ R))).flatMap ccs ++ rest) tyC))])
  (fun s => mm ≤ s.1 ∧ s.1 ≤ s.2 ∧ s.2 ≤ e ∧ (∀ (j:Nat) (z:CH), j < s.1 - mm → Y[j]? = some z → zbh z.1 x.1 < 0) ∧ ∀ (j:Nat) (z:CH), s.2 - mm ≤ j → Y[j]? = some z → ¬ zbh z.1 x.1 < 0) (fun s => s.2 - s.1) (mm, e)
  ⟨Nat.le_refl _, by dsimp only; omega, Nat.le_refl _, fun j z h => (by dsimp only at h; omega), fun j z h hz => (by have:=get_lt hz; dsimp only at h; omega)⟩ ⟨rfl, rfl, rfl, rfl, rfl, rfl, trivial⟩ ?_
 rintro ⟨i, j⟩ ⟨h1, h2, h3, h4, h5⟩
 dsimp only at h1 h2 h3 h4 h5 ⊢
 by_cases hlt:i < j
 ·have hsh:=zjg i j
  obtain ⟨h, hh⟩:∃ h, (i + j) / 2 = h:=⟨_, rfl⟩
  rw [hh] at hsh
  obtain ⟨y, hy⟩:=zae (l:=Y) (show h - mm < Y.length by omega)
  have q1:=zb3 (rest:=rest) (z2j (X:=[x]) (D:=R) (mm:=mm) ha hmm hy h (by omega)) (0 + h * 7) (by omega)
  have q2:=zb3 (rest:=rest) (zy4 (X:=[x]) (D:=Y ++ R) ha (j:=0) rfl a (by omega)) (0 + a * 7) (by omega)
  by_cases hc:zbh y.1 x.1 < 0
  ·refine Zez ?_;refine Zen ?_;refine ZcS ?_;refine Zcg ?_;refine z7 (zax rfl rfl rfl zbw.1 zbw.2 (wrap_u64 (by omega) (by omega))) rfl ?_;refine ZeB ?_;refine z7 (zax rfl rfl rfl zbx.1 zbx.2 (zaa (by omega) (by omega))) rfl ?_;refine Ze ?_;refine qg (id:=5) [(200044, [900]), (200048, [900])] mixed (by kernel_rfl) ?_;refine Ze7 ?_;refine qn (zay L (q:=900) (vs:=[_, _, _, _, _, _, _]) rfl rfl rfl rfl rfl rfl q1) rfl rfl ?_;refine Zn ?_;refine qn (zay L (q:=900) (vs:=[_, _, _, _, _, _, _]) rfl rfl rfl rfl rfl rfl q2) rfl rfl ?_;refine z8 (zp L rfl rfl (zk rfl) rfl rfl rfl (fun u H hH _ _ => zdt hH)) rfl ?_;refine ZbE ?_;refine Zaj ?_;refine ZaR ?_;refine ZD ?_;refine ZaE ?_;refine yc ?_
   exact yi (x:=(i, j)) (h + 1, j) ⟨by dsimp only; omega, by dsimp only; omega, h3, fun k z hk hz => by
    dsimp only at hk
    exact ztb cmpT_ord (zfp cmpT_ord hY hz hy (by omega)) hc, h5⟩ (by dsimp only; omega) ⟨rfl, rfl, rfl, rfl, rfl, rfl, trivial⟩
  ·refine Zez ?_;refine Zen ?_;refine ZcS ?_;refine Zcg ?_;refine z7 (zax rfl rfl rfl zbw.1 zbw.2 (wrap_u64 (by omega) (by omega))) rfl ?_;refine ZeB ?_;refine z7 (zax rfl rfl rfl zbx.1 zbx.2 (zaa (by omega) (by omega))) rfl ?_;refine Ze ?_;refine qg (id:=5) [(200044, [900]), (200048, [900])] mixed (by kernel_rfl) ?_;refine Ze7 ?_;refine qn (zay L (q:=900) (vs:=[_, _, _, _, _, _, _]) rfl rfl rfl rfl rfl rfl q1) rfl rfl ?_;refine Zn ?_;refine qn (zay L (q:=900) (vs:=[_, _, _, _, _, _, _]) rfl rfl rfl rfl rfl rfl q2) rfl rfl ?_;refine z8 (zp L rfl rfl (zk rfl) rfl rfl rfl (fun u H hH _ _ => zdt hH)) rfl ?_;refine Zda ?_;refine ZaI ?_;refine Z5 ?_;refine Za3 ?_
   exact yi (x:=(i, j)) (i, h) ⟨h1, by dsimp only; omega, by dsimp only; omega, h4, fun k z hk hz hcx => by
    dsimp only at hk
    exact hc (ztb cmpT_ord (zfp cmpT_ord hY hy hz (by omega)) hcx)⟩ (by dsimp only; omega) ⟨rfl, rfl, rfl, rfl, rfl, rfl, trivial⟩
 ·obtain rfl:i = j:=by omega
  have hfin:=z11 (k:=fun c:CH => c.1) cmpT_ord hY h4 h5
  have hal:(Y.take (i - mm)).length = i - mm:=by rw [List.length_take]; omega
  have hYl:(Y.take (i - mm)).length + (Y.drop (i - mm)).length = Y.length:=by rw [← List.length_append, List.take_append_drop]
  have e0:P ++ ([x] ++ (Y ++ R)) = P ++ ([] ++ (x :: (Y.take (i - mm) ++ (Y.drop (i - mm) ++ R)))):=by
   rw [← List.append_assoc (Y.take _), List.take_append_drop]; rfl
  rw [e0]
  have e9:P ++ (Y.take (i - mm) ++ (x :: (Y.drop (i - mm) ++ R))) = P ++ (stC ([x] ++ Y) ++ R):=by
   unfold stC
   rw [← hfin]; simp
  generalize Y.take (i - mm) = A at *
  generalize Y.drop (i - mm) = D at *
  clear hfin h4 h5 e0
  refine Zez ?_;refine ZbU ?_;refine ZcE ?_;refine ZE ?_
  refine zal (fun t:Nat => [(0, .is (.slice (some ⟨b, 0, none⟩) m cap)), (10, .is (.int .i64 i)), (13, .is (.int .i64 (a + t:Nat))), (900, .own (zan b ((P ++ (A.take t ++ (x :: (A.drop t ++ (D ++ R))))).flatMap ccs ++ rest) tyC))]) (fun t => t ≤ A.length) (fun t => A.length - t) 0 (Nat.zero_le _) ⟨rfl, rfl, rfl, rfl, trivial⟩ ?_
  rintro t ht
  by_cases htl:t < A.length
  ·obtain ⟨z, hz⟩:=zae htl
   have e0:P ++ (A.take t ++ (x :: (A.drop t ++ (D ++ R)))) = (P ++ A.take t) ++ x :: ([] ++ z :: (A.drop (t + 1) ++ (D ++ R))):=by rw [zfr hz]; simp
   have e1:(P ++ A.take t) ++ z :: ([] ++ x :: (A.drop (t + 1) ++ (D ++ R))) = P ++ (A.take (t + 1) ++ (x :: (A.drop (t + 1) ++ (D ++ R)))):=by rw [List.take_add_one, hz]; simp
   have l1:(P ++ A.take t).length = a + t:=by rw [List.length_append, List.length_take]; omega
   have l2:(P ++ A.take t).length + 1 + ([]:List CH).length = a + t + 1:=by rw [l1]; rfl
   have g1:=zi6 (x:=x) (y:=z) (M:=[]) (D:=A.drop (t + 1) ++ (D ++ R)) l1
   have g2:=zi5 (x:=x) (y:=z) (D:=A.drop (t + 1) ++ (D ++ R)) l2
   have g3:=zpn (x:=x) (y:=z) (D:=A.drop (t + 1) ++ (D ++ R)) l1 l2
   rw [e0]
   rw [e1] at g3
   generalize (P ++ A.take t) ++ x :: ([] ++ z :: (A.drop (t + 1) ++ (D ++ R))) = K at *
   have k1:=get_lt g1
   have k2:=get_lt g2
   have hKl:a + t + 1 < m:=by
    have:a + 1 + A.length + D.length ≤ m:=by omega
    omega
   have q1:=zb3 (rest:=rest) g1 (0 + (a + t) * 7) (by omega)
   have q2:=zb3 (rest:=rest) g2 (0 + (a + t + 1) * 7) (by omega)
   have s1:=zd0 (rest:=rest) (z:=z) k1 (0 + (a + t) * 7) (by omega)
   have b1:=zd1 (rest:=rest) k1 (0 + (a + t) * 7) (by omega)
   have k3:a + t + 1 < (K.set (a + t) z).length:=by rw [List.length_set]; exact k2
   have s2:=zd0 (rest:=rest) (z:=x) k3 (0 + (a + t + 1) * 7) (by omega)
   have b2:=zd1 (rest:=rest) k3 (0 + (a + t + 1) * 7) (by omega)
   rw [g3] at s2
   have a1:IntKind.i64.wrap (((a + t:Nat):Int) + 1) = ((a + t + 1:Nat):Int):=zaa (by omega) (by omega)
   refine Zc ?_;refine Zdy ?_;refine ZbI ?_;refine ZbG ?_;refine ZbT ?_;refine qg (id:=11) [(200070, [900]), (200074, [900]), (100075, [900]), (100076, [900])] mixed (by kernel_rfl) ?_;refine ZcP ?_;refine Zab ?_;refine Zi ?_;refine Zab ?_;refine Zl ?_;refine qn (zay L (q:=900) (vs:=[_, _, _, _, _, _, _]) rfl rfl rfl rfl rfl rfl q2) rfl rfl ?_;refine Zn ?_;refine qn (zay L (q:=900) (vs:=[_, _, _, _, _, _, _]) rfl rfl rfl rfl rfl rfl q1) rfl rfl ?_;refine Zl ?_;refine zah (yz L (q:=900) rfl rfl rfl rfl rfl rfl b1 rfl s1) rfl ?_;refine Zl ?_;refine zah (yz L (q:=900) rfl rfl rfl rfl rfl rfl b2 rfl s2) rfl ?_;refine Zba ?_;refine ZcF ?_;refine Zam ?_
   exact yi (x:=t) (t + 1) (by omega) (by omega) ⟨rfl, rfl, rfl, rfl, trivial⟩
  ·have hA:P ++ (A.take t ++ (x :: (A.drop t ++ (D ++ R)))) = P ++ (stC ([x] ++ Y) ++ R):=by
    rw [List.take_of_length_le (by omega), List.drop_eq_nil_of_le (by omega), List.nil_append, e9]
   rw [hA]
   refine Zc ?_;refine Zdy ?_;refine ZbI ?_;refine ZbU ?_
   exact zbm L 900 (r:=zab b _ tyC) rfl (fun _ _ h => h) Since.refl rfl rfl
set_option maxHeartbeats 4000000 in
set_option maxRecDepth 20000 in
theorem z1e {P X R:List CH} {y:CH} {rest:List Value} {b m cap a mm e:Nat} (ha:P.length = a) (hmm:a + X.length = mm) (hx1:¬ X.length = 1) (he:mm + 1 = e) (hX:z3g X) (hm:(P ++ (X ++ ([y] ++ R))).length = m) (hm1:m ≤ 100000) {w:World} {B:Heap} {C:Nat → Prop} (hB:B.Le (hp w))
  (hr:(zab b ((P ++ (X ++ ([y] ++ R))).flatMap ccs ++ rest) tyC).P B w C) (hC:∀ k, C k → k < w.heap.size ∧ B k = none) :
  zcd Tryz.prog SYM [.slice (some ⟨b, 0, none⟩) m cap, .int .i64 a, .int .i64 mm, .int .i64 e, zkk] w B C (zab b ((P ++ (stC (X ++ [y]) ++ R)).flatMap ccs ++ rest) tyC):=by
 unfold zcd
 refine zau 900 (zab b ((P ++ (X ++ ([y] ++ R))).flatMap ccs ++ rest) tyC) Tryz.func174 rfl Tryz.ntmps174 (Nat.le_of_ble_eq_true rfl) hB hr hC ?_
 rw [za6]
 have hm':=hm
 simp only [List.length_append, List.length_singleton] at hm'
 refine Zc ?_;refine Zfj ?_;refine Zd ?_;refine ZbI ?_;refine Zbs ?_;refine ZQ ?_;refine Zd ?_;refine ZbI ?_;refine ZbZ ?_;refine Zcs ?_;refine Ze ?_;refine Zem ?_;refine Ze ?_;refine qh ?_
 refine zal (fun s:Nat × Nat => [(0, .is (.slice (some ⟨b, 0, none⟩) m cap)), (2, .is (.int .i64 mm)), (4, .is zkk), (14, .is (.int .i64 s.1)), (15, .is (.int .i64 s.2)), (900, .own (zan b ((P ++ (X ++ ([y] ++ R))).flatMap ccs ++ rest) tyC))])
  (fun s => a ≤ s.1 ∧ s.1 ≤ s.2 ∧ s.2 ≤ mm ∧ (∀ (j:Nat) (z:CH), j < s.1 - a → X[j]? = some z → ¬ zbh y.1 z.1 < 0) ∧ ∀ (j:Nat) (z:CH), s.2 - a ≤ j → X[j]? = some z → zbh y.1 z.1 < 0) (fun s => s.2 - s.1) (a, mm)
  ⟨Nat.le_refl _, by dsimp only; omega, Nat.le_refl _, fun j z h => (by dsimp only at h; omega), fun j z h hz => (by have:=get_lt hz; dsimp only at h; omega)⟩ ⟨rfl, rfl, rfl, rfl, rfl, rfl, trivial⟩ ?_
 rintro ⟨i, j⟩ ⟨h1, h2, h3, h4, h5⟩
 dsimp only at h1 h2 h3 h4 h5 ⊢
 by_cases hlt:i < j
 ·have hsh:=zjg i j
  obtain ⟨h, hh⟩:∃ h, (i + j) / 2 = h:=⟨_, rfl⟩
  rw [hh] at hsh
  obtain ⟨x, hx⟩:=zae (l:=X) (show h - a < X.length by omega)
  have q1:=zb3 (rest:=rest) (z2j (Y:=[y]) (D:=R) ha hmm (j:=0) rfl mm (by omega)) (0 + mm * 7) (by omega)
  have q2:=zb3 (rest:=rest) (zy4 (D:=[y] ++ R) ha hx h (by omega)) (0 + h * 7) (by omega)
  by_cases hc:zbh y.1 x.1 < 0
  ·refine Zc ?_;refine Za9 ?_;refine Zd ?_;refine Zen ?_;refine Zap ?_;refine Zd ?_;refine Zcg ?_;refine z7 (zax rfl rfl rfl zbw.1 zbw.2 (wrap_u64 (by omega) (by omega))) rfl ?_;refine ZeB ?_;refine z7 (zax rfl rfl rfl zbx.1 zbx.2 (zaa (by omega) (by omega))) rfl ?_;refine Ze ?_;refine qg (id:=17) [(200096, [900]), (200100, [900])] mixed (by kernel_rfl) ?_;refine Ze7 ?_;refine qn (zay L (q:=900) (vs:=[_, _, _, _, _, _, _]) rfl rfl rfl rfl rfl rfl q1) rfl rfl ?_;refine Zn ?_;refine qn (zay L (q:=900) (vs:=[_, _, _, _, _, _, _]) rfl rfl rfl rfl rfl rfl q2) rfl rfl ?_;refine z8 (zp L rfl rfl (zk rfl) rfl rfl rfl (fun u H hH _ _ => zdt hH)) rfl ?_;refine ZbE ?_;refine ZI ?_;refine ZaI ?_;refine ZbA ?_;refine Za ?_;refine Za3 ?_
   exact yi (x:=(i, j)) (i, h) ⟨h1, by dsimp only; omega, by dsimp only; omega, h4, fun k z hk hz => by
    dsimp only at hk
    exact zs9 cmpT_ord hc (zfp cmpT_ord hX hx hz (by omega))⟩ (by dsimp only; omega) ⟨rfl, rfl, rfl, rfl, rfl, rfl, trivial⟩
  ·refine Zc ?_;refine Za9 ?_;refine Zd ?_;refine Zen ?_;refine Zap ?_;refine Zd ?_;refine Zcg ?_;refine z7 (zax rfl rfl rfl zbw.1 zbw.2 (wrap_u64 (by omega) (by omega))) rfl ?_;refine ZeB ?_;refine z7 (zax rfl rfl rfl zbx.1 zbx.2 (zaa (by omega) (by omega))) rfl ?_;refine Ze ?_;refine qg (id:=17) [(200096, [900]), (200100, [900])] mixed (by kernel_rfl) ?_;refine Ze7 ?_;refine qn (zay L (q:=900) (vs:=[_, _, _, _, _, _, _]) rfl rfl rfl rfl rfl rfl q1) rfl rfl ?_;refine Zn ?_;refine qn (zay L (q:=900) (vs:=[_, _, _, _, _, _, _]) rfl rfl rfl rfl rfl rfl q2) rfl rfl ?_;refine z8 (zp L rfl rfl (zk rfl) rfl rfl rfl (fun u H hH _ _ => zdt hH)) rfl ?_;refine Zda ?_;refine ZI ?_;refine Zaj ?_;refine ZaR ?_;refine Zbt ?_;refine ZaE ?_;refine yc ?_
   exact yi (x:=(i, j)) (h + 1, j) ⟨by dsimp only; omega, by dsimp only; omega, h3, fun k z hk hz hcx => by
    dsimp only at hk
    exact hc (zs9 cmpT_ord hcx (zfp cmpT_ord hX hz hx (by omega))), h5⟩ (by dsimp only; omega) ⟨rfl, rfl, rfl, rfl, rfl, rfl, trivial⟩
 ·obtain rfl:i = j:=by omega
  have hfin:=z10 (k:=fun c:CH => c.1) cmpT_ord hX h4 h5
  have hal:(X.take (i - a)).length = i - a:=by rw [List.length_take]; omega
  have hXl:(X.take (i - a)).length + (X.drop (i - a)).length = X.length:=by rw [← List.length_append, List.take_append_drop]
  have e0:P ++ (X ++ ([y] ++ R)) = P ++ (X.take (i - a) ++ (X.drop (i - a) ++ (y :: ([] ++ R)))):=by
   rw [← List.append_assoc (X.take _), List.take_append_drop]; rfl
  rw [e0]
  have e9:P ++ (X.take (i - a) ++ (y :: (X.drop (i - a) ++ R))) = P ++ (stC (X ++ [y]) ++ R):=by
   unfold stC
   rw [← hfin]; simp
  generalize X.take (i - a) = A at *
  generalize X.drop (i - a) = D at *
  clear hfin h4 h5 e0
  have hk0:mm = i + D.length:=by omega
  refine Zc ?_;refine Za9 ?_;refine Zd ?_;refine ZbU ?_;refine Zc ?_;refine ZaP ?_;refine Za ?_;refine ZE ?_
  refine zal (fun t:Nat => [(0, .is (.slice (some ⟨b, 0, none⟩) m cap)), (14, .is (.int .i64 i)), (17, .is (.int .i64 (i + t:Nat))), (900, .own (zan b ((P ++ (A ++ (D.take t ++ (y :: (D.drop t ++ R))))).flatMap ccs ++ rest) tyC))]) (fun t => t ≤ D.length) (fun t => t) D.length (Nat.le_refl _) ⟨rfl, rfl, by rw [← hk0]; rfl, by rw [List.take_length, List.drop_length]; rfl, trivial⟩ ?_
  rintro t ht
  rcases t with _ | t
  ·rw [List.take_zero, List.drop_zero, List.nil_append, e9, Nat.add_zero]
   refine Zc ?_;refine ZeS ?_;refine Zd ?_;refine Z7 ?_;refine Zcl ?_
   exact zbm L 900 (r:=zab b _ tyC) rfl (fun _ _ h => h) Since.refl rfl rfl
  ·obtain ⟨z, hz⟩:=zae (l:=D) (show t < D.length by omega)
   have e0:P ++ (A ++ (D.take (t + 1) ++ (y :: (D.drop (t + 1) ++ R)))) = (P ++ (A ++ D.take t)) ++ z :: ([] ++ y :: (D.drop (t + 1) ++ R)):=by rw [List.take_add_one, hz]; simp
   have e1:(P ++ (A ++ D.take t)) ++ y :: ([] ++ z :: (D.drop (t + 1) ++ R)) = P ++ (A ++ (D.take t ++ (y :: (D.drop t ++ R)))):=by rw [zfr hz]; simp
   have l1:(P ++ (A ++ D.take t)).length = i + t:=by rw [List.length_append, List.length_append, List.length_take]; omega
   have l2:(P ++ (A ++ D.take t)).length + 1 + ([]:List CH).length = i + (t + 1):=by rw [l1]; rfl
   have g1:=zi6 (x:=z) (y:=y) (M:=[]) (D:=D.drop (t + 1) ++ R) l1
   have g2:=zi5 (x:=z) (y:=y) (D:=D.drop (t + 1) ++ R) l2
   have g3:=zqv (x:=z) (y:=y) (D:=D.drop (t + 1) ++ R) l1 l2
   rw [e0]
   rw [e1] at g3
   generalize (P ++ (A ++ D.take t)) ++ z :: ([] ++ y :: (D.drop (t + 1) ++ R)) = K at *
   have k1:=get_lt g1
   have k2:=get_lt g2
   have hKl:i + (t + 1) < m:=by omega
   have q1:=zb3 (rest:=rest) g1 (0 + (i + t) * 7) (by omega)
   have q2:=zb3 (rest:=rest) g2 (0 + (i + (t + 1)) * 7) (by omega)
   have s1:=zd0 (rest:=rest) (z:=z) k2 (0 + (i + (t + 1)) * 7) (by omega)
   have b1:=zd1 (rest:=rest) k2 (0 + (i + (t + 1)) * 7) (by omega)
   have k3:i + t < (K.set (i + (t + 1)) z).length:=by rw [List.length_set]; exact k1
   have s2:=zd0 (rest:=rest) (z:=y) k3 (0 + (i + t) * 7) (by omega)
   have b2:=zd1 (rest:=rest) k3 (0 + (i + t) * 7) (by omega)
   rw [g3] at s2
   have a1:IntKind.i64.wrap (((i + (t + 1):Nat):Int) - 1) = ((i + t:Nat):Int):=zaa (by omega) (by omega) |>.trans (by omega)
   refine Zc ?_;refine ZeS ?_;refine Zd ?_;refine ZC ?_;refine ZW ?_;refine ZbT ?_;refine qg (id:=23) [(200122, [900]), (200126, [900]), (100127, [900]), (100128, [900])] mixed (by kernel_rfl) ?_;refine Zi ?_;refine Zfi ?_;refine Zbu ?_;refine qn (zay L (q:=900) (vs:=[_, _, _, _, _, _, _]) rfl rfl rfl rfl rfl rfl q1) rfl rfl ?_;refine Zn ?_;refine qn (zay L (q:=900) (vs:=[_, _, _, _, _, _, _]) rfl rfl rfl rfl rfl rfl q2) rfl rfl ?_;refine Zl ?_;refine zah (yz L (q:=900) rfl rfl rfl rfl rfl rfl b1 rfl s1) rfl ?_;refine Zl ?_;refine zah (yz L (q:=900) rfl rfl rfl rfl rfl rfl b2 rfl s2) rfl ?_;refine Zba ?_;refine ZbN ?_;refine Zal ?_;refine ZaT ?_
   exact yi (x:=t + 1) t (by omega) (by omega) ⟨rfl, rfl, rfl, rfl, trivial⟩
end Go.V.L8
set_option maxRecDepth 20000
namespace Go.V.L8
open Go.Proofs Go.RowKit Go.V Go.V.L2 Go.V.L3 Go.V.L6
theorem zv9 {l:List CH} (h:l.length = 1):∃ x, l = [x]:=by
 rcases l with _ | ⟨x, _ | ⟨y, l⟩⟩
 ·simp at h
 ·exact ⟨x, rfl⟩
 ·simp at h
theorem zmk {l:List CH} (h:z3g l):stC l = l:=zxu cmpT_ord h
attribute [local irreducible] V N X VO Par StepOK Has Ret RetL RetO RetT zcd Src
set_option maxHeartbeats 8000000 in
set_option maxRecDepth 20000 in
theorem zuh (N0:Nat):∀ {P X Y R:List CH} {rest:List Value} {b m cap a mm e:Nat}, X.length + Y.length ≤ N0 → P.length = a → a + X.length = mm → mm + Y.length = e → 0 < X.length → 0 < Y.length → z3g X → z3g Y → (P ++ (X ++ (Y ++ R))).length = m → m ≤ 100000 → ∀ {w:World} {B:Heap} {C:Nat → Prop}, B.Le (hp w) →
  (zab b ((P ++ (X ++ (Y ++ R))).flatMap ccs ++ rest) tyC).P B w C → (∀ k, C k → k < w.heap.size ∧ B k = none) →
  zcd Tryz.prog SYM [.slice (some ⟨b, 0, none⟩) m cap, .int .i64 a, .int .i64 mm, .int .i64 e, zkk] w B C (zab b ((P ++ (stC (X ++ Y) ++ R)).flatMap ccs ++ rest) tyC):=by
 induction N0 with
 | zero => intro P X Y R rest b m cap a mm e h1 h2 h3 h4 h5; omega
 | succ N0 ih =>
 intro P X Y R rest b m cap a mm e hN ha hmm he hx hy hX hY hm hm1 w B C hB hr hC
 by_cases hx1:X.length = 1
 ·obtain ⟨x, rfl⟩:=zv9 hx1
  exact z1d ha (by simpa using hmm) he hY hm hm1 hB hr hC
 by_cases hy1:Y.length = 1
 ·obtain ⟨y, rfl⟩:=zv9 hy1
  exact z1e ha hmm hx1 (by simpa using he) hX hm hm1 hB hr hC
 unfold zcd
 refine zau 900 (zab b ((P ++ (X ++ (Y ++ R))).flatMap ccs ++ rest) tyC) Tryz.func174 rfl Tryz.ntmps174 (Nat.le_of_ble_eq_true rfl) hB hr hC ?_
 rw [za6]
 have hm':=hm
 simp only [List.length_append] at hm'
 have hsh:=zjg a e
 obtain ⟨mid, hmid⟩:∃ mid, (a + e) / 2 = mid:=⟨_, rfl⟩
 rw [hmid] at hsh
 have hnn:IntKind.i64.wrap ((mid:Int) + (mm:Int)) = ((mid + mm:Nat):Int):=zaa (by omega) (by omega)
 refine Zc ?_;refine Zfj ?_;refine Zd ?_;refine ZbI ?_;refine Zbs ?_;refine ZQ ?_;refine Zd ?_;refine ZbI ?_;refine Zax ?_;refine zf (id:=24) ?_;refine Zd ?_;refine Zcg ?_;refine z7 (zax rfl rfl rfl zbw.1 zbw.2 (wrap_u64 (by omega) (by omega))) rfl ?_;refine ZeB ?_;refine z7 (zax rfl rfl rfl zbx.1 zbx.2 (zaa (by omega) (by omega))) rfl ?_;refine Ze ?_;refine zf (id:=25) ?_;refine ZbJ ?_;refine Ze ?_;refine zf (id:=26) ?_;refine ZaW ?_
 refine zfo (fun s:Nat × Nat => [(0, .is (.slice (some ⟨b, 0, none⟩) m cap)), (1, .is (.int .i64 a)), (2, .is (.int .i64 mm)), (3, .is (.int .i64 e)), (4, .is zkk), (18, .is (.int .i64 mid)), (19, .is (.int .i64 (mid + mm:Nat))), (20, .is (.int .i64 s.1)), (21, .is (.int .i64 s.2)), (900, .own (zan b ((P ++ (X ++ (Y ++ R))).flatMap ccs ++ rest) tyC))]) (fun s => z5x X Y a mm e mid s.1 s.2 ∧ s.1 ≤ s.2) (fun _ => []) ?rest ?first
 case first =>
  by_cases hgt:mid < mm
  ·have hs:IntKind.i64.wrap (((mid + mm:Nat):Int) - (e:Int)) = ((mid + mm - e:Nat):Int):=zaa (by omega) (by omega) |>.trans (by omega)
   refine zf (id:=27) ?_;refine Zd ?_;refine ZC ?_;refine Z0 ?_;refine zf (id:=28) ?_;refine ZJ ?_;refine Zb ?_;refine zf (id:=29) ?_;refine Za ?_;refine ZaT ?_
   exact za7 (mid + mm - e, mid) Since.refl ⟨⟨hmm, he, by dsimp only; omega, by dsimp only; omega, Nat.le_refl _, by dsimp only; omega, .inr (by dsimp only; omega), .inr rfl⟩, by dsimp only; omega⟩ rfl ⟨rfl, rfl, rfl, rfl, rfl, rfl, rfl, rfl, rfl, rfl, trivial⟩
  ·refine zf (id:=27) ?_;refine Zd ?_;refine Z7 ?_;refine Zdz ?_;refine zf (id:=30) ?_;refine Za ?_;refine Zb ?_;refine zf (id:=31) ?_;refine Za ?_;refine ZaT ?_
   exact za7 (a, mm) Since.refl ⟨⟨hmm, he, Nat.le_refl _, by dsimp only; omega, by dsimp only; omega, Nat.le_refl _, .inl rfl, .inl rfl⟩, by dsimp only; omega⟩ rfl ⟨rfl, rfl, rfl, rfl, rfl, rfl, rfl, rfl, rfl, rfl, trivial⟩
 case rest =>
 rintro ⟨lo, hi⟩ ⟨hb, hlh⟩
 dsimp only at hb hlh ⊢
 have hp:IntKind.i64.wrap (((mid + mm:Nat):Int) - 1) = ((mid + mm - 1:Nat):Int):=zaa (by omega) (by omega) |>.trans (by omega)
 refine zh ?_;refine zf (id:=32) ?_;refine Zal ?_;refine Ze ?_;refine qh ?_
 refine zal (fun s:Nat × Nat => [(0, .is (.slice (some ⟨b, 0, none⟩) m cap)), (1, .is (.int .i64 a)), (2, .is (.int .i64 mm)), (3, .is (.int .i64 e)), (4, .is zkk), (18, .is (.int .i64 mid)), (19, .is (.int .i64 (mid + mm:Nat))), (20, .is (.int .i64 s.1)), (21, .is (.int .i64 s.2)), (22, .is (.int .i64 (mid + mm - 1:Nat))), (900, .own (zan b ((P ++ (X ++ (Y ++ R))).flatMap ccs ++ rest) tyC))])
  (fun s => SymI (fun c:CH => c.1) zbh X Y a mid lo hi s.1 s.2) (fun s => s.2 - s.1) (lo, hi) (SymI.start hlh) ⟨rfl, rfl, rfl, rfl, rfl, rfl, rfl, rfl, rfl, rfl, rfl, trivial⟩ ?_
 rintro ⟨i, j⟩ hI
 dsimp only at hI ⊢
 have hI':=hI
 have hb':=hb
 obtain ⟨b1, b2, b3, b4, b5, b6, _, _⟩:=hb'
 obtain ⟨i1, i2, i3, _, _⟩:=hI'
 by_cases hlt:i < j
 ·have hsc:=zjg i j
  obtain ⟨c, hc⟩:∃ c, (i + j) / 2 = c:=⟨_, rfl⟩
  rw [hc] at hsc
  obtain ⟨x, hxc⟩:=zae (l:=X) (show c - a < X.length by omega)
  obtain ⟨y, hyc⟩:=zae (l:=Y) (show mid - 1 - c < Y.length by omega)
  have q1:=zb3 (rest:=rest) (z2j (D:=R) ha hmm hyc (mid + mm - 1 - c) (by omega)) (0 + (mid + mm - 1 - c) * 7) (by omega)
  have q2:=zb3 (rest:=rest) (zy4 (D:=Y ++ R) ha hxc c (by omega)) (0 + c * 7) (by omega)
  have hpc:IntKind.i64.wrap (((mid + mm - 1:Nat):Int) - (c:Int)) = ((mid + mm - 1 - c:Nat):Int):=zaa (by omega) (by omega) |>.trans (by omega)
  by_cases hcm:zbh y.1 x.1 < 0
  ·refine Zc ?_;refine zf (id:=33) ?_;refine Zd ?_;refine Zen ?_;refine zf (id:=34) ?_;refine Zd ?_;refine Zcg ?_;refine z7 (zax rfl rfl rfl zbw.1 zbw.2 (wrap_u64 (by omega) (by omega))) rfl ?_;refine ZeB ?_;refine z7 (zax rfl rfl rfl zbx.1 zbx.2 (zaa (by omega) (by omega))) rfl ?_;refine Ze ?_;refine qg (id:=35) [(200164, [900]), (200168, [900])] mixed (by kernel_rfl) ?_;refine Zi ?_;refine Zbu ?_;refine qn (zay L (q:=900) (vs:=[_, _, _, _, _, _, _]) rfl rfl rfl rfl rfl rfl q1) rfl rfl ?_;refine Zn ?_;refine qn (zay L (q:=900) (vs:=[_, _, _, _, _, _, _]) rfl rfl rfl rfl rfl rfl q2) rfl rfl ?_;refine z8 (zp L rfl rfl (zk rfl) rfl rfl rfl (fun u H hH _ _ => zdt hH)) rfl ?_;refine ZbE ?_;refine ZI ?_;refine ZaI ?_;refine zf (id:=37) ?_;refine Za ?_;refine Za3 ?_
   exact yi (x:=(i, j)) (i, c) (hI.down cmpT_ord hX hY hb (by omega) (by omega) hxc hyc hcm) (by dsimp only; omega) ⟨rfl, rfl, rfl, rfl, rfl, rfl, rfl, rfl, rfl, rfl, rfl, trivial⟩
  ·refine Zc ?_;refine zf (id:=33) ?_;refine Zd ?_;refine Zen ?_;refine zf (id:=34) ?_;refine Zd ?_;refine Zcg ?_;refine z7 (zax rfl rfl rfl zbw.1 zbw.2 (wrap_u64 (by omega) (by omega))) rfl ?_;refine ZeB ?_;refine z7 (zax rfl rfl rfl zbx.1 zbx.2 (zaa (by omega) (by omega))) rfl ?_;refine Ze ?_;refine qg (id:=35) [(200164, [900]), (200168, [900])] mixed (by kernel_rfl) ?_;refine Zi ?_;refine Zbu ?_;refine qn (zay L (q:=900) (vs:=[_, _, _, _, _, _, _]) rfl rfl rfl rfl rfl rfl q1) rfl rfl ?_;refine Zn ?_;refine qn (zay L (q:=900) (vs:=[_, _, _, _, _, _, _]) rfl rfl rfl rfl rfl rfl q2) rfl rfl ?_;refine z8 (zp L rfl rfl (zk rfl) rfl rfl rfl (fun u H hH _ _ => zdt hH)) rfl ?_;refine Zda ?_;refine ZI ?_;refine Zaj ?_;refine ZaR ?_;refine zf (id:=36) ?_;refine Za ?_;refine ZaE ?_;refine yc ?_
   exact yi (x:=(i, j)) (c + 1, j) (hI.up cmpT_ord hX hY hb (by omega) (by omega) hxc hyc hcm) (by dsimp only; omega) ⟨rfl, rfl, rfl, rfl, rfl, rfl, rfl, rfl, rfl, rfl, rfl, trivial⟩
 ·obtain rfl:i = j:=by omega
  have hj:=zxp cmpT_ord hX hY hb hI
  have hen:IntKind.i64.wrap (((mid + mm:Nat):Int) - (i:Int)) = ((mid + mm - i:Nat):Int):=zaa (by omega) (by omega) |>.trans (by omega)
  refine Zc ?_;refine zf (id:=33) ?_;refine Zd ?_;refine Zey ?_;refine zf (id:=38) ?_;refine ZJ ?_;refine Zj ?_
  have eX:X.take (i - a) ++ X.drop (i - a) = X:=List.take_append_drop _ _
  have eY:Y.take (mid - i) ++ Y.drop (mid - i) = Y:=List.take_append_drop _ _
  have lA1:(X.take (i - a)).length = i - a:=by rw [List.length_take]; omega
  have lA2:(X.drop (i - a)).length = mm - i:=by rw [List.length_drop]; omega
  have lB1:(Y.take (mid - i)).length = mid - i:=by rw [List.length_take]; omega
  have lB2:(Y.drop (mid - i)).length = e - (mid + mm - i):=by rw [List.length_drop]; omega
  generalize X.take (i - a) = A1 at *
  generalize X.drop (i - a) = A2 at *
  generalize Y.take (mid - i) = B1 at *
  generalize Y.drop (mid - i) = B2 at *
  change stC (A1 ++ B1) ++ stC (A2 ++ B2) = stC (X ++ Y) at hj
  rw [← hj]
  subst eX eY
  obtain ⟨sA1, sA2, _⟩:=zee.1 hX
  obtain ⟨sB1, sB2, _⟩:=zee.1 hY
  clear hI hb hj hX hY
  obtain ⟨en, hend⟩:∃ en, mid + mm - i = en:=⟨_, rfl⟩
  rw [hend] at lB2 ⊢
  have e0:P ++ ((A1 ++ A2) ++ ((B1 ++ B2) ++ R)) = (P ++ A1) ++ (A2 ++ (B1 ++ (B2 ++ R))):=by simp
  have e1:(P ++ A1) ++ (B1 ++ (A2 ++ (B2 ++ R))) = P ++ (A1 ++ (B1 ++ (A2 ++ (B2 ++ R)))):=by simp
  have hlen1:((P ++ A1) ++ (A2 ++ (B1 ++ (B2 ++ R)))).length = m:=by rw [← e0]; exact hm
  have hlen2:(P ++ (A1 ++ (B1 ++ (A2 ++ (B2 ++ R))))).length = m:=by simp only [List.length_append] at hm' ⊢; omega
  have hl3:=zfa (A1 ++ B1)
  rw [List.length_append] at hl3
  have e3:P ++ (stC (A1 ++ B1) ++ (A2 ++ (B2 ++ R))) = (P ++ stC (A1 ++ B1)) ++ (A2 ++ (B2 ++ R)):=by simp
  have hlen3:((P ++ stC (A1 ++ B1)) ++ (A2 ++ (B2 ++ R))).length = m:=by simp only [List.length_append] at hm' ⊢; omega
  have e4:(P ++ stC (A1 ++ B1)) ++ (stC (A2 ++ B2) ++ R) = P ++ ((stC (A1 ++ B1) ++ stC (A2 ++ B2)) ++ R):=by simp
  simp only [List.length_append] at hm' hmm he hN
  refine zfo (fun _:Unit => [(0, .is (.slice (some ⟨b, 0, none⟩) m cap)), (1, .is (.int .i64 a)), (3, .is (.int .i64 e)), (4, .is zkk), (18, .is (.int .i64 mid)), (20, .is (.int .i64 i)), (24, .is (.int .i64 en)), (900, .own (zan b ((P ++ (A1 ++ (B1 ++ (A2 ++ (B2 ++ R))))).flatMap ccs ++ rest) tyC))]) (fun _ => True) (fun _ => []) ?rest1 ?first1
  case first1 =>
   rw [e0]
   by_cases h1:i < mm
   ·by_cases h2:mm < en
    ·refine zf (id:=39) ?_;refine Zd ?_;refine ZdU ?_;refine ZT ?_;refine Zar ?_;refine zf (id:=40) ?_;refine Zd ?_;refine Z2 ?_;refine qp (za5 L 900 (zab b (((P ++ A1) ++ (B1 ++ (A2 ++ (B2 ++ R)))).flatMap ccs ++ rest) tyC) (r:=zab b (((P ++ A1) ++ (A2 ++ (B1 ++ (B2 ++ R)))).flatMap ccs ++ rest) tyC) rfl rfl rfl rfl rfl (fun u H C hH _ hr hC => (by have h:=z1n (cap:=cap) (a:=i) (mm:=mm) (e:=en) (by rw [List.length_append]; omega) (by omega) (by omega) (by omega) (by omega) hlen1 hm1 zkk hH hr hC; exact h))) ?_;refine zi ?_
     rw [e1]
     exact za7 () Since.refl trivial rfl ⟨rfl, rfl, rfl, rfl, rfl, rfl, rfl, rfl, trivial⟩
    ·have hB1:B1 = []:=List.eq_nil_of_length_eq_zero (by omega)
     subst hB1
     have e9:(P ++ A1) ++ (A2 ++ ([] ++ (B2 ++ R))) = P ++ (A1 ++ ([] ++ (A2 ++ (B2 ++ R)))):=by simp
     rw [e9]
     refine zf (id:=39) ?_;refine Zd ?_;refine ZdU ?_;refine Z4 ?_;refine Zg ?_;refine ZaC ?_
     exact za7 () Since.refl trivial rfl ⟨rfl, rfl, rfl, rfl, rfl, rfl, rfl, rfl, trivial⟩
   ·have hA2:A2 = []:=List.eq_nil_of_length_eq_zero (by omega)
    subst hA2
    have e9:(P ++ A1) ++ ([] ++ (B1 ++ (B2 ++ R))) = P ++ (A1 ++ (B1 ++ ([] ++ (B2 ++ R)))):=by simp
    rw [e9]
    refine zf (id:=39) ?_;refine Zbi ?_;refine ZaS ?_;refine ZaC ?_
    exact za7 () Since.refl trivial rfl ⟨rfl, rfl, rfl, rfl, rfl, rfl, rfl, rfl, trivial⟩
  case rest1 =>
  rintro _ _
  refine Zc ?_
  refine zfo (fun _:Unit => [(0, .is (.slice (some ⟨b, 0, none⟩) m cap)), (3, .is (.int .i64 e)), (4, .is zkk), (18, .is (.int .i64 mid)), (24, .is (.int .i64 en)), (900, .own (zan b (((P ++ stC (A1 ++ B1)) ++ (A2 ++ (B2 ++ R))).flatMap ccs ++ rest) tyC))]) (fun _ => True) (fun _ => []) ?rest2 ?first2
  case first2 =>
   rw [← e3]
   by_cases h1:a < i
   ·by_cases h2:i < mid
    ·refine zf (id:=41) ?_;refine Zd ?_;refine ZdU ?_;refine ZT ?_;refine Zar ?_;refine zf (id:=42) ?_;refine Zd ?_;refine Z2 ?_;refine qp (za5 L 900 (zab b ((P ++ (stC (A1 ++ B1) ++ (A2 ++ (B2 ++ R)))).flatMap ccs ++ rest) tyC) (r:=zab b ((P ++ (A1 ++ (B1 ++ (A2 ++ (B2 ++ R))))).flatMap ccs ++ rest) tyC) rfl rfl rfl rfl rfl (fun u H C hH _ hr hC => (by have h:=ih (cap:=cap) (a:=a) (mm:=i) (e:=mid) (by omega) ha (by omega) (by omega) (by omega) (by omega) sA1 sB1 hlen2 hm1 hH hr hC; exact h))) ?_;refine zi ?_
     exact za7 () Since.refl trivial rfl ⟨rfl, rfl, rfl, rfl, rfl, rfl, trivial⟩
    ·have hB1:B1 = []:=List.eq_nil_of_length_eq_zero (by omega)
     subst hB1
     have e9:P ++ (A1 ++ ([] ++ (A2 ++ (B2 ++ R)))) = P ++ (stC (A1 ++ []) ++ (A2 ++ (B2 ++ R))):=by rw [List.append_nil, zmk sA1]; rfl
     rw [e9]
     refine zf (id:=41) ?_;refine Zd ?_;refine ZdU ?_;refine Z4 ?_;refine Zg ?_;refine ZaC ?_
     exact za7 () Since.refl trivial rfl ⟨rfl, rfl, rfl, rfl, rfl, rfl, trivial⟩
   ·have hA1:A1 = []:=List.eq_nil_of_length_eq_zero (by omega)
    subst hA1
    have e9:P ++ ([] ++ (B1 ++ (A2 ++ (B2 ++ R)))) = P ++ (stC ([] ++ B1) ++ (A2 ++ (B2 ++ R))):=by rw [List.nil_append, List.nil_append, zmk sB1]
    rw [e9]
    refine zf (id:=41) ?_;refine Zbi ?_;refine ZaS ?_;refine ZaC ?_
    exact za7 () Since.refl trivial rfl ⟨rfl, rfl, rfl, rfl, rfl, rfl, trivial⟩
  case rest2 =>
  rintro _ _
  by_cases h1:mid < en
  ·by_cases h2:en < e
   ·refine zh ?_;refine zf (id:=43) ?_;refine Zd ?_;refine ZdU ?_;refine ZT ?_;refine Zar ?_;refine zf (id:=44) ?_;refine Zd ?_;refine Z2 ?_;refine qp (za5 L 900 (zab b (((P ++ stC (A1 ++ B1)) ++ (stC (A2 ++ B2) ++ R)).flatMap ccs ++ rest) tyC) (r:=zab b (((P ++ stC (A1 ++ B1)) ++ (A2 ++ (B2 ++ R))).flatMap ccs ++ rest) tyC) rfl rfl rfl rfl rfl (fun u H C hH _ hr hC => (by have h:=ih (cap:=cap) (a:=mid) (mm:=en) (e:=e) (by omega) (by rw [List.length_append]; omega) (by omega) (by omega) (by omega) (by omega) sA2 sB2 hlen3 hm1 hH hr hC; exact h))) ?_;refine zi ?_
    rw [e4]
    exact zbe L 900 (r:=zab b _ tyC) rfl (fun _ _ h => h) Since.refl rfl rfl
   ·have hB2:B2 = []:=List.eq_nil_of_length_eq_zero (by omega)
    subst hB2
    have e9:(P ++ stC (A1 ++ B1)) ++ (A2 ++ ([] ++ R)) = P ++ ((stC (A1 ++ B1) ++ stC (A2 ++ [])) ++ R):=by rw [List.append_nil, zmk sA2]; simp
    rw [e9]
    refine zh ?_;refine zf (id:=43) ?_;refine Zd ?_;refine ZdU ?_;refine Z4 ?_;refine Zg ?_;refine ZaC ?_
    exact zbe L 900 (r:=zab b _ tyC) rfl (fun _ _ h => h) Since.refl rfl rfl
  ·have hA2:A2 = []:=List.eq_nil_of_length_eq_zero (by omega)
   subst hA2
   have e9:(P ++ stC (A1 ++ B1)) ++ ([] ++ (B2 ++ R)) = P ++ ((stC (A1 ++ B1) ++ stC ([] ++ B2)) ++ R):=by rw [List.nil_append, List.nil_append, zmk sB2]; simp
   rw [e9]
   refine zh ?_;refine zf (id:=43) ?_;refine Zbi ?_;refine ZaS ?_;refine ZaC ?_
   exact zbe L 900 (r:=zab b _ tyC) rfl (fun _ _ h => h) Since.refl rfl rfl
end Go.V.L8
set_option maxRecDepth 20000
namespace Go.V.L8
open Go.Proofs Go.RowKit Go.V Go.V.L2 Go.V.L3 Go.V.L6
abbrev chC (n:Nat) (l:List CH):List CH:=chL (fun c:CH => c.1) zbh n l
theorem zjk {n:Nat} (hn:0 < n) (l:List CH):chC n l = stC (l.take n) ++ chC n (l.drop n):=znj hn l
theorem zij {n:Nat} (hn:0 < n) {l:List CH} (h:l.length ≤ n):chC n l = stC l:=z2s hn h
theorem z2t {n:Nat} (hn:0 < n) (l:List CH):(chC n l).length = l.length:=zw2 cmpT_ord hn l.length (Nat.le_refl _)
theorem zuk (X Y:List CH):stC (stC X ++ stC Y) = stC (X ++ Y):=zxw cmpT_ord X Y
theorem zi8 (X:List CH):z3g (stC X):=(zc2 cmpT_ord X).1
attribute [local irreducible] V N X VO Par StepOK Has Ret RetL RetO RetT zcd Src
set_option maxHeartbeats 8000000 in
set_option maxRecDepth 20000 in
theorem zxx {l:List CH} {rest:List Value} {b m cap:Nat} (hm:l.length = m) (hm1:m ≤ 100000) {w:World} {B:Heap} {C:Nat → Prop} (hB:B.Le (hp w))
  (hr:(zab b (l.flatMap ccs ++ rest) tyC).P B w C) (hC:∀ k, C k → k < w.heap.size ∧ B k = none) :
  zcd Tryz.prog 160 [.slice (some ⟨b, 0, none⟩) m cap, .int .i64 m, zkk] w B C (zab b ((stC l).flatMap ccs ++ rest) tyC):=by
 unfold zcd
 refine zau 900 (zab b (l.flatMap ccs ++ rest) tyC) Tryz.func160 rfl Tryz.ntmps160 (Nat.le_of_ble_eq_true rfl) hB hr hC ?_
 rw [za6]
 refine ZbW ?_;refine Zav ?_;refine qh ?_
 refine zal (fun s:Nat × List CH => [(0, .is (.slice (some ⟨b, 0, none⟩) m cap)), (1, .is (.int .i64 m)), (2, .is zkk), (6, .is (.int .i64 20)), (7, .is (.int .i64 s.1)), (8, .is (.int .i64 (s.1 + 20:Nat))), (900, .own (zan b ((s.2 ++ l.drop s.1).flatMap ccs ++ rest) tyC))])
  (fun s => s.2.length = s.1 ∧ s.1 ≤ m ∧ s.2 ++ chC 20 (l.drop s.1) = chC 20 l) (fun s => m - s.1) (0, []) ⟨rfl, Nat.zero_le _, rfl⟩ ⟨rfl, rfl, rfl, rfl, rfl, rfl, rfl, trivial⟩ ?_
 rintro ⟨a, S1⟩ ⟨h1, h2, h3⟩
 dsimp only at h1 h2 h3 ⊢
 have hdl:(l.drop a).length = m - a:=by rw [List.length_drop, hm]
 by_cases hlt:a + 20 ≤ m
 ·have e0:S1 ++ l.drop a = S1 ++ ((l.drop a).take 20 ++ (l.drop a).drop 20):=by rw [List.take_append_drop]
  have e1:S1 ++ (stC ((l.drop a).take 20) ++ (l.drop a).drop 20) = (S1 ++ stC ((l.drop a).take 20)) ++ l.drop (a + 20):=by rw [List.drop_drop, List.append_assoc]
  have hlen:(S1 ++ ((l.drop a).take 20 ++ (l.drop a).drop 20)).length = m:=by rw [← e0, List.length_append]; omega
  have ltk:((l.drop a).take 20).length = 20:=by rw [List.length_take]; omega
  have a1:IntKind.i64.wrap (((a + 20:Nat):Int) + 20) = ((a + 20 + 20:Nat):Int):=zaa (by omega) (by omega)
  rw [e0]
  refine Zcm ?_;refine Zb2 ?_;refine Zcf ?_;refine ZbV ?_;refine Zd ?_;refine qp (za5 L 900 (zab b ((S1 ++ (stC ((l.drop a).take 20) ++ (l.drop a).drop 20)).flatMap ccs ++ rest) tyC) (r:=zab b ((S1 ++ ((l.drop a).take 20 ++ (l.drop a).drop 20)).flatMap ccs ++ rest) tyC) rfl rfl rfl rfl rfl (fun u H C hH _ hr hC => (by have h:=ins_ret (cap:=cap) (a:=a) (e:=a + 20) h1 (by omega) hlen hm1 hH hr hC; exact h))) ?_;refine Zm ?_;refine Zu ?_;refine Zb ?_;refine Za8 ?_;refine Zam ?_;refine yc ?_
  rw [e1]
  exact yi (x:=(a, S1)) (a + 20, S1 ++ stC ((l.drop a).take 20)) ⟨by dsimp only; rw [List.length_append, zfa]; omega, hlt, by
   dsimp only
   rw [← h3, zjk (by omega) (l.drop a), List.drop_drop, List.append_assoc]⟩ (by dsimp only; omega) ⟨rfl, rfl, rfl, rfl, rfl, rfl, rfl, trivial⟩
 ·have e0:S1 ++ l.drop a = S1 ++ (l.drop a ++ []):=by rw [List.append_nil]
  have e1:S1 ++ (stC (l.drop a) ++ []) = chC 20 l:=by rw [List.append_nil, ← h3, zij (by omega) (by omega)]
  have hlen:(S1 ++ (l.drop a ++ [])).length = m:=by rw [← e0, List.length_append]; omega
  rw [e0]
  refine Zcm ?_;refine Zbp ?_;refine ZdF ?_;refine Zz ?_;refine Zac ?_;refine qp (za5 L 900 (zab b ((S1 ++ (stC (l.drop a) ++ [])).flatMap ccs ++ rest) tyC) (r:=zab b ((S1 ++ (l.drop a ++ [])).flatMap ccs ++ rest) tyC) rfl rfl rfl rfl rfl (fun u H C hH _ hr hC => (by have h:=ins_ret (cap:=cap) (a:=a) (e:=m) h1 (by omega) hlen hm1 hH hr hC; exact h))) ?_;refine ZeV ?_
  rw [e1]
  clear e0 e1 hlen hlt hdl h1 h2 h3
  refine zal (fun s:Nat => [(0, .is (.slice (some ⟨b, 0, none⟩) m cap)), (1, .is (.int .i64 m)), (2, .is zkk), (6, .is (.int .i64 s)), (900, .own (zan b ((chC s l).flatMap ccs ++ rest) tyC))]) (fun s => 0 < s ∧ s ≤ 20 + 2 * m) (fun s => m - s) 20 ⟨by omega, by omega⟩ ⟨rfl, rfl, rfl, rfl, rfl, trivial⟩ ?_
  rintro s ⟨hs0, hs1⟩
  by_cases hsm:s < m
  ·refine Zc ?_;refine ZcM ?_;refine Zen ?_;refine Zbz ?_;refine Zgs ?_;refine Zav ?_;refine qh ?_
   refine zal (fun t:Nat × List CH => [(0, .is (.slice (some ⟨b, 0, none⟩) m cap)), (1, .is (.int .i64 m)), (2, .is zkk), (6, .is (.int .i64 s)), (7, .is (.int .i64 t.1)), (8, .is (.int .i64 (t.1 + 2 * s:Nat))), (900, .own (zan b ((t.2 ++ chC s (l.drop t.1)).flatMap ccs ++ rest) tyC))])
    (fun t => t.2.length = t.1 ∧ t.1 ≤ m ∧ t.2 ++ chC (2 * s) (l.drop t.1) = chC (2 * s) l) (fun t => m - t.1) (0, []) ⟨rfl, Nat.zero_le _, rfl⟩ ⟨rfl, rfl, rfl, rfl, rfl, by dsimp only; rw [Nat.zero_add]; rfl, rfl, trivial⟩ ?_
   rintro ⟨a, S1⟩ ⟨h1, h2, h3⟩
   dsimp only at h1 h2 h3 ⊢
   have hdl:(l.drop a).length = m - a:=by rw [List.length_drop, hm]
   have hcs:=zjk hs0 (l.drop a)
   by_cases hlt:a + 2 * s ≤ m
   ·have hcs2:=zjk hs0 ((l.drop a).drop s)
    have e0:S1 ++ chC s (l.drop a) = S1 ++ (stC ((l.drop a).take s) ++ (stC (((l.drop a).drop s).take s) ++ chC s (l.drop (a + 2 * s)))):=by
     rw [hcs, hcs2, List.drop_drop, List.drop_drop, show a + s + s = a + 2 * s by omega]
    have ht2:(l.drop a).take (2 * s) = (l.drop a).take s ++ ((l.drop a).drop s).take s:=by rw [show 2 * s = s + s by omega, List.take_add]
    have e1:S1 ++ (stC (stC ((l.drop a).take s) ++ stC (((l.drop a).drop s).take s)) ++ chC s (l.drop (a + 2 * s))) = (S1 ++ stC ((l.drop a).take (2 * s))) ++ chC s (l.drop (a + 2 * s)):=by rw [zuk, ← ht2, List.append_assoc]
    have l1:(stC ((l.drop a).take s)).length = s:=by rw [zfa, List.length_take]; omega
    have l2:(stC (((l.drop a).drop s).take s)).length = s:=by rw [zfa, List.length_take, List.length_drop]; omega
    have l3:(chC s (l.drop (a + 2 * s))).length = m - (a + 2 * s):=by rw [z2t hs0, List.length_drop, hm]
    have hlen:(S1 ++ (stC ((l.drop a).take s) ++ (stC (((l.drop a).drop s).take s) ++ chC s (l.drop (a + 2 * s))))).length = m:=by simp only [List.length_append]; omega
    have a1:IntKind.i64.wrap ((a:Int) + (s:Int)) = ((a + s:Nat):Int):=zaa (by omega) (by omega)
    have a2:IntKind.i64.wrap (((a + 2 * s:Nat):Int) + 2 * (s:Int)) = ((a + 2 * s + 2 * s:Nat):Int):=zaa (by omega) (by omega)
    rw [e0]
    refine Zc ?_;refine Zdy ?_;refine Zb2 ?_;refine Zcf ?_;refine Zag ?_;refine Zac ?_;refine ZZ ?_;refine Zd ?_;refine qp (za5 L 900 (zab b ((S1 ++ (stC (stC ((l.drop a).take s) ++ stC (((l.drop a).drop s).take s)) ++ chC s (l.drop (a + 2 * s)))).flatMap ccs ++ rest) tyC) (r:=zab b ((S1 ++ (stC ((l.drop a).take s) ++ (stC (((l.drop a).drop s).take s) ++ chC s (l.drop (a + 2 * s))))).flatMap ccs ++ rest) tyC) rfl rfl rfl rfl rfl (fun u H C hH _ hr hC => (by have h:=zuh _ (cap:=cap) (a:=a) (mm:=a + s) (e:=a + 2 * s) (Nat.le_refl _) h1 (by omega) (by omega) (by omega) (by omega) (zi8 _) (zi8 _) hlen hm1 hH hr hC; exact h))) ?_;refine Zm ?_;refine Zb5 ?_;refine Zb ?_;refine ZQ ?_;refine Zd ?_;refine Zgs ?_;refine Zam ?_;refine yc ?_
    rw [e1]
    exact yi (x:=(a, S1)) (a + 2 * s, S1 ++ stC ((l.drop a).take (2 * s))) ⟨by dsimp only; rw [List.length_append, zfa, List.length_take]; omega, hlt, by
     dsimp only
     rw [← h3, zjk (by omega) (l.drop a), List.drop_drop, List.append_assoc]⟩ (by dsimp only; omega) ⟨rfl, rfl, rfl, rfl, rfl, rfl, rfl, trivial⟩
   ·have a1:IntKind.i64.wrap ((a:Int) + (s:Int)) = ((a + s:Nat):Int):=zaa (by omega) (by omega)
    have a2:IntKind.i64.wrap ((s:Int) * 2) = ((2 * s:Nat):Int):=zaa (by omega) (by omega) |>.trans (by omega)
    by_cases hlm:a + s < m
    ·have e0:S1 ++ chC s (l.drop a) = S1 ++ (stC ((l.drop a).take s) ++ (stC ((l.drop a).drop s) ++ [])):=by
      rw [hcs, zij hs0 (l:=(l.drop a).drop s) (by rw [List.length_drop]; omega), List.append_nil]
     have e1:S1 ++ (stC (stC ((l.drop a).take s) ++ stC ((l.drop a).drop s)) ++ []) = chC (2 * s) l:=by
      rw [zuk, List.take_append_drop, List.append_nil, ← h3, zij (n:=2 * s) (by omega) (by omega)]
     have l1:(stC ((l.drop a).take s)).length = s:=by rw [zfa, List.length_take]; omega
     have l2:(stC ((l.drop a).drop s)).length = m - a - s:=by rw [zfa, List.length_drop]; omega
     have hlen:(S1 ++ (stC ((l.drop a).take s) ++ (stC ((l.drop a).drop s) ++ []))).length = m:=by simp only [List.length_append, List.length_nil]; omega
     rw [e0]
     refine Zc ?_;refine Zdy ?_;refine Zbp ?_;refine Zcl ?_;refine Zc ?_;refine Zcr ?_;refine ZbJ ?_;refine Ze ?_;refine Zaw ?_;refine Zd ?_;refine ZbG ?_;refine Za9 ?_;refine Zd ?_;refine Z2 ?_;refine qp (za5 L 900 (zab b ((S1 ++ (stC (stC ((l.drop a).take s) ++ stC ((l.drop a).drop s)) ++ [])).flatMap ccs ++ rest) tyC) (r:=zab b ((S1 ++ (stC ((l.drop a).take s) ++ (stC ((l.drop a).drop s) ++ []))).flatMap ccs ++ rest) tyC) rfl rfl rfl rfl rfl (fun u H C hH _ hr hC => (by have h:=zuh _ (cap:=cap) (a:=a) (mm:=a + s) (e:=m) (Nat.le_refl _) h1 (by omega) (by omega) (by omega) (by omega) (zi8 _) (zi8 _) hlen hm1 hH hr hC; exact h))) ?_;refine Z6 ?_;refine Zap ?_;refine Za ?_;refine z7 (zvk rfl rfl rfl rfl a2) rfl ?_;refine Za3 ?_
     rw [e1]
     exact yi (x:=s) (2 * s) ⟨by omega, by omega⟩ (by omega) ⟨rfl, rfl, rfl, rfl, rfl, trivial⟩
    ·have e1:S1 ++ chC s (l.drop a) = chC (2 * s) l:=by
      rw [← h3, zij hs0 (by omega), zij (n:=2 * s) (by omega) (by omega)]
     rw [e1]
     refine Zc ?_;refine Zdy ?_;refine Zbp ?_;refine Zcl ?_;refine Zc ?_;refine Zcr ?_;refine ZbJ ?_;refine Ze ?_;refine Zaw ?_;refine Zbi ?_;refine Zeu ?_;refine Zap ?_;refine Za ?_;refine z7 (zvk rfl rfl rfl rfl a2) rfl ?_;refine Za3 ?_
     exact yi (x:=s) (2 * s) ⟨by omega, by omega⟩ (by omega) ⟨rfl, rfl, rfl, rfl, rfl, trivial⟩
  ·rw [zij hs0 (by omega)]
   refine Zc ?_;refine Zp ?_;refine Zbi ?_;refine ZcO ?_
   exact zbe L 900 (r:=zab b _ tyC) rfl (fun _ _ h => h) Since.refl rfl rfl
abbrev SSF:Nat:=135
set_option maxHeartbeats 1000000 in
set_option maxRecDepth 20000 in
theorem zup {l:List CH} {rest:List Value} {b m cap:Nat} (hm:l.length = m) (hm1:m ≤ 100000) {w:World} {B:Heap} {C:Nat → Prop} (hB:B.Le (hp w))
  (hr:(zab b (l.flatMap ccs ++ rest) tyC).P B w C) (hC:∀ k, C k → k < w.heap.size ∧ B k = none) :
  zcd Tryz.prog SSF [.slice (some ⟨b, 0, none⟩) m cap, zkk] w B C (zab b ((stC l).flatMap ccs ++ rest) tyC):=by
 unfold zcd
 refine zau 900 (zab b (l.flatMap ccs ++ rest) tyC) Tryz.func135 rfl Tryz.ntmps135 (Nat.le_of_ble_eq_true rfl) hB hr hC ?_
 rw [za6]
 refine Zfj ?_;refine Zd ?_;refine ZaQ ?_;refine Za ?_;refine qp (za5 L 900 (zab b ((stC l).flatMap ccs ++ rest) tyC) (r:=zab b (l.flatMap ccs ++ rest) tyC) rfl rfl rfl rfl rfl (fun u H C hH _ hr hC => (by have h:=zxx (cap:=cap) hm hm1 hH hr hC; exact h))) ?_;refine zi ?_
 exact zbe L 900 (r:=zab b _ tyC) rfl (fun _ _ h => h) Since.refl rfl rfl
set_option maxRecDepth 20000 in
theorem zyy {w:World} {B:Heap} (hB:B.Le (hp w)):Ret Tryz.prog 173 [.slice none 0 0, .int .i64 0, .int .i64 0, zkk] w B (fun _ _ => True):=by
 refine yf Tryz.func173 rfl Tryz.ntmps173 (Nat.le_of_ble_eq_true rfl) hB ?_
 refine ZR ?_;refine Za ?_;refine Zcg ?_;refine ZE ?_
 refine zal (fun _:Nat => [(2, .is (.int .i64 0)), (8, .is (.int .i64 1))]) (fun _ => True) (fun s => s) 0 trivial ⟨rfl, rfl, trivial⟩ ?_
 rintro s _
 refine Zc ?_;refine Zae ?_;refine Zbi ?_;refine ZcO ?_
 exact zxe L rfl (fun _ _ h => h) Since.refl
set_option maxRecDepth 20000 in
theorem zuj {w:World} {B:Heap} (hB:B.Le (hp w)):Ret Tryz.prog 160 [.slice none 0 0, .int .i64 0, zkk] w B (fun _ _ => True):=by
 refine yf Tryz.func160 rfl Tryz.ntmps160 (Nat.le_of_ble_eq_true rfl) hB ?_
 refine ZbW ?_;refine Zav ?_;refine qh ?_
 refine zal (fun _:Nat => [(0, .is (.slice none 0 0)), (1, .is (.int .i64 0)), (2, .is zkk), (6, .is (.int .i64 20)), (7, .is (.int .i64 0)), (8, .is (.int .i64 20))]) (fun _ => True) (fun s => s) 0 trivial ⟨rfl, rfl, rfl, rfl, rfl, rfl, trivial⟩ ?_
 rintro s _
 refine Zcm ?_;refine Zbp ?_;refine ZdF ?_;refine Zz ?_;refine Zac ?_;refine z7 (yw (φ:=fun _ _ => True) L rfl rfl (zk rfl) rfl rfl rfl (fun _ _ _ _ _ => trivial) (fun u H hH _ _ => zyy hH)) rfl ?_;refine ZeV ?_
 refine zal (fun _:Nat => [(1, .is (.int .i64 0)), (6, .is (.int .i64 20))]) (fun _ => True) (fun s => s) 0 trivial ⟨rfl, rfl, trivial⟩ ?_
 rintro s _
 refine Zc ?_;refine Zp ?_;refine Zbi ?_;refine ZcO ?_
 exact zxe L rfl (fun _ _ h => h) Since.refl
set_option maxRecDepth 20000 in
theorem zsn {w:World} {B:Heap} (hB:B.Le (hp w)):Ret Tryz.prog SSF [.slice none 0 0, zkk] w B (fun _ _ => True):=by
 refine yf Tryz.func135 rfl Tryz.ntmps135 (Nat.le_of_ble_eq_true rfl) hB ?_
 refine Zfj ?_;refine Zd ?_;refine ZaQ ?_;refine Za ?_;refine z7 (yw (φ:=fun _ _ => True) L rfl rfl (zk rfl) rfl rfl rfl (fun _ _ _ _ _ => trivial) (fun u H hH _ _ => zuj hH)) rfl ?_;refine zi ?_
 exact zxe L rfl (fun _ _ h => h) Since.refl
end Go.V.L8
set_option maxRecDepth 20000
namespace Go.V.L8
open Go.Proofs Go.RowKit Go.V Go.V.L2 Go.V.L3 Go.V.L6
abbrev zC:CH:=((n3, n3), false)
def zwd (l:List CH) (t:U) (z:CH):CH:=l.foldl (fun a c => if c.1 = t then c else a) z
def zg4 (l:List CH) (t:U):Option CH:=(l.filter fun c => decide (c.1 = t)).getLast?
theorem ze6 (c:CH) (l:List CH) (t:U):zg4 (c :: l) t = (zg4 l t).or (if c.1 = t then some c else none):=by
 unfold zg4
 by_cases h:c.1 = t
 ·rw [if_pos h, List.filter_cons_of_pos (by simpa using h), List.getLast?_cons]
  cases (l.filter fun c => decide (c.1 = t)).getLast? <;> rfl
 ·rw [if_neg h, List.filter_cons_of_neg (by simpa using h)]
  cases (l.filter fun c => decide (c.1 = t)).getLast? <;> rfl
theorem zf9 {l:List CH} {t:U} {c:CH} (h:zg4 l t = some c):c.1 = t ∧ c ∈ l:=by
 have:=List.mem_of_getLast? h
 rw [List.mem_filter] at this
 exact ⟨by simpa using this.2, this.1⟩
theorem zl3 {l:List CH} {t:U}:zg4 l t = none ↔ ∀ c ∈ l, c.1 ≠ t:=by
 unfold zg4
 rw [List.getLast?_eq_none_iff, List.filter_eq_nil_iff]
 simp
theorem zrm (l:List CH) (t:U) (z:CH):zwd l t z = (zg4 l t).getD z:=by
 induction l generalizing z with
 | nil => rfl
 | cons c r ih =>
  have:zwd (c :: r) t z = zwd r t (if c.1 = t then c else z):=rfl
  rw [this, ih, ze6]
  cases zg4 r t with
  | some d => rfl
  | none => by_cases h:c.1 = t <;> simp [h]
theorem zox {l:List CH} {t:U} {z:CH} (h:∃ c ∈ l, c.1 = t):zg4 l t = some (zwd l t z):=by
 rw [zrm]
 cases hk:zg4 l t with
 | some d => rfl
 | none => obtain ⟨c, hc, he⟩:=h; exact absurd he (zl3.1 hk c hc)
def zkq (l:List CH):List CH:=(zj0 (l.map (·.1))).map fun t => zwd l t zC
theorem zjz {l:List U} {t:U}:t ∈ zj0 l ↔ t ∈ l:=by unfold zj0; rw [zf8]; simp
theorem zuo (l:List U):Sst zbh (zj0 l):=zf1 cmpT_ord Sst.nil
theorem zvx {l:List CH} {c:CH}:c ∈ zkq l ↔ zg4 l c.1 = some c:=by
 unfold zkq
 rw [List.mem_map]
 constructor
 ·rintro ⟨t, ht, rfl⟩
  rw [zjz, List.mem_map] at ht
  have:=zox (z:=zC) ht
  rw [(zf9 this).1]
  exact this
 ·intro h
  have hm:=zf9 h
  exact ⟨c.1, zjz.2 (List.mem_map.2 ⟨c, hm.2, rfl⟩), by rw [zrm, h]; rfl⟩
theorem zs6 (l:List CH):(zkq l).map (·.1) = zj0 (l.map (·.1)):=by
 unfold zkq
 rw [List.map_map]
 conv => rhs; rw [← List.map_id (zj0 (l.map (·.1)))]
 refine List.map_congr_left fun t ht => ?_
 rw [zjz, List.mem_map] at ht
 exact (zf9 (zox (z:=zC) ht)).1
def zz2 (l:List CH):Prop:=Sst zbh (l.map (·.1))
theorem zvw (l:List CH):zz2 (zkq l):=by unfold zz2; rw [zs6]; exact zuo _
theorem zyj {l:List CH} (h:zz2 l):l.Pairwise fun a b => a.1 ≠ b.1:=by
 unfold zz2 Sst at h
 rw [List.pairwise_map] at h
 exact h.imp fun h1 => cmpT_ord.ne h1
theorem z17 {l m:List CH} (hl:zz2 l) (hm:zz2 m) (h:∀ c, c ∈ l ↔ c ∈ m):l = m:=by
 have hk:l.map (·.1) = m.map (·.1):=zex cmpT_ord hl hm fun t => by
  rw [List.mem_map, List.mem_map]
  exact ⟨fun ⟨c, hc, e⟩ => ⟨c, (h c).1 hc, e⟩, fun ⟨c, hc, e⟩ => ⟨c, (h c).2 hc, e⟩⟩
 have uni:∀ {l:List CH}, zz2 l → ∀ a ∈ l, ∀ b ∈ l, a.1 = b.1 → a = b:=fun {l} hn a ha b hb e => by
  by_cases hab:a = b
  ·exact hab
  ·exfalso
   obtain ⟨i, hi⟩:=List.getElem?_of_mem ha
   obtain ⟨j, hj⟩:=List.getElem?_of_mem hb
   obtain ⟨hi', rfl⟩:=List.getElem?_eq_some_iff.1 hi
   obtain ⟨hj', rfl⟩:=List.getElem?_eq_some_iff.1 hj
   have hp:=List.pairwise_iff_getElem.1 (zyj hn)
   rcases Nat.lt_trichotomy i j with h | h | h
   ·exact hp i j hi' hj' h e
   ·subst h; exact hab rfl
   ·exact hp j i hj' hi' h e.symm
 have hlen:l.length = m.length:=by rw [← List.length_map (f:=(·.1)), hk, List.length_map]
 refine List.ext_getElem hlen fun i h1 h2 => ?_
 have e:l[i].1 = m[i].1:=by
  have:=congrArg (·[i]?) hk
  simp only [List.getElem?_map, List.getElem?_eq_getElem h1, List.getElem?_eq_getElem h2, Option.map_some, Option.some.injEq] at this
  exact this
 exact uni hm _ ((h _).1 (List.getElem_mem h1)) _ (List.getElem_mem h2) e
def zfj:List CH → List CH
 | [] => []
 | [c] => [c]
 | c :: d :: r => if zbh c.1 d.1 = 0 then zfj (d :: r) else c :: zfj (d :: r)
theorem zte {l:List CH} {i:Nat} {c:CH} (h:l[i]? = some c):zfj (l.drop i) = (match l[i + 1]? with | none => [c] | some d => if zbh c.1 d.1 = 0 then [] else [c]) ++ zfj (l.drop (i + 1)):=by
 have h1:l.drop i = c :: l.drop (i + 1):=zfr h
 rw [h1]
 cases h2:l[i + 1]? with
 | none =>
  have:l.drop (i + 1) = []:=List.drop_eq_nil_of_le (by simpa using h2)
  rw [this]; rfl
 | some d =>
  have h3:l.drop (i + 1) = d :: l.drop (i + 1 + 1):=zfr h2
  rw [h3]
  show (if zbh c.1 d.1 = 0 then _ else _) = (if zbh c.1 d.1 = 0 then _ else _) ++ _
  split <;> rfl
theorem zl4:∀ {S:List CH}, Srt (·.1) zbh S → (∀ c ∈ zfj S, zg4 S c.1 = some c) ∧ (∀ x ∈ S, ∃ c ∈ zfj S, c.1 = x.1) ∧ zz2 (zfj S)
 | [], _ => ⟨fun c hc => (by cases hc), fun c hc => (by cases hc), Sst.nil⟩
 | [c], _ => by
  have e:zfj [c] = [c]:=rfl
  rw [e]
  refine ⟨fun d hd => ?_, fun x hx => ⟨x, hx, rfl⟩, List.pairwise_singleton _ _⟩
  rw [List.mem_singleton] at hd; subst hd
  rw [ze6, if_pos rfl]; rfl
 | c :: d :: r, h => by
  obtain ⟨h1, h2⟩:=List.pairwise_cons.1 h
  obtain ⟨g1, g2, g3⟩:=zl4 (S:=d :: r) h2
  have e:zfj (c :: d :: r) = if zbh c.1 d.1 = 0 then zfj (d :: r) else c :: zfj (d :: r):=rfl
  by_cases h0:zbh c.1 d.1 = 0
  ·rw [e, if_pos h0]
   have hcd:=cmpT_ord.eq _ _ h0
   refine ⟨fun x hx => by rw [ze6, g1 x hx]; rfl, fun x hx => ?_, g3⟩
   rcases List.mem_cons.1 hx with rfl | hx
   ·obtain ⟨y, hy, e⟩:=g2 d (List.mem_cons_self ..)
    exact ⟨y, hy, e.trans hcd.symm⟩
   ·exact g2 x hx
  ·rw [e, if_neg h0]
   have hlt:∀ y ∈ d :: r, zbh c.1 y.1 < 0:=fun y hy => by
    have hcd:zbh c.1 d.1 < 0:=by
     have h3:=h1 d (List.mem_cons_self ..)
     have:=cmpT_ord.anti c.1 d.1
     dsimp only at h3
     omega
    rcases List.mem_cons.1 hy with rfl | hy
    ·exact hcd
    ·have h3:=(List.pairwise_cons.1 h2).1 y hy
     dsimp only at h3
     by_cases h5:zbh d.1 y.1 < 0
     ·exact cmpT_ord.tr hcd h5
     ·have h6:zbh d.1 y.1 = 0:=by have:=cmpT_ord.anti d.1 y.1; omega
      rw [← cmpT_ord.eq _ _ h6]; exact hcd
   refine ⟨fun x hx => ?_, fun x hx => ?_, ?_⟩
   ·rcases List.mem_cons.1 hx with rfl | hx
    ·rw [ze6, if_pos rfl, zl3.2 fun y hy e => cmpT_ord.irr x.1 (by rw [← e] ; exact absurd (hlt y hy) (by rw [e]; exact cmpT_ord.irr _))]; rfl
    ·rw [ze6, g1 x hx]; rfl
   ·rcases List.mem_cons.1 hx with rfl | hx
    ·exact ⟨x, List.mem_cons_self .., rfl⟩
    ·obtain ⟨y, hy, e⟩:=g2 x hx
     exact ⟨y, List.mem_cons_of_mem _ hy, e⟩
   ·unfold zz2
    rw [List.map_cons]
    refine List.pairwise_cons.2 ⟨fun t ht => ?_, g3⟩
    obtain ⟨y, hy, rfl⟩:=List.mem_map.1 ht
    exact hlt y (zf9 (g1 y hy)).2
theorem zwg {l S:List CH} (h:Stb (·.1) zbh l S):zfj S = zkq l:=by
 obtain ⟨g1, g2, g3⟩:=zl4 h.1
 have hK:∀ t, zg4 S t = zg4 l t:=fun t => by unfold zg4; rw [h.2 t]
 refine z17 g3 (zvw l) fun c => ?_
 rw [zvx]
 constructor
 ·exact fun hc => by rw [← hK]; exact g1 c hc
 ·intro hc
  rw [← hK] at hc
  obtain ⟨d, hd, e⟩:=g2 c (zf9 hc).2
  have:=g1 d hd
  rw [e, hc] at this
  cases this; exact hd
end Go.V.L8
set_option maxRecDepth 20000
namespace Go.V.L8
open Go.Proofs Go.RowKit Go.V Go.V.L2 Go.V.L3 Go.V.L6
theorem _root_.Go.V.ZdN {A B:Prop} (h:B) (t:Wr B → A:=by intro h; refine z8 (yn rfl rfl rfl rfl (decide_eq_false (by omega))) rfl ?_;exact h.h):A:=t ⟨h⟩
theorem _root_.Go.V.ZgO {A B:Prop} (h:B) (t:Wr B → A:=by intro h; refine z8 (qu L rfl rfl rfl rfl) rfl ?_;exact h.h):A:=t ⟨h⟩
theorem _root_.Go.V.Zga {A B:Prop} (h:B) (t:Wr B → A:=by intro h; refine z8 (yn rfl rfl rfl rfl (decide_eq_true (by omega))) rfl ?_;exact h.h):A:=t ⟨h⟩
theorem _root_.Go.V.ZdO {A B:Prop} (h:B) (t:Wr B → A:=by intro h; refine Zah ?_;refine ZgO ?_;exact h.h):A:=t ⟨h⟩
theorem zyv (l:List CH):zfj (stC l) = zkq l:=zwg (zc2 cmpT_ord l)
theorem zoy:∀ (l:List CH), (zfj l).length ≤ l.length
 | [] => Nat.le_refl _
 | [c] => Nat.le_refl _
 | c :: d :: r => by
  show (if zbh c.1 d.1 = 0 then zfj (d :: r) else c :: zfj (d :: r)).length ≤ _
  have:=zoy (d :: r)
  split
  ·simp only [List.length_cons] at this ⊢; omega
  ·simp only [List.length_cons] at this ⊢; omega
attribute [local irreducible] V N X VO Par StepOK Has Ret RetL RetO RetT zcd Src
set_option maxHeartbeats 1000000 in
theorem zts {l:List CH} {fu:Bool} (hz:l.length ≤ 100000) {v:Value} {w:World} {B:Heap} (hB:B.Le (hp w)) (hv:KS tyC l fu v B) :
  RetO Tryz.prog 133 [v] w B (SlR tyC 7 l.length (l.flatMap ccs)):=by
 have hv0:=hv
 have hlen:=zma l
 have hpl:=zzf l
 obtain ⟨p, c, rfl⟩:=zaq hv
 rcases p with _ | b
 ·obtain ⟨h0, rfl⟩:l.length = 0 ∧ c = 0:=zq1 hv
  have hn:l = []:=List.eq_nil_of_length_eq_zero h0
  subst hn
  refine zea Tryz.func133 rfl Tryz.ntmps133 (Nat.le_of_ble_eq_true rfl) hB ?_
  refine Zbx ?_;refine z7 (zgy rfl rfl rfl rfl z7g rfl) rfl ?_;refine ZcW ?_
  refine zd4 2 tyC 7 rfl ?_
  exact ziz rfl (fun _ _ h => h) Since.refl rfl
 ·refine zea Tryz.func133 rfl Tryz.ntmps133 (Nat.le_of_ble_eq_true rfl) hB ?_
  refine Zbx ?_;refine z7 (zgy rfl rfl rfl rfl z7g rfl) rfl ?_;refine Zx ?_
  refine zat 0 (KS tyC l fu) rfl SlV.mono hv0 ?_
  refine Zt ?_;refine z7 (zgt L rfl rfl rfl rfl rfl) rfl ?_;refine Zf ?_;refine qp (zb9 L rfl rfl rfl (zik rfl) rfl zzc (by assumption) (by assumption) (by omega) (by omega)) ?_;refine qp (yq (.inr rfl) rfl rfl rfl rfl) ?_;refine Z6 ?_
  rw [Nat.zero_add, List.nil_append]
  exact ziz rfl (fun _ _ h => h) Since.refl rfl
set_option maxHeartbeats 8000000 in
set_option maxRecDepth 20000 in
theorem zqg {l m:List CH} {fu:Bool} (hm:zkq l = m) (hz:l.length ≤ 50000) {v:Value} {w:World} {B:Heap} (hB:B.Le (hp w)) (hv:KS tyC l fu v B) :
  Ret Tryz.prog 90 [v] w B (KS tyC m true):=by
 subst hm
 have hsl:=zfa l
 refine yf Tryz.func90 rfl Tryz.ntmps90 (Nat.le_of_ble_eq_true rfl) hB ?_
 refine zat 0 (KS tyC l fu) rfl SlV.mono hv ?_
 refine ZaD ?_;refine Zf ?_;refine z7 (zdu L rfl rfl (zk rfl) rfl rfl rfl (fun u H hH _ _ v1 hv1 => zts (by omega) hH hv1)) rfl ?_;refine qp (yq (.inr rfl) rfl rfl rfl rfl) ?_;refine Zm ?_;refine Zy ?_;refine Ze ?_
 refine zg7 3 900 rfl (fun h0 hn => ?_) fun b cap rest hl hmc hcm hcl => ?_
 ·have hl0:l = []:=List.eq_nil_of_length_eq_zero h0
  subst hl0
  refine ZbV ?_;refine z7 (yw (φ:=fun _ _ => True) L rfl rfl (zk rfl) rfl rfl rfl (fun _ _ _ _ _ => trivial) (fun u H hH _ _ => zsn hH)) rfl ?_;refine Zm ?_
  refine zat 3 (KS tyC [] false) rfl SlV.mono SlV.nil ?_
  refine ZV ?_;refine Zf ?_;refine z7 (zbb L (kl:=.i64) (pl:=0) 0 0 true rfl rfl rfl rfl rfl rfl ⟨rfl, rfl⟩ ⟨rfl, rfl⟩ (by decide) (by decide) rfl) rfl ?_;refine Zds ?_;refine Zo ?_;refine ZcD ?_
  refine zal (fun _:Nat => [(5, .sat (KS tyC [] true)), (15, .sat (KS tyC [] false)), (16, .is (.int .i64 0)), (17, .is (.int .i64 0))]) (fun _ => True) (fun s => s) 0 trivial ⟨rfl, rfl, rfl, rfl, trivial⟩ ?_
  rintro s _
  refine zh ?_;refine Zz ?_;refine Zbb ?_;refine Zak ?_;refine Zf ?_;refine Zq ?_;refine Zq ?_;refine Zfr ?_;refine ZaZ ?_
  refine ye L (rs:=[.tmp 2]) rfl (fun _ _ h => h) Since.refl fun u H hH hle => ?_
  exact fun v hv => hv
 ·refine ZbV ?_;refine qp (za5 L 900 (zab b ((stC l).flatMap ccs ++ rest) tyC) (r:=zab b (l.flatMap ccs ++ rest) tyC) rfl rfl rfl rfl rfl (fun u H C hH _ hr hC => (by have h:=zup (cap:=cap) rfl (by omega) hH hr hC; exact h))) ?_;refine Zm ?_
  refine zcc (xs:=(stC l).flatMap ccs) (rest:=rest) (s:=7) 3 900 rfl rfl rfl (by rw [zma, hsl]) hmc hcm (by
   rw [List.length_append] at hcl ⊢
   rw [zma] at hcl ⊢
   rw [hsl]; exact hcl) ?_
  rw [← hsl]
  have hkn:=zyv l
  have hkl:=zoy (stC l)
  rw [← hkn]
  generalize stC l = S at *
  refine zci 3 rfl ?_
  refine ZV ?_;refine Zf ?_;refine z7 (zbb L (kl:=.i64) (pl:=0) 0 0 true rfl rfl rfl rfl rfl rfl ⟨rfl, rfl⟩ ⟨rfl, rfl⟩ (by omega) (by omega) rfl) rfl ?_;refine Zds ?_;refine Zo ?_;refine ZcD ?_
  refine zzv 5 (SlV tyC 7 [] 0 true) rfl SlV.mono (fun v H h => h) ?_
  refine z64 5 rfl ?_
  refine zal (fun i:Nat × List CH => [(3, .sat (KS tyC S false)), (4, .is zkk), (5, .own (SlG tyC 7 i.2.length (i.2.flatMap ccs))), (15, .sat (KS tyC S false)), (16, .is (.int .i64 S.length)), (17, .is (.int .i64 i.1))]) (fun i => i.1 ≤ S.length ∧ i.2.length ≤ i.1 ∧ i.2 ++ zfj (S.drop i.1) = zfj S) (fun i => S.length - i.1) (0, []) ⟨Nat.zero_le _, Nat.le_refl _, rfl⟩ ⟨rfl, rfl, rfl, rfl, rfl, rfl, trivial⟩ ?_
  rintro ⟨i, kp⟩ ⟨h1, h2, h3⟩
  dsimp only at h1 h2 h3 ⊢
  by_cases hlt:i < S.length
  ·obtain ⟨c, hc0⟩:=zae hlt
   have hc:=zi2 hc0
   have hst:=zte hc0
   have a1:IntKind.i64.wrap ((i:Int) + 1) = ((i + 1:Nat):Int):=zaa (by omega) (by omega)
   by_cases hlast:i + 1 < S.length
   ·obtain ⟨d, hd0⟩:=zae hlast
    have hd:=zi2 hd0
    rw [hd0] at hst
    dsimp only at hst
    by_cases heq:zbh c.1 d.1 = 0
    ·rw [if_pos heq, List.nil_append] at hst
     refine zh ?_;refine Zz ?_;refine Zan ?_;refine Zp ?_;refine Zb7 ?_;refine ZbL ?_;refine ZaL ?_;refine Zau ?_;refine Zm ?_;refine ZbY ?_;refine Zh ?_;refine Zab ?_;refine ZdO ?_;refine Zdn ?_;refine Zi ?_;refine z8 (zw L (vs:=[_, _, _, _, _, _, _]) (yl rfl) rfl rfl rfl rfl ⟨_, rfl⟩) rfl ?_;refine ZeG ?_;refine Zab ?_;refine Zfz ?_;refine z8 (yh L (vs:=[_, _, _, _, _, _, _]) rfl rfl rfl rfl rfl ⟨_, rfl⟩) rfl ?_;refine z8 (zp L rfl rfl (zk rfl) rfl rfl rfl (fun u H hH _ _ => zdt hH)) rfl ?_;refine ZdN ?_;refine Zct ?_;refine ZbF ?_;refine Zag ?_;refine Zd1 ?_
     exact yi (x:=(i, kp)) (i + 1, kp) ⟨hlt, by dsimp only; omega, by dsimp only; rw [← hst]; exact h3⟩ (by dsimp only; omega) ⟨rfl, rfl, rfl, rfl, rfl, rfl, trivial⟩
    ·rw [if_neg heq] at hst
     refine zh ?_;refine Zz ?_;refine Zan ?_;refine Zp ?_;refine Zb7 ?_;refine ZbL ?_;refine ZaL ?_;refine Zau ?_;refine Zm ?_;refine ZbY ?_;refine Zh ?_;refine Zab ?_;refine ZdO ?_;refine Zdn ?_;refine Zi ?_;refine z8 (zw L (vs:=[_, _, _, _, _, _, _]) (yl rfl) rfl rfl rfl rfl ⟨_, rfl⟩) rfl ?_;refine ZeG ?_;refine Zab ?_;refine Zfz ?_;refine z8 (yh L (vs:=[_, _, _, _, _, _, _]) rfl rfl rfl rfl rfl ⟨_, rfl⟩) rfl ?_;refine z8 (zp L rfl rfl (zk rfl) rfl rfl rfl (fun u H hH _ _ => zdt hH)) rfl ?_;refine Zga ?_;refine Zb9 ?_;refine ZM ?_;refine qp (yq (.inl rfl) rfl rfl rfl rfl) ?_;refine ZfV ?_;refine Zaa ?_;refine qp (zl0 L (by decide) rfl rfl rfl (zhq rfl) rfl zzc rfl rfl (by omega) (by omega)) ?_;refine qp (yq (.inr rfl) rfl rfl rfl rfl) ?_;refine Zaq ?_;refine Zag ?_;refine Zd1 ?_
     exact yi (x:=(i, kp)) (i + 1, kp ++ [c]) ⟨hlt, by dsimp only; rw [List.length_append, List.length_singleton]; omega, by dsimp only; rw [List.append_assoc, ← hst]; exact h3⟩ (by dsimp only; omega) ⟨rfl, rfl, by dsimp only; rw [List.flatMap_append, List.length_append]; rfl, rfl, rfl, rfl, trivial⟩
   ·have hend:i + 1 = S.length:=by omega
    rw [List.getElem?_eq_none (by omega)] at hst
    dsimp only at hst
    refine zh ?_;refine Zz ?_;refine Zan ?_;refine Zp ?_;refine Zb7 ?_;refine ZbL ?_;refine ZaL ?_;refine Zau ?_;refine Zm ?_;refine ZbY ?_;refine Zh ?_;refine Zab ?_;refine ZdO ?_;refine Zel ?_;refine Ze2 ?_;refine ZaM ?_;refine Zb9 ?_;refine ZM ?_;refine qp (yq (.inl rfl) rfl rfl rfl rfl) ?_;refine ZfV ?_;refine Zaa ?_;refine qp (zl0 L (by decide) rfl rfl rfl (zhq rfl) rfl zzc rfl rfl (by omega) (by omega)) ?_;refine qp (yq (.inr rfl) rfl rfl rfl rfl) ?_;refine Zaq ?_;refine Zag ?_;refine Zd1 ?_
    exact yi (x:=(i, kp)) (i + 1, kp ++ [c]) ⟨hlt, by dsimp only; rw [List.length_append, List.length_singleton]; omega, by dsimp only; rw [List.append_assoc, ← hst]; exact h3⟩ (by dsimp only; omega) ⟨rfl, rfl, by dsimp only; rw [List.flatMap_append, List.length_append]; rfl, rfl, rfl, rfl, trivial⟩
  ·rw [List.drop_eq_nil_of_le (by omega), show zfj [] = [] from rfl, List.append_nil] at h3
   subst h3
   refine z5i 5 rfl ?_
   refine zh ?_;refine Zz ?_;refine Zbb ?_;refine Zak ?_;refine Zf ?_;refine Zq ?_;refine Zq ?_;refine Zfr ?_;refine ZaZ ?_
   refine ye L (rs:=[.tmp 2]) rfl (fun _ _ h => h) Since.refl fun u H hH hle => ?_
   exact fun v hv => hv
end Go.V.L8
set_option maxRecDepth 20000
namespace Go.V.L2
open Go.Proofs Go.RowKit Go.V
theorem _root_.Go.V.ZgP {A B:Prop} (h:B) (t:Wr B → A:=by intro h; refine z8 (qv L 0 rfl rfl rfl rfl rfl rfl rfl (by first | omega | decide) (by assumption)) rfl ?_;exact h.h):A:=t ⟨h⟩
theorem _root_.Go.V.ZgQ {A B:Prop} (h:B) (t:Wr B → A:=by intro h; refine z7 (qv L 0 rfl rfl rfl rfl rfl rfl rfl (by first | omega | decide) (by assumption)) rfl ?_;exact h.h):A:=t ⟨h⟩
theorem _root_.Go.V.ZgR {A B:Prop} (h:B) (t:Wr B → A:=by intro h; refine Zah ?_;refine ZgP ?_;exact h.h):A:=t ⟨h⟩
theorem _root_.Go.V.Zd4 {A B:Prop} (h:B) (t:Wr B → A:=by intro h; refine ZgR ?_;refine Zf0 ?_;exact h.h):A:=t ⟨h⟩
theorem _root_.Go.V.ZdP {A B:Prop} (h:B) (t:Wr B → A:=by intro h; refine ZfS ?_;refine Zq ?_;exact h.h):A:=t ⟨h⟩
theorem _root_.Go.V.ZdQ {A B:Prop} (h:B) (t:Wr B → A:=by intro h; refine Zc3 ?_;refine Zak ?_;exact h.h):A:=t ⟨h⟩
theorem _root_.Go.V.ZgS {A B:Prop} (h:B) (t:Wr B → A:=by intro h; refine Zp ?_;refine Ze ?_;exact h.h):A:=t ⟨h⟩
theorem _root_.Go.V.ZgT {A B:Prop} (h:B) (t:Wr B → A:=by intro h; refine ZgS ?_;refine Zgn ?_;exact h.h):A:=t ⟨h⟩
theorem _root_.Go.V.Zeq {A B:Prop} (h:B) (t:Wr B → A:=by intro h; refine ZgT ?_;refine Zq ?_;exact h.h):A:=t ⟨h⟩
theorem _root_.Go.V.ZgU {A B:Prop} (h:B) (t:Wr B → A:=by intro h; refine Zcr ?_;refine Zg9 ?_;exact h.h):A:=t ⟨h⟩
theorem _root_.Go.V.ZgV {A B:Prop} (h:B) (t:Wr B → A:=by intro h; refine ZgU ?_;refine Zem ?_;exact h.h):A:=t ⟨h⟩
theorem _root_.Go.V.ZgW {A B:Prop} (h:B) (t:Wr B → A:=by intro h; refine Zf ?_;refine ZgQ ?_;exact h.h):A:=t ⟨h⟩
theorem _root_.Go.V.Zer {A B:Prop} (h:B) (t:Wr B → A:=by intro h; refine ZgW ?_;refine ZdH ?_;exact h.h):A:=t ⟨h⟩
theorem _root_.Go.V.Zes {A B:Prop} (h:B) (t:Wr B → A:=by intro h; refine zh ?_;refine ZgV ?_;exact h.h):A:=t ⟨h⟩
theorem zsj {φ:Value → Heap → Prop} {a tv:Value} {H:Heap} (h:φ tv H):TupS [φ, fun v _ => v = a] (.tuple #[tv, a]) H :=
 ⟨[tv, a], rfl, rfl, fun i ψ x hi hx => by
  rcases i with _ | _ | i
  ·simp at hi hx; subst hi hx; exact h
  ·simp at hi hx; subst hi hx; rfl
  ·simp at hi⟩
theorem zsi {φ:Value → Heap → Prop} {a:Value} (h:Kn.mono (.sat φ)):Kn.mono (.sat (TupS [φ, fun v _ => v = a])):=TupS.mono fun ψ hψ => by
 rcases List.mem_cons.1 hψ with rfl | hψ
 ·exact h
 ·rw [List.mem_singleton] at hψ
  subst hψ
  exact fun _ _ _ h _ => h
theorem zdn {α:Type} {c:α → α → Int} {f:Bool → Bool → Bool}:∀ (n:Nat) (l m:List α), l.length + m.length ≤ n → (zet c f n l m).length ≤ l.length + m.length
 | 0, _, _, _ => by simp [zet]
 | n + 1, [], [], _ => by simp [zet]
 | n + 1, a :: l, [], h => by
  have:=zdn (c:=c) (f:=f) n l [] (by simp only [List.length_cons, List.length_nil] at h ⊢; omega)
  simp only [zet, List.length_append, List.length_cons, List.length_nil] at this ⊢
  split <;> simp only [List.length_cons, List.length_nil] <;> omega
 | n + 1, [], b :: m, h => by
  have:=zdn (c:=c) (f:=f) n [] m (by simp only [List.length_cons, List.length_nil] at h ⊢; omega)
  simp only [zet, List.length_append, List.length_cons, List.length_nil] at this ⊢
  split <;> simp only [List.length_cons, List.length_nil] <;> omega
 | n + 1, a :: l, b :: m, h => by
  simp only [List.length_cons] at h
  have h1:=zdn (c:=c) (f:=f) n l (b :: m) (by simp only [List.length_cons]; omega)
  have h2:=zdn (c:=c) (f:=f) n (a :: l) m (by simp only [List.length_cons]; omega)
  have h3:=zdn (c:=c) (f:=f) n l m (by omega)
  simp only [List.length_cons] at h1 h2
  simp only [zet]
  split
  ·rw [List.length_append]; split <;> simp only [List.length_cons, List.length_nil] <;> omega
  ·split
   ·rw [List.length_append]; split <;> simp only [List.length_cons, List.length_nil] <;> omega
   ·rw [List.length_append]; split <;> simp only [List.length_cons, List.length_nil] <;> omega
def z4h (f:Bool → Bool → Bool) (l m:List U):List U × Int :=
 if 4096 < l.length ∨ 4096 < m.length then ([], 3) else if (isB l && isB m) = true then (zet zbh f (l.length + m.length) l m, 0) else ([], 18)
abbrev LE (r:List U × Int):Value → Heap → Prop:=TupS [US r.1 true, fun v _ => v = .int .i64 r.2]
theorem LE.mono {r:List U × Int}:Kn.mono (.sat (LE r)):=zsi SlV.mono
theorem zmj (a:U) (l:List U):(((a :: l).flatMap ucs).drop (1 * 6)).take (((a :: l).length - 1) * 6) = l.flatMap ucs:=by
 rw [List.flatMap_cons, List.drop_left' (by rfl), List.length_cons, Nat.add_sub_cancel, List.take_of_length_le (Nat.le_of_eq (zcq zmh l))]
theorem zjq {κ:Kap} {s:Nat} {out:List U} {t:U} (h:κ s = some (.own (SlR tyU 6 (out.length + 1) (out.flatMap ucs ++ [.string t.1.1.1, .string t.1.1.2, .string t.1.2, .string t.2.1.1, .string t.2.1.2, .string t.2.2])))):κ s = some (.own (SlR tyU 6 (out ++ [t]).length ((out ++ [t]).flatMap ucs))):=by
 rw [h, List.flatMap_append, List.length_append]; simp [ucs]
attribute [local irreducible] V N X VO Par StepOK Has Ret RetL Src
set_option maxHeartbeats 4000000 in
theorem zv1 {f:Bool → Bool → Bool} {tf:Nat} (hfn:L.fn tf = some ()) (hf:∀ (p q:Bool) (u:World) (H:Heap), H.Le (hp u) → Ret Tryz.prog tf [.bool p, .bool q] u H (fun v _ => v = .bool (f p q))) {l m:List U} {fa fb:Bool}
  {r:List U × Int} (hr:z4h f l m = r) {v v2:Value} {w:World} {B:Heap} (hB:B.Le (hp w)) (hv:US l fa v B) (hv2:US m fb v2 B) :
  Ret Tryz.prog 131 [v, v2, .func (.func tf) #[] #[]] w B (LE r):=by
 subst hr
 unfold z4h
 refine yf Tryz.func131 rfl Tryz.ntmps131 (Nat.le_of_ble_eq_true rfl) hB ?_
 refine zat 0 (US l fa) rfl SlV.mono hv ?_
 refine zat 1 (US m fb) rfl SlV.mono hv2 ?_
 by_cases z1:4096 < l.length
 ·rw [if_pos (.inl z1)]
  refine ZaX ?_;refine Zfl ?_;refine ZC ?_;refine ZaS ?_;refine Zbw ?_;refine Zk ?_
  refine ye L (rs:=[.tmp 6, .tmp 7]) rfl (fun _ _ h => h) Since.refl fun u H hH hle => ?_
  exact zsj SlV.nil
 ·by_cases z2:4096 < m.length
  ·rw [if_pos (.inr z2)]
   refine ZaX ?_;refine Zfl ?_;refine Z7 ?_;refine ZaN ?_;refine ZdR ?_;refine Zbw ?_;refine Zk ?_
   refine ye L (rs:=[.tmp 6, .tmp 7]) rfl (fun _ _ h => h) Since.refl fun u H hH hle => ?_
   exact zsj SlV.nil
  ·rw [if_neg (by omega)]
   cases h1:isB l
   ·rw [if_neg (by simp)]
    refine ZaX ?_;refine Zfl ?_;refine Z7 ?_;refine ZaN ?_;refine Zch ?_;refine Zr ?_;refine Zeg ?_;refine z7 (zp L rfl rfl (zk rfl) rfl rfl rfl (fun u H hH _ _ v1 hv1 => zjt (by omega) h1 hH hv1)) rfl ?_;refine Zs ?_;refine ZaS ?_;refine ZcK ?_;refine Zk ?_
    refine ye L (rs:=[.tmp 6, .tmp 7]) rfl (fun _ _ h => h) Since.refl fun u H hH hle => ?_
    exact zsj SlV.nil
   ·cases h2:isB m
    ·rw [if_neg (by simp)]
     refine ZaX ?_;refine Zfl ?_;refine Z7 ?_;refine ZaN ?_;refine Zch ?_;refine Zr ?_;refine Zeg ?_;refine z7 (zp L rfl rfl (zk rfl) rfl rfl rfl (fun u H hH _ _ v1 hv1 => zjt (by omega) h1 hH hv1)) rfl ?_;refine Zs ?_;refine Za ?_;refine Zf ?_;refine z7 (zp L rfl rfl (zk rfl) rfl rfl rfl (fun u H hH _ _ v1 hv1 => zjt (by omega) h2 hH hv1)) rfl ?_;refine Zea ?_;refine ZcK ?_;refine Zk ?_
     refine ye L (rs:=[.tmp 6, .tmp 7]) rfl (fun _ _ h => h) Since.refl fun u H hH hle => ?_
     exact zsj SlV.nil
    ·rw [if_pos (by rfl)]
     refine ZaX ?_;refine Zfl ?_;refine Z7 ?_;refine ZaN ?_;refine Zch ?_;refine Zr ?_;refine Zeg ?_;refine z7 (zp L rfl rfl (zk rfl) rfl rfl rfl (fun u H hH _ _ v1 hv1 => zjt (by omega) h1 hH hv1)) rfl ?_;refine Zs ?_;refine Za ?_;refine Zf ?_;refine z7 (zp L rfl rfl (zk rfl) rfl rfl rfl (fun u H hH _ _ v1 hv1 => zjt (by omega) h2 hH hv1)) rfl ?_;refine Zs ?_;refine ZaY ?_;refine Zo ?_;refine Ze ?_;refine qh ?_
     refine zzv 0 (US l false) rfl SlV.mono (fun _ _ h => h.nofu) ?_
     refine zzv 1 (US m false) rfl SlV.mono (fun _ _ h => h.nofu) ?_
     refine zd4 8 tyU 6 rfl ?_
     refine zal (fun s:Nat × List U × List U × List U => [(0, .sat (US s.2.1 false)), (1, .sat (US s.2.2.1 false)), (2, .is (.func (.func tf) #[] #[])), (8, .own (SlR tyU 6 s.2.2.2.length (s.2.2.2.flatMap ucs)))])
      (fun s => s.2.1.length + s.2.2.1.length ≤ s.1 ∧ s.2.2.2 ++ zet zbh f s.1 s.2.1 s.2.2.1 = zet zbh f (l.length + m.length) l m ∧ s.2.2.2.length + s.2.1.length + s.2.2.1.length ≤ 8192) (fun s => s.1) (l.length + m.length, l, m, []) ⟨Nat.le_refl _, rfl, by simp only [List.length_nil]; omega⟩ ⟨rfl, rfl, rfl, rfl, trivial⟩ ?_
     generalize zet zbh f (l.length + m.length) l m = R
     clear h1 h2 z1 z2 hv hv2
     rintro ⟨n, x, y, out⟩ ⟨hn, hR, hz⟩
     dsimp only at hn hR hz ⊢
     rcases x with _ | ⟨a, x⟩
     ·rcases y with _ | ⟨b, y⟩
      ·have hR:out = R:=by rw [← hR]; cases n <;> simp [zet]
       subst hR
       have l0:([]:List U).length = 0:=rfl
       refine ZdP ?_;refine Z7 ?_;refine ZaN ?_;refine Zch ?_;refine ZdF ?_
       refine zci 8 rfl ?_
       refine ZbN ?_;refine Zf ?_;refine Zq ?_;refine Zq ?_;refine Zfr ?_;refine Zb6 ?_;refine Zb ?_
       refine ye L (rs:=[.tmp 6, .tmp 7]) rfl (fun _ _ h => h) Since.refl fun u H hH hle => ?_
       exact fun v hv => zsj hv
      ·have l0:([]:List U).length = 0:=rfl
       have lb:(b :: y).length = y.length + 1:=rfl
       have hb:=zfx (l:=b :: y) (i:=0) (t:=b) rfl
       have tb:=zmj b y
       rcases n with _ | n
       ·simp only [List.length_cons, List.length_nil] at hn; omega
       cases hft:f false true
       ·have hR:out ++ zet zbh f n [] y = R:=by rw [← hR]; simp [zet, hft]
        have hfv:∀ (u:World) (H:Heap), H.Le (hp u) → Ret Tryz.prog tf [.bool false, .bool true] u H (fun v _ => v = .bool false):=fun u H h => by have:=hf false true u H h; rwa [hft] at this
        refine ZdP ?_;refine Z7 ?_;refine ZaN ?_;refine ZC ?_;refine Zar ?_;refine Zf6 ?_;refine Zeq ?_;refine Z3 ?_;refine Zb ?_;refine ZaR ?_;refine Zag ?_;refine Zcq ?_;refine Zes ?_;refine ZC ?_;refine ZW ?_;refine Za9 ?_;refine Zer ?_;refine Zau ?_;refine ZU ?_;refine Zbt ?_;refine ZaK ?_;refine ZbA ?_;refine Zf ?_;refine z7 (zbb L (kh:=.i64) (ph:=0) (km:=.i64) (pm:=0) 1 _ false rfl rfl rfl rfl rfl ⟨rfl, rfl⟩ ⟨rfl, rfl⟩ (fun h => by cases h) (by omega) (by omega) (by assumption)) rfl ?_;refine ZdK ?_;refine Zdw ?_;refine Zbp ?_;refine Za ?_;refine Zat ?_;refine z7 (zp L rfl rfl (zk rfl) rfl rfl hfn (fun u H hH _ _ => hfv u H hH)) rfl ?_;refine ZaC ?_;refine yc ?_
        exact yi (x:=(n + 1, [], b :: y, out)) (n, [], y, out) ⟨by simp only [List.length_cons, List.length_nil] at hn ⊢; omega, hR, by simp only [List.length_cons, List.length_nil, List.length_append] at hz ⊢; omega⟩ (by dsimp only; omega) ⟨rfl, rfl, rfl, rfl, trivial⟩
       ·have hR:out ++ [b] ++ zet zbh f n [] y = R:=by rw [← hR]; simp [zet, hft]
        have hfv:∀ (u:World) (H:Heap), H.Le (hp u) → Ret Tryz.prog tf [.bool false, .bool true] u H (fun v _ => v = .bool true):=fun u H h => by have:=hf false true u H h; rwa [hft] at this
        refine ZdP ?_;refine Z7 ?_;refine ZaN ?_;refine ZC ?_;refine Zar ?_;refine Zf6 ?_;refine Zeq ?_;refine Z3 ?_;refine Zb ?_;refine ZaR ?_;refine Zag ?_;refine Zcq ?_;refine Zes ?_;refine ZC ?_;refine ZW ?_;refine Za9 ?_;refine Zer ?_;refine Zau ?_;refine ZU ?_;refine Zbt ?_;refine ZaK ?_;refine ZbA ?_;refine Zf ?_;refine z7 (zbb L (kh:=.i64) (ph:=0) (km:=.i64) (pm:=0) 1 _ false rfl rfl rfl rfl rfl ⟨rfl, rfl⟩ ⟨rfl, rfl⟩ (fun h => by cases h) (by omega) (by omega) (by assumption)) rfl ?_;refine ZdK ?_;refine Zdw ?_;refine Zbp ?_;refine Za ?_;refine Zat ?_;refine z7 (zp L rfl rfl (zk rfl) rfl rfl hfn (fun u H hH _ _ => hfv u H hH)) rfl ?_;refine ZW ?_;refine ZeS ?_;refine qp (yq (.inl rfl) rfl rfl rfl rfl) ?_;refine Zbh ?_;refine Zcv ?_;refine qp (yq (.inr rfl) rfl rfl rfl rfl) ?_;refine zi ?_;refine yc ?_
        exact yi (x:=(n + 1, [], b :: y, out)) (n, [], y, out ++ [b]) ⟨by simp only [List.length_cons, List.length_nil] at hn ⊢; omega, hR, by simp only [List.length_cons, List.length_nil, List.length_append] at hz ⊢; omega⟩ (by dsimp only; omega) ⟨rfl, rfl, rfl, zjq rfl, trivial⟩
     ·have la:(a :: x).length = x.length + 1:=rfl
      have ha:=zfx (l:=a :: x) (i:=0) (t:=a) rfl
      have ta:=zmj a x
      rcases y with _ | ⟨b, y⟩
      ·have l0:([]:List U).length = 0:=rfl
       rcases n with _ | n
       ·simp only [List.length_cons, List.length_nil] at hn; omega
       cases hft:f true false
       ·have hR:out ++ zet zbh f n x [] = R:=by rw [← hR]; simp [zet, hft]
        have hfv:∀ (u:World) (H:Heap), H.Le (hp u) → Ret Tryz.prog tf [.bool true, .bool false] u H (fun v _ => v = .bool false):=fun u H h => by have:=hf true false u H h; rwa [hft] at this
        refine ZdP ?_;refine ZC ?_;refine ZaS ?_;refine Zcf ?_;refine Zeq ?_;refine ZdQ ?_;refine Zq ?_;refine Z3 ?_;refine Zb ?_;refine ZaR ?_;refine ZQ ?_;refine Zcq ?_;refine Zes ?_;refine Z7 ?_;refine Zdz ?_;refine Zap ?_;refine Zer ?_;refine Zbg ?_;refine Zec ?_;refine z7 (zbb L (kh:=.i64) (ph:=0) (km:=.i64) (pm:=0) 1 _ false rfl rfl rfl rfl rfl ⟨rfl, rfl⟩ ⟨rfl, rfl⟩ (fun h => by cases h) (by omega) (by omega) (by assumption)) rfl ?_;refine Zds ?_;refine Zbt ?_;refine ZA ?_;refine Zx ?_;refine Zdw ?_;refine Zb2 ?_;refine Za ?_;refine ZA ?_;refine z7 (zp L rfl rfl (zk rfl) rfl rfl hfn (fun u H hH _ _ => hfv u H hH)) rfl ?_;refine ZaC ?_;refine yc ?_
        exact yi (x:=(n + 1, a :: x, [], out)) (n, x, [], out) ⟨by simp only [List.length_cons, List.length_nil] at hn ⊢; omega, hR, by simp only [List.length_cons, List.length_nil, List.length_append] at hz ⊢; omega⟩ (by dsimp only; omega) ⟨rfl, rfl, rfl, rfl, trivial⟩
       ·have hR:out ++ [a] ++ zet zbh f n x [] = R:=by rw [← hR]; simp [zet, hft]
        have hfv:∀ (u:World) (H:Heap), H.Le (hp u) → Ret Tryz.prog tf [.bool true, .bool false] u H (fun v _ => v = .bool true):=fun u H h => by have:=hf true false u H h; rwa [hft] at this
        refine ZdP ?_;refine ZC ?_;refine ZaS ?_;refine Zcf ?_;refine Zeq ?_;refine ZdQ ?_;refine Zq ?_;refine Z3 ?_;refine Zb ?_;refine ZaR ?_;refine ZQ ?_;refine Zcq ?_;refine Zes ?_;refine Z7 ?_;refine Zdz ?_;refine Zap ?_;refine Zer ?_;refine Zbg ?_;refine Zec ?_;refine z7 (zbb L (kh:=.i64) (ph:=0) (km:=.i64) (pm:=0) 1 _ false rfl rfl rfl rfl rfl ⟨rfl, rfl⟩ ⟨rfl, rfl⟩ (fun h => by cases h) (by omega) (by omega) (by assumption)) rfl ?_;refine Zds ?_;refine Zbt ?_;refine ZA ?_;refine Zx ?_;refine Zdw ?_;refine Zb2 ?_;refine Za ?_;refine ZA ?_;refine z7 (zp L rfl rfl (zk rfl) rfl rfl hfn (fun u H hH _ _ => hfv u H hH)) rfl ?_;refine ZW ?_;refine ZeS ?_;refine qp (yq (.inl rfl) rfl rfl rfl rfl) ?_;refine Zbh ?_;refine Zcv ?_;refine qp (yq (.inr rfl) rfl rfl rfl rfl) ?_;refine zi ?_;refine yc ?_
        exact yi (x:=(n + 1, a :: x, [], out)) (n, x, [], out ++ [a]) ⟨by simp only [List.length_cons, List.length_nil] at hn ⊢; omega, hR, by simp only [List.length_cons, List.length_nil, List.length_append] at hz ⊢; omega⟩ (by dsimp only; omega) ⟨rfl, rfl, rfl, zjq rfl, trivial⟩
      ·have lb:(b :: y).length = y.length + 1:=rfl
       have hb:=zfx (l:=b :: y) (i:=0) (t:=b) rfl
       have tb:=zmj b y
       by_cases c1:zbh a b < 0
       ·rcases n with _ | n
        ·simp only [List.length_cons, List.length_nil] at hn; omega
        cases hft:f true false
        ·have hR:out ++ zet zbh f n x (b :: y) = R:=by rw [← hR]; simp [zet, c1, hft]
         have hfv:∀ (u:World) (H:Heap), H.Le (hp u) → Ret Tryz.prog tf [.bool true, .bool false] u H (fun v _ => v = .bool false):=fun u H h => by have:=hf true false u H h; rwa [hft] at this
         refine ZdP ?_;refine ZC ?_;refine ZaS ?_;refine Zcf ?_;refine Zeq ?_;refine ZdQ ?_;refine Zq ?_;refine Zd2 ?_;refine ZbY ?_;refine Zd4 ?_;refine Zd4 ?_;refine z8 (zp L rfl rfl (zk rfl) rfl rfl rfl (fun u H hH _ _ => zds hH)) rfl ?_;refine Zbn ?_;refine Zba ?_;refine Zes ?_;refine Z7 ?_;refine Zdz ?_;refine Zap ?_;refine Zer ?_;refine Zbg ?_;refine Zec ?_;refine z7 (zbb L (kh:=.i64) (ph:=0) (km:=.i64) (pm:=0) 1 _ false rfl rfl rfl rfl rfl ⟨rfl, rfl⟩ ⟨rfl, rfl⟩ (fun h => by cases h) (by omega) (by omega) (by assumption)) rfl ?_;refine Zds ?_;refine Zbt ?_;refine ZA ?_;refine Zx ?_;refine Zdw ?_;refine Zb2 ?_;refine Za ?_;refine ZA ?_;refine z7 (zp L rfl rfl (zk rfl) rfl rfl hfn (fun u H hH _ _ => hfv u H hH)) rfl ?_;refine ZaC ?_;refine yc ?_
         exact yi (x:=(n + 1, a :: x, b :: y, out)) (n, x, (b :: y), out) ⟨by simp only [List.length_cons, List.length_nil] at hn ⊢; omega, hR, by simp only [List.length_cons, List.length_nil, List.length_append] at hz ⊢; omega⟩ (by dsimp only; omega) ⟨rfl, rfl, rfl, rfl, trivial⟩
        ·have hR:out ++ [a] ++ zet zbh f n x (b :: y) = R:=by rw [← hR]; simp [zet, c1, hft]
         have hfv:∀ (u:World) (H:Heap), H.Le (hp u) → Ret Tryz.prog tf [.bool true, .bool false] u H (fun v _ => v = .bool true):=fun u H h => by have:=hf true false u H h; rwa [hft] at this
         refine ZdP ?_;refine ZC ?_;refine ZaS ?_;refine Zcf ?_;refine Zeq ?_;refine ZdQ ?_;refine Zq ?_;refine Zd2 ?_;refine ZbY ?_;refine Zd4 ?_;refine Zd4 ?_;refine z8 (zp L rfl rfl (zk rfl) rfl rfl rfl (fun u H hH _ _ => zds hH)) rfl ?_;refine Zbn ?_;refine Zba ?_;refine Zes ?_;refine Z7 ?_;refine Zdz ?_;refine Zap ?_;refine Zer ?_;refine Zbg ?_;refine Zec ?_;refine z7 (zbb L (kh:=.i64) (ph:=0) (km:=.i64) (pm:=0) 1 _ false rfl rfl rfl rfl rfl ⟨rfl, rfl⟩ ⟨rfl, rfl⟩ (fun h => by cases h) (by omega) (by omega) (by assumption)) rfl ?_;refine Zds ?_;refine Zbt ?_;refine ZA ?_;refine Zx ?_;refine Zdw ?_;refine Zb2 ?_;refine Za ?_;refine ZA ?_;refine z7 (zp L rfl rfl (zk rfl) rfl rfl hfn (fun u H hH _ _ => hfv u H hH)) rfl ?_;refine ZW ?_;refine ZeS ?_;refine qp (yq (.inl rfl) rfl rfl rfl rfl) ?_;refine Zbh ?_;refine Zcv ?_;refine qp (yq (.inr rfl) rfl rfl rfl rfl) ?_;refine zi ?_;refine yc ?_
         exact yi (x:=(n + 1, a :: x, b :: y, out)) (n, x, (b :: y), out ++ [a]) ⟨by simp only [List.length_cons, List.length_nil] at hn ⊢; omega, hR, by simp only [List.length_cons, List.length_nil, List.length_append] at hz ⊢; omega⟩ (by dsimp only; omega) ⟨rfl, rfl, rfl, zjq rfl, trivial⟩
       ·by_cases c2:0 < zbh a b
        ·rcases n with _ | n
         ·simp only [List.length_cons, List.length_nil] at hn; omega
         cases hft:f false true
         ·have hR:out ++ zet zbh f n (a :: x) y = R:=by rw [← hR]; simp [zet, c1, c2, hft]
          have hfv:∀ (u:World) (H:Heap), H.Le (hp u) → Ret Tryz.prog tf [.bool false, .bool true] u H (fun v _ => v = .bool false):=fun u H h => by have:=hf false true u H h; rwa [hft] at this
          refine ZdP ?_;refine ZC ?_;refine ZaS ?_;refine Zcf ?_;refine Zeq ?_;refine ZdQ ?_;refine Zq ?_;refine Zd2 ?_;refine ZbY ?_;refine Zd4 ?_;refine Zd4 ?_;refine z8 (zp L rfl rfl (zk rfl) rfl rfl rfl (fun u H hH _ _ => zds hH)) rfl ?_;refine Zbn ?_;refine Zba ?_;refine Zes ?_;refine ZC ?_;refine ZW ?_;refine Za9 ?_;refine Zer ?_;refine Zau ?_;refine ZU ?_;refine Zbt ?_;refine ZaK ?_;refine ZbA ?_;refine Zf ?_;refine z7 (zbb L (kh:=.i64) (ph:=0) (km:=.i64) (pm:=0) 1 _ false rfl rfl rfl rfl rfl ⟨rfl, rfl⟩ ⟨rfl, rfl⟩ (fun h => by cases h) (by omega) (by omega) (by assumption)) rfl ?_;refine ZdK ?_;refine Zdw ?_;refine Zbp ?_;refine Za ?_;refine Zat ?_;refine z7 (zp L rfl rfl (zk rfl) rfl rfl hfn (fun u H hH _ _ => hfv u H hH)) rfl ?_;refine ZaC ?_;refine yc ?_
          exact yi (x:=(n + 1, a :: x, b :: y, out)) (n, (a :: x), y, out) ⟨by simp only [List.length_cons, List.length_nil] at hn ⊢; omega, hR, by simp only [List.length_cons, List.length_nil, List.length_append] at hz ⊢; omega⟩ (by dsimp only; omega) ⟨rfl, rfl, rfl, rfl, trivial⟩
         ·have hR:out ++ [b] ++ zet zbh f n (a :: x) y = R:=by rw [← hR]; simp [zet, c1, c2, hft]
          have hfv:∀ (u:World) (H:Heap), H.Le (hp u) → Ret Tryz.prog tf [.bool false, .bool true] u H (fun v _ => v = .bool true):=fun u H h => by have:=hf false true u H h; rwa [hft] at this
          refine ZdP ?_;refine ZC ?_;refine ZaS ?_;refine Zcf ?_;refine Zeq ?_;refine ZdQ ?_;refine Zq ?_;refine Zd2 ?_;refine ZbY ?_;refine Zd4 ?_;refine Zd4 ?_;refine z8 (zp L rfl rfl (zk rfl) rfl rfl rfl (fun u H hH _ _ => zds hH)) rfl ?_;refine Zbn ?_;refine Zba ?_;refine Zes ?_;refine ZC ?_;refine ZW ?_;refine Za9 ?_;refine Zer ?_;refine Zau ?_;refine ZU ?_;refine Zbt ?_;refine ZaK ?_;refine ZbA ?_;refine Zf ?_;refine z7 (zbb L (kh:=.i64) (ph:=0) (km:=.i64) (pm:=0) 1 _ false rfl rfl rfl rfl rfl ⟨rfl, rfl⟩ ⟨rfl, rfl⟩ (fun h => by cases h) (by omega) (by omega) (by assumption)) rfl ?_;refine ZdK ?_;refine Zdw ?_;refine Zbp ?_;refine Za ?_;refine Zat ?_;refine z7 (zp L rfl rfl (zk rfl) rfl rfl hfn (fun u H hH _ _ => hfv u H hH)) rfl ?_;refine ZW ?_;refine ZeS ?_;refine qp (yq (.inl rfl) rfl rfl rfl rfl) ?_;refine Zbh ?_;refine Zcv ?_;refine qp (yq (.inr rfl) rfl rfl rfl rfl) ?_;refine zi ?_;refine yc ?_
          exact yi (x:=(n + 1, a :: x, b :: y, out)) (n, (a :: x), y, out ++ [b]) ⟨by simp only [List.length_cons, List.length_nil] at hn ⊢; omega, hR, by simp only [List.length_cons, List.length_nil, List.length_append] at hz ⊢; omega⟩ (by dsimp only; omega) ⟨rfl, rfl, rfl, zjq rfl, trivial⟩
        ·rcases n with _ | n
         ·simp only [List.length_cons, List.length_nil] at hn; omega
         cases hft:f true true
         ·have hR:out ++ zet zbh f n x y = R:=by rw [← hR]; simp [zet, c1, c2, hft]
          have hfv:∀ (u:World) (H:Heap), H.Le (hp u) → Ret Tryz.prog tf [.bool true, .bool true] u H (fun v _ => v = .bool false):=fun u H h => by have:=hf true true u H h; rwa [hft] at this
          refine ZdP ?_;refine ZC ?_;refine ZaS ?_;refine Zcf ?_;refine Zeq ?_;refine ZdQ ?_;refine Zq ?_;refine Zd2 ?_;refine ZbY ?_;refine Zd4 ?_;refine Zd4 ?_;refine z8 (zp L rfl rfl (zk rfl) rfl rfl rfl (fun u H hH _ _ => zds hH)) rfl ?_;refine Zbn ?_;refine Zba ?_;refine Zes ?_;refine Z7 ?_;refine Zdz ?_;refine Zap ?_;refine Zer ?_;refine Zbg ?_;refine Zec ?_;refine z7 (zbb L (kh:=.i64) (ph:=0) (km:=.i64) (pm:=0) 1 _ false rfl rfl rfl rfl rfl ⟨rfl, rfl⟩ ⟨rfl, rfl⟩ (fun h => by cases h) (by omega) (by omega) (by assumption)) rfl ?_;refine Zds ?_;refine Zbt ?_;refine ZaK ?_;refine ZbA ?_;refine Zf ?_;refine z7 (zbb L (kh:=.i64) (ph:=0) (km:=.i64) (pm:=0) 1 _ false rfl rfl rfl rfl rfl ⟨rfl, rfl⟩ ⟨rfl, rfl⟩ (fun h => by cases h) (by omega) (by omega) (by assumption)) rfl ?_;refine ZdK ?_;refine Zdw ?_;refine Zb2 ?_;refine Za ?_;refine Zat ?_;refine z7 (zp L rfl rfl (zk rfl) rfl rfl hfn (fun u H hH _ _ => hfv u H hH)) rfl ?_;refine ZaC ?_;refine yc ?_
          exact yi (x:=(n + 1, a :: x, b :: y, out)) (n, x, y, out) ⟨by simp only [List.length_cons, List.length_nil] at hn ⊢; omega, hR, by simp only [List.length_cons, List.length_nil, List.length_append] at hz ⊢; omega⟩ (by dsimp only; omega) ⟨rfl, rfl, rfl, rfl, trivial⟩
         ·have hR:out ++ [a] ++ zet zbh f n x y = R:=by rw [← hR]; simp [zet, c1, c2, hft]
          have hfv:∀ (u:World) (H:Heap), H.Le (hp u) → Ret Tryz.prog tf [.bool true, .bool true] u H (fun v _ => v = .bool true):=fun u H h => by have:=hf true true u H h; rwa [hft] at this
          refine ZdP ?_;refine ZC ?_;refine ZaS ?_;refine Zcf ?_;refine Zeq ?_;refine ZdQ ?_;refine Zq ?_;refine Zd2 ?_;refine ZbY ?_;refine Zd4 ?_;refine Zd4 ?_;refine z8 (zp L rfl rfl (zk rfl) rfl rfl rfl (fun u H hH _ _ => zds hH)) rfl ?_;refine Zbn ?_;refine Zba ?_;refine Zes ?_;refine Z7 ?_;refine Zdz ?_;refine Zap ?_;refine Zer ?_;refine Zbg ?_;refine Zec ?_;refine z7 (zbb L (kh:=.i64) (ph:=0) (km:=.i64) (pm:=0) 1 _ false rfl rfl rfl rfl rfl ⟨rfl, rfl⟩ ⟨rfl, rfl⟩ (fun h => by cases h) (by omega) (by omega) (by assumption)) rfl ?_;refine Zds ?_;refine Zbt ?_;refine ZaK ?_;refine ZbA ?_;refine Zf ?_;refine z7 (zbb L (kh:=.i64) (ph:=0) (km:=.i64) (pm:=0) 1 _ false rfl rfl rfl rfl rfl ⟨rfl, rfl⟩ ⟨rfl, rfl⟩ (fun h => by cases h) (by omega) (by omega) (by assumption)) rfl ?_;refine ZdK ?_;refine Zdw ?_;refine Zb2 ?_;refine Za ?_;refine Zat ?_;refine z7 (zp L rfl rfl (zk rfl) rfl rfl hfn (fun u H hH _ _ => hfv u H hH)) rfl ?_;refine ZW ?_;refine ZeS ?_;refine qp (yq (.inl rfl) rfl rfl rfl rfl) ?_;refine Zbh ?_;refine Zcv ?_;refine qp (yq (.inr rfl) rfl rfl rfl rfl) ?_;refine zi ?_;refine yc ?_
          exact yi (x:=(n + 1, a :: x, b :: y, out)) (n, x, y, out ++ [a]) ⟨by simp only [List.length_cons, List.length_nil] at hn ⊢; omega, hR, by simp only [List.length_cons, List.length_nil, List.length_append] at hz ⊢; omega⟩ (by dsimp only; omega) ⟨rfl, rfl, rfl, zjq rfl, trivial⟩
end Go.V.L2
set_option maxRecDepth 20000
namespace Go.V.L2
open Go.Proofs Go.RowKit Go.V
abbrev fWo:Bool → Bool → Bool:=fun _ b => !b
attribute [local irreducible] V N X VO Par StepOK Has Ret RetL RetO Src
theorem z2l (p q:Bool) (w:World) (B:Heap) (hB:B.Le (hp w)):Ret Tryz.prog 132 [.bool p, .bool q] w B (fun v _ => v = .bool (fWo p q)):=by
 refine yf Tryz.func132 rfl Tryz.ntmps132 (Nat.le_of_ble_eq_true rfl) hB ?_
 refine ZbW ?_;refine Zs ?_;refine Zb ?_
 refine ye L (rs:=[.tmp 4]) rfl (fun _ _ h => h) Since.refl fun u H hH hle => ?_
 rfl
theorem zil {l m:List U} {fa fb:Bool} {r:List U × Int} {v v2:Value} {w:World} {B:Heap} (hr:z4h fWo l m = r) (hB:B.Le (hp w)) (hv:US l fa v B) (hv2:US m fb v2 B):Ret Tryz.prog 89 [v, v2] w B (LE r):=by
 refine yf Tryz.func89 rfl Tryz.ntmps89 (Nat.le_of_ble_eq_true rfl) hB ?_
 refine zat 0 (US l fa) rfl SlV.mono hv ?_
 refine zat 1 (US m fb) rfl SlV.mono hv2 ?_
 refine ZaX ?_;refine ZS ?_;refine Zdq ?_;refine z7 (yw (φ:=LE r) L rfl rfl (zk rfl) rfl rfl rfl LE.mono (fun u H hH _ _ v1 h1 v2 h2 => zv1 rfl z2l hr hH h1 h2)) rfl ?_;refine z7 (zg0 rfl rfl rfl rfl SlV.mono) rfl ?_;refine Zg6 ?_;refine Zb ?_
 refine ye L (rs:=[.tmp 4, .tmp 5]) rfl (fun _ _ h => h) Since.refl fun u H hH hle => ?_
 exact fun v hv => zsj hv
end Go.V.L2
set_option maxRecDepth 20000
namespace Go.V.L8
open Go.Proofs Go.RowKit Go.V Go.V.L2 Go.V.L3 Go.V.L6
def z5v (a b:List U):List CH:=zkq ((zet zbh fWo (a.length + b.length) a b).map (fun t => (t, true)) ++ (zet zbh fWo (b.length + a.length) b a).map (fun t => (t, false)))
end Go.V.L8
set_option maxRecDepth 20000
namespace Go.V.L8
open Go.Proofs Go.RowKit Go.V Go.V.L2 Go.V.L3 Go.V.L6
attribute [local irreducible] V N X VO Par StepOK Has Ret RetL RetO RetT zcd Src
end Go.V.L8
set_option maxRecDepth 20000
namespace Go.V.L8
open Go.Proofs Go.RowKit Go.V Go.V.L2 Go.V.L3 Go.V.L6
attribute [local irreducible] V N X VO Par StepOK Has Ret RetL RetO RetT zcd Src
end Go.V.L8
set_option maxRecDepth 20000
namespace Go.V.L8
open Go.Proofs Go.RowKit Go.V Go.V.L2 Go.V.L3 Go.V.L6
attribute [local irreducible] V N X VO Par StepOK Has Ret RetL RetO RetT zcd Src
end Go.V.L8
set_option maxRecDepth 20000
namespace Go.V.L8
open Go.Proofs Go.RowKit Go.V Go.V.L2 Go.V.L3 Go.V.L6
attribute [local irreducible] V N X VO Par StepOK Has Ret RetL RetO RetT zcd Src
end Go.V.L8
set_option maxRecDepth 20000
namespace Go.V.L8
open Go.Proofs Go.RowKit Go.V Go.V.L2 Go.V.L3 Go.V.L6
theorem _root_.Go.V.ZfD {A B:Prop} (h:B) (t:Wr B → A:=by intro h; refine z7 (yx (cs:=[_, _, _, _, _, _, _]) rfl rfl z1r rfl rfl) rfl ?_;exact h.h):A:=t ⟨h⟩
theorem zz6 (a b:List U):(zet zbh fWo (a.length + b.length) a b).length ≤ a.length + b.length:=zdn _ _ _ (Nat.le_refl _)
theorem zvy {a b:List U} (la:a.length ≤ 4096) (lb:b.length ≤ 4096) (sa:Sst zbh a) (sb:Sst zbh b):z4h fWo a b = (zet zbh fWo (a.length + b.length) a b, 0):=by
 unfold z4h
 have h1:isB a = true:=decide_eq_true sa
 have h2:isB b = true:=decide_eq_true sb
 rw [if_neg (by omega), h1, h2, if_pos (by decide)]
attribute [local irreducible] V N X VO Par StepOK Has Ret RetL RetO RetT zcd Src
set_option maxHeartbeats 4000000 in
theorem zo8 {a b:List U} {m:List CH} (la:a.length ≤ 4096) (lb:b.length ≤ 4096) (sa:Sst zbh a) (sb:Sst zbh b) (hr:z5v a b = m) {av bv:Value} {w:World} {B:Heap} (hB:B.Le (hp w)) (ha:SetV a av B) (hb:SetV b bv B) :
  Ret Tryz.prog 59 [av, bv] w B (KS tyC m true):=by
 subst hr
 obtain ⟨f1, p1, k1, q1, rfl, hp1⟩:=ha.shape
 obtain ⟨f2, p2, k2, q2, rfl, hp2⟩:=hb.shape
 have w1:=zvy la lb sa sb
 have w2:=zvy lb la sb sa
 have l1:=zz6 a b
 have l2:=zz6 b a
 have hbp:z5v a b = zkq ((zet zbh fWo (a.length + b.length) a b).map (fun t => (t, true)) ++ (zet zbh fWo (b.length + a.length) b a).map (fun t => (t, false))):=rfl
 rw [hbp]
 generalize zet zbh fWo (a.length + b.length) a b = G at *
 generalize zet zbh fWo (b.length + a.length) b a = K at *
 have mG:Kn.mono (.sat (US G true)):=SlV.mono
 have mK:Kn.mono (.sat (US K true)):=SlV.mono
 refine yf Tryz.func59 rfl Tryz.ntmps59 (Nat.le_of_ble_eq_true rfl) hB ?_
 refine Zaf ?_;refine ZcZ ?_;refine Zej ?_;refine z8 (yw (φ:=US a true) L rfl rfl (zk rfl) rfl rfl rfl SlV.mono (fun u H hH hle _ => zf3 (by omega) hH (ha.le hle))) rfl ?_;refine Zej ?_;refine z8 (yw (φ:=US b true) L rfl rfl (zk rfl) rfl rfl rfl SlV.mono (fun u H hH hle _ => zf3 (by omega) hH (hb.le hle))) rfl ?_;refine Zdh ?_;refine Zdh ?_;refine ZbB ?_;refine Zy ?_;refine Zdq ?_;refine z7 (yw (φ:=LE (G, 0)) L rfl rfl (zk rfl) rfl rfl rfl LE.mono (fun u H hH _ _ v1 h1 v2 h2 => zil w1 hH h1 h2)) rfl ?_;refine Zdm ?_;refine Ze ?_;refine Zt ?_;refine Zdq ?_;refine z7 (yw (φ:=LE (K, 0)) L rfl rfl (zk rfl) rfl rfl rfl LE.mono (fun u H hH _ _ v1 h1 v2 h2 => zil w2 hH h1 h2)) rfl ?_;refine Zdm ?_;refine Ze ?_;refine ZV ?_;refine Zj ?_
 refine zd4 11 tyC 7 rfl ?_
 refine Zo ?_;refine ZcD ?_
 refine zal (fun i:Nat => [(9, .sat (US K true)), (11, .own (SlR tyC 7 ((G.take i).map fun t => ((t, true):CH)).length (((G.take i).map fun t => ((t, true):CH)).flatMap ccs))), (32, .sat (US G true)), (33, .is (.int .i64 G.length)), (34, .is (.int .i64 i))]) (fun i => i ≤ G.length) (fun i => G.length - i) 0 (Nat.zero_le _) ⟨rfl, rfl, rfl, rfl, rfl, trivial⟩ ?_
 rintro i hi
 have hli:((G.take i).map fun t => ((t, true):CH)).length ≤ 8192:=by rw [List.length_map, List.length_take]; omega
 by_cases hlt:i < G.length
 ·obtain ⟨t, ht⟩:=zae hlt
  have hct:=zfx ht
  have e1:((G.take (i + 1)).map fun t => ((t, true):CH)) = ((G.take i).map fun t => ((t, true):CH)) ++ [(t, true)]:=by rw [List.take_add_one, ht, List.map_append]; rfl
  refine zh ?_;refine Zz ?_;refine Zan ?_;refine Zp ?_;refine Zao ?_;refine ZdH ?_;refine ZX ?_;refine Z6 ?_;refine Z8 ?_;refine qp (yq (.inl rfl) rfl rfl rfl rfl) ?_;refine Zbh ?_;refine ZfD ?_;refine Zaa ?_;refine Zfu ?_;refine qp (yq (.inr rfl) rfl rfl rfl rfl) ?_;refine Zaq ?_;refine ZM ?_;refine Zci ?_
  exact yi (x:=i) (i + 1) hlt (by omega) ⟨rfl, by rw [e1]; exact zg5 rfl, rfl, rfl, rfl, trivial⟩
 ·obtain rfl:i = G.length:=by omega
  rw [List.take_length]
  have lG:(G.map fun t => ((t, true):CH)).length ≤ 8192:=by rw [List.length_map]; omega
  refine zh ?_;refine Zz ?_;refine Zgj ?_;refine Zc ?_;refine Zag ?_;refine ZcD ?_
  refine zal (fun j:Nat => [(11, .own (SlR tyC 7 ((G.map fun t => ((t, true):CH)) ++ ((K.take j).map fun t => ((t, false):CH))).length (((G.map fun t => ((t, true):CH)) ++ ((K.take j).map fun t => ((t, false):CH))).flatMap ccs))), (44, .sat (US K true)), (45, .is (.int .i64 K.length)), (46, .is (.int .i64 j))]) (fun j => j ≤ K.length) (fun j => K.length - j) 0 (Nat.zero_le _) ⟨by rw [List.take_zero, List.map_nil, List.append_nil]; rfl, rfl, rfl, rfl, trivial⟩ ?_
  rintro j hj
  have hlj:((G.map fun t => ((t, true):CH)) ++ ((K.take j).map fun t => ((t, false):CH))).length ≤ 16384:=by rw [List.length_append, List.length_map, List.length_map, List.length_take]; omega
  by_cases hjl:j < K.length
  ·obtain ⟨t, ht⟩:=zae hjl
   have hct:=zfx ht
   have e1:((G.map fun t => ((t, true):CH)) ++ ((K.take (j + 1)).map fun t => ((t, false):CH))) = ((G.map fun t => ((t, true):CH)) ++ ((K.take j).map fun t => ((t, false):CH))) ++ [(t, false)]:=by rw [List.take_add_one, ht, List.map_append, List.append_assoc]; rfl
   refine zh ?_;refine Zak ?_;refine Zan ?_;refine ZQ ?_;refine Zao ?_;refine ZdH ?_;refine ZX ?_;refine Z6 ?_;refine Zcr ?_;refine qp (yq (.inl rfl) rfl rfl rfl rfl) ?_;refine Zbh ?_;refine ZfD ?_;refine Zaa ?_;refine Zfu ?_;refine qp (yq (.inr rfl) rfl rfl rfl rfl) ?_;refine Zaq ?_;refine Zaw ?_;refine Zci ?_
   exact yi (x:=j) (j + 1) hjl (by omega) ⟨by rw [e1]; exact zg5 rfl, rfl, rfl, rfl, trivial⟩
  ·obtain rfl:j = K.length:=by omega
   rw [List.take_length]
   rw [List.take_length] at hlj
   refine zci 11 rfl ?_
   refine zh ?_;refine Zak ?_;refine Zbb ?_;refine Za9 ?_;refine Zf ?_;refine z7 (yw (φ:=KS tyC (zkq ((G.map fun t => ((t, true):CH)) ++ (K.map fun t => ((t, false):CH)))) true) L rfl rfl (zk rfl) rfl rfl rfl SlV.mono (fun u H hH _ _ v1 h1 => zqg rfl (by omega) hH h1)) rfl ?_;refine ZaZ ?_
   refine ye L (rs:=[.tmp 4]) rfl (fun _ _ h => h) Since.refl fun u H hH hle => ?_
   exact fun v hv => hv
end Go.V.L8
