/- Texts on the way to StoresMake, part 4: one behind another. -/
import Derived.Test.YtcppaheijljnfaaGreatStoresMakeM3
import Derived.Sort.LotD5
import Derived.Sort.Walk7
import Derived.Sort.WalkA14
import Derived.Sort.Walk13
import Derived.Lib.AppendZerosOnto
import Derived.Lib.Overlaps
import Derived.Laws.Externs
set_option linter.unusedVariables false
set_option linter.unusedSimpArgs false
set_option maxRecDepth 20000
namespace Go.V.L8
open Go.Proofs Go.RowKit Go.V Go.V.L2 Go.V.L3 Go.V.L6
abbrev tyM:TypeId:=118
abbrev tyC:TypeId:=120
abbrev z7s:TypeId:=96
abbrev z7t:TypeId:=79
def ccs (c:CH):List Value:=[.string c.1.1.1.1, .string c.1.1.1.2, .string c.1.1.2, .string c.1.2.1.1, .string c.1.2.1.2, .string c.1.2.2, .bool c.2]
theorem zw3 (c:CH):(ccs c).length = 7:=rfl
abbrev KS (ty:TypeId) (l:List CH) (fu:Bool):Value → Heap → Prop:=SlV ty 7 (l.flatMap ccs) l.length fu
theorem zi2 {l:List CH} {i:Nat} {c:CH} (h:l[i]? = some c):((l.flatMap ccs).drop (i * 7)).take 7 = [.string c.1.1.1.1, .string c.1.1.1.2, .string c.1.1.2, .string c.1.2.1.1, .string c.1.2.1.2, .string c.1.2.2, .bool c.2]:=zc8 zw3 l i c h
theorem zg5 {ty:TypeId} {κ:Kap} {s:Nat} {r:List CH} {c:CH} (h:κ s = some (.own (SlR ty 7 (r.length + 1) (r.flatMap ccs ++ [.string c.1.1.1.1, .string c.1.1.1.2, .string c.1.1.2, .string c.1.2.1.1, .string c.1.2.1.2, .string c.1.2.2, .bool c.2])))):κ s = some (.own (SlR ty 7 (r ++ [c]).length ((r ++ [c]).flatMap ccs))):=by
 rw [h, List.flatMap_append, List.length_append]; rfl
theorem z2v {n:Nat} {l:List CH} (hl:¬ n < l.length) {i:Nat} {c:CH} (hc:l[i]? = some c) (h:¬ tE c.1 = 0):cE n l = 6:=by
 unfold cE
 rw [if_neg hl, if_pos]
 rw [List.any_eq_true]
 exact ⟨c, List.mem_of_getElem? hc, by simp [h]⟩
theorem zw6 {n:Nat} {l:List CH} (hl:¬ n < l.length) (h:∀ (j:Nat) c, l[j]? = some c → tE c.1 = 0):cE n l = 0:=by
 unfold cE
 rw [if_neg hl, if_neg]
 rw [List.any_eq_true]
 rintro ⟨c, hc, h1⟩
 obtain ⟨j, hj⟩:=List.getElem?_of_mem hc
 rw [decide_eq_true (h j c hj)] at h1
 cases h1
attribute [local irreducible] V N X VO Par StepOK Has Ret RetL RetO RetT Src
theorem zug {t:U} (hz:TM t) {w:World} {B:Heap} (hB:B.Le (hp w)):Ret Tryz.prog 91 [uv t] w B (fun v _ => v = .int .i64 (tE t)):=by
 obtain ⟨⟨z1, z2, z3⟩, z4, z5, z6⟩:=hz
 unfold tE
 refine yf Tryz.func91 rfl Tryz.ntmps91 (Nat.le_of_ble_eq_true rfl) hB ?_
 by_cases h:zda [t.1.1.1, t.1.1.2, t.1.2] = 0
 ·rw [if_pos h]
  refine ZbD ?_;refine Zco ?_;refine z7 (zp L rfl rfl (zk rfl) rfl rfl rfl (fun u H hH _ _ => zhi (by first | assumption | omega | decide) (by first | assumption | omega | decide) (by first | assumption | omega | decide) hH)) rfl ?_;refine ZaF ?_;refine Zas ?_;refine ZV ?_;refine Zco ?_;refine z7 (zp L rfl rfl (zk rfl) rfl rfl rfl (fun u H hH _ _ => zjv (by first | assumption | omega | decide) (by first | assumption | omega | decide) (by first | assumption | omega | decide) hH)) rfl ?_;refine Zb ?_
  refine ye L (rs:=[.tmp 2]) rfl (fun _ _ h => h) Since.refl fun u H hH hle => ?_
  rfl
 ·rw [if_neg h]
  refine ZbD ?_;refine Zco ?_;refine z7 (zp L rfl rfl (zk rfl) rfl rfl rfl (fun u H hH _ _ => zhi (by first | assumption | omega | decide) (by first | assumption | omega | decide) (by first | assumption | omega | decide) hH)) rfl ?_;refine ZaF ?_;refine ZP ?_;refine Z1 ?_;refine Zb ?_
  refine ye L (rs:=[.tmp 2]) rfl (fun _ _ h => h) Since.refl fun u H hH hle => ?_
  rfl
theorem zi9 {t:U} (hz:TM t) {w:World} {B:Heap} (hB:B.Le (hp w)):Ret Tryz.prog 157 [uv t] w B (fun v _ => v = .int .i64 (tE t)):=by
 obtain ⟨⟨z1, z2, z3⟩, z4, z5, z6⟩:=hz
 have hm:=z0a t
 refine yf Tryz.func157 rfl Tryz.ntmps157 (Nat.le_of_ble_eq_true rfl) hB ?_
 refine ZY ?_;refine ZcZ ?_;refine Zde ?_;refine z8 (zp L rfl rfl (zk rfl) rfl rfl rfl (fun u H hH _ _ => zog (by first | assumption | omega | decide) (by first | assumption | omega | decide) (by first | assumption | omega | decide) hH)) rfl ?_;refine Zde ?_;refine z8 (zp L rfl rfl (zk rfl) rfl rfl rfl (fun u H hH _ _ => zis (by first | assumption | omega | decide) (by first | assumption | omega | decide) (by first | assumption | omega | decide) hH)) rfl ?_;refine z8 (zfq rfl rfl rfl rfl (by assumption)) rfl ?_;refine Zw ?_
 refine ye L (rs:=[.tmp 2]) rfl (fun _ _ h => h) Since.refl fun u H hH hle => ?_
 rfl
theorem z2a {l:List CH} {fu:Bool} {b i:Nat} {c:CH} (hc0:l[i]? = some c) {v:Value} {w:World} {B:Heap} (hB:B.Le (hp w)) (hb:B b = some (.cells #[v] z7s)) (hv:KS tyM l fu v B) :
  Ret Tryz.prog 120 ([.int .i64 i] ++ [.pointer (some ⟨b, 0, none⟩)]) w B (fun r _ => r = uv c.1):=by
 have hc:=zi2 hc0
 have hil:=get_lt hc0
 refine yf Tryz.func120 rfl Tryz.ntmps120 (Nat.le_of_ble_eq_true rfl) hB ?_
 refine ZcL ?_;refine Zm ?_;refine Zae ?_;refine Zed ?_;refine zfw 4 (KS tyM l fu) rfl SlV.mono hv ?_;refine Zb7 ?_;refine ZeP ?_;refine ZdH ?_;refine Zbg ?_
 refine ye L (rs:=[.cell 3 114]) rfl (fun _ _ h => h) Since.refl fun u H hH hle => ?_
 refine Zdj ?_
 rfl
theorem z2u {l:List CH} {fu:Bool} {b i:Nat} {c:CH} (hc0:l[i]? = some c) {v:Value} {w:World} {B:Heap} (hB:B.Le (hp w)) (hb:B b = some (.cells #[v] z7t)) (hv:KS tyC l fu v B) :
  Ret Tryz.prog 121 ([.int .i64 i] ++ [.pointer (some ⟨b, 0, none⟩)]) w B (fun r _ => r = uv c.1):=by
 have hc:=zi2 hc0
 have hil:=get_lt hc0
 refine yf Tryz.func121 rfl Tryz.ntmps121 (Nat.le_of_ble_eq_true rfl) hB ?_
 refine ZcL ?_;refine Zm ?_;refine Zae ?_;refine Zed ?_;refine zfw 4 (KS tyC l fu) rfl SlV.mono hv ?_;refine Zb7 ?_;refine ZeP ?_;refine ZdH ?_;refine Zbg ?_
 refine ye L (rs:=[.cell 3 114]) rfl (fun _ _ h => h) Since.refl fun u H hH hle => ?_
 refine Zdj ?_
 rfl
theorem zl1 {l:List CH} {cf:Nat} {caps:List Value} (hz:∀ c ∈ l, TM c.1) (hl:l.length ≤ 9223372036854775807) (hfn:L.fn cf = some ()) {e:Int} (he:cE 32 l = e) {w:World} {B:Heap} (hB:B.Le (hp w))
  (hcl:∀ (i:Nat) (c:CH), l[i]? = some c → ∀ (u:World) (H:Heap), H.Le (hp u) → B.Le H → Ret Tryz.prog cf ([.int .i64 i] ++ caps) u H (fun r _ => r = uv c.1)) :
  Ret Tryz.prog 119 [.int .i64 l.length, .func (.func cf) #[] caps.toArray] w B (fun v _ => v = .int .i64 e):=by
 subst he
 refine yf Tryz.func119 rfl Tryz.ntmps119 (Nat.le_of_ble_eq_true rfl) hB ?_
 by_cases h32:32 < l.length
 ·have:cE 32 l = 3:=if_pos h32
  rw [this]
  refine Zbx ?_;refine ZC ?_;refine ZcW ?_
  refine ye L (rs:=[.tmp 4]) rfl (fun _ _ h => h) Since.refl fun u H hH hle => ?_
  rfl
 ·refine Zbx ?_;refine Z7 ?_;refine Zr ?_;refine ZbV ?_;refine ZeV ?_
  refine zal (fun i:Nat => [(1, .is (.func (.func cf) #[] caps.toArray)), (9, .is (.int .i64 l.length)), (10, .is (.int .i64 i))]) (fun i => i ≤ l.length ∧ ∀ (j:Nat) c, j < i → l[j]? = some c → tE c.1 = 0) (fun i => l.length - i) 0 ⟨Nat.zero_le _, fun j c h => absurd h (Nat.not_lt_zero _)⟩ ⟨rfl, rfl, rfl, trivial⟩ ?_
  rintro i ⟨hi, hok⟩
  by_cases hlt:i < l.length
  ·obtain ⟨c, hc⟩:=zae hlt
   have hzc:=hz c (List.mem_of_getElem? hc)
   by_cases h0:tE c.1 = 0
   ·refine Zd7 ?_;refine Zby ?_;refine z7 (zp L rfl rfl (zk rfl) rfl rfl hfn (fun u H hH hle _ => hcl i c hc u H hH hle)) rfl ?_;refine z7 (zp L rfl rfl (zk rfl) rfl rfl rfl (fun u H hH _ _ => h0 ▸ zug hzc hH)) rfl ?_;refine Ze ?_;refine Z5 ?_;refine ZK ?_;refine Za4 ?_;refine ZM ?_;refine Zci ?_
    exact yi (x:=i) (i + 1) ⟨hlt, fun j c' hj hc' => by
     rcases Nat.lt_or_ge j i with h | h
     ·exact hok j c' h hc'
     ·have:j = i:=by omega
      subst this; rw [hc] at hc'; cases hc'; exact h0⟩ (by omega) ⟨rfl, rfl, rfl, trivial⟩
   ·have h6:=(zqw c.1).resolve_left h0
    rw [z2v h32 hc h0]
    refine Zd7 ?_;refine Zby ?_;refine z7 (zp L rfl rfl (zk rfl) rfl rfl hfn (fun u H hH hle _ => hcl i c hc u H hH hle)) rfl ?_;refine z7 (zp L rfl rfl (zk rfl) rfl rfl rfl (fun u H hH _ _ => h6 ▸ zug hzc hH)) rfl ?_;refine Ze ?_;refine Z5 ?_;refine ZP ?_;refine Zbz ?_;refine Zb ?_
    refine ye L (rs:=[.tmp 4]) rfl (fun _ _ h => h) Since.refl fun u H hH hle => ?_
    rfl
  ·rw [zw6 h32 (fun j c hj => hok j c (by have:=get_lt hj; omega) hj)]
   refine ZeF ?_;refine Zbb ?_;refine Zag ?_;refine Zb ?_
   refine ye L (rs:=[.tmp 4]) rfl (fun _ _ h => h) Since.refl fun u H hH hle => ?_
   rfl
theorem zn4 {e:TypeId} {s n:Nat} {xs:List Value} {fu:Bool} {v:Value} {H:Heap} (h:SlV e s xs n fu v H):∃ p m c, v = .slice p m c:=by
 rcases h.2 with ⟨_, _, h⟩ | ⟨b, off, cap, cs, ty0, fr, h, _⟩
 ·exact ⟨_, _, _, h⟩
 ·exact ⟨_, _, _, h⟩
theorem zgm {l:List CH} {fu:Bool} (hz:∀ c ∈ l, TM c.1) (hl:l.length ≤ 9223372036854775807) {e:Int} (he:cE 32 l = e) {v:Value} {w:World} {B:Heap} (hB:B.Le (hp w)) (hv:KS tyM l fu v B) :
  Ret Tryz.prog 78 [v] w B (fun r _ => r = .int .i64 e):=by
 obtain ⟨p, m, c, rfl⟩:=zn4 hv
 refine yf Tryz.func78 rfl Tryz.ntmps78 (Nat.le_of_ble_eq_true rfl) hB ?_
 refine ZY ?_;refine Ze ?_
 refine zno 1 rfl fun q H1 hs1 ⟨b, hpb, hb1⟩ => ?_
 subst hpb
 refine Zae ?_;refine Zed ?_;refine zfw 3 (KS tyM l fu) rfl SlV.mono (hv.le hs1.le) ?_;refine ZcX ?_;refine z7 (zff rfl rfl rfl rfl) rfl ?_;refine z7 (zp L rfl rfl (zk rfl) rfl rfl rfl (fun u H hH hle _ => zl1 (caps:=[.pointer (some ⟨b, 0, none⟩)]) hz hl rfl he hH (fun i c hc u' H' hH' hle' => z2a hc hH' (hle' _ _ (hle _ _ hb1)) ((hv.le hs1.le).le (Heap.Le.trans hle hle'))))) rfl ?_;refine Zb ?_
 refine ye L (rs:=[.tmp 2]) rfl (fun _ _ h => h) hs1 fun u H hH hle => ?_
 rfl
end Go.V.L8
set_option maxRecDepth 20000
namespace Go.V.L8
open Go.Proofs Go.RowKit Go.V Go.V.L2 Go.V.L3 Go.V.L6
theorem _root_.Go.V.ZbL {A B:Prop} (h:B) (t:Wr B → A:=by intro h; refine z7 (yh L (vs:=[_, _, _, _, _, _, _]) rfl rfl rfl rfl rfl ⟨_, rfl⟩) rfl ?_;exact h.h):A:=t ⟨h⟩
theorem _root_.Go.V.ZfV {A B:Prop} (h:B) (t:Wr B → A:=by intro h; refine z7 (zw L (vs:=[_, _, _, _, _, _, _]) (yl rfl) rfl rfl rfl rfl ⟨_, rfl⟩) rfl ?_;exact h.h):A:=t ⟨h⟩
theorem zo3 {s:List U} {l:List CH} (h0:cE 32 l = 0) {i:Nat} {c:CH} (h:∀ (j:Nat) x, j < i → l[j]? = some x → zfm s x = true) (hc:l[i]? = some c) (hh:zfm s c = false):ze8 s l = (i, 13):=by
 unfold ze8; rw [if_pos h0]; exact ztm h hc hh
theorem zl8 {s:List U} {l:List CH} (h0:cE 32 l = 0) (h:∀ (j:Nat) x, l[j]? = some x → zfm s x = true):ze8 s l = (l.length, 0):=by
 unfold ze8; rw [if_pos h0]; exact ztn fun x hx => let ⟨j, hj⟩:=List.getElem?_of_mem hx; h j x hj
attribute [local irreducible] V N X VO Par StepOK Has Ret RetL RetO RetT Src
theorem znk {l:List CH} {fu:Bool} (hz:∀ c ∈ l, TM c.1) (hl:l.length ≤ 9223372036854775807) {e:Int} (he:cE 32 l = e) {v:Value} {w:World} {B:Heap} (hB:B.Le (hp w)) (hv:KS tyC l fu v B) :
  Ret Tryz.prog 79 [v] w B (fun r _ => r = .int .i64 e):=by
 obtain ⟨p, m, c, rfl⟩:=zn4 hv
 refine yf Tryz.func79 rfl Tryz.ntmps79 (Nat.le_of_ble_eq_true rfl) hB ?_
 refine ZY ?_;refine Ze ?_
 refine zno 1 rfl fun q H1 hs1 ⟨b, hpb, hb1⟩ => ?_
 subst hpb
 refine Zae ?_;refine Zed ?_;refine zfw 3 (KS tyC l fu) rfl SlV.mono (hv.le hs1.le) ?_;refine ZcX ?_;refine z7 (zff rfl rfl rfl rfl) rfl ?_;refine z7 (zp L rfl rfl (zk rfl) rfl rfl rfl (fun u H hH hle _ => zl1 (caps:=[.pointer (some ⟨b, 0, none⟩)]) hz hl rfl he hH (fun i c hc u' H' hH' hle' => z2u hc hH' (hle' _ _ (hle _ _ hb1)) ((hv.le hs1.le).le (Heap.Le.trans hle hle'))))) rfl ?_;refine Zb ?_
 refine ye L (rs:=[.tmp 2]) rfl (fun _ _ h => h) hs1 fun u H hH hle => ?_
 rfl
theorem zo0 {s:List U} {c:CH} {b:Bool} (hb:zfm s c = b) {v:Value} {w:World} {B:Heap} (hB:B.Le (hp w)) (hv:SetV s v B):Ret Tryz.prog 122 [v, chv c.1 c.2] w B (fun r _ => r = .bool b):=by
 subst hb
 obtain ⟨x, d⟩:=c
 obtain ⟨f1, p1, f2, q1, rfl, hpl⟩:=hv.shape
 obtain ⟨h, hh⟩:∃ h, decide (x ∈ s) = h:=⟨_, rfl⟩
 unfold zfm
 dsimp only
 rw [hh]
 refine yf Tryz.func122 rfl Tryz.ntmps122 (Nat.le_of_ble_eq_true rfl) hB ?_
 refine Zaf ?_;refine ZcZ ?_;refine Zej ?_;refine Za5 ?_;refine Zb4 ?_;refine z8 (zp L rfl rfl (zk rfl) rfl rfl rfl (fun u H hH hle _ => zc3 hh hH (hv.le hle))) rfl ?_;refine ZfT ?_;refine Zw ?_
 refine ye L (rs:=[.tmp 4]) rfl (fun _ _ h => h) Since.refl fun u H hH hle => ?_
 cases h <;> cases d <;> rfl
set_option maxHeartbeats 1000000 in
theorem first_ret {s:List U} {l:List CH} {fu:Bool} (hz:∀ c ∈ l, TM c.1) (hl:l.length ≤ 9223372036854775807) {r:Nat} {e:Int} (hr:ze8 s l = (r, e)) {sv v:Value} {w:World} {B:Heap} (hB:B.Le (hp w)) (hs:SetV s sv B) (hv:KS tyM l fu v B) :
  Ret Tryz.prog 80 [sv, v] w B (fun x _ => x = .tuple #[.int .i64 r, .int .i64 e]):=by
 obtain ⟨f1, p1, f2, q1, rfl, hpl⟩:=hs.shape
 refine yf Tryz.func80 rfl Tryz.ntmps80 (Nat.le_of_ble_eq_true rfl) hB ?_
 refine zat 1 (KS tyM l fu) rfl SlV.mono hv ?_
 by_cases h0:cE 32 l = 0
 ·refine ZcN ?_;refine ZbC ?_;refine Zf ?_;refine z7 (zp L rfl rfl (zk rfl) rfl rfl rfl (fun u H hH _ _ v1 h1 => zgm hz hl h0 hH h1)) rfl ?_;refine ZaF ?_;refine Zay ?_;refine ZV ?_;refine ZcD ?_
  refine zal (fun i:Nat => [(1, .sat (KS tyM l fu)), (2, .sat (At [f1, .pointer p1, f2, .pointer q1] zny 0)), (14, .sat (KS tyM l fu)), (15, .is (.int .i64 l.length)), (16, .is (.int .i64 i))]) (fun i => i ≤ l.length ∧ ∀ (j:Nat) x, j < i → l[j]? = some x → zfm s x = true) (fun i => l.length - i) 0 ⟨Nat.zero_le _, fun j c h => absurd h (Nat.not_lt_zero _)⟩ ⟨rfl, rfl, rfl, rfl, rfl, trivial⟩ ?_
  rintro i ⟨hi, hok⟩
  by_cases hlt:i < l.length
  ·obtain ⟨c, hc0⟩:=zae hlt
   have hc:=zi2 hc0
   cases hh:zfm s c
   ·rw [zo3 h0 hok hc0 hh] at hr
    cases hr
    refine zh ?_;refine Zo ?_;refine Zan ?_;refine Zz ?_;refine Zb7 ?_;refine ZbL ?_;refine ZaL ?_;refine Zau ?_;refine Zm ?_;refine Zp ?_;refine Ze5 ?_;refine ZfV ?_;refine z7 (zp L rfl rfl (zk rfl) rfl rfl rfl (fun u H hH hle _ => zo0 hh hH (hs.le hle))) rfl ?_;refine Zs ?_;refine Z0 ?_;refine Zbz ?_;refine Zk ?_
    refine ye L (rs:=[.tmp 4, .tmp 5]) rfl (fun _ _ h => h) Since.refl fun u H hH hle => ?_
    rfl
   ·refine zh ?_;refine Zo ?_;refine Zan ?_;refine Zz ?_;refine Zb7 ?_;refine ZbL ?_;refine ZaL ?_;refine Zau ?_;refine Zm ?_;refine Zp ?_;refine Ze5 ?_;refine ZfV ?_;refine z7 (zp L rfl rfl (zk rfl) rfl rfl rfl (fun u H hH hle _ => zo0 hh hH (hs.le hle))) rfl ?_;refine Zs ?_;refine Za4 ?_;refine ZM ?_;refine Zci ?_
    exact yi (x:=i) (i + 1) ⟨hlt, fun j c' hj hc' => by
     rcases Nat.lt_or_ge j i with h | h
     ·exact hok j c' h hc'
     ·have:j = i:=by omega
      subst this; rw [hc0] at hc'; cases hc'; exact hh⟩ (by omega) ⟨rfl, rfl, rfl, rfl, rfl, trivial⟩
  ·rw [zl8 h0 (fun j x hj => hok j x (by have:=get_lt hj; omega) hj)] at hr
   cases hr
   refine zh ?_;refine Zo ?_;refine Zbb ?_;refine Zag ?_;refine Zq ?_;refine Zk ?_
   refine ye L (rs:=[.tmp 4, .tmp 5]) rfl (fun _ _ h => h) Since.refl fun u H hH hle => ?_
   rfl
 ·have:ze8 s l = (0, cE 32 l):=if_neg h0
  rw [this] at hr
  cases hr
  refine ZcN ?_;refine ZbC ?_;refine Zf ?_;refine z7 (zp L rfl rfl (zk rfl) rfl rfl rfl (fun u H hH _ _ v1 h1 => zgm hz hl rfl hH h1)) rfl ?_;refine ZaF ?_;refine ZP ?_;refine Z1 ?_;refine Zk ?_
  refine ye L (rs:=[.tmp 4, .tmp 5]) rfl (fun _ _ h => h) Since.refl fun u H hH hle => ?_
  rfl
end Go.V.L8
set_option maxRecDepth 20000
namespace Go.V.L8
open Go.Proofs Go.RowKit Go.V Go.V.L2 Go.V.L3 Go.V.L6
attribute [local irreducible] V N X VO Par StepOK Has Ret RetL RetO RetT Src
end Go.V.L8
set_option maxRecDepth 20000
namespace Go.V.L8
open Go.Proofs Go.RowKit Go.V Go.V.L2 Go.V.L3 Go.V.L6
theorem _root_.Go.V.ZaO {A B:Prop} (h:B) (t:Wr B → A:=by intro h; refine z7 (zw L (vs:=[_, _, _, _]) (yl rfl) rfl rfl rfl rfl ⟨_, rfl⟩) rfl ?_;exact h.h):A:=t ⟨h⟩
theorem _root_.Go.V.Zfh {A B:Prop} (h:B) (t:Wr B → A:=by intro h; refine z7 (zw L (vs:=[_, _, _, _, _, _, _]) (zh1 rfl (List.Mem.head _)) rfl rfl rfl rfl ⟨_, rfl⟩) rfl ?_;exact h.h):A:=t ⟨h⟩
theorem _root_.Go.V.ZaP {A B:Prop} (h:B) (t:Wr B → A:=by intro h; refine zf (id:=20) ?_;exact h.h):A:=t ⟨h⟩
theorem _root_.Go.V.ZeQ {A B:Prop} (h:B) (t:Wr B → A:=by intro h; refine z8 (zw L (vs:=[_, _, _, _]) (yl rfl) rfl rfl rfl rfl ⟨_, rfl⟩) rfl ?_;exact h.h):A:=t ⟨h⟩
theorem _root_.Go.V.Zf7 {A B:Prop} (h:B) (t:Wr B → A:=by intro h; refine z8 (zw L (vs:=[_, _, _, _, _, _]) (zh1 rfl (List.Mem.head _)) rfl rfl rfl rfl ⟨_, rfl⟩) rfl ?_;exact h.h):A:=t ⟨h⟩
theorem _root_.Go.V.Zfu {A B:Prop} (h:B) (t:Wr B → A:=by intro h; refine qp (zb9 L rfl rfl rfl (zhq rfl) rfl zzc rfl rfl (by omega) (by omega)) ?_;exact h.h):A:=t ⟨h⟩
theorem _root_.Go.V.ZbA {A B:Prop} (h:B) (t:Wr B → A:=by intro h; refine zf (id:=19) ?_;exact h.h):A:=t ⟨h⟩
theorem _root_.Go.V.Zf8 {A B:Prop} (h:B) (t:Wr B → A:=by intro h; refine z8 (qf L (zh1 rfl (List.Mem.head _)) rfl rfl rfl rfl) rfl ?_;exact h.h):A:=t ⟨h⟩
theorem _root_.Go.V.Zf9 {A B:Prop} (h:B) (t:Wr B → A:=by intro h; refine z8 (z16 rfl rfl rfl rfl bt4 rfl) rfl ?_;exact h.h):A:=t ⟨h⟩
theorem _root_.Go.V.Zbt {A B:Prop} (h:B) (t:Wr B → A:=by intro h; refine ZdG ?_;refine Za ?_;exact h.h):A:=t ⟨h⟩
theorem _root_.Go.V.ZgA {A B:Prop} (h:B) (t:Wr B → A:=by intro h; refine ZaV ?_;refine ZeO ?_;exact h.h):A:=t ⟨h⟩
theorem _root_.Go.V.ZbM {A B:Prop} (h:B) (t:Wr B → A:=by intro h; refine Zaz ?_;refine ZgA ?_;exact h.h):A:=t ⟨h⟩
theorem z0w {n:Nat} {l:List CH} (h:cE n l = 0):l.length ≤ n ∧ ∀ c ∈ l, tE c.1 = 0:=by
 unfold cE at h
 split at h
 ·exact absurd h (by decide)
 ·split at h
  ·exact absurd h (by decide)
  ·rename_i h1 h2
   refine ⟨by omega, fun c hc => ?_⟩
   by_cases h0:tE c.1 = 0
   ·exact h0
   ·exact absurd (List.any_eq_true.2 ⟨c, hc, by simp [h0]⟩) h2
theorem zll {s:ByteArray} (h:chk s = 0):s.size ≤ 1099511627776:=by
 unfold chk at h
 split at h
 ·rename_i h1; omega
 ·exact absurd h (by decide)
theorem zqu {t:U} (h:tE t = 0):TZ t:=by
 unfold tE at h
 split at h
 ·rename_i h1
  obtain ⟨c1, c2, c3⟩:=zzr h1
  obtain ⟨d1, d2, d3⟩:=zsk h
  refine ⟨⟨zll c1, zll c2, zll c3⟩, zll d1, zll d2, ?_⟩
  rcases d3 with d3 | d3
  ·rw [d3]; exact Nat.zero_le _
  ·exact zll d3
 ·rename_i h1; exact absurd h h1
def WriteP (t:List U) (made:List CH) (e:Int) (r:Value) (H:Heap):Prop:=∃ tv mv, r = .tuple #[tv, mv, .int .i64 e] ∧ SetV t tv H ∧ KS tyC made true mv H
theorem WriteP.mono {t:List U} {made:List CH} {e:Int}:Kn.mono (.sat (WriteP t made e)):=fun _ _ _ ⟨tv, mv, h1, h2, h3⟩ hle => ⟨tv, mv, h1, h2.le hle, h3.le hle⟩
attribute [local irreducible] V N X VO Par StepOK Has Ret RetL RetO RetT Src
theorem zw0 {l:List CH} {fu:Bool} {v:Value} {w:World} {B:Heap} (hB:B.Le (hp w)) (hv:KS tyC l fu v B):Ret Tryz.prog 81 [v] w B (KS tyC l true):=by
 refine yf Tryz.func81 rfl Tryz.ntmps81 (Nat.le_of_ble_eq_true rfl) hB ?_
 refine zat 0 (KS tyC l fu) rfl SlV.mono hv ?_
 refine ZaD ?_;refine Zf ?_;refine Zq ?_;refine Zq ?_;refine Zfr ?_;refine ZaZ ?_
 refine ye L (rs:=[.tmp 2]) rfl (fun _ _ h => h) Since.refl fun u H hH hle => ?_
 exact fun v hv => hv
set_option maxHeartbeats 4000000 in
set_option maxRecDepth 10000 in
theorem zt1 {s t:List U} {l cs made:List CH} {fl fc:Bool} {e:Int} (zl:∀ c ∈ l, TM c.1) (zc:∀ c ∈ cs, TM c.1) (ll:l.length ≤ 9223372036854775807) (lc:cs.length ≤ 9223372036854775807) (hsl:s.length ≤ 4096) (hr:zeo s l cs = (t, made, e)) {sv lv cv:Value} {w:World} {B:Heap} (hB:B.Le (hp w))
  (hs:SetV s sv B) (hl:KS tyM l fl lv B) (hc:KS tyC cs fc cv B):Ret Tryz.prog 49 [sv, lv, cv] w B (WriteP t made e):=by
 obtain ⟨f1, p1, f2, q1, rfl, hpl⟩:=hs.shape
 refine yf Tryz.func49 rfl Tryz.ntmps49 (Nat.le_of_ble_eq_true rfl) hB ?_
 refine zat 1 (KS tyM l fl) rfl SlV.mono hl ?_
 refine zat 2 (KS tyC cs fc) rfl SlV.mono hc ?_
 unfold zeo at hr
 by_cases h1:cE 32 l = 0
 ·rw [if_pos h1] at hr
  by_cases h2:cE 32 cs = 0
  ·rw [if_pos h2] at hr
   obtain ⟨r, e1, hf⟩:∃ r e1, ze8 s l = (r, e1):=⟨_, _, rfl⟩
   rw [hf] at hr
   dsimp only at hr
   by_cases h3:e1 = 0
   ·subst h3
    rw [if_pos rfl] at hr
    obtain ⟨l32, hval⟩:=z0w h2
    refine Zdl ?_;refine ZaL ?_;refine ZbC ?_;refine Zf ?_;refine z7 (zp L rfl rfl (zk rfl) rfl rfl rfl (fun u H hH _ _ v1 g1 => zgm zl ll h1 hH g1)) rfl ?_;refine ZaF ?_;refine Zay ?_;refine ZV ?_;refine Zf ?_;refine z7 (zp L rfl rfl (zk rfl) rfl rfl rfl (fun u H hH _ _ v1 g1 => znk zc lc h2 hH g1)) rfl ?_;refine Ze ?_;refine Z9 ?_;refine Zay ?_;refine Zp ?_;refine ZaO ?_;refine Zf ?_;refine z7 (zp L rfl rfl (zk rfl) rfl rfl rfl (fun u H hH hle _ v1 g1 => first_ret zl ll hf hH (hs.le hle) g1)) rfl ?_;refine Za6 ?_;refine Zbz ?_;refine Zay ?_;refine Zag ?_;refine ZcD ?_
    refine z03 (X:=SXp) 3 (r:=fun x => Cell (scs x.1) zny) (φ:=zun s) (zdd s) ⟨(f1, p1, f2, q1), hpl⟩ hs rfl ?_
    refine zd4 7 tyC 7 rfl ?_
    refine zal (fun y:Nat × List U × List CH => [(3, .own (ExR (fun x:SXp => Cell (scs x.1) zny) (zun y.2.1) (zdd y.2.1))), (6, .own (Cell [.nilFunc, .pointer none, .nilFunc, .pointer none] zny)), (7, .own (SlR tyC 7 y.2.2.length (y.2.2.flatMap ccs))), (40, .sat (KS tyC cs fc)), (41, .is (.int .i64 cs.length)), (42, .is (.int .i64 y.1))])
     (fun y => y.1 ≤ cs.length ∧ zft y.2.1 y.2.2 (cs.drop y.1) = (t, made, e) ∧ y.2.1.length ≤ 4096 ∧ y.2.2.length ≤ y.1) (fun y => cs.length - y.1) (0, s, []) ⟨Nat.zero_le _, hr, hsl, Nat.le_refl _⟩ ⟨rfl, rfl, rfl, rfl, rfl, rfl, trivial⟩ ?_
    clear hr hs hsl
    rintro ⟨k, s, md⟩ ⟨hk, he, hsl, hmd⟩
    dsimp only at hk he hsl hmd ⊢
    refine zc9 3 rfl fun ⟨⟨f1, p1, f2, q1⟩, hpl⟩ H3 hs3 hT => ?_
    have hT:SetV s (.agg #[f1, .pointer p1, f2, .pointer q1]) H3:=hT
    by_cases hlt:k < cs.length
    ·obtain ⟨c, hc0⟩:=zae hlt
     have hc:=zi2 hc0
     have hv:=hval c (List.mem_of_getElem? hc0)
     have hzt:=zqu hv
     rw [zfr hc0, zft] at he
     obtain ⟨x, d⟩:=c
     dsimp only at hc hv hzt he
     rcases hw:zcz s x d with ⟨s', e'⟩
     rw [hw] at he
     dsimp only at he
     have hsl':=znv hsl x d
     rw [hw] at hsl'
     obtain ⟨i, hin⟩:∃ i, decide (x ∈ s) = i:=⟨_, rfl⟩
     rw [hin] at he
     by_cases h0:e' = 0
     ·rw [if_pos h0] at he
      subst h0
      cases i <;> cases d
      ·rw [if_pos rfl] at he
       refine zh ?_;refine Zak ?_;refine Zan ?_;refine ZQ ?_;refine Zao ?_;refine ZbL ?_;refine ZX ?_;refine Zm ?_
       refine zlh 14 rfl fun b14 hb14 => ?_
       refine Zfg ?_;refine ZeQ ?_;refine Zcw ?_;refine Zf7 ?_;refine z8 (zp L rfl rfl (zk rfl) rfl rfl rfl (fun u H hH hle _ => zc3 hin hH (hT.le hle))) rfl ?_;refine Zcw ?_;refine Zf8 ?_;refine Zf9 ?_;refine Zdk ?_;refine Zaw ?_;refine ZaO ?_;refine Zfh ?_;refine z7 (yw (φ:=WithP s' 0) L rfl rfl (zk rfl) rfl rfl rfl WithP.mono (fun u H hH hle _ => znt hw hsl hzt hH (hT.le hle))) rfl ?_;refine zbq 56 rfl ?_;rintro _ H19 hs19 ⟨tv, rfl, hT19⟩; obtain ⟨g1, r1, g2, r2, rfl, hpl2⟩:=hT19.shape; refine ZbM ?_;refine Zj ?_;refine Zeb ?_;refine Zas ?_;refine Zca ?_;refine ZaO ?_;refine ZeO ?_;refine Zm ?_;refine Zbt ?_;refine ZW ?_;refine ZbA ?_;refine qp (yq (.inl rfl) rfl rfl rfl rfl) ?_;refine Zfh ?_;refine Zaa ?_;refine Zfu ?_;refine qp (yq (.inr rfl) rfl rfl rfl rfl) ?_;refine Zaq ?_
       refine zsd (O':=[]) (List.nil_sublist _) ?_
       refine ZaP ?_;refine Zci ?_
       refine zpk (X:=SXp) 3 (r:=fun x => Cell (scs x.1) zny) (φ:=zun s') (zdd _) ⟨(g1, r1, g2, r2), hpl2⟩ hT19 rfl ?_
       exact zgq (x:=(k, s, md)) (k + 1, s', md ++ [(x, false)]) (hs3.trans hs19) ⟨hlt, he, hsl', by dsimp only; rw [List.length_append]; show md.length + 1 ≤ k + 1; omega⟩ (by dsimp only; omega) ⟨rfl, rfl, zg5 rfl, rfl, rfl, rfl, trivial⟩
      ·rw [if_neg (by decide)] at he
       refine zh ?_;refine Zak ?_;refine Zan ?_;refine ZQ ?_;refine Zao ?_;refine ZbL ?_;refine ZX ?_;refine Zm ?_
       refine zlh 14 rfl fun b14 hb14 => ?_
       refine Zfg ?_;refine ZeQ ?_;refine Zcw ?_;refine Zf7 ?_;refine z8 (zp L rfl rfl (zk rfl) rfl rfl rfl (fun u H hH hle _ => zc3 hin hH (hT.le hle))) rfl ?_;refine Zcw ?_;refine Zf8 ?_;refine Zf9 ?_;refine Zdk ?_;refine Zaw ?_;refine ZaO ?_;refine Zfh ?_;refine z7 (yw (φ:=WithP s' 0) L rfl rfl (zk rfl) rfl rfl rfl WithP.mono (fun u H hH hle _ => znt hw hsl hzt hH (hT.le hle))) rfl ?_;refine zbq 56 rfl ?_;rintro _ H19 hs19 ⟨tv, rfl, hT19⟩; obtain ⟨g1, r1, g2, r2, rfl, hpl2⟩:=hT19.shape; refine ZbM ?_;refine Zj ?_;refine Zeb ?_;refine Zas ?_;refine Zca ?_;refine ZaO ?_;refine ZeO ?_;refine Zm ?_;refine Zbt ?_;refine Za4 ?_
       refine zsd (O':=[]) (List.nil_sublist _) ?_
       refine ZaP ?_;refine Zci ?_
       refine zpk (X:=SXp) 3 (r:=fun x => Cell (scs x.1) zny) (φ:=zun s') (zdd _) ⟨(g1, r1, g2, r2), hpl2⟩ hT19 rfl ?_
       exact zgq (x:=(k, s, md)) (k + 1, s', md) (hs3.trans hs19) ⟨hlt, he, hsl', by dsimp only; omega⟩ (by dsimp only; omega) ⟨rfl, rfl, rfl, rfl, rfl, rfl, trivial⟩
      ·rw [if_neg (by decide)] at he
       refine zh ?_;refine Zak ?_;refine Zan ?_;refine ZQ ?_;refine Zao ?_;refine ZbL ?_;refine ZX ?_;refine Zm ?_
       refine zlh 14 rfl fun b14 hb14 => ?_
       refine Zfg ?_;refine ZeQ ?_;refine Zcw ?_;refine Zf7 ?_;refine z8 (zp L rfl rfl (zk rfl) rfl rfl rfl (fun u H hH hle _ => zc3 hin hH (hT.le hle))) rfl ?_;refine Zcw ?_;refine Zf8 ?_;refine Zf9 ?_;refine Zdk ?_;refine Zaw ?_;refine ZaO ?_;refine Zfh ?_;refine z7 (yw (φ:=WithP s' 0) L rfl rfl (zk rfl) rfl rfl rfl WithP.mono (fun u H hH hle _ => znt hw hsl hzt hH (hT.le hle))) rfl ?_;refine zbq 56 rfl ?_;rintro _ H19 hs19 ⟨tv, rfl, hT19⟩; obtain ⟨g1, r1, g2, r2, rfl, hpl2⟩:=hT19.shape; refine ZbM ?_;refine Zj ?_;refine Zeb ?_;refine Zas ?_;refine Zca ?_;refine ZaO ?_;refine ZeO ?_;refine Zm ?_;refine Zbt ?_;refine Za4 ?_
       refine zsd (O':=[]) (List.nil_sublist _) ?_
       refine ZaP ?_;refine Zci ?_
       refine zpk (X:=SXp) 3 (r:=fun x => Cell (scs x.1) zny) (φ:=zun s') (zdd _) ⟨(g1, r1, g2, r2), hpl2⟩ hT19 rfl ?_
       exact zgq (x:=(k, s, md)) (k + 1, s', md) (hs3.trans hs19) ⟨hlt, he, hsl', by dsimp only; omega⟩ (by dsimp only; omega) ⟨rfl, rfl, rfl, rfl, rfl, rfl, trivial⟩
      ·rw [if_pos rfl] at he
       refine zh ?_;refine Zak ?_;refine Zan ?_;refine ZQ ?_;refine Zao ?_;refine ZbL ?_;refine ZX ?_;refine Zm ?_
       refine zlh 14 rfl fun b14 hb14 => ?_
       refine Zfg ?_;refine ZeQ ?_;refine Zcw ?_;refine Zf7 ?_;refine z8 (zp L rfl rfl (zk rfl) rfl rfl rfl (fun u H hH hle _ => zc3 hin hH (hT.le hle))) rfl ?_;refine Zcw ?_;refine Zf8 ?_;refine Zf9 ?_;refine Zdk ?_;refine Zaw ?_;refine ZaO ?_;refine Zfh ?_;refine z7 (yw (φ:=WithP s' 0) L rfl rfl (zk rfl) rfl rfl rfl WithP.mono (fun u H hH hle _ => znt hw hsl hzt hH (hT.le hle))) rfl ?_;refine zbq 56 rfl ?_;rintro _ H19 hs19 ⟨tv, rfl, hT19⟩; obtain ⟨g1, r1, g2, r2, rfl, hpl2⟩:=hT19.shape; refine ZbM ?_;refine Zj ?_;refine Zeb ?_;refine Zas ?_;refine Zca ?_;refine ZaO ?_;refine ZeO ?_;refine Zm ?_;refine Zbt ?_;refine ZW ?_;refine ZbA ?_;refine qp (yq (.inl rfl) rfl rfl rfl rfl) ?_;refine Zfh ?_;refine Zaa ?_;refine Zfu ?_;refine qp (yq (.inr rfl) rfl rfl rfl rfl) ?_;refine Zaq ?_
       refine zsd (O':=[]) (List.nil_sublist _) ?_
       refine ZaP ?_;refine Zci ?_
       refine zpk (X:=SXp) 3 (r:=fun x => Cell (scs x.1) zny) (φ:=zun s') (zdd _) ⟨(g1, r1, g2, r2), hpl2⟩ hT19 rfl ?_
       exact zgq (x:=(k, s, md)) (k + 1, s', md ++ [(x, true)]) (hs3.trans hs19) ⟨hlt, he, hsl', by dsimp only; rw [List.length_append]; show md.length + 1 ≤ k + 1; omega⟩ (by dsimp only; omega) ⟨rfl, rfl, zg5 rfl, rfl, rfl, rfl, trivial⟩
     ·rw [if_neg h0] at he
      cases he
      refine zh ?_;refine Zak ?_;refine Zan ?_;refine ZQ ?_;refine Zao ?_;refine ZbL ?_;refine ZX ?_;refine Zm ?_
      refine zlh 14 rfl fun b14 hb14 => ?_
      refine Zfg ?_;refine ZeQ ?_;refine Zcw ?_;refine Zf7 ?_;refine z8 (zp L rfl rfl (zk rfl) rfl rfl rfl (fun u H hH hle _ => zc3 hin hH (hT.le hle))) rfl ?_;refine Zcw ?_;refine Zf8 ?_;refine Zf9 ?_;refine Zdk ?_;refine Zaw ?_;refine ZaO ?_;refine Zfh ?_;refine z7 (yw (φ:=WithP s' e) L rfl rfl (zk rfl) rfl rfl rfl WithP.mono (fun u H hH hle _ => znt hw hsl hzt hH (hT.le hle))) rfl ?_;refine zbq 56 rfl ?_;rintro _ H19 hs19 ⟨tv, rfl, hT19⟩; obtain ⟨g1, r1, g2, r2, rfl, hpl2⟩:=hT19.shape; refine ZbM ?_;refine Zj ?_;refine Zeb ?_;refine ZP ?_;refine Zap ?_;refine Ze6 ?_;refine Za ?_;refine Zau ?_;refine Zk ?_
      refine ye L (rs:=[.cell 6 45, .tmp 7, .tmp 8]) rfl (fun _ _ h => h) (hs3.trans hs19) fun u H hH hle => ?_
      exact ⟨_, yl rfl, rfl, _, _, rfl, SetV.nil, SlV.nil⟩
    ·obtain rfl:k = cs.length:=by omega
     rw [List.drop_length, zft] at he
     cases he
     refine zh ?_;refine Zak ?_;refine Zbb ?_
     refine zci 7 rfl ?_
     refine qg (id:=21) [] mixed (by kernel_rfl) ?_;refine ZeQ ?_;refine Zah ?_;refine z8 (yw (φ:=KS tyC made true) L rfl rfl (zk rfl) rfl rfl rfl SlV.mono (fun u H hH _ _ v1 g1 => zw0 hH g1)) rfl ?_;refine z8 (yb L rfl rfl rfl rfl rfl rfl (by assumption) rfl) rfl ?_;refine Zdh ?_;refine Zw ?_
     refine ye L (rs:=[.cell 6 45, .tmp 7, .tmp 8]) rfl (fun _ _ h => h) hs3 fun u H hH hle => ?_
     exact ⟨_, yl rfl, rfl, fun mv hmv => ⟨_, mv, rfl, hT.le hle, hmv⟩⟩
   ·rw [if_neg h3] at hr
    cases hr
    refine Zdl ?_;refine ZaL ?_;refine ZbC ?_;refine Zf ?_;refine z7 (zp L rfl rfl (zk rfl) rfl rfl rfl (fun u H hH _ _ v1 g1 => zgm zl ll h1 hH g1)) rfl ?_;refine ZaF ?_;refine Zay ?_;refine ZV ?_;refine Zf ?_;refine z7 (zp L rfl rfl (zk rfl) rfl rfl rfl (fun u H hH _ _ v1 g1 => znk zc lc h2 hH g1)) rfl ?_;refine Ze ?_;refine Z9 ?_;refine Zay ?_;refine Zp ?_;refine ZaO ?_;refine Zf ?_;refine z7 (zp L rfl rfl (zk rfl) rfl rfl rfl (fun u H hH hle _ v1 g1 => first_ret zl ll hf hH (hs.le hle) g1)) rfl ?_;refine Za6 ?_;refine Zbz ?_;refine ZP ?_;refine ZM ?_;refine Ze6 ?_;refine Za ?_;refine Zau ?_;refine Zk ?_
    refine ye L (rs:=[.cell 6 45, .tmp 7, .tmp 8]) rfl (fun _ _ h => h) Since.refl fun u H hH hle => ?_
    exact ⟨_, yl rfl, rfl, _, _, rfl, SetV.nil, SlV.nil⟩
  ·rw [if_neg h2] at hr
   cases hr
   refine Zdl ?_;refine ZaL ?_;refine ZbC ?_;refine Zf ?_;refine z7 (zp L rfl rfl (zk rfl) rfl rfl rfl (fun u H hH _ _ v1 g1 => zgm zl ll h1 hH g1)) rfl ?_;refine ZaF ?_;refine Zay ?_;refine ZV ?_;refine Zf ?_;refine z7 (zp L rfl rfl (zk rfl) rfl rfl rfl (fun u H hH _ _ v1 g1 => znk zc lc rfl hH g1)) rfl ?_;refine Ze ?_;refine Z9 ?_;refine ZP ?_;refine Zz ?_;refine Ze6 ?_;refine Za ?_;refine Zau ?_;refine Zk ?_
   refine ye L (rs:=[.cell 6 45, .tmp 7, .tmp 8]) rfl (fun _ _ h => h) Since.refl fun u H hH hle => ?_
   exact ⟨_, yl rfl, rfl, _, _, rfl, SetV.nil, SlV.nil⟩
 ·rw [if_neg h1] at hr
  cases hr
  refine Zdl ?_;refine ZaL ?_;refine ZbC ?_;refine Zf ?_;refine z7 (zp L rfl rfl (zk rfl) rfl rfl rfl (fun u H hH _ _ v1 g1 => zgm zl ll rfl hH g1)) rfl ?_;refine ZaF ?_;refine ZP ?_;refine Zt ?_;refine Ze6 ?_;refine Za ?_;refine Zau ?_;refine Zk ?_
  refine ye L (rs:=[.cell 6 45, .tmp 7, .tmp 8]) rfl (fun _ _ h => h) Since.refl fun u H hH hle => ?_
  exact ⟨_, yl rfl, rfl, _, _, rfl, SetV.nil, SlV.nil⟩
end Go.V.L8
set_option maxRecDepth 20000
namespace Go.V.L8
open Go.Proofs Go.RowKit Go.V Go.V.L2 Go.V.L3 Go.V.L6
theorem zwl (s:List U) (x:U):(1 - (if x ∈ s then 1 else 0:Int)) = if zfm s (x, true) = true then 1 else 0:=by
 unfold zfm
 by_cases h:x ∈ s <;> simp [h]
theorem zti (s:List U) (x:U):(if x ∈ s then 1 else 0:Int) = if zfm s (x, false) = true then 1 else 0:=by
 unfold zfm
 by_cases h:x ∈ s <;> simp [h]
attribute [local irreducible] V N X VO Par StepOK Has Ret RetL RetO RetT Src
theorem zfe {l:List CH} {fu:Bool} (hz:∀ c ∈ l, TM c.1) (hl:l.length ≤ 9223372036854775807) {e:Int} (he:cE 32 l = e) {v:Value} {w:World} {B:Heap} (hB:B.Le (hp w)) (hv:KS tyM l fu v B) :
  Ret Tryz.prog 124 [v] w B (fun r _ => r = .int .i64 e):=by
 subst he
 refine yf Tryz.func124 rfl Tryz.ntmps124 (Nat.le_of_ble_eq_true rfl) hB ?_
 refine zat 0 (KS tyM l fu) rfl SlV.mono hv ?_
 by_cases h32:32 < l.length
 ·have:cE 32 l = 3:=if_pos h32
  rw [this]
  refine ZeW ?_;refine ZC ?_;refine ZcW ?_
  refine ye L (rs:=[.tmp 2]) rfl (fun _ _ h => h) Since.refl fun u H hH hle => ?_
  rfl
 ·refine ZeW ?_;refine Z7 ?_;refine Zr ?_;refine Zt ?_;refine ZE ?_
  refine zal (fun i:Nat => [(0, .sat (KS tyM l fu)), (3, .is (.int .i64 i))]) (fun i => i ≤ l.length ∧ ∀ (j:Nat) c, j < i → l[j]? = some c → tE c.1 = 0) (fun i => l.length - i) 0 ⟨Nat.zero_le _, fun j c h => absurd h (Nat.not_lt_zero _)⟩ ⟨rfl, rfl, trivial⟩ ?_
  rintro i ⟨hi, hok⟩
  by_cases hlt:i < l.length
  ·obtain ⟨c, hc0⟩:=zae hlt
   have hc:=zi2 hc0
   have hzc:=hz c (List.mem_of_getElem? hc0)
   by_cases h0:tE c.1 = 0
   ·refine ZeY ?_;refine Zz ?_;refine Zbe ?_;refine ZeP ?_;refine ZdH ?_;refine z7 (zp L rfl rfl (zk rfl) rfl rfl rfl (fun u H hH _ _ => h0 ▸ zi9 hzc hH)) rfl ?_;refine ZK ?_;refine Za4 ?_;refine ZcI ?_
    exact yi (x:=i) (i + 1) ⟨hlt, fun j c' hj hc' => by
     rcases Nat.lt_or_ge j i with h | h
     ·exact hok j c' h hc'
     ·have:j = i:=by omega
      subst this; rw [hc0] at hc'; cases hc'; exact h0⟩ (by omega) ⟨rfl, rfl, trivial⟩
   ·have h6:=(zqw c.1).resolve_left h0
    rw [z2v h32 hc0 h0]
    refine ZeY ?_;refine Zz ?_;refine Zbe ?_;refine ZeP ?_;refine ZdH ?_;refine z7 (zp L rfl rfl (zk rfl) rfl rfl rfl (fun u H hH _ _ => h6 ▸ zi9 hzc hH)) rfl ?_;refine ZP ?_;refine ZcU ?_
    refine ye L (rs:=[.tmp 2]) rfl (fun _ _ h => h) Since.refl fun u H hH hle => ?_
    rfl
  ·rw [zw6 h32 (fun j c hj => hok j c (by have:=get_lt hj; omega) hj)]
   refine ZbX ?_;refine ZbH ?_;refine Zd8 ?_
   refine ye L (rs:=[.tmp 2]) rfl (fun _ _ h => h) Since.refl fun u H hH hle => ?_
   rfl
theorem zmu {l:List CH} {fu:Bool} (hz:∀ c ∈ l, TM c.1) (hl:l.length ≤ 9223372036854775807) {e:Int} (he:cE 32 l = e) {v:Value} {w:World} {B:Heap} (hB:B.Le (hp w)) (hv:KS tyC l fu v B) :
  Ret Tryz.prog 125 [v] w B (fun r _ => r = .int .i64 e):=by
 subst he
 refine yf Tryz.func125 rfl Tryz.ntmps125 (Nat.le_of_ble_eq_true rfl) hB ?_
 refine zat 0 (KS tyC l fu) rfl SlV.mono hv ?_
 by_cases h32:32 < l.length
 ·have:cE 32 l = 3:=if_pos h32
  rw [this]
  refine ZeW ?_;refine ZC ?_;refine ZcW ?_
  refine ye L (rs:=[.tmp 2]) rfl (fun _ _ h => h) Since.refl fun u H hH hle => ?_
  rfl
 ·refine ZeW ?_;refine Z7 ?_;refine Zr ?_;refine Zt ?_;refine ZE ?_
  refine zal (fun i:Nat => [(0, .sat (KS tyC l fu)), (3, .is (.int .i64 i))]) (fun i => i ≤ l.length ∧ ∀ (j:Nat) c, j < i → l[j]? = some c → tE c.1 = 0) (fun i => l.length - i) 0 ⟨Nat.zero_le _, fun j c h => absurd h (Nat.not_lt_zero _)⟩ ⟨rfl, rfl, trivial⟩ ?_
  rintro i ⟨hi, hok⟩
  by_cases hlt:i < l.length
  ·obtain ⟨c, hc0⟩:=zae hlt
   have hc:=zi2 hc0
   have hzc:=hz c (List.mem_of_getElem? hc0)
   by_cases h0:tE c.1 = 0
   ·refine ZeY ?_;refine Zz ?_;refine Zbe ?_;refine ZeP ?_;refine ZdH ?_;refine z7 (zp L rfl rfl (zk rfl) rfl rfl rfl (fun u H hH _ _ => h0 ▸ zi9 hzc hH)) rfl ?_;refine ZK ?_;refine Za4 ?_;refine ZcI ?_
    exact yi (x:=i) (i + 1) ⟨hlt, fun j c' hj hc' => by
     rcases Nat.lt_or_ge j i with h | h
     ·exact hok j c' h hc'
     ·have:j = i:=by omega
      subst this; rw [hc0] at hc'; cases hc'; exact h0⟩ (by omega) ⟨rfl, rfl, trivial⟩
   ·have h6:=(zqw c.1).resolve_left h0
    rw [z2v h32 hc0 h0]
    refine ZeY ?_;refine Zz ?_;refine Zbe ?_;refine ZeP ?_;refine ZdH ?_;refine z7 (zp L rfl rfl (zk rfl) rfl rfl rfl (fun u H hH _ _ => h6 ▸ zi9 hzc hH)) rfl ?_;refine ZP ?_;refine ZcU ?_
    refine ye L (rs:=[.tmp 2]) rfl (fun _ _ h => h) Since.refl fun u H hH hle => ?_
    rfl
  ·rw [zw6 h32 (fun j c hj => hok j c (by have:=get_lt hj; omega) hj)]
   refine ZbX ?_;refine ZbH ?_;refine Zd8 ?_
   refine ye L (rs:=[.tmp 2]) rfl (fun _ _ h => h) Since.refl fun u H hH hle => ?_
   rfl
theorem zlv {s:List U} {c:CH} {fs:Bool} (ls:s.length ≤ 90000) {b:Int} (hb:(if zfm s c = true then 1 else 0) = b) {v:Value} {w:World} {B:Heap} (hB:B.Le (hp w)) (hv:US s fs v B) :
  Ret Tryz.prog 158 [v, chv c.1 c.2] w B (fun r _ => r = .int .i64 b):=by
 subst hb
 obtain ⟨x, d⟩:=c
 refine yf Tryz.func158 rfl Tryz.ntmps158 (Nat.le_of_ble_eq_true rfl) hB ?_
 refine zat 0 (US s fs) rfl SlV.mono hv ?_
 obtain ⟨m, hm⟩:∃ m:Int, (if x ∈ s then 1 else 0:Int) = m:=⟨_, rfl⟩
 have hm2:m = 0 ∨ m = 1:=by rw [← hm]; split <;> simp
 cases d
 ·rw [← zti, hm]
  refine ZbD ?_;refine Zv ?_;refine Zx ?_;refine Zeg ?_;refine Zcz ?_;refine z7 (zp L rfl rfl (zk rfl) rfl rfl rfl (fun u H hH _ _ v1 h1 => zbr (by omega) hm hH h1)) rfl ?_;refine Zb ?_
  refine ye L (rs:=[.tmp 4]) rfl (fun _ _ h => h) Since.refl fun u H hH hle => ?_
  rfl
 ·rw [← zwl, hm]
  refine ZbD ?_;refine Zv ?_;refine Zbw ?_;refine Zf ?_;refine Zcz ?_;refine z7 (zp L rfl rfl (zk rfl) rfl rfl rfl (fun u H hH _ _ v1 h1 => zbr (by omega) hm hH h1)) rfl ?_;refine ZbI ?_;refine Zb ?_
  refine ye L (rs:=[.tmp 4]) rfl (fun _ _ h => h) Since.refl fun u H hH hle => ?_
  rfl
set_option maxHeartbeats 1000000 in
theorem zkc {s:List U} {l:List CH} {fs fu:Bool} (ls:s.length ≤ 90000) (hz:∀ c ∈ l, TM c.1) (hl:l.length ≤ 9223372036854775807) {r:Nat} {e:Int} (hr:ze8 s l = (r, e)) {sv v:Value} {w:World} {B:Heap} (hB:B.Le (hp w)) (hs:US s fs sv B) (hv:KS tyM l fu v B) :
  Ret Tryz.prog 126 [sv, v] w B (fun x _ => x = .tuple #[.int .i64 r, .int .i64 e]):=by
 refine yf Tryz.func126 rfl Tryz.ntmps126 (Nat.le_of_ble_eq_true rfl) hB ?_
 refine zat 0 (US s fs) rfl SlV.mono hs ?_
 refine zat 1 (KS tyM l fu) rfl SlV.mono hv ?_
 by_cases h0:cE 32 l = 0
 ·refine ZaX ?_;refine ZbC ?_;refine Zf ?_;refine z7 (zp L rfl rfl (zk rfl) rfl rfl rfl (fun u H hH _ _ v1 h1 => zfe hz hl h0 hH h1)) rfl ?_;refine Zay ?_;refine Zt ?_;refine ZE ?_
  refine zal (fun i:Nat => [(0, .sat (US s fs)), (1, .sat (KS tyM l fu)), (6, .is (.int .i64 i))]) (fun i => i ≤ l.length ∧ ∀ (j:Nat) x, j < i → l[j]? = some x → zfm s x = true) (fun i => l.length - i) 0 ⟨Nat.zero_le _, fun j c h => absurd h (Nat.not_lt_zero _)⟩ ⟨rfl, rfl, rfl, trivial⟩ ?_
  rintro i ⟨hi, hok⟩
  by_cases hlt:i < l.length
  ·obtain ⟨c, hc0⟩:=zae hlt
   have hc:=zi2 hc0
   cases hh:zfm s c
   ·rw [zo3 h0 hok hc0 hh] at hr
    cases hr
    refine ZeY ?_;refine Zz ?_;refine Zf ?_;refine Zbe ?_;refine ZbL ?_;refine z7 (zp L rfl rfl (zk rfl) rfl rfl rfl (fun u H hH hle _ v1 h1 => zlv (c:=c) (b:=0) ls (by rw [hh]; rfl) hH h1)) rfl ?_;refine ZbZ ?_;refine Z5 ?_;refine Zk ?_
    refine ye L (rs:=[.tmp 4, .tmp 5]) rfl (fun _ _ h => h) Since.refl fun u H hH hle => ?_
    rfl
   ·refine ZeY ?_;refine Zz ?_;refine Zf ?_;refine Zbe ?_;refine ZbL ?_;refine z7 (zp L rfl rfl (zk rfl) rfl rfl rfl (fun u H hH hle _ v1 h1 => zlv (c:=c) (b:=1) ls (by rw [hh]; rfl) hH h1)) rfl ?_;refine ZH ?_;refine Za4 ?_;refine ZcI ?_
    exact yi (x:=i) (i + 1) ⟨hlt, fun j c' hj hc' => by
     rcases Nat.lt_or_ge j i with h | h
     ·exact hok j c' h hc'
     ·have:j = i:=by omega
      subst this; rw [hc0] at hc'; cases hc'; exact hh⟩ (by omega) ⟨rfl, rfl, rfl, trivial⟩
  ·rw [zl8 h0 (fun j x hj => hok j x (by have:=get_lt hj; omega) hj)] at hr
   cases hr
   refine ZbX ?_;refine ZbH ?_;refine Z8 ?_;refine Zq ?_;refine Zk ?_
   refine ye L (rs:=[.tmp 4, .tmp 5]) rfl (fun _ _ h => h) Since.refl fun u H hH hle => ?_
   rfl
 ·have:ze8 s l = (0, cE 32 l):=if_neg h0
  rw [this] at hr
  cases hr
  refine ZaX ?_;refine ZbC ?_;refine Zf ?_;refine z7 (zp L rfl rfl (zk rfl) rfl rfl rfl (fun u H hH _ _ v1 h1 => zfe hz hl rfl hH h1)) rfl ?_;refine ZP ?_;refine Zy ?_;refine Zf ?_;refine z7 (zp L rfl rfl (zk rfl) rfl rfl rfl (fun u H hH _ _ v1 h1 => zfe hz hl rfl hH h1)) rfl ?_;refine Zk ?_
  refine ye L (rs:=[.tmp 4, .tmp 5]) rfl (fun _ _ h => h) Since.refl fun u H hH hle => ?_
  rfl
end Go.V.L8
set_option maxRecDepth 20000
namespace Go.V.L8
open Go.Proofs Go.RowKit Go.V Go.V.L2 Go.V.L3 Go.V.L6
attribute [local irreducible] V N X VO Par StepOK Has Ret RetL RetO RetT Src
end Go.V.L8
set_option maxRecDepth 20000
namespace Go.V.L8
open Go.Proofs Go.RowKit Go.V Go.V.L2 Go.V.L3 Go.V.L6
theorem _root_.Go.V.Zem {A B:Prop} (h:B) (t:Wr B → A:=by intro h; refine Zaw ?_;refine Za ?_;exact h.h):A:=t ⟨h⟩
theorem _root_.Go.V.Zdq {A B:Prop} (h:B) (t:Wr B → A:=by intro h; refine Zf ?_;refine Zf ?_;exact h.h):A:=t ⟨h⟩
theorem _root_.Go.V.Zdr {A B:Prop} (h:B) (t:Wr B → A:=by intro h; refine Zj ?_;refine ZD ?_;exact h.h):A:=t ⟨h⟩
def RWriteP (t:List U) (made:List CH) (e:Int) (r:Value) (H:Heap):Prop:=∃ tv mv, r = .tuple #[tv, mv, .int .i64 e] ∧ US t false tv H ∧ KS tyC made false mv H
theorem RWriteP.mono {t:List U} {made:List CH} {e:Int}:Kn.mono (.sat (RWriteP t made e)):=fun _ _ _ ⟨tv, mv, h1, h2, h3⟩ hle => ⟨tv, mv, h1, h2.le hle, h3.le hle⟩
attribute [local irreducible] V N X VO Par StepOK Has Ret RetL RetO RetT Src
set_option maxHeartbeats 4000000 in
set_option maxRecDepth 10000 in
theorem zpu {s t:List U} {l cs made:List CH} {fs fl fc:Bool} {e:Int} (zl:∀ c ∈ l, TM c.1) (zc:∀ c ∈ cs, TM c.1) (ll:l.length ≤ 9223372036854775807) (lc:cs.length ≤ 9223372036854775807) (hsl:s.length ≤ 4096) (hss:Sst zbh s) (hsz:∀ t ∈ s, TZ t) (hr:zeo s l cs = (t, made, e)) {sv lv cv:Value} {w:World} {B:Heap} (hB:B.Le (hp w))
  (hs:US s fs sv B) (hl:KS tyM l fl lv B) (hc:KS tyC cs fc cv B):Ret Tryz.prog 84 [sv, lv, cv] w B (RWriteP t made e):=by
 refine yf Tryz.func84 rfl Tryz.ntmps84 (Nat.le_of_ble_eq_true rfl) hB ?_
 refine zat 0 (US s false) rfl SlV.mono hs.nofu ?_
 refine zat 1 (KS tyM l fl) rfl SlV.mono hl ?_
 refine zat 2 (KS tyC cs fc) rfl SlV.mono hc ?_
 unfold zeo at hr
 by_cases h1:cE 32 l = 0
 ·rw [if_pos h1] at hr
  by_cases h2:cE 32 cs = 0
  ·rw [if_pos h2] at hr
   obtain ⟨r, e1, hf⟩:∃ r e1, ze8 s l = (r, e1):=⟨_, _, rfl⟩
   rw [hf] at hr
   dsimp only at hr
   by_cases h3:e1 = 0
   ·subst h3
    rw [if_pos rfl] at hr
    obtain ⟨l32, hval⟩:=z0w h2
    refine ZaX ?_;refine ZF ?_;refine ZS ?_;refine Zf ?_;refine z7 (zp L rfl rfl (zk rfl) rfl rfl rfl (fun u H hH _ _ v1 g1 => zfe zl ll h1 hH g1)) rfl ?_;refine Zj ?_;refine ZG ?_;refine Zbf ?_;refine Zeg ?_;refine z7 (zp L rfl rfl (zk rfl) rfl rfl rfl (fun u H hH _ _ v1 g1 => zmu zc lc h2 hH g1)) rfl ?_;refine Zj ?_;refine Zu ?_;refine Zbf ?_;refine Zo ?_;refine Zdq ?_;refine z7 (zp L rfl rfl (zk rfl) rfl rfl rfl (fun u H hH _ _ v1 g1 v2 g2 => zkc (by omega) zl ll hf hH g1 g2)) rfl ?_;refine Zaz ?_;refine Zdr ?_;refine Zas ?_;refine Z8 ?_;refine Zj ?_;refine ZM ?_;refine ZE ?_
    refine zd4 10 tyC 7 rfl ?_
    refine zal (fun y:Nat × List U × List CH => [(0, .sat (US y.2.1 false)), (2, .sat (KS tyC cs fc)), (10, .own (SlR tyC 7 y.2.2.length (y.2.2.flatMap ccs))), (11, .is (.int .i64 y.1))])
     (fun y => y.1 ≤ cs.length ∧ zft y.2.1 y.2.2 (cs.drop y.1) = (t, made, e) ∧ y.2.1.length ≤ 4096 ∧ y.2.2.length ≤ y.1 ∧ Sst zbh y.2.1 ∧ ∀ t ∈ y.2.1, TZ t) (fun y => cs.length - y.1) (0, s, []) ⟨Nat.zero_le _, hr, hsl, Nat.le_refl _, hss, hsz⟩ ⟨rfl, rfl, rfl, rfl, trivial⟩ ?_
    clear hr hs hsl hss hsz
    rintro ⟨k, s, md⟩ ⟨hk, he, hsl, hmd, hss, hsz⟩
    dsimp only at hk he hsl hmd hss hsz ⊢
    by_cases hlt:k < cs.length
    ·obtain ⟨c, hc0⟩:=zae hlt
     have hc:=zi2 hc0
     have hv:=hval c (List.mem_of_getElem? hc0)
     have hzt:=zqu hv
     rw [zfr hc0, zft] at he
     obtain ⟨x, d⟩:=c
     dsimp only at hc hv hzt he
     have hdf:=zsf (l:=s) x d
     have hss':=znu hss x d
     have hsl':=znv hsl x d
     have hsz':∀ z ∈ (zcz s x d).1, TZ z:=fun z hz => by
      rcases zjp hz with h | h
      ·exact hsz z h
      ·exact h ▸ hzt
     rcases hw:zcz s x d with ⟨s', e'⟩
     rw [hw] at he hdf hss' hsl' hsz'
     dsimp only at he hdf hss' hsl' hsz'
     have hmo:Kn.mono (.sat (US s' false)):=SlV.mono
     by_cases h0:e' = 0
     ·subst h0
      rw [if_pos rfl] at he
      have hdf:=hdf rfl
      by_cases hsame:s' = s
      ·rw [if_neg (hdf.1 hsame)] at he
       refine Zc ?_;refine ZcF ?_;refine ZaU ?_;refine ZQ ?_;refine Zf ?_;refine Zbe ?_;refine ZbL ?_;refine z7 (yw (φ:=R6 s' 0) L rfl rfl (zk rfl) rfl rfl rfl (LE2.mono SlV.mono) (fun u H hH _ _ v1 g1 => zj7 hw hss (by omega) hzt hsz hH g1)) rfl ?_;refine Zdm ?_;refine Zj ?_;refine Zcs ?_;refine Zay ?_;refine Za9 ?_;refine Zdq ?_;refine z7 (zp L rfl rfl (zk rfl) rfl rfl rfl (fun u H hH _ _ v1 g1 v2 g2 => zh2 (e:=1) (by omega) (by omega) (by rw [if_pos hsame]) hH g1 g2)) rfl ?_;refine ZH ?_;refine Zeu ?_;refine Zec ?_;refine Zb6 ?_;refine Zaq ?_;refine Zb5 ?_;refine ZaE ?_
       exact yi (x:=(k, s, md)) (k + 1, s', md) ⟨hlt, he, hsl', by dsimp only; omega, hss', hsz'⟩ (by dsimp only; omega) ⟨rfl, rfl, rfl, rfl, trivial⟩
      ·have hdd:decide (x ∈ s) = d:=by
        by_cases h:decide (x ∈ s) = d
        ·exact h
        ·exact absurd (hdf.2 h) hsame
       rw [if_pos hdd] at he
       refine Zc ?_;refine ZcF ?_;refine ZaU ?_;refine ZQ ?_;refine Zf ?_;refine Zbe ?_;refine ZbL ?_;refine z7 (yw (φ:=R6 s' 0) L rfl rfl (zk rfl) rfl rfl rfl (LE2.mono SlV.mono) (fun u H hH _ _ v1 g1 => zj7 hw hss (by omega) hzt hsz hH g1)) rfl ?_;refine Zdm ?_;refine Zj ?_;refine Zcs ?_;refine Zay ?_;refine Za9 ?_;refine Zdq ?_;refine z7 (zp L rfl rfl (zk rfl) rfl rfl rfl (fun u H hH _ _ v1 g1 v2 g2 => zh2 (e:=0) (by omega) (by omega) (by rw [if_neg hsame]) hH g1 g2)) rfl ?_;refine Zbf ?_;refine Zap ?_;refine qp (yq (.inl rfl) rfl rfl rfl rfl) ?_;refine Zbe ?_;refine ZbL ?_;refine Zaa ?_;refine Zfu ?_;refine qp (yq (.inr rfl) rfl rfl rfl rfl) ?_;refine Z6 ?_;refine Zec ?_;refine Zb6 ?_;refine Zaq ?_;refine Zb5 ?_;refine ZaE ?_
       exact yi (x:=(k, s, md)) (k + 1, s', md ++ [(x, d)]) ⟨hlt, he, hsl', by dsimp only; rw [List.length_append]; show md.length + 1 ≤ k + 1; omega, hss', hsz'⟩ (by dsimp only; omega) ⟨rfl, rfl, zg5 rfl, rfl, trivial⟩
     ·rw [if_neg h0] at he
      cases he
      refine Zc ?_;refine ZcF ?_;refine ZaU ?_;refine ZQ ?_;refine Zf ?_;refine Zbe ?_;refine ZbL ?_;refine z7 (yw (φ:=R6 s' e) L rfl rfl (zk rfl) rfl rfl rfl (LE2.mono SlV.mono) (fun u H hH _ _ v1 g1 => zj7 hw hss (by omega) hzt hsz hH g1)) rfl ?_;refine Zdm ?_;refine Zj ?_;refine Zcs ?_;refine ZP ?_;refine Zem ?_;refine ZF ?_;refine Zk ?_
      refine ye L (rs:=[.tmp 6, .tmp 7, .tmp 8]) rfl (fun _ _ h => h) Since.refl fun u H hH hle => ?_
      exact ⟨_, _, rfl, SlV.nil, SlV.nil⟩
    ·obtain rfl:k = cs.length:=by omega
     rw [List.drop_length, zft] at he
     cases he
     refine Zc ?_;refine Zag ?_;refine ZaN ?_;refine Zey ?_
     refine zci 10 rfl ?_
     refine ZdG ?_;refine Zdq ?_;refine Zb6 ?_;refine Zb6 ?_;refine Zb ?_
     refine ye L (rs:=[.tmp 6, .tmp 7, .tmp 8]) rfl (fun _ _ h => h) Since.refl fun u H hH hle => ?_
     exact fun tv htv mv hmv => ⟨tv, mv, rfl, htv, hmv⟩
   ·rw [if_neg h3] at hr
    cases hr
    refine ZaX ?_;refine ZF ?_;refine ZS ?_;refine Zf ?_;refine z7 (zp L rfl rfl (zk rfl) rfl rfl rfl (fun u H hH _ _ v1 g1 => zfe zl ll h1 hH g1)) rfl ?_;refine Zj ?_;refine ZG ?_;refine Zbf ?_;refine Zeg ?_;refine z7 (zp L rfl rfl (zk rfl) rfl rfl rfl (fun u H hH _ _ v1 g1 => zmu zc lc h2 hH g1)) rfl ?_;refine Zj ?_;refine Zu ?_;refine Zbf ?_;refine Zo ?_;refine Zdq ?_;refine z7 (zp L rfl rfl (zk rfl) rfl rfl rfl (fun u H hH _ _ v1 g1 v2 g2 => zkc (by omega) zl ll hf hH g1 g2)) rfl ?_;refine Zaz ?_;refine Zdr ?_;refine ZP ?_;refine Z5 ?_;refine ZF ?_;refine Zk ?_
    refine ye L (rs:=[.tmp 6, .tmp 7, .tmp 8]) rfl (fun _ _ h => h) Since.refl fun u H hH hle => ?_
    exact ⟨_, _, rfl, SlV.nil, SlV.nil⟩
  ·rw [if_neg h2] at hr
   cases hr
   refine ZaX ?_;refine ZF ?_;refine ZS ?_;refine Zf ?_;refine z7 (zp L rfl rfl (zk rfl) rfl rfl rfl (fun u H hH _ _ v1 g1 => zfe zl ll h1 hH g1)) rfl ?_;refine Zj ?_;refine ZG ?_;refine Zbf ?_;refine Zeg ?_;refine z7 (zp L rfl rfl (zk rfl) rfl rfl rfl (fun u H hH _ _ v1 g1 => zmu zc lc rfl hH g1)) rfl ?_;refine Zj ?_;refine Zu ?_;refine Zbs ?_;refine ZD ?_;refine ZP ?_;refine Z5 ?_;refine ZF ?_;refine Zk ?_
   refine ye L (rs:=[.tmp 6, .tmp 7, .tmp 8]) rfl (fun _ _ h => h) Since.refl fun u H hH hle => ?_
   exact ⟨_, _, rfl, SlV.nil, SlV.nil⟩
 ·rw [if_neg h1] at hr
  cases hr
  refine ZaX ?_;refine ZF ?_;refine ZS ?_;refine Zf ?_;refine z7 (zp L rfl rfl (zk rfl) rfl rfl rfl (fun u H hH _ _ v1 g1 => zfe zl ll rfl hH g1)) rfl ?_;refine Zj ?_;refine ZG ?_;refine Zbs ?_;refine Zu ?_;refine Zbs ?_;refine ZD ?_;refine ZP ?_;refine Z5 ?_;refine ZF ?_;refine Zk ?_
  refine ye L (rs:=[.tmp 6, .tmp 7, .tmp 8]) rfl (fun _ _ h => h) Since.refl fun u H hH hle => ?_
  exact ⟨_, _, rfl, SlV.nil, SlV.nil⟩
end Go.V.L8
set_option maxRecDepth 20000
namespace Go.V.L8
open Go.Proofs Go.RowKit Go.V Go.V.L2 Go.V.L3 Go.V.L6
attribute [local irreducible] V N X VO Par StepOK Has Ret RetL RetO RetT Src
end Go.V.L8
set_option maxRecDepth 20000
namespace Go.V.L8
open Go.Proofs Go.RowKit Go.V Go.V.L2 Go.V.L3 Go.V.L6
theorem _root_.Go.V.Zbi {A B:Prop} (h:B) (t:Wr B → A:=by intro h; refine Zd ?_;refine Z4 ?_;exact h.h):A:=t ⟨h⟩
def fC (c:C3):CH:=(zvb c.1 c.2.1, drB c.2.2)
def dOf (cs:List C3):List CH:=(cs.take 30).map fC
theorem zih (cs:List C3):(dOf cs).length ≤ 30:=by unfold dOf; rw [List.length_map, List.length_take]; omega
attribute [local irreducible] V N X VO Par StepOK Has Ret RetL RetO RetT Src
set_option maxHeartbeats 1000000 in
theorem zqf {cs:List C3} {fc:Bool} {M:List CH} (hM:dOf cs = M) (hcs:∀ c ∈ cs, c.1 ≤ 255 ∧ c.2.1 ≤ 255 ∧ c.2.2 ≤ 255) (lcs:cs.length ≤ 9223372036854775807)
  {cx:Value} {w:World} {B:Heap} (hB:B.Le (hp w)) (hc:PS3 cs fc cx B):Ret Tryz.prog 38 [.agg #[cx]] w B (KS tyC M false):=by
 refine yf Tryz.func38 rfl Tryz.ntmps38 (Nat.le_of_ble_eq_true rfl) hB ?_
 refine Zb0 ?_;refine Zj ?_;refine ZdB ?_
 refine zd4 3 tyC 7 rfl ?_
 refine zal (fun y:Nat × List CH => [(1, .sat (At [cx] 66 0)), (3, .own (SlR tyC 7 y.2.length (y.2.flatMap ccs))), (4, .is (.int .i64 y.1))])
  (fun y => y.1 ≤ (cs.take 30).length ∧ y.2 = (cs.take y.1).map fC) (fun y => (cs.take 30).length - y.1) (0, []) ⟨Nat.zero_le _, rfl⟩ ⟨rfl, rfl, rfl, trivial⟩ ?_
 rintro ⟨i, out⟩ ⟨hi, ho⟩
 dsimp only at hi ho ⊢
 have h30:(cs.take 30).length = min 30 cs.length:=List.length_take
 have hol:out.length = i:=by rw [ho, List.length_map, List.length_take]; omega
 have hfin:i = (cs.take 30).length → out = M:=fun e => by
  rw [← hM, ho, e, h30]
  unfold dOf
  congr 1
  exact (List.take_eq_take_min (l:=cs) (i:=30)).symm
 by_cases h1:i < cs.length
 ·by_cases h2:i < 30
  ·obtain ⟨⟨a, b, c⟩, hn⟩:=zae h1
   have hcc:=z3y hn
   obtain ⟨ka, kb, kc⟩:=hcs _ (List.mem_of_getElem? hn)
   dsimp only at ka kb kc
   have hnx:out ++ [(zvb a b, drB c)] = (cs.take (i + 1)).map fC:=by rw [List.take_add_one, hn, List.map_append, ho]; rfl
   generalize hxx:zvb a b = x at hnx
   generalize hdd:drB c = d at hnx
   refine ZaJ ?_;refine Zv ?_;refine zfw 7 (PS3 cs fc) rfl SlV.mono hc ?_;refine ZcX ?_;refine Zcp ?_;refine ZT ?_;refine Zar ?_;refine ZbT ?_;refine Zo ?_;refine qp (yq (.inl rfl) rfl rfl rfl rfl) ?_;refine Zv ?_;refine zfw 18 (PS3 cs fc) rfl SlV.mono hc ?_;refine Zb7 ?_;refine z7 (yh L (vs:=[_, _, _]) rfl rfl rfl rfl rfl ⟨_, rfl⟩) rfl ?_;refine z7 (zp L rfl rfl (zk rfl) rfl rfl rfl (fun u H hH _ _ => zzk hxx hdd ka kb kc hH)) rfl ?_;refine Zaa ?_;refine Zfu ?_;refine qp (yq (.inr rfl) rfl rfl rfl rfl) ?_;refine Zaq ?_;refine ZdC ?_
   exact yi (x:=(i, out)) (i + 1, out ++ [(x, d)]) ⟨by dsimp only; omega, hnx⟩ (by dsimp only; omega) ⟨rfl, zg5 rfl, rfl, trivial⟩
  ·obtain he:=hfin (by omega)
   subst he
   refine ZaJ ?_;refine Zv ?_;refine zfw 7 (PS3 cs fc) rfl SlV.mono hc ?_;refine ZcX ?_;refine ZT ?_;refine Zbi ?_;refine Zg ?_;refine ZdF ?_
   refine zci 3 rfl ?_
   refine Zz ?_;refine Zf ?_;refine ZaZ ?_
   refine ye L (rs:=[.tmp 2]) rfl (fun _ _ h => h) Since.refl fun u H hH hle => ?_
   exact fun v hv => hv
 ·obtain he:=hfin (by omega)
  subst he
  refine ZaJ ?_;refine Zv ?_;refine zfw 7 (PS3 cs fc) rfl SlV.mono hc ?_;refine ZcX ?_;refine Z4 ?_;refine ZdE ?_;refine ZdF ?_
  refine zci 3 rfl ?_
  refine Zz ?_;refine Zf ?_;refine ZaZ ?_
  refine ye L (rs:=[.tmp 2]) rfl (fun _ _ h => h) Since.refl fun u H hH hle => ?_
  exact fun v hv => hv
end Go.V.L8
set_option maxRecDepth 20000
namespace Go.V.L8
open Go.Proofs Go.RowKit Go.V Go.V.L2 Go.V.L3 Go.V.L6
theorem znr:∀ {cs:List CH} {s:List U} {md:List CH}, SOK s → (∀ c ∈ cs, TZ c.1 ∧ tE c.1 = 0) → s.length + cs.length < 4096 → ∃ t made, zft s md cs = (t, made, 0) ∧ SOK t ∧ t.length ≤ s.length + cs.length
 | [], s, md, h, _, _ => ⟨s, md, rfl, h, Nat.le_refl _⟩
 | c :: r, s, md, h, hc, hl => by
  simp only [List.length_cons] at hl
  obtain ⟨hz, h0⟩:=hc c (List.mem_cons_self ..)
  obtain ⟨h1, h2, h3⟩:=zxn h hz h0 c.2 (by omega)
  obtain ⟨t, made, e, ht, hlt⟩:=znr (cs:=r) (s:=(zcz s c.1 c.2).1) (md:=if decide (c.1 ∈ s) = c.2 then md ++ [c] else md) h1 (fun x hx => hc x (List.mem_cons_of_mem _ hx)) (by omega)
  refine ⟨t, made, by rw [zft, if_pos h2, e], ht, ?_⟩
  simp only [List.length_cons]; omega
theorem writeR_ok {s:List U} {l cs:List CH} (h1:cE 32 l = 0) (h2:cE 32 cs = 0) (h3:(ze8 s l).2 = 0):zeo s l cs = zft s [] cs:=by
 unfold zeo; rw [if_pos h1, if_pos h2, if_pos h3]
end Go.V.L8
set_option maxRecDepth 20000
namespace Go.V.L8
open Go.Proofs Go.RowKit Go.V Go.V.L2 Go.V.L3 Go.V.L6
theorem _root_.Go.V.ZgB {A B:Prop} (h:B) (t:Wr B → A:=by intro h; refine z8 (yy L rfl rfl rfl rfl rfl) rfl ?_;exact h.h):A:=t ⟨h⟩
theorem _root_.Go.V.ZfA {A B:Prop} (h:B) (t:Wr B → A:=by intro h; refine z7 (zw L (vs:=[_]) (qo rfl) rfl rfl rfl rfl ⟨_, rfl⟩) rfl ?_;exact h.h):A:=t ⟨h⟩
theorem _root_.Go.V.Zba {A B:Prop} (h:B) (t:Wr B → A:=by intro h; refine qt ?_;refine ZbR ?_;exact h.h):A:=t ⟨h⟩
theorem _root_.Go.V.Zds {A B:Prop} (h:B) (t:Wr B → A:=by intro h; refine Zb6 ?_;refine ZU ?_;exact h.h):A:=t ⟨h⟩
attribute [local irreducible] V N X VO Par StepOK Has Ret RetL RetO RetT Src
set_option maxHeartbeats 2000000 in
theorem zvz {cs:List C3} {fc:Bool} {M:List CH} (hM:dOf cs = M) (hcs:∀ c ∈ cs, c.1 ≤ 255 ∧ c.2.1 ≤ 255 ∧ c.2.2 ≤ 255) (lcs:cs.length ≤ 9223372036854775807)
  {cx:Value} {w:World} {B:Heap} (hB:B.Le (hp w)) (hc:PS3 cs fc cx B):Ret Tryz.prog 37 [.agg #[cx]] w B (KS tyM M false):=by
 have lM:M.length ≤ 30:=hM ▸ zih cs
 refine yf Tryz.func37 rfl Tryz.ntmps37 (Nat.le_of_ble_eq_true rfl) hB ?_
 refine Zb0 ?_;refine Ze ?_;refine Zy ?_;refine ZcY ?_;refine ZfA ?_;refine z7 (yw (φ:=KS tyC M false) L rfl rfl (zk rfl) rfl rfl rfl SlV.mono (fun u H hH hle _ => zqf hM hcs lcs hH (hc.le hle))) rfl ?_;refine Zds ?_;refine Zt ?_;refine ZE ?_
 refine zd4 3 tyM 7 rfl ?_
 refine zal (fun y:Nat × List CH => [(3, .own (SlR tyM 7 y.2.length (y.2.flatMap ccs))), (4, .sat (KS tyC M false)), (5, .is (.int .i64 y.1))])
  (fun y => y.1 ≤ M.length ∧ y.2 = M.take y.1) (fun y => M.length - y.1) (0, []) ⟨Nat.zero_le _, rfl⟩ ⟨rfl, rfl, rfl, trivial⟩ ?_
 rintro ⟨i, out⟩ ⟨hi, ho⟩
 dsimp only at hi ho ⊢
 have hol:out.length = i:=by rw [ho, List.length_take]; omega
 by_cases hlt:i < M.length
 ·obtain ⟨c, hc0⟩:=zae hlt
  have hcc:=zi2 hc0
  have hnx:out ++ [c] = M.take (i + 1):=by rw [List.take_add_one, hc0, ho]; rfl
  refine ZbX ?_;refine ZdX ?_;refine ZbT ?_;refine qg (id:=6) [(15, [3]), (28, [15]), (3, [28])] mixed (by kernel_rfl) ?_;refine za2 (yq (.inl rfl) rfl rfl rfl rfl) rfl rfl ?_;refine Zf2 ?_;refine z8 (zh9 L rfl rfl rfl rfl) rfl ?_;refine Zf0 ?_;refine Zf2 ?_;refine z8 (zh9 L rfl rfl rfl rfl) rfl ?_;refine ZgB ?_;refine z8 (yx (cs:=[_, _, _, _, _, _, _]) rfl rfl z34 rfl rfl) rfl ?_;refine Zfm ?_;refine za2 (zb9 L rfl rfl rfl (zhq rfl) rfl z6y rfl rfl (by omega) (by omega)) rfl rfl ?_;refine za2 (yq (.inr rfl) rfl rfl rfl rfl) rfl rfl ?_;refine Zba ?_;refine ZcI ?_
  exact yi (x:=(i, out)) (i + 1, out ++ [c]) ⟨hlt, hnx⟩ (by dsimp only; omega) ⟨zg5 rfl, rfl, rfl, trivial⟩
 ·have he:out = M:=by rw [ho]; exact List.take_of_length_le (by omega)
  subst he
  refine ZbX ?_;refine ZbH ?_
  refine zci 3 rfl ?_
  refine Zp ?_;refine Zf ?_;refine ZaZ ?_
  refine ye L (rs:=[.tmp 2]) rfl (fun _ _ h => h) Since.refl fun u H hH hle => ?_
  exact fun v hv => hv
end Go.V.L8
set_option maxRecDepth 20000
namespace Go.V.L10
open Go.Proofs Go.RowKit Go.V Go.V.L2 Go.V.L8 Go.V.L6
structure OO where
 wh:Nat
 ms:List C3
 cs:List C3
 rv:Nat
 kp:Int
def OO.rev (o:OO):Int:=if o.rv = 255 then 18446744073709551615 else (o.rv:Int)
def doS (S:Sto) (o:OO):Sto :=
 if o.wh % 8 < 4 then (ze0 S (dOf o.ms) (dOf o.cs)).1 else if o.wh % 8 < 6 then (zol S o.rev false).1 else if o.wh % 8 = 6 then (zol S o.rev true).1 else (zdq S o.kp).1
structure JJ (n:Nat) (S:Sto):Prop where
 last:(kpt S.R S.R.length).isSome = true
 pin:∀ r ∈ S.P, (kpt S.R r).isSome = true
 so:∀ r t, kpt S.R r = some t → SOK t ∧ t.length ≤ 30 * S.R.length
 hR:S.R.length ≤ n + 1
 hP:S.P.length ≤ n
theorem JJ.ne {n:Nat} {S:Sto} (h:JJ n S):S.R.length ≠ 0:=by have:=zdz h.last; omega
theorem JJ.I {n:Nat} {S:Sto} (h:JJ n S) (hn:n ≤ 100):z5l S:=⟨h.last, Nat.le_trans (zco _) (by have:=h.hR; omega), h.pin, fun r t ht => by have:=(h.so r t ht).2; have:=h.hR; omega⟩
theorem JJ.mono {n m:Nat} {S:Sto} (h:JJ n S) (hm:n ≤ m):JJ m S:=⟨h.last, h.pin, h.so, Nat.le_trans h.hR (by omega), Nat.le_trans h.hP hm⟩
theorem JJ.ss {n:Nat} {S:Sto} (h:JJ n S):∀ r t, kpt S.R r = some t → Sst zbh t ∧ ∀ x ∈ t, TZ x:=fun r t ht => ⟨(h.so r t ht).1.sst, (h.so r t ht).1.tz⟩
theorem JJ.pos {n:Nat} {S:Sto} (h:JJ n S):∀ x ∈ S.P, 0 < x:=fun x hx => (zdz (h.pin x hx)).1
theorem zrq:JJ 0 newS:=⟨rfl, fun _ h => (by cases h), fun r t h => by
 have hr:=zdz (R:=newS.R) (r:=r) (by rw [h]; rfl)
 have h1:newS.R.length = 1:=rfl
 have:r = ((0 + 1:Nat):Int):=by omega
 subst this
 have h2:kpt newS.R ((0 + 1:Nat):Int) = some []:=by rw [zek]; rfl
 rw [h2] at h
 cases h
 exact ⟨⟨Sst.nil, fun _ h => (by cases h), fun _ h => (by cases h)⟩, Nat.zero_le _⟩, Nat.le_refl _, Nat.le_refl _⟩
theorem z0q (cs:List C3):∀ c ∈ dOf cs, TZ c.1 ∧ tE c.1 = 0:=fun c hc => by
 unfold dOf at hc
 obtain ⟨x, _, rfl⟩:=List.mem_map.1 hc
 exact ⟨zva _ _, z13 _ _⟩
theorem z1c {t:U} (h:TZ t):TM t:=by
 unfold TZ at h; unfold TM; omega
theorem zr0 (cs:List C3):∀ c ∈ dOf cs, TM c.1:=fun c hc => z1c (z0q cs c hc).1
theorem writeR_ok {s:List U} {l cs:List CH} {t:List U} {made:List CH} (h:zeo s l cs = (t, made, 0)) (hs:SOK s) (hc:∀ c ∈ cs, TZ c.1 ∧ tE c.1 = 0) (hl:s.length + cs.length < 4096):SOK t ∧ t.length ≤ s.length + cs.length:=by
 obtain ⟨t2, m2, h2, h3, h4⟩:=znr (md:=[]) hs hc hl
 unfold zeo at h
 split at h
 ·split at h
  ·split at h
   ·rw [h2] at h; cases h; exact ⟨h3, h4⟩
   ·rename_i h1; exact absurd (congrArg (·.2.2) h) h1
  ·rename_i h1; exact absurd (congrArg (·.2.2) h) h1
 ·rename_i h1; exact absurd (congrArg (·.2.2) h) h1
theorem zzp {S:Sto} {t:List U} (h:kpt S.R S.R.length = some t):atS S 0 = (t, 0):=by unfold atS; rw [if_pos rfl, h]
theorem zrp {n:Nat} {S:Sto} (h:JJ n S) (hn:n ≤ 100) {l cs:List CH} (hc:∀ c ∈ cs, TZ c.1 ∧ tE c.1 = 0) (hcl:cs.length ≤ 30):JJ (n + 1) (ze0 S l cs).1:=by
 obtain ⟨t0, ht0⟩:∃ t0, kpt S.R S.R.length = some t0:=Option.isSome_iff_exists.1 h.last
 obtain ⟨⟨t1, made, e1⟩, hwr⟩:∃ x, zeo t0 l cs = x:=⟨_, rfl⟩
 unfold ze0
 rw [zzp ht0, hwr]
 dsimp only
 by_cases he:e1 = 0
 ·subst he
  rw [if_pos rfl]
  split
  ·exact h.mono (Nat.le_succ _)
  ·have h0:=h.so _ _ ht0
   have hR:=h.hR
   have h1:=writeR_ok hwr h0.1 hc (by omega)
   have hln:(S.R ++ [some t1]).length = S.R.length + 1:=by rw [List.length_append]; rfl
   refine ⟨?_, fun r hr => ?_, fun r t ht => ?_, ?_, Nat.le_succ_of_le h.hP⟩
   ·dsimp only; rw [hln, zje, if_pos rfl]; rfl
   ·dsimp only; rw [zje]
    split
    ·rfl
    ·exact h.pin r hr
   ·dsimp only at ht ⊢
    rw [zje] at ht
    rw [hln]
    split at ht
    ·cases ht; exact ⟨h1.1, by omega⟩
    ·have h2:=h.so r t ht; exact ⟨h2.1, by omega⟩
   ·dsimp only; omega
 ·rw [if_neg he]; exact h.mono (Nat.le_succ _)
theorem zwj {n:Nat} {S:Sto} (h:JJ n S) (r:Int) (un:Bool):JJ (n + 1) (zol S r un).1:=by
 unfold zol
 by_cases hk:(kpt S.R r).isSome = true
 ·rw [if_pos hk]
  cases un with
  | true =>
   rw [if_pos rfl]
   split
   ·refine ⟨h.last, fun x hx => h.pin x ?_, h.so, Nat.le_succ_of_le h.hR, ?_⟩
    ·dsimp only at hx
     unfold zfz at hx
     split at hx
     ·cases hx
     ·exact List.mem_of_mem_erase hx
    ·dsimp only
     unfold zfz
     split
     ·exact Nat.zero_le _
     ·exact Nat.le_trans (List.length_erase_le ..) (Nat.le_succ_of_le h.hP)
   ·exact h.mono (Nat.le_succ _)
  | false =>
   rw [if_neg (by decide)]
   refine ⟨h.last, fun x hx => ?_, h.so, Nat.le_succ_of_le h.hR, ?_⟩
   ·rcases List.mem_append.1 hx with hx | hx
    ·exact h.pin x hx
    ·rw [List.mem_singleton.1 hx]; exact hk
   ·have:=h.hP; dsimp only; rw [List.length_append, List.length_singleton]; omega
 ·rw [if_neg hk]; exact h.mono (Nat.le_succ _)
theorem ztc {S:Sto} {k:Nat} (hk:1 ≤ k):((S.R.length:Nat):Int) ∉ zdp S.P (zas S.R) k:=fun hm => by
 unfold zdp at hm
 have h1:=(List.mem_filter.1 hm).1
 obtain ⟨i, hi⟩:=List.getElem?_of_mem h1
 have hil:i < (zas S.R).length - k:=by have:=get_lt hi; rw [List.length_take] at this; omega
 rw [List.getElem?_take_of_lt hil] at hi
 obtain ⟨y, hy⟩:=zae (show i + 1 < (zas S.R).length by omega)
 have h3:=List.pairwise_iff_getElem.1 (zf2 S.R) i (i + 1) (get_lt hi) (get_lt hy) (Nat.lt_succ_self i)
 rw [zdg hi, zdg hy, ztu] at h3
 have:=zdz (zbc.1 (List.mem_of_getElem? hy))
 omega
theorem zo1 {P0:List Int} {R:List (Option (List U))} {k:Nat} {g:Int} (hg:g ∈ zdp P0 (zas R) k):(kpt R g).isSome = true ∧ g ∉ P0:=by
 unfold zdp at hg
 have h1:=List.mem_filter.1 hg
 exact ⟨zbc.1 (List.mem_of_mem_take h1.1), fun hm => by have:=List.count_pos_iff.2 hm; have h2:=h1.2; simp at h2; omega⟩
theorem zwk {n:Nat} {S:Sto} (h:JJ n S) (keep:Int):JJ (n + 1) (zdq S keep).1:=by
 unfold zdq
 split
 ·rename_i hk
  have hp:∀ g ∈ zdp S.P (zas S.R) keep.toNat, 0 < g:=fun g hg => (zdz (zo1 hg).1).1
  refine ⟨?_, fun r hr => ?_, fun r t ht => ?_, ?_, Nat.le_succ_of_le h.hP⟩
  ·dsimp only; rw [zem, zjf hp, if_neg (ztc (by omega))]; exact h.last
  ·dsimp only; rw [zjf hp, if_neg (fun hm => (zo1 hm).2 hr)]; exact h.pin r hr
  ·dsimp only at ht ⊢
   rw [zjf hp] at ht
   rw [zem]
   split at ht
   ·cases ht
   ·exact h.so r t ht
  ·dsimp only; rw [zem]; exact Nat.le_succ_of_le h.hR
 ·exact h.mono (Nat.le_succ _)
theorem z6s {n:Nat} {S:Sto} (h:JJ n S) (hn:n ≤ 100) (o:OO):JJ (n + 1) (doS S o):=by
 unfold doS
 split
 ·exact zrp h hn (z0q _) (zih _)
 ·split
  ·exact zwj h _ _
  ·split
   ·exact zwj h _ _
   ·exact zwk h _
end Go.V.L10
set_option maxRecDepth 20000
namespace Go.V
open Go.RowKit
def z5y {V:Type} (m:Nat) (kd:IntKind) (vc:V → Value) (l left:List (Int × V)) (p:Int × V):Res where
 P x _ u C:=∃ (i:Nat) (es:Array MapEntry) (ck since:Nat) (seen:Array Nat) (e:MapEntry), x = .pointer (some ⟨i, 0, none⟩) ∧ i ≠ m ∧ u.heap[m]? = some (.map es ck) ∧ MiE kd vc l es.toList ∧ Brn es.toList ck ∧ u.heap[i]? = some (.mapIter (some m) since (seen.push e.born) ck) ∧
  (∀ e ∈ es.toList, e.born < since) ∧ since ≤ ck ∧ MiE kd vc left (leftOf es (seen.push e.born)).toList ∧ e ∈ es.toList ∧ e.key = .int kd p.1 ∧ e.val = vc p.2 ∧ ∀ k, C k ↔ k = m ∨ k = i
 st:=fun ⟨i, es, ck, since, seen, e, h1, h2, h3, h4, h5, h6, h7, h8, h9, h10, h11, h12, hC⟩ _ _ _ hk => ⟨i, es, ck, since, seen, e, h1, h2, (hk m ((hC m).2 (.inl rfl))).trans h3, h4, h5, (hk i ((hC i).2 (.inr rfl))).trans h6, h7, h8, h9, h10, h11, h12, hC⟩
theorem z3v {V:Type} {m:Nat} {kd:IntKind} {vc:V → Value} {l left:List (Int × V)} {p:Int × V} {B:Heap}:∀ v H u C, B.Le H → (z5y m kd vc l left p).P v H u C → (zz0 m kd vc l left).P v H u C :=
 fun _ _ _ _ _ ⟨i, es, ck, since, seen, e, h1, h2, h3, h4, h5, h6, h7, h8, h9, _, _, _, hC⟩ => ⟨i, es, ck, since, seen.push e.born, ck, h1, h2, h3, h4, h5, h6, h7, h8, h8, h9, hC⟩
theorem zys {es:Array MapEntry} {seen:Array Nat} {j:Nat} {e:MapEntry} (h:(leftOf es seen)[j]? = some e):e ∈ es.toList:=by
 have h1:e ∈ leftOf es seen:=Array.mem_of_getElem? h
 unfold leftOf at h1
 rw [Array.mem_filter] at h1
 exact Array.mem_toList_iff.2 h1.1
theorem zwq {es:List MapEntry} (hn:(es.map (·.born)).Nodup) {e:MapEntry} (he:e ∈ es):es.find? (fun x => x.born == e.born) = some e:=by
 induction es with
 | nil => cases he
 | cons x es ih =>
  rw [List.map_cons, List.nodup_cons] at hn
  rw [List.find?_cons]
  rcases List.mem_cons.1 he with h | h
  ·subst h; simp
  ·have hne:x.born ≠ e.born:=fun h2 => hn.1 (h2 ▸ List.mem_map_of_mem (f:=(·.born)) h)
   have:(x.born == e.born) = false:=by simpa using hne
   rw [this]
   exact ih hn.2 h
section
variable {P:Program} {F:Fr} {B:Heap} {O:Boxes} {n:Nat} {ops:Array Oper} {κ:Kap} {d:Nat} {ty:TypeId} {pos:String} {aft:Array Edge} {g:Option (Nat × Bool)} {a:Act} {u:World} {H:Heap} {os:List Oper} {Q:Exit → Act → World → Prop}
variable {Y:Type} {kd:IntKind} {vc:Y → Value} {l left:List (Int × Y)}
theorem zxo {q m d:Nat} {o:Oper} (ho:o = ⟨some d, .next (.tmp q) false, ty, pos, aft, g⟩) (hq:κ q = some (.own (zz0 m kd vc l left))) (hl:left ≠ []) (hn:Nat.blt d n = true) (hdq:Nat.beq q d = false) (hg:gK ops κ o = some true)
  (h:∀ (j:Nat) (p:Int × Y), left[j]? = some p → VO P F B n O ops (upd (upd κ q (.own (z5y m kd vc l (left.eraseIdx j) p))) d (.is (.tuple #[.bool true, .int kd p.1, vc p.2]))) os Q):VO P F B n O ops κ (o :: os) Q:=fun a u hh => by
 subst ho
 obtain ⟨H, fp, hh⟩:=hh
 obtain ⟨⟨i, es, ck, since, seen, last, h1, h2, h3, h4, h5, h6, h7, h8, h9, h10, hC⟩, hM⟩:=hh.slot q _ hq
 show After P ops _ _ a u
 unfold After
 rw [if_pos (zag hh (fun _ _ => rfl) hg)]
 rcases zob (P:=P) (ty:=ty) h3 h6 h7 h8 with ⟨hz, _⟩ | ⟨j, e, he, u1, hu1, hr⟩
 ·exfalso
  have:=congrArg List.length h10
  simp [hz] at this
  exact hl (List.eq_nil_of_length_eq_zero this.symm)
 ·have hrun:(execOp a.eval ⟨some d, .next (.tmp q) false, ty, pos, aft, g⟩).run P u = .ok (.value (.tuple #[.bool true, e.key, e.val])) (u1.putObj i (.mapIter (some m) since (seen.push e.born) ck)):=by
   simp only [execOp, h1, Sem.run_bind, hr, Result.andThen_ok]
   rfl
  rw [hrun]
  simp only [Upon]
  obtain ⟨p, hp, hk1, hv1⟩:=z4i h10 (by rw [Array.getElem?_toList]; exact he)
  rw [hk1, hv1]
  have him:=hM i ((hC i).2 (.inr rfl))
  have hsub:H.Le (Go.V.hp u1):=by rcases hu1 with rfl | rfl <;> exact hh.sub
  have hgr:Grow (fp q) u H (u1.putObj i (.mapIter (some m) since (seen.push e.born) ck)) H:=by
   have g1:=zkw (u:=u1) (L:=fp q) (o:=.mapIter (some m) since (seen.push e.born) ck) hsub ((hC i).2 (.inr rfl)) him.2.1
   rcases hu1 with rfl | rfl
   ·exact g1
   ·exact ⟨⟨g1.keep.os, g1.keep.tape, g1.keep.output, g1.keep.size, g1.keep.block, Nat.le_trans (Nat.le_succ _) g1.keep.dr⟩, g1.sub, g1.le, g1.fresh⟩
  have hmm:u1.heap[m]? = some (.map es ck):=by rcases hu1 with rfl | rfl <;> exact h3
  have hsz:i < u1.heap.size:=by rcases hu1 with rfl | rfl <;> exact him.1
  have h5':=hh.usePut (d:=q) (a':=a) (r':=z5y m kd vc l (left.eraseIdx j) p) (C:=fun k => k = m ∨ k = i) hq hgr rfl rfl (fun _ _ => rfl)
   ⟨i, es, ck, since, seen, e, h1, h2, by rw [World.putObj_heap_other (Ne.symm h2)]; exact hmm, h4, h5, World.putObj_heap_same hsz, h7, h9, by rw [zta h5 he]; exact zot h10 j, zys he, hk1, hv1, fun _ => Iff.rfl⟩
   (fun k hk => by
    have hkC:fp q k:=(hC k).2 hk
    refine ⟨.inl hkC, ?_, (hM k hkC).2.1⟩
    rw [World.putObj_size]
    rcases hu1 with rfl | rfl <;> exact (hM k hkC).1)
  rw [zbf] at h5'
  exact h j p hp _ _ ⟨H, _, h5'.put (k:=.is _) (zk hn) trivial rfl⟩
theorem zvq {q m:Nat} {p:Int × Y} (hq:κ q = some (.own (z5y m kd vc l left p))) (hn:Nat.blt d n = true) (hg:gK ops κ ⟨some d, .entry (.tmp q), ty, pos, aft, g⟩ = some true) :
  StepOK P F B n ops O κ ⟨some d, .entry (.tmp q), ty, pos, aft, g⟩ d (.is (.tuple #[.int kd p.1, vc p.2])) :=
 zaw rfl (zk hn) hg trivial fun a u H fp e => by
  obtain ⟨⟨i, es, ck, since, seen, x, h1, h2, h3, h4, h5, h6, h7, h8, h9, h10, h11, h12, hC⟩, hM⟩:=e.own_ q _ (by simp [Op.operands]) hq
  refine ⟨_, ?_, rfl⟩
  have hf:=zwq h5.nd h10
  have hf2:es.find? (fun y => y.born == x.born) = some x:=by rw [← Array.find?_toList]; exact hf
  simp only [execOp, h1, Instr.entry, getObj, Sem.run_bind, Sem.run, h6, Result.andThen, Array.back?_push, h3, bne_self_eq_false, Bool.false_eq_true, if_false, hf2, h11, h12]
  rfl
theorem zsy {x y z:Operand} {q b:Nat} {t kt et:TypeId} (k:Int) (v:Y) {zv:Value} {l':List (Int × Y)} (ht:P.underlying t = some (.map kt et)) (hkt:P.underlying kt = some (.int kd))
  (hx:evK κ x = some (.map (some b))) (hq:κ q = some (.own (zla b kd vc l))) (hy:evK κ y = some (.int kd k)) (hz:evK κ z = some zv) (hzv:vc v = zv) (hg:gK ops κ ⟨none, .insert t x y z, ty, pos, aft, g⟩ = some true)
  (hl':zp7 k v l = l') :
  zgg P F B n ops O κ ⟨none, .insert t x y z, ty, pos, aft, g⟩ q (.own (zla b kd vc l')):=by
 rintro κ' a u hlk hqk ⟨H, fp, hh⟩
 subst hl' hzv
 unfold After
 rw [if_pos (zag hh hlk hg)]
 have e:=hh.env hlk
 have h1:=e.is_ x _ (by simp [Op.operands]) hx
 have h2:=e.is_ y _ (by simp [Op.operands]) hy
 have h3:=e.is_ z _ (by simp [Op.operands]) hz
 have hqs:=hqk.trans hq
 obtain ⟨⟨⟨es, ck, hb, he, hbn⟩, hC⟩, hM⟩:=hh.slot q _ hqs
 obtain ⟨es', ck', hr, he', hb'⟩:=zgs ht hkt hb he hbn k v
 have hrun:(execOp a.eval ⟨none, .insert t x y z, ty, pos, aft, g⟩).run P u = .ok .skip (u.putObj b (.map es' ck')):=by
  simp only [execOp, h1, h2, h3, Sem.run_bind, hr, Result.andThen_ok]
  rfl
 rw [hrun]
 simp only [Upon, Act.put]
 exact ⟨H, _, hh.turnMap hqs he' hb'⟩
end
end Go.V
set_option maxRecDepth 20000
namespace Go.V.So
open Go.Proofs Go.RowKit Go.V Go.Sort
theorem _root_.Go.V.Zl {A B:Prop} (h:B) (t:Wr B → A:=by intro h; refine z8 (qk L _ rfl rfl rfl rfl rfl rfl rfl (by omega)) rfl ?_;exact h.h):A:=t ⟨h⟩
theorem _root_.Go.V.Zn {A B:Prop} (h:B) (t:Wr B → A:=by intro h; refine Zi ?_;refine Zl ?_;exact h.h):A:=t ⟨h⟩
theorem _root_.Go.V.Zfi {A B:Prop} (h:B) (t:Wr B → A:=by intro h; refine Zi ?_;refine Zex ?_;exact h.h):A:=t ⟨h⟩
theorem _root_.Go.V.Ze7 {A B:Prop} (h:B) (t:Wr B → A:=by intro h; refine ZeM ?_;refine Zl ?_;exact h.h):A:=t ⟨h⟩
theorem _root_.Go.V.Zbj {A B:Prop} (h:B) (t:Wr B → A:=by intro h; refine Zct ?_;refine Zgh ?_;exact h.h):A:=t ⟨h⟩
theorem _root_.Go.V.Zbu {A B:Prop} (h:B) (t:Wr B → A:=by intro h; refine Zfi ?_;refine Zl ?_;exact h.h):A:=t ⟨h⟩
theorem _root_.Go.V.ZcO {A B:Prop} (h:B) (t:Wr B → A:=by intro h; refine ZeC ?_;refine Zgh ?_;exact h.h):A:=t ⟨h⟩
theorem _root_.Go.V.ZdL {A B:Prop} (h:B) (t:Wr B → A:=by intro h; refine ZaD ?_;refine Zd ?_;exact h.h):A:=t ⟨h⟩
abbrev lt:Int → Int → Bool:=ltInt
abbrev tyU:TypeId:=49
attribute [local irreducible] V N X VO Par StepOK Has Ret RetL RetO zcd zd2 Src
theorem isnanU (a:Int) {w:World} {B:Heap} (hB:B.Le (hp w)):Ret Tryz.prog 153 [.int .u64 a] w B (fun v _ => v = .bool false):=by
 refine yf Tryz.func153 rfl Tryz.ntmps153 (Nat.le_of_ble_eq_true rfl) hB ?_
 refine ZdL ?_;refine ZK ?_;refine Zb ?_
 refine ye L (rs:=[.tmp 2]) rfl (fun _ _ h => h) Since.refl fun u H hH hle => ?_
 rfl
theorem z6j (a b:Int) {w:World} {B:Heap} (hB:B.Le (hp w)):Ret Tryz.prog 107 [.int .u64 a, .int .u64 b] w B (fun v _ => v = .bool (lt a b)):=by
 unfold lt ltInt
 refine yf Tryz.func107 rfl Tryz.ntmps107 (Nat.le_of_ble_eq_true rfl) hB ?_
 by_cases h:a < b
 ·rw [decide_eq_true h]
  refine ZbW ?_;refine z7 (zp L rfl rfl (zk rfl) rfl rfl rfl (fun u H hH _ _ => isnanU _ hH)) rfl ?_;refine ZaS ?_;refine Z2 ?_;refine ZT ?_;refine Zg ?_;refine Zb ?_
  refine ye L (rs:=[.tmp 4]) rfl (fun _ _ h => h) Since.refl fun u H hH hle => ?_
  rfl
 ·rw [decide_eq_false h]
  refine ZbW ?_;refine z7 (zp L rfl rfl (zk rfl) rfl rfl rfl (fun u H hH _ _ => isnanU _ hH)) rfl ?_;refine ZaS ?_;refine Z2 ?_;refine Z4 ?_;refine Zg ?_;refine Zb ?_
  refine ye L (rs:=[.tmp 4]) rfl (fun _ _ h => h) Since.refl fun u H hH hle => ?_
  rfl
theorem zbg {a b:Int} {f:Bool} (h:lt a b = f) {w:World} {B:Heap} (hB:B.Le (hp w)):Ret Tryz.prog 107 [.int .u64 a, .int .u64 b] w B (fun v _ => v = .bool f):=h ▸ z6j a b hB
set_option maxHeartbeats 1000000 in
set_option maxRecDepth 20000 in
theorem ins_ret {d:Array Int} {rest:List Value} {b m cap a e:Nat} (hab:a ≤ e) (he:e ≤ d.size) (hm:d.size = m) (hm1:m ≤ 100000) {w:World} {B:Heap} {C:Nat → Prop} (hB:B.Le (hp w))
  (hr:(zab b (uC d ++ rest) tyU).P B w C) (hC:∀ k, C k → k < w.heap.size ∧ B k = none) :
  zcd Tryz.prog 101 [.slice (some ⟨b, 0, none⟩) m cap, .int .i64 a, .int .i64 e] w B C (zab b (uC (insertionSort lt d a e) ++ rest) tyU):=by
 unfold zcd
 refine zau 900 (zab b (uC d ++ rest) tyU) Tryz.func101 rfl Tryz.ntmps101 (Nat.le_of_ble_eq_true rfl) hB hr hC ?_
 rw [za6]
 have hw0:IntKind.i64.wrap ((a:Int) + 1) = ((a + 1:Nat):Int):=zaa (by omega) (by omega)
 refine ZR ?_;refine Za ?_;refine ZZ ?_;refine ZE ?_
 refine zal (fun s:Nat × Array Int => [(0, .is (.slice (some ⟨b, 0, none⟩) m cap)), (1, .is (.int .i64 a)), (2, .is (.int .i64 e)), (6, .is (.int .i64 s.1)), (900, .own (zan b (uC s.2 ++ rest) tyU))]) (fun s => s.1 ≤ e + 1 ∧ a < s.1 ∧ s.2.size = m ∧ insOuter lt a e s.1 s.2 = insertionSort lt d a e) (fun s => e + 1 - s.1) (a + 1, d) ⟨by omega, by omega, hm, rfl⟩ ⟨rfl, rfl, rfl, rfl, rfl, trivial⟩ ?_
 rintro ⟨i, D⟩ ⟨hi, hai, hD, hO⟩
 dsimp only at hi hai hD hO ⊢
 by_cases hlt:i < e
 ·rw [insOuter, if_pos hlt] at hO
  refine Zc ?_;refine Zae ?_;refine Zd ?_;refine ZbG ?_;refine Zbl ?_;refine Z1 ?_;refine ZE ?_
  refine zal (fun t:Nat × Array Int => [(0, .is (.slice (some ⟨b, 0, none⟩) m cap)), (1, .is (.int .i64 a)), (2, .is (.int .i64 e)), (6, .is (.int .i64 i)), (7, .is (.int .i64 t.1)), (900, .own (zan b (uC t.2 ++ rest) tyU))]) (fun t => t.1 ≤ i ∧ t.2.size = m ∧ insInner lt a t.1 t.2 = insInner lt a i D) (fun t => t.1) (i, D) ⟨Nat.le_refl _, hD, rfl⟩ ⟨rfl, rfl, rfl, rfl, rfl, rfl, trivial⟩ ?_
  rintro ⟨j, E⟩ ⟨hj, hE, hI⟩
  dsimp only at hj hE hI ⊢
  rcases j with _ | j
  ·rw [insInner] at hI
   rw [hI]
   refine Zc ?_;refine Zck ?_;refine Zi ?_;refine Zd9 ?_;refine Zcb ?_;refine Zbj ?_;refine ZbR ?_;refine ZG ?_;refine ZaE ?_
   exact yi (x:=(i, D)) (i + 1, insInner lt a i D) ⟨by dsimp only; omega, by dsimp only; omega, by dsimp only; rw [← hI]; exact hE, hO⟩ (by dsimp only; omega) ⟨rfl, rfl, rfl, rfl, rfl, trivial⟩
  ·by_cases hja:a < j + 1
   ·have hw1:IntKind.i64.wrap (((j + 1:Nat):Int) - 1) = (j:Int):=zaa (by omega) (by omega) |>.trans (by omega)
    obtain ⟨r1, q1⟩:=zdb (rest:=rest) (show j + 1 < E.size by omega) (0 + (j + 1) * 1) rfl
    obtain ⟨r2, q2⟩:=zdb (rest:=rest) (show j < E.size by omega) (0 + j * 1) rfl
    cases hc:lt E[j + 1]! E[j]! with
    | true =>
     rw [insInner, if_pos (by rw [hc]; simp; omega)] at hI
     have s1:=zcj (rest:=rest) E[j]! (show j + 1 < E.size by omega) (0 + (j + 1) * 1) rfl
     have b1:=zck (rest:=rest) (show j + 1 < E.size by omega) (0 + (j + 1) * 1) rfl
     have hz:j < (E.setIfInBounds (j + 1) E[j]!).size:=by rw [Array.size_setIfInBounds]; omega
     have s2:=zcj (rest:=rest) E[j + 1]! hz (0 + j * 1) rfl
     have b2:=zck (rest:=rest) hz (0 + j * 1) rfl
     rw [zdj] at s2
     refine Zc ?_;refine qg (id:=4) [(200023, [900]), (200028, [900])] mixed (by kernel_rfl) ?_;refine Zi ?_;refine Zdb ?_;refine Ze7 ?_;refine qn (qq L (q:=900) rfl rfl rfl rfl rfl q1) rfl rfl ?_;refine Zbu ?_;refine qn (qq L (q:=900) rfl rfl rfl rfl rfl q2) rfl rfl ?_;refine z8 (zp L rfl rfl (zk rfl) rfl rfl rfl (fun u H hH _ _ => zbg hc hH)) rfl ?_;refine Zb9 ?_;refine ZbT ?_;refine qg (id:=6) [(200042, [900]), (200046, [900]), (100047, [900]), (100048, [900])] mixed (by kernel_rfl) ?_;refine Zi ?_;refine Zfi ?_;refine Zbu ?_;refine qn (qq L (q:=900) rfl rfl rfl rfl rfl q2) rfl rfl ?_;refine Zn ?_;refine qn (qq L (q:=900) rfl rfl rfl rfl rfl q1) rfl rfl ?_;refine Zl ?_;refine zah (yz L (q:=900) rfl rfl rfl rfl rfl rfl b1 rfl s1) rfl ?_;refine Zl ?_;refine zah (yz L (q:=900) rfl rfl rfl rfl rfl rfl b2 rfl s2) rfl ?_;refine Zba ?_;refine Z9 ?_;refine Za7 ?_;refine ZaT ?_
     exact yi (x:=(j + 1, E)) (j, swp E (j + 1) j) ⟨by dsimp only; omega, by dsimp only; rw [zbv]; exact hE, hI⟩ (by dsimp only; omega) ⟨rfl, rfl, rfl, rfl, rfl, rfl, trivial⟩
    | false =>
     rw [insInner, if_neg (by rw [hc]; simp)] at hI
     refine Zc ?_;refine qg (id:=4) [(200023, [900]), (200028, [900])] mixed (by kernel_rfl) ?_;refine Zi ?_;refine Zdb ?_;refine Ze7 ?_;refine qn (qq L (q:=900) rfl rfl rfl rfl rfl q1) rfl rfl ?_;refine Zbu ?_;refine qn (qq L (q:=900) rfl rfl rfl rfl rfl q2) rfl rfl ?_;refine z8 (zp L rfl rfl (zk rfl) rfl rfl rfl (fun u H hH _ _ => zbg hc hH)) rfl ?_;refine Zbj ?_;refine ZbR ?_
     rw [hI]
     refine ZG ?_;refine ZaE ?_
     exact yi (x:=(i, D)) (i + 1, insInner lt a i D) ⟨by dsimp only; omega, by dsimp only; omega, by dsimp only; rw [← hI]; exact hE, hO⟩ (by dsimp only; omega) ⟨rfl, rfl, rfl, rfl, rfl, trivial⟩
   ·rw [insInner, if_neg (by simp; omega)] at hI
    rw [hI]
    refine Zc ?_;refine Zck ?_;refine Zi ?_;refine Zd9 ?_;refine Zcb ?_;refine Zbj ?_;refine ZbR ?_;refine ZG ?_;refine ZaE ?_
    exact yi (x:=(i, D)) (i + 1, insInner lt a i D) ⟨by dsimp only; omega, by dsimp only; omega, by dsimp only; rw [← hI]; exact hE, hO⟩ (by dsimp only; omega) ⟨rfl, rfl, rfl, rfl, rfl, trivial⟩
 ·rw [insOuter, if_neg hlt] at hO
  subst hO
  refine Zc ?_;refine Zae ?_;refine Zbi ?_;refine ZcO ?_
  exact zbe L 900 (r:=zab b _ tyU) rfl (fun _ _ h => h) Since.refl rfl rfl
end Go.V.So
set_option maxRecDepth 20000
namespace Go.V.So
open Go.Proofs Go.RowKit Go.V Go.Sort
theorem _root_.Go.V.Zgs {A B:Prop} (h:B) (t:Wr B → A:=by intro h; refine z7 (zvk rfl rfl rfl rfl (zaa (by omega) (by omega))) rfl ?_;exact h.h):A:=t ⟨h⟩
theorem _root_.Go.V.Zfv {A B:Prop} (h:B) (t:Wr B → A:=by intro h; refine qg (id:=5) [(200044, [900]), (200050, [900])] mixed (by kernel_rfl) ?_;exact h.h):A:=t ⟨h⟩
theorem _root_.Go.V.Zgt {A B:Prop} (h:B) (t:Wr B → A:=by intro h; refine qg (id:=6) [(200066, [900]), (200072, [900]), (100073, [900]), (100074, [900])] mixed (by kernel_rfl) ?_;exact h.h):A:=t ⟨h⟩
theorem _root_.Go.V.ZfW {A B:Prop} (h:B) (t:Wr B → A:=by intro h; refine qg (id:=3) [(200027, [900]), (200034, [900])] mixed (by kernel_rfl) ?_;exact h.h):A:=t ⟨h⟩
theorem _root_.Go.V.Zbv {A B:Prop} (h:B) (t:Wr B → A:=by intro h; refine ZeM ?_;refine Zab ?_;exact h.h):A:=t ⟨h⟩
theorem _root_.Go.V.ZJ {A B:Prop} (h:B) (t:Wr B → A:=by intro h; refine Zd ?_;refine Za7 ?_;exact h.h):A:=t ⟨h⟩
theorem _root_.Go.V.ZeR {A B:Prop} (h:B) (t:Wr B → A:=by intro h; refine Zgs ?_;refine ZZ ?_;exact h.h):A:=t ⟨h⟩
theorem _root_.Go.V.Zal {A B:Prop} (h:B) (t:Wr B → A:=by intro h; refine Za ?_;refine Za7 ?_;exact h.h):A:=t ⟨h⟩
theorem _root_.Go.V.ZaA {A B:Prop} (h:B) (t:Wr B → A:=by intro h; refine Zbv ?_;refine Zl ?_;exact h.h):A:=t ⟨h⟩
theorem _root_.Go.V.Zfw {A B:Prop} (h:B) (t:Wr B → A:=by intro h; refine Zai ?_;refine Zae ?_;exact h.h):A:=t ⟨h⟩
theorem _root_.Go.V.ZbB {A B:Prop} (h:B) (t:Wr B → A:=by intro h; refine Zaj ?_;refine zh ?_;exact h.h):A:=t ⟨h⟩
theorem _root_.Go.V.ZcP {A B:Prop} (h:B) (t:Wr B → A:=by intro h; refine Zi ?_;refine Zi ?_;exact h.h):A:=t ⟨h⟩
theorem _root_.Go.V.ZcQ {A B:Prop} (h:B) (t:Wr B → A:=by intro h; refine Zj ?_;refine Z1 ?_;exact h.h):A:=t ⟨h⟩
theorem _root_.Go.V.Zdt {A B:Prop} (h:B) (t:Wr B → A:=by intro h; refine Zfw ?_;refine Za ?_;exact h.h):A:=t ⟨h⟩
theorem _root_.Go.V.Zen {A B:Prop} (h:B) (t:Wr B → A:=by intro h; refine ZbG ?_;refine Zf6 ?_;exact h.h):A:=t ⟨h⟩
attribute [local irreducible] V N X VO Par StepOK Has Ret RetL RetO zcd zd2 Src
set_option maxHeartbeats 1000000 in
set_option maxRecDepth 20000 in
theorem rev_ret {d:Array Int} {rest:List Value} {b m cap a e:Nat} (hab:a < e) (he:e ≤ d.size) (hm:d.size = m) (hm1:m ≤ 100000) {w:World} {B:Heap} {C:Nat → Prop} (hB:B.Le (hp w))
  (hr:(zab b (uC d ++ rest) tyU).P B w C) (hC:∀ k, C k → k < w.heap.size ∧ B k = none) :
  zcd Tryz.prog 105 [.slice (some ⟨b, 0, none⟩) m cap, .int .i64 a, .int .i64 e] w B C (zab b (uC (reverseRange d a e) ++ rest) tyU):=by
 unfold zcd
 refine zau 900 (zab b (uC d ++ rest) tyU) Tryz.func105 rfl Tryz.ntmps105 (Nat.le_of_ble_eq_true rfl) hB hr hC ?_
 rw [za6]
 have hw0:IntKind.i64.wrap ((e:Int) - 1) = ((e - 1:Nat):Int):=zaa (by omega) (by omega) |>.trans (by omega)
 refine ZR ?_;refine Za ?_;refine ZS ?_;refine Zal ?_;refine ZE ?_
 refine zal (fun s:(Nat × Nat) × Array Int => [(0, .is (.slice (some ⟨b, 0, none⟩) m cap)), (6, .is (.int .i64 s.1.1)), (7, .is (.int .i64 s.1.2)), (900, .own (zan b (uC s.2 ++ rest) tyU))]) (fun s => s.1.1 ≤ m ∧ s.1.2 < m ∧ s.2.size = m ∧ reverseLoop s.1.1 s.1.2 s.2 = reverseRange d a e) (fun s => s.1.2 - s.1.1) ((a, e - 1), d) ⟨by dsimp only; omega, by dsimp only; omega, hm, rfl⟩ ⟨rfl, rfl, rfl, rfl, trivial⟩ ?_
 rintro ⟨⟨i, j⟩, E⟩ ⟨hi, hj, hE, hO⟩
 dsimp only at hi hj hE hO ⊢
 by_cases hlt:i < j
 ·rw [reverseLoop, if_pos hlt] at hO
  have hw1:IntKind.i64.wrap ((i:Int) + 1) = ((i + 1:Nat):Int):=zaa (by omega) (by omega)
  have hw2:IntKind.i64.wrap ((j:Int) - 1) = ((j - 1:Nat):Int):=zaa (by omega) (by omega) |>.trans (by omega)
  obtain ⟨_, qj⟩:=zdb (rest:=rest) (show j < E.size by omega) (0 + (j) * 1) rfl
  obtain ⟨_, qi⟩:=zdb (rest:=rest) (show i < E.size by omega) (0 + (i) * 1) rfl
  have s1:=zcj (rest:=rest) E[j]! (show i < E.size by omega) (0 + (i) * 1) rfl
  have b1:=zck (rest:=rest) (show i < E.size by omega) (0 + (i) * 1) rfl
  have hz:j < (E.setIfInBounds (i) E[j]!).size:=by rw [Array.size_setIfInBounds]; omega
  have s2:=zcj (rest:=rest) E[i]! hz (0 + (j) * 1) rfl
  have b2:=zck (rest:=rest) hz (0 + (j) * 1) rfl
  rw [zdj] at s2
  refine Zcm ?_;refine Zen ?_;refine qg (id:=3) [(200021, [900]), (200025, [900]), (100026, [900]), (100027, [900])] mixed (by kernel_rfl) ?_;refine ZcP ?_;refine Zn ?_;refine qn (qq L (q:=900) rfl rfl rfl rfl rfl qj) rfl rfl ?_;refine Zn ?_;refine qn (qq L (q:=900) rfl rfl rfl rfl rfl qi) rfl rfl ?_;refine Zl ?_;refine zah (yz L (q:=900) rfl rfl rfl rfl rfl rfl b1 rfl s1) rfl ?_;refine Zl ?_;refine zah (yz L (q:=900) rfl rfl rfl rfl rfl rfl b2 rfl s2) rfl ?_;refine ZbB ?_;refine Zu ?_;refine ZZ ?_;refine Zb ?_;refine Z9 ?_;refine Za7 ?_;refine Za3 ?_
  exact yi (x:=((i, j), E)) ((i + 1, j - 1), swp E i j) ⟨by dsimp only; omega, by dsimp only; omega, by dsimp only; rw [zbv]; exact hE, hO⟩ (by dsimp only; omega) ⟨rfl, rfl, rfl, rfl, trivial⟩
 ·rw [reverseLoop, if_neg hlt] at hO
  subst hO
  refine Zcm ?_;refine Z4 ?_;refine ZcO ?_
  exact zbe L 900 (r:=zab b _ tyU) rfl (fun _ _ h => h) Since.refl rfl rfl
set_option maxHeartbeats 1000000 in
set_option maxRecDepth 20000 in
theorem zq2 {d:Array Int} {rest:List Value} {b m cap lo hi first:Nat} (hlo:lo ≤ hi) (hf:first + hi ≤ d.size) (hm:d.size = m) (hm1:m ≤ 100000) {w:World} {B:Heap} {C:Nat → Prop} (hB:B.Le (hp w))
  (hr:(zab b (uC d ++ rest) tyU).P B w C) (hC:∀ k, C k → k < w.heap.size ∧ B k = none) :
  zcd Tryz.prog 148 [.slice (some ⟨b, 0, none⟩) m cap, .int .i64 lo, .int .i64 hi, .int .i64 first] w B C (zab b (uC (siftDown lt hi first lo d) ++ rest) tyU):=by
 unfold zcd
 refine zau 900 (zab b (uC d ++ rest) tyU) Tryz.func148 rfl Tryz.ntmps148 (Nat.le_of_ble_eq_true rfl) hB hr hC ?_
 rw [za6]
 refine ZR ?_;refine Za ?_;refine ZE ?_
 refine zal (fun s:Nat × Array Int => [(0, .is (.slice (some ⟨b, 0, none⟩) m cap)), (2, .is (.int .i64 hi)), (3, .is (.int .i64 first)), (8, .is (.int .i64 s.1)), (900, .own (zan b (uC s.2 ++ rest) tyU))]) (fun s => s.1 ≤ hi ∧ s.2.size = m ∧ siftDown lt hi first s.1 s.2 = siftDown lt hi first lo d) (fun s => hi - s.1) (lo, d) ⟨hlo, hm, rfl⟩ ⟨rfl, rfl, rfl, rfl, rfl, trivial⟩ ?_
 rintro ⟨r, E⟩ ⟨hr0, hE, hO⟩
 dsimp only at hr0 hE hO ⊢
 have hw1:IntKind.i64.wrap (2 * (r:Int)) = ((2 * r:Nat):Int):=zaa (by omega) (by omega) |>.trans (by omega)
 have hw2:IntKind.i64.wrap (((2 * r:Nat):Int) + 1) = ((2 * r + 1:Nat):Int):=zaa (by omega) (by omega)
 by_cases hend:hi ≤ 2 * r + 1
 ·rw [siftDown, dif_pos (by omega)] at hO
  subst hO
  refine Zdt ?_;refine ZeR ?_;refine Zj ?_;refine Zdc ?_;refine ZaK ?_;refine ZeD ?_;refine zk8 rfl ?_;refine y8 ?_;refine yt ?_
  exact zbe L 900 (r:=zab b _ tyU) rfl (fun _ _ h => h) Since.refl rfl rfl
 ·rw [siftDown, dif_neg (by omega)] at hO
  have hw3:IntKind.i64.wrap (((2 * r + 1:Nat):Int) + 1) = ((2 * r + 2:Nat):Int):=zaa (by omega) (by omega)
  have hw4:IntKind.i64.wrap ((first:Int) + ((2 * r + 1:Nat):Int)) = ((first + (2 * r + 1):Nat):Int):=zaa (by omega) (by omega)
  have hw5:IntKind.i64.wrap (((first + (2 * r + 1):Nat):Int) + 1) = ((first + (2 * r + 2):Nat):Int):=zaa (by omega) (by omega)
  have hw6:IntKind.i64.wrap ((first:Int) + (r:Int)) = ((first + r:Nat):Int):=zaa (by omega) (by omega)
  have hw7:IntKind.i64.wrap ((first:Int) + ((2 * r + 2:Nat):Int)) = ((first + (2 * r + 2):Nat):Int):=zaa (by omega) (by omega)
  obtain ⟨_, qr⟩:=zdb (rest:=rest) (show first + r < E.size by omega) (0 + (first + r) * 1) rfl
  by_cases h2:2 * r + 2 < hi
  ·obtain ⟨_, q1⟩:=zdb (rest:=rest) (show first + (2 * r + 1) < E.size by omega) (0 + (first + (2 * r + 1)) * 1) rfl
   obtain ⟨_, q2⟩:=zdb (rest:=rest) (show first + (2 * r + 2) < E.size by omega) (0 + (first + (2 * r + 2)) * 1) rfl
   have e2:first + (2 * r + 1) + 1 = first + (2 * r + 2):=by omega
   rw [e2] at hO
   cases hc:lt E[first + (2 * r + 1)]! E[first + (2 * r + 2)]! with
   | true =>
    rw [if_pos (by rw [hc]; simp; omega)] at hO
    have qc:=q2
    cases hc2:lt E[first + r]! E[first + (2 * r + 2)]! with
    | false =>
     rw [hc2] at hO
     simp only [Bool.not_false, if_true] at hO
     subst hO
     refine Zdt ?_;refine ZeR ?_;refine Zj ?_;refine Zdc ?_;refine ZA ?_;refine Zr ?_;refine ZfW ?_;refine Zh ?_;refine Zab ?_;refine Zh ?_;refine ZbE ?_;refine ZcP ?_;refine Zab ?_;refine Zl ?_;refine qn (qq L (q:=900) rfl rfl rfl rfl rfl q1) rfl rfl ?_;refine Zbv ?_;refine Zab ?_;refine Zl ?_;refine qn (qq L (q:=900) rfl rfl rfl rfl rfl q2) rfl rfl ?_;refine z8 (zp L rfl rfl (zk rfl) rfl rfl rfl (fun u H hH _ _ => zbg hc hH)) rfl ?_;refine Zb9 ?_;refine Zu ?_;refine ZZ ?_;refine Zj ?_;refine Zfv ?_;refine ZaA ?_;refine qn (qq L (q:=900) rfl rfl rfl rfl rfl qr) rfl rfl ?_;refine ZaA ?_;refine qn (qq L (q:=900) rfl rfl rfl rfl rfl qc) rfl rfl ?_;refine z8 (zp L rfl rfl (zk rfl) rfl rfl rfl (fun u H hH _ _ => zbg hc2 hH)) rfl ?_;refine ZI ?_;refine Zaj ?_;refine ZaR ?_
     exact zbm L 900 (r:=zab b _ tyU) rfl (fun _ _ h => h) Since.refl rfl rfl
    | true =>
     rw [hc2] at hO
     simp only [Bool.not_true, Bool.false_eq_true, if_false] at hO
     rw [dif_pos (by omega)] at hO
     obtain ⟨_, qj⟩:=zdb (rest:=rest) (show first + (2 * r + 2) < E.size by omega) (0 + (first + (2 * r + 2)) * 1) rfl
     obtain ⟨_, qi⟩:=zdb (rest:=rest) (show first + r < E.size by omega) (0 + (first + r) * 1) rfl
     have s1:=zcj (rest:=rest) E[first + (2 * r + 2)]! (show first + r < E.size by omega) (0 + (first + r) * 1) rfl
     have b1:=zck (rest:=rest) (show first + r < E.size by omega) (0 + (first + r) * 1) rfl
     have hz:first + (2 * r + 2) < (E.setIfInBounds (first + r) E[first + (2 * r + 2)]!).size:=by rw [Array.size_setIfInBounds]; omega
     have s2:=zcj (rest:=rest) E[first + r]! hz (0 + (first + (2 * r + 2)) * 1) rfl
     have b2:=zck (rest:=rest) hz (0 + (first + (2 * r + 2)) * 1) rfl
     rw [zdj] at s2
     refine Zdt ?_;refine ZeR ?_;refine Zj ?_;refine Zdc ?_;refine ZA ?_;refine Zr ?_;refine ZfW ?_;refine Zh ?_;refine Zab ?_;refine Zh ?_;refine ZbE ?_;refine ZcP ?_;refine Zab ?_;refine Zl ?_;refine qn (qq L (q:=900) rfl rfl rfl rfl rfl q1) rfl rfl ?_;refine Zbv ?_;refine Zab ?_;refine Zl ?_;refine qn (qq L (q:=900) rfl rfl rfl rfl rfl q2) rfl rfl ?_;refine z8 (zp L rfl rfl (zk rfl) rfl rfl rfl (fun u H hH _ _ => zbg hc hH)) rfl ?_;refine Zb9 ?_;refine Zu ?_;refine ZZ ?_;refine Zj ?_;refine Zfv ?_;refine ZaA ?_;refine qn (qq L (q:=900) rfl rfl rfl rfl rfl qr) rfl rfl ?_;refine ZaA ?_;refine qn (qq L (q:=900) rfl rfl rfl rfl rfl qc) rfl rfl ?_;refine z8 (zp L rfl rfl (zk rfl) rfl rfl rfl (fun u H hH _ _ => zbg hc2 hH)) rfl ?_;refine ZI ?_;refine ZaI ?_;refine Zd6 ?_;refine Zgt ?_;refine Zbv ?_;refine Zbv ?_;refine ZaA ?_;refine qn (qq L (q:=900) rfl rfl rfl rfl rfl qj) rfl rfl ?_;refine ZaA ?_;refine qn (qq L (q:=900) rfl rfl rfl rfl rfl qi) rfl rfl ?_;refine Zl ?_;refine zah (yz L (q:=900) rfl rfl rfl rfl rfl rfl b1 rfl s1) rfl ?_;refine Zl ?_;refine zah (yz L (q:=900) rfl rfl rfl rfl rfl rfl b2 rfl s2) rfl ?_;refine Zaj ?_;refine Z5 ?_;refine Za3 ?_
     exact yi (x:=(r, E)) (2 * r + 2, swp E (first + r) (first + (2 * r + 2))) ⟨by dsimp only; omega, by dsimp only; rw [zbv]; exact hE, hO⟩ (by dsimp only; omega) ⟨rfl, rfl, rfl, rfl, rfl, trivial⟩
   | false =>
    rw [if_neg (by rw [hc]; simp)] at hO
    have qc:=q1
    cases hc2:lt E[first + r]! E[first + (2 * r + 1)]! with
    | false =>
     rw [hc2] at hO
     simp only [Bool.not_false, if_true] at hO
     subst hO
     refine Zdt ?_;refine ZeR ?_;refine Zj ?_;refine Zdc ?_;refine ZA ?_;refine Zr ?_;refine ZfW ?_;refine Zh ?_;refine Zab ?_;refine Zh ?_;refine ZbE ?_;refine ZcP ?_;refine Zab ?_;refine Zl ?_;refine qn (qq L (q:=900) rfl rfl rfl rfl rfl q1) rfl rfl ?_;refine Zbv ?_;refine Zab ?_;refine Zl ?_;refine qn (qq L (q:=900) rfl rfl rfl rfl rfl q2) rfl rfl ?_;refine z8 (zp L rfl rfl (zk rfl) rfl rfl rfl (fun u H hH _ _ => zbg hc hH)) rfl ?_;refine Zct ?_;refine ZaB ?_;refine Zc ?_;refine Zfv ?_;refine ZaA ?_;refine qn (qq L (q:=900) rfl rfl rfl rfl rfl qr) rfl rfl ?_;refine ZaA ?_;refine qn (qq L (q:=900) rfl rfl rfl rfl rfl qc) rfl rfl ?_;refine z8 (zp L rfl rfl (zk rfl) rfl rfl rfl (fun u H hH _ _ => zbg hc2 hH)) rfl ?_;refine ZI ?_;refine Zaj ?_;refine ZaR ?_
     exact zbm L 900 (r:=zab b _ tyU) rfl (fun _ _ h => h) Since.refl rfl rfl
    | true =>
     rw [hc2] at hO
     simp only [Bool.not_true, Bool.false_eq_true, if_false] at hO
     obtain ⟨_, qj⟩:=zdb (rest:=rest) (show first + (2 * r + 1) < E.size by omega) (0 + (first + (2 * r + 1)) * 1) rfl
     obtain ⟨_, qi⟩:=zdb (rest:=rest) (show first + r < E.size by omega) (0 + (first + r) * 1) rfl
     have s1:=zcj (rest:=rest) E[first + (2 * r + 1)]! (show first + r < E.size by omega) (0 + (first + r) * 1) rfl
     have b1:=zck (rest:=rest) (show first + r < E.size by omega) (0 + (first + r) * 1) rfl
     have hz:first + (2 * r + 1) < (E.setIfInBounds (first + r) E[first + (2 * r + 1)]!).size:=by rw [Array.size_setIfInBounds]; omega
     have s2:=zcj (rest:=rest) E[first + r]! hz (0 + (first + (2 * r + 1)) * 1) rfl
     have b2:=zck (rest:=rest) hz (0 + (first + (2 * r + 1)) * 1) rfl
     rw [zdj] at s2
     refine Zdt ?_;refine ZeR ?_;refine Zj ?_;refine Zdc ?_;refine ZA ?_;refine Zr ?_;refine ZfW ?_;refine Zh ?_;refine Zab ?_;refine Zh ?_;refine ZbE ?_;refine ZcP ?_;refine Zab ?_;refine Zl ?_;refine qn (qq L (q:=900) rfl rfl rfl rfl rfl q1) rfl rfl ?_;refine Zbv ?_;refine Zab ?_;refine Zl ?_;refine qn (qq L (q:=900) rfl rfl rfl rfl rfl q2) rfl rfl ?_;refine z8 (zp L rfl rfl (zk rfl) rfl rfl rfl (fun u H hH _ _ => zbg hc hH)) rfl ?_;refine Zct ?_;refine ZaB ?_;refine Zc ?_;refine Zfv ?_;refine ZaA ?_;refine qn (qq L (q:=900) rfl rfl rfl rfl rfl qr) rfl rfl ?_;refine ZaA ?_;refine qn (qq L (q:=900) rfl rfl rfl rfl rfl qc) rfl rfl ?_;refine z8 (zp L rfl rfl (zk rfl) rfl rfl rfl (fun u H hH _ _ => zbg hc2 hH)) rfl ?_;refine ZI ?_;refine ZaI ?_;refine Zd6 ?_;refine Zgt ?_;refine Zbv ?_;refine Zbv ?_;refine ZaA ?_;refine qn (qq L (q:=900) rfl rfl rfl rfl rfl qj) rfl rfl ?_;refine ZaA ?_;refine qn (qq L (q:=900) rfl rfl rfl rfl rfl qi) rfl rfl ?_;refine Zl ?_;refine zah (yz L (q:=900) rfl rfl rfl rfl rfl rfl b1 rfl s1) rfl ?_;refine Zl ?_;refine zah (yz L (q:=900) rfl rfl rfl rfl rfl rfl b2 rfl s2) rfl ?_;refine Zaj ?_;refine Z5 ?_;refine Za3 ?_
     exact yi (x:=(r, E)) (2 * r + 1, swp E (first + r) (first + (2 * r + 1))) ⟨by dsimp only; omega, by dsimp only; rw [zbv]; exact hE, hO⟩ (by dsimp only; omega) ⟨rfl, rfl, rfl, rfl, rfl, trivial⟩
  ·rw [if_neg (by simp; omega)] at hO
   obtain ⟨_, qc⟩:=zdb (rest:=rest) (show first + (2 * r + 1) < E.size by omega) (0 + (first + (2 * r + 1)) * 1) rfl
   cases hc2:lt E[first + r]! E[first + (2 * r + 1)]! with
   | false =>
    rw [hc2] at hO
    simp only [Bool.not_false, if_true] at hO
    subst hO
    refine Zdt ?_;refine ZeR ?_;refine Zj ?_;refine Zdc ?_;refine ZA ?_;refine Zr ?_;refine Ze0 ?_;refine Zh ?_;refine Zab ?_;refine Zh ?_;refine Zda ?_;refine Ze2 ?_;refine Zf4 ?_;refine Zdg ?_;refine Zct ?_;refine ZaB ?_;refine Zc ?_;refine Zfv ?_;refine ZaA ?_;refine qn (qq L (q:=900) rfl rfl rfl rfl rfl qr) rfl rfl ?_;refine ZaA ?_;refine qn (qq L (q:=900) rfl rfl rfl rfl rfl qc) rfl rfl ?_;refine z8 (zp L rfl rfl (zk rfl) rfl rfl rfl (fun u H hH _ _ => zbg hc2 hH)) rfl ?_;refine ZI ?_;refine Zaj ?_;refine ZaR ?_
    exact zbm L 900 (r:=zab b _ tyU) rfl (fun _ _ h => h) Since.refl rfl rfl
   | true =>
    rw [hc2] at hO
    simp only [Bool.not_true, Bool.false_eq_true, if_false] at hO
    obtain ⟨_, qj⟩:=zdb (rest:=rest) (show first + (2 * r + 1) < E.size by omega) (0 + (first + (2 * r + 1)) * 1) rfl
    obtain ⟨_, qi⟩:=zdb (rest:=rest) (show first + r < E.size by omega) (0 + (first + r) * 1) rfl
    have s1:=zcj (rest:=rest) E[first + (2 * r + 1)]! (show first + r < E.size by omega) (0 + (first + r) * 1) rfl
    have b1:=zck (rest:=rest) (show first + r < E.size by omega) (0 + (first + r) * 1) rfl
    have hz:first + (2 * r + 1) < (E.setIfInBounds (first + r) E[first + (2 * r + 1)]!).size:=by rw [Array.size_setIfInBounds]; omega
    have s2:=zcj (rest:=rest) E[first + r]! hz (0 + (first + (2 * r + 1)) * 1) rfl
    have b2:=zck (rest:=rest) hz (0 + (first + (2 * r + 1)) * 1) rfl
    rw [zdj] at s2
    refine Zdt ?_;refine ZeR ?_;refine Zj ?_;refine Zdc ?_;refine ZA ?_;refine Zr ?_;refine Ze0 ?_;refine Zh ?_;refine Zab ?_;refine Zh ?_;refine Zda ?_;refine Ze2 ?_;refine Zf4 ?_;refine Zdg ?_;refine Zct ?_;refine ZaB ?_;refine Zc ?_;refine Zfv ?_;refine ZaA ?_;refine qn (qq L (q:=900) rfl rfl rfl rfl rfl qr) rfl rfl ?_;refine ZaA ?_;refine qn (qq L (q:=900) rfl rfl rfl rfl rfl qc) rfl rfl ?_;refine z8 (zp L rfl rfl (zk rfl) rfl rfl rfl (fun u H hH _ _ => zbg hc2 hH)) rfl ?_;refine ZI ?_;refine ZaI ?_;refine Zd6 ?_;refine Zgt ?_;refine Zbv ?_;refine Zbv ?_;refine ZaA ?_;refine qn (qq L (q:=900) rfl rfl rfl rfl rfl qj) rfl rfl ?_;refine ZaA ?_;refine qn (qq L (q:=900) rfl rfl rfl rfl rfl qi) rfl rfl ?_;refine Zl ?_;refine zah (yz L (q:=900) rfl rfl rfl rfl rfl rfl b1 rfl s1) rfl ?_;refine Zl ?_;refine zah (yz L (q:=900) rfl rfl rfl rfl rfl rfl b2 rfl s2) rfl ?_;refine Zaj ?_;refine Z5 ?_;refine Za3 ?_
    exact yi (x:=(r, E)) (2 * r + 1, swp E (first + r) (first + (2 * r + 1))) ⟨by dsimp only; omega, by dsimp only; rw [zbv]; exact hE, hO⟩ (by dsimp only; omega) ⟨rfl, rfl, rfl, rfl, rfl, trivial⟩
theorem zn5 (hi first:Nat):∀ (n root:Nat) (d:Array Int), hi - root ≤ n → (siftDown lt hi first root d).size = d.size:=by
 intro n
 induction n with
 | zero =>
  intro root d h
  rw [siftDown, dif_pos (by omega)]
 | succ n ih =>
  intro root d h
  rw [siftDown]
  split
  ·rfl
  ·split
   ·split
    ·rfl
    ·split
     ·rw [ih _ _ (by omega), zbv]
     ·rfl
   ·split
    ·rfl
    ·rw [ih _ _ (by omega), zbv]
set_option maxHeartbeats 1000000 in
set_option maxRecDepth 20000 in
theorem zy0 {d:Array Int} {rest:List Value} {b m cap a e:Nat} (hab:a < e) (he:e ≤ d.size) (hm:d.size = m) (hm1:m ≤ 100000) {w:World} {B:Heap} {C:Nat → Prop} (hB:B.Le (hp w))
  (hr:(zab b (uC d ++ rest) tyU).P B w C) (hC:∀ k, C k → k < w.heap.size ∧ B k = none) :
  zcd Tryz.prog 102 [.slice (some ⟨b, 0, none⟩) m cap, .int .i64 a, .int .i64 e] w B C (zab b (uC (heapSort lt d a e) ++ rest) tyU):=by
 unfold zcd
 refine zau 900 (zab b (uC d ++ rest) tyU) Tryz.func102 rfl Tryz.ntmps102 (Nat.le_of_ble_eq_true rfl) hB hr hC ?_
 rw [za6]
 have hw0:IntKind.i64.wrap ((e:Int) - (a:Int)) = ((e - a:Nat):Int):=zaa (by omega) (by omega) |>.trans (by omega)
 have hw1:IntKind.i64.wrap (((e - a:Nat):Int) - 1) = ((e - a - 1:Nat):Int):=zaa (by omega) (by omega) |>.trans (by omega)
 have et:((e - a - 1:Nat):Int).tdiv 2 = (((e - a - 1) / 2 + 1:Nat):Int) - 1:=by
  rw [Int.tdiv_eq_ediv_of_nonneg (by omega)]
  omega
 have hw2:IntKind.i64.wrap (((e - a - 1:Nat):Int).tdiv 2) = (((e - a - 1) / 2 + 1:Nat):Int) - 1:=by rw [et]; exact zaa (by omega) (by omega)
 refine ZR ?_;refine Za ?_;refine ZS ?_;refine Ze ?_;refine Zy ?_;refine ZJ ?_;refine ZcQ ?_;refine Za7 ?_;refine Zc1 ?_;refine ZE ?_
 refine zal (fun s:Nat × Array Int => [(0, .is (.slice (some ⟨b, 0, none⟩) m cap)), (6, .is (.int .i64 a)), (7, .is (.int .i64 0)), (8, .is (.int .i64 (e - a:Nat))), (9, .is (.int .i64 ((s.1:Int) - 1))), (900, .own (zan b (uC s.2 ++ rest) tyU))]) (fun s => s.1 ≤ (e - a - 1) / 2 + 1 ∧ s.2.size = m ∧ heapBuild lt (e - a) a s.1 s.2 = heapBuild lt (e - a) a ((e - a - 1) / 2 + 1) d) (fun s => s.1) ((e - a - 1) / 2 + 1, d) ⟨Nat.le_refl _, hm, rfl⟩ ⟨rfl, rfl, rfl, rfl, rfl, rfl, trivial⟩ ?_
 rintro ⟨k, E⟩ ⟨hk, hE, hO⟩
 dsimp only at hk hE hO ⊢
 rcases k with _ | k
 ·have e9:(((0:Nat):Int) - 1) = -1:=rfl
  rw [e9]
  refine ZbX ?_;refine ZA ?_;refine ZdF ?_
  rw [heapBuild] at hO
  have e10:((e - a - 1:Nat):Int) = ((e - a:Nat):Int) - 1:=by omega
  rw [e10] at hw1
  refine Z5 ?_;refine Za7 ?_;refine ZE ?_
  refine zal (fun s:Nat × Array Int => [(0, .is (.slice (some ⟨b, 0, none⟩) m cap)), (6, .is (.int .i64 a)), (7, .is (.int .i64 0)), (10, .is (.int .i64 ((s.1:Int) - 1))), (900, .own (zan b (uC s.2 ++ rest) tyU))]) (fun s => s.1 ≤ e - a ∧ s.2.size = m ∧ heapPop lt a s.1 s.2 = heapPop lt a (e - a) E) (fun s => s.1) (e - a, E) ⟨Nat.le_refl _, hE, rfl⟩ ⟨rfl, rfl, rfl, rfl, rfl, trivial⟩ ?_
  rintro ⟨j, G⟩ ⟨hj, hG, hP⟩
  dsimp only at hj hG hP ⊢
  rcases j with _ | j
  ·rw [e9]
   rw [heapPop] at hP
   have:G = heapSort lt d a e:=by unfold heapSort; rw [← hO, hP]
   subst this
   refine ZcE ?_;refine ZA ?_;refine ZcO ?_
   exact zbe L 900 (r:=zab b _ tyU) rfl (fun _ _ h => h) Since.refl rfl rfl
  ·have e8:(((j + 1:Nat):Int) - 1) = (j:Int):=by omega
   rw [heapPop] at hP
   rw [e8]
   have hw3:IntKind.i64.wrap ((a:Int) + (j:Int)) = ((a + j:Nat):Int):=zaa (by omega) (by omega)
   have hw4:IntKind.i64.wrap ((j:Int) - 1) = (j:Int) - 1:=zaa (by omega) (by omega)
   have hsz:=zbv G a (a + j)
   have hss:=zn5 j a j 0 (swp G a (a + j)) (by omega)
   obtain ⟨_, qj⟩:=zdb (rest:=rest) (show a + j < G.size by omega) (0 + (a + j) * 1) rfl
   obtain ⟨_, qi⟩:=zdb (rest:=rest) (show a < G.size by omega) (0 + (a) * 1) rfl
   have s1:=zcj (rest:=rest) G[a + j]! (show a < G.size by omega) (0 + (a) * 1) rfl
   have b1:=zck (rest:=rest) (show a < G.size by omega) (0 + (a) * 1) rfl
   have hz:a + j < (G.setIfInBounds (a) G[a + j]!).size:=by rw [Array.size_setIfInBounds]; omega
   have s2:=zcj (rest:=rest) G[a]! hz (0 + (a + j) * 1) rfl
   have b2:=zck (rest:=rest) hz (0 + (a + j) * 1) rfl
   rw [zdj] at s2
   refine ZcE ?_;refine ZaK ?_;refine Zbl ?_;refine qg (id:=10) [(200044, [900]), (200048, [900]), (100049, [900]), (100050, [900])] mixed (by kernel_rfl) ?_;refine Zi ?_;refine Zbv ?_;refine ZaA ?_;refine qn (qq L (q:=900) rfl rfl rfl rfl rfl qj) rfl rfl ?_;refine Zn ?_;refine qn (qq L (q:=900) rfl rfl rfl rfl rfl qi) rfl rfl ?_;refine Zl ?_;refine zah (yz L (q:=900) rfl rfl rfl rfl rfl rfl b1 rfl s1) rfl ?_;refine Zl ?_;refine zah (yz L (q:=900) rfl rfl rfl rfl rfl rfl b2 rfl s2) rfl ?_;refine Zaj ?_;refine Zak ?_;refine Zac ?_;refine qp (za5 L 900 (zab b (uC (siftDown lt j a 0 (swp G a (a + j))) ++ rest) tyU) (r:=zab b (uC (swp G a (a + j)) ++ rest) tyU) rfl rfl rfl rfl rfl (fun u H C hH _ hr hC => zq2 (Nat.zero_le _) (by omega) (by omega) hm1 hH hr hC)) ?_;refine Zaq ?_;refine ZM ?_;refine Zal ?_;refine ZaT ?_
   exact yi (x:=(j + 1, G)) (j, siftDown lt j a 0 (swp G a (a + j))) ⟨by dsimp only; omega, by dsimp only; omega, hP⟩ (by dsimp only; omega) ⟨rfl, rfl, rfl, rfl, rfl, trivial⟩
 ·have e8:(((k + 1:Nat):Int) - 1) = (k:Int):=by omega
  rw [heapBuild] at hO
  rw [e8]
  have hw4:IntKind.i64.wrap ((k:Int) - 1) = (k:Int) - 1:=zaa (by omega) (by omega)
  have hss:=zn5 (e - a) a (e - a) k E (by omega)
  refine ZbX ?_;refine ZaK ?_;refine ZbT ?_;refine Zz ?_;refine Zac ?_;refine qp (za5 L 900 (zab b (uC (siftDown lt (e - a) a k E) ++ rest) tyU) (r:=zab b (uC E ++ rest) tyU) rfl rfl rfl rfl rfl (fun u H C hH _ hr hC => zq2 (by omega) (by omega) (by omega) hm1 hH hr hC)) ?_;refine Zaq ?_;refine Z9 ?_;refine Za7 ?_;refine ZaT ?_
  exact yi (x:=(k + 1, E)) (k, siftDown lt (e - a) a k E) ⟨by dsimp only; omega, by dsimp only; omega, hO⟩ (by dsimp only; omega) ⟨rfl, rfl, rfl, rfl, rfl, rfl, trivial⟩
end Go.V.So
set_option maxRecDepth 20000
namespace Go.V.So
open Go.Proofs Go.RowKit Go.V Go.Sort
theorem _root_.Go.V.ZbN {A B:Prop} (h:B) (t:Wr B → A:=by intro h; refine zf (id:=22) ?_;exact h.h):A:=t ⟨h⟩
theorem _root_.Go.V.ZfX {A B:Prop} (h:B) (t:Wr B → A:=by intro h; refine qg (id:=5) [(200053, [900]), (200057, [900])] mixed (by kernel_rfl) ?_;exact h.h):A:=t ⟨h⟩
theorem _root_.Go.V.Zam {A B:Prop} (h:B) (t:Wr B → A:=by intro h; refine ZZ ?_;refine ZaT ?_;exact h.h):A:=t ⟨h⟩
theorem _root_.Go.V.ZgM {A B:Prop} (h:B) (t:Wr B → A:=by intro h; refine Zi ?_;refine Zg7 ?_;exact h.h):A:=t ⟨h⟩
theorem _root_.Go.V.Zdu {A B:Prop} (h:B) (t:Wr B → A:=by intro h; refine ZgM ?_;refine Ze7 ?_;exact h.h):A:=t ⟨h⟩
theorem _root_.Go.V.Zdv {A B:Prop} (h:B) (t:Wr B → A:=by intro h; refine Zu ?_;refine Zam ?_;exact h.h):A:=t ⟨h⟩
attribute [local irreducible] V N X VO Par StepOK Has Ret RetL RetO zcd zd2 Src
theorem zdm {p:Int → Bool} {d:Array Int} {j i:Nat} (h:¬ (i ≤ j ∧ p d[i]! = true)):scanUp p d j i = i:=by
 rw [scanUp, if_neg]
 simpa using h
theorem zj5 {p:Int → Bool} {d:Array Int} {j i:Nat} (h1:i ≤ j) (h2:p d[i]! = true):scanUp p d j i = scanUp p d j (i + 1):=by
 rw [scanUp, if_pos (by simp [h1, h2])]
theorem zct {p:Int → Bool} {d:Array Int} {i j:Nat} (h:¬ (i ≤ j ∧ p d[j]! = true)):scanDown p d i j = j:=by
 cases j with
 | zero => rfl
 | succ j => rw [scanDown, if_neg]; simpa using h
theorem zgw {p:Int → Bool} {d:Array Int} {i j:Nat} (h1:i ≤ j + 1) (h2:p d[j + 1]! = true):scanDown p d i (j + 1) = scanDown p d i j:=by
 rw [scanDown, if_pos (by simp [h1, h2])]
set_option maxHeartbeats 2000000 in
set_option maxRecDepth 20000 in
theorem zes {d:Array Int} {rest:List Value} {b m cap a e p:Nat} (hap:a ≤ p) (hpe:p < e) (he:e ≤ d.size) (hm:d.size = m) (hm1:m ≤ 100000) {w:World} {B:Heap} {C:Nat → Prop} (hB:B.Le (hp w))
  (hr:(zab b (uC d ++ rest) tyU).P B w C) (hC:∀ k, C k → k < w.heap.size ∧ B k = none) :
  zd2 Tryz.prog 109 [.slice (some ⟨b, 0, none⟩) m cap, .int .i64 a, .int .i64 e, .int .i64 p] w B C (zab b (uC (Go.Sort.partition lt d a e p).2.2 ++ rest) tyU) (.tuple #[.int .i64 (Go.Sort.partition lt d a e p).1, .bool (Go.Sort.partition lt d a e p).2.1]):=by
 unfold zd2
 refine zau 900 (zab b (uC d ++ rest) tyU) Tryz.func109 rfl Tryz.ntmps109 (Nat.le_of_ble_eq_true rfl) hB hr hC ?_
 rw [za6]
 obtain ⟨_, qj⟩:=zdb (rest:=rest) (show p < d.size by omega) (0 + (p) * 1) rfl
 obtain ⟨_, qi⟩:=zdb (rest:=rest) (show a < d.size by omega) (0 + (a) * 1) rfl
 have s1:=zcj (rest:=rest) d[p]! (show a < d.size by omega) (0 + (a) * 1) rfl
 have b1:=zck (rest:=rest) (show a < d.size by omega) (0 + (a) * 1) rfl
 have hz:p < (d.setIfInBounds (a) d[p]!).size:=by rw [Array.size_setIfInBounds]; omega
 have s2:=zcj (rest:=rest) d[a]! hz (0 + (p) * 1) rfl
 have b2:=zck (rest:=rest) hz (0 + (p) * 1) rfl
 rw [zdj] at s2
 have hw1:IntKind.i64.wrap ((a:Int) + 1) = ((a + 1:Nat):Int):=zaa (by omega) (by omega)
 obtain ⟨e1, rfl⟩:∃ e1, e = e1 + 1:=⟨e - 1, by omega⟩
 have hw2:IntKind.i64.wrap (((e1 + 1:Nat):Int) - 1) = (e1:Int):=zaa (by omega) (by omega) |>.trans (by omega)
 obtain ⟨R, hR⟩:∃ R, R = Go.Sort.partition lt d a (e1 + 1) p:=⟨_, rfl⟩
 rw [← hR]
 have hR':=hR
 unfold Go.Sort.partition at hR'
 have hDs:=zbv d a p
 refine ZR ?_;refine Zav ?_;refine qg (id:=1) [(200019, [900]), (200023, [900]), (100024, [900]), (100025, [900])] mixed (by kernel_rfl) ?_;refine ZcP ?_;refine Zn ?_;refine qn (qq L (q:=900) rfl rfl rfl rfl rfl qj) rfl rfl ?_;refine Zn ?_;refine qn (qq L (q:=900) rfl rfl rfl rfl rfl qi) rfl rfl ?_;refine Zl ?_;refine zah (yz L (q:=900) rfl rfl rfl rfl rfl rfl b1 rfl s1) rfl ?_;refine Zl ?_;refine zah (yz L (q:=900) rfl rfl rfl rfl rfl rfl b2 rfl s2) rfl ?_;refine ZbB ?_;refine ZG ?_;refine ZZ ?_;refine Zal ?_;refine Zav ?_;refine qh ?_
 generalize swp d a p = D at *
 rw [Nat.add_sub_cancel] at hR'
 dsimp only at hR'
 refine zhs (zd6 (fun i:Nat => [(0, .is (.slice (some ⟨b, 0, none⟩) m cap)), (1, .is (.int .i64 a)), (10, .is (.int .i64 i)), (11, .is (.int .i64 e1)), (900, .own (zan b (uC D ++ rest) tyU))]) (fun i => (a + 1) ≤ i ∧ i ≤ max (a + 1) (e1 + 1) ∧ i = scanUp (fun x => lt x D[a]!) D e1 (a + 1)) (fun _ => []) ?_) ?_
 rotate_left
 ·refine zal (fun i:Nat => [(0, .is (.slice (some ⟨b, 0, none⟩) m cap)), (1, .is (.int .i64 a)), (10, .is (.int .i64 i)), (11, .is (.int .i64 e1)), (900, .own (zan b (uC D ++ rest) tyU))]) (fun i => (a + 1) ≤ i ∧ i ≤ max (a + 1) (e1 + 1) ∧ scanUp (fun x => lt x D[a]!) D e1 i = scanUp (fun x => lt x D[a]!) D e1 (a + 1)) (fun i => e1 + 1 - i) (a + 1) ⟨Nat.le_refl _, by omega, rfl⟩ ⟨rfl, rfl, rfl, rfl, rfl, trivial⟩ ?_
  rintro i ⟨hi1, hi2, hi3⟩
  by_cases hle:i ≤ e1
  ·obtain ⟨_, qx⟩:=zdb (rest:=rest) (show i < D.size by omega) (0 + (i) * 1) rfl
   obtain ⟨_, qa⟩:=zdb (rest:=rest) (show a < D.size by omega) (0 + (a) * 1) rfl
   cases hc:lt D[i]! D[a]! with
   | true =>
    have hw:IntKind.i64.wrap ((i:Int) + 1) = ((i + 1:Nat):Int):=zaa (by omega) (by omega)
    refine Zc ?_;refine qg (id:=3) [(200037, [900]), (200041, [900])] mixed (by kernel_rfl) ?_;refine Zdu ?_;refine qn (qq L (q:=900) rfl rfl rfl rfl rfl qx) rfl rfl ?_;refine Zn ?_;refine qn (qq L (q:=900) rfl rfl rfl rfl rfl qa) rfl rfl ?_;refine z8 (zp L rfl rfl (zk rfl) rfl rfl rfl (fun u H hH _ _ => zbg hc hH)) rfl ?_;refine Zb9 ?_;refine ZaB ?_;refine qh ?_;refine Zdv ?_;refine yc ?_
    exact yi (x:=i) (i + 1) ⟨by omega, by omega, by rw [← hi3]; exact (zj5 hle (by simp [hc])).symm⟩ (by omega) ⟨rfl, rfl, rfl, rfl, rfl, trivial⟩
   | false =>
    refine Zc ?_;refine qg (id:=3) [(200037, [900]), (200041, [900])] mixed (by kernel_rfl) ?_;refine Zdu ?_;refine qn (qq L (q:=900) rfl rfl rfl rfl rfl qx) rfl rfl ?_;refine Zn ?_;refine qn (qq L (q:=900) rfl rfl rfl rfl rfl qa) rfl rfl ?_;refine z8 (zp L rfl rfl (zk rfl) rfl rfl rfl (fun u H hH _ _ => zbg hc hH)) rfl ?_;refine Zbj ?_
    exact za7 i Since.refl ⟨hi1, hi2, by rw [← hi3]; exact (zdm (by rintro ⟨_, h⟩; simp [hc] at h)).symm⟩ rfl ⟨rfl, rfl, rfl, rfl, rfl, trivial⟩
  ·refine Zc ?_;refine Ze0 ?_;refine Zi ?_;refine ZeN ?_;refine Ze2 ?_;refine ZaM ?_;refine Zbj ?_
   exact za7 i Since.refl ⟨hi1, hi2, by rw [← hi3]; exact (zdm (by rintro ⟨h, _⟩; exact hle h)).symm⟩ rfl ⟨rfl, rfl, rfl, rfl, rfl, trivial⟩
 rintro I ⟨hI1, hI2, hI3⟩
 refine zh (qh ?_)
 refine zhs (zd6 (fun i:Nat => [(0, .is (.slice (some ⟨b, 0, none⟩) m cap)), (1, .is (.int .i64 a)), (10, .is (.int .i64 I)), (11, .is (.int .i64 i)), (900, .own (zan b (uC D ++ rest) tyU))]) (fun i => i ≤ e1 ∧ min (I - 1) e1 ≤ i ∧ i = scanDown (fun x => !lt x D[a]!) D I e1) (fun _ => []) ?_) ?_
 rotate_left
 ·refine zal (fun i:Nat => [(0, .is (.slice (some ⟨b, 0, none⟩) m cap)), (1, .is (.int .i64 a)), (10, .is (.int .i64 I)), (11, .is (.int .i64 i)), (900, .own (zan b (uC D ++ rest) tyU))]) (fun i => i ≤ e1 ∧ min (I - 1) e1 ≤ i ∧ scanDown (fun x => !lt x D[a]!) D I i = scanDown (fun x => !lt x D[a]!) D I e1) (fun i => i) e1 ⟨Nat.le_refl _, by omega, rfl⟩ ⟨rfl, rfl, rfl, rfl, rfl, trivial⟩ ?_
  rintro i ⟨hi1, hi2, hi3⟩
  by_cases hle:I ≤ i
  ·obtain ⟨_, qx⟩:=zdb (rest:=rest) (show i < D.size by omega) (0 + (i) * 1) rfl
   obtain ⟨_, qa⟩:=zdb (rest:=rest) (show a < D.size by omega) (0 + (a) * 1) rfl
   cases hc:lt D[i]! D[a]! with
   | false =>
    obtain ⟨i, rfl⟩:∃ k, i = k + 1:=⟨i - 1, by omega⟩
    have hw:IntKind.i64.wrap (((i + 1:Nat):Int) - 1) = (i:Int):=zaa (by omega) (by omega) |>.trans (by omega)
    refine Zc ?_;refine ZfX ?_;refine Zdu ?_;refine qn (qq L (q:=900) rfl rfl rfl rfl rfl qx) rfl rfl ?_;refine Zn ?_;refine qn (qq L (q:=900) rfl rfl rfl rfl rfl qa) rfl rfl ?_;refine z8 (zp L rfl rfl (zk rfl) rfl rfl rfl (fun u H hH _ _ => zbg hc hH)) rfl ?_;refine ZI ?_;refine Zb9 ?_;refine ZaB ?_;refine qh ?_;refine ZD ?_;refine Za7 ?_;refine Za3 ?_
    exact yi (x:=i + 1) i ⟨by omega, by omega, by rw [← hi3]; exact (zgw hle (by simp [hc])).symm⟩ (by omega) ⟨rfl, rfl, rfl, rfl, rfl, trivial⟩
   | true =>
    refine Zc ?_;refine ZfX ?_;refine Zdu ?_;refine qn (qq L (q:=900) rfl rfl rfl rfl rfl qx) rfl rfl ?_;refine Zn ?_;refine qn (qq L (q:=900) rfl rfl rfl rfl rfl qa) rfl rfl ?_;refine z8 (zp L rfl rfl (zk rfl) rfl rfl rfl (fun u H hH _ _ => zbg hc hH)) rfl ?_;refine ZI ?_;refine Zbj ?_
    exact za7 i Since.refl ⟨hi1, hi2, by rw [← hi3]; exact (zct (by rintro ⟨_, h⟩; simp [hc] at h)).symm⟩ rfl ⟨rfl, rfl, rfl, rfl, rfl, trivial⟩
  ·refine Zc ?_;refine Zfa ?_;refine Zi ?_;refine ZeN ?_;refine Zcb ?_;refine Zbj ?_
   exact za7 i Since.refl ⟨hi1, hi2, by rw [← hi3]; exact (zct (by rintro ⟨h, _⟩; exact hle h)).symm⟩ rfl ⟨rfl, rfl, rfl, rfl, rfl, trivial⟩
 rintro J ⟨hJ1, hJ2, hJ3⟩
 rw [← hI3, ← hJ3] at hR'
 by_cases hIJ:J < I
 ·rw [if_pos hIJ] at hR'
  subst hR'
  obtain ⟨_, qj⟩:=zdb (rest:=rest) (show a < D.size by omega) (0 + (a) * 1) rfl
  obtain ⟨_, qi⟩:=zdb (rest:=rest) (show J < D.size by omega) (0 + (J) * 1) rfl
  have s1:=zcj (rest:=rest) D[a]! (show J < D.size by omega) (0 + (J) * 1) rfl
  have b1:=zck (rest:=rest) (show J < D.size by omega) (0 + (J) * 1) rfl
  have hz:a < (D.setIfInBounds (J) D[a]!).size:=by rw [Array.size_setIfInBounds]; omega
  have s2:=zcj (rest:=rest) D[J]! hz (0 + (a) * 1) rfl
  have b2:=zck (rest:=rest) hz (0 + (a) * 1) rfl
  rw [zdj] at s2
  refine Zc ?_;refine ZcM ?_;refine ZC ?_;refine Z0 ?_;refine qg (id:=8) [(200073, [900]), (200077, [900]), (100078, [900]), (100079, [900])] mixed (by kernel_rfl) ?_;refine ZcP ?_;refine Zn ?_;refine qn (qq L (q:=900) rfl rfl rfl rfl rfl qj) rfl rfl ?_;refine Zn ?_;refine qn (qq L (q:=900) rfl rfl rfl rfl rfl qi) rfl rfl ?_;refine Zl ?_;refine zah (yz L (q:=900) rfl rfl rfl rfl rfl rfl b1 rfl s1) rfl ?_;refine Zl ?_;refine zah (yz L (q:=900) rfl rfl rfl rfl rfl rfl b2 rfl s2) rfl ?_;refine ZbB ?_;refine Zcu ?_;refine Zk ?_
  exact zgf L 900 (r:=zab b _ tyU) (rs:=[.tmp 8, .tmp 9]) rfl (fun _ _ h => h) Since.refl rfl rfl (fun _ => rfl)
 ·rw [if_neg hIJ] at hR'
  have hw3:IntKind.i64.wrap ((I:Int) + 1) = ((I + 1:Nat):Int):=zaa (by omega) (by omega)
  have hw4:IntKind.i64.wrap ((J:Int) - 1) = ((J - 1:Nat):Int):=zaa (by omega) (by omega) |>.trans (by omega)
  obtain ⟨_, qj⟩:=zdb (rest:=rest) (show J < D.size by omega) (0 + (J) * 1) rfl
  obtain ⟨_, qi⟩:=zdb (rest:=rest) (show I < D.size by omega) (0 + (I) * 1) rfl
  have s1:=zcj (rest:=rest) D[J]! (show I < D.size by omega) (0 + (I) * 1) rfl
  have b1:=zck (rest:=rest) (show I < D.size by omega) (0 + (I) * 1) rfl
  have hz:J < (D.setIfInBounds (I) D[J]!).size:=by rw [Array.size_setIfInBounds]; omega
  have s2:=zcj (rest:=rest) D[I]! hz (0 + (J) * 1) rfl
  have b2:=zck (rest:=rest) hz (0 + (J) * 1) rfl
  rw [zdj] at s2
  have hEs:=zbv D I J
  refine Zc ?_;refine ZcM ?_;refine Z7 ?_;refine Zx ?_;refine qg (id:=10) [(200088, [900]), (200092, [900]), (100093, [900]), (100094, [900])] mixed (by kernel_rfl) ?_;refine ZcP ?_;refine Zn ?_;refine qn (qq L (q:=900) rfl rfl rfl rfl rfl qj) rfl rfl ?_;refine Zn ?_;refine qn (qq L (q:=900) rfl rfl rfl rfl rfl qi) rfl rfl ?_;refine Zl ?_;refine zah (yz L (q:=900) rfl rfl rfl rfl rfl rfl b1 rfl s1) rfl ?_;refine Zl ?_;refine zah (yz L (q:=900) rfl rfl rfl rfl rfl rfl b2 rfl s2) rfl ?_;refine ZbB ?_;refine Zb5 ?_;refine ZZ ?_;refine Ze ?_;refine ZQ ?_;refine Zal ?_;refine Ze ?_;refine qh ?_
  generalize swp D I J = E at *
  obtain ⟨X, hX⟩:∃ X, X = partLoop lt a (I + 1) (J - 1) E:=⟨_, rfl⟩
  rw [← hX] at hR'
  refine zhs (zd6 (fun s:Nat × Array Int => [(0, .is (.slice (some ⟨b, 0, none⟩) m cap)), (1, .is (.int .i64 a)), (11, .is (.int .i64 s.1)), (900, .own (zan b (uC s.2 ++ rest) tyU))]) (fun s => s.2.size = m ∧ a ≤ s.1 ∧ s.1 ≤ e1 ∧ s = X) (fun _ => []) ?_) ?_
  rotate_left
  ·refine zal (fun s:(Nat × Nat) × Array Int => [(0, .is (.slice (some ⟨b, 0, none⟩) m cap)), (1, .is (.int .i64 a)), (10, .is (.int .i64 s.1.1)), (11, .is (.int .i64 s.1.2)), (900, .own (zan b (uC s.2 ++ rest) tyU))]) (fun s => s.2.size = m ∧ a + 1 ≤ s.1.1 ∧ s.1.1 ≤ e1 + 1 ∧ a ≤ s.1.2 ∧ s.1.2 ≤ e1 ∧ partLoop lt a s.1.1 s.1.2 s.2 = X) (fun s => s.1.2 + 1 - s.1.1) ((I + 1, J - 1), E) ⟨by dsimp only; omega, by dsimp only; omega, by dsimp only; omega, by dsimp only; omega, by dsimp only; omega, hX.symm⟩ ⟨rfl, rfl, rfl, rfl, rfl, trivial⟩ ?_
   rintro ⟨⟨i0, j0⟩, G⟩ ⟨hG, hi1, hi2, hj1, hj2, hL⟩
   dsimp only at hG hi1 hi2 hj1 hj2 hL ⊢
   rw [partLoop] at hL
   clear hX hR' hEs hIJ hI3 hJ3
   refine qh (zh (qh ?_))
   refine zhs (zd6 (fun i:Nat => [(0, .is (.slice (some ⟨b, 0, none⟩) m cap)), (1, .is (.int .i64 a)), (10, .is (.int .i64 i)), (11, .is (.int .i64 j0)), (900, .own (zan b (uC G ++ rest) tyU))]) (fun i => i0 ≤ i ∧ i ≤ max i0 (j0 + 1) ∧ i = scanUp (fun x => lt x G[a]!) G j0 i0) (fun _ => []) ?_) ?_
   rotate_left
   ·refine zal (fun i:Nat => [(0, .is (.slice (some ⟨b, 0, none⟩) m cap)), (1, .is (.int .i64 a)), (10, .is (.int .i64 i)), (11, .is (.int .i64 j0)), (900, .own (zan b (uC G ++ rest) tyU))]) (fun i => i0 ≤ i ∧ i ≤ max i0 (j0 + 1) ∧ scanUp (fun x => lt x G[a]!) G j0 i = scanUp (fun x => lt x G[a]!) G j0 i0) (fun i => j0 + 1 - i) i0 ⟨Nat.le_refl _, by omega, rfl⟩ ⟨rfl, rfl, rfl, rfl, rfl, trivial⟩ ?_
    rintro i ⟨hi1, hi2, hi3⟩
    by_cases hle:i ≤ j0
    ·obtain ⟨_, qx⟩:=zdb (rest:=rest) (show i < G.size by omega) (0 + (i) * 1) rfl
     obtain ⟨_, qa⟩:=zdb (rest:=rest) (show a < G.size by omega) (0 + (a) * 1) rfl
     cases hc:lt G[i]! G[a]! with
     | true =>
      have hw:IntKind.i64.wrap ((i:Int) + 1) = ((i + 1:Nat):Int):=zaa (by omega) (by omega)
      refine Zc ?_;refine qg (id:=13) [(200106, [900]), (200110, [900])] mixed (by kernel_rfl) ?_;refine Zdu ?_;refine qn (qq L (q:=900) rfl rfl rfl rfl rfl qx) rfl rfl ?_;refine Zn ?_;refine qn (qq L (q:=900) rfl rfl rfl rfl rfl qa) rfl rfl ?_;refine z8 (zp L rfl rfl (zk rfl) rfl rfl rfl (fun u H hH _ _ => zbg hc hH)) rfl ?_;refine Zb9 ?_;refine ZaB ?_;refine qh ?_;refine Zem ?_;refine Zam ?_;refine yc ?_
      exact yi (x:=i) (i + 1) ⟨by omega, by omega, by rw [← hi3]; exact (zj5 hle (by simp [hc])).symm⟩ (by omega) ⟨rfl, rfl, rfl, rfl, rfl, trivial⟩
     | false =>
      refine Zc ?_;refine qg (id:=13) [(200106, [900]), (200110, [900])] mixed (by kernel_rfl) ?_;refine Zdu ?_;refine qn (qq L (q:=900) rfl rfl rfl rfl rfl qx) rfl rfl ?_;refine Zn ?_;refine qn (qq L (q:=900) rfl rfl rfl rfl rfl qa) rfl rfl ?_;refine z8 (zp L rfl rfl (zk rfl) rfl rfl rfl (fun u H hH _ _ => zbg hc hH)) rfl ?_;refine Zbj ?_
      exact za7 i Since.refl ⟨hi1, hi2, by rw [← hi3]; exact (zdm (by rintro ⟨_, h⟩; simp [hc] at h)).symm⟩ rfl ⟨rfl, rfl, rfl, rfl, rfl, trivial⟩
    ·refine Zc ?_;refine Zfg ?_;refine Zi ?_;refine ZeN ?_;refine Ze2 ?_;refine ZaM ?_;refine Zbj ?_
     exact za7 i Since.refl ⟨hi1, hi2, by rw [← hi3]; exact (zdm (by rintro ⟨h, _⟩; exact hle h)).symm⟩ rfl ⟨rfl, rfl, rfl, rfl, rfl, trivial⟩
   rintro K ⟨hK1, hK2, hK3⟩
   refine zh (qh ?_)
   refine zhs (zd6 (fun i:Nat => [(0, .is (.slice (some ⟨b, 0, none⟩) m cap)), (1, .is (.int .i64 a)), (10, .is (.int .i64 K)), (11, .is (.int .i64 i)), (900, .own (zan b (uC G ++ rest) tyU))]) (fun i => i ≤ j0 ∧ min (K - 1) j0 ≤ i ∧ i = scanDown (fun x => !lt x G[a]!) G K j0) (fun _ => []) ?_) ?_
   rotate_left
   ·refine zal (fun i:Nat => [(0, .is (.slice (some ⟨b, 0, none⟩) m cap)), (1, .is (.int .i64 a)), (10, .is (.int .i64 K)), (11, .is (.int .i64 i)), (900, .own (zan b (uC G ++ rest) tyU))]) (fun i => i ≤ j0 ∧ min (K - 1) j0 ≤ i ∧ scanDown (fun x => !lt x G[a]!) G K i = scanDown (fun x => !lt x G[a]!) G K j0) (fun i => i) j0 ⟨Nat.le_refl _, by omega, rfl⟩ ⟨rfl, rfl, rfl, rfl, rfl, trivial⟩ ?_
    rintro i ⟨hi1, hi2, hi3⟩
    by_cases hle:K ≤ i
    ·obtain ⟨_, qx⟩:=zdb (rest:=rest) (show i < G.size by omega) (0 + (i) * 1) rfl
     obtain ⟨_, qa⟩:=zdb (rest:=rest) (show a < G.size by omega) (0 + (a) * 1) rfl
     cases hc:lt G[i]! G[a]! with
     | false =>
      obtain ⟨i, rfl⟩:∃ k, i = k + 1:=⟨i - 1, by omega⟩
      have hw:IntKind.i64.wrap (((i + 1:Nat):Int) - 1) = (i:Int):=zaa (by omega) (by omega) |>.trans (by omega)
      refine Zc ?_;refine qg (id:=15) [(200122, [900]), (200126, [900])] mixed (by kernel_rfl) ?_;refine Zdu ?_;refine qn (qq L (q:=900) rfl rfl rfl rfl rfl qx) rfl rfl ?_;refine Zn ?_;refine qn (qq L (q:=900) rfl rfl rfl rfl rfl qa) rfl rfl ?_;refine z8 (zp L rfl rfl (zk rfl) rfl rfl rfl (fun u H hH _ _ => zbg hc hH)) rfl ?_;refine ZI ?_;refine Zb9 ?_;refine ZaB ?_;refine qh ?_;refine Zap ?_;refine Zal ?_;refine Za3 ?_
      exact yi (x:=i + 1) i ⟨by omega, by omega, by rw [← hi3]; exact (zgw hle (by simp [hc])).symm⟩ (by omega) ⟨rfl, rfl, rfl, rfl, rfl, trivial⟩
     | true =>
      refine Zc ?_;refine qg (id:=15) [(200122, [900]), (200126, [900])] mixed (by kernel_rfl) ?_;refine Zdu ?_;refine qn (qq L (q:=900) rfl rfl rfl rfl rfl qx) rfl rfl ?_;refine Zn ?_;refine qn (qq L (q:=900) rfl rfl rfl rfl rfl qa) rfl rfl ?_;refine z8 (zp L rfl rfl (zk rfl) rfl rfl rfl (fun u H hH _ _ => zbg hc hH)) rfl ?_;refine ZI ?_;refine Zbj ?_
      exact za7 i Since.refl ⟨hi1, hi2, by rw [← hi3]; exact (zct (by rintro ⟨_, h⟩; simp [hc] at h)).symm⟩ rfl ⟨rfl, rfl, rfl, rfl, rfl, trivial⟩
    ·refine Zc ?_;refine qg (id:=15) [] mixed (by kernel_rfl) ?_;refine Zi ?_;refine ZeN ?_;refine Zcb ?_;refine Zbj ?_
     exact za7 i Since.refl ⟨hi1, hi2, by rw [← hi3]; exact (zct (by rintro ⟨h, _⟩; exact hle h)).symm⟩ rfl ⟨rfl, rfl, rfl, rfl, rfl, trivial⟩
   rintro M ⟨hM1, hM2, hM3⟩
   rw [← hK3, ← hM3] at hL
   by_cases hKM:M < K
   ·rw [if_pos hKM] at hL
    refine Zc ?_;refine Zca ?_;refine Zd ?_;refine ZC ?_;refine ZW ?_;refine ZeD ?_;refine zk8 rfl ?_;refine y8 ?_;refine yt ?_
    exact za7 (M, G) Since.refl ⟨hG, by dsimp only; omega, by dsimp only; omega, hL⟩ rfl ⟨rfl, rfl, rfl, rfl, trivial⟩
   ·rw [if_neg hKM, dif_pos (by omega)] at hL
    have hw5:IntKind.i64.wrap ((K:Int) + 1) = ((K + 1:Nat):Int):=zaa (by omega) (by omega)
    have hw6:IntKind.i64.wrap ((M:Int) - 1) = ((M - 1:Nat):Int):=zaa (by omega) (by omega) |>.trans (by omega)
    have hGs:=zbv G K M
    obtain ⟨_, qj⟩:=zdb (rest:=rest) (show M < G.size by omega) (0 + (M) * 1) rfl
    obtain ⟨_, qi⟩:=zdb (rest:=rest) (show K < G.size by omega) (0 + (K) * 1) rfl
    have s1:=zcj (rest:=rest) G[M]! (show K < G.size by omega) (0 + (K) * 1) rfl
    have b1:=zck (rest:=rest) (show K < G.size by omega) (0 + (K) * 1) rfl
    have hz:M < (G.setIfInBounds (K) G[M]!).size:=by rw [Array.size_setIfInBounds]; omega
    have s2:=zcj (rest:=rest) G[K]! hz (0 + (M) * 1) rfl
    have b2:=zck (rest:=rest) hz (0 + (M) * 1) rfl
    rw [zdj] at s2
    refine Zc ?_;refine Zca ?_;refine Zd ?_;refine Z7 ?_;refine Zx ?_;refine qg (id:=18) [(200142, [900]), (200146, [900]), (100147, [900]), (100148, [900])] mixed (by kernel_rfl) ?_;refine ZcP ?_;refine Zn ?_;refine qn (qq L (q:=900) rfl rfl rfl rfl rfl qj) rfl rfl ?_;refine Zn ?_;refine qn (qq L (q:=900) rfl rfl rfl rfl rfl qi) rfl rfl ?_;refine Zl ?_;refine zah (yz L (q:=900) rfl rfl rfl rfl rfl rfl b1 rfl s1) rfl ?_;refine Zl ?_;refine zah (yz L (q:=900) rfl rfl rfl rfl rfl rfl b2 rfl s2) rfl ?_;refine ZbB ?_;refine ZbA ?_;refine Za ?_;refine ZZ ?_;refine Zb ?_;refine ZaP ?_;refine Zal ?_;refine Za3 ?_
    exact yi (x:=((i0, j0), G)) ((K + 1, M - 1), swp G K M) ⟨by dsimp only; omega, by dsimp only; omega, by dsimp only; omega, by dsimp only; omega, by dsimp only; omega, hL⟩ (by dsimp only; omega) ⟨rfl, rfl, rfl, rfl, rfl, trivial⟩
  ·rintro ⟨J2, G⟩ ⟨hG, hj1, hj2, hL⟩
   dsimp only at hG hj1 hj2 ⊢
   rw [← hL] at hR'
   dsimp only at hR'
   subst hR'
   obtain ⟨_, qj⟩:=zdb (rest:=rest) (show a < G.size by omega) (0 + (a) * 1) rfl
   obtain ⟨_, qi⟩:=zdb (rest:=rest) (show J2 < G.size by omega) (0 + (J2) * 1) rfl
   have s1:=zcj (rest:=rest) G[a]! (show J2 < G.size by omega) (0 + (J2) * 1) rfl
   have b1:=zck (rest:=rest) (show J2 < G.size by omega) (0 + (J2) * 1) rfl
   have hz:a < (G.setIfInBounds (J2) G[a]!).size:=by rw [Array.size_setIfInBounds]; omega
   have s2:=zcj (rest:=rest) G[J2]! hz (0 + (a) * 1) rfl
   have b2:=zck (rest:=rest) hz (0 + (a) * 1) rfl
   rw [zdj] at s2
   refine zh ?_;refine qg (id:=21) [(200160, [900]), (200164, [900]), (100165, [900]), (100166, [900])] mixed (by kernel_rfl) ?_;refine ZcP ?_;refine Zn ?_;refine qn (qq L (q:=900) rfl rfl rfl rfl rfl qj) rfl rfl ?_;refine Zn ?_;refine qn (qq L (q:=900) rfl rfl rfl rfl rfl qi) rfl rfl ?_;refine Zl ?_;refine zah (yz L (q:=900) rfl rfl rfl rfl rfl rfl b1 rfl s1) rfl ?_;refine Zl ?_;refine zah (yz L (q:=900) rfl rfl rfl rfl rfl rfl b2 rfl s2) rfl ?_;refine ZbB ?_;refine ZbN ?_;refine Za ?_;refine Zk ?_
   exact zgf L 900 (r:=zab b _ tyU) (rs:=[.tmp 8, .tmp 9]) rfl (fun _ _ h => h) Since.refl rfl rfl (fun _ => rfl)
end Go.V.So
set_option maxRecDepth 20000
namespace Go.V.So
open Go.Proofs Go.RowKit Go.V Go.Sort
attribute [local irreducible] V N X VO Par StepOK Has Ret RetL RetO zcd zd2 Src
set_option maxHeartbeats 2000000 in
set_option maxRecDepth 20000 in
theorem z1w {d:Array Int} {rest:List Value} {b m cap a e p:Nat} (hap:a ≤ p) (hpe:p < e) (he:e ≤ d.size) (hm:d.size = m) (hm1:m ≤ 100000) {w:World} {B:Heap} {C:Nat → Prop} (hB:B.Le (hp w))
  (hr:(zab b (uC d ++ rest) tyU).P B w C) (hC:∀ k, C k → k < w.heap.size ∧ B k = none) :
  zd2 Tryz.prog 108 [.slice (some ⟨b, 0, none⟩) m cap, .int .i64 a, .int .i64 e, .int .i64 p] w B C (zab b (uC (partitionEqual lt d a e p).2 ++ rest) tyU) (.int .i64 (partitionEqual lt d a e p).1):=by
 unfold zd2
 refine zau 900 (zab b (uC d ++ rest) tyU) Tryz.func108 rfl Tryz.ntmps108 (Nat.le_of_ble_eq_true rfl) hB hr hC ?_
 rw [za6]
 obtain ⟨_, qj⟩:=zdb (rest:=rest) (show p < d.size by omega) (0 + (p) * 1) rfl
 obtain ⟨_, qi⟩:=zdb (rest:=rest) (show a < d.size by omega) (0 + (a) * 1) rfl
 have s1:=zcj (rest:=rest) d[p]! (show a < d.size by omega) (0 + (a) * 1) rfl
 have b1:=zck (rest:=rest) (show a < d.size by omega) (0 + (a) * 1) rfl
 have hz:p < (d.setIfInBounds (a) d[p]!).size:=by rw [Array.size_setIfInBounds]; omega
 have s2:=zcj (rest:=rest) d[a]! hz (0 + (p) * 1) rfl
 have b2:=zck (rest:=rest) hz (0 + (p) * 1) rfl
 rw [zdj] at s2
 have hw1:IntKind.i64.wrap ((a:Int) + 1) = ((a + 1:Nat):Int):=zaa (by omega) (by omega)
 obtain ⟨e1, rfl⟩:∃ e1, e = e1 + 1:=⟨e - 1, by omega⟩
 have hw2:IntKind.i64.wrap (((e1 + 1:Nat):Int) - 1) = (e1:Int):=zaa (by omega) (by omega) |>.trans (by omega)
 obtain ⟨X, hX⟩:∃ X, X = partitionEqual lt d a (e1 + 1) p:=⟨_, rfl⟩
 rw [← hX]
 have hR':=hX
 unfold partitionEqual at hR'
 rw [Nat.add_sub_cancel] at hR'
 have hDs:=zbv d a p
 refine ZR ?_;refine Ze ?_;refine qg (id:=1) [(200018, [900]), (200022, [900]), (100023, [900]), (100024, [900])] mixed (by kernel_rfl) ?_;refine ZcP ?_;refine Zn ?_;refine qn (qq L (q:=900) rfl rfl rfl rfl rfl qj) rfl rfl ?_;refine Zn ?_;refine qn (qq L (q:=900) rfl rfl rfl rfl rfl qi) rfl rfl ?_;refine Zl ?_;refine zah (yz L (q:=900) rfl rfl rfl rfl rfl rfl b1 rfl s1) rfl ?_;refine Zl ?_;refine zah (yz L (q:=900) rfl rfl rfl rfl rfl rfl b2 rfl s2) rfl ?_;refine ZbB ?_;refine ZG ?_;refine ZZ ?_;refine Zal ?_;refine Zav ?_;refine qh ?_
 generalize swp d a p = D at *
 refine zhs (zd6 (fun s:Nat × Array Int => [(9, .is (.int .i64 s.1)), (900, .own (zan b (uC s.2 ++ rest) tyU))]) (fun s => s.2.size = m ∧ s = X) (fun _ => []) ?_) ?_
 rotate_left
 ·refine zal (fun s:(Nat × Nat) × Array Int => [(0, .is (.slice (some ⟨b, 0, none⟩) m cap)), (1, .is (.int .i64 a)), (9, .is (.int .i64 s.1.1)), (10, .is (.int .i64 s.1.2)), (900, .own (zan b (uC s.2 ++ rest) tyU))]) (fun s => s.2.size = m ∧ a + 1 ≤ s.1.1 ∧ s.1.1 ≤ e1 + 1 ∧ a ≤ s.1.2 ∧ s.1.2 ≤ e1 ∧ partEqLoop lt a s.1.1 s.1.2 s.2 = X) (fun s => s.1.2 + 1 - s.1.1) ((a + 1, e1), D) ⟨by dsimp only; omega, by dsimp only; omega, by dsimp only; omega, by dsimp only; omega, by dsimp only; omega, hR'.symm⟩ ⟨rfl, rfl, rfl, rfl, rfl, trivial⟩ ?_
  rintro ⟨⟨i0, j0⟩, G⟩ ⟨hG, hi1, hi2, hj1, hj2, hL⟩
  dsimp only at hG hi1 hi2 hj1 hj2 hL ⊢
  rw [partEqLoop] at hL
  clear hX hR' hDs
  refine qh (zh (qh ?_))
  refine zhs (zd6 (fun i:Nat => [(0, .is (.slice (some ⟨b, 0, none⟩) m cap)), (1, .is (.int .i64 a)), (9, .is (.int .i64 i)), (10, .is (.int .i64 j0)), (900, .own (zan b (uC G ++ rest) tyU))]) (fun i => i0 ≤ i ∧ i ≤ max i0 (j0 + 1) ∧ i = scanUp (fun x => !lt G[a]! x) G j0 i0) (fun _ => []) ?_) ?_
  rotate_left
  ·refine zal (fun i:Nat => [(0, .is (.slice (some ⟨b, 0, none⟩) m cap)), (1, .is (.int .i64 a)), (9, .is (.int .i64 i)), (10, .is (.int .i64 j0)), (900, .own (zan b (uC G ++ rest) tyU))]) (fun i => i0 ≤ i ∧ i ≤ max i0 (j0 + 1) ∧ scanUp (fun x => !lt G[a]! x) G j0 i = scanUp (fun x => !lt G[a]! x) G j0 i0) (fun i => j0 + 1 - i) i0 ⟨Nat.le_refl _, by omega, rfl⟩ ⟨rfl, rfl, rfl, rfl, rfl, trivial⟩ ?_
   rintro i ⟨hi1, hi2, hi3⟩
   by_cases hle:i ≤ j0
   ·obtain ⟨_, qx⟩:=zdb (rest:=rest) (show i < G.size by omega) (0 + (i) * 1) rfl
    obtain ⟨_, qa⟩:=zdb (rest:=rest) (show a < G.size by omega) (0 + (a) * 1) rfl
    cases hc:lt G[a]! G[i]! with
    | false =>
     have hw:IntKind.i64.wrap ((i:Int) + 1) = ((i + 1:Nat):Int):=zaa (by omega) (by omega)
     refine Zc ?_;refine qg (id:=3) [(200036, [900]), (200040, [900])] mixed (by kernel_rfl) ?_;refine Zdu ?_;refine qn (qq L (q:=900) rfl rfl rfl rfl rfl qa) rfl rfl ?_;refine Zn ?_;refine qn (qq L (q:=900) rfl rfl rfl rfl rfl qx) rfl rfl ?_;refine z8 (zp L rfl rfl (zk rfl) rfl rfl rfl (fun u H hH _ _ => zbg hc hH)) rfl ?_;refine ZI ?_;refine Zb9 ?_;refine ZaB ?_;refine qh ?_;refine Zdv ?_;refine yc ?_
     exact yi (x:=i) (i + 1) ⟨by omega, by omega, by rw [← hi3]; exact (zj5 hle (by simp [hc])).symm⟩ (by omega) ⟨rfl, rfl, rfl, rfl, rfl, trivial⟩
    | true =>
     refine Zc ?_;refine qg (id:=3) [(200036, [900]), (200040, [900])] mixed (by kernel_rfl) ?_;refine Zdu ?_;refine qn (qq L (q:=900) rfl rfl rfl rfl rfl qa) rfl rfl ?_;refine Zn ?_;refine qn (qq L (q:=900) rfl rfl rfl rfl rfl qx) rfl rfl ?_;refine z8 (zp L rfl rfl (zk rfl) rfl rfl rfl (fun u H hH _ _ => zbg hc hH)) rfl ?_;refine ZI ?_;refine Zbj ?_
     exact za7 i Since.refl ⟨hi1, hi2, by rw [← hi3]; exact (zdm (by rintro ⟨_, h⟩; simp [hc] at h)).symm⟩ rfl ⟨rfl, rfl, rfl, rfl, rfl, trivial⟩
   ·refine Zc ?_;refine Ze0 ?_;refine Zi ?_;refine ZeN ?_;refine Zcb ?_;refine Zbj ?_
    exact za7 i Since.refl ⟨hi1, hi2, by rw [← hi3]; exact (zdm (by rintro ⟨h, _⟩; exact hle h)).symm⟩ rfl ⟨rfl, rfl, rfl, rfl, rfl, trivial⟩
  rintro K ⟨hK1, hK2, hK3⟩
  refine zh (qh ?_)
  refine zhs (zd6 (fun i:Nat => [(0, .is (.slice (some ⟨b, 0, none⟩) m cap)), (1, .is (.int .i64 a)), (9, .is (.int .i64 K)), (10, .is (.int .i64 i)), (900, .own (zan b (uC G ++ rest) tyU))]) (fun i => i ≤ j0 ∧ min (K - 1) j0 ≤ i ∧ i = scanDown (fun x => lt G[a]! x) G K j0) (fun _ => []) ?_) ?_
  rotate_left
  ·refine zal (fun i:Nat => [(0, .is (.slice (some ⟨b, 0, none⟩) m cap)), (1, .is (.int .i64 a)), (9, .is (.int .i64 K)), (10, .is (.int .i64 i)), (900, .own (zan b (uC G ++ rest) tyU))]) (fun i => i ≤ j0 ∧ min (K - 1) j0 ≤ i ∧ scanDown (fun x => lt G[a]! x) G K i = scanDown (fun x => lt G[a]! x) G K j0) (fun i => i) j0 ⟨Nat.le_refl _, by omega, rfl⟩ ⟨rfl, rfl, rfl, rfl, rfl, trivial⟩ ?_
   rintro i ⟨hi1, hi2, hi3⟩
   by_cases hle:K ≤ i
   ·obtain ⟨_, qx⟩:=zdb (rest:=rest) (show i < G.size by omega) (0 + (i) * 1) rfl
    obtain ⟨_, qa⟩:=zdb (rest:=rest) (show a < G.size by omega) (0 + (a) * 1) rfl
    cases hc:lt G[a]! G[i]! with
    | true =>
     obtain ⟨i, rfl⟩:∃ k, i = k + 1:=⟨i - 1, by omega⟩
     have hw:IntKind.i64.wrap (((i + 1:Nat):Int) - 1) = (i:Int):=zaa (by omega) (by omega) |>.trans (by omega)
     refine Zc ?_;refine ZfX ?_;refine Zdu ?_;refine qn (qq L (q:=900) rfl rfl rfl rfl rfl qa) rfl rfl ?_;refine Zn ?_;refine qn (qq L (q:=900) rfl rfl rfl rfl rfl qx) rfl rfl ?_;refine z8 (zp L rfl rfl (zk rfl) rfl rfl rfl (fun u H hH _ _ => zbg hc hH)) rfl ?_;refine Zb9 ?_;refine ZaB ?_;refine qh ?_;refine ZD ?_;refine Za7 ?_;refine Za3 ?_
     exact yi (x:=i + 1) i ⟨by omega, by omega, by rw [← hi3]; exact (zgw hle (by simp [hc])).symm⟩ (by omega) ⟨rfl, rfl, rfl, rfl, rfl, trivial⟩
    | false =>
     refine Zc ?_;refine ZfX ?_;refine Zdu ?_;refine qn (qq L (q:=900) rfl rfl rfl rfl rfl qa) rfl rfl ?_;refine Zn ?_;refine qn (qq L (q:=900) rfl rfl rfl rfl rfl qx) rfl rfl ?_;refine z8 (zp L rfl rfl (zk rfl) rfl rfl rfl (fun u H hH _ _ => zbg hc hH)) rfl ?_;refine Zbj ?_
     exact za7 i Since.refl ⟨hi1, hi2, by rw [← hi3]; exact (zct (by rintro ⟨_, h⟩; simp [hc] at h)).symm⟩ rfl ⟨rfl, rfl, rfl, rfl, rfl, trivial⟩
   ·refine Zc ?_;refine Zfa ?_;refine Zi ?_;refine ZeN ?_;refine Ze2 ?_;refine ZaM ?_;refine Zbj ?_
    exact za7 i Since.refl ⟨hi1, hi2, by rw [← hi3]; exact (zct (by rintro ⟨h, _⟩; exact hle h)).symm⟩ rfl ⟨rfl, rfl, rfl, rfl, rfl, trivial⟩
  rintro M ⟨hM1, hM2, hM3⟩
  rw [← hK3, ← hM3] at hL
  by_cases hKM:M < K
  ·rw [if_pos hKM] at hL
   refine Zc ?_;refine ZcM ?_;refine ZC ?_;refine ZW ?_;refine ZeD ?_;refine zk8 rfl ?_;refine y8 ?_;refine yt ?_
   exact za7 (K, G) Since.refl ⟨hG, hL⟩ rfl ⟨rfl, rfl, trivial⟩
  ·rw [if_neg hKM, dif_pos (by omega)] at hL
   have hw5:IntKind.i64.wrap ((K:Int) + 1) = ((K + 1:Nat):Int):=zaa (by omega) (by omega)
   have hw6:IntKind.i64.wrap ((M:Int) - 1) = ((M - 1:Nat):Int):=zaa (by omega) (by omega) |>.trans (by omega)
   have hGs:=zbv G K M
   obtain ⟨_, qj⟩:=zdb (rest:=rest) (show M < G.size by omega) (0 + (M) * 1) rfl
   obtain ⟨_, qi⟩:=zdb (rest:=rest) (show K < G.size by omega) (0 + (K) * 1) rfl
   have s1:=zcj (rest:=rest) G[M]! (show K < G.size by omega) (0 + (K) * 1) rfl
   have b1:=zck (rest:=rest) (show K < G.size by omega) (0 + (K) * 1) rfl
   have hz:M < (G.setIfInBounds (K) G[M]!).size:=by rw [Array.size_setIfInBounds]; omega
   have s2:=zcj (rest:=rest) G[K]! hz (0 + (M) * 1) rfl
   have b2:=zck (rest:=rest) hz (0 + (M) * 1) rfl
   rw [zdj] at s2
   refine Zc ?_;refine ZcM ?_;refine Z7 ?_;refine Zx ?_;refine qg (id:=8) [(200072, [900]), (200076, [900]), (100077, [900]), (100078, [900])] mixed (by kernel_rfl) ?_;refine ZcP ?_;refine Zn ?_;refine qn (qq L (q:=900) rfl rfl rfl rfl rfl qj) rfl rfl ?_;refine Zn ?_;refine qn (qq L (q:=900) rfl rfl rfl rfl rfl qi) rfl rfl ?_;refine Zl ?_;refine zah (yz L (q:=900) rfl rfl rfl rfl rfl rfl b1 rfl s1) rfl ?_;refine Zl ?_;refine zah (yz L (q:=900) rfl rfl rfl rfl rfl rfl b2 rfl s2) rfl ?_;refine ZbB ?_;refine Zcu ?_;refine ZZ ?_;refine Zb ?_;refine Zag ?_;refine Zal ?_;refine Za3 ?_
   exact yi (x:=((i0, j0), G)) ((K + 1, M - 1), swp G K M) ⟨by dsimp only; omega, by dsimp only; omega, by dsimp only; omega, by dsimp only; omega, by dsimp only; omega, hL⟩ (by dsimp only; omega) ⟨rfl, rfl, rfl, rfl, rfl, trivial⟩
 ·rintro ⟨K, G⟩ ⟨hG, hL⟩
  dsimp only at hG ⊢
  rw [← hL]
  refine zh ?_;refine Zb5 ?_;refine Zb ?_
  exact zgf L 900 (r:=zab b _ tyU) (rs:=[.tmp 8]) rfl (fun _ _ h => h) Since.refl rfl rfl (fun _ => rfl)
end Go.V.So
set_option maxRecDepth 20000
namespace Go.V.So
open Go.Proofs Go.RowKit Go.V Go.Sort
theorem _root_.Go.V.ZeS {A B:Prop} (h:B) (t:Wr B → A:=by intro h; refine zf (id:=21) ?_;exact h.h):A:=t ⟨h⟩
theorem _root_.Go.V.ZcR {A B:Prop} (h:B) (t:Wr B → A:=by intro h; refine ZeS ?_;refine Za ?_;exact h.h):A:=t ⟨h⟩
theorem _root_.Go.V.Zdw {A B:Prop} (h:B) (t:Wr B → A:=by intro h; refine ZaP ?_;refine Zd ?_;exact h.h):A:=t ⟨h⟩
attribute [local irreducible] V N X VO Par StepOK Has Ret RetL RetO zcd zd2 Src
theorem zf4 {d:Array Int} {e i:Nat} (h:¬ (i < e ∧ lt d[i]! d[i - 1]! = false)):scanSorted lt d e i = i:=by
 rw [scanSorted, if_neg]
 simpa using h
theorem zmo {d:Array Int} {e i:Nat} (h1:i < e) (h2:lt d[i]! d[i - 1]! = false):scanSorted lt d e i = scanSorted lt d e (i + 1):=by
 rw [scanSorted, if_pos (by simp [h1, h2])]
set_option maxHeartbeats 2000000 in
set_option maxRecDepth 20000 in
theorem pins_ret {d:Array Int} {rest:List Value} {b m cap a e:Nat} (hab:a < e) (he:e ≤ d.size) (hm:d.size = m) (hm1:m ≤ 100000) {w:World} {B:Heap} {C:Nat → Prop} (hB:B.Le (hp w))
  (hr:(zab b (uC d ++ rest) tyU).P B w C) (hC:∀ k, C k → k < w.heap.size ∧ B k = none) :
  zd2 Tryz.prog 106 [.slice (some ⟨b, 0, none⟩) m cap, .int .i64 a, .int .i64 e] w B C (zab b (uC (partialInsertionSort lt d a e).1 ++ rest) tyU) (.bool (partialInsertionSort lt d a e).2):=by
 unfold zd2
 refine zau 900 (zab b (uC d ++ rest) tyU) Tryz.func106 rfl Tryz.ntmps106 (Nat.le_of_ble_eq_true rfl) hB hr hC ?_
 rw [za6]
 have hw1:IntKind.i64.wrap ((a:Int) + 1) = ((a + 1:Nat):Int):=zaa (by omega) (by omega)
 have hw2:IntKind.i64.wrap ((e:Int) - (a:Int)) = ((e - a:Nat):Int):=zaa (by omega) (by omega) |>.trans (by omega)
 obtain ⟨X, hX⟩:∃ X, X = partialInsertionSort lt d a e:=⟨_, rfl⟩
 rw [← hX]
 unfold partialInsertionSort at hX
 refine ZbW ?_;refine ZZ ?_;refine Zj ?_;refine ZdB ?_
 refine zal (fun s:(Nat × Nat) × Array Int => [(0, .is (.slice (some ⟨b, 0, none⟩) m cap)), (1, .is (.int .i64 a)), (2, .is (.int .i64 e)), (7, .is (.int .i64 s.1.2)), (8, .is (.int .i64 s.1.1)), (900, .own (zan b (uC s.2 ++ rest) tyU))]) (fun s => s.1.1 ≤ 5 ∧ a + 1 ≤ s.1.2 ∧ s.1.2 ≤ e ∧ s.2.size = m ∧ partialIns lt a e (5 - s.1.1) s.1.2 s.2 = X) (fun s => 5 - s.1.1) ((0, a + 1), d) ⟨by dsimp only; omega, by dsimp only; omega, by dsimp only; omega, hm, hX.symm⟩ ⟨rfl, rfl, rfl, rfl, rfl, rfl, trivial⟩ ?_
 rintro ⟨⟨k, i0⟩, D⟩ ⟨hk, hi1, hi2, hD, hL⟩
 dsimp only at hk hi1 hi2 hD hL ⊢
 clear hX
 by_cases hk5:k < 5
 ·obtain ⟨s, hs⟩:∃ s, 5 - k = s + 1:=⟨5 - k - 1, by omega⟩
  have hs':5 - (k + 1) = s:=by omega
  rw [hs, partialIns] at hL
  dsimp only at hL
  refine ZaJ ?_;refine ZbG ?_;refine Zbl ?_;refine qh ?_
  refine zhs (zd6 (fun i:Nat => [(0, .is (.slice (some ⟨b, 0, none⟩) m cap)), (1, .is (.int .i64 a)), (2, .is (.int .i64 e)), (7, .is (.int .i64 i)), (8, .is (.int .i64 k)), (900, .own (zan b (uC D ++ rest) tyU))]) (fun i => a + 1 ≤ i ∧ i ≤ e ∧ i = scanSorted lt D e i0) (fun _ => []) ?_) ?_
  rotate_left
  ·refine zal (fun i:Nat => [(0, .is (.slice (some ⟨b, 0, none⟩) m cap)), (1, .is (.int .i64 a)), (2, .is (.int .i64 e)), (7, .is (.int .i64 i)), (8, .is (.int .i64 k)), (900, .own (zan b (uC D ++ rest) tyU))]) (fun i => a + 1 ≤ i ∧ i ≤ e ∧ scanSorted lt D e i = scanSorted lt D e i0) (fun i => e - i) i0 ⟨hi1, hi2, rfl⟩ ⟨rfl, rfl, rfl, rfl, rfl, rfl, trivial⟩ ?_
   rintro i ⟨h1, h2, h3⟩
   by_cases hle:i < e
   ·obtain ⟨_, q1⟩:=zdb (rest:=rest) (show i < D.size by omega) (0 + (i) * 1) rfl
    obtain ⟨_, q2⟩:=zdb (rest:=rest) (show i - 1 < D.size by omega) (0 + (i - 1) * 1) rfl
    have hw3:IntKind.i64.wrap ((i:Int) - 1) = ((i - 1:Nat):Int):=zaa (by omega) (by omega) |>.trans (by omega)
    cases hc:lt D[i]! D[i - 1]! with
    | false =>
     have hw4:IntKind.i64.wrap ((i:Int) + 1) = ((i + 1:Nat):Int):=zaa (by omega) (by omega)
     refine Zc ?_;refine qg (id:=5) [(200024, [900]), (200029, [900])] mixed (by kernel_rfl) ?_;refine Zi ?_;refine ZbE ?_;refine Ze7 ?_;refine qn (qq L (q:=900) rfl rfl rfl rfl rfl q1) rfl rfl ?_;refine Zbu ?_;refine qn (qq L (q:=900) rfl rfl rfl rfl rfl q2) rfl rfl ?_;refine z8 (zp L rfl rfl (zk rfl) rfl rfl rfl (fun u H hH _ _ => zbg hc hH)) rfl ?_;refine ZI ?_;refine Zb9 ?_;refine ZaB ?_;refine qh ?_;refine ZD ?_;refine Zam ?_;refine yc ?_
     exact yi (x:=i) (i + 1) ⟨by omega, by omega, by rw [← h3]; exact (zmo hle hc).symm⟩ (by omega) ⟨rfl, rfl, rfl, rfl, rfl, rfl, trivial⟩
    | true =>
     refine Zc ?_;refine qg (id:=5) [(200024, [900]), (200029, [900])] mixed (by kernel_rfl) ?_;refine Zi ?_;refine ZbE ?_;refine Ze7 ?_;refine qn (qq L (q:=900) rfl rfl rfl rfl rfl q1) rfl rfl ?_;refine Zbu ?_;refine qn (qq L (q:=900) rfl rfl rfl rfl rfl q2) rfl rfl ?_;refine z8 (zp L rfl rfl (zk rfl) rfl rfl rfl (fun u H hH _ _ => zbg hc hH)) rfl ?_;refine ZI ?_;refine Zbj ?_
     exact za7 i Since.refl ⟨h1, h2, by rw [← h3]; exact (zf4 (by rintro ⟨_, h⟩; simp [hc] at h)).symm⟩ rfl ⟨rfl, rfl, rfl, rfl, rfl, rfl, trivial⟩
   ·refine Zc ?_;refine Zfa ?_;refine Zi ?_;refine Zda ?_;refine Zcb ?_;refine ZaM ?_;refine Zbj ?_
    exact za7 i Since.refl ⟨h1, h2, by rw [← h3]; exact (zf4 (by rintro ⟨h, _⟩; exact hle h)).symm⟩ rfl ⟨rfl, rfl, rfl, rfl, rfl, rfl, trivial⟩
  ·rintro i ⟨h1, h2, h3⟩
   rw [← h3] at hL
   by_cases hie:i = e
   ·rw [if_pos hie] at hL
    subst hie
    rw [← hL]
    refine Zc ?_;refine ZcM ?_;refine ZbZ ?_;refine Zd8 ?_
    exact zgf L 900 (r:=zab b _ tyU) (rs:=[.tmp 6]) rfl (fun _ _ h => h) Since.refl rfl rfl (fun _ => rfl)
   ·rw [if_neg hie] at hL
    by_cases h50:e - a < 50
    ·rw [if_pos h50] at hL
     rw [← hL]
     refine Zc ?_;refine ZcM ?_;refine Zbs ?_;refine ZM ?_;refine ZJ ?_;refine ZT ?_;refine Z0 ?_;refine Zag ?_;refine Zb ?_
     exact zgf L 900 (r:=zab b _ tyU) (rs:=[.tmp 6]) rfl (fun _ _ h => h) Since.refl rfl rfl (fun _ => rfl)
    ·rw [if_neg h50] at hL
     have hw3:IntKind.i64.wrap ((i:Int) - 1) = ((i - 1:Nat):Int):=zaa (by omega) (by omega) |>.trans (by omega)
     have hw4:IntKind.i64.wrap ((i:Int) - (a:Int)) = ((i - a:Nat):Int):=zaa (by omega) (by omega) |>.trans (by omega)
     have hw5:IntKind.i64.wrap ((e:Int) - (i:Int)) = ((e - i:Nat):Int):=zaa (by omega) (by omega) |>.trans (by omega)
     have hw6:IntKind.i64.wrap ((i:Int) + 1) = ((i + 1:Nat):Int):=zaa (by omega) (by omega)
     have hw7:IntKind.i64.wrap ((k:Int) + 1) = ((k + 1:Nat):Int):=zaa (by omega) (by omega)
     have hDs:=zbv D i (i - 1)
     obtain ⟨_, qj⟩:=zdb (rest:=rest) (show i - 1 < D.size by omega) (0 + (i - 1) * 1) rfl
     obtain ⟨_, qi⟩:=zdb (rest:=rest) (show i < D.size by omega) (0 + (i) * 1) rfl
     have s1:=zcj (rest:=rest) D[i - 1]! (show i < D.size by omega) (0 + (i) * 1) rfl
     have b1:=zck (rest:=rest) (show i < D.size by omega) (0 + (i) * 1) rfl
     have hz:i - 1 < (D.setIfInBounds (i) D[i - 1]!).size:=by rw [Array.size_setIfInBounds]; omega
     have s2:=zcj (rest:=rest) D[i]! hz (0 + (i - 1) * 1) rfl
     have b2:=zck (rest:=rest) hz (0 + (i - 1) * 1) rfl
     rw [zdj] at s2
     refine Zc ?_;refine ZcM ?_;refine Zbs ?_;refine ZM ?_;refine ZJ ?_;refine Z4 ?_;refine Zx ?_;refine qg (id:=11) [(200051, [900]), (200055, [900]), (100056, [900]), (100057, [900])] mixed (by kernel_rfl) ?_;refine Zi ?_;refine Zfi ?_;refine Zbu ?_;refine qn (qq L (q:=900) rfl rfl rfl rfl rfl qj) rfl rfl ?_;refine Zn ?_;refine qn (qq L (q:=900) rfl rfl rfl rfl rfl qi) rfl rfl ?_;refine Zl ?_;refine zah (yz L (q:=900) rfl rfl rfl rfl rfl rfl b1 rfl s1) rfl ?_;refine Zl ?_;refine zah (yz L (q:=900) rfl rfl rfl rfl rfl rfl b2 rfl s2) rfl ?_;refine Zaj ?_;refine Zc ?_
     generalize swp D i (i - 1) = D1 at *
     obtain ⟨D2, hD2⟩:∃ D2, D2 = (if i - a ≥ 2 then shiftDown lt (i - 1) D1 else D1):=⟨_, rfl⟩
     rw [← hD2] at hL
     refine zfo (fun E:Array Int => [(0, .is (.slice (some ⟨b, 0, none⟩) m cap)), (1, .is (.int .i64 a)), (2, .is (.int .i64 e)), (7, .is (.int .i64 i)), (8, .is (.int .i64 k)), (900, .own (zan b (uC E ++ rest) tyU))]) (fun E => E.size = m ∧ E = D2) (fun _ => []) ?_ ?_
     rotate_left
     ·by_cases h2a:i - a ≥ 2
      ·rw [if_pos h2a] at hD2
       refine ZQ ?_;refine ZJ ?_;refine Zat ?_;refine Z0 ?_;refine Zcr ?_;refine Zal ?_;refine ZE ?_
       refine zal (fun t:Nat × Array Int => [(0, .is (.slice (some ⟨b, 0, none⟩) m cap)), (1, .is (.int .i64 a)), (2, .is (.int .i64 e)), (7, .is (.int .i64 i)), (8, .is (.int .i64 k)), (9, .is (.int .i64 t.1)), (900, .own (zan b (uC t.2 ++ rest) tyU))]) (fun t => t.1 ≤ i - 1 ∧ t.2.size = m ∧ shiftDown lt t.1 t.2 = D2) (fun t => t.1) (i - 1, D1) ⟨Nat.le_refl _, by dsimp only; omega, hD2.symm⟩ ⟨rfl, rfl, rfl, rfl, rfl, rfl, rfl, trivial⟩ ?_
       rintro ⟨j, E⟩ ⟨hj, hE, hS⟩
       dsimp only at hj hE hS ⊢
       clear hD2
       rcases j with _ | j
       ·rw [shiftDown] at hS
        refine Zc ?_;refine Zem ?_;refine ZA ?_;refine ZcO ?_
        exact za7 E Since.refl ⟨hE, hS⟩ rfl ⟨rfl, rfl, rfl, rfl, rfl, rfl, trivial⟩
       ·rw [shiftDown] at hS
        have hw8:IntKind.i64.wrap (((j + 1:Nat):Int) - 1) = (j:Int):=zaa (by omega) (by omega) |>.trans (by omega)
        obtain ⟨_, q1⟩:=zdb (rest:=rest) (show j + 1 < E.size by omega) (0 + (j + 1) * 1) rfl
        obtain ⟨_, q2⟩:=zdb (rest:=rest) (show j < E.size by omega) (0 + (j) * 1) rfl
        cases hc:lt E[j + 1]! E[j]! with
        | false =>
         rw [if_pos (by rw [hc]; rfl)] at hS
         refine Zc ?_;refine Zem ?_;refine ZaK ?_;refine Zcn ?_;refine qg (id:=16) [(200071, [900]), (200076, [900])] mixed (by kernel_rfl) ?_;refine Zn ?_;refine qn (qq L (q:=900) rfl rfl rfl rfl rfl q1) rfl rfl ?_;refine Zbu ?_;refine qn (qq L (q:=900) rfl rfl rfl rfl rfl q2) rfl rfl ?_;refine z8 (zp L rfl rfl (zk rfl) rfl rfl rfl (fun u H hH _ _ => zbg hc hH)) rfl ?_;refine ZI ?_;refine Zaj ?_;refine ZaR ?_;refine ZeD ?_;refine zk8 rfl ?_;refine y8 ?_;refine y8 ?_;refine yt ?_
         exact za7 E Since.refl ⟨hE, hS⟩ rfl ⟨rfl, rfl, rfl, rfl, rfl, rfl, trivial⟩
        | true =>
         rw [if_neg (by rw [hc]; simp)] at hS
         obtain ⟨_, qj⟩:=zdb (rest:=rest) (show j < E.size by omega) (0 + (j) * 1) rfl
         obtain ⟨_, qi⟩:=zdb (rest:=rest) (show j + 1 < E.size by omega) (0 + (j + 1) * 1) rfl
         have s1:=zcj (rest:=rest) E[j]! (show j + 1 < E.size by omega) (0 + (j + 1) * 1) rfl
         have b1:=zck (rest:=rest) (show j + 1 < E.size by omega) (0 + (j + 1) * 1) rfl
         have hz:j < (E.setIfInBounds (j + 1) E[j]!).size:=by rw [Array.size_setIfInBounds]; omega
         have s2:=zcj (rest:=rest) E[j + 1]! hz (0 + (j) * 1) rfl
         have b2:=zck (rest:=rest) hz (0 + (j) * 1) rfl
         rw [zdj] at s2
         refine Zc ?_;refine Zem ?_;refine ZaK ?_;refine Zcn ?_;refine qg (id:=16) [(200071, [900]), (200076, [900])] mixed (by kernel_rfl) ?_;refine Zn ?_;refine qn (qq L (q:=900) rfl rfl rfl rfl rfl q1) rfl rfl ?_;refine Zbu ?_;refine qn (qq L (q:=900) rfl rfl rfl rfl rfl q2) rfl rfl ?_;refine z8 (zp L rfl rfl (zk rfl) rfl rfl rfl (fun u H hH _ _ => zbg hc hH)) rfl ?_;refine ZI ?_;refine ZaI ?_;refine ZaB ?_;refine qg (id:=17) [(200088, [900]), (200092, [900]), (100093, [900]), (100094, [900])] mixed (by kernel_rfl) ?_;refine Zi ?_;refine Zfi ?_;refine Zbu ?_;refine qn (qq L (q:=900) rfl rfl rfl rfl rfl qj) rfl rfl ?_;refine Zn ?_;refine qn (qq L (q:=900) rfl rfl rfl rfl rfl qi) rfl rfl ?_;refine Zl ?_;refine zah (yz L (q:=900) rfl rfl rfl rfl rfl rfl b1 rfl s1) rfl ?_;refine Zl ?_;refine zah (yz L (q:=900) rfl rfl rfl rfl rfl rfl b2 rfl s2) rfl ?_;refine Zba ?_;refine Za9 ?_;refine Zal ?_;refine ZaT ?_
         exact yi (x:=(j + 1, E)) (j, swp E (j + 1) j) ⟨by dsimp only; omega, by dsimp only; rw [zbv]; exact hE, hS⟩ (by dsimp only; omega) ⟨rfl, rfl, rfl, rfl, rfl, rfl, rfl, trivial⟩
      ·rw [if_neg h2a] at hD2
       refine ZQ ?_;refine ZJ ?_;refine ZA ?_;refine ZaC ?_
       exact za7 D1 Since.refl ⟨by omega, hD2.symm⟩ rfl ⟨rfl, rfl, rfl, rfl, rfl, rfl, trivial⟩
     ·rintro G ⟨hG, hGe⟩
      rw [← hGe] at hL
      clear hD2 hGe
      by_cases h2b:e - i ≥ 2
      ·rw [if_pos h2b] at hL
       obtain ⟨D3, hD3⟩:∃ D3, D3 = shiftUp lt e (i + 1) G:=⟨_, rfl⟩
       rw [← hD3] at hL
       refine zh ?_;refine ZdG ?_;refine ZJ ?_;refine Zat ?_;refine Z0 ?_;refine ZbA ?_;refine Za ?_;refine ZZ ?_;refine ZE ?_
       ·refine zal (fun t:Nat × Array Int => [(0, .is (.slice (some ⟨b, 0, none⟩) m cap)), (1, .is (.int .i64 a)), (2, .is (.int .i64 e)), (7, .is (.int .i64 i)), (8, .is (.int .i64 k)), (10, .is (.int .i64 t.1)), (900, .own (zan b (uC t.2 ++ rest) tyU))]) (fun t => i + 1 ≤ t.1 ∧ t.1 ≤ e ∧ t.2.size = m ∧ shiftUp lt e t.1 t.2 = D3) (fun t => e - t.1) (i + 1, G) ⟨Nat.le_refl _, by dsimp only; omega, hG, hD3.symm⟩ ⟨rfl, rfl, rfl, rfl, rfl, rfl, rfl, trivial⟩ ?_
        rintro ⟨j, E⟩ ⟨hj1, hj2, hE, hS⟩
        dsimp only at hj1 hj2 hE hS ⊢
        clear hD3
        rw [shiftUp] at hS
        by_cases hje:j < e
        ·rw [if_pos hje] at hS
         have hw8:IntKind.i64.wrap ((j:Int) - 1) = ((j - 1:Nat):Int):=zaa (by omega) (by omega) |>.trans (by omega)
         have hw9:IntKind.i64.wrap ((j:Int) + 1) = ((j + 1:Nat):Int):=zaa (by omega) (by omega)
         obtain ⟨_, q1⟩:=zdb (rest:=rest) (show j < E.size by omega) (0 + (j) * 1) rfl
         obtain ⟨_, q2⟩:=zdb (rest:=rest) (show j - 1 < E.size by omega) (0 + (j - 1) * 1) rfl
         cases hc:lt E[j]! E[j - 1]! with
         | false =>
          rw [if_pos (by rw [hc]; rfl)] at hS
          refine Zc ?_;refine Zdw ?_;refine ZbG ?_;refine Zcn ?_;refine qg (id:=22) [(200109, [900]), (200114, [900])] mixed (by kernel_rfl) ?_;refine Zn ?_;refine qn (qq L (q:=900) rfl rfl rfl rfl rfl q1) rfl rfl ?_;refine Zbu ?_;refine qn (qq L (q:=900) rfl rfl rfl rfl rfl q2) rfl rfl ?_;refine z8 (zp L rfl rfl (zk rfl) rfl rfl rfl (fun u H hH _ _ => zbg hc hH)) rfl ?_;refine ZI ?_;refine Zaj ?_;refine ZaR ?_;refine ZeD ?_;refine zk8 rfl ?_;refine y8 ?_;refine y8 ?_;refine yt ?_;refine ZbR ?_;refine Zdv ?_
          exact yi (x:=((k, i0), D)) ((k + 1, i), E) ⟨by dsimp only; omega, by dsimp only; omega, by dsimp only; omega, hE, by dsimp only; rw [hs', hS]; exact hL⟩ (by dsimp only; omega) ⟨rfl, rfl, rfl, rfl, rfl, rfl, trivial⟩
         | true =>
          rw [if_neg (by rw [hc]; simp)] at hS
          obtain ⟨_, qj⟩:=zdb (rest:=rest) (show j - 1 < E.size by omega) (0 + (j - 1) * 1) rfl
          obtain ⟨_, qi⟩:=zdb (rest:=rest) (show j < E.size by omega) (0 + (j) * 1) rfl
          have s1:=zcj (rest:=rest) E[j - 1]! (show j < E.size by omega) (0 + (j) * 1) rfl
          have b1:=zck (rest:=rest) (show j < E.size by omega) (0 + (j) * 1) rfl
          have hz:j - 1 < (E.setIfInBounds (j) E[j - 1]!).size:=by rw [Array.size_setIfInBounds]; omega
          have s2:=zcj (rest:=rest) E[j]! hz (0 + (j - 1) * 1) rfl
          have b2:=zck (rest:=rest) hz (0 + (j - 1) * 1) rfl
          rw [zdj] at s2
          refine Zc ?_;refine Zdw ?_;refine ZbG ?_;refine Zcn ?_;refine qg (id:=22) [(200109, [900]), (200114, [900])] mixed (by kernel_rfl) ?_;refine Zn ?_;refine qn (qq L (q:=900) rfl rfl rfl rfl rfl q1) rfl rfl ?_;refine Zbu ?_;refine qn (qq L (q:=900) rfl rfl rfl rfl rfl q2) rfl rfl ?_;refine z8 (zp L rfl rfl (zk rfl) rfl rfl rfl (fun u H hH _ _ => zbg hc hH)) rfl ?_;refine ZI ?_;refine ZaI ?_;refine ZaB ?_;refine qg (id:=23) [(200126, [900]), (200130, [900]), (100131, [900]), (100132, [900])] mixed (by kernel_rfl) ?_;refine Zi ?_;refine Zfi ?_;refine Zbu ?_;refine qn (qq L (q:=900) rfl rfl rfl rfl rfl qj) rfl rfl ?_;refine Zn ?_;refine qn (qq L (q:=900) rfl rfl rfl rfl rfl qi) rfl rfl ?_;refine Zl ?_;refine zah (yz L (q:=900) rfl rfl rfl rfl rfl rfl b1 rfl s1) rfl ?_;refine Zl ?_;refine zah (yz L (q:=900) rfl rfl rfl rfl rfl rfl b2 rfl s2) rfl ?_;refine Zba ?_;refine ZcR ?_;refine Zam ?_
          exact yi (x:=(j, E)) (j + 1, swp E j (j - 1)) ⟨by dsimp only; omega, by dsimp only; omega, by dsimp only; rw [zbv]; exact hE, hS⟩ (by dsimp only; omega) ⟨rfl, rfl, rfl, rfl, rfl, rfl, rfl, trivial⟩
        ·rw [if_neg hje] at hS
         refine Zc ?_;refine ZaP ?_;refine Zbi ?_;refine ZcO ?_;refine ZbR ?_;refine Zdv ?_
         exact yi (x:=((k, i0), D)) ((k + 1, i), E) ⟨by dsimp only; omega, by dsimp only; omega, by dsimp only; omega, hE, by dsimp only; rw [hs', hS]; exact hL⟩ (by dsimp only; omega) ⟨rfl, rfl, rfl, rfl, rfl, rfl, trivial⟩
      ·rw [if_neg h2b] at hL
       refine zh ?_;refine ZdG ?_;refine ZJ ?_;refine ZA ?_;refine Za4 ?_;refine Zdv ?_
       exact yi (x:=((k, i0), D)) ((k + 1, i), G) ⟨by dsimp only; omega, by dsimp only; omega, by dsimp only; omega, hG, by dsimp only; rw [hs']; exact hL⟩ (by dsimp only; omega) ⟨rfl, rfl, rfl, rfl, rfl, rfl, trivial⟩
 ·obtain rfl:k = 5:=by omega
  have hL':(D, false) = X:=hL
  rw [← hL']
  refine ZaJ ?_;refine Zey ?_;refine zf (id:=24) ?_;refine Zb ?_
  exact zgf L 900 (r:=zab b _ tyU) (rs:=[.tmp 6]) rfl (fun _ _ h => h) Since.refl rfl rfl (fun _ => rfl)
end Go.V.So
set_option maxRecDepth 20000
namespace Go.V.So
open Go.Proofs Go.RowKit Go.V Go.Sort
theorem _root_.Go.V.Zc2 {A B:Prop} (h:B) (t:Wr B → A:=by intro h; refine qn (qq L (q:=900) rfl rfl rfl rfl rfl rfl) rfl rfl ?_;exact h.h):A:=t ⟨h⟩
theorem _root_.Go.V.ZfB {A B:Prop} (h:B) (t:Wr B → A:=by intro h; refine yo (qq L (q:=900) rfl rfl rfl rfl rfl rfl) ?_;exact h.h):A:=t ⟨h⟩
theorem _root_.Go.V.Zgu {A B:Prop} (h:B) (t:Wr B → A:=by intro h; refine ZeI ?_;refine zah (yz L (q:=900) rfl rfl rfl rfl rfl rfl rfl rfl rfl) rfl ?_;exact h.h):A:=t ⟨h⟩
abbrev tyX:TypeId:=233
attribute [local irreducible] V N X VO Par StepOK Has Ret RetL RetO zcd zd2 Src
set_option maxRecDepth 20000 in
theorem zrc {x b:Nat} (hx:x < 18446744073709551616) {w:World} {B:Heap} {C:Nat → Prop} (hB:B.Le (hp w))
  (hr:(zab b [.int .u64 x] tyX).P B w C) (hC:∀ k, C k → k < w.heap.size ∧ B k = none) :
  zd2 Tryz.prog 150 [.pointer (some ⟨b, 0, none⟩)] w B C (zab b [.int .u64 (xorNextN x:Nat)] tyX) (.int .u64 (xorNextN x:Nat)):=by
 obtain ⟨X1, h1⟩:∃ X1:Nat, X1 = x ^^^ (x * 8192 % 18446744073709551616):=⟨_, rfl⟩
 obtain ⟨X2, h2⟩:∃ X2:Nat, X2 = X1 ^^^ (X1 / 128):=⟨_, rfl⟩
 obtain ⟨X3, h3⟩:∃ X3:Nat, X3 = X2 ^^^ (X2 * 131072 % 18446744073709551616):=⟨_, rfl⟩
 have l1:X1 < 18446744073709551616:=by rw [h1]; exact Nat.xor_lt_two_pow (n:=64) (by omega) (by omega)
 have l2:X2 < 18446744073709551616:=by rw [h2]; exact Nat.xor_lt_two_pow (n:=64) (by omega) (by omega)
 have l3:X3 < 18446744073709551616:=by rw [h3]; exact Nat.xor_lt_two_pow (n:=64) (by omega) (by omega)
 have hv:xorNextN x = X3:=by unfold xorNextN; simp only []; rw [← h1, ← h2, ← h3]
 have s1:IntKind.u64.wrap ((x:Int) * 2 ^ min (13:Int).toNat IntKind.u64.bits) = ((x * 8192 % 18446744073709551616:Nat):Int):=by
  rw [IntKind.wrap_u64, show ((2:Int) ^ min (13:Int).toNat IntKind.u64.bits) = 8192 from by decide]; omega
 have s2:(X1:Int).fdiv (2 ^ min (7:Int).toNat IntKind.u64.bits) = ((X1 / 128:Nat):Int):=by
  rw [show ((2:Int) ^ min (7:Int).toNat IntKind.u64.bits) = 128 from by decide, Int.fdiv_eq_ediv_of_nonneg _ (by omega)]; omega
 have s3:IntKind.u64.wrap ((X2:Int) * 2 ^ min (17:Int).toNat IntKind.u64.bits) = ((X2 * 131072 % 18446744073709551616:Nat):Int):=by
  rw [IntKind.wrap_u64, show ((2:Int) ^ min (17:Int).toNat IntKind.u64.bits) = 131072 from by decide]; omega
 have x1:bits .xor .u64 (x:Int) ((x * 8192 % 18446744073709551616:Nat):Int) = (X1:Int):=by rw [bits_xor_u64_nat _ _ hx (by omega), h1]
 have x2:bits .xor .u64 (X1:Int) ((X1 / 128:Nat):Int) = (X2:Int):=by rw [bits_xor_u64_nat _ _ l1 (by omega), h2]
 have x3:bits .xor .u64 (X2:Int) ((X2 * 131072 % 18446744073709551616:Nat):Int) = (X3:Int):=by rw [bits_xor_u64_nat _ _ l2 (by omega), h3]
 rw [hv]
 clear hv h1 h2 h3
 unfold zd2
 refine zau 900 (zab b [.int .u64 x] tyX) Tryz.func150 rfl Tryz.ntmps150 (Nat.le_of_ble_eq_true rfl) hB hr hC ?_
 rw [za6]
 refine ZR ?_;refine Ze ?_;refine qg (id:=1) [(200005, [900]), (200008, [900]), (100011, [900])] mixed (by kernel_rfl) ?_;refine Zh ?_;refine ZeI ?_;refine Zc2 ?_;refine Zh ?_;refine ZeI ?_;refine Zc2 ?_;refine z8 (zve rfl rfl rfl rfl (by decide) s1) rfl ?_;refine z8 (zvc rfl rfl rfl rfl x1) rfl ?_;refine Zgu ?_;refine ZbB ?_;refine qg (id:=2) [(200014, [900]), (200017, [900]), (100020, [900])] mixed (by kernel_rfl) ?_;refine Zh ?_;refine ZeI ?_;refine Zc2 ?_;refine Zh ?_;refine ZeI ?_;refine Zc2 ?_;refine z8 (z0i rfl rfl rfl rfl (by decide) s2) rfl ?_;refine z8 (zvc rfl rfl rfl rfl x2) rfl ?_;refine Zgu ?_;refine ZbB ?_;refine qg (id:=3) [(200023, [900]), (200026, [900]), (100029, [900])] mixed (by kernel_rfl) ?_;refine Zh ?_;refine ZeI ?_;refine Zc2 ?_;refine Zh ?_;refine ZeI ?_;refine Zc2 ?_;refine z8 (zve rfl rfl rfl rfl (by decide) s3) rfl ?_;refine z8 (zvc rfl rfl rfl rfl x3) rfl ?_;refine Zgu ?_;refine ZbB ?_;refine Zu ?_;refine ZfL ?_;refine ZfB ?_;refine Zb ?_
 exact zgf L 900 (r:=zab b _ tyX) (rs:=[.tmp 2]) rfl (fun _ _ h => h) Since.refl rfl rfl (fun _ => rfl)
end Go.V.So
set_option maxRecDepth 20000
namespace Go.V.So
open Go.Proofs Go.RowKit Go.V Go.Sort
theorem _root_.Go.V.ZdM {A B:Prop} (h:B) (t:Wr B → A:=by intro h; refine Zc1 ?_;refine ZeR ?_;exact h.h):A:=t ⟨h⟩
theorem _root_.Go.V.ZcS {A B:Prop} (h:B) (t:Wr B → A:=by intro h; refine ZV ?_;refine Zd ?_;exact h.h):A:=t ⟨h⟩
attribute [local irreducible] V N X VO Par StepOK Has Ret RetL RetO zcd zd2 Src
set_option maxRecDepth 20000 in
theorem zk6 {n:Nat} (hn:n < 18446744073709551616) {w:World} {B:Heap} (hB:B.Le (hp w)):Ret Tryz.prog 73 [.int .u64 n] w B (fun v _ => v = .int .i64 (bitsLen n)):=by
 refine yf Tryz.func73 rfl Tryz.ntmps73 (Nat.le_of_ble_eq_true rfl) hB ?_
 refine ZR ?_;refine Ze ?_;refine ZbP ?_;refine Zd6 ?_;refine ZG ?_;refine z7 (zp L rfl rfl (zk rfl) rfl rfl rfl (fun u H hH _ _ => Ret.of_same hH (Tryz.bits_Len64 (n:Int) u (by omega) (by omega)))) rfl ?_;refine Zb ?_
 refine ye L (rs:=[.tmp 2]) rfl (fun _ _ h => h) Since.refl fun u H hH hle => ?_
 rw [Int.toNat_natCast, bitLen_eq n hn]
 rfl
theorem zyk {n:Nat} (hn:n ≤ 100000) {w:World} {B:Heap} (hB:B.Le (hp w)):Ret Tryz.prog 149 [.int .i64 n] w B (fun v _ => v = .int .u64 (1 <<< bitsLen n:Nat)):=by
 have hb:bitsLen n ≤ 17:=(bitsLen_le_iff n 17).2 (by omega)
 have hp2:(2:Nat) ^ bitsLen n ≤ 2 ^ 17:=Nat.pow_le_pow_right (by omega) hb
 have hmin:min ((bitsLen n:Nat):Int).toNat IntKind.u64.bits = bitsLen n:=by
  rw [Int.toNat_natCast]
  have:IntKind.u64.bits = 64:=by decide
  omega
 have s1:IntKind.u64.wrap ((1:Int) * 2 ^ min ((bitsLen n:Nat):Int).toNat IntKind.u64.bits) = ((1 <<< bitsLen n:Nat):Int):=by
  rw [hmin, Nat.shiftLeft_eq, Nat.one_mul, Int.one_mul, Int.natCast_pow]
  have e2:((2:Nat):Int) ^ bitsLen n = ((2 ^ bitsLen n:Nat):Int):=(Int.natCast_pow 2 _).symm
  rw [show ((2:Int) ^ bitsLen n) = ((2:Nat):Int) ^ bitsLen n from rfl, e2]
  have hp3:2 ^ bitsLen n ≤ 131072:=hp2
  clear hp2 hmin e2
  generalize 2 ^ bitsLen n = M at *
  exact wrap_u64 (by omega) (by omega)
 have hc:IntKind.u64.wrap (n:Int) = (n:Int):=wrap_u64 (by omega) (by omega)
 refine yf Tryz.func149 rfl Tryz.ntmps149 (Nat.le_of_ble_eq_true rfl) hB ?_
 refine ZbW ?_;refine z7 (zax rfl rfl rfl zbw.1 zbw.2 (wrap_u64 (by omega) (by omega))) rfl ?_;refine z7 (zp L rfl rfl (zk rfl) rfl rfl rfl (fun u H hH _ _ => zk6 (by omega) hH)) rfl ?_;refine z7 (zve rfl rfl rfl rfl (by omega) s1) rfl ?_;refine Zb ?_
 refine ye L (rs:=[.tmp 2]) rfl (fun _ _ h => h) Since.refl fun u H hH hle => ?_
 rfl
set_option maxHeartbeats 2000000 in
set_option maxRecDepth 20000 in
theorem z2x {d:Array Int} {rest:List Value} {b m cap a e:Nat} (hab:a ≤ e) (he:e ≤ d.size) (hm:d.size = m) (hm1:m ≤ 100000) {w:World} {B:Heap} {C:Nat → Prop} (hB:B.Le (hp w))
  (hr:(zab b (uC d ++ rest) tyU).P B w C) (hC:∀ k, C k → k < w.heap.size ∧ B k = none) :
  zcd Tryz.prog 103 [.slice (some ⟨b, 0, none⟩) m cap, .int .i64 a, .int .i64 e] w B C (zab b (uC (breakPatterns d a e) ++ rest) tyU):=by
 unfold zcd
 refine zau 900 (zab b (uC d ++ rest) tyU) Tryz.func103 rfl Tryz.ntmps103 (Nat.le_of_ble_eq_true rfl) hB hr hC ?_
 rw [za6]
 obtain ⟨Ln, rfl⟩:∃ Ln, e = a + Ln:=⟨e - a, by omega⟩
 have hw0:IntKind.i64.wrap (((a + Ln:Nat):Int) - (a:Int)) = (Ln:Int):=zaa (by omega) (by omega) |>.trans (by omega)
 by_cases h8:8 ≤ Ln
 ·have hX:=breakPatterns_eq d a Ln h8
  obtain ⟨M, hM⟩:∃ M, M = 1 <<< bitsLen Ln:=⟨_, rfl⟩
  have hb17:bitsLen Ln ≤ 17:=(bitsLen_le_iff Ln 17).2 (by omega)
  have hMp:1 ≤ M ∧ M ≤ 131072:=by
   rw [hM, Nat.shiftLeft_eq, Nat.one_mul]
   exact ⟨Nat.one_le_two_pow, Nat.pow_le_pow_right (by omega) hb17⟩
  have hM2:M ≤ 2 * Ln:=by
   rw [hM, Nat.shiftLeft_eq, Nat.one_mul]
   exact two_pow_bitsLen_le (by omega)
  obtain ⟨I0, hI0⟩:∃ I0, I0 = a + Ln / 4 * 2 - 1:=⟨_, rfl⟩
  rw [← hM, ← hI0] at hX
  have hc1:IntKind.u64.wrap (Ln:Int) = (Ln:Int):=wrap_u64 (by omega) (by omega)
  have et:((Ln:Nat):Int).tdiv 4 = ((Ln / 4:Nat):Int):=by
   rw [Int.tdiv_eq_ediv_of_nonneg (by omega)]
   omega
  have hq:IntKind.i64.wrap (((Ln:Nat):Int).tdiv 4) = ((Ln / 4:Nat):Int):=by rw [et]; exact zaa (by omega) (by omega)
  have hw1:IntKind.i64.wrap (((Ln / 4:Nat):Int) * 2) = ((Ln / 4 * 2:Nat):Int):=zaa (by omega) (by omega) |>.trans (by omega)
  have hw2:IntKind.i64.wrap ((a:Int) + ((Ln / 4 * 2:Nat):Int)) = ((a + Ln / 4 * 2:Nat):Int):=zaa (by omega) (by omega) |>.trans (by omega)
  have hw3:IntKind.i64.wrap (((a + Ln / 4 * 2:Nat):Int) - 1) = (I0:Int):=zaa (by omega) (by omega) |>.trans (by omega)
  have hw4:IntKind.i64.wrap (((a + Ln / 4 * 2:Nat):Int) + 1) = ((I0 + 2:Nat):Int):=zaa (by omega) (by omega) |>.trans (by omega)
  have hM1:IntKind.u64.wrap ((M:Int) - 1) = ((M - 1:Nat):Int):=wrap_u64 (by omega) (by omega) |>.trans (by omega)
  have hln:(UInt64.ofNat Ln).toNat = Ln:=by
   rw [UInt64.toNat_ofNat']
   exact Nat.mod_eq_of_lt (by omega)
  refine ZR ?_;refine ZJ ?_;refine ZS ?_;refine Za ?_;refine Zat ?_;refine Z0 ?_;refine ZG ?_;refine z7 (zax rfl rfl rfl zwv.1 zwv.2 (wrap_u64 (by omega) (by omega))) rfl ?_;refine ZX ?_;refine Zm ?_
  refine zpi 7 901 rfl fun br => ?_
  refine Z1 ?_;refine z7 (zp L rfl rfl (zk rfl) rfl rfl rfl (fun u H hH _ _ => hM ▸ zyk (n:=Ln) (by omega) hH)) rfl ?_;refine Ze ?_;refine ZcS ?_;refine ZdM ?_;refine Za7 ?_;refine ZE ?_
  refine zal (fun s:Nat × (UInt64 × Array Int) => [(0, .is (.slice (some ⟨b, 0, none⟩) m cap)), (1, .is (.int .i64 a)), (6, .is (.int .i64 Ln)), (7, .is (.pointer (some ⟨br, 0, none⟩))), (8, .is (.int .u64 M)), (9, .is (.int .i64 (I0 + s.1:Nat))), (900, .own (zan b (uC s.2.2 ++ rest) tyU)), (901, .own (zan br [.int .u64 s.2.1.toNat] tyX))]) (fun s => s.1 ≤ 3 ∧ s.2.2.size = m ∧ bpRest a Ln M I0 (3 - s.1) s.1 s.2 = breakPatterns d a (a + Ln)) (fun s => 3 - s.1) (0, (UInt64.ofNat Ln, d)) ⟨by dsimp only; omega, hm, hX.symm⟩ ⟨rfl, rfl, rfl, rfl, rfl, rfl, rfl, by dsimp only; rw [hln]; rfl, trivial⟩ ?_
  rintro ⟨t, ⟨r, D⟩⟩ ⟨ht3, hD, hst⟩
  dsimp only at ht3 hD hst ⊢
  have hrl:r.toNat < 18446744073709551616:=UInt64.toNat_lt r
  by_cases ht:t < 3
  ·obtain ⟨o1, ho1⟩:∃ o1, o1 = xorNextN r.toNat &&& (M - 1):=⟨_, rfl⟩
   have ho1l:o1 ≤ M - 1:=by rw [ho1]; exact Nat.and_le_right
   have hand:bits .and .u64 ((xorNextN r.toNat:Nat):Int) ((M - 1:Nat):Int) = (o1:Int):=by rw [bits_and_u64_nat _ _ (xorNextN_lt _ hrl) (by omega), ho1]
   have hcv:IntKind.i64.wrap (o1:Int) = (o1:Int):=zaa (by omega) (by omega)
   have hwt:IntKind.i64.wrap (((I0 + t:Nat):Int) + 1) = ((I0 + (t + 1):Nat):Int):=zaa (by omega) (by omega) |>.trans (by omega)
   by_cases hoL:Ln ≤ o1
   ·have hw5:IntKind.i64.wrap ((o1:Int) - (Ln:Int)) = ((o1 - Ln:Nat):Int):=zaa (by omega) (by omega) |>.trans (by omega)
    have hw6:IntKind.i64.wrap ((a:Int) + ((o1 - Ln:Nat):Int)) = ((a + (o1 - Ln):Nat):Int):=zaa (by omega) (by omega)
    have ho:(if (xorNext r).toNat &&& (M - 1) ≥ Ln then ((xorNext r).toNat &&& (M - 1)) - Ln else (xorNext r).toNat &&& (M - 1)) = o1 - Ln:=by rw [xorNext_toNat, ← ho1, if_pos hoL]
    obtain ⟨_, qj⟩:=zdb (rest:=rest) (show a + (o1 - Ln) < D.size by omega) (0 + (a + (o1 - Ln)) * 1) rfl
    obtain ⟨_, qi⟩:=zdb (rest:=rest) (show I0 + t < D.size by omega) (0 + (I0 + t) * 1) rfl
    have s1:=zcj (rest:=rest) D[a + (o1 - Ln)]! (show I0 + t < D.size by omega) (0 + (I0 + t) * 1) rfl
    have b1:=zck (rest:=rest) (show I0 + t < D.size by omega) (0 + (I0 + t) * 1) rfl
    have hz:a + (o1 - Ln) < (D.setIfInBounds (I0 + t) D[a + (o1 - Ln)]!).size:=by rw [Array.size_setIfInBounds]; omega
    have s2:=zcj (rest:=rest) D[I0 + t]! hz (0 + (a + (o1 - Ln)) * 1) rfl
    have b2:=zck (rest:=rest) hz (0 + (a + (o1 - Ln)) * 1) rfl
    rw [zdj] at s2
    refine Zc ?_;refine Zo ?_;refine Z2 ?_;refine ZdM ?_;refine ZZ ?_;refine Zb2 ?_;refine ZW ?_;refine Zbl ?_;refine Zp ?_;refine qp (zaj L 901 (zab br [.int .u64 (xorNextN r.toNat:Nat)] tyX) (.int .u64 (xorNextN r.toNat:Nat)) (r:=zab br [.int .u64 r.toNat] tyX) rfl rfl rfl rfl rfl (fun u H C hH _ hr hC => zrc hrl hH hr hC)) ?_;refine Zal ?_;refine z7 (z0l rfl rfl rfl rfl hand) rfl ?_;refine z7 (zax rfl rfl rfl zbx.1 zbx.2 (zaa (by omega) (by omega))) rfl ?_;refine Zj ?_;refine Z8 ?_;refine Zd ?_;refine ZaK ?_;refine ZM ?_;refine ZJ ?_;refine Zb ?_;refine qg (id:=10) [(200058, [900]), (200062, [900]), (100063, [900]), (100064, [900])] mixed (by kernel_rfl) ?_;refine Zi ?_;refine Zbv ?_;refine ZaA ?_;refine qn (qq L (q:=900) rfl rfl rfl rfl rfl qj) rfl rfl ?_;refine Zn ?_;refine qn (qq L (q:=900) rfl rfl rfl rfl rfl qi) rfl rfl ?_;refine Zl ?_;refine zah (yz L (q:=900) rfl rfl rfl rfl rfl rfl b1 rfl s1) rfl ?_;refine Zl ?_;refine zah (yz L (q:=900) rfl rfl rfl rfl rfl rfl b2 rfl s2) rfl ?_;refine Zba ?_;refine ZD ?_;refine Zam ?_
    exact yi (x:=(t, (r, D))) (t + 1, (xorNext r, swp D (I0 + t) (a + (o1 - Ln)))) ⟨by dsimp only; omega, by dsimp only; rw [zbv]; exact hD, by dsimp only; rw [← hst, bp_step a Ln M I0 t r D ((o1 - Ln)) ht ho]⟩ (by dsimp only; omega) ⟨rfl, rfl, rfl, rfl, rfl, rfl, rfl, by dsimp only; rw [xorNext_toNat]; rfl, trivial⟩
   ·have hw6:IntKind.i64.wrap ((a:Int) + (o1:Int)) = ((a + o1:Nat):Int):=zaa (by omega) (by omega)
    have ho:(if (xorNext r).toNat &&& (M - 1) ≥ Ln then ((xorNext r).toNat &&& (M - 1)) - Ln else (xorNext r).toNat &&& (M - 1)) = o1:=by rw [xorNext_toNat, ← ho1, if_neg (by omega)]
    obtain ⟨_, qj⟩:=zdb (rest:=rest) (show a + o1 < D.size by omega) (0 + (a + o1) * 1) rfl
    obtain ⟨_, qi⟩:=zdb (rest:=rest) (show I0 + t < D.size by omega) (0 + (I0 + t) * 1) rfl
    have s1:=zcj (rest:=rest) D[a + o1]! (show I0 + t < D.size by omega) (0 + (I0 + t) * 1) rfl
    have b1:=zck (rest:=rest) (show I0 + t < D.size by omega) (0 + (I0 + t) * 1) rfl
    have hz:a + o1 < (D.setIfInBounds (I0 + t) D[a + o1]!).size:=by rw [Array.size_setIfInBounds]; omega
    have s2:=zcj (rest:=rest) D[I0 + t]! hz (0 + (a + o1) * 1) rfl
    have b2:=zck (rest:=rest) hz (0 + (a + o1) * 1) rfl
    rw [zdj] at s2
    refine Zc ?_;refine Zo ?_;refine Z2 ?_;refine ZdM ?_;refine ZZ ?_;refine Zb2 ?_;refine ZW ?_;refine Zbl ?_;refine Zp ?_;refine qp (zaj L 901 (zab br [.int .u64 (xorNextN r.toNat:Nat)] tyX) (.int .u64 (xorNextN r.toNat:Nat)) (r:=zab br [.int .u64 r.toNat] tyX) rfl rfl rfl rfl rfl (fun u H C hH _ hr hC => zrc hrl hH hr hC)) ?_;refine Zal ?_;refine z7 (z0l rfl rfl rfl rfl hand) rfl ?_;refine z7 (zax rfl rfl rfl zbx.1 zbx.2 (zaa (by omega) (by omega))) rfl ?_;refine Zj ?_;refine Z8 ?_;refine Zd ?_;refine ZA ?_;refine Zeu ?_;refine qg (id:=10) [(200058, [900]), (200062, [900]), (100063, [900]), (100064, [900])] mixed (by kernel_rfl) ?_;refine Zi ?_;refine Zbv ?_;refine ZaA ?_;refine qn (qq L (q:=900) rfl rfl rfl rfl rfl qj) rfl rfl ?_;refine Zn ?_;refine qn (qq L (q:=900) rfl rfl rfl rfl rfl qi) rfl rfl ?_;refine Zl ?_;refine zah (yz L (q:=900) rfl rfl rfl rfl rfl rfl b1 rfl s1) rfl ?_;refine Zl ?_;refine zah (yz L (q:=900) rfl rfl rfl rfl rfl rfl b2 rfl s2) rfl ?_;refine Zba ?_;refine ZD ?_;refine Zam ?_
    exact yi (x:=(t, (r, D))) (t + 1, (xorNext r, swp D (I0 + t) (a + o1))) ⟨by dsimp only; omega, by dsimp only; rw [zbv]; exact hD, by dsimp only; rw [← hst, bp_step a Ln M I0 t r D (o1) ht ho]⟩ (by dsimp only; omega) ⟨rfl, rfl, rfl, rfl, rfl, rfl, rfl, by dsimp only; rw [xorNext_toNat]; rfl, trivial⟩
  ·obtain rfl:t = 3:=by omega
   have hst':D = breakPatterns d a (a + Ln):=hst
   rw [hst']
   refine Zc ?_;refine Zo ?_;refine Z2 ?_;refine ZdM ?_;refine ZZ ?_;refine Zbp ?_;refine ZcO ?_
   exact zbe L 900 (r:=zab b _ tyU) rfl (fun _ _ h => h) Since.refl rfl rfl
 ·have:breakPatterns d a (a + Ln) = d:=by unfold breakPatterns; simp only [Nat.add_sub_cancel_left]; rw [if_neg (by omega)]
  rw [this]
  refine ZR ?_;refine ZJ ?_;refine ZS ?_;refine Za ?_;refine ZA ?_;refine ZaC ?_
  exact zbe L 900 (r:=zab b _ tyU) rfl (fun _ _ h => h) Since.refl rfl rfl
end Go.V.So
set_option maxRecDepth 20000
namespace Go.V.So
open Go.Proofs Go.RowKit Go.V Go.Sort
theorem _root_.Go.V.ZfY {A B:Prop} (h:B) (t:Wr B → A:=by intro h; refine z8 (zvp L (ya rfl (by assumption)) rfl rfl rfl (by assumption)) rfl ?_;exact h.h):A:=t ⟨h⟩
abbrev tyI:TypeId:=3
theorem z3n {d:Array Int} {rest:List Value} {j:Nat} (h:j < d.size):(uC d ++ rest)[0 + j * 1]? = some (.int .u64 d[j]!):=by
 rw [Nat.zero_add, Nat.mul_one, List.getElem?_append_left (by rw [zjr]; exact h)]
 exact zz7 h
attribute [local irreducible] V N X VO Par StepOK Has Ret RetL RetO zcd zd2 Src
set_option maxRecDepth 20000 in
theorem zmx {d:Array Int} {rest:List Value} {b m cap a e bs k:Nat} (ha:a < m) (he:e < m) (hm:d.size = m) (hm1:m ≤ 100000) (hk:k ≤ 1000) {w:World} {B:Heap} {C:Nat → Prop} (hB:B.Le (hp w)) (hb:B b = some (.cells (uC d ++ rest).toArray tyU))
  (hr:(zab bs [.int .i64 k] tyI).P B w C) (hC:∀ k, C k → k < w.heap.size ∧ B k = none) :
  zd2 Tryz.prog 169 [.slice (some ⟨b, 0, none⟩) m cap, .int .i64 a, .int .i64 e, .pointer (some ⟨bs, 0, none⟩)] w B C (zab bs [.int .i64 (order2 lt d a e k).2.2] tyI) (.tuple #[.int .i64 (order2 lt d a e k).1, .int .i64 (order2 lt d a e k).2.1]):=by
 unfold zd2
 refine zau 900 (zab bs [.int .i64 k] tyI) Tryz.func169 rfl Tryz.ntmps169 (Nat.le_of_ble_eq_true rfl) hB hr hC ?_
 rw [za6]
 have g1:=z3n (rest:=rest) (show a < d.size by omega)
 have g2:=z3n (rest:=rest) (show e < d.size by omega)
 have hw:IntKind.i64.wrap ((k:Int) + 1) = ((k + 1:Nat):Int):=zaa (by omega) (by omega)
 unfold order2
 cases hc:lt d[e]! d[a]! with
 | true =>
  refine ZR ?_;refine ZaW ?_;refine ZdT ?_;refine Zn ?_;refine ZfY ?_;refine Zn ?_;refine ZfY ?_;refine z8 (zp L rfl rfl (zk rfl) rfl rfl rfl (fun u H hH _ _ => zbg hc hH)) rfl ?_;refine ZdW ?_;refine ZG ?_;refine ZfL ?_;refine ZfB ?_;refine ZZ ?_;refine ZfL ?_;refine zcr (yz L (q:=900) rfl rfl rfl rfl rfl rfl rfl rfl rfl) ?_;refine Zm ?_;refine ZbV ?_;refine Zk ?_
  exact zgf L 900 (r:=zab bs _ tyI) (rs:=[.tmp 8, .tmp 9]) rfl (fun _ _ h => h) Since.refl rfl rfl (fun _ => rfl)
 | false =>
  refine ZR ?_;refine ZaW ?_;refine ZdT ?_;refine Zn ?_;refine ZfY ?_;refine Zn ?_;refine ZfY ?_;refine z8 (zp L rfl rfl (zk rfl) rfl rfl rfl (fun u H hH _ _ => zbg hc hH)) rfl ?_;refine ZaI ?_;refine Zd6 ?_;refine ZcS ?_;refine Zk ?_
  exact zgf L 900 (r:=zab bs _ tyI) (rs:=[.tmp 8, .tmp 9]) rfl (fun _ _ h => h) Since.refl rfl rfl (fun _ => rfl)
theorem zkl (d:Array Int) {a e m k:Nat} (ha:a < m) (he:e < m):(order2 lt d a e k).1 < m ∧ (order2 lt d a e k).2.1 < m ∧ (order2 lt d a e k).2.2 ≤ k + 1:=by
 unfold order2
 split
 ·exact ⟨he, ha, Nat.le_refl _⟩
 ·exact ⟨ha, he, Nat.le_succ _⟩
set_option maxRecDepth 20000 in
theorem zg3 {d:Array Int} {rest:List Value} {b m cap x y z bs k:Nat} (hx:x < m) (hy:y < m) (hz:z < m) (hm:d.size = m) (hm1:m ≤ 100000) (hk:k ≤ 900) {w:World} {B:Heap} {C:Nat → Prop} (hB:B.Le (hp w)) (hb:B b = some (.cells (uC d ++ rest).toArray tyU))
  (hr:(zab bs [.int .i64 k] tyI).P B w C) (hC:∀ k, C k → k < w.heap.size ∧ B k = none) :
  zd2 Tryz.prog 152 [.slice (some ⟨b, 0, none⟩) m cap, .int .i64 x, .int .i64 y, .int .i64 z, .pointer (some ⟨bs, 0, none⟩)] w B C (zab bs [.int .i64 (median lt d x y z k).2] tyI) (.int .i64 (median lt d x y z k).1):=by
 unfold zd2
 refine zau 900 (zab bs [.int .i64 k] tyI) Tryz.func152 rfl Tryz.ntmps152 (Nat.le_of_ble_eq_true rfl) hB hr hC ?_
 rw [za6]
 unfold median
 dsimp only
 obtain ⟨r1, hr1⟩:∃ r, r = order2 lt d x y k:=⟨_, rfl⟩
 rw [← hr1]
 obtain ⟨r2, hr2⟩:∃ r, r = order2 lt d r1.2.1 z r1.2.2:=⟨_, rfl⟩
 rw [← hr2]
 obtain ⟨r3, hr3⟩:∃ r, r = order2 lt d r1.1 r2.1 r2.2.2:=⟨_, rfl⟩
 rw [← hr3]
 obtain ⟨a1, a2, a3⟩:=hr1 ▸ zkl d (k:=k) hx hy
 obtain ⟨b1, b2, b3⟩:=hr2 ▸ zkl d (k:=r1.2.2) a2 hz
 refine ZaD ?_;refine Zac ?_;refine qp (zaj L 900 (zab bs [.int .i64 r1.2.2] tyI) (.tuple #[.int .i64 r1.1, .int .i64 r1.2.1]) (r:=zab bs [.int .i64 k] tyI) rfl rfl rfl rfl rfl (fun u H C hH hle hr hC => by have h:=zmx (rest:=rest) (cap:=cap) hx hy hm hm1 (k:=k) (by omega) hH (hle _ _ hb) hr hC; rw [← hr1] at h; exact h)) ?_;refine Za6 ?_;refine Zy ?_;refine Zac ?_;refine qp (zaj L 900 (zab bs [.int .i64 r2.2.2] tyI) (.tuple #[.int .i64 r2.1, .int .i64 r2.2.1]) (r:=zab bs [.int .i64 r1.2.2] tyI) rfl rfl rfl rfl rfl (fun u H C hH hle hr hC => by have h:=zmx (rest:=rest) (cap:=cap) a2 hz hm hm1 (k:=r1.2.2) (by omega) hH (hle _ _ hb) hr hC; rw [← hr2] at h; exact h)) ?_;refine Za6 ?_;refine ZbV ?_;refine Zd ?_;refine qp (zaj L 900 (zab bs [.int .i64 r3.2.2] tyI) (.tuple #[.int .i64 r3.1, .int .i64 r3.2.1]) (r:=zab bs [.int .i64 r2.2.2] tyI) rfl rfl rfl rfl rfl (fun u H C hH hle hr hC => by have h:=zmx (rest:=rest) (cap:=cap) a1 b1 hm hm1 (k:=r2.2.2) (by omega) hH (hle _ _ hb) hr hC; rw [← hr3] at h; exact h)) ?_;refine Za6 ?_;refine Zu ?_;refine Zb ?_
 exact zgf L 900 (r:=zab bs _ tyI) (rs:=[.tmp 10]) rfl (fun _ _ h => h) Since.refl rfl rfl (fun _ => rfl)
theorem zv2 (d:Array Int) {x y z m k:Nat} (hx:x < m) (hy:y < m) (hz:z < m):(median lt d x y z k).1 < m ∧ (median lt d x y z k).2 ≤ k + 3:=by
 unfold median
 dsimp only
 obtain ⟨a1, a2, a3⟩:=zkl d (k:=k) hx hy
 obtain ⟨b1, b2, b3⟩:=zkl d (k:=(order2 lt d x y k).2.2) a2 hz
 obtain ⟨c1, c2, c3⟩:=zkl d (k:=(order2 lt d (order2 lt d x y k).2.1 z (order2 lt d x y k).2.2).2.2) a1 b1
 exact ⟨c2, by omega⟩
set_option maxRecDepth 20000 in
theorem zd8 {d:Array Int} {rest:List Value} {b m cap x bs k:Nat} (h1:1 ≤ x) (hx:x + 1 < m) (hm:d.size = m) (hm1:m ≤ 100000) (hk:k ≤ 900) {w:World} {B:Heap} {C:Nat → Prop} (hB:B.Le (hp w)) (hb:B b = some (.cells (uC d ++ rest).toArray tyU))
  (hr:(zab bs [.int .i64 k] tyI).P B w C) (hC:∀ k, C k → k < w.heap.size ∧ B k = none) :
  zd2 Tryz.prog 151 [.slice (some ⟨b, 0, none⟩) m cap, .int .i64 x, .pointer (some ⟨bs, 0, none⟩)] w B C (zab bs [.int .i64 (medianAdjacent lt d x k).2] tyI) (.int .i64 (medianAdjacent lt d x k).1):=by
 unfold zd2
 refine zau 900 (zab bs [.int .i64 k] tyI) Tryz.func151 rfl Tryz.ntmps151 (Nat.le_of_ble_eq_true rfl) hB hr hC ?_
 rw [za6]
 unfold medianAdjacent
 have hw1:IntKind.i64.wrap ((x:Int) - 1) = ((x - 1:Nat):Int):=zaa (by omega) (by omega) |>.trans (by omega)
 have hw2:IntKind.i64.wrap ((x:Int) + 1) = ((x + 1:Nat):Int):=zaa (by omega) (by omega)
 refine ZaD ?_;refine ZJ ?_;refine ZbJ ?_;refine Za ?_;refine qp (zaj L 900 (zab bs [.int .i64 (median lt d (x - 1) x (x + 1) k).2] tyI) (.int .i64 (median lt d (x - 1) x (x + 1) k).1) (r:=zab bs [.int .i64 k] tyI) rfl rfl rfl rfl rfl (fun u H C hH hle hr hC => zg3 (rest:=rest) (cap:=cap) (by omega) (by omega) (by omega) hm hm1 hk hH (hle _ _ hb) hr hC)) ?_;refine Zb ?_
 exact zgf L 900 (r:=zab bs _ tyI) (rs:=[.tmp 6]) rfl (fun _ _ h => h) Since.refl rfl rfl (fun _ => rfl)
end Go.V.So
set_option maxRecDepth 20000
namespace Go.V.So
open Go.Proofs Go.RowKit Go.V Go.Sort
theorem _root_.Go.V.Zfx {A B:Prop} (h:B) (t:Wr B → A:=by intro h; refine yo (qq L (q:=901) rfl rfl rfl rfl rfl rfl) ?_;exact h.h):A:=t ⟨h⟩
theorem _root_.Go.V.Zc3 {A B:Prop} (h:B) (t:Wr B → A:=by intro h; refine ZH ?_;refine Zbq ?_;exact h.h):A:=t ⟨h⟩
theorem _root_.Go.V.Zdx {A B:Prop} (h:B) (t:Wr B → A:=by intro h; refine ZdM ?_;refine Ze ?_;exact h.h):A:=t ⟨h⟩
theorem _root_.Go.V.Zdy {A B:Prop} (h:B) (t:Wr B → A:=by intro h; refine ZM ?_;refine Zd ?_;exact h.h):A:=t ⟨h⟩
def znc:Hint → Int
 | .unknown => 0
 | .increasing => 1
 | .decreasing => 2
attribute [local irreducible] V N X VO Par StepOK Has Ret RetL RetO zcd zd2 Src
set_option maxHeartbeats 1000000 in
set_option maxRecDepth 20000 in
theorem z1t {d:Array Int} {rest:List Value} {b m cap a e:Nat} (h12:12 < e - a) (he:e ≤ m) (hm:d.size = m) (hm1:m ≤ 100000) {w:World} {B:Heap} (hB:B.Le (hp w)) (hb:B b = some (.cells (uC d ++ rest).toArray tyU)) :
  Ret Tryz.prog 104 [.slice (some ⟨b, 0, none⟩) m cap, .int .i64 a, .int .i64 e] w B (fun v _ => v = .tuple #[.int .i64 (choosePivot lt d a e).1, .int .i64 (znc (choosePivot lt d a e).2)]):=by
 obtain ⟨Ln, rfl⟩:∃ Ln, e = a + Ln:=⟨e - a, by omega⟩
 rw [Nat.add_sub_cancel_left] at h12
 unfold choosePivot
 rw [Nat.add_sub_cancel_left]
 dsimp only
 obtain ⟨q, hq⟩:∃ q, q = Ln / 4:=⟨_, rfl⟩
 rw [← hq, if_pos (by omega)]
 have hw0:IntKind.i64.wrap (((a + Ln:Nat):Int) - (a:Int)) = (Ln:Int):=zaa (by omega) (by omega) |>.trans (by omega)
 have et:((Ln:Nat):Int).tdiv 4 = (q:Int):=by
  rw [Int.tdiv_eq_ediv_of_nonneg (by omega)]
  omega
 have hq1:IntKind.i64.wrap (((Ln:Nat):Int).tdiv 4) = (q:Int):=by rw [et]; exact zaa (by omega) (by omega)
 have m1:IntKind.i64.wrap ((q:Int) * 1) = ((q * 1:Nat):Int):=zaa (by omega) (by omega) |>.trans (by omega)
 have m2:IntKind.i64.wrap ((q:Int) * 2) = ((q * 2:Nat):Int):=zaa (by omega) (by omega) |>.trans (by omega)
 have m3:IntKind.i64.wrap ((q:Int) * 3) = ((q * 3:Nat):Int):=zaa (by omega) (by omega) |>.trans (by omega)
 have p1:IntKind.i64.wrap ((a:Int) + ((q * 1:Nat):Int)) = ((a + q * 1:Nat):Int):=zaa (by omega) (by omega) |>.trans (by omega)
 have p2:IntKind.i64.wrap ((a:Int) + ((q * 2:Nat):Int)) = ((a + q * 2:Nat):Int):=zaa (by omega) (by omega) |>.trans (by omega)
 have p3:IntKind.i64.wrap ((a:Int) + ((q * 3:Nat):Int)) = ((a + q * 3:Nat):Int):=zaa (by omega) (by omega) |>.trans (by omega)
 refine yf Tryz.func104 rfl Tryz.ntmps104 (Nat.le_of_ble_eq_true rfl) hB ?_
 refine ZaX ?_;refine ZS ?_;refine ZJ ?_;refine Ze ?_;refine Zy ?_;refine ZaV ?_;refine Zm ?_
 refine zpi 9 901 rfl fun bs => ?_
 by_cases h50:Ln ≥ 50
 ·rw [if_pos h50]
  obtain ⟨r1, hr1⟩:∃ r, r = medianAdjacent lt d (a + q * 1) 0:=⟨_, rfl⟩
  rw [← hr1]
  obtain ⟨r2, hr2⟩:∃ r, r = medianAdjacent lt d (a + q * 2) r1.2:=⟨_, rfl⟩
  rw [← hr2]
  obtain ⟨r3, hr3⟩:∃ r, r = medianAdjacent lt d (a + q * 3) r2.2:=⟨_, rfl⟩
  rw [← hr3]
  obtain ⟨r4, hr4⟩:∃ r, r = median lt d r1.1 r2.1 r3.1 r3.2:=⟨_, rfl⟩
  rw [← hr4]
  obtain ⟨l1, s1⟩:r1.1 < m ∧ r1.2 ≤ 0 + 3:=hr1 ▸ zv2 d (by omega) (by omega) (by omega)
  obtain ⟨l2, s2⟩:r2.1 < m ∧ r2.2 ≤ r1.2 + 3:=hr2 ▸ zv2 d (by omega) (by omega) (by omega)
  obtain ⟨l3, s3⟩:r3.1 < m ∧ r3.2 ≤ r2.2 + 3:=hr3 ▸ zv2 d (by omega) (by omega) (by omega)
  by_cases z0:r4.2 = 0
  ·rw [if_pos z0]
   refine ZbV ?_;refine Zdx ?_;refine ZcS ?_;refine Zdx ?_;refine Za8 ?_;refine ZdM ?_;refine Zdr ?_;refine ZaK ?_;refine Zc ?_;refine Z5 ?_;refine Zat ?_;refine Z0 ?_;refine Z8 ?_;refine Zd ?_;refine qp (zaj L 901 (zab bs [.int .i64 r1.2] tyI) (.int .i64 r1.1) (r:=zab bs [.int .i64 0] tyI) rfl rfl rfl rfl rfl (fun u H C hH hle hr hC => by have h:=zd8 (rest:=rest) (cap:=cap) (d:=d) (x:=a + q * 1) (k:=0) (by omega) (by omega) hm hm1 (by omega) hH (hle _ _ hb) hr hC; rw [← hr1] at h; exact h)) ?_;refine Ze ?_;refine Zdy ?_;refine qp (zaj L 901 (zab bs [.int .i64 r2.2] tyI) (.int .i64 r2.1) (r:=zab bs [.int .i64 r1.2] tyI) rfl rfl rfl rfl rfl (fun u H C hH hle hr hC => by have h:=zd8 (rest:=rest) (cap:=cap) (d:=d) (x:=a + q * 2) (k:=r1.2) (by omega) (by omega) hm hm1 (by omega) hH (hle _ _ hb) hr hC; rw [← hr2] at h; exact h)) ?_;refine Zb ?_;refine ZdZ ?_;refine qp (zaj L 901 (zab bs [.int .i64 r3.2] tyI) (.int .i64 r3.1) (r:=zab bs [.int .i64 r2.2] tyI) rfl rfl rfl rfl rfl (fun u H C hH hle hr hC => by have h:=zd8 (rest:=rest) (cap:=cap) (d:=d) (x:=a + q * 3) (k:=r2.2) (by omega) (by omega) hm hm1 (by omega) hH (hle _ _ hb) hr hC; rw [← hr3] at h; exact h)) ?_;refine Zb ?_;refine Zak ?_;refine Zac ?_;refine qp (zaj L 901 (zab bs [.int .i64 r4.2] tyI) (.int .i64 r4.1) (r:=zab bs [.int .i64 r3.2] tyI) rfl rfl rfl rfl rfl (fun u H C hH hle hr hC => by have h:=zg3 (rest:=rest) (cap:=cap) (d:=d) (x:=r1.1) (y:=r2.1) (z:=r3.1) (k:=r3.2) (by omega) (by omega) (by omega) hm hm1 (by omega) hH (hle _ _ hb) hr hC; rw [← hr4] at h; exact h)) ?_;refine Ze ?_;refine ZQ ?_;refine Zfx ?_;refine Z6 ?_;refine Zai ?_;refine Zaw ?_;refine Z3 ?_;refine Zbr ?_;refine Zeb ?_;refine Zk ?_
   refine ye L (rs:=[.tmp 6, .tmp 7]) rfl (fun _ _ h => h) Since.refl fun u H hH hle => ?_
   rfl
  ·rw [if_neg z0]
   by_cases z12:r4.2 = 12
   ·rw [if_pos z12]
    refine ZbV ?_;refine Zdx ?_;refine ZcS ?_;refine Zdx ?_;refine Za8 ?_;refine ZdM ?_;refine Zdr ?_;refine ZaK ?_;refine Zc ?_;refine Z5 ?_;refine Zat ?_;refine Z0 ?_;refine Z8 ?_;refine Zd ?_;refine qp (zaj L 901 (zab bs [.int .i64 r1.2] tyI) (.int .i64 r1.1) (r:=zab bs [.int .i64 0] tyI) rfl rfl rfl rfl rfl (fun u H C hH hle hr hC => by have h:=zd8 (rest:=rest) (cap:=cap) (d:=d) (x:=a + q * 1) (k:=0) (by omega) (by omega) hm hm1 (by omega) hH (hle _ _ hb) hr hC; rw [← hr1] at h; exact h)) ?_;refine Ze ?_;refine Zdy ?_;refine qp (zaj L 901 (zab bs [.int .i64 r2.2] tyI) (.int .i64 r2.1) (r:=zab bs [.int .i64 r1.2] tyI) rfl rfl rfl rfl rfl (fun u H C hH hle hr hC => by have h:=zd8 (rest:=rest) (cap:=cap) (d:=d) (x:=a + q * 2) (k:=r1.2) (by omega) (by omega) hm hm1 (by omega) hH (hle _ _ hb) hr hC; rw [← hr2] at h; exact h)) ?_;refine Zb ?_;refine ZdZ ?_;refine qp (zaj L 901 (zab bs [.int .i64 r3.2] tyI) (.int .i64 r3.1) (r:=zab bs [.int .i64 r2.2] tyI) rfl rfl rfl rfl rfl (fun u H C hH hle hr hC => by have h:=zd8 (rest:=rest) (cap:=cap) (d:=d) (x:=a + q * 3) (k:=r2.2) (by omega) (by omega) hm hm1 (by omega) hH (hle _ _ hb) hr hC; rw [← hr3] at h; exact h)) ?_;refine Zb ?_;refine Zak ?_;refine Zac ?_;refine qp (zaj L 901 (zab bs [.int .i64 r4.2] tyI) (.int .i64 r4.1) (r:=zab bs [.int .i64 r3.2] tyI) rfl rfl rfl rfl rfl (fun u H C hH hle hr hC => by have h:=zg3 (rest:=rest) (cap:=cap) (d:=d) (x:=r1.1) (y:=r2.1) (z:=r3.1) (k:=r3.2) (by omega) (by omega) (by omega) hm hm1 (by omega) hH (hle _ _ hb) hr hC; rw [← hr4] at h; exact h)) ?_;refine Ze ?_;refine ZQ ?_;refine Zfx ?_;refine Z6 ?_;refine Zai ?_;refine Zaw ?_;refine Zc3 ?_;refine Zap ?_;refine Z3 ?_;refine Zbr ?_;refine Zca ?_;refine Za ?_;refine Zk ?_
    refine ye L (rs:=[.tmp 6, .tmp 7]) rfl (fun _ _ h => h) Since.refl fun u H hH hle => ?_
    rfl
   ·rw [if_neg z12]
    refine ZbV ?_;refine Zdx ?_;refine ZcS ?_;refine Zdx ?_;refine Za8 ?_;refine ZdM ?_;refine Zdr ?_;refine ZaK ?_;refine Zc ?_;refine Z5 ?_;refine Zat ?_;refine Z0 ?_;refine Z8 ?_;refine Zd ?_;refine qp (zaj L 901 (zab bs [.int .i64 r1.2] tyI) (.int .i64 r1.1) (r:=zab bs [.int .i64 0] tyI) rfl rfl rfl rfl rfl (fun u H C hH hle hr hC => by have h:=zd8 (rest:=rest) (cap:=cap) (d:=d) (x:=a + q * 1) (k:=0) (by omega) (by omega) hm hm1 (by omega) hH (hle _ _ hb) hr hC; rw [← hr1] at h; exact h)) ?_;refine Ze ?_;refine Zdy ?_;refine qp (zaj L 901 (zab bs [.int .i64 r2.2] tyI) (.int .i64 r2.1) (r:=zab bs [.int .i64 r1.2] tyI) rfl rfl rfl rfl rfl (fun u H C hH hle hr hC => by have h:=zd8 (rest:=rest) (cap:=cap) (d:=d) (x:=a + q * 2) (k:=r1.2) (by omega) (by omega) hm hm1 (by omega) hH (hle _ _ hb) hr hC; rw [← hr2] at h; exact h)) ?_;refine Zb ?_;refine ZdZ ?_;refine qp (zaj L 901 (zab bs [.int .i64 r3.2] tyI) (.int .i64 r3.1) (r:=zab bs [.int .i64 r2.2] tyI) rfl rfl rfl rfl rfl (fun u H C hH hle hr hC => by have h:=zd8 (rest:=rest) (cap:=cap) (d:=d) (x:=a + q * 3) (k:=r2.2) (by omega) (by omega) hm hm1 (by omega) hH (hle _ _ hb) hr hC; rw [← hr3] at h; exact h)) ?_;refine Zb ?_;refine Zak ?_;refine Zac ?_;refine qp (zaj L 901 (zab bs [.int .i64 r4.2] tyI) (.int .i64 r4.1) (r:=zab bs [.int .i64 r3.2] tyI) rfl rfl rfl rfl rfl (fun u H C hH hle hr hC => by have h:=zg3 (rest:=rest) (cap:=cap) (d:=d) (x:=r1.1) (y:=r2.1) (z:=r3.1) (k:=r3.2) (by omega) (by omega) (by omega) hm hm1 (by omega) hH (hle _ _ hb) hr hC; rw [← hr4] at h; exact h)) ?_;refine Ze ?_;refine ZQ ?_;refine Zfx ?_;refine Z6 ?_;refine Zai ?_;refine Zaw ?_;refine Zc3 ?_;refine Zap ?_;refine Zc3 ?_;refine Zcs ?_;refine Zk ?_
    refine ye L (rs:=[.tmp 6, .tmp 7]) rfl (fun _ _ h => h) Since.refl fun u H hH hle => ?_
    rfl
 ·rw [if_neg h50]
  obtain ⟨r4, hr4⟩:∃ r, r = median lt d (a + q * 1) (a + q * 2) (a + q * 3) 0:=⟨_, rfl⟩
  rw [← hr4]
  by_cases z0:r4.2 = 0
  ·rw [if_pos z0]
   refine ZbV ?_;refine Zdx ?_;refine ZcS ?_;refine Zdx ?_;refine Za8 ?_;refine ZdM ?_;refine Zdr ?_;refine ZaK ?_;refine Zc ?_;refine Z5 ?_;refine ZA ?_;refine Zeu ?_;refine Zak ?_;refine Zac ?_;refine qp (zaj L 901 (zab bs [.int .i64 r4.2] tyI) (.int .i64 r4.1) (r:=zab bs [.int .i64 0] tyI) rfl rfl rfl rfl rfl (fun u H C hH hle hr hC => by have h:=zg3 (rest:=rest) (cap:=cap) (d:=d) (x:=a + q * 1) (y:=a + q * 2) (z:=a + q * 3) (k:=0) (by omega) (by omega) (by omega) hm hm1 (by omega) hH (hle _ _ hb) hr hC; rw [← hr4] at h; exact h)) ?_;refine Ze ?_;refine ZQ ?_;refine Zfx ?_;refine Z6 ?_;refine Zai ?_;refine Zaw ?_;refine Z3 ?_;refine Zbr ?_;refine Zeb ?_;refine Zk ?_
   refine ye L (rs:=[.tmp 6, .tmp 7]) rfl (fun _ _ h => h) Since.refl fun u H hH hle => ?_
   rfl
  ·rw [if_neg z0]
   by_cases z12:r4.2 = 12
   ·rw [if_pos z12]
    refine ZbV ?_;refine Zdx ?_;refine ZcS ?_;refine Zdx ?_;refine Za8 ?_;refine ZdM ?_;refine Zdr ?_;refine ZaK ?_;refine Zc ?_;refine Z5 ?_;refine ZA ?_;refine Zeu ?_;refine Zak ?_;refine Zac ?_;refine qp (zaj L 901 (zab bs [.int .i64 r4.2] tyI) (.int .i64 r4.1) (r:=zab bs [.int .i64 0] tyI) rfl rfl rfl rfl rfl (fun u H C hH hle hr hC => by have h:=zg3 (rest:=rest) (cap:=cap) (d:=d) (x:=a + q * 1) (y:=a + q * 2) (z:=a + q * 3) (k:=0) (by omega) (by omega) (by omega) hm hm1 (by omega) hH (hle _ _ hb) hr hC; rw [← hr4] at h; exact h)) ?_;refine Ze ?_;refine ZQ ?_;refine Zfx ?_;refine Z6 ?_;refine Zai ?_;refine Zaw ?_;refine Zc3 ?_;refine Zap ?_;refine Z3 ?_;refine Zbr ?_;refine Zca ?_;refine Za ?_;refine Zk ?_
    refine ye L (rs:=[.tmp 6, .tmp 7]) rfl (fun _ _ h => h) Since.refl fun u H hH hle => ?_
    rfl
   ·rw [if_neg z12]
    refine ZbV ?_;refine Zdx ?_;refine ZcS ?_;refine Zdx ?_;refine Za8 ?_;refine ZdM ?_;refine Zdr ?_;refine ZaK ?_;refine Zc ?_;refine Z5 ?_;refine ZA ?_;refine Zeu ?_;refine Zak ?_;refine Zac ?_;refine qp (zaj L 901 (zab bs [.int .i64 r4.2] tyI) (.int .i64 r4.1) (r:=zab bs [.int .i64 0] tyI) rfl rfl rfl rfl rfl (fun u H C hH hle hr hC => by have h:=zg3 (rest:=rest) (cap:=cap) (d:=d) (x:=a + q * 1) (y:=a + q * 2) (z:=a + q * 3) (k:=0) (by omega) (by omega) (by omega) hm hm1 (by omega) hH (hle _ _ hb) hr hC; rw [← hr4] at h; exact h)) ?_;refine Ze ?_;refine ZQ ?_;refine Zfx ?_;refine Z6 ?_;refine Zai ?_;refine Zaw ?_;refine Zc3 ?_;refine Zap ?_;refine Zc3 ?_;refine Zcs ?_;refine Zk ?_
    refine ye L (rs:=[.tmp 6, .tmp 7]) rfl (fun _ _ h => h) Since.refl fun u H hH hle => ?_
    rfl
end Go.V.So
set_option maxRecDepth 20000
namespace Go.V.So
open Go.Proofs Go.RowKit Go.V Go.Sort
theorem _root_.Go.V.Ze8 {A B:Prop} (h:B) (t:Wr B → A:=by intro h; refine qg (id:=17) [(200080, [900]), (200084, [900])] mixed (by kernel_rfl) ?_;exact h.h):A:=t ⟨h⟩
theorem _root_.Go.V.Ze9 {A B:Prop} (h:B) (t:Wr B → A:=by intro h; refine zf (id:=23) ?_;refine Za ?_;exact h.h):A:=t ⟨h⟩
theorem _root_.Go.V.ZeT {A B:Prop} (h:B) (t:Wr B → A:=by intro h; refine Ze ?_;refine zf (id:=24) ?_;exact h.h):A:=t ⟨h⟩
theorem _root_.Go.V.ZeU {A B:Prop} (h:B) (t:Wr B → A:=by intro h; refine zf (id:=25) ?_;refine Zd ?_;exact h.h):A:=t ⟨h⟩
theorem _root_.Go.V.Zdz {A B:Prop} (h:B) (t:Wr B → A:=by intro h; refine ZeC ?_;refine zh ?_;exact h.h):A:=t ⟨h⟩
theorem zwm {h:Hint}:znc h = 2 ↔ h = .decreasing:=by cases h <;> simp [znc]
theorem z2c {b:Nat} {cs:List Value} {ty:TypeId}:∀ v H u C, (zan b cs ty).P v H u C → joinH H u C b = some (.cells cs.toArray ty):=fun _ _ _ _ ⟨hb, hC⟩ => (zfk ((hC b).2 rfl)).trans hb
attribute [local irreducible] V N X VO Par StepOK Has Ret RetL RetO zcd zd2 Src
set_option maxHeartbeats 4000000 in
set_option maxRecDepth 20000 in
theorem z1x:∀ (N:Nat) {d:Array Int} {rest:List Value} {b m cap a e lim:Nat} (_:e - a < N) (_:a ≤ e) (_:e ≤ m) (_:d.size = m) (_:m ≤ 100000) (_:lim ≤ 1000) (_:Below lt a e d) {w:World} {B:Heap} {C:Nat → Prop} (_:B.Le (hp w))
  (_:(zab b (uC d ++ rest) tyU).P B w C) (_:∀ k, C k → k < w.heap.size ∧ B k = none),
  zcd Tryz.prog 72 [.slice (some ⟨b, 0, none⟩) m cap, .int .i64 a, .int .i64 e, .int .i64 lim] w B C (zab b (uC (pdq lt d a e lim true true) ++ rest) tyU):=by
 intro N
 induction N with
 | zero => intro d rest b m cap a e lim h; omega
 | succ N ih =>
 intro d rest b m cap a e lim hN hab he hm hm1 hlim hBel w B C hB hr hC
 unfold zcd
 refine zau 900 (zab b (uC d ++ rest) tyU) Tryz.func72 rfl Tryz.ntmps72 (Nat.le_of_ble_eq_true rfl) hB hr hC ?_
 rw [za6]
 obtain ⟨X, hX⟩:∃ X, X = pdq lt d a e lim true true:=⟨_, rfl⟩
 rw [← hX]
 refine ZaD ?_;refine ZE ?_
 refine zal (fun s:((Nat × Nat) × Nat) × ((Bool × Bool) × Array Int) => [(0, .is (.slice (some ⟨b, 0, none⟩) m cap)), (1, .is (.int .i64 s.1.1.1)), (2, .is (.int .i64 s.1.1.2)), (3, .is (.int .i64 s.1.2)), (8, .is (.bool s.2.1.1)), (9, .is (.bool s.2.1.2)), (900, .own (zan b (uC s.2.2 ++ rest) tyU))])
  (fun s => s.1.1.1 ≤ s.1.1.2 ∧ s.1.1.2 ≤ m ∧ s.1.1.2 - s.1.1.1 ≤ e - a ∧ s.1.2 ≤ 1000 ∧ s.2.2.size = m ∧ Below lt s.1.1.1 s.1.1.2 s.2.2 ∧ pdq lt s.2.2 s.1.1.1 s.1.1.2 s.1.2 s.2.1.1 s.2.1.2 = X) (fun s => s.1.1.2 - s.1.1.1) (((a, e), lim), ((true, true), d)) ⟨hab, he, Nat.le_refl _, hlim, hm, hBel, hX.symm⟩ ⟨rfl, rfl, rfl, rfl, rfl, rfl, rfl, trivial⟩ ?_
 rintro ⟨⟨⟨x, y⟩, l⟩, ⟨⟨wb, wp⟩, D⟩⟩ ⟨hxy, hy, hL, hl, hD, hBl, hP⟩
 dsimp only at hxy hy hL hl hD hBl hP ⊢
 clear hX hBel hm
 have hw0:IntKind.i64.wrap ((y:Int) - (x:Int)) = ((y - x:Nat):Int):=zaa (by omega) (by omega) |>.trans (by omega)
 by_cases h12:y - x ≤ 12
 ·rw [pdq_small h12] at hP
  rw [← hP]
  refine Zai ?_;refine Zy ?_;refine ZJ ?_;refine ZcQ ?_;refine Zb2 ?_;refine ZcK ?_;refine Z2 ?_;refine qp (za5 L 900 (zab b (uC (insertionSort lt D x y) ++ rest) tyU) (r:=zab b (uC D ++ rest) tyU) rfl rfl rfl rfl rfl (fun u H C hH _ hr hC => ins_ret hxy (by omega) hD hm1 hH hr hC)) ?_;refine Z6 ?_
  exact zbm L 900 (r:=zab b _ tyU) rfl (fun _ _ h => h) Since.refl rfl rfl
 ·by_cases hl0:l = 0
  ·rw [pdq_heap h12 hl0] at hP
   rw [← hP]
   refine Zai ?_;refine Zy ?_;refine ZJ ?_;refine ZcQ ?_;refine Zbp ?_;refine Zr ?_;refine Z9 ?_;refine ZbZ ?_;refine Zz ?_;refine Z2 ?_;refine qp (za5 L 900 (zab b (uC (heapSort lt D x y) ++ rest) tyU) (r:=zab b (uC D ++ rest) tyU) rfl rfl rfl rfl rfl (fun u H C hH _ hr hC => zy0 (by omega) (by omega) hD hm1 hH hr hC)) ?_;refine Z6 ?_
   exact zbm L 900 (r:=zab b _ tyU) rfl (fun _ _ h => h) Since.refl rfl rfl
  ·obtain ⟨s1, B1, hc1, s2, B2, hpv, s3, B3⟩:=rd_facts (lt:=lt) (limit:=l) (wb:=wb) (wp:=wp) swo_ltInt partialInsertionSort_holds reverseRange_holds (show x < y by omega) (show y ≤ D.size by omega) hBl
   have hlle:(rd lt D x y l wb wp).lim ≤ 1000:=Nat.le_trans rd_lim_le hl
   have hdone:=fun h => pdq_done (lt:=lt) (d:=D) (wb:=wb) (wp:=wp) h12 hl0 h
   have heq:=fun h1 h2 h3 => pdq_eq (lt:=lt) (d:=D) (wb:=wb) (wp:=wp) h12 hl0 h1 h2 h3
   have hleft:=fun h1 h2 h3 h4 => pdq_left (lt:=lt) (d:=D) (wb:=wb) (wp:=wp) h12 hl0 h1 h2 h3 h4
   have hright:=fun h1 h2 h3 h4 => pdq_right (lt:=lt) (d:=D) (wb:=wb) (wp:=wp) h12 hl0 h1 h2 h3 h4
   have hrt:wb = true → (rd lt D x y l wb wp).d1 = D ∧ (rd lt D x y l wb wp).lim = l:=fun e => by subst e; exact rd_true
   have hrf:wb = false → (rd lt D x y l wb wp).d1 = breakPatterns D x y ∧ (rd lt D x y l wb wp).lim = l - 1:=fun e => by subst e; exact rd_false
   have hrc:=rd_c (lt:=lt) (d:=D) (a:=x) (b:=y) (limit:=l) (wb:=wb) (wp:=wp)
   have hde:=fun h => rd_dec (lt:=lt) (d:=D) (a:=x) (b:=y) (limit:=l) (wb:=wb) (wp:=wp) h
   have hno:=fun h => rd_not (lt:=lt) (d:=D) (a:=x) (b:=y) (limit:=l) (wb:=wb) (wp:=wp) h
   have hpy:=fun h => rd_pi_yes (lt:=lt) (d:=D) (a:=x) (b:=y) (limit:=l) (wb:=wb) (wp:=wp) h
   have hpn:=fun h => rd_pi_no (lt:=lt) (d:=D) (a:=x) (b:=y) (limit:=l) (wb:=wb) (wp:=wp) h
   rw [hP] at hdone heq hleft hright
   generalize (rd lt D x y l wb wp) = R at *
   refine Zai ?_;refine Zy ?_;refine ZJ ?_;refine ZcQ ?_;refine Zbp ?_;refine Zr ?_;refine Z9 ?_;refine Zbs ?_
   refine zfo (fun _:Unit => [(0, .is (.slice (some ⟨b, 0, none⟩) m cap)), (1, .is (.int .i64 x)), (2, .is (.int .i64 y)), (3, .is (.int .i64 R.lim)), (8, .is (.bool wb)), (9, .is (.bool wp)), (10, .is (.int .i64 (y - x:Nat))), (900, .own (zan b (uC R.d1 ++ rest) tyU))]) (fun _ => True) (fun _ => []) ?rest1 ?first1
   case first1 =>
    cases wb with
    | true =>
     obtain ⟨e1, e2⟩:=hrt rfl
     rw [e1, e2]
     refine Z5 ?_;refine Zs ?_;refine ZaC ?_
     exact za7 () Since.refl trivial rfl ⟨rfl, rfl, rfl, rfl, rfl, rfl, rfl, rfl, trivial⟩
    | false =>
     obtain ⟨e1, e2⟩:=hrf rfl
     have hw1:IntKind.i64.wrap ((l:Int) - 1) = ((l - 1:Nat):Int):=zaa (by omega) (by omega) |>.trans (by omega)
     rw [e1, e2]
     refine Z5 ?_;refine Zs ?_;refine Z0 ?_;refine Z8 ?_;refine Z2 ?_;refine qp (za5 L 900 (zab b (uC (breakPatterns D x y) ++ rest) tyU) (r:=zab b (uC D ++ rest) tyU) rfl rfl rfl rfl rfl (fun u H C hH _ hr hC => z2x (by omega) (by omega) hD hm1 hH hr hC)) ?_;refine Z6 ?_;refine ZM ?_;refine Zal ?_;refine ZaT ?_
     exact za7 () Since.refl trivial rfl ⟨rfl, rfl, rfl, rfl, rfl, rfl, rfl, rfl, trivial⟩
   intro _ _
   refine zh ?_;refine Zag ?_;refine Z2 ?_;refine yo (zak L 900 (Φ:=fun H => H b = some (.cells (uC R.d1 ++ rest).toArray tyU)) (c:=.tuple #[.int .i64 R.c.1, .int .i64 (znc R.c.2)]) rfl rfl (zk rfl) rfl rfl rfl rfl rfl z2c (fun u H hH hle h1 => by rw [hrc]; exact z1t (by omega) hy (by omega) hm1 hH h1)) ?_;refine ZcJ ?_
   refine zfo (fun _:Unit => [(0, .is (.slice (some ⟨b, 0, none⟩) m cap)), (1, .is (.int .i64 x)), (2, .is (.int .i64 y)), (3, .is (.int .i64 R.lim)), (8, .is (.bool wb)), (9, .is (.bool wp)), (10, .is (.int .i64 (y - x:Nat))), (11, .is (.int .i64 R.pivot)), (12, .is (.int .i64 (znc R.hint))), (900, .own (zan b (uC R.d2 ++ rest) tyU))]) (fun _ => True) (fun _ => []) ?rest2 ?first2
   case first2 =>
    by_cases hdec:R.c.2 = .decreasing
    ·obtain ⟨e1, e2, e3⟩:=hde hdec
     have hz:znc R.c.2 = 2:=by rw [hdec]; rfl
     rw [e1, e2, e3]
     have w1:IntKind.i64.wrap ((y:Int) - 1) = ((y - 1:Nat):Int):=zaa (by omega) (by omega) |>.trans (by omega)
     have w2:IntKind.i64.wrap ((R.c.1:Int) - (x:Int)) = ((R.c.1 - x:Nat):Int):=zaa (by omega) (by omega) |>.trans (by omega)
     have w3:IntKind.i64.wrap (((y - 1:Nat):Int) - ((R.c.1 - x:Nat):Int)) = ((y - 1 - (R.c.1 - x):Nat):Int):=zaa (by omega) (by omega) |>.trans (by omega)
     refine Zb5 ?_;refine ZbZ ?_;refine ZQ ?_;refine Z2 ?_;refine qp (za5 L 900 (zab b (uC (reverseRange R.d1 x y) ++ rest) tyU) (r:=zab b (uC R.d1 ++ rest) tyU) rfl rfl rfl rfl rfl (fun u H C hH _ hr hC => rev_ret (by omega) (by omega) (by omega) hm1 hH hr hC)) ?_;refine Zm ?_;refine Zcr ?_;refine Zal ?_;refine ZJ ?_;refine Za7 ?_;refine Zb ?_;refine Zaw ?_;refine ZaT ?_
     exact za7 () Since.refl trivial rfl ⟨rfl, rfl, rfl, rfl, rfl, rfl, rfl, rfl, rfl, rfl, trivial⟩
    ·obtain ⟨e1, e2, e3⟩:=hno hdec
     have hz:znc R.c.2 ≠ 2:=fun h => hdec (zwm.1 h)
     rw [e1, e2, e3]
     refine Zb5 ?_;refine ZH ?_;refine ZaC ?_
     exact za7 () Since.refl trivial rfl ⟨rfl, rfl, rfl, rfl, rfl, rfl, rfl, rfl, rfl, rfl, trivial⟩
   intro _ _
   refine zh (zh (zfo (fun _:Unit => [(0, .is (.slice (some ⟨b, 0, none⟩) m cap)), (1, .is (.int .i64 x)), (2, .is (.int .i64 y)), (3, .is (.int .i64 R.lim)), (8, .is (.bool wb)), (9, .is (.bool wp)), (10, .is (.int .i64 (y - x:Nat))), (11, .is (.int .i64 R.pivot)), (900, .own (zan b (uC R.pi.1 ++ rest) tyU))]) (fun _ => R.pi.2 = false) (fun _ => []) ?rest3 ?first3))
   case first3 =>
    cases wb with
    | false =>
     have hpi:=hpn rfl
     rw [hpi]
     refine Za9 ?_;refine Zd ?_;refine Zc8 ?_;refine ZdE ?_;refine ZaC ?_
     exact za7 () Since.refl rfl rfl ⟨rfl, rfl, rfl, rfl, rfl, rfl, rfl, rfl, rfl, trivial⟩
    | true =>
     cases wp with
     | false =>
      have hpi:=hpn rfl
      rw [hpi]
      refine Za9 ?_;refine Z2 ?_;refine Zg ?_;refine ZdE ?_;refine ZaC ?_
      exact za7 () Since.refl rfl rfl ⟨rfl, rfl, rfl, rfl, rfl, rfl, rfl, rfl, rfl, trivial⟩
     | true =>
      by_cases hi:R.hint = .increasing
      ·have hz:znc R.hint = 1:=by rw [hi]; rfl
       have hpi:=hpy (by rw [hi]; rfl)
       cases hb:(partialInsertionSort lt R.d2 x y).2 with
       | true =>
        rw [hdone (by rw [hpi]; exact hb)]
        refine Za9 ?_;refine Z2 ?_;refine Zad ?_;refine Z3 ?_;refine Zg ?_;refine Z0 ?_;refine Zap ?_;refine Z2 ?_;refine qp (zaj L 900 (zab b (uC R.pi.1 ++ rest) tyU) (.bool true) (r:=zab b (uC R.d2 ++ rest) tyU) rfl rfl rfl rfl rfl (fun u H C hH hle hr hC => by have h:=pins_ret (rest:=rest) (cap:=cap) (d:=R.d2) (a:=x) (e:=y) (m:=m) (by omega) (by omega) (by omega) hm1 hH hr hC; rw [hb, ← hpi] at h; exact h)) ?_;refine ZW ?_
        exact zbm L 900 (r:=zab b _ tyU) rfl (fun _ _ h => h) Since.refl rfl rfl
       | false =>
        refine Za9 ?_;refine Z2 ?_;refine Zad ?_;refine Z3 ?_;refine Zg ?_;refine Z0 ?_;refine Zap ?_;refine Z2 ?_;refine qp (zaj L 900 (zab b (uC R.pi.1 ++ rest) tyU) (.bool false) (r:=zab b (uC R.d2 ++ rest) tyU) rfl rfl rfl rfl rfl (fun u H C hH hle hr hC => by have h:=pins_ret (rest:=rest) (cap:=cap) (d:=R.d2) (a:=x) (e:=y) (m:=m) (by omega) (by omega) (by omega) hm1 hH hr hC; rw [hb, ← hpi] at h; exact h)) ?_;refine ZaC ?_
        exact za7 () Since.refl (by rw [hpi]; exact hb) rfl ⟨rfl, rfl, rfl, rfl, rfl, rfl, rfl, rfl, rfl, trivial⟩
      ·have hz:znc R.hint ≠ 1:=fun h => by
        cases hh:R.hint with
        | unknown => rw [hh] at h; cases h
        | increasing => exact hi hh
        | decreasing => rw [hh] at h; cases h
       have hpi:=hpn (by simp [hi])
       rw [hpi]
       refine Za9 ?_;refine Z2 ?_;refine Zad ?_;refine ZH ?_;refine Zg ?_;refine ZaC ?_
       exact za7 () Since.refl rfl rfl ⟨rfl, rfl, rfl, rfl, rfl, rfl, rfl, rfl, rfl, trivial⟩
   intro _ h2
   obtain ⟨_, q2⟩:=zdb (rest:=rest) (show R.pivot < R.pi.1.size by omega) (0 + (R.pivot) * 1) rfl
   by_cases hx0:0 < x
   ·obtain ⟨_, q1⟩:=zdb (rest:=rest) (show x - 1 < R.pi.1.size by omega) (0 + (x - 1) * 1) rfl
    have hw3:IntKind.i64.wrap ((x:Int) - 1) = ((x - 1:Nat):Int):=zaa (by omega) (by omega) |>.trans (by omega)
    cases hc:lt R.pi.1[x - 1]! R.pi.1[R.pivot]! with
    | false =>
     obtain ⟨mid, d4, hx⟩:∃ mid d4, partitionEqual lt R.pi.1 x y R.pivot = (mid, d4):=⟨_, _, rfl⟩
     obtain ⟨g1, g2, g3, g4, _⟩:=round_eq swo_ltInt (partitionEqual_holds lt) hx0 hpv.1 hpv.2 (by omega) B3 hc hx
     have hn:=heq h2 (by simp [hx0, hc]) (by rw [hx]; exact ⟨g1, g2⟩)
     rw [hx] at hn
     refine Zc ?_;refine Ze8 ?_;refine Zh ?_;refine Zdb ?_;refine ZeM ?_;refine Zex ?_;refine Zl ?_;refine qn (qq L (q:=900) rfl rfl rfl rfl rfl q1) rfl rfl ?_;refine Zn ?_;refine qn (qq L (q:=900) rfl rfl rfl rfl rfl q2) rfl rfl ?_;refine z8 (zp L rfl rfl (zk rfl) rfl rfl rfl (fun u H hH _ _ => zbg hc hH)) rfl ?_;refine ZI ?_;refine Zfd ?_;refine ZdA ?_;refine ZdG ?_;refine Zac ?_;refine qp (zaj L 900 (zab b (uC d4 ++ rest) tyU) (.int .i64 mid) (r:=zab b (uC R.pi.1 ++ rest) tyU) rfl rfl rfl rfl rfl (fun u H C hH hle hr hC => by have h:=z1w (rest:=rest) (cap:=cap) (d:=R.pi.1) hpv.1 hpv.2 (by omega) (m:=m) (by omega) hm1 hH hr hC; rw [hx] at h; exact h)) ?_;refine Ze ?_;refine ZbA ?_;refine Za ?_;refine Zb ?_;refine ZeD ?_;refine yt ?_
     exact yi (x:=(((x, y), l), ((wb, wp), D))) (((mid, y), R.lim), ((wb, wp), d4)) ⟨by dsimp only; omega, hy, by dsimp only; omega, hlle, by dsimp only; omega, g4, hn.symm⟩ (by dsimp only; omega) ⟨rfl, rfl, rfl, rfl, rfl, rfl, rfl, trivial⟩
    | true =>
     have h2b:(decide (x > 0) && !lt R.pi.1[x - 1]! R.pi.1[R.pivot]!) = false:=by simp [hc]
     obtain ⟨mid, ap, d4, hx⟩:∃ mid ap d4, Go.Sort.partition lt R.pi.1 x y R.pivot = (mid, ap, d4):=⟨_, _, _, rfl⟩
     obtain ⟨g1, g2, g3, g4, g5, gL, gR⟩:=round_part swo_ltInt (partition_holds lt) hpv.1 hpv.2 (by omega) B3 hx
     have w1:IntKind.i64.wrap ((mid:Int) - (x:Int)) = ((mid - x:Nat):Int):=zaa (by omega) (by omega) |>.trans (by omega)
     have w2:IntKind.i64.wrap ((y:Int) - (mid:Int)) = ((y - mid:Nat):Int):=zaa (by omega) (by omega) |>.trans (by omega)
     have w4:IntKind.i64.wrap ((mid:Int) + 1) = ((mid + 1:Nat):Int):=zaa (by omega) (by omega)
     have et:((y - x:Nat):Int).tdiv 8 = (((y - x) / 8:Nat):Int):=by
      rw [Int.tdiv_eq_ediv_of_nonneg (by omega)]
      omega
     have w3:IntKind.i64.wrap (((y - x:Nat):Int).tdiv 8) = (((y - x) / 8:Nat):Int):=by rw [et]; exact zaa (by omega) (by omega)
     by_cases hlr:mid - x < y - mid
     ·have hn:=hleft h2 h2b (by rw [hx]; exact ⟨g1, g2⟩) (by rw [hx]; exact hlr)
      rw [hx] at hn
      dsimp only at hn
      obtain ⟨pL, sL⟩:=pdq_sorts lt swo_ltInt d4 x mid R.lim true true g1 (by omega) g4
      obtain ⟨LL, hLL⟩:∃ LL, LL = pdq lt d4 x mid R.lim true true:=⟨_, rfl⟩
      rw [← hLL] at hn pL sL
      obtain ⟨gB, _⟩:=gL LL pL sL
      have hLs:LL.size = d4.size:=pL.1
      by_cases h8:mid - x ≥ (y - x) / 8
      ·rw [decide_eq_true h8] at hn
       refine Zc ?_;refine Ze8 ?_;refine Zh ?_;refine Zdb ?_;refine ZeM ?_;refine Zex ?_;refine Zl ?_;refine qn (qq L (q:=900) rfl rfl rfl rfl rfl q1) rfl rfl ?_;refine Zn ?_;refine qn (qq L (q:=900) rfl rfl rfl rfl rfl q2) rfl rfl ?_;refine z8 (zp L rfl rfl (zk rfl) rfl rfl rfl (fun u H hH _ _ => zbg hc hH)) rfl ?_;refine ZI ?_;refine Zei ?_;refine ZaP ?_;refine Zac ?_;refine qp (zaj L 900 (zab b (uC d4 ++ rest) tyU) (.tuple #[.int .i64 mid, .bool ap]) (r:=zab b (uC R.pi.1 ++ rest) tyU) rfl rfl rfl rfl rfl (fun u H C hH hle hr hC => by have h:=zes (rest:=rest) (cap:=cap) (d:=R.pi.1) hpv.1 hpv.2 (by omega) (m:=m) (by omega) hm1 hH hr hC; rw [hx] at h; exact h)) ?_;refine Za6 ?_;refine ZcR ?_;refine Ze ?_;refine ZbN ?_;refine ZJ ?_;refine ZJ ?_;refine Zav ?_;refine Ze9 ?_;refine Zc1 ?_;refine ZeT ?_;refine Zd ?_;refine ZT ?_;refine Z0 ?_;refine ZeU ?_;refine Zat ?_;refine Ze ?_;refine zf (id:=26) ?_;refine Zac ?_;refine qp (za5 L 900 (zab b (uC LL ++ rest) tyU) (r:=zab b (uC d4 ++ rest) tyU) rfl rfl rfl rfl rfl (fun u H C hH _ hr hC => by rw [hLL]; exact ih (by omega) g1 (by omega) (by omega) hm1 hlle g4 hH hr hC)) ?_;refine Z6 ?_;refine zf (id:=27) ?_;refine Za ?_;refine Zam ?_;refine yc ?_
       exact yi (x:=(((x, y), l), ((wb, wp), D))) (((mid + 1, y), R.lim), ((true, ap), LL)) ⟨by dsimp only; omega, hy, by dsimp only; omega, hlle, by dsimp only; omega, gB, hn.symm⟩ (by dsimp only; omega) ⟨rfl, rfl, rfl, rfl, rfl, rfl, rfl, trivial⟩
      ·rw [decide_eq_false h8] at hn
       refine Zc ?_;refine Ze8 ?_;refine Zh ?_;refine Zdb ?_;refine ZeM ?_;refine Zex ?_;refine Zl ?_;refine qn (qq L (q:=900) rfl rfl rfl rfl rfl q1) rfl rfl ?_;refine Zn ?_;refine qn (qq L (q:=900) rfl rfl rfl rfl rfl q2) rfl rfl ?_;refine z8 (zp L rfl rfl (zk rfl) rfl rfl rfl (fun u H hH _ _ => zbg hc hH)) rfl ?_;refine ZI ?_;refine Zei ?_;refine ZaP ?_;refine Zac ?_;refine qp (zaj L 900 (zab b (uC d4 ++ rest) tyU) (.tuple #[.int .i64 mid, .bool ap]) (r:=zab b (uC R.pi.1 ++ rest) tyU) rfl rfl rfl rfl rfl (fun u H C hH hle hr hC => by have h:=zes (rest:=rest) (cap:=cap) (d:=R.pi.1) hpv.1 hpv.2 (by omega) (m:=m) (by omega) hm1 hH hr hC; rw [hx] at h; exact h)) ?_;refine Za6 ?_;refine ZcR ?_;refine Ze ?_;refine ZbN ?_;refine ZJ ?_;refine ZJ ?_;refine Zav ?_;refine Ze9 ?_;refine Zc1 ?_;refine ZeT ?_;refine Zd ?_;refine ZT ?_;refine Z0 ?_;refine ZeU ?_;refine ZA ?_;refine Ze ?_;refine zf (id:=26) ?_;refine Zac ?_;refine qp (za5 L 900 (zab b (uC LL ++ rest) tyU) (r:=zab b (uC d4 ++ rest) tyU) rfl rfl rfl rfl rfl (fun u H C hH _ hr hC => by rw [hLL]; exact ih (by omega) g1 (by omega) (by omega) hm1 hlle g4 hH hr hC)) ?_;refine Z6 ?_;refine zf (id:=27) ?_;refine Za ?_;refine Zam ?_;refine yc ?_
       exact yi (x:=(((x, y), l), ((wb, wp), D))) (((mid + 1, y), R.lim), ((false, ap), LL)) ⟨by dsimp only; omega, hy, by dsimp only; omega, hlle, by dsimp only; omega, gB, hn.symm⟩ (by dsimp only; omega) ⟨rfl, rfl, rfl, rfl, rfl, rfl, rfl, trivial⟩
     ·have hn:=hright h2 h2b (by rw [hx]; exact ⟨g1, g2⟩) (by rw [hx]; exact hlr)
      rw [hx] at hn
      dsimp only at hn
      obtain ⟨pL, sL⟩:=pdq_sorts lt swo_ltInt d4 (mid + 1) y R.lim true true (by omega) (by omega) g5
      obtain ⟨LL, hLL⟩:∃ LL, LL = pdq lt d4 (mid + 1) y R.lim true true:=⟨_, rfl⟩
      rw [← hLL] at hn pL sL
      obtain ⟨gB, _⟩:=gR LL pL sL
      have hLs:LL.size = d4.size:=pL.1
      by_cases h8:y - mid ≥ (y - x) / 8
      ·rw [decide_eq_true h8] at hn
       refine Zc ?_;refine Ze8 ?_;refine Zh ?_;refine Zdb ?_;refine ZeM ?_;refine Zex ?_;refine Zl ?_;refine qn (qq L (q:=900) rfl rfl rfl rfl rfl q1) rfl rfl ?_;refine Zn ?_;refine qn (qq L (q:=900) rfl rfl rfl rfl rfl q2) rfl rfl ?_;refine z8 (zp L rfl rfl (zk rfl) rfl rfl rfl (fun u H hH _ _ => zbg hc hH)) rfl ?_;refine ZI ?_;refine Zei ?_;refine ZaP ?_;refine Zac ?_;refine qp (zaj L 900 (zab b (uC d4 ++ rest) tyU) (.tuple #[.int .i64 mid, .bool ap]) (r:=zab b (uC R.pi.1 ++ rest) tyU) rfl rfl rfl rfl rfl (fun u H C hH hle hr hC => by have h:=zes (rest:=rest) (cap:=cap) (d:=R.pi.1) hpv.1 hpv.2 (by omega) (m:=m) (by omega) hm1 hH hr hC; rw [hx] at h; exact h)) ?_;refine Za6 ?_;refine ZcR ?_;refine Ze ?_;refine ZbN ?_;refine ZJ ?_;refine ZJ ?_;refine Zav ?_;refine Ze9 ?_;refine Zc1 ?_;refine ZeT ?_;refine Zbi ?_;refine Zdz ?_;refine zf (id:=28) ?_;refine Zd ?_;refine Zat ?_;refine Ze ?_;refine zf (id:=29) ?_;refine ZbJ ?_;refine Zd ?_;refine qp (za5 L 900 (zab b (uC LL ++ rest) tyU) (r:=zab b (uC d4 ++ rest) tyU) rfl rfl rfl rfl rfl (fun u H C hH _ hr hC => by rw [hLL]; exact ih (by omega) (by omega) hy (by omega) hm1 hlle g5 hH hr hC)) ?_;refine Z6 ?_;refine zf (id:=30) ?_;refine Za ?_;refine Za3 ?_
       exact yi (x:=(((x, y), l), ((wb, wp), D))) (((x, mid), R.lim), ((true, ap), LL)) ⟨by dsimp only; omega, by dsimp only; omega, by dsimp only; omega, hlle, by dsimp only; omega, gB, hn.symm⟩ (by dsimp only; omega) ⟨rfl, rfl, rfl, rfl, rfl, rfl, rfl, trivial⟩
      ·rw [decide_eq_false h8] at hn
       refine Zc ?_;refine Ze8 ?_;refine Zh ?_;refine Zdb ?_;refine ZeM ?_;refine Zex ?_;refine Zl ?_;refine qn (qq L (q:=900) rfl rfl rfl rfl rfl q1) rfl rfl ?_;refine Zn ?_;refine qn (qq L (q:=900) rfl rfl rfl rfl rfl q2) rfl rfl ?_;refine z8 (zp L rfl rfl (zk rfl) rfl rfl rfl (fun u H hH _ _ => zbg hc hH)) rfl ?_;refine ZI ?_;refine Zei ?_;refine ZaP ?_;refine Zac ?_;refine qp (zaj L 900 (zab b (uC d4 ++ rest) tyU) (.tuple #[.int .i64 mid, .bool ap]) (r:=zab b (uC R.pi.1 ++ rest) tyU) rfl rfl rfl rfl rfl (fun u H C hH hle hr hC => by have h:=zes (rest:=rest) (cap:=cap) (d:=R.pi.1) hpv.1 hpv.2 (by omega) (m:=m) (by omega) hm1 hH hr hC; rw [hx] at h; exact h)) ?_;refine Za6 ?_;refine ZcR ?_;refine Ze ?_;refine ZbN ?_;refine ZJ ?_;refine ZJ ?_;refine Zav ?_;refine Ze9 ?_;refine Zc1 ?_;refine ZeT ?_;refine Zbi ?_;refine Zdz ?_;refine zf (id:=28) ?_;refine Zd ?_;refine ZA ?_;refine Ze ?_;refine zf (id:=29) ?_;refine ZbJ ?_;refine Zd ?_;refine qp (za5 L 900 (zab b (uC LL ++ rest) tyU) (r:=zab b (uC d4 ++ rest) tyU) rfl rfl rfl rfl rfl (fun u H C hH _ hr hC => by rw [hLL]; exact ih (by omega) (by omega) hy (by omega) hm1 hlle g5 hH hr hC)) ?_;refine Z6 ?_;refine zf (id:=30) ?_;refine Za ?_;refine Za3 ?_
       exact yi (x:=(((x, y), l), ((wb, wp), D))) (((x, mid), R.lim), ((false, ap), LL)) ⟨by dsimp only; omega, by dsimp only; omega, by dsimp only; omega, hlle, by dsimp only; omega, gB, hn.symm⟩ (by dsimp only; omega) ⟨rfl, rfl, rfl, rfl, rfl, rfl, rfl, trivial⟩
   ·have h2b:(decide (x > 0) && !lt R.pi.1[x - 1]! R.pi.1[R.pivot]!) = false:=by simp [hx0]
    obtain ⟨mid, ap, d4, hx⟩:∃ mid ap d4, Go.Sort.partition lt R.pi.1 x y R.pivot = (mid, ap, d4):=⟨_, _, _, rfl⟩
    obtain ⟨g1, g2, g3, g4, g5, gL, gR⟩:=round_part swo_ltInt (partition_holds lt) hpv.1 hpv.2 (by omega) B3 hx
    have w1:IntKind.i64.wrap ((mid:Int) - (x:Int)) = ((mid - x:Nat):Int):=zaa (by omega) (by omega) |>.trans (by omega)
    have w2:IntKind.i64.wrap ((y:Int) - (mid:Int)) = ((y - mid:Nat):Int):=zaa (by omega) (by omega) |>.trans (by omega)
    have w4:IntKind.i64.wrap ((mid:Int) + 1) = ((mid + 1:Nat):Int):=zaa (by omega) (by omega)
    have et:((y - x:Nat):Int).tdiv 8 = (((y - x) / 8:Nat):Int):=by
     rw [Int.tdiv_eq_ediv_of_nonneg (by omega)]
     omega
    have w3:IntKind.i64.wrap (((y - x:Nat):Int).tdiv 8) = (((y - x) / 8:Nat):Int):=by rw [et]; exact zaa (by omega) (by omega)
    by_cases hlr:mid - x < y - mid
    ·have hn:=hleft h2 h2b (by rw [hx]; exact ⟨g1, g2⟩) (by rw [hx]; exact hlr)
     rw [hx] at hn
     dsimp only at hn
     obtain ⟨pL, sL⟩:=pdq_sorts lt swo_ltInt d4 x mid R.lim true true g1 (by omega) g4
     obtain ⟨LL, hLL⟩:∃ LL, LL = pdq lt d4 x mid R.lim true true:=⟨_, rfl⟩
     rw [← hLL] at hn pL sL
     obtain ⟨gB, _⟩:=gL LL pL sL
     have hLs:LL.size = d4.size:=pL.1
     by_cases h8:mid - x ≥ (y - x) / 8
     ·rw [decide_eq_true h8] at hn
      refine Zc ?_;refine Ze8 ?_;refine Zh ?_;refine Zd9 ?_;refine Zcb ?_;refine ZaM ?_;refine Zei ?_;refine ZaP ?_;refine Zac ?_;refine qp (zaj L 900 (zab b (uC d4 ++ rest) tyU) (.tuple #[.int .i64 mid, .bool ap]) (r:=zab b (uC R.pi.1 ++ rest) tyU) rfl rfl rfl rfl rfl (fun u H C hH hle hr hC => by have h:=zes (rest:=rest) (cap:=cap) (d:=R.pi.1) hpv.1 hpv.2 (by omega) (m:=m) (by omega) hm1 hH hr hC; rw [hx] at h; exact h)) ?_;refine Za6 ?_;refine ZcR ?_;refine Ze ?_;refine ZbN ?_;refine ZJ ?_;refine ZJ ?_;refine Zav ?_;refine Ze9 ?_;refine Zc1 ?_;refine ZeT ?_;refine Zd ?_;refine ZT ?_;refine Z0 ?_;refine ZeU ?_;refine Zat ?_;refine Ze ?_;refine zf (id:=26) ?_;refine Zac ?_;refine qp (za5 L 900 (zab b (uC LL ++ rest) tyU) (r:=zab b (uC d4 ++ rest) tyU) rfl rfl rfl rfl rfl (fun u H C hH _ hr hC => by rw [hLL]; exact ih (by omega) g1 (by omega) (by omega) hm1 hlle g4 hH hr hC)) ?_;refine Z6 ?_;refine zf (id:=27) ?_;refine Za ?_;refine Zam ?_;refine yc ?_
      exact yi (x:=(((x, y), l), ((wb, wp), D))) (((mid + 1, y), R.lim), ((true, ap), LL)) ⟨by dsimp only; omega, hy, by dsimp only; omega, hlle, by dsimp only; omega, gB, hn.symm⟩ (by dsimp only; omega) ⟨rfl, rfl, rfl, rfl, rfl, rfl, rfl, trivial⟩
     ·rw [decide_eq_false h8] at hn
      refine Zc ?_;refine Ze8 ?_;refine Zh ?_;refine Zd9 ?_;refine Zcb ?_;refine ZaM ?_;refine Zei ?_;refine ZaP ?_;refine Zac ?_;refine qp (zaj L 900 (zab b (uC d4 ++ rest) tyU) (.tuple #[.int .i64 mid, .bool ap]) (r:=zab b (uC R.pi.1 ++ rest) tyU) rfl rfl rfl rfl rfl (fun u H C hH hle hr hC => by have h:=zes (rest:=rest) (cap:=cap) (d:=R.pi.1) hpv.1 hpv.2 (by omega) (m:=m) (by omega) hm1 hH hr hC; rw [hx] at h; exact h)) ?_;refine Za6 ?_;refine ZcR ?_;refine Ze ?_;refine ZbN ?_;refine ZJ ?_;refine ZJ ?_;refine Zav ?_;refine Ze9 ?_;refine Zc1 ?_;refine ZeT ?_;refine Zd ?_;refine ZT ?_;refine Z0 ?_;refine ZeU ?_;refine ZA ?_;refine Ze ?_;refine zf (id:=26) ?_;refine Zac ?_;refine qp (za5 L 900 (zab b (uC LL ++ rest) tyU) (r:=zab b (uC d4 ++ rest) tyU) rfl rfl rfl rfl rfl (fun u H C hH _ hr hC => by rw [hLL]; exact ih (by omega) g1 (by omega) (by omega) hm1 hlle g4 hH hr hC)) ?_;refine Z6 ?_;refine zf (id:=27) ?_;refine Za ?_;refine Zam ?_;refine yc ?_
      exact yi (x:=(((x, y), l), ((wb, wp), D))) (((mid + 1, y), R.lim), ((false, ap), LL)) ⟨by dsimp only; omega, hy, by dsimp only; omega, hlle, by dsimp only; omega, gB, hn.symm⟩ (by dsimp only; omega) ⟨rfl, rfl, rfl, rfl, rfl, rfl, rfl, trivial⟩
    ·have hn:=hright h2 h2b (by rw [hx]; exact ⟨g1, g2⟩) (by rw [hx]; exact hlr)
     rw [hx] at hn
     dsimp only at hn
     obtain ⟨pL, sL⟩:=pdq_sorts lt swo_ltInt d4 (mid + 1) y R.lim true true (by omega) (by omega) g5
     obtain ⟨LL, hLL⟩:∃ LL, LL = pdq lt d4 (mid + 1) y R.lim true true:=⟨_, rfl⟩
     rw [← hLL] at hn pL sL
     obtain ⟨gB, _⟩:=gR LL pL sL
     have hLs:LL.size = d4.size:=pL.1
     by_cases h8:y - mid ≥ (y - x) / 8
     ·rw [decide_eq_true h8] at hn
      refine Zc ?_;refine Ze8 ?_;refine Zh ?_;refine Zd9 ?_;refine Zcb ?_;refine ZaM ?_;refine Zei ?_;refine ZaP ?_;refine Zac ?_;refine qp (zaj L 900 (zab b (uC d4 ++ rest) tyU) (.tuple #[.int .i64 mid, .bool ap]) (r:=zab b (uC R.pi.1 ++ rest) tyU) rfl rfl rfl rfl rfl (fun u H C hH hle hr hC => by have h:=zes (rest:=rest) (cap:=cap) (d:=R.pi.1) hpv.1 hpv.2 (by omega) (m:=m) (by omega) hm1 hH hr hC; rw [hx] at h; exact h)) ?_;refine Za6 ?_;refine ZcR ?_;refine Ze ?_;refine ZbN ?_;refine ZJ ?_;refine ZJ ?_;refine Zav ?_;refine Ze9 ?_;refine Zc1 ?_;refine ZeT ?_;refine Zbi ?_;refine Zdz ?_;refine zf (id:=28) ?_;refine Zd ?_;refine Zat ?_;refine Ze ?_;refine zf (id:=29) ?_;refine ZbJ ?_;refine Zd ?_;refine qp (za5 L 900 (zab b (uC LL ++ rest) tyU) (r:=zab b (uC d4 ++ rest) tyU) rfl rfl rfl rfl rfl (fun u H C hH _ hr hC => by rw [hLL]; exact ih (by omega) (by omega) hy (by omega) hm1 hlle g5 hH hr hC)) ?_;refine Z6 ?_;refine zf (id:=30) ?_;refine Za ?_;refine Za3 ?_
      exact yi (x:=(((x, y), l), ((wb, wp), D))) (((x, mid), R.lim), ((true, ap), LL)) ⟨by dsimp only; omega, by dsimp only; omega, by dsimp only; omega, hlle, by dsimp only; omega, gB, hn.symm⟩ (by dsimp only; omega) ⟨rfl, rfl, rfl, rfl, rfl, rfl, rfl, trivial⟩
     ·rw [decide_eq_false h8] at hn
      refine Zc ?_;refine Ze8 ?_;refine Zh ?_;refine Zd9 ?_;refine Zcb ?_;refine ZaM ?_;refine Zei ?_;refine ZaP ?_;refine Zac ?_;refine qp (zaj L 900 (zab b (uC d4 ++ rest) tyU) (.tuple #[.int .i64 mid, .bool ap]) (r:=zab b (uC R.pi.1 ++ rest) tyU) rfl rfl rfl rfl rfl (fun u H C hH hle hr hC => by have h:=zes (rest:=rest) (cap:=cap) (d:=R.pi.1) hpv.1 hpv.2 (by omega) (m:=m) (by omega) hm1 hH hr hC; rw [hx] at h; exact h)) ?_;refine Za6 ?_;refine ZcR ?_;refine Ze ?_;refine ZbN ?_;refine ZJ ?_;refine ZJ ?_;refine Zav ?_;refine Ze9 ?_;refine Zc1 ?_;refine ZeT ?_;refine Zbi ?_;refine Zdz ?_;refine zf (id:=28) ?_;refine Zd ?_;refine ZA ?_;refine Ze ?_;refine zf (id:=29) ?_;refine ZbJ ?_;refine Zd ?_;refine qp (za5 L 900 (zab b (uC LL ++ rest) tyU) (r:=zab b (uC d4 ++ rest) tyU) rfl rfl rfl rfl rfl (fun u H C hH _ hr hC => by rw [hLL]; exact ih (by omega) (by omega) hy (by omega) hm1 hlle g5 hH hr hC)) ?_;refine Z6 ?_;refine zf (id:=30) ?_;refine Za ?_;refine Za3 ?_
      exact yi (x:=(((x, y), l), ((wb, wp), D))) (((x, mid), R.lim), ((false, ap), LL)) ⟨by dsimp only; omega, by dsimp only; omega, by dsimp only; omega, hlle, by dsimp only; omega, gB, hn.symm⟩ (by dsimp only; omega) ⟨rfl, rfl, rfl, rfl, rfl, rfl, rfl, trivial⟩
end Go.V.So
set_option maxRecDepth 20000
namespace Go.V.So
open Go.Proofs Go.RowKit Go.V Go.Sort
theorem _root_.Go.V.ZaQ {A B:Prop} (h:B) (t:Wr B → A:=by intro h; refine z7 (zm0 L rfl rfl rfl rfl) rfl ?_;exact h.h):A:=t ⟨h⟩
attribute [local irreducible] V N X VO Par StepOK Has Ret RetL RetO zcd zd2 Src
set_option maxRecDepth 20000 in
theorem sortU_ret {d:Array Int} {rest:List Value} {b m cap:Nat} (hm:d.size = m) (hm1:m ≤ 100000) {w:World} {B:Heap} {C:Nat → Prop} (hB:B.Le (hp w))
  (hr:(zab b (uC d ++ rest) tyU).P B w C) (hC:∀ k, C k → k < w.heap.size ∧ B k = none) :
  zcd Tryz.prog 44 [.slice (some ⟨b, 0, none⟩) m cap] w B C (zab b (uC (Go.Sort.sort lt d) ++ rest) tyU):=by
 unfold zcd
 refine zau 900 (zab b (uC d ++ rest) tyU) Tryz.func44 rfl Tryz.ntmps44 (Nat.le_of_ble_eq_true rfl) hB hr hC ?_
 rw [za6]
 have hc:IntKind.u64.wrap (m:Int) = (m:Int):=wrap_u64 (by omega) (by omega)
 have hb17:bitsLen m ≤ 17:=(bitsLen_le_iff m 17).2 (by omega)
 refine ZR ?_;refine Za ?_;refine ZaQ ?_;refine Zb ?_;refine Zae ?_;refine Z2 ?_;refine z7 (zax rfl rfl rfl zbw.1 zbw.2 (wrap_u64 (by omega) (by omega))) rfl ?_;refine z7 (zp L rfl rfl (zk rfl) rfl rfl rfl (fun u H hH _ _ => zk6 (by omega) hH)) rfl ?_;refine qp (za5 L 900 (zab b (uC (Go.Sort.sort lt d) ++ rest) tyU) (r:=zab b (uC d ++ rest) tyU) rfl rfl rfl rfl rfl (fun u H C hH _ hr hC => by have h:=z1x (rest:=rest) (cap:=cap) (m:=m) (d:=d) (a:=0) (e:=m) (lim:=bitsLen m) (m + 1) (by omega) (by omega) (by omega) hm hm1 (by omega) (Or.inl rfl) hH hr hC; unfold Go.Sort.sort; rw [hm]; exact h)) ?_;refine zi ?_
 exact zbe L 900 (r:=zab b _ tyU) rfl (fun _ _ h => h) Since.refl rfl rfl
end Go.V.So
set_option maxRecDepth 20000
namespace Go.V
open Go.RowKit
section
variable {P:Program} {F:Fr} {B:Heap} {O:Boxes} {n:Nat} {ops:Array Oper} {κ:Kap} {d:Nat} {ty:TypeId} {pos:String} {aft:Array Edge} {g:Option (Nat × Bool)} {a:Act} {u:World} {H:Heap} {fp:Nat → Nat → Prop} {os:List Oper} {Q:Exit → Act → World → Prop} {ex:Exs}
theorem zk5 {b:Nat} {cs:List Value} {t:TypeId} (hb:u.heap[b]? = some (.cells cs.toArray t)) (off j:Nat):u.cell? ((⟨b, off, none⟩:Addr).add j) = cs[off + j]?:=by
 rw [zch, za1 hb]; simp
theorem ziv {cs news:List Value} {off k j:Nat} {v:Value} (hn:news = (cs.drop off).take k) (hj:news[j]? = some v):cs[off + j]? = some v:=by
 subst hn
 rw [List.getElem?_take] at hj
 split at hj
 ·rwa [List.getElem?_drop] at hj
 ·cases hj
theorem zj8 {t ti e:TypeId} {i:TypeInfo} {b off m c k:Nat} {cur:List Value} {ty0:TypeId} {ad:Addr} {m' c':Nat} {news:List Value} (ht:P.underlying t = some (.slice e)) (hi:P.info? e = some i) (hb:u.heap[b]? = some (.cells cur.toArray ty0)) (hl:news.length = k * i.size) (hk:Nat.min m' m = k) (hcl:off + news.length ≤ cur.length)
  (h1:∀ v ∈ news, v.oneCell' = true) (hy:∀ j v, news[j]? = some v → u.cell? (ad.add j) = some v) :
  (Builtin.copy_ #[t, ti] ty #[.slice (some ⟨b, off, none⟩) m c, .slice (some ad) m' c']).run P u = .ok (goInt k) (u.setRow b (cur.take off ++ (news ++ cur.drop (off + news.length))).toArray):=by
 have hf:=run_firstCells_some (P:=P) u i.size k ad m' c' news hl hy
 have hst:=zcu (P:=P) b ty0 off news 0 cur.toArray u hb (by simpa using hcl) h1
 simp only [Nat.add_zero, List.append_assoc] at hst
 simp [Builtin.copy_, run_underlying ht, Builtin.lenOf, sizeOf, typeInfo, hi, hk, hf, hst]
theorem zm1 (L:Tabs P) {q b off m c m':Nat} {x y:Operand} {t e ti t':TypeId} {s by_:Nat} {cur all news cur':List Value} (k:Nat) (hn:Nat.blt d n = true) (hg:gK ops κ ⟨some d, .call ⟨.builtin .copy, #[x, y], #[t, ti]⟩, ty, pos, aft, g⟩ = some true)
  (hx:evK κ x = some (.slice (some ⟨b, off, none⟩) m c)) (hq:κ q = some (.own (zan b cur t'))) (hy:Apd F B O κ y m' all) (ht:L.sl t = some e) (he:elI P e = some (s, by_)) (hm:0 < m') (hk:Nat.min m' m = k) (hal:k * s ≤ all.length) (hnews:all.take (k * s) = news) (hcl:off + k * s ≤ cur.length) (h1:news.all zbs = true)
  (hr:cur.take off ++ (news ++ cur.drop (off + k * s)) = cur') :
  StepOK2 P F B n ops O κ ⟨some d, .call ⟨.builtin .copy, #[x, y], #[t, ti]⟩, ty, pos, aft, g⟩ q (.own (zan b cur' t')) d (.is (.int .i64 k)):=by
 rintro κ' a u hlk hks ⟨H, fp, hh⟩
 unfold After
 rw [if_pos (zag hh hlk hg)]
 have en:=hh.env hlk
 have hk':κ' q = some (.own (zan b cur t')):=hks.trans hq
 have hxe:=en.is_ x _ (by simp [Op.operands, Call.operands]) hx
 obtain ⟨⟨hb, hC⟩, hM⟩:=hh.slot q _ hk'
 obtain ⟨i, z, hi, hz, hs1, hs2, hs3, hs4⟩:=zcf he
 subst hs1
 have hnl:news.length = k * i.size:=by rw [← hnews, List.length_take, Nat.min_eq_left hal]
 rcases hy _ a u H fp (by simp [Op.operands, Call.operands]) en with ⟨h0, _⟩ | ⟨ad, c', hye, hcy⟩
 ·omega
 have hrun0:=zj8 (P:=P) (ty:=ty) (ti:=ti) (c:=c) (c':=c') (Tabs.sl_spec ht) hi hb hnl hk (by rw [hnl]; exact hcl) (fun v hv => zdf (List.all_eq_true.1 h1 v hv)) (ad:=ad) (fun j v hj => hcy j v (by
  rw [← hnews, List.getElem?_take] at hj
  split at hj
  ·exact hj
  ·cases hj))
 rw [hnl, hr] at hrun0
 have hrun:(execOp a.eval ⟨some d, .call ⟨.builtin .copy, #[x, y], #[t, ti]⟩, ty, pos, aft, g⟩).run P u = .ok (.value (goInt k)) (u.setRow b cur'.toArray):=by
  simp only [execOp, resolve, invoke, builtin, Sem.run_bind, Sem.run_pure, Result.andThen_ok, List.map_toArray, List.map_cons, List.map_nil, hxe, hye, hrun0]
 rw [hrun]
 simp only [Upon]
 have hbm:=hM b ((hC b).2 rfl)
 have h2:=hh.usePut (d:=q) (a':=a) (r':=zan b cur' t') (C:=fun k => k = b) hk' (zbu hh.sub hb ((hC b).2 rfl) hbm.2.1 _) rfl rfl (fun _ _ => rfl) ⟨setRow_heap u b cur.toArray cur'.toArray t' (0, 0) hb, fun _ => Iff.rfl⟩ (fun k hk => by
  subst hk; exact ⟨.inl ((hC k).2 rfl), by rw [setRow_size]; exact hbm.1, hbm.2.1⟩)
 rw [zbf] at h2
 exact ⟨H, _, h2.put (k:=.is (.int .i64 k)) (zk hn) trivial rfl⟩
theorem zvr (L:Tabs P) {q b off m c off2 m' c':Nat} {x y:Operand} {t e ti t':TypeId} {s by_:Nat} {cur news cur':List Value} (k:Nat) (hn:Nat.blt d n = true) (hg:gK ops κ ⟨some d, .call ⟨.builtin .copy, #[x, y], #[t, ti]⟩, ty, pos, aft, g⟩ = some true)
  (hx:evK κ x = some (.slice (some ⟨b, off, none⟩) m c)) (hq:κ q = some (.own (zan b cur t'))) (hy:evK κ y = some (.slice (some ⟨b, off2, none⟩) m' c')) (ht:L.sl t = some e) (he:elI P e = some (s, by_)) (hk:Nat.min m' m = k) (hnews:(cur.drop off2).take (k * s) = news) (hnl:news.length = k * s) (hcl:off + k * s ≤ cur.length) (h1:news.all zbs = true)
  (hr:cur.take off ++ (news ++ cur.drop (off + k * s)) = cur') :
  StepOK2 P F B n ops O κ ⟨some d, .call ⟨.builtin .copy, #[x, y], #[t, ti]⟩, ty, pos, aft, g⟩ q (.own (zan b cur' t')) d (.is (.int .i64 k)):=by
 rintro κ' a u hlk hks ⟨H, fp, hh⟩
 unfold After
 rw [if_pos (zag hh hlk hg)]
 have en:=hh.env hlk
 have hk':κ' q = some (.own (zan b cur t')):=hks.trans hq
 have hxe:=en.is_ x _ (by simp [Op.operands, Call.operands]) hx
 have hye:=en.is_ y _ (by simp [Op.operands, Call.operands]) hy
 obtain ⟨⟨hb, hC⟩, hM⟩:=hh.slot q _ hk'
 obtain ⟨i, z, hi, hz, hs1, hs2, hs3, hs4⟩:=zcf he
 subst hs1
 have hrun0:=zj8 (P:=P) (ty:=ty) (ti:=ti) (c:=c) (c':=c') (Tabs.sl_spec ht) hi hb hnl hk (by rw [hnl]; exact hcl) (fun v hv => zdf (List.all_eq_true.1 h1 v hv)) (ad:=⟨b, off2, none⟩) (fun j v hj => (zk5 hb off2 j).trans (ziv hnews.symm hj))
 rw [hnl, hr] at hrun0
 have hrun:(execOp a.eval ⟨some d, .call ⟨.builtin .copy, #[x, y], #[t, ti]⟩, ty, pos, aft, g⟩).run P u = .ok (.value (goInt k)) (u.setRow b cur'.toArray):=by
  simp only [execOp, resolve, invoke, builtin, Sem.run_bind, Sem.run_pure, Result.andThen_ok, List.map_toArray, List.map_cons, List.map_nil, hxe, hye, hrun0]
 rw [hrun]
 simp only [Upon]
 have hbm:=hM b ((hC b).2 rfl)
 have h2:=hh.usePut (d:=q) (a':=a) (r':=zan b cur' t') (C:=fun k => k = b) hk' (zbu hh.sub hb ((hC b).2 rfl) hbm.2.1 _) rfl rfl (fun _ _ => rfl) ⟨setRow_heap u b cur.toArray cur'.toArray t' (0, 0) hb, fun _ => Iff.rfl⟩ (fun k hk => by
  subst hk; exact ⟨.inl ((hC k).2 rfl), by rw [setRow_size]; exact hbm.1, hbm.2.1⟩)
 rw [zbf] at h2
 exact ⟨H, _, h2.put (k:=.is (.int .i64 k)) (zk hn) trivial rfl⟩
theorem zkp (L:Tabs P) {q b nn cap off2 m' c':Nat} {x y:Operand} {t e:TypeId} {s by_:Nat} {cur news cur':List Value} (hn:Nat.blt d n = true) (hg:gK ops κ ⟨some d, .call ⟨.builtin .append, #[x, y], #[t, t]⟩, ty, pos, aft, g⟩ = some true)
  (hx:evK κ x = some (.slice (some ⟨b, 0, none⟩) nn cap)) (hq:κ q = some (.own (zan b cur e))) (hy:evK κ y = some (.slice (some ⟨b, off2, none⟩) m' c')) (ht:L.sl t = some e) (he:elI P e = some (s, by_)) (hnews:(cur.drop off2).take (m' * s) = news) (hnl:news.length = m' * s) (hroom:nn + m' ≤ cap) (hcl:nn * s + m' * s ≤ cur.length) (h1:news.all zbs = true)
  (hr:cur.take (nn * s) ++ (news ++ cur.drop (nn * s + m' * s)) = cur') :
  StepOK2 P F B n ops O κ ⟨some d, .call ⟨.builtin .append, #[x, y], #[t, t]⟩, ty, pos, aft, g⟩ q (.own (zan b cur' e)) d (.is (.slice (some ⟨b, 0, none⟩) (nn + m') cap)):=by
 rintro κ' a u hlk hks ⟨H, fp, hh⟩
 unfold After
 rw [if_pos (zag hh hlk hg)]
 have en:=hh.env hlk
 have hk':κ' q = some (.own (zan b cur e)):=hks.trans hq
 have hxe:=en.is_ x _ (by simp [Op.operands, Call.operands]) hx
 have hye:=en.is_ y _ (by simp [Op.operands, Call.operands]) hy
 obtain ⟨⟨hb, hC⟩, hM⟩:=hh.slot q _ hk'
 obtain ⟨i, z, hi, hz, hs1, hs2, hs3, hs4⟩:=zcf he
 subst hs1
 have hrun0:=run_append_room (P:=P) u t ty e i (Tabs.sl_spec ht) hi b nn cap cur.toArray hb ⟨b, off2, none⟩ m' c' news hnl (fun j v hj => (zk5 hb off2 j).trans (ziv hnews.symm hj)) (fun v hv => zdf (List.all_eq_true.1 h1 v hv)) hroom (by rw [hnl]; simpa using hcl)
 rw [hnl] at hrun0
 simp only [List.append_assoc] at hrun0
 rw [hr] at hrun0
 have hrun:(execOp a.eval ⟨some d, .call ⟨.builtin .append, #[x, y], #[t, t]⟩, ty, pos, aft, g⟩).run P u = .ok (.value (.slice (some ⟨b, 0, none⟩) (nn + m') cap)) (u.setRow b cur'.toArray):=by
  simp only [execOp, resolve, invoke, builtin, Sem.run_bind, Sem.run_pure, Result.andThen_ok, List.map_toArray, List.map_cons, List.map_nil, hxe, hye, hrun0]
 rw [hrun]
 simp only [Upon]
 have hbm:=hM b ((hC b).2 rfl)
 have h2:=hh.usePut (d:=q) (a':=a) (r':=zan b cur' e) (C:=fun k => k = b) hk' (zbu hh.sub hb ((hC b).2 rfl) hbm.2.1 _) rfl rfl (fun _ _ => rfl) ⟨setRow_heap u b cur.toArray cur'.toArray e (0, 0) hb, fun _ => Iff.rfl⟩ (fun k hk => by
  subst hk; exact ⟨.inl ((hC k).2 rfl), by rw [setRow_size]; exact hbm.1, hbm.2.1⟩)
 rw [zbf] at h2
 exact ⟨H, _, h2.put (k:=.is _) (zk hn) trivial rfl⟩
theorem zs3 (L:Tabs P) {q b nn cap k:Nat} {x y:Operand} {t ti e t':TypeId} {s by_:Nat} {kn:IntKind} {cur xs zs:List Value} {z:Value} (hn:Nat.blt d n = true) (hg:gK ops κ ⟨some d, .call ⟨.builtin .append, #[x, y], #[t, ti]⟩, ty, pos, aft, g⟩ = some true)
  (hx:evK κ x = some (.slice (some ⟨b, 0, none⟩) nn cap)) (hq:κ q = some (.own (zan b cur t'))) (hy:evK κ y = some (.int .i64 k)) (ht:L.sl t = some e) (hti:P.underlying ti = some (.int kn)) (he:elI P e = some (s, by_)) (hz:L.zr e = some z) (h0:0 < k) (hg2:cap < nn + k) (hxs:cur.take (nn * s) = xs) (hxl:nn * s ≤ cur.length) (hzs:(Builtin.zeroCells z.cells k).toList = zs)
  (hb:(nn + k) * by_ ≤ 140737488355328) (h63:nn + k ≤ 4611686018427387904) :
  zdr P F B n ops O κ ⟨some d, .call ⟨.builtin .append, #[x, y], #[t, ti]⟩, ty, pos, aft, g⟩ q d (.own (SlR e s (nn + k) (xs ++ zs))):=by
 rintro κ' a u hlk hks ⟨H, fp, hh⟩
 unfold After
 rw [if_pos (zag hh hlk hg)]
 have en:=hh.env hlk
 have hk':κ' q = some (.own (zan b cur t')):=hks.trans hq
 have hxe:=en.is_ x _ (by simp [Op.operands, Call.operands]) hx
 have hye:=en.is_ y _ (by simp [Op.operands, Call.operands]) hy
 obtain ⟨⟨hbb, hC⟩, hM⟩:=hh.slot q _ hk'
 obtain ⟨i, z', hi, hz', hs1, hs2, hs3, hs4⟩:=zcf he
 have hzz:i.zero = some z:=by
  have:=Tabs.zr_spec hz
  unfold zrI at this
  rw [hi] at this
  exact this
 rw [hz'] at hzz
 obtain rfl:=Option.some.inj hzz
 subst hs1
 subst hs2
 have hold:(Builtin.firstCells i.size nn (.slice (some ⟨b, 0, none⟩) nn cap)).run P u.drew = .ok xs.toArray u.drew:=run_firstCells_some (P:=P) u.drew i.size nn ⟨b, 0, none⟩ nn cap xs (by rw [← hxs, List.length_take, Nat.min_eq_left hxl]) fun j v hj => by
  have hb2:u.drew.heap[b]? = some (.cells cur.toArray t'):=hbb
  rw [zk5 hb2 0 j, Nat.zero_add]
  rw [← hxs, List.getElem?_take] at hj
  split at hj
  ·exact hj
  ·cases hj
 have hkb:k * i.bytes ≤ (nn + k) * i.bytes:=Nat.mul_le_mul_right _ (by omega)
 have hns:=growslice_fits hg2 hb
 have hr:=Lib.run_append_grow_zeros (P:=P) u t ti ty e i z' .i64 kn (Tabs.sl_spec ht) hti hi hz' (some ⟨b, 0, none⟩) nn cap xs hold k h0 hs4 hg2 (by omega) (by omega) hns
 have hrun:(execOp a.eval ⟨some d, .call ⟨.builtin .append, #[x, y], #[t, ti]⟩, ty, pos, aft, g⟩).run P u = .ok (.value (.slice (some ⟨u.heap.size, 0, none⟩) (nn + k) (grownCap u (nn + k) cap e))) (u.drew.alloc (.cells (xs.toArray ++ Builtin.zeroCells z'.cells k ++ Builtin.zeroCells z'.cells (grownCap u (nn + k) cap e - (nn + k))) e)):=by
  simp only [execOp, resolve, invoke, builtin, Sem.run_bind, Sem.run_pure, Result.andThen_ok, List.map_toArray, List.map_cons, List.map_nil, hxe, hye, hr]
 rw [hrun]
 simp only [Upon]
 have hge:=grownCap_ge u (nn + k) cap e
 have hmx:nn + k ≤ maxLen:=by simp only [maxLen]; omega
 have hxl2:xs.length = nn * i.size:=by rw [← hxs, List.length_take, Nat.min_eq_left hxl]
 have hzl:zs.length = k * i.size:=by rw [← hzs, Array.length_toList, size_zeroCells, hs3]
 have hg3:=hh.grow (u':=u.drew.alloc (.cells (xs.toArray ++ Builtin.zeroCells z'.cells k ++ Builtin.zeroCells z'.cells (grownCap u (nn + k) cap e - (nn + k))) e)) (H':=H) ⟨⟨rfl, rfl, rfl, by simp, fun k hk _ => zb0 u.drew _ hk, Nat.le_succ _⟩, fun k v hv => by
  have:=hh.sub.size hv
  show (u.drew.alloc _).heap[k]? = some v
  rw [zb0 u.drew _ this]; exact hh.sub k v hv, Heap.Le.refl _, fun _ _ _ => rfl⟩
 refine ⟨H, _, hg3.putR (C:=fun k => k = u.heap.size) (by simp [Act.put]) rfl (fun t ht => zap ht) ⟨by rw [List.length_append, hxl2, hzl, Nat.add_mul], .inr ⟨u.heap.size, _, (Builtin.zeroCells z'.cells (grownCap u (nn + k) cap e - (nn + k))).toList, zar (by rw [hh.size]; exact zk hn), ?_, hge, grownCap_le_maxLen u (nn + k) cap e hmx, ?_, fun _ => Iff.rfl⟩⟩ (fun k hk => ?_) fun t r' htd ht k hf hk => ?_⟩
 ·rw [show u.heap.size = u.drew.heap.size from rfl, heap_alloc_new]
  congr 2
  apply Array.ext'
  simp [← hzs]
 ·have hz2:(Builtin.zeroCells z'.cells (grownCap u (nn + k) cap e - (nn + k))).toList.length = (grownCap u (nn + k) cap e - (nn + k)) * i.size:=(Array.length_toList).trans (by rw [size_zeroCells, hs3])
  rw [List.length_append, List.length_append, hz2, hxl2, hzl, ← Nat.add_mul, ← Nat.add_mul]
  congr 1
  omega
 ·subst hk
  exact ⟨by simp, zbd hh.sub (Nat.le_refl _), .inl hh.keep.size, fun y hy e => by have:=zai (hh.boxes y hy).1; omega⟩
 ·have:=((hh.slot t _ ht).2 k hf).1
  omega
theorem zp0 (L:Tabs P) {q w b off m f len cap:Nat} {y:Operand} {t e t':TypeId} {ag:Bool} {s:Nat} {cur cs:List Value} {te:TypeId} {fo:Operand} {tR:TypeId} (hn:Nat.blt d n = true) {at_:Array TypeId} (hg:gK ops κ ⟨some d, .call { callee:=.value fo, args:=#[.tmp w, y], argTypes:=at_ }, ty, pos, aft, g⟩ = some true)
  (hfo:evK κ fo = some (.func (.func f) #[] #[])) (hext:∀ args u, (callFunc f args).run P u = ((Extern.SlicesOverlaps.overlaps #[t, t] #[tR] args).run P u).andThen fun v w' => .ok (.value v) w')
  (hx:κ w = some (.sat (SlB cs te len))) (hy:evK κ y = some (.slice (some ⟨b, off, none⟩) m cap)) (hq:κ q = some (.own (zan b cur t'))) (ht:L.sl t = some e) (hl:L.ld e = some (ag, s)) (hc:0 < cur.length) :
  zdr P F B n ops O κ ⟨some d, .call { callee:=.value fo, args:=#[.tmp w, y], argTypes:=at_ }, ty, pos, aft, g⟩ q d (.is (.bool false)):=by
 rintro κ' a u hlk hks ⟨H, fp, hh⟩
 unfold After
 rw [if_pos (zag hh hlk hg)]
 have en:=hh.env hlk
 have hk':κ' q = some (.own (zan b cur t')):=hks.trans hq
 have hfe:a.eval fo = .func (.func f) #[] #[]:=en.is_ fo _ (by simp [Op.operands, Call.operands]) hfo
 have hye:=en.is_ y _ (by simp [Op.operands, Call.operands]) hy
 obtain ⟨b2, hxe, hb2⟩:=en.sat_ w _ (by simp [Op.operands, Call.operands]) hx
 obtain ⟨⟨hbb, hC⟩, hM⟩:=hh.slot q _ hk'
 have hbm:=hM b ((hC b).2 rfl)
 have hne:b2 ≠ b:=fun e => by subst e; rw [hbm.2.1] at hb2; cases hb2
 have hb2':=en.sub _ _ hb2
 have hsz:∀ w, (Go.sizeOf e).run P w = .ok s w:=za9 (Tabs.ld_spec hl)
 have hr:=Lib.run_overlaps_apart (P:=P) u t tR e (Tabs.sl_spec ht) s hsz ⟨b2, 0, none⟩ ⟨b, off, none⟩ len len m cap hne te t' cs.length cur.length
  (by simp [World.shape?, hp] at hb2' ⊢; simp [hb2']) (by simp [World.shape?, hbb]) (by omega) (by simp [World.frozen?, hp] at hb2' ⊢; simp [hb2']) (by simp [World.frozen?, hp] at hb2' ⊢; simp [hb2'])
 have hrun:(execOp a.eval ⟨some d, .call { callee:=.value fo, args:=#[.tmp w, y], argTypes:=at_ }, ty, pos, aft, g⟩).run P u = .ok (.value (.bool false)) u:=by
  simp only [execOp, resolve, hfe, Deferred.ofValue, Sem.run_bind, Sem.run_pure, Result.andThen_ok, invoke]
  simp [hext, hxe, hye, hr]
 rw [hrun]
 simp only [Upon]
 exact ⟨H, fp, hh.put (k:=.is (.bool false)) (zk hn) trivial rfl⟩
theorem zsx (L:Tabs P) {x y:Operand} {tt e:TypeId} {s:Nat} {k:IntKind} {ag:Bool} (hn:Nat.blt d n = true) (hg:gK ops κ ⟨some d, .slice tt x (some y) none none, ty, pos, aft, g⟩ = some true)
  (hx:evK κ x = some (.slice none 0 0)) (ht:L.sl tt = some e) (hl:L.ld e = some (ag, s)) {p:Int} (hy:evK κ y = some (.int k p)) (hp:p = (0:Nat)) :
  StepOK P F B n ops O κ ⟨some d, .slice tt x (some y) none none, ty, pos, aft, g⟩ d (.is (.slice none 0 0)) :=
 zaw rfl (zk hn) hg trivial fun a u H fp en => ⟨_, by
  have hu:=Tabs.sl_spec ht
  have h1:=en.is_ x _ (by simp [Op.operands]) hx
  have h2:=en.is_ y _ (by simp [Op.operands]) hy
  subst hp
  have hrun:(Instr.sliceBounds true 0 0 (some (a.eval y)) none none).run P u = .ok (0, 0, 0) u:=by
   have h4:=fun c w => za8 (P:=P) 0 k 0 c (Nat.le_refl _) w
   simp only [h2, Instr.sliceBounds, Sem.run_bind, h4, Result.andThen_ok, Sem.run_pure]
  simp only [execOp, h1, Instr.sliceAt, Instr.slice, Sem.run_bind, run_underlying hu, Result.andThen_ok, Option.map_none, Option.map_some, hrun, za9 (Tabs.ld_spec hl)]
  rfl, rfl⟩
theorem zoo (L:Tabs P) {x y1 y2 y3:Operand} {tt e:TypeId} {s m b off cap:Nat} {k1 k2 k3:IntKind} {ag:Bool} (i j l:Nat) {p1 p2 p3:Int} (hn:Nat.blt d n = true) (hg:gK ops κ ⟨some d, .slice tt x (some y1) (some y2) (some y3), ty, pos, aft, g⟩ = some true)
  (hx:evK κ x = some (.slice (some ⟨b, off, none⟩) m cap)) (ht:L.sl tt = some e) (hl:L.ld e = some (ag, s)) (h1:evK κ y1 = some (.int k1 p1)) (h2:evK κ y2 = some (.int k2 p2)) (h3:evK κ y3 = some (.int k3 p3)) (e1:p1 = i) (e2:p2 = j) (e3:p3 = l)
  (hij:i ≤ j) (hjl:j ≤ l) (hlc:l ≤ cap) :
  StepOK P F B n ops O κ ⟨some d, .slice tt x (some y1) (some y2) (some y3), ty, pos, aft, g⟩ d (.is (.slice (some (if l = i then ⟨b, off, none⟩ else ⟨b, off + i * s, none⟩)) (j - i) (l - i))) :=
 zaw rfl (zk hn) hg trivial fun a u H fp en => ⟨_, by
  have hu:=Tabs.sl_spec ht
  subst e1 e2 e3
  have q0:=en.is_ x _ (by simp [Op.operands]) hx
  have q1:=en.is_ y1 _ (by simp [Op.operands]) h1
  have q2:=en.is_ y2 _ (by simp [Op.operands]) h2
  have q3:=en.is_ y3 _ (by simp [Op.operands]) h3
  have hrun:(Instr.sliceBounds true m cap (some (a.eval y1)) (some (a.eval y2)) (some (a.eval y3))).run P u = .ok (i, j, l) u:=by
   simp [q1, q2, q3, Instr.sliceBounds, za8 i k1 _ _ hij, za8 j k2 _ _ hjl, za8 l k3 _ _ hlc]
  simp only [execOp, q0, Instr.sliceAt, Instr.slice, Sem.run_bind, run_underlying hu, Result.andThen_ok, Option.map_some, hrun, za9 (Tabs.ld_spec hl), Sem.run_pure]
  congr 3
  split <;> simp [Addr.add], rfl⟩
end
end Go.V
