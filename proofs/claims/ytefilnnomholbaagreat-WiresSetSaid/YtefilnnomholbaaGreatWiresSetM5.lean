/- Texts on the way to WiresSet, part 5: one behind another. -/
import Derived.Test.YtefilnnomholbaaGreatWiresSetM4
import Derived.Lib.UnsafeStr
import Derived.Laws.IdiomStrings
import Derived.Laws.BytesArg
import Derived.Lib.IndexAny
set_option linter.unusedVariables false
set_option linter.unusedSimpArgs false
set_option maxRecDepth 20000
namespace Go.V.L6
open Go.Proofs Go.RowKit Go.V Go.V.L2 Go.V.L3
theorem _root_.Go.V.Zfr {A B:Prop} (h:B) (t:Wr B → A:=by intro h; refine Zq ?_;refine Zam ?_;exact h.h):A:=t ⟨h⟩
theorem _root_.Go.V.ZdH {A B:Prop} (h:B) (t:Wr B → A:=by intro h; refine ZA ?_;refine Zfr ?_;exact h.h):A:=t ⟨h⟩
abbrev R6 (l:List U) (e:Int):Value → Heap → Prop:=TupS [US l false, fun v _ => v = .int .i64 e]
theorem R6.mono {l:List U} {e:Int}:Kn.mono (.sat (R6 l e)):=LE2.mono SlV.mono
theorem zz6 {l:List U} (hs:Sst zcc l) (x:U):zkq l [x] true false false = l.filter fun z => decide (z ≠ x):=by
 refine znk cmpT_ord (ze2 cmpT_ord Sst.nil) (hs.sublist List.filter_sublist) fun z => ?_
 unfold zkq zij
 rw [ze6, List.mem_filter, List.mem_filter]
 unfold zew
 simp only [List.mem_append, List.mem_singleton, List.not_mem_nil, false_or, Bool.and_true, Bool.and_false, Bool.or_false, Bool.and_eq_true, decide_eq_true_eq, Bool.not_eq_true', decide_eq_false_iff_not, ne_eq]
 constructor
 ·rintro ⟨_, h1, h2⟩; exact ⟨h1, h2⟩
 ·rintro ⟨h1, h2⟩; exact ⟨.inl h1, h1, h2⟩
theorem z3c {l:List U} (hs:Sst zcc l) {x:U} (hx:x ∉ l):zkq l [x] true true true = zib zcc x l:=by
 refine znk cmpT_ord (ze2 cmpT_ord Sst.nil) (zgg cmpT_ord hs hx) fun z => ?_
 unfold zkq zij
 rw [ze6, List.mem_filter, zep]
 unfold zew
 simp only [List.mem_append, List.mem_singleton, List.not_mem_nil, false_or, Bool.and_true, Bool.or_eq_true, Bool.and_eq_true, decide_eq_true_eq, Bool.not_eq_true', decide_eq_false_iff_not]
 constructor
 ·rintro ⟨h, _⟩; exact h.symm
 ·rintro (rfl | h)
  ·exact ⟨.inr rfl, .inr ⟨hx, rfl⟩⟩
  ·refine ⟨.inl h, .inl (.inl ⟨h, fun e => ?_⟩)⟩
   subst e; exact hx h
theorem z14 (t:U):tE t = 0 ∨ tE t = 6:=by
 unfold tE
 split
 ·exact zpj _ _ _
 ·rename_i h; exact .inr ((zj7 _).resolve_left h)
theorem zo3 {l:List U} {x z:U} {d:Bool} (h:z ∈ (zcf l x d).1):z ∈ l ∨ z = x:=by
 unfold zcf at h
 split at h
 ·split at h
  ·exact .inl (List.mem_filter.1 h).1
  ·split at h
   ·exact .inl h
   ·split at h
    ·cases h
    ·exact (zep.1 h).symm
 ·cases h
attribute [local irreducible] V N X VO Par StepOK Has Ret RetL RetO RetT Src
set_option maxHeartbeats 1000000 in
theorem zwv {l m:List U} {x:U} {d fu:Bool} {e:Int} (hr:zcf l x d = (m, e)) (hs:Sst zcc l) (hl:l.length ≤ 90000) (hz:TZ x) (zl:∀ t ∈ l, TZ t) {v:Value} {w:World} {B:Heap} (hB:B.Le (hp w)) (hv:US l fu v B) :
  Ret Tryz.prog 95 [v, chv x d] w B (R6 m e):=by
 have z1:∀ t ∈ [x], TZ t:=fun t ht => by rw [List.mem_singleton] at ht; subst ht; exact hz
 have zx1:([x]:List U).length ≤ 100000:=show 1 ≤ 100000 by decide
 have key:∀ {a b c:Bool} (u:World) (H:Heap) (v1 v2:Value), H.Le (hp u) → US l fu v1 H → SlB (ucs x) tyU 1 v2 H → (a = true ∧ b = false ∧ c = false ∨ a = true ∧ b = true ∧ c = true) → Ret Tryz.prog 159 [v1, v2, .bool a, .bool b, .bool c] u H (US (zkq l [x] a b c) false):=by
  rintro a b c u H v1 v2 hH h1 h2 (⟨rfl, rfl, rfl⟩ | ⟨rfl, rfl, rfl⟩)
  ·exact zw0 (y:=[x]) (by omega) zx1 zl z1 hH h1 (h2.toV rfl)
  ·exact zwz (y:=[x]) (by omega) zx1 zl z1 hH h1 (h2.toV rfl)
 refine qu Tryz.func95 rfl Tryz.ntmps95 (Nat.le_of_ble_eq_true rfl) hB ?_
 refine za4 0 (US l fu) rfl SlV.mono hv ?_
 unfold zcf at hr
 by_cases he:tE x = 0
 ·rw [if_pos he] at hr
  cases d
  ·rw [if_neg (by decide)] at hr
   by_cases hx:x ∈ l
   ·rw [if_pos hx] at hr
    cases hr
    have hin:(if x ∈ l then 1 else 0:Int) = 1:=if_pos hx
    refine ZdH ?_;refine ZaH ?_;refine z7 (q0 L rfl rfl (zn rfl) rfl rfl rfl (fun u H hH _ _ => he ▸ zby hz hH)) rfl ?_;refine Zad ?_;refine Zc7 ?_;refine ZO ?_;refine Zn ?_;refine Zf ?_;refine ZaH ?_;refine z7 (q0 L rfl rfl (zn rfl) rfl rfl rfl (fun u H hH _ _ v1 h1 => zbm (by omega) hin hH h1)) rfl ?_;refine ZJ ?_;refine Zt ?_;refine ZN ?_;refine Zf ?_;refine ZbT ?_;refine Zb ?_
    refine qt L (rs:=[.tmp 4, .tmp 5]) rfl (fun _ _ h => h) Since.refl fun u H hH hle => ?_
    exact fun v hv => LE2.mk hv.nofu
   ·rw [if_neg hx] at hr
    have hin:(if x ∈ l then 1 else 0:Int) = 0:=if_neg hx
    by_cases hf:l.length ≥ 4096
    ·rw [if_pos hf] at hr
     cases hr
     refine ZdH ?_;refine ZaH ?_;refine z7 (q0 L rfl rfl (zn rfl) rfl rfl rfl (fun u H hH _ _ => he ▸ zby hz hH)) rfl ?_;refine Zad ?_;refine Zc7 ?_;refine ZO ?_;refine Zn ?_;refine Zf ?_;refine ZaH ?_;refine z7 (q0 L rfl rfl (zn rfl) rfl rfl rfl (fun u H hH _ _ v1 h1 => zbm (by omega) hin hH h1)) rfl ?_;refine ZR ?_;refine ZO ?_;refine Z8 ?_;refine Zv ?_;refine ZaR ?_;refine Zt ?_;refine Z0 ?_;refine Z5 ?_
     refine qt L (rs:=[.tmp 4, .tmp 5]) rfl (fun _ _ h => h) Since.refl fun u H hH hle => ?_
     exact LE2.mk SlV.nil
    ·rw [if_neg hf] at hr
     cases hr
     rw [← z3c hs hx]
     refine ZdH ?_;refine ZaH ?_;refine z7 (q0 L rfl rfl (zn rfl) rfl rfl rfl (fun u H hH _ _ => he ▸ zby hz hH)) rfl ?_;refine Zad ?_;refine Zc7 ?_;refine ZO ?_;refine Zn ?_;refine Zf ?_;refine ZaH ?_;refine z7 (q0 L rfl rfl (zn rfl) rfl rfl rfl (fun u H hH _ _ v1 h1 => zbm (by omega) hin hH h1)) rfl ?_;refine ZR ?_;refine ZO ?_;refine Z8 ?_;refine Zv ?_;refine Zcw ?_;refine Z3 ?_;refine Zf ?_;refine ZaH ?_;refine ZaV ?_;refine z7 (yk (φ:=US (zkq l [x] true true true) false) L rfl rfl (zn rfl) rfl rfl rfl SlV.mono (fun u H hH _ _ v1 h1 v2 h2 => key u H v1 v2 hH h1 h2 (.inr ⟨rfl, rfl, rfl⟩))) rfl ?_;refine ZbT ?_;refine Zb ?_
     refine qt L (rs:=[.tmp 4, .tmp 5]) rfl (fun _ _ h => h) Since.refl fun u H hH hle => ?_
     exact fun v hv => LE2.mk hv
  ·rw [if_pos rfl] at hr
   cases hr
   rw [← zz6 hs x]
   refine ZdH ?_;refine ZaH ?_;refine z7 (q0 L rfl rfl (zn rfl) rfl rfl rfl (fun u H hH _ _ => he ▸ zby hz hH)) rfl ?_;refine Zad ?_;refine Zc7 ?_;refine Zt ?_;refine Zr ?_;refine Zf ?_;refine ZaH ?_;refine ZaV ?_;refine z7 (yk (φ:=US (zkq l [x] true false false) false) L rfl rfl (zn rfl) rfl rfl rfl SlV.mono (fun u H hH _ _ v1 h1 v2 h2 => key u H v1 v2 hH h1 h2 (.inl ⟨rfl, rfl, rfl⟩))) rfl ?_;refine ZbT ?_;refine Zb ?_
   refine qt L (rs:=[.tmp 4, .tmp 5]) rfl (fun _ _ h => h) Since.refl fun u H hH hle => ?_
   exact fun v hv => LE2.mk hv
 ·have h6:=(z14 x).resolve_left he
  rw [if_neg he, h6] at hr
  cases hr
  refine ZdH ?_;refine ZaH ?_;refine z7 (q0 L rfl rfl (zn rfl) rfl rfl rfl (fun u H hH _ _ => h6 ▸ zby hz hH)) rfl ?_;refine Zz ?_;refine Zy ?_;refine Z5 ?_
  refine qt L (rs:=[.tmp 4, .tmp 5]) rfl (fun _ _ h => h) Since.refl fun u H hH hle => ?_
  exact LE2.mk SlV.nil
end Go.V.L6
set_option maxRecDepth 20000
namespace Go.V.L2
open Go.Proofs Go.RowKit Go.V
def TM (t:U):Prop:=(t.1.1.1.size ≤ 9223372036854775807 ∧ t.1.1.2.size ≤ 9223372036854775807 ∧ t.1.2.size ≤ 9223372036854775807) ∧ t.2.1.1.size ≤ 9223372036854775807 ∧ t.2.1.2.size ≤ 9223372036854775807 ∧ t.2.2.size ≤ 9223372036854775807
attribute [local irreducible] V N X VO Par StepOK Has Ret RetL Src
end Go.V.L2
set_option maxRecDepth 20000
namespace Go.V.L8
open Go.Proofs Go.RowKit Go.V Go.V.L2 Go.V.L3 Go.V.L6
theorem _root_.Go.V.Zcy {A B:Prop} (h:B) (t:Wr B → A:=by intro h; refine Zfl ?_;refine Zx ?_;exact h.h):A:=t ⟨h⟩
abbrev tyM:TypeId:=362
abbrev tyC:TypeId:=42
abbrev z9c:TypeId:=223
abbrev z20:TypeId:=39
def ccs (c:CH):List Value:=[.string c.1.1.1.1, .string c.1.1.1.2, .string c.1.1.2, .string c.1.2.1.1, .string c.1.2.1.2, .string c.1.2.2, .bool c.2]
theorem zy9 (c:CH):(ccs c).length = 7:=rfl
abbrev KS (ty:TypeId) (l:List CH) (fu:Bool):Value → Heap → Prop:=SlV ty 7 (l.flatMap ccs) l.length fu
theorem zyo {l:List CH} {i:Nat} {c:CH} (h:l[i]? = some c):((l.flatMap ccs).drop (i * 7)).take 7 = [.string c.1.1.1.1, .string c.1.1.1.2, .string c.1.1.2, .string c.1.2.1.1, .string c.1.2.1.2, .string c.1.2.2, .bool c.2]:=zd8 zy9 l i c h
theorem zyn {ty:TypeId} {κ:Kap} {s:Nat} {r:List CH} {c:CH} (h:κ s = some (.own (SlR ty 7 (r.length + 1) (r.flatMap ccs ++ [.string c.1.1.1.1, .string c.1.1.1.2, .string c.1.1.2, .string c.1.2.1.1, .string c.1.2.1.2, .string c.1.2.2, .bool c.2])))):κ s = some (.own (SlR ty 7 (r ++ [c]).length ((r ++ [c]).flatMap ccs))):=by
 rw [h, List.flatMap_append, List.length_append]; rfl
theorem z8h {n:Nat} {l:List CH} (hl:¬ n < l.length) {i:Nat} {c:CH} (hc:l[i]? = some c) (h:¬ tE c.1 = 0):cE n l = 6:=by
 unfold cE
 rw [if_neg hl, if_pos]
 rw [List.any_eq_true]
 exact ⟨c, List.mem_of_getElem? hc, by simp [h]⟩
theorem z6y {n:Nat} {l:List CH} (hl:¬ n < l.length) (h:∀ (j:Nat) c, l[j]? = some c → tE c.1 = 0):cE n l = 0:=by
 unfold cE
 rw [if_neg hl, if_neg]
 rw [List.any_eq_true]
 rintro ⟨c, hc, h1⟩
 obtain ⟨j, hj⟩:=List.getElem?_of_mem hc
 rw [decide_eq_true (h j c hj)] at h1
 cases h1
attribute [local irreducible] V N X VO Par StepOK Has Ret RetL RetO RetT Src
theorem zwf {t:U} (hz:TM t) {w:World} {B:Heap} (hB:B.Le (hp w)):Ret Tryz.prog 100 [uv t] w B (fun v _ => v = .int .i64 (tE t)):=by
 obtain ⟨⟨z1, z2, z3⟩, z4, z5, z6⟩:=hz
 unfold tE
 refine qu Tryz.func100 rfl Tryz.ntmps100 (Nat.le_of_ble_eq_true rfl) hB ?_
 by_cases h:zc3 [t.1.1.1, t.1.1.2, t.1.2] = 0
 ·rw [if_pos h]
  refine Zbf ?_;refine Zbz ?_;refine z7 (q0 L rfl rfl (zn rfl) rfl rfl rfl (fun u H hH _ _ => goal_ret (by first | assumption | omega | decide) (by first | assumption | omega | decide) (by first | assumption | omega | decide) hH)) rfl ?_;refine ZT ?_;refine ZG ?_;refine Zr ?_;refine Zbz ?_;refine z7 (q0 L rfl rfl (zn rfl) rfl rfl rfl (fun u H hH _ _ => zkm (by first | assumption | omega | decide) (by first | assumption | omega | decide) (by first | assumption | omega | decide) hH)) rfl ?_;refine Zb ?_
  refine qt L (rs:=[.tmp 2]) rfl (fun _ _ h => h) Since.refl fun u H hH hle => ?_
  rfl
 ·rw [if_neg h]
  refine Zbf ?_;refine Zbz ?_;refine z7 (q0 L rfl rfl (zn rfl) rfl rfl rfl (fun u H hH _ _ => goal_ret (by first | assumption | omega | decide) (by first | assumption | omega | decide) (by first | assumption | omega | decide) hH)) rfl ?_;refine ZT ?_;refine Zz ?_;refine Zs ?_;refine Zb ?_
  refine qt L (rs:=[.tmp 2]) rfl (fun _ _ h => h) Since.refl fun u H hH hle => ?_
  rfl
theorem z33 {l:List CH} {fu:Bool} {b i:Nat} {c:CH} (hc0:l[i]? = some c) {v:Value} {w:World} {B:Heap} (hB:B.Le (hp w)) (hb:B b = some (.cells #[v] z9c)) (hv:KS tyM l fu v B) :
  Ret Tryz.prog 252 ([.int .i64 i] ++ [.pointer (some ⟨b, 0, none⟩)]) w B (fun r _ => r = uv c.1):=by
 have hc:=zyo hc0
 have hil:=get_lt hc0
 refine qu Tryz.func252 rfl Tryz.ntmps252 (Nat.le_of_ble_eq_true rfl) hB ?_
 refine Zcy ?_;refine Zea ?_;refine zba 4 (KS tyM l fu) rfl SlV.mono hv ?_;refine ZbI ?_;refine z7 (zgk L rfl rfl rfl rfl) rfl ?_;refine Zd8 ?_;refine Z1 ?_
 refine qt L (rs:=[.cell 3 34]) rfl (fun _ _ h => h) Since.refl fun u H hH hle => ?_
 refine Zct ?_
 rfl
theorem z4h {l:List CH} {fu:Bool} {b i:Nat} {c:CH} (hc0:l[i]? = some c) {v:Value} {w:World} {B:Heap} (hB:B.Le (hp w)) (hb:B b = some (.cells #[v] z20)) (hv:KS tyC l fu v B) :
  Ret Tryz.prog 253 ([.int .i64 i] ++ [.pointer (some ⟨b, 0, none⟩)]) w B (fun r _ => r = uv c.1):=by
 have hc:=zyo hc0
 have hil:=get_lt hc0
 refine qu Tryz.func253 rfl Tryz.ntmps253 (Nat.le_of_ble_eq_true rfl) hB ?_
 refine Zcy ?_;refine Zea ?_;refine zba 4 (KS tyC l fu) rfl SlV.mono hv ?_;refine ZbI ?_;refine z7 (zgk L rfl rfl rfl rfl) rfl ?_;refine Zd8 ?_;refine Z1 ?_
 refine qt L (rs:=[.cell 3 34]) rfl (fun _ _ h => h) Since.refl fun u H hH hle => ?_
 refine Zct ?_
 rfl
theorem zms {l:List CH} {cf:Nat} {caps:List Value} (hz:∀ c ∈ l, TM c.1) (hl:l.length ≤ 9223372036854775807) (hfn:L.fn cf = some ()) {e:Int} (he:cE 32 l = e) {w:World} {B:Heap} (hB:B.Le (hp w))
  (hcl:∀ (i:Nat) (c:CH), l[i]? = some c → ∀ (u:World) (H:Heap), H.Le (hp u) → B.Le H → Ret Tryz.prog cf ([.int .i64 i] ++ caps) u H (fun r _ => r = uv c.1)) :
  Ret Tryz.prog 251 [.int .i64 l.length, .func (.func cf) #[] caps.toArray] w B (fun v _ => v = .int .i64 e):=by
 subst he
 refine qu Tryz.func251 rfl Tryz.ntmps251 (Nat.le_of_ble_eq_true rfl) hB ?_
 by_cases h32:32 < l.length
 ·have:cE 32 l = 3:=if_pos h32
  rw [this]
  refine ZaL ?_;refine Z2 ?_;refine Zdb ?_
  refine qt L (rs:=[.tmp 4]) rfl (fun _ _ h => h) Since.refl fun u H hH hle => ?_
  rfl
 ·refine ZaL ?_;refine ZS ?_;refine ZO ?_;refine Zk ?_;refine Zc ?_;refine Zcg ?_
  refine zao (fun i:Nat => [(1, .is (.func (.func cf) #[] caps.toArray)), (9, .is (.int .i64 l.length)), (10, .is (.int .i64 i))]) (fun i => i ≤ l.length ∧ ∀ (j:Nat) c, j < i → l[j]? = some c → tE c.1 = 0) (fun i => l.length - i) 0 ⟨Nat.zero_le _, fun j c h => absurd h (Nat.not_lt_zero _)⟩ ⟨rfl, rfl, rfl, trivial⟩ ?_
  rintro i ⟨hi, hok⟩
  by_cases hlt:i < l.length
  ·obtain ⟨c, hc⟩:=zaw hlt
   have hzc:=hz c (List.mem_of_getElem? hc)
   by_cases h0:tE c.1 = 0
   ·refine Zdt ?_;refine ZcZ ?_;refine Zc ?_;refine z7 (q0 L rfl rfl (zn rfl) rfl rfl hfn (fun u H hH hle _ => hcl i c hc u H hH hle)) rfl ?_;refine z7 (q0 L rfl rfl (zn rfl) rfl rfl rfl (fun u H hH _ _ => h0 ▸ zwf hzc hH)) rfl ?_;refine Zd ?_;refine ZU ?_;refine Zae ?_;refine Za3 ?_;refine Z3 ?_;refine Zbd ?_
    exact yl (x:=i) (i + 1) ⟨hlt, fun j c' hj hc' => by
     rcases Nat.lt_or_ge j i with h | h
     ·exact hok j c' h hc'
     ·have:j = i:=by omega
      subst this; rw [hc] at hc'; cases hc'; exact h0⟩ (by omega) ⟨rfl, rfl, rfl, trivial⟩
   ·have h6:=(z14 c.1).resolve_left h0
    rw [z8h h32 hc h0]
    refine Zdt ?_;refine ZcZ ?_;refine Zc ?_;refine z7 (q0 L rfl rfl (zn rfl) rfl rfl hfn (fun u H hH hle _ => hcl i c hc u H hH hle)) rfl ?_;refine z7 (q0 L rfl rfl (zn rfl) rfl rfl rfl (fun u H hH _ _ => h6 ▸ zwf hzc hH)) rfl ?_;refine Zd ?_;refine ZU ?_;refine Zz ?_;refine ZaA ?_;refine Zb ?_
    refine qt L (rs:=[.tmp 4]) rfl (fun _ _ h => h) Since.refl fun u H hH hle => ?_
    rfl
  ·rw [z6y h32 (fun j c hj => hok j c (by have:=get_lt hj; omega) hj)]
   refine Zds ?_;refine Zao ?_;refine ZX ?_;refine Zb ?_
   refine qt L (rs:=[.tmp 4]) rfl (fun _ _ h => h) Since.refl fun u H hH hle => ?_
   rfl
theorem zpo {e:TypeId} {s n:Nat} {xs:List Value} {fu:Bool} {v:Value} {H:Heap} (h:SlV e s xs n fu v H):∃ p m c, v = .slice p m c:=by
 rcases h.2 with ⟨_, _, h⟩ | ⟨b, off, cap, cs, ty0, fr, h, _⟩
 ·exact ⟨_, _, _, h⟩
 ·exact ⟨_, _, _, h⟩
theorem zgm {l:List CH} {fu:Bool} (hz:∀ c ∈ l, TM c.1) (hl:l.length ≤ 9223372036854775807) {e:Int} (he:cE 32 l = e) {v:Value} {w:World} {B:Heap} (hB:B.Le (hp w)) (hv:KS tyM l fu v B) :
  Ret Tryz.prog 191 [v] w B (fun r _ => r = .int .i64 e):=by
 obtain ⟨p, m, c, rfl⟩:=zpo hv
 refine qu Tryz.func191 rfl Tryz.ntmps191 (Nat.le_of_ble_eq_true rfl) hB ?_
 refine ZA ?_;refine Zd ?_
 refine zjk 1 rfl fun q H1 hs1 ⟨b, hpb, hb1⟩ => ?_
 subst hpb
 refine Zx ?_;refine Zea ?_;refine zba 3 (KS tyM l fu) rfl SlV.mono (hv.le hs1.le) ?_;refine Zdc ?_;refine ZaQ ?_;refine z7 (q0 L rfl rfl (zn rfl) rfl rfl rfl (fun u H hH hle _ => zms (caps:=[.pointer (some ⟨b, 0, none⟩)]) hz hl rfl he hH (fun i c hc u' H' hH' hle' => z33 hc hH' (hle' _ _ (hle _ _ hb1)) ((hv.le hs1.le).le (Heap.Le.trans hle hle'))))) rfl ?_;refine Zb ?_
 refine qt L (rs:=[.tmp 2]) rfl (fun _ _ h => h) hs1 fun u H hH hle => ?_
 rfl
end Go.V.L8
set_option maxRecDepth 20000
namespace Go.V.L4
open Go.Proofs Go.RowKit Go.V Go.V.L2 Go.V.L8 Go.V.Bd
def zft (s:ByteArray):List Nat:=zb2 s.size ++ zdn s
def zbb (l:List ByteArray):List Nat:=l.flatMap zft
def u6 (t:U):List ByteArray:=[t.1.1.1, t.1.1.2, t.1.2, t.2.1.1, t.2.1.2, t.2.2]
def tupB (t:U):List Nat:=zbb (u6 t)
theorem zsw {s:ByteArray} (h:s.size ≤ 1099511627776):(zft s).length ≤ s.size + 10:=by
 unfold zft
 rw [List.length_append, zbv]
 have h128:(128:Nat) ^ 10 = 1180591620717411303424:=by decide
 have:=zeo 9 s.size (by omega)
 omega
theorem zwh (bs:List Nat) (a b:ByteArray):(bs ++ zft a) ++ zft b = bs ++ zbb [a, b]:=by simp [zbb]
theorem zwi (bs:List Nat) (a b:List ByteArray):(bs ++ zbb a) ++ zbb b = bs ++ zbb (a ++ b):=by simp [zbb]
theorem zfz:∀ {l:List ByteArray}, (∀ s ∈ l, s.size ≤ 1000) → (zbb l).length ≤ l.length * 1010
 | [], _ => Nat.le_refl _
 | s :: l, h => by
  have h1:=h s (List.mem_cons_self ..)
  have h2:=zsw (s:=s) (by omega)
  have h3:=zfz fun x hx => h x (List.mem_cons_of_mem _ hx)
  show (zft s ++ zbb l).length ≤ _
  rw [List.length_append, List.length_cons]
  omega
attribute [local irreducible] V N X VO Par StepOK Has Ret RetL RetO RetT zbd RetX RetY Src
theorem zm7 {wb:Nat} {bs:List Nat} {s:ByteArray} (hs:s.size ≤ 1000) (hz:bs.length + 2000 ≤ 1099511627776) {w:World} {B:Heap} {C:Nat → Prop} (hB:B.Le (hp w)) (hr:(GWr wb bs).P B w C) (hC:∀ k, C k → k < w.heap.size ∧ B k = none) :
  zbd Tryz.prog 231 [zam wb, .string s] w B C (GWr wb (bs ++ zft s)):=by
 unfold zbd
 have h128:(128:Nat) ^ 10 = 1180591620717411303424:=by decide
 have hnl:=zeo 9 s.size (by omega)
 have hcv:IntKind.u64.wrap (s.size:Int) = (s.size:Int):=zal (by omega) (by omega)
 refine zaf 900 (GWr wb bs) Tryz.func231 rfl Tryz.ntmps231 (Nat.le_of_ble_eq_true rfl) hB hr hC ?_
 refine ZC ?_;refine Za ?_;refine z7 (zny rfl rfl rfl rfl z31 rfl rfl) rfl ?_;refine Zt ?_;refine Zx ?_;refine Zc0 ?_;refine z7 (za0 rfl rfl rfl zcb.1 zcb.2 (zal (by omega) (by omega))) rfl ?_;refine qe (zau L 900 (GWr wb (bs ++ zb2 s.size)) (r:=GWr wb bs) rfl rfl rfl rfl rfl (fun u H C hH _ hr hC => zc1 (by omega) (by omega) hH hr hC)) ?_;refine Z6 ?_
 have hz2:(bs ++ zb2 s.size).length + s.size ≤ 140737488355328:=by rw [List.length_append]; omega
 have e0:bs ++ zft s = (bs ++ zb2 s.size) ++ zdn s:=by unfold zft; rw [List.append_assoc]
 rw [e0]
 generalize bs ++ zb2 s.size = bs1 at hz2
 refine zgu (X:=Value) 900 (r:=fun sv => (GWv wb bs1 sv).res) (φ:=fun sv _ => zq7 sv) (hφ:=zdf) rfl fun sv H0 hs0 hsp => ?_
 obtain ⟨p, k, c, rfl⟩:=hsp
 refine zc7 (r1:=zaj wb [.slice p k c] z45) (r2:=(GSl (.slice p k c) bs1).res) 900 901 rfl (zag _) ?_
 rw [zlg]
 refine Zy ?_;refine Zcm ?_;refine zcr 15 901 rfl rfl ?_;refine Za ?_;refine qe (zf6 L rfl rfl rfl rfl rfl (by kernel_rfl) el5 hz2) ?_;refine zd9 17 901 zq7 rfl zs7 fun s2 hp2 => ?_;obtain ⟨p2, k2, c2, rfl⟩:=hp2; refine ZK ?_;refine ym (yf L (q:=900) (cs':=[.slice p2 k2 c2]) rfl rfl rfl rfl rfl rfl rfl rfl rfl) ?_;refine zk ?_
 have e2:bs1.length + s.size = (bs1 ++ zdn s).length:=by rw [List.length_append, zbv]
 rw [zsh, e2]
 refine zej 900 901 rfl rfl (zsj _ _) ?_
 refine zlw (X:=Value) 900 (r:=fun sv => (GWv wb (bs1 ++ zdn s) sv).res) (φ:=fun sv _ => zq7 sv) zdf (.slice p2 k2 c2) ⟨_, _, _, rfl⟩ rfl ?_
 exact za9 L 900 (r:=GWr wb (bs1 ++ zdn s)) rfl (fun _ _ h => h) hs0 rfl rfl
theorem zzo {wb:Nat} {bs:List Nat} {a b:ByteArray} (ha:a.size ≤ 1000) (hb:b.size ≤ 1000) (hz:bs.length + 4000 ≤ 1099511627776) {w:World} {B:Heap} {C:Nat → Prop} (hB:B.Le (hp w)) (hr:(GWr wb bs).P B w C) (hC:∀ k, C k → k < w.heap.size ∧ B k = none) :
  zbd Tryz.prog 230 [zam wb, .agg #[.string a, .string b]] w B C (GWr wb (bs ++ zbb [a, b])):=by
 unfold zbd
 have h1:=zsw (s:=a) (by omega)
 rw [← zwh]
 refine zaf 900 (GWr wb bs) Tryz.func230 rfl Tryz.ntmps230 (Nat.le_of_ble_eq_true rfl) hB hr hC ?_
 refine ZA ?_;refine Zj ?_;refine ZbD ?_;refine Zm ?_;refine qe (zau L 900 (GWr wb (bs ++ zft a)) (r:=GWr wb bs) rfl rfl rfl rfl rfl (fun u H C hH _ hr hC => zm7 ha (by omega) hH hr hC)) ?_;refine Z6 ?_;refine Z4 ?_;refine Zm ?_;refine qe (zau L 900 (GWr wb (bs ++ zft a ++ zft b)) (r:=GWr wb (bs ++ zft a)) rfl rfl rfl rfl rfl (fun u H C hH _ hr hC => zm7 hb (by rw [List.length_append]; omega) hH hr hC)) ?_;refine zk ?_
 exact za9 L 900 (r:=GWr wb (bs ++ zft a ++ zft b)) rfl (fun _ _ h => h) Since.refl rfl rfl
theorem zo7 {wb:Nat} {bs:List Nat} {a b c:ByteArray} (ha:a.size ≤ 1000) (hb:b.size ≤ 1000) (hc:c.size ≤ 1000) (hz:bs.length + 8000 ≤ 1099511627776) {w:World} {B:Heap} {C:Nat → Prop} (hB:B.Le (hp w)) (hr:(GWr wb bs).P B w C) (hC:∀ k, C k → k < w.heap.size ∧ B k = none) :
  zbd Tryz.prog 160 [zam wb, .agg #[.string a, .string b, .string c]] w B C (GWr wb (bs ++ zbb [a, b, c])):=by
 unfold zbd
 have h1:=zfz (l:=[a, b]) (fun s hs => by simp only [List.mem_cons, List.not_mem_nil, or_false] at hs; rcases hs with rfl | rfl <;> assumption)
 simp only [List.length_cons, List.length_nil] at h1
 have e0:bs ++ zbb [a, b, c] = (bs ++ zbb [a, b]) ++ zft c:=by simp [zbb]
 rw [e0]
 refine zaf 900 (GWr wb bs) Tryz.func160 rfl Tryz.ntmps160 (Nat.le_of_ble_eq_true rfl) hB hr hC ?_
 refine ZA ?_;refine Zj ?_;refine ZbD ?_;refine Za6 ?_;refine qe (zau L 900 (GWr wb (bs ++ zbb [a, b])) (r:=GWr wb bs) rfl rfl rfl rfl rfl (fun u H C hH _ hr hC => zzo ha hb (by omega) hH hr hC)) ?_;refine Z6 ?_;refine Z4 ?_;refine Zm ?_;refine qe (zau L 900 (GWr wb (bs ++ zbb [a, b] ++ zft c)) (r:=GWr wb (bs ++ zbb [a, b])) rfl rfl rfl rfl rfl (fun u H C hH _ hr hC => zm7 hc (by rw [List.length_append]; omega) hH hr hC)) ?_;refine zk ?_
 exact za9 L 900 (r:=GWr wb (bs ++ zbb [a, b] ++ zft c)) rfl (fun _ _ h => h) Since.refl rfl rfl
theorem zzn {wb:Nat} {bs:List Nat} {a b c:ByteArray} (ha:a.size ≤ 1000) (hb:b.size ≤ 1000) (hc:c.size ≤ 1000) (hz:bs.length + 8000 ≤ 1099511627776) {w:World} {B:Heap} {C:Nat → Prop} (hB:B.Le (hp w)) (hr:(GWr wb bs).P B w C) (hC:∀ k, C k → k < w.heap.size ∧ B k = none) :
  zbd Tryz.prog 161 [zam wb, .agg #[.string a, .string b, .string c]] w B C (GWr wb (bs ++ zbb [a, b, c])):=by
 unfold zbd
 refine zaf 900 (GWr wb bs) Tryz.func161 rfl Tryz.ntmps161 (Nat.le_of_ble_eq_true rfl) hB hr hC ?_
 refine ZA ?_;refine Z6 ?_;refine ZbD ?_;refine ZeF ?_;refine qe (zau L 900 (GWr wb (bs ++ zbb [a, b, c])) (r:=GWr wb bs) rfl rfl rfl rfl rfl (fun u H C hH _ hr hC => zo7 ha hb hc hz hH hr hC)) ?_;refine zk ?_
 exact za9 L 900 (r:=GWr wb (bs ++ zbb [a, b, c])) rfl (fun _ _ h => h) Since.refl rfl rfl
theorem zzm {wb:Nat} {bs:List Nat} {t:U} (ht:∀ s ∈ u6 t, s.size ≤ 1000) (hz:bs.length + 16000 ≤ 1099511627776) {w:World} {B:Heap} {C:Nat → Prop} (hB:B.Le (hp w)) (hr:(GWr wb bs).P B w C) (hC:∀ k, C k → k < w.heap.size ∧ B k = none) :
  zbd Tryz.prog 96 [zam wb, uv t] w B C (GWr wb (bs ++ tupB t)):=by
 unfold zbd
 obtain ⟨⟨⟨a, b⟩, c⟩, ⟨⟨d, e⟩, f⟩⟩:=t
 have ha:=ht a (by simp [u6])
 have hb:=ht b (by simp [u6])
 have hc:=ht c (by simp [u6])
 have hd:=ht d (by simp [u6])
 have he:=ht e (by simp [u6])
 have hf:=ht f (by simp [u6])
 have h1:=zfz (l:=[a, b, c]) (fun s hs => by simp only [List.mem_cons, List.not_mem_nil, or_false] at hs; rcases hs with rfl | rfl | rfl <;> assumption)
 simp only [List.length_cons, List.length_nil] at h1
 have e0:bs ++ tupB (((a, b), c), ((d, e), f)) = (bs ++ zbb [a, b, c]) ++ zbb [d, e, f]:=by rw [zwi]; rfl
 rw [e0]
 refine zaf 900 (GWr wb bs) Tryz.func96 rfl Tryz.ntmps96 (Nat.le_of_ble_eq_true rfl) hB hr hC ?_
 refine ZA ?_;refine Zj ?_;refine ZbD ?_;refine Zbz ?_;refine qe (zau L 900 (GWr wb (bs ++ zbb [a, b, c])) (r:=GWr wb bs) rfl rfl rfl rfl rfl (fun u H C hH _ hr hC => zo7 ha hb hc (by omega) hH hr hC)) ?_;refine Z6 ?_;refine Z4 ?_;refine Zbz ?_;refine qe (zau L 900 (GWr wb (bs ++ zbb [a, b, c] ++ zbb [d, e, f])) (r:=GWr wb (bs ++ zbb [a, b, c])) rfl rfl rfl rfl rfl (fun u H C hH _ hr hC => zzn hd he hf (by rw [List.length_append]; omega) hH hr hC)) ?_;refine zk ?_
 exact za9 L 900 (r:=GWr wb (bs ++ zbb [a, b, c] ++ zbb [d, e, f])) rfl (fun _ _ h => h) Since.refl rfl rfl
end Go.V.L4
set_option maxRecDepth 20000
namespace Go.V.L11
open Go.Proofs Go.RowKit Go.V Go.V.L2 Go.V.L4 Go.V.L6 Go.V.L8
def zfp (l:List U):List Nat:=zb2 l.length ++ l.flatMap tupB
theorem zxz:∀ (n:Nat), ∀ b ∈ zb2 n, b ≤ 255:=fun n => by
 induction n using Nat.strongRecOn with
 | ind n ih =>
  intro b hb
  by_cases h:n < 128
  ·rw [zcq h, List.mem_singleton] at hb
   omega
  ·rw [zio h] at hb
   rcases List.mem_cons.1 hb with rfl | hb
   ·omega
   ·exact ih (n / 128) (by omega) b hb
theorem zsy {t:U} (h:∀ s ∈ u6 t, s.size ≤ 1000):(tupB t).length ≤ 6060:=zfz h
theorem zg8 {l:List U} (h:∀ t ∈ l, ∀ s ∈ u6 t, s.size ≤ 1000):∀ i, ((l.take i).flatMap tupB).length ≤ i * 6060
 | 0 => by rw [List.take_zero]; exact Nat.le_refl _
 | i + 1 => by
  have h1:=zg8 h i
  rw [List.take_add_one, List.flatMap_append, List.length_append]
  cases ht:l[i]? with
  | none =>
   have e:(none.toList:List U).flatMap tupB = []:=rfl
   rw [e, List.length_nil]; omega
  | some t =>
   have h2:=zsy (h t (List.mem_of_getElem? ht))
   have e:((some t).toList:List U).flatMap tupB = tupB t:=by simp
   rw [e]; omega
theorem zl3 {l:List U} {i:Nat} {t:U} (h:l[i]? = some t):(l.take (i + 1)).flatMap tupB = (l.take i).flatMap tupB ++ tupB t:=by
 rw [List.take_add_one, h, List.flatMap_append]; simp
attribute [local irreducible] V N X VO Par XP LV StepOK Has Ret RetL RetO RetT zbd RetX RetY Pan zjl Src
set_option maxHeartbeats 1000000 in
theorem zi1 {l:List U} (hl:l.length ≤ 100000) (ht:∀ t ∈ l, ∀ s ∈ u6 t, s.size ≤ 1000) {v:Value} {w:World} {B:Heap} (hB:B.Le (hp w)) (hv:SetV l v B):Ret Tryz.prog 32 [v] w B (BsV (zfp l) true):=by
 have h128:(128:Nat) ^ 10 = 1180591620717411303424:=by decide
 have hnl:=zeo 9 l.length (by omega)
 have hcv:IntKind.u64.wrap (l.length:Int) = (l.length:Int):=zal (by omega) (by omega)
 obtain ⟨f, p, k, q, rfl, hpl⟩:=hv.shape
 refine qu Tryz.func32 rfl Tryz.ntmps32 (Nat.le_of_ble_eq_true rfl) hB ?_
 refine ZbO ?_;refine Zab ?_
 refine zax 3 900 rfl fun wb => ?_
 refine zg5 901 zje 1 ?_
 refine ZeV ?_
 refine zjc (X:=Value) 900 (r:=fun sv => (GWv wb [] sv).res) (φ:=fun sv _ => zq7 sv) zdf (.slice none 0 0) ⟨_, _, _, rfl⟩ rfl ?_
 refine Zy ?_;refine Zbp ?_;refine z7 (q0 L rfl rfl (zn rfl) rfl rfl rfl (fun u H hH hle _ => zdc rfl hH (hv.le hle))) rfl ?_;refine z7 (za0 rfl rfl rfl zcb.1 zcb.2 (zal (by omega) (by omega))) rfl ?_;refine qe (zau L 900 (GWr wb (zb2 l.length)) (r:=GWr wb []) rfl rfl rfl rfl rfl (fun u H C hH _ hr hC => zc1 (bs:=[]) (by omega) (by decide) hH hr hC)) ?_;refine Za0 ?_;refine Zk ?_;refine Zbp ?_;refine z7 (yk (φ:=US l true) L rfl rfl (zn rfl) rfl rfl rfl SlV.mono (fun u H hH hle _ => zdt hl hH (hv.le hle))) rfl ?_;refine Zdc ?_;refine ZeE ?_
 refine zao (fun i:Nat => [(12, .is (.int .i64 l.length)), (13, .is (.int .i64 i)), (11, .sat (US l true)), (3, .is (zam wb)), (900, .own (GWr wb (zb2 l.length ++ (l.take i).flatMap tupB)).res)]) (fun i => i ≤ l.length) (fun i => l.length - i) 0 (Nat.zero_le _) ⟨rfl, rfl, rfl, rfl, by rw [List.take_zero, List.flatMap_nil, List.append_nil]; rfl, trivial⟩ ?_
 rintro i hi
 have hsz:=zg8 ht i
 have hz0:(zb2 l.length ++ (l.take i).flatMap tupB).length + 16000 ≤ 1099511627776:=by rw [List.length_append]; omega
 by_cases hlt:i < l.length
 ·obtain ⟨t, hg⟩:=zaw hlt
  have hcr:=ze0 hg
  have htt:=ht t (List.mem_of_getElem? hg)
  have hsn:=zl3 hg
  refine Zgg ?_;refine Zn ?_;refine Zaq ?_;refine Zd8 ?_;refine Zdz ?_;refine Z6 ?_;refine ZN ?_;refine ZP ?_;refine qe (zau L 900 (GWr wb (zb2 l.length ++ (l.take i).flatMap tupB ++ tupB t)) (r:=GWr wb (zb2 l.length ++ (l.take i).flatMap tupB)) rfl rfl rfl rfl rfl (fun u H C hH _ hr hC => zzm htt hz0 hH hr hC)) ?_;refine Zav ?_;refine Z8 ?_;refine Zbd ?_
  exact yl (x:=i) (i + 1) hlt (by omega) ⟨rfl, rfl, rfl, rfl, by rw [hsn, ← List.append_assoc]; rfl, trivial⟩
 ·obtain rfl:i = l.length:=by omega
  rw [List.take_length] at hz0 ⊢
  have hz1:(zb2 l.length ++ l.flatMap tupB).length ≤ 1099511627776:=by omega
  refine Zds ?_;refine Zao ?_;refine Z0 ?_;refine qe (zk5 L 900 GNo (BsV (zfp l) true) (r:=GWr wb (zfp l)) rfl rfl rfl rfl rfl SlV.mono (fun u H C hH _ hr hC => ziu (zid hz1 hH hr hC))) ?_;refine ZbE ?_
  exact qt L (rs:=[.tmp 2]) rfl (fun _ _ h => h) Since.refl (fun _ H _ _ v hv => hv)
end Go.V.L11
set_option maxRecDepth 20000
namespace Go.V
open Go.RowKit
section
variable {P:Program} {F:Fr} {B:Heap} {O:Boxes} {n:Nat} {ops:Array Oper} {κ:Kap} {d:Nat} {ty:TypeId} {pos:String} {aft:Array Edge} {g:Option (Nat × Bool)}
theorem zgr (L:Tabs P) {t e:TypeId} {ag:Bool} {s len:Nat} {parts:Array (Nat × Operand)} {z:Value} {vs:List (Nat × Value)} (hn:Nat.blt d n = true) (hg:gK ops κ ⟨some d, .buildSlice t len parts, ty, pos, aft, g⟩ = some true)
  (ht:L.sl t = some e) (hl:L.ld e = some (ag, s)) (hz:L.zr e = some z) (hv:evP κ parts.toList = some vs) (hlen:vs.length = len) (hen:zy0 s 0 vs = true) (hb:Nat.ble (len * s) 16777216 = true) (hcl:(zhv vs).length = len * s) (hml:len ≤ maxLen) :
  StepOK P F B n ops O κ ⟨some d, .buildSlice t len parts, ty, pos, aft, g⟩ d (.own (SlR e s len (zhv vs))):=by
 rintro κ' a u hlk ⟨H, fp, hh⟩
 unfold After
 rw [if_pos (zae hh hlk hg)]
 have en:=hh.env hlk
 have hrun:(execOp a.eval ⟨some d, .buildSlice t len parts, ty, pos, aft, g⟩).run P u = .ok (.value (.slice (some ⟨u.heap.size, 0, none⟩) len len)) (u.alloc (.cells (zhv vs).toArray e)):=by
  have hm:=zol en parts.toList vs (fun p hp' => by simp [Op.operands]; exact ⟨p.1, by simpa using hp'⟩) hv
  have harr:(parts.map fun (p:Nat × Operand) => (p.1, a.eval p.2)) = vs.toArray:=by
   rw [← hm, ← List.map_toArray, Array.toArray_toList]
  have hb':=Nat.le_of_ble_eq_true hb
  have hzz:=Tabs.zr_spec hz
  unfold zrI at hzz
  split at hzz
  ·rename_i it hit
   have hzr:(zeroValue e).run P u = .ok z u:=by simp [zeroValue, typeInfo, hit, hzz]
   simp only [execOp, Sem.run_bind]
   show Result.andThen ((Instr.buildSlice t len (parts.map fun (p:Nat × Operand) => (p.1, a.eval p.2))).run P u) _ = _
   rw [harr]
   simp only [Instr.buildSlice, Sem.run_bind, run_underlying (Tabs.sl_spec ht), Result.andThen_ok, zbe (Tabs.ld_spec hl)]
   rw [if_neg (by omega)]
   have hfill:∀ cells:Array Value, cells.size = len * s → Instr.fill (fun i => some (i * s, s)) cells vs = some (zhv vs).toArray:=fun cells hc => by
    have:=zln vs 0 cells hen (by rw [hc, hlen]; simp)
    simpa using this
   by_cases h0:len * s = 0
   ·simp only [h0, if_true, Sem.run_bind, Sem.run_pure, Result.andThen_ok]
    rw [hfill _ (by simp [h0])]
    simp [newRow]
   ·simp only [h0, if_false, Sem.run_bind, Sem.run_pure, Result.andThen_ok, hzr]
    rw [hfill _ (by simp)]
    simp [newRow]
  ·cases hzz
 rw [hrun]
 simp only [Upon]
 have hg2:=hh.grow (Grow.hid hh.sub (.cells (zhv vs).toArray e))
 refine ⟨H, _, hg2.putR (C:=fun k => k = u.heap.size) (by simp [Act.put]) rfl (fun t ht => zap ht) ⟨hcl, .inr ⟨u.heap.size, len, [], zat (by rw [hh.size]; exact zn hn), by rw [zak, List.append_nil], Nat.le_refl _, hml, by rw [List.append_nil]; exact hcl, fun _ => Iff.rfl⟩⟩ (fun k hk => ?_) fun t r' _ ht k hf hk => ?_⟩
 ·subst hk
  exact ⟨zaa (zak u _), za8 hh.sub (Nat.le_refl _), .inl hh.keep.size, fun y hy e => by have:=zaa (hh.boxes y hy).1; omega⟩
 ·have:=((hh.slot t _ ht).2 k hf).1
  omega
end
end Go.V
set_option maxRecDepth 20000
namespace Go.V.L11
open Go.Proofs Go.RowKit Go.V Go.V.L2 Go.V.L4 Go.V.L6 Go.V.L8 Go.V.Bd
theorem _root_.Go.V.ZeW {A B:Prop} (h:B) (t:Wr B → A:=by intro h; refine z7 (z2c rfl rfl rfl rfl (by omega) (by assumption)) rfl ?_;exact h.h):A:=t ⟨h⟩
theorem _root_.Go.V.Zfs {A B:Prop} (h:B) (t:Wr B → A:=by intro h; refine z7 (z5x rfl rfl rfl rfl (by omega) (by assumption)) rfl ?_;exact h.h):A:=t ⟨h⟩
attribute [local irreducible] V N X VO Par XP LV StepOK Has Ret RetL RetO RetT zbd RetX RetY Pan zjl Src
set_option maxHeartbeats 1000000 in
theorem zta (n:Nat):n < 18446744073709551616 → ∀ {w:World} {B:Heap}, B.Le (hp w) → RetO Tryz.prog 22 [.int .u64 n] w B (SlR zje 1 (zb2 n).length (byV (zb2 n))):=by
 induction n using Nat.strongRecOn with
 | ind n ih =>
  intro hn w B hB
  by_cases h:n < 128
  ·rw [zcq h]
   have hcv:IntKind.u8.wrap (n:Int) = (n:Int):=zfh (by omega) (by omega)
   refine zcd Tryz.func22 rfl Tryz.ntmps22 (Nat.le_of_ble_eq_true rfl) hB ?_
   refine ZaL ?_;refine ZB ?_;refine Zt ?_;refine Z4 ?_;refine z7 (za0 rfl rfl rfl zi8.1 zi8.2 (zfh (by omega) (by omega))) rfl ?_;refine z7 (zgr L rfl rfl rfl rfl rfl rfl rfl rfl rfl rfl (by decide)) rfl ?_;refine qe (yh (.inr rfl) rfl rfl rfl rfl) ?_;refine Z6 ?_
   exact zfq rfl (fun _ _ h => h) Since.refl rfl
  ·rw [zio h]
   have hq:(n:Int).tdiv 128 = ((n / 128:Nat):Int):=rfl
   have hr:(n:Int).tmod 128 = ((n % 128:Nat):Int):=rfl
   have hwq:IntKind.u64.wrap ((n:Int).tdiv 128) = ((n / 128:Nat):Int):=zal (by omega) (by omega)
   have hcv:IntKind.u8.wrap ((n % 128:Nat):Int) = ((n % 128:Nat):Int):=zfh (by omega) (by omega)
   have hwa:IntKind.u8.wrap (((n % 128:Nat):Int) + 128) = ((n % 128 + 128:Nat):Int):=zfh (by omega) (by omega)
   have h128:(128:Nat) ^ 10 = 1180591620717411303424:=by decide
   have hnl:=zeo 9 (n / 128) (by omega)
   have hlen2:(byV (zb2 (n / 128))).length = (zb2 (n / 128)).length * 1:=by rw [List.length_map, Nat.mul_one]
   have hpl2:=zh4 (zb2 (n / 128))
   refine zcd Tryz.func22 rfl Tryz.ntmps22 (Nat.le_of_ble_eq_true rfl) hB ?_
   refine ZaL ?_;refine Zo ?_;refine Zdy ?_;refine ZeW ?_;refine z7 (za0 rfl rfl rfl zi8.1 zi8.2 (zfh (by omega) (by omega))) rfl ?_;refine Zak ?_;refine z7 (zgr L rfl rfl rfl rfl rfl rfl rfl rfl rfl rfl (by decide)) rfl ?_;refine Za ?_;refine Zfs ?_;refine z7 (zbz L rfl rfl (zn rfl) rfl rfl rfl (fun u H hH _ _ => ih (n / 128) (by omega) (by omega) hH)) rfl ?_;refine zfw 15 rfl ?_;refine Zf2 ?_;refine qe (yh (.inr rfl) rfl rfl rfl rfl) ?_;refine Z6 ?_
   have e1:byV ((n % 128 + 128) :: zb2 (n / 128)) = [Value.int .u8 ((n % 128 + 128:Nat):Int)] ++ byV (zb2 (n / 128)):=rfl
   have e2:((n % 128 + 128) :: zb2 (n / 128)).length = 1 + (zb2 (n / 128)).length:=by rw [List.length_cons]; omega
   rw [e1, e2]
   exact zfq rfl (fun _ _ h => h) Since.refl rfl
theorem zzc (a b:List Nat):byV (a ++ b) = byV a ++ byV b:=List.map_append ..
theorem zl9 {l:List ByteArray} {i:Nat} {s:ByteArray} (h:l[i]? = some s):zbb (l.take (i + 1)) = zbb (l.take i) ++ (zb2 s.size ++ zdn s):=by
 unfold zbb
 rw [List.take_add_one, h, List.flatMap_append]
 simp [zft]
set_option maxHeartbeats 1000000 in
theorem zuw {l:List ByteArray} {fu:Bool} (hs:∀ s ∈ l, s.size ≤ 1000) (hl:l.length ≤ 100) {v:Value} {w:World} {B:Heap} (hB:B.Le (hp w)) (hv:SlV 9 1 (l.map Value.string) l.length fu v B):RetO Tryz.prog 66 [v] w B (SlR zje 1 (zbb l).length (byV (zbb l))):=by
 refine zcd Tryz.func66 rfl Tryz.ntmps66 (Nat.le_of_ble_eq_true rfl) hB ?_
 refine za4 0 (SlV 9 1 (l.map Value.string) l.length fu) rfl SlV.mono hv ?_
 refine Zac ?_;refine Zg ?_
 refine zet 3 zje 1 rfl ?_
 refine Zy ?_;refine ZW ?_
 refine zao (fun i:Nat => [(0, .sat (SlV 9 1 (l.map Value.string) l.length fu)), (3, .own (SlR zje 1 (zbb (l.take i)).length (byV (zbb (l.take i))))), (4, .is (.int .i64 i))]) (fun i => i ≤ l.length) (fun i => l.length - i) 0 (Nat.zero_le _) ⟨rfl, rfl, rfl, trivial⟩ ?_
 rintro i hi
 by_cases hlt:i < l.length
 ·obtain ⟨s, hg⟩:=zaw hlt
  have hcr:=z15 hg
  have hss:=hs s (List.mem_of_getElem? hg)
  have hcv:IntKind.u64.wrap (s.size:Int) = (s.size:Int):=zal (by omega) (by omega)
  have h128:(128:Nat) ^ 10 = 1180591620717411303424:=by decide
  have hnl:=zeo 9 s.size (by omega)
  have hlen2:(byV (zb2 s.size)).length = (zb2 s.size).length * 1:=by rw [List.length_map, Nat.mul_one]
  have hpl2:=zh4 (zb2 s.size)
  have hsl:=zfz (l:=l.take i) (fun x hx => hs x (List.mem_of_mem_take hx))
  rw [List.length_take] at hsl
  have hz:(zbb (l.take i)).length + (zb2 s.size).length + s.size ≤ 140737488355328:=by omega
  refine Zba ?_;refine ZeP ?_;refine Zn ?_;refine qe (yh (.inl rfl) rfl rfl rfl rfl) ?_;refine Zet ?_;refine Za4 ?_;refine ZH ?_;refine z7 (za0 rfl rfl rfl zcb.1 zcb.2 (zal (by omega) (by omega))) rfl ?_;refine z7 (zbz L rfl rfl (zn rfl) rfl rfl rfl (fun u H hH _ _ => zta s.size (by omega) hH)) rfl ?_;refine zfw 18 rfl ?_;refine Zf2 ?_;refine qe (yh (.inr rfl) rfl rfl rfl rfl) ?_;refine Z6 ?_;refine ZN ?_;refine qe (yh (.inl rfl) rfl rfl rfl rfl) ?_;refine Zet ?_;refine Za4 ?_;refine qe (zf6 L rfl rfl rfl rfl rfl (by kernel_rfl) el5 hz) ?_;refine qe (yh (.inr rfl) rfl rfl rfl rfl) ?_;refine Zav ?_;refine ZbV ?_
  have e1:byV (zbb (l.take (i + 1))) = byV (zbb (l.take i)) ++ byV (zb2 s.size) ++ Lib.strCells s:=by rw [zl9 hg, ← zzc, zsh, List.append_assoc]
  have e2:(zbb (l.take (i + 1))).length = (zbb (l.take i)).length + (zb2 s.size).length + s.size:=by rw [zl9 hg, List.length_append, List.length_append, zbv, Nat.add_assoc]
  exact yl (x:=i) (i + 1) hlt (by omega) ⟨rfl, by rw [e1, e2]; rfl, rfl, trivial⟩
 ·obtain rfl:i = l.length:=by omega
  rw [List.take_length]
  refine Zba ?_;refine Zd2 ?_;refine ZaS ?_;refine Z8 ?_;refine qe (yh (.inl rfl) rfl rfl rfl rfl) ?_;refine qe (yh (.inr rfl) rfl rfl rfl rfl) ?_;refine Z6 ?_
  exact zfq rfl (fun _ _ h => h) Since.refl rfl
theorem zwy {t:U} (ht:∀ s ∈ u6 t, s.size ≤ 1000) {w:World} {B:Heap} (hB:B.Le (hp w)):RetO Tryz.prog 23 [uv t] w B (SlR zje 1 (tupB t).length (byV (tupB t))):=by
 refine zcd Tryz.func23 rfl Tryz.ntmps23 (Nat.le_of_ble_eq_true rfl) hB ?_
 refine ZbO ?_;refine Zax ?_;refine Zax ?_;refine Zm ?_;refine Zax ?_;refine Zax ?_;refine Zm ?_;refine Zax ?_;refine Zm ?_;refine Zax ?_;refine Zax ?_;refine Zm ?_;refine Zax ?_;refine Zax ?_;refine Zm ?_;refine Zax ?_;refine Zm ?_;refine ZaV ?_;refine z7 (zbz L rfl rfl (zn rfl) rfl rfl rfl (fun u H hH hle _ v1 h1 => zuw (l:=u6 t) (fu:=true) ht (Nat.le_of_ble_eq_true rfl) hH (SlB.toV (n:=6) h1 rfl))) rfl ?_;refine qe (yh (.inr rfl) rfl rfl rfl rfl) ?_;refine Z6 ?_
 exact zfq rfl (fun _ _ h => h) Since.refl rfl
set_option maxHeartbeats 1000000 in
theorem zw2 {l:List U} {fu:Bool} (hl:l.length ≤ 100000) (ht:∀ t ∈ l, ∀ s ∈ u6 t, s.size ≤ 1000) {v:Value} {w:World} {B:Heap} (hB:B.Le (hp w)) (hv:US l fu v B):RetO Tryz.prog 34 [v] w B (SlR zje 1 (zfp l).length (byV (zfp l))):=by
 have h128:(128:Nat) ^ 10 = 1180591620717411303424:=by decide
 have hnl:=zeo 9 l.length (by omega)
 have hcv:IntKind.u64.wrap (l.length:Int) = (l.length:Int):=zal (by omega) (by omega)
 refine zcd Tryz.func34 rfl Tryz.ntmps34 (Nat.le_of_ble_eq_true rfl) hB ?_
 refine za4 0 (US l fu) rfl SlV.mono hv ?_
 refine Zac ?_;refine Zv ?_;refine z7 (za0 rfl rfl rfl zcb.1 zcb.2 (zal (by omega) (by omega))) rfl ?_;refine z7 (zbz L rfl rfl (zn rfl) rfl rfl rfl (fun u H hH _ _ => zta l.length (by omega) hH)) rfl ?_;refine qe (yh (.inr rfl) rfl rfl rfl rfl) ?_;refine Za0 ?_;refine Zy ?_;refine ZW ?_
 refine zao (fun i:Nat => [(0, .sat (US l fu)), (3, .own (SlR zje 1 (zb2 l.length ++ (l.take i).flatMap tupB).length (byV (zb2 l.length ++ (l.take i).flatMap tupB)))), (4, .is (.int .i64 i))]) (fun i => i ≤ l.length) (fun i => l.length - i) 0 (Nat.zero_le _) ⟨rfl, by rw [List.take_zero, List.flatMap_nil, List.append_nil]; rfl, rfl, trivial⟩ ?_
 rintro i hi
 have hsz:=zg8 ht i
 have hz0:(zb2 l.length ++ (l.take i).flatMap tupB).length ≤ 1099511600000:=by rw [List.length_append]; omega
 by_cases hlt:i < l.length
 ·obtain ⟨t, hg⟩:=zaw hlt
  have hcr:=ze0 hg
  have htt:=ht t (List.mem_of_getElem? hg)
  have htl:=zsy htt
  have hsn:=zl3 hg
  have hlen2:(byV (tupB t)).length = (tupB t).length * 1:=by rw [List.length_map, Nat.mul_one]
  have hpl2:=zh4 (tupB t)
  refine Zba ?_;refine Zv ?_;refine ZaX ?_;refine ZbP ?_;refine Zn ?_;refine qe (yh (.inl rfl) rfl rfl rfl rfl) ?_;refine ZcL ?_;refine z7 (zbz L rfl rfl (zn rfl) rfl rfl rfl (fun u H hH _ _ => zwy htt hH)) rfl ?_;refine zfw 20 rfl ?_;refine Zf2 ?_;refine qe (yh (.inr rfl) rfl rfl rfl rfl) ?_;refine Zav ?_;refine ZbV ?_
  have e1:byV (zb2 l.length ++ (l.take (i + 1)).flatMap tupB) = byV (zb2 l.length ++ (l.take i).flatMap tupB) ++ byV (tupB t):=by rw [hsn, ← List.append_assoc, zzc]
  have e2:(zb2 l.length ++ (l.take (i + 1)).flatMap tupB).length = (zb2 l.length ++ (l.take i).flatMap tupB).length + (tupB t).length:=by rw [hsn, ← List.append_assoc, List.length_append]
  exact yl (x:=i) (i + 1) hlt (by omega) ⟨rfl, by rw [e1, e2]; rfl, rfl, trivial⟩
 ·obtain rfl:i = l.length:=by omega
  rw [List.take_length]
  refine Zba ?_;refine Zd2 ?_;refine Zb0 ?_;refine qe (yh (.inl rfl) rfl rfl rfl rfl) ?_;refine qe (yh (.inr rfl) rfl rfl rfl rfl) ?_;refine Z6 ?_
  exact zfq rfl (fun _ _ h => h) Since.refl rfl
end Go.V.L11
set_option maxRecDepth 20000
namespace Go.V
open Go.RowKit Go.V.L4
theorem ze8 {u:World} {a:Addr} {n k:Nat} (h:k ≠ a.block):(u.freeze a n).heap[k]? = u.heap[k]?:=by
 unfold World.freeze
 split
 ·rfl
 ·simp [Array.getElem?_modify, Ne.symm h]
theorem zrn (u:World) (a:Addr) (n:Nat):(u.freeze a n).heap.size = u.heap.size:=by
 unfold World.freeze
 split <;> simp
theorem zsa {u:World} {H:Heap} {b n:Nat} {L:Nat → Prop} (hs:H.Le (hp u)) (hL:L b) (hH:H b = none):Grow L u H (u.freeze ⟨b, 0, none⟩ n) H :=
 have ho:(u.freeze ⟨b, 0, none⟩ n).os = u.os ∧ (u.freeze ⟨b, 0, none⟩ n).tape = u.tape ∧ (u.freeze ⟨b, 0, none⟩ n).output = u.output ∧ (u.freeze ⟨b, 0, none⟩ n).drawn = u.drawn:=by unfold World.freeze; split <;> exact ⟨rfl, rfl, rfl, rfl⟩
 ⟨⟨ho.1, ho.2.1, ho.2.2.1, Nat.le_of_eq (zrn ..).symm, fun k _ hk => ze8 (fun e => hk (e ▸ hL)), Nat.le_of_eq ho.2.2.2.symm⟩, fun k x hx => by
  have:k ≠ b:=fun e => by subst e; rw [hH] at hx; cases hx
  show (u.freeze ⟨b, 0, none⟩ n).heap[k]? = some x
  rw [ze8 this]; exact hs k x hx, Heap.Le.refl _, fun _ _ _ => rfl⟩
def zds (bs:List Nat):ByteArray:=⟨(bs.map UInt8.ofNat).toArray⟩
section
variable {P:Program} {F:Fr} {B:Heap} {O:Boxes} {n:Nat} {ops:Array Oper} {κ:Kap} {d q b:Nat} {ty:TypeId} {pos:String} {aft:Array Edge} {g:Option (Nat × Bool)} {x y:Operand} {Q:Exit → Act → World → Prop}
theorem z66 (q:Nat) {r:Res} {c:Code} (S:Prop) (hk:κ q = some (.own r)) (hS:∀ v H u C, r.P v H u C → S) (h:S → V P F B n O κ c Q):V P F B n O κ c Q:=fun a u hh => by
 obtain ⟨H, fp, hH⟩:=hh
 exact h (hS _ _ _ _ (hH.slot q _ hk).1) a u ⟨H, fp, hH⟩
theorem zp8 {tts:Array TypeId} {a0:Addr} {m c:Nat} (hn:Nat.blt d n = true) (hg:gK ops κ ⟨some d, .call ⟨.builtin .unsafeSliceData, #[x], tts⟩, ty, pos, aft, g⟩ = some true) (hx:evK κ x = some (.slice (some a0) m c)) (hc:c ≠ 0) :
  StepOK P F B n ops O κ ⟨some d, .call ⟨.builtin .unsafeSliceData, #[x], tts⟩, ty, pos, aft, g⟩ d (.is (.pointer (some a0))) :=
 zan rfl (by simpa using hn) hg trivial fun a u H fp e => ⟨_, by
  have h1:a.eval x = .slice (some a0) m c:=e.is_ x _ (by simp [Op.operands, Call.operands]) hx
  have h2:=Lib.run_unsafeSliceData_row (P:=P) u tts ty a0 m c hc
  simp only [execOp, resolve, invoke, builtin, Sem.run_bind, Sem.run_pure, Result.andThen_ok, List.map_toArray, List.map_cons, List.map_nil, h1, h2], rfl⟩
theorem zp6 {pt it e:TypeId} {m c:Nat} {bs:List Nat} (hb:∀ b ∈ bs, b ≤ 255) (h0:bs ≠ []) (hl:bs.length ≤ 1099511627776) (hn:Nat.blt d n = true) (hg:gK ops κ ⟨some d, .call ⟨.builtin .unsafeString, #[x, y], #[pt, it]⟩, ty, pos, aft, g⟩ = some true) (hx:evK κ x = some (.pointer (some ⟨b, 0, none⟩))) (hy:evK κ y = some (.int .i64 bs.length))
  (hq:κ q = some (.own (AtV (.slice (some ⟨b, 0, none⟩) m c) (SlR e 1 bs.length (byV bs))))) (hp:P.underlying pt = some (.pointer e)) (hc:P.cellsOf e = 1) :
  zdg P F B n ops O κ ⟨some d, .call ⟨.builtin .unsafeString, #[x, y], #[pt, it]⟩, ty, pos, aft, g⟩ q (.own GNo.res) d (.is (.string (zds bs))):=by
 rintro κ' a u hlk hks ⟨H, fp, hh⟩
 unfold After
 rw [if_pos (zae hh hlk hg)]
 have en:=hh.env hlk
 have hk':=hks.trans hq
 obtain ⟨hown, hM⟩:=hh.slot q _ hk'
 have h1:a.eval x = .pointer (some ⟨b, 0, none⟩):=en.is_ x _ (by simp [Op.operands, Call.operands]) hx
 have h2:a.eval y = .int .i64 bs.length:=en.is_ y _ (by simp [Op.operands, Call.operands]) hy
 obtain ⟨hxl, hown⟩:=hown
 rcases hown with ⟨_, hv, _⟩ | ⟨b2, cap, rest, hv, hbk, hnc, hcm, hcl, hC⟩
 ·cases hv
 ·cases hv
  have hbm:=hM b ((hC b).2 rfl)
  have hlen:(bs.map UInt8.ofNat).length = bs.length:=List.length_map _
  have hr:=Lib.run_unsafeString_row (P:=P) u pt it ty e hp hc b (byV bs ++ rest).toArray.size (by simp [World.shape?, hbk]) (bs.map UInt8.ofNat) (fun h => h0 (List.map_eq_nil_iff.1 h)) (by rw [hlen]; simp) (by rw [hlen]; omega) (fun j v hj => by
   rw [zb1, Nat.zero_add, zas hbk]
   rw [List.getElem?_map] at hj
   cases hbj:bs[j]? with
   | none => rw [hbj] at hj; cases hj
   | some z =>
    rw [hbj] at hj
    cases hj
    have hz:=hb z (List.mem_of_getElem? hbj)
    have hjl:j < (byV bs).length:=by rw [List.length_map]; exact get_lt hbj
    simp only [List.getElem?_toArray]
    rw [List.getElem?_append_left hjl, List.getElem?_map, hbj]
    have:(UInt8.ofNat z).toNat = z:=by simp; omega
    rw [this]
    rfl)
  rw [hlen] at hr
  have hrun:(execOp a.eval ⟨some d, .call ⟨.builtin .unsafeString, #[x, y], #[pt, it]⟩, ty, pos, aft, g⟩).run P u = .ok (.value (.string (zds bs))) (u.freeze ⟨b, 0, none⟩ bs.length):=by
   simp only [execOp, resolve, invoke, builtin, Sem.run_bind, Sem.run_pure, Result.andThen_ok, List.map_toArray, List.map_cons, List.map_nil, h1, h2, hr]
   rfl
  rw [hrun]
  simp only [Upon]
  have h3:=hh.usePut (d:=q) (a':=a) (r':=GNo.res) (C:=fun _ => False) hk' (zsa (n:=bs.length) hh.sub ((hC b).2 rfl) hbm.2.1) rfl rfl (fun _ _ => rfl) (fun k h => h) (fun k h => h.elim)
  rw [zbr] at h3
  exact ⟨H, _, h3.put (k:=.is _) (zn hn) trivial rfl⟩
theorem znx {tts:Array TypeId} {m c:Nat} (hn:Nat.blt d n = true) (hg:gK ops κ ⟨some d, .call ⟨.builtin .unsafeSliceData, #[x], tts⟩, ty, pos, aft, g⟩ = some true) (hx:evK κ x = some (.slice none m c)) :
  StepOK P F B n ops O κ ⟨some d, .call ⟨.builtin .unsafeSliceData, #[x], tts⟩, ty, pos, aft, g⟩ d (.is (.pointer none)) :=
 zan rfl (by simpa using hn) hg trivial fun a u H fp e => ⟨_, by
  have h1:a.eval x = .slice none m c:=e.is_ x _ (by simp [Op.operands, Call.operands]) hx
  have h2:=Lib.run_unsafeSliceData_nil (P:=P) u tts ty m c
  simp only [execOp, resolve, invoke, builtin, Sem.run_bind, Sem.run_pure, Result.andThen_ok, List.map_toArray, List.map_cons, List.map_nil, h1, h2], rfl⟩
theorem znw {pt it:TypeId} {p0:Option Addr} (hn:Nat.blt d n = true) (hg:gK ops κ ⟨some d, .call ⟨.builtin .unsafeString, #[x, y], #[pt, it]⟩, ty, pos, aft, g⟩ = some true) (hx:evK κ x = some (.pointer p0)) (hy:evK κ y = some (.int .i64 0)) :
  StepOK P F B n ops O κ ⟨some d, .call ⟨.builtin .unsafeString, #[x, y], #[pt, it]⟩, ty, pos, aft, g⟩ d (.is (.string .empty)) :=
 zan rfl (by simpa using hn) hg trivial fun a u H fp e => ⟨_, by
  have h1:a.eval x = .pointer p0:=e.is_ x _ (by simp [Op.operands, Call.operands]) hx
  have h2:a.eval y = .int .i64 0:=e.is_ y _ (by simp [Op.operands, Call.operands]) hy
  have h3:=Lib.run_unsafeString_none (P:=P) u pt it ty p0
  simp only [execOp, resolve, invoke, builtin, Sem.run_bind, Sem.run_pure, Result.andThen_ok, List.map_toArray, List.map_cons, List.map_nil, h1, h2, h3], rfl⟩
end
end Go.V
set_option maxRecDepth 20000
namespace Go.V
open Go.RowKit Go.V.L4
section
variable {P:Program} {F:Fr} {B:Heap} {O:Boxes} {n:Nat} {ops:Array Oper} {κ:Kap} {d q:Nat} {ty:TypeId} {pos:String} {aft:Array Edge} {g:Option (Nat × Bool)} {src dst e:TypeId}
theorem zdy {bs:List Nat} {fu:Bool} (hb:∀ b ∈ bs, b ≤ 255) (hn:Nat.blt d n = true) (hg:gK ops κ ⟨some d, .convert src dst (.tmp q), ty, pos, aft, g⟩ = some true) (hx:κ q = some (.sat (BsV bs fu))) (hs:P.underlying src = some (.slice e)) (he:P.underlying e = some (.int .u8)) (hd:P.underlying dst = some .string) :
  StepOK P F B n ops O κ ⟨some d, .convert src dst (.tmp q), ty, pos, aft, g⟩ d (.is (.string (zds bs))) :=
 zan rfl (by simpa using hn) hg trivial fun a u H fp en => ⟨_, by
  have key:(convert src dst (a.eval (.tmp q))).run P u = .ok (.string (zds bs)) u:=by
   obtain ⟨hl, ⟨h0, p, hv⟩ | ⟨b, off, cap, cs, ty0, fr, hv, h2, h3, h4, _⟩⟩:=en.sat_ q _ (by simp [Op.operands]) hx
   ·have hb0:bs = []:=List.eq_nil_of_length_eq_zero h0
    subst hb0
    rw [hv]
    cases p with
    | none => exact run_convert_bytes_nil u src e hs he _ _ dst hd
    | some a0 => exact run_convert_bytes_back (P:=P) u src dst e a0 0 [] hs he hd (fun j hj => by cases hj)
   ·rw [hv]
    have hlen:(bs.map UInt8.ofNat).length = bs.length:=List.length_map _
    have hr:=run_convert_bytes_back (P:=P) u src dst e ⟨b, off, none⟩ cap (bs.map UInt8.ofNat) hs he hd (fun j hj => by
     rw [hlen] at hj
     obtain ⟨z, hz⟩:=zaw hj
     have hj2:(bs.map fun b:Nat => Value.int .u8 (b:Int))[j]? = some (.int .u8 (z:Int)):=by rw [List.getElem?_map, hz]; rfl
     have h5:=AtP.get h3 hj2
     rw [zb1, zas (en.sub _ _ h2)]
     have h6:((bs.map UInt8.ofNat)[j]'(by rw [hlen]; exact hj)).toNat = z:=by
      have hzb:=hb z (List.mem_of_getElem? hz)
      rw [List.getElem_map, zgb hz]
      simp
      omega
     rw [h6]
     simpa using h5)
    rw [hlen] at hr
    exact hr
  simp only [execOp, Sem.run_bind, Sem.run_pure, key, Result.andThen_ok], rfl⟩
end
end Go.V
set_option maxRecDepth 20000
namespace Go.V.L4
open Go.Proofs Go.RowKit Go.V Go.V.L2 Go.V.L3 Go.V.L8
abbrev z47:TypeId:=29
abbrev z48:TypeId:=31
abbrev oV (x:ByteArray × ByteArray):Value:=.agg #[.string x.1, .string x.2]
abbrev gV (x:zsm):Value:=.agg #[.string x.1.1, .string x.1.2, .string x.2]
abbrev sZ:ByteArray:=⟨#[]⟩
attribute [local irreducible] V N X VO Par StepOK Has Ret RetL RetO RetT zbd RetX RetY Src
theorem zuk {rb:Nat} {sv:Value} {R:Rd} {gf:Rd → ByteArray × Rd} {fr:Nat} {fst cap:List Value} (hfn:L.fn fr = some ()) {w:World} {B:Heap} {C:Nat → Prop} (hB:B.Le (hp w)) (hr:(GRd rb sv R).P B w C) (hC:∀ k, C k → k < w.heap.size ∧ B k = none)
  (hf:R.err = 0 → ∀ (u:World) (H:Heap) (C:Nat → Prop), H.Le (hp u) → B.Le H → (GRd rb sv R).P H u C → (∀ k, C k → k < u.heap.size ∧ H k = none) → RetX Tryz.prog fr (fst ++ cap) u H C (GRd rb sv (gf R).2) (.string (gf R).1)) :
  RetX Tryz.prog 284 [zam rb, .func (.func fr) fst.toArray cap.toArray] w B C (GRd rb sv (zdr gf sZ R).2) (.string (zdr gf sZ R).1):=by
 unfold RetX
 refine zaf 900 (GRd rb sv R) Tryz.func284 rfl Tryz.ntmps284 (Nat.le_of_ble_eq_true rfl) hB hr hC ?_
 rw [zac]
 obtain ⟨⟨n, ⟨at1, bad1, err1⟩⟩, hz⟩:∃ z, gf R = z:=⟨_, rfl⟩
 obtain ⟨at_, bad, err⟩:=R
 unfold zdr
 rw [hz] at hf ⊢
 dsimp only at hf ⊢
 by_cases h0:err ≠ 0
 ·rw [if_pos h0]
  refine Zdx ?_;refine qe (yc L 900 (GRd rb sv ⟨at_, bad, err⟩) (.bool true) (r:=GRd rb sv ⟨at_, bad, err⟩) rfl rfl rfl rfl rfl (fun u H C2 hH _ hr2 hC2 => zar (decide_eq_true h0) hH hr2 hC2)) ?_;refine Zt ?_;refine Zs ?_;refine Zb ?_
  exact zaq L 900 (r:=zai rb _ zd0) (rs:=[.tmp 4]) rfl (fun _ _ h => h) Since.refl rfl rfl (fun _ => rfl)
 ·have he:err = 0:=Decidable.not_not.1 h0
  subst he
  rw [if_neg h0]
  have hf:=hf rfl
  by_cases h1:err1 ≠ 0
  ·rw [if_pos h1]
   refine Zdx ?_;refine qe (yc L 900 (GRd rb sv ⟨at_, bad, 0⟩) (.bool false) (r:=GRd rb sv ⟨at_, bad, 0⟩) rfl rfl rfl rfl rfl (fun u H C2 hH _ hr2 hC2 => zar (decide_eq_false h0) hH hr2 hC2)) ?_;refine ZcC ?_;refine qe (zbc L 900 (GRd rb sv ⟨at1, bad1, err1⟩) (.string n) (r:=GRd rb sv ⟨at_, bad, 0⟩) rfl rfl rfl hfn rfl hf) ?_;refine Zg ?_;refine ZcD ?_;refine Zz ?_;refine ZbA ?_;refine ZK ?_;refine ym (yf L (q:=900) (cs':=[sv, .int .i64 at_, .int .i64 bad1, .int .i64 err1]) rfl rfl rfl rfl rfl rfl rfl rfl rfl) ?_;refine Zj ?_;refine ZaA ?_;refine Zb ?_
   exact zaq L 900 (r:=zai rb _ zd0) (rs:=[.tmp 4]) rfl (fun _ _ h => h) Since.refl rfl rfl (fun _ => rfl)
  ·have he:err1 = 0:=Decidable.not_not.1 h1
   subst he
   rw [if_neg h1]
   refine Zdx ?_;refine qe (yc L 900 (GRd rb sv ⟨at_, bad, 0⟩) (.bool false) (r:=GRd rb sv ⟨at_, bad, 0⟩) rfl rfl rfl rfl rfl (fun u H C2 hH _ hr2 hC2 => zar (decide_eq_false h0) hH hr2 hC2)) ?_;refine ZcC ?_;refine qe (zbc L 900 (GRd rb sv ⟨at1, bad1, 0⟩) (.string n) (r:=GRd rb sv ⟨at_, bad, 0⟩) rfl rfl rfl hfn rfl hf) ?_;refine Zg ?_;refine ZcD ?_;refine ZG ?_;refine Zb8 ?_;refine Zb ?_
   exact zaq L 900 (r:=zai rb _ zd0) (rs:=[.tmp 4]) rfl (fun _ _ h => h) Since.refl rfl rfl (fun _ => rfl)
theorem zul {rb:Nat} {sv:Value} {R:Rd} {gf:Rd → (ByteArray × ByteArray) × Rd} {fr:Nat} {fst cap:List Value} (hfn:L.fn fr = some ()) {w:World} {B:Heap} {C:Nat → Prop} (hB:B.Le (hp w)) (hr:(GRd rb sv R).P B w C) (hC:∀ k, C k → k < w.heap.size ∧ B k = none)
  (hf:R.err = 0 → ∀ (u:World) (H:Heap) (C:Nat → Prop), H.Le (hp u) → B.Le H → (GRd rb sv R).P H u C → (∀ k, C k → k < u.heap.size ∧ H k = none) → RetX Tryz.prog fr (fst ++ cap) u H C (GRd rb sv (gf R).2) (oV (gf R).1)) :
  RetX Tryz.prog 282 [zam rb, .func (.func fr) fst.toArray cap.toArray] w B C (GRd rb sv (zdr gf (sZ, sZ) R).2) (oV (zdr gf (sZ, sZ) R).1):=by
 unfold RetX
 refine zaf 900 (GRd rb sv R) Tryz.func282 rfl Tryz.ntmps282 (Nat.le_of_ble_eq_true rfl) hB hr hC ?_
 rw [zac]
 obtain ⟨⟨n, ⟨at1, bad1, err1⟩⟩, hz⟩:∃ z, gf R = z:=⟨_, rfl⟩
 
 obtain ⟨at_, bad, err⟩:=R
 unfold zdr
 rw [hz] at hf ⊢
 dsimp only at hf ⊢
 by_cases h0:err ≠ 0
 ·rw [if_pos h0]
  refine Zcy ?_;refine Zan ?_;refine Z4 ?_;refine qe (yc L 900 (GRd rb sv ⟨at_, bad, err⟩) (.bool true) (r:=GRd rb sv ⟨at_, bad, err⟩) rfl rfl rfl rfl rfl (fun u H C2 hH _ hr2 hC2 => zar (decide_eq_true h0) hH hr2 hC2)) ?_;refine Zt ?_;refine Zk ?_;refine ZbU ?_;refine Z1 ?_
  exact zaq L 900 (r:=zai rb _ zd0) (rs:=[.cell 4 z47]) rfl (fun _ _ h => h) Since.refl rfl rfl (fun _ => ⟨_, qg rfl, rfl, rfl⟩)
 ·have he:err = 0:=Decidable.not_not.1 h0
  subst he
  rw [if_neg h0]
  have hf:=hf rfl
  by_cases h1:err1 ≠ 0
  ·rw [if_pos h1]
   refine Zcy ?_;refine Zan ?_;refine Z4 ?_;refine qe (yc L 900 (GRd rb sv ⟨at_, bad, 0⟩) (.bool false) (r:=GRd rb sv ⟨at_, bad, 0⟩) rfl rfl rfl rfl rfl (fun u H C2 hH _ hr2 hC2 => zar (decide_eq_false h0) hH hr2 hC2)) ?_;refine ZcC ?_;refine qe (zbc L 900 (GRd rb sv ⟨at1, bad1, err1⟩) (oV n) (r:=GRd rb sv ⟨at_, bad, 0⟩) rfl rfl rfl hfn rfl hf) ?_;refine Zby ?_;refine ZcD ?_;refine Zz ?_;refine ZbA ?_;refine ZK ?_;refine ym (yf L (q:=900) (cs':=[sv, .int .i64 at_, .int .i64 bad1, .int .i64 err1]) rfl rfl rfl rfl rfl rfl rfl rfl rfl) ?_;refine Zj ?_;refine Z0 ?_;refine ZbU ?_;refine Z1 ?_
   exact zaq L 900 (r:=zai rb _ zd0) (rs:=[.cell 4 z47]) rfl (fun _ _ h => h) Since.refl rfl rfl (fun _ => ⟨_, qg rfl, rfl, rfl⟩)
  ·have he:err1 = 0:=Decidable.not_not.1 h1
   subst he
   rw [if_neg h1]
   refine Zcy ?_;refine Zan ?_;refine Z4 ?_;refine qe (yc L 900 (GRd rb sv ⟨at_, bad, 0⟩) (.bool false) (r:=GRd rb sv ⟨at_, bad, 0⟩) rfl rfl rfl rfl rfl (fun u H C2 hH _ hr2 hC2 => zar (decide_eq_false h0) hH hr2 hC2)) ?_;refine ZcC ?_;refine qe (zbc L 900 (GRd rb sv ⟨at1, bad1, 0⟩) (oV n) (r:=GRd rb sv ⟨at_, bad, 0⟩) rfl rfl rfl hfn rfl hf) ?_;refine Zby ?_;refine ZcD ?_;refine ZG ?_;refine Z3 ?_;refine ZbU ?_;refine Z1 ?_
   exact zaq L 900 (r:=zai rb _ zd0) (rs:=[.cell 4 z47]) rfl (fun _ _ h => h) Since.refl rfl rfl (fun _ => ⟨_, qg rfl, rfl, rfl⟩)
theorem zre {rb:Nat} {sv:Value} {R:Rd} {gf:Rd → zsm × Rd} {fr:Nat} {fst cap:List Value} (hfn:L.fn fr = some ()) {w:World} {B:Heap} {C:Nat → Prop} (hB:B.Le (hp w)) (hr:(GRd rb sv R).P B w C) (hC:∀ k, C k → k < w.heap.size ∧ B k = none)
  (hf:R.err = 0 → ∀ (u:World) (H:Heap) (C:Nat → Prop), H.Le (hp u) → B.Le H → (GRd rb sv R).P H u C → (∀ k, C k → k < u.heap.size ∧ H k = none) → RetX Tryz.prog fr (fst ++ cap) u H C (GRd rb sv (gf R).2) (gV (gf R).1)) :
  RetX Tryz.prog 232 [zam rb, .func (.func fr) fst.toArray cap.toArray] w B C (GRd rb sv (zdr gf n3 R).2) (gV (zdr gf n3 R).1):=by
 unfold RetX
 refine zaf 900 (GRd rb sv R) Tryz.func232 rfl Tryz.ntmps232 (Nat.le_of_ble_eq_true rfl) hB hr hC ?_
 rw [zac]
 obtain ⟨⟨n, ⟨at1, bad1, err1⟩⟩, hz⟩:∃ z, gf R = z:=⟨_, rfl⟩
 
 obtain ⟨at_, bad, err⟩:=R
 unfold zdr
 rw [hz] at hf ⊢
 dsimp only at hf ⊢
 by_cases h0:err ≠ 0
 ·rw [if_pos h0]
  refine Zcy ?_;refine Zan ?_;refine Z4 ?_;refine qe (yc L 900 (GRd rb sv ⟨at_, bad, err⟩) (.bool true) (r:=GRd rb sv ⟨at_, bad, err⟩) rfl rfl rfl rfl rfl (fun u H C2 hH _ hr2 hC2 => zar (decide_eq_true h0) hH hr2 hC2)) ?_;refine Zt ?_;refine Zk ?_;refine Zep ?_;refine Z1 ?_
  exact zaq L 900 (r:=zai rb _ zd0) (rs:=[.cell 4 z48]) rfl (fun _ _ h => h) Since.refl rfl rfl (fun _ => ⟨_, qg rfl, rfl, rfl⟩)
 ·have he:err = 0:=Decidable.not_not.1 h0
  subst he
  rw [if_neg h0]
  have hf:=hf rfl
  by_cases h1:err1 ≠ 0
  ·rw [if_pos h1]
   refine Zcy ?_;refine Zan ?_;refine Z4 ?_;refine qe (yc L 900 (GRd rb sv ⟨at_, bad, 0⟩) (.bool false) (r:=GRd rb sv ⟨at_, bad, 0⟩) rfl rfl rfl rfl rfl (fun u H C2 hH _ hr2 hC2 => zar (decide_eq_false h0) hH hr2 hC2)) ?_;refine ZcC ?_;refine qe (zbc L 900 (GRd rb sv ⟨at1, bad1, err1⟩) (gV n) (r:=GRd rb sv ⟨at_, bad, 0⟩) rfl rfl rfl hfn rfl hf) ?_;refine Zby ?_;refine ZcD ?_;refine Zz ?_;refine ZbA ?_;refine ZK ?_;refine ym (yf L (q:=900) (cs':=[sv, .int .i64 at_, .int .i64 bad1, .int .i64 err1]) rfl rfl rfl rfl rfl rfl rfl rfl rfl) ?_;refine Zj ?_;refine Z0 ?_;refine Zep ?_;refine Z1 ?_
   exact zaq L 900 (r:=zai rb _ zd0) (rs:=[.cell 4 z48]) rfl (fun _ _ h => h) Since.refl rfl rfl (fun _ => ⟨_, qg rfl, rfl, rfl⟩)
  ·have he:err1 = 0:=Decidable.not_not.1 h1
   subst he
   rw [if_neg h1]
   refine Zcy ?_;refine Zan ?_;refine Z4 ?_;refine qe (yc L 900 (GRd rb sv ⟨at_, bad, 0⟩) (.bool false) (r:=GRd rb sv ⟨at_, bad, 0⟩) rfl rfl rfl rfl rfl (fun u H C2 hH _ hr2 hC2 => zar (decide_eq_false h0) hH hr2 hC2)) ?_;refine ZcC ?_;refine qe (zbc L 900 (GRd rb sv ⟨at1, bad1, 0⟩) (gV n) (r:=GRd rb sv ⟨at_, bad, 0⟩) rfl rfl rfl hfn rfl hf) ?_;refine Zby ?_;refine ZcD ?_;refine ZG ?_;refine Z3 ?_;refine Zep ?_;refine Z1 ?_
   exact zaq L 900 (r:=zai rb _ zd0) (rs:=[.cell 4 z48]) rfl (fun _ _ h => h) Since.refl rfl rfl (fun _ => ⟨_, qg rfl, rfl, rfl⟩)
theorem zuj {rb:Nat} {sv:Value} {R:Rd} {gf:Rd → U × Rd} {fr:Nat} {fst cap:List Value} (hfn:L.fn fr = some ()) {w:World} {B:Heap} {C:Nat → Prop} (hB:B.Le (hp w)) (hr:(GRd rb sv R).P B w C) (hC:∀ k, C k → k < w.heap.size ∧ B k = none)
  (hf:R.err = 0 → ∀ (u:World) (H:Heap) (C:Nat → Prop), H.Le (hp u) → B.Le H → (GRd rb sv R).P H u C → (∀ k, C k → k < u.heap.size ∧ H k = none) → RetX Tryz.prog fr (fst ++ cap) u H C (GRd rb sv (gf R).2) (uv (gf R).1)) :
  RetX Tryz.prog 162 [zam rb, .func (.func fr) fst.toArray cap.toArray] w B C (GRd rb sv (zdr gf (n3, n3) R).2) (uv (zdr gf (n3, n3) R).1):=by
 unfold RetX
 refine zaf 900 (GRd rb sv R) Tryz.func162 rfl Tryz.ntmps162 (Nat.le_of_ble_eq_true rfl) hB hr hC ?_
 rw [zac]
 obtain ⟨⟨n, ⟨at1, bad1, err1⟩⟩, hz⟩:∃ z, gf R = z:=⟨_, rfl⟩
 
 obtain ⟨at_, bad, err⟩:=R
 unfold zdr
 rw [hz] at hf ⊢
 dsimp only at hf ⊢
 by_cases h0:err ≠ 0
 ·rw [if_pos h0]
  refine Zcy ?_;refine Zan ?_;refine Z4 ?_;refine qe (yc L 900 (GRd rb sv ⟨at_, bad, err⟩) (.bool true) (r:=GRd rb sv ⟨at_, bad, err⟩) rfl rfl rfl rfl rfl (fun u H C2 hH _ hr2 hC2 => zar (decide_eq_true h0) hH hr2 hC2)) ?_;refine Zt ?_;refine Zk ?_;refine ZP ?_;refine Z1 ?_
  exact zaq L 900 (r:=zai rb _ zd0) (rs:=[.cell 4 tyU]) rfl (fun _ _ h => h) Since.refl rfl rfl (fun _ => ⟨_, qg rfl, rfl, rfl⟩)
 ·have he:err = 0:=Decidable.not_not.1 h0
  subst he
  rw [if_neg h0]
  have hf:=hf rfl
  by_cases h1:err1 ≠ 0
  ·rw [if_pos h1]
   refine Zcy ?_;refine Zan ?_;refine Z4 ?_;refine qe (yc L 900 (GRd rb sv ⟨at_, bad, 0⟩) (.bool false) (r:=GRd rb sv ⟨at_, bad, 0⟩) rfl rfl rfl rfl rfl (fun u H C2 hH _ hr2 hC2 => zar (decide_eq_false h0) hH hr2 hC2)) ?_;refine ZcC ?_;refine qe (zbc L 900 (GRd rb sv ⟨at1, bad1, err1⟩) (uv n) (r:=GRd rb sv ⟨at_, bad, 0⟩) rfl rfl rfl hfn rfl hf) ?_;refine Zby ?_;refine ZcD ?_;refine Zz ?_;refine ZbA ?_;refine ZK ?_;refine ym (yf L (q:=900) (cs':=[sv, .int .i64 at_, .int .i64 bad1, .int .i64 err1]) rfl rfl rfl rfl rfl rfl rfl rfl rfl) ?_;refine Zj ?_;refine Z0 ?_;refine ZP ?_;refine Z1 ?_
   exact zaq L 900 (r:=zai rb _ zd0) (rs:=[.cell 4 tyU]) rfl (fun _ _ h => h) Since.refl rfl rfl (fun _ => ⟨_, qg rfl, rfl, rfl⟩)
  ·have he:err1 = 0:=Decidable.not_not.1 h1
   subst he
   rw [if_neg h1]
   refine Zcy ?_;refine Zan ?_;refine Z4 ?_;refine qe (yc L 900 (GRd rb sv ⟨at_, bad, 0⟩) (.bool false) (r:=GRd rb sv ⟨at_, bad, 0⟩) rfl rfl rfl rfl rfl (fun u H C2 hH _ hr2 hC2 => zar (decide_eq_false h0) hH hr2 hC2)) ?_;refine ZcC ?_;refine qe (zbc L 900 (GRd rb sv ⟨at1, bad1, 0⟩) (uv n) (r:=GRd rb sv ⟨at_, bad, 0⟩) rfl rfl rfl hfn rfl hf) ?_;refine Zby ?_;refine ZcD ?_;refine ZG ?_;refine Z3 ?_;refine ZP ?_;refine Z1 ?_
   exact zaq L 900 (r:=zai rb _ zd0) (rs:=[.cell 4 tyU]) rfl (fun _ _ h => h) Since.refl rfl rfl (fun _ => ⟨_, qg rfl, rfl, rfl⟩)
end Go.V.L4
set_option maxRecDepth 20000
namespace Go.V.L4
open Go.Proofs Go.RowKit Go.V Go.V.L2 Go.V.L3 Go.V.L8
theorem zxy {bs:List Nat} {R:Rd} (h:R.at_ ≤ bs.length):(zfv bs R).2.at_ ≤ bs.length:=(zxx _ _ _ R h).1
theorem zsp {bs:List Nat} {lim:Nat} {e:Int} {R:Rd} (h:R.at_ ≤ bs.length):(zd1 bs lim e R).2.at_ ≤ bs.length:=by
 unfold zd1
 split
 ·dsimp only; rw [zoj]; exact zxy h
 ·exact zxy h
theorem zie {α:Type} {f:Rd → α × Rd} {z:α} {m:Nat} {R:Rd} (h:R.at_ ≤ m) (hf:(f R).2.at_ ≤ m):(zdr f z R).2.at_ ≤ m:=by
 unfold zdr
 split
 ·exact h
 ·split
  ·exact h
  ·exact hf
theorem zle {bs:List Nat} {lim:Nat} {R:Rd} (h:R.at_ ≤ bs.length):(zbp bs lim R).2.at_ ≤ bs.length:=zie h (zsp h)
theorem zjy {bs:List Nat} {lim:Nat} {R:Rd} (hl:lim ≤ 1099511627776) (h:(zbp bs lim R).2.err = 0):∃ n:Nat, (zbp bs lim R).1 = (n:Int) ∧ n ≤ lim:=by
 unfold zbp zdr at h ⊢
 split at h
 ·rename_i h0; exact absurd h h0
 ·rename_i h0
  rw [if_neg h0]
  split at h
  ·rename_i h1; exact absurd h h1
  ·rename_i h1
   rw [if_neg h1]
   unfold zq8 zd1 at h ⊢
   dsimp only at h ⊢
   split at h
   ·rename_i h2
    exfalso
    unfold Rd.fail at h
    split at h
    ·cases h
    ·rename_i h3; exact h3 h
   ·rename_i h2
    rw [if_neg h2]
    exact ⟨_, zad (by omega) (by omega), by omega⟩
def zg7 (bs:List Nat) (lim:Nat) (R:Rd):ByteArray × Rd :=
 if (zbp bs lim R).2.err ≠ 0 ∨ ((bs.length - (zbp bs lim R).2.at_:Nat):Int) < (zbp bs lim R).1 then (sZ, (zbp bs lim R).2.fail bs.length 17)
 else (zds ((bs.drop (zbp bs lim R).2.at_).take (zbp bs lim R).1.toNat), ⟨(zbp bs lim R).2.at_ + (zbp bs lim R).1.toNat, (zbp bs lim R).2.bad, (zbp bs lim R).2.err⟩)
def zcp (bs:List Nat) (lim:Nat):Rd → ByteArray × Rd:=zdr (zg7 bs lim) sZ
def zsx {α β:Type} (f:Rd → α × Rd) (g:Rd → β × Rd) (R:Rd):(α × β) × Rd:=(((f R).1, (g (f R).2).1), (g (f R).2).2)
def zr4 (bs:List Nat):Rd → (ByteArray × ByteArray) × Rd:=zdr (zsx (zcp bs 16) (zcp bs 16)) (sZ, sZ)
def zbj (bs:List Nat):Rd → zsm × Rd:=zdr (zsx (zr4 bs) (zcp bs 16)) n3
def zea (bs:List Nat):Rd → U × Rd:=zdr (zsx (zbj bs) (zbj bs)) (n3, n3)
theorem z23 {bs:List Nat} {lim:Nat} {R:Rd} (h:R.at_ ≤ bs.length):(zg7 bs lim R).2.at_ ≤ bs.length:=by
 have h1:=zle (lim:=lim) h
 unfold zg7
 split
 ·dsimp only; rw [zoj]; exact h1
 ·rename_i h2
  dsimp only
  omega
theorem zkg {bs:List Nat} {lim:Nat} {R:Rd} (h:R.at_ ≤ bs.length):(zcp bs lim R).2.at_ ≤ bs.length:=zie h (z23 h)
theorem zxv {bs:List Nat} {R:Rd} (h:R.at_ ≤ bs.length):(zr4 bs R).2.at_ ≤ bs.length:=zie h (zkg (zkg h))
theorem zoh {bs:List Nat} {R:Rd} (h:R.at_ ≤ bs.length):(zbj bs R).2.at_ ≤ bs.length:=zie h (zkg (zxv h))
theorem znf {bs:List Nat} {R:Rd} (h:R.at_ ≤ bs.length):(zea bs R).2.at_ ≤ bs.length:=zie h (zoh (zoh h))
section
variable {P:Program} {F:Fr} {B:Heap} {O:Boxes} {n:Nat} {ops:Array Oper} {κ:Kap} {d q:Nat} {ty:TypeId} {pos:String} {aft:Array Edge} {g:Option (Nat × Bool)}
theorem zp9 (L:Tabs P) {tt:TypeId} {bs:List Nat} {fu ag:Bool} {lo hi:Operand} {kl kh:IntKind} (i k:Nat) {pl ph:Int} (hn:Nat.blt d n = true) (hg:gK ops κ ⟨some d, .slice tt (.tmp q) (some lo) (some hi) none, ty, pos, aft, g⟩ = some true) (hx:κ q = some (.sat (BsV bs fu))) (ht:L.sl tt = some zje) (hl:L.ld zje = some (ag, 1))
  (hlo:evK κ lo = some (.int kl pl)) (hhi:evK κ hi = some (.int kh ph)) (el:pl = i) (eh:ph = (i + k:Nat)) (hjs:i + k ≤ bs.length):StepOK P F B n ops O κ ⟨some d, .slice tt (.tmp q) (some lo) (some hi) none, ty, pos, aft, g⟩ d (.sat (BsV ((bs.drop i).take k) false)):=by
 have h:=zbf (km:=.i64) (pm:=0) (P:=P) (F:=F) (B:=B) (O:=O) (ops:=ops) (aft:=aft) (ty:=ty) (pos:=pos) (ys:=((bs.drop i).take k).map fun b:Nat => Value.int .u8 (b:Int)) L i (i + k) false hn hg hx ht hl ⟨hlo, el⟩ ⟨hhi, eh⟩ (fun h => by cases h) (by omega) hjs (by rw [Nat.mul_one, Nat.mul_one, Nat.add_sub_cancel_left, List.map_take, List.map_drop])
 have e:i + k - i = ((bs.drop i).take k).length:=by rw [List.length_take, List.length_drop]; omega
 rw [e] at h
 exact h
end
attribute [local irreducible] V N X VO Par StepOK Has Ret RetL RetO RetT zbd RetX RetY Src
abbrev zzu:TypeId:=154
set_option maxHeartbeats 1000000 in
theorem zzx {rb b2 b3:Nat} {bs:List Nat} {fu:Bool} {sv:Value} {R:Rd} {lim:Nat} (hlim:lim ≤ 1099511627776) (hb:∀ b ∈ bs, b ≤ 255) (hl:bs.length ≤ 1099511627776) (hat:R.at_ ≤ bs.length) {w:World} {B:Heap} {C:Nat → Prop} (hB:B.Le (hp w)) (hs:BsV bs fu sv B) (h2:B b2 = some (.cells #[zam rb] zzu)) (h3:B b3 = some (.cells #[.int .i64 lim] 3)) (hr:(GRd rb sv R).P B w C) (hC:∀ k, C k → k < w.heap.size ∧ B k = none) :
  RetX Tryz.prog 285 [zam b2, zam b3] w B C (GRd rb sv (zg7 bs lim R).2) (.string (zg7 bs lim R).1):=by
 obtain ⟨p, c, rfl⟩:=zbt hs
 unfold RetX
 refine zaf 900 (GRd rb _ R) Tryz.func285 rfl Tryz.ntmps285 (Nat.le_of_ble_eq_true rfl) hB hr hC ?_
 rw [zac]
 have hla:=zle (lim:=lim) hat
 obtain ⟨z, ⟨at1, bad1, err1⟩, hz⟩:∃ z R1, zbp bs lim R = (z, R1):=⟨_, _, rfl⟩
 have hlen:=fun (u:World) (H:Heap) (C2:Nat → Prop) (hH:H.Le (hp u)) (hle:B.Le H) hr2 hC2 => hz ▸ len_ret (R:=R) (rb:=rb) (C:=C2) hlim hb hl hat hH (hs.le hle) hr2 hC2
 have hlv:=fun h => zjy (bs:=bs) (R:=R) hlim h
 unfold zg7
 rw [hz] at hlv hla ⊢
 dsimp only at hlv hla ⊢
 by_cases h0:err1 ≠ 0
 ·rw [if_pos (.inl h0)]
  refine Zac ?_;refine z7 (q6 L (qn rfl h2) rfl rfl rfl rfl) rfl ?_;refine z7 (q6 L (qn rfl h3) rfl rfl rfl rfl) rfl ?_;refine qe (yc L 900 (GRd rb (.slice p bs.length c) ⟨at1, bad1, err1⟩) (.int .i64 z) (r:=GRd rb (.slice p bs.length c) R) rfl rfl rfl rfl rfl hlen) ?_;refine Zb4 ?_;refine z7 (q6 L (qn rfl h2) rfl rfl rfl rfl) rfl ?_;refine qe (yc L 900 (GRd rb (.slice p bs.length c) ⟨at1, bad1, err1⟩) (.bool true) (r:=GRd rb (.slice p bs.length c) ⟨at1, bad1, err1⟩) rfl rfl rfl rfl rfl (fun u H C2 hH _ hr2 hC2 => zar (decide_eq_true h0) hH hr2 hC2)) ?_;refine ZfR ?_;refine ZaM ?_;refine qh (id:=3) [(21, [900]), (200019, [900])] mixed (by kernel_rfl) ?_;refine zd (q6 L (qn rfl h2) rfl rfl rfl rfl) rfl ?_;refine zd (q6 L (qn rfl h2) rfl rfl rfl rfl) rfl ?_;refine Zb7 ?_;refine ZeI ?_;refine ZeJ ?_;refine zav (zau L 900 (GRd rb (.slice p bs.length c) ((⟨at1, bad1, err1⟩:Rd).fail bs.length 17)) (r:=GRd rb (.slice p bs.length c) ⟨at1, bad1, err1⟩) rfl rfl rfl rfl rfl (fun u H C2 hH _ hr2 hC2 => zgo hH hr2 hC2)) rfl rfl ?_;refine Zbu ?_;refine Zds ?_;refine Zb ?_
  exact zaq L 900 (r:=zai rb _ zd0) (rs:=[.tmp 2]) rfl (fun _ _ h => h) Since.refl rfl rfl (fun _ => rfl)
 ·have he:err1 = 0:=Decidable.not_not.1 h0
  subst he
  obtain ⟨k, rfl, hk⟩:=hlv rfl
  by_cases h1:bs.length - at1 < k
  ·rw [if_pos (.inr (by omega))]
   refine Zac ?_;refine z7 (q6 L (qn rfl h2) rfl rfl rfl rfl) rfl ?_;refine z7 (q6 L (qn rfl h3) rfl rfl rfl rfl) rfl ?_;refine qe (yc L 900 (GRd rb (.slice p bs.length c) ⟨at1, bad1, 0⟩) (.int .i64 k) (r:=GRd rb (.slice p bs.length c) R) rfl rfl rfl rfl rfl hlen) ?_;refine Zb4 ?_;refine z7 (q6 L (qn rfl h2) rfl rfl rfl rfl) rfl ?_;refine qe (yc L 900 (GRd rb (.slice p bs.length c) ⟨at1, bad1, 0⟩) (.bool false) (r:=GRd rb (.slice p bs.length c) ⟨at1, bad1, 0⟩) rfl rfl rfl rfl rfl (fun u H C2 hH _ hr2 hC2 => zar (decide_eq_false h0) hH hr2 hC2)) ?_;refine Zc ?_;refine z7 (q6 L (qn rfl h2) rfl rfl rfl rfl) rfl ?_;refine qe (yc L 900 (GRd rb (.slice p bs.length c) ⟨at1, bad1, 0⟩) (.int .i64 (bs.length - at1:Nat)) (r:=GRd rb (.slice p bs.length c) ⟨at1, bad1, 0⟩) rfl rfl rfl rfl rfl (fun u H C2 hH hle hr2 hC2 => zjz hl hla hH (hs.le hle) hr2 hC2)) ?_;refine Z2 ?_;refine ZaM ?_;refine qh (id:=3) [(21, [900]), (200019, [900])] mixed (by kernel_rfl) ?_;refine zd (q6 L (qn rfl h2) rfl rfl rfl rfl) rfl ?_;refine zd (q6 L (qn rfl h2) rfl rfl rfl rfl) rfl ?_;refine Zb7 ?_;refine ZeI ?_;refine ZeJ ?_;refine zav (zau L 900 (GRd rb (.slice p bs.length c) ((⟨at1, bad1, 0⟩:Rd).fail bs.length 17)) (r:=GRd rb (.slice p bs.length c) ⟨at1, bad1, 0⟩) rfl rfl rfl rfl rfl (fun u H C2 hH _ hr2 hC2 => zgo hH hr2 hC2)) rfl rfl ?_;refine Zbu ?_;refine Zds ?_;refine Zb ?_
   exact zaq L 900 (r:=zai rb _ zd0) (rs:=[.tmp 2]) rfl (fun _ _ h => h) Since.refl rfl rfl (fun _ => rfl)
  ·rw [if_neg (fun h => h.elim h0 (fun h => h1 (by omega))), Int.toNat_natCast]
   have hw1:IntKind.i64.wrap ((at1:Int) + (k:Int)) = ((at1 + k:Nat):Int):=(zad (by omega) (by omega)).trans (by omega)
   have hw2:IntKind.i64.wrap (((at1 + k:Nat):Int) - (k:Int)) = (at1:Int):=(zad (by omega) (by omega)).trans (by omega)
   have hsb:∀ b ∈ (bs.drop at1).take k, b ≤ 255:=fun b hb2 => hb b (List.mem_of_mem_drop (List.mem_of_mem_take hb2))
   refine Zac ?_;refine z7 (q6 L (qn rfl h2) rfl rfl rfl rfl) rfl ?_;refine z7 (q6 L (qn rfl h3) rfl rfl rfl rfl) rfl ?_;refine qe (yc L 900 (GRd rb (.slice p bs.length c) ⟨at1, bad1, 0⟩) (.int .i64 k) (r:=GRd rb (.slice p bs.length c) R) rfl rfl rfl rfl rfl hlen) ?_;refine Zb4 ?_;refine z7 (q6 L (qn rfl h2) rfl rfl rfl rfl) rfl ?_;refine qe (yc L 900 (GRd rb (.slice p bs.length c) ⟨at1, bad1, 0⟩) (.bool false) (r:=GRd rb (.slice p bs.length c) ⟨at1, bad1, 0⟩) rfl rfl rfl rfl rfl (fun u H C2 hH _ hr2 hC2 => zar (decide_eq_false h0) hH hr2 hC2)) ?_;refine Zc ?_;refine z7 (q6 L (qn rfl h2) rfl rfl rfl rfl) rfl ?_;refine qe (yc L 900 (GRd rb (.slice p bs.length c) ⟨at1, bad1, 0⟩) (.int .i64 (bs.length - at1:Nat)) (r:=GRd rb (.slice p bs.length c) ⟨at1, bad1, 0⟩) rfl rfl rfl rfl rfl (fun u H C2 hH hle hr2 hC2 => zjz hl hla hH (hs.le hle) hr2 hC2)) ?_;refine ZS ?_;refine ZY ?_;refine Zn ?_;refine z7 (q6 L (qn rfl h2) rfl rfl rfl rfl) rfl ?_;refine ZaP ?_;refine Zeu ?_;refine ZK ?_;refine ym (yf L (q:=900) (cs':=[.slice p bs.length c, .int .i64 (at1 + k:Nat), .int .i64 bad1, .int .i64 0]) rfl rfl rfl rfl rfl rfl rfl rfl rfl) ?_;refine Zj ?_;refine qh (id:=6) [(200033, [900]), (200037, [900]), (200043, [900])] mixed (by kernel_rfl) ?_;refine zd (q6 L (qn rfl h2) rfl rfl rfl rfl) rfl ?_;refine Zb7 ?_;refine yj (StepOKR.seeV (ql L (q:=900) rfl rfl rfl rfl rfl rfl) hs) rfl rfl ?_;refine zd (q6 L (qn rfl h2) rfl rfl rfl rfl) rfl ?_;refine Zb7 ?_;refine ZeI ?_;refine Zi ?_;refine Zen ?_;refine zd (q6 L (qn rfl h2) rfl rfl rfl rfl) rfl ?_;refine Zb7 ?_;refine ZeI ?_;refine zd (zp9 L (fu:=fu) at1 k rfl rfl rfl rfl rfl rfl rfl rfl rfl (by omega)) rfl ?_;refine zd (zdy (bs:=(bs.drop at1).take k) (fu:=false) hsb rfl rfl rfl rfl rfl rfl) rfl ?_;refine Zl ?_
   exact zaq L 900 (r:=zai rb _ zd0) (rs:=[.tmp 2]) rfl (fun _ _ h => h) Since.refl rfl rfl (fun _ => rfl)
end Go.V.L4
set_option maxRecDepth 20000
namespace Go.V.L11
open Go.Proofs Go.RowKit Go.V Go.V.L2 Go.V.L3 Go.V.L4 Go.V.L8
theorem _root_.Go.V.Zew {A B:Prop} (h:B) (t:Wr B → A:=by intro h; refine z7 (q8 L (vs:=[_, _, _, _]) (qw rfl (List.Mem.head _)) rfl rfl rfl rfl ⟨_, rfl⟩) rfl ?_;exact h.h):A:=t ⟨h⟩
abbrev tyRr:TypeId:=166
abbrev rv (sv:Value) (R:Rd):Value:=.agg #[sv, .int .i64 R.at_, .int .i64 R.bad, .int .i64 R.err]
def zeu:List Nat → Nat
 | [] => 0
 | d :: ds => d % 128 + 128 * zeu ds
theorem zkb:∀ (ds:List Nat) (d:Nat), zeu (ds ++ [d]) = zeu ds + d % 128 * 128 ^ ds.length
 | [], d => by simp [zeu]
 | x :: ds, d => by
  show x % 128 + 128 * zeu (ds ++ [d]) = _
  rw [zkb, List.length_cons, Nat.pow_succ]
  show _ = x % 128 + 128 * zeu ds + _
  rw [Nat.mul_add, Nat.add_assoc, Nat.mul_left_comm 128, Nat.mul_comm (128 ^ ds.length) 128]
theorem zv2:∀ (ds:List Nat), zeu ds < 128 ^ ds.length
 | [] => by simp [zeu]
 | d :: ds => by
  have:=zv2 ds
  rw [List.length_cons, Nat.pow_succ]
  show d % 128 + 128 * zeu ds < _
  omega
theorem zsz {bs:List Nat} {a n:Nat} {b:Nat} (h:bs[a + n]? = some b):(bs.drop a).take (n + 1) = (bs.drop a).take n ++ [b]:=by
 have hd:(bs.drop a)[n]? = some b:=by rw [List.getElem?_drop]; exact h
 rw [List.take_add_one, hd]; rfl
theorem zgf {bs:List Nat} {a n:Nat} (h:a + n ≤ bs.length):((bs.drop a).take n).length = n:=by rw [List.length_take, List.length_drop]; omega
theorem ztl {bs:List Nat} {a bad:Nat} {err:Int}:∀ (n:Nat), n ≤ 9 → a + n ≤ bs.length → (∀ j < n, ∃ b, bs[a + j]? = some b ∧ 128 ≤ b) →
  zhm bs 10 0 0 ⟨a, bad, err⟩ = zhm bs (10 - n) n (zeu ((bs.drop a).take n)) ⟨a + n, bad, err⟩
 | 0, _, _, _ => by rw [List.take_zero]; rfl
 | n + 1, h9, hl, h => by
  rw [ztl n (by omega) (by omega) fun j hj => h j (by omega)]
  obtain ⟨b, hb, h128⟩:=h n (by omega)
  obtain ⟨f, hf⟩:∃ f, 10 - n = f + 1:=⟨9 - n, by omega⟩
  rw [hf, show 10 - (n + 1) = f by omega]
  show zhm bs (f + 1) n _ _ = _
  unfold zhm
  dsimp only
  rw [hb]
  dsimp only
  rw [if_neg (by omega), if_neg (by omega), zsz hb, zkb, zgf (by omega)]
  cases f <;> rfl
theorem z30 {bs:List Nat} {a bad n:Nat} (h9:n ≤ 9) (hl:a + n ≤ bs.length) (h:∀ j < n, ∃ b, bs[a + j]? = some b ∧ 128 ≤ b) :
  (a + n = bs.length → zjt bs ⟨a, bad, 0⟩ = (0, ⟨a, bs.length, 17⟩)) ∧
  ∀ b, bs[a + n]? = some b → (b < 128 ∨ n = 9) → ((0 < n ∧ b = 0 ∨ n = 9 ∧ b ≠ 1) → zjt bs ⟨a, bad, 0⟩ = (0, ⟨a, a + n, 5⟩)) ∧
   (¬ (0 < n ∧ b = 0 ∨ n = 9 ∧ b ≠ 1) → zjt bs ⟨a, bad, 0⟩ = (zeu ((bs.drop a).take (n + 1)), ⟨a + n + 1, bad, 0⟩) ∧ zeu ((bs.drop a).take (n + 1)) < 18446744073709551616):=by
 have hs:=ztl (bad:=bad) (err:=0) n h9 hl h
 obtain ⟨f, hf⟩:∃ f, 10 - n = f + 1:=⟨9 - n, by omega⟩
 rw [hf] at hs
 unfold zjt zdr zfv
 rw [if_neg (by simp)]
 refine ⟨fun he => ?_, fun b hb hbn => ⟨fun hbad => ?_, fun hok => ?_⟩⟩
 ·have hnone:bs[a + n]? = none:=List.getElem?_eq_none_iff.2 (by omega)
  have hv:=hs.trans (show zhm bs (f + 1) n (zeu ((bs.drop a).take n)) ⟨a + n, bad, 0⟩ = (0, ⟨a + n, bs.length, 17⟩) from by
   unfold zhm
   dsimp only
   rw [hnone]
   rfl)
  rw [hv]
  rfl
 ·have hbad2:n = 9 ∧ b ≠ 1 ∨ 0 < n ∧ b = 0:=by omega
  have hv:=hs.trans (show zhm bs (f + 1) n (zeu ((bs.drop a).take n)) ⟨a + n, bad, 0⟩ = (0, ⟨a + n, a + n, 5⟩) from by
   unfold zhm
   dsimp only
   rw [hb]
   dsimp only
   rw [if_pos hbad2]
   rfl)
  rw [hv]
  rfl
 ·have hok2:¬ (n = 9 ∧ b ≠ 1 ∨ 0 < n ∧ b = 0):=by omega
  have hb128:b < 128:=by omega
  have hv2:=hs.trans (show zhm bs (f + 1) n (zeu ((bs.drop a).take n)) ⟨a + n, bad, 0⟩ = (zeu ((bs.drop a).take n) + b % 128 * 128 ^ n, ⟨a + n + 1, bad, 0⟩) from by
   unfold zhm
   dsimp only
   rw [hb]
   dsimp only
   rw [if_neg hok2, if_pos hb128])
  have hv:zeu ((bs.drop a).take (n + 1)) = zeu ((bs.drop a).take n) + b % 128 * 128 ^ n:=by rw [zsz hb, zkb, zgf hl]
  rw [hv]
  refine ⟨?_, ?_⟩
  ·rw [hv2]
   rfl
  ·have hlt:=zv2 ((bs.drop a).take n)
   rw [zgf hl] at hlt
   have h64:(128:Nat) ^ 9 = 9223372036854775808:=by decide
   by_cases hn9:n = 9
   ·subst hn9
    have hb1:b = 1:=by omega
    subst hb1
    omega
   ·have h8:n ≤ 8:=by omega
    have hp:(128:Nat) ^ n ≤ 128 ^ 8:=Nat.pow_le_pow_right (by decide) h8
    have h56:(128:Nat) ^ 8 = 72057594037927936:=by decide
    have hm:b % 128 * 128 ^ n ≤ 127 * 128 ^ n:=Nat.mul_le_mul_right _ (by omega)
    omega
attribute [local irreducible] V N X VO Par XP LV StepOK Has Ret RetL RetO RetT zbd RetX RetY Pan zjl Src
theorem zec {p:Option Addr} {k c:Nat} {R:Rd} {a:Nat} {e:Int} {w:World} {B:Heap} (hB:B.Le (hp w)) :
  Ret Tryz.prog 149 [rv (.slice p k c) R, .int .i64 a, .int .i64 e] w B (fun v _ => v = rv (.slice p k c) (R.fail a e)):=by
 obtain ⟨at_, bad, err⟩:=R
 refine qu Tryz.func149 rfl Tryz.ntmps149 (Nat.le_of_ble_eq_true rfl) hB ?_
 refine ZZ ?_;refine Zan ?_
 refine zey 3 rfl fun b3 hb3 => ?_
 unfold Rd.fail
 by_cases h0:err = 0
 ·rw [if_pos h0]
  refine Zx ?_;refine Zu ?_;refine ZJ ?_;refine Zt ?_;refine Z4 ?_;refine ZfB ?_;refine Z6 ?_;refine Zs ?_;refine Zdn ?_;refine Zr ?_;refine Zew ?_;refine Z1 ?_
  refine qt L (rs:=[.cell 6 166]) rfl (fun _ _ h => h) Since.refl fun u H hH hle => ?_
  exact ⟨_, qg rfl, rfl, rfl⟩
 ·rw [if_neg h0]
  refine Zx ?_;refine Zu ?_;refine ZbW ?_;refine Zr ?_;refine Zew ?_;refine Z1 ?_
  refine qt L (rs:=[.cell 6 166]) rfl (fun _ _ h => h) Since.refl fun u H hH hle => ?_
  exact ⟨_, qg rfl, rfl, rfl⟩
end Go.V.L11
set_option maxRecDepth 20000
namespace Go.V.L11
open Go.Proofs Go.RowKit Go.V Go.V.L2 Go.V.L3 Go.V.L4 Go.V.L8
theorem _root_.Go.V.ZcU {A B:Prop} (h:B) (t:Wr B → A:=by intro h; refine zd (q8 L (vs:=[_, _, _, _]) (qw rfl (List.Mem.head _)) rfl rfl rfl rfl ⟨_, rfl⟩) rfl ?_;exact h.h):A:=t ⟨h⟩
theorem _root_.Go.V.Zbq {A B:Prop} (h:B) (t:Wr B → A:=by intro h; refine Zu ?_;refine Zeu ?_;exact h.h):A:=t ⟨h⟩
theorem _root_.Go.V.Zbr {A B:Prop} (h:B) (t:Wr B → A:=by intro h; refine Zu ?_;refine Zcj ?_;exact h.h):A:=t ⟨h⟩
theorem _root_.Go.V.ZcV {A B:Prop} (h:B) (t:Wr B → A:=by intro h; refine Zae ?_;refine Ze ?_;exact h.h):A:=t ⟨h⟩
theorem zg6:∀ (ds:List Nat) (k:Nat), zeu (ds.drop k) ≤ zeu ds
 | [], k => by rw [List.drop_nil]; exact Nat.le_refl _
 | d :: ds, 0 => Nat.le_refl _
 | d :: ds, k + 1 => by
  have:=zg6 ds k
  show zeu (ds.drop k) ≤ d % 128 + 128 * zeu ds
  omega
attribute [local irreducible] V N X VO Par XP LV StepOK Has Ret RetL RetO RetT zbd RetX RetY Pan zjl Src
set_option maxRecDepth 20000 in
set_option maxHeartbeats 8000000 in
theorem zw3 {bs:List Nat} {fu:Bool} {p:Option Addr} {c:Nat} {R:Rd} (hb:∀ b ∈ bs, b ≤ 255) (hl:bs.length ≤ 1099511627776) (hat:R.at_ ≤ bs.length) {w:World} {B:Heap} (hB:B.Le (hp w)) (hv:BsV bs fu (.slice p bs.length c) B) :
  Ret Tryz.prog 82 [rv (.slice p bs.length c) R] w B (fun v _ => v = .tuple #[.int .u64 ((zjt bs R).1:Nat), rv (.slice p bs.length c) (zjt bs R).2]):=by
 obtain ⟨at_, bad, err⟩:=R
 dsimp only [rv] at hat ⊢
 refine qu Tryz.func82 rfl Tryz.ntmps82 (Nat.le_of_ble_eq_true rfl) hB ?_
 refine ZZ ?_;refine Zq ?_;refine Zan ?_
 refine zey 1 rfl fun b1 hb1 => ?_
 by_cases h0:err ≠ 0
 ·have hn:zjt bs ⟨at_, bad, err⟩ = (0, ⟨at_, bad, err⟩):=if_pos h0
  rw [hn]
  refine Zx ?_;refine Zu ?_;refine Zz ?_;refine Zed ?_;refine ZcU ?_;refine Za5 ?_;refine Zas ?_
  refine qt L (rs:=[.tmp 2, .cell 3 166]) rfl (fun _ _ h => h) Since.refl fun u H hH hle => ?_
  exact ⟨_, qg rfl, rfl, rfl⟩
 ·have h00:err = 0:=Decidable.not_not.1 h0
  subst h00
  refine Zx ?_;refine Zu ?_;refine ZG ?_;refine Zk ?_;refine Zd ?_;refine qm ?_
  refine zao (fun n:Nat => [(1, .is (zam b1)), (3, .own (Cell [.slice none 0 0, .int .i64 0, .int .i64 0, .int .i64 0] tyRr)), (4, .is (.int .i64 n))]) (fun n => n ≤ 9 ∧ at_ + n ≤ bs.length ∧ ∀ j < n, ∃ b, bs[at_ + j]? = some b ∧ 128 ≤ b) (fun n => 9 - n) 0 ⟨by decide, hat, fun j hj => absurd hj (Nat.not_lt_zero _)⟩ ⟨rfl, rfl, rfl, trivial⟩ ?_
  rintro n ⟨h9, hln, hdg⟩
  dsimp only at h9 hln hdg ⊢
  obtain ⟨hshort, hfin⟩:=z30 (bad:=bad) h9 hln hdg
  have hwa:IntKind.i64.wrap ((at_:Int) + (n:Int)) = ((at_ + n:Nat):Int):=(zad (by omega) (by omega)).trans (by omega)
  by_cases hn9:n = 9
  ·by_cases hal:at_ + n = bs.length
   ·refine Zb1 ?_;refine Zo ?_;refine Zbs ?_;refine Ze ?_;refine Zbs ?_;refine ZbN ?_;refine Zb0 ?_;refine Zbq ?_;refine Zd1 ?_;refine Zbr ?_;refine ZaR ?_;refine Zt ?_;refine Z0 ?_;refine Zew ?_;refine Zbr ?_;refine z7 (q0 L rfl rfl (zn rfl) rfl rfl rfl (fun u H hH _ _ => zec (R:=⟨at_, bad, 0⟩) (a:=bs.length) (e:=17) hH)) rfl ?_;refine Zq ?_;refine Z1 ?_
    rw [hshort hal]
    refine qt L (rs:=[.tmp 2, .cell 3 166]) rfl (fun _ _ h => h) Since.refl fun u H hH hle => ?_
    exact ⟨_, qg rfl, rfl, rfl⟩
   ·obtain ⟨b, hb2⟩:=zaw (l:=bs) (i:=at_ + n) (by omega)
    have hb255:=hb b (List.mem_of_getElem? hb2)
    have hcr:=zvn hb2
    by_cases kb0:b = 0
    ·have hbad:0 < n ∧ b = 0 ∨ n = 9 ∧ b ≠ 1:=by omega
     rw [(hfin b hb2 (by omega)).1 hbad]
     refine Zb1 ?_;refine Zo ?_;refine Zbs ?_;refine Ze ?_;refine Zbs ?_;refine ZbN ?_;refine Zb0 ?_;refine Zbq ?_;refine Zd1 ?_;refine Zbr ?_;refine Zcw ?_;refine Z3 ?_;refine Zu ?_;refine zba 53 (BsV bs fu) rfl SlV.mono hv ?_;refine ZbI ?_;refine Za4 ?_;refine Zg ?_;refine Zb6 ?_;refine Z2 ?_;refine Zc ?_;refine ZJ ?_;refine Ze ?_;refine Zey ?_;refine ZaM ?_;refine ZM ?_;refine Zew ?_;refine Za ?_;refine z7 (q0 L rfl rfl (zn rfl) rfl rfl rfl (fun u H hH _ _ => zec (R:=⟨at_, bad, 0⟩) (a:=at_ + n) (e:=5) hH)) rfl ?_;refine Zq ?_;refine Z1 ?_
     refine qt L (rs:=[.tmp 2, .cell 3 166]) rfl (fun _ _ h => h) Since.refl fun u H hH hle => ?_
     exact ⟨_, qg rfl, rfl, rfl⟩
    ·by_cases kb1:b = 1
     ·have hbad:¬ (0 < n ∧ b = 0 ∨ n = 9 ∧ b ≠ 1):=by omega
      obtain ⟨hval, hlt64⟩:=(hfin b hb2 (by omega)).2 hbad
      rw [hval]
      obtain ⟨ds, hds⟩:∃ ds, (bs.drop at_).take (n + 1) = ds:=⟨_, rfl⟩
      rw [hds] at hlt64 ⊢
      have hdl:ds.length = n + 1:=by rw [← hds]; exact zgf (by omega)
      have hne:IntKind.i64.wrap (((at_ + n:Nat):Int) + 1) = ((at_ + n + 1:Nat):Int):=zad (by omega) (by omega)
      refine Zb1 ?_;refine Zo ?_;refine Zbs ?_;refine Ze ?_;refine Zbs ?_;refine ZbN ?_;refine Zb0 ?_;refine Zbq ?_;refine Zd1 ?_;refine Zbr ?_;refine Zcw ?_;refine Z3 ?_;refine Zu ?_;refine zba 53 (BsV bs fu) rfl SlV.mono hv ?_;refine ZbI ?_;refine Za4 ?_;refine Zg ?_;refine Zb6 ?_;refine Z2 ?_;refine Zc ?_;refine ZR ?_;refine Zaf ?_;refine ZJ ?_;refine Zc ?_;refine ZcV ?_;refine ZY ?_;refine ZD ?_;refine Zg ?_;refine ZbX ?_;refine ZW ?_
      refine zao (fun k:Nat => [(1, .is (zam b1)), (3, .own (Cell [.slice none 0 0, .int .i64 0, .int .i64 0, .int .i64 0] tyRr)), (5, .is (.int .i64 (at_ + n:Nat))), (7, .is (.int .u64 (zeu (ds.drop k):Nat))), (8, .is (.int .i64 (((at_ + k:Nat):Int) - 1)))]) (fun k => k ≤ n + 1) (fun k => k) (n + 1) (Nat.le_refl _) ⟨rfl, rfl, rfl, by rw [List.drop_of_length_le (by omega)]; rfl, by rw [show ((at_ + (n + 1):Nat):Int) - 1 = ((at_ + n:Nat):Int) by omega]; rfl, trivial⟩ ?_
      rintro k hk
      cases k with
      | zero =>
       rw [List.drop_zero]
       refine Zh ?_;refine Zb9 ?_;refine Zu ?_;refine Zaz ?_;refine ZaS ?_;refine Za1 ?_;refine Zeu ?_;refine Zdn ?_;refine qh (id:=18) [] mixed (by kernel_rfl) ?_;refine Zi ?_;refine ZcU ?_;refine Za5 ?_;refine Zas ?_
       refine qt L (rs:=[.tmp 2, .cell 3 166]) rfl (fun _ _ h => h) Since.refl fun u H hH hle => ?_
       exact ⟨_, qg rfl, rfl, rfl⟩
      | succ k =>
       obtain ⟨d, hd⟩:=zaw (l:=ds) (i:=k) (by omega)
       have hdc:=hd
       rw [← hds, List.getElem?_take_of_lt (by omega), List.getElem?_drop] at hdc
       have hd255:=hb d (List.mem_of_getElem? hdc)
       have hcr2:=zvn hdc
       have hdrop:ds.drop k = d :: ds.drop (k + 1):=by rw [List.drop_eq_getElem_cons (get_lt hd), zgb hd]
       have hvk:zeu (ds.drop k) = d % 128 + 128 * zeu (ds.drop (k + 1)):=by rw [hdrop]; rfl
       have hle:=zg6 ds k
       have hi8:((at_ + (k + 1):Nat):Int) - 1 = ((at_ + k:Nat):Int):=by omega
       rw [hi8]
       have hwm:IntKind.u64.wrap (128 * ((zeu (ds.drop (k + 1)):Nat):Int)) = ((128 * zeu (ds.drop (k + 1)):Nat):Int):=(zal (by omega) (by omega)).trans (by omega)
       have hrm:(d:Int).tmod 128 = ((d % 128:Nat):Int):=rfl
       have hcv:IntKind.u64.wrap ((d % 128:Nat):Int) = ((d % 128:Nat):Int):=zal (by omega) (by omega)
       have hwk:IntKind.u64.wrap (((128 * zeu (ds.drop (k + 1)):Nat):Int) + ((d % 128:Nat):Int)) = ((zeu (ds.drop k):Nat):Int):=(zal (by omega) (by omega)).trans (by omega)
       have hws:IntKind.i64.wrap (((at_ + k:Nat):Int) - 1) = ((at_ + k:Nat):Int) - 1:=zad (by omega) (by omega)
       refine Zh ?_;refine Zb9 ?_;refine Zu ?_;refine ZcE ?_;refine ZbP ?_;refine ZbS ?_;refine z7 (ztf rfl rfl rfl rfl hwm) rfl ?_;refine Zu ?_;refine zba 84 (BsV bs fu) rfl SlV.mono hv ?_;refine ZbI ?_;refine Za4 ?_;refine ZeW ?_;refine z7 (za0 rfl rfl rfl zdi.1 zdi.2 (zal (by omega) (by omega))) rfl ?_;refine z7 (yg rfl rfl rfl rfl hwk) rfl ?_;refine ZI ?_;refine Zai ?_;refine Zcr ?_;refine ZaE ?_;refine ZI ?_
       exact yl (x:=k + 1) k (by omega) (by omega) ⟨rfl, rfl, rfl, rfl, rfl, trivial⟩
     ·have hbad:0 < n ∧ b = 0 ∨ n = 9 ∧ b ≠ 1:=by omega
      rw [(hfin b hb2 (by omega)).1 hbad]
      refine Zb1 ?_;refine Zo ?_;refine Zbs ?_;refine Ze ?_;refine Zbs ?_;refine ZbN ?_;refine Zb0 ?_;refine Zbq ?_;refine Zd1 ?_;refine Zbr ?_;refine Zcw ?_;refine Z3 ?_;refine Zu ?_;refine zba 53 (BsV bs fu) rfl SlV.mono hv ?_;refine ZbI ?_;refine Za4 ?_;refine Zg ?_;refine Zb6 ?_;refine Z2 ?_;refine Zc ?_;refine ZR ?_;refine Zaf ?_;refine ZJ ?_;refine Zc ?_;refine Zbe ?_;refine Ze ?_;refine ZaM ?_;refine ZM ?_;refine Zew ?_;refine Za ?_;refine z7 (q0 L rfl rfl (zn rfl) rfl rfl rfl (fun u H hH _ _ => zec (R:=⟨at_, bad, 0⟩) (a:=at_ + n) (e:=5) hH)) rfl ?_;refine Zq ?_;refine Z1 ?_
      refine qt L (rs:=[.tmp 2, .cell 3 166]) rfl (fun _ _ h => h) Since.refl fun u H hH hle => ?_
      exact ⟨_, qg rfl, rfl, rfl⟩
  ·by_cases hal:at_ + n = bs.length
   ·refine Zb1 ?_;refine ZB ?_;refine Za ?_;refine Zbq ?_;refine Zbr ?_;refine Zo ?_;refine Ze ?_;refine Zbs ?_;refine ZbN ?_;refine Zb0 ?_;refine Zbq ?_;refine Zd1 ?_;refine Zbr ?_;refine ZaR ?_;refine Zt ?_;refine Z0 ?_;refine Zew ?_;refine Zbr ?_;refine z7 (q0 L rfl rfl (zn rfl) rfl rfl rfl (fun u H hH _ _ => zec (R:=⟨at_, bad, 0⟩) (a:=bs.length) (e:=17) hH)) rfl ?_;refine Zq ?_;refine Z1 ?_
    rw [hshort hal]
    refine qt L (rs:=[.tmp 2, .cell 3 166]) rfl (fun _ _ h => h) Since.refl fun u H hH hle => ?_
    exact ⟨_, qg rfl, rfl, rfl⟩
   ·obtain ⟨b, hb2⟩:=zaw (l:=bs) (i:=at_ + n) (by omega)
    have hb255:=hb b (List.mem_of_getElem? hb2)
    have hcr:=zvn hb2
    by_cases hge:128 ≤ b
    ·have hwn:IntKind.i64.wrap ((n:Int) + 1) = ((n + 1:Nat):Int):=zad (by omega) (by omega)
     refine Zb1 ?_;refine ZB ?_;refine Za ?_;refine Zbq ?_;refine Zbr ?_;refine ZB ?_;refine Ze ?_;refine Za ?_;refine Zu ?_;refine zba 27 (BsV bs fu) rfl SlV.mono hv ?_;refine Zbq ?_;refine Zaq ?_;refine Za4 ?_;refine ZaR ?_;refine Za7 ?_;refine Zcz ?_;refine qm ?_;refine Zbb ?_;refine Zak ?_;refine ZI ?_;refine yd ?_
     exact yl (x:=n) (n + 1) ⟨by omega, by omega, fun j hj => by
      by_cases e:j = n
      ·subst e; exact ⟨b, hb2, hge⟩
      ·exact hdg j (by omega)⟩ (by omega) ⟨rfl, rfl, rfl, trivial⟩
    ·by_cases kn0:n = 0
     ·have hbad:¬ (0 < n ∧ b = 0 ∨ n = 9 ∧ b ≠ 1):=by omega
      obtain ⟨hval, hlt64⟩:=(hfin b hb2 (by omega)).2 hbad
      rw [hval]
      obtain ⟨ds, hds⟩:∃ ds, (bs.drop at_).take (n + 1) = ds:=⟨_, rfl⟩
      rw [hds] at hlt64 ⊢
      have hdl:ds.length = n + 1:=by rw [← hds]; exact zgf (by omega)
      have hne:IntKind.i64.wrap (((at_ + n:Nat):Int) + 1) = ((at_ + n + 1:Nat):Int):=zad (by omega) (by omega)
      refine Zb1 ?_;refine ZB ?_;refine Za ?_;refine Zbq ?_;refine Zbr ?_;refine ZB ?_;refine Ze ?_;refine Za ?_;refine Zu ?_;refine zba 27 (BsV bs fu) rfl SlV.mono hv ?_;refine Zbq ?_;refine Zaq ?_;refine Za4 ?_;refine Zaz ?_;refine Ze ?_;refine Zb0 ?_;refine Zbq ?_;refine Zd1 ?_;refine Zbr ?_;refine Zcw ?_;refine Z3 ?_;refine Zu ?_;refine zba 53 (BsV bs fu) rfl SlV.mono hv ?_;refine ZbI ?_;refine Za4 ?_;refine Zg ?_;refine Zb6 ?_;refine ZS ?_;refine ZaJ ?_;refine Zaf ?_;refine ZR ?_;refine ZaJ ?_;refine Ze ?_;refine ZY ?_;refine ZD ?_;refine Zg ?_;refine ZbX ?_;refine ZW ?_
      refine zao (fun k:Nat => [(1, .is (zam b1)), (3, .own (Cell [.slice none 0 0, .int .i64 0, .int .i64 0, .int .i64 0] tyRr)), (5, .is (.int .i64 (at_ + n:Nat))), (7, .is (.int .u64 (zeu (ds.drop k):Nat))), (8, .is (.int .i64 (((at_ + k:Nat):Int) - 1)))]) (fun k => k ≤ n + 1) (fun k => k) (n + 1) (Nat.le_refl _) ⟨rfl, rfl, rfl, by rw [List.drop_of_length_le (by omega)]; rfl, by rw [show ((at_ + (n + 1):Nat):Int) - 1 = ((at_ + n:Nat):Int) by omega]; rfl, trivial⟩ ?_
      rintro k hk
      cases k with
      | zero =>
       rw [List.drop_zero]
       refine Zh ?_;refine Zb9 ?_;refine Zu ?_;refine Zaz ?_;refine ZaS ?_;refine Za1 ?_;refine Zeu ?_;refine Zdn ?_;refine qh (id:=18) [] mixed (by kernel_rfl) ?_;refine Zi ?_;refine ZcU ?_;refine Za5 ?_;refine Zas ?_
       refine qt L (rs:=[.tmp 2, .cell 3 166]) rfl (fun _ _ h => h) Since.refl fun u H hH hle => ?_
       exact ⟨_, qg rfl, rfl, rfl⟩
      | succ k =>
       obtain ⟨d, hd⟩:=zaw (l:=ds) (i:=k) (by omega)
       have hdc:=hd
       rw [← hds, List.getElem?_take_of_lt (by omega), List.getElem?_drop] at hdc
       have hd255:=hb d (List.mem_of_getElem? hdc)
       have hcr2:=zvn hdc
       have hdrop:ds.drop k = d :: ds.drop (k + 1):=by rw [List.drop_eq_getElem_cons (get_lt hd), zgb hd]
       have hvk:zeu (ds.drop k) = d % 128 + 128 * zeu (ds.drop (k + 1)):=by rw [hdrop]; rfl
       have hle:=zg6 ds k
       have hi8:((at_ + (k + 1):Nat):Int) - 1 = ((at_ + k:Nat):Int):=by omega
       rw [hi8]
       have hwm:IntKind.u64.wrap (128 * ((zeu (ds.drop (k + 1)):Nat):Int)) = ((128 * zeu (ds.drop (k + 1)):Nat):Int):=(zal (by omega) (by omega)).trans (by omega)
       have hrm:(d:Int).tmod 128 = ((d % 128:Nat):Int):=rfl
       have hcv:IntKind.u64.wrap ((d % 128:Nat):Int) = ((d % 128:Nat):Int):=zal (by omega) (by omega)
       have hwk:IntKind.u64.wrap (((128 * zeu (ds.drop (k + 1)):Nat):Int) + ((d % 128:Nat):Int)) = ((zeu (ds.drop k):Nat):Int):=(zal (by omega) (by omega)).trans (by omega)
       have hws:IntKind.i64.wrap (((at_ + k:Nat):Int) - 1) = ((at_ + k:Nat):Int) - 1:=zad (by omega) (by omega)
       refine Zh ?_;refine Zb9 ?_;refine Zu ?_;refine ZcE ?_;refine ZbP ?_;refine ZbS ?_;refine z7 (ztf rfl rfl rfl rfl hwm) rfl ?_;refine Zu ?_;refine zba 84 (BsV bs fu) rfl SlV.mono hv ?_;refine ZbI ?_;refine Za4 ?_;refine ZeW ?_;refine z7 (za0 rfl rfl rfl zdi.1 zdi.2 (zal (by omega) (by omega))) rfl ?_;refine z7 (yg rfl rfl rfl rfl hwk) rfl ?_;refine ZI ?_;refine Zai ?_;refine Zcr ?_;refine ZaE ?_;refine ZI ?_
       exact yl (x:=k + 1) k (by omega) (by omega) ⟨rfl, rfl, rfl, rfl, rfl, trivial⟩
     ·by_cases kb0:b = 0
      ·have hbad:0 < n ∧ b = 0 ∨ n = 9 ∧ b ≠ 1:=by omega
       rw [(hfin b hb2 (by omega)).1 hbad]
       refine Zb1 ?_;refine ZB ?_;refine Za ?_;refine Zbq ?_;refine Zbr ?_;refine ZB ?_;refine Ze ?_;refine Za ?_;refine Zu ?_;refine zba 27 (BsV bs fu) rfl SlV.mono hv ?_;refine Zbq ?_;refine Zaq ?_;refine Za4 ?_;refine Zaz ?_;refine Ze ?_;refine Zb0 ?_;refine Zbq ?_;refine Zd1 ?_;refine Zbr ?_;refine Zcw ?_;refine Z3 ?_;refine Zu ?_;refine zba 53 (BsV bs fu) rfl SlV.mono hv ?_;refine ZbI ?_;refine Za4 ?_;refine Zg ?_;refine Zb6 ?_;refine Z2 ?_;refine Zc ?_;refine ZJ ?_;refine Ze ?_;refine Zey ?_;refine ZaM ?_;refine ZM ?_;refine Zew ?_;refine Za ?_;refine z7 (q0 L rfl rfl (zn rfl) rfl rfl rfl (fun u H hH _ _ => zec (R:=⟨at_, bad, 0⟩) (a:=at_ + n) (e:=5) hH)) rfl ?_;refine Zq ?_;refine Z1 ?_
       refine qt L (rs:=[.tmp 2, .cell 3 166]) rfl (fun _ _ h => h) Since.refl fun u H hH hle => ?_
       exact ⟨_, qg rfl, rfl, rfl⟩
      ·have hbad:¬ (0 < n ∧ b = 0 ∨ n = 9 ∧ b ≠ 1):=by omega
       obtain ⟨hval, hlt64⟩:=(hfin b hb2 (by omega)).2 hbad
       rw [hval]
       obtain ⟨ds, hds⟩:∃ ds, (bs.drop at_).take (n + 1) = ds:=⟨_, rfl⟩
       rw [hds] at hlt64 ⊢
       have hdl:ds.length = n + 1:=by rw [← hds]; exact zgf (by omega)
       have hne:IntKind.i64.wrap (((at_ + n:Nat):Int) + 1) = ((at_ + n + 1:Nat):Int):=zad (by omega) (by omega)
       refine Zb1 ?_;refine ZB ?_;refine Za ?_;refine Zbq ?_;refine Zbr ?_;refine ZB ?_;refine Ze ?_;refine Za ?_;refine Zu ?_;refine zba 27 (BsV bs fu) rfl SlV.mono hv ?_;refine Zbq ?_;refine Zaq ?_;refine Za4 ?_;refine Zaz ?_;refine Ze ?_;refine Zb0 ?_;refine Zbq ?_;refine Zd1 ?_;refine Zbr ?_;refine Zcw ?_;refine Z3 ?_;refine Zu ?_;refine zba 53 (BsV bs fu) rfl SlV.mono hv ?_;refine ZbI ?_;refine Za4 ?_;refine Zg ?_;refine Zb6 ?_;refine Z2 ?_;refine Zc ?_;refine ZR ?_;refine Zaf ?_;refine ZR ?_;refine ZaJ ?_;refine Ze ?_;refine ZY ?_;refine ZD ?_;refine Zg ?_;refine ZbX ?_;refine ZW ?_
       refine zao (fun k:Nat => [(1, .is (zam b1)), (3, .own (Cell [.slice none 0 0, .int .i64 0, .int .i64 0, .int .i64 0] tyRr)), (5, .is (.int .i64 (at_ + n:Nat))), (7, .is (.int .u64 (zeu (ds.drop k):Nat))), (8, .is (.int .i64 (((at_ + k:Nat):Int) - 1)))]) (fun k => k ≤ n + 1) (fun k => k) (n + 1) (Nat.le_refl _) ⟨rfl, rfl, rfl, by rw [List.drop_of_length_le (by omega)]; rfl, by rw [show ((at_ + (n + 1):Nat):Int) - 1 = ((at_ + n:Nat):Int) by omega]; rfl, trivial⟩ ?_
       rintro k hk
       cases k with
       | zero =>
        rw [List.drop_zero]
        refine Zh ?_;refine Zb9 ?_;refine Zu ?_;refine Zaz ?_;refine ZaS ?_;refine Za1 ?_;refine Zeu ?_;refine Zdn ?_;refine qh (id:=18) [] mixed (by kernel_rfl) ?_;refine Zi ?_;refine ZcU ?_;refine Za5 ?_;refine Zas ?_
        refine qt L (rs:=[.tmp 2, .cell 3 166]) rfl (fun _ _ h => h) Since.refl fun u H hH hle => ?_
        exact ⟨_, qg rfl, rfl, rfl⟩
       | succ k =>
        obtain ⟨d, hd⟩:=zaw (l:=ds) (i:=k) (by omega)
        have hdc:=hd
        rw [← hds, List.getElem?_take_of_lt (by omega), List.getElem?_drop] at hdc
        have hd255:=hb d (List.mem_of_getElem? hdc)
        have hcr2:=zvn hdc
        have hdrop:ds.drop k = d :: ds.drop (k + 1):=by rw [List.drop_eq_getElem_cons (get_lt hd), zgb hd]
        have hvk:zeu (ds.drop k) = d % 128 + 128 * zeu (ds.drop (k + 1)):=by rw [hdrop]; rfl
        have hle:=zg6 ds k
        have hi8:((at_ + (k + 1):Nat):Int) - 1 = ((at_ + k:Nat):Int):=by omega
        rw [hi8]
        have hwm:IntKind.u64.wrap (128 * ((zeu (ds.drop (k + 1)):Nat):Int)) = ((128 * zeu (ds.drop (k + 1)):Nat):Int):=(zal (by omega) (by omega)).trans (by omega)
        have hrm:(d:Int).tmod 128 = ((d % 128:Nat):Int):=rfl
        have hcv:IntKind.u64.wrap ((d % 128:Nat):Int) = ((d % 128:Nat):Int):=zal (by omega) (by omega)
        have hwk:IntKind.u64.wrap (((128 * zeu (ds.drop (k + 1)):Nat):Int) + ((d % 128:Nat):Int)) = ((zeu (ds.drop k):Nat):Int):=(zal (by omega) (by omega)).trans (by omega)
        have hws:IntKind.i64.wrap (((at_ + k:Nat):Int) - 1) = ((at_ + k:Nat):Int) - 1:=zad (by omega) (by omega)
        refine Zh ?_;refine Zb9 ?_;refine Zu ?_;refine ZcE ?_;refine ZbP ?_;refine ZbS ?_;refine z7 (ztf rfl rfl rfl rfl hwm) rfl ?_;refine Zu ?_;refine zba 84 (BsV bs fu) rfl SlV.mono hv ?_;refine ZbI ?_;refine Za4 ?_;refine ZeW ?_;refine z7 (za0 rfl rfl rfl zdi.1 zdi.2 (zal (by omega) (by omega))) rfl ?_;refine z7 (yg rfl rfl rfl rfl hwk) rfl ?_;refine ZI ?_;refine Zai ?_;refine Zcr ?_;refine ZaE ?_;refine ZI ?_
        exact yl (x:=k + 1) k (by omega) (by omega) ⟨rfl, rfl, rfl, rfl, rfl, trivial⟩
end Go.V.L11
set_option maxRecDepth 20000
namespace Go.V.L11
open Go.Proofs Go.RowKit Go.V Go.V.L2 Go.V.L3 Go.V.L4 Go.V.L8
def zbg (bs:List Nat) (lim:Nat) (e:Int):Rd → Nat × Rd:=zdr (zd1 bs lim e) 0
theorem zn4 {bs:List Nat}:∀ (f i acc:Nat) (R:Rd), R.err = 0 → (zhm bs f i acc R).2.err ≠ 0 → (zhm bs f i acc R).1 = 0
 | 0, _, _, R, h0, h => absurd h0 h
 | f + 1, i, acc, R, h0, h => by
  unfold zhm at h ⊢
  cases hb:bs[R.at_]? with
  | none => rfl
  | some b =>
   rw [hb] at h
   dsimp only at h ⊢
   split at h
   ·rename_i h1; rw [if_pos h1]
   ·rename_i h1
    rw [if_neg h1]
    split at h
    ·exact absurd h0 h
    ·rename_i h2
     rw [if_neg h2]
     exact zn4 f (i + 1) _ _ h0 h
theorem z0v {bs:List Nat} {lim:Nat} {e:Int} (he:e ≠ 0) (R:Rd):zbg bs lim e R = if (zjt bs R).2.err ≠ 0 then (0, (zjt bs R).2) else if lim < (zjt bs R).1 then (0, R.fail R.at_ e) else zjt bs R:=by
 unfold zbg zjt zdr
 by_cases h0:R.err ≠ 0
 ·rw [if_pos h0, if_pos h0, if_pos h0]
 ·rw [if_neg h0, if_neg h0]
  have h00:R.err = 0:=Decidable.not_not.1 h0
  unfold zd1
  by_cases h1:(zfv bs R).2.err ≠ 0
  ·have hz:(zfv bs R).1 = 0:=zn4 10 0 0 R h00 h1
   have hw:(if lim < (zfv bs R).1 then ((zfv bs R).1, (zfv bs R).2.fail R.at_ e) else zfv bs R) = zfv bs R:=if_neg (by rw [hz]; exact Nat.not_lt_zero _)
   rw [hw, if_pos h1, if_pos h1]
  ·have h10:(zfv bs R).2.err = 0:=Decidable.not_not.1 h1
   rw [if_neg h1]
   by_cases h2:lim < (zfv bs R).1
   ·have hf:((zfv bs R).2.fail R.at_ e) = ⟨(zfv bs R).2.at_, R.at_, e⟩:=if_pos h10
    have hf2:R.fail R.at_ e = ⟨R.at_, R.at_, e⟩:=if_pos h00
    rw [if_pos h2, if_neg h1, if_pos h2, hf, hf2, if_pos he]
   ·rw [if_neg h2, if_neg h1, if_neg h1, if_neg h2]
theorem znc {α:Type} {f:Rd → α × Rd} {z:α} {R:Rd} (h:(zdr f z R).2.err ≠ 0):zdr f z R = (z, ⟨R.at_, (zdr f z R).2.bad, (zdr f z R).2.err⟩):=by
 unfold zdr at h ⊢
 by_cases h0:R.err ≠ 0
 ·rw [if_pos h0]
 ·rw [if_neg h0] at h ⊢
  by_cases h1:(f R).2.err ≠ 0
  ·rw [if_pos h1]
  ·rw [if_neg h1] at h; exact absurd h h1
theorem zn6 {bs:List Nat} {lim:Nat} {e:Int} (he:e ≠ 0) {R:Rd} (h:(zbg bs lim e R).2.err = 0):(zbg bs lim e R).1 ≤ lim:=by
 unfold zbg zdr at h ⊢
 split at h
 ·rename_i h0; exact absurd h h0
 ·rename_i h0
  rw [if_neg h0]
  split at h
  ·rename_i h1; exact absurd h h1
  ·rename_i h1
   rw [if_neg h1]
   unfold zd1 at h ⊢
   split at h
   ·rename_i h2
    exfalso
    dsimp only at h
    unfold Rd.fail at h
    split at h
    ·exact he h
    ·rename_i h3; exact h3 h
   ·rename_i h2
    rw [if_neg h2]
    omega
theorem zqn {bs:List Nat} {lim:Nat} (hl:lim ≤ 1099511627776) (R:Rd):(zbp bs lim R).2 = (zbg bs lim 3 R).2 ∧ ((zbp bs lim R).2.err = 0 → (zbp bs lim R).1 = ((zbg bs lim 3 R).1:Int)):=by
 have h2:(zbp bs lim R).2 = (zbg bs lim 3 R).2:=by
  unfold zbp zbg zdr zq8
  by_cases h0:R.err ≠ 0
  ·rw [if_pos h0, if_pos h0]
  ·rw [if_neg h0, if_neg h0]
   dsimp only
   by_cases h1:(zd1 bs lim 3 R).2.err ≠ 0
   ·rw [if_pos h1, if_pos h1]
   ·rw [if_neg h1, if_neg h1]
 refine ⟨h2, fun h => ?_⟩
 have hle:=zn6 (e:=3) (bs:=bs) (lim:=lim) (R:=R) (by decide) (by rw [← h2]; exact h)
 unfold zbp zbg zdr zq8 at *
 by_cases h0:R.err ≠ 0
 ·rw [if_pos h0] at h; exact absurd h h0
 ·rw [if_neg h0] at h hle ⊢
  rw [if_neg h0]
  dsimp only at h hle ⊢
  by_cases h1:(zd1 bs lim 3 R).2.err ≠ 0
  ·rw [if_pos h1] at h; exact absurd h h1
  ·rw [if_neg h1] at hle ⊢
   rw [if_neg h1]
   exact zad (by omega) (by omega)
theorem z25 {bs:List Nat} {lim:Nat} (hl:lim ≤ 1099511627776) {R:Rd}:zcp bs lim R = if (zbg bs lim 3 R).2.err ≠ 0 then (sZ, (zbg bs lim 3 R).2) else
  if bs.length - (zbg bs lim 3 R).2.at_ < (zbg bs lim 3 R).1 then (sZ, R.fail bs.length 17) else (zds ((bs.drop (zbg bs lim 3 R).2.at_).take (zbg bs lim 3 R).1), ⟨(zbg bs lim 3 R).2.at_ + (zbg bs lim 3 R).1, (zbg bs lim 3 R).2.bad, (zbg bs lim 3 R).2.err⟩):=by
 obtain ⟨h2, hv⟩:=zqn (bs:=bs) hl R
 by_cases h0:R.err ≠ 0
 ·have e1:zcp bs lim R = (sZ, R):=if_pos h0
  have e2:zbg bs lim 3 R = (0, R):=if_pos h0
  rw [e1, e2, if_pos h0]
 ·have h00:R.err = 0:=Decidable.not_not.1 h0
  have e1:zcp bs lim R = if (zg7 bs lim R).2.err ≠ 0 then (sZ, ⟨R.at_, (zg7 bs lim R).2.bad, (zg7 bs lim R).2.err⟩) else zg7 bs lim R:=if_neg h0
  rw [e1]
  by_cases h1:(zbg bs lim 3 R).2.err ≠ 0
  ·have hf:(zbg bs lim 3 R).2.fail bs.length 17 = (zbg bs lim 3 R).2:=if_neg h1
   have hG:zg7 bs lim R = (sZ, (zbg bs lim 3 R).2):=by
    unfold zg7
    rw [h2, hf]
    exact if_pos (.inl h1)
   have hm:=znc (f:=zd1 bs lim 3) (z:=0) (R:=R) h1
   rw [hG, if_pos h1, if_pos h1]
   exact congrArg (fun x:Nat × Rd => (sZ, x.2)) hm.symm
  ·have h10:(zbg bs lim 3 R).2.err = 0:=Decidable.not_not.1 h1
   have hv1:=hv (by rw [h2]; exact h10)
   rw [if_neg h1]
   by_cases h3:bs.length - (zbg bs lim 3 R).2.at_ < (zbg bs lim 3 R).1
   ·have hf:(zbg bs lim 3 R).2.fail bs.length 17 = ⟨(zbg bs lim 3 R).2.at_, bs.length, 17⟩:=if_pos h10
    have hf2:R.fail bs.length 17 = ⟨R.at_, bs.length, 17⟩:=if_pos h00
    have hG:zg7 bs lim R = (sZ, ⟨(zbg bs lim 3 R).2.at_, bs.length, 17⟩):=by
     unfold zg7
     rw [h2, hf, hv1]
     exact if_pos (.inr (by omega))
    rw [hG, if_pos h3, hf2]
    exact if_pos (show (17:Int) ≠ 0 by decide)
   ·have hG:zg7 bs lim R = (zds ((bs.drop (zbg bs lim 3 R).2.at_).take (zbg bs lim 3 R).1), ⟨(zbg bs lim 3 R).2.at_ + (zbg bs lim 3 R).1, (zbg bs lim 3 R).2.bad, (zbg bs lim 3 R).2.err⟩):=by
     unfold zg7
     rw [h2, hv1, Int.toNat_natCast]
     exact if_neg (fun h => h.elim h1 (fun h => h3 (by omega)))
    rw [hG, if_neg h3]
    exact if_neg h1
end Go.V.L11
set_option maxRecDepth 20000
namespace Go.V.L11
open Go.Proofs Go.RowKit Go.V Go.V.L2 Go.V.L3 Go.V.L4 Go.V.L8
theorem zto {bs:List Nat} {lim:Nat} {e:Int} {R:Rd} (h:R.at_ ≤ bs.length):(zbg bs lim e R).2.at_ ≤ bs.length:=zie h (zsp h)
attribute [local irreducible] V N X VO Par XP LV StepOK Has Ret RetL RetO RetT zbd RetX RetY Pan zjl Src
set_option maxHeartbeats 1000000 in
theorem zmj {bs:List Nat} {fu:Bool} {p:Option Addr} {c lim:Nat} {e:Int} {R:Rd} (he:e ≠ 0) (hb:∀ b ∈ bs, b ≤ 255) (hl:bs.length ≤ 1099511627776) (hat:R.at_ ≤ bs.length) {w:World} {B:Heap} (hB:B.Le (hp w)) (hv:BsV bs fu (.slice p bs.length c) B) :
  Ret Tryz.prog 80 [rv (.slice p bs.length c) R, .int .u64 lim, .int .i64 e] w B (fun v _ => v = .tuple #[.int .u64 ((zbg bs lim e R).1:Nat), rv (.slice p bs.length c) (zbg bs lim e R).2]):=by
 rw [z0v he]
 obtain ⟨n, ⟨a2, b2, e2⟩, hn⟩:∃ n R2, zjt bs R = (n, R2):=⟨_, _, rfl⟩
 have hrd:=fun (u:World) (H:Heap) (hH:H.Le (hp u)) (hle:B.Le H) => hn ▸ zw3 (R:=R) hb hl hat hH (hv.le hle)
 obtain ⟨at_, bad, err⟩:=R
 rw [hn]
 dsimp only [rv] at hrd ⊢
 refine qu Tryz.func80 rfl Tryz.ntmps80 (Nat.le_of_ble_eq_true rfl) hB ?_
 refine ZA ?_;refine Zq ?_;refine Zab ?_;refine Zx ?_;refine Zbp ?_;refine z7 (q0 L rfl rfl (zn rfl) rfl rfl rfl (fun u H hH hle _ => hrd u H hH hle)) rfl ?_;refine ZcF ?_;refine ZE ?_;refine Zq ?_;refine ZdG ?_
 refine zey 9 rfl fun b9 hb9 => ?_
 by_cases h0:e2 ≠ 0
 ·rw [if_pos h0]
  refine Zy ?_;refine Zu ?_;refine Zz ?_;refine ZeR ?_;refine ZcU ?_;refine Za5 ?_;refine Zas ?_
  refine qt L (rs:=[.tmp 6, .cell 7 166]) rfl (fun _ _ h => h) Since.refl fun u H hH hle => ?_
  exact ⟨_, qg rfl, rfl, rfl⟩
 ·rw [if_neg h0]
  by_cases h1:lim < n
  ·rw [if_pos h1]
   refine Zy ?_;refine Zu ?_;refine Zad ?_;refine ZcT ?_;refine Z2 ?_;refine Zt ?_;refine Zn ?_;refine Zbp ?_;refine Zm ?_;refine Za ?_;refine z7 (q0 L rfl rfl (zn rfl) rfl rfl rfl (fun u H hH _ _ => zec (R:=⟨at_, bad, err⟩) (a:=at_) (e:=e) hH)) rfl ?_;refine Zq ?_;refine Z1 ?_
   refine qt L (rs:=[.tmp 6, .cell 7 166]) rfl (fun _ _ h => h) Since.refl fun u H hH hle => ?_
   exact ⟨_, qg rfl, rfl, rfl⟩
  ·rw [if_neg h1]
   refine Zy ?_;refine Zu ?_;refine Zad ?_;refine ZcT ?_;refine Zbv ?_;refine Zde ?_;refine Zi ?_;refine ZcU ?_;refine Za5 ?_;refine Zas ?_
   refine qt L (rs:=[.tmp 6, .cell 7 166]) rfl (fun _ _ h => h) Since.refl fun u H hH hle => ?_
   exact ⟨_, qg rfl, rfl, rfl⟩
set_option maxHeartbeats 1000000 in
theorem zuy {bs:List Nat} {fu:Bool} {p:Option Addr} {c lim:Nat} {R:Rd} (hlim:lim ≤ 1099511627776) (hb:∀ b ∈ bs, b ≤ 255) (hl:bs.length ≤ 1099511627776) (hat:R.at_ ≤ bs.length) {w:World} {B:Heap} (hB:B.Le (hp w)) (hv:BsV bs fu (.slice p bs.length c) B) :
  Ret Tryz.prog 220 [rv (.slice p bs.length c) R, .int .i64 lim] w B (fun v _ => v = .tuple #[.string (zcp bs lim R).1, rv (.slice p bs.length c) (zcp bs lim R).2]):=by
 rw [z25 hlim]
 have hma:=zto (lim:=lim) (e:=3) hat
 have hme:=znc (f:=zd1 bs lim 3) (z:=0) (R:=R)
 have hml:=zn6 (bs:=bs) (lim:=lim) (e:=3) (by decide) (R:=R)
 obtain ⟨n, ⟨a2, b2, e2⟩, hn⟩:∃ n R2, zbg bs lim 3 R = (n, R2):=⟨_, _, rfl⟩
 have hrd:=fun (u:World) (H:Heap) (hH:H.Le (hp u)) (hle:B.Le H) => hn ▸ zmj (R:=R) (lim:=lim) (e:=3) (by decide) hb hl hat hH (hv.le hle)
 have hme2:e2 ≠ 0 → a2 = R.at_:=fun h => by
  have:=hme (by unfold zbg at hn; rw [hn]; exact h)
  unfold zbg at hn
  rw [hn] at this
  exact congrArg (fun x:Nat × Rd => x.2.at_) this
 obtain ⟨at_, bad, err⟩:=R
 rw [hn] at hma hml ⊢
 have hmx:(if (lim:Int) > 0 then (lim:Int) else 0) = (lim:Int):=by split <;> omega
 have hcu:IntKind.u64.wrap (lim:Int) = (lim:Int):=zal (by omega) (by omega)
 dsimp only [rv] at hrd hma hml hme2 ⊢
 refine qu Tryz.func220 rfl Tryz.ntmps220 (Nat.le_of_ble_eq_true rfl) hB ?_
 refine ZZ ?_;refine Zq ?_;refine Zab ?_;refine Zx ?_;refine Zah ?_;refine Za ?_;refine z7 (zf4 rfl rfl rfl rfl (by assumption)) rfl ?_;refine z7 (za0 rfl rfl rfl zcb.1 zcb.2 (zal (by omega) (by omega))) rfl ?_;refine z7 (q0 L rfl rfl (zn rfl) rfl rfl rfl (fun u H hH hle _ => hrd u H hH hle)) rfl ?_;refine ZcF ?_;refine ZE ?_;refine Zq ?_;refine ZdG ?_
 refine zey 2 rfl fun bb2 hbb2 => ?_
 refine zey 7 rfl fun b7 hb7 => ?_
 by_cases h0:e2 ≠ 0
 ·rw [if_pos h0]
  obtain rfl:=hme2 h0
  refine Zy ?_;refine Zu ?_;refine Zz ?_;refine Zk ?_;refine Zu ?_;refine Zbh ?_;refine zh5 L (O1:=[_]) rfl rfl rfl rfl rfl rfl rfl rfl rfl ?_;refine Zj ?_;refine Zr ?_;refine Zu ?_;refine Zbh ?_;refine zh5 L (O1:=[_]) rfl rfl rfl rfl rfl rfl rfl rfl rfl ?_;refine Zj ?_;refine ZeS ?_;refine zd (q8 L (vs:=[_, _, _, _]) (qw rfl (List.Mem.tail _ (List.Mem.head _))) rfl rfl rfl rfl ⟨_, rfl⟩) rfl ?_;refine Za5 ?_;refine Zas ?_
  refine qt L (rs:=[.tmp 4, .cell 5 166]) rfl (fun _ _ h => h) Since.refl fun u H hH hle => ?_
  exact ⟨_, qg rfl, rfl, rfl⟩
 ·rw [if_neg h0]
  have h00:e2 = 0:=Decidable.not_not.1 h0
  have hnl:=hml h00
  have hws:IntKind.i64.wrap ((bs.length:Int) - (a2:Int)) = ((bs.length - a2:Nat):Int):=(zad (by omega) (by omega)).trans (by omega)
  have hcs:IntKind.u64.wrap ((bs.length - a2:Nat):Int) = ((bs.length - a2:Nat):Int):=zal (by omega) (by omega)
  by_cases h1:bs.length - a2 < n
  ·rw [if_pos h1]
   refine Zy ?_;refine Zu ?_;refine Zad ?_;refine ZL ?_;refine Zbr ?_;refine Zu ?_;refine ZaE ?_;refine z7 (za0 rfl rfl rfl zcb.1 zcb.2 (zal (by omega) (by omega))) rfl ?_;refine Z2 ?_;refine Zt ?_;refine Z8 ?_;refine z7 (q8 L (vs:=[_, _, _, _]) (qw rfl (List.Mem.tail _ (List.Mem.head _))) rfl rfl rfl rfl ⟨_, rfl⟩) rfl ?_;refine Zbh ?_;refine z7 (q6 L (qw rfl (List.Mem.tail _ (List.Mem.head _))) rfl rfl rfl rfl) rfl ?_;refine Zcj ?_;refine z7 (q0 L rfl rfl (zn rfl) rfl rfl rfl (fun u H hH _ _ => zec (R:=⟨at_, bad, err⟩) (a:=bs.length) (e:=17) hH)) rfl ?_;refine Zq ?_;refine Z1 ?_
   refine qt L (rs:=[.tmp 4, .cell 5 166]) rfl (fun _ _ h => h) Since.refl fun u H hH hle => ?_
   exact ⟨_, qg rfl, rfl, rfl⟩
  ·rw [if_neg h1]
   have hci:IntKind.i64.wrap (n:Int) = (n:Int):=zad (by omega) (by omega)
   have hwa:IntKind.i64.wrap ((a2:Int) + (n:Int)) = ((a2 + n:Nat):Int):=(zad (by omega) (by omega)).trans (by omega)
   have hsb:∀ b ∈ (bs.drop a2).take n, b ≤ 255:=fun b hb2 => hb b (List.mem_of_mem_drop (List.mem_of_mem_take hb2))
   refine Zy ?_;refine Zu ?_;refine Zad ?_;refine ZL ?_;refine Zbr ?_;refine Zu ?_;refine ZaE ?_;refine z7 (za0 rfl rfl rfl zcb.1 zcb.2 (zal (by omega) (by omega))) rfl ?_;refine Zbv ?_;refine Z0 ?_;refine Zu ?_;refine zba 42 (BsV bs fu) rfl SlV.mono hv ?_;refine Zu ?_;refine Zu ?_;refine Za ?_;refine z7 (za0 rfl rfl rfl zt0.1 zt0.2 (zad (by omega) (by omega))) rfl ?_;refine Zak ?_;refine z7 (zp9 L (fu:=fu) a2 n rfl rfl rfl rfl rfl rfl rfl rfl rfl (by omega)) rfl ?_;refine z7 (zdy (bs:=(bs.drop a2).take n) (fu:=false) hsb rfl rfl rfl rfl rfl rfl) rfl ?_;refine Zd ?_;refine Z3 ?_;refine Zu ?_;refine Za ?_;refine z7 (za0 rfl rfl rfl zt0.1 zt0.2 (zad (by omega) (by omega))) rfl ?_;refine Zak ?_;refine Zdn ?_;refine qh (id:=10) [] mixed (by kernel_rfl) ?_;refine Zi ?_;refine ZcU ?_;refine Za5 ?_;refine Zas ?_
   refine qt L (rs:=[.tmp 4, .cell 5 166]) rfl (fun _ _ h => h) Since.refl fun u H hH hle => ?_
   exact ⟨_, qg rfl, rfl, rfl⟩
end Go.V.L11
set_option maxRecDepth 20000
namespace Go.V.L4
open Go.Proofs Go.RowKit Go.V Go.V.L2 Go.V.L3 Go.V.L8
theorem _root_.Go.V.ZfY {A B:Prop} (h:B) (t:Wr B → A:=by intro h; refine Zfl ?_;refine qh (id:=1) [(3, [900]), (5, [900])] mixed (by kernel_rfl) ?_;exact h.h):A:=t ⟨h⟩
attribute [local irreducible] V N X VO Par StepOK Has Ret RetL RetO RetT zbd RetX RetY Src
theorem zrg {lim:Nat} (hlim:lim ≤ 1099511627776) {rb:Nat} {bs:List Nat} {fu:Bool} {sv:Value} {R:Rd} (hb:∀ b ∈ bs, b ≤ 255) (hl:bs.length ≤ 1099511627776) (hat:R.at_ ≤ bs.length) {w:World} {B:Heap} {C:Nat → Prop} (hB:B.Le (hp w)) (hs:BsV bs fu sv B) (hr:(GRd rb sv R).P B w C) (hC:∀ k, C k → k < w.heap.size ∧ B k = none) :
  RetX Tryz.prog 235 [zam rb, .int .i64 lim] w B C (GRd rb sv (zcp bs lim R).2) (.string (zcp bs lim R).1):=by
 unfold RetX
 refine zaf 900 (GRd rb _ R) Tryz.func235 rfl Tryz.ntmps235 (Nat.le_of_ble_eq_true rfl) hB hr hC ?_
 rw [zac]
 refine ZZ ?_;refine ZcB ?_;refine Zd ?_
 refine zax 2 901 rfl fun b2 => ?_
 refine zax 3 902 rfl fun b3 => ?_
 refine zei 901 rfl fun H1 hs1 _ h2 => ?_
 refine zei 902 rfl fun H2 hs2 _ h3 => ?_
 have h2:=hs2.le _ _ h2
 have hs12:=hs1.trans hs2
 have hs':=hs.le hs12.le
 refine Zx ?_;refine z7 (q6 L (qn rfl h2) rfl rfl rfl rfl) rfl ?_;refine ZaQ ?_;refine qe (yc L 900 (GRd rb sv (zcp bs lim R).2) (.string (zcp bs lim R).1) (r:=GRd rb sv R) rfl rfl rfl rfl rfl (fun u H C2 hH hle hr2 hC2 => zuk (gf:=zg7 bs lim) (fst:=[]) (cap:=[zam b2, zam b3]) rfl hH hr2 hC2 (fun _ u3 H3 C3 hH3 hle3 hr3 hC3 => zzx hlim hb hl hat hH3 ((hs'.le hle).le hle3) ((hle.trans hle3) _ _ h2) ((hle.trans hle3) _ _ h3) hr3 hC3))) ?_;refine Zb ?_
 exact zaq L 900 (r:=zai rb _ zd0) (rs:=[.tmp 4]) rfl (fun _ _ h => h) hs12 rfl rfl (fun _ => rfl)
theorem z0p {b1:Nat} {rb:Nat} {bs:List Nat} {fu:Bool} {sv:Value} {R:Rd} (hb:∀ b ∈ bs, b ≤ 255) (hl:bs.length ≤ 1099511627776) (hat:R.at_ ≤ bs.length) {w:World} {B:Heap} {C:Nat → Prop} (hB:B.Le (hp w)) (hs:BsV bs fu sv B) (h1:B b1 = some (.cells #[zam rb] zzu)) (hr:(GRd rb sv R).P B w C) (hC:∀ k, C k → k < w.heap.size ∧ B k = none) :
  RetX Tryz.prog 283 [zam b1] w B C (GRd rb sv (zsx (zcp bs 16) (zcp bs 16) R).2) (oV ((zcp bs 16 R).1, (zcp bs 16 (zcp bs 16 R).2).1)):=by
 unfold RetX
 refine zaf 900 (GRd rb _ R) Tryz.func283 rfl Tryz.ntmps283 (Nat.le_of_ble_eq_true rfl) hB hr hC ?_
 rw [zac]
 have hat2:=zkg (lim:=16) hat
 unfold zsx
 dsimp only
 generalize hz1:zcp bs 16 R = z1 at hat2
 obtain ⟨x, R1⟩:=z1
 dsimp only at hat2 ⊢
 generalize hz2:zcp bs 16 R1 = z2
 obtain ⟨y, R2⟩:=z2
 dsimp only
 refine ZfY ?_;refine zd (q6 L (qn rfl h1) rfl rfl rfl rfl) rfl ?_;refine zav (yc L 900 (GRd rb sv R1) (.string x) (r:=GRd rb sv R) rfl rfl rfl rfl rfl (fun u H C2 hH hle hr2 hC2 => by have h:=zrg (lim:=16) (by decide) hb hl hat hH (hs.le hle) hr2 hC2; rw [hz1] at h; exact h)) rfl rfl ?_;refine zd (q6 L (qn rfl h1) rfl rfl rfl rfl) rfl ?_;refine zav (yc L 900 (GRd rb sv R2) (.string y) (r:=GRd rb sv R1) rfl rfl rfl rfl rfl (fun u H C2 hH hle hr2 hC2 => by have h:=zrg (lim:=16) (by decide) hb hl hat2 hH (hs.le hle) hr2 hC2; rw [hz2] at h; exact h)) rfl rfl ?_;refine Zfj ?_;refine Zas ?_
 exact zaq L 900 (r:=zai rb _ zd0) (rs:=[.cell 1 z47]) rfl (fun _ _ h => h) Since.refl rfl rfl (fun _ => ⟨_, qg rfl, rfl, rfl⟩)
theorem z3x {rb:Nat} {bs:List Nat} {fu:Bool} {sv:Value} {R:Rd} (hb:∀ b ∈ bs, b ≤ 255) (hl:bs.length ≤ 1099511627776) (hat:R.at_ ≤ bs.length) {w:World} {B:Heap} {C:Nat → Prop} (hB:B.Le (hp w)) (hs:BsV bs fu sv B) (hr:(GRd rb sv R).P B w C) (hC:∀ k, C k → k < w.heap.size ∧ B k = none) :
  RetX Tryz.prog 234 [zam rb] w B C (GRd rb sv (zr4 bs R).2) (oV (zr4 bs R).1):=by
 unfold RetX
 refine zaf 900 (GRd rb _ R) Tryz.func234 rfl Tryz.ntmps234 (Nat.le_of_ble_eq_true rfl) hB hr hC ?_
 rw [zac]
 refine ZZ ?_;refine Zab ?_
 refine zax 1 901 rfl fun b1 => ?_
 refine zei 901 rfl fun H1 hs1 _ h1 => ?_
 have hs':=hs.le hs1.le
 generalize hz:zr4 bs R = z
 obtain ⟨⟨x, y⟩, R1⟩:=z
 dsimp only
 refine Zx ?_;refine z7 (q6 L (qn rfl h1) rfl rfl rfl rfl) rfl ?_;refine ZaQ ?_;refine qe (yc L 900 (GRd rb sv R1) (oV (x, y)) (r:=GRd rb sv R) rfl rfl rfl rfl rfl (fun u H C2 hH hle hr2 hC2 => by have h:=zul (gf:=zsx (zcp bs 16) (zcp bs 16)) (fst:=[]) (cap:=[zam b1]) rfl hH hr2 hC2 (fun _ u3 H3 C3 hH3 hle3 hr3 hC3 => z0p hb hl hat hH3 ((hs'.le hle).le hle3) ((hle.trans hle3) _ _ h1) hr3 hC3); unfold zr4 at hz; rw [hz] at h; exact h)) ?_;refine Z1 ?_
 exact zaq L 900 (r:=zai rb _ zd0) (rs:=[.cell 2 z47]) rfl (fun _ _ h => h) hs1 rfl rfl (fun _ => ⟨_, qg rfl, rfl, rfl⟩)
theorem zyu {b1:Nat} {rb:Nat} {bs:List Nat} {fu:Bool} {sv:Value} {R:Rd} (hb:∀ b ∈ bs, b ≤ 255) (hl:bs.length ≤ 1099511627776) (hat:R.at_ ≤ bs.length) {w:World} {B:Heap} {C:Nat → Prop} (hB:B.Le (hp w)) (hs:BsV bs fu sv B) (h1:B b1 = some (.cells #[zam rb] zzu)) (hr:(GRd rb sv R).P B w C) (hC:∀ k, C k → k < w.heap.size ∧ B k = none) :
  RetX Tryz.prog 233 [zam b1] w B C (GRd rb sv (zsx (zr4 bs) (zcp bs 16) R).2) (gV ((zr4 bs R).1, (zcp bs 16 (zr4 bs R).2).1)):=by
 unfold RetX
 refine zaf 900 (GRd rb _ R) Tryz.func233 rfl Tryz.ntmps233 (Nat.le_of_ble_eq_true rfl) hB hr hC ?_
 rw [zac]
 have hat2:=zxv hat
 unfold zsx
 dsimp only
 generalize hz1:zr4 bs R = z1 at hat2
 obtain ⟨x, R1⟩:=z1
 dsimp only at hat2 ⊢
 generalize hz2:zcp bs 16 R1 = z2
 obtain ⟨y, R2⟩:=z2
 dsimp only
 refine ZfY ?_;refine zd (q6 L (qn rfl h1) rfl rfl rfl rfl) rfl ?_;refine zav (yc L 900 (GRd rb sv R1) (oV x) (r:=GRd rb sv R) rfl rfl rfl rfl rfl (fun u H C2 hH hle hr2 hC2 => by have h:=z3x hb hl hat hH (hs.le hle) hr2 hC2; rw [hz1] at h; exact h)) rfl rfl ?_;refine zd (q6 L (qn rfl h1) rfl rfl rfl rfl) rfl ?_;refine zav (yc L 900 (GRd rb sv R2) (.string y) (r:=GRd rb sv R1) rfl rfl rfl rfl rfl (fun u H C2 hH hle hr2 hC2 => by have h:=zrg (lim:=16) (by decide) hb hl hat2 hH (hs.le hle) hr2 hC2; rw [hz2] at h; exact h)) rfl rfl ?_;refine zd (y8 (cs:=[_, _, _]) rfl rfl z7w rfl rfl) rfl ?_;refine Zas ?_
 exact zaq L 900 (r:=zai rb _ zd0) (rs:=[.cell 1 z48]) rfl (fun _ _ h => h) Since.refl rfl rfl (fun _ => ⟨_, qg rfl, rfl, rfl⟩)
theorem goal_ret {rb:Nat} {bs:List Nat} {fu:Bool} {sv:Value} {R:Rd} (hb:∀ b ∈ bs, b ≤ 255) (hl:bs.length ≤ 1099511627776) (hat:R.at_ ≤ bs.length) {w:World} {B:Heap} {C:Nat → Prop} (hB:B.Le (hp w)) (hs:BsV bs fu sv B) (hr:(GRd rb sv R).P B w C) (hC:∀ k, C k → k < w.heap.size ∧ B k = none) :
  RetX Tryz.prog 164 [zam rb] w B C (GRd rb sv (zbj bs R).2) (gV (zbj bs R).1):=by
 unfold RetX
 refine zaf 900 (GRd rb _ R) Tryz.func164 rfl Tryz.ntmps164 (Nat.le_of_ble_eq_true rfl) hB hr hC ?_
 rw [zac]
 refine ZZ ?_;refine Zab ?_
 refine zax 1 901 rfl fun b1 => ?_
 refine zei 901 rfl fun H1 hs1 _ h1 => ?_
 have hs':=hs.le hs1.le
 generalize hz:zbj bs R = z
 obtain ⟨⟨⟨x, y⟩, y2⟩, R1⟩:=z
 dsimp only
 refine Zx ?_;refine z7 (q6 L (qn rfl h1) rfl rfl rfl rfl) rfl ?_;refine ZaQ ?_;refine qe (yc L 900 (GRd rb sv R1) (gV ((x, y), y2)) (r:=GRd rb sv R) rfl rfl rfl rfl rfl (fun u H C2 hH hle hr2 hC2 => by have h:=zre (gf:=zsx (zr4 bs) (zcp bs 16)) (fst:=[]) (cap:=[zam b1]) rfl hH hr2 hC2 (fun _ u3 H3 C3 hH3 hle3 hr3 hC3 => zyu hb hl hat hH3 ((hs'.le hle).le hle3) ((hle.trans hle3) _ _ h1) hr3 hC3); unfold zbj at hz; rw [hz] at h; exact h)) ?_;refine Z1 ?_
 exact zaq L 900 (r:=zai rb _ zd0) (rs:=[.cell 2 z48]) rfl (fun _ _ h => h) hs1 rfl rfl (fun _ => ⟨_, qg rfl, rfl, rfl⟩)
theorem z3a {rb:Nat} {bs:List Nat} {fu:Bool} {sv:Value} {R:Rd} (hb:∀ b ∈ bs, b ≤ 255) (hl:bs.length ≤ 1099511627776) (hat:R.at_ ≤ bs.length) {w:World} {B:Heap} {C:Nat → Prop} (hB:B.Le (hp w)) (hs:BsV bs fu sv B) (hr:(GRd rb sv R).P B w C) (hC:∀ k, C k → k < w.heap.size ∧ B k = none) :
  RetX Tryz.prog 165 [zam rb] w B C (GRd rb sv (zbj bs R).2) (gV (zbj bs R).1):=by
 unfold RetX
 refine zaf 900 (GRd rb _ R) Tryz.func165 rfl Tryz.ntmps165 (Nat.le_of_ble_eq_true rfl) hB hr hC ?_
 rw [zac]
 generalize hz:zbj bs R = z
 obtain ⟨⟨⟨x, y⟩, y2⟩, R1⟩:=z
 dsimp only
 refine Zfl ?_;refine ZbD ?_;refine qe (yc L 900 (GRd rb sv R1) (gV ((x, y), y2)) (r:=GRd rb sv R) rfl rfl rfl rfl rfl (fun u H C2 hH hle hr2 hC2 => by have h:=goal_ret hb hl hat hH (hs.le hle) hr2 hC2; rw [hz] at h; exact h)) ?_;refine Z1 ?_
 exact zaq L 900 (r:=zai rb _ zd0) (rs:=[.cell 2 32]) rfl (fun _ _ h => h) Since.refl rfl rfl (fun _ => ⟨_, qg rfl, rfl, rfl⟩)
theorem zzy {b1:Nat} {rb:Nat} {bs:List Nat} {fu:Bool} {sv:Value} {R:Rd} (hb:∀ b ∈ bs, b ≤ 255) (hl:bs.length ≤ 1099511627776) (hat:R.at_ ≤ bs.length) {w:World} {B:Heap} {C:Nat → Prop} (hB:B.Le (hp w)) (hs:BsV bs fu sv B) (h1:B b1 = some (.cells #[zam rb] zzu)) (hr:(GRd rb sv R).P B w C) (hC:∀ k, C k → k < w.heap.size ∧ B k = none) :
  RetX Tryz.prog 163 [zam b1] w B C (GRd rb sv (zsx (zbj bs) (zbj bs) R).2) (uv ((zbj bs R).1, (zbj bs (zbj bs R).2).1)):=by
 unfold RetX
 refine zaf 900 (GRd rb _ R) Tryz.func163 rfl Tryz.ntmps163 (Nat.le_of_ble_eq_true rfl) hB hr hC ?_
 rw [zac]
 have hat2:=zoh hat
 unfold zsx
 dsimp only
 generalize hz1:zbj bs R = z1 at hat2
 obtain ⟨x, R1⟩:=z1
 dsimp only at hat2 ⊢
 generalize hz2:zbj bs R1 = z2
 obtain ⟨y, R2⟩:=z2
 dsimp only
 refine ZfY ?_;refine zd (q6 L (qn rfl h1) rfl rfl rfl rfl) rfl ?_;refine zav (yc L 900 (GRd rb sv R1) (gV x) (r:=GRd rb sv R) rfl rfl rfl rfl rfl (fun u H C2 hH hle hr2 hC2 => by have h:=goal_ret hb hl hat hH (hs.le hle) hr2 hC2; rw [hz1] at h; exact h)) rfl rfl ?_;refine zd (q6 L (qn rfl h1) rfl rfl rfl rfl) rfl ?_;refine zav (yc L 900 (GRd rb sv R2) (gV y) (r:=GRd rb sv R1) rfl rfl rfl rfl rfl (fun u H C2 hH hle hr2 hC2 => by have h:=z3a hb hl hat2 hH (hs.le hle) hr2 hC2; rw [hz2] at h; exact h)) rfl rfl ?_;refine zd (y8 (cs:=[_, _, _, _, _, _]) rfl rfl z7v rfl rfl) rfl ?_;refine Zas ?_
 exact zaq L 900 (r:=zai rb _ zd0) (rs:=[.cell 1 tyU]) rfl (fun _ _ h => h) Since.refl rfl rfl (fun _ => ⟨_, qg rfl, rfl, rfl⟩)
theorem tup_ret {rb:Nat} {bs:List Nat} {fu:Bool} {sv:Value} {R:Rd} (hb:∀ b ∈ bs, b ≤ 255) (hl:bs.length ≤ 1099511627776) (hat:R.at_ ≤ bs.length) {w:World} {B:Heap} {C:Nat → Prop} (hB:B.Le (hp w)) (hs:BsV bs fu sv B) (hr:(GRd rb sv R).P B w C) (hC:∀ k, C k → k < w.heap.size ∧ B k = none) :
  RetX Tryz.prog 99 [zam rb] w B C (GRd rb sv (zea bs R).2) (uv (zea bs R).1):=by
 unfold RetX
 refine zaf 900 (GRd rb _ R) Tryz.func99 rfl Tryz.ntmps99 (Nat.le_of_ble_eq_true rfl) hB hr hC ?_
 rw [zac]
 refine ZZ ?_;refine Zab ?_
 refine zax 1 901 rfl fun b1 => ?_
 refine zei 901 rfl fun H1 hs1 _ h1 => ?_
 have hs':=hs.le hs1.le
 generalize hz:zea bs R = z
 obtain ⟨⟨⟨⟨x, y⟩, y2⟩, ⟨⟨x3, y3⟩, y4⟩⟩, R1⟩:=z
 dsimp only
 refine Zx ?_;refine z7 (q6 L (qn rfl h1) rfl rfl rfl rfl) rfl ?_;refine ZaQ ?_;refine qe (yc L 900 (GRd rb sv R1) (uv (((x, y), y2), ((x3, y3), y4))) (r:=GRd rb sv R) rfl rfl rfl rfl rfl (fun u H C2 hH hle hr2 hC2 => by have h:=zuj (gf:=zsx (zbj bs) (zbj bs)) (fst:=[]) (cap:=[zam b1]) rfl hH hr2 hC2 (fun _ u3 H3 C3 hH3 hle3 hr3 hC3 => zzy hb hl hat hH3 ((hs'.le hle).le hle3) ((hle.trans hle3) _ _ h1) hr3 hC3); unfold zea at hz; rw [hz] at h; exact h)) ?_;refine Z1 ?_
 exact zaq L 900 (r:=zai rb _ zd0) (rs:=[.cell 2 tyU]) rfl (fun _ _ h => h) hs1 rfl rfl (fun _ => ⟨_, qg rfl, rfl, rfl⟩)
end Go.V.L4
set_option maxRecDepth 20000
namespace Go.V.L11
open Go.Proofs Go.RowKit Go.V Go.V.L2 Go.V.L4 Go.V.L8
attribute [local irreducible] V N X VO Par XP StepOK Has Ret RetL RetO RetT zbd RetX RetY Pan Src
theorem zrr {sb rb:Nat} {sv:Value} {R R2:Rd} {fr0:Int} {x:U} {fr:Nat} {fst cap:List Value} (hfn:L.fn fr = some ()) (he:R2.err = 0) {w:World} {B:Heap} {C:Nat → Prop} (hB:B.Le (hp w)) (hr:(za3 sb rb sv fr0 R).P B w C) (hC:∀ k, C k → k < w.heap.size ∧ B k = none) (hf:∀ (u:World) (H:Heap) (C:Nat → Prop), H.Le (hp u) → B.Le H → (za3 sb rb sv R.at_ R).P H u C → (∀ k, C k → k < u.heap.size ∧ H k = none) → RetX Tryz.prog fr (fst ++ cap) u H C (za3 sb rb sv R.at_ R2) (uv x)) :
  RetX Tryz.prog 98 [zam sb, .func (.func fr) fst.toArray cap.toArray] w B C (za3 sb rb sv R.at_ R2) (uv x):=by
 unfold RetX
 obtain ⟨⟨⟨x1, x2⟩, x3⟩, ⟨⟨x4, x5⟩, x6⟩⟩:=x
 refine zaf 900 (za3 sb rb sv fr0 R) Tryz.func98 rfl Tryz.ntmps98 (Nat.le_of_ble_eq_true rfl) hB hr hC ?_
 rw [zcx, zac, zac]
 refine ZdU ?_
 refine Zcy ?_;refine Zcm ?_;refine qe (yc L 901 (GRd rb sv R) (.int .i64 R.at_) (r:=GRd rb sv R) rfl rfl rfl rfl rfl (fun u H C2 hH _ hr2 hC2 => L4.at_ret hH hr2 hC2)) ?_;refine ZK ?_;refine ym (yf L (q:=900) (cs':=[zam rb, .int .i64 R.at_]) rfl rfl rfl rfl rfl rfl rfl rfl rfl) ?_;refine Zj ?_
 refine zbw 900 901 rfl rfl (zag (GRd rb sv R)) ?_
 refine Z4 ?_;refine qe (zbc L 900 (za3 sb rb sv R.at_ R2) (uv (((x1, x2), x3), ((x4, x5), x6))) (r:=za3 sb rb sv R.at_ R) rfl rfl rfl hfn rfl hf) ?_;refine Zby ?_
 refine zc7 (r1:=(zai sb [zam rb, .int .i64 R.at_] zvt).res) (r2:=(GRd rb sv R2).res) 900 901 rfl (zag (GRd rb sv R2)) ?_
 rw [zac]
 refine Zs ?_;refine ZaP ?_;refine qe (yc L 901 (GRd rb sv R2) (.tuple #[.int .i64 R2.bad, .int .i64 R2.err]) (r:=GRd rb sv R2) rfl rfl rfl rfl rfl (fun u H C2 hH _ hr2 hC2 => L4.fault_ret hH hr2 hC2)) ?_;refine ZaY ?_;refine Zd ?_;refine Zw ?_;refine ZG ?_;refine ZN ?_;refine ZP ?_;refine Z1 ?_
 refine zbw 900 901 rfl rfl (zag (GRd rb sv R2)) ?_
 exact zaq L 900 (r:=za3 sb rb sv R.at_ R2) (rs:=[.cell 4 tyU]) rfl (fun _ _ h => h) Since.refl rfl rfl (fun _ => ⟨_, qg rfl, rfl, rfl⟩)
theorem zrs {sb rb:Nat} {sv:Value} {R R2:Rd} {fr0:Int} {x:U} {fr:Nat} {fst cap:List Value} (hfn:L.fn fr = some ()) (he:R2.err ≠ 0) {w:World} {B:Heap} {C:Nat → Prop} (hB:B.Le (hp w)) (hr:(za3 sb rb sv fr0 R).P B w C) (hC:∀ k, C k → k < w.heap.size ∧ B k = none) (hf:∀ (u:World) (H:Heap) (C:Nat → Prop), H.Le (hp u) → B.Le H → (za3 sb rb sv R.at_ R).P H u C → (∀ k, C k → k < u.heap.size ∧ H k = none) → RetX Tryz.prog fr (fst ++ cap) u H C (za3 sb rb sv R.at_ R2) (uv x)) :
  Pan Tryz.prog 98 [zam sb, .func (.func fr) fst.toArray cap.toArray] w B C (wrV R2.bad R2.err):=by
 obtain ⟨⟨⟨x1, x2⟩, x3⟩, ⟨⟨x4, x5⟩, x6⟩⟩:=x
 refine zfe 900 (za3 sb rb sv fr0 R) Tryz.func98 rfl Tryz.ntmps98 (Nat.le_of_ble_eq_true rfl) hB hr hC ?_
 rw [zcx, zac, zac]
 refine ZdU ?_
 refine Zcy ?_;refine Zcm ?_;refine qe (yc L 901 (GRd rb sv R) (.int .i64 R.at_) (r:=GRd rb sv R) rfl rfl rfl rfl rfl (fun u H C2 hH _ hr2 hC2 => L4.at_ret hH hr2 hC2)) ?_;refine ZK ?_;refine ym (yf L (q:=900) (cs':=[zam rb, .int .i64 R.at_]) rfl rfl rfl rfl rfl rfl rfl rfl rfl) ?_;refine Zj ?_
 refine zbw 900 901 rfl rfl (zag (GRd rb sv R)) ?_
 refine Z4 ?_;refine qe (zbc L 900 (za3 sb rb sv R.at_ R2) (uv (((x1, x2), x3), ((x4, x5), x6))) (r:=za3 sb rb sv R.at_ R) rfl rfl rfl hfn rfl hf) ?_;refine Zby ?_
 refine zc7 (r1:=(zai sb [zam rb, .int .i64 R.at_] zvt).res) (r2:=(GRd rb sv R2).res) 900 901 rfl (zag (GRd rb sv R2)) ?_
 rw [zac]
 refine Zs ?_;refine ZaP ?_;refine qe (yc L 901 (GRd rb sv R2) (.tuple #[.int .i64 R2.bad, .int .i64 R2.err]) (r:=GRd rb sv R2) rfl rfl rfl rfl rfl (fun u H C2 hH _ hr2 hC2 => L4.fault_ret hH hr2 hC2)) ?_;refine ZaY ?_;refine Zd ?_;refine Zw ?_;refine Zbe ?_;refine Z9 ?_;refine zb8 (id:=5) 4 rfl ?_;refine Zc ?_;refine Zf4 ?_;refine Zf3 ?_;refine zk ?_;refine zn5 (K:=4) rfl rfl rfl ?_
 repeat (first | refine zc8 ?_ | refine zca ?_)
 exact zo0 Since.refl
end Go.V.L11
set_option maxRecDepth 20000
namespace Go.V.L11
open Go.Proofs Go.RowKit Go.V
abbrev sNl:ByteArray:=⟨#[10]⟩
def zvv:List UInt8 → List UInt8 → List (List UInt8)
 | acc, [] => if acc = [] then [] else [acc]
 | acc, c :: l => if c = 10 then (acc ++ [c]) :: zvv [] l else zvv (acc ++ [c]) l
theorem zyj:∀ {l acc:List UInt8}, 10 ∉ l → zvv acc l = if acc ++ l = [] then [] else [acc ++ l]
 | [], acc, _ => by rw [List.append_nil]; rfl
 | c :: l, acc, h => by
  rw [List.mem_cons, not_or] at h
  show (if c = 10 then _ else _) = _
  rw [if_neg (Ne.symm h.1), zyj h.2, List.append_assoc]
  rfl
theorem ztt:∀ {a b acc:List UInt8}, 10 ∉ a → zvv acc (a ++ 10 :: b) = (acc ++ a ++ [10]) :: zvv [] b
 | [], b, acc, _ => by rw [List.append_nil]; exact if_pos rfl
 | c :: a, b, acc, h => by
  rw [List.mem_cons, not_or] at h
  show (if c = 10 then _ else _) = _
  rw [if_neg (Ne.symm h.1)]
  refine (ztt (a:=a) (b:=b) (acc:=acc ++ [c]) h.2).trans ?_
  simp
def zel (s:ByteArray):List ByteArray:=(zvv [] s.data.toList).map fun l => ⟨l.toArray⟩
theorem zoa:zel ⟨#[]⟩ = []:=rfl
theorem ba_of (s:ByteArray):(⟨s.data.toList.toArray⟩:ByteArray) = s:=by cases s; simp
theorem z35 {s:ByteArray} (h:noB s 10) (hn:s ≠ ⟨#[]⟩):zel s = [s]:=by
 unfold zel
 rw [zyj h, List.nil_append, if_neg (fun e => hn (zb0 e)), List.map_cons, List.map_nil, ba_of]
theorem z0y {a b:ByteArray} (h:noB a 10):zel (a ++ sNl ++ b) = (a ++ sNl) :: zel b:=by
 unfold zel
 have e:(a ++ sNl ++ b).data.toList = a.data.toList ++ 10 :: b.data.toList:=by simp [zaz]
 rw [e, ztt h, List.map_cons, List.nil_append]
 congr 1
def zqt (x:ByteArray):Option ByteArray:=if x.data.toList.getLast? = some 10 then some ⟨x.data.toList.dropLast.toArray⟩ else none
theorem zlp {x r:ByteArray} (h:zqt x = some r):x = r ++ sNl:=by
 unfold zqt at h
 split at h
 ·rename_i hl
  cases h
  apply zb0
  rw [zaz]
  obtain ⟨ys, hy⟩:=List.getLast?_eq_some_iff.1 hl
  show x.data.toList = x.data.toList.dropLast.toArray.toList ++ [10]
  rw [hy]; simp
 ·cases h
def zfu {X:Type} (rd:ByteArray → X × Int):List X → Nat → List ByteArray → List X × Nat × Int
 | out, _, [] => (out, 0, 0)
 | out, n, x :: xs => if 4096 < n then ([], n, 3) else match zqt x with
  | none => ([], n, 5)
  | some r => if (rd r).2 ≠ 0 then ([], n, (rd r).2) else zfu rd (out ++ [(rd r).1]) (n + 1) xs
def zmm {X:Type} (rd:ByteArray → X × Int) (s:ByteArray):List X × Nat × Int:=if 1048576 < s.size then ([], 0, 3) else zfu rd [] 1 (zel s)
def zja {X:Type} (rd:ByteArray → X × Int) (n:Nat) (x:ByteArray):Bool:=decide (4096 < n) || match zqt x with | none => true | some r => (rd r).2 != 0
def zbo {X:Type} (rd:ByteArray → X × Int):Nat → List ByteArray → Bool
 | _, [] => true
 | n, x :: xs => !zja rd n x && zbo rd (n + 1) xs
def zh9 {X:Type} (rd:ByteArray → X × Int) (xs:List ByteArray):List X:=xs.filterMap fun x => (zqt x).map fun r => (rd r).1
theorem zf3 {X:Type} {rd:ByteArray → X × Int}:∀ {xs ys:List ByteArray} {out:List X} {n:Nat}, zbo rd n xs = true → zfu rd out n (xs ++ ys) = zfu rd (out ++ zh9 rd xs) (n + xs.length) ys
 | [], ys, out, n, _ => by simp [zh9]
 | x :: xs, ys, out, n, h => by
  unfold zbo at h
  rw [Bool.and_eq_true] at h
  obtain ⟨h1, h2⟩:=h
  unfold zja at h1
  simp only [Bool.not_eq_true', Bool.or_eq_false_iff, decide_eq_false_iff_not] at h1
  obtain ⟨h3, h4⟩:=h1
  have e:zfu rd out n (x :: xs ++ ys) = if 4096 < n then ([], n, 3) else match zqt x with
   | none => ([], n, 5)
   | some r => if (rd r).2 ≠ 0 then ([], n, (rd r).2) else zfu rd (out ++ [(rd r).1]) (n + 1) (xs ++ ys):=rfl
  rw [e, if_neg h3]
  cases hx:zqt x with
  | none => rw [hx] at h4; cases h4
  | some r =>
   rw [hx] at h4
   have h5:¬ (rd r).2 ≠ 0:=by simpa using h4
   dsimp only
   rw [if_neg h5, zf3 h2]
   have e2:zh9 rd (x :: xs) = (rd r).1 :: zh9 rd xs:=by
    unfold zh9
    rw [List.filterMap_cons, hx]; rfl
   rw [e2, List.append_assoc, List.length_cons, show n + 1 + xs.length = n + (xs.length + 1) by omega]
   rfl
theorem zb9 {X:Type} {rd:ByteArray → X × Int} {y:ByteArray}:∀ {ls:List ByteArray} {n:Nat}, zbo rd n (ls ++ [y]) = (zbo rd n ls && !zja rd (n + ls.length) y)
 | [], n => by simp [zbo]
 | x :: ls, n => by
  show (!zja rd n x && zbo rd (n + 1) (ls ++ [y])) = ((!zja rd n x && zbo rd (n + 1) ls) && _)
  rw [zb9, List.length_cons, show n + 1 + ls.length = n + (ls.length + 1) by omega, Bool.and_assoc]
def zjf {X:Type} (rd:ByteArray → X × Int):Nat → List ByteArray → List X
 | _, [] => []
 | n, x :: xs => if zja rd n x = true then [] else zh9 rd [x] ++ zjf rd (n + 1) xs
theorem zdx {X:Type} {rd:ByteArray → X × Int} {ys:List ByteArray}:∀ {ls:List ByteArray} {n:Nat}, zbo rd n ls = true → zjf rd n (ls ++ ys) = zh9 rd ls ++ zjf rd (n + ls.length) ys
 | [], n, _ => by simp [zh9]
 | x :: ls, n, h => by
  unfold zbo at h
  rw [Bool.and_eq_true] at h
  have h1:zja rd n x = false:=by simpa using h.1
  show (if zja rd n x = true then [] else zh9 rd [x] ++ zjf rd (n + 1) (ls ++ ys)) = _
  rw [if_neg (by rw [h1]; decide), zdx h.2, List.length_cons, show n + 1 + ls.length = n + (ls.length + 1) by omega, ← List.append_assoc]
  congr 1
  unfold zh9
  rw [← List.filterMap_append]
  rfl
theorem zil {X:Type} {rd:ByteArray → X × Int} {ls:List ByteArray} (h:zbo rd 1 ls = true):zfu rd [] 1 ls = (zh9 rd ls, 0, 0):=by
 have:=zf3 (rd:=rd) (xs:=ls) (ys:=[]) (out:=[]) h
 rw [List.append_nil] at this
 rw [this]; rfl
theorem zim {X:Type} {rd:ByteArray → X × Int} {ls:List ByteArray} (h:zbo rd 1 ls = true):zjf rd 1 ls = zh9 rd ls:=by
 have:=zdx (rd:=rd) (ys:=[]) h
 rw [List.append_nil] at this
 rw [this]
 exact List.append_nil _
theorem zo8 {X:Type} {rd:ByteArray → X × Int} {ls:List ByteArray} {y r:ByteArray} (h:zqt y = some r):zh9 rd (ls ++ [y]) = zh9 rd ls ++ [(rd r).1]:=by
 unfold zh9
 rw [List.filterMap_append]
 congr 1
 simp [h]
theorem zjn {X:Type} {rd:ByteArray → X × Int} {ls:List ByteArray}:(zh9 rd ls).length ≤ ls.length:=List.length_filterMap_le ..
theorem zjq {X:Type} {rd:ByteArray → X × Int} {ls ys:List ByteArray} {y:ByteArray} (h:zbo rd 1 ls = true) (hn:4096 < 1 + ls.length):zfu rd [] 1 (ls ++ y :: ys) = ([], 1 + ls.length, 3):=by
 rw [zf3 h]; exact if_pos hn
theorem zhk {X:Type} {rd:ByteArray → X × Int} {ls ys:List ByteArray} {y:ByteArray} (h:zbo rd 1 ls = true) (hn:¬ 4096 < 1 + ls.length) (he:zqt y = none):zfu rd [] 1 (ls ++ y :: ys) = ([], 1 + ls.length, 5):=by
 rw [zf3 h]
 unfold zfu
 rw [if_neg hn, he]
theorem zjr {X:Type} {rd:ByteArray → X × Int} {ls ys:List ByteArray} {y r:ByteArray} (h:zbo rd 1 ls = true) (hn:¬ 4096 < 1 + ls.length) (he:zqt y = some r) (hr:(rd r).2 ≠ 0):zfu rd [] 1 (ls ++ y :: ys) = ([], 1 + ls.length, (rd r).2):=by
 rw [zf3 h]
 unfold zfu
 rw [if_neg hn, he]
 exact if_pos hr
theorem z0l {X:Type} {rd:ByteArray → X × Int} {ls ys:List ByteArray} {y:ByteArray} (h:zbo rd 1 ls = true) (hb:zja rd (1 + ls.length) y = true):zfu rd [] 1 (ls ++ y :: ys) = zfu rd [] 1 (ls ++ [y]):=by
 by_cases hn:4096 < 1 + ls.length
 ·rw [zjq h hn, zjq h hn]
 ·cases he:zqt y with
  | none => rw [zhk h hn he, zhk h hn he]
  | some r =>
   have hr:(rd r).2 ≠ 0:=by
    unfold zja at hb
    rw [he] at hb
    simpa [hn] using hb
   rw [zjr h hn he hr, zjr h hn he hr]
theorem zld:∀ {l acc x:List UInt8}, x ∈ zvv acc l → x.length ≤ acc.length + l.length
 | [], acc, x, h => by
  have h':x ∈ if acc = [] then ([]:List (List UInt8)) else [acc]:=h
  split at h'
  ·cases h'
  ·rw [List.mem_singleton] at h'
   subst h'
   simp
 | c :: l, acc, x, h => by
  have h':x ∈ if c = 10 then (acc ++ [c]) :: zvv [] l else zvv (acc ++ [c]) l:=h
  rw [List.length_cons]
  split at h'
  ·rcases List.mem_cons.1 h' with rfl | h2
   ·simp
   ·have:=zld h2
    simp at this
    omega
  ·have:=zld h'
   simp at this
   omega
theorem zql {s y:ByteArray} (h:y ∈ zel s):y.size ≤ s.size:=by
 unfold zel at h
 obtain ⟨l, hl, rfl⟩:=List.mem_map.1 h
 have:=zld hl
 rw [za6] at this
 show l.toArray.size ≤ _
 simpa using this
theorem znu {X:Type} {rd:ByteArray → X × Int}:∀ {xs:List ByteArray} {n:Nat} {out:List X}, zbo rd n xs = false → (zfu rd out n xs).1 = []
 | [], _, _, h => by cases h
 | x :: xs, n, out, h => by
  unfold zbo at h
  unfold zfu
  by_cases hn:4096 < n
  ·rw [if_pos hn]
  ·rw [if_neg hn]
   cases he:zqt x with
   | none => rfl
   | some r =>
    dsimp only
    by_cases hr:(rd r).2 ≠ 0
    ·rw [if_pos hr]
    ·rw [if_neg hr]
     have hb:zja rd n x = false:=by
      unfold zja
      rw [he]
      simp at hr
      simp [hn, hr]
     rw [hb] at h
     exact znu (by simpa using h)
end Go.V.L11
set_option maxRecDepth 20000
namespace Go.V
open Go.RowKit
def z7d (P:Program) (f:FuncId) (caps:List Value) (gr:GR) (w:World) (B:Heap) (xs:zbi):Prop :=
 ∀ (l:Nat) (J:zbi → GR) (stop:zbi → Bool) (C Cg:Nat → Prop), stop [] = false → zlt P l J stop xs → (J []).P B w C → (∀ k, C k → k < w.heap.size ∧ B k = none) → gr.P B w Cg → (∀ k, Cg k → k < w.heap.size ∧ B k = none) → (∀ k, C k → ¬ Cg k) →
  RetL P f (.func (.yield l) #[] #[] :: caps) w B (fun k => C k ∨ Cg k) fun _ H u => ∃ C', (J (za7 stop [] xs)).P H u C' ∧ ∀ k, C' k → ((C k ∨ Cg k) ∨ w.heap.size ≤ k) ∧ k < u.heap.size ∧ H k = none
section
variable {P:Program} {F:Fr} {B:Heap} {O:Boxes} {n:Nat} {ops:Array Oper} {κ:Kap} {d:Nat} {ty:TypeId} {pos:String} {aft:Array Edge} {g:Option (Nat × Bool)} {a:Act} {u:World} {H:Heap} {fp:Nat → Nat → Prop} {os:List Oper} {Q:Exit → Act → World → Prop} {ex:Exs}
def JcX (Cg:Nat → Prop) (F:Fr) (B:Heap) (n:Nat) (a0:Act) (H0:Heap) (N1:Nat) (O':zbi → Boxes) (K:zbi → Kap) (pre:zbi):GR where
 P Hit u C:=∃ Hc fp, HasH F B (O' pre) n (K pre) a0 u Hc fp ∧ H0.Le Hc ∧ H0.Le Hit ∧ (∀ y ∈ O' pre, y.1 < N1) ∧ N1 ≤ u.heap.size ∧ F.w0.heap.size ≤ N1 ∧
  (∀ k, Cg k → k < N1 ∧ (F.w0.heap.size ≤ k ∨ F.L k) ∧ Hc k = none) ∧ (∀ y ∈ O' pre, ¬ Cg y.1) ∧ (∀ t r k, K pre t = some (.own r) → fp t k → ¬ Cg k) ∧
  (∀ k, C k ↔ (k < N1 ∧ H0 k = none ∧ ¬ Cg k) ∨ (N1 ≤ k ∧ ((Hc k).isSome = true ∨ ∃ t r, K pre t = some (.own r) ∧ fp t k)))
 st:=by
  rintro Hit u C Hit' u' ⟨Hc, fp, hh, h1, h2, h3, h4, h5, hx1, hx2, hx3, hC⟩ hle hsub hon hk
  have hCt:∀ t r k, K pre t = some (.own r) → fp t k → C k:=fun t r k ht hf => by
   rw [hC]
   rcases Nat.lt_or_ge k N1 with hlt | hge
   ·refine .inl ⟨hlt, ?_, hx3 t r k ht hf⟩
    have:=((hh.slot t _ ht).2 k hf).2.1
    cases hx:H0 k with
    | none => rfl
    | some o => rw [h1 k o hx] at this; cases this
   ·exact .inr ⟨hge, .inr ⟨t, r, ht, hf⟩⟩
  have hCb:∀ y ∈ O' pre, C y.1:=fun y hy => by
   rw [hC]
   refine .inl ⟨h3 y hy, ?_, hx2 y hy⟩
   have:=(hh.boxes y hy).2.1
   cases hx:H0 y.1 with
   | none => rfl
   | some o => rw [h1 _ o hx] at this; cases this
  have hold:∀ k o, H0 k = some o → u'.heap[k]? = u.heap[k]?:=fun k o ho =>
   ((hsub k o (hle k o (h2 k o ho))):u'.heap[k]? = some o).trans ((hh.sub k o (h1 k o ho)):u.heap[k]? = some o).symm
  have hsub':Hc.Le (hp u'):=fun k o ho => by
   show u'.heap[k]? = some o
   cases hx:H0 k with
   | some o' => rw [hold k o' hx]; exact hh.sub k o ho
   | none =>
    rw [hk k ((hC k).2 ?_)]
    ·exact hh.sub k o ho
    ·rcases Nat.lt_or_ge k N1 with hlt | hge
     ·exact .inl ⟨hlt, hx, fun hg => by rw [(hx1 k hg).2.2] at ho; cases ho⟩
     ·exact .inr ⟨hge, .inl (by rw [ho]; rfl)⟩
  refine ⟨Hc, fp, ⟨hh.size, hh.defers, hh.nodup, hh.marks, hh.lent, ?_, hsub', hh.base, hh.fresh, fun y hy => ?_, hh.apart, fun t k ht => ?_, hh.owns, hh.mono⟩, h1, h2.trans hle, h3, Nat.le_trans h4 hon.size, h5, hx1, hx2, hx3, hC⟩
  ·refine ⟨hon.os.trans hh.keep.os, hon.tape.trans hh.keep.tape, hon.output.trans hh.keep.output, Nat.le_trans hh.keep.size hon.size, fun k hk' hl => ?_, Nat.le_trans hh.keep.dr hon.dr⟩
   refine Eq.trans ?_ (hh.keep.block k hk' hl)
   cases hx:H0 k with
   | some o => exact hold k o hx
   | none => exact hk k ((hC k).2 (.inl ⟨by omega, hx, fun hg => by
     rcases (hx1 k hg).2.1 with h | h
     ·omega
     ·exact hl h⟩))
  ·obtain ⟨g1, g2, g3⟩:=hh.boxes y hy
   exact ⟨(hk _ (hCb y hy)).trans g1, g2, g3⟩
  ·have hs:=hh.slot t k ht
   cases k with
   | is _ => exact hs
   | sat _ => exact hs
   | own r => exact ⟨r.st hs.1 (Heap.Le.refl _) hsub' hon fun k hf => hk k (hCt t r k ht hf), fun k hf => by
     obtain ⟨g1, g2, g3, g4⟩:=hs.2 k hf
     exact ⟨Nat.lt_of_lt_of_le g1 hon.size, g2, g3, g4⟩⟩
theorem zq4 (L:Tabs P) (gi:Nat) {gr:GR} {f:Operand} {params:Array Tmp} {assign body:Code} {gf:Nat} {caps:List Value}
  (fx:List (Nat × Value)) (G:zbi → List (Nat × Res)) (K1:zbi → List Value → List (Nat × Kn)) (xs:zbi) (stop:zbi → Bool) (jc:zbi → Code)
  (hr:F.r = none) (hf:evK κ f = some (.func (.func gf) #[] caps.toArray)) (hfn:L.fn gf = some ())
  (hgi:κ gi = some (.own gr.res)) (hGi:∀ pre, ∀ p ∈ G pre, p.1 ≠ gi) (h0:LiveOK (gK' (G []) ++ z2i fx) κ) (hG:∀ pre, ∀ p ∈ G pre, n ≤ p.1) (hst0:stop [] = false)
  (hps:∀ x ∈ xs, x.length = params.size) (hpn:∀ t ∈ params.toList, t < n)
  (hit:∀ u H, H.Le (hp u) → B.Le H → z7d P gf caps gr u H xs)
  (hassign:∀ (w1:World) (Ln:Nat → Prop) (B':Heap) (l D:Nat) (o:Obj) (pre:zbi) (x:List Value), pre ++ [x] <+: xs → stop pre = false → B.Le B' →
   V P ⟨w1, some l, [], Ln⟩ B' n ((l, o) :: (D, .deferred (some [])) :: O) (z7e (KK fx (G pre)) (params.toList.zip x)) assign (Exit.then (fun a u => Has ⟨w1, some l, [], Ln⟩ B' ((l, o) :: (D, .deferred (some [])) :: O) n (ofL (K1 pre x)) a u) (fun _ _ _ => False)))
  (hbody:∀ (w1:World) (Ln:Nat → Prop) (B':Heap) (l D:Nat) (o:Obj) (pre:zbi) (x:List Value), pre ++ [x] <+: xs → stop pre = false → B.Le B' →
   V P ⟨w1, some l, [], Ln⟩ B' n ((l, o) :: (D, .deferred (some [])) :: O) (ofL (K1 pre x)) body (z1v ⟨w1, some l, [], Ln⟩ B' n ((l, o) :: (D, .deferred (some [])) :: O) G stop jc (pre ++ [x])))
  (hdone:∀ (l D:Nat) (o:Obj), stop (za7 stop [] xs) = false → N ⟨F.w0, F.r, .m D :: F.ds, F.L⟩ B n ((l, o) :: (D, .deferred (some [])) :: O) (KK fx (G (za7 stop [] xs))) Q)
  (hstop:∀ (l D:Nat) (o:Obj), stop (za7 stop [] xs) = true → V P ⟨F.w0, F.r, .m D :: F.ds, F.L⟩ B n ((l, o) :: (D, .deferred (some [])) :: O) (KK fx (G (za7 stop [] xs))) (jc (za7 stop [] xs)) Q) :
  V P F B n O κ (.rangeFunc f params assign body) Q:=by
 obtain ⟨w0, r, ds, Lf⟩:=F
 dsimp only at hr
 subst hr
 rintro a u ⟨H, fp, hh⟩
 have e := hh.env (ops := #[]) (o := ⟨none, .move f, 0, "", #[], none⟩) (κ := κ) (fun _ _ => rfl)
 have hfe:a.eval f = .func (.func gf) #[] caps.toArray:=e.is_ f _ (by simp [Op.operands]) hf
 refine wpIn_rangeFunc fun fn _ => ?_
 -- the record
 have hD0:(.loop { state:=.ready, pending:=none, fn, tmps:=a.tmps, params, assign, body, defers:=u.heap.size }:Obj) = .loop { state:=.ready, pending:=none, fn, tmps:=a.tmps, params, assign, body, defers:=u.heap.size }:=rfl
 generalize hrec:({ state:=.ready, pending:=none, fn, tmps:=a.tmps, params, assign, body, defers:=u.heap.size }:Loop) = rec0 at hD0
 have hh1:=(hh.newBox (.deferred (some []))).newBox (.loop rec0)
 rw [World.size_alloc] at hh1
 generalize hw1:(u.alloc (.deferred (some []))).alloc (.loop rec0) = w1 at hh1
 have hN1:w1.heap.size = u.heap.size + 2:=by subst hw1; simp
 let recS:zbi → Loop:=fun pre => if stop pre = true then { rec0 with state:=.done, pending:=some (jc pre) } else rec0
 let O':zbi → Boxes:=fun pre => (u.heap.size + 1, .loop (recS pre)) :: (u.heap.size, .deferred (some [])) :: O
 let F1:Fr:=⟨w0, none, [], Lf⟩
 let a0:Act:={ tmps:=a.tmps, defers:=[] }
 have hCg:=fun k (hk:fp gi k) => ((hh1.slot gi _ hgi).2 k hk)
 have hCg0:=fun k (hk:fp gi k) => ((hh.slot gi _ hgi).2 k hk)
 have hCg1:∀ k, fp gi k → k < w1.heap.size:=fun k hk => (hCg k hk).1
 let J:zbi → GR:=JcX (fp gi) F1 B n a0 H w1.heap.size O' fun pre => KK fx (G pre)
 have hrec0:rec0.state = .ready ∧ rec0.pending = none ∧ rec0.fn = fn ∧ rec0.tmps = a.tmps ∧ rec0.params = params ∧ rec0.assign = assign ∧ rec0.body = body:=by subst hrec; exact ⟨rfl, rfl, rfl, rfl, rfl, rfl, rfl⟩
 have hO'mem:∀ pre pre' y, y ∈ O' pre' → ∃ y' ∈ O' pre, y'.1 = y.1:=fun pre pre' y hy => by
  rcases List.mem_cons.1 hy with rfl | hy
  ·exact ⟨_, List.mem_cons_self .., rfl⟩
  ·exact ⟨y, List.mem_cons_of_mem _ hy, rfl⟩
 have hfix:∀ t k, ofL (z2i fx) t = some k → ∀ v, k = .is v → a0.eval (.tmp t) = v:=fun t k ht v hv => by
  subst hv
  exact hh.slot t _ ((LiveOK.right h0).get ht)
 have hrecS0:recS [] = rec0:=if_neg (by rw [hst0]; simp)
 -- at the start
 have hstart:HasH F1 B (O' []) n (KK fx (G [])) a0 w1 H fp:=by
  have h2:=hh1.sub_kap (κ2:=KK fx (G [])) fun t k hk => h0.get hk
  have:O' [] = (u.heap.size + 1, .loop rec0) :: (u.heap.size, .deferred (some [])) :: O:=by show (_, Obj.loop (recS [])) :: _ = _; rw [hrecS0]
  rw [this]
  exact ⟨h2.size, rfl, List.nodup_nil, (fun _ h => by cases h), h2.lent, h2.keep, h2.sub, h2.base, h2.fresh, h2.boxes, h2.apart, h2.slot, h2.owns, h2.mono⟩
 have hOg0:∀ pre, ∀ y ∈ O' pre, ¬ fp gi y.1:=fun pre y hy hg => by
  rcases List.mem_cons.1 hy with rfl | hy
  ·have:=(hCg0 _ hg).1; dsimp only at this; omega
  ·rcases List.mem_cons.1 hy with rfl | hy
   ·have:=(hCg0 _ hg).1; dsimp only at this; omega
   ·exact (hCg0 _ hg).2.2.2 y hy rfl
 have hyg:=hOg0 []
 have hKgi:∀ pre, ofL (gK' (G pre)) gi = none:=fun pre => by
  have:∀ l:List (Nat × Res), (∀ p ∈ l, p.1 ≠ gi) → ofL (gK' l) gi = none:=fun l => by
   induction l with
   | nil => exact fun _ => rfl
   | cons p l ih =>
    intro h
    show upd (ofL (gK' l)) p.1 (.own p.2) gi = none
    rw [zab _ _ (Ne.symm (h p (List.mem_cons_self ..)))]
    exact ih fun q hq => h q (List.mem_cons_of_mem _ hq)
  exact this _ (hGi pre)
 have hKne:∀ pre t r, KK fx (G pre) t = some (.own r) → t ≠ gi:=fun pre t r ht he => by
  subst he
  have:=zjd (hG pre) ht
  rw [hKgi pre] at this; cases this
 have hog:∀ t r k, KK fx (G []) t = some (.own r) → fp t k → ¬ fp gi k:=fun t r k ht hf hg =>
  hh.owns t gi r gr.res (hKne [] t r ht) (h0.get ht) hgi k hf hg
 let C0:Nat → Prop:=fun k => (k < w1.heap.size ∧ H k = none ∧ ¬ fp gi k) ∨ (w1.heap.size ≤ k ∧ ((H k).isSome = true ∨ ∃ t r, KK fx (G []) t = some (.own r) ∧ fp t k))
 have hJ0:(J []).P H w1 C0:=⟨H, fp, hstart, Heap.Le.refl _, Heap.Le.refl _, fun y hy => zaa (hstart.boxes y hy).1, Nat.le_refl _, hstart.keep.size, fun k hk => ⟨hCg1 k hk, (hCg k hk).2.2.1, (hCg k hk).2.1⟩, fun y hy hg => hyg y hy hg, hog, fun _ => Iff.rfl⟩
 have hC0:∀ k, C0 k → k < w1.heap.size ∧ H k = none:=fun k hk => by
  rcases hk with h | ⟨h1, h | ⟨t, r, ht, hf⟩⟩
  ·exact ⟨h.1, h.2.1⟩
  ·rw [za8 hstart.sub h1] at h; cases h
  ·have:=((hstart.slot t _ ht).2 k hf).1
   omega
 -- the rounds
 have hY:zlt P (u.heap.size + 1) J stop xs:=by
  rintro pre x hpre hstp v Hit C hsubv ⟨Hc, fpc, hc, c1, c2, c3, c4, c5, x1, x2, x3, c6⟩ hCv
  have hrp:recS pre = rec0:=if_neg (by rw [hstp]; simp)
  have hOp:O' pre = (u.heap.size + 1, .loop rec0) :: (u.heap.size, .deferred (some [])) :: O:=by show (_, Obj.loop (recS pre)) :: _ = _; rw [hrp]
  rw [hOp] at hc
  have hl:v.heap[u.heap.size + 1]? = some (.loop rec0):=(hc.boxes _ (List.mem_cons_self ..)).1
  have hxl:x.length = params.size:=hps x (hpre.subset (by simp))
  have hyr:=run_yield (P:=P) (args:=x.toArray) hl (by rw [hrec0.2.2.2.2.1]; simpa using hxl)
  rw [hrec0.2.2.1, hrec0.2.2.2.1, hrec0.2.2.2.2.1, hrec0.2.2.2.2.2.1, hrec0.2.2.2.2.2.2] at hyr
  refine ⟨fn, _, assign, body, hyr, roundIn_of_wpIn trivial ?_⟩
  -- the round's frame
  let Cr:Nat → Prop:=fun k => (∃ y ∈ O' pre, y.1 = k) ∨ ∃ t r, KK fx (G pre) t = some (.own r) ∧ fpc t k
  have hCrC:∀ k, Cr k → C k ∧ k < v.heap.size ∧ (w0.heap.size ≤ k ∨ Lf k):=fun k hk => by
   rcases hk with ⟨y, hy, rfl⟩ | ⟨t, r, ht, hf⟩
   ·rw [hOp] at hy
    obtain ⟨g1, g2, g3⟩:=hc.boxes y hy
    refine ⟨(c6 _).2 (.inl ⟨c3 y (by rw [hOp]; exact hy), ?_, x2 y (by rw [hOp]; exact hy)⟩), zaa g1, g3⟩
    cases hx:H y.1 with
    | none => rfl
    | some o => rw [c1 _ o hx] at g2; cases g2
   ·obtain ⟨g1, g2, g3, g4⟩:=(hc.slot t _ ht).2 k hf
    refine ⟨(c6 k).2 ?_, g1, g3⟩
    rcases Nat.lt_or_ge k w1.heap.size with hlt | hge
    ·refine .inl ⟨hlt, ?_, x3 t r k ht hf⟩
     cases hx:H k with
     | none => rfl
     | some o => rw [c1 _ o hx] at g2; cases g2
    ·exact .inr ⟨hge, .inr ⟨t, r, ht, hf⟩⟩
  have hCrg:∀ k, Cr k → ¬ fp gi k:=fun k hk => by
   rcases hk with ⟨y, hy, rfl⟩ | ⟨t, r, ht, hf⟩
   ·exact x2 y hy
   ·exact x3 t r k ht hf
  let Fr':Fr:=⟨v, some (u.heap.size + 1), [], Cr⟩
  have hr0:HasH Fr' Hc ((u.heap.size + 1, .loop rec0) :: (u.heap.size, .deferred (some [])) :: O) n (KK fx (G pre)) a0 v Hc fpc :=
   ⟨hc.size, rfl, List.nodup_nil, (fun _ h => by cases h), fun k hk => (hCrC k hk).2.1, Keep.refl _ _, hc.sub, Heap.Le.refl _, fun _ _ _ => rfl, fun y hy => ⟨(hc.boxes y hy).1, (hc.boxes y hy).2.1, .inr (.inl ⟨y, by rw [hOp]; exact hy, rfl⟩)⟩, hc.apart, fun t k hk => by
    have hs:=hc.slot t k hk
    cases k with
    | is _ => exact hs
    | sat _ => exact hs
    | own r => exact ⟨hs.1, fun k hf => by
      obtain ⟨g1, g2, g3, g4⟩:=hs.2 k hf
      exact ⟨g1, g2, .inr (.inr ⟨t, r, hk, hf⟩), g4⟩⟩, hc.owns, hc.mono⟩
  have hBc:B.Le Hc:=hc.base
  have hr1:=hr0.putP (params.toList.zip x) (fun p hp => hpn p.1 (List.of_mem_zip hp).1)
  have hfold:(params.zip x.toArray).foldl (fun tmps (t, a) => tmps.setIfInBounds t a) a.tmps = (params.toList.zip x).foldl (fun t p => t.setIfInBounds p.1 p.2) a.tmps:=by
   rw [← Array.foldl_toList, Array.toList_zip]
  rw [hfold]
  -- how a round ends
  have fin:∀ (e:Option Code) (a1:Act) (u1:World), (match e with | none => stop (pre ++ [x]) = false | some c => stop (pre ++ [x]) = true ∧ jc (pre ++ [x]) = c) →
    Has Fr' Hc ((u.heap.size + 1, .loop { rec0 with state:=.busy }) :: (u.heap.size, .deferred (some [])) :: O) n (ofL (gK' (G (pre ++ [x])))) a1 u1 →
    ∃ z w', (Instr.endRound (u.heap.size + 1) e).run P u1 = .ok z w' ∧ Ending.returned z = .returned (.bool (!stop (pre ++ [x]))) ∧ ∃ C', (J (pre ++ [x])).P Hit w' C' ∧ Keep C v w' ∧ ∀ k, C' k → (C k ∨ v.heap.size ≤ k) ∧ k < w'.heap.size:=by
   rintro e a1 u1 he ⟨Hd, fpd, hd⟩
   have hl1:=(hd.boxes _ (List.mem_cons_self ..)).1
   have hrun:=run_endRound (P:=P) e hl1
   have hrecE:({ ({ rec0 with state:=.busy }:Loop) with state:=if e.isNone then .ready else .done, pending:=e }:Loop) = recS (pre ++ [x]):=by
    cases e with
    | none =>
     have:recS (pre ++ [x]) = rec0:=if_neg (by rw [he]; simp)
     rw [this]
     obtain ⟨g1, g2, _⟩:=hrec0
     cases hq:rec0
     rw [hq] at g1 g2
     dsimp only at g1 g2 ⊢
     rw [g1, g2]; rfl
    | some c =>
     have:recS (pre ++ [x]) = { rec0 with state:=.done, pending:=some (jc (pre ++ [x])) }:=if_pos he.1
     rw [this, he.2]; rfl
   rw [hrecE] at hrun
   have hv:(e.isNone) = !stop (pre ++ [x]):=by
    cases e with
    | none => rw [he]; rfl
    | some c => rw [he.1]; rfl
   refine ⟨_, _, hrun, by rw [hv], ?_⟩
   have hd2:=hd.boxSet (O1:=[]) (ds:=[]) (a':=a1) (Chg.putObj (o:=.loop (recS (pre ++ [x]))) (zaa hl1)) (List.Sublist.refl _) (by simp) rfl hd.defers
   generalize u1.putObj (u.heap.size + 1) (.loop (recS (pre ++ [x]))) = u2 at hd2 ⊢
   have hd2':HasH Fr' Hc (O' (pre ++ [x])) n (ofL (gK' (G (pre ++ [x])))) a1 u2 Hd fpd:=hd2
   have hOg:∀ y ∈ O' (pre ++ [x]), (w0.heap.size ≤ y.1 ∨ Lf y.1) ∧ y.1 < w1.heap.size:=fun y hy => by
    obtain ⟨y', hy', hyy⟩:=hO'mem pre _ y hy
    rw [← hyy]
    exact ⟨(hc.boxes y' (by rw [← hOp]; exact hy')).2.2, c3 y' hy'⟩
   have hfull:HasH F1 B (O' (pre ++ [x])) n (KK fx (G (pre ++ [x]))) a0 u2 Hd fpd:=by
    refine ⟨hh.size, rfl, List.nodup_nil, (fun _ h => by cases h), hc.lent, hc.keep.trans hd2'.keep fun i hi hci => ?_, hd2'.sub, hBc.trans hd2'.base, fun k hk hlk => ?_, fun y hy => ⟨(hd2'.boxes y hy).1, (hd2'.boxes y hy).2.1, (hOg y hy).1⟩, hd2'.apart, fun t k hk => ?_, fun s t r r' hst h1 h2 => ?_, fun t k hk => ?_⟩
    ·rcases (hCrC i hci).2.2 with h | h
     ·exact absurd hi (by show ¬ (i < w0.heap.size); omega)
     ·exact h
    ·refine (hd2'.fresh k (Nat.lt_of_lt_of_le hk hc.keep.size) fun hcr => ?_).trans (hc.fresh k hk hlk)
     rcases (hCrC k hcr).2.2 with h | h
     ·exact absurd hk (by show ¬ (k < w0.heap.size); omega)
     ·exact hlk h
    ·rcases zj8 (hG _) hk with ⟨hnt, hgk, r, rfl⟩ | ⟨hfk, _, z, rfl⟩
     ·have hs:=hd2'.slot t _ hgk
      have e1:a0.eval (.tmp t) = a1.eval (.tmp t):=(zok (a:=a0) (n:=n) hh.size hnt).trans (zok hd2'.size hnt).symm
      rw [e1]
      refine ⟨hs.1, fun k hf => ?_⟩
      obtain ⟨g1, g2, g3, g4⟩:=hs.2 k hf
      refine ⟨g1, g2, ?_, g4⟩
      rcases g3 with g3 | g3
      ·exact .inl (Nat.le_trans hc.keep.size g3)
      ·exact (hCrC k g3).2.2
     ·exact hfix t _ hfk z rfl
    ·exact hd2'.owns s t r r' hst (zjd (hG _) h1) (zjd (hG _) h2)
    ·rcases zj8 (hG _) hk with ⟨_, _, r, rfl⟩ | ⟨_, _, z, rfl⟩ <;> trivial
   have hHd:Hc.Le Hd:=hd2'.base
   refine ⟨fun k => (k < w1.heap.size ∧ H k = none ∧ ¬ fp gi k) ∨ (w1.heap.size ≤ k ∧ ((Hd k).isSome = true ∨ ∃ t r, KK fx (G (pre ++ [x])) t = some (.own r) ∧ fpd t k)),
    ⟨Hd, fpd, hfull, c1.trans hHd, c2, fun y hy => (hOg y hy).2, Nat.le_trans c4 hd2'.keep.size, c5, fun k hk => ⟨(x1 k hk).1, (x1 k hk).2.1, (hd2'.fresh k (Nat.lt_of_lt_of_le (x1 k hk).1 c4) fun hcr => hCrg k hcr hk).trans (x1 k hk).2.2⟩, hOg0 _, fun t r k ht hf hg => by
     rcases ((hd2'.slot t _ (zjd (hG _) ht)).2 k hf).2.2.1 with g | g
     ·have h7:=hCg1 k hg
      have h8:v.heap.size ≤ k:=g
      omega
     ·exact hCrg k g hg, fun _ => Iff.rfl⟩, hd2'.keep.weak fun k _ hk => (hCrC k hk).1, fun k hk => ?_⟩
   rcases hk with ⟨h1, h2, h2g⟩ | ⟨h1, h2 | ⟨t, r, ht, hf⟩⟩
   ·exact ⟨.inl ((c6 k).2 (.inl ⟨h1, h2, h2g⟩)), Nat.lt_of_lt_of_le h1 (Nat.le_trans c4 hd2'.keep.size)⟩
   ·obtain ⟨o, ho⟩:=Option.isSome_iff_exists.1 h2
    refine ⟨?_, hd2'.sub.size ho⟩
    rcases Nat.lt_or_ge k v.heap.size with hlt | hge
    ·by_cases hcr:Cr k
     ·exact .inl (hCrC k hcr).1
     ·refine .inl ((c6 k).2 (.inr ⟨h1, .inl ?_⟩))
      rw [← hd2'.fresh k hlt hcr, ho]; rfl
    ·exact .inr hge
   ·have hs:=(hd2'.slot t _ (zjd (hG _) ht)).2 k hf
    refine ⟨?_, hs.1⟩
    rcases hs.2.2.1 with g | g
    ·exact .inr g
    ·exact .inl (hCrC k g).1
  refine Go.wpIn_mono (hassign v Cr Hc (u.heap.size + 1) u.heap.size (.loop rec0) pre x hpre hstp hBc _ v ⟨Hc, fpc, hr1⟩) fun e1 a1 u1 he1 => ?_
  cases e1 with
  | normal =>
   obtain ⟨Ha, fpa, ha⟩:=he1
   have hl1:=(ha.boxes _ (List.mem_cons_self ..)).1
   refine ⟨_, run_beginRound (P:=P) hl1 hrec0.1, ?_⟩
   have ha2:=ha.boxSet (O1:=[]) (ds:=[]) (a':=a1) (Chg.putObj (o:=.loop { rec0 with state:=.busy }) (zaa hl1)) (List.Sublist.refl _) (by simp) rfl ha.defers
   refine Go.wpIn_mono (hbody v Cr Hc (u.heap.size + 1) u.heap.size (.loop { rec0 with state:=.busy }) pre x hpre hstp hBc a1 _ ⟨Ha, fpa, ha2⟩) fun e2 a2 u2 he2 => ?_
   cases e2 with
   | normal => exact fin none a2 u2 he2.1 he2.2
   | ret => exact fin (some .ret) a2 u2 ⟨he2.1, he2.2.1⟩ he2.2.2
   | exit id => exact fin (some (.exit id)) a2 u2 ⟨he2.1, he2.2.1⟩ he2.2.2
   | goto l => exact he2.elim
   | panic c => exact he2.elim
   | outgrown => exact he2.elim
  | exit id => exact he1.elim
  | goto l => exact he1.elim
  | ret => exact he1.elim
  | panic c => exact he1.elim
  | outgrown => exact he1.elim
 -- the call
 have hB1:B.Le H:=hh.base
 have hcall:=hit w1 H hstart.sub hB1 (u.heap.size + 1) J stop C0 (fp gi) hst0 hY hJ0 hC0 (hh1.slot gi _ hgi).1 (fun k hk => ⟨hCg1 k hk, (hCg k hk).2.1⟩) (fun k hk hg => by
  rcases hk with h | ⟨h1, _⟩
  ·exact h.2.2 hg
  ·have:=hCg1 k hg; omega)
 have hel:=run_enterLoop_outer (P:=P) (w:=u) fn a.tmps params assign body
 rw [hrec, hw1] at hel
 refine ⟨u.heap.size + 1, [z2g (.m u.heap.size)], w1, ⟨.fn (.func gf) caps.toArray, #[] ++ #[.func (.yield (u.heap.size + 1)) #[] #[]]⟩, w1, gf, (.func (.yield (u.heap.size + 1)) #[] #[] :: caps).toArray, w1, hel, ?_, fun _ _ => trivial, ?_, fun h => (by cases h), ?_⟩
 ·have hcv:a.eval (.const (.func (.yield (u.heap.size + 1)) #[] #[])) = .func (.yield (u.heap.size + 1)) #[] #[]:=rfl
  simp [resolve, rangeCall, hfe, Deferred.ofValue, hcv]
 ·simp only [invoke]
  rw [zdu L hfn]
  simp
 ·refine FW.call none _ (Calls.mono hcall fun e3 u3 hp => ?_)
  obtain ⟨z, rfl, H3, g3, C3, ⟨Hc, fpc, hc, c1, c2, c3, c4, c5, x1, x2, x3, c6⟩, _⟩:=hp
  generalize htk:za7 stop [] xs = tk at hc c3 hdone hstop c6
  have hl3:u3.heap[u.heap.size + 1]? = some (.loop (recS tk)):=(hc.boxes _ (List.mem_cons_self ..)).1
  have hnb:(recS tk).state ≠ .busy:=by
   show (if stop tk = true then ({ rec0 with state:=.done, pending:=some (jc tk) }:Loop) else rec0).state ≠ .busy
   split
   ·simp
   ·rw [hrec0.1]; simp
  have hpend:(recS tk).pending = if stop tk = true then some (jc tk) else none:=by
   show (if stop tk = true then ({ rec0 with state:=.done, pending:=some (jc tk) }:Loop) else rec0).pending = _
   split
   ·rfl
   ·exact hrec0.2.1
  refine ⟨_, _, run_endLoop hl3 hnb, ?_⟩
  have hc2:=hc.boxSet (O1:=[]) (ds:=[]) (a':=a0) (Chg.putObj (o:=.loop { recS tk with state:=.exhausted }) (zaa hl3)) (List.Sublist.refl _) (by simp) rfl rfl
  have hDn:DM.m u.heap.size ∉ ds:=fun hm => by
   have:=zaa (hh.boxes _ (hh.marks _ hm)).1
   exact absurd this (Nat.lt_irrefl _)
  have hfin:HasH ⟨w0, none, .m u.heap.size :: ds, Lf⟩ B ((u.heap.size + 1, .loop { recS tk with state:=.exhausted }) :: (u.heap.size, .deferred (some [])) :: O) n (KK fx (G tk)) { a with defers:=[z2g (.m u.heap.size)] ++ a.defers } (u3.putObj (u.heap.size + 1) (.loop { recS tk with state:=.exhausted })) Hc fpc :=
   ⟨hc2.size, by have:=hh.defers; dsimp only at this ⊢; rw [this]; rfl, List.nodup_cons.2 ⟨hDn, hh.nodup⟩, fun D hD => by
    rcases List.mem_cons.1 hD with e | hD
    ·cases e; exact List.mem_cons_of_mem _ (List.mem_cons_self ..)
    ·exact List.mem_cons_of_mem _ (List.mem_cons_of_mem _ (hh.marks D hD)), hc2.lent, hc2.keep, hc2.sub, hc2.base, hc2.fresh, hc2.boxes, hc2.apart, hc2.slot, hc2.owns, hc2.mono⟩
  generalize (Obj.loop { recS tk with state:=.exhausted }) = rx at hfin ⊢
  rw [hpend]
  cases hs:stop tk with
  | false =>
   simp only [Bool.false_eq_true, if_false]
   exact hdone _ _ _ hs _ _ ⟨Hc, fpc, hfin⟩
  | true =>
   simp only [if_true]
   exact hstop _ _ _ hs _ _ ⟨Hc, fpc, hfin⟩
end
end Go.V
set_option maxRecDepth 20000
namespace Go.V.L11
open Go.Proofs Go.RowKit Go.V Go.V.L2 Go.V.L4
theorem _root_.Go.V.Zdp {A B:Prop} (h:B) (t:Wr B → A:=by intro h; refine qy (ql L (q:=78) rfl rfl rfl rfl rfl rfl) ?_;exact h.h):A:=t ⟨h⟩
theorem _root_.Go.V.ZfJ {A B:Prop} (h:B) (t:Wr B → A:=by intro h; refine yj (ql L (q:=78) rfl rfl rfl rfl rfl rfl) rfl rfl ?_;exact h.h):A:=t ⟨h⟩
abbrev zpb:Nat:=9
abbrev zce (l:List ByteArray):zbi:=l.map fun x => [Value.string x]
theorem z6j {c:UInt8}:∀ {l:List UInt8}, c ∉ l → Lib.indexByte l c = -1
 | [], _ => rfl
 | x :: l, h => by
  rw [List.mem_cons, not_or] at h
  unfold Lib.indexByte
  rw [if_neg (by simpa using Ne.symm h.1), z6j h.2]
  rfl
theorem z2h {c:UInt8} {q:List UInt8}:∀ {p:List UInt8}, c ∉ p → Lib.indexByte (p ++ c :: q) c = (p.length:Int)
 | [], _ => by
  show Lib.indexByte (c :: q) c = 0
  unfold Lib.indexByte
  rw [if_pos (by simp)]
 | x :: p, h => by
  rw [List.mem_cons, not_or] at h
  show Lib.indexByte (x :: (p ++ c :: q)) c = _
  unfold Lib.indexByte
  rw [if_neg (by simpa using Ne.symm h.1), z2h h.2, if_neg (by simp)]
  rfl
attribute [local irreducible] V N X VO Par StepOK Has Ret RetL RetO RetT zbd RetX RetY Src
theorem zhs {s:ByteArray} {k:Int} (hk:Lib.indexByte s.data.toList 10 = k) {w:World} {B:Heap} (hB:B.Le (hp w)) :
  Ret Tryz.prog 258 [.string s, .int .u8 10] w B (fun v _ => v = .int .i64 k):=by
 subst hk
 exact Ret.of_same hB (Tryz.strings_IndexByte s 10 w)
theorem zt3 {s r:ByteArray} {f:Bool} (hs:s.size ≤ 9223372036854775807) (h:Lib.hasSuffix s.data.toList [10] = f) (hr:(⟨(Lib.trimSuffix s.data.toList [10]).toArray⟩:ByteArray) = r) {w:World} {B:Heap} (hB:B.Le (hp w)) :
  Ret Tryz.prog 130 [.string s, .string ⟨#[10]⟩] w B (fun v _ => v = .tuple #[.string r, .bool f]):=by
 subst h hr
 exact Ret.of_same hB (Tryz.strings_CutSuffix s ⟨#[10]⟩ w hs)
theorem zl7 {stop:zbi → Bool} {x:List Value} {xs pre:zbi} (h:stop (pre ++ [x]) = false):za7 stop pre (x :: xs) = za7 stop (pre ++ [x]) xs:=by
 simp only [za7]
 rw [if_neg (by rw [h]; decide)]
theorem zpg {stop:zbi → Bool} {x:List Value} {xs pre:zbi} (h:stop (pre ++ [x]) = true):za7 stop pre (x :: xs) = pre ++ [x]:=by
 simp only [za7]
 rw [if_pos h]
theorem z0a {r:ByteArray} (h:r ≠ ⟨#[]⟩):0 < r.size:=by
 rcases Nat.eq_zero_or_pos r.size with h0 | h0
 ·exfalso
  apply h
  apply zb0
  have:=za6 r
  rw [h0] at this
  exact List.eq_nil_of_length_eq_zero this
 ·exact h0
set_option maxHeartbeats 1000000 in
theorem zz9 {s:ByteArray} (hs:s.size ≤ 1099511627776) {b:Nat} {w:World} {B:Heap} (hB:B.Le (hp w)):z7d Tryz.prog 257 [zam b] (zai b [.string s] zpb) w B (zce (zel s)):=by
 intro ly J stop C Cg hst hY hJ hC hg hCg hd
 refine zaf 77 (zdz (J []) (zai b [.string s] zpb)) Tryz.func257 rfl Tryz.ntmps257 (Nat.le_of_ble_eq_true rfl) hB ⟨C, Cg, hJ, hg, fun _ => Iff.rfl, hd⟩ (fun k hk => hk.elim (hC k) (hCg k)) ?_
 rw [zcx]
 refine zc7 77 78 rfl (fun _ _ _ _ _ h => h) ?_
 rw [zac]
 refine qm ?_
 refine zao (fun x:List ByteArray × ByteArray => [(0, .is (.func (.yield ly) #[] #[])), (1, .is (zam b)), (77, .own (J (zce x.1)).res), (78, .own (zaj b [.string x.2] zpb))])
  (fun x => zce x.1 ++ zce (zel x.2) = zce (zel s) ∧ za7 stop [] (zce (zel s)) = za7 stop (zce x.1) (zce (zel x.2)) ∧ stop (zce x.1) = false ∧ x.2.size ≤ s.size) (fun x => x.2.size) ([], s) ⟨rfl, rfl, hst, Nat.le_refl _⟩ ⟨rfl, rfl, rfl, rfl, trivial⟩ ?_
 rintro ⟨pre, r⟩ ⟨h1, h2, h3, h4⟩
 dsimp only at h1 h2 h3 h4 ⊢
 by_cases hr:r = ⟨#[]⟩
 ·subst hr
  have h0:(⟨#[]⟩:ByteArray).size = 0:=rfl
  rw [zoa] at h2
  refine Zh ?_;refine Zef ?_;refine Zdp ?_;refine ZH ?_;refine ZS ?_;refine Zat ?_;refine Zdr ?_
  refine za9 (r:=J (zce pre)) (r':=J (za7 stop [] (zce (zel s)))) L 77 rfl (fun _ _ h => h) Since.refl rfl (by rw [h2]; rfl)
 ·have hp0:=z0a hr
  rcases zii r 10 with hn | ⟨a, c, hac, hn⟩
  ·have e1:=z35 hn hr
   rw [e1] at h1 h2
   have hi:=z6j hn
   have hpre:zce pre ++ [[Value.string r]] <+: zce (zel s):=by rw [← h1]; exact List.prefix_rfl
   cases hb':stop (zce pre ++ [[Value.string r]])
   ·refine Zh ?_;refine Zef ?_;refine Zdp ?_;refine ZH ?_;refine Z2 ?_;refine ZbJ ?_;refine Zx ?_;refine Zb4 ?_;refine Zdp ?_;refine z7 (q0 L rfl rfl (zn rfl) rfl rfl rfl (fun u H hH _ _ => zhs hi hH)) rfl ?_;refine Zd ?_;refine Zs ?_;refine Zaz ?_;refine Zat ?_;refine Zn ?_;refine Zdp ?_;refine Zq ?_;refine ym (yf L (q:=78) (cs':=[.string ⟨#[]⟩]) rfl rfl rfl rfl rfl rfl rfl rfl rfl) ?_;refine Zj ?_;refine ZN ?_;refine Zc ?_;refine qe (zcz (gs:=77) hY hpre h3 (congrArg Bool.not hb') rfl rfl rfl rfl rfl) ?_;refine Zp ?_;refine Zbc ?_;refine yd ?_
    refine yl (x:=(pre, r)) (pre ++ [r], ⟨#[]⟩) ⟨?_, ?_, ?_, Nat.zero_le _⟩ hp0 ⟨rfl, rfl, ?_, rfl, trivial⟩
    ·rw [zoa, ← h1]; simp [zce]
    ·rw [h2, zoa]
     show za7 stop (zce pre) [[Value.string r]] = za7 stop (zce (pre ++ [r])) []
     rw [zl7 hb']; simp [zce]
    ·have:zce (pre ++ [r]) = zce pre ++ [[Value.string r]]:=by simp [zce]
     rw [this]; exact hb'
    ·have:zce (pre ++ [r]) = zce pre ++ [[Value.string r]]:=by simp [zce]
     dsimp only
     rw [this]; rfl
   ·refine Zh ?_;refine Zef ?_;refine Zdp ?_;refine ZH ?_;refine Z2 ?_;refine ZbJ ?_;refine Zx ?_;refine Zb4 ?_;refine Zdp ?_;refine z7 (q0 L rfl rfl (zn rfl) rfl rfl rfl (fun u H hH _ _ => zhs hi hH)) rfl ?_;refine Zd ?_;refine Zs ?_;refine Zaz ?_;refine Zat ?_;refine Zn ?_;refine Zdp ?_;refine Zq ?_;refine ym (yf L (q:=78) (cs':=[.string ⟨#[]⟩]) rfl rfl rfl rfl rfl rfl rfl rfl rfl) ?_;refine Zj ?_;refine ZN ?_;refine Zc ?_;refine qe (zcz (gs:=77) hY hpre h3 (congrArg Bool.not hb') rfl rfl rfl rfl rfl) ?_;refine Zp ?_;refine Z9 ?_
    exact zcn L 77 rfl (fun _ _ h => h) Since.refl rfl (by rw [h2]; show _ = J (za7 stop (zce pre) [[Value.string r]]); rw [zpg hb'])
  ·have e1:zel r = (a ++ sNl) :: zel c:=by rw [hac]; exact z0y hn
   have hra:r.size = a.size + 1 + c.size:=by rw [hac, ByteArray.size_append, ByteArray.size_append]; rfl
   have hi:Lib.indexByte r.data.toList 10 = (a.size:Int):=by
    rw [hac, zaz, zaz, List.append_assoc]
    show Lib.indexByte (a.data.toList ++ 10 :: c.data.toList) 10 = _
    rw [z2h hn, za6]
   have x1:r.extract 0 (a.size + 1) = a ++ sNl:=by
    have:=zfn ⟨#[]⟩ (a ++ sNl) c 0 (a.size + 1) rfl (by rw [ByteArray.size_append]; show _ = 0 + (a.size + 1); omega)
    rw [hac]
    rw [show (a ++ ⟨#[10]⟩ ++ c:ByteArray) = ⟨#[]⟩ ++ (a ++ sNl) ++ c from zb0 (by simp [zaz])]
    exact this
   have x2:r.extract (a.size + 1) r.size = c:=by
    have:=zfn (a ++ sNl) c ⟨#[]⟩ (a.size + 1) r.size (by rw [ByteArray.size_append]; rfl) (by rw [ByteArray.size_append]; exact hra)
    rw [show (a ++ sNl ++ c ++ ⟨#[]⟩:ByteArray) = r from zb0 (by rw [hac]; simp [zaz])] at this
    exact this
   rw [e1] at h1 h2
   have hpre:zce pre ++ [[Value.string (a ++ sNl)]] <+: zce (zel s):=by
    rw [← h1]
    exact ⟨zce (zel c), by simp [zce]⟩
   cases hb':stop (zce pre ++ [[Value.string (a ++ sNl)]])
   ·refine Zh ?_;refine Zef ?_;refine Zdp ?_;refine ZH ?_;refine Z2 ?_;refine ZbJ ?_;refine Zx ?_;refine Zb4 ?_;refine Zdp ?_;refine z7 (q0 L rfl rfl (zn rfl) rfl rfl rfl (fun u H hH _ _ => zhs hi hH)) rfl ?_;refine Zd ?_;refine Zs ?_;refine ZcE ?_;refine qh (id:=4) [(200012, [78]), (200016, [78]), (100001, [78])] mixed (by kernel_rfl) ?_;refine ZfJ ?_;refine Zi ?_;refine ZcN ?_;refine zd (za2 L (kl:=.i64) (pl:=0) 0 (a.size + 1) rfl rfl rfl rfl rfl ⟨rfl, by omega⟩ (by omega) (by omega) x1) rfl ?_;refine ZfJ ?_;refine Zi ?_;refine ZcN ?_;refine zd (za2 L (kh:=.i64) (ph:=0) (a.size + 1) _ rfl rfl rfl rfl ⟨rfl, by omega⟩ rfl (by omega) (by omega) x2) rfl ?_;refine Za5 ?_;refine zcu (yf L (q:=78) (cs':=[.string c]) rfl rfl rfl rfl rfl rfl rfl rfl rfl) rfl ?_;refine Zbu ?_;refine zj ?_;refine ZN ?_;refine Zc ?_;refine qe (zcz (gs:=77) hY hpre h3 (congrArg Bool.not hb') rfl rfl rfl rfl rfl) ?_;refine Zp ?_;refine Zbc ?_;refine yd ?_
    have e3:zce (pre ++ [a ++ sNl]) = zce pre ++ [[Value.string (a ++ sNl)]]:=by simp [zce]
    refine yl (x:=(pre, r)) (pre ++ [a ++ sNl], c) ⟨?_, ?_, ?_, ?_⟩ ?_ ⟨rfl, rfl, ?_, rfl, trivial⟩
    ·rw [← h1]; simp [zce]
    ·rw [h2]
     show za7 stop (zce pre) ([Value.string (a ++ sNl)] :: zce (zel c)) = _
     rw [zl7 hb', e3]
    ·rw [e3]; exact hb'
    ·dsimp only; omega
    ·dsimp only; omega
    ·dsimp only
     rw [e3]; rfl
   ·refine Zh ?_;refine Zef ?_;refine Zdp ?_;refine ZH ?_;refine Z2 ?_;refine ZbJ ?_;refine Zx ?_;refine Zb4 ?_;refine Zdp ?_;refine z7 (q0 L rfl rfl (zn rfl) rfl rfl rfl (fun u H hH _ _ => zhs hi hH)) rfl ?_;refine Zd ?_;refine Zs ?_;refine ZcE ?_;refine qh (id:=4) [(200012, [78]), (200016, [78]), (100001, [78])] mixed (by kernel_rfl) ?_;refine ZfJ ?_;refine Zi ?_;refine ZcN ?_;refine zd (za2 L (kl:=.i64) (pl:=0) 0 (a.size + 1) rfl rfl rfl rfl rfl ⟨rfl, by omega⟩ (by omega) (by omega) x1) rfl ?_;refine ZfJ ?_;refine Zi ?_;refine ZcN ?_;refine zd (za2 L (kh:=.i64) (ph:=0) (a.size + 1) _ rfl rfl rfl rfl ⟨rfl, by omega⟩ rfl (by omega) (by omega) x2) rfl ?_;refine Za5 ?_;refine zcu (yf L (q:=78) (cs':=[.string c]) rfl rfl rfl rfl rfl rfl rfl rfl rfl) rfl ?_;refine Zbu ?_;refine zj ?_;refine ZN ?_;refine Zc ?_;refine qe (zcz (gs:=77) hY hpre h3 (congrArg Bool.not hb') rfl rfl rfl rfl rfl) ?_;refine Zp ?_;refine Z9 ?_
    exact zcn L 77 rfl (fun _ _ h => h) Since.refl rfl (by rw [h2]; show _ = J (za7 stop (zce pre) ([Value.string (a ++ sNl)] :: zce (zel c))); rw [zpg hb'])
end Go.V.L11
set_option maxRecDepth 20000
namespace Go.V.L11
open Go.Proofs Go.RowKit Go.V Go.V.L2 Go.V.L4
theorem _root_.Go.V.ZdI {A B:Prop} (h:B) (t:Wr B → A:=by intro h; refine qm ?_;refine Zh ?_;exact h.h):A:=t ⟨h⟩
def zdq:Nat → zbi → zbi
 | _, [] => []
 | n, x :: xs => (Value.int .i64 (n:Int) :: x) :: zdq (n + 1) xs
theorem zjs:∀ {a b:zbi} {n:Nat}, zdq n (a ++ b) = zdq n a ++ zdq (n + a.length) b
 | [], b, n => rfl
 | x :: a, b, n => by
  show _ :: zdq (n + 1) (a ++ b) = _
  rw [zjs, List.length_cons, show n + 1 + a.length = n + (a.length + 1) by omega]
  rfl
theorem zk6 (a:zbi) (x:List Value):zdq 1 (a ++ [x]) = zdq 1 a ++ [Value.int .i64 ((a.length + 1:Nat):Int) :: x]:=by
 rw [zjs, Nat.add_comm 1]; rfl
theorem zkl (stop:zbi → Bool):∀ (xs pre:zbi), zdq 1 (za7 (fun p => stop (zdq 1 p)) pre xs) = za7 stop (zdq 1 pre) (zdq (1 + pre.length) xs)
 | [], pre => rfl
 | x :: xs, pre => by
  have e:zdq 1 (pre ++ [x]) = zdq 1 pre ++ [Value.int .i64 ((1 + pre.length:Nat):Int) :: x]:=by rw [zjs]; rfl
  show zdq 1 (if stop (zdq 1 (pre ++ [x])) = true then _ else _) = (if stop (zdq 1 pre ++ [Value.int .i64 ((1 + pre.length:Nat):Int) :: x]) = true then _ else _)
  rw [← e]
  split
  ·rfl
  ·rw [zkl stop xs (pre ++ [x]), List.length_append]; rfl
theorem zy2 {l:List ByteArray} {pre:zbi} {x:List Value} (h:pre ++ [x] <+: zce l):∃ y, x = [Value.string y]:=by
 have:x ∈ zce l:=h.subset (by simp)
 obtain ⟨y, _, e⟩:=List.mem_map.1 this
 exact ⟨y, e.symm⟩
theorem zn9:∀ {l acc:List UInt8}, (zvv acc l).length ≤ l.length + (if acc = [] then 0 else 1)
 | [], acc => by
  show (if acc = [] then ([]:List (List UInt8)) else [acc]).length ≤ _
  split <;> simp
 | c :: l, acc => by
  show (if c = 10 then (acc ++ [c]) :: zvv [] l else zvv (acc ++ [c]) l).length ≤ _
  split
  ·have:=zn9 (l:=l) (acc:=[])
   rw [if_pos rfl] at this
   simp only [List.length_cons]
   split <;> omega
  ·have:=zn9 (l:=l) (acc:=acc ++ [c])
   rw [if_neg (by simp)] at this
   simp only [List.length_cons]
   split <;> omega
theorem zhp (s:ByteArray):(zel s).length ≤ s.size:=by
 unfold zel
 rw [List.length_map]
 have:=zn9 (l:=s.data.toList) (acc:=[])
 rw [if_pos rfl, za6] at this
 exact this
def cnS (stop:zbi → Bool) (pre:zbi):Int:=if stop (zdq 1 pre) = true then (pre.length:Int) else ((pre.length + 1:Nat):Int)
theorem zy5 {stop:zbi → Bool} {pre:zbi} (h:stop (zdq 1 pre) = false):cnS stop pre = ((pre.length + 1:Nat):Int):=if_neg (by rw [h]; decide)
theorem z1b {stop:zbi → Bool} {pre:zbi} (h:stop (zdq 1 pre) = true):cnS stop pre = (pre.length:Int):=if_pos h
attribute [local irreducible] V N X VO Par StepOK Has Ret RetL RetO RetT zbd RetX RetY Src
theorem zuu {s:ByteArray} {w:World} {B:Heap} (hB:B.Le (hp w)) :
  RetO Tryz.prog 199 [.string s] w B (z1u (fun b:Nat => .func (.func 257) #[] #[zam b]) fun b => zai b [.string s] zpb):=by
 refine zcd Tryz.func199 rfl Tryz.ntmps199 (Nat.le_of_ble_eq_true rfl) hB ?_
 refine ZZ ?_;refine Zd ?_
 refine zax 1 900 rfl fun b => ?_
 refine Zx ?_;refine ZaQ ?_;refine Zb ?_
 exact zzh L 900 (r0:=zai b [.string s] zpb) (v:=.func (.func 257) #[] #[zam b]) (rs:=[.tmp 2]) rfl (fun _ _ h => h) Since.refl rfl (fun _ => rfl) (fun H u C hle _ hr => ⟨b, rfl, hr⟩)
set_option maxHeartbeats 1000000 in
theorem zlc {s:ByteArray} (hs:s.size ≤ 1099511627776) {sb:Nat} {w:World} {B:Heap} (hB:B.Le (hp w)) (hb:B sb = some (.cells #[.string s] zpb)):z7l Tryz.prog 198 [zam sb] w B (zdq 1 (zce (zel s))):=by
 intro ly J stop C hst hY hJ hC
 refine zaf 77 (J []) Tryz.func198 rfl Tryz.ntmps198 (Nat.le_of_ble_eq_true rfl) hB hJ hC ?_
 refine ZZ ?_;refine Zj ?_
 refine zax 2 81 rfl fun yb => ?_
 refine zei 81 rfl fun H1 hs1 _ hyb => ?_
 refine Zx ?_;refine ZdE ?_
 refine zax 3 79 rfl fun nb => ?_
 have hb1:=hs1.le _ _ hb
 refine Zy ?_;refine z7 (q6 L (qn rfl hb1) rfl rfl rfl rfl) rfl ?_;refine z7 (zbz L rfl rfl (zn rfl) rfl rfl rfl (fun u H hH _ _ => zuu hH)) rfl ?_;refine Zcg ?_
 refine z1r 6 80 rfl fun b => ?_
 refine zq4 L 80 (gr:=zai b [.string s] zpb) (gf:=257) (caps:=[zam b]) [(2, zam yb), (3, zam nb)]
  (fun pre => [(77, (J (zdq 1 pre)).res), (79, zaj nb [.int .i64 (cnS stop pre)] 3)])
  (fun pre x => [(77, .own (J (zdq 1 pre)).res), (79, .own (zaj nb [.int .i64 ((pre.length + 1:Nat):Int)] 3)), (2, .is (zam yb)), (3, .is (zam nb)), (4, .is (x.headD undef))])
  (zce (zel s)) (fun p => stop (zdq 1 p)) (fun _ => .ret) rfl rfl rfl rfl
  (fun pre p hp => by simp only [List.mem_cons, List.mem_singleton, List.not_mem_nil, or_false] at hp; rcases hp with rfl | rfl <;> exact Nat.ne_of_beq_eq_false rfl) ⟨rfl, by rw [zy5 hst]; rfl, rfl, rfl, trivial⟩
  (fun pre p hp => by simp only [List.mem_cons, List.mem_singleton, List.not_mem_nil, or_false] at hp; rcases hp with rfl | rfl <;> exact Nat.le_of_ble_eq_true rfl) hst (fun x hx => by obtain ⟨y, _, rfl⟩:=List.mem_map.1 hx; rfl) (by decide)
  (fun u H hH hle => zz9 hs hH) ?asg ?bd ?dn ?st
 case asg =>
  intro w1 Ln B' l' D' o pre x' hpre hstp hBB
  obtain ⟨y, rfl⟩:=zy2 hpre
  refine Zk ?_;refine ZI ?_
  exact zvr Since.refl ⟨rfl, by rw [← zy5 hstp]; rfl, rfl, rfl, rfl, trivial⟩
 case bd =>
  intro w1 Ln B' l' D' o pre x' hpre hstp hBB
  have hlen:=hpre.length_le
  obtain ⟨y, rfl⟩:=zy2 hpre
  have hll:=zhp s
  simp only [List.length_append, List.length_map, List.length_cons, List.length_nil] at hlen
  have hyb2:=hBB _ _ hyb
  have hpre':zdq 1 pre ++ [[Value.int .i64 ((pre.length + 1:Nat):Int), Value.string y]] <+: zdq 1 (zce (zel s)):=by
   obtain ⟨t, ht⟩:=hpre
   rw [← ht, zjs, zk6]
   exact List.prefix_append _ _
  have hwk:IntKind.i64.wrap (((pre.length + 1:Nat):Int) + 1) = ((pre.length + 1 + 1:Nat):Int):=zad (by omega) (by omega)
  have e3:zdq 1 (pre ++ [[Value.string y]]) = zdq 1 pre ++ [[Value.int .i64 ((pre.length + 1:Nat):Int), Value.string y]]:=zk6 _ _
  have hpl:(pre ++ [[Value.string y]]).length = pre.length + 1:=by simp
  cases hb':stop (zdq 1 pre ++ [[Value.int .i64 ((pre.length + 1:Nat):Int), Value.string y]])
  ·refine ZdI ?_;refine Zr ?_;refine z7 (q6 L (qn rfl hyb2) rfl rfl rfl rfl) rfl ?_;refine qy (ql L (q:=79) rfl rfl rfl rfl rfl rfl) ?_;refine Za ?_;refine qe (zcz (gs:=77) hY hpre' hstp (congrArg Bool.not hb') rfl rfl rfl rfl rfl) ?_;refine Zp ?_;refine Zeh ?_;refine Zn ?_;refine qy (ql L (q:=79) rfl rfl rfl rfl rfl rfl) ?_;refine Zak ?_;refine ym (yf L (q:=79) (cs':=[.int .i64 ((pre.length + 1 + 1:Nat):Int)]) rfl rfl rfl rfl rfl rfl rfl rfl rfl) ?_;refine zk ?_;refine yd ?_
   exact zvs Since.refl (by rw [e3]; exact hb') ⟨by rw [e3]; rfl, by rw [zy5 (by rw [e3]; exact hb'), hpl]; rfl, trivial⟩
  ·refine ZdI ?_;refine Zr ?_;refine z7 (q6 L (qn rfl hyb2) rfl rfl rfl rfl) rfl ?_;refine qy (ql L (q:=79) rfl rfl rfl rfl rfl rfl) ?_;refine Za ?_;refine qe (zcz (gs:=77) hY hpre' hstp (congrArg Bool.not hb') rfl rfl rfl rfl rfl) ?_;refine Zp ?_;refine Z9 ?_
   exact zh6 (zlv (zfo (zow Since.refl (by rw [e3]; exact hb') rfl ⟨by rw [e3]; rfl, by rw [z1b (by rw [e3]; exact hb'), hpl]; rfl, trivial⟩)))
 case st =>
  intro l' D' o hstop
  exact zcn L 77 rfl (fun _ _ h => h) hs1 rfl (by rw [zkl]; rfl)
 case dn =>
  intro l' D' o hgo
  exact za9 L 77 rfl (fun _ _ h => h) hs1 rfl (by rw [zkl]; rfl)
def LinAt (s:ByteArray) (v:Value) (H:Heap):Prop:=∃ b, v = .func (.func 198) #[] #[zam b] ∧ H b = some (.cells #[.string s] zpb)
theorem LinAt.mono {s:ByteArray}:Kn.mono (.sat (LinAt s)):=fun _ _ _ ⟨b, h1, h2⟩ hle => ⟨b, h1, hle _ _ h2⟩
theorem zqj {s:ByteArray} {w:World} {B:Heap} (hB:B.Le (hp w)):Ret Tryz.prog 129 [.string s] w B (LinAt s):=by
 refine qu Tryz.func129 rfl Tryz.ntmps129 (Nat.le_of_ble_eq_true rfl) hB ?_
 refine ZZ ?_;refine Zd ?_
 refine zax 1 900 rfl fun b => ?_
 refine zei 900 rfl fun H1 hs1 _ hyb => ?_
 refine Zx ?_;refine ZaQ ?_;refine Zb ?_
 refine qt L (rs:=[.tmp 2]) rfl (fun _ _ h => h) hs1 fun u H hH hle => ?_
 exact ⟨b, rfl, hle _ _ hyb⟩
end Go.V.L11
set_option maxRecDepth 20000
namespace Go.V.L11
open Go.Proofs Go.RowKit Go.V Go.V.L2 Go.V.L4
def zic (p:zbi):List ByteArray:=p.map fun x => match x with
 | [_, .string y] => y
 | _ => ⟨#[]⟩
theorem zay:∀ {ls:List ByteArray} {n:Nat}, zic (zdq n (zce ls)) = ls
 | [], _ => rfl
 | x :: ls, n => by
  show x :: zic (zdq (n + 1) (zce ls)) = _
  rw [zay]
theorem z07 (a b:List ByteArray):zce (a ++ b) = zce a ++ zce b:=List.map_append ..
theorem zhn (ls:List ByteArray) (y:ByteArray):zdq 1 (zce (ls ++ [y])) = zdq 1 (zce ls) ++ [[Value.int .i64 ((ls.length + 1:Nat):Int), Value.string y]]:=by
 rw [z07]
 have:=zk6 (zce ls) [Value.string y]
 rw [List.length_map] at this
 exact this
theorem zxw:∀ {L:List ByteArray} {n:Nat} {p:zbi}, p <+: zdq n (zce L) → ∃ ls, p = zdq n (zce ls) ∧ ls <+: L
 | [], n, p, h => ⟨[], List.prefix_nil.1 h, List.prefix_rfl⟩
 | x :: L, n, [], h => ⟨[], rfl, List.nil_prefix⟩
 | x :: L, n, q :: p, h => by
  have h':q :: p <+: [Value.int .i64 (n:Int), Value.string x] :: zdq (n + 1) (zce L):=h
  rw [List.cons_prefix_cons] at h'
  obtain ⟨rfl, h2⟩:=h'
  obtain ⟨ls, rfl, h3⟩:=zxw h2
  exact ⟨x :: ls, rfl, List.cons_prefix_cons.2 ⟨rfl, h3⟩⟩
theorem zmp {L:List ByteArray} {pre:zbi} {x:List Value} (h:pre ++ [x] <+: zdq 1 (zce L)):∃ ls y, pre = zdq 1 (zce ls) ∧ x = [Value.int .i64 ((ls.length + 1:Nat):Int), Value.string y] ∧ ls ++ [y] <+: L:=by
 obtain ⟨ls, e, hp⟩:=zxw h
 rcases List.eq_nil_or_concat ls with rfl | ⟨ls', y, rfl⟩
 ·exact absurd e (by simp [zce, zdq])
 ·rw [List.concat_eq_append] at e hp
  rw [zhn] at e
  obtain ⟨h1, h2⟩:=List.append_inj' e rfl
  exact ⟨ls', y, h1, by simpa using h2, hp⟩
theorem zfy {X:Type} (rd:ByteArray → X × Int):∀ (xs ls:List ByteArray), zbo rd 1 ls = true →
  ∃ ks, za7 (fun p => !zbo rd 1 (zic p)) (zdq 1 (zce ls)) (zdq (1 + ls.length) (zce xs)) = zdq 1 (zce ks) ∧ zfu rd [] 1 ks = zfu rd [] 1 (ls ++ xs) ∧ (zbo rd 1 ks = true → ks = ls ++ xs)
 | [], ls, h => ⟨ls, rfl, by rw [List.append_nil], fun _ => (List.append_nil _).symm⟩
 | x :: xs, ls, h => by
  have e1:zdq 1 (zce ls) ++ [[Value.int .i64 ((1 + ls.length:Nat):Int), Value.string x]] = zdq 1 (zce (ls ++ [x])):=by rw [zhn, Nat.add_comm 1]
  show ∃ ks, (if (!zbo rd 1 (zic (zdq 1 (zce ls) ++ [[Value.int .i64 ((1 + ls.length:Nat):Int), Value.string x]]))) = true then _ else _) = _ ∧ _
  rw [e1, zay]
  cases hg:zbo rd 1 (ls ++ [x])
  ·refine ⟨ls ++ [x], if_pos rfl, ?_, fun h' => by rw [hg] at h'; cases h'⟩
   rw [zb9, h] at hg
   exact (z0l h (by simpa using hg)).symm
  ·obtain ⟨ks, h1, h2, h3⟩:=zfy rd xs (ls ++ [x]) hg
   refine ⟨ks, ?_, by rw [h2, List.append_assoc]; rfl, fun h' => by rw [h3 h', List.append_assoc]; rfl⟩
   rw [if_neg (by decide), ← h1, List.length_append]
   rfl
theorem tup3 {φ1 φ2 φ3:Value → Heap → Prop} {a b c:Value} {H:Heap} (h1:φ1 a H) (h2:φ2 b H) (h3:φ3 c H):TupS [φ1, φ2, φ3] (.tuple #[a, b, c]) H:=⟨[a, b, c], rfl, rfl, fun i φ x hi hx => by
 match i with
 | 0 => cases hi; cases hx; exact h1
 | 1 => cases hi; cases hx; exact h2
 | 2 => cases hi; cases hx; exact h3⟩
end Go.V.L11
set_option maxRecDepth 20000
namespace Go.V.L11
open Go.Proofs Go.RowKit Go.V Go.V.L2 Go.V.L4 Go.V.L6
abbrev zr6:List Value:=[.nilFunc, .pointer none, .nilFunc, .pointer none]
abbrev G4 (ba be bs:Nat) (x y:Value) (z:List Value):GR:=zdz (zai ba [x] znd) (zdz (zai be [y] zgv) (zai bs z zdh))
attribute [local irreducible] V N X VO Par XP LV StepOK Has Ret RetL RetO RetT zbd RetX RetY Pan zjl Src
theorem zp0 {ba be bs:Nat} {x y v:Value} {z1 z2 z3 z4:Value} {a e:Int} {m m':FrameMode} (hm:RecM m m' v) (hcv:∀ (u:World) (H:Heap), H.Le (hp u) → Ret Tryz.prog 71 [v] u H (fun r _ => r = .tuple #[.int .i64 a, .int .i64 e])) {w:World} {B:Heap} {C:Nat → Prop} (hB:B.Le (hp w)) (hr:(G4 ba be bs x y [z1, z2, z3, z4]).P B w C) (hC:∀ k, C k → k < w.heap.size ∧ B k = none) :
  zjl Tryz.prog 97 [zam ba, zam be, zam bs] w B C m m' (G4 ba be bs (.int .i64 a) (.int .i64 e) (if e = 0 then [z1, z2, z3, z4] else zr6)):=by
 refine zub 900 (G4 ba be bs x y [z1, z2, z3, z4]) _ hm Tryz.func97 rfl Tryz.ntmps97 (Nat.le_of_ble_eq_true rfl) rfl rfl rfl rfl hB hr hC ?_
 refine zna (r1:=zaj ba [x] znd) (r2:=(zdz (zai be [y] zgv) (zai bs [z1, z2, z3, z4] zdh)).res) 900 901 rfl (zag _) ?_
 refine zna (r1:=zaj be [y] zgv) (r2:=zaj bs [z1, z2, z3, z4] zdh) 901 902 rfl (zcm _ _ _) ?_
 refine z7 (q0 L rfl rfl (zn rfl) rfl rfl rfl (fun u H hH _ _ => hcv u H hH)) rfl ?_;refine ZcF ?_;refine ym (yf L (q:=900) (cs':=[.int .i64 a]) rfl rfl rfl rfl rfl rfl rfl rfl rfl) ?_;refine ym (yf L (q:=901) (cs':=[.int .i64 e]) rfl rfl rfl rfl rfl rfl rfl rfl rfl) ?_
 refine zk ?_
 refine zm ?_
 by_cases he:e = 0
 ·rw [if_pos he]
  refine zj ?_;refine ZfI ?_;refine Zae ?_;refine Zbc ?_
  refine zej 901 902 rfl rfl (zcm _ _ _) ?_
  refine zej 900 901 rfl rfl (zag (zdz (zai be [.int .i64 e] zgv) (zai bs [z1, z2, z3, z4] zdh))) ?_
  exact zox L 900 (r:=G4 ba be bs (.int .i64 a) (.int .i64 e) [z1, z2, z3, z4]) rfl rfl rfl Since.refl
 ·rw [if_neg he]
  refine zj ?_;refine ZfI ?_;refine Zbe ?_;refine Z9 ?_;refine Zy ?_;refine ZbK ?_;refine ym (yf L (q:=902) (cs':=zr6) rfl rfl rfl rfl rfl rfl rfl rfl rfl) ?_;refine zk ?_
  refine zej 901 902 rfl rfl (zcm _ _ _) ?_
  refine zej 900 901 rfl rfl (zag (zdz (zai be [.int .i64 e] zgv) (zai bs zr6 zdh))) ?_
  exact zox L 900 (r:=G4 ba be bs (.int .i64 a) (.int .i64 e) zr6) rfl rfl rfl Since.refl
abbrev FRs (w:World) (ba be bs:Nat):Fr:=⟨w, none, [.u (dfd 97 [zam ba, zam be, zam bs])], noL⟩
abbrev KRs (ba be bs:Nat) (x y:Value) (z:List Value):List (Nat × Kn):=[(2, .is (zam bs)), (3, .is (zam ba)), (4, .is (zam be)), (910, .own (zaj bs z zdh)), (911, .own (zaj ba [x] znd)), (912, .own (zaj be [y] zgv))]
abbrev RsP (l:List U) (a:Int) (e:Int):Value → Heap → Prop:=TupS [SetV l, fun v _ => v = .int .i64 a, fun v _ => v = .int .i64 e]
theorem zhi {w:World} {B0 B:Heap} {n:Nat} {O:Boxes} {ba be bs:Nat} {x y z1 z2 z3 z4:Value} {a e:Int} (he:e ≠ 0) (hs:Since (FRs w ba be bs) B0 B) :
  XP (FRs w ba be bs) B n O (ofL (KRs ba be bs x y [z1, z2, z3, z4])) (wrV a e) (bodyPostM Fence.wide 0 Tryz.prog Tryz.f33 (zff w B0 noL fun v H _ => RsP [] a e v H)):=by
 refine zjm 912 910 rfl rfl (zcm _ _ _) ?_
 refine zjm 911 912 rfl rfl (zag (zdz (zai be [y] zgv) (zai bs [z1, z2, z3, z4] zdh))) ?_
 refine zvx L 911 (r:=G4 ba be bs x y [z1, z2, z3, z4]) (r':=G4 ba be bs (.int .i64 a) (.int .i64 e) (if e = 0 then [z1, z2, z3, z4] else zr6)) rfl rfl rfl (fun u H C hH _ hr hC => zp0 (RecM.caught _) (fun u H hH => zm3 hH) hH hr hC) ?_ (fun _ _ h => h)
 rw [if_neg he]
 refine ziq (r1:=zaj ba [.int .i64 a] znd) (r2:=(zdz (zai be [.int .i64 e] zgv) (zai bs zr6 zdh)).res) 911 912 rfl (zag _) ?_
 refine ziq (r1:=zaj be [.int .i64 e] zgv) (r2:=zaj bs zr6 zdh) 912 910 rfl (zcm _ _ _) ?_
 refine zcl 3 911 rfl rfl ?_
 refine zcl 4 912 rfl rfl ?_
 refine zcl 2 910 rfl rfl ?_
 exact zye L (rs:=[.cell 2 zdh, .cell 3 znd, .cell 4 zgv]) rfl hs (fun u H _ _ => zdj (qg rfl) rfl rfl (za1 (qg rfl) rfl (za1 (qg rfl) rfl (L11.tup3 SetV.nil rfl rfl))))
end Go.V.L11
set_option maxRecDepth 20000
namespace Go.V.L11
open Go.Proofs Go.RowKit Go.V Go.V.L2 Go.V.L3 Go.V.L4 Go.V.L8
abbrev z2z:TypeId:=9
def zbh (bs:List Nat) (R:Rd):Nat → Rd
 | 0 => R
 | i + 1 => (zcp bs 16 (zbh bs R i)).2
def zmr (bs:List Nat) (R:Rd):Nat → List ByteArray
 | 0 => []
 | i + 1 => zmr bs R i ++ [(zcp bs 16 (zbh bs R i)).1]
theorem zr7 {bs:List Nat} {R:Rd} (h:R.at_ ≤ bs.length):∀ i, (zbh bs R i).at_ ≤ bs.length
 | 0 => h
 | i + 1 => zkg (zr7 h i)
theorem zho {bs:List Nat} {R:Rd}:∀ i, (zmr bs R i).length = i
 | 0 => rfl
 | i + 1 => by unfold zmr; rw [List.length_append, zho i]; rfl
def zvu (bs:List Nat) (R:Rd):List ByteArray × Rd :=
 if (zbh bs R 6).err ≠ 0 then ([sZ, sZ, sZ, sZ, sZ, sZ], ⟨R.at_, (zbh bs R 6).bad, (zbh bs R 6).err⟩) else (zmr bs R 6, zbh bs R 6)
abbrev NamP (sv:Value) (x:List ByteArray × Rd):Value → Heap → Prop:=TupS [SlV z2z 1 (x.1.map Value.string) 6 true, fun v _ => v = rv sv x.2]
theorem tupS2 {φ1 φ2:Value → Heap → Prop} {a b:Value} {H:Heap} (h1:φ1 a H) (h2:φ2 b H):TupS [φ1, φ2] (.tuple #[a, b]) H:=⟨[a, b], rfl, rfl, fun i φ x hi hx => by
 match i with
 | 0 => cases hi; cases hx; exact h1
 | 1 => cases hi; cases hx; exact h2
 | i + 2 => cases hi⟩
attribute [local irreducible] V N X VO Par XP LV StepOK Has Ret RetL RetO RetT zbd RetX RetY Pan zjl Src
set_option maxHeartbeats 1000000 in
theorem zx2 {bs:List Nat} {fu:Bool} {p:Option Addr} {c:Nat} {R:Rd} (hb:∀ b ∈ bs, b ≤ 255) (hl:bs.length ≤ 1099511627776) (hat:R.at_ ≤ bs.length) {w:World} {B:Heap} (hB:B.Le (hp w)) (hv:BsV bs fu (.slice p bs.length c) B) :
  Ret Tryz.prog 150 [rv (.slice p bs.length c) R, .int .i64 6] w B (NamP (.slice p bs.length c) (zvu bs R)):=by
 have hR0:zbh bs R 0 = R:=rfl
 have hna:=zr7 (bs:=bs) hat
 have hrd:=fun (i:Nat) (u:World) (H:Heap) (hH:H.Le (hp u)) (hle:B.Le H) => zuy (R:=zbh bs R i) (lim:=16) (by decide) hb hl (hna i) hH (hv.le hle)
 unfold zvu
 obtain ⟨at_, bad, err⟩:=R
 dsimp only [rv] at hrd ⊢
 refine qu Tryz.func150 rfl Tryz.ntmps150 (Nat.le_of_ble_eq_true rfl) hB ?_
 refine ZA ?_;refine Zq ?_;refine Zab ?_;refine Zx ?_;refine Zbp ?_;refine ZdE ?_;refine Z4 ?_;refine z7 (znz L 6 rfl rfl rfl el9 rfl rfl rfl rfl (by decide) (by decide)) rfl ?_;refine qe (yh (.inr rfl) rfl rfl rfl rfl) ?_;refine Za0 ?_
 refine z4q 7 901 (by decide) rfl fun b hzl => ?_
 refine Zk ?_;refine ZW ?_
 generalize zsL Tryz.prog z2z (6 * 1) = zs at hzl ⊢
 refine zao (fun s:Nat × List Value => [(1, .is (.int .i64 6)), (2, .sat (At [.slice p bs.length c, .int .i64 at_, .int .i64 bad, .int .i64 err] tyRr 0)), (6, .own (Cell (za5 (rv (.slice p bs.length c) (zbh bs ⟨at_, bad, err⟩ s.1))) tyRr)), (7, .is (.slice (some ⟨b, 0, none⟩) 6 6)), (8, .is (.int .i64 s.1)), (5, .own (Cell (za5 (rv (.slice none 0 0) ⟨0, 0, 0⟩)) tyRr)), (901, .own (zaj b s.2 z2z))])
  (fun s => s.1 ≤ 6 ∧ s.2.length = 6 ∧ s.2.take s.1 = (zmr bs ⟨at_, bad, err⟩ s.1).map Value.string) (fun s => 6 - s.1) (0, zs) ⟨Nat.zero_le _, hzl, rfl⟩ ⟨rfl, rfl, rfl, rfl, rfl, rfl, rfl, trivial⟩ ?_
 rintro ⟨i, cs⟩ ⟨hi, hcs, htk⟩
 dsimp only at hi hcs htk ⊢
 by_cases hlt:i < 6
 ·have hrd1:=hrd i
  obtain ⟨s, R2, hz⟩:∃ s R2, zcp bs 16 (zbh bs ⟨at_, bad, err⟩ i) = (s, R2):=⟨_, _, rfl⟩
  have hR1:zbh bs ⟨at_, bad, err⟩ (i + 1) = R2:=congrArg Prod.snd hz
  have hL1:zmr bs ⟨at_, bad, err⟩ (i + 1) = zmr bs ⟨at_, bad, err⟩ i ++ [s]:=congrArg (fun x:ByteArray × Rd => zmr bs ⟨at_, bad, err⟩ i ++ [x.1]) hz
  rw [hz] at hrd1
  have hnl:=zho (bs:=bs) (R:=⟨at_, bad, err⟩) i
  generalize zbh bs ⟨at_, bad, err⟩ i = Q at hrd1 hz ⊢
  obtain ⟨a1, b1, e1⟩:=Q
  obtain ⟨a2, b2, e2⟩:=R2
  dsimp only [rv] at hrd1 ⊢
  have hle1:0 + i * 1 + 1 ≤ cs.length:=by rw [hcs]; omega
  refine Zh ?_;refine ZcT ?_;refine ZaX ?_;refine ZbP ?_;refine ZN ?_;refine Zc ?_;refine Zah ?_;refine z7 (q0 L rfl rfl (zn rfl) rfl rfl rfl (fun u H hH hle _ => hrd1 u H hH hle)) rfl ?_;refine ZcF ?_;refine z7 (zgj L _ rfl rfl rfl rfl rfl rfl rfl (by omega)) rfl ?_;refine ym (yf L (q:=901) rfl rfl rfl rfl rfl rfl (Nat.ble_eq_true_of_le hle1) rfl rfl) ?_;refine ZaB ?_;refine Zav ?_;refine Zd6 ?_
  exact yl (x:=(i, cs)) (i + 1, cs.take (0 + i * 1) ++ ([.string s] ++ cs.drop (0 + i * 1 + 1))) ⟨hlt, by dsimp only; rw [List.length_append, List.length_append, List.length_take, List.length_drop]; simp only [List.length_cons, List.length_nil]; omega, by
    dsimp only
    rw [hL1, List.map_append, ← htk, Nat.zero_add, Nat.mul_one, List.take_append, List.take_take, Nat.min_eq_right (by omega), List.length_take, Nat.min_eq_left (by omega), show i + 1 - i = 1 by omega]
    rfl⟩ (by dsimp only; omega) ⟨rfl, rfl, by rw [hR1]; rfl, rfl, rfl, rfl, rfl, trivial⟩
 ·obtain rfl:i = 6:=by omega
  rw [List.take_of_length_le (by omega)] at htk
  subst htk
  have hnl:=zho (bs:=bs) (R:=⟨at_, bad, err⟩) 6
  generalize zmr bs ⟨at_, bad, err⟩ 6 = ns at hnl ⊢
  obtain ⟨a1, b1, e1⟩:=zbh bs ⟨at_, bad, err⟩ 6
  refine Zh ?_;refine ZcT ?_;refine Zo ?_;refine ZdS ?_
  refine z2p (s:=1) 7 901 rfl rfl (by rw [List.length_map, hnl]) (by decide) ?_
  dsimp only [rv]
  refine zey 6 rfl fun b6 hb6 => ?_
  by_cases h0:e1 ≠ 0
  ·rw [if_pos h0]
   refine Z8 ?_;refine Zu ?_;refine Zz ?_;refine Z0 ?_;refine Zm ?_;refine Zdn ?_;refine qh (id:=9) [(4, [32])] mixed (by kernel_rfl) ?_;refine Zi ?_;refine zd (znz L 6 rfl rfl rfl el9 rfl rfl rfl rfl (by decide) (by decide)) rfl ?_;refine ZcU ?_;refine zav (yh (.inr rfl) rfl rfl rfl rfl) rfl rfl ?_;refine Zas ?_
   refine z2q 4 rfl ?_
   refine qt L (rs:=[.tmp 4, .cell 5 166]) rfl (fun _ _ h => h) Since.refl fun u H hH hle => ?_
   have hzz:zsL Tryz.prog z2z (6 * 1) = List.map Value.string [sZ, sZ, sZ, sZ, sZ, sZ]:=by kernel_rfl
   exact fun v hv => zdj (qg rfl) rfl rfl (tupS2 (hzz ▸ hv) rfl)
  ·rw [if_neg h0]
   refine z2q 7 rfl ?_
   refine Z8 ?_;refine Zu ?_;refine ZG ?_;refine qh (id:=10) [] mixed (by kernel_rfl) ?_;refine Zal ?_;refine ZcU ?_;refine Zec ?_;refine Zas ?_
   refine qt L (rs:=[.tmp 4, .cell 5 166]) rfl (fun _ _ h => h) Since.refl fun u H hH hle => ?_
   exact fun v hv => zdj (qg rfl) rfl rfl (tupS2 hv rfl)
end Go.V.L11
set_option maxRecDepth 20000
namespace Go.V.L3
open Go.Proofs Go.RowKit Go.V Go.V.L2
attribute [local irreducible] V N X VO Par StepOK Has Ret RetL RetO RetT Src
end Go.V.L3
set_option maxRecDepth 20000
namespace Go.V.L3
open Go.Proofs Go.RowKit Go.V Go.V.L2
attribute [local irreducible] V N X VO Par StepOK Has Ret RetL RetO RetT Src
end Go.V.L3
set_option maxRecDepth 20000
namespace Go.V.L3
open Go.Proofs Go.RowKit Go.V Go.V.L2
abbrev tyI:TypeId:=3
attribute [local irreducible] V N X VO Par StepOK Has Ret RetL RetO RetT Src
end Go.V.L3
set_option maxRecDepth 20000
namespace Go.V.L3
open Go.Proofs Go.RowKit Go.V Go.V.L2
attribute [local irreducible] V N X VO Par StepOK Has Ret RetL RetO RetT Src
end Go.V.L3
set_option maxRecDepth 20000
namespace Go.V
open Go.Proofs Go.RowKit
def zkp (n:Nat):ByteArray:=match n % 3 with
 | 0 => ⟨#[100, 111, 99]⟩
 | 1 => ⟨#[102, 111, 108, 100, 101, 114]⟩
 | _ => ⟨#[103, 114, 111, 117, 112]⟩
def idS (n:Nat):ByteArray:=match n % 5 with
 | 0 => ⟨#[97]⟩
 | 1 => ⟨#[98]⟩
 | 2 => ⟨#[99, 49]⟩
 | 3 => ⟨#[100]⟩
 | _ => ⟨#[114, 111, 111, 116]⟩
def z3i (n:Nat):ByteArray:=match n % 4 with
 | 0 => ⟨#[118, 105, 101, 119, 101, 114]⟩
 | 1 => ⟨#[101, 100, 105, 116, 111, 114]⟩
 | 2 => ⟨#[109, 101, 109, 98, 101, 114]⟩
 | _ => ⟨#[112, 97, 114, 101, 110, 116]⟩
theorem ze3 (n:Nat):chk (zkp n) = 0 ∧ (zkp n).size ≤ 16:=by
 unfold zkp
 split <;> decide +kernel
theorem zmx (n:Nat):chk (idS n) = 0 ∧ (idS n).size ≤ 16:=by
 unfold idS
 split <;> decide +kernel
theorem znt (n:Nat):chk (z3i n) = 0 ∧ (z3i n).size ≤ 16:=by
 unfold z3i
 split <;> decide +kernel
def zog (n:Nat):(ByteArray × ByteArray) × ByteArray:=((zkp n, idS (n / 3)), z3i (n / 15))
theorem z04 (n:Nat):zc3 [(zog n).1.1, (zog n).1.2, (zog n).2] = 0:=by
 simp only [zc3, zog, (ze3 _).1, (zmx _).1, (znt _).1, if_pos]
theorem zvf (n:Nat):(zog n).1.1.size ≤ 16 ∧ (zog n).1.2.size ≤ 16 ∧ (zog n).2.size ≤ 16:=⟨(ze3 _).2, (zmx _).2, (znt _).2⟩
end Go.V
set_option maxRecDepth 20000
namespace Go.V
open Go.Proofs Go.RowKit
theorem _root_.Go.V.Zft {A B:Prop} (h:B) (t:Wr B → A:=by intro h; refine z7 (zdk L 0 rfl rfl rfl rfl rfl rfl rfl (by omega)) rfl ?_;exact h.h):A:=t ⟨h⟩
theorem _root_.Go.V.Zgw {A B:Prop} (h:B) (t:Wr B → A:=by intro h; refine Zac ?_;refine ZaV ?_;exact h.h):A:=t ⟨h⟩
theorem _root_.Go.V.Zgx {A B:Prop} (h:B) (t:Wr B → A:=by intro h; refine Zgw ?_;refine Za ?_;exact h.h):A:=t ⟨h⟩
theorem _root_.Go.V.Zex {A B:Prop} (h:B) (t:Wr B → A:=by intro h; refine Zgx ?_;refine ZeW ?_;exact h.h):A:=t ⟨h⟩
theorem _root_.Go.V.ZcW {A B:Prop} (h:B) (t:Wr B → A:=by intro h; refine Zez ?_;refine Zb ?_;exact h.h):A:=t ⟨h⟩
theorem _root_.Go.V.ZfZ {A B:Prop} (h:B) (t:Wr B → A:=by intro h; refine Zex ?_;refine z7 (zdk L 1 rfl rfl rfl rfl rfl rfl rfl (by omega)) rfl ?_;exact h.h):A:=t ⟨h⟩
theorem _root_.Go.V.Zga {A B:Prop} (h:B) (t:Wr B → A:=by intro h; refine Zex ?_;refine z7 (zdk L 2 rfl rfl rfl rfl rfl rfl rfl (by omega)) rfl ?_;exact h.h):A:=t ⟨h⟩
attribute [local irreducible] V N X VO Par StepOK Has Ret RetL Src
theorem zpm (n:Nat) {w:World} {B:Heap} (hB:B.Le (hp w)):Ret Tryz.prog 67 [.int .i64 n] w B (fun v _ => v = .string (zkp n)):=by
 unfold zkp
 have e:Int.tmod (n:Int) 3 = ((n % 3:Nat):Int):=rfl
 refine qu Tryz.func67 rfl Tryz.ntmps67 (Nat.le_of_ble_eq_true rfl) hB ?_
 have hlt:=Nat.mod_lt n (show 0 < 3 by decide)
 rcases (by omega:n % 3 = 0 ∨ n % 3 = 1 ∨ n % 3 = 2) with h | h | h
 ·have e0:Int.tmod (n:Int) 3 = 0:=by rw [e, h]; rfl
  rw [h]
  refine Zex ?_;refine Zft ?_;refine ZcW ?_
  refine qt L (rs:=[.tmp 2]) rfl (fun _ _ h => h) Since.refl fun u H hH hle => ?_
  rfl
 ·have e0:Int.tmod (n:Int) 3 = 1:=by rw [e, h]; rfl
  rw [h]
  refine ZfZ ?_;refine ZcW ?_
  refine qt L (rs:=[.tmp 2]) rfl (fun _ _ h => h) Since.refl fun u H hH hle => ?_
  rfl
 ·have e0:Int.tmod (n:Int) 3 = 2:=by rw [e, h]; rfl
  rw [h]
  refine Zga ?_;refine ZcW ?_
  refine qt L (rs:=[.tmp 2]) rfl (fun _ _ h => h) Since.refl fun u H hH hle => ?_
  rfl
theorem id_ret (n:Nat) {w:World} {B:Heap} (hB:B.Le (hp w)):Ret Tryz.prog 68 [.int .i64 n] w B (fun v _ => v = .string (idS n)):=by
 unfold idS
 have e:Int.tmod (n:Int) 5 = ((n % 5:Nat):Int):=rfl
 refine qu Tryz.func68 rfl Tryz.ntmps68 (Nat.le_of_ble_eq_true rfl) hB ?_
 have hlt:=Nat.mod_lt n (show 0 < 5 by decide)
 rcases (by omega:n % 5 = 0 ∨ n % 5 = 1 ∨ n % 5 = 2 ∨ n % 5 = 3 ∨ n % 5 = 4) with h | h | h | h | h
 ·have e0:Int.tmod (n:Int) 5 = 0:=by rw [e, h]; rfl
  rw [h]
  refine Zex ?_;refine Zft ?_;refine ZcW ?_
  refine qt L (rs:=[.tmp 2]) rfl (fun _ _ h => h) Since.refl fun u H hH hle => ?_
  rfl
 ·have e0:Int.tmod (n:Int) 5 = 1:=by rw [e, h]; rfl
  rw [h]
  refine ZfZ ?_;refine ZcW ?_
  refine qt L (rs:=[.tmp 2]) rfl (fun _ _ h => h) Since.refl fun u H hH hle => ?_
  rfl
 ·have e0:Int.tmod (n:Int) 5 = 2:=by rw [e, h]; rfl
  rw [h]
  refine Zga ?_;refine ZcW ?_
  refine qt L (rs:=[.tmp 2]) rfl (fun _ _ h => h) Since.refl fun u H hH hle => ?_
  rfl
 ·have e0:Int.tmod (n:Int) 5 = 3:=by rw [e, h]; rfl
  rw [h]
  refine Zex ?_;refine z7 (zdk L 3 rfl rfl rfl rfl rfl rfl rfl (by omega)) rfl ?_;refine ZcW ?_
  refine qt L (rs:=[.tmp 2]) rfl (fun _ _ h => h) Since.refl fun u H hH hle => ?_
  rfl
 ·have e0:Int.tmod (n:Int) 5 = 4:=by rw [e, h]; rfl
  rw [h]
  refine Zex ?_;refine z7 (zdk L 4 rfl rfl rfl rfl rfl rfl rfl (by omega)) rfl ?_;refine ZcW ?_
  refine qt L (rs:=[.tmp 2]) rfl (fun _ _ h => h) Since.refl fun u H hH hle => ?_
  rfl
theorem zw5 (n:Nat) {w:World} {B:Heap} (hB:B.Le (hp w)):Ret Tryz.prog 69 [.int .i64 n] w B (fun v _ => v = .string (z3i n)):=by
 unfold z3i
 have e:Int.tmod (n:Int) 4 = ((n % 4:Nat):Int):=rfl
 refine qu Tryz.func69 rfl Tryz.ntmps69 (Nat.le_of_ble_eq_true rfl) hB ?_
 have hlt:=Nat.mod_lt n (show 0 < 4 by decide)
 rcases (by omega:n % 4 = 0 ∨ n % 4 = 1 ∨ n % 4 = 2 ∨ n % 4 = 3) with h | h | h | h
 ·have e0:Int.tmod (n:Int) 4 = 0:=by rw [e, h]; rfl
  rw [h]
  refine Zex ?_;refine Zft ?_;refine ZcW ?_
  refine qt L (rs:=[.tmp 2]) rfl (fun _ _ h => h) Since.refl fun u H hH hle => ?_
  rfl
 ·have e0:Int.tmod (n:Int) 4 = 1:=by rw [e, h]; rfl
  rw [h]
  refine ZfZ ?_;refine ZcW ?_
  refine qt L (rs:=[.tmp 2]) rfl (fun _ _ h => h) Since.refl fun u H hH hle => ?_
  rfl
 ·have e0:Int.tmod (n:Int) 4 = 2:=by rw [e, h]; rfl
  rw [h]
  refine Zga ?_;refine ZcW ?_
  refine qt L (rs:=[.tmp 2]) rfl (fun _ _ h => h) Since.refl fun u H hH hle => ?_
  rfl
 ·have e0:Int.tmod (n:Int) 4 = 3:=by rw [e, h]; rfl
  rw [h]
  refine Zex ?_;refine z7 (zdk L 3 rfl rfl rfl rfl rfl rfl rfl (by omega)) rfl ?_;refine ZcW ?_
  refine qt L (rs:=[.tmp 2]) rfl (fun _ _ h => h) Since.refl fun u H hH hle => ?_
  rfl
end Go.V
set_option maxRecDepth 20000
namespace Go.V.L2
open Go.Proofs Go.RowKit Go.V
theorem _root_.Go.V.ZfK {A B:Prop} (h:B) (t:Wr B → A:=by intro h; refine zd (z2c rfl rfl rfl rfl (by omega) (by assumption)) rfl ?_;exact h.h):A:=t ⟨h⟩
theorem _root_.Go.V.Zgk {A B:Prop} (h:B) (t:Wr B → A:=by intro h; refine Zcn ?_;refine Zby ?_;exact h.h):A:=t ⟨h⟩
def z3b (s:Nat):zsm:=((zkp s, idS (s / 3)), if 15 ≤ s then z3i (s / 15 - 1) else ⟨#[]⟩)
def zte (a b:Nat):U:=(zog (a % 60), z3b (b % 75))
abbrev ty2:TypeId:=64
def pcs (p:Nat × Nat):List Value:=[.int .u8 p.1, .int .u8 p.2]
theorem z3p (p:Nat × Nat):(pcs p).length = 2:=rfl
abbrev PS2 (ps:List (Nat × Nat)) (fu:Bool):Value → Heap → Prop:=SlV ty2 2 (ps.flatMap pcs) ps.length fu
theorem z7s {ps:List (Nat × Nat)} {j:Nat} {a b:Nat} (h:ps[j]? = some (a, b)):((ps.flatMap pcs).drop (j * 2)).take 2 = [.int .u8 a, .int .u8 b]:=zd8 z3p ps j _ h
def tl (ps:List (Nat × Nat)):List U:=(ps.take 20).map fun p => zte p.1 p.2
theorem zki (ps:List (Nat × Nat)):(tl ps).length = min 20 ps.length:=by simp [tl]
theorem z5d {ps:List (Nat × Nat)} {i a b:Nat} (h:ps[i]? = some (a, b)) (hi:i < 20):(tl ps)[i]? = some (zte a b):=by
 unfold tl
 rw [List.getElem?_map, List.getElem?_take_of_lt hi, h]; rfl
theorem zwg (s:Nat):(z3b s).1.1.size ≤ 16 ∧ (z3b s).1.2.size ≤ 16 ∧ (z3b s).2.size ≤ 16:=by
 refine ⟨(ze3 _).2, (zmx _).2, ?_⟩
 unfold z3b
 dsimp only
 split
 ·exact (znt _).2
 ·decide
theorem zk1 (a b:Nat):TZ (zte a b):=by
 have h1:=zvf (a % 60)
 have h2:=zwg (b % 75)
 unfold TZ zte
 dsimp only
 refine ⟨⟨?_, ?_, ?_⟩, ?_, ?_, ?_⟩ <;> omega
theorem zxh (a b:Nat):tE (zte a b) = 0:=by
 unfold tE zte
 dsimp only
 rw [if_pos (z04 _)]
 unfold z3b zgw
 dsimp only
 by_cases h:15 ≤ b % 75
 ·rw [if_pos h]
  split
  ·simp only [zc3, (ze3 _).1, (zmx _).1, if_pos]
  ·simp only [zc3, (ze3 _).1, (zmx _).1, (znt _).1, if_pos]
 ·rw [if_neg h, if_pos rfl]
  simp only [zc3, (ze3 _).1, (zmx _).1, if_pos]
theorem z12 {ps:List (Nat × Nat)} {t:U} (h:t ∈ tl ps):TZ t ∧ tE t = 0:=by
 obtain ⟨p, _, rfl⟩:=List.mem_map.1 h
 exact ⟨zk1 _ _, zxh _ _⟩
attribute [local irreducible] V N X VO Par StepOK Has Ret RetL Src
set_option maxHeartbeats 1000000 in
theorem zk2 (a b:Nat) (ha:a ≤ 255) (hb:b ≤ 255) {w:World} {B:Heap} (hB:B.Le (hp w)):Ret Tryz.prog 24 [.agg #[.int .u8 a, .int .u8 b]] w B (fun v _ => v = uv (zte a b)):=by
 have e60:Int.tmod (a:Int) 60 = ((a % 60:Nat):Int):=rfl
 have e75:Int.tmod (b:Int) 75 = ((b % 75:Nat):Int):=rfl
 have hlt:=Nat.mod_lt a (show 0 < 60 by decide)
 have hlt2:=Nat.mod_lt b (show 0 < 75 by decide)
 unfold zte
 generalize a % 60 = m at e60 hlt
 generalize b % 75 = s at e75 hlt2
 have q1:(m:Int).tdiv 3 = ((m / 3:Nat):Int):=rfl
 have q2:(m:Int).tdiv 15 = ((m / 15:Nat):Int):=rfl
 have q3:(s:Int).tdiv 3 = ((s / 3:Nat):Int):=rfl
 have q4:(s:Int).tdiv 15 = ((s / 15:Nat):Int):=rfl
 have d1:IntKind.i64.wrap ((m:Int).tdiv 3) = ((m / 3:Nat):Int):=zad (by omega) (by omega)
 have d2:IntKind.i64.wrap ((m:Int).tdiv 15) = ((m / 15:Nat):Int):=zad (by omega) (by omega)
 have d3:IntKind.i64.wrap ((s:Int).tdiv 3) = ((s / 3:Nat):Int):=zad (by omega) (by omega)
 have d4:IntKind.i64.wrap ((s:Int).tdiv 15) = ((s / 15:Nat):Int):=zad (by omega) (by omega)
 unfold zog z3b
 refine qu Tryz.func24 rfl Tryz.ntmps24 (Nat.le_of_ble_eq_true rfl) hB ?_
 refine ZA ?_;refine Zab ?_;refine ZdQ ?_;refine zd (zg1 L _ rfl rfl rfl rfl z85 rfl rfl (by first | omega | decide)) rfl ?_;refine ZdP ?_;refine ZfK ?_;refine zd (za0 rfl rfl rfl z09.1 z09.2 (zad (by omega) (by omega))) rfl ?_;refine zd (zg1 L _ rfl rfl rfl rfl z85 rfl rfl (by first | omega | decide)) rfl ?_;refine ZdP ?_;refine ZfK ?_;refine zd (za0 rfl rfl rfl z09.1 z09.2 (zad (by omega) (by omega))) rfl ?_;refine ZbB ?_;refine zj ?_;refine Z4 ?_;refine z7 (q0 L rfl rfl (zn rfl) rfl rfl rfl (fun u H hH _ _ => zpm _ hH)) rfl ?_;refine Za ?_;refine Zfs ?_;refine z7 (q0 L rfl rfl (zn rfl) rfl rfl rfl (fun u H hH _ _ => id_ret _ hH)) rfl ?_;refine Zeo ?_;refine Za ?_;refine Zfs ?_;refine z7 (q0 L rfl rfl (zn rfl) rfl rfl rfl (fun u H hH _ _ => zw5 _ hH)) rfl ?_;refine Ze4 ?_;refine Za ?_;refine z7 (q0 L rfl rfl (zn rfl) rfl rfl rfl (fun u H hH _ _ => zpm _ hH)) rfl ?_;refine Za ?_;refine Zfs ?_;refine z7 (q0 L rfl rfl (zn rfl) rfl rfl rfl (fun u H hH _ _ => id_ret _ hH)) rfl ?_;refine Zeo ?_;refine Zeq ?_;refine Zgk ?_
 by_cases h:15 ≤ s
 ·rw [if_pos h]
  have hs1:IntKind.i64.wrap (((s / 15:Nat):Int) - 1) = ((s / 15 - 1:Nat):Int):=(zad (by omega) (by omega)).trans (by omega)
  refine zey 5 rfl fun b5 hb5 => ?_
  refine Zs ?_;refine ZcE ?_;refine Zw ?_;refine Zfs ?_;refine ZaE ?_;refine z7 (q0 L rfl rfl (zn rfl) rfl rfl rfl (fun u H hH _ _ => zw5 _ hH)) rfl ?_;refine Zbh ?_;refine Zdn ?_;refine Zn ?_;refine z7 (q8 L (vs:=[_, _, _, _, _, _]) (qw rfl (List.Mem.head _)) rfl rfl rfl rfl ⟨_, rfl⟩) rfl ?_;refine Z1 ?_
  refine qt L (rs:=[.cell 2 34]) rfl (fun _ _ h => h) Since.refl fun u H hH hle => ?_
  refine Zct ?_
  rfl
 ·rw [if_neg h]
  refine Zs ?_;refine Zcw ?_;refine Zn ?_;refine ZP ?_;refine Z1 ?_
  refine qt L (rs:=[.cell 2 34]) rfl (fun _ _ h => h) Since.refl fun u H hH hle => ?_
  refine Zct ?_
  rfl
set_option maxHeartbeats 1000000 in
theorem z29 {ps:List (Nat × Nat)} {fu:Bool} (hps:∀ p ∈ ps, p.1 ≤ 255 ∧ p.2 ≤ 255) (hlen:ps.length ≤ 9223372036854775807) {sv:Value} {w:World} {B:Heap} (hB:B.Le (hp w)) (hv:PS2 ps fu sv B) :
  Ret Tryz.prog 10 [.agg #[sv]] w B (US (tl ps) false):=by
 refine qu Tryz.func10 rfl Tryz.ntmps10 (Nat.le_of_ble_eq_true rfl) hB ?_
 refine ZbO ?_;refine Zg ?_
 refine zet 3 tyU 6 rfl ?_
 refine Zy ?_;refine ZW ?_
 have hll:=zki ps
 refine zao (fun i:Nat => [(1, .sat (At [sv] 24 0)), (3, .own (SlR tyU 6 ((tl ps).take i).length (((tl ps).take i).flatMap ucs))), (4, .is (.int .i64 i))])
  (fun i => i ≤ (tl ps).length) (fun i => (tl ps).length - i) 0 (Nat.zero_le _) ⟨rfl, rfl, rfl, trivial⟩ ?_
 rintro i hi
 have hli:=List.length_take (i:=i) (l:=tl ps)
 by_cases h1:i < ps.length
 ·by_cases h2:i < 20
  ·obtain ⟨⟨a, b⟩, hn⟩:=zaw h1
   have hc:=z7s hn
   have hab:=hps _ (List.mem_of_getElem? hn)
   have hg:=z5d hn h2
   generalize hgg:zte a b = t at hg
   refine Zba ?_;refine Zm ?_;refine zba 7 (PS2 ps fu) rfl SlV.mono hv ?_;refine Zdc ?_;refine Zcp ?_;refine ZB ?_;refine Za7 ?_;refine ZbP ?_;refine Zn ?_;refine qe (yh (.inl rfl) rfl rfl rfl rfl) ?_;refine Zm ?_;refine zba 18 (PS2 ps fu) rfl SlV.mono hv ?_;refine ZbI ?_;refine Zfn ?_;refine z7 (q0 (r:=uv t) L rfl rfl (zn rfl) rfl rfl rfl (fun u H hH _ _ => hgg ▸ zk2 a b hab.1 hab.2 hH)) rfl ?_;refine ZaT ?_;refine qe (yh (.inr rfl) rfl rfl rfl rfl) ?_;refine Zav ?_;refine ZbV ?_
   exact yl (x:=i) (i + 1) (by omega) (by omega) ⟨rfl, by rw [zl8 hg]; exact zda rfl, rfl, trivial⟩
  ·obtain rfl:i = (tl ps).length:=by omega
   rw [List.take_length]
   refine Zba ?_;refine Zm ?_;refine zba 7 (PS2 ps fu) rfl SlV.mono hv ?_;refine Zdc ?_;refine Zcp ?_;refine Zo ?_;refine Ze ?_;refine Zb0 ?_;refine qe (yh (.inl rfl) rfl rfl rfl rfl) ?_;refine qe (yh (.inr rfl) rfl rfl rfl rfl) ?_;refine Z6 ?_
   refine zes 2 rfl ?_
   refine qt L (rs:=[.tmp 2]) rfl (fun _ _ h => h) Since.refl fun u H hH hle => ?_
   exact fun v hv => hv
 ·obtain rfl:i = (tl ps).length:=by omega
  rw [List.take_length]
  refine Zba ?_;refine Zm ?_;refine zba 7 (PS2 ps fu) rfl SlV.mono hv ?_;refine Zdc ?_;refine Zo ?_;refine ZaJ ?_;refine Ze ?_;refine Zb0 ?_;refine qe (yh (.inl rfl) rfl rfl rfl rfl) ?_;refine qe (yh (.inr rfl) rfl rfl rfl rfl) ?_;refine Z6 ?_
  refine zes 2 rfl ?_
  refine qt L (rs:=[.tmp 2]) rfl (fun _ _ h => h) Since.refl fun u H hH hle => ?_
  exact fun v hv => hv
end Go.V.L2
set_option maxRecDepth 20000
namespace Go.V.L3
open Go.Proofs Go.RowKit Go.V Go.V.L2
attribute [local irreducible] V N X VO Par StepOK Has Ret RetL RetO RetT Src
end Go.V.L3
set_option maxRecDepth 20000
namespace Go.V.L3
open Go.Proofs Go.RowKit Go.V Go.V.L2
attribute [local irreducible] V N X VO Par StepOK Has Ret RetL RetO RetT Src
end Go.V.L3
set_option maxRecDepth 20000
namespace Go.V.L3
open Go.Proofs Go.RowKit Go.V Go.V.L2
attribute [local irreducible] V N X VO Par StepOK Has Ret RetL RetO RetT Src
end Go.V.L3
set_option maxRecDepth 20000
namespace Go.V.L3
open Go.Proofs Go.RowKit Go.V Go.V.L2
attribute [local irreducible] V N X VO Par StepOK Has Ret RetL RetO RetT Src
end Go.V.L3
set_option maxRecDepth 20000
namespace Go.V.L6
open Go.Proofs Go.RowKit Go.V Go.V.L2 Go.V.L3
abbrev d0:U:=(((⟨#[100, 111, 99]⟩, ⟨#[97]⟩), ⟨#[118, 105, 101, 119, 101, 114]⟩), ((⟨#[117, 115, 101, 114]⟩, ⟨#[120]⟩), ⟨#[]⟩))
abbrev d1:U:=(((⟨#[100, 111, 99]⟩, ⟨#[97]⟩), ⟨#[118, 105, 101, 119, 101, 114]⟩), ((⟨#[103, 114, 111, 117, 112]⟩, ⟨#[103]⟩), ⟨#[109, 101, 109, 98, 101, 114]⟩))
abbrev d2:U:=(((⟨#[100, 111, 99]⟩, ⟨#[98]⟩), ⟨#[118, 105, 101, 119, 101, 114]⟩), ((⟨#[117, 115, 101, 114]⟩, ⟨#[120]⟩), ⟨#[]⟩))
def tzB (t:U):Bool:=decide (t.1.1.1.size ≤ 1000) && decide (t.1.1.2.size ≤ 1000) && decide (t.1.2.size ≤ 1000) && decide (t.2.1.1.size ≤ 1000) && decide (t.2.1.2.size ≤ 1000) && decide (t.2.2.size ≤ 1000)
theorem z1z {t:U} (h:tzB t = true):TZ t:=by
 unfold tzB at h
 simp only [Bool.and_eq_true, decide_eq_true_eq] at h
 unfold TZ; omega
attribute [local irreducible] V N X VO Par StepOK Has Ret RetL RetO RetT Src
end Go.V.L6
set_option maxRecDepth 20000
namespace Go.V.L6
open Go.Proofs Go.RowKit Go.V Go.V.L2 Go.V.L3
theorem _root_.Go.V.ZeX {A B:Prop} (h:B) (t:Wr B → A:=by intro h; refine zd (zg1 L _ rfl rfl rfl rfl z8k rfl rfl (by first | omega | decide)) rfl ?_;exact h.h):A:=t ⟨h⟩
theorem _root_.Go.V.ZfL {A B:Prop} (h:B) (t:Wr B → A:=by intro h; refine zd (y8 (cs:=[_, _, _, _, _, _, _]) rfl rfl z8v rfl rfl) rfl ?_;exact h.h):A:=t ⟨h⟩
theorem _root_.Go.V.ZdJ {A B:Prop} (h:B) (t:Wr B → A:=by intro h; refine ZbT ?_;refine Za0 ?_;exact h.h):A:=t ⟨h⟩
abbrev ty3:TypeId:=135
abbrev C3:=Nat × Nat × Nat
def qcs (p:C3):List Value:=[.int .u8 p.1, .int .u8 p.2.1, .int .u8 p.2.2]
theorem z3j (p:C3):(qcs p).length = 3:=rfl
abbrev PS3 (cs:List C3) (fu:Bool):Value → Heap → Prop:=SlV ty3 3 (cs.flatMap qcs) cs.length fu
theorem z5r {cs:List C3} {j:Nat} {a b c:Nat} (h:cs[j]? = some (a, b, c)):((cs.flatMap qcs).drop (j * 3)).take 3 = [.int .u8 a, .int .u8 b, .int .u8 c]:=zd8 z3j cs j _ h
def drB (c:Nat):Bool:=decide (c % 2 = 1)
def zgx (l:List U) (c:C3):List U:=(zcf l (zte c.1 c.2.1) (drB c.2.2)).1
def sOf (ps:List (Nat × Nat)) (cs:List C3):List U:=(cs.take 30).foldl zgx (zij (tl ps))
structure SOK (l:List U):Prop where
 sst:Sst zcc l
 tz:∀ t ∈ l, TZ t
 ok:∀ t ∈ l, tE t = 0
theorem zzq {l:List U} (h:SOK l) {x:U} (hz:TZ x) (hx:tE x = 0) (d:Bool) (hl:l.length < 4096):SOK (zcf l x d).1 ∧ (zcf l x d).2 = 0 ∧ (zcf l x d).1.length ≤ l.length + 1:=by
 refine ⟨⟨zv0 h.sst x d, fun t ht => ?_, fun t ht => ?_⟩, ?_⟩
 ·rcases zo3 ht with ht | rfl
  ·exact h.tz t ht
  ·exact hz
 ·rcases zo3 ht with ht | rfl
  ·exact h.ok t ht
  ·exact hx
 ·unfold zcf
  rw [if_pos hx]
  split
  ·exact ⟨rfl, Nat.le_succ_of_le (List.length_filter_le _ _)⟩
  ·split
   ·exact ⟨rfl, Nat.le_succ _⟩
   ·rw [if_neg (by omega), zck]; exact ⟨rfl, Nat.le_refl _⟩
theorem zs2 {l:List U} (h:SOK l) (c:C3) (hl:l.length < 4096):SOK (zgx l c) ∧ (zcf l (zte c.1 c.2.1) (drB c.2.2)).2 = 0 ∧ (zgx l c).length ≤ l.length + 1:=zzq h (zk1 _ _) (zxh _ _) _ hl
theorem zs4 (ps:List (Nat × Nat)):SOK (zij (tl ps)) ∧ (zij (tl ps)).length ≤ 20:=by
 have hm:∀ t ∈ zij (tl ps), TZ t ∧ tE t = 0:=fun t ht => z12 (by unfold zij at ht; simpa using ze6.1 ht)
 refine ⟨⟨ze2 cmpT_ord Sst.nil, fun t ht => (hm t ht).1, fun t ht => (hm t ht).2⟩, ?_⟩
 have h1:=zpn (tl ps)
 have h2:=zki ps
 omega
theorem zsc:∀ (cs:List C3) {l:List U}, SOK l → l.length + cs.length < 4096 → SOK (cs.foldl zgx l) ∧ (cs.foldl zgx l).length ≤ l.length + cs.length
 | [], l, h, _ => ⟨h, Nat.le_refl _⟩
 | c :: cs, l, h, hl => by
  simp only [List.length_cons] at hl
  obtain ⟨h1, _, h3⟩:=zs2 h c (by omega)
  obtain ⟨g1, g2⟩:=zsc cs h1 (by omega)
  exact ⟨g1, by simp only [List.foldl_cons, List.length_cons]; omega⟩
theorem z5l (ps:List (Nat × Nat)) (cs:List C3):SOK (sOf ps cs) ∧ (sOf ps cs).length ≤ 50:=by
 obtain ⟨h1, h2⟩:=zs4 ps
 have h3:(cs.take 30).length ≤ 30:=by rw [List.length_take]; omega
 obtain ⟨g1, g2⟩:=zsc (cs.take 30) h1 (by omega)
 exact ⟨g1, by unfold sOf; omega⟩
theorem zyv {cs:List C3} {i:Nat} {c:C3} (h:cs[i]? = some c) (l:List U):(cs.take (i + 1)).foldl zgx l = zgx ((cs.take i).foldl zgx l) c:=by
 rw [List.take_add_one, h]
 simp
attribute [local irreducible] V N X VO Par StepOK Has Ret RetL RetO RetT Src
theorem z5n (c:Nat):Int.tmod (c:Int) 2 = ((c % 2:Nat):Int):=rfl
theorem z1f {a b c:Nat} {x:U} {d:Bool} (hx:zte a b = x) (hd:drB c = d) (ha:a ≤ 255) (hb:b ≤ 255) (hc:c ≤ 255) {w:World} {B:Heap} (hB:B.Le (hp w)):Ret Tryz.prog 51 [.agg #[.int .u8 a, .int .u8 b, .int .u8 c]] w B (fun v _ => v = chv x d):=by
 subst hx hd
 have hr:=z5n c
 refine qu Tryz.func51 rfl Tryz.ntmps51 (Nat.le_of_ble_eq_true rfl) hB ?_
 by_cases h1:c % 2 = 1
 ·have e1:drB c = true:=decide_eq_true h1
  rw [e1]
  refine ZA ?_;refine Zab ?_;refine ZdQ ?_;refine ZeX ?_;refine ZdP ?_;refine ZeX ?_;refine ZdP ?_;refine zd (y8 (cs:=[_, _]) rfl rfl z8u rfl rfl) rfl ?_;refine zd (q0 L rfl rfl (zn rfl) rfl rfl rfl (fun u H hH _ _ => zk2 a b ha hb hH)) rfl ?_;refine ZeX ?_;refine ZdP ?_;refine ZfK ?_;refine Zbw ?_;refine ZfL ?_;refine Zas ?_
  refine qt L (rs:=[.cell 2 42]) rfl (fun _ _ h => h) Since.refl fun u H hH hle => ?_
  refine Zct ?_
  rfl
 ·have e1:drB c = false:=decide_eq_false h1
  rw [e1]
  refine ZA ?_;refine Zab ?_;refine ZdQ ?_;refine ZeX ?_;refine ZdP ?_;refine ZeX ?_;refine ZdP ?_;refine zd (y8 (cs:=[_, _]) rfl rfl z8u rfl rfl) rfl ?_;refine zd (q0 L rfl rfl (zn rfl) rfl rfl rfl (fun u H hH _ _ => zk2 a b ha hb hH)) rfl ?_;refine ZeX ?_;refine ZdP ?_;refine ZfK ?_;refine Zbi ?_;refine ZfL ?_;refine Zas ?_
  refine qt L (rs:=[.cell 2 42]) rfl (fun _ _ h => h) Since.refl fun u H hH hle => ?_
  refine Zct ?_
  rfl
set_option maxHeartbeats 1000000 in
theorem zz7 {ps:List (Nat × Nat)} {cs:List C3} {fx fc:Bool} {M:List U} (hM:sOf ps cs = M) (hps:∀ p ∈ ps, p.1 ≤ 255 ∧ p.2 ≤ 255) (lps:ps.length ≤ 9223372036854775807) (hcs:∀ c ∈ cs, c.1 ≤ 255 ∧ c.2.1 ≤ 255 ∧ c.2.2 ≤ 255) (lcs:cs.length ≤ 9223372036854775807)
  {sx cx:Value} {w:World} {B:Heap} (hB:B.Le (hp w)) (hx:PS2 ps fx sx B) (hc:PS3 cs fc cx B):Ret Tryz.prog 30 [.agg #[sx, cx]] w B (US M false):=by
 have ofx:∀ (w:World) (B:Heap), B.Le (hp w) → PS2 ps fx sx B → Ret Tryz.prog 10 [.agg #[sx]] w B (US (tl ps) false):=fun w B hB hv => z29 hps lps hB hv
 obtain ⟨ok0, l0⟩:=zs4 ps
 have zp:∀ t ∈ tl ps, TZ t:=fun t ht => (z12 ht).1
 have lp:=zki ps
 unfold sOf at hM
 have rsx:=fun (v:Value) (w:World) (B:Heap) (hB:B.Le (hp w)) (hv:US (tl ps) false v B) => zgy (l:=tl ps) (by omega) zp hB hv
 have hrs:zfr zcc [] (tl ps) = zij (tl ps):=rfl
 generalize zij (tl ps) = l1 at *
 generalize tl ps = p at *
 refine qu Tryz.func30 rfl Tryz.ntmps30 (Nat.le_of_ble_eq_true rfl) hB ?_
 refine ZbO ?_;refine Zax ?_;refine z7 (q8 L (vs:=[_]) (qk rfl) rfl rfl rfl rfl ⟨_, rfl⟩) rfl ?_;refine z7 (yk (φ:=US p false) L rfl rfl (zn rfl) rfl rfl rfl SlV.mono (fun u H hH hle _ => ofx _ _ hH (hx.le hle))) rfl ?_;refine z7 (yk (φ:=US l1 false) L rfl rfl (zn rfl) rfl rfl rfl SlV.mono (fun u H hH _ _ v1 h1 => rsx _ _ _ hH h1)) rfl ?_;refine ZdJ ?_;refine Zy ?_;refine ZW ?_
 refine zao (fun i:Nat => [(1, .sat (At [sx, cx] 82 0)), (3, .sat (US ((cs.take i).foldl zgx l1) false)), (4, .is (.int .i64 i))])
  (fun i => i ≤ (cs.take 30).length) (fun i => (cs.take 30).length - i) 0 (Nat.zero_le _) ⟨rfl, rfl, rfl, trivial⟩ ?_
 rintro i hi
 have h30:(cs.take 30).length = min 30 cs.length:=List.length_take
 have hfin:i = (cs.take 30).length → (cs.take i).foldl zgx l1 = M:=fun e => by
  rw [← hM, e, h30]
  congr 1
  exact (List.take_eq_take_min (l:=cs) (i:=30)).symm
 by_cases h1:i < cs.length
 ·by_cases h2:i < 30
  ·obtain ⟨⟨a, b, c⟩, hn⟩:=zaw h1
   have hcc:=z5r hn
   obtain ⟨ka, kb, kc⟩:=hcs _ (List.mem_of_getElem? hn)
   dsimp only at ka kb kc
   have hst:=zyv hn l1
   obtain ⟨okl, ll⟩:=zsc (cs.take i) ok0 (by rw [List.length_take]; omega)
   rw [List.length_take] at ll
   obtain ⟨_, he, _⟩:=zs2 okl (a, b, c) (by omega)
   have hw:zcf ((cs.take i).foldl zgx l1) (zte a b) (drB c) = (zgx ((cs.take i).foldl zgx l1) (a, b, c), 0):=Prod.ext rfl he
   rw [← hst] at hw
   have hmono:Kn.mono (.sat (US ((cs.take (i + 1)).foldl zgx l1) false)):=SlV.mono
   have hz1:=zk1 a b
   generalize hxx:zte a b = x at hw hz1
   generalize hdd:drB c = d at hw
   refine Zba ?_;refine Zm ?_;refine zba 11 (PS3 cs fc) rfl SlV.mono hc ?_;refine Zdc ?_;refine Zcp ?_;refine ZB ?_;refine Za7 ?_;refine ZbP ?_;refine Zn ?_;refine Zf ?_;refine Zm ?_;refine zba 23 (PS3 cs fc) rfl SlV.mono hc ?_;refine ZbI ?_;refine z7 (y7 L (vs:=[_, _, _]) rfl rfl rfl rfl rfl ⟨_, rfl⟩) rfl ?_;refine z7 (q0 L rfl rfl (zn rfl) rfl rfl rfl (fun u H hH _ _ => z1f hxx hdd ka kb kc hH)) rfl ?_;refine z7 (yk (φ:=R6 ((cs.take (i + 1)).foldl zgx l1) 0) L rfl rfl (zn rfl) rfl rfl rfl R6.mono (fun u H hH _ _ v1 h1 => zwv hw okl.sst (by omega) hz1 okl.tz hH h1)) rfl ?_;refine Zbo ?_;refine Zcu ?_;refine Zav ?_;refine ZbV ?_
   exact yl (x:=i) (i + 1) (by omega) (by omega) ⟨rfl, rfl, rfl, trivial⟩
  ·obtain he:=hfin (by omega)
   rw [he]
   refine Zba ?_;refine Zm ?_;refine zba 11 (PS3 cs fc) rfl SlV.mono hc ?_;refine Zdc ?_;refine Zcp ?_;refine Zo ?_;refine Ze ?_;refine Zb0 ?_;refine Zf ?_;refine ZbE ?_
   refine qt L (rs:=[.tmp 2]) rfl (fun _ _ h => h) Since.refl fun u H hH hle => ?_
   exact fun v hv => hv
 ·obtain he:=hfin (by omega)
  rw [he]
  refine Zba ?_;refine Zm ?_;refine zba 11 (PS3 cs fc) rfl SlV.mono hc ?_;refine Zdc ?_;refine Zo ?_;refine ZaJ ?_;refine Ze ?_;refine Zb0 ?_;refine Zf ?_;refine ZbE ?_
  refine qt L (rs:=[.tmp 2]) rfl (fun _ _ h => h) Since.refl fun u H hH hle => ?_
  exact fun v hv => hv
end Go.V.L6
set_option maxRecDepth 20000
namespace Go.V.L6
open Go.Proofs Go.RowKit Go.V Go.V.L2 Go.V.L3
theorem zti:∀ (r:List U) {out:List U}, (∀ t ∈ r, tE t = 0) → out.length + r.length ≤ 4096 → ofU out r = (zfr zcc out r, 0)
 | [], _, _, _ => rfl
 | t :: r, out, hr, hl => by
  simp only [List.length_cons] at hl
  have h1:zcf out t false = (if t ∈ out then out else zib zcc t out, 0):=by
   unfold zcf
   rw [if_pos (hr t (List.mem_cons_self ..)), if_neg (by decide)]
   split
   ·rfl
   ·rw [if_neg (by omega)]
  rw [ofU, h1, if_pos rfl, zme]
  refine zti r (out:=if t ∈ out then out else zib zcc t out) (fun z hz => hr z (List.mem_cons_of_mem _ hz)) ?_
  split
  ·omega
  ·rw [zck]; omega
theorem ztj {l:List U} (h:SOK l) (hl:l.length ≤ 4096):ofU [] l = (l, 0):=by
 rw [zti l h.ok (by simpa using hl), zus cmpT_ord h.sst]
end Go.V.L6
set_option maxRecDepth 20000
namespace Go.V.L11
open Go.Proofs Go.RowKit Go.V Go.V.L2 Go.V.L3 Go.V.L4 Go.V.L6
def zoz (l:List U) (t:U):Bool:=match l.getLast? with
 | none => true
 | some y => decide (zcc y t < 0)
def zd3 (bs:List Nat):Nat → List U → Rd → (List U × Rd) × (Int × Int)
 | 0, l, R => ((l, R), (0, 0))
 | k + 1, l, R =>
  if (zea bs R).2.err ≠ 0 then ((l, R), (((zea bs R).2.bad:Int), (zea bs R).2.err))
  else if tE (zea bs R).1 ≠ 0 then ((l, R), ((R.at_:Int), 6))
  else if zoz l (zea bs R).1 = false then ((l, R), ((R.at_:Int), 18))
  else zd3 bs k (l ++ [(zea bs R).1]) (zea bs R).2
def zek (bs:List Nat):List U × Int × Int :=
 if (zbp bs 4096 ⟨0, 0, 0⟩).2.err ≠ 0 then ([], ((zbp bs 4096 ⟨0, 0, 0⟩).2.bad:Int), (zbp bs 4096 ⟨0, 0, 0⟩).2.err)
 else if (zd3 bs (zbp bs 4096 ⟨0, 0, 0⟩).1.toNat [] (zbp bs 4096 ⟨0, 0, 0⟩).2).2.2 ≠ 0 then ([], (zd3 bs (zbp bs 4096 ⟨0, 0, 0⟩).1.toNat [] (zbp bs 4096 ⟨0, 0, 0⟩).2).2)
 else if (zgp bs (zd3 bs (zbp bs 4096 ⟨0, 0, 0⟩).1.toNat [] (zbp bs 4096 ⟨0, 0, 0⟩).2).1.2).2 ≠ 0 then ([], ((zgp bs (zd3 bs (zbp bs 4096 ⟨0, 0, 0⟩).1.toNat [] (zbp bs 4096 ⟨0, 0, 0⟩).2).1.2).1:Int), (zgp bs (zd3 bs (zbp bs 4096 ⟨0, 0, 0⟩).1.toNat [] (zbp bs 4096 ⟨0, 0, 0⟩).2).1.2).2)
 else ((zd3 bs (zbp bs 4096 ⟨0, 0, 0⟩).1.toNat [] (zbp bs 4096 ⟨0, 0, 0⟩).2).1.1, 0, 0)
theorem zsr {α:Type} {f:Rd → α × Rd} {z:α} {R:Rd} (P:α → Prop) (hz:P z) (hf:P (f R).1):P (zdr f z R).1:=by
 unfold zdr
 split
 ·exact hz
 ·split
  ·exact hz
  ·exact hf
theorem zkf {bs:List Nat} {lim:Nat} {R:Rd} (hl:lim ≤ 1099511627776):(zcp bs lim R).1.size ≤ lim:=by
 refine zsr (fun s:ByteArray => s.size ≤ lim) (Nat.zero_le _) ?_
 unfold zg7
 split
 ·exact Nat.zero_le _
 ·rename_i h
  have h0:(zbp bs lim R).2.err = 0:=Decidable.not_not.1 fun h2 => h (.inl h2)
  obtain ⟨n, hn, hn2⟩:=zjy hl h0
  rw [hn, Int.toNat_natCast]
  show (List.map UInt8.ofNat ((bs.drop _).take n)).toArray.size ≤ lim
  rw [List.size_toArray, List.length_map, List.length_take]
  omega
theorem zxu {bs:List Nat} {R:Rd}:(zr4 bs R).1.1.size ≤ 16 ∧ (zr4 bs R).1.2.size ≤ 16 :=
 zsr (fun s:ByteArray × ByteArray => s.1.size ≤ 16 ∧ s.2.size ≤ 16) ⟨by decide, by decide⟩ ⟨zkf (by decide), zkf (by decide)⟩
theorem zmy {bs:List Nat} {R:Rd}:((zbj bs R).1.1.1.size ≤ 16 ∧ (zbj bs R).1.1.2.size ≤ 16) ∧ (zbj bs R).1.2.size ≤ 16 :=
 zsr (fun s:zsm => (s.1.1.size ≤ 16 ∧ s.1.2.size ≤ 16) ∧ s.2.size ≤ 16) ⟨⟨by decide, by decide⟩, by decide⟩ ⟨zxu, zkf (by decide)⟩
theorem zrh {bs:List Nat} {R:Rd}:TZ (zea bs R).1:=by
 refine zsr TZ (by unfold TZ; decide) ?_
 have h1:=zmy (bs:=bs) (R:=R)
 have h2:=zmy (bs:=bs) (R:=(zbj bs R).2)
 unfold TZ zsx
 dsimp only
 omega
theorem zs5 {l:List U} {t:U} (h:SOK l) (he:tE t = 0) (hb:zoz l t = true):SOK (l ++ [t]):=by
 obtain ⟨h1, h2, h3⟩:=h
 refine ⟨?_, ?_, ?_⟩
 ·unfold Sst
  rw [List.pairwise_append]
  refine ⟨h1, List.pairwise_singleton _ _, fun a ha b hb2 => ?_⟩
  rw [List.mem_singleton] at hb2
  subst hb2
  unfold zoz at hb
  cases hl:l.getLast? with
  | none => rw [List.getLast?_eq_none_iff] at hl; subst hl; cases ha
  | some y =>
   rw [hl] at hb
   have hy:zcc y b < 0:=of_decide_eq_true hb
   obtain ⟨m, rfl⟩:=List.getLast?_eq_some_iff.1 hl
   rcases List.mem_append.1 ha with ha | ha
   ·unfold Sst at h1
    rw [List.pairwise_append] at h1
    exact cmpT_ord.tr (h1.2.2 a ha y (List.mem_singleton_self _)) hy
   ·rw [List.mem_singleton] at ha
    subst ha
    exact hy
 ·intro x hx
  rcases List.mem_append.1 hx with hx | hx
  ·exact h2 x hx
  ·rw [List.mem_singleton] at hx
   subst hx
   exact z7m he
 ·intro x hx
  rcases List.mem_append.1 hx with hx | hx
  ·exact h3 x hx
  ·rw [List.mem_singleton] at hx
   subst hx
   exact he
end Go.V.L11
set_option maxRecDepth 20000
namespace Go.V.L11
open Go.Proofs Go.RowKit Go.V Go.V.L2 Go.V.L3 Go.V.L4 Go.V.L6 Go.V.L8
theorem zc9 {α:Type} {f:Rd → α × Rd} {z:α} {R:Rd} (h:R.err ≠ 0):zdr f z R = (z, R):=if_pos h
theorem znb {α β:Type} {f:Rd → α × Rd} {g:Rd → β × Rd} {zf:α} {zg:β} (hf:∀ R:Rd, R.err ≠ 0 → f R = (zf, R)) (hg:∀ R:Rd, R.err ≠ 0 → g R = (zg, R)) (R:Rd) :
  zdr (zsx f g) (zf, zg) R = if (g (f R).2).2.err ≠ 0 then ((zf, zg), ⟨R.at_, (g (f R).2).2.bad, (g (f R).2).2.err⟩) else (((f R).1, (g (f R).2).1), (g (f R).2).2):=by
 unfold zdr
 by_cases h0:R.err ≠ 0
 ·rw [if_pos h0, hf R h0]
  dsimp only
  rw [hg R h0, if_pos h0]
 ·rw [if_neg h0]
  rfl
theorem zf8 {bs:List Nat} {R:Rd} {k:Nat} (h:(zbh bs R k).err ≠ 0):zbh bs R (k + 1) = zbh bs R k:=congrArg Prod.snd (zc9 (f:=zg7 bs 16) (z:=sZ) h)
theorem z3y {bs:List Nat} {R:Rd}:zr4 bs R = if (zbh bs R 2).err ≠ 0 then ((sZ, sZ), ⟨R.at_, (zbh bs R 2).bad, (zbh bs R 2).err⟩) else (((zcp bs 16 R).1, (zcp bs 16 (zbh bs R 1)).1), zbh bs R 2) :=
 znb (fun _ h => zc9 h) (fun _ h => zc9 h) R
theorem zht {bs:List Nat} {R:Rd}:zbj bs R = if (zbh bs R 3).err ≠ 0 then (n3, ⟨R.at_, (zbh bs R 3).bad, (zbh bs R 3).err⟩) else ((((zcp bs 16 R).1, (zcp bs 16 (zbh bs R 1)).1), (zcp bs 16 (zbh bs R 2)).1), zbh bs R 3):=by
 have h:=znb (f:=zr4 bs) (g:=zcp bs 16) (zf:=(sZ, sZ)) (zg:=sZ) (fun _ h => zc9 h) (fun _ h => zc9 h) R
 unfold zbj
 refine h.trans ?_
 rw [z3y]
 by_cases h2:(zbh bs R 2).err ≠ 0
 ·rw [if_pos h2]
  dsimp only
  have hs:zcp bs 16 ⟨R.at_, (zbh bs R 2).bad, (zbh bs R 2).err⟩ = (sZ, ⟨R.at_, (zbh bs R 2).bad, (zbh bs R 2).err⟩):=zc9 h2
  rw [hs, zf8 h2, if_pos h2, if_pos h2]
 ·rw [if_neg h2]
  rfl
def uOf:List ByteArray → U
 | [a, b, c, d, e, f] => (((a, b), c), ((d, e), f))
 | _ => (n3, n3)
theorem z1y {l:List ByteArray} (h:l.length = 6):u6 (uOf l) = l:=by
 match l, h with
 | [_, _, _, _, _, _], _ => rfl
theorem z0t {bs:List Nat} {R:Rd}:(zvu bs R).1.length = 6:=by
 unfold zvu
 split
 ·rfl
 ·exact zho 6
theorem ztm {bs:List Nat} {R:Rd}:zbh bs (zbh bs R 3) 3 = zbh bs R 6:=by simp only [zbh]
theorem zx5 {bs:List Nat} {R:Rd}:zbh bs (zbh bs R 3) 1 = zbh bs R 4:=by simp only [zbh]
theorem zx6 {bs:List Nat} {R:Rd}:zbh bs (zbh bs R 3) 2 = zbh bs R 5:=by simp only [zbh]
theorem z0s {bs:List Nat} {R:Rd}:zmr bs R 6 = [(zcp bs 16 R).1, (zcp bs 16 (zbh bs R 1)).1, (zcp bs 16 (zbh bs R 2)).1, (zcp bs 16 (zbh bs R 3)).1, (zcp bs 16 (zbh bs R 4)).1, (zcp bs 16 (zbh bs R 5)).1]:=by
 simp only [zmr, zbh, List.nil_append, List.cons_append]
theorem zu9 {bs:List Nat} {R:Rd} (h3:(zbh bs R 3).err ≠ 0):zbh bs R 6 = zbh bs R 3:=by
 have h4:=zf8 h3
 have h5:=zf8 (k:=4) (h4 ▸ h3)
 have h6:=zf8 (k:=5) (h5 ▸ h4 ▸ h3)
 exact h6.trans (h5.trans h4)
theorem zne {bs:List Nat} {R:Rd}:zea bs R = if (zbj bs (zbj bs R).2).2.err ≠ 0 then ((n3, n3), ⟨R.at_, (zbj bs (zbj bs R).2).2.bad, (zbj bs (zbj bs R).2).2.err⟩) else (((zbj bs R).1, (zbj bs (zbj bs R).2).1), (zbj bs (zbj bs R).2).2):=znb (f:=zbj bs) (g:=zbj bs) (zf:=n3) (zg:=n3) (fun _ h => zc9 h) (fun _ h => zc9 h) R
theorem zvg {bs:List Nat} {R:Rd} (h:R.err ≠ 0):zbj bs R = (n3, R):=zc9 h
theorem zsb {bs:List Nat} {a b:Nat} {e:Int} (h:e ≠ 0):zbj bs ⟨a, b, e⟩ = (n3, ⟨a, b, e⟩):=zvg (R:=⟨a, b, e⟩) h
theorem zyt {α:Type} {a b:Nat} {e:Int} {x y:α} (h:e ≠ 0):(if (⟨a, b, e⟩:Rd).err ≠ 0 then x else y) = x:=if_pos h
theorem z5b {bs:List Nat} {R:Rd} (h3:(zbh bs R 3).err ≠ 0):zea bs R = ((n3, n3), ⟨R.at_, (zbh bs R 3).bad, (zbh bs R 3).err⟩):=by
 have hG:=zht (bs:=bs) (R:=R)
 rw [if_pos h3] at hG
 rw [zne, hG]
 generalize zbh bs R 3 = Q at h3 ⊢
 obtain ⟨q1, q2, q3⟩:=Q
 have hs:=zsb (bs:=bs) (a:=R.at_) (b:=q2) h3
 dsimp only at hs ⊢
 rw [hs]
 exact zyt h3
theorem z7o {bs:List Nat} {R Q3:Rd} {g:zsm} {a b:Nat} {e:Int} (hG:zbj bs R = (g, Q3)) (hg:zbj bs Q3 = (n3, ⟨a, b, e⟩)) (h6:e ≠ 0):zea bs R = ((n3, n3), ⟨R.at_, b, e⟩):=by
 rw [zne, hG]
 dsimp only
 rw [hg]
 exact zyt h6
theorem z7n {bs:List Nat} {R Q3 Q6:Rd} {g h:zsm} (hG:zbj bs R = (g, Q3)) (hg:zbj bs Q3 = (h, Q6)) (h6:¬ Q6.err ≠ 0):zea bs R = ((g, h), Q6):=by
 rw [zne, hG]
 dsimp only
 rw [hg]
 exact if_neg h6
theorem z5a {bs:List Nat} {R:Rd} (h3:¬ (zbh bs R 3).err ≠ 0) (h6:(zbh bs R 6).err ≠ 0):zea bs R = ((n3, n3), ⟨R.at_, (zbh bs R 6).bad, (zbh bs R 6).err⟩):=by
 have hG:=zht (bs:=bs) (R:=R)
 rw [if_neg h3] at hG
 have hg:=zht (bs:=bs) (R:=zbh bs R 3)
 rw [ztm, if_pos h6] at hg
 exact z7o hG hg h6
theorem z49 {bs:List Nat} {R:Rd} (h3:¬ (zbh bs R 3).err ≠ 0) (h6:¬ (zbh bs R 6).err ≠ 0):zea bs R = (((((zcp bs 16 R).1, (zcp bs 16 (zbh bs R 1)).1), (zcp bs 16 (zbh bs R 2)).1), (((zcp bs 16 (zbh bs R 3)).1, (zcp bs 16 (zbh bs R 4)).1), (zcp bs 16 (zbh bs R 5)).1)), zbh bs R 6):=by
 have hG:=zht (bs:=bs) (R:=R)
 rw [if_neg h3] at hG
 have hg:=zht (bs:=bs) (R:=zbh bs R 3)
 rw [ztm, zx5, zx6, if_neg h6] at hg
 exact z7n hG hg h6
theorem zg9 {bs:List Nat} {R:Rd}:zea bs R = (uOf (zvu bs R).1, (zvu bs R).2):=by
 unfold zvu
 by_cases h3:(zbh bs R 3).err ≠ 0
 ·rw [z5b h3, zu9 h3, if_pos h3]
  dsimp only [uOf]
 ·by_cases h6:(zbh bs R 6).err ≠ 0
  ·rw [z5a h3 h6, if_pos h6]
   dsimp only [uOf]
  ·rw [z49 h3 h6, if_neg h6, z0s]
   dsimp only [uOf]
def zku (bs:List Nat) (l:List U) (R:Rd):U × Rd :=
 if (zea bs R).2.err ≠ 0 then zea bs R
 else if tE (zea bs R).1 ≠ 0 then ((zea bs R).1, ⟨R.at_, R.at_, 6⟩)
 else if zoz l (zea bs R).1 = false then ((zea bs R).1, ⟨R.at_, R.at_, 18⟩)
 else zea bs R
theorem z0c {bs:List Nat} {l:List U} {R:Rd} (h:R.at_ ≤ bs.length):(zku bs l R).2.at_ ≤ bs.length:=by
 unfold zku
 split
 ·exact znf h
 ·split
  ·exact h
  ·split
   ·exact h
   ·exact znf h
attribute [local irreducible] V N X VO Par XP LV StepOK Has Ret RetL RetO RetT zbd RetX RetY Pan zjl Src
theorem zi4 {p:Option Addr} {k c:Nat} {R:Rd} {a:Nat} {e:Int} {w:World} {B:Heap} (hB:B.Le (hp w)) :
  Ret Tryz.prog 81 [rv (.slice p k c) R, .int .i64 a, .int .i64 e] w B (fun v _ => v = rv (.slice p k c) ⟨R.at_, a, e⟩):=by
 obtain ⟨at_, bad, err⟩:=R
 refine qu Tryz.func81 rfl Tryz.ntmps81 (Nat.le_of_ble_eq_true rfl) hB ?_
 refine ZZ ?_;refine Zab ?_
 refine zey 3 rfl fun b3 hb3 => ?_
 refine ZbD ?_;refine Zdn ?_;refine Z4 ?_;refine Zdn ?_;refine Zk ?_;refine Zew ?_;refine Z1 ?_
 refine qt L (rs:=[.cell 6 166]) rfl (fun _ _ h => h) Since.refl fun u H hH hle => ?_
 exact ⟨_, qg rfl, rfl, rfl⟩
theorem zuz {bs:List Nat} {p:Option Addr} {c:Nat} {R:Rd} {w:World} {B:Heap} (hB:B.Le (hp w)) :
  Ret Tryz.prog 84 [rv (.slice p bs.length c) R] w B (fun v _ => v = .tuple #[.int .i64 (zgp bs R).1, .int .i64 (zgp bs R).2]):=by
 obtain ⟨at_, bad, err⟩:=R
 unfold zgp
 dsimp only [rv]
 refine qu Tryz.func84 rfl Tryz.ntmps84 (Nat.le_of_ble_eq_true rfl) hB ?_
 by_cases h0:err = 0
 ·subst h0
  by_cases h1:at_ < bs.length
  ·rw [if_pos ⟨rfl, h1⟩]
   refine ZdH ?_;refine Zm ?_;refine ZJ ?_;refine Za ?_;refine Zm ?_;refine Zm ?_;refine Zcj ?_;refine ZB ?_;refine Ze ?_;refine ZaK ?_;refine Zm ?_;refine Z5 ?_
   refine qt L (rs:=[.tmp 2, .tmp 3]) rfl (fun _ _ h => h) Since.refl fun u H hH hle => ?_
   rfl
  ·rw [if_neg (fun h => h1 h.2)]
   refine ZdH ?_;refine Zm ?_;refine ZJ ?_;refine Za ?_;refine Zm ?_;refine Zm ?_;refine Zcj ?_;refine Zo ?_;refine ZY ?_;refine ZcQ ?_;refine ZaN ?_;refine ZbB ?_
   refine qt L (rs:=[.tmp 2, .tmp 3]) rfl (fun _ _ h => h) Since.refl fun u H hH hle => ?_
   rfl
 ·rw [if_neg (fun h => h0 h.1)]
  refine ZdH ?_;refine Zm ?_;refine ZR ?_;refine Zey ?_;refine ZY ?_;refine ZcQ ?_;refine ZaN ?_;refine ZbB ?_
  refine qt L (rs:=[.tmp 2, .tmp 3]) rfl (fun _ _ h => h) Since.refl fun u H hH hle => ?_
  rfl
theorem z0f {t:U} {fu:Bool} {v:Value} {w:World} {B:Heap} (hB:B.Le (hp w)) (hv:SlV z2z 1 ((u6 t).map Value.string) 6 fu v B) :
  Ret Tryz.prog 151 [v] w B (fun r _ => r = uv t):=by
 obtain ⟨⟨⟨s1, s2⟩, s3⟩, ⟨⟨s4, s5⟩, s6⟩⟩:=t
 refine qu Tryz.func151 rfl Tryz.ntmps151 (Nat.le_of_ble_eq_true rfl) hB ?_
 refine za4 0 (SlV z2z 1 [.string s1, .string s2, .string s3, .string s4, .string s5, .string s6] 6 fu) rfl SlV.mono hv ?_
 refine Zfl ?_;refine ZdQ ?_;refine Zal ?_;refine zd (qr L 0 rfl rfl rfl rfl rfl rfl rfl (by decide) rfl) rfl ?_;refine Zck ?_;refine Zal ?_;refine zd (qr L 1 rfl rfl rfl rfl rfl rfl rfl (by decide) rfl) rfl ?_;refine Zck ?_;refine Zfj ?_;refine Zal ?_;refine zd (qr L 2 rfl rfl rfl rfl rfl rfl rfl (by decide) rfl) rfl ?_;refine Zck ?_;refine zd (y8 (cs:=[_, _, _]) rfl rfl z7w rfl rfl) rfl ?_;refine Zal ?_;refine zd (qr L 3 rfl rfl rfl rfl rfl rfl rfl (by decide) rfl) rfl ?_;refine Zck ?_;refine Zal ?_;refine zd (qr L 4 rfl rfl rfl rfl rfl rfl rfl (by decide) rfl) rfl ?_;refine Zck ?_;refine Zfj ?_;refine Zal ?_;refine zd (qr L 5 rfl rfl rfl rfl rfl rfl rfl (by decide) rfl) rfl ?_;refine Zck ?_;refine zd (y8 (cs:=[_, _, _]) rfl rfl z8w rfl rfl) rfl ?_;refine zd (y8 (cs:=[_, _, _, _, _, _]) rfl rfl z7v rfl rfl) rfl ?_;refine Zas ?_
 refine qt L (rs:=[.cell 2 34]) rfl (fun _ _ h => h) Since.refl fun u H hH hle => ?_
 refine Zct ?_
 rfl
end Go.V.L11
set_option maxRecDepth 20000
namespace Go.V.L11
open Go.Proofs Go.RowKit Go.V Go.V.L2 Go.V.L3 Go.V.L4 Go.V.L6 Go.V.L8
theorem _root_.Go.V.ZeY {A B:Prop} (h:B) (t:Wr B → A:=by intro h; refine Zal ?_;refine zd (y0 L rfl rfl rfl rfl) rfl ?_;exact h.h):A:=t ⟨h⟩
theorem NamP.mono {sv:Value} {x:List ByteArray × Rd}:Kn.mono (.sat (NamP sv x)):=TupS.mono fun φ hφ => by
 simp only [List.mem_cons, List.mem_nil_iff, or_false] at hφ
 rcases hφ with rfl | rfl
 ·exact SlV.mono
 ·exact fun _ _ _ h _ => h
attribute [local irreducible] V N X VO Par XP LV StepOK Has Ret RetL RetO RetT zbd RetX RetY Pan zjl Src
set_option maxHeartbeats 1000000 in
theorem zp3 {bs:List Nat} {fu gu:Bool} {p:Option Addr} {c:Nat} {R:Rd} {l:List U} (hll:l.length ≤ 4096) (hz:∀ t ∈ l, TZ t) (hb:∀ b ∈ bs, b ≤ 255) (hl:bs.length ≤ 1099511627776) (hat:R.at_ ≤ bs.length) {lv:Value} {w:World} {B:Heap} (hB:B.Le (hp w)) (hv:BsV bs fu (.slice p bs.length c) B) (hlv:US l gu lv B) :
  Ret Tryz.prog 104 [rv (.slice p bs.length c) R, lv] w B (fun v _ => v = .tuple #[uv (zku bs l R).1, rv (.slice p bs.length c) (zku bs l R).2]):=by
 have hnm:=fun (u:World) (H:Heap) (hH:H.Le (hp u)) (hle:B.Le H) => zx2 hb hl hat hH (hv.le hle)
 have htz:=zrh (bs:=bs) (R:=R)
 have hlen:=z0t (bs:=bs) (R:=R)
 unfold zku
 rw [zg9] at htz ⊢
 obtain ⟨ns, ⟨a2, b2, e2⟩, hn⟩:∃ ns R2, zvu bs R = (ns, R2):=⟨_, _, rfl⟩
 rw [hn] at hnm htz hlen ⊢
 dsimp only at htz hlen ⊢
 obtain ⟨t, ht⟩:∃ t, uOf ns = t:=⟨_, rfl⟩
 have hu6:=z1y hlen
 rw [ht] at htz hu6 ⊢
 subst hu6
 unfold NamP at hnm
 dsimp only [rv] at hnm ⊢
 have hms:Kn.mono (.sat (SlV z2z 1 ((u6 t).map Value.string) 6 true)):=SlV.mono
 have hmr:Kn.mono (.sat fun (v:Value) (_:Heap) => v = .agg #[.slice p bs.length c, .int .i64 a2, .int .i64 b2, .int .i64 e2]):=fun _ _ _ h _ => h
 obtain ⟨at_, bad, err⟩:=R
 dsimp only [rv] at hnm ⊢
 refine qu Tryz.func104 rfl Tryz.ntmps104 (Nat.le_of_ble_eq_true rfl) hB ?_
 refine za4 1 (US l gu) rfl SlV.mono hlv ?_
 refine ZA ?_;refine ZE ?_;refine Zab ?_;refine Zx ?_;refine Zbp ?_;refine z7 (yk (φ:=NamP (.slice p bs.length c) (u6 t, ⟨a2, b2, e2⟩)) L rfl rfl (zn rfl) rfl rfl rfl NamP.mono (fun u H hH hle _ => hnm u H hH hle)) rfl ?_;refine Zbo ?_;refine ZaG ?_;refine ZE ?_;refine ZbT ?_;refine ZaB ?_;refine Zj ?_;refine Zy ?_;refine Zf ?_;refine z7 (q0 L rfl rfl (zn rfl) rfl rfl rfl (fun u H hH _ _ v1 h1 => z0f (t:=t) hH h1)) rfl ?_;refine Zby ?_
 refine zey 7 rfl fun b7 hb7 => ?_
 by_cases h0:e2 ≠ 0
 ·rw [if_pos h0]
  refine Zk ?_;refine Zu ?_;refine Zz ?_;refine Zch ?_;refine Zca ?_;refine ZcU ?_;refine ZcI ?_;refine Zas ?_
  refine qt L (rs:=[.cell 4 34, .cell 5 166]) rfl (fun _ _ h => h) Since.refl fun u H hH hle => ?_
  exact ⟨_, qg rfl, rfl, ⟨_, qg rfl, rfl, rfl⟩⟩
 ·rw [if_neg h0]
  by_cases h1:tE t ≠ 0
  ·rw [if_pos h1]
   refine Zk ?_;refine Zu ?_;refine Zad ?_;refine Zn ?_;refine ZP ?_;refine z7 (q0 L rfl rfl (zn rfl) rfl rfl rfl (fun u H hH _ _ => zby htz hH)) rfl ?_;refine Zz ?_;refine Zde ?_;refine Zca ?_;refine ZcS ?_;refine ZaN ?_;refine zd (q0 L rfl rfl (zn rfl) rfl rfl rfl (fun u H hH _ _ => zi4 (R:=⟨at_, bad, err⟩) (a:=at_) (e:=6) hH)) rfl ?_;refine ZcI ?_;refine Zas ?_
   refine qt L (rs:=[.cell 4 34, .cell 5 166]) rfl (fun _ _ h => h) Since.refl fun u H hH hle => ?_
   exact ⟨_, qg rfl, rfl, ⟨_, qg rfl, rfl, rfl⟩⟩
  ·rw [if_neg h1]
   cases hgl:l.getLast? with
   | none =>
    have hl0:l = []:=List.getLast?_eq_none_iff.1 hgl
    subst hl0
    have hbh:zoz [] t = true:=rfl
    rw [if_neg (by rw [hbh]; decide)]
    refine Zk ?_;refine Zu ?_;refine Zad ?_;refine Zn ?_;refine ZP ?_;refine z7 (q0 L rfl rfl (zn rfl) rfl rfl rfl (fun u H hH _ _ => zby htz hH)) rfl ?_;refine Zad ?_;refine Zd7 ?_;refine ZeY ?_;refine zd (yi rfl rfl rfl rfl rfl) rfl ?_;refine Zd9 ?_;refine ZcK ?_;refine Zdk ?_;refine Zci ?_;refine qh (id:=9) [] mixed (by kernel_rfl) ?_;refine Zca ?_;refine ZcU ?_;refine ZcI ?_;refine Zas ?_
    refine qt L (rs:=[.cell 4 34, .cell 5 166]) rfl (fun _ _ h => h) Since.refl fun u H hH hle => ?_
    exact ⟨_, qg rfl, rfl, ⟨_, qg rfl, rfl, rfl⟩⟩
   | some y =>
    obtain ⟨m', rfl⟩:=List.getLast?_eq_some_iff.1 hgl
    have hml:(m' ++ [y]).length = m'.length + 1:=by simp
    have hws:IntKind.i64.wrap ((((m' ++ [y]).length:Nat):Int) - 1) = ((m'.length:Nat):Int):=(zad (by omega) (by omega)).trans (by omega)
    have hcr:=ze0 (l:=m' ++ [y]) (i:=m'.length) (t:=y) (by simp)
    have hy:=hz y (by simp)
    by_cases hc:zcc y t < 0
    ·have hbh:zoz (m' ++ [y]) t = true:=by unfold zoz; rw [hgl]; exact decide_eq_true hc
     rw [if_neg (by rw [hbh]; decide)]
     refine Zk ?_;refine Zu ?_;refine Zad ?_;refine Zn ?_;refine ZP ?_;refine z7 (q0 L rfl rfl (zn rfl) rfl rfl rfl (fun u H hH _ _ => zby htz hH)) rfl ?_;refine Zad ?_;refine Zd7 ?_;refine ZeY ?_;refine Zfe ?_;refine Zi ?_;refine Zal ?_;refine ZeY ?_;refine Zen ?_;refine Zfh ?_;refine Zca ?_;refine zd (q0 L rfl rfl (zn rfl) rfl rfl rfl (fun u H hH _ _ => zhh hy htz hH)) rfl ?_;refine ZeO ?_;refine Zag ?_;refine Zci ?_;refine qh (id:=9) [] mixed (by kernel_rfl) ?_;refine Zca ?_;refine ZcU ?_;refine ZcI ?_;refine Zas ?_
     refine qt L (rs:=[.cell 4 34, .cell 5 166]) rfl (fun _ _ h => h) Since.refl fun u H hH hle => ?_
     exact ⟨_, qg rfl, rfl, ⟨_, qg rfl, rfl, rfl⟩⟩
    ·have hbh:zoz (m' ++ [y]) t = false:=by unfold zoz; rw [hgl]; exact decide_eq_false hc
     rw [if_pos hbh]
     refine Zk ?_;refine Zu ?_;refine Zad ?_;refine Zn ?_;refine ZP ?_;refine z7 (q0 L rfl rfl (zn rfl) rfl rfl rfl (fun u H hH _ _ => zby htz hH)) rfl ?_;refine Zad ?_;refine Zd7 ?_;refine ZeY ?_;refine Zfe ?_;refine Zi ?_;refine Zal ?_;refine ZeY ?_;refine Zen ?_;refine Zfh ?_;refine Zca ?_;refine zd (q0 L rfl rfl (zn rfl) rfl rfl rfl (fun u H hH _ _ => zhh hy htz hH)) rfl ?_;refine Zer ?_;refine Zag ?_;refine Zbg ?_;refine zj ?_;refine Zcq ?_;refine Zca ?_;refine ZcS ?_;refine ZaN ?_;refine zd (q0 L rfl rfl (zn rfl) rfl rfl rfl (fun u H hH _ _ => zi4 (R:=⟨at_, bad, err⟩) (a:=at_) (e:=18) hH)) rfl ?_;refine ZcI ?_;refine Zas ?_
     refine qt L (rs:=[.cell 4 34, .cell 5 166]) rfl (fun _ _ h => h) Since.refl fun u H hH hle => ?_
     exact ⟨_, qg rfl, rfl, ⟨_, qg rfl, rfl, rfl⟩⟩
end Go.V.L11
set_option maxRecDepth 20000
namespace Go.V.L11
open Go.Proofs Go.RowKit Go.V Go.V.L2 Go.V.L3 Go.V.L4 Go.V.L6 Go.V.L8
theorem _root_.Go.V.Zfu {A B:Prop} (h:B) (t:Wr B → A:=by intro h; refine qy (zf5 L (q:=912) (vs:=[_, _, _, _]) rfl rfl rfl rfl rfl rfl ⟨[], rfl⟩) ?_;exact h.h):A:=t ⟨h⟩
theorem _root_.Go.V.ZdK {A B:Prop} (h:B) (t:Wr B → A:=by intro h; refine Ze6 ?_;refine Zb6 ?_;exact h.h):A:=t ⟨h⟩
def z8l (bs:List Nat) (Y:(List U × Rd) × (Int × Int)):List U × Int × Int :=
 if Y.2.2 ≠ 0 then ([], Y.2) else if (zgp bs Y.1.2).2 ≠ 0 then ([], ((zgp bs Y.1.2).1:Int), (zgp bs Y.1.2).2) else (Y.1.1, 0, 0)
structure RJ (bs:List Nat) (n:Nat) (i:Nat) (l:List U) (R:Rd):Prop where
 hi:i ≤ n
 len:l.length = i
 tz:∀ t ∈ l, TZ t
 at_:R.at_ ≤ bs.length
 out:(R.err ≠ 0 ∧ zek bs = ([], (R.bad:Int), R.err)) ∨ (R.err = 0 ∧ zek bs = z8l bs (zd3 bs (n - i) l R))
theorem RJ.start {bs:List Nat} {n:Nat} {R:Rd} (h:zbg bs 4096 3 ⟨0, 0, 0⟩ = (n, R)):RJ bs n 0 [] R:=by
 obtain ⟨h2, h1⟩:=zqn (bs:=bs) (lim:=4096) (by decide) ⟨0, 0, 0⟩
 have ha:R.at_ ≤ bs.length:=by have:=zto (bs:=bs) (lim:=4096) (e:=3) (R:=⟨0, 0, 0⟩) (Nat.zero_le _); rw [h] at this; exact this
 rw [h] at h2 h1
 dsimp only at h2 h1
 refine ⟨Nat.zero_le _, rfl, (fun _ h => by cases h), ha, ?_⟩
 unfold zek
 rw [h2] at h1 ⊢
 by_cases h0:R.err ≠ 0
 ·exact .inl ⟨h0, if_pos h0⟩
 ·have h00:R.err = 0:=Decidable.not_not.1 h0
  refine .inr ⟨h00, ?_⟩
  rw [if_neg h0, h1 h00, Int.toNat_natCast]
  rfl
theorem zwx {bs:List Nat} {l:List U} {R:Rd}:(zku bs l R).1 = (zea bs R).1:=by
 unfold zku
 split
 ·rfl
 ·split
  ·rfl
  ·split
   ·rfl
   ·rfl
theorem zsl {bs:List Nat} {x:List U × Rd} {a e:Int} (h:e ≠ 0):z8l bs (x, (a, e)) = ([], a, e):=if_pos h
theorem RJ.step {bs:List Nat} {n i:Nat} {l:List U} {R:Rd} (h:RJ bs n i l R) (hi:i < n) (h0:R.err = 0):RJ bs n (i + 1) (l ++ [(zku bs l R).1]) (zku bs l R).2:=by
 refine ⟨hi, by rw [List.length_append, h.len]; rfl, fun t ht => ?_, z0c h.at_, ?_⟩
 ·rcases List.mem_append.1 ht with h1 | h1
  ·exact h.tz t h1
  ·simp only [List.mem_cons, List.mem_nil_iff, or_false] at h1
   subst h1
   rw [zwx]
   exact zrh
 ·obtain ⟨h1, _⟩ | ⟨_, hW⟩:=h.out
  ·exact absurd h0 h1
  ·obtain ⟨m, hm⟩:∃ m, n - i = m + 1:=⟨n - i - 1, by omega⟩
   rw [hm] at hW
   rw [show n - (i + 1) = m by omega]
   unfold zd3 at hW
   unfold zku
   generalize zea bs R = T at hW ⊢
   obtain ⟨t, R2⟩:=T
   dsimp only at hW ⊢
   by_cases h2:R2.err ≠ 0
   ·rw [if_pos h2] at hW ⊢
    exact .inl ⟨h2, hW.trans (zsl h2)⟩
   ·rw [if_neg h2] at hW ⊢
    by_cases he:tE t ≠ 0
    ·rw [if_pos he] at hW ⊢
     exact .inl ⟨(by decide:(6:Int) ≠ 0), hW.trans (zsl (by decide))⟩
    ·rw [if_neg he] at hW ⊢
     by_cases hb:zoz l t = false
     ·rw [if_pos hb] at hW ⊢
      exact .inl ⟨(by decide:(18:Int) ≠ 0), hW.trans (zsl (by decide))⟩
     ·rw [if_neg hb] at hW ⊢
      exact .inr ⟨Decidable.not_not.1 h2, hW⟩
abbrev RrP (x:List U × Int × Int):Value → Heap → Prop:=TupS [US x.1 false, fun v _ => v = .int .i64 x.2.1, fun v _ => v = .int .i64 x.2.2]
theorem RJ.done {bs:List Nat} {n i:Nat} {l:List U} {R:Rd} (h:RJ bs n i l R) (hi:¬ (i < n ∧ R.err = 0)):zek bs = if (zgp bs R).2 ≠ 0 then ([], ((zgp bs R).1:Int), (zgp bs R).2) else (l, 0, 0):=by
 obtain ⟨h1, h2⟩ | ⟨h1, h2⟩:=h.out
 ·have he:zgp bs R = (R.bad, R.err):=if_neg fun h => h1 h.1
  rw [he, if_pos h1]
  exact h2
 ·have hin:i = n:=by have:=h.hi; have:¬ i < n:=fun h3 => hi ⟨h3, h1⟩; omega
  subst hin
  rw [Nat.sub_self] at h2
  rw [h2]
  unfold zd3 z8l
  rw [if_neg (fun h => h rfl)]
attribute [local irreducible] V N X VO Par XP LV StepOK Has Ret RetL RetO RetT zbd RetX RetY Pan zjl Src
set_option maxHeartbeats 2000000 in
theorem zlz {bs:List Nat} {fu:Bool} (hb:∀ b ∈ bs, b ≤ 255) (hz:bs.length ≤ 1099511627776) {v:Value} {w:World} {B:Heap} (hB:B.Le (hp w)) (hv:BsV bs fu v B) :
  Ret Tryz.prog 37 [v] w B (RrP (zek bs)):=by
 obtain ⟨p, c, rfl⟩:=zbt hv
 obtain ⟨n, R1, hn⟩:∃ n R1, zbg bs 4096 3 ⟨0, 0, 0⟩ = (n, R1):=⟨_, _, rfl⟩
 have hj0:=RJ.start hn
 have hnl:n ≤ 4096:=by
  by_cases h0:R1.err = 0
  ·have:=zn6 (bs:=bs) (lim:=4096) (e:=3) (by decide) (R:=⟨0, 0, 0⟩) (by rw [hn]; exact h0)
   rw [hn] at this
   exact this
  ·have:=znc (f:=zd1 bs 4096 3) (z:=0) (R:=⟨0, 0, 0⟩) (by unfold zbg at hn; rw [hn]; exact h0)
   unfold zbg at hn
   rw [hn] at this
   have h1:n = 0:=congrArg Prod.fst this
   omega
 have hrd:=fun (u:World) (H:Heap) (hH:H.Le (hp u)) (hle:B.Le H) => hn ▸ zmj (R:=⟨0, 0, 0⟩) (lim:=4096) (e:=3) (by decide) hb hz (Nat.zero_le _) hH (hv.le hle)
 obtain ⟨a1, b1, e1⟩:=R1
 dsimp only [rv] at hrd
 refine qu Tryz.func37 rfl Tryz.ntmps37 (Nat.le_of_ble_eq_true rfl) hB ?_
 refine ZC ?_;refine ZaZ ?_;refine Zbj ?_;refine z7 (y8 (cs:=[_, _, _, _]) rfl rfl z71 rfl rfl) rfl ?_;refine z7 (q0 L rfl rfl (zn rfl) rfl rfl rfl (fun u H hH hle _ => hrd u H hH hle)) rfl ?_;refine ZcF ?_;refine ZE ?_;refine Zq ?_;refine ZaB ?_;refine Zj ?_;refine Zy ?_;refine Zg ?_;refine Zk ?_;refine ZW ?_
 refine zax 6 912 rfl fun b6 => ?_
 refine zet 7 tyU 6 rfl ?_
 refine zao (fun x:Nat × List U × Rd => [(5, .is (.int .u64 n)), (6, .is (zam b6)), (7, .own (SlR tyU 6 x.2.1.length (x.2.1.flatMap ucs))), (8, .is (.int .u64 x.1)), (912, .own (zaj b6 (za5 (rv (.slice p bs.length c) x.2.2)) tyRr))])
  (fun x => RJ bs n x.1 x.2.1 x.2.2) (fun x => n - x.1) (0, [], ⟨a1, b1, e1⟩) hj0 ⟨rfl, rfl, rfl, rfl, rfl, trivial⟩ ?_
 rintro ⟨i, l, R⟩ hj
 dsimp only at hj ⊢
 by_cases hlt:i < n ∧ R.err = 0
 ·obtain ⟨hlt, h0⟩:=hlt
  have hj2:=hj.step hlt h0
  have htu:=fun (u:World) (H:Heap) (hH:H.Le (hp u)) (hle:B.Le H) (lv:Value) (hlv:US l false lv H) => zp3 (by have:=hj.len; omega) hj.tz hb hz hj.at_ hH (hv.le hle) hlv
  generalize zku bs l R = T at hj2 htu
  obtain ⟨t, R2⟩:=T
  have hli:=hj.len
  obtain ⟨a0, b0, e0⟩:=R
  obtain ⟨a2, b2, e2⟩:=R2
  dsimp only [rv] at htu hj2 h0 ⊢
  subst h0
  have hwi:IntKind.u64.wrap ((i:Int) + 1) = ((i + 1:Nat):Int):=zal (by omega) (by omega)
  refine Zh ?_;refine ZcT ?_;refine ZB ?_;refine Za ?_;refine Zbh ?_;refine qy (ql L (q:=912) rfl rfl rfl rfl rfl rfl) ?_;refine ZJ ?_;refine Za7 ?_;refine Zfc ?_;refine ZN ?_;refine Zab ?_
  refine zos 7 931 _ rfl SlR.shape fun z hz => ?_
  obtain ⟨p1, c1, rfl⟩:=hz
  refine Z8 ?_;refine Zfu ?_;refine Za ?_;refine qy (zcj L 931 rfl rfl (zn rfl) rfl rfl rfl rfl rfl (z36 zob) (fun u H hH hle h1 => htu u H hH hle _ h1)) ?_;refine ZcF ?_;refine ZaB ?_;refine ym (yf L (q:=912) (cs':=[.slice p bs.length c, .int .i64 a2, .int .i64 b2, .int .i64 e2]) rfl rfl rfl rfl rfl rfl rfl rfl rfl) ?_;refine Z6 ?_
  refine zot 7 931 rfl rfl ?_
  refine Z0 ?_;refine qe (yh (.inl rfl) rfl rfl rfl rfl) ?_;refine ZP ?_;refine ZaT ?_;refine qe (yh (.inr rfl) rfl rfl rfl rfl) ?_;refine Zav ?_;refine Zbb ?_;refine Zak ?_;refine ZI ?_
  exact yl (x:=(i, l, ⟨a0, b0, 0⟩)) (i + 1, l ++ [t], ⟨a2, b2, e2⟩) hj2 (by dsimp only; omega) ⟨rfl, rfl, zda rfl, rfl, rfl, trivial⟩
 ·have hd:=hj.done hlt
  rw [hd]
  have hen:=fun (u:World) (H:Heap) (hH:H.Le (hp u)) => zuz (bs:=bs) (p:=p) (c:=c) (R:=R) hH
  obtain ⟨x, y, hxy⟩:∃ x y, zgp bs R = (x, y):=⟨_, _, rfl⟩
  rw [hxy] at hen ⊢
  obtain ⟨a0, b0, e0⟩:=R
  dsimp only [rv] at hen hlt ⊢
  by_cases hi:i < n
  ·have he:e0 ≠ 0:=fun h => hlt ⟨hi, h⟩
   refine Zh ?_;refine ZcT ?_;refine ZB ?_;refine Za ?_;refine Zbh ?_;refine qy (ql L (q:=912) rfl rfl rfl rfl rfl rfl) ?_;refine ZR ?_;refine Ze ?_;refine ZaS ?_
   by_cases h5:y ≠ 0
   ·rw [if_pos h5]
    refine Z3 ?_;refine Zfu ?_;refine z7 (q0 L rfl rfl (zn rfl) rfl rfl rfl (fun u H hH _ _ => hen u H hH)) rfl ?_;refine ZdK ?_;refine Zz ?_;refine ZM ?_;refine Zc ?_;refine ZcG ?_
    refine qt L (rs:=[.tmp 2, .tmp 3, .tmp 4]) rfl (fun _ _ h => h) Since.refl fun u H hH hle => ?_
    exact L11.tup3 SlV.nil rfl rfl
   ·rw [if_neg h5]
    refine zes 7 rfl ?_
    refine Z3 ?_;refine Zfu ?_;refine z7 (q0 L rfl rfl (zn rfl) rfl rfl rfl (fun u H hH _ _ => hen u H hH)) rfl ?_;refine ZdK ?_;refine ZG ?_;refine ZD ?_;refine Zf ?_;refine ZbT ?_;refine Z5 ?_
    refine qt L (rs:=[.tmp 2, .tmp 3, .tmp 4]) rfl (fun _ _ h => h) Since.refl fun u H hH hle => ?_
    exact fun v hv => L11.tup3 hv rfl rfl
  ·refine Zh ?_;refine ZcT ?_;refine Zo ?_;refine Zap ?_;refine ZaS ?_
   by_cases h5:y ≠ 0
   ·rw [if_pos h5]
    refine Z3 ?_;refine Zfu ?_;refine z7 (q0 L rfl rfl (zn rfl) rfl rfl rfl (fun u H hH _ _ => hen u H hH)) rfl ?_;refine ZdK ?_;refine Zz ?_;refine ZM ?_;refine Zc ?_;refine ZcG ?_
    refine qt L (rs:=[.tmp 2, .tmp 3, .tmp 4]) rfl (fun _ _ h => h) Since.refl fun u H hH hle => ?_
    exact L11.tup3 SlV.nil rfl rfl
   ·rw [if_neg h5]
    refine zes 7 rfl ?_
    refine Z3 ?_;refine Zfu ?_;refine z7 (q0 L rfl rfl (zn rfl) rfl rfl rfl (fun u H hH _ _ => hen u H hH)) rfl ?_;refine ZdK ?_;refine ZG ?_;refine ZD ?_;refine Zf ?_;refine ZbT ?_;refine Z5 ?_
    refine qt L (rs:=[.tmp 2, .tmp 3, .tmp 4]) rfl (fun _ _ h => h) Since.refl fun u H hH hle => ?_
    exact fun v hv => L11.tup3 hv rfl rfl
end Go.V.L11
