/- StoresAt returns true for every input, and leaves it as it was: no condition. -/
import Derived.Test.YtcppaheijljnfaaGreatStoresAtM5
import Derived.ProofKit
import Derived.HandedShaped
import Derived.OpenShut
import Derived.Carry
import Derived.Deep.Slices
import Derived.SizedLaws
import Derived.Test.YtcppaheijljnfaaGreatRows
set_option linter.unusedVariables false
set_option linter.unusedSimpArgs false
set_option maxRecDepth 20000
namespace Go.V.L8
open Go.Proofs Go.RowKit Go.V Go.V.L2 Go.V.L3 Go.V.L6
theorem _root_.Go.V.Z135 {A B:Prop} (h:B) (t:Wr B → A:=by intro h; refine z8 (yo rfl rfl rfl rfl (decide_eq_false (by omega))) rfl ?_; exact h.h):A:=t ⟨h⟩
theorem zw4 (l:List CH):zez (stC l) = zjy l:=zu1 (zcn cmpT_ord l)
theorem zn0:∀ (l:List CH), (zez l).length ≤ l.length
 | [] => Nat.le_refl _
 | [c] => Nat.le_refl _
 | c :: d :: r => by
  show (if zbc c.1 d.1 = 0 then zez (d :: r) else c :: zez (d :: r)).length ≤ _
  have:=zn0 (d :: r)
  split
  ·simp only [List.length_cons] at this ⊢; omega
  ·simp only [List.length_cons] at this ⊢; omega
attribute [local irreducible] V N X VO Par StepOK Has Ret RetL RetO RetT zb7 Src
set_option maxHeartbeats 1000000 in
theorem zsk {l:List CH} {fu:Bool} (hz:l.length ≤ 100000) {v:Value} {w:World} {B:Heap} (hB:B.Le (hp w)) (hv:KS tyC l fu v B) :
  RetO Tryz.prog 133 [v] w B (SlR tyC 7 l.length (l.flatMap ccs)):=by
 have hv0:=hv
 have hlen:=zlg l
 have hpl:=zxk l
 obtain ⟨p, c, rfl⟩:=zat hv
 rcases p with _ | b
 ·obtain ⟨h0, rfl⟩:l.length = 0 ∧ c = 0:=zpx hv
  have hn:l = []:=List.eq_nil_of_length_eq_zero h0
  subst hn
  refine zee Tryz.func133 rfl Tryz.ntmps133 (Nat.le_of_ble_eq_true rfl) hB ?_
  refine Z272 ?_; refine z7 (zgh rfl rfl rfl rfl z4v rfl) rfl ?_; refine Z324 ?_
  refine zdj 2 tyC 7 rfl ?_
  exact zid rfl (fun _ _ h => h) Since.refl rfl
 ·refine zee Tryz.func133 rfl Tryz.ntmps133 (Nat.le_of_ble_eq_true rfl) hB ?_
  refine Z272 ?_; refine z7 (zgh rfl rfl rfl rfl z4v rfl) rfl ?_; refine Z158 ?_
  refine zax 0 (KS tyC l fu) rfl SlV.mono hv0 ?_
  refine Z28 ?_; refine z7 (zf7 L rfl rfl rfl rfl rfl) rfl ?_; refine Z4 ?_; refine ql (zbx L rfl rfl rfl (zh2 rfl) rfl zxh (by assumption) (by assumption) (by omega) (by omega)) ?_; refine ql (yl (.inr rfl) rfl rfl rfl rfl) ?_; refine Z137 ?_
  rw [Nat.zero_add, List.nil_append]
  exact zid rfl (fun _ _ h => h) Since.refl rfl
set_option maxHeartbeats 8000000 in
set_option maxRecDepth 20000 in
theorem zpc {l m:List CH} {fu:Bool} (hm:zjy l = m) (hz:l.length ≤ 50000) {v:Value} {w:World} {B:Heap} (hB:B.Le (hp w)) (hv:KS tyC l fu v B) :
  Ret Tryz.prog 90 [v] w B (KS tyC m true):=by
 subst hm
 have hsl:=zeu l
 refine yh Tryz.func90 rfl Tryz.ntmps90 (Nat.le_of_ble_eq_true rfl) hB ?_
 refine zax 0 (KS tyC l fu) rfl SlV.mono hv ?_
 refine Z186 ?_; refine Z4 ?_; refine z7 (zea L rfl rfl (zk rfl) rfl rfl rfl (fun u H hH _ _ v1 hv1 => zsk (by omega) hH hv1)) rfl ?_; refine ql (yl (.inr rfl) rfl rfl rfl rfl) ?_; refine Z159 ?_; refine Z29 ?_; refine Z143 ?_
 refine zgs 3 900 rfl (fun h0 hn => ?_) fun b cap rest hl hmc hcm hcl => ?_
 ·have hl0:l = []:=List.eq_nil_of_length_eq_zero h0
  subst hl0
  refine Z201 ?_; refine z7 (yq (φ:=fun _ _ => True) L rfl rfl (zk rfl) rfl rfl rfl (fun _ _ _ _ _ => trivial) (fun u H hH _ _ => zri hH)) rfl ?_; refine Z159 ?_
  refine zax 3 (KS tyC [] false) rfl SlV.mono SlV.nil ?_
  refine Z30 ?_; refine Z4 ?_; refine z7 (za9 L (kl:=.i64) (pl:=0) 0 0 true rfl rfl rfl rfl rfl rfl ⟨rfl, rfl⟩ ⟨rfl, rfl⟩ (by decide) (by decide) rfl) rfl ?_; refine Z51 ?_; refine Z191 ?_; refine Z41 ?_; refine Z150 ?_; refine Z323 ?_
  refine zai (fun _:Nat => [(5, .sat (KS tyC [] true)), (15, .sat (KS tyC [] false)), (16, .is (.int .i64 0)), (17, .is (.int .i64 0))]) (fun _ => True) (fun s => s) 0 trivial ⟨rfl, rfl, rfl, rfl, trivial⟩ ?_
  rintro s _
  refine Z376 ?_; refine Z352 ?_; refine Z64 ?_; refine Z4 ?_; refine Z150 ?_; refine Z150 ?_; refine Z120 ?_; refine Z269 ?_
  refine yd L (rs:=[.tmp 2]) rfl (fun _ _ h => h) Since.refl fun u H hH hle => ?_
  exact fun v hv => hv
 ·refine Z201 ?_; refine ql (zay L 900 (zab b ((stC l).flatMap ccs ++ rest) tyC) (r:=zab b (l.flatMap ccs ++ rest) tyC) rfl rfl rfl rfl rfl (fun u H C hH _ hr hC => (by have h:=ztd (cap:=cap) rfl (by omega) hH hr hC; exact h))) ?_; refine Z159 ?_
  refine zb5 (xs:=(stC l).flatMap ccs) (rest:=rest) (s:=7) 3 900 rfl rfl rfl (by rw [zlg, hsl]) hmc hcm (by
   rw [List.length_append] at hcl ⊢
   rw [zlg] at hcl ⊢
   rw [hsl]; exact hcl) ?_
  rw [← hsl]
  have hkn:=zw4 l
  have hkl:=zn0 (stC l)
  rw [← hkn]
  generalize stC l = S at *
  refine zb3 3 rfl ?_
  refine Z30 ?_; refine Z4 ?_; refine z7 (za9 L (kl:=.i64) (pl:=0) 0 0 true rfl rfl rfl rfl rfl rfl ⟨rfl, rfl⟩ ⟨rfl, rfl⟩ (by omega) (by omega) rfl) rfl ?_; refine Z51 ?_; refine Z191 ?_; refine Z41 ?_; refine Z150 ?_; refine Z323 ?_
  refine zx0 5 (SlV tyC 7 [] 0 true) rfl SlV.mono (fun v H h => h) ?_
  refine z4m 5 rfl ?_
  refine zai (fun i:Nat × List CH => [(3, .sat (KS tyC S false)), (4, .is zjt), (5, .own (SlG tyC 7 i.2.length (i.2.flatMap ccs))), (15, .sat (KS tyC S false)), (16, .is (.int .i64 S.length)), (17, .is (.int .i64 i.1))]) (fun i => i.1 ≤ S.length ∧ i.2.length ≤ i.1 ∧ i.2 ++ zez (S.drop i.1) = zez S) (fun i => S.length - i.1) (0, []) ⟨Nat.zero_le _, Nat.le_refl _, rfl⟩ ⟨rfl, rfl, rfl, rfl, rfl, rfl, trivial⟩ ?_
  rintro ⟨i, kp⟩ ⟨h1, h2, h3⟩
  dsimp only at h1 h2 h3 ⊢
  by_cases hlt:i < S.length
  ·obtain ⟨c, hc0⟩:=zae hlt
   have hc:=zig hc0
   have hst:=zr7 hc0
   have a1:IntKind.i64.wrap ((i:Int) + 1) = ((i + 1:Nat):Int):=zaa (by omega) (by omega)
   by_cases hlast:i + 1 < S.length
   ·obtain ⟨d, hd0⟩:=zae hlast
    have hd:=zig hd0
    rw [hd0] at hst
    dsimp only at hst
    by_cases heq:zbc c.1 d.1 = 0
    ·rw [if_pos heq, List.nil_append] at hst
     refine Z376 ?_; refine Z226 ?_; refine Z200 ?_; refine z7 (qu L _ rfl rfl rfl rfl rfl rfl rfl (by first | omega | decide) (by assumption)) rfl ?_; refine z7 (yf L (vs:=[_, _, _, _, _, _, _]) rfl rfl rfl rfl rfl ⟨_, rfl⟩) rfl ?_; refine Z267 ?_; refine Z18 ?_; refine Z159 ?_; refine Z93 ?_; refine Z3 ?_; refine Z31 ?_; refine Z35 ?_; refine z8 (y7 L rfl rfl rfl rfl) rfl ?_; refine Z73 ?_; refine Z145 ?_; refine z8 (zq L (vs:=[_, _, _, _, _, _, _]) (yj rfl) rfl rfl rfl rfl ⟨_, rfl⟩) rfl ?_; refine Z190 ?_; refine Z31 ?_; refine z8 (qu L _ rfl rfl rfl rfl rfl rfl rfl (by first | omega | decide) (by assumption)) rfl ?_; refine z8 (yf L (vs:=[_, _, _, _, _, _, _]) rfl rfl rfl rfl rfl ⟨_, rfl⟩) rfl ?_; refine z8 (zp L rfl rfl (zk rfl) rfl rfl rfl (fun u H hH _ _ => zdd hH)) rfl ?_; refine Z135 ?_; refine Z203 ?_; refine Z309 ?_; refine Z68 ?_; refine Z16 ?_; refine Z270 ?_
     exact yi (x:=(i, kp)) (i + 1, kp) ⟨hlt, by dsimp only; omega, by dsimp only; rw [← hst]; exact h3⟩ (by dsimp only; omega) ⟨rfl, rfl, rfl, rfl, rfl, rfl, trivial⟩
    ·rw [if_neg heq] at hst
     refine Z376 ?_; refine Z226 ?_; refine Z200 ?_; refine z7 (qu L _ rfl rfl rfl rfl rfl rfl rfl (by first | omega | decide) (by assumption)) rfl ?_; refine z7 (yf L (vs:=[_, _, _, _, _, _, _]) rfl rfl rfl rfl rfl ⟨_, rfl⟩) rfl ?_; refine Z267 ?_; refine Z18 ?_; refine Z159 ?_; refine Z93 ?_; refine Z3 ?_; refine Z31 ?_; refine Z35 ?_; refine z8 (y7 L rfl rfl rfl rfl) rfl ?_; refine Z73 ?_; refine Z145 ?_; refine z8 (zq L (vs:=[_, _, _, _, _, _, _]) (yj rfl) rfl rfl rfl rfl ⟨_, rfl⟩) rfl ?_; refine Z190 ?_; refine Z31 ?_; refine z8 (qu L _ rfl rfl rfl rfl rfl rfl rfl (by first | omega | decide) (by assumption)) rfl ?_; refine z8 (yf L (vs:=[_, _, _, _, _, _, _]) rfl rfl rfl rfl rfl ⟨_, rfl⟩) rfl ?_; refine z8 (zp L rfl rfl (zk rfl) rfl rfl rfl (fun u H hH _ _ => zdd hH)) rfl ?_; refine z8 (yo rfl rfl rfl rfl (decide_eq_true (by omega))) rfl ?_; refine Z258 ?_; refine Z57 ?_; refine ql (yl (.inl rfl) rfl rfl rfl rfl) ?_; refine z7 (zq L (vs:=[_, _, _, _, _, _, _]) (yj rfl) rfl rfl rfl rfl ⟨_, rfl⟩) rfl ?_; refine Z32 ?_; refine ql (zk6 L (by decide) rfl rfl rfl (zgq rfl) rfl zxh rfl rfl (by omega) (by omega)) ?_; refine ql (yl (.inr rfl) rfl rfl rfl rfl) ?_; refine Z235 ?_; refine Z68 ?_; refine Z16 ?_; refine Z270 ?_
     exact yi (x:=(i, kp)) (i + 1, kp ++ [c]) ⟨hlt, by dsimp only; rw [List.length_append, List.length_singleton]; omega, by dsimp only; rw [List.append_assoc, ← hst]; exact h3⟩ (by dsimp only; omega) ⟨rfl, rfl, by dsimp only; rw [List.flatMap_append, List.length_append]; rfl, rfl, rfl, rfl, trivial⟩
   ·have hend:i + 1 = S.length:=by omega
    rw [List.getElem?_eq_none (by omega)] at hst
    dsimp only at hst
    refine Z376 ?_; refine Z226 ?_; refine Z200 ?_; refine z7 (qu L _ rfl rfl rfl rfl rfl rfl rfl (by first | omega | decide) (by assumption)) rfl ?_; refine z7 (yf L (vs:=[_, _, _, _, _, _, _]) rfl rfl rfl rfl rfl ⟨_, rfl⟩) rfl ?_; refine Z267 ?_; refine Z18 ?_; refine Z159 ?_; refine Z93 ?_; refine Z3 ?_; refine Z31 ?_; refine Z35 ?_; refine z8 (y7 L rfl rfl rfl rfl) rfl ?_; refine Z92 ?_; refine Z238 ?_; refine Z5 ?_; refine Z258 ?_; refine Z57 ?_; refine ql (yl (.inl rfl) rfl rfl rfl rfl) ?_; refine z7 (zq L (vs:=[_, _, _, _, _, _, _]) (yj rfl) rfl rfl rfl rfl ⟨_, rfl⟩) rfl ?_; refine Z32 ?_; refine ql (zk6 L (by decide) rfl rfl rfl (zgq rfl) rfl zxh rfl rfl (by omega) (by omega)) ?_; refine ql (yl (.inr rfl) rfl rfl rfl rfl) ?_; refine Z235 ?_; refine Z68 ?_; refine Z16 ?_; refine Z270 ?_
    exact yi (x:=(i, kp)) (i + 1, kp ++ [c]) ⟨hlt, by dsimp only; rw [List.length_append, List.length_singleton]; omega, by dsimp only; rw [List.append_assoc, ← hst]; exact h3⟩ (by dsimp only; omega) ⟨rfl, rfl, by dsimp only; rw [List.flatMap_append, List.length_append]; rfl, rfl, rfl, rfl, trivial⟩
  ·rw [List.drop_eq_nil_of_le (by omega), show zez [] = [] from rfl, List.append_nil] at h3
   subst h3
   refine z28 5 rfl ?_
   refine Z376 ?_; refine Z352 ?_; refine Z64 ?_; refine Z4 ?_; refine Z150 ?_; refine Z150 ?_; refine Z120 ?_; refine Z269 ?_
   refine yd L (rs:=[.tmp 2]) rfl (fun _ _ h => h) Since.refl fun u H hH hle => ?_
   exact fun v hv => hv
end Go.V.L8
set_option maxRecDepth 20000
namespace Go.V.L2
open Go.Proofs Go.RowKit Go.V
theorem _root_.Go.V.Z66 {A B:Prop} (h:B) (t:Wr B → A:=by intro h; refine z8 (qu L 0 rfl rfl rfl rfl rfl rfl rfl (by first | omega | decide) (by assumption)) rfl ?_; exact h.h):A:=t ⟨h⟩
theorem _root_.Go.V.Z75 {A B:Prop} (h:B) (t:Wr B → A:=by intro h; refine z7 (qu L 0 rfl rfl rfl rfl rfl rfl rfl (by first | omega | decide) (by assumption)) rfl ?_; exact h.h):A:=t ⟨h⟩
theorem _root_.Go.V.Z347 {A B:Prop} (h:B) (t:Wr B → A:=by intro h; refine Z35 ?_; refine Z66 ?_; exact h.h):A:=t ⟨h⟩
theorem _root_.Go.V.Z369 {A B:Prop} (h:B) (t:Wr B → A:=by intro h; refine Z150 ?_; refine Z39 ?_; exact h.h):A:=t ⟨h⟩
theorem _root_.Go.V.Z370 {A B:Prop} (h:B) (t:Wr B → A:=by intro h; refine Z240 ?_; refine Z64 ?_; exact h.h):A:=t ⟨h⟩
theorem _root_.Go.V.Z377 {A B:Prop} (h:B) (t:Wr B → A:=by intro h; refine zh ?_; refine Z81 ?_; exact h.h):A:=t ⟨h⟩
theorem _root_.Go.V.Z391 {A B:Prop} (h:B) (t:Wr B → A:=by intro h; refine Z43 ?_; refine Z143 ?_; exact h.h):A:=t ⟨h⟩
theorem _root_.Go.V.Z392 {A B:Prop} (h:B) (t:Wr B → A:=by intro h; refine Z391 ?_; refine Z333 ?_; exact h.h):A:=t ⟨h⟩
theorem _root_.Go.V.Z393 {A B:Prop} (h:B) (t:Wr B → A:=by intro h; refine Z392 ?_; refine Z150 ?_; exact h.h):A:=t ⟨h⟩
theorem _root_.Go.V.Z394 {A B:Prop} (h:B) (t:Wr B → A:=by intro h; refine Z366 ?_; refine Z259 ?_; exact h.h):A:=t ⟨h⟩
theorem _root_.Go.V.Z395 {A B:Prop} (h:B) (t:Wr B → A:=by intro h; refine Z4 ?_; refine Z75 ?_; exact h.h):A:=t ⟨h⟩
theorem _root_.Go.V.Z396 {A B:Prop} (h:B) (t:Wr B → A:=by intro h; refine Z191 ?_; refine Z280 ?_; exact h.h):A:=t ⟨h⟩
theorem zre {φ:Value → Heap → Prop} {a tv:Value} {H:Heap} (h:φ tv H):TupS [φ, fun v _ => v = a] (.tuple #[tv, a]) H :=
 ⟨[tv, a], rfl, rfl, fun i ψ x hi hx => by
  rcases i with _ | _ | i
  ·simp at hi hx; subst hi hx; exact h
  ·simp at hi hx; subst hi hx; rfl
  ·simp at hi⟩
theorem zrd {φ:Value → Heap → Prop} {a:Value} (h:Kn.mono (.sat φ)):Kn.mono (.sat (TupS [φ, fun v _ => v = a])):=TupS.mono fun ψ hψ => by
 rcases List.mem_cons.1 hψ with rfl | hψ
 ·exact h
 ·rw [List.mem_singleton] at hψ
  subst hψ
  exact fun _ _ _ h _ => h
theorem zc9 {α:Type} {c:α → α → Int} {f:Bool → Bool → Bool}:∀ (n:Nat) (l m:List α), l.length + m.length ≤ n → (zeb c f n l m).length ≤ l.length + m.length
 | 0, _, _, _ => by simp [zeb]
 | n + 1, [], [], _ => by simp [zeb]
 | n + 1, a :: l, [], h => by
  have:=zc9 (c:=c) (f:=f) n l [] (by simp only [List.length_cons, List.length_nil] at h ⊢; omega)
  simp only [zeb, List.length_append, List.length_cons, List.length_nil] at this ⊢
  split <;> simp only [List.length_cons, List.length_nil] <;> omega
 | n + 1, [], b :: m, h => by
  have:=zc9 (c:=c) (f:=f) n [] m (by simp only [List.length_cons, List.length_nil] at h ⊢; omega)
  simp only [zeb, List.length_append, List.length_cons, List.length_nil] at this ⊢
  split <;> simp only [List.length_cons, List.length_nil] <;> omega
 | n + 1, a :: l, b :: m, h => by
  simp only [List.length_cons] at h
  have h1:=zc9 (c:=c) (f:=f) n l (b :: m) (by simp only [List.length_cons]; omega)
  have h2:=zc9 (c:=c) (f:=f) n (a :: l) m (by simp only [List.length_cons]; omega)
  have h3:=zc9 (c:=c) (f:=f) n l m (by omega)
  simp only [List.length_cons] at h1 h2
  simp only [zeb]
  split
  ·rw [List.length_append]; split <;> simp only [List.length_cons, List.length_nil] <;> omega
  ·split
   ·rw [List.length_append]; split <;> simp only [List.length_cons, List.length_nil] <;> omega
   ·rw [List.length_append]; split <;> simp only [List.length_cons, List.length_nil] <;> omega
def z16 (f:Bool → Bool → Bool) (l m:List U):List U × Int :=
 if 4096 < l.length ∨ 4096 < m.length then ([], 3) else if (isB l && isB m) = true then (zeb zbc f (l.length + m.length) l m, 0) else ([], 18)
abbrev LE (r:List U × Int):Value → Heap → Prop:=TupS [US r.1 true, fun v _ => v = .int .i64 r.2]
theorem LE.mono {r:List U × Int}:Kn.mono (.sat (LE r)):=zrd SlV.mono
theorem zlp (a:U) (l:List U):(((a :: l).flatMap ucs).drop (1 * 6)).take (((a :: l).length - 1) * 6) = l.flatMap ucs:=by
 rw [List.flatMap_cons, List.drop_left' (by rfl), List.length_cons, Nat.add_sub_cancel, List.take_of_length_le (Nat.le_of_eq (zce zln l))]
theorem zi1 {κ:Kap} {s:Nat} {out:List U} {t:U} (h:κ s = some (.own (SlR tyU 6 (out.length + 1) (out.flatMap ucs ++ [.string t.1.1.1, .string t.1.1.2, .string t.1.2, .string t.2.1.1, .string t.2.1.2, .string t.2.2])))):κ s = some (.own (SlR tyU 6 (out ++ [t]).length ((out ++ [t]).flatMap ucs))):=by
 rw [h, List.flatMap_append, List.length_append]; simp [ucs]
attribute [local irreducible] V N X VO Par StepOK Has Ret RetL Src
set_option maxHeartbeats 4000000 in
theorem zup {f:Bool → Bool → Bool} {tf:Nat} (hfn:L.fn tf = some ()) (hf:∀ (p q:Bool) (u:World) (H:Heap), H.Le (hp u) → Ret Tryz.prog tf [.bool p, .bool q] u H (fun v _ => v = .bool (f p q))) {l m:List U} {fa fb:Bool}
  {r:List U × Int} (hr:z16 f l m = r) {v v2:Value} {w:World} {B:Heap} (hB:B.Le (hp w)) (hv:US l fa v B) (hv2:US m fb v2 B) :
  Ret Tryz.prog 131 [v, v2, .func (.func tf) #[] #[]] w B (LE r):=by
 subst hr
 unfold z16
 refine yh Tryz.func131 rfl Tryz.ntmps131 (Nat.le_of_ble_eq_true rfl) hB ?_
 refine zax 0 (US l fa) rfl SlV.mono hv ?_
 refine zax 1 (US m fb) rfl SlV.mono hv2 ?_
 by_cases z1:4096 < l.length
 ·rw [if_pos (.inl z1)]
  refine Z255 ?_; refine Z298 ?_; refine Z39 ?_; refine Z252 ?_; refine Z223 ?_; refine Z188 ?_
  refine yd L (rs:=[.tmp 6, .tmp 7]) rfl (fun _ _ h => h) Since.refl fun u H hH hle => ?_
  exact zre SlV.nil
 ·by_cases z2:4096 < m.length
  ·rw [if_pos (.inr z2)]
   refine Z255 ?_; refine Z298 ?_; refine Z33 ?_; refine Z1 ?_; refine Z369 ?_; refine Z8 ?_; refine Z223 ?_; refine Z188 ?_
   refine yd L (rs:=[.tmp 6, .tmp 7]) rfl (fun _ _ h => h) Since.refl fun u H hH hle => ?_
   exact zre SlV.nil
  ·rw [if_neg (by omega)]
   cases h1:isB l
   ·rw [if_neg (by simp)]
    refine Z255 ?_; refine Z298 ?_; refine Z33 ?_; refine Z1 ?_; refine Z150 ?_; refine Z282 ?_; refine Z167 ?_; refine Z28 ?_; refine Z4 ?_; refine z7 (zp L rfl rfl (zk rfl) rfl rfl rfl (fun u H hH _ _ v1 hv1 => zi3 (by omega) h1 hH hv1)) rfl ?_; refine Z53 ?_; refine Z252 ?_; refine Z381 ?_; refine Z188 ?_
    refine yd L (rs:=[.tmp 6, .tmp 7]) rfl (fun _ _ h => h) Since.refl fun u H hH hle => ?_
    exact zre SlV.nil
   ·cases h2:isB m
    ·rw [if_neg (by simp)]
     refine Z255 ?_; refine Z298 ?_; refine Z33 ?_; refine Z1 ?_; refine Z150 ?_; refine Z282 ?_; refine Z167 ?_; refine Z28 ?_; refine Z4 ?_; refine z7 (zp L rfl rfl (zk rfl) rfl rfl rfl (fun u H hH _ _ v1 hv1 => zi3 (by omega) h1 hH hv1)) rfl ?_; refine Z53 ?_; refine Z1 ?_; refine Z4 ?_; refine z7 (zp L rfl rfl (zk rfl) rfl rfl rfl (fun u H hH _ _ v1 hv1 => zi3 (by omega) h2 hH hv1)) rfl ?_; refine Z53 ?_; refine Z8 ?_; refine Z381 ?_; refine Z188 ?_
     refine yd L (rs:=[.tmp 6, .tmp 7]) rfl (fun _ _ h => h) Since.refl fun u H hH hle => ?_
     exact zre SlV.nil
    ·rw [if_pos (by rfl)]
     refine Z255 ?_; refine Z298 ?_; refine Z33 ?_; refine Z1 ?_; refine Z150 ?_; refine Z282 ?_; refine Z167 ?_; refine Z28 ?_; refine Z4 ?_; refine z7 (zp L rfl rfl (zk rfl) rfl rfl rfl (fun u H hH _ _ v1 hv1 => zi3 (by omega) h1 hH hv1)) rfl ?_; refine Z53 ?_; refine Z1 ?_; refine Z4 ?_; refine z7 (zp L rfl rfl (zk rfl) rfl rfl rfl (fun u H hH _ _ v1 hv1 => zi3 (by omega) h2 hH hv1)) rfl ?_; refine Z53 ?_; refine Z359 ?_; refine Z41 ?_; refine Z143 ?_; refine qh ?_
     refine zx0 0 (US l false) rfl SlV.mono (fun _ _ h => h.nofu) ?_
     refine zx0 1 (US m false) rfl SlV.mono (fun _ _ h => h.nofu) ?_
     refine zdj 8 tyU 6 rfl ?_
     refine zai (fun s:Nat × List U × List U × List U => [(0, .sat (US s.2.1 false)), (1, .sat (US s.2.2.1 false)), (2, .is (.func (.func tf) #[] #[])), (8, .own (SlR tyU 6 s.2.2.2.length (s.2.2.2.flatMap ucs)))])
      (fun s => s.2.1.length + s.2.2.1.length ≤ s.1 ∧ s.2.2.2 ++ zeb zbc f s.1 s.2.1 s.2.2.1 = zeb zbc f (l.length + m.length) l m ∧ s.2.2.2.length + s.2.1.length + s.2.2.1.length ≤ 8192) (fun s => s.1) (l.length + m.length, l, m, []) ⟨Nat.le_refl _, rfl, by simp only [List.length_nil]; omega⟩ ⟨rfl, rfl, rfl, rfl, trivial⟩ ?_
     generalize zeb zbc f (l.length + m.length) l m = R
     clear h1 h2 z1 z2 hv hv2
     rintro ⟨n, x, y, out⟩ ⟨hn, hR, hz⟩
     dsimp only at hn hR hz ⊢
     rcases x with _ | ⟨a, x⟩
     ·rcases y with _ | ⟨b, y⟩
      ·have hR:out = R:=by rw [← hR]; cases n <;> simp [zeb]
       subst hR
       have l0:([]:List U).length = 0:=rfl
       refine Z305 ?_; refine Z150 ?_; refine Z33 ?_; refine Z1 ?_; refine Z150 ?_; refine Z282 ?_; refine Z182 ?_; refine zh ?_
       refine zb3 8 rfl ?_
       refine zf (id:=22) ?_; refine Z4 ?_; refine Z150 ?_; refine Z150 ?_; refine Z120 ?_; refine Z51 ?_; refine Z138 ?_
       refine yd L (rs:=[.tmp 6, .tmp 7]) rfl (fun _ _ h => h) Since.refl fun u H hH hle => ?_
       exact fun v hv => zre hv
      ·have l0:([]:List U).length = 0:=rfl
       have lb:(b :: y).length = y.length + 1:=rfl
       have hb:=zgb (l:=b :: y) (i:=0) (t:=b) rfl
       have tb:=zlp b y
       rcases n with _ | n
       ·simp only [List.length_cons, List.length_nil] at hn; omega
       cases hft:f false true
       ·have hR:out ++ zeb zbc f n [] y = R:=by rw [← hR]; simp [zeb, hft]
        have hfv:∀ (u:World) (H:Heap), H.Le (hp u) → Ret Tryz.prog tf [.bool false, .bool true] u H (fun v _ => v = .bool false):=fun u H h => by have:=hf false true u H h; rwa [hft] at this
        refine Z305 ?_; refine Z150 ?_; refine Z33 ?_; refine Z1 ?_; refine Z369 ?_; refine Z249 ?_; refine Z224 ?_; refine Z393 ?_; refine Z318 ?_; refine Z68 ?_; refine Z357 ?_; refine Z377 ?_; refine z7 (yu (cs:=[_, _, _, _, _, _]) rfl rfl ze6 rfl rfl) rfl ?_; refine Z394 ?_; refine Z39 ?_; refine Z144 ?_; refine Z94 ?_; refine Z395 ?_; refine z7 (yf L (vs:=[_, _, _, _, _, _]) rfl rfl rfl rfl rfl ⟨_, rfl⟩) rfl ?_; refine Z18 ?_; refine Z396 ?_; refine Z251 ?_; refine Z116 ?_; refine Z4 ?_; refine z7 (za9 L (kh:=.i64) (ph:=0) (km:=.i64) (pm:=0) 1 _ false rfl rfl rfl rfl rfl ⟨rfl, rfl⟩ ⟨rfl, rfl⟩ (fun h => by cases h) (by omega) (by omega) (by assumption)) rfl ?_; refine Z362 ?_; refine Z344 ?_; refine Z70 ?_; refine Z1 ?_; refine Z40 ?_; refine z7 (zp L rfl rfl (zk rfl) rfl rfl hfn (fun u H hH _ _ => hfv u H hH)) rfl ?_; refine Z193 ?_; refine y9 ?_
        exact yi (x:=(n + 1, [], b :: y, out)) (n, [], y, out) ⟨by simp only [List.length_cons, List.length_nil] at hn ⊢; omega, hR, by simp only [List.length_cons, List.length_nil, List.length_append] at hz ⊢; omega⟩ (by dsimp only; omega) ⟨rfl, rfl, rfl, rfl, trivial⟩
       ·have hR:out ++ [b] ++ zeb zbc f n [] y = R:=by rw [← hR]; simp [zeb, hft]
        have hfv:∀ (u:World) (H:Heap), H.Le (hp u) → Ret Tryz.prog tf [.bool false, .bool true] u H (fun v _ => v = .bool true):=fun u H h => by have:=hf false true u H h; rwa [hft] at this
        refine Z305 ?_; refine Z150 ?_; refine Z33 ?_; refine Z1 ?_; refine Z369 ?_; refine Z249 ?_; refine Z224 ?_; refine Z393 ?_; refine Z318 ?_; refine Z68 ?_; refine Z357 ?_; refine Z377 ?_; refine z7 (yu (cs:=[_, _, _, _, _, _]) rfl rfl ze6 rfl rfl) rfl ?_; refine Z394 ?_; refine Z39 ?_; refine Z144 ?_; refine Z94 ?_; refine Z395 ?_; refine z7 (yf L (vs:=[_, _, _, _, _, _]) rfl rfl rfl rfl rfl ⟨_, rfl⟩) rfl ?_; refine Z18 ?_; refine Z396 ?_; refine Z251 ?_; refine Z116 ?_; refine Z4 ?_; refine z7 (za9 L (kh:=.i64) (ph:=0) (km:=.i64) (pm:=0) 1 _ false rfl rfl rfl rfl rfl ⟨rfl, rfl⟩ ⟨rfl, rfl⟩ (fun h => by cases h) (by omega) (by omega) (by assumption)) rfl ?_; refine Z362 ?_; refine Z344 ?_; refine Z70 ?_; refine Z1 ?_; refine Z40 ?_; refine z7 (zp L rfl rfl (zk rfl) rfl rfl hfn (fun u H hH _ _ => hfv u H hH)) rfl ?_; refine Z144 ?_; refine Z117 ?_; refine ql (yl (.inl rfl) rfl rfl rfl rfl) ?_; refine z7 (zq L (vs:=[_, _, _, _, _, _]) (yj rfl) rfl rfl rfl rfl ⟨_, rfl⟩) rfl ?_; refine Z304 ?_; refine ql (yl (.inr rfl) rfl rfl rfl rfl) ?_; refine zi ?_; refine y9 ?_
        exact yi (x:=(n + 1, [], b :: y, out)) (n, [], y, out ++ [b]) ⟨by simp only [List.length_cons, List.length_nil] at hn ⊢; omega, hR, by simp only [List.length_cons, List.length_nil, List.length_append] at hz ⊢; omega⟩ (by dsimp only; omega) ⟨rfl, rfl, rfl, zi1 rfl, trivial⟩
     ·have la:(a :: x).length = x.length + 1:=rfl
      have ha:=zgb (l:=a :: x) (i:=0) (t:=a) rfl
      have ta:=zlp a x
      rcases y with _ | ⟨b, y⟩
      ·have l0:([]:List U).length = 0:=rfl
       rcases n with _ | n
       ·simp only [List.length_cons, List.length_nil] at hn; omega
       cases hft:f true false
       ·have hR:out ++ zeb zbc f n x [] = R:=by rw [← hR]; simp [zeb, hft]
        have hfv:∀ (u:World) (H:Heap), H.Le (hp u) → Ret Tryz.prog tf [.bool true, .bool false] u H (fun v _ => v = .bool false):=fun u H h => by have:=hf true false u H h; rwa [hft] at this
        refine Z305 ?_; refine Z369 ?_; refine Z252 ?_; refine Z289 ?_; refine Z393 ?_; refine Z370 ?_; refine Z150 ?_; refine Z318 ?_; refine Z83 ?_; refine Z357 ?_; refine Z377 ?_; refine z7 (yu (cs:=[_, _, _, _, _, _]) rfl rfl ze6 rfl rfl) rfl ?_; refine Z394 ?_; refine Z33 ?_; refine Z353 ?_; refine Z99 ?_; refine Z395 ?_; refine z7 (yf L (vs:=[_, _, _, _, _, _]) rfl rfl rfl rfl rfl ⟨_, rfl⟩) rfl ?_; refine Z256 ?_; refine Z385 ?_; refine z7 (za9 L (kh:=.i64) (ph:=0) (km:=.i64) (pm:=0) 1 _ false rfl rfl rfl rfl rfl ⟨rfl, rfl⟩ ⟨rfl, rfl⟩ (fun h => by cases h) (by omega) (by omega) (by assumption)) rfl ?_; refine Z51 ?_; refine Z396 ?_; refine Z45 ?_; refine Z158 ?_; refine Z344 ?_; refine Z74 ?_; refine Z1 ?_; refine Z45 ?_; refine z7 (zp L rfl rfl (zk rfl) rfl rfl hfn (fun u H hH _ _ => hfv u H hH)) rfl ?_; refine Z193 ?_; refine y9 ?_
        exact yi (x:=(n + 1, a :: x, [], out)) (n, x, [], out) ⟨by simp only [List.length_cons, List.length_nil] at hn ⊢; omega, hR, by simp only [List.length_cons, List.length_nil, List.length_append] at hz ⊢; omega⟩ (by dsimp only; omega) ⟨rfl, rfl, rfl, rfl, trivial⟩
       ·have hR:out ++ [a] ++ zeb zbc f n x [] = R:=by rw [← hR]; simp [zeb, hft]
        have hfv:∀ (u:World) (H:Heap), H.Le (hp u) → Ret Tryz.prog tf [.bool true, .bool false] u H (fun v _ => v = .bool true):=fun u H h => by have:=hf true false u H h; rwa [hft] at this
        refine Z305 ?_; refine Z369 ?_; refine Z252 ?_; refine Z289 ?_; refine Z393 ?_; refine Z370 ?_; refine Z150 ?_; refine Z318 ?_; refine Z83 ?_; refine Z357 ?_; refine Z377 ?_; refine z7 (yu (cs:=[_, _, _, _, _, _]) rfl rfl ze6 rfl rfl) rfl ?_; refine Z394 ?_; refine Z33 ?_; refine Z353 ?_; refine Z99 ?_; refine Z395 ?_; refine z7 (yf L (vs:=[_, _, _, _, _, _]) rfl rfl rfl rfl rfl ⟨_, rfl⟩) rfl ?_; refine Z256 ?_; refine Z385 ?_; refine z7 (za9 L (kh:=.i64) (ph:=0) (km:=.i64) (pm:=0) 1 _ false rfl rfl rfl rfl rfl ⟨rfl, rfl⟩ ⟨rfl, rfl⟩ (fun h => by cases h) (by omega) (by omega) (by assumption)) rfl ?_; refine Z51 ?_; refine Z396 ?_; refine Z45 ?_; refine Z158 ?_; refine Z344 ?_; refine Z74 ?_; refine Z1 ?_; refine Z45 ?_; refine z7 (zp L rfl rfl (zk rfl) rfl rfl hfn (fun u H hH _ _ => hfv u H hH)) rfl ?_; refine Z144 ?_; refine Z117 ?_; refine ql (yl (.inl rfl) rfl rfl rfl rfl) ?_; refine z7 (zq L (vs:=[_, _, _, _, _, _]) (yj rfl) rfl rfl rfl rfl ⟨_, rfl⟩) rfl ?_; refine Z304 ?_; refine ql (yl (.inr rfl) rfl rfl rfl rfl) ?_; refine zi ?_; refine y9 ?_
        exact yi (x:=(n + 1, a :: x, [], out)) (n, x, [], out ++ [a]) ⟨by simp only [List.length_cons, List.length_nil] at hn ⊢; omega, hR, by simp only [List.length_cons, List.length_nil, List.length_append] at hz ⊢; omega⟩ (by dsimp only; omega) ⟨rfl, rfl, rfl, zi1 rfl, trivial⟩
      ·have lb:(b :: y).length = y.length + 1:=rfl
       have hb:=zgb (l:=b :: y) (i:=0) (t:=b) rfl
       have tb:=zlp b y
       by_cases c1:zbc a b < 0
       ·rcases n with _ | n
        ·simp only [List.length_cons, List.length_nil] at hn; omega
        cases hft:f true false
        ·have hR:out ++ zeb zbc f n x (b :: y) = R:=by rw [← hR]; simp [zeb, c1, hft]
         have hfv:∀ (u:World) (H:Heap), H.Le (hp u) → Ret Tryz.prog tf [.bool true, .bool false] u H (fun v _ => v = .bool false):=fun u H h => by have:=hf true false u H h; rwa [hft] at this
         refine Z305 ?_; refine Z369 ?_; refine Z252 ?_; refine Z289 ?_; refine Z393 ?_; refine Z370 ?_; refine Z150 ?_; refine Z346 ?_; refine Z93 ?_; refine Z347 ?_; refine z8 (yf L (vs:=[_, _, _, _, _, _]) rfl rfl rfl rfl rfl ⟨_, rfl⟩) rfl ?_; refine Z347 ?_; refine z8 (yf L (vs:=[_, _, _, _, _, _]) rfl rfl rfl rfl rfl ⟨_, rfl⟩) rfl ?_; refine z8 (zp L rfl rfl (zk rfl) rfl rfl rfl (fun u H hH _ _ => zdc hH)) rfl ?_; refine Z36 ?_; refine Z271 ?_; refine Z377 ?_; refine z7 (yu (cs:=[_, _, _, _, _, _]) rfl rfl ze6 rfl rfl) rfl ?_; refine Z394 ?_; refine Z33 ?_; refine Z353 ?_; refine Z99 ?_; refine Z395 ?_; refine z7 (yf L (vs:=[_, _, _, _, _, _]) rfl rfl rfl rfl rfl ⟨_, rfl⟩) rfl ?_; refine Z256 ?_; refine Z385 ?_; refine z7 (za9 L (kh:=.i64) (ph:=0) (km:=.i64) (pm:=0) 1 _ false rfl rfl rfl rfl rfl ⟨rfl, rfl⟩ ⟨rfl, rfl⟩ (fun h => by cases h) (by omega) (by omega) (by assumption)) rfl ?_; refine Z51 ?_; refine Z396 ?_; refine Z45 ?_; refine Z158 ?_; refine Z344 ?_; refine Z74 ?_; refine Z1 ?_; refine Z45 ?_; refine z7 (zp L rfl rfl (zk rfl) rfl rfl hfn (fun u H hH _ _ => hfv u H hH)) rfl ?_; refine Z193 ?_; refine y9 ?_
         exact yi (x:=(n + 1, a :: x, b :: y, out)) (n, x, (b :: y), out) ⟨by simp only [List.length_cons, List.length_nil] at hn ⊢; omega, hR, by simp only [List.length_cons, List.length_nil, List.length_append] at hz ⊢; omega⟩ (by dsimp only; omega) ⟨rfl, rfl, rfl, rfl, trivial⟩
        ·have hR:out ++ [a] ++ zeb zbc f n x (b :: y) = R:=by rw [← hR]; simp [zeb, c1, hft]
         have hfv:∀ (u:World) (H:Heap), H.Le (hp u) → Ret Tryz.prog tf [.bool true, .bool false] u H (fun v _ => v = .bool true):=fun u H h => by have:=hf true false u H h; rwa [hft] at this
         refine Z305 ?_; refine Z369 ?_; refine Z252 ?_; refine Z289 ?_; refine Z393 ?_; refine Z370 ?_; refine Z150 ?_; refine Z346 ?_; refine Z93 ?_; refine Z347 ?_; refine z8 (yf L (vs:=[_, _, _, _, _, _]) rfl rfl rfl rfl rfl ⟨_, rfl⟩) rfl ?_; refine Z347 ?_; refine z8 (yf L (vs:=[_, _, _, _, _, _]) rfl rfl rfl rfl rfl ⟨_, rfl⟩) rfl ?_; refine z8 (zp L rfl rfl (zk rfl) rfl rfl rfl (fun u H hH _ _ => zdc hH)) rfl ?_; refine Z36 ?_; refine Z271 ?_; refine Z377 ?_; refine z7 (yu (cs:=[_, _, _, _, _, _]) rfl rfl ze6 rfl rfl) rfl ?_; refine Z394 ?_; refine Z33 ?_; refine Z353 ?_; refine Z99 ?_; refine Z395 ?_; refine z7 (yf L (vs:=[_, _, _, _, _, _]) rfl rfl rfl rfl rfl ⟨_, rfl⟩) rfl ?_; refine Z256 ?_; refine Z385 ?_; refine z7 (za9 L (kh:=.i64) (ph:=0) (km:=.i64) (pm:=0) 1 _ false rfl rfl rfl rfl rfl ⟨rfl, rfl⟩ ⟨rfl, rfl⟩ (fun h => by cases h) (by omega) (by omega) (by assumption)) rfl ?_; refine Z51 ?_; refine Z396 ?_; refine Z45 ?_; refine Z158 ?_; refine Z344 ?_; refine Z74 ?_; refine Z1 ?_; refine Z45 ?_; refine z7 (zp L rfl rfl (zk rfl) rfl rfl hfn (fun u H hH _ _ => hfv u H hH)) rfl ?_; refine Z144 ?_; refine Z117 ?_; refine ql (yl (.inl rfl) rfl rfl rfl rfl) ?_; refine z7 (zq L (vs:=[_, _, _, _, _, _]) (yj rfl) rfl rfl rfl rfl ⟨_, rfl⟩) rfl ?_; refine Z304 ?_; refine ql (yl (.inr rfl) rfl rfl rfl rfl) ?_; refine zi ?_; refine y9 ?_
         exact yi (x:=(n + 1, a :: x, b :: y, out)) (n, x, (b :: y), out ++ [a]) ⟨by simp only [List.length_cons, List.length_nil] at hn ⊢; omega, hR, by simp only [List.length_cons, List.length_nil, List.length_append] at hz ⊢; omega⟩ (by dsimp only; omega) ⟨rfl, rfl, rfl, zi1 rfl, trivial⟩
       ·by_cases c2:0 < zbc a b
        ·rcases n with _ | n
         ·simp only [List.length_cons, List.length_nil] at hn; omega
         cases hft:f false true
         ·have hR:out ++ zeb zbc f n (a :: x) y = R:=by rw [← hR]; simp [zeb, c1, c2, hft]
          have hfv:∀ (u:World) (H:Heap), H.Le (hp u) → Ret Tryz.prog tf [.bool false, .bool true] u H (fun v _ => v = .bool false):=fun u H h => by have:=hf false true u H h; rwa [hft] at this
          refine Z305 ?_; refine Z369 ?_; refine Z252 ?_; refine Z289 ?_; refine Z393 ?_; refine Z370 ?_; refine Z150 ?_; refine Z346 ?_; refine Z93 ?_; refine Z347 ?_; refine z8 (yf L (vs:=[_, _, _, _, _, _]) rfl rfl rfl rfl rfl ⟨_, rfl⟩) rfl ?_; refine Z347 ?_; refine z8 (yf L (vs:=[_, _, _, _, _, _]) rfl rfl rfl rfl rfl ⟨_, rfl⟩) rfl ?_; refine z8 (zp L rfl rfl (zk rfl) rfl rfl rfl (fun u H hH _ _ => zdc hH)) rfl ?_; refine Z36 ?_; refine Z271 ?_; refine Z377 ?_; refine z7 (yu (cs:=[_, _, _, _, _, _]) rfl rfl ze6 rfl rfl) rfl ?_; refine Z394 ?_; refine Z39 ?_; refine Z144 ?_; refine Z94 ?_; refine Z395 ?_; refine z7 (yf L (vs:=[_, _, _, _, _, _]) rfl rfl rfl rfl rfl ⟨_, rfl⟩) rfl ?_; refine Z18 ?_; refine Z396 ?_; refine Z251 ?_; refine Z116 ?_; refine Z4 ?_; refine z7 (za9 L (kh:=.i64) (ph:=0) (km:=.i64) (pm:=0) 1 _ false rfl rfl rfl rfl rfl ⟨rfl, rfl⟩ ⟨rfl, rfl⟩ (fun h => by cases h) (by omega) (by omega) (by assumption)) rfl ?_; refine Z362 ?_; refine Z344 ?_; refine Z70 ?_; refine Z1 ?_; refine Z40 ?_; refine z7 (zp L rfl rfl (zk rfl) rfl rfl hfn (fun u H hH _ _ => hfv u H hH)) rfl ?_; refine Z193 ?_; refine y9 ?_
          exact yi (x:=(n + 1, a :: x, b :: y, out)) (n, (a :: x), y, out) ⟨by simp only [List.length_cons, List.length_nil] at hn ⊢; omega, hR, by simp only [List.length_cons, List.length_nil, List.length_append] at hz ⊢; omega⟩ (by dsimp only; omega) ⟨rfl, rfl, rfl, rfl, trivial⟩
         ·have hR:out ++ [b] ++ zeb zbc f n (a :: x) y = R:=by rw [← hR]; simp [zeb, c1, c2, hft]
          have hfv:∀ (u:World) (H:Heap), H.Le (hp u) → Ret Tryz.prog tf [.bool false, .bool true] u H (fun v _ => v = .bool true):=fun u H h => by have:=hf false true u H h; rwa [hft] at this
          refine Z305 ?_; refine Z369 ?_; refine Z252 ?_; refine Z289 ?_; refine Z393 ?_; refine Z370 ?_; refine Z150 ?_; refine Z346 ?_; refine Z93 ?_; refine Z347 ?_; refine z8 (yf L (vs:=[_, _, _, _, _, _]) rfl rfl rfl rfl rfl ⟨_, rfl⟩) rfl ?_; refine Z347 ?_; refine z8 (yf L (vs:=[_, _, _, _, _, _]) rfl rfl rfl rfl rfl ⟨_, rfl⟩) rfl ?_; refine z8 (zp L rfl rfl (zk rfl) rfl rfl rfl (fun u H hH _ _ => zdc hH)) rfl ?_; refine Z36 ?_; refine Z271 ?_; refine Z377 ?_; refine z7 (yu (cs:=[_, _, _, _, _, _]) rfl rfl ze6 rfl rfl) rfl ?_; refine Z394 ?_; refine Z39 ?_; refine Z144 ?_; refine Z94 ?_; refine Z395 ?_; refine z7 (yf L (vs:=[_, _, _, _, _, _]) rfl rfl rfl rfl rfl ⟨_, rfl⟩) rfl ?_; refine Z18 ?_; refine Z396 ?_; refine Z251 ?_; refine Z116 ?_; refine Z4 ?_; refine z7 (za9 L (kh:=.i64) (ph:=0) (km:=.i64) (pm:=0) 1 _ false rfl rfl rfl rfl rfl ⟨rfl, rfl⟩ ⟨rfl, rfl⟩ (fun h => by cases h) (by omega) (by omega) (by assumption)) rfl ?_; refine Z362 ?_; refine Z344 ?_; refine Z70 ?_; refine Z1 ?_; refine Z40 ?_; refine z7 (zp L rfl rfl (zk rfl) rfl rfl hfn (fun u H hH _ _ => hfv u H hH)) rfl ?_; refine Z144 ?_; refine Z117 ?_; refine ql (yl (.inl rfl) rfl rfl rfl rfl) ?_; refine z7 (zq L (vs:=[_, _, _, _, _, _]) (yj rfl) rfl rfl rfl rfl ⟨_, rfl⟩) rfl ?_; refine Z304 ?_; refine ql (yl (.inr rfl) rfl rfl rfl rfl) ?_; refine zi ?_; refine y9 ?_
          exact yi (x:=(n + 1, a :: x, b :: y, out)) (n, (a :: x), y, out ++ [b]) ⟨by simp only [List.length_cons, List.length_nil] at hn ⊢; omega, hR, by simp only [List.length_cons, List.length_nil, List.length_append] at hz ⊢; omega⟩ (by dsimp only; omega) ⟨rfl, rfl, rfl, zi1 rfl, trivial⟩
        ·rcases n with _ | n
         ·simp only [List.length_cons, List.length_nil] at hn; omega
         cases hft:f true true
         ·have hR:out ++ zeb zbc f n x y = R:=by rw [← hR]; simp [zeb, c1, c2, hft]
          have hfv:∀ (u:World) (H:Heap), H.Le (hp u) → Ret Tryz.prog tf [.bool true, .bool true] u H (fun v _ => v = .bool false):=fun u H h => by have:=hf true true u H h; rwa [hft] at this
          refine Z305 ?_; refine Z369 ?_; refine Z252 ?_; refine Z289 ?_; refine Z393 ?_; refine Z370 ?_; refine Z150 ?_; refine Z346 ?_; refine Z93 ?_; refine Z347 ?_; refine z8 (yf L (vs:=[_, _, _, _, _, _]) rfl rfl rfl rfl rfl ⟨_, rfl⟩) rfl ?_; refine Z347 ?_; refine z8 (yf L (vs:=[_, _, _, _, _, _]) rfl rfl rfl rfl rfl ⟨_, rfl⟩) rfl ?_; refine z8 (zp L rfl rfl (zk rfl) rfl rfl rfl (fun u H hH _ _ => zdc hH)) rfl ?_; refine Z36 ?_; refine Z271 ?_; refine Z377 ?_; refine z7 (yu (cs:=[_, _, _, _, _, _]) rfl rfl ze6 rfl rfl) rfl ?_; refine Z394 ?_; refine Z33 ?_; refine Z353 ?_; refine Z99 ?_; refine Z395 ?_; refine z7 (yf L (vs:=[_, _, _, _, _, _]) rfl rfl rfl rfl rfl ⟨_, rfl⟩) rfl ?_; refine Z256 ?_; refine Z385 ?_; refine z7 (za9 L (kh:=.i64) (ph:=0) (km:=.i64) (pm:=0) 1 _ false rfl rfl rfl rfl rfl ⟨rfl, rfl⟩ ⟨rfl, rfl⟩ (fun h => by cases h) (by omega) (by omega) (by assumption)) rfl ?_; refine Z51 ?_; refine Z396 ?_; refine Z251 ?_; refine Z116 ?_; refine Z4 ?_; refine z7 (za9 L (kh:=.i64) (ph:=0) (km:=.i64) (pm:=0) 1 _ false rfl rfl rfl rfl rfl ⟨rfl, rfl⟩ ⟨rfl, rfl⟩ (fun h => by cases h) (by omega) (by omega) (by assumption)) rfl ?_; refine Z362 ?_; refine Z344 ?_; refine Z74 ?_; refine Z1 ?_; refine Z40 ?_; refine z7 (zp L rfl rfl (zk rfl) rfl rfl hfn (fun u H hH _ _ => hfv u H hH)) rfl ?_; refine Z193 ?_; refine y9 ?_
          exact yi (x:=(n + 1, a :: x, b :: y, out)) (n, x, y, out) ⟨by simp only [List.length_cons, List.length_nil] at hn ⊢; omega, hR, by simp only [List.length_cons, List.length_nil, List.length_append] at hz ⊢; omega⟩ (by dsimp only; omega) ⟨rfl, rfl, rfl, rfl, trivial⟩
         ·have hR:out ++ [a] ++ zeb zbc f n x y = R:=by rw [← hR]; simp [zeb, c1, c2, hft]
          have hfv:∀ (u:World) (H:Heap), H.Le (hp u) → Ret Tryz.prog tf [.bool true, .bool true] u H (fun v _ => v = .bool true):=fun u H h => by have:=hf true true u H h; rwa [hft] at this
          refine Z305 ?_; refine Z369 ?_; refine Z252 ?_; refine Z289 ?_; refine Z393 ?_; refine Z370 ?_; refine Z150 ?_; refine Z346 ?_; refine Z93 ?_; refine Z347 ?_; refine z8 (yf L (vs:=[_, _, _, _, _, _]) rfl rfl rfl rfl rfl ⟨_, rfl⟩) rfl ?_; refine Z347 ?_; refine z8 (yf L (vs:=[_, _, _, _, _, _]) rfl rfl rfl rfl rfl ⟨_, rfl⟩) rfl ?_; refine z8 (zp L rfl rfl (zk rfl) rfl rfl rfl (fun u H hH _ _ => zdc hH)) rfl ?_; refine Z36 ?_; refine Z271 ?_; refine Z377 ?_; refine z7 (yu (cs:=[_, _, _, _, _, _]) rfl rfl ze6 rfl rfl) rfl ?_; refine Z394 ?_; refine Z33 ?_; refine Z353 ?_; refine Z99 ?_; refine Z395 ?_; refine z7 (yf L (vs:=[_, _, _, _, _, _]) rfl rfl rfl rfl rfl ⟨_, rfl⟩) rfl ?_; refine Z256 ?_; refine Z385 ?_; refine z7 (za9 L (kh:=.i64) (ph:=0) (km:=.i64) (pm:=0) 1 _ false rfl rfl rfl rfl rfl ⟨rfl, rfl⟩ ⟨rfl, rfl⟩ (fun h => by cases h) (by omega) (by omega) (by assumption)) rfl ?_; refine Z51 ?_; refine Z396 ?_; refine Z251 ?_; refine Z116 ?_; refine Z4 ?_; refine z7 (za9 L (kh:=.i64) (ph:=0) (km:=.i64) (pm:=0) 1 _ false rfl rfl rfl rfl rfl ⟨rfl, rfl⟩ ⟨rfl, rfl⟩ (fun h => by cases h) (by omega) (by omega) (by assumption)) rfl ?_; refine Z362 ?_; refine Z344 ?_; refine Z74 ?_; refine Z1 ?_; refine Z40 ?_; refine z7 (zp L rfl rfl (zk rfl) rfl rfl hfn (fun u H hH _ _ => hfv u H hH)) rfl ?_; refine Z144 ?_; refine Z117 ?_; refine ql (yl (.inl rfl) rfl rfl rfl rfl) ?_; refine z7 (zq L (vs:=[_, _, _, _, _, _]) (yj rfl) rfl rfl rfl rfl ⟨_, rfl⟩) rfl ?_; refine Z304 ?_; refine ql (yl (.inr rfl) rfl rfl rfl rfl) ?_; refine zi ?_; refine y9 ?_
          exact yi (x:=(n + 1, a :: x, b :: y, out)) (n, x, y, out ++ [a]) ⟨by simp only [List.length_cons, List.length_nil] at hn ⊢; omega, hR, by simp only [List.length_cons, List.length_nil, List.length_append] at hz ⊢; omega⟩ (by dsimp only; omega) ⟨rfl, rfl, rfl, zi1 rfl, trivial⟩
end Go.V.L2
set_option maxRecDepth 20000
namespace Go.V.L2
open Go.Proofs Go.RowKit Go.V
abbrev fWo:Bool → Bool → Bool:=fun _ b => !b
attribute [local irreducible] V N X VO Par StepOK Has Ret RetL RetO Src
theorem z0d (p q:Bool) (w:World) (B:Heap) (hB:B.Le (hp w)):Ret Tryz.prog 132 [.bool p, .bool q] w B (fun v _ => v = .bool (fWo p q)):=by
 refine yh Tryz.func132 rfl Tryz.ntmps132 (Nat.le_of_ble_eq_true rfl) hB ?_
 refine Z302 ?_; refine Z53 ?_; refine Z138 ?_
 refine yd L (rs:=[.tmp 4]) rfl (fun _ _ h => h) Since.refl fun u H hH hle => ?_
 rfl
theorem zh3 {l m:List U} {fa fb:Bool} {r:List U × Int} {v v2:Value} {w:World} {B:Heap} (hr:z16 fWo l m = r) (hB:B.Le (hp w)) (hv:US l fa v B) (hv2:US m fb v2 B):Ret Tryz.prog 89 [v, v2] w B (LE r):=by
 refine yh Tryz.func89 rfl Tryz.ntmps89 (Nat.le_of_ble_eq_true rfl) hB ?_
 refine zax 0 (US l fa) rfl SlV.mono hv ?_
 refine zax 1 (US m fb) rfl SlV.mono hv2 ?_
 refine Z255 ?_; refine Z161 ?_; refine Z367 ?_; refine z7 (yq (φ:=LE r) L rfl rfl (zk rfl) rfl rfl rfl LE.mono (fun u H hH _ _ v1 h1 v2 h2 => zup rfl z0d hr hH h1 h2)) rfl ?_; refine z7 (zgj rfl rfl rfl rfl SlV.mono) rfl ?_; refine Z332 ?_; refine Z138 ?_
 refine yd L (rs:=[.tmp 4, .tmp 5]) rfl (fun _ _ h => h) Since.refl fun u H hH hle => ?_
 exact fun v hv => zre hv
end Go.V.L2
set_option maxRecDepth 20000
namespace Go.V.L8
open Go.Proofs Go.RowKit Go.V Go.V.L2 Go.V.L3 Go.V.L6
def z3k (a b:List U):List CH:=zjy ((zeb zbc fWo (a.length + b.length) a b).map (fun t => (t, true)) ++ (zeb zbc fWo (b.length + a.length) b a).map (fun t => (t, false)))
end Go.V.L8
set_option maxRecDepth 20000
namespace Go.V.L8
open Go.Proofs Go.RowKit Go.V Go.V.L2 Go.V.L3 Go.V.L6
attribute [local irreducible] V N X VO Par StepOK Has Ret RetL RetO RetT zb7 Src
end Go.V.L8
set_option maxRecDepth 20000
namespace Go.V.L8
open Go.Proofs Go.RowKit Go.V Go.V.L2 Go.V.L3 Go.V.L6
attribute [local irreducible] V N X VO Par StepOK Has Ret RetL RetO RetT zb7 Src
end Go.V.L8
set_option maxRecDepth 20000
namespace Go.V.L8
open Go.Proofs Go.RowKit Go.V Go.V.L2 Go.V.L3 Go.V.L6
attribute [local irreducible] V N X VO Par StepOK Has Ret RetL RetO RetT zb7 Src
end Go.V.L8
set_option maxRecDepth 20000
namespace Go.V.L8
open Go.Proofs Go.RowKit Go.V Go.V.L2 Go.V.L3 Go.V.L6
attribute [local irreducible] V N X VO Par StepOK Has Ret RetL RetO RetT zb7 Src
end Go.V.L8
set_option maxRecDepth 20000
namespace Go.V.L8
open Go.Proofs Go.RowKit Go.V Go.V.L2 Go.V.L3 Go.V.L6
theorem zyc (a b:List U):(zeb zbc fWo (a.length + b.length) a b).length ≤ a.length + b.length:=zc9 _ _ _ (Nat.le_refl _)
theorem zun {a b:List U} (la:a.length ≤ 4096) (lb:b.length ≤ 4096) (sa:Sst zbc a) (sb:Sst zbc b):z16 fWo a b = (zeb zbc fWo (a.length + b.length) a b, 0):=by
 unfold z16
 have h1:isB a = true:=decide_eq_true sa
 have h2:isB b = true:=decide_eq_true sb
 rw [if_neg (by omega), h1, h2, if_pos (by decide)]
attribute [local irreducible] V N X VO Par StepOK Has Ret RetL RetO RetT zb7 Src
set_option maxHeartbeats 4000000 in
theorem zn8 {a b:List U} {m:List CH} (la:a.length ≤ 4096) (lb:b.length ≤ 4096) (sa:Sst zbc a) (sb:Sst zbc b) (hr:z3k a b = m) {av bv:Value} {w:World} {B:Heap} (hB:B.Le (hp w)) (ha:SetV a av B) (hb:SetV b bv B) :
  Ret Tryz.prog 59 [av, bv] w B (KS tyC m true):=by
 subst hr
 obtain ⟨f1, p1, k1, q1, rfl, hp1⟩:=ha.shape
 obtain ⟨f2, p2, k2, q2, rfl, hp2⟩:=hb.shape
 have w1:=zun la lb sa sb
 have w2:=zun lb la sb sa
 have l1:=zyc a b
 have l2:=zyc b a
 have hbp:z3k a b = zjy ((zeb zbc fWo (a.length + b.length) a b).map (fun t => (t, true)) ++ (zeb zbc fWo (b.length + a.length) b a).map (fun t => (t, false))):=rfl
 rw [hbp]
 generalize zeb zbc fWo (a.length + b.length) a b = G at *
 generalize zeb zbc fWo (b.length + a.length) b a = K at *
 have mG:Kn.mono (.sat (US G true)):=SlV.mono
 have mK:Kn.mono (.sat (US K true)):=SlV.mono
 refine yh Tryz.func59 rfl Tryz.ntmps59 (Nat.le_of_ble_eq_true rfl) hB ?_
 refine Z209 ?_; refine Z355 ?_; refine z8 (zq L (vs:=[_, _, _, _]) (qm rfl) rfl rfl rfl rfl ⟨_, rfl⟩) rfl ?_; refine z8 (yq (φ:=US a true) L rfl rfl (zk rfl) rfl rfl rfl SlV.mono (fun u H hH hle _ => zel (by omega) hH (ha.le hle))) rfl ?_; refine z8 (zq L (vs:=[_, _, _, _]) (qm rfl) rfl rfl rfl rfl ⟨_, rfl⟩) rfl ?_; refine z8 (yq (φ:=US b true) L rfl rfl (zk rfl) rfl rfl rfl SlV.mono (fun u H hH hle _ => zel (by omega) hH (hb.le hle))) rfl ?_; refine Z88 ?_; refine Z88 ?_; refine Z281 ?_; refine Z29 ?_; refine Z367 ?_; refine z7 (yq (φ:=LE (G, 0)) L rfl rfl (zk rfl) rfl rfl rfl LE.mono (fun u H hH _ _ v1 h1 v2 h2 => zh3 w1 hH h1 h2)) rfl ?_; refine Z364 ?_; refine Z143 ?_; refine Z28 ?_; refine Z367 ?_; refine z7 (yq (φ:=LE (K, 0)) L rfl rfl (zk rfl) rfl rfl rfl LE.mono (fun u H hH _ _ v1 h1 v2 h2 => zh3 w2 hH h1 h2)) rfl ?_; refine Z364 ?_; refine Z143 ?_; refine Z30 ?_; refine Z147 ?_
 refine zdj 11 tyC 7 rfl ?_
 refine Z41 ?_; refine Z150 ?_; refine Z323 ?_
 refine zai (fun i:Nat => [(9, .sat (US K true)), (11, .own (SlR tyC 7 ((G.take i).map fun t => ((t, true):CH)).length (((G.take i).map fun t => ((t, true):CH)).flatMap ccs))), (32, .sat (US G true)), (33, .is (.int .i64 G.length)), (34, .is (.int .i64 i))]) (fun i => i ≤ G.length) (fun i => G.length - i) 0 (Nat.zero_le _) ⟨rfl, rfl, rfl, rfl, rfl, trivial⟩ ?_
 rintro i hi
 have hli:((G.take i).map fun t => ((t, true):CH)).length ≤ 8192:=by rw [List.length_map, List.length_take]; omega
 by_cases hlt:i < G.length
 ·obtain ⟨t, ht⟩:=zae hlt
  have hct:=zgb ht
  have e1:((G.take (i + 1)).map fun t => ((t, true):CH)) = ((G.take i).map fun t => ((t, true):CH)) ++ [(t, true)]:=by rw [List.take_add_one, ht, List.map_append]; rfl
  refine Z376 ?_; refine Z226 ?_; refine Z43 ?_; refine z7 (qu L _ rfl rfl rfl rfl rfl rfl rfl (by first | omega | decide) (by assumption)) rfl ?_; refine z7 (yf L (vs:=[_, _, _, _, _, _]) rfl rfl rfl rfl rfl ⟨_, rfl⟩) rfl ?_; refine Z202 ?_; refine Z137 ?_; refine Z55 ?_; refine ql (yl (.inl rfl) rfl rfl rfl rfl) ?_; refine z7 (zq L (vs:=[_, _, _, _, _, _]) (yj rfl) rfl rfl rfl rfl ⟨_, rfl⟩) rfl ?_; refine z7 (yu (cs:=[_, _, _, _, _, _, _]) rfl rfl zou rfl rfl) rfl ?_; refine Z32 ?_; refine Z108 ?_; refine ql (yl (.inr rfl) rfl rfl rfl rfl) ?_; refine Z235 ?_; refine Z57 ?_; refine Z311 ?_
  exact yi (x:=i) (i + 1) hlt (by omega) ⟨rfl, by rw [e1]; exact zgo rfl, rfl, rfl, rfl, trivial⟩
 ·obtain rfl:i = G.length:=by omega
  rw [List.take_length]
  have lG:(G.map fun t => ((t, true):CH)).length ≤ 8192:=by rw [List.length_map]; omega
  refine Z376 ?_; refine Z312 ?_; refine Z139 ?_; refine Z68 ?_; refine Z150 ?_; refine Z323 ?_
  refine zai (fun j:Nat => [(11, .own (SlR tyC 7 ((G.map fun t => ((t, true):CH)) ++ ((K.take j).map fun t => ((t, false):CH))).length (((G.map fun t => ((t, true):CH)) ++ ((K.take j).map fun t => ((t, false):CH))).flatMap ccs))), (44, .sat (US K true)), (45, .is (.int .i64 K.length)), (46, .is (.int .i64 j))]) (fun j => j ≤ K.length) (fun j => K.length - j) 0 (Nat.zero_le _) ⟨by rw [List.take_zero, List.map_nil, List.append_nil]; rfl, rfl, rfl, rfl, trivial⟩ ?_
  rintro j hj
  have hlj:((G.map fun t => ((t, true):CH)) ++ ((K.take j).map fun t => ((t, false):CH))).length ≤ 16384:=by rw [List.length_append, List.length_map, List.length_map, List.length_take]; omega
  by_cases hjl:j < K.length
  ·obtain ⟨t, ht⟩:=zae hjl
   have hct:=zgb ht
   have e1:((G.map fun t => ((t, true):CH)) ++ ((K.take (j + 1)).map fun t => ((t, false):CH))) = ((G.map fun t => ((t, true):CH)) ++ ((K.take j).map fun t => ((t, false):CH))) ++ [(t, false)]:=by rw [List.take_add_one, ht, List.map_append, List.append_assoc]; rfl
   refine zh ?_; refine Z64 ?_; refine Z226 ?_; refine Z83 ?_; refine z7 (qu L _ rfl rfl rfl rfl rfl rfl rfl (by first | omega | decide) (by assumption)) rfl ?_; refine z7 (yf L (vs:=[_, _, _, _, _, _]) rfl rfl rfl rfl rfl ⟨_, rfl⟩) rfl ?_; refine Z202 ?_; refine Z137 ?_; refine Z81 ?_; refine ql (yl (.inl rfl) rfl rfl rfl rfl) ?_; refine z7 (zq L (vs:=[_, _, _, _, _, _]) (yj rfl) rfl rfl rfl rfl ⟨_, rfl⟩) rfl ?_; refine z7 (yu (cs:=[_, _, _, _, _, _, _]) rfl rfl zou rfl rfl) rfl ?_; refine Z32 ?_; refine Z108 ?_; refine ql (yl (.inr rfl) rfl rfl rfl rfl) ?_; refine Z235 ?_; refine Z71 ?_; refine Z311 ?_
   exact yi (x:=j) (j + 1) hjl (by omega) ⟨by rw [e1]; exact zgo rfl, rfl, rfl, rfl, trivial⟩
  ·obtain rfl:j = K.length:=by omega
   rw [List.take_length]
   rw [List.take_length] at hlj
   refine zb3 11 rfl ?_
   refine zh ?_; refine Z64 ?_; refine Z352 ?_; refine Z94 ?_; refine Z4 ?_; refine z7 (yq (φ:=KS tyC (zjy ((G.map fun t => ((t, true):CH)) ++ (K.map fun t => ((t, false):CH)))) true) L rfl rfl (zk rfl) rfl rfl rfl SlV.mono (fun u H hH _ _ v1 h1 => zpc rfl (by omega) hH h1)) rfl ?_; refine Z269 ?_
   refine yd L (rs:=[.tmp 4]) rfl (fun _ _ h => h) Since.refl fun u H hH hle => ?_
   exact fun v hv => hv
end Go.V.L8
set_option maxRecDepth 20000
namespace Go.V.L10
open Go.Proofs Go.RowKit Go.V Go.V.L2 Go.V.L8 Go.V.L6
theorem zpt (S:Sto):zft fun (x:Nat × Value × Ent) (H:Heap) => MapOK x.2.2 S.R ∧ EsV x.2.2 H ∧ PsV (zak S.P) x.2.1 H:=fun _ _ _ ⟨h1, h2, h3⟩ hle => ⟨h1, h2.le hle, h3.le hle⟩
abbrev StG (b:Nat) (S:Sto):GR:=GEx (fun x:Nat × Value × Ent => StO b S.R.length x.1 x.2.1 S.P.length x.2.2) (fun x H => MapOK x.2.2 S.R ∧ EsV x.2.2 H ∧ PsV (zak S.P) x.2.1 H) (zpt S)
theorem zoo (b:Nat) (S:Sto):(StG b S).res = ExR (fun x:Nat × Value × Ent => (StO b S.R.length x.1 x.2.1 S.P.length x.2.2).res) (fun x H => MapOK x.2.2 S.R ∧ EsV x.2.2 H ∧ PsV (zak S.P) x.2.1 H) (zpt S):=rfl
theorem zgv {S:Sto} {b m:Nat} {s:Value} {es:Ent} {B:Heap} (hm:MapOK es S.R) (hes:EsV es B) (hps:PsV (zak S.P) s B):∀ (v:Value) H u C, B.Le H → (StO b S.R.length m s S.P.length es).res.P v H u C → (StG b S).res.P v H u C:=fun _ _ _ _ hle h => ⟨(m, s, es), ⟨hm, hes.le hle, hps.le hle⟩, h⟩
theorem EsV.snoc {es:Ent} {H:Heap} (h:EsV es H) {k:Int} {t:List U} {v:Value} (hv:SetV t v H):EsV (es ++ [(k, (t, v))]) H:=fun e he => by
 rcases List.mem_append.1 he with he | he
 ·exact h e he
 ·rw [List.mem_singleton.1 he]; exact hv
theorem zdm {P:Program} {f:FuncId} {args:List Value} {w:World} {B:Heap} {C:Nat → Prop} {r:GR} {v:Value} (h:RetY P f args w B C r (fun x _ => x = v)):zdu P f args w B C r v:=RetL.mono h fun _ _ _ _ hp => hp
attribute [local irreducible] V N X VO Par StepOK Has Ret RetL RetO RetT zb7 zdu RetY Src
set_option maxHeartbeats 4000000 in
set_option maxRecDepth 20000 in
theorem zej {S S':Sto} {b:Nat} {l cs:List CH} {rev e:Int} {fl fc:Bool} (hI:z3b S) (hR:S.R.length ≤ 100000) (hn:S.R.length ≠ 0) (zl:∀ c ∈ l, TM c.1) (zc:∀ c ∈ cs, TM c.1) (ll:l.length ≤ 9223372036854775807) (lc:cs.length ≤ 9223372036854775807) (hw:zdy S l cs = (S', rev, e)) {lv cv:Value} {w:World} {B:Heap} {C:Nat → Prop} (hB:B.Le (hp w))
  (hl:KS tyM l fl lv B) (hc:KS tyC cs fc cv B) (hr:(StG b S).P B w C) (hC:∀ k, C k → k < w.heap.size ∧ B k = none) :
  RetY Tryz.prog 19 [.pointer (some ⟨b, 0, none⟩), lv, cv] w B C (StG b S') (fun v _ => v = .tuple #[.int .u64 rev, .int .i64 e]):=by
 unfold RetY
 refine zap 900 (StG b S) Tryz.func19 rfl Tryz.ntmps19 (Nat.le_of_ble_eq_true rfl) hB hr hC ?_
 refine zax 1 (KS tyM l fl) rfl SlV.mono hl ?_
 refine zax 2 (KS tyC cs fc) rfl SlV.mono hc ?_
 rw [zoo]
 refine zc5 900 rfl fun x H hs0 hφ => ?_
 obtain ⟨m, s, es⟩:=x
 obtain ⟨hm, hes, hps⟩:=hφ
 dsimp only at hm hes hps ⊢
 obtain ⟨ps, pc, rfl⟩:=zat hps
 obtain ⟨t0, ht0⟩:∃ t0, kpt S.R S.R.length = some t0:=Option.isSome_iff_exists.1 hI.last
 have hA:atS S 0 = (t0, 0):=by unfold atS; rw [if_pos rfl, ht0]
 have ht4:=hI.tl _ _ ht0
 obtain ⟨⟨t1, made, e1⟩, hwr⟩:∃ x, zd6 t0 l cs = x:=⟨_, rfl⟩
 unfold zdy at hw
 rw [hA, hwr] at hw
 dsimp only at hw
 refine Z255 ?_; refine Z161 ?_; refine Z1 ?_; refine yw (zbp L 900 (WithP t0 0) (r:=StO b S.R.length m _ S.P.length es) rfl rfl rfl rfl rfl WithP.mono (fun u H2 C2 hH hle hr2 hC2 => by have h:=zgu (S:=S) (r:=0) hm hn (hes.le hle) hH hr2 hC2; rw [hA] at h; exact h)) ?_; refine zbu 14 rfl fun v1 H1 hs1 hp1 => ?_; obtain ⟨sv, rfl, hsv⟩:=hp1; obtain ⟨f1, p1, f2, p2, rfl, hpl⟩:=hsv.shape; refine Z306 ?_; refine Z147 ?_; refine Z171 ?_; refine Z227 ?_; refine Z30 ?_; refine z7 (zq L (vs:=[_, _, _, _]) (yj rfl) rfl rfl rfl rfl ⟨_, rfl⟩) rfl ?_; refine Z367 ?_; refine z7 (yq L rfl rfl (zk rfl) rfl rfl rfl WriteP.mono (fun u H2 hH hle _ v1 h1 v2 h2 => zsr zl zc ll lc ht4 hwr hH (hsv.le hle) h1 h2)) rfl ?_; refine zbu 24 rfl fun v3 H3 hs3 hp3 => ?_; obtain ⟨tv, mv, rfl, htv, hmv⟩:=hp3; obtain ⟨f3, p3, f4, p4, rfl, hpl4⟩:=htv.shape; refine Z173 ?_; refine Z14 ?_; refine Z291 ?_; refine Z220 ?_
 have hs13:=hs1.trans hs3
 have hes3:=hes.le hs13.le
 have hps3:=hps.le hs13.le
 by_cases he:e1 = 0
 ·subst he
  rw [if_pos rfl] at hw
  have hlen:=hm.len
  have hkl:=hI.kl
  rw [zfd]
  refine zga 900 901 rfl (zau _) ?_
  by_cases hk:1024 ≤ (zaz S.R).length
  ·rw [if_pos hk] at hw
   cases hw
   refine Z179 ?_; refine Z245 ?_; refine Z200 ?_; refine Z263 ?_; refine yw (zoz (q:=901) (vc:=vcE) mpS rfl rfl rfl rfl rfl) ?_; refine Z284 ?_; refine Z55 ?_; refine Z188 ?_
   refine zb1 900 901 rfl rfl (zau _) ?_
   refine zct 900 (StG b S).res rfl (zgv hm hes3 hps3) ?_
   exact zb0 L 900 (r:=StG b S) (rs:=[.tmp 6, .tmp 7]) rfl (fun _ _ h => h) (hs0.trans hs13) rfl rfl (fun H hle => rfl)
  ·rw [if_neg hk] at hw
   cases hw
   have hadd:=hm.add t1 (.agg #[f3, .pointer p3, f4, .pointer p4])
   have hwn:IntKind.u64.wrap ((S.R.length:Int) + 1) = ((S.R.length + 1:Nat):Int):=wrap_u64 (by omega) (by omega)
   have hln:(S.R ++ [some t1]).length = S.R.length + 1:=by rw [List.length_append]; rfl
   refine Z179 ?_; refine Z245 ?_; refine Z200 ?_; refine Z263 ?_; refine yw (zoz (q:=901) (vc:=vcE) mpS rfl rfl rfl rfl rfl) ?_; refine Z290 ?_; refine Z275 ?_; refine Z263 ?_; refine Z16 ?_; refine Z236 ?_; refine Z268 ?_; refine Z263 ?_; refine Z16 ?_; refine Z206 ?_; refine zcy (yx L (q:=900) (cs':=stc (S.R.length + 1) m (.slice ps (zak S.P).length pc) S.P.length) rfl rfl rfl rfl rfl rfl rfl rfl rfl) ?_; refine Z159 ?_
   refine qd (id:=12) [(200053, [900]), (200057, [900]), (100053, [901])] mixed (by kernel_rfl) ?_; refine Z181 ?_; refine Z77 ?_; refine Z181 ?_; refine Z77 ?_; refine z8 (zq L (vs:=[_, _, _, _]) (yj rfl) rfl rfl rfl rfl ⟨_, rfl⟩) rfl ?_; refine yz (zrp (q:=901) (vc:=vcE) ((S.R.length + 1:Nat):Int) (t1, .agg #[f3, .pointer p3, f4, .pointer p4]) mpS kyS rfl rfl rfl rfl rfl rfl hadd.2) rfl ?_; refine Z281 ?_
   refine Z303 ?_; refine Z263 ?_; refine Z188 ?_
   refine zb1 900 901 rfl rfl (zau _) ?_
   refine zct 900 (StG b ⟨S.R ++ [some t1], S.P⟩).res rfl (fun v H u C hle h => zgv (S:=⟨S.R ++ [some t1], S.P⟩) (by have h2:=hadd.1; rw [hadd.2] at h2; exact h2) (hes3.snoc htv) hps3 v H u C hle (by dsimp only; rw [hln]; exact h)) ?_
   exact zb0 L 900 (r:=StG b ⟨S.R ++ [some t1], S.P⟩) (rs:=[.tmp 6, .tmp 7]) rfl (fun _ _ h => h) (hs0.trans hs13) rfl rfl (fun H hle => rfl)
 ·rw [if_neg he] at hw
  cases hw
  refine Z179 ?_; refine Z213 ?_; refine Z189 ?_; refine Z188 ?_
  refine zct 900 (StG b S).res rfl (zgv hm hes3 hps3) ?_
  exact zb0 L 900 (r:=StG b S) (rs:=[.tmp 6, .tmp 7]) rfl (fun _ _ h => h) (hs0.trans hs13) rfl rfl (fun H hle => rfl)
set_option maxHeartbeats 4000000 in
set_option maxRecDepth 20000 in
theorem zjd {S:Sto} {b f:Nat} {r:Int} {P':List Int} {e:Int} (hn:S.R.length ≠ 0) (hk:(kpt S.R r).isSome = true) (hfn:L.fn f = some ()) (hf:∀ {s:Value} {u:World} {H:Heap}, H.Le (hp u) → PsV (zak S.P) s H → Ret Tryz.prog f [pnv s S.P.length, .int .u64 r] u H (PinP P' e)) {w:World} {B:Heap} {C:Nat → Prop} (hB:B.Le (hp w))
  (hr:(StG b S).P B w C) (hC:∀ k, C k → k < w.heap.size ∧ B k = none) :
  RetY Tryz.prog 50 [.pointer (some ⟨b, 0, none⟩), .int .u64 r, .func (.func f) #[] #[]] w B C (StG b (if e = 0 then ⟨S.R, P'⟩ else S)) (fun v _ => v = .int .i64 e):=by
 unfold RetY
 refine zap 900 (StG b S) Tryz.func50 rfl Tryz.ntmps50 (Nat.le_of_ble_eq_true rfl) hB hr hC ?_
 rw [zoo]
 refine zc5 900 rfl fun x H hs0 hφ => ?_
 obtain ⟨m, s, es⟩:=x
 obtain ⟨hm, hes, hps⟩:=hφ
 dsimp only at hm hes hps ⊢
 obtain ⟨ps, pc, rfl⟩:=zat hps
 rw [zfd]
 refine zga 900 901 rfl (zau _) ?_
 have hg:=hm.get r
 obtain ⟨⟨t0, sv⟩, hgk⟩:∃ x, zey r es = some x:=by
  rw [← hg, Option.isSome_map] at hk
  exact Option.isSome_iff_exists.1 hk
 have hsv:SetV t0 sv H:=hes _ (zir hgk)
 obtain ⟨f1, p1, f2, p2, rfl, hpl⟩:=hsv.shape
 have q1:(zey r es).elim nilSet vcE = .agg #[f1, .pointer p1, f2, .pointer p2]:=by rw [hgk]; rfl
 have q2:(zey r es).isSome = true:=by rw [hgk]; rfl
 refine Z272 ?_; refine yw (za7 L 900 (Φ:=fun H => H b = some (.cells (stc S.R.length m _ S.P.length).toArray tyS)) (c:=.bool false) rfl rfl (zk rfl) rfl rfl rfl rfl rfl zj1 (fun u H hH hle hb => zcp hn hb hH)) ?_; refine Z167 ?_; refine Z176 ?_; refine Z263 ?_; refine Z1 ?_; refine yw (zdv (q:=901) (vc:=vcE) r mpS kyS zrS rfl rfl rfl rfl rfl q1 q2) ?_; refine Z306 ?_; refine Z143 ?_; refine Z160 ?_; refine Z53 ?_; refine Z158 ?_; refine Z273 ?_; refine Z206 ?_; refine yw (zam L (q:=900) (vs:=[_, _]) rfl rfl rfl rfl rfl rfl ⟨_, rfl⟩) ?_; refine Z1 ?_; refine z7 (yq (φ:=PinP P' e) L rfl rfl (zk rfl) rfl (cap:=[]) rfl hfn PinP.mono (fun u H2 hH hle _ => hf hH (hps.le hle))) rfl ?_; refine zbu 31 rfl fun v1 H1 hs1 hp1 => ?_; obtain ⟨s2, rfl, hs2⟩:=hp1; obtain ⟨p5, c5, rfl⟩:=zat hs2; refine Z173 ?_; refine Z202 ?_; refine Z147 ?_
 by_cases he:e = 0
 ·subst he
  rw [if_pos rfl]
  refine Z200 ?_; refine Z285 ?_; refine Z219 ?_; refine z7 (zq L (vs:=[_, _]) (yj rfl) rfl rfl rfl rfl ⟨_, rfl⟩) rfl ?_; refine Z206 ?_; refine zcy (yx L (q:=900) (cs':=stc S.R.length m (.slice p5 (zak P').length c5) P'.length) rfl rfl rfl rfl rfl rfl rfl rfl rfl) ?_; refine Z159 ?_; refine Z275 ?_; refine Z138 ?_
  refine zb1 900 901 rfl rfl (zau _) ?_
  refine zct 900 (StG b ⟨S.R, P'⟩).res rfl (zgv (S:=⟨S.R, P'⟩) hm (hes.le hs1.le) hs2) ?_
  exact zb0 L 900 (r:=StG b ⟨S.R, P'⟩) (rs:=[.tmp 6]) rfl (fun _ _ h => h) (hs0.trans hs1) rfl rfl (fun H hle => rfl)
 ·rw [if_neg he]
  refine Z200 ?_; refine Z236 ?_; refine Z275 ?_; refine Z138 ?_
  refine zb1 900 901 rfl rfl (zau _) ?_
  refine zct 900 (StG b S).res rfl (zgv hm (hes.le hs1.le) (hps.le hs1.le)) ?_
  exact zb0 L 900 (r:=StG b S) (rs:=[.tmp 6]) rfl (fun _ _ h => h) (hs0.trans hs1) rfl rfl (fun H hle => rfl)
set_option maxHeartbeats 4000000 in
theorem zh6 {S:Sto} {b:Nat} {r:Int} {fv:Value} (hn:S.R.length ≠ 0) (hk:¬ (kpt S.R r).isSome = true) {w:World} {B:Heap} {C:Nat → Prop} (hB:B.Le (hp w))
  (hr:(StG b S).P B w C) (hC:∀ k, C k → k < w.heap.size ∧ B k = none) :
  RetY Tryz.prog 50 [.pointer (some ⟨b, 0, none⟩), .int .u64 r, fv] w B C (StG b S) (fun v _ => v = .int .i64 14):=by
 refine RetY.ex hr fun x hφ hr => ?_
 obtain ⟨m, s, es⟩:=x
 obtain ⟨hm, hes, hps⟩:=hφ
 dsimp only at hm hes hps hr ⊢
 unfold RetY
 refine zap 900 (StO b S.R.length m s S.P.length es) Tryz.func50 rfl Tryz.ntmps50 (Nat.le_of_ble_eq_true rfl) hB hr hC ?_
 rw [zfd]
 refine zga 900 901 rfl (zau _) ?_
 have hg:=hm.get r
 have hgk:zey r es = none:=by
  rw [← hg, Option.isSome_map] at hk
  cases h:zey r es with
  | none => rfl
  | some y => rw [h] at hk; exact absurd rfl hk
 have q1:(zey r es).elim nilSet vcE = nilSet:=by rw [hgk]; rfl
 have q2:(zey r es).isSome = false:=by rw [hgk]; rfl
 refine Z272 ?_; refine yw (za7 L 900 (Φ:=fun H => H b = some (.cells (stc S.R.length m _ S.P.length).toArray tyS)) (c:=.bool false) rfl rfl (zk rfl) rfl rfl rfl rfl rfl zj1 (fun u H hH hle hb => zcp hn hb hH)) ?_; refine Z167 ?_; refine Z176 ?_; refine Z263 ?_; refine Z1 ?_; refine yw (zdv (q:=901) (vc:=vcE) r mpS kyS zrS rfl rfl rfl rfl rfl q1 q2) ?_; refine Z173 ?_; refine Z202 ?_; refine Z143 ?_; refine Z160 ?_; refine Z53 ?_; refine Z154 ?_; refine Z41 ?_; refine Z138 ?_
 refine zb1 900 901 rfl rfl (zau _) ?_
 exact zb0 L 900 (r:=StO b S.R.length m s S.P.length es) (rs:=[.tmp 6]) rfl (fun _ _ h => h) Since.refl rfl rfl (fun H hle => rfl)
theorem zls {S S':Sto} {b:Nat} {r e:Int} (hn:S.R.length ≠ 0) (hz:S.P.length ≤ 1000) (hpn:zkp S r false = (S', e)) {w:World} {B:Heap} {C:Nat → Prop} (hB:B.Le (hp w)) (hr:(StG b S).P B w C) (hC:∀ k, C k → k < w.heap.size ∧ B k = none) :
  RetY Tryz.prog 20 [.pointer (some ⟨b, 0, none⟩), .int .u64 r] w B C (StG b S') (fun v _ => v = .int .i64 e):=by
 unfold zkp at hpn
 unfold RetY
 refine zap 900 (StG b S) Tryz.func20 rfl Tryz.ntmps20 (Nat.le_of_ble_eq_true rfl) hB hr hC ?_
 by_cases hk:(kpt S.R r).isSome = true
 ·rw [if_pos hk] at hpn
  rw [if_neg (by decide)] at hpn
  cases hpn
  have hr0:r ≠ 0:=by have:=zec hk; omega
  refine Z186 ?_; refine Z140 ?_; refine ql (zag L 900 (StG b ⟨S.R, S.P ++ [r]⟩) (.int .i64 0) (r:=StG b S) rfl rfl rfl rfl rfl (fun u H2 C2 hH hle hr2 hC2 => by have h:=zjd (P':=S.P ++ [r]) (e:=0) hn hk rfl (fun hH hv => zzp hr0 hz hH hv) hH hr2 hC2; rw [if_pos rfl] at h; exact zdm h)) ?_; refine Z138 ?_
  exact zb0 L 900 (r:=StG b ⟨S.R, S.P ++ [r]⟩) (rs:=[.tmp 4]) rfl (fun _ _ h => h) Since.refl rfl rfl (fun H hle => rfl)
 ·rw [if_neg hk] at hpn
  cases hpn
  refine Z186 ?_; refine Z140 ?_; refine yw (zns L 900 (.int .i64 14) (r:=StG b S) rfl rfl rfl rfl rfl (fun u H2 C2 hH hle hr2 hC2 => zh6 hn hk hH hr2 hC2)) ?_; refine Z138 ?_
  exact zb0 L 900 (r:=StG b S) (rs:=[.tmp 4]) rfl (fun _ _ h => h) Since.refl rfl rfl (fun H hle => rfl)
theorem zhn {S S':Sto} {b:Nat} {r e:Int} (hn:S.R.length ≠ 0) (hz:S.P.length ≤ 1000) (hpn:zkp S r true = (S', e)) {w:World} {B:Heap} {C:Nat → Prop} (hB:B.Le (hp w)) (hr:(StG b S).P B w C) (hC:∀ k, C k → k < w.heap.size ∧ B k = none) :
  RetY Tryz.prog 39 [.pointer (some ⟨b, 0, none⟩), .int .u64 r] w B C (StG b S') (fun v _ => v = .int .i64 e):=by
 unfold zkp at hpn
 unfold RetY
 refine zap 900 (StG b S) Tryz.func39 rfl Tryz.ntmps39 (Nat.le_of_ble_eq_true rfl) hB hr hC ?_
 by_cases hk:(kpt S.R r).isSome = true
 ·rw [if_pos hk] at hpn
  rw [if_pos rfl] at hpn
  obtain ⟨⟨P', e'⟩, hu⟩:∃ x, zfc S.P r = x:=⟨_, rfl⟩
  rw [hu] at hpn
  dsimp only at hpn
  have hS:S' = (if ((e':Nat):Int) = 0 then ⟨S.R, P'⟩ else S) ∧ e = ((e':Nat):Int):=by
   by_cases h0:e' = 0
   ·subst h0; rw [if_pos rfl] at hpn; rw [if_pos (show ((0:Nat):Int) = 0 from rfl)]; cases hpn; exact ⟨rfl, rfl⟩
   ·rw [if_neg h0] at hpn; rw [if_neg (by omega)]; cases hpn; exact ⟨rfl, rfl⟩
  obtain ⟨rfl, rfl⟩:=hS
  refine Z186 ?_; refine Z140 ?_; refine ql (zag L 900 (StG b (if ((e':Nat):Int) = 0 then ⟨S.R, P'⟩ else S)) (.int .i64 e') (r:=StG b S) rfl rfl rfl rfl rfl (fun u H2 C2 hH hle hr2 hC2 => zdm (zjd (P':=P') (e:=e') hn hk rfl (fun hH hv => zs3 hu hz hH hv) hH hr2 hC2))) ?_; refine Z138 ?_
  exact zb0 L 900 (r:=StG b (if ((e':Nat):Int) = 0 then ⟨S.R, P'⟩ else S)) (rs:=[.tmp 4]) rfl (fun _ _ h => h) Since.refl rfl rfl (fun H hle => rfl)
 ·rw [if_neg hk] at hpn
  cases hpn
  refine Z186 ?_; refine Z140 ?_; refine yw (zns L 900 (.int .i64 14) (r:=StG b S) rfl rfl rfl rfl rfl (fun u H2 C2 hH hle hr2 hC2 => zh6 hn hk hH hr2 hC2)) ?_; refine Z138 ?_
  exact zb0 L 900 (r:=StG b S) (rs:=[.tmp 4]) rfl (fun _ _ h => h) Since.refl rfl rfl (fun H hle => rfl)
end Go.V.L10
set_option maxRecDepth 20000
namespace Go.V.L10
open Go.Proofs Go.RowKit Go.V
theorem _root_.Go.V.Z397 {A B:Prop} (h:B) (t:Wr B → A:=by intro h; refine Z61 ?_; refine Z1 ?_; exact h.h):A:=t ⟨h⟩
theorem zsi {l:List Int} {i:Nat} {x r:Int} (h:l[i]? = some x):(l.take (i + 1)).count r = (l.take i).count r + if x = r then 1 else 0:=by
 rw [zb2 h, List.count_append, List.count_singleton]
 congr 1
 by_cases e:x = r <;> simp [e]
theorem z2w {l:List Int} {i:Nat} {r:Int}:(l.take i).count r ≤ l.length:=Nat.le_trans List.count_le_length (by rw [List.length_take]; omega)
def nxF (last n x:Int):Int:=if last < x ∧ (n = 0 ∨ x < n) then x else n
def nxS (last:Int) (l:List Int):Int:=l.foldl (nxF last) 0
theorem zwu {last:Int} {l:List Int} {i:Nat} {x:Int} (h:l[i]? = some x):nxS last (l.take (i + 1)) = nxF last (nxS last (l.take i)) x:=by
 unfold nxS; rw [zb2 h, List.foldl_append]; rfl
theorem zwt {last:Int} (h0:0 ≤ last) (l:List Int):(nxS last l = 0 ∧ ∀ x ∈ l, ¬ last < x) ∨ (nxS last l ∈ l ∧ last < nxS last l ∧ ∀ x ∈ l, last < x → nxS last l ≤ x):=by
 have key:∀ (m:List Int) (n:Int) (seen:List Int), ((n = 0 ∧ ∀ x ∈ seen, ¬ last < x) ∨ (n ∈ seen ∧ last < n ∧ ∀ x ∈ seen, last < x → n ≤ x)) → ((m.foldl (nxF last) n = 0 ∧ ∀ x ∈ seen ++ m, ¬ last < x) ∨ (m.foldl (nxF last) n ∈ seen ++ m ∧ last < m.foldl (nxF last) n ∧ ∀ x ∈ seen ++ m, last < x → m.foldl (nxF last) n ≤ x)):=by
  intro m
  induction m with
  | nil => intro n seen h; simpa using h
  | cons y m ih =>
   intro n seen h
   have h1:=ih (nxF last n y) (seen ++ [y]) (by
    unfold nxF
    by_cases hc:last < y ∧ (n = 0 ∨ y < n)
    ·rw [if_pos hc]
     refine .inr ⟨by simp, hc.1, fun x hx hl => ?_⟩
     rcases List.mem_append.1 hx with hx | hx
     ·rcases h with ⟨_, h3⟩ | ⟨_, h3, h4⟩
      ·exact absurd hl (h3 x hx)
      ·have:=h4 x hx hl; rcases hc.2 with h5 | h5 <;> omega
     ·rw [List.mem_singleton.1 hx]; exact Int.le_refl _
    ·rw [if_neg hc]
     rcases h with ⟨h2, h3⟩ | ⟨h2, h3, h4⟩
     ·refine .inl ⟨h2, fun x hx => ?_⟩
      rcases List.mem_append.1 hx with hx | hx
      ·exact h3 x hx
      ·rw [List.mem_singleton.1 hx]; exact fun hl => hc ⟨hl, .inl h2⟩
     ·refine .inr ⟨List.mem_append_left _ h2, h3, fun x hx hl => ?_⟩
      rcases List.mem_append.1 hx with hx | hx
      ·exact h4 x hx hl
      ·rw [List.mem_singleton.1 hx] at hl ⊢
       rcases Int.lt_or_le y n with h5 | h5
       ·exact absurd ⟨hl, .inr h5⟩ hc
       ·exact h5)
   simpa using h1
 simpa [nxS] using key l 0 [] (.inl ⟨rfl, fun x hx => by cases hx⟩)
def zg3 (h:List Int) (k:Nat):Int:=if k = 0 then 0 else (h[k - 1]?).getD 0
theorem zr5 {h:List Int} {k:Nat} {x:Int} (hx:h[k]? = some x):zg3 h (k + 1) = x:=by
 unfold zg3
 rw [if_neg (by omega), Nat.add_sub_cancel, hx]; rfl
theorem zo6 {L0:List Int} {i j:Nat} {x y:Int} (hi:(zar L0)[i]? = some x) (hj:(zar L0)[j]? = some y) (hij:i < j):x < y:=by
 have h1:=List.pairwise_iff_getElem.1 (za8 L0) i j (get_lt hi) (get_lt hj) hij
 rw [zdn hi, zdn hj] at h1
 exact zxs.1 h1
theorem zuy {L0:List Int} (hp:∀ x ∈ L0, 0 < x) {k:Nat} {x:Int} (hx:(zar L0)[k]? = some x):zg3 (zar L0) k < x:=by
 unfold zg3
 by_cases h:k = 0
 ·rw [if_pos h]; exact hp x (zaw.1 (List.mem_of_getElem? hx))
 ·rw [if_neg h]
  have hk:k - 1 < (zar L0).length:=by have:=get_lt hx; omega
  rw [List.getElem?_eq_getElem hk]
  exact zo6 (List.getElem?_eq_getElem hk) hx (by omega)
theorem zw3 {L0:List Int} (hp:∀ x ∈ L0, 0 < x) {k:Nat} (hk:k ≤ (zar L0).length):0 ≤ zg3 (zar L0) k:=by
 unfold zg3
 by_cases h:k = 0
 ·rw [if_pos h]; exact Int.le_refl _
 ·rw [if_neg h]
  have hk2:k - 1 < (zar L0).length:=by omega
  rw [List.getElem?_eq_getElem hk2]
  exact Int.le_of_lt (hp _ (zaw.1 (List.getElem_mem hk2)))
theorem zwv {L0:List Int} (hp:∀ x ∈ L0, 0 < x) {k:Nat} (hk:k ≤ (zar L0).length):(nxS (zg3 (zar L0) k) L0 = 0 ∧ k = (zar L0).length) ∨ (nxS (zg3 (zar L0) k) L0 ≠ 0 ∧ (zar L0)[k]? = some (nxS (zg3 (zar L0) k) L0)):=by
 rcases zwt (zw3 hp hk) L0 with ⟨h1, h2⟩ | ⟨h1, h2, h3⟩
 ·refine .inl ⟨h1, ?_⟩
  by_cases hlt:k < (zar L0).length
  ·obtain ⟨x, hx⟩:=zae hlt
   exact absurd (zuy hp hx) (h2 x (zaw.1 (List.mem_of_getElem? hx)))
  ·omega
 ·generalize hn:nxS (zg3 (zar L0) k) L0 = n at *
  refine .inr ⟨fun e => by have:=hp _ h1; omega, ?_⟩
  obtain ⟨j, hj⟩:=List.getElem?_of_mem (zaw.2 h1)
  have hjk:k ≤ j:=by
   rcases Nat.lt_or_ge j k with hlt | hge
   ·have:n ≤ zg3 (zar L0) k:=by
     unfold zg3
     have hk2:k - 1 < (zar L0).length:=by omega
     rw [if_neg (by omega), List.getElem?_eq_getElem hk2]
     by_cases e:j = k - 1
     ·subst e; rw [zdn hj]; exact Int.le_refl _
     ·exact Int.le_of_lt (zo6 hj (List.getElem?_eq_getElem hk2) (by omega))
    omega
   ·exact hge
  obtain ⟨x, hx⟩:=zae (show k < (zar L0).length by have:=get_lt hj; omega)
  have h4:=h3 x (zaw.1 (List.mem_of_getElem? hx)) (zuy hp hx)
  by_cases e:j = k
  ·subst e; exact hj
  ·have:=zo6 hx hj (by omega); omega
theorem zfi {φ:Value → Heap → Prop} {a tv:Value} {H:Heap} (h:φ tv H):TupS [φ, fun v _ => v = a] (.tuple #[tv, a]) H:=by
 refine ⟨[tv, a], rfl, rfl, fun i φ' x hi hx => ?_⟩
 rcases i with _ | _ | i
 ·cases hi; cases hx; exact h
 ·cases hi; cases hx; rfl
 ·cases hi
theorem zfh {φ:Value → Heap → Prop} {a:Value} (h:Kn.mono (.sat φ)):Kn.mono (.sat (TupS [φ, fun v _ => v = a])):=TupS.mono fun ψ hψ => by
 simp only [List.mem_cons, List.mem_nil_iff, or_false] at hψ
 rcases hψ with rfl | rfl
 ·exact h
 ·exact fun _ _ _ h _ => h
attribute [local irreducible] V N X VO Par StepOK Has Ret RetL RetO RetT zb7 zdu Src
theorem zen {l:List Int} {r:Int} {fu:Bool} {c:Nat} (hc:l.count r = c) (hz:l.length ≤ 100000) {v:Value} {w:World} {B:Heap} (hB:B.Le (hp w)) (hv:RsV l fu v B) :
  Ret Tryz.prog 35 [v, .int .u64 r] w B (fun v _ => v = .int .i64 (c:Nat)):=by
 subst hc
 refine yh Tryz.func35 rfl Tryz.ntmps35 (Nat.le_of_ble_eq_true rfl) hB ?_
 refine zax 0 (RsV l fu) rfl SlV.mono hv ?_
 refine Z186 ?_; refine Z147 ?_; refine Z356 ?_
 refine zai (fun s:Nat × Nat => [(0, .sat (RsV l fu)), (1, .is (.int .u64 r)), (5, .is (.int .i64 s.2)), (6, .is (.int .i64 s.1))]) (fun s => s.1 ≤ l.length ∧ s.2 = (l.take s.1).count r) (fun s => l.length - s.1) (0, 0) ⟨Nat.zero_le _, rfl⟩ ⟨rfl, rfl, rfl, rfl, trivial⟩ ?_
 rintro ⟨i, c⟩ ⟨hi, hc⟩
 dsimp only at hi hc ⊢
 have hcl:(l.take i).count r ≤ l.length:=z2w
 by_cases hlt:i < l.length
 ·obtain ⟨x, hx⟩:=zae hlt
  have hq:=zjl hx
  have hs:=zsi (r:=r) hx
  have hwi:IntKind.i64.wrap ((i:Int) + 1) = ((i + 1:Nat):Int):=zaa (by omega) (by omega)
  have hwc:IntKind.i64.wrap ((c:Int) + 1) = ((c + 1:Nat):Int):=zaa (by omega) (by omega)
  by_cases hxr:x = r
  ·rw [if_pos hxr] at hs
   refine Z250 ?_; refine Z205 ?_; refine Z41 ?_; refine Z198 ?_; refine z7 (qu L _ rfl rfl rfl rfl rfl rfl rfl (by first | omega | decide) (by assumption)) rfl ?_; refine Z397 ?_; refine Z285 ?_; refine Z189 ?_; refine Z211 ?_; refine Z165 ?_; refine Z343 ?_
   exact yi (x:=(i, c)) (i + 1, c + 1) ⟨hlt, by dsimp only; omega⟩ (by dsimp only; omega) ⟨rfl, rfl, rfl, rfl, trivial⟩
  ·rw [if_neg hxr] at hs
   refine Z250 ?_; refine Z205 ?_; refine Z41 ?_; refine Z198 ?_; refine z7 (qu L _ rfl rfl rfl rfl rfl rfl rfl (by first | omega | decide) (by assumption)) rfl ?_; refine Z397 ?_; refine Z13 ?_; refine Z218 ?_; refine Z343 ?_
   exact yi (x:=(i, c)) (i + 1, c) ⟨hlt, by dsimp only; omega⟩ (by dsimp only; omega) ⟨rfl, rfl, rfl, rfl, trivial⟩
 ·obtain rfl:i = l.length:=by omega
  rw [List.take_length] at hc
  subst hc
  refine Z250 ?_; refine Z265 ?_; refine Z200 ?_; refine Z138 ?_
  refine yd L (rs:=[.tmp 4]) rfl (fun _ _ h => h) Since.refl fun u H hH hle => ?_
  rfl
set_option maxHeartbeats 2000000 in
set_option maxRecDepth 10000 in
theorem ztg {l:List Int} {fu:Bool} (hpos:∀ x ∈ l, 0 < x) (hz:l.length ≤ 100000) {v:Value} {w:World} {B:Heap} (hB:B.Le (hp w)) (hv:RsV l fu v B) :
  Ret Tryz.prog 57 [v] w B (RsV (zar l) false):=by
 have hhl:(zar l).length ≤ 100000:=Nat.le_trans (zdg l) hz
 refine yh Tryz.func57 rfl Tryz.ntmps57 (Nat.le_of_ble_eq_true rfl) hB ?_
 refine zax 0 (RsV l fu) rfl SlV.mono hv ?_
 refine Z186 ?_; refine Z143 ?_; refine Z356 ?_
 refine zdj 3 zms 1 rfl ?_
 refine zai (fun k:Nat => [(0, .sat (RsV l fu)), (3, .own (SlR zms 1 ((zar l).take k).length (((zar l).take k).map (Value.int .u64)))), (4, .is (.int .u64 (zg3 (zar l) k)))]) (fun k => k ≤ (zar l).length) (fun k => (zar l).length - k) 0 (Nat.zero_le _) ⟨rfl, rfl, rfl, trivial⟩ ?_
 rintro k hk
 have hspec:=zwv hpos hk
 obtain ⟨last, hlast⟩:∃ x, x = zg3 (zar l) k:=⟨_, rfl⟩
 have hln:((zar l).take k).length = k:=by rw [List.length_take]; omega
 rw [← hlast] at hspec ⊢
 refine Z151 ?_; refine Z28 ?_; refine Z147 ?_; refine Z30 ?_; refine Z199 ?_
 refine zai (fun i:Nat => [(0, .sat (RsV l fu)), (3, .own (SlR zms 1 ((zar l).take k).length (((zar l).take k).map (Value.int .u64)))), (4, .is (.int .u64 last)), (5, .is (.int .u64 (nxS last (l.take i)))), (6, .is (.int .i64 i))]) (fun i => i ≤ l.length) (fun i => l.length - i) 0 (Nat.zero_le _) ⟨rfl, rfl, rfl, rfl, rfl, trivial⟩ ?_
 rintro i hi
 by_cases hlt:i < l.length
 ·obtain ⟨x, hx⟩:=zae hlt
  have hq:=zjl hx
  have hs:=zwu (last:=last) hx
  have hwi:IntKind.i64.wrap ((i:Int) + 1) = ((i + 1:Nat):Int):=zaa (by omega) (by omega)
  generalize nxS last (l.take i) = nx at hs ⊢
  unfold nxF at hs
  by_cases h1:last < x
  ·by_cases h2:nx = 0
   ·rw [if_pos ⟨h1, .inl h2⟩] at hs
    refine Z139 ?_; refine Z179 ?_; refine Z205 ?_; refine Z43 ?_; refine Z198 ?_; refine z7 (qu L _ rfl rfl rfl rfl rfl rfl rfl (by first | omega | decide) (by assumption)) rfl ?_; refine Z397 ?_; refine Z39 ?_; refine Z140 ?_; refine Z25 ?_; refine Z295 ?_; refine Z217 ?_; refine Z249 ?_; refine Z55 ?_; refine Z198 ?_; refine z7 (qu L _ rfl rfl rfl rfl rfl rfl rfl (by first | omega | decide) (by assumption)) rfl ?_; refine Z61 ?_; refine Z357 ?_; refine Z189 ?_; refine Z211 ?_
    exact yi (x:=i) (i + 1) hlt (by omega) ⟨rfl, rfl, rfl, by rw [hs]; rfl, rfl, trivial⟩
   ·by_cases h3:x < nx
    ·rw [if_pos ⟨h1, .inr h3⟩] at hs
     refine Z139 ?_; refine Z179 ?_; refine Z205 ?_; refine Z43 ?_; refine Z198 ?_; refine z7 (qu L _ rfl rfl rfl rfl rfl rfl rfl (by first | omega | decide) (by assumption)) rfl ?_; refine Z397 ?_; refine Z39 ?_; refine Z140 ?_; refine Z13 ?_; refine Z1 ?_; refine Z198 ?_; refine z7 (qu L _ rfl rfl rfl rfl rfl rfl rfl (by first | omega | decide) (by assumption)) rfl ?_; refine Z397 ?_; refine Z7 ?_; refine Z8 ?_; refine Z249 ?_; refine Z55 ?_; refine Z198 ?_; refine z7 (qu L _ rfl rfl rfl rfl rfl rfl rfl (by first | omega | decide) (by assumption)) rfl ?_; refine Z61 ?_; refine Z357 ?_; refine Z189 ?_; refine Z211 ?_
     exact yi (x:=i) (i + 1) hlt (by omega) ⟨rfl, rfl, rfl, by rw [hs]; rfl, rfl, trivial⟩
    ·rw [if_neg (fun h => h.2.elim h2 h3)] at hs
     refine Z139 ?_; refine Z179 ?_; refine Z205 ?_; refine Z43 ?_; refine Z198 ?_; refine z7 (qu L _ rfl rfl rfl rfl rfl rfl rfl (by first | omega | decide) (by assumption)) rfl ?_; refine Z397 ?_; refine Z39 ?_; refine Z140 ?_; refine Z13 ?_; refine Z1 ?_; refine Z198 ?_; refine z7 (qu L _ rfl rfl rfl rfl rfl rfl rfl (by first | omega | decide) (by assumption)) rfl ?_; refine Z397 ?_; refine Z10 ?_; refine Z8 ?_; refine Z8 ?_; refine Z218 ?_; refine Z189 ?_; refine Z211 ?_
     exact yi (x:=i) (i + 1) hlt (by omega) ⟨rfl, rfl, rfl, by rw [hs]; rfl, rfl, trivial⟩
  ·rw [if_neg (fun h => h1 h.1)] at hs
   refine Z139 ?_; refine Z179 ?_; refine Z205 ?_; refine Z43 ?_; refine Z198 ?_; refine z7 (qu L _ rfl rfl rfl rfl rfl rfl rfl (by first | omega | decide) (by assumption)) rfl ?_; refine Z397 ?_; refine Z33 ?_; refine Z354 ?_; refine Z155 ?_; refine Z217 ?_; refine Z218 ?_; refine Z189 ?_; refine Z211 ?_
   exact yi (x:=i) (i + 1) hlt (by omega) ⟨rfl, rfl, rfl, by rw [hs]; rfl, rfl, trivial⟩
 ·obtain rfl:i = l.length:=by omega
  rw [List.take_length]
  generalize nxS last l = nx at hspec ⊢
  rcases hspec with ⟨h1, h2⟩ | ⟨h1, h2⟩
  ·subst h2
   rw [List.take_length]
   refine zb3 3 rfl ?_
   refine Z139 ?_; refine Z179 ?_; refine Z150 ?_; refine Z207 ?_; refine Z139 ?_; refine Z275 ?_; refine Z284 ?_; refine Z68 ?_; refine Z4 ?_; refine Z269 ?_
   refine yd L (rs:=[.tmp 2]) rfl (fun _ _ h => h) Since.refl fun u H hH hle => ?_
   exact fun v hv => hv
  ·have hlt2:=get_lt h2
   refine Z139 ?_; refine Z179 ?_; refine Z150 ?_; refine Z207 ?_; refine Z139 ?_; refine Z275 ?_; refine Z236 ?_; refine Z64 ?_; refine ql (yl (.inl rfl) rfl rfl rfl rfl) ?_; refine Z1 ?_; refine Z32 ?_; refine Z109 ?_; refine ql (yl (.inr rfl) rfl rfl rfl rfl) ?_; refine Z137 ?_; refine Z83 ?_; refine Z1 ?_; refine Z241 ?_
   exact yi (x:=k) (k + 1) hlt2 (by omega) ⟨rfl, by rw [zb2 h2]; exact zly, by rw [zr5 h2]; rfl, trivial⟩
theorem zpz {l:List Int} {x:Int} {fu:Bool} {v:Value} {H:Heap} (h:SlV zms 1 (l.map (Value.int .u64) ++ [Value.int .u64 x]) (l.length + 1) fu v H):RsV (l ++ [x]) fu v H:=by
 unfold RsV; rw [List.map_append, List.length_append]; exact h
abbrev RP2 (l:List Int) (e:Int):Value → Heap → Prop:=TupS [RsV l false, fun v _ => v = .int .i64 e]
theorem zp1 {l:List Int} {e:Int}:Kn.mono (.sat (RP2 l e)):=zfh SlV.mono
set_option maxHeartbeats 1000000 in
theorem zwh {l:List Int} {r:Int} {fu:Bool} (hr:r ≠ 0) (hpos:∀ x ∈ l, 0 < x) (hz:l.length ≤ 1000) {v:Value} {w:World} {B:Heap} (hB:B.Le (hp w)) (hv:RsV l fu v B) :
  Ret Tryz.prog 85 [v, .int .u64 r] w B (RP2 (l ++ [r]) 0):=by
 obtain ⟨c, hc⟩:∃ c, l.count r = c:=⟨_, rfl⟩
 have hcz:c ≤ 1000:=by rw [← hc]; exact Nat.le_trans List.count_le_length hz
 have hhl:(zar l).length ≤ 1000:=Nat.le_trans (zdg l) hz
 have hlen:(l.map (Value.int .u64)).length = l.length * 1:=by simp
 have hpl:=zlz l
 refine yh Tryz.func85 rfl Tryz.ntmps85 (Nat.le_of_ble_eq_true rfl) hB ?_
 refine zax 0 (RsV l fu) rfl SlV.mono hv ?_
 by_cases h0:c = 0
 ·refine Z255 ?_; refine Z192 ?_; refine Z236 ?_; refine Z28 ?_; refine Z198 ?_; refine z7 (zp L rfl rfl (zk rfl) rfl rfl rfl (fun u H hH hle _ v1 h1 => zen hc (by omega) hH h1)) rfl ?_; refine Z147 ?_; refine Z160 ?_; refine Z45 ?_; refine Z140 ?_; refine Z25 ?_; refine Z1 ?_; refine Z4 ?_; refine z7 (yq (φ:=RsV (zar l) false) L rfl rfl (zk rfl) rfl rfl rfl SlV.mono (fun u H hH hle _ v1 h1 => ztg hpos (by omega) hH h1)) rfl ?_; refine Z11 ?_; refine Z45 ?_; refine Z8 ?_; refine Z359 ?_; refine Z42 ?_; refine Z4 ?_; refine z7 (zcu L rfl rfl rfl (zh2 rfl) rfl z0e hlen hpl (by omega) (by omega)) rfl ?_; refine Z1 ?_; refine Z32 ?_; refine Z109 ?_; refine ql (yl (.inr rfl) rfl rfl rfl rfl) ?_; refine Z138 ?_
  refine zb3 4 rfl ?_
  refine yd L (rs:=[.tmp 4, .tmp 5]) rfl (fun _ _ h => h) Since.refl fun u H hH hle => ?_
  exact fun v hv => zfi (zpz hv)
 ·refine Z255 ?_; refine Z192 ?_; refine Z236 ?_; refine Z28 ?_; refine Z198 ?_; refine z7 (zp L rfl rfl (zk rfl) rfl rfl rfl (fun u H hH hle _ v1 h1 => zen hc (by omega) hH h1)) rfl ?_; refine Z147 ?_; refine Z160 ?_; refine Z45 ?_; refine Z140 ?_; refine Z13 ?_; refine Z310 ?_; refine Z359 ?_; refine Z42 ?_; refine Z4 ?_; refine z7 (zcu L rfl rfl rfl (zh2 rfl) rfl z0e hlen hpl (by omega) (by omega)) rfl ?_; refine Z1 ?_; refine Z32 ?_; refine Z109 ?_; refine ql (yl (.inr rfl) rfl rfl rfl rfl) ?_; refine Z138 ?_
  refine zb3 4 rfl ?_
  refine yd L (rs:=[.tmp 4, .tmp 5]) rfl (fun _ _ h => h) Since.refl fun u H hH hle => ?_
  exact fun v hv => zfi (zpz hv)
theorem zxd {l:List Int} {i:Nat} {r:Int} (h:∀ x ∈ l.take i, x ≠ r) (hx:l[i]? = some r):l.erase r = l.take i ++ l.drop (i + 1):=by
 have hi:=get_lt hx
 have e:l = l.take i ++ r :: l.drop (i + 1):=by
  rw [show r :: l.drop (i + 1) = l.drop i by rw [List.drop_eq_getElem_cons hi, zdn hx], List.take_append_drop]
 conv => lhs; rw [e]
 rw [List.erase_append_right _ (fun hm => h _ hm rfl), List.erase_cons_head]
set_option maxHeartbeats 1000000 in
theorem zrk {l l1:List Int} {r:Int} {e:Nat} {fu:Bool} (hr:zfc l r = (l1, e)) (hz:l.length ≤ 1000) {v:Value} {w:World} {B:Heap} (hB:B.Le (hp w)) (hv:RsV l fu v B) :
  Ret Tryz.prog 86 [v, .int .u64 r] w B (RP2 l1 e):=by
 unfold zfc at hr
 refine yh Tryz.func86 rfl Tryz.ntmps86 (Nat.le_of_ble_eq_true rfl) hB ?_
 refine zax 0 (RsV l fu) rfl SlV.mono hv ?_
 refine Z255 ?_; refine Z156 ?_; refine Z199 ?_
 refine zai (fun i:Nat => [(0, .sat (RsV l fu)), (1, .is (.int .u64 r)), (4, .is (.slice none 0 0)), (5, .is (.int .i64 0)), (6, .is (.int .i64 i))]) (fun i => i ≤ l.length ∧ ∀ x ∈ l.take i, x ≠ r) (fun i => l.length - i) 0 ⟨Nat.zero_le _, fun x hx => by cases hx⟩ ⟨rfl, rfl, rfl, rfl, rfl, trivial⟩ ?_
 rintro i ⟨hi, hn⟩
 by_cases hlt:i < l.length
 ·obtain ⟨x, hx⟩:=zae hlt
  have hq:=zjl hx
  have hwi:IntKind.i64.wrap ((i:Int) + 1) = ((i + 1:Nat):Int):=zaa (by omega) (by omega)
  by_cases hxr:x = r
  ·subst hxr
   have hc:¬ l.count x = 0:=by have:=List.count_pos_iff.2 (List.mem_of_getElem? hx); omega
   rw [if_neg hc] at hr
   cases hr
   have he:=zxd hn hx
   have q1:((l.map (Value.int .u64)).drop (0 * 1)).take ((i - 0) * 1) = (l.take i).map (Value.int .u64):=by simp
   have q2:((l.map (Value.int .u64)).drop ((i + 1) * 1)).take ((l.length - (i + 1)) * 1) = (l.drop (i + 1)).map (Value.int .u64):=by
    rw [Nat.mul_one, Nat.mul_one, ← List.map_drop, List.take_of_length_le (by simp)]
   have hl1:((l.take i).map (Value.int .u64)).length = (i - 0) * 1:=by rw [List.length_map, List.length_take]; omega
   have hl2:((l.drop (i + 1)).map (Value.int .u64)).length = (l.length - (i + 1)) * 1:=by rw [List.length_map, List.length_drop]; omega
   have hp1:=zlz (l.take i)
   have hp2:=zlz (l.drop (i + 1))
   have hlen:i - 0 + (l.length - (i + 1)) = (l.erase x).length:=by rw [he, List.length_append, List.length_take, List.length_drop]; omega
   refine Z277 ?_; refine Z205 ?_; refine Z30 ?_; refine Z198 ?_; refine z7 (qu L _ rfl rfl rfl rfl rfl rfl rfl (by first | omega | decide) (by assumption)) rfl ?_; refine Z397 ?_; refine Z284 ?_; refine qd (id:=5) [(27, [22]), (4, [27])] mixed (by kernel_rfl) ?_; refine Z190 ?_; refine z8 (za9 L (kl:=.i64) (pl:=0) (km:=.i64) (pm:=0) 0 i false rfl rfl rfl rfl rfl rfl ⟨rfl, rfl⟩ (fun h => by cases h) (by omega) (by omega) q1) rfl ?_; refine z8 (zcu L rfl rfl rfl (zh2 rfl) rfl z0e hl1 hp1 (by omega) (by omega)) rfl ?_; refine Z190 ?_; refine Z31 ?_; refine z8 (za9 L (kh:=.i64) (ph:=0) (km:=.i64) (pm:=0) (i + 1) l.length false rfl rfl rfl rfl rfl ⟨rfl, rfl⟩ ⟨rfl, rfl⟩ (fun h => by cases h) (by omega) (by omega) q2) rfl ?_; refine za2 (zbx L rfl rfl rfl (zh2 rfl) rfl z0e hl2 hp2 (by omega) (by omega)) rfl rfl ?_; refine za2 (yl (.inr rfl) rfl rfl rfl rfl) rfl rfl ?_; refine Z177 ?_
   rw [← List.map_append, ← he, hlen]
   refine zb3 4 rfl ?_
   refine yd L (rs:=[.tmp 4, .tmp 5]) rfl (fun _ _ h => h) Since.refl fun u H hH hle => ?_
   exact fun v hv => zfi hv
  ·refine Z277 ?_; refine Z205 ?_; refine Z30 ?_; refine Z198 ?_; refine z7 (qu L _ rfl rfl rfl rfl rfl rfl rfl (by first | omega | decide) (by assumption)) rfl ?_; refine Z397 ?_; refine Z13 ?_; refine Z218 ?_; refine Z176 ?_; refine Z211 ?_
   exact yi (x:=i) (i + 1) ⟨hlt, fun y hy => by
    rw [zb2 hx] at hy
    rcases List.mem_append.1 hy with hy | hy
    ·exact hn y hy
    ·rw [List.mem_singleton.1 hy]; exact hxr⟩ (by omega) ⟨rfl, rfl, rfl, rfl, rfl, trivial⟩
 ·obtain rfl:i = l.length:=by omega
  rw [List.take_length] at hn
  rw [if_pos (List.count_eq_zero.2 fun hm => hn r hm rfl)] at hr
  cases hr
  refine Z277 ?_; refine Z265 ?_; refine Z42 ?_; refine Z188 ?_
  refine yd L (rs:=[.tmp 4, .tmp 5]) rfl (fun _ _ h => h) Since.refl fun u H hH hle => ?_
  exact zfi SlV.nil
theorem zu9 {l R:List Int} {keep i:Nat} {x:Int} (h:R[i]? = some x):(List.filter (fun r => decide (l.count r = 0)) ((R.take (i + 1)).take (R.length - keep))) = (List.filter (fun r => decide (l.count r = 0)) ((R.take i).take (R.length - keep))) ++ if l.count x = 0 ∧ keep < R.length - i then [x] else []:=by
 rw [List.take_take, List.take_take]
 by_cases hk:keep < R.length - i
 ·rw [Nat.min_eq_right (show i + 1 ≤ R.length - keep by omega), Nat.min_eq_right (show i ≤ R.length - keep by omega), zb2 h, List.filter_append]
  congr 1
  by_cases h0:l.count x = 0
  ·rw [if_pos ⟨h0, hk⟩]; simp [h0]
  ·rw [if_neg (fun h => h0 h.1)]; simp [h0]
 ·rw [Nat.min_eq_left (show R.length - keep ≤ i + 1 by omega), Nat.min_eq_left (show R.length - keep ≤ i by omega), if_neg (fun h => hk h.2), List.append_nil]
set_option maxHeartbeats 1000000 in
set_option maxRecDepth 10000 in
theorem zth {l R:List Int} {keep:Nat} {fu fr:Bool} (hz:l.length ≤ 100000) (hR:R.length ≤ 100000) (hkp:keep ≤ 100000) {v1 v2:Value} {w:World} {B:Heap} (hB:B.Le (hp w)) (hv:RsV l fu v1 B) (hr:RsV R fr v2 B) :
  Ret Tryz.prog 87 [v1, v2, .int .i64 keep] w B (RsV (zda l R keep) false):=by
 have hgo:zda l R keep = (R.take (R.length - keep)).filter fun r => decide (l.count r = 0):=rfl
 rw [hgo]
 clear hgo
 refine yh Tryz.func87 rfl Tryz.ntmps87 (Nat.le_of_ble_eq_true rfl) hB ?_
 refine zax 0 (RsV l fu) rfl SlV.mono hv ?_
 refine zax 1 (RsV R fr) rfl SlV.mono hr ?_
 refine Z186 ?_; refine Z147 ?_
 refine zdj 7 zms 1 rfl ?_
 refine Z356 ?_
 refine zai (fun y:Nat × List Int => [(0, .sat (RsV l fu)), (1, .sat (RsV R fr)), (2, .is (.int .i64 keep)), (7, .own (SlR zms 1 y.2.length (y.2.map (Value.int .u64)))), (8, .is (.int .i64 y.1))])
  (fun y => y.1 ≤ R.length ∧ y.2 = List.filter (fun r => decide (l.count r = 0)) ((R.take y.1).take (R.length - keep))) (fun y => R.length - y.1) (0, []) ⟨Nat.zero_le _, by simp⟩ ⟨rfl, rfl, rfl, rfl, rfl, trivial⟩ ?_
 rintro ⟨i, out⟩ ⟨hi, hout⟩
 dsimp only at hi hout ⊢
 have hol:out.length ≤ i:=by rw [hout]; exact Nat.le_trans (List.length_filter_le ..) (by rw [List.length_take, List.length_take]; omega)
 by_cases hlt:i < R.length
 ·obtain ⟨x, hx⟩:=zae hlt
  have hq:=zjl hx
  have hs:=zu9 (l:=l) (keep:=keep) hx
  obtain ⟨c, hc⟩:∃ c, l.count x = c:=⟨_, rfl⟩
  have hcz:c ≤ 100000:=by rw [← hc]; exact Nat.le_trans List.count_le_length hz
  have hwi:IntKind.i64.wrap ((i:Int) + 1) = ((i + 1:Nat):Int):=zaa (by omega) (by omega)
  have hws:IntKind.i64.wrap ((R.length:Int) - (i:Int)) = ((R.length - i:Nat):Int):=zaa (by omega) (by omega) |>.trans (by omega)
  rw [hc] at hs
  by_cases h0:c = 0
  ·by_cases hk:keep < R.length - i
   ·rw [if_pos ⟨h0, hk⟩, ← hout] at hs
    refine Z250 ?_; refine Z205 ?_; refine Z41 ?_; refine Z383 ?_; refine z7 (qu L _ rfl rfl rfl rfl rfl rfl rfl (by first | omega | decide) (by assumption)) rfl ?_; refine Z61 ?_; refine z7 (zp L rfl rfl (zk rfl) rfl rfl rfl (fun u H hH hle _ v1 h1 => zen hc hz hH h1)) rfl ?_; refine Z25 ?_; refine Z1 ?_; refine Z150 ?_; refine Z247 ?_; refine Z1 ?_; refine Z39 ?_; refine Z249 ?_; refine Z42 ?_; refine ql (yl (.inl rfl) rfl rfl rfl rfl) ?_; refine Z198 ?_; refine z7 (qu L _ rfl rfl rfl rfl rfl rfl rfl (by first | omega | decide) (by assumption)) rfl ?_; refine Z61 ?_; refine Z32 ?_; refine Z109 ?_; refine ql (yl (.inr rfl) rfl rfl rfl rfl) ?_; refine Z235 ?_; refine Z343 ?_
    exact yi (x:=(i, out)) (i + 1, out ++ [x]) ⟨hlt, hs.symm⟩ (by dsimp only; omega) ⟨rfl, rfl, rfl, zly, rfl, trivial⟩
   ·rw [if_neg (fun h => hk h.2), List.append_nil, ← hout] at hs
    refine Z250 ?_; refine Z205 ?_; refine Z41 ?_; refine Z383 ?_; refine z7 (qu L _ rfl rfl rfl rfl rfl rfl rfl (by first | omega | decide) (by assumption)) rfl ?_; refine Z61 ?_; refine z7 (zp L rfl rfl (zk rfl) rfl rfl rfl (fun u H hH hle _ v1 h1 => zen hc hz hH h1)) rfl ?_; refine Z25 ?_; refine Z1 ?_; refine Z150 ?_; refine Z247 ?_; refine Z1 ?_; refine Z282 ?_; refine Z218 ?_; refine Z343 ?_
    exact yi (x:=(i, out)) (i + 1, out) ⟨hlt, hs.symm⟩ (by dsimp only; omega) ⟨rfl, rfl, rfl, rfl, rfl, trivial⟩
  ·rw [if_neg (fun h => h0 h.1), List.append_nil, ← hout] at hs
   refine Z250 ?_; refine Z205 ?_; refine Z41 ?_; refine Z383 ?_; refine z7 (qu L _ rfl rfl rfl rfl rfl rfl rfl (by first | omega | decide) (by assumption)) rfl ?_; refine Z61 ?_; refine z7 (zp L rfl rfl (zk rfl) rfl rfl rfl (fun u H hH hle _ v1 h1 => zen hc hz hH h1)) rfl ?_; refine Z13 ?_; refine Z295 ?_; refine Z217 ?_; refine Z218 ?_; refine Z343 ?_
   exact yi (x:=(i, out)) (i + 1, out) ⟨hlt, hs.symm⟩ (by dsimp only; omega) ⟨rfl, rfl, rfl, rfl, rfl, trivial⟩
 ·obtain rfl:i = R.length:=by omega
  rw [List.take_length] at hout
  rw [← hout]
  refine zb3 7 rfl ?_
  refine Z250 ?_; refine Z265 ?_; refine Z43 ?_; refine Z4 ?_; refine Z269 ?_
  refine yd L (rs:=[.tmp 6]) rfl (fun _ _ h => h) Since.refl fun u H hH hle => ?_
  exact fun v hv => hv
def b01 (b:Bool):Int:=if b then 1 else 0
set_option maxHeartbeats 1000000 in
theorem zgz {a b:List Int} {f:Bool} {fa fb:Bool} (hf:decide (a = b) = f) (ha:a.length ≤ 100000) (hb:b.length ≤ 100000) {v1 v2:Value} {w:World} {B:Heap} (hB:B.Le (hp w)) (h1:RsV a fa v1 B) (h2:RsV b fb v2 B) :
  Ret Tryz.prog 22 [v1, v2] w B (fun v _ => v = .int .i64 (b01 f)):=by
 subst hf
 refine yh Tryz.func22 rfl Tryz.ntmps22 (Nat.le_of_ble_eq_true rfl) hB ?_
 refine zax 0 (RsV a fa) rfl SlV.mono h1 ?_
 refine zax 1 (RsV b fb) rfl SlV.mono h2 ?_
 by_cases hl:a.length = b.length
 ·refine Z146 ?_; refine Z298 ?_; refine Z150 ?_; refine Z245 ?_; refine Z28 ?_; refine Z199 ?_
  refine zai (fun i:Nat => [(0, .sat (RsV a fa)), (1, .sat (RsV b fb)), (5, .is (.int .i64 i))]) (fun i => i ≤ a.length ∧ a.take i = b.take i) (fun i => a.length - i) 0 ⟨Nat.zero_le _, rfl⟩ ⟨rfl, rfl, rfl, trivial⟩ ?_
  rintro i ⟨hi, ht⟩
  by_cases hlt:i < a.length
  ·obtain ⟨x, hx⟩:=zae hlt
   obtain ⟨y, hy⟩:=zae (show i < b.length by omega)
   have hc1:=zjl hx
   have hc2:=zjl hy
   have hwk:IntKind.i64.wrap ((i:Int) + 1) = ((i + 1:Nat):Int):=zaa (by omega) (by omega)
   by_cases hxy:x = y
   ·refine Z327 ?_; refine Z190 ?_; refine z8 (qu L _ rfl rfl rfl rfl rfl rfl rfl (by first | omega | decide) (by assumption)) rfl ?_; refine Z104 ?_; refine Z190 ?_; refine z8 (qu L _ rfl rfl rfl rfl rfl rfl rfl (by first | omega | decide) (by assumption)) rfl ?_; refine Z104 ?_; refine Z135 ?_; refine Z180 ?_; refine Z309 ?_; refine Z179 ?_; refine Z211 ?_
    exact yi (x:=i) (i + 1) ⟨hlt, by rw [zb2 hx, zb2 hy, ht, hxy]⟩ (by omega) ⟨rfl, rfl, rfl, trivial⟩
   ·rw [decide_eq_false (z4k hx hy hxy)]
    refine Z327 ?_; refine Z190 ?_; refine z8 (qu L _ rfl rfl rfl rfl rfl rfl rfl (by first | omega | decide) (by assumption)) rfl ?_; refine Z104 ?_; refine Z190 ?_; refine z8 (qu L _ rfl rfl rfl rfl rfl rfl rfl (by first | omega | decide) (by assumption)) rfl ?_; refine Z104 ?_; refine z8 (yo rfl rfl rfl rfl (decide_eq_true (by omega))) rfl ?_; refine Z212 ?_; refine zh ?_; refine Z43 ?_; refine Z138 ?_
    refine yd L (rs:=[.tmp 4]) rfl (fun _ _ h => h) Since.refl fun u H hH hle => ?_
    rfl
  ·obtain rfl:i = a.length:=by omega
   have hab:a = b:=by rw [List.take_length, hl, List.take_length] at ht; exact ht
   rw [decide_eq_true hab]
   refine Z214 ?_; refine Z265 ?_; refine Z378 ?_
   refine yd L (rs:=[.tmp 4]) rfl (fun _ _ h => h) Since.refl fun u H hH hle => ?_
   rfl
 ·rw [decide_eq_false (z2a hl)]
  refine Z146 ?_; refine Z298 ?_; refine Z150 ?_; refine Z213 ?_; refine Z29 ?_; refine Z138 ?_
  refine yd L (rs:=[.tmp 4]) rfl (fun _ _ h => h) Since.refl fun u H hH hle => ?_
  rfl
end Go.V.L10
set_option maxRecDepth 20000
namespace Go.V.L10
open Go.Proofs Go.RowKit Go.V Go.V.L2 Go.V.L8 Go.V.L6
def z01 (es:Ent) (l:List Int):Ent:=l.foldl (fun e g => zr0 g e) es
theorem zve {es:Ent} {l:List Int} {i:Nat} {g:Int} (h:l[i]? = some g):z01 es (l.take (i + 1)) = zr0 g (z01 es (l.take i)):=by unfold z01; rw [zb2 h, List.foldl_append]; rfl
theorem MapOK.dels:∀ {l:List Int} {es:Ent} {R:List (Option (List U))}, MapOK es R → (∀ g ∈ l, 0 < g) → MapOK (z01 es l) (clrL R l)
 | [], _, _, h, _ => h
 | g :: l, _, _, h, hg => MapOK.dels (l:=l) (h.del (hg g (List.mem_cons_self ..))) fun x hx => hg x (List.mem_cons_of_mem _ hx)
theorem EsV.dels:∀ {l:List Int} {es:Ent} {H:Heap}, EsV es H → EsV (z01 es l) H
 | [], _, _, h => h
 | g :: l, _, _, h => EsV.dels (l:=l) fun e he => h e ((zl8 g _).subset he)
theorem zxa {P0:List Int} {R:List (Option (List U))} {k:Nat}:∀ g ∈ zda P0 (zaz R) k, 0 < g:=fun g hg => by
 unfold zda at hg
 have h1:=List.mem_of_mem_take (List.mem_filter.1 hg).1
 exact (zec (zd3.1 h1)).1
theorem SetV.sst {l:List U} {v:Value} {H:Heap} (h:SetV l v H):Sst zbc l:=by
 obtain ⟨_, _, _, _, ht, _⟩:=h
 exact ht.st
theorem zis {b n m t:Nat} {s:Value} {es:Ent}:∀ v H u C, (StO b n m s t es).res.P v H u C → joinH H u C b = some (.cells (stc n m s t).toArray tyS):=by rw [zfd]; exact zuv
theorem zxq {b n m t:Nat} {s:Value} {es:Ent}:∀ v H u C, (StO b n m s t es).res.P v H u C → u.heap[b]? = some (.cells (stc n m s t).toArray tyS):=by rw [zfd]; exact zvp
def zqw (S:Sto) (a b:Int):List CH × Int:=if (atS S a).2 = 0 then (if (atS S b).2 = 0 then (z3k (atS S a).1 (atS S b).1, 0) else ([], (atS S b).2)) else ([], (atS S a).2)
theorem zvq {S:Sto} (hI:z3b S) (r:Int):(atS S r).1.length ≤ 4096:=by
 unfold atS
 split
 ·rename_i t h; exact hI.tl _ _ h
 ·exact Nat.zero_le _
attribute [local irreducible] V N X VO Par StepOK Has Ret RetL RetO RetT zb7 zdu RetY Src
abbrev zvx (g:List Int) (e:Int):Value → Heap → Prop:=TupS [RsV g true, fun v _ => v = .int .i64 e]
set_option maxHeartbeats 4000000 in
set_option maxRecDepth 20000 in
theorem zd7 {S:Sto} {b:Nat} {keep:Int} (hn:S.R.length ≠ 0) (hz:S.P.length ≤ 100000) (hR:S.R.length ≤ 100000) {w:World} {B:Heap} {C:Nat → Prop} (hB:B.Le (hp w)) (hr:(StG b S).P B w C) (hC:∀ k, C k → k < w.heap.size ∧ B k = none) :
  RetY Tryz.prog 21 [.pointer (some ⟨b, 0, none⟩), .int .i64 keep] w B C (StG b (zc4 S keep).1) (zvx (zc4 S keep).2.1 (zc4 S keep).2.2):=by
 unfold RetY
 refine zap 900 (StG b S) Tryz.func21 rfl Tryz.ntmps21 (Nat.le_of_ble_eq_true rfl) hB hr hC ?_
 rw [zoo]
 refine zc5 900 rfl fun x H hs0 hφ => ?_
 obtain ⟨m, s, es⟩:=x
 obtain ⟨hm, hes, hps⟩:=hφ
 dsimp only at hm hes hps ⊢
 obtain ⟨ps, pc, rfl⟩:=zat hps
 have hlen:=hm.len
 have hkl:=zed S.R
 by_cases hk1:keep < 1
 ·have hS:zc4 S keep = (S, [], 4):=by unfold zc4; rw [if_neg (by omega)]
  rw [hS]
  refine Z146 ?_; refine Z197 ?_; refine Z340 ?_; refine yw (za7 L 900 (Φ:=fun H => H b = some (.cells (stc S.R.length m (.slice ps (zak S.P).length pc) S.P.length).toArray tyS)) (c:=.bool false) rfl rfl (zk rfl) rfl rfl rfl rfl rfl zis (fun u H hH hle hb => zcp hn hb hH)) ?_; refine Z210 ?_; refine Z176 ?_; refine Z7 ?_; refine Z183 ?_; refine Z8 ?_; refine Z246 ?_; refine Z307 ?_; refine Z188 ?_
  refine zct 900 (StG b S).res rfl (zgv hm hes hps) ?_
  exact zb0 L 900 (r:=StG b S) (rs:=[.tmp 4, .tmp 5]) rfl (fun _ _ h => h) hs0 rfl rfl (fun H hle => zfi SlV.nil)
 ·by_cases hk2:1024 < keep
  ·have hS:zc4 S keep = (S, [], 4):=by unfold zc4; rw [if_neg (by omega)]
   rw [hS]
   refine Z146 ?_; refine Z197 ?_; refine Z340 ?_; refine yw (za7 L 900 (Φ:=fun H => H b = some (.cells (stc S.R.length m (.slice ps (zak S.P).length pc) S.P.length).toArray tyS)) (c:=.bool false) rfl rfl (zk rfl) rfl rfl rfl rfl rfl zis (fun u H hH hle hb => zcp hn hb hH)) ?_; refine Z210 ?_; refine Z176 ?_; refine Z10 ?_; refine Z140 ?_; refine Z39 ?_; refine Z8 ?_; refine Z246 ?_; refine Z307 ?_; refine Z188 ?_
   refine zct 900 (StG b S).res rfl (zgv hm hes hps) ?_
   exact zb0 L 900 (r:=StG b S) (rs:=[.tmp 4, .tmp 5]) rfl (fun _ _ h => h) hs0 rfl rfl (fun H hle => zfi SlV.nil)
  ·obtain ⟨k, rfl⟩:∃ k:Nat, keep = (k:Int):=⟨keep.toNat, by omega⟩
   have hS:zc4 S k = (⟨clrL S.R (zda S.P (zaz S.R) k), S.P⟩, zda S.P (zaz S.R) k, 0):=by unfold zc4; rw [if_pos (by omega)]; rfl
   rw [hS]
   have hgp:∀ x ∈ zda S.P (zaz S.R) k, 0 < x:=zxa
   have hgl:(zda S.P (zaz S.R) k).length ≤ 100000:=by
    unfold zda
    refine Nat.le_trans (List.length_filter_le ..) ?_
    rw [List.length_take]; omega
   generalize hg:zda S.P (zaz S.R) k = g at hgp hgl
   refine Z146 ?_; refine Z197 ?_; refine Z340 ?_; refine yw (za7 L 900 (Φ:=fun H => H b = some (.cells (stc S.R.length m (.slice ps (zak S.P).length pc) S.P.length).toArray tyS)) (c:=.bool false) rfl rfl (zk rfl) rfl rfl rfl rfl rfl zis (fun u H hH hle hb => zcp hn hb hH)) ?_; refine Z210 ?_; refine Z176 ?_; refine Z10 ?_; refine Z140 ?_; refine Z282 ?_; refine Z185 ?_; refine Z309 ?_; refine zh ?_
   refine qd (id:=5) [(200022, [900]), (200024, [900])] mixed (by kernel_rfl) ?_; refine Z181 ?_; refine qq (zuc L (q:=900) (vs:=[_, _]) rfl rfl zxq rfl rfl rfl rfl ⟨_, rfl⟩) rfl rfl ?_; refine Z3 ?_; refine qq (zbp L 900 (RsV (zaz S.R) true) (r:=StO b S.R.length m _ S.P.length es) rfl rfl rfl rfl rfl SlV.mono (fun u H2 C2 hH hle hr2 hC2 => (zqo hm hn (by omega) hH hr2 hC2).pubY zmb)) rfl rfl ?_; refine Z3 ?_; refine z8 (yq (φ:=RsV g true) L rfl rfl (zk rfl) rfl rfl rfl SlV.mono (fun u H2 hH hle _ v1 h1 => by rw [← hg]; exact zw9 hz (by omega) (by omega) hH (hps.le hle) h1)) rfl ?_; refine Z360 ?_; refine Z139 ?_
   rw [zfd]
   refine zga 900 901 rfl (zau _) ?_
   refine Z42 ?_; refine Z150 ?_; refine Z323 ?_
   refine zai (fun y:Nat × Ent => [(0, .is (.pointer (some ⟨b, 0, none⟩))), (6, .sat (RsV g true)), (27, .sat (RsV g true)), (28, .is (.int .i64 g.length)), (29, .is (.int .i64 y.1)), (900, .own (zaj b (stc S.R.length m (.slice ps (zak S.P).length pc) S.P.length) tyS)), (901, .own (zku m .u64 vcE y.2))])
    (fun y => y.1 ≤ g.length ∧ y.2 = z01 es (g.take y.1)) (fun y => g.length - y.1) (0, es) ⟨Nat.zero_le _, rfl⟩ ⟨rfl, rfl, rfl, rfl, rfl, rfl, rfl, trivial⟩ ?_
   rintro ⟨i, ec⟩ ⟨hi, hec⟩
   dsimp only at hi hec ⊢
   by_cases hlt:i < g.length
   ·obtain ⟨x, hx⟩:=zae hlt
    have hc:=zjl hx
    have hnx:=zve (es:=es) hx
    have hwk:IntKind.i64.wrap ((i:Int) + 1) = ((i + 1:Nat):Int):=zaa (by omega) (by omega)
    refine zh ?_; refine Z43 ?_; refine Z226 ?_; refine Z55 ?_; refine z7 (qu L _ rfl rfl rfl rfl rfl rfl rfl (by first | omega | decide) (by assumption)) rfl ?_; refine Z61 ?_; refine Z138 ?_; refine Z275 ?_; refine Z263 ?_; refine Z1 ?_; refine zcy (zrt (q:=901) (vc:=vcE) x mpS kyS rfl rfl rfl rfl rfl) ?_; refine Z235 ?_; refine Z68 ?_; refine Z16 ?_; refine Z270 ?_
    exact yi (x:=(i, ec)) (i + 1, zr0 x ec) ⟨hlt, by rw [hnx, hec]⟩ (by dsimp only; omega) ⟨rfl, rfl, rfl, rfl, rfl, rfl, rfl, trivial⟩
   ·obtain rfl:i = g.length:=by omega
    rw [List.take_length] at hec
    subst hec
    refine zh ?_; refine Z43 ?_; refine Z352 ?_; refine Z64 ?_; refine Z4 ?_; refine Z51 ?_; refine Z138 ?_
    refine zb1 900 901 rfl rfl (zau _) ?_
    refine zct 900 (StG b ⟨clrL S.R g, S.P⟩).res rfl (fun v H u C hle h => zgv (S:=⟨clrL S.R g, S.P⟩) (hm.dels hgp) hes.dels hps v H u C hle (by dsimp only; rw [zdb]; exact h)) ?_
    exact zb0 L 900 (r:=StG b ⟨clrL S.R g, S.P⟩) (rs:=[.tmp 4, .tmp 5]) rfl (fun _ _ h => h) hs0 rfl rfl (fun H hle => fun v hv => zfi hv)
abbrev z43 (l:List CH) (e:Int):Value → Heap → Prop:=TupS [KS tyC l true, fun v _ => v = .int .i64 e]
set_option maxHeartbeats 4000000 in
set_option maxRecDepth 20000 in
theorem zrj {S:Sto} {b:Nat} {p q:Int} (hI:z3b S) (hn:S.R.length ≠ 0) {w:World} {B:Heap} {C:Nat → Prop} (hB:B.Le (hp w)) (hr:(StG b S).P B w C) (hC:∀ k, C k → k < w.heap.size ∧ B k = none) :
  RetY Tryz.prog 28 [.pointer (some ⟨b, 0, none⟩), .int .u64 p, .int .u64 q] w B C (StG b S) (z43 (zqw S p q).1 (zqw S p q).2):=by
 refine RetY.ex hr fun x hφ hr => ?_
 obtain ⟨m, s, es⟩:=x
 obtain ⟨hm, hes, hps⟩:=hφ
 dsimp only at hm hes hps hr ⊢
 unfold RetY
 refine zap 900 (StO b S.R.length m s S.P.length es) Tryz.func28 rfl Tryz.ntmps28 (Nat.le_of_ble_eq_true rfl) hB hr hC ?_
 have la:=zvq hI p
 have lb:=zvq hI q
 unfold zqw
 obtain ⟨⟨ta, ea⟩, ha⟩:∃ x, atS S p = x:=⟨_, rfl⟩
 obtain ⟨⟨tb, eb⟩, hb⟩:∃ x, atS S q = x:=⟨_, rfl⟩
 rw [ha] at la ⊢
 rw [hb] at lb ⊢
 dsimp only at la lb ⊢
 refine Z255 ?_; refine Z161 ?_; refine Z140 ?_; refine yw (zbp L 900 (WithP ta ea) (r:=StO b S.R.length m _ S.P.length es) rfl rfl rfl rfl rfl WithP.mono (fun u H2 C2 hH hle hr2 hC2 => by have h:=zgu (S:=S) (r:=p) hm hn (hes.le hle) hH hr2 hC2; rw [ha] at h; exact h)) ?_; refine zbu 14 rfl fun v1 H1 hs1 hp1 => ?_; obtain ⟨sv, rfl, hsv⟩:=hp1; obtain ⟨f1, p1, f2, p2, rfl, hpl⟩:=hsv.shape; refine Z306 ?_; refine Z147 ?_
 by_cases h1:ea = 0
 ·subst h1
  rw [if_pos rfl]
  have hes1:=hes.le hs1.le
  refine Z171 ?_; refine Z227 ?_; refine Z317 ?_; refine yw (zbp L 900 (WithP tb eb) (r:=StO b S.R.length m _ S.P.length es) rfl rfl rfl rfl rfl WithP.mono (fun u H2 C2 hH hle hr2 hC2 => by have h:=zgu (S:=S) (r:=q) hm hn (hes1.le hle) hH hr2 hC2; rw [hb] at h; exact h)) ?_; refine zbu 23 rfl fun v2 H2 hs2 hp2 => ?_; obtain ⟨sw, rfl, hsw⟩:=hp2; obtain ⟨f3, p3, f4, p4, rfl, hpl2⟩:=hsw.shape; refine Z306 ?_; refine Z147 ?_
  by_cases h2:eb = 0
  ·subst h2
   rw [if_pos rfl]
   refine Z179 ?_; refine Z227 ?_; refine Z43 ?_; refine z7 (zq L (vs:=[_, _, _, _]) (yj rfl) rfl rfl rfl rfl ⟨_, rfl⟩) rfl ?_; refine z7 (zq L (vs:=[_, _, _, _]) (yj rfl) rfl rfl rfl rfl ⟨_, rfl⟩) rfl ?_; refine z7 (yq (φ:=KS tyC (z3k ta tb) true) L rfl rfl (zk rfl) rfl rfl rfl SlV.mono (fun u H3 hH hle _ => zn8 la lb hsv.sst hsw.sst rfl hH (hsv.le (hs2.le.trans hle)) (hsw.le hle))) rfl ?_; refine Z51 ?_; refine Z138 ?_
   exact zb0 L 900 (r:=StO b S.R.length m s S.P.length es) (rs:=[.tmp 6, .tmp 7]) rfl (fun _ _ h => h) (hs1.trans hs2) rfl rfl (fun H hle => fun v hv => zfi hv)
  ·rw [if_neg h2]
   refine Z179 ?_; refine Z213 ?_; refine Z189 ?_; refine Z188 ?_
   exact zb0 L 900 (r:=StO b S.R.length m s S.P.length es) (rs:=[.tmp 6, .tmp 7]) rfl (fun _ _ h => h) (hs1.trans hs2) rfl rfl (fun H hle => zfi SlV.nil)
 ·rw [if_neg h1]
  refine Z171 ?_; refine Z213 ?_; refine Z176 ?_; refine Z188 ?_
  exact zb0 L 900 (r:=StO b S.R.length m s S.P.length es) (rs:=[.tmp 6, .tmp 7]) rfl (fun _ _ h => h) hs1 rfl rfl (fun H hle => zfi SlV.nil)
end Go.V.L10
set_option maxRecDepth 20000
namespace Go.V
open Go.RowKit
def zpl {X:Type} (vf:X → Value) (g:X → GR):Res where
 P v H u C:=∃ x, v = vf x ∧ (g x).P H u C
 st:=fun ⟨x, h1, h2⟩ a b c d => ⟨x, h1, (g x).st h2 a b c d⟩
abbrev zya {X:Type} (vf:X → Value) (g:X → GR) (ty:TypeId):Res:=zpl (fun p:Nat × X => .pointer (some ⟨p.1, 0, none⟩)) fun p => zx9 (zab p.1 (zas (vf p.2)) ty) (g p.2)
section
variable {P:Program} {F:Fr} {B:Heap} {O:Boxes} {n:Nat} {ops:Array Oper} {κ:Kap} {d:Nat} {ty:TypeId} {pos:String} {aft:Array Edge} {g:Option (Nat × Bool)} {Q:Exit → Act → World → Prop} {a:Act} {u:World} {os:List Oper}
theorem zng {t:TypeId} {parts:Array (Nat × Operand)} {places:List (Nat × Nat)} {z cs:List Value} {vs:List (Nat × Value)} {a:Act} {u:World} {H:Heap} {fp:Nat → Nat → Prop} (e:Env F B O κ ⟨some d, .build t parts, ty, pos, aft, g⟩ a u H fp)
  (hp:PL P t places z) (hv:evP κ parts.toList = some vs) (hc:zhf places z vs = some cs):(execOp a.eval ⟨some d, .build t parts, ty, pos, aft, g⟩).run P u = .ok (.value (.agg cs.toArray)) u:=by
 have hm:=zmk e parts.toList vs (fun p hp' => by simp [Op.operands]; exact ⟨p.1, by simpa using hp'⟩) hv
 obtain ⟨zv, hz1, hz2⟩:=hp.zr
 have hbt:P.built t vs = some cs.toArray:=by
  have hpl:=hp.pl
  unfold plI at hpl
  unfold zrI at hz1
  split at hz1
  ·rename_i it hit
   unfold Program.built
   split at hpl
   ·rename_i fs hu
    simp only [hit, hu, hz1, hpl]
    rw [zbr, hz2]
    exact zcs (fun i p h => by simpa using h) vs z cs hc
   ·rename_i m el hu
    split at hpl
    ·rename_i ie hie
     simp only [hit, hu, hz1, hie]
     cases hpl
     rw [zbr, hz2]
     exact zcs (fun i p h => by
      rw [List.getElem?_map] at h
      cases hr:(List.range m)[i]? with
      | none => rw [hr] at h; cases h
      | some j =>
       rw [hr] at h
       have:j = i:=by
        have:=List.getElem?_eq_some_iff.1 hr
        obtain ⟨h1, h2⟩:=this
        simpa using h2.symm
       subst this
       simpa using h) vs z cs hc
    ·cases hpl
   ·cases hpl
  ·cases hz1
 have hr:=run_build (P:=P) u t vs.toArray cs.toArray (by simpa using hbt)
 have harr:(parts.map fun (p:Nat × Operand) => (p.1, a.eval p.2)) = vs.toArray:=by
  rw [← hm, ← List.map_toArray, Array.toArray_toList]
 simp only [execOp, Sem.run_bind]
 show Result.andThen ((Instr.build t (parts.map fun (p:Nat × Operand) => (p.1, a.eval p.2))).run P u) _ = _
 rw [harr, hr]
 rfl
theorem zk5 {X:Type} {q:Nat} {vf:X → Value} {gg:X → GR} {t:TypeId} {parts:Array (Nat × Operand)} {places:List (Nat × Nat)} {z:List Value} (vs:X → List (Nat × Value)) (cs:X → List Value) (hq:κ q = some (.own (zpl vf gg))) (hn:Nat.blt d n = true) (hg:gK ops κ ⟨some d, .build t parts, ty, pos, aft, g⟩ = some true)
  (hne:Nat.beq q d = false) (hp:PL P t places z) (hv:∀ x, evP (upd κ q (.is (vf x))) parts.toList = some (vs x)) (hc:∀ x, zhf places z (vs x) = some (cs x)):StepOK2 P F B n ops O κ ⟨some d, .build t parts, ty, pos, aft, g⟩ q zd5 d (.own (zpl (fun x => .agg (cs x).toArray) gg)):=by
 rintro κ' a u hlk hks ⟨H, fp, hh⟩
 unfold After
 rw [if_pos (zaf hh hlk hg)]
 have hk':κ' q = some (.own (zpl vf gg)):=hks.trans hq
 obtain ⟨⟨x, hx, hown⟩, hM⟩:=hh.slot q _ hk'
 have e:=(hh.name q).env (κ:=upd κ q (.is (vf x))) (ops:=ops) (o:=⟨some d, .build t parts, ty, pos, aft, g⟩) fun s hs => by
  by_cases h:s = q
  ·subst h; rw [zad, zad, hx]
  ·rw [zac _ _ h, zac _ _ h]; exact hlk s hs
 rw [zng e hp (hv x) (hc x)]
 simp only [Upon]
 exact ⟨H, _, hh.usePut (C:=fp q) hk' ⟨Keep.refl _ _, hh.sub, Heap.Le.refl _, fun _ _ _ => rfl⟩ (by simp [Act.put]) rfl (fun t ht => zal ht) (by rw [zan (by rw [hh.size]; exact zk hn)]; exact ⟨x, rfl, hown⟩) fun k hk => ⟨.inl hk, (hM k hk).1, (hM k hk).2.1⟩⟩
theorem Has.holdRf {X:Type} {t q:Nat} {vf:X → Value} {gg:X → GR} (hk:κ t = some (.own (zpl vf gg))) (h:Has F B O n κ a u):∃ x, Has F B O n (upd (upd (upd κ t zd5) q (.own (gg x).res)) t (.is (vf x))) a u:=by
 obtain ⟨H, fp, h⟩:=h
 obtain ⟨⟨x, hv, hx⟩, hM⟩:=h.slot t _ hk
 have h2:=h.usePut (d:=q) (a':=a) (r':=(gg x).res) (C:=fp t) hk ⟨Keep.refl _ _, h.sub, Heap.Le.refl _, fun _ _ _ => rfl⟩ rfl rfl (fun _ _ => rfl) hx fun k hk => ⟨.inl hk, (hM k hk).1, (hM k hk).2.1⟩
 have h3:=h2.name t
 rw [hv] at h3
 exact ⟨x, H, _, h3⟩
theorem ziz (t q:Nat) {X:Type} {vf:X → Value} {gg:X → GR} {c:Code} (hk:κ t = some (.own (zpl vf gg))) (h:∀ x, V P F B n O (upd (upd (upd κ t zd5) q (.own (gg x).res)) t (.is (vf x))) c Q):V P F B n O κ c Q:=fun a u hh => let ⟨x, h'⟩:=hh.holdRf (q:=q) hk; h x a u h'
theorem zss (t q:Nat) {X:Type} {vf:X → Value} {gg:X → GR} (hk:κ t = some (.own (zpl vf gg))) (h:∀ x, VO P F B n O ops (upd (upd (upd κ t zd5) q (.own (gg x).res)) t (.is (vf x))) os Q):VO P F B n O ops κ os Q:=fun a u hh => let ⟨x, h'⟩:=hh.holdRf (q:=q) hk; h x a u h'
theorem Has.packRf {X:Type} {t q:Nat} {vf:X → Value} {gg:X → GR} (x:X) (hk:κ q = some (.own (gg x).res)) (ht:κ t = some (.is (vf x))) (h:Has F B O n κ a u):Has F B O n (upd (upd κ q zd5) t (.own (zpl vf gg))) a u:=by
 obtain ⟨H, fp, h⟩:=h
 obtain ⟨hx, hM⟩:=h.slot q _ hk
 have hv:a.eval (.tmp t) = vf x:=h.slot t _ ht
 exact ⟨H, _, h.usePut (d:=t) (a':=a) (r':=zpl vf gg) (C:=fp q) hk ⟨Keep.refl _ _, h.sub, Heap.Le.refl _, fun _ _ _ => rfl⟩ rfl rfl (fun _ _ => rfl) ⟨x, hv, hx⟩ fun k hk => ⟨.inl hk, (hM k hk).1, (hM k hk).2.1⟩⟩
theorem zq7 (t q:Nat) {X:Type} (vf:X → Value) (gg:X → GR) {c:Code} (x:X) (hk:κ q = some (.own (gg x).res)) (ht:κ t = some (.is (vf x))) (h:V P F B n O (upd (upd κ q zd5) t (.own (zpl vf gg))) c Q):V P F B n O κ c Q:=fun a u hh => h a u (hh.packRf x hk ht)
theorem StepOK.turn {o:Oper} {r r':Res} (h:StepOK P F B n ops O κ o d (.own r)) (hr:∀ v H u C, B.Le H → r.P v H u C → r'.P v H u C):StepOK P F B n ops O κ o d (.own r') :=
 fun κ' a u hl hh => After.mono (fun a' u' h2 => by have:=h2.turnO (t:=d) (r':=r') (zad ..) hr; rwa [zbd] at this) (h κ' a u hl hh)
theorem StepOK2.turn {o:Oper} {q:Nat} {k1:Kn} {r r':Res} (h:StepOK2 P F B n ops O κ o q k1 d (.own r)) (hr:∀ v H u C, B.Le H → r.P v H u C → r'.P v H u C):StepOK2 P F B n ops O κ o q k1 d (.own r') :=
 fun κ' a u hl hq hh => After.mono (fun a' u' h2 => by have:=h2.turnO (t:=d) (r':=r') (zad ..) hr; rwa [zbd] at this) (h κ' a u hl hq hh)
abbrev z4o (s m:Nat) (xs:List Value):Type:={p:Nat × Nat × List Value // m ≤ p.2.1 ∧ p.2.1 ≤ maxLen ∧ (xs ++ p.2.2).length = p.2.1 * s}
abbrev z5j (e:TypeId) (s m:Nat) (xs:List Value):Res:=zpl (fun p:z4o s m xs => .slice (some ⟨p.1.1, 0, none⟩) m p.1.2.1) fun p => zab p.1.1 (xs ++ p.1.2.2) e
theorem zyh {e:TypeId} {s m:Nat} {xs:List Value} (hm:m ≠ 0):∀ v H u C, B.Le H → (SlR e s m xs).P v H u C → (z5j e s m xs).P v H u C:=fun _ _ _ _ _ ⟨_, h⟩ => by
 rcases h with ⟨h0, _⟩ | ⟨b, cap, rest, h1, h2, h3, h4, h5, h6⟩
 ·exact absurd h0 hm
 ·exact ⟨⟨(b, cap, rest), h3, h4, h5⟩, h1, h2, h6⟩
theorem zk4 (L:Tabs P) {X:Type} {t t':TypeId} {s q:Nat} {ag:Bool} {z:Nat} {cs:List Value} {vf:X → Value} {gg:X → GR} (hq:κ q = some (.own (zpl vf gg))) (hf:∀ x, (zas (vf x)).length = z ∧ (zas (vf x)).all zbn = true)
  (hg:gK ops κ ⟨none, .store t (.tmp s) (.tmp q), ty, pos, aft, g⟩ = some true) (hk:κ s = some (.own (ze7 cs t'))) (hl:L.ld t = some (ag, z)) (hcs:cs.length = z) (hne:Nat.beq q s = false) :
  StepOK2 P F B n ops O κ ⟨none, .store t (.tmp s) (.tmp q), ty, pos, aft, g⟩ q zd5 s (.own (zya vf gg t')):=by
 have hne':q ≠ s:=Nat.ne_of_beq_eq_false hne
 rintro κ' a u hlk hks ⟨H, fp, hh⟩
 unfold After
 rw [if_pos (zaf hh hlk hg)]
 have hkq:κ' q = some (.own (zpl vf gg)):=hks.trans hq
 have hkss:κ' s = some (.own (ze7 cs t')):=(hlk s (zde (by simp [Op.operands]))).trans hk
 obtain ⟨⟨x, hx, hown⟩, hMq⟩:=hh.slot q _ hkq
 have h0:=hh.usePut (d:=q) (a':=a) (r':=(gg x).res) (C:=fp q) hkq ⟨Keep.refl _ _, hh.sub, Heap.Le.refl _, fun _ _ _ => rfl⟩ rfl rfl (fun _ _ => rfl) hown fun k hk => ⟨.inl hk, (hMq k hk).1, (hMq k hk).2.1⟩
 rw [zbd] at h0
 have hks0:upd κ' q (.own (gg x).res) s = some (.own (ze7 cs t')):=by rw [zac _ _ (Ne.symm hne')]; exact hkss
 obtain ⟨⟨b, hes, hb, hC⟩, hM⟩:=h0.slot s _ hks0
 have hrun:(execOp a.eval ⟨none, .store t (.tmp s) (.tmp q), ty, pos, aft, g⟩).run P u = .ok .skip (u.setRow b (zas (vf x)).toArray):=by
  simp only [execOp, hes, hx, Instr.storeAt, Instr.sureAddr, Sem.run_bind, Sem.run_pure, Result.andThen_ok]
  have:=zbv (P:=P) (off:=0) (v:=vf x) (Tabs.ld_spec hl) hb (hf x).1 (by omega) (hf x).2
  rw [this, List.drop_of_length_le (by omega)]
  simp
 rw [hrun]
 simp only [Upon, Act.put]
 have hset:=setRow_heap u b cs.toArray (zas (vf x)).toArray t' (0, 0) hb
 have hbm:=hM b ((hC b).2 rfl)
 have h1:=h0.usePut (d:=s) (a':=a) (r':=ze7 (zas (vf x)) t') (C:=fun k => k = b) hks0 (zbi h0.sub hb ((hC b).2 rfl) hbm.2.1 _) rfl rfl (fun _ _ => rfl) ⟨b, hes, hset, fun _ => Iff.rfl⟩ (fun k hk => by
  subst hk; exact ⟨.inl ((hC k).2 rfl), by rw [setRow_size]; exact hbm.1, hbm.2.1⟩)
 rw [zbd] at h1
 have h2:Has F B O n _ a _:=⟨H, _, h1⟩
 have h3:=h2.join2 (q:=s) (g1:=q) (r1:=ze7 (zas (vf x)) t') (r2:=(gg x).res) (Ne.symm hne') (zau _) (zad ..) (by rw [zac _ _ hne', zad])
 have h4:=h3.turnO (t:=s) (r:=zgt (ze7 (zas (vf x)) t') (gg x).res) (r':=zya vf gg t') (zad ..) fun v H u C _ ⟨C1, C2, ⟨b, g1, g2, g3⟩, g4, g5, g6⟩ => ⟨(b, x), g1, C1, C2, ⟨g2, g3⟩, g4, g5, g6⟩
 have he:upd (upd (upd (upd (upd κ' q (.own (gg x).res)) s (.own (ze7 (zas (vf x)) t'))) q zd5) s (.own (zgt (ze7 (zas (vf x)) t') (gg x).res))) s (.own (zya vf gg t')) = upd (upd κ' q zd5) s (.own (zya vf gg t')):=by
  funext k
  by_cases h5:k = s
  ·subst h5; rw [zad, zad]
  ·rw [zac _ _ h5, zac _ _ h5, zac _ _ h5]
   by_cases h6:k = q
   ·subst h6; rw [zad, zad]
   ·rw [zac _ _ h6, zac _ _ h5, zac _ _ h6, zac _ _ h6]
 rw [he] at h4
 exact h4
variable {Y:Type} {kd:IntKind} {vc:Y → Value} {l:List (Int × Y)}
end
end Go.V
set_option maxRecDepth 20000
namespace Go.V.L10
open Go.Proofs Go.RowKit Go.V Go.V.L2 Go.V.L8 Go.V.L6
abbrev zio (b:Nat):Value:=.pointer (some ⟨b, 0, none⟩)
abbrev z4n (S:Sto):Res:=zpl zio fun b => StG b S
theorem zus {Y:Type}:MapOK ([]:List (Int × (List U × Y))) []:=⟨List.nodup_nil, fun r => by
 cases h:kpt ([]:List (Option (List U))) r with
 | none => rfl
 | some t => have:=zec (R:=[]) (r:=r) (by rw [h]; rfl); simp at this; omega⟩
theorem zut:MapOK [((1:Int), (([]:List U), nilSet))] newS.R:=by
 have h:=(zus (Y:=Value)).add [] nilSet
 have h2:=h.1
 rw [h.2] at h2
 exact h2
attribute [local irreducible] V N X VO Par StepOK Has Ret RetL RetO RetT zb7 zdu RetY Src
set_option maxHeartbeats 2000000 in
set_option maxRecDepth 20000 in
theorem zpw {w:World} {B:Heap} (hB:B.Le (hp w)):RetO Tryz.prog 18 [] w B (z4n newS):=by
 refine zee Tryz.func18 rfl Tryz.ntmps18 (Nat.le_of_ble_eq_true rfl) hB ?_
 refine Z186 ?_; refine z7 (zoy (hint:=none) .u64 vcE rfl rfl) rfl ?_; refine zst 1 901 rfl fun m => ?_; refine z7 (yu (cs:=[_, _, _, _]) rfl rfl ztu rfl rfl) rfl ?_; refine zcy (zrq (q:=901) (vc:=vcE) 1 ([], nilSet) mpS kyS rfl rfl rfl rfl rfl rfl rfl) ?_; refine Z1 ?_; refine z7 (yu (cs:=[_, _, _, _]) rfl rfl z49 rfl rfl) rfl ?_; refine Z105 ?_; refine ql (yl (.inr rfl) rfl rfl rfl rfl) ?_; refine Z137 ?_
 refine zq8 0 900 rfl fun b => ?_
 refine zb1 900 901 rfl rfl (zau (z4t m .u64 vcE [((1:Int), (([]:List U), nilSet))])) ?_
 refine zct 900 (StG b newS).res rfl (fun v H u C hle h => zgv (S:=newS) (s:=.slice none 0 0) (m:=m) (B:=B) zut (fun e he => by rw [List.mem_singleton.1 he]; exact SetV.nil) SlV.nil v H u C hle h) ?_
 refine zq7 0 900 zio (fun b => StG b newS) b rfl rfl ?_
 exact zid rfl (fun _ _ h => h) Since.refl rfl
end Go.V.L10
set_option maxRecDepth 20000
namespace Go.V.L10
open Go.Proofs Go.RowKit Go.V Go.V.L2 Go.V.L8 Go.V.L6
abbrev SB:=List U × (Value × Option Addr × Value × Option Addr)
abbrev sbv (b:SB):Value:=.agg #[b.2.1, .pointer b.2.2.1, b.2.2.2.1, .pointer b.2.2.2.2]
def sbc (b:SB):List Value:=[b.2.1, .pointer b.2.2.1, b.2.2.2.1, .pointer b.2.2.2.2]
theorem zzi (b:SB):(sbc b).length = 4:=rfl
def SbOK (bs:List SB) (H:Heap):Prop:=∀ b ∈ bs, SetV b.1 (sbv b) H
theorem SbOK.le {bs:List SB} {H H':Heap} (h:SbOK bs H) (hle:H.Le H'):SbOK bs H':=fun b hb => (h b hb).le hle
theorem z3t {bs:List SB} {i:Nat} {b:SB} (h:bs[i]? = some b):((bs.flatMap sbc).drop (i * 4)).take 4 = [b.2.1, .pointer b.2.2.1, b.2.2.2.1, .pointer b.2.2.2.2]:=zcv zzi bs i b h
def z5n (rs:List Int):Prop:=(0 :: rs).Pairwise (· < ·)
instance (rs:List Int):Decidable (z5n rs):=inferInstanceAs (Decidable ((0 :: rs).Pairwise (· < ·)))
attribute [local irreducible] V N X VO Par StepOK Has Ret RetL RetO RetT zb7 zdu RetY Src
end Go.V.L10
set_option maxRecDepth 20000
namespace Go.V.L10
open Go.Proofs Go.RowKit Go.V Go.V.L2 Go.V.L8 Go.V.L6
attribute [local irreducible] V N X VO Par StepOK Has Ret RetL RetO RetT zb7 zdu RetY Src
end Go.V.L10
set_option maxRecDepth 20000
namespace Go.V.L10
open Go.Proofs Go.RowKit Go.V Go.V.L2 Go.V.L8 Go.V.L6
theorem _root_.Go.V.Z398 {A B:Prop} (h:B) (t:Wr B → A:=by intro h; refine Z262 ?_; refine Z11 ?_; exact h.h):A:=t ⟨h⟩
abbrev z4u:TypeId:=89
abbrev z3q:TypeId:=32
abbrev zkt:=Option (List U) × Value
def rrc (z:zkt):List Value:=[.bool z.1.isSome, z.2]
theorem zho (z:zkt):(rrc z).length = 2:=rfl
def RowOK (zs:List zkt) (H:Heap):Prop:=∀ z ∈ zs, US (z.1.getD []) false z.2 H
theorem RowOK.le {zs:List zkt} {H H':Heap} (h:RowOK zs H) (hle:H.Le H'):RowOK zs H':=fun z hz => (h z hz).le hle
abbrev RwV (zs:List zkt):Value → Heap → Prop:=SlV z4u 2 (zs.flatMap rrc) zs.length false
def RlV (R:List (Option (List U))):Value → Heap → Prop:=fun v H => ∃ zs:List zkt, zs.map (·.1) = R ∧ RowOK zs H ∧ RwV zs v H
theorem RlV.le {R:List (Option (List U))} {v:Value} {H H':Heap} (h:RlV R v H) (hle:H.Le H'):RlV R v H':=let ⟨zs, h1, h2, h3⟩:=h; ⟨zs, h1, h2.le hle, h3.le hle⟩
def RsS (S:Sto):Value → Heap → Prop:=fun v H => ∃ lv pv, v = .agg #[lv, pv] ∧ RlV S.R lv H ∧ RsV S.P false pv H
theorem RsS.mono {S:Sto}:Kn.mono (.sat (RsS S)):=fun _ _ _ ⟨lv, pv, h1, h2, h3⟩ hle => ⟨lv, pv, h1, h2.le hle, h3.le hle⟩
theorem RsS.le {S:Sto} {v:Value} {H H':Heap} (h:RsS S v H) (hle:H.Le H'):RsS S v H':=RsS.mono _ _ _ h hle
theorem zwg {zs:List zkt} {i:Nat} {z:zkt} (h:zs[i]? = some z):((zs.flatMap rrc).drop (i * 2)).take 2 = [.bool z.1.isSome, z.2]:=zcv zho zs i z h
theorem zp0 {zs:List zkt} {H:Heap} (h:RowOK zs H):(zs.flatMap rrc).all zbn = true:=by
 rw [List.all_eq_true]
 intro x hx
 obtain ⟨z, hz, hx⟩:=List.mem_flatMap.1 hx
 obtain ⟨p, c, hs⟩:=zat (h z hz)
 unfold rrc at hx
 rw [hs] at hx
 simp only [List.mem_cons, List.mem_nil_iff, or_false] at hx
 rcases hx with rfl | rfl <;> rfl
theorem zp2 {zs:List zkt} {R:List (Option (List U))} (h:zs.map (·.1) = R) {i:Nat} {o:Option (List U)} (ho:R[i]? = some o):∃ v, zs[i]? = some (o, v):=by
 rw [← h, List.getElem?_map] at ho
 cases hz:zs[i]? with
 | none => rw [hz] at ho; cases ho
 | some z => rw [hz] at ho; cases ho; exact ⟨z.2, rfl⟩
def zj4 (R:List (Option (List U))) (i:Nat):List Int:=((List.range i).filter fun i => ((R[i]?).join).isSome).map fun i => ((i + 1:Nat):Int)
theorem zr6 {R:List (Option (List U))} {i:Nat}:zj4 R (i + 1) = zj4 R i ++ if ((R[i]?).join).isSome = true then [((i + 1:Nat):Int)] else []:=by
 unfold zj4
 rw [List.range_succ, List.filter_append, List.map_append]
 congr 1
 by_cases h:((R[i]?).join).isSome = true
 ·rw [if_pos h]; simp [h]
 ·rw [if_neg h]; simp [h]
theorem zj3 (R:List (Option (List U))) (i:Nat):(zj4 R i).length ≤ i:=by
 unfold zj4
 rw [List.length_map]
 exact Nat.le_trans (List.length_filter_le ..) (by simp)
attribute [local irreducible] V N X VO Par StepOK Has Ret RetL RetO RetT zb7 zdu RetY Src
theorem zrl {w:World} {B:Heap} (hB:B.Le (hp w)):Ret Tryz.prog 42 [] w B (RsS newS):=by
 refine yh Tryz.func42 rfl Tryz.ntmps42 (Nat.le_of_ble_eq_true rfl) hB ?_
 refine Z329 ?_; refine Z159 ?_; refine Z19 ?_; refine z7 (yu (cs:=[_, _]) rfl rfl z3u rfl rfl) rfl ?_; refine Z32 ?_; refine zbu 2 rfl fun v1 H1 hs1 hv1 => ?_; obtain ⟨d1, rfl, hd1⟩:=hv1; refine z7 (yu (cs:=[_, _]) rfl rfl z1n rfl rfl) rfl ?_; refine Z256 ?_
 refine yd L (rs:=[.cell 0 32]) rfl (fun _ _ h => h) hs1 fun u H hH hle => ?_
 exact ⟨_, yj rfl, rfl, _, _, rfl, ⟨[(some [], .slice none 0 0)], rfl, fun z hz => by rw [List.mem_singleton.1 hz]; exact SlV.nil, (SlB.toV (n:=1) ⟨d1, rfl, hle _ _ hd1⟩ rfl).nofu⟩, SlV.nil⟩
theorem zgf {R:List (Option (List U))} {zs:List zkt} (hzs:zs.map (·.1) = R) (hR:R.length ≤ 100000) {lv pv:Value} (hpv:∃ p k c, pv = .slice p k c) {w:World} {B:Heap} (hB:B.Le (hp w)) (hl:RwV zs lv B) :
  Ret Tryz.prog 34 [.agg #[lv, pv]] w B (RsV (zaz R) false):=by
 have hzl:zs.length = R.length:=by rw [← hzs, List.length_map]
 obtain ⟨p, c, rfl⟩:=zat hl
 obtain ⟨p2, k2, c2, rfl⟩:=hpv
 refine yh Tryz.func34 rfl Tryz.ntmps34 (Nat.le_of_ble_eq_true rfl) hB ?_
 refine Z299 ?_; refine Z147 ?_
 refine zdj 3 zms 1 rfl ?_
 refine Z356 ?_
 refine zai (fun y:Nat => [(1, .sat (At [.slice p zs.length c, .slice p2 k2 c2] z3q 0)), (3, .own (SlR zms 1 (zj4 R y).length ((zj4 R y).map (Value.int .u64)))), (4, .is (.int .i64 y))])
  (fun y => y ≤ R.length) (fun y => R.length - y) 0 (Nat.zero_le _) ⟨rfl, rfl, rfl, trivial⟩ ?_
 rintro i hi
 dsimp only at hi ⊢
 have htl:=zj3 R i
 by_cases hlt:i < R.length
 ·obtain ⟨o, ho⟩:=zae hlt
  obtain ⟨v, hv⟩:=zp2 hzs ho
  have hc:=zwg hv
  have hwk:IntKind.i64.wrap ((i:Int) + 1) = ((i + 1:Nat):Int):=zaa (by omega) (by omega)
  have hwu:IntKind.u64.wrap ((i + 1:Nat):Int) = ((i + 1:Nat):Int):=wrap_u64 (by omega) (by omega)
  have hs:=zr6 (R:=R) (i:=i)
  rw [ho] at hs
  cases o with
  | none =>
   have hs2:zj4 R (i + 1) = zj4 R i:=hs.trans (List.append_nil _)
   refine Z250 ?_; refine Z398 ?_; refine Z175 ?_; refine Z170 ?_; refine Z41 ?_; refine Z262 ?_; refine Z1 ?_; refine z7 (qu L _ rfl rfl rfl rfl rfl rfl rfl (by first | omega | decide) (by assumption)) rfl ?_; refine Z102 ?_; refine Z61 ?_; refine Z218 ?_; refine Z343 ?_
   exact yi (x:=i) (i + 1) hlt (by omega) ⟨rfl, by rw [hs2]; rfl, rfl, trivial⟩
  | some t =>
   have hs2:zj4 R (i + 1) = zj4 R i ++ [((i + 1:Nat):Int)]:=hs
   refine Z250 ?_; refine Z398 ?_; refine Z175 ?_; refine Z170 ?_; refine Z41 ?_; refine Z262 ?_; refine Z1 ?_; refine z7 (qu L _ rfl rfl rfl rfl rfl rfl rfl (by first | omega | decide) (by assumption)) rfl ?_; refine Z102 ?_; refine Z61 ?_; refine Z144 ?_; refine Z42 ?_; refine ql (yl (.inl rfl) rfl rfl rfl rfl) ?_; refine Z1 ?_; refine Z16 ?_; refine z7 (za5 rfl rfl rfl zf9.1 zf9.2 (wrap_u64 (by omega) (by omega))) rfl ?_; refine Z32 ?_; refine Z109 ?_; refine ql (yl (.inr rfl) rfl rfl rfl rfl) ?_; refine Z235 ?_; refine Z343 ?_
   exact yi (x:=i) (i + 1) hlt (by omega) ⟨rfl, by rw [hs2]; exact zly, rfl, trivial⟩
 ·obtain rfl:i = R.length:=by omega
  refine Z250 ?_; refine Z398 ?_; refine Z242 ?_
  refine zb3 3 rfl ?_
  refine Z43 ?_; refine Z4 ?_; refine Z269 ?_
  refine yd L (rs:=[.tmp 2]) rfl (fun _ _ h => h) Since.refl fun u H hH hle => ?_
  exact fun v hv => hv
end Go.V.L10
set_option maxRecDepth 20000
namespace Go.V.L10
open Go.Proofs Go.RowKit Go.V Go.V.L2 Go.V.L8 Go.V.L6
theorem _root_.Go.V.Z349 {A B:Prop} (h:B) (t:Wr B → A:=by intro h; refine Z46 ?_; refine z8 (StepOK.seeV (qg L (qm rfl) rfl rfl rfl rfl) (by assumption)) rfl ?_; exact h.h):A:=t ⟨h⟩
theorem zyj {φ:Value → Heap → Prop} {a v:Value} {H:Heap} (h:TupS [φ, fun v _ => v = a] v H):∃ tv, v = .tuple #[tv, a] ∧ φ tv H:=by
 obtain ⟨vs, rfl, hl, hp⟩:=h
 match vs, hl with
 | [x, y], _ =>
  have h2:=hp 1 _ y rfl rfl
  exact ⟨x, by rw [← h2], hp 0 _ x rfl rfl⟩
abbrev Wr10P (S:Sto) (rev e:Int):Value → Heap → Prop:=TupS [RsS S, fun v _ => v = .int .u64 rev, fun v _ => v = .int .i64 e]
theorem z3r {φ:Value → Heap → Prop} {a b v:Value} {H:Heap} (h:φ v H):TupS [φ, fun v _ => v = a, fun v _ => v = b] (.tuple #[v, a, b]) H:=by
 refine ⟨[v, a, b], rfl, rfl, fun i ψ x hi hx => ?_⟩
 rcases i with _ | _ | _ | i
 ·cases hi; cases hx; exact h
 ·cases hi; cases hx; rfl
 ·cases hi; cases hx; rfl
 ·cases hi
theorem Wr10P.mono {S:Sto} {rev e:Int}:Kn.mono (.sat (Wr10P S rev e)):=TupS.mono fun ψ hψ => by
 simp only [List.mem_cons, List.mem_nil_iff, or_false] at hψ
 rcases hψ with rfl | rfl | rfl
 ·exact RsS.mono
 ·exact fun _ _ _ h _ => h
 ·exact fun _ _ _ h _ => h
attribute [local irreducible] V N X VO Par StepOK Has Ret RetL RetO RetT zb7 zdu RetY Src
set_option maxHeartbeats 4000000 in
set_option maxRecDepth 20000 in
theorem zna {S S':Sto} {l cs:List CH} {rev e:Int} {fl fc:Bool} (hI:z3b S) (hR:S.R.length ≤ 100000) (hn:S.R.length ≠ 0) (hss:∀ r t, kpt S.R r = some t → Sst zbc t ∧ ∀ x ∈ t, TZ x) (zl:∀ c ∈ l, TM c.1) (zc:∀ c ∈ cs, TM c.1) (ll:l.length ≤ 9223372036854775807) (lc:cs.length ≤ 9223372036854775807) (hw:zdy S l cs = (S', rev, e)) {v lv cv:Value} {w:World} {B:Heap} (hB:B.Le (hp w)) (hv:RsS S v B) (hl:KS tyM l fl lv B) (hc:KS tyC cs fc cv B) :
  Ret Tryz.prog 53 [v, lv, cv] w B (Wr10P S' rev e):=by
 obtain ⟨rv, pv, rfl, ⟨zs, hzs, hrow, hrv⟩, hpv⟩:=hv
 have hzl:zs.length = S.R.length:=by rw [← hzs, List.length_map]
 obtain ⟨p, c, rfl⟩:=zat hrv
 obtain ⟨p2, c2, rfl⟩:=zat hpv
 obtain ⟨t0, ht0⟩:∃ t0, kpt S.R S.R.length = some t0:=Option.isSome_iff_exists.1 hI.last
 have hA:atS S 0 = (t0, 0):=by unfold atS; rw [if_pos rfl, ht0]
 have ht4:=hI.tl _ _ ht0
 have hts:=hss _ _ ht0
 obtain ⟨⟨t1, made, e1⟩, hwr⟩:∃ x, zd6 t0 l cs = x:=⟨_, rfl⟩
 unfold zdy at hw
 rw [hA, hwr] at hw
 dsimp only at hw
 obtain ⟨j, hj⟩:∃ j, zs.length = j + 1:=⟨zs.length - 1, by omega⟩
 have hws:IntKind.i64.wrap (((zs.length:Nat):Int) - 1) = ((j:Nat):Int):=(zaa (by omega) (by omega)).trans (by omega)
 obtain ⟨v0, hv0⟩:∃ v, zs[j]? = some (some t0, v):=zp2 hzs (by
  obtain ⟨o, ho⟩:=zae (show j < S.R.length by omega)
  have h2:S.R.length = j + 1:=by omega
  rw [h2, zgp, ho] at ht0
  cases o with
  | none => cases ht0
  | some t => cases ht0; exact ho)
 have hrz:US t0 false v0 B:=hrow (some t0, v0) (List.mem_of_getElem? hv0)
 obtain ⟨p3, c3, rfl⟩:=zat hrz
 have hc0:=zwg hv0
 have hkl:=zj3 S.R S.R.length
 refine yh Tryz.func53 rfl Tryz.ntmps53 (Nat.le_of_ble_eq_true rfl) hB ?_
 refine zax 1 (KS tyM l fl) rfl SlV.mono hl ?_
 refine zax 2 (KS tyC cs fc) rfl SlV.mono hc ?_
 refine Z157 ?_; refine Z267 ?_; refine Z161 ?_; refine Z262 ?_; refine Z398 ?_; refine Z26 ?_; refine z7 (qu L _ rfl rfl rfl rfl rfl rfl rfl (by first | omega | decide) (by assumption)) rfl ?_; refine Z102 ?_; refine Z61 ?_; refine Z367 ?_; refine z7 (yq (φ:=RWriteP t1 made e1) L rfl rfl (zk rfl) rfl rfl rfl RWriteP.mono (fun u H hH hle _ v1 h1 v2 h2 => zoq zl zc ll lc ht4 hts.1 hts.2 hwr hH (hrz.le hle) h1 h2)) rfl ?_; refine zbu 25 rfl fun v1 H1 hs1 hp1 => ?_; obtain ⟨tv, mv, rfl, htv, hmv⟩:=hp1; obtain ⟨p4, c4, rfl⟩:=zat htv; refine Z173 ?_; refine Z14 ?_; refine Z2 ?_; refine Z220 ?_
 have hrow1:=hrow.le hs1.le
 have hrv1:=hrv.le hs1.le
 have hpv1:=hpv.le hs1.le
 by_cases he:e1 = 0
 ·subst he
  rw [if_pos rfl] at hw
  by_cases hk:1024 ≤ (zaz S.R).length
  ·rw [if_pos hk] at hw
   cases hw
   refine Z171 ?_; refine Z25 ?_; refine Z1 ?_; refine z7 (zq L (vs:=[_, _]) (qm rfl) rfl rfl rfl rfl ⟨_, rfl⟩) rfl ?_; refine z7 (yq (φ:=RsV (zaz S.R) false) L rfl rfl (zk rfl) rfl rfl rfl SlV.mono (fun u H hH hle _ => zgf hzs (by omega) ⟨_, _, _, rfl⟩ hH (hrv1.le hle))) rfl ?_; refine Z11 ?_; refine Z40 ?_; refine Z249 ?_; refine Z28 ?_; refine Z147 ?_; refine Z160 ?_; refine Z213 ?_; refine Z41 ?_; refine z7 (zq L (vs:=[_, _]) (qm rfl) rfl rfl rfl rfl ⟨_, rfl⟩) rfl ?_; refine Z1 ?_; refine Z18 ?_; refine Z188 ?_
   refine yd L (rs:=[.cell 6 32, .tmp 7, .tmp 8]) rfl (fun _ _ h => h) hs1 fun u H hH hle => ?_
   exact ⟨_, yj rfl, rfl, z3r ⟨_, _, rfl, ⟨zs, hzs, hrow1.le hle, hrv1.le hle⟩, hpv1.le hle⟩⟩
  ·rw [if_neg hk] at hw
   cases hw
   have hlen:(zs.flatMap rrc).length = zs.length * 2:=zce zho zs
   have hpl:=zp0 hrow
   have hwu:IntKind.u64.wrap ((zs.length + 1:Nat):Int) = ((S.R.length + 1:Nat):Int):=(wrap_u64 (by omega) (by omega)).trans (by omega)
   refine Z171 ?_; refine Z25 ?_; refine Z1 ?_; refine z7 (zq L (vs:=[_, _]) (qm rfl) rfl rfl rfl rfl ⟨_, rfl⟩) rfl ?_; refine z7 (yq (φ:=RsV (zaz S.R) false) L rfl rfl (zk rfl) rfl rfl rfl SlV.mono (fun u H hH hle _ => zgf hzs (by omega) ⟨_, _, _, rfl⟩ hH (hrv1.le hle))) rfl ?_; refine Z11 ?_; refine Z45 ?_; refine Z8 ?_; refine Z167 ?_; refine Z160 ?_; refine Z227 ?_
   refine qd (id:=6) [(47, [43]), (50, [47]), (100012, [50])] mixed (by kernel_rfl) ?_; refine Z349 ?_; refine z8 (zcu L rfl rfl rfl (zh2 rfl) rfl z4f hlen hpl (by omega) (by omega)) rfl ?_; refine Z3 ?_; refine z8 (yu (cs:=[_, _]) rfl rfl z3u rfl rfl) rfl ?_; refine Z119 ?_; refine za2 (StepOK2.turn (zbx (q:=43) L rfl rfl rfl (zgq rfl) rfl z4f rfl rfl (by omega) (by omega)) (zyh (Nat.succ_ne_zero _))) rfl rfl ?_; refine Z215 ?_; refine za2 (zk5 (q:=47) (X:=z4o 2 (zs.length + 1) _) (fun x => [(0, .slice (some ⟨x.1.1, 0, none⟩) (zs.length + 1) x.1.2.1), (1, .slice p2 S.P.length c2)]) (fun x => [.slice (some ⟨x.1.1, 0, none⟩) (zs.length + 1) x.1.2.1, .slice p2 S.P.length c2]) rfl rfl rfl rfl z1n (fun _ => rfl) (fun _ => by rfl)) rfl rfl ?_; refine Z132 ?_; refine za2 (zk4 L (q:=50) rfl (fun _ => by exact ⟨rfl, rfl⟩) rfl rfl rfl rfl rfl) rfl rfl ?_; refine Z281 ?_
   refine ziz 12 902 rfl fun x => ?_
   obtain ⟨b12, ⟨b47, cap, rest⟩, hcap, _, hfl⟩:=x
   dsimp only at hcap hfl ⊢
   rw [zn3]
   refine zga 902 903 rfl (zau _) ?_
   refine zy0 903 rfl fun H2 hs2 _ hb47 => ?_
   refine qd (id:=7) [(200051, [902]), (200053, [902])] mixed (by kernel_rfl) ?_; refine qq (zam L (q:=902) (vs:=[_, _]) rfl rfl rfl rfl rfl rfl ⟨_, rfl⟩) rfl rfl ?_; refine Z27 ?_; refine qq (qs L (q:=902) rfl rfl rfl rfl rfl rfl) rfl rfl ?_; refine z8 (zue L rfl rfl rfl rfl) rfl ?_; refine z8 (za5 rfl rfl rfl zf9.1 zf9.2 (wrap_u64 (by omega) (by omega))) rfl ?_; refine Z112 ?_; refine Z36 ?_; refine Z177 ?_
   refine yd L (rs:=[.cell 6 32, .tmp 7, .tmp 8]) rfl (fun _ _ h => h) (hs1.trans hs2) fun u H hH hle => ?_
   have hrow2:RowOK (zs ++ [(some t1, .slice p4 t1.length c4)]) H2:=fun z hz => by
    rcases List.mem_append.1 hz with hz | hz
    ·exact (hrow1.le hs2.le) z hz
    ·rw [List.mem_singleton.1 hz]; exact htv.le hs2.le
   have hfm:(zs ++ [(some t1, Value.slice p4 t1.length c4)]).flatMap rrc = zs.flatMap rrc ++ [.bool true, .slice p4 t1.length c4]:=by rw [List.flatMap_append]; rfl
   have hrv2:RwV (zs ++ [(some t1, .slice p4 t1.length c4)]) (.slice (some ⟨b47, 0, none⟩) (zs.length + 1) cap) H2:=by
    unfold RwV
    rw [hfm, List.length_append, List.length_singleton]
    exact ⟨by rw [List.length_append, hlen]; simp; omega, .inr ⟨b47, 0, cap, _, _, _, rfl, hb47, (by show (((zs.flatMap rrc ++ ([.bool true, .slice p4 t1.length c4]:List Value)) ++ rest).drop 0).take _ = _; rw [List.drop_zero]; exact List.take_left), hcap, fun h => by cases h⟩⟩
   rw [show S.R.length + 1 = zs.length + 1 by omega]
   exact ⟨_, yj rfl, rfl, z3r ⟨_, _, rfl, ⟨_, by rw [List.map_append, hzs]; rfl, hrow2.le hle, hrv2.le hle⟩, (hpv1.le hs2.le).le hle⟩⟩
 ·rw [if_neg he] at hw
  cases hw
  refine Z171 ?_; refine Z13 ?_; refine Z310 ?_; refine Z167 ?_; refine Z160 ?_; refine Z213 ?_; refine Z41 ?_; refine z7 (zq L (vs:=[_, _]) (qm rfl) rfl rfl rfl rfl ⟨_, rfl⟩) rfl ?_; refine Z1 ?_; refine Z18 ?_; refine Z188 ?_
  refine yd L (rs:=[.cell 6 32, .tmp 7, .tmp 8]) rfl (fun _ _ h => h) hs1 fun u H hH hle => ?_
  exact ⟨_, yj rfl, rfl, z3r ⟨_, _, rfl, ⟨zs, hzs, hrow1.le hle, hrv1.le hle⟩, hpv1.le hle⟩⟩
abbrev Pn10P (S:Sto) (e:Int):Value → Heap → Prop:=TupS [RsS S, fun v _ => v = .int .i64 e]
theorem Pn10P.mono {S:Sto} {e:Int}:Kn.mono (.sat (Pn10P S e)):=zfh RsS.mono
set_option maxHeartbeats 1000000 in
set_option maxRecDepth 20000 in
theorem zk2 {S S':Sto} {r e:Int} {un:Bool} (hR:S.R.length ≤ 1000000000) (hr0:0 ≤ r) (hr1:r < 18446744073709551616) (hz:S.P.length ≤ 1000) (hpos:∀ x ∈ S.P, 0 < x) (hpn:zkp S r un = (S', e)) {v:Value} {w:World} {B:Heap} (hB:B.Le (hp w)) (hv:RsS S v B) :
  Ret Tryz.prog 54 [v, .int .u64 r, .bool un] w B (Pn10P S' e):=by
 obtain ⟨rv, pv, rfl, ⟨zs, hzs, hrow, hrv⟩, hpv⟩:=hv
 have hzl:zs.length = S.R.length:=by rw [← hzs, List.length_map]
 obtain ⟨p, c, rfl⟩:=zat hrv
 obtain ⟨p2, c2, rfl⟩:=zat hpv
 have hwl:IntKind.u64.wrap ((zs.length:Nat):Int) = ((zs.length:Nat):Int):=wrap_u64 (by omega) (by omega)
 unfold zkp at hpn
 by_cases hk:(kpt S.R r).isSome = true
 ·rw [if_pos hk] at hpn
  obtain ⟨k0, k1⟩:=zec hk
  obtain ⟨j, rfl⟩:∃ j:Nat, r = ((j + 1:Nat):Int):=⟨(r - 1).toNat, by omega⟩
  have hws:IntKind.u64.wrap (((j + 1:Nat):Int) - 1) = ((j:Nat):Int):=(wrap_u64 (by omega) (by omega)).trans (by omega)
  rw [zgp] at hk
  obtain ⟨o, ho⟩:=zae (show j < S.R.length by omega)
  rw [ho] at hk
  cases o with
  | none => cases hk
  | some t =>
   obtain ⟨v, hv⟩:=zp2 hzs ho
   have hc:=zwg hv
   obtain ⟨⟨P1, e1⟩, hu⟩:∃ x, zfc S.P ((j + 1:Nat):Int) = x:=⟨_, rfl⟩
   refine yh Tryz.func54 rfl Tryz.ntmps54 (Nat.le_of_ble_eq_true rfl) hB ?_
   refine Z338 ?_; refine Z192 ?_; refine Z13 ?_; refine Z140 ?_; refine Z398 ?_; refine z7 (za5 rfl rfl rfl zf9.1 zf9.2 (wrap_u64 (by omega) (by omega))) rfl ?_; refine Z282 ?_; refine Z1 ?_; refine Z262 ?_; refine Z247 ?_; refine z7 (qu L _ rfl rfl rfl rfl rfl rfl rfl (by first | omega | decide) (by assumption)) rfl ?_; refine Z102 ?_; refine Z61 ?_; refine Z53 ?_; refine Z359 ?_; refine Z28 ?_; refine Z262 ?_; refine Z1 ?_; refine z7 (yq (φ:=RP2 (S.P ++ [((j + 1:Nat):Int)]) 0) L rfl rfl (zk rfl) rfl rfl rfl zp1 (fun u H hH hle _ v1 h1 => zwh (by omega) hpos hz hH h1)) rfl ?_; refine zbu 35 rfl fun v1 H1 hs1 hp1 => ?_; obtain ⟨tv, rfl, htv⟩:=zyj hp1; obtain ⟨p4, c4, rfl⟩:=zat htv; refine Z328 ?_
   have hrow1:=hrow.le hs1.le
   have hrv1:=hrv.le hs1.le
   have hpv1:=hpv.le hs1.le
   cases un with
   | false =>
    rw [if_neg (by decide)] at hpn
    cases hpn
    refine Z160 ?_; refine Z167 ?_; refine Z189 ?_; refine Z227 ?_; refine Z55 ?_; refine Z184 ?_; refine Z1 ?_; refine z7 (yu (cs:=[_, _]) rfl rfl z1n rfl rfl) rfl ?_; refine Z232 ?_
    refine yd L (rs:=[.cell 6 32, .tmp 7]) rfl (fun _ _ h => h) hs1 fun u H hH hle => ?_
    exact ⟨_, yj rfl, rfl, zfi ⟨_, _, rfl, ⟨zs, hzs, hrow1.le hle, hrv1.le hle⟩, htv.le hle⟩⟩
   | true =>
    rw [if_pos rfl, hu] at hpn
    dsimp only at hpn
    refine Z160 ?_; refine Z144 ?_; refine Z41 ?_; refine Z262 ?_; refine Z1 ?_; refine z7 (yq (φ:=RP2 P1 e1) L rfl rfl (zk rfl) rfl rfl rfl zp1 (fun u H hH hle _ v1 h1 => zrk hu hz hH h1)) rfl ?_; refine zbu 43 rfl fun v1 H2 hs2 hp2 => ?_; obtain ⟨uv, rfl, huv⟩:=zyj hp2; obtain ⟨p5, c5, rfl⟩:=zat huv; refine Z328 ?_
    have hrow2:=hrow1.le hs2.le
    have hrv2:=hrv1.le hs2.le
    have hpv2:=hpv1.le hs2.le
    by_cases h0:e1 = 0
    ·subst h0
     rw [if_pos rfl] at hpn
     cases hpn
     refine Z189 ?_; refine Z227 ?_; refine Z55 ?_; refine Z184 ?_; refine Z1 ?_; refine z7 (yu (cs:=[_, _]) rfl rfl z1n rfl rfl) rfl ?_; refine Z232 ?_
     refine yd L (rs:=[.cell 6 32, .tmp 7]) rfl (fun _ _ h => h) (hs1.trans hs2) fun u H hH hle => ?_
     exact ⟨_, yj rfl, rfl, zfi ⟨_, _, rfl, ⟨zs, hzs, hrow2.le hle, hrv2.le hle⟩, huv.le hle⟩⟩
    ·rw [if_neg h0] at hpn
     cases hpn
     refine Z189 ?_; refine Z213 ?_; refine Z43 ?_; refine z7 (zq L (vs:=[_, _]) (qm rfl) rfl rfl rfl rfl ⟨_, rfl⟩) rfl ?_; refine Z1 ?_; refine Z232 ?_
     refine yd L (rs:=[.cell 6 32, .tmp 7]) rfl (fun _ _ h => h) (hs1.trans hs2) fun u H hH hle => ?_
     exact ⟨_, yj rfl, rfl, zfi ⟨_, _, rfl, ⟨zs, hzs, hrow2.le hle, hrv2.le hle⟩, hpv2.le hle⟩⟩
 ·rw [if_neg hk] at hpn
  cases hpn
  by_cases hr:r = 0
  ·refine yh Tryz.func54 rfl Tryz.ntmps54 (Nat.le_of_ble_eq_true rfl) hB ?_
   refine Z338 ?_; refine Z192 ?_; refine Z25 ?_; refine Z295 ?_; refine Z217 ?_; refine Z354 ?_; refine Z217 ?_; refine Z223 ?_; refine z7 (zq L (vs:=[_, _]) (qm rfl) rfl rfl rfl rfl ⟨_, rfl⟩) rfl ?_; refine Z232 ?_
   refine yd L (rs:=[.cell 6 32, .tmp 7]) rfl (fun _ _ h => h) Since.refl fun u H hH hle => ?_
   exact ⟨_, yj rfl, rfl, zfi ⟨_, _, rfl, ⟨zs, hzs, hrow.le hle, hrv.le hle⟩, hpv.le hle⟩⟩
  ·obtain ⟨j, rfl⟩:∃ j:Nat, r = ((j + 1:Nat):Int):=⟨(r - 1).toNat, by omega⟩
   have hws:IntKind.u64.wrap (((j + 1:Nat):Int) - 1) = ((j:Nat):Int):=(wrap_u64 (by omega) (by omega)).trans (by omega)
   by_cases hjl:j < S.R.length
   ·rw [zgp] at hk
    obtain ⟨o, ho⟩:=zae hjl
    rw [ho] at hk
    cases o with
    | some t => exact absurd rfl hk
    | none =>
     obtain ⟨v, hv⟩:=zp2 hzs ho
     have hc:=zwg hv
     refine yh Tryz.func54 rfl Tryz.ntmps54 (Nat.le_of_ble_eq_true rfl) hB ?_
     refine Z338 ?_; refine Z192 ?_; refine Z13 ?_; refine Z140 ?_; refine Z398 ?_; refine z7 (za5 rfl rfl rfl zf9.1 zf9.2 (wrap_u64 (by omega) (by omega))) rfl ?_; refine Z282 ?_; refine Z1 ?_; refine Z262 ?_; refine Z247 ?_; refine z7 (qu L _ rfl rfl rfl rfl rfl rfl rfl (by first | omega | decide) (by assumption)) rfl ?_; refine Z102 ?_; refine Z61 ?_; refine Z53 ?_; refine Z8 ?_; refine Z223 ?_; refine z7 (zq L (vs:=[_, _]) (qm rfl) rfl rfl rfl rfl ⟨_, rfl⟩) rfl ?_; refine Z232 ?_
     refine yd L (rs:=[.cell 6 32, .tmp 7]) rfl (fun _ _ h => h) Since.refl fun u H hH hle => ?_
     exact ⟨_, yj rfl, rfl, zfi ⟨_, _, rfl, ⟨zs, hzs, hrow.le hle, hrv.le hle⟩, hpv.le hle⟩⟩
   ·refine yh Tryz.func54 rfl Tryz.ntmps54 (Nat.le_of_ble_eq_true rfl) hB ?_
    refine Z338 ?_; refine Z192 ?_; refine Z13 ?_; refine Z140 ?_; refine Z398 ?_; refine z7 (za5 rfl rfl rfl zf9.1 zf9.2 (wrap_u64 (by omega) (by omega))) rfl ?_; refine Z39 ?_; refine Z8 ?_; refine Z354 ?_; refine Z217 ?_; refine Z223 ?_; refine z7 (zq L (vs:=[_, _]) (qm rfl) rfl rfl rfl rfl ⟨_, rfl⟩) rfl ?_; refine Z232 ?_
    refine yd L (rs:=[.cell 6 32, .tmp 7]) rfl (fun _ _ h => h) Since.refl fun u H hH hle => ?_
    exact ⟨_, yj rfl, rfl, zfi ⟨_, _, rfl, ⟨zs, hzs, hrow.le hle, hrv.le hle⟩, hpv.le hle⟩⟩
end Go.V.L10
set_option maxRecDepth 20000
namespace Go.V.L10
open Go.Proofs Go.RowKit Go.V Go.V.L2 Go.V.L8 Go.V.L6
theorem zqs {α:Type} {f:α → List Value} {l:List α} {i:Nat} {x:α} (h:l[i]? = some x) (rest:List Value):l.flatMap f ++ rest = (l.take i).flatMap f ++ (f x ++ ((l.drop (i + 1)).flatMap f ++ rest)):=by
 have hi:=get_lt h
 have e:l = l.take i ++ x :: l.drop (i + 1):=by
  rw [show x :: l.drop (i + 1) = l.drop i by rw [List.drop_eq_getElem_cons hi, zdn h], List.take_append_drop]
 conv => lhs; rw [e, List.flatMap_append, List.flatMap_cons]
 simp only [List.append_assoc]
theorem z2o {α:Type} {f:α → List Value} {s:Nat} (hf:∀ a, (f a).length = s) {l:List α} {i:Nat} {x:α} (h:l[i]? = some x) (y:α) (rest:List Value):(l.flatMap f ++ rest).take (0 + i * s) ++ (f y ++ (l.flatMap f ++ rest).drop (0 + i * s + s)) = (l.set i y).flatMap f ++ rest:=by
 have hi:=get_lt h
 have hl:((l.take i).flatMap f).length = i * s:=by rw [zce hf, List.length_take, Nat.min_eq_left (Nat.le_of_lt hi)]
 have hs:(l.set i y)[i]? = some y:=by rw [List.getElem?_set_self hi]
 rw [zqs h rest, zqs hs rest, List.take_set_of_le (Nat.le_refl _), List.drop_set_of_lt (Nat.lt_succ_self i)]
 have hx:=hf x
 generalize (l.take i).flatMap f = A at hl ⊢
 generalize (l.drop (i + 1)).flatMap f ++ rest = T
 have e1:(A ++ (f x ++ T)).take (0 + i * s) = A:=by rw [Nat.zero_add, ← hl]; exact List.take_left
 have e2:(A ++ (f x ++ T)).drop (0 + i * s + s) = T:=by
  rw [← List.append_assoc, Nat.zero_add, ← hl]
  exact List.drop_left' (by rw [List.length_append, hx])
 rw [e1, e2]
def z0i (zs:List zkt) (g:Int):List zkt:=zs.set (g - 1).toNat (none, .slice none 0 0)
def zh0 (zs:List zkt) (l:List Int):List zkt:=l.foldl z0i zs
theorem zsj {zs:List zkt} {l:List Int} {i:Nat} {g:Int} (h:l[i]? = some g):zh0 zs (l.take (i + 1)) = z0i (zh0 zs (l.take i)) g:=by
 unfold zh0; rw [zb2 h, List.foldl_append]; rfl
theorem zxn (zs:List zkt) (g:Int):(z0i zs g).map (·.1) = clr (zs.map (·.1)) g:=by unfold z0i clr; rw [List.map_set]
theorem zkg:∀ (l:List Int) (zs:List zkt), (zh0 zs l).map (·.1) = clrL (zs.map (·.1)) l
 | [], _ => rfl
 | g :: l, zs => by
  have:=zkg l (z0i zs g)
  rw [zxn] at this
  exact this
theorem zvg (l:List Int) (zs:List zkt):(zh0 zs l).length = zs.length:=by
 have:=congrArg List.length (zkg l zs)
 rw [List.length_map, zdb, List.length_map] at this
 exact this
theorem RowOK.clr {zs:List zkt} {H:Heap} (h:RowOK zs H) (g:Int):RowOK (z0i zs g) H:=fun z hz => by
 rcases List.mem_or_eq_of_mem_set hz with hz | rfl
 ·exact h z hz
 ·exact SlV.nil
theorem RowOK.clrL:∀ {l:List Int} {zs:List zkt} {H:Heap}, RowOK zs H → RowOK (zh0 zs l) H
 | [], _, _, h => h
 | g :: l, _, _, h => RowOK.clrL (l:=l) (h.clr g)
attribute [local irreducible] V N X VO Par StepOK Has Ret RetL RetO RetT zb7 zdu RetY Src
def Cl10P (S:Sto) (g:List Int) (e:Int):Value → Heap → Prop:=fun v H => ∃ sv gv, v = .tuple #[sv, gv, .int .i64 e] ∧ RsS S sv H ∧ RsV g false gv H
set_option maxHeartbeats 1000000 in
set_option maxRecDepth 20000 in
theorem zko {S:Sto} {keep:Int} (hn:S.R.length ≠ 0) (hR:S.R.length ≤ 100000) (hz:S.P.length ≤ 100000) {v:Value} {w:World} {B:Heap} (hB:B.Le (hp w)) (hv:RsS S v B) :
  Ret Tryz.prog 55 [v, .int .i64 keep] w B (Cl10P (zc4 S keep).1 (zc4 S keep).2.1 (zc4 S keep).2.2):=by
 obtain ⟨rv, pv, rfl, ⟨zs, hzs, hrow, hrv⟩, hpv⟩:=hv
 have hzl:zs.length = S.R.length:=by rw [← hzs, List.length_map]
 obtain ⟨p, c, rfl⟩:=zat hrv
 obtain ⟨p2, c2, rfl⟩:=zat hpv
 have hkl:=zj3 S.R S.R.length
 by_cases hk1:keep < 1
 ·have hS:zc4 S keep = (S, [], 4):=by unfold zc4; rw [if_neg (by omega)]
  rw [hS]
  refine yh Tryz.func55 rfl Tryz.ntmps55 (Nat.le_of_ble_eq_true rfl) hB ?_
  refine Z157 ?_; refine Z267 ?_; refine Z192 ?_; refine Z7 ?_; refine Z183 ?_; refine Z8 ?_; refine Z223 ?_; refine z7 (zq L (vs:=[_, _]) (qm rfl) rfl rfl rfl rfl ⟨_, rfl⟩) rfl ?_; refine Z18 ?_; refine Z188 ?_
  refine yd L (rs:=[.cell 4 32, .tmp 5, .tmp 6]) rfl (fun _ _ h => h) Since.refl fun u H hH hle => ?_
  exact ⟨_, yj rfl, rfl, _, _, rfl, ⟨_, _, rfl, ⟨zs, hzs, hrow.le hle, hrv.le hle⟩, hpv.le hle⟩, SlV.nil⟩
 ·by_cases hk2:1024 < keep
  ·have hS:zc4 S keep = (S, [], 4):=by unfold zc4; rw [if_neg (by omega)]
   rw [hS]
   refine yh Tryz.func55 rfl Tryz.ntmps55 (Nat.le_of_ble_eq_true rfl) hB ?_
   refine Z157 ?_; refine Z267 ?_; refine Z192 ?_; refine Z10 ?_; refine Z140 ?_; refine Z39 ?_; refine Z8 ?_; refine Z223 ?_; refine z7 (zq L (vs:=[_, _]) (qm rfl) rfl rfl rfl rfl ⟨_, rfl⟩) rfl ?_; refine Z18 ?_; refine Z188 ?_
   refine yd L (rs:=[.cell 4 32, .tmp 5, .tmp 6]) rfl (fun _ _ h => h) Since.refl fun u H hH hle => ?_
   exact ⟨_, yj rfl, rfl, _, _, rfl, ⟨_, _, rfl, ⟨zs, hzs, hrow.le hle, hrv.le hle⟩, hpv.le hle⟩, SlV.nil⟩
  ·obtain ⟨k, rfl⟩:∃ k:Nat, keep = (k:Int):=⟨keep.toNat, by omega⟩
   have hS:zc4 S k = (⟨clrL S.R (zda S.P (zaz S.R) k), S.P⟩, zda S.P (zaz S.R) k, 0):=by unfold zc4; rw [if_pos (by omega)]; rfl
   rw [hS]
   have hgp:∀ x ∈ zda S.P (zaz S.R) k, 0 < x ∧ x ≤ S.R.length:=fun x hx => by
    unfold zda at hx
    exact zec (zd3.1 (List.mem_of_mem_take (List.mem_filter.1 hx).1))
   have hgl:(zda S.P (zaz S.R) k).length ≤ 100000:=by
    unfold zda
    refine Nat.le_trans (List.length_filter_le ..) ?_
    rw [List.length_take]
    have:(zaz S.R).length ≤ S.R.length:=hkl
    omega
   generalize hg:zda S.P (zaz S.R) k = g at hgp hgl
   have hlen:(zs.flatMap rrc).length = zs.length * 2:=zce zho zs
   have hpl:=zp0 hrow
   refine yh Tryz.func55 rfl Tryz.ntmps55 (Nat.le_of_ble_eq_true rfl) hB ?_
   refine Z157 ?_; refine Z267 ?_; refine Z192 ?_; refine Z10 ?_; refine Z140 ?_; refine Z282 ?_; refine Z158 ?_
   refine Z82 ?_; refine Z349 ?_; refine z8 (zq L (vs:=[_, _]) (qm rfl) rfl rfl rfl rfl ⟨_, rfl⟩) rfl ?_; refine z8 (yq (φ:=RsV (zaz S.R) false) L rfl rfl (zk rfl) rfl rfl rfl SlV.mono (fun u H hH hle _ => zgf hzs (by omega) ⟨_, _, _, rfl⟩ hH (hrv.le hle))) rfl ?_; refine Z3 ?_; refine z8 (yq (φ:=RsV g false) L rfl rfl (zk rfl) rfl rfl rfl SlV.mono (fun u H hH hle _ v1 h1 v2 h2 => by rw [← hg]; exact zth hz (Nat.le_trans hkl hR) (by omega) hH h1 h2)) rfl ?_; refine Z88 ?_; refine Z281 ?_
   refine qd (id:=4) [(28, [25]), (100008, [28])] mixed (by kernel_rfl) ?_; refine Z349 ?_; refine z8 (StepOK.turn (zcu L rfl rfl rfl (zh2 rfl) rfl z4f hlen hpl (by omega) (by omega)) (zyh (by omega))) rfl ?_; refine Z215 ?_; refine za2 (zk5 (q:=25) (X:=z4o 2 zs.length _) (fun x => [(0, .slice (some ⟨x.1.1, 0, none⟩) zs.length x.1.2.1), (1, .slice p2 S.P.length c2)]) (fun x => [.slice (some ⟨x.1.1, 0, none⟩) zs.length x.1.2.1, .slice p2 S.P.length c2]) rfl rfl rfl rfl z1n (fun _ => rfl) (fun _ => by rfl)) rfl rfl ?_; refine Z132 ?_; refine za2 (zk4 L (q:=28) rfl (fun _ => by exact ⟨rfl, rfl⟩) rfl rfl rfl rfl rfl) rfl rfl ?_; refine Z149 ?_; refine Z139 ?_
   refine ziz 8 902 rfl fun x => ?_
   obtain ⟨b8, ⟨b25, cap, rest⟩, hcap, _, hfl⟩:=x
   try dsimp only at hcap hfl ⊢
   rw [zn3]
   refine zga 902 903 rfl (zau _) ?_
   refine Z41 ?_; refine Z199 ?_
   refine zai (fun y:Nat => [(4, .own (ze7 [.slice none 0 0, .slice none 0 0] z3q)), (7, .sat (RsV g false)), (8, .is (.pointer (some ⟨b8, 0, none⟩))), (9, .is (.int .i64 y)), (902, .own (zaj b8 [.slice (some ⟨b25, 0, none⟩) zs.length cap, .slice p2 S.P.length c2] z3q)), (903, .own (zaj b25 ((zh0 zs (g.take y)).flatMap rrc ++ rest) z4u))])
    (fun y => y ≤ g.length) (fun y => g.length - y) 0 (Nat.zero_le _) ⟨rfl, rfl, rfl, rfl, rfl, rfl, trivial⟩ ?_
   rintro i hi
   try dsimp only at hi ⊢
   have hzc:=zvg (g.take i) zs
   by_cases hlt:i < g.length
   ·obtain ⟨x, hx⟩:=zae hlt
    have hc:=zjl hx
    have hxp:=hgp x (List.mem_of_getElem? hx)
    obtain ⟨j, rfl⟩:∃ j:Nat, x = ((j + 1:Nat):Int):=⟨(x - 1).toNat, by omega⟩
    have hws:IntKind.u64.wrap (((j + 1:Nat):Int) - 1) = ((j:Nat):Int):=(wrap_u64 (by omega) (by omega)).trans (by omega)
    have hwk:IntKind.i64.wrap ((i:Int) + 1) = ((i + 1:Nat):Int):=zaa (by omega) (by omega)
    obtain ⟨z0, hz0⟩:=zae (show j < (zh0 zs (g.take i)).length by omega)
    have hst:=z2o zho hz0 (none, .slice none 0 0) rest
    have hble:Nat.ble (0 + j * 2 + 2) ((zh0 zs (g.take i)).flatMap rrc ++ rest).length = true:=Nat.ble_eq_true_of_le (by rw [List.length_append, zce zho]; omega)
    have hnx:(zh0 zs (g.take i)).set j (none, .slice none 0 0) = zh0 zs (g.take (i + 1)):=by
     rw [zsj hx]; unfold z0i; congr 1; omega
    rw [hnx] at hst
    refine Z139 ?_; refine Z189 ?_; refine Z194 ?_; refine Z234 ?_
    refine qd (id:=8) [(200036, [902]), (100043, [903])] mixed (by kernel_rfl) ?_; refine Z27 ?_; refine qq (qs L (q:=902) rfl rfl rfl rfl rfl rfl) rfl rfl ?_; refine Z190 ?_; refine z8 (qu L _ rfl rfl rfl rfl rfl rfl rfl (by first | omega | decide) (by assumption)) rfl ?_; refine Z104 ?_; refine Z56 ?_; refine z8 (yu (cs:=[_, _]) rfl rfl z3u rfl rfl) rfl ?_; refine z8 (qf L _ rfl rfl rfl rfl rfl rfl rfl (by omega)) rfl ?_; refine yz (yx L (q:=903) rfl rfl rfl rfl rfl rfl hble rfl hst) rfl ?_; refine Z271 ?_; refine Z200 ?_; refine Z211 ?_
    exact yi (x:=i) (i + 1) hlt (by omega) ⟨rfl, rfl, rfl, rfl, rfl, rfl, trivial⟩
   ·obtain rfl:i = g.length:=by omega
    rw [List.take_length] at hzc ⊢
    refine Z139 ?_; refine Z189 ?_; refine Z265 ?_
    refine zy0 903 rfl fun H2 hs2 _ hb25 => ?_
    refine Z57 ?_; refine yw (zam L (q:=902) (vs:=[_, _]) rfl rfl rfl rfl rfl rfl ⟨_, rfl⟩) ?_; refine Z4 ?_; refine Z18 ?_; refine Z51 ?_; refine Z138 ?_
    refine yd L (rs:=[.cell 4 32, .tmp 5, .tmp 6]) rfl (fun _ _ h => h) hs2 fun u H hH hle => ?_
    have hrw:RwV (zh0 zs g) (.slice (some ⟨b25, 0, none⟩) zs.length cap) H2:=by
     unfold RwV
     rw [hzc]
     refine ⟨by rw [zce zho, hzc], .inr ⟨b25, 0, cap, _, _, _, rfl, hb25, ?_, hcap, fun h => by cases h⟩⟩
     show (((zh0 zs g).flatMap rrc ++ rest).drop 0).take _ = _
     rw [List.drop_zero]
     exact List.take_left
    exact ⟨_, yj rfl, rfl, fun gv hgv => ⟨_, _, rfl, ⟨_, _, rfl, ⟨_, by rw [zkg, hzs], ((hrow.le hs2.le).clrL).le hle, hrw.le hle⟩, (hpv.le hs2.le).le hle⟩, hgv⟩⟩
end Go.V.L10
set_option maxRecDepth 20000
namespace Go.V.L10
open Go.Proofs Go.RowKit Go.V Go.V.L2 Go.V.L8 Go.V.L6
abbrev zzb:TypeId:=34
abbrev z0w:TypeId:=70
def BhG (pb b:Nat) (S:Sto):GR:=GEx (fun x:Value × Value => zab pb [zio b, x.1, x.2] zzb) (fun x H => RlV S.R x.1 H ∧ RsV S.P false x.2 H) fun _ _ _ ⟨h1, h2⟩ hle => ⟨h1.le hle, h2.le hle⟩
theorem zph (pb b:Nat) (S:Sto):(BhG pb b S).res = ExR (fun x:Value × Value => zaj pb [zio b, x.1, x.2] zzb) (fun x H => RlV S.R x.1 H ∧ RsV S.P false x.2 H) (fun _ _ _ ⟨h1, h2⟩ hle => ⟨h1.le hle, h2.le hle⟩):=rfl
abbrev BoG (pb b:Nat) (S:Sto):GR:=zx9 (BhG pb b S) (StG b S)
theorem zpg (pb b:Nat) (S:Sto):(BoG pb b S).res = zgt (BhG pb b S).res (StG b S).res:=rfl
theorem zlk {pb b:Nat} {S:Sto} {lv pv:Value} {B:Heap} (h1:RlV S.R lv B) (h2:RsV S.P false pv B):∀ (v:Value) H u C, B.Le H → (zaj pb [zio b, lv, pv] zzb).P v H u C → (BhG pb b S).res.P v H u C:=fun _ _ _ _ hle h => ⟨(lv, pv), ⟨h1.le hle, h2.le hle⟩, h⟩
theorem zix {b:Nat} {S:Sto} {lv pv:Value} {cs:List Value} {H:Heap} (h:StP (fun c _ => c = [zio b, lv, pv]) (RsS S) 1 2 cs H):∃ lv' pv', cs = [zio b, lv', pv'] ∧ RlV S.R lv' H ∧ RsV S.P false pv' H:=by
 obtain ⟨c, v, rfl, ⟨l2, p2, rfl, h1, h2⟩, rfl⟩:=h
 exact ⟨l2, p2, rfl, h1, h2⟩
theorem zgy {S:Sto} {v:Value} {H:Heap} (h:RsS S v H):(zas v).length = 2 ∧ (zas v).all zbn = true:=by
 obtain ⟨lv, pv, rfl, ⟨zs, _, _, h1⟩, h2⟩:=h
 obtain ⟨p, c, rfl⟩:=zat h1
 obtain ⟨p2, c2, rfl⟩:=zat h2
 exact ⟨rfl, rfl⟩
def OvV (o:OO) (v:Value) (H:Heap):Prop:=∃ mv cv, v = .agg #[.int .u8 o.wh, mv, cv, .int .u8 o.rv, .int .i64 o.kp] ∧ PS3 o.ms false mv H ∧ PS3 o.cs false cv H
structure OOK (o:OO):Prop where
 wh:o.wh ≤ 255
 rv:o.rv ≤ 255
 ms:∀ c ∈ o.ms, c.1 ≤ 255 ∧ c.2.1 ≤ 255 ∧ c.2.2 ≤ 255
 cs:∀ c ∈ o.cs, c.1 ≤ 255 ∧ c.2.1 ≤ 255 ∧ c.2.2 ≤ 255
 lm:o.ms.length ≤ 9223372036854775807
 lc:o.cs.length ≤ 9223372036854775807
theorem OOK.rev {o:OO} (h:OOK o):0 ≤ o.rev ∧ o.rev < 18446744073709551616:=by
 have:=h.rv
 unfold OO.rev
 split <;> omega
attribute [local irreducible] V N X VO Par StepOK Has Ret RetL RetO RetT zb7 zdu RetY Src
theorem rev_ret {o:OO} (ho:OOK o) {mv cv:Value} (hp1:zbn mv = true) (hp2:zbn cv = true) {w:World} {B:Heap} (hB:B.Le (hp w)) :
  Ret Tryz.prog 36 [.agg #[.int .u8 o.wh, mv, cv, .int .u8 o.rv, .int .i64 o.kp]] w B (fun v _ => v = .int .u64 o.rev):=by
 have hrv:=ho.rv
 unfold OO.rev
 refine yh Tryz.func36 rfl Tryz.ntmps36 (Nat.le_of_ble_eq_true rfl) hB ?_
 by_cases h:o.rv = 255
 ·rw [if_pos h]
  refine Z325 ?_; refine Z184 ?_; refine Z25 ?_; refine Z324 ?_
  refine yd L (rs:=[.tmp 2]) rfl (fun _ _ h => h) Since.refl fun u H hH hle => ?_
  rfl
 ·rw [if_neg h]
  have hwu:IntKind.u64.wrap (o.rv:Int) = (o.rv:Int):=wrap_u64 (by omega) (by omega)
  refine Z325 ?_; refine Z184 ?_; refine Z236 ?_; refine Z313 ?_; refine z7 (za5 rfl rfl rfl zys.1 zys.2 (wrap_u64 (by omega) (by omega))) rfl ?_; refine Z138 ?_
  refine yd L (rs:=[.tmp 2]) rfl (fun _ _ h => h) Since.refl fun u H hH hle => ?_
  rfl
end Go.V.L10
set_option maxRecDepth 20000
namespace Go.V.L10
open Go.Proofs Go.RowKit Go.V Go.V.L2 Go.V.L8 Go.V.L6
abbrev z5l:Nat:=23
abbrev Cl10S (S:Sto) (g:List Int) (e:Int):Value → Heap → Prop:=TupS [RsS S, RsV g false, fun v _ => v = .int .i64 e]
theorem Cl10S.mono {S:Sto} {g:List Int} {e:Int}:Kn.mono (.sat (Cl10S S g e)):=TupS.mono fun ψ hψ => by
 simp only [List.mem_cons, List.mem_nil_iff, or_false] at hψ
 rcases hψ with rfl | rfl | rfl
 ·exact RsS.mono
 ·exact SlV.mono
 ·exact fun _ _ _ h _ => h
theorem Cl10P.tup {S:Sto} {g:List Int} {e:Int} {v:Value} {H:Heap} (h:Cl10P S g e v H):Cl10S S g e v H:=by
 obtain ⟨a, b, rfl, h1, h2⟩:=h
 refine ⟨[a, b, .int .i64 e], rfl, rfl, fun i ψ x hi hx => ?_⟩
 rcases i with _ | _ | _ | i
 ·cases hi; cases hx; exact h1
 ·cases hi; cases hx; exact h2
 ·cases hi; cases hx; rfl
 ·cases hi
attribute [local irreducible] V N X VO Par StepOK Has Ret RetL RetO RetT zb7 zdu RetY Src
set_option maxHeartbeats 4000000 in
set_option maxRecDepth 20000 in
theorem z2t {S:Sto} {n pb b:Nat} {o:OO} (hj:JJ n S) (hn:n ≤ 100) (ho:OOK o) {ov:Value} {w:World} {B:Heap} {C:Nat → Prop} (hB:B.Le (hp w)) (hov:OvV o ov B) (hr:(BoG pb b S).P B w C) (hC:∀ k, C k → k < w.heap.size ∧ B k = none) :
  RetY Tryz.prog z5l [zio pb, ov] w B C (BoG pb b (doS S o)) (fun v _ => v = .int .i64 1):=by
 obtain ⟨mv, cv, rfl, hmv, hcv⟩:=hov
 obtain ⟨p1, c1, rfl⟩:=zat hmv
 obtain ⟨p2, c2, rfl⟩:=zat hcv
 have hI:=hj.I hn
 have hne:=hj.ne
 have hR:=hj.hR
 have hP:=hj.hP
 have hem:Int.tmod ((o.wh:Nat):Int) 8 = ((o.wh % 8:Nat):Int):=rfl
 have hrev:=ho.rev
 unfold RetY
 refine zap 900 (BoG pb b S) Tryz.func23 rfl Tryz.ntmps23 (Nat.le_of_ble_eq_true rfl) hB hr hC ?_
 rw [zpg]
 refine zga 900 901 rfl (zau _) ?_
 rw [zph]
 refine zc5 900 rfl fun x H hs0 hφ => ?_
 obtain ⟨lv, pv⟩:=x
 obtain ⟨hl, hpv⟩:=hφ
 dsimp only at hl hpv ⊢
 replace hmv:=hmv.le hs0.le
 replace hcv:=hcv.le hs0.le
 have hss:RsS S (.agg #[lv, pv]) H:=⟨lv, pv, rfl, hl, hpv⟩
 have hk8:o.wh % 8 < 8:=Nat.mod_lt _ (by omega)
 unfold doS
 generalize o.wh % 8 = k at hem hk8 ⊢
 refine Z299 ?_; refine Z143 ?_; refine Z29 ?_; refine Z147 ?_; refine Z313 ?_; refine Z79 ?_; refine Z276 ?_; refine Z139 ?_
 refine ze2 (fun _:Unit => [(0, .is (zio pb)), (3, .sat (At [.int .u8 o.wh, .slice p1 o.ms.length c1, .slice p2 o.cs.length c2, .int .u8 o.rv, .int .i64 o.kp] z0w 0)), (4, .is (.int .i64 0)), (5, .is (.int .i64 0)), (6, .is (.int .i64 0)), (13, .is (.int .u8 k)), (49, .is (.bool (decide (k < 4)))), (900, .own (zaj pb [zio b, lv, pv] zzb)), (901, .own (StG b S).res)]) (fun _ => True) (fun _ => []) ?two ?one
 case one =>
  by_cases h0:k = 0
  ·subst h0
   refine Z57 ?_; refine Z318 ?_; refine zw ?_
   exact za4 () Since.refl trivial rfl ⟨rfl, rfl, rfl, rfl, rfl, rfl, rfl, rfl, rfl, trivial⟩
  ·by_cases h1:k = 1
   ·subst h1
    refine Z57 ?_; refine Z240 ?_; refine Z68 ?_; refine Z318 ?_; refine zw ?_
    exact za4 () Since.refl trivial rfl ⟨rfl, rfl, rfl, rfl, rfl, rfl, rfl, rfl, rfl, trivial⟩
   ·by_cases h2:k = 2
    ·subst h2
     refine Z57 ?_; refine Z240 ?_; refine Z68 ?_; refine Z370 ?_; refine Z318 ?_; refine zw ?_
     exact za4 () Since.refl trivial rfl ⟨rfl, rfl, rfl, rfl, rfl, rfl, rfl, rfl, rfl, trivial⟩
    ·by_cases h3:k = 3
     ·subst h3
      refine Z57 ?_; refine Z240 ?_; refine Z68 ?_; refine Z370 ?_; refine Z346 ?_; refine Z83 ?_; refine Z25 ?_; refine Z153 ?_
      exact za4 () Since.refl trivial rfl ⟨rfl, rfl, rfl, rfl, rfl, rfl, rfl, rfl, rfl, trivial⟩
     ·refine Z57 ?_; refine Z240 ?_; refine Z68 ?_; refine Z370 ?_; refine Z346 ?_; refine Z83 ?_; refine Z13 ?_; refine Z153 ?_
      rw [decide_eq_false (show ¬ k < 4 by omega)]
      exact za4 () Since.refl trivial rfl ⟨rfl, rfl, rfl, rfl, rfl, rfl, rfl, rfl, rfl, trivial⟩
 rintro _ _
 by_cases h4:k < 4
 ·rw [decide_eq_true h4]
  obtain ⟨⟨S', rev, e⟩, hw⟩:∃ x, zdy S (dOf o.ms) (dOf o.cs) = x:=⟨_, rfl⟩
  rw [if_pos h4, hw]
  dsimp only
  have hm1:=RsS.mono (S:=S')
  refine Z12 ?_; refine Z377 ?_; refine Z197 ?_
  refine qd (id:=14) [(200058, [900]), (65, [901])] mixed (by kernel_rfl) ?_; refine Z181 ?_; refine Z77 ?_; refine Z46 ?_; refine z8 (zq L (vs:=[_]) (qm rfl) rfl rfl rfl rfl ⟨_, rfl⟩) rfl ?_; refine z8 (yq (φ:=KS tyM (dOf o.ms) false) L rfl rfl (zk rfl) rfl rfl rfl SlV.mono (fun u H hH hle _ => zuo rfl ho.ms ho.lm hH (hmv.le hle))) rfl ?_; refine Z46 ?_; refine z8 (zq L (vs:=[_]) (qm rfl) rfl rfl rfl rfl ⟨_, rfl⟩) rfl ?_; refine z8 (yq (φ:=KS tyC (dOf o.cs) false) L rfl rfl (zk rfl) rfl rfl rfl SlV.mono (fun u H hH hle _ => zpb rfl ho.cs ho.lc hH (hcv.le hle))) rfl ?_; refine za2 (zag L 901 (StG b S') (.tuple #[.int .u64 rev, .int .i64 e]) (r:=StG b S) rfl rfl rfl rfl rfl (fun u H2 C2 hH hle hr2 hC2 v1 h1 v2 h2 => zdm (zej hI (by omega) hne (zqx _) (zqx _) (Nat.le_trans (zhz _) (by omega)) (Nat.le_trans (zhz _) (by omega)) hw hH h1 h2 hr2 hC2))) rfl rfl ?_; refine Z3 ?_; refine z8 (qk rfl rfl rfl rfl) rfl ?_; refine z8 (qk rfl rfl rfl rfl) rfl ?_; refine Z365 ?_
  refine qd (id:=15) [(200073, [900]), (100085, [900])] mixed (by kernel_rfl) ?_; refine Z145 ?_; refine Z169 ?_; refine qq (zam L (q:=900) (vs:=[_, _]) rfl rfl rfl rfl rfl rfl ⟨_, rfl⟩) rfl rfl ?_; refine Z46 ?_; refine z8 (zq L (vs:=[_]) (qm rfl) rfl rfl rfl rfl ⟨_, rfl⟩) rfl ?_; refine z8 (yq (φ:=KS tyM (dOf o.ms) false) L rfl rfl (zk rfl) rfl rfl rfl SlV.mono (fun u H hH hle _ => zuo rfl ho.ms ho.lm hH (hmv.le hle))) rfl ?_; refine Z46 ?_; refine z8 (zq L (vs:=[_]) (qm rfl) rfl rfl rfl rfl ⟨_, rfl⟩) rfl ?_; refine z8 (yq (φ:=KS tyC (dOf o.cs) false) L rfl rfl (zk rfl) rfl rfl rfl SlV.mono (fun u H hH hle _ => zpb rfl ho.cs ho.lc hH (hcv.le hle))) rfl ?_; refine z8 (yq (φ:=Wr10P S' rev e) L rfl rfl (zk rfl) rfl rfl rfl Wr10P.mono (fun u H hH hle _ v1 h1 v2 h2 => zna hI (by omega) hne hj.ss (zqx _) (zqx _) (Nat.le_trans (zhz _) (by omega)) (Nat.le_trans (zhz _) (by omega)) hw hH (hss.le hle) h1 h2)) rfl ?_; refine Z387 ?_; refine Z110 ?_; refine Z110 ?_; refine Z169 ?_; refine yz (zfy L (q:=900) RsS.mono rfl rfl rfl rfl rfl (fun _ _ h => zgy h) (Nat.le_of_ble_eq_true rfl)) rfl ?_; refine Z365 ?_
  refine zc5 900 rfl fun cs' H1 hs1 hφ => ?_
  obtain ⟨lv', pv', rfl, hl', hpv'⟩:=zix hφ
  refine Z99 ?_; refine Z140 ?_; refine Z22 ?_; refine Z218 ?_; refine Z139 ?_; refine Z321 ?_; refine Z227 ?_; refine zf (id:=27) ?_; refine Z138 ?_
  refine zct 900 (BhG pb b S').res rfl (zlk hl' hpv') ?_
  refine zb1 900 901 rfl rfl (zau (StG b S')) ?_
  exact zb0 L 900 (r:=BoG pb b S') (rs:=[.tmp 4]) rfl (fun _ _ h => h) (hs0.trans hs1) rfl rfl (fun H hle => rfl)
 ·rw [decide_eq_false h4, if_neg h4]
  refine Z9 ?_
  refine zh ?_
  refine zh ?_
  refine ze2 (fun _:Unit => [(0, .is (zio pb)), (3, .sat (At [.int .u8 o.wh, .slice p1 o.ms.length c1, .slice p2 o.cs.length c2, .int .u8 o.rv, .int .i64 o.kp] z0w 0)), (4, .is (.int .i64 0)), (5, .is (.int .i64 0)), (6, .is (.int .i64 0)), (13, .is (.int .u8 k)), (89, .is (.bool (decide (k < 6)))), (900, .own (zaj pb [zio b, lv, pv] zzb)), (901, .own (StG b S).res)]) (fun _ => True) (fun _ => []) ?two2 ?one2
  case one2 =>
   by_cases h5:k = 4
   ·subst h5
    refine Z100 ?_; refine Z318 ?_; refine zw ?_
    exact za4 () Since.refl trivial rfl ⟨rfl, rfl, rfl, rfl, rfl, rfl, rfl, rfl, rfl, trivial⟩
   ·by_cases h6:k = 5
    ·subst h6
     refine Z100 ?_; refine Z346 ?_; refine Z116 ?_; refine Z25 ?_; refine Z153 ?_
     exact za4 () Since.refl trivial rfl ⟨rfl, rfl, rfl, rfl, rfl, rfl, rfl, rfl, rfl, trivial⟩
    ·refine Z100 ?_; refine Z346 ?_; refine Z116 ?_; refine Z13 ?_; refine Z153 ?_
     rw [decide_eq_false (show ¬ k < 6 by omega)]
     exact za4 () Since.refl trivial rfl ⟨rfl, rfl, rfl, rfl, rfl, rfl, rfl, rfl, rfl, trivial⟩
  rintro _ _
  by_cases h6:k < 6
  ·rw [decide_eq_true h6, if_pos h6]
   obtain ⟨⟨S', e⟩, hw⟩:∃ x, zkp S o.rev false = x:=⟨_, rfl⟩
   rw [hw]
   dsimp only
   have hm1:=RsS.mono (S:=S')
   refine Z12 ?_; refine zh ?_; refine qd (id:=20) [(200095, [900]), (98, [901])] mixed (by kernel_rfl) ?_; refine Z181 ?_; refine Z77 ?_; refine z8 (zq L (vs:=[_, _, _, _, _]) (qm rfl) rfl rfl rfl rfl ⟨_, rfl⟩) rfl ?_; refine z8 (zp L rfl rfl (zk rfl) rfl rfl rfl (fun u H hH _ _ => rev_ret ho rfl rfl hH)) rfl ?_; refine za2 (zag L 901 (StG b S') (.int .i64 e) (r:=StG b S) rfl rfl rfl rfl rfl (fun u H2 C2 hH hle hr2 hC2 => zdm (zls hne (by omega) hw hH hr2 hC2))) rfl rfl ?_; refine Z177 ?_
   refine qd (id:=21) [(200104, [900]), (100111, [900])] mixed (by kernel_rfl) ?_; refine Z145 ?_; refine Z169 ?_; refine qq (zam L (q:=900) (vs:=[_, _]) rfl rfl rfl rfl rfl rfl ⟨_, rfl⟩) rfl rfl ?_; refine z8 (zq L (vs:=[_, _, _, _, _]) (qm rfl) rfl rfl rfl rfl ⟨_, rfl⟩) rfl ?_; refine z8 (zp L rfl rfl (zk rfl) rfl rfl rfl (fun u H hH _ _ => rev_ret ho rfl rfl hH)) rfl ?_; refine z8 (yq (φ:=Pn10P S' e) L rfl rfl (zk rfl) rfl rfl rfl Pn10P.mono (fun u H hH hle _ => zk2 (by omega) hrev.1 hrev.2 (by omega) hj.pos hw hH (hss.le hle))) rfl ?_; refine Z387 ?_; refine Z110 ?_; refine Z169 ?_; refine yz (zfy L (q:=900) RsS.mono rfl rfl rfl rfl rfl (fun _ _ h => zgy h) (Nat.le_of_ble_eq_true rfl)) rfl ?_; refine Z36 ?_; refine Z271 ?_; refine Z139 ?_
   refine zc5 900 rfl fun cs' H1 hs1 hφ => ?_
   obtain ⟨lv', pv', rfl, hl', hpv'⟩:=zix hφ
   refine Z321 ?_; refine Z227 ?_; refine zf (id:=27) ?_; refine Z138 ?_
   refine zct 900 (BhG pb b S').res rfl (zlk hl' hpv') ?_
   refine zb1 900 901 rfl rfl (zau (StG b S')) ?_
   exact zb0 L 900 (r:=BoG pb b S') (rs:=[.tmp 4]) rfl (fun _ _ h => h) (hs0.trans hs1) rfl rfl (fun H hle => rfl)
  ·rw [decide_eq_false h6, if_neg h6]
   by_cases h7:k = 6
   ·rw [if_pos h7]
    refine Z9 ?_; refine zh ?_; refine zf (id:=22) ?_; refine Z318 ?_; refine zh ?_
    obtain ⟨⟨S', e⟩, hw⟩:∃ x, zkp S o.rev true = x:=⟨_, rfl⟩
    rw [hw]
    dsimp only
    have hm1:=RsS.mono (S:=S')
    refine qd (id:=23) [(200117, [900]), (120, [901])] mixed (by kernel_rfl) ?_; refine Z181 ?_; refine Z77 ?_; refine z8 (zq L (vs:=[_, _, _, _, _]) (qm rfl) rfl rfl rfl rfl ⟨_, rfl⟩) rfl ?_; refine z8 (zp L rfl rfl (zk rfl) rfl rfl rfl (fun u H hH _ _ => rev_ret ho rfl rfl hH)) rfl ?_; refine za2 (zag L 901 (StG b S') (.int .i64 e) (r:=StG b S) rfl rfl rfl rfl rfl (fun u H2 C2 hH hle hr2 hC2 => zdm (zhn hne (by omega) hw hH hr2 hC2))) rfl rfl ?_; refine Z177 ?_
    refine qd (id:=24) [(200126, [900]), (100133, [900])] mixed (by kernel_rfl) ?_; refine Z145 ?_; refine Z169 ?_; refine qq (zam L (q:=900) (vs:=[_, _]) rfl rfl rfl rfl rfl rfl ⟨_, rfl⟩) rfl rfl ?_; refine z8 (zq L (vs:=[_, _, _, _, _]) (qm rfl) rfl rfl rfl rfl ⟨_, rfl⟩) rfl ?_; refine z8 (zp L rfl rfl (zk rfl) rfl rfl rfl (fun u H hH _ _ => rev_ret ho rfl rfl hH)) rfl ?_; refine z8 (yq (φ:=Pn10P S' e) L rfl rfl (zk rfl) rfl rfl rfl Pn10P.mono (fun u H hH hle _ => zk2 (by omega) hrev.1 hrev.2 (by omega) hj.pos hw hH (hss.le hle))) rfl ?_; refine Z387 ?_; refine Z110 ?_; refine Z169 ?_; refine yz (zfy L (q:=900) RsS.mono rfl rfl rfl rfl rfl (fun _ _ h => zgy h) (Nat.le_of_ble_eq_true rfl)) rfl ?_; refine Z36 ?_; refine Z271 ?_; refine Z139 ?_
    refine zc5 900 rfl fun cs' H1 hs1 hφ => ?_
    obtain ⟨lv', pv', rfl, hl', hpv'⟩:=zix hφ
    refine Z321 ?_; refine Z227 ?_; refine zf (id:=27) ?_; refine Z138 ?_
    refine zct 900 (BhG pb b S').res rfl (zlk hl' hpv') ?_
    refine zb1 900 901 rfl rfl (zau (StG b S')) ?_
    exact zb0 L 900 (r:=BoG pb b S') (rs:=[.tmp 4]) rfl (fun _ _ h => h) (hs0.trans hs1) rfl rfl (fun H hle => rfl)
   ·rw [if_neg h7]
    refine Z9 ?_; refine zh ?_; refine zf (id:=22) ?_; refine Z240 ?_
    obtain ⟨⟨S', g, e⟩, hw⟩:∃ x, zc4 S o.kp = x:=⟨_, rfl⟩
    rw [hw]
    dsimp only
    have hm1:=RsS.mono (S:=S')
    have hm2:Kn.mono (.sat (RsV g true)):=SlV.mono
    have hm3:Kn.mono (.sat (RsV g false)):=SlV.mono
    have hgl:g.length ≤ 100000:=by
     have h1:=congrArg (fun x => x.2.1.length) hw
     dsimp only at h1
     rw [← h1]
     unfold zc4
     split
     ·refine Nat.le_trans (List.length_filter_le ..) ?_
      rw [List.length_take]
      have:=zed S.R
      omega
     ·exact Nat.zero_le _
    refine Z30 ?_; refine Z197 ?_
    refine qd (id:=5) [(200018, [900]), (21, [901])] mixed (by kernel_rfl) ?_; refine Z181 ?_; refine Z77 ?_; refine Z215 ?_; refine za2 (zg1 L 901 (StG b S') (zvx g e) (r:=StG b S) rfl rfl rfl rfl rfl (zfh SlV.mono) (fun u H2 C2 hH hle hr2 hC2 => by have h:=zd7 (keep:=o.kp) hne (by omega) (by omega) hH hr2 hC2; rw [hw] at h; exact h)) rfl rfl ?_; refine Z387 ?_; refine Z110 ?_; refine Z88 ?_; refine Z243 ?_
    refine qd (id:=6) [(200029, [900]), (100037, [900])] mixed (by kernel_rfl) ?_; refine Z145 ?_; refine Z169 ?_; refine qq (zam L (q:=900) (vs:=[_, _]) rfl rfl rfl rfl rfl rfl ⟨_, rfl⟩) rfl rfl ?_; refine Z215 ?_; refine z8 (yq (φ:=Cl10S S' g e) L rfl rfl (zk rfl) rfl rfl rfl Cl10S.mono (fun u H hH hle _ => Ret.mono (by have h:=zko (keep:=o.kp) hne (by omega) (by omega) hH (hss.le hle); rw [hw] at h; exact h) fun v H' _ h => Cl10P.tup h)) rfl ?_; refine Z387 ?_; refine Z95 ?_; refine Z110 ?_; refine Z169 ?_; refine yz (zfy L (q:=900) RsS.mono rfl rfl rfl rfl rfl (fun _ _ h => zgy h) (Nat.le_of_ble_eq_true rfl)) rfl ?_; refine Z88 ?_; refine Z243 ?_
    refine zc5 900 rfl fun cs' H1 hs1 hφ => ?_
    obtain ⟨lv', pv', rfl, hl', hpv'⟩:=zix hφ
    refine Z43 ?_; refine Z367 ?_; refine z7 (zp L rfl rfl (zk rfl) rfl rfl rfl (fun u H hH hle _ v1 h1 v2 h2 => zgz (f:=true) (decide_eq_true rfl) hgl hgl hH h1 h2)) rfl ?_; refine Z130 ?_; refine Z1 ?_; refine Z4 ?_; refine z7 (zzz L rfl rfl rfl rfl) rfl ?_; refine Z150 ?_; refine Z22 ?_; refine Z8 ?_; refine Z218 ?_; refine Z139 ?_; refine Z321 ?_; refine Z227 ?_; refine zf (id:=27) ?_; refine Z138 ?_
    refine zct 900 (BhG pb b S').res rfl (zlk hl' hpv') ?_
    refine zb1 900 901 rfl rfl (zau (StG b S')) ?_
    exact zb0 L 900 (r:=BoG pb b S') (rs:=[.tmp 4]) rfl (fun _ _ h => h) (hs0.trans hs1) rfl rfl (fun H hle => rfl)
end Go.V.L10
set_option maxRecDepth 20000
namespace Go.V.L10
open Go.Proofs Go.RowKit Go.V Go.V.L2 Go.V.L8 Go.V.L6
theorem z1h {R:List (Option (List U))} {lv:Value} {H:Heap} (h:RlV R lv H):∃ p c, lv = .slice p R.length c:=by
 obtain ⟨zs, h1, _, h3⟩:=h
 obtain ⟨p, c, h4⟩:=zat h3
 rw [← h1, List.length_map]
 exact ⟨p, c, h4⟩
abbrev z5m (S:Sto):Res:=zpl (fun p:Nat × Nat => zio p.1) fun p => BoG p.1 p.2 S
attribute [local irreducible] V N X VO Par StepOK Has Ret RetL RetO RetT zb7 zdu RetY Src
theorem zwy {w:World} {B:Heap} (hB:B.Le (hp w)):RetO Tryz.prog 10 [] w B (z5m newS):=by
 refine zee Tryz.func10 rfl Tryz.ntmps10 (Nat.le_of_ble_eq_true rfl) hB ?_
 refine Z186 ?_; refine z7 (zea L rfl rfl (zk rfl) rfl rfl rfl (fun u H hH hle _ => zpw hH)) rfl ?_; refine zss 1 901 rfl fun b => ?_; refine z7 (yq (φ:=RsS newS) L rfl rfl (zk rfl) rfl rfl rfl RsS.mono (fun u H hH hle _ => zrl hH)) rfl ?_; refine zbu 2 rfl fun v1 H1 hs1 hv1 => ?_; obtain ⟨lv, pv, rfl, h1, h2⟩:=hv1; obtain ⟨p1, c1, rfl⟩:=z1h h1; obtain ⟨p2, c2, rfl⟩:=zat h2; refine z7 (yu (cs:=[_, _, _]) rfl rfl z5b rfl rfl) rfl ?_; refine Z105 ?_; refine ql (yl (.inr rfl) rfl rfl rfl rfl) ?_; refine Z137 ?_
 refine zq8 0 900 rfl fun pb => ?_
 refine zct 900 (BhG pb b newS).res rfl (zlk h1 h2) ?_
 refine zb1 900 901 rfl rfl (zau (StG b newS)) ?_
 refine zq7 0 900 (fun p:Nat × Nat => zio p.1) (fun p => BoG p.1 p.2 newS) (pb, b) rfl rfl ?_
 exact zid rfl (fun _ _ h => h) hs1 rfl
end Go.V.L10
set_option maxRecDepth 20000
namespace Go.V.L10
open Go.Proofs Go.RowKit Go.V Go.V.L2 Go.V.L8 Go.V.L6
theorem zjf {S:Sto} {b:Nat} {r:Int} (hn:S.R.length ≠ 0) {w:World} {B:Heap} {C:Nat → Prop} (hB:B.Le (hp w)) (hr:(StG b S).P B w C) (hC:∀ k, C k → k < w.heap.size ∧ B k = none) :
  RetY Tryz.prog 13 [zio b, .int .u64 r] w B C (StG b S) (WithP (atS S r).1 (atS S r).2) :=
 RetY.ex hr fun _ ⟨hm, hes, _⟩ hr => zgu hm hn hes hB hr hC
theorem zm7 {S:Sto} {b:Nat} (hn:S.R.length ≠ 0) (hz:(zaz S.R).length ≤ 100000) {w:World} {B:Heap} {C:Nat → Prop} (hB:B.Le (hp w)) (hr:(StG b S).P B w C) (hC:∀ k, C k → k < w.heap.size ∧ B k = none) :
  RetY Tryz.prog 12 [zio b] w B C (StG b S) (RsV (zaz S.R) true) :=
 RetY.ex hr fun _ ⟨hm, _, _⟩ hr => (zqo hm hn (by rw [hm.len]; exact hz) hB hr hC).pubY zmb
theorem zqi {b:Nat} {S:Sto}:∀ v H u C, (StG b S).res.P v H u C → ∃ m s, (∃ p k c, s = .slice p k c) ∧ joinH H u C b = some (.cells (stc S.R.length m s S.P.length).toArray tyS):=fun v H u C ⟨⟨m, s, es⟩, ⟨_, _, hp⟩, h⟩ => by
 obtain ⟨p, c, rfl⟩:=zat hp
 exact ⟨m, _, ⟨_, _, _, rfl⟩, zis v H u C h⟩
attribute [local irreducible] V N X VO Par StepOK Has Ret RetL RetO RetT zb7 zdu RetY Src
abbrev s1:Sto:=⟨[some [], some [d0]], []⟩
abbrev s2:Sto:=⟨[some [], some [d0], some [d2]], []⟩
abbrev s3:Sto:=⟨[some [], some [d0], some [d2]], [2]⟩
abbrev s4:Sto:=⟨[none, some [d0], some [d2]], [2]⟩
abbrev s5:Sto:=⟨[none, some [d0], some [d2], some [d2]], [2]⟩
abbrev s6:Sto:=⟨[none, some [d0], some [d2], some [d2]], []⟩
abbrev s7:Sto:=⟨[none, none, none, some [d2]], []⟩
theorem z2e:zdy newS [] [(d0, false)] = (s1, 2, 0):=by kernel_rfl
theorem z2d:zdy s1 [(d0, false)] [(d2, false), (d0, true)] = (s2, 3, 0):=by kernel_rfl
theorem z34:zdy s2 [(d0, false)] [] = (s2, 0, 13):=by kernel_rfl
theorem z38:atS s2 2 = ([d0], 0):=by kernel_rfl
theorem z4a:atS s2 0 = ([d2], 0):=by kernel_rfl
theorem z37:atS s2 4 = ([], 14):=by kernel_rfl
theorem z4x:zkp s2 2 false = (s3, 0):=by kernel_rfl
theorem z2h:zc4 s3 1 = (s4, [1], 0):=by kernel_rfl
theorem z5f:zaz s4.R = [2, 3]:=by kernel_rfl
theorem z39:atS s4 1 = ([], 14):=by kernel_rfl
theorem z2c:zdy s4 [] [] = (s5, 4, 0):=by kernel_rfl
theorem z2f:zkp s5 2 true = (s6, 0):=by kernel_rfl
theorem z35:zkp s6 2 true = (s6, 8):=by kernel_rfl
theorem z2g:zc4 s6 1 = (s7, [2, 3], 0):=by kernel_rfl
theorem z5g:zqw s7 4 0 = ([], 0):=by kernel_rfl
theorem z36:zc4 s7 0 = (s7, [], 4):=by kernel_rfl
theorem z5e:zkp s7 0 false = (s7, 14):=by kernel_rfl
theorem z4b {n:Nat} {S S':Sto} {l cs:List CH} {r e:Int} (h:JJ n S) (hn:n ≤ 100) (hc:∀ c ∈ cs, TZ c.1 ∧ tE c.1 = 0) (hl:cs.length ≤ 30) (hw:zdy S l cs = (S', r, e)):JJ (n + 1) S':=by
 have h1:=zqp h hn (l:=l) hc hl
 rw [hw] at h1
 exact h1
theorem z4y {n:Nat} {S S':Sto} {r e:Int} {un:Bool} (h:JJ n S) (hw:zkp S r un = (S', e)):JJ (n + 1) S':=by
 have h1:=zu4 h r un
 rw [hw] at h1
 exact h1
theorem z4z {n:Nat} {S S':Sto} {k e:Int} {g:List Int} (h:JJ n S) (hw:zc4 S k = (S', g, e)):JJ (n + 1) S':=by
 have h1:=zu6 h k
 rw [hw] at h1
 exact h1
set_option maxHeartbeats 8000000 in
set_option maxRecDepth 20000 in
theorem zo2 {w:World} {B:Heap} (hB:B.Le (hp w)):Ret Tryz.prog 17 [] w B (fun v _ => v = .bool true):=by
 have p0:ptA ⟨#[100, 111, 99, 58, 97, 35, 118, 105, 101, 119, 101, 114, 64, 117, 115, 101, 114, 58, 120]⟩ = (d0, 0):=by decide +kernel
 have p2:ptA ⟨#[100, 111, 99, 58, 98, 35, 118, 105, 101, 119, 101, 114, 64, 117, 115, 101, 114, 58, 120]⟩ = (d2, 0):=by decide +kernel
 have z0:TZ d0:=zye (by decide)
 have z2:TZ d2:=zye (by decide)
 have m0:=zy9 z0
 have m2:=zy9 z2
 have e0:tE d0 = 0:=by decide +kernel
 have e2:tE d2 = 0:=by decide +kernel
 have all:∀ l:List CH, (∀ c ∈ l, c.1 = d0 ∨ c.1 = d2) → ∀ c ∈ l, TM c.1:=fun l h c hc => by
  rcases h c hc with e | e
  ·rw [e]; exact m0
  ·rw [e]; exact m2
 have ok:∀ l:List CH, (∀ c ∈ l, c.1 = d0 ∨ c.1 = d2) → ∀ c ∈ l, TZ c.1 ∧ tE c.1 = 0:=fun l h c hc => by
  rcases h c hc with e | e
  ·rw [e]; exact ⟨z0, e0⟩
  ·rw [e]; exact ⟨z2, e2⟩
 have j0:=zu5
 have j1:=z4b j0 (by decide) (ok _ (by simp)) (by decide) z2e
 have j2:=z4b j1 (by decide) (ok _ (by simp)) (by decide) z2d
 have j3:=z4y j2 z4x
 have j4:=z4z j3 z2h
 have j5:=z4b j4 (by decide) (ok _ (by simp)) (by decide) z2c
 have j6:=z4y j5 z2f
 have j7:=z4z j6 z2g
 have k1:Kn.mono (.sat (RsV [1] true)):=SlV.mono
 have k2:Kn.mono (.sat (RsV [2, 3] true)):=SlV.mono
 have k3:Kn.mono (.sat (RsV [] true)):=SlV.mono
 have k4:Kn.mono (.sat (KS tyC [] true)):=SlV.mono
 refine yh Tryz.func17 rfl Tryz.ntmps17 (Nat.le_of_ble_eq_true rfl) hB ?_
 refine Z186 ?_; refine z7 (zp L rfl rfl (zk rfl) rfl rfl rfl (fun u H hH _ _ => zjj p0 (Nat.le_of_ble_eq_true rfl) hH)) rfl ?_; refine Z173 ?_; refine Z202 ?_; refine Z143 ?_; refine Z29 ?_; refine z7 (zp L rfl rfl (zk rfl) rfl rfl rfl (fun u H hH _ _ => zjj p2 (Nat.le_of_ble_eq_true rfl) hH)) rfl ?_; refine Z173 ?_; refine Z202 ?_; refine Z143 ?_; refine Z28 ?_; refine z7 (zq L (vs:=[_, _, _, _, _, _]) (yj rfl) rfl rfl rfl rfl ⟨_, rfl⟩) rfl ?_; refine z7 (yu (cs:=[_, _, _, _, _, _, _]) rfl rfl z1r rfl rfl) rfl ?_; refine Z32 ?_; refine Z362 ?_; refine Z30 ?_; refine z7 (zea L rfl rfl (zk rfl) rfl rfl rfl (fun u H hH hle _ => zpw hH)) rfl ?_; refine ql (yl (.inr rfl) rfl rfl rfl rfl) ?_; refine Z159 ?_
 refine ziz 6 900 rfl fun b => ?_
 refine Z179 ?_; refine z7 (zq L (vs:=[_, _, _, _, _, _]) (yj rfl) rfl rfl rfl rfl ⟨_, rfl⟩) rfl ?_; refine z7 (yu (cs:=[_, _, _, _, _, _, _]) rfl rfl zou rfl rfl) rfl ?_; refine Z32 ?_; refine ql (zag L 900 (StG b s1) (.tuple #[.int .u64 2, .int .i64 0]) (r:=StG b newS) rfl rfl rfl rfl rfl (fun u H2 C2 hH hle hr2 hC2 v1 h1 => zdm (zej (l:=[]) (cs:=[(d0, false)]) (j0.I (by decide)) (by decide) j0.ne (all _ (by simp)) (all _ (by simp)) (by decide) (by decide) z2e hH (SlV.nil (fu:=false)) (h1.toV (n:=1) rfl) hr2 hC2))) ?_; refine Z237 ?_
 refine Z189 ?_; refine Z4 ?_; refine z7 (zq L (vs:=[_, _, _, _, _, _]) (yj rfl) rfl rfl rfl rfl ⟨_, rfl⟩) rfl ?_; refine z7 (yu (cs:=[_, _, _, _, _, _, _]) rfl rfl zou rfl rfl) rfl ?_; refine z7 (zq L (vs:=[_, _, _, _, _, _]) (yj rfl) rfl rfl rfl rfl ⟨_, rfl⟩) rfl ?_; refine z7 (yu (cs:=[_, _, _, _, _, _, _]) rfl rfl zou rfl rfl) rfl ?_; refine Z32 ?_; refine ql (zag L 900 (StG b s2) (.tuple #[.int .u64 3, .int .i64 0]) (r:=StG b s1) rfl rfl rfl rfl rfl (fun u H2 C2 hH hle hr2 hC2 v1 h1 v2 h2 => zdm (zej (l:=[(d0, false)]) (cs:=[(d2, false), (d0, true)]) (j1.I (by decide)) (by decide) j1.ne (all _ (by simp)) (all _ (by simp)) (by decide) (by decide) z2d hH (h1.toV (n:=1) rfl) (h2.toV (n:=2) rfl) hr2 hC2))) ?_; refine Z237 ?_
 refine Z200 ?_; refine Z4 ?_; refine ql (zag L 900 (StG b s2) (.tuple #[.int .u64 0, .int .i64 13]) (r:=StG b s2) rfl rfl rfl rfl rfl (fun u H2 C2 hH hle hr2 hC2 v1 h1 => zdm (zej (l:=[(d0, false)]) (cs:=[]) (j2.I (by decide)) (by decide) j2.ne (all _ (by simp)) (all _ (by simp)) (by decide) (by decide) z34 hH (h1.toV (n:=1) rfl) (SlV.nil (fu:=false)) hr2 hC2))) ?_; refine Z237 ?_
 refine Z219 ?_; refine yw (zbp L 900 (WithP [d0] 0) (r:=StG b s2) rfl rfl rfl rfl rfl WithP.mono (fun u H2 C2 hH hle hr2 hC2 => by have h:=zjf (r:=2) j2.ne hH hr2 hC2; rw [z38] at h; exact h)) ?_; refine zbu 62 rfl fun vx Kx hx hpx => ?_; obtain ⟨svx, rfl, hsvx⟩:=hpx; obtain ⟨fx, px, gx, qx, rfl, hplx⟩:=hsvx.shape; refine Z306 ?_; refine Z143 ?_; refine Z275 ?_; refine yw (zbp L 900 (WithP [d2] 0) (r:=StG b s2) rfl rfl rfl rfl rfl WithP.mono (fun u H2 C2 hH hle hr2 hC2 => by have h:=zjf (r:=0) j2.ne hH hr2 hC2; rw [z4a] at h; exact h)) ?_; refine zbu 67 rfl fun vy Ky hy hpy => ?_; obtain ⟨svy, rfl, hsvy⟩:=hpy; obtain ⟨fy, py, gy, qy, rfl, hply⟩:=hsvy.shape; refine Z306 ?_; refine Z143 ?_; refine Z301 ?_; refine yw (zbp L 900 (WithP [] 14) (r:=StG b s2) rfl rfl rfl rfl rfl WithP.mono (fun u H2 C2 hH hle hr2 hC2 => by have h:=zjf (r:=4) j2.ne hH hr2 hC2; rw [z37] at h; exact h)) ?_; refine zbu 72 rfl fun vz Kz hz hpz => ?_; obtain ⟨svz, rfl, hsvz⟩:=hpz; obtain ⟨fz, pz, gz, qz, rfl, hplz⟩:=hsvz.shape; refine Z306 ?_; refine Z147 ?_
 have hsvx2:=hsvx.le (hy.le.trans hz.le)
 have hsvy2:=hsvy.le hz.le
 refine Z64 ?_; refine Z278 ?_; refine Z1 ?_; refine Z16 ?_; refine Z1 ?_; refine Z16 ?_; refine Z22 ?_; refine Z140 ?_; refine Z22 ?_; refine Z230 ?_; refine Z22 ?_; refine Z230 ?_; refine Z22 ?_; refine Z8 ?_; refine Z1 ?_; refine z7 (zq L (vs:=[_, _, _, _]) (yj rfl) rfl rfl rfl rfl ⟨_, rfl⟩) rfl ?_; refine z7 (zp L rfl rfl (zk rfl) rfl rfl rfl (fun u H hH hle _ => zdo (n:=1) rfl hH (hsvx2.le hle))) rfl ?_; refine Z22 ?_; refine Z8 ?_; refine Z1 ?_; refine z7 (zq L (vs:=[_, _, _, _]) (yj rfl) rfl rfl rfl rfl ⟨_, rfl⟩) rfl ?_; refine z7 (zq L (vs:=[_, _, _, _, _, _]) (yj rfl) rfl rfl rfl rfl ⟨_, rfl⟩) rfl ?_; refine z7 (zp L rfl rfl (zk rfl) rfl rfl rfl (fun u H hH hle _ => zco (b:=true) (by decide) hH (hsvx2.le hle))) rfl ?_; refine Z53 ?_; refine Z8 ?_; refine Z1 ?_; refine z7 (zq L (vs:=[_, _, _, _]) (yj rfl) rfl rfl rfl rfl ⟨_, rfl⟩) rfl ?_; refine z7 (zp L rfl rfl (zk rfl) rfl rfl rfl (fun u H hH hle _ => zdo (n:=1) rfl hH (hsvy2.le hle))) rfl ?_; refine Z22 ?_; refine Z8 ?_; refine Z1 ?_; refine z7 (zq L (vs:=[_, _, _, _]) (yj rfl) rfl rfl rfl rfl ⟨_, rfl⟩) rfl ?_; refine z7 (zq L (vs:=[_, _, _, _, _, _]) (yj rfl) rfl rfl rfl rfl ⟨_, rfl⟩) rfl ?_; refine z7 (zp L rfl rfl (zk rfl) rfl rfl rfl (fun u H hH hle _ => zco (b:=true) (by decide) hH (hsvy2.le hle))) rfl ?_; refine Z53 ?_; refine Z230 ?_; refine Z22 ?_; refine Z230 ?_; refine ql (zag L 900 (StG b s3) (.int .i64 0) (r:=StG b s2) rfl rfl rfl rfl rfl (fun u H2 C2 hH hle hr2 hC2 => zdm (zls j2.ne (by decide) z4x hH hr2 hC2))) ?_; refine Z22 ?_; refine Z359 ?_; refine Z303 ?_; refine ql (zg1 L 900 (StG b s4) (zvx [1] 0) (r:=StG b s3) rfl rfl rfl rfl rfl (zfh SlV.mono) (fun u H2 C2 hH hle hr2 hC2 => by have h:=zd7 (keep:=1) j3.ne (by decide) (by decide) hH hr2 hC2; rw [z2h] at h; exact h)) ?_; refine Z364 ?_; refine Z147 ?_
 refine Z259 ?_; refine Z22 ?_; refine Z1 ?_; refine Z4 ?_; refine Z32 ?_; refine z7 (zp L rfl rfl (zk rfl) rfl rfl rfl (fun u H hH hle _ v1 h1 v2 h2 => zgz (a:=[1]) (b:=[1]) (f:=true) (fb:=true) rfl (by decide) (by decide) hH h1 (h2.toV rfl))) rfl ?_; refine Z130 ?_; refine Z230 ?_; refine yw (zbp L 900 (RsV [2, 3] true) (r:=StG b s4) rfl rfl rfl rfl rfl SlV.mono (fun u H2 C2 hH hle hr2 hC2 => by have h:=zm7 j4.ne (by decide) hH hr2 hC2; rw [z5f] at h; exact h)) ?_; refine Z32 ?_; refine z7 (zp L rfl rfl (zk rfl) rfl rfl rfl (fun u H hH hle _ v1 h1 v2 h2 => zgz (a:=[2, 3]) (b:=[2, 3]) (f:=true) (fb:=true) rfl (by decide) (by decide) hH h1 (h2.toV rfl))) rfl ?_; refine Z130 ?_; refine Z359 ?_; refine Z99 ?_; refine Z1 ?_; refine yw (zbp L 900 (WithP [] 14) (r:=StG b s4) rfl rfl rfl rfl rfl WithP.mono (fun u H2 C2 hH hle hr2 hC2 => by have h:=zjf (r:=1) j4.ne hH hr2 hC2; rw [z39] at h; exact h)) ?_; refine zbu 148 rfl fun vw Kw hw hpw => ?_; obtain ⟨svw, rfl, hsvw⟩:=hpw; obtain ⟨fw, pw, gw, qw, rfl, hplw⟩:=hsvw.shape; refine Z173 ?_; refine Z143 ?_; refine Z111 ?_; refine Z1 ?_; refine ql (zag L 900 (StG b s5) (.tuple #[.int .u64 4, .int .i64 0]) (r:=StG b s4) rfl rfl rfl rfl rfl (fun u H2 C2 hH hle hr2 hC2 => zdm (zej (l:=[]) (cs:=[]) (j4.I (by decide)) (by decide) j4.ne (all _ (by simp)) (all _ (by simp)) (by decide) (by decide) z2c hH (SlV.nil (fu:=false)) (SlV.nil (fu:=false)) hr2 hC2))) ?_; refine Z237 ?_; refine Z280 ?_; refine ql (zag L 900 (StG b s6) (.int .i64 0) (r:=StG b s5) rfl rfl rfl rfl rfl (fun u H2 C2 hH hle hr2 hC2 => zdm (zhn j5.ne (by decide) z2f hH hr2 hC2))) ?_; refine Z143 ?_; refine Z116 ?_; refine Z1 ?_; refine ql (zag L 900 (StG b s6) (.int .i64 8) (r:=StG b s6) rfl rfl rfl rfl rfl (fun u H2 C2 hH hle hr2 hC2 => zdm (zhn j6.ne (by decide) z35 hH hr2 hC2))) ?_; refine Z143 ?_; refine Z89 ?_; refine Z1 ?_; refine ql (zg1 L 900 (StG b s7) (zvx [2, 3] 0) (r:=StG b s6) rfl rfl rfl rfl rfl (zfh SlV.mono) (fun u H2 C2 hH hle hr2 hC2 => by have h:=zd7 (keep:=1) j6.ne (by decide) (by decide) hH hr2 hC2; rw [z2g] at h; exact h)) ?_; refine Z364 ?_; refine Z143 ?_; refine Z390 ?_; refine yw (zbp L 900 (z43 [] 0) (r:=StG b s7) rfl rfl rfl rfl rfl (zfh SlV.mono) (fun u H2 C2 hH hle hr2 hC2 => by have h:=zrj (p:=4) (q:=0) (j7.I (by decide)) j7.ne hH hr2 hC2; rw [z5g] at h; exact h)) ?_; refine Z364 ?_; refine Z293 ?_; refine Z1 ?_; refine ql (zg1 L 900 (StG b s7) (zvx [] 4) (r:=StG b s7) rfl rfl rfl rfl rfl (zfh SlV.mono) (fun u H2 C2 hH hle hr2 hC2 => by have h:=zd7 (keep:=0) j7.ne (by decide) (by decide) hH hr2 hC2; rw [z36] at h; exact h)) ?_; refine Z364 ?_; refine Z143 ?_
 refine Z294 ?_; refine Z25 ?_; refine Z140 ?_; refine Z25 ?_; refine Z230 ?_; refine Z25 ?_; refine Z230 ?_; refine Z25 ?_; refine Z230 ?_; refine Z25 ?_; refine Z230 ?_; refine Z25 ?_; refine Z8 ?_; refine Z1 ?_; refine Z4 ?_; refine Z32 ?_; refine z7 (zp L rfl rfl (zk rfl) rfl rfl rfl (fun u H hH hle _ v1 h1 v2 h2 => zgz (a:=[2, 3]) (b:=[2, 3]) (f:=true) (fb:=true) rfl (by decide) (by decide) hH h1 (h2.toV rfl))) rfl ?_; refine Z130 ?_; refine Z230 ?_; refine Z25 ?_; refine Z8 ?_; refine Z1 ?_; refine Z150 ?_; refine Z130 ?_; refine Z230 ?_; refine Z25 ?_; refine Z230 ?_; refine ql (zag L 900 (StG b s7) (.int .i64 14) (r:=StG b s7) rfl rfl rfl rfl rfl (fun u H2 C2 hH hle hr2 hC2 => zdm (zls j7.ne (by decide) z5e hH hr2 hC2))) ?_; refine Z25 ?_; refine Z8 ?_; refine Z138 ?_
 refine yd L (rs:=[.tmp 0]) rfl (fun _ _ h => h) (hx.trans (hy.trans (hz.trans hw))) fun u H hH hle => ?_
 rfl
end Go.V.L10
set_option maxRecDepth 20000
namespace Go.V.L10
open Go.Proofs Go.RowKit Go.V Go.V.L2 Go.V.L8 Go.V.L6
abbrev ZO:=OO × Value × Value
def ooc (z:ZO):List Value:=[.int .u8 z.1.wh, z.2.1, z.2.2, .int .u8 z.1.rv, .int .i64 z.1.kp]
theorem zzu (z:ZO):(ooc z).length = 5:=rfl
def OzOK (zs:List ZO) (H:Heap):Prop:=∀ z ∈ zs, OOK z.1 ∧ PS3 z.1.ms false z.2.1 H ∧ PS3 z.1.cs false z.2.2 H
theorem OzOK.le {zs:List ZO} {H H':Heap} (h:OzOK zs H) (hle:H.Le H'):OzOK zs H':=fun z hz => ⟨(h z hz).1, (h z hz).2.1.le hle, (h z hz).2.2.le hle⟩
abbrev WsV (zs:List ZO):Value → Heap → Prop:=SlV z0w 5 (zs.flatMap ooc) zs.length false
theorem z3y {zs:List ZO} {i:Nat} {z:ZO} (h:zs[i]? = some z):((zs.flatMap ooc).drop (i * 5)).take 5 = [.int .u8 z.1.wh, z.2.1, z.2.2, .int .u8 z.1.rv, .int .i64 z.1.kp]:=zcv zzu zs i z h
def zeg (S:Sto) (zs:List ZO) (i:Nat):Sto:=(zs.take i).foldl (fun S z => doS S z.1) S
theorem zfw {S:Sto} {zs:List ZO} {i:Nat} {z:ZO} (h:zs[i]? = some z):zeg S zs (i + 1) = doS (zeg S zs i) z.1:=by
 unfold zeg; rw [zb2 h, List.foldl_append]; rfl
theorem zmg {n:Nat} {S:Sto} {zs:List ZO} (h:JJ n S):∀ {i:Nat}, n + i ≤ 101 → JJ (n + i) (zeg S zs i)
 | 0, _ => h
 | i + 1, hi => by
  have ih:=zmg h (zs:=zs) (i:=i) (by omega)
  rcases Nat.lt_or_ge i zs.length with hl | hl
  ·obtain ⟨z, hz⟩:=zae hl
   rw [zfw hz]
   exact z4c ih (by omega) _
  ·have:zeg S zs (i + 1) = zeg S zs i:=by unfold zeg; rw [List.take_of_length_le hl, List.take_of_length_le (by omega)]
   rw [this]
   exact ih.mono (by omega)
def zrn (S:Sto) (zs:List ZO):Sto:=zeg S zs (min zs.length 25)
theorem zu3 {n:Nat} {S:Sto} {zs:List ZO} (h:JJ n S) (hn:n ≤ 75):JJ (n + 25) (zrn S zs):=(zmg h (by omega)).mono (by omega)
attribute [local irreducible] V N X VO Par StepOK Has Ret RetL RetO RetT zb7 zdu RetY Src
set_option maxHeartbeats 2000000 in
set_option maxRecDepth 20000 in
theorem zp5 {S:Sto} {n pb b:Nat} {zs:List ZO} (hj:JJ n S) (hn:n ≤ 75) {xv:Value} {w:World} {B:Heap} {C:Nat → Prop} (hB:B.Le (hp w)) (hx:WsV zs xv B) (ho:OzOK zs B) (hr:(BoG pb b S).P B w C) (hC:∀ k, C k → k < w.heap.size ∧ B k = none) :
  RetY Tryz.prog 11 [zio pb, .agg #[xv]] w B C (BoG pb b (zrn S zs)) (fun v _ => v = .int .i64 1):=by
 obtain ⟨p, c, rfl⟩:=zat hx
 unfold RetY
 refine zap 900 (BoG pb b S) Tryz.func11 rfl Tryz.ntmps11 (Nat.le_of_ble_eq_true rfl) hB hr hC ?_
 refine Z325 ?_; refine Z199 ?_
 refine zai (fun i:Nat => [(0, .is (zio pb)), (3, .sat (At [.slice p zs.length c] 24 0)), (5, .is (.int .i64 i)), (900, .own (BoG pb b (zeg S zs i)).res)]) (fun i => i ≤ zs.length ∧ i ≤ 25) (fun i => 25 - i) 0 ⟨Nat.zero_le _, Nat.zero_le _⟩ ⟨rfl, rfl, rfl, rfl, trivial⟩ ?_
 rintro i ⟨h1, h2⟩
 dsimp only at h1 h2 ⊢
 have hji:=zmg hj (zs:=zs) (i:=i) (by omega)
 by_cases hl:i < zs.length
 ·by_cases h25:i < 25
  ·obtain ⟨z, hz⟩:=zae hl
   obtain ⟨o, mv, cv⟩:=z
   have hoz:=ho _ (List.mem_of_getElem? hz)
   have hc:=z3y hz
   have hps:=zfw (S:=S) hz
   have hwk:IntKind.i64.wrap ((i:Int) + 1) = ((i + 1:Nat):Int):=zaa (by omega) (by omega)
   refine Z277 ?_; refine Z398 ?_; refine Z7 ?_; refine Z316 ?_; refine Z249 ?_; refine Z170 ?_; refine Z160 ?_; refine Z262 ?_; refine Z1 ?_; refine z7 (qu L _ rfl rfl rfl rfl rfl rfl rfl (by first | omega | decide) (by assumption)) rfl ?_; refine z7 (yf L (vs:=[_, _, _, _, _]) rfl rfl rfl rfl rfl ⟨_, rfl⟩) rfl ?_; refine ql (zag L 900 (BoG pb b (doS (zeg S zs i) o)) (.int .i64 1) (r:=BoG pb b (zeg S zs i)) rfl rfl rfl rfl rfl (fun u H2 C2 hH hle hr2 hC2 => zdm (z2t hji (by omega) hoz.1 hH ⟨mv, cv, rfl, hoz.2.1.le hle, hoz.2.2.le hle⟩ hr2 hC2))) ?_; refine Z13 ?_; refine Z218 ?_; refine Z176 ?_; refine Z211 ?_
   exact yi (x:=i) (i + 1) ⟨hl, h25⟩ (by omega) ⟨rfl, rfl, rfl, by rw [hps]; rfl, trivial⟩
  ·obtain rfl:i = 25:=by omega
   refine Z277 ?_; refine Z398 ?_; refine Z7 ?_; refine Z260 ?_; refine Z8 ?_; refine Z182 ?_; refine Z376 ?_; refine Z138 ?_
   exact zb0 L 900 (r:=BoG pb b (zeg S zs 25)) (rs:=[.tmp 4]) rfl (fun _ _ h => h) Since.refl rfl (by unfold zrn; rw [Nat.min_eq_right (by omega)]) (fun H hle => rfl)
 ·obtain rfl:i = zs.length:=by omega
  refine Z277 ?_; refine Z398 ?_; refine Z10 ?_; refine Z183 ?_; refine Z8 ?_; refine Z182 ?_; refine Z376 ?_; refine Z138 ?_
  exact zb0 L 900 (r:=BoG pb b (zeg S zs zs.length)) (rs:=[.tmp 4]) rfl (fun _ _ h => h) Since.refl rfl (by unfold zrn; rw [Nat.min_eq_left (by omega)]) (fun H hle => rfl)
end Go.V.L10
set_option maxRecDepth 20000
namespace Go.V
open Go.RowKit
inductive zhi where
 | s
 | b
 | i (k:IntKind)
def z3f:zhi → Value → Prop
 | .s, v => ∃ a:ByteArray, v = .string a ∧ a.size ≤ maxLen
 | .b, v => ∃ c, v = .bool c
 | .i k, v => ∃ n, v = .int k n ∧ (Lit.int k n).wf = true
def LeafsOK:List zhi → List Value → Prop
 | [], [] => True
 | l :: ls, v :: vs => z3f l v ∧ LeafsOK ls vs
 | _, _ => False
theorem LeafsOK.append:∀ {a b:List zhi} {x y:List Value}, LeafsOK a x → LeafsOK b y → LeafsOK (a ++ b) (x ++ y)
 | [], _, [], _, _, h => h
 | [], _, _ :: _, _, h, _ => h.elim
 | _ :: _, _, [], _, h, _ => h.elim
 | _ :: _, _, _ :: _, _, h, k => ⟨h.1, LeafsOK.append h.2 k⟩
theorem LeafsOK.length:∀ {a:List zhi} {x:List Value}, LeafsOK a x → x.length = a.length
 | [], [], _ => rfl
 | [], _ :: _, h => h.elim
 | _ :: _, [], h => h.elim
 | _ :: _, _ :: _, h => by simp [LeafsOK.length h.2]
theorem zql {k:IntKind} {ls:List zhi} {vs:List Value} (h:LeafsOK (.i k :: ls) vs):∃ n r, vs = .int k n :: r ∧ (Lit.int k n).wf = true ∧ LeafsOK ls r:=by
 cases vs with
 | nil => exact h.elim
 | cons v vs => obtain ⟨⟨a, rfl, ha⟩, h⟩:=h; exact ⟨a, vs, rfl, ha, h⟩
theorem zqk {vs:List Value} (h:LeafsOK [] vs):vs = []:=by
 cases vs with
 | nil => rfl
 | cons _ _ => exact h.elim
def zw2 (P:Program) (rec:TypeId → Option (List zhi)):List Field → Nat → Option (List zhi)
 | [], _ => some []
 | f :: fs, off => match rec f.type with
  | some ls => if f.offset = off ∧ P.cellsOf f.type = ls.length then
    match zw2 P rec fs (off + ls.length) with
    | some r => some (ls ++ r)
    | none => none
   else none
  | none => none
def zyi (ls:List zhi):Nat → List zhi
 | 0 => []
 | n + 1 => ls ++ zyi ls n
def zo4 (P:Program):Nat → TypeId → Option (List zhi)
 | 0, _ => none
 | d + 1, t => match P.underlying t with
  | some .string => some [.s]
  | some (.int k) => some [.i k]
  | some .bool => some [.b]
  | some (.struct fs) => match zw2 P (zo4 P d) fs.toList 0 with
   | some ls => if P.cellsOf t = ls.length then some ls else none
   | none => none
  | some (.array n e) => match zo4 P d e with
   | some ls => if P.cellsOf e = ls.length ∧ P.cellsOf t = (zyi ls n).length then some (zyi ls n) else none
   | none => none
  | _ => none
theorem zl9 {α β:Type} {f:α → Option β}:∀ {l:List α} {ys:List β}, l.mapM f = some ys → ∃ g:List β, g = ys ∧ (∀ x ∈ l, ∃ y, f x = some y ∧ y ∈ ys) ∧ (∀ y ∈ ys, ∃ x ∈ l, f x = some y)
 | [], ys, h => by
  simp at h; subst h
  exact ⟨_, rfl, by simp, by simp⟩
 | x :: l, ys, h => by
  rw [List.mapM_cons] at h
  cases hx:f x with
  | none => rw [hx] at h; cases h
  | some y =>
   rw [hx] at h
   cases hl:l.mapM f with
   | none => rw [hl] at h; cases h
   | some zs =>
    rw [hl] at h
    cases h
    obtain ⟨_, _, h1, h2⟩:=zl9 hl
    refine ⟨_, rfl, fun z hz => ?_, fun z hz => ?_⟩
    ·rcases List.mem_cons.1 hz with rfl | hz
     ·exact ⟨y, hx, List.mem_cons_self ..⟩
     ·obtain ⟨w, hw, hm⟩:=h1 z hz; exact ⟨w, hw, List.mem_cons_of_mem _ hm⟩
    ·rcases List.mem_cons.1 hz with rfl | hz
     ·exact ⟨x, List.mem_cons_self .., hx⟩
     ·obtain ⟨w, hw, hm⟩:=h2 z hz; exact ⟨w, List.mem_cons_of_mem _ hw, hm⟩
theorem zhm (cs:List Value) (off m r:Nat):(cs.drop off).take (m + r) = (cs.drop off).take m ++ (cs.drop (off + m)).take r:=by
 rw [List.take_add, List.drop_drop]
section
variable {P:Program} {H:Type} {enc:TypeId × Value → H} {W:World} {sp:Nat → Bool} {held:Bool} {base:Nat}
theorem zfl:∀ (d:Nat) {t:TypeId} {ls:List zhi}, zo4 P d t = some ls → ∀ {fuel:Nat} {cs:List Value} {x:DataW H × List MemPlace},
  DataW.trod enc P W base sp held fuel t cs = some x → LeafsOK ls cs ∧ x.2 = []
 | 0, _, _, h, _, _, _, _ => by cases h
 | d + 1, t, ls, h, fuel, cs, x, hx => by
  have ih:=@zfl d
  cases fuel with
  | zero => simp [DataW.trod] at hx
  | succ fuel =>
   rw [zo4] at h
   unfold DataW.trod at hx
   cases hu:P.underlying t with
   | none => rw [hu] at h; cases h
   | some ds =>
    rw [hu] at h hx
    cases ds <;> first | (cases h; done) | skip
    ·cases h
     match cs, hx with
     | [.bool b], hx => cases hx; exact ⟨⟨⟨b, rfl⟩, trivial⟩, rfl⟩
    ·rename_i k
     cases h
     match cs, hx with
     | [.int k' m], hx =>
      simp only at hx
      split at hx
      ·rename_i hk
       obtain ⟨rfl, hw⟩:=hk
       cases hx; exact ⟨⟨⟨m, rfl, hw⟩, trivial⟩, rfl⟩
      ·cases hx
    ·cases h
     match cs, hx with
     | [.string s], hx =>
      simp only at hx
      split at hx
      ·rename_i hs; cases hx; exact ⟨⟨⟨s, rfl, hs⟩, trivial⟩, rfl⟩
      ·cases hx
    ·rename_i n e
     simp only at h hx
     split at h
     ·rename_i l1 hl1
      split at h
      ·rename_i hc
       cases h
       split at hx
       ·rename_i hlen
        obtain ⟨xs, hxs, rfl⟩:=Option.map_eq_some_iff.1 hx
        obtain ⟨_, _, hall, hback⟩:=zl9 hxs
        have each:∀ i, i < n → LeafsOK l1 ((cs.drop (i * P.cellsOf e)).take (P.cellsOf e)):=fun i hi => by
         obtain ⟨y, hy, _⟩:=hall i (List.mem_range.2 hi)
         exact (ih hl1 hy).1
        have gen:∀ m k, k + m = n → LeafsOK (zyi l1 m) ((cs.drop (k * P.cellsOf e)).take (m * P.cellsOf e)):=by
         intro m
         induction m with
         | zero => intro k _; simp [zyi, LeafsOK]
         | succ m ihm =>
          intro k hk
          rw [show (m + 1) * P.cellsOf e = P.cellsOf e + m * P.cellsOf e by rw [Nat.succ_mul]; omega, zhm]
          refine LeafsOK.append (each k (by omega)) ?_
          rw [show k * P.cellsOf e + P.cellsOf e = (k + 1) * P.cellsOf e by rw [Nat.succ_mul]]
          exact ihm (k + 1) (by omega)
        refine ⟨?_, ?_⟩
        ·have:=gen n 0 (by omega)
         have hrl:∀ m, (zyi l1 m).length = m * P.cellsOf e:=by
          intro m
          induction m with
          | zero => simp [zyi]
          | succ m ihm => simp only [zyi, List.length_append, ihm, hc.1]; rw [Nat.succ_mul]; omega
         rw [← hrl n, ← hc.2, ← hlen] at this
         simpa using this
        ·refine List.flatMap_eq_nil_iff.2 fun y hy => ?_
         obtain ⟨i, _, hi⟩:=hback y hy
         exact (ih hl1 hi).2
       ·cases hx
      ·cases h
     ·cases h
    ·rename_i fs
     simp only at h hx
     split at h
     ·rename_i l1 hl1
      split at h
      ·rename_i hc
       cases h
       split at hx
       ·rename_i hlen
        obtain ⟨xs, hxs, rfl⟩:=Option.map_eq_some_iff.1 hx
        obtain ⟨_, _, hall, hback⟩:=zl9 hxs
        have gen:∀ (fl:List Field) (off:Nat) (ls:List zhi), (∀ f ∈ fl, f ∈ fs.toList) → zw2 P (zo4 P d) fl off = some ls →
          LeafsOK ls ((cs.drop off).take ls.length) ∧ ∀ f ∈ fl, ∃ l, zo4 P d f.type = some l:=by
         intro fl
         induction fl with
         | nil => intro off ls _ h; cases h; simp [LeafsOK]
         | cons f fl ihf =>
          intro off ls hm h
          simp only [zw2] at h
          split at h
          ·rename_i l2 hl2
           split at h
           ·rename_i hc2
            obtain ⟨rfl, hc3⟩:=hc2
            split at h
            ·rename_i r hr
             cases h
             obtain ⟨g1, g2⟩:=ihf _ _ (fun g hg => hm g (List.mem_cons_of_mem _ hg)) hr
             refine ⟨?_, fun g hg => ?_⟩
             ·rw [List.length_append, zhm]
              refine LeafsOK.append ?_ g1
              obtain ⟨y, hy, _⟩:=hall f (hm f (List.mem_cons_self ..))
              rw [← hc3]
              exact (ih hl2 hy).1
             ·rcases List.mem_cons.1 hg with rfl | hg
              ·exact ⟨l2, hl2⟩
              ·exact g2 g hg
            ·cases h
           ·cases h
          ·cases h
        obtain ⟨g1, g2⟩:=gen fs.toList 0 _ (fun _ h => h) hl1
        refine ⟨?_, ?_⟩
        ·rw [← hc, ← hlen] at g1; simpa using g1
        ·refine List.flatMap_eq_nil_iff.2 fun y hy => ?_
         obtain ⟨f, hf, hi⟩:=hback y hy
         obtain ⟨l, hl⟩:=g2 f hf
         exact (ih hl hi).2
       ·cases hx
      ·cases h
     ·cases h
end
end Go.V
set_option maxRecDepth 20000
namespace Go.V
open Go.ChangeShapes Go.WideShapes Go.ChangeAt Go.ChangeMaps Go.RowKit
section
variable {P:Program} {H:Type} {enc:TypeId × Value → H} {W:World} {held:Bool}
end
end Go.V
set_option maxRecDepth 20000
namespace Go.V
open Go.ChangeShapes Go.WideShapes Go.ChangeAt Go.ChangeMaps Go.RowKit
section
variable {P:Program} {H:Type} {enc:TypeId × Value → H} {W:World} {held:Bool}
def zhh (enc:TypeId × Value → H) (P:Program) (W:World) (held:Bool) (t:TypeId) (n:Nat) (Φ:List Value → Prop):Prop :=
 P.cellsOf t = n ∧ ∀ (fuel:Nat) (cs:List Value) (x:DataW H × List MemPlace), DataW.trod enc P W 0 (fun _ => true) held fuel t cs = some x → (x.1.weights P t).all (· ≤ reachBytes) = true → cs.length = n ∧ Φ cs
theorem zhq {t:TypeId} {ls:List zhi} (h:zo4 P 20 t = some ls) (hc:P.cellsOf t = ls.length):zhh enc P W held t ls.length (LeafsOK ls) :=
 ⟨hc, fun _ _ _ hx _ => ⟨(zfl 20 h hx).1.length, (zfl 20 h hx).1⟩⟩
def SlD (e:TypeId) (n by_:Nat) (Φ:List Value → Prop) (Hh:Heap) (v:Value):Prop:=∃ cs:List (List Value), (∀ c ∈ cs, c.length = n ∧ Φ c) ∧ cs.length ≤ maxLen ∧ cs.length * by_ ≤ reachBytes ∧ SlV e n cs.flatten cs.length false v Hh
theorem ze9 {e:TypeId}:∀ {l:List (DataW H)} {d:DataW H}, d ∈ l → ∀ n ∈ d.weights P e, n ∈ DataW.weightsAll P e l
 | d0 :: l, d, hd, n, hn => by
  simp only [DataW.weightsAll, List.mem_append]
  rcases List.mem_cons.1 hd with rfl | hd
  ·exact .inl hn
  ·exact .inr (ze9 hd n hn)
theorem zyb {l m:List Nat} (h:l.all (· ≤ reachBytes) = true) (hs:∀ n ∈ m, n ∈ l):m.all (· ≤ reachBytes) = true :=
 List.all_eq_true.2 fun n hn => List.all_eq_true.1 h n (hs n hn)
theorem wt_at {ts:List TypeId} {ds:List (DataW H)} (h:(DataW.weightsEach P ts ds).all (· ≤ reachBytes) = true) (j:Nat) {t:TypeId} {d:DataW H} (ht:ts[j]? = some t) (hd:ds[j]? = some d):(d.weights P t).all (· ≤ reachBytes) = true :=
 zyb h (DataW.weights_mem_each ht hd)
theorem zjo {t e:TypeId} {n:Nat} {Φ:List Value → Prop} (ht:P.underlying t = some (.slice e)) (hct:P.cellsOf t = 1) (he:zhh enc P W held e n Φ) (hn:0 < n) :
  zhh enc P W held t 1 (fun vs => ∃ v, vs = [v] ∧ SlD e n (P.bytesOf e) Φ (hp W) v):=by
 refine ⟨hct, fun fuel cs x hf hw => ?_⟩
 rcases Deep.open_slice ht hf with ⟨rfl, _⟩ | ⟨a, len, cap, m, nn, D, Pl, rfl, _, h1, h2, hm, rfl, hx⟩
 ·exact ⟨rfl, _, rfl, [], fun c h => (nomatch h), Nat.zero_le _, by simp, SlV.nil⟩
 refine ⟨rfl, _, rfl, ?_⟩
 simp only [if_true] at hm
 subst hm
 have hwe:(DataW.weights P t (DataW.slice ((List.range len).map D) ((List.range (m - len)).map fun j => D (len + j)))) = (len + (m - len)) * P.bytesOf e :: (DataW.weightsAll P e ((List.range len).map D) ++ DataW.weightsAll P e ((List.range (m - len)).map fun j => D (len + j))):=by
  rw [DataW.weights, ht]; simp
 simp only at hw
 rw [hwe] at hw
 have hb:(len + (m - len)) * P.bytesOf e ≤ reachBytes:=by
  have:=List.all_eq_true.1 hw _ (List.mem_cons_self ..)
  simpa using this
 have hwD:∀ i, i < len → ((D i).weights P e).all (· ≤ reachBytes) = true:=fun i hi => zyb hw fun k hk =>
  List.mem_cons_of_mem _ (List.mem_append_left _ (ze9 (List.mem_map.2 ⟨i, List.mem_range.2 hi, rfl⟩) k hk))
 rcases Nat.eq_zero_or_pos m with h0 | h0
 ·obtain rfl:len = 0:=by omega
  subst h0
  exact ⟨[], fun c h => (nomatch h), Nat.zero_le _, by simp, by simp, .inl ⟨rfl, _, rfl⟩⟩
 obtain ⟨he1, he2⟩:=he
 have hsp:a.spot = none ∧ ∃ c0 ty fr, W.heap[a.block]? = some (.cells c0 ty fr):=by
  obtain ⟨c, g1, _⟩:=hx 0 h0
  obtain ⟨_, g2, g3⟩:=World.cells?_some g1
  have g4:=g3 0 (by omega)
  have hc0:∃ v, c[0]? = some v:=⟨_, List.getElem?_eq_getElem (by omega)⟩
  obtain ⟨v, hv⟩:=hc0
  rw [hv] at g4
  have hadd:((a.add (0 * P.cellsOf e)).add 0) = a:=by
   rw [Nat.zero_mul]
   unfold Addr.add
   simp
  rw [hadd] at g4
  unfold World.cell? at g4
  split at g4
  ·rename_i c1 ty fr hh
   split at g4
   ·cases g4
   ·rename_i hs
    exact ⟨by simpa using hs, _, _, _, hh⟩
  ·cases g4
 obtain ⟨h3, cs, ty, fr, h4⟩:=hsp
 obtain ⟨C, hC⟩:=Deep.choose_lt (α:=List Value) (n:=m) (p:=fun i c => W.cells? 0 (a.add (i * P.cellsOf e)) (P.cellsOf e) = some c ∧ (i < len → c.length = n ∧ Φ c)) (fun i hi => by
  obtain ⟨c, g1, g2⟩:=hx i hi
  exact ⟨c, g1, fun hl => he2 _ _ _ g2 (hwD i hl)⟩)
 have hln:∀ i, i < len → (C i).length = n:=fun i hi => ((hC i (by omega)).2 hi).1
 refine ⟨(List.range len).map C, fun c hc => ?_, by simp; omega, ?_, ?_⟩
 ·obtain ⟨i, hi, rfl⟩:=List.mem_map.1 hc
  exact (hC i (by have:=List.mem_range.1 hi; omega)).2 (List.mem_range.1 hi)
 ·rw [List.length_map, List.length_range]
  exact Nat.le_trans (Nat.mul_le_mul_right _ (by omega)) hb
 ·have hfl:∀ k, k ≤ len → ((List.range k).map C).flatten.length = k * n:=by
   intro k
   induction k with
   | zero => simp
   | succ k ih =>
    intro hk
    rw [List.range_succ, List.map_append, List.flatten_append, List.length_append, ih (by omega), Nat.succ_mul]
    simp [hln k (by omega)]
  refine ⟨by rw [hfl len (Nat.le_refl _), List.length_map, List.length_range], .inr ⟨a.block, a.off, m, cs, ty, fr, ?_, h4, ?_, by simpa using h1, fun h => by cases h⟩⟩
  ·obtain ⟨ab, ao, asp⟩:=a
   simp only at h3
   subst h3
   simp
  ·rw [hfl len (Nat.le_refl _)]
   have key:∀ k, k ≤ len → (cs.toList.drop a.off).take (k * n) = ((List.range k).map C).flatten:=by
    intro k
    induction k with
    | zero => simp
    | succ k ih =>
     intro hk
     rw [Nat.succ_mul, zhm, ih (by omega), List.range_succ, List.map_append, List.flatten_append]
     congr 1
     obtain ⟨_, g2, g3⟩:=World.cells?_some (hC k (by omega)).1
     simp only [List.map_cons, List.map_nil, List.flatten_cons, List.flatten_nil, List.append_nil]
     apply List.ext_getElem?
     intro j
     rcases Nat.lt_or_ge j n with hj | hj
     ·have:=g3 j (by omega)
      rw [← this, List.getElem?_take_of_lt hj, List.getElem?_drop]
      obtain ⟨ab, ao, asp⟩:=a
      simp only at h3
      subst h3
      rw [zcq, zcq, za1 h4]
      simp only [he1]
      rw [Array.getElem?_toList]
     ·rw [List.getElem?_eq_none (by rw [List.length_take]; omega), List.getElem?_eq_none (by rw [hln k (by omega)]; exact hj)]
   exact key len (Nat.le_refl _)
def zf4:List (Nat × (List Value → Prop)) → List Value → Prop
 | [], vs => vs = []
 | (n, Φ) :: r, vs => ∃ a b, vs = a ++ b ∧ a.length = n ∧ Φ a ∧ zf4 r b
inductive zkm (enc:TypeId × Value → H) (P:Program) (W:World) (held:Bool):List Field → Nat → List (Nat × (List Value → Prop)) → Prop
 | nil {off:Nat}:zkm enc P W held [] off []
 | cons {f:Field} {fs:List Field} {off n:Nat} {Φ:List Value → Prop} {r:List (Nat × (List Value → Prop))} (ho:f.offset = off) (hr:zhh enc P W held f.type n Φ) (h:zkm enc P W held fs (off + n) r):zkm enc P W held (f :: fs) off ((n, Φ) :: r)
def z0y:List (Nat × (List Value → Prop)) → Nat
 | [] => 0
 | p :: r => p.1 + z0y r
theorem zd8 {t:TypeId} {fs:Array Field} {ps:List (Nat × (List Value → Prop))} (hu:P.underlying t = some (.struct fs)) (h:zkm enc P W held fs.toList 0 ps) (hc:P.cellsOf t = z0y ps):zhh enc P W held t (z0y ps) (zf4 ps):=by
 refine ⟨hc, fun fuel cs x hf hw => ?_⟩
 obtain ⟨xs, n, rfl, rfl, hl, hxl, hx⟩:=DataW.trod_struct hu hf
 have hwe:DataW.weights P t (DataW.agg (H:=H) (xs.map (·.1))) = DataW.weightsEach P (fs.toList.map (·.type)) (xs.map (·.1)):=by
  rw [DataW.weights, hu]
 simp only at hw
 rw [hwe] at hw
 refine ⟨by rw [hl, hc], ?_⟩
 have gen:∀ (fl:List Field) (i off:Nat) (ps:List (Nat × (List Value → Prop))), (∀ (j:Nat) f, fl[j]? = some f → fs[i + j]? = some f) → zkm enc P W held fl off ps → off + z0y ps = cs.length → zf4 ps (cs.drop off):=by
  intro fl
  induction fl with
  | nil => intro i off ps _ h ho; cases h; simp only [z0y] at ho; simp only [zf4]; rw [List.drop_eq_nil_of_le (by omega)]
  | cons f fl ihf =>
   intro i off ps hm h ho
   cases h with
   | @cons _ _ _ n' Φ r h1 h2 h3 =>
   simp only [z0y] at ho
   have g0:=hm 0 f rfl
   rw [Nat.add_zero] at g0
   have g1:=hx i f g0
   have hi:i < xs.length:=by
    rw [hxl]
    rcases Nat.lt_or_ge i fs.size with h | h
    ·exact h
    ·rw [Array.getElem?_eq_none h] at g0; cases g0
   rw [List.getElem?_eq_getElem hi, h1, h2.1] at g1
   have hwi:(xs[i].1.weights P f.type).all (· ≤ reachBytes) = true:=wt_at hw i (by rw [List.getElem?_map, Array.getElem?_toList, g0]; rfl) (by rw [List.getElem?_map, List.getElem?_eq_getElem hi]; rfl)
   obtain ⟨g2, g3⟩:=h2.2 _ _ _ g1 hwi
   refine ⟨(cs.drop off).take n', cs.drop (off + n'), ?_, g2, g3, ihf (i + 1) (off + n') r (fun j f' hj => ?_) h3 (by omega)⟩
   ·rw [← List.drop_drop, List.take_append_drop]
   ·have:=hm (j + 1) f' (by simpa using hj)
    rw [← this]; congr 1; omega
 have g:=gen fs.toList 0 0 ps (fun j f hj => by rw [Nat.zero_add, ← Array.getElem?_toList]; exact hj) h (by rw [hl, hc]; omega)
 simpa using g
theorem open_agD {t:TypeId} {n b0:Nat} {Φ:List Value → Prop} {v:Value} {dd:DataW H} {ps:List MemPlace} (h:zhh enc P W held t n Φ) (ha:(match P.underlying t with | some (.struct _) | some (.array _ _) => true | _ => false) = true)
  (hval:Value.okWide P W .any b0 t v) (hd:DataW.Trod enc P W 0 (fun _ => true) held t v dd ps) (hw:(dd.weights P t).all (· ≤ reachBytes) = true):∃ cs:List Value, v = .agg cs.toArray ∧ Φ cs:=by
 obtain ⟨fuel, hf⟩:=hd
 have key:∃ cs, v = .agg cs:=by
  unfold Value.okWide at hval
  split at hval
  ·obtain ⟨cs, h1, _⟩:=hval; exact ⟨cs, h1⟩
  ·obtain ⟨cs, h1, _⟩:=hval; exact ⟨cs, h1⟩
  ·rename_i h1 h2
   exfalso
   split at ha
   ·rename_i x hx; exact h1 _ hx
   ·rename_i x y hx; exact h2 _ _ hx
   ·cases ha
 obtain ⟨cs, rfl⟩:=key
 exact ⟨cs.toList, by simp, (h.2 _ _ _ hf hw).2⟩
end
end Go.V
set_option maxRecDepth 20000
namespace Go.V.L10
open Go.Proofs Go.ChangeShapes Go.WideShapes Go.ChangeAt Go.ChangeMaps Go.RowKit Go.V Go.V.L2 Go.V.L6
abbrev C3L:List zhi:=[.i .u8, .i .u8, .i .u8]
abbrev C3P (H:Heap):List Value → Prop:=fun vs => ∃ v, vs = [v] ∧ SlD ty3 3 (Tryz.prog.bytesOf ty3) (LeafsOK C3L) H v
abbrev DdP (H:Heap):List (Nat × (List Value → Prop)):=[(1, C3P H)]
abbrev MmP (H:Heap):List (Nat × (List Value → Prop)):=[(1, zf4 (DdP H))]
abbrev OoP (H:Heap):List (Nat × (List Value → Prop)):=[(1, LeafsOK [.i .u8]), (1, zf4 (MmP H)), (1, zf4 (DdP H)), (1, LeafsOK [.i .u8]), (1, LeafsOK [.i .i64])]
abbrev OsP (H:Heap):List Value → Prop:=fun vs => ∃ v, vs = [v] ∧ SlD z0w 5 (Tryz.prog.bytesOf z0w) (zf4 (OoP H)) H v
abbrev WwP (H:Heap):List (Nat × (List Value → Prop)):=[(1, OsP H)]
section
variable {H:Type} {enc:TypeId × Value → H} {W:World} {held:Bool}
theorem ztk:zhh enc Tryz.prog W held 64 1 (C3P (hp W)):=zjo Tryz.underlying64 (by kernel_rfl) (zhq (ls:=C3L) (by kernel_rfl) (by kernel_rfl)) (by decide)
theorem zp4:zhh enc Tryz.prog W held 66 1 (zf4 (DdP (hp W))):=zd8 Tryz.underlying66 (.cons rfl ztk .nil) (by kernel_rfl)
theorem zwl:zhh enc Tryz.prog W held 68 1 (zf4 (MmP (hp W))):=zd8 Tryz.underlying68 (.cons rfl zp4 .nil) (by kernel_rfl)
theorem zp3:zhh enc Tryz.prog W held 5 1 (LeafsOK [.i .u8]):=zhq (ls:=[.i .u8]) (by kernel_rfl) (by kernel_rfl)
theorem ztj:zhh enc Tryz.prog W held 3 1 (LeafsOK [.i .i64]):=zhq (ls:=[.i .i64]) (by kernel_rfl) (by kernel_rfl)
theorem zwk:zhh enc Tryz.prog W held z0w 5 (zf4 (OoP (hp W))):=zd8 Tryz.underlying70 (.cons rfl zp3 (.cons rfl zwl (.cons rfl zp4 (.cons rfl zp3 (.cons rfl ztj .nil))))) (by kernel_rfl)
theorem zwj:zhh enc Tryz.prog W held 22 1 (OsP (hp W)):=zjo Tryz.underlying22 (by kernel_rfl) zwk (by decide)
theorem reads_ww:zhh enc Tryz.prog W held 24 1 (zf4 (WwP (hp W))):=zd8 Tryz.underlying24 (.cons rfl zwj .nil) (by kernel_rfl)
end
theorem zmd {k:IntKind} {a:List Value} (h:LeafsOK [.i k] a):∃ z, a = [.int k z] ∧ (Lit.int k z).wf = true:=by
 obtain ⟨z, r, rfl, h1, h2⟩:=zql h
 obtain rfl:=zqk h2
 exact ⟨z, rfl, h1⟩
theorem zpa {α:Type} {f:α → List Value} {Φ:List Value → Prop} {Ψ:α → Prop} (hf:∀ c, Φ c → ∃ x, c = f x ∧ Ψ x):∀ (cs:List (List Value)), (∀ c ∈ cs, Φ c) → ∃ l:List α, cs.flatten = l.flatMap f ∧ l.length = cs.length ∧ ∀ x ∈ l, Ψ x
 | [], _ => ⟨[], rfl, rfl, fun x h => by cases h⟩
 | c :: cs, h => by
  obtain ⟨x, rfl, hx⟩:=hf c (h c (List.mem_cons_self ..))
  obtain ⟨l, h1, h2, h3⟩:=zpa hf cs fun d hd => h d (List.mem_cons_of_mem _ hd)
  exact ⟨x :: l, by rw [List.flatten_cons, List.flatMap_cons, h1], by rw [List.length_cons, List.length_cons, h2], fun y hy => by
   rcases List.mem_cons.1 hy with rfl | hy
   ·exact hx
   ·exact h3 y hy⟩
theorem zmz {z:Int} (h:(Lit.int .u8 z).wf = true):∃ n:Nat, z = (n:Int) ∧ n ≤ 255:=by
 have:=Go.bounds_u8 h
 exact ⟨z.toNat, by omega, by omega⟩
theorem z4i {a:List Value} (h:LeafsOK C3L a):∃ x:C3, a = qcs x ∧ x.1 ≤ 255 ∧ x.2.1 ≤ 255 ∧ x.2.2 ≤ 255:=by
 obtain ⟨z1, r, rfl, h1, h⟩:=zql h
 obtain ⟨z2, r, rfl, h2, h⟩:=zql h
 obtain ⟨z3, r, rfl, h3, h⟩:=zql h
 obtain rfl:=zqk h
 obtain ⟨n1, rfl, b1⟩:=zmz h1
 obtain ⟨n2, rfl, b2⟩:=zmz h2
 obtain ⟨n3, rfl, b3⟩:=zmz h3
 exact ⟨(n1, n2, n3), rfl, b1, b2, b3⟩
theorem zyy {H:Heap} {v:Value} (h:SlD ty3 3 (Tryz.prog.bytesOf ty3) (LeafsOK C3L) H v):∃ l:List C3, PS3 l false v H ∧ l.length ≤ 9223372036854775807 ∧ ∀ c ∈ l, c.1 ≤ 255 ∧ c.2.1 ≤ 255 ∧ c.2.2 ≤ 255:=by
 obtain ⟨cs, h1, h2, h3, h4⟩:=h
 obtain ⟨l, g1, g2, g3⟩:=zpa (f:=qcs) (Ψ:=fun x:C3 => x.1 ≤ 255 ∧ x.2.1 ≤ 255 ∧ x.2.2 ≤ 255) (fun c hc => z4i hc) cs fun c hc => (h1 c hc).2
 rw [g1, ← g2] at h4
 exact ⟨l, h4, by rw [g2]; exact h2, g3⟩
theorem z3x {H:Heap} {c:List Value} (h:zf4 (OoP H) c):∃ z:ZO, c = ooc z ∧ OOK z.1 ∧ PS3 z.1.ms false z.2.1 H ∧ PS3 z.1.cs false z.2.2 H:=by
 obtain ⟨a1, b, rfl, -, h1, h⟩:=h
 obtain ⟨a2, b, rfl, -, ⟨_, _, rfl, -, ⟨_, _, rfl, -, ⟨mv, rfl, hm⟩, rfl⟩, rfl⟩, h⟩:=h
 obtain ⟨a3, b, rfl, -, ⟨_, _, rfl, -, ⟨cv, rfl, hc⟩, rfl⟩, h⟩:=h
 obtain ⟨a4, b, rfl, -, h4, h⟩:=h
 obtain ⟨a5, b, rfl, -, h5, rfl⟩:=h
 obtain ⟨z1, rfl, w1⟩:=zmd h1
 obtain ⟨z4, rfl, w4⟩:=zmd h4
 obtain ⟨z5, rfl, w5⟩:=zmd h5
 obtain ⟨n1, rfl, b1⟩:=zmz w1
 obtain ⟨n4, rfl, b4⟩:=zmz w4
 obtain ⟨ms, g1, g2, g3⟩:=zyy hm
 obtain ⟨cs, k1, k2, k3⟩:=zyy hc
 exact ⟨(⟨n1, ms, cs, n4, z5⟩, mv, cv), rfl, ⟨b1, b4, g3, k3, g2, k2⟩, g1, k1⟩
theorem z06 {H:Heap} {c:List Value} (h:zf4 (WwP H) c):∃ (xv:Value) (zs:List ZO), c = [xv] ∧ WsV zs xv H ∧ OzOK zs H:=by
 obtain ⟨a1, b, rfl, -, ⟨v, rfl, cs, g1, g2, g3, g4⟩, rfl⟩:=h
 obtain ⟨zs, e1, e2, e3⟩:=zpa (f:=ooc) (Ψ:=fun z:ZO => OOK z.1 ∧ PS3 z.1.ms false z.2.1 H ∧ PS3 z.1.cs false z.2.2 H) (fun c hc => z3x hc) cs fun c hc => (g1 c hc).2
 rw [e1, ← e2] at g4
 exact ⟨v, zs, rfl, g4, e3⟩
end Go.V.L10
set_option maxRecDepth 20000
namespace Go.V.L10
open Go.Proofs Go.RowKit Go.V Go.V.L2 Go.V.L8 Go.V.L6
abbrev WithT (l:List U) (e:Int):Value → Heap → Prop:=TupS [SetV l, fun v _ => v = .int .i64 e]
theorem WithT.mono {l:List U} {e:Int}:Kn.mono (.sat (WithT l e)):=zfh SetV.mono
theorem WithP.tup {l:List U} {e:Int} {v:Value} {H:Heap} (h:WithP l e v H):WithT l e v H:=by
 obtain ⟨tv, rfl, h2⟩:=h
 exact zfi h2
theorem zlv {S:Sto} {b:Nat} {r:Int} {t:List U} {e:Int} (he:atS S r = (t, e)) (hn:S.R.length ≠ 0) {w:World} {B:Heap} {C:Nat → Prop} (hB:B.Le (hp w)) (hr:(StG b S).P B w C) (hC:∀ k, C k → k < w.heap.size ∧ B k = none) :
  RetY Tryz.prog 13 [zio b, .int .u64 r] w B C (StG b S) (WithT t e):=by
 have h:=zjf (r:=r) hn hB hr hC
 rw [he] at h
 exact RetY.mono h fun _ _ _ => WithP.tup
theorem zqj {b:Nat} {S:Sto} (hn:S.R.length ≠ 0) {u:World} {H:Heap} (hH:H.Le (hp u)) (h:∃ m s, (∃ p k c, s = .slice p k c) ∧ H b = some (.cells (stc S.R.length m s S.P.length).toArray tyS)):Ret Tryz.prog 15 [zio b] u H (fun v _ => v = .int .u64 S.R.length):=by
 obtain ⟨m, s, _, hb⟩:=h
 exact zry hn hb hH
attribute [local irreducible] V N X VO Par StepOK Has Ret RetL RetO RetT zb7 zdu RetY Src
end Go.V.L10
set_option maxRecDepth 20000
namespace Go.V.L10
open Go.Proofs Go.RowKit Go.V Go.V.L2 Go.V.L8 Go.V.L6
theorem z2u (S:Sto) (o:OO):S.R.length ≤ (doS S o).R.length:=by
 unfold doS
 split
 ·unfold zdy
  split
  ·split
   ·exact Nat.le_refl _
   ·dsimp only; rw [List.length_append]; omega
  ·exact Nat.le_refl _
 ·split
  ·unfold zkp
   split
   ·rw [if_neg (by decide)]; exact Nat.le_refl _
   ·exact Nat.le_refl _
  ·split
   ·unfold zkp
    split
    ·rw [if_pos rfl]; split <;> exact Nat.le_refl _
    ·exact Nat.le_refl _
   ·unfold zc4
    split
    ·dsimp only; rw [zdb]; exact Nat.le_refl _
    ·exact Nat.le_refl _
theorem z2i {S:Sto} {o:OO} {r:Int} (hr:r ≤ S.R.length) {t:List U} (h:kpt (doS S o).R r = some t):kpt S.R r = some t:=by
 unfold doS at h
 split at h
 ·unfold zdy at h
  split at h
  ·split at h
   ·exact h
   ·dsimp only at h; rw [zg4, if_neg (by omega)] at h; exact h
  ·exact h
 ·split at h
  ·unfold zkp at h
   split at h
   ·rw [if_neg (by decide)] at h; exact h
   ·exact h
  ·split at h
   ·unfold zkp at h
    split at h
    ·rw [if_pos rfl] at h; split at h <;> exact h
    ·exact h
   ·unfold zc4 at h
    split at h
    ·dsimp only at h
     rw [zg5 (fun g hg => (zec (zj8 hg).1).1)] at h
     split at h
     ·cases h
     ·exact h
    ·exact h
theorem zjq {S:Sto} {zs:List ZO}:∀ i:Nat, S.R.length ≤ (zeg S zs i).R.length
 | 0 => Nat.le_refl _
 | i + 1 => by
  have ih:=zjq (S:=S) (zs:=zs) i
  rcases Nat.lt_or_ge i zs.length with hl | hl
  ·obtain ⟨z, hz⟩:=zae hl
   rw [zfw hz]
   exact Nat.le_trans ih (z2u _ _)
  ·have:zeg S zs (i + 1) = zeg S zs i:=by unfold zeg; rw [List.take_of_length_le hl, List.take_of_length_le (by omega)]
   rw [this]; exact ih
theorem zj2 {S:Sto} {zs:List ZO} {r:Int} (hr:r ≤ S.R.length) {t:List U}:∀ i:Nat, kpt (zeg S zs i).R r = some t → kpt S.R r = some t
 | 0, h => h
 | i + 1, h => by
  rcases Nat.lt_or_ge i zs.length with hl | hl
  ·obtain ⟨z, hz⟩:=zae hl
   rw [zfw hz] at h
   exact zj2 hr i (z2i (by have:=zjq (S:=S) (zs:=zs) i; omega) h)
  ·have:zeg S zs (i + 1) = zeg S zs i:=by unfold zeg; rw [List.take_of_length_le hl, List.take_of_length_le (by omega)]
   rw [this] at h
   exact zj2 hr i h
def tS (S:Sto) (r:Int):List U:=(kpt S.R r).getD []
theorem zqn {n:Nat} {S:Sto} (_hj:JJ n S) {r:Int} (hr:r ∈ zaz S.R):kpt S.R r = some (tS S r) ∧ atS S r = (tS S r, 0) ∧ 0 < r ∧ r ≤ S.R.length:=by
 have h1:=zd3.1 hr
 have h2:=zec h1
 obtain ⟨t, ht⟩:=Option.isSome_iff_exists.1 h1
 have h3:tS S r = t:=by unfold tS; rw [ht]; rfl
 rw [h3]
 exact ⟨ht, by unfold atS; rw [if_neg (by omega), ht], h2.1, h2.2⟩
theorem z33 {S S2:Sto} {r:Int} (h0:r ≠ 0) {t:List U} (ht:kpt S.R r = some t) (hk:∀ t', kpt S2.R r = some t' → kpt S.R r = some t'):atS S2 r = (t, 0) ∨ atS S2 r = ([], 14):=by
 unfold atS
 rw [if_neg h0]
 cases h:kpt S2.R r with
 | none => exact .inr rfl
 | some t' =>
  have:=hk t' h
  rw [ht] at this
  cases this
  exact .inl rfl
abbrev z09:TypeId:=50
theorem zmp (S:Sto) (i:Nat):zft fun (bs:List SB) (H:Heap) => SbOK bs H ∧ bs.map (·.1) = ((zaz S.R).take i).map (tS S):=fun _ _ _ ⟨h1, h2⟩ hle => ⟨h1.le hle, h2⟩
abbrev z5o (S:Sto) (i:Nat):Res:=ExR (fun bs:List SB => SlR zza 4 bs.length (bs.flatMap sbc)) (fun bs H => SbOK bs H ∧ bs.map (·.1) = ((zaz S.R).take i).map (tS S)) (zmp S i)
def LsOK (ts:List (List U)) (vs:List Value) (H:Heap):Prop:=vs.length = ts.length ∧ ∀ (j:Nat) t v, ts[j]? = some t → vs[j]? = some v → US t true v H
theorem LsOK.le {ts:List (List U)} {vs:List Value} {H H':Heap} (h:LsOK ts vs H) (hle:H.Le H'):LsOK ts vs H':=⟨h.1, fun j t v h1 h2 => (h.2 j t v h1 h2).le hle⟩
theorem lst_mono (S:Sto) (i:Nat):zft fun (vs:List Value) (H:Heap) => LsOK (((zaz S.R).take i).map (tS S)) vs H:=fun _ _ _ h hle => h.le hle
abbrev z5k (S:Sto) (i:Nat):Res:=ExR (fun vs:List Value => SlR z09 1 vs.length vs) (fun vs H => LsOK (((zaz S.R).take i).map (tS S)) vs H) (lst_mono S i)
theorem LsOK.snoc {ts:List (List U)} {vs:List Value} {t:List U} {v:Value} {H:Heap} (h:LsOK ts vs H) (hv:US t true v H):LsOK (ts ++ [t]) (vs ++ [v]) H:=by
 refine ⟨by rw [List.length_append, List.length_append, h.1]; rfl, fun j t' v' h1 h2 => ?_⟩
 rcases Nat.lt_or_ge j ts.length with hl | hl
 ·rw [List.getElem?_append_left hl] at h1
  rw [List.getElem?_append_left (by rw [h.1]; exact hl)] at h2
  exact h.2 j t' v' h1 h2
 ·rw [List.getElem?_append_right hl] at h1
  rw [List.getElem?_append_right (by rw [h.1]; exact hl)] at h2
  rw [h.1] at h2
  obtain ⟨m, hm⟩:∃ m, j - ts.length = m:=⟨_, rfl⟩
  rw [hm] at h1 h2
  cases m with
  | zero => cases h1; cases h2; exact hv
  | succ m => cases h1
theorem SbOK.snoc {bs:List SB} {b:SB} {H:Heap} (h:SbOK bs H) (hb:SetV b.1 (sbv b) H):SbOK (bs ++ [b]) H:=fun x hx => by
 rcases List.mem_append.1 hx with hx | hx
 ·exact h x hx
 ·rw [List.mem_singleton.1 hx]; exact hb
theorem z1v {vs:List Value} {i:Nat} {v:Value} (h:vs[i]? = some v):(vs.drop (i * 1)).take 1 = [v]:=by
 rw [Nat.mul_one, List.drop_eq_getElem_cons (get_lt h), zdn h]; rfl
attribute [local irreducible] V N X VO Par StepOK Has Ret RetL RetO RetT zb7 zdu RetY Src
set_option maxHeartbeats 4000000 in
set_option maxRecDepth 20000 in
theorem zm4 {zs ys:List ZO} {xv yv:Value} {w:World} {B:Heap} (hB:B.Le (hp w)) (hx:WsV zs xv B) (ho:OzOK zs B) (hy:WsV ys yv B) (hoy:OzOK ys B):Ret Tryz.prog 3 [.agg #[xv], .agg #[yv]] w B (fun v _ => v = .bool true):=by
 obtain ⟨px, cx, rfl⟩:=zat hx
 obtain ⟨py, cy, rfl⟩:=zat hy
 have hj:=zu3 zu5 (zs:=zs) (by omega)
 obtain ⟨S, hS⟩:∃ S, zrn newS zs = S:=⟨_, rfl⟩
 refine yh Tryz.func3 rfl Tryz.ntmps3 (Nat.le_of_ble_eq_true rfl) hB ?_
 refine Z209 ?_; refine Z161 ?_; refine z7 (zea L rfl rfl (zk rfl) rfl rfl rfl (fun u H hH hle _ => zwy hH)) rfl ?_; refine ql (yl (.inr rfl) rfl rfl rfl rfl) ?_; refine Z191 ?_
 refine ziz 5 900 rfl fun x => ?_
 obtain ⟨pb, b⟩:=x
 refine Z171 ?_; refine z7 (zq L (vs:=[_]) (qm rfl) rfl rfl rfl rfl ⟨_, rfl⟩) rfl ?_; refine ql (zag L 900 (BoG pb b S) (.int .i64 1) (r:=BoG pb b newS) rfl rfl rfl rfl rfl (fun u H2 C2 hH hle hr2 hC2 => by have h:=zp5 zu5 (by omega) hH (hx.le (hle)) (ho.le (hle)) hr2 hC2; rw [hS] at h; exact zdm h)) ?_; refine Z236 ?_
 rw [hS] at hj
 have hne:=hj.ne
 have hR:=hj.hR
 have hP:=hj.hP
 have hkl:=zed S.R
 rw [zpg pb b S]
 refine zga 900 901 rfl (zau (StG b S)) ?_
 rw [zph pb b S]
 refine zc5 900 rfl fun x H0 hs0 hφ => ?_
 obtain ⟨lv, pv⟩:=x
 obtain ⟨hl, hpv⟩:=hφ
 dsimp only at hl hpv ⊢
 refine Z160 ?_; refine Z263 ?_; refine yw (zbp L 901 (RsV (zaz S.R) true) (r:=StG b S) rfl rfl rfl rfl rfl SlV.mono (fun u H2 C2 hH hle hr2 hC2 => zm7 hne (by omega) hH hr2 hC2)) ?_; refine Z362 ?_; refine Z41 ?_; refine Z143 ?_; refine Z42 ?_; refine Z147 ?_
 refine zdj 7 zza 4 rfl ?_
 refine zvt (X:=List SB) 7 (r:=fun bs => SlR zza 4 bs.length (bs.flatMap sbc)) (φ:=fun bs H => SbOK bs H ∧ bs.map (·.1) = ((zaz S.R).take 0).map (tS S)) (zmp S 0) [] ⟨fun _ h => (by cases h), rfl⟩ rfl ?_
 refine zdj 8 z09 1 rfl ?_
 refine zvt (X:=List Value) 8 (r:=fun vs => SlR z09 1 vs.length vs) (φ:=fun vs H => LsOK (((zaz S.R).take 0).map (tS S)) vs H) (lst_mono S 0) [] ⟨rfl, fun _ _ _ h => (by cases h)⟩ rfl ?_
 refine Z43 ?_; refine Z199 ?_
 refine zai (fun i:Nat => [(3, .sat (At [.slice py ys.length cy] 24 0)), (5, .is (zio pb)), (6, .sat (RsV (zaz S.R) true)), (7, .own (z5o S i)), (8, .own (z5k S i)), (9, .is (.int .i64 i)), (900, .own (zaj pb [zio b, lv, pv] zzb)), (901, .own (StG b S).res)]) (fun i => i ≤ (zaz S.R).length) (fun i => (zaz S.R).length - i) 0 (Nat.zero_le _) ⟨rfl, rfl, rfl, rfl, rfl, rfl, rfl, rfl, trivial⟩ ?_
 rintro i hi
 dsimp only
 by_cases hlt:i < (zaz S.R).length
 ·obtain ⟨r, hr⟩:=zae hlt
  have hcr:=zjl hr
  obtain ⟨ht0, hat, hr0, hr1⟩:=zqn hj (List.mem_of_getElem? hr)
  have htl:=(hj.so _ _ ht0).2
  have hwk:IntKind.i64.wrap ((i:Int) + 1) = ((i + 1:Nat):Int):=zaa (by omega) (by omega)
  have hms:Kn.mono (.sat (SetV (tS S r))):=SetV.mono
  have hnx:((zaz S.R).take (i + 1)).map (tS S) = ((zaz S.R).take i).map (tS S) ++ [tS S r]:=by rw [zb2 hr, List.map_append]; rfl
  refine Z283 ?_; refine Z205 ?_
  refine qd (id:=10) [(200036, [900]), (200041, [901])] mixed (by kernel_rfl) ?_; refine Z181 ?_; refine Z77 ?_; refine Z190 ?_; refine z8 (qu L _ rfl rfl rfl rfl rfl rfl rfl (by first | omega | decide) (by assumption)) rfl ?_; refine Z104 ?_; refine qq (zbp L 901 (WithT (tS S r) 0) (r:=StG b S) rfl rfl rfl rfl rfl WithT.mono (fun u H2 C2 hH hle hr2 hC2 => zlv hat hne hH hr2 hC2)) rfl rfl ?_; refine Z387 ?_; refine Z110 ?_; refine Z132 ?_; refine z8 (zfj L (X:=SXp) (fun x => scs x.1) (zrg (tS S r)) (zca _) zm9 (fun x => ⟨rfl, x.2⟩) rfl rfl rfl rfl rfl) rfl ?_; refine Z177 ?_; refine Z139 ?_
  refine zc5 10 rfl fun x H1 hs1 hset => ?_
  obtain ⟨⟨f1, p1, f2, p2⟩, hpl⟩:=x
  dsimp only [scs] at hset hpl ⊢
  refine zc5 7 rfl fun bs H2 hs2 hbs => ?_
  obtain ⟨hsb, hbm⟩:=hbs
  have hbl:bs.length = i:=by have:=congrArg List.length hbm; rw [List.length_map, List.length_map, List.length_take] at this; omega
  replace hset:=SetV.le hset hs2.le
  refine Z268 ?_; refine Z227 ?_
  refine Z81 ?_; refine ql (yl (.inl rfl) rfl rfl rfl rfl) ?_; refine z7 (zq L (vs:=[_, _, _, _]) (yj rfl) rfl rfl rfl rfl ⟨_, rfl⟩) rfl ?_; refine Z32 ?_; refine ql (zbx (s:=4) L rfl rfl rfl (zgq rfl) rfl z5i rfl hpl (by omega) (by omega)) ?_; refine ql (yl (.inr rfl) rfl rfl rfl rfl) ?_; refine Z137 ?_
  refine zc5 8 rfl fun vs H3 hs3 hvs => ?_
  have hvl:vs.length = i:=by rw [hvs.1, List.length_map, List.length_take]; omega
  replace hset:=SetV.le hset hs3.le
  refine Z71 ?_; refine ql (yl (.inl rfl) rfl rfl rfl rfl) ?_; refine z7 (zq L (vs:=[_, _, _, _]) (yj rfl) rfl rfl rfl rfl ⟨_, rfl⟩) rfl ?_; refine z7 (yq (φ:=US (tS S r) true) L rfl rfl (zk rfl) rfl rfl rfl SlV.mono (fun u H hH hle _ => zel (by omega) hH (SetV.le hset hle))) rfl ?_; refine zbu 52 rfl fun v1 H4 hs4 hlv => ?_; obtain ⟨p3, c3, rfl⟩:=zat hlv; refine Z32 ?_; refine ql (zbx L rfl rfl rfl (zgq rfl) rfl z5h rfl rfl (by omega) (by omega)) ?_; refine ql (yl (.inr rfl) rfl rfl rfl rfl) ?_; refine Z235 ?_
  refine Z275 ?_; refine Z211 ?_
  refine zll (X:=List SB) 7 (r:=fun bs => SlR zza 4 bs.length (bs.flatMap sbc)) (φ:=fun bs H => SbOK bs H ∧ bs.map (·.1) = ((zaz S.R).take (i + 1)).map (tS S)) (zmp S (i + 1)) (bs ++ [(tS S r, f1, p1, f2, p2)]) ⟨(hsb.le (hs3.trans hs4).le).snoc (SetV.le hset hs4.le), by rw [List.map_append, hbm, hnx]; rfl⟩ (by rw [List.length_append, List.flatMap_append]; rfl) ?_
  refine zll (X:=List Value) 8 (r:=fun vs => SlR z09 1 vs.length vs) (φ:=fun vs H => LsOK (((zaz S.R).take (i + 1)).map (tS S)) vs H) (lst_mono S (i + 1)) (vs ++ [.slice p3 (tS S r).length c3]) (by rw [hnx]; exact (hvs.le hs4.le).snoc hlv) (by rw [List.length_append]; rfl) ?_
  exact ze3 (x:=i) (i + 1) (hs1.trans (hs2.trans (hs3.trans hs4))) hlt (by omega) ⟨rfl, rfl, rfl, rfl, rfl, rfl, rfl, rfl, trivial⟩
 ·obtain rfl:i = (zaz S.R).length:=by omega
  refine Z283 ?_; refine Z265 ?_
  refine zc5 7 rfl fun bs H1 hs1 hbs => ?_
  refine zc5 8 rfl fun vs H2 hs2 hvs => ?_
  rw [List.take_length] at hvs
  obtain ⟨hsb, hbm⟩:=hbs
  rw [List.take_length] at hbm
  have hbl:bs.length = (zaz S.R).length:=by have:=congrArg List.length hbm; rwa [List.length_map, List.length_map] at this
  have hvl:vs.length = (zaz S.R).length:=by rw [hvs.1, List.length_map]
  refine zb3 7 rfl ?_
  refine zb3 8 rfl ?_
  refine Z384 ?_; refine Z263 ?_; refine yw (za7 L 901 (c:=.int .u64 S.R.length) rfl rfl (zk rfl) rfl rfl rfl rfl rfl zqi (fun u H hH hle hb => zqj hne hH hb)) ?_; refine Z147 ?_
  have hj2:=zu3 hj (zs:=ys) (by omega)
  obtain ⟨S2, hS2⟩:∃ S2, zrn S ys = S2:=⟨_, rfl⟩
  rw [hS2] at hj2
  have hne2:=hj2.ne
  have hlen2:S.R.length ≤ S2.R.length:=by rw [← hS2]; exact zjq _
  have hkp:∀ r:Int, r ≤ S.R.length → ∀ t', kpt S2.R r = some t' → kpt S.R r = some t':=fun r hr t' h => by rw [← hS2] at h; exact zj2 hr _ h
  have hs12:=hs1.trans hs2
  refine zct 900 (BhG pb b S).res rfl (zlk (hl.le hs12.le) (hpv.le hs12.le)) ?_
  refine zb1 900 901 rfl rfl (zau (StG b S)) ?_
  have hyB:=hy.le (hs0.trans hs12).le
  have hoyB:=hoy.le (hs0.trans hs12).le
  refine Z99 ?_; refine Z1 ?_; refine z7 (zq L (vs:=[_]) (qm rfl) rfl rfl rfl rfl ⟨_, rfl⟩) rfl ?_; refine ql (zag L 900 (BoG pb b S2) (.int .i64 1) (r:=BoG pb b S) rfl rfl rfl rfl rfl (fun u H2 C2 hH hle hr2 hC2 => by have h:=zp5 hj (by omega) hH (hyB.le hle) (hoyB.le hle) hr2 hC2; rw [hS2] at h; exact zdm h)) ?_; rw [zpg pb b S2]; refine zy5 900 901 rfl (zau (StG b S2)) ?_; rw [zph pb b S2]; refine zy6 900 rfl fun x H3 hs3 hφ3 => ?_; obtain ⟨lv2, pv2⟩:=x; obtain ⟨hl2, hpv2⟩:=hφ3; dsimp only at hl2 hpv2 ⊢; refine Z13 ?_; refine Z140 ?_; refine Z263 ?_; refine yw (za7 L 901 (c:=.int .u64 S2.R.length) rfl rfl (zk rfl) rfl rfl rfl rfl rfl zqi (fun u H hH hle hb => zqj hne2 hH hb)) ?_; refine Z1 ?_; refine Z10 ?_; refine Z8 ?_; refine Z167 ?_
  refine Z100 ?_; refine Z199 ?_
  have hs123:=hs12.trans hs3
  replace hsb:=hsb.le (hs2.trans hs3).le
  replace hvs:=hvs.le hs3.le
  refine zai (fun k:Nat => [(5, .is (zio pb)), (6, .sat (RsV (zaz S.R) true)), (7, .sat (SlV zza 4 (bs.flatMap sbc) bs.length false)), (8, .sat (SlV z09 1 vs vs.length false)), (13, .is (.int .i64 k)), (900, .own (zaj pb [zio b, lv2, pv2] zzb)), (901, .own (StG b S2).res)]) (fun k => k ≤ (zaz S.R).length) (fun k => (zaz S.R).length - k) 0 (Nat.zero_le _) ⟨rfl, rfl, rfl, rfl, rfl, rfl, rfl, trivial⟩ ?_
  rintro k hk
  by_cases hlk:k < (zaz S.R).length
  ·obtain ⟨r, hr⟩:=zae hlk
   have hcr:=zjl hr
   obtain ⟨ht0, hat, hr0, hr1⟩:=zqn hj (List.mem_of_getElem? hr)
   have htl:=(hj.so _ _ ht0).2
   have hwk:IntKind.i64.wrap ((k:Int) + 1) = ((k + 1:Nat):Int):=zaa (by omega) (by omega)
   obtain ⟨x0, hb0⟩:=zae (show k < bs.length by omega)
   obtain ⟨v0, hv0⟩:=zae (show k < vs.length by omega)
   have htk:((zaz S.R).map (tS S))[k]? = some (tS S r):=by rw [List.getElem?_map, hr]; rfl
   have hus:=hvs.2 k _ _ htk hv0
   have hb1:x0.1 = tS S r:=by
    have:=congrArg (·[k]?) hbm
    simp only [List.getElem?_map, hb0, hr] at this
    exact Option.some.inj this
   obtain ⟨t9, f1, p1, f2, p2⟩:=x0
   dsimp only at hb1
   subst hb1
   have hsr:SetV (tS S r) (sbv (tS S r, f1, p1, f2, p2)) _:=hsb _ (List.mem_of_getElem? hb0)
   have hc7:=z3t hb0
   have hc8:=z1v hv0
   obtain ⟨p9, c9, rfl⟩:=zat hus
   rcases z33 (by omega) ht0 (hkp r hr1) with hlt2 | hlt2
   ·have hms:Kn.mono (.sat (SetV (tS S r))):=SetV.mono
    refine Z139 ?_; refine Z116 ?_; refine Z1 ?_; refine Z205 ?_
    refine qd (id:=21) [(200083, [900]), (200088, [901])] mixed (by kernel_rfl) ?_; refine Z181 ?_; refine Z77 ?_; refine Z190 ?_; refine z8 (qu L _ rfl rfl rfl rfl rfl rfl rfl (by first | omega | decide) (by assumption)) rfl ?_; refine Z104 ?_; refine qq (zbp L 901 (WithT (tS S r) 0) (r:=StG b S2) rfl rfl rfl rfl rfl WithT.mono (fun u H2 C2 hH hle hr2 hC2 => zlv hlt2 hne2 hH hr2 hC2)) rfl rfl ?_; refine Z387 ?_; refine Z110 ?_; refine Z132 ?_; refine z8 (zfj L (X:=SXp) (fun x => scs x.1) (zrg (tS S r)) (zca _) zm9 (fun x => ⟨rfl, x.2⟩) rfl rfl rfl rfl rfl) rfl ?_; refine Z243 ?_
    refine zc5 14 rfl fun x H1 hs1 hset => ?_
    obtain ⟨⟨f3, p3, f4, p4⟩, hpl⟩:=x
    dsimp only [scs] at hset hpl ⊢
    replace hsr:=hsr.le hs1.le
    replace hus:=hus.le hs1.le
    refine qd (id:=22) [] mixed (by kernel_rfl) ?_; refine Z190 ?_; refine z8 (qu L _ rfl rfl rfl rfl rfl rfl rfl (by first | omega | decide) (by assumption)) rfl ?_; refine z8 (yf L (vs:=[_, _, _, _]) rfl rfl rfl rfl rfl ⟨_, rfl⟩) rfl ?_; refine z8 (yq (φ:=US (tS S r) true) L rfl rfl (zk rfl) rfl rfl rfl SlV.mono (fun u H hH hle _ => zel (by omega) hH (hsr.le hle))) rfl ?_; refine Z190 ?_; refine z8 (qu L _ rfl rfl rfl rfl rfl rfl rfl (by first | omega | decide) (by assumption)) rfl ?_; refine Z104 ?_; refine z8 (zp L rfl rfl (zk rfl) rfl rfl rfl (fun u H hH hle _ v1 h1 => zem (by omega) (by omega) (if_pos rfl) hH h1 (hus.le hle))) rfl ?_; refine Z73 ?_; refine Z145 ?_; refine Z92 ?_; refine Z3 ?_; refine z8 (zq L (vs:=[_, _, _, _]) (yj rfl) rfl rfl rfl rfl ⟨_, rfl⟩) rfl ?_; refine z8 (yq (φ:=US (tS S r) true) L rfl rfl (zk rfl) rfl rfl rfl SlV.mono (fun u H hH hle _ => zel (by omega) hH (SetV.le hset hle))) rfl ?_; refine Z190 ?_; refine z8 (qu L _ rfl rfl rfl rfl rfl rfl rfl (by first | omega | decide) (by assumption)) rfl ?_; refine Z104 ?_; refine z8 (zp L rfl rfl (zk rfl) rfl rfl rfl (fun u H hH hle _ v1 h1 => zem (by omega) (by omega) (if_pos rfl) hH h1 (hus.le hle))) rfl ?_; refine Z73 ?_; refine Z37 ?_; refine Z37 ?_; refine Z145 ?_; refine Z135 ?_; refine Z3 ?_; refine Z152 ?_; refine Z37 ?_; refine Z203 ?_; refine Z309 ?_; refine Z89 ?_; refine Z1 ?_; refine Z211 ?_
    exact ze3 (x:=k) (k + 1) hs1 hlk (by omega) ⟨rfl, rfl, rfl, rfl, rfl, rfl, rfl, trivial⟩
   ·have hms:Kn.mono (.sat (SetV [])):=SetV.mono
    refine Z139 ?_; refine Z116 ?_; refine Z1 ?_; refine Z205 ?_
    refine qd (id:=21) [(200083, [900]), (200088, [901])] mixed (by kernel_rfl) ?_; refine Z181 ?_; refine Z77 ?_; refine Z190 ?_; refine z8 (qu L _ rfl rfl rfl rfl rfl rfl rfl (by first | omega | decide) (by assumption)) rfl ?_; refine Z104 ?_; refine qq (zbp L 901 (WithT [] 14) (r:=StG b S2) rfl rfl rfl rfl rfl WithT.mono (fun u H2 C2 hH hle hr2 hC2 => zlv hlt2 hne2 hH hr2 hC2)) rfl rfl ?_; refine Z387 ?_; refine Z110 ?_; refine Z132 ?_; refine z8 (zfj L (X:=SXp) (fun x => scs x.1) (zrg []) (zca _) zm9 (fun x => ⟨rfl, x.2⟩) rfl rfl rfl rfl rfl) rfl ?_; refine Z243 ?_
    refine zc5 14 rfl fun x H1 hs1 hset => ?_
    obtain ⟨⟨f3, p3, f4, p4⟩, hpl⟩:=x
    dsimp only [scs] at hset hpl ⊢
    replace hsr:=hsr.le hs1.le
    replace hus:=hus.le hs1.le
    refine qd (id:=22) [] mixed (by kernel_rfl) ?_; refine Z190 ?_; refine z8 (qu L _ rfl rfl rfl rfl rfl rfl rfl (by first | omega | decide) (by assumption)) rfl ?_; refine z8 (yf L (vs:=[_, _, _, _]) rfl rfl rfl rfl rfl ⟨_, rfl⟩) rfl ?_; refine z8 (yq (φ:=US (tS S r) true) L rfl rfl (zk rfl) rfl rfl rfl SlV.mono (fun u H hH hle _ => zel (by omega) hH (hsr.le hle))) rfl ?_; refine Z190 ?_; refine z8 (qu L _ rfl rfl rfl rfl rfl rfl rfl (by first | omega | decide) (by assumption)) rfl ?_; refine Z104 ?_; refine z8 (zp L rfl rfl (zk rfl) rfl rfl rfl (fun u H hH hle _ v1 h1 => zem (by omega) (by omega) (if_pos rfl) hH h1 (hus.le hle))) rfl ?_; refine Z73 ?_; refine Z145 ?_; refine Z73 ?_; refine Z238 ?_; refine Z37 ?_; refine Z37 ?_; refine Z145 ?_; refine z8 (yo rfl rfl rfl rfl (decide_eq_true (by omega))) rfl ?_; refine Z145 ?_; refine Z135 ?_; refine Z37 ?_; refine Z203 ?_; refine Z309 ?_; refine Z89 ?_; refine Z1 ?_; refine Z211 ?_
    exact ze3 (x:=k) (k + 1) hs1 hlk (by omega) ⟨rfl, rfl, rfl, rfl, rfl, rfl, rfl, trivial⟩
  ·obtain rfl:k = (zaz S.R).length:=by omega
   refine Z139 ?_; refine Z116 ?_; refine Z1 ?_; refine Z265 ?_; refine zf (id:=24) ?_; refine z7 (zp L rfl rfl (zk rfl) rfl rfl rfl (fun u H hH _ _ => zo2 hH)) rfl ?_; refine Z138 ?_
   refine yd L (rs:=[.tmp 4]) rfl (fun _ _ h => h) (hs0.trans hs123) fun u H hH hle => ?_
   rfl
end Go.V.L10
set_option maxRecDepth 20000
namespace Go.V.L10
open Go.Proofs Go.ChangeShapes Go.RowKit Go.V
theorem storesAt_in {W:World} {cs ds:List Value} (l0:zf4 (WwP (hp W)) cs) (l1:zf4 (WwP (hp W)) ds):Ret Tryz.prog 3 [.agg cs.toArray, .agg ds.toArray] W (hp W) (fun v _ => v = .bool true):=by
 obtain ⟨xv, zs, rfl, hx, ho⟩:=z06 l0
 obtain ⟨yv, ys, rfl, hy, hoy⟩:=z06 l1
 exact zm4 (Heap.Le.refl _) hx ho hy hoy
end Go.V.L10
set_option maxRecDepth 20000
namespace Go.Proofs.YtcppaheijljnfaaGreat.storesAt
open Go.ChangeShapes Go.WideShapes Go.ChangeAt Go.ChangeMaps Go.RowKit Go.V Go.V.L10
theorem own : ownKnob Tryz.prog.godebug = none := by kernel_rfl
theorem laidOut : laidOutB Tryz.prog = true := by kernel_rfl
theorem la0 : (match Tryz.prog.underlying 24 with | some (.struct _) | some (.array _ _) => true | _ => false) = true := by kernel_rfl
theorem lr1 : Tryz.prog.readableRec 24 = true := by kernel_rfl
theorem lt1 : 24 < Tryz.prog.types.size := of_decide_eq_true (by kernel_rfl)
set_option maxRecDepth 100000 in
theorem lifted (os : Os) (started : os.Started) (H : Type) (enc : TypeId × Value → H) :
    ReturnsInHanded {} Tryz.checked os 3 .any (Rows.storesAtSpec.pre6 enc Tryz.prog Tryz.f3 Rows.storesAtRow.domain false) (Rows.storesAtSpec.post enc Tryz.prog Tryz.f3 false true false false) := by
  refine returnsInHanded_of_change_shaped (C := Tryz.checked) own started (by kernel_rfl) Tryz.func3
    (ChangeSpec.witness6 (enc := enc) (C := Tryz.checked) false ⟨#[], #[.agg #[.slice none 0 0], .agg #[.slice none 0 0]], []⟩ 8 (by kernel_rfl) (by kernel_rfl) (by kernel_rfl) (by kernel_rfl)) ?_
  intro W base args ds gs before hval0 hW hcnd hsz hsh _
  have hval : ∀ (j : Nat) t v, Tryz.f3.params[j]? = some t → args[j]? = some v → Value.okWide Tryz.prog W .any base t v := hval0
  have hW' := hW
  obtain ⟨p, q, hA0, hV, rfl, hfz, hnd⟩ := hW
  have hA : DataW.TrodAll enc Tryz.prog W 0 (fun _ => true) true Tryz.f3.params.toList args.toList ds p := hA0
  rw [Tryz.params3] at hA hval hsz
  obtain ⟨v0, v1, d0, d1, p0, p1, rfl, rfl, rfl, h0, h1⟩ := trodAll_two hA
  obtain ⟨rfl, rfl⟩ := trodVars_none hV
  clear hA0 hval0
  obtain ⟨c0, rfl, l0⟩ := open_agD reads_ww la0 (hval 0 24 v0 rfl rfl) h0 (wt_at hsz 0 rfl rfl)
  obtain ⟨c1, rfl, l1⟩ := open_agD reads_ww la0 (hval 1 24 v1 rfl rfl) h1 (wt_at hsz 1 rfl rfl)
  have hplc := hW'.lt
  simp only [List.append_nil] at hW'
  have hlaw := Go.V.L10.storesAt_in l0 l1
  unfold Ret at hlaw
  refine hlaw.mono fun e W' hp => ?_
  obtain ⟨v, rfl, H', g, rfl⟩ := hp
  refine ⟨_, rfl, _, _, _, [], p0 ++ (p1 ++ ([])), [], hW', trodAll_cons_mk (shut_bool Tryz.underlying4 _) trodAll_mk0, ?_, rfl, g.below.frame _, fun h => by cases h⟩
  exact trodAll_cons_mk (Below.trod laidOut lr1 lt1 h0 g.below (fun x hx => hplc x (by simp [hx]))) (trodAll_cons_mk (Below.trod laidOut lr1 lt1 h1 g.below (fun x hx => hplc x (by simp [hx]))) trodAll_mk0)
theorem proved : Rows.StoresAtSaid :=
  OpenClaim.holds_of_wide 3 Tryz.f3 rfl rfl rfl rfl rfl rfl rfl ⟨rfl, rfl, rfl, rfl, rfl⟩ rfl rfl rfl rfl rfl (by kernel_rfl) Tryz.func3 (by kernel_rfl)
    (of_decide_eq_true (by kernel_rfl)) (by unfold Func.isWrapper; first | (rw [if_pos (by decide +kernel)]; kernel_rfl) | (rw [if_neg (by decide +kernel)]; exact ⟨rfl, rfl⟩))
    (fun os started H enc _ => lifted os started H enc)
#print axioms proved
end Go.Proofs.YtcppaheijljnfaaGreat.storesAt
