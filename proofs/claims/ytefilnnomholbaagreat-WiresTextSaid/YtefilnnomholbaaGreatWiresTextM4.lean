/- Texts on the way to WiresText, part 4: one behind another. -/
import Derived.Test.YtefilnnomholbaaGreatWiresTextM3
import Derived.Laws.Build
import Derived.WalkSmall
set_option linter.unusedVariables false
set_option linter.unusedSimpArgs false
set_option maxRecDepth 20000
namespace Go.V.L2
open Go.Proofs Go.RowKit Go.V
theorem _root_.Go.V.ZdA {A B:Prop} (h:B) (t:Wr B → A:=by intro h; refine zh (id:=18) ?_;exact h.h):A:=t ⟨h⟩
theorem _root_.Go.V.Za9 {A B:Prop} (h:B) (t:Wr B → A:=by intro h; refine zh (id:=17) ?_;exact h.h):A:=t ⟨h⟩
theorem _root_.Go.V.ZbH {A B:Prop} (h:B) (t:Wr B → A:=by intro h; refine ZF ?_;refine Za ?_;exact h.h):A:=t ⟨h⟩
theorem _root_.Go.V.ZbI {A B:Prop} (h:B) (t:Wr B → A:=by intro h; refine ZbB ?_;refine Za ?_;exact h.h):A:=t ⟨h⟩
theorem _root_.Go.V.Zcc {A B:Prop} (h:B) (t:Wr B → A:=by intro h; refine Zb ?_;refine Zz ?_;exact h.h):A:=t ⟨h⟩
theorem z1f (a:ByteArray):pgA a = if (rp1 a).2.2.2.1 = false then (zdi, zdi, zdi, 5) else if (rp1 a).2.2.2.2 = 0 then ((rp1 a).1, (rp1 a).2.1, (rp1 a).2.2.1, 0) else (zdi, zdi, zdi, (rp1 a).2.2.2.2):=by
 unfold pgA rp1
 rcases zbx a with _ | ⟨x, y, z, d⟩
 ·rfl
 ·cases d
  ·rfl
  ·simp only [if_true]
theorem z3j (a:ByteArray):psA a = if (rp1 a).2.2.2.2 = 0 then ((rp1 a).1, (rp1 a).2.1, (rp1 a).2.2.1, 0) else (zdi, zdi, zdi, (rp1 a).2.2.2.2):=by
 unfold psA rp1
 rcases zbx a with _ | ⟨x, y, z, d⟩
 ·rfl
 ·dsimp only
  cases d
  ·simp
  ·simp only [if_true, zcf]
   rcases zbo x with h1 | h1 <;> rcases zbo y with h2 | h2 <;> rcases zbo z with h3 | h3 <;> simp [h1, h2, h3]
theorem z5x {l a b:List UInt8} {c:UInt8} {k:Nat} (e:l = a ++ c :: b) (ha:c ∉ a) (hb:c ∉ b) (hk:l[k]? = some c):k = a.length:=by
 subst e
 rcases Nat.lt_trichotomy k a.length with h | h | h
 ·rw [List.getElem?_append_left h] at hk
  exact absurd (List.mem_of_getElem? hk) ha
 ·exact h
 ·rw [List.getElem?_append_right (by omega), show k - a.length = (k - a.length - 1) + 1 by omega, List.getElem?_cons_succ] at hk
  exact absurd (List.mem_of_getElem? hk) hb
attribute [local irreducible] V N X VO Par StepOK Has Ret RetL Src
set_option maxHeartbeats 4000000 in
theorem zj2 {s:ByteArray} {r:U × Int} (hr:ptA s = r) (hs:s.size ≤ 1000000) {w:World} {B:Heap} (hB:B.Le (hp w)) :
  Ret Tryz.prog 39 [.string s] w B (fun v _ => v = .tuple #[uv r.1, .int .i64 r.2]):=by
 subst hr
 have hlen:=za9 s
 refine qw Tryz.func39 rfl Tryz.ntmps39 (Nat.le_of_ble_eq_true rfl) hB ?_
 refine ZaI ?_;refine Zap ?_;refine ZdS ?_;refine ZU ?_;refine ZS ?_
 refine zam (fun x:Nat × Nat × Nat => [(0, .is (.string s)), (2, .own (Cell [.string ⟨#[]⟩, .string ⟨#[]⟩, .string ⟨#[]⟩, .string ⟨#[]⟩, .string ⟨#[]⟩, .string ⟨#[]⟩] tyU)), (4, .is (.int .i64 x.2.1)), (5, .is (.int .i64 x.2.2)), (6, .is (.int .i64 x.1))])
  (fun x => x.1 ≤ s.size ∧ x.2.2 = (s.data.toList.take x.1).count 64 ∧ x.2.2 ≤ x.1 ∧ (x.2.2 = 1 → x.2.1 < s.size ∧ s.data.toList[x.2.1]? = some 64)) (fun x => s.size - x.1) (0, 0, 0)
  ⟨Nat.zero_le _, by simp, Nat.le_refl _, fun h => by cases h⟩ ⟨rfl, rfl, rfl, rfl, rfl, trivial⟩ ?_
 rintro ⟨i, k, n⟩ ⟨hi, hn, hni, hk⟩
 dsimp only at hi hn hni hk ⊢
 by_cases hlt:i < s.size
 ·obtain ⟨x, hc⟩:=getElem?_lt hlt
  have hd:s.data.toList[i]? = some x:=by
   have:s.data[i]? = some x:=hc
   simpa using this
  have htk:s.data.toList.take (i + 1) = s.data.toList.take i ++ [x]:=by rw [List.take_add_one, hd]; rfl
  by_cases hx:x = 64
  ·subst hx
   refine ZaQ ?_;refine ZaT ?_;refine Z2 ?_;refine ZaM ?_;refine z7 (yg rfl rfl rfl rfl rfl) rfl ?_;refine Zs ?_;refine ZJ ?_;refine Zc ?_;refine ZO ?_;refine ZaP ?_;refine Za5 ?_;refine Zd2 ?_
   exact y9 (x:=(i, k, n)) (i + 1, i, n + 1) ⟨hlt, by dsimp only; rw [htk, List.count_append, ← hn]; rfl, by dsimp only; omega, fun _ => ⟨hlt, hd⟩⟩ (by dsimp only; omega) ⟨rfl, rfl, rfl, rfl, rfl, trivial⟩
  ·have hxc:(x.toNat:Int) ≠ 64:=fun e => hx (UInt8.toNat_inj.1 (by show x.toNat = 64; omega))
   refine ZaQ ?_;refine ZaT ?_;refine Z2 ?_;refine ZaM ?_;refine ZR ?_;refine ZaO ?_;refine Zd2 ?_
   exact y9 (x:=(i, k, n)) (i + 1, k, n) ⟨hlt, by dsimp only; rw [htk, List.count_append, ← hn, List.count_cons_of_ne hx]; rfl, by dsimp only; omega, hk⟩ (by dsimp only; omega) ⟨rfl, rfl, rfl, rfl, rfl, trivial⟩
 ·obtain rfl:i = s.size:=by omega
  rw [List.take_of_length_le (by omega)] at hn
  by_cases h1:n = 1
  ·obtain ⟨hk1, hk2⟩:=hk h1
   rcases zhy s 64 with h64 | ⟨a, b, rfl, ha⟩
   ·rw [List.count_eq_zero_of_not_mem h64] at hn; omega
   ·have hls:=zi8 a b 64
    have hsz:=zna a b 64
    have hb:noB b 64:=fun hm => by
     have:=List.count_pos_iff.2 hm
     rw [hls, List.count_append, List.count_cons_self] at hn
     omega
    obtain rfl:k = a.size:=(z5x hls ha hb hk2).trans (za9 a)
    have hcut:zcy (a ++ ⟨#[64]⟩ ++ b) 64 = (a, b, true):=zeh ha
    have x1:(a ++ ⟨#[64]⟩ ++ b).extract 0 a.size = a:=by
     have:=zfd ⟨#[]⟩ a (⟨#[64]⟩ ++ b) 0 a.size rfl (by show _ = 0 + _; omega)
     conv => rhs; rw [← this]
     congr 1; apply zbr; simp [zas]
    have x2:(a ++ ⟨#[64]⟩ ++ b).extract (a.size + 1) (a ++ ⟨#[64]⟩ ++ b).size = b:=by
     have:=zfd (a ++ ⟨#[64]⟩) b ⟨#[]⟩ (a.size + 1) (a ++ ⟨#[64]⟩ ++ b).size (by rw [ByteArray.size_append]; rfl) (by rw [ByteArray.size_append])
     conv => rhs; rw [← this]
     congr 1; apply zbr; simp [zas]
    have za:a.size ≤ 1000000:=by omega
    have zb:b.size ≤ 1000000:=by omega
    have hadd:IntKind.i64.wrap ((a.size:Int) + 1) = ((a.size + 1:Nat):Int):=zaa (by omega) (by omega) |>.trans (by omega)
    have hpt:ptA (a ++ ⟨#[64]⟩ ++ b) = if (pgA a).2.2.2 = 0 then (if (psA b).2.2.2 = 0 then (((((pgA a).1, (pgA a).2.1), (pgA a).2.2.1), (((psA b).1, (psA b).2.1), (psA b).2.2.1)), 0) else ((((⟨#[]⟩, ⟨#[]⟩), ⟨#[]⟩), ((⟨#[]⟩, ⟨#[]⟩), ⟨#[]⟩)), (psA b).2.2.2)) else ((((⟨#[]⟩, ⟨#[]⟩), ⟨#[]⟩), ((⟨#[]⟩, ⟨#[]⟩), ⟨#[]⟩)), (pgA a).2.2.2):=by
     unfold ptA
     rw [hcut]
     dsimp only
     rw [if_pos ⟨rfl, zfx hb⟩]
    clear hk hk2 hn hcut
    generalize a ++ ⟨#[64]⟩ ++ b = s at *
    rcases hra:rp1 a with ⟨o1, o2, rel, has, e⟩
    rcases hrb:rp1 b with ⟨p1, p2, rel2, has2, e2⟩
    cases has
    ·have g1:pgA a = (zdi, zdi, zdi, 5):=by rw [z1f, hra]; rfl
     rw [hpt, g1, if_neg (by decide)]
     by_cases h5:e = 5
     ·skip
      refine ZaQ ?_;refine Za8 ?_;refine zj ?_;refine ZZ ?_;refine Zad ?_;refine Zc8 ?_;refine z7 (za1 L (kl:=.i64) (pl:=0) 0 a.size rfl rfl rfl rfl rfl ⟨rfl, rfl⟩ (by omega) (by omega) x1) rfl ?_;refine z7 (zq L rfl rfl (zn rfl) rfl rfl rfl (fun u H hH _ _ => zby hra za hH)) rfl ?_;refine ZdU ?_;refine ZbH ?_;refine ZA ?_;refine Ze3 ?_;refine ZbN ?_;refine ZbI ?_;refine ZH ?_;refine Zaz ?_;refine Zcv ?_;refine ZbV ?_
      refine qv L (rs:=[.cell 2 34, .tmp 3]) rfl (fun _ _ h => h) Since.refl fun u H hH hle => ?_
      refine ⟨_, qp rfl, rfl, ?_⟩
      rw [h5]; rfl
     ·refine ZaQ ?_;refine Za8 ?_;refine zj ?_;refine ZZ ?_;refine Zad ?_;refine Zc8 ?_;refine z7 (za1 L (kl:=.i64) (pl:=0) 0 a.size rfl rfl rfl rfl rfl ⟨rfl, rfl⟩ (by omega) (by omega) x1) rfl ?_;refine z7 (zq L rfl rfl (zn rfl) rfl rfl rfl (fun u H hH _ _ => zby hra za hH)) rfl ?_;refine ZdU ?_;refine ZbH ?_;refine Zbv ?_;refine Zb ?_;refine Zr ?_;refine Zcs ?_;refine Z4 ?_;refine Zi ?_;refine ZbI ?_;refine ZH ?_;refine Zaz ?_;refine Zcv ?_;refine ZbV ?_
      refine qv L (rs:=[.cell 2 34, .tmp 3]) rfl (fun _ _ h => h) Since.refl fun u H hH hle => ?_
      exact ⟨_, qp rfl, rfl, rfl⟩
    ·by_cases h0:e = 0
     ·have g1:pgA a = (o1, o2, rel, 0):=by rw [z1f, hra]; dsimp only; rw [if_neg (by decide), if_pos h0]
      by_cases h02:e2 = 0
      ·have g2:psA b = (p1, p2, rel2, 0):=by rw [z3j, hrb]; dsimp only; rw [if_pos h02]
       rw [hpt, g1, g2, if_pos rfl, if_pos rfl]
       refine ZaQ ?_;refine Za8 ?_;refine zj ?_;refine ZZ ?_;refine Zad ?_;refine Zc8 ?_;refine z7 (za1 L (kl:=.i64) (pl:=0) 0 a.size rfl rfl rfl rfl rfl ⟨rfl, rfl⟩ (by omega) (by omega) x1) rfl ?_;refine z7 (zq L rfl rfl (zn rfl) rfl rfl rfl (fun u H hH _ _ => zby hra za hH)) rfl ?_;refine ZdU ?_;refine ZbH ?_;refine Zbv ?_;refine Zb ?_;refine Zr ?_;refine ZbN ?_;refine ZbI ?_;refine Zad ?_;refine ZT ?_;refine Zcc ?_;refine z7 (za1 L (kh:=.i64) (ph:=0) (a.size + 1) _ rfl rfl rfl rfl ⟨rfl, rfl⟩ rfl (by omega) (by omega) x2) rfl ?_;refine z7 (zq L rfl rfl (zn rfl) rfl rfl rfl (fun u H hH _ _ => zby hrb zb hH)) rfl ?_;refine ZdU ?_;refine ZbF ?_;refine Zad ?_;refine ZdA ?_;refine ZcV ?_;refine Za ?_;refine Ze7 ?_;refine ZcV ?_;refine Za ?_;refine Zel ?_;refine Zcv ?_;refine ZaJ ?_
       refine qv L (rs:=[.cell 2 34, .tmp 3]) rfl (fun _ _ h => h) Since.refl fun u H hH hle => ?_
       exact ⟨_, qp rfl, rfl, rfl⟩
      ·have g2:psA b = (zdi, zdi, zdi, e2):=by rw [z3j, hrb]; dsimp only; rw [if_neg h02]
       rw [hpt, g1, g2, if_pos rfl, if_neg h02]
       refine ZaQ ?_;refine Za8 ?_;refine zj ?_;refine ZZ ?_;refine Zad ?_;refine Zc8 ?_;refine z7 (za1 L (kl:=.i64) (pl:=0) 0 a.size rfl rfl rfl rfl rfl ⟨rfl, rfl⟩ (by omega) (by omega) x1) rfl ?_;refine z7 (zq L rfl rfl (zn rfl) rfl rfl rfl (fun u H hH _ _ => zby hra za hH)) rfl ?_;refine ZdU ?_;refine ZbH ?_;refine Zbv ?_;refine Zb ?_;refine Zr ?_;refine ZbN ?_;refine ZbI ?_;refine Zad ?_;refine ZT ?_;refine Zcc ?_;refine z7 (za1 L (kh:=.i64) (ph:=0) (a.size + 1) _ rfl rfl rfl rfl ⟨rfl, rfl⟩ rfl (by omega) (by omega) x2) rfl ?_;refine z7 (zq L rfl rfl (zn rfl) rfl rfl rfl (fun u H hH _ _ => zby hrb zb hH)) rfl ?_;refine ZdU ?_;refine ZbF ?_;refine ZH ?_;refine Za9 ?_;refine Zcv ?_;refine ZbV ?_
       refine qv L (rs:=[.cell 2 34, .tmp 3]) rfl (fun _ _ h => h) Since.refl fun u H hH hle => ?_
       exact ⟨_, qp rfl, rfl, rfl⟩
     ·have g1:pgA a = (zdi, zdi, zdi, e):=by rw [z1f, hra]; dsimp only; rw [if_neg (by decide), if_neg h0]
      rw [hpt, g1, if_neg h0]
      by_cases h5:e = 5
      ·refine ZaQ ?_;refine Za8 ?_;refine zj ?_;refine ZZ ?_;refine Zad ?_;refine Zc8 ?_;refine z7 (za1 L (kl:=.i64) (pl:=0) 0 a.size rfl rfl rfl rfl rfl ⟨rfl, rfl⟩ (by omega) (by omega) x1) rfl ?_;refine z7 (zq L rfl rfl (zn rfl) rfl rfl rfl (fun u H hH _ _ => zby hra za hH)) rfl ?_;refine ZdU ?_;refine ZbH ?_;refine ZA ?_;refine Ze3 ?_;refine ZbN ?_;refine ZbI ?_;refine ZH ?_;refine Zaz ?_;refine Zcv ?_;refine ZbV ?_
       refine qv L (rs:=[.cell 2 34, .tmp 3]) rfl (fun _ _ h => h) Since.refl fun u H hH hle => ?_
       exact ⟨_, qp rfl, rfl, rfl⟩
      ·refine ZaQ ?_;refine Za8 ?_;refine zj ?_;refine ZZ ?_;refine Zad ?_;refine Zc8 ?_;refine z7 (za1 L (kl:=.i64) (pl:=0) 0 a.size rfl rfl rfl rfl rfl ⟨rfl, rfl⟩ (by omega) (by omega) x1) rfl ?_;refine z7 (zq L rfl rfl (zn rfl) rfl rfl rfl (fun u H hH _ _ => zby hra za hH)) rfl ?_;refine ZdU ?_;refine ZbH ?_;refine Zbv ?_;refine Zb ?_;refine Zr ?_;refine ZbN ?_;refine ZbI ?_;refine ZH ?_;refine Zaz ?_;refine Zcv ?_;refine ZbV ?_
       refine qv L (rs:=[.cell 2 34, .tmp 3]) rfl (fun _ _ h => h) Since.refl fun u H hH hle => ?_
       exact ⟨_, qp rfl, rfl, rfl⟩
  ·have hpt:ptA s = ((((⟨#[]⟩, ⟨#[]⟩), ⟨#[]⟩), ((⟨#[]⟩, ⟨#[]⟩), ⟨#[]⟩)), 5):=by
    unfold ptA
    rw [if_neg]
    rintro ⟨hc1, hc2⟩
    rcases zhy s 64 with h64 | ⟨a, b, rfl, ha⟩
    ·rw [znp h64] at hc1; cases hc1
    ·rw [zeh ha] at hc2
     by_cases hb:noB b 64
     ·apply h1
      rw [hn, zi8, List.count_append, List.count_cons_self, List.count_eq_zero_of_not_mem ha, List.count_eq_zero_of_not_mem hb]
     ·rw [show zp0 b 64 = true from znj hb] at hc2
      cases hc2
   rw [hpt]
   refine ZaQ ?_;refine Za8 ?_;refine zj ?_;refine ZZ ?_;refine ZH ?_;refine Zaj ?_;refine Zcv ?_;refine ZaJ ?_
   refine qv L (rs:=[.cell 2 34, .tmp 3]) rfl (fun _ _ h => h) Since.refl fun u H hH hle => ?_
   exact ⟨_, qp rfl, rfl, rfl⟩
end Go.V.L2
set_option maxRecDepth 20000
namespace Go.V.L2
open Go.Proofs Go.RowKit Go.V
theorem zec {s:ByteArray} (h:chk s = 0):noB s 64:=by
 unfold chk at h
 split at h
 ·rename_i hc
  have:=List.all_eq_true.1 hc.2.2
  exact fun hm => by have:=this _ hm; revert this; decide
 ·exact absurd h (by decide)
theorem zqm {t:U} (h:tE t = 0):ptA (tT t) = (t, 0):=by
 obtain ⟨⟨⟨x, y⟩, z⟩, ⟨⟨x2, y2⟩, z2⟩⟩:=t
 unfold tE at h
 dsimp only at h
 split at h
 ·rename_i h1
  obtain ⟨c1, c2, c3⟩:=zq6 h1
  obtain ⟨d1, d2, d3⟩:=zeo h
  have n1:noB (zdh x y z) 64:=by
   unfold zdh zi6
   exact zbe (zbe (zbe (zbe (zec c1) (zc3 (by decide))) (zec c2)) (zc3 (by decide))) (zec c3)
  have n2:noB (zen x2 y2 z2) 64:=by
   unfold zen
   split
   ·unfold zi6; exact zbe (zbe (zec d1) (zc3 (by decide))) (zec d2)
   ·rename_i hz
    unfold zdh zi6
    exact zbe (zbe (zbe (zbe (zec d1) (zc3 (by decide))) (zec d2)) (zc3 (by decide))) (zec (d3.resolve_left hz))
  unfold ptA tT
  dsimp only
  rw [zeh n1]
  dsimp only
  rw [if_pos ⟨rfl, zfx n2⟩, z1g c1 c2 c3, z1a h]
  rfl
 ·rename_i h1
  exact absurd h h1
theorem zgb {s:ByteArray} (h:chk s = 0):s.size ≤ 16:=by
 unfold chk at h
 split at h
 ·rename_i hc; exact hc.2.1
 ·exact absurd h (by decide)
end Go.V.L2
set_option maxRecDepth 20000
namespace Go.V.L3
open Go.Proofs Go.RowKit Go.V Go.V.L2
abbrev FT:=z0q × z0q × Bool
abbrev n3:z0q:=((⟨#[]⟩, ⟨#[]⟩), ⟨#[]⟩)
end Go.V.L3
set_option maxRecDepth 20000
namespace Go.V.L3
open Go.Proofs Go.RowKit Go.V Go.V.L2
end Go.V.L3
set_option maxRecDepth 20000
namespace Go.V.L2
open Go.Proofs Go.RowKit Go.V
def zs6 (l:List U):List U:=zlb zbs [] l
attribute [local irreducible] V N X VO Par StepOK Has Ret RetL Src
end Go.V.L2
set_option maxRecDepth 20000
namespace Go.V
inductive Tr (K V:Type) where
 | nil
 | node (k:K) (v:V) (l r:Tr K V)
namespace Tr
variable {K V:Type}
def size:Tr K V → Nat
 | nil => 0
 | node _ _ l r => size l + 1 + size r
def deep:Tr K V → Nat
 | nil => 0
 | node _ _ l r => 1 + max (deep l) (deep r)
theorem deep_le:∀ t:Tr K V, deep t ≤ size t
 | nil => Nat.le_refl _
 | node _ _ l r => by have:=deep_le l; have:=deep_le r; simp only [deep, size]; omega
def bal (k:K) (v:V) (l r:Tr K V):Tr K V :=
 if deep l > deep r + 1 then
  match l with
  | nil => nil
  | node lk lv ll lr =>
   if deep ll ≥ deep lr then node lk lv ll (node k v lr r)
   else match lr with
    | nil => nil
    | node mk mv ml mr => node mk mv (node lk lv ll ml) (node k v mr r)
 else if deep r > deep l + 1 then
  match r with
  | nil => nil
  | node rk rv rl rr =>
   if deep rr ≥ deep rl then node rk rv (node k v l rl) rr
   else match rl with
    | nil => nil
    | node mk mv ml mr => node mk mv (node k v l ml) (node rk rv mr rr)
 else node k v l r
def put (c:K → K → Int) (k:K) (v:V):Tr K V → Tr K V
 | nil => node k v nil nil
 | node nk nv l r => if c k nk < 0 then bal nk nv (put c k v l) r else if c k nk > 0 then bal nk nv l (put c k v r) else node nk v l r
def first:K → V → Tr K V → Tr K V → (K × V) × Tr K V
 | k, v, nil, r => ((k, v), r)
 | k, v, node lk lv ll lr, r => ((first lk lv ll lr).1, bal k v (first lk lv ll lr).2 r)
def drop (c:K → K → Int) (k:K):Tr K V → Tr K V × Bool
 | nil => (nil, false)
 | node nk nv l r => if c k nk < 0 then (bal nk nv (drop c k l).1 r, (drop c k l).2) else if c k nk > 0 then (bal nk nv l (drop c k r).1, (drop c k r).2)
  else match r with
   | nil => (l, true)
   | node rk rv rl rr => (bal (first rk rv rl rr).1.1 (first rk rv rl rr).1.2 l (first rk rv rl rr).2, true)
def get (c:K → K → Int) (k:K):Tr K V → Option V
 | nil => none
 | node nk nv l r => if c k nk = 0 then some nv else if c k nk < 0 then get c k l else get c k r
def list:Tr K V → List (K × V)
 | nil => []
 | node k v l r => list l ++ (k, v) :: list r
def prs:Tr K V → Int → Int → Int → List (K × V)
 | nil, _, _, _ => []
 | node k v l r, a, f, t => if a + (size (node k v l r):Int) ≤ f ∨ a ≥ t then [] else
   prs l a f t ++ ((if a + (size l:Int) ≥ f ∧ a + (size l:Int) < t then [(k, v)] else []) ++ prs r (a + size l + 1) f t)
theorem get_eq {c:K → K → Int} {k nk:K} {nv:V} {l r:Tr K V} (h:c k nk = 0):get c k (node nk nv l r) = some nv:=if_pos h
theorem get_lt {c:K → K → Int} {k nk:K} {nv:V} {l r:Tr K V} (h:c k nk < 0):get c k (node nk nv l r) = get c k l:=(if_neg (by omega)).trans (if_pos h)
theorem get_gt {c:K → K → Int} {k nk:K} {nv:V} {l r:Tr K V} (h0:¬ c k nk = 0) (h:¬ c k nk < 0):get c k (node nk nv l r) = get c k r:=(if_neg h0).trans (if_neg h)
theorem size_list:∀ t:Tr K V, (list t).length = size t
 | nil => rfl
 | node _ _ l r => by simp only [list, List.length_append, List.length_cons, size_list l, size_list r, size]; omega
theorem size_node (k:K) (v:V) (l r:Tr K V):size (node k v l r) = size l + 1 + size r:=rfl
theorem deep_node (k:K) (v:V) (l r:Tr K V):deep (node k v l r) = 1 + max (deep l) (deep r):=rfl
theorem zdp (k:K) (v:V) (l r:Tr K V):list (bal k v l r) = list l ++ (k, v) :: list r:=by
 unfold bal
 split
 ·rename_i h
  cases l with
  | nil => simp [deep] at h
  | node lk lv ll lr =>
   dsimp only
   split
   ·simp [list]
   ·rename_i h2
    cases lr with
    | nil => simp [deep] at h2
    | node mk mv ml mr => simp [list]
 ·split
  ·rename_i h
   cases r with
   | nil => simp [deep] at h
   | node rk rv rl rr =>
    dsimp only
    split
    ·simp [list]
    ·rename_i h2
     cases rl with
     | nil => simp [deep] at h2
     | node mk mv ml mr => simp [list]
  ·simp [list]
theorem zgz (k:K) (v:V) (l r:Tr K V):size (bal k v l r) = size l + 1 + size r:=by
 rw [← size_list, zdp, List.length_append, List.length_cons, size_list, size_list]; omega
theorem zh4:∀ (k:K) (v:V) (l r:Tr K V), (first k v l r).1 :: list (first k v l r).2 = list l ++ (k, v) :: list r
 | k, v, nil, r => rfl
 | k, v, node lk lv ll lr, r => by
  simp only [first, zdp, list]
  rw [← List.cons_append, zh4 lk lv ll lr]
theorem size_first (k:K) (v:V) (l r:Tr K V):size (first k v l r).2 = size l + size r:=by
 have:=congrArg List.length (zh4 k v l r)
 simp only [List.length_cons, List.length_append, size_list] at this
 omega
theorem size_put (c:K → K → Int) (k:K) (v:V):∀ t:Tr K V, size (put c k v t) ≤ size t + 1
 | nil => by simp [put, size]
 | node nk nv l r => by
  have:=size_put c k v l
  have:=size_put c k v r
  simp only [put]
  split
  ·rw [zgz, size_node]; omega
  ·split
   ·rw [zgz, size_node]; omega
   ·rw [size_node, size_node]; omega
theorem size_drop (c:K → K → Int) (k:K):∀ t:Tr K V, size (drop c k t).1 ≤ size t
 | nil => Nat.le_refl _
 | node nk nv l r => by
  have:=size_drop c k l
  have:=size_drop c k r
  simp only [drop]
  split
  ·rw [zgz, size_node]; omega
  ·split
   ·rw [zgz, size_node]; omega
   ·cases r with
    | nil => simp only [size]; omega
    | node rk rv rl rr => rw [zgz, size_first, size_node, size_node]; omega
theorem prs_length_le:∀ (t:Tr K V) (a f e:Int), (prs t a f e).length ≤ size t
 | nil, _, _, _ => Nat.le_refl _
 | node k v l r, a, f, e => by
  have:=prs_length_le l a f e
  have:=prs_length_le r (a + size l + 1) f e
  simp only [prs]
  split
  ·exact Nat.zero_le _
  ·simp only [List.length_append, size_node]
   split
   ·simp only [List.length_cons, List.length_nil]; omega
   ·simp only [List.length_nil]; omega
def TreeAt (nl:K → V → Value → Value → Int → Int → List Value) (ty:TypeId):Tr K V → Value → Heap → Prop
 | nil, v, _ => v = .pointer none
 | node k x l r, v, H => ∃ b lv rv, v = .pointer (some ⟨b, 0, none⟩) ∧ H b = some (.cells (nl k x lv rv (size (node k x l r)) (deep (node k x l r))).toArray ty) ∧ TreeAt nl ty l lv H ∧ TreeAt nl ty r rv H
theorem TreeAt.mono {nl:K → V → Value → Value → Int → Int → List Value} {ty:TypeId}:∀ {t:Tr K V}, Kn.mono (.sat (TreeAt nl ty t))
 | nil, _, _, _, h, _ => h
 | node k x l r, _, _, _, ⟨b, lv, rv, h1, h2, h3, h4⟩, hle => ⟨b, lv, rv, h1, hle _ _ h2, TreeAt.mono _ _ _ h3 hle, TreeAt.mono _ _ _ h4 hle⟩
theorem TreeAt.le {nl:K → V → Value → Value → Int → Int → List Value} {ty:TypeId} {t:Tr K V} {v:Value} {H H':Heap} (h:TreeAt nl ty t v H) (hle:H.Le H'):TreeAt nl ty t v H':=TreeAt.mono _ _ _ h hle
end Tr
end Go.V
set_option maxRecDepth 20000
namespace Go.V
structure z0r {K:Type} (c:K → K → Int):Prop where
 anti:∀ a b, c a b < 0 ↔ 0 < c b a
 trans:∀ {a b d}, c a b < 0 → c b d < 0 → c a d < 0
 eql:∀ {a b} (d), c a b = 0 → (c a d < 0 ↔ c b d < 0)
namespace z0r
variable {K:Type} {c:K → K → Int}
theorem refl (h:z0r c) (a:K):c a a = 0:=by
 have:=h.anti a a
 omega
theorem symm (h:z0r c) {a b:K} (e:c a b = 0):c b a = 0:=by
 have:=h.anti a b
 have:=h.anti b a
 omega
end z0r
namespace Tr
variable {K V:Type} (c:K → K → Int)
def Srt (l:List (K × V)):Prop:=l.Pairwise fun x y => c x.1 y.1 < 0
def putS (k:K) (v:V):List (K × V) → List (K × V)
 | [] => [(k, v)]
 | y :: l => if c k y.1 < 0 then (k, v) :: y :: l else if c k y.1 > 0 then y :: putS k v l else (y.1, v) :: l
def dropS (k:K):List (K × V) → List (K × V)
 | [] => []
 | y :: l => if c k y.1 < 0 then y :: l else if c k y.1 > 0 then y :: dropS k l else l
def getS (k:K):List (K × V) → Option V
 | [] => none
 | y :: l => if c k y.1 = 0 then some y.2 else getS k l
def cutI (f e:Int):List (K × V) → Int → List (K × V)
 | [], _ => []
 | y :: l, i => if f ≤ i ∧ i < e then y :: cutI f e l (i + 1) else cutI f e l (i + 1)
variable {c} (h:z0r c)
include h
theorem zj5 {k:K} {v:V}:∀ {l1 l2:List (K × V)} {y:K × V}, (∀ x ∈ l1, c x.1 y.1 < 0) →
  putS c k v (l1 ++ y :: l2) = if c k y.1 < 0 then putS c k v l1 ++ y :: l2 else if c k y.1 > 0 then l1 ++ y :: putS c k v l2 else l1 ++ (y.1, v) :: l2
 | [], l2, y, _ => by simp only [List.nil_append, putS]; split <;> simp
 | x :: l1, l2, y, hl => by
  have ih:=zj5 (k:=k) (v:=v) (l1:=l1) (l2:=l2) (y:=y) fun z hz => hl z (List.mem_cons_of_mem _ hz)
  have hx:=hl x (List.mem_cons_self ..)
  simp only [List.cons_append, putS]
  by_cases h1:c k x.1 < 0
  ·have:c k y.1 < 0:=h.trans h1 hx
   rw [if_pos h1, if_pos this, if_pos h1]; rfl
  ·rw [if_neg h1]
   by_cases h2:c k x.1 > 0
   ·rw [if_pos h2, ih, if_neg h1, if_pos h2]
    split
    ·rfl
    ·split <;> rfl
   ·have h0:c k x.1 = 0:=by omega
    have:c k y.1 < 0:=(h.eql _ h0).2 hx
    rw [if_neg h2, if_pos this, if_neg h1, if_neg h2]; rfl
theorem zij {k:K}:∀ {l1 l2:List (K × V)} {y:K × V}, (∀ x ∈ l1, c x.1 y.1 < 0) →
  dropS c k (l1 ++ y :: l2) = if c k y.1 < 0 then dropS c k l1 ++ y :: l2 else if c k y.1 > 0 then l1 ++ y :: dropS c k l2 else l1 ++ l2
 | [], l2, y, _ => by simp only [List.nil_append, dropS]
 | x :: l1, l2, y, hl => by
  have ih:=zij (k:=k) (l1:=l1) (l2:=l2) (y:=y) fun z hz => hl z (List.mem_cons_of_mem _ hz)
  have hx:=hl x (List.mem_cons_self ..)
  simp only [List.cons_append, dropS]
  by_cases h1:c k x.1 < 0
  ·have:c k y.1 < 0:=h.trans h1 hx
   rw [if_pos h1, if_pos this, if_pos h1]; rfl
  ·rw [if_neg h1]
   by_cases h2:c k x.1 > 0
   ·rw [if_pos h2, ih, if_neg h1, if_pos h2]
    split
    ·rfl
    ·split <;> rfl
   ·have h0:c k x.1 = 0:=by omega
    have:c k y.1 < 0:=(h.eql _ h0).2 hx
    rw [if_neg h2, if_pos this, if_neg h1, if_neg h2]
omit h in
theorem zjv {l1 l2:List (K × V)} {y:K × V} (hs:Srt c (l1 ++ y :: l2)):Srt c l1 ∧ Srt c l2 ∧ (∀ x ∈ l1, c x.1 y.1 < 0) ∧ (∀ x ∈ l2, c y.1 x.1 < 0):=by
 have h1:=List.pairwise_append.1 hs
 have h2:=List.pairwise_cons.1 h1.2.1
 exact ⟨h1.1, h2.2, fun x hx => h1.2.2 x hx y (List.mem_cons_self ..), h2.1⟩
theorem list_put (k:K) (v:V):∀ {t:Tr K V}, Srt c (list t) → list (put c k v t) = putS c k v (list t)
 | nil, _ => rfl
 | node nk nv l r, hs => by
  obtain ⟨hl, hr, hx, _⟩:=zjv (y:=(nk, nv)) hs
  simp only [list, put]
  rw [zj5 h hx]
  split
  ·rw [zdp, list_put k v hl]
  ·split
   ·rw [zdp, list_put k v hr]
   ·rfl
theorem list_drop (k:K):∀ {t:Tr K V}, Srt c (list t) → list (if (drop c k t).2 = true then (drop c k t).1 else t) = dropS c k (list t) ∧ ((drop c k t).2 = false → (drop c k t).1 = t ∨ list (drop c k t).1 = list t) ∧ ((drop c k t).2 = true → list (drop c k t).1 = dropS c k (list t)) ∧ ((drop c k t).2 = false → dropS c k (list t) = list t)
 | nil, _ => ⟨rfl, fun _ => .inl rfl, fun h => (by cases h), fun _ => rfl⟩
 | node nk nv l r, hs => by
  obtain ⟨hl, hr, hx, _⟩:=zjv (y:=(nk, nv)) hs
  have il:=list_drop k hl
  have ir:=list_drop k hr
  have key:((drop c k (node nk nv l r)).2 = true → list (drop c k (node nk nv l r)).1 = dropS c k (list (node nk nv l r))) ∧ ((drop c k (node nk nv l r)).2 = false → dropS c k (list (node nk nv l r)) = list (node nk nv l r) ∧ list (drop c k (node nk nv l r)).1 = list (node nk nv l r)):=by
   simp only [list, drop]
   rw [zij h hx]
   split
   ·refine ⟨fun ht => ?_, fun hf => ?_⟩
    ·dsimp only at ht ⊢; rw [zdp, il.2.2.1 ht]
    ·dsimp only at hf ⊢
     have e:=il.2.2.2 hf
     refine ⟨by rw [e], ?_⟩
     rw [zdp]
     rcases il.2.1 hf with e1 | e1 <;> rw [e1]
   ·split
    ·refine ⟨fun ht => ?_, fun hf => ?_⟩
     ·dsimp only at ht ⊢; rw [zdp, ir.2.2.1 ht]
     ·dsimp only at hf ⊢
      have e:=ir.2.2.2 hf
      refine ⟨by rw [e], ?_⟩
      rw [zdp]
      rcases ir.2.1 hf with e1 | e1 <;> rw [e1]
    ·cases r with
     | nil => exact ⟨fun _ => by simp [list], fun hf => by cases hf⟩
     | node rk rv rl rr =>
      refine ⟨fun _ => ?_, fun hf => by cases hf⟩
      dsimp only
      rw [zdp]
      have:=zh4 rk rv rl rr
      rw [show ((first rk rv rl rr).1.1, (first rk rv rl rr).1.2) = (first rk rv rl rr).1 from rfl, this]
      rfl
  refine ⟨?_, fun hf => .inr (key.2 hf).2, key.1, fun hf => (key.2 hf).1⟩
  split
  ·rename_i ht; exact key.1 ht
  ·rename_i ht
   have hf:(drop c k (node nk nv l r)).2 = false:=by simpa using ht
   exact (key.2 hf).1.symm
theorem zkv {k:K}:∀ {l1 l2:List (K × V)} {y:K × V}, (∀ x ∈ l1, c x.1 y.1 < 0) → (∀ x ∈ l2, c y.1 x.1 < 0) →
  getS c k (l1 ++ y :: l2) = if c k y.1 = 0 then some y.2 else if c k y.1 < 0 then getS c k l1 else getS c k l2
 | [], l2, y, _, h2 => by
  simp only [List.nil_append, getS]
  split
  ·rfl
  ·split
   ·rename_i h1
    have:∀ (l:List (K × V)), (∀ x ∈ l, c y.1 x.1 < 0) → getS c k l = none:=by
     intro l
     induction l with
     | nil => intro _; rfl
     | cons z l ih =>
      intro hz
      have:=h.trans h1 (hz z (List.mem_cons_self ..))
      simp only [getS]
      rw [if_neg (by omega)]
      exact ih fun x hx => hz x (List.mem_cons_of_mem _ hx)
    exact this l2 h2
   ·rfl
 | x :: l1, l2, y, hl, h2 => by
  have ih:=zkv (k:=k) (l1:=l1) (l2:=l2) (y:=y) (fun z hz => hl z (List.mem_cons_of_mem _ hz)) h2
  have hx:=hl x (List.mem_cons_self ..)
  simp only [List.cons_append, getS]
  by_cases h0:c k x.1 = 0
  ·have:c k y.1 < 0:=(h.eql _ h0).2 hx
   rw [if_pos h0, if_neg (by omega), if_pos this, if_pos h0]
  ·rw [if_neg h0, ih, if_neg h0]
theorem get_list (k:K):∀ {t:Tr K V}, Srt c (list t) → get c k t = getS c k (list t)
 | nil, _ => rfl
 | node nk nv l r, hs => by
  obtain ⟨hl, hr, hx, hy⟩:=zjv (y:=(nk, nv)) hs
  simp only [list, get]
  rw [zkv h hx hy, get_list k hl, get_list k hr]
omit h
theorem zk1 (f e:Int):∀ (l1 l2:List (K × V)) (i:Int), cutI f e (l1 ++ l2) i = cutI f e l1 i ++ cutI f e l2 (i + l1.length)
 | [], l2, i => by simp [cutI]
 | y :: l1, l2, i => by
  simp only [List.cons_append, cutI, zk1 f e l1 l2 (i + 1), List.length_cons]
  rw [show i + 1 + (l1.length:Int) = i + ((l1.length + 1:Nat):Int) by omega]
  split <;> rfl
theorem zse (f e:Int):∀ (l:List (K × V)) (i:Int), i + l.length ≤ f ∨ i ≥ e → cutI f e l i = []
 | [], _, _ => rfl
 | y :: l, i, h => by
  simp only [List.length_cons] at h
  simp only [cutI]
  rw [if_neg (by omega), zse f e l (i + 1) (by omega)]
theorem prs_list:∀ (t:Tr K V) (a f e:Int), prs t a f e = cutI f e (list t) a
 | nil, _, _, _ => rfl
 | node nk nv l r, a, f, e => by
  simp only [prs]
  split
  ·rename_i h1
   rw [zse]
   rw [size_list]; exact h1
  ·simp only [list]
   rw [zk1, prs_list l, prs_list r, size_list]
   simp only [cutI]
   split
   ·rename_i h2
    rfl
   ·rename_i h2
    rfl
end Tr
end Go.V
set_option maxRecDepth 20000
namespace Go.V.L6
open Go.Proofs Go.RowKit Go.V Go.V.L2 Go.V.L3
theorem zvg {α:Type} {c:α → α → Int} (h:Ord3 c):z0r c:=by
 refine ⟨fun a b => ?_, fun {a b d} h1 h2 => ?_, fun {a b} d e => ?_⟩
 ·have:=h.anti a b; omega
 ·exact h.tr h1 h2
 ·rw [h.eq _ _ e]
def zp1 (a b:U):Int:=zbs (a.2, a.1) (b.2, b.1)
theorem zhg:Ord3 zp1 where
 refl a:=cmpT_ord.refl _
 eq a b h:=by
  have:=cmpT_ord.eq _ _ h
  exact Prod.ext (congrArg Prod.snd this) (congrArg Prod.fst this)
 anti a b:=cmpT_ord.anti _ _
 trans a b d:=cmpT_ord.trans _ _ _
set_option linter.unusedSectionVars false
section keys
variable {α:Type} [DecidableEq α] {c:α → α → Int}
abbrev kS (L:List (α × Unit)):List α:=L.map (·.1)
theorem z4a {L:List (α × Unit)}:Tr.Srt c L ↔ Sst c (kS L):=by unfold Tr.Srt Sst kS; rw [List.pairwise_map]
theorem z1z (h:Ord3 c) {k:α}:∀ {L:List (α × Unit)}, k ∉ kS L → kS (Tr.putS c k () L) = zph c k (kS L)
 | [], _ => rfl
 | y :: L, hk => by
  simp only [kS, List.map_cons, List.mem_cons, not_or] at hk
  simp only [Tr.putS]
  by_cases h1:c k y.1 < 0
  ·rw [if_pos h1]
   simp [kS, zph, h1]
  ·have h2:=h.tri h1 hk.1
   have h3:=h.anti k y.1
   rw [if_neg h1, if_pos (by omega)]
   have ih:=z1z h (L:=L) hk.2
   simp only [kS, List.map_cons, zph] at ih ⊢
   rw [if_neg h1, ih]
theorem zwq (h:Ord3 c) {k:α}:∀ {L:List (α × Unit)}, Sst c (kS L) → kS (Tr.dropS c k L) = (kS L).filter fun z => decide (z ≠ k)
 | [], _ => rfl
 | y :: L, hs => by
  simp only [kS, List.map_cons] at hs
  obtain ⟨hy, hs'⟩:=List.pairwise_cons.1 hs
  simp only [Tr.dropS]
  have all:∀ {d:α}, (c k d < 0 ∨ k = d) → (∀ z ∈ kS L, c d z < 0) → (kS L).filter (fun z => decide (z ≠ k)) = kS L:=fun {d} hd hz => List.filter_eq_self.2 fun z hm => by
   have h4:=hz z hm
   simp only [decide_eq_true_eq]
   intro e
   subst e
   rcases hd with hd | hd
   ·exact h.asym hd h4
   ·subst hd; exact h.irr _ h4
  by_cases h1:c k y.1 < 0
  ·rw [if_pos h1]
   simp only [kS, List.map_cons, List.filter_cons]
   rw [if_pos (by simpa using (h.ne h1).symm)]
   have:=all (.inl h1) hy
   unfold kS at this
   rw [this]
  ·rw [if_neg h1]
   by_cases h2:c k y.1 > 0
   ·rw [if_pos h2]
    have ih:=zwq h (k:=k) (L:=L) hs'
    simp only [kS, List.map_cons, List.filter_cons] at ih ⊢
    have hne:y.1 ≠ k:=fun e => by rw [e, h.refl] at h2; omega
    rw [if_pos (by simpa using hne), ih]
   ·rw [if_neg h2]
    have e:=h.eq _ _ (show c k y.1 = 0 by omega)
    simp only [kS, List.map_cons, List.filter_cons]
    rw [if_neg (by simpa using e.symm)]
    have:=all (.inr e) hy
    unfold kS at this
    rw [this]
theorem z4b (h:Ord3 c) {k:α}:∀ {L:List (α × Unit)}, (k ∈ kS L → Tr.getS c k L = some ()) ∧ (k ∉ kS L → Tr.getS c k L = none)
 | [] => ⟨fun h => (by cases h), fun _ => rfl⟩
 | y :: L => by
  have ih:=z4b h (k:=k) (L:=L)
  simp only [Tr.getS, kS, List.map_cons, List.mem_cons]
  by_cases e:k = y.1
  ·subst e; rw [if_pos (h.refl _)]; exact ⟨fun _ => rfl, fun hn => absurd (.inl rfl) hn⟩
  ·have:¬ c k y.1 = 0:=fun h0 => e (h.eq _ _ h0)
   rw [if_neg this]
   exact ⟨fun hm => ih.1 (hm.resolve_left e), fun hn => ih.2 fun hm => hn (.inr hm)⟩
theorem znf:∀ {l:List α} {x:α}, l.Nodup → x ∈ l → (l.filter fun z => decide (z ≠ x)).length + 1 = l.length
 | [], _, _, h => by cases h
 | y :: l, x, hn, h => by
  obtain ⟨h1, h2⟩:=List.nodup_cons.1 hn
  rw [List.filter_cons]
  by_cases e:y = x
  ·subst e
   rw [if_neg (by simp)]
   have:(l.filter fun z => decide (z ≠ y)) = l:=List.filter_eq_self.2 fun z hz => by
    simp only [decide_eq_true_eq]
    exact fun e => h1 (e ▸ hz)
   rw [this, List.length_cons]
  ·rw [if_pos (by simpa using e), List.length_cons, List.length_cons, znf h2 (by
    rcases List.mem_cons.1 h with h | h
    ·exact absurd h.symm e
    ·exact h)]
theorem ztx {l:List α} {x:α} (h:x ∉ l):(l.filter fun z => decide (z ≠ x)) = l:=List.filter_eq_self.2 fun z hz => by
 simp only [decide_eq_true_eq]
 exact fun e => h (e ▸ hz)
theorem zsf {V:Type} (f e:Nat):∀ (l:List (α × V)) (i:Nat), Tr.cutI (f:Int) (e:Int) l (i:Int) = (l.take (e - i)).drop (f - i)
 | [], i => by simp [Tr.cutI]
 | y :: l, i => by
  have ih:=zsf f e l (i + 1)
  simp only [Tr.cutI]
  rw [show ((i:Int) + 1) = ((i + 1:Nat):Int) by omega, ih]
  by_cases h:f ≤ i ∧ i < e
  ·rw [if_pos (by omega), show e - i = (e - (i + 1)) + 1 by omega, show f - i = 0 by omega, show f - (i + 1) = 0 by omega]
   rfl
  ·rw [if_neg (by omega)]
   by_cases h2:i < e
   ·rw [show e - i = (e - (i + 1)) + 1 by omega, show f - i = (f - (i + 1)) + 1 by omega]
    rfl
   ·rw [show e - i = 0 by omega, show e - (i + 1) = 0 by omega]
    simp
end keys
structure TS (l:List U) (t u:Tr U Unit):Prop where
 kt:kS t.list = l
 st:Sst zbs l
 su:Sst zp1 (kS u.list)
 mu:∀ z, z ∈ kS u.list ↔ z ∈ l
 zu:u.size = l.length
theorem zk2:z0r zbs:=zvg cmpT_ord
theorem zpo:z0r zp1:=zvg zhg
theorem z27:TS [] .nil .nil:=⟨rfl, Sst.nil, Sst.nil, fun _ => Iff.rfl, rfl⟩
section ts
variable {l:List U} {t u:Tr U Unit}
theorem TS.size (h:TS l t u):t.size = l.length:=by rw [← Tr.size_list, ← h.kt]; simp
theorem TS.srt (h:TS l t u):Tr.Srt zbs t.list:=z4a.2 (h.kt ▸ h.st)
theorem TS.srtu (h:TS l t u):Tr.Srt zp1 u.list:=z4a.2 h.su
theorem TS.put (h:TS l t u) {x:U} (hx:x ∉ l):TS (zph zbs x l) (Tr.put zbs x () t) (Tr.put zp1 x () u):=by
 have hxt:x ∉ kS t.list:=by rw [h.kt]; exact hx
 have hxu:x ∉ kS u.list:=fun hm => hx ((h.mu x).1 hm)
 have e1:kS (Tr.put zbs x () t).list = zph zbs x l:=by
  rw [Tr.list_put zk2 x () h.srt, z1z cmpT_ord hxt, h.kt]
 have e2:kS (Tr.put zp1 x () u).list = zph zp1 x (kS u.list):=by
  rw [Tr.list_put zpo x () h.srtu, z1z zhg hxu]
 refine ⟨e1, zi1 cmpT_ord h.st hx, ?_, fun z => ?_, ?_⟩
 ·rw [e2]; exact zi1 zhg h.su hxu
 ·rw [e2, zg7, zg7, h.mu]
 ·have:=congrArg List.length e2
  simp only [kS, List.length_map, zd0, Tr.size_list] at this
  rw [this, zd0, h.zu]
theorem TS.drop (h:TS l t u) {x:U} (hx:x ∈ l):TS (l.filter fun z => decide (z ≠ x)) (if (Tr.drop zbs x t).2 = true then (Tr.drop zbs x t).1 else t) (if (Tr.drop zp1 x u).2 = true then (Tr.drop zp1 x u).1 else u):=by
 have e1:kS (if (Tr.drop zbs x t).2 = true then (Tr.drop zbs x t).1 else t).list = l.filter fun z => decide (z ≠ x):=by
  rw [(Tr.list_drop zk2 x h.srt).1, zwq cmpT_ord (by rw [h.kt]; exact h.st), h.kt]
 have e2:kS (if (Tr.drop zp1 x u).2 = true then (Tr.drop zp1 x u).1 else u).list = (kS u.list).filter fun z => decide (z ≠ x):=by
  rw [(Tr.list_drop zpo x h.srtu).1, zwq zhg h.su]
 refine ⟨e1, h.st.sublist List.filter_sublist, ?_, fun z => ?_, ?_⟩
 ·rw [e2]; exact h.su.sublist List.filter_sublist
 ·rw [e2, List.mem_filter, List.mem_filter, h.mu]
 ·have h1:=congrArg List.length e2
  have h2:=znf (h.su.nodup zhg) ((h.mu x).2 hx)
  have h3:=znf (h.st.nodup cmpT_ord) hx
  have h4:=h.zu
  simp only [kS, List.length_map, Tr.size_list] at h1 h2
  omega
theorem TS.get (h:TS l t u) (x:U):Tr.get zbs x t = if x ∈ l then some () else none:=by
 have hk:=z4b cmpT_ord (k:=x) (L:=t.list)
 rw [h.kt] at hk
 rw [Tr.get_list zk2 x h.srt]
 by_cases hx:x ∈ l
 ·rw [if_pos hx]; exact hk.1 hx
 ·rw [if_neg hx]; exact hk.2 hx
end ts
def zgd (l:List U) (x:U) (d:Bool):List U × Int :=
 if tE x = 0 then (if d = true then (l.filter fun z => decide (z ≠ x), 0) else if x ∈ l then (l, 0) else if l.length ≥ 4096 then ([], 3) else (zph zbs x l, 0)) else ([], tE x)
theorem zud {l:List U} (hl:l.length ≤ 4096) (x:U) (d:Bool):(zgd l x d).1.length ≤ 4096:=by
 unfold zgd
 split
 ·split
  ·exact Nat.le_trans (List.length_filter_le _ _) hl
  ·split
   ·exact hl
   ·split
    ·exact Nat.zero_le _
    ·rw [zd0]; omega
 ·exact Nat.zero_le _
end Go.V.L6
set_option maxRecDepth 20000
namespace Go.V.L8
open Go.Proofs Go.RowKit Go.V Go.V.L2 Go.V.L3 Go.V.L6
abbrev CH:=U × Bool
def cE (n:Nat) (l:List CH):Int:=if n < l.length then 3 else if (l.any fun c => !decide (tE c.1 = 0)) = true then 6 else 0
def ziu (s:List U) (m:CH):Bool:=decide (m.1 ∈ s) != m.2
def zch (s:List U):List CH → Nat → Nat × Int
 | [], i => (i, 0)
 | m :: r, i => if ziu s m = true then zch s r (i + 1) else (i, 13)
def zhd (s:List U) (l:List CH):Nat × Int:=if cE 32 l = 0 then zch s l 0 else (0, cE 32 l)
theorem zga (s:List U):∀ (l:List CH) (i:Nat), zch s l i = ((zch s l 0).1 + i, (zch s l 0).2)
 | [], i => by simp [zch]
 | m :: r, i => by
  by_cases h:ziu s m = true
  ·have e1:zch s (m :: r) i = zch s r (i + 1):=by rw [zch, if_pos h]
   have e2:zch s (m :: r) 0 = zch s r (0 + 1):=by rw [zch, if_pos h]
   rw [e1, e2, zga s r (i + 1), zga s r (0 + 1)]
   exact Prod.ext (by show (zch s r 0).1 + (i + 1) = (zch s r 0).1 + (0 + 1) + i; omega) rfl
  ·rw [zch, zch, if_neg h, if_neg h]; simp
theorem ztv {s:List U} {l:List CH} {i:Nat} {m:CH} (h:∀ (j:Nat) x, j < i → l[j]? = some x → ziu s x = true) (hm:l[i]? = some m) (hh:ziu s m = false):zch s l 0 = (i, 13):=by
 induction l generalizing i with
 | nil => simp at hm
 | cons y r ih =>
  cases i with
  | zero =>
   simp at hm; subst hm
   unfold zch
   rw [if_neg (by rw [hh]; decide)]
  | succ i =>
   have hy:=h 0 y (Nat.succ_pos _) rfl
   unfold zch
   rw [if_pos hy, zga, ih (i:=i) (fun j x hj hx => h (j + 1) x (by omega) hx) (by simpa using hm)]
theorem ztw {s:List U} {l:List CH} (h:∀ x ∈ l, ziu s x = true):zch s l 0 = (l.length, 0):=by
 induction l with
 | nil => rfl
 | cons y r ih =>
  unfold zch
  rw [if_pos (h y (by simp)), zga, ih (fun x hx => h x (by simp [hx]))]
  rfl
def zny:List U → List CH → List CH → List U × List CH × Int
 | s, made, [] => (s, made, 0)
 | s, made, c :: r => if (zgd s c.1 c.2).2 = 0 then zny (zgd s c.1 c.2).1 (if decide (c.1 ∈ s) = c.2 then made ++ [c] else made) r else ([], [], (zgd s c.1 c.2).2)
def zz3 (s:List U) (l cs:List CH):List U × List CH × Int :=
 if cE 32 l = 0 then (if cE 32 cs = 0 then (if (zhd s l).2 = 0 then zny s [] cs else ([], [], (zhd s l).2)) else ([], [], cE 32 cs)) else ([], [], cE 32 l)
end Go.V.L8
set_option maxRecDepth 20000
namespace Go.V
open Go.RowKit
def fzI (P:Program) (t' st:TypeId) (off i:Nat):Bool :=
 match P.underlying st with
 | some (.struct fs) => match fs[i]? with
  | some f => (match P.info? f.type with | some j => j.size == 0 | none => false) && (!(P.cellsOf t' == 0) && ((byteOfCell P P.depth t' (off % P.cellsOf t')).isSome && (byteOfCell P P.depth t' ((off + f.offset) % P.cellsOf t')).isSome))
  | none => false
 | _ => false
def PtrS:Value → Heap → Prop:=fun v _ => ∃ a, v = .pointer (some a)
theorem PtrS.mono:Kn.mono (.sat PtrS):=fun _ _ _ h _ => h
section
variable {P:Program} {F:Fr} {B:Heap} {O:Boxes} {n:Nat} {ops:Array Oper} {κ:Kap} {d:Nat} {ty:TypeId} {pos:String} {aft:Array Edge} {g:Option (Nat × Bool)}
theorem zlo {u:World} {b off k:Nat} {cs:Array Value} {e:TypeId} {fr:Nat × Nat} (h:u.heap[b]? = some (.cells cs e fr)) (hs:P.cellsOf e ≠ 0) (hb:byteOfCell P P.depth e (off % P.cellsOf e) = some k) :
  (byteOf ⟨b, off, none⟩).run P u = .ok (off / P.cellsOf e * P.bytesOf e + k) u:=by
 have hsh:u.shape? b = some (e, cs.size):=by unfold World.shape?; rw [h]
 simp only [byteOf, Sem.run_bind, run_program, Result.andThen_ok, noView, viewAt, shape, Sem.run, hsh, Option.isSome_some, if_true, Sem.run_pure, Option.isSome_none, Bool.false_eq_true, if_false, Option.isSome]
 simp [hs, hb, hsh]
theorem zln {u:World} {st t':TypeId} {b off i:Nat} {cs:Array Value} {fr:Nat × Nat} (hz:fzI P t' st off i = true) (hb:u.heap[b]? = some (.cells cs t' fr)) :
  ∃ a, (Instr.fieldAt st (.pointer (some ⟨b, off, none⟩)) i).run P u = .ok (.pointer (some a)) u:=by
 unfold fzI at hz
 split at hz
 ·rename_i fs hu
  split at hz
  ·rename_i f hf
   split at hz
   ·rename_i j hj
    simp only [Bool.and_eq_true, beq_iff_eq, Bool.not_eq_true', beq_eq_false_iff_ne, ne_eq, Option.isSome_iff_exists] at hz
    obtain ⟨hj0, hc, ⟨k1, h1⟩, k2, h2⟩:=hz
    have r1:=zlo (P:=P) hb hc h1
    have r2:=zlo (P:=P) hb hc h2
    have hsz:(sizeOf f.type).run P u = .ok 0 u:=by simp [sizeOf, typeInfo, hj, hj0]
    have hun:=run_underlying (P:=P) (w:=u) hu
    have hfp:∃ a, (fieldPlace ⟨b, off, none⟩ f).run P u = .ok a u:=by
     simp only [fieldPlace, Sem.run_bind, hsz, Result.andThen_ok, if_true, partAt, r1, r2, Sem.run_pure]
     exact ⟨_, rfl⟩
    obtain ⟨a, ha⟩:=hfp
    refine ⟨a, ?_⟩
    simp only [Instr.fieldAt, Sem.run_bind, hun, Result.andThen_ok, hf, Instr.sureAddr, Sem.run_pure, ha]
   ·simp at hz
  ·cases hz
 ·cases hz
theorem zzj {t:TypeId} {places:List (Nat × Nat)} {z cs:List Value} {vs:List (Nat × Value)} (hp:PL P t places z) (hc:zk3 places z vs = some cs):P.built t vs = some cs.toArray:=by
 obtain ⟨zv, hz1, hz2⟩:=hp.zr
 have hpl:=hp.pl
 unfold plI at hpl
 unfold zrI at hz1
 split at hz1
 ·rename_i it hit
  unfold Program.built
  split at hpl
  ·rename_i fs hu
   simp only [hit, hu, hz1, hpl]
   rw [zb2, hz2]
   exact zd2 (fun i p h => by simpa using h) vs z cs hc
  ·rename_i m el hu
   split at hpl
   ·rename_i ie hie
    simp only [hit, hu, hz1, hie]
    cases hpl
    rw [zb2, hz2]
    exact zd2 (fun i p h => by
     rw [List.getElem?_map] at h
     cases hr:(List.range m)[i]? with
     | none => rw [hr] at h; cases h
     | some j =>
      rw [hr] at h
      have:j = i:=by
       have:=List.getElem?_eq_some_iff.1 hr
       obtain ⟨h1, h2⟩:=this
       simpa using h2.symm
      subst this
      simpa using h) vs z cs hc
   ·cases hpl
  ·cases hpl
 ·cases hz1
theorem zti {t:Nat} {t' st:TypeId} {i off:Nat} {cs:List Value} (hx:κ t = some (.sat (At cs t' off))) (hn:Nat.blt d n = true) (hg:gK ops κ ⟨some d, .fieldAddr st (.tmp t) i, ty, pos, aft, g⟩ = some true)
  (hz:fzI P t' st off i = true):StepOK P F B n ops O κ ⟨some d, .fieldAddr st (.tmp t) i, ty, pos, aft, g⟩ d (.sat PtrS) :=
 zar rfl (zn hn) hg PtrS.mono fun a u H fp e => by
  obtain ⟨b, hv, hb⟩:=e.sat_ t _ (by simp [Op.operands]) hx
  obtain ⟨ad, hr⟩:=zln hz (e.sub _ _ hb)
  refine ⟨_, ?_, ad, rfl⟩
  simp only [execOp, hv, Sem.run_bind, hr, Result.andThen_ok]
  rfl
theorem zth {x:Operand} {t' st:TypeId} {i b off:Nat} {cs:Array Value} {fr:Nat × Nat} (hb:B b = some (.cells cs t' fr)) (hx:evK κ x = some (.pointer (some ⟨b, off, none⟩))) (hn:Nat.blt d n = true) (hg:gK ops κ ⟨some d, .fieldAddr st x i, ty, pos, aft, g⟩ = some true)
  (hz:fzI P t' st off i = true):StepOK P F B n ops O κ ⟨some d, .fieldAddr st x i, ty, pos, aft, g⟩ d (.sat PtrS) :=
 zar rfl (zn hn) hg PtrS.mono fun a u H fp e => by
  have hv:=e.is_ x _ (by simp [Op.operands]) hx
  obtain ⟨ad, hr⟩:=zln hz (e.sub _ _ (e.base _ _ hb))
  refine ⟨_, ?_, ad, rfl⟩
  simp only [execOp, hv, Sem.run_bind, hr, Result.andThen_ok]
  rfl
theorem zrs (L:Tabs P) {q:Nat} {t:TypeId} (hx:κ q = some (.sat PtrS)) (hn:Nat.blt d n = true) (hg:gK ops κ ⟨some d, .load t (.tmp q), ty, pos, aft, g⟩ = some true) (ht:L.ld t = some (true, 0)) :
  StepOK P F B n ops O κ ⟨some d, .load t (.tmp q), ty, pos, aft, g⟩ d (.is (.agg #[])) :=
 zar rfl (zn hn) hg trivial fun a u H fp e => by
  obtain ⟨ad, hv⟩:=e.sat_ q _ (by simp [Op.operands]) hx
  refine ⟨.agg #[], ?_, rfl⟩
  simp only [execOp, hv, Instr.loadAt, Instr.sureAddr, Sem.run_bind, Sem.run_pure, Result.andThen_ok]
  rw [zb9 (Tabs.ld_spec ht) u ad [] rfl (fun j v hj => by simp at hj)]
  rfl
theorem zo7 {t:TypeId} {parts:Array (Nat × Operand)} {places:List (Nat × Nat)} {z:List Value} {ψ:Value → Heap → Prop} (hn:Nat.blt d n = true) (hg:gK ops κ ⟨some d, .build t parts, ty, pos, aft, g⟩ = some true)
  (hp:PL P t places z) (hm:Kn.mono (.sat ψ)) (h:∀ H, B.Le H → Args κ H (parts.toList.map (·.2)) [] (fun vs => ∃ cs, zk3 places z ((parts.toList.map (·.1)).zip vs) = some cs ∧ ψ (.agg cs.toArray) H)) :
  StepOK P F B n ops O κ ⟨some d, .build t parts, ty, pos, aft, g⟩ d (.sat ψ):=by
 rintro κ' a u hl ⟨H, fp, hh⟩
 unfold After
 rw [if_pos (zah hh hl hg)]
 have e:=hh.env (o:=⟨some d, .build t parts, ty, pos, aft, g⟩) hl
 have hc:=Args.use e (parts.toList.map (·.2)) [] (fun x hx => by
  simp only [Op.operands]
  obtain ⟨q, hq, rfl⟩:=List.mem_map.1 hx
  simp
  exact ⟨q.1, by simpa using hq⟩) (h H e.base)
 obtain ⟨cs, hb, hψ⟩:=hc
 simp only [List.reverse_nil, List.nil_append, List.map_map] at hb
 have hz:(parts.toList.map (·.1)).zip (parts.toList.map (a.eval ∘ (·.2))) = parts.toList.map fun p => (p.1, a.eval p.2):=by
  generalize parts.toList = l
  induction l with
  | nil => rfl
  | cons x l ih => simp only [List.map_cons, List.zip_cons_cons, ih]; rfl
 rw [hz] at hb
 have hbt:=zzj hp hb
 have hr:=run_build (P:=P) u t (parts.toList.map fun p => (p.1, a.eval p.2)).toArray cs.toArray (by simpa using hbt)
 have harr:(parts.map fun (p:Nat × Operand) => (p.1, a.eval p.2)) = (parts.toList.map fun p => (p.1, a.eval p.2)).toArray:=by
  rw [← List.map_toArray, Array.toArray_toList]
 have hrun:(execOp a.eval ⟨some d, .build t parts, ty, pos, aft, g⟩).run P u = .ok (.value (.agg cs.toArray)) u:=by
  simp only [execOp, Sem.run_bind]
  show Result.andThen ((Instr.build t (parts.map fun (p:Nat × Operand) => (p.1, a.eval p.2))).run P u) _ = _
  rw [harr, hr]
  rfl
 rw [hrun]
 simp only [Upon]
 exact ⟨H, fp, hh.put (zn hn) hm hψ⟩
end
end Go.V
set_option maxRecDepth 20000
namespace Go.V.UT
open Go.Proofs Go.RowKit Go.V
theorem _root_.Go.V.ZaL {A B:Prop} (h:B) (t:Wr B → A:=by intro h; refine z8 (zp rfl (zn rfl) rfl) rfl ?_;exact h.h):A:=t ⟨h⟩
theorem _root_.Go.V.Zbb {A B:Prop} (h:B) (t:Wr B → A:=by intro h; refine z8 (q7 L (qt rfl (by assumption)) rfl rfl rfl rfl) rfl ?_;exact h.h):A:=t ⟨h⟩
theorem _root_.Go.V.Zbc {A B:Prop} (h:B) (t:Wr B → A:=by intro h; refine z8 (qb rfl rfl rfl rfl) rfl ?_;exact h.h):A:=t ⟨h⟩
theorem _root_.Go.V.Zf1 {A B:Prop} (h:B) (t:Wr B → A:=by intro h; refine z8 (zz L (vs:=[_, _, _, _, _, _]) (qt rfl (by assumption)) rfl rfl rfl rfl ⟨_, rfl⟩) rfl ?_;exact h.h):A:=t ⟨h⟩
theorem _root_.Go.V.Zbp {A B:Prop} (h:B) (t:Wr B → A:=by intro h; refine z8 (zz L (vs:=[_, _, _, _, _, _]) (qn rfl) rfl rfl rfl rfl ⟨_, rfl⟩) rfl ?_;exact h.h):A:=t ⟨h⟩
theorem _root_.Go.V.Zeb {A B:Prop} (h:B) (t:Wr B → A:=by intro h; refine z7 (q7 L (qt rfl (by assumption)) rfl rfl rfl rfl) rfl ?_;exact h.h):A:=t ⟨h⟩
theorem _root_.Go.V.Zcd {A B:Prop} (h:B) (t:Wr B → A:=by intro h; refine z8 (qm rfl rfl rfl rfl (decide_eq_true (by omega))) rfl ?_;exact h.h):A:=t ⟨h⟩
theorem _root_.Go.V.Zbq {A B:Prop} (h:B) (t:Wr B → A:=by intro h; refine z7 (zcl rfl rfl rfl rfl z5q rfl) rfl ?_;exact h.h):A:=t ⟨h⟩
theorem _root_.Go.V.Zde {A B:Prop} (h:B) (t:Wr B → A:=by intro h; refine z8 (ya rfl rfl rfl rfl (decide_eq_true (by omega))) rfl ?_;exact h.h):A:=t ⟨h⟩
theorem _root_.Go.V.ZdB {A B:Prop} (h:B) (t:Wr B → A:=by intro h; refine z8 (ya rfl rfl rfl rfl (decide_eq_false (by omega))) rfl ?_;exact h.h):A:=t ⟨h⟩
theorem _root_.Go.V.Zec {A B:Prop} (h:B) (t:Wr B → A:=by intro h; refine z8 (y4 rfl rfl rfl) rfl ?_;exact h.h):A:=t ⟨h⟩
theorem _root_.Go.V.Zed {A B:Prop} (h:B) (t:Wr B → A:=by intro h; refine z8 (qm rfl rfl rfl rfl (decide_eq_false (by omega))) rfl ?_;exact h.h):A:=t ⟨h⟩
theorem _root_.Go.V.ZeF {A B:Prop} (h:B) (t:Wr B → A:=by intro h; refine q6 (id:=2) [] mixed (by kernel_rfl) ?_;exact h.h):A:=t ⟨h⟩
theorem _root_.Go.V.ZdC {A B:Prop} (h:B) (t:Wr B → A:=by intro h; refine ZaL ?_;refine ZaL ?_;exact h.h):A:=t ⟨h⟩
theorem _root_.Go.V.Zer {A B:Prop} (h:B) (t:Wr B → A:=by intro h; refine Zp ?_;refine Zg ?_;exact h.h):A:=t ⟨h⟩
theorem _root_.Go.V.Zfr {A B:Prop} (h:B) (t:Wr B → A:=by intro h; refine ZdC ?_;refine ZdC ?_;exact h.h):A:=t ⟨h⟩
theorem _root_.Go.V.ZdD {A B:Prop} (h:B) (t:Wr B → A:=by intro h; refine Zc ?_;refine Zfg ?_;exact h.h):A:=t ⟨h⟩
theorem _root_.Go.V.Zas {A B:Prop} (h:B) (t:Wr B → A:=by intro h; refine ZcX ?_;refine Zbb ?_;exact h.h):A:=t ⟨h⟩
theorem _root_.Go.V.ZcG {A B:Prop} (h:B) (t:Wr B → A:=by intro h; refine ZdD ?_;refine zj ?_;exact h.h):A:=t ⟨h⟩
theorem _root_.Go.V.ZfO {A B:Prop} (h:B) (t:Wr B → A:=by intro h; refine Zg ?_;refine Zfr ?_;exact h.h):A:=t ⟨h⟩
theorem _root_.Go.V.Zee {A B:Prop} (h:B) (t:Wr B → A:=by intro h; refine ZfO ?_;refine Zfr ?_;exact h.h):A:=t ⟨h⟩
theorem _root_.Go.V.ZeY {A B:Prop} (h:B) (t:Wr B → A:=by intro h; refine Zc ?_;refine ZeN ?_;exact h.h):A:=t ⟨h⟩
theorem _root_.Go.V.Zce {A B:Prop} (h:B) (t:Wr B → A:=by intro h; refine Zar ?_;refine Zeb ?_;exact h.h):A:=t ⟨h⟩
theorem _root_.Go.V.Zcf {A B:Prop} (h:B) (t:Wr B → A:=by intro h; refine Zee ?_;refine ZdC ?_;exact h.h):A:=t ⟨h⟩
theorem _root_.Go.V.ZcH {A B:Prop} (h:B) (t:Wr B → A:=by intro h; refine Zfn ?_;refine Zbb ?_;exact h.h):A:=t ⟨h⟩
theorem _root_.Go.V.ZcI {A B:Prop} (h:B) (t:Wr B → A:=by intro h; refine ZcX ?_;refine Zf1 ?_;exact h.h):A:=t ⟨h⟩
theorem _root_.Go.V.ZcJ {A B:Prop} (h:B) (t:Wr B → A:=by intro h; refine Zay ?_;refine Za ?_;exact h.h):A:=t ⟨h⟩
theorem _root_.Go.V.Zdf {A B:Prop} (h:B) (t:Wr B → A:=by intro h; refine ZeY ?_;refine zj ?_;exact h.h):A:=t ⟨h⟩
theorem _root_.Go.V.ZdE {A B:Prop} (h:B) (t:Wr B → A:=by intro h; refine Zec ?_;refine Zcq ?_;exact h.h):A:=t ⟨h⟩
abbrev KT:=((ByteArray × ByteArray) × ByteArray) × ((ByteArray × ByteArray) × ByteArray)
abbrev VT:=Unit
abbrev kv (k:KT):Value:=.agg #[.string k.1.1.1, .string k.1.1.2, .string k.1.2, .string k.2.1.1, .string k.2.1.2, .string k.2.2]
abbrev vv (x:VT):Value:=.agg #[]
abbrev pl (k:KT) (x:VT):List Value:=[.string k.1.1.1, .string k.1.1.2, .string k.1.2, .string k.2.1.1, .string k.2.1.2, .string k.2.2]
abbrev nl (k:KT) (x:VT) (l r:Value) (s d:Int):List Value:=[.string k.1.1.1, .string k.1.1.2, .string k.1.2, .string k.2.1.1, .string k.2.1.2, .string k.2.2] ++ [l, r, .int .i64 s, .int .i64 d]
abbrev TA (t:Tr KT VT):Value → Heap → Prop:=Tr.TreeAt nl 352 t
theorem TA.mono {t:Tr KT VT}:Kn.mono (.sat (TA t)):=Tr.TreeAt.mono
theorem TA.le {t:Tr KT VT} {v:Value} {H H':Heap} (h:TA t v H) (hle:H.Le H'):TA t v H':=Tr.TreeAt.le h hle
theorem TA.ptr {t:Tr KT VT} {v:Value} {H:Heap} (h:TA t v H):∃ p, v = .pointer p:=by
 cases t with
 | nil => exact ⟨_, h⟩
 | node k x l r => obtain ⟨b, lv, rv, h, _⟩:=h; exact ⟨_, h⟩
attribute [local irreducible] V N X VO Par StepOK Has Ret RetL Src
theorem size_ret (t:Tr KT VT) {v:Value} {w:World} {B:Heap} (hB:B.Le (hp w)) (hv:TA t v B):Ret Tryz.prog 171 [v] w B (fun v _ => v = .int .i64 t.size):=by
 cases t with
 | nil =>
  obtain rfl:v = .pointer none:=hv
  refine qw Tryz.func171 rfl Tryz.ntmps171 (Nat.le_of_ble_eq_true rfl) hB ?_
  refine Zbg ?_;refine Zbq ?_;refine Zck ?_
  refine qv L (rs:=[.tmp 2]) rfl (fun _ _ h => h) Since.refl fun u H hH hle => ?_
  rfl
 | node k x l r =>
  obtain ⟨b, lv, rv, rfl, hb, _, _⟩:=hv
  refine qw Tryz.func171 rfl Tryz.ntmps171 (Nat.le_of_ble_eq_true rfl) hB ?_
  refine Zbg ?_;refine Zbq ?_;refine Zq ?_;refine Zm ?_;refine Zce ?_;refine Zc ?_
  refine qv L (rs:=[.tmp 2]) rfl (fun _ _ h => h) Since.refl fun u H hH hle => ?_
  rfl
theorem deep_ret (t:Tr KT VT) {v:Value} {w:World} {B:Heap} (hB:B.Le (hp w)) (hv:TA t v B):Ret Tryz.prog 313 [v] w B (fun v _ => v = .int .i64 t.deep):=by
 cases t with
 | nil =>
  obtain rfl:v = .pointer none:=hv
  refine qw Tryz.func313 rfl Tryz.ntmps313 (Nat.le_of_ble_eq_true rfl) hB ?_
  refine Zbg ?_;refine Zbq ?_;refine Zck ?_
  refine qv L (rs:=[.tmp 2]) rfl (fun _ _ h => h) Since.refl fun u H hH hle => ?_
  rfl
 | node k x l r =>
  obtain ⟨b, lv, rv, rfl, hb, _, _⟩:=hv
  refine qw Tryz.func313 rfl Tryz.ntmps313 (Nat.le_of_ble_eq_true rfl) hB ?_
  refine Zbg ?_;refine Zbq ?_;refine Zq ?_;refine Zm ?_;refine Zce ?_;refine Zc ?_
  refine qv L (rs:=[.tmp 2]) rfl (fun _ _ h => h) Since.refl fun u H hH hle => ?_
  rfl
theorem z1w (a b:Nat):(if ((b:Nat):Int) > (a:Int) then ((b:Nat):Int) else (a:Int)) = ((max a b:Nat):Int):=by
 split <;> omega
theorem join_ret (k:KT) (x:VT) (l r:Tr KT VT) {lv rv:Value} {w:World} {B:Heap} (hB:B.Le (hp w)) (hl:TA l lv B) (hr:TA r rv B) (hs:l.size + r.size < 1099511627776) :
  Ret Tryz.prog 290 [.agg (pl k x).toArray, lv, rv] w B (TA (.node k x l r)):=by
 obtain ⟨pl', rfl⟩:=hl.ptr
 obtain ⟨pr, rfl⟩:=hr.ptr
 have hdl:=l.deep_le
 have hdr:=r.deep_le
 refine qw Tryz.func290 rfl Tryz.ntmps290 (Nat.le_of_ble_eq_true rfl) hB ?_
 refine ZK ?_;refine ZbS ?_;refine Zbp ?_;refine Zer ?_;refine z8 (zq L rfl rfl (zn rfl) rfl rfl rfl (fun u H hH hle _ => UT.size_ret _ hH (UT.TA.le (by assumption) hle))) rfl ?_;refine Zc9 ?_;refine Zg ?_;refine z8 (zq L rfl rfl (zn rfl) rfl rfl rfl (fun u H hH hle _ => UT.size_ret _ hH (UT.TA.le (by assumption) hle))) rfl ?_;refine Zc9 ?_;refine Zg ?_;refine z8 (zq L rfl rfl (zn rfl) rfl rfl rfl (fun u H hH hle _ => UT.deep_ret _ hH (UT.TA.le (by assumption) hle))) rfl ?_;refine Zg ?_;refine z8 (zq L rfl rfl (zn rfl) rfl rfl rfl (fun u H hH hle _ => UT.deep_ret _ hH (UT.TA.le (by assumption) hle))) rfl ?_;refine z8 (zgi rfl rfl rfl rfl rfl) rfl ?_;refine Zc9 ?_;refine z8 (y5 (cs:=[_, _, _, _, _, _, _, _, _, _]) rfl rfl z5j rfl rfl) rfl ?_;refine z8 (yc rfl rfl rfl rfl) rfl ?_;refine ZdE ?_
 refine qv L (rs:=[.tmp 6]) rfl (fun _ _ h => h) Since.refl fun u H hH hle => ?_
 rintro _ ⟨b, rfl, hb⟩
 refine ⟨b, _, _, rfl, ?_, TA.le hl hle, TA.le hr hle⟩
 rw [z1w] at hb
 simpa [Tr.size_node, Tr.deep_node] using hb
theorem bal_ret (k:KT) (x:VT) (l r:Tr KT VT) {lv rv:Value} {w:World} {B:Heap} (hB:B.Le (hp w)) (hl:TA l lv B) (hr:TA r rv B) (hs:l.size + r.size < 1099511627776) :
  Ret Tryz.prog 288 [.agg (pl k x).toArray, lv, rv] w B (TA (Tr.bal k x l r)):=by
 have hdl:=l.deep_le
 have hdr:=r.deep_le
 refine qw Tryz.func288 rfl Tryz.ntmps288 (Nat.le_of_ble_eq_true rfl) hB ?_
 unfold Tr.bal
 by_cases h1:l.deep > r.deep + 1
 ·rw [if_pos h1]
  cases l with
  | nil => simp [Tr.deep] at h1
  | node lk lx ll lr =>
   have hl0:=hl; obtain ⟨b1, v1, v2, rfl, hb1, hll, hlr⟩:=hl
   have hd1:=ll.deep_le
   have hd2:=lr.deep_le
   simp only [Tr.size_node] at hs hdl
   dsimp only
   by_cases h2:ll.deep ≥ lr.deep
   ·rw [if_pos h2]
    refine ZK ?_;refine Za6 ?_;refine z7 (zq L rfl rfl (zn rfl) rfl rfl rfl (fun u H hH hle _ => UT.deep_ret _ hH (UT.TA.le (by assumption) hle))) rfl ?_;refine Za ?_;refine z7 (zq L rfl rfl (zn rfl) rfl rfl rfl (fun u H hH hle _ => UT.deep_ret _ hH (UT.TA.le (by assumption) hle))) rfl ?_;refine Zbx ?_;refine Zc ?_;refine ZM ?_;refine ZeF ?_;refine Zg ?_;refine Zde ?_;refine Zp ?_;refine ZcH ?_;refine z8 (zq L rfl rfl (zn rfl) rfl rfl rfl (fun u H hH hle _ => UT.deep_ret _ hH (UT.TA.le (by assumption) hle))) rfl ?_;refine Zas ?_;refine z8 (zq L rfl rfl (zn rfl) rfl rfl rfl (fun u H hH hle _ => UT.deep_ret _ hH (UT.TA.le (by assumption) hle))) rfl ?_;refine ZeE ?_;refine Zbc ?_;refine ZB ?_;refine ZeN ?_;refine zj ?_;refine ZdW ?_;refine ZcI ?_;refine Zas ?_;refine Zbp ?_;refine Zas ?_;refine Zg ?_;refine z8 (zai L rfl rfl (zn rfl) rfl rfl rfl UT.TA.mono (fun u H hH hle _ => UT.join_ret _ () _ _ hH (UT.TA.le (by assumption) hle) (UT.TA.le (by assumption) hle) (by first | omega | (simp only [Tr.size_node]; omega)))) rfl ?_;refine z8 (zai L rfl rfl (zn rfl) rfl rfl rfl UT.TA.mono (fun u H hH hle _ v1 hv1 => UT.join_ret _ () _ _ hH (UT.TA.le (by assumption) hle) hv1 (by first | omega | (simp only [Tr.size_node]; omega)))) rfl ?_;refine ZdE ?_
    refine qv L (rs:=[.tmp 6]) rfl (fun _ _ h => h) Since.refl fun u H hH hle => ?_
    exact fun v hv => hv
   ·rw [if_neg h2]
    cases lr with
    | nil => simp [Tr.deep] at h2
    | node mk mx ml mr =>
     have hlr0:=hlr; obtain ⟨b2, v3, v4, rfl, hb2, hml, hmr⟩:=hlr
     simp only [Tr.size_node] at hs hdl hd2
     refine ZK ?_;refine Za6 ?_;refine z7 (zq L rfl rfl (zn rfl) rfl rfl rfl (fun u H hH hle _ => UT.deep_ret _ hH (UT.TA.le (by assumption) hle))) rfl ?_;refine Za ?_;refine z7 (zq L rfl rfl (zn rfl) rfl rfl rfl (fun u H hH hle _ => UT.deep_ret _ hH (UT.TA.le (by assumption) hle))) rfl ?_;refine Zbx ?_;refine Zc ?_;refine ZM ?_;refine ZeF ?_;refine Zg ?_;refine Zde ?_;refine Zp ?_;refine ZcH ?_;refine z8 (zq L rfl rfl (zn rfl) rfl rfl rfl (fun u H hH hle _ => UT.deep_ret _ hH (UT.TA.le (by assumption) hle))) rfl ?_;refine Zas ?_;refine z8 (zq L rfl rfl (zn rfl) rfl rfl rfl (fun u H hH hle _ => UT.deep_ret _ hH (UT.TA.le (by assumption) hle))) rfl ?_;refine Zfp ?_;refine Zbc ?_;refine Zao ?_;refine Zbz ?_;refine zj ?_;refine Zk ?_;refine ZP ?_;refine Zdf ?_;refine ZN ?_;refine Zce ?_;refine Zd ?_;refine Zeq ?_;refine ZcI ?_;refine ZcI ?_;refine Zas ?_;refine Zas ?_;refine z8 (zai L rfl rfl (zn rfl) rfl rfl rfl UT.TA.mono (fun u H hH hle _ => UT.join_ret _ () _ _ hH (UT.TA.le (by assumption) hle) (UT.TA.le (by assumption) hle) (by first | omega | (simp only [Tr.size_node]; omega)))) rfl ?_;refine Zbp ?_;refine Zas ?_;refine Zg ?_;refine z8 (zai L rfl rfl (zn rfl) rfl rfl rfl UT.TA.mono (fun u H hH hle _ => UT.join_ret _ () _ _ hH (UT.TA.le (by assumption) hle) (UT.TA.le (by assumption) hle) (by first | omega | (simp only [Tr.size_node]; omega)))) rfl ?_;refine z8 (zai L rfl rfl (zn rfl) rfl rfl rfl UT.TA.mono (fun u H hH hle _ v1 hv1 v2 hv2 => UT.join_ret _ () _ _ hH hv1 hv2 (by first | omega | (simp only [Tr.size_node]; omega)))) rfl ?_;refine ZdE ?_
     refine qv L (rs:=[.tmp 6]) rfl (fun _ _ h => h) Since.refl fun u H hH hle => ?_
     exact fun v hv => hv
 ·rw [if_neg h1]
  by_cases h3:r.deep > l.deep + 1
  ·rw [if_pos h3]
   cases r with
   | nil => simp [Tr.deep] at h3
   | node rk rx rl rr =>
    have hr0:=hr; obtain ⟨b1, v1, v2, rfl, hb1, hrl, hrr⟩:=hr
    have hd1:=rl.deep_le
    have hd2:=rr.deep_le
    simp only [Tr.size_node] at hs hdr
    dsimp only
    by_cases h2:rr.deep ≥ rl.deep
    ·rw [if_pos h2]
     refine ZK ?_;refine Za6 ?_;refine z7 (zq L rfl rfl (zn rfl) rfl rfl rfl (fun u H hH hle _ => UT.deep_ret _ hH (UT.TA.le (by assumption) hle))) rfl ?_;refine Za ?_;refine z7 (zq L rfl rfl (zn rfl) rfl rfl rfl (fun u H hH hle _ => UT.deep_ret _ hH (UT.TA.le (by assumption) hle))) rfl ?_;refine Zbx ?_;refine Zc ?_;refine ZM ?_;refine ZeF ?_;refine Zg ?_;refine ZdB ?_;refine Zcf ?_;refine ZaL ?_;refine Zbc ?_;refine Zao ?_;refine Zbz ?_;refine zj ?_;refine Zk ?_;refine Z3 ?_;refine ZcG ?_;refine ZeA ?_;refine Zg ?_;refine Zcd ?_;refine Zp ?_;refine ZcH ?_;refine z8 (zq L rfl rfl (zn rfl) rfl rfl rfl (fun u H hH hle _ => UT.deep_ret _ hH (UT.TA.le (by assumption) hle))) rfl ?_;refine Zas ?_;refine z8 (zq L rfl rfl (zn rfl) rfl rfl rfl (fun u H hH hle _ => UT.deep_ret _ hH (UT.TA.le (by assumption) hle))) rfl ?_;refine ZeE ?_;refine Zbc ?_;refine ZB ?_;refine ZeN ?_;refine zj ?_;refine Zb9 ?_;refine ZcI ?_;refine Zbp ?_;refine Zp ?_;refine ZcH ?_;refine z8 (zai L rfl rfl (zn rfl) rfl rfl rfl UT.TA.mono (fun u H hH hle _ => UT.join_ret _ () _ _ hH (UT.TA.le (by assumption) hle) (UT.TA.le (by assumption) hle) (by first | omega | (simp only [Tr.size_node]; omega)))) rfl ?_;refine Zas ?_;refine z8 (zai L rfl rfl (zn rfl) rfl rfl rfl UT.TA.mono (fun u H hH hle _ v1 hv1 => UT.join_ret _ () _ _ hH hv1 (UT.TA.le (by assumption) hle) (by first | omega | (simp only [Tr.size_node]; omega)))) rfl ?_;refine ZdE ?_
     refine qv L (rs:=[.tmp 6]) rfl (fun _ _ h => h) Since.refl fun u H hH hle => ?_
     exact fun v hv => hv
    ·rw [if_neg h2]
     cases rl with
     | nil => simp [Tr.deep] at h2
     | node mk mx ml mr =>
      have hrl0:=hrl; obtain ⟨b2, v3, v4, rfl, hb2, hml, hmr⟩:=hrl
      simp only [Tr.size_node] at hs hdr hd1
      refine ZK ?_;refine Za6 ?_;refine z7 (zq L rfl rfl (zn rfl) rfl rfl rfl (fun u H hH hle _ => UT.deep_ret _ hH (UT.TA.le (by assumption) hle))) rfl ?_;refine Za ?_;refine z7 (zq L rfl rfl (zn rfl) rfl rfl rfl (fun u H hH hle _ => UT.deep_ret _ hH (UT.TA.le (by assumption) hle))) rfl ?_;refine Zbx ?_;refine Zc ?_;refine ZM ?_;refine ZeF ?_;refine Zg ?_;refine ZdB ?_;refine Zcf ?_;refine ZaL ?_;refine Zbc ?_;refine Zao ?_;refine Zbz ?_;refine zj ?_;refine Zk ?_;refine Z3 ?_;refine ZcG ?_;refine ZeA ?_;refine Zg ?_;refine Zcd ?_;refine Zp ?_;refine ZcH ?_;refine z8 (zq L rfl rfl (zn rfl) rfl rfl rfl (fun u H hH hle _ => UT.deep_ret _ hH (UT.TA.le (by assumption) hle))) rfl ?_;refine Zas ?_;refine z8 (zq L rfl rfl (zn rfl) rfl rfl rfl (fun u H hH hle _ => UT.deep_ret _ hH (UT.TA.le (by assumption) hle))) rfl ?_;refine Zfp ?_;refine Zbc ?_;refine Zao ?_;refine Zbz ?_;refine zj ?_;refine Za0 ?_;refine ZY ?_;refine Zdf ?_;refine ZcJ ?_;refine Zce ?_;refine Zd ?_;refine q6 (id:=11) [] mixed (by kernel_rfl) ?_;refine ZcI ?_;refine Zbp ?_;refine Zp ?_;refine ZcH ?_;refine z8 (zai L rfl rfl (zn rfl) rfl rfl rfl UT.TA.mono (fun u H hH hle _ => UT.join_ret _ () _ _ hH (UT.TA.le (by assumption) hle) (UT.TA.le (by assumption) hle) (by first | omega | (simp only [Tr.size_node]; omega)))) rfl ?_;refine ZcI ?_;refine Zas ?_;refine Zas ?_;refine z8 (zai L rfl rfl (zn rfl) rfl rfl rfl UT.TA.mono (fun u H hH hle _ => UT.join_ret _ () _ _ hH (UT.TA.le (by assumption) hle) (UT.TA.le (by assumption) hle) (by first | omega | (simp only [Tr.size_node]; omega)))) rfl ?_;refine z8 (zai L rfl rfl (zn rfl) rfl rfl rfl UT.TA.mono (fun u H hH hle _ v1 hv1 v2 hv2 => UT.join_ret _ () _ _ hH hv1 hv2 (by first | omega | (simp only [Tr.size_node]; omega)))) rfl ?_;refine ZdE ?_
      refine qv L (rs:=[.tmp 6]) rfl (fun _ _ h => h) Since.refl fun u H hH hle => ?_
      exact fun v hv => hv
  ·rw [if_neg h3]
   refine ZK ?_;refine Za6 ?_;refine z7 (zq L rfl rfl (zn rfl) rfl rfl rfl (fun u H hH hle _ => UT.deep_ret _ hH (UT.TA.le (by assumption) hle))) rfl ?_;refine Za ?_;refine z7 (zq L rfl rfl (zn rfl) rfl rfl rfl (fun u H hH hle _ => UT.deep_ret _ hH (UT.TA.le (by assumption) hle))) rfl ?_;refine Zbx ?_;refine Zc ?_;refine ZM ?_;refine ZeF ?_;refine Zg ?_;refine ZdB ?_;refine Zcf ?_;refine ZaL ?_;refine Zbc ?_;refine Zao ?_;refine Zbz ?_;refine zj ?_;refine Zk ?_;refine Z3 ?_;refine ZcG ?_;refine ZeA ?_;refine Zg ?_;refine Zed ?_;refine Zcf ?_;refine ZaL ?_;refine Zbc ?_;refine Zao ?_;refine Zbz ?_;refine zj ?_;refine Za0 ?_;refine ZI ?_;refine ZdD ?_;refine zx ?_;refine qy ?_;refine ZbK ?_;refine Z4 ?_;refine Zea ?_;refine Zb ?_;refine z7 (zai L rfl rfl (zn rfl) rfl rfl rfl UT.TA.mono (fun u H hH hle _ => UT.join_ret _ () _ _ hH (UT.TA.le (by assumption) hle) (UT.TA.le (by assumption) hle) (by first | omega | (simp only [Tr.size_node]; omega)))) rfl ?_;refine Zd8 ?_
   refine qv L (rs:=[.tmp 6]) rfl (fun _ _ h => h) Since.refl fun u H hH hle => ?_
   exact fun v hv => hv
end Go.V.UT
set_option maxRecDepth 20000
namespace Go.V.UT
open Go.Proofs Go.RowKit Go.V
theorem _root_.Go.V.ZdF {A B:Prop} (h:B) (t:Wr B → A:=by intro h; refine z7 (zgr rfl rfl rfl rfl) rfl ?_;exact h.h):A:=t ⟨h⟩
theorem _root_.Go.V.ZfP {A B:Prop} (h:B) (t:Wr B → A:=by intro h; refine z7 (ze6 rfl rfl rfl rfl (by assumption)) rfl ?_;exact h.h):A:=t ⟨h⟩
theorem _root_.Go.V.ZcK {A B:Prop} (h:B) (t:Wr B → A:=by intro h; refine zhz (qp rfl) rfl rfl ?_;exact h.h):A:=t ⟨h⟩
theorem _root_.Go.V.ZeG {A B:Prop} (h:B) (t:Wr B → A:=by intro h; refine q6 (id:=13) [] mixed (by kernel_rfl) ?_;exact h.h):A:=t ⟨h⟩
theorem _root_.Go.V.ZcL {A B:Prop} (h:B) (t:Wr B → A:=by intro h; refine ZaI ?_;refine Za6 ?_;exact h.h):A:=t ⟨h⟩
theorem _root_.Go.V.Zgj {A B:Prop} (h:B) (t:Wr B → A:=by intro h; refine ZcX ?_;refine ZbY ?_;exact h.h):A:=t ⟨h⟩
theorem _root_.Go.V.Zgc {A B:Prop} (h:B) (t:Wr B → A:=by intro h; refine Zgj ?_;refine Zf1 ?_;exact h.h):A:=t ⟨h⟩
theorem _root_.Go.V.Zdg {A B:Prop} (h:B) (t:Wr B → A:=by intro h; refine Zbn ?_;refine Zj ?_;exact h.h):A:=t ⟨h⟩
theorem _root_.Go.V.ZdG {A B:Prop} (h:B) (t:Wr B → A:=by intro h; refine ZdW ?_;refine Zbw ?_;exact h.h):A:=t ⟨h⟩
theorem _root_.Go.V.ZdH {A B:Prop} (h:B) (t:Wr B → A:=by intro h; refine Zbp ?_;refine Zgc ?_;exact h.h):A:=t ⟨h⟩
structure Cmp (cf:Nat) (c:KT → KT → Int):Prop where
 fn:L.fn cf = some ()
 ret:∀ (a b:KT) (u:World) (H:Heap), H.Le (hp u) → Ret Tryz.prog cf [kv a, kv b] u H (fun v _ => v = .int .i64 (c a b))
abbrev mv (cf:Nat) (root:Value):Value:=.agg #[.func (.func cf) #[] #[], root]
attribute [local irreducible] V N X VO Par StepOK Has Ret RetL Src
theorem z09 {cf:Nat} {c:KT → KT → Int} (hc:Cmp cf c) (root:Value) (k:KT) (x:VT):∀ (t:Tr KT VT) {rv:Value} {w:World} {B:Heap}, B.Le (hp w) → TA t rv B → t.size + 1 < 1099511627776 →
  Ret Tryz.prog 243 [mv cf root, rv, .agg (pl k x).toArray] w B (TA (Tr.put c k x t)):=by
 intro t
 induction t with
 | nil =>
  intro rv w B hB hv hs
  obtain rfl:rv = .pointer none:=hv
  have hn:TA .nil (.pointer none) B:=rfl
  have hz:(Tr.nil:Tr KT VT).size = 0:=rfl
  refine qw Tryz.func243 rfl Tryz.ntmps243 (Nat.le_of_ble_eq_true rfl) hB ?_
  refine Zac ?_;refine Za6 ?_;refine Zbq ?_;refine ZbM ?_;refine Zea ?_;refine z7 (zai L rfl rfl (zn rfl) rfl rfl rfl UT.TA.mono (fun u H hH hle _ => UT.join_ret _ () _ _ hH (UT.TA.le (by assumption) hle) (UT.TA.le (by assumption) hle) (by first | omega | (simp only [Tr.size_node]; omega)))) rfl ?_;refine Zd8 ?_
  refine qv L (rs:=[.tmp 6]) rfl (fun _ _ h => h) Since.refl fun u H hH hle => ?_
  exact fun v hv => hv
 | node nk nx l r ihl ihr =>
  intro rv w B hB hv hs
  obtain ⟨b, lv, rv', rfl, hb, hl, hr⟩:=hv
  have hpl:=Tr.size_put c k x l
  have hpr:=Tr.size_put c k x r
  simp only [Tr.size_node] at hs
  refine qw Tryz.func243 rfl Tryz.ntmps243 (Nat.le_of_ble_eq_true rfl) hB ?_
  unfold Tr.put
  by_cases h1:c k nk < 0
  ·rw [if_pos h1]
   refine Zac ?_;refine Za6 ?_;refine Zbq ?_;refine ZD ?_;refine ZdG ?_;refine ZcU ?_;refine ZdH ?_;refine z8 (zq L rfl rfl (zn rfl) rfl rfl hc.fn (fun u H hH _ _ => hc.ret _ _ u H hH)) rfl ?_;refine ZB ?_;refine ZM ?_;refine Zk ?_;refine ZY ?_;refine Zdf ?_;refine Ze9 ?_;refine ZcI ?_;refine Zfj ?_;refine Zas ?_;refine Zbp ?_;refine z8 (zai L rfl rfl (zn rfl) rfl rfl rfl TA.mono (fun u H hH hle _ => ihl hH (hl.le hle) (by omega))) rfl ?_;refine Zas ?_;refine z8 (zai L rfl rfl (zn rfl) rfl rfl rfl UT.TA.mono (fun u H hH hle _ v1 hv1 => UT.bal_ret _ () _ _ hH hv1 (UT.TA.le (by assumption) hle) (by first | omega | (simp only [Tr.size_node]; omega)))) rfl ?_;refine ZdE ?_
   refine qv L (rs:=[.tmp 6]) rfl (fun _ _ h => h) Since.refl fun u H hH hle => ?_
   exact fun v hv => hv
  ·rw [if_neg h1]
   by_cases h2:c k nk > 0
   ·rw [if_pos h2]
    refine Zac ?_;refine Za6 ?_;refine Zbq ?_;refine ZD ?_;refine ZdG ?_;refine ZcU ?_;refine ZdH ?_;refine z8 (zq L rfl rfl (zn rfl) rfl rfl hc.fn (fun u H hH _ _ => hc.ret _ _ u H hH)) rfl ?_;refine ZB ?_;refine ZM ?_;refine Zk ?_;refine ZI ?_;refine ZcG ?_;refine ZJ ?_;refine ZP ?_;refine Zdf ?_;refine ZeA ?_;refine ZcI ?_;refine Zas ?_;refine Zfj ?_;refine Zas ?_;refine Zbp ?_;refine z8 (zai L rfl rfl (zn rfl) rfl rfl rfl TA.mono (fun u H hH hle _ => ihr hH (hr.le hle) (by omega))) rfl ?_;refine z8 (zai L rfl rfl (zn rfl) rfl rfl rfl UT.TA.mono (fun u H hH hle _ v1 hv1 => UT.bal_ret _ () _ _ hH (UT.TA.le (by assumption) hle) hv1 (by first | omega | (simp only [Tr.size_node]; omega)))) rfl ?_;refine ZdE ?_
    refine qv L (rs:=[.tmp 6]) rfl (fun _ _ h => h) Since.refl fun u H hH hle => ?_
    exact fun v hv => hv
   ·rw [if_neg h2]
    refine Zac ?_;refine Za6 ?_;refine Zbq ?_;refine ZD ?_;refine ZdG ?_;refine ZcU ?_;refine ZdH ?_;refine z8 (zq L rfl rfl (zn rfl) rfl rfl hc.fn (fun u H hH _ _ => hc.ret _ _ u H hH)) rfl ?_;refine ZB ?_;refine ZM ?_;refine Zk ?_;refine ZI ?_;refine ZcG ?_;refine ZJ ?_;refine Z3 ?_;refine ZdD ?_;refine zx ?_;refine qy ?_;refine ZbK ?_;refine Zb9 ?_;refine Zgc ?_;refine z8 (zti rfl rfl rfl (by kernel_rfl)) rfl ?_;refine z8 (zrs L rfl rfl rfl rfl) rfl ?_;refine z8 (y5 (cs:=[_, _, _, _, _, _]) rfl rfl z3m rfl rfl) rfl ?_;refine Zas ?_;refine Zas ?_;refine z8 (zai L rfl rfl (zn rfl) rfl rfl rfl UT.TA.mono (fun u H hH hle _ => UT.join_ret _ () _ _ hH (UT.TA.le (by assumption) hle) (UT.TA.le (by assumption) hle) (by first | omega | (simp only [Tr.size_node]; omega)))) rfl ?_;refine ZdE ?_
    refine qv L (rs:=[.tmp 6]) rfl (fun _ _ h => h) Since.refl fun u H hH hle => ?_
    exact fun v hv => hv
abbrev FirstS (y:(KT × VT) × Tr KT VT):Value → Heap → Prop:=TupS [fun v _ => v = .agg (pl y.1.1 y.1.2).toArray, TA y.2]
theorem FirstS.mono {y:(KT × VT) × Tr KT VT}:Kn.mono (.sat (FirstS y)):=TupS.mono fun φ hφ => by
 simp only [List.mem_cons, List.mem_nil_iff, or_false] at hφ
 rcases hφ with rfl | rfl
 ·exact fun _ _ _ h _ => h
 ·exact TA.mono
theorem zp8 {φ ψ:Value → Heap → Prop} {v w:Value} {H:Heap} (h1:φ v H) (h2:ψ w H):TupS [φ, ψ] (tup [v, w]) H:=⟨[v, w], rfl, rfl, fun i χ x hi hx => by
 match i with
 | 0 => cases hi; cases hx; exact h1
 | 1 => cases hi; cases hx; exact h2
 | _ + 2 => cases hi⟩
theorem first_ret:∀ (k:KT) (x:VT) (l r:Tr KT VT) {v:Value} {w:World} {B:Heap}, B.Le (hp w) → TA (.node k x l r) v B → l.size + r.size < 1099511627776 →
  Ret Tryz.prog 289 [v] w B (FirstS (Tr.first k x l r)):=by
 intro k x l
 induction l generalizing k x with
 | nil =>
  intro r v w B hB hv hs
  obtain ⟨b, lv, rv, rfl, hb, hl, hr⟩:=hv
  obtain rfl:lv = .pointer none:=hl
  refine qw Tryz.func289 rfl Tryz.ntmps289 (Nat.le_of_ble_eq_true rfl) hB ?_
  refine ZcL ?_;refine Zce ?_;refine Zbq ?_;refine Zs ?_;refine ZeF ?_;refine ZcI ?_;refine Zas ?_;refine ZcW ?_;refine ZB ?_
  refine qv L (rs:=[.cell 2 293, .tmp 3]) rfl (fun _ _ h => h) Since.refl fun u H hH hle => ?_
  refine ZcK ?_
  exact zp8 rfl (TA.le hr hle)
 | node lk lx ll lr ih _ =>
  intro r v w B hB hv hs
  obtain ⟨b, lv, rv, rfl, hb, hl, hr⟩:=hv
  have hl0:=hl
  obtain ⟨b2, v3, v4, rfl, hb2, _, _⟩:=hl
  have hz:=Tr.size_first lk lx ll lr
  simp only [Tr.size_node] at hs
  have hm:=TA.mono (t:=(Tr.first lk lx ll lr).2)
  refine qw Tryz.func289 rfl Tryz.ntmps289 (Nat.le_of_ble_eq_true rfl) hB ?_
  refine ZcL ?_;refine Zce ?_;refine Zbq ?_;refine Zq ?_;refine Zm ?_;refine Zce ?_;refine z7 (zai L rfl rfl (zn rfl) rfl rfl rfl FirstS.mono (fun u H hH hle _ => ih lk lx lr hH (TA.le hl0 hle) (by omega))) rfl ?_;refine Zh ?_;refine ZdF ?_;refine ZfP ?_;refine Zbi ?_;refine Zdg ?_;refine ZdZ ?_;refine ZeX ?_;refine ZcI ?_;refine ZcE ?_;refine Zas ?_;refine z8 (zai L rfl rfl (zn rfl) rfl rfl rfl UT.TA.mono (fun u H hH hle _ v1 hv1 => UT.bal_ret _ () _ _ hH hv1 (UT.TA.le (by assumption) hle) (by first | omega | (simp only [Tr.size_node]; omega)))) rfl ?_;refine ZcW ?_;refine ZdE ?_
  refine qv L (rs:=[.cell 2 293, .tmp 3]) rfl (fun _ _ h => h) Since.refl fun u H hH hle => ?_
  refine ZcK ?_
  exact fun v hv => zp8 rfl hv
abbrev DropS (y:Tr KT VT × Bool):Value → Heap → Prop:=TupS [TA y.1, fun v _ => v = .bool y.2]
theorem DropS.mono {y:Tr KT VT × Bool}:Kn.mono (.sat (DropS y)):=TupS.mono fun φ hφ => by
 simp only [List.mem_cons, List.mem_nil_iff, or_false] at hφ
 rcases hφ with rfl | rfl
 ·exact TA.mono
 ·exact fun _ _ _ h _ => h
theorem zza {cf:Nat} {c:KT → KT → Int} (hc:Cmp cf c) (root:Value) (k:KT):∀ (t:Tr KT VT) {rv:Value} {w:World} {B:Heap}, B.Le (hp w) → TA t rv B → t.size < 1099511627776 →
  Ret Tryz.prog 242 [mv cf root, rv, kv k] w B (DropS (Tr.drop c k t)):=by
 intro t
 induction t with
 | nil =>
  intro rv w B hB hv hs
  obtain rfl:rv = .pointer none:=hv
  have hn:TA .nil (.pointer none) B:=rfl
  refine qw Tryz.func242 rfl Tryz.ntmps242 (Nat.le_of_ble_eq_true rfl) hB ?_
  refine Zac ?_;refine Zu ?_;refine Za6 ?_;refine Zbq ?_;refine ZbM ?_;refine Zt ?_
  refine qv L (rs:=[.tmp 6, .tmp 7]) rfl (fun _ _ h => h) Since.refl fun u H hH hle => ?_
  exact zp8 rfl rfl
 | node nk nx l r ihl ihr =>
  intro rv w B hB hv hs
  obtain ⟨b, lv, rv', rfl, hb, hl, hr⟩:=hv
  have hpl:=Tr.size_drop c k l
  have hpr:=Tr.size_drop c k r
  simp only [Tr.size_node] at hs
  refine qw Tryz.func242 rfl Tryz.ntmps242 (Nat.le_of_ble_eq_true rfl) hB ?_
  unfold Tr.drop
  by_cases h1:c k nk < 0
  ·rw [if_pos h1]
   have hm:=TA.mono (t:=(Tr.drop c k l).1)
   refine Zac ?_;refine Zu ?_;refine Za6 ?_;refine Zbq ?_;refine ZD ?_;refine ZdG ?_;refine ZdH ?_;refine z8 (zq L rfl rfl (zn rfl) rfl rfl hc.fn (fun u H hH _ _ => hc.ret _ _ u H hH)) rfl ?_;refine ZB ?_;refine ZM ?_;refine Zk ?_;refine ZY ?_;refine Zdf ?_;refine Ze9 ?_;refine Zfj ?_;refine Zas ?_;refine Zbp ?_;refine z8 (zai L rfl rfl (zn rfl) rfl rfl rfl DropS.mono (fun u H hH hle _ => ihl hH (hl.le hle) (by omega))) rfl ?_;refine ZcE ?_;refine z8 (ze6 rfl rfl rfl rfl (by assumption)) rfl ?_;refine z8 (zgr rfl rfl rfl rfl) rfl ?_;refine Zec ?_;refine ZdX ?_;refine Zeq ?_;refine ZcI ?_;refine ZcE ?_;refine Zas ?_;refine z8 (zai L rfl rfl (zn rfl) rfl rfl rfl UT.TA.mono (fun u H hH hle _ v1 hv1 => UT.bal_ret _ () _ _ hH hv1 (UT.TA.le (by assumption) hle) (by first | omega | (simp only [Tr.size_node]; omega)))) rfl ?_;refine Zg ?_;refine Zec ?_;refine ZB ?_
   refine qv L (rs:=[.tmp 6, .tmp 7]) rfl (fun _ _ h => h) Since.refl fun u H hH hle => ?_
   exact fun v hv => zp8 hv rfl
  ·rw [if_neg h1]
   by_cases h2:c k nk > 0
   ·rw [if_pos h2]
    have hm:=TA.mono (t:=(Tr.drop c k r).1)
    refine Zac ?_;refine Zu ?_;refine Za6 ?_;refine Zbq ?_;refine ZD ?_;refine ZdG ?_;refine ZdH ?_;refine z8 (zq L rfl rfl (zn rfl) rfl rfl hc.fn (fun u H hH _ _ => hc.ret _ _ u H hH)) rfl ?_;refine ZB ?_;refine ZM ?_;refine Zk ?_;refine ZI ?_;refine ZcG ?_;refine ZO ?_;refine ZP ?_;refine Zdf ?_;refine Zb9 ?_;refine Zfj ?_;refine Zas ?_;refine Zbp ?_;refine z8 (zai L rfl rfl (zn rfl) rfl rfl rfl DropS.mono (fun u H hH hle _ => ihr hH (hr.le hle) (by omega))) rfl ?_;refine ZcE ?_;refine z8 (ze6 rfl rfl rfl rfl (by assumption)) rfl ?_;refine z8 (zgr rfl rfl rfl rfl) rfl ?_;refine Zec ?_;refine ZdX ?_;refine q6 (id:=9) [] mixed (by kernel_rfl) ?_;refine ZcI ?_;refine Zas ?_;refine ZcE ?_;refine z8 (zai L rfl rfl (zn rfl) rfl rfl rfl UT.TA.mono (fun u H hH hle _ v1 hv1 => UT.bal_ret _ () _ _ hH (UT.TA.le (by assumption) hle) hv1 (by first | omega | (simp only [Tr.size_node]; omega)))) rfl ?_;refine Zg ?_;refine Zec ?_;refine ZB ?_
    refine qv L (rs:=[.tmp 6, .tmp 7]) rfl (fun _ _ h => h) Since.refl fun u H hH hle => ?_
    exact fun v hv => zp8 hv rfl
   ·rw [if_neg h2]
    cases r with
    | nil =>
     obtain rfl:rv' = .pointer none:=hr
     refine Zac ?_;refine Zu ?_;refine Za6 ?_;refine Zbq ?_;refine ZD ?_;refine ZdG ?_;refine ZdH ?_;refine z8 (zq L rfl rfl (zn rfl) rfl rfl hc.fn (fun u H hH _ _ => hc.ret _ _ u H hH)) rfl ?_;refine ZB ?_;refine ZM ?_;refine Zk ?_;refine ZI ?_;refine ZcG ?_;refine ZO ?_;refine Z3 ?_;refine ZcG ?_;refine ZcJ ?_;refine Zce ?_;refine Zbq ?_;refine Zdf ?_;refine ZbH ?_;refine Zce ?_;refine Zt ?_
     refine qv L (rs:=[.tmp 6, .tmp 7]) rfl (fun _ _ h => h) Since.refl fun u H hH hle => ?_
     exact zp8 (TA.le hl hle) rfl
    | node rk rx rl rr =>
     have hr0:=hr
     obtain ⟨b2, v3, v4, rfl, hb2, _, _⟩:=hr
     have hz:=Tr.size_first rk rx rl rr
     simp only [Tr.size_node] at hs
     have hm:=TA.mono (t:=(Tr.first rk rx rl rr).2)
     refine Zac ?_;refine Zu ?_;refine Za6 ?_;refine Zbq ?_;refine ZD ?_;refine ZdG ?_;refine ZdH ?_;refine z8 (zq L rfl rfl (zn rfl) rfl rfl hc.fn (fun u H hH _ _ => hc.ret _ _ u H hH)) rfl ?_;refine ZB ?_;refine ZM ?_;refine Zk ?_;refine ZI ?_;refine ZcG ?_;refine ZO ?_;refine Z3 ?_;refine ZcG ?_;refine ZcJ ?_;refine Zce ?_;refine Zbq ?_;refine ZdD ?_;refine zx ?_;refine qy ?_;refine ZbK ?_;refine Z4 ?_;refine Za ?_;refine Zce ?_;refine z7 (zai L rfl rfl (zn rfl) rfl rfl rfl FirstS.mono (fun u H hH hle _ => first_ret rk rx rl rr hH (TA.le hr0 hle) (by omega))) rfl ?_;refine Zh ?_;refine ZdF ?_;refine ZfP ?_;refine Zbi ?_;refine Zdg ?_;refine ZeG ?_;refine ZeX ?_;refine Zas ?_;refine ZcE ?_;refine z8 (zai L rfl rfl (zn rfl) rfl rfl rfl UT.TA.mono (fun u H hH hle _ v1 hv1 => UT.bal_ret _ () _ _ hH (UT.TA.le (by assumption) hle) hv1 (by first | omega | (simp only [Tr.size_node]; omega)))) rfl ?_;refine Zec ?_;refine ZB ?_
     refine qv L (rs:=[.tmp 6, .tmp 7]) rfl (fun _ _ h => h) Since.refl fun u H hH hle => ?_
     exact fun v hv => zp8 hv rfl
end Go.V.UT
set_option maxRecDepth 20000
namespace Go.V.UT
open Go.Proofs Go.RowKit Go.V
theorem _root_.Go.V.Zcg {A B:Prop} (h:B) (t:Wr B → A:=by intro h; refine z7 (zz L (vs:=[_, _]) (zhx rfl (List.Mem.head _)) rfl rfl rfl rfl ⟨_, rfl⟩) rfl ?_;exact h.h):A:=t ⟨h⟩
theorem _root_.Go.V.Zch {A B:Prop} (h:B) (t:Wr B → A:=by intro h; refine z7 (q7 L (zhx rfl (List.Mem.head _)) rfl rfl rfl rfl) rfl ?_;exact h.h):A:=t ⟨h⟩
theorem _root_.Go.V.Zes {A B:Prop} (h:B) (t:Wr B → A:=by intro h; refine zpq L (O1:=[]) rfl rfl rfl rfl rfl rfl rfl rfl rfl ?_;exact h.h):A:=t ⟨h⟩
theorem _root_.Go.V.Z5 {A B:Prop} (h:B) (t:Wr B → A:=by intro h; refine ZX ?_;refine qy ?_;exact h.h):A:=t ⟨h⟩
theorem _root_.Go.V.Zf2 {A B:Prop} (h:B) (t:Wr B → A:=by intro h; refine Z1 ?_;refine z7 (zqq rfl rfl rfl rfl z5q rfl rfl) rfl ?_;exact h.h):A:=t ⟨h⟩
theorem _root_.Go.V.ZfQ {A B:Prop} (h:B) (t:Wr B → A:=by intro h; refine ZfP ?_;refine ZdF ?_;exact h.h):A:=t ⟨h⟩
theorem _root_.Go.V.ZdI {A B:Prop} (h:B) (t:Wr B → A:=by intro h; refine Zh ?_;refine ZfQ ?_;exact h.h):A:=t ⟨h⟩
def MA (fv:Value) (t:Tr KT VT):Value → Heap → Prop:=fun v H => ∃ p, v = .agg #[fv, .pointer p] ∧ TA t (.pointer p) H
theorem MA.mono {fv:Value} {t:Tr KT VT}:Kn.mono (.sat (MA fv t)):=fun _ _ _ ⟨p, hv, h⟩ hle => ⟨p, hv, h.le hle⟩
attribute [local irreducible] V N X VO Par StepOK Has Ret RetL Src
theorem new_ret (cf:Nat) {w:World} {B:Heap} (hB:B.Le (hp w)):Ret Tryz.prog 177 [.func (.func cf) #[] #[]] w B (fun v _ => v = .agg #[.func (.func cf) #[] #[], .pointer none]):=by
 refine qw Tryz.func177 rfl Tryz.ntmps177 (Nat.le_of_ble_eq_true rfl) hB ?_
 refine ZaI ?_;refine Zj ?_;refine Zbm ?_;refine z7 (y5 (cs:=[_, _]) rfl rfl z6z rfl rfl) rfl ?_;refine ZaG ?_
 refine qv L (rs:=[.cell 2 87]) rfl (fun _ _ h => h) Since.refl fun u H hH hle => ?_
 refine ZcK ?_
 rfl
theorem len_ret {fv root:Value} {t:Tr KT VT} {w:World} {B:Heap} (hB:B.Le (hp w)) (hv:TA t root B):Ret Tryz.prog 103 [.agg #[fv, root]] w B (fun v _ => v = .int .i64 t.size):=by
 refine qw Tryz.func103 rfl Tryz.ntmps103 (Nat.le_of_ble_eq_true rfl) hB ?_
 refine Zcr ?_;refine ZW ?_;refine z7 (zq L rfl rfl (zn rfl) rfl rfl rfl (fun u H hH hle _ => UT.size_ret _ hH (UT.TA.le (by assumption) hle))) rfl ?_;refine Zc ?_
 refine qv L (rs:=[.tmp 2]) rfl (fun _ _ h => h) Since.refl fun u H hH hle => ?_
 rfl
theorem zyu {cf:Nat} {c:KT → KT → Int} (hc:Cmp cf c) {p:Option Addr} (k:KT) (x:VT) {t:Tr KT VT} {w:World} {B:Heap} (hB:B.Le (hp w)) (hv:TA t (.pointer p) B) (hs:t.size + 1 < 1099511627776) :
  Ret Tryz.prog 179 [mv cf (.pointer p), kv k, vv x] w B (MA (.func (.func cf) #[] #[]) (Tr.put c k x t)):=by
 refine qw Tryz.func179 rfl Tryz.ntmps179 (Nat.le_of_ble_eq_true rfl) hB ?_
 refine ZaF ?_;refine Zcn ?_;refine Zcn ?_;refine Zcx ?_;(refine zia 3 rfl ?_;intro b3 hb3); refine Z6 ?_;refine ZaR ?_;refine Zch ?_;refine z7 (zqq rfl rfl rfl rfl z63 rfl rfl) rfl ?_;refine Z8 ?_;refine ZU ?_;refine Zcg ?_;refine ZaR ?_;refine Zch ?_;refine Zea ?_;refine z7 (zz L (vs:=[]) (qn rfl) rfl rfl rfl rfl ⟨_, rfl⟩) rfl ?_;refine z7 (y5 (cs:=[_, _, _, _, _, _]) rfl rfl z3m rfl rfl) rfl ?_;refine z7 (zai L rfl rfl (zn rfl) rfl rfl rfl TA.mono (fun u H hH hle _ => z09 hc _ k x t hH (hv.le hle) hs)) rfl ?_;refine zd9 16 rfl ?_;intro p16 H16 hs16 hp16; obtain ⟨q16, rfl⟩:=TA.ptr hp16; refine ZaR ?_;refine Zes ?_;refine Zj ?_;refine Zx ?_;refine Zcg ?_;refine ZaG ?_
 refine qv L (rs:=[.cell 6 87]) rfl (fun _ _ h => h) hs16 fun u H hH hle => ?_
 refine ZcK ?_
 exact ⟨q16, rfl, hp16.le hle⟩
theorem zv9 {cf:Nat} {c:KT → KT → Int} (hc:Cmp cf c) {p:Option Addr} (k:KT) {t:Tr KT VT} {w:World} {B:Heap} (hB:B.Le (hp w)) (hv:TA t (.pointer p) B) (hs:t.size < 1099511627776) :
  Ret Tryz.prog 178 [mv cf (.pointer p), kv k] w B (MA (.func (.func cf) #[] #[]) (if (Tr.drop c k t).2 = true then (Tr.drop c k t).1 else t)):=by
 have hD:=fun (u:World) (H:Heap) (hH:H.Le (hp u)) (hle:B.Le H) => zza hc (.pointer p) k t hH (hv.le hle) hs
 rcases hq:Tr.drop c k t with ⟨t', was⟩
 rw [hq] at hD
 have hm:=TA.mono (t:=t')
 cases was
 ·rw [if_neg (by simp)]
  refine qw Tryz.func178 rfl Tryz.ntmps178 (Nat.le_of_ble_eq_true rfl) hB ?_
  refine ZaF ?_;refine Zcn ?_;refine Zcx ?_;(refine zia 2 rfl ?_;intro b2 hb2); refine Z6 ?_;refine Zcg ?_;refine ZaR ?_;refine Zch ?_;refine Zea ?_;refine z7 (zai L rfl rfl (zn rfl) rfl rfl rfl DropS.mono (fun u H hH hle _ => hD u H hH hle)) rfl ?_;refine ZdI ?_;refine Zbn ?_;refine Za1 ?_;refine Zq ?_;refine Zv ?_;refine Zcg ?_;refine ZaG ?_
  refine qv L (rs:=[.cell 4 87]) rfl (fun _ _ h => h) Since.refl fun u H hH hle => ?_
  refine ZcK ?_
  exact ⟨p, rfl, hv.le hle⟩
 ·rw [if_pos rfl]
  refine qw Tryz.func178 rfl Tryz.ntmps178 (Nat.le_of_ble_eq_true rfl) hB ?_
  refine ZaF ?_;refine Zcn ?_;refine Zcx ?_;(refine zia 2 rfl ?_;intro b2 hb2); refine Z6 ?_;refine Zcg ?_;refine ZaR ?_;refine Zch ?_;refine Zea ?_;refine z7 (zai L rfl rfl (zn rfl) rfl rfl rfl DropS.mono (fun u H hH hle _ => hD u H hH hle)) rfl ?_;refine ZdI ?_;refine Zbn ?_;refine Za1 ?_;refine Z8 ?_;refine Zx ?_;refine Zh ?_;refine zd9 16 rfl ?_;intro p16 H16 hs16 hp16; obtain ⟨q16, rfl⟩:=TA.ptr hp16; refine ZaR ?_;refine Zes ?_;refine Zj ?_;refine Zv ?_;refine Zcg ?_;refine ZaG ?_
  refine qv L (rs:=[.cell 4 87]) rfl (fun _ _ h => h) hs16 fun u H hH hle => ?_
  refine ZcK ?_
  exact ⟨q16, rfl, hp16.le hle⟩
def z6g:Option VT → List Value
 | some x => [vv x, .bool true]
 | none => [.agg #[], .bool false]
theorem z14 {cf:Nat} {c:KT → KT → Int} (hc:Cmp cf c) (k:KT) {root:Value} {t:Tr KT VT} {w:World} {B:Heap} (hB:B.Le (hp w)) (hv:TA t root B) :
  Ret Tryz.prog 176 [mv cf root, kv k] w B (fun v _ => v = tup (z6g (Tr.get c k t))):=by
 refine qw Tryz.func176 rfl Tryz.ntmps176 (Nat.le_of_ble_eq_true rfl) hB ?_
 refine Zac ?_;refine Zag ?_;refine Zap ?_;refine ZW ?_;refine Zd ?_;refine qe ?_
 refine zam (fun s:Tr KT VT × Value => [(3, .sat (At [.string k.1.1.1, .string k.1.1.2, .string k.1.2, .string k.2.1.1, .string k.2.1.2, .string k.2.2] 34 0)), (4, .own (Cell [] 195)), (2, .sat (At [.func (.func cf) #[] #[], root] 87 0)), (6, .is s.2)])
  (fun s => TA s.1 s.2 B ∧ Tr.get c k s.1 = Tr.get c k t) (fun s => s.1.size) (t, root) ⟨hv, rfl⟩ (by repeat (first | exact trivial | refine ⟨rfl, ?_⟩)) ?_
 rintro ⟨s, v⟩ ⟨hs, hg⟩
 dsimp only at hs hg ⊢
 cases s with
 | nil =>
  obtain rfl:v = .pointer none:=hs
  refine Ze ?_;refine Zf2 ?_;refine Zba ?_;refine Zaj ?_;refine ZaV ?_;refine Zay ?_;refine z7 (zz L (vs:=[]) (qp rfl) rfl rfl rfl rfl ⟨_, rfl⟩) rfl ?_;refine ZaJ ?_
  refine qv L (rs:=[.cell 4 195, .tmp 5]) rfl (fun _ _ h => h) Since.refl fun u H hH hle => ?_
  first | (rw [← hg]; rfl) | (refine zhz (qp rfl) rfl rfl ?_;rw [← hg]; rfl)
 | node nk nx l r =>
  obtain ⟨b, lv, rv, rfl, hb, hl, hr⟩:=hs
  by_cases h0:c k nk = 0
  ·rw [Tr.get_eq h0] at hg
   refine Ze ?_;refine Zf2 ?_;refine ZcA ?_;refine ZdG ?_;refine ZdH ?_;refine z8 (zq L rfl rfl (zn rfl) rfl rfl hc.fn (fun u H hH _ _ => hc.ret _ _ u H hH)) rfl ?_;refine ZcZ ?_;refine Zk ?_;refine Z9 ?_;refine Zs ?_;refine ZN ?_;refine Zar ?_;refine z7 (zth (by assumption) rfl rfl rfl (by kernel_rfl)) rfl ?_;refine z7 (zrs L rfl rfl rfl rfl) rfl ?_;refine ZaJ ?_
   refine qv L (rs:=[.cell 4 195, .tmp 5]) rfl (fun _ _ h => h) Since.refl fun u H hH hle => ?_
   first | (rw [← hg]; rfl) | (refine zhz (qp rfl) rfl rfl ?_;rw [← hg]; rfl)
  ·by_cases h1:c k nk < 0
   ·rw [Tr.get_lt h1] at hg
    refine Ze ?_;refine Zf2 ?_;refine ZcA ?_;refine ZdG ?_;refine ZdH ?_;refine z8 (zq L rfl rfl (zn rfl) rfl rfl hc.fn (fun u H hH _ _ => hc.ret _ _ u H hH)) rfl ?_;refine ZcZ ?_;refine Zk ?_;refine ZbW ?_;refine ZJ ?_;refine ZbC ?_;refine ZO ?_;refine Zce ?_;refine Z5 ?_
    exact y9 (x:=(Tr.node nk nx l r, Value.pointer (some ⟨b, 0, none⟩))) (l, lv) ⟨hl, hg⟩ (by simp only [Tr.size_node]; omega) (by repeat (first | exact trivial | refine ⟨rfl, ?_⟩))
   ·rw [Tr.get_gt h0 h1] at hg
    refine Ze ?_;refine Zf2 ?_;refine ZcA ?_;refine ZdG ?_;refine ZdH ?_;refine z8 (zq L rfl rfl (zn rfl) rfl rfl hc.fn (fun u H hH _ _ => hc.ret _ _ u H hH)) rfl ?_;refine ZcZ ?_;refine Zk ?_;refine ZbW ?_;refine ZJ ?_;refine ZI ?_;refine Zdq ?_;refine ZZ ?_;refine Zce ?_;refine Z5 ?_
    exact y9 (x:=(Tr.node nk nx l r, Value.pointer (some ⟨b, 0, none⟩))) (r, rv) ⟨hr, hg⟩ (by simp only [Tr.size_node]; omega) (by repeat (first | exact trivial | refine ⟨rfl, ?_⟩))
end Go.V.UT
set_option maxRecDepth 20000
namespace Go.V.UT
open Go.Proofs Go.RowKit Go.V
theorem _root_.Go.V.Zae {A B:Prop} (h:B) (t:Wr B → A:=by intro h; refine z8 (yk rfl rfl rfl rfl) rfl ?_;exact h.h):A:=t ⟨h⟩
theorem _root_.Go.V.Zgd {A B:Prop} (h:B) (t:Wr B → A:=by intro h; refine z8 (zrt rfl rfl rfl rfl (decide_eq_true (by omega))) rfl ?_;exact h.h):A:=t ⟨h⟩
theorem _root_.Go.V.Zet {A B:Prop} (h:B) (t:Wr B → A:=by intro h; refine z8 (zrt rfl rfl rfl rfl (decide_eq_false (by omega))) rfl ?_;exact h.h):A:=t ⟨h⟩
theorem _root_.Go.V.ZeZ {A B:Prop} (h:B) (t:Wr B → A:=by intro h; refine Zbc ?_;refine Zbz ?_;exact h.h):A:=t ⟨h⟩
theorem _root_.Go.V.Zbd {A B:Prop} (h:B) (t:Wr B → A:=by intro h; refine Zbc ?_;refine ZbD ?_;exact h.h):A:=t ⟨h⟩
theorem _root_.Go.V.Zcz {A B:Prop} (h:B) (t:Wr B → A:=by intro h; refine ZeZ ?_;refine ZeO ?_;exact h.h):A:=t ⟨h⟩
theorem _root_.Go.V.Zf3 {A B:Prop} (h:B) (t:Wr B → A:=by intro h; refine q6 (id:=6) [(60, [77])] mixed (by kernel_rfl) ?_;refine Zg ?_;exact h.h):A:=t ⟨h⟩
theorem _root_.Go.V.ZfR {A B:Prop} (h:B) (t:Wr B → A:=by intro h; refine ZM ?_;refine Zaj ?_;exact h.h):A:=t ⟨h⟩
theorem _root_.Go.V.Zf4 {A B:Prop} (h:B) (t:Wr B → A:=by intro h; refine Zbb ?_;refine z8 (zcl rfl rfl rfl rfl z5q rfl) rfl ?_;exact h.h):A:=t ⟨h⟩
theorem _root_.Go.V.ZdJ {A B:Prop} (h:B) (t:Wr B → A:=by intro h; refine Zbb ?_;refine Zbb ?_;exact h.h):A:=t ⟨h⟩
def encP (y:KT × VT):List Value:=[.agg (pl y.1 y.2).toArray]
def PairsAt (t:Tr KT VT) (a f e:Int):Value → Heap → Prop:=fun v H => ∃ b1 b2 b3 b4 root, v = .func (.func 287) #[] #[.pointer (some ⟨b1, 0, none⟩), .pointer (some ⟨b2, 0, none⟩), .pointer (some ⟨b3, 0, none⟩), .pointer (some ⟨b4, 0, none⟩)] ∧
 H b1 = some (.cells [root].toArray 85) ∧ H b2 = some (.cells [.int .i64 a].toArray 3) ∧ H b3 = some (.cells [.int .i64 f].toArray 3) ∧ H b4 = some (.cells [.int .i64 e].toArray 3) ∧ TA t root H
theorem PairsAt.mono {t:Tr KT VT} {a f e:Int}:Kn.mono (.sat (PairsAt t a f e)):=fun _ _ _ ⟨b1, b2, b3, b4, root, h0, h1, h2, h3, h4, h5⟩ hle => ⟨b1, b2, b3, b4, root, h0, hle _ _ h1, hle _ _ h2, hle _ _ h3, hle _ _ h4, h5.le hle⟩
attribute [local irreducible] V N X VO Par StepOK Has Ret RetL Src
theorem zj9 (t:Tr KT VT) (a f e:Int) {root:Value} {w:World} {B:Heap} (hB:B.Le (hp w)) (hv:TA t root B) :
  Ret Tryz.prog 241 [root, .int .i64 a, .int .i64 f, .int .i64 e] w B (PairsAt t a f e):=by
 obtain ⟨p, rfl⟩:=hv.ptr
 refine qw Tryz.func241 rfl Tryz.ntmps241 (Nat.le_of_ble_eq_true rfl) hB ?_
 refine Zac ?_;refine Zcn ?_;refine Zcn ?_;refine Zd ?_
 refine zk7 4 rfl fun v1 H1 hs1 ⟨b1, e1, h1⟩ => ?_
 subst e1
 refine zk7 5 rfl fun v2 H2 hs2 ⟨b2, e2, h2⟩ => ?_
 subst e2
 refine zk7 6 rfl fun v3 H3 hs3 ⟨b3, e3, h3⟩ => ?_
 subst e3
 refine zk7 7 rfl fun v4 H4 hs4 ⟨b4, e4, h4⟩ => ?_
 subst e4
 refine Z6 ?_;refine Zb1 ?_;refine Zc ?_
 refine qv L (rs:=[.tmp 8]) rfl (fun _ _ h => h) (hs1.trans (hs2.trans (hs3.trans hs4))) fun u H hH hle => ?_
 exact ⟨b1, b2, b3, b4, _, rfl, hle _ _ (hs4.le _ _ (hs3.le _ _ (hs2.le _ _ h1))), hle _ _ (hs4.le _ _ (hs3.le _ _ h2)), hle _ _ (hs4.le _ _ h3), hle _ _ h4, (((hv.le hs1.le).le hs2.le).le (hs3.le.trans hs4.le)).le hle⟩
theorem zh5 {l:List (KT × VT)} {x:List Value} {pre:zbm} (h:pre ++ [x] <+: l.map encP):∃ y, x = encP y:=by
 have:x ∈ l.map encP:=h.subset (by simp)
 obtain ⟨y, _, rfl⟩:=List.mem_map.1 this
 exact ⟨y, rfl⟩
abbrev zmb:List Value → List Value
 | [.agg cs] => cs.toList
 | _ => []
set_option maxHeartbeats 2000000 in
set_option maxRecDepth 10000 in
theorem zy3:∀ (t:Tr KT VT) (a f e:Int) {b1 b2 b3 b4:Nat} {root:Value} {w:World} {B:Heap}, 0 ≤ a → a + t.size < 1099511627776 → B.Le (hp w) →
  B b1 = some (.cells [root].toArray 85) → B b2 = some (.cells [.int .i64 a].toArray 3) → B b3 = some (.cells [.int .i64 f].toArray 3) → B b4 = some (.cells [.int .i64 e].toArray 3) → TA t root B →
  z5c Tryz.prog 287 [.pointer (some ⟨b1, 0, none⟩), .pointer (some ⟨b2, 0, none⟩), .pointer (some ⟨b3, 0, none⟩), .pointer (some ⟨b4, 0, none⟩)] w B ((Tr.prs t a f e).map encP):=by
 intro t
 induction t with
 | nil =>
  intro a f e b1 b2 b3 b4 root w B ha hsz hB g1 g2 g3 g4 hv ly J stop C hst hY hJ hC
  obtain rfl:root = .pointer none:=hv
  refine zag 77 (J []) Tryz.func287 rfl Tryz.ntmps287 (Nat.le_of_ble_eq_true rfl) hB hJ hC ?_
  refine ZK ?_;refine Zaw ?_;refine Zdv ?_;refine Zf4 ?_;refine Zee ?_;refine Zbc ?_;refine Zg ?_;refine ZdC ?_;refine ZaL ?_;refine Zbd ?_
  exact za4 L 77 rfl (fun _ _ h => h) Since.refl rfl rfl
 | node k x l r ihl ihr =>
  intro a f e b1 b2 b3 b4 root w B ha hsz hB g1 g2 g3 g4 hv ly J stop C hst hY hJ hC
  obtain ⟨b, lv, rv, rfl, hb, hl, hr⟩:=hv
  have hsn:(Tr.node k x l r).size = l.size + 1 + r.size:=rfl
  rw [hsn] at hsz
  refine zag 77 (J []) Tryz.func287 rfl Tryz.ntmps287 (Nat.le_of_ble_eq_true rfl) hB hJ hC ?_
  by_cases h1:a + ((Tr.node k x l r).size:Int) ≤ f
  ·have hx:Tr.prs (.node k x l r) a f e = []:=if_pos (.inl h1)
   refine ZK ?_;refine Zaw ?_;refine Zdv ?_;refine Zf4 ?_;refine Zg ?_;refine ZdJ ?_;refine ZcH ?_;refine Zc9 ?_;refine Zbb ?_;refine Zgd ?_;refine Zbc ?_;refine Zg ?_;refine ZdC ?_;refine ZaL ?_;refine Zbd ?_
   exact za4 L 77 rfl (fun _ _ h => h) Since.refl rfl (by rw [hx]; rfl)
  ·by_cases h2:a ≥ e
   ·have hx:Tr.prs (.node k x l r) a f e = []:=if_pos (.inr h2)
    refine ZK ?_;refine Zaw ?_;refine Zdv ?_;refine Zf4 ?_;refine Zg ?_;refine ZdJ ?_;refine ZcH ?_;refine Zc9 ?_;refine Zbb ?_;refine Zet ?_;refine Zbc ?_;refine Zg ?_;refine ZdJ ?_;refine ZeE ?_;refine Zbd ?_
    exact za4 L 77 rfl (fun _ _ h => h) Since.refl rfl (by rw [hx]; rfl)
   ·have hx:Tr.prs (.node k x l r) a f e = Tr.prs l a f e ++ ((if a + (l.size:Int) ≥ f ∧ a + (l.size:Int) < e then [(k, x)] else []) ++ Tr.prs r (a + l.size + 1) f e) :=
     if_neg (by rintro (h | h); exact h1 h; exact h2 h)
    rw [hx] at hY ⊢
    simp only [List.map_append] at hY ⊢
    refine ZK ?_;refine Zaw ?_;refine Zdv ?_;refine Zf4 ?_;refine Zg ?_;refine ZdJ ?_;refine ZcH ?_;refine Zc9 ?_;refine Zbb ?_;refine Zet ?_;refine Zbc ?_;refine Zg ?_;refine ZdJ ?_;refine Zfp ?_;refine Zcz ?_;refine ZeF ?_;refine ZdJ ?_;refine ZcH ?_;refine z8 (zq L rfl rfl (zn rfl) rfl rfl rfl (fun u H hH hle _ => UT.size_ret _ hH (UT.TA.le (by assumption) hle))) rfl ?_;refine Zc9 ?_;refine ZcZ ?_;refine ZdW ?_;refine Zbb ?_;refine ZcH ?_;refine ZdJ ?_;refine Zbb ?_;refine z8 (zai L rfl rfl (zn rfl) rfl rfl rfl PairsAt.mono (fun u H hH hle _ => zj9 l a f e hH (TA.le hl hle))) rfl ?_;refine Zcq ?_;refine qe ?_
    refine zk7 5 rfl fun v5 H5 hs5 ⟨b5, e5, g5⟩ => ?_
    subst e5
    refine zk7 40 rfl fun v40 H40 hs40 ⟨c1, c2, c3, c4, r1, e40, d1, d2, d3, d4, d5⟩ => ?_
    subst e40
    have hsB:=hs5.trans hs40
    have gg5:=hs40.le _ _ g5
    refine zd4 L (gf:=287) (caps:=[.pointer (some ⟨c1, 0, none⟩), .pointer (some ⟨c2, 0, none⟩), .pointer (some ⟨c3, 0, none⟩), .pointer (some ⟨c4, 0, none⟩)])
     [(1, .pointer (some ⟨b1, 0, none⟩)), (2, .pointer (some ⟨b2, 0, none⟩)), (3, .pointer (some ⟨b3, 0, none⟩)), (4, .pointer (some ⟨b4, 0, none⟩)), (5, .pointer (some ⟨b5, 0, none⟩)), (6, .int .i64 (a + l.size))]
     (fun pre => [(77, (J pre).res)]) (fun pre x => [(77, .own (J pre).res), (7, .own (Cell (zmb x) 293)), (5, .is (.pointer (some ⟨b5, 0, none⟩)))])
     ((Tr.prs l a f e).map encP) stop (fun _ => .ret) rfl rfl rfl ⟨rfl, rfl, rfl, rfl, rfl, rfl, rfl, trivial⟩
     (fun pre p hp => by simp only [List.mem_singleton] at hp; subst hp; exact Nat.le_refl _) hst (fun x hx => by obtain ⟨y, _, rfl⟩:=List.mem_map.1 hx; rfl) (by decide)
     (fun u H hH hle => ihl a f e ha (by omega) hH (hle _ _ d1) (hle _ _ d2) (hle _ _ d3) (hle _ _ d4) (d5.le hle)) ?asg ?bd ?dn ?st
    case asg =>
     intro w1 Ln B' l' D' o pre x' hpre hstp hBB
     obtain ⟨y, rfl⟩:=zh5 hpre
     refine Zv ?_;refine Zbi ?_;refine zk ?_
     exact zt4 Since.refl ⟨rfl, rfl, rfl, trivial⟩
    case bd =>
     intro w1 Ln B' l' D' o pre x' hpre hstp hBB
     obtain ⟨y, rfl⟩:=zh5 hpre
     have q5:=hBB _ _ gg5
     have hpre':=hpre.trans (List.prefix_append ((Tr.prs l a f e).map encP) (((if a + (l.size:Int) ≥ f ∧ a + (l.size:Int) < e then [(k, x)] else [])).map encP ++ (Tr.prs r (a + l.size + 1) f e).map encP))
     cases hb':stop (pre ++ [encP y])
     ·refine ZM ?_;refine Z2 ?_;refine Zeb ?_;refine ZaU ?_;refine qg (zcj (gs:=77) hY hpre' hstp (congrArg Bool.not hb') rfl rfl rfl rfl rfl) ?_;refine Zr ?_;refine Zab ?_;refine qy ?_
      exact zt5 Since.refl hb' ⟨rfl, trivial⟩
     ·refine ZM ?_;refine Z2 ?_;refine Zeb ?_;refine ZaU ?_;refine qg (zcj (gs:=77) hY hpre' hstp (congrArg Bool.not hb') rfl rfl rfl rfl rfl) ?_;refine Zr ?_;refine Z8 ?_
      exact zhj (zfe (znw Since.refl hb' rfl ⟨rfl, trivial⟩))
    case st =>
     intro l' D' o hstop
     exact za4 L 77 rfl (fun _ _ h => h) hsB rfl (by rw [zlg _ _ _ hstop hst])
    case dn =>
     intro l' D' o hgo
     have htk:=zmm (stop:=stop) ((Tr.prs l a f e).map encP) [] hgo
     simp only [List.nil_append] at htk
     rw [htk] at hgo ⊢
     have gg1:=hsB.le _ _ g1
     have gg2:=hsB.le _ _ g2
     have gg3:=hsB.le _ _ g3
     have gg4:=hsB.le _ _ g4
     have ggb:=hsB.le _ _ hb
     have ggr:=TA.le hr hsB.le
     refine qy ?_
     refine zm ?_
     refine zxe (fun M:zbm => [(77, .own (J M).res), (1, .is (.pointer (some ⟨b1, 0, none⟩))), (2, .is (.pointer (some ⟨b2, 0, none⟩))), (3, .is (.pointer (some ⟨b3, 0, none⟩))), (4, .is (.pointer (some ⟨b4, 0, none⟩))), (5, .is (.pointer (some ⟨b5, 0, none⟩))), (6, .is (.int .i64 (a + l.size)))])
      (fun M => stop M = false ∧ za5 stop [] M = M ∧ M ++ (Tr.prs r (a + l.size + 1) f e).map encP = (Tr.prs l a f e).map encP ++ (((if a + (l.size:Int) ≥ f ∧ a + (l.size:Int) < e then [(k, x)] else [])).map encP ++ (Tr.prs r (a + l.size + 1) f e).map encP)) ?one ?two
     case one =>
      by_cases hy1:a + (l.size:Int) ≥ f
      ·by_cases hy2:a + (l.size:Int) < e
       ·rw [if_pos ⟨hy1, hy2⟩] at hY ⊢
        have hpre:(Tr.prs l a f e).map encP ++ [encP (k, x)] <+: (Tr.prs l a f e).map encP ++ ([(k, x)].map encP ++ (Tr.prs r (a + l.size + 1) f e).map encP):=⟨(Tr.prs r (a + l.size + 1) f e).map encP, by simp⟩
        cases hb':stop ((Tr.prs l a f e).map encP ++ [encP (k, x)])
        ·refine zj ?_;refine Zf3 ?_;refine Zbb ?_;refine ZeE ?_;refine Zp ?_;refine Zbb ?_;refine Zcd ?_;refine Zbc ?_;refine Zg ?_;refine ZdJ ?_;refine Zfn ?_;refine Zf1 ?_;refine za6 (zcj (gs:=77) hY hpre hgo (congrArg Bool.not hb') rfl rfl rfl rfl rfl) rfl rfl ?_;refine Zae ?_;refine ZeZ ?_;refine zx ?_
         refine z2s ((Tr.prs l a f e).map encP ++ [encP (k, x)]) Since.refl ⟨hb', ?_, by simp⟩ ⟨rfl, rfl, rfl, rfl, rfl, rfl, rfl, trivial⟩
         rw [zf4 _ _ _ (by rw [htk]; exact hgo), List.nil_append]
         simp only [za5]
         split <;> rfl
        ·refine zj ?_;refine Zf3 ?_;refine Zbb ?_;refine ZeE ?_;refine Zp ?_;refine Zbb ?_;refine Zcd ?_;refine Zbc ?_;refine Zg ?_;refine ZdJ ?_;refine Zfn ?_;refine Zf1 ?_;refine za6 (zcj (gs:=77) hY hpre hgo (congrArg Bool.not hb') rfl rfl rfl rfl rfl) rfl rfl ?_;refine Zae ?_;refine Zbd ?_
         refine za4 L 77 rfl (fun _ _ h => h) hsB rfl ?_
         rw [zf4 _ _ _ (by rw [htk]; exact hgo), List.nil_append]
         simp only [List.map_cons, List.map_nil, List.cons_append, za5]
         rw [if_pos hb']
       ·rw [if_neg (by rintro ⟨_, h⟩; exact hy2 h)]
        refine zj ?_;refine Zf3 ?_;refine Zbb ?_;refine ZeE ?_;refine Zp ?_;refine Zbb ?_;refine Zed ?_;refine Zbc ?_;refine ZfO ?_;refine ZdC ?_;refine ZaL ?_;refine ZeZ ?_;refine zx ?_
        exact z2s ((Tr.prs l a f e).map encP) Since.refl ⟨hgo, htk, by simp⟩ ⟨rfl, rfl, rfl, rfl, rfl, rfl, rfl, trivial⟩
      ·rw [if_neg (by rintro ⟨h, _⟩; exact hy1 h)]
       refine zj ?_;refine Zf3 ?_;refine Zbb ?_;refine Zfp ?_;refine Zg ?_;refine ZdC ?_;refine ZaL ?_;refine Zbc ?_;refine ZfO ?_;refine ZdC ?_;refine ZaL ?_;refine ZeZ ?_;refine zx ?_
       exact z2s ((Tr.prs l a f e).map encP) Since.refl ⟨hgo, htk, by simp⟩ ⟨rfl, rfl, rfl, rfl, rfl, rfl, rfl, trivial⟩
     case two =>
      rintro M ⟨hM1, hM2, hM3⟩
      rw [← hM3] at hY ⊢
      refine zj ?_;refine ZeA ?_;refine Zbb ?_;refine ZcH ?_;refine Zg ?_;refine Zc9 ?_;refine ZdJ ?_;refine z8 (zai L rfl rfl (zn rfl) rfl rfl rfl PairsAt.mono (fun u H hH hle _ => zj9 r (a + l.size + 1) f e hH (TA.le ggr hle))) rfl ?_;refine Zcq ?_;refine qe ?_
      refine zk7 71 rfl fun v71 H71 hs71 ⟨c1, c2, c3, c4, r1, e71, d1, d2, d3, d4, d5⟩ => ?_
      subst e71
      have qq5:=hs71.le _ _ gg5
      have htot:za5 stop [] (M ++ (Tr.prs r (a + l.size + 1) f e).map encP) = M ++ za5 (fun p => stop (M ++ p)) [] ((Tr.prs r (a + l.size + 1) f e).map encP):=by
       rw [zf4 _ _ _ (by rw [hM2]; exact hM1), zjq, List.nil_append, List.append_nil]
      refine zd4 L (gf:=287) (caps:=[.pointer (some ⟨c1, 0, none⟩), .pointer (some ⟨c2, 0, none⟩), .pointer (some ⟨c3, 0, none⟩), .pointer (some ⟨c4, 0, none⟩)])
       [(5, .pointer (some ⟨b5, 0, none⟩))]
       (fun pre => [(77, (J (M ++ pre)).res)]) (fun pre x => [(77, .own (J (M ++ pre)).res), (8, .own (Cell (zmb x) 293)), (5, .is (.pointer (some ⟨b5, 0, none⟩)))])
       ((Tr.prs r (a + l.size + 1) f e).map encP) (fun p => stop (M ++ p)) (fun _ => .ret) rfl rfl rfl ⟨by rw [List.append_nil]; rfl, rfl, trivial⟩
       (fun pre p hp => by simp only [List.mem_singleton] at hp; subst hp; exact Nat.le_refl _) (by show stop (M ++ []) = false; rw [List.append_nil]; exact hM1) (fun x hx => by obtain ⟨y, _, rfl⟩:=List.mem_map.1 hx; rfl) (by decide)
       (fun u H hH hle => ihr (a + l.size + 1) f e (by omega) (by omega) hH (hle _ _ d1) (hle _ _ d2) (hle _ _ d3) (hle _ _ d4) (d5.le hle)) ?asg2 ?bd2 ?dn2 ?st2
      case asg2 =>
       intro w1 Ln B' l' D' o pre x' hpre hstp hBB
       obtain ⟨y, rfl⟩:=zh5 hpre
       refine Z7 ?_;refine Zbi ?_;refine zk ?_
       exact zt4 Since.refl ⟨rfl, rfl, rfl, trivial⟩
      case bd2 =>
       intro w1 Ln B' l' D' o pre x' hpre hstp hBB
       obtain ⟨y, rfl⟩:=zh5 hpre
       have q5:=hBB _ _ qq5
       have hpre':(M ++ pre) ++ [encP y] <+: M ++ (Tr.prs r (a + l.size + 1) f e).map encP:=by rw [List.append_assoc]; exact (List.prefix_append_right_inj M).2 hpre
       cases hb':stop ((M ++ pre) ++ [encP y])
       ·refine ZfR ?_;refine Zeb ?_;refine ZaU ?_;refine qg (zcj (gs:=77) hY hpre' hstp (congrArg Bool.not hb') rfl rfl rfl rfl rfl) ?_;refine Zr ?_;refine Zab ?_;refine qy ?_
        exact zt5 Since.refl (by rw [← List.append_assoc]; exact hb') ⟨by rw [← List.append_assoc]; rfl, trivial⟩
       ·refine ZfR ?_;refine Zeb ?_;refine ZaU ?_;refine qg (zcj (gs:=77) hY hpre' hstp (congrArg Bool.not hb') rfl rfl rfl rfl rfl) ?_;refine Zr ?_;refine Z8 ?_
        exact zhj (zfe (znw Since.refl (by rw [← List.append_assoc]; exact hb') rfl ⟨by rw [← List.append_assoc]; rfl, trivial⟩))
      case st2 =>
       intro l' D' o hstop
       exact za4 L 77 rfl (fun _ _ h => h) (hsB.trans hs71) rfl (by rw [htot])
      case dn2 =>
       intro l' D' o hgo2
       refine qy ?_
       exact zau L 77 rfl (fun _ _ h => h) (hsB.trans hs71) rfl (by rw [htot])
end Go.V.UT
set_option maxRecDepth 20000
namespace Go.V.UT
open Go.Proofs Go.RowKit Go.V
abbrev tyP:TypeId:=293
abbrev tyS:TypeId:=290
def flat (l:List (KT × VT)):List Value:=l.flatMap fun y => pl y.1 y.2
abbrev PS (l:List (KT × VT)) (fu:Bool):Value → Heap → Prop:=SlV tyP 6 (flat l) l.length fu
theorem ztz:∀ (pre:zbm) (l:List (KT × VT)), pre <+: l.map encP → ∃ m:List (KT × VT), pre = m.map encP ∧ m.length = pre.length ∧ pre.flatMap zmb = flat m:=by
 intro pre l h
 refine ⟨l.take pre.length, ?_, ?_, ?_⟩
 ·rw [List.map_take]; exact (List.prefix_iff_eq_take.1 h)
 ·rw [List.length_take]
  have:=h.length_le
  simp only [List.length_map] at this
  omega
 ·conv => lhs; rw [List.prefix_iff_eq_take.1 h, ← List.map_take]
  generalize l.take pre.length = m
  induction m with
  | nil => rfl
  | cons y m ih => simp only [List.map_cons, List.flatMap_cons, flat] at ih ⊢; rw [ih]; rfl
theorem zqa (xs:zbm):za5 (fun _ => false) [] xs = xs:=by
 have:=zmm (stop:=fun _ => false) xs [] rfl
 simpa using this
attribute [local irreducible] V N X VO Par StepOK Has Ret RetL Src
theorem zzg (l:List (KT × VT)) (fu:Bool) {v:Value} {w:World} {B:Heap} (hB:B.Le (hp w)) (hv:PS l fu v B):Ret Tryz.prog 239 [v] w B (PS l true):=by
 refine qw Tryz.func239 rfl Tryz.ntmps239 (Nat.le_of_ble_eq_true rfl) hB ?_
 refine zbf 0 (PS l fu) rfl SlV.mono hv ?_
 refine Zaq ?_;refine Zh ?_;refine Zn ?_;refine Zn ?_;refine Zep ?_;refine Zd8 ?_
 refine qv L (rs:=[.tmp 2]) rfl (fun _ _ h => h) Since.refl fun u H hH hle => ?_
 exact fun v hv => hv
set_option maxHeartbeats 1000000 in
theorem zzk (l:List (KT × VT)) (hl:l.length < 1099511627776) {x:Value} {gf:Nat} {caps:List Value} {w:World} {B:Heap} {C:Nat → Prop} (hB:B.Le (hp w)) (hx:(SlR tyP 6 0 []).P x B w C) (hC:∀ k, C k → k < w.heap.size ∧ B k = none)
  (hfn:L.fn gf = some ()) (hit:∀ u H, H.Le (hp u) → B.Le H → z5c Tryz.prog gf caps u H (l.map encP)) :
  RetL Tryz.prog 240 [x, .func (.func gf) #[] caps.toArray] w B C (fun v H _ => PS l false v H):=by
 refine zzv 0 (x:=x) (SlR tyP 6 0 []) rfl Tryz.func240 rfl Tryz.ntmps240 (Nat.le_of_ble_eq_true rfl) hB hx hC ?_
 refine zzw 0 13 _ rfl SlR.shape fun y hy => ?_
 obtain ⟨p, c, rfl⟩:=hy
 refine ZaF ?_;refine Za6 ?_;refine ZbL ?_
 refine zia 2 rfl fun b2 hb2 => ?_
 refine zh9 13 [] rfl rfl ?_
 refine zd4 L (gf:=gf) (caps:=caps) [(2, .pointer (some ⟨b2, 0, none⟩))] (fun pre => [(13, zua b2 tyS (SlR tyP 6 pre.length (pre.flatMap zmb)))])
  (fun pre x => [(13, .own (zua b2 tyS (SlR tyP 6 pre.length (pre.flatMap zmb)))), (2, .is (.pointer (some ⟨b2, 0, none⟩))), (5, .own (Cell (zmb x) tyP))])
  (l.map encP) (fun _ => false) (fun _ => .ret) rfl rfl hfn ⟨rfl, rfl, trivial⟩
  (fun pre p hp => by simp only [List.mem_singleton] at hp; subst hp; exact Nat.le_refl _) rfl (fun x hx => by obtain ⟨y, _, rfl⟩:=List.mem_map.1 hx; rfl) (by decide) hit ?asg ?bd ?dn ?st
 case asg =>
  intro w1 Ln B' l' D' o pre x' hpre hstp hBB
  obtain ⟨y, rfl⟩:=zh5 hpre
  refine ZU ?_;refine Zbi ?_;refine zk ?_
  exact zt4 Since.refl ⟨rfl, rfl, rfl, trivial⟩
 case bd =>
  intro w1 Ln B' l' D' o pre x' hpre hstp hBB
  obtain ⟨y, rfl⟩:=zh5 hpre
  have hlen:=hpre.length_le
  simp only [List.length_append, List.length_map, List.length_cons, List.length_nil] at hlen
  refine qe ?_
  refine ze2 13 _ rfl SlR.shape fun z hz => ?_
  obtain ⟨p, c, rfl⟩:=hz
  refine Zx ?_;refine Zch ?_;refine zcq 8 13 rfl rfl ?_;refine ZaU ?_;refine Zai ?_;refine qg (zb1 L rfl rfl rfl (ziv rfl) rfl z4i rfl rfl (by omega) (by omega)) ?_;refine zel 11 13 _ rfl SlR.shape fun z hz => ?_;obtain ⟨p', c', rfl⟩:=hz; refine Zes ?_;refine zk ?_;refine qy ?_
  refine zib 13 [] rfl rfl ?_
  refine zt5 Since.refl rfl ⟨?_, trivial⟩
  rw [List.flatMap_append, List.length_append]
  rfl
 case st =>
  intro l' D' o h
  cases h
 case dn =>
  intro l' D' o _
  rw [zqa]
  refine qy ?_
  refine zm ?_
  refine ze2 13 _ rfl SlR.shape fun z hz => ?_
  obtain ⟨p, c, rfl⟩:=hz
  refine Zcl ?_;refine Zch ?_;refine Zc ?_
  refine zzx 4 13 rfl rfl ?_
  refine zk6 4 rfl ?_
  refine zpu L (rs:=[.tmp 4]) rfl (fun _ _ h => h) Since.refl fun O' u H hH hle => ?_
  obtain ⟨m, h1, h2, h3⟩:=ztz _ l (List.prefix_refl _)
  have hm:m = l:=by
   have:=List.map_inj_right (f:=encP) (fun a b h => by
    simp only [encP, List.cons.injEq, Value.agg.injEq, and_true] at h
    have h:=congrArg Array.toList h
    simp at h
    first | exact Prod.ext h.1 h.2 | exact Prod.ext h.1 (Prod.ext (Prod.ext h.2.1 h.2.2.1) h.2.2.2) | exact Prod.ext (Prod.ext (Prod.ext h.1 h.2.1) h.2.2.1) h.2.2.2 | exact Prod.ext (Prod.ext (Prod.ext (Prod.ext h.1 h.2.1) h.2.2.1) (Prod.ext (Prod.ext h.2.2.2.1 h.2.2.2.2.1) h.2.2.2.2.2)) rfl) |>.1 h1
   exact this.symm
  subst hm
  rw [h3]
  simp only [List.length_map]
  exact fun v hv => hv
theorem PS.mono {l:List (KT × VT)} {fu:Bool}:Kn.mono (.sat (PS l fu)):=SlV.mono
theorem zt1 {t:Tr KT VT} {f e:Int} {x v:Value} {w:World} {B:Heap} {C:Nat → Prop} (hB:B.Le (hp w)) (hx:(SlR tyP 6 0 []).P x B w C) (hC:∀ k, C k → k < w.heap.size ∧ B k = none) (hv:PairsAt t 0 f e v B) (hs:t.size < 1099511627776) :
  RetL Tryz.prog 240 [x, v] w B C (fun v H _ => PS (Tr.prs t 0 f e) false v H):=by
 obtain ⟨b1, b2, b3, b4, root, rfl, h1, h2, h3, h4, h5⟩:=hv
 have hlen:=Tr.prs_length_le t 0 f e
 exact zzk (Tr.prs t 0 f e) (by omega) hB hx hC rfl fun u H hH hle => zy3 t 0 f e (Int.le_refl _) (by omega) hH (hle _ _ h1) (hle _ _ h2) (hle _ _ h3) (hle _ _ h4) (h5.le hle)
theorem zvb (t:Tr KT VT) {a f e:Int}:(Tr.prs t a f e).length ≤ t.size:=Tr.prs_length_le t a f e
def rangeL (t:Tr KT VT) (f e:Int):List (KT × VT):=if max f 0 ≥ min e t.size then [] else Tr.prs t 0 (max f 0) (min e t.size)
set_option maxRecDepth 10000 in
theorem zu9 {fv root:Value} {t:Tr KT VT} (f e:Int) {w:World} {B:Heap} (hB:B.Le (hp w)) (hv:TA t root B) (hs:t.size < 1099511627776) :
  Ret Tryz.prog 172 [.agg #[fv, root], .int .i64 f, .int .i64 e] w B (PS (rangeL t f e) true):=by
 refine qw Tryz.func172 rfl Tryz.ntmps172 (Nat.le_of_ble_eq_true rfl) hB ?_
 unfold rangeL
 by_cases h:max f 0 ≥ min e t.size
 ·rw [if_pos h]
  refine ZK ?_;refine Zbj ?_;refine z7 (zgi rfl rfl rfl rfl rfl) rfl ?_;refine Za ?_;refine Zco ?_;refine z7 (zq L rfl rfl (zn rfl) rfl rfl rfl (fun u H hH hle _ => len_ret hH (hv.le hle))) rfl ?_;refine z7 (z0h rfl rfl rfl rfl rfl) rfl ?_;refine ZdS ?_;refine Zav ?_;refine Za3 ?_;refine Zs ?_;refine Zx ?_;refine Zc ?_
  refine qv L (rs:=[.tmp 6]) rfl (fun _ _ h => h) Since.refl fun u H hH hle => ?_
  exact (SlV.nil (e:=tyP))
 ·rw [if_neg h]
  have hlen:=zvb t (a:=0) (f:=max f 0) (e:=min e t.size)
  have e1:(if (0:Int) > f then 0 else f) = max f 0:=by omega
  have e2:(if (t.size:Int) < e then (t.size:Int) else e) = min e t.size:=by omega
  refine ZK ?_;refine Zbj ?_;refine z7 (zgi rfl rfl rfl rfl (by assumption)) rfl ?_;refine Za ?_;refine Zco ?_;refine z7 (zq L rfl rfl (zn rfl) rfl rfl rfl (fun u H hH hle _ => len_ret hH (hv.le hle))) rfl ?_;refine z7 (z0h rfl rfl rfl rfl (by assumption)) rfl ?_;refine ZdS ?_;refine Zav ?_;refine ZE ?_;refine Zq ?_
  obtain ⟨m, hm⟩:∃ m:Nat, min e (t.size:Int) - max f 0 = m:=⟨(min e (t.size:Int) - max f 0).toNat, by omega⟩
  refine q6 (id:=4) [(25, [19])] mixed (by kernel_rfl) ?_;refine Zp ?_;refine z8 (yf rfl rfl rfl rfl (zaa (by omega) (by omega))) rfl ?_;refine z8 (zyo L _ rfl rfl rfl z4i rfl rfl (by assumption) (by omega) (by simp only [maxLen]; omega)) rfl ?_;refine Zbw ?_;refine Zp ?_;refine z8 (zai L rfl rfl (zn rfl) rfl rfl rfl PairsAt.mono (fun u H hH hle _ => zj9 t 0 (max f 0) (min e t.size) hH (TA.le hv hle))) rfl ?_;refine za6 (zyq (q:=19) (cap:=[]) L rfl rfl rfl rfl rfl PS.mono (fun u H C x hH hle hx hC v hv => zt1 hH hx hC hv hs)) rfl rfl ?_;refine z8 (zai L rfl rfl (zn rfl) rfl rfl rfl PS.mono (fun u H hH hle _ v hv => zzg _ _ hH hv)) rfl ?_;refine ZdE ?_
  refine qv L (rs:=[.tmp 6]) rfl (fun _ _ h => h) Since.refl fun u H hH hle => ?_
  exact fun v hv => hv
end Go.V.UT
set_option maxRecDepth 20000
namespace Go.V.UT
open Go.Proofs Go.RowKit Go.V
abbrev MF (cf:Nat) (t:Tr KT VT):Value → Heap → Prop:=MA (.func (.func cf) #[] #[]) t
theorem mput_m {cf:Nat} {c:KT → KT → Int} (hc:Cmp cf c) (k:KT) (x:VT) {t:Tr KT VT} {v:Value} {w:World} {B:Heap} (hB:B.Le (hp w)) (hv:MF cf t v B) (hs:t.size + 1 < 1099511627776) :
  Ret Tryz.prog 179 [v, kv k, vv x] w B (MF cf (Tr.put c k x t)):=by
 obtain ⟨p, rfl, h⟩:=hv
 exact zyu hc k x hB h hs
theorem mdrop_m {cf:Nat} {c:KT → KT → Int} (hc:Cmp cf c) (k:KT) {t:Tr KT VT} {v:Value} {w:World} {B:Heap} (hB:B.Le (hp w)) (hv:MF cf t v B) (hs:t.size < 1099511627776) :
  Ret Tryz.prog 178 [v, kv k] w B (MF cf (if (Tr.drop c k t).2 = true then (Tr.drop c k t).1 else t)):=by
 obtain ⟨p, rfl, h⟩:=hv
 exact zv9 hc k hB h hs
theorem len_m {fv:Value} {t:Tr KT VT} {v:Value} {w:World} {B:Heap} (hB:B.Le (hp w)) (hv:MA fv t v B) {n:Nat} (hn:t.size = n):Ret Tryz.prog 103 [v] w B (fun v _ => v = .int .i64 n):=by
 obtain ⟨p, rfl, h⟩:=hv
 subst hn
 exact len_ret hB h
theorem get_m {cf:Nat} {c:KT → KT → Int} (hc:Cmp cf c) (k:KT) {t:Tr KT VT} {v:Value} {w:World} {B:Heap} (hB:B.Le (hp w)) (hv:MF cf t v B) {o:Option VT} (ho:Tr.get c k t = o) :
  Ret Tryz.prog 176 [v, kv k] w B (fun v _ => v = tup (z6g o)):=by
 obtain ⟨p, rfl, h⟩:=hv
 subst ho
 exact z14 hc k hB h
end Go.V.UT
set_option maxRecDepth 20000
namespace Go.V.UT
open Go.Proofs Go.RowKit Go.V
theorem range_m {fv:Value} {t:Tr KT VT} (f e:Int) {v:Value} {w:World} {B:Heap} (hB:B.Le (hp w)) (hv:MA fv t v B) (hs:t.size < 1099511627776) {l:List (KT × VT)} (hl:rangeL t f e = l) :
  Ret Tryz.prog 172 [v, .int .i64 f, .int .i64 e] w B (PS l true):=by
 obtain ⟨p, rfl, h⟩:=hv
 subst hl
 exact zu9 f e hB h hs
end Go.V.UT
set_option maxRecDepth 20000
namespace Go.V.L6
open Go.Proofs Go.RowKit Go.V Go.V.L2 Go.V.L3
theorem _root_.Go.V.Zf5 {A B:Prop} (h:B) (t:Wr B → A:=by intro h; refine z7 (y5 (cs:=[_, _]) rfl rfl z6y rfl rfl) rfl ?_;refine ZaG ?_;exact h.h):A:=t ⟨h⟩
theorem _root_.Go.V.ZcM {A B:Prop} (h:B) (t:Wr B → A:=by intro h; refine Zal ?_;refine Zea ?_;exact h.h):A:=t ⟨h⟩
abbrev fvC:Value:=.func (.func 101) #[] #[]
abbrev fvS:Value:=.func (.func 109) #[] #[]
abbrev zn3:TypeId:=91
abbrev chv (x:U) (d:Bool):Value:=.agg #[.string x.1.1.1, .string x.1.1.2, .string x.1.2, .string x.2.1.1, .string x.2.1.2, .string x.2.2, .bool d]
attribute [local irreducible] V N X VO Par StepOK Has Ret RetL RetO Src
theorem zx1 {a b:U} {w:World} {B:Heap} (hB:B.Le (hp w)):Ret Tryz.prog 109 [uv a, uv b] w B (fun v _ => v = .int .i64 (zp1 a b)):=by
 refine qw Tryz.func109 rfl Tryz.ntmps109 (Nat.le_of_ble_eq_true rfl) hB ?_
 refine Zac ?_;refine ZbS ?_;refine Zb3 ?_;refine Zb3 ?_;refine z8 (zq L rfl rfl (zn rfl) rfl rfl rfl (fun u H hH _ _ => cmpU_ret hH)) rfl ?_;refine Zb3 ?_;refine Zb3 ?_;refine z8 (zq L rfl rfl (zn rfl) rfl rfl rfl (fun u H hH _ _ => znr hH)) rfl ?_;refine Zej ?_;refine z8 (zq L rfl rfl (zn rfl) rfl rfl rfl (fun u H hH _ _ v hv => zm3 hH hv)) rfl ?_;refine ZB ?_
 refine qv L (rs:=[.tmp 4]) rfl (fun _ _ h => h) Since.refl fun u H hH hle => ?_
 rfl
theorem z2c:UT.Cmp 101 zbs:=⟨rfl, fun _ _ _ _ hH => zc6 hH⟩
theorem z5u:UT.Cmp 109 zp1:=⟨rfl, fun _ _ _ _ hH => zx1 hH⟩
def chT (c:U → U → Int) (x:U) (d:Bool) (t:Tr U Unit):Tr U Unit:=if d = true then (if (Tr.drop c x t).2 = true then (Tr.drop c x t).1 else t) else Tr.put c x () t
theorem zma {cf:Nat} {c:U → U → Int} (hc:UT.Cmp cf c) {f:Value} {p:Option Addr} {t:Tr U Unit} (hf:f = .func (.func cf) #[] #[] ∨ (f = .nilFunc ∧ t = .nil)) (x:U) (d:Bool) {w:World} {B:Heap} (hB:B.Le (hp w)) (ht:UT.TA t (.pointer p) B) (hs:t.size + 1 < 1099511627776) :
  Ret Tryz.prog 108 [.agg #[f, .pointer p], chv x d, .func (.func cf) #[] #[]] w B (UT.MF cf (chT c x d t)):=by
 by_cases h0:t.size = 0
 ·have hn:t = .nil:=by
   cases t with
   | nil => rfl
   | node k y l r => simp only [Tr.size] at h0; omega
  subst hn
  have hz:UT.TA .nil (.pointer none) B:=rfl
  refine qw Tryz.func108 rfl Tryz.ntmps108 (Nat.le_of_ble_eq_true rfl) hB ?_
  unfold chT
  cases d
  ·refine ZaF ?_;refine zrb 3 rfl fun b hb => ?_;refine Zcn ?_;refine Zcx ?_;refine Z6 ?_;refine ZaR ?_;refine Zcg ?_;refine z7 (zq L rfl rfl (zn rfl) rfl rfl rfl (fun u H hH hle _ => UT.len_m hH (⟨_, rfl, ht.le hle⟩) h0)) rfl ?_;refine Z9 ?_;refine Z8 ?_;refine Z1 ?_;refine z7 (zq L rfl rfl (zn rfl) rfl rfl rfl (fun u H hH _ _ => UT.new_ret _ hH)) rfl ?_;refine ZaR ?_;refine Zes ?_;refine Zaw ?_;refine Zx ?_;refine ZW ?_;refine Zq ?_;refine Z2 ?_;refine ZaR ?_;refine Zcg ?_;refine ZcM ?_;refine z7 (y5 (cs:=[]) rfl rfl z3n rfl rfl) rfl ?_;refine z7 (zai (φ:=UT.MF cf (Tr.put c x () .nil)) L rfl rfl (zn rfl) rfl rfl rfl UT.MA.mono (fun u H hH hle _ => UT.mput_m hc x () hH (⟨_, rfl, hz.le hle⟩) hs)) rfl ?_;refine zd9 27 rfl ?_;rintro _ H27 hs27 ⟨q27, rfl, hp27⟩; refine Zf5 ?_
   refine qv L (rs:=[.cell 6 89]) rfl (fun _ _ h => h) hs27 fun u H hH hle => ?_
   exact ⟨_, qp rfl, rfl, q27, rfl, hp27.le hle⟩
  ·refine ZaF ?_;refine zrb 3 rfl fun b hb => ?_;refine Zcn ?_;refine Zcx ?_;refine Z6 ?_;refine ZaR ?_;refine Zcg ?_;refine z7 (zq L rfl rfl (zn rfl) rfl rfl rfl (fun u H hH hle _ => UT.len_m hH (⟨_, rfl, ht.le hle⟩) h0)) rfl ?_;refine Z9 ?_;refine Z8 ?_;refine Z1 ?_;refine z7 (zq L rfl rfl (zn rfl) rfl rfl rfl (fun u H hH _ _ => UT.new_ret _ hH)) rfl ?_;refine ZaR ?_;refine Zes ?_;refine Zaw ?_;refine Zx ?_;refine ZW ?_;refine Zs ?_;refine Zv ?_;refine ZaR ?_;refine Zcg ?_;refine ZcM ?_;refine z7 (zai (φ:=UT.MF cf (if (Tr.drop c x .nil).2 = true then (Tr.drop c x .nil).1 else .nil)) L rfl rfl (zn rfl) rfl rfl rfl UT.MA.mono (fun u H hH hle _ => UT.mdrop_m hc x hH (⟨_, rfl, hz.le hle⟩) (by omega))) rfl ?_;refine zd9 20 rfl ?_;rintro _ H20 hs20 ⟨q20, rfl, hp20⟩; refine Zf5 ?_
   refine qv L (rs:=[.cell 6 89]) rfl (fun _ _ h => h) hs20 fun u H hH hle => ?_
   exact ⟨_, qp rfl, rfl, q20, rfl, hp20.le hle⟩
 ·obtain rfl:f = .func (.func cf) #[] #[]:=by
   rcases hf with h | ⟨_, h⟩
   ·exact h
   ·subst h; exact absurd rfl h0
  refine qw Tryz.func108 rfl Tryz.ntmps108 (Nat.le_of_ble_eq_true rfl) hB ?_
  unfold chT
  cases d
  ·refine ZaF ?_;refine zrb 3 rfl fun b hb => ?_;refine Zcn ?_;refine Zcx ?_;refine Z6 ?_;refine ZaR ?_;refine Zcg ?_;refine z7 (zq L rfl rfl (zn rfl) rfl rfl rfl (fun u H hH hle _ => UT.len_m hH (⟨_, rfl, ht.le hle⟩) rfl)) rfl ?_;refine ZR ?_;refine ZD ?_;refine Zx ?_;refine ZW ?_;refine Zq ?_;refine Z2 ?_;refine ZaR ?_;refine Zcg ?_;refine ZcM ?_;refine z7 (y5 (cs:=[]) rfl rfl z3n rfl rfl) rfl ?_;refine z7 (zai (φ:=UT.MF cf (Tr.put c x () t)) L rfl rfl (zn rfl) rfl rfl rfl UT.MA.mono (fun u H hH hle _ => UT.mput_m hc x () hH (⟨_, rfl, ht.le hle⟩) hs)) rfl ?_;refine zd9 27 rfl ?_;rintro _ H27 hs27 ⟨q27, rfl, hp27⟩; refine Zf5 ?_
   refine qv L (rs:=[.cell 6 89]) rfl (fun _ _ h => h) hs27 fun u H hH hle => ?_
   exact ⟨_, qp rfl, rfl, q27, rfl, hp27.le hle⟩
  ·refine ZaF ?_;refine zrb 3 rfl fun b hb => ?_;refine Zcn ?_;refine Zcx ?_;refine Z6 ?_;refine ZaR ?_;refine Zcg ?_;refine z7 (zq L rfl rfl (zn rfl) rfl rfl rfl (fun u H hH hle _ => UT.len_m hH (⟨_, rfl, ht.le hle⟩) rfl)) rfl ?_;refine ZR ?_;refine ZD ?_;refine Zx ?_;refine ZW ?_;refine Zs ?_;refine Zv ?_;refine ZaR ?_;refine Zcg ?_;refine ZcM ?_;refine z7 (zai (φ:=UT.MF cf (if (Tr.drop c x t).2 = true then (Tr.drop c x t).1 else t)) L rfl rfl (zn rfl) rfl rfl rfl UT.MA.mono (fun u H hH hle _ => UT.mdrop_m hc x hH (⟨_, rfl, ht.le hle⟩) (by omega))) rfl ?_;refine zd9 20 rfl ?_;rintro _ H20 hs20 ⟨q20, rfl, hp20⟩; refine Zf5 ?_
   refine qv L (rs:=[.cell 6 89]) rfl (fun _ _ h => h) hs20 fun u H hH hle => ?_
   exact ⟨_, qp rfl, rfl, q20, rfl, hp20.le hle⟩
end Go.V.L6
set_option maxRecDepth 20000
namespace Go.V.L3
open Go.Proofs Go.RowKit Go.V Go.V.L2
abbrev fv (f:FT):Value:=.agg #[.string f.1.1.1, .string f.1.1.2, .string f.1.2, .string f.2.1.1.1, .string f.2.1.1.2, .string f.2.1.2, .bool f.2.2]
def FZ (f:FT):Prop:=(f.1.1.1.size ≤ 1099511627776 ∧ f.1.1.2.size ≤ 1099511627776 ∧ f.1.2.size ≤ 1099511627776) ∧ f.2.1.1.1.size ≤ 1099511627776 ∧ f.2.1.1.2.size ≤ 1099511627776 ∧ f.2.1.2.size ≤ 1099511627776
instance (f:FT):Decidable (FZ f):=inferInstanceAs (Decidable (_ ∧ _))
attribute [local irreducible] V N X VO Par StepOK Has Ret RetL RetO RetT Src
end Go.V.L3
set_option maxRecDepth 20000
namespace Go.V.L3
open Go.Proofs Go.RowKit Go.V Go.V.L2
attribute [local irreducible] V N X VO Par StepOK Has Ret RetL RetO RetT Src
end Go.V.L3
set_option maxRecDepth 20000
namespace Go.V.L3
open Go.Proofs Go.RowKit Go.V Go.V.L2
attribute [local irreducible] V N X VO Par StepOK Has Ret RetL RetO RetT Src
end Go.V.L3
set_option maxRecDepth 20000
namespace Go.V.L3
open Go.Proofs Go.RowKit Go.V Go.V.L2
theorem LE2.mk {φ:Value → Heap → Prop} {a tv:Value} {H:Heap} (h:φ tv H):TupS [φ, fun v _ => v = a] (.tuple #[tv, a]) H :=
 ⟨[tv, a], rfl, rfl, fun i ψ x hi hx => by
  rcases i with _ | _ | i
  ·simp at hi hx; subst hi hx; exact h
  ·simp at hi hx; subst hi hx; rfl
  ·simp at hi⟩
attribute [local irreducible] V N X VO Par StepOK Has Ret RetL RetO RetT Src
end Go.V.L3
set_option maxRecDepth 20000
namespace Go.V.L6
open Go.Proofs Go.RowKit Go.V Go.V.L2 Go.V.L3
theorem _root_.Go.V.Zci {A B:Prop} (h:B) (t:Wr B → A:=by intro h; refine z7 (ql L rfl rfl rfl rfl rfl rfl (by assumption) rfl) rfl ?_;exact h.h):A:=t ⟨h⟩
theorem _root_.Go.V.Zdh {A B:Prop} (h:B) (t:Wr B → A:=by intro h; refine z7 (zz L (vs:=[_, _, _, _]) (qn rfl) rfl rfl rfl rfl ⟨_, rfl⟩) rfl ?_;exact h.h):A:=t ⟨h⟩
theorem _root_.Go.V.Zc0 {A B:Prop} (h:B) (t:Wr B → A:=by intro h; refine z7 (y5 (cs:=[_, _, _, _]) rfl rfl z5i rfl rfl) rfl ?_;exact h.h):A:=t ⟨h⟩
theorem _root_.Go.V.Zeu {A B:Prop} (h:B) (t:Wr B → A:=by intro h; refine z8 (zz L (vs:=[_, _, _, _]) (qn rfl) rfl rfl rfl rfl ⟨_, rfl⟩) rfl ?_;exact h.h):A:=t ⟨h⟩
theorem _root_.Go.V.Zf6 {A B:Prop} (h:B) (t:Wr B → A:=by intro h; refine z8 (zz L (vs:=[_, _, _, _, _, _, _]) (qn rfl) rfl rfl rfl rfl ⟨_, rfl⟩) rfl ?_;exact h.h):A:=t ⟨h⟩
theorem _root_.Go.V.Zf7 {A B:Prop} (h:B) (t:Wr B → A:=by intro h; refine Zbw ?_;refine z8 (zvv rfl rfl rfl rfl bt4 rfl) rfl ?_;exact h.h):A:=t ⟨h⟩
def SetV (l:List U):Value → Heap → Prop:=fun v H => ∃ p q t u, TS l t u ∧ UT.TA t (.pointer p) H ∧ UT.TA u (.pointer q) H ∧
 (v = .agg #[fvC, .pointer p, fvS, .pointer q] ∨ (l = [] ∧ p = none ∧ q = none ∧ v = .agg #[.nilFunc, .pointer p, .nilFunc, .pointer q]))
theorem SetV.mono {l:List U}:Kn.mono (.sat (SetV l)):=fun _ _ _ ⟨p, q, t, u, h1, h2, h3, h4⟩ hle => ⟨p, q, t, u, h1, h2.le hle, h3.le hle, h4⟩
theorem SetV.le {l:List U} {v:Value} {H H':Heap} (h:SetV l v H) (hle:H.Le H'):SetV l v H':=SetV.mono _ _ _ h hle
theorem SetV.shape {l:List U} {v:Value} {H:Heap} (h:SetV l v H):∃ f p k q, v = .agg #[f, .pointer p, k, .pointer q] ∧ (za7 (.agg #[f, .pointer p, k, .pointer q])).all zdj = true:=by
 obtain ⟨p, q, _, _, _, _, _, h | ⟨_, _, _, h⟩⟩:=h
 ·exact ⟨_, _, _, _, h, rfl⟩
 ·exact ⟨_, _, _, _, h, rfl⟩
abbrev nilSet:Value:=.agg #[.nilFunc, .pointer none, .nilFunc, .pointer none]
theorem SetV.nil {H:Heap}:SetV [] nilSet H:=⟨none, none, .nil, .nil, z27, rfl, rfl, .inr ⟨rfl, rfl, rfl, rfl⟩⟩
attribute [local irreducible] V N X VO Par StepOK Has Ret RetL RetO Src
theorem zdl {l:List U} {n:Nat} (hn:l.length = n) {v:Value} {w:World} {B:Heap} (hB:B.Le (hp w)) (hv:SetV l v B):Ret Tryz.prog 36 [v] w B (fun v _ => v = .int .i64 n):=by
 subst hn
 obtain ⟨p, q, t, u, hT, ht, hu, rfl | ⟨rfl, rfl, rfl, rfl⟩⟩:=hv
 ·refine qw Tryz.func36 rfl Tryz.ntmps36 (Nat.le_of_ble_eq_true rfl) hB ?_
  refine Zcr ?_;refine Zal ?_;refine Zal ?_;refine Zco ?_;refine z7 (zq L rfl rfl (zn rfl) rfl rfl rfl (fun u H hH hle _ => UT.len_m hH (⟨_, rfl, ht.le hle⟩) hT.size)) rfl ?_;refine Zc ?_
  refine qv L (rs:=[.tmp 2]) rfl (fun _ _ h => h) Since.refl fun u H hH hle => ?_
  rfl
 ·refine qw Tryz.func36 rfl Tryz.ntmps36 (Nat.le_of_ble_eq_true rfl) hB ?_
  refine Zcr ?_;refine Zal ?_;refine Zal ?_;refine Zco ?_;refine z7 (zq L rfl rfl (zn rfl) rfl rfl rfl (fun u H hH hle _ => UT.len_m hH (⟨_, rfl, ht.le hle⟩) hT.size)) rfl ?_;refine Zc ?_
  refine qv L (rs:=[.tmp 2]) rfl (fun _ _ h => h) Since.refl fun u H hH hle => ?_
  rfl
theorem zc7 {l:List U} {x:U} {b:Bool} (hb:decide (x ∈ l) = b) {v:Value} {w:World} {B:Heap} (hB:B.Le (hp w)) (hv:SetV l v B):Ret Tryz.prog 107 [v, uv x] w B (fun v _ => v = .bool b):=by
 have hv0:=hv
 obtain ⟨p, q, t, u, hT, ht, hu, rfl | ⟨rfl, rfl, rfl, rfl⟩⟩:=hv
 ·have hg:=hT.get x
  refine qw Tryz.func107 rfl Tryz.ntmps107 (Nat.le_of_ble_eq_true rfl) hB ?_
  by_cases h0:l.length = 0
  ·have hn:l = []:=List.eq_nil_of_length_eq_zero h0
   subst hn
   have hb':b = false:=by rw [← hb]; simp
   subst hb'
   refine Zac ?_;refine ZaB ?_;refine Zdh ?_;refine z7 (zq L rfl rfl (zn rfl) rfl rfl rfl (fun u H hH hle _ => zdl rfl hH (hv0.le hle))) rfl ?_;refine Z9 ?_;refine Zck ?_
   refine qv L (rs:=[.tmp 4]) rfl (fun _ _ h => h) Since.refl fun u H hH hle => ?_
   rfl
  ·cases b
   ·have hx:x ∉ l:=by simpa using hb
    rw [if_neg hx] at hg
    refine Zac ?_;refine ZaB ?_;refine Zdh ?_;refine z7 (zq L rfl rfl (zn rfl) rfl rfl rfl (fun u H hH hle _ => zdl rfl hH (hv0.le hle))) rfl ?_;refine ZbW ?_;refine Zx ?_;refine Zal ?_;refine Zal ?_;refine Zco ?_;refine Zea ?_;refine z7 (zq L rfl rfl (zn rfl) rfl rfl rfl (fun u H hH hle _ => UT.get_m z2c x hH (⟨_, rfl, ht.le hle⟩) hg)) rfl ?_;refine ZeW ?_;refine Zd ?_;refine Zk ?_;refine Zc ?_
    refine qv L (rs:=[.tmp 4]) rfl (fun _ _ h => h) Since.refl fun u H hH hle => ?_
    rfl
   ·have hx:x ∈ l:=by simpa using hb
    rw [if_pos hx] at hg
    refine Zac ?_;refine ZaB ?_;refine Zdh ?_;refine z7 (zq L rfl rfl (zn rfl) rfl rfl rfl (fun u H hH hle _ => zdl rfl hH (hv0.le hle))) rfl ?_;refine ZbW ?_;refine Zx ?_;refine Zal ?_;refine Zal ?_;refine Zco ?_;refine Zea ?_;refine z7 (zq L rfl rfl (zn rfl) rfl rfl rfl (fun u H hH hle _ => UT.get_m z2c x hH (⟨_, rfl, ht.le hle⟩) hg)) rfl ?_;refine ZeW ?_;refine Zd ?_;refine Zk ?_;refine Zc ?_
    refine qv L (rs:=[.tmp 4]) rfl (fun _ _ h => h) Since.refl fun u H hH hle => ?_
    rfl
 ·have hb':b = false:=by rw [← hb]; simp
  subst hb'
  refine qw Tryz.func107 rfl Tryz.ntmps107 (Nat.le_of_ble_eq_true rfl) hB ?_
  refine Zac ?_;refine ZaB ?_;refine Zdh ?_;refine z7 (zq L rfl rfl (zn rfl) rfl rfl rfl (fun u H hH hle _ => zdl rfl hH (hv0.le hle))) rfl ?_;refine z7 (yg rfl rfl rfl rfl rfl) rfl ?_;refine Zck ?_
  refine qv L (rs:=[.tmp 4]) rfl (fun _ _ h => h) Since.refl fun u H hH hle => ?_
  rfl
def scs (x:Value × Option Addr × Value × Option Addr):List Value:=[x.1, .pointer x.2.1, x.2.2.1, .pointer x.2.2.2]
abbrev SXp:={ x:Value × Option Addr × Value × Option Addr // (scs x).all zdj = true }
abbrev zuz (l:List U) (x:SXp) (H:Heap):Prop:=SetV l (.agg (scs x.1).toArray) H
theorem zct (l:List U):zhn (zuz l):=fun _ _ _ h hle => SetV.le h hle
theorem zu4 {l:List U} (v:Value) (H:Heap) (h:SetV l v H):∃ x:SXp, zuz l x H ∧ za7 v = scs x.1:=by
 obtain ⟨f, p, k, q, rfl, hp⟩:=h.shape
 exact ⟨⟨(f, p, k, q), hp⟩, h, rfl⟩
abbrev z50 (l:List U) (e:Int):Value → Heap → Prop:=TupS [SetV l, fun v _ => v = .int .i64 e]
theorem mf4 {cf cg:Nat} {t u:Tr U Unit} {v1 v2:Value} {H:Heap} (h1:UT.MF cf t v1 H) (h2:UT.MF cg u v2 H):∃ p q, v1 = .agg #[.func (.func cf) #[] #[], .pointer p] ∧ v2 = .agg #[.func (.func cg) #[] #[], .pointer q] ∧ UT.TA t (.pointer p) H ∧ UT.TA u (.pointer q) H:=by
 obtain ⟨p, e1, h1⟩:=h1
 obtain ⟨q, e2, h2⟩:=h2
 exact ⟨p, q, e1, e2, h1, h2⟩
theorem z5e {l:List U} {t u:Tr U Unit} (h:TS l t u) {x:U} {d:Bool} (hx:decide (x ∈ l) = d) (hc:d = false → l.length < 4096) (he:tE x = 0):TS (zgd l x d).1 (chT zbs x d t) (chT zp1 x d u) ∧ (zgd l x d).2 = 0:=by
 unfold zgd chT
 rw [if_pos he]
 cases d
 ·have hx':x ∉ l:=by simpa using hx
  rw [if_neg (by decide), if_neg hx', if_neg (by have:=hc rfl; omega), if_neg (by decide), if_neg (by decide)]
  exact ⟨h.put hx', rfl⟩
 ·have hx':x ∈ l:=by simpa using hx
  rw [if_pos rfl, if_pos rfl, if_pos rfl]
  exact ⟨h.drop hx', rfl⟩
set_option maxHeartbeats 1000000 in
theorem zxn {l m:List U} {x:U} {d:Bool} {e:Int} (hr:zgd l x d = (m, e)) (hl:l.length ≤ 4096) (hz:TZ x) {v:Value} {w:World} {B:Heap} (hB:B.Le (hp w)) (hv:SetV l v B) :
  Ret Tryz.prog 40 [v, chv x d] w B (z50 m e):=by
 obtain ⟨f1, p1, f2, q1, hsh, hpl⟩:=hv.shape
 by_cases he:tE x = 0
 ·obtain ⟨hin, hin0⟩:∃ b, decide (x ∈ l) = b:=⟨_, rfl⟩
  by_cases hd:hin = d
  ·subst hd
   by_cases hfull:hin = false ∧ l.length = 4096
   ·obtain ⟨rfl, hlen⟩:=hfull
    have hw:zgd l x false = ([], 3):=by
     unfold zgd
     rw [if_pos he, if_neg (by decide), if_neg (by simpa using hin0), if_pos (by omega)]
    rw [hw] at hr
    cases hr
    subst hsh
    refine qw Tryz.func40 rfl Tryz.ntmps40 (Nat.le_of_ble_eq_true rfl) hB ?_
    refine Zac ?_;refine Zag ?_;refine ZaB ?_;refine ZcM ?_;refine z7 (zq L rfl rfl (zn rfl) rfl rfl rfl (fun u H hH _ _ => he ▸ zcb hz hH)) rfl ?_;refine Za1 ?_;refine Zcy ?_;refine ZdZ ?_;refine Zeu ?_;refine ZcU ?_;refine Zbp ?_;refine z8 (zq L rfl rfl (zn rfl) rfl rfl rfl (fun u H hH hle _ => zc7 hin0 hH (hv.le hle))) rfl ?_;refine Zf7 ?_;refine ZbZ ?_;refine Zca ?_;refine ZW ?_;refine Zr ?_;refine Za ?_;refine Zdh ?_;refine z7 (zq L rfl rfl (zn rfl) rfl rfl rfl (fun u H hH hle _ => zdl hlen hH (hv.le hle))) rfl ?_;refine Z9 ?_;refine Zbt ?_;refine ZL ?_;refine Zc0 ?_;refine ZaJ ?_
    refine qv L (rs:=[.cell 4 91, .tmp 5]) rfl (fun _ _ h => h) Since.refl fun u H hH hle => ?_
    exact ⟨_, qp rfl, rfl, LE2.mk SetV.nil⟩
   ·have hc:hin = false → l.length < 4096:=fun h => by
     rcases Nat.lt_or_ge l.length 4096 with h' | h'
     ·exact h'
     ·exact absurd ⟨h, by omega⟩ hfull
    obtain ⟨p, q, t, u, hT, ht, hu, hv1⟩:=id hv
    have hch:=z5e hT hin0 hc he
    rw [hr] at hch
    obtain ⟨hT', rfl⟩:=hch
    have hts:=hT.size
    have hus:=hT.zu
    have hf1:p1 = p ∧ q1 = q ∧ (f1 = fvC ∨ (f1 = .nilFunc ∧ t = .nil)) ∧ (f2 = fvS ∨ (f2 = .nilFunc ∧ u = .nil)):=by
     rcases hv1 with h | ⟨h0, rfl, rfl, h⟩
     ·rw [hsh] at h; cases h; exact ⟨rfl, rfl, .inl rfl, .inl rfl⟩
     ·rw [hsh] at h
      cases h
      subst h0
      have key:∀ {s:Tr U Unit}, s.size = 0 → s = .nil:=fun {s} hs => by
       cases s with
       | nil => rfl
       | node k y l r => simp only [Tr.size] at hs; omega
      exact ⟨rfl, rfl, .inr ⟨rfl, key hts⟩, .inr ⟨rfl, key hus⟩⟩
    obtain ⟨rfl, rfl, hf1, hf2⟩:=hf1
    subst hsh
    have hchg1:=fun (u1:World) (H:Heap) (hH:H.Le (hp u1)) (hle:B.Le H) => zma z2c hf1 x hin hH (ht.le hle) (by omega)
    have hchg2:=fun (u1:World) (H:Heap) (hH:H.Le (hp u1)) (hle:B.Le H) => zma z5u hf2 x hin hH (hu.le hle) (by omega)
    cases hin
    ·have hlen:=hc rfl
     refine qw Tryz.func40 rfl Tryz.ntmps40 (Nat.le_of_ble_eq_true rfl) hB ?_
     refine Zac ?_;refine Zag ?_;refine ZaB ?_;refine ZcM ?_;refine z7 (zq L rfl rfl (zn rfl) rfl rfl rfl (fun u H hH _ _ => he ▸ zcb hz hH)) rfl ?_;refine Za1 ?_;refine Zcy ?_;refine ZdZ ?_;refine Zeu ?_;refine ZcU ?_;refine Zbp ?_;refine z8 (zq L rfl rfl (zn rfl) rfl rfl rfl (fun u H hH hle _ => zc7 hin0 hH (hv.le hle))) rfl ?_;refine Zf7 ?_;refine ZbZ ?_;refine Zca ?_;refine ZW ?_;refine Zr ?_;refine Za ?_;refine Zdh ?_;refine z7 (zq L rfl rfl (zn rfl) rfl rfl rfl (fun u H hH hle _ => zdl rfl hH (hv.le hle))) rfl ?_;refine ZR ?_;refine Za7 ?_;refine Zb9 ?_;refine Zdx ?_;refine Zf6 ?_;refine z8 (zai (φ:=UT.MF 101 (chT zbs x false t)) L rfl rfl (zn rfl) rfl rfl rfl UT.MA.mono (fun u H hH hle _ => hchg1 u H hH hle)) rfl ?_;refine Zdx ?_;refine Zf6 ?_;refine z8 (zai (φ:=UT.MF 109 (chT zp1 x false u)) L rfl rfl (zn rfl) rfl rfl rfl UT.MA.mono (fun u H hH hle _ => hchg2 u H hH hle)) rfl ?_;refine z8 (zo7 (ψ:=SetV m) rfl rfl z5i SetV.mono (fun H _ v1 h1 v2 h2 => by obtain ⟨p, q, rfl, rfl, k1, k2⟩:=mf4 h1 h2; exact ⟨_, rfl, p, q, _, _, hT', k1, k2, .inl rfl⟩)) rfl ?_;refine z8 (zkd L (X:=SXp) (fun x => scs x.1) (zuz m) (zct m) zu4 (fun x => ⟨rfl, x.2⟩) rfl rfl rfl rfl rfl) rfl ?_;refine ZB ?_
     refine zin 4 rfl fun x4 H4 hs4 hx4 => ?_
     refine qv L (rs:=[.cell 4 91, .tmp 5]) rfl (fun _ _ h => h) hs4 fun u H hH hle => ?_
     exact ⟨_, qp rfl, rfl, LE2.mk (hx4.le hle)⟩
    ·refine qw Tryz.func40 rfl Tryz.ntmps40 (Nat.le_of_ble_eq_true rfl) hB ?_
     refine Zac ?_;refine Zag ?_;refine ZaB ?_;refine ZcM ?_;refine z7 (zq L rfl rfl (zn rfl) rfl rfl rfl (fun u H hH _ _ => he ▸ zcb hz hH)) rfl ?_;refine Za1 ?_;refine Zcy ?_;refine ZdZ ?_;refine Zeu ?_;refine ZcU ?_;refine Zbp ?_;refine z8 (zq L rfl rfl (zn rfl) rfl rfl rfl (fun u H hH hle _ => zc7 hin0 hH (hv.le hle))) rfl ?_;refine Zf7 ?_;refine ZbZ ?_;refine Zca ?_;refine ZW ?_;refine Zr ?_;refine Zak ?_;refine Zq ?_;refine Zb9 ?_;refine Zdx ?_;refine Zf6 ?_;refine z8 (zai (φ:=UT.MF 101 (chT zbs x true t)) L rfl rfl (zn rfl) rfl rfl rfl UT.MA.mono (fun u H hH hle _ => hchg1 u H hH hle)) rfl ?_;refine Zdx ?_;refine Zf6 ?_;refine z8 (zai (φ:=UT.MF 109 (chT zp1 x true u)) L rfl rfl (zn rfl) rfl rfl rfl UT.MA.mono (fun u H hH hle _ => hchg2 u H hH hle)) rfl ?_;refine z8 (zo7 (ψ:=SetV m) rfl rfl z5i SetV.mono (fun H _ v1 h1 v2 h2 => by obtain ⟨p, q, rfl, rfl, k1, k2⟩:=mf4 h1 h2; exact ⟨_, rfl, p, q, _, _, hT', k1, k2, .inl rfl⟩)) rfl ?_;refine z8 (zkd L (X:=SXp) (fun x => scs x.1) (zuz m) (zct m) zu4 (fun x => ⟨rfl, x.2⟩) rfl rfl rfl rfl rfl) rfl ?_;refine ZB ?_
     refine zin 4 rfl fun x4 H4 hs4 hx4 => ?_
     refine qv L (rs:=[.cell 4 91, .tmp 5]) rfl (fun _ _ h => h) hs4 fun u H hH hle => ?_
     exact ⟨_, qp rfl, rfl, LE2.mk (hx4.le hle)⟩
  ·have hw:zgd l x d = (l, 0):=by
    unfold zgd
    rw [if_pos he]
    cases d
    ·have:hin = true:=by cases hin; exact absurd rfl hd; rfl
     subst this
     rw [if_neg (by decide), if_pos (by simpa using hin0)]
    ·have:hin = false:=by cases hin; rfl; exact absurd rfl hd
     subst this
     rw [if_pos rfl, ztx (by simpa using hin0)]
   rw [hw] at hr
   cases hr
   have hb:(hin == d) = false:=by cases hin <;> cases d <;> first | rfl | exact absurd rfl hd
   subst hsh
   refine qw Tryz.func40 rfl Tryz.ntmps40 (Nat.le_of_ble_eq_true rfl) hB ?_
   have hb2:(!(hin == d)) = true:=by rw [hb]; rfl
   refine Zac ?_;refine Zag ?_;refine ZaB ?_;refine ZcM ?_;refine z7 (zq L rfl rfl (zn rfl) rfl rfl rfl (fun u H hH _ _ => he ▸ zcb hz hH)) rfl ?_;refine Za1 ?_;refine Zcy ?_;refine ZdZ ?_;refine Zeu ?_;refine ZcU ?_;refine Zbp ?_;refine z8 (zq L rfl rfl (zn rfl) rfl rfl rfl (fun u H hH hle _ => zc7 hin0 hH (hv.le hle))) rfl ?_;refine Zbw ?_;refine z8 (zvv rfl rfl rfl rfl bt4 hb2) rfl ?_;refine ZbD ?_;refine Zbo ?_;refine Zdh ?_;refine Zci ?_;refine Zc ?_
   refine qv L (rs:=[.cell 4 91, .tmp 5]) rfl (fun _ _ h => h) Since.refl fun u H hH hle => ?_
   exact ⟨_, qp rfl, rfl, LE2.mk (hv.le hle)⟩
 ·have hw:zgd l x d = ([], tE x):=if_neg he
  rw [hw] at hr
  cases hr
  subst hsh
  refine qw Tryz.func40 rfl Tryz.ntmps40 (Nat.le_of_ble_eq_true rfl) hB ?_
  refine Zac ?_;refine Zag ?_;refine ZaB ?_;refine ZcM ?_;refine z7 (zq L rfl rfl (zn rfl) rfl rfl rfl (fun u H hH _ _ => zcb hz hH)) rfl ?_;refine Za1 ?_;refine ZH ?_;refine Zx ?_;refine Zc0 ?_;refine ZbV ?_
  refine qv L (rs:=[.cell 4 91, .tmp 5]) rfl (fun _ _ h => h) Since.refl fun u H hH hle => ?_
  exact ⟨_, qp rfl, rfl, LE2.mk SetV.nil⟩
end Go.V.L6
set_option maxRecDepth 20000
namespace Go.V.L2
open Go.Proofs Go.RowKit Go.V
theorem zuh:∀ (l:List U), (l.flatMap ucs).length = l.length * 6
 | [] => rfl
 | y :: l => by rw [List.flatMap_cons, List.length_append, zuh l, zml, List.length_cons]; omega
attribute [local irreducible] V N X VO Par StepOK Has Ret RetL Src
end Go.V.L2
set_option maxRecDepth 20000
namespace Go.V.L6
open Go.Proofs Go.RowKit Go.V Go.V.L2 Go.V.L3
theorem _root_.Go.V.Zfa {A B:Prop} (h:B) (t:Wr B → A:=by intro h; refine z7 (zlt L rfl rfl rfl rfl) rfl ?_;exact h.h):A:=t ⟨h⟩
theorem _root_.Go.V.Zdi {A B:Prop} (h:B) (t:Wr B → A:=by intro h; refine Zh ?_;refine Za ?_;exact h.h):A:=t ⟨h⟩
theorem _root_.Go.V.ZdK {A B:Prop} (h:B) (t:Wr B → A:=by intro h; refine Zdi ?_;refine Zbu ?_;exact h.h):A:=t ⟨h⟩
theorem zwt (N:List (U × Unit)):UT.flat N = (kS N).flatMap ucs:=by
 unfold UT.flat kS
 rw [List.flatMap_map]
 rfl
theorem ztb {t:Tr U Unit} {r k:Nat} (hk:k ≤ t.size):kS (UT.rangeL t (r:Int) (k:Int)) = ((kS t.list).take k).drop r:=by
 unfold UT.rangeL
 have h0:max (r:Int) 0 = (r:Int):=by omega
 have h1:min (k:Int) (t.size:Int) = (k:Int):=by omega
 rw [h0, h1]
 by_cases h:(r:Int) ≥ k
 ·rw [if_pos h, List.drop_eq_nil_of_le (by rw [List.length_take]; omega)]
  rfl
 ·rw [if_neg h, Tr.prs_list]
  have:=zsf r k t.list 0
  rw [show ((0:Nat):Int) = 0 from rfl] at this
  rw [this, Nat.sub_zero, Nat.sub_zero]
  unfold kS
  rw [List.map_drop, List.map_take]
attribute [local irreducible] V N X VO Par StepOK Has Ret RetL RetO Src
set_option maxHeartbeats 1000000 in
theorem ztr {fv:Value} {p:Option Addr} {t:Tr U Unit} {f e:Int} {M:List U} (hM:kS (UT.rangeL t f e) = M) (hs:t.size ≤ 100000) {w:World} {B:Heap} (hB:B.Le (hp w)) (ht:UT.TA t (.pointer p) B) :
  RetO Tryz.prog 105 [.agg #[fv, .pointer p], .int .i64 f, .int .i64 e] w B (SlE tyU 6 M.length (M.flatMap ucs)):=by
 obtain ⟨N, hN⟩:∃ N, UT.rangeL t f e = N:=⟨_, rfl⟩
 rw [hN] at hM
 have hfl:=zwt N
 have hNM:N.length = M.length:=by rw [← hM]; simp
 have hlen:M.length ≤ 100000:=by
  rw [← hNM, ← hN]
  unfold UT.rangeL
  split
  ·exact Nat.zero_le _
  ·exact Nat.le_trans (Tr.prs_length_le _ _ _ _) hs
 have hat:∀ {k:Nat} {g:U}, M[k]? = some g → ((UT.flat N).drop (k * 6)).take 6 = [.string g.1.1.1, .string g.1.1.2, .string g.1.2, .string g.2.1.1, .string g.2.1.2, .string g.2.2]:=fun {k g} h => by
  rw [hfl, hM]; exact ziq h
 clear hM hfl
 refine zcx Tryz.func105 rfl Tryz.ntmps105 (Nat.le_of_ble_eq_true rfl) hB ?_
 refine Zcr ?_;refine Zal ?_;refine Zco ?_;refine Zb ?_;refine z7 (zai (φ:=UT.PS N true) L rfl rfl (zn rfl) rfl rfl rfl UT.PS.mono (fun u H hH hle _ => UT.range_m _ _ hH (⟨_, rfl, ht.le hle⟩) (by omega) hN)) rfl ?_;refine Zdg ?_;refine ZU ?_;refine Zn ?_;refine z7 (zyn L _ rfl rfl rfl z45 rfl rfl rfl rfl (by omega) (by simp only [maxLen]; omega)) rfl ?_;refine qg (zaf (.inr rfl) rfl rfl rfl rfl) ?_;refine Zaw ?_;refine Zx ?_;refine ZbT ?_
 have hzl:=zld (P:=Tryz.prog) (k:=N.length * 6) z45
 generalize zsL Tryz.prog tyU (N.length * 6) = zs0 at hzl
 rw [hNM] at hzl ⊢
 refine zam (fun s:Nat × List Value => [(7, .sat (UT.PS N true)), (8, .own (SlE tyU 6 M.length ((M.take s.1).flatMap ucs ++ s.2))), (19, .is (.int .i64 M.length)), (20, .is (.int .i64 s.1))])
  (fun s => s.1 ≤ M.length ∧ s.2.length = (M.length - s.1) * 6) (fun s => M.length - s.1) (0, zs0) ⟨Nat.zero_le _, hzl⟩ ⟨rfl, rfl, rfl, rfl, trivial⟩ ?_
 rintro ⟨k, zs⟩ ⟨hk, hz⟩
 dsimp only at hk hz ⊢
 by_cases hlt:k < M.length
 ·obtain ⟨g, hg⟩:=zap hlt
  have hc:=hat hg
  have hlN:k < N.length:=by omega
  have ht1:M.take (k + 1) = M.take k ++ [g]:=by rw [List.take_add_one, hg]; rfl
  have hr:List.take (0 + k * 6) ((M.take k).flatMap ucs ++ zs) ++ (ucs g ++ List.drop (0 + k * 6 + 6) ((M.take k).flatMap ucs ++ zs)) = (M.take (k + 1)).flatMap ucs ++ zs.drop 6:=by
   rw [ht1, Nat.zero_add]
   exact z3f zml (M.take k) k M.length zs g (by rw [List.length_take]; omega) hz hlt
  have hlen':((M.take (k + 1)).flatMap ucs ++ zs.drop 6).length = M.length * 6:=by
   rw [List.length_append, zuh, List.length_take, List.length_drop, hz]; omega
  refine z4y 8 (by omega) rfl fun b hb => ?_
  have hle1:0 + k * 6 + 6 ≤ ((M.take k).flatMap ucs ++ zs).length:=by rw [hb.1]; omega
  refine Zcl ?_;refine ZV ?_;refine ZN ?_;refine Zc ?_;refine ZQ ?_;refine Zb ?_;refine ZdK ?_;refine Zfa ?_;refine Zcw ?_;refine z7 (q8 L _ rfl rfl rfl rfl rfl rfl rfl (by omega)) rfl ?_;refine zpq L (O1:=[]) (cs':=(M.take (k + 1)).flatMap ucs ++ zs.drop 6) rfl rfl rfl rfl rfl rfl (Nat.ble_eq_true_of_le hle1) rfl hr ?_;refine ZcC ?_
  refine zzq (s:=6) 8 [] rfl rfl hlen' hb.2 ?_
  refine ZL ?_;refine ZbP ?_
  exact y9 (x:=(k, zs)) (k + 1, zs.drop 6) ⟨hlt, by dsimp only; rw [List.length_drop, hz]; omega⟩ (by dsimp only; omega) ⟨rfl, rfl, rfl, rfl, trivial⟩
 ·obtain rfl:k = M.length:=by omega
  have hzn:zs = []:=List.eq_nil_of_length_eq_zero (by rw [hz]; omega)
  rw [hzn, List.append_nil, List.take_length]
  refine Zcl ?_;refine ZaC ?_;refine Z7 ?_;refine qg (zaf (.inl rfl) rfl rfl rfl rfl) ?_;refine qg (zaf (.inr rfl) rfl rfl rfl rfl) ?_;refine Zy ?_
  exact zf2 rfl (fun _ _ h => h) Since.refl rfl
end Go.V.L6
set_option maxRecDepth 20000
namespace Go.V.L6
open Go.Proofs Go.RowKit Go.V Go.V.L2 Go.V.L3
attribute [local irreducible] V N X VO Par StepOK Has Ret RetL RetO Src
theorem SetV.trees {l:List U} {v:Value} {B:Heap} (hv:SetV l v B):∃ f p k q t u, v = .agg #[f, .pointer p, k, .pointer q] ∧ TS l t u ∧ UT.TA t (.pointer p) B ∧ UT.TA u (.pointer q) B:=by
 obtain ⟨p, q, t, u, hT, ht, hu, rfl | ⟨rfl, rfl, rfl, rfl⟩⟩:=hv
 ·exact ⟨_, _, _, _, t, u, rfl, hT, ht, hu⟩
 ·exact ⟨_, _, _, _, t, u, rfl, hT, ht, hu⟩
theorem z3c {l:List U} (hl:l.length ≤ 100000) {v:Value} {w:World} {B:Heap} (hB:B.Le (hp w)) (hv:SetV l v B):RetO Tryz.prog 38 [v] w B (SlE tyU 6 l.length (l.flatMap ucs)):=by
 obtain ⟨f, p, k, q, t, u, rfl, hT, ht, hu⟩:=hv.trees
 have hts:=hT.size
 have hr:kS (UT.rangeL t 0 (l.length:Int)) = l:=by
  have:=ztb (t:=t) (r:=0) (k:=l.length) (by omega)
  rw [show ((0:Nat):Int) = 0 from rfl] at this
  rw [this, hT.kt, List.drop_zero, List.take_length]
 refine zcx Tryz.func38 rfl Tryz.ntmps38 (Nat.le_of_ble_eq_true rfl) hB ?_
 refine ZK ?_;refine Zd ?_;refine q6 (id:=1) [(2, [7])] mixed (by kernel_rfl) ?_;refine Zdx ?_;refine Zeu ?_;refine z8 (zq L rfl rfl (zn rfl) rfl rfl rfl (fun u H hH hle _ => zdl rfl hH (hv.le hle))) rfl ?_;refine z8 (zck L rfl rfl (zn rfl) rfl rfl rfl (fun u H hH hle _ => ztr hr (by omega) hH (ht.le hle))) rfl ?_;refine za6 (zaf (.inr rfl) rfl rfl rfl rfl) rfl rfl ?_;refine Zcq ?_
 exact zf2 rfl (fun _ _ h => h) Since.refl rfl
end Go.V.L6
set_option maxRecDepth 20000
namespace Go.V.L6
open Go.Proofs Go.RowKit Go.V Go.V.L2 Go.V.L3
attribute [local irreducible] V N X VO Par StepOK Has Ret RetL RetO RetT Src
end Go.V.L6
set_option maxRecDepth 20000
namespace Go.V.L6
open Go.Proofs Go.RowKit Go.V Go.V.L2
attribute [local irreducible] V N X VO Par StepOK Has Ret RetL RetO Src
end Go.V.L6
set_option maxRecDepth 20000
namespace Go.V.L6
open Go.Proofs Go.RowKit Go.V Go.V.L2 Go.V.L3
theorem LE2.out {φ:Value → Heap → Prop} {a v:Value} {H:Heap} (h:TupS [φ, fun v _ => v = a] v H):∃ tv, v = .tuple #[tv, a] ∧ φ tv H:=by
 obtain ⟨vs, rfl, hl, h⟩:=h
 match vs, hl with
 | [x, y], _ =>
  have h1:=h 0 _ x rfl rfl
  have h2:=h 1 _ y rfl rfl
  subst h2
  exact ⟨x, rfl, h1⟩
def WithP (l:List U) (e:Int) (r:Value) (H:Heap):Prop:=∃ tv, r = .tuple #[tv, .int .i64 e] ∧ SetV l tv H
theorem WithP.mono {l:List U} {e:Int}:Kn.mono (.sat (WithP l e)):=fun _ _ _ ⟨tv, h1, h2⟩ hle => ⟨tv, h1, h2.le hle⟩
theorem zjy {l:List U} (hl:l.length ≤ 100000) {v:Value} {w:World} {B:Heap} (hB:B.Le (hp w)) (hv:SetV l v B):Ret Tryz.prog 38 [v] w B (US l true):=(z3c hl hB hv).toRet zr5
theorem zn0 {l m:List U} {x:U} {d:Bool} {e:Int} (hr:zgd l x d = (m, e)) (hl:l.length ≤ 4096) (hz:TZ x) {v:Value} {w:World} {B:Heap} (hB:B.Le (hp w)) (hv:SetV l v B) :
  Ret Tryz.prog 40 [v, chv x d] w B (WithP m e):=(zxn hr hl hz hB hv).mono fun _ _ _ h => LE2.out h
attribute [local irreducible] V N X VO Par StepOK Has Ret RetL RetO RetT Src
end Go.V.L6
set_option maxRecDepth 20000
namespace Go.V.L3
open Go.Proofs Go.RowKit Go.V Go.V.L2
attribute [local irreducible] V N X VO Par StepOK Has Ret RetL RetO RetT Src
end Go.V.L3
set_option maxRecDepth 20000
namespace Go.V.L3
open Go.Proofs Go.RowKit Go.V Go.V.L2
attribute [local irreducible] V N X VO Par StepOK Has Ret RetL RetO RetT Src
end Go.V.L3
set_option maxRecDepth 20000
namespace Go.V.L6
open Go.Proofs Go.RowKit Go.V Go.V.L2 Go.V.L3
theorem zrh (t:U):tE t = 0 ∨ tE t = 6:=by
 unfold tE
 split
 ·exact zoe _ _ _
 ·rename_i h; exact .inr ((zjh _).resolve_left h)
attribute [local irreducible] V N X VO Par StepOK Has Ret RetL RetO RetT Src
end Go.V.L6
set_option maxRecDepth 20000
namespace Go.V.L2
open Go.Proofs Go.RowKit Go.V
def TM (t:U):Prop:=(t.1.1.1.size ≤ 9223372036854775807 ∧ t.1.1.2.size ≤ 9223372036854775807 ∧ t.1.2.size ≤ 9223372036854775807) ∧ t.2.1.1.size ≤ 9223372036854775807 ∧ t.2.1.2.size ≤ 9223372036854775807 ∧ t.2.2.size ≤ 9223372036854775807
attribute [local irreducible] V N X VO Par StepOK Has Ret RetL Src
end Go.V.L2
set_option maxRecDepth 20000
namespace Go.V.L8
open Go.Proofs Go.RowKit Go.V Go.V.L2 Go.V.L3 Go.V.L6
abbrev tyM:TypeId:=362
abbrev tyC:TypeId:=42
abbrev z6v:TypeId:=223
abbrev z0w:TypeId:=39
def ccs (c:CH):List Value:=[.string c.1.1.1.1, .string c.1.1.1.2, .string c.1.1.2, .string c.1.2.1.1, .string c.1.2.1.2, .string c.1.2.2, .bool c.2]
theorem zw8 (c:CH):(ccs c).length = 7:=rfl
abbrev KS (ty:TypeId) (l:List CH) (fu:Bool):Value → Heap → Prop:=SlV ty 7 (l.flatMap ccs) l.length fu
theorem zit {l:List CH} {i:Nat} {c:CH} (h:l[i]? = some c):((l.flatMap ccs).drop (i * 7)).take 7 = [.string c.1.1.1.1, .string c.1.1.1.2, .string c.1.1.2, .string c.1.2.1.1, .string c.1.2.1.2, .string c.1.2.2, .bool c.2]:=zdr zw8 l i c h
theorem zks {ty:TypeId} {κ:Kap} {s:Nat} {r:List CH} {c:CH} (h:κ s = some (.own (SlR ty 7 (r.length + 1) (r.flatMap ccs ++ [.string c.1.1.1.1, .string c.1.1.1.2, .string c.1.1.2, .string c.1.2.1.1, .string c.1.2.1.2, .string c.1.2.2, .bool c.2])))):κ s = some (.own (SlR ty 7 (r ++ [c]).length ((r ++ [c]).flatMap ccs))):=by
 rw [h, List.flatMap_append, List.length_append]; rfl
theorem z4o {n:Nat} {l:List CH} (hl:¬ n < l.length) {i:Nat} {c:CH} (hc:l[i]? = some c) (h:¬ tE c.1 = 0):cE n l = 6:=by
 unfold cE
 rw [if_neg hl, if_pos]
 rw [List.any_eq_true]
 exact ⟨c, List.mem_of_getElem? hc, by simp [h]⟩
theorem z0o {n:Nat} {l:List CH} (hl:¬ n < l.length) (h:∀ (j:Nat) c, l[j]? = some c → tE c.1 = 0):cE n l = 0:=by
 unfold cE
 rw [if_neg hl, if_neg]
 rw [List.any_eq_true]
 rintro ⟨c, hc, h1⟩
 obtain ⟨j, hj⟩:=List.getElem?_of_mem hc
 rw [decide_eq_true (h j c hj)] at h1
 cases h1
attribute [local irreducible] V N X VO Par StepOK Has Ret RetL RetO RetT Src
theorem zun {t:U} (hz:TM t) {w:World} {B:Heap} (hB:B.Le (hp w)):Ret Tryz.prog 100 [uv t] w B (fun v _ => v = .int .i64 (tE t)):=by
 obtain ⟨⟨z1, z2, z3⟩, z4, z5, z6⟩:=hz
 unfold tE
 refine qw Tryz.func100 rfl Tryz.ntmps100 (Nat.le_of_ble_eq_true rfl) hB ?_
 by_cases h:zcf [t.1.1.1, t.1.1.2, t.1.2] = 0
 ·rw [if_pos h]
  refine Ze6 ?_;refine Zal ?_;refine Zdw ?_;refine z7 (zq L rfl rfl (zn rfl) rfl rfl rfl (fun u H hH _ _ => zfc (by first | assumption | omega | decide) (by first | assumption | omega | decide) (by first | assumption | omega | decide) hH)) rfl ?_;refine Za1 ?_;refine Zad ?_;refine Zv ?_;refine Zal ?_;refine Zdw ?_;refine z7 (zq L rfl rfl (zn rfl) rfl rfl rfl (fun u H hH _ _ => zjs (by first | assumption | omega | decide) (by first | assumption | omega | decide) (by first | assumption | omega | decide) hH)) rfl ?_;refine Zc ?_
  refine qv L (rs:=[.tmp 2]) rfl (fun _ _ h => h) Since.refl fun u H hH hle => ?_
  rfl
 ·rw [if_neg h]
  refine Ze6 ?_;refine Zal ?_;refine Zdw ?_;refine z7 (zq L rfl rfl (zn rfl) rfl rfl rfl (fun u H hH _ _ => zfc (by first | assumption | omega | decide) (by first | assumption | omega | decide) (by first | assumption | omega | decide) hH)) rfl ?_;refine Za1 ?_;refine ZH ?_;refine Zm ?_;refine Zc ?_
  refine qv L (rs:=[.tmp 2]) rfl (fun _ _ h => h) Since.refl fun u H hH hle => ?_
  rfl
theorem zrn {t:U} (hz:TM t) {w:World} {B:Heap} (hB:B.Le (hp w)):Ret Tryz.prog 58 [uv t] w B (fun v _ => v = .int .i64 (tE t)):=by
 obtain ⟨⟨z1, z2, z3⟩, z4, z5, z6⟩:=hz
 have hm:=zz9 t
 refine qw Tryz.func58 rfl Tryz.ntmps58 (Nat.le_of_ble_eq_true rfl) hB ?_
 refine ZK ?_;refine ZbS ?_;refine Zb3 ?_;refine z8 (zq L rfl rfl (zn rfl) rfl rfl rfl (fun u H hH _ _ => zov (by first | assumption | omega | decide) (by first | assumption | omega | decide) (by first | assumption | omega | decide) hH)) rfl ?_;refine Zb3 ?_;refine z8 (zq L rfl rfl (zn rfl) rfl rfl rfl (fun u H hH _ _ => zig (by first | assumption | omega | decide) (by first | assumption | omega | decide) (by first | assumption | omega | decide) hH)) rfl ?_;refine z8 (zgi rfl rfl rfl rfl (by assumption)) rfl ?_;refine ZB ?_
 refine qv L (rs:=[.tmp 2]) rfl (fun _ _ h => h) Since.refl fun u H hH hle => ?_
 rfl
theorem z1v {l:List CH} {fu:Bool} {b i:Nat} {c:CH} (hc0:l[i]? = some c) {v:Value} {w:World} {B:Heap} (hB:B.Le (hp w)) (hb:B b = some (.cells #[v] z6v)) (hv:KS tyM l fu v B) :
  Ret Tryz.prog 252 ([.int .i64 i] ++ [.pointer (some ⟨b, 0, none⟩)]) w B (fun r _ => r = uv c.1):=by
 have hc:=zit hc0
 have hil:=get_lt hc0
 refine qw Tryz.func252 rfl Tryz.ntmps252 (Nat.le_of_ble_eq_true rfl) hB ?_
 refine ZaI ?_;refine Zj ?_;refine Z6 ?_;refine Zeb ?_;refine zdg 4 (KS tyM l fu) rfl SlV.mono hv ?_;refine Za ?_;refine Zbu ?_;refine Zfa ?_;refine Zcw ?_;refine ZaG ?_
 refine qv L (rs:=[.cell 3 34]) rfl (fun _ _ h => h) Since.refl fun u H hH hle => ?_
 refine ZcK ?_
 rfl
theorem z2f {l:List CH} {fu:Bool} {b i:Nat} {c:CH} (hc0:l[i]? = some c) {v:Value} {w:World} {B:Heap} (hB:B.Le (hp w)) (hb:B b = some (.cells #[v] z0w)) (hv:KS tyC l fu v B) :
  Ret Tryz.prog 253 ([.int .i64 i] ++ [.pointer (some ⟨b, 0, none⟩)]) w B (fun r _ => r = uv c.1):=by
 have hc:=zit hc0
 have hil:=get_lt hc0
 refine qw Tryz.func253 rfl Tryz.ntmps253 (Nat.le_of_ble_eq_true rfl) hB ?_
 refine ZaI ?_;refine Zj ?_;refine Z6 ?_;refine Zeb ?_;refine zdg 4 (KS tyC l fu) rfl SlV.mono hv ?_;refine Za ?_;refine Zbu ?_;refine Zfa ?_;refine Zcw ?_;refine ZaG ?_
 refine qv L (rs:=[.cell 3 34]) rfl (fun _ _ h => h) Since.refl fun u H hH hle => ?_
 refine ZcK ?_
 rfl
theorem zlx {l:List CH} {cf:Nat} {caps:List Value} (hz:∀ c ∈ l, TM c.1) (hl:l.length ≤ 9223372036854775807) (hfn:L.fn cf = some ()) {e:Int} (he:cE 32 l = e) {w:World} {B:Heap} (hB:B.Le (hp w))
  (hcl:∀ (i:Nat) (c:CH), l[i]? = some c → ∀ (u:World) (H:Heap), H.Le (hp u) → B.Le H → Ret Tryz.prog cf ([.int .i64 i] ++ caps) u H (fun r _ => r = uv c.1)) :
  Ret Tryz.prog 251 [.int .i64 l.length, .func (.func cf) #[] caps.toArray] w B (fun v _ => v = .int .i64 e):=by
 subst he
 refine qw Tryz.func251 rfl Tryz.ntmps251 (Nat.le_of_ble_eq_true rfl) hB ?_
 by_cases h32:32 < l.length
 ·have:cE 32 l = 3:=if_pos h32
  rw [this]
  refine Zbg ?_;refine ZP ?_;refine Zck ?_
  refine qv L (rs:=[.tmp 4]) rfl (fun _ _ h => h) Since.refl fun u H hH hle => ?_
  rfl
 ·refine Zbg ?_;refine Z3 ?_;refine ZD ?_;refine ZaZ ?_;refine ZbL ?_
  refine zam (fun i:Nat => [(1, .is (.func (.func cf) #[] caps.toArray)), (9, .is (.int .i64 l.length)), (10, .is (.int .i64 i))]) (fun i => i ≤ l.length ∧ ∀ (j:Nat) c, j < i → l[j]? = some c → tE c.1 = 0) (fun i => l.length - i) 0 ⟨Nat.zero_le _, fun j c h => absurd h (Nat.not_lt_zero _)⟩ ⟨rfl, rfl, rfl, trivial⟩ ?_
  rintro i ⟨hi, hok⟩
  by_cases hlt:i < l.length
  ·obtain ⟨c, hc⟩:=zap hlt
   have hzc:=hz c (List.mem_of_getElem? hc)
   by_cases h0:tE c.1 = 0
   ·refine Zcl ?_;refine ZV ?_;refine ZN ?_;refine Zds ?_;refine Zb ?_;refine z7 (zq L rfl rfl (zn rfl) rfl rfl hfn (fun u H hH hle _ => hcl i c hc u H hH hle)) rfl ?_;refine z7 (zq L rfl rfl (zn rfl) rfl rfl rfl (fun u H hH _ _ => h0 ▸ zun hzc hH)) rfl ?_;refine Zd ?_;refine ZO ?_;refine ZA ?_;refine ZaO ?_;refine Zaj ?_;refine ZbP ?_
    exact y9 (x:=i) (i + 1) ⟨hlt, fun j c' hj hc' => by
     rcases Nat.lt_or_ge j i with h | h
     ·exact hok j c' h hc'
     ·have:j = i:=by omega
      subst this; rw [hc] at hc'; cases hc'; exact h0⟩ (by omega) ⟨rfl, rfl, rfl, trivial⟩
   ·have h6:=(zrh c.1).resolve_left h0
    rw [z4o h32 hc h0]
    refine Zcl ?_;refine ZV ?_;refine ZN ?_;refine Zds ?_;refine Zb ?_;refine z7 (zq L rfl rfl (zn rfl) rfl rfl hfn (fun u H hH hle _ => hcl i c hc u H hH hle)) rfl ?_;refine z7 (zq L rfl rfl (zn rfl) rfl rfl rfl (fun u H hH _ _ => h6 ▸ zun hzc hH)) rfl ?_;refine Zd ?_;refine ZO ?_;refine ZH ?_;refine ZZ ?_;refine Zc ?_
    refine qv L (rs:=[.tmp 4]) rfl (fun _ _ h => h) Since.refl fun u H hH hle => ?_
    rfl
  ·rw [z0o h32 (fun j c hj => hok j c (by have:=get_lt hj; omega) hj)]
   refine Zcl ?_;refine ZaC ?_;refine Zay ?_;refine Zc ?_
   refine qv L (rs:=[.tmp 4]) rfl (fun _ _ h => h) Since.refl fun u H hH hle => ?_
   rfl
theorem zol {e:TypeId} {s n:Nat} {xs:List Value} {fu:Bool} {v:Value} {H:Heap} (h:SlV e s xs n fu v H):∃ p m c, v = .slice p m c:=by
 rcases h.2 with ⟨_, _, h⟩ | ⟨b, off, cap, cs, ty0, fr, h, _⟩
 ·exact ⟨_, _, _, h⟩
 ·exact ⟨_, _, _, h⟩
theorem zf8 {l:List CH} {fu:Bool} (hz:∀ c ∈ l, TM c.1) (hl:l.length ≤ 9223372036854775807) {e:Int} (he:cE 32 l = e) {v:Value} {w:World} {B:Heap} (hB:B.Le (hp w)) (hv:KS tyM l fu v B) :
  Ret Tryz.prog 191 [v] w B (fun r _ => r = .int .i64 e):=by
 obtain ⟨p, m, c, rfl⟩:=zol hv
 refine qw Tryz.func191 rfl Tryz.ntmps191 (Nat.le_of_ble_eq_true rfl) hB ?_
 refine ZK ?_;refine Zd ?_
 refine zk7 1 rfl fun q H1 hs1 ⟨b, hpb, hb1⟩ => ?_
 subst hpb
 refine Z6 ?_;refine Zeb ?_;refine zdg 3 (KS tyM l fu) rfl SlV.mono (hv.le hs1.le) ?_;refine Zdu ?_;refine Zb1 ?_;refine z7 (zq L rfl rfl (zn rfl) rfl rfl rfl (fun u H hH hle _ => zlx (caps:=[.pointer (some ⟨b, 0, none⟩)]) hz hl rfl he hH (fun i c hc u' H' hH' hle' => z1v hc hH' (hle' _ _ (hle _ _ hb1)) ((hv.le hs1.le).le (Heap.Le.trans hle hle'))))) rfl ?_;refine Zc ?_
 refine qv L (rs:=[.tmp 2]) rfl (fun _ _ h => h) hs1 fun u H hH hle => ?_
 rfl
end Go.V.L8
set_option maxRecDepth 20000
namespace Go.V.L11
open Go.Proofs Go.RowKit Go.V Go.V.L2 Go.V.L4 Go.V.Bd Go.V.L8
theorem _root_.Go.V.Zgk {A B:Prop} (h:B) (t:Wr B → A:=by intro h; refine z7 (yh L (vs:=[_, _, _, _, _, _, _]) rfl rfl rfl rfl rfl ⟨_, rfl⟩) rfl ?_;exact h.h):A:=t ⟨h⟩
theorem _root_.Go.V.ZeH {A B:Prop} (h:B) (t:Wr B → A:=by intro h; refine z7 (zz L (vs:=[_, _, _, _, _, _, _]) (qp rfl) rfl rfl rfl rfl ⟨_, rfl⟩) rfl ?_;exact h.h):A:=t ⟨h⟩
theorem _root_.Go.V.Zf8 {A B:Prop} (h:B) (t:Wr B → A:=by intro h; refine z8 (zz L (vs:=[_, _, _, _, _, _, _]) (qp rfl) rfl rfl rfl rfl ⟨_, rfl⟩) rfl ?_;exact h.h):A:=t ⟨h⟩
theorem _root_.Go.V.ZcN {A B:Prop} (h:B) (t:Wr B → A:=by intro h; refine Zbu ?_;refine Zgk ?_;exact h.h):A:=t ⟨h⟩
abbrev cvC (t:CH):Value:=.agg #[.string t.1.1.1.1, .string t.1.1.1.2, .string t.1.1.2, .string t.1.2.1.1, .string t.1.2.1.2, .string t.1.2.2, .bool t.2]
def zoo (t:CH):ByteArray:=if t.2 = true then ⟨#[45]⟩ else ⟨#[43]⟩
theorem zg1 (t:CH):(zoo t).size = 1:=by unfold zoo; split <;> rfl
def zfi (t:CH):ByteArray:=(zoo t ++ tT t.1) ++ ⟨#[10]⟩
def zd6 (l:List CH):List Nat:=l.flatMap fun t => ze0 (zfi t)
def znx:List CH → Int
 | [] => 0
 | t :: l => if tE t.1 ≠ 0 then tE t.1 else znx l
theorem zuk {l:List CH} {i:Nat} {t:CH} (hi:l[i]? = some t):znx (l.drop i) = if tE t.1 ≠ 0 then tE t.1 else znx (l.drop (i + 1)):=by
 rw [List.drop_eq_getElem_cons (get_lt hi), zil hi]
 rfl
theorem zhv {l:List CH} {i:Nat} {t:CH} (hi:l[i]? = some t):zd6 (l.take (i + 1)) = zd6 (l.take i) ++ ze0 (zfi t):=by
 unfold zd6
 rw [zoc hi, List.flatMap_append, List.flatMap_cons, List.flatMap_nil, List.append_nil]
theorem zfn {l:List CH} (hs:∀ t ∈ l, (zfi t).size ≤ 1000):∀ i, (zd6 (l.take i)).length ≤ i * 1000
 | 0 => by rw [List.take_zero]; exact Nat.le_refl _
 | i + 1 => by
  cases h:l[i]? with
  | none =>
   have:=List.getElem?_eq_none_iff.1 h
   rw [List.take_of_length_le (by omega)]
   have h2:=zfn hs i
   rw [List.take_of_length_le (by omega)] at h2
   omega
  | some t =>
   rw [zhv h, List.length_append, zf0]
   have h2:=zfn hs i
   have:=hs t (List.mem_of_getElem? h)
   omega
theorem zxv (l:List CH):∀ b ∈ zd6 l, b ≤ 255:=fun b hb => by
 obtain ⟨t, _, h⟩:=List.mem_flatMap.1 hb
 exact zsj _ b h
attribute [local irreducible] V N X VO Par StepOK Has Ret RetL RetO RetT zbd RetX RetY Src
theorem zp7 {t:CH} {w:World} {B:Heap} (hB:B.Le (hp w)):Ret Tryz.prog 56 [cvC t] w B (fun v _ => v = uv t.1):=by
 refine qw Tryz.func56 rfl Tryz.ntmps56 (Nat.le_of_ble_eq_true rfl) hB ?_
 refine ZK ?_;refine ZaV ?_;refine Z6 ?_;refine ZcM ?_;refine ZaG ?_
 refine qv L (rs:=[.cell 2 34]) rfl (fun _ _ h => h) Since.refl fun u H hH hle => ?_
 exact ⟨_, qp rfl, rfl, rfl⟩
theorem z03 {t:CH} {w:World} {B:Heap} (hB:B.Le (hp w)):Ret Tryz.prog 57 [cvC t] w B (fun v _ => v = .string (zoo t)):=by
 obtain ⟨t, d⟩:=t
 refine qw Tryz.func57 rfl Tryz.ntmps57 (Nat.le_of_ble_eq_true rfl) hB ?_
 dsimp only [cvC]
 refine ZK ?_;refine Zi ?_
 cases d with
 | true =>
  refine Z6 ?_;refine ZW ?_;refine Zck ?_
  refine qv L (rs:=[.tmp 2]) rfl (fun _ _ h => h) Since.refl fun u H hH hle => ?_
  rfl
 | false =>
  refine Z6 ?_;refine ZW ?_;refine Zq ?_;refine Zx ?_;refine Zc ?_
  refine qv L (rs:=[.tmp 2]) rfl (fun _ _ h => h) Since.refl fun u H hH hle => ?_
  rfl
theorem zlz (t:CH):(zfi t).size = (tT t.1).size + 2:=by
 unfold zfi
 rw [ByteArray.size_append, ByteArray.size_append]
 have h1:=zg1 t
 have h2:(⟨#[10]⟩:ByteArray).size = 1:=rfl
 omega
theorem zxu {l:List CH} (h:l ≠ []):zd6 l ≠ []:=fun e => by
 cases l with
 | nil => exact h rfl
 | cons t l =>
  unfold zd6 at e
  rw [List.flatMap_cons] at e
  have h1:=(List.append_eq_nil_iff.1 e).1
  have h2:=zf0 (zfi t)
  rw [h1, zlz] at h2
  cases h2
set_option maxRecDepth 20000 in
set_option maxHeartbeats 1000000 in
theorem zum {l:List CH} {fu:Bool} (hln:l.length ≤ 4096) (hz:∀ t ∈ l, TZ t.1) (hs:∀ t ∈ l, (zfi t).size ≤ 1000) {v:Value} {w:World} {B:Heap} (hB:B.Le (hp w)) (hv:KS tyC l fu v B) :
  Ret Tryz.prog 55 [v, .func (.func 56) #[] #[], .func (.func 57) #[] #[]] w B (fun r _ => r = .tuple #[.string (if znx l ≠ 0 then ⟨#[]⟩ else zcr (zd6 l)), .int .i64 (znx l)]):=by
 refine qw Tryz.func55 rfl Tryz.ntmps55 (Nat.le_of_ble_eq_true rfl) hB ?_
 refine zbf 0 (KS tyC l fu) rfl SlV.mono hv ?_
 refine Zdc ?_;refine Zb2 ?_;refine Zx ?_;refine Zcx ?_
 refine za3 8 900 rfl fun bb => ?_
 by_cases hl0:l = []
 ·subst hl0
  refine Zv ?_;refine ZbT ?_
  refine zam (fun _:Nat => [(8, .is (za0 bb)), (16, .is (.int .i64 0)), (17, .is (.int .i64 0)), (900, .own (zaj bb [.pointer none, .slice none 0 0] zjn))]) (fun _ => True) (fun i => i) 0 trivial ⟨rfl, rfl, rfl, rfl, trivial⟩ ?_
  rintro _ _
  refine Zbo ?_;refine ZaC ?_;refine Z4 ?_;refine qg (yd L 900 (zab bb [.pointer none, .slice none 0 0] zjn) (.string .empty) (r:=zab bb [.pointer none, .slice none 0 0] zjn) rfl rfl rfl rfl rfl (fun u H C hH _ hr hC => zjt hH hr hC)) ?_;refine Zt ?_
  refine qv L (rs:=[.tmp 6, .tmp 7]) rfl (fun _ _ h => h) Since.refl fun u H hH hle => ?_
  rfl
 ·refine zh8 901 zt7 1 ?_
  refine Zfo ?_
  refine zme (X:=Value × Value) 900 (r:=fun x => (GBv bb [] x).res) (φ:=fun x _ => z2u bb x) (ze1 bb) (.pointer none, .slice none 0 0) ⟨.inl rfl, _, _, _, rfl⟩ rfl ?_
  refine Zv ?_;refine ZbT ?_
  refine zam (fun i:Nat => [(1, .is (.func (.func 56) #[] #[])), (2, .is (.func (.func 57) #[] #[])), (8, .is (za0 bb)), (15, .sat (KS tyC l fu)), (16, .is (.int .i64 l.length)), (17, .is (.int .i64 i)), (900, .own (GBd bb (zd6 (l.take i))).res)]) (fun i => i ≤ l.length ∧ znx (l.drop i) = znx l) (fun i => l.length - i) 0 ⟨Nat.zero_le _, rfl⟩ ⟨rfl, rfl, rfl, rfl, rfl, rfl, rfl, trivial⟩ ?_
  rintro i ⟨hi, hte⟩
  dsimp only at hi hte ⊢
  by_cases hlt:i < l.length
  ·obtain ⟨t, ht⟩:=zap hlt
   have hcr:=zit ht
   have hzt:=hz t (List.mem_of_getElem? ht)
   have hst:=hs t (List.mem_of_getElem? ht)
   have hsl:=zlz t
   rw [zuk ht] at hte
   have hsn:=zhv ht
   have hbl:=zfn hs i
   have hwk:IntKind.i64.wrap ((i:Int) + 1) = ((i + 1:Nat):Int):=zaa (by omega) (by omega)
   by_cases he:tE t.1 = 0
   ·rw [if_neg (fun h => h he)] at hte
    have hs1:(zoo t).size + (tT t.1).size ≤ 9223372036854775807:=by have h1:=zg1 t; omega
    have hs2:(zoo t ++ tT t.1).size + (⟨#[10]⟩:ByteArray).size ≤ 9223372036854775807:=by rw [ByteArray.size_append]; have h1:=zg1 t; have h2:(⟨#[10]⟩:ByteArray).size = 1:=rfl; omega
    refine Zbo ?_;refine ZV ?_;refine ZQ ?_;refine ZcN ?_;refine Ze8 ?_;refine ZO ?_;refine ZeH ?_;refine z7 (zq L rfl rfl (zn rfl) rfl rfl rfl (fun u H hH _ _ => zp7 hH)) rfl ?_;refine z7 (zq L rfl rfl (zn rfl) rfl rfl rfl (fun u H hH _ _ => zcb hzt hH)) rfl ?_;refine Zd ?_;refine ZZ ?_;refine ZA ?_;refine Zdb ?_
    refine q6 (id:=10) [(37, [900])] mixed (by kernel_rfl) ?_;refine Zg ?_;refine Zf8 ?_;refine z8 (zq L rfl rfl (zn rfl) rfl rfl rfl (fun u H hH _ _ => z03 hH)) rfl ?_;refine Zg ?_;refine Zf8 ?_;refine z8 (zq L rfl rfl (zn rfl) rfl rfl rfl (fun u H hH _ _ => zp7 hH)) rfl ?_;refine z8 (zq L rfl rfl (zn rfl) rfl rfl rfl (fun u H hH _ _ => zn6 hzt hH)) rfl ?_;refine Zcp ?_;refine Zcp ?_;refine za6 (yd L 900 (GBd bb (zd6 (l.take (i + 1)))) (.tuple #[.int .i64 (zfi t).size, .nilIface]) (r:=GBd bb (zd6 (l.take i))) rfl rfl rfl rfl rfl (fun u H C hH _ hr hC => by rw [hsn]; exact write_ret (str:=zfi t) (by omega) hH hr hC)) rfl rfl ?_;refine Zcb ?_;refine ZF ?_;refine Zz ?_;refine Zdr ?_
    exact y9 (x:=i) (i + 1) ⟨hlt, hte⟩ (by omega) ⟨rfl, rfl, rfl, rfl, rfl, rfl, rfl, trivial⟩
   ·rw [if_pos he] at hte
    refine Zbo ?_;refine ZV ?_;refine ZQ ?_;refine ZcN ?_;refine Ze8 ?_;refine ZO ?_;refine ZeH ?_;refine z7 (zq L rfl rfl (zn rfl) rfl rfl rfl (fun u H hH _ _ => zp7 hH)) rfl ?_;refine z7 (zq L rfl rfl (zn rfl) rfl rfl rfl (fun u H hH _ _ => zcb hzt hH)) rfl ?_;refine Zd ?_;refine ZZ ?_;refine ZH ?_;refine Za0 ?_;refine Zt ?_
    refine qv L (rs:=[.tmp 6, .tmp 7]) rfl (fun _ _ h => h) Since.refl fun u H hH hle => ?_
    rw [← hte, if_pos he]
    rfl
  ·obtain rfl:i = l.length:=by omega
   rw [List.drop_length] at hte
   rw [List.take_length]
   have hbl:=zfn hs l.length
   rw [List.take_length] at hbl
   refine Zbo ?_;refine ZaC ?_;refine Z4 ?_;refine qg (yd L 900 GNo (.string (zcr (zd6 l))) (r:=GBd bb (zd6 l)) rfl rfl rfl rfl rfl (fun u H C hH _ hr hC => zli (zxv l) (zxu hl0) (by omega) hH hr hC)) ?_;refine Zt ?_
   refine qv L (rs:=[.tmp 6, .tmp 7]) rfl (fun _ _ h => h) Since.refl fun u H hH hle => ?_
   rw [← hte]
   rfl
def zfm (l:List CH):ByteArray × Int:=if 4096 < l.length then (⟨#[]⟩, 3) else (if znx l ≠ 0 then ⟨#[]⟩ else zcr (zd6 l), znx l)
theorem zn9 {l:List CH} {fu:Bool} {f g:Value} (hln:4096 < l.length) {v:Value} {w:World} {B:Heap} (hB:B.Le (hp w)) (hv:KS tyC l fu v B) :
  Ret Tryz.prog 55 [v, f, g] w B (fun r _ => r = .tuple #[.string ⟨#[]⟩, .int .i64 3]):=by
 refine qw Tryz.func55 rfl Tryz.ntmps55 (Nat.le_of_ble_eq_true rfl) hB ?_
 refine zbf 0 (KS tyC l fu) rfl SlV.mono hv ?_
 refine Zdc ?_;refine ZP ?_;refine ZbM ?_;refine Zt ?_
 refine qv L (rs:=[.tmp 6, .tmp 7]) rfl (fun _ _ h => h) Since.refl fun u H hH hle => ?_
 rfl
theorem zsx {l:List CH} {fu:Bool} (hz:∀ t ∈ l, TZ t.1) (hs:∀ t ∈ l, (zfi t).size ≤ 1000) {v:Value} {w:World} {B:Heap} (hB:B.Le (hp w)) (hv:KS tyC l fu v B) :
  Ret Tryz.prog 13 [v] w B (fun r _ => r = .tuple #[.string (zfm l).1, .int .i64 (zfm l).2]):=by
 unfold zfm
 refine qw Tryz.func13 rfl Tryz.ntmps13 (Nat.le_of_ble_eq_true rfl) hB ?_
 refine zbf 0 (KS tyC l fu) rfl SlV.mono hv ?_
 by_cases hln:4096 < l.length
 ·rw [if_pos hln]
  refine Zau ?_;refine Zap ?_;refine Zh ?_;refine z7 (zq L rfl rfl (zn rfl) rfl rfl rfl (fun u H hH hle _ v1 h1 => zn9 hln hH h1)) rfl ?_;refine ZdR ?_;refine Zt ?_
  refine qv L (rs:=[.tmp 2, .tmp 3]) rfl (fun _ _ h => h) Since.refl fun u H hH hle => ?_
  rfl
 ·rw [if_neg hln]
  refine Zau ?_;refine Zap ?_;refine Zh ?_;refine z7 (zq L rfl rfl (zn rfl) rfl rfl rfl (fun u H hH hle _ v1 h1 => zum (by omega) hz hs hH h1)) rfl ?_;refine ZdR ?_;refine Zt ?_
  refine qv L (rs:=[.tmp 2, .tmp 3]) rfl (fun _ _ h => h) Since.refl fun u H hH hle => ?_
  rfl
end Go.V.L11
set_option maxRecDepth 20000
namespace Go.V
open Go.Proofs Go.RowKit
section
variable {α β:Type} [DecidableEq α] [DecidableEq β] {k:α → β} {c:β → β → Int}
def Eqv (k:α → β) (S S':List α):Prop:=∀ t, S'.filter (fun x => decide (k x = t)) = S.filter (fun x => decide (k x = t))
def Srt (k:α → β) (c:β → β → Int) (l:List α):Prop:=l.Pairwise fun x y => ¬ c (k y) (k x) < 0
def Stb (k:α → β) (c:β → β → Int) (S S':List α):Prop:=Srt k c S' ∧ Eqv k S S'
omit [DecidableEq α] in
theorem Eqv.refl (S:List α):Eqv k S S:=fun _ => rfl
omit [DecidableEq α] in
theorem Eqv.trans {A B C:List α} (h1:Eqv k A B) (h2:Eqv k B C):Eqv k A C:=fun t => (h2 t).trans (h1 t)
omit [DecidableEq α] in
theorem Eqv.app {A A' B B':List α} (h1:Eqv k A A') (h2:Eqv k B B'):Eqv k (A ++ B) (A' ++ B'):=fun t => by rw [List.filter_append, List.filter_append, h1 t, h2 t]
omit [DecidableEq α] in
theorem Eqv.swap {A B:List α} (h:∀ a ∈ A, ∀ b ∈ B, k a ≠ k b):Eqv k (A ++ B) (B ++ A):=fun t => by
 rw [List.filter_append, List.filter_append]
 by_cases ha:∃ a ∈ A, k a = t
 ·obtain ⟨a, ha, rfl⟩:=ha
  have:B.filter (fun x => decide (k x = k a)) = []:=List.filter_eq_nil_iff.2 fun b hb e => h a ha b hb (by simpa using e:k b = k a).symm
  rw [this, List.append_nil, List.nil_append]
 ·have:A.filter (fun x => decide (k x = t)) = []:=List.filter_eq_nil_iff.2 fun a h1 e => ha ⟨a, h1, by simpa using e⟩
  rw [this, List.append_nil, List.nil_append]
theorem Eqv.count {S S':List α} (h:Eqv k S S') (x:α):S'.count x = S.count x:=by
 have e:∀ l:List α, (l.filter fun y => decide (k y = k x)).count x = l.count x:=fun l => List.count_filter (by simp)
 rw [← e S', ← e S, h (k x)]
theorem Eqv.perm {S S':List α} (h:Eqv k S S'):S'.Perm S:=List.perm_iff_count.2 fun x => h.count x
theorem Eqv.length {S S':List α} (h:Eqv k S S'):S'.length = S.length:=h.perm.length_eq
theorem Eqv.mem {S S':List α} (h:Eqv k S S') {x:α}:x ∈ S' ↔ x ∈ S:=h.perm.mem_iff
omit [DecidableEq α] [DecidableEq β] in
theorem zdt {A B:List α}:Srt k c (A ++ B) ↔ Srt k c A ∧ Srt k c B ∧ ∀ a ∈ A, ∀ b ∈ B, ¬ c (k b) (k a) < 0:=List.pairwise_append
omit [DecidableEq α] [DecidableEq β] in
theorem zwd (ho:Ord3 c) {a b:β} (h:c a b < 0):b ≠ a:=fun e => by subst e; exact ho.irr _ h
omit [DecidableEq α] in
theorem zqe (ho:Ord3 c) {A B:List α} {x:α} (hs:Srt k c (A ++ B)) (ha:∀ a ∈ A, ¬ c (k x) (k a) < 0) (hb:∀ b ∈ B, c (k x) (k b) < 0):Stb k c (A ++ B ++ [x]) (A ++ x :: B):=by
 obtain ⟨s1, s2, s3⟩:=zdt.1 hs
 refine ⟨zdt.2 ⟨s1, List.pairwise_cons.2 ⟨fun b h => ho.asym (hb b h), s2⟩, fun a h b hm => ?_⟩, ?_⟩
 ·rcases List.mem_cons.1 hm with rfl | hm
  ·exact ha a h
  ·exact s3 a h b hm
 ·rw [List.append_assoc]
  exact (Eqv.refl A).app (Eqv.swap (A:=B) (B:=[x]) fun b h y hy => by
   simp at hy; subst hy
   exact zwd ho (hb b h))
omit [DecidableEq α] in
theorem z00 (ho:Ord3 c) {A B:List α} {x:α} (hs:Srt k c (A ++ B)) (ha:∀ a ∈ A, c (k a) (k x) < 0) (hb:∀ b ∈ B, ¬ c (k b) (k x) < 0):Stb k c (x :: (A ++ B)) (A ++ x :: B):=by
 obtain ⟨s1, s2, s3⟩:=zdt.1 hs
 refine ⟨zdt.2 ⟨s1, List.pairwise_cons.2 ⟨hb, s2⟩, fun a h b hm => ?_⟩, ?_⟩
 ·rcases List.mem_cons.1 hm with rfl | hm
  ·exact ho.asym (ha a h)
  ·exact s3 a h b hm
 ·have e:A ++ x :: B = A ++ [x] ++ B:=by simp
  have e2:x :: (A ++ B) = [x] ++ A ++ B:=by simp
  rw [e, e2]
  exact (Eqv.swap (A:=[x]) (B:=A) fun y hy a h => by
   simp at hy; subst hy
   exact zwd ho (ha a h)).app (Eqv.refl B)
theorem zx6 (ho:Ord3 c) {A1 A2 B1 B2 S1 S2:List α} (hA:Srt k c (A1 ++ A2)) (hB:Srt k c (B1 ++ B2)) (h12:∀ a ∈ A2, ∀ b ∈ B1, c (k b) (k a) < 0) (h21:∀ a ∈ A1, ∀ b ∈ B2, ¬ c (k b) (k a) < 0)
  (h1:Stb k c (A1 ++ B1) S1) (h2:Stb k c (A2 ++ B2) S2):Stb k c (A1 ++ A2 ++ (B1 ++ B2)) (S1 ++ S2):=by
 obtain ⟨a1, a2, a3⟩:=zdt.1 hA
 obtain ⟨b1, b2, b3⟩:=zdt.1 hB
 refine ⟨zdt.2 ⟨h1.1, h2.1, fun x hx y hy => ?_⟩, ?_⟩
 ·rcases List.mem_append.1 (h1.2.mem.1 hx) with hx | hx <;> rcases List.mem_append.1 (h2.2.mem.1 hy) with hy | hy
  ·exact a3 x hx y hy
  ·exact h21 x hx y hy
  ·exact ho.asym (h12 y hy x hx)
  ·exact b3 x hx y hy
 ·refine Eqv.trans ?_ (h1.2.app h2.2)
  have e1:A1 ++ A2 ++ (B1 ++ B2) = A1 ++ (A2 ++ B1) ++ B2:=by simp
  have e2:A1 ++ B1 ++ (A2 ++ B2) = A1 ++ (B1 ++ A2) ++ B2:=by simp
  rw [e1, e2]
  exact ((Eqv.refl A1).app (Eqv.swap fun a ha b hb => zwd ho (h12 a ha b hb))).app (Eqv.refl B2)
omit [DecidableEq α] [DecidableEq β] in
theorem zfg (ho:Ord3 c) {l:List α} (h:Srt k c l) {i j:Nat} {x y:α} (hi:l[i]? = some x) (hj:l[j]? = some y) (hij:i ≤ j):¬ c (k y) (k x) < 0:=by
 rcases Nat.lt_or_ge i j with h1 | h1
 ·obtain ⟨hi', rfl⟩:=List.getElem?_eq_some_iff.1 hi
  obtain ⟨hj', rfl⟩:=List.getElem?_eq_some_iff.1 hj
  exact List.pairwise_iff_getElem.1 h i j hi' hj' h1
 ·have:i = j:=by omega
  subst this
  rw [hi] at hj; cases hj
  exact ho.irr _
end
end Go.V
set_option maxRecDepth 20000
namespace Go.V.L8
open Go.Proofs Go.RowKit Go.V Go.V.L2 Go.V.L3 Go.V.L6
abbrev zC:CH:=((n3, n3), false)
def zwm (l:List CH) (t:U) (z:CH):CH:=l.foldl (fun a c => if c.1 = t then c else a) z
def zgv (l:List CH) (t:U):Option CH:=(l.filter fun c => decide (c.1 = t)).getLast?
theorem zeu (c:CH) (l:List CH) (t:U):zgv (c :: l) t = (zgv l t).or (if c.1 = t then some c else none):=by
 unfold zgv
 by_cases h:c.1 = t
 ·rw [if_pos h, List.filter_cons_of_pos (by simpa using h), List.getLast?_cons]
  cases (l.filter fun c => decide (c.1 = t)).getLast? <;> rfl
 ·rw [if_neg h, List.filter_cons_of_neg (by simpa using h)]
  cases (l.filter fun c => decide (c.1 = t)).getLast? <;> rfl
theorem zfv {l:List CH} {t:U} {c:CH} (h:zgv l t = some c):c.1 = t ∧ c ∈ l:=by
 have:=List.mem_of_getLast? h
 rw [List.mem_filter] at this
 exact ⟨by simpa using this.2, this.1⟩
theorem zl2 {l:List CH} {t:U}:zgv l t = none ↔ ∀ c ∈ l, c.1 ≠ t:=by
 unfold zgv
 rw [List.getLast?_eq_none_iff, List.filter_eq_nil_iff]
 simp
theorem zr7 (l:List CH) (t:U) (z:CH):zwm l t z = (zgv l t).getD z:=by
 induction l generalizing z with
 | nil => rfl
 | cons c r ih =>
  have:zwm (c :: r) t z = zwm r t (if c.1 = t then c else z):=rfl
  rw [this, ih, zeu]
  cases zgv r t with
  | some d => rfl
  | none => by_cases h:c.1 = t <;> simp [h]
theorem zpf {l:List CH} {t:U} {z:CH} (h:∃ c ∈ l, c.1 = t):zgv l t = some (zwm l t z):=by
 rw [zr7]
 cases hk:zgv l t with
 | some d => rfl
 | none => obtain ⟨c, hc, he⟩:=h; exact absurd he (zl2.1 hk c hc)
def zki (l:List CH):List CH:=(zs6 (l.map (·.1))).map fun t => zwm l t zC
theorem zjx {l:List U} {t:U}:t ∈ zs6 l ↔ t ∈ l:=by unfold zs6; rw [zkn]; simp
theorem zu0 (l:List U):Sst zbs (zs6 l):=zju cmpT_ord Sst.nil
theorem zv1 {l:List CH} {c:CH}:c ∈ zki l ↔ zgv l c.1 = some c:=by
 unfold zki
 rw [List.mem_map]
 constructor
 ·rintro ⟨t, ht, rfl⟩
  rw [zjx, List.mem_map] at ht
  have:=zpf (z:=zC) ht
  rw [(zfv this).1]
  exact this
 ·intro h
  have hm:=zfv h
  exact ⟨c.1, zjx.2 (List.mem_map.2 ⟨c, hm.2, rfl⟩), by rw [zr7, h]; rfl⟩
theorem ztk (l:List CH):(zki l).map (·.1) = zs6 (l.map (·.1)):=by
 unfold zki
 rw [List.map_map]
 conv => rhs; rw [← List.map_id (zs6 (l.map (·.1)))]
 refine List.map_congr_left fun t ht => ?_
 rw [zjx, List.mem_map] at ht
 exact (zfv (zpf (z:=zC) ht)).1
def zz1 (l:List CH):Prop:=Sst zbs (l.map (·.1))
theorem zv0 (l:List CH):zz1 (zki l):=by unfold zz1; rw [ztk]; exact zu0 _
theorem zyr {l:List CH} (h:zz1 l):l.Pairwise fun a b => a.1 ≠ b.1:=by
 unfold zz1 Sst at h
 rw [List.pairwise_map] at h
 exact h.imp fun h1 => cmpT_ord.ne h1
theorem z1t {l m:List CH} (hl:zz1 l) (hm:zz1 m) (h:∀ c, c ∈ l ↔ c ∈ m):l = m:=by
 have hk:l.map (·.1) = m.map (·.1):=zqf cmpT_ord hl hm fun t => by
  rw [List.mem_map, List.mem_map]
  exact ⟨fun ⟨c, hc, e⟩ => ⟨c, (h c).1 hc, e⟩, fun ⟨c, hc, e⟩ => ⟨c, (h c).2 hc, e⟩⟩
 have uni:∀ {l:List CH}, zz1 l → ∀ a ∈ l, ∀ b ∈ l, a.1 = b.1 → a = b:=fun {l} hn a ha b hb e => by
  by_cases hab:a = b
  ·exact hab
  ·exfalso
   obtain ⟨i, hi⟩:=List.getElem?_of_mem ha
   obtain ⟨j, hj⟩:=List.getElem?_of_mem hb
   obtain ⟨hi', rfl⟩:=List.getElem?_eq_some_iff.1 hi
   obtain ⟨hj', rfl⟩:=List.getElem?_eq_some_iff.1 hj
   have hp:=List.pairwise_iff_getElem.1 (zyr hn)
   rcases Nat.lt_trichotomy i j with h | h | h
   ·exact hp i j hi' hj' h e
   ·subst h; exact hab rfl
   ·exact hp j i hj' hi' h e.symm
 have hlen:l.length = m.length:=by rw [← List.length_map (f:=(·.1)), hk, List.length_map]
 refine List.ext_getElem hlen fun i h1 h2 => ?_
 have e:l[i].1 = m[i].1:=by
  have:=congrArg (·[i]?) hk
  simp only [List.getElem?_map, List.getElem?_eq_getElem h1, List.getElem?_eq_getElem h2, Option.map_some, Option.some.injEq] at this
  exact this
 exact uni hm _ ((h _).1 (List.getElem_mem h1)) _ (List.getElem_mem h2) e
def zfa:List CH → List CH
 | [] => []
 | [c] => [c]
 | c :: d :: r => if zbs c.1 d.1 = 0 then zfa (d :: r) else c :: zfa (d :: r)
theorem ztq {l:List CH} {i:Nat} {c:CH} (h:l[i]? = some c):zfa (l.drop i) = (match l[i + 1]? with | none => [c] | some d => if zbs c.1 d.1 = 0 then [] else [c]) ++ zfa (l.drop (i + 1)):=by
 have h1:l.drop i = c :: l.drop (i + 1):=zii h
 rw [h1]
 cases h2:l[i + 1]? with
 | none =>
  have:l.drop (i + 1) = []:=List.drop_eq_nil_of_le (by simpa using h2)
  rw [this]; rfl
 | some d =>
  have h3:l.drop (i + 1) = d :: l.drop (i + 1 + 1):=zii h2
  rw [h3]
  show (if zbs c.1 d.1 = 0 then _ else _) = (if zbs c.1 d.1 = 0 then _ else _) ++ _
  split <;> rfl
theorem zl3:∀ {S:List CH}, Srt (·.1) zbs S → (∀ c ∈ zfa S, zgv S c.1 = some c) ∧ (∀ x ∈ S, ∃ c ∈ zfa S, c.1 = x.1) ∧ zz1 (zfa S)
 | [], _ => ⟨fun c hc => (by cases hc), fun c hc => (by cases hc), Sst.nil⟩
 | [c], _ => by
  have e:zfa [c] = [c]:=rfl
  rw [e]
  refine ⟨fun d hd => ?_, fun x hx => ⟨x, hx, rfl⟩, List.pairwise_singleton _ _⟩
  rw [List.mem_singleton] at hd; subst hd
  rw [zeu, if_pos rfl]; rfl
 | c :: d :: r, h => by
  obtain ⟨h1, h2⟩:=List.pairwise_cons.1 h
  obtain ⟨g1, g2, g3⟩:=zl3 (S:=d :: r) h2
  have e:zfa (c :: d :: r) = if zbs c.1 d.1 = 0 then zfa (d :: r) else c :: zfa (d :: r):=rfl
  by_cases h0:zbs c.1 d.1 = 0
  ·rw [e, if_pos h0]
   have hcd:=cmpT_ord.eq _ _ h0
   refine ⟨fun x hx => by rw [zeu, g1 x hx]; rfl, fun x hx => ?_, g3⟩
   rcases List.mem_cons.1 hx with rfl | hx
   ·obtain ⟨y, hy, e⟩:=g2 d (List.mem_cons_self ..)
    exact ⟨y, hy, e.trans hcd.symm⟩
   ·exact g2 x hx
  ·rw [e, if_neg h0]
   have hlt:∀ y ∈ d :: r, zbs c.1 y.1 < 0:=fun y hy => by
    have hcd:zbs c.1 d.1 < 0:=by
     have h3:=h1 d (List.mem_cons_self ..)
     have:=cmpT_ord.anti c.1 d.1
     dsimp only at h3
     omega
    rcases List.mem_cons.1 hy with rfl | hy
    ·exact hcd
    ·have h3:=(List.pairwise_cons.1 h2).1 y hy
     dsimp only at h3
     by_cases h5:zbs d.1 y.1 < 0
     ·exact cmpT_ord.tr hcd h5
     ·have h6:zbs d.1 y.1 = 0:=by have:=cmpT_ord.anti d.1 y.1; omega
      rw [← cmpT_ord.eq _ _ h6]; exact hcd
   refine ⟨fun x hx => ?_, fun x hx => ?_, ?_⟩
   ·rcases List.mem_cons.1 hx with rfl | hx
    ·rw [zeu, if_pos rfl, zl2.2 fun y hy e => cmpT_ord.irr x.1 (by rw [← e] ; exact absurd (hlt y hy) (by rw [e]; exact cmpT_ord.irr _))]; rfl
    ·rw [zeu, g1 x hx]; rfl
   ·rcases List.mem_cons.1 hx with rfl | hx
    ·exact ⟨x, List.mem_cons_self .., rfl⟩
    ·obtain ⟨y, hy, e⟩:=g2 x hx
     exact ⟨y, List.mem_cons_of_mem _ hy, e⟩
   ·unfold zz1
    rw [List.map_cons]
    refine List.pairwise_cons.2 ⟨fun t ht => ?_, g3⟩
    obtain ⟨y, hy, rfl⟩:=List.mem_map.1 ht
    exact hlt y (zfv (g1 y hy)).2
theorem zwp {l S:List CH} (h:Stb (·.1) zbs l S):zfa S = zki l:=by
 obtain ⟨g1, g2, g3⟩:=zl3 h.1
 have hK:∀ t, zgv S t = zgv l t:=fun t => by unfold zgv; rw [h.2 t]
 refine z1t g3 (zv0 l) fun c => ?_
 rw [zv1]
 constructor
 ·exact fun hc => by rw [← hK]; exact g1 c hc
 ·intro hc
  rw [← hK] at hc
  obtain ⟨d, hd, e⟩:=g2 c (zfv hc).2
  have:=g1 d hd
  rw [e, hc] at this
  cases this; exact hd
end Go.V.L8
set_option maxRecDepth 20000
namespace Go.V.L11
open Go.Proofs Go.RowKit Go.V Go.V.L2 Go.V.L4 Go.V.L8
theorem _root_.Go.V.Zev {A B:Prop} (h:B) (t:Wr B → A:=by intro h; refine z7 (y5 (cs:=[_, _, _, _, _, _, _]) rfl rfl z6c rfl rfl) rfl ?_;exact h.h):A:=t ⟨h⟩
theorem _root_.Go.V.Zfs {A B:Prop} (h:B) (t:Wr B → A:=by intro h; refine z8 (y5 (cs:=[_, _, _, _, _, _, _]) rfl rfl z6c rfl rfl) rfl ?_;exact h.h):A:=t ⟨h⟩
theorem _root_.Go.V.Zf9 {A B:Prop} (h:B) (t:Wr B → A:=by intro h; refine ZaM ?_;refine z7 (y8 rfl rfl rfl rfl rfl) rfl ?_;exact h.h):A:=t ⟨h⟩
def prB (c:UInt8) (b:ByteArray):CH × Int:=if c = 43 ∨ c = 45 then (if (ptA b).2 ≠ 0 then (zC, (ptA b).2) else (((ptA b).1, decide (c = 45)), 0)) else (zC, 5)
def prC (s:ByteArray):CH × Int:=match s.data.toList with
 | [] => (zC, 5)
 | c :: l => prB c ⟨l.toArray⟩
theorem zmz (c:UInt8) (b:ByteArray):prC (⟨#[c]⟩ ++ b) = prB c b:=by
 unfold prC
 have e:(⟨#[c]⟩ ++ b:ByteArray).data.toList = c :: b.data.toList:=by rw [zas]; rfl
 rw [e]
theorem zx2 (s:ByteArray):s = ⟨#[]⟩ ∨ ∃ c b, s = ⟨#[c]⟩ ++ b:=by
 cases h:s.data.toList with
 | nil => exact .inl (zbr h)
 | cons c l => exact .inr ⟨c, ⟨l.toArray⟩, zbr (by rw [zas, h]; rfl)⟩
attribute [local irreducible] V N X VO Par StepOK Has Ret RetL RetO RetT zbd RetX RetY Src
set_option maxHeartbeats 1000000 in
theorem z1b {s:ByteArray} (hs:s.size ≤ 1000000) {w:World} {B:Heap} (hB:B.Le (hp w)) (hM:GlobM B) :
  Ret Tryz.prog 65 [.string s] w B (fun v _ => v = .tuple #[cvC (prC s).1, .int .i64 (prC s).2]):=by
 rcases zx2 s with rfl | ⟨c, b, rfl⟩
 ·refine qw Tryz.func65 rfl Tryz.ntmps65 (Nat.le_of_ble_eq_true rfl) hB ?_
  refine ZcL ?_;refine z7 (zm6 rfl rfl rfl rfl (decide_eq_true rfl)) rfl ?_;refine ZbO ?_;refine Zbs ?_;refine Zbs ?_;refine Zf ?_;refine ZbM ?_;refine Zev ?_;refine ZaJ ?_
  refine qv L (rs:=[.cell 2 42, .tmp 3]) rfl (fun _ _ h => h) Since.refl fun u H hH hle => ?_
  first | exact rfl | exact ⟨_, qp rfl, rfl, rfl⟩
 ·rw [zmz]
  have hsz:(⟨#[c]⟩ ++ b:ByteArray).size = 1 + b.size:=by rw [ByteArray.size_append]; rfl
  have hne:(⟨#[c]⟩ ++ b:ByteArray) ≠ ⟨#[]⟩:=fun e => by rw [e] at hsz; have:(⟨#[]⟩:ByteArray).size = 0:=rfl; omega
  have hc:(⟨#[c]⟩ ++ b:ByteArray)[0]? = some c:=by
   show (⟨#[c]⟩ ++ b:ByteArray).data[0]? = some c
   rw [← Array.getElem?_toList, zas]; rfl
  have x2:(⟨#[c]⟩ ++ b:ByteArray).extract 1 (⟨#[c]⟩ ++ b:ByteArray).size = b:=by
   have:=zfd ⟨#[c]⟩ b ⟨#[]⟩ 1 (⟨#[c]⟩ ++ b:ByteArray).size rfl (by rw [hsz]; rfl)
   rw [show (⟨#[c]⟩ ++ b ++ ⟨#[]⟩:ByteArray) = ⟨#[c]⟩ ++ b from zbr (by simp [zas])] at this
   exact this
  generalize (⟨#[c]⟩ ++ b:ByteArray) = s at hs hsz hne hc x2
  have hb:b.size ≤ 1000000:=by omega
  obtain ⟨t, e, ht⟩:∃ t e, ptA b = (t, e):=⟨_, _, rfl⟩
  have h255:=z0v c
  by_cases h43:c = 43
  ·subst h43
   by_cases h0:e = 0
   ·subst h0
    refine qw Tryz.func65 rfl Tryz.ntmps65 (Nat.le_of_ble_eq_true rfl) hB ?_
    refine ZcL ?_;refine Ze5 ?_;refine Zf9 ?_;refine Zak ?_;refine Za7 ?_;refine Zm ?_;refine z7 (za1 L (kh:=.i64) (ph:=0) 1 _ rfl rfl rfl rfl ⟨rfl, rfl⟩ rfl (by omega) (by omega) x2) rfl ?_;refine z7 (zq L rfl rfl (zn rfl) rfl rfl rfl (fun u H hH hle _ => zem ht hb hH (hM.mono hle))) rfl ?_;refine ZbG ?_;refine Zk ?_;refine Zad ?_;refine Zeq ?_;refine ZeX ?_;refine Zg ?_;refine z8 (zkg L rfl rfl rfl rfl rfl (by assumption)) rfl ?_;refine z8 (yg rfl rfl rfl rfl rfl) rfl ?_;refine Zfs ?_;refine ZcW ?_;refine ZB ?_
    refine qv L (rs:=[.cell 2 42, .tmp 3]) rfl (fun _ _ h => h) Since.refl fun u H hH hle => ?_
    unfold prB
    rw [if_pos (.inl rfl), ht, if_neg (by simp)]
    first | exact rfl | exact ⟨_, qp rfl, rfl, rfl⟩
   ·refine qw Tryz.func65 rfl Tryz.ntmps65 (Nat.le_of_ble_eq_true rfl) hB ?_
    refine ZcL ?_;refine Ze5 ?_;refine Zf9 ?_;refine Zak ?_;refine Za7 ?_;refine Zm ?_;refine z7 (za1 L (kh:=.i64) (ph:=0) 1 _ rfl rfl rfl rfl ⟨rfl, rfl⟩ rfl (by omega) (by omega) x2) rfl ?_;refine z7 (zq L rfl rfl (zn rfl) rfl rfl rfl (fun u H hH hle _ => zem ht hb hH (hM.mono hle))) rfl ?_;refine ZbG ?_;refine Zk ?_;refine ZH ?_;refine Z2 ?_;refine Zev ?_;refine ZbV ?_
    refine qv L (rs:=[.cell 2 42, .tmp 3]) rfl (fun _ _ h => h) Since.refl fun u H hH hle => ?_
    unfold prB
    rw [if_pos (.inl rfl), ht, if_pos (by exact h0)]
    first | exact rfl | exact ⟨_, qp rfl, rfl, rfl⟩
  ·have hx43:(c.toNat:Int) ≠ 43:=fun e => h43 (UInt8.toNat_inj.1 (by show c.toNat = 43; omega))
   by_cases h45:c = 45
   ·subst h45
    by_cases h0:e = 0
    ·subst h0
     refine qw Tryz.func65 rfl Tryz.ntmps65 (Nat.le_of_ble_eq_true rfl) hB ?_
     refine ZcL ?_;refine Ze5 ?_;refine ZaM ?_;refine Zbv ?_;refine Zf9 ?_;refine Zf ?_;refine Za7 ?_;refine Zm ?_;refine z7 (za1 L (kh:=.i64) (ph:=0) 1 _ rfl rfl rfl rfl ⟨rfl, rfl⟩ rfl (by omega) (by omega) x2) rfl ?_;refine z7 (zq L rfl rfl (zn rfl) rfl rfl rfl (fun u H hH hle _ => zem ht hb hH (hM.mono hle))) rfl ?_;refine ZbG ?_;refine Zk ?_;refine Zad ?_;refine Zeq ?_;refine ZeX ?_;refine Zg ?_;refine z8 (zkg L rfl rfl rfl rfl rfl (by assumption)) rfl ?_;refine z8 (yg rfl rfl rfl rfl rfl) rfl ?_;refine Zfs ?_;refine ZcW ?_;refine ZB ?_
     refine qv L (rs:=[.cell 2 42, .tmp 3]) rfl (fun _ _ h => h) Since.refl fun u H hH hle => ?_
     unfold prB
     rw [if_pos (.inr rfl), ht, if_neg (by simp)]
     first | exact rfl | exact ⟨_, qp rfl, rfl, rfl⟩
    ·refine qw Tryz.func65 rfl Tryz.ntmps65 (Nat.le_of_ble_eq_true rfl) hB ?_
     refine ZcL ?_;refine Ze5 ?_;refine ZaM ?_;refine Zbv ?_;refine Zf9 ?_;refine Zf ?_;refine Za7 ?_;refine Zm ?_;refine z7 (za1 L (kh:=.i64) (ph:=0) 1 _ rfl rfl rfl rfl ⟨rfl, rfl⟩ rfl (by omega) (by omega) x2) rfl ?_;refine z7 (zq L rfl rfl (zn rfl) rfl rfl rfl (fun u H hH hle _ => zem ht hb hH (hM.mono hle))) rfl ?_;refine ZbG ?_;refine Zk ?_;refine ZH ?_;refine Z2 ?_;refine Zev ?_;refine ZbV ?_
     refine qv L (rs:=[.cell 2 42, .tmp 3]) rfl (fun _ _ h => h) Since.refl fun u H hH hle => ?_
     unfold prB
     rw [if_pos (.inr rfl), ht, if_pos (by exact h0)]
     first | exact rfl | exact ⟨_, qp rfl, rfl, rfl⟩
   ·have hx45:(c.toNat:Int) ≠ 45:=fun e => h45 (UInt8.toNat_inj.1 (by show c.toNat = 45; omega))
    refine qw Tryz.func65 rfl Tryz.ntmps65 (Nat.le_of_ble_eq_true rfl) hB ?_
    refine ZcL ?_;refine Ze5 ?_;refine ZaM ?_;refine Zbv ?_;refine ZaM ?_;refine Zbv ?_;refine Zf ?_;refine Zf ?_;refine ZbM ?_;refine Zev ?_;refine ZaJ ?_
    refine qv L (rs:=[.cell 2 42, .tmp 3]) rfl (fun _ _ h => h) Since.refl fun u H hH hle => ?_
    unfold prB
    rw [if_neg (fun h => h.elim h43 h45)]
    first | exact rfl | exact ⟨_, qp rfl, rfl, rfl⟩
end Go.V.L11
set_option maxRecDepth 20000
namespace Go.V.L2
open Go.Proofs Go.RowKit Go.V
theorem _root_.Go.V.Zgl {A B:Prop} (h:B) (t:Wr B → A:=by intro h; refine z8 (y6 L 0 rfl rfl rfl rfl rfl rfl rfl (by first | omega | decide) (by assumption)) rfl ?_;exact h.h):A:=t ⟨h⟩
theorem _root_.Go.V.Zgm {A B:Prop} (h:B) (t:Wr B → A:=by intro h; refine z7 (y6 L 0 rfl rfl rfl rfl rfl rfl rfl (by first | omega | decide) (by assumption)) rfl ?_;exact h.h):A:=t ⟨h⟩
theorem _root_.Go.V.Zbe {A B:Prop} (h:B) (t:Wr B → A:=by intro h; refine zh (id:=20) ?_;exact h.h):A:=t ⟨h⟩
theorem _root_.Go.V.ZeI {A B:Prop} (h:B) (t:Wr B → A:=by intro h; refine qg (zb1 L rfl rfl rfl (ziv rfl) rfl z45 rfl rfl (by omega) (by omega)) ?_;exact h.h):A:=t ⟨h⟩
theorem _root_.Go.V.ZaH {A B:Prop} (h:B) (t:Wr B → A:=by intro h; refine zh (id:=21) ?_;exact h.h):A:=t ⟨h⟩
theorem _root_.Go.V.Zbr {A B:Prop} (h:B) (t:Wr B → A:=by intro h; refine zh (id:=19) ?_;exact h.h):A:=t ⟨h⟩
theorem _root_.Go.V.Zb4 {A B:Prop} (h:B) (t:Wr B → A:=by intro h; refine zh (id:=22) ?_;exact h.h):A:=t ⟨h⟩
theorem _root_.Go.V.Zb5 {A B:Prop} (h:B) (t:Wr B → A:=by intro h; refine ZdA ?_;refine Za ?_;exact h.h):A:=t ⟨h⟩
theorem _root_.Go.V.ZbJ {A B:Prop} (h:B) (t:Wr B → A:=by intro h; refine ZR ?_;refine ZcG ?_;exact h.h):A:=t ⟨h⟩
theorem _root_.Go.V.ZcO {A B:Prop} (h:B) (t:Wr B → A:=by intro h; refine Zbe ?_;refine Zb ?_;exact h.h):A:=t ⟨h⟩
theorem _root_.Go.V.Zgn {A B:Prop} (h:B) (t:Wr B → A:=by intro h; refine ZcE ?_;refine Zgl ?_;exact h.h):A:=t ⟨h⟩
theorem _root_.Go.V.ZcP {A B:Prop} (h:B) (t:Wr B → A:=by intro h; refine Zgn ?_;refine Zd9 ?_;exact h.h):A:=t ⟨h⟩
theorem _root_.Go.V.Zdj {A B:Prop} (h:B) (t:Wr B → A:=by intro h; refine Zn ?_;refine ZP ?_;exact h.h):A:=t ⟨h⟩
theorem _root_.Go.V.Zdk {A B:Prop} (h:B) (t:Wr B → A:=by intro h; refine Ze ?_;refine ZQ ?_;exact h.h):A:=t ⟨h⟩
theorem _root_.Go.V.Zge {A B:Prop} (h:B) (t:Wr B → A:=by intro h; refine Zcv ?_;refine Ze8 ?_;exact h.h):A:=t ⟨h⟩
theorem _root_.Go.V.Zdl {A B:Prop} (h:B) (t:Wr B → A:=by intro h; refine Zbn ?_;refine Zaw ?_;exact h.h):A:=t ⟨h⟩
theorem _root_.Go.V.Zgo {A B:Prop} (h:B) (t:Wr B → A:=by intro h; refine ZcA ?_;refine ZL ?_;exact h.h):A:=t ⟨h⟩
theorem _root_.Go.V.Zgp {A B:Prop} (h:B) (t:Wr B → A:=by intro h; refine Zgo ?_;refine Zd ?_;exact h.h):A:=t ⟨h⟩
theorem _root_.Go.V.Zgq {A B:Prop} (h:B) (t:Wr B → A:=by intro h; refine Zgp ?_;refine ZfR ?_;exact h.h):A:=t ⟨h⟩
theorem _root_.Go.V.ZdL {A B:Prop} (h:B) (t:Wr B → A:=by intro h; refine Zgq ?_;refine Zn ?_;exact h.h):A:=t ⟨h⟩
theorem _root_.Go.V.Zgr {A B:Prop} (h:B) (t:Wr B → A:=by intro h; refine ZbK ?_;refine ZbB ?_;exact h.h):A:=t ⟨h⟩
theorem _root_.Go.V.Zgs {A B:Prop} (h:B) (t:Wr B → A:=by intro h; refine Zgr ?_;refine Zge ?_;exact h.h):A:=t ⟨h⟩
theorem _root_.Go.V.ZdM {A B:Prop} (h:B) (t:Wr B → A:=by intro h; refine Zgs ?_;refine Zct ?_;exact h.h):A:=t ⟨h⟩
theorem _root_.Go.V.Zgt {A B:Prop} (h:B) (t:Wr B → A:=by intro h; refine Zh ?_;refine Zgm ?_;exact h.h):A:=t ⟨h⟩
theorem _root_.Go.V.ZdN {A B:Prop} (h:B) (t:Wr B → A:=by intro h; refine Zgt ?_;refine Zcw ?_;exact h.h):A:=t ⟨h⟩
theorem zs2 {φ:Value → Heap → Prop} {a tv:Value} {H:Heap} (h:φ tv H):TupS [φ, fun v _ => v = a] (.tuple #[tv, a]) H :=
 ⟨[tv, a], rfl, rfl, fun i ψ x hi hx => by
  rcases i with _ | _ | i
  ·simp at hi hx; subst hi hx; exact h
  ·simp at hi hx; subst hi hx; rfl
  ·simp at hi⟩
theorem zs1 {φ:Value → Heap → Prop} {a:Value} (h:Kn.mono (.sat φ)):Kn.mono (.sat (TupS [φ, fun v _ => v = a])):=TupS.mono fun ψ hψ => by
 rcases List.mem_cons.1 hψ with rfl | hψ
 ·exact h
 ·rw [List.mem_singleton] at hψ
  subst hψ
  exact fun _ _ _ h _ => h
theorem zc4 {α:Type} {c:α → α → Int} {f:Bool → Bool → Bool}:∀ (n:Nat) (l m:List α), l.length + m.length ≤ n → (zed c f n l m).length ≤ l.length + m.length
 | 0, _, _, _ => by simp [zed]
 | n + 1, [], [], _ => by simp [zed]
 | n + 1, a :: l, [], h => by
  have:=zc4 (c:=c) (f:=f) n l [] (by simp only [List.length_cons, List.length_nil] at h ⊢; omega)
  simp only [zed, List.length_append, List.length_cons, List.length_nil] at this ⊢
  split <;> simp only [List.length_cons, List.length_nil] <;> omega
 | n + 1, [], b :: m, h => by
  have:=zc4 (c:=c) (f:=f) n [] m (by simp only [List.length_cons, List.length_nil] at h ⊢; omega)
  simp only [zed, List.length_append, List.length_cons, List.length_nil] at this ⊢
  split <;> simp only [List.length_cons, List.length_nil] <;> omega
 | n + 1, a :: l, b :: m, h => by
  simp only [List.length_cons] at h
  have h1:=zc4 (c:=c) (f:=f) n l (b :: m) (by simp only [List.length_cons]; omega)
  have h2:=zc4 (c:=c) (f:=f) n (a :: l) m (by simp only [List.length_cons]; omega)
  have h3:=zc4 (c:=c) (f:=f) n l m (by omega)
  simp only [List.length_cons] at h1 h2
  simp only [zed]
  split
  ·rw [List.length_append]; split <;> simp only [List.length_cons, List.length_nil] <;> omega
  ·split
   ·rw [List.length_append]; split <;> simp only [List.length_cons, List.length_nil] <;> omega
   ·rw [List.length_append]; split <;> simp only [List.length_cons, List.length_nil] <;> omega
def z31 (f:Bool → Bool → Bool) (l m:List U):List U × Int :=
 if 4096 < l.length ∨ 4096 < m.length then ([], 3) else if (isB l && isB m) = true then (zed zbs f (l.length + m.length) l m, 0) else ([], 18)
abbrev LE (r:List U × Int):Value → Heap → Prop:=TupS [US r.1 true, fun v _ => v = .int .i64 r.2]
theorem LE.mono {r:List U × Int}:Kn.mono (.sat (LE r)):=zs1 SlV.mono
theorem zmn (a:U) (l:List U):(((a :: l).flatMap ucs).drop (1 * 6)).take (((a :: l).length - 1) * 6) = l.flatMap ucs:=by
 rw [List.flatMap_cons, List.drop_left' (by rfl), List.length_cons, Nat.add_sub_cancel, List.take_of_length_le (Nat.le_of_eq (zkx zml l))]
theorem zjl {κ:Kap} {s:Nat} {out:List U} {t:U} (h:κ s = some (.own (SlR tyU 6 (out.length + 1) (out.flatMap ucs ++ [.string t.1.1.1, .string t.1.1.2, .string t.1.2, .string t.2.1.1, .string t.2.1.2, .string t.2.2])))):κ s = some (.own (SlR tyU 6 (out ++ [t]).length ((out ++ [t]).flatMap ucs))):=by
 rw [h, List.flatMap_append, List.length_append]; simp [ucs]
attribute [local irreducible] V N X VO Par StepOK Has Ret RetL Src
set_option maxHeartbeats 4000000 in
theorem zv6 {f:Bool → Bool → Bool} {tf:Nat} (hfn:L.fn tf = some ()) (hf:∀ (p q:Bool) (u:World) (H:Heap), H.Le (hp u) → Ret Tryz.prog tf [.bool p, .bool q] u H (fun v _ => v = .bool (f p q))) {l m:List U} {fa fb:Bool}
  {r:List U × Int} (hr:z31 f l m = r) {v v2:Value} {w:World} {B:Heap} (hB:B.Le (hp w)) (hv:US l fa v B) (hv2:US m fb v2 B) :
  Ret Tryz.prog 225 [v, v2, .func (.func tf) #[] #[]] w B (LE r):=by
 subst hr
 unfold z31
 refine qw Tryz.func225 rfl Tryz.ntmps225 (Nat.le_of_ble_eq_true rfl) hB ?_
 refine zbf 0 (US l fa) rfl SlV.mono hv ?_
 refine zbf 1 (US m fb) rfl SlV.mono hv2 ?_
 by_cases z1:4096 < l.length
 ·rw [if_pos (.inl z1)]
  refine Zdc ?_;refine ZP ?_;refine Zak ?_;refine ZbM ?_;refine Zt ?_
  refine qv L (rs:=[.tmp 6, .tmp 7]) rfl (fun _ _ h => h) Since.refl fun u H hH hle => ?_
  exact zs2 SlV.nil
 ·by_cases z2:4096 < m.length
  ·rw [if_pos (.inr z2)]
   refine Zdc ?_;refine Z3 ?_;refine Za ?_;refine Zdj ?_;refine Zf ?_;refine ZbM ?_;refine Zt ?_
   refine qv L (rs:=[.tmp 6, .tmp 7]) rfl (fun _ _ h => h) Since.refl fun u H hH hle => ?_
   exact zs2 SlV.nil
  ·rw [if_neg (by omega)]
   cases h1:isB l
   ·rw [if_neg (by simp)]
    refine Zdc ?_;refine Z3 ?_;refine Za ?_;refine Zn ?_;refine Z3 ?_;refine ZbN ?_;refine Zx ?_;refine Zh ?_;refine z7 (zq L rfl rfl (zn rfl) rfl rfl rfl (fun u H hH _ _ v1 hv1 => zjp (by omega) h1 hH hv1)) rfl ?_;refine Zr ?_;refine Zak ?_;refine Zs ?_;refine Zv ?_;refine Zt ?_
    refine qv L (rs:=[.tmp 6, .tmp 7]) rfl (fun _ _ h => h) Since.refl fun u H hH hle => ?_
    exact zs2 SlV.nil
   ·cases h2:isB m
    ·rw [if_neg (by simp)]
     refine Zdc ?_;refine Z3 ?_;refine Za ?_;refine Zn ?_;refine Z3 ?_;refine ZbN ?_;refine Zx ?_;refine Zh ?_;refine z7 (zq L rfl rfl (zn rfl) rfl rfl rfl (fun u H hH _ _ v1 hv1 => zjp (by omega) h1 hH hv1)) rfl ?_;refine Zr ?_;refine Za ?_;refine Zh ?_;refine z7 (zq L rfl rfl (zn rfl) rfl rfl rfl (fun u H hH _ _ v1 hv1 => zjp (by omega) h2 hH hv1)) rfl ?_;refine Zr ?_;refine Zbt ?_;refine Zv ?_;refine Zt ?_
     refine qv L (rs:=[.tmp 6, .tmp 7]) rfl (fun _ _ h => h) Since.refl fun u H hH hle => ?_
     exact zs2 SlV.nil
    ·rw [if_pos (by rfl)]
     refine Zdc ?_;refine Z3 ?_;refine Za ?_;refine Zn ?_;refine Z3 ?_;refine ZbN ?_;refine Zx ?_;refine Zh ?_;refine z7 (zq L rfl rfl (zn rfl) rfl rfl rfl (fun u H hH _ _ v1 hv1 => zjp (by omega) h1 hH hv1)) rfl ?_;refine Zr ?_;refine Za ?_;refine Zh ?_;refine z7 (zq L rfl rfl (zn rfl) rfl rfl rfl (fun u H hH _ _ v1 hv1 => zjp (by omega) h2 hH hv1)) rfl ?_;refine Zr ?_;refine Za7 ?_;refine Z2 ?_;refine Zd ?_;refine qe ?_
     refine zpw 0 (US l false) rfl SlV.mono (fun _ _ h => h.nofu) ?_
     refine zpw 1 (US m false) rfl SlV.mono (fun _ _ h => h.nofu) ?_
     refine zgm 8 tyU 6 rfl ?_
     refine zam (fun s:Nat × List U × List U × List U => [(0, .sat (US s.2.1 false)), (1, .sat (US s.2.2.1 false)), (2, .is (.func (.func tf) #[] #[])), (8, .own (SlR tyU 6 s.2.2.2.length (s.2.2.2.flatMap ucs)))])
      (fun s => s.2.1.length + s.2.2.1.length ≤ s.1 ∧ s.2.2.2 ++ zed zbs f s.1 s.2.1 s.2.2.1 = zed zbs f (l.length + m.length) l m ∧ s.2.2.2.length + s.2.1.length + s.2.2.1.length ≤ 8192) (fun s => s.1) (l.length + m.length, l, m, []) ⟨Nat.le_refl _, rfl, by simp only [List.length_nil]; omega⟩ ⟨rfl, rfl, rfl, rfl, trivial⟩ ?_
     generalize zed zbs f (l.length + m.length) l m = R
     clear h1 h2 z1 z2 hv hv2
     rintro ⟨n, x, y, out⟩ ⟨hn, hR, hz⟩
     dsimp only at hn hR hz ⊢
     rcases x with _ | ⟨a, x⟩
     ·rcases y with _ | ⟨b, y⟩
      ·have hR:out = R:=by rw [← hR]; cases n <;> simp [zed]
       subst hR
       have l0:([]:List U).length = 0:=rfl
       refine Zdk ?_;refine Zn ?_;refine Z3 ?_;refine Za ?_;refine Zn ?_;refine Z3 ?_;refine Zf ?_;refine Zba ?_
       refine zk6 8 rfl ?_
       refine Zb4 ?_;refine Zh ?_;refine Zn ?_;refine Zn ?_;refine Zep ?_;refine Zbn ?_;refine Zc ?_
       refine qv L (rs:=[.tmp 6, .tmp 7]) rfl (fun _ _ h => h) Since.refl fun u H hH hle => ?_
       exact fun v hv => zs2 hv
      ·have l0:([]:List U).length = 0:=rfl
       have lb:(b :: y).length = y.length + 1:=rfl
       have hb:=ziq (l:=b :: y) (i:=0) (t:=b) rfl
       have tb:=zmn b y
       rcases n with _ | n
       ·simp only [List.length_cons, List.length_nil] at hn; omega
       cases hft:f false true
       ·have hR:out ++ zed zbs f n [] y = R:=by rw [← hR]; simp [zed, hft]
        have hfv:∀ (u:World) (H:Heap), H.Le (hp u) → Ret Tryz.prog tf [.bool false, .bool true] u H (fun v _ => v = .bool false):=fun u H h => by have:=hf false true u H h; rwa [hft] at this
        refine Zdk ?_;refine Zn ?_;refine Z3 ?_;refine Za ?_;refine Zdj ?_;refine Zf ?_;refine ZdL ?_;refine Z9 ?_;refine ZeY ?_;refine Zay ?_;refine Z5 ?_;refine ZdM ?_;refine ZP ?_;refine Z8 ?_;refine ZT ?_;refine ZdN ?_;refine Zam ?_;refine Zaw ?_;refine Zb5 ?_;refine Zax ?_;refine Zbr ?_;refine Zh ?_;refine z7 (zbi L (kh:=.i64) (ph:=0) (km:=.i64) (pm:=0) 1 _ false rfl rfl rfl rfl rfl ⟨rfl, rfl⟩ ⟨rfl, rfl⟩ (fun h => by cases h) (by omega) (by omega) (by assumption)) rfl ?_;refine Zdg ?_;refine ZcO ?_;refine Zb8 ?_;refine Za ?_;refine Za3 ?_;refine z7 (zq L rfl rfl (zn rfl) rfl rfl hfn (fun u H hH _ _ => hfv u H hH)) rfl ?_;refine Zab ?_;refine qy ?_
        exact y9 (x:=(n + 1, [], b :: y, out)) (n, [], y, out) ⟨by simp only [List.length_cons, List.length_nil] at hn ⊢; omega, hR, by simp only [List.length_cons, List.length_nil, List.length_append] at hz ⊢; omega⟩ (by dsimp only; omega) ⟨rfl, rfl, rfl, rfl, trivial⟩
       ·have hR:out ++ [b] ++ zed zbs f n [] y = R:=by rw [← hR]; simp [zed, hft]
        have hfv:∀ (u:World) (H:Heap), H.Le (hp u) → Ret Tryz.prog tf [.bool false, .bool true] u H (fun v _ => v = .bool true):=fun u H h => by have:=hf false true u H h; rwa [hft] at this
        refine Zdk ?_;refine Zn ?_;refine Z3 ?_;refine Za ?_;refine Zdj ?_;refine Zf ?_;refine ZdL ?_;refine Z9 ?_;refine ZeY ?_;refine Zay ?_;refine Z5 ?_;refine ZdM ?_;refine ZP ?_;refine Z8 ?_;refine ZT ?_;refine ZdN ?_;refine Zam ?_;refine Zaw ?_;refine Zb5 ?_;refine Zax ?_;refine Zbr ?_;refine Zh ?_;refine z7 (zbi L (kh:=.i64) (ph:=0) (km:=.i64) (pm:=0) 1 _ false rfl rfl rfl rfl rfl ⟨rfl, rfl⟩ ⟨rfl, rfl⟩ (fun h => by cases h) (by omega) (by omega) (by assumption)) rfl ?_;refine Zdg ?_;refine ZcO ?_;refine Zb8 ?_;refine Za ?_;refine Za3 ?_;refine z7 (zq L rfl rfl (zn rfl) rfl rfl hfn (fun u H hH _ _ => hfv u H hH)) rfl ?_;refine Z8 ?_;refine ZaH ?_;refine qg (zaf (.inl rfl) rfl rfl rfl rfl) ?_;refine ZaU ?_;refine Zai ?_;refine ZeI ?_;refine qg (zaf (.inr rfl) rfl rfl rfl rfl) ?_;refine zk ?_;refine qy ?_
        exact y9 (x:=(n + 1, [], b :: y, out)) (n, [], y, out ++ [b]) ⟨by simp only [List.length_cons, List.length_nil] at hn ⊢; omega, hR, by simp only [List.length_cons, List.length_nil, List.length_append] at hz ⊢; omega⟩ (by dsimp only; omega) ⟨rfl, rfl, rfl, zjl rfl, trivial⟩
     ·have la:(a :: x).length = x.length + 1:=rfl
      have ha:=ziq (l:=a :: x) (i:=0) (t:=a) rfl
      have ta:=zmn a x
      rcases y with _ | ⟨b, y⟩
      ·have l0:([]:List U).length = 0:=rfl
       rcases n with _ | n
       ·simp only [List.length_cons, List.length_nil] at hn; omega
       cases hft:f true false
       ·have hR:out ++ zed zbs f n x [] = R:=by rw [← hR]; simp [zed, hft]
        have hfv:∀ (u:World) (H:Heap), H.Le (hp u) → Ret Tryz.prog tf [.bool true, .bool false] u H (fun v _ => v = .bool false):=fun u H h => by have:=hf true false u H h; rwa [hft] at this
        refine Zdk ?_;refine Zdj ?_;refine Zak ?_;refine ZdL ?_;refine ZbJ ?_;refine ZF ?_;refine Zn ?_;refine Z9 ?_;refine ZeY ?_;refine Z4 ?_;refine Z5 ?_;refine ZdM ?_;refine Z3 ?_;refine ZcD ?_;refine ZaS ?_;refine ZdN ?_;refine ZaG ?_;refine Za9 ?_;refine Zh ?_;refine z7 (zbi L (kh:=.i64) (ph:=0) (km:=.i64) (pm:=0) 1 _ false rfl rfl rfl rfl rfl ⟨rfl, rfl⟩ ⟨rfl, rfl⟩ (fun h => by cases h) (by omega) (by omega) (by assumption)) rfl ?_;refine Zdl ?_;refine Zb5 ?_;refine ZE ?_;refine Zq ?_;refine ZcO ?_;refine Zbk ?_;refine Za ?_;refine ZE ?_;refine z7 (zq L rfl rfl (zn rfl) rfl rfl hfn (fun u H hH _ _ => hfv u H hH)) rfl ?_;refine Zab ?_;refine qy ?_
        exact y9 (x:=(n + 1, a :: x, [], out)) (n, x, [], out) ⟨by simp only [List.length_cons, List.length_nil] at hn ⊢; omega, hR, by simp only [List.length_cons, List.length_nil, List.length_append] at hz ⊢; omega⟩ (by dsimp only; omega) ⟨rfl, rfl, rfl, rfl, trivial⟩
       ·have hR:out ++ [a] ++ zed zbs f n x [] = R:=by rw [← hR]; simp [zed, hft]
        have hfv:∀ (u:World) (H:Heap), H.Le (hp u) → Ret Tryz.prog tf [.bool true, .bool false] u H (fun v _ => v = .bool true):=fun u H h => by have:=hf true false u H h; rwa [hft] at this
        refine Zdk ?_;refine Zdj ?_;refine Zak ?_;refine ZdL ?_;refine ZbJ ?_;refine ZF ?_;refine Zn ?_;refine Z9 ?_;refine ZeY ?_;refine Z4 ?_;refine Z5 ?_;refine ZdM ?_;refine Z3 ?_;refine ZcD ?_;refine ZaS ?_;refine ZdN ?_;refine ZaG ?_;refine Za9 ?_;refine Zh ?_;refine z7 (zbi L (kh:=.i64) (ph:=0) (km:=.i64) (pm:=0) 1 _ false rfl rfl rfl rfl rfl ⟨rfl, rfl⟩ ⟨rfl, rfl⟩ (fun h => by cases h) (by omega) (by omega) (by assumption)) rfl ?_;refine Zdl ?_;refine Zb5 ?_;refine ZE ?_;refine Zq ?_;refine ZcO ?_;refine Zbk ?_;refine Za ?_;refine ZE ?_;refine z7 (zq L rfl rfl (zn rfl) rfl rfl hfn (fun u H hH _ _ => hfv u H hH)) rfl ?_;refine Z8 ?_;refine ZaH ?_;refine qg (zaf (.inl rfl) rfl rfl rfl rfl) ?_;refine ZaU ?_;refine Zai ?_;refine ZeI ?_;refine qg (zaf (.inr rfl) rfl rfl rfl rfl) ?_;refine zk ?_;refine qy ?_
        exact y9 (x:=(n + 1, a :: x, [], out)) (n, x, [], out ++ [a]) ⟨by simp only [List.length_cons, List.length_nil] at hn ⊢; omega, hR, by simp only [List.length_cons, List.length_nil, List.length_append] at hz ⊢; omega⟩ (by dsimp only; omega) ⟨rfl, rfl, rfl, zjl rfl, trivial⟩
      ·have lb:(b :: y).length = y.length + 1:=rfl
       have hb:=ziq (l:=b :: y) (i:=0) (t:=b) rfl
       have tb:=zmn b y
       by_cases c1:zbs a b < 0
       ·rcases n with _ | n
        ·simp only [List.length_cons, List.length_nil] at hn; omega
        cases hft:f true false
        ·have hR:out ++ zed zbs f n x (b :: y) = R:=by rw [← hR]; simp [zed, c1, hft]
         have hfv:∀ (u:World) (H:Heap), H.Le (hp u) → Ret Tryz.prog tf [.bool true, .bool false] u H (fun v _ => v = .bool false):=fun u H h => by have:=hf true false u H h; rwa [hft] at this
         refine Zdk ?_;refine Zdj ?_;refine Zak ?_;refine ZdL ?_;refine ZbJ ?_;refine ZF ?_;refine Zn ?_;refine ZR ?_;refine ZdD ?_;refine Zb9 ?_;refine ZcP ?_;refine ZcP ?_;refine z8 (zq L rfl rfl (zn rfl) rfl rfl rfl (fun u H hH _ _ => zc6 hH)) rfl ?_;refine Zao ?_;refine qk ?_;refine qy ?_;refine ZdM ?_;refine Z3 ?_;refine ZcD ?_;refine ZaS ?_;refine ZdN ?_;refine ZaG ?_;refine Za9 ?_;refine Zh ?_;refine z7 (zbi L (kh:=.i64) (ph:=0) (km:=.i64) (pm:=0) 1 _ false rfl rfl rfl rfl rfl ⟨rfl, rfl⟩ ⟨rfl, rfl⟩ (fun h => by cases h) (by omega) (by omega) (by assumption)) rfl ?_;refine Zdl ?_;refine Zb5 ?_;refine ZE ?_;refine Zq ?_;refine ZcO ?_;refine Zbk ?_;refine Za ?_;refine ZE ?_;refine z7 (zq L rfl rfl (zn rfl) rfl rfl hfn (fun u H hH _ _ => hfv u H hH)) rfl ?_;refine Zab ?_;refine qy ?_
         exact y9 (x:=(n + 1, a :: x, b :: y, out)) (n, x, (b :: y), out) ⟨by simp only [List.length_cons, List.length_nil] at hn ⊢; omega, hR, by simp only [List.length_cons, List.length_nil, List.length_append] at hz ⊢; omega⟩ (by dsimp only; omega) ⟨rfl, rfl, rfl, rfl, trivial⟩
        ·have hR:out ++ [a] ++ zed zbs f n x (b :: y) = R:=by rw [← hR]; simp [zed, c1, hft]
         have hfv:∀ (u:World) (H:Heap), H.Le (hp u) → Ret Tryz.prog tf [.bool true, .bool false] u H (fun v _ => v = .bool true):=fun u H h => by have:=hf true false u H h; rwa [hft] at this
         refine Zdk ?_;refine Zdj ?_;refine Zak ?_;refine ZdL ?_;refine ZbJ ?_;refine ZF ?_;refine Zn ?_;refine ZR ?_;refine ZdD ?_;refine Zb9 ?_;refine ZcP ?_;refine ZcP ?_;refine z8 (zq L rfl rfl (zn rfl) rfl rfl rfl (fun u H hH _ _ => zc6 hH)) rfl ?_;refine Zao ?_;refine qk ?_;refine qy ?_;refine ZdM ?_;refine Z3 ?_;refine ZcD ?_;refine ZaS ?_;refine ZdN ?_;refine ZaG ?_;refine Za9 ?_;refine Zh ?_;refine z7 (zbi L (kh:=.i64) (ph:=0) (km:=.i64) (pm:=0) 1 _ false rfl rfl rfl rfl rfl ⟨rfl, rfl⟩ ⟨rfl, rfl⟩ (fun h => by cases h) (by omega) (by omega) (by assumption)) rfl ?_;refine Zdl ?_;refine Zb5 ?_;refine ZE ?_;refine Zq ?_;refine ZcO ?_;refine Zbk ?_;refine Za ?_;refine ZE ?_;refine z7 (zq L rfl rfl (zn rfl) rfl rfl hfn (fun u H hH _ _ => hfv u H hH)) rfl ?_;refine Z8 ?_;refine ZaH ?_;refine qg (zaf (.inl rfl) rfl rfl rfl rfl) ?_;refine ZaU ?_;refine Zai ?_;refine ZeI ?_;refine qg (zaf (.inr rfl) rfl rfl rfl rfl) ?_;refine zk ?_;refine qy ?_
         exact y9 (x:=(n + 1, a :: x, b :: y, out)) (n, x, (b :: y), out ++ [a]) ⟨by simp only [List.length_cons, List.length_nil] at hn ⊢; omega, hR, by simp only [List.length_cons, List.length_nil, List.length_append] at hz ⊢; omega⟩ (by dsimp only; omega) ⟨rfl, rfl, rfl, zjl rfl, trivial⟩
       ·by_cases c2:0 < zbs a b
        ·rcases n with _ | n
         ·simp only [List.length_cons, List.length_nil] at hn; omega
         cases hft:f false true
         ·have hR:out ++ zed zbs f n (a :: x) y = R:=by rw [← hR]; simp [zed, c1, c2, hft]
          have hfv:∀ (u:World) (H:Heap), H.Le (hp u) → Ret Tryz.prog tf [.bool false, .bool true] u H (fun v _ => v = .bool false):=fun u H h => by have:=hf false true u H h; rwa [hft] at this
          refine Zdk ?_;refine Zdj ?_;refine Zak ?_;refine ZdL ?_;refine ZbJ ?_;refine ZF ?_;refine Zn ?_;refine ZR ?_;refine ZdD ?_;refine Zb9 ?_;refine ZcP ?_;refine ZcP ?_;refine z8 (zq L rfl rfl (zn rfl) rfl rfl rfl (fun u H hH _ _ => zc6 hH)) rfl ?_;refine Zao ?_;refine qk ?_;refine qy ?_;refine ZdM ?_;refine ZP ?_;refine Z8 ?_;refine ZT ?_;refine ZdN ?_;refine Zam ?_;refine Zaw ?_;refine Zb5 ?_;refine Zax ?_;refine Zbr ?_;refine Zh ?_;refine z7 (zbi L (kh:=.i64) (ph:=0) (km:=.i64) (pm:=0) 1 _ false rfl rfl rfl rfl rfl ⟨rfl, rfl⟩ ⟨rfl, rfl⟩ (fun h => by cases h) (by omega) (by omega) (by assumption)) rfl ?_;refine Zdg ?_;refine ZcO ?_;refine Zb8 ?_;refine Za ?_;refine Za3 ?_;refine z7 (zq L rfl rfl (zn rfl) rfl rfl hfn (fun u H hH _ _ => hfv u H hH)) rfl ?_;refine Zab ?_;refine qy ?_
          exact y9 (x:=(n + 1, a :: x, b :: y, out)) (n, (a :: x), y, out) ⟨by simp only [List.length_cons, List.length_nil] at hn ⊢; omega, hR, by simp only [List.length_cons, List.length_nil, List.length_append] at hz ⊢; omega⟩ (by dsimp only; omega) ⟨rfl, rfl, rfl, rfl, trivial⟩
         ·have hR:out ++ [b] ++ zed zbs f n (a :: x) y = R:=by rw [← hR]; simp [zed, c1, c2, hft]
          have hfv:∀ (u:World) (H:Heap), H.Le (hp u) → Ret Tryz.prog tf [.bool false, .bool true] u H (fun v _ => v = .bool true):=fun u H h => by have:=hf false true u H h; rwa [hft] at this
          refine Zdk ?_;refine Zdj ?_;refine Zak ?_;refine ZdL ?_;refine ZbJ ?_;refine ZF ?_;refine Zn ?_;refine ZR ?_;refine ZdD ?_;refine Zb9 ?_;refine ZcP ?_;refine ZcP ?_;refine z8 (zq L rfl rfl (zn rfl) rfl rfl rfl (fun u H hH _ _ => zc6 hH)) rfl ?_;refine Zao ?_;refine qk ?_;refine qy ?_;refine ZdM ?_;refine ZP ?_;refine Z8 ?_;refine ZT ?_;refine ZdN ?_;refine Zam ?_;refine Zaw ?_;refine Zb5 ?_;refine Zax ?_;refine Zbr ?_;refine Zh ?_;refine z7 (zbi L (kh:=.i64) (ph:=0) (km:=.i64) (pm:=0) 1 _ false rfl rfl rfl rfl rfl ⟨rfl, rfl⟩ ⟨rfl, rfl⟩ (fun h => by cases h) (by omega) (by omega) (by assumption)) rfl ?_;refine Zdg ?_;refine ZcO ?_;refine Zb8 ?_;refine Za ?_;refine Za3 ?_;refine z7 (zq L rfl rfl (zn rfl) rfl rfl hfn (fun u H hH _ _ => hfv u H hH)) rfl ?_;refine Z8 ?_;refine ZaH ?_;refine qg (zaf (.inl rfl) rfl rfl rfl rfl) ?_;refine ZaU ?_;refine Zai ?_;refine ZeI ?_;refine qg (zaf (.inr rfl) rfl rfl rfl rfl) ?_;refine zk ?_;refine qy ?_
          exact y9 (x:=(n + 1, a :: x, b :: y, out)) (n, (a :: x), y, out ++ [b]) ⟨by simp only [List.length_cons, List.length_nil] at hn ⊢; omega, hR, by simp only [List.length_cons, List.length_nil, List.length_append] at hz ⊢; omega⟩ (by dsimp only; omega) ⟨rfl, rfl, rfl, zjl rfl, trivial⟩
        ·rcases n with _ | n
         ·simp only [List.length_cons, List.length_nil] at hn; omega
         cases hft:f true true
         ·have hR:out ++ zed zbs f n x y = R:=by rw [← hR]; simp [zed, c1, c2, hft]
          have hfv:∀ (u:World) (H:Heap), H.Le (hp u) → Ret Tryz.prog tf [.bool true, .bool true] u H (fun v _ => v = .bool false):=fun u H h => by have:=hf true true u H h; rwa [hft] at this
          refine Zdk ?_;refine Zdj ?_;refine Zak ?_;refine ZdL ?_;refine ZbJ ?_;refine ZF ?_;refine Zn ?_;refine ZR ?_;refine ZdD ?_;refine Zb9 ?_;refine ZcP ?_;refine ZcP ?_;refine z8 (zq L rfl rfl (zn rfl) rfl rfl rfl (fun u H hH _ _ => zc6 hH)) rfl ?_;refine Zao ?_;refine qk ?_;refine qy ?_;refine ZdM ?_;refine Z3 ?_;refine ZcD ?_;refine ZaS ?_;refine ZdN ?_;refine ZaG ?_;refine Za9 ?_;refine Zh ?_;refine z7 (zbi L (kh:=.i64) (ph:=0) (km:=.i64) (pm:=0) 1 _ false rfl rfl rfl rfl rfl ⟨rfl, rfl⟩ ⟨rfl, rfl⟩ (fun h => by cases h) (by omega) (by omega) (by assumption)) rfl ?_;refine Zdl ?_;refine Zb5 ?_;refine Zax ?_;refine Zbr ?_;refine Zh ?_;refine z7 (zbi L (kh:=.i64) (ph:=0) (km:=.i64) (pm:=0) 1 _ false rfl rfl rfl rfl rfl ⟨rfl, rfl⟩ ⟨rfl, rfl⟩ (fun h => by cases h) (by omega) (by omega) (by assumption)) rfl ?_;refine Zdg ?_;refine ZcO ?_;refine Zbk ?_;refine Za ?_;refine Za3 ?_;refine z7 (zq L rfl rfl (zn rfl) rfl rfl hfn (fun u H hH _ _ => hfv u H hH)) rfl ?_;refine Zab ?_;refine qy ?_
          exact y9 (x:=(n + 1, a :: x, b :: y, out)) (n, x, y, out) ⟨by simp only [List.length_cons, List.length_nil] at hn ⊢; omega, hR, by simp only [List.length_cons, List.length_nil, List.length_append] at hz ⊢; omega⟩ (by dsimp only; omega) ⟨rfl, rfl, rfl, rfl, trivial⟩
         ·have hR:out ++ [a] ++ zed zbs f n x y = R:=by rw [← hR]; simp [zed, c1, c2, hft]
          have hfv:∀ (u:World) (H:Heap), H.Le (hp u) → Ret Tryz.prog tf [.bool true, .bool true] u H (fun v _ => v = .bool true):=fun u H h => by have:=hf true true u H h; rwa [hft] at this
          refine Zdk ?_;refine Zdj ?_;refine Zak ?_;refine ZdL ?_;refine ZbJ ?_;refine ZF ?_;refine Zn ?_;refine ZR ?_;refine ZdD ?_;refine Zb9 ?_;refine ZcP ?_;refine ZcP ?_;refine z8 (zq L rfl rfl (zn rfl) rfl rfl rfl (fun u H hH _ _ => zc6 hH)) rfl ?_;refine Zao ?_;refine qk ?_;refine qy ?_;refine ZdM ?_;refine Z3 ?_;refine ZcD ?_;refine ZaS ?_;refine ZdN ?_;refine ZaG ?_;refine Za9 ?_;refine Zh ?_;refine z7 (zbi L (kh:=.i64) (ph:=0) (km:=.i64) (pm:=0) 1 _ false rfl rfl rfl rfl rfl ⟨rfl, rfl⟩ ⟨rfl, rfl⟩ (fun h => by cases h) (by omega) (by omega) (by assumption)) rfl ?_;refine Zdl ?_;refine Zb5 ?_;refine Zax ?_;refine Zbr ?_;refine Zh ?_;refine z7 (zbi L (kh:=.i64) (ph:=0) (km:=.i64) (pm:=0) 1 _ false rfl rfl rfl rfl rfl ⟨rfl, rfl⟩ ⟨rfl, rfl⟩ (fun h => by cases h) (by omega) (by omega) (by assumption)) rfl ?_;refine Zdg ?_;refine ZcO ?_;refine Zbk ?_;refine Za ?_;refine Za3 ?_;refine z7 (zq L rfl rfl (zn rfl) rfl rfl hfn (fun u H hH _ _ => hfv u H hH)) rfl ?_;refine Z8 ?_;refine ZaH ?_;refine qg (zaf (.inl rfl) rfl rfl rfl rfl) ?_;refine ZaU ?_;refine Zai ?_;refine ZeI ?_;refine qg (zaf (.inr rfl) rfl rfl rfl rfl) ?_;refine zk ?_;refine qy ?_
          exact y9 (x:=(n + 1, a :: x, b :: y, out)) (n, x, y, out ++ [a]) ⟨by simp only [List.length_cons, List.length_nil] at hn ⊢; omega, hR, by simp only [List.length_cons, List.length_nil, List.length_append] at hz ⊢; omega⟩ (by dsimp only; omega) ⟨rfl, rfl, rfl, zjl rfl, trivial⟩
end Go.V.L2
set_option maxRecDepth 20000
namespace Go.V.L11
open Go.Proofs Go.RowKit Go.V Go.V.L2 Go.V.L4
theorem _root_.Go.V.Zcj {A B:Prop} (h:B) (t:Wr B → A:=by intro h; refine Ze ?_;refine ZO ?_;exact h.h):A:=t ⟨h⟩
abbrev z2w:Nat:=37
abbrev tyI:Nat:=3
abbrev tyE:Nat:=43
attribute [local irreducible] V N X VO Par StepOK Has Ret RetL RetO RetT zbd RetX RetY Src
theorem zjf {y r:ByteArray} (h:zno y = some r) (hs:y.size ≤ 9223372036854775807) {w:World} {B:Heap} (hB:B.Le (hp w)) :
  Ret Tryz.prog 130 [.string y, .string ⟨#[10]⟩] w B (fun v _ => v = .tuple #[.string r, .bool true]):=by
 have e1:=zk0 h
 have e:y.data.toList = r.data.toList ++ [10]:=by rw [e1, zas]
 have h1:Lib.hasSuffix y.data.toList [10] = true:=by
  rw [e]
  exact List.isSuffixOf_iff_suffix.2 (List.suffix_append _ _)
 refine zsg hs h1 ?_ hB
 unfold Lib.trimSuffix
 rw [if_pos h1, e]
 apply zbr
 simp
theorem zw1 {y:ByteArray} (h:zno y = none) (hs:y.size ≤ 9223372036854775807) {w:World} {B:Heap} (hB:B.Le (hp w)) :
  Ret Tryz.prog 130 [.string y, .string ⟨#[10]⟩] w B (fun v _ => v = .tuple #[.string y, .bool false]):=by
 have h1:Lib.hasSuffix y.data.toList [10] = false:=by
  cases hh:Lib.hasSuffix y.data.toList [10]
  ·rfl
  ·obtain ⟨t, ht⟩:=List.isSuffixOf_iff_suffix.1 hh
   unfold zno at h
   rw [if_pos (by rw [← ht]; simp)] at h
   cases h
 refine zsg hs h1 ?_ hB
 unfold Lib.trimSuffix
 rw [if_neg (by rw [h1]; decide)]
set_option maxRecDepth 20000 in
set_option maxHeartbeats 2000000 in
theorem ztc {rd:ByteArray → U × Int} {rdf:Nat} (hfn:L.fn rdf = some ()) {s:ByteArray} (hs:s.size ≤ 1000000) {w:World} {B:Heap} (hB:B.Le (hp w))
  (hrd:∀ (r:ByteArray), r.size ≤ 1000000 → ∀ (u:World) (H:Heap), H.Le (hp u) → B.Le H → Ret Tryz.prog rdf [.string r] u H (fun v _ => v = .tuple #[uv (rd r).1, .int .i64 (rd r).2])) :
  Ret Tryz.prog 62 [.string s, .func (.func rdf) #[] #[]] w B (TupS [US (zi5 rd s).1 true, fun v _ => v = .int .i64 (zi5 rd s).2.1, fun v _ => v = .int .i64 (zi5 rd s).2.2]):=by
 have hF:zi5 rd s = ze5 rd [] 1 (zd5 s):=if_neg (by omega)
 rw [hF]
 refine qw Tryz.func62 rfl Tryz.ntmps62 (Nat.le_of_ble_eq_true rfl) hB ?_
 refine ZaF ?_;refine Zag ?_;refine Zag ?_;refine Zcx ?_;refine Zbm ?_;refine Zaf ?_;refine Zb2 ?_;refine Zx ?_;refine Zcx ?_;refine Zk ?_;refine z7 (zai L rfl rfl (zn rfl) rfl rfl rfl LinAt.mono (fun u H hH _ _ => zpd hH)) rfl ?_;refine ZbL ?_
 refine za3 3 83 rfl fun b3 => ?_
 refine zgl 83 rfl fun H1 hs1 _ hb3 => ?_
 refine za3 4 84 rfl fun b4 => ?_
 refine za3 5 85 rfl fun b5 => ?_
 refine za3 6 86 rfl fun b6 => ?_
 refine zia 7 rfl fun b7 hb7 => ?_
 refine zh8 87 tyU 6 ?_
 refine zh9 87 [] rfl rfl ?_
 refine zk7 18 rfl fun v18 H2 hs2 ⟨lb, e18, hlb⟩ => ?_
 subst e18
 have hsB:=hs1.trans hs2
 have hnil:ze5 rd [] 1 (zhs []) = ([], 0, 0):=rfl
 refine zd4 L (gf:=198) (caps:=[za0 lb]) [(3, za0 b3), (4, za0 b4), (5, za0 b5), (6, za0 b6), (7, za0 b7)]
  (fun pre => [(84, zaj b4 [.slice none 0 0] z2w), (85, zaj b5 [.int .i64 (ze5 rd [] 1 (zhs pre)).2.1] tyI), (86, zaj b6 [.int .i64 (ze5 rd [] 1 (zhs pre)).2.2] tyE), (87, zua b7 z2w (SlR tyU 6 (zir rd 1 (zhs pre)).length ((zir rd 1 (zhs pre)).flatMap ucs)))])
  (fun pre x => [(84, .own (zaj b4 [.slice none 0 0] z2w)), (85, .own (zaj b5 [.int .i64 (ze5 rd [] 1 (zhs pre)).2.1] tyI)), (86, .own (zaj b6 [.int .i64 (ze5 rd [] 1 (zhs pre)).2.2] tyE)), (87, .own (zua b7 z2w (SlR tyU 6 (zir rd 1 (zhs pre)).length ((zir rd 1 (zhs pre)).flatMap ucs)))),
   (3, .is (za0 b3)), (4, .is (za0 b4)), (5, .is (za0 b5)), (6, .is (za0 b6)), (7, .is (za0 b7)), (8, .is (x.headD undef)), (9, .is (x.tail.headD undef))])
  (zda 1 (zb8 (zd5 s))) (fun p => !zbq rd 1 (zhs p)) (fun _ => .ret) rfl rfl rfl ⟨rfl, rfl, rfl, rfl, rfl, rfl, rfl, rfl, rfl, trivial⟩
  (fun pre p hp => by simp only [List.mem_cons, List.not_mem_nil, or_false] at hp; rcases hp with rfl | rfl | rfl | rfl <;> exact Nat.le_of_ble_eq_true rfl) rfl
  (fun x hx => by obtain ⟨p, q, e⟩:=List.append_of_mem hx; obtain ⟨ls, y, _, rfl, _⟩:=zlw (pre:=p) (x:=x) ⟨q, by rw [e]; simp⟩; rfl) (by decide)
  (fun u H hH hle => zko (by omega) hH (hle _ _ hlb)) ?asg ?bd ?dn ?st
 case asg =>
  intro w1 Ln B' l' D' o pre x' hpre hstp hBB
  obtain ⟨ls, y, rfl, rfl, hls⟩:=zlw hpre
  refine Zbo ?_;refine Zc ?_;refine ZQ ?_;refine ZX ?_
  exact zt4 Since.refl ⟨rfl, rfl, rfl, rfl, rfl, rfl, rfl, rfl, rfl, rfl, rfl, trivial⟩
 case bd =>
  intro w1 Ln B' l' D' o pre x' hpre hstp hBB
  obtain ⟨ls, y, rfl, rfl, hls⟩:=zlw hpre
  have hg:zbq rd 1 ls = true:=by
   have:=hstp
   rw [zaz] at this
   simpa using this
  have e3:=zg6 ls y
  rw [← e3]
  have hb3':=hBB _ _ (hs2.le _ _ hb3)
  have hln:ls.length + 1 ≤ 1000000:=by
   have h1:=hls.length_le
   have h2:=zg9 s
   rw [List.length_append] at h1
   simp at h1
   omega
  have hys:y.size ≤ 1000000:=by
   have:=zpe (s:=s) (y:=y) (hls.subset (by simp))
   omega
  rw [zaz, zh0 hg, zh1 hg]
  have hvl:(zhp rd ls).length ≤ ls.length:=zix
  by_cases hn:4096 < ls.length + 1
  ·have hp:=zi3 (rd:=rd) (ys:=[]) (y:=y) hg (by omega)
   have hbad:zbq rd 1 (ls ++ [y]) = false:=by rw [zb4, hg]; unfold zik; simp; omega
   have how:zir rd 1 (ls ++ [y]) = zhp rd ls:=by rw [zdd hg]; unfold zir; rw [if_pos (by unfold zik; simp; omega), List.append_nil]
   refine qe ?_;refine Zcj ?_;refine ZP ?_;refine Zs ?_;refine ZZ ?_;refine zal (qz L (q:=84) (cs':=[.slice none 0 0]) rfl rfl rfl rfl rfl rfl rfl rfl rfl) ?_;refine zal (qz L (q:=85) (cs':=[.int .i64 ((ls.length + 1:Nat):Int)]) rfl rfl rfl rfl rfl rfl rfl rfl rfl) ?_;refine zal (qz L (q:=86) (cs':=[.int .i64 3]) rfl rfl rfl rfl rfl rfl rfl rfl rfl) ?_;refine Zy ?_
   refine zhj (zk8 (zfe (znw Since.refl (by rw [zaz, hbad]; rfl) rfl ?_)))
   rw [zaz, hp, how, Nat.add_comm 1]
   exact ⟨rfl, rfl, rfl, rfl, trivial⟩
  ·cases he:zno y with
   | none =>
    have hp:=zg4 (rd:=rd) (ys:=[]) (y:=y) hg (by omega) he
    have hbad:zbq rd 1 (ls ++ [y]) = false:=by rw [zb4, hg]; unfold zik; rw [he]; simp
    have how:zir rd 1 (ls ++ [y]) = zhp rd ls:=by rw [zdd hg]; unfold zir; rw [if_pos (by unfold zik; rw [he]; simp), List.append_nil]
    refine qe ?_;refine Zcj ?_;refine Zb2 ?_;refine Za0 ?_;refine z7 (zq L rfl rfl (zn rfl) rfl rfl rfl (fun u H hH _ _ => zw1 he (by omega) hH)) rfl ?_;refine ZbA ?_;refine ZcJ ?_;refine Zr ?_;refine Zs ?_;refine ZbH ?_;refine zal (qz L (q:=84) (cs':=[.slice none 0 0]) rfl rfl rfl rfl rfl rfl rfl rfl rfl) ?_;refine zal (qz L (q:=85) (cs':=[.int .i64 ((ls.length + 1:Nat):Int)]) rfl rfl rfl rfl rfl rfl rfl rfl rfl) ?_;refine zal (qz L (q:=86) (cs':=[.int .i64 5]) rfl rfl rfl rfl rfl rfl rfl rfl rfl) ?_;refine Zy ?_
    refine zhj (zk8 (zfe (znw Since.refl (by rw [zaz, hbad]; rfl) rfl ?_)))
    rw [zaz, hp, how, Nat.add_comm 1]
    exact ⟨rfl, rfl, rfl, rfl, trivial⟩
   | some r =>
    have hrs:r.size ≤ 1000000:=by
     have:=congrArg ByteArray.size (zk0 he)
     rw [ByteArray.size_append] at this
     omega
    obtain ⟨t, e, hrt⟩:∃ t e, rd r = (t, e):=⟨_, _, rfl⟩
    have hrr:=hrd r hrs
    rw [hrt] at hrr
    by_cases h0:e = 0
    ·subst h0
     have hgood:zbq rd 1 (ls ++ [y]) = true:=by rw [zb4, hg]; unfold zik; rw [he]; simp [hrt]; omega
     have hp:=zh0 hgood
     have how:=zh1 hgood
     have hvs:=zn1 (rd:=rd) (ls:=ls) he
     rw [hrt] at hvs
     refine qe ?_;refine Zcj ?_;refine Zb2 ?_;refine Za0 ?_;refine z7 (zq L rfl rfl (zn rfl) rfl rfl rfl (fun u H hH _ _ => zjf he (by omega) hH)) rfl ?_;refine ZbA ?_;refine ZcJ ?_;refine Zr ?_;refine Zq ?_;refine Z4 ?_;refine z7 (q7 L (qt rfl hb3') rfl rfl rfl rfl) rfl ?_;refine Za ?_;refine z7 (zq L rfl rfl (zn rfl) rfl rfl hfn (fun u H hH hle _ => hrr u H hH (hsB.le.trans (hBB.trans hle)))) rfl ?_;refine ZbG ?_;refine ZbI ?_;refine ZA ?_;refine Zdb ?_
     refine ze2 87 _ rfl SlR.shape fun z hz => ?_
     obtain ⟨p, c, rfl⟩:=hz
     refine ZT ?_;refine Zch ?_;refine zcq 42 87 rfl rfl ?_;refine ZaU ?_;refine Zai ?_;refine ZeI ?_;refine zel 45 87 _ rfl SlR.shape fun z hz => ?_;obtain ⟨p', c', rfl⟩:=hz; refine Zes ?_;refine zk ?_;refine qy ?_
     refine zib 87 [] rfl rfl ?_
     refine zt5 Since.refl (by rw [zaz, hgood]; rfl) ?_
     rw [zaz, hp, how, hvs, List.flatMap_append, List.length_append]
     exact ⟨rfl, rfl, rfl, rfl, trivial⟩
    ·have hp:=zi4 (rd:=rd) (ys:=[]) (y:=y) hg (by omega) he (by rw [hrt]; exact h0)
     rw [hrt] at hp
     have hbad:zbq rd 1 (ls ++ [y]) = false:=by rw [zb4, hg]; unfold zik; rw [he]; simp [hrt, h0]
     have how:zir rd 1 (ls ++ [y]) = zhp rd ls:=by rw [zdd hg]; unfold zir; rw [if_pos (by unfold zik; rw [he]; simp [hrt, h0]), List.append_nil]
     refine qe ?_;refine Zcj ?_;refine Zb2 ?_;refine Za0 ?_;refine z7 (zq L rfl rfl (zn rfl) rfl rfl rfl (fun u H hH _ _ => zjf he (by omega) hH)) rfl ?_;refine ZbA ?_;refine ZcJ ?_;refine Zr ?_;refine Zq ?_;refine Z4 ?_;refine z7 (q7 L (qt rfl hb3') rfl rfl rfl rfl) rfl ?_;refine Za ?_;refine z7 (zq L rfl rfl (zn rfl) rfl rfl hfn (fun u H hH hle _ => hrr u H hH (hsB.le.trans (hBB.trans hle)))) rfl ?_;refine ZbG ?_;refine ZbI ?_;refine ZH ?_;refine Zaz ?_;refine Zb ?_;refine zal (qz L (q:=84) (cs':=[.slice none 0 0]) rfl rfl rfl rfl rfl rfl rfl rfl rfl) ?_;refine zal (qz L (q:=85) (cs':=[.int .i64 ((ls.length + 1:Nat):Int)]) rfl rfl rfl rfl rfl rfl rfl rfl rfl) ?_;refine zal (qz L (q:=86) (cs':=[.int .i64 e]) rfl rfl rfl rfl rfl rfl rfl rfl rfl) ?_;refine Zy ?_
     refine zhj (zk8 (zfe (znw Since.refl (by rw [zaz, hbad]; rfl) rfl ?_)))
     rw [zaz, hp, how, Nat.add_comm 1]
     exact ⟨rfl, rfl, rfl, rfl, trivial⟩
 case st =>
  intro l' D' o hstop
  obtain ⟨ks, h1, h2, h3⟩:=zfp rd (zd5 s) [] rfl
  have h1':za5 (fun p => !zbq rd 1 (zhs p)) [] (zda 1 (zb8 (zd5 s))) = zda 1 (zb8 ks):=h1
  rw [h1', zaz] at hstop
  have hbad:zbq rd 1 ks = false:=by simpa using hstop
  have hn1:=zm0 (out:=[]) hbad
  have h2':ze5 rd [] 1 ks = ze5 rd [] 1 (zd5 s):=h2
  rw [h1', zaz, h2']
  rw [h2'] at hn1
  generalize ze5 rd [] 1 (zd5 s) = R at hn1 ⊢
  obtain ⟨R1, R2, R3⟩:=R
  dsimp only at hn1
  subst hn1
  refine zb3 4 84 rfl rfl ?_
  refine zb3 5 85 rfl rfl ?_
  refine zb3 6 86 rfl rfl ?_
  refine zpu L (rs:=[.cell 4 z2w, .cell 5 tyI, .cell 6 tyE]) rfl (fun _ _ h => h) hsB fun O' u H hH hle => ?_
  exact zbb (qp rfl) rfl (zbb (qp rfl) rfl (zbb (qp rfl) rfl (tup3 SlV.nil rfl rfl)))
 case dn =>
  intro l' D' o hgo
  obtain ⟨ks, h1, h2, h3⟩:=zfp rd (zd5 s) [] rfl
  have h1':za5 (fun p => !zbq rd 1 (zhs p)) [] (zda 1 (zb8 (zd5 s))) = zda 1 (zb8 ks):=h1
  rw [h1', zaz] at hgo
  have hg:zbq rd 1 ks = true:=by simpa using hgo
  have hkl:ks = zd5 s:=h3 hg
  have hll:=zg9 s
  have hvl:(zhp rd ks).length ≤ ks.length:=zix
  rw [h1', zaz, ← hkl, zh0 hg, zh1 hg]
  refine qy ?_
  refine zm ?_
  refine ze2 87 _ rfl SlR.shape fun z hz => ?_
  obtain ⟨p, c, rfl⟩:=hz
  refine zj ?_;refine ZaS ?_;refine Zch ?_;refine zcq 46 87 rfl rfl ?_;refine zjk 46 rfl ?_;refine Zch ?_;refine Zd4 ?_;refine Zch ?_;refine Zd4 ?_;refine Zep ?_;refine zd9 51 rfl fun sv H3 hs3 hsv => ?_;obtain ⟨p1, c1, rfl⟩:=zce hsv; refine zal (qz L (q:=84) (cs':=[.slice p1 (zhp rd ks).length c1]) rfl rfl rfl rfl rfl rfl rfl rfl rfl) ?_;refine zal (qz L (q:=85) (cs':=[.int .i64 0]) rfl rfl rfl rfl rfl rfl rfl rfl rfl) ?_;refine zal (qz L (q:=86) (cs':=[.int .i64 0]) rfl rfl rfl rfl rfl rfl rfl rfl rfl) ?_;refine Zy ?_
  refine zb3 4 84 rfl rfl ?_
  refine zb3 5 85 rfl rfl ?_
  refine zb3 6 86 rfl rfl ?_
  refine zpu L (rs:=[.cell 4 z2w, .cell 5 tyI, .cell 6 tyE]) rfl (fun _ _ h => h) (hsB.trans hs3) fun O' u H hH hle => ?_
  exact zbb (qp rfl) rfl (zbb (qp rfl) rfl (zbb (qp rfl) rfl (tup3 (hsv.le hle) rfl rfl)))
end Go.V.L11
set_option maxRecDepth 20000
namespace Go.V.L11
open Go.Proofs Go.RowKit Go.V Go.V.L2 Go.V.L4 Go.V.L8
theorem _root_.Go.V.Zfb {A B:Prop} (h:B) (t:Wr B → A:=by intro h; refine qg (zb1 L rfl rfl rfl (ziv rfl) rfl z2y rfl rfl (by omega) (by omega)) ?_;exact h.h):A:=t ⟨h⟩
attribute [local irreducible] V N X VO Par StepOK Has Ret RetL RetO RetT zbd RetX RetY Src
set_option maxRecDepth 20000 in
set_option maxHeartbeats 2000000 in
theorem ztd {rd:ByteArray → CH × Int} {rdf:Nat} (hfn:L.fn rdf = some ()) {s:ByteArray} (hs:s.size ≤ 1000000) {w:World} {B:Heap} (hB:B.Le (hp w))
  (hrd:∀ (r:ByteArray), r.size ≤ 1000000 → ∀ (u:World) (H:Heap), H.Le (hp u) → B.Le H → Ret Tryz.prog rdf [.string r] u H (fun v _ => v = .tuple #[cvC (rd r).1, .int .i64 (rd r).2])) :
  Ret Tryz.prog 64 [.string s, .func (.func rdf) #[] #[]] w B (TupS [KS tyC (zi5 rd s).1 true, fun v _ => v = .int .i64 (zi5 rd s).2.1, fun v _ => v = .int .i64 (zi5 rd s).2.2]):=by
 have hF:zi5 rd s = ze5 rd [] 1 (zd5 s):=if_neg (by omega)
 rw [hF]
 refine qw Tryz.func64 rfl Tryz.ntmps64 (Nat.le_of_ble_eq_true rfl) hB ?_
 refine ZaF ?_;refine Zag ?_;refine Zag ?_;refine Zcx ?_;refine Zbm ?_;refine Zaf ?_;refine Zb2 ?_;refine Zx ?_;refine Zcx ?_;refine Zk ?_;refine z7 (zai L rfl rfl (zn rfl) rfl rfl rfl LinAt.mono (fun u H hH _ _ => zpd hH)) rfl ?_;refine ZbL ?_
 refine za3 3 83 rfl fun b3 => ?_
 refine zgl 83 rfl fun H1 hs1 _ hb3 => ?_
 refine za3 4 84 rfl fun b4 => ?_
 refine za3 5 85 rfl fun b5 => ?_
 refine za3 6 86 rfl fun b6 => ?_
 refine zia 7 rfl fun b7 hb7 => ?_
 refine zh8 87 tyC 7 ?_
 refine zh9 87 [] rfl rfl ?_
 refine zk7 18 rfl fun v18 H2 hs2 ⟨lb, e18, hlb⟩ => ?_
 subst e18
 have hsB:=hs1.trans hs2
 have hnil:ze5 rd [] 1 (zhs []) = ([], 0, 0):=rfl
 refine zd4 L (gf:=198) (caps:=[za0 lb]) [(3, za0 b3), (4, za0 b4), (5, za0 b5), (6, za0 b6), (7, za0 b7)]
  (fun pre => [(84, zaj b4 [.slice none 0 0] z0w), (85, zaj b5 [.int .i64 (ze5 rd [] 1 (zhs pre)).2.1] tyI), (86, zaj b6 [.int .i64 (ze5 rd [] 1 (zhs pre)).2.2] tyE), (87, zua b7 z0w (SlR tyC 7 (zir rd 1 (zhs pre)).length ((zir rd 1 (zhs pre)).flatMap ccs)))])
  (fun pre x => [(84, .own (zaj b4 [.slice none 0 0] z0w)), (85, .own (zaj b5 [.int .i64 (ze5 rd [] 1 (zhs pre)).2.1] tyI)), (86, .own (zaj b6 [.int .i64 (ze5 rd [] 1 (zhs pre)).2.2] tyE)), (87, .own (zua b7 z0w (SlR tyC 7 (zir rd 1 (zhs pre)).length ((zir rd 1 (zhs pre)).flatMap ccs)))),
   (3, .is (za0 b3)), (4, .is (za0 b4)), (5, .is (za0 b5)), (6, .is (za0 b6)), (7, .is (za0 b7)), (8, .is (x.headD undef)), (9, .is (x.tail.headD undef))])
  (zda 1 (zb8 (zd5 s))) (fun p => !zbq rd 1 (zhs p)) (fun _ => .ret) rfl rfl rfl ⟨rfl, rfl, rfl, rfl, rfl, rfl, rfl, rfl, rfl, trivial⟩
  (fun pre p hp => by simp only [List.mem_cons, List.not_mem_nil, or_false] at hp; rcases hp with rfl | rfl | rfl | rfl <;> exact Nat.le_of_ble_eq_true rfl) rfl
  (fun x hx => by obtain ⟨p, q, e⟩:=List.append_of_mem hx; obtain ⟨ls, y, _, rfl, _⟩:=zlw (pre:=p) (x:=x) ⟨q, by rw [e]; simp⟩; rfl) (by decide)
  (fun u H hH hle => zko (by omega) hH (hle _ _ hlb)) ?asg ?bd ?dn ?st
 case asg =>
  intro w1 Ln B' l' D' o pre x' hpre hstp hBB
  obtain ⟨ls, y, rfl, rfl, hls⟩:=zlw hpre
  refine Zbo ?_;refine Zc ?_;refine ZQ ?_;refine ZX ?_
  exact zt4 Since.refl ⟨rfl, rfl, rfl, rfl, rfl, rfl, rfl, rfl, rfl, rfl, rfl, trivial⟩
 case bd =>
  intro w1 Ln B' l' D' o pre x' hpre hstp hBB
  obtain ⟨ls, y, rfl, rfl, hls⟩:=zlw hpre
  have hg:zbq rd 1 ls = true:=by
   have:=hstp
   rw [zaz] at this
   simpa using this
  have e3:=zg6 ls y
  rw [← e3]
  have hb3':=hBB _ _ (hs2.le _ _ hb3)
  have hln:ls.length + 1 ≤ 1000000:=by
   have h1:=hls.length_le
   have h2:=zg9 s
   rw [List.length_append] at h1
   simp at h1
   omega
  have hys:y.size ≤ 1000000:=by
   have:=zpe (s:=s) (y:=y) (hls.subset (by simp))
   omega
  rw [zaz, zh0 hg, zh1 hg]
  have hvl:(zhp rd ls).length ≤ ls.length:=zix
  by_cases hn:4096 < ls.length + 1
  ·have hp:=zi3 (rd:=rd) (ys:=[]) (y:=y) hg (by omega)
   have hbad:zbq rd 1 (ls ++ [y]) = false:=by rw [zb4, hg]; unfold zik; simp; omega
   have how:zir rd 1 (ls ++ [y]) = zhp rd ls:=by rw [zdd hg]; unfold zir; rw [if_pos (by unfold zik; simp; omega), List.append_nil]
   refine qe ?_;refine Zcj ?_;refine ZP ?_;refine Zs ?_;refine ZZ ?_;refine zal (qz L (q:=84) (cs':=[.slice none 0 0]) rfl rfl rfl rfl rfl rfl rfl rfl rfl) ?_;refine zal (qz L (q:=85) (cs':=[.int .i64 ((ls.length + 1:Nat):Int)]) rfl rfl rfl rfl rfl rfl rfl rfl rfl) ?_;refine zal (qz L (q:=86) (cs':=[.int .i64 3]) rfl rfl rfl rfl rfl rfl rfl rfl rfl) ?_;refine Zy ?_
   refine zhj (zk8 (zfe (znw Since.refl (by rw [zaz, hbad]; rfl) rfl ?_)))
   rw [zaz, hp, how, Nat.add_comm 1]
   exact ⟨rfl, rfl, rfl, rfl, trivial⟩
  ·cases he:zno y with
   | none =>
    have hp:=zg4 (rd:=rd) (ys:=[]) (y:=y) hg (by omega) he
    have hbad:zbq rd 1 (ls ++ [y]) = false:=by rw [zb4, hg]; unfold zik; rw [he]; simp
    have how:zir rd 1 (ls ++ [y]) = zhp rd ls:=by rw [zdd hg]; unfold zir; rw [if_pos (by unfold zik; rw [he]; simp), List.append_nil]
    refine qe ?_;refine Zcj ?_;refine Zb2 ?_;refine Za0 ?_;refine z7 (zq L rfl rfl (zn rfl) rfl rfl rfl (fun u H hH _ _ => zw1 he (by omega) hH)) rfl ?_;refine ZbA ?_;refine ZcJ ?_;refine Zr ?_;refine Zs ?_;refine ZbH ?_;refine zal (qz L (q:=84) (cs':=[.slice none 0 0]) rfl rfl rfl rfl rfl rfl rfl rfl rfl) ?_;refine zal (qz L (q:=85) (cs':=[.int .i64 ((ls.length + 1:Nat):Int)]) rfl rfl rfl rfl rfl rfl rfl rfl rfl) ?_;refine zal (qz L (q:=86) (cs':=[.int .i64 5]) rfl rfl rfl rfl rfl rfl rfl rfl rfl) ?_;refine Zy ?_
    refine zhj (zk8 (zfe (znw Since.refl (by rw [zaz, hbad]; rfl) rfl ?_)))
    rw [zaz, hp, how, Nat.add_comm 1]
    exact ⟨rfl, rfl, rfl, rfl, trivial⟩
   | some r =>
    have hrs:r.size ≤ 1000000:=by
     have:=congrArg ByteArray.size (zk0 he)
     rw [ByteArray.size_append] at this
     omega
    obtain ⟨t, e, hrt⟩:∃ t e, rd r = (t, e):=⟨_, _, rfl⟩
    have hrr:=hrd r hrs
    rw [hrt] at hrr
    by_cases h0:e = 0
    ·subst h0
     have hgood:zbq rd 1 (ls ++ [y]) = true:=by rw [zb4, hg]; unfold zik; rw [he]; simp [hrt]; omega
     have hp:=zh0 hgood
     have how:=zh1 hgood
     have hvs:=zn1 (rd:=rd) (ls:=ls) he
     rw [hrt] at hvs
     refine qe ?_;refine Zcj ?_;refine Zb2 ?_;refine Za0 ?_;refine z7 (zq L rfl rfl (zn rfl) rfl rfl rfl (fun u H hH _ _ => zjf he (by omega) hH)) rfl ?_;refine ZbA ?_;refine ZcJ ?_;refine Zr ?_;refine Zq ?_;refine Z4 ?_;refine z7 (q7 L (qt rfl hb3') rfl rfl rfl rfl) rfl ?_;refine Za ?_;refine z7 (zq L rfl rfl (zn rfl) rfl rfl hfn (fun u H hH hle _ => hrr u H hH (hsB.le.trans (hBB.trans hle)))) rfl ?_;refine ZbG ?_;refine ZbI ?_;refine ZA ?_;refine Zdb ?_
     refine ze2 87 _ rfl SlR.shape fun z hz => ?_
     obtain ⟨p, c, rfl⟩:=hz
     refine ZT ?_;refine Zch ?_;refine zcq 42 87 rfl rfl ?_;refine ZeH ?_;refine Zai ?_;refine Zfb ?_;refine zel 45 87 _ rfl SlR.shape fun z hz => ?_;obtain ⟨p', c', rfl⟩:=hz; refine Zes ?_;refine zk ?_;refine qy ?_
     refine zib 87 [] rfl rfl ?_
     refine zt5 Since.refl (by rw [zaz, hgood]; rfl) ?_
     rw [zaz, hp, how, hvs, List.flatMap_append, List.length_append]
     exact ⟨rfl, rfl, rfl, rfl, trivial⟩
    ·have hp:=zi4 (rd:=rd) (ys:=[]) (y:=y) hg (by omega) he (by rw [hrt]; exact h0)
     rw [hrt] at hp
     have hbad:zbq rd 1 (ls ++ [y]) = false:=by rw [zb4, hg]; unfold zik; rw [he]; simp [hrt, h0]
     have how:zir rd 1 (ls ++ [y]) = zhp rd ls:=by rw [zdd hg]; unfold zir; rw [if_pos (by unfold zik; rw [he]; simp [hrt, h0]), List.append_nil]
     refine qe ?_;refine Zcj ?_;refine Zb2 ?_;refine Za0 ?_;refine z7 (zq L rfl rfl (zn rfl) rfl rfl rfl (fun u H hH _ _ => zjf he (by omega) hH)) rfl ?_;refine ZbA ?_;refine ZcJ ?_;refine Zr ?_;refine Zq ?_;refine Z4 ?_;refine z7 (q7 L (qt rfl hb3') rfl rfl rfl rfl) rfl ?_;refine Za ?_;refine z7 (zq L rfl rfl (zn rfl) rfl rfl hfn (fun u H hH hle _ => hrr u H hH (hsB.le.trans (hBB.trans hle)))) rfl ?_;refine ZbG ?_;refine ZbI ?_;refine ZH ?_;refine Zaz ?_;refine Zb ?_;refine zal (qz L (q:=84) (cs':=[.slice none 0 0]) rfl rfl rfl rfl rfl rfl rfl rfl rfl) ?_;refine zal (qz L (q:=85) (cs':=[.int .i64 ((ls.length + 1:Nat):Int)]) rfl rfl rfl rfl rfl rfl rfl rfl rfl) ?_;refine zal (qz L (q:=86) (cs':=[.int .i64 e]) rfl rfl rfl rfl rfl rfl rfl rfl rfl) ?_;refine Zy ?_
     refine zhj (zk8 (zfe (znw Since.refl (by rw [zaz, hbad]; rfl) rfl ?_)))
     rw [zaz, hp, how, Nat.add_comm 1]
     exact ⟨rfl, rfl, rfl, rfl, trivial⟩
 case st =>
  intro l' D' o hstop
  obtain ⟨ks, h1, h2, h3⟩:=zfp rd (zd5 s) [] rfl
  have h1':za5 (fun p => !zbq rd 1 (zhs p)) [] (zda 1 (zb8 (zd5 s))) = zda 1 (zb8 ks):=h1
  rw [h1', zaz] at hstop
  have hbad:zbq rd 1 ks = false:=by simpa using hstop
  have hn1:=zm0 (out:=[]) hbad
  have h2':ze5 rd [] 1 ks = ze5 rd [] 1 (zd5 s):=h2
  rw [h1', zaz, h2']
  rw [h2'] at hn1
  generalize ze5 rd [] 1 (zd5 s) = R at hn1 ⊢
  obtain ⟨R1, R2, R3⟩:=R
  dsimp only at hn1
  subst hn1
  refine zb3 4 84 rfl rfl ?_
  refine zb3 5 85 rfl rfl ?_
  refine zb3 6 86 rfl rfl ?_
  refine zpu L (rs:=[.cell 4 z0w, .cell 5 tyI, .cell 6 tyE]) rfl (fun _ _ h => h) hsB fun O' u H hH hle => ?_
  exact zbb (qp rfl) rfl (zbb (qp rfl) rfl (zbb (qp rfl) rfl (tup3 SlV.nil rfl rfl)))
 case dn =>
  intro l' D' o hgo
  obtain ⟨ks, h1, h2, h3⟩:=zfp rd (zd5 s) [] rfl
  have h1':za5 (fun p => !zbq rd 1 (zhs p)) [] (zda 1 (zb8 (zd5 s))) = zda 1 (zb8 ks):=h1
  rw [h1', zaz] at hgo
  have hg:zbq rd 1 ks = true:=by simpa using hgo
  have hkl:ks = zd5 s:=h3 hg
  have hll:=zg9 s
  have hvl:(zhp rd ks).length ≤ ks.length:=zix
  rw [h1', zaz, ← hkl, zh0 hg, zh1 hg]
  refine qy ?_
  refine zm ?_
  refine ze2 87 _ rfl SlR.shape fun z hz => ?_
  obtain ⟨p, c, rfl⟩:=hz
  refine zj ?_;refine ZaS ?_;refine Zch ?_;refine zcq 46 87 rfl rfl ?_;refine zjk 46 rfl ?_;refine Zch ?_;refine Zd4 ?_;refine Zch ?_;refine Zd4 ?_;refine Zep ?_;refine zd9 51 rfl fun sv H3 hs3 hsv => ?_;obtain ⟨p1, c1, rfl⟩:=zce hsv; refine zal (qz L (q:=84) (cs':=[.slice p1 (zhp rd ks).length c1]) rfl rfl rfl rfl rfl rfl rfl rfl rfl) ?_;refine zal (qz L (q:=85) (cs':=[.int .i64 0]) rfl rfl rfl rfl rfl rfl rfl rfl rfl) ?_;refine zal (qz L (q:=86) (cs':=[.int .i64 0]) rfl rfl rfl rfl rfl rfl rfl rfl rfl) ?_;refine Zy ?_
  refine zb3 4 84 rfl rfl ?_
  refine zb3 5 85 rfl rfl ?_
  refine zb3 6 86 rfl rfl ?_
  refine zpu L (rs:=[.cell 4 z0w, .cell 5 tyI, .cell 6 tyE]) rfl (fun _ _ h => h) (hsB.trans hs3) fun O' u H hH hle => ?_
  exact zbb (qp rfl) rfl (zbb (qp rfl) rfl (zbb (qp rfl) rfl (tup3 (hsv.le hle) rfl rfl)))
theorem zes {φ:Value → Heap → Prop} {a b:Value} (h:Kn.mono (.sat φ)):Kn.mono (.sat (TupS [φ, fun v _ => v = a, fun v _ => v = b])):=TupS.mono fun ψ hψ => by
 simp only [List.mem_cons, List.not_mem_nil, or_false] at hψ
 rcases hψ with rfl | rfl | rfl
 ·exact h
 ·exact fun _ _ _ h _ => h
 ·exact fun _ _ _ h _ => h
theorem zsu {s:ByteArray} (hs:s.size ≤ 1000000) {w:World} {B:Heap} (hB:B.Le (hp w)) (hM:GlobM B) :
  Ret Tryz.prog 16 [.string s] w B (TupS [US (zi5 ptA s).1 true, fun v _ => v = .int .i64 (zi5 ptA s).2.1, fun v _ => v = .int .i64 (zi5 ptA s).2.2]):=by
 have hmo:Kn.mono (.sat (US (zi5 ptA s).1 true)):=SlV.mono
 refine qw Tryz.func16 rfl Tryz.ntmps16 (Nat.le_of_ble_eq_true rfl) hB ?_
 refine Zau ?_;refine Zu ?_;refine Zbj ?_;refine z7 (zai L rfl rfl (zn rfl) rfl rfl rfl (zes SlV.mono) (fun u H hH hle _ => ztc (rd:=ptA) rfl hs hH (fun r hr u2 H2 hH2 hle2 => zem rfl hr hH2 (hM.mono (hle.trans hle2))))) rfl ?_;refine ZfQ ?_;refine ZdF ?_;refine Zbn ?_;refine Zt ?_
 refine qv L (rs:=[.tmp 2, .tmp 3, .tmp 4]) rfl (fun _ _ h => h) Since.refl fun u H hH hle => ?_
 exact fun a h => tup3 h rfl rfl
theorem zmh {s:ByteArray} (hs:s.size ≤ 1000000) {w:World} {B:Heap} (hB:B.Le (hp w)) (hM:GlobM B) :
  Ret Tryz.prog 17 [.string s] w B (TupS [KS tyC (zi5 prC s).1 true, fun v _ => v = .int .i64 (zi5 prC s).2.1, fun v _ => v = .int .i64 (zi5 prC s).2.2]):=by
 have hmo:Kn.mono (.sat (KS tyC (zi5 prC s).1 true)):=SlV.mono
 refine qw Tryz.func17 rfl Tryz.ntmps17 (Nat.le_of_ble_eq_true rfl) hB ?_
 refine Zau ?_;refine Zu ?_;refine Zbj ?_;refine z7 (zai L rfl rfl (zn rfl) rfl rfl rfl (zes SlV.mono) (fun u H hH hle _ => ztd (rd:=prC) rfl hs hH (fun r hr u2 H2 hH2 hle2 => z1b hr hH2 (hM.mono (hle.trans hle2))))) rfl ?_;refine ZfQ ?_;refine ZdF ?_;refine Zbn ?_;refine Zt ?_
 refine qv L (rs:=[.tmp 2, .tmp 3, .tmp 4]) rfl (fun _ _ h => h) Since.refl fun u H hH hle => ?_
 exact fun a h => tup3 h rfl rfl
end Go.V.L11
set_option maxRecDepth 20000
namespace Go.V
open Go.RowKit
section sound
variable {P:Program} {St:Kap → Act → World → Prop} {ops:Array Oper} {ex:Exs} {Fin:Kap → Prop}
theorem zls {Fin:Kap → Prop}:∀ (m i:Nat) {κ:Kap}, i + m ≤ ops.size → z20 P St ops ex Fin ((ops.toList.drop i).take m) κ → ParI P St ops ex Fin (List.range' i m) κ
 | 0, i, κ, hm, h => by
  rw [List.take_zero] at h
  exact h
 | m + 1, i, κ, hm, h => by
  have hi:i < ops.toList.length:=by simp; omega
  rw [List.drop_eq_getElem_cons hi, List.take_succ_cons] at h
  obtain ⟨us, hd, sx, rest⟩:=h
  refine ⟨ops.toList[i], us, ?_, hd, sx, zls m (i + 1) (by omega) rest⟩
  have hi':i < ops.size:=by simpa using hi
  rw [Array.getElem?_eq_getElem hi']
  simp
end sound
section code
variable {P:Program} {F:Fr} {B:Heap} {n:Nat} {O:Boxes} {κ:Kap} {Q:Exit → Act → World → Prop}
end code
end Go.V
set_option maxRecDepth 20000
namespace Go.V
open Go.RowKit
def zq7 (w:World) (B:Heap) (L:Nat → Prop) (pv:Value) (e:Ending) (u:World):Prop:=e = .panicked [{ v:=pv, recovered:=false }] ∧ ∃ H, Grow L w B u H
def Pan (P:Program) (f:FuncId) (args:List Value) (w:World) (B:Heap) (L:Nat → Prop) (pv:Value):Prop:=Calls P f args.toArray w (zq7 w B L pv)
section sound
variable {P:Program} {St:Kap → Act → World → Prop} {ops:Array Oper} {ex:Exs}
end sound
section code
variable {P:Program} {F:Fr} {B:Heap} {n:Nat} {O:Boxes} {κ:Kap} {Q:Exit → Act → World → Prop} {ops:Array Oper}
def QX (P:Program) (F:Fr) (ops:Array Oper) (K:Nat) (Q:Exit → Act → World → Prop):Exit → Act → World → Prop:=fun _ a u => ∀ Kk, wpOpIn (FW F.r) 0 P ops Q K Kk a u
def XP (F:Fr) (B:Heap) (n:Nat) (O:Boxes) (κ:Kap) (pv:Value) (Q:Exit → Act → World → Prop):Prop:=∀ a u, Has F B O n κ a u → Q (.panic [{ v:=pv, recovered:=false }]) a u
theorem zd3 {id:Nat} {l:List Oper} (K:Nat) (hK:Nat.ble (K + 1) l.length = true) (h:VO P F B n O l.toArray κ (l.take K) (QX P F l.toArray K Q)):V P F B n O κ (.region id l.toArray false) Q:=fun a u hh => by
 refine wpIn_region ?_
 have hK:=Nat.le_of_ble_eq_true hK
 have hsplit:List.range l.toArray.size = List.range' 0 K ++ K :: List.range' (K + 1) (l.length - (K + 1)):=by
  rw [List.range_eq_range', show K :: List.range' (K + 1) (l.length - (K + 1)) = List.range' K (l.length - K) by rw [show l.length - K = (l.length - (K + 1)) + 1 by omega]; rfl]
  have:=List.range'_append_1 (s:=0) (m:=K) (n:=l.length - K)
  rw [Nat.zero_add] at this
  rw [this, Nat.add_sub_cancel' (by omega)]
  simp
 rw [hsplit]
 have key:∀ (m i:Nat) {a:Act} {u:World}, i + m = K → Ops P l.toArray (fun a u => QX P F l.toArray K Q .normal a u) ((l.drop i).take m) a u →
   wpOpsIn (FW F.r) 0 P l.toArray Q (List.range' i m ++ K :: List.range' (K + 1) (l.length - (K + 1))) a u:=by
  intro m
  induction m with
  | zero =>
   intro i a u hi ho
   rw [List.take_zero] at ho
   show wpOpsIn (FW F.r) 0 P l.toArray Q (K :: _) a u
   rw [wpOpsIn_cons]
   exact ho _
  | succ m ih =>
   intro i a u hi ho
   have hil:i < l.length:=by omega
   rw [List.drop_eq_getElem_cons hil, List.take_succ_cons] at ho
   have hg:l.toArray[i]? = some l[i]:=by rw [List.getElem?_toArray, List.getElem?_eq_getElem hil]
   rw [List.range'_succ, List.cons_append, wpOpsIn_cons]
   exact After.wpOpIn hg (After.mono (fun a' u' hh' => ih (i + 1) (by omega) hh') ho)
 exact key K 0 (by omega) (by rw [List.drop_zero]; exact h a u hh)
theorem zfu (L:Tabs P) (q:Nat) {K:Nat} {pv:Value} {r:Res} {d:Option Nat} {ty:TypeId} {pos:String} {aft:Array Edge} {g:Option (Nat × Bool)} {f:Nat} {args:Array Operand} {at_:Array TypeId} {cap:List Value} {fo:Operand}
  (ho:ops[K]? = some ⟨d, .call { callee:=.value fo, args:=args, argTypes:=at_ }, ty, pos, aft, g⟩) (hg:gK ops κ ⟨d, .call { callee:=.value fo, args:=args, argTypes:=at_ }, ty, pos, aft, g⟩ = some true)
  (hf:evK κ fo = some (.func (.func f) #[] cap.toArray)) (hfn:L.fn f = some ()) (hq:κ q = some (.own r))
  (h:∀ u H C, H.Le (hp u) → B.Le H → r.P undef H u C → (∀ k, C k → k < u.heap.size ∧ H k = none) → Args κ H args.toList [] (fun vs => Pan P f (vs ++ cap) u H C pv)) (hr:∀ v H u C, r.P v H u C → r.P undef H u C)
  (hX:XP F B n O (upd κ q zdx) pv Q):N F B n O κ (QX P F ops K Q):=by
 rintro a u ⟨H, fp, hh⟩ Kk
 have hlk:∀ t ∈ (⟨d, .call { callee:=.value fo, args:=args, argTypes:=at_ }, ty, pos, aft, g⟩:Oper).looksAt ops, κ t = κ t:=fun _ _ => rfl
 unfold wpOpIn
 rw [ho]
 dsimp only
 rw [if_pos (zah hh hlk hg)]
 obtain ⟨hown, hM⟩:=hh.slot q _ hq
 have e2:=hh.env hlk
 have hfe:a.eval fo = .func (.func f) #[] cap.toArray:=e2.is_ fo _ (by simp [Op.operands, Call.operands]) hf
 have hc:=Args.use e2 args.toList [] (fun x hx => by simp [Op.operands, Call.operands] at hx ⊢; exact .inr hx) (h u H (fp q) hh.sub hh.base (hr _ _ _ _ hown) fun k hk => ⟨(hM k hk).1, (hM k hk).2.1⟩)
 simp only [List.reverse_nil, List.nil_append] at hc
 have hrun:=zc8 (u:=u) L (o:=⟨d, .call { callee:=.value fo, args:=args, argTypes:=at_ }, ty, pos, aft, g⟩) rfl hfe hfn
 refine ⟨fun _ _ => trivial, ?_⟩
 rw [Oper.semAt_eq _ _ _ (fun c hc => by cases hc), hrun]
 refine ⟨fun e => (by cases e), FW.call _ _ (Calls.mono hc fun e' u' hp => ?_)⟩
 obtain ⟨rfl, H', g'⟩:=hp
 exact hX a u' ⟨H', _, hh.use hq g'⟩
theorem zfk {K:Act → World → Prop} {pv:Value} (h:XP F B n O κ pv Q):XP F B n O κ pv (Exit.then K Q):=h
theorem zd8 {id:Nat} {pv:Value} (h:XP F B n O κ pv Q):XP F B n O κ pv (Exit.inBlock id Q):=h
theorem zra {fn:Func} {B0:Heap} {pv:Value} (hs:Since F B0 B) (hd:F.ds = []:=by rfl):XP F B n O κ pv (bodyPostM Fence.wide 0 P fn (zq7 F.w0 B0 F.L pv)):=fun a u hh => by
 obtain ⟨H, fp, hH⟩:=hh
 have h0:=hH.defers
 rw [hd] at h0
 show LeavesInM _ _ _ _ _ _ a.defers _ _
 rw [h0]
 exact ⟨rfl, H, ⟨hH.keep, hH.sub, hs.le.trans hH.base, fun k hk hl => (hH.fresh k hk hl).trans (hs.fresh k hk hl)⟩⟩
theorem zgc {f:FuncId} {fn:Func} {c:Code} {args:List Value} {w:World} {B:Heap} {pv:Value} {C:Nat → Prop} (gs:Nat) (r:GR) (hf:P.funcs[f]? = some fn) (hb:fn.body = some c) (hn:fn.ntmps = n)
  (hs:args.length ≤ n) (hB:B.Le (hp w)) (hr:r.P B w C) (hC:∀ k, C k → k < w.heap.size ∧ B k = none) (h:V P ⟨w, none, [], C⟩ B n [] (upd (zh7 0 args) gs (.own r.res)) c (bodyPostM Fence.wide 0 P fn (zq7 w B C pv))):Pan P f args w B C pv:=by
 refine zez hf hb (h _ w ?_)
 subst hn
 have h0:=zex (B:=B) C (fun k hk => (hC k hk).1) hs hB (fun _ => noL)
 exact ⟨B, _, h0.putR (d:=gs) (r:=r.res) rfl rfl (fun _ _ => rfl) hr (fun k hk => ⟨(hC k hk).1, (hC k hk).2, .inr hk, fun y hy => by cases hy⟩) fun t r' _ ht => by
  obtain ⟨v, hv, _⟩:=zco _ _ _ _ ht
  cases hv⟩
end code
end Go.V
set_option maxRecDepth 20000
namespace Go.V
open Go.RowKit
section
variable {P:Program} {F:Fr} {B:Heap} {O:Boxes} {n:Nat} {ops:Array Oper} {κ:Kap} {d:Nat} {ty:TypeId} {pos:String} {aft:Array Edge} {g:Option (Nat × Bool)} {Q:Exit → Act → World → Prop} {a:Act} {u:World} {os:List Oper} {t xt:TypeId} {x:Operand} {v:Value}
theorem zo3 (hn:Nat.blt d n = true) (hg:gK ops κ ⟨some d, .makeInterface t x, ty, pos, aft, g⟩ = some true) (hx:evK κ x = some v) (hc:P.concrete t = true) :
  StepOK P F B n ops O κ ⟨some d, .makeInterface t x, ty, pos, aft, g⟩ d (.is (.iface t v)) :=
 zar rfl (by simpa using hn) hg trivial fun a u H fp e => ⟨_, by
  have h1:a.eval x = v:=e.is_ x _ (by simp [Op.operands]) hx
  have h2:=run_makeInterface (w:=u) t v hc
  simp only [execOp, h1, Sem.run_bind, Sem.run_pure, h2, Result.andThen_ok], rfl⟩
theorem ztj (hn:Nat.blt d n = true) (hg:gK ops κ ⟨some d, .typeAssert x xt t true, ty, pos, aft, g⟩ = some true) (hx:evK κ x = some (.iface t v)) (hc:P.concrete t = true) :
  StepOK P F B n ops O κ ⟨some d, .typeAssert x xt t true, ty, pos, aft, g⟩ d (.is (.tuple #[v, .bool true])) :=
 zar rfl (by simpa using hn) hg trivial fun a u H fp e => ⟨_, by
  have h1:a.eval x = .iface t v:=e.is_ x _ (by simp [Op.operands]) hx
  have h2:(Instr.typeAssert (.iface t v) xt t true).run P u = .ok (.tuple #[v, .bool true]) u:=by
   unfold Program.concrete at hc
   cases hd:P.underlying t with
   | none => simp [hd] at hc
   | some dd => cases dd <;> first | (simp [hd] at hc; done) | simp [Instr.typeAssert, run_underlying hd]
  simp only [execOp, h1, Sem.run_bind, Sem.run_pure, h2, Result.andThen_ok], rfl⟩
theorem zqw {K:Nat} {dd:Option Nat} (ho:ops[K]? = some ⟨dd, .panic x, ty, pos, aft, g⟩) (hg:gK ops κ ⟨dd, .panic x, ty, pos, aft, g⟩ = some true) (hx:evK κ x = some (.iface t v)) (hX:XP F B n O κ (.iface t v) Q):N F B n O κ (QX P F ops K Q):=by
 rintro a u ⟨H, fp, hh⟩ Kk
 have hlk:∀ s ∈ (⟨dd, .panic x, ty, pos, aft, g⟩:Oper).looksAt ops, κ s = κ s:=fun _ _ => rfl
 unfold wpOpIn
 rw [ho]
 dsimp only
 rw [if_pos (zah hh hlk hg)]
 have e2:=hh.env hlk
 have h1:a.eval x = .iface t v:=e2.is_ x _ (by simp [Op.operands]) hx
 have hrun:(execOp a.eval ⟨dd, .panic x, ty, pos, aft, g⟩).run P u = .halt (.panic (.iface t v)) u:=by
  simp only [execOp, h1, Sem.run_bind, run_panic_iface]
  rfl
 refine ⟨fun _ _ => trivial, ?_⟩
 rw [Oper.semAt_eq _ _ _ (fun c hc => by cases hc), hrun]
 exact hX a u ⟨H, fp, hh⟩
end
end Go.V
